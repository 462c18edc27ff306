/- parse, with its deferred recover, does what the parser's tree does, as long as that comes back. -/
import Derived.Test.YtphgedfhcncobaaGreatDoorAbsG
import Derived.Test.YtphgedfhcncobaaGreatDoorAbsO
import Derived.Test.YtphgedfhcncobaaGreatDoorProg
import Derived.Recover
import Derived.Tactics
import Derived.Tactics2
set_option linter.constructorNameAsVariable false
set_option linter.unusedSectionVars false
set_option linter.unusedVariables false
set_option linter.unusedSimpArgs false
namespace Go.Proofs.YtphgedfhcncobaaGreatDoor.A
open Go Go.Proofs
theorem NR(p q r:Value)(w:World):CallsD Tryz.prog 40 #[p,q,r] .returning w fun e u' w'=>e= .returned (.tuple #[])∧u'= .returning∧w'=w:=by
 refine callsD_of_wpS Tryz.func40 rfl fun c₀ cs hu=>?_
 apply wpS_seq
 apply wpS_region
 simp [wpOpsS,go_sem,recoverD,hu,Tryz.ntmps40,Exit.thenS]
 apply wpS_seq
 apply wpS_region
 simp [wpOpsS,go_sem,recoverD,hu,Tryz.ntmps40,Exit.thenS,Act.eval,Array.replicate]
 refine wpS_cond (t:=false) (by simp [Act.eval,Array.replicate]) ?_
 simp only [Bool.false_eq_true,if_false]
 refine wpS_of_wp (wp_skip ?_)
 cases c₀
 simp_all [bodyPostS,results,Tryz.results40]
section
variable [bg]
theorem dQ.shift{P:Program}{W W':Nat→Prop}{dp:Nat}{w w':World}{σ:Sp}{k:Key}{cs:List AV}{vs:Array Value}{T:TypeId}(h:dQ (n5 P W dp) w σ k cs vs T)
  (hh:∀ b,(∃ l,σ.ow b=some l)∨σ.I b→w'.heap[b]? =w.heap[b]?) (hW:∀ b,(∃ l,σ.ow b=some l)→W b→W' b) (hnw:∀ c∈cs,∀ g t x,c≠.w g t x):dQ (n5 P W' dp) w' σ k cs vs T:=by
 have hI:∀ b,σ.I b→w'.heap[b]? =w.heap[b]? :=fun b hb=>hh b (.inr hb)
 refine ⟨(hh _ (.inl ⟨_,h.ow⟩)).trans h.hh,h.size,h.ow,fun hm=>hW _ ⟨_,h.ow⟩ (h.wr hm),h.one,fun off c hc=>?_⟩
 have hcell:=h.cell off c hc
 have hnw':=hnw c (List.mem_of_getElem? hc)
 cases c with
 | o t es=>
  rcases hcell with h1 | ⟨g,cap,cs',hv,hr⟩
  ·exact .inl h1
  ·exact .inr ⟨g,cap,cs',hv,hr.ow,fun x=>hW _ ⟨_,hr.ow⟩ (hr.wr x),(hh _ (.inl ⟨_,hr.ow⟩)).trans hr.hh,hr.pos,hr.nc,hr.ecap,hr.max,hr.size,hr.pure,hr.one,fun j e m c he hc=>(hr.cell j e m c he hc).mono (fun _ h=>h) hI (fun _ _=>rfl),hr.base⟩
 | w g t x=>exact absurd rfl (hnw' g t x)
 | _=>exact VR.mono hcell (fun _ h=>h) hI (fun _ _=>rfl)
theorem oP.shift{P:Program}{W W':Nat→Prop}{dp:Nat}{hp:HP}{w w':World}{σ:Sp}(h:oP P W dp hp w σ)
  (hh:∀ b,(∃ l,σ.ow b=some l)∨σ.I b→w'.heap[b]? =w.heap[b]?) (hW:∀ b,(∃ l,σ.ow b=some l)→W b→W' b) (hs:w.heap.size≤w'.heap.size):oP P W' dp hp w' σ:=
 ⟨fun k cs hk hd=>by
  obtain ⟨vs,T,hB⟩:=h.bx k cs hk hd
  exact ⟨vs,T,hB.shift hh hW fun c hc=>je ((h.deep k cs hk (by omega)).2 c hc)⟩,
  h.deep,fun b l hb=>Nat.lt_of_lt_of_le (h.own b l hb) hs,fun b hb=>⟨Nat.lt_of_lt_of_le (h.bc b hb).1 hs,(h.bc b hb).2⟩⟩
end
section
variable {P:Program}{ops rest:Array Oper}{a:Act}{w w':World}{o:Oper}{l:List Oper}{d:Nat}{cv:Value}{Q:Exit→Act→World→Prop}
theorem EA(hg:o.guard=none)(hd:o.dst=some d)(hr:(Go.execOp a.eval o).run P w= .ok (.value cv) w')(h:wpList P ops Q l (a.put (some d) cv) w'):wpList P ops Q (o::l) a w:=
 wpList_plain hg fun K hK=>by
  unfold Oper.wp
  rw [hr]
  exact hK _ _ (by rw [hd];exact h)
theorem J3(hg:o.guard=none)(hd:o.dst=none)(hr:(Go.execOp a.eval o).run P w= .ok .skip w')(h:wpList P ops Q l a w'):wpList P ops Q (o::l) a w:=
 wpList_plain hg fun K hK=>by
  unfold Oper.wp
  rw [hr]
  exact hK _ _ (by rw [hd];exact h)
theorem Rh{e:Deferred}(hg:o.guard=none)(hd:o.dst=none)(hr:(Go.execOp a.eval o).run P w= .ok (.defer e) w')(h:wpList P ops Q l {a with defers:=e::a.defers} w'):wpList P ops Q (o::l) a w:=
 wpList_plain hg fun K hK=>by
  unfold Oper.wp
  rw [hr]
  exact hK _ _ (by rw [hd];exact h)
theorem Ri{f:FuncId}{args:Array Value}{R:Ending→World→Prop}(hg:o.guard=none)(hd:o.dst=some d)(hr:(Go.execOp a.eval o).run P w= .ok (.enter f args) w)(hc:Calls P f args w R)
  (h:∀ e w',R e w'→∃ v,e= .returned v∧wpList P ops Q l (a.put (some d) v) w'):wpList P ops Q (o::l) a w:=
 wpList_plain hg fun K hK=>by
  unfold Oper.wp
  rw [hr,Oper.upon_enter]
  refine hc.mono fun e w' he=>?_
  obtain ⟨v,rfl,h1⟩:=h e w' he
  exact hK _ _ (by rw [hd];exact h1)
end
section
variable [bg]{P:Program}{a:Act}{w:World}{o:Oper}
theorem DD{t:TypeId}{v:Value}{m:Nat}(hop:o.op= .alloc t)(hz:zeroOf P t=some v)(hm:w.heap.size=m):(Go.execOp a.eval o).run P w= .ok (.value (.pointer (some ⟨m,0,none⟩))) (w.alloc (.cells v.cells t)):=by
 subst hm
 unfold Go.execOp;simp [hop,Instr.alloc,u6 hz,newVar,newRow]
theorem NT{fn:Fn}{caps:Array Operand}{vs:Array Value}(hop:o.op= .makeFunc fn #[] caps)(hv:caps.map a.eval=vs):(Go.execOp a.eval o).run P w= .ok (.value (.func fn #[] vs)) w:=by
 subst hv
 unfold Go.execOp;simp [hop,Instr.makeFunc]
theorem NU{x:Operand}{f:FuncId}{vs:Array Value}(hop:o.op= .defer {callee:=.value x,args:=#[],argTypes:=#[]})(hv:a.eval x= .func (.func f) #[] vs):(Go.execOp a.eval o).run P w= .ok (.defer {target:=.fn (.func f) vs,args:=#[]}) w:=by
 unfold Go.execOp;simp [hop,hv,resolve,Deferred.ofValue]
theorem NV{y:Operand}{v:Value}(hop:o.op= .move y)(hv:a.eval y=v):(Go.execOp a.eval o).run P w= .ok (.value v) w:=by
 unfold Go.execOp;simp [hop,hv]
theorem NW{f:FuncId}{c:Call}{vs:Array Value}(hb:dE P f)(hop:o.op= .call c)(hc:c.callee= .value (.func f))(hv:c.args.map a.eval=vs):(Go.execOp a.eval o).run P w= .ok (.enter f vs) w:=by
 subst hv
 have hev:a.eval (.func f)= .func (.func f) #[] #[]:=rfl
 have hcf:=cp hb (List.map a.eval c.args.toList).toArray w
 have ha:(List.map a.eval c.args.toList).toArray=c.args.map a.eval:=by apply Array.ext';simp
 rw [ha] at hcf
 unfold Go.execOp
 simp [hop,resolve,hc,hev,Deferred.ofValue,invoke]
 exact hcf
theorem DE{t T:TypeId}{x y:Operand}{g:Nat}{vs us:Array Value}{v:Value}{n:Nat}(hop:o.op= .store t x y)(hx:a.eval x= .pointer (some ⟨g,0,none⟩))(hy:a.eval y=v)(hh:w.heap[g]? =some (.cells vs T (0,0)))(hs:sized P t n=true)(hn:v.cells.size=n)(hle:0+n≤vs.size)(h1:∀ u∈v.cells.toList,u.oneCell'=true)
  (hu:iw vs 0 v.cells.toList=us):(Go.execOp a.eval o).run P w= .ok .skip (w.setRow g us):=by
 subst hu
 have:=lV (C:=⟨P,fun _=>True,⟨0,false⟩,0⟩) (w:=w) (t:=t) (off:=0) hh hs hn hle h1
 unfold Go.execOp
 simp [hop,hx,hy,this]
end
section
variable [bg]
set_option maxRecDepth 20000 in
theorem NX{g:FuncId}{n:Int}(h:uH 41 2 [.u,.i .i64 g]=some (.i .i64 n)):PH Tryz.prog 17 g n:=by
 obtain ⟨h1,h2⟩:=tT h
 obtain rfl:n=2:=by simpa using h1
 have hg:(g:Int)=(41:Nat):=by simpa using h2
 obtain rfl:g=41:=Int.ofNat.inj hg
 rintro dp ys hp cs hp' hys hcs ⟨hpx,hb,hcall⟩
 refine ⟨by simpa [AV.pure,AV.bB] using hpx,⟨Tryz.f17,Tryz.func17,by kernel_rfl,by kernel_rfl⟩,fun W w σ cargs hW hH hsz hargs=>?_⟩
 obtain ⟨y,rfl⟩:∃ y,ys=[y]:=by
  match ys,hys with
  | [y],_=>exact ⟨y,rfl⟩
 obtain ⟨v0,rfl⟩:∃ v,cargs=#[v]:=by
  obtain ⟨l⟩:=cargs
  match l,hsz with
  | [v],_=>exact ⟨v,rfl⟩
 have ha:=hargs 0 y rfl
 refine calls_of_wp_defers Tryz.func17 rfl ?_
 have ha0:({tmps:=#[v0]++Array.replicate (Tryz.f17.ntmps - #[v0].size) undef,defers:=[]} : Act)={tmps:=#[v0,undef,undef,undef,undef,undef,undef,undef],defers:=[]}:=rfl
 rw [ha0]
 clear ha0
 obtain ⟨w1,hw1⟩:∃ w1,w1=((w.alloc (.cells #[.slice none 0 0,.slice none 0 0] 25)).alloc (.cells #[.int .i64 0] 3)).alloc (.cells #[.int .i64 0] 27):=⟨_,rfl⟩
 refine wp_seq (wp_region_lit ?_)
 refine EA rfl rfl (DD (v:=.agg #[.slice none 0 0,.slice none 0 0]) rfl (by kernel_rfl) rfl) ?_
 refine EA rfl rfl (DD (v:=.int .i64 0) (m:=w.heap.size+1) rfl (by kernel_rfl) (by simp)) ?_
 refine EA rfl rfl (DD (v:=.int .i64 0) (m:=w.heap.size+2) rfl (by kernel_rfl) (by simp)) (wpList_nil ?_)
 have hw1':(((w.alloc (.cells (Value.agg #[.slice none 0 0,.slice none 0 0]).cells 25)).alloc (.cells (Value.int .i64 0).cells 3)).alloc (.cells (Value.int .i64 0).cells 27))=w1:=hw1.symm
 rw [hw1']
 clear hw1'
 refine wp_seq (wp_region_lit ?_)
 refine EA rfl rfl (NT (vs:=#[.pointer (some ⟨w.heap.size,0,none⟩),.pointer (some ⟨w.heap.size+1,0,none⟩),.pointer (some ⟨w.heap.size+2,0,none⟩)]) rfl (by simp [Act.eval,Act.put])) ?_
 refine Rh rfl rfl (NU (f:=40) (vs:=#[.pointer (some ⟨w.heap.size,0,none⟩),.pointer (some ⟨w.heap.size+1,0,none⟩),.pointer (some ⟨w.heap.size+2,0,none⟩)]) rfl (by simp [Act.eval,Act.put])) (wpList_nil ?_)
 have hs1:w1.heap.size=w.heap.size+3:=by rw [hw1];simp
 have hold:∀ b,b<w.heap.size→w1.heap[b]? =w.heap[b]? :=fun b hb=>by
  rw [hw1,heap_alloc_old _ _ (by simp;omega),heap_alloc_old _ _ (by simp;omega),heap_alloc_old _ _ hb]
 have k0:w1.heap[w.heap.size]? =some (.cells #[.slice none 0 0,.slice none 0 0] 25 (0,0)):=by
  rw [hw1,heap_alloc_old _ _ (by simp;omega),heap_alloc_old _ _ (by simp),heap_alloc_new]
 have k1:w1.heap[w.heap.size+1]? =some (.cells #[.int .i64 0] 3 (0,0)):=by
  rw [hw1,heap_alloc_old _ _ (by simp)]
  have:=heap_alloc_new (w.alloc (.cells #[.slice none 0 0,.slice none 0 0] 25)) (.cells #[.int .i64 0] 3)
  simpa using this
 have k2:w1.heap[w.heap.size+2]? =some (.cells #[.int .i64 0] 27 (0,0)):=by
  rw [hw1]
  have:=heap_alloc_new ((w.alloc (.cells #[.slice none 0 0,.slice none 0 0] 25)).alloc (.cells #[.int .i64 0] 3)) (.cells #[.int .i64 0] 27)
  simpa using this
 have hio:w1.os=w.os∧w1.output=w.output:=by rw [hw1];exact ⟨rfl,rfl⟩
 clear hw1
 have hown:∀ b,(∃ l,σ.ow b=some l)∨σ.I b→b<w.heap.size:=fun b hb=>by
  rcases hb with ⟨l,hb⟩ | hb
  ·exact hH.own b l hb
  ·exact (hH.bc b hb).1
 have hnone:∀ b,w.heap.size≤b→σ.ow b=none:=fun b hb=>by
  cases h:σ.ow b with
  | none=>rfl
  | some l=>have:=hH.own b l h;omega
 obtain ⟨W',hW'⟩:∃ W':Nat→Prop,W'=fun b=>W b∧(b<w.heap.size∨w.heap.size+3≤b):=⟨_,rfl⟩
 have hWW:∀ b,W' b→W b:=fun b hb=>by rw [hW'] at hb;exact hb.1
 have hnW:∀ b,w.heap.size≤b→b<w.heap.size+3→¬W' b:=fun b h1 h2 hb=>by rw [hW'] at hb;have:=hb.2;omega
 have hW2:∀ b,w1.heap.size≤b→W' b∧bg.n0≤b:=fun b hb=>by rw [hW'];exact ⟨⟨(hW b (by omega)).1,.inr (by omega)⟩,(hW b (by omega)).2⟩
 have hW3:∀ b,b<w.heap.size→W b→W' b:=fun b hb h=>by rw [hW'];exact ⟨h,.inl hb⟩
 clear hW'
 refine wp_seq (wp_region_lit ?_)
 refine EA rfl rfl (NV (v:=v0) rfl rfl) ?_
 refine Ri rfl rfl (NW hb rfl rfl (vs:=#[v0]) (by simp [Act.eval,Act.put])) (hcall W' w1 σ #[v0] hW2 (hH.shift (fun b hb=>hold b (hown b hb)) (fun b hb h=>hW3 b (hown b (.inl hb)) h) (by omega)) rfl fun i z hi=>?_) ?_
 ·match i,hi with
  | 0,hi=>
   obtain rfl:y=z:=by simpa using hi
   exact ha.mono (fun _ h=>h) (fun b hb=>hold b (hown b (.inr hb))) (fun _ _=>rfl)
  | i+1,hi=>simp at hi
 rintro e w' ⟨v,σ',rfl,hv,hst,hH'⟩
 refine ⟨v,rfl,?_⟩
 obtain ⟨vs,rfl,hl,hone,hc⟩:=hv.zY
 have hvs:∃ s1 s2,vs=#[s1,s2]:=by
  obtain ⟨l⟩:=vs
  match l,(show l.length=2 by simp at hl;omega) with
  | [a,b],_=>exact ⟨a,b,rfl⟩
 obtain ⟨s1,s2,rfl⟩:=hvs
 have hsz':w.heap.size+3≤w'.heap.size:=by rw [←hs1];exact hst.size
 have j0:w'.heap[w.heap.size]? =some (.cells #[.slice none 0 0,.slice none 0 0] 25 (0,0)):=(hst.a7 _ (by omega) (hnW _ (by omega) (by omega))).trans k0
 have j1:w'.heap[w.heap.size+1]? =some (.cells #[.int .i64 0] 3 (0,0)):=(hst.a7 _ (by omega) (hnW _ (by omega) (by omega))).trans k1
 have j2:w'.heap[w.heap.size+2]? =some (.cells #[.int .i64 0] 27 (0,0)):=(hst.a7 _ (by omega) (hnW _ (by omega) (by omega))).trans k2
 have hcells:∀ u∈(Value.agg #[s1,s2]).cells.toList,u.oneCell'=true:=fun u hu=>by
  obtain ⟨m,hm⟩:=List.mem_iff_getElem?.1 hu
  have hm2:m<cs.length:=by
   have h3:m<2:=(List.getElem?_eq_some_iff.1 hm).1
   omega
  have h4:=hc m cs[m] (List.getElem?_eq_getElem hm2)
  have h5:(#[s1,s2]:Array Value).getD m undef=u:=by
   have h6:([s1,s2]:List Value)[m]? =some u:=hm
   match m,h6 with
   | 0,h6=>simpa using h6
   | 1,h6=>simpa using h6
  rw [h5] at h4
  exact h4.rF (hone _ (List.getElem_mem hm2))
 have n1:w.heap.size+1≠w.heap.size:=by omega
 have n2:w.heap.size+2≠w.heap.size:=by omega
 have n3:w.heap.size+2≠w.heap.size+1:=by omega
 have hi0:∀ u∈(Value.int .i64 0).cells.toList,u.oneCell'=true:=fun u hu=>by
  have:u=Value.int .i64 0:=by simpa [Value.cells] using hu
  subst this
  rfl
 obtain ⟨w2,hw2⟩:∃ w2,w2=((w'.setRow w.heap.size #[s1,s2]).setRow (w.heap.size+1) #[Value.int .i64 0]).setRow (w.heap.size+2) #[Value.int .i64 0]:=⟨_,rfl⟩
 have e0:w2.heap[w.heap.size]? =some (.cells #[s1,s2] 25 (0,0)):=by
  rw [hw2,setRow_other _ _ _ _ n2.symm,setRow_other _ _ _ _ n1.symm]
  exact setRow_heap w' _ _ _ _ _ j0
 have e1:w2.heap[w.heap.size+1]? =some (.cells #[Value.int .i64 0] 3 (0,0)):=by
  rw [hw2,setRow_other _ _ _ _ n3.symm]
  exact setRow_heap _ _ _ _ _ _ ((setRow_other _ _ _ _ n1).trans j1)
 have e2:w2.heap[w.heap.size+2]? =some (.cells #[Value.int .i64 0] 27 (0,0)):=by
  rw [hw2]
  exact setRow_heap _ _ _ _ _ _ ((setRow_other _ _ _ _ n3).trans ((setRow_other _ _ _ _ n2).trans j2))
 have eo:∀ b,¬(w.heap.size≤b∧b<w.heap.size+3)→w2.heap[b]? =w'.heap[b]? :=fun b hb=>by
  rw [hw2,setRow_other _ _ _ _ (by omega),setRow_other _ _ _ _ (by omega),setRow_other _ _ _ _ (by omega)]
 have es:w2.heap.size=w'.heap.size:=by rw [hw2];simp
 have eio:w2.os=w'.os∧w2.output=w'.output:=by rw [hw2];exact ⟨rfl,rfl⟩
 refine J3 rfl rfl (DE (g:=w.heap.size) (v:=.agg #[s1,s2]) (us:=#[s1,s2]) rfl (by simp [Act.eval,Act.put]) (by simp [Act.eval,Act.put]) j0 (n:=2) (by kernel_rfl) rfl (by simp) hcells (by simp [iw,Value.cells])) ?_
 refine J3 rfl rfl (DE (g:=w.heap.size+1) (v:=.int .i64 0) (us:=#[Value.int .i64 0]) rfl (by simp [Act.eval,Act.put]) rfl ((setRow_other _ _ _ _ n1).trans j1) (n:=1) (by kernel_rfl) rfl (by simp) hi0 (by simp [iw,Value.cells])) ?_
 refine J3 rfl rfl (DE (g:=w.heap.size+2) (v:=.int .i64 0) (us:=#[Value.int .i64 0]) rfl (by simp [Act.eval,Act.put]) rfl ((setRow_other _ _ _ _ n3).trans ((setRow_other _ _ _ _ n2).trans j2)) (n:=1) (by kernel_rfl) rfl (by simp) hi0 (by simp [iw,Value.cells])) (wpList_nil ?_)
 rw [←hw2]
 clear hw2
 refine wp_ret ?_
 show Leaves _ _ _ _ _ _ _
 refine leaves_cons (f:=40) (args:=#[.pointer (some ⟨w.heap.size,0,none⟩),.pointer (some ⟨w.heap.size+1,0,none⟩),.pointer (some ⟨w.heap.size+2,0,none⟩)]) (by simp) (by simp [go_sem]) ?_
 refine (NR _ _ _ w2).mono ?_
 rintro e u' w'' ⟨rfl,rfl,rfl⟩
 refine ⟨.tuple #[.agg #[s1,s2],.int .i64 0,.int .i64 0],?_,_,σ',rfl,?_,?_,?_⟩
 ·have l0:(loadVar 25 ⟨w.heap.size,0,none⟩).run Tryz.prog w''= .ok (.agg #[s1,s2]) w'':=by
   have hl:=run_loadCells (P:=Tryz.prog) w'' ⟨w.heap.size,0,none⟩ 2 (fun j=>(#[s1,s2]:Array Value).getD j undef) (fun j hj=>by
    rw [add_lit,jc e0]
    simp [hj])
   have hi:(Tryz.prog.info? 25).isSome=true:=by kernel_rfl
   have hm:Tryz.prog.cellsOf 25=2:=by kernel_rfl
   have hag:nv Tryz.prog 25=some true:=by kernel_rfl
   unfold loadVar
   simp only [Sem.run_bind,fC hag w'',Result.andThen_ok,if_true,dK hi,hm,hl,Sem.run_pure]
   rfl
  have l1:(loadVar 3 ⟨w.heap.size+1,0,none⟩).run Tryz.prog w''= .ok (.int .i64 0) w'':=by
   have hag:nv Tryz.prog 3=some false:=by kernel_rfl
   have hc:w''.cell? ⟨w.heap.size+1,0,none⟩=some (.int .i64 0):=by rw [jc e1];rfl
   unfold loadVar;simp [fC hag w'',hc]
  have l2:(loadVar 27 ⟨w.heap.size+2,0,none⟩).run Tryz.prog w''= .ok (.int .i64 0) w'':=by
   have hag:nv Tryz.prog 27=some false:=by kernel_rfl
   have hc:w''.cell? ⟨w.heap.size+2,0,none⟩=some (.int .i64 0):=by rw [jc e2];rfl
   unfold loadVar;simp [fC hag w'',hc]
  simp [results,Tryz.results17,Act.put,asAddr,l0,l1,l2]
 ·refine .tp _ _ rfl fun m c hm=>?_
  match m,hm with
  | 0,hm=>
   obtain rfl:=Option.some.inj hm
   exact hv.mono (fun _ h=>h) (fun b hb=>eo b fun h=>by
    rcases hst.dn b hb with h1 | h1
    ·have:=(hH.bc b h1).1;omega
    ·exact hnW b h.1 h.2 h1) (fun _ _=>rfl)
  | 1,hm=>obtain rfl:=Option.some.inj hm;exact .i _ _
  | 2,hm=>obtain rfl:=Option.some.inj hm;exact .i _ _
  | m+3,hm=>simp at hm
 ·exact ⟨by omega,fun b hb hW=>by rw [eo b (by omega),hst.a7 b (by omega) (fun h=>hW (hWW b h)),hold b hb],hst.up,fun b hb=>by
    have:=(hH.bc b hb).1
    rw [eo b (by omega),hst.bc b hb,hold b this],fun b hb=>(hst.dn b hb).imp id (hWW b),hst.kap,fun b hb hW=>hst.ow b (by omega) (fun h=>hW (hWW b h)),(eio.1.trans hst.io.1).trans hio.1,(eio.2.trans hst.io.2).trans hio.2⟩
 ·refine hH'.shift (fun b hb=>eo b fun h=>?_) (fun b _ h=>hWW b h) (by omega)
  rcases hb with ⟨l,hb⟩ | hb
  ·rw [hst.ow b (by omega) (hnW b h.1 h.2),hnone b h.1] at hb
   cases hb
  ·rcases hst.dn b hb with h1 | h1
   ·have:=(hH.bc b h1).1;omega
   ·exact hnW b h.1 h.2 h1
end
end Go.Proofs.YtphgedfhcncobaaGreatDoor.A
