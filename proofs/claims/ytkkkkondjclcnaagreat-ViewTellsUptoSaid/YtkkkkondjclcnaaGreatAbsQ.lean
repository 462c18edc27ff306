/- Code and functions, first part: functions. -/
import Derived.Test.YtkkkkondjclcnaaGreatAbsK
import Derived.RangeFuncLeaves
import Derived.RangeFuncOwn
import Derived.RangeFuncCalls
import Derived.OrdersIn
import Derived.TacticsIn
set_option linter.all false
namespace Go.Proofs.YtkkkkondjclcnaaGreat.A
open Go
variable [bJ]
def Er(o:Oper):Bool:=
 match o.op with
 | .defer _=>false
 | _=>true
def fP:Code→AC→Bool
 | .skip,.sk=>true
 | .label _,.sk=>true
 | .region _ ops false,.rg _ _ _ _=>ops.all Er
 | .region _ ops true,.dg _ _ _ _ _=>ops.all Er
 | .seq a b,.sq x y=>fP a x&&fP b y
 | .cond _ a b,.ite _ x y=>fP a x&&fP b y
 | .block _ b,.bl _ x=>fP b x
 | .exit _,.ex _=>true
 | .ret,.rt=>true
 | c,.kp _ _ x=>fP c x
 | _,.bad=>true
 | _,_=>false
def cL(P:Program)(nt:Nat):Code→AC→Bool
 | .skip,.sk=>true
 | .label _,.sk=>true
 | .region _ ops false,.rg _ gs _ _=>zu P nt ops ops.toList gs
 | .region _ ops true,.dg _ mks gs _ _=>HY P nt ops mks gs
 | .seq a b,.sq x y=>cL P nt a x&&cL P nt b y
 | .cond c a b,.ite c' x y=>bK c c'&&cL P nt a x&&cL P nt b y
 | .block id b,.bl id' x=>id==id'&&cL P nt b x
 | .loop b,.lp x=>cL P nt b x
 | .exit id,.ex id'=>id==id'
 | .ret,.rt=>true
 | c,.kp _ _ x=>cL P nt c x
 | _,.bad=>true
 | .rangeFunc g ps y b,.ru g' x y' b'=>bK g g'&&(ps==#[x]&&(decide (x<nt)&&(cL P nt y y'&&(fP y y'&&(cL P nt b b'&&fP b b')))))
 | _,_=>false
def sG:aI→Exit
 | .nrm=>.normal
 | .ex id=>.exit id
 | .ret=>.ret
def bh(P:Program)(f:FuncId)(fn':bE):Bool:=
 match P.funcs[f]? with
 | some fn=>match fn.body with
  | some c=>!(fn.name== "runtime.NumGoroutine")&&cL P fn.ntmps c fn'.code&&eO P fn.results.toList fn'.res
  | none=>false
 | none=>false
def xx(P:Program)(G:qv):Prop:=∀ f fn',G f=some fn'→bh P f fn'=true
theorem OL{P:Program}{nt:Nat}{c:Code}(h:cL P nt c .sk=true):c= .skip∨∃ l,c= .label l:=by
 cases c with
 | region id ops dr=>grind [cL]
 | skip=>exact .inl rfl
 | label l=>grind
 | _=>simp [cL] at h
theorem OM{P:Program}{nt:Nat}{c:Code}{pre:List uD}{gs:List cN}{kf kb:List Nat}(h:cL P nt c (.rg pre gs kf kb)=true):∃ id ops,c= .region id ops false∧zu P nt ops ops.toList gs=true:=by
 cases c with
 | region id ops dr=>cases dr<;>simp [cL] at h;grind
 | _=>simp [cL] at h
theorem ON{P:Program}{nt:Nat}{c:Code}{pre:List uD}{mks:List Nat}{gs:List cp}{kf kb:List Nat}(h:cL P nt c (.dg pre mks gs kf kb)=true):∃ id ops,c= .region id ops true∧HY P nt ops mks gs=true:=by
 cases c with
 | region id ops dr=>
  cases dr with
  | false=>simp [cL] at h
  | true=>grind [cL]
 | _=>simp [cL] at h
theorem OO{P:Program}{nt:Nat}{c:Code}{x y:AC}(h:cL P nt c (.sq x y)=true):∃ c1 c2,c= .seq c1 c2∧cL P nt c1 x=true∧cL P nt c2 y=true:=by
 cases c with
 | region id ops dr=>grind [cL]
 | seq c1 c2=>grind [cL]
 | _=>simp [cL] at h
theorem M1{P:Program}{nt:Nat}{c:Code}{z:ba}{x y:AC}(h:cL P nt c (.ite z x y)=true):∃ cd c1 c2,c= .cond cd c1 c2∧(bK cd z=true∧cL P nt c1 x=true)∧cL P nt c2 y=true:=by
 cases c with
 | region id ops dr=>grind [cL]
 | cond cd c1 c2=>grind [cL]
 | _=>simp [cL] at h
theorem OP{P:Program}{nt:Nat}{c:Code}{id:Nat}{x:AC}(h:cL P nt c (.bl id x)=true):∃ c1,c= .block id c1∧cL P nt c1 x=true:=by
 cases c with
 | region id ops dr=>grind [cL]
 | block id' c1=>
  grind [cL]
 | _=>simp [cL] at h
theorem OQ{P:Program}{nt:Nat}{c:Code}{x:AC}(h:cL P nt c (.lp x)=true):∃ c1,c= .loop c1∧cL P nt c1 x=true:=by
 cases c with
 | region id ops dr=>grind [cL]
 | loop c1=>grind [cL]
 | _=>simp [cL] at h
theorem OR{P:Program}{nt:Nat}{c:Code}{id:Nat}(h:cL P nt c (.ex id)=true):c= .exit id:=by
 cases c with
 | region id ops dr=>grind [cL]
 | exit id'=>grind [cL]
 | _=>simp [cL] at h
theorem OS{P:Program}{nt:Nat}{c:Code}(h:cL P nt c .rt=true):c= .ret:=by
 grind [cL]
theorem OT{P:Program}{nt:Nat}{c:Code}{kf kb:List Nat}{x:AC}(h:cL P nt c (.kp kf kb x)=true):cL P nt c x=true:=by
 grind [cL]
theorem Xa{P:Program}{nt:Nat}{c:Code}{g':ba}{x:Nat}{y' b':AC}(h:cL P nt c (.ru g' x y' b')=true):∃ g y b,c= .rangeFunc g #[x] y b∧bK g g'=true∧x<nt∧cL P nt y y'=true∧fP y y'=true∧cL P nt b b'=true∧fP b b'=true:=by
 cases c with
 | region id ops dr=>grind [cL]
 | rangeFunc g ps y b=>
  grind [cL]
 | _=>simp [cL] at h
def LW(P:Program)(c:Code)(Q:Exit→Act→World→Prop)(a:Act)(w:World):Prop:=
 ∀ (b:Frame)(k:List Item)(cs:List Frame),∃ e a' w',Q e a' w'∧Arrives P (lone (b.at a (.code c::.inLoop c::k)) cs w) b k cs e a' w'
theorem LW.loop{P:Program}{c:Code}{Q:Exit→Act→World→Prop}{a:Act}{w:World}(h:LW P c Q a w):(Code.loop c).wp P Q a w:=by
 intro b k cs
 obtain ⟨e,a',w',hq,harr⟩:=h b k cs
 exact ⟨e,a',w',hq,.of_steps (.one step_loop) harr⟩
theorem LW.round{P:Program}{c:Code}{Q:Exit→Act→World→Prop}{a:Act}{w:World}(h:c.wp P (Exit.then (LW P c Q) Q) a w):LW P c Q a w:=by
 intro b k cs
 obtain ⟨e,a₁,w₁,hq,harr⟩:=h b (.inLoop c::k) cs
 cases e with
 | normal=>
  obtain ⟨e₂,a₂,w₂,hq₂,harr₂⟩:=hq b k cs
  exact ⟨e₂,a₂,w₂,hq₂,.of_steps (Steps.trans harr (.one step_inLoop)) harr₂⟩
 | exit id=>exact ⟨_,a₁,w₁,hq,.pass (x:=.inLoop c) rfl (fun _ _=>.inl (by simp)) harr⟩
 | goto l=>exact ⟨_,a₁,w₁,hq,.pass (x:=.inLoop c) rfl (fun _ _=>.inl (by simp)) harr⟩
 | ret=>exact ⟨_,a₁,w₁,hq,.pass (x:=.inLoop c) rfl (fun _ _=>.inl (by simp)) harr⟩
 | panic ch=>exact ⟨_,a₁,w₁,hq,.pass (x:=.inLoop c) rfl (fun _ _=>.inl (by simp)) harr⟩
 | outgrown=>exact ⟨_,a₁,w₁,hq,.pass (x:=.inLoop c) rfl (fun _ _=>.inl (by simp)) harr⟩
def HZ(P:Program)(X:ER):Prop:=∀ (E:Env)(ac:AC)(st:St)(r:aI×St)(c:Code)(nt:Nat)(C:Cx)(a:Act)(w:World)(σ:Sp)(Q:Exit→Act→World→Prop),C.P=P→C.E=E→nt≤C.nt→X E ac st=some r→cL P nt c ac=true→au C st a w σ→
 (∀ a' w' σ',cM C w σ w' σ'→au C r.2 a' w' σ'→Q (sG r.1) a' w')→c.wp P Q a w
def M3(P:Program)(X:ER):Prop:=∀ (E:Env)(ac:AC)(st:St)(r:aI×St)(c:Code)(nt:Nat)(C:Cx)(a:Act)(w:World)(σ:Sp)(Q:Exit→Act→World→Prop),C.P=P→C.E=E→nt≤C.nt→X E (.lp ac) st=some r→cL P nt c ac=true→au C st a w σ→
 (∀ a' w' σ',cM C w σ w' σ'→au C r.2 a' w' σ'→Q (sG r.1) a' w')→LW P c Q a w
theorem ux:∀ (args:List AV)(i d:Nat),ax (jL i args) d=if i≤d then (args[d - i]?).getD .u else .u
 | [],i,d=>by simp [jL,ax]
 | x::xs,i,d=>by
  simp only [jL,ax,ux xs (i+1) d]
  grind
variable {P:Program}{G:qv}{Ω:du}
theorem kg.cx{C C':Cx}{w:World}{σ:Sp}{k:Key}{cs:List AV}{vs:Array Value}{T:TypeId}(h:kg C w σ k cs vs T)(hP:C'.P=C.P)(hW:C'.W=C.W)(hE:C'.E=C.E):kg C' w σ k cs vs T:=by
 refine ⟨h.hh,h.size,h.ow,fun hm=>by rw [hW];exact h.wr (by grind),h.one,fun off c hc=>?_,h.ty,h.kb⟩
 have:=h.cell off c hc
 simp_all [CR]
theorem uy{P:Program}{f:FuncId}{fn:Func}{c:Code}{args:Array Value}{w:World}{R:Ending→World→Prop}(hf:P.funcs[f]? =some fn)(hb:fn.body=some c)
  (h:c.wp P (bodyPostM Fence.wide 0 P fn R) {tmps:=args++Array.replicate (fn.ntmps - args.size) undef,defers:=[]} w):Calls P f args w R:=
 (callsIn_wide (n:=0)).1 (callsIn_of_wp_marks hf hb trivial (wpIn_wide.2 h) rfl)
theorem au.OU{C:Cx}{st:St}{w0:World}{σ0 σ:Sp}(a:Act):∀ (Ds:List Nat)(w:World),Ds.Nodup→(∀ D∈Ds,σ.ow D=some (.mark C.E.dp)∧C.W D∧w.heap[D]? =some (.deferred (some [])))→
  cM C w0 σ0 w σ→au C st {a with defers:=[]} w σ→∃ w2,cM C w0 σ0 w2 σ∧au C st {a with defers:=[]} w2 σ∧
  ∀ (fn:Func)(R:Ending→World→Prop)(v:Value),(results fn a.tmps).run C.P w2= .ok v w2→R (.returned v) w2→LeavesInM Fence.wide 0 C.P fn a.tmps R (Ds.map GR) .returning w
 | [],w,_,_,hst,h1=>⟨w,hst,h1,fun fn R v hr hR=>⟨v,hr,hR⟩⟩
 | D::Ds,w,hnd,hm,hst,h=>by
  obtain ⟨ho,hW,hD⟩:=hm D (by simp)
  have hheap:∀ b,b≠D→(w.putObj D (.deferred none)).heap[b]? =w.heap[b]? :=fun b hb=>World.putObj_heap_other hb
  have hI:∀ b,σ.I b→b≠D:=fun b hb e=>by
   subst e
   rw [(h.bT b hb).2] at ho;cases ho
  have hsz:(w.putObj D (.deferred none)).heap.size=w.heap.size:=by simp_all
  have hs:iE C w σ (w.putObj D (.deferred none)) σ (some (.mark C.E.dp)):=by
   refine ⟨fun b l hb hl=>⟨hheap b fun e=>?_,hb⟩,fun b hb=>hheap b (hI b hb),fun _ h=>h,rfl,tE hsz.symm,fun b l hb=>by rw [hsz];exact h.own b l hb,fun b hb=>by rw [hsz];exact h.bT b hb⟩
   subst e
   rw [ho] at hb
   exact hl hb.symm
  have hst2:cM C w0 σ0 (w.putObj D (.deferred none)) σ:=hst.trans ⟨tE hsz.symm,by grind,fun _ h=>h,fun b hb=>hheap b (hI b hb),fun _ h=>.inl h,fun _ _=>rfl,fun _ _ _=>rfl,rfl,rfl⟩
  obtain ⟨hn1,hn2⟩:=tB.1 hnd
  obtain ⟨w2,h2,h3,h4⟩:=OU a Ds (w.putObj D (.deferred none)) hn2 ((by grind)) hst2 (h.Q6 hs ⟨fun _ _ _ _=>by simp,fun _ _ _=>by simp,fun _ _ _ _ _ _ _=>by simp,fun _=>by simp⟩ Marks.nil)
  exact ⟨w2,h2,h3,fun fn R v hr hR=>⟨by simp,.inl ⟨D,_,rfl,run_takeDeferred hD,h4 fn R v hr hR⟩⟩⟩
theorem au.H8{C:Cx}{st:St}{a:Act}{w0 w:World}{σ0 σ:Sp}(hst:cM C w0 σ0 w σ)(h:au C st a w σ):∃ w2,cM C w0 σ0 w2 σ∧au C st {a with defers:=[]} w2 σ∧
  ∀ (fn:Func)(R:Ending→World→Prop)(v:Value),(results fn a.tmps).run C.P w2= .ok v w2→R (.returned v) w2→LeavesInM Fence.wide 0 C.P fn a.tmps R a.defers .returning w:=by
 have h1:au C st {a with defers:=[]} w σ:=⟨h.size,Marks.nil,h.fr,h.bx,h.hpd,h.own,h.bT,h.new,h.lay⟩
 obtain ⟨Ds,h2,h3,h4⟩:=h.defers
 grind [au.OU]
noncomputable def iV(C:Cx)(σ:Sp):Nat→Option dz:=fun b=>open Classical in if C.W b∧∃ l,σ.ow b=some l∧l.dep=C.E.dp then none else σ.ow b
theorem DW{st:St}{rs:List RV}{e:bm}(h:st.rowOf rs=some e):∃ n m t es,rs=[.r n]∧ax st.fr m= .o t es∧(m=n∨ax st.fr n= .r (.s m))∧e= .row t es:=by
 unfold St.rowOf at h
 grind
theorem H9:∀ (cs:List AV)(j i:Nat)(k:Key)(n sz:Nat),Gq j cs=some (i,k,n,sz)→∃ m,i=j+m∧cs[m]? =some (.sp k 0 n sz)
 | [],j,i,k,n,sz,h=>by cases h
 | c::cs,j,i,k,n,sz,h=>by
  have hrec:Gq (j+1) cs=some (i,k,n,sz)→∃ m,i=j+m∧(c::cs)[m]? =some (.sp k 0 n sz):=fun h=>by
   obtain ⟨m,rfl,hm⟩:=H9 cs (j+1) i k n sz h
   grind
  cases c with
  | sp k2 o n2 sz2=>
   cases o with
   | zero=>
    cases aa h
    grind
   | succ o=>exact hrec h
  | _=>exact hrec h
theorem DX{E:Env}{st:St}{rs:List RV}{e:bm}(h:st.O1 E rs=some e):∃ z cs i k n sz bs,rs=[z]∧(st.Lb E.dp z=some (.a cs)∧AV.mE cs=true)∧cs[i]? =some (.sp k 0 n sz)∧aO st.bx k.d=some bs∧k.dp=E.dp∧1000000≤k.d∧AV.bk bs=true∧AV.bk (cs.set i .z)=true∧e= .pF i (cs.set i .z) (rX k.d) n sz bs:=by
 unfold St.O1 at h
 grind [Option.bind_eq_some_iff,H9]
theorem Es{E:Env}{st:St}{rs:List RV}{x:AV}(h:st.end_ E rs=some (.ret x)):st.result E rs=some x:=by
 grind [St.end_,DW,DX]
theorem OV{E:Env}{st:St}{rs:List RV}{cs:List AV}(h:st.end_ E rs=some (.new cs)):st.k9 E rs=some cs:=by
 grind [St.end_,DW,DX]
theorem Xb{E:Env}{st:St}{rs:List RV}{t:TypeId}{es:List AV}(h:st.end_ E rs=some (.row t es)):∃ n m,rs=[.r n]∧ax st.fr m= .o t es∧(m=n∨ax st.fr n= .r (.s m)):=by
 grind [St.end_,DW,DX]
theorem Sb{E:Env}{st:St}{rs:List RV}{cs:List AV}(h:st.k9 E rs=some cs):∃ n k,rs=[.t n]∧ax st.fr n= .p k 0∧k.dp=E.dp∧aO st.bx k.d=some cs∧cs.all xy=true:=by
 unfold St.k9 at h
 grind [Option.bind_eq_some_iff]
theorem Sc{X:ER}(hT:xx P G)(hX:HZ P X):∀ dp f ys hp x hp',iM G X ⟨dp,false⟩ f ys hp=some (.ret x,hp')→(∀ y∈ys,y.copy=true)→Ax P dp f ys hp x hp':=by
 intro dp f ys hp x hp' he hyc
 obtain ⟨fn',hG,he1⟩:=ah.1 he
 obtain ⟨r,hr,he2⟩:=ah.1 he1
 have hlow:=hT f fn' hG
 unfold bh at hlow
 split at hlow
 ·rename_i fn hf
  split at hlow
  ·rename_i c hb
   simp only [aA,iI] at hlow
   obtain ⟨⟨hname,hcode⟩,hres⟩:=hlow
   have hcase:∃ e,sG r.1=e∧(e= .normal∨e= .ret)∧(r.2.result ⟨dp,false⟩ fn'.res)=some x∧r.2.hp=hp':=by
    cases hr1:r.1 with
    | ex id=>grind
    | nrm=>
     rw [hr1] at he2
     obtain ⟨q,hq,he3⟩:=ah.1 he2
     have h1:q= .ret x:=by grind
     exact ⟨_,rfl,.inl rfl,Es (h1▸hq),by grind⟩
    | ret=>
     rw [hr1] at he2
     obtain ⟨q,hq,he3⟩:=ah.1 he2
     have h1:q= .ret x:=by grind
     exact ⟨_,rfl,.inr rfl,Es (h1▸hq),by grind⟩
   obtain ⟨e,hee,hen,hq,hhp⟩:=hcase
   have hpure:x.pure=true:=by
    obtain ⟨xs,_,h2⟩:=ah.1 hq
    split at h2
    ·rename_i hp
     obtain rfl:=aa h2
     match xs,hp with
     | [],_=>rfl
     | [y],hp=>simpa [NU,AV.bk] using hp
     | y::z::ys,hp=>exact hp
    ·cases h2
   refine ⟨hpure,⟨fn,hf,by rw [hb];rfl,hname⟩,fun W w σ cargs hnew hH hsz hargs=>?_⟩
   refine uy hf hb ?_
   let C:Cx:=⟨P,W,⟨dp,false⟩,cargs.size+(fn.ntmps - cargs.size)⟩
   have hc:au C ⟨jL 0 ys,[],hp⟩ {tmps:=cargs++Array.replicate (fn.ntmps - cargs.size) undef,defers:=[]} w σ:=by
    refine ⟨by simp [C],Marks.nil,fun d=>?_,fun k cs hk=>?_,fun k cs hne hk=>hH.deep k cs hk hne,hH.own,hH.bT,hnew,hH.lay⟩
    ·rw [ux]
     simp only [ct,aq,qn]
     cases hd:ys[d]? with
     | none=>exact VR.u _
     | some y=>
      have hlt:=cB hd
      have hy:=hargs d y hd
      have e:(cargs++Array.replicate (fn.ntmps - cargs.size) undef).getD d undef=cargs.getD d undef:=by
       simp_all [vI]
      grind [lg]
    ·simp only [St.box] at hk
     split at hk
     ·simp [aO] at hk
     ·rename_i hne
      obtain ⟨vs,T,hB⟩:=hH.bx k cs hk (hH.deep k cs hk hne).1
      exact ⟨vs,T,hB.cx rfl rfl rfl⟩
   refine hX ⟨dp,false⟩ fn'.code ⟨jL 0 ys,[],hp⟩ r c fn.ntmps C _ w σ _ rfl rfl (by simp [C];omega) hr hcode hc fun a0 w0 σ' hst0 hc0=>?_
   obtain ⟨w',hst,hc',hleave⟩:=hc0.H8 hst0
   obtain ⟨v,hrun,hv⟩:=hc'.result hres hq
   have hend:∀ b l,σ'.ow b=some l→l.dep≠dp→iV C σ' b=some l:=by
    grind [iV]
   have hpost:bodyPostM Fence.wide 0 P fn (fun e w'=>∃ v σ',e= .returned v∧VR w' σ'.I σ'.κ x v∧cM (u0 P W dp) w σ w' σ'∧wH P W dp hp' w' σ') .ret a0 w0:=by
    refine hleave fn _ v hrun ⟨v,⟨σ'.κ,iV C σ',wI C w' σ'⟩,rfl,hv,⟨hst.size,hst.aP,fun b hb=>.inl (hst.up b hb),hst.bT,fun b hb=>hb.elim (fun h=>hst.dn b h) fun h=>.inr h.1,hst.kap,fun b hb hW=>?_,hst.io⟩,⟨fun k cs hk hlt=>?_,fun k cs hk hne=>?_,fun b l hb=>?_,fun b hb=>?_,hc'.lay.aP (fun _ h=>.inl h) fun _ _=>rfl⟩⟩
    ·show iV C σ' b=_
     unfold iV
     rw [ad fun h=>hW h.1]
     exact hst.ow b hb hW
    ·rw [←hhp] at hk
     obtain ⟨vs,T,hB⟩:=hc'.bx k cs (by grind [St.box])
     exact ⟨vs,T,hB.Fs rfl rfl ((by grind [dz.dep])) (fun _ h=>.inl h) rfl (fun _ _ _ _ h=>h) (fun _ _ _ _=>rfl) fun c hcm=>u5 ((hc'.hpd k cs (by grind) hk).2 c hcm)⟩
    ·rw [←hhp] at hk
     exact hc'.hpd k cs hne hk
    ·have:iV C σ' b=some l:=hb
     unfold iV at this
     split at this
     ·cases this
     ·exact hc'.own b l this
    ·rcases hb with hb | ⟨h1,l,h2,h3⟩
     ·obtain ⟨h4,h5⟩:=hc'.bT b hb
      grind [iV]
     ·refine ⟨hc'.own b l h2,?_⟩
      simp_all [iV]
   rw [hee]
   rcases hen with rfl | rfl
   ·exact hpost
   ·exact hpost
  ·cases hlow
 ·cases hlow
theorem Uc{X:ER}(hT:xx P G)(hX:HZ P X):∀ dp f ys hp x hp',iM G X ⟨dp,true⟩ f ys hp=some (.ret x,hp')→(∀ y∈ys,y.copy=true)→IB P dp f ys hp x:=by
 intro dp f ys hp x hp' he hyc
 obtain ⟨fn',hG,he1⟩:=ah.1 he
 obtain ⟨r,hr,he2⟩:=ah.1 he1
 have hlow:=hT f fn' hG
 unfold bh at hlow
 split at hlow
 ·rename_i fn hf
  split at hlow
  ·rename_i c hb
   simp only [aA,iI] at hlow
   obtain ⟨⟨hname,hcode⟩,hres⟩:=hlow
   have hcase:∃ e,sG r.1=e∧(e= .normal∨e= .ret)∧(r.2.result ⟨dp,true⟩ fn'.res)=some x∧r.2.hp=hp':=by
    cases hr1:r.1 with
    | ex id=>grind
    | nrm=>
     rw [hr1] at he2
     obtain ⟨q,hq,he3⟩:=ah.1 he2
     have h1:q= .ret x:=by grind
     exact ⟨_,rfl,.inl rfl,Es (h1▸hq),by grind⟩
    | ret=>
     rw [hr1] at he2
     obtain ⟨q,hq,he3⟩:=ah.1 he2
     have h1:q= .ret x:=by grind
     exact ⟨_,rfl,.inr rfl,Es (h1▸hq),by grind⟩
   obtain ⟨e,hee,hen,hq,hhp⟩:=hcase
   have hpure:x.pure=true:=by
    obtain ⟨xs,_,h2⟩:=ah.1 hq
    split at h2
    ·rename_i hp
     obtain rfl:=aa h2
     match xs,hp with
     | [],_=>rfl
     | [y],hp=>simpa [NU,AV.bk] using hp
     | y::z::ys,hp=>exact hp
    ·cases h2
   refine ⟨hpure,⟨fn,hf,by rw [hb];rfl,hname⟩,fun w σ cargs hn0 hH hsz hargs=>?_⟩
   refine uy hf hb ?_
   let C:Cx:=⟨P,fun b=>w.heap.size≤b,⟨dp,true⟩,cargs.size+(fn.ntmps - cargs.size)⟩
   have hc:au C ⟨jL 0 ys,[],hp⟩ {tmps:=cargs++Array.replicate (fn.ntmps - cargs.size) undef,defers:=[]} w σ:=by
    refine ⟨by simp [C],Marks.nil,fun d=>?_,fun k cs hk=>?_,fun k cs hne hk=>hH.deep k cs hk hne,hH.own,hH.bT,by grind,hH.lay⟩
    ·rw [ux]
     simp only [ct,aq,qn]
     cases hd:ys[d]? with
     | none=>exact VR.u _
     | some y=>
      have hlt:=cB hd
      have hy:=hargs d y hd
      have e:(cargs++Array.replicate (fn.ntmps - cargs.size) undef).getD d undef=cargs.getD d undef:=by
       simp_all [vI]
      grind [lg]
    ·simp only [St.box] at hk
     split at hk
     ·simp [aO] at hk
     ·rename_i hne
      obtain ⟨vs,T,hB⟩:=hH.bx k cs hk (hH.deep k cs hk hne).1
      exact ⟨vs,T,hB.cx rfl rfl rfl⟩
   refine hX ⟨dp,true⟩ fn'.code ⟨jL 0 ys,[],hp⟩ r c fn.ntmps C _ w σ _ rfl rfl (by simp [C];omega) hr hcode hc fun a0 w0 σ' hst0 hc0=>?_
   obtain ⟨w',hst,hc',hleave⟩:=hc0.H8 hst0
   obtain ⟨v,hrun,hv⟩:=hc'.result hres hq
   have hpost:bodyPostM Fence.wide 0 P fn (fun e w'=>∃ v I',e= .returned v∧VR w' I' σ.κ x v∧w.heap.size≤w'.heap.size∧(∀ b,b<w.heap.size→w'.heap[b]? =w.heap[b]?)∧(∀ b,σ.I b→I' b)∧(∀ b,I' b→σ.I b∨w.heap.size≤b)∧(∀ b,I' b→b<w'.heap.size)∧w'.os=w.os∧w'.output=w.output) .ret a0 w0:=by
    refine hleave fn _ v hrun ⟨v,wI C w' σ',rfl,hv.Aq (fun _ h=>h) (fun _ _=>rfl) hpure,hst.size,fun b hb=>hst.aP b hb (show ¬w.heap.size≤b by omega),fun b hb=>.inl (hst.up b hb),fun b hb=>hb.elim (fun h=>hst.dn b h) fun h=>.inr h.1,fun b hb=>?_,hst.io⟩
    rcases hb with hb | ⟨h1,l,h2,h3⟩
    ·exact (hc'.bT b hb).1
    ·exact hc'.own b l h2
   rw [hee]
   rcases hen with rfl | rfl
   ·exact hpost
   ·exact hpost
  ·cases hlow
 ·cases hlow
theorem Sd{X:ER}(hT:xx P G)(hX:HZ P X):∀ dp f ys hp cs hp',iM G X ⟨dp,false⟩ f ys hp=some (.new cs,hp')→(∀ y∈ys,y.copy=true)→IA P dp f ys hp cs hp':=by
 intro dp f ys hp ncs hp' he hyc
 obtain ⟨fn',hG,he1⟩:=ah.1 he
 obtain ⟨r,hr,he2⟩:=ah.1 he1
 have hlow:=hT f fn' hG
 unfold bh at hlow
 split at hlow
 ·rename_i fn hf
  split at hlow
  ·rename_i c hb
   simp only [aA,iI] at hlow
   obtain ⟨⟨hname,hcode⟩,hres⟩:=hlow
   have hcase:∃ e,sG r.1=e∧(e= .normal∨e= .ret)∧(r.2.k9 ⟨dp,false⟩ fn'.res)=some ncs∧r.2.hp=hp':=by
    cases hr1:r.1 with
    | ex id=>grind
    | nrm=>
     rw [hr1] at he2
     obtain ⟨q,hq,he3⟩:=ah.1 he2
     have h1:q= .new ncs:=by grind
     exact ⟨_,rfl,.inl rfl,OV (h1▸hq),by grind⟩
    | ret=>
     rw [hr1] at he2
     obtain ⟨q,hq,he3⟩:=ah.1 he2
     have h1:q= .new ncs:=by grind
     exact ⟨_,rfl,.inr rfl,OV (h1▸hq),by grind⟩
   obtain ⟨e,hee,hen,hq,hhp⟩:=hcase
   obtain ⟨n,kk,hrs,hfk,hkd,hbk,hnew⟩:=Sb hq
   refine ⟨hnew,⟨fn,hf,by rw [hb];rfl,hname⟩,fun W w σ cargs hnew hH hsz hargs=>?_⟩
   refine uy hf hb ?_
   let C:Cx:=⟨P,W,⟨dp,false⟩,cargs.size+(fn.ntmps - cargs.size)⟩
   have hc:au C ⟨jL 0 ys,[],hp⟩ {tmps:=cargs++Array.replicate (fn.ntmps - cargs.size) undef,defers:=[]} w σ:=by
    refine ⟨by simp [C],Marks.nil,fun d=>?_,fun k cs hk=>?_,fun k cs hne hk=>hH.deep k cs hk hne,hH.own,hH.bT,hnew,hH.lay⟩
    ·rw [ux]
     simp only [ct,aq,qn]
     cases hd:ys[d]? with
     | none=>exact VR.u _
     | some y=>
      have hlt:=cB hd
      have hy:=hargs d y hd
      have e:(cargs++Array.replicate (fn.ntmps - cargs.size) undef).getD d undef=cargs.getD d undef:=by
       simp_all [vI]
      grind [lg]
    ·simp only [St.box] at hk
     split at hk
     ·simp [aO] at hk
     ·rename_i hne
      obtain ⟨vs,T,hB⟩:=hH.bx k cs hk (hH.deep k cs hk hne).1
      exact ⟨vs,T,hB.cx rfl rfl rfl⟩
   refine hX ⟨dp,false⟩ fn'.code ⟨jL 0 ys,[],hp⟩ r c fn.ntmps C _ w σ _ rfl rfl (by simp [C];omega) hr hcode hc fun a0 w0 σ' hst0 hc0=>?_
   obtain ⟨w',hst,hc',hleave⟩:=hc0.H8 hst0
   let a':Act:={a0 with defers:=[]}
   rw [hrs] at hres
   obtain ⟨v,hrun,hv⟩:∃ v,(results fn a'.tmps).run P w'= .ok v w'∧v= .pointer (some ⟨σ'.κ kk,0,none⟩):=by
    have hfn:fn.results=#[.tmp n]:=by
     have:fn.results.toList=[.tmp n]:=by
      revert hres
      cases hq:fn.results.toList with
      | nil=>intro h;cases h
      | cons z zs=>
       cases z with
       | cell t ty=>grind [eO]
       | tmp t=>
        grind [eO]
     grind
    have hsl:=hc'.fr n
    rw [hfk] at hsl
    have hsl':VR w' σ'.I σ'.κ (.p kk 0) (a'.tmps.getD n undef):=hsl
    refine ⟨a'.tmps.getD n undef,?_,hsl'.xm⟩
    simp_all [results]
   obtain ⟨vs,T,hB⟩:=hc'.bx kk ncs (by grind [St.box])
   have hpost:bodyPostM Fence.wide 0 P fn (fun e w'=>∃ σ' kk vs T,e= .returned (.pointer (some ⟨σ'.κ kk,0,none⟩))∧kk.dp=dp∧kg (u0 P W dp) w' σ' kk ncs vs T∧cM (u0 P W dp) w σ w' σ'∧wH P W dp hp' w' σ') .ret a0 w0:=by
    refine hleave fn _ v hrun ⟨σ',kk,vs,T,by rw [hv],hkd,hB.cx rfl rfl rfl,⟨hst.size,hst.aP,hst.up,hst.bT,hst.dn,hst.kap,hst.ow,hst.io⟩,⟨fun k cs hk hlt=>?_,fun k cs hk hne=>?_,hc'.own,hc'.bT,hc'.lay⟩⟩
    ·rw [←hhp] at hk
     obtain ⟨vs,T,hB⟩:=hc'.bx k cs (by grind [St.box])
     exact ⟨vs,T,hB.cx rfl rfl rfl⟩
    ·rw [←hhp] at hk
     exact hc'.hpd k cs hne hk
   rw [hee]
   rcases hen with rfl | rfl
   ·exact hpost
   ·exact hpost
  ·cases hlow
 ·cases hlow
theorem Ud{ys:List AV}{z:AV}{d:Nat}{y:AV}(h:(ys++[z])[d]? =some y):ys[d]? =some y∨d=ys.length∧y=z:=by
 grind
theorem Sf{X:ER}(hT:xx P G)(hX:HZ P X):∀ dp f ys t es hp' t' es',iM G X ⟨dp,false⟩ f (ys++[.o t es]) (fun _=>none)=some (.row t' es',hp')→(∀ y∈ys,y.pure=true)→IC P dp f ys t es t' es':=by
 intro dp f ys t es hp' t' es' he hyc
 obtain ⟨fn',hG,he1⟩:=ah.1 he
 obtain ⟨r,hr,he2⟩:=ah.1 he1
 have hlow:=hT f fn' hG
 unfold bh at hlow
 split at hlow
 ·rename_i fn hf
  split at hlow
  ·rename_i c hb
   simp only [aA,iI] at hlow
   obtain ⟨⟨hname,hcode⟩,hres⟩:=hlow
   have hcase:∃ e,sG r.1=e∧(e= .normal∨e= .ret)∧(r.2.end_ ⟨dp,false⟩ fn'.res)=some (.row t' es'):=by
    cases hr1:r.1 with
    | ex id=>grind
    | nrm=>
     rw [hr1] at he2
     obtain ⟨q,hq,he3⟩:=ah.1 he2
     have h1:q= .row t' es':=by grind
     exact ⟨_,rfl,.inl rfl,h1▸hq⟩
    | ret=>
     rw [hr1] at he2
     obtain ⟨q,hq,he3⟩:=ah.1 he2
     have h1:q= .row t' es':=by grind
     exact ⟨_,rfl,.inr rfl,h1▸hq⟩
   obtain ⟨e,hee,hen,hq⟩:=hcase
   obtain ⟨n,m,hrs,hfk,hmn⟩:=Xb hq
   refine ⟨⟨fn,hf,by rw [hb];rfl,hname⟩,fun W w σ cargs v hnew hH hsz hargs hown=>?_⟩
   refine uy hf hb ?_
   let C:Cx:=⟨P,W,⟨dp,false⟩,(cargs.push v).size+(fn.ntmps - (cargs.push v).size)⟩
   have hc:au C ⟨jL 0 (ys++[.o t es]),[],fun _=>none⟩ {tmps:=cargs.push v++Array.replicate (fn.ntmps - (cargs.push v).size) undef,defers:=[]} w σ:=by
    refine ⟨by simp [C],Marks.nil,fun d=>?_,fun k cs hk=>?_,fun k cs hne hk=>(by cases hk),hH.own,hH.bT,hnew,hH.lay⟩
    ·rw [ux]
     simp only [ct,aq,qn]
     cases hd:(ys++[.o t es])[d]? with
     | none=>exact VR.u _
     | some y=>
      have hlt:=cB hd
      simp only [cH,bu,ig] at hlt
      have e:(cargs.push v++Array.replicate (fn.ntmps - (cargs.push v).size) undef).getD d undef=(cargs.push v).getD d undef:=by
       simp_all [vI]
      show SR C w σ _ _ d y _
      rw [e]
      rcases Ud hd with hd | ⟨rfl,rfl⟩
      ·have hlt2:=cB hd
       have hy:=hargs d y hd
       have e2:(cargs.push v).getD d undef=cargs.getD d undef:=by
        rw [bn,qp,ad (by omega),bn]
       grind [lg]
      ·have e2:(cargs.push v).getD ys.length undef=v:=by
        rw [bn,qp,ab (by omega)];rfl
       rw [e2]
       exact hown
    grind [St.box,aO]
   refine hX ⟨dp,false⟩ fn'.code ⟨jL 0 (ys++[.o t es]),[],fun _=>none⟩ r c fn.ntmps C _ w σ _ rfl rfl (by simp [C];omega) hr hcode hc fun a0 w0 σ' hst0 hc0=>?_
   obtain ⟨w',hst,hc',hleave⟩:=hc0.H8 hst0
   let a':Act:={a0 with defers:=[]}
   rw [hrs] at hres
   obtain ⟨v',hrun,hv⟩:∃ v',(results fn a'.tmps).run P w'= .ok v' w'∧OwnAt P W w' σ' (.rowS dp m) True t' es' v':=by
    have hfn:fn.results=#[.tmp n]:=by
     have:fn.results.toList=[.tmp n]:=by
      revert hres
      cases hq:fn.results.toList with
      | nil=>intro h;cases h
      | cons z zs=>
       cases z with
       | cell t ty=>grind [eO]
       | tmp t=>
        grind [eO]
     grind
    have hsl:=hc'.fr m
    rw [hfk] at hsl
    have hsl:OwnAt P W w' σ' (.rowS dp m) True t' es' (a'.tmps.getD m undef):=hsl
    have hvm:a'.tmps.getD n undef=a'.tmps.getD m undef:=by
     rcases hmn with rfl | hmn
     ·rfl
     ·have hs2:=hc'.fr n
      rw [hmn] at hs2
      exact hs2 (by grind [St.rowAt])
    simp_all [results]
   have hpost:bodyPostM Fence.wide 0 P fn (fun e w'=>∃ v' σ' n,e= .returned v'∧OwnAt P W w' σ' (.rowS dp n) True t' es' v'∧cM (u0 P W dp) w σ w' σ'∧wH P W dp (fun _=>none) w' σ') .ret a0 w0:=
    hleave fn _ v' hrun ⟨v',σ',m,rfl,hv,⟨hst.size,hst.aP,hst.up,hst.bT,hst.dn,hst.kap,hst.ow,hst.io⟩,⟨fun k cs hk=>(by cases hk),fun k cs hk=>(by cases hk),hc'.own,hc'.bT,hc'.lay⟩⟩
   rw [hee]
   rcases hen with rfl | rfl
   ·exact hpost
   ·exact hpost
  ·cases hlow
 ·cases hlow
theorem au.Lb{C:Cx}{st:St}{a:Act}{w:World}{σ:Sp}(h:au C st a w σ){x:ResultVar}{z:RV}{y:AV}(hl:eO C.P [x] [z]=true)(he:st.Lb C.E.dp z=some y)(hcp:y.copy=true):∃ v,(tZ a.tmps x).run C.P w= .ok v w∧VR w σ.I σ.κ y v:=by
 cases x with
 | tmp t=>
  cases z with
  | t n=>
   obtain rfl:t=n:=by simpa [eO] using hl
   obtain rfl:=aa he
   exact ⟨_,rfl,(h.fr t).Bl hcp⟩
  | c n sz=>simp [eO] at hl
  | r n=>cases he
 | cell n' ty=>
  cases z with
  | t n=>simp [eO] at hl
  | r n=>cases he
  | c n sz=>
   obtain ⟨rfl,hn⟩:n'=n∧sZ C.P ty sz=true:=by simpa [eO] using hl
   simp only [St.Lb] at he
   split at he
   ·rename_i k off hx
    obtain ⟨cs,hb,hp⟩:=ah.1 he
    obtain ⟨vs,T,hB⟩:=h.bx k cs hb
    have hs:=h.fr n'
    rw [hx] at hs
    have hv:=VR.xm hs
    obtain ⟨v,hr,hvr⟩:=zr (P:=C.P) (I:=σ.I) (κ:=σ.κ) (b:=0) hB.hh (by have:=hB.size;omega) (fun off c hc hcc=>by
     have:=hB.cell off c hc
     rw [eU]
     cases c<;>first | exact this | (simp [AV.copy] at hcc)) (fun c hc hcc=>(hB.one c hc).resolve_right ((by grind [AV.copy]))) hcp hp hn
    grind [tZ,asAddr]
   ·cases he
theorem yD{X:ER}(hT:xx P G)(hX:HZ P X):lj P (iM G X):=⟨Sc hT hX,Sd hT hX,Uc hT hX,Sf hT hX⟩
abbrev FR(l:Nat):Fence:=Fence.wide.inRound l
theorem Sg{c:Code}{kf kb:List Nat}{x:AC}(h:fP c (.kp kf kb x)=true):fP c x=true:=by
 cases c with
 | region id ops d=>cases d<;>exact h
 | _=>exact h
section
variable {P:Program}{l n:Nat}{ops:Array Oper}{Q:Exit→Act→World→Prop}
theorem J7{o:Oper}{a:Act}{w:World}{K:Act→World→Prop}(hnd:Er o=true)(h:o.wp P a w K Q):o.wpIn (FR l) n P a w K Q:=by
 refine ⟨fun _ _=>trivial,?_⟩
 unfold Oper.wp at h
 rw [show (FR l).round=some l from rfl,Oper.semAt_some l a.eval o (fun c e=>by unfold Er at hnd;rw [e] at hnd;cases hnd)]
 generalize (Go.execOp a.eval o).run P w=r at h ⊢
 cases r with
 | ok x w'=>
  cases x with
  | value v=>exact h
  | skip=>exact h
  | defer d=>exact h
  | enter f args=>exact ⟨fun h=>by simp [Fence.wide] at h,CallsIn.inRound l (callsIn_wide.2 h)⟩
  | row row args=>exact ⟨fun h=>by simp [Fence.wide] at h,fun c cs _=>let ⟨v,w',r,s⟩:=h c cs;⟨v,w',r,stepsIn_wide.2 s⟩⟩
  | _=>exact h.elim
 | halt x w'=>
  cases x<;>exact h
theorem BU(hnd:∀ o∈ops,Er o=true)(hout:¬LetsOut Q):∀ (is:List Nat)(a:Act)(w:World),wpOps P ops Q is a w→wpOpsIn (FR l) n P ops Q is a w
 | [],a,w,h=>h
 | i::is,a,w,h=>by
  simp only [wpOps,wpOpsIn] at h ⊢
  cases ho:ops[i]? with
  | none=>rw [ho] at h;exact BU hnd hout is a w h
  | some o=>
   rw [ho] at h
   simp only at h ⊢
   split
   ·rename_i hw
    rw [ab hw] at h
    rcases h with h | h
    ·exact Oper.wpIn_mono (fun a w h=>BU hnd hout is a w h) (J7 (hnd o (Array.mem_of_getElem? ho)) h)
    ·exact absurd h.2 hout
   ·rename_i hw
    rw [ad hw] at h
    exact ⟨fun _ _=>trivial,BU hnd hout is _ w h⟩
theorem BV(hnd:∀ o∈ops,Er o=true)(hout:¬LetsOut Q):∀ (fuel:Nat)(listed:Array Bool)(a:Act)(w:World),wpAny P .any ops Q fuel listed a w→wpAnyIn (FR l) n P .any ops Q fuel listed a w
 | 0,_,_,_,h=>h
 | fuel+1,listed,a,w,h=>by
  refine ⟨h.1,fun i hi=>?_⟩
  have h1:=h.2 i hi
  unfold wpOp at h1
  unfold wpOpIn
  cases ho:ops[i]? with
  | none=>rw [ho] at h1;exact BV hnd hout fuel _ a w h1
  | some o=>
   rw [ho] at h1
   simp only at h1 ⊢
   split
   ·rename_i hw
    rw [ab hw] at h1
    rcases h1 with h1 | h1
    ·exact Oper.wpIn_mono (fun a w h=>BV hnd hout fuel _ a w h) (J7 (hnd o (Array.mem_of_getElem? ho)) h1)
    ·exact absurd h1.2 hout
   ·rename_i hw
    rw [ad hw] at h1
    exact ⟨fun _ _=>trivial,BV hnd hout fuel _ _ w h1⟩
theorem Qd{K:Act→World→Prop}(h:¬LetsOut Q):¬LetsOut (Exit.then K Q):=h
theorem NO{id:Nat}(h:¬LetsOut Q):¬LetsOut (Exit.inBlock id Q):=h
end
variable [bJ]
variable {P:Program}{G:qv}{Ω:du}
theorem Gh(hΩ:iA P Ω)(l m N:Nat)(hR:∀ k,k≤N→lX P (iM G (exec G Ω k))):∀ (n:Nat),n≤N→∀ (E:Env)(ac:AC)(st:St)(r:aI×St)(c:Code)(nt:Nat)(C:Cx)(a:Act)(w:World)(σ:Sp)(Q:Exit→Act→World→Prop),C.P=P→C.E=E→nt≤C.nt→
  exec G Ω n E ac st=some r→cL P nt c ac=true→fP c ac=true→¬LetsOut Q→au C st a w σ→
  (∀ a' w' σ',cM C w σ w' σ'→au C r.2 a' w' σ'→Q (sG r.1) a' w')→c.wpIn (FR l) m P Q a w
 | 0,_,E,ac,st,r,c,nt,C,a,w,σ,Q,_,_,_,he,_,_,_,_,_=>by simp [exec] at he
 | n+1,hN,E,ac,st,r,c,nt,C,a,w,σ,Q,hP,hE,hnt,he,hl,hp,hout,hc,hQ=>by
  have hR':=hR n (by omega)
  have ih:=Gh hΩ l m N hR n (by omega)
  cases ac with
  | sk=>
   obtain rfl:=aa he
   rcases OL hl with rfl | ⟨l,rfl⟩
   ·exact wpIn_skip (hQ a w σ (.refl _ _ _) hc)
   ·exact wpIn_label (hQ a w σ (.refl _ _ _) hc)
  | rg pre gs kf kb=>
   obtain ⟨id,ops,hcc,hl2⟩:=OM hl
   subst hcc
   simp only [exec] at he
   subst hP;subst hE
   obtain ⟨st1,h1,he1⟩:=ah.1 he
   obtain ⟨st2,h2,he2⟩:=ah.1 he1
   obtain rfl:=aa he2
   obtain ⟨σ1,hs1,hc1⟩:=hc.pre pre h1
   simp only [fP] at hp
   refine wpIn_region ?_
   have:=au.steps (ops:=ops) (Q:=Q) hR' hΩ hnt gs ops.toList 0 st1 st2 a w σ1 rfl hl2 hc1 h2 (fun a' w' σ' hs hc'=>hQ a' w' σ' (hs1.trans hs) (hc'.aP kf kb))
   rw [Array.length_toList,←vH] at this
   exact BU (fun o ho=>yP.1 hp o ho) hout _ _ _ this
  | dg pre mks gs kf kb=>
   obtain ⟨id,ops,hcc,hl2⟩:=ON hl
   subst hcc
   simp only [exec] at he
   subst hP;subst hE
   obtain ⟨st1,h1,he1⟩:=ah.1 he
   split at he1
   ·rename_i hm
    obtain ⟨st2,h2,he2⟩:=ah.1 he1
    obtain rfl:=aa he2
    obtain ⟨σ1,hs1,hc1⟩:=hc.pre pre h1
    simp only [fP] at hp
    obtain ⟨hfol,hany⟩:=hc1.M0 (Q:=Q) hR' hΩ hnt hl2 hm h2 fun a' w' σ' hs hc'=>hQ a' w' σ' (hs1.trans hs) (hc'.aP kf kb)
    exact wpIn_region_any hfol (BV (fun o ho=>yP.1 hp o ho) hout _ _ _ _ hany)
   ·cases he1
  | sq x y=>
   obtain ⟨c1,c2,hcc,hl2⟩:=OO hl
   subst hcc
   simp only [exec] at he
   simp only [fP,aA] at hp
   obtain ⟨q,hq,he1⟩:=ah.1 he
   refine wpIn_seq (ih E x st q c1 nt C a w σ _ hP hE hnt hq hl2.1 hp.1 (Qd hout) hc fun a' w' σ' hs hc'=>?_)
   obtain ⟨qe,qs⟩:=q
   cases qe with
   | nrm=>exact ih E y qs r c2 nt C a' w' σ' Q hP hE hnt he1 hl2.2 hp.2 hout hc' fun a'' w'' σ'' hs' hc''=>hQ a'' w'' σ'' (hs.trans hs') hc''
   | ex id=>
    obtain rfl:=aa he1
    exact hQ a' w' σ' hs hc'
   | ret=>
    obtain rfl:=aa he1
    exact hQ a' w' σ' hs hc'
  | ite cc x y=>
   obtain ⟨cd,c1,c2,hcc,hl2⟩:=M1 hl
   subst hcc
   simp only [exec] at he
   simp only [fP,aA] at hp
   obtain ⟨z,hz,he1⟩:=ah.1 he
   have hzb:st.ev cc= .b z:=by
    cases hcc:st.ev cc<;>rw [hcc] at hz<;>simp [qu] at hz
    rw [hz]
   have hce:a.eval cd= .bool z:=by
    have:=hc.uG hl2.1.1 (by rw [hzb];rfl)
    rw [hzb] at this
    exact this.vz
   refine wpIn_cond hce ?_
   cases z with
   | true=>exact ih E x st r c1 nt C a w σ Q hP hE hnt (by simpa using he1) hl2.1.2 hp.1 hout hc hQ
   | false=>exact ih E y st r c2 nt C a w σ Q hP hE hnt (by simpa using he1) hl2.2 hp.2 hout hc hQ
  | bl id x=>
   obtain ⟨c1,hcc,hl2⟩:=OP hl
   subst hcc
   simp only [exec] at he
   simp only [fP] at hp
   obtain ⟨q,hq,he1⟩:=ah.1 he
   refine wpIn_block (ih E x st q c1 nt C a w σ _ hP hE hnt hq hl2 hp (NO hout) hc fun a' w' σ' hs hc'=>?_)
   obtain ⟨qe,qs⟩:=q
   cases qe with
   | nrm=>
    obtain rfl:=aa he1
    exact hQ a' w' σ' hs hc'
   | ret=>
    obtain rfl:=aa he1
    exact hQ a' w' σ' hs hc'
   | ex id=>
    simp only [inBlock] at he1
    simp only [sG,Exit.inBlock]
    split at he1
    ·rename_i hid
     obtain rfl:=aa he1
     rw [ab hid]
     exact hQ a' w' σ' hs hc'
    ·rename_i hid
     obtain rfl:=aa he1
     rw [ad hid]
     exact hQ a' w' σ' hs hc'
  | lp x=>
   obtain ⟨c1,hcc,hl2⟩:=OQ hl
   subst hcc
   simp [fP] at hp
  | ex id=>
   obtain rfl:=OR hl
   obtain rfl:=aa he
   exact wpIn_exit (hQ a w σ (.refl _ _ _) hc)
  | kp kf kb x=>exact ih E x (st.aP kf kb) r c nt C a w σ Q hP hE hnt he (OT hl) (Sg hp) hout (hc.aP kf kb) hQ
  | bad=>cases he
  | ru g x y b=>cases c with
   | region id ops d=>cases d<;>simp [fP] at hp
   | _=>simp [fP] at hp
  | rt=>
   obtain rfl:=OS hl
   obtain rfl:=aa he
   exact wpIn_ret (hQ a w σ (.refl _ _ _) hc)
end Go.Proofs.YtkkkkondjclcnaaGreat.A
namespace Go.Proofs.YtkkkkondjclcnaaGreat.A
open Go Go.RowKit
variable [bJ]
section
variable {C:Cx}{st:St}{a:Act}{w:World}{σ:Sp}
theorem fg.uz{P:Program}{W W':Nat→Prop}{L:dz}{wr:Prop}{t:TypeId}{es:List AV}{g cap:Nat}{cs:Array Value}(hW:∀ b,σ.ow b≠none→W b→W' b)(h:fg P W w σ L wr t es g cap cs):fg P W' w σ L wr t es g cap cs:=
 ⟨h.ow,fun hw=>hW g (by rw [h.ow];simp) (h.wr hw),h.hh,h.pos,h.nc,h.ecap,h.max,h.size,h.pure,h.one,h.cell,h.base⟩
theorem OwnAt.uz{P:Program}{W W':Nat→Prop}{L:dz}{wr:Prop}{t:TypeId}{es:List AV}{v:Value}(hW:∀ b,σ.ow b≠none→W b→W' b)(h:OwnAt P W w σ L wr t es v):OwnAt P W' w σ L wr t es v:=
 h.imp id fun ⟨g,cap,cs,hv,hr⟩=>⟨g,cap,cs,hv,hr.uz hW⟩
theorem pE.uz{W W':Nat→Prop}{dp g:Nat}{t:TypeId}{x:AV}{v:Value}(hW:∀ b,σ.ow b≠none→W b→W' b)(h:pE W dp w σ g t x v):pE W' dp w σ g t x v:=
 ⟨h.1,h.2.mono (fun b h1=>⟨h1.1,hW b (by rw [h1.1];simp) h1.2.1,h1.2.2⟩) (fun _ _=>rfl) fun _ _=>rfl⟩
theorem CR.uz{W':Nat→Prop}{k:Key}{off:Nat}{c:AV}{v:Value}(hW:∀ b,σ.ow b≠none→C.W b→W' b)(h:CR C w σ k off c v):CR {C with W:=W'} w σ k off c v:=by
 cases c with
 | o t es=>exact OwnAt.uz hW h
 | w g t x=>exact pE.uz hW h
 | _=>exact h
theorem kg.uz{W':Nat→Prop}{k:Key}{cs:List AV}{vs:Array Value}{T:TypeId}(hW:∀ b,σ.ow b≠none→C.W b→W' b)(h:kg C w σ k cs vs T):kg {C with W:=W'} w σ k cs vs T:=
 ⟨h.hh,h.size,h.ow,fun hm=>hW _ (by rw [h.ow];simp) (h.wr hm),h.one,fun off c hc=>(h.cell off c hc).uz hW,h.ty,h.kb⟩
theorem SR.uz{W':Nat→Prop}{d:Nat}{x:AV}{v:Value}(hW:∀ b,σ.ow b≠none→C.W b→W' b)(h:SR C w σ st a d x v):SR {C with W:=W'} w σ st a d x v:=by
 cases x with
 | o t es=>exact OwnAt.uz hW h
 | w g t x=>exact pE.uz hW h
 | _=>exact h
theorem au.uz{W':Nat→Prop}(hW:∀ b,σ.ow b≠none→C.W b→W' b)(hn:∀ b,w.heap.size≤b→W' b)(h:au C st a w σ):au {C with W:=W'} st a w σ:=by
 refine ⟨h.size,?_,fun d=>(h.fr d).uz hW,fun k cs hk=>?_,h.hpd,h.own,h.bT,fun b hb=>⟨hn b hb,(h.new b hb).2⟩,h.lay⟩
 ·obtain ⟨Ds,h0,h1,h2⟩:=h.defers
  exact ⟨Ds,h0,h1,fun D hD=>⟨(h2 D hD).1,hW D (by rw [(h2 D hD).1];simp) (h2 D hD).2.1,(h2 D hD).2.2⟩⟩
 ·obtain ⟨vs,T,hB⟩:=h.bx k cs hk
  exact ⟨vs,T,hB.uz hW⟩
theorem cM.uz{W':Nat→Prop}{w':World}{σ':Sp}(hW:∀ b,C.W b→W' b)(h:cM C w σ w' σ'):cM {C with W:=W'} w σ w' σ':=
 ⟨h.size,fun b hb hn=>h.aP b hb fun hc=>hn (hW b hc),h.up,h.bT,fun b hb=>(h.dn b hb).imp id (hW b),h.kap,fun b hb hn=>h.ow b hb fun hc=>hn (hW b hc),h.io⟩
theorem au.rT{l:Nat}{o:Obj}(ho:σ.ow l=none)(hI:¬σ.I l)(h:au C st a w σ):au C st a (w.putObj l o) σ:=by
 have hsz:(w.putObj l o).heap.size=w.heap.size:=by simp [World.putObj]
 exact h.same ⟨fun b L hb _=>⟨World.putObj_heap_other fun e=>(by rw [e,ho] at hb;cases hb),hb⟩,fun b hb=>World.putObj_heap_other fun e=>hI (e▸hb),fun _ h=>h,rfl,tE hsz.symm,fun b L hb=>by rw [hsz];exact h.own b L hb,fun b hb=>by rw [hsz];exact h.bT b hb⟩
theorem cM.rT{l:Nat}{o:Obj}(hW:C.W l)(hI:¬σ.I l):cM C w σ (w.putObj l o) σ:=by
 have hsz:(w.putObj l o).heap.size=w.heap.size:=by simp [World.putObj]
 exact ⟨tE hsz.symm,fun b hb hn=>World.putObj_heap_other fun e=>hn (e▸hW),fun _ h=>h,fun b hb=>World.putObj_heap_other fun e=>hI (e▸hb),fun _ h=>.inl h,fun _ _=>rfl,fun _ _ _=>rfl,rfl,rfl⟩
theorem au.grown{w':World}(hb:Below w.heap.size w w')(h:au C st a w σ):au C st a w' σ:=
 h.same ⟨fun b L hbo _=>⟨hb.block b (h.own b L hbo),hbo⟩,fun b hbi=>hb.block b (h.bT b hbi).1,fun _ h=>h,rfl,hb.size,fun b L hbo=>eb (h.own b L hbo) hb.size,fun b hbi=>⟨eb (h.bT b hbi).1 hb.size,(h.bT b hbi).2⟩⟩
theorem cM.grown{w':World}(hb:Below w.heap.size w w')(hI:∀ b,σ.I b→b<w.heap.size):cM C w σ w' σ:=
 ⟨hb.size,fun b hlt _=>hb.block b hlt,fun _ h=>h,fun b hbi=>hb.block b (hI b hbi),fun _ h=>.inl h,fun _ _=>rfl,fun _ _ _=>rfl,hb.os,hb.output⟩
theorem au.leave{C:Cx}{s:St}{a':Act}{w w':World}{σ σ':Sp}(hst:cM C w σ w' σ')(hc':au C s a' w' σ')(hro:C.E.ro=false) :
  cM (u0 C.P C.W C.E.dp) w σ w' ⟨σ'.κ,iV C σ',wI C w' σ'⟩∧wH C.P C.W C.E.dp s.hp w' ⟨σ'.κ,iV C σ',wI C w' σ'⟩:=by
 have hend:∀ b l,σ'.ow b=some l→l.dep≠C.E.dp→iV C σ' b=some l:=by
  intro b l hb hne
  unfold iV
  rw [ad,hb]
  rintro ⟨_,l',h1,h2⟩
  rw [hb] at h1
  obtain rfl:=aa h1
  exact hne h2
 refine ⟨⟨hst.size,hst.aP,fun b hb=>.inl (hst.up b hb),hst.bT,fun b hb=>hb.elim (fun h=>hst.dn b h) fun h=>.inr h.1,hst.kap,fun b hb hW=>?_,hst.io⟩,⟨fun k cs hk hlt=>?_,fun k cs hk hne=>?_,fun b l hb=>?_,fun b hb=>?_,hc'.lay.aP (fun _ h=>.inl h) fun _ _=>rfl⟩⟩
 ·show iV C σ' b=_
  unfold iV
  rw [ad fun h=>hW h.1]
  exact hst.ow b hb hW
 ·obtain ⟨vs,T,hB⟩:=hc'.bx k cs (by simp only [St.box,ad (show ¬k.dp=C.E.dp by omega)];exact hk)
  exact ⟨vs,T,hB.Fs rfl rfl (fun b l hb hor=>hend b l hb (by rcases hor with rfl | ⟨_,rfl⟩<;>simp only [dz.dep]<;>omega)) (fun _ h=>.inl h) hro (fun _ _ _ _ h=>h) (fun _ _ _ _=>rfl) fun c hcm=>u5 ((hc'.hpd k cs (by omega) hk).2 c hcm)⟩
 ·exact hc'.hpd k cs hne hk
 ·have:iV C σ' b=some l:=hb
  unfold iV at this
  split at this
  ·cases this
  ·exact hc'.own b l this
 ·rcases hb with hb | ⟨h1,l,h2,h3⟩
  ·obtain ⟨h4,h5⟩:=hc'.bT b hb
   refine ⟨h4,?_⟩
   show iV C σ' b=none
   unfold iV
   split
   ·rfl
   ·exact h5
  ·refine ⟨hc'.own b l h2,?_⟩
   show iV C σ' b=none
   unfold iV
   rw [ab ⟨h1,l,h2,h3⟩]
theorem NP(fr:List (Nat×AV))(d:Nat):ax (fr.map fun y=>(y.1,if y.2.copy=true then y.2 else .u)) d=if (ax fr d).copy=true then ax fr d else .u:=by
 induction fr with
 | nil=>simp [ax,AV.copy]
 | cons y fr ih=>
  obtain ⟨k,x⟩:=y
  simp only [bZ,qz]
  by_cases hk:k=d
  ·simp only [ab hk]
  ·simp only [ad hk];exact ih
theorem au.inner(h:au C st a w σ)(hro:C.E.ro=false)(hdp:∀ d cs,aO st.bx d=some cs→∀ c∈cs,c.deep C.E.dp=true){W':Nat→Prop}(hW:∀ b,σ.ow b≠none→Wc C σ b→W' b)(hn:∀ b,w.heap.size≤b→W' b){x:Nat}{n:Int}(hx:x<C.nt) :
  au ⟨C.P,W',⟨C.E.dp+1,false⟩,C.nt⟩ (st.inner C.E.dp x n) {tmps:=a.tmps.setIfInBounds x (.int .i64 n),defers:=[]} w σ:=by
 have hH:=h.TC hro hdp
 refine ⟨by simp [h.size],Marks.nil,fun d=>?_,fun k cs hk=>?_,fun k cs hne hk=>hH.deep k cs hk hne,hH.own,hH.bT,fun b hb=>⟨hn b hb,(h.new b hb).2⟩,h.lay⟩
 ·have ht:({tmps:=a.tmps.setIfInBounds x (.int .i64 n),defers:=[]} : Act).tmps.getD d undef=if x=d then .int .i64 n else a.tmps.getD d undef:=by
   have:=Fl a x d (.int .i64 n) (by rw [h.size];exact hx)
   simpa [Act.put] using this
  rw [ht]
  show SR _ w σ _ _ d (ax ((x,AV.i .i64 n)::_) d) _
  rw [qz]
  by_cases hd:x=d
  ·subst hd
   rw [ab rfl,ab rfl]
   exact VR.i _ _
  ·rw [ad hd,ad hd,NP]
   split
   ·rename_i hcp
    have:=(h.fr d).Bl hcp
    exact Fm (.inl hcp) this
   ·exact VR.u _
 ·simp only [St.inner,St.box] at hk
  split at hk
  ·simp [aO] at hk
  ·rename_i hne
   obtain ⟨vs,T,hB⟩:=hH.bx k cs hk (hH.deep k cs hk hne).1
   exact ⟨vs,T,(hB.uz (W':=W') hW).cx rfl rfl rfl⟩
end
section
variable {C:Cx}{st:St}{a:Act}{w:World}{σ:Sp}
theorem au.OW{D:Nat}(h:au C st a w σ)(ho:σ.ow D=none)(hI:¬σ.I D)(hW:C.W D)(hh:w.heap[D]? =some (.deferred (some []))) :
  au C st {a with defers:=GR D::a.defers} w (σ.add D (some (.mark C.E.dp)))∧cM C w σ w (σ.add D (some (.mark C.E.dp))):=by
 have hlt:D<w.heap.size:=(nq.1 hh).1
 have hne:∀ b l,σ.ow b=some l→b≠D:=fun b l hb e=>by rw [e,ho] at hb;cases hb
 have hs:iE C w σ w (σ.add D (some (.mark C.E.dp))) none:=by
  refine ⟨fun b l hb _=>⟨rfl,?_⟩,fun _ _=>rfl,fun _ h=>h,rfl,aS _,fun b l hb=>?_,fun b hb=>⟨(h.bT b hb).1,?_⟩⟩
  ·simp only [Sp.add,ad (hne b l hb),hb]
  ·simp only [Sp.add] at hb
   split at hb
   ·rename_i e;rw [e];exact hlt
   ·exact h.own b l hb
  ·have:b≠D:=fun e=>hI (e▸hb)
   simp only [Sp.add,ad this]
   exact (h.bT b hb).2
 have h1:=h.same hs
 refine ⟨⟨h1.size,?_,h1.fr,h1.bx,h1.hpd,h1.own,h1.bT,h1.new,h1.lay⟩,⟨aS _,fun _ _ _=>rfl,fun _ h=>h,fun _ _=>rfl,fun _ h=>.inl h,fun _ _=>rfl,fun b hb hn=>?_,rfl,rfl⟩⟩
 ·obtain ⟨Ds,h2,h3,h4⟩:=h.defers
  refine ⟨D::Ds,tB.2 ⟨fun hm=>hne D _ (h4 D hm).1 rfl,h2⟩,by show _::a.defers=_;rw [h3];rfl,fun D' hD'=>?_⟩
  rcases cR.1 hD' with rfl | hD'
  ·exact ⟨by simp [Sp.add],hW,hh⟩
  ·obtain ⟨h5,h6⟩:=h4 D' hD'
   exact ⟨by simp only [Sp.add,ad (hne D' _ h5),h5],h6⟩
 ·have:b≠D:=fun e=>hn (e▸hW)
  simp only [Sp.add,ad this]
end
section
variable {P:Program}{G:qv}{Ω:du}
set_option maxHeartbeats 1000000 in
theorem Ue(hΩ:iA P Ω){N:Nat}(hR:∀ k,k≤N→lX P (iM G (exec G Ω k))){n:Nat}(hn:n≤N){C:Cx}{st:St}{a:Act}{w:World}{σ:Sp}{r:aI×St}{g:Operand}{g':ba}{x:Nat}{y b:Code}{y' b':AC}{nt:Nat}{Q:Exit→Act→World→Prop}{ns:List Int}
  (hP:C.P=P) (hro:C.E.ro=false) (hnt:nt≤C.nt) (hx:x<nt) (hit:xG Ω (st.ev g')=some ns) (he:rounds C.E.dp (exec G Ω n ⟨C.E.dp+1,false⟩) x y' b' ns st=some r)
  (hlg:bK g g'=true) (hly:cL P nt y y'=true) (hpy:fP y y'=true) (hlb:cL P nt b b'=true) (hpb:fP b b'=true) (hc:au C st a w σ)
  (hQ:∀ a' w' σ',cM C w σ w' σ'→au C r.2 a' w' σ'→Q (sG r.1) a' w'):(Code.rangeFunc g #[x] y b).wp P Q a w:=by
 subst hP
 obtain ⟨f,c,hgv,hcp,es,h1,h2⟩:∃ f c,st.ev g'= .f f [c]∧(AV.f f [c]).copy=true∧∃ es,Ω f [.u,c]=some (.l 0 es)∧so es=some ns:=by
  unfold xG at hit
  split at hit
  ·rename_i f c hg
   split at hit
   ·rename_i hcp
    obtain ⟨z,h1,h2⟩:=ah.1 hit
    split at h2
    ·rename_i es;exact ⟨f,c,hg,hcp,es,h1,h2⟩
    ·cases h2
   ·cases hit
  ·cases hit
 have hv:VR w σ.I σ.κ (.f f [c]) (a.eval g):=by rw [←hgv];exact hc.uG hlg (by rw [hgv];exact hcp)
 obtain ⟨gf,lb,hg,hent,hcall⟩:=hΩ.it f c es ns h1 h2 w σ.I σ.κ (a.eval g) (hc.new _ (aS _)).2 (fun b hb=>(hc.bT b hb).1) hv
 refine (wpIn_wide (n:=2)).1 (wpIn_rangeFunc ?_)
 intro fn _
 obtain ⟨rec,hrec⟩:∃ rec:LoopState→Option Code→Loop,rec=fun st pe=>{state:=st,pending:=pe,fn,tmps:=a.tmps,params:=#[x],assign:=y,body:=b,defers:=w.heap.size}:=⟨_,rfl⟩
 obtain ⟨W1,hW1⟩:∃ W1,(w.alloc (.deferred (some []))).alloc (.loop (rec .ready none))=W1:=⟨_,rfl⟩
 have hL1:W1.heap[w.heap.size+1]? =some (.loop (rec .ready none)):=by
  rw [←hW1];have:=World.alloc_heap_new (w.alloc (.deferred (some []))) (.loop (rec .ready none));rwa [World.size_alloc] at this
 have hK1:W1.heap[w.heap.size]? =some (.deferred (some [])):=by
  rw [←hW1];exact (Below.heap_alloc _ _ _ (by simp)).trans (World.alloc_heap_new w _)
 have hB1:Below w.heap.size w W1:=by rw [←hW1];exact ((Below.refl _ w).alloc (aS _) _).alloc (by simp) _
 have hs1:W1.heap.size=w.heap.size+2:=by rw [←hW1];simp
 obtain ⟨l,hldef⟩:∃ l,l=w.heap.size+1:=⟨_,rfl⟩
 obtain ⟨D,hDdef⟩:∃ D,D=w.heap.size:=⟨_,rfl⟩
 have hlD:D≠l:=by omega
 have hCWl:C.W l:=(hc.new l (by omega)).1
 have hCWD:C.W D:=(hc.new D (by omega)).1
 rw [←hldef] at hL1
 rw [←hDdef] at hK1
 refine ⟨l,[GR D],W1,{target:=.fn (.func gf) lb,args:=#[.func (.yield l) #[] #[]]},W1,gf,#[.func (.yield l) #[] #[]]++lb,W1,?_,?_,fun _ _=>trivial,?_,fun h=>by simp [Fence.wide] at h,?_⟩
 ·rw [←hW1,hrec,hldef,hDdef];exact run_enterLoop_outer _ _ _ _ _
 ·simp only [resolve,hg]
  simp [go_sem]
 ·simp [invoke,go_sem,hent]
 let J:(Nat→Prop)→List Int→World→Prop:=fun T pre W=>T D∧T l∧(∀ b,T b→w.heap.size≤b∧b<W.heap.size)∧W.heap[l]? =some (.loop (rec .ready none))∧W.heap[D]? =some (.deferred (some []))∧
  ∃ rest st1 σ1,ns=pre++rest∧rounds C.E.dp (exec G Ω n ⟨C.E.dp+1,false⟩) x y' b' rest st1=some r∧au C st1 a W σ1∧cM C w σ W σ1∧∀ b,T b→σ1.ow b=none∧¬σ1.I b
 let Jx:List Int→World→Prop:=fun _ W=>∃ c σ1,W.heap[l]? =some (.loop (rec .done (some c)))∧W.heap[D]? =some (.deferred (some []))∧au C r.2 a W σ1∧cM C w σ W σ1∧(σ1.ow D=none∧¬σ1.I D)∧(σ1.ow l=none∧¬σ1.I l)∧
  ((r.1= .ret∧c= .ret)∨∃ id,r.1= .ex id∧c= .exit id)
 have hJ0:J (fun b=>b=D∨b=l) [] W1:=by
  refine ⟨.inl rfl,.inr rfl,fun b hb=>by rcases hb with rfl | rfl<;>omega,hL1,hK1,ns,st,σ,rfl,he,hc.grown hB1,cM.grown hB1 fun b hb=>(hc.bT b hb).1,fun b hb=>⟨?_,fun hI=>?_⟩⟩
  ·cases ho:σ.ow b with
   | none=>rfl
   | some L=>have:=hc.own b L ho;rcases hb with rfl | rfl<;>omega
  ·have:=(hc.bT b hI).1;rcases hb with rfl | rfl<;>omega
 refine (hcall l (2 - 1) J Jx (fun b=>b=D∨b=l) W1 hB1.size (fun b hb=>hB1.block b (hc.bT b hb).1) ?_ ?_ hJ0).mono ?_
 ·
  rintro T pre W W' ⟨hTD,hTl,hTb,hl,hD,rest,st1,σ1,hns,hrd,hcc,hst,hTo⟩ hbel
  refine ⟨.inl hTD,.inl hTl,fun b hb=>?_,(hbel.block l (hTb l hTl).2).trans hl,(hbel.block D (hTb D hTD).2).trans hD,rest,st1,σ1,hns,hrd,hcc.grown hbel,hst.trans (cM.grown hbel fun b hb=>(hcc.bT b hb).1),fun b hb=>?_⟩
  ·rcases hb with hb | hb
   ·exact ⟨(hTb b hb).1,eb (hTb b hb).2 hbel.size⟩
   ·exact ⟨bQ hst.size hb.1,hb.2⟩
  ·rcases hb with hb | hb
   ·exact hTo b hb
   ·refine ⟨?_,fun hI=>?_⟩
    ·cases ho:σ1.ow b with
     | none=>rfl
     | some L=>have:=hcc.own b L ho;omega
    ·have:=(hcc.bT b hI).1;omega
 ·
  rintro T pre nn rest W m hns ⟨hTD,hTl,hTb,hl,hD,rest0,st1,σ1,hns0,hrd,hcc,hst,hTo⟩
  obtain rfl:rest0=nn::rest:=List.append_cancel_left (hns0.symm.trans hns)
  simp only [rounds] at hrd
  split at hrd
  case isFalse=>cases hrd
  rename_i hdeep
  obtain ⟨q,hq,hrd⟩:=ah.1 hrd
  obtain ⟨qe,qs⟩:=q
  cases qe with
  | ex id=>cases hrd
  | ret=>cases hrd
  | nrm=>
  simp only at hrd
  obtain ⟨r1,hr1,hrd⟩:=ah.1 hrd
  have hdp:∀ d cs,aO st1.bx d=some cs→∀ c∈cs,c.deep C.E.dp=true:=fun d cs hb c hm=>mF (nx (p:=fun y=>AV.ee C.E.dp y) _ hdeep d cs hb) c hm
  have hWc:∀ b,W.heap.size≤b→Wc C σ1 b:=fun b hb=>⟨⟨(hcc.new b hb).1,fun e=>absurd (hcc.own b _ e) (lQ.2 hb)⟩,fun d=>⟨fun e=>absurd (hcc.own b _ e) (lQ.2 hb),fun e=>absurd (hcc.own b _ e) (lQ.2 hb)⟩⟩
  have hWl:Wc C σ1 l:=⟨⟨hCWl,fun e=>by rw [(hTo l hTl).1] at e;cases e⟩,fun d=>⟨fun e=>(by rw [(hTo l hTl).1] at e;cases e),fun e=>(by rw [(hTo l hTl).1] at e;cases e)⟩⟩
  let C1:Cx:=⟨C.P,fun b=>Wc C σ1 b∧¬T b,⟨C.E.dp+1,false⟩,C.nt⟩
  let C3:Cx:=⟨C.P,Wc C σ1,⟨C.E.dp+1,false⟩,C.nt⟩
  have hin:=hcc.inner hro hdp (W':=fun b=>Wc C σ1 b∧¬T b) (x:=x) (n:=nn) (fun b ho hw=>⟨hw,fun ht=>ho (hTo b ht).1⟩) (fun b hb=>⟨hWc b hb,fun ht=>absurd (hTb b ht).2 (lQ.2 hb)⟩) (eb hx hnt)
  have hy:(Instr.yield l #[.int .i64 nn]).run C.P W= .ok (.round l fn (a.tmps.setIfInBounds x (.int .i64 nn)) y b) W:=by
   have:=run_yield (P:=C.P) (args:=#[.int .i64 nn]) hl (by rw [hrec];simp)
   rw [hrec] at this
   rw [this];simp
  refine ⟨fn,_,y,b,hy,roundIn_of_wpIn trivial ?_⟩
  refine Gh hΩ l m N hR n hn ⟨C.E.dp+1,false⟩ y' (st1.inner C.E.dp x nn) (.nrm,qs) y nt C1 _ W σ1 _ rfl rfl hnt hq hly hpy (by rintro ⟨_,_,h⟩;exact h) hin fun a1 w1 σ2 hs2 hc2=>?_
  have hl1:w1.heap[l]? =some (.loop (rec .ready none)):=(hs2.aP l (hTb l hTl).2 fun h=>h.2 hTl).trans hl
  have hTo2:∀ b,T b→σ2.ow b=none∧¬σ2.I b:=fun b hb=>⟨(hs2.ow b (hTb b hb).2 fun h=>h.2 hb).trans (hTo b hb).1,fun h=>(hs2.dn b h).elim (hTo b hb).2 fun h=>h.2 hb⟩
  refine ⟨_,run_beginRound hl1 (by rw [hrec]),?_⟩
  have hlt1:l<w1.heap.size:=(nq.1 hl1).1
  have hc2':=hc2.rT (o:=.loop {rec .ready none with state:=.busy}) (hTo2 l hTl).1 (hTo2 l hTl).2
  refine Gh hΩ l m N hR n hn ⟨C.E.dp+1,false⟩ b' qs r1 b nt C1 a1 _ σ2 _ rfl rfl hnt hr1 hlb hpb (by rintro ⟨_,_,h⟩;exact h) hc2' fun a2 w3 σ3 hs3 hc3=>?_
  have hsz2:(w1.putObj l (.loop {rec .ready none with state:=.busy})).heap.size=w1.heap.size:=by simp [World.putObj]
  have hTlt1:∀ b,T b→b<w1.heap.size:=fun b hb=>eb (hTb b hb).2 hs2.size
  have hl3:w3.heap[l]? =some (.loop {rec .ready none with state:=.busy}):=(hs3.aP l (by rw [hsz2];exact hlt1) fun h=>h.2 hTl).trans (World.putObj_heap_same hlt1)
  have hTo3:∀ b,T b→σ3.ow b=none∧¬σ3.I b:=fun b hb=>⟨(hs3.ow b (by rw [hsz2];exact hTlt1 b hb) fun h=>h.2 hb).trans (hTo2 b hb).1,fun h=>(hs3.dn b h).elim (hTo2 b hb).2 fun h=>h.2 hb⟩
  have hst3:∀ o,cM C3 W σ1 (w3.putObj l o) σ3:=fun o=>
   ((cM.uz (C:=C1) (W':=Wc C σ1) (fun _ h=>h.1) hs2).trans (cM.rT (C:=C3) hWl (hTo2 l hTl).2)).trans ((cM.uz (C:=C1) (W':=Wc C σ1) (fun _ h=>h.1) hs3).trans (cM.rT (C:=C3) hWl (hTo3 l hTl).2))
  have hc4:∀ o,au C3 r1.2 a2 (w3.putObj l o) σ3:=fun o=>(au.uz (C:=C1) (W':=Wc C σ1) (fun _ _ h=>(show Wc C σ1 _∧¬T _ from h).1) (fun b hb=>hWc b (bQ hs2.size (by rw [←hsz2];exact bQ hs3.size hb))) hc3).rT (hTo3 l hTl).1 (hTo3 l hTl).2
  have hlv:∀ o,_∧_:=fun o=>au.leave (hst3 o) (hc4 o) rfl
  have hcd:∀ o,_∧_:=fun o=>hcc.called (hlv o).1 (hlv o).2
  have hT5:∀ o b,T b→iV C3 σ3 b=none∧¬wI C3 (w3.putObj l o) σ3 b:=fun o b hb=>by
   refine ⟨?_,?_⟩
   ·unfold iV
    split
    ·rfl
    ·exact (hTo3 b hb).1
   ·rintro (h | ⟨_,L,h,_⟩)
    ·exact (hTo3 b hb).2 h
    ·rw [(hTo3 b hb).1] at h;cases h
  have hTs:∀ o b,T b→b≠l→(w3.putObj l o).heap[b]? =W.heap[b]? :=fun o b hb hbl=>
   (World.putObj_heap_other hbl).trans ((hs3.aP b (by rw [hsz2];exact hTlt1 b hb) fun h=>h.2 hb).trans ((World.putObj_heap_other hbl).trans (hs2.aP b (hTb b hb).2 fun h=>h.2 hb)))
  have hD4:∀ o,(w3.putObj l o).heap[D]? =some (.deferred (some [])):=fun o=>(hTs o D hTD hlD).trans hD
  have hl4:∀ o,(w3.putObj l o).heap[l]? =some o:=fun o=>World.putObj_heap_same (nq.1 hl3).1
  have hI4:∀ o b,σ.I b→(w3.putObj l o).heap[b]? =W.heap[b]? :=fun o b hb=>(hcd o).1.bT b (hst.up b hb)
  obtain ⟨re,rs⟩:=r1
  cases re with
  | nrm=>
   simp only at hrd
   have hr:(Instr.endRound l none).run C.P w3= .ok (.bool true) (w3.putObj l (.loop (rec .ready none))):=by
    have:=run_endRound (P:=C.P) none hl3
    rw [hrec] at this ⊢
    exact this
   generalize hoo:Obj.loop (rec .ready none)=o at hr
   refine ⟨_,_,hr,.inl ⟨rfl,⟨hTD,hTl,fun b hb=>⟨(hTb b hb).1,eb (hTb b hb).2 (hcd o).1.size⟩,by rw [hl4,hoo],hD4 o,rest,_,_,by rw [hns];simp,hrd,(hcd o).2,hst.trans (hcd o).1,fun b hb=>hT5 o b hb⟩,fun b hb=>?_,fun b hb=>hI4 o b hb,(hcd o).1.size⟩⟩
   by_cases hbl:b=l
   ·rw [hbl,hl4,hl,hoo]
   ·exact hTs o b hb hbl
  | ret=>
   obtain rfl:=aa hrd
   have hr:(Instr.endRound l (some .ret)).run C.P w3= .ok (.bool false) (w3.putObj l (.loop (rec .done (some .ret)))):=by
    have:=run_endRound (P:=C.P) (some .ret) hl3
    rw [hrec] at this ⊢
    exact this
   generalize hoo:Obj.loop (rec .done (some .ret))=o at hr
   exact ⟨_,_,hr,.inr ⟨rfl,.ret,_,by rw [hl4,hoo],hD4 o,(hcd o).2,hst.trans (hcd o).1,hT5 o D hTD,hT5 o l hTl,.inl ⟨rfl,rfl⟩⟩⟩
  | ex id=>
   obtain rfl:=aa hrd
   have hr:(Instr.endRound l (some (.exit id))).run C.P w3= .ok (.bool false) (w3.putObj l (.loop (rec .done (some (.exit id))))):=by
    have:=run_endRound (P:=C.P) (some (.exit id)) hl3
    rw [hrec] at this ⊢
    exact this
   generalize hoo:Obj.loop (rec .done (some (.exit id)))=o at hr
   exact ⟨_,_,hr,.inr ⟨rfl,.exit id,_,by rw [hl4,hoo],hD4 o,(hcd o).2,hst.trans (hcd o).1,hT5 o D hTD,hT5 o l hTl,.inr ⟨id,rfl,rfl⟩⟩⟩
 ·
  rintro e W ⟨⟨v,rfl⟩,(⟨T,hTD,hTl,hTb,hl,hD,rest,st1,σ1,hns,hrd,hcc,hst,hTo⟩ | ⟨_,_,_,_,c,σ1,hl,hD,hcc,hst,hoD,hol,hx⟩)⟩
  ·have hrest:rest=[]:=by
    have:=an List.length hns
    rw [cH] at this
    exact vN.1 (by omega)
   subst hrest
   obtain rfl:=aa hrd
   have hr:=run_endLoop (P:=C.P) hl (by rw [hrec];simp)
   rw [hrec] at hr
   refine ⟨none,_,hr,?_⟩
   have h3:=(hcc.rT (o:=.loop {rec .ready none with state:=.exhausted}) (hTo l hTl).1 (hTo l hTl).2)
   have hD3:(W.putObj l (.loop {rec .ready none with state:=.exhausted})).heap[D]? =some (.deferred (some [])):=(World.putObj_heap_other hlD).trans hD
   obtain ⟨h4,h5⟩:=h3.OW (hTo D hTD).1 (hTo D hTD).2 hCWD hD3
   rw [hrec] at h4 h5
   exact hQ _ _ _ ((hst.trans (cM.rT hCWl (hTo l hTl).2)).trans h5) h4
  ·have hr:=run_endLoop (P:=C.P) hl (by rw [hrec];simp)
   rw [hrec] at hr
   refine ⟨some c,_,hr,?_⟩
   have h3:=(hcc.rT (o:=.loop {rec .done (some c) with state:=.exhausted}) hol.1 hol.2)
   have hD3:(W.putObj l (.loop {rec .done (some c) with state:=.exhausted})).heap[D]? =some (.deferred (some [])):=(World.putObj_heap_other hlD).trans hD
   obtain ⟨h4,h5⟩:=h3.OW hoD.1 hoD.2 hCWD hD3
   rw [hrec] at h4 h5
   have hq:=hQ _ _ _ ((hst.trans (cM.rT hCWl hol.2)).trans h5) h4
   rcases hx with ⟨h6,rfl⟩ | ⟨id,h6,rfl⟩
   ·rw [h6] at hq
    exact wpIn_ret hq
   ·rw [h6] at hq
    exact wpIn_exit hq
end
end Go.Proofs.YtkkkkondjclcnaaGreat.A
