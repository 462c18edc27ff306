/- Code and functions, first part: functions. -/
import Derived.Test.YtlmphbbhaeampaaGreatAbsK
import Derived.RangeFuncLeaves
import Derived.RangeFuncOwn
import Derived.RangeFuncCalls
import Derived.OrdersIn
import Derived.TacticsIn
set_option linter.all false
namespace Go.Proofs.YtlmphbbhaeampaaGreat.A
open Go
variable [cN]
def HS(o:Oper):Bool:=
 match o.op with
 | .defer _=>false
 | _=>true
def gD:Code→AC→Bool
 | .skip,.sk=>true
 | .label _,.sk=>true
 | .region _ ops false,.rg _ _ _ _=>ops.all HS
 | .region _ ops true,.dg _ _ _ _ _=>ops.all HS
 | .seq a b,.sq x y=>gD a x&&gD b y
 | .cond _ a b,.ite _ x y=>gD a x&&gD b y
 | .block _ b,.bl _ x=>gD b x
 | .exit _,.ex _=>true
 | .ret,.rt=>true
 | c,.kp _ _ x=>gD c x
 | _,.bad=>true
 | _,_=>false
def dF(P:Program)(nt:Nat):Code→AC→Bool
 | .skip,.sk=>true
 | .label _,.sk=>true
 | .region _ ops false,.rg _ gs _ _=>Cn P nt ops ops.toList gs
 | .region _ ops true,.dg _ mks gs _ _=>Kr P nt ops mks gs
 | .seq a b,.sq x y=>dF P nt a x&&dF P nt b y
 | .cond c a b,.ite c' x y=>cJ c c'&&dF P nt a x&&dF P nt b y
 | .block id b,.bl id' x=>id==id'&&dF P nt b x
 | .loop b,.lp x=>dF P nt b x
 | .exit id,.ex id'=>id==id'
 | .ret,.rt=>true
 | c,.kp _ _ x=>dF P nt c x
 | _,.bad=>true
 | .rangeFunc g ps y b,.ru g' x y' b'=>cJ g g'&&(ps==#[x]&&(decide (x<nt)&&(dF P nt y y'&&(gD y y'&&(dF P nt b b'&&gD b b')))))
 | _,_=>false
def vY:bc→Exit
 | .nrm=>.normal
 | .ex id=>.exit id
 | .ret=>.ret
def Tr(P:Program)(f:FuncId)(fn':bU):Bool:=
 match P.funcs[f]? with
 | some fn=>match fn.body with
  | some c=>!(fn.name== "runtime.NumGoroutine")&&dF P fn.ntmps c fn'.code&&gy P fn.results.toList fn'.res
  | none=>false
 | none=>false
def Cq(P:Program)(G:sd):Prop:=∀ f fn',G f=some fn'→Tr P f fn'=true
variable {nt:Nat}{c:Code}
theorem Sh{P:Program}(h:dF P nt c .sk=true):c= .skip∨∃ l,c= .label l:=by
 cases c with
 | region id ops dr=>grind [dF]
 | skip=>exact .inl rfl
 | label l=>grind
 | _=>simp [dF] at h
variable {pre:List wS}{kf kb:List Nat}
theorem Si{P:Program}{gs:List dE}(h:dF P nt c (.rg pre gs kf kb)=true):∃ id ops,c= .region id ops false∧Cn P nt ops ops.toList gs=true:=by
 cases c with
 | region id ops dr=>cases dr<;>simp [dF] at h;grind
 | _=>simp [dF] at h
theorem Sj{P:Program}{mks:List Nat}{gs:List cz}(h:dF P nt c (.dg pre mks gs kf kb)=true):∃ id ops,c= .region id ops true∧Kr P nt ops mks gs=true:=by
 cases c with
 | region id ops dr=>
  cases dr with
  | false=>simp [dF] at h
  | true=>grind [dF]
 | _=>simp [dF] at h
variable {x y:AC}
theorem Sk{P:Program}(h:dF P nt c (.sq x y)=true):∃ c1 c2,c= .seq c1 c2∧dF P nt c1 x=true∧dF P nt c2 y=true:=by
 cases c with
 | region id ops dr=>grind [dF]
 | seq c1 c2=>grind [dF]
 | _=>simp [dF] at h
theorem Pr{P:Program}{z:bY}(h:dF P nt c (.ite z x y)=true):∃ cd c1 c2,c= .cond cd c1 c2∧(cJ cd z=true∧dF P nt c1 x=true)∧dF P nt c2 y=true:=by
 cases c with
 | region id ops dr=>grind [dF]
 | cond cd c1 c2=>grind [dF]
 | _=>simp [dF] at h
variable {id:Nat}
theorem Sl{P:Program}(h:dF P nt c (.bl id x)=true):∃ c1,c= .block id c1∧dF P nt c1 x=true:=by
 cases c with
 | region id ops dr=>grind [dF]
 | block id' c1=>
  grind [dF]
 | _=>simp [dF] at h
theorem Sm{P:Program}(h:dF P nt c (.lp x)=true):∃ c1,c= .loop c1∧dF P nt c1 x=true:=by
 cases c with
 | region id ops dr=>grind [dF]
 | loop c1=>grind [dF]
 | _=>simp [dF] at h
theorem Sn{P:Program}(h:dF P nt c (.ex id)=true):c= .exit id:=by
 cases c with
 | region id ops dr=>grind [dF]
 | exit id'=>grind [dF]
 | _=>simp [dF] at h
theorem So{P:Program}(h:dF P nt c .rt=true):c= .ret:=by
 grind [dF]
theorem Sq{P:Program}(h:dF P nt c (.kp kf kb x)=true):dF P nt c x=true:=by
 grind [dF]
theorem ZR{P:Program}{g':bY}{x:Nat}{y' b':AC}(h:dF P nt c (.ru g' x y' b')=true):∃ g y b,c= .rangeFunc g #[x] y b∧cJ g g'=true∧x<nt∧dF P nt y y'=true∧gD y y'=true∧dF P nt b b'=true∧gD b b'=true:=by
 cases c with
 | region id ops dr=>grind [dF]
 | rangeFunc g ps y b=>
  grind [dF]
 | _=>simp [dF] at h
def LW(P:Program)(c:Code)(Q:Exit→Act→World→Prop)(a:Act)(w:World):Prop:=
 ∀ (b:Frame)(k:List Item)(cs:List Frame),∃ e a' w',Q e a' w'∧Arrives P (lone (b.at a (.code c::.inLoop c::k)) cs w) b k cs e a' w'
variable {a:Act}{w:World}
theorem LW.loop{P:Program}{Q:Exit→Act→World→Prop}(h:LW P c Q a w):(Code.loop c).wp P Q a w:=by
 intro b k cs
 obtain ⟨e,a',w',hq,ak⟩:=h b k cs
 exact ⟨e,a',w',hq,.of_steps (.one step_loop) ak⟩
theorem LW.round{P:Program}{Q:Exit→Act→World→Prop}(h:c.wp P (Exit.then (LW P c Q) Q) a w):LW P c Q a w:=by
 intro b k cs
 obtain ⟨e,a₁,w₁,hq,ak⟩:=h b (.inLoop c::k) cs
 cases e with
 | normal=>
  obtain ⟨e₂,a₂,w₂,a8,aP⟩:=hq b k cs
  exact ⟨e₂,a₂,w₂,a8,.of_steps (Steps.trans ak (.one step_inLoop)) aP⟩
 | exit id=>exact ⟨_,a₁,w₁,hq,.pass (x:=.inLoop c) rfl (fun _ _=>.inl (by simp)) ak⟩
 | goto l=>exact ⟨_,a₁,w₁,hq,.pass (x:=.inLoop c) rfl (fun _ _=>.inl (by simp)) ak⟩
 | ret=>exact ⟨_,a₁,w₁,hq,.pass (x:=.inLoop c) rfl (fun _ _=>.inl (by simp)) ak⟩
 | panic ch=>exact ⟨_,a₁,w₁,hq,.pass (x:=.inLoop c) rfl (fun _ _=>.inl (by simp)) ak⟩
 | outgrown=>exact ⟨_,a₁,w₁,hq,.pass (x:=.inLoop c) rfl (fun _ _=>.inl (by simp)) ak⟩
def NJ(P:Program)(X:bz):Prop:=∀ (E:Env)(ac:AC)(st:St)(r:bc×St)(c:Code)(nt:Nat)(C:Cx)(a:Act)(w:World)(σ:Sp)(Q:Exit→Act→World→Prop),C.P=P→C.E=E→nt≤C.nt→X E ac st=some r→dF P nt c ac=true→aE C st a w σ→
 (∀ a' w' σ',dJ C w σ w' σ'→aE C r.2 a' w' σ'→Q (vY r.1) a' w')→c.wp P Q a w
def Ps(P:Program)(X:bz):Prop:=∀ (E:Env)(ac:AC)(st:St)(r:bc×St)(c:Code)(nt:Nat)(C:Cx)(a:Act)(w:World)(σ:Sp)(Q:Exit→Act→World→Prop),C.P=P→C.E=E→nt≤C.nt→X E (.lp ac) st=some r→dF P nt c ac=true→aE C st a w σ→
 (∀ a' w' σ',dJ C w σ w' σ'→aE C r.2 a' w' σ'→Q (vY r.1) a' w')→LW P c Q a w
theorem An:∀ (args:List AV)(i d:Nat),aQ (lC i args) d=if i≤d then (args[d - i]?).getD .u else .u
 | [],i,d=>by simp [lC,aQ]
 | x::xs,i,d=>by
  simp only [lC,aQ,An xs (i+1) d]
  grind
variable {P:Program}{G:sd}{Ω:ej}
variable {C:Cx}{σ:Sp}{cs:List AV}
theorem lE.cx{C':Cx}{k:Key}{vs:Array Value}{T:TypeId}(h:lE C w σ k cs vs T)(hP:C'.P=C.P)(hW:C'.W=C.W)(hE:C'.E=C.E):lE C' w σ k cs vs T:=by
 refine ⟨h.hh,h.size,h.ow,fun hm=>by rw [hW];exact h.wr (by grind),h.one,fun off c hc=>?_,h.ty,h.kb⟩
 have:=h.cell off c hc
 simp_all [CR]
theorem A2{P:Program}{f:FuncId}{fn:Func}{args:Array Value}{R:Ending→World→Prop}(hf:P.funcs[f]? =some fn)(hb:fn.body=some c)(h:c.wp P (bodyPostM Fence.wide 0 P fn R) {tmps:=args++Array.replicate (fn.ntmps - args.size) undef,defers:=[]} w):Calls P f args w R:=
 (callsIn_wide (n:=0)).1 (callsIn_of_wp_marks hf hb trivial (wpIn_wide.2 h) rfl)
theorem aE.Sr{C:Cx}{st:St}{w0:World}{σ0 σ:Sp}(a:Act):∀ (Ds:List Nat)(w:World),Ds.Nodup→(∀ D∈Ds,σ.ow D=some (.mark C.E.dp)∧C.W D∧w.heap[D]? =some (.deferred (some [])))→
  dJ C w0 σ0 w σ→aE C st {a with defers:=[]} w σ→∃ w2,dJ C w0 σ0 w2 σ∧aE C st {a with defers:=[]} w2 σ∧
  ∀ (fn:Func)(R:Ending→World→Prop)(v:Value),(results fn a.tmps).run C.P w2= .ok v w2→R (.returned v) w2→LeavesInM Fence.wide 0 C.P fn a.tmps R (Ds.map Kj) .returning w
 | [],w,_,_,F,h1=>⟨w,F,h1,fun fn R v hr hR=>⟨v,hr,hR⟩⟩
 | D::Ds,w,an,hm,F,h=>by
  obtain ⟨ho,hW,hD⟩:=hm D (by simp)
  have aF:∀ b,b≠D→(w.putObj D (.deferred none)).heap[b]? =w.heap[b]? :=fun b hb=>World.putObj_heap_other hb
  have hI:∀ b,σ.I b→b≠D:=fun b hb e=>by
   subst e
   rw [(h.da b hb).2] at ho;cases ho
  have ar:(w.putObj D (.deferred none)).heap.size=w.heap.size:=by simp_all
  have hs:jB C w σ (w.putObj D (.deferred none)) σ (some (.mark C.E.dp)):=by
   refine ⟨fun b l hb hl=>⟨aF b fun e=>?_,hb⟩,fun b hb=>aF b (hI b hb),fun _ h=>h,rfl,xt ar.symm,fun b l hb=>by rw [ar];exact h.own b l hb,fun b hb=>by rw [ar];exact h.da b hb⟩
   subst e
   rw [ho] at hb
   exact hl hb.symm
  have bu:dJ C w0 σ0 (w.putObj D (.deferred none)) σ:=F.trans ⟨xt ar.symm,by grind,fun _ h=>h,fun b hb=>aF b (hI b hb),fun _ h=>.inl h,fun _ _=>rfl,fun _ _ _=>rfl,rfl,rfl⟩
  obtain ⟨ct,ca⟩:=xE.1 an
  obtain ⟨w2,h2,h3,h4⟩:=Sr a Ds (w.putObj D (.deferred none)) ca ((by grind)) bu (h.Vo hs ⟨fun _ _ _ _=>by simp,fun _ _ _=>by simp,fun _ _ _ _ _ _ _=>by simp,fun _=>by simp⟩ Marks.nil)
  exact ⟨w2,h2,h3,fun fn R v hr hR=>⟨by simp,.inl ⟨D,_,rfl,run_takeDeferred hD,h4 fn R v hr hR⟩⟩⟩
variable {st:St}
theorem aE.Pt{w0:World}{σ0:Sp}(F:dJ C w0 σ0 w σ)(h:aE C st a w σ):∃ w2,dJ C w0 σ0 w2 σ∧aE C st {a with defers:=[]} w2 σ∧
  ∀ (fn:Func)(R:Ending→World→Prop)(v:Value),(results fn a.tmps).run C.P w2= .ok v w2→R (.returned v) w2→LeavesInM Fence.wide 0 C.P fn a.tmps R a.defers .returning w:=by
 have h1:aE C st {a with defers:=[]} w σ:=⟨h.size,Marks.nil,h.fr,h.bx,h.hpd,h.own,h.da,h.new,h.lay⟩
 obtain ⟨Ds,h2,h3,h4⟩:=h.defers
 grind [aE.Sr]
noncomputable def jP(C:Cx)(σ:Sp):Nat→Option e8:=fun b=>open Classical in if C.W b∧∃ l,σ.ow b=some l∧l.dep=C.E.dp then none else σ.ow b
variable {rs:List RV}{e:bC}
theorem NK(h:st.rowOf rs=some e):∃ n m t es,rs=[.r n]∧aQ st.fr m= .o t es∧(m=n∨aQ st.fr n= .r (.s m))∧e= .row t es:=by
 unfold St.rowOf at h
 grind
theorem Ks:∀ (cs:List AV)(j i:Nat)(k:Key)(n sz:Nat),J8 j cs=some (i,k,n,sz)→∃ m,i=j+m∧cs[m]? =some (.sp k 0 n sz)
 | [],j,i,k,n,sz,h=>by cases h
 | c::cs,j,i,k,n,sz,h=>by
  have S:J8 (j+1) cs=some (i,k,n,sz)→∃ m,i=j+m∧(c::cs)[m]? =some (.sp k 0 n sz):=fun h=>by
   obtain ⟨m,rfl,hm⟩:=Ks cs (j+1) i k n sz h
   grind
  cases c with
  | sp k2 o n2 sz2=>
   cases o with
   | zero=>
    cases aq h
    grind
   | succ o=>exact S h
  | _=>exact S h
variable {E:Env}
theorem NL(h:st.S9 E rs=some e):∃ z cs i k n sz bs,rs=[z]∧(st.OV E.dp z=some (.a cs)∧AV.sU cs=true)∧cs[i]? =some (.sp k 0 n sz)∧bH st.bx k.d=some bs∧k.dp=E.dp∧1000000≤k.d∧AV.cG bs=true∧AV.cG (cs.set i .z)=true∧e= .Kp i (cs.set i .z) (aaJ k.d) n sz bs:=by
 unfold St.S9 at h
 grind [Option.bind_eq_some_iff,Ks]
theorem HT{x:AV}(h:st.end_ E rs=some (.ret x)):st.result E rs=some x:=by
 grind [St.end_,NK,NL]
theorem Ss(h:st.end_ E rs=some (.new cs)):st.oa E rs=some cs:=by
 grind [St.end_,NK,NL]
theorem VD(h:st.oa E rs=some cs):∃ n k,rs=[.t n]∧aQ st.fr n= .p k 0∧k.dp=E.dp∧bH st.bx k.d=some cs∧cs.all vu=true:=by
 unfold St.oa at h
 grind [Option.bind_eq_some_iff]
variable {X:bz}
theorem VE(hT:Cq P G)(hX:NJ P X):∀ dp f ys hp x am,kt G X ⟨dp,false⟩ f ys hp=some (.ret x,am)→(∀ y∈ys,y.copy=true)→DC P dp f ys hp x am:=by
 intro dp f ys hp x am he bR
 obtain ⟨fn',hG,Z⟩:=au.1 he
 obtain ⟨r,hr,ae⟩:=au.1 Z
 have H:=hT f fn' hG
 unfold Tr at H
 split at H
 ·rename_i fn hf
  split at H
  ·rename_i c hb
   simp only [aY,qa] at H
   obtain ⟨⟨ag,ai⟩,av⟩:=H
   have aj:∃ e,vY r.1=e∧(e= .normal∨e= .ret)∧(r.2.result ⟨dp,false⟩ fn'.res)=some x∧r.2.hp=am:=by
    cases aJ:r.1 with
    | ex id=>grind
    | nrm=>
     rw [aJ] at ae
     obtain ⟨q,hq,be⟩:=au.1 ae
     have h1:q= .ret x:=by grind
     exact ⟨_,rfl,.inl rfl,HT (h1▸hq),by grind⟩
    | ret=>
     rw [aJ] at ae
     obtain ⟨q,hq,be⟩:=au.1 ae
     have h1:q= .ret x:=by grind
     exact ⟨_,rfl,.inr rfl,HT (h1▸hq),by grind⟩
   obtain ⟨e,bd,bb,hq,a4⟩:=aj
   have ao:x.pure=true:=by
    obtain ⟨xs,_,h2⟩:=au.1 hq
    split at h2
    ·rename_i hp
     obtain rfl:=aq h2
     match xs,hp with
     | [],_=>rfl
     | [y],hp=>simpa [Fg,AV.cG] using hp
     | y::z::ys,hp=>exact hp
    ·cases h2
   refine ⟨ao,⟨fn,hf,by rw [hb];rfl,ag⟩,fun W w σ B aD hH ar al=>?_⟩
   refine A2 hf hb ?_
   let C:Cx:=⟨P,W,⟨dp,false⟩,B.size+(fn.ntmps - B.size)⟩
   have hc:aE C ⟨lC 0 ys,[],hp⟩ {tmps:=B++Array.replicate (fn.ntmps - B.size) undef,defers:=[]} w σ:=by
    refine ⟨by simp [C],Marks.nil,fun d=>?_,fun k cs hk=>?_,fun k cs V hk=>hH.deep k cs hk V,hH.own,hH.da,aD,hH.lay⟩
    ·rw [An]
     simp only [du,aH,xr]
     cases hd:ys[d]? with
     | none=>exact VR.u _
     | some y=>
      have aM:=eh hd
      have hy:=al d y hd
      have e:(B++Array.replicate (fn.ntmps - B.size) undef).getD d undef=B.getD d undef:=by
       simp_all [B6]
      grind [o0]
    ·simp only [St.box] at hk
     split at hk
     ·simp [bH] at hk
     ·rename_i V
      obtain ⟨vs,T,hB⟩:=hH.bx k cs hk (hH.deep k cs hk V).1
      exact ⟨vs,T,hB.cx rfl rfl rfl⟩
   refine hX ⟨dp,false⟩ fn'.code ⟨lC 0 ys,[],hp⟩ r c fn.ntmps C _ w σ _ rfl rfl (by simp [C];omega) hr ai hc fun a0 w0 σ' aB bh=>?_
   obtain ⟨w',F,M,aa⟩:=bh.Pt aB
   obtain ⟨v,aC,hv⟩:=M.result av hq
   have ba:∀ b l,σ'.ow b=some l→l.dep≠dp→jP C σ' b=some l:=by
    grind [jP]
   have Y:bodyPostM Fence.wide 0 P fn (fun e w'=>∃ v σ',e= .returned v∧VR w' σ'.I σ'.κ x v∧dJ (A1 P W dp) w σ w' σ'∧EC P W dp am w' σ') .ret a0 w0:=by
    refine aa fn _ v aC ⟨v,⟨σ'.κ,jP C σ',zD C w' σ'⟩,rfl,hv,⟨F.size,F.cn,fun b hb=>.inl (F.up b hb),F.da,fun b hb=>hb.elim (fun h=>F.dn b h) fun h=>.inr h.1,F.kap,fun b hb hW=>?_,F.io⟩,⟨fun k cs hk aM=>?_,fun k cs hk V=>?_,fun b l hb=>?_,fun b hb=>?_,M.lay.cn (fun _ h=>.inl h) fun _ _=>rfl⟩⟩
    ·show jP C σ' b=_
     unfold jP
     rw [ah fun h=>hW h.1]
     exact F.ow b hb hW
    ·rw [←a4] at hk
     obtain ⟨vs,T,hB⟩:=M.bx k cs (by grind [St.box])
     exact ⟨vs,T,hB.I4 rfl rfl ((by grind [e8.dep])) (fun _ h=>.inl h) rfl (fun _ _ _ _ h=>h) (fun _ _ _ _=>rfl) fun c bI=>xP ((M.hpd k cs (by grind) hk).2 c bI)⟩
    ·rw [←a4] at hk
     exact M.hpd k cs V hk
    ·have:jP C σ' b=some l:=hb
     unfold jP at this
     split at this
     ·cases this
     ·exact M.own b l this
    ·rcases hb with hb | ⟨h1,l,h2,h3⟩
     ·obtain ⟨h4,h5⟩:=M.da b hb
      grind [jP]
     ·refine ⟨M.own b l h2,?_⟩
      simp_all [jP]
   rw [bd]
   rcases bb with rfl | rfl
   ·exact Y
   ·exact Y
  ·cases H
 ·cases H
theorem Xb(hT:Cq P G)(hX:NJ P X):∀ dp f ys hp x am,kt G X ⟨dp,true⟩ f ys hp=some (.ret x,am)→(∀ y∈ys,y.copy=true)→L7 P dp f ys hp x:=by
 intro dp f ys hp x am he bR
 obtain ⟨fn',hG,Z⟩:=au.1 he
 obtain ⟨r,hr,ae⟩:=au.1 Z
 have H:=hT f fn' hG
 unfold Tr at H
 split at H
 ·rename_i fn hf
  split at H
  ·rename_i c hb
   simp only [aY,qa] at H
   obtain ⟨⟨ag,ai⟩,av⟩:=H
   have aj:∃ e,vY r.1=e∧(e= .normal∨e= .ret)∧(r.2.result ⟨dp,true⟩ fn'.res)=some x∧r.2.hp=am:=by
    cases aJ:r.1 with
    | ex id=>grind
    | nrm=>
     rw [aJ] at ae
     obtain ⟨q,hq,be⟩:=au.1 ae
     have h1:q= .ret x:=by grind
     exact ⟨_,rfl,.inl rfl,HT (h1▸hq),by grind⟩
    | ret=>
     rw [aJ] at ae
     obtain ⟨q,hq,be⟩:=au.1 ae
     have h1:q= .ret x:=by grind
     exact ⟨_,rfl,.inr rfl,HT (h1▸hq),by grind⟩
   obtain ⟨e,bd,bb,hq,a4⟩:=aj
   have ao:x.pure=true:=by
    obtain ⟨xs,_,h2⟩:=au.1 hq
    split at h2
    ·rename_i hp
     obtain rfl:=aq h2
     match xs,hp with
     | [],_=>rfl
     | [y],hp=>simpa [Fg,AV.cG] using hp
     | y::z::ys,hp=>exact hp
    ·cases h2
   refine ⟨ao,⟨fn,hf,by rw [hb];rfl,ag⟩,fun w σ B cu hH ar al=>?_⟩
   refine A2 hf hb ?_
   let C:Cx:=⟨P,fun b=>w.heap.size≤b,⟨dp,true⟩,B.size+(fn.ntmps - B.size)⟩
   have hc:aE C ⟨lC 0 ys,[],hp⟩ {tmps:=B++Array.replicate (fn.ntmps - B.size) undef,defers:=[]} w σ:=by
    refine ⟨by simp [C],Marks.nil,fun d=>?_,fun k cs hk=>?_,fun k cs V hk=>hH.deep k cs hk V,hH.own,hH.da,by grind,hH.lay⟩
    ·rw [An]
     simp only [du,aH,xr]
     cases hd:ys[d]? with
     | none=>exact VR.u _
     | some y=>
      have aM:=eh hd
      have hy:=al d y hd
      have e:(B++Array.replicate (fn.ntmps - B.size) undef).getD d undef=B.getD d undef:=by
       simp_all [B6]
      grind [o0]
    ·simp only [St.box] at hk
     split at hk
     ·simp [bH] at hk
     ·rename_i V
      obtain ⟨vs,T,hB⟩:=hH.bx k cs hk (hH.deep k cs hk V).1
      exact ⟨vs,T,hB.cx rfl rfl rfl⟩
   refine hX ⟨dp,true⟩ fn'.code ⟨lC 0 ys,[],hp⟩ r c fn.ntmps C _ w σ _ rfl rfl (by simp [C];omega) hr ai hc fun a0 w0 σ' aB bh=>?_
   obtain ⟨w',F,M,aa⟩:=bh.Pt aB
   obtain ⟨v,aC,hv⟩:=M.result av hq
   have Y:bodyPostM Fence.wide 0 P fn (fun e w'=>∃ v I',e= .returned v∧VR w' I' σ.κ x v∧w.heap.size≤w'.heap.size∧(∀ b,b<w.heap.size→w'.heap[b]? =w.heap[b]?)∧(∀ b,σ.I b→I' b)∧(∀ b,I' b→σ.I b∨w.heap.size≤b)∧(∀ b,I' b→b<w'.heap.size)∧w'.os=w.os∧w'.output=w.output) .ret a0 w0:=by
    refine aa fn _ v aC ⟨v,zD C w' σ',rfl,hv.Gq (fun _ h=>h) (fun _ _=>rfl) ao,F.size,fun b hb=>F.cn b hb (show ¬w.heap.size≤b by omega),fun b hb=>.inl (F.up b hb),fun b hb=>hb.elim (fun h=>F.dn b h) fun h=>.inr h.1,fun b hb=>?_,F.io⟩
    rcases hb with hb | ⟨h1,l,h2,h3⟩
    ·exact (M.da b hb).1
    ·exact M.own b l h2
   rw [bd]
   rcases bb with rfl | rfl
   ·exact Y
   ·exact Y
  ·cases H
 ·cases H
theorem VF(hT:Cq P G)(hX:NJ P X):∀ dp f ys hp cs am,kt G X ⟨dp,false⟩ f ys hp=some (.new cs,am)→(∀ y∈ys,y.copy=true)→L6 P dp f ys hp cs am:=by
 intro dp f ys hp ncs am he bR
 obtain ⟨fn',hG,Z⟩:=au.1 he
 obtain ⟨r,hr,ae⟩:=au.1 Z
 have H:=hT f fn' hG
 unfold Tr at H
 split at H
 ·rename_i fn hf
  split at H
  ·rename_i c hb
   simp only [aY,qa] at H
   obtain ⟨⟨ag,ai⟩,av⟩:=H
   have aj:∃ e,vY r.1=e∧(e= .normal∨e= .ret)∧(r.2.oa ⟨dp,false⟩ fn'.res)=some ncs∧r.2.hp=am:=by
    cases aJ:r.1 with
    | ex id=>grind
    | nrm=>
     rw [aJ] at ae
     obtain ⟨q,hq,be⟩:=au.1 ae
     have h1:q= .new ncs:=by grind
     exact ⟨_,rfl,.inl rfl,Ss (h1▸hq),by grind⟩
    | ret=>
     rw [aJ] at ae
     obtain ⟨q,hq,be⟩:=au.1 ae
     have h1:q= .new ncs:=by grind
     exact ⟨_,rfl,.inr rfl,Ss (h1▸hq),by grind⟩
   obtain ⟨e,bd,bb,hq,a4⟩:=aj
   obtain ⟨n,kk,b6,cj,cg,cw,aD⟩:=VD hq
   refine ⟨aD,⟨fn,hf,by rw [hb];rfl,ag⟩,fun W w σ B aD hH ar al=>?_⟩
   refine A2 hf hb ?_
   let C:Cx:=⟨P,W,⟨dp,false⟩,B.size+(fn.ntmps - B.size)⟩
   have hc:aE C ⟨lC 0 ys,[],hp⟩ {tmps:=B++Array.replicate (fn.ntmps - B.size) undef,defers:=[]} w σ:=by
    refine ⟨by simp [C],Marks.nil,fun d=>?_,fun k cs hk=>?_,fun k cs V hk=>hH.deep k cs hk V,hH.own,hH.da,aD,hH.lay⟩
    ·rw [An]
     simp only [du,aH,xr]
     cases hd:ys[d]? with
     | none=>exact VR.u _
     | some y=>
      have aM:=eh hd
      have hy:=al d y hd
      have e:(B++Array.replicate (fn.ntmps - B.size) undef).getD d undef=B.getD d undef:=by
       simp_all [B6]
      grind [o0]
    ·simp only [St.box] at hk
     split at hk
     ·simp [bH] at hk
     ·rename_i V
      obtain ⟨vs,T,hB⟩:=hH.bx k cs hk (hH.deep k cs hk V).1
      exact ⟨vs,T,hB.cx rfl rfl rfl⟩
   refine hX ⟨dp,false⟩ fn'.code ⟨lC 0 ys,[],hp⟩ r c fn.ntmps C _ w σ _ rfl rfl (by simp [C];omega) hr ai hc fun a0 w0 σ' aB bh=>?_
   obtain ⟨w',F,M,aa⟩:=bh.Pt aB
   let a':Act:={a0 with defers:=[]}
   rw [b6] at av
   obtain ⟨v,aC,hv⟩:∃ v,(results fn a'.tmps).run P w'= .ok v w'∧v= .pointer (some ⟨σ'.κ kk,0,none⟩):=by
    have cv:fn.results=#[.tmp n]:=by
     have:fn.results.toList=[.tmp n]:=by
      revert av
      cases hq:fn.results.toList with
      | nil=>intro h;cases h
      | cons z zs=>
       cases z with
       | cell t ty=>grind [gy]
       | tmp t=>
        grind [gy]
     grind
    have bS:=M.fr n
    rw [cj] at bS
    have bv:VR w' σ'.I σ'.κ (.p kk 0) (a'.tmps.getD n undef):=bS
    refine ⟨a'.tmps.getD n undef,?_,bv.Ak⟩
    simp_all [results]
   obtain ⟨vs,T,hB⟩:=M.bx kk ncs (by grind [St.box])
   have Y:bodyPostM Fence.wide 0 P fn (fun e w'=>∃ σ' kk vs T,e= .returned (.pointer (some ⟨σ'.κ kk,0,none⟩))∧kk.dp=dp∧lE (A1 P W dp) w' σ' kk ncs vs T∧dJ (A1 P W dp) w σ w' σ'∧EC P W dp am w' σ') .ret a0 w0:=by
    refine aa fn _ v aC ⟨σ',kk,vs,T,by rw [hv],cg,hB.cx rfl rfl rfl,⟨F.size,F.cn,F.up,F.da,F.dn,F.kap,F.ow,F.io⟩,⟨fun k cs hk aM=>?_,fun k cs hk V=>?_,M.own,M.da,M.lay⟩⟩
    ·rw [←a4] at hk
     obtain ⟨vs,T,hB⟩:=M.bx k cs (by grind [St.box])
     exact ⟨vs,T,hB.cx rfl rfl rfl⟩
    ·rw [←a4] at hk
     exact M.hpd k cs V hk
   rw [bd]
   rcases bb with rfl | rfl
   ·exact Y
   ·exact Y
  ·cases H
 ·cases H
theorem aE.OV(h:aE C st a w σ){x:ResultVar}{z:RV}{y:AV}(hl:gy C.P [x] [z]=true)(he:st.OV C.E.dp z=some y)(aN:y.copy=true):∃ v,(vX a.tmps x).run C.P w= .ok v w∧VR w σ.I σ.κ y v:=by
 cases x with
 | tmp t=>
  cases z with
  | t n=>
   obtain rfl:t=n:=by simpa [gy] using hl
   obtain rfl:=aq he
   exact ⟨_,rfl,(h.fr t).Gk aN⟩
  | c n sz=>simp [gy] at hl
  | r n=>cases he
 | cell n' ty=>
  cases z with
  | t n=>simp [gy] at hl
  | r n=>cases he
  | c n sz=>
   obtain ⟨rfl,hn⟩:n'=n∧AW C.P ty sz=true:=by simpa [gy] using hl
   simp only [St.OV] at he
   split at he
   ·rename_i k off hx
    obtain ⟨cs,hb,hp⟩:=au.1 he
    obtain ⟨vs,T,hB⟩:=h.bx k cs hb
    have hs:=h.fr n'
    rw [hx] at hs
    have hv:=VR.Ak hs
    obtain ⟨v,hr,cr⟩:=Cl (P:=C.P) (I:=σ.I) (κ:=σ.κ) (b:=0) hB.hh (by have:=hB.size;omega) (fun off c hc U=>by
     have:=hB.cell off c hc
     rw [jL]
     cases c<;>first | exact this | (simp [AV.copy] at U)) (fun c hc U=>(hB.one c hc).resolve_right ((by grind [AV.copy]))) aN hp hn
    grind [vX,asAddr]
   ·cases he
theorem EJ{X:bz}(hT:Cq P G)(hX:NJ P X):nJ P (kt G X):=⟨VE hT hX,VF hT hX,Xb hT hX⟩
abbrev FR(l:Nat):Fence:=Fence.wide.inRound l
theorem VG(h:gD c (.kp kf kb x)=true):gD c x=true:=by
 cases c with
 | region id ops d=>cases d<;>exact h
 | _=>exact h
section
variable {P:Program}{l n:Nat}{ops:Array Oper}{Q:Exit→Act→World→Prop}
theorem NM{o:Oper}{K:Act→World→Prop}(an:HS o=true)(h:o.wp P a w K Q):o.wpIn (FR l) n P a w K Q:=by
 refine ⟨fun _ _=>trivial,?_⟩
 unfold Oper.wp at h
 rw [show (FR l).round=some l from rfl,Oper.semAt_some l a.eval o (fun c e=>by unfold HS at an;rw [e] at an;cases an)]
 generalize (Go.execOp a.eval o).run P w=r at h ⊢
 cases r with
 | ok x w'=>
  cases x with
  | value v=>exact h
  | skip=>exact h
  | defer d=>exact h
  | enter f args=>exact ⟨fun h=>by simp [Fence.wide] at h,CallsIn.inRound l (callsIn_wide.2 h)⟩
  | row row args=>exact ⟨fun h=>by simp [Fence.wide] at h,fun c cs _=>let ⟨v,w',r,s⟩:=h c cs;⟨v,w',r,stepsIn_wide.2 s⟩⟩
  | _=>exact h.elim
 | halt x w'=>
  cases x<;>exact h
theorem EK(an:∀ o∈ops,HS o=true)(O:¬LetsOut Q):∀ (is:List Nat)(a:Act)(w:World),wpOps P ops Q is a w→wpOpsIn (FR l) n P ops Q is a w
 | [],a,w,h=>h
 | i::is,a,w,h=>by
  simp only [wpOps,wpOpsIn] at h ⊢
  cases ho:ops[i]? with
  | none=>rw [ho] at h;exact EK an O is a w h
  | some o=>
   rw [ho] at h
   simp only at h ⊢
   split
   ·rename_i hw
    rw [af hw] at h
    rcases h with h | h
    ·exact Oper.wpIn_mono (fun a w h=>EK an O is a w h) (NM (an o (Array.mem_of_getElem? ho)) h)
    ·exact absurd h.2 O
   ·rename_i hw
    rw [ah hw] at h
    exact ⟨fun _ _=>trivial,EK an O is _ w h⟩
theorem EL(an:∀ o∈ops,HS o=true)(O:¬LetsOut Q):∀ (fuel:Nat)(listed:Array Bool)(a:Act)(w:World),wpAny P .any ops Q fuel listed a w→wpAnyIn (FR l) n P .any ops Q fuel listed a w
 | 0,_,_,_,h=>h
 | fuel+1,listed,a,w,h=>by
  refine ⟨h.1,fun i hi=>?_⟩
  have h1:=h.2 i hi
  unfold wpOp at h1
  unfold wpOpIn
  cases ho:ops[i]? with
  | none=>rw [ho] at h1;exact EL an O fuel _ a w h1
  | some o=>
   rw [ho] at h1
   simp only at h1 ⊢
   split
   ·rename_i hw
    rw [af hw] at h1
    rcases h1 with h1 | h1
    ·exact Oper.wpIn_mono (fun a w h=>EL an O fuel _ a w h) (NM (an o (Array.mem_of_getElem? ho)) h1)
    ·exact absurd h1.2 O
   ·rename_i hw
    rw [ah hw] at h1
    exact ⟨fun _ _=>trivial,EL an O fuel _ _ w h1⟩
theorem Ts{K:Act→World→Prop}(h:¬LetsOut Q):¬LetsOut (Exit.then K Q):=h
theorem Rp(h:¬LetsOut Q):¬LetsOut (Exit.inBlock id Q):=h
end
variable [cN]
variable {P:Program}{G:sd}{Ω:ej}
theorem I9(hΩ:jw P Ω)(l m N:Nat)(hR:∀ k,k≤N→nm P (kt G (exec G Ω k))):∀ (n:Nat),n≤N→∀ (E:Env)(ac:AC)(st:St)(r:bc×St)(c:Code)(nt:Nat)(C:Cx)(a:Act)(w:World)(σ:Sp)(Q:Exit→Act→World→Prop),C.P=P→C.E=E→nt≤C.nt→
  exec G Ω n E ac st=some r→dF P nt c ac=true→gD c ac=true→¬LetsOut Q→aE C st a w σ→
  (∀ a' w' σ',dJ C w σ w' σ'→aE C r.2 a' w' σ'→Q (vY r.1) a' w')→c.wpIn (FR l) m P Q a w
 | 0,_,E,ac,st,r,c,nt,C,a,w,σ,Q,_,_,_,he,_,_,_,_,_=>by simp [exec] at he
 | n+1,hN,E,ac,st,r,c,nt,C,a,w,σ,Q,hP,hE,aA,he,hl,hp,O,hc,hQ=>by
  have b2:=hR n (by omega)
  have ih:=I9 hΩ l m N hR n (by omega)
  cases ac with
  | sk=>
   obtain rfl:=aq he
   rcases Sh hl with rfl | ⟨l,rfl⟩
   ·exact wpIn_skip (hQ a w σ (.refl _ _ _) hc)
   ·exact wpIn_label (hQ a w σ (.refl _ _ _) hc)
  | rg pre gs kf kb=>
   obtain ⟨id,ops,U,aw⟩:=Si hl
   subst U
   simp only [exec] at he
   subst hP;subst hE
   obtain ⟨st1,h1,Z⟩:=au.1 he
   obtain ⟨st2,h2,ae⟩:=au.1 Z
   obtain rfl:=aq ae
   obtain ⟨σ1,bn,bK⟩:=hc.pre pre h1
   simp only [gD] at hp
   refine wpIn_region ?_
   have:=aE.steps (ops:=ops) (Q:=Q) b2 hΩ aA gs ops.toList 0 st1 st2 a w σ1 rfl aw bK h2 (fun a' w' σ' hs M=>hQ a' w' σ' (bn.trans hs) (M.cn kf kb))
   rw [Array.length_toList,←List.range_eq_range'] at this
   exact EK (fun o ho=>Gc.1 hp o ho) O _ _ _ this
  | dg pre mks gs kf kb=>
   obtain ⟨id,ops,U,aw⟩:=Sj hl
   subst U
   simp only [exec] at he
   subst hP;subst hE
   obtain ⟨st1,h1,Z⟩:=au.1 he
   split at Z
   ·rename_i hm
    obtain ⟨st2,h2,ae⟩:=au.1 Z
    obtain rfl:=aq ae
    obtain ⟨σ1,bn,bK⟩:=hc.pre pre h1
    simp only [gD] at hp
    obtain ⟨bD,bM⟩:=bK.Pq (Q:=Q) b2 hΩ aA aw hm h2 fun a' w' σ' hs M=>hQ a' w' σ' (bn.trans hs) (M.cn kf kb)
    exact wpIn_region_any bD (EL (fun o ho=>Gc.1 hp o ho) O _ _ _ _ bM)
   ·cases Z
  | sq x y=>
   obtain ⟨c1,c2,U,aw⟩:=Sk hl
   subst U
   simp only [exec] at he
   simp only [gD,aY] at hp
   obtain ⟨q,hq,Z⟩:=au.1 he
   refine wpIn_seq (ih E x st q c1 nt C a w σ _ hP hE aA hq aw.1 hp.1 (Ts O) hc fun a' w' σ' hs M=>?_)
   obtain ⟨qe,qs⟩:=q
   cases qe with
   | nrm=>exact ih E y qs r c2 nt C a' w' σ' Q hP hE aA Z aw.2 hp.2 O M fun a'' w'' σ'' b5 bL=>hQ a'' w'' σ'' (hs.trans b5) bL
   | ex id=>
    obtain rfl:=aq Z
    exact hQ a' w' σ' hs M
   | ret=>
    obtain rfl:=aq Z
    exact hQ a' w' σ' hs M
  | ite cc x y=>
   obtain ⟨cd,c1,c2,U,aw⟩:=Pr hl
   subst U
   simp only [exec] at he
   simp only [gD,aY] at hp
   obtain ⟨z,hz,Z⟩:=au.1 he
   have bQ:st.ev cc= .b z:=by
    cases U:st.ev cc<;>rw [U] at hz<;>simp [qH] at hz
    rw [hz]
   have ck:a.eval cd= .bool z:=by
    have:=hc.vA aw.1.1 (by rw [bQ];rfl)
    rw [bQ] at this
    exact this.yG
   refine wpIn_cond ck ?_
   cases z with
   | true=>exact ih E x st r c1 nt C a w σ Q hP hE aA (by simpa using Z) aw.1.2 hp.1 O hc hQ
   | false=>exact ih E y st r c2 nt C a w σ Q hP hE aA (by simpa using Z) aw.2 hp.2 O hc hQ
  | bl id x=>
   obtain ⟨c1,U,aw⟩:=Sl hl
   subst U
   simp only [exec] at he
   simp only [gD] at hp
   obtain ⟨q,hq,Z⟩:=au.1 he
   refine wpIn_block (ih E x st q c1 nt C a w σ _ hP hE aA hq aw hp (Rp O) hc fun a' w' σ' hs M=>?_)
   obtain ⟨qe,qs⟩:=q
   cases qe with
   | nrm=>
    obtain rfl:=aq Z
    exact hQ a' w' σ' hs M
   | ret=>
    obtain rfl:=aq Z
    exact hQ a' w' σ' hs M
   | ex id=>
    simp only [inBlock] at Z
    simp only [vY,Exit.inBlock]
    split at Z
    ·rename_i hid
     obtain rfl:=aq Z
     rw [af hid]
     exact hQ a' w' σ' hs M
    ·rename_i hid
     obtain rfl:=aq Z
     rw [ah hid]
     exact hQ a' w' σ' hs M
  | lp x=>
   obtain ⟨c1,U,aw⟩:=Sm hl
   subst U
   simp [gD] at hp
  | ex id=>
   obtain rfl:=Sn hl
   obtain rfl:=aq he
   exact wpIn_exit (hQ a w σ (.refl _ _ _) hc)
  | kp kf kb x=>exact ih E x (st.cn kf kb) r c nt C a w σ Q hP hE aA he (Sq hl) (VG hp) O (hc.cn kf kb) hQ
  | bad=>cases he
  | ru g x y b=>cases c with
   | region id ops d=>cases d<;>simp [gD] at hp
   | _=>simp [gD] at hp
  | rt=>
   obtain rfl:=So hl
   obtain rfl:=aq he
   exact wpIn_ret (hQ a w σ (.refl _ _ _) hc)
end Go.Proofs.YtlmphbbhaeampaaGreat.A
namespace Go.Proofs.YtlmphbbhaeampaaGreat.A
open Go Go.RowKit
variable [cN]
section
variable {C:Cx}{st:St}{a:Act}{w:World}{σ:Sp}
theorem fY.vZ{P:Program}{W W':Nat→Prop}{L:e8}{wr:Prop}{t:TypeId}{es:List AV}{g cap:Nat}{cs:Array Value}(hW:∀ b,σ.ow b≠none→W b→W' b)(h:fY P W w σ L wr t es g cap cs):fY P W' w σ L wr t es g cap cs:=
 ⟨h.ow,fun hw=>hW g (by rw [h.ow];simp) (h.wr hw),h.hh,h.pos,h.nc,h.ecap,h.max,h.size,h.pure,h.one,h.cell,h.base⟩
theorem OwnAt.vZ{P:Program}{W W':Nat→Prop}{L:e8}{wr:Prop}{t:TypeId}{es:List AV}{v:Value}(hW:∀ b,σ.ow b≠none→W b→W' b)(h:OwnAt P W w σ L wr t es v):OwnAt P W' w σ L wr t es v:=
 h.imp id fun ⟨g,cap,cs,hv,hr⟩=>⟨g,cap,cs,hv,hr.vZ hW⟩
theorem ry.vZ{W W':Nat→Prop}{dp g:Nat}{t:TypeId}{x:AV}{v:Value}(hW:∀ b,σ.ow b≠none→W b→W' b)(h:ry W dp w σ g t x v):ry W' dp w σ g t x v:=
 ⟨h.1,h.2.mono (fun b h1=>⟨h1.1,hW b (by rw [h1.1];simp) h1.2.1,h1.2.2⟩) (fun _ _=>rfl) fun _ _=>rfl⟩
theorem CR.vZ{W':Nat→Prop}{k:Key}{off:Nat}{c:AV}{v:Value}(hW:∀ b,σ.ow b≠none→C.W b→W' b)(h:CR C w σ k off c v):CR {C with W:=W'} w σ k off c v:=by
 cases c with
 | o t es=>exact OwnAt.vZ hW h
 | w g t x=>exact ry.vZ hW h
 | _=>exact h
theorem lE.vZ{W':Nat→Prop}{k:Key}{cs:List AV}{vs:Array Value}{T:TypeId}(hW:∀ b,σ.ow b≠none→C.W b→W' b)(h:lE C w σ k cs vs T):lE {C with W:=W'} w σ k cs vs T:=
 ⟨h.hh,h.size,h.ow,fun hm=>hW _ (by rw [h.ow];simp) (h.wr hm),h.one,fun off c hc=>(h.cell off c hc).vZ hW,h.ty,h.kb⟩
theorem SR.vZ{W':Nat→Prop}{d:Nat}{x:AV}{v:Value}(hW:∀ b,σ.ow b≠none→C.W b→W' b)(h:SR C w σ st a d x v):SR {C with W:=W'} w σ st a d x v:=by
 cases x with
 | o t es=>exact OwnAt.vZ hW h
 | w g t x=>exact ry.vZ hW h
 | _=>exact h
theorem aE.vZ{W':Nat→Prop}(hW:∀ b,σ.ow b≠none→C.W b→W' b)(hn:∀ b,w.heap.size≤b→W' b)(h:aE C st a w σ):aE {C with W:=W'} st a w σ:=by
 refine ⟨h.size,?_,fun d=>(h.fr d).vZ hW,fun k cs hk=>?_,h.hpd,h.own,h.da,fun b hb=>⟨hn b hb,(h.new b hb).2⟩,h.lay⟩
 ·obtain ⟨Ds,h0,h1,h2⟩:=h.defers
  exact ⟨Ds,h0,h1,fun D hD=>⟨(h2 D hD).1,hW D (by rw [(h2 D hD).1];simp) (h2 D hD).2.1,(h2 D hD).2.2⟩⟩
 ·obtain ⟨vs,T,hB⟩:=h.bx k cs hk
  exact ⟨vs,T,hB.vZ hW⟩
theorem dJ.vZ{W':Nat→Prop}{w':World}{σ':Sp}(hW:∀ b,C.W b→W' b)(h:dJ C w σ w' σ'):dJ {C with W:=W'} w σ w' σ':=
 ⟨h.size,fun b hb hn=>h.cn b hb fun hc=>hn (hW b hc),h.up,h.da,fun b hb=>(h.dn b hb).imp id (hW b),h.kap,fun b hb hn=>h.ow b hb fun hc=>hn (hW b hc),h.io⟩
theorem aE.s8{l:Nat}{o:Obj}(ho:σ.ow l=none)(hI:¬σ.I l)(h:aE C st a w σ):aE C st a (w.putObj l o) σ:=by
 have ar:(w.putObj l o).heap.size=w.heap.size:=by simp [World.putObj]
 exact h.same ⟨fun b L hb _=>⟨World.putObj_heap_other fun e=>(by rw [e,ho] at hb;cases hb),hb⟩,fun b hb=>World.putObj_heap_other fun e=>hI (e▸hb),fun _ h=>h,rfl,xt ar.symm,fun b L hb=>by rw [ar];exact h.own b L hb,fun b hb=>by rw [ar];exact h.da b hb⟩
theorem dJ.s8{l:Nat}{o:Obj}(hW:C.W l)(hI:¬σ.I l):dJ C w σ (w.putObj l o) σ:=by
 have ar:(w.putObj l o).heap.size=w.heap.size:=by simp [World.putObj]
 exact ⟨xt ar.symm,fun b hb hn=>World.putObj_heap_other fun e=>hn (e▸hW),fun _ h=>h,fun b hb=>World.putObj_heap_other fun e=>hI (e▸hb),fun _ h=>.inl h,fun _ _=>rfl,fun _ _ _=>rfl,rfl,rfl⟩
theorem aE.grown{w':World}(hb:Below w.heap.size w w')(h:aE C st a w σ):aE C st a w' σ:=
 h.same ⟨fun b L bq _=>⟨hb.block b (h.own b L bq),bq⟩,fun b a5=>hb.block b (h.da b a5).1,fun _ h=>h,rfl,hb.size,fun b L bq=>fO (h.own b L bq) hb.size,fun b a5=>⟨fO (h.da b a5).1 hb.size,(h.da b a5).2⟩⟩
theorem dJ.grown{w':World}(hb:Below w.heap.size w w')(hI:∀ b,σ.I b→b<w.heap.size):dJ C w σ w' σ:=
 ⟨hb.size,fun b aM _=>hb.block b aM,fun _ h=>h,fun b a5=>hb.block b (hI b a5),fun _ h=>.inl h,fun _ _=>rfl,fun _ _ _=>rfl,hb.os,hb.output⟩
theorem aE.leave{C:Cx}{s:St}{a':Act}{w w':World}{σ σ':Sp}(F:dJ C w σ w' σ')(M:aE C s a' w' σ')(a6:C.E.ro=false) :
  dJ (A1 C.P C.W C.E.dp) w σ w' ⟨σ'.κ,jP C σ',zD C w' σ'⟩∧EC C.P C.W C.E.dp s.hp w' ⟨σ'.κ,jP C σ',zD C w' σ'⟩:=by
 have ba:∀ b l,σ'.ow b=some l→l.dep≠C.E.dp→jP C σ' b=some l:=by
  intro b l hb V
  unfold jP
  rw [ah,hb]
  rintro ⟨_,l',h1,h2⟩
  rw [hb] at h1
  obtain rfl:=aq h1
  exact V h2
 refine ⟨⟨F.size,F.cn,fun b hb=>.inl (F.up b hb),F.da,fun b hb=>hb.elim (fun h=>F.dn b h) fun h=>.inr h.1,F.kap,fun b hb hW=>?_,F.io⟩,⟨fun k cs hk aM=>?_,fun k cs hk V=>?_,fun b l hb=>?_,fun b hb=>?_,M.lay.cn (fun _ h=>.inl h) fun _ _=>rfl⟩⟩
 ·show jP C σ' b=_
  unfold jP
  rw [ah fun h=>hW h.1]
  exact F.ow b hb hW
 ·obtain ⟨vs,T,hB⟩:=M.bx k cs (by simp only [St.box,ah (show ¬k.dp=C.E.dp by omega)];exact hk)
  exact ⟨vs,T,hB.I4 rfl rfl (fun b l hb b9=>ba b l hb (by rcases b9 with rfl | ⟨_,rfl⟩<;>simp only [e8.dep]<;>omega)) (fun _ h=>.inl h) a6 (fun _ _ _ _ h=>h) (fun _ _ _ _=>rfl) fun c bI=>xP ((M.hpd k cs (by omega) hk).2 c bI)⟩
 ·exact M.hpd k cs V hk
 ·have:jP C σ' b=some l:=hb
  unfold jP at this
  split at this
  ·cases this
  ·exact M.own b l this
 ·rcases hb with hb | ⟨h1,l,h2,h3⟩
  ·obtain ⟨h4,h5⟩:=M.da b hb
   refine ⟨h4,?_⟩
   show jP C σ' b=none
   unfold jP
   split
   ·rfl
   ·exact h5
  ·refine ⟨M.own b l h2,?_⟩
   show jP C σ' b=none
   unfold jP
   rw [af ⟨h1,l,h2,h3⟩]
theorem Rq(fr:List (Nat×AV))(d:Nat):aQ (fr.map fun y=>(y.1,if y.2.copy=true then y.2 else .u)) d=if (aQ fr d).copy=true then aQ fr d else .u:=by
 induction fr with
 | nil=>simp [aQ,AV.copy]
 | cons y fr ih=>
  obtain ⟨k,x⟩:=y
  simp only [je,oc]
  by_cases hk:k=d
  ·simp only [af hk]
  ·simp only [ah hk];exact ih
theorem aE.inner(h:aE C st a w σ)(a6:C.E.ro=false)(bF:∀ d cs,bH st.bx d=some cs→∀ c∈cs,c.deep C.E.dp=true){W':Nat→Prop}(hW:∀ b,σ.ow b≠none→Wc C σ b→W' b)(hn:∀ b,w.heap.size≤b→W' b){x:Nat}{n:Int}(hx:x<C.nt) :
  aE ⟨C.P,W',⟨C.E.dp+1,false⟩,C.nt⟩ (st.inner C.E.dp x n) {tmps:=a.tmps.setIfInBounds x (.int .i64 n),defers:=[]} w σ:=by
 have hH:=h.aht a6 bF
 refine ⟨by simp [h.size],Marks.nil,fun d=>?_,fun k cs hk=>?_,fun k cs V hk=>hH.deep k cs hk V,hH.own,hH.da,fun b hb=>⟨hn b hb,(h.new b hb).2⟩,h.lay⟩
 ·have ht:({tmps:=a.tmps.setIfInBounds x (.int .i64 n),defers:=[]} : Act).tmps.getD d undef=if x=d then .int .i64 n else a.tmps.getD d undef:=by
   have:=IZ a x d (.int .i64 n) (by rw [h.size];exact hx)
   simpa [Act.put] using this
  rw [ht]
  show SR _ w σ _ _ d (aQ ((x,AV.i .i64 n)::_) d) _
  rw [oc]
  by_cases hd:x=d
  ·subst hd
   rw [af rfl,af rfl]
   exact VR.i _ _
  ·rw [ah hd,ah hd,Rq]
   split
   ·rename_i aN
    have:=(h.fr d).Gk aN
    exact I0 (.inl aN) this
   ·exact VR.u _
 ·simp only [St.inner,St.box] at hk
  split at hk
  ·simp [bH] at hk
  ·rename_i V
   obtain ⟨vs,T,hB⟩:=hH.bx k cs hk (hH.deep k cs hk V).1
   exact ⟨vs,T,(hB.vZ (W':=W') hW).cx rfl rfl rfl⟩
end
section
variable {C:Cx}{st:St}{a:Act}{w:World}{σ:Sp}
theorem aE.Su{D:Nat}(h:aE C st a w σ)(ho:σ.ow D=none)(hI:¬σ.I D)(hW:C.W D)(hh:w.heap[D]? =some (.deferred (some []))) :
  aE C st {a with defers:=Kj D::a.defers} w (σ.add D (some (.mark C.E.dp)))∧dJ C w σ w (σ.add D (some (.mark C.E.dp))):=by
 have aM:D<w.heap.size:=(xD.1 hh).1
 have V:∀ b l,σ.ow b=some l→b≠D:=fun b l hb e=>by rw [e,ho] at hb;cases hb
 have hs:jB C w σ w (σ.add D (some (.mark C.E.dp))) none:=by
  refine ⟨fun b l hb _=>⟨rfl,?_⟩,fun _ _=>rfl,fun _ h=>h,rfl,bG _,fun b l hb=>?_,fun b hb=>⟨(h.da b hb).1,?_⟩⟩
  ·simp only [Sp.add,ah (V b l hb),hb]
  ·simp only [Sp.add] at hb
   split at hb
   ·rename_i e;rw [e];exact aM
   ·exact h.own b l hb
  ·have:b≠D:=fun e=>hI (e▸hb)
   simp only [Sp.add,ah this]
   exact (h.da b hb).2
 have h1:=h.same hs
 refine ⟨⟨h1.size,?_,h1.fr,h1.bx,h1.hpd,h1.own,h1.da,h1.new,h1.lay⟩,⟨bG _,fun _ _ _=>rfl,fun _ h=>h,fun _ _=>rfl,fun _ h=>.inl h,fun _ _=>rfl,fun b hb hn=>?_,rfl,rfl⟩⟩
 ·obtain ⟨Ds,h2,h3,h4⟩:=h.defers
  refine ⟨D::Ds,xE.2 ⟨fun hm=>V D _ (h4 D hm).1 rfl,h2⟩,by show _::a.defers=_;rw [h3];rfl,fun D' bP=>?_⟩
  rcases eA.1 bP with rfl | bP
  ·exact ⟨by simp [Sp.add],hW,hh⟩
  ·obtain ⟨h5,h6⟩:=h4 D' bP
   exact ⟨by simp only [Sp.add,ah (V D' _ h5),h5],h6⟩
 ·have:b≠D:=fun e=>hn (e▸hW)
  simp only [Sp.add,ah this]
end
section
variable {P:Program}{G:sd}{Ω:ej}
set_option maxHeartbeats 1000000 in
theorem Xc(hΩ:jw P Ω){N:Nat}(hR:∀ k,k≤N→nm P (kt G (exec G Ω k))){n:Nat}(hn:n≤N){C:Cx}{st:St}{a:Act}{w:World}{σ:Sp}{r:bc×St}{g:Operand}{g':bY}{x:Nat}{y b:Code}{y' b':AC}{nt:Nat}{Q:Exit→Act→World→Prop}{ns:List Int}
  (hP:C.P=P) (a6:C.E.ro=false) (aA:nt≤C.nt) (hx:x<nt) (a3:vQ Ω (st.ev g')=some ns) (he:rounds C.E.dp (exec G Ω n ⟨C.E.dp+1,false⟩) x y' b' ns st=some r)
  (ce:cJ g g'=true) (cb:dF P nt y y'=true) (b7:gD y y'=true) (cf:dF P nt b b'=true) (b8:gD b b'=true) (hc:aE C st a w σ)
  (hQ:∀ a' w' σ',dJ C w σ w' σ'→aE C r.2 a' w' σ'→Q (vY r.1) a' w'):(Code.rangeFunc g #[x] y b).wp P Q a w:=by
 subst hP
 obtain ⟨f,c,bX,aN,es,h1,h2⟩:∃ f c,st.ev g'= .f f [c]∧(AV.f f [c]).copy=true∧∃ es,Ω f [.u,c]=some (.l 0 es)∧AQ es=some ns:=by
  unfold vQ at a3
  split at a3
  ·rename_i f c hg
   split at a3
   ·rename_i aN
    obtain ⟨z,h1,h2⟩:=au.1 a3
    split at h2
    ·rename_i es;exact ⟨f,c,hg,aN,es,h1,h2⟩
    ·cases h2
   ·cases a3
  ·cases a3
 have hv:VR w σ.I σ.κ (.f f [c]) (a.eval g):=by rw [←bX];exact hc.vA ce (by rw [bX];exact aN)
 obtain ⟨gf,lb,hg,bE,bg⟩:=hΩ.it f c es ns h1 h2 w σ.I σ.κ (a.eval g) (hc.new _ (bG _)).2 (fun b hb=>(hc.da b hb).1) hv
 refine (wpIn_wide (n:=2)).1 (wpIn_rangeFunc ?_)
 intro fn _
 obtain ⟨rec,S⟩:∃ rec:LoopState→Option Code→Loop,rec=fun st pe=>{state:=st,pending:=pe,fn,tmps:=a.tmps,params:=#[x],assign:=y,body:=b,defers:=w.heap.size}:=⟨_,rfl⟩
 obtain ⟨W1,bj⟩:∃ W1,(w.alloc (.deferred (some []))).alloc (.loop (rec .ready none))=W1:=⟨_,rfl⟩
 have b3:W1.heap[w.heap.size+1]? =some (.loop (rec .ready none)):=by
  rw [←bj];have:=World.alloc_heap_new (w.alloc (.deferred (some []))) (.loop (rec .ready none));rwa [World.size_alloc] at this
 have b4:W1.heap[w.heap.size]? =some (.deferred (some [])):=by
  rw [←bj];exact (Below.heap_alloc _ _ _ (by simp)).trans (World.alloc_heap_new w _)
 have br:Below w.heap.size w W1:=by rw [←bj];exact ((Below.refl _ w).alloc (bG _) _).alloc (by simp) _
 have bn:W1.heap.size=w.heap.size+2:=by rw [←bj];simp
 obtain ⟨l,aR⟩:∃ l,l=w.heap.size+1:=⟨_,rfl⟩
 obtain ⟨D,aT⟩:∃ D,D=w.heap.size:=⟨_,rfl⟩
 have bB:D≠l:=by omega
 have aV:C.W l:=(hc.new l (by omega)).1
 have bm:C.W D:=(hc.new D (by omega)).1
 rw [←aR] at b3
 rw [←aT] at b4
 refine ⟨l,[Kj D],W1,{target:=.fn (.func gf) lb,args:=#[.func (.yield l) #[] #[]]},W1,gf,#[.func (.yield l) #[] #[]]++lb,W1,?_,?_,fun _ _=>trivial,?_,fun h=>by simp [Fence.wide] at h,?_⟩
 ·rw [←bj,S,aR,aT];exact run_enterLoop_outer _ _ _ _ _
 ·simp only [resolve,hg]
  simp [go_sem]
 ·simp [invoke,go_sem,bE]
 let J:(Nat→Prop)→List Int→World→Prop:=fun T pre W=>T D∧T l∧(∀ b,T b→w.heap.size≤b∧b<W.heap.size)∧W.heap[l]? =some (.loop (rec .ready none))∧W.heap[D]? =some (.deferred (some []))∧
  ∃ rest st1 σ1,ns=pre++rest∧rounds C.E.dp (exec G Ω n ⟨C.E.dp+1,false⟩) x y' b' rest st1=some r∧aE C st1 a W σ1∧dJ C w σ W σ1∧∀ b,T b→σ1.ow b=none∧¬σ1.I b
 let Jx:List Int→World→Prop:=fun _ W=>∃ c σ1,W.heap[l]? =some (.loop (rec .done (some c)))∧W.heap[D]? =some (.deferred (some []))∧aE C r.2 a W σ1∧dJ C w σ W σ1∧(σ1.ow D=none∧¬σ1.I D)∧(σ1.ow l=none∧¬σ1.I l)∧
  ((r.1= .ret∧c= .ret)∨∃ id,r.1= .ex id∧c= .exit id)
 have cp:J (fun b=>b=D∨b=l) [] W1:=by
  refine ⟨.inl rfl,.inr rfl,fun b hb=>by rcases hb with rfl | rfl<;>omega,b3,b4,ns,st,σ,rfl,he,hc.grown br,dJ.grown br fun b hb=>(hc.da b hb).1,fun b hb=>⟨?_,fun hI=>?_⟩⟩
  ·cases ho:σ.ow b with
   | none=>rfl
   | some L=>have:=hc.own b L ho;rcases hb with rfl | rfl<;>omega
  ·have:=(hc.da b hI).1;rcases hb with rfl | rfl<;>omega
 refine (bg l (2 - 1) J Jx (fun b=>b=D∨b=l) W1 br.size (fun b hb=>br.block b (hc.da b hb).1) ?_ ?_ cp).mono ?_
 ·
  rintro T pre W W' ⟨aK,ab,ay,hl,hD,rest,st1,σ1,aZ,ad,U,F,ap⟩ aG
  refine ⟨.inl aK,.inl ab,fun b hb=>?_,(aG.block l (ay l ab).2).trans hl,(aG.block D (ay D aK).2).trans hD,rest,st1,σ1,aZ,ad,U.grown aG,F.trans (dJ.grown aG fun b hb=>(U.da b hb).1),fun b hb=>?_⟩
  ·rcases hb with hb | hb
   ·exact ⟨(ay b hb).1,fO (ay b hb).2 aG.size⟩
   ·exact ⟨eC F.size hb.1,hb.2⟩
  ·rcases hb with hb | hb
   ·exact ap b hb
   ·refine ⟨?_,fun hI=>?_⟩
    ·cases ho:σ1.ow b with
     | none=>rfl
     | some L=>have:=U.own b L ho;omega
    ·have:=(U.da b hI).1;omega
 ·
  rintro T pre nn rest W m aZ ⟨aK,ab,ay,hl,hD,rest0,st1,σ1,bA,ad,U,F,ap⟩
  obtain rfl:rest0=nn::rest:=List.append_cancel_left (bA.symm.trans aZ)
  simp only [rounds] at ad
  split at ad
  case isFalse=>cases ad
  rename_i bf
  obtain ⟨q,hq,ad⟩:=au.1 ad
  obtain ⟨qe,qs⟩:=q
  cases qe with
  | ex id=>cases ad
  | ret=>cases ad
  | nrm=>
  simp only at ad
  obtain ⟨r1,aJ,ad⟩:=au.1 ad
  have bF:∀ d cs,bH st1.bx d=some cs→∀ c∈cs,c.deep C.E.dp=true:=fun d cs hb c hm=>pS (oR (p:=fun y=>AV.jJ C.E.dp y) _ bf d cs hb) c hm
  have b0:∀ b,W.heap.size≤b→Wc C σ1 b:=fun b hb=>⟨⟨(U.new b hb).1,fun e=>absurd (U.own b _ e) (rX.2 hb)⟩,fun d=>⟨fun e=>absurd (U.own b _ e) (rX.2 hb),fun e=>absurd (U.own b _ e) (rX.2 hb)⟩⟩
  have bZ:Wc C σ1 l:=⟨⟨aV,fun e=>by rw [(ap l ab).1] at e;cases e⟩,fun d=>⟨fun e=>(by rw [(ap l ab).1] at e;cases e),fun e=>(by rw [(ap l ab).1] at e;cases e)⟩⟩
  let C1:Cx:=⟨C.P,fun b=>Wc C σ1 b∧¬T b,⟨C.E.dp+1,false⟩,C.nt⟩
  let C3:Cx:=⟨C.P,Wc C σ1,⟨C.E.dp+1,false⟩,C.nt⟩
  have ci:=U.inner a6 bF (W':=fun b=>Wc C σ1 b∧¬T b) (x:=x) (n:=nn) (fun b ho hw=>⟨hw,fun ht=>ho (ap b ht).1⟩) (fun b hb=>⟨b0 b hb,fun ht=>absurd (ay b ht).2 (rX.2 hb)⟩) (fO hx aA)
  have hy:(Instr.yield l #[.int .i64 nn]).run C.P W= .ok (.round l fn (a.tmps.setIfInBounds x (.int .i64 nn)) y b) W:=by
   have:=run_yield (P:=C.P) (args:=#[.int .i64 nn]) hl (by rw [S];simp)
   rw [S] at this
   rw [this];simp
  refine ⟨fn,_,y,b,hy,roundIn_of_wpIn trivial ?_⟩
  refine I9 hΩ l m N hR n hn ⟨C.E.dp+1,false⟩ y' (st1.inner C.E.dp x nn) (.nrm,qs) y nt C1 _ W σ1 _ rfl rfl aA hq cb b7 (by rintro ⟨_,_,h⟩;exact h) ci fun a1 w1 σ2 aU co=>?_
  have bW:w1.heap[l]? =some (.loop (rec .ready none)):=(aU.cn l (ay l ab).2 fun h=>h.2 ab).trans hl
  have aI:∀ b,T b→σ2.ow b=none∧¬σ2.I b:=fun b hb=>⟨(aU.ow b (ay b hb).2 fun h=>h.2 hb).trans (ap b hb).1,fun h=>(aU.dn b h).elim (ap b hb).2 fun h=>h.2 hb⟩
  refine ⟨_,run_beginRound bW (by rw [S]),?_⟩
  have a9:l<w1.heap.size:=(xD.1 bW).1
  have bJ:=co.s8 (o:=.loop {rec .ready none with state:=.busy}) (aI l ab).1 (aI l ab).2
  refine I9 hΩ l m N hR n hn ⟨C.E.dp+1,false⟩ b' qs r1 b nt C1 a1 _ σ2 _ rfl rfl aA aJ cf b8 (by rintro ⟨_,_,h⟩;exact h) bJ fun a2 w3 σ3 aW cm=>?_
  have aL:(w1.putObj l (.loop {rec .ready none with state:=.busy})).heap.size=w1.heap.size:=by simp [World.putObj]
  have aS:∀ b,T b→b<w1.heap.size:=fun b hb=>fO (ay b hb).2 aU.size
  have bp:w3.heap[l]? =some (.loop {rec .ready none with state:=.busy}):=(aW.cn l (by rw [aL];exact a9) fun h=>h.2 ab).trans (World.putObj_heap_same a9)
  have ax:∀ b,T b→σ3.ow b=none∧¬σ3.I b:=fun b hb=>⟨(aW.ow b (by rw [aL];exact aS b hb) fun h=>h.2 hb).trans (aI b hb).1,fun h=>(aW.dn b h).elim (aI b hb).2 fun h=>h.2 hb⟩
  have bt:∀ o,dJ C3 W σ1 (w3.putObj l o) σ3:=fun o=>
   ((dJ.vZ (C:=C1) (W':=Wc C σ1) (fun _ h=>h.1) aU).trans (dJ.s8 (C:=C3) bZ (aI l ab).2)).trans ((dJ.vZ (C:=C1) (W':=Wc C σ1) (fun _ h=>h.1) aW).trans (dJ.s8 (C:=C3) bZ (ax l ab).2))
  have cl:∀ o,aE C3 r1.2 a2 (w3.putObj l o) σ3:=fun o=>(aE.vZ (C:=C1) (W':=Wc C σ1) (fun _ _ h=>(show Wc C σ1 _∧¬T _ from h).1) (fun b hb=>b0 b (eC aU.size (by rw [←aL];exact eC aW.size hb))) cm).s8 (ax l ab).1 (ax l ab).2
  have bV:∀ o,_∧_:=fun o=>aE.leave (bt o) (cl o) rfl
  have aO:∀ o,_∧_:=fun o=>U.called (bV o).1 (bV o).2
  have bk:∀ o b,T b→jP C3 σ3 b=none∧¬zD C3 (w3.putObj l o) σ3 b:=fun o b hb=>by
   refine ⟨?_,?_⟩
   ·unfold jP
    split
    ·rfl
    ·exact (ax b hb).1
   ·rintro (h | ⟨_,L,h,_⟩)
    ·exact (ax b hb).2 h
    ·rw [(ax b hb).1] at h;cases h
  have b1:∀ o b,T b→b≠l→(w3.putObj l o).heap[b]? =W.heap[b]? :=fun o b hb bi=>
   (World.putObj_heap_other bi).trans ((aW.cn b (by rw [aL];exact aS b hb) fun h=>h.2 hb).trans ((World.putObj_heap_other bi).trans (aU.cn b (ay b hb).2 fun h=>h.2 hb)))
  have bN:∀ o,(w3.putObj l o).heap[D]? =some (.deferred (some [])):=fun o=>(b1 o D aK bB).trans hD
  have bo:∀ o,(w3.putObj l o).heap[l]? =some o:=fun o=>World.putObj_heap_same (xD.1 bp).1
  have cq:∀ o b,σ.I b→(w3.putObj l o).heap[b]? =W.heap[b]? :=fun o b hb=>(aO o).1.da b (F.up b hb)
  obtain ⟨re,rs⟩:=r1
  cases re with
  | nrm=>
   simp only at ad
   have hr:(Instr.endRound l none).run C.P w3= .ok (.bool true) (w3.putObj l (.loop (rec .ready none))):=by
    have:=run_endRound (P:=C.P) none bp
    rw [S] at this ⊢
    exact this
   generalize aX:Obj.loop (rec .ready none)=o at hr
   refine ⟨_,_,hr,.inl ⟨rfl,⟨aK,ab,fun b hb=>⟨(ay b hb).1,fO (ay b hb).2 (aO o).1.size⟩,by rw [bo,aX],bN o,rest,_,_,by rw [aZ];simp,ad,(aO o).2,F.trans (aO o).1,fun b hb=>bk o b hb⟩,fun b hb=>?_,fun b hb=>cq o b hb,(aO o).1.size⟩⟩
   by_cases bi:b=l
   ·rw [bi,bo,hl,aX]
   ·exact b1 o b hb bi
  | ret=>
   obtain rfl:=aq ad
   have hr:(Instr.endRound l (some .ret)).run C.P w3= .ok (.bool false) (w3.putObj l (.loop (rec .done (some .ret)))):=by
    have:=run_endRound (P:=C.P) (some .ret) bp
    rw [S] at this ⊢
    exact this
   generalize aX:Obj.loop (rec .done (some .ret))=o at hr
   exact ⟨_,_,hr,.inr ⟨rfl,.ret,_,by rw [bo,aX],bN o,(aO o).2,F.trans (aO o).1,bk o D aK,bk o l ab,.inl ⟨rfl,rfl⟩⟩⟩
  | ex id=>
   obtain rfl:=aq ad
   have hr:(Instr.endRound l (some (.exit id))).run C.P w3= .ok (.bool false) (w3.putObj l (.loop (rec .done (some (.exit id))))):=by
    have:=run_endRound (P:=C.P) (some (.exit id)) bp
    rw [S] at this ⊢
    exact this
   generalize aX:Obj.loop (rec .done (some (.exit id)))=o at hr
   exact ⟨_,_,hr,.inr ⟨rfl,.exit id,_,by rw [bo,aX],bN o,(aO o).2,F.trans (aO o).1,bk o D aK,bk o l ab,.inr ⟨id,rfl,rfl⟩⟩⟩
 ·
  rintro e W ⟨⟨v,rfl⟩,(⟨T,aK,ab,ay,hl,hD,rest,st1,σ1,aZ,ad,U,F,ap⟩ | ⟨_,_,_,_,c,σ1,hl,hD,U,F,bT,bw,hx⟩)⟩
  ·have a7:rest=[]:=by
    have:=az List.length aZ
    rw [oQ] at this
    exact List.length_eq_zero_iff.1 (by omega)
   subst a7
   obtain rfl:=aq ad
   have hr:=run_endLoop (P:=C.P) hl (by rw [S];simp)
   rw [S] at hr
   refine ⟨none,_,hr,?_⟩
   have h3:=(U.s8 (o:=.loop {rec .ready none with state:=.exhausted}) (ap l ab).1 (ap l ab).2)
   have bO:(W.putObj l (.loop {rec .ready none with state:=.exhausted})).heap[D]? =some (.deferred (some [])):=(World.putObj_heap_other bB).trans hD
   obtain ⟨h4,h5⟩:=h3.Su (ap D aK).1 (ap D aK).2 bm bO
   rw [S] at h4 h5
   exact hQ _ _ _ ((F.trans (dJ.s8 aV (ap l ab).2)).trans h5) h4
  ·have hr:=run_endLoop (P:=C.P) hl (by rw [S];simp)
   rw [S] at hr
   refine ⟨some c,_,hr,?_⟩
   have h3:=(U.s8 (o:=.loop {rec .done (some c) with state:=.exhausted}) bw.1 bw.2)
   have bO:(W.putObj l (.loop {rec .done (some c) with state:=.exhausted})).heap[D]? =some (.deferred (some [])):=(World.putObj_heap_other bB).trans hD
   obtain ⟨h4,h5⟩:=h3.Su bT.1 bT.2 bm bO
   rw [S] at h4 h5
   have hq:=hQ _ _ _ ((F.trans (dJ.s8 aV bw.2)).trans h5) h4
   rcases hx with ⟨h6,rfl⟩ | ⟨id,h6,rfl⟩
   ·rw [h6] at hq
    exact wpIn_ret hq
   ·rw [h6] at hq
    exact wpIn_exit hq
end
end Go.Proofs.YtlmphbbhaeampaaGreat.A
