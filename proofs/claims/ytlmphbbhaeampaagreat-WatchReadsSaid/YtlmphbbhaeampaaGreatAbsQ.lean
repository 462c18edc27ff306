/- Code and functions, first part: functions. -/
import Derived.Test.YtlmphbbhaeampaaGreatAbsK
import Derived.RangeFuncLeaves
import Derived.RangeFuncOwn
import Derived.RangeFuncCalls
import Derived.OrdersIn
import Derived.TacticsIn
set_option linter.all false
namespace Go.Proofs.YtlmphbbhaeampaaGreat.A
open Go
variable [cj]
def EU(o:Oper):Bool:=
 match o.op with
 | .defer _=>false
 | _=>true
def fR:Code→AC→Bool
 | .skip,.sk=>true
 | .label _,.sk=>true
 | .region _ ops false,.rg _ _ _ _=>ops.all EU
 | .region _ ops true,.dg _ _ _ _ _=>ops.all EU
 | .seq a b,.sq x y=>fR a x&&fR b y
 | .cond _ a b,.ite _ x y=>fR a x&&fR b y
 | .block _ b,.bl _ x=>fR b x
 | .exit _,.ex _=>true
 | .ret,.rt=>true
 | c,.kp _ _ x=>fR c x
 | _,.bad=>true
 | _,_=>false
def cY(P:Program)(nt:Nat):Code→AC→Bool
 | .skip,.sk=>true
 | .label _,.sk=>true
 | .region _ ops false,.rg _ gs _ _=>zV P nt ops ops.toList gs
 | .region _ ops true,.dg _ mks gs _ _=>Ho P nt ops mks gs
 | .seq a b,.sq x y=>cY P nt a x&&cY P nt b y
 | .cond c a b,.ite c' x y=>bY c c'&&cY P nt a x&&cY P nt b y
 | .block id b,.bl id' x=>id==id'&&cY P nt b x
 | .loop b,.lp x=>cY P nt b x
 | .exit id,.ex id'=>id==id'
 | .ret,.rt=>true
 | c,.kp _ _ x=>cY P nt c x
 | _,.bad=>true
 | .rangeFunc g ps y b,.ru g' x y' b'=>bY g g'&&(ps==#[x]&&(decide (x<nt)&&(cY P nt y y'&&(fR y y'&&(cY P nt b b'&&fR b b')))))
 | _,_=>false
def tL:bh→Exit
 | .nrm=>.normal
 | .ex id=>.exit id
 | .ret=>.ret
def PT(P:Program)(f:FuncId)(fn':bL):Bool:=
 match P.funcs[f]? with
 | some fn=>match fn.body with
  | some c=>!(fn.name== "runtime.NumGoroutine")&&cY P fn.ntmps c fn'.code&&fP P fn.results.toList fn'.res
  | none=>false
 | none=>false
def zY(P:Program)(G:qG):Prop:=∀ f fn',G f=some fn'→PT P f fn'=true
variable {nt:Nat}{c:Code}
theorem OH{P:Program}(h:cY P nt c .sk=true):c= .skip∨∃ l,c= .label l:=by
 cases c with
 | region id ops dr=>grind [cY]
 | skip=>exact .inl rfl
 | label l=>grind
 | _=>simp [cY] at h
variable {pre:List wy}{kf kb:List Nat}
theorem OI{P:Program}{gs:List dx}(h:cY P nt c (.rg pre gs kf kb)=true):∃ id ops,c= .region id ops false∧zV P nt ops ops.toList gs=true:=by
 cases c with
 | region id ops dr=>cases dr<;>simp [cY] at h;grind
 | _=>simp [cY] at h
theorem OJ{P:Program}{mks:List Nat}{gs:List bR}(h:cY P nt c (.dg pre mks gs kf kb)=true):∃ id ops,c= .region id ops true∧Ho P nt ops mks gs=true:=by
 cases c with
 | region id ops dr=>
  cases dr with
  | false=>simp [cY] at h
  | true=>grind [cY]
 | _=>simp [cY] at h
variable {x y:AC}
theorem OK{P:Program}(h:cY P nt c (.sq x y)=true):∃ c1 c2,c= .seq c1 c2∧cY P nt c1 x=true∧cY P nt c2 y=true:=by
 cases c with
 | region id ops dr=>grind [cY]
 | seq c1 c2=>grind [cY]
 | _=>simp [cY] at h
theorem LZ{P:Program}{z:bz}(h:cY P nt c (.ite z x y)=true):∃ cd c1 c2,c= .cond cd c1 c2∧(bY cd z=true∧cY P nt c1 x=true)∧cY P nt c2 y=true:=by
 cases c with
 | region id ops dr=>grind [cY]
 | cond cd c1 c2=>grind [cY]
 | _=>simp [cY] at h
variable {id:Nat}
theorem OL{P:Program}(h:cY P nt c (.bl id x)=true):∃ c1,c= .block id c1∧cY P nt c1 x=true:=by
 cases c with
 | region id ops dr=>grind [cY]
 | block id' c1=>
  grind [cY]
 | _=>simp [cY] at h
theorem OM{P:Program}(h:cY P nt c (.lp x)=true):∃ c1,c= .loop c1∧cY P nt c1 x=true:=by
 cases c with
 | region id ops dr=>grind [cY]
 | loop c1=>grind [cY]
 | _=>simp [cY] at h
theorem ON{P:Program}(h:cY P nt c (.ex id)=true):c= .exit id:=by
 cases c with
 | region id ops dr=>grind [cY]
 | exit id'=>grind [cY]
 | _=>simp [cY] at h
theorem OO{P:Program}(h:cY P nt c .rt=true):c= .ret:=by
 grind [cY]
theorem OP{P:Program}(h:cY P nt c (.kp kf kb x)=true):cY P nt c x=true:=by
 grind [cY]
theorem VV{P:Program}{g':bz}{x:Nat}{y' b':AC}(h:cY P nt c (.ru g' x y' b')=true):∃ g y b,c= .rangeFunc g #[x] y b∧bY g g'=true∧x<nt∧cY P nt y y'=true∧fR y y'=true∧cY P nt b b'=true∧fR b b'=true:=by
 cases c with
 | region id ops dr=>grind [cY]
 | rangeFunc g ps y b=>
  grind [cY]
 | _=>simp [cY] at h
def LW(P:Program)(c:Code)(Q:Exit→Act→World→Prop)(a:Act)(w:World):Prop:=
 ∀ (b:Frame)(k:List Item)(cs:List Frame),∃ e a' w',Q e a' w'∧Arrives P (lone (b.at a (.code c::.inLoop c::k)) cs w) b k cs e a' w'
variable {a:Act}{w:World}
theorem LW.loop{P:Program}{Q:Exit→Act→World→Prop}(h:LW P c Q a w):(Code.loop c).wp P Q a w:=by
 intro b k cs
 obtain ⟨e,a',w',hq,am⟩:=h b k cs
 exact ⟨e,a',w',hq,.of_steps (.one step_loop) am⟩
theorem LW.round{P:Program}{Q:Exit→Act→World→Prop}(h:c.wp P (Exit.then (LW P c Q) Q) a w):LW P c Q a w:=by
 intro b k cs
 obtain ⟨e,a₁,w₁,hq,am⟩:=h b (.inLoop c::k) cs
 cases e with
 | normal=>
  obtain ⟨e₂,a₂,w₂,bb,aR⟩:=hq b k cs
  exact ⟨e₂,a₂,w₂,bb,.of_steps (Steps.trans am (.one step_inLoop)) aR⟩
 | exit id=>exact ⟨_,a₁,w₁,hq,.pass (x:=.inLoop c) rfl (fun _ _=>.inl (by simp)) am⟩
 | goto l=>exact ⟨_,a₁,w₁,hq,.pass (x:=.inLoop c) rfl (fun _ _=>.inl (by simp)) am⟩
 | ret=>exact ⟨_,a₁,w₁,hq,.pass (x:=.inLoop c) rfl (fun _ _=>.inl (by simp)) am⟩
 | panic ch=>exact ⟨_,a₁,w₁,hq,.pass (x:=.inLoop c) rfl (fun _ _=>.inl (by simp)) am⟩
 | outgrown=>exact ⟨_,a₁,w₁,hq,.pass (x:=.inLoop c) rfl (fun _ _=>.inl (by simp)) am⟩
def J4(P:Program)(X:aU):Prop:=∀ (E:Env)(ac:AC)(st:St)(r:bh×St)(c:Code)(nt:Nat)(C:Cx)(a:Act)(w:World)(σ:Sp)(Q:Exit→Act→World→Prop),C.P=P→C.E=E→nt≤C.nt→X E ac st=some r→cY P nt c ac=true→aw C st a w σ→
 (∀ a' w' σ',cX C w σ w' σ'→aw C r.2 a' w' σ'→Q (tL r.1) a' w')→c.wp P Q a w
def L0(P:Program)(X:aU):Prop:=∀ (E:Env)(ac:AC)(st:St)(r:bh×St)(c:Code)(nt:Nat)(C:Cx)(a:Act)(w:World)(σ:Sp)(Q:Exit→Act→World→Prop),C.P=P→C.E=E→nt≤C.nt→X E (.lp ac) st=some r→cY P nt c ac=true→aw C st a w σ→
 (∀ a' w' σ',cX C w σ w' σ'→aw C r.2 a' w' σ'→Q (tL r.1) a' w')→LW P c Q a w
theorem xG:∀ (args:List AV)(i d:Nat),az (kq i args) d=if i≤d then (args[d - i]?).getD .u else .u
 | [],i,d=>by simp [kq,az]
 | x::xs,i,d=>by
  simp only [kq,az,xG xs (i+1) d]
  grind
variable {P:Program}{G:qG}{Ω:dK}
variable {C:Cx}{σ:Sp}{cs:List AV}
theorem kP.cx{C':Cx}{k:Key}{vs:Array Value}{T:TypeId}(h:kP C w σ k cs vs T)(hP:C'.P=C.P)(hW:C'.W=C.W)(hE:C'.E=C.E):kP C' w σ k cs vs T:=by
 refine ⟨h.hh,h.size,h.ow,fun hm=>by rw [hW];exact h.wr (by grind),h.one,fun off c hc=>?_,h.ty,h.kb⟩
 have:=h.cell off c hc
 simp_all [CR]
theorem yw{P:Program}{f:FuncId}{fn:Func}{args:Array Value}{R:Ending→World→Prop}(hf:P.funcs[f]? =some fn)(hb:fn.body=some c)(h:c.wp P (bodyPostM Fence.wide 0 P fn R) {tmps:=args++Array.replicate (fn.ntmps - args.size) undef,defers:=[]} w):Calls P f args w R:=
 (callsIn_wide (n:=0)).1 (callsIn_of_wp_marks hf hb trivial (wpIn_wide.2 h) rfl)
theorem aw.OQ{C:Cx}{st:St}{w0:World}{σ0 σ:Sp}(a:Act):∀ (Ds:List Nat)(w:World),Ds.Nodup→(∀ D∈Ds,σ.ow D=some (.mark C.E.dp)∧C.W D∧w.heap[D]? =some (.deferred (some [])))→
  cX C w0 σ0 w σ→aw C st {a with defers:=[]} w σ→∃ w2,cX C w0 σ0 w2 σ∧aw C st {a with defers:=[]} w2 σ∧
  ∀ (fn:Func)(R:Ending→World→Prop)(v:Value),(results fn a.tmps).run C.P w2= .ok v w2→R (.returned v) w2→LeavesInM Fence.wide 0 C.P fn a.tmps R (Ds.map He) .returning w
 | [],w,_,_,F,h1=>⟨w,F,h1,fun fn R v hr hR=>⟨v,hr,hR⟩⟩
 | D::Ds,w,ap,hm,F,h=>by
  obtain ⟨ho,hW,hD⟩:=hm D (by simp)
  have aH:∀ b,b≠D→(w.putObj D (.deferred none)).heap[b]? =w.heap[b]? :=fun b hb=>World.putObj_heap_other hb
  have hI:∀ b,σ.I b→b≠D:=fun b hb e=>by
   subst e
   rw [(h.cz b hb).2] at ho;cases ho
  have au:(w.putObj D (.deferred none)).heap.size=w.heap.size:=by simp_all
  have hs:iY C w σ (w.putObj D (.deferred none)) σ (some (.mark C.E.dp)):=by
   refine ⟨fun b l hb hl=>⟨aH b fun e=>?_,hb⟩,fun b hb=>aH b (hI b hb),fun _ h=>h,rfl,uI au.symm,fun b l hb=>by rw [au];exact h.own b l hb,fun b hb=>by rw [au];exact h.cz b hb⟩
   subst e
   rw [ho] at hb
   exact hl hb.symm
  have bC:cX C w0 σ0 (w.putObj D (.deferred none)) σ:=F.trans ⟨uI au.symm,by grind,fun _ h=>h,fun b hb=>aH b (hI b hb),fun _ h=>.inl h,fun _ _=>rfl,fun _ _ _=>rfl,rfl,rfl⟩
  obtain ⟨cy,cg⟩:=uP.1 ap
  obtain ⟨w2,h2,h3,h4⟩:=OQ a Ds (w.putObj D (.deferred none)) cg ((by grind)) bC (h.RD hs ⟨fun _ _ _ _=>by simp,fun _ _ _=>by simp,fun _ _ _ _ _ _ _=>by simp,fun _=>by simp⟩ Marks.nil)
  exact ⟨w2,h2,h3,fun fn R v hr hR=>⟨by simp,.inl ⟨D,_,rfl,run_takeDeferred hD,h4 fn R v hr hR⟩⟩⟩
variable {st:St}
theorem aw.L1{w0:World}{σ0:Sp}(F:cX C w0 σ0 w σ)(h:aw C st a w σ):∃ w2,cX C w0 σ0 w2 σ∧aw C st {a with defers:=[]} w2 σ∧
  ∀ (fn:Func)(R:Ending→World→Prop)(v:Value),(results fn a.tmps).run C.P w2= .ok v w2→R (.returned v) w2→LeavesInM Fence.wide 0 C.P fn a.tmps R a.defers .returning w:=by
 have h1:aw C st {a with defers:=[]} w σ:=⟨h.size,Marks.nil,h.fr,h.bx,h.hpd,h.own,h.cz,h.new,h.lay⟩
 obtain ⟨Ds,h2,h3,h4⟩:=h.defers
 grind [aw.OQ]
noncomputable def jk(C:Cx)(σ:Sp):Nat→Option eI:=fun b=>open Classical in if C.W b∧∃ l,σ.ow b=some l∧l.dep=C.E.dp then none else σ.ow b
variable {rs:List RV}{e:bA}
theorem J5(h:st.rowOf rs=some e):∃ n m t es,rs=[.r n]∧az st.fr m= .o t es∧(m=n∨az st.fr n= .r (.s m))∧e= .row t es:=by
 unfold St.rowOf at h
 grind
theorem Hp:∀ (cs:List AV)(j i:Nat)(k:Key)(n sz:Nat),GS j cs=some (i,k,n,sz)→∃ m,i=j+m∧cs[m]? =some (.sp k 0 n sz)
 | [],j,i,k,n,sz,h=>by cases h
 | c::cs,j,i,k,n,sz,h=>by
  have S:GS (j+1) cs=some (i,k,n,sz)→∃ m,i=j+m∧(c::cs)[m]? =some (.sp k 0 n sz):=fun h=>by
   obtain ⟨m,rfl,hm⟩:=Hp cs (j+1) i k n sz h
   grind
  cases c with
  | sp k2 o n2 sz2=>
   cases o with
   | zero=>
    cases ah h
    grind
   | succ o=>exact S h
  | _=>exact S h
variable {E:Env}
theorem J6(h:st.PE E rs=some e):∃ z cs i k n sz bs,rs=[z]∧(st.Lq E.dp z=some (.a cs)∧AV.nj cs=true)∧cs[i]? =some (.sp k 0 n sz)∧aZ st.bx k.d=some bs∧k.dp=E.dp∧1000000≤k.d∧AV.bJ bs=true∧AV.bJ (cs.set i .z)=true∧e= .sg i (cs.set i .z) (uV k.d) n sz bs:=by
 unfold St.PE at h
 grind [Option.bind_eq_some_iff,Hp]
theorem EV{x:AV}(h:st.end_ E rs=some (.ret x)):st.result E rs=some x:=by
 grind [St.end_,J5,J6]
theorem OR(h:st.end_ E rs=some (.new cs)):st.mN E rs=some cs:=by
 grind [St.end_,J5,J6]
theorem RS(h:st.mN E rs=some cs):∃ n k,rs=[.t n]∧az st.fr n= .p k 0∧k.dp=E.dp∧aZ st.bx k.d=some cs∧cs.all s9=true:=by
 unfold St.mN at h
 grind [Option.bind_eq_some_iff]
variable {X:aU}
theorem RT(hT:zY P G)(hX:J4 P X):∀ dp f ys hp x ao,jM G X ⟨dp,false⟩ f ys hp=some (.ret x,ao)→(∀ y∈ys,y.copy=true)→A9 P dp f ys hp x ao:=by
 intro dp f ys hp x ao he bW
 obtain ⟨fn',hG,Z⟩:=aj.1 he
 obtain ⟨r,hr,ag⟩:=aj.1 Z
 have H:=hT f fn' hG
 unfold PT at H
 split at H
 ·rename_i fn hf
  split at H
  ·rename_i c hb
   simp only [aL,pa] at H
   obtain ⟨⟨ai,ak⟩,ax⟩:=H
   have al:∃ e,tL r.1=e∧(e= .normal∨e= .ret)∧(r.2.result ⟨dp,false⟩ fn'.res)=some x∧r.2.hp=ao:=by
    cases aK:r.1 with
    | ex id=>grind
    | nrm=>
     rw [aK] at ag
     obtain ⟨q,hq,bg⟩:=aj.1 ag
     have h1:q= .ret x:=by grind
     exact ⟨_,rfl,.inl rfl,EV (h1▸hq),by grind⟩
    | ret=>
     rw [aK] at ag
     obtain ⟨q,hq,bg⟩:=aj.1 ag
     have h1:q= .ret x:=by grind
     exact ⟨_,rfl,.inr rfl,EV (h1▸hq),by grind⟩
   obtain ⟨e,bf,be,hq,a7⟩:=al
   have aq:x.pure=true:=by
    obtain ⟨xs,_,h2⟩:=aj.1 hq
    split at h2
    ·rename_i hp
     obtain rfl:=ah h2
     match xs,hp with
     | [],_=>rfl
     | [y],hp=>simpa [CX,AV.bJ] using hp
     | y::z::ys,hp=>exact hp
    ·cases h2
   refine ⟨aq,⟨fn,hf,by rw [hb];rfl,ai⟩,fun W w σ B aG hH au an=>?_⟩
   refine yw hf hb ?_
   let C:Cx:=⟨P,W,⟨dp,false⟩,B.size+(fn.ntmps - B.size)⟩
   have hc:aw C ⟨kq 0 ys,[],hp⟩ {tmps:=B++Array.replicate (fn.ntmps - B.size) undef,defers:=[]} w σ:=by
    refine ⟨by simp [C],Marks.nil,fun d=>?_,fun k cs hk=>?_,fun k cs V hk=>hH.deep k cs hk V,hH.own,hH.cz,aG,hH.lay⟩
    ·rw [xG]
     simp only [dy,aA,uH]
     cases hd:ys[d]? with
     | none=>exact VR.u _
     | some y=>
      have aO:=dC hd
      have hy:=an d y hd
      have e:(B++Array.replicate (fn.ntmps - B.size) undef).getD d undef=B.getD d undef:=by
       simp_all [zD]
      grind [kR]
    ·simp only [St.box] at hk
     split at hk
     ·simp [aZ] at hk
     ·rename_i V
      obtain ⟨vs,T,hB⟩:=hH.bx k cs hk (hH.deep k cs hk V).1
      exact ⟨vs,T,hB.cx rfl rfl rfl⟩
   refine hX ⟨dp,false⟩ fn'.code ⟨kq 0 ys,[],hp⟩ r c fn.ntmps C _ w σ _ rfl rfl (by simp [C];omega) hr ak hc fun a0 w0 σ' aE bk=>?_
   obtain ⟨w',F,M,aa⟩:=bk.L1 aE
   obtain ⟨v,aF,hv⟩:=M.result ax hq
   have bd:∀ b l,σ'.ow b=some l→l.dep≠dp→jk C σ' b=some l:=by
    grind [jk]
   have Y:bodyPostM Fence.wide 0 P fn (fun e w'=>∃ v σ',e= .returned v∧VR w' σ'.I σ'.κ x v∧cX (u5 P W dp) w σ w' σ'∧Cb P W dp ao w' σ') .ret a0 w0:=by
    refine aa fn _ v aF ⟨v,⟨σ'.κ,jk C σ',wU C w' σ'⟩,rfl,hv,⟨F.size,F.bB,fun b hb=>.inl (F.up b hb),F.cz,fun b hb=>hb.elim (fun h=>F.dn b h) fun h=>.inr h.1,F.kap,fun b hb hW=>?_,F.io⟩,⟨fun k cs hk aO=>?_,fun k cs hk V=>?_,fun b l hb=>?_,fun b hb=>?_,M.lay.bB (fun _ h=>.inl h) fun _ _=>rfl⟩⟩
    ·show jk C σ' b=_
     unfold jk
     rw [ab fun h=>hW h.1]
     exact F.ow b hb hW
    ·rw [←a7] at hk
     obtain ⟨vs,T,hB⟩:=M.bx k cs (by grind [St.box])
     exact ⟨vs,T,hB.FX rfl rfl ((by grind [eI.dep])) (fun _ h=>.inl h) rfl (fun _ _ _ _ h=>h) (fun _ _ _ _=>rfl) fun c bM=>u6 ((M.hpd k cs (by grind) hk).2 c bM)⟩
    ·rw [←a7] at hk
     exact M.hpd k cs V hk
    ·have:jk C σ' b=some l:=hb
     unfold jk at this
     split at this
     ·cases this
     ·exact M.own b l this
    ·rcases hb with hb | ⟨h1,l,h2,h3⟩
     ·obtain ⟨h4,h5⟩:=M.cz b hb
      grind [jk]
     ·refine ⟨M.own b l h2,?_⟩
      simp_all [jk]
   rw [bf]
   rcases be with rfl | rfl
   ·exact Y
   ·exact Y
  ·cases H
 ·cases H
theorem TH(hT:zY P G)(hX:J4 P X):∀ dp f ys hp x ao,jM G X ⟨dp,true⟩ f ys hp=some (.ret x,ao)→(∀ y∈ys,y.copy=true)→IH P dp f ys hp x:=by
 intro dp f ys hp x ao he bW
 obtain ⟨fn',hG,Z⟩:=aj.1 he
 obtain ⟨r,hr,ag⟩:=aj.1 Z
 have H:=hT f fn' hG
 unfold PT at H
 split at H
 ·rename_i fn hf
  split at H
  ·rename_i c hb
   simp only [aL,pa] at H
   obtain ⟨⟨ai,ak⟩,ax⟩:=H
   have al:∃ e,tL r.1=e∧(e= .normal∨e= .ret)∧(r.2.result ⟨dp,true⟩ fn'.res)=some x∧r.2.hp=ao:=by
    cases aK:r.1 with
    | ex id=>grind
    | nrm=>
     rw [aK] at ag
     obtain ⟨q,hq,bg⟩:=aj.1 ag
     have h1:q= .ret x:=by grind
     exact ⟨_,rfl,.inl rfl,EV (h1▸hq),by grind⟩
    | ret=>
     rw [aK] at ag
     obtain ⟨q,hq,bg⟩:=aj.1 ag
     have h1:q= .ret x:=by grind
     exact ⟨_,rfl,.inr rfl,EV (h1▸hq),by grind⟩
   obtain ⟨e,bf,be,hq,a7⟩:=al
   have aq:x.pure=true:=by
    obtain ⟨xs,_,h2⟩:=aj.1 hq
    split at h2
    ·rename_i hp
     obtain rfl:=ah h2
     match xs,hp with
     | [],_=>rfl
     | [y],hp=>simpa [CX,AV.bJ] using hp
     | y::z::ys,hp=>exact hp
    ·cases h2
   refine ⟨aq,⟨fn,hf,by rw [hb];rfl,ai⟩,fun w σ B cA hH au an=>?_⟩
   refine yw hf hb ?_
   let C:Cx:=⟨P,fun b=>w.heap.size≤b,⟨dp,true⟩,B.size+(fn.ntmps - B.size)⟩
   have hc:aw C ⟨kq 0 ys,[],hp⟩ {tmps:=B++Array.replicate (fn.ntmps - B.size) undef,defers:=[]} w σ:=by
    refine ⟨by simp [C],Marks.nil,fun d=>?_,fun k cs hk=>?_,fun k cs V hk=>hH.deep k cs hk V,hH.own,hH.cz,by grind,hH.lay⟩
    ·rw [xG]
     simp only [dy,aA,uH]
     cases hd:ys[d]? with
     | none=>exact VR.u _
     | some y=>
      have aO:=dC hd
      have hy:=an d y hd
      have e:(B++Array.replicate (fn.ntmps - B.size) undef).getD d undef=B.getD d undef:=by
       simp_all [zD]
      grind [kR]
    ·simp only [St.box] at hk
     split at hk
     ·simp [aZ] at hk
     ·rename_i V
      obtain ⟨vs,T,hB⟩:=hH.bx k cs hk (hH.deep k cs hk V).1
      exact ⟨vs,T,hB.cx rfl rfl rfl⟩
   refine hX ⟨dp,true⟩ fn'.code ⟨kq 0 ys,[],hp⟩ r c fn.ntmps C _ w σ _ rfl rfl (by simp [C];omega) hr ak hc fun a0 w0 σ' aE bk=>?_
   obtain ⟨w',F,M,aa⟩:=bk.L1 aE
   obtain ⟨v,aF,hv⟩:=M.result ax hq
   have Y:bodyPostM Fence.wide 0 P fn (fun e w'=>∃ v I',e= .returned v∧VR w' I' σ.κ x v∧w.heap.size≤w'.heap.size∧(∀ b,b<w.heap.size→w'.heap[b]? =w.heap[b]?)∧(∀ b,σ.I b→I' b)∧(∀ b,I' b→σ.I b∨w.heap.size≤b)∧(∀ b,I' b→b<w'.heap.size)∧w'.os=w.os∧w'.output=w.output) .ret a0 w0:=by
    refine aa fn _ v aF ⟨v,wU C w' σ',rfl,hv.zU (fun _ h=>h) (fun _ _=>rfl) aq,F.size,fun b hb=>F.bB b hb (show ¬w.heap.size≤b by omega),fun b hb=>.inl (F.up b hb),fun b hb=>hb.elim (fun h=>F.dn b h) fun h=>.inr h.1,fun b hb=>?_,F.io⟩
    rcases hb with hb | ⟨h1,l,h2,h3⟩
    ·exact (M.cz b hb).1
    ·exact M.own b l h2
   rw [bf]
   rcases be with rfl | rfl
   ·exact Y
   ·exact Y
  ·cases H
 ·cases H
theorem RU(hT:zY P G)(hX:J4 P X):∀ dp f ys hp cs ao,jM G X ⟨dp,false⟩ f ys hp=some (.new cs,ao)→(∀ y∈ys,y.copy=true)→ET P dp f ys hp cs ao:=by
 intro dp f ys hp ncs ao he bW
 obtain ⟨fn',hG,Z⟩:=aj.1 he
 obtain ⟨r,hr,ag⟩:=aj.1 Z
 have H:=hT f fn' hG
 unfold PT at H
 split at H
 ·rename_i fn hf
  split at H
  ·rename_i c hb
   simp only [aL,pa] at H
   obtain ⟨⟨ai,ak⟩,ax⟩:=H
   have al:∃ e,tL r.1=e∧(e= .normal∨e= .ret)∧(r.2.mN ⟨dp,false⟩ fn'.res)=some ncs∧r.2.hp=ao:=by
    cases aK:r.1 with
    | ex id=>grind
    | nrm=>
     rw [aK] at ag
     obtain ⟨q,hq,bg⟩:=aj.1 ag
     have h1:q= .new ncs:=by grind
     exact ⟨_,rfl,.inl rfl,OR (h1▸hq),by grind⟩
    | ret=>
     rw [aK] at ag
     obtain ⟨q,hq,bg⟩:=aj.1 ag
     have h1:q= .new ncs:=by grind
     exact ⟨_,rfl,.inr rfl,OR (h1▸hq),by grind⟩
   obtain ⟨e,bf,be,hq,a7⟩:=al
   obtain ⟨n,kk,ca,co,cm,cC,aG⟩:=RS hq
   refine ⟨aG,⟨fn,hf,by rw [hb];rfl,ai⟩,fun W w σ B aG hH au an=>?_⟩
   refine yw hf hb ?_
   let C:Cx:=⟨P,W,⟨dp,false⟩,B.size+(fn.ntmps - B.size)⟩
   have hc:aw C ⟨kq 0 ys,[],hp⟩ {tmps:=B++Array.replicate (fn.ntmps - B.size) undef,defers:=[]} w σ:=by
    refine ⟨by simp [C],Marks.nil,fun d=>?_,fun k cs hk=>?_,fun k cs V hk=>hH.deep k cs hk V,hH.own,hH.cz,aG,hH.lay⟩
    ·rw [xG]
     simp only [dy,aA,uH]
     cases hd:ys[d]? with
     | none=>exact VR.u _
     | some y=>
      have aO:=dC hd
      have hy:=an d y hd
      have e:(B++Array.replicate (fn.ntmps - B.size) undef).getD d undef=B.getD d undef:=by
       simp_all [zD]
      grind [kR]
    ·simp only [St.box] at hk
     split at hk
     ·simp [aZ] at hk
     ·rename_i V
      obtain ⟨vs,T,hB⟩:=hH.bx k cs hk (hH.deep k cs hk V).1
      exact ⟨vs,T,hB.cx rfl rfl rfl⟩
   refine hX ⟨dp,false⟩ fn'.code ⟨kq 0 ys,[],hp⟩ r c fn.ntmps C _ w σ _ rfl rfl (by simp [C];omega) hr ak hc fun a0 w0 σ' aE bk=>?_
   obtain ⟨w',F,M,aa⟩:=bk.L1 aE
   let a':Act:={a0 with defers:=[]}
   rw [ca] at ax
   obtain ⟨v,aF,hv⟩:∃ v,(results fn a'.tmps).run P w'= .ok v w'∧v= .pointer (some ⟨σ'.κ kk,0,none⟩):=by
    have cB:fn.results=#[.tmp n]:=by
     have:fn.results.toList=[.tmp n]:=by
      revert ax
      cases hq:fn.results.toList with
      | nil=>intro h;cases h
      | cons z zs=>
       cases z with
       | cell t ty=>grind [fP]
       | tmp t=>
        grind [fP]
     grind
    have bX:=M.fr n
    rw [co] at bX
    have bD:VR w' σ'.I σ'.κ (.p kk 0) (a'.tmps.getD n undef):=bX
    refine ⟨a'.tmps.getD n undef,?_,bD.xD⟩
    simp_all [results]
   obtain ⟨vs,T,hB⟩:=M.bx kk ncs (by grind [St.box])
   have Y:bodyPostM Fence.wide 0 P fn (fun e w'=>∃ σ' kk vs T,e= .returned (.pointer (some ⟨σ'.κ kk,0,none⟩))∧kk.dp=dp∧kP (u5 P W dp) w' σ' kk ncs vs T∧cX (u5 P W dp) w σ w' σ'∧Cb P W dp ao w' σ') .ret a0 w0:=by
    refine aa fn _ v aF ⟨σ',kk,vs,T,by rw [hv],cm,hB.cx rfl rfl rfl,⟨F.size,F.bB,F.up,F.cz,F.dn,F.kap,F.ow,F.io⟩,⟨fun k cs hk aO=>?_,fun k cs hk V=>?_,M.own,M.cz,M.lay⟩⟩
    ·rw [←a7] at hk
     obtain ⟨vs,T,hB⟩:=M.bx k cs (by grind [St.box])
     exact ⟨vs,T,hB.cx rfl rfl rfl⟩
    ·rw [←a7] at hk
     exact M.hpd k cs V hk
   rw [bf]
   rcases be with rfl | rfl
   ·exact Y
   ·exact Y
  ·cases H
 ·cases H
theorem aw.Lq(h:aw C st a w σ){x:ResultVar}{z:RV}{y:AV}(hl:fP C.P [x] [z]=true)(he:st.Lq C.E.dp z=some y)(aP:y.copy=true):∃ v,(tK a.tmps x).run C.P w= .ok v w∧VR w σ.I σ.κ y v:=by
 cases x with
 | tmp t=>
  cases z with
  | t n=>
   obtain rfl:t=n:=by simpa [fP] using hl
   obtain rfl:=ah he
   exact ⟨_,rfl,(h.fr t).B0 aP⟩
  | c n sz=>simp [fP] at hl
  | r n=>cases he
 | cell n' ty=>
  cases z with
  | t n=>simp [fP] at hl
  | r n=>cases he
  | c n sz=>
   obtain ⟨rfl,hn⟩:n'=n∧sY C.P ty sz=true:=by simpa [fP] using hl
   simp only [St.Lq] at he
   split at he
   ·rename_i k off hx
    obtain ⟨cs,hb,hp⟩:=aj.1 he
    obtain ⟨vs,T,hB⟩:=h.bx k cs hb
    have hs:=h.fr n'
    rw [hx] at hs
    have hv:=VR.xD hs
    obtain ⟨v,hr,cw⟩:=zS (P:=C.P) (I:=σ.I) (κ:=σ.κ) (b:=0) hB.hh (by have:=hB.size;omega) (fun off c hc U=>by
     have:=hB.cell off c hc
     rw [gO]
     cases c<;>first | exact this | (simp [AV.copy] at U)) (fun c hc U=>(hB.one c hc).resolve_right ((by grind [AV.copy]))) aP hp hn
    grind [tK,asAddr]
   ·cases he
theorem Ci{X:aU}(hT:zY P G)(hX:J4 P X):kS P (jM G X):=⟨RT hT hX,RU hT hX,TH hT hX⟩
abbrev FR(l:Nat):Fence:=Fence.wide.inRound l
theorem RW(h:fR c (.kp kf kb x)=true):fR c x=true:=by
 cases c with
 | region id ops d=>cases d<;>exact h
 | _=>exact h
section
variable {P:Program}{l n:Nat}{ops:Array Oper}{Q:Exit→Act→World→Prop}
theorem J7{o:Oper}{K:Act→World→Prop}(ap:EU o=true)(h:o.wp P a w K Q):o.wpIn (FR l) n P a w K Q:=by
 refine ⟨fun _ _=>trivial,?_⟩
 unfold Oper.wp at h
 rw [show (FR l).round=some l from rfl,Oper.semAt_some l a.eval o (fun c e=>by unfold EU at ap;rw [e] at ap;cases ap)]
 generalize (Go.execOp a.eval o).run P w=r at h ⊢
 cases r with
 | ok x w'=>
  cases x with
  | value v=>exact h
  | skip=>exact h
  | defer d=>exact h
  | enter f args=>exact ⟨fun h=>by simp [Fence.wide] at h,CallsIn.inRound l (callsIn_wide.2 h)⟩
  | row row args=>exact ⟨fun h=>by simp [Fence.wide] at h,fun c cs _=>let ⟨v,w',r,s⟩:=h c cs;⟨v,w',r,stepsIn_wide.2 s⟩⟩
  | _=>exact h.elim
 | halt x w'=>
  cases x<;>exact h
theorem Cj(ap:∀ o∈ops,EU o=true)(O:¬LetsOut Q):∀ (is:List Nat)(a:Act)(w:World),wpOps P ops Q is a w→wpOpsIn (FR l) n P ops Q is a w
 | [],a,w,h=>h
 | i::is,a,w,h=>by
  simp only [wpOps,wpOpsIn] at h ⊢
  cases ho:ops[i]? with
  | none=>rw [ho] at h;exact Cj ap O is a w h
  | some o=>
   rw [ho] at h
   simp only at h ⊢
   split
   ·rename_i hw
    rw [af hw] at h
    rcases h with h | h
    ·exact Oper.wpIn_mono (fun a w h=>Cj ap O is a w h) (J7 (ap o (Array.mem_of_getElem? ho)) h)
    ·exact absurd h.2 O
   ·rename_i hw
    rw [ab hw] at h
    exact ⟨fun _ _=>trivial,Cj ap O is _ w h⟩
theorem Ck(ap:∀ o∈ops,EU o=true)(O:¬LetsOut Q):∀ (fuel:Nat)(listed:Array Bool)(a:Act)(w:World),wpAny P .any ops Q fuel listed a w→wpAnyIn (FR l) n P .any ops Q fuel listed a w
 | 0,_,_,_,h=>h
 | fuel+1,listed,a,w,h=>by
  refine ⟨h.1,fun i hi=>?_⟩
  have h1:=h.2 i hi
  unfold wpOp at h1
  unfold wpOpIn
  cases ho:ops[i]? with
  | none=>rw [ho] at h1;exact Ck ap O fuel _ a w h1
  | some o=>
   rw [ho] at h1
   simp only at h1 ⊢
   split
   ·rename_i hw
    rw [af hw] at h1
    rcases h1 with h1 | h1
    ·exact Oper.wpIn_mono (fun a w h=>Ck ap O fuel _ a w h) (J7 (ap o (Array.mem_of_getElem? ho)) h1)
    ·exact absurd h1.2 O
   ·rename_i hw
    rw [ab hw] at h1
    exact ⟨fun _ _=>trivial,Ck ap O fuel _ _ w h1⟩
theorem PU{K:Act→World→Prop}(h:¬LetsOut Q):¬LetsOut (Exit.then K Q):=h
theorem NO(h:¬LetsOut Q):¬LetsOut (Exit.inBlock id Q):=h
end
variable [cj]
variable {P:Program}{G:qG}{Ω:dK}
theorem F3(hΩ:iT P Ω)(l m N:Nat)(hR:∀ k,k≤N→my P (jM G (exec G Ω k))):∀ (n:Nat),n≤N→∀ (E:Env)(ac:AC)(st:St)(r:bh×St)(c:Code)(nt:Nat)(C:Cx)(a:Act)(w:World)(σ:Sp)(Q:Exit→Act→World→Prop),C.P=P→C.E=E→nt≤C.nt→
  exec G Ω n E ac st=some r→cY P nt c ac=true→fR c ac=true→¬LetsOut Q→aw C st a w σ→
  (∀ a' w' σ',cX C w σ w' σ'→aw C r.2 a' w' σ'→Q (tL r.1) a' w')→c.wpIn (FR l) m P Q a w
 | 0,_,E,ac,st,r,c,nt,C,a,w,σ,Q,_,_,_,he,_,_,_,_,_=>by simp [exec] at he
 | n+1,hN,E,ac,st,r,c,nt,C,a,w,σ,Q,hP,hE,aD,he,hl,hp,O,hc,hQ=>by
  have b6:=hR n (by omega)
  have ih:=F3 hΩ l m N hR n (by omega)
  cases ac with
  | sk=>
   obtain rfl:=ah he
   rcases OH hl with rfl | ⟨l,rfl⟩
   ·exact wpIn_skip (hQ a w σ (.refl _ _ _) hc)
   ·exact wpIn_label (hQ a w σ (.refl _ _ _) hc)
  | rg pre gs kf kb=>
   obtain ⟨id,ops,U,ay⟩:=OI hl
   subst U
   simp only [exec] at he
   subst hP;subst hE
   obtain ⟨st1,h1,Z⟩:=aj.1 he
   obtain ⟨st2,h2,ag⟩:=aj.1 Z
   obtain rfl:=ah ag
   obtain ⟨σ1,bq,bO⟩:=hc.pre pre h1
   simp only [fR] at hp
   refine wpIn_region ?_
   have:=aw.steps (ops:=ops) (Q:=Q) b6 hΩ aD gs ops.toList 0 st1 st2 a w σ1 rfl ay bO h2 (fun a' w' σ' hs M=>hQ a' w' σ' (bq.trans hs) (M.bB kf kb))
   rw [Array.length_toList,←List.range_eq_range'] at this
   exact Cj (fun o ho=>Dx.1 hp o ho) O _ _ _ this
  | dg pre mks gs kf kb=>
   obtain ⟨id,ops,U,ay⟩:=OJ hl
   subst U
   simp only [exec] at he
   subst hP;subst hE
   obtain ⟨st1,h1,Z⟩:=aj.1 he
   split at Z
   ·rename_i hm
    obtain ⟨st2,h2,ag⟩:=aj.1 Z
    obtain rfl:=ah ag
    obtain ⟨σ1,bq,bO⟩:=hc.pre pre h1
    simp only [fR] at hp
    obtain ⟨bH,bQ⟩:=bO.LY (Q:=Q) b6 hΩ aD ay hm h2 fun a' w' σ' hs M=>hQ a' w' σ' (bq.trans hs) (M.bB kf kb)
    exact wpIn_region_any bH (Ck (fun o ho=>Dx.1 hp o ho) O _ _ _ _ bQ)
   ·cases Z
  | sq x y=>
   obtain ⟨c1,c2,U,ay⟩:=OK hl
   subst U
   simp only [exec] at he
   simp only [fR,aL] at hp
   obtain ⟨q,hq,Z⟩:=aj.1 he
   refine wpIn_seq (ih E x st q c1 nt C a w σ _ hP hE aD hq ay.1 hp.1 (PU O) hc fun a' w' σ' hs M=>?_)
   obtain ⟨qe,qs⟩:=q
   cases qe with
   | nrm=>exact ih E y qs r c2 nt C a' w' σ' Q hP hE aD Z ay.2 hp.2 O M fun a'' w'' σ'' b9 bP=>hQ a'' w'' σ'' (hs.trans b9) bP
   | ex id=>
    obtain rfl:=ah Z
    exact hQ a' w' σ' hs M
   | ret=>
    obtain rfl:=ah Z
    exact hQ a' w' σ' hs M
  | ite cc x y=>
   obtain ⟨cd,c1,c2,U,ay⟩:=LZ hl
   subst U
   simp only [exec] at he
   simp only [fR,aL] at hp
   obtain ⟨z,hz,Z⟩:=aj.1 he
   have bV:st.ev cc= .b z:=by
    cases U:st.ev cc<;>rw [U] at hz<;>simp [pB] at hz
    rw [hz]
   have cp:a.eval cd= .bool z:=by
    have:=hc.ta ay.1.1 (by rw [bV];rfl)
    rw [bV] at this
    exact this.vN
   refine wpIn_cond cp ?_
   cases z with
   | true=>exact ih E x st r c1 nt C a w σ Q hP hE aD (by simpa using Z) ay.1.2 hp.1 O hc hQ
   | false=>exact ih E y st r c2 nt C a w σ Q hP hE aD (by simpa using Z) ay.2 hp.2 O hc hQ
  | bl id x=>
   obtain ⟨c1,U,ay⟩:=OL hl
   subst U
   simp only [exec] at he
   simp only [fR] at hp
   obtain ⟨q,hq,Z⟩:=aj.1 he
   refine wpIn_block (ih E x st q c1 nt C a w σ _ hP hE aD hq ay hp (NO O) hc fun a' w' σ' hs M=>?_)
   obtain ⟨qe,qs⟩:=q
   cases qe with
   | nrm=>
    obtain rfl:=ah Z
    exact hQ a' w' σ' hs M
   | ret=>
    obtain rfl:=ah Z
    exact hQ a' w' σ' hs M
   | ex id=>
    simp only [inBlock] at Z
    simp only [tL,Exit.inBlock]
    split at Z
    ·rename_i hid
     obtain rfl:=ah Z
     rw [af hid]
     exact hQ a' w' σ' hs M
    ·rename_i hid
     obtain rfl:=ah Z
     rw [ab hid]
     exact hQ a' w' σ' hs M
  | lp x=>
   obtain ⟨c1,U,ay⟩:=OM hl
   subst U
   simp [fR] at hp
  | ex id=>
   obtain rfl:=ON hl
   obtain rfl:=ah he
   exact wpIn_exit (hQ a w σ (.refl _ _ _) hc)
  | kp kf kb x=>exact ih E x (st.bB kf kb) r c nt C a w σ Q hP hE aD he (OP hl) (RW hp) O (hc.bB kf kb) hQ
  | bad=>cases he
  | ru g x y b=>cases c with
   | region id ops d=>cases d<;>simp [fR] at hp
   | _=>simp [fR] at hp
  | rt=>
   obtain rfl:=OO hl
   obtain rfl:=ah he
   exact wpIn_ret (hQ a w σ (.refl _ _ _) hc)
end Go.Proofs.YtlmphbbhaeampaaGreat.A
namespace Go.Proofs.YtlmphbbhaeampaaGreat.A
open Go Go.RowKit
variable [cj]
section
variable {C:Cx}{st:St}{a:Act}{w:World}{σ:Sp}
theorem fv.tM{P:Program}{W W':Nat→Prop}{L:eI}{wr:Prop}{t:TypeId}{es:List AV}{g cap:Nat}{cs:Array Value}(hW:∀ b,σ.ow b≠none→W b→W' b)(h:fv P W w σ L wr t es g cap cs):fv P W' w σ L wr t es g cap cs:=
 ⟨h.ow,fun hw=>hW g (by rw [h.ow];simp) (h.wr hw),h.hh,h.pos,h.nc,h.ecap,h.max,h.size,h.pure,h.one,h.cell,h.base⟩
theorem OwnAt.tM{P:Program}{W W':Nat→Prop}{L:eI}{wr:Prop}{t:TypeId}{es:List AV}{v:Value}(hW:∀ b,σ.ow b≠none→W b→W' b)(h:OwnAt P W w σ L wr t es v):OwnAt P W' w σ L wr t es v:=
 h.imp id fun ⟨g,cap,cs,hv,hr⟩=>⟨g,cap,cs,hv,hr.tM hW⟩
theorem qg.tM{W W':Nat→Prop}{dp g:Nat}{t:TypeId}{x:AV}{v:Value}(hW:∀ b,σ.ow b≠none→W b→W' b)(h:qg W dp w σ g t x v):qg W' dp w σ g t x v:=
 ⟨h.1,h.2.mono (fun b h1=>⟨h1.1,hW b (by rw [h1.1];simp) h1.2.1,h1.2.2⟩) (fun _ _=>rfl) fun _ _=>rfl⟩
theorem CR.tM{W':Nat→Prop}{k:Key}{off:Nat}{c:AV}{v:Value}(hW:∀ b,σ.ow b≠none→C.W b→W' b)(h:CR C w σ k off c v):CR {C with W:=W'} w σ k off c v:=by
 cases c with
 | o t es=>exact OwnAt.tM hW h
 | w g t x=>exact qg.tM hW h
 | _=>exact h
theorem kP.tM{W':Nat→Prop}{k:Key}{cs:List AV}{vs:Array Value}{T:TypeId}(hW:∀ b,σ.ow b≠none→C.W b→W' b)(h:kP C w σ k cs vs T):kP {C with W:=W'} w σ k cs vs T:=
 ⟨h.hh,h.size,h.ow,fun hm=>hW _ (by rw [h.ow];simp) (h.wr hm),h.one,fun off c hc=>(h.cell off c hc).tM hW,h.ty,h.kb⟩
theorem SR.tM{W':Nat→Prop}{d:Nat}{x:AV}{v:Value}(hW:∀ b,σ.ow b≠none→C.W b→W' b)(h:SR C w σ st a d x v):SR {C with W:=W'} w σ st a d x v:=by
 cases x with
 | o t es=>exact OwnAt.tM hW h
 | w g t x=>exact qg.tM hW h
 | _=>exact h
theorem aw.tM{W':Nat→Prop}(hW:∀ b,σ.ow b≠none→C.W b→W' b)(hn:∀ b,w.heap.size≤b→W' b)(h:aw C st a w σ):aw {C with W:=W'} st a w σ:=by
 refine ⟨h.size,?_,fun d=>(h.fr d).tM hW,fun k cs hk=>?_,h.hpd,h.own,h.cz,fun b hb=>⟨hn b hb,(h.new b hb).2⟩,h.lay⟩
 ·obtain ⟨Ds,h0,h1,h2⟩:=h.defers
  exact ⟨Ds,h0,h1,fun D hD=>⟨(h2 D hD).1,hW D (by rw [(h2 D hD).1];simp) (h2 D hD).2.1,(h2 D hD).2.2⟩⟩
 ·obtain ⟨vs,T,hB⟩:=h.bx k cs hk
  exact ⟨vs,T,hB.tM hW⟩
theorem cX.tM{W':Nat→Prop}{w':World}{σ':Sp}(hW:∀ b,C.W b→W' b)(h:cX C w σ w' σ'):cX {C with W:=W'} w σ w' σ':=
 ⟨h.size,fun b hb hn=>h.bB b hb fun hc=>hn (hW b hc),h.up,h.cz,fun b hb=>(h.dn b hb).imp id (hW b),h.kap,fun b hb hn=>h.ow b hb fun hc=>hn (hW b hc),h.io⟩
theorem aw.rq{l:Nat}{o:Obj}(ho:σ.ow l=none)(hI:¬σ.I l)(h:aw C st a w σ):aw C st a (w.putObj l o) σ:=by
 have au:(w.putObj l o).heap.size=w.heap.size:=by simp [World.putObj]
 exact h.same ⟨fun b L hb _=>⟨World.putObj_heap_other fun e=>(by rw [e,ho] at hb;cases hb),hb⟩,fun b hb=>World.putObj_heap_other fun e=>hI (e▸hb),fun _ h=>h,rfl,uI au.symm,fun b L hb=>by rw [au];exact h.own b L hb,fun b hb=>by rw [au];exact h.cz b hb⟩
theorem cX.rq{l:Nat}{o:Obj}(hW:C.W l)(hI:¬σ.I l):cX C w σ (w.putObj l o) σ:=by
 have au:(w.putObj l o).heap.size=w.heap.size:=by simp [World.putObj]
 exact ⟨uI au.symm,fun b hb hn=>World.putObj_heap_other fun e=>hn (e▸hW),fun _ h=>h,fun b hb=>World.putObj_heap_other fun e=>hI (e▸hb),fun _ h=>.inl h,fun _ _=>rfl,fun _ _ _=>rfl,rfl,rfl⟩
theorem aw.grown{w':World}(hb:Below w.heap.size w w')(h:aw C st a w σ):aw C st a w' σ:=
 h.same ⟨fun b L bu _=>⟨hb.block b (h.own b L bu),bu⟩,fun b a8=>hb.block b (h.cz b a8).1,fun _ h=>h,rfl,hb.size,fun b L bu=>eK (h.own b L bu) hb.size,fun b a8=>⟨eK (h.cz b a8).1 hb.size,(h.cz b a8).2⟩⟩
theorem cX.grown{w':World}(hb:Below w.heap.size w w')(hI:∀ b,σ.I b→b<w.heap.size):cX C w σ w' σ:=
 ⟨hb.size,fun b aO _=>hb.block b aO,fun _ h=>h,fun b a8=>hb.block b (hI b a8),fun _ h=>.inl h,fun _ _=>rfl,fun _ _ _=>rfl,hb.os,hb.output⟩
theorem aw.leave{C:Cx}{s:St}{a':Act}{w w':World}{σ σ':Sp}(F:cX C w σ w' σ')(M:aw C s a' w' σ')(a9:C.E.ro=false) :
  cX (u5 C.P C.W C.E.dp) w σ w' ⟨σ'.κ,jk C σ',wU C w' σ'⟩∧Cb C.P C.W C.E.dp s.hp w' ⟨σ'.κ,jk C σ',wU C w' σ'⟩:=by
 have bd:∀ b l,σ'.ow b=some l→l.dep≠C.E.dp→jk C σ' b=some l:=by
  intro b l hb V
  unfold jk
  rw [ab,hb]
  rintro ⟨_,l',h1,h2⟩
  rw [hb] at h1
  obtain rfl:=ah h1
  exact V h2
 refine ⟨⟨F.size,F.bB,fun b hb=>.inl (F.up b hb),F.cz,fun b hb=>hb.elim (fun h=>F.dn b h) fun h=>.inr h.1,F.kap,fun b hb hW=>?_,F.io⟩,⟨fun k cs hk aO=>?_,fun k cs hk V=>?_,fun b l hb=>?_,fun b hb=>?_,M.lay.bB (fun _ h=>.inl h) fun _ _=>rfl⟩⟩
 ·show jk C σ' b=_
  unfold jk
  rw [ab fun h=>hW h.1]
  exact F.ow b hb hW
 ·obtain ⟨vs,T,hB⟩:=M.bx k cs (by simp only [St.box,ab (show ¬k.dp=C.E.dp by omega)];exact hk)
  exact ⟨vs,T,hB.FX rfl rfl (fun b l hb cf=>bd b l hb (by rcases cf with rfl | ⟨_,rfl⟩<;>simp only [eI.dep]<;>omega)) (fun _ h=>.inl h) a9 (fun _ _ _ _ h=>h) (fun _ _ _ _=>rfl) fun c bM=>u6 ((M.hpd k cs (by omega) hk).2 c bM)⟩
 ·exact M.hpd k cs V hk
 ·have:jk C σ' b=some l:=hb
  unfold jk at this
  split at this
  ·cases this
  ·exact M.own b l this
 ·rcases hb with hb | ⟨h1,l,h2,h3⟩
  ·obtain ⟨h4,h5⟩:=M.cz b hb
   refine ⟨h4,?_⟩
   show jk C σ' b=none
   unfold jk
   split
   ·rfl
   ·exact h5
  ·refine ⟨M.own b l h2,?_⟩
   show jk C σ' b=none
   unfold jk
   rw [af ⟨h1,l,h2,h3⟩]
theorem NP(fr:List (Nat×AV))(d:Nat):az (fr.map fun y=>(y.1,if y.2.copy=true then y.2 else .u)) d=if (az fr d).copy=true then az fr d else .u:=by
 induction fr with
 | nil=>simp [az,AV.copy]
 | cons y fr ih=>
  obtain ⟨k,x⟩:=y
  simp only [eu,nv]
  by_cases hk:k=d
  ·simp only [af hk]
  ·simp only [ab hk];exact ih
theorem aw.inner(h:aw C st a w σ)(a9:C.E.ro=false)(bK:∀ d cs,aZ st.bx d=some cs→∀ c∈cs,c.deep C.E.dp=true){W':Nat→Prop}(hW:∀ b,σ.ow b≠none→Wc C σ b→W' b)(hn:∀ b,w.heap.size≤b→W' b){x:Nat}{n:Int}(hx:x<C.nt) :
  aw ⟨C.P,W',⟨C.E.dp+1,false⟩,C.nt⟩ (st.inner C.E.dp x n) {tmps:=a.tmps.setIfInBounds x (.int .i64 n),defers:=[]} w σ:=by
 have hH:=h.TA a9 bK
 refine ⟨by simp [h.size],Marks.nil,fun d=>?_,fun k cs hk=>?_,fun k cs V hk=>hH.deep k cs hk V,hH.own,hH.cz,fun b hb=>⟨hn b hb,(h.new b hb).2⟩,h.lay⟩
 ·have ht:({tmps:=a.tmps.setIfInBounds x (.int .i64 n),defers:=[]} : Act).tmps.getD d undef=if x=d then .int .i64 n else a.tmps.getD d undef:=by
   have:=FQ a x d (.int .i64 n) (by rw [h.size];exact hx)
   simpa [Act.put] using this
  rw [ht]
  show SR _ w σ _ _ d (az ((x,AV.i .i64 n)::_) d) _
  rw [nv]
  by_cases hd:x=d
  ·subst hd
   rw [af rfl,af rfl]
   exact VR.i _ _
  ·rw [ab hd,ab hd,NP]
   split
   ·rename_i aP
    have:=(h.fr d).B0 aP
    exact FT (.inl aP) this
   ·exact VR.u _
 ·simp only [St.inner,St.box] at hk
  split at hk
  ·simp [aZ] at hk
  ·rename_i V
   obtain ⟨vs,T,hB⟩:=hH.bx k cs hk (hH.deep k cs hk V).1
   exact ⟨vs,T,(hB.tM (W':=W') hW).cx rfl rfl rfl⟩
end
section
variable {C:Cx}{st:St}{a:Act}{w:World}{σ:Sp}
theorem aw.OS{D:Nat}(h:aw C st a w σ)(ho:σ.ow D=none)(hI:¬σ.I D)(hW:C.W D)(hh:w.heap[D]? =some (.deferred (some []))) :
  aw C st {a with defers:=He D::a.defers} w (σ.add D (some (.mark C.E.dp)))∧cX C w σ w (σ.add D (some (.mark C.E.dp))):=by
 have aO:D<w.heap.size:=(sP.1 hh).1
 have V:∀ b l,σ.ow b=some l→b≠D:=fun b l hb e=>by rw [e,ho] at hb;cases hb
 have hs:iY C w σ w (σ.add D (some (.mark C.E.dp))) none:=by
  refine ⟨fun b l hb _=>⟨rfl,?_⟩,fun _ _=>rfl,fun _ h=>h,rfl,aY _,fun b l hb=>?_,fun b hb=>⟨(h.cz b hb).1,?_⟩⟩
  ·simp only [Sp.add,ab (V b l hb),hb]
  ·simp only [Sp.add] at hb
   split at hb
   ·rename_i e;rw [e];exact aO
   ·exact h.own b l hb
  ·have:b≠D:=fun e=>hI (e▸hb)
   simp only [Sp.add,ab this]
   exact (h.cz b hb).2
 have h1:=h.same hs
 refine ⟨⟨h1.size,?_,h1.fr,h1.bx,h1.hpd,h1.own,h1.cz,h1.new,h1.lay⟩,⟨aY _,fun _ _ _=>rfl,fun _ h=>h,fun _ _=>rfl,fun _ h=>.inl h,fun _ _=>rfl,fun b hb hn=>?_,rfl,rfl⟩⟩
 ·obtain ⟨Ds,h2,h3,h4⟩:=h.defers
  refine ⟨D::Ds,uP.2 ⟨fun hm=>V D _ (h4 D hm).1 rfl,h2⟩,by show _::a.defers=_;rw [h3];rfl,fun D' bU=>?_⟩
  rcases dh.1 bU with rfl | bU
  ·exact ⟨by simp [Sp.add],hW,hh⟩
  ·obtain ⟨h5,h6⟩:=h4 D' bU
   exact ⟨by simp only [Sp.add,ab (V D' _ h5),h5],h6⟩
 ·have:b≠D:=fun e=>hn (e▸hW)
  simp only [Sp.add,ab this]
end
section
variable {P:Program}{G:qG}{Ω:dK}
set_option maxHeartbeats 1000000 in
theorem TI(hΩ:iT P Ω){N:Nat}(hR:∀ k,k≤N→my P (jM G (exec G Ω k))){n:Nat}(hn:n≤N){C:Cx}{st:St}{a:Act}{w:World}{σ:Sp}{r:bh×St}{g:Operand}{g':bz}{x:Nat}{y b:Code}{y' b':AC}{nt:Nat}{Q:Exit→Act→World→Prop}{ns:List Int}
  (hP:C.P=P) (a9:C.E.ro=false) (aD:nt≤C.nt) (hx:x<nt) (a6:tF Ω (st.ev g')=some ns) (he:rounds C.E.dp (exec G Ω n ⟨C.E.dp+1,false⟩) x y' b' ns st=some r)
  (ck:bY g g'=true) (ci:cY P nt y y'=true) (cb:fR y y'=true) (cl:cY P nt b b'=true) (ce:fR b b'=true) (hc:aw C st a w σ)
  (hQ:∀ a' w' σ',cX C w σ w' σ'→aw C r.2 a' w' σ'→Q (tL r.1) a' w'):(Code.rangeFunc g #[x] y b).wp P Q a w:=by
 subst hP
 obtain ⟨f,c,b2,aP,es,h1,h2⟩:∃ f c,st.ev g'= .f f [c]∧(AV.f f [c]).copy=true∧∃ es,Ω f [.u,c]=some (.l 0 es)∧sf es=some ns:=by
  unfold tF at a6
  split at a6
  ·rename_i f c hg
   split at a6
   ·rename_i aP
    obtain ⟨z,h1,h2⟩:=aj.1 a6
    split at h2
    ·rename_i es;exact ⟨f,c,hg,aP,es,h1,h2⟩
    ·cases h2
   ·cases a6
  ·cases a6
 have hv:VR w σ.I σ.κ (.f f [c]) (a.eval g):=by rw [←b2];exact hc.ta ck (by rw [b2];exact aP)
 obtain ⟨gf,lb,hg,bI,bj⟩:=hΩ.it f c es ns h1 h2 w σ.I σ.κ (a.eval g) (hc.new _ (aY _)).2 (fun b hb=>(hc.cz b hb).1) hv
 refine (wpIn_wide (n:=2)).1 (wpIn_rangeFunc ?_)
 intro fn _
 obtain ⟨rec,S⟩:∃ rec:LoopState→Option Code→Loop,rec=fun st pe=>{state:=st,pending:=pe,fn,tmps:=a.tmps,params:=#[x],assign:=y,body:=b,defers:=w.heap.size}:=⟨_,rfl⟩
 obtain ⟨W1,bn⟩:∃ W1,(w.alloc (.deferred (some []))).alloc (.loop (rec .ready none))=W1:=⟨_,rfl⟩
 have b7:W1.heap[w.heap.size+1]? =some (.loop (rec .ready none)):=by
  rw [←bn];have:=World.alloc_heap_new (w.alloc (.deferred (some []))) (.loop (rec .ready none));rwa [World.size_alloc] at this
 have b8:W1.heap[w.heap.size]? =some (.deferred (some [])):=by
  rw [←bn];exact (Below.heap_alloc _ _ _ (by simp)).trans (World.alloc_heap_new w _)
 have bv:Below w.heap.size w W1:=by rw [←bn];exact ((Below.refl _ w).alloc (aY _) _).alloc (by simp) _
 have bq:W1.heap.size=w.heap.size+2:=by rw [←bn];simp
 obtain ⟨l,aS⟩:∃ l,l=w.heap.size+1:=⟨_,rfl⟩
 obtain ⟨D,aV⟩:∃ D,D=w.heap.size:=⟨_,rfl⟩
 have bG:D≠l:=by omega
 have aX:C.W l:=(hc.new l (by omega)).1
 have bp:C.W D:=(hc.new D (by omega)).1
 rw [←aS] at b7
 rw [←aV] at b8
 refine ⟨l,[He D],W1,{target:=.fn (.func gf) lb,args:=#[.func (.yield l) #[] #[]]},W1,gf,#[.func (.yield l) #[] #[]]++lb,W1,?_,?_,fun _ _=>trivial,?_,fun h=>by simp [Fence.wide] at h,?_⟩
 ·rw [←bn,S,aS,aV];exact run_enterLoop_outer _ _ _ _ _
 ·simp only [resolve,hg]
  simp [go_sem]
 ·simp [invoke,go_sem,bI]
 let J:(Nat→Prop)→List Int→World→Prop:=fun T pre W=>T D∧T l∧(∀ b,T b→w.heap.size≤b∧b<W.heap.size)∧W.heap[l]? =some (.loop (rec .ready none))∧W.heap[D]? =some (.deferred (some []))∧
  ∃ rest st1 σ1,ns=pre++rest∧rounds C.E.dp (exec G Ω n ⟨C.E.dp+1,false⟩) x y' b' rest st1=some r∧aw C st1 a W σ1∧cX C w σ W σ1∧∀ b,T b→σ1.ow b=none∧¬σ1.I b
 let Jx:List Int→World→Prop:=fun _ W=>∃ c σ1,W.heap[l]? =some (.loop (rec .done (some c)))∧W.heap[D]? =some (.deferred (some []))∧aw C r.2 a W σ1∧cX C w σ W σ1∧(σ1.ow D=none∧¬σ1.I D)∧(σ1.ow l=none∧¬σ1.I l)∧
  ((r.1= .ret∧c= .ret)∨∃ id,r.1= .ex id∧c= .exit id)
 have cu:J (fun b=>b=D∨b=l) [] W1:=by
  refine ⟨.inl rfl,.inr rfl,fun b hb=>by rcases hb with rfl | rfl<;>omega,b7,b8,ns,st,σ,rfl,he,hc.grown bv,cX.grown bv fun b hb=>(hc.cz b hb).1,fun b hb=>⟨?_,fun hI=>?_⟩⟩
  ·cases ho:σ.ow b with
   | none=>rfl
   | some L=>have:=hc.own b L ho;rcases hb with rfl | rfl<;>omega
  ·have:=(hc.cz b hI).1;rcases hb with rfl | rfl<;>omega
 refine (bj l (2 - 1) J Jx (fun b=>b=D∨b=l) W1 bv.size (fun b hb=>bv.block b (hc.cz b hb).1) ?_ ?_ cu).mono ?_
 ·
  rintro T pre W W' ⟨aM,ad,aC,hl,hD,rest,st1,σ1,a5,ae,U,F,ar⟩ aI
  refine ⟨.inl aM,.inl ad,fun b hb=>?_,(aI.block l (aC l ad).2).trans hl,(aI.block D (aC D aM).2).trans hD,rest,st1,σ1,a5,ae,U.grown aI,F.trans (cX.grown aI fun b hb=>(U.cz b hb).1),fun b hb=>?_⟩
  ·rcases hb with hb | hb
   ·exact ⟨(aC b hb).1,eK (aC b hb).2 aI.size⟩
   ·exact ⟨di F.size hb.1,hb.2⟩
  ·rcases hb with hb | hb
   ·exact ar b hb
   ·refine ⟨?_,fun hI=>?_⟩
    ·cases ho:σ1.ow b with
     | none=>rfl
     | some L=>have:=U.own b L ho;omega
    ·have:=(U.cz b hI).1;omega
 ·
  rintro T pre nn rest W m a5 ⟨aM,ad,aC,hl,hD,rest0,st1,σ1,bF,ae,U,F,ar⟩
  obtain rfl:rest0=nn::rest:=List.append_cancel_left (bF.symm.trans a5)
  simp only [rounds] at ae
  split at ae
  case isFalse=>cases ae
  rename_i bi
  obtain ⟨q,hq,ae⟩:=aj.1 ae
  obtain ⟨qe,qs⟩:=q
  cases qe with
  | ex id=>cases ae
  | ret=>cases ae
  | nrm=>
  simp only at ae
  obtain ⟨r1,aK,ae⟩:=aj.1 ae
  have bK:∀ d cs,aZ st1.bx d=some cs→∀ c∈cs,c.deep C.E.dp=true:=fun d cs hb c hm=>nm (lx (p:=fun y=>AV.fJ C.E.dp y) _ bi d cs hb) c hm
  have b4:∀ b,W.heap.size≤b→Wc C σ1 b:=fun b hb=>⟨⟨(U.new b hb).1,fun e=>absurd (U.own b _ e) (nR.2 hb)⟩,fun d=>⟨fun e=>absurd (U.own b _ e) (nR.2 hb),fun e=>absurd (U.own b _ e) (nR.2 hb)⟩⟩
  have b3:Wc C σ1 l:=⟨⟨aX,fun e=>by rw [(ar l ad).1] at e;cases e⟩,fun d=>⟨fun e=>(by rw [(ar l ad).1] at e;cases e),fun e=>(by rw [(ar l ad).1] at e;cases e)⟩⟩
  let C1:Cx:=⟨C.P,fun b=>Wc C σ1 b∧¬T b,⟨C.E.dp+1,false⟩,C.nt⟩
  let C3:Cx:=⟨C.P,Wc C σ1,⟨C.E.dp+1,false⟩,C.nt⟩
  have cn:=U.inner a9 bK (W':=fun b=>Wc C σ1 b∧¬T b) (x:=x) (n:=nn) (fun b ho hw=>⟨hw,fun ht=>ho (ar b ht).1⟩) (fun b hb=>⟨b4 b hb,fun ht=>absurd (aC b ht).2 (nR.2 hb)⟩) (eK hx aD)
  have hy:(Instr.yield l #[.int .i64 nn]).run C.P W= .ok (.round l fn (a.tmps.setIfInBounds x (.int .i64 nn)) y b) W:=by
   have:=run_yield (P:=C.P) (args:=#[.int .i64 nn]) hl (by rw [S];simp)
   rw [S] at this
   rw [this];simp
  refine ⟨fn,_,y,b,hy,roundIn_of_wpIn trivial ?_⟩
  refine F3 hΩ l m N hR n hn ⟨C.E.dp+1,false⟩ y' (st1.inner C.E.dp x nn) (.nrm,qs) y nt C1 _ W σ1 _ rfl rfl aD hq ci cb (by rintro ⟨_,_,h⟩;exact h) cn fun a1 w1 σ2 aW ct=>?_
  have b1:w1.heap[l]? =some (.loop (rec .ready none)):=(aW.bB l (aC l ad).2 fun h=>h.2 ad).trans hl
  have aJ:∀ b,T b→σ2.ow b=none∧¬σ2.I b:=fun b hb=>⟨(aW.ow b (aC b hb).2 fun h=>h.2 hb).trans (ar b hb).1,fun h=>(aW.dn b h).elim (ar b hb).2 fun h=>h.2 hb⟩
  refine ⟨_,run_beginRound b1 (by rw [S]),?_⟩
  have bc:l<w1.heap.size:=(sP.1 b1).1
  have bN:=ct.rq (o:=.loop {rec .ready none with state:=.busy}) (aJ l ad).1 (aJ l ad).2
  refine F3 hΩ l m N hR n hn ⟨C.E.dp+1,false⟩ b' qs r1 b nt C1 a1 _ σ2 _ rfl rfl aD aK cl ce (by rintro ⟨_,_,h⟩;exact h) bN fun a2 w3 σ3 a3 cr=>?_
  have aN:(w1.putObj l (.loop {rec .ready none with state:=.busy})).heap.size=w1.heap.size:=by simp [World.putObj]
  have aT:∀ b,T b→b<w1.heap.size:=fun b hb=>eK (aC b hb).2 aW.size
  have bt:w3.heap[l]? =some (.loop {rec .ready none with state:=.busy}):=(a3.bB l (by rw [aN];exact bc) fun h=>h.2 ad).trans (World.putObj_heap_same bc)
  have aB:∀ b,T b→σ3.ow b=none∧¬σ3.I b:=fun b hb=>⟨(a3.ow b (by rw [aN];exact aT b hb) fun h=>h.2 hb).trans (aJ b hb).1,fun h=>(a3.dn b h).elim (aJ b hb).2 fun h=>h.2 hb⟩
  have bw:∀ o,cX C3 W σ1 (w3.putObj l o) σ3:=fun o=>
   ((cX.tM (C:=C1) (W':=Wc C σ1) (fun _ h=>h.1) aW).trans (cX.rq (C:=C3) b3 (aJ l ad).2)).trans ((cX.tM (C:=C1) (W':=Wc C σ1) (fun _ h=>h.1) a3).trans (cX.rq (C:=C3) b3 (aB l ad).2))
  have cq:∀ o,aw C3 r1.2 a2 (w3.putObj l o) σ3:=fun o=>(aw.tM (C:=C1) (W':=Wc C σ1) (fun _ _ h=>(show Wc C σ1 _∧¬T _ from h).1) (fun b hb=>b4 b (di aW.size (by rw [←aN];exact di a3.size hb))) cr).rq (aB l ad).1 (aB l ad).2
  have b0:∀ o,_∧_:=fun o=>aw.leave (bw o) (cq o) rfl
  have aQ:∀ o,_∧_:=fun o=>U.called (b0 o).1 (b0 o).2
  have bo:∀ o b,T b→jk C3 σ3 b=none∧¬wU C3 (w3.putObj l o) σ3 b:=fun o b hb=>by
   refine ⟨?_,?_⟩
   ·unfold jk
    split
    ·rfl
    ·exact (aB b hb).1
   ·rintro (h | ⟨_,L,h,_⟩)
    ·exact (aB b hb).2 h
    ·rw [(aB b hb).1] at h;cases h
  have b5:∀ o b,T b→b≠l→(w3.putObj l o).heap[b]? =W.heap[b]? :=fun o b hb bm=>
   (World.putObj_heap_other bm).trans ((a3.bB b (by rw [aN];exact aT b hb) fun h=>h.2 hb).trans ((World.putObj_heap_other bm).trans (aW.bB b (aC b hb).2 fun h=>h.2 hb)))
  have bS:∀ o,(w3.putObj l o).heap[D]? =some (.deferred (some [])):=fun o=>(b5 o D aM bG).trans hD
  have br:∀ o,(w3.putObj l o).heap[l]? =some o:=fun o=>World.putObj_heap_same (sP.1 bt).1
  have cv:∀ o b,σ.I b→(w3.putObj l o).heap[b]? =W.heap[b]? :=fun o b hb=>(aQ o).1.cz b (F.up b hb)
  obtain ⟨re,rs⟩:=r1
  cases re with
  | nrm=>
   simp only at ae
   have hr:(Instr.endRound l none).run C.P w3= .ok (.bool true) (w3.putObj l (.loop (rec .ready none))):=by
    have:=run_endRound (P:=C.P) none bt
    rw [S] at this ⊢
    exact this
   generalize a4:Obj.loop (rec .ready none)=o at hr
   refine ⟨_,_,hr,.inl ⟨rfl,⟨aM,ad,fun b hb=>⟨(aC b hb).1,eK (aC b hb).2 (aQ o).1.size⟩,by rw [br,a4],bS o,rest,_,_,by rw [a5];simp,ae,(aQ o).2,F.trans (aQ o).1,fun b hb=>bo o b hb⟩,fun b hb=>?_,fun b hb=>cv o b hb,(aQ o).1.size⟩⟩
   by_cases bm:b=l
   ·rw [bm,br,hl,a4]
   ·exact b5 o b hb bm
  | ret=>
   obtain rfl:=ah ae
   have hr:(Instr.endRound l (some .ret)).run C.P w3= .ok (.bool false) (w3.putObj l (.loop (rec .done (some .ret)))):=by
    have:=run_endRound (P:=C.P) (some .ret) bt
    rw [S] at this ⊢
    exact this
   generalize a4:Obj.loop (rec .done (some .ret))=o at hr
   exact ⟨_,_,hr,.inr ⟨rfl,.ret,_,by rw [br,a4],bS o,(aQ o).2,F.trans (aQ o).1,bo o D aM,bo o l ad,.inl ⟨rfl,rfl⟩⟩⟩
  | ex id=>
   obtain rfl:=ah ae
   have hr:(Instr.endRound l (some (.exit id))).run C.P w3= .ok (.bool false) (w3.putObj l (.loop (rec .done (some (.exit id))))):=by
    have:=run_endRound (P:=C.P) (some (.exit id)) bt
    rw [S] at this ⊢
    exact this
   generalize a4:Obj.loop (rec .done (some (.exit id)))=o at hr
   exact ⟨_,_,hr,.inr ⟨rfl,.exit id,_,by rw [br,a4],bS o,(aQ o).2,F.trans (aQ o).1,bo o D aM,bo o l ad,.inr ⟨id,rfl,rfl⟩⟩⟩
 ·
  rintro e W ⟨⟨v,rfl⟩,(⟨T,aM,ad,aC,hl,hD,rest,st1,σ1,a5,ae,U,F,ar⟩ | ⟨_,_,_,_,c,σ1,hl,hD,U,F,bZ,bE,hx⟩)⟩
  ·have ba:rest=[]:=by
    have:=av List.length a5
    rw [nU] at this
    exact Dy.1 (by omega)
   subst ba
   obtain rfl:=ah ae
   have hr:=run_endLoop (P:=C.P) hl (by rw [S];simp)
   rw [S] at hr
   refine ⟨none,_,hr,?_⟩
   have h3:=(U.rq (o:=.loop {rec .ready none with state:=.exhausted}) (ar l ad).1 (ar l ad).2)
   have bT:(W.putObj l (.loop {rec .ready none with state:=.exhausted})).heap[D]? =some (.deferred (some [])):=(World.putObj_heap_other bG).trans hD
   obtain ⟨h4,h5⟩:=h3.OS (ar D aM).1 (ar D aM).2 bp bT
   rw [S] at h4 h5
   exact hQ _ _ _ ((F.trans (cX.rq aX (ar l ad).2)).trans h5) h4
  ·have hr:=run_endLoop (P:=C.P) hl (by rw [S];simp)
   rw [S] at hr
   refine ⟨some c,_,hr,?_⟩
   have h3:=(U.rq (o:=.loop {rec .done (some c) with state:=.exhausted}) bE.1 bE.2)
   have bT:(W.putObj l (.loop {rec .done (some c) with state:=.exhausted})).heap[D]? =some (.deferred (some [])):=(World.putObj_heap_other bG).trans hD
   obtain ⟨h4,h5⟩:=h3.OS bZ.1 bZ.2 bp bT
   rw [S] at h4 h5
   have hq:=hQ _ _ _ ((F.trans (cX.rq aX bE.2)).trans h5) h4
   rcases hx with ⟨h6,rfl⟩ | ⟨id,h6,rfl⟩
   ·rw [h6] at hq
    exact wpIn_ret hq
   ·rw [h6] at hq
    exact wpIn_exit hq
end
end Go.Proofs.YtlmphbbhaeampaaGreat.A
