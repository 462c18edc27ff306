/- Code and functions, first part: functions. -/
import Derived.Test.YtkkkkondjclcnaaGreatAbsK
import Derived.RangeFuncLeaves
import Derived.RangeFuncOwn
import Derived.RangeFuncCalls
import Derived.OrdersIn
import Derived.TacticsIn
set_option linter.all false
namespace Go.Proofs.YtkkkkondjclcnaaGreat.A
open Go
variable [bM]
def Hq(o:Oper):Bool:=
 match o.op with
 | .defer _=>false
 | _=>true
def il:Code→AC→Bool
 | .skip,.sk=>true
 | .label _,.sk=>true
 | .region _ ops false,.rg _ _ _ _=>ops.all Hq
 | .region _ ops true,.dg _ _ _ _ _=>ops.all Hq
 | .seq a b,.sq x y=>il a x&&il b y
 | .cond _ a b,.ite _ x y=>il a x&&il b y
 | .block _ b,.bl _ x=>il b x
 | .exit _,.ex _=>true
 | .ret,.rt=>true
 | c,.kp _ _ x=>il c x
 | _,.bad=>true
 | _,_=>false
def da(P:Program)(nt:Nat):Code→AC→Bool
 | .skip,.sk=>true
 | .label _,.sk=>true
 | .region _ ops false,.rg _ gs _ _=>BZ P nt ops ops.toList gs
 | .region _ ops true,.dg _ mks gs _ _=>KN P nt ops mks gs
 | .seq a b,.sq x y=>da P nt a x&&da P nt b y
 | .cond c a b,.ite c' x y=>bR c c'&&da P nt a x&&da P nt b y
 | .block id b,.bl id' x=>id==id'&&da P nt b x
 | .loop b,.lp x=>da P nt b x
 | .exit id,.ex id'=>id==id'
 | .ret,.rt=>true
 | c,.kp _ _ x=>da P nt c x
 | _,.bad=>true
 | .rangeFunc g ps y b,.ru g' x y' b'=>bR g g'&&(ps==#[x]&&(decide (x<nt)&&(da P nt y y'&&(il y y'&&(da P nt b b'&&il b b')))))
 | _,_=>false
def uz:aN→Exit
 | .nrm=>.normal
 | .ex id=>.exit id
 | .ret=>.ret
def Qi(P:Program)(f:FuncId)(fn':bE):Bool:=
 match P.funcs[f]? with
 | some fn=>match fn.body with
  | some c=>!(fn.name== "runtime.NumGoroutine")&&da P fn.ntmps c fn'.code&&fP P fn.results.toList fn'.res
  | none=>false
 | none=>false
def Al(P:Program)(G:sb):Prop:=∀ f fn',G f=some fn'→Qi P f fn'=true
variable {nt:Nat}{c:Code}
theorem Sf{P:Program}(h:da P nt c .sk=true):c= .skip∨∃ l,c= .label l:=by
 cases c with
 | region id ops dr=>grind [da]
 | skip=>exact .inl rfl
 | label l=>grind
 | _=>simp [da] at h
variable {pre:List wM}{kf kb:List Nat}
theorem Sg{P:Program}{gs:List de}(h:da P nt c (.rg pre gs kf kb)=true):∃ id ops,c= .region id ops false∧BZ P nt ops ops.toList gs=true:=by
 cases c with
 | region id ops dr=>cases dr<;>simp [da] at h;grind
 | _=>simp [da] at h
theorem Sh{P:Program}{mks:List Nat}{gs:List br}(h:da P nt c (.dg pre mks gs kf kb)=true):∃ id ops,c= .region id ops true∧KN P nt ops mks gs=true:=by
 cases c with
 | region id ops dr=>
  cases dr with
  | false=>simp [da] at h
  | true=>grind [da]
 | _=>simp [da] at h
variable {x y:AC}
theorem Si{P:Program}(h:da P nt c (.sq x y)=true):∃ c1 c2,c= .seq c1 c2∧da P nt c1 x=true∧da P nt c2 y=true:=by
 cases c with
 | region id ops dr=>grind [da]
 | seq c1 c2=>grind [da]
 | _=>simp [da] at h
theorem Qj{P:Program}{z:aY}(h:da P nt c (.ite z x y)=true):∃ cd c1 c2,c= .cond cd c1 c2∧(bR cd z=true∧da P nt c1 x=true)∧da P nt c2 y=true:=by
 cases c with
 | region id ops dr=>grind [da]
 | cond cd c1 c2=>grind [da]
 | _=>simp [da] at h
variable {id:Nat}
theorem Sj{P:Program}(h:da P nt c (.bl id x)=true):∃ c1,c= .block id c1∧da P nt c1 x=true:=by
 cases c with
 | region id ops dr=>grind [da]
 | block id' c1=>
  grind [da]
 | _=>simp [da] at h
theorem Sk{P:Program}(h:da P nt c (.lp x)=true):∃ c1,c= .loop c1∧da P nt c1 x=true:=by
 cases c with
 | region id ops dr=>grind [da]
 | loop c1=>grind [da]
 | _=>simp [da] at h
theorem Sl{P:Program}(h:da P nt c (.ex id)=true):c= .exit id:=by
 cases c with
 | region id ops dr=>grind [da]
 | exit id'=>grind [da]
 | _=>simp [da] at h
theorem Sm{P:Program}(h:da P nt c .rt=true):c= .ret:=by
 grind [da]
theorem Sn{P:Program}(h:da P nt c (.kp kf kb x)=true):da P nt c x=true:=by
 grind [da]
theorem aab{P:Program}{g':aY}{x:Nat}{y' b':AC}(h:da P nt c (.ru g' x y' b')=true):∃ g y b,c= .rangeFunc g #[x] y b∧bR g g'=true∧x<nt∧da P nt y y'=true∧il y y'=true∧da P nt b b'=true∧il b b'=true:=by
 cases c with
 | region id ops dr=>grind [da]
 | rangeFunc g ps y b=>
  grind [da]
 | _=>simp [da] at h
def LW(P:Program)(c:Code)(Q:Exit→Act→World→Prop)(a:Act)(w:World):Prop:=
 ∀ (b:Frame)(k:List Item)(cs:List Frame),∃ e a' w',Q e a' w'∧Arrives P (lone (b.at a (.code c::.inLoop c::k)) cs w) b k cs e a' w'
variable {a:Act}{w:World}
theorem LW.loop{P:Program}{Q:Exit→Act→World→Prop}(h:LW P c Q a w):(Code.loop c).wp P Q a w:=by
 intro b k cs
 obtain ⟨e,a',w',hq,ap⟩:=h b k cs
 exact ⟨e,a',w',hq,.of_steps (.one step_loop) ap⟩
theorem LW.round{P:Program}{Q:Exit→Act→World→Prop}(h:c.wp P (Exit.then (LW P c Q) Q) a w):LW P c Q a w:=by
 intro b k cs
 obtain ⟨e,a₁,w₁,hq,ap⟩:=h b (.inLoop c::k) cs
 cases e with
 | normal=>
  obtain ⟨e₂,a₂,w₂,bj,aU⟩:=hq b k cs
  exact ⟨e₂,a₂,w₂,bj,.of_steps (Steps.trans ap (.one step_inLoop)) aU⟩
 | exit id=>exact ⟨_,a₁,w₁,hq,.pass (x:=.inLoop c) rfl (fun _ _=>.inl (by simp)) ap⟩
 | goto l=>exact ⟨_,a₁,w₁,hq,.pass (x:=.inLoop c) rfl (fun _ _=>.inl (by simp)) ap⟩
 | ret=>exact ⟨_,a₁,w₁,hq,.pass (x:=.inLoop c) rfl (fun _ _=>.inl (by simp)) ap⟩
 | panic ch=>exact ⟨_,a₁,w₁,hq,.pass (x:=.inLoop c) rfl (fun _ _=>.inl (by simp)) ap⟩
 | outgrown=>exact ⟨_,a₁,w₁,hq,.pass (x:=.inLoop c) rfl (fun _ _=>.inl (by simp)) ap⟩
def KO(P:Program)(X:HR):Prop:=∀ (E:Env)(ac:AC)(st:St)(r:aN×St)(c:Code)(nt:Nat)(C:Cx)(a:Act)(w:World)(σ:Sp)(Q:Exit→Act→World→Prop),C.P=P→C.E=E→nt≤C.nt→X E ac st=some r→da P nt c ac=true→aq C st a w σ→
 (∀ a' w' σ',cZ C w σ w' σ'→aq C r.2 a' w' σ'→Q (uz r.1) a' w')→c.wp P Q a w
def Qk(P:Program)(X:HR):Prop:=∀ (E:Env)(ac:AC)(st:St)(r:aN×St)(c:Code)(nt:Nat)(C:Cx)(a:Act)(w:World)(σ:Sp)(Q:Exit→Act→World→Prop),C.P=P→C.E=E→nt≤C.nt→X E (.lp ac) st=some r→da P nt c ac=true→aq C st a w σ→
 (∀ a' w' σ',cZ C w σ w' σ'→aq C r.2 a' w' σ'→Q (uz r.1) a' w')→LW P c Q a w
theorem wI:∀ (args:List AV)(i d:Nat),au (jy i args) d=if i≤d then (args[d - i]?).getD .u else .u
 | [],i,d=>by simp [jy,au]
 | x::xs,i,d=>by
  simp only [jy,au,wI xs (i+1) d]
  grind
variable {P:Program}{G:sb}{Ω:ef}
variable {C:Cx}{σ:Sp}{cs:List AV}
theorem jS.cx{C':Cx}{k:Key}{vs:Array Value}{T:TypeId}(h:jS C w σ k cs vs T)(hP:C'.P=C.P)(hW:C'.W=C.W)(hE:C'.E=C.E):jS C' w σ k cs vs T:=by
 refine ⟨h.hh,h.size,h.ow,fun hm=>by rw [hW];exact h.wr (by grind),h.one,fun off c hc=>?_,h.ty,h.kb⟩
 have:=h.cell off c hc
 simp_all [CR]
theorem wJ{P:Program}{f:FuncId}{fn:Func}{args:Array Value}{R:Ending→World→Prop}(hf:P.funcs[f]? =some fn)(hb:fn.body=some c)(h:c.wp P (bodyPostM Fence.wide 0 P fn R) {tmps:=args++Array.replicate (fn.ntmps - args.size) undef,defers:=[]} w):Calls P f args w R:=
 (callsIn_wide (n:=0)).1 (callsIn_of_wp_marks hf hb trivial (wpIn_wide.2 h) rfl)
theorem aq.So{C:Cx}{st:St}{w0:World}{σ0 σ:Sp}(a:Act):∀ (Ds:List Nat)(w:World),Ds.Nodup→(∀ D∈Ds,σ.ow D=some (.mark C.E.dp)∧C.W D∧w.heap[D]? =some (.deferred (some [])))→
  cZ C w0 σ0 w σ→aq C st {a with defers:=[]} w σ→∃ w2,cZ C w0 σ0 w2 σ∧aq C st {a with defers:=[]} w2 σ∧
  ∀ (fn:Func)(R:Ending→World→Prop)(v:Value),(results fn a.tmps).run C.P w2= .ok v w2→R (.returned v) w2→LeavesInM Fence.wide 0 C.P fn a.tmps R (Ds.map JJ) .returning w
 | [],w,_,_,H,h1=>⟨w,H,h1,fun fn R v hr hR=>⟨v,hr,hR⟩⟩
 | D::Ds,w,ax,hm,H,h=>by
  obtain ⟨ho,hW,hD⟩:=hm D (by simp)
  have aL:∀ b,b≠D→(w.putObj D (.deferred none)).heap[b]? =w.heap[b]? :=fun b hb=>World.putObj_heap_other hb
  have hI:∀ b,σ.I b→b≠D:=fun b hb e=>by
   subst e
   rw [(h.bP b hb).2] at ho;cases ho
  have ay:(w.putObj D (.deferred none)).heap.size=w.heap.size:=by simp_all
  have hs:jo C w σ (w.putObj D (.deferred none)) σ (some (.mark C.E.dp)):=by
   refine ⟨fun b l hb hl=>⟨aL b fun e=>?_,hb⟩,fun b hb=>aL b (hI b hb),fun _ h=>h,rfl,vt ay.symm,fun b l hb=>by rw [ay];exact h.own b l hb,fun b hb=>by rw [ay];exact h.bP b hb⟩
   subst e
   rw [ho] at hb
   exact hl hb.symm
  have bF:cZ C w0 σ0 (w.putObj D (.deferred none)) σ:=H.trans ⟨vt ay.symm,by grind,fun _ h=>h,fun b hb=>aL b (hI b hb),fun _ h=>.inl h,fun _ _=>rfl,fun _ _ _=>rfl,rfl,rfl⟩
  obtain ⟨cF,cm⟩:=wX.1 ax
  obtain ⟨w2,h2,h3,h4⟩:=So a Ds (w.putObj D (.deferred none)) cm ((by grind)) bF (h.UF hs ⟨fun _ _ _ _=>by simp,fun _ _ _=>by simp,fun _ _ _ _ _ _ _=>by simp,fun _=>by simp⟩ Marks.nil)
  exact ⟨w2,h2,h3,fun fn R v hr hR=>⟨by simp,.inl ⟨D,_,rfl,run_takeDeferred hD,h4 fn R v hr hR⟩⟩⟩
variable {st:St}
theorem aq.KP{w0:World}{σ0:Sp}(H:cZ C w0 σ0 w σ)(h:aq C st a w σ):∃ w2,cZ C w0 σ0 w2 σ∧aq C st {a with defers:=[]} w2 σ∧
  ∀ (fn:Func)(R:Ending→World→Prop)(v:Value),(results fn a.tmps).run C.P w2= .ok v w2→R (.returned v) w2→LeavesInM Fence.wide 0 C.P fn a.tmps R a.defers .returning w:=by
 have h1:aq C st {a with defers:=[]} w σ:=⟨h.size,Marks.nil,h.fr,h.bx,h.hpd,h.own,h.bP,h.new,h.lay⟩
 obtain ⟨Ds,h2,h3,h4⟩:=h.defers
 grind [aq.So]
noncomputable def kl(C:Cx)(σ:Sp):Nat→Option ez:=fun b=>open Classical in if C.W b∧∃ l,σ.ow b=some l∧l.dep=C.E.dp then none else σ.ow b
variable {rs:List RV}{e:bH}
theorem GO(h:st.rowOf rs=some e):∃ n m t es,rs=[.r n]∧au st.fr m= .o t es∧(m=n∨au st.fr n= .r (.s m))∧e= .row t es:=by
 unfold St.rowOf at h
 grind
theorem KQ:∀ (cs:List AV)(j i:Nat)(k:Key)(n sz:Nat),Jj j cs=some (i,k,n,sz)→∃ m,i=j+m∧cs[m]? =some (.sp k 0 n sz)
 | [],j,i,k,n,sz,h=>by cases h
 | c::cs,j,i,k,n,sz,h=>by
  have U:Jj (j+1) cs=some (i,k,n,sz)→∃ m,i=j+m∧(c::cs)[m]? =some (.sp k 0 n sz):=fun h=>by
   obtain ⟨m,rfl,hm⟩:=KQ cs (j+1) i k n sz h
   grind
  cases c with
  | sp k2 o n2 sz2=>
   cases o with
   | zero=>
    cases af h
    grind
   | succ o=>exact U h
  | _=>exact U h
variable {E:Env}
theorem GP(h:st.Sz E rs=some e):∃ z cs i k n sz bs,rs=[z]∧(st.N9 E.dp z=some (.a cs)∧AV.nW cs=true)∧cs[i]? =some (.sp k 0 n sz)∧aE st.bx k.d=some bs∧k.dp=E.dp∧1000000≤k.d∧AV.aX bs=true∧AV.aX (cs.set i .z)=true∧e= .o0 i (cs.set i .z) (ub k.d) n sz bs:=by
 unfold St.Sz at h
 grind [Option.bind_eq_some_iff,KQ]
theorem Hr{x:AV}(h:st.end_ E rs=some (.ret x)):st.result E rs=some x:=by
 grind [St.end_,GO,GP]
theorem Sq(h:st.end_ E rs=some (.new cs)):st.fU E rs=some cs:=by
 grind [St.end_,GO,GP]
theorem aac{t:TypeId}{es:List AV}(h:st.end_ E rs=some (.row t es)):∃ n m,rs=[.r n]∧au st.fr m= .o t es∧(m=n∨au st.fr n= .r (.s m)):=by
 grind [St.end_,GO,GP]
theorem VO(h:st.fU E rs=some cs):∃ n k,rs=[.t n]∧au st.fr n= .p k 0∧k.dp=E.dp∧aE st.bx k.d=some cs∧cs.all sW=true:=by
 unfold St.fU at h
 grind [Option.bind_eq_some_iff]
variable {X:HR}
theorem VP(hT:Al P G)(hX:KO P X):∀ dp f ys hp x hp',jP G X ⟨dp,false⟩ f ys hp=some (.ret x,hp')→(∀ y∈ys,y.copy=true)→Aq P dp f ys hp x hp':=by
 intro dp f ys hp x hp' he bC
 obtain ⟨fn',hG,ad⟩:=ah.1 he
 obtain ⟨r,hr,ag⟩:=ah.1 ad
 have F:=hT f fn' hG
 unfold Qi at F
 split at F
 ·rename_i fn hf
  split at F
  ·rename_i c hb
   simp only [aC,gO] at F
   obtain ⟨⟨ae,ai⟩,am⟩:=F
   have aj:∃ e,uz r.1=e∧(e= .normal∨e= .ret)∧(r.2.result ⟨dp,false⟩ fn'.res)=some x∧r.2.hp=hp':=by
    cases aD:r.1 with
    | ex id=>grind
    | nrm=>
     rw [aD] at ag
     obtain ⟨q,hq,a7⟩:=ah.1 ag
     have h1:q= .ret x:=by grind
     exact ⟨_,rfl,.inl rfl,Hr (h1▸hq),by grind⟩
    | ret=>
     rw [aD] at ag
     obtain ⟨q,hq,a7⟩:=ah.1 ag
     have h1:q= .ret x:=by grind
     exact ⟨_,rfl,.inr rfl,Hr (h1▸hq),by grind⟩
   obtain ⟨e,a6,a5,hq,bf⟩:=aj
   have aA:x.pure=true:=by
    obtain ⟨xs,_,h2⟩:=ah.1 hq
    split at h2
    ·rename_i hp
     obtain rfl:=af h2
     match xs,hp with
     | [],_=>rfl
     | [y],hp=>simpa [EM,AV.aX] using hp
     | y::z::ys,hp=>exact hp
    ·cases h2
   refine ⟨aA,⟨fn,hf,by rw [hb];rfl,ae⟩,fun W w σ B aw hH ay ak=>?_⟩
   refine wJ hf hb ?_
   let C:Cx:=⟨P,W,⟨dp,false⟩,B.size+(fn.ntmps - B.size)⟩
   have hc:aq C ⟨jy 0 ys,[],hp⟩ {tmps:=B++Array.replicate (fn.ntmps - B.size) undef,defers:=[]} w σ:=by
    refine ⟨by simp [C],Marks.nil,fun d=>?_,fun k cs hk=>?_,fun k cs Z hk=>hH.deep k cs hk Z,hH.own,hH.bP,aw,hH.lay⟩
    ·rw [wI]
     simp only [dc,az,uW]
     cases hd:ys[d]? with
     | none=>exact VR.u _
     | some y=>
      have aK:=dB hd
      have hy:=ak d y hd
      have e:(B++Array.replicate (fn.ntmps - B.size) undef).getD d undef=B.getD d undef:=by
       simp_all [yr]
      grind [lE]
    ·simp only [St.box] at hk
     split at hk
     ·simp [aE] at hk
     ·rename_i Z
      obtain ⟨vs,T,hB⟩:=hH.bx k cs hk (hH.deep k cs hk Z).1
      exact ⟨vs,T,hB.cx rfl rfl rfl⟩
   refine hX ⟨dp,false⟩ fn'.code ⟨jy 0 ys,[],hp⟩ r c fn.ntmps C _ w σ _ rfl rfl (by simp [C];omega) hr ai hc fun a0 w0 σ' ar a8=>?_
   obtain ⟨w',H,M,Y⟩:=a8.KP ar
   obtain ⟨v,av,hv⟩:=M.result am hq
   have bm:∀ b l,σ'.ow b=some l→l.dep≠dp→kl C σ' b=some l:=by
    grind [kl]
   have S:bodyPostM Fence.wide 0 P fn (fun e w'=>∃ v σ',e= .returned v∧VR w' σ'.I σ'.κ x v∧cZ (wg P W dp) w σ w' σ'∧xn P W dp hp' w' σ') .ret a0 w0:=by
    refine Y fn _ v av ⟨v,⟨σ'.κ,kl C σ',zj C w' σ'⟩,rfl,hv,⟨H.size,H.aG,fun b hb=>.inl (H.up b hb),H.bP,fun b hb=>hb.elim (fun h=>H.dn b h) fun h=>.inr h.1,H.kap,fun b hb hW=>?_,H.io⟩,⟨fun k cs hk aK=>?_,fun k cs hk Z=>?_,fun b l hb=>?_,fun b hb=>?_,M.lay.aG (fun _ h=>.inl h) fun _ _=>rfl⟩⟩
    ·show kl C σ' b=_
     unfold kl
     rw [aa fun h=>hW h.1]
     exact H.ow b hb hW
    ·rw [←bf] at hk
     obtain ⟨vs,T,hB⟩:=M.bx k cs (by grind [St.box])
     exact ⟨vs,T,hB.Ei rfl rfl ((by grind [ez.dep])) (fun _ h=>.inl h) rfl (fun _ _ _ _ h=>h) (fun _ _ _ _=>rfl) fun c bW=>qa ((M.hpd k cs (by grind) hk).2 c bW)⟩
    ·rw [←bf] at hk
     exact M.hpd k cs Z hk
    ·have:kl C σ' b=some l:=hb
     unfold kl at this
     split at this
     ·cases this
     ·exact M.own b l this
    ·rcases hb with hb | ⟨h1,l,h2,h3⟩
     ·obtain ⟨h4,h5⟩:=M.bP b hb
      grind [kl]
     ·refine ⟨M.own b l h2,?_⟩
      simp_all [kl]
   rw [a6]
   rcases a5 with rfl | rfl
   ·exact S
   ·exact S
  ·cases F
 ·cases F
theorem Xg(hT:Al P G)(hX:KO P X):∀ dp f ys hp x hp',jP G X ⟨dp,true⟩ f ys hp=some (.ret x,hp')→(∀ y∈ys,y.copy=true)→Lj P dp f ys hp x:=by
 intro dp f ys hp x hp' he bC
 obtain ⟨fn',hG,ad⟩:=ah.1 he
 obtain ⟨r,hr,ag⟩:=ah.1 ad
 have F:=hT f fn' hG
 unfold Qi at F
 split at F
 ·rename_i fn hf
  split at F
  ·rename_i c hb
   simp only [aC,gO] at F
   obtain ⟨⟨ae,ai⟩,am⟩:=F
   have aj:∃ e,uz r.1=e∧(e= .normal∨e= .ret)∧(r.2.result ⟨dp,true⟩ fn'.res)=some x∧r.2.hp=hp':=by
    cases aD:r.1 with
    | ex id=>grind
    | nrm=>
     rw [aD] at ag
     obtain ⟨q,hq,a7⟩:=ah.1 ag
     have h1:q= .ret x:=by grind
     exact ⟨_,rfl,.inl rfl,Hr (h1▸hq),by grind⟩
    | ret=>
     rw [aD] at ag
     obtain ⟨q,hq,a7⟩:=ah.1 ag
     have h1:q= .ret x:=by grind
     exact ⟨_,rfl,.inr rfl,Hr (h1▸hq),by grind⟩
   obtain ⟨e,a6,a5,hq,bf⟩:=aj
   have aA:x.pure=true:=by
    obtain ⟨xs,_,h2⟩:=ah.1 hq
    split at h2
    ·rename_i hp
     obtain rfl:=af h2
     match xs,hp with
     | [],_=>rfl
     | [y],hp=>simpa [EM,AV.aX] using hp
     | y::z::ys,hp=>exact hp
    ·cases h2
   refine ⟨aA,⟨fn,hf,by rw [hb];rfl,ae⟩,fun w σ B cG hH ay ak=>?_⟩
   refine wJ hf hb ?_
   let C:Cx:=⟨P,fun b=>w.heap.size≤b,⟨dp,true⟩,B.size+(fn.ntmps - B.size)⟩
   have hc:aq C ⟨jy 0 ys,[],hp⟩ {tmps:=B++Array.replicate (fn.ntmps - B.size) undef,defers:=[]} w σ:=by
    refine ⟨by simp [C],Marks.nil,fun d=>?_,fun k cs hk=>?_,fun k cs Z hk=>hH.deep k cs hk Z,hH.own,hH.bP,by grind,hH.lay⟩
    ·rw [wI]
     simp only [dc,az,uW]
     cases hd:ys[d]? with
     | none=>exact VR.u _
     | some y=>
      have aK:=dB hd
      have hy:=ak d y hd
      have e:(B++Array.replicate (fn.ntmps - B.size) undef).getD d undef=B.getD d undef:=by
       simp_all [yr]
      grind [lE]
    ·simp only [St.box] at hk
     split at hk
     ·simp [aE] at hk
     ·rename_i Z
      obtain ⟨vs,T,hB⟩:=hH.bx k cs hk (hH.deep k cs hk Z).1
      exact ⟨vs,T,hB.cx rfl rfl rfl⟩
   refine hX ⟨dp,true⟩ fn'.code ⟨jy 0 ys,[],hp⟩ r c fn.ntmps C _ w σ _ rfl rfl (by simp [C];omega) hr ai hc fun a0 w0 σ' ar a8=>?_
   obtain ⟨w',H,M,Y⟩:=a8.KP ar
   obtain ⟨v,av,hv⟩:=M.result am hq
   have S:bodyPostM Fence.wide 0 P fn (fun e w'=>∃ v I',e= .returned v∧VR w' I' σ.κ x v∧w.heap.size≤w'.heap.size∧(∀ b,b<w.heap.size→w'.heap[b]? =w.heap[b]?)∧(∀ b,σ.I b→I' b)∧(∀ b,I' b→σ.I b∨w.heap.size≤b)∧(∀ b,I' b→b<w'.heap.size)∧w'.os=w.os∧w'.output=w.output) .ret a0 w0:=by
    refine Y fn _ v av ⟨v,zj C w' σ',rfl,hv.BX (fun _ h=>h) (fun _ _=>rfl) aA,H.size,fun b hb=>H.aG b hb (show ¬w.heap.size≤b by omega),fun b hb=>.inl (H.up b hb),fun b hb=>hb.elim (fun h=>H.dn b h) fun h=>.inr h.1,fun b hb=>?_,H.io⟩
    rcases hb with hb | ⟨h1,l,h2,h3⟩
    ·exact (M.bP b hb).1
    ·exact M.own b l h2
   rw [a6]
   rcases a5 with rfl | rfl
   ·exact S
   ·exact S
  ·cases F
 ·cases F
theorem VQ(hT:Al P G)(hX:KO P X):∀ dp f ys hp cs hp',jP G X ⟨dp,false⟩ f ys hp=some (.new cs,hp')→(∀ y∈ys,y.copy=true)→Li P dp f ys hp cs hp':=by
 intro dp f ys hp ncs hp' he bC
 obtain ⟨fn',hG,ad⟩:=ah.1 he
 obtain ⟨r,hr,ag⟩:=ah.1 ad
 have F:=hT f fn' hG
 unfold Qi at F
 split at F
 ·rename_i fn hf
  split at F
  ·rename_i c hb
   simp only [aC,gO] at F
   obtain ⟨⟨ae,ai⟩,am⟩:=F
   have aj:∃ e,uz r.1=e∧(e= .normal∨e= .ret)∧(r.2.fU ⟨dp,false⟩ fn'.res)=some ncs∧r.2.hp=hp':=by
    cases aD:r.1 with
    | ex id=>grind
    | nrm=>
     rw [aD] at ag
     obtain ⟨q,hq,a7⟩:=ah.1 ag
     have h1:q= .new ncs:=by grind
     exact ⟨_,rfl,.inl rfl,Sq (h1▸hq),by grind⟩
    | ret=>
     rw [aD] at ag
     obtain ⟨q,hq,a7⟩:=ah.1 ag
     have h1:q= .new ncs:=by grind
     exact ⟨_,rfl,.inr rfl,Sq (h1▸hq),by grind⟩
   obtain ⟨e,a6,a5,hq,bf⟩:=aj
   obtain ⟨n,kk,bI,bT,cr,cH,aw⟩:=VO hq
   refine ⟨aw,⟨fn,hf,by rw [hb];rfl,ae⟩,fun W w σ B aw hH ay ak=>?_⟩
   refine wJ hf hb ?_
   let C:Cx:=⟨P,W,⟨dp,false⟩,B.size+(fn.ntmps - B.size)⟩
   have hc:aq C ⟨jy 0 ys,[],hp⟩ {tmps:=B++Array.replicate (fn.ntmps - B.size) undef,defers:=[]} w σ:=by
    refine ⟨by simp [C],Marks.nil,fun d=>?_,fun k cs hk=>?_,fun k cs Z hk=>hH.deep k cs hk Z,hH.own,hH.bP,aw,hH.lay⟩
    ·rw [wI]
     simp only [dc,az,uW]
     cases hd:ys[d]? with
     | none=>exact VR.u _
     | some y=>
      have aK:=dB hd
      have hy:=ak d y hd
      have e:(B++Array.replicate (fn.ntmps - B.size) undef).getD d undef=B.getD d undef:=by
       simp_all [yr]
      grind [lE]
    ·simp only [St.box] at hk
     split at hk
     ·simp [aE] at hk
     ·rename_i Z
      obtain ⟨vs,T,hB⟩:=hH.bx k cs hk (hH.deep k cs hk Z).1
      exact ⟨vs,T,hB.cx rfl rfl rfl⟩
   refine hX ⟨dp,false⟩ fn'.code ⟨jy 0 ys,[],hp⟩ r c fn.ntmps C _ w σ _ rfl rfl (by simp [C];omega) hr ai hc fun a0 w0 σ' ar a8=>?_
   obtain ⟨w',H,M,Y⟩:=a8.KP ar
   let a':Act:={a0 with defers:=[]}
   rw [bI] at am
   obtain ⟨v,av,hv⟩:∃ v,(results fn a'.tmps).run P w'= .ok v w'∧v= .pointer (some ⟨σ'.κ kk,0,none⟩):=by
    have cu:fn.results=#[.tmp n]:=by
     have:fn.results.toList=[.tmp n]:=by
      revert am
      cases hq:fn.results.toList with
      | nil=>intro h;cases h
      | cons z zs=>
       cases z with
       | cell t ty=>grind [fP]
       | tmp t=>
        grind [fP]
     grind
    have ba:=M.fr n
    rw [bT] at ba
    have bG:VR w' σ'.I σ'.κ (.p kk 0) (a'.tmps.getD n undef):=ba
    refine ⟨a'.tmps.getD n undef,?_,bG.zS⟩
    simp_all [results]
   obtain ⟨vs,T,hB⟩:=M.bx kk ncs (by grind [St.box])
   have S:bodyPostM Fence.wide 0 P fn (fun e w'=>∃ σ' kk vs T,e= .returned (.pointer (some ⟨σ'.κ kk,0,none⟩))∧kk.dp=dp∧jS (wg P W dp) w' σ' kk ncs vs T∧cZ (wg P W dp) w σ w' σ'∧xn P W dp hp' w' σ') .ret a0 w0:=by
    refine Y fn _ v av ⟨σ',kk,vs,T,by rw [hv],cr,hB.cx rfl rfl rfl,⟨H.size,H.aG,H.up,H.bP,H.dn,H.kap,H.ow,H.io⟩,⟨fun k cs hk aK=>?_,fun k cs hk Z=>?_,M.own,M.bP,M.lay⟩⟩
    ·rw [←bf] at hk
     obtain ⟨vs,T,hB⟩:=M.bx k cs (by grind [St.box])
     exact ⟨vs,T,hB.cx rfl rfl rfl⟩
    ·rw [←bf] at hk
     exact M.hpd k cs Z hk
   rw [a6]
   rcases a5 with rfl | rfl
   ·exact S
   ·exact S
  ·cases F
 ·cases F
theorem Xh{ys:List AV}{z:AV}{d:Nat}{y:AV}(h:(ys++[z])[d]? =some y):ys[d]? =some y∨d=ys.length∧y=z:=by
 grind
theorem VS(hT:Al P G)(hX:KO P X):∀ dp f ys t es hp' t' aW,jP G X ⟨dp,false⟩ f (ys++[.o t es]) (fun _=>none)=some (.row t' aW,hp')→(∀ y∈ys,y.pure=true)→Lk P dp f ys t es t' aW:=by
 intro dp f ys t es hp' t' aW he bC
 obtain ⟨fn',hG,ad⟩:=ah.1 he
 obtain ⟨r,hr,ag⟩:=ah.1 ad
 have F:=hT f fn' hG
 unfold Qi at F
 split at F
 ·rename_i fn hf
  split at F
  ·rename_i c hb
   simp only [aC,gO] at F
   obtain ⟨⟨ae,ai⟩,am⟩:=F
   have aj:∃ e,uz r.1=e∧(e= .normal∨e= .ret)∧(r.2.end_ ⟨dp,false⟩ fn'.res)=some (.row t' aW):=by
    cases aD:r.1 with
    | ex id=>grind
    | nrm=>
     rw [aD] at ag
     obtain ⟨q,hq,a7⟩:=ah.1 ag
     have h1:q= .row t' aW:=by grind
     exact ⟨_,rfl,.inl rfl,h1▸hq⟩
    | ret=>
     rw [aD] at ag
     obtain ⟨q,hq,a7⟩:=ah.1 ag
     have h1:q= .row t' aW:=by grind
     exact ⟨_,rfl,.inr rfl,h1▸hq⟩
   obtain ⟨e,a6,a5,hq⟩:=aj
   obtain ⟨n,m,bI,bT,bN⟩:=aac hq
   refine ⟨⟨fn,hf,by rw [hb];rfl,ae⟩,fun W w σ B v aw hH ay ak bJ=>?_⟩
   refine wJ hf hb ?_
   let C:Cx:=⟨P,W,⟨dp,false⟩,(B.push v).size+(fn.ntmps - (B.push v).size)⟩
   have hc:aq C ⟨jy 0 (ys++[.o t es]),[],fun _=>none⟩ {tmps:=B.push v++Array.replicate (fn.ntmps - (B.push v).size) undef,defers:=[]} w σ:=by
    refine ⟨by simp [C],Marks.nil,fun d=>?_,fun k cs hk=>?_,fun k cs Z hk=>(by cases hk),hH.own,hH.bP,aw,hH.lay⟩
    ·rw [wI]
     simp only [dc,az,uW]
     cases hd:(ys++[.o t es])[d]? with
     | none=>exact VR.u _
     | some y=>
      have aK:=dB hd
      simp only [eK,cC,jk] at aK
      have e:(B.push v++Array.replicate (fn.ntmps - (B.push v).size) undef).getD d undef=(B.push v).getD d undef:=by
       simp_all [yr]
      show SR C w σ _ _ d y _
      rw [e]
      rcases Xh hd with hd | ⟨rfl,rfl⟩
      ·have co:=dB hd
       have hy:=ak d y hd
       have e2:(B.push v).getD d undef=B.getD d undef:=by
        rw [dK,fG,aa (by omega),dK]
       grind [lE]
      ·have e2:(B.push v).getD ys.length undef=v:=by
        rw [dK,fG,ab (by omega)];rfl
       rw [e2]
       exact bJ
    grind [St.box,aE]
   refine hX ⟨dp,false⟩ fn'.code ⟨jy 0 (ys++[.o t es]),[],fun _=>none⟩ r c fn.ntmps C _ w σ _ rfl rfl (by simp [C];omega) hr ai hc fun a0 w0 σ' ar a8=>?_
   obtain ⟨w',H,M,Y⟩:=a8.KP ar
   let a':Act:={a0 with defers:=[]}
   rw [bI] at am
   obtain ⟨v',av,hv⟩:∃ v',(results fn a'.tmps).run P w'= .ok v' w'∧OwnAt P W w' σ' (.rowS dp m) True t' aW v':=by
    have cu:fn.results=#[.tmp n]:=by
     have:fn.results.toList=[.tmp n]:=by
      revert am
      cases hq:fn.results.toList with
      | nil=>intro h;cases h
      | cons z zs=>
       cases z with
       | cell t ty=>grind [fP]
       | tmp t=>
        grind [fP]
     grind
    have ba:=M.fr m
    rw [bT] at ba
    have ba:OwnAt P W w' σ' (.rowS dp m) True t' aW (a'.tmps.getD m undef):=ba
    have cE:a'.tmps.getD n undef=a'.tmps.getD m undef:=by
     rcases bN with rfl | bN
     ·rfl
     ·have aP:=M.fr n
      rw [bN] at aP
      exact aP (by grind [St.rowAt])
    simp_all [results]
   have S:bodyPostM Fence.wide 0 P fn (fun e w'=>∃ v' σ' n,e= .returned v'∧OwnAt P W w' σ' (.rowS dp n) True t' aW v'∧cZ (wg P W dp) w σ w' σ'∧xn P W dp (fun _=>none) w' σ') .ret a0 w0:=
    Y fn _ v' av ⟨v',σ',m,rfl,hv,⟨H.size,H.aG,H.up,H.bP,H.dn,H.kap,H.ow,H.io⟩,⟨fun k cs hk=>(by cases hk),fun k cs hk=>(by cases hk),M.own,M.bP,M.lay⟩⟩
   rw [a6]
   rcases a5 with rfl | rfl
   ·exact S
   ·exact S
  ·cases F
 ·cases F
theorem aq.N9(h:aq C st a w σ){x:ResultVar}{z:RV}{y:AV}(hl:fP C.P [x] [z]=true)(he:st.N9 C.E.dp z=some y)(aS:y.copy=true):∃ v,(wh a.tmps x).run C.P w= .ok v w∧VR w σ.I σ.κ y v:=by
 cases x with
 | tmp t=>
  cases z with
  | t n=>
   obtain rfl:t=n:=by simpa [fP] using hl
   obtain rfl:=af he
   exact ⟨_,rfl,(h.fr t).CB aS⟩
  | c n sz=>simp [fP] at hl
  | r n=>cases he
 | cell n' ty=>
  cases z with
  | t n=>simp [fP] at hl
  | r n=>cases he
  | c n sz=>
   obtain ⟨rfl,hn⟩:n'=n∧ud C.P ty sz=true:=by simpa [fP] using hl
   simp only [St.N9] at he
   split at he
   ·rename_i k off hx
    obtain ⟨cs,hb,hp⟩:=ah.1 he
    obtain ⟨vs,T,hB⟩:=h.bx k cs hb
    have hs:=h.fr n'
    rw [hx] at hs
    have hv:=VR.zS hs
    obtain ⟨v,hr,cD⟩:=BV (P:=C.P) (I:=σ.I) (κ:=σ.κ) (b:=0) hB.hh (by have:=hB.size;omega) (fun off c hc V=>by
     have:=hB.cell off c hc
     rw [gh]
     cases c<;>first | exact this | (simp [AV.copy] at V)) (fun c hc V=>(hB.one c hc).resolve_right ((by grind [AV.copy]))) aS hp hn
    grind [wh,asAddr]
   ·cases he
theorem Bs{X:HR}(hT:Al P G)(hX:KO P X):kC P (jP G X):=⟨VP hT hX,VQ hT hX,Xg hT hX,VS hT hX⟩
abbrev FR(l:Nat):Fence:=Fence.wide.inRound l
theorem VT(h:il c (.kp kf kb x)=true):il c x=true:=by
 cases c with
 | region id ops d=>cases d<;>exact h
 | _=>exact h
section
variable {P:Program}{l n:Nat}{ops:Array Oper}{Q:Exit→Act→World→Prop}
theorem M9{o:Oper}{K:Act→World→Prop}(ax:Hq o=true)(h:o.wp P a w K Q):o.wpIn (FR l) n P a w K Q:=by
 refine ⟨fun _ _=>trivial,?_⟩
 unfold Oper.wp at h
 rw [show (FR l).round=some l from rfl,Oper.semAt_some l a.eval o (fun c e=>by unfold Hq at ax;rw [e] at ax;cases ax)]
 generalize (Go.execOp a.eval o).run P w=r at h ⊢
 cases r with
 | ok x w'=>
  cases x with
  | value v=>exact h
  | skip=>exact h
  | defer d=>exact h
  | enter f args=>exact ⟨fun h=>by simp [Fence.wide] at h,CallsIn.inRound l (callsIn_wide.2 h)⟩
  | row row args=>exact ⟨fun h=>by simp [Fence.wide] at h,fun c cs _=>let ⟨v,w',r,s⟩:=h c cs;⟨v,w',r,stepsIn_wide.2 s⟩⟩
  | _=>exact h.elim
 | halt x w'=>
  cases x<;>exact h
theorem EJ(ax:∀ o∈ops,Hq o=true)(O:¬LetsOut Q):∀ (is:List Nat)(a:Act)(w:World),wpOps P ops Q is a w→wpOpsIn (FR l) n P ops Q is a w
 | [],a,w,h=>h
 | i::is,a,w,h=>by
  simp only [wpOps,wpOpsIn] at h ⊢
  cases ho:ops[i]? with
  | none=>rw [ho] at h;exact EJ ax O is a w h
  | some o=>
   rw [ho] at h
   simp only at h ⊢
   split
   ·rename_i hw
    rw [ab hw] at h
    rcases h with h | h
    ·exact Oper.wpIn_mono (fun a w h=>EJ ax O is a w h) (M9 (ax o (Array.mem_of_getElem? ho)) h)
    ·exact absurd h.2 O
   ·rename_i hw
    rw [aa hw] at h
    exact ⟨fun _ _=>trivial,EJ ax O is _ w h⟩
theorem EK(ax:∀ o∈ops,Hq o=true)(O:¬LetsOut Q):∀ (fuel:Nat)(listed:Array Bool)(a:Act)(w:World),wpAny P .any ops Q fuel listed a w→wpAnyIn (FR l) n P .any ops Q fuel listed a w
 | 0,_,_,_,h=>h
 | fuel+1,listed,a,w,h=>by
  refine ⟨h.1,fun i hi=>?_⟩
  have h1:=h.2 i hi
  unfold wpOp at h1
  unfold wpOpIn
  cases ho:ops[i]? with
  | none=>rw [ho] at h1;exact EK ax O fuel _ a w h1
  | some o=>
   rw [ho] at h1
   simp only at h1 ⊢
   split
   ·rename_i hw
    rw [ab hw] at h1
    rcases h1 with h1 | h1
    ·exact Oper.wpIn_mono (fun a w h=>EK ax O fuel _ a w h) (M9 (ax o (Array.mem_of_getElem? ho)) h1)
    ·exact absurd h1.2 O
   ·rename_i hw
    rw [aa hw] at h1
    exact ⟨fun _ _=>trivial,EK ax O fuel _ _ w h1⟩
theorem TF{K:Act→World→Prop}(h:¬LetsOut Q):¬LetsOut (Exit.then K Q):=h
theorem Q6(h:¬LetsOut Q):¬LetsOut (Exit.inBlock id Q):=h
end
variable [bM]
variable {P:Program}{G:sb}{Ω:ef}
theorem Jc(hΩ:je P Ω)(l m N:Nat)(hR:∀ k,k≤N→m8 P (jP G (exec G Ω k))):∀ (n:Nat),n≤N→∀ (E:Env)(ac:AC)(st:St)(r:aN×St)(c:Code)(nt:Nat)(C:Cx)(a:Act)(w:World)(σ:Sp)(Q:Exit→Act→World→Prop),C.P=P→C.E=E→nt≤C.nt→
  exec G Ω n E ac st=some r→da P nt c ac=true→il c ac=true→¬LetsOut Q→aq C st a w σ→
  (∀ a' w' σ',cZ C w σ w' σ'→aq C r.2 a' w' σ'→Q (uz r.1) a' w')→c.wpIn (FR l) m P Q a w
 | 0,_,E,ac,st,r,c,nt,C,a,w,σ,Q,_,_,_,he,_,_,_,_,_=>by simp [exec] at he
 | n+1,hN,E,ac,st,r,c,nt,C,a,w,σ,Q,hP,hE,aJ,he,hl,hp,O,hc,hQ=>by
  have ce:=hR n (by omega)
  have ih:=Jc hΩ l m N hR n (by omega)
  cases ac with
  | sk=>
   obtain rfl:=af he
   rcases Sf hl with rfl | ⟨l,rfl⟩
   ·exact wpIn_skip (hQ a w σ (.refl _ _ _) hc)
   ·exact wpIn_label (hQ a w σ (.refl _ _ _) hc)
  | rg pre gs kf kb=>
   obtain ⟨id,ops,V,aF⟩:=Sg hl
   subst V
   simp only [exec] at he
   subst hP;subst hE
   obtain ⟨st1,h1,ad⟩:=ah.1 he
   obtain ⟨st2,h2,ag⟩:=ah.1 ad
   obtain rfl:=af ag
   obtain ⟨σ1,bv,bY⟩:=hc.pre pre h1
   simp only [il] at hp
   refine wpIn_region ?_
   have:=aq.steps (ops:=ops) (Q:=Q) ce hΩ aJ gs ops.toList 0 st1 st2 a w σ1 rfl aF bY h2 (fun a' w' σ' hs M=>hQ a' w' σ' (bv.trans hs) (M.aG kf kb))
   rw [Array.length_toList,←List.range_eq_range'] at this
   exact EJ (fun o ho=>FA.1 hp o ho) O _ _ _ this
  | dg pre mks gs kf kb=>
   obtain ⟨id,ops,V,aF⟩:=Sh hl
   subst V
   simp only [exec] at he
   subst hP;subst hE
   obtain ⟨st1,h1,ad⟩:=ah.1 he
   split at ad
   ·rename_i hm
    obtain ⟨st2,h2,ag⟩:=ah.1 ad
    obtain rfl:=af ag
    obtain ⟨σ1,bv,bY⟩:=hc.pre pre h1
    simp only [il] at hp
    obtain ⟨bQ,b0⟩:=bY.Qh (Q:=Q) ce hΩ aJ aF hm h2 fun a' w' σ' hs M=>hQ a' w' σ' (bv.trans hs) (M.aG kf kb)
    exact wpIn_region_any bQ (EK (fun o ho=>FA.1 hp o ho) O _ _ _ _ b0)
   ·cases ad
  | sq x y=>
   obtain ⟨c1,c2,V,aF⟩:=Si hl
   subst V
   simp only [exec] at he
   simp only [il,aC] at hp
   obtain ⟨q,hq,ad⟩:=ah.1 he
   refine wpIn_seq (ih E x st q c1 nt C a w σ _ hP hE aJ hq aF.1 hp.1 (TF O) hc fun a' w' σ' hs M=>?_)
   obtain ⟨qe,qs⟩:=q
   cases qe with
   | nrm=>exact ih E y qs r c2 nt C a' w' σ' Q hP hE aJ ad aF.2 hp.2 O M fun a'' w'' σ'' ci bZ=>hQ a'' w'' σ'' (hs.trans ci) bZ
   | ex id=>
    obtain rfl:=af ad
    exact hQ a' w' σ' hs M
   | ret=>
    obtain rfl:=af ad
    exact hQ a' w' σ' hs M
  | ite cc x y=>
   obtain ⟨cd,c1,c2,V,aF⟩:=Qj hl
   subst V
   simp only [exec] at he
   simp only [il,aC] at hp
   obtain ⟨z,hz,ad⟩:=ah.1 he
   have b4:st.ev cc= .b z:=by
    cases V:st.ev cc<;>rw [V] at hz<;>simp [qA] at hz
    rw [hz]
   have cv:a.eval cd= .bool z:=by
    have:=hc.wQ aF.1.1 (by rw [b4];rfl)
    rw [b4] at this
    exact this.rE
   refine wpIn_cond cv ?_
   cases z with
   | true=>exact ih E x st r c1 nt C a w σ Q hP hE aJ (by simpa using ad) aF.1.2 hp.1 O hc hQ
   | false=>exact ih E y st r c2 nt C a w σ Q hP hE aJ (by simpa using ad) aF.2 hp.2 O hc hQ
  | bl id x=>
   obtain ⟨c1,V,aF⟩:=Sj hl
   subst V
   simp only [exec] at he
   simp only [il] at hp
   obtain ⟨q,hq,ad⟩:=ah.1 he
   refine wpIn_block (ih E x st q c1 nt C a w σ _ hP hE aJ hq aF hp (Q6 O) hc fun a' w' σ' hs M=>?_)
   obtain ⟨qe,qs⟩:=q
   cases qe with
   | nrm=>
    obtain rfl:=af ad
    exact hQ a' w' σ' hs M
   | ret=>
    obtain rfl:=af ad
    exact hQ a' w' σ' hs M
   | ex id=>
    simp only [inBlock] at ad
    simp only [uz,Exit.inBlock]
    split at ad
    ·rename_i hid
     obtain rfl:=af ad
     rw [ab hid]
     exact hQ a' w' σ' hs M
    ·rename_i hid
     obtain rfl:=af ad
     rw [aa hid]
     exact hQ a' w' σ' hs M
  | lp x=>
   obtain ⟨c1,V,aF⟩:=Sk hl
   subst V
   simp [il] at hp
  | ex id=>
   obtain rfl:=Sl hl
   obtain rfl:=af he
   exact wpIn_exit (hQ a w σ (.refl _ _ _) hc)
  | kp kf kb x=>exact ih E x (st.aG kf kb) r c nt C a w σ Q hP hE aJ he (Sn hl) (VT hp) O (hc.aG kf kb) hQ
  | bad=>cases he
  | ru g x y b=>cases c with
   | region id ops d=>cases d<;>simp [il] at hp
   | _=>simp [il] at hp
  | rt=>
   obtain rfl:=Sm hl
   obtain rfl:=af he
   exact wpIn_ret (hQ a w σ (.refl _ _ _) hc)
end Go.Proofs.YtkkkkondjclcnaaGreat.A
namespace Go.Proofs.YtkkkkondjclcnaaGreat.A
open Go Go.RowKit
variable [bM]
section
variable {C:Cx}{st:St}{a:Act}{w:World}{σ:Sp}
theorem gx.wK{P:Program}{W W':Nat→Prop}{L:ez}{wr:Prop}{t:TypeId}{es:List AV}{g cap:Nat}{cs:Array Value}(hW:∀ b,σ.ow b≠none→W b→W' b)(h:gx P W w σ L wr t es g cap cs):gx P W' w σ L wr t es g cap cs:=
 ⟨h.ow,fun hw=>hW g (by rw [h.ow];simp) (h.wr hw),h.hh,h.pos,h.nc,h.ecap,h.max,h.size,h.pure,h.one,h.cell,h.base⟩
theorem OwnAt.wK{P:Program}{W W':Nat→Prop}{L:ez}{wr:Prop}{t:TypeId}{es:List AV}{v:Value}(hW:∀ b,σ.ow b≠none→W b→W' b)(h:OwnAt P W w σ L wr t es v):OwnAt P W' w σ L wr t es v:=
 h.imp id fun ⟨g,cap,cs,hv,hr⟩=>⟨g,cap,cs,hv,hr.wK hW⟩
theorem rD.wK{W W':Nat→Prop}{dp g:Nat}{t:TypeId}{x:AV}{v:Value}(hW:∀ b,σ.ow b≠none→W b→W' b)(h:rD W dp w σ g t x v):rD W' dp w σ g t x v:=
 ⟨h.1,h.2.mono (fun b h1=>⟨h1.1,hW b (by rw [h1.1];simp) h1.2.1,h1.2.2⟩) (fun _ _=>rfl) fun _ _=>rfl⟩
theorem CR.wK{W':Nat→Prop}{k:Key}{off:Nat}{c:AV}{v:Value}(hW:∀ b,σ.ow b≠none→C.W b→W' b)(h:CR C w σ k off c v):CR {C with W:=W'} w σ k off c v:=by
 cases c with
 | o t es=>exact OwnAt.wK hW h
 | w g t x=>exact rD.wK hW h
 | _=>exact h
theorem jS.wK{W':Nat→Prop}{k:Key}{cs:List AV}{vs:Array Value}{T:TypeId}(hW:∀ b,σ.ow b≠none→C.W b→W' b)(h:jS C w σ k cs vs T):jS {C with W:=W'} w σ k cs vs T:=
 ⟨h.hh,h.size,h.ow,fun hm=>hW _ (by rw [h.ow];simp) (h.wr hm),h.one,fun off c hc=>(h.cell off c hc).wK hW,h.ty,h.kb⟩
theorem SR.wK{W':Nat→Prop}{d:Nat}{x:AV}{v:Value}(hW:∀ b,σ.ow b≠none→C.W b→W' b)(h:SR C w σ st a d x v):SR {C with W:=W'} w σ st a d x v:=by
 cases x with
 | o t es=>exact OwnAt.wK hW h
 | w g t x=>exact rD.wK hW h
 | _=>exact h
theorem aq.wK{W':Nat→Prop}(hW:∀ b,σ.ow b≠none→C.W b→W' b)(hn:∀ b,w.heap.size≤b→W' b)(h:aq C st a w σ):aq {C with W:=W'} st a w σ:=by
 refine ⟨h.size,?_,fun d=>(h.fr d).wK hW,fun k cs hk=>?_,h.hpd,h.own,h.bP,fun b hb=>⟨hn b hb,(h.new b hb).2⟩,h.lay⟩
 ·obtain ⟨Ds,h0,h1,h2⟩:=h.defers
  exact ⟨Ds,h0,h1,fun D hD=>⟨(h2 D hD).1,hW D (by rw [(h2 D hD).1];simp) (h2 D hD).2.1,(h2 D hD).2.2⟩⟩
 ·obtain ⟨vs,T,hB⟩:=h.bx k cs hk
  exact ⟨vs,T,hB.wK hW⟩
theorem cZ.wK{W':Nat→Prop}{w':World}{σ':Sp}(hW:∀ b,C.W b→W' b)(h:cZ C w σ w' σ'):cZ {C with W:=W'} w σ w' σ':=
 ⟨h.size,fun b hb hn=>h.aG b hb fun hc=>hn (hW b hc),h.up,h.bP,fun b hb=>(h.dn b hb).imp id (hW b),h.kap,fun b hb hn=>h.ow b hb fun hc=>hn (hW b hc),h.io⟩
theorem aq.tV{l:Nat}{o:Obj}(ho:σ.ow l=none)(hI:¬σ.I l)(h:aq C st a w σ):aq C st a (w.putObj l o) σ:=by
 have ay:(w.putObj l o).heap.size=w.heap.size:=by simp [World.putObj]
 exact h.same ⟨fun b L hb _=>⟨World.putObj_heap_other fun e=>(by rw [e,ho] at hb;cases hb),hb⟩,fun b hb=>World.putObj_heap_other fun e=>hI (e▸hb),fun _ h=>h,rfl,vt ay.symm,fun b L hb=>by rw [ay];exact h.own b L hb,fun b hb=>by rw [ay];exact h.bP b hb⟩
theorem cZ.tV{l:Nat}{o:Obj}(hW:C.W l)(hI:¬σ.I l):cZ C w σ (w.putObj l o) σ:=by
 have ay:(w.putObj l o).heap.size=w.heap.size:=by simp [World.putObj]
 exact ⟨vt ay.symm,fun b hb hn=>World.putObj_heap_other fun e=>hn (e▸hW),fun _ h=>h,fun b hb=>World.putObj_heap_other fun e=>hI (e▸hb),fun _ h=>.inl h,fun _ _=>rfl,fun _ _ _=>rfl,rfl,rfl⟩
theorem aq.grown{w':World}(hb:Below w.heap.size w w')(h:aq C st a w σ):aq C st a w' σ:=
 h.same ⟨fun b L bA _=>⟨hb.block b (h.own b L bA),bA⟩,fun b bg=>hb.block b (h.bP b bg).1,fun _ h=>h,rfl,hb.size,fun b L bA=>ea (h.own b L bA) hb.size,fun b bg=>⟨ea (h.bP b bg).1 hb.size,(h.bP b bg).2⟩⟩
theorem cZ.grown{w':World}(hb:Below w.heap.size w w')(hI:∀ b,σ.I b→b<w.heap.size):cZ C w σ w' σ:=
 ⟨hb.size,fun b aK _=>hb.block b aK,fun _ h=>h,fun b bg=>hb.block b (hI b bg),fun _ h=>.inl h,fun _ _=>rfl,fun _ _ _=>rfl,hb.os,hb.output⟩
theorem aq.leave{C:Cx}{s:St}{a':Act}{w w':World}{σ σ':Sp}(H:cZ C w σ w' σ')(M:aq C s a' w' σ')(bh:C.E.ro=false) :
  cZ (wg C.P C.W C.E.dp) w σ w' ⟨σ'.κ,kl C σ',zj C w' σ'⟩∧xn C.P C.W C.E.dp s.hp w' ⟨σ'.κ,kl C σ',zj C w' σ'⟩:=by
 have bm:∀ b l,σ'.ow b=some l→l.dep≠C.E.dp→kl C σ' b=some l:=by
  intro b l hb Z
  unfold kl
  rw [aa,hb]
  rintro ⟨_,l',h1,h2⟩
  rw [hb] at h1
  obtain rfl:=af h1
  exact Z h2
 refine ⟨⟨H.size,H.aG,fun b hb=>.inl (H.up b hb),H.bP,fun b hb=>hb.elim (fun h=>H.dn b h) fun h=>.inr h.1,H.kap,fun b hb hW=>?_,H.io⟩,⟨fun k cs hk aK=>?_,fun k cs hk Z=>?_,fun b l hb=>?_,fun b hb=>?_,M.lay.aG (fun _ h=>.inl h) fun _ _=>rfl⟩⟩
 ·show kl C σ' b=_
  unfold kl
  rw [aa fun h=>hW h.1]
  exact H.ow b hb hW
 ·obtain ⟨vs,T,hB⟩:=M.bx k cs (by simp only [St.box,aa (show ¬k.dp=C.E.dp by omega)];exact hk)
  exact ⟨vs,T,hB.Ei rfl rfl (fun b l hb cl=>bm b l hb (by rcases cl with rfl | ⟨_,rfl⟩<;>simp only [ez.dep]<;>omega)) (fun _ h=>.inl h) bh (fun _ _ _ _ h=>h) (fun _ _ _ _=>rfl) fun c bW=>qa ((M.hpd k cs (by omega) hk).2 c bW)⟩
 ·exact M.hpd k cs Z hk
 ·have:kl C σ' b=some l:=hb
  unfold kl at this
  split at this
  ·cases this
  ·exact M.own b l this
 ·rcases hb with hb | ⟨h1,l,h2,h3⟩
  ·obtain ⟨h4,h5⟩:=M.bP b hb
   refine ⟨h4,?_⟩
   show kl C σ' b=none
   unfold kl
   split
   ·rfl
   ·exact h5
  ·refine ⟨M.own b l h2,?_⟩
   show kl C σ' b=none
   unfold kl
   rw [ab ⟨h1,l,h2,h3⟩]
theorem Q7(fr:List (Nat×AV))(d:Nat):au (fr.map fun y=>(y.1,if y.2.copy=true then y.2 else .u)) d=if (au fr d).copy=true then au fr d else .u:=by
 induction fr with
 | nil=>simp [au,AV.copy]
 | cons y fr ih=>
  obtain ⟨k,x⟩:=y
  simp only [fj,sn]
  by_cases hk:k=d
  ·simp only [ab hk]
  ·simp only [aa hk];exact ih
theorem aq.inner(h:aq C st a w σ)(bh:C.E.ro=false)(bV:∀ d cs,aE st.bx d=some cs→∀ c∈cs,c.deep C.E.dp=true){W':Nat→Prop}(hW:∀ b,σ.ow b≠none→Wc C σ b→W' b)(hn:∀ b,w.heap.size≤b→W' b){x:Nat}{n:Int}(hx:x<C.nt) :
  aq ⟨C.P,W',⟨C.E.dp+1,false⟩,C.nt⟩ (st.inner C.E.dp x n) {tmps:=a.tmps.setIfInBounds x (.int .i64 n),defers:=[]} w σ:=by
 have hH:=h.Ww bh bV
 refine ⟨by simp [h.size],Marks.nil,fun d=>?_,fun k cs hk=>?_,fun k cs Z hk=>hH.deep k cs hk Z,hH.own,hH.bP,fun b hb=>⟨hn b hb,(h.new b hb).2⟩,h.lay⟩
 ·have ht:({tmps:=a.tmps.setIfInBounds x (.int .i64 n),defers:=[]} : Act).tmps.getD d undef=if x=d then .int .i64 n else a.tmps.getD d undef:=by
   have:=Iv a x d (.int .i64 n) (by rw [h.size];exact hx)
   simpa [Act.put] using this
  rw [ht]
  show SR _ w σ _ _ d (au ((x,AV.i .i64 n)::_) d) _
  rw [sn]
  by_cases hd:x=d
  ·subst hd
   rw [ab rfl,ab rfl]
   exact VR.i _ _
  ·rw [aa hd,aa hd,Q7]
   split
   ·rename_i aS
    have:=(h.fr d).CB aS
    exact Iw (.inl aS) this
   ·exact VR.u _
 ·simp only [St.inner,St.box] at hk
  split at hk
  ·simp [aE] at hk
  ·rename_i Z
   obtain ⟨vs,T,hB⟩:=hH.bx k cs hk (hH.deep k cs hk Z).1
   exact ⟨vs,T,(hB.wK (W':=W') hW).cx rfl rfl rfl⟩
end
section
variable {C:Cx}{st:St}{a:Act}{w:World}{σ:Sp}
theorem aq.Sr{D:Nat}(h:aq C st a w σ)(ho:σ.ow D=none)(hI:¬σ.I D)(hW:C.W D)(hh:w.heap[D]? =some (.deferred (some []))) :
  aq C st {a with defers:=JJ D::a.defers} w (σ.add D (some (.mark C.E.dp)))∧cZ C w σ w (σ.add D (some (.mark C.E.dp))):=by
 have aK:D<w.heap.size:=(u7.1 hh).1
 have Z:∀ b l,σ.ow b=some l→b≠D:=fun b l hb e=>by rw [e,ho] at hb;cases hb
 have hs:jo C w σ w (σ.add D (some (.mark C.E.dp))) none:=by
  refine ⟨fun b l hb _=>⟨rfl,?_⟩,fun _ _=>rfl,fun _ h=>h,rfl,aV _,fun b l hb=>?_,fun b hb=>⟨(h.bP b hb).1,?_⟩⟩
  ·simp only [Sp.add,aa (Z b l hb),hb]
  ·simp only [Sp.add] at hb
   split at hb
   ·rename_i e;rw [e];exact aK
   ·exact h.own b l hb
  ·have:b≠D:=fun e=>hI (e▸hb)
   simp only [Sp.add,aa this]
   exact (h.bP b hb).2
 have h1:=h.same hs
 refine ⟨⟨h1.size,?_,h1.fr,h1.bx,h1.hpd,h1.own,h1.bP,h1.new,h1.lay⟩,⟨aV _,fun _ _ _=>rfl,fun _ h=>h,fun _ _=>rfl,fun _ h=>.inl h,fun _ _=>rfl,fun b hb hn=>?_,rfl,rfl⟩⟩
 ·obtain ⟨Ds,h2,h3,h4⟩:=h.defers
  refine ⟨D::Ds,wX.2 ⟨fun hm=>Z D _ (h4 D hm).1 rfl,h2⟩,by show _::a.defers=_;rw [h3];rfl,fun D' b3=>?_⟩
  rcases eX.1 b3 with rfl | b3
  ·exact ⟨by simp [Sp.add],hW,hh⟩
  ·obtain ⟨h5,h6⟩:=h4 D' b3
   exact ⟨by simp only [Sp.add,aa (Z D' _ h5),h5],h6⟩
 ·have:b≠D:=fun e=>hn (e▸hW)
  simp only [Sp.add,aa this]
end
section
variable {P:Program}{G:sb}{Ω:ef}
set_option maxHeartbeats 1000000 in
theorem Xi(hΩ:je P Ω){N:Nat}(hR:∀ k,k≤N→m8 P (jP G (exec G Ω k))){n:Nat}(hn:n≤N){C:Cx}{st:St}{a:Act}{w:World}{σ:Sp}{r:aN×St}{g:Operand}{g':aY}{x:Nat}{y b:Code}{y' b':AC}{nt:Nat}{Q:Exit→Act→World→Prop}{ns:List Int}
  (hP:C.P=P) (bh:C.E.ro=false) (aJ:nt≤C.nt) (hx:x<nt) (be:vU Ω (st.ev g')=some ns) (he:rounds C.E.dp (exec G Ω n ⟨C.E.dp+1,false⟩) x y' b' ns st=some r)
  (cp:bR g g'=true) (cn:da P nt y y'=true) (cj:il y y'=true) (cq:da P nt b b'=true) (ck:il b b'=true) (hc:aq C st a w σ)
  (hQ:∀ a' w' σ',cZ C w σ w' σ'→aq C r.2 a' w' σ'→Q (uz r.1) a' w'):(Code.rangeFunc g #[x] y b).wp P Q a w:=by
 subst hP
 obtain ⟨f,c,b8,aS,es,h1,h2⟩:∃ f c,st.ev g'= .f f [c]∧(AV.f f [c]).copy=true∧∃ es,Ω f [.u,c]=some (.l 0 es)∧Az es=some ns:=by
  unfold vU at be
  split at be
  ·rename_i f c hg
   split at be
   ·rename_i aS
    obtain ⟨z,h1,h2⟩:=ah.1 be
    split at h2
    ·rename_i es;exact ⟨f,c,hg,aS,es,h1,h2⟩
    ·cases h2
   ·cases be
  ·cases be
 have hv:VR w σ.I σ.κ (.f f [c]) (a.eval g):=by rw [←b8];exact hc.wQ cp (by rw [b8];exact aS)
 obtain ⟨gf,lb,hg,bU,bo⟩:=hΩ.it f c es ns h1 h2 w σ.I σ.κ (a.eval g) (hc.new _ (aV _)).2 (fun b hb=>(hc.bP b hb).1) hv
 refine (wpIn_wide (n:=2)).1 (wpIn_rangeFunc ?_)
 intro fn _
 obtain ⟨rec,U⟩:∃ rec:LoopState→Option Code→Loop,rec=fun st pe=>{state:=st,pending:=pe,fn,tmps:=a.tmps,params:=#[x],assign:=y,body:=b,defers:=w.heap.size}:=⟨_,rfl⟩
 obtain ⟨W1,bq⟩:∃ W1,(w.alloc (.deferred (some []))).alloc (.loop (rec .ready none))=W1:=⟨_,rfl⟩
 have cf:W1.heap[w.heap.size+1]? =some (.loop (rec .ready none)):=by
  rw [←bq];have:=World.alloc_heap_new (w.alloc (.deferred (some []))) (.loop (rec .ready none));rwa [World.size_alloc] at this
 have cg:W1.heap[w.heap.size]? =some (.deferred (some [])):=by
  rw [←bq];exact (Below.heap_alloc _ _ _ (by simp)).trans (World.alloc_heap_new w _)
 have bB:Below w.heap.size w W1:=by rw [←bq];exact ((Below.refl _ w).alloc (aV _) _).alloc (by simp) _
 have bv:W1.heap.size=w.heap.size+2:=by rw [←bq];simp
 obtain ⟨l,aZ⟩:∃ l,l=w.heap.size+1:=⟨_,rfl⟩
 obtain ⟨D,a4⟩:∃ D,D=w.heap.size:=⟨_,rfl⟩
 have bO:D≠l:=by omega
 have a9:C.W l:=(hc.new l (by omega)).1
 have bu:C.W D:=(hc.new D (by omega)).1
 rw [←aZ] at cf
 rw [←a4] at cg
 refine ⟨l,[JJ D],W1,{target:=.fn (.func gf) lb,args:=#[.func (.yield l) #[] #[]]},W1,gf,#[.func (.yield l) #[] #[]]++lb,W1,?_,?_,fun _ _=>trivial,?_,fun h=>by simp [Fence.wide] at h,?_⟩
 ·rw [←bq,U,aZ,a4];exact run_enterLoop_outer _ _ _ _ _
 ·simp only [resolve,hg]
  simp [go_sem]
 ·simp [invoke,go_sem,bU]
 let J:(Nat→Prop)→List Int→World→Prop:=fun T pre W=>T D∧T l∧(∀ b,T b→w.heap.size≤b∧b<W.heap.size)∧W.heap[l]? =some (.loop (rec .ready none))∧W.heap[D]? =some (.deferred (some []))∧
  ∃ rest st1 σ1,ns=pre++rest∧rounds C.E.dp (exec G Ω n ⟨C.E.dp+1,false⟩) x y' b' rest st1=some r∧aq C st1 a W σ1∧cZ C w σ W σ1∧∀ b,T b→σ1.ow b=none∧¬σ1.I b
 let Jx:List Int→World→Prop:=fun _ W=>∃ c σ1,W.heap[l]? =some (.loop (rec .done (some c)))∧W.heap[D]? =some (.deferred (some []))∧aq C r.2 a W σ1∧cZ C w σ W σ1∧(σ1.ow D=none∧¬σ1.I D)∧(σ1.ow l=none∧¬σ1.I l)∧
  ((r.1= .ret∧c= .ret)∨∃ id,r.1= .ex id∧c= .exit id)
 have cA:J (fun b=>b=D∨b=l) [] W1:=by
  refine ⟨.inl rfl,.inr rfl,fun b hb=>by rcases hb with rfl | rfl<;>omega,cf,cg,ns,st,σ,rfl,he,hc.grown bB,cZ.grown bB fun b hb=>(hc.bP b hb).1,fun b hb=>⟨?_,fun hI=>?_⟩⟩
  ·cases ho:σ.ow b with
   | none=>rfl
   | some L=>have:=hc.own b L ho;rcases hb with rfl | rfl<;>omega
  ·have:=(hc.bP b hI).1;rcases hb with rfl | rfl<;>omega
 refine (bo l (2 - 1) J Jx (fun b=>b=D∨b=l) W1 bB.size (fun b hb=>bB.block b (hc.bP b hb).1) ?_ ?_ cA).mono ?_
 ·
  rintro T pre W W' ⟨aQ,al,aI,hl,hD,rest,st1,σ1,bd,ao,V,H,aB⟩ aM
  refine ⟨.inl aQ,.inl al,fun b hb=>?_,(aM.block l (aI l al).2).trans hl,(aM.block D (aI D aQ).2).trans hD,rest,st1,σ1,bd,ao,V.grown aM,H.trans (cZ.grown aM fun b hb=>(V.bP b hb).1),fun b hb=>?_⟩
  ·rcases hb with hb | hb
   ·exact ⟨(aI b hb).1,ea (aI b hb).2 aM.size⟩
   ·exact ⟨bS H.size hb.1,hb.2⟩
  ·rcases hb with hb | hb
   ·exact aB b hb
   ·refine ⟨?_,fun hI=>?_⟩
    ·cases ho:σ1.ow b with
     | none=>rfl
     | some L=>have:=V.own b L ho;omega
    ·have:=(V.bP b hI).1;omega
 ·
  rintro T pre nn rest W m bd ⟨aQ,al,aI,hl,hD,rest0,st1,σ1,bL,ao,V,H,aB⟩
  obtain rfl:rest0=nn::rest:=List.append_cancel_left (bL.symm.trans bd)
  simp only [rounds] at ao
  split at ao
  case isFalse=>cases ao
  rename_i bn
  obtain ⟨q,hq,ao⟩:=ah.1 ao
  obtain ⟨qe,qs⟩:=q
  cases qe with
  | ex id=>cases ao
  | ret=>cases ao
  | nrm=>
  simp only at ao
  obtain ⟨r1,aD,ao⟩:=ah.1 ao
  have bV:∀ d cs,aE st1.bx d=some cs→∀ c∈cs,c.deep C.E.dp=true:=fun d cs hb c hm=>nX (p9 (p:=fun y=>AV.dt C.E.dp y) _ bn d cs hb) c hm
  have ca:∀ b,W.heap.size≤b→Wc C σ1 b:=fun b hb=>⟨⟨(V.new b hb).1,fun e=>absurd (V.own b _ e) (oB.2 hb)⟩,fun d=>⟨fun e=>absurd (V.own b _ e) (oB.2 hb),fun e=>absurd (V.own b _ e) (oB.2 hb)⟩⟩
  have b9:Wc C σ1 l:=⟨⟨a9,fun e=>by rw [(aB l al).1] at e;cases e⟩,fun d=>⟨fun e=>(by rw [(aB l al).1] at e;cases e),fun e=>(by rw [(aB l al).1] at e;cases e)⟩⟩
  let C1:Cx:=⟨C.P,fun b=>Wc C σ1 b∧¬T b,⟨C.E.dp+1,false⟩,C.nt⟩
  let C3:Cx:=⟨C.P,Wc C σ1,⟨C.E.dp+1,false⟩,C.nt⟩
  have ct:=V.inner bh bV (W':=fun b=>Wc C σ1 b∧¬T b) (x:=x) (n:=nn) (fun b ho hw=>⟨hw,fun ht=>ho (aB b ht).1⟩) (fun b hb=>⟨ca b hb,fun ht=>absurd (aI b ht).2 (oB.2 hb)⟩) (ea hx aJ)
  have hy:(Instr.yield l #[.int .i64 nn]).run C.P W= .ok (.round l fn (a.tmps.setIfInBounds x (.int .i64 nn)) y b) W:=by
   have:=run_yield (P:=C.P) (args:=#[.int .i64 nn]) hl (by rw [U];simp)
   rw [U] at this
   rw [this];simp
  refine ⟨fn,_,y,b,hy,roundIn_of_wpIn trivial ?_⟩
  refine Jc hΩ l m N hR n hn ⟨C.E.dp+1,false⟩ y' (st1.inner C.E.dp x nn) (.nrm,qs) y nt C1 _ W σ1 _ rfl rfl aJ hq cn cj (by rintro ⟨_,_,h⟩;exact h) ct fun a1 w1 σ2 aP cz=>?_
  have b7:w1.heap[l]? =some (.loop (rec .ready none)):=(aP.aG l (aI l al).2 fun h=>h.2 al).trans hl
  have aO:∀ b,T b→σ2.ow b=none∧¬σ2.I b:=fun b hb=>⟨(aP.ow b (aI b hb).2 fun h=>h.2 hb).trans (aB b hb).1,fun h=>(aP.dn b h).elim (aB b hb).2 fun h=>h.2 hb⟩
  refine ⟨_,run_beginRound b7 (by rw [U]),?_⟩
  have bk:l<w1.heap.size:=(u7.1 b7).1
  have bX:=cz.tV (o:=.loop {rec .ready none with state:=.busy}) (aO l al).1 (aO l al).2
  refine Jc hΩ l m N hR n hn ⟨C.E.dp+1,false⟩ b' qs r1 b nt C1 a1 _ σ2 _ rfl rfl aJ aD cq ck (by rintro ⟨_,_,h⟩;exact h) bX fun a2 w3 σ3 bb cy=>?_
  have aR:(w1.putObj l (.loop {rec .ready none with state:=.busy})).heap.size=w1.heap.size:=by simp [World.putObj]
  have a3:∀ b,T b→b<w1.heap.size:=fun b hb=>ea (aI b hb).2 aP.size
  have bz:w3.heap[l]? =some (.loop {rec .ready none with state:=.busy}):=(bb.aG l (by rw [aR];exact bk) fun h=>h.2 al).trans (World.putObj_heap_same bk)
  have aH:∀ b,T b→σ3.ow b=none∧¬σ3.I b:=fun b hb=>⟨(bb.ow b (by rw [aR];exact a3 b hb) fun h=>h.2 hb).trans (aO b hb).1,fun h=>(bb.dn b h).elim (aO b hb).2 fun h=>h.2 hb⟩
  have bD:∀ o,cZ C3 W σ1 (w3.putObj l o) σ3:=fun o=>
   ((cZ.wK (C:=C1) (W':=Wc C σ1) (fun _ h=>h.1) aP).trans (cZ.tV (C:=C3) b9 (aO l al).2)).trans ((cZ.wK (C:=C1) (W':=Wc C σ1) (fun _ h=>h.1) bb).trans (cZ.tV (C:=C3) b9 (aH l al).2))
  have cw:∀ o,aq C3 r1.2 a2 (w3.putObj l o) σ3:=fun o=>(aq.wK (C:=C1) (W':=Wc C σ1) (fun _ _ h=>(show Wc C σ1 _∧¬T _ from h).1) (fun b hb=>ca b (bS aP.size (by rw [←aR];exact bS bb.size hb))) cy).tV (aH l al).1 (aH l al).2
  have b6:∀ o,_∧_:=fun o=>aq.leave (bD o) (cw o) rfl
  have aT:∀ o,_∧_:=fun o=>V.called (b6 o).1 (b6 o).2
  have bt:∀ o b,T b→kl C3 σ3 b=none∧¬zj C3 (w3.putObj l o) σ3 b:=fun o b hb=>by
   refine ⟨?_,?_⟩
   ·unfold kl
    split
    ·rfl
    ·exact (aH b hb).1
   ·rintro (h | ⟨_,L,h,_⟩)
    ·exact (aH b hb).2 h
    ·rw [(aH b hb).1] at h;cases h
  have cb:∀ o b,T b→b≠l→(w3.putObj l o).heap[b]? =W.heap[b]? :=fun o b hb bp=>
   (World.putObj_heap_other bp).trans ((bb.aG b (by rw [aR];exact a3 b hb) fun h=>h.2 hb).trans ((World.putObj_heap_other bp).trans (aP.aG b (aI b hb).2 fun h=>h.2 hb)))
  have b1:∀ o,(w3.putObj l o).heap[D]? =some (.deferred (some [])):=fun o=>(cb o D aQ bO).trans hD
  have bw:∀ o,(w3.putObj l o).heap[l]? =some o:=fun o=>World.putObj_heap_same (u7.1 bz).1
  have cB:∀ o b,σ.I b→(w3.putObj l o).heap[b]? =W.heap[b]? :=fun o b hb=>(aT o).1.bP b (H.up b hb)
  obtain ⟨re,rs⟩:=r1
  cases re with
  | nrm=>
   simp only at ao
   have hr:(Instr.endRound l none).run C.P w3= .ok (.bool true) (w3.putObj l (.loop (rec .ready none))):=by
    have:=run_endRound (P:=C.P) none bz
    rw [U] at this ⊢
    exact this
   generalize bc:Obj.loop (rec .ready none)=o at hr
   refine ⟨_,_,hr,.inl ⟨rfl,⟨aQ,al,fun b hb=>⟨(aI b hb).1,ea (aI b hb).2 (aT o).1.size⟩,by rw [bw,bc],b1 o,rest,_,_,by rw [bd];simp,ao,(aT o).2,H.trans (aT o).1,fun b hb=>bt o b hb⟩,fun b hb=>?_,fun b hb=>cB o b hb,(aT o).1.size⟩⟩
   by_cases bp:b=l
   ·rw [bp,bw,hl,bc]
   ·exact cb o b hb bp
  | ret=>
   obtain rfl:=af ao
   have hr:(Instr.endRound l (some .ret)).run C.P w3= .ok (.bool false) (w3.putObj l (.loop (rec .done (some .ret)))):=by
    have:=run_endRound (P:=C.P) (some .ret) bz
    rw [U] at this ⊢
    exact this
   generalize bc:Obj.loop (rec .done (some .ret))=o at hr
   exact ⟨_,_,hr,.inr ⟨rfl,.ret,_,by rw [bw,bc],b1 o,(aT o).2,H.trans (aT o).1,bt o D aQ,bt o l al,.inl ⟨rfl,rfl⟩⟩⟩
  | ex id=>
   obtain rfl:=af ao
   have hr:(Instr.endRound l (some (.exit id))).run C.P w3= .ok (.bool false) (w3.putObj l (.loop (rec .done (some (.exit id))))):=by
    have:=run_endRound (P:=C.P) (some (.exit id)) bz
    rw [U] at this ⊢
    exact this
   generalize bc:Obj.loop (rec .done (some (.exit id)))=o at hr
   exact ⟨_,_,hr,.inr ⟨rfl,.exit id,_,by rw [bw,bc],b1 o,(aT o).2,H.trans (aT o).1,bt o D aQ,bt o l al,.inr ⟨id,rfl,rfl⟩⟩⟩
 ·
  rintro e W ⟨⟨v,rfl⟩,(⟨T,aQ,al,aI,hl,hD,rest,st1,σ1,bd,ao,V,H,aB⟩ | ⟨_,_,_,_,c,σ1,hl,hD,V,H,b5,bK,hx⟩)⟩
  ·have bi:rest=[]:=by
    have:=an List.length bd
    rw [eK] at this
    exact Fz.1 (by omega)
   subst bi
   obtain rfl:=af ao
   have hr:=run_endLoop (P:=C.P) hl (by rw [U];simp)
   rw [U] at hr
   refine ⟨none,_,hr,?_⟩
   have h3:=(V.tV (o:=.loop {rec .ready none with state:=.exhausted}) (aB l al).1 (aB l al).2)
   have b2:(W.putObj l (.loop {rec .ready none with state:=.exhausted})).heap[D]? =some (.deferred (some [])):=(World.putObj_heap_other bO).trans hD
   obtain ⟨h4,h5⟩:=h3.Sr (aB D aQ).1 (aB D aQ).2 bu b2
   rw [U] at h4 h5
   exact hQ _ _ _ ((H.trans (cZ.tV a9 (aB l al).2)).trans h5) h4
  ·have hr:=run_endLoop (P:=C.P) hl (by rw [U];simp)
   rw [U] at hr
   refine ⟨some c,_,hr,?_⟩
   have h3:=(V.tV (o:=.loop {rec .done (some c) with state:=.exhausted}) bK.1 bK.2)
   have b2:(W.putObj l (.loop {rec .done (some c) with state:=.exhausted})).heap[D]? =some (.deferred (some [])):=(World.putObj_heap_other bO).trans hD
   obtain ⟨h4,h5⟩:=h3.Sr b5.1 b5.2 bu b2
   rw [U] at h4 h5
   have hq:=hQ _ _ _ ((H.trans (cZ.tV a9 bK.2)).trans h5) h4
   rcases hx with ⟨h6,rfl⟩ | ⟨id,h6,rfl⟩
   ·rw [h6] at hq
    exact wpIn_ret hq
   ·rw [h6] at hq
    exact wpIn_exit hq
end
end Go.Proofs.YtkkkkondjclcnaaGreat.A
