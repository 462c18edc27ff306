/- Code and functions: what the abstract run says of a function, a call of it does. -/
import Derived.Test.YtogbakbmphadfaaGreatDoorAbsM
set_option linter.unusedSectionVars false
set_option linter.unusedVariables false
set_option linter.unusedSimpArgs false
set_option linter.constructorNameAsVariable false
namespace Go.Proofs.YtogbakbmphadfaaGreatDoor.A
open Go
variable [bJ]
def cq(P:Program)(nt:Nat):Code→AC→Bool
 | .skip,.sk=>true
 | .label _,.sk=>true
 | .region _ ops false,.rg _ gs _ _=>ui P nt ops ops.toList gs
 | .region _ ops true,.dg _ mks gs _ _=>EJ P nt ops mks gs
 | .seq a b,.sq x y=>cq P nt a x&&cq P nt b y
 | .cond c a b,.ite c' x y=>aR c c'&&cq P nt a x&&cq P nt b y
 | .block id b,.bl id' x=>id==id'&&cq P nt b x
 | .loop b,.lp x=>cq P nt b x
 | .exit id,.ex id'=>id==id'
 | .ret,.rt=>true
 | c,.kp _ _ x=>cq P nt c x
 | _,.bad=>true
 | _,_=>false
def vA:aK→Exit
 | .nrm=>.normal
 | .ex id=>.exit id
 | .ret=>.ret
def aS(P:Program)(f:FuncId)(fn':bg):Bool:=
 match P.funcs[f]? with
 | some fn=>match fn.body with
  | some c=>!(fn.name== "runtime.NumGoroutine")&&cq P fn.ntmps c fn'.code&&fE P fn.results.toList fn'.res
  | none=>false
 | none=>false
def wA(P:Program)(G:qn):Prop:=∀ f fn',G f=some fn'→aS P f fn'=true
theorem Np{P:Program}{nt:Nat}{c:Code}(h:cq P nt c .sk=true):c= .skip∨∃ l,c= .label l:=by
 cases c with
 | region id ops dr=>cases dr<;>simp [cq] at h
 | skip=>exact .inl rfl
 | label l=>exact .inr ⟨l,rfl⟩
 | _=>simp [cq] at h
theorem Nq{P:Program}{nt:Nat}{c:Code}{pre:List tN}{gs:List cL}{kf kb:List Nat}(h:cq P nt c (.rg pre gs kf kb)=true):∃ id ops,c= .region id ops false∧ui P nt ops ops.toList gs=true:=by
 cases c with
 | region id ops dr=>cases dr<;>simp [cq] at h;exact ⟨id,ops,rfl,h⟩
 | _=>simp [cq] at h
theorem Nr{P:Program}{nt:Nat}{c:Code}{pre:List tN}{mks:List Nat}{gs:List bI}{kf kb:List Nat}(h:cq P nt c (.dg pre mks gs kf kb)=true):∃ id ops,c= .region id ops true∧EJ P nt ops mks gs=true:=by
 cases c with
 | region id ops dr=>
  cases dr with
  | false=>simp [cq] at h
  | true=>exact ⟨id,ops,rfl,by simpa only [cq] using h⟩
 | _=>simp [cq] at h
theorem Ns{P:Program}{nt:Nat}{c:Code}{x y:AC}(h:cq P nt c (.sq x y)=true):∃ c1 c2,c= .seq c1 c2∧cq P nt c1 x=true∧cq P nt c2 y=true:=by
 cases c with
 | region id ops dr=>cases dr<;>simp [cq] at h
 | seq c1 c2=>exact ⟨c1,c2,rfl,by simpa [cq] using h⟩
 | _=>simp [cq] at h
theorem Lm{P:Program}{nt:Nat}{c:Code}{z:aP}{x y:AC}(h:cq P nt c (.ite z x y)=true):∃ cd c1 c2,c= .cond cd c1 c2∧(aR cd z=true∧cq P nt c1 x=true)∧cq P nt c2 y=true:=by
 cases c with
 | region id ops dr=>cases dr<;>simp [cq] at h
 | cond cd c1 c2=>exact ⟨cd,c1,c2,rfl,by simpa [cq] using h⟩
 | _=>simp [cq] at h
theorem Nt{P:Program}{nt:Nat}{c:Code}{id:Nat}{x:AC}(h:cq P nt c (.bl id x)=true):∃ c1,c= .block id c1∧cq P nt c1 x=true:=by
 cases c with
 | region id ops dr=>cases dr<;>simp [cq] at h
 | block id' c1=>
  obtain ⟨rfl,h2⟩:id'=id∧cq P nt c1 x=true:=by simpa [cq] using h
  exact ⟨c1,rfl,h2⟩
 | _=>simp [cq] at h
theorem Nu{P:Program}{nt:Nat}{c:Code}{x:AC}(h:cq P nt c (.lp x)=true):∃ c1,c= .loop c1∧cq P nt c1 x=true:=by
 cases c with
 | region id ops dr=>cases dr<;>simp [cq] at h
 | loop c1=>exact ⟨c1,rfl,by simpa [cq] using h⟩
 | _=>simp [cq] at h
theorem Nv{P:Program}{nt:Nat}{c:Code}{id:Nat}(h:cq P nt c (.ex id)=true):c= .exit id:=by
 cases c with
 | region id ops dr=>cases dr<;>simp [cq] at h
 | exit id'=>rw [show id'=id by simpa [cq] using h]
 | _=>simp [cq] at h
theorem Nw{P:Program}{nt:Nat}{c:Code}(h:cq P nt c .rt=true):c= .ret:=by
 cases c with
 | region id ops dr=>cases dr<;>simp [cq] at h
 | ret=>rfl
 | _=>simp [cq] at h
theorem Nx{P:Program}{nt:Nat}{c:Code}{kf kb:List Nat}{x:AC}(h:cq P nt c (.kp kf kb x)=true):cq P nt c x=true:=by
 cases c with
 | region id ops dr=>cases dr<;>simpa only [cq] using h
 | _=>simpa only [cq] using h
def LW(P:Program)(c:Code)(Q:Exit→Act→World→Prop)(a:Act)(w:World):Prop:=
 ∀ (b:Frame)(k:List Item)(cs:List Frame),∃ e a' w',Q e a' w'∧Arrives P (lone (b.at a (.code c::.inLoop c::k)) cs w) b k cs e a' w'
theorem LW.loop{P:Program}{c:Code}{Q:Exit→Act→World→Prop}{a:Act}{w:World}(h:LW P c Q a w):(Code.loop c).wp P Q a w:=by
 intro b k cs
 obtain ⟨e,a',w',hq,harr⟩:=h b k cs
 exact ⟨e,a',w',hq,.of_steps (.one step_loop) harr⟩
theorem LW.round{P:Program}{c:Code}{Q:Exit→Act→World→Prop}{a:Act}{w:World}(h:c.wp P (Exit.then (LW P c Q) Q) a w):LW P c Q a w:=by
 intro b k cs
 obtain ⟨e,a₁,w₁,hq,harr⟩:=h b (.inLoop c::k) cs
 cases e with
 | normal=>
  obtain ⟨e₂,a₂,w₂,hq₂,harr₂⟩:=hq b k cs
  exact ⟨e₂,a₂,w₂,hq₂,.of_steps (Steps.trans harr (.one step_inLoop)) harr₂⟩
 | exit id=>exact ⟨_,a₁,w₁,hq,.pass (x:=.inLoop c) rfl (fun _ _=>.inl (by simp)) harr⟩
 | goto l=>exact ⟨_,a₁,w₁,hq,.pass (x:=.inLoop c) rfl (fun _ _=>.inl (by simp)) harr⟩
 | ret=>exact ⟨_,a₁,w₁,hq,.pass (x:=.inLoop c) rfl (fun _ _=>.inl (by simp)) harr⟩
 | panic ch=>exact ⟨_,a₁,w₁,hq,.pass (x:=.inLoop c) rfl (fun _ _=>.inl (by simp)) harr⟩
 | outgrown=>exact ⟨_,a₁,w₁,hq,.pass (x:=.inLoop c) rfl (fun _ _=>.inl (by simp)) harr⟩
def GB(P:Program)(X:Ac):Prop:=∀ (E:Env)(ac:AC)(st:St)(r:aK×St)(c:Code)(nt:Nat)(C:Cx)(a:Act)(w:World)(σ:Sp)(Q:Exit→Act→World→Prop),C.P=P→C.E=E→nt≤C.nt→X E ac st=some r→cq P nt c ac=true→ah C st a w σ→
 (∀ a' w' σ',dA C w σ w' σ'→ah C r.2 a' w' σ'→Q (vA r.1) a' w')→c.wp P Q a w
def IS(P:Program)(X:Ac):Prop:=∀ (E:Env)(ac:AC)(st:St)(r:aK×St)(c:Code)(nt:Nat)(C:Cx)(a:Act)(w:World)(σ:Sp)(Q:Exit→Act→World→Prop),C.P=P→C.E=E→nt≤C.nt→X E (.lp ac) st=some r→cq P nt c ac=true→ah C st a w σ→
 (∀ a' w' σ',dA C w σ w' σ'→ah C r.2 a' w' σ'→Q (vA r.1) a' w')→LW P c Q a w
theorem so:∀ (args:List AV)(i d:Nat),an (kN i args) d=if i≤d then (args[d - i]?).getD .u else .u
 | [],i,d=>by simp [kN,an]
 | x::xs,i,d=>by
  simp only [kN,an,so xs (i+1) d]
  by_cases h:i=d
  ·subst h;simp
  ·rw [if_neg h]
   by_cases h2:i≤d
   ·rw [if_pos (by omega),if_pos h2]
    rw [show d - i=(d - (i+1))+1 by omega,List.getElem?_cons_succ]
   ·rw [if_neg (by omega),if_neg h2]
variable {P:Program}{G:qn}{Ω:cI}
theorem gO.cx{C C':Cx}{w:World}{σ:Sp}{k:Key}{cs:List AV}{vs:Array Value}{T:TypeId}(h:gO C w σ k cs vs T)(hP:C'.P=C.P)(hW:C'.W=C.W)(hE:C'.E=C.E):gO C' w σ k cs vs T:=by
 refine ⟨h.hh,h.size,h.ow,fun hm=>by rw [hW];exact h.wr (by rw [←hE];exact hm),h.one,fun off c hc=>?_,h.ty⟩
 have:=h.cell off c hc
 unfold CR at this ⊢
 rw [hP,hW,hE]
 exact this
noncomputable def qh(C:Cx)(σ:Sp):Nat→Option dz:=fun b=>open Classical in if C.W b∧∃ l,σ.ow b=some l∧l.dep=C.E.dp then none else σ.ow b
theorem yC{E:Env}{st:St}{rs:List RV}{x:AV}(h:st.end_ E rs=some (.ret x)):st.result E rs=some x:=by
 unfold St.end_ at h
 split at h
 ·rename_i y hy
  have:aZ.ret y= .ret x:=Option.some.inj h
  cases this;exact hy
 ·obtain ⟨cs,_,h2⟩:=Option.map_eq_some_iff.1 h
  cases h2
theorem HQ{E:Env}{st:St}{rs:List RV}{cs:List AV}(h:st.end_ E rs=some (.new cs)):st.yg E rs=some cs:=by
 unfold St.end_ at h
 split at h
 ·cases Option.some.inj h
 ·obtain ⟨cs',h1,h2⟩:=Option.map_eq_some_iff.1 h
  cases h2;exact h1
theorem JZ{E:Env}{st:St}{rs:List RV}{cs:List AV}(h:st.yg E rs=some cs):∃ n k,rs=[.t n]∧an st.fr n= .p k 0∧k.dp=E.dp∧az st.bx k.d=some cs∧cs.all su=true:=by
 unfold St.yg at h
 split at h
 ·rename_i n
  split at h
  ·rename_i k hk
   split at h
   ·rename_i hd
    obtain ⟨cs',h1,h2⟩:=Option.bind_eq_some_iff.1 h
    split at h2
    ·rename_i hc
     obtain rfl:=Option.some.inj h2
     exact ⟨n,k,rfl,hk,hd,h1,hc⟩
    ·cases h2
   ·cases h
  ·cases h
 ·cases h
theorem J0{X:Ac}(hT:wA P G)(hX:GB P X):∀ dp f ys hp x hp',ic G X ⟨dp,false⟩ f ys hp=some (.ret x,hp')→(∀ y∈ys,y.copy=true)→sB P dp f ys hp x hp':=by
 intro dp f ys hp x hp' he hyc
 obtain ⟨fn',hG,he1⟩:=Option.bind_eq_some_iff.1 he
 obtain ⟨r,hr,he2⟩:=Option.bind_eq_some_iff.1 he1
 have hlow:=hT f fn' hG
 unfold aS at hlow
 split at hlow
 ·rename_i fn hf
  split at hlow
  ·rename_i c hb
   simp only [Bool.and_eq_true,Bool.not_eq_true'] at hlow
   obtain ⟨⟨hname,hcode⟩,hres⟩:=hlow
   have hcase:∃ e,vA r.1=e∧(e= .normal∨e= .ret)∧(r.2.result ⟨dp,false⟩ fn'.res)=some x∧r.2.hp=hp':=by
    cases hr1:r.1 with
    | ex id=>rw [hr1] at he2;cases he2
    | nrm=>
     rw [hr1] at he2
     obtain ⟨q,hq,he3⟩:=Option.bind_eq_some_iff.1 he2
     have h1:q= .ret x:=congrArg Prod.fst (Option.some.inj he3)
     exact ⟨_,rfl,.inl rfl,yC (h1▸hq),congrArg Prod.snd (Option.some.inj he3)⟩
    | ret=>
     rw [hr1] at he2
     obtain ⟨q,hq,he3⟩:=Option.bind_eq_some_iff.1 he2
     have h1:q= .ret x:=congrArg Prod.fst (Option.some.inj he3)
     exact ⟨_,rfl,.inr rfl,yC (h1▸hq),congrArg Prod.snd (Option.some.inj he3)⟩
   obtain ⟨e,hee,hen,hq,hhp⟩:=hcase
   have hpure:x.pure=true:=by
    obtain ⟨xs,_,h2⟩:=Option.bind_eq_some_iff.1 hq
    split at h2
    ·rename_i hp
     obtain rfl:=Option.some.inj h2
     match xs,hp with
     | [],_=>rfl
     | [y],hp=>simpa [Hq,AV.b7] using hp
     | y::z::ys,hp=>exact hp
    ·cases h2
   refine ⟨hpure,⟨fn,hf,by rw [hb];rfl,hname⟩,fun W w σ cargs hnew hH hsz hargs=>?_⟩
   refine calls_of_wp hf hb ?_
   let C:Cx:=⟨P,W,⟨dp,false⟩,cargs.size+(fn.ntmps - cargs.size)⟩
   have hc:ah C ⟨kN 0 ys,[],hp⟩ {tmps:=cargs++Array.replicate (fn.ntmps - cargs.size) undef,defers:=[]} w σ:=by
    refine ⟨by simp [C],rfl,fun d=>?_,fun k cs hk=>?_,fun k cs hne hk=>hH.deep k cs hk hne,hH.own,hH.bG,hnew,hH.lay⟩
    ·rw [so]
     simp only [Nat.zero_le,if_true,Nat.sub_zero]
     cases hd:ys[d]? with
     | none=>exact VR.u _
     | some y=>
      have hlt:=bc hd
      have hy:=hargs d y hd
      have e:(cargs++Array.replicate (fn.ntmps - cargs.size) undef).getD d undef=cargs.getD d undef:=by
       rw [Array.getD_eq_getD_getElem?,Array.getElem?_append,if_pos (by omega),Array.getD_eq_getD_getElem?]
      show SR C w σ _ _ d y _
      rw [e]
      exact gP hy
    ·simp only [St.box] at hk
     split at hk
     ·simp [az] at hk
     ·rename_i hne
      obtain ⟨vs,T,hB⟩:=hH.bx k cs hk (hH.deep k cs hk hne).1
      exact ⟨vs,T,hB.cx rfl rfl rfl⟩
   refine hX ⟨dp,false⟩ fn'.code ⟨kN 0 ys,[],hp⟩ r c fn.ntmps C _ w σ _ rfl rfl (by simp [C];omega) hr hcode hc fun a' w' σ' hst hc'=>?_
   obtain ⟨v,hrun,hv⟩:=hc'.result hres hq
   have hend:∀ b l,σ'.ow b=some l→l.dep≠dp→qh C σ' b=some l:=by
    intro b l hb hne
    unfold qh
    rw [if_neg,hb]
    rintro ⟨_,l',h1,h2⟩
    rw [hb] at h1
    obtain rfl:=Option.some.inj h1
    exact hne h2
   have hpost:bodyPost P fn (fun e w'=>∃ v σ',e= .returned v∧VR w' σ'.I σ'.κ x v∧dA (tv P W dp) w σ w' σ'∧wj P W dp hp' w' σ') .ret a' w':=by
    refine ⟨hc'.defers,v,hrun,v,⟨σ'.κ,qh C σ',wq C w' σ'⟩,rfl,hv,⟨hst.size,hst.bw,fun b hb=>.inl (hst.up b hb),hst.bG,fun b hb=>hb.elim (fun h=>hst.dn b h) fun h=>.inr h.1,hst.kap,fun b hb hW=>?_,hst.io⟩,⟨fun k cs hk hlt=>?_,fun k cs hk hne=>?_,fun b l hb=>?_,fun b hb=>?_,hc'.lay.bw (fun _ h=>.inl h) fun _ _=>rfl⟩⟩
    ·show qh C σ' b=_
     unfold qh
     rw [if_neg fun h=>hW h.1]
     exact hst.ow b hb hW
    ·rw [←hhp] at hk
     obtain ⟨vs,T,hB⟩:=hc'.bx k cs (by simp only [St.box,C,if_neg (show ¬k.dp=dp by omega)];exact hk)
     exact ⟨vs,T,hB.xT rfl rfl (fun b l hb hor=>hend b l hb (by rcases hor with rfl | ⟨_,rfl⟩<;>simp only [dz.dep]<;>omega)) (fun _ h=>.inl h) rfl (fun _ _ _ _ h=>h) (fun _ _ _ _=>rfl) fun c hcm=>mq ((hc'.hpd k cs (by simp only [C];omega) hk).2 c hcm)⟩
    ·rw [←hhp] at hk
     exact hc'.hpd k cs hne hk
    ·have:qh C σ' b=some l:=hb
     unfold qh at this
     split at this
     ·cases this
     ·exact hc'.own b l this
    ·rcases hb with hb | ⟨h1,l,h2,h3⟩
     ·obtain ⟨h4,h5⟩:=hc'.bG b hb
      refine ⟨h4,?_⟩
      show qh C σ' b=none
      unfold qh
      split
      ·rfl
      ·exact h5
     ·refine ⟨hc'.own b l h2,?_⟩
      show qh C σ' b=none
      unfold qh
      rw [if_pos ⟨h1,l,h2,h3⟩]
   rw [hee]
   rcases hen with rfl | rfl
   ·exact hpost
   ·exact hpost
  ·cases hlow
 ·cases hlow
theorem Ln{X:Ac}(hT:wA P G)(hX:GB P X):∀ dp f ys hp x hp',ic G X ⟨dp,true⟩ f ys hp=some (.ret x,hp')→(∀ y∈ys,y.copy=true)→Db P dp f ys hp x:=by
 intro dp f ys hp x hp' he hyc
 obtain ⟨fn',hG,he1⟩:=Option.bind_eq_some_iff.1 he
 obtain ⟨r,hr,he2⟩:=Option.bind_eq_some_iff.1 he1
 have hlow:=hT f fn' hG
 unfold aS at hlow
 split at hlow
 ·rename_i fn hf
  split at hlow
  ·rename_i c hb
   simp only [Bool.and_eq_true,Bool.not_eq_true'] at hlow
   obtain ⟨⟨hname,hcode⟩,hres⟩:=hlow
   have hcase:∃ e,vA r.1=e∧(e= .normal∨e= .ret)∧(r.2.result ⟨dp,true⟩ fn'.res)=some x∧r.2.hp=hp':=by
    cases hr1:r.1 with
    | ex id=>rw [hr1] at he2;cases he2
    | nrm=>
     rw [hr1] at he2
     obtain ⟨q,hq,he3⟩:=Option.bind_eq_some_iff.1 he2
     have h1:q= .ret x:=congrArg Prod.fst (Option.some.inj he3)
     exact ⟨_,rfl,.inl rfl,yC (h1▸hq),congrArg Prod.snd (Option.some.inj he3)⟩
    | ret=>
     rw [hr1] at he2
     obtain ⟨q,hq,he3⟩:=Option.bind_eq_some_iff.1 he2
     have h1:q= .ret x:=congrArg Prod.fst (Option.some.inj he3)
     exact ⟨_,rfl,.inr rfl,yC (h1▸hq),congrArg Prod.snd (Option.some.inj he3)⟩
   obtain ⟨e,hee,hen,hq,hhp⟩:=hcase
   have hpure:x.pure=true:=by
    obtain ⟨xs,_,h2⟩:=Option.bind_eq_some_iff.1 hq
    split at h2
    ·rename_i hp
     obtain rfl:=Option.some.inj h2
     match xs,hp with
     | [],_=>rfl
     | [y],hp=>simpa [Hq,AV.b7] using hp
     | y::z::ys,hp=>exact hp
    ·cases h2
   refine ⟨hpure,⟨fn,hf,by rw [hb];rfl,hname⟩,fun w σ cargs hn0 hH hsz hargs=>?_⟩
   refine calls_of_wp hf hb ?_
   let C:Cx:=⟨P,fun b=>w.heap.size≤b,⟨dp,true⟩,cargs.size+(fn.ntmps - cargs.size)⟩
   have hc:ah C ⟨kN 0 ys,[],hp⟩ {tmps:=cargs++Array.replicate (fn.ntmps - cargs.size) undef,defers:=[]} w σ:=by
    refine ⟨by simp [C],rfl,fun d=>?_,fun k cs hk=>?_,fun k cs hne hk=>hH.deep k cs hk hne,hH.own,hH.bG,fun b hb=>⟨hb,Nat.le_trans hn0 hb⟩,hH.lay⟩
    ·rw [so]
     simp only [Nat.zero_le,if_true,Nat.sub_zero]
     cases hd:ys[d]? with
     | none=>exact VR.u _
     | some y=>
      have hlt:=bc hd
      have hy:=hargs d y hd
      have e:(cargs++Array.replicate (fn.ntmps - cargs.size) undef).getD d undef=cargs.getD d undef:=by
       rw [Array.getD_eq_getD_getElem?,Array.getElem?_append,if_pos (by omega),Array.getD_eq_getD_getElem?]
      show SR C w σ _ _ d y _
      rw [e]
      exact gP hy
    ·simp only [St.box] at hk
     split at hk
     ·simp [az] at hk
     ·rename_i hne
      obtain ⟨vs,T,hB⟩:=hH.bx k cs hk (hH.deep k cs hk hne).1
      exact ⟨vs,T,hB.cx rfl rfl rfl⟩
   refine hX ⟨dp,true⟩ fn'.code ⟨kN 0 ys,[],hp⟩ r c fn.ntmps C _ w σ _ rfl rfl (by simp [C];omega) hr hcode hc fun a' w' σ' hst hc'=>?_
   obtain ⟨v,hrun,hv⟩:=hc'.result hres hq
   have hpost:bodyPost P fn (fun e w'=>∃ v I',e= .returned v∧VR w' I' σ.κ x v∧w.heap.size≤w'.heap.size∧(∀ b,b<w.heap.size→w'.heap[b]? =w.heap[b]?)∧(∀ b,σ.I b→I' b)∧(∀ b,I' b→σ.I b∨w.heap.size≤b)∧(∀ b,I' b→b<w'.heap.size)∧w'.os=w.os∧w'.output=w.output) .ret a' w':=by
    refine ⟨hc'.defers,v,hrun,v,wq C w' σ',rfl,hv.xS (fun _ h=>h) (fun _ _=>rfl) hpure,hst.size,fun b hb=>hst.bw b hb (show ¬w.heap.size≤b by omega),fun b hb=>.inl (hst.up b hb),fun b hb=>hb.elim (fun h=>hst.dn b h) fun h=>.inr h.1,fun b hb=>?_,hst.io⟩
    rcases hb with hb | ⟨h1,l,h2,h3⟩
    ·exact (hc'.bG b hb).1
    ·exact hc'.own b l h2
   rw [hee]
   rcases hen with rfl | rfl
   ·exact hpost
   ·exact hpost
  ·cases hlow
 ·cases hlow
theorem J1{X:Ac}(hT:wA P G)(hX:GB P X):∀ dp f ys hp cs hp',ic G X ⟨dp,false⟩ f ys hp=some (.new cs,hp')→(∀ y∈ys,y.copy=true)→Da P dp f ys hp cs hp':=by
 intro dp f ys hp ncs hp' he hyc
 obtain ⟨fn',hG,he1⟩:=Option.bind_eq_some_iff.1 he
 obtain ⟨r,hr,he2⟩:=Option.bind_eq_some_iff.1 he1
 have hlow:=hT f fn' hG
 unfold aS at hlow
 split at hlow
 ·rename_i fn hf
  split at hlow
  ·rename_i c hb
   simp only [Bool.and_eq_true,Bool.not_eq_true'] at hlow
   obtain ⟨⟨hname,hcode⟩,hres⟩:=hlow
   have hcase:∃ e,vA r.1=e∧(e= .normal∨e= .ret)∧(r.2.yg ⟨dp,false⟩ fn'.res)=some ncs∧r.2.hp=hp':=by
    cases hr1:r.1 with
    | ex id=>rw [hr1] at he2;cases he2
    | nrm=>
     rw [hr1] at he2
     obtain ⟨q,hq,he3⟩:=Option.bind_eq_some_iff.1 he2
     have h1:q= .new ncs:=congrArg Prod.fst (Option.some.inj he3)
     exact ⟨_,rfl,.inl rfl,HQ (h1▸hq),congrArg Prod.snd (Option.some.inj he3)⟩
    | ret=>
     rw [hr1] at he2
     obtain ⟨q,hq,he3⟩:=Option.bind_eq_some_iff.1 he2
     have h1:q= .new ncs:=congrArg Prod.fst (Option.some.inj he3)
     exact ⟨_,rfl,.inr rfl,HQ (h1▸hq),congrArg Prod.snd (Option.some.inj he3)⟩
   obtain ⟨e,hee,hen,hq,hhp⟩:=hcase
   obtain ⟨n,kk,hrs,hfk,hkd,hbk,hnew⟩:=JZ hq
   refine ⟨hnew,⟨fn,hf,by rw [hb];rfl,hname⟩,fun W w σ cargs hnew hH hsz hargs=>?_⟩
   refine calls_of_wp hf hb ?_
   let C:Cx:=⟨P,W,⟨dp,false⟩,cargs.size+(fn.ntmps - cargs.size)⟩
   have hc:ah C ⟨kN 0 ys,[],hp⟩ {tmps:=cargs++Array.replicate (fn.ntmps - cargs.size) undef,defers:=[]} w σ:=by
    refine ⟨by simp [C],rfl,fun d=>?_,fun k cs hk=>?_,fun k cs hne hk=>hH.deep k cs hk hne,hH.own,hH.bG,hnew,hH.lay⟩
    ·rw [so]
     simp only [Nat.zero_le,if_true,Nat.sub_zero]
     cases hd:ys[d]? with
     | none=>exact VR.u _
     | some y=>
      have hlt:=bc hd
      have hy:=hargs d y hd
      have e:(cargs++Array.replicate (fn.ntmps - cargs.size) undef).getD d undef=cargs.getD d undef:=by
       rw [Array.getD_eq_getD_getElem?,Array.getElem?_append,if_pos (by omega),Array.getD_eq_getD_getElem?]
      show SR C w σ _ _ d y _
      rw [e]
      exact gP hy
    ·simp only [St.box] at hk
     split at hk
     ·simp [az] at hk
     ·rename_i hne
      obtain ⟨vs,T,hB⟩:=hH.bx k cs hk (hH.deep k cs hk hne).1
      exact ⟨vs,T,hB.cx rfl rfl rfl⟩
   refine hX ⟨dp,false⟩ fn'.code ⟨kN 0 ys,[],hp⟩ r c fn.ntmps C _ w σ _ rfl rfl (by simp [C];omega) hr hcode hc fun a' w' σ' hst hc'=>?_
   rw [hrs] at hres
   obtain ⟨v,hrun,hv⟩:∃ v,(results fn a'.tmps).run P w'= .ok v w'∧v= .pointer (some ⟨σ'.κ kk,0,none⟩):=by
    have hfn:fn.results=#[.tmp n]:=by
     have:fn.results.toList=[.tmp n]:=by
      revert hres
      cases hq:fn.results.toList with
      | nil=>intro h;cases h
      | cons z zs=>
       cases z with
       | cell t ty=>intro h;simp [fE] at h
       | tmp t=>
        intro h
        cases zs with
        | nil=>simp [fE] at h;rw [h]
        | cons z2 zs2=>cases z2<;>simp [fE] at h
     rw [←Array.toArray_toList (xs:=fn.results),this]
    have hsl:=hc'.fr n
    rw [hfk] at hsl
    have hsl':VR w' σ'.I σ'.κ (.p kk 0) (a'.tmps.getD n undef):=hsl
    refine ⟨a'.tmps.getD n undef,?_,hsl'.il⟩
    have e:results fn a'.tmps=(fn.results.mapM (mr a'.tmps)) >>=fun vs=>pure (if h:vs.size=1 then vs[0] else .tuple vs):=by
     unfold results mr
     rfl
    rw [e,hfn,Sem.run_bind]
    have hm:((#[.tmp n]:Array ResultVar).mapM (mr a'.tmps)).run P w'= .ok #[a'.tmps.getD n undef] w':=by
     rw [Array.mapM_eq_mapM_toList]
     simp [mr]
    rw [hm]
    rfl
   obtain ⟨vs,T,hB⟩:=hc'.bx kk ncs (by simp only [St.box,C,hkd,if_true];exact hbk)
   have hpost:bodyPost P fn (fun e w'=>∃ σ' kk vs T,e= .returned (.pointer (some ⟨σ'.κ kk,0,none⟩))∧kk.dp=dp∧gO (tv P W dp) w' σ' kk ncs vs T∧dA (tv P W dp) w σ w' σ'∧wj P W dp hp' w' σ') .ret a' w':=by
    refine ⟨hc'.defers,v,hrun,σ',kk,vs,T,by rw [hv],hkd,hB.cx rfl rfl rfl,⟨hst.size,hst.bw,hst.up,hst.bG,hst.dn,hst.kap,hst.ow,hst.io⟩,⟨fun k cs hk hlt=>?_,fun k cs hk hne=>?_,hc'.own,hc'.bG,hc'.lay⟩⟩
    ·rw [←hhp] at hk
     obtain ⟨vs,T,hB⟩:=hc'.bx k cs (by simp only [St.box,C,if_neg (show ¬k.dp=dp by omega)];exact hk)
     exact ⟨vs,T,hB.cx rfl rfl rfl⟩
    ·rw [←hhp] at hk
     exact hc'.hpd k cs hne hk
   rw [hee]
   rcases hen with rfl | rfl
   ·exact hpost
   ·exact hpost
  ·cases hlow
 ·cases hlow
theorem wB{X:Ac}(hT:wA P G)(hX:GB P X):fV P (ic G X):=⟨J0 hT hX,J1 hT hX,Ln hT hX⟩
theorem Ny(hΩ:fe P Ω){n:Nat}(ih:GB P (exec G Ω n))(ihL:IS P (exec G Ω n))(hR:kB P (ic G (exec G Ω n))):GB P (exec G Ω (n+1))∧IS P (exec G Ω (n+1)):=by
  have hloop:IS P (exec G Ω (n+1)):=by
   intro E ac st r c nt C a w σ Q hP hE hnt he hl hc hQ
   simp only [exec] at he
   obtain ⟨q,hq,he1⟩:=Option.bind_eq_some_iff.1 he
   refine LW.round (ih E ac st q c nt C a w σ _ hP hE hnt hq hl hc fun a' w' σ' hs hc'=>?_)
   obtain ⟨qe,qs⟩:=q
   cases qe with
   | nrm=>exact ihL E ac qs r c nt C a' w' σ' Q hP hE hnt he1 hl hc' fun a'' w'' σ'' hs' hc''=>hQ a'' w'' σ'' (hs.trans hs') hc''
   | ex id=>
    obtain rfl:=Option.some.inj he1
    exact hQ a' w' σ' hs hc'
   | ret=>
    obtain rfl:=Option.some.inj he1
    exact hQ a' w' σ' hs hc'
  refine ⟨?_,hloop⟩
  intro E ac st r c nt C a w σ Q hP hE hnt he hl hc hQ
  cases ac with
  | sk=>
   obtain rfl:=Option.some.inj he
   rcases Np hl with rfl | ⟨l,rfl⟩
   ·exact wp_skip (hQ a w σ (.refl _ _ _) hc)
   ·exact wp_label (hQ a w σ (.refl _ _ _) hc)
  | rg pre gs kf kb=>
   obtain ⟨id,ops,hcc,hl2⟩:=Nq hl
   clear hl
   subst hcc
   have hl:=hl2
   simp only [exec] at he
   subst hP;subst hE
   obtain ⟨st1,h1,he1⟩:=Option.bind_eq_some_iff.1 he
   obtain ⟨st2,h2,he2⟩:=Option.bind_eq_some_iff.1 he1
   obtain rfl:=Option.some.inj he2
   obtain ⟨σ1,hs1,hc1⟩:=hc.pre pre h1
   exact hc1.region hR hΩ hnt hl h2 fun a' w' σ' hs hc'=>hQ a' w' σ' (hs1.trans hs) (hc'.bw kf kb)
  | dg pre mks gs kf kb=>
   obtain ⟨id,ops,hcc,hl2⟩:=Nr hl
   clear hl
   subst hcc
   have hl:=hl2
   simp only [exec] at he
   subst hP;subst hE
   obtain ⟨st1,h1,he1⟩:=Option.bind_eq_some_iff.1 he
   split at he1
   ·rename_i hm
    obtain ⟨st2,h2,he2⟩:=Option.bind_eq_some_iff.1 he1
    obtain rfl:=Option.some.inj he2
    obtain ⟨σ1,hs1,hc1⟩:=hc.pre pre h1
    exact hc1.drawn hR hΩ hnt hl hm h2 fun a' w' σ' hs hc'=>hQ a' w' σ' (hs1.trans hs) (hc'.bw kf kb)
   ·cases he1
  | sq x y=>
   obtain ⟨c1,c2,hcc,hl2⟩:=Ns hl
   clear hl
   subst hcc
   have hl:=hl2
   simp only [exec] at he
   obtain ⟨q,hq,he1⟩:=Option.bind_eq_some_iff.1 he
   refine wp_seq (ih E x st q c1 nt C a w σ _ hP hE hnt hq hl.1 hc fun a' w' σ' hs hc'=>?_)
   obtain ⟨qe,qs⟩:=q
   cases qe with
   | nrm=>exact ih E y qs r c2 nt C a' w' σ' Q hP hE hnt he1 hl.2 hc' fun a'' w'' σ'' hs' hc''=>hQ a'' w'' σ'' (hs.trans hs') hc''
   | ex id=>
    obtain rfl:=Option.some.inj he1
    exact hQ a' w' σ' hs hc'
   | ret=>
    obtain rfl:=Option.some.inj he1
    exact hQ a' w' σ' hs hc'
  | ite cc x y=>
   obtain ⟨cd,c1,c2,hcc,hl2⟩:=Lm hl
   clear hl
   subst hcc
   have hl:=hl2
   simp only [exec] at he
   obtain ⟨z,hz,he1⟩:=Option.bind_eq_some_iff.1 he
   have hzb:st.ev cc= .b z:=by
    cases hcc:st.ev cc<;>rw [hcc] at hz<;>simp [q7] at hz
    rw [hz]
   have hce:a.eval cd= .bool z:=by
    have:=hc.pn hl.1.1 (by rw [hzb];rfl)
    rw [hzb] at this
    exact this.ue
   refine wp_cond hce ?_
   cases z with
   | true=>exact ih E x st r c1 nt C a w σ Q hP hE hnt (by simpa using he1) hl.1.2 hc hQ
   | false=>exact ih E y st r c2 nt C a w σ Q hP hE hnt (by simpa using he1) hl.2 hc hQ
  | bl id x=>
   obtain ⟨c1,hcc,hl2⟩:=Nt hl
   clear hl
   subst hcc
   have hl:=hl2
   simp only [exec] at he
   obtain ⟨q,hq,he1⟩:=Option.bind_eq_some_iff.1 he
   refine wp_block (ih E x st q c1 nt C a w σ _ hP hE hnt hq hl hc fun a' w' σ' hs hc'=>?_)
   obtain ⟨qe,qs⟩:=q
   cases qe with
   | nrm=>
    obtain rfl:=Option.some.inj he1
    exact hQ a' w' σ' hs hc'
   | ret=>
    obtain rfl:=Option.some.inj he1
    exact hQ a' w' σ' hs hc'
   | ex id=>
    simp only [inBlock] at he1
    simp only [vA,Exit.inBlock]
    split at he1
    ·rename_i hid
     obtain rfl:=Option.some.inj he1
     rw [if_pos hid]
     exact hQ a' w' σ' hs hc'
    ·rename_i hid
     obtain rfl:=Option.some.inj he1
     rw [if_neg hid]
     exact hQ a' w' σ' hs hc'
  | lp x=>
   obtain ⟨c1,hcc,hl2⟩:=Nu hl
   clear hl
   subst hcc
   have hl:=hl2
   exact (hloop E x st r _ nt C a w σ Q hP hE hnt he hl hc hQ).loop
  | ex id=>
   obtain rfl:=Nv hl
   obtain rfl:=Option.some.inj he
   exact wp_exit (hQ a w σ (.refl _ _ _) hc)
  | kp kf kb x=>exact ih E x (st.bw kf kb) r c nt C a w σ Q hP hE hnt he (Nx hl) (hc.bw kf kb) hQ
  | bad=>cases he
  | rt=>
   obtain rfl:=Nw hl
   obtain rfl:=Option.some.inj he
   exact wp_ret (hQ a w σ (.refl _ _ _) hc)
theorem sD(hT:wA P G)(hΩ:∀ B:bJ,@fe B P Ω):∀ n (B:bJ),@GB B P (exec G Ω n)∧@IS B P (exec G Ω n)
 | 0,B=>⟨fun E ac st r c nt C a w σ Q _ _ _ he=>by simp [exec] at he,fun E ac st r c nt C a w σ Q _ _ _ he=>by simp [exec] at he⟩
 | n+1,B=>@Ny B P G Ω (hΩ B) n (sD hT hΩ n B).1 (sD hT hΩ n B).2 fun B'=>@wB B' P G _ hT (sD hT hΩ n B').1
theorem Nz(hT:wA P G)(hΩ:∀ B:bJ,@fe B P Ω):fV P (call G Ω):=by
 refine ⟨fun dp f ys hp x hp' he hyp=>?_,fun dp f ys hp cs hp' he hyp=>?_,fun dp f ys hp x hp' he hyp=>?_⟩
 ·obtain ⟨n,hn⟩:=iS (G:=G) (Ω:=Ω) ⟨dp,false⟩ f ys hp _ he
  exact (wB hT (sD hT hΩ n _).1).ret dp f ys hp x hp' (hn n (Nat.le_refl _)) hyp
 ·obtain ⟨n,hn⟩:=iS (G:=G) (Ω:=Ω) ⟨dp,false⟩ f ys hp _ he
  exact (wB hT (sD hT hΩ n _).1).new dp f ys hp cs hp' (hn n (Nat.le_refl _)) hyp
 ·obtain ⟨n,hn⟩:=iS (G:=G) (Ω:=Ω) ⟨dp,true⟩ f ys hp _ he
  exact (wB hT (sD hT hΩ n _).1).ro dp f ys hp x hp' (hn n (Nat.le_refl _)) hyp
end Go.Proofs.YtogbakbmphadfaaGreatDoor.A
