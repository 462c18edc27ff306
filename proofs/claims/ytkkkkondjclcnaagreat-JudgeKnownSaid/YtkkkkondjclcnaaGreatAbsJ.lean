/- Code and functions: what the abstract run says of a function, a call of it does. -/
import Derived.Test.YtkkkkondjclcnaaGreatAbsQ
set_option linter.unusedSectionVars false
set_option linter.unusedVariables false
set_option linter.unusedSimpArgs false
set_option linter.constructorNameAsVariable false
namespace Go.Proofs.YtkkkkondjclcnaaGreat.A
open Go
variable [aY]
variable {P:Program}{G:oc}{Ω:cm}
theorem R2(hΩ:eX P Ω){n:Nat}(ih:D0 P (exec G Ω n))(ihL:IT P (exec G Ω n))(hRs:∀ k,k≤n→kz P (fP G (exec G Ω k))):D0 P (exec G Ω (n+1))∧IT P (exec G Ω (n+1)):=by
  have hR:=hRs n (Nat.le_refl _)
  have hloop:IT P (exec G Ω (n+1)):=by
   intro E ac st r c nt C a w σ Q hP hE hnt he hl hc hQ
   simp only [exec] at he
   obtain ⟨q,hq,he1⟩:=Option.bind_eq_some_iff.1 he
   refine LW.round (ih E ac st q c nt C a w σ _ hP hE hnt hq hl hc fun a' w' σ' hs hc'=>?_)
   obtain ⟨qe,qs⟩:=q
   cases qe with
   | nrm=>exact ihL E ac qs r c nt C a' w' σ' Q hP hE hnt he1 hl hc' fun a'' w'' σ'' hs' hc''=>hQ a'' w'' σ'' (hs.trans hs') hc''
   | ex id=>
    obtain rfl:=Option.some.inj he1
    exact hQ a' w' σ' hs hc'
   | ret=>
    obtain rfl:=Option.some.inj he1
    exact hQ a' w' σ' hs hc'
  refine ⟨?_,hloop⟩
  intro E ac st r c nt C a w σ Q hP hE hnt he hl hc hQ
  cases ac with
  | sk=>
   obtain rfl:=Option.some.inj he
   rcases KB hl with rfl | ⟨l,rfl⟩
   ·exact wp_skip (hQ a w σ (.refl _ _ _) hc)
   ·exact wp_label (hQ a w σ (.refl _ _ _) hc)
  | rg pre gs kf kb=>
   obtain ⟨id,ops,hcc,hl2⟩:=KC hl
   clear hl
   subst hcc
   have hl:=hl2
   simp only [exec] at he
   subst hP;subst hE
   obtain ⟨st1,h1,he1⟩:=Option.bind_eq_some_iff.1 he
   obtain ⟨st2,h2,he2⟩:=Option.bind_eq_some_iff.1 he1
   obtain rfl:=Option.some.inj he2
   obtain ⟨σ1,hs1,hc1⟩:=hc.pre pre h1
   exact hc1.region hR hΩ hnt hl h2 fun a' w' σ' hs hc'=>hQ a' w' σ' (hs1.trans hs) (hc'.aH kf kb)
  | dg pre mks gs kf kb=>
   obtain ⟨id,ops,hcc,hl2⟩:=KD hl
   clear hl
   subst hcc
   have hl:=hl2
   simp only [exec] at he
   subst hP;subst hE
   obtain ⟨st1,h1,he1⟩:=Option.bind_eq_some_iff.1 he
   split at he1
   ·rename_i hm
    obtain ⟨st2,h2,he2⟩:=Option.bind_eq_some_iff.1 he1
    obtain rfl:=Option.some.inj he2
    obtain ⟨σ1,hs1,hc1⟩:=hc.pre pre h1
    exact hc1.drawn hR hΩ hnt hl hm h2 fun a' w' σ' hs hc'=>hQ a' w' σ' (hs1.trans hs) (hc'.aH kf kb)
   ·cases he1
  | sq x y=>
   obtain ⟨c1,c2,hcc,hl2⟩:=KE hl
   clear hl
   subst hcc
   have hl:=hl2
   simp only [exec] at he
   obtain ⟨q,hq,he1⟩:=Option.bind_eq_some_iff.1 he
   refine wp_seq (ih E x st q c1 nt C a w σ _ hP hE hnt hq hl.1 hc fun a' w' σ' hs hc'=>?_)
   obtain ⟨qe,qs⟩:=q
   cases qe with
   | nrm=>exact ih E y qs r c2 nt C a' w' σ' Q hP hE hnt he1 hl.2 hc' fun a'' w'' σ'' hs' hc''=>hQ a'' w'' σ'' (hs.trans hs') hc''
   | ex id=>
    obtain rfl:=Option.some.inj he1
    exact hQ a' w' σ' hs hc'
   | ret=>
    obtain rfl:=Option.some.inj he1
    exact hQ a' w' σ' hs hc'
  | ite cc x y=>
   obtain ⟨cd,c1,c2,hcc,hl2⟩:=IS hl
   clear hl
   subst hcc
   have hl:=hl2
   simp only [exec] at he
   obtain ⟨z,hz,he1⟩:=Option.bind_eq_some_iff.1 he
   have hzb:st.ev cc= .b z:=by
    cases hcc:st.ev cc<;>rw [hcc] at hz<;>simp [pK] at hz
    rw [hz]
   have hce:a.eval cd= .bool z:=by
    have:=hc.su hl.1.1 (by rw [hzb];rfl)
    rw [hzb] at this
    exact this.rf
   refine wp_cond hce ?_
   cases z with
   | true=>exact ih E x st r c1 nt C a w σ Q hP hE hnt (by simpa using he1) hl.1.2 hc hQ
   | false=>exact ih E y st r c2 nt C a w σ Q hP hE hnt (by simpa using he1) hl.2 hc hQ
  | bl id x=>
   obtain ⟨c1,hcc,hl2⟩:=KF hl
   clear hl
   subst hcc
   have hl:=hl2
   simp only [exec] at he
   obtain ⟨q,hq,he1⟩:=Option.bind_eq_some_iff.1 he
   refine wp_block (ih E x st q c1 nt C a w σ _ hP hE hnt hq hl hc fun a' w' σ' hs hc'=>?_)
   obtain ⟨qe,qs⟩:=q
   cases qe with
   | nrm=>
    obtain rfl:=Option.some.inj he1
    exact hQ a' w' σ' hs hc'
   | ret=>
    obtain rfl:=Option.some.inj he1
    exact hQ a' w' σ' hs hc'
   | ex id=>
    simp only [inBlock] at he1
    simp only [qM,Exit.inBlock]
    split at he1
    ·rename_i hid
     obtain rfl:=Option.some.inj he1
     rw [if_pos hid]
     exact hQ a' w' σ' hs hc'
    ·rename_i hid
     obtain rfl:=Option.some.inj he1
     rw [if_neg hid]
     exact hQ a' w' σ' hs hc'
  | lp x=>
   obtain ⟨c1,hcc,hl2⟩:=KG hl
   clear hl
   subst hcc
   have hl:=hl2
   exact (hloop E x st r _ nt C a w σ Q hP hE hnt he hl hc hQ).loop
  | ex id=>
   obtain rfl:=KH hl
   obtain rfl:=Option.some.inj he
   exact wp_exit (hQ a w σ (.refl _ _ _) hc)
  | kp kf kb x=>exact ih E x (st.aH kf kb) r c nt C a w σ Q hP hE hnt he (KJ hl) (hc.aH kf kb) hQ
  | bad=>cases he
  | ru g' x y' b'=>
   obtain ⟨g,y,b,rfl,h1,h2,h3,h4,h5,h6⟩:=R0 hl
   simp only [exec] at he
   split at he
   ·cases he
   ·rename_i hro
    obtain ⟨ns,hit,he1⟩:=Option.bind_eq_some_iff.1 he
    subst hE
    exact P9 hΩ hRs (Nat.le_refl _) hP (by simpa using hro) hnt h2 hit he1 h1 h3 h4 h5 h6 hc hQ
  | rt=>
   obtain rfl:=KI hl
   obtain rfl:=Option.some.inj he
   exact wp_ret (hQ a w σ (.refl _ _ _) hc)
theorem CH(hT:u6 P G)(hΩ:∀ B:aY,@eX B P Ω):∀ (n k:Nat),k≤n→∀ B:aY,@D0 B P (exec G Ω k)∧@IT B P (exec G Ω k)
 | 0,k,hk,B=>by
  obtain rfl:k=0:=by omega
  exact ⟨fun E ac st r c nt C a w σ Q _ _ _ he=>by simp [exec] at he,fun E ac st r c nt C a w σ Q _ _ _ he=>by simp [exec] at he⟩
 | n+1,k,hk,B=>by
  by_cases h:k≤n
  ·exact CH hT hΩ n k h B
  ·obtain rfl:k=n+1:=by omega
   have ih:=CH hT hΩ n
   exact @R2 B P G Ω (hΩ B) n (ih n (Nat.le_refl _) B).1 (ih n (Nat.le_refl _) B).2 fun k hk B'=>@wm B' P G _ hT (ih k hk B').1
theorem Bw(hT:u6 P G)(hΩ:∀ B:aY,@eX B P Ω)(n:Nat)(B:aY) : @D0 B P (exec G Ω n)∧@IT B P (exec G Ω n):=CH hT hΩ n n (Nat.le_refl _) B
theorem KN(hT:u6 P G)(hΩ:∀ B:aY,@eX B P Ω):gN P (call G Ω):=by
 refine ⟨fun dp f ys hp x hp' he hyp=>?_,fun dp f ys hp cs hp' he hyp=>?_,fun dp f ys hp x hp' he hyp=>?_,fun dp f ys hp' i cs t m sz bs he hyp=>?_⟩
 ·obtain ⟨n,hn⟩:=jX (G:=G) (Ω:=Ω) ⟨dp,false⟩ f ys hp _ he
  exact (wm hT (Bw hT hΩ n _).1).ret dp f ys hp x hp' (hn n (Nat.le_refl _)) hyp
 ·obtain ⟨n,hn⟩:=jX (G:=G) (Ω:=Ω) ⟨dp,false⟩ f ys hp _ he
  exact (wm hT (Bw hT hΩ n _).1).new dp f ys hp cs hp' (hn n (Nat.le_refl _)) hyp
 ·obtain ⟨n,hn⟩:=jX (G:=G) (Ω:=Ω) ⟨dp,true⟩ f ys hp _ he
  exact (wm hT (Bw hT hΩ n _).1).ro dp f ys hp x hp' (hn n (Nat.le_refl _)) hyp
 ·obtain ⟨n,hn⟩:=jX (G:=G) (Ω:=Ω) ⟨dp,false⟩ f ys (fun _=>none) _ he
  exact (wm hT (Bw hT hΩ n _).1).iq dp f ys hp' i cs t m sz bs (hn n (Nat.le_refl _)) hyp
end Go.Proofs.YtkkkkondjclcnaaGreat.A
