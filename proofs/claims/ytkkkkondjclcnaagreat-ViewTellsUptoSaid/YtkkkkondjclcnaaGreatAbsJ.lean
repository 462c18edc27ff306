/- Code and functions: what the abstract run says of a function, a call of it does. -/
import Derived.Test.YtkkkkondjclcnaaGreatAbsQ
set_option linter.all false
namespace Go.Proofs.YtkkkkondjclcnaaGreat.A
open Go
variable [bJ]
variable {P:Program}{G:qv}{Ω:du}
theorem Xc(hΩ:iA P Ω){n:Nat}(ih:HZ P (exec G Ω n))(ihL:M3 P (exec G Ω n))(hRs:∀ k,k≤n→lX P (iM G (exec G Ω k))):HZ P (exec G Ω (n+1))∧M3 P (exec G Ω (n+1)):=by
  have hR:=hRs n (aS _)
  have hloop:M3 P (exec G Ω (n+1)):=by
   intro E ac st r c nt C a w σ Q hP hE hnt he hl hc hQ
   simp only [exec] at he
   obtain ⟨q,hq,he1⟩:=ah.1 he
   refine LW.round (ih E ac st q c nt C a w σ _ hP hE hnt hq hl hc fun a' w' σ' hs hc'=>?_)
   obtain ⟨qe,qs⟩:=q
   cases qe with
   | nrm=>exact ihL E ac qs r c nt C a' w' σ' Q hP hE hnt he1 hl hc' fun a'' w'' σ'' hs' hc''=>hQ a'' w'' σ'' (hs.trans hs') hc''
   | ex id=>
    obtain rfl:=aa he1
    exact hQ a' w' σ' hs hc'
   | ret=>
    obtain rfl:=aa he1
    exact hQ a' w' σ' hs hc'
  refine ⟨?_,hloop⟩
  intro E ac st r c nt C a w σ Q hP hE hnt he hl hc hQ
  cases ac with
  | sk=>
   obtain rfl:=aa he
   rcases OL hl with rfl | ⟨l,rfl⟩
   ·exact wp_skip (hQ a w σ (.refl _ _ _) hc)
   ·exact wp_label (hQ a w σ (.refl _ _ _) hc)
  | rg pre gs kf kb=>
   obtain ⟨id,ops,hcc,hl2⟩:=OM hl
   clear hl
   subst hcc
   have hl:=hl2
   simp only [exec] at he
   subst hP;subst hE
   obtain ⟨st1,h1,he1⟩:=ah.1 he
   obtain ⟨st2,h2,he2⟩:=ah.1 he1
   obtain rfl:=aa he2
   obtain ⟨σ1,hs1,hc1⟩:=hc.pre pre h1
   exact hc1.region hR hΩ hnt hl h2 fun a' w' σ' hs hc'=>hQ a' w' σ' (hs1.trans hs) (hc'.aP kf kb)
  | dg pre mks gs kf kb=>
   obtain ⟨id,ops,hcc,hl2⟩:=ON hl
   clear hl
   subst hcc
   have hl:=hl2
   simp only [exec] at he
   subst hP;subst hE
   obtain ⟨st1,h1,he1⟩:=ah.1 he
   split at he1
   ·rename_i hm
    obtain ⟨st2,h2,he2⟩:=ah.1 he1
    obtain rfl:=aa he2
    obtain ⟨σ1,hs1,hc1⟩:=hc.pre pre h1
    exact hc1.drawn hR hΩ hnt hl hm h2 fun a' w' σ' hs hc'=>hQ a' w' σ' (hs1.trans hs) (hc'.aP kf kb)
   ·cases he1
  | sq x y=>
   obtain ⟨c1,c2,hcc,hl2⟩:=OO hl
   clear hl
   subst hcc
   have hl:=hl2
   simp only [exec] at he
   obtain ⟨q,hq,he1⟩:=ah.1 he
   refine wp_seq (ih E x st q c1 nt C a w σ _ hP hE hnt hq hl.1 hc fun a' w' σ' hs hc'=>?_)
   obtain ⟨qe,qs⟩:=q
   cases qe with
   | nrm=>exact ih E y qs r c2 nt C a' w' σ' Q hP hE hnt he1 hl.2 hc' fun a'' w'' σ'' hs' hc''=>hQ a'' w'' σ'' (hs.trans hs') hc''
   | ex id=>
    obtain rfl:=aa he1
    exact hQ a' w' σ' hs hc'
   | ret=>
    obtain rfl:=aa he1
    exact hQ a' w' σ' hs hc'
  | ite cc x y=>
   obtain ⟨cd,c1,c2,hcc,hl2⟩:=M1 hl
   clear hl
   subst hcc
   have hl:=hl2
   simp only [exec] at he
   obtain ⟨z,hz,he1⟩:=ah.1 he
   have hzb:st.ev cc= .b z:=by
    cases hcc:st.ev cc<;>rw [hcc] at hz<;>simp [qu] at hz
    rw [hz]
   have hce:a.eval cd= .bool z:=by
    have:=hc.uG hl.1.1 (by rw [hzb];rfl)
    rw [hzb] at this
    exact this.vz
   refine wp_cond hce ?_
   cases z with
   | true=>exact ih E x st r c1 nt C a w σ Q hP hE hnt (by simpa using he1) hl.1.2 hc hQ
   | false=>exact ih E y st r c2 nt C a w σ Q hP hE hnt (by simpa using he1) hl.2 hc hQ
  | bl id x=>
   obtain ⟨c1,hcc,hl2⟩:=OP hl
   clear hl
   subst hcc
   have hl:=hl2
   simp only [exec] at he
   obtain ⟨q,hq,he1⟩:=ah.1 he
   refine wp_block (ih E x st q c1 nt C a w σ _ hP hE hnt hq hl hc fun a' w' σ' hs hc'=>?_)
   obtain ⟨qe,qs⟩:=q
   cases qe with
   | nrm=>
    obtain rfl:=aa he1
    exact hQ a' w' σ' hs hc'
   | ret=>
    obtain rfl:=aa he1
    exact hQ a' w' σ' hs hc'
   | ex id=>
    simp only [inBlock] at he1
    simp only [sG,Exit.inBlock]
    split at he1
    ·rename_i hid
     obtain rfl:=aa he1
     rw [ab hid]
     exact hQ a' w' σ' hs hc'
    ·rename_i hid
     obtain rfl:=aa he1
     rw [ad hid]
     exact hQ a' w' σ' hs hc'
  | lp x=>
   obtain ⟨c1,hcc,hl2⟩:=OQ hl
   clear hl
   subst hcc
   have hl:=hl2
   exact (hloop E x st r _ nt C a w σ Q hP hE hnt he hl hc hQ).loop
  | ex id=>
   obtain rfl:=OR hl
   obtain rfl:=aa he
   exact wp_exit (hQ a w σ (.refl _ _ _) hc)
  | kp kf kb x=>exact ih E x (st.aP kf kb) r c nt C a w σ Q hP hE hnt he (OT hl) (hc.aP kf kb) hQ
  | bad=>cases he
  | ru g' x y' b'=>
   obtain ⟨g,y,b,rfl,h1,h2,h3,h4,h5,h6⟩:=Xa hl
   simp only [exec] at he
   split at he
   ·cases he
   ·rename_i hro
    obtain ⟨ns,hit,he1⟩:=ah.1 he
    subst hE
    exact Ue hΩ hRs (aS _) hP (by simpa using hro) hnt h2 hit he1 h1 h3 h4 h5 h6 hc hQ
  | rt=>
   obtain rfl:=OS hl
   obtain rfl:=aa he
   exact wp_ret (hQ a w σ (.refl _ _ _) hc)
theorem Gi(hT:xx P G)(hΩ:∀ B:bJ,@iA B P Ω):∀ (n k:Nat),k≤n→∀ B:bJ,@HZ B P (exec G Ω k)∧@M3 B P (exec G Ω k)
 | 0,k,hk,B=>by
  obtain rfl:k=0:=by omega
  exact ⟨fun E ac st r c nt C a w σ Q _ _ _ he=>by simp [exec] at he,fun E ac st r c nt C a w σ Q _ _ _ he=>by simp [exec] at he⟩
 | n+1,k,hk,B=>by
  by_cases h:k≤n
  ·exact Gi hT hΩ n k h B
  ·obtain rfl:k=n+1:=by omega
   have ih:=Gi hT hΩ n
   exact @Xc B P G Ω (hΩ B) n (ih n (aS _) B).1 (ih n (aS _) B).2 fun k hk B'=>@yD B' P G _ hT (ih k hk B').1
theorem Et(hT:xx P G)(hΩ:∀ B:bJ,@iA B P Ω)(n:Nat)(B:bJ) : @HZ B P (exec G Ω n)∧@M3 B P (exec G Ω n):=Gi hT hΩ n n (aS _) B
theorem Xd(hT:xx P G)(hΩ:∀ B:bJ,@iA B P Ω):lj P (call G Ω):=by
 refine ⟨fun dp f ys hp x hp' he hyp=>?_,fun dp f ys hp cs hp' he hyp=>?_,fun dp f ys hp x hp' he hyp=>?_,fun dp f ys t es hp' t' es' he hyp=>?_⟩
 ·obtain ⟨n,hn⟩:=nr (G:=G) (Ω:=Ω) ⟨dp,false⟩ f ys hp _ he
  exact (yD hT (Et hT hΩ n _).1).ret dp f ys hp x hp' (hn n (aS _)) hyp
 ·obtain ⟨n,hn⟩:=nr (G:=G) (Ω:=Ω) ⟨dp,false⟩ f ys hp _ he
  exact (yD hT (Et hT hΩ n _).1).new dp f ys hp cs hp' (hn n (aS _)) hyp
 ·obtain ⟨n,hn⟩:=nr (G:=G) (Ω:=Ω) ⟨dp,true⟩ f ys hp _ he
  exact (yD hT (Et hT hΩ n _).1).ro dp f ys hp x hp' (hn n (aS _)) hyp
 ·obtain ⟨n,hn⟩:=nr (G:=G) (Ω:=Ω) ⟨dp,false⟩ f (ys++[.o t es]) (fun _=>none) _ he
  exact (yD hT (Et hT hΩ n _).1).mov dp f ys t es hp' t' es' (hn n (aS _)) hyp
end Go.Proofs.YtkkkkondjclcnaaGreat.A
