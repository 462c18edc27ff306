/- In a round of a range over a function: code without loops does what its run says there, too. -/
import Derived.Test.YtmfihcbafljcbaaAbsQ
import Derived.RangeFuncOwn
import Derived.RangeFuncCalls
import Derived.OrdersIn
import Derived.TacticsIn
set_option linter.unusedSectionVars false
set_option linter.unusedVariables false
set_option linter.unusedSimpArgs false
set_option linter.constructorNameAsVariable false
namespace Go.Proofs.Ytmfihcbafljcbaa.A
open Go
/-- the fence of a round, all else free. -/
abbrev FR (l : Nat) : Fence := Fence.wide.inRound l
theorem plainC_kp {c : Code} {kf kb : List Nat} {x : AC} (h : plainC c (.kp kf kb x) = true) : plainC c x = true := by
  cases c with
  | region id ops d => cases d <;> exact h
  | _ => exact h
section
variable {P : Program} {l n : Nat} {ops : Array Oper} {Q : Exit → Act → World → Prop}
theorem wpOper_in {o : Oper} {a : Act} {w : World} {K : Act → World → Prop} (hnd : noDef o = true) (h : o.wp P a w K Q) : o.wpIn (FR l) n P a w K Q := by
  refine ⟨fun _ _ => trivial, ?_⟩
  unfold Oper.wp at h
  rw [show (FR l).round = some l from rfl, Oper.semAt_some l a.eval o (fun c e => by unfold noDef at hnd; rw [e] at hnd; cases hnd)]
  generalize (Go.execOp a.eval o).run P w = r at h ⊢
  cases r with
  | ok x w' =>
    cases x with
    | value v => exact h
    | skip => exact h
    | defer d => exact h
    | enter f args => exact ⟨fun h => by simp [Fence.wide] at h, CallsIn.inRound l (callsIn_wide.2 h)⟩
    | row row args => exact ⟨fun h => by simp [Fence.wide] at h, fun c cs _ => let ⟨v, w', r, s⟩ := h c cs; ⟨v, w', r, stepsIn_wide.2 s⟩⟩
    | _ => exact h.elim
  | halt x w' =>
    cases x <;> exact h
theorem wpOps_in (hnd : ∀ o ∈ ops, noDef o = true) (hout : ¬ LetsOut Q) : ∀ (is : List Nat) (a : Act) (w : World), wpOps P ops Q is a w → wpOpsIn (FR l) n P ops Q is a w
  | [], a, w, h => h
  | i :: is, a, w, h => by
    simp only [wpOps, wpOpsIn] at h ⊢
    cases ho : ops[i]? with
    | none => rw [ho] at h; exact wpOps_in hnd hout is a w h
    | some o =>
      rw [ho] at h
      simp only at h ⊢
      split
      · rename_i hw
        rw [if_pos hw] at h
        rcases h with h | h
        · exact Oper.wpIn_mono (fun a w h => wpOps_in hnd hout is a w h) (wpOper_in (hnd o (Array.mem_of_getElem? ho)) h)
        · exact absurd h.2 hout
      · rename_i hw
        rw [if_neg hw] at h
        exact ⟨fun _ _ => trivial, wpOps_in hnd hout is _ w h⟩
theorem wpAny_in (hnd : ∀ o ∈ ops, noDef o = true) (hout : ¬ LetsOut Q) : ∀ (fuel : Nat) (listed : Array Bool) (a : Act) (w : World), wpAny P .any ops Q fuel listed a w → wpAnyIn (FR l) n P .any ops Q fuel listed a w
  | 0, _, _, _, h => h
  | fuel + 1, listed, a, w, h => by
    refine ⟨h.1, fun i hi => ?_⟩
    have h1 := h.2 i hi
    unfold wpOp at h1
    unfold wpOpIn
    cases ho : ops[i]? with
    | none => rw [ho] at h1; exact wpAny_in hnd hout fuel _ a w h1
    | some o =>
      rw [ho] at h1
      simp only at h1 ⊢
      split
      · rename_i hw
        rw [if_pos hw] at h1
        rcases h1 with h1 | h1
        · exact Oper.wpIn_mono (fun a w h => wpAny_in hnd hout fuel _ a w h) (wpOper_in (hnd o (Array.mem_of_getElem? ho)) h1)
        · exact absurd h1.2 hout
      · rename_i hw
        rw [if_neg hw] at h1
        exact ⟨fun _ _ => trivial, wpAny_in hnd hout fuel _ _ w h1⟩
theorem noOut_then {K : Act → World → Prop} (h : ¬ LetsOut Q) : ¬ LetsOut (Exit.then K Q) := h
theorem noOut_block {id : Nat} (h : ¬ LetsOut Q) : ¬ LetsOut (Exit.inBlock id Q) := h
end
variable [Base]
variable {P : Program} {G : Prg} {Ω : Orc}
/-- code without loops does in a round what its run says. -/
theorem round_ok (hΩ : OrcOK P Ω) (l m N : Nat) (hR : ∀ k, k ≤ N → RecAll P (callF G (exec G Ω k))) : ∀ (n : Nat), n ≤ N → ∀ (E : Env) (ac : AC) (st : St) (r : AExit × St) (c : Code) (nt : Nat) (C : Cx) (a : Act) (w : World) (σ : Sp) (Q : Exit → Act → World → Prop), C.P = P → C.E = E → nt ≤ C.nt →
    exec G Ω n E ac st = some r → lowC P nt c ac = true → plainC c ac = true → ¬ LetsOut Q → Conc C st a w σ →
    (∀ a' w' σ', Stp C w σ w' σ' → Conc C r.2 a' w' σ' → Q (exitOf r.1) a' w') → c.wpIn (FR l) m P Q a w
  | 0, _, E, ac, st, r, c, nt, C, a, w, σ, Q, _, _, _, he, _, _, _, _, _ => by simp [exec] at he
  | n + 1, hN, E, ac, st, r, c, nt, C, a, w, σ, Q, hP, hE, hnt, he, hl, hp, hout, hc, hQ => by
    have hR' := hR n (by omega)
    have ih := round_ok hΩ l m N hR n (by omega)
    cases ac with
    | sk =>
      obtain rfl := Option.some.inj he
      rcases lowC_sk hl with rfl | ⟨l, rfl⟩
      · exact wpIn_skip (hQ a w σ (.refl _ _ _) hc)
      · exact wpIn_label (hQ a w σ (.refl _ _ _) hc)
    | rg pre gs kf kb =>
      obtain ⟨id, ops, hcc, hl2⟩ := lowC_rg hl
      subst hcc
      simp only [exec] at he
      subst hP; subst hE
      obtain ⟨st1, h1, he1⟩ := Option.bind_eq_some_iff.1 he
      obtain ⟨st2, h2, he2⟩ := Option.bind_eq_some_iff.1 he1
      obtain rfl := Option.some.inj he2
      obtain ⟨σ1, hs1, hc1⟩ := hc.pre pre h1
      simp only [plainC] at hp
      refine wpIn_region ?_
      have := Conc.steps (ops := ops) (Q := Q) hR' hΩ hnt gs ops.toList 0 st1 st2 a w σ1 rfl hl2 hc1 h2 (fun a' w' σ' hs hc' => hQ a' w' σ' (hs1.trans hs) (hc'.keep kf kb))
      rw [Array.length_toList, ← List.range_eq_range'] at this
      exact wpOps_in (fun o ho => Array.all_eq_true_iff_forall_mem.1 hp o ho) hout _ _ _ this
    | dg pre mks gs kf kb =>
      obtain ⟨id, ops, hcc, hl2⟩ := lowC_dg hl
      subst hcc
      simp only [exec] at he
      subst hP; subst hE
      obtain ⟨st1, h1, he1⟩ := Option.bind_eq_some_iff.1 he
      split at he1
      · rename_i hm
        obtain ⟨st2, h2, he2⟩ := Option.bind_eq_some_iff.1 he1
        obtain rfl := Option.some.inj he2
        obtain ⟨σ1, hs1, hc1⟩ := hc.pre pre h1
        simp only [plainC] at hp
        obtain ⟨hfol, hany⟩ := hc1.drawnAny (Q := Q) hR' hΩ hnt hl2 hm h2 fun a' w' σ' hs hc' => hQ a' w' σ' (hs1.trans hs) (hc'.keep kf kb)
        exact wpIn_region_any hfol (wpAny_in (fun o ho => Array.all_eq_true_iff_forall_mem.1 hp o ho) hout _ _ _ _ hany)
      · cases he1
    | sq x y =>
      obtain ⟨c1, c2, hcc, hl2⟩ := lowC_sq hl
      subst hcc
      simp only [exec] at he
      simp only [plainC, Bool.and_eq_true] at hp
      obtain ⟨q, hq, he1⟩ := Option.bind_eq_some_iff.1 he
      refine wpIn_seq (ih E x st q c1 nt C a w σ _ hP hE hnt hq hl2.1 hp.1 (noOut_then hout) hc fun a' w' σ' hs hc' => ?_)
      obtain ⟨qe, qs⟩ := q
      cases qe with
      | nrm => exact ih E y qs r c2 nt C a' w' σ' Q hP hE hnt he1 hl2.2 hp.2 hout hc' fun a'' w'' σ'' hs' hc'' => hQ a'' w'' σ'' (hs.trans hs') hc''
      | ex id =>
        obtain rfl := Option.some.inj he1
        exact hQ a' w' σ' hs hc'
      | ret =>
        obtain rfl := Option.some.inj he1
        exact hQ a' w' σ' hs hc'
    | ite cc x y =>
      obtain ⟨cd, c1, c2, hcc, hl2⟩ := lowC_ite hl
      subst hcc
      simp only [exec] at he
      simp only [plainC, Bool.and_eq_true] at hp
      obtain ⟨z, hz, he1⟩ := Option.bind_eq_some_iff.1 he
      have hzb : st.ev cc = .b z := by
        cases hcc : st.ev cc <;> rw [hcc] at hz <;> simp [asB] at hz
        rw [hz]
      have hce : a.eval cd = .bool z := by
        have := hc.opd hl2.1.1 (by rw [hzb]; rfl)
        rw [hzb] at this
        exact this.b_inv
      refine wpIn_cond hce ?_
      cases z with
      | true => exact ih E x st r c1 nt C a w σ Q hP hE hnt (by simpa using he1) hl2.1.2 hp.1 hout hc hQ
      | false => exact ih E y st r c2 nt C a w σ Q hP hE hnt (by simpa using he1) hl2.2 hp.2 hout hc hQ
    | bl id x =>
      obtain ⟨c1, hcc, hl2⟩ := lowC_bl hl
      subst hcc
      simp only [exec] at he
      simp only [plainC] at hp
      obtain ⟨q, hq, he1⟩ := Option.bind_eq_some_iff.1 he
      refine wpIn_block (ih E x st q c1 nt C a w σ _ hP hE hnt hq hl2 hp (noOut_block hout) hc fun a' w' σ' hs hc' => ?_)
      obtain ⟨qe, qs⟩ := q
      cases qe with
      | nrm =>
        obtain rfl := Option.some.inj he1
        exact hQ a' w' σ' hs hc'
      | ret =>
        obtain rfl := Option.some.inj he1
        exact hQ a' w' σ' hs hc'
      | ex id =>
        simp only [inBlock] at he1
        simp only [exitOf, Exit.inBlock]
        split at he1
        · rename_i hid
          obtain rfl := Option.some.inj he1
          rw [if_pos hid]
          exact hQ a' w' σ' hs hc'
        · rename_i hid
          obtain rfl := Option.some.inj he1
          rw [if_neg hid]
          exact hQ a' w' σ' hs hc'
    | lp x =>
      obtain ⟨c1, hcc, hl2⟩ := lowC_lp hl
      subst hcc
      simp [plainC] at hp
    | ex id =>
      obtain rfl := lowC_ex hl
      obtain rfl := Option.some.inj he
      exact wpIn_exit (hQ a w σ (.refl _ _ _) hc)
    | kp kf kb x => exact ih E x (st.keep kf kb) r c nt C a w σ Q hP hE hnt he (lowC_kp hl) (plainC_kp hp) hout (hc.keep kf kb) hQ
    | bad => cases he
    | ru g x y b => cases c with
      | region id ops d => cases d <;> simp [plainC] at hp
      | _ => simp [plainC] at hp
    | rt =>
      obtain rfl := lowC_rt hl
      obtain rfl := Option.some.inj he
      exact wpIn_ret (hQ a w σ (.refl _ _ _) hc)
end Go.Proofs.Ytmfihcbafljcbaa.A
