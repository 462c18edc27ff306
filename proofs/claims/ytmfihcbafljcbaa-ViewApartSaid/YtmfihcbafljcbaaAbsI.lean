/- What an operation sees: more in sight, the same result. -/
import Derived.Test.YtmfihcbafljcbaaAbsH
set_option linter.unusedSectionVars false
set_option linter.unusedVariables false
set_option linter.unusedSimpArgs false
set_option linter.constructorNameAsVariable false
namespace Go.Proofs.Ytmfihcbafljcbaa.A
open Go
variable [Base]
structure Le (dp : Nat) (v s : St) : Prop where
  fr : ∀ d, fget v.fr d = .u ∨ fget v.fr d = fget s.fr d
  bx : ∀ k cs, v.box dp k = some cs → s.box dp k = some cs
section
variable {E : Env} {v s : St} {R : Rec} {Ω : Orc} {d : Option Nat} {r : AV × St}
theorem Le.ev (h : Le E.dp v s) {x : Opd} {y : AV} (hx : v.ev x = y) (hy : y ≠ .u) : s.ev x = y := by
  cases x with
  | c z => exact hx
  | t n =>
    rcases h.fr n with e | e
    · exact absurd (hx.symm.trans e) hy
    · exact e.symm.trans hx
theorem Le.slot (h : Le E.dp v s) {n : Nat} {y : AV} (hx : fget v.fr n = y) (hy : y ≠ .u) : fget s.fr n = y := h.ev (x := .t n) hx hy
theorem Le.rowAt (h : Le E.dp v s) {pl : Pl} {q : TypeId × List AV} (hr : v.rowAt E.dp pl = some q) : s.rowAt E.dp pl = some q := by
  cases pl with
  | s n =>
    simp only [St.rowAt] at hr ⊢
    split at hr
    · rename_i t es hx
      rw [h.slot hx (by simp)]; exact hr
    · cases hr
  | c k off =>
    simp only [St.rowAt] at hr ⊢
    cases hb : v.box E.dp k with
    | none => simp [hb] at hr
    | some cs => rw [h.bx k cs hb]; rw [hb] at hr; exact hr
theorem Le.elems (h : Le E.dp v s) {y : AV} {q : TypeId × List AV} (hr : v.elems E.dp y = some q) : s.elems E.dp y = some q := by
  cases y with
  | r pl => exact h.rowAt hr
  | v pl lo len =>
    simp only [St.elems] at hr ⊢
    split at hr
    · rename_i t es hx
      rw [h.rowAt hx]; exact hr
    · cases hr
  | _ => exact hr
theorem Le.lend (h : Le E.dp v s) {y : AV} {q : AV × List TypeId} (hr : v.lend E.dp y = some q) : s.lend E.dp y = some q ∧ y ≠ .u := by
  cases y with
  | r pl =>
    obtain ⟨z, h1, h2⟩ := Option.bind_eq_some_iff.1 hr
    exact ⟨by simp only [St.lend, h.rowAt h1]; exact h2, by simp⟩
  | v pl lo len =>
    obtain ⟨z, h1, h2⟩ := Option.bind_eq_some_iff.1 hr
    exact ⟨by simp only [St.lend, h.rowAt h1]; exact h2, by simp⟩
  | u => simp [St.lend, AV.pure] at hr
  | sp k o n sz =>
    obtain ⟨cs, h1, h2⟩ := Option.bind_eq_some_iff.1 hr
    exact ⟨by simp only [St.lend, h.bx k cs h1]; exact h2, by simp⟩
  | _ => exact ⟨hr, by simp⟩
theorem Le.lendAll (h : Le E.dp v s) : ∀ {ys : List AV} {q : List AV × List TypeId}, v.lendAll E.dp ys = some q → s.lendAll E.dp ys = some q ∧ ∀ y ∈ ys, y ≠ .u
  | [], q, hr => ⟨hr, fun _ h => by cases h⟩
  | y :: ys, q, hr => by
    obtain ⟨z, h1, h2⟩ := Option.bind_eq_some_iff.1 hr
    obtain ⟨z2, h3, h4⟩ := Option.bind_eq_some_iff.1 h2
    obtain ⟨h5, h6⟩ := Le.lendAll h h3
    refine ⟨by simp only [St.lendAll, (h.lend h1).1, h5, Option.bind_some]; exact h4, fun w hw => ?_⟩
    rcases List.mem_cons.1 hw with rfl | hw
    · exact (h.lend h1).2
    · exact h6 w hw
theorem Le.map (h : Le E.dp v s) {xs : List Opd} (hx : ∀ x ∈ xs, v.ev x ≠ .u) : xs.map s.ev = xs.map v.ev := by
  apply List.map_congr_left
  intro x hm
  exact h.ev rfl (hx x hm)
theorem natOf_u {y : AV} {j : Nat} (h : natOf y = some j) : y ≠ .u := by intro e; subst e; cases h
theorem asB_u {y : AV} {j : Bool} (h : asB y = some j) : y ≠ .u := by intro e; subst e; cases h
theorem copy_u {y : AV} (h : y.copy = true) : y ≠ .u := by intro e; subst e; cases h
theorem pure_u {y : AV} (h : y.pure = true) : y ≠ .u := by intro e; subst e; cases h
theorem Le.nat (h : Le E.dp v s) {x : Opd} {j : Nat} (hx : natOf (v.ev x) = some j) : natOf (s.ev x) = some j := by rw [h.ev rfl (natOf_u hx)]; exact hx
theorem Le.asB (h : Le E.dp v s) {x : Opd} {j : Bool} (hx : asB (v.ev x) = some j) : asB (s.ev x) = some j := by rw [h.ev rfl (asB_u hx)]; exact hx
theorem Le.bnd (h : Le E.dp v s) {x : Option Opd} {n j : Nat} (hx : bndOf v x n = some j) : bndOf s x n = some j := by
  cases x with
  | none => exact hx
  | some x => exact h.nat hx
def qk : AOp → Bool
  | .cn _ _ => false
  | .c3 _ _ => false
  | .d3 _ _ => false
  | .cr _ _ _ => false
  | .c2 _ _ => false
  | .d2 _ _ => false
  | .as _ => false
  | .bx _ => false
  | .al _ => false
  | .st _ _ _ => false
  | .bs _ _ _ => false
  | .ms _ _ _ _ _ => false
  | .ap _ _ _ _ _ => false
  | .cw _ _ _ => false
  | .vi _ _ _ => false
  | .ch _ _ _ _ _ => false
  | .bz _ _ _ => false
  | .lz _ => false
  | .pe _ _ _ => false
  | .cp _ _ _ _ => false
  | .aq _ _ _ => false
  | .sb _ _ => false
  | .tx _ => false
  | .sz _ _ => false
  | .xw _ _ => false
  | .sw _ _ _ => false
  | .lw _ _ => false
  | .sp _ _ => false
  | _ => true
theorem doCall_mono' (h : Le E.dp v s) {m : Nat} {f : FuncId} {ys : List AV} (he : doCall R Ω E v m f ys = some r) : (r.2 = v ∧ doCall R Ω E s m f ys = some (r.1, s)) ∧ ∀ y ∈ ys, y ≠ .u := by
  unfold doCall at he ⊢
  split at he
  · obtain ⟨q, h1, h2⟩ := Option.bind_eq_some_iff.1 he
    obtain ⟨q2, h3, h4⟩ := Option.bind_eq_some_iff.1 h2
    obtain ⟨h5, h6⟩ := h.lendAll h1
    obtain ⟨e2, hp2⟩ := q2
    cases e2 with
    | new cs => cases h4
    | ret x => ?_
    simp only at h4
    split at h4
    · rename_i hc
      obtain rfl := Option.some.inj h4
      refine ⟨⟨rfl, ?_⟩, h6⟩
      simp only [h5, Option.bind_some, h3, hc, if_true]
    · cases h4
  · obtain ⟨q, h1, h2⟩ := Option.bind_eq_some_iff.1 he
    obtain ⟨q2, h3, h4⟩ := Option.bind_eq_some_iff.1 h2
    obtain ⟨h5, h6⟩ := h.lendAll h1
    split at h4
    · rename_i hc
      obtain rfl := Option.some.inj h4
      refine ⟨⟨rfl, ?_⟩, h6⟩
      simp only [h5, Option.bind_some, h3, hc, if_true]
    · cases h4
  · cases he
theorem monoQ {ao : AOp} (h : Le E.dp v s) (hq : qk ao = true) (hlt : lightOk v ao = true) (he : execOp R Ω E v d ao = some r) : r.2 = v ∧ execOp R Ω E s d ao = some (r.1, s) := by
  cases ao with
  | mv x =>
    have hu : v.ev x ≠ .u := by intro e; simp [lightOk, e, isU] at hlt
    have hx := h.ev rfl hu
    simp only [execOp, hx] at he ⊢
    cases hv : v.ev x <;> rw [hv] at he <;> simp only at he ⊢ <;> first | (obtain rfl := Option.some.inj he; exact ⟨by trivial, by trivial⟩) | skip
    cases x with
    | t n => obtain rfl := Option.some.inj he; exact ⟨by trivial, by trivial⟩
    | c z => cases he
  | pk c x y =>
    simp only [execOp] at he ⊢
    obtain ⟨z, hz, he1⟩ := Option.bind_eq_some_iff.1 he
    rw [h.asB hz, Option.bind_some]
    cases z with
    | true =>
      simp only [if_true] at he1 ⊢
      split at he1
      · rename_i hc
        rw [h.ev rfl (copy_u hc), if_pos hc]
        obtain rfl := Option.some.inj he1
        exact ⟨by trivial, by trivial⟩
      · cases he1
    | false =>
      simp only [Bool.false_eq_true, if_false] at he1 ⊢
      split at he1
      · rename_i hc
        rw [h.ev rfl (copy_u hc), if_pos hc]
        obtain rfl := Option.some.inj he1
        exact ⟨by trivial, by trivial⟩
      · cases he1
  | ld n x =>
    simp only [execOp] at he ⊢
    split at he
    · rename_i k off hx
      rw [h.ev hx (by simp)]
      obtain ⟨cs, hb, he1⟩ := Option.bind_eq_some_iff.1 he
      obtain ⟨y, hy, he2⟩ := Option.bind_eq_some_iff.1 he1
      simp only [h.bx k cs hb, Option.bind_some, hy]
      split at he2
      · obtain rfl := Option.some.inj he2; exact ⟨by trivial, by trivial⟩
      · split at he2
        · rename_i hc
          obtain rfl := Option.some.inj he2
          exact ⟨rfl, by rw [if_pos hc]⟩
        · cases he2
    · rename_i z off hx
      rw [h.ev hx (by simp)]
      obtain ⟨y, hy, he1⟩ := Option.bind_eq_some_iff.1 he
      obtain rfl := Option.some.inj he1
      simp only [hy, Option.bind_some]
      exact ⟨by trivial, by trivial⟩
    · rename_i pl i sz off hx
      rw [h.ev hx (by simp)]
      obtain ⟨q, hb, he1⟩ := Option.bind_eq_some_iff.1 he
      obtain ⟨e, hee, he2⟩ := Option.bind_eq_some_iff.1 he1
      simp only [h.rowAt hb, Option.bind_some, hee]
      split at he2
      · rename_i hn
        obtain ⟨y, hy, he3⟩ := Option.bind_eq_some_iff.1 he2
        obtain rfl := Option.some.inj he3
        simp only [if_pos hn, hy, Option.bind_some]
        exact ⟨by trivial, by trivial⟩
      · cases he2
    · cases he
  | lk n x y lv =>
    simp only [execOp] at he ⊢
    split at he
    · rename_i k off hx
      rw [h.ev hx (by simp)]
      split at he
      · rename_i hk
        have hk' : evKey E.dp s (s.ev y) lv = some k := by
          have hyu : v.ev y ≠ .u := by intro e; rw [e] at hk; cases hk
          rw [h.ev rfl hyu]
          generalize v.ev y = yy at hk
          cases yy <;> first | (simp [evKey] at hk; done) | skip
          rename_i k' off'
          cases lv with
          | false => exact hk
          | true =>
            simp only [evKey, if_true] at hk ⊢
            split at hk
            · rename_i k2 o2 hc
              obtain ⟨cs, hb, hcs⟩ := Option.bind_eq_some_iff.1 hc
              simp only [h.bx _ cs hb, Option.bind_some, hcs]
              exact hk
            · cases hk
        simp only [if_pos hk']
        obtain ⟨cs, hb, he1⟩ := Option.bind_eq_some_iff.1 he
        obtain ⟨y, hy, he2⟩ := Option.bind_eq_some_iff.1 he1
        simp only [h.bx k cs hb, Option.bind_some, hy]
        split at he2
        · obtain rfl := Option.some.inj he2; exact ⟨by trivial, by trivial⟩
        · split at he2
          · rename_i hc
            obtain rfl := Option.some.inj he2
            exact ⟨rfl, by rw [if_pos hc]⟩
          · cases he2
      · cases he
    · cases he
  | fa off x =>
    simp only [execOp] at he ⊢
    split at he
    · rename_i k o hx
      rw [h.ev hx (by simp)]
      obtain rfl := Option.some.inj he
      exact ⟨by trivial, by trivial⟩
    · rename_i k o hx
      rw [h.ev hx (by simp)]
      obtain rfl := Option.some.inj he
      exact ⟨by trivial, by trivial⟩
    · rename_i pl i sz o hx
      rw [h.ev hx (by simp)]
      obtain ⟨q, hb, he1⟩ := Option.bind_eq_some_iff.1 he
      simp only [h.rowAt hb, Option.bind_some]
      split at he1
      · rename_i hn
        obtain rfl := Option.some.inj he1
        exact ⟨rfl, by rw [if_pos hn]⟩
      · cases he1
    · cases he
  | fd n off x =>
    simp only [execOp] at he ⊢
    split at he
    · rename_i cs hx
      rw [h.ev hx (by simp)]
      obtain ⟨y, hy, he1⟩ := Option.bind_eq_some_iff.1 he
      obtain rfl := Option.some.inj he1
      simp only [hy, Option.bind_some]
      exact ⟨by trivial, by trivial⟩
    · cases he
  | ia sz arr x i =>
    simp only [execOp] at he ⊢
    obtain ⟨j, hj, he1⟩ := Option.bind_eq_some_iff.1 he
    rw [h.nat hj, Option.bind_some]
    have hel : ∀ {e : Option AV} {f : AV → AV}, elemAt sz v e f = some r → r.2 = v ∧ elemAt sz s e f = some (r.1, s) := by
      intro e f hh
      obtain ⟨z, h1, h2, rfl⟩ := elemAt_inv hh
      exact ⟨rfl, by simp [elemAt, h1, h2]⟩
    cases arr with
    | some len =>
      simp only at he1 ⊢
      split at he1
      · rename_i hlt
        rw [if_pos hlt]
        split at he1
        · rename_i k o hx
          rw [h.ev hx (by simp)]
          obtain rfl := Option.some.inj he1
          exact ⟨by trivial, by trivial⟩
        · rename_i k o hx
          rw [h.ev hx (by simp)]
          obtain rfl := Option.some.inj he1
          exact ⟨by trivial, by trivial⟩
        · cases he1
      · cases he1
    | none =>
      simp only at he1 ⊢
      split at he1
      · rename_i t es hx
        rw [h.ev hx (by simp)]
        exact hel he1
      · rename_i t es hx
        rw [h.ev hx (by simp)]
        cases x with
        | t m => exact hel he1
        | c z => cases he1
      · rename_i pl hx
        rw [h.ev hx (by simp)]
        obtain ⟨q, hb, he2⟩ := Option.bind_eq_some_iff.1 he1
        simp only [h.rowAt hb, Option.bind_some]
        exact hel he2
      · rename_i pl lo len hx
        rw [h.ev hx (by simp)]
        split at he1
        · rename_i hjl
          obtain ⟨q, hb, he2⟩ := Option.bind_eq_some_iff.1 he1
          simp only [if_pos hjl, h.rowAt hb, Option.bind_some]
          split at he2
          · rename_i hl
            rw [if_pos hl]
            exact hel he2
          · cases he2
        · cases he1
      · rename_i k o n s' hx
        rw [h.ev hx (by simp)]
        split at he1
        · rename_i hc
          obtain rfl := Option.some.inj he1
          exact ⟨rfl, by simp only [if_pos hc]⟩
        · cases he1
      · cases he1
  | ix x i =>
    simp only [execOp] at he ⊢
    split at he
    · rename_i l hx
      rw [h.ev hx (by simp)]
      obtain ⟨j, hj, he1⟩ := Option.bind_eq_some_iff.1 he
      obtain ⟨c, hc, he2⟩ := Option.bind_eq_some_iff.1 he1
      obtain rfl := Option.some.inj he2
      simp only [h.nat hj, Option.bind_some, hc]
      exact ⟨by trivial, by trivial⟩
    · cases he
  | bo op bl x y =>
    simp only [execOp] at he ⊢
    obtain ⟨z, hz, he1⟩ := Option.bind_eq_some_iff.1 he
    obtain rfl := Option.some.inj he1
    have hxu : v.ev x ≠ .u := by intro e; rw [e] at hz; simp [bop] at hz
    have hyu : v.ev y ≠ .u := by
      intro e; rw [e] at hz
      unfold bop at hz
      split at hz <;> first | cases hz | (rename_i h2; cases h2) | skip
      all_goals simp_all
    rw [h.ev rfl hxu, h.ev rfl hyu, hz]
    exact ⟨by trivial, by trivial⟩
  | ae ks ng x y =>
    simp only [execOp] at he ⊢
    split at he
    · rename_i xs ys hx hy
      obtain ⟨z, hz, he1⟩ := Option.bind_eq_some_iff.1 he
      obtain rfl := Option.some.inj he1
      rw [h.ev hx (by simp), h.ev hy (by simp)]
      simp only [hz, Option.bind_some]
      exact ⟨by trivial, by trivial⟩
    · cases he
  | no x =>
    simp only [execOp] at he ⊢
    obtain ⟨z, hz, he1⟩ := Option.bind_eq_some_iff.1 he
    obtain rfl := Option.some.inj he1
    rw [h.asB hz]
    exact ⟨by trivial, by trivial⟩
  | ng x =>
    simp only [execOp] at he ⊢
    split at he
    · rename_i k n hx
      rw [h.ev hx (by simp)]
      obtain rfl := Option.some.inj he
      exact ⟨by trivial, by trivial⟩
    · cases he
  | cv k x =>
    simp only [execOp] at he ⊢
    split at he
    · rename_i k n hx
      rw [h.ev hx (by simp)]
      obtain rfl := Option.some.inj he
      exact ⟨by trivial, by trivial⟩
    · cases he
  | cs x =>
    simp only [execOp] at he ⊢
    split at he
    · rename_i k n hx
      rw [h.ev hx (by simp)]
      split at he
      · rename_i hn
        obtain rfl := Option.some.inj he
        simp only [if_pos hn]
        exact ⟨by trivial, by trivial⟩
      · cases he
    · cases he
  | bd zs fs =>
    simp only [execOp] at he ⊢
    split at he
    · rename_i hall
      obtain rfl := Option.some.inj he
      have hev : ∀ f ∈ fs, s.ev f.2.2 = v.ev f.2.2 := fun f hf => by
        have := List.all_eq_true.1 hall f hf
        simp only [Bool.and_eq_true] at this
        exact h.ev rfl (copy_u this.1.1.1)
      have h1 : fs.all (fun f => (s.ev f.2.2).copy && (s.ev f.2.2).nc == f.2.1 && (s.ev f.2.2).cl.all AV.one && decide (f.1 + f.2.1 ≤ zs.length)) = true := by
        rw [List.all_eq_true] at hall ⊢
        intro f hf
        rw [hev f hf]
        exact hall f hf
      rw [if_pos h1]
      refine ⟨rfl, ?_⟩
      have : ∀ (fs : List (Nat × Nat × Opd)) (zs : List AV), (∀ f ∈ fs, s.ev f.2.2 = v.ev f.2.2) → fs.foldl (fun cs f => putCells cs f.1 (s.ev f.2.2).cl) zs = fs.foldl (fun cs f => putCells cs f.1 (v.ev f.2.2).cl) zs := by
        intro fs
        induction fs with
        | nil => intro zs _; rfl
        | cons f fs ih =>
          intro zs hf
          simp only [List.foldl_cons]
          rw [hf f (by simp)]
          exact ih _ fun g hg => hf g (by simp [hg])
      rw [this fs zs hev]
    · cases he
  | sl t sz x lo hi =>
    simp only [execOp] at he ⊢
    split at he
    · rename_i l hx
      rw [h.ev hx (by simp)]
      obtain ⟨p, hp, he1⟩ := Option.bind_eq_some_iff.1 he
      obtain ⟨q, hq, he2⟩ := Option.bind_eq_some_iff.1 he1
      simp only [h.bnd hp, h.bnd hq, Option.bind_some]
      split at he2
      · rename_i hc
        obtain rfl := Option.some.inj he2
        exact ⟨rfl, by rw [if_pos hc]⟩
      · cases he2
    · rename_i t' es hx
      rw [h.ev hx (by simp)]
      obtain ⟨p, hp, he1⟩ := Option.bind_eq_some_iff.1 he
      obtain ⟨q, hq, he2⟩ := Option.bind_eq_some_iff.1 he1
      simp only [h.bnd hp, h.bnd hq, Option.bind_some]
      split at he2
      · rename_i hc
        obtain rfl := Option.some.inj he2
        exact ⟨rfl, by rw [if_pos hc]⟩
      · cases he2
    · rename_i pl hx
      rw [h.ev hx (by simp)]
      obtain ⟨z, hz, he0⟩ := Option.bind_eq_some_iff.1 he
      obtain ⟨p, hp, he1⟩ := Option.bind_eq_some_iff.1 he0
      obtain ⟨q, hq, he2⟩ := Option.bind_eq_some_iff.1 he1
      simp only [h.rowAt hz, h.bnd hp, h.bnd hq, Option.bind_some]
      split at he2
      · rename_i hc
        obtain rfl := Option.some.inj he2
        exact ⟨rfl, by rw [if_pos hc]⟩
      · cases he2
    · cases he
  | ex x i =>
    simp only [execOp] at he ⊢
    split at he
    · rename_i vs hx
      rw [h.ev hx (by simp)]
      obtain ⟨y, hy, he1⟩ := Option.bind_eq_some_iff.1 he
      obtain rfl := Option.some.inj he1
      simp only [hy, Option.bind_some]
      exact ⟨by trivial, by trivial⟩
    · cases he
  | mf f caps =>
    simp only [execOp] at he ⊢
    split at he
    · rename_i hc
      have hm := h.map (xs := caps) fun x hx => copy_u (copyL_mem hc _ (List.mem_map_of_mem hx))
      rw [hm, if_pos hc]
      obtain rfl := Option.some.inj he
      exact ⟨by trivial, by trivial⟩
    · cases he
  | ca m f args =>
    simp only [execOp] at he ⊢
    obtain ⟨⟨h1, h2⟩, h3⟩ := doCall_mono' h he
    rw [h.map fun x hx => h3 _ (List.mem_map_of_mem hx)]
    exact ⟨h1, h2⟩
  | cf m x args =>
    simp only [execOp] at he ⊢
    split at he
    · rename_i f caps hx
      rw [h.ev hx (by simp)]
      obtain ⟨⟨h1, h2⟩, h3⟩ := doCall_mono' h he
      rw [h.map fun x hx => h3 _ (List.mem_append_left _ (List.mem_map_of_mem hx))]
      exact ⟨h1, h2⟩
    · cases he
  | ln str x =>
    simp only [execOp] at he ⊢
    have hu : v.ev x ≠ .u := by
      intro e
      rw [e] at he
      simp only [St.elems] at he
      split at he <;> simp at he
    rw [h.ev rfl hu]
    split at he
    · split at he
      · rename_i hs
        obtain rfl := Option.some.inj he
        exact ⟨rfl, by rw [if_pos hs]⟩
      · cases he
    · split at he
      · cases he
      · rename_i hs
        obtain rfl := Option.some.inj he
        exact ⟨rfl, by rw [if_neg hs]⟩
    · rename_i hx
      split at he
      · cases he
      · rename_i hs
        obtain ⟨q, hq, he1⟩ := Option.bind_eq_some_iff.1 he
        obtain rfl := Option.some.inj he1
        refine ⟨rfl, ?_⟩
        rw [if_neg hs, h.elems hq]; rfl
  | nc x =>
    simp only [execOp] at he ⊢
    split at he
    · rename_i k o hx
      rw [h.ev hx (by simp)]
      obtain rfl := Option.some.inj he
      exact ⟨by trivial, by trivial⟩
    · rename_i k o hx
      rw [h.ev hx (by simp)]
      obtain rfl := Option.some.inj he
      exact ⟨by trivial, by trivial⟩
    · cases he
    · rename_i k o hx
      rw [h.ev hx (by simp)]
      obtain rfl := Option.some.inj he
      exact ⟨by trivial, by trivial⟩
    · cases he
  | _ => simp [qk] at hq
end
end Go.Proofs.Ytmfihcbafljcbaa.A
