/- TokenJoins: the row of the law, from what its abstract run says. -/
import Derived.Test.YthfllmkfgdknkaaTab
import Derived.Test.YthfllmkfgdknkaaDec
set_option linter.unusedSectionVars false
set_option linter.unusedVariables false
set_option linter.unusedSimpArgs false
namespace Go.Proofs.Ythfllmkfgdknkaa.A
open Go Go.Proofs Go.ChangeShapes Go.WideShapes Go.ChangeAt Go.RowKit
theorem own4 : ownKnob Try.prog.godebug = none := by kernel_rfl
def S4 : List TypeId := [22, 34, 3, 9]
set_option maxRecDepth 100000 in
theorem lifted4 (hc : ∀ ys, Good_TokenJoins ys → call G Ω0 ⟨0, false⟩ 4 ys (fun _ => none) = some (.ret (.b true), fun _ => none)) (os : Os) (started : os.Started) (H : Type) (enc : TypeId × Value → H) :
    ReturnsInHanded {} Try.checked os 4 .any (Rows.tokenJoinsSpec.pre6 enc Try.prog Try.f4 Rows.tokenJoinsRow.domain false) (Rows.tokenJoinsSpec.post enc Try.prog Try.f4 false true false false) := by
  refine returnsInHanded_of_change (C := Try.checked) own4 started (by kernel_rfl) Try.func4
    (ChangeSpec.witness6 (enc := enc) (C := Try.checked) false ⟨#[], #[.slice none 0 0], []⟩ 8 (by kernel_rfl) (by kernel_rfl) (by kernel_rfl) (by kernel_rfl)) ?_
  intro W base args ds gs before hval hW _ _
  exact contract_of (P := Try.prog) (R := call G Ω0) (fn := Try.f4) (S := S4) (tb := 4) (Good := fun _ => Good_TokenJoins) (by kernel_rfl) (fun B => @sound B) rfl (by kernel_rfl) Try.underlying4
    (fun ds h => by
      have hl : ds.length = 1 := by rw [h]; rw [Try.params4]; rfl
      match ds, hl with
      | [d0], _ => rfl)
    (by rw [Try.params4]; exact fun t ht => by have := (List.all_eq_true.1 (show ([22] : List TypeId).all (fun t => S4.contains t) = true by kernel_rfl)) t ht; simpa using this)
    (by rw [Try.params4]; exact decA_TokenJoins) (fun _ => hc) W base args ds gs before hval hW
theorem row_TokenJoins (hc : ∀ ys, Good_TokenJoins ys → call G Ω0 ⟨0, false⟩ 4 ys (fun _ => none) = some (.ret (.b true), fun _ => none)) : Rows.TokenJoinsSaid :=
  OpenClaim.holds_of_wide 4 Try.f4 rfl rfl rfl rfl rfl rfl rfl ⟨rfl, rfl, rfl, rfl, rfl⟩ rfl rfl rfl rfl rfl (by kernel_rfl) Try.func4 (by kernel_rfl)
    (of_decide_eq_true (by kernel_rfl)) (by unfold Func.isWrapper; first | (rw [if_pos (by decide +kernel)]; kernel_rfl) | (rw [if_neg (by decide +kernel)]; exact ⟨rfl, rfl⟩))
    (fun os started H enc _ => lifted4 hc os started H enc)
set_option maxRecDepth 100000 in
theorem liftedU4 (hc : ∀ ys, Good_TokenJoins ys → AV.bulkL ys ≤ 1048576 → call G Ω0 ⟨0, false⟩ 4 ys (fun _ => none) = some (.ret (.b true), fun _ => none)) (os : Os) (started : os.Started) (H : Type) (enc : TypeId × Value → H) (F : Stop.Interp) :
    ReturnsInHanded {} Try.checked os 4 .any ((Rows.OpenSpec.upto Rows.tokenJoinsSpec).pre6 enc Try.prog Try.f4 Rows.tokenJoinsUptoRow.domain false) (((Rows.OpenSpec.upto Rows.tokenJoinsSpec).at F).post enc Try.prog Try.f4 false true false false) := by
  refine returnsInHanded_of_cond (C := Try.checked) (s := Rows.OpenSpec.upto Rows.tokenJoinsSpec) (k := Rows.uptoSmall) rfl own4 started (by kernel_rfl) Try.func4
    (OpenSpec.witness (enc := enc) (C := Try.checked) (s := Rows.OpenSpec.upto Rows.tokenJoinsSpec) (k := Rows.uptoSmall) rfl false ⟨#[], #[.slice none 0 0], []⟩ 8 (by kernel_rfl) (by kernel_rfl) (by kernel_rfl)
      (x := ([.nil], [], [])) (by kernel_rfl) rfl (by kernel_rfl)) ?_
  intro W base args ds gs before hval hW _ hk _
  exact contract_upto (P := Try.prog) (R := call G Ω0) (fn := Try.f4) (S := S4) (tb := 4) (Good := fun _ => Good_TokenJoins) (by kernel_rfl) (fun B => @sound B) rfl (by kernel_rfl) Try.underlying4
    (fun ds h => by
      have hl : ds.length = 1 := by rw [h]; rw [Try.params4]; rfl
      match ds, hl with
      | [d0], _ => rfl)
    (by rw [Try.params4]; exact fun t ht => by have := (List.all_eq_true.1 (show ([22] : List TypeId).all (fun t => S4.contains t) = true by kernel_rfl)) t ht; simpa using this)
    (by rw [Try.params4]; exact decA_TokenJoins) (fun _ => hc) W base args ds gs before hval hW hk
theorem rowU_TokenJoins (hc : ∀ ys, Good_TokenJoins ys → AV.bulkL ys ≤ 1048576 → call G Ω0 ⟨0, false⟩ 4 ys (fun _ => none) = some (.ret (.b true), fun _ => none)) : Rows.TokenJoinsUptoSaid :=
  OpenClaim.holds_of_cond 4 Try.f4 rfl rfl rfl rfl rfl rfl rfl ⟨rfl, rfl, rfl, rfl, rfl⟩ rfl rfl rfl rfl rfl (by kernel_rfl) Try.func4 (by kernel_rfl)
    (of_decide_eq_true (by kernel_rfl)) (by unfold Func.isWrapper; first | (rw [if_pos (by decide +kernel)]; kernel_rfl) | (rw [if_neg (by decide +kernel)]; exact ⟨rfl, rfl⟩))
    (fun os started H enc _ F => liftedU4 hc os started H enc F)
end Go.Proofs.Ythfllmkfgdknkaa.A
