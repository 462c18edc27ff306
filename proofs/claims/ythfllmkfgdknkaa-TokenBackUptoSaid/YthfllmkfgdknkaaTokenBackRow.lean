/- TokenBack: the row of the law, from what its abstract run says. -/
import Derived.Test.YthfllmkfgdknkaaTab
import Derived.Test.YthfllmkfgdknkaaDec
set_option linter.unusedSectionVars false
set_option linter.unusedVariables false
set_option linter.unusedSimpArgs false
namespace Go.Proofs.Ythfllmkfgdknkaa.A
open Go Go.Proofs Go.ChangeShapes Go.WideShapes Go.ChangeAt Go.RowKit
theorem own5 : ownKnob Try.prog.godebug = none := by kernel_rfl
def S5 : List TypeId := [22, 9, 34, 3]
set_option maxRecDepth 100000 in
theorem lifted5 (hc : ∀ ys, Good_TokenBack ys → call G Ω0 ⟨0, false⟩ 5 ys (fun _ => none) = some (.ret (.b true), fun _ => none)) (os : Os) (started : os.Started) (H : Type) (enc : TypeId × Value → H) :
    ReturnsInHanded {} Try.checked os 5 .any (Rows.tokenBackSpec.pre6 enc Try.prog Try.f5 Rows.tokenBackRow.domain false) (Rows.tokenBackSpec.post enc Try.prog Try.f5 false true false false) := by
  refine returnsInHanded_of_change (C := Try.checked) own5 started (by kernel_rfl) Try.func5
    (ChangeSpec.witness6 (enc := enc) (C := Try.checked) false ⟨#[], #[.slice none 0 0, .string ⟨#[]⟩], []⟩ 8 (by kernel_rfl) (by kernel_rfl) (by kernel_rfl) (by kernel_rfl)) ?_
  intro W base args ds gs before hval hW _ _
  exact contract_of (P := Try.prog) (R := call G Ω0) (fn := Try.f5) (S := S5) (tb := 4) (Good := fun _ => Good_TokenBack) (by kernel_rfl) (fun B => @sound B) rfl (by kernel_rfl) Try.underlying4
    (fun ds h => by
      have hl : ds.length = 2 := by rw [h]; rw [Try.params5]; rfl
      match ds, hl with
      | [d0, d1], _ => rfl)
    (by rw [Try.params5]; exact fun t ht => by have := (List.all_eq_true.1 (show ([22, 9] : List TypeId).all (fun t => S5.contains t) = true by kernel_rfl)) t ht; simpa using this)
    (by rw [Try.params5]; exact decA_TokenBack) (fun _ => hc) W base args ds gs before hval hW
theorem row_TokenBack (hc : ∀ ys, Good_TokenBack ys → call G Ω0 ⟨0, false⟩ 5 ys (fun _ => none) = some (.ret (.b true), fun _ => none)) : Rows.TokenBackSaid :=
  OpenClaim.holds_of_wide 5 Try.f5 rfl rfl rfl rfl rfl rfl rfl ⟨rfl, rfl, rfl, rfl, rfl⟩ rfl rfl rfl rfl rfl (by kernel_rfl) Try.func5 (by kernel_rfl)
    (of_decide_eq_true (by kernel_rfl)) (by unfold Func.isWrapper; first | (rw [if_pos (by decide +kernel)]; kernel_rfl) | (rw [if_neg (by decide +kernel)]; exact ⟨rfl, rfl⟩))
    (fun os started H enc _ => lifted5 hc os started H enc)
set_option maxRecDepth 100000 in
theorem liftedU5 (hc : ∀ ys, Good_TokenBack ys → AV.bulkL ys ≤ 1048576 → call G Ω0 ⟨0, false⟩ 5 ys (fun _ => none) = some (.ret (.b true), fun _ => none)) (os : Os) (started : os.Started) (H : Type) (enc : TypeId × Value → H) (F : Stop.Interp) :
    ReturnsInHanded {} Try.checked os 5 .any ((Rows.OpenSpec.upto Rows.tokenBackSpec).pre6 enc Try.prog Try.f5 Rows.tokenBackUptoRow.domain false) (((Rows.OpenSpec.upto Rows.tokenBackSpec).at F).post enc Try.prog Try.f5 false true false false) := by
  refine returnsInHanded_of_cond (C := Try.checked) (s := Rows.OpenSpec.upto Rows.tokenBackSpec) (k := Rows.uptoSmall) rfl own5 started (by kernel_rfl) Try.func5
    (OpenSpec.witness (enc := enc) (C := Try.checked) (s := Rows.OpenSpec.upto Rows.tokenBackSpec) (k := Rows.uptoSmall) rfl false ⟨#[], #[.slice none 0 0, .string ⟨#[]⟩], []⟩ 8 (by kernel_rfl) (by kernel_rfl) (by kernel_rfl)
      (x := ([.nil, .lit (.string [])], [], [])) (by kernel_rfl) rfl (by kernel_rfl)) ?_
  intro W base args ds gs before hval hW _ hk _
  exact contract_upto (P := Try.prog) (R := call G Ω0) (fn := Try.f5) (S := S5) (tb := 4) (Good := fun _ => Good_TokenBack) (by kernel_rfl) (fun B => @sound B) rfl (by kernel_rfl) Try.underlying4
    (fun ds h => by
      have hl : ds.length = 2 := by rw [h]; rw [Try.params5]; rfl
      match ds, hl with
      | [d0, d1], _ => rfl)
    (by rw [Try.params5]; exact fun t ht => by have := (List.all_eq_true.1 (show ([22, 9] : List TypeId).all (fun t => S5.contains t) = true by kernel_rfl)) t ht; simpa using this)
    (by rw [Try.params5]; exact decA_TokenBack) (fun _ => hc) W base args ds gs before hval hW hk
theorem rowU_TokenBack (hc : ∀ ys, Good_TokenBack ys → AV.bulkL ys ≤ 1048576 → call G Ω0 ⟨0, false⟩ 5 ys (fun _ => none) = some (.ret (.b true), fun _ => none)) : Rows.TokenBackUptoSaid :=
  OpenClaim.holds_of_cond 5 Try.f5 rfl rfl rfl rfl rfl rfl rfl ⟨rfl, rfl, rfl, rfl, rfl⟩ rfl rfl rfl rfl rfl (by kernel_rfl) Try.func5 (by kernel_rfl)
    (of_decide_eq_true (by kernel_rfl)) (by unfold Func.isWrapper; first | (rw [if_pos (by decide +kernel)]; kernel_rfl) | (rw [if_neg (by decide +kernel)]; exact ⟨rfl, rfl⟩))
    (fun os started H enc _ F => liftedU5 hc os started H enc F)
end Go.Proofs.Ythfllmkfgdknkaa.A
