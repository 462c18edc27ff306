/- TokenPlaces: the row of the law, from what its abstract run says. -/
import Derived.Test.YthfllmkfgdknkaaTab
import Derived.Test.YthfllmkfgdknkaaDec
set_option linter.unusedSectionVars false
set_option linter.unusedVariables false
set_option linter.unusedSimpArgs false
namespace Go.Proofs.Ythfllmkfgdknkaa.A
open Go Go.Proofs Go.ChangeShapes Go.WideShapes Go.ChangeAt Go.RowKit
theorem own6 : ownKnob Try.prog.godebug = none := by kernel_rfl
set_option maxRecDepth 100000 in
theorem lifted6 (hc : ∀ ys, Good_TokenPlaces ys → call G Ω0 ⟨0, false⟩ 6 ys (fun _ => none) = some (.ret (.b true), fun _ => none)) (os : Os) (started : os.Started) (H : Type) (enc : TypeId × Value → H) :
    ReturnsInHanded {} Try.checked os 6 .any (Rows.tokenPlacesSpec.pre6 enc Try.prog Try.f6 Rows.tokenPlacesRow.domain false) (Rows.tokenPlacesSpec.post enc Try.prog Try.f6 false true false false) := by
  refine returnsInHanded_of_change (C := Try.checked) own6 started (by kernel_rfl) Try.func6
    (ChangeSpec.witness6 (enc := enc) (C := Try.checked) false ⟨#[], #[.string ⟨#[]⟩], []⟩ 8 (by kernel_rfl) (by kernel_rfl) (by kernel_rfl) (by kernel_rfl)) ?_
  intro W base args ds gs before hval hW _ _
  exact contract_of (P := Try.prog) (R := call G Ω0) (fn := Try.f6) (n := 12) (tb := 4) (Good := fun _ => Good_TokenPlaces) (fun B => @sound B) rfl (by kernel_rfl) Try.underlying4
    (fun ds h => by
      have hl : ds.length = 1 := by rw [h]; rw [Try.params6]; rfl
      match ds, hl with
      | [d0], _ => rfl)
    (by rw [Try.params6]; exact fun t ht => (List.all_eq_true.1 (show ([9] : List TypeId).all (fun t => plainT Try.prog 12 t) = true by kernel_rfl)) t ht)
    (by rw [Try.params6]; exact decA_TokenPlaces) (fun _ => hc) W base args ds gs before hval hW
theorem row_TokenPlaces (hc : ∀ ys, Good_TokenPlaces ys → call G Ω0 ⟨0, false⟩ 6 ys (fun _ => none) = some (.ret (.b true), fun _ => none)) : Rows.TokenPlacesSaid :=
  OpenClaim.holds_of_wide 6 Try.f6 rfl rfl rfl rfl rfl rfl rfl ⟨rfl, rfl, rfl, rfl, rfl⟩ rfl rfl rfl rfl rfl (by kernel_rfl) Try.func6 (by kernel_rfl)
    (of_decide_eq_true (by kernel_rfl)) (by unfold Func.isWrapper; first | (rw [if_pos (by decide +kernel)]; kernel_rfl) | (rw [if_neg (by decide +kernel)]; exact ⟨rfl, rfl⟩))
    (fun os started H enc _ => lifted6 hc os started H enc)
end Go.Proofs.Ythfllmkfgdknkaa.A
