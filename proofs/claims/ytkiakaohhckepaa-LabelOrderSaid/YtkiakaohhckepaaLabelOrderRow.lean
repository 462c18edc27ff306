/- LabelOrder: the row of the law, from what its abstract run says. -/
import Derived.Test.YtkiakaohhckepaaTab
import Derived.Test.YtkiakaohhckepaaDec
set_option linter.unusedSectionVars false
namespace Go.Proofs.Ytkiakaohhckepaa.A
open Go Go.Proofs Go.ChangeShapes Go.WideShapes Go.ChangeAt Go.RowKit
theorem own7 : ownKnob Try.prog.godebug = none := by kernel_rfl
set_option maxRecDepth 100000 in
theorem lifted7 (hc : ∀ ys, Good_LabelOrder ys → call G (fun _ _ => none) ⟨0, false⟩ 7 ys (fun _ => none) = some (.ret (.b true), fun _ => none)) (os : Os) (started : os.Started) (H : Type) (enc : TypeId × Value → H) :
    ReturnsInHanded {} Try.checked os 7 .any (Rows.labelOrderSpec.pre6 enc Try.prog Try.f7 Rows.labelOrderRow.domain false) (Rows.labelOrderSpec.post enc Try.prog Try.f7 false true false false) := by
  refine returnsInHanded_of_change (C := Try.checked) own7 started (by kernel_rfl) Try.func7
    (ChangeSpec.witness6 (enc := enc) (C := Try.checked) false ⟨#[], #[.agg #[.int .i64 0, .slice none 0 0], .agg #[.slice none 0 0, .slice none 0 0], .agg #[.slice none 0 0, .slice none 0 0], .agg #[.slice none 0 0, .slice none 0 0]], []⟩ 8 (by kernel_rfl) (by kernel_rfl) (by kernel_rfl) (by kernel_rfl)) ?_
  intro W base args ds gs before hval hW _ _
  exact contract_of (P := Try.prog) (R := call G fun _ _ => none) (fn := Try.f7) (n := 12) (tb := 4) (Good := fun _ => Good_LabelOrder) (fun B => @sound B) rfl (by kernel_rfl) Try.underlying4
    (fun ds h => by
      have hl : ds.length = 4 := by rw [h]; rw [Try.params7]; rfl
      match ds, hl with
      | [d0, d1, d2, d3], _ => rfl)
    (by rw [Try.params7]; exact fun t ht => (List.all_eq_true.1 (show ([24, 43, 43, 43] : List TypeId).all (fun t => plainT Try.prog 12 t) = true by kernel_rfl)) t ht)
    (by rw [Try.params7]; exact decA_LabelOrder) (fun _ => hc) W base args ds gs before hval hW
theorem row_LabelOrder (hc : ∀ ys, Good_LabelOrder ys → call G (fun _ _ => none) ⟨0, false⟩ 7 ys (fun _ => none) = some (.ret (.b true), fun _ => none)) : Rows.LabelOrderSaid :=
  OpenClaim.holds_of_wide 7 Try.f7 rfl rfl rfl rfl rfl rfl rfl ⟨rfl, rfl, rfl, rfl, rfl⟩ rfl rfl rfl rfl rfl (by kernel_rfl) Try.func7 (by kernel_rfl)
    (of_decide_eq_true (by kernel_rfl)) (by unfold Func.isWrapper; first | (rw [if_pos (by decide +kernel)]; kernel_rfl) | (rw [if_neg (by decide +kernel)]; exact ⟨rfl, rfl⟩))
    (fun os started H enc _ => lifted7 hc os started H enc)
end Go.Proofs.Ytkiakaohhckepaa.A
