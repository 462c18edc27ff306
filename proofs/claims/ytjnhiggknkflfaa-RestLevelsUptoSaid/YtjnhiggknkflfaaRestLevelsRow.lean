/- RestLevels: the row of the law, from what its abstract run says. -/
import Derived.Test.YtjnhiggknkflfaaTab
import Derived.Test.YtjnhiggknkflfaaDec
set_option linter.unusedSectionVars false
set_option linter.unusedVariables false
set_option linter.unusedSimpArgs false
namespace Go.Proofs.Ytjnhiggknkflfaa.A
open Go Go.Proofs Go.ChangeShapes Go.WideShapes Go.ChangeAt Go.RowKit
theorem own3 : ownKnob Try.prog.godebug = none := by kernel_rfl
def S3 : List TypeId := [24, 27, 30, 3, 22, 25, 28, 53, 4, 61, 59]
set_option maxRecDepth 100000 in
theorem lifted3 (hc : ∀ ys, Good_RestLevels ys → call G Ω0 ⟨0, false⟩ 3 ys (fun _ => none) = some (.ret (.b true), fun _ => none)) (os : Os) (started : os.Started) (H : Type) (enc : TypeId × Value → H) :
    ReturnsInHanded {} Try.checked os 3 .any (Rows.restLevelsSpec.pre6 enc Try.prog Try.f3 Rows.restLevelsRow.domain false) (Rows.restLevelsSpec.post enc Try.prog Try.f3 false true false false) := by
  refine returnsInHanded_of_change (C := Try.checked) own3 started (by kernel_rfl) Try.func3
    (ChangeSpec.witness6 (enc := enc) (C := Try.checked) false ⟨#[], #[.agg #[.int .i64 0, .slice none 0 0], .agg #[.slice none 0 0, .slice none 0 0], .agg #[.slice none 0 0, .slice none 0 0], .agg #[.slice none 0 0, .slice none 0 0]], []⟩ 8 (by kernel_rfl) (by kernel_rfl) (by kernel_rfl) (by kernel_rfl)) ?_
  intro W base args ds gs before hval hW _ _
  exact contract_of (P := Try.prog) (R := call G Ω0) (fn := Try.f3) (S := S3) (tb := 4) (Good := fun _ => Good_RestLevels) (by kernel_rfl) (fun B => @sound B) rfl (by kernel_rfl) Try.underlying4
    (fun ds h => by
      have hl : ds.length = 4 := by rw [h]; rw [Try.params3]; rfl
      match ds, hl with
      | [d0, d1, d2, d3], _ => rfl)
    (by rw [Try.params3]; exact fun t ht => by have := (List.all_eq_true.1 (show ([24, 27, 27, 30] : List TypeId).all (fun t => S3.contains t) = true by kernel_rfl)) t ht; simpa using this)
    (by rw [Try.params3]; exact decA_RestLevels) (fun _ => hc) W base args ds gs before hval hW
theorem row_RestLevels (hc : ∀ ys, Good_RestLevels ys → call G Ω0 ⟨0, false⟩ 3 ys (fun _ => none) = some (.ret (.b true), fun _ => none)) : Rows.RestLevelsSaid :=
  OpenClaim.holds_of_wide 3 Try.f3 rfl rfl rfl rfl rfl rfl rfl ⟨rfl, rfl, rfl, rfl, rfl⟩ rfl rfl rfl rfl rfl (by kernel_rfl) Try.func3 (by kernel_rfl)
    (of_decide_eq_true (by kernel_rfl)) (by unfold Func.isWrapper; first | (rw [if_pos (by decide +kernel)]; kernel_rfl) | (rw [if_neg (by decide +kernel)]; exact ⟨rfl, rfl⟩))
    (fun os started H enc _ => lifted3 hc os started H enc)
set_option maxRecDepth 100000 in
theorem liftedU3 (hc : ∀ ys, Good_RestLevels ys → AV.bulkL ys ≤ 1048576 → call G Ω0 ⟨0, false⟩ 3 ys (fun _ => none) = some (.ret (.b true), fun _ => none)) (os : Os) (started : os.Started) (H : Type) (enc : TypeId × Value → H) (F : Stop.Interp) :
    ReturnsInHanded {} Try.checked os 3 .any ((Rows.OpenSpec.upto Rows.restLevelsSpec).pre6 enc Try.prog Try.f3 Rows.restLevelsUptoRow.domain false) (((Rows.OpenSpec.upto Rows.restLevelsSpec).at F).post enc Try.prog Try.f3 false true false false) := by
  refine returnsInHanded_of_cond (C := Try.checked) (s := Rows.OpenSpec.upto Rows.restLevelsSpec) (k := Rows.uptoSmall) rfl own3 started (by kernel_rfl) Try.func3
    (OpenSpec.witness (enc := enc) (C := Try.checked) (s := Rows.OpenSpec.upto Rows.restLevelsSpec) (k := Rows.uptoSmall) rfl false ⟨#[], #[.agg #[.int .i64 0, .slice none 0 0], .agg #[.slice none 0 0, .slice none 0 0], .agg #[.slice none 0 0, .slice none 0 0], .agg #[.slice none 0 0, .slice none 0 0]], []⟩ 8 (by kernel_rfl) (by kernel_rfl) (by kernel_rfl)
      (x := ([.agg [.lit (.int .i64 0), .nil], .agg [.nil, .nil], .agg [.nil, .nil], .agg [.nil, .nil]], [], [])) (by kernel_rfl) rfl (by kernel_rfl)) ?_
  intro W base args ds gs before hval hW _ hk _
  exact contract_upto (P := Try.prog) (R := call G Ω0) (fn := Try.f3) (S := S3) (tb := 4) (Good := fun _ => Good_RestLevels) (by kernel_rfl) (fun B => @sound B) rfl (by kernel_rfl) Try.underlying4
    (fun ds h => by
      have hl : ds.length = 4 := by rw [h]; rw [Try.params3]; rfl
      match ds, hl with
      | [d0, d1, d2, d3], _ => rfl)
    (by rw [Try.params3]; exact fun t ht => by have := (List.all_eq_true.1 (show ([24, 27, 27, 30] : List TypeId).all (fun t => S3.contains t) = true by kernel_rfl)) t ht; simpa using this)
    (by rw [Try.params3]; exact decA_RestLevels) (fun _ => hc) W base args ds gs before hval hW hk
theorem rowU_RestLevels (hc : ∀ ys, Good_RestLevels ys → AV.bulkL ys ≤ 1048576 → call G Ω0 ⟨0, false⟩ 3 ys (fun _ => none) = some (.ret (.b true), fun _ => none)) : Rows.RestLevelsUptoSaid :=
  OpenClaim.holds_of_cond 3 Try.f3 rfl rfl rfl rfl rfl rfl rfl ⟨rfl, rfl, rfl, rfl, rfl⟩ rfl rfl rfl rfl rfl (by kernel_rfl) Try.func3 (by kernel_rfl)
    (of_decide_eq_true (by kernel_rfl)) (by unfold Func.isWrapper; first | (rw [if_pos (by decide +kernel)]; kernel_rfl) | (rw [if_neg (by decide +kernel)]; exact ⟨rfl, rfl⟩))
    (fun os started H enc _ F => liftedU3 hc os started H enc F)
end Go.Proofs.Ytjnhiggknkflfaa.A
