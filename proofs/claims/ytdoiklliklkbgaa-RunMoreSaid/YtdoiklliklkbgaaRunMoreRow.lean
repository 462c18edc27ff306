/- RunMore: the row of the law, from what its abstract run says. -/
import Derived.Test.YtdoiklliklkbgaaTab
import Derived.Test.YtdoiklliklkbgaaDec
set_option linter.unusedSectionVars false
set_option linter.unusedVariables false
set_option linter.unusedSimpArgs false
namespace Go.Proofs.Ytdoiklliklkbgaa.A
open Go Go.Proofs Go.ChangeShapes Go.WideShapes Go.ChangeAt Go.RowKit
theorem own4 : ownKnob Try.prog.godebug = none := by kernel_rfl
def S4 : List TypeId := [41, 42, 3, 35, 25, 36, 37, 38, 39, 33, 71, 73, 82, 75, 106, 69, 4, 24, 22, 112]
set_option maxRecDepth 100000 in
theorem lifted4 (hc : ∀ ys, Good_RunMore ys → call G Ω0 ⟨0, false⟩ 4 ys (fun _ => none) = some (.ret (.b true), fun _ => none)) (os : Os) (started : os.Started) (H : Type) (enc : TypeId × Value → H) :
    ReturnsInHanded {} Try.checked os 4 .any (Rows.runMoreSpec.pre6 enc Try.prog Try.f4 Rows.runMoreRow.domain false) (Rows.runMoreSpec.post enc Try.prog Try.f4 false true false false) := by
  refine returnsInHanded_of_change (C := Try.checked) own4 started (by kernel_rfl) Try.func4
    (ChangeSpec.witness6 (enc := enc) (C := Try.checked) false ⟨#[], #[.agg #[.int .i64 0, .slice none 0 0, .slice none 0 0, .slice none 0 0, .slice none 0 0, .slice none 0 0, .slice none 0 0, .slice none 0 0], .slice none 0 0, .int .i64 0, .int .i64 0], []⟩ 8 (by kernel_rfl) (by kernel_rfl) (by kernel_rfl) (by kernel_rfl)) ?_
  intro W base args ds gs before hval hW _ _
  exact contract_of (P := Try.prog) (R := call G Ω0) (fn := Try.f4) (S := S4) (tb := 4) (Good := fun _ => Good_RunMore) (by kernel_rfl) (fun B => @sound B) rfl (by kernel_rfl) Try.underlying4
    (fun ds h => by
      have hl : ds.length = 4 := by rw [h]; rw [Try.params4]; rfl
      match ds, hl with
      | [d0, d1, d2, d3], _ => rfl)
    (by rw [Try.params4]; exact fun t ht => by have := (List.all_eq_true.1 (show ([41, 42, 3, 3] : List TypeId).all (fun t => S4.contains t) = true by kernel_rfl)) t ht; simpa using this)
    (by rw [Try.params4]; exact decA_RunMore) (fun _ => hc) W base args ds gs before hval hW
theorem row_RunMore (hc : ∀ ys, Good_RunMore ys → call G Ω0 ⟨0, false⟩ 4 ys (fun _ => none) = some (.ret (.b true), fun _ => none)) : Rows.RunMoreSaid :=
  OpenClaim.holds_of_wide 4 Try.f4 rfl rfl rfl rfl rfl rfl rfl ⟨rfl, rfl, rfl, rfl, rfl⟩ rfl rfl rfl rfl rfl (by kernel_rfl) Try.func4 (by kernel_rfl)
    (of_decide_eq_true (by kernel_rfl)) (by unfold Func.isWrapper; first | (rw [if_pos (by decide +kernel)]; kernel_rfl) | (rw [if_neg (by decide +kernel)]; exact ⟨rfl, rfl⟩))
    (fun os started H enc _ => lifted4 hc os started H enc)
end Go.Proofs.Ytdoiklliklkbgaa.A
