/- RunTakes: the row of the law, from what its abstract run says. -/
import Derived.Test.YtdoiklliklkbgaaTab
import Derived.Test.YtdoiklliklkbgaaDec
set_option linter.unusedSectionVars false
set_option linter.unusedVariables false
set_option linter.unusedSimpArgs false
namespace Go.Proofs.Ytdoiklliklkbgaa.A
open Go Go.Proofs Go.ChangeShapes Go.WideShapes Go.ChangeAt Go.RowKit
theorem own5 : ownKnob Try.prog.godebug = none := by kernel_rfl
def S5 : List TypeId := [41, 42, 3, 35, 25, 36, 37, 38, 39, 33, 71, 73, 82, 75, 106, 69, 4, 24, 22, 112]
set_option maxRecDepth 100000 in
theorem lifted5 (hc : ∀ ys, Good_RunTakes ys → call G Ω0 ⟨0, false⟩ 5 ys (fun _ => none) = some (.ret (.b true), fun _ => none)) (os : Os) (started : os.Started) (H : Type) (enc : TypeId × Value → H) :
    ReturnsInHanded {} Try.checked os 5 .any (Rows.runTakesSpec.pre6 enc Try.prog Try.f5 Rows.runTakesRow.domain false) (Rows.runTakesSpec.post enc Try.prog Try.f5 false true false false) := by
  refine returnsInHanded_of_change (C := Try.checked) own5 started (by kernel_rfl) Try.func5
    (ChangeSpec.witness6 (enc := enc) (C := Try.checked) false ⟨#[], #[.agg #[.int .i64 0, .slice none 0 0, .slice none 0 0, .slice none 0 0, .slice none 0 0, .slice none 0 0, .slice none 0 0, .slice none 0 0], .slice none 0 0, .slice none 0 0, .int .i64 0], []⟩ 8 (by kernel_rfl) (by kernel_rfl) (by kernel_rfl) (by kernel_rfl)) ?_
  intro W base args ds gs before hval hW _ _
  exact contract_of (P := Try.prog) (R := call G Ω0) (fn := Try.f5) (S := S5) (tb := 4) (Good := fun _ => Good_RunTakes) (by kernel_rfl) (fun B => @sound B) rfl (by kernel_rfl) Try.underlying4
    (fun ds h => by
      have hl : ds.length = 4 := by rw [h]; rw [Try.params5]; rfl
      match ds, hl with
      | [d0, d1, d2, d3], _ => rfl)
    (by rw [Try.params5]; exact fun t ht => by have := (List.all_eq_true.1 (show ([41, 42, 42, 3] : List TypeId).all (fun t => S5.contains t) = true by kernel_rfl)) t ht; simpa using this)
    (by rw [Try.params5]; exact decA_RunTakes) (fun _ => hc) W base args ds gs before hval hW
theorem row_RunTakes (hc : ∀ ys, Good_RunTakes ys → call G Ω0 ⟨0, false⟩ 5 ys (fun _ => none) = some (.ret (.b true), fun _ => none)) : Rows.RunTakesSaid :=
  OpenClaim.holds_of_wide 5 Try.f5 rfl rfl rfl rfl rfl rfl rfl ⟨rfl, rfl, rfl, rfl, rfl⟩ rfl rfl rfl rfl rfl (by kernel_rfl) Try.func5 (by kernel_rfl)
    (of_decide_eq_true (by kernel_rfl)) (by unfold Func.isWrapper; first | (rw [if_pos (by decide +kernel)]; kernel_rfl) | (rw [if_neg (by decide +kernel)]; exact ⟨rfl, rfl⟩))
    (fun os started H enc _ => lifted5 hc os started H enc)
set_option maxRecDepth 100000 in
theorem liftedU5 (hc : ∀ ys, Good_RunTakes ys → AV.bulkL ys ≤ 1048576 → call G Ω0 ⟨0, false⟩ 5 ys (fun _ => none) = some (.ret (.b true), fun _ => none)) (os : Os) (started : os.Started) (H : Type) (enc : TypeId × Value → H) (F : Stop.Interp) :
    ReturnsInHanded {} Try.checked os 5 .any ((Rows.OpenSpec.upto Rows.runTakesSpec).pre6 enc Try.prog Try.f5 Rows.runTakesUptoRow.domain false) (((Rows.OpenSpec.upto Rows.runTakesSpec).at F).post enc Try.prog Try.f5 false true false false) := by
  refine returnsInHanded_of_cond (C := Try.checked) (s := Rows.OpenSpec.upto Rows.runTakesSpec) (k := Rows.uptoSmall) rfl own5 started (by kernel_rfl) Try.func5
    (OpenSpec.witness (enc := enc) (C := Try.checked) (s := Rows.OpenSpec.upto Rows.runTakesSpec) (k := Rows.uptoSmall) rfl false ⟨#[], #[.agg #[.int .i64 0, .slice none 0 0, .slice none 0 0, .slice none 0 0, .slice none 0 0, .slice none 0 0, .slice none 0 0, .slice none 0 0], .slice none 0 0, .slice none 0 0, .int .i64 0], []⟩ 8 (by kernel_rfl) (by kernel_rfl) (by kernel_rfl)
      (x := ([.agg [.agg [.lit (.int .i64 0), .nil], .nil, .nil, .nil, .nil, .nil, .nil], .nil, .nil, .lit (.int .i64 0)], [], [])) (by kernel_rfl) rfl (by kernel_rfl)) ?_
  intro W base args ds gs before hval hW _ hk _
  exact contract_upto (P := Try.prog) (R := call G Ω0) (fn := Try.f5) (S := S5) (tb := 4) (Good := fun _ => Good_RunTakes) (by kernel_rfl) (fun B => @sound B) rfl (by kernel_rfl) Try.underlying4
    (fun ds h => by
      have hl : ds.length = 4 := by rw [h]; rw [Try.params5]; rfl
      match ds, hl with
      | [d0, d1, d2, d3], _ => rfl)
    (by rw [Try.params5]; exact fun t ht => by have := (List.all_eq_true.1 (show ([41, 42, 42, 3] : List TypeId).all (fun t => S5.contains t) = true by kernel_rfl)) t ht; simpa using this)
    (by rw [Try.params5]; exact decA_RunTakes) (fun _ => hc) W base args ds gs before hval hW hk
theorem rowU_RunTakes (hc : ∀ ys, Good_RunTakes ys → AV.bulkL ys ≤ 1048576 → call G Ω0 ⟨0, false⟩ 5 ys (fun _ => none) = some (.ret (.b true), fun _ => none)) : Rows.RunTakesUptoSaid :=
  OpenClaim.holds_of_cond 5 Try.f5 rfl rfl rfl rfl rfl rfl rfl ⟨rfl, rfl, rfl, rfl, rfl⟩ rfl rfl rfl rfl rfl (by kernel_rfl) Try.func5 (by kernel_rfl)
    (of_decide_eq_true (by kernel_rfl)) (by unfold Func.isWrapper; first | (rw [if_pos (by decide +kernel)]; kernel_rfl) | (rw [if_neg (by decide +kernel)]; exact ⟨rfl, rfl⟩))
    (fun os started H enc _ F => liftedU5 hc os started H enc F)
end Go.Proofs.Ytdoiklliklkbgaa.A
