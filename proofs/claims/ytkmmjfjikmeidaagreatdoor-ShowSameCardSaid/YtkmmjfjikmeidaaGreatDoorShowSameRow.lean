/- ShowSame: the row of the law, from what its abstract run says. -/
import Derived.Test.YtkmmjfjikmeidaaGreatDoorTab
import Derived.Test.YtkmmjfjikmeidaaGreatDoorDec
import Derived.Test.YtkmmjfjikmeidaaGreatDoorTie
import Derived.Test.YtkmmjfjikmeidaaGreatDoorCards
import Derived.LaidMore
import Derived.Stop.Joined
import Derived.SevenTiedAt
set_option linter.unusedSectionVars false
set_option linter.unusedVariables false
set_option linter.unusedSimpArgs false
namespace Go.Proofs.YtkmmjfjikmeidaaGreatDoor.A
open Go Go.Proofs Go.ChangeShapes Go.WideShapes Go.ChangeAt Go.RowKit
theorem own3 : ownKnob Tryz.prog.godebug = none := by kernel_rfl
def S3 : List TypeId := [25, 22, 23, 41, 45, 3, 9, 4, 35, 36, 39, 37, 51]
theorem door3 (os : Os) (args : Array Value) : laidMetH Tryz.prog Rows.showSameRow.laid ((World.doorLaid Tryz.prog 400 os).forCall (fun _ _ => 0) ⟨#[], args, []⟩).memory :=
  laidMetH_of_parts3 (fuel := 8) (laidMet_of_run' 8 (by kernel_rfl) (by kernel_rfl)) (by kernel_rfl) (by kernel_rfl)
set_option maxRecDepth 100000 in
theorem lifted3 (hc : ∀ ys, Good_ShowSame ys → call G Ω0 ⟨0, false⟩ 3 ys (fun _ => none) = some (.ret (.b true), fun _ => none)) (os : Os) (started : os.Started) (H : Type) (enc : TypeId × Value → H) :
    ReturnsInHanded {} Tryz.checked os 3 .any (fun w args => (Rows.showSameSpec.pre enc Tryz.prog Tryz.f3 [] false w args ∧ laidMetH Tryz.prog Rows.showSameRow.laid w) ∧ sizedMet enc Tryz.prog Tryz.f3 (OpenSpec.ofChange Rows.showSameSpec) false w args) (Rows.showSameSpec.post enc Tryz.prog Tryz.f3 false true false false) := by
  refine returnsInHanded_of_change_and (C := Tryz.checked) (X := fun w _ => laidMetH Tryz.prog Rows.showSameRow.laid w) (fun _ _ _ hh h => h.of_heap hh) own3 started (by kernel_rfl) Tryz.func3
    (ChangeSpec.witness_shaped (enc := enc) (C := Tryz.checked) (os := os) (X := fun w _ => laidMetH Tryz.prog Rows.showSameRow.laid w) false (World.doorLaid Tryz.prog 400 os) #[.agg #[.slice none 0 0, .slice none 0 0], .agg #[.slice none 0 0, .slice none 0 0]] 8 rfl (World.shaped_of_RefB (by kernel_rfl) (by kernel_rfl)) (by kernel_rfl) (by kernel_rfl) (by kernel_rfl) (door3 os _)) ?_
  intro W base args ds gs before hval hW _ _ _ _
  exact contract_of (P := Tryz.prog) (R := call G Ω0) (fn := Tryz.f3) (S := S3) (tb := 4) (Good := fun _ => Good_ShowSame) (by kernel_rfl) (fun B => @sound B) rfl (by kernel_rfl) Tryz.underlying4
    (fun ds h => by
      have hl : ds.length = 2 := by rw [h]; rw [Tryz.params3]; rfl
      match ds, hl with
      | [d0, d1], _ => rfl)
    (by rw [Tryz.params3]; exact fun t ht => by have := (List.all_eq_true.1 (show ([25, 25] : List TypeId).all (fun t => S3.contains t) = true by kernel_rfl)) t ht; simpa using this)
    (by rw [Tryz.params3]; exact decA_ShowSame) (fun _ => hc) W base args ds gs before hval hW
theorem row_ShowSame (hc : ∀ ys, Good_ShowSame ys → call G Ω0 ⟨0, false⟩ 3 ys (fun _ => none) = some (.ret (.b true), fun _ => none)) : Rows.ShowSameSaid :=
  OpenClaim.holds_of_wide 3 Tryz.f3 rfl rfl rfl rfl rfl rfl rfl ⟨rfl, rfl, rfl, rfl, rfl⟩ rfl rfl rfl rfl rfl (by kernel_rfl) Tryz.func3 (by kernel_rfl)
    (of_decide_eq_true (by kernel_rfl)) (by unfold Func.isWrapper; first | (rw [if_pos (by decide +kernel)]; kernel_rfl) | (rw [if_neg (by decide +kernel)]; exact ⟨rfl, rfl⟩))
    (fun os started H enc _ => lifted3 hc os started H enc)
theorem card_ShowSame (h : Rows.ShowSameSaid) : Rows.ShowSameCardSaid :=
  Claim7.holds_tied_plain_at .later Rows.showSameCard.alts Rows.showSameCard.laidKinds Rows.showSameCard.laidTests Rows.showSameCard.stood.harness Rows.showSameCard.stood.looks
    h (fun _ h => by cases h) (by kernel_rfl) (fun _ h => by cases h) showSame_row_tie rfl ⟨rfl, rfl⟩ (by kernel_rfl) rfl
    (fun f fn hf hfn => by
      obtain rfl : f = 3 := Option.some.inj ((show Tryz.prog.funcNamed "veilwork/veilworklaw.ShowSame" = some 3 by kernel_rfl).symm.trans hf) |>.symm
      obtain rfl : fn = Tryz.f3 := (Option.some.inj (Tryz.func3.symm.trans hfn)).symm
      exact ⟨by kernel_rfl, fun j t ht => by
        rw [Tryz.params3] at ht
        have hm : t ∈ ([25, 25] : List TypeId) := by simpa using Array.mem_of_getElem? ht
        have hall : (([25, 25] : List TypeId).all fun u => !Tryz.prog.wantsStandIn u) = true := by kernel_rfl
        exact (show Tryz.prog.wantsStandIn t = false by simpa using List.all_eq_true.1 hall t hm)⟩)
    (by kernel_rfl)
end Go.Proofs.YtkmmjfjikmeidaaGreatDoor.A
