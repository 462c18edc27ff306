/- How the arguments of the laws are read, by program. -/
import Derived.Test.YtdoiklliklkbgaaFrame
import Derived.Test.YtdoiklliklkbgaaTypes
import Derived.Test.YtdoiklliklkbgaaProg
set_option maxRecDepth 100000
set_option linter.unusedSectionVars false
set_option linter.unusedVariables false
set_option linter.unusedSimpArgs false
namespace Go.Proofs.Ytdoiklliklkbgaa.A
open Go Go.Proofs
def V_ExprT (_ : ExprT) : Prop := True
theorem decR_24 [Base] : ∀ N M, M ≤ N → Dec Try.prog M 24 ExprT (fun x : ExprT => [(.i .i64 x.Kind), (.i .i64 x.N), (.l 24 (x.Args.map eExprT))]) V_ExprT := by
  intro N
  induction N with
  | zero => intro M hM; obtain rfl : M = 0 := by omega
            exact dec_zero (fun _ => by kernel_rfl) (fun _ => by kernel_rfl)
  | succ N ih => intro M hM; exact (dec_struct Try.underlying24 (by kernel_rfl) (decF_cons rfl 1 (by kernel_rfl) (dec_int Try.underlying3 (by kernel_rfl)) (decF_cons rfl 1 (by kernel_rfl) (dec_int Try.underlying3 (by kernel_rfl)) (decF_cons rfl 1 (by kernel_rfl) (dec_slice eExprT Try.underlying22 (by kernel_rfl) (ih _ (by omega)) (fun _ => by rw [eExprT_eq]; exact ⟨rfl, by kernel_rfl, rfl⟩) (by decide)) (decF_nil))))).map (fun p => (⟨p.1, p.2.1, p.2.2.1⟩ : ExprT)) (fun x => (x.Kind, x.N, x.Args, ())) (fun _ => rfl) (fun _ => rfl) (fun _ _ => trivial)
theorem dec_24 [Base] (N : Nat) : Dec Try.prog N 24 ExprT (fun x : ExprT => [(.i .i64 x.Kind), (.i .i64 x.N), (.l 24 (x.Args.map eExprT))]) V_ExprT := decR_24 N N (Nat.le_refl _)
def Good_RunEvals (ys : List AV) : Prop := ∃ (a0 : ExprT) (a1 : (List Int)), (V_ExprT a0) ∧ ((a1.length ≤ maxLen ∧ ∀ y ∈ a1, (fun v : Int => (Lit.int .i64 v).wf = true) y)) ∧ ys = [(eExprT a0), (.l 3 (a1.map (AV.i .i64)))]
theorem decA_RunEvals (B : Base) : DecA Try.prog [24, 25] Good_RunEvals := by
  intro H enc W vs ds ps base hb hok h
  obtain ⟨ys, ⟨hg, hbk⟩, hl⟩ := (decA_cons (decV_struct eExprT Try.underlying24 (fun N => dec_24 N) eExprT_eq) (decA_cons (decV_one (fun x : (List Int) => (.l 3 (x.map (AV.i .i64)))) (fun _ => (dec_slice (AV.i .i64) Try.underlying25 (by kernel_rfl) (dec_int Try.underlying3 (by kernel_rfl)) (fun _ => ⟨rfl, by kernel_rfl, rfl⟩) (by decide))) (sc_slice Try.underlying25)) (decA_nil))) H enc W vs ds ps base hb hok h
  refine ⟨ys, ⟨?_, hbk⟩, hl⟩
  obtain ⟨a0, _, v0, ⟨a1, _, v1, rfl, rfl⟩, rfl⟩ := hg
  exact ⟨a0, a1, v0, v1, rfl⟩
end Go.Proofs.Ytdoiklliklkbgaa.A
