/- How the arguments of the laws are read, by program. -/
import Derived.Test.YtmfihcbafljcbaaFrame
import Derived.Test.YtmfihcbafljcbaaTypes
import Derived.Test.YtmfihcbafljcbaaProg
set_option maxRecDepth 100000
set_option linter.unusedSectionVars false
set_option linter.unusedVariables false
set_option linter.unusedSimpArgs false
namespace Go.Proofs.Ytmfihcbafljcbaa.A
open Go Go.Proofs
def V_Event (x : Event) : Prop := (Lit.int .i64 x.Kind).wf = true ∧ (Lit.int .i64 x.At).wf = true ∧ (Lit.int .i64 x.Which).wf = true ∧ (Lit.int .i64 x.Value).wf = true
theorem dec_27 [Base] (N : Nat) : Dec Try.prog N 27 Event (fun x : Event => [(.i .i64 x.Kind), (.i .i64 x.At), (.i .i64 x.Which), (.i .i64 x.Value)]) V_Event :=
  (dec_struct Try.underlying27 (by kernel_rfl) (decF_cons rfl 1 (by kernel_rfl) (dec_int Try.underlying3 (by kernel_rfl)) (decF_cons rfl 1 (by kernel_rfl) (dec_int Try.underlying3 (by kernel_rfl)) (decF_cons rfl 1 (by kernel_rfl) (dec_int Try.underlying3 (by kernel_rfl)) (decF_cons rfl 1 (by kernel_rfl) (dec_int Try.underlying3 (by kernel_rfl)) (decF_nil)))))).map (fun p => (⟨p.1, p.2.1, p.2.2.1, p.2.2.2.1⟩ : Event)) (fun x => (x.Kind, x.At, x.Which, x.Value, ())) (fun _ => rfl) (fun _ => rfl) (fun _ h => ⟨h.1, h.2.1, h.2.2.1, h.2.2.2.1⟩)
def Good_ViewApart (ys : List AV) : Prop := ∃ (a0 : (List Event)) (a1 : (List Event)), ((a0.length ≤ maxLen ∧ ∀ y ∈ a0, (V_Event) y)) ∧ ((a1.length ≤ maxLen ∧ ∀ y ∈ a1, (V_Event) y)) ∧ ys = [(.l 27 (a0.map eEvent)), (.l 27 (a1.map eEvent))]
theorem decA_ViewApart (B : Base) : DecA Try.prog [22, 22] Good_ViewApart := by
  intro H enc W vs ds ps base hb hok h
  obtain ⟨ys, ⟨hg, hbk⟩, hl⟩ := (decA_cons (decV_one (fun x : (List Event) => (.l 27 (x.map eEvent))) (fun _ => (dec_slice eEvent Try.underlying22 (by kernel_rfl) (dec_27 _) (fun _ => ⟨rfl, by kernel_rfl, rfl⟩) (by decide))) (sc_slice Try.underlying22)) (decA_cons (decV_one (fun x : (List Event) => (.l 27 (x.map eEvent))) (fun _ => (dec_slice eEvent Try.underlying22 (by kernel_rfl) (dec_27 _) (fun _ => ⟨rfl, by kernel_rfl, rfl⟩) (by decide))) (sc_slice Try.underlying22)) (decA_nil))) H enc W vs ds ps base hb hok h
  refine ⟨ys, ⟨?_, hbk⟩, hl⟩
  obtain ⟨a0, _, v0, ⟨a1, _, v1, rfl, rfl⟩, rfl⟩ := hg
  exact ⟨a0, a1, v0, v1, rfl⟩
end Go.Proofs.Ytmfihcbafljcbaa.A
