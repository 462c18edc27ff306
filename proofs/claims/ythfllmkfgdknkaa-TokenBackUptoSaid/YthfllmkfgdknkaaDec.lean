/- How the arguments of the laws are read, by program. -/
import Derived.Test.YthfllmkfgdknkaaFrame
import Derived.Test.YthfllmkfgdknkaaTypes
import Derived.Test.YthfllmkfgdknkaaProg
set_option maxRecDepth 100000
set_option linter.unusedSectionVars false
set_option linter.unusedVariables false
set_option linter.unusedSimpArgs false
namespace Go.Proofs.Ythfllmkfgdknkaa.A
open Go Go.Proofs
def Good_TokenScans (ys : List AV) : Prop := ∃ (a0 : (List UInt8)), (a0.length ≤ maxLen) ∧ ys = [(.s a0)]
theorem decA_TokenScans (B : Base) : DecA Try.prog [9] Good_TokenScans := by
  intro H enc W vs ds ps base hb hok h
  obtain ⟨ys, ⟨hg, hbk⟩, hl⟩ := (decA_cons (decV_one (fun x : (List UInt8) => (.s x)) (fun _ => (dec_string Try.underlying9 (by kernel_rfl))) (sc_string Try.underlying9)) (decA_nil)) H enc W vs ds ps base hb hok h
  refine ⟨ys, ⟨?_, hbk⟩, hl⟩
  obtain ⟨a0, _, v0, rfl, rfl⟩ := hg
  exact ⟨a0, v0, rfl⟩
def V_Token (x : Token) : Prop := (Lit.int .i64 x.Kind).wf = true ∧ (Lit.int .i64 x.At).wf = true ∧ x.Text.length ≤ maxLen
theorem dec_34 [Base] (N : Nat) : Dec Try.prog N 34 Token (fun x : Token => [(.i .i64 x.Kind), (.i .i64 x.At), (.s x.Text)]) V_Token :=
  (dec_struct Try.underlying34 (by kernel_rfl) (decF_cons rfl 1 (by kernel_rfl) (dec_int Try.underlying3 (by kernel_rfl)) (decF_cons rfl 1 (by kernel_rfl) (dec_int Try.underlying3 (by kernel_rfl)) (decF_cons rfl 1 (by kernel_rfl) (dec_string Try.underlying9 (by kernel_rfl)) (decF_nil))))).map (fun p => (⟨p.1, p.2.1, p.2.2.1⟩ : Token)) (fun x => (x.Kind, x.At, x.Text, ())) (fun _ => rfl) (fun _ => rfl) (fun _ h => ⟨h.1, h.2.1, h.2.2.1⟩)
def Good_TokenJoins (ys : List AV) : Prop := ∃ (a0 : (List Token)), ((a0.length ≤ maxLen ∧ ∀ y ∈ a0, (V_Token) y)) ∧ ys = [(.l 34 (a0.map eToken))]
theorem decA_TokenJoins (B : Base) : DecA Try.prog [22] Good_TokenJoins := by
  intro H enc W vs ds ps base hb hok h
  obtain ⟨ys, ⟨hg, hbk⟩, hl⟩ := (decA_cons (decV_one (fun x : (List Token) => (.l 34 (x.map eToken))) (fun _ => (dec_slice eToken Try.underlying22 (by kernel_rfl) (dec_34 _) (fun _ => ⟨rfl, by kernel_rfl, rfl⟩) (by decide))) (sc_slice Try.underlying22)) (decA_nil)) H enc W vs ds ps base hb hok h
  refine ⟨ys, ⟨?_, hbk⟩, hl⟩
  obtain ⟨a0, _, v0, rfl, rfl⟩ := hg
  exact ⟨a0, v0, rfl⟩
def Good_TokenBack (ys : List AV) : Prop := ∃ (a0 : (List Token)) (a1 : (List UInt8)), ((a0.length ≤ maxLen ∧ ∀ y ∈ a0, (V_Token) y)) ∧ (a1.length ≤ maxLen) ∧ ys = [(.l 34 (a0.map eToken)), (.s a1)]
theorem decA_TokenBack (B : Base) : DecA Try.prog [22, 9] Good_TokenBack := by
  intro H enc W vs ds ps base hb hok h
  obtain ⟨ys, ⟨hg, hbk⟩, hl⟩ := (decA_cons (decV_one (fun x : (List Token) => (.l 34 (x.map eToken))) (fun _ => (dec_slice eToken Try.underlying22 (by kernel_rfl) (dec_34 _) (fun _ => ⟨rfl, by kernel_rfl, rfl⟩) (by decide))) (sc_slice Try.underlying22)) (decA_cons (decV_one (fun x : (List UInt8) => (.s x)) (fun _ => (dec_string Try.underlying9 (by kernel_rfl))) (sc_string Try.underlying9)) (decA_nil))) H enc W vs ds ps base hb hok h
  refine ⟨ys, ⟨?_, hbk⟩, hl⟩
  obtain ⟨a0, _, v0, ⟨a1, _, v1, rfl, rfl⟩, rfl⟩ := hg
  exact ⟨a0, a1, v0, v1, rfl⟩
def Good_TokenPlaces (ys : List AV) : Prop := ∃ (a0 : (List UInt8)), (a0.length ≤ maxLen) ∧ ys = [(.s a0)]
theorem decA_TokenPlaces (B : Base) : DecA Try.prog [9] Good_TokenPlaces := by
  intro H enc W vs ds ps base hb hok h
  obtain ⟨ys, ⟨hg, hbk⟩, hl⟩ := (decA_cons (decV_one (fun x : (List UInt8) => (.s x)) (fun _ => (dec_string Try.underlying9 (by kernel_rfl))) (sc_string Try.underlying9)) (decA_nil)) H enc W vs ds ps base hb hok h
  refine ⟨ys, ⟨?_, hbk⟩, hl⟩
  obtain ⟨a0, _, v0, rfl, rfl⟩ := hg
  exact ⟨a0, v0, rfl⟩
end Go.Proofs.Ythfllmkfgdknkaa.A
