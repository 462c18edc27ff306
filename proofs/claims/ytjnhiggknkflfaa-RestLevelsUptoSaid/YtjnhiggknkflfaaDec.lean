/- How the arguments of the laws are read, by program. -/
import Derived.Test.YtjnhiggknkflfaaFrame
import Derived.Test.YtjnhiggknkflfaaTypes
import Derived.Test.YtjnhiggknkflfaaProg
set_option maxRecDepth 100000
set_option linter.unusedSectionVars false
set_option linter.unusedVariables false
set_option linter.unusedSimpArgs false
namespace Go.Proofs.Ytjnhiggknkflfaa.A
open Go Go.Proofs
def V_Grant (x : Grant) : Prop := (Lit.int .i64 x.Who).wf = true ∧ (Lit.int .i64 x.For).wf = true
theorem dec_53 [Base] (N : Nat) : Dec Try.prog N 53 Grant (fun x : Grant => [(.i .i64 x.Who), (.i .i64 x.For)]) V_Grant :=
  (dec_struct Try.underlying53 (by kernel_rfl) (decF_cons rfl 1 (by kernel_rfl) (dec_int Try.underlying3 (by kernel_rfl)) (decF_cons rfl 1 (by kernel_rfl) (dec_int Try.underlying3 (by kernel_rfl)) (decF_nil)))).map (fun p => (⟨p.1, p.2.1⟩ : Grant)) (fun x => (x.Who, x.For, ())) (fun _ => rfl) (fun _ => rfl) (fun _ h => ⟨h.1, h.2.1⟩)
def V_Actors (x : Actors) : Prop := (Lit.int .i64 x.Many).wf = true ∧ (x.Grants.length ≤ maxLen ∧ ∀ y ∈ x.Grants, (V_Grant) y)
theorem dec_24 [Base] (N : Nat) : Dec Try.prog N 24 Actors (fun x : Actors => [(.i .i64 x.Many), (.l 53 (x.Grants.map eGrant))]) V_Actors :=
  (dec_struct Try.underlying24 (by kernel_rfl) (decF_cons rfl 1 (by kernel_rfl) (dec_int Try.underlying3 (by kernel_rfl)) (decF_cons rfl 1 (by kernel_rfl) (dec_slice eGrant Try.underlying22 (by kernel_rfl) (dec_53 _) (fun _ => ⟨rfl, by kernel_rfl, rfl⟩) (by decide)) (decF_nil)))).map (fun p => (⟨p.1, p.2.1⟩ : Actors)) (fun x => (x.Many, x.Grants, ())) (fun _ => rfl) (fun _ => rfl) (fun _ h => ⟨h.1, h.2.1⟩)
def V_Level (x : Level) : Prop := (x.Readers.length ≤ maxLen ∧ ∀ y ∈ x.Readers, (fun v : Bool => True) y) ∧ (x.Writers.length ≤ maxLen ∧ ∀ y ∈ x.Writers, (fun v : Bool => True) y)
theorem dec_27 [Base] (N : Nat) : Dec Try.prog N 27 Level (fun x : Level => [(.l 4 (x.Readers.map AV.b)), (.l 4 (x.Writers.map AV.b))]) V_Level :=
  (dec_struct Try.underlying27 (by kernel_rfl) (decF_cons rfl 1 (by kernel_rfl) (dec_slice AV.b Try.underlying25 (by kernel_rfl) (dec_bool Try.underlying4 (by kernel_rfl)) (fun _ => ⟨rfl, by kernel_rfl, rfl⟩) (by decide)) (decF_cons rfl 1 (by kernel_rfl) (dec_slice AV.b Try.underlying25 (by kernel_rfl) (dec_bool Try.underlying4 (by kernel_rfl)) (fun _ => ⟨rfl, by kernel_rfl, rfl⟩) (by decide)) (decF_nil)))).map (fun p => (⟨p.1, p.2.1⟩ : Level)) (fun x => (x.Readers, x.Writers, ())) (fun _ => rfl) (fun _ => rfl) (fun _ h => ⟨h.1, h.2.1⟩)
def V_Policy (x : Policy) : Prop := (Lit.int .i64 x.Owner).wf = true ∧ (x.Names.length ≤ maxLen ∧ ∀ y ∈ x.Names, (fun v : Int => (Lit.int .i64 v).wf = true) y)
theorem dec_61 [Base] (N : Nat) : Dec Try.prog N 61 Policy (fun x : Policy => [(.i .i64 x.Owner), (.l 3 (x.Names.map (AV.i .i64)))]) V_Policy :=
  (dec_struct Try.underlying61 (by kernel_rfl) (decF_cons rfl 1 (by kernel_rfl) (dec_int Try.underlying3 (by kernel_rfl)) (decF_cons rfl 1 (by kernel_rfl) (dec_slice (AV.i .i64) Try.underlying59 (by kernel_rfl) (dec_int Try.underlying3 (by kernel_rfl)) (fun _ => ⟨rfl, by kernel_rfl, rfl⟩) (by decide)) (decF_nil)))).map (fun p => (⟨p.1, p.2.1⟩ : Policy)) (fun x => (x.Owner, x.Names, ())) (fun _ => rfl) (fun _ => rfl) (fun _ h => ⟨h.1, h.2.1⟩)
def V_Label (x : Label) : Prop := (x.Read.length ≤ maxLen ∧ ∀ y ∈ x.Read, (V_Policy) y) ∧ (x.Write.length ≤ maxLen ∧ ∀ y ∈ x.Write, (V_Policy) y)
theorem dec_30 [Base] (N : Nat) : Dec Try.prog N 30 Label (fun x : Label => [(.l 61 (x.Read.map ePolicy)), (.l 61 (x.Write.map ePolicy))]) V_Label :=
  (dec_struct Try.underlying30 (by kernel_rfl) (decF_cons rfl 1 (by kernel_rfl) (dec_slice ePolicy Try.underlying28 (by kernel_rfl) (dec_61 _) (fun _ => ⟨rfl, by kernel_rfl, rfl⟩) (by decide)) (decF_cons rfl 1 (by kernel_rfl) (dec_slice ePolicy Try.underlying28 (by kernel_rfl) (dec_61 _) (fun _ => ⟨rfl, by kernel_rfl, rfl⟩) (by decide)) (decF_nil)))).map (fun p => (⟨p.1, p.2.1⟩ : Label)) (fun x => (x.Read, x.Write, ())) (fun _ => rfl) (fun _ => rfl) (fun _ h => ⟨h.1, h.2.1⟩)
def Good_RestLevels (ys : List AV) : Prop := ∃ (a0 : Actors) (a1 : Level) (a2 : Level) (a3 : Label), (V_Actors a0) ∧ (V_Level a1) ∧ (V_Level a2) ∧ (V_Label a3) ∧ ys = [(.a [(.i .i64 a0.Many), (.l 53 (a0.Grants.map eGrant))]), (.a [(.l 4 (a1.Readers.map AV.b)), (.l 4 (a1.Writers.map AV.b))]), (.a [(.l 4 (a2.Readers.map AV.b)), (.l 4 (a2.Writers.map AV.b))]), (.a [(.l 61 (a3.Read.map ePolicy)), (.l 61 (a3.Write.map ePolicy))])]
theorem decA_RestLevels (B : Base) : DecA Try.prog [24, 27, 27, 30] Good_RestLevels := by
  intro H enc W vs ds ps base hb hok h
  obtain ⟨ys, ⟨hg, hbk⟩, hl⟩ := (decA_cons (decV_struct eActors Try.underlying24 (fun N => dec_24 N) (fun _ => rfl)) (decA_cons (decV_struct eLevel Try.underlying27 (fun N => dec_27 N) (fun _ => rfl)) (decA_cons (decV_struct eLevel Try.underlying27 (fun N => dec_27 N) (fun _ => rfl)) (decA_cons (decV_struct eLabel Try.underlying30 (fun N => dec_30 N) (fun _ => rfl)) (decA_nil))))) H enc W vs ds ps base hb hok h
  refine ⟨ys, ⟨?_, hbk⟩, hl⟩
  obtain ⟨a0, _, v0, ⟨a1, _, v1, ⟨a2, _, v2, ⟨a3, _, v3, rfl, rfl⟩, rfl⟩, rfl⟩, rfl⟩ := hg
  exact ⟨a0, a1, a2, a3, v0, v1, v2, v3, rfl⟩
end Go.Proofs.Ytjnhiggknkflfaa.A
