/- How the arguments of the laws are read, by program. -/
import Derived.Test.YtkiakaohhckepaaFrame
import Derived.Test.YtkiakaohhckepaaTypes
import Derived.Test.YtkiakaohhckepaaProg
set_option maxRecDepth 100000
set_option linter.unusedSectionVars false
namespace Go.Proofs.Ytkiakaohhckepaa.A
open Go Go.Proofs
def V_Grant (x : Grant) : Prop := (Lit.int .i64 x.Who).wf = true ∧ (Lit.int .i64 x.For).wf = true
theorem dec_37 [Base] : Dec Try.prog 37 Grant (fun x : Grant => [(.i .i64 x.Who), (.i .i64 x.For)]) V_Grant :=
  (dec_struct Try.underlying37 (by kernel_rfl) (decF_cons rfl 1 (by kernel_rfl) (dec_int Try.underlying3 (by kernel_rfl)) (decF_cons rfl 1 (by kernel_rfl) (dec_int Try.underlying3 (by kernel_rfl)) (decF_nil)))).map (fun p => (⟨p.1, p.2.1⟩ : Grant)) (fun x => (x.Who, x.For, ())) (fun _ => rfl) (fun _ => rfl) (fun _ h => ⟨h.1, h.2.1⟩)
def V_Actors (x : Actors) : Prop := (Lit.int .i64 x.Many).wf = true ∧ (x.Grants.length ≤ maxLen ∧ ∀ y ∈ x.Grants, (V_Grant) y)
theorem dec_24 [Base] : Dec Try.prog 24 Actors (fun x : Actors => [(.i .i64 x.Many), (.l 37 (x.Grants.map eGrant))]) V_Actors :=
  (dec_struct Try.underlying24 (by kernel_rfl) (decF_cons rfl 1 (by kernel_rfl) (dec_int Try.underlying3 (by kernel_rfl)) (decF_cons rfl 1 (by kernel_rfl) (dec_slice eGrant Try.underlying22 (by kernel_rfl) dec_37 (fun _ => ⟨rfl, by kernel_rfl, rfl⟩) (by decide)) (decF_nil)))).map (fun p => (⟨p.1, p.2.1⟩ : Actors)) (fun x => (x.Many, x.Grants, ())) (fun _ => rfl) (fun _ => rfl) (fun _ h => ⟨h.1, h.2.1⟩)
def Good_ActorsTell (ys : List AV) : Prop := ∃ (a0 : Actors) (a1 : Int) (a2 : Int), (V_Actors a0) ∧ ((Lit.int .i64 a1).wf = true) ∧ ((Lit.int .i64 a2).wf = true) ∧ ys = [(.a [(.i .i64 a0.Many), (.l 37 (a0.Grants.map eGrant))]), (.i .i64 a1), (.i .i64 a2)]
theorem decA_ActorsTell (B : Base) : DecA Try.prog [24, 3, 3] Good_ActorsTell := by
  intro H enc W vs ds ps base hb hok h
  obtain ⟨ys, hg, hl⟩ := (decA_cons (decV_struct eActors Try.underlying24 dec_24 (fun _ => rfl)) (decA_cons (decV_one (fun x : Int => (.i .i64 x)) (dec_int Try.underlying3 (by kernel_rfl)) (sc_int Try.underlying3)) (decA_cons (decV_one (fun x : Int => (.i .i64 x)) (dec_int Try.underlying3 (by kernel_rfl)) (sc_int Try.underlying3)) (decA_nil)))) H enc W vs ds ps base hb hok h
  refine ⟨ys, ?_, hl⟩
  obtain ⟨a0, _, v0, ⟨a1, _, v1, ⟨a2, _, v2, rfl, rfl⟩, rfl⟩, rfl⟩ := hg
  exact ⟨a0, a1, a2, v0, v1, v2, rfl⟩
def Good_ActorsClosed (ys : List AV) : Prop := ∃ (a0 : Actors) (a1 : Grant), (V_Actors a0) ∧ (V_Grant a1) ∧ ys = [(.a [(.i .i64 a0.Many), (.l 37 (a0.Grants.map eGrant))]), (.a [(.i .i64 a1.Who), (.i .i64 a1.For)])]
theorem decA_ActorsClosed (B : Base) : DecA Try.prog [24, 37] Good_ActorsClosed := by
  intro H enc W vs ds ps base hb hok h
  obtain ⟨ys, hg, hl⟩ := (decA_cons (decV_struct eActors Try.underlying24 dec_24 (fun _ => rfl)) (decA_cons (decV_struct eGrant Try.underlying37 dec_37 (fun _ => rfl)) (decA_nil))) H enc W vs ds ps base hb hok h
  refine ⟨ys, ?_, hl⟩
  obtain ⟨a0, _, v0, ⟨a1, _, v1, rfl, rfl⟩, rfl⟩ := hg
  exact ⟨a0, a1, v0, v1, rfl⟩
def V_Policy (x : Policy) : Prop := (Lit.int .i64 x.Owner).wf = true ∧ (x.Names.length ≤ maxLen ∧ ∀ y ∈ x.Names, (fun v : Int => (Lit.int .i64 v).wf = true) y)
theorem dec_59 [Base] : Dec Try.prog 59 Policy (fun x : Policy => [(.i .i64 x.Owner), (.l 3 (x.Names.map (AV.i .i64)))]) V_Policy :=
  (dec_struct Try.underlying59 (by kernel_rfl) (decF_cons rfl 1 (by kernel_rfl) (dec_int Try.underlying3 (by kernel_rfl)) (decF_cons rfl 1 (by kernel_rfl) (dec_slice (AV.i .i64) Try.underlying57 (by kernel_rfl) (dec_int Try.underlying3 (by kernel_rfl)) (fun _ => ⟨rfl, by kernel_rfl, rfl⟩) (by decide)) (decF_nil)))).map (fun p => (⟨p.1, p.2.1⟩ : Policy)) (fun x => (x.Owner, x.Names, ())) (fun _ => rfl) (fun _ => rfl) (fun _ h => ⟨h.1, h.2.1⟩)
def V_Label (x : Label) : Prop := (x.Read.length ≤ maxLen ∧ ∀ y ∈ x.Read, (V_Policy) y) ∧ (x.Write.length ≤ maxLen ∧ ∀ y ∈ x.Write, (V_Policy) y)
theorem dec_41 [Base] : Dec Try.prog 41 Label (fun x : Label => [(.l 59 (x.Read.map ePolicy)), (.l 59 (x.Write.map ePolicy))]) V_Label :=
  (dec_struct Try.underlying41 (by kernel_rfl) (decF_cons rfl 1 (by kernel_rfl) (dec_slice ePolicy Try.underlying39 (by kernel_rfl) dec_59 (fun _ => ⟨rfl, by kernel_rfl, rfl⟩) (by decide)) (decF_cons rfl 1 (by kernel_rfl) (dec_slice ePolicy Try.underlying39 (by kernel_rfl) dec_59 (fun _ => ⟨rfl, by kernel_rfl, rfl⟩) (by decide)) (decF_nil)))).map (fun p => (⟨p.1, p.2.1⟩ : Label)) (fun x => (x.Read, x.Write, ())) (fun _ => rfl) (fun _ => rfl) (fun _ h => ⟨h.1, h.2.1⟩)
def Good_LabelLevels (ys : List AV) : Prop := ∃ (a0 : Actors) (a1 : Label), (V_Actors a0) ∧ (V_Label a1) ∧ ys = [(.a [(.i .i64 a0.Many), (.l 37 (a0.Grants.map eGrant))]), (.a [(.l 59 (a1.Read.map ePolicy)), (.l 59 (a1.Write.map ePolicy))])]
theorem decA_LabelLevels (B : Base) : DecA Try.prog [24, 41] Good_LabelLevels := by
  intro H enc W vs ds ps base hb hok h
  obtain ⟨ys, hg, hl⟩ := (decA_cons (decV_struct eActors Try.underlying24 dec_24 (fun _ => rfl)) (decA_cons (decV_struct eLabel Try.underlying41 dec_41 (fun _ => rfl)) (decA_nil))) H enc W vs ds ps base hb hok h
  refine ⟨ys, ?_, hl⟩
  obtain ⟨a0, _, v0, ⟨a1, _, v1, rfl, rfl⟩, rfl⟩ := hg
  exact ⟨a0, a1, v0, v1, rfl⟩
def V_Level (x : Level) : Prop := (x.Readers.length ≤ maxLen ∧ ∀ y ∈ x.Readers, (fun v : Bool => True) y) ∧ (x.Writers.length ≤ maxLen ∧ ∀ y ∈ x.Writers, (fun v : Bool => True) y)
theorem dec_43 [Base] : Dec Try.prog 43 Level (fun x : Level => [(.l 4 (x.Readers.map AV.b)), (.l 4 (x.Writers.map AV.b))]) V_Level :=
  (dec_struct Try.underlying43 (by kernel_rfl) (decF_cons rfl 1 (by kernel_rfl) (dec_slice AV.b Try.underlying35 (by kernel_rfl) (dec_bool Try.underlying4 (by kernel_rfl)) (fun _ => ⟨rfl, by kernel_rfl, rfl⟩) (by decide)) (decF_cons rfl 1 (by kernel_rfl) (dec_slice AV.b Try.underlying35 (by kernel_rfl) (dec_bool Try.underlying4 (by kernel_rfl)) (fun _ => ⟨rfl, by kernel_rfl, rfl⟩) (by decide)) (decF_nil)))).map (fun p => (⟨p.1, p.2.1⟩ : Level)) (fun x => (x.Readers, x.Writers, ())) (fun _ => rfl) (fun _ => rfl) (fun _ h => ⟨h.1, h.2.1⟩)
def Good_LabelJoins (ys : List AV) : Prop := ∃ (a0 : Actors) (a1 : Level) (a2 : Level), (V_Actors a0) ∧ (V_Level a1) ∧ (V_Level a2) ∧ ys = [(.a [(.i .i64 a0.Many), (.l 37 (a0.Grants.map eGrant))]), (.a [(.l 4 (a1.Readers.map AV.b)), (.l 4 (a1.Writers.map AV.b))]), (.a [(.l 4 (a2.Readers.map AV.b)), (.l 4 (a2.Writers.map AV.b))])]
theorem decA_LabelJoins (B : Base) : DecA Try.prog [24, 43, 43] Good_LabelJoins := by
  intro H enc W vs ds ps base hb hok h
  obtain ⟨ys, hg, hl⟩ := (decA_cons (decV_struct eActors Try.underlying24 dec_24 (fun _ => rfl)) (decA_cons (decV_struct eLevel Try.underlying43 dec_43 (fun _ => rfl)) (decA_cons (decV_struct eLevel Try.underlying43 dec_43 (fun _ => rfl)) (decA_nil)))) H enc W vs ds ps base hb hok h
  refine ⟨ys, ?_, hl⟩
  obtain ⟨a0, _, v0, ⟨a1, _, v1, ⟨a2, _, v2, rfl, rfl⟩, rfl⟩, rfl⟩ := hg
  exact ⟨a0, a1, a2, v0, v1, v2, rfl⟩
def Good_LabelOrder (ys : List AV) : Prop := ∃ (a0 : Actors) (a1 : Level) (a2 : Level) (a3 : Level), (V_Actors a0) ∧ (V_Level a1) ∧ (V_Level a2) ∧ (V_Level a3) ∧ ys = [(.a [(.i .i64 a0.Many), (.l 37 (a0.Grants.map eGrant))]), (.a [(.l 4 (a1.Readers.map AV.b)), (.l 4 (a1.Writers.map AV.b))]), (.a [(.l 4 (a2.Readers.map AV.b)), (.l 4 (a2.Writers.map AV.b))]), (.a [(.l 4 (a3.Readers.map AV.b)), (.l 4 (a3.Writers.map AV.b))])]
theorem decA_LabelOrder (B : Base) : DecA Try.prog [24, 43, 43, 43] Good_LabelOrder := by
  intro H enc W vs ds ps base hb hok h
  obtain ⟨ys, hg, hl⟩ := (decA_cons (decV_struct eActors Try.underlying24 dec_24 (fun _ => rfl)) (decA_cons (decV_struct eLevel Try.underlying43 dec_43 (fun _ => rfl)) (decA_cons (decV_struct eLevel Try.underlying43 dec_43 (fun _ => rfl)) (decA_cons (decV_struct eLevel Try.underlying43 dec_43 (fun _ => rfl)) (decA_nil))))) H enc W vs ds ps base hb hok h
  refine ⟨ys, ?_, hl⟩
  obtain ⟨a0, _, v0, ⟨a1, _, v1, ⟨a2, _, v2, ⟨a3, _, v3, rfl, rfl⟩, rfl⟩, rfl⟩, rfl⟩ := hg
  exact ⟨a0, a1, a2, a3, v0, v1, v2, v3, rfl⟩
def Good_LabelMore (ys : List AV) : Prop := ∃ (a0 : Actors) (a1 : Label) (a2 : Policy), (V_Actors a0) ∧ (V_Label a1) ∧ (V_Policy a2) ∧ ys = [(.a [(.i .i64 a0.Many), (.l 37 (a0.Grants.map eGrant))]), (.a [(.l 59 (a1.Read.map ePolicy)), (.l 59 (a1.Write.map ePolicy))]), (.a [(.i .i64 a2.Owner), (.l 3 (a2.Names.map (AV.i .i64)))])]
theorem decA_LabelMore (B : Base) : DecA Try.prog [24, 41, 59] Good_LabelMore := by
  intro H enc W vs ds ps base hb hok h
  obtain ⟨ys, hg, hl⟩ := (decA_cons (decV_struct eActors Try.underlying24 dec_24 (fun _ => rfl)) (decA_cons (decV_struct eLabel Try.underlying41 dec_41 (fun _ => rfl)) (decA_cons (decV_struct ePolicy Try.underlying59 dec_59 (fun _ => rfl)) (decA_nil)))) H enc W vs ds ps base hb hok h
  refine ⟨ys, ?_, hl⟩
  obtain ⟨a0, _, v0, ⟨a1, _, v1, ⟨a2, _, v2, rfl, rfl⟩, rfl⟩, rfl⟩ := hg
  exact ⟨a0, a1, a2, v0, v1, v2, rfl⟩
end Go.Proofs.Ytkiakaohhckepaa.A
