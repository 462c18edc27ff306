/- Functions of the program as plain functions, by program. -/
import Derived.Test.YtjnhiggknkflfaaTypes
import Derived.Test.YtjnhiggknkflfaaLift
import Derived.Test.YtjnhiggknkflfaaFA
set_option maxRecDepth 100000
set_option linter.unusedSectionVars false
set_option linter.unusedVariables false
set_option linter.unusedSimpArgs false
set_option linter.constructorNameAsVariable false
namespace Go.Proofs.Ytjnhiggknkflfaa.A
open Go
variable [Lp]
abbrev Y_actors_Is (a0 : Actors) (a1 : Int) (r : Bool) : AEnd × HP := (.ret (.b r), H0)
abbrev O_actors_Is (a0 : Actors) (a1 : Int) (r : Bool) : Prop := call G Ω0 E0 46 [(.a [(I a0.Many), (.l 53 (a0.Grants.map eGrant))]), (I a1)] H0 = some (Y_actors_Is a0 a1 r)
noncomputable def F_actors_Is (a0 : Actors) (a1 : Int) : Option Bool :=
  if 0 ≤ a1 then
    some (decide (a1 < a0.Many))
  else
    some false
theorem lift_actors_Is (a0 : Actors) (a1 : Int) (r : Bool) (h : F_actors_Is a0 a1 = some r) : O_actors_Is a0 a1 r :=
  have L := fun {a} => lY (Y := Y_actors_Is a0 a1) (a := a) (r := r)
  callT G46 (AT.or (bt <| bt <| bt <| bt <| bt <| bt <| AT.nil) (bf <| bf <| bf <| bf <| bf <| AT.nil)) (ai tt <| orP h (fun h1 h => ai (g1 (decide_eq_true h1)) <| ai (g1 (decide_eq_true h1)) <| ai (g1 (decide_eq_true h1)) <| ai (rfl : Z0) <| ai (g1 (decide_eq_true h1)) <| ai (decide_eq_true h1) <| L h) (fun h1 h => ai (g1 (decide_eq_false h1)) <| ai (g1 (decide_eq_false h1)) <| ai (g1 (decide_eq_false h1)) <| ai (g1 (decide_eq_false h1)) <| ai (decide_eq_false h1) <| L h)) (by kernel_rfl)
abbrev Y_actors_Check_1 (a0 : Grant) (a1 : Actors) (r : Bool) : AEnd × HP := (.ret (.b r), H0)
abbrev O_actors_Check_1 (a0 : Grant) (a1 : Actors) (r : Bool) : Prop := call G Ω0 E0 45 [(.a [(I a0.Who), (I a0.For)]), (.e (.a [(I a1.Many), (.l 53 (a1.Grants.map eGrant))]) 0)] H0 = some (Y_actors_Check_1 a0 a1 r)
noncomputable def F_actors_Check_1 (a0 : Grant) (a1 : Actors) : Option Bool :=
  (F_actors_Is a1 a0.Who).bind fun (r1 : Bool) =>
  if r1 = true then
    (F_actors_Is a1 a0.For).bind fun (r4 : Bool) =>
    some (!r4)
  else
    some true
theorem lift_actors_Check_1 (a0 : Grant) (a1 : Actors) (r : Bool) (h : F_actors_Check_1 a0 a1 = some r) : O_actors_Check_1 a0 a1 r :=
  have L := fun {a} => lY (Y := Y_actors_Check_1 a0 a1) (a := a) (r := r)
  callT G45 (bt <| AT.ex fun (r1 : Bool) => ao (.v (.b r1)) <| AT.or (bt <| bt <| bt <| bt <| bt <| AT.ex fun (r4 : Bool) => ao (.v (.b r4)) <| bt <| bf <| AT.nil) (bf <| bf <| bf <| bf <| bf <| bt <| AT.nil)) (ai tt <| ai (rfl : Z0) <| exB h fun r1 ek2 h => have ek2 := lift_actors_Is a1 a0.Who _ ek2; ai ek2 <| orB h (fun h3 h => ai (g0 (congrArg not h3)) <| ai (g0 (congrArg not h3)) <| ai (g0 (congrArg not h3)) <| ai (rfl : Z0) <| ai (g0 (congrArg not h3)) <| exB h fun r4 ek5 h => have ek5 := lift_actors_Is a1 a0.For _ ek5; ai ek5 <| ai (g0 (congrArg not h3)) <| ai (congrArg not h3) <| L h) (fun h3 h => ai (g0 (congrArg not h3)) <| ai (g0 (congrArg not h3)) <| ai (g0 (congrArg not h3)) <| ai (g0 (congrArg not h3)) <| ai (g0 (congrArg not h3)) <| ai (congrArg not h3) <| L h)) (by kernel_rfl)
noncomputable def B_slices_IndexFunc__actors_Check_1_0 (a0 : (List Grant)) (a1 : Actors) (v0_8 : Nat) : Option (Nat ⊕ (Nat ⊕ (Nat × Bool))) :=
  if (v0_8 : Int) < (a0.length : Int) then
    (a0[v0_8]?).bind fun (y2 : Grant) =>
    (F_actors_Check_1 y2 a1).bind fun (r4 : Bool) =>
    if r4 = true then
      some (.inr (.inl v0_8))
    else
      if IntKind.i64.wrap ((v0_8 : Int) + 1) = ((v0_8 + 1 : Nat) : Int) then
        some (.inl (v0_8 + 1))
      else none
  else
    some (.inr (.inr (v0_8, decide ((v0_8 : Int) < (a0.length : Int)))))
abbrev S_slices_IndexFunc__actors_Check_1_0 (a0 : (List Grant)) (a1 : Actors) (v : Nat) : St := ⟨[(0, (.l 53 (a0.map eGrant))), (1, (.f 45 [(.e (.a [(I a1.Many), (.l 53 (a1.Grants.map eGrant))]) 0)])), (7, (I (a0.length : Int))), (8, (I (v : Int)))], [], H0⟩
abbrev X_slices_IndexFunc__actors_Check_1_0 (a0 : (List Grant)) (a1 : Actors) (x : (Nat ⊕ (Nat × Bool))) : AExit × St := match x with | .inl z1 => (.ret, ⟨[(4, (I (z1 : Int)))], [], H0⟩) | .inr (z1, z2) => ((.ex 0), ⟨[(0, (.l 53 (a0.map eGrant))), (1, (.f 45 [(.e (.a [(I a1.Many), (.l 53 (a1.Grants.map eGrant))]) 0)])), (7, (I (a0.length : Int))), (8, (I (z1 : Int))), (9, (.b z2))], [], H0⟩)
theorem LB_slices_IndexFunc__actors_Check_1_0 (a0 : (List Grant)) (a1 : Actors) (v0_8 : Nat) (o : Nat ⊕ (Nat ⊕ (Nat × Bool))) (h : B_slices_IndexFunc__actors_Check_1_0 a0 a1 v0_8 = some o) : bodyOK E0 c51_0 (S_slices_IndexFunc__actors_Check_1_0 a0 a1) (X_slices_IndexFunc__actors_Check_1_0 a0 a1) v0_8 o :=
  have L := fun {a} => lY (Y := bodyY (S_slices_IndexFunc__actors_Check_1_0 a0 a1) (X_slices_IndexFunc__actors_Check_1_0 a0 a1)) (a := a) (r := o)
  bodyT (AT.or (bt <| ao (.n v0_8) <| AT.ex fun (y2 : Grant) => ao (.v (.a [(I y2.Who), (I y2.For)])) <| AT.ex fun (r4 : Bool) => ao (.v (.b r4)) <| AT.or (bt <| AT.nil) (bf <| ao (.i ((v0_8 + 1 : Nat) : Int)) <| AT.nil)) (bf <| AT.nil)) (orP h (fun h1 h => ai (decide_eq_true h1) <| ai (rfl : (v0_8 : Int) = (v0_8 : Int)) <| exB h fun y2 h3 h => ai (map_get eGrant h3) <| exB h fun r4 ek5 h => have ek5 := lift_actors_Check_1 y2 a1 _ ek5; ai ek5 <| orB h (fun h6 h => ai h6 <| L h) (fun h6 h => ai h6 <| asrtP h fun w7 h => ai w7 <| L h)) (fun h1 h => ai (decide_eq_false h1) <| L h)) (by kernel_rfl)
theorem LL_slices_IndexFunc__actors_Check_1_0 (a0 : (List Grant)) (a1 : Actors) (v : Nat) (x : (Nat ⊕ (Nat × Bool))) (h : lp (fun v => B_slices_IndexFunc__actors_Check_1_0 a0 a1 v) v = some x) : lpAt G Ω0 E0 c51_0 (S_slices_IndexFunc__actors_Check_1_0 a0 a1 v) = some (X_slices_IndexFunc__actors_Check_1_0 a0 a1 x) :=
  lp_lift c51_0 (S_slices_IndexFunc__actors_Check_1_0 a0 a1) (X_slices_IndexFunc__actors_Check_1_0 a0 a1) (fun _ => rfl) (fun v o h => LB_slices_IndexFunc__actors_Check_1_0 a0 a1 v o h) h
abbrev Y_slices_IndexFunc__actors_Check_1 (a0 : (List Grant)) (a1 : Actors) (r : Int) : AEnd × HP := (.ret (I r), H0)
abbrev O_slices_IndexFunc__actors_Check_1 (a0 : (List Grant)) (a1 : Actors) (r : Int) : Prop := call G Ω0 E0 51 [(.l 53 (a0.map eGrant)), (.f 45 [(.e (.a [(I a1.Many), (.l 53 (a1.Grants.map eGrant))]) 0)])] H0 = some (Y_slices_IndexFunc__actors_Check_1 a0 a1 r)
noncomputable def F_slices_IndexFunc__actors_Check_1 (a0 : (List Grant)) (a1 : Actors) : Option Int :=
  (lp (fun v => B_slices_IndexFunc__actors_Check_1_0 a0 a1 v) 0).bind fun (x1 : (Nat ⊕ (Nat × Bool))) => match x1 with
  | .inl ya_2 =>
    some (ya_2 : Int)
  | .inr yb_2 =>
    some (-1)
theorem lift_slices_IndexFunc__actors_Check_1 (a0 : (List Grant)) (a1 : Actors) (r : Int) (h : F_slices_IndexFunc__actors_Check_1 a0 a1 = some r) : O_slices_IndexFunc__actors_Check_1 a0 a1 r :=
  have L := fun {a} => lY (Y := Y_slices_IndexFunc__actors_Check_1 a0 a1) (a := a) (r := r)
  callT G51 (ao (.i (a0.length : Int)) <| AT.or (AT.ex fun (ya_2 : Nat) => ao (.lp .ret ⟨[(4, (I (ya_2 : Int)))], [], H0⟩) <| AT.nil) (AT.ex fun (yb_2 : (Nat × Bool)) => ao (.lp (.ex 0) ⟨[(0, (.l 53 (a0.map eGrant))), (1, (.f 45 [(.e (.a [(I a1.Many), (.l 53 (a1.Grants.map eGrant))]) 0)])), (7, (I (a0.length : Int))), (8, (I (yb_2.1 : Int))), (9, (.b yb_2.2))], [], H0⟩) <| AT.nil)) (ai (map_len eGrant a0) <| sum2 h (fun ya_2 lp3 h => have lp3 := LL_slices_IndexFunc__actors_Check_1_0 a0 a1 0 _ lp3; ai lp3 <| L h) (fun yb_2 lp3 h => have lp3 := LL_slices_IndexFunc__actors_Check_1_0 a0 a1 0 _ lp3; ai lp3 <| L h)) (by kernel_rfl)
abbrev Y_slices_ContainsFunc__actors_Check_1 (a0 : (List Grant)) (a1 : Actors) (r : Bool) : AEnd × HP := (.ret (.b r), H0)
abbrev O_slices_ContainsFunc__actors_Check_1 (a0 : (List Grant)) (a1 : Actors) (r : Bool) : Prop := call G Ω0 E0 44 [(.l 53 (a0.map eGrant)), (.f 45 [(.e (.a [(I a1.Many), (.l 53 (a1.Grants.map eGrant))]) 0)])] H0 = some (Y_slices_ContainsFunc__actors_Check_1 a0 a1 r)
noncomputable def F_slices_ContainsFunc__actors_Check_1 (a0 : (List Grant)) (a1 : Actors) : Option Bool :=
  (F_slices_IndexFunc__actors_Check_1 a0 a1).bind fun (r1 : Int) =>
  some (decide (0 ≤ r1))
theorem lift_slices_ContainsFunc__actors_Check_1 (a0 : (List Grant)) (a1 : Actors) (r : Bool) (h : F_slices_ContainsFunc__actors_Check_1 a0 a1 = some r) : O_slices_ContainsFunc__actors_Check_1 a0 a1 r :=
  have L := fun {a} => lY (Y := Y_slices_ContainsFunc__actors_Check_1 a0 a1) (a := a) (r := r)
  callT G44 (AT.ex fun (r1 : Int) => ao (.v (I r1)) <| AT.nil) (exB h fun r1 ek2 h => have ek2 := lift_slices_IndexFunc__actors_Check_1 a0 a1 _ ek2; ai ek2 <| L h) (by kernel_rfl)
abbrev Y_actors_Check (a0 : Actors) (r : Int) : AEnd × HP := (.ret (I r), H0)
abbrev O_actors_Check (a0 : Actors) (r : Int) : Prop := call G Ω0 E0 31 [(.a [(I a0.Many), (.l 53 (a0.Grants.map eGrant))])] H0 = some (Y_actors_Check a0 r)
noncomputable def F_actors_Check (a0 : Actors) : Option Int :=
  if a0.Many < 1 then
    some 3
  else
    if 6 < a0.Many then
      some 3
    else
      if 20 < (a0.Grants.length : Int) then
        some 2
      else
        (F_slices_ContainsFunc__actors_Check_1 a0.Grants a0).bind fun (r4 : Bool) =>
        if r4 = true then
          some 5
        else
          some 0
theorem lift_actors_Check (a0 : Actors) (r : Int) (h : F_actors_Check a0 = some r) : O_actors_Check a0 r :=
  have L := fun {a} => lY (Y := Y_actors_Check a0) (a := a) (r := r)
  callT G31 (bt <| AT.or (bf <| bf <| bf <| bt <| bt <| AT.nil) (bt <| bt <| bt <| bt <| bf <| AT.or (bt <| AT.nil) (bf <| bt <| ao (.i (a0.Grants.length : Int)) <| AT.or (bt <| AT.nil) (bf <| AT.ex fun (r4 : Bool) => ao (.v (.b r4)) <| AT.or (bt <| AT.nil) (bf <| AT.nil))))) (ai tt <| ai (rfl : Z0) <| orP h (fun h1 h => ai (g0 (decide_eq_true h1)) <| ai (g0 (decide_eq_true h1)) <| ai (g0 (decide_eq_true h1)) <| ai (decide_eq_true h1) <| ai tt <| L h) (fun h1 h => ai (g0 (decide_eq_false h1)) <| ai (g0 (decide_eq_false h1)) <| ai (rfl : Z0) <| ai (g0 (decide_eq_false h1)) <| ai (decide_eq_false h1) <| orP h (fun h2 h => ai (decide_eq_true h2) <| L h) (fun h2 h => ai (decide_eq_false h2) <| ai (rfl : Z0) <| ai (map_len eGrant a0.Grants) <| orP h (fun h3 h => ai (decide_eq_true h3) <| L h) (fun h3 h => ai (decide_eq_false h3) <| ai (rfl : Z0) <| exB h fun r4 ek5 h => have ek5 := lift_slices_ContainsFunc__actors_Check_1 a0.Grants a0 _ ek5; ai ek5 <| orB h (fun h6 h => ai h6 <| L h) (fun h6 h => ai h6 <| L h))))) (by kernel_rfl)
abbrev Y_label_Sized (a0 : Actors) (a1 : Level) (r : Bool) : AEnd × HP := (.ret (.b r), H0)
abbrev O_label_Sized (a0 : Actors) (a1 : Level) (r : Bool) : Prop := call G Ω0 E0 36 [(.a [(I a0.Many), (.l 53 (a0.Grants.map eGrant))]), (.a [(.l 4 (a1.Readers.map AV.b)), (.l 4 (a1.Writers.map AV.b))])] H0 = some (Y_label_Sized a0 a1 r)
noncomputable def F_label_Sized (a0 : Actors) (a1 : Level) : Option Bool :=
  if ((a1.Readers.length : Int) == a0.Many) = true then
    some ((a1.Writers.length : Int) == a0.Many)
  else
    some false
theorem lift_label_Sized (a0 : Actors) (a1 : Level) (r : Bool) (h : F_label_Sized a0 a1 = some r) : O_label_Sized a0 a1 r :=
  have L := fun {a} => lY (Y := Y_label_Sized a0 a1) (a := a) (r := r)
  callT G36 (bt <| ao (.i (a1.Readers.length : Int)) <| bt <| AT.or (bt <| bt <| bt <| bt <| ao (.i (a1.Writers.length : Int)) <| bt <| bt <| bt <| bt <| bt <| AT.nil) (bf <| bf <| bf <| bf <| bf <| bf <| bf <| AT.nil)) (ai tt <| ai tt <| ai (rfl : Z0) <| ai (map_len AV.b a1.Readers) <| ai (rfl : Z0) <| orB h (fun h1 h => ai (g1 h1) <| ai (g1 h1) <| ai (rfl : Z0) <| ai (g1 h1) <| ai (map_len AV.b a1.Writers) <| ai (g1 h1) <| ai (g1 h1) <| ai (rfl : Z0) <| ai (g1 h1) <| ai h1 <| L h) (fun h1 h => ai (g1 h1) <| ai (g1 h1) <| ai (g1 h1) <| ai (g1 h1) <| ai (g1 h1) <| ai (g1 h1) <| ai h1 <| L h)) (by kernel_rfl)
abbrev Y_label_ready_1 (a0 : Level) (a1 : Actors) (r : Bool) : AEnd × HP := (.ret (.b r), H0)
abbrev O_label_ready_1 (a0 : Level) (a1 : Actors) (r : Bool) : Prop := call G Ω0 E0 35 [(.a [(.l 4 (a0.Readers.map AV.b)), (.l 4 (a0.Writers.map AV.b))]), (.e (.a [(I a1.Many), (.l 53 (a1.Grants.map eGrant))]) 0)] H0 = some (Y_label_ready_1 a0 a1 r)
noncomputable def F_label_ready_1 (a0 : Level) (a1 : Actors) : Option Bool :=
  (F_label_Sized a1 a0).bind fun (r1 : Bool) =>
  some (!r1)
theorem lift_label_ready_1 (a0 : Level) (a1 : Actors) (r : Bool) (h : F_label_ready_1 a0 a1 = some r) : O_label_ready_1 a0 a1 r :=
  have L := fun {a} => lY (Y := Y_label_ready_1 a0 a1) (a := a) (r := r)
  callT G35 (bt <| AT.ex fun (r1 : Bool) => ao (.v (.b r1)) <| AT.nil) (ai tt <| ai (rfl : Z0) <| exB h fun r1 ek2 h => have ek2 := lift_label_Sized a1 a0 _ ek2; ai ek2 <| L h) (by kernel_rfl)
noncomputable def B_slices_IndexFunc__label_ready_1_0 (a0 : (List Level)) (a1 : Actors) (v0_8 : Nat) : Option (Nat ⊕ (Nat ⊕ (Nat × Bool))) :=
  if (v0_8 : Int) < (a0.length : Int) then
    (a0[v0_8]?).bind fun (y2 : Level) =>
    (F_label_ready_1 y2 a1).bind fun (r4 : Bool) =>
    if r4 = true then
      some (.inr (.inl v0_8))
    else
      if IntKind.i64.wrap ((v0_8 : Int) + 1) = ((v0_8 + 1 : Nat) : Int) then
        some (.inl (v0_8 + 1))
      else none
  else
    some (.inr (.inr (v0_8, decide ((v0_8 : Int) < (a0.length : Int)))))
abbrev S_slices_IndexFunc__label_ready_1_0 (a0 : (List Level)) (a1 : Actors) (v : Nat) : St := ⟨[(0, (.l 27 (a0.map eLevel))), (1, (.f 35 [(.e (.a [(I a1.Many), (.l 53 (a1.Grants.map eGrant))]) 0)])), (7, (I (a0.length : Int))), (8, (I (v : Int)))], [], H0⟩
abbrev X_slices_IndexFunc__label_ready_1_0 (a0 : (List Level)) (a1 : Actors) (x : (Nat ⊕ (Nat × Bool))) : AExit × St := match x with | .inl z1 => (.ret, ⟨[(4, (I (z1 : Int)))], [], H0⟩) | .inr (z1, z2) => ((.ex 0), ⟨[(0, (.l 27 (a0.map eLevel))), (1, (.f 35 [(.e (.a [(I a1.Many), (.l 53 (a1.Grants.map eGrant))]) 0)])), (7, (I (a0.length : Int))), (8, (I (z1 : Int))), (9, (.b z2))], [], H0⟩)
theorem LB_slices_IndexFunc__label_ready_1_0 (a0 : (List Level)) (a1 : Actors) (v0_8 : Nat) (o : Nat ⊕ (Nat ⊕ (Nat × Bool))) (h : B_slices_IndexFunc__label_ready_1_0 a0 a1 v0_8 = some o) : bodyOK E0 c48_0 (S_slices_IndexFunc__label_ready_1_0 a0 a1) (X_slices_IndexFunc__label_ready_1_0 a0 a1) v0_8 o :=
  have L := fun {a} => lY (Y := bodyY (S_slices_IndexFunc__label_ready_1_0 a0 a1) (X_slices_IndexFunc__label_ready_1_0 a0 a1)) (a := a) (r := o)
  bodyT (AT.or (bt <| ao (.n v0_8) <| AT.ex fun (y2 : Level) => ao (.v (.a [(.l 4 (y2.Readers.map AV.b)), (.l 4 (y2.Writers.map AV.b))])) <| AT.ex fun (r4 : Bool) => ao (.v (.b r4)) <| AT.or (bt <| AT.nil) (bf <| ao (.i ((v0_8 + 1 : Nat) : Int)) <| AT.nil)) (bf <| AT.nil)) (orP h (fun h1 h => ai (decide_eq_true h1) <| ai (rfl : (v0_8 : Int) = (v0_8 : Int)) <| exB h fun y2 h3 h => ai (map_get eLevel h3) <| exB h fun r4 ek5 h => have ek5 := lift_label_ready_1 y2 a1 _ ek5; ai ek5 <| orB h (fun h6 h => ai h6 <| L h) (fun h6 h => ai h6 <| asrtP h fun w7 h => ai w7 <| L h)) (fun h1 h => ai (decide_eq_false h1) <| L h)) (by kernel_rfl)
theorem LL_slices_IndexFunc__label_ready_1_0 (a0 : (List Level)) (a1 : Actors) (v : Nat) (x : (Nat ⊕ (Nat × Bool))) (h : lp (fun v => B_slices_IndexFunc__label_ready_1_0 a0 a1 v) v = some x) : lpAt G Ω0 E0 c48_0 (S_slices_IndexFunc__label_ready_1_0 a0 a1 v) = some (X_slices_IndexFunc__label_ready_1_0 a0 a1 x) :=
  lp_lift c48_0 (S_slices_IndexFunc__label_ready_1_0 a0 a1) (X_slices_IndexFunc__label_ready_1_0 a0 a1) (fun _ => rfl) (fun v o h => LB_slices_IndexFunc__label_ready_1_0 a0 a1 v o h) h
abbrev Y_slices_IndexFunc__label_ready_1 (a0 : (List Level)) (a1 : Actors) (r : Int) : AEnd × HP := (.ret (I r), H0)
abbrev O_slices_IndexFunc__label_ready_1 (a0 : (List Level)) (a1 : Actors) (r : Int) : Prop := call G Ω0 E0 48 [(.l 27 (a0.map eLevel)), (.f 35 [(.e (.a [(I a1.Many), (.l 53 (a1.Grants.map eGrant))]) 0)])] H0 = some (Y_slices_IndexFunc__label_ready_1 a0 a1 r)
noncomputable def F_slices_IndexFunc__label_ready_1 (a0 : (List Level)) (a1 : Actors) : Option Int :=
  (lp (fun v => B_slices_IndexFunc__label_ready_1_0 a0 a1 v) 0).bind fun (x1 : (Nat ⊕ (Nat × Bool))) => match x1 with
  | .inl ya_2 =>
    some (ya_2 : Int)
  | .inr yb_2 =>
    some (-1)
theorem lift_slices_IndexFunc__label_ready_1 (a0 : (List Level)) (a1 : Actors) (r : Int) (h : F_slices_IndexFunc__label_ready_1 a0 a1 = some r) : O_slices_IndexFunc__label_ready_1 a0 a1 r :=
  have L := fun {a} => lY (Y := Y_slices_IndexFunc__label_ready_1 a0 a1) (a := a) (r := r)
  callT G48 (ao (.i (a0.length : Int)) <| AT.or (AT.ex fun (ya_2 : Nat) => ao (.lp .ret ⟨[(4, (I (ya_2 : Int)))], [], H0⟩) <| AT.nil) (AT.ex fun (yb_2 : (Nat × Bool)) => ao (.lp (.ex 0) ⟨[(0, (.l 27 (a0.map eLevel))), (1, (.f 35 [(.e (.a [(I a1.Many), (.l 53 (a1.Grants.map eGrant))]) 0)])), (7, (I (a0.length : Int))), (8, (I (yb_2.1 : Int))), (9, (.b yb_2.2))], [], H0⟩) <| AT.nil)) (ai (map_len eLevel a0) <| sum2 h (fun ya_2 lp3 h => have lp3 := LL_slices_IndexFunc__label_ready_1_0 a0 a1 0 _ lp3; ai lp3 <| L h) (fun yb_2 lp3 h => have lp3 := LL_slices_IndexFunc__label_ready_1_0 a0 a1 0 _ lp3; ai lp3 <| L h)) (by kernel_rfl)
abbrev Y_slices_ContainsFunc__label_ready_1 (a0 : (List Level)) (a1 : Actors) (r : Bool) : AEnd × HP := (.ret (.b r), H0)
abbrev O_slices_ContainsFunc__label_ready_1 (a0 : (List Level)) (a1 : Actors) (r : Bool) : Prop := call G Ω0 E0 34 [(.l 27 (a0.map eLevel)), (.f 35 [(.e (.a [(I a1.Many), (.l 53 (a1.Grants.map eGrant))]) 0)])] H0 = some (Y_slices_ContainsFunc__label_ready_1 a0 a1 r)
noncomputable def F_slices_ContainsFunc__label_ready_1 (a0 : (List Level)) (a1 : Actors) : Option Bool :=
  (F_slices_IndexFunc__label_ready_1 a0 a1).bind fun (r1 : Int) =>
  some (decide (0 ≤ r1))
theorem lift_slices_ContainsFunc__label_ready_1 (a0 : (List Level)) (a1 : Actors) (r : Bool) (h : F_slices_ContainsFunc__label_ready_1 a0 a1 = some r) : O_slices_ContainsFunc__label_ready_1 a0 a1 r :=
  have L := fun {a} => lY (Y := Y_slices_ContainsFunc__label_ready_1 a0 a1) (a := a) (r := r)
  callT G34 (AT.ex fun (r1 : Int) => ao (.v (I r1)) <| AT.nil) (exB h fun r1 ek2 h => have ek2 := lift_slices_IndexFunc__label_ready_1 a0 a1 _ ek2; ai ek2 <| L h) (by kernel_rfl)
abbrev Y_label_ready (a0 : Actors) (a1 : (List Level)) (r : Int) : AEnd × HP := (.ret (I r), H0)
abbrev O_label_ready (a0 : Actors) (a1 : (List Level)) (r : Int) : Prop := call G Ω0 E0 25 [(.a [(I a0.Many), (.l 53 (a0.Grants.map eGrant))]), (.l 27 (a1.map eLevel))] H0 = some (Y_label_ready a0 a1 r)
noncomputable def F_label_ready (a0 : Actors) (a1 : (List Level)) : Option Int :=
  (F_actors_Check a0).bind fun (r1 : Int) =>
  if (r1 != 0) = true then
    some r1
  else
    (F_slices_ContainsFunc__label_ready_1 a1 a0).bind fun (r4 : Bool) =>
    if r4 = true then
      some 1
    else
      some 0
theorem lift_label_ready (a0 : Actors) (a1 : (List Level)) (r : Int) (h : F_label_ready a0 a1 = some r) : O_label_ready a0 a1 r :=
  have L := fun {a} => lY (Y := Y_label_ready a0 a1) (a := a) (r := r)
  callT G25 (bt <| AT.ex fun (r1 : Int) => ao (.v (I r1)) <| AT.or (bt <| AT.nil) (bf <| AT.ex fun (r4 : Bool) => ao (.v (.b r4)) <| AT.or (bt <| AT.nil) (bf <| AT.nil))) (ai tt <| ai (rfl : Z0) <| exB h fun r1 ek2 h => have ek2 := lift_actors_Check a0 _ ek2; ai ek2 <| orB h (fun h3 h => ai h3 <| L h) (fun h3 h => ai h3 <| ai (rfl : Z0) <| exB h fun r4 ek5 h => have ek5 := lift_slices_ContainsFunc__label_ready_1 a1 a0 _ ek5; ai ek5 <| orB h (fun h6 h => ai h6 <| L h) (fun h6 h => ai h6 <| L h))) (by kernel_rfl)
noncomputable def B_label_and_0 (a0 : (List Bool)) (a1 : (List Bool)) (v0_5 : (List Bool)) (v0_10 : Nat) : Option (((List Bool) × Nat) ⊕ ((List Bool) × Nat × Bool)) :=
  if (v0_10 : Int) < (a0.length : Int) then
    (a0[v0_10]?).bind fun (y2 : Bool) =>
    if y2 = true then
      (a1[v0_10]?).bind fun (y5 : Bool) =>
      if v0_5.length + [y5].length ≤ 1000000000 then
        if IntKind.i64.wrap ((v0_10 : Int) + 1) = ((v0_10 + 1 : Nat) : Int) then
          some (.inl (v0_5 ++ [y5], v0_10 + 1))
        else none
      else none
    else
      if v0_5.length + [false].length ≤ 1000000000 then
        if IntKind.i64.wrap ((v0_10 : Int) + 1) = ((v0_10 + 1 : Nat) : Int) then
          some (.inl (v0_5 ++ [false], v0_10 + 1))
        else none
      else none
  else
    some (.inr (v0_5, v0_10, decide ((v0_10 : Int) < (a0.length : Int))))
abbrev S_label_and_0 (a0 : (List Bool)) (a1 : (List Bool)) (v : ((List Bool) × Nat)) : St := ⟨[(1, (.l 4 (a1.map AV.b))), (5, (.o 4 (v.1.map AV.b))), (8, (.l 4 (a0.map AV.b))), (9, (I (a0.length : Int))), (10, (I (v.2 : Int)))], [], H0⟩
abbrev X_label_and_0 (a0 : (List Bool)) (a1 : (List Bool)) (x : ((List Bool) × Nat × Bool)) : AExit × St := ((.ex 0), ⟨[(1, (.l 4 (a1.map AV.b))), (5, (.o 4 (x.1.map AV.b))), (8, (.l 4 (a0.map AV.b))), (9, (I (a0.length : Int))), (10, (I (x.2.1 : Int))), (11, (.b x.2.2))], [], H0⟩)
theorem LB_label_and_0 (a0 : (List Bool)) (a1 : (List Bool)) (v0_5 : (List Bool)) (v0_10 : Nat) (o : ((List Bool) × Nat) ⊕ ((List Bool) × Nat × Bool)) (h : B_label_and_0 a0 a1 v0_5 v0_10 = some o) : bodyOK E0 c28_0 (S_label_and_0 a0 a1) (X_label_and_0 a0 a1) (v0_5, v0_10) o :=
  have L := fun {a} => lY (Y := bodyY (S_label_and_0 a0 a1) (X_label_and_0 a0 a1)) (a := a) (r := o)
  bodyT (AT.or (bt <| ao (.n v0_10) <| AT.ex fun (y2 : Bool) => ao (.v (.b y2)) <| AT.or (bt <| bt <| bt <| ao (.n v0_10) <| AT.ex fun (y5 : Bool) => ao (.v (.b y5)) <| bt <| bt <| ao (.l ([y5].map AV.b)) <| ao (.l ((v0_5 ++ [y5]).map AV.b)) <| ao (.i ((v0_10 + 1 : Nat) : Int)) <| AT.nil) (bf <| bf <| bf <| bf <| bf <| ao (.l ([false].map AV.b)) <| ao (.l ((v0_5 ++ [false]).map AV.b)) <| ao (.i ((v0_10 + 1 : Nat) : Int)) <| AT.nil)) (bf <| AT.nil)) (orP h (fun h1 h => ai (decide_eq_true h1) <| ai (rfl : (v0_10 : Int) = (v0_10 : Int)) <| exB h fun y2 h3 h => ai (map_get AV.b h3) <| orB h (fun h4 h => ai (g1 h4) <| ai (g1 h4) <| ai (g1 h4) <| ai (rfl : (v0_10 : Int) = (v0_10 : Int)) <| exB h fun y5 h6 h => ai (map_get AV.b h6) <| ai (g1 h4) <| ai h4 <| ai (rfl : [(.b y5)] = [y5].map AV.b) <| ai ff <| asrtP h fun h7 h => ai ((all_nc AV.b (n := 1) (fun _ => rfl) [y5]) : ([y5].map AV.b).all (fun e => e.nc == 1) = true) <| ai ((room3 h7 (by decide)) : ((v0_5.map AV.b).length + ([y5].map AV.b).length) * 1 ≤ 140737488355328) <| ai ((room4 h7) : (v0_5.map AV.b).length + ([y5].map AV.b).length ≤ maxLen) <| ai (List.map_append.symm : v0_5.map AV.b ++ [y5].map AV.b = (v0_5 ++ [y5]).map AV.b) <| asrtP h fun w8 h => ai w8 <| L h) (fun h4 h => ai (g1 h4) <| ai (g1 h4) <| ai (g1 h4) <| ai (g1 h4) <| ai h4 <| ai (rfl : [(.b false)] = [false].map AV.b) <| ai ff <| asrtP h fun h5 h => ai ((all_nc AV.b (n := 1) (fun _ => rfl) [false]) : ([false].map AV.b).all (fun e => e.nc == 1) = true) <| ai ((room3 h5 (by decide)) : ((v0_5.map AV.b).length + ([false].map AV.b).length) * 1 ≤ 140737488355328) <| ai ((room4 h5) : (v0_5.map AV.b).length + ([false].map AV.b).length ≤ maxLen) <| ai (List.map_append.symm : v0_5.map AV.b ++ [false].map AV.b = (v0_5 ++ [false]).map AV.b) <| asrtP h fun w6 h => ai w6 <| L h)) (fun h1 h => ai (decide_eq_false h1) <| L h)) (by kernel_rfl)
theorem LL_label_and_0 (a0 : (List Bool)) (a1 : (List Bool)) (v : ((List Bool) × Nat)) (x : ((List Bool) × Nat × Bool)) (h : lp (fun v => B_label_and_0 a0 a1 v.1 v.2) v = some x) : lpAt G Ω0 E0 c28_0 (S_label_and_0 a0 a1 v) = some (X_label_and_0 a0 a1 x) :=
  lp_lift c28_0 (S_label_and_0 a0 a1) (X_label_and_0 a0 a1) (fun _ => rfl) (fun v o h => LB_label_and_0 a0 a1 v.1 v.2 o h) h
abbrev Y_label_and (a0 : (List Bool)) (a1 : (List Bool)) (r : (List Bool)) : AEnd × HP := (.ret (.l 4 (r.map AV.b)), H0)
abbrev O_label_and (a0 : (List Bool)) (a1 : (List Bool)) (r : (List Bool)) : Prop := call G Ω0 E0 28 [(.l 4 (a0.map AV.b)), (.l 4 (a1.map AV.b))] H0 = some (Y_label_and a0 a1 r)
noncomputable def F_label_and (a0 : (List Bool)) (a1 : (List Bool)) : Option (List Bool) :=
  (lp (fun v => B_label_and_0 a0 a1 v.1 v.2) (([] : List Bool), 0)).bind fun (x1 : ((List Bool) × Nat × Bool)) =>
  some x1.1
theorem lift_label_and (a0 : (List Bool)) (a1 : (List Bool)) (r : (List Bool)) (h : F_label_and a0 a1 = some r) : O_label_and a0 a1 r :=
  have L := fun {a} => lY (Y := Y_label_and a0 a1) (a := a) (r := r)
  callT G28 (ao (.i (a0.length : Int)) <| AT.ex fun (x1 : ((List Bool) × Nat × Bool)) => ao (.lp (.ex 0) ⟨[(1, (.l 4 (a1.map AV.b))), (5, (.o 4 (x1.1.map AV.b))), (8, (.l 4 (a0.map AV.b))), (9, (I (a0.length : Int))), (10, (I (x1.2.1 : Int))), (11, (.b x1.2.2))], [], H0⟩) <| AT.nil) (ai (map_len AV.b a0) <| exB h fun x1 lp2 h => have lp2 := LL_label_and_0 a0 a1 (([] : List Bool), 0) _ lp2; ai lp2 <| L h) (by kernel_rfl)
noncomputable def B_label_or_0 (a0 : (List Bool)) (a1 : (List Bool)) (v0_5 : (List Bool)) (v0_10 : Nat) : Option (((List Bool) × Nat) ⊕ ((List Bool) × Nat × Bool)) :=
  if (v0_10 : Int) < (a0.length : Int) then
    (a0[v0_10]?).bind fun (y2 : Bool) =>
    if y2 = true then
      if v0_5.length + [true].length ≤ 1000000000 then
        if IntKind.i64.wrap ((v0_10 : Int) + 1) = ((v0_10 + 1 : Nat) : Int) then
          some (.inl (v0_5 ++ [true], v0_10 + 1))
        else none
      else none
    else
      (a1[v0_10]?).bind fun (y5 : Bool) =>
      if v0_5.length + [y5].length ≤ 1000000000 then
        if IntKind.i64.wrap ((v0_10 : Int) + 1) = ((v0_10 + 1 : Nat) : Int) then
          some (.inl (v0_5 ++ [y5], v0_10 + 1))
        else none
      else none
  else
    some (.inr (v0_5, v0_10, decide ((v0_10 : Int) < (a0.length : Int))))
abbrev S_label_or_0 (a0 : (List Bool)) (a1 : (List Bool)) (v : ((List Bool) × Nat)) : St := ⟨[(1, (.l 4 (a1.map AV.b))), (5, (.o 4 (v.1.map AV.b))), (8, (.l 4 (a0.map AV.b))), (9, (I (a0.length : Int))), (10, (I (v.2 : Int)))], [], H0⟩
abbrev X_label_or_0 (a0 : (List Bool)) (a1 : (List Bool)) (x : ((List Bool) × Nat × Bool)) : AExit × St := ((.ex 0), ⟨[(1, (.l 4 (a1.map AV.b))), (5, (.o 4 (x.1.map AV.b))), (8, (.l 4 (a0.map AV.b))), (9, (I (a0.length : Int))), (10, (I (x.2.1 : Int))), (11, (.b x.2.2))], [], H0⟩)
theorem LB_label_or_0 (a0 : (List Bool)) (a1 : (List Bool)) (v0_5 : (List Bool)) (v0_10 : Nat) (o : ((List Bool) × Nat) ⊕ ((List Bool) × Nat × Bool)) (h : B_label_or_0 a0 a1 v0_5 v0_10 = some o) : bodyOK E0 c27_0 (S_label_or_0 a0 a1) (X_label_or_0 a0 a1) (v0_5, v0_10) o :=
  have L := fun {a} => lY (Y := bodyY (S_label_or_0 a0 a1) (X_label_or_0 a0 a1)) (a := a) (r := o)
  bodyT (AT.or (bt <| ao (.n v0_10) <| AT.ex fun (y2 : Bool) => ao (.v (.b y2)) <| AT.or (bf <| bf <| bf <| bf <| bt <| ao (.l ([true].map AV.b)) <| ao (.l ((v0_5 ++ [true]).map AV.b)) <| ao (.i ((v0_10 + 1 : Nat) : Int)) <| AT.nil) (bt <| bt <| bt <| ao (.n v0_10) <| AT.ex fun (y5 : Bool) => ao (.v (.b y5)) <| bt <| bf <| ao (.l ([y5].map AV.b)) <| ao (.l ((v0_5 ++ [y5]).map AV.b)) <| ao (.i ((v0_10 + 1 : Nat) : Int)) <| AT.nil)) (bf <| AT.nil)) (orP h (fun h1 h => ai (decide_eq_true h1) <| ai (rfl : (v0_10 : Int) = (v0_10 : Int)) <| exB h fun y2 h3 h => ai (map_get AV.b h3) <| orB h (fun h4 h => ai (g0 h4) <| ai (g0 h4) <| ai (g0 h4) <| ai (g0 h4) <| ai h4 <| ai (rfl : [(.b true)] = [true].map AV.b) <| ai ff <| asrtP h fun h5 h => ai ((all_nc AV.b (n := 1) (fun _ => rfl) [true]) : ([true].map AV.b).all (fun e => e.nc == 1) = true) <| ai ((room3 h5 (by decide)) : ((v0_5.map AV.b).length + ([true].map AV.b).length) * 1 ≤ 140737488355328) <| ai ((room4 h5) : (v0_5.map AV.b).length + ([true].map AV.b).length ≤ maxLen) <| ai (List.map_append.symm : v0_5.map AV.b ++ [true].map AV.b = (v0_5 ++ [true]).map AV.b) <| asrtP h fun w6 h => ai w6 <| L h) (fun h4 h => ai (g0 h4) <| ai (g0 h4) <| ai (g0 h4) <| ai (rfl : (v0_10 : Int) = (v0_10 : Int)) <| exB h fun y5 h6 h => ai (map_get AV.b h6) <| ai (g0 h4) <| ai h4 <| ai (rfl : [(.b y5)] = [y5].map AV.b) <| ai ff <| asrtP h fun h7 h => ai ((all_nc AV.b (n := 1) (fun _ => rfl) [y5]) : ([y5].map AV.b).all (fun e => e.nc == 1) = true) <| ai ((room3 h7 (by decide)) : ((v0_5.map AV.b).length + ([y5].map AV.b).length) * 1 ≤ 140737488355328) <| ai ((room4 h7) : (v0_5.map AV.b).length + ([y5].map AV.b).length ≤ maxLen) <| ai (List.map_append.symm : v0_5.map AV.b ++ [y5].map AV.b = (v0_5 ++ [y5]).map AV.b) <| asrtP h fun w8 h => ai w8 <| L h)) (fun h1 h => ai (decide_eq_false h1) <| L h)) (by kernel_rfl)
theorem LL_label_or_0 (a0 : (List Bool)) (a1 : (List Bool)) (v : ((List Bool) × Nat)) (x : ((List Bool) × Nat × Bool)) (h : lp (fun v => B_label_or_0 a0 a1 v.1 v.2) v = some x) : lpAt G Ω0 E0 c27_0 (S_label_or_0 a0 a1 v) = some (X_label_or_0 a0 a1 x) :=
  lp_lift c27_0 (S_label_or_0 a0 a1) (X_label_or_0 a0 a1) (fun _ => rfl) (fun v o h => LB_label_or_0 a0 a1 v.1 v.2 o h) h
abbrev Y_label_or (a0 : (List Bool)) (a1 : (List Bool)) (r : (List Bool)) : AEnd × HP := (.ret (.l 4 (r.map AV.b)), H0)
abbrev O_label_or (a0 : (List Bool)) (a1 : (List Bool)) (r : (List Bool)) : Prop := call G Ω0 E0 27 [(.l 4 (a0.map AV.b)), (.l 4 (a1.map AV.b))] H0 = some (Y_label_or a0 a1 r)
noncomputable def F_label_or (a0 : (List Bool)) (a1 : (List Bool)) : Option (List Bool) :=
  (lp (fun v => B_label_or_0 a0 a1 v.1 v.2) (([] : List Bool), 0)).bind fun (x1 : ((List Bool) × Nat × Bool)) =>
  some x1.1
theorem lift_label_or (a0 : (List Bool)) (a1 : (List Bool)) (r : (List Bool)) (h : F_label_or a0 a1 = some r) : O_label_or a0 a1 r :=
  have L := fun {a} => lY (Y := Y_label_or a0 a1) (a := a) (r := r)
  callT G27 (ao (.i (a0.length : Int)) <| AT.ex fun (x1 : ((List Bool) × Nat × Bool)) => ao (.lp (.ex 0) ⟨[(1, (.l 4 (a1.map AV.b))), (5, (.o 4 (x1.1.map AV.b))), (8, (.l 4 (a0.map AV.b))), (9, (I (a0.length : Int))), (10, (I (x1.2.1 : Int))), (11, (.b x1.2.2))], [], H0⟩) <| AT.nil) (ai (map_len AV.b a0) <| exB h fun x1 lp2 h => have lp2 := LL_label_or_0 a0 a1 (([] : List Bool), 0) _ lp2; ai lp2 <| L h) (by kernel_rfl)
abbrev Y_label_Both (a0 : Level) (a1 : Level) (r : Level) : AEnd × HP := (.ret (.a [(.l 4 (r.Readers.map AV.b)), (.l 4 (r.Writers.map AV.b))]), H0)
abbrev O_label_Both (a0 : Level) (a1 : Level) (r : Level) : Prop := call G Ω0 E0 26 [(.a [(.l 4 (a0.Readers.map AV.b)), (.l 4 (a0.Writers.map AV.b))]), (.a [(.l 4 (a1.Readers.map AV.b)), (.l 4 (a1.Writers.map AV.b))])] H0 = some (Y_label_Both a0 a1 r)
noncomputable def F_label_Both (a0 : Level) (a1 : Level) : Option Level :=
  (F_label_and a0.Readers a1.Readers).bind fun (r1 : (List Bool)) =>
  (F_label_or a0.Writers a1.Writers).bind fun (r3 : (List Bool)) =>
  some (⟨r1, r3⟩ : Level)
theorem lift_label_Both (a0 : Level) (a1 : Level) (r : Level) (h : F_label_Both a0 a1 = some r) : O_label_Both a0 a1 r :=
  have L := fun {a} => lY (Y := Y_label_Both a0 a1) (a := a) (r := r)
  callT G26 (bt <| bt <| AT.ex fun (r1 : (List Bool)) => ao (.v (.l 4 (r1.map AV.b))) <| bt <| bt <| AT.ex fun (r3 : (List Bool)) => ao (.v (.l 4 (r3.map AV.b))) <| bt <| bt <| AT.nil) (ai tt <| ai tt <| ai tt <| ai tt <| ai tt <| ai (rfl : Z0) <| ai tt <| ai tt <| ai (rfl : Z0) <| ai tt <| exB h fun r1 ek2 h => have ek2 := lift_label_and a0.Readers a1.Readers _ ek2; ai ek2 <| ai tt <| ai tt <| ai (rfl : Z0) <| ai tt <| ai tt <| ai (rfl : Z0) <| ai tt <| exB h fun r3 ek4 h => have ek4 := lift_label_or a0.Writers a1.Writers _ ek4; ai ek4 <| ai ff <| ai (rfl : Z0) <| ai tt <| ai (rfl : Z0) <| ai (rfl : Z0) <| L h) (by kernel_rfl)
abbrev Y_label_Join (a0 : Actors) (a1 : Level) (a2 : Level) (r : (Level × Int)) : AEnd × HP := (.ret (.tp [(.a [(.l 4 (r.1.Readers.map AV.b)), (.l 4 (r.1.Writers.map AV.b))]), (I r.2)]), H0)
abbrev O_label_Join (a0 : Actors) (a1 : Level) (a2 : Level) (r : (Level × Int)) : Prop := call G Ω0 E0 9 [(.a [(I a0.Many), (.l 53 (a0.Grants.map eGrant))]), (.a [(.l 4 (a1.Readers.map AV.b)), (.l 4 (a1.Writers.map AV.b))]), (.a [(.l 4 (a2.Readers.map AV.b)), (.l 4 (a2.Writers.map AV.b))])] H0 = some (Y_label_Join a0 a1 a2 r)
noncomputable def F_label_Join (a0 : Actors) (a1 : Level) (a2 : Level) : Option (Level × Int) :=
  (F_label_ready a0 ([a1, a2])).bind fun (r1 : Int) =>
  if (r1 != 0) = true then
    some ((⟨([] : List Bool), ([] : List Bool)⟩ : Level), r1)
  else
    (F_label_Both a1 a2).bind fun (r4 : Level) =>
    some (r4, 0)
theorem lift_label_Join (a0 : Actors) (a1 : Level) (a2 : Level) (r : (Level × Int)) (h : F_label_Join a0 a1 a2 = some r) : O_label_Join a0 a1 a2 r :=
  have L := fun {a} => lY (Y := Y_label_Join a0 a1 a2) (a := a) (r := r)
  callT G9 (bt <| bt <| bt <| ao (.l (([a1, a2]).map eLevel)) <| AT.ex fun (r1 : Int) => ao (.v (I r1)) <| AT.or (bt <| bt <| bt <| AT.nil) (bf <| bt <| bt <| AT.ex fun (r4 : Level) => ao (.v (.a [(.l 4 (r4.Readers.map AV.b)), (.l 4 (r4.Writers.map AV.b))])) <| bt <| bt <| AT.nil)) (ai tt <| ai tt <| ai tt <| ai tt <| ai (rfl : Z0) <| ai (rfl : Z0) <| ai (rfl : Z0) <| ai (rfl : [(.a [(.l 4 (a1.Readers.map AV.b)), (.l 4 (a1.Writers.map AV.b))]), (.a [(.l 4 (a2.Readers.map AV.b)), (.l 4 (a2.Writers.map AV.b))])] = ([a1, a2]).map eLevel) <| exB h fun r1 ek2 h => have ek2 := lift_label_ready a0 ([a1, a2]) _ ek2; ai ek2 <| orB h (fun h3 h => ai h3 <| ai ff <| ai (rfl : Z0) <| ai tt <| ai (rfl : Z0) <| ai (rfl : Z0) <| L h) (fun h3 h => ai h3 <| ai (rfl : Z0) <| ai (rfl : Z0) <| exB h fun r4 ek5 h => have ek5 := lift_label_Both a1 a2 _ ek5; ai ek5 <| ai ff <| ai (rfl : Z0) <| ai tt <| ai (rfl : Z0) <| ai (rfl : Z0) <| L h)) (by kernel_rfl)
abbrev Y_label_Meet (a0 : Actors) (a1 : Level) (a2 : Level) (r : (Level × Int)) : AEnd × HP := (.ret (.tp [(.a [(.l 4 (r.1.Readers.map AV.b)), (.l 4 (r.1.Writers.map AV.b))]), (I r.2)]), H0)
abbrev O_label_Meet (a0 : Actors) (a1 : Level) (a2 : Level) (r : (Level × Int)) : Prop := call G Ω0 E0 10 [(.a [(I a0.Many), (.l 53 (a0.Grants.map eGrant))]), (.a [(.l 4 (a1.Readers.map AV.b)), (.l 4 (a1.Writers.map AV.b))]), (.a [(.l 4 (a2.Readers.map AV.b)), (.l 4 (a2.Writers.map AV.b))])] H0 = some (Y_label_Meet a0 a1 a2 r)
noncomputable def F_label_Meet (a0 : Actors) (a1 : Level) (a2 : Level) : Option (Level × Int) :=
  (F_label_ready a0 ([a1, a2])).bind fun (r1 : Int) =>
  if (r1 != 0) = true then
    some ((⟨([] : List Bool), ([] : List Bool)⟩ : Level), r1)
  else
    (F_label_or a1.Readers a2.Readers).bind fun (r4 : (List Bool)) =>
    (F_label_and a1.Writers a2.Writers).bind fun (r6 : (List Bool)) =>
    some ((⟨r4, r6⟩ : Level), 0)
theorem lift_label_Meet (a0 : Actors) (a1 : Level) (a2 : Level) (r : (Level × Int)) (h : F_label_Meet a0 a1 a2 = some r) : O_label_Meet a0 a1 a2 r :=
  have L := fun {a} => lY (Y := Y_label_Meet a0 a1 a2) (a := a) (r := r)
  callT G10 (bt <| bt <| bt <| ao (.l (([a1, a2]).map eLevel)) <| AT.ex fun (r1 : Int) => ao (.v (I r1)) <| AT.or (bt <| bt <| bt <| AT.nil) (bf <| bt <| bt <| AT.ex fun (r4 : (List Bool)) => ao (.v (.l 4 (r4.map AV.b))) <| bt <| bt <| AT.ex fun (r6 : (List Bool)) => ao (.v (.l 4 (r6.map AV.b))) <| bt <| bt <| AT.nil)) (ai tt <| ai tt <| ai tt <| ai tt <| ai (rfl : Z0) <| ai (rfl : Z0) <| ai (rfl : Z0) <| ai (rfl : [(.a [(.l 4 (a1.Readers.map AV.b)), (.l 4 (a1.Writers.map AV.b))]), (.a [(.l 4 (a2.Readers.map AV.b)), (.l 4 (a2.Writers.map AV.b))])] = ([a1, a2]).map eLevel) <| exB h fun r1 ek2 h => have ek2 := lift_label_ready a0 ([a1, a2]) _ ek2; ai ek2 <| orB h (fun h3 h => ai h3 <| ai ff <| ai (rfl : Z0) <| ai tt <| ai (rfl : Z0) <| ai (rfl : Z0) <| L h) (fun h3 h => ai h3 <| ai tt <| ai tt <| ai (rfl : Z0) <| ai tt <| ai tt <| ai (rfl : Z0) <| ai tt <| exB h fun r4 ek5 h => have ek5 := lift_label_or a1.Readers a2.Readers _ ek5; ai ek5 <| ai tt <| ai tt <| ai (rfl : Z0) <| ai tt <| ai tt <| ai (rfl : Z0) <| ai tt <| exB h fun r6 ek7 h => have ek7 := lift_label_and a1.Writers a2.Writers _ ek7; ai ek7 <| ai ff <| ai (rfl : Z0) <| ai tt <| ai (rfl : Z0) <| ai (rfl : Z0) <| L h)) (by kernel_rfl)
abbrev Y_label_policy_1 (a0 : Int) (a1 : Actors) (r : Bool) : AEnd × HP := (.ret (.b r), H0)
abbrev O_label_policy_1 (a0 : Int) (a1 : Actors) (r : Bool) : Prop := call G Ω0 E0 52 [(I a0), (.e (.a [(I a1.Many), (.l 53 (a1.Grants.map eGrant))]) 0)] H0 = some (Y_label_policy_1 a0 a1 r)
noncomputable def F_label_policy_1 (a0 : Int) (a1 : Actors) : Option Bool :=
  (F_actors_Is a1 a0).bind fun (r1 : Bool) =>
  some (!r1)
theorem lift_label_policy_1 (a0 : Int) (a1 : Actors) (r : Bool) (h : F_label_policy_1 a0 a1 = some r) : O_label_policy_1 a0 a1 r :=
  have L := fun {a} => lY (Y := Y_label_policy_1 a0 a1) (a := a) (r := r)
  callT G52 (AT.ex fun (r1 : Bool) => ao (.v (.b r1)) <| AT.nil) (exB h fun r1 ek2 h => have ek2 := lift_actors_Is a1 a0 _ ek2; ai ek2 <| L h) (by kernel_rfl)
noncomputable def B_slices_IndexFunc__label_policy_1_0 (a0 : (List Int)) (a1 : Actors) (v0_8 : Nat) : Option (Nat ⊕ (Nat ⊕ (Nat × Bool))) :=
  if (v0_8 : Int) < (a0.length : Int) then
    (a0[v0_8]?).bind fun (y2 : Int) =>
    (F_label_policy_1 y2 a1).bind fun (r4 : Bool) =>
    if r4 = true then
      some (.inr (.inl v0_8))
    else
      if IntKind.i64.wrap ((v0_8 : Int) + 1) = ((v0_8 + 1 : Nat) : Int) then
        some (.inl (v0_8 + 1))
      else none
  else
    some (.inr (.inr (v0_8, decide ((v0_8 : Int) < (a0.length : Int)))))
abbrev S_slices_IndexFunc__label_policy_1_0 (a0 : (List Int)) (a1 : Actors) (v : Nat) : St := ⟨[(0, (.l 3 (a0.map (I)))), (1, (.f 52 [(.e (.a [(I a1.Many), (.l 53 (a1.Grants.map eGrant))]) 0)])), (7, (I (a0.length : Int))), (8, (I (v : Int)))], [], H0⟩
abbrev X_slices_IndexFunc__label_policy_1_0 (a0 : (List Int)) (a1 : Actors) (x : (Nat ⊕ (Nat × Bool))) : AExit × St := match x with | .inl z1 => (.ret, ⟨[(4, (I (z1 : Int)))], [], H0⟩) | .inr (z1, z2) => ((.ex 0), ⟨[(0, (.l 3 (a0.map (I)))), (1, (.f 52 [(.e (.a [(I a1.Many), (.l 53 (a1.Grants.map eGrant))]) 0)])), (7, (I (a0.length : Int))), (8, (I (z1 : Int))), (9, (.b z2))], [], H0⟩)
theorem LB_slices_IndexFunc__label_policy_1_0 (a0 : (List Int)) (a1 : Actors) (v0_8 : Nat) (o : Nat ⊕ (Nat ⊕ (Nat × Bool))) (h : B_slices_IndexFunc__label_policy_1_0 a0 a1 v0_8 = some o) : bodyOK E0 c49_0 (S_slices_IndexFunc__label_policy_1_0 a0 a1) (X_slices_IndexFunc__label_policy_1_0 a0 a1) v0_8 o :=
  have L := fun {a} => lY (Y := bodyY (S_slices_IndexFunc__label_policy_1_0 a0 a1) (X_slices_IndexFunc__label_policy_1_0 a0 a1)) (a := a) (r := o)
  bodyT (AT.or (bt <| ao (.n v0_8) <| AT.ex fun (y2 : Int) => ao (.v (I y2)) <| AT.ex fun (r4 : Bool) => ao (.v (.b r4)) <| AT.or (bt <| AT.nil) (bf <| ao (.i ((v0_8 + 1 : Nat) : Int)) <| AT.nil)) (bf <| AT.nil)) (orP h (fun h1 h => ai (decide_eq_true h1) <| ai (rfl : (v0_8 : Int) = (v0_8 : Int)) <| exB h fun y2 h3 h => ai (map_get (I) h3) <| exB h fun r4 ek5 h => have ek5 := lift_label_policy_1 y2 a1 _ ek5; ai ek5 <| orB h (fun h6 h => ai h6 <| L h) (fun h6 h => ai h6 <| asrtP h fun w7 h => ai w7 <| L h)) (fun h1 h => ai (decide_eq_false h1) <| L h)) (by kernel_rfl)
theorem LL_slices_IndexFunc__label_policy_1_0 (a0 : (List Int)) (a1 : Actors) (v : Nat) (x : (Nat ⊕ (Nat × Bool))) (h : lp (fun v => B_slices_IndexFunc__label_policy_1_0 a0 a1 v) v = some x) : lpAt G Ω0 E0 c49_0 (S_slices_IndexFunc__label_policy_1_0 a0 a1 v) = some (X_slices_IndexFunc__label_policy_1_0 a0 a1 x) :=
  lp_lift c49_0 (S_slices_IndexFunc__label_policy_1_0 a0 a1) (X_slices_IndexFunc__label_policy_1_0 a0 a1) (fun _ => rfl) (fun v o h => LB_slices_IndexFunc__label_policy_1_0 a0 a1 v o h) h
abbrev Y_slices_IndexFunc__label_policy_1 (a0 : (List Int)) (a1 : Actors) (r : Int) : AEnd × HP := (.ret (I r), H0)
abbrev O_slices_IndexFunc__label_policy_1 (a0 : (List Int)) (a1 : Actors) (r : Int) : Prop := call G Ω0 E0 49 [(.l 3 (a0.map (I))), (.f 52 [(.e (.a [(I a1.Many), (.l 53 (a1.Grants.map eGrant))]) 0)])] H0 = some (Y_slices_IndexFunc__label_policy_1 a0 a1 r)
noncomputable def F_slices_IndexFunc__label_policy_1 (a0 : (List Int)) (a1 : Actors) : Option Int :=
  (lp (fun v => B_slices_IndexFunc__label_policy_1_0 a0 a1 v) 0).bind fun (x1 : (Nat ⊕ (Nat × Bool))) => match x1 with
  | .inl ya_2 =>
    some (ya_2 : Int)
  | .inr yb_2 =>
    some (-1)
theorem lift_slices_IndexFunc__label_policy_1 (a0 : (List Int)) (a1 : Actors) (r : Int) (h : F_slices_IndexFunc__label_policy_1 a0 a1 = some r) : O_slices_IndexFunc__label_policy_1 a0 a1 r :=
  have L := fun {a} => lY (Y := Y_slices_IndexFunc__label_policy_1 a0 a1) (a := a) (r := r)
  callT G49 (ao (.i (a0.length : Int)) <| AT.or (AT.ex fun (ya_2 : Nat) => ao (.lp .ret ⟨[(4, (I (ya_2 : Int)))], [], H0⟩) <| AT.nil) (AT.ex fun (yb_2 : (Nat × Bool)) => ao (.lp (.ex 0) ⟨[(0, (.l 3 (a0.map (I)))), (1, (.f 52 [(.e (.a [(I a1.Many), (.l 53 (a1.Grants.map eGrant))]) 0)])), (7, (I (a0.length : Int))), (8, (I (yb_2.1 : Int))), (9, (.b yb_2.2))], [], H0⟩) <| AT.nil)) (ai (map_len (I) a0) <| sum2 h (fun ya_2 lp3 h => have lp3 := LL_slices_IndexFunc__label_policy_1_0 a0 a1 0 _ lp3; ai lp3 <| L h) (fun yb_2 lp3 h => have lp3 := LL_slices_IndexFunc__label_policy_1_0 a0 a1 0 _ lp3; ai lp3 <| L h)) (by kernel_rfl)
abbrev Y_slices_ContainsFunc__label_policy_1 (a0 : (List Int)) (a1 : Actors) (r : Bool) : AEnd × HP := (.ret (.b r), H0)
abbrev O_slices_ContainsFunc__label_policy_1 (a0 : (List Int)) (a1 : Actors) (r : Bool) : Prop := call G Ω0 E0 40 [(.l 3 (a0.map (I))), (.f 52 [(.e (.a [(I a1.Many), (.l 53 (a1.Grants.map eGrant))]) 0)])] H0 = some (Y_slices_ContainsFunc__label_policy_1 a0 a1 r)
noncomputable def F_slices_ContainsFunc__label_policy_1 (a0 : (List Int)) (a1 : Actors) : Option Bool :=
  (F_slices_IndexFunc__label_policy_1 a0 a1).bind fun (r1 : Int) =>
  some (decide (0 ≤ r1))
theorem lift_slices_ContainsFunc__label_policy_1 (a0 : (List Int)) (a1 : Actors) (r : Bool) (h : F_slices_ContainsFunc__label_policy_1 a0 a1 = some r) : O_slices_ContainsFunc__label_policy_1 a0 a1 r :=
  have L := fun {a} => lY (Y := Y_slices_ContainsFunc__label_policy_1 a0 a1) (a := a) (r := r)
  callT G40 (AT.ex fun (r1 : Int) => ao (.v (I r1)) <| AT.nil) (exB h fun r1 ek2 h => have ek2 := lift_slices_IndexFunc__label_policy_1 a0 a1 _ ek2; ai ek2 <| L h) (by kernel_rfl)
noncomputable def B_label_policy_0 (a1 : Policy) (v0_5 : Nat) : Option (Nat ⊕ (Unit ⊕ (Nat × Bool))) :=
  if (v0_5 : Int) < (a1.Names.length : Int) then
    (a1.Names[v0_5]?).bind fun (y9 : Int) =>
    if IntKind.i64.wrap ((v0_5 : Int) - 1) = (v0_5 : Int) - 1 then
      (natI ((v0_5 : Int) - 1)).bind fun (j12 : Nat) =>
      (a1.Names[j12]?).bind fun (y14 : Int) =>
      if y9 ≤ y14 then
        some (.inr (.inl ()))
      else
        if IntKind.i64.wrap ((v0_5 : Int) + 1) = ((v0_5 + 1 : Nat) : Int) then
          some (.inl (v0_5 + 1))
        else none
    else none
  else
    some (.inr (.inr (v0_5, decide ((v0_5 : Int) < (a1.Names.length : Int)))))
abbrev S_label_policy_0 (a1 : Policy) (v : Nat) : St := ⟨[(3, (.p ⟨0, 3⟩ 0)), (5, (I (v : Int)))], [(3, [(I a1.Owner), (.l 3 (a1.Names.map (I)))])], H0⟩
abbrev X_label_policy_0 (a1 : Policy) (x : (Unit ⊕ (Nat × Bool))) : AExit × St := match x with | .inl () => (.ret, ⟨[(4, (I 4))], [], H0⟩) | .inr (z1, z2) => ((.ex 1), ⟨[(3, (.p ⟨0, 3⟩ 0)), (5, (I (z1 : Int))), (26, (.b z2))], [(3, [(I a1.Owner), (.l 3 (a1.Names.map (I)))])], H0⟩)
theorem LB_label_policy_0 (a1 : Policy) (v0_5 : Nat) (o : Nat ⊕ (Unit ⊕ (Nat × Bool))) (h : B_label_policy_0 a1 v0_5 = some o) : bodyOK E0 c47_0 (S_label_policy_0 a1) (X_label_policy_0 a1) v0_5 o :=
  have L := fun {a} => lY (Y := bodyY (S_label_policy_0 a1) (X_label_policy_0 a1)) (a := a) (r := o)
  bodyT (bt <| ao (.i (a1.Names.length : Int)) <| AT.or (bt <| bt <| ao (.n v0_5) <| AT.ex fun (y9 : Int) => ao (.v (I y9)) <| bt <| ao (.i ((v0_5 : Int) - 1)) <| AT.ex fun (j12 : Nat) => ao (.n j12) <| AT.ex fun (y14 : Int) => ao (.v (I y14)) <| AT.or (bt <| AT.nil) (bf <| ao (.i ((v0_5 + 1 : Nat) : Int)) <| AT.nil)) (bf <| AT.nil)) (ai (rfl : Z0) <| ai (map_len (I) a1.Names) <| orP h (fun h8 h => ai (decide_eq_true h8) <| ai tt <| ai tt <| ai (rfl : Z0) <| ai tt <| ai tt <| ai (rfl : (v0_5 : Int) = (v0_5 : Int)) <| exB h fun y9 h10 h => ai (map_get (I) h10) <| ai tt <| ai tt <| ai tt <| ai (rfl : Z0) <| ai tt <| ai tt <| asrtP h fun w11 h => ai w11 <| ai tt <| natE h fun j12 h13 h => ai h13 <| exB h fun y14 h15 h => ai (map_get (I) h15) <| ai tt <| ai tt <| orP h (fun h16 h => ai (decide_eq_true h16) <| L h) (fun h16 h => ai (decide_eq_false h16) <| asrtP h fun w17 h => ai w17 <| L h)) (fun h8 h => ai (decide_eq_false h8) <| L h)) (by kernel_rfl)
theorem LL_label_policy_0 (a1 : Policy) (v : Nat) (x : (Unit ⊕ (Nat × Bool))) (h : lp (fun v => B_label_policy_0 a1 v) v = some x) : lpAt G Ω0 E0 c47_0 (S_label_policy_0 a1 v) = some (X_label_policy_0 a1 x) :=
  lp_lift c47_0 (S_label_policy_0 a1) (X_label_policy_0 a1) (fun _ => rfl) (fun v o h => LB_label_policy_0 a1 v o h) h
abbrev Y_label_policy (a0 : Actors) (a1 : Policy) (r : Int) : AEnd × HP := (.ret (I r), H0)
abbrev O_label_policy (a0 : Actors) (a1 : Policy) (r : Int) : Prop := call G Ω0 E0 47 [(.a [(I a0.Many), (.l 53 (a0.Grants.map eGrant))]), (.a [(I a1.Owner), (.l 3 (a1.Names.map (I)))])] H0 = some (Y_label_policy a0 a1 r)
noncomputable def F_label_policy (a0 : Actors) (a1 : Policy) : Option Int :=
  (F_actors_Is a0 a1.Owner).bind fun (r1 : Bool) =>
  if r1 = true then
    if 6 < (a1.Names.length : Int) then
      some 2
    else
      (F_slices_ContainsFunc__label_policy_1 a1.Names a0).bind fun (r5 : Bool) =>
      if r5 = true then
        some 5
      else
        (lp (fun v => B_label_policy_0 a1 v) 1).bind fun (x8 : (Unit ⊕ (Nat × Bool))) => match x8 with
        | .inl ya_9 =>
          some 4
        | .inr yb_9 =>
          some 0
  else
    some 5
theorem lift_label_policy (a0 : Actors) (a1 : Policy) (r : Int) (h : F_label_policy a0 a1 = some r) : O_label_policy a0 a1 r :=
  have L := fun {a} => lY (Y := Y_label_policy a0 a1) (a := a) (r := r)
  callT G47 (bt <| bt <| AT.ex fun (r1 : Bool) => ao (.v (.b r1)) <| AT.or (bf <| bt <| ao (.i (a1.Names.length : Int)) <| AT.or (bt <| AT.nil) (bf <| bt <| AT.ex fun (r5 : Bool) => ao (.v (.b r5)) <| AT.or (bt <| AT.nil) (bf <| AT.or (AT.ex fun (ya_9 : Unit) => ao (.lp .ret ⟨[(4, (I 4))], [], H0⟩) <| AT.nil) (AT.ex fun (yb_9 : (Nat × Bool)) => ao (.lp (.ex 1) ⟨[(3, (.p ⟨0, 3⟩ 0)), (5, (I (yb_9.1 : Int))), (26, (.b yb_9.2))], [(3, [(I a1.Owner), (.l 3 (a1.Names.map (I)))])], H0⟩) <| AT.nil)))) (bt <| AT.nil)) (ai tt <| ai tt <| ai (rfl : Z0) <| ai (rfl : Z0) <| exB h fun r1 ek2 h => have ek2 := lift_actors_Is a0 a1.Owner _ ek2; ai ek2 <| orB h (fun h3 h => ai (congrArg not h3) <| ai (rfl : Z0) <| ai (map_len (I) a1.Names) <| orP h (fun h4 h => ai (decide_eq_true h4) <| L h) (fun h4 h => ai (decide_eq_false h4) <| ai (rfl : Z0) <| ai (rfl : Z0) <| exB h fun r5 ek6 h => have ek6 := lift_slices_ContainsFunc__label_policy_1 a1.Names a0 _ ek6; ai ek6 <| orB h (fun h7 h => ai h7 <| L h) (fun h7 h => ai h7 <| sum2 h (fun ya_9 lp10 h => have lp10 := LL_label_policy_0 a1 1 _ lp10; ai lp10 <| L h) (fun yb_9 lp10 h => have lp10 := LL_label_policy_0 a1 1 _ lp10; ai lp10 <| L h)))) (fun h3 h => ai (congrArg not h3) <| L h)) (by kernel_rfl)
noncomputable def B_label_Fits_1 (a0 : Actors) (a1 : Label) (v0_16 : Nat) (y2 : (List Policy)) (v1_25 : Nat) : Option (Nat ⊕ (Int ⊕ (Nat × Bool))) :=
  if (v1_25 : Int) < (y2.length : Int) then
    (y2[v1_25]?).bind fun (y6 : Policy) =>
    (F_label_policy a0 y6).bind fun (r8 : Int) =>
    if (r8 != 0) = true then
      some (.inr (.inl r8))
    else
      if IntKind.i64.wrap ((v1_25 : Int) + 1) = ((v1_25 + 1 : Nat) : Int) then
        some (.inl (v1_25 + 1))
      else none
  else
    some (.inr (.inr (v1_25, decide ((v1_25 : Int) < (y2.length : Int)))))
abbrev S_label_Fits_1 (a0 : Actors) (a1 : Label) (v0_16 : Nat) (y2 : (List Policy)) (v : Nat) : St := ⟨[(2, (.p ⟨0, 2⟩ 0)), (14, (.l 28 (([a1.Read, a1.Write]).map (eLs 61 ePolicy)))), (15, (I ((([a1.Read, a1.Write]).length : Nat) : Int))), (16, (I (v0_16 : Int))), (23, (.l 61 (y2.map ePolicy))), (24, (I (y2.length : Int))), (25, (I (v : Int)))], [(2, [(I a0.Many), (.l 53 (a0.Grants.map eGrant))])], H0⟩
abbrev X_label_Fits_1 (a0 : Actors) (a1 : Label) (v0_16 : Nat) (y2 : (List Policy)) (x : (Int ⊕ (Nat × Bool))) : AExit × St := match x with | .inl z1 => (.ret, ⟨[(4, (I z1))], [], H0⟩) | .inr (z1, z2) => ((.ex 2), ⟨[(2, (.p ⟨0, 2⟩ 0)), (14, (.l 28 (([a1.Read, a1.Write]).map (eLs 61 ePolicy)))), (15, (I ((([a1.Read, a1.Write]).length : Nat) : Int))), (16, (I (v0_16 : Int))), (23, (.l 61 (y2.map ePolicy))), (24, (I (y2.length : Int))), (25, (I (z1 : Int))), (26, (.b z2))], [(2, [(I a0.Many), (.l 53 (a0.Grants.map eGrant))])], H0⟩)
theorem LB_label_Fits_1 (a0 : Actors) (a1 : Label) (v0_16 : Nat) (y2 : (List Policy)) (v1_25 : Nat) (o : Nat ⊕ (Int ⊕ (Nat × Bool))) (h : B_label_Fits_1 a0 a1 v0_16 y2 v1_25 = some o) : bodyOK E0 c32_1 (S_label_Fits_1 a0 a1 v0_16 y2) (X_label_Fits_1 a0 a1 v0_16 y2) v1_25 o :=
  have L := fun {a} => lY (Y := bodyY (S_label_Fits_1 a0 a1 v0_16 y2) (X_label_Fits_1 a0 a1 v0_16 y2)) (a := a) (r := o)
  bodyT (AT.or (bt <| ao (.n v1_25) <| AT.ex fun (y6 : Policy) => ao (.v (.a [(I y6.Owner), (.l 3 (y6.Names.map (I)))])) <| bt <| bt <| bt <| bt <| AT.ex fun (r8 : Int) => ao (.v (I r8)) <| AT.or (bt <| AT.nil) (bf <| ao (.i ((v1_25 + 1 : Nat) : Int)) <| AT.nil)) (bf <| AT.nil)) (orP h (fun h5 h => ai (decide_eq_true h5) <| ai (rfl : (v1_25 : Int) = (v1_25 : Int)) <| exB h fun y6 h7 h => ai (map_get ePolicy h7) <| ai tt <| ai ff <| ai (rfl : Z0) <| ai tt <| ai (rfl : Z0) <| ai (rfl : Z0) <| ai (rfl : Z0) <| exB h fun r8 ek9 h => have ek9 := lift_label_policy a0 y6 _ ek9; ai ek9 <| orB h (fun h10 h => ai h10 <| L h) (fun h10 h => ai h10 <| asrtP h fun w11 h => ai w11 <| L h)) (fun h5 h => ai (decide_eq_false h5) <| L h)) (by kernel_rfl)
theorem LL_label_Fits_1 (a0 : Actors) (a1 : Label) (v0_16 : Nat) (y2 : (List Policy)) (v : Nat) (x : (Int ⊕ (Nat × Bool))) (h : lp (fun v => B_label_Fits_1 a0 a1 v0_16 y2 v) v = some x) : lpAt G Ω0 E0 c32_1 (S_label_Fits_1 a0 a1 v0_16 y2 v) = some (X_label_Fits_1 a0 a1 v0_16 y2 x) :=
  lp_lift c32_1 (S_label_Fits_1 a0 a1 v0_16 y2) (X_label_Fits_1 a0 a1 v0_16 y2) (fun _ => rfl) (fun v o h => LB_label_Fits_1 a0 a1 v0_16 y2 v o h) h
noncomputable def B_label_Fits_0 (a0 : Actors) (a1 : Label) (v0_16 : Nat) : Option (Nat ⊕ (Unit ⊕ (Int ⊕ (Nat × Bool)))) :=
  if (v0_16 : Int) < ((([a1.Read, a1.Write]).length : Nat) : Int) then
    (([a1.Read, a1.Write])[v0_16]?).bind fun (y2 : (List Policy)) =>
    if 4 < (y2.length : Int) then
      some (.inr (.inl ()))
    else
      (lp (fun v => B_label_Fits_1 a0 a1 v0_16 y2 v) 0).bind fun (x5 : (Int ⊕ (Nat × Bool))) => match x5 with
      | .inl ya_6 =>
        some (.inr (.inr (.inl ya_6)))
      | .inr yb_6 =>
        if IntKind.i64.wrap ((v0_16 : Int) + 1) = ((v0_16 + 1 : Nat) : Int) then
          some (.inl (v0_16 + 1))
        else none
  else
    some (.inr (.inr (.inr (v0_16, decide ((v0_16 : Int) < ((([a1.Read, a1.Write]).length : Nat) : Int))))))
abbrev S_label_Fits_0 (a0 : Actors) (a1 : Label) (v : Nat) : St := ⟨[(2, (.p ⟨0, 2⟩ 0)), (14, (.l 28 (([a1.Read, a1.Write]).map (eLs 61 ePolicy)))), (15, (I ((([a1.Read, a1.Write]).length : Nat) : Int))), (16, (I (v : Int)))], [(2, [(I a0.Many), (.l 53 (a0.Grants.map eGrant))])], H0⟩
abbrev X_label_Fits_0 (a0 : Actors) (a1 : Label) (x : (Unit ⊕ (Int ⊕ (Nat × Bool)))) : AExit × St := match x with | .inl () => (.ret, ⟨[(4, (I 2))], [], H0⟩) | .inr (.inl z1) => (.ret, ⟨[(4, (I z1))], [], H0⟩) | .inr (.inr (z1, z2)) => ((.ex 0), ⟨[(2, (.p ⟨0, 2⟩ 0)), (14, (.l 28 (([a1.Read, a1.Write]).map (eLs 61 ePolicy)))), (15, (I ((([a1.Read, a1.Write]).length : Nat) : Int))), (16, (I (z1 : Int))), (17, (.b z2))], [(2, [(I a0.Many), (.l 53 (a0.Grants.map eGrant))])], H0⟩)
theorem LB_label_Fits_0 (a0 : Actors) (a1 : Label) (v0_16 : Nat) (o : Nat ⊕ (Unit ⊕ (Int ⊕ (Nat × Bool)))) (h : B_label_Fits_0 a0 a1 v0_16 = some o) : bodyOK E0 c32_0 (S_label_Fits_0 a0 a1) (X_label_Fits_0 a0 a1) v0_16 o :=
  have L := fun {a} => lY (Y := bodyY (S_label_Fits_0 a0 a1) (X_label_Fits_0 a0 a1)) (a := a) (r := o)
  bodyT (AT.or (bt <| ao (.n v0_16) <| AT.ex fun (y2 : (List Policy)) => ao (.v (.l 61 (y2.map ePolicy))) <| ao (.i (y2.length : Int)) <| AT.or (bt <| AT.nil) (bf <| ao (.i (y2.length : Int)) <| AT.or (AT.ex fun (ya_6 : Int) => ao (.lp .ret ⟨[(4, (I ya_6))], [], H0⟩) <| AT.nil) (AT.ex fun (yb_6 : (Nat × Bool)) => ao (.lp (.ex 2) ⟨[(2, (.p ⟨0, 2⟩ 0)), (14, (.l 28 (([a1.Read, a1.Write]).map (eLs 61 ePolicy)))), (15, (I ((([a1.Read, a1.Write]).length : Nat) : Int))), (16, (I (v0_16 : Int))), (23, (.l 61 (y2.map ePolicy))), (24, (I (y2.length : Int))), (25, (I (yb_6.1 : Int))), (26, (.b yb_6.2))], [(2, [(I a0.Many), (.l 53 (a0.Grants.map eGrant))])], H0⟩) <| ao (.i ((v0_16 + 1 : Nat) : Int)) <| AT.nil))) (bf <| AT.nil)) (orP h (fun h1 h => ai (decide_eq_true h1) <| ai (rfl : (v0_16 : Int) = (v0_16 : Int)) <| exB h fun y2 h3 h => ai (map_get (eLs 61 ePolicy) h3) <| ai (map_len ePolicy y2) <| orP h (fun h4 h => ai (decide_eq_true h4) <| L h) (fun h4 h => ai (decide_eq_false h4) <| ai (map_len ePolicy y2) <| sum2 h (fun ya_6 lp7 h => have lp7 := LL_label_Fits_1 a0 a1 v0_16 y2 0 _ lp7; ai lp7 <| L h) (fun yb_6 lp7 h => have lp7 := LL_label_Fits_1 a0 a1 v0_16 y2 0 _ lp7; ai lp7 <| asrtP h fun w8 h => ai w8 <| L h))) (fun h1 h => ai (decide_eq_false h1) <| L h)) (by kernel_rfl)
theorem LL_label_Fits_0 (a0 : Actors) (a1 : Label) (v : Nat) (x : (Unit ⊕ (Int ⊕ (Nat × Bool)))) (h : lp (fun v => B_label_Fits_0 a0 a1 v) v = some x) : lpAt G Ω0 E0 c32_0 (S_label_Fits_0 a0 a1 v) = some (X_label_Fits_0 a0 a1 x) :=
  lp_lift c32_0 (S_label_Fits_0 a0 a1) (X_label_Fits_0 a0 a1) (fun _ => rfl) (fun v o h => LB_label_Fits_0 a0 a1 v o h) h
abbrev Y_label_Fits (a0 : Actors) (a1 : Label) (r : Int) : AEnd × HP := (.ret (I r), H0)
abbrev O_label_Fits (a0 : Actors) (a1 : Label) (r : Int) : Prop := call G Ω0 E0 32 [(.a [(I a0.Many), (.l 53 (a0.Grants.map eGrant))]), (.a [(.l 61 (a1.Read.map ePolicy)), (.l 61 (a1.Write.map ePolicy))])] H0 = some (Y_label_Fits a0 a1 r)
noncomputable def F_label_Fits (a0 : Actors) (a1 : Label) : Option Int :=
  (lp (fun v => B_label_Fits_0 a0 a1 v) 0).bind fun (x1 : (Unit ⊕ (Int ⊕ (Nat × Bool)))) => match x1 with
  | .inl ya_2 =>
    some 2
  | .inr (.inl yb_2) =>
    some yb_2
  | .inr (.inr yc_2) =>
    some 0
theorem lift_label_Fits (a0 : Actors) (a1 : Label) (r : Int) (h : F_label_Fits a0 a1 = some r) : O_label_Fits a0 a1 r :=
  have L := fun {a} => lY (Y := Y_label_Fits a0 a1) (a := a) (r := r)
  callT G32 (bt <| bt <| ao (.l (([a1.Read, a1.Write]).map (eLs 61 ePolicy))) <| ao (.i ((([a1.Read, a1.Write]).length : Nat) : Int)) <| AT.or (AT.ex fun (ya_2 : Unit) => ao (.lp .ret ⟨[(4, (I 2))], [], H0⟩) <| AT.nil) (AT.or (AT.ex fun (yb_2 : Int) => ao (.lp .ret ⟨[(4, (I yb_2))], [], H0⟩) <| AT.nil) (AT.ex fun (yc_2 : (Nat × Bool)) => ao (.lp (.ex 0) ⟨[(2, (.p ⟨0, 2⟩ 0)), (14, (.l 28 (([a1.Read, a1.Write]).map (eLs 61 ePolicy)))), (15, (I ((([a1.Read, a1.Write]).length : Nat) : Int))), (16, (I (yc_2.1 : Int))), (17, (.b yc_2.2))], [(2, [(I a0.Many), (.l 53 (a0.Grants.map eGrant))])], H0⟩) <| AT.nil))) (ai tt <| ai tt <| ai (rfl : Z0) <| ai (rfl : Z0) <| ai (rfl : [(.l 61 (a1.Read.map ePolicy)), (.l 61 (a1.Write.map ePolicy))] = ([a1.Read, a1.Write]).map (eLs 61 ePolicy)) <| ai (map_len (eLs 61 ePolicy) ([a1.Read, a1.Write])) <| sum3 h (fun ya_2 lp3 h => have lp3 := LL_label_Fits_0 a0 a1 0 _ lp3; ai lp3 <| L h) (fun yb_2 lp3 h => have lp3 := LL_label_Fits_0 a0 a1 0 _ lp3; ai lp3 <| L h) (fun yc_2 lp3 h => have lp3 := LL_label_Fits_0 a0 a1 0 _ lp3; ai lp3 <| L h)) (by kernel_rfl)
abbrev Y_label_Check (a0 : Actors) (a1 : Label) (r : Int) : AEnd × HP := (.ret (I r), H0)
abbrev O_label_Check (a0 : Actors) (a1 : Label) (r : Int) : Prop := call G Ω0 E0 18 [(.a [(I a0.Many), (.l 53 (a0.Grants.map eGrant))]), (.a [(.l 61 (a1.Read.map ePolicy)), (.l 61 (a1.Write.map ePolicy))])] H0 = some (Y_label_Check a0 a1 r)
noncomputable def F_label_Check (a0 : Actors) (a1 : Label) : Option Int :=
  (F_actors_Check a0).bind fun (r1 : Int) =>
  if (r1 != 0) = true then
    some r1
  else
    (F_label_Fits a0 a1).bind fun (r4 : Int) =>
    some r4
theorem lift_label_Check (a0 : Actors) (a1 : Label) (r : Int) (h : F_label_Check a0 a1 = some r) : O_label_Check a0 a1 r :=
  have L := fun {a} => lY (Y := Y_label_Check a0 a1) (a := a) (r := r)
  callT G18 (bt <| AT.ex fun (r1 : Int) => ao (.v (I r1)) <| AT.or (bt <| AT.nil) (bf <| bt <| bt <| AT.ex fun (r4 : Int) => ao (.v (I r4)) <| AT.nil)) (ai tt <| ai tt <| ai (rfl : Z0) <| exB h fun r1 ek2 h => have ek2 := lift_actors_Check a0 _ ek2; ai ek2 <| orB h (fun h3 h => ai h3 <| L h) (fun h3 h => ai h3 <| ai (rfl : Z0) <| ai (rfl : Z0) <| exB h fun r4 ek5 h => have ek5 := lift_label_Fits a0 a1 _ ek5; ai ek5 <| L h)) (by kernel_rfl)
noncomputable def B_actors_All_2 (a0 : Actors) (v0_3 : (List (List Bool))) (v0_12 : Nat) (v1_5 : (List Bool)) (y9 : Int) (j12 : Nat) (v2_6 : (List Int)) (v2_44 : Nat) : Option (((List Int) × Nat) ⊕ ((List Int) × Nat × Bool)) :=
  if (v2_44 : Int) < (a0.Grants.length : Int) then
    (a0.Grants[v2_44]?).bind fun (y18 : Grant) =>
    if (y18.Who == y9) = true then
      if v2_6.length + [y18.For].length ≤ 1000000000 then
        if IntKind.i64.wrap ((v2_44 : Int) + 1) = ((v2_44 + 1 : Nat) : Int) then
          some (.inl (v2_6 ++ [y18.For], v2_44 + 1))
        else none
      else none
    else
      if IntKind.i64.wrap ((v2_44 : Int) + 1) = ((v2_44 + 1 : Nat) : Int) then
        some (.inl (v2_6, v2_44 + 1))
      else none
  else
    some (.inr (v2_6, v2_44, decide ((v2_44 : Int) < (a0.Grants.length : Int))))
abbrev S_actors_All_2 (a0 : Actors) (v0_3 : (List (List Bool))) (v0_12 : Nat) (v1_5 : (List Bool)) (y9 : Int) (j12 : Nat) (v : ((List Int) × Nat)) : St := ⟨[(1, (.p ⟨0, 1⟩ 0)), (3, (.o 25 (v0_3.map (eLs 4 AV.b)))), (5, (.o 4 ((v1_5.set j12 true).map AV.b))), (6, (.o 3 (v.1.map (I)))), (7, (I y9)), (11, (I a0.Many)), (12, (I (v0_12 : Int))), (29, .u), (42, (.l 53 (a0.Grants.map eGrant))), (43, (I (a0.Grants.length : Int))), (44, (I (v.2 : Int)))], [(1, [(I a0.Many), (.l 53 (a0.Grants.map eGrant))])], H0⟩
abbrev X_actors_All_2 (a0 : Actors) (v0_3 : (List (List Bool))) (v0_12 : Nat) (v1_5 : (List Bool)) (y9 : Int) (j12 : Nat) (x : ((List Int) × Nat × Bool)) : AExit × St := ((.ex 4), ⟨[(1, (.p ⟨0, 1⟩ 0)), (3, (.o 25 (v0_3.map (eLs 4 AV.b)))), (5, (.o 4 ((v1_5.set j12 true).map AV.b))), (6, (.o 3 (x.1.map (I)))), (7, (I y9)), (11, (I a0.Many)), (12, (I (v0_12 : Int))), (29, .u), (42, (.l 53 (a0.Grants.map eGrant))), (43, (I (a0.Grants.length : Int))), (44, (I (x.2.1 : Int))), (45, (.b x.2.2))], [(1, [(I a0.Many), (.l 53 (a0.Grants.map eGrant))])], H0⟩)
theorem LB_actors_All_2 (a0 : Actors) (v0_3 : (List (List Bool))) (v0_12 : Nat) (v1_5 : (List Bool)) (y9 : Int) (j12 : Nat) (v2_6 : (List Int)) (v2_44 : Nat) (o : ((List Int) × Nat) ⊕ ((List Int) × Nat × Bool)) (h : B_actors_All_2 a0 v0_3 v0_12 v1_5 y9 j12 v2_6 v2_44 = some o) : bodyOK E0 c37_2 (S_actors_All_2 a0 v0_3 v0_12 v1_5 y9 j12) (X_actors_All_2 a0 v0_3 v0_12 v1_5 y9 j12) (v2_6, v2_44) o :=
  have L := fun {a} => lY (Y := bodyY (S_actors_All_2 a0 v0_3 v0_12 v1_5 y9 j12) (X_actors_All_2 a0 v0_3 v0_12 v1_5 y9 j12)) (a := a) (r := o)
  bodyT (AT.or (bt <| ao (.n v2_44) <| AT.ex fun (y18 : Grant) => ao (.v (.a [(I y18.Who), (I y18.For)])) <| bt <| bt <| bt <| AT.or (bt <| bt <| ao (.l ([y18.For].map (I))) <| ao (.l ((v2_6 ++ [y18.For]).map (I))) <| ao (.i ((v2_44 + 1 : Nat) : Int)) <| AT.nil) (bf <| ao (.i ((v2_44 + 1 : Nat) : Int)) <| AT.nil)) (bf <| AT.nil)) (orP h (fun h17 h => ai (decide_eq_true h17) <| ai (rfl : (v2_44 : Int) = (v2_44 : Int)) <| exB h fun y18 h19 h => ai (map_get eGrant h19) <| ai tt <| ai ff <| ai (rfl : Z0) <| ai tt <| ai (rfl : Z0) <| ai (rfl : Z0) <| orB h (fun h20 h => ai h20 <| ai (rfl : Z0) <| ai (rfl : [(I y18.For)] = [y18.For].map (I)) <| ai ff <| asrtP h fun h21 h => ai ((all_nc (I) (n := 1) (fun _ => rfl) [y18.For]) : ([y18.For].map (I)).all (fun e => e.nc == 1) = true) <| ai ((room3 h21 (by decide)) : ((v2_6.map (I)).length + ([y18.For].map (I)).length) * 8 ≤ 140737488355328) <| ai ((room4 h21) : (v2_6.map (I)).length + ([y18.For].map (I)).length ≤ maxLen) <| ai (List.map_append.symm : v2_6.map (I) ++ [y18.For].map (I) = (v2_6 ++ [y18.For]).map (I)) <| asrtP h fun w22 h => ai w22 <| L h) (fun h20 h => ai h20 <| asrtP h fun w21 h => ai w21 <| L h)) (fun h17 h => ai (decide_eq_false h17) <| L h)) (by kernel_rfl)
theorem LL_actors_All_2 (a0 : Actors) (v0_3 : (List (List Bool))) (v0_12 : Nat) (v1_5 : (List Bool)) (y9 : Int) (j12 : Nat) (v : ((List Int) × Nat)) (x : ((List Int) × Nat × Bool)) (h : lp (fun v => B_actors_All_2 a0 v0_3 v0_12 v1_5 y9 j12 v.1 v.2) v = some x) : lpAt G Ω0 E0 c37_2 (S_actors_All_2 a0 v0_3 v0_12 v1_5 y9 j12 v) = some (X_actors_All_2 a0 v0_3 v0_12 v1_5 y9 j12 x) :=
  lp_lift c37_2 (S_actors_All_2 a0 v0_3 v0_12 v1_5 y9 j12) (X_actors_All_2 a0 v0_3 v0_12 v1_5 y9 j12) (fun _ => rfl) (fun v o h => LB_actors_All_2 a0 v0_3 v0_12 v1_5 y9 j12 v.1 v.2 o h) h
noncomputable def B_actors_All_1 (a0 : Actors) (v0_3 : (List (List Bool))) (v0_12 : Nat) (v1_6 : (List Int)) (v1_5 : (List Bool)) : Option (((List Int) × (List Bool)) ⊕ ((List Bool) × (List Int) × Bool)) :=
  if 0 < (v1_6.length : Int) then
    if IntKind.i64.wrap ((v1_6.length : Int) - 1) = (v1_6.length : Int) - 1 then
      (natI ((v1_6.length : Int) - 1)).bind fun (j7 : Nat) =>
      (v1_6[j7]?).bind fun (y9 : Int) =>
      if j7 ≤ v1_6.length then
        (natI y9).bind fun (j12 : Nat) =>
        (v1_5[j12]?).bind fun (y14 : Bool) =>
        if y14 = true then
          some (.inl (v1_6.take j7, v1_5))
        else
          (lp (fun v => B_actors_All_2 a0 v0_3 v0_12 v1_5 y9 j12 v.1 v.2) ((v1_6.take j7), 0)).bind fun (x17 : ((List Int) × Nat × Bool)) =>
          some (.inl (x17.1, v1_5.set j12 true))
      else none
    else none
  else
    some (.inr (v1_5, v1_6, decide (0 < (v1_6.length : Int))))
abbrev S_actors_All_1 (a0 : Actors) (v0_3 : (List (List Bool))) (v0_12 : Nat) (v : ((List Int) × (List Bool))) : St := ⟨[(1, (.p ⟨0, 1⟩ 0)), (3, (.o 25 (v0_3.map (eLs 4 AV.b)))), (5, (.o 4 (v.2.map AV.b))), (6, (.o 3 (v.1.map (I)))), (11, (I a0.Many)), (12, (I (v0_12 : Int))), (29, .u)], [(1, [(I a0.Many), (.l 53 (a0.Grants.map eGrant))])], H0⟩
abbrev X_actors_All_1 (a0 : Actors) (v0_3 : (List (List Bool))) (v0_12 : Nat) (x : ((List Bool) × (List Int) × Bool)) : AExit × St := ((.ex 2), ⟨[(1, (.p ⟨0, 1⟩ 0)), (3, (.o 25 (v0_3.map (eLs 4 AV.b)))), (5, (.o 4 (x.1.map AV.b))), (6, (.o 3 (x.2.1.map (I)))), (11, (I a0.Many)), (12, (I (v0_12 : Int))), (22, (.b x.2.2)), (29, .u)], [(1, [(I a0.Many), (.l 53 (a0.Grants.map eGrant))])], H0⟩)
theorem LB_actors_All_1 (a0 : Actors) (v0_3 : (List (List Bool))) (v0_12 : Nat) (v1_6 : (List Int)) (v1_5 : (List Bool)) (o : ((List Int) × (List Bool)) ⊕ ((List Bool) × (List Int) × Bool)) (h : B_actors_All_1 a0 v0_3 v0_12 v1_6 v1_5 = some o) : bodyOK E0 c37_1 (S_actors_All_1 a0 v0_3 v0_12) (X_actors_All_1 a0 v0_3 v0_12) (v1_6, v1_5) o :=
  have L := fun {a} => lY (Y := bodyY (S_actors_All_1 a0 v0_3 v0_12) (X_actors_All_1 a0 v0_3 v0_12)) (a := a) (r := o)
  bodyT (ao (.i (v1_6.length : Int)) <| AT.or (bt <| ao (.i (v1_6.length : Int)) <| ao (.i ((v1_6.length : Int) - 1)) <| AT.ex fun (j7 : Nat) => ao (.n j7) <| AT.ex fun (y9 : Int) => ao (.v (I y9)) <| ao (.v (I y9)) <| ao (.i (v1_6.length : Int)) <| ao (.i ((v1_6.length : Int) - 1)) <| ao (.n j7) <| ao (.n j7) <| bt <| ao (.l ((v1_6.take j7).map (I))) <| AT.ex fun (j12 : Nat) => ao (.n j12) <| AT.ex fun (y14 : Bool) => ao (.v (.b y14)) <| ao (.v (.b y14)) <| AT.or (bt <| AT.nil) (bf <| ao (.n j12) <| ao (.v (.b y14)) <| ao (.v (.b y14)) <| ao (.l ((v1_5.set j12 true).map AV.b)) <| bt <| ao (.i (a0.Grants.length : Int)) <| AT.ex fun (x17 : ((List Int) × Nat × Bool)) => ao (.lp (.ex 4) ⟨[(1, (.p ⟨0, 1⟩ 0)), (3, (.o 25 (v0_3.map (eLs 4 AV.b)))), (5, (.o 4 ((v1_5.set j12 true).map AV.b))), (6, (.o 3 (x17.1.map (I)))), (7, (I y9)), (11, (I a0.Many)), (12, (I (v0_12 : Int))), (29, .u), (42, (.l 53 (a0.Grants.map eGrant))), (43, (I (a0.Grants.length : Int))), (44, (I (x17.2.1 : Int))), (45, (.b x17.2.2))], [(1, [(I a0.Many), (.l 53 (a0.Grants.map eGrant))])], H0⟩) <| AT.nil)) (bf <| AT.nil)) (ai (map_len (I) v1_6) <| orP h (fun h5 h => ai (decide_eq_true h5) <| ai (map_len (I) v1_6) <| asrtP h fun w6 h => ai w6 <| natE h fun j7 h8 h => ai h8 <| exB h fun y9 h10 h => ai (map_get (I) h10) <| ai (map_get (I) h10) <| ai (map_len (I) v1_6) <| ai w6 <| ai h8 <| ai (Nat.zero_le _ : 0 ≤ j7) <| asrtP h fun h11 h => ai ((by rw [List.length_map]; exact h11) : j7 ≤ (v1_6.map (I)).length) <| ai ((by simp) : j7 - 0 = j7) <| ai (rfl : ((.s 6) : Pl) = (.s 6)) <| ai ((by rw [List.length_map]; exact h11) : j7 ≤ (v1_6.map (I)).length) <| ai (map_take (I) v1_6 j7) <| natE h fun j12 h13 h => ai h13 <| exB h fun y14 h15 h => ai (map_get AV.b h15) <| ai (map_get AV.b h15) <| orB h (fun h16 h => ai h16 <| L h) (fun h16 h => ai h16 <| ai h13 <| ai (map_get AV.b h15) <| ai ff <| ai (map_get AV.b h15) <| ai (map_set .. : (v1_5.map AV.b).set j12 (.b true) = (v1_5.set j12 true).map AV.b) <| ai (rfl : Z0) <| ai (map_len eGrant a0.Grants) <| exB h fun x17 lp18 h => have lp18 := LL_actors_All_2 a0 v0_3 v0_12 v1_5 y9 j12 ((v1_6.take j7), 0) _ lp18; ai lp18 <| L h)) (fun h5 h => ai (decide_eq_false h5) <| L h)) (by kernel_rfl)
theorem LL_actors_All_1 (a0 : Actors) (v0_3 : (List (List Bool))) (v0_12 : Nat) (v : ((List Int) × (List Bool))) (x : ((List Bool) × (List Int) × Bool)) (h : lp (fun v => B_actors_All_1 a0 v0_3 v0_12 v.1 v.2) v = some x) : lpAt G Ω0 E0 c37_1 (S_actors_All_1 a0 v0_3 v0_12 v) = some (X_actors_All_1 a0 v0_3 v0_12 x) :=
  lp_lift c37_1 (S_actors_All_1 a0 v0_3 v0_12) (X_actors_All_1 a0 v0_3 v0_12) (fun _ => rfl) (fun v o h => LB_actors_All_1 a0 v0_3 v0_12 v.1 v.2 o h) h
noncomputable def B_actors_All_0 (a0 : Actors) (v0_3 : (List (List Bool))) (v0_12 : Nat) : Option (((List (List Bool)) × Nat) ⊕ ((List (List Bool)) × Nat × Bool)) :=
  if (v0_12 : Int) < a0.Many then
    (natI a0.Many).bind fun (j2 : Nat) =>
    if j2 ≤ 1000000000 then
      (lp (fun v => B_actors_All_1 a0 v0_3 v0_12 v.1 v.2) (([(v0_12 : Int)]), (List.replicate j2 false))).bind fun (x5 : ((List Bool) × (List Int) × Bool)) =>
      if v0_3.length + [x5.1].length ≤ 1000000000 then
        if IntKind.i64.wrap ((v0_12 : Int) + 1) = ((v0_12 + 1 : Nat) : Int) then
          some (.inl (v0_3 ++ [x5.1], v0_12 + 1))
        else none
      else none
    else none
  else
    some (.inr (v0_3, v0_12, decide ((v0_12 : Int) < a0.Many)))
abbrev S_actors_All_0 (a0 : Actors) (v : ((List (List Bool)) × Nat)) : St := ⟨[(1, (.p ⟨0, 1⟩ 0)), (3, (.o 25 (v.1.map (eLs 4 AV.b)))), (11, (I a0.Many)), (12, (I (v.2 : Int)))], [(1, [(I a0.Many), (.l 53 (a0.Grants.map eGrant))])], H0⟩
abbrev X_actors_All_0 (a0 : Actors) (x : ((List (List Bool)) × Nat × Bool)) : AExit × St := ((.ex 0), ⟨[(1, (.p ⟨0, 1⟩ 0)), (3, (.o 25 (x.1.map (eLs 4 AV.b)))), (11, (I a0.Many)), (12, (I (x.2.1 : Int))), (13, (.b x.2.2))], [(1, [(I a0.Many), (.l 53 (a0.Grants.map eGrant))])], H0⟩)
theorem LB_actors_All_0 (a0 : Actors) (v0_3 : (List (List Bool))) (v0_12 : Nat) (o : ((List (List Bool)) × Nat) ⊕ ((List (List Bool)) × Nat × Bool)) (h : B_actors_All_0 a0 v0_3 v0_12 = some o) : bodyOK E0 c37_0 (S_actors_All_0 a0) (X_actors_All_0 a0) (v0_3, v0_12) o :=
  have L := fun {a} => lY (Y := bodyY (S_actors_All_0 a0) (X_actors_All_0 a0)) (a := a) (r := o)
  bodyT (AT.or (bt <| bt <| AT.ex fun (j2 : Nat) => ao (.n j2) <| ao (.l ((List.replicate j2 false).map AV.b)) <| ao (.l (([(v0_12 : Int)]).map (I))) <| AT.ex fun (x5 : ((List Bool) × (List Int) × Bool)) => ao (.lp (.ex 2) ⟨[(1, (.p ⟨0, 1⟩ 0)), (3, (.o 25 (v0_3.map (eLs 4 AV.b)))), (5, (.o 4 (x5.1.map AV.b))), (6, (.o 3 (x5.2.1.map (I)))), (11, (I a0.Many)), (12, (I (v0_12 : Int))), (22, (.b x5.2.2)), (29, .u)], [(1, [(I a0.Many), (.l 53 (a0.Grants.map eGrant))])], H0⟩) <| ao (.l ([x5.1].map (eLs 4 AV.b))) <| ao (.l ((v0_3 ++ [x5.1]).map (eLs 4 AV.b))) <| ao (.i ((v0_12 + 1 : Nat) : Int)) <| AT.nil) (bf <| AT.nil)) (orP h (fun h1 h => ai (decide_eq_true h1) <| ai (rfl : Z0) <| natE h fun j2 h3 h => ai h3 <| asrtP h fun h4 h => ai ((room1 h4 (by decide)) : j2 * 1 ≤ 140737488355328) <| ai ((room2 h4) : j2 ≤ maxLen) <| ai ((List.map_replicate ..).symm : List.replicate j2 (.b false) = (List.replicate j2 false).map AV.b) <| ai (rfl : [(I (v0_12 : Int))] = ([(v0_12 : Int)]).map (I)) <| exB h fun x5 lp6 h => have lp6 := LL_actors_All_1 a0 v0_3 v0_12 (([(v0_12 : Int)]), (List.replicate j2 false)) _ lp6; ai lp6 <| ai (rfl : [(.l 4 (x5.1.map AV.b))] = [x5.1].map (eLs 4 AV.b)) <| ai ff <| asrtP h fun h7 h => ai ((all_nc (eLs 4 AV.b) (n := 1) (fun _ => rfl) [x5.1]) : ([x5.1].map (eLs 4 AV.b)).all (fun e => e.nc == 1) = true) <| ai ((room3 h7 (by decide)) : ((v0_3.map (eLs 4 AV.b)).length + ([x5.1].map (eLs 4 AV.b)).length) * 24 ≤ 140737488355328) <| ai ((room4 h7) : (v0_3.map (eLs 4 AV.b)).length + ([x5.1].map (eLs 4 AV.b)).length ≤ maxLen) <| ai (List.map_append.symm : v0_3.map (eLs 4 AV.b) ++ [x5.1].map (eLs 4 AV.b) = (v0_3 ++ [x5.1]).map (eLs 4 AV.b)) <| asrtP h fun w8 h => ai w8 <| L h) (fun h1 h => ai (decide_eq_false h1) <| L h)) (by kernel_rfl)
theorem LL_actors_All_0 (a0 : Actors) (v : ((List (List Bool)) × Nat)) (x : ((List (List Bool)) × Nat × Bool)) (h : lp (fun v => B_actors_All_0 a0 v.1 v.2) v = some x) : lpAt G Ω0 E0 c37_0 (S_actors_All_0 a0 v) = some (X_actors_All_0 a0 x) :=
  lp_lift c37_0 (S_actors_All_0 a0) (X_actors_All_0 a0) (fun _ => rfl) (fun v o h => LB_actors_All_0 a0 v.1 v.2 o h) h
abbrev Y_actors_All (a0 : Actors) (r : (List (List Bool))) : AEnd × HP := (.ret (.l 25 (r.map (eLs 4 AV.b))), H0)
abbrev O_actors_All (a0 : Actors) (r : (List (List Bool))) : Prop := call G Ω0 E0 37 [(.a [(I a0.Many), (.l 53 (a0.Grants.map eGrant))])] H0 = some (Y_actors_All a0 r)
noncomputable def F_actors_All (a0 : Actors) : Option (List (List Bool)) :=
  (lp (fun v => B_actors_All_0 a0 v.1 v.2) (([] : List (List Bool)), 0)).bind fun (x1 : ((List (List Bool)) × Nat × Bool)) =>
  some x1.1
theorem lift_actors_All (a0 : Actors) (r : (List (List Bool))) (h : F_actors_All a0 = some r) : O_actors_All a0 r :=
  have L := fun {a} => lY (Y := Y_actors_All a0) (a := a) (r := r)
  callT G37 (bt <| AT.ex fun (x1 : ((List (List Bool)) × Nat × Bool)) => ao (.lp (.ex 0) ⟨[(1, (.p ⟨0, 1⟩ 0)), (3, (.o 25 (x1.1.map (eLs 4 AV.b)))), (11, (I a0.Many)), (12, (I (x1.2.1 : Int))), (13, (.b x1.2.2))], [(1, [(I a0.Many), (.l 53 (a0.Grants.map eGrant))])], H0⟩) <| AT.nil) (ai tt <| ai (rfl : Z0) <| exB h fun x1 lp2 h => have lp2 := LL_actors_All_0 a0 (([] : List (List Bool)), 0) _ lp2; ai lp2 <| L h) (by kernel_rfl)
abbrev Y_label_Of_1_1_1 (a0 : Int) (a1 : (List (List Bool))) (a2 : Int) (r : Bool) : AEnd × HP := (.ret (.b r), H0)
abbrev O_label_Of_1_1_1 (a0 : Int) (a1 : (List (List Bool))) (a2 : Int) (r : Bool) : Prop := call G Ω0 E0 41 [(I a0), (.e (.l 25 (a1.map (eLs 4 AV.b))) 0), (.e (I a2) 0)] H0 = some (Y_label_Of_1_1_1 a0 a1 a2 r)
noncomputable def F_label_Of_1_1_1 (a0 : Int) (a1 : (List (List Bool))) (a2 : Int) : Option Bool :=
  (natI a2).bind fun (j1 : Nat) =>
  (a1[j1]?).bind fun (y3 : (List Bool)) =>
  (natI a0).bind fun (j5 : Nat) =>
  (y3[j5]?).bind fun (y7 : Bool) =>
  some y7
theorem lift_label_Of_1_1_1 (a0 : Int) (a1 : (List (List Bool))) (a2 : Int) (r : Bool) (h : F_label_Of_1_1_1 a0 a1 a2 = some r) : O_label_Of_1_1_1 a0 a1 a2 r :=
  have L := fun {a} => lY (Y := Y_label_Of_1_1_1 a0 a1 a2) (a := a) (r := r)
  callT G41 (AT.ex fun (j1 : Nat) => ao (.n j1) <| AT.ex fun (y3 : (List Bool)) => ao (.v (.l 4 (y3.map AV.b))) <| AT.ex fun (j5 : Nat) => ao (.n j5) <| AT.ex fun (y7 : Bool) => ao (.v (.b y7)) <| AT.nil) (natE h fun j1 h2 h => ai h2 <| exB h fun y3 h4 h => ai (map_get (eLs 4 AV.b) h4) <| natE h fun j5 h6 h => ai h6 <| exB h fun y7 h8 h => ai (map_get AV.b h8) <| L h) (by kernel_rfl)
noncomputable def B_slices_IndexFunc__label_Of_1_1_1_0 (a0 : (List Int)) (a1 : (List (List Bool))) (a2 : Int) (v0_8 : Nat) : Option (Nat ⊕ (Nat ⊕ (Nat × Bool))) :=
  if (v0_8 : Int) < (a0.length : Int) then
    (a0[v0_8]?).bind fun (y2 : Int) =>
    (F_label_Of_1_1_1 y2 a1 a2).bind fun (r4 : Bool) =>
    if r4 = true then
      some (.inr (.inl v0_8))
    else
      if IntKind.i64.wrap ((v0_8 : Int) + 1) = ((v0_8 + 1 : Nat) : Int) then
        some (.inl (v0_8 + 1))
      else none
  else
    some (.inr (.inr (v0_8, decide ((v0_8 : Int) < (a0.length : Int)))))
abbrev S_slices_IndexFunc__label_Of_1_1_1_0 (a0 : (List Int)) (a1 : (List (List Bool))) (a2 : Int) (v : Nat) : St := ⟨[(0, (.l 3 (a0.map (I)))), (1, (.f 41 [(.e (.l 25 (a1.map (eLs 4 AV.b))) 0), (.e (I a2) 0)])), (7, (I (a0.length : Int))), (8, (I (v : Int)))], [], H0⟩
abbrev X_slices_IndexFunc__label_Of_1_1_1_0 (a0 : (List Int)) (a1 : (List (List Bool))) (a2 : Int) (x : (Nat ⊕ (Nat × Bool))) : AExit × St := match x with | .inl z1 => (.ret, ⟨[(4, (I (z1 : Int)))], [], H0⟩) | .inr (z1, z2) => ((.ex 0), ⟨[(0, (.l 3 (a0.map (I)))), (1, (.f 41 [(.e (.l 25 (a1.map (eLs 4 AV.b))) 0), (.e (I a2) 0)])), (7, (I (a0.length : Int))), (8, (I (z1 : Int))), (9, (.b z2))], [], H0⟩)
theorem LB_slices_IndexFunc__label_Of_1_1_1_0 (a0 : (List Int)) (a1 : (List (List Bool))) (a2 : Int) (v0_8 : Nat) (o : Nat ⊕ (Nat ⊕ (Nat × Bool))) (h : B_slices_IndexFunc__label_Of_1_1_1_0 a0 a1 a2 v0_8 = some o) : bodyOK E0 c49_0 (S_slices_IndexFunc__label_Of_1_1_1_0 a0 a1 a2) (X_slices_IndexFunc__label_Of_1_1_1_0 a0 a1 a2) v0_8 o :=
  have L := fun {a} => lY (Y := bodyY (S_slices_IndexFunc__label_Of_1_1_1_0 a0 a1 a2) (X_slices_IndexFunc__label_Of_1_1_1_0 a0 a1 a2)) (a := a) (r := o)
  bodyT (AT.or (bt <| ao (.n v0_8) <| AT.ex fun (y2 : Int) => ao (.v (I y2)) <| AT.ex fun (r4 : Bool) => ao (.v (.b r4)) <| AT.or (bt <| AT.nil) (bf <| ao (.i ((v0_8 + 1 : Nat) : Int)) <| AT.nil)) (bf <| AT.nil)) (orP h (fun h1 h => ai (decide_eq_true h1) <| ai (rfl : (v0_8 : Int) = (v0_8 : Int)) <| exB h fun y2 h3 h => ai (map_get (I) h3) <| exB h fun r4 ek5 h => have ek5 := lift_label_Of_1_1_1 y2 a1 a2 _ ek5; ai ek5 <| orB h (fun h6 h => ai h6 <| L h) (fun h6 h => ai h6 <| asrtP h fun w7 h => ai w7 <| L h)) (fun h1 h => ai (decide_eq_false h1) <| L h)) (by kernel_rfl)
theorem LL_slices_IndexFunc__label_Of_1_1_1_0 (a0 : (List Int)) (a1 : (List (List Bool))) (a2 : Int) (v : Nat) (x : (Nat ⊕ (Nat × Bool))) (h : lp (fun v => B_slices_IndexFunc__label_Of_1_1_1_0 a0 a1 a2 v) v = some x) : lpAt G Ω0 E0 c49_0 (S_slices_IndexFunc__label_Of_1_1_1_0 a0 a1 a2 v) = some (X_slices_IndexFunc__label_Of_1_1_1_0 a0 a1 a2 x) :=
  lp_lift c49_0 (S_slices_IndexFunc__label_Of_1_1_1_0 a0 a1 a2) (X_slices_IndexFunc__label_Of_1_1_1_0 a0 a1 a2) (fun _ => rfl) (fun v o h => LB_slices_IndexFunc__label_Of_1_1_1_0 a0 a1 a2 v o h) h
abbrev Y_slices_IndexFunc__label_Of_1_1_1 (a0 : (List Int)) (a1 : (List (List Bool))) (a2 : Int) (r : Int) : AEnd × HP := (.ret (I r), H0)
abbrev O_slices_IndexFunc__label_Of_1_1_1 (a0 : (List Int)) (a1 : (List (List Bool))) (a2 : Int) (r : Int) : Prop := call G Ω0 E0 49 [(.l 3 (a0.map (I))), (.f 41 [(.e (.l 25 (a1.map (eLs 4 AV.b))) 0), (.e (I a2) 0)])] H0 = some (Y_slices_IndexFunc__label_Of_1_1_1 a0 a1 a2 r)
noncomputable def F_slices_IndexFunc__label_Of_1_1_1 (a0 : (List Int)) (a1 : (List (List Bool))) (a2 : Int) : Option Int :=
  (lp (fun v => B_slices_IndexFunc__label_Of_1_1_1_0 a0 a1 a2 v) 0).bind fun (x1 : (Nat ⊕ (Nat × Bool))) => match x1 with
  | .inl ya_2 =>
    some (ya_2 : Int)
  | .inr yb_2 =>
    some (-1)
theorem lift_slices_IndexFunc__label_Of_1_1_1 (a0 : (List Int)) (a1 : (List (List Bool))) (a2 : Int) (r : Int) (h : F_slices_IndexFunc__label_Of_1_1_1 a0 a1 a2 = some r) : O_slices_IndexFunc__label_Of_1_1_1 a0 a1 a2 r :=
  have L := fun {a} => lY (Y := Y_slices_IndexFunc__label_Of_1_1_1 a0 a1 a2) (a := a) (r := r)
  callT G49 (ao (.i (a0.length : Int)) <| AT.or (AT.ex fun (ya_2 : Nat) => ao (.lp .ret ⟨[(4, (I (ya_2 : Int)))], [], H0⟩) <| AT.nil) (AT.ex fun (yb_2 : (Nat × Bool)) => ao (.lp (.ex 0) ⟨[(0, (.l 3 (a0.map (I)))), (1, (.f 41 [(.e (.l 25 (a1.map (eLs 4 AV.b))) 0), (.e (I a2) 0)])), (7, (I (a0.length : Int))), (8, (I (yb_2.1 : Int))), (9, (.b yb_2.2))], [], H0⟩) <| AT.nil)) (ai (map_len (I) a0) <| sum2 h (fun ya_2 lp3 h => have lp3 := LL_slices_IndexFunc__label_Of_1_1_1_0 a0 a1 a2 0 _ lp3; ai lp3 <| L h) (fun yb_2 lp3 h => have lp3 := LL_slices_IndexFunc__label_Of_1_1_1_0 a0 a1 a2 0 _ lp3; ai lp3 <| L h)) (by kernel_rfl)
abbrev Y_slices_ContainsFunc__label_Of_1_1_1 (a0 : (List Int)) (a1 : (List (List Bool))) (a2 : Int) (r : Bool) : AEnd × HP := (.ret (.b r), H0)
abbrev O_slices_ContainsFunc__label_Of_1_1_1 (a0 : (List Int)) (a1 : (List (List Bool))) (a2 : Int) (r : Bool) : Prop := call G Ω0 E0 40 [(.l 3 (a0.map (I))), (.f 41 [(.e (.l 25 (a1.map (eLs 4 AV.b))) 0), (.e (I a2) 0)])] H0 = some (Y_slices_ContainsFunc__label_Of_1_1_1 a0 a1 a2 r)
noncomputable def F_slices_ContainsFunc__label_Of_1_1_1 (a0 : (List Int)) (a1 : (List (List Bool))) (a2 : Int) : Option Bool :=
  (F_slices_IndexFunc__label_Of_1_1_1 a0 a1 a2).bind fun (r1 : Int) =>
  some (decide (0 ≤ r1))
theorem lift_slices_ContainsFunc__label_Of_1_1_1 (a0 : (List Int)) (a1 : (List (List Bool))) (a2 : Int) (r : Bool) (h : F_slices_ContainsFunc__label_Of_1_1_1 a0 a1 a2 = some r) : O_slices_ContainsFunc__label_Of_1_1_1 a0 a1 a2 r :=
  have L := fun {a} => lY (Y := Y_slices_ContainsFunc__label_Of_1_1_1 a0 a1 a2) (a := a) (r := r)
  callT G40 (AT.ex fun (r1 : Int) => ao (.v (I r1)) <| AT.nil) (exB h fun r1 ek2 h => have ek2 := lift_slices_IndexFunc__label_Of_1_1_1 a0 a1 a2 _ ek2; ai ek2 <| L h) (by kernel_rfl)
abbrev Y_label_Of_1_1 (a0 : Policy) (a1 : (List (List Bool))) (a2 : Int) (r : Bool) : AEnd × HP := (.ret (.b r), H0)
abbrev O_label_Of_1_1 (a0 : Policy) (a1 : (List (List Bool))) (a2 : Int) (r : Bool) : Prop := call G Ω0 E0 39 [(.a [(I a0.Owner), (.l 3 (a0.Names.map (I)))]), (.e (.l 25 (a1.map (eLs 4 AV.b))) 0), (.e (I a2) 0)] H0 = some (Y_label_Of_1_1 a0 a1 a2 r)
noncomputable def F_label_Of_1_1 (a0 : Policy) (a1 : (List (List Bool))) (a2 : Int) : Option Bool :=
  (natI a2).bind fun (j1 : Nat) =>
  (a1[j1]?).bind fun (y3 : (List Bool)) =>
  (natI a0.Owner).bind fun (j5 : Nat) =>
  (y3[j5]?).bind fun (y7 : Bool) =>
  if y7 = true then
    some false
  else
    (F_slices_ContainsFunc__label_Of_1_1_1 a0.Names a1 a2).bind fun (r10 : Bool) =>
    some (!r10)
theorem lift_label_Of_1_1 (a0 : Policy) (a1 : (List (List Bool))) (a2 : Int) (r : Bool) (h : F_label_Of_1_1 a0 a1 a2 = some r) : O_label_Of_1_1 a0 a1 a2 r :=
  have L := fun {a} => lY (Y := Y_label_Of_1_1 a0 a1 a2) (a := a) (r := r)
  callT G39 (AT.ex fun (j1 : Nat) => ao (.n j1) <| AT.ex fun (y3 : (List Bool)) => ao (.v (.l 4 (y3.map AV.b))) <| bt <| AT.ex fun (j5 : Nat) => ao (.n j5) <| AT.ex fun (y7 : Bool) => ao (.v (.b y7)) <| AT.or (bf <| bf <| bf <| bf <| bf <| bf <| AT.nil) (bt <| bt <| bt <| bt <| bt <| AT.ex fun (r10 : Bool) => ao (.v (.b r10)) <| bt <| bt <| AT.nil)) (ai tt <| ai tt <| ai tt <| ai tt <| natE h fun j1 h2 h => ai h2 <| exB h fun y3 h4 h => ai (map_get (eLs 4 AV.b) h4) <| ai tt <| ai tt <| ai tt <| ai (rfl : Z0) <| ai tt <| natE h fun j5 h6 h => ai h6 <| exB h fun y7 h8 h => ai (map_get AV.b h8) <| ai tt <| ai tt <| ai tt <| ai tt <| orB h (fun h9 h => ai (g1 (congrArg not h9)) <| ai (g1 (congrArg not h9)) <| ai (g1 (congrArg not h9)) <| ai (g1 (congrArg not h9)) <| ai (g1 (congrArg not h9)) <| ai (congrArg not h9) <| L h) (fun h9 h => ai (g1 (congrArg not h9)) <| ai tt <| ai (g1 (congrArg not h9)) <| ai (rfl : Z0) <| ai tt <| ai (g1 (congrArg not h9)) <| ai tt <| ai (g1 (congrArg not h9)) <| exB h fun r10 ek11 h => have ek11 := lift_slices_ContainsFunc__label_Of_1_1_1 a0.Names a1 a2 _ ek11; ai ek11 <| ai (g1 (congrArg not h9)) <| ai (congrArg not h9) <| L h)) (by kernel_rfl)
noncomputable def B_slices_IndexFunc__label_Of_1_1_0 (a0 : (List Policy)) (a1 : (List (List Bool))) (a2 : Int) (v0_8 : Nat) : Option (Nat ⊕ (Nat ⊕ (Nat × Bool))) :=
  if (v0_8 : Int) < (a0.length : Int) then
    (a0[v0_8]?).bind fun (y2 : Policy) =>
    (F_label_Of_1_1 y2 a1 a2).bind fun (r4 : Bool) =>
    if r4 = true then
      some (.inr (.inl v0_8))
    else
      if IntKind.i64.wrap ((v0_8 : Int) + 1) = ((v0_8 + 1 : Nat) : Int) then
        some (.inl (v0_8 + 1))
      else none
  else
    some (.inr (.inr (v0_8, decide ((v0_8 : Int) < (a0.length : Int)))))
abbrev S_slices_IndexFunc__label_Of_1_1_0 (a0 : (List Policy)) (a1 : (List (List Bool))) (a2 : Int) (v : Nat) : St := ⟨[(0, (.l 61 (a0.map ePolicy))), (1, (.f 39 [(.e (.l 25 (a1.map (eLs 4 AV.b))) 0), (.e (I a2) 0)])), (7, (I (a0.length : Int))), (8, (I (v : Int)))], [], H0⟩
abbrev X_slices_IndexFunc__label_Of_1_1_0 (a0 : (List Policy)) (a1 : (List (List Bool))) (a2 : Int) (x : (Nat ⊕ (Nat × Bool))) : AExit × St := match x with | .inl z1 => (.ret, ⟨[(4, (I (z1 : Int)))], [], H0⟩) | .inr (z1, z2) => ((.ex 0), ⟨[(0, (.l 61 (a0.map ePolicy))), (1, (.f 39 [(.e (.l 25 (a1.map (eLs 4 AV.b))) 0), (.e (I a2) 0)])), (7, (I (a0.length : Int))), (8, (I (z1 : Int))), (9, (.b z2))], [], H0⟩)
theorem LB_slices_IndexFunc__label_Of_1_1_0 (a0 : (List Policy)) (a1 : (List (List Bool))) (a2 : Int) (v0_8 : Nat) (o : Nat ⊕ (Nat ⊕ (Nat × Bool))) (h : B_slices_IndexFunc__label_Of_1_1_0 a0 a1 a2 v0_8 = some o) : bodyOK E0 c50_0 (S_slices_IndexFunc__label_Of_1_1_0 a0 a1 a2) (X_slices_IndexFunc__label_Of_1_1_0 a0 a1 a2) v0_8 o :=
  have L := fun {a} => lY (Y := bodyY (S_slices_IndexFunc__label_Of_1_1_0 a0 a1 a2) (X_slices_IndexFunc__label_Of_1_1_0 a0 a1 a2)) (a := a) (r := o)
  bodyT (AT.or (bt <| ao (.n v0_8) <| AT.ex fun (y2 : Policy) => ao (.v (.a [(I y2.Owner), (.l 3 (y2.Names.map (I)))])) <| AT.ex fun (r4 : Bool) => ao (.v (.b r4)) <| AT.or (bt <| AT.nil) (bf <| ao (.i ((v0_8 + 1 : Nat) : Int)) <| AT.nil)) (bf <| AT.nil)) (orP h (fun h1 h => ai (decide_eq_true h1) <| ai (rfl : (v0_8 : Int) = (v0_8 : Int)) <| exB h fun y2 h3 h => ai (map_get ePolicy h3) <| exB h fun r4 ek5 h => have ek5 := lift_label_Of_1_1 y2 a1 a2 _ ek5; ai ek5 <| orB h (fun h6 h => ai h6 <| L h) (fun h6 h => ai h6 <| asrtP h fun w7 h => ai w7 <| L h)) (fun h1 h => ai (decide_eq_false h1) <| L h)) (by kernel_rfl)
theorem LL_slices_IndexFunc__label_Of_1_1_0 (a0 : (List Policy)) (a1 : (List (List Bool))) (a2 : Int) (v : Nat) (x : (Nat ⊕ (Nat × Bool))) (h : lp (fun v => B_slices_IndexFunc__label_Of_1_1_0 a0 a1 a2 v) v = some x) : lpAt G Ω0 E0 c50_0 (S_slices_IndexFunc__label_Of_1_1_0 a0 a1 a2 v) = some (X_slices_IndexFunc__label_Of_1_1_0 a0 a1 a2 x) :=
  lp_lift c50_0 (S_slices_IndexFunc__label_Of_1_1_0 a0 a1 a2) (X_slices_IndexFunc__label_Of_1_1_0 a0 a1 a2) (fun _ => rfl) (fun v o h => LB_slices_IndexFunc__label_Of_1_1_0 a0 a1 a2 v o h) h
abbrev Y_slices_IndexFunc__label_Of_1_1 (a0 : (List Policy)) (a1 : (List (List Bool))) (a2 : Int) (r : Int) : AEnd × HP := (.ret (I r), H0)
abbrev O_slices_IndexFunc__label_Of_1_1 (a0 : (List Policy)) (a1 : (List (List Bool))) (a2 : Int) (r : Int) : Prop := call G Ω0 E0 50 [(.l 61 (a0.map ePolicy)), (.f 39 [(.e (.l 25 (a1.map (eLs 4 AV.b))) 0), (.e (I a2) 0)])] H0 = some (Y_slices_IndexFunc__label_Of_1_1 a0 a1 a2 r)
noncomputable def F_slices_IndexFunc__label_Of_1_1 (a0 : (List Policy)) (a1 : (List (List Bool))) (a2 : Int) : Option Int :=
  (lp (fun v => B_slices_IndexFunc__label_Of_1_1_0 a0 a1 a2 v) 0).bind fun (x1 : (Nat ⊕ (Nat × Bool))) => match x1 with
  | .inl ya_2 =>
    some (ya_2 : Int)
  | .inr yb_2 =>
    some (-1)
theorem lift_slices_IndexFunc__label_Of_1_1 (a0 : (List Policy)) (a1 : (List (List Bool))) (a2 : Int) (r : Int) (h : F_slices_IndexFunc__label_Of_1_1 a0 a1 a2 = some r) : O_slices_IndexFunc__label_Of_1_1 a0 a1 a2 r :=
  have L := fun {a} => lY (Y := Y_slices_IndexFunc__label_Of_1_1 a0 a1 a2) (a := a) (r := r)
  callT G50 (ao (.i (a0.length : Int)) <| AT.or (AT.ex fun (ya_2 : Nat) => ao (.lp .ret ⟨[(4, (I (ya_2 : Int)))], [], H0⟩) <| AT.nil) (AT.ex fun (yb_2 : (Nat × Bool)) => ao (.lp (.ex 0) ⟨[(0, (.l 61 (a0.map ePolicy))), (1, (.f 39 [(.e (.l 25 (a1.map (eLs 4 AV.b))) 0), (.e (I a2) 0)])), (7, (I (a0.length : Int))), (8, (I (yb_2.1 : Int))), (9, (.b yb_2.2))], [], H0⟩) <| AT.nil)) (ai (map_len ePolicy a0) <| sum2 h (fun ya_2 lp3 h => have lp3 := LL_slices_IndexFunc__label_Of_1_1_0 a0 a1 a2 0 _ lp3; ai lp3 <| L h) (fun yb_2 lp3 h => have lp3 := LL_slices_IndexFunc__label_Of_1_1_0 a0 a1 a2 0 _ lp3; ai lp3 <| L h)) (by kernel_rfl)
abbrev Y_slices_ContainsFunc__label_Of_1_1 (a0 : (List Policy)) (a1 : (List (List Bool))) (a2 : Int) (r : Bool) : AEnd × HP := (.ret (.b r), H0)
abbrev O_slices_ContainsFunc__label_Of_1_1 (a0 : (List Policy)) (a1 : (List (List Bool))) (a2 : Int) (r : Bool) : Prop := call G Ω0 E0 42 [(.l 61 (a0.map ePolicy)), (.f 39 [(.e (.l 25 (a1.map (eLs 4 AV.b))) 0), (.e (I a2) 0)])] H0 = some (Y_slices_ContainsFunc__label_Of_1_1 a0 a1 a2 r)
noncomputable def F_slices_ContainsFunc__label_Of_1_1 (a0 : (List Policy)) (a1 : (List (List Bool))) (a2 : Int) : Option Bool :=
  (F_slices_IndexFunc__label_Of_1_1 a0 a1 a2).bind fun (r1 : Int) =>
  some (decide (0 ≤ r1))
theorem lift_slices_ContainsFunc__label_Of_1_1 (a0 : (List Policy)) (a1 : (List (List Bool))) (a2 : Int) (r : Bool) (h : F_slices_ContainsFunc__label_Of_1_1 a0 a1 a2 = some r) : O_slices_ContainsFunc__label_Of_1_1 a0 a1 a2 r :=
  have L := fun {a} => lY (Y := Y_slices_ContainsFunc__label_Of_1_1 a0 a1 a2) (a := a) (r := r)
  callT G42 (AT.ex fun (r1 : Int) => ao (.v (I r1)) <| AT.nil) (exB h fun r1 ek2 h => have ek2 := lift_slices_IndexFunc__label_Of_1_1 a0 a1 a2 _ ek2; ai ek2 <| L h) (by kernel_rfl)
noncomputable def B_label_Of_1_0 (a0 : (List Policy)) (a1 : Actors) (a2 : (List (List Bool))) (v0_5 : (List Bool)) (v0_10 : Nat) : Option (((List Bool) × Nat) ⊕ ((List Bool) × Nat × Bool)) :=
  if (v0_10 : Int) < a1.Many then
    (F_slices_ContainsFunc__label_Of_1_1 a0 a2 (v0_10 : Int)).bind fun (r2 : Bool) =>
    if v0_5.length + ([!r2]).length ≤ 1000000000 then
      if IntKind.i64.wrap ((v0_10 : Int) + 1) = ((v0_10 + 1 : Nat) : Int) then
        some (.inl (v0_5 ++ ([!r2]), v0_10 + 1))
      else none
    else none
  else
    some (.inr (v0_5, v0_10, decide ((v0_10 : Int) < a1.Many)))
abbrev S_label_Of_1_0 (a0 : (List Policy)) (a1 : Actors) (a2 : (List (List Bool))) (v : ((List Bool) × Nat)) : St := ⟨[(0, (.l 61 (a0.map ePolicy))), (2, (.e (.l 25 (a2.map (eLs 4 AV.b))) 0)), (5, (.o 4 (v.1.map AV.b))), (9, (I a1.Many)), (10, (I (v.2 : Int)))], [], H0⟩
abbrev X_label_Of_1_0 (a0 : (List Policy)) (a1 : Actors) (a2 : (List (List Bool))) (x : ((List Bool) × Nat × Bool)) : AExit × St := ((.ex 0), ⟨[(0, (.l 61 (a0.map ePolicy))), (2, (.e (.l 25 (a2.map (eLs 4 AV.b))) 0)), (5, (.o 4 (x.1.map AV.b))), (9, (I a1.Many)), (10, (I (x.2.1 : Int))), (11, (.b x.2.2))], [], H0⟩)
theorem LB_label_Of_1_0 (a0 : (List Policy)) (a1 : Actors) (a2 : (List (List Bool))) (v0_5 : (List Bool)) (v0_10 : Nat) (o : ((List Bool) × Nat) ⊕ ((List Bool) × Nat × Bool)) (h : B_label_Of_1_0 a0 a1 a2 v0_5 v0_10 = some o) : bodyOK E0 c38_0 (S_label_Of_1_0 a0 a1 a2) (X_label_Of_1_0 a0 a1 a2) (v0_5, v0_10) o :=
  have L := fun {a} => lY (Y := bodyY (S_label_Of_1_0 a0 a1 a2) (X_label_Of_1_0 a0 a1 a2)) (a := a) (r := o)
  bodyT (AT.or (bt <| bt <| bt <| AT.ex fun (r2 : Bool) => ao (.v (.b r2)) <| ao (.l (([!r2]).map AV.b)) <| ao (.l ((v0_5 ++ ([!r2])).map AV.b)) <| ao (.i ((v0_10 + 1 : Nat) : Int)) <| AT.nil) (bf <| AT.nil)) (orP h (fun h1 h => ai (decide_eq_true h1) <| ai tt <| ai ff <| ai (rfl : Z0) <| ai tt <| ai (rfl : Z0) <| ai (rfl : Z0) <| exB h fun r2 ek3 h => have ek3 := lift_slices_ContainsFunc__label_Of_1_1 a0 a2 (v0_10 : Int) _ ek3; ai ek3 <| ai (rfl : [(.b (!r2))] = ([!r2]).map AV.b) <| ai ff <| asrtP h fun h4 h => ai ((all_nc AV.b (n := 1) (fun _ => rfl) ([!r2])) : (([!r2]).map AV.b).all (fun e => e.nc == 1) = true) <| ai ((room3 h4 (by decide)) : ((v0_5.map AV.b).length + (([!r2]).map AV.b).length) * 1 ≤ 140737488355328) <| ai ((room4 h4) : (v0_5.map AV.b).length + (([!r2]).map AV.b).length ≤ maxLen) <| ai (List.map_append.symm : v0_5.map AV.b ++ ([!r2]).map AV.b = (v0_5 ++ ([!r2])).map AV.b) <| asrtP h fun w5 h => ai w5 <| L h) (fun h1 h => ai (decide_eq_false h1) <| L h)) (by kernel_rfl)
theorem LL_label_Of_1_0 (a0 : (List Policy)) (a1 : Actors) (a2 : (List (List Bool))) (v : ((List Bool) × Nat)) (x : ((List Bool) × Nat × Bool)) (h : lp (fun v => B_label_Of_1_0 a0 a1 a2 v.1 v.2) v = some x) : lpAt G Ω0 E0 c38_0 (S_label_Of_1_0 a0 a1 a2 v) = some (X_label_Of_1_0 a0 a1 a2 x) :=
  lp_lift c38_0 (S_label_Of_1_0 a0 a1 a2) (X_label_Of_1_0 a0 a1 a2) (fun _ => rfl) (fun v o h => LB_label_Of_1_0 a0 a1 a2 v.1 v.2 o h) h
abbrev Y_label_Of_1 (a0 : (List Policy)) (a1 : Actors) (a2 : (List (List Bool))) (r : (List Bool)) : AEnd × HP := (.ret (.l 4 (r.map AV.b)), H0)
abbrev O_label_Of_1 (a0 : (List Policy)) (a1 : Actors) (a2 : (List (List Bool))) (r : (List Bool)) : Prop := call G Ω0 E0 38 [(.l 61 (a0.map ePolicy)), (.e (.a [(I a1.Many), (.l 53 (a1.Grants.map eGrant))]) 0), (.e (.l 25 (a2.map (eLs 4 AV.b))) 0)] H0 = some (Y_label_Of_1 a0 a1 a2 r)
noncomputable def F_label_Of_1 (a0 : (List Policy)) (a1 : Actors) (a2 : (List (List Bool))) : Option (List Bool) :=
  (lp (fun v => B_label_Of_1_0 a0 a1 a2 v.1 v.2) (([] : List Bool), 0)).bind fun (x1 : ((List Bool) × Nat × Bool)) =>
  some x1.1
theorem lift_label_Of_1 (a0 : (List Policy)) (a1 : Actors) (a2 : (List (List Bool))) (r : (List Bool)) (h : F_label_Of_1 a0 a1 a2 = some r) : O_label_Of_1 a0 a1 a2 r :=
  have L := fun {a} => lY (Y := Y_label_Of_1 a0 a1 a2) (a := a) (r := r)
  callT G38 (AT.ex fun (x1 : ((List Bool) × Nat × Bool)) => ao (.lp (.ex 0) ⟨[(0, (.l 61 (a0.map ePolicy))), (2, (.e (.l 25 (a2.map (eLs 4 AV.b))) 0)), (5, (.o 4 (x1.1.map AV.b))), (9, (I a1.Many)), (10, (I (x1.2.1 : Int))), (11, (.b x1.2.2))], [], H0⟩) <| AT.nil) (exB h fun x1 lp2 h => have lp2 := LL_label_Of_1_0 a0 a1 a2 (([] : List Bool), 0) _ lp2; ai lp2 <| L h) (by kernel_rfl)
abbrev Y_label_Of (a0 : Actors) (a1 : Label) (r : Level) : AEnd × HP := (.ret (.a [(.l 4 (r.Readers.map AV.b)), (.l 4 (r.Writers.map AV.b))]), H0)
abbrev O_label_Of (a0 : Actors) (a1 : Label) (r : Level) : Prop := call G Ω0 E0 29 [(.a [(I a0.Many), (.l 53 (a0.Grants.map eGrant))]), (.a [(.l 61 (a1.Read.map ePolicy)), (.l 61 (a1.Write.map ePolicy))])] H0 = some (Y_label_Of a0 a1 r)
noncomputable def F_label_Of (a0 : Actors) (a1 : Label) : Option Level :=
  (F_actors_All a0).bind fun (r1 : (List (List Bool))) =>
  (F_label_Of_1 a1.Read a0 r1).bind fun (r3 : (List Bool)) =>
  (F_label_Of_1 a1.Write a0 r1).bind fun (r5 : (List Bool)) =>
  some (⟨r3, r5⟩ : Level)
theorem lift_label_Of (a0 : Actors) (a1 : Label) (r : Level) (h : F_label_Of a0 a1 = some r) : O_label_Of a0 a1 r :=
  have L := fun {a} => lY (Y := Y_label_Of a0 a1) (a := a) (r := r)
  callT G29 (bt <| AT.ex fun (r1 : (List (List Bool))) => ao (.v (.l 25 (r1.map (eLs 4 AV.b)))) <| bt <| bt <| bt <| AT.ex fun (r3 : (List Bool)) => ao (.v (.l 4 (r3.map AV.b))) <| bt <| AT.ex fun (r5 : (List Bool)) => ao (.v (.l 4 (r5.map AV.b))) <| bt <| bt <| AT.nil) (ai tt <| ai tt <| ai tt <| ai (rfl : Z0) <| exB h fun r1 ek2 h => have ek2 := lift_actors_All a0 _ ek2; ai ek2 <| ai tt <| ai ff <| ai (rfl : Z0) <| ai tt <| ai (rfl : Z0) <| ai (rfl : Z0) <| ai (rfl : Z0) <| ai tt <| ai tt <| ai tt <| ai (rfl : Z0) <| ai tt <| exB h fun r3 ek4 h => have ek4 := lift_label_Of_1 a1.Read a0 r1 _ ek4; ai ek4 <| ai tt <| ai tt <| ai tt <| ai (rfl : Z0) <| ai tt <| exB h fun r5 ek6 h => have ek6 := lift_label_Of_1 a1.Write a0 r1 _ ek6; ai ek6 <| ai ff <| ai (rfl : Z0) <| ai tt <| ai (rfl : Z0) <| ai (rfl : Z0) <| L h) (by kernel_rfl)
abbrev Y_label_Level (a0 : Actors) (a1 : Label) (r : (Level × Int)) : AEnd × HP := (.ret (.tp [(.a [(.l 4 (r.1.Readers.map AV.b)), (.l 4 (r.1.Writers.map AV.b))]), (I r.2)]), H0)
abbrev O_label_Level (a0 : Actors) (a1 : Label) (r : (Level × Int)) : Prop := call G Ω0 E0 11 [(.a [(I a0.Many), (.l 53 (a0.Grants.map eGrant))]), (.a [(.l 61 (a1.Read.map ePolicy)), (.l 61 (a1.Write.map ePolicy))])] H0 = some (Y_label_Level a0 a1 r)
noncomputable def F_label_Level (a0 : Actors) (a1 : Label) : Option (Level × Int) :=
  (F_label_Check a0 a1).bind fun (r1 : Int) =>
  if (r1 != 0) = true then
    some ((⟨([] : List Bool), ([] : List Bool)⟩ : Level), r1)
  else
    (F_label_Of a0 a1).bind fun (r4 : Level) =>
    some (r4, 0)
theorem lift_label_Level (a0 : Actors) (a1 : Label) (r : (Level × Int)) (h : F_label_Level a0 a1 = some r) : O_label_Level a0 a1 r :=
  have L := fun {a} => lY (Y := Y_label_Level a0 a1) (a := a) (r := r)
  callT G11 (bt <| bt <| AT.ex fun (r1 : Int) => ao (.v (I r1)) <| AT.or (bt <| bt <| bt <| AT.nil) (bf <| bt <| bt <| AT.ex fun (r4 : Level) => ao (.v (.a [(.l 4 (r4.Readers.map AV.b)), (.l 4 (r4.Writers.map AV.b))])) <| bt <| bt <| AT.nil)) (ai tt <| ai tt <| ai tt <| ai (rfl : Z0) <| ai (rfl : Z0) <| exB h fun r1 ek2 h => have ek2 := lift_label_Check a0 a1 _ ek2; ai ek2 <| orB h (fun h3 h => ai h3 <| ai ff <| ai (rfl : Z0) <| ai tt <| ai (rfl : Z0) <| ai (rfl : Z0) <| L h) (fun h3 h => ai h3 <| ai (rfl : Z0) <| ai (rfl : Z0) <| exB h fun r4 ek5 h => have ek5 := lift_label_Of a0 a1 _ ek5; ai ek5 <| ai ff <| ai (rfl : Z0) <| ai tt <| ai (rfl : Z0) <| ai (rfl : Z0) <| L h)) (by kernel_rfl)
end Go.Proofs.Ytjnhiggknkflfaa.A
