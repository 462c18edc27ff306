/- Functions of the program as plain functions, by program. -/
import Derived.Test.YtjnhiggknkflfaaTypes
import Derived.Test.YtjnhiggknkflfaaLift
import Derived.Test.YtjnhiggknkflfaaFB
set_option maxRecDepth 100000
set_option linter.unusedSectionVars false
set_option linter.unusedVariables false
set_option linter.unusedSimpArgs false
set_option linter.constructorNameAsVariable false
namespace Go.Proofs.Ytjnhiggknkflfaa.A
open Go
variable [Lp]
abbrev Y_L_RestLevels_1 (a0 : Level) (r : Level) : AEnd × HP := (.ret (.a [(.l 4 (r.Readers.map AV.b)), (.l 4 (r.Writers.map AV.b))]), H0)
abbrev O_L_RestLevels_1 (a0 : Level) (r : Level) : Prop := call G Ω0 E0 5 [(.a [(.l 4 (a0.Readers.map AV.b)), (.l 4 (a0.Writers.map AV.b))])] H0 = some (Y_L_RestLevels_1 a0 r)
noncomputable def F_L_RestLevels_1 (a0 : Level) : Option Level :=
  if ([] : List Bool).length + a0.Readers.length ≤ 1000000000 then
    if ([] : List Bool).length + a0.Writers.length ≤ 1000000000 then
      some (⟨([] : List Bool) ++ a0.Readers, ([] : List Bool) ++ a0.Writers⟩ : Level)
    else none
  else none
theorem lift_L_RestLevels_1 (a0 : Level) (r : Level) (h : F_L_RestLevels_1 a0 = some r) : O_L_RestLevels_1 a0 r :=
  have L := fun {a} => lY (Y := Y_L_RestLevels_1 a0) (a := a) (r := r)
  callT G5 (ao (.l (([] : List Bool).map AV.b)) <| bt <| ao (.l ((([] : List Bool) ++ a0.Readers).map AV.b)) <| ao (.l (([] : List Bool).map AV.b)) <| bt <| ao (.l ((([] : List Bool) ++ a0.Writers).map AV.b)) <| bt <| bt <| AT.nil) (ai tt <| ai tt <| ai tt <| ai (rfl : ([] : List AV) = ([] : List Bool).map AV.b) <| ai tt <| ai tt <| ai (rfl : Z0) <| ai tt <| asrtP h fun h1 h => ai ((all_nc AV.b (n := 1) (fun _ => rfl) a0.Readers) : (a0.Readers.map AV.b).all (fun e => e.nc == 1) = true) <| ai ((room3 h1 (by decide)) : ((([] : List Bool).map AV.b).length + (a0.Readers.map AV.b).length) * 1 ≤ 140737488355328) <| ai ((room4 h1) : (([] : List Bool).map AV.b).length + (a0.Readers.map AV.b).length ≤ maxLen) <| ai (List.map_append.symm : ([] : List Bool).map AV.b ++ a0.Readers.map AV.b = (([] : List Bool) ++ a0.Readers).map AV.b) <| ai tt <| ai (rfl : ([] : List AV) = ([] : List Bool).map AV.b) <| ai tt <| ai tt <| ai (rfl : Z0) <| ai tt <| asrtP h fun h2 h => ai ((all_nc AV.b (n := 1) (fun _ => rfl) a0.Writers) : (a0.Writers.map AV.b).all (fun e => e.nc == 1) = true) <| ai ((room3 h2 (by decide)) : ((([] : List Bool).map AV.b).length + (a0.Writers.map AV.b).length) * 1 ≤ 140737488355328) <| ai ((room4 h2) : (([] : List Bool).map AV.b).length + (a0.Writers.map AV.b).length ≤ maxLen) <| ai (List.map_append.symm : ([] : List Bool).map AV.b ++ a0.Writers.map AV.b = (([] : List Bool) ++ a0.Writers).map AV.b) <| ai ff <| ai (rfl : Z0) <| ai tt <| ai (rfl : Z0) <| ai (rfl : Z0) <| L h) (by kernel_rfl)
abbrev Y_label_Sized_v2 (a0 : Actors) (a1 : Level) (r : Bool) : AEnd × HP := (.ret (.b r), H0)
abbrev O_label_Sized_v2 (a0 : Actors) (a1 : Level) (r : Bool) : Prop := call G Ω0 E0 36 [(.a [(I a0.Many), (.l 53 (a0.Grants.map eGrant))]), (.a [(.l 0 (a1.Readers.map AV.b)), (.l 0 (a1.Writers.map AV.b))])] H0 = some (Y_label_Sized_v2 a0 a1 r)
noncomputable def F_label_Sized_v2 (a0 : Actors) (a1 : Level) : Option Bool :=
  if ((a1.Readers.length : Int) == a0.Many) = true then
    some ((a1.Writers.length : Int) == a0.Many)
  else
    some false
theorem lift_label_Sized_v2 (a0 : Actors) (a1 : Level) (r : Bool) (h : F_label_Sized_v2 a0 a1 = some r) : O_label_Sized_v2 a0 a1 r :=
  have L := fun {a} => lY (Y := Y_label_Sized_v2 a0 a1) (a := a) (r := r)
  callT G36 (bt <| ao (.i (a1.Readers.length : Int)) <| bt <| AT.or (bt <| bt <| bt <| bt <| ao (.i (a1.Writers.length : Int)) <| bt <| bt <| bt <| bt <| bt <| AT.nil) (bf <| bf <| bf <| bf <| bf <| bf <| bf <| AT.nil)) (ai tt <| ai tt <| ai (rfl : Z0) <| ai (map_len AV.b a1.Readers) <| ai (rfl : Z0) <| orB h (fun h1 h => ai (g1 h1) <| ai (g1 h1) <| ai (rfl : Z0) <| ai (g1 h1) <| ai (map_len AV.b a1.Writers) <| ai (g1 h1) <| ai (g1 h1) <| ai (rfl : Z0) <| ai (g1 h1) <| ai h1 <| L h) (fun h1 h => ai (g1 h1) <| ai (g1 h1) <| ai (g1 h1) <| ai (g1 h1) <| ai (g1 h1) <| ai (g1 h1) <| ai h1 <| L h)) (by kernel_rfl)
abbrev Y_label_ready_1_v2 (a0 : Level) (a1 : Actors) (r : Bool) : AEnd × HP := (.ret (.b r), H0)
abbrev O_label_ready_1_v2 (a0 : Level) (a1 : Actors) (r : Bool) : Prop := call G Ω0 E0 35 [(.a [(.l 0 (a0.Readers.map AV.b)), (.l 0 (a0.Writers.map AV.b))]), (.e (.a [(I a1.Many), (.l 53 (a1.Grants.map eGrant))]) 0)] H0 = some (Y_label_ready_1_v2 a0 a1 r)
noncomputable def F_label_ready_1_v2 (a0 : Level) (a1 : Actors) : Option Bool :=
  (F_label_Sized_v2 a1 a0).bind fun (r1 : Bool) =>
  some (!r1)
theorem lift_label_ready_1_v2 (a0 : Level) (a1 : Actors) (r : Bool) (h : F_label_ready_1_v2 a0 a1 = some r) : O_label_ready_1_v2 a0 a1 r :=
  have L := fun {a} => lY (Y := Y_label_ready_1_v2 a0 a1) (a := a) (r := r)
  callT G35 (bt <| AT.ex fun (r1 : Bool) => ao (.v (.b r1)) <| AT.nil) (ai tt <| ai (rfl : Z0) <| exB h fun r1 ek2 h => have ek2 := lift_label_Sized_v2 a1 a0 _ ek2; ai ek2 <| L h) (by kernel_rfl)
noncomputable def B_slices_IndexFunc__label_ready_1_v2_0 (a0 : (List Level)) (a1 : Actors) (v0_8 : Nat) : Option (Nat ⊕ (Nat ⊕ (Nat × Bool))) :=
  if (v0_8 : Int) < (a0.length : Int) then
    (a0[v0_8]?).bind fun (y2 : Level) =>
    (F_label_ready_1_v2 y2 a1).bind fun (r4 : Bool) =>
    if r4 = true then
      some (.inr (.inl v0_8))
    else
      if IntKind.i64.wrap ((v0_8 : Int) + 1) = ((v0_8 + 1 : Nat) : Int) then
        some (.inl (v0_8 + 1))
      else none
  else
    some (.inr (.inr (v0_8, decide ((v0_8 : Int) < (a0.length : Int)))))
abbrev S_slices_IndexFunc__label_ready_1_v2_0 (a0 : (List Level)) (a1 : Actors) (v : Nat) : St := ⟨[(0, (.l 27 (a0.map e0Level))), (1, (.f 35 [(.e (.a [(I a1.Many), (.l 53 (a1.Grants.map eGrant))]) 0)])), (7, (I (a0.length : Int))), (8, (I (v : Int)))], [], H0⟩
abbrev X_slices_IndexFunc__label_ready_1_v2_0 (a0 : (List Level)) (a1 : Actors) (x : (Nat ⊕ (Nat × Bool))) : AExit × St := match x with | .inl z1 => (.ret, ⟨[(4, (I (z1 : Int)))], [], H0⟩) | .inr (z1, z2) => ((.ex 0), ⟨[(0, (.l 27 (a0.map e0Level))), (1, (.f 35 [(.e (.a [(I a1.Many), (.l 53 (a1.Grants.map eGrant))]) 0)])), (7, (I (a0.length : Int))), (8, (I (z1 : Int))), (9, (.b z2))], [], H0⟩)
theorem LB_slices_IndexFunc__label_ready_1_v2_0 (a0 : (List Level)) (a1 : Actors) (v0_8 : Nat) (o : Nat ⊕ (Nat ⊕ (Nat × Bool))) (h : B_slices_IndexFunc__label_ready_1_v2_0 a0 a1 v0_8 = some o) : bodyOK E0 c48_0 (S_slices_IndexFunc__label_ready_1_v2_0 a0 a1) (X_slices_IndexFunc__label_ready_1_v2_0 a0 a1) v0_8 o :=
  have L := fun {a} => lY (Y := bodyY (S_slices_IndexFunc__label_ready_1_v2_0 a0 a1) (X_slices_IndexFunc__label_ready_1_v2_0 a0 a1)) (a := a) (r := o)
  bodyT (AT.or (bt <| ao (.n v0_8) <| AT.ex fun (y2 : Level) => ao (.v (.a [(.l 0 (y2.Readers.map AV.b)), (.l 0 (y2.Writers.map AV.b))])) <| AT.ex fun (r4 : Bool) => ao (.v (.b r4)) <| AT.or (bt <| AT.nil) (bf <| ao (.i ((v0_8 + 1 : Nat) : Int)) <| AT.nil)) (bf <| AT.nil)) (orP h (fun h1 h => ai (decide_eq_true h1) <| ai (rfl : (v0_8 : Int) = (v0_8 : Int)) <| exB h fun y2 h3 h => ai (map_get e0Level h3) <| exB h fun r4 ek5 h => have ek5 := lift_label_ready_1_v2 y2 a1 _ ek5; ai ek5 <| orB h (fun h6 h => ai h6 <| L h) (fun h6 h => ai h6 <| asrtP h fun w7 h => ai w7 <| L h)) (fun h1 h => ai (decide_eq_false h1) <| L h)) (by kernel_rfl)
theorem LL_slices_IndexFunc__label_ready_1_v2_0 (a0 : (List Level)) (a1 : Actors) (v : Nat) (x : (Nat ⊕ (Nat × Bool))) (h : lp (fun v => B_slices_IndexFunc__label_ready_1_v2_0 a0 a1 v) v = some x) : lpAt G Ω0 E0 c48_0 (S_slices_IndexFunc__label_ready_1_v2_0 a0 a1 v) = some (X_slices_IndexFunc__label_ready_1_v2_0 a0 a1 x) :=
  lp_lift c48_0 (S_slices_IndexFunc__label_ready_1_v2_0 a0 a1) (X_slices_IndexFunc__label_ready_1_v2_0 a0 a1) (fun _ => rfl) (fun v o h => LB_slices_IndexFunc__label_ready_1_v2_0 a0 a1 v o h) h
abbrev Y_slices_IndexFunc__label_ready_1_v2 (a0 : (List Level)) (a1 : Actors) (r : Int) : AEnd × HP := (.ret (I r), H0)
abbrev O_slices_IndexFunc__label_ready_1_v2 (a0 : (List Level)) (a1 : Actors) (r : Int) : Prop := call G Ω0 E0 48 [(.l 27 (a0.map e0Level)), (.f 35 [(.e (.a [(I a1.Many), (.l 53 (a1.Grants.map eGrant))]) 0)])] H0 = some (Y_slices_IndexFunc__label_ready_1_v2 a0 a1 r)
noncomputable def F_slices_IndexFunc__label_ready_1_v2 (a0 : (List Level)) (a1 : Actors) : Option Int :=
  (lp (fun v => B_slices_IndexFunc__label_ready_1_v2_0 a0 a1 v) 0).bind fun (x1 : (Nat ⊕ (Nat × Bool))) => match x1 with
  | .inl ya_2 =>
    some (ya_2 : Int)
  | .inr yb_2 =>
    some (-1)
theorem lift_slices_IndexFunc__label_ready_1_v2 (a0 : (List Level)) (a1 : Actors) (r : Int) (h : F_slices_IndexFunc__label_ready_1_v2 a0 a1 = some r) : O_slices_IndexFunc__label_ready_1_v2 a0 a1 r :=
  have L := fun {a} => lY (Y := Y_slices_IndexFunc__label_ready_1_v2 a0 a1) (a := a) (r := r)
  callT G48 (ao (.i (a0.length : Int)) <| AT.or (AT.ex fun (ya_2 : Nat) => ao (.lp .ret ⟨[(4, (I (ya_2 : Int)))], [], H0⟩) <| AT.nil) (AT.ex fun (yb_2 : (Nat × Bool)) => ao (.lp (.ex 0) ⟨[(0, (.l 27 (a0.map e0Level))), (1, (.f 35 [(.e (.a [(I a1.Many), (.l 53 (a1.Grants.map eGrant))]) 0)])), (7, (I (a0.length : Int))), (8, (I (yb_2.1 : Int))), (9, (.b yb_2.2))], [], H0⟩) <| AT.nil)) (ai (map_len e0Level a0) <| sum2 h (fun ya_2 lp3 h => have lp3 := LL_slices_IndexFunc__label_ready_1_v2_0 a0 a1 0 _ lp3; ai lp3 <| L h) (fun yb_2 lp3 h => have lp3 := LL_slices_IndexFunc__label_ready_1_v2_0 a0 a1 0 _ lp3; ai lp3 <| L h)) (by kernel_rfl)
abbrev Y_slices_ContainsFunc__label_ready_1_v2 (a0 : (List Level)) (a1 : Actors) (r : Bool) : AEnd × HP := (.ret (.b r), H0)
abbrev O_slices_ContainsFunc__label_ready_1_v2 (a0 : (List Level)) (a1 : Actors) (r : Bool) : Prop := call G Ω0 E0 34 [(.l 27 (a0.map e0Level)), (.f 35 [(.e (.a [(I a1.Many), (.l 53 (a1.Grants.map eGrant))]) 0)])] H0 = some (Y_slices_ContainsFunc__label_ready_1_v2 a0 a1 r)
noncomputable def F_slices_ContainsFunc__label_ready_1_v2 (a0 : (List Level)) (a1 : Actors) : Option Bool :=
  (F_slices_IndexFunc__label_ready_1_v2 a0 a1).bind fun (r1 : Int) =>
  some (decide (0 ≤ r1))
theorem lift_slices_ContainsFunc__label_ready_1_v2 (a0 : (List Level)) (a1 : Actors) (r : Bool) (h : F_slices_ContainsFunc__label_ready_1_v2 a0 a1 = some r) : O_slices_ContainsFunc__label_ready_1_v2 a0 a1 r :=
  have L := fun {a} => lY (Y := Y_slices_ContainsFunc__label_ready_1_v2 a0 a1) (a := a) (r := r)
  callT G34 (AT.ex fun (r1 : Int) => ao (.v (I r1)) <| AT.nil) (exB h fun r1 ek2 h => have ek2 := lift_slices_IndexFunc__label_ready_1_v2 a0 a1 _ ek2; ai ek2 <| L h) (by kernel_rfl)
abbrev Y_label_ready_v2 (a0 : Actors) (a1 : (List Level)) (r : Int) : AEnd × HP := (.ret (I r), H0)
abbrev O_label_ready_v2 (a0 : Actors) (a1 : (List Level)) (r : Int) : Prop := call G Ω0 E0 25 [(.a [(I a0.Many), (.l 53 (a0.Grants.map eGrant))]), (.l 27 (a1.map e0Level))] H0 = some (Y_label_ready_v2 a0 a1 r)
noncomputable def F_label_ready_v2 (a0 : Actors) (a1 : (List Level)) : Option Int :=
  (F_actors_Check a0).bind fun (r1 : Int) =>
  if (r1 != 0) = true then
    some r1
  else
    (F_slices_ContainsFunc__label_ready_1_v2 a1 a0).bind fun (r4 : Bool) =>
    if r4 = true then
      some 1
    else
      some 0
theorem lift_label_ready_v2 (a0 : Actors) (a1 : (List Level)) (r : Int) (h : F_label_ready_v2 a0 a1 = some r) : O_label_ready_v2 a0 a1 r :=
  have L := fun {a} => lY (Y := Y_label_ready_v2 a0 a1) (a := a) (r := r)
  callT G25 (bt <| AT.ex fun (r1 : Int) => ao (.v (I r1)) <| AT.or (bt <| AT.nil) (bf <| AT.ex fun (r4 : Bool) => ao (.v (.b r4)) <| AT.or (bt <| AT.nil) (bf <| AT.nil))) (ai tt <| ai (rfl : Z0) <| exB h fun r1 ek2 h => have ek2 := lift_actors_Check a0 _ ek2; ai ek2 <| orB h (fun h3 h => ai h3 <| L h) (fun h3 h => ai h3 <| ai (rfl : Z0) <| exB h fun r4 ek5 h => have ek5 := lift_slices_ContainsFunc__label_ready_1_v2 a1 a0 _ ek5; ai ek5 <| orB h (fun h6 h => ai h6 <| L h) (fun h6 h => ai h6 <| L h))) (by kernel_rfl)
noncomputable def B_label_and_v2_0 (a0 : (List Bool)) (a1 : (List Bool)) (v0_5 : (List Bool)) (v0_10 : Nat) : Option (((List Bool) × Nat) ⊕ ((List Bool) × Nat × Bool)) :=
  if (v0_10 : Int) < (a0.length : Int) then
    (a0[v0_10]?).bind fun (y2 : Bool) =>
    if y2 = true then
      (a1[v0_10]?).bind fun (y5 : Bool) =>
      if v0_5.length + [y5].length ≤ 1000000000 then
        if IntKind.i64.wrap ((v0_10 : Int) + 1) = ((v0_10 + 1 : Nat) : Int) then
          some (.inl (v0_5 ++ [y5], v0_10 + 1))
        else none
      else none
    else
      if v0_5.length + [false].length ≤ 1000000000 then
        if IntKind.i64.wrap ((v0_10 : Int) + 1) = ((v0_10 + 1 : Nat) : Int) then
          some (.inl (v0_5 ++ [false], v0_10 + 1))
        else none
      else none
  else
    some (.inr (v0_5, v0_10, decide ((v0_10 : Int) < (a0.length : Int))))
abbrev S_label_and_v2_0 (a0 : (List Bool)) (a1 : (List Bool)) (v : ((List Bool) × Nat)) : St := ⟨[(1, (.l 0 (a1.map AV.b))), (5, (.o 4 (v.1.map AV.b))), (8, (.l 0 (a0.map AV.b))), (9, (I (a0.length : Int))), (10, (I (v.2 : Int)))], [], H0⟩
abbrev X_label_and_v2_0 (a0 : (List Bool)) (a1 : (List Bool)) (x : ((List Bool) × Nat × Bool)) : AExit × St := ((.ex 0), ⟨[(1, (.l 0 (a1.map AV.b))), (5, (.o 4 (x.1.map AV.b))), (8, (.l 0 (a0.map AV.b))), (9, (I (a0.length : Int))), (10, (I (x.2.1 : Int))), (11, (.b x.2.2))], [], H0⟩)
theorem LB_label_and_v2_0 (a0 : (List Bool)) (a1 : (List Bool)) (v0_5 : (List Bool)) (v0_10 : Nat) (o : ((List Bool) × Nat) ⊕ ((List Bool) × Nat × Bool)) (h : B_label_and_v2_0 a0 a1 v0_5 v0_10 = some o) : bodyOK E0 c28_0 (S_label_and_v2_0 a0 a1) (X_label_and_v2_0 a0 a1) (v0_5, v0_10) o :=
  have L := fun {a} => lY (Y := bodyY (S_label_and_v2_0 a0 a1) (X_label_and_v2_0 a0 a1)) (a := a) (r := o)
  bodyT (AT.or (bt <| ao (.n v0_10) <| AT.ex fun (y2 : Bool) => ao (.v (.b y2)) <| AT.or (bt <| bt <| bt <| ao (.n v0_10) <| AT.ex fun (y5 : Bool) => ao (.v (.b y5)) <| bt <| bt <| ao (.l ([y5].map AV.b)) <| ao (.l ((v0_5 ++ [y5]).map AV.b)) <| ao (.i ((v0_10 + 1 : Nat) : Int)) <| AT.nil) (bf <| bf <| bf <| bf <| bf <| ao (.l ([false].map AV.b)) <| ao (.l ((v0_5 ++ [false]).map AV.b)) <| ao (.i ((v0_10 + 1 : Nat) : Int)) <| AT.nil)) (bf <| AT.nil)) (orP h (fun h1 h => ai (decide_eq_true h1) <| ai (rfl : (v0_10 : Int) = (v0_10 : Int)) <| exB h fun y2 h3 h => ai (map_get AV.b h3) <| orB h (fun h4 h => ai (g1 h4) <| ai (g1 h4) <| ai (g1 h4) <| ai (rfl : (v0_10 : Int) = (v0_10 : Int)) <| exB h fun y5 h6 h => ai (map_get AV.b h6) <| ai (g1 h4) <| ai h4 <| ai (rfl : [(.b y5)] = [y5].map AV.b) <| ai ff <| asrtP h fun h7 h => ai ((all_nc AV.b (n := 1) (fun _ => rfl) [y5]) : ([y5].map AV.b).all (fun e => e.nc == 1) = true) <| ai ((room3 h7 (by decide)) : ((v0_5.map AV.b).length + ([y5].map AV.b).length) * 1 ≤ 140737488355328) <| ai ((room4 h7) : (v0_5.map AV.b).length + ([y5].map AV.b).length ≤ maxLen) <| ai (List.map_append.symm : v0_5.map AV.b ++ [y5].map AV.b = (v0_5 ++ [y5]).map AV.b) <| asrtP h fun w8 h => ai w8 <| L h) (fun h4 h => ai (g1 h4) <| ai (g1 h4) <| ai (g1 h4) <| ai (g1 h4) <| ai h4 <| ai (rfl : [(.b false)] = [false].map AV.b) <| ai ff <| asrtP h fun h5 h => ai ((all_nc AV.b (n := 1) (fun _ => rfl) [false]) : ([false].map AV.b).all (fun e => e.nc == 1) = true) <| ai ((room3 h5 (by decide)) : ((v0_5.map AV.b).length + ([false].map AV.b).length) * 1 ≤ 140737488355328) <| ai ((room4 h5) : (v0_5.map AV.b).length + ([false].map AV.b).length ≤ maxLen) <| ai (List.map_append.symm : v0_5.map AV.b ++ [false].map AV.b = (v0_5 ++ [false]).map AV.b) <| asrtP h fun w6 h => ai w6 <| L h)) (fun h1 h => ai (decide_eq_false h1) <| L h)) (by kernel_rfl)
theorem LL_label_and_v2_0 (a0 : (List Bool)) (a1 : (List Bool)) (v : ((List Bool) × Nat)) (x : ((List Bool) × Nat × Bool)) (h : lp (fun v => B_label_and_v2_0 a0 a1 v.1 v.2) v = some x) : lpAt G Ω0 E0 c28_0 (S_label_and_v2_0 a0 a1 v) = some (X_label_and_v2_0 a0 a1 x) :=
  lp_lift c28_0 (S_label_and_v2_0 a0 a1) (X_label_and_v2_0 a0 a1) (fun _ => rfl) (fun v o h => LB_label_and_v2_0 a0 a1 v.1 v.2 o h) h
abbrev Y_label_and_v2 (a0 : (List Bool)) (a1 : (List Bool)) (r : (List Bool)) : AEnd × HP := (.ret (.l 4 (r.map AV.b)), H0)
abbrev O_label_and_v2 (a0 : (List Bool)) (a1 : (List Bool)) (r : (List Bool)) : Prop := call G Ω0 E0 28 [(.l 0 (a0.map AV.b)), (.l 0 (a1.map AV.b))] H0 = some (Y_label_and_v2 a0 a1 r)
noncomputable def F_label_and_v2 (a0 : (List Bool)) (a1 : (List Bool)) : Option (List Bool) :=
  (lp (fun v => B_label_and_v2_0 a0 a1 v.1 v.2) (([] : List Bool), 0)).bind fun (x1 : ((List Bool) × Nat × Bool)) =>
  some x1.1
theorem lift_label_and_v2 (a0 : (List Bool)) (a1 : (List Bool)) (r : (List Bool)) (h : F_label_and_v2 a0 a1 = some r) : O_label_and_v2 a0 a1 r :=
  have L := fun {a} => lY (Y := Y_label_and_v2 a0 a1) (a := a) (r := r)
  callT G28 (ao (.i (a0.length : Int)) <| AT.ex fun (x1 : ((List Bool) × Nat × Bool)) => ao (.lp (.ex 0) ⟨[(1, (.l 0 (a1.map AV.b))), (5, (.o 4 (x1.1.map AV.b))), (8, (.l 0 (a0.map AV.b))), (9, (I (a0.length : Int))), (10, (I (x1.2.1 : Int))), (11, (.b x1.2.2))], [], H0⟩) <| AT.nil) (ai (map_len AV.b a0) <| exB h fun x1 lp2 h => have lp2 := LL_label_and_v2_0 a0 a1 (([] : List Bool), 0) _ lp2; ai lp2 <| L h) (by kernel_rfl)
noncomputable def B_label_or_v2_0 (a0 : (List Bool)) (a1 : (List Bool)) (v0_5 : (List Bool)) (v0_10 : Nat) : Option (((List Bool) × Nat) ⊕ ((List Bool) × Nat × Bool)) :=
  if (v0_10 : Int) < (a0.length : Int) then
    (a0[v0_10]?).bind fun (y2 : Bool) =>
    if y2 = true then
      if v0_5.length + [true].length ≤ 1000000000 then
        if IntKind.i64.wrap ((v0_10 : Int) + 1) = ((v0_10 + 1 : Nat) : Int) then
          some (.inl (v0_5 ++ [true], v0_10 + 1))
        else none
      else none
    else
      (a1[v0_10]?).bind fun (y5 : Bool) =>
      if v0_5.length + [y5].length ≤ 1000000000 then
        if IntKind.i64.wrap ((v0_10 : Int) + 1) = ((v0_10 + 1 : Nat) : Int) then
          some (.inl (v0_5 ++ [y5], v0_10 + 1))
        else none
      else none
  else
    some (.inr (v0_5, v0_10, decide ((v0_10 : Int) < (a0.length : Int))))
abbrev S_label_or_v2_0 (a0 : (List Bool)) (a1 : (List Bool)) (v : ((List Bool) × Nat)) : St := ⟨[(1, (.l 0 (a1.map AV.b))), (5, (.o 4 (v.1.map AV.b))), (8, (.l 0 (a0.map AV.b))), (9, (I (a0.length : Int))), (10, (I (v.2 : Int)))], [], H0⟩
abbrev X_label_or_v2_0 (a0 : (List Bool)) (a1 : (List Bool)) (x : ((List Bool) × Nat × Bool)) : AExit × St := ((.ex 0), ⟨[(1, (.l 0 (a1.map AV.b))), (5, (.o 4 (x.1.map AV.b))), (8, (.l 0 (a0.map AV.b))), (9, (I (a0.length : Int))), (10, (I (x.2.1 : Int))), (11, (.b x.2.2))], [], H0⟩)
theorem LB_label_or_v2_0 (a0 : (List Bool)) (a1 : (List Bool)) (v0_5 : (List Bool)) (v0_10 : Nat) (o : ((List Bool) × Nat) ⊕ ((List Bool) × Nat × Bool)) (h : B_label_or_v2_0 a0 a1 v0_5 v0_10 = some o) : bodyOK E0 c27_0 (S_label_or_v2_0 a0 a1) (X_label_or_v2_0 a0 a1) (v0_5, v0_10) o :=
  have L := fun {a} => lY (Y := bodyY (S_label_or_v2_0 a0 a1) (X_label_or_v2_0 a0 a1)) (a := a) (r := o)
  bodyT (AT.or (bt <| ao (.n v0_10) <| AT.ex fun (y2 : Bool) => ao (.v (.b y2)) <| AT.or (bf <| bf <| bf <| bf <| bt <| ao (.l ([true].map AV.b)) <| ao (.l ((v0_5 ++ [true]).map AV.b)) <| ao (.i ((v0_10 + 1 : Nat) : Int)) <| AT.nil) (bt <| bt <| bt <| ao (.n v0_10) <| AT.ex fun (y5 : Bool) => ao (.v (.b y5)) <| bt <| bf <| ao (.l ([y5].map AV.b)) <| ao (.l ((v0_5 ++ [y5]).map AV.b)) <| ao (.i ((v0_10 + 1 : Nat) : Int)) <| AT.nil)) (bf <| AT.nil)) (orP h (fun h1 h => ai (decide_eq_true h1) <| ai (rfl : (v0_10 : Int) = (v0_10 : Int)) <| exB h fun y2 h3 h => ai (map_get AV.b h3) <| orB h (fun h4 h => ai (g0 h4) <| ai (g0 h4) <| ai (g0 h4) <| ai (g0 h4) <| ai h4 <| ai (rfl : [(.b true)] = [true].map AV.b) <| ai ff <| asrtP h fun h5 h => ai ((all_nc AV.b (n := 1) (fun _ => rfl) [true]) : ([true].map AV.b).all (fun e => e.nc == 1) = true) <| ai ((room3 h5 (by decide)) : ((v0_5.map AV.b).length + ([true].map AV.b).length) * 1 ≤ 140737488355328) <| ai ((room4 h5) : (v0_5.map AV.b).length + ([true].map AV.b).length ≤ maxLen) <| ai (List.map_append.symm : v0_5.map AV.b ++ [true].map AV.b = (v0_5 ++ [true]).map AV.b) <| asrtP h fun w6 h => ai w6 <| L h) (fun h4 h => ai (g0 h4) <| ai (g0 h4) <| ai (g0 h4) <| ai (rfl : (v0_10 : Int) = (v0_10 : Int)) <| exB h fun y5 h6 h => ai (map_get AV.b h6) <| ai (g0 h4) <| ai h4 <| ai (rfl : [(.b y5)] = [y5].map AV.b) <| ai ff <| asrtP h fun h7 h => ai ((all_nc AV.b (n := 1) (fun _ => rfl) [y5]) : ([y5].map AV.b).all (fun e => e.nc == 1) = true) <| ai ((room3 h7 (by decide)) : ((v0_5.map AV.b).length + ([y5].map AV.b).length) * 1 ≤ 140737488355328) <| ai ((room4 h7) : (v0_5.map AV.b).length + ([y5].map AV.b).length ≤ maxLen) <| ai (List.map_append.symm : v0_5.map AV.b ++ [y5].map AV.b = (v0_5 ++ [y5]).map AV.b) <| asrtP h fun w8 h => ai w8 <| L h)) (fun h1 h => ai (decide_eq_false h1) <| L h)) (by kernel_rfl)
theorem LL_label_or_v2_0 (a0 : (List Bool)) (a1 : (List Bool)) (v : ((List Bool) × Nat)) (x : ((List Bool) × Nat × Bool)) (h : lp (fun v => B_label_or_v2_0 a0 a1 v.1 v.2) v = some x) : lpAt G Ω0 E0 c27_0 (S_label_or_v2_0 a0 a1 v) = some (X_label_or_v2_0 a0 a1 x) :=
  lp_lift c27_0 (S_label_or_v2_0 a0 a1) (X_label_or_v2_0 a0 a1) (fun _ => rfl) (fun v o h => LB_label_or_v2_0 a0 a1 v.1 v.2 o h) h
abbrev Y_label_or_v2 (a0 : (List Bool)) (a1 : (List Bool)) (r : (List Bool)) : AEnd × HP := (.ret (.l 4 (r.map AV.b)), H0)
abbrev O_label_or_v2 (a0 : (List Bool)) (a1 : (List Bool)) (r : (List Bool)) : Prop := call G Ω0 E0 27 [(.l 0 (a0.map AV.b)), (.l 0 (a1.map AV.b))] H0 = some (Y_label_or_v2 a0 a1 r)
noncomputable def F_label_or_v2 (a0 : (List Bool)) (a1 : (List Bool)) : Option (List Bool) :=
  (lp (fun v => B_label_or_v2_0 a0 a1 v.1 v.2) (([] : List Bool), 0)).bind fun (x1 : ((List Bool) × Nat × Bool)) =>
  some x1.1
theorem lift_label_or_v2 (a0 : (List Bool)) (a1 : (List Bool)) (r : (List Bool)) (h : F_label_or_v2 a0 a1 = some r) : O_label_or_v2 a0 a1 r :=
  have L := fun {a} => lY (Y := Y_label_or_v2 a0 a1) (a := a) (r := r)
  callT G27 (ao (.i (a0.length : Int)) <| AT.ex fun (x1 : ((List Bool) × Nat × Bool)) => ao (.lp (.ex 0) ⟨[(1, (.l 0 (a1.map AV.b))), (5, (.o 4 (x1.1.map AV.b))), (8, (.l 0 (a0.map AV.b))), (9, (I (a0.length : Int))), (10, (I (x1.2.1 : Int))), (11, (.b x1.2.2))], [], H0⟩) <| AT.nil) (ai (map_len AV.b a0) <| exB h fun x1 lp2 h => have lp2 := LL_label_or_v2_0 a0 a1 (([] : List Bool), 0) _ lp2; ai lp2 <| L h) (by kernel_rfl)
abbrev Y_label_Both_v2 (a0 : Level) (a1 : Level) (r : Level) : AEnd × HP := (.ret (.a [(.l 4 (r.Readers.map AV.b)), (.l 4 (r.Writers.map AV.b))]), H0)
abbrev O_label_Both_v2 (a0 : Level) (a1 : Level) (r : Level) : Prop := call G Ω0 E0 26 [(.a [(.l 0 (a0.Readers.map AV.b)), (.l 0 (a0.Writers.map AV.b))]), (.a [(.l 0 (a1.Readers.map AV.b)), (.l 0 (a1.Writers.map AV.b))])] H0 = some (Y_label_Both_v2 a0 a1 r)
noncomputable def F_label_Both_v2 (a0 : Level) (a1 : Level) : Option Level :=
  (F_label_and_v2 a0.Readers a1.Readers).bind fun (r1 : (List Bool)) =>
  (F_label_or_v2 a0.Writers a1.Writers).bind fun (r3 : (List Bool)) =>
  some (⟨r1, r3⟩ : Level)
theorem lift_label_Both_v2 (a0 : Level) (a1 : Level) (r : Level) (h : F_label_Both_v2 a0 a1 = some r) : O_label_Both_v2 a0 a1 r :=
  have L := fun {a} => lY (Y := Y_label_Both_v2 a0 a1) (a := a) (r := r)
  callT G26 (bt <| bt <| AT.ex fun (r1 : (List Bool)) => ao (.v (.l 4 (r1.map AV.b))) <| bt <| bt <| AT.ex fun (r3 : (List Bool)) => ao (.v (.l 4 (r3.map AV.b))) <| bt <| bt <| AT.nil) (ai tt <| ai tt <| ai tt <| ai tt <| ai tt <| ai (rfl : Z0) <| ai tt <| ai tt <| ai (rfl : Z0) <| ai tt <| exB h fun r1 ek2 h => have ek2 := lift_label_and_v2 a0.Readers a1.Readers _ ek2; ai ek2 <| ai tt <| ai tt <| ai (rfl : Z0) <| ai tt <| ai tt <| ai (rfl : Z0) <| ai tt <| exB h fun r3 ek4 h => have ek4 := lift_label_or_v2 a0.Writers a1.Writers _ ek4; ai ek4 <| ai ff <| ai (rfl : Z0) <| ai tt <| ai (rfl : Z0) <| ai (rfl : Z0) <| L h) (by kernel_rfl)
abbrev Y_label_Join_v2 (a0 : Actors) (a1 : Level) (a2 : Level) (r : (Level × Int)) : AEnd × HP := (.ret (.tp [(.a [(.l 4 (r.1.Readers.map AV.b)), (.l 4 (r.1.Writers.map AV.b))]), (I r.2)]), H0)
abbrev O_label_Join_v2 (a0 : Actors) (a1 : Level) (a2 : Level) (r : (Level × Int)) : Prop := call G Ω0 E0 9 [(.a [(I a0.Many), (.l 53 (a0.Grants.map eGrant))]), (.a [(.l 0 (a1.Readers.map AV.b)), (.l 0 (a1.Writers.map AV.b))]), (.a [(.l 0 (a2.Readers.map AV.b)), (.l 0 (a2.Writers.map AV.b))])] H0 = some (Y_label_Join_v2 a0 a1 a2 r)
noncomputable def F_label_Join_v2 (a0 : Actors) (a1 : Level) (a2 : Level) : Option (Level × Int) :=
  (F_label_ready_v2 a0 ([a1, a2])).bind fun (r1 : Int) =>
  if (r1 != 0) = true then
    some ((⟨([] : List Bool), ([] : List Bool)⟩ : Level), r1)
  else
    (F_label_Both_v2 a1 a2).bind fun (r4 : Level) =>
    some (r4, 0)
theorem lift_label_Join_v2 (a0 : Actors) (a1 : Level) (a2 : Level) (r : (Level × Int)) (h : F_label_Join_v2 a0 a1 a2 = some r) : O_label_Join_v2 a0 a1 a2 r :=
  have L := fun {a} => lY (Y := Y_label_Join_v2 a0 a1 a2) (a := a) (r := r)
  callT G9 (bt <| bt <| bt <| ao (.l (([a1, a2]).map e0Level)) <| AT.ex fun (r1 : Int) => ao (.v (I r1)) <| AT.or (bt <| bt <| bt <| AT.nil) (bf <| bt <| bt <| AT.ex fun (r4 : Level) => ao (.v (.a [(.l 4 (r4.Readers.map AV.b)), (.l 4 (r4.Writers.map AV.b))])) <| bt <| bt <| AT.nil)) (ai tt <| ai tt <| ai tt <| ai tt <| ai (rfl : Z0) <| ai (rfl : Z0) <| ai (rfl : Z0) <| ai (rfl : [(.a [(.l 0 (a1.Readers.map AV.b)), (.l 0 (a1.Writers.map AV.b))]), (.a [(.l 0 (a2.Readers.map AV.b)), (.l 0 (a2.Writers.map AV.b))])] = ([a1, a2]).map e0Level) <| exB h fun r1 ek2 h => have ek2 := lift_label_ready_v2 a0 ([a1, a2]) _ ek2; ai ek2 <| orB h (fun h3 h => ai h3 <| ai ff <| ai (rfl : Z0) <| ai tt <| ai (rfl : Z0) <| ai (rfl : Z0) <| L h) (fun h3 h => ai h3 <| ai (rfl : Z0) <| ai (rfl : Z0) <| exB h fun r4 ek5 h => have ek5 := lift_label_Both_v2 a1 a2 _ ek5; ai ek5 <| ai ff <| ai (rfl : Z0) <| ai tt <| ai (rfl : Z0) <| ai (rfl : Z0) <| L h)) (by kernel_rfl)
abbrev Y_label_Meet_v2 (a0 : Actors) (a1 : Level) (a2 : Level) (r : (Level × Int)) : AEnd × HP := (.ret (.tp [(.a [(.l 4 (r.1.Readers.map AV.b)), (.l 4 (r.1.Writers.map AV.b))]), (I r.2)]), H0)
abbrev O_label_Meet_v2 (a0 : Actors) (a1 : Level) (a2 : Level) (r : (Level × Int)) : Prop := call G Ω0 E0 10 [(.a [(I a0.Many), (.l 53 (a0.Grants.map eGrant))]), (.a [(.l 0 (a1.Readers.map AV.b)), (.l 0 (a1.Writers.map AV.b))]), (.a [(.l 0 (a2.Readers.map AV.b)), (.l 0 (a2.Writers.map AV.b))])] H0 = some (Y_label_Meet_v2 a0 a1 a2 r)
noncomputable def F_label_Meet_v2 (a0 : Actors) (a1 : Level) (a2 : Level) : Option (Level × Int) :=
  (F_label_ready_v2 a0 ([a1, a2])).bind fun (r1 : Int) =>
  if (r1 != 0) = true then
    some ((⟨([] : List Bool), ([] : List Bool)⟩ : Level), r1)
  else
    (F_label_or_v2 a1.Readers a2.Readers).bind fun (r4 : (List Bool)) =>
    (F_label_and_v2 a1.Writers a2.Writers).bind fun (r6 : (List Bool)) =>
    some ((⟨r4, r6⟩ : Level), 0)
theorem lift_label_Meet_v2 (a0 : Actors) (a1 : Level) (a2 : Level) (r : (Level × Int)) (h : F_label_Meet_v2 a0 a1 a2 = some r) : O_label_Meet_v2 a0 a1 a2 r :=
  have L := fun {a} => lY (Y := Y_label_Meet_v2 a0 a1 a2) (a := a) (r := r)
  callT G10 (bt <| bt <| bt <| ao (.l (([a1, a2]).map e0Level)) <| AT.ex fun (r1 : Int) => ao (.v (I r1)) <| AT.or (bt <| bt <| bt <| AT.nil) (bf <| bt <| bt <| AT.ex fun (r4 : (List Bool)) => ao (.v (.l 4 (r4.map AV.b))) <| bt <| bt <| AT.ex fun (r6 : (List Bool)) => ao (.v (.l 4 (r6.map AV.b))) <| bt <| bt <| AT.nil)) (ai tt <| ai tt <| ai tt <| ai tt <| ai (rfl : Z0) <| ai (rfl : Z0) <| ai (rfl : Z0) <| ai (rfl : [(.a [(.l 0 (a1.Readers.map AV.b)), (.l 0 (a1.Writers.map AV.b))]), (.a [(.l 0 (a2.Readers.map AV.b)), (.l 0 (a2.Writers.map AV.b))])] = ([a1, a2]).map e0Level) <| exB h fun r1 ek2 h => have ek2 := lift_label_ready_v2 a0 ([a1, a2]) _ ek2; ai ek2 <| orB h (fun h3 h => ai h3 <| ai ff <| ai (rfl : Z0) <| ai tt <| ai (rfl : Z0) <| ai (rfl : Z0) <| L h) (fun h3 h => ai h3 <| ai tt <| ai tt <| ai (rfl : Z0) <| ai tt <| ai tt <| ai (rfl : Z0) <| ai tt <| exB h fun r4 ek5 h => have ek5 := lift_label_or_v2 a1.Readers a2.Readers _ ek5; ai ek5 <| ai tt <| ai tt <| ai (rfl : Z0) <| ai tt <| ai tt <| ai (rfl : Z0) <| ai tt <| exB h fun r6 ek7 h => have ek7 := lift_label_and_v2 a1.Writers a2.Writers _ ek7; ai ek7 <| ai ff <| ai (rfl : Z0) <| ai tt <| ai (rfl : Z0) <| ai (rfl : Z0) <| L h)) (by kernel_rfl)
noncomputable def B_L_RestLevels_0 (a0 : Actors) (a1 : Level) (a2 : Level) (a3 : Label) (r4 : Level) (r6 : Level) (w1_1 : Int) (w2_1 : (List Bool)) (w2_2 : (List Bool)) (v0_14 : Nat) : Option (Nat ⊕ (Nat × Bool)) :=
  if (v0_14 : Int) < 2 then
    (F_label_Join_v2 a0 r4 r6).bind fun (r17 : (Level × Int)) =>
    (F_label_Meet_v2 a0 r4 r6).bind fun (r19 : (Level × Int)) =>
    (F_label_Level a0 a3).bind fun (r21 : (Level × Int)) =>
    (F_R_SameLevel r4 a1).bind fun (r23 : Bool) =>
    if r23 = true then
      (F_R_SameLevel r6 a2).bind fun (r26 : Bool) =>
      if r26 = true then
        (F_L_levelIs r21.1 r21.2 w1_1 (⟨w2_1, w2_2⟩ : Level)).bind fun (r29 : Bool) =>
        if r29 = true then
          if IntKind.i64.wrap ((v0_14 : Int) + 1) = ((v0_14 + 1 : Nat) : Int) then
            some (.inl (v0_14 + 1))
          else none
        else
          none
      else
        none
    else
      none
  else
    some (.inr (v0_14, decide ((v0_14 : Int) < 2)))
abbrev S_L_RestLevels_0 (a0 : Actors) (a1 : Level) (a2 : Level) (a3 : Label) (r4 : Level) (r6 : Level) (w1_1 : Int) (w2_1 : (List Bool)) (w2_2 : (List Bool)) (v : Nat) : St := ⟨[(4, (.p ⟨0, 4⟩ 0)), (5, (.p ⟨0, 5⟩ 0)), (6, (.p ⟨0, 6⟩ 0)), (7, (.p ⟨0, 7⟩ 0)), (10, (.p ⟨0, 10⟩ 0)), (11, (.p ⟨0, 11⟩ 0)), (12, (I w1_1)), (13, (.p ⟨0, 13⟩ 0)), (14, (I (v : Int)))], [(4, [(I a0.Many), (.l 53 (a0.Grants.map eGrant))]), (5, [(.l 4 (a1.Readers.map AV.b)), (.l 4 (a1.Writers.map AV.b))]), (6, [(.l 4 (a2.Readers.map AV.b)), (.l 4 (a2.Writers.map AV.b))]), (7, [(.l 61 (a3.Read.map ePolicy)), (.l 61 (a3.Write.map ePolicy))]), (10, [(.l 4 (r4.Readers.map AV.b)), (.l 4 (r4.Writers.map AV.b))]), (11, [(.l 4 (r6.Readers.map AV.b)), (.l 4 (r6.Writers.map AV.b))]), (13, [(.l 4 (w2_1.map AV.b)), (.l 4 (w2_2.map AV.b))])], H0⟩
abbrev X_L_RestLevels_0 (a0 : Actors) (a1 : Level) (a2 : Level) (a3 : Label) (r4 : Level) (r6 : Level) (w1_1 : Int) (w2_1 : (List Bool)) (w2_2 : (List Bool)) (x : (Nat × Bool)) : AExit × St := ((.ex 0), ⟨[(4, (.p ⟨0, 4⟩ 0)), (5, (.p ⟨0, 5⟩ 0)), (6, (.p ⟨0, 6⟩ 0)), (7, (.p ⟨0, 7⟩ 0)), (10, (.p ⟨0, 10⟩ 0)), (11, (.p ⟨0, 11⟩ 0)), (12, (I w1_1)), (13, (.p ⟨0, 13⟩ 0)), (14, (I (x.1 : Int))), (42, (.b x.2))], [(4, [(I a0.Many), (.l 53 (a0.Grants.map eGrant))]), (5, [(.l 4 (a1.Readers.map AV.b)), (.l 4 (a1.Writers.map AV.b))]), (6, [(.l 4 (a2.Readers.map AV.b)), (.l 4 (a2.Writers.map AV.b))]), (7, [(.l 61 (a3.Read.map ePolicy)), (.l 61 (a3.Write.map ePolicy))]), (10, [(.l 4 (r4.Readers.map AV.b)), (.l 4 (r4.Writers.map AV.b))]), (11, [(.l 4 (r6.Readers.map AV.b)), (.l 4 (r6.Writers.map AV.b))]), (13, [(.l 4 (w2_1.map AV.b)), (.l 4 (w2_2.map AV.b))])], H0⟩)
theorem LB_L_RestLevels_0 (a0 : Actors) (a1 : Level) (a2 : Level) (a3 : Label) (r4 : Level) (r6 : Level) (w1_1 : Int) (w2_1 : (List Bool)) (w2_2 : (List Bool)) (v0_14 : Nat) (o : Nat ⊕ (Nat × Bool)) (h : B_L_RestLevels_0 a0 a1 a2 a3 r4 r6 w1_1 w2_1 w2_2 v0_14 = some o) : bodyOK E0 c3_0 (S_L_RestLevels_0 a0 a1 a2 a3 r4 r6 w1_1 w2_1 w2_2) (X_L_RestLevels_0 a0 a1 a2 a3 r4 r6 w1_1 w2_1 w2_2) v0_14 o :=
  have L := fun {a} => lY (Y := bodyY (S_L_RestLevels_0 a0 a1 a2 a3 r4 r6 w1_1 w2_1 w2_2) (X_L_RestLevels_0 a0 a1 a2 a3 r4 r6 w1_1 w2_1 w2_2)) (a := a) (r := o)
  bodyT (AT.or (bt <| bt <| bt <| bt <| AT.ex fun (r17 : (Level × Int)) => ao (.l [(.a [(I a0.Many), (.l 53 (a0.Grants.map eGrant))]), (.a [(.l 0 (r4.Readers.map AV.b)), (.l 0 (r4.Writers.map AV.b))]), (.a [(.l 0 (r6.Readers.map AV.b)), (.l 0 (r6.Writers.map AV.b))])]) <| ao (.v (.tp [(.a [(.l 4 (r17.1.Readers.map AV.b)), (.l 4 (r17.1.Writers.map AV.b))]), (I r17.2)])) <| bt <| bt <| bt <| AT.ex fun (r19 : (Level × Int)) => ao (.l [(.a [(I a0.Many), (.l 53 (a0.Grants.map eGrant))]), (.a [(.l 0 (r4.Readers.map AV.b)), (.l 0 (r4.Writers.map AV.b))]), (.a [(.l 0 (r6.Readers.map AV.b)), (.l 0 (r6.Writers.map AV.b))])]) <| ao (.v (.tp [(.a [(.l 4 (r19.1.Readers.map AV.b)), (.l 4 (r19.1.Writers.map AV.b))]), (I r19.2)])) <| bt <| bt <| AT.ex fun (r21 : (Level × Int)) => ao (.l [(.a [(I a0.Many), (.l 53 (a0.Grants.map eGrant))]), (.a [(.l 61 (a3.Read.map ePolicy)), (.l 61 (a3.Write.map ePolicy))])]) <| ao (.v (.tp [(.a [(.l 4 (r21.1.Readers.map AV.b)), (.l 4 (r21.1.Writers.map AV.b))]), (I r21.2)])) <| bt <| bt <| AT.ex fun (r23 : Bool) => ao (.v (.b r23)) <| bt <| bt <| bt <| bt <| bt <| AT.ex fun (r26 : Bool) => ao (.v (.b r26)) <| bt <| bf <| bt <| bt <| bt <| bt <| bt <| bt <| bt <| AT.ex fun (r29 : Bool) => ao (.v (.b r29)) <| bt <| bf <| bf <| bt <| bt <| bt <| ao (.i ((v0_14 + 1 : Nat) : Int)) <| AT.nil) (bf <| AT.nil)) (orP h (fun h16 h => ai (decide_eq_true h16) <| ai (rfl : Z0) <| ai (rfl : Z0) <| ai (rfl : Z0) <| exB h fun r17 ek18 h => have ek18 := lift_label_Join_v2 a0 r4 r6 _ ek18; ai ((by simp [AV.untL, AV.unt, AV.unt1L, AV.unt1, AV.pure, AV.off, AV.offL, off_mapI, off_mapB, off_mapS, off_map, eGrant]) : AV.untL 4 [(.a [(I a0.Many), (.l 53 (a0.Grants.map eGrant))]), (.a [(.l 4 (r4.Readers.map AV.b)), (.l 4 (r4.Writers.map AV.b))]), (.a [(.l 4 (r6.Readers.map AV.b)), (.l 4 (r6.Writers.map AV.b))])] = some [(.a [(I a0.Many), (.l 53 (a0.Grants.map eGrant))]), (.a [(.l 0 (r4.Readers.map AV.b)), (.l 0 (r4.Writers.map AV.b))]), (.a [(.l 0 (r6.Readers.map AV.b)), (.l 0 (r6.Writers.map AV.b))])]) <| ai ek18 <| ai ((by simp [AV.pure, AV.pureL, AV.onlyT, AV.onlyTL, only_mapB]) : (((.tp [(.a [(.l 4 (r17.1.Readers.map AV.b)), (.l 4 (r17.1.Writers.map AV.b))]), (I r17.2)]) : AV).pure && AV.onlyT 4 (.tp [(.a [(.l 4 (r17.1.Readers.map AV.b)), (.l 4 (r17.1.Writers.map AV.b))]), (I r17.2)])) = true) <| ai tt <| ai (rfl : Z0) <| ai (rfl : Z0) <| ai (rfl : Z0) <| exB h fun r19 ek20 h => have ek20 := lift_label_Meet_v2 a0 r4 r6 _ ek20; ai ((by simp [AV.untL, AV.unt, AV.unt1L, AV.unt1, AV.pure, AV.off, AV.offL, off_mapI, off_mapB, off_mapS, off_map, eGrant]) : AV.untL 4 [(.a [(I a0.Many), (.l 53 (a0.Grants.map eGrant))]), (.a [(.l 4 (r4.Readers.map AV.b)), (.l 4 (r4.Writers.map AV.b))]), (.a [(.l 4 (r6.Readers.map AV.b)), (.l 4 (r6.Writers.map AV.b))])] = some [(.a [(I a0.Many), (.l 53 (a0.Grants.map eGrant))]), (.a [(.l 0 (r4.Readers.map AV.b)), (.l 0 (r4.Writers.map AV.b))]), (.a [(.l 0 (r6.Readers.map AV.b)), (.l 0 (r6.Writers.map AV.b))])]) <| ai ek20 <| ai ((by simp [AV.pure, AV.pureL, AV.onlyT, AV.onlyTL, only_mapB]) : (((.tp [(.a [(.l 4 (r19.1.Readers.map AV.b)), (.l 4 (r19.1.Writers.map AV.b))]), (I r19.2)]) : AV).pure && AV.onlyT 4 (.tp [(.a [(.l 4 (r19.1.Readers.map AV.b)), (.l 4 (r19.1.Writers.map AV.b))]), (I r19.2)])) = true) <| ai tt <| ai (rfl : Z0) <| ai (rfl : Z0) <| exB h fun r21 ek22 h => have ek22 := lift_label_Level a0 a3 _ ek22; ai ((by simp [AV.untL, AV.unt, AV.unt1L, AV.unt1, AV.pure, AV.off, AV.offL, off_mapI, off_mapB, off_mapS, off_map, eGrant, ePolicy, eLs]) : AV.untL 4 [(.a [(I a0.Many), (.l 53 (a0.Grants.map eGrant))]), (.a [(.l 61 (a3.Read.map ePolicy)), (.l 61 (a3.Write.map ePolicy))])] = some [(.a [(I a0.Many), (.l 53 (a0.Grants.map eGrant))]), (.a [(.l 61 (a3.Read.map ePolicy)), (.l 61 (a3.Write.map ePolicy))])]) <| ai ek22 <| ai ((by simp [AV.pure, AV.pureL, AV.onlyT, AV.onlyTL, only_mapB]) : (((.tp [(.a [(.l 4 (r21.1.Readers.map AV.b)), (.l 4 (r21.1.Writers.map AV.b))]), (I r21.2)]) : AV).pure && AV.onlyT 4 (.tp [(.a [(.l 4 (r21.1.Readers.map AV.b)), (.l 4 (r21.1.Writers.map AV.b))]), (I r21.2)])) = true) <| ai tt <| ai (rfl : Z0) <| ai (rfl : Z0) <| exB h fun r23 ek24 h => have ek24 := lift_R_SameLevel r4 a1 _ ek24; ai ek24 <| iteB h (fun h25 h => ai (g0 (congrArg not h25)) <| ai (rfl : Z0) <| ai (g0 (congrArg not h25)) <| ai (rfl : Z0) <| ai (g0 (congrArg not h25)) <| exB h fun r26 ek27 h => have ek27 := lift_R_SameLevel r6 a2 _ ek27; ai ek27 <| ai (g0 (congrArg not h25)) <| ai (congrArg not h25) <| iteB h (fun h28 h => ai (g0 (congrArg not h28)) <| ai (rfl : Z0) <| ai (g0 (congrArg not h28)) <| ai (g0 (congrArg not h28)) <| ai (g0 (congrArg not h28)) <| ai (rfl : Z0) <| ai (g0 (congrArg not h28)) <| exB h fun r29 ek30 h => have ek30 := lift_L_levelIs r21.1 r21.2 w1_1 (⟨w2_1, w2_2⟩ : Level) _ ek30; ai ek30 <| ai tt <| ai tt <| ai (g0 (congrArg not h28)) <| ai (congrArg not h28) <| iteB h (fun h31 h => ai (congrArg not h31) <| ai (rfl : Z0) <| ai ((spoil_of _ _ _ _ _) : Ω0 14 [(.a [(.l 4 (r17.1.Readers.map AV.b)), (.l 4 (r17.1.Writers.map AV.b))])] = some .u) <| ai (rfl : Z0) <| ai ((spoil_of _ _ _ _ _) : Ω0 14 [(.a [(.l 4 (r19.1.Readers.map AV.b)), (.l 4 (r19.1.Writers.map AV.b))])] = some .u) <| ai (rfl : Z0) <| ai ((spoil_of _ _ _ _ _) : Ω0 14 [(.a [(.l 4 (r21.1.Readers.map AV.b)), (.l 4 (r21.1.Writers.map AV.b))])] = some .u) <| asrtP h fun w32 h => ai w32 <| L h) (fun _ h => noneO h)) (fun _ h => noneO h)) (fun _ h => noneO h)) (fun h16 h => ai (decide_eq_false h16) <| L h)) (by kernel_rfl)
theorem LL_L_RestLevels_0 (a0 : Actors) (a1 : Level) (a2 : Level) (a3 : Label) (r4 : Level) (r6 : Level) (w1_1 : Int) (w2_1 : (List Bool)) (w2_2 : (List Bool)) (v : Nat) (x : (Nat × Bool)) (h : lp (fun v => B_L_RestLevels_0 a0 a1 a2 a3 r4 r6 w1_1 w2_1 w2_2 v) v = some x) : lpAt G Ω0 E0 c3_0 (S_L_RestLevels_0 a0 a1 a2 a3 r4 r6 w1_1 w2_1 w2_2 v) = some (X_L_RestLevels_0 a0 a1 a2 a3 r4 r6 w1_1 w2_1 w2_2 x) :=
  lp_lift c3_0 (S_L_RestLevels_0 a0 a1 a2 a3 r4 r6 w1_1 w2_1 w2_2) (X_L_RestLevels_0 a0 a1 a2 a3 r4 r6 w1_1 w2_1 w2_2) (fun _ => rfl) (fun v o h => LB_L_RestLevels_0 a0 a1 a2 a3 r4 r6 w1_1 w2_1 w2_2 v o h) h
noncomputable def D_L_RestLevels_d2 (a0 : Actors) (a1 : Level) (a2 : Level) (a3 : Label) (r4 : Level) (r6 : Level) (w1_1 : Int) (w2_1 : (List Bool)) (w2_2 : (List Bool)) : Option Unit :=
  (lp (fun v => B_L_RestLevels_0 a0 a1 a2 a3 r4 r6 w1_1 w2_1 w2_2 v) 0).bind fun (x16 : (Nat × Bool)) =>
  some ()
abbrev X_L_RestLevels_d2 (a0 : Actors) (a1 : Level) (a2 : Level) (a3 : Label) (r4 : Level) (r6 : Level) (w1_1 : Int) (w2_1 : (List Bool)) (w2_2 : (List Bool)) (x : Unit) : AExit × St := (.ret, ⟨[(8, (.b true))], [], H0⟩)
abbrev O_L_RestLevels_d2 (a0 : Actors) (a1 : Level) (a2 : Level) (a3 : Label) (r4 : Level) (r6 : Level) (w1_1 : Int) (w2_1 : (List Bool)) (w2_2 : (List Bool)) (x : Unit) : Prop := run G Ω0 E0 e3_2 ⟨[(4, (.p ⟨0, 4⟩ 0)), (5, (.p ⟨0, 5⟩ 0)), (6, (.p ⟨0, 6⟩ 0)), (7, (.p ⟨0, 7⟩ 0)), (10, (.p ⟨0, 10⟩ 0)), (11, (.p ⟨0, 11⟩ 0)), (12, (I w1_1)), (13, (.p ⟨0, 13⟩ 0))], [(4, [(I a0.Many), (.l 53 (a0.Grants.map eGrant))]), (5, [(.l 4 (a1.Readers.map AV.b)), (.l 4 (a1.Writers.map AV.b))]), (6, [(.l 4 (a2.Readers.map AV.b)), (.l 4 (a2.Writers.map AV.b))]), (7, [(.l 61 (a3.Read.map ePolicy)), (.l 61 (a3.Write.map ePolicy))]), (10, [(.l 4 (r4.Readers.map AV.b)), (.l 4 (r4.Writers.map AV.b))]), (11, [(.l 4 (r6.Readers.map AV.b)), (.l 4 (r6.Writers.map AV.b))]), (13, [(.l 4 (w2_1.map AV.b)), (.l 4 (w2_2.map AV.b))])], H0⟩ = some (X_L_RestLevels_d2 a0 a1 a2 a3 r4 r6 w1_1 w2_1 w2_2 x)
theorem LD_L_RestLevels_d2 (a0 : Actors) (a1 : Level) (a2 : Level) (a3 : Label) (r4 : Level) (r6 : Level) (w1_1 : Int) (w2_1 : (List Bool)) (w2_2 : (List Bool)) (x : Unit) (h : D_L_RestLevels_d2 a0 a1 a2 a3 r4 r6 w1_1 w2_1 w2_2 = some x) : O_L_RestLevels_d2 a0 a1 a2 a3 r4 r6 w1_1 w2_1 w2_2 x :=
  have L := fun {a} => lY (Y := X_L_RestLevels_d2 a0 a1 a2 a3 r4 r6 w1_1 w2_1 w2_2) (a := a) (r := x)
  runT (AT.ex fun (x16 : (Nat × Bool)) => ao (.lp (.ex 0) ⟨[(4, (.p ⟨0, 4⟩ 0)), (5, (.p ⟨0, 5⟩ 0)), (6, (.p ⟨0, 6⟩ 0)), (7, (.p ⟨0, 7⟩ 0)), (10, (.p ⟨0, 10⟩ 0)), (11, (.p ⟨0, 11⟩ 0)), (12, (I w1_1)), (13, (.p ⟨0, 13⟩ 0)), (14, (I (x16.1 : Int))), (42, (.b x16.2))], [(4, [(I a0.Many), (.l 53 (a0.Grants.map eGrant))]), (5, [(.l 4 (a1.Readers.map AV.b)), (.l 4 (a1.Writers.map AV.b))]), (6, [(.l 4 (a2.Readers.map AV.b)), (.l 4 (a2.Writers.map AV.b))]), (7, [(.l 61 (a3.Read.map ePolicy)), (.l 61 (a3.Write.map ePolicy))]), (10, [(.l 4 (r4.Readers.map AV.b)), (.l 4 (r4.Writers.map AV.b))]), (11, [(.l 4 (r6.Readers.map AV.b)), (.l 4 (r6.Writers.map AV.b))]), (13, [(.l 4 (w2_1.map AV.b)), (.l 4 (w2_2.map AV.b))])], H0⟩) <| AT.nil) (exB h fun x16 lp17 h => have lp17 := LL_L_RestLevels_0 a0 a1 a2 a3 r4 r6 w1_1 w2_1 w2_2 0 _ lp17; ai lp17 <| L h) (by kernel_rfl)
noncomputable def D_L_RestLevels_d1 (a0 : Actors) (a1 : Level) (a2 : Level) (a3 : Label) (r4 : Level) (r6 : Level) (w1_1 : Int) : Option Unit :=
  if (w1_1 == 0) = true then
    (F_R_LevelOf a0 a3).bind fun (r14 : Level) =>
    (D_L_RestLevels_d2 a0 a1 a2 a3 r4 r6 w1_1 r14.Readers r14.Writers).bind fun (x16 : Unit) =>
    some ()
  else
    (D_L_RestLevels_d2 a0 a1 a2 a3 r4 r6 w1_1 ([] : List Bool) ([] : List Bool)).bind fun (x14 : Unit) =>
    some ()
abbrev X_L_RestLevels_d1 (a0 : Actors) (a1 : Level) (a2 : Level) (a3 : Label) (r4 : Level) (r6 : Level) (w1_1 : Int) (x : Unit) : AExit × St := (.ret, ⟨[(8, (.b true))], [], H0⟩)
abbrev O_L_RestLevels_d1 (a0 : Actors) (a1 : Level) (a2 : Level) (a3 : Label) (r4 : Level) (r6 : Level) (w1_1 : Int) (x : Unit) : Prop := run G Ω0 E0 e3_1 ⟨[(4, (.p ⟨0, 4⟩ 0)), (5, (.p ⟨0, 5⟩ 0)), (6, (.p ⟨0, 6⟩ 0)), (7, (.p ⟨0, 7⟩ 0)), (10, (.p ⟨0, 10⟩ 0)), (11, (.p ⟨0, 11⟩ 0)), (12, (I w1_1))], [(4, [(I a0.Many), (.l 53 (a0.Grants.map eGrant))]), (5, [(.l 4 (a1.Readers.map AV.b)), (.l 4 (a1.Writers.map AV.b))]), (6, [(.l 4 (a2.Readers.map AV.b)), (.l 4 (a2.Writers.map AV.b))]), (7, [(.l 61 (a3.Read.map ePolicy)), (.l 61 (a3.Write.map ePolicy))]), (10, [(.l 4 (r4.Readers.map AV.b)), (.l 4 (r4.Writers.map AV.b))]), (11, [(.l 4 (r6.Readers.map AV.b)), (.l 4 (r6.Writers.map AV.b))])], H0⟩ = some (X_L_RestLevels_d1 a0 a1 a2 a3 r4 r6 w1_1 x)
theorem LD_L_RestLevels_d1 (a0 : Actors) (a1 : Level) (a2 : Level) (a3 : Label) (r4 : Level) (r6 : Level) (w1_1 : Int) (x : Unit) (h : D_L_RestLevels_d1 a0 a1 a2 a3 r4 r6 w1_1 = some x) : O_L_RestLevels_d1 a0 a1 a2 a3 r4 r6 w1_1 x :=
  have L := fun {a} => lY (Y := X_L_RestLevels_d1 a0 a1 a2 a3 r4 r6 w1_1) (a := a) (r := x)
  runT (AT.or (bt <| bt <| bt <| AT.ex fun (r14 : Level) => ao (.v (.a [(.l 4 (r14.Readers.map AV.b)), (.l 4 (r14.Writers.map AV.b))])) <| bt <| bt <| AT.fb <| AT.ex fun (x16 : Unit) => ao (.fr .ret ⟨[(8, (.b true))], [], H0⟩) <| AT.nil) (bf <| AT.fb <| AT.ex fun (x14 : Unit) => ao (.fr .ret ⟨[(8, (.b true))], [], H0⟩) <| AT.nil)) (ai tt <| orB h (fun h13 h => ai h13 <| ai (rfl : Z0) <| ai (rfl : Z0) <| exB h fun r14 ek15 h => have ek15 := lift_R_LevelOf a0 a3 _ ek15; ai ek15 <| ai ff <| ai (rfl : Z0) <| ai tt <| ai (rfl : Z0) <| exB h fun x16 fr17 h => have fr17 := LD_L_RestLevels_d2 a0 a1 a2 a3 r4 r6 w1_1 r14.Readers r14.Writers _ fr17; ai fr17 <| L h) (fun h13 h => ai h13 <| exB h fun x14 fr15 h => have fr15 := LD_L_RestLevels_d2 a0 a1 a2 a3 r4 r6 w1_1 ([] : List Bool) ([] : List Bool) _ fr15; ai fr15 <| L h)) (by kernel_rfl)
abbrev Y_L_RestLevels (a0 : Actors) (a1 : Level) (a2 : Level) (a3 : Label) (r : Bool) : AEnd × HP := (.ret (.b r), H0)
abbrev O_L_RestLevels (a0 : Actors) (a1 : Level) (a2 : Level) (a3 : Label) (r : Bool) : Prop := call G Ω0 E0 3 [(.a [(I a0.Many), (.l 53 (a0.Grants.map eGrant))]), (.a [(.l 4 (a1.Readers.map AV.b)), (.l 4 (a1.Writers.map AV.b))]), (.a [(.l 4 (a2.Readers.map AV.b)), (.l 4 (a2.Writers.map AV.b))]), (.a [(.l 61 (a3.Read.map ePolicy)), (.l 61 (a3.Write.map ePolicy))])] H0 = some (Y_L_RestLevels a0 a1 a2 a3 r)
noncomputable def F_L_RestLevels (a0 : Actors) (a1 : Level) (a2 : Level) (a3 : Label) : Option Bool :=
  (F_L_labelBegun).bind fun (r1 : Bool) =>
  if r1 = true then
    (F_L_RestLevels_1 a1).bind fun (r4 : Level) =>
    (F_L_RestLevels_1 a2).bind fun (r6 : Level) =>
    (F_R_CheckActors a0).bind fun (r8 : Int) =>
    if (r8 == 0) = true then
      (F_R_CheckLabel a0 a3).bind fun (r11 : Int) =>
      (D_L_RestLevels_d1 a0 a1 a2 a3 r4 r6 r11).bind fun (x13 : Unit) =>
      some true
    else
      (D_L_RestLevels_d1 a0 a1 a2 a3 r4 r6 r8).bind fun (x11 : Unit) =>
      some true
  else
    none
theorem lift_L_RestLevels (a0 : Actors) (a1 : Level) (a2 : Level) (a3 : Label) (r : Bool) (h : F_L_RestLevels a0 a1 a2 a3 = some r) : O_L_RestLevels a0 a1 a2 a3 r :=
  have L := fun {a} => lY (Y := Y_L_RestLevels a0 a1 a2 a3) (a := a) (r := r)
  callT G3 (AT.ex fun (r1 : Bool) => ao (.v (.b r1)) <| bf <| bt <| AT.ex fun (r4 : Level) => ao (.v (.a [(.l 4 (r4.Readers.map AV.b)), (.l 4 (r4.Writers.map AV.b))])) <| bt <| AT.ex fun (r6 : Level) => ao (.v (.a [(.l 4 (r6.Readers.map AV.b)), (.l 4 (r6.Writers.map AV.b))])) <| bt <| bt <| bt <| bt <| bt <| AT.ex fun (r8 : Int) => ao (.v (I r8)) <| AT.or (bt <| bt <| bt <| AT.ex fun (r11 : Int) => ao (.v (I r11)) <| AT.fb <| AT.ex fun (x13 : Unit) => ao (.fr .ret ⟨[(8, (.b true))], [], H0⟩) <| AT.nil) (bf <| AT.fb <| AT.ex fun (x11 : Unit) => ao (.fr .ret ⟨[(8, (.b true))], [], H0⟩) <| AT.nil)) (ai tt <| ai tt <| ai tt <| ai tt <| exB h fun r1 ek2 h => have ek2 := lift_L_labelBegun  _ ek2; ai ek2 <| iteB h (fun h3 h => ai (congrArg not h3) <| ai tt <| ai tt <| ai (rfl : Z0) <| ai tt <| exB h fun r4 ek5 h => have ek5 := lift_L_RestLevels_1 a1 _ ek5; ai ek5 <| ai tt <| ai tt <| ai (rfl : Z0) <| ai tt <| exB h fun r6 ek7 h => have ek7 := lift_L_RestLevels_1 a2 _ ek7; ai ek7 <| ai tt <| ai tt <| ai tt <| ai tt <| ai tt <| ai ff <| ai (rfl : Z0) <| ai tt <| ai (rfl : Z0) <| ai ff <| ai (rfl : Z0) <| ai tt <| ai (rfl : Z0) <| ai (rfl : Z0) <| exB h fun r8 ek9 h => have ek9 := lift_R_CheckActors a0 _ ek9; ai ek9 <| orB h (fun h10 h => ai h10 <| ai (rfl : Z0) <| ai (rfl : Z0) <| exB h fun r11 ek12 h => have ek12 := lift_R_CheckLabel a0 a3 _ ek12; ai ek12 <| exB h fun x13 fr14 h => have fr14 := LD_L_RestLevels_d1 a0 a1 a2 a3 r4 r6 r11 _ fr14; ai fr14 <| L h) (fun h10 h => ai h10 <| exB h fun x11 fr12 h => have fr12 := LD_L_RestLevels_d1 a0 a1 a2 a3 r4 r6 r8 _ fr12; ai fr12 <| L h)) (fun _ h => noneO h)) (by kernel_rfl)
end Go.Proofs.Ytjnhiggknkflfaa.A
