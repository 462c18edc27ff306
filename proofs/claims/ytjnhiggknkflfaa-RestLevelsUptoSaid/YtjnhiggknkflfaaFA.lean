/- Functions of the program as plain functions, by program. -/
import Derived.Test.YtjnhiggknkflfaaTypes
import Derived.Test.YtjnhiggknkflfaaLift
set_option maxRecDepth 100000
set_option linter.unusedSectionVars false
set_option linter.unusedVariables false
set_option linter.unusedSimpArgs false
set_option linter.constructorNameAsVariable false
namespace Go.Proofs.Ytjnhiggknkflfaa.A
open Go
variable [Lp]
abbrev Y_R_between (a0 : Int) (a1 : Int) (a2 : Int) (r : Bool) : AEnd × HP := (.ret (.b r), H0)
abbrev O_R_between (a0 : Int) (a1 : Int) (a2 : Int) (r : Bool) : Prop := call G Ω0 E0 21 [(I a0), (I a1), (I a2)] H0 = some (Y_R_between a0 a1 a2 r)
noncomputable def F_R_between (a0 : Int) (a1 : Int) (a2 : Int) : Option Bool :=
  if a1 ≤ a0 then
    some (decide (a0 ≤ a2))
  else
    some false
theorem lift_R_between (a0 : Int) (a1 : Int) (a2 : Int) (r : Bool) (h : F_R_between a0 a1 a2 = some r) : O_R_between a0 a1 a2 r :=
  have L := fun {a} => lY (Y := Y_R_between a0 a1 a2) (a := a) (r := r)
  callT G21 (AT.or (bt <| bt <| bt <| bt <| AT.nil) (bf <| bf <| bf <| bf <| AT.nil)) (orP h (fun h1 h => ai (g1 (decide_eq_true h1)) <| ai (g1 (decide_eq_true h1)) <| ai (g1 (decide_eq_true h1)) <| ai (decide_eq_true h1) <| L h) (fun h1 h => ai (g1 (decide_eq_false h1)) <| ai (g1 (decide_eq_false h1)) <| ai (g1 (decide_eq_false h1)) <| ai (decide_eq_false h1) <| L h)) (by kernel_rfl)
abbrev Y_R_IsActor (a0 : Actors) (a1 : Int) (r : Bool) : AEnd × HP := (.ret (.b r), H0)
abbrev O_R_IsActor (a0 : Actors) (a1 : Int) (r : Bool) : Prop := call G Ω0 E0 22 [(.a [(I a0.Many), (.l 53 (a0.Grants.map eGrant))]), (I a1)] H0 = some (Y_R_IsActor a0 a1 r)
noncomputable def F_R_IsActor (a0 : Actors) (a1 : Int) : Option Bool :=
  if IntKind.i64.wrap (a0.Many - 1) = a0.Many - 1 then
    (F_R_between a1 0 (a0.Many - 1)).bind fun (r2 : Bool) =>
    some r2
  else none
theorem lift_R_IsActor (a0 : Actors) (a1 : Int) (r : Bool) (h : F_R_IsActor a0 a1 = some r) : O_R_IsActor a0 a1 r :=
  have L := fun {a} => lY (Y := Y_R_IsActor a0 a1) (a := a) (r := r)
  callT G22 (bt <| ao (.i (a0.Many - 1)) <| AT.ex fun (r2 : Bool) => ao (.v (.b r2)) <| AT.nil) (ai tt <| ai (rfl : Z0) <| asrtP h fun w1 h => ai w1 <| exB h fun r2 ek3 h => have ek3 := lift_R_between a1 0 (a0.Many - 1) _ ek3; ai ek3 <| L h) (by kernel_rfl)
noncomputable def B_R_CheckActors_0 (a0 : Actors) (v0_3 : Nat) : Option (Nat ⊕ (Unit ⊕ (Nat × Bool))) :=
  if (v0_3 : Int) < (a0.Grants.length : Int) then
    (a0.Grants[v0_3]?).bind fun (y6 : Grant) =>
    (F_R_IsActor a0 y6.Who).bind fun (r8 : Bool) =>
    if r8 = true then
      (F_R_IsActor a0 y6.For).bind fun (r11 : Bool) =>
      if r11 = true then
        if IntKind.i64.wrap ((v0_3 : Int) + 1) = ((v0_3 + 1 : Nat) : Int) then
          some (.inl (v0_3 + 1))
        else none
      else
        some (.inr (.inl ()))
    else
      some (.inr (.inl ()))
  else
    some (.inr (.inr (v0_3, decide ((v0_3 : Int) < (a0.Grants.length : Int)))))
abbrev S_R_CheckActors_0 (a0 : Actors) (v : Nat) : St := ⟨[(1, (.p ⟨0, 1⟩ 0)), (3, (I (v : Int)))], [(1, [(I a0.Many), (.l 53 (a0.Grants.map eGrant))])], H0⟩
abbrev X_R_CheckActors_0 (a0 : Actors) (x : (Unit ⊕ (Nat × Bool))) : AExit × St := match x with | .inl () => (.ret, ⟨[(2, (I 5))], [], H0⟩) | .inr (z1, z2) => ((.ex 0), ⟨[(1, (.p ⟨0, 1⟩ 0)), (3, (I (z1 : Int))), (16, (.b z2))], [(1, [(I a0.Many), (.l 53 (a0.Grants.map eGrant))])], H0⟩)
theorem LB_R_CheckActors_0 (a0 : Actors) (v0_3 : Nat) (o : Nat ⊕ (Unit ⊕ (Nat × Bool))) (h : B_R_CheckActors_0 a0 v0_3 = some o) : bodyOK E0 c6_0 (S_R_CheckActors_0 a0) (X_R_CheckActors_0 a0) v0_3 o :=
  have L := fun {a} => lY (Y := bodyY (S_R_CheckActors_0 a0) (X_R_CheckActors_0 a0)) (a := a) (r := o)
  bodyT (bt <| ao (.i (a0.Grants.length : Int)) <| AT.or (bt <| bt <| bt <| ao (.n v0_3) <| AT.ex fun (y6 : Grant) => ao (.v (.a [(I y6.Who), (I y6.For)])) <| AT.ex fun (r8 : Bool) => ao (.v (.b r8)) <| AT.or (bt <| bt <| bt <| bt <| bt <| bt <| bt <| ao (.n v0_3) <| ao (.v (.a [(I y6.Who), (I y6.For)])) <| bt <| bt <| bt <| AT.ex fun (r11 : Bool) => ao (.v (.b r11)) <| bt <| bf <| AT.or (bf <| ao (.i ((v0_3 + 1 : Nat) : Int)) <| AT.nil) (bt <| AT.nil)) (bf <| bf <| bf <| bf <| bf <| bf <| bf <| bf <| bf <| bt <| bt <| AT.nil)) (bf <| AT.nil)) (ai (rfl : Z0) <| ai (map_len eGrant a0.Grants) <| orP h (fun h5 h => ai (decide_eq_true h5) <| ai tt <| ai (rfl : Z0) <| ai tt <| ai tt <| ai (rfl : Z0) <| ai tt <| ai tt <| ai (rfl : (v0_3 : Int) = (v0_3 : Int)) <| exB h fun y6 h7 h => ai (map_get eGrant h7) <| ai tt <| ai tt <| ai tt <| exB h fun r8 ek9 h => have ek9 := lift_R_IsActor a0 y6.Who _ ek9; ai ek9 <| ai tt <| ai tt <| ai tt <| orB h (fun h10 h => ai (g0 (congrArg not h10)) <| ai (rfl : Z0) <| ai tt <| ai (g0 (congrArg not h10)) <| ai tt <| ai (g0 (congrArg not h10)) <| ai (rfl : Z0) <| ai tt <| ai (g0 (congrArg not h10)) <| ai tt <| ai (g0 (congrArg not h10)) <| ai (rfl : (v0_3 : Int) = (v0_3 : Int)) <| ai (map_get eGrant h7) <| ai tt <| ai (g0 (congrArg not h10)) <| ai tt <| ai (g0 (congrArg not h10)) <| ai tt <| ai (g0 (congrArg not h10)) <| exB h fun r11 ek12 h => have ek12 := lift_R_IsActor a0 y6.For _ ek12; ai ek12 <| ai (g0 (congrArg not h10)) <| ai (congrArg not h10) <| orB h (fun h13 h => ai (congrArg not h13) <| asrtP h fun w14 h => ai w14 <| L h) (fun h13 h => ai (congrArg not h13) <| L h)) (fun h10 h => ai (g0 (congrArg not h10)) <| ai (g0 (congrArg not h10)) <| ai (g0 (congrArg not h10)) <| ai (g0 (congrArg not h10)) <| ai (g0 (congrArg not h10)) <| ai (g0 (congrArg not h10)) <| ai (g0 (congrArg not h10)) <| ai (g0 (congrArg not h10)) <| ai (g0 (congrArg not h10)) <| ai (congrArg not h10) <| ai tt <| L h)) (fun h5 h => ai (decide_eq_false h5) <| L h)) (by kernel_rfl)
theorem LL_R_CheckActors_0 (a0 : Actors) (v : Nat) (x : (Unit ⊕ (Nat × Bool))) (h : lp (fun v => B_R_CheckActors_0 a0 v) v = some x) : lpAt G Ω0 E0 c6_0 (S_R_CheckActors_0 a0 v) = some (X_R_CheckActors_0 a0 x) :=
  lp_lift c6_0 (S_R_CheckActors_0 a0) (X_R_CheckActors_0 a0) (fun _ => rfl) (fun v o h => LB_R_CheckActors_0 a0 v o h) h
abbrev Y_R_CheckActors (a0 : Actors) (r : Int) : AEnd × HP := (.ret (I r), H0)
abbrev O_R_CheckActors (a0 : Actors) (r : Int) : Prop := call G Ω0 E0 6 [(.a [(I a0.Many), (.l 53 (a0.Grants.map eGrant))])] H0 = some (Y_R_CheckActors a0 r)
noncomputable def F_R_CheckActors (a0 : Actors) : Option Int :=
  (F_R_between a0.Many 1 6).bind fun (r1 : Bool) =>
  if r1 = true then
    if 20 < (a0.Grants.length : Int) then
      some 2
    else
      (lp (fun v => B_R_CheckActors_0 a0 v) 0).bind fun (x5 : (Unit ⊕ (Nat × Bool))) => match x5 with
      | .inl ya_6 =>
        some 5
      | .inr yb_6 =>
        some 0
  else
    some 3
theorem lift_R_CheckActors (a0 : Actors) (r : Int) (h : F_R_CheckActors a0 = some r) : O_R_CheckActors a0 r :=
  have L := fun {a} => lY (Y := Y_R_CheckActors a0) (a := a) (r := r)
  callT G6 (bt <| AT.ex fun (r1 : Bool) => ao (.v (.b r1)) <| AT.or (bf <| bt <| ao (.i (a0.Grants.length : Int)) <| AT.or (bt <| AT.nil) (bf <| AT.or (AT.ex fun (ya_6 : Unit) => ao (.lp .ret ⟨[(2, (I 5))], [], H0⟩) <| AT.nil) (AT.ex fun (yb_6 : (Nat × Bool)) => ao (.lp (.ex 0) ⟨[(1, (.p ⟨0, 1⟩ 0)), (3, (I (yb_6.1 : Int))), (16, (.b yb_6.2))], [(1, [(I a0.Many), (.l 53 (a0.Grants.map eGrant))])], H0⟩) <| AT.nil))) (bt <| AT.nil)) (ai tt <| ai (rfl : Z0) <| exB h fun r1 ek2 h => have ek2 := lift_R_between a0.Many 1 6 _ ek2; ai ek2 <| orB h (fun h3 h => ai (congrArg not h3) <| ai (rfl : Z0) <| ai (map_len eGrant a0.Grants) <| orP h (fun h4 h => ai (decide_eq_true h4) <| L h) (fun h4 h => ai (decide_eq_false h4) <| sum2 h (fun ya_6 lp7 h => have lp7 := LL_R_CheckActors_0 a0 0 _ lp7; ai lp7 <| L h) (fun yb_6 lp7 h => have lp7 := LL_R_CheckActors_0 a0 0 _ lp7; ai lp7 <| L h))) (fun h3 h => ai (congrArg not h3) <| L h)) (by kernel_rfl)
noncomputable def B_R_checkPolicies_1 (a0 : Actors) (a1 : (List Policy)) (v0_5 : Nat) (v1_6 : Nat) : Option (Nat ⊕ (Unit ⊕ (Nat × Bool))) :=
  (a1[v0_5]?).bind fun (y9 : Policy) =>
  if (v1_6 : Int) < (y9.Names.length : Int) then
    (y9.Names[v1_6]?).bind fun (y12 : Int) =>
    (F_R_IsActor a0 y12).bind fun (r14 : Bool) =>
    if r14 = true then
      if IntKind.i64.wrap ((v1_6 : Int) + 1) = ((v1_6 + 1 : Nat) : Int) then
        some (.inl (v1_6 + 1))
      else none
    else
      some (.inr (.inl ()))
  else
    some (.inr (.inr (v1_6, decide ((v1_6 : Int) < (y9.Names.length : Int)))))
abbrev S_R_checkPolicies_1 (a0 : Actors) (a1 : (List Policy)) (v0_5 : Nat) (v : Nat) : St := ⟨[(1, (.l 61 (a1.map ePolicy))), (2, (.p ⟨0, 2⟩ 0)), (5, (I (v0_5 : Int))), (6, (I (v : Int)))], [(2, [(I a0.Many), (.l 53 (a0.Grants.map eGrant))])], H0⟩
abbrev X_R_checkPolicies_1 (a0 : Actors) (a1 : (List Policy)) (v0_5 : Nat) (x : (Unit ⊕ (Nat × Bool))) : AExit × St := match x with | .inl () => (.ret, ⟨[(4, (I 5))], [], H0⟩) | .inr (z1, z2) => ((.ex 2), ⟨[(1, (.l 61 (a1.map ePolicy))), (2, (.p ⟨0, 2⟩ 0)), (5, (I (v0_5 : Int))), (6, (I (z1 : Int))), (39, (.b z2))], [(2, [(I a0.Many), (.l 53 (a0.Grants.map eGrant))])], H0⟩)
theorem LB_R_checkPolicies_1 (a0 : Actors) (a1 : (List Policy)) (v0_5 : Nat) (v1_6 : Nat) (o : Nat ⊕ (Unit ⊕ (Nat × Bool))) (h : B_R_checkPolicies_1 a0 a1 v0_5 v1_6 = some o) : bodyOK E0 c23_1 (S_R_checkPolicies_1 a0 a1 v0_5) (X_R_checkPolicies_1 a0 a1 v0_5) v1_6 o :=
  have L := fun {a} => lY (Y := bodyY (S_R_checkPolicies_1 a0 a1 v0_5) (X_R_checkPolicies_1 a0 a1 v0_5)) (a := a) (r := o)
  bodyT (ao (.n v0_5) <| AT.ex fun (y9 : Policy) => ao (.v (.a [(I y9.Owner), (.l 3 (y9.Names.map (I)))])) <| ao (.i (y9.Names.length : Int)) <| AT.or (bt <| bt <| ao (.n v0_5) <| ao (.v (.a [(I y9.Owner), (.l 3 (y9.Names.map (I)))])) <| ao (.n v1_6) <| AT.ex fun (y12 : Int) => ao (.v (I y12)) <| AT.ex fun (r14 : Bool) => ao (.v (.b r14)) <| AT.or (bf <| ao (.i ((v1_6 + 1 : Nat) : Int)) <| AT.nil) (bt <| AT.nil)) (bf <| AT.nil)) (ai (rfl : (v0_5 : Int) = (v0_5 : Int)) <| exB h fun y9 h10 h => ai (map_get ePolicy h10) <| ai (map_len (I) y9.Names) <| orP h (fun h11 h => ai (decide_eq_true h11) <| ai tt <| ai (rfl : Z0) <| ai tt <| ai tt <| ai tt <| ai (rfl : (v0_5 : Int) = (v0_5 : Int)) <| ai (map_get ePolicy h10) <| ai tt <| ai tt <| ai tt <| ai tt <| ai (rfl : (v1_6 : Int) = (v1_6 : Int)) <| exB h fun y12 h13 h => ai (map_get (I) h13) <| ai tt <| ai tt <| exB h fun r14 ek15 h => have ek15 := lift_R_IsActor a0 y12 _ ek15; ai ek15 <| orB h (fun h16 h => ai (congrArg not h16) <| asrtP h fun w17 h => ai w17 <| L h) (fun h16 h => ai (congrArg not h16) <| L h)) (fun h11 h => ai (decide_eq_false h11) <| L h)) (by kernel_rfl)
theorem LL_R_checkPolicies_1 (a0 : Actors) (a1 : (List Policy)) (v0_5 : Nat) (v : Nat) (x : (Unit ⊕ (Nat × Bool))) (h : lp (fun v => B_R_checkPolicies_1 a0 a1 v0_5 v) v = some x) : lpAt G Ω0 E0 c23_1 (S_R_checkPolicies_1 a0 a1 v0_5 v) = some (X_R_checkPolicies_1 a0 a1 v0_5 x) :=
  lp_lift c23_1 (S_R_checkPolicies_1 a0 a1 v0_5) (X_R_checkPolicies_1 a0 a1 v0_5) (fun _ => rfl) (fun v o h => LB_R_checkPolicies_1 a0 a1 v0_5 v o h) h
noncomputable def B_R_checkPolicies_2 (a0 : Actors) (a1 : (List Policy)) (v0_5 : Nat) (v2_7 : Nat) : Option (Nat ⊕ (Unit ⊕ (Nat × Bool))) :=
  (a1[v0_5]?).bind fun (y12 : Policy) =>
  if (v2_7 : Int) < (y12.Names.length : Int) then
    (y12.Names[v2_7]?).bind fun (y15 : Int) =>
    if IntKind.i64.wrap ((v2_7 : Int) - 1) = (v2_7 : Int) - 1 then
      (natI ((v2_7 : Int) - 1)).bind fun (j18 : Nat) =>
      (y12.Names[j18]?).bind fun (y20 : Int) =>
      if y15 ≤ y20 then
        some (.inr (.inl ()))
      else
        if IntKind.i64.wrap ((v2_7 : Int) + 1) = ((v2_7 + 1 : Nat) : Int) then
          some (.inl (v2_7 + 1))
        else none
    else none
  else
    some (.inr (.inr (v2_7, decide ((v2_7 : Int) < (y12.Names.length : Int)))))
abbrev S_R_checkPolicies_2 (a0 : Actors) (a1 : (List Policy)) (v0_5 : Nat) (v : Nat) : St := ⟨[(1, (.l 61 (a1.map ePolicy))), (2, (.p ⟨0, 2⟩ 0)), (5, (I (v0_5 : Int))), (7, (I (v : Int)))], [(2, [(I a0.Many), (.l 53 (a0.Grants.map eGrant))])], H0⟩
abbrev X_R_checkPolicies_2 (a0 : Actors) (a1 : (List Policy)) (v0_5 : Nat) (x : (Unit ⊕ (Nat × Bool))) : AExit × St := match x with | .inl () => (.ret, ⟨[(4, (I 4))], [], H0⟩) | .inr (z1, z2) => ((.ex 4), ⟨[(1, (.l 61 (a1.map ePolicy))), (2, (.p ⟨0, 2⟩ 0)), (5, (I (v0_5 : Int))), (7, (I (z1 : Int))), (60, (.b z2))], [(2, [(I a0.Many), (.l 53 (a0.Grants.map eGrant))])], H0⟩)
theorem LB_R_checkPolicies_2 (a0 : Actors) (a1 : (List Policy)) (v0_5 : Nat) (v2_7 : Nat) (o : Nat ⊕ (Unit ⊕ (Nat × Bool))) (h : B_R_checkPolicies_2 a0 a1 v0_5 v2_7 = some o) : bodyOK E0 c23_2 (S_R_checkPolicies_2 a0 a1 v0_5) (X_R_checkPolicies_2 a0 a1 v0_5) v2_7 o :=
  have L := fun {a} => lY (Y := bodyY (S_R_checkPolicies_2 a0 a1 v0_5) (X_R_checkPolicies_2 a0 a1 v0_5)) (a := a) (r := o)
  bodyT (ao (.n v0_5) <| AT.ex fun (y12 : Policy) => ao (.v (.a [(I y12.Owner), (.l 3 (y12.Names.map (I)))])) <| ao (.i (y12.Names.length : Int)) <| AT.or (bt <| ao (.n v0_5) <| ao (.v (.a [(I y12.Owner), (.l 3 (y12.Names.map (I)))])) <| ao (.n v2_7) <| AT.ex fun (y15 : Int) => ao (.v (I y15)) <| ao (.n v0_5) <| ao (.v (.a [(I y12.Owner), (.l 3 (y12.Names.map (I)))])) <| ao (.i ((v2_7 : Int) - 1)) <| AT.ex fun (j18 : Nat) => ao (.n j18) <| AT.ex fun (y20 : Int) => ao (.v (I y20)) <| AT.or (bt <| AT.nil) (bf <| ao (.i ((v2_7 + 1 : Nat) : Int)) <| AT.nil)) (bf <| AT.nil)) (ai (rfl : (v0_5 : Int) = (v0_5 : Int)) <| exB h fun y12 h13 h => ai (map_get ePolicy h13) <| ai (map_len (I) y12.Names) <| orP h (fun h14 h => ai (decide_eq_true h14) <| ai tt <| ai tt <| ai tt <| ai (rfl : (v0_5 : Int) = (v0_5 : Int)) <| ai (map_get ePolicy h13) <| ai tt <| ai tt <| ai tt <| ai tt <| ai (rfl : (v2_7 : Int) = (v2_7 : Int)) <| exB h fun y15 h16 h => ai (map_get (I) h16) <| ai tt <| ai tt <| ai tt <| ai tt <| ai (rfl : (v0_5 : Int) = (v0_5 : Int)) <| ai (map_get ePolicy h13) <| ai tt <| ai tt <| ai tt <| ai tt <| asrtP h fun w17 h => ai w17 <| ai tt <| natE h fun j18 h19 h => ai h19 <| exB h fun y20 h21 h => ai (map_get (I) h21) <| ai tt <| ai tt <| orP h (fun h22 h => ai (decide_eq_true h22) <| L h) (fun h22 h => ai (decide_eq_false h22) <| asrtP h fun w23 h => ai w23 <| L h)) (fun h14 h => ai (decide_eq_false h14) <| L h)) (by kernel_rfl)
theorem LL_R_checkPolicies_2 (a0 : Actors) (a1 : (List Policy)) (v0_5 : Nat) (v : Nat) (x : (Unit ⊕ (Nat × Bool))) (h : lp (fun v => B_R_checkPolicies_2 a0 a1 v0_5 v) v = some x) : lpAt G Ω0 E0 c23_2 (S_R_checkPolicies_2 a0 a1 v0_5 v) = some (X_R_checkPolicies_2 a0 a1 v0_5 x) :=
  lp_lift c23_2 (S_R_checkPolicies_2 a0 a1 v0_5) (X_R_checkPolicies_2 a0 a1 v0_5) (fun _ => rfl) (fun v o h => LB_R_checkPolicies_2 a0 a1 v0_5 v o h) h
noncomputable def B_R_checkPolicies_0 (a0 : Actors) (a1 : (List Policy)) (v0_5 : Nat) : Option (Nat ⊕ (Unit ⊕ (Unit ⊕ (Unit ⊕ (Nat × Bool))))) :=
  if (v0_5 : Int) < (a1.length : Int) then
    (a1[v0_5]?).bind fun (y3 : Policy) =>
    (F_R_IsActor a0 y3.Owner).bind fun (r5 : Bool) =>
    if r5 = true then
      if 6 < (y3.Names.length : Int) then
        some (.inr (.inl ()))
      else
        (lp (fun v => B_R_checkPolicies_1 a0 a1 v0_5 v) 0).bind fun (x9 : (Unit ⊕ (Nat × Bool))) => match x9 with
        | .inl ya_10 =>
          some (.inr (.inr (.inl ())))
        | .inr yb_10 =>
          (lp (fun v => B_R_checkPolicies_2 a0 a1 v0_5 v) 1).bind fun (x12 : (Unit ⊕ (Nat × Bool))) => match x12 with
          | .inl ya_13 =>
            some (.inr (.inr (.inr (.inl ()))))
          | .inr yb_13 =>
            if IntKind.i64.wrap ((v0_5 : Int) + 1) = ((v0_5 + 1 : Nat) : Int) then
              some (.inl (v0_5 + 1))
            else none
    else
      some (.inr (.inr (.inl ())))
  else
    some (.inr (.inr (.inr (.inr (v0_5, decide ((v0_5 : Int) < (a1.length : Int)))))))
abbrev S_R_checkPolicies_0 (a0 : Actors) (a1 : (List Policy)) (v : Nat) : St := ⟨[(1, (.l 61 (a1.map ePolicy))), (2, (.p ⟨0, 2⟩ 0)), (5, (I (v : Int)))], [(2, [(I a0.Many), (.l 53 (a0.Grants.map eGrant))])], H0⟩
abbrev X_R_checkPolicies_0 (a0 : Actors) (a1 : (List Policy)) (x : (Unit ⊕ (Unit ⊕ (Unit ⊕ (Nat × Bool))))) : AExit × St := match x with | .inl () => (.ret, ⟨[(4, (I 2))], [], H0⟩) | .inr (.inl ()) => (.ret, ⟨[(4, (I 5))], [], H0⟩) | .inr (.inr (.inl ())) => (.ret, ⟨[(4, (I 4))], [], H0⟩) | .inr (.inr (.inr (z1, z2))) => ((.ex 0), ⟨[(1, (.l 61 (a1.map ePolicy))), (2, (.p ⟨0, 2⟩ 0)), (5, (I (z1 : Int))), (14, (.b z2))], [(2, [(I a0.Many), (.l 53 (a0.Grants.map eGrant))])], H0⟩)
theorem LB_R_checkPolicies_0 (a0 : Actors) (a1 : (List Policy)) (v0_5 : Nat) (o : Nat ⊕ (Unit ⊕ (Unit ⊕ (Unit ⊕ (Nat × Bool))))) (h : B_R_checkPolicies_0 a0 a1 v0_5 = some o) : bodyOK E0 c23_0 (S_R_checkPolicies_0 a0 a1) (X_R_checkPolicies_0 a0 a1) v0_5 o :=
  have L := fun {a} => lY (Y := bodyY (S_R_checkPolicies_0 a0 a1) (X_R_checkPolicies_0 a0 a1)) (a := a) (r := o)
  bodyT (ao (.i (a1.length : Int)) <| AT.or (bt <| bt <| ao (.n v0_5) <| AT.ex fun (y3 : Policy) => ao (.v (.a [(I y3.Owner), (.l 3 (y3.Names.map (I)))])) <| AT.ex fun (r5 : Bool) => ao (.v (.b r5)) <| AT.or (bf <| ao (.n v0_5) <| ao (.v (.a [(I y3.Owner), (.l 3 (y3.Names.map (I)))])) <| ao (.i (y3.Names.length : Int)) <| AT.or (bt <| AT.nil) (bf <| AT.or (AT.ex fun (ya_10 : Unit) => ao (.lp .ret ⟨[(4, (I 5))], [], H0⟩) <| AT.nil) (AT.ex fun (yb_10 : (Nat × Bool)) => ao (.lp (.ex 2) ⟨[(1, (.l 61 (a1.map ePolicy))), (2, (.p ⟨0, 2⟩ 0)), (5, (I (v0_5 : Int))), (6, (I (yb_10.1 : Int))), (39, (.b yb_10.2))], [(2, [(I a0.Many), (.l 53 (a0.Grants.map eGrant))])], H0⟩) <| AT.or (AT.ex fun (ya_13 : Unit) => ao (.lp .ret ⟨[(4, (I 4))], [], H0⟩) <| AT.nil) (AT.ex fun (yb_13 : (Nat × Bool)) => ao (.lp (.ex 4) ⟨[(1, (.l 61 (a1.map ePolicy))), (2, (.p ⟨0, 2⟩ 0)), (5, (I (v0_5 : Int))), (7, (I (yb_13.1 : Int))), (60, (.b yb_13.2))], [(2, [(I a0.Many), (.l 53 (a0.Grants.map eGrant))])], H0⟩) <| ao (.i ((v0_5 + 1 : Nat) : Int)) <| AT.nil)))) (bt <| AT.nil)) (bf <| AT.nil)) (ai (map_len ePolicy a1) <| orP h (fun h2 h => ai (decide_eq_true h2) <| ai tt <| ai (rfl : Z0) <| ai tt <| ai tt <| ai tt <| ai (rfl : (v0_5 : Int) = (v0_5 : Int)) <| exB h fun y3 h4 h => ai (map_get ePolicy h4) <| ai tt <| ai tt <| ai tt <| exB h fun r5 ek6 h => have ek6 := lift_R_IsActor a0 y3.Owner _ ek6; ai ek6 <| orB h (fun h7 h => ai (congrArg not h7) <| ai (rfl : (v0_5 : Int) = (v0_5 : Int)) <| ai (map_get ePolicy h4) <| ai (map_len (I) y3.Names) <| orP h (fun h8 h => ai (decide_eq_true h8) <| L h) (fun h8 h => ai (decide_eq_false h8) <| sum2 h (fun ya_10 lp11 h => have lp11 := LL_R_checkPolicies_1 a0 a1 v0_5 0 _ lp11; ai lp11 <| L h) (fun yb_10 lp11 h => have lp11 := LL_R_checkPolicies_1 a0 a1 v0_5 0 _ lp11; ai lp11 <| sum2 h (fun ya_13 lp14 h => have lp14 := LL_R_checkPolicies_2 a0 a1 v0_5 1 _ lp14; ai lp14 <| L h) (fun yb_13 lp14 h => have lp14 := LL_R_checkPolicies_2 a0 a1 v0_5 1 _ lp14; ai lp14 <| asrtP h fun w15 h => ai w15 <| L h)))) (fun h7 h => ai (congrArg not h7) <| L h)) (fun h2 h => ai (decide_eq_false h2) <| L h)) (by kernel_rfl)
theorem LL_R_checkPolicies_0 (a0 : Actors) (a1 : (List Policy)) (v : Nat) (x : (Unit ⊕ (Unit ⊕ (Unit ⊕ (Nat × Bool))))) (h : lp (fun v => B_R_checkPolicies_0 a0 a1 v) v = some x) : lpAt G Ω0 E0 c23_0 (S_R_checkPolicies_0 a0 a1 v) = some (X_R_checkPolicies_0 a0 a1 x) :=
  lp_lift c23_0 (S_R_checkPolicies_0 a0 a1) (X_R_checkPolicies_0 a0 a1) (fun _ => rfl) (fun v o h => LB_R_checkPolicies_0 a0 a1 v o h) h
abbrev Y_R_checkPolicies (a0 : Actors) (a1 : (List Policy)) (r : Int) : AEnd × HP := (.ret (I r), H0)
abbrev O_R_checkPolicies (a0 : Actors) (a1 : (List Policy)) (r : Int) : Prop := call G Ω0 E0 23 [(.a [(I a0.Many), (.l 53 (a0.Grants.map eGrant))]), (.l 61 (a1.map ePolicy))] H0 = some (Y_R_checkPolicies a0 a1 r)
noncomputable def F_R_checkPolicies (a0 : Actors) (a1 : (List Policy)) : Option Int :=
  if 4 < (a1.length : Int) then
    some 2
  else
    (lp (fun v => B_R_checkPolicies_0 a0 a1 v) 0).bind fun (x2 : (Unit ⊕ (Unit ⊕ (Unit ⊕ (Nat × Bool))))) => match x2 with
    | .inl ya_3 =>
      some 2
    | .inr (.inl yb_3) =>
      some 5
    | .inr (.inr (.inl yc_3)) =>
      some 4
    | .inr (.inr (.inr yd_3)) =>
      some 0
theorem lift_R_checkPolicies (a0 : Actors) (a1 : (List Policy)) (r : Int) (h : F_R_checkPolicies a0 a1 = some r) : O_R_checkPolicies a0 a1 r :=
  have L := fun {a} => lY (Y := Y_R_checkPolicies a0 a1) (a := a) (r := r)
  callT G23 (ao (.i (a1.length : Int)) <| AT.or (bt <| AT.nil) (bf <| AT.or (AT.ex fun (ya_3 : Unit) => ao (.lp .ret ⟨[(4, (I 2))], [], H0⟩) <| AT.nil) (AT.or (AT.ex fun (yb_3 : Unit) => ao (.lp .ret ⟨[(4, (I 5))], [], H0⟩) <| AT.nil) (AT.or (AT.ex fun (yc_3 : Unit) => ao (.lp .ret ⟨[(4, (I 4))], [], H0⟩) <| AT.nil) (AT.ex fun (yd_3 : (Nat × Bool)) => ao (.lp (.ex 0) ⟨[(1, (.l 61 (a1.map ePolicy))), (2, (.p ⟨0, 2⟩ 0)), (5, (I (yd_3.1 : Int))), (14, (.b yd_3.2))], [(2, [(I a0.Many), (.l 53 (a0.Grants.map eGrant))])], H0⟩) <| AT.nil))))) (ai tt <| ai (map_len ePolicy a1) <| orP h (fun h1 h => ai (decide_eq_true h1) <| L h) (fun h1 h => ai (decide_eq_false h1) <| sum4 h (fun ya_3 lp4 h => have lp4 := LL_R_checkPolicies_0 a0 a1 0 _ lp4; ai lp4 <| L h) (fun yb_3 lp4 h => have lp4 := LL_R_checkPolicies_0 a0 a1 0 _ lp4; ai lp4 <| L h) (fun yc_3 lp4 h => have lp4 := LL_R_checkPolicies_0 a0 a1 0 _ lp4; ai lp4 <| L h) (fun yd_3 lp4 h => have lp4 := LL_R_checkPolicies_0 a0 a1 0 _ lp4; ai lp4 <| L h))) (by kernel_rfl)
abbrev Y_R_CheckLabel (a0 : Actors) (a1 : Label) (r : Int) : AEnd × HP := (.ret (I r), H0)
abbrev O_R_CheckLabel (a0 : Actors) (a1 : Label) (r : Int) : Prop := call G Ω0 E0 7 [(.a [(I a0.Many), (.l 53 (a0.Grants.map eGrant))]), (.a [(.l 61 (a1.Read.map ePolicy)), (.l 61 (a1.Write.map ePolicy))])] H0 = some (Y_R_CheckLabel a0 a1 r)
noncomputable def F_R_CheckLabel (a0 : Actors) (a1 : Label) : Option Int :=
  (F_R_checkPolicies a0 a1.Read).bind fun (r1 : Int) =>
  if (r1 == 0) = true then
    (F_R_checkPolicies a0 a1.Write).bind fun (r4 : Int) =>
    some r4
  else
    some r1
theorem lift_R_CheckLabel (a0 : Actors) (a1 : Label) (r : Int) (h : F_R_CheckLabel a0 a1 = some r) : O_R_CheckLabel a0 a1 r :=
  have L := fun {a} => lY (Y := Y_R_CheckLabel a0 a1) (a := a) (r := r)
  callT G7 (bt <| bt <| AT.ex fun (r1 : Int) => ao (.v (I r1)) <| AT.or (bt <| bt <| bt <| AT.ex fun (r4 : Int) => ao (.v (I r4)) <| AT.nil) (bf <| AT.nil)) (ai tt <| ai tt <| ai (rfl : Z0) <| ai (rfl : Z0) <| exB h fun r1 ek2 h => have ek2 := lift_R_checkPolicies a0 a1.Read _ ek2; ai ek2 <| orB h (fun h3 h => ai h3 <| ai (rfl : Z0) <| ai (rfl : Z0) <| exB h fun r4 ek5 h => have ek5 := lift_R_checkPolicies a0 a1.Write _ ek5; ai ek5 <| L h) (fun h3 h => ai h3 <| L h)) (by kernel_rfl)
noncomputable def B_R_ActsFor_1 (a0 : Actors) (a2 : Int) (v0_8 : Nat) (v1_7 : (List Bool)) (v1_9 : Nat) : Option (((List Bool) × Nat) ⊕ ((List Bool) × Nat × Bool)) :=
  if (v1_9 : Int) < (a0.Grants.length : Int) then
    (a0.Grants[v1_9]?).bind fun (y10 : Grant) =>
    (natI y10.Who).bind fun (j12 : Nat) =>
    (v1_7[j12]?).bind fun (y14 : Bool) =>
    if y14 = true then
      (natI y10.For).bind fun (j17 : Nat) =>
      (v1_7[j17]?).bind fun (y19 : Bool) =>
      if IntKind.i64.wrap ((v1_9 : Int) + 1) = ((v1_9 + 1 : Nat) : Int) then
        some (.inl (v1_7.set j17 true, v1_9 + 1))
      else none
    else
      if IntKind.i64.wrap ((v1_9 : Int) + 1) = ((v1_9 + 1 : Nat) : Int) then
        some (.inl (v1_7, v1_9 + 1))
      else none
  else
    some (.inr (v1_7, v1_9, decide ((v1_9 : Int) < (a0.Grants.length : Int))))
abbrev S_R_ActsFor_1 (a0 : Actors) (a2 : Int) (v0_8 : Nat) (v : ((List Bool) × Nat)) : St := ⟨[(2, (I a2)), (3, (.p ⟨0, 3⟩ 0)), (7, (.o 4 (v.1.map AV.b))), (8, (I (v0_8 : Int))), (9, (I (v.2 : Int)))], [(3, [(I a0.Many), (.l 53 (a0.Grants.map eGrant))])], H0⟩
abbrev X_R_ActsFor_1 (a0 : Actors) (a2 : Int) (v0_8 : Nat) (x : ((List Bool) × Nat × Bool)) : AExit × St := ((.ex 2), ⟨[(2, (I a2)), (3, (.p ⟨0, 3⟩ 0)), (7, (.o 4 (x.1.map AV.b))), (8, (I (v0_8 : Int))), (9, (I (x.2.1 : Int))), (26, (.b x.2.2))], [(3, [(I a0.Many), (.l 53 (a0.Grants.map eGrant))])], H0⟩)
theorem LB_R_ActsFor_1 (a0 : Actors) (a2 : Int) (v0_8 : Nat) (v1_7 : (List Bool)) (v1_9 : Nat) (o : ((List Bool) × Nat) ⊕ ((List Bool) × Nat × Bool)) (h : B_R_ActsFor_1 a0 a2 v0_8 v1_7 v1_9 = some o) : bodyOK E0 c33_1 (S_R_ActsFor_1 a0 a2 v0_8) (X_R_ActsFor_1 a0 a2 v0_8) (v1_7, v1_9) o :=
  have L := fun {a} => lY (Y := bodyY (S_R_ActsFor_1 a0 a2 v0_8) (X_R_ActsFor_1 a0 a2 v0_8)) (a := a) (r := o)
  bodyT (bt <| ao (.i (a0.Grants.length : Int)) <| AT.or (bt <| bt <| ao (.n v1_9) <| AT.ex fun (y10 : Grant) => ao (.v (.a [(I y10.Who), (I y10.For)])) <| AT.ex fun (j12 : Nat) => ao (.n j12) <| AT.ex fun (y14 : Bool) => ao (.v (.b y14)) <| ao (.v (.b y14)) <| AT.or (bt <| bt <| ao (.n v1_9) <| ao (.v (.a [(I y10.Who), (I y10.For)])) <| AT.ex fun (j17 : Nat) => ao (.n j17) <| AT.ex fun (y19 : Bool) => ao (.v (.b y19)) <| ao (.v (.b y19)) <| ao (.l ((v1_7.set j17 true).map AV.b)) <| ao (.i ((v1_9 + 1 : Nat) : Int)) <| AT.nil) (bf <| ao (.i ((v1_9 + 1 : Nat) : Int)) <| AT.nil)) (bf <| AT.nil)) (ai (rfl : Z0) <| ai (map_len eGrant a0.Grants) <| orP h (fun h9 h => ai (decide_eq_true h9) <| ai (rfl : Z0) <| ai (rfl : (v1_9 : Int) = (v1_9 : Int)) <| exB h fun y10 h11 h => ai (map_get eGrant h11) <| natE h fun j12 h13 h => ai h13 <| exB h fun y14 h15 h => ai (map_get AV.b h15) <| ai (map_get AV.b h15) <| orB h (fun h16 h => ai h16 <| ai (rfl : Z0) <| ai (rfl : (v1_9 : Int) = (v1_9 : Int)) <| ai (map_get eGrant h11) <| natE h fun j17 h18 h => ai h18 <| exB h fun y19 h20 h => ai (map_get AV.b h20) <| ai ff <| ai (map_get AV.b h20) <| ai (map_set .. : (v1_7.map AV.b).set j17 (.b true) = (v1_7.set j17 true).map AV.b) <| asrtP h fun w21 h => ai w21 <| L h) (fun h16 h => ai h16 <| asrtP h fun w17 h => ai w17 <| L h)) (fun h9 h => ai (decide_eq_false h9) <| L h)) (by kernel_rfl)
theorem LL_R_ActsFor_1 (a0 : Actors) (a2 : Int) (v0_8 : Nat) (v : ((List Bool) × Nat)) (x : ((List Bool) × Nat × Bool)) (h : lp (fun v => B_R_ActsFor_1 a0 a2 v0_8 v.1 v.2) v = some x) : lpAt G Ω0 E0 c33_1 (S_R_ActsFor_1 a0 a2 v0_8 v) = some (X_R_ActsFor_1 a0 a2 v0_8 x) :=
  lp_lift c33_1 (S_R_ActsFor_1 a0 a2 v0_8) (X_R_ActsFor_1 a0 a2 v0_8) (fun _ => rfl) (fun v o h => LB_R_ActsFor_1 a0 a2 v0_8 v.1 v.2 o h) h
noncomputable def B_R_ActsFor_0 (a0 : Actors) (a2 : Int) (v0_7 : (List Bool)) (v0_8 : Nat) : Option (((List Bool) × Nat) ⊕ ((List Bool) × Nat × Bool)) :=
  if (v0_8 : Int) < a0.Many then
    (lp (fun v => B_R_ActsFor_1 a0 a2 v0_8 v.1 v.2) (v0_7, 0)).bind fun (x9 : ((List Bool) × Nat × Bool)) =>
    if IntKind.i64.wrap ((v0_8 : Int) + 1) = ((v0_8 + 1 : Nat) : Int) then
      some (.inl (x9.1, v0_8 + 1))
    else none
  else
    some (.inr (v0_7, v0_8, decide ((v0_8 : Int) < a0.Many)))
abbrev S_R_ActsFor_0 (a0 : Actors) (a2 : Int) (v : ((List Bool) × Nat)) : St := ⟨[(2, (I a2)), (3, (.p ⟨0, 3⟩ 0)), (7, (.o 4 (v.1.map AV.b))), (8, (I (v.2 : Int)))], [(3, [(I a0.Many), (.l 53 (a0.Grants.map eGrant))])], H0⟩
abbrev X_R_ActsFor_0 (a0 : Actors) (a2 : Int) (x : ((List Bool) × Nat × Bool)) : AExit × St := ((.ex 0), ⟨[(2, (I a2)), (3, (.p ⟨0, 3⟩ 0)), (7, (.o 4 (x.1.map AV.b))), (8, (I (x.2.1 : Int))), (19, (.b x.2.2))], [(3, [(I a0.Many), (.l 53 (a0.Grants.map eGrant))])], H0⟩)
theorem LB_R_ActsFor_0 (a0 : Actors) (a2 : Int) (v0_7 : (List Bool)) (v0_8 : Nat) (o : ((List Bool) × Nat) ⊕ ((List Bool) × Nat × Bool)) (h : B_R_ActsFor_0 a0 a2 v0_7 v0_8 = some o) : bodyOK E0 c33_0 (S_R_ActsFor_0 a0 a2) (X_R_ActsFor_0 a0 a2) (v0_7, v0_8) o :=
  have L := fun {a} => lY (Y := bodyY (S_R_ActsFor_0 a0 a2) (X_R_ActsFor_0 a0 a2)) (a := a) (r := o)
  bodyT (bt <| AT.or (bt <| AT.ex fun (x9 : ((List Bool) × Nat × Bool)) => ao (.lp (.ex 2) ⟨[(2, (I a2)), (3, (.p ⟨0, 3⟩ 0)), (7, (.o 4 (x9.1.map AV.b))), (8, (I (v0_8 : Int))), (9, (I (x9.2.1 : Int))), (26, (.b x9.2.2))], [(3, [(I a0.Many), (.l 53 (a0.Grants.map eGrant))])], H0⟩) <| ao (.i ((v0_8 + 1 : Nat) : Int)) <| AT.nil) (bf <| AT.nil)) (ai (rfl : Z0) <| orP h (fun h8 h => ai (decide_eq_true h8) <| exB h fun x9 lp10 h => have lp10 := LL_R_ActsFor_1 a0 a2 v0_8 (v0_7, 0) _ lp10; ai lp10 <| asrtP h fun w11 h => ai w11 <| L h) (fun h8 h => ai (decide_eq_false h8) <| L h)) (by kernel_rfl)
theorem LL_R_ActsFor_0 (a0 : Actors) (a2 : Int) (v : ((List Bool) × Nat)) (x : ((List Bool) × Nat × Bool)) (h : lp (fun v => B_R_ActsFor_0 a0 a2 v.1 v.2) v = some x) : lpAt G Ω0 E0 c33_0 (S_R_ActsFor_0 a0 a2 v) = some (X_R_ActsFor_0 a0 a2 x) :=
  lp_lift c33_0 (S_R_ActsFor_0 a0 a2) (X_R_ActsFor_0 a0 a2) (fun _ => rfl) (fun v o h => LB_R_ActsFor_0 a0 a2 v.1 v.2 o h) h
abbrev Y_R_ActsFor (a0 : Actors) (a1 : Int) (a2 : Int) (r : Bool) : AEnd × HP := (.ret (.b r), H0)
abbrev O_R_ActsFor (a0 : Actors) (a1 : Int) (a2 : Int) (r : Bool) : Prop := call G Ω0 E0 33 [(.a [(I a0.Many), (.l 53 (a0.Grants.map eGrant))]), (I a1), (I a2)] H0 = some (Y_R_ActsFor a0 a1 a2 r)
noncomputable def F_R_ActsFor (a0 : Actors) (a1 : Int) (a2 : Int) : Option Bool :=
  (natI a0.Many).bind fun (j1 : Nat) =>
  if j1 ≤ 1000000000 then
    (natI a1).bind fun (j4 : Nat) =>
    ((List.replicate j1 false)[j4]?).bind fun (y6 : Bool) =>
    (lp (fun v => B_R_ActsFor_0 a0 a2 v.1 v.2) (((List.replicate j1 false).set j4 true), 0)).bind fun (x8 : ((List Bool) × Nat × Bool)) =>
    (natI a2).bind fun (j10 : Nat) =>
    (x8.1[j10]?).bind fun (y12 : Bool) =>
    some y12
  else none
theorem lift_R_ActsFor (a0 : Actors) (a1 : Int) (a2 : Int) (r : Bool) (h : F_R_ActsFor a0 a1 a2 = some r) : O_R_ActsFor a0 a1 a2 r :=
  have L := fun {a} => lY (Y := Y_R_ActsFor a0 a1 a2) (a := a) (r := r)
  callT G33 (bt <| AT.ex fun (j1 : Nat) => ao (.n j1) <| ao (.l ((List.replicate j1 false).map AV.b)) <| AT.ex fun (j4 : Nat) => ao (.n j4) <| AT.ex fun (y6 : Bool) => ao (.v (.b y6)) <| ao (.v (.b y6)) <| ao (.l (((List.replicate j1 false).set j4 true).map AV.b)) <| AT.ex fun (x8 : ((List Bool) × Nat × Bool)) => ao (.lp (.ex 0) ⟨[(2, (I a2)), (3, (.p ⟨0, 3⟩ 0)), (7, (.o 4 (x8.1.map AV.b))), (8, (I (x8.2.1 : Int))), (19, (.b x8.2.2))], [(3, [(I a0.Many), (.l 53 (a0.Grants.map eGrant))])], H0⟩) <| AT.ex fun (j10 : Nat) => ao (.n j10) <| AT.ex fun (y12 : Bool) => ao (.v (.b y12)) <| ao (.v (.b y12)) <| AT.nil) (ai tt <| ai (rfl : Z0) <| natE h fun j1 h2 h => ai h2 <| asrtP h fun h3 h => ai ((room1 h3 (by decide)) : j1 * 1 ≤ 140737488355328) <| ai ((room2 h3) : j1 ≤ maxLen) <| ai ((List.map_replicate ..).symm : List.replicate j1 (.b false) = (List.replicate j1 false).map AV.b) <| natE h fun j4 h5 h => ai h5 <| exB h fun y6 h7 h => ai (map_get AV.b h7) <| ai ff <| ai (map_get AV.b h7) <| ai (map_set .. : ((List.replicate j1 false).map AV.b).set j4 (.b true) = ((List.replicate j1 false).set j4 true).map AV.b) <| exB h fun x8 lp9 h => have lp9 := LL_R_ActsFor_0 a0 a2 (((List.replicate j1 false).set j4 true), 0) _ lp9; ai lp9 <| natE h fun j10 h11 h => ai h11 <| exB h fun y12 h13 h => ai (map_get AV.b h13) <| ai (map_get AV.b h13) <| L h) (by kernel_rfl)
noncomputable def B_R_may_1 (a0 : Actors) (a1 : Int) (a2 : (List Policy)) (v0_7 : Nat) (v1_8 : Bool) (v1_9 : Nat) : Option ((Bool × Nat) ⊕ (Bool × Nat × Bool)) :=
  (a2[v0_7]?).bind fun (y6 : Policy) =>
  if (v1_9 : Int) < (y6.Names.length : Int) then
    if v1_8 = true then
      if IntKind.i64.wrap ((v1_9 : Int) + 1) = ((v1_9 + 1 : Nat) : Int) then
        some (.inl (true, v1_9 + 1))
      else none
    else
      (y6.Names[v1_9]?).bind fun (y10 : Int) =>
      (F_R_ActsFor a0 a1 y10).bind fun (r12 : Bool) =>
      if IntKind.i64.wrap ((v1_9 : Int) + 1) = ((v1_9 + 1 : Nat) : Int) then
        some (.inl (r12, v1_9 + 1))
      else none
  else
    some (.inr (v1_8, v1_9, decide ((v1_9 : Int) < (y6.Names.length : Int))))
abbrev S_R_may_1 (a0 : Actors) (a1 : Int) (a2 : (List Policy)) (v0_7 : Nat) (v : (Bool × Nat)) : St := ⟨[(1, (I a1)), (2, (.l 61 (a2.map ePolicy))), (3, (.p ⟨0, 3⟩ 0)), (7, (I (v0_7 : Int))), (8, (.b v.1)), (9, (I (v.2 : Int)))], [(3, [(I a0.Many), (.l 53 (a0.Grants.map eGrant))])], H0⟩
abbrev X_R_may_1 (a0 : Actors) (a1 : Int) (a2 : (List Policy)) (v0_7 : Nat) (x : (Bool × Nat × Bool)) : AExit × St := ((.ex 2), ⟨[(1, (I a1)), (2, (.l 61 (a2.map ePolicy))), (3, (.p ⟨0, 3⟩ 0)), (7, (I (v0_7 : Int))), (8, (.b x.1)), (9, (I (x.2.1 : Int))), (31, (.b x.2.2))], [(3, [(I a0.Many), (.l 53 (a0.Grants.map eGrant))])], H0⟩)
theorem LB_R_may_1 (a0 : Actors) (a1 : Int) (a2 : (List Policy)) (v0_7 : Nat) (v1_8 : Bool) (v1_9 : Nat) (o : (Bool × Nat) ⊕ (Bool × Nat × Bool)) (h : B_R_may_1 a0 a1 a2 v0_7 v1_8 v1_9 = some o) : bodyOK E0 c24_1 (S_R_may_1 a0 a1 a2 v0_7) (X_R_may_1 a0 a1 a2 v0_7) (v1_8, v1_9) o :=
  have L := fun {a} => lY (Y := bodyY (S_R_may_1 a0 a1 a2 v0_7) (X_R_may_1 a0 a1 a2 v0_7)) (a := a) (r := o)
  bodyT (ao (.n v0_7) <| AT.ex fun (y6 : Policy) => ao (.v (.a [(I y6.Owner), (.l 3 (y6.Names.map (I)))])) <| ao (.i (y6.Names.length : Int)) <| AT.or (bt <| AT.or (bf <| bf <| bf <| bf <| bf <| bf <| bf <| bf <| bf <| bf <| bf <| bt <| ao (.i ((v1_9 + 1 : Nat) : Int)) <| AT.nil) (bt <| bt <| bt <| bt <| bt <| bt <| ao (.n v0_7) <| ao (.v (.a [(I y6.Owner), (.l 3 (y6.Names.map (I)))])) <| bt <| bt <| bt <| bt <| ao (.n v1_9) <| AT.ex fun (y10 : Int) => ao (.v (I y10)) <| bt <| bt <| AT.ex fun (r12 : Bool) => ao (.v (.b r12)) <| bf <| ao (.i ((v1_9 + 1 : Nat) : Int)) <| AT.nil)) (bf <| AT.nil)) (ai (rfl : (v0_7 : Int) = (v0_7 : Int)) <| exB h fun y6 h7 h => ai (map_get ePolicy h7) <| ai (map_len (I) y6.Names) <| orP h (fun h8 h => ai (decide_eq_true h8) <| ai tt <| ai tt <| ai tt <| orB h (fun h9 h => ai (g0 h9) <| ai (g0 h9) <| ai (g0 h9) <| ai (g0 h9) <| ai (g0 h9) <| ai (g0 h9) <| ai (g0 h9) <| ai (g0 h9) <| ai (g0 h9) <| ai (g0 h9) <| ai (g0 h9) <| ai h9 <| asrtP h fun w10 h => ai w10 <| L h) (fun h9 h => ai (g0 h9) <| ai (rfl : Z0) <| ai tt <| ai (g0 h9) <| ai tt <| ai (g0 h9) <| ai tt <| ai (g0 h9) <| ai tt <| ai (g0 h9) <| ai (rfl : (v0_7 : Int) = (v0_7 : Int)) <| ai (map_get ePolicy h7) <| ai tt <| ai (g0 h9) <| ai tt <| ai (g0 h9) <| ai tt <| ai (g0 h9) <| ai tt <| ai (g0 h9) <| ai (rfl : (v1_9 : Int) = (v1_9 : Int)) <| exB h fun y10 h11 h => ai (map_get (I) h11) <| ai tt <| ai (g0 h9) <| ai tt <| ai (g0 h9) <| exB h fun r12 ek13 h => have ek13 := lift_R_ActsFor a0 a1 y10 _ ek13; ai ek13 <| ai h9 <| asrtP h fun w14 h => ai w14 <| L h)) (fun h8 h => ai (decide_eq_false h8) <| L h)) (by kernel_rfl)
theorem LL_R_may_1 (a0 : Actors) (a1 : Int) (a2 : (List Policy)) (v0_7 : Nat) (v : (Bool × Nat)) (x : (Bool × Nat × Bool)) (h : lp (fun v => B_R_may_1 a0 a1 a2 v0_7 v.1 v.2) v = some x) : lpAt G Ω0 E0 c24_1 (S_R_may_1 a0 a1 a2 v0_7 v) = some (X_R_may_1 a0 a1 a2 v0_7 x) :=
  lp_lift c24_1 (S_R_may_1 a0 a1 a2 v0_7) (X_R_may_1 a0 a1 a2 v0_7) (fun _ => rfl) (fun v o h => LB_R_may_1 a0 a1 a2 v0_7 v.1 v.2 o h) h
noncomputable def B_R_may_0 (a0 : Actors) (a1 : Int) (a2 : (List Policy)) (v0_7 : Nat) : Option (Nat ⊕ (Unit ⊕ (Nat × Bool))) :=
  if (v0_7 : Int) < (a2.length : Int) then
    (a2[v0_7]?).bind fun (y2 : Policy) =>
    (F_R_ActsFor a0 a1 y2.Owner).bind fun (r4 : Bool) =>
    (lp (fun v => B_R_may_1 a0 a1 a2 v0_7 v.1 v.2) (r4, 0)).bind fun (x6 : (Bool × Nat × Bool)) =>
    if x6.1 = true then
      if IntKind.i64.wrap ((v0_7 : Int) + 1) = ((v0_7 + 1 : Nat) : Int) then
        some (.inl (v0_7 + 1))
      else none
    else
      some (.inr (.inl ()))
  else
    some (.inr (.inr (v0_7, decide ((v0_7 : Int) < (a2.length : Int)))))
abbrev S_R_may_0 (a0 : Actors) (a1 : Int) (a2 : (List Policy)) (v : Nat) : St := ⟨[(1, (I a1)), (2, (.l 61 (a2.map ePolicy))), (3, (.p ⟨0, 3⟩ 0)), (7, (I (v : Int)))], [(3, [(I a0.Many), (.l 53 (a0.Grants.map eGrant))])], H0⟩
abbrev X_R_may_0 (a0 : Actors) (a1 : Int) (a2 : (List Policy)) (x : (Unit ⊕ (Nat × Bool))) : AExit × St := match x with | .inl () => (.ret, ⟨[(6, (.b false))], [], H0⟩) | .inr (z1, z2) => ((.ex 0), ⟨[(1, (I a1)), (2, (.l 61 (a2.map ePolicy))), (3, (.p ⟨0, 3⟩ 0)), (7, (I (z1 : Int))), (13, (.b z2))], [(3, [(I a0.Many), (.l 53 (a0.Grants.map eGrant))])], H0⟩)
theorem LB_R_may_0 (a0 : Actors) (a1 : Int) (a2 : (List Policy)) (v0_7 : Nat) (o : Nat ⊕ (Unit ⊕ (Nat × Bool))) (h : B_R_may_0 a0 a1 a2 v0_7 = some o) : bodyOK E0 c24_0 (S_R_may_0 a0 a1 a2) (X_R_may_0 a0 a1 a2) v0_7 o :=
  have L := fun {a} => lY (Y := bodyY (S_R_may_0 a0 a1 a2) (X_R_may_0 a0 a1 a2)) (a := a) (r := o)
  bodyT (ao (.i (a2.length : Int)) <| AT.or (bt <| bt <| ao (.n v0_7) <| AT.ex fun (y2 : Policy) => ao (.v (.a [(I y2.Owner), (.l 3 (y2.Names.map (I)))])) <| AT.ex fun (r4 : Bool) => ao (.v (.b r4)) <| AT.ex fun (x6 : (Bool × Nat × Bool)) => ao (.lp (.ex 2) ⟨[(1, (I a1)), (2, (.l 61 (a2.map ePolicy))), (3, (.p ⟨0, 3⟩ 0)), (7, (I (v0_7 : Int))), (8, (.b x6.1)), (9, (I (x6.2.1 : Int))), (31, (.b x6.2.2))], [(3, [(I a0.Many), (.l 53 (a0.Grants.map eGrant))])], H0⟩) <| AT.or (bf <| ao (.i ((v0_7 + 1 : Nat) : Int)) <| AT.nil) (bt <| AT.nil)) (bf <| AT.nil)) (ai (map_len ePolicy a2) <| orP h (fun h1 h => ai (decide_eq_true h1) <| ai tt <| ai (rfl : Z0) <| ai tt <| ai tt <| ai tt <| ai tt <| ai (rfl : (v0_7 : Int) = (v0_7 : Int)) <| exB h fun y2 h3 h => ai (map_get ePolicy h3) <| ai tt <| ai tt <| ai tt <| exB h fun r4 ek5 h => have ek5 := lift_R_ActsFor a0 a1 y2.Owner _ ek5; ai ek5 <| exB h fun x6 lp7 h => have lp7 := LL_R_may_1 a0 a1 a2 v0_7 (r4, 0) _ lp7; ai lp7 <| orB h (fun h8 h => ai (congrArg not h8) <| asrtP h fun w9 h => ai w9 <| L h) (fun h8 h => ai (congrArg not h8) <| L h)) (fun h1 h => ai (decide_eq_false h1) <| L h)) (by kernel_rfl)
theorem LL_R_may_0 (a0 : Actors) (a1 : Int) (a2 : (List Policy)) (v : Nat) (x : (Unit ⊕ (Nat × Bool))) (h : lp (fun v => B_R_may_0 a0 a1 a2 v) v = some x) : lpAt G Ω0 E0 c24_0 (S_R_may_0 a0 a1 a2 v) = some (X_R_may_0 a0 a1 a2 x) :=
  lp_lift c24_0 (S_R_may_0 a0 a1 a2) (X_R_may_0 a0 a1 a2) (fun _ => rfl) (fun v o h => LB_R_may_0 a0 a1 a2 v o h) h
abbrev Y_R_may (a0 : Actors) (a1 : Int) (a2 : (List Policy)) (r : Bool) : AEnd × HP := (.ret (.b r), H0)
abbrev O_R_may (a0 : Actors) (a1 : Int) (a2 : (List Policy)) (r : Bool) : Prop := call G Ω0 E0 24 [(.a [(I a0.Many), (.l 53 (a0.Grants.map eGrant))]), (I a1), (.l 61 (a2.map ePolicy))] H0 = some (Y_R_may a0 a1 a2 r)
noncomputable def F_R_may (a0 : Actors) (a1 : Int) (a2 : (List Policy)) : Option Bool :=
  (lp (fun v => B_R_may_0 a0 a1 a2 v) 0).bind fun (x1 : (Unit ⊕ (Nat × Bool))) => match x1 with
  | .inl ya_2 =>
    some false
  | .inr yb_2 =>
    some true
theorem lift_R_may (a0 : Actors) (a1 : Int) (a2 : (List Policy)) (r : Bool) (h : F_R_may a0 a1 a2 = some r) : O_R_may a0 a1 a2 r :=
  have L := fun {a} => lY (Y := Y_R_may a0 a1 a2) (a := a) (r := r)
  callT G24 (AT.or (AT.ex fun (ya_2 : Unit) => ao (.lp .ret ⟨[(6, (.b false))], [], H0⟩) <| AT.nil) (AT.ex fun (yb_2 : (Nat × Bool)) => ao (.lp (.ex 0) ⟨[(1, (I a1)), (2, (.l 61 (a2.map ePolicy))), (3, (.p ⟨0, 3⟩ 0)), (7, (I (yb_2.1 : Int))), (13, (.b yb_2.2))], [(3, [(I a0.Many), (.l 53 (a0.Grants.map eGrant))])], H0⟩) <| AT.nil)) (ai tt <| sum2 h (fun ya_2 lp3 h => have lp3 := LL_R_may_0 a0 a1 a2 0 _ lp3; ai lp3 <| L h) (fun yb_2 lp3 h => have lp3 := LL_R_may_0 a0 a1 a2 0 _ lp3; ai lp3 <| L h)) (by kernel_rfl)
noncomputable def B_R_LevelOf_0 (a0 : Actors) (a1 : Label) (v0_6 : Nat) (v0_5_0 : (List Bool)) (v0_5_1 : (List Bool)) : Option ((Nat × (List Bool) × (List Bool)) ⊕ (Nat × Bool × (List Bool) × (List Bool))) :=
  if (v0_6 : Int) < a0.Many then
    (F_R_may a0 (v0_6 : Int) a1.Read).bind fun (r2 : Bool) =>
    if v0_5_0.length + [r2].length ≤ 1000000000 then
      (F_R_may a0 (v0_6 : Int) a1.Write).bind fun (r5 : Bool) =>
      if v0_5_1.length + [r5].length ≤ 1000000000 then
        if IntKind.i64.wrap ((v0_6 : Int) + 1) = ((v0_6 + 1 : Nat) : Int) then
          some (.inl (v0_6 + 1, v0_5_0 ++ [r2], v0_5_1 ++ [r5]))
        else none
      else none
    else none
  else
    some (.inr (v0_6, decide ((v0_6 : Int) < a0.Many), v0_5_0, v0_5_1))
abbrev S_R_LevelOf_0 (a0 : Actors) (a1 : Label) (v : (Nat × (List Bool) × (List Bool))) : St := ⟨[(2, (.p ⟨0, 2⟩ 0)), (3, (.p ⟨0, 3⟩ 0)), (4, (.p ⟨0, 4⟩ 0)), (5, (.p ⟨0, 5⟩ 0)), (6, (I (v.1 : Int)))], [(2, [(I a0.Many), (.l 53 (a0.Grants.map eGrant))]), (3, [(.l 61 (a1.Read.map ePolicy)), (.l 61 (a1.Write.map ePolicy))]), (4, [(.l 4 (([] : List Bool).map AV.b)), (.l 4 (([] : List Bool).map AV.b))]), (5, [(.o 4 (v.2.1.map AV.b)), (.o 4 (v.2.2.map AV.b))])], H0⟩
abbrev X_R_LevelOf_0 (a0 : Actors) (a1 : Label) (x : (Nat × Bool × (List Bool) × (List Bool))) : AExit × St := ((.ex 0), ⟨[(2, (.p ⟨0, 2⟩ 0)), (3, (.p ⟨0, 3⟩ 0)), (4, (.p ⟨0, 4⟩ 0)), (5, (.p ⟨0, 5⟩ 0)), (6, (I (x.1 : Int))), (10, (.b x.2.1))], [(2, [(I a0.Many), (.l 53 (a0.Grants.map eGrant))]), (3, [(.l 61 (a1.Read.map ePolicy)), (.l 61 (a1.Write.map ePolicy))]), (4, [(.l 4 (([] : List Bool).map AV.b)), (.l 4 (([] : List Bool).map AV.b))]), (5, [(.o 4 (x.2.2.1.map AV.b)), (.o 4 (x.2.2.2.map AV.b))])], H0⟩)
theorem LB_R_LevelOf_0 (a0 : Actors) (a1 : Label) (v0_6 : Nat) (v0_5_0 : (List Bool)) (v0_5_1 : (List Bool)) (o : (Nat × (List Bool) × (List Bool)) ⊕ (Nat × Bool × (List Bool) × (List Bool))) (h : B_R_LevelOf_0 a0 a1 v0_6 v0_5_0 v0_5_1 = some o) : bodyOK E0 c8_0 (S_R_LevelOf_0 a0 a1) (X_R_LevelOf_0 a0 a1) (v0_6, v0_5_0, v0_5_1) o :=
  have L := fun {a} => lY (Y := bodyY (S_R_LevelOf_0 a0 a1) (X_R_LevelOf_0 a0 a1)) (a := a) (r := o)
  bodyT (bt <| AT.or (bt <| bt <| bt <| bt <| AT.ex fun (r2 : Bool) => ao (.v (.b r2)) <| ao (.l ([r2].map AV.b)) <| bt <| bt <| bt <| ao (.l ((v0_5_0 ++ [r2]).map AV.b)) <| bt <| bt <| bt <| bt <| bt <| AT.ex fun (r5 : Bool) => ao (.v (.b r5)) <| ao (.l ([r5].map AV.b)) <| bt <| bt <| bt <| ao (.l ((v0_5_1 ++ [r5]).map AV.b)) <| bt <| bt <| ao (.i ((v0_6 + 1 : Nat) : Int)) <| AT.nil) (bf <| AT.nil)) (ai (rfl : Z0) <| orP h (fun h1 h => ai (decide_eq_true h1) <| ai tt <| ai tt <| ai (rfl : Z0) <| ai tt <| ai (rfl : Z0) <| ai tt <| ai tt <| ai tt <| ai (rfl : Z0) <| ai tt <| exB h fun r2 ek3 h => have ek3 := lift_R_may a0 (v0_6 : Int) a1.Read _ ek3; ai ek3 <| ai tt <| ai (rfl : [(.b r2)] = [r2].map AV.b) <| ai tt <| ai ff <| ai (rfl : Z0) <| ai (rfl : Z0) <| ai (rfl : Z0) <| asrtP h fun h4 h => ai ((all_nc AV.b (n := 1) (fun _ => rfl) [r2]) : ([r2].map AV.b).all (fun e => e.nc == 1) = true) <| ai ((room3 h4 (by decide)) : ((v0_5_0.map AV.b).length + ([r2].map AV.b).length) * 1 ≤ 140737488355328) <| ai ((room4 h4) : (v0_5_0.map AV.b).length + ([r2].map AV.b).length ≤ maxLen) <| ai (List.map_append.symm : v0_5_0.map AV.b ++ [r2].map AV.b = (v0_5_0 ++ [r2]).map AV.b) <| ai ff <| ai (rfl : Z0) <| ai (rfl : Z0) <| ai tt <| ai tt <| ai (rfl : Z0) <| ai tt <| ai (rfl : Z0) <| ai tt <| ai tt <| ai tt <| ai (rfl : Z0) <| ai tt <| exB h fun r5 ek6 h => have ek6 := lift_R_may a0 (v0_6 : Int) a1.Write _ ek6; ai ek6 <| ai tt <| ai (rfl : [(.b r5)] = [r5].map AV.b) <| ai tt <| ai ff <| ai (rfl : Z0) <| ai (rfl : Z0) <| ai (rfl : Z0) <| asrtP h fun h7 h => ai ((all_nc AV.b (n := 1) (fun _ => rfl) [r5]) : ([r5].map AV.b).all (fun e => e.nc == 1) = true) <| ai ((room3 h7 (by decide)) : ((v0_5_1.map AV.b).length + ([r5].map AV.b).length) * 1 ≤ 140737488355328) <| ai ((room4 h7) : (v0_5_1.map AV.b).length + ([r5].map AV.b).length ≤ maxLen) <| ai (List.map_append.symm : v0_5_1.map AV.b ++ [r5].map AV.b = (v0_5_1 ++ [r5]).map AV.b) <| ai ff <| ai (rfl : Z0) <| ai (rfl : Z0) <| asrtP h fun w8 h => ai w8 <| L h) (fun h1 h => ai (decide_eq_false h1) <| L h)) (by kernel_rfl)
theorem LL_R_LevelOf_0 (a0 : Actors) (a1 : Label) (v : (Nat × (List Bool) × (List Bool))) (x : (Nat × Bool × (List Bool) × (List Bool))) (h : lp (fun v => B_R_LevelOf_0 a0 a1 v.1 v.2.1 v.2.2) v = some x) : lpAt G Ω0 E0 c8_0 (S_R_LevelOf_0 a0 a1 v) = some (X_R_LevelOf_0 a0 a1 x) :=
  lp_lift c8_0 (S_R_LevelOf_0 a0 a1) (X_R_LevelOf_0 a0 a1) (fun _ => rfl) (fun v o h => LB_R_LevelOf_0 a0 a1 v.1 v.2.1 v.2.2 o h) h
abbrev Y_R_LevelOf (a0 : Actors) (a1 : Label) (r : Level) : AEnd × HP := (.ret (.a [(.l 4 (r.Readers.map AV.b)), (.l 4 (r.Writers.map AV.b))]), H0)
abbrev O_R_LevelOf (a0 : Actors) (a1 : Label) (r : Level) : Prop := call G Ω0 E0 8 [(.a [(I a0.Many), (.l 53 (a0.Grants.map eGrant))]), (.a [(.l 61 (a1.Read.map ePolicy)), (.l 61 (a1.Write.map ePolicy))])] H0 = some (Y_R_LevelOf a0 a1 r)
noncomputable def F_R_LevelOf (a0 : Actors) (a1 : Label) : Option Level :=
  (lp (fun v => B_R_LevelOf_0 a0 a1 v.1 v.2.1 v.2.2) (0, ([] : List Bool), ([] : List Bool))).bind fun (x1 : (Nat × Bool × (List Bool) × (List Bool))) =>
  some (⟨x1.2.2.1, x1.2.2.2⟩ : Level)
theorem lift_R_LevelOf (a0 : Actors) (a1 : Label) (r : Level) (h : F_R_LevelOf a0 a1 = some r) : O_R_LevelOf a0 a1 r :=
  have L := fun {a} => lY (Y := Y_R_LevelOf a0 a1) (a := a) (r := r)
  callT G8 (bt <| bt <| bt <| bt <| AT.ex fun (x1 : (Nat × Bool × (List Bool) × (List Bool))) => ao (.lp (.ex 0) ⟨[(2, (.p ⟨0, 2⟩ 0)), (3, (.p ⟨0, 3⟩ 0)), (4, (.p ⟨0, 4⟩ 0)), (5, (.p ⟨0, 5⟩ 0)), (6, (I (x1.1 : Int))), (10, (.b x1.2.1))], [(2, [(I a0.Many), (.l 53 (a0.Grants.map eGrant))]), (3, [(.l 61 (a1.Read.map ePolicy)), (.l 61 (a1.Write.map ePolicy))]), (4, [(.l 4 (([] : List Bool).map AV.b)), (.l 4 (([] : List Bool).map AV.b))]), (5, [(.o 4 (x1.2.2.1.map AV.b)), (.o 4 (x1.2.2.2.map AV.b))])], H0⟩) <| bt <| bt <| bt <| bt <| bt <| bt <| bt <| AT.nil) (ai tt <| ai tt <| ai tt <| ai tt <| ai ff <| ai (rfl : Z0) <| ai (rfl : Z0) <| ai ff <| ai (rfl : Z0) <| ai (rfl : Z0) <| exB h fun x1 lp2 h => have lp2 := LL_R_LevelOf_0 a0 a1 (0, ([] : List Bool), ([] : List Bool)) _ lp2; ai lp2 <| ai ff <| ai (rfl : Z0) <| ai (rfl : Z0) <| ai ff <| ai (rfl : Z0) <| ai (rfl : Z0) <| ai (rfl : Z0) <| ai ff <| ai (rfl : Z0) <| ai tt <| ai (rfl : Z0) <| ai (rfl : Z0) <| L h) (by kernel_rfl)
noncomputable def B_R_SameBools_0 (a0 : (List Bool)) (a1 : (List Bool)) (v0_5 : Nat) : Option (Nat ⊕ (Unit ⊕ (Nat × Bool))) :=
  if (v0_5 : Int) < (a0.length : Int) then
    (a0[v0_5]?).bind fun (y3 : Bool) =>
    (a1[v0_5]?).bind fun (y5 : Bool) =>
    if (y3 == y5) = true then
      if IntKind.i64.wrap ((v0_5 : Int) + 1) = ((v0_5 + 1 : Nat) : Int) then
        some (.inl (v0_5 + 1))
      else none
    else
      some (.inr (.inl ()))
  else
    some (.inr (.inr (v0_5, decide ((v0_5 : Int) < (a0.length : Int)))))
abbrev S_R_SameBools_0 (a0 : (List Bool)) (a1 : (List Bool)) (v : Nat) : St := ⟨[(0, (.l 4 (a0.map AV.b))), (1, (.l 4 (a1.map AV.b))), (5, (I (v : Int)))], [], H0⟩
abbrev X_R_SameBools_0 (a0 : (List Bool)) (a1 : (List Bool)) (x : (Unit ⊕ (Nat × Bool))) : AExit × St := match x with | .inl () => (.ret, ⟨[(4, (.b false))], [], H0⟩) | .inr (z1, z2) => ((.ex 0), ⟨[(0, (.l 4 (a0.map AV.b))), (1, (.l 4 (a1.map AV.b))), (5, (I (z1 : Int))), (14, (.b z2))], [], H0⟩)
theorem LB_R_SameBools_0 (a0 : (List Bool)) (a1 : (List Bool)) (v0_5 : Nat) (o : Nat ⊕ (Unit ⊕ (Nat × Bool))) (h : B_R_SameBools_0 a0 a1 v0_5 = some o) : bodyOK E0 c20_0 (S_R_SameBools_0 a0 a1) (X_R_SameBools_0 a0 a1) v0_5 o :=
  have L := fun {a} => lY (Y := bodyY (S_R_SameBools_0 a0 a1) (X_R_SameBools_0 a0 a1)) (a := a) (r := o)
  bodyT (ao (.i (a0.length : Int)) <| AT.or (bt <| ao (.n v0_5) <| AT.ex fun (y3 : Bool) => ao (.v (.b y3)) <| ao (.n v0_5) <| AT.ex fun (y5 : Bool) => ao (.v (.b y5)) <| AT.or (bf <| ao (.i ((v0_5 + 1 : Nat) : Int)) <| AT.nil) (bt <| AT.nil)) (bf <| AT.nil)) (ai (map_len AV.b a0) <| orP h (fun h2 h => ai (decide_eq_true h2) <| ai tt <| ai tt <| ai tt <| ai (rfl : (v0_5 : Int) = (v0_5 : Int)) <| exB h fun y3 h4 h => ai (map_get AV.b h4) <| ai tt <| ai tt <| ai tt <| ai tt <| ai (rfl : (v0_5 : Int) = (v0_5 : Int)) <| exB h fun y5 h6 h => ai (map_get AV.b h6) <| ai tt <| ai tt <| orB h (fun h7 h => ai (congrArg not h7) <| asrtP h fun w8 h => ai w8 <| L h) (fun h7 h => ai (congrArg not h7) <| L h)) (fun h2 h => ai (decide_eq_false h2) <| L h)) (by kernel_rfl)
theorem LL_R_SameBools_0 (a0 : (List Bool)) (a1 : (List Bool)) (v : Nat) (x : (Unit ⊕ (Nat × Bool))) (h : lp (fun v => B_R_SameBools_0 a0 a1 v) v = some x) : lpAt G Ω0 E0 c20_0 (S_R_SameBools_0 a0 a1 v) = some (X_R_SameBools_0 a0 a1 x) :=
  lp_lift c20_0 (S_R_SameBools_0 a0 a1) (X_R_SameBools_0 a0 a1) (fun _ => rfl) (fun v o h => LB_R_SameBools_0 a0 a1 v o h) h
abbrev Y_R_SameBools (a0 : (List Bool)) (a1 : (List Bool)) (r : Bool) : AEnd × HP := (.ret (.b r), H0)
abbrev O_R_SameBools (a0 : (List Bool)) (a1 : (List Bool)) (r : Bool) : Prop := call G Ω0 E0 20 [(.l 4 (a0.map AV.b)), (.l 4 (a1.map AV.b))] H0 = some (Y_R_SameBools a0 a1 r)
noncomputable def F_R_SameBools (a0 : (List Bool)) (a1 : (List Bool)) : Option Bool :=
  if ((a0.length : Int) != (a1.length : Int)) = true then
    some false
  else
    (lp (fun v => B_R_SameBools_0 a0 a1 v) 0).bind fun (x2 : (Unit ⊕ (Nat × Bool))) => match x2 with
    | .inl ya_3 =>
      some false
    | .inr yb_3 =>
      some true
theorem lift_R_SameBools (a0 : (List Bool)) (a1 : (List Bool)) (r : Bool) (h : F_R_SameBools a0 a1 = some r) : O_R_SameBools a0 a1 r :=
  have L := fun {a} => lY (Y := Y_R_SameBools a0 a1) (a := a) (r := r)
  callT G20 (ao (.i (a0.length : Int)) <| ao (.i (a1.length : Int)) <| AT.or (bt <| AT.nil) (bf <| AT.or (AT.ex fun (ya_3 : Unit) => ao (.lp .ret ⟨[(4, (.b false))], [], H0⟩) <| AT.nil) (AT.ex fun (yb_3 : (Nat × Bool)) => ao (.lp (.ex 0) ⟨[(0, (.l 4 (a0.map AV.b))), (1, (.l 4 (a1.map AV.b))), (5, (I (yb_3.1 : Int))), (14, (.b yb_3.2))], [], H0⟩) <| AT.nil))) (ai (map_len AV.b a0) <| ai (map_len AV.b a1) <| orB h (fun h1 h => ai h1 <| L h) (fun h1 h => ai h1 <| sum2 h (fun ya_3 lp4 h => have lp4 := LL_R_SameBools_0 a0 a1 0 _ lp4; ai lp4 <| L h) (fun yb_3 lp4 h => have lp4 := LL_R_SameBools_0 a0 a1 0 _ lp4; ai lp4 <| L h))) (by kernel_rfl)
abbrev Y_R_SameLevel (a0 : Level) (a1 : Level) (r : Bool) : AEnd × HP := (.ret (.b r), H0)
abbrev O_R_SameLevel (a0 : Level) (a1 : Level) (r : Bool) : Prop := call G Ω0 E0 12 [(.a [(.l 4 (a0.Readers.map AV.b)), (.l 4 (a0.Writers.map AV.b))]), (.a [(.l 4 (a1.Readers.map AV.b)), (.l 4 (a1.Writers.map AV.b))])] H0 = some (Y_R_SameLevel a0 a1 r)
noncomputable def F_R_SameLevel (a0 : Level) (a1 : Level) : Option Bool :=
  (F_R_SameBools a0.Readers a1.Readers).bind fun (r1 : Bool) =>
  if r1 = true then
    (F_R_SameBools a0.Writers a1.Writers).bind fun (r4 : Bool) =>
    some r4
  else
    some false
theorem lift_R_SameLevel (a0 : Level) (a1 : Level) (r : Bool) (h : F_R_SameLevel a0 a1 = some r) : O_R_SameLevel a0 a1 r :=
  have L := fun {a} => lY (Y := Y_R_SameLevel a0 a1) (a := a) (r := r)
  callT G12 (bt <| bt <| AT.ex fun (r1 : Bool) => ao (.v (.b r1)) <| AT.or (bt <| bt <| bt <| bt <| bt <| bt <| bt <| AT.ex fun (r4 : Bool) => ao (.v (.b r4)) <| bt <| AT.nil) (bf <| bf <| bf <| bf <| bf <| bf <| AT.nil)) (ai tt <| ai tt <| ai (rfl : Z0) <| ai (rfl : Z0) <| exB h fun r1 ek2 h => have ek2 := lift_R_SameBools a0.Readers a1.Readers _ ek2; ai ek2 <| orB h (fun h3 h => ai (g1 h3) <| ai (g1 h3) <| ai (rfl : Z0) <| ai (g1 h3) <| ai (g1 h3) <| ai (rfl : Z0) <| ai (g1 h3) <| exB h fun r4 ek5 h => have ek5 := lift_R_SameBools a0.Writers a1.Writers _ ek5; ai ek5 <| ai h3 <| L h) (fun h3 h => ai (g1 h3) <| ai (g1 h3) <| ai (g1 h3) <| ai (g1 h3) <| ai (g1 h3) <| ai h3 <| L h)) (by kernel_rfl)
abbrev O_L_labelBegun (r : Bool) : Prop := call G Ω0 E0 4 [] H0 = some (.ret (.b r), H0)
noncomputable def F_L_labelBegun : Option Bool := some true
theorem lift_L_labelBegun (r : Bool) (h : F_L_labelBegun = some r) : O_L_labelBegun r := by
  obtain rfl := Option.some.inj h
  exact callF_mono (run_ge 100000) E0 4 [] H0 _ (by kernel_rfl)
noncomputable def D_L_levelIs_d0 (a0 : Level) (a1 : Int) (a2 : Int) (w0_1 : (List Bool)) (w0_2 : (List Bool)) : Option Bool :=
  if (a1 == a2) = true then
    (F_R_SameLevel a0 (⟨w0_1, w0_2⟩ : Level)).bind fun (r3 : Bool) =>
    some r3
  else
    some false
abbrev X_L_levelIs_d0 (a0 : Level) (a1 : Int) (a2 : Int) (w0_1 : (List Bool)) (w0_2 : (List Bool)) (x : Bool) : AExit × St := (.ret, ⟨[(8, (.b x))], [], H0⟩)
abbrev O_L_levelIs_d0 (a0 : Level) (a1 : Int) (a2 : Int) (w0_1 : (List Bool)) (w0_2 : (List Bool)) (x : Bool) : Prop := run G Ω0 E0 e13_0 ⟨[(1, (I a1)), (2, (I a2)), (4, (.p ⟨0, 4⟩ 0)), (7, (.p ⟨0, 7⟩ 0))], [(4, [(.l 4 (a0.Readers.map AV.b)), (.l 4 (a0.Writers.map AV.b))]), (7, [(.l 4 (w0_1.map AV.b)), (.l 4 (w0_2.map AV.b))])], H0⟩ = some (X_L_levelIs_d0 a0 a1 a2 w0_1 w0_2 x)
theorem LD_L_levelIs_d0 (a0 : Level) (a1 : Int) (a2 : Int) (w0_1 : (List Bool)) (w0_2 : (List Bool)) (x : Bool) (h : D_L_levelIs_d0 a0 a1 a2 w0_1 w0_2 = some x) : O_L_levelIs_d0 a0 a1 a2 w0_1 w0_2 x :=
  have L := fun {a} => lY (Y := X_L_levelIs_d0 a0 a1 a2 w0_1 w0_2) (a := a) (r := x)
  runT (AT.or (bt <| bt <| bt <| bt <| bt <| AT.ex fun (r3 : Bool) => ao (.v (.b r3)) <| bt <| AT.nil) (bf <| bf <| bf <| bf <| AT.nil)) (orB h (fun h2 h => ai (g1 h2) <| ai (rfl : Z0) <| ai (g1 h2) <| ai (rfl : Z0) <| ai (g1 h2) <| exB h fun r3 ek4 h => have ek4 := lift_R_SameLevel a0 (⟨w0_1, w0_2⟩ : Level) _ ek4; ai ek4 <| ai h2 <| L h) (fun h2 h => ai (g1 h2) <| ai (g1 h2) <| ai (g1 h2) <| ai h2 <| L h)) (by kernel_rfl)
abbrev Y_L_levelIs (a0 : Level) (a1 : Int) (a2 : Int) (a3 : Level) (r : Bool) : AEnd × HP := (.ret (.b r), H0)
abbrev O_L_levelIs (a0 : Level) (a1 : Int) (a2 : Int) (a3 : Level) (r : Bool) : Prop := call G Ω0 E0 13 [(.a [(.l 4 (a0.Readers.map AV.b)), (.l 4 (a0.Writers.map AV.b))]), (I a1), (I a2), (.a [(.l 4 (a3.Readers.map AV.b)), (.l 4 (a3.Writers.map AV.b))])] H0 = some (Y_L_levelIs a0 a1 a2 a3 r)
noncomputable def F_L_levelIs (a0 : Level) (a1 : Int) (a2 : Int) (a3 : Level) : Option Bool :=
  if (a2 != 0) = true then
    (D_L_levelIs_d0 a0 a1 a2 ([] : List Bool) ([] : List Bool)).bind fun (x2 : Bool) =>
    some x2
  else
    (D_L_levelIs_d0 a0 a1 a2 a3.Readers a3.Writers).bind fun (x2 : Bool) =>
    some x2
theorem lift_L_levelIs (a0 : Level) (a1 : Int) (a2 : Int) (a3 : Level) (r : Bool) (h : F_L_levelIs a0 a1 a2 a3 = some r) : O_L_levelIs a0 a1 a2 a3 r :=
  have L := fun {a} => lY (Y := Y_L_levelIs a0 a1 a2 a3) (a := a) (r := r)
  callT G13 (AT.or (bt <| bt <| bt <| AT.fb <| AT.ex fun (x2 : Bool) => ao (.fr .ret ⟨[(8, (.b x2))], [], H0⟩) <| AT.nil) (bf <| AT.fb <| AT.ex fun (x2 : Bool) => ao (.fr .ret ⟨[(8, (.b x2))], [], H0⟩) <| AT.nil)) (ai tt <| ai tt <| orB h (fun h1 h => ai h1 <| ai ff <| ai (rfl : Z0) <| ai tt <| ai (rfl : Z0) <| exB h fun x2 fr3 h => have fr3 := LD_L_levelIs_d0 a0 a1 a2 ([] : List Bool) ([] : List Bool) _ fr3; ai fr3 <| L h) (fun h1 h => ai h1 <| exB h fun x2 fr3 h => have fr3 := LD_L_levelIs_d0 a0 a1 a2 a3.Readers a3.Writers _ fr3; ai fr3 <| L h)) (by kernel_rfl)
end Go.Proofs.Ytjnhiggknkflfaa.A
