/- Functions of the program as plain functions, by program. -/
import Derived.Test.YtkmmjfjikmeidaaGreatDoorTypes
import Derived.Test.YtkmmjfjikmeidaaGreatDoorLift
import Derived.Test.YtkmmjfjikmeidaaGreatDoorFB
set_option maxRecDepth 100000
set_option linter.unusedSectionVars false
set_option linter.unusedVariables false
set_option linter.unusedSimpArgs false
set_option linter.constructorNameAsVariable false
namespace Go.Proofs.YtkmmjfjikmeidaaGreatDoor.A
open Go
variable [Lp]
noncomputable def B_slices_Equal_string_0 (a0 : (List (List UInt8))) (a1 : (List (List UInt8))) (v0_13 : Nat) : Option (Nat ⊕ (Unit ⊕ (Nat × Bool))) :=
  if (v0_13 : Int) < (a0.length : Int) then
    (a0[v0_13]?).bind fun (y3 : (List UInt8)) =>
    (a1[v0_13]?).bind fun (y5 : (List UInt8)) =>
    if (y3 == y5) = true then
      if IntKind.i64.wrap ((v0_13 : Int) + 1) = ((v0_13 + 1 : Nat) : Int) then
        some (.inl (v0_13 + 1))
      else none
    else
      some (.inr (.inl ()))
  else
    some (.inr (.inr (v0_13, decide ((v0_13 : Int) < (a0.length : Int)))))
abbrev S_slices_Equal_string_0 (a0 : (List (List UInt8))) (a1 : (List (List UInt8))) (v : Nat) : St := ⟨[(0, (.l 9 (a0.map AV.s))), (1, (.l 9 (a1.map AV.s))), (12, (I (a0.length : Int))), (13, (I (v : Int)))], [], H0⟩
abbrev X_slices_Equal_string_0 (a0 : (List (List UInt8))) (a1 : (List (List UInt8))) (x : (Unit ⊕ (Nat × Bool))) : AExit × St := match x with | .inl () => (.ret, ⟨[(4, (.b false))], [], H0⟩) | .inr (z1, z2) => ((.ex 0), ⟨[(0, (.l 9 (a0.map AV.s))), (1, (.l 9 (a1.map AV.s))), (12, (I (a0.length : Int))), (13, (I (z1 : Int))), (14, (.b z2))], [], H0⟩)
theorem LB_slices_Equal_string_0 (a0 : (List (List UInt8))) (a1 : (List (List UInt8))) (v0_13 : Nat) (o : Nat ⊕ (Unit ⊕ (Nat × Bool))) (h : B_slices_Equal_string_0 a0 a1 v0_13 = some o) : bodyOK E0 c29_0 (S_slices_Equal_string_0 a0 a1) (X_slices_Equal_string_0 a0 a1) v0_13 o :=
  have L := fun {a} => lY (Y := bodyY (S_slices_Equal_string_0 a0 a1) (X_slices_Equal_string_0 a0 a1)) (a := a) (r := o)
  bodyT (AT.or (bt <| ao (.n v0_13) <| AT.ex fun (y3 : (List UInt8)) => ao (.v (.s y3)) <| ao (.n v0_13) <| AT.ex fun (y5 : (List UInt8)) => ao (.v (.s y5)) <| AT.or (bf <| ao (.i ((v0_13 + 1 : Nat) : Int)) <| AT.nil) (bt <| AT.nil)) (bf <| AT.nil)) (orP h (fun h2 h => ai (decide_eq_true h2) <| ai tt <| ai tt <| ai tt <| ai (rfl : (v0_13 : Int) = (v0_13 : Int)) <| exB h fun y3 h4 h => ai (map_get AV.s h4) <| ai tt <| ai tt <| ai tt <| ai tt <| ai (rfl : (v0_13 : Int) = (v0_13 : Int)) <| exB h fun y5 h6 h => ai (map_get AV.s h6) <| ai tt <| ai tt <| orB h (fun h7 h => ai (congrArg not h7) <| asrtP h fun w8 h => ai w8 <| L h) (fun h7 h => ai (congrArg not h7) <| L h)) (fun h2 h => ai (decide_eq_false h2) <| L h)) (by kernel_rfl)
theorem LL_slices_Equal_string_0 (a0 : (List (List UInt8))) (a1 : (List (List UInt8))) (v : Nat) (x : (Unit ⊕ (Nat × Bool))) (h : lp (fun v => B_slices_Equal_string_0 a0 a1 v) v = some x) : lpAt G Ω0 E0 c29_0 (S_slices_Equal_string_0 a0 a1 v) = some (X_slices_Equal_string_0 a0 a1 x) :=
  lp_lift c29_0 (S_slices_Equal_string_0 a0 a1) (X_slices_Equal_string_0 a0 a1) (fun _ => rfl) (fun v o h => LB_slices_Equal_string_0 a0 a1 v o h) h
abbrev Y_slices_Equal_string (a0 : (List (List UInt8))) (a1 : (List (List UInt8))) (r : Bool) : AEnd × HP := (.ret (.b r), H0)
abbrev O_slices_Equal_string (a0 : (List (List UInt8))) (a1 : (List (List UInt8))) (r : Bool) : Prop := call G Ω0 E0 29 [(.l 9 (a0.map AV.s)), (.l 9 (a1.map AV.s))] H0 = some (Y_slices_Equal_string a0 a1 r)
noncomputable def F_slices_Equal_string (a0 : (List (List UInt8))) (a1 : (List (List UInt8))) : Option Bool :=
  if ((a0.length : Int) != (a1.length : Int)) = true then
    some false
  else
    (lp (fun v => B_slices_Equal_string_0 a0 a1 v) 0).bind fun (x2 : (Unit ⊕ (Nat × Bool))) => match x2 with
    | .inl ya_3 =>
      some false
    | .inr yb_3 =>
      some true
theorem lift_slices_Equal_string (a0 : (List (List UInt8))) (a1 : (List (List UInt8))) (r : Bool) (h : F_slices_Equal_string a0 a1 = some r) : O_slices_Equal_string a0 a1 r :=
  have L := fun {a} => lY (Y := Y_slices_Equal_string a0 a1) (a := a) (r := r)
  callT G29 (ao (.i (a0.length : Int)) <| ao (.i (a1.length : Int)) <| AT.or (bt <| AT.nil) (bf <| ao (.i (a0.length : Int)) <| AT.or (AT.ex fun (ya_3 : Unit) => ao (.lp .ret ⟨[(4, (.b false))], [], H0⟩) <| AT.nil) (AT.ex fun (yb_3 : (Nat × Bool)) => ao (.lp (.ex 0) ⟨[(0, (.l 9 (a0.map AV.s))), (1, (.l 9 (a1.map AV.s))), (12, (I (a0.length : Int))), (13, (I (yb_3.1 : Int))), (14, (.b yb_3.2))], [], H0⟩) <| AT.nil))) (ai (map_len AV.s a0) <| ai (map_len AV.s a1) <| orB h (fun h1 h => ai h1 <| L h) (fun h1 h => ai h1 <| ai (map_len AV.s a0) <| sum2 h (fun ya_3 lp4 h => have lp4 := LL_slices_Equal_string_0 a0 a1 0 _ lp4; ai lp4 <| L h) (fun yb_3 lp4 h => have lp4 := LL_slices_Equal_string_0 a0 a1 0 _ lp4; ai lp4 <| L h))) (by kernel_rfl)
abbrev Y_show_samePolicy (a0 : TreePolicy) (a1 : TreePolicy) (r : Bool) : AEnd × HP := (.ret (.b r), H0)
abbrev O_show_samePolicy (a0 : TreePolicy) (a1 : TreePolicy) (r : Bool) : Prop := call G Ω0 E0 28 [(.a (kTreePolicy a0)), (.a (kTreePolicy a1))] H0 = some (Y_show_samePolicy a0 a1 r)
noncomputable def F_show_samePolicy (a0 : TreePolicy) (a1 : TreePolicy) : Option Bool :=
  if (a0.Owner == a1.Owner) = true then
    if (a0.Write == a1.Write) = true then
      (F_slices_Equal_string a0.Names a1.Names).bind fun (r3 : Bool) =>
      some r3
    else
      some false
  else
    some false
theorem lift_show_samePolicy (a0 : TreePolicy) (a1 : TreePolicy) (r : Bool) (h : F_show_samePolicy a0 a1 = some r) : O_show_samePolicy a0 a1 r :=
  have L := fun {a} => lY (Y := Y_show_samePolicy a0 a1) (a := a) (r := r)
  callT G28 (bt <| bt <| AT.or (bt <| bt <| bt <| bt <| bt <| bt <| bt <| bt <| AT.or (bt <| bt <| bt <| bt <| bt <| bt <| bt <| AT.ex fun (r3 : Bool) => ao (.v (.b r3)) <| bt <| AT.nil) (bf <| bf <| bf <| bf <| bf <| bf <| AT.nil)) (bf <| bf <| bf <| bf <| bf <| bf <| bf <| bf <| bf <| bf <| bf <| bf <| AT.nil)) (ai tt <| ai tt <| ai (rfl : Z0) <| ai (rfl : Z0) <| orB h (fun h1 h => ai (g1 h1) <| ai (g1 h1) <| ai (rfl : Z0) <| ai (g1 h1) <| ai (g1 h1) <| ai (rfl : Z0) <| ai (g1 h1) <| ai h1 <| orB h (fun h2 h => ai (g1 h2) <| ai (g1 h2) <| ai (rfl : Z0) <| ai (g1 h2) <| ai (g1 h2) <| ai (rfl : Z0) <| ai (g1 h2) <| exB h fun r3 ek4 h => have ek4 := lift_slices_Equal_string a0.Names a1.Names _ ek4; ai ek4 <| ai h2 <| L h) (fun h2 h => ai (g1 h2) <| ai (g1 h2) <| ai (g1 h2) <| ai (g1 h2) <| ai (g1 h2) <| ai h2 <| L h)) (fun h1 h => ai (g1 h1) <| ai (g1 h1) <| ai (g1 h1) <| ai (g1 h1) <| ai (g1 h1) <| ai h1 <| ai gf <| ai gf <| ai gf <| ai gf <| ai gf <| ai ff <| L h)) (by kernel_rfl)
noncomputable def B_slices_EqualFunc__show_samePolicy_0 (a0 : (List TreePolicy)) (a1 : (List TreePolicy)) (v0_17 : Nat) : Option (Nat ⊕ (Unit ⊕ (Nat × Bool))) :=
  if (v0_17 : Int) < (a0.length : Int) then
    (a0[v0_17]?).bind fun (y3 : TreePolicy) =>
    (a1[v0_17]?).bind fun (y5 : TreePolicy) =>
    (F_show_samePolicy y3 y5).bind fun (r7 : Bool) =>
    if r7 = true then
      if IntKind.i64.wrap ((v0_17 : Int) + 1) = ((v0_17 + 1 : Nat) : Int) then
        some (.inl (v0_17 + 1))
      else none
    else
      some (.inr (.inl ()))
  else
    some (.inr (.inr (v0_17, decide ((v0_17 : Int) < (a0.length : Int)))))
abbrev S_slices_EqualFunc__show_samePolicy_0 (a0 : (List TreePolicy)) (a1 : (List TreePolicy)) (v : Nat) : St := ⟨[(1, (.l 51 (a1.map eTreePolicy))), (2, (.f 28 [])), (15, (.l 51 (a0.map eTreePolicy))), (16, (I (a0.length : Int))), (17, (I (v : Int)))], [], H0⟩
abbrev X_slices_EqualFunc__show_samePolicy_0 (a0 : (List TreePolicy)) (a1 : (List TreePolicy)) (x : (Unit ⊕ (Nat × Bool))) : AExit × St := match x with | .inl () => (.ret, ⟨[(6, (.b false))], [], H0⟩) | .inr (z1, z2) => ((.ex 0), ⟨[(1, (.l 51 (a1.map eTreePolicy))), (2, (.f 28 [])), (15, (.l 51 (a0.map eTreePolicy))), (16, (I (a0.length : Int))), (17, (I (z1 : Int))), (18, (.b z2))], [], H0⟩)
theorem LB_slices_EqualFunc__show_samePolicy_0 (a0 : (List TreePolicy)) (a1 : (List TreePolicy)) (v0_17 : Nat) (o : Nat ⊕ (Unit ⊕ (Nat × Bool))) (h : B_slices_EqualFunc__show_samePolicy_0 a0 a1 v0_17 = some o) : bodyOK E0 c27_0 (S_slices_EqualFunc__show_samePolicy_0 a0 a1) (X_slices_EqualFunc__show_samePolicy_0 a0 a1) v0_17 o :=
  have L := fun {a} => lY (Y := bodyY (S_slices_EqualFunc__show_samePolicy_0 a0 a1) (X_slices_EqualFunc__show_samePolicy_0 a0 a1)) (a := a) (r := o)
  bodyT (AT.or (bt <| ao (.n v0_17) <| AT.ex fun (y3 : TreePolicy) => ao (.v (.a (kTreePolicy y3))) <| bt <| bt <| ao (.n v0_17) <| AT.ex fun (y5 : TreePolicy) => ao (.v (.a (kTreePolicy y5))) <| bt <| bt <| bt <| bt <| AT.ex fun (r7 : Bool) => ao (.v (.b r7)) <| AT.or (bf <| ao (.i ((v0_17 + 1 : Nat) : Int)) <| AT.nil) (bt <| AT.nil)) (bf <| AT.nil)) (orP h (fun h2 h => ai (decide_eq_true h2) <| ai (rfl : (v0_17 : Int) = (v0_17 : Int)) <| exB h fun y3 h4 h => ai (map_get eTreePolicy h4) <| ai tt <| ai ff <| ai (rfl : Z0) <| ai tt <| ai (rfl : Z0) <| ai (rfl : (v0_17 : Int) = (v0_17 : Int)) <| exB h fun y5 h6 h => ai (map_get eTreePolicy h6) <| ai tt <| ai ff <| ai (rfl : Z0) <| ai tt <| ai (rfl : Z0) <| ai (rfl : Z0) <| ai (rfl : Z0) <| exB h fun r7 ek8 h => have ek8 := lift_show_samePolicy y3 y5 _ ek8; ai ek8 <| orB h (fun h9 h => ai (congrArg not h9) <| asrtP h fun w10 h => ai w10 <| L h) (fun h9 h => ai (congrArg not h9) <| L h)) (fun h2 h => ai (decide_eq_false h2) <| L h)) (by kernel_rfl)
theorem LL_slices_EqualFunc__show_samePolicy_0 (a0 : (List TreePolicy)) (a1 : (List TreePolicy)) (v : Nat) (x : (Unit ⊕ (Nat × Bool))) (h : lp (fun v => B_slices_EqualFunc__show_samePolicy_0 a0 a1 v) v = some x) : lpAt G Ω0 E0 c27_0 (S_slices_EqualFunc__show_samePolicy_0 a0 a1 v) = some (X_slices_EqualFunc__show_samePolicy_0 a0 a1 x) :=
  lp_lift c27_0 (S_slices_EqualFunc__show_samePolicy_0 a0 a1) (X_slices_EqualFunc__show_samePolicy_0 a0 a1) (fun _ => rfl) (fun v o h => LB_slices_EqualFunc__show_samePolicy_0 a0 a1 v o h) h
abbrev Y_slices_EqualFunc__show_samePolicy (a0 : (List TreePolicy)) (a1 : (List TreePolicy)) (r : Bool) : AEnd × HP := (.ret (.b r), H0)
abbrev O_slices_EqualFunc__show_samePolicy (a0 : (List TreePolicy)) (a1 : (List TreePolicy)) (r : Bool) : Prop := call G Ω0 E0 27 [(.l 51 (a0.map eTreePolicy)), (.l 51 (a1.map eTreePolicy)), (.f 28 [])] H0 = some (Y_slices_EqualFunc__show_samePolicy a0 a1 r)
noncomputable def F_slices_EqualFunc__show_samePolicy (a0 : (List TreePolicy)) (a1 : (List TreePolicy)) : Option Bool :=
  if ((a0.length : Int) != (a1.length : Int)) = true then
    some false
  else
    (lp (fun v => B_slices_EqualFunc__show_samePolicy_0 a0 a1 v) 0).bind fun (x2 : (Unit ⊕ (Nat × Bool))) => match x2 with
    | .inl ya_3 =>
      some false
    | .inr yb_3 =>
      some true
theorem lift_slices_EqualFunc__show_samePolicy (a0 : (List TreePolicy)) (a1 : (List TreePolicy)) (r : Bool) (h : F_slices_EqualFunc__show_samePolicy a0 a1 = some r) : O_slices_EqualFunc__show_samePolicy a0 a1 r :=
  have L := fun {a} => lY (Y := Y_slices_EqualFunc__show_samePolicy a0 a1) (a := a) (r := r)
  callT G27 (ao (.i (a0.length : Int)) <| ao (.i (a1.length : Int)) <| AT.or (bt <| AT.nil) (bf <| ao (.i (a0.length : Int)) <| AT.or (AT.ex fun (ya_3 : Unit) => ao (.lp .ret ⟨[(6, (.b false))], [], H0⟩) <| AT.nil) (AT.ex fun (yb_3 : (Nat × Bool)) => ao (.lp (.ex 0) ⟨[(1, (.l 51 (a1.map eTreePolicy))), (2, (.f 28 [])), (15, (.l 51 (a0.map eTreePolicy))), (16, (I (a0.length : Int))), (17, (I (yb_3.1 : Int))), (18, (.b yb_3.2))], [], H0⟩) <| AT.nil))) (ai (map_len eTreePolicy a0) <| ai (map_len eTreePolicy a1) <| orB h (fun h1 h => ai h1 <| L h) (fun h1 h => ai h1 <| ai (map_len eTreePolicy a0) <| sum2 h (fun ya_3 lp4 h => have lp4 := LL_slices_EqualFunc__show_samePolicy_0 a0 a1 0 _ lp4; ai lp4 <| L h) (fun yb_3 lp4 h => have lp4 := LL_slices_EqualFunc__show_samePolicy_0 a0 a1 0 _ lp4; ai lp4 <| L h))) (by kernel_rfl)
abbrev Y_slices_EqualFunc__show_sameExpr (a0 : (List TreeExpr)) (a1 : (List TreeExpr)) (r : Bool) : AEnd × HP := (.ret (.b r), H0)
abbrev O_slices_EqualFunc__show_sameExpr (a0 : (List TreeExpr)) (a1 : (List TreeExpr)) (r : Bool) : Prop := call G Ω0 E0 31 [(.l 39 (a0.map eTreeExpr)), (.l 39 (a1.map eTreeExpr)), (.f 30 [])] H0 = some (Y_slices_EqualFunc__show_sameExpr a0 a1 r)
abbrev Y_show_sameExpr (a0 : TreeExpr) (a1 : TreeExpr) (r : Bool) : AEnd × HP := (.ret (.b r), H0)
abbrev O_show_sameExpr (a0 : TreeExpr) (a1 : TreeExpr) (r : Bool) : Prop := call G Ω0 E0 30 [(.a (kTreeExpr a0)), (.a (kTreeExpr a1))] H0 = some (Y_show_sameExpr a0 a1 r)
structure R_slices_EqualFunc__show_sameExpr_show_sameExpr where
  f_slices_EqualFunc__show_sameExpr : (List TreeExpr) → (List TreeExpr) → Option Bool
  f_show_sameExpr : TreeExpr → TreeExpr → Option Bool

structure OK_slices_EqualFunc__show_sameExpr_show_sameExpr (R : R_slices_EqualFunc__show_sameExpr_show_sameExpr) : Prop where
  f_slices_EqualFunc__show_sameExpr : ∀ (a0 : (List TreeExpr)) (a1 : (List TreeExpr)) (r : Bool), R.f_slices_EqualFunc__show_sameExpr a0 a1 = some r → O_slices_EqualFunc__show_sameExpr a0 a1 r
  f_show_sameExpr : ∀ (a0 : TreeExpr) (a1 : TreeExpr) (r : Bool), R.f_show_sameExpr a0 a1 = some r → O_show_sameExpr a0 a1 r

noncomputable def B_slices_EqualFunc__show_sameExpr_0 (R : R_slices_EqualFunc__show_sameExpr_show_sameExpr) (a0 : (List TreeExpr)) (a1 : (List TreeExpr)) (v0_17 : Nat) : Option (Nat ⊕ (Unit ⊕ (Nat × Bool))) :=
  if (v0_17 : Int) < (a0.length : Int) then
    (a0[v0_17]?).bind fun (y3 : TreeExpr) =>
    (a1[v0_17]?).bind fun (y5 : TreeExpr) =>
    (R.f_show_sameExpr y3 y5).bind fun (r7 : Bool) =>
    if r7 = true then
      if IntKind.i64.wrap ((v0_17 : Int) + 1) = ((v0_17 + 1 : Nat) : Int) then
        some (.inl (v0_17 + 1))
      else none
    else
      some (.inr (.inl ()))
  else
    some (.inr (.inr (v0_17, decide ((v0_17 : Int) < (a0.length : Int)))))
abbrev S_slices_EqualFunc__show_sameExpr_0 (a0 : (List TreeExpr)) (a1 : (List TreeExpr)) (v : Nat) : St := ⟨[(1, (.l 39 (a1.map eTreeExpr))), (2, (.f 30 [])), (15, (.l 39 (a0.map eTreeExpr))), (16, (I (a0.length : Int))), (17, (I (v : Int)))], [], H0⟩
abbrev X_slices_EqualFunc__show_sameExpr_0 (a0 : (List TreeExpr)) (a1 : (List TreeExpr)) (x : (Unit ⊕ (Nat × Bool))) : AExit × St := match x with | .inl () => (.ret, ⟨[(6, (.b false))], [], H0⟩) | .inr (z1, z2) => ((.ex 0), ⟨[(1, (.l 39 (a1.map eTreeExpr))), (2, (.f 30 [])), (15, (.l 39 (a0.map eTreeExpr))), (16, (I (a0.length : Int))), (17, (I (z1 : Int))), (18, (.b z2))], [], H0⟩)
theorem LB_slices_EqualFunc__show_sameExpr_0 (R : R_slices_EqualFunc__show_sameExpr_show_sameExpr) (hR : OK_slices_EqualFunc__show_sameExpr_show_sameExpr R) (a0 : (List TreeExpr)) (a1 : (List TreeExpr)) (v0_17 : Nat) (o : Nat ⊕ (Unit ⊕ (Nat × Bool))) (h : B_slices_EqualFunc__show_sameExpr_0 R a0 a1 v0_17 = some o) : bodyOK E0 c31_0 (S_slices_EqualFunc__show_sameExpr_0 a0 a1) (X_slices_EqualFunc__show_sameExpr_0 a0 a1) v0_17 o :=
  have L := fun {a} => lY (Y := bodyY (S_slices_EqualFunc__show_sameExpr_0 a0 a1) (X_slices_EqualFunc__show_sameExpr_0 a0 a1)) (a := a) (r := o)
  bodyT (AT.or (bt <| ao (.n v0_17) <| AT.ex fun (y3 : TreeExpr) => ao (.v (.a (kTreeExpr y3))) <| bt <| bt <| ao (.n v0_17) <| AT.ex fun (y5 : TreeExpr) => ao (.v (.a (kTreeExpr y5))) <| bt <| bt <| bt <| bt <| AT.ex fun (r7 : Bool) => ao (.v (.b r7)) <| AT.or (bf <| ao (.i ((v0_17 + 1 : Nat) : Int)) <| AT.nil) (bt <| AT.nil)) (bf <| AT.nil)) (orP h (fun h2 h => ai (decide_eq_true h2) <| ai (rfl : (v0_17 : Int) = (v0_17 : Int)) <| exB h fun y3 h4 h => ai (map_getE eTreeExpr h4 (eTreeExpr_eq _)) <| ai tt <| ai ff <| ai (rfl : Z0) <| ai tt <| ai (rfl : Z0) <| ai (rfl : (v0_17 : Int) = (v0_17 : Int)) <| exB h fun y5 h6 h => ai (map_getE eTreeExpr h6 (eTreeExpr_eq _)) <| ai tt <| ai ff <| ai (rfl : Z0) <| ai tt <| ai (rfl : Z0) <| ai (rfl : Z0) <| ai (rfl : Z0) <| exB h fun r7 ek8 h => have ek8 := hR.f_show_sameExpr y3 y5 _ ek8; ai ek8 <| orB h (fun h9 h => ai (congrArg not h9) <| asrtP h fun w10 h => ai w10 <| L h) (fun h9 h => ai (congrArg not h9) <| L h)) (fun h2 h => ai (decide_eq_false h2) <| L h)) (by kernel_rfl)
theorem LL_slices_EqualFunc__show_sameExpr_0 (R : R_slices_EqualFunc__show_sameExpr_show_sameExpr) (hR : OK_slices_EqualFunc__show_sameExpr_show_sameExpr R) (a0 : (List TreeExpr)) (a1 : (List TreeExpr)) (v : Nat) (x : (Unit ⊕ (Nat × Bool))) (h : lp (fun v => B_slices_EqualFunc__show_sameExpr_0 R a0 a1 v) v = some x) : lpAt G Ω0 E0 c31_0 (S_slices_EqualFunc__show_sameExpr_0 a0 a1 v) = some (X_slices_EqualFunc__show_sameExpr_0 a0 a1 x) :=
  lp_lift c31_0 (S_slices_EqualFunc__show_sameExpr_0 a0 a1) (X_slices_EqualFunc__show_sameExpr_0 a0 a1) (fun _ => rfl) (fun v o h => LB_slices_EqualFunc__show_sameExpr_0 R hR a0 a1 v o h) h
noncomputable def FB_slices_EqualFunc__show_sameExpr (R : R_slices_EqualFunc__show_sameExpr_show_sameExpr) (a0 : (List TreeExpr)) (a1 : (List TreeExpr)) : Option Bool :=
  if ((a0.length : Int) != (a1.length : Int)) = true then
    some false
  else
    (lp (fun v => B_slices_EqualFunc__show_sameExpr_0 R a0 a1 v) 0).bind fun (x2 : (Unit ⊕ (Nat × Bool))) => match x2 with
    | .inl ya_3 =>
      some false
    | .inr yb_3 =>
      some true
theorem liftB_slices_EqualFunc__show_sameExpr (R : R_slices_EqualFunc__show_sameExpr_show_sameExpr) (hR : OK_slices_EqualFunc__show_sameExpr_show_sameExpr R) (a0 : (List TreeExpr)) (a1 : (List TreeExpr)) (r : Bool) (h : FB_slices_EqualFunc__show_sameExpr R a0 a1 = some r) : O_slices_EqualFunc__show_sameExpr a0 a1 r :=
  have L := fun {a} => lY (Y := Y_slices_EqualFunc__show_sameExpr a0 a1) (a := a) (r := r)
  callT G31 (ao (.i (a0.length : Int)) <| ao (.i (a1.length : Int)) <| AT.or (bt <| AT.nil) (bf <| ao (.i (a0.length : Int)) <| AT.or (AT.ex fun (ya_3 : Unit) => ao (.lp .ret ⟨[(6, (.b false))], [], H0⟩) <| AT.nil) (AT.ex fun (yb_3 : (Nat × Bool)) => ao (.lp (.ex 0) ⟨[(1, (.l 39 (a1.map eTreeExpr))), (2, (.f 30 [])), (15, (.l 39 (a0.map eTreeExpr))), (16, (I (a0.length : Int))), (17, (I (yb_3.1 : Int))), (18, (.b yb_3.2))], [], H0⟩) <| AT.nil))) (ai (map_len eTreeExpr a0) <| ai (map_len eTreeExpr a1) <| orB h (fun h1 h => ai h1 <| L h) (fun h1 h => ai h1 <| ai (map_len eTreeExpr a0) <| sum2 h (fun ya_3 lp4 h => have lp4 := LL_slices_EqualFunc__show_sameExpr_0 R hR a0 a1 0 _ lp4; ai lp4 <| L h) (fun yb_3 lp4 h => have lp4 := LL_slices_EqualFunc__show_sameExpr_0 R hR a0 a1 0 _ lp4; ai lp4 <| L h))) (by kernel_rfl)
noncomputable def q_show_sameExpr_j2 : List GOp := (gp 4 (.as (.t 30))) :: []
noncomputable def D_show_sameExpr_j2 (R : R_slices_EqualFunc__show_sameExpr_show_sameExpr) (a0 : TreeExpr) (a1 : TreeExpr) (u2_1 : Bool) : Option Bool :=
  some u2_1
abbrev X_show_sameExpr_j2 (a0 : TreeExpr) (a1 : TreeExpr) (u2_1 : Bool) (x : Bool) : St := ⟨[(4, (.b x))], [], H0⟩
abbrev O_show_sameExpr_j2 (a0 : TreeExpr) (a1 : TreeExpr) (u2_1 : Bool) (w : List AV) (x : Bool) : Prop := opsK G Ω0 E0 [4] [] q_show_sameExpr_j2 ⟨[(30, (.b u2_1)), (29, (W w 0)), (28, (W w 1)), (27, (W w 2)), (26, (W w 3)), (25, (W w 4)), (24, (W w 5)), (23, (W w 6)), (22, (W w 7)), (21, (W w 8)), (20, (W w 9)), (19, (W w 10)), (18, (W w 11)), (17, (W w 12)), (16, (W w 13)), (15, (W w 14)), (14, (W w 15)), (13, (W w 16)), (12, (W w 17)), (11, (W w 18)), (10, (.b (a0.Kind == a1.Kind))), (9, (.b (a0.Kind == a1.Kind))), (8, (I a1.Kind)), (7, (.p ⟨0, 3⟩ 0)), (6, (I a0.Kind)), (5, (.p ⟨0, 2⟩ 0)), (2, (.p ⟨0, 2⟩ 0)), (3, (.p ⟨0, 3⟩ 0))], [(2, (kTreeExpr a0)), (3, (kTreeExpr a1))], H0⟩ = some (X_show_sameExpr_j2 a0 a1 u2_1 x)
theorem LD_show_sameExpr_j2 (R : R_slices_EqualFunc__show_sameExpr_show_sameExpr) (hR : OK_slices_EqualFunc__show_sameExpr_show_sameExpr R) (a0 : TreeExpr) (a1 : TreeExpr) (u2_1 : Bool) (w : List AV) (x : Bool) (h : D_show_sameExpr_j2 R a0 a1 u2_1 = some x) : O_show_sameExpr_j2 a0 a1 u2_1 w x :=
  have L := fun {a} => lY (Y := X_show_sameExpr_j2 a0 a1 u2_1) (a := a) (r := x)
  opsKT (AT.nil) (L h) (by kernel_rfl)
noncomputable def q_show_sameExpr_j1 : List GOp := (gp 5 (.fa 0 (.t 2))) :: (gp 6 (.ld none (.t 5))) :: (gp 7 (.fa 0 (.t 3))) :: (gp 8 (.ld none (.t 7))) :: (gp 9 (.bo .eql false (.t 6) (.t 8))) :: (gp 10 (.mv (.t 9))) :: ⟨some 11, .fa 2 (.t 2), some ⟨10, true⟩, false⟩ :: ⟨some 12, .ld none (.t 11), some ⟨10, true⟩, false⟩ :: ⟨some 13, .fa 2 (.t 3), some ⟨10, true⟩, false⟩ :: ⟨some 14, .ld none (.t 13), some ⟨10, true⟩, false⟩ :: ⟨some 15, .bo .eql false (.t 12) (.t 14), some ⟨10, true⟩, false⟩ :: (gp 16 (.pk (.t 10) (.t 15) (.c (.b false)))) :: (gp 17 (.mv (.t 16))) :: ⟨some 18, .fa 3 (.t 2), some ⟨17, true⟩, false⟩ :: ⟨some 19, .ld none (.t 18), some ⟨17, true⟩, false⟩ :: ⟨some 20, .fa 3 (.t 3), some ⟨17, true⟩, false⟩ :: ⟨some 21, .ld none (.t 20), some ⟨17, true⟩, false⟩ :: ⟨some 22, .bo .eql false (.t 19) (.t 21), some ⟨17, true⟩, false⟩ :: (gp 23 (.pk (.t 17) (.t 22) (.c (.b false)))) :: (gp 24 (.mv (.t 23))) :: ⟨some 25, .fa 4 (.t 2), some ⟨24, true⟩, false⟩ :: ⟨some 26, .ld none (.t 25), some ⟨24, true⟩, false⟩ :: ⟨some 27, .fa 4 (.t 3), some ⟨24, true⟩, false⟩ :: ⟨some 28, .ld none (.t 27), some ⟨24, true⟩, false⟩ :: ⟨some 29, .c2 31 [(.t 26), (.t 28), (.c (.f 30 []))], some ⟨24, true⟩, false⟩ :: (gp 30 (.pk (.t 24) (.t 29) (.c (.b false)))) :: q_show_sameExpr_j2
noncomputable def D_show_sameExpr_j1 (R : R_slices_EqualFunc__show_sameExpr_show_sameExpr) (a0 : TreeExpr) (a1 : TreeExpr) : Option Bool :=
  if (a0.Kind == a1.Kind) = true then
    if (a0.N == a1.N) = true then
      if (a0.Name == a1.Name) = true then
        (R.f_slices_EqualFunc__show_sameExpr a0.Args a1.Args).bind fun (r4 : Bool) =>
        (D_show_sameExpr_j2 R a0 a1 r4).bind fun (x6 : Bool) =>
        some x6
      else
        (D_show_sameExpr_j2 R a0 a1 false).bind fun (x4 : Bool) =>
        some x4
    else
      (D_show_sameExpr_j2 R a0 a1 false).bind fun (x3 : Bool) =>
      some x3
  else
    (D_show_sameExpr_j2 R a0 a1 false).bind fun (x2 : Bool) =>
    some x2
abbrev X_show_sameExpr_j1 (a0 : TreeExpr) (a1 : TreeExpr) (x : Bool) : St := ⟨[(4, (.b x))], [], H0⟩
abbrev O_show_sameExpr_j1 (a0 : TreeExpr) (a1 : TreeExpr) (x : Bool) : Prop := opsK G Ω0 E0 [4] [] q_show_sameExpr_j1 ⟨[(2, (.p ⟨0, 2⟩ 0)), (3, (.p ⟨0, 3⟩ 0))], [(2, (kTreeExpr a0)), (3, (kTreeExpr a1))], H0⟩ = some (X_show_sameExpr_j1 a0 a1 x)
theorem LD_show_sameExpr_j1 (R : R_slices_EqualFunc__show_sameExpr_show_sameExpr) (hR : OK_slices_EqualFunc__show_sameExpr_show_sameExpr R) (a0 : TreeExpr) (a1 : TreeExpr) (x : Bool) (h : D_show_sameExpr_j1 R a0 a1 = some x) : O_show_sameExpr_j1 a0 a1 x :=
  have L := fun {a} => lY (Y := X_show_sameExpr_j1 a0 a1) (a := a) (r := x)
  opsKT (bt <| bt <| AT.or (bt <| bt <| bt <| bt <| bt <| bt <| bt <| bt <| AT.or (bt <| bt <| bt <| bt <| bt <| bt <| bt <| bt <| AT.or (bt <| bt <| bt <| bt <| bt <| bt <| bt <| AT.ex fun (r4 : Bool) => ao (.v (.b r4)) <| bt <| AT.jb (some 4) 0 <| AT.ex fun (x6 : Bool) => ao (.jn ⟨[(4, (.b x6))], [], H0⟩) <| AT.nil) (bf <| bf <| bf <| bf <| bf <| bf <| AT.jb (some 4) 0 <| AT.ex fun (x4 : Bool) => ao (.jn ⟨[(4, (.b x4))], [], H0⟩) <| AT.nil)) (bf <| bf <| bf <| bf <| bf <| bf <| bf <| bf <| bf <| bf <| bf <| bf <| AT.jb (some 4) 0 <| AT.ex fun (x3 : Bool) => ao (.jn ⟨[(4, (.b x3))], [], H0⟩) <| AT.nil)) (bf <| bf <| bf <| bf <| bf <| bf <| bf <| bf <| bf <| bf <| bf <| bf <| bf <| bf <| bf <| bf <| bf <| bf <| AT.jb (some 4) 0 <| AT.ex fun (x2 : Bool) => ao (.jn ⟨[(4, (.b x2))], [], H0⟩) <| AT.nil)) (ai (rfl : Z0) <| ai (rfl : Z0) <| orB h (fun h1 h => ai (g1 h1) <| ai (g1 h1) <| ai (rfl : Z0) <| ai (g1 h1) <| ai (g1 h1) <| ai (rfl : Z0) <| ai (g1 h1) <| ai h1 <| orB h (fun h2 h => ai (g1 h2) <| ai (g1 h2) <| ai (rfl : Z0) <| ai (g1 h2) <| ai (g1 h2) <| ai (rfl : Z0) <| ai (g1 h2) <| ai h2 <| orB h (fun h3 h => ai (g1 h3) <| ai (g1 h3) <| ai (rfl : Z0) <| ai (g1 h3) <| ai (g1 h3) <| ai (rfl : Z0) <| ai (g1 h3) <| exB h fun r4 ek5 h => have ek5 := hR.f_slices_EqualFunc__show_sameExpr a0.Args a1.Args _ ek5; ai ek5 <| ai h3 <| exB h fun x6 jn7 h => have jn7 := LD_show_sameExpr_j2 R hR a0 a1 r4 [(.b r4), (.l 39 (a1.Args.map eTreeExpr)), (.p ⟨0, 3⟩ 4), (.l 39 (a0.Args.map eTreeExpr)), (.p ⟨0, 2⟩ 4), (.b (a0.Name == a1.Name)), (.b (a0.Name == a1.Name)), (.b (a0.Name == a1.Name)), (.s a1.Name), (.p ⟨0, 3⟩ 3), (.s a0.Name), (.p ⟨0, 2⟩ 3), (.b (a0.N == a1.N)), (.b (a0.N == a1.N)), (.b (a0.N == a1.N)), (I a1.N), (.p ⟨0, 3⟩ 2), (I a0.N), (.p ⟨0, 2⟩ 2)] _ jn7; ai jn7 <| L h) (fun h3 h => ai (g1 h3) <| ai (g1 h3) <| ai (g1 h3) <| ai (g1 h3) <| ai (g1 h3) <| ai h3 <| exB h fun x4 jn5 h => have jn5 := LD_show_sameExpr_j2 R hR a0 a1 false [.sk, .sk, .sk, .sk, .sk, (.b (a0.Name == a1.Name)), (.b (a0.Name == a1.Name)), (.b (a0.Name == a1.Name)), (.s a1.Name), (.p ⟨0, 3⟩ 3), (.s a0.Name), (.p ⟨0, 2⟩ 3), (.b (a0.N == a1.N)), (.b (a0.N == a1.N)), (.b (a0.N == a1.N)), (I a1.N), (.p ⟨0, 3⟩ 2), (I a0.N), (.p ⟨0, 2⟩ 2)] _ jn5; ai jn5 <| L h)) (fun h2 h => ai (g1 h2) <| ai (g1 h2) <| ai (g1 h2) <| ai (g1 h2) <| ai (g1 h2) <| ai h2 <| ai gf <| ai gf <| ai gf <| ai gf <| ai gf <| ai ff <| exB h fun x3 jn4 h => have jn4 := LD_show_sameExpr_j2 R hR a0 a1 false [.sk, .sk, .sk, .sk, .sk, (.b false), (.b false), .sk, .sk, .sk, .sk, .sk, (.b (a0.N == a1.N)), (.b (a0.N == a1.N)), (.b (a0.N == a1.N)), (I a1.N), (.p ⟨0, 3⟩ 2), (I a0.N), (.p ⟨0, 2⟩ 2)] _ jn4; ai jn4 <| L h)) (fun h1 h => ai (g1 h1) <| ai (g1 h1) <| ai (g1 h1) <| ai (g1 h1) <| ai (g1 h1) <| ai h1 <| ai gf <| ai gf <| ai gf <| ai gf <| ai gf <| ai ff <| ai gf <| ai gf <| ai gf <| ai gf <| ai gf <| ai ff <| exB h fun x2 jn3 h => have jn3 := LD_show_sameExpr_j2 R hR a0 a1 false [.sk, .sk, .sk, .sk, .sk, (.b false), (.b false), .sk, .sk, .sk, .sk, .sk, (.b false), (.b false), .sk, .sk, .sk, .sk, .sk] _ jn3; ai jn3 <| L h)) (by kernel_rfl)
noncomputable def FB_show_sameExpr (R : R_slices_EqualFunc__show_sameExpr_show_sameExpr) (a0 : TreeExpr) (a1 : TreeExpr) : Option Bool :=
  (D_show_sameExpr_j1 R a0 a1).bind fun (x1 : Bool) =>
  some x1
theorem liftB_show_sameExpr (R : R_slices_EqualFunc__show_sameExpr_show_sameExpr) (hR : OK_slices_EqualFunc__show_sameExpr_show_sameExpr R) (a0 : TreeExpr) (a1 : TreeExpr) (r : Bool) (h : FB_show_sameExpr R a0 a1 = some r) : O_show_sameExpr a0 a1 r :=
  have L := fun {a} => lY (Y := Y_show_sameExpr a0 a1) (a := a) (r := r)
  callT G30 (AT.jb (some 5) 26 <| AT.ex fun (x1 : Bool) => ao (.jn ⟨[(4, (.b x1))], [], H0⟩) <| AT.nil) (ai tt <| ai tt <| exB h fun x1 jn2 h => have jn2 := LD_show_sameExpr_j1 R hR a0 a1 _ jn2; ai jn2 <| L h) (by kernel_rfl)
noncomputable def N_slices_EqualFunc__show_sameExpr_show_sameExpr : Nat → R_slices_EqualFunc__show_sameExpr_show_sameExpr
  | 0 => ⟨fun z0 z1 => none, fun z0 z1 => none⟩
  | n + 1 => ⟨FB_slices_EqualFunc__show_sameExpr (N_slices_EqualFunc__show_sameExpr_show_sameExpr n), FB_show_sameExpr (N_slices_EqualFunc__show_sameExpr_show_sameExpr n)⟩
theorem ok_slices_EqualFunc__show_sameExpr_show_sameExpr : ∀ n, OK_slices_EqualFunc__show_sameExpr_show_sameExpr (N_slices_EqualFunc__show_sameExpr_show_sameExpr n)
  | 0 => ⟨fun _ _ r h => (by cases h), fun _ _ r h => (by cases h)⟩
  | n + 1 => ⟨fun a0 a1 r h => liftB_slices_EqualFunc__show_sameExpr _ (ok_slices_EqualFunc__show_sameExpr_show_sameExpr n) a0 a1 r h, fun a0 a1 r h => liftB_show_sameExpr _ (ok_slices_EqualFunc__show_sameExpr_show_sameExpr n) a0 a1 r h⟩
noncomputable def F_slices_EqualFunc__show_sameExpr (a0 : (List TreeExpr)) (a1 : (List TreeExpr)) : Option Bool := ev fun n => (N_slices_EqualFunc__show_sameExpr_show_sameExpr n).f_slices_EqualFunc__show_sameExpr a0 a1
theorem lift_slices_EqualFunc__show_sameExpr (a0 : (List TreeExpr)) (a1 : (List TreeExpr)) (r : Bool) (h : F_slices_EqualFunc__show_sameExpr a0 a1 = some r) : O_slices_EqualFunc__show_sameExpr a0 a1 r := by
  obtain ⟨n, hn⟩ := ev_some h
  exact (ok_slices_EqualFunc__show_sameExpr_show_sameExpr n).f_slices_EqualFunc__show_sameExpr a0 a1 r hn
noncomputable def F_show_sameExpr (a0 : TreeExpr) (a1 : TreeExpr) : Option Bool := ev fun n => (N_slices_EqualFunc__show_sameExpr_show_sameExpr n).f_show_sameExpr a0 a1
theorem lift_show_sameExpr (a0 : TreeExpr) (a1 : TreeExpr) (r : Bool) (h : F_show_sameExpr a0 a1 = some r) : O_show_sameExpr a0 a1 r := by
  obtain ⟨n, hn⟩ := ev_some h
  exact (ok_slices_EqualFunc__show_sameExpr_show_sameExpr n).f_show_sameExpr a0 a1 r hn
abbrev Y_slices_EqualFunc__show_sameStmt (a0 : (List TreeStmt)) (a1 : (List TreeStmt)) (r : Bool) : AEnd × HP := (.ret (.b r), H0)
abbrev O_slices_EqualFunc__show_sameStmt (a0 : (List TreeStmt)) (a1 : (List TreeStmt)) (r : Bool) : Prop := call G Ω0 E0 11 [(.l 45 (a0.map eTreeStmt)), (.l 45 (a1.map eTreeStmt)), (.f 12 [])] H0 = some (Y_slices_EqualFunc__show_sameStmt a0 a1 r)
abbrev Y_show_sameStmt (a0 : TreeStmt) (a1 : TreeStmt) (r : Bool) : AEnd × HP := (.ret (.b r), H0)
abbrev O_show_sameStmt (a0 : TreeStmt) (a1 : TreeStmt) (r : Bool) : Prop := call G Ω0 E0 12 [(.a (kTreeStmt a0)), (.a (kTreeStmt a1))] H0 = some (Y_show_sameStmt a0 a1 r)
structure R_slices_EqualFunc__show_sameStmt_show_sameStmt where
  f_slices_EqualFunc__show_sameStmt : (List TreeStmt) → (List TreeStmt) → Option Bool
  f_show_sameStmt : TreeStmt → TreeStmt → Option Bool

structure OK_slices_EqualFunc__show_sameStmt_show_sameStmt (R : R_slices_EqualFunc__show_sameStmt_show_sameStmt) : Prop where
  f_slices_EqualFunc__show_sameStmt : ∀ (a0 : (List TreeStmt)) (a1 : (List TreeStmt)) (r : Bool), R.f_slices_EqualFunc__show_sameStmt a0 a1 = some r → O_slices_EqualFunc__show_sameStmt a0 a1 r
  f_show_sameStmt : ∀ (a0 : TreeStmt) (a1 : TreeStmt) (r : Bool), R.f_show_sameStmt a0 a1 = some r → O_show_sameStmt a0 a1 r

noncomputable def B_slices_EqualFunc__show_sameStmt_0 (R : R_slices_EqualFunc__show_sameStmt_show_sameStmt) (a0 : (List TreeStmt)) (a1 : (List TreeStmt)) (v0_17 : Nat) : Option (Nat ⊕ (Unit ⊕ (Nat × Bool))) :=
  if (v0_17 : Int) < (a0.length : Int) then
    (a0[v0_17]?).bind fun (y3 : TreeStmt) =>
    (a1[v0_17]?).bind fun (y5 : TreeStmt) =>
    (R.f_show_sameStmt y3 y5).bind fun (r7 : Bool) =>
    if r7 = true then
      if IntKind.i64.wrap ((v0_17 : Int) + 1) = ((v0_17 + 1 : Nat) : Int) then
        some (.inl (v0_17 + 1))
      else none
    else
      some (.inr (.inl ()))
  else
    some (.inr (.inr (v0_17, decide ((v0_17 : Int) < (a0.length : Int)))))
abbrev S_slices_EqualFunc__show_sameStmt_0 (a0 : (List TreeStmt)) (a1 : (List TreeStmt)) (v : Nat) : St := ⟨[(1, (.l 45 (a1.map eTreeStmt))), (2, (.f 12 [])), (15, (.l 45 (a0.map eTreeStmt))), (16, (I (a0.length : Int))), (17, (I (v : Int)))], [], H0⟩
abbrev X_slices_EqualFunc__show_sameStmt_0 (a0 : (List TreeStmt)) (a1 : (List TreeStmt)) (x : (Unit ⊕ (Nat × Bool))) : AExit × St := match x with | .inl () => (.ret, ⟨[(6, (.b false))], [], H0⟩) | .inr (z1, z2) => ((.ex 0), ⟨[(1, (.l 45 (a1.map eTreeStmt))), (2, (.f 12 [])), (15, (.l 45 (a0.map eTreeStmt))), (16, (I (a0.length : Int))), (17, (I (z1 : Int))), (18, (.b z2))], [], H0⟩)
theorem LB_slices_EqualFunc__show_sameStmt_0 (R : R_slices_EqualFunc__show_sameStmt_show_sameStmt) (hR : OK_slices_EqualFunc__show_sameStmt_show_sameStmt R) (a0 : (List TreeStmt)) (a1 : (List TreeStmt)) (v0_17 : Nat) (o : Nat ⊕ (Unit ⊕ (Nat × Bool))) (h : B_slices_EqualFunc__show_sameStmt_0 R a0 a1 v0_17 = some o) : bodyOK E0 c11_0 (S_slices_EqualFunc__show_sameStmt_0 a0 a1) (X_slices_EqualFunc__show_sameStmt_0 a0 a1) v0_17 o :=
  have L := fun {a} => lY (Y := bodyY (S_slices_EqualFunc__show_sameStmt_0 a0 a1) (X_slices_EqualFunc__show_sameStmt_0 a0 a1)) (a := a) (r := o)
  bodyT (AT.or (bt <| ao (.n v0_17) <| AT.ex fun (y3 : TreeStmt) => ao (.v (.a (kTreeStmt y3))) <| bt <| bt <| ao (.n v0_17) <| AT.ex fun (y5 : TreeStmt) => ao (.v (.a (kTreeStmt y5))) <| bt <| bt <| bt <| bt <| AT.ex fun (r7 : Bool) => ao (.v (.b r7)) <| AT.or (bf <| ao (.i ((v0_17 + 1 : Nat) : Int)) <| AT.nil) (bt <| AT.nil)) (bf <| AT.nil)) (orP h (fun h2 h => ai (decide_eq_true h2) <| ai (rfl : (v0_17 : Int) = (v0_17 : Int)) <| exB h fun y3 h4 h => ai (map_getE eTreeStmt h4 (eTreeStmt_eq _)) <| ai tt <| ai ff <| ai (rfl : Z0) <| ai tt <| ai (rfl : Z0) <| ai (rfl : (v0_17 : Int) = (v0_17 : Int)) <| exB h fun y5 h6 h => ai (map_getE eTreeStmt h6 (eTreeStmt_eq _)) <| ai tt <| ai ff <| ai (rfl : Z0) <| ai tt <| ai (rfl : Z0) <| ai (rfl : Z0) <| ai (rfl : Z0) <| exB h fun r7 ek8 h => have ek8 := hR.f_show_sameStmt y3 y5 _ ek8; ai ek8 <| orB h (fun h9 h => ai (congrArg not h9) <| asrtP h fun w10 h => ai w10 <| L h) (fun h9 h => ai (congrArg not h9) <| L h)) (fun h2 h => ai (decide_eq_false h2) <| L h)) (by kernel_rfl)
theorem LL_slices_EqualFunc__show_sameStmt_0 (R : R_slices_EqualFunc__show_sameStmt_show_sameStmt) (hR : OK_slices_EqualFunc__show_sameStmt_show_sameStmt R) (a0 : (List TreeStmt)) (a1 : (List TreeStmt)) (v : Nat) (x : (Unit ⊕ (Nat × Bool))) (h : lp (fun v => B_slices_EqualFunc__show_sameStmt_0 R a0 a1 v) v = some x) : lpAt G Ω0 E0 c11_0 (S_slices_EqualFunc__show_sameStmt_0 a0 a1 v) = some (X_slices_EqualFunc__show_sameStmt_0 a0 a1 x) :=
  lp_lift c11_0 (S_slices_EqualFunc__show_sameStmt_0 a0 a1) (X_slices_EqualFunc__show_sameStmt_0 a0 a1) (fun _ => rfl) (fun v o h => LB_slices_EqualFunc__show_sameStmt_0 R hR a0 a1 v o h) h
noncomputable def FB_slices_EqualFunc__show_sameStmt (R : R_slices_EqualFunc__show_sameStmt_show_sameStmt) (a0 : (List TreeStmt)) (a1 : (List TreeStmt)) : Option Bool :=
  if ((a0.length : Int) != (a1.length : Int)) = true then
    some false
  else
    (lp (fun v => B_slices_EqualFunc__show_sameStmt_0 R a0 a1 v) 0).bind fun (x2 : (Unit ⊕ (Nat × Bool))) => match x2 with
    | .inl ya_3 =>
      some false
    | .inr yb_3 =>
      some true
theorem liftB_slices_EqualFunc__show_sameStmt (R : R_slices_EqualFunc__show_sameStmt_show_sameStmt) (hR : OK_slices_EqualFunc__show_sameStmt_show_sameStmt R) (a0 : (List TreeStmt)) (a1 : (List TreeStmt)) (r : Bool) (h : FB_slices_EqualFunc__show_sameStmt R a0 a1 = some r) : O_slices_EqualFunc__show_sameStmt a0 a1 r :=
  have L := fun {a} => lY (Y := Y_slices_EqualFunc__show_sameStmt a0 a1) (a := a) (r := r)
  callT G11 (ao (.i (a0.length : Int)) <| ao (.i (a1.length : Int)) <| AT.or (bt <| AT.nil) (bf <| ao (.i (a0.length : Int)) <| AT.or (AT.ex fun (ya_3 : Unit) => ao (.lp .ret ⟨[(6, (.b false))], [], H0⟩) <| AT.nil) (AT.ex fun (yb_3 : (Nat × Bool)) => ao (.lp (.ex 0) ⟨[(1, (.l 45 (a1.map eTreeStmt))), (2, (.f 12 [])), (15, (.l 45 (a0.map eTreeStmt))), (16, (I (a0.length : Int))), (17, (I (yb_3.1 : Int))), (18, (.b yb_3.2))], [], H0⟩) <| AT.nil))) (ai (map_len eTreeStmt a0) <| ai (map_len eTreeStmt a1) <| orB h (fun h1 h => ai h1 <| L h) (fun h1 h => ai h1 <| ai (map_len eTreeStmt a0) <| sum2 h (fun ya_3 lp4 h => have lp4 := LL_slices_EqualFunc__show_sameStmt_0 R hR a0 a1 0 _ lp4; ai lp4 <| L h) (fun yb_3 lp4 h => have lp4 := LL_slices_EqualFunc__show_sameStmt_0 R hR a0 a1 0 _ lp4; ai lp4 <| L h))) (by kernel_rfl)
noncomputable def q_show_sameStmt_j2 : List GOp := (gp 4 (.as (.t 51))) :: []
noncomputable def D_show_sameStmt_j2 (R : R_slices_EqualFunc__show_sameStmt_show_sameStmt) (a0 : TreeStmt) (a1 : TreeStmt) (u2_1 : Bool) : Option Bool :=
  some u2_1
abbrev X_show_sameStmt_j2 (a0 : TreeStmt) (a1 : TreeStmt) (u2_1 : Bool) (x : Bool) : St := ⟨[(4, (.b x))], [], H0⟩
abbrev O_show_sameStmt_j2 (a0 : TreeStmt) (a1 : TreeStmt) (u2_1 : Bool) (w : List AV) (x : Bool) : Prop := opsK G Ω0 E0 [4] [] q_show_sameStmt_j2 ⟨[(51, (.b u2_1)), (50, (W w 0)), (49, (W w 1)), (48, (W w 2)), (47, (W w 3)), (46, (W w 4)), (45, (W w 5)), (44, (W w 6)), (43, (W w 7)), (42, (W w 8)), (41, (W w 9)), (40, (W w 10)), (39, (W w 11)), (38, (W w 12)), (37, (W w 13)), (36, (W w 14)), (35, (W w 15)), (34, (W w 16)), (33, (W w 17)), (32, (W w 18)), (31, (W w 19)), (30, (W w 20)), (29, (W w 21)), (28, (W w 22)), (27, (W w 23)), (26, (W w 24)), (25, (W w 25)), (24, (W w 26)), (23, (W w 27)), (22, (W w 28)), (21, (W w 29)), (20, (W w 30)), (19, (W w 31)), (18, (W w 32)), (17, (W w 33)), (16, (W w 34)), (15, (W w 35)), (14, (W w 36)), (13, (W w 37)), (12, (W w 38)), (11, (W w 39)), (10, (.b (a0.Kind == a1.Kind))), (9, (.b (a0.Kind == a1.Kind))), (8, (I a1.Kind)), (7, (.p ⟨0, 3⟩ 0)), (6, (I a0.Kind)), (5, (.p ⟨0, 2⟩ 0)), (2, (.p ⟨0, 2⟩ 0)), (3, (.p ⟨0, 3⟩ 0))], [(2, (kTreeStmt a0)), (3, (kTreeStmt a1))], H0⟩ = some (X_show_sameStmt_j2 a0 a1 u2_1 x)
theorem LD_show_sameStmt_j2 (R : R_slices_EqualFunc__show_sameStmt_show_sameStmt) (hR : OK_slices_EqualFunc__show_sameStmt_show_sameStmt R) (a0 : TreeStmt) (a1 : TreeStmt) (u2_1 : Bool) (w : List AV) (x : Bool) (h : D_show_sameStmt_j2 R a0 a1 u2_1 = some x) : O_show_sameStmt_j2 a0 a1 u2_1 w x :=
  have L := fun {a} => lY (Y := X_show_sameStmt_j2 a0 a1 u2_1) (a := a) (r := x)
  opsKT (AT.nil) (L h) (by kernel_rfl)
noncomputable def q_show_sameStmt_j1 : List GOp := (gp 5 (.fa 0 (.t 2))) :: (gp 6 (.ld none (.t 5))) :: (gp 7 (.fa 0 (.t 3))) :: (gp 8 (.ld none (.t 7))) :: (gp 9 (.bo .eql false (.t 6) (.t 8))) :: (gp 10 (.mv (.t 9))) :: ⟨some 11, .fa 2 (.t 2), some ⟨10, true⟩, false⟩ :: ⟨some 12, .ld none (.t 11), some ⟨10, true⟩, false⟩ :: ⟨some 13, .fa 2 (.t 3), some ⟨10, true⟩, false⟩ :: ⟨some 14, .ld none (.t 13), some ⟨10, true⟩, false⟩ :: ⟨some 15, .bo .eql false (.t 12) (.t 14), some ⟨10, true⟩, false⟩ :: (gp 16 (.pk (.t 10) (.t 15) (.c (.b false)))) :: (gp 17 (.mv (.t 16))) :: ⟨some 18, .fa 3 (.t 2), some ⟨17, true⟩, false⟩ :: ⟨some 19, .ld none (.t 18), some ⟨17, true⟩, false⟩ :: ⟨some 20, .fa 3 (.t 3), some ⟨17, true⟩, false⟩ :: ⟨some 21, .ld none (.t 20), some ⟨17, true⟩, false⟩ :: ⟨some 22, .bo .eql false (.t 19) (.t 21), some ⟨17, true⟩, false⟩ :: (gp 23 (.pk (.t 17) (.t 22) (.c (.b false)))) :: (gp 24 (.mv (.t 23))) :: ⟨some 25, .fa 4 (.t 2), some ⟨24, true⟩, false⟩ :: ⟨some 26, .ld (some 5) (.t 25), some ⟨24, true⟩, false⟩ :: ⟨some 27, .fa 4 (.t 3), some ⟨24, true⟩, false⟩ :: ⟨some 28, .ld (some 5) (.t 27), some ⟨24, true⟩, false⟩ :: ⟨some 29, .ca 0 30 [(.t 26), (.t 28)], some ⟨24, true⟩, false⟩ :: (gp 30 (.pk (.t 24) (.t 29) (.c (.b false)))) :: (gp 31 (.mv (.t 30))) :: ⟨some 32, .fa 9 (.t 2), some ⟨31, true⟩, false⟩ :: ⟨some 33, .ld none (.t 32), some ⟨31, true⟩, false⟩ :: ⟨some 34, .fa 9 (.t 3), some ⟨31, true⟩, false⟩ :: ⟨some 35, .ld none (.t 34), some ⟨31, true⟩, false⟩ :: ⟨some 36, .c2 31 [(.t 33), (.t 35), (.c (.f 30 []))], some ⟨31, true⟩, false⟩ :: (gp 37 (.pk (.t 31) (.t 36) (.c (.b false)))) :: (gp 38 (.mv (.t 37))) :: ⟨some 39, .fa 10 (.t 2), some ⟨38, true⟩, false⟩ :: ⟨some 40, .ld none (.t 39), some ⟨38, true⟩, false⟩ :: ⟨some 41, .fa 10 (.t 3), some ⟨38, true⟩, false⟩ :: ⟨some 42, .ld none (.t 41), some ⟨38, true⟩, false⟩ :: ⟨some 43, .c2 11 [(.t 40), (.t 42), (.c (.f 12 []))], some ⟨38, true⟩, false⟩ :: (gp 44 (.pk (.t 38) (.t 43) (.c (.b false)))) :: (gp 45 (.mv (.t 44))) :: ⟨some 46, .fa 11 (.t 2), some ⟨45, true⟩, false⟩ :: ⟨some 47, .ld none (.t 46), some ⟨45, true⟩, false⟩ :: ⟨some 48, .fa 11 (.t 3), some ⟨45, true⟩, false⟩ :: ⟨some 49, .ld none (.t 48), some ⟨45, true⟩, false⟩ :: ⟨some 50, .c2 11 [(.t 47), (.t 49), (.c (.f 12 []))], some ⟨45, true⟩, false⟩ :: (gp 51 (.pk (.t 45) (.t 50) (.c (.b false)))) :: q_show_sameStmt_j2
noncomputable def D_show_sameStmt_j1 (R : R_slices_EqualFunc__show_sameStmt_show_sameStmt) (a0 : TreeStmt) (a1 : TreeStmt) : Option Bool :=
  if (a0.Kind == a1.Kind) = true then
    if (a0.Name == a1.Name) = true then
      if (a0.Other == a1.Other) = true then
        (F_show_sameExpr a0.Expr a1.Expr).bind fun (r4 : Bool) =>
        if r4 = true then
          (F_slices_EqualFunc__show_sameExpr a0.Args a1.Args).bind fun (r7 : Bool) =>
          if r7 = true then
            (R.f_slices_EqualFunc__show_sameStmt a0.Then a1.Then).bind fun (r10 : Bool) =>
            if r10 = true then
              (R.f_slices_EqualFunc__show_sameStmt a0.Else a1.Else).bind fun (r13 : Bool) =>
              (D_show_sameStmt_j2 R a0 a1 r13).bind fun (x15 : Bool) =>
              some x15
            else
              (D_show_sameStmt_j2 R a0 a1 false).bind fun (x13 : Bool) =>
              some x13
          else
            (D_show_sameStmt_j2 R a0 a1 false).bind fun (x10 : Bool) =>
            some x10
        else
          (D_show_sameStmt_j2 R a0 a1 false).bind fun (x7 : Bool) =>
          some x7
      else
        (D_show_sameStmt_j2 R a0 a1 false).bind fun (x4 : Bool) =>
        some x4
    else
      (D_show_sameStmt_j2 R a0 a1 false).bind fun (x3 : Bool) =>
      some x3
  else
    (D_show_sameStmt_j2 R a0 a1 false).bind fun (x2 : Bool) =>
    some x2
abbrev X_show_sameStmt_j1 (a0 : TreeStmt) (a1 : TreeStmt) (x : Bool) : St := ⟨[(4, (.b x))], [], H0⟩
abbrev O_show_sameStmt_j1 (a0 : TreeStmt) (a1 : TreeStmt) (x : Bool) : Prop := opsK G Ω0 E0 [4] [] q_show_sameStmt_j1 ⟨[(2, (.p ⟨0, 2⟩ 0)), (3, (.p ⟨0, 3⟩ 0))], [(2, (kTreeStmt a0)), (3, (kTreeStmt a1))], H0⟩ = some (X_show_sameStmt_j1 a0 a1 x)
theorem LD_show_sameStmt_j1 (R : R_slices_EqualFunc__show_sameStmt_show_sameStmt) (hR : OK_slices_EqualFunc__show_sameStmt_show_sameStmt R) (a0 : TreeStmt) (a1 : TreeStmt) (x : Bool) (h : D_show_sameStmt_j1 R a0 a1 = some x) : O_show_sameStmt_j1 a0 a1 x :=
  have L := fun {a} => lY (Y := X_show_sameStmt_j1 a0 a1) (a := a) (r := x)
  opsKT (bt <| bt <| AT.or (bt <| bt <| bt <| bt <| bt <| bt <| bt <| bt <| AT.or (bt <| bt <| bt <| bt <| bt <| bt <| bt <| bt <| AT.or (bt <| bt <| bt <| bt <| bt <| bt <| bt <| AT.ex fun (r4 : Bool) => ao (.v (.b r4)) <| bt <| AT.or (bt <| bt <| bt <| bt <| bt <| bt <| bt <| AT.ex fun (r7 : Bool) => ao (.v (.b r7)) <| bt <| AT.or (bt <| bt <| bt <| bt <| bt <| bt <| bt <| AT.ex fun (r10 : Bool) => ao (.v (.b r10)) <| bt <| AT.or (bt <| bt <| bt <| bt <| bt <| bt <| bt <| AT.ex fun (r13 : Bool) => ao (.v (.b r13)) <| bt <| AT.jb (some 4) 0 <| AT.ex fun (x15 : Bool) => ao (.jn ⟨[(4, (.b x15))], [], H0⟩) <| AT.nil) (bf <| bf <| bf <| bf <| bf <| bf <| AT.jb (some 4) 0 <| AT.ex fun (x13 : Bool) => ao (.jn ⟨[(4, (.b x13))], [], H0⟩) <| AT.nil)) (bf <| bf <| bf <| bf <| bf <| bf <| bf <| bf <| bf <| bf <| bf <| bf <| AT.jb (some 4) 0 <| AT.ex fun (x10 : Bool) => ao (.jn ⟨[(4, (.b x10))], [], H0⟩) <| AT.nil)) (bf <| bf <| bf <| bf <| bf <| bf <| bf <| bf <| bf <| bf <| bf <| bf <| bf <| bf <| bf <| bf <| bf <| bf <| AT.jb (some 4) 0 <| AT.ex fun (x7 : Bool) => ao (.jn ⟨[(4, (.b x7))], [], H0⟩) <| AT.nil)) (bf <| bf <| bf <| bf <| bf <| bf <| bf <| bf <| bf <| bf <| bf <| bf <| bf <| bf <| bf <| bf <| bf <| bf <| bf <| bf <| bf <| bf <| bf <| bf <| AT.jb (some 4) 0 <| AT.ex fun (x4 : Bool) => ao (.jn ⟨[(4, (.b x4))], [], H0⟩) <| AT.nil)) (bf <| bf <| bf <| bf <| bf <| bf <| bf <| bf <| bf <| bf <| bf <| bf <| bf <| bf <| bf <| bf <| bf <| bf <| bf <| bf <| bf <| bf <| bf <| bf <| bf <| bf <| bf <| bf <| bf <| bf <| AT.jb (some 4) 0 <| AT.ex fun (x3 : Bool) => ao (.jn ⟨[(4, (.b x3))], [], H0⟩) <| AT.nil)) (bf <| bf <| bf <| bf <| bf <| bf <| bf <| bf <| bf <| bf <| bf <| bf <| bf <| bf <| bf <| bf <| bf <| bf <| bf <| bf <| bf <| bf <| bf <| bf <| bf <| bf <| bf <| bf <| bf <| bf <| bf <| bf <| bf <| bf <| bf <| bf <| AT.jb (some 4) 0 <| AT.ex fun (x2 : Bool) => ao (.jn ⟨[(4, (.b x2))], [], H0⟩) <| AT.nil)) (ai (rfl : Z0) <| ai (rfl : Z0) <| orB h (fun h1 h => ai (g1 h1) <| ai (g1 h1) <| ai (rfl : Z0) <| ai (g1 h1) <| ai (g1 h1) <| ai (rfl : Z0) <| ai (g1 h1) <| ai h1 <| orB h (fun h2 h => ai (g1 h2) <| ai (g1 h2) <| ai (rfl : Z0) <| ai (g1 h2) <| ai (g1 h2) <| ai (rfl : Z0) <| ai (g1 h2) <| ai h2 <| orB h (fun h3 h => ai (g1 h3) <| ai (g1 h3) <| ai (rfl : Z0) <| ai (g1 h3) <| ai (g1 h3) <| ai (rfl : Z0) <| ai (g1 h3) <| exB h fun r4 ek5 h => have ek5 := lift_show_sameExpr a0.Expr a1.Expr _ ek5; ai ek5 <| ai h3 <| orB h (fun h6 h => ai (g1 h6) <| ai (g1 h6) <| ai (rfl : Z0) <| ai (g1 h6) <| ai (g1 h6) <| ai (rfl : Z0) <| ai (g1 h6) <| exB h fun r7 ek8 h => have ek8 := lift_slices_EqualFunc__show_sameExpr a0.Args a1.Args _ ek8; ai ek8 <| ai h6 <| orB h (fun h9 h => ai (g1 h9) <| ai (g1 h9) <| ai (rfl : Z0) <| ai (g1 h9) <| ai (g1 h9) <| ai (rfl : Z0) <| ai (g1 h9) <| exB h fun r10 ek11 h => have ek11 := hR.f_slices_EqualFunc__show_sameStmt a0.Then a1.Then _ ek11; ai ek11 <| ai h9 <| orB h (fun h12 h => ai (g1 h12) <| ai (g1 h12) <| ai (rfl : Z0) <| ai (g1 h12) <| ai (g1 h12) <| ai (rfl : Z0) <| ai (g1 h12) <| exB h fun r13 ek14 h => have ek14 := hR.f_slices_EqualFunc__show_sameStmt a0.Else a1.Else _ ek14; ai ek14 <| ai h12 <| exB h fun x15 jn16 h => have jn16 := LD_show_sameStmt_j2 R hR a0 a1 r13 [(.b r13), (.l 45 (a1.Else.map eTreeStmt)), (.p ⟨0, 3⟩ 11), (.l 45 (a0.Else.map eTreeStmt)), (.p ⟨0, 2⟩ 11), (.b r10), (.b r10), (.b r10), (.l 45 (a1.Then.map eTreeStmt)), (.p ⟨0, 3⟩ 10), (.l 45 (a0.Then.map eTreeStmt)), (.p ⟨0, 2⟩ 10), (.b r7), (.b r7), (.b r7), (.l 39 (a1.Args.map eTreeExpr)), (.p ⟨0, 3⟩ 9), (.l 39 (a0.Args.map eTreeExpr)), (.p ⟨0, 2⟩ 9), (.b r4), (.b r4), (.b r4), (.a (kTreeExpr a1.Expr)), (.p ⟨0, 3⟩ 4), (.a (kTreeExpr a0.Expr)), (.p ⟨0, 2⟩ 4), (.b (a0.Other == a1.Other)), (.b (a0.Other == a1.Other)), (.b (a0.Other == a1.Other)), (.s a1.Other), (.p ⟨0, 3⟩ 3), (.s a0.Other), (.p ⟨0, 2⟩ 3), (.b (a0.Name == a1.Name)), (.b (a0.Name == a1.Name)), (.b (a0.Name == a1.Name)), (.s a1.Name), (.p ⟨0, 3⟩ 2), (.s a0.Name), (.p ⟨0, 2⟩ 2)] _ jn16; ai jn16 <| L h) (fun h12 h => ai (g1 h12) <| ai (g1 h12) <| ai (g1 h12) <| ai (g1 h12) <| ai (g1 h12) <| ai h12 <| exB h fun x13 jn14 h => have jn14 := LD_show_sameStmt_j2 R hR a0 a1 false [.sk, .sk, .sk, .sk, .sk, (.b r10), (.b r10), (.b r10), (.l 45 (a1.Then.map eTreeStmt)), (.p ⟨0, 3⟩ 10), (.l 45 (a0.Then.map eTreeStmt)), (.p ⟨0, 2⟩ 10), (.b r7), (.b r7), (.b r7), (.l 39 (a1.Args.map eTreeExpr)), (.p ⟨0, 3⟩ 9), (.l 39 (a0.Args.map eTreeExpr)), (.p ⟨0, 2⟩ 9), (.b r4), (.b r4), (.b r4), (.a (kTreeExpr a1.Expr)), (.p ⟨0, 3⟩ 4), (.a (kTreeExpr a0.Expr)), (.p ⟨0, 2⟩ 4), (.b (a0.Other == a1.Other)), (.b (a0.Other == a1.Other)), (.b (a0.Other == a1.Other)), (.s a1.Other), (.p ⟨0, 3⟩ 3), (.s a0.Other), (.p ⟨0, 2⟩ 3), (.b (a0.Name == a1.Name)), (.b (a0.Name == a1.Name)), (.b (a0.Name == a1.Name)), (.s a1.Name), (.p ⟨0, 3⟩ 2), (.s a0.Name), (.p ⟨0, 2⟩ 2)] _ jn14; ai jn14 <| L h)) (fun h9 h => ai (g1 h9) <| ai (g1 h9) <| ai (g1 h9) <| ai (g1 h9) <| ai (g1 h9) <| ai h9 <| ai gf <| ai gf <| ai gf <| ai gf <| ai gf <| ai ff <| exB h fun x10 jn11 h => have jn11 := LD_show_sameStmt_j2 R hR a0 a1 false [.sk, .sk, .sk, .sk, .sk, (.b false), (.b false), .sk, .sk, .sk, .sk, .sk, (.b r7), (.b r7), (.b r7), (.l 39 (a1.Args.map eTreeExpr)), (.p ⟨0, 3⟩ 9), (.l 39 (a0.Args.map eTreeExpr)), (.p ⟨0, 2⟩ 9), (.b r4), (.b r4), (.b r4), (.a (kTreeExpr a1.Expr)), (.p ⟨0, 3⟩ 4), (.a (kTreeExpr a0.Expr)), (.p ⟨0, 2⟩ 4), (.b (a0.Other == a1.Other)), (.b (a0.Other == a1.Other)), (.b (a0.Other == a1.Other)), (.s a1.Other), (.p ⟨0, 3⟩ 3), (.s a0.Other), (.p ⟨0, 2⟩ 3), (.b (a0.Name == a1.Name)), (.b (a0.Name == a1.Name)), (.b (a0.Name == a1.Name)), (.s a1.Name), (.p ⟨0, 3⟩ 2), (.s a0.Name), (.p ⟨0, 2⟩ 2)] _ jn11; ai jn11 <| L h)) (fun h6 h => ai (g1 h6) <| ai (g1 h6) <| ai (g1 h6) <| ai (g1 h6) <| ai (g1 h6) <| ai h6 <| ai gf <| ai gf <| ai gf <| ai gf <| ai gf <| ai ff <| ai gf <| ai gf <| ai gf <| ai gf <| ai gf <| ai ff <| exB h fun x7 jn8 h => have jn8 := LD_show_sameStmt_j2 R hR a0 a1 false [.sk, .sk, .sk, .sk, .sk, (.b false), (.b false), .sk, .sk, .sk, .sk, .sk, (.b false), (.b false), .sk, .sk, .sk, .sk, .sk, (.b r4), (.b r4), (.b r4), (.a (kTreeExpr a1.Expr)), (.p ⟨0, 3⟩ 4), (.a (kTreeExpr a0.Expr)), (.p ⟨0, 2⟩ 4), (.b (a0.Other == a1.Other)), (.b (a0.Other == a1.Other)), (.b (a0.Other == a1.Other)), (.s a1.Other), (.p ⟨0, 3⟩ 3), (.s a0.Other), (.p ⟨0, 2⟩ 3), (.b (a0.Name == a1.Name)), (.b (a0.Name == a1.Name)), (.b (a0.Name == a1.Name)), (.s a1.Name), (.p ⟨0, 3⟩ 2), (.s a0.Name), (.p ⟨0, 2⟩ 2)] _ jn8; ai jn8 <| L h)) (fun h3 h => ai (g1 h3) <| ai (g1 h3) <| ai (g1 h3) <| ai (g1 h3) <| ai (g1 h3) <| ai h3 <| ai gf <| ai gf <| ai gf <| ai gf <| ai gf <| ai ff <| ai gf <| ai gf <| ai gf <| ai gf <| ai gf <| ai ff <| ai gf <| ai gf <| ai gf <| ai gf <| ai gf <| ai ff <| exB h fun x4 jn5 h => have jn5 := LD_show_sameStmt_j2 R hR a0 a1 false [.sk, .sk, .sk, .sk, .sk, (.b false), (.b false), .sk, .sk, .sk, .sk, .sk, (.b false), (.b false), .sk, .sk, .sk, .sk, .sk, (.b false), (.b false), .sk, .sk, .sk, .sk, .sk, (.b (a0.Other == a1.Other)), (.b (a0.Other == a1.Other)), (.b (a0.Other == a1.Other)), (.s a1.Other), (.p ⟨0, 3⟩ 3), (.s a0.Other), (.p ⟨0, 2⟩ 3), (.b (a0.Name == a1.Name)), (.b (a0.Name == a1.Name)), (.b (a0.Name == a1.Name)), (.s a1.Name), (.p ⟨0, 3⟩ 2), (.s a0.Name), (.p ⟨0, 2⟩ 2)] _ jn5; ai jn5 <| L h)) (fun h2 h => ai (g1 h2) <| ai (g1 h2) <| ai (g1 h2) <| ai (g1 h2) <| ai (g1 h2) <| ai h2 <| ai gf <| ai gf <| ai gf <| ai gf <| ai gf <| ai ff <| ai gf <| ai gf <| ai gf <| ai gf <| ai gf <| ai ff <| ai gf <| ai gf <| ai gf <| ai gf <| ai gf <| ai ff <| ai gf <| ai gf <| ai gf <| ai gf <| ai gf <| ai ff <| exB h fun x3 jn4 h => have jn4 := LD_show_sameStmt_j2 R hR a0 a1 false [.sk, .sk, .sk, .sk, .sk, (.b false), (.b false), .sk, .sk, .sk, .sk, .sk, (.b false), (.b false), .sk, .sk, .sk, .sk, .sk, (.b false), (.b false), .sk, .sk, .sk, .sk, .sk, (.b false), (.b false), .sk, .sk, .sk, .sk, .sk, (.b (a0.Name == a1.Name)), (.b (a0.Name == a1.Name)), (.b (a0.Name == a1.Name)), (.s a1.Name), (.p ⟨0, 3⟩ 2), (.s a0.Name), (.p ⟨0, 2⟩ 2)] _ jn4; ai jn4 <| L h)) (fun h1 h => ai (g1 h1) <| ai (g1 h1) <| ai (g1 h1) <| ai (g1 h1) <| ai (g1 h1) <| ai h1 <| ai gf <| ai gf <| ai gf <| ai gf <| ai gf <| ai ff <| ai gf <| ai gf <| ai gf <| ai gf <| ai gf <| ai ff <| ai gf <| ai gf <| ai gf <| ai gf <| ai gf <| ai ff <| ai gf <| ai gf <| ai gf <| ai gf <| ai gf <| ai ff <| ai gf <| ai gf <| ai gf <| ai gf <| ai gf <| ai ff <| exB h fun x2 jn3 h => have jn3 := LD_show_sameStmt_j2 R hR a0 a1 false [.sk, .sk, .sk, .sk, .sk, (.b false), (.b false), .sk, .sk, .sk, .sk, .sk, (.b false), (.b false), .sk, .sk, .sk, .sk, .sk, (.b false), (.b false), .sk, .sk, .sk, .sk, .sk, (.b false), (.b false), .sk, .sk, .sk, .sk, .sk, (.b false), (.b false), .sk, .sk, .sk, .sk, .sk] _ jn3; ai jn3 <| L h)) (by kernel_rfl)
noncomputable def FB_show_sameStmt (R : R_slices_EqualFunc__show_sameStmt_show_sameStmt) (a0 : TreeStmt) (a1 : TreeStmt) : Option Bool :=
  (D_show_sameStmt_j1 R a0 a1).bind fun (x1 : Bool) =>
  some x1
theorem liftB_show_sameStmt (R : R_slices_EqualFunc__show_sameStmt_show_sameStmt) (hR : OK_slices_EqualFunc__show_sameStmt_show_sameStmt R) (a0 : TreeStmt) (a1 : TreeStmt) (r : Bool) (h : FB_show_sameStmt R a0 a1 = some r) : O_show_sameStmt a0 a1 r :=
  have L := fun {a} => lY (Y := Y_show_sameStmt a0 a1) (a := a) (r := r)
  callT G12 (AT.jb (some 5) 47 <| AT.ex fun (x1 : Bool) => ao (.jn ⟨[(4, (.b x1))], [], H0⟩) <| AT.nil) (ai tt <| ai tt <| exB h fun x1 jn2 h => have jn2 := LD_show_sameStmt_j1 R hR a0 a1 _ jn2; ai jn2 <| L h) (by kernel_rfl)
noncomputable def N_slices_EqualFunc__show_sameStmt_show_sameStmt : Nat → R_slices_EqualFunc__show_sameStmt_show_sameStmt
  | 0 => ⟨fun z0 z1 => none, fun z0 z1 => none⟩
  | n + 1 => ⟨FB_slices_EqualFunc__show_sameStmt (N_slices_EqualFunc__show_sameStmt_show_sameStmt n), FB_show_sameStmt (N_slices_EqualFunc__show_sameStmt_show_sameStmt n)⟩
theorem ok_slices_EqualFunc__show_sameStmt_show_sameStmt : ∀ n, OK_slices_EqualFunc__show_sameStmt_show_sameStmt (N_slices_EqualFunc__show_sameStmt_show_sameStmt n)
  | 0 => ⟨fun _ _ r h => (by cases h), fun _ _ r h => (by cases h)⟩
  | n + 1 => ⟨fun a0 a1 r h => liftB_slices_EqualFunc__show_sameStmt _ (ok_slices_EqualFunc__show_sameStmt_show_sameStmt n) a0 a1 r h, fun a0 a1 r h => liftB_show_sameStmt _ (ok_slices_EqualFunc__show_sameStmt_show_sameStmt n) a0 a1 r h⟩
noncomputable def F_slices_EqualFunc__show_sameStmt (a0 : (List TreeStmt)) (a1 : (List TreeStmt)) : Option Bool := ev fun n => (N_slices_EqualFunc__show_sameStmt_show_sameStmt n).f_slices_EqualFunc__show_sameStmt a0 a1
theorem lift_slices_EqualFunc__show_sameStmt (a0 : (List TreeStmt)) (a1 : (List TreeStmt)) (r : Bool) (h : F_slices_EqualFunc__show_sameStmt a0 a1 = some r) : O_slices_EqualFunc__show_sameStmt a0 a1 r := by
  obtain ⟨n, hn⟩ := ev_some h
  exact (ok_slices_EqualFunc__show_sameStmt_show_sameStmt n).f_slices_EqualFunc__show_sameStmt a0 a1 r hn
noncomputable def F_show_sameStmt (a0 : TreeStmt) (a1 : TreeStmt) : Option Bool := ev fun n => (N_slices_EqualFunc__show_sameStmt_show_sameStmt n).f_show_sameStmt a0 a1
theorem lift_show_sameStmt (a0 : TreeStmt) (a1 : TreeStmt) (r : Bool) (h : F_show_sameStmt a0 a1 = some r) : O_show_sameStmt a0 a1 r := by
  obtain ⟨n, hn⟩ := ev_some h
  exact (ok_slices_EqualFunc__show_sameStmt_show_sameStmt n).f_show_sameStmt a0 a1 r hn
noncomputable def q_show_sameDecl_j2 : List GOp := (gp 52 (.mv (.t 51))) :: ⟨some 53, .fa 8 (.t 2), some ⟨52, true⟩, false⟩ :: ⟨some 54, .ld (some 5) (.t 53), some ⟨52, true⟩, false⟩ :: ⟨some 55, .fa 8 (.t 3), some ⟨52, true⟩, false⟩ :: ⟨some 56, .ld (some 5) (.t 55), some ⟨52, true⟩, false⟩ :: ⟨some 57, .ca 0 30 [(.t 54), (.t 56)], some ⟨52, true⟩, false⟩ :: (gp 58 (.pk (.t 52) (.t 57) (.c (.b false)))) :: (gp 4 (.as (.t 58))) :: []
noncomputable def D_show_sameDecl_j2 (a0 : TreeDecl) (a1 : TreeDecl) (u2_1 : Bool) (u2_2 : Bool) : Option Bool :=
  if u2_1 = true then
    (F_show_sameExpr a0.Result a1.Result).bind fun (r14 : Bool) =>
    some r14
  else
    some false
abbrev X_show_sameDecl_j2 (a0 : TreeDecl) (a1 : TreeDecl) (u2_1 : Bool) (u2_2 : Bool) (x : Bool) : St := ⟨[(4, (.b x))], [], H0⟩
abbrev O_show_sameDecl_j2 (a0 : TreeDecl) (a1 : TreeDecl) (u2_1 : Bool) (u2_2 : Bool) (w : List AV) (x : Bool) : Prop := opsK G Ω0 E0 [4] [] q_show_sameDecl_j2 ⟨[(51, (.b u2_1)), (50, (W w 0)), (49, (W w 1)), (48, (W w 2)), (47, (W w 3)), (46, (W w 4)), (45, (W w 5)), (44, (W w 6)), (43, (W w 7)), (42, (W w 8)), (41, (W w 9)), (40, (W w 10)), (39, (W w 11)), (38, (W w 12)), (37, (W w 13)), (36, (W w 14)), (35, (W w 15)), (34, (W w 16)), (33, (W w 17)), (32, (W w 18)), (31, (W w 19)), (30, (.b u2_2)), (29, (W w 20)), (28, (W w 21)), (27, (W w 22)), (26, (W w 23)), (25, (W w 24)), (24, (W w 25)), (23, (W w 26)), (22, (W w 27)), (21, (W w 28)), (20, (W w 29)), (19, (W w 30)), (18, (W w 31)), (17, (W w 32)), (16, (W w 33)), (15, (W w 34)), (14, (W w 35)), (13, (W w 36)), (12, (W w 37)), (11, (W w 38)), (10, (.b (a0.Kind == a1.Kind))), (9, (.b (a0.Kind == a1.Kind))), (8, (I a1.Kind)), (7, (.p ⟨0, 3⟩ 0)), (6, (I a0.Kind)), (5, (.p ⟨0, 2⟩ 0)), (2, (.p ⟨0, 2⟩ 0)), (3, (.p ⟨0, 3⟩ 0))], [(2, (kTreeDecl a0)), (3, (kTreeDecl a1))], H0⟩ = some (X_show_sameDecl_j2 a0 a1 u2_1 u2_2 x)
theorem LD_show_sameDecl_j2 (a0 : TreeDecl) (a1 : TreeDecl) (u2_1 : Bool) (u2_2 : Bool) (w : List AV) (x : Bool) (h : D_show_sameDecl_j2 a0 a1 u2_1 u2_2 = some x) : O_show_sameDecl_j2 a0 a1 u2_1 u2_2 w x :=
  have L := fun {a} => lY (Y := X_show_sameDecl_j2 a0 a1 u2_1 u2_2) (a := a) (r := x)
  opsKT (AT.or (bt <| bt <| bt <| bt <| bt <| bt <| bt <| AT.ex fun (r14 : Bool) => ao (.v (.b r14)) <| bt <| AT.nil) (bf <| bf <| bf <| bf <| bf <| bf <| AT.nil)) (orB h (fun h13 h => ai (g1 h13) <| ai (g1 h13) <| ai (rfl : Z0) <| ai (g1 h13) <| ai (g1 h13) <| ai (rfl : Z0) <| ai (g1 h13) <| exB h fun r14 ek15 h => have ek15 := lift_show_sameExpr a0.Result a1.Result _ ek15; ai ek15 <| ai h13 <| L h) (fun h13 h => ai (g1 h13) <| ai (g1 h13) <| ai (g1 h13) <| ai (g1 h13) <| ai (g1 h13) <| ai h13 <| L h)) (by kernel_rfl)
noncomputable def q_show_sameDecl_j1 : List GOp := (gp 5 (.fa 0 (.t 2))) :: (gp 6 (.ld none (.t 5))) :: (gp 7 (.fa 0 (.t 3))) :: (gp 8 (.ld none (.t 7))) :: (gp 9 (.bo .eql false (.t 6) (.t 8))) :: (gp 10 (.mv (.t 9))) :: ⟨some 11, .fa 2 (.t 2), some ⟨10, true⟩, false⟩ :: ⟨some 12, .ld none (.t 11), some ⟨10, true⟩, false⟩ :: ⟨some 13, .fa 2 (.t 3), some ⟨10, true⟩, false⟩ :: ⟨some 14, .ld none (.t 13), some ⟨10, true⟩, false⟩ :: ⟨some 15, .bo .eql false (.t 12) (.t 14), some ⟨10, true⟩, false⟩ :: (gp 16 (.pk (.t 10) (.t 15) (.c (.b false)))) :: (gp 17 (.mv (.t 16))) :: ⟨some 18, .fa 3 (.t 2), some ⟨17, true⟩, false⟩ :: ⟨some 19, .ld none (.t 18), some ⟨17, true⟩, false⟩ :: ⟨some 20, .fa 3 (.t 3), some ⟨17, true⟩, false⟩ :: ⟨some 21, .ld none (.t 20), some ⟨17, true⟩, false⟩ :: ⟨some 22, .bo .eql false (.t 19) (.t 21), some ⟨17, true⟩, false⟩ :: (gp 23 (.pk (.t 17) (.t 22) (.c (.b false)))) :: (gp 24 (.mv (.t 23))) :: ⟨some 25, .fa 4 (.t 2), some ⟨24, true⟩, false⟩ :: ⟨some 26, .ld none (.t 25), some ⟨24, true⟩, false⟩ :: ⟨some 27, .fa 4 (.t 3), some ⟨24, true⟩, false⟩ :: ⟨some 28, .ld none (.t 27), some ⟨24, true⟩, false⟩ :: ⟨some 29, .bo .eql true (.t 26) (.t 28), some ⟨24, true⟩, false⟩ :: (gp 30 (.pk (.t 24) (.t 29) (.c (.b false)))) :: (gp 31 (.mv (.t 30))) :: ⟨some 32, .fa 5 (.t 2), some ⟨31, true⟩, false⟩ :: ⟨some 33, .ld none (.t 32), some ⟨31, true⟩, false⟩ :: ⟨some 34, .fa 5 (.t 3), some ⟨31, true⟩, false⟩ :: ⟨some 35, .ld none (.t 34), some ⟨31, true⟩, false⟩ :: ⟨some 36, .c2 27 [(.t 33), (.t 35), (.c (.f 28 []))], some ⟨31, true⟩, false⟩ :: (gp 37 (.pk (.t 31) (.t 36) (.c (.b false)))) :: (gp 38 (.mv (.t 37))) :: ⟨some 39, .fa 6 (.t 2), some ⟨38, true⟩, false⟩ :: ⟨some 40, .ld none (.t 39), some ⟨38, true⟩, false⟩ :: ⟨some 41, .fa 6 (.t 3), some ⟨38, true⟩, false⟩ :: ⟨some 42, .ld none (.t 41), some ⟨38, true⟩, false⟩ :: ⟨some 43, .ca 0 29 [(.t 40), (.t 42)], some ⟨38, true⟩, false⟩ :: (gp 44 (.pk (.t 38) (.t 43) (.c (.b false)))) :: (gp 45 (.mv (.t 44))) :: ⟨some 46, .fa 7 (.t 2), some ⟨45, true⟩, false⟩ :: ⟨some 47, .ld none (.t 46), some ⟨45, true⟩, false⟩ :: ⟨some 48, .fa 7 (.t 3), some ⟨45, true⟩, false⟩ :: ⟨some 49, .ld none (.t 48), some ⟨45, true⟩, false⟩ :: ⟨some 50, .c2 11 [(.t 47), (.t 49), (.c (.f 12 []))], some ⟨45, true⟩, false⟩ :: (gp 51 (.pk (.t 45) (.t 50) (.c (.b false)))) :: q_show_sameDecl_j2
noncomputable def D_show_sameDecl_j1 (a0 : TreeDecl) (a1 : TreeDecl) : Option Bool :=
  if (a0.Kind == a1.Kind) = true then
    if (a0.Name == a1.Name) = true then
      if (a0.Other == a1.Other) = true then
        if (a0.Given == a1.Given) = true then
          (F_slices_EqualFunc__show_samePolicy a0.Label a1.Label).bind fun (r5 : Bool) =>
          if r5 = true then
            (F_slices_Equal_string a0.Params a1.Params).bind fun (r8 : Bool) =>
            if r8 = true then
              (F_slices_EqualFunc__show_sameStmt a0.Body a1.Body).bind fun (r11 : Bool) =>
              (D_show_sameDecl_j2 a0 a1 r11 (a0.Given == a1.Given)).bind fun (x13 : Bool) =>
              some x13
            else
              (D_show_sameDecl_j2 a0 a1 false (a0.Given == a1.Given)).bind fun (x11 : Bool) =>
              some x11
          else
            (D_show_sameDecl_j2 a0 a1 false (a0.Given == a1.Given)).bind fun (x8 : Bool) =>
            some x8
        else
          (D_show_sameDecl_j2 a0 a1 false (a0.Given == a1.Given)).bind fun (x5 : Bool) =>
          some x5
      else
        (D_show_sameDecl_j2 a0 a1 false false).bind fun (x4 : Bool) =>
        some x4
    else
      (D_show_sameDecl_j2 a0 a1 false false).bind fun (x3 : Bool) =>
      some x3
  else
    (D_show_sameDecl_j2 a0 a1 false false).bind fun (x2 : Bool) =>
    some x2
abbrev X_show_sameDecl_j1 (a0 : TreeDecl) (a1 : TreeDecl) (x : Bool) : St := ⟨[(4, (.b x))], [], H0⟩
abbrev O_show_sameDecl_j1 (a0 : TreeDecl) (a1 : TreeDecl) (x : Bool) : Prop := opsK G Ω0 E0 [4] [] q_show_sameDecl_j1 ⟨[(2, (.p ⟨0, 2⟩ 0)), (3, (.p ⟨0, 3⟩ 0))], [(2, (kTreeDecl a0)), (3, (kTreeDecl a1))], H0⟩ = some (X_show_sameDecl_j1 a0 a1 x)
theorem LD_show_sameDecl_j1 (a0 : TreeDecl) (a1 : TreeDecl) (x : Bool) (h : D_show_sameDecl_j1 a0 a1 = some x) : O_show_sameDecl_j1 a0 a1 x :=
  have L := fun {a} => lY (Y := X_show_sameDecl_j1 a0 a1) (a := a) (r := x)
  opsKT (bt <| bt <| AT.or (bt <| bt <| bt <| bt <| bt <| bt <| bt <| bt <| AT.or (bt <| bt <| bt <| bt <| bt <| bt <| bt <| bt <| AT.or (bt <| bt <| bt <| bt <| bt <| bt <| bt <| bt <| AT.or (bt <| bt <| bt <| bt <| bt <| bt <| bt <| AT.ex fun (r5 : Bool) => ao (.v (.b r5)) <| bt <| AT.or (bt <| bt <| bt <| bt <| bt <| bt <| bt <| AT.ex fun (r8 : Bool) => ao (.v (.b r8)) <| bt <| AT.or (bt <| bt <| bt <| bt <| bt <| bt <| bt <| AT.ex fun (r11 : Bool) => ao (.v (.b r11)) <| bt <| AT.jb (some 52) 7 <| AT.ex fun (x13 : Bool) => ao (.jn ⟨[(4, (.b x13))], [], H0⟩) <| AT.nil) (bf <| bf <| bf <| bf <| bf <| bf <| AT.jb (some 52) 7 <| AT.ex fun (x11 : Bool) => ao (.jn ⟨[(4, (.b x11))], [], H0⟩) <| AT.nil)) (bf <| bf <| bf <| bf <| bf <| bf <| bf <| bf <| bf <| bf <| bf <| bf <| AT.jb (some 52) 7 <| AT.ex fun (x8 : Bool) => ao (.jn ⟨[(4, (.b x8))], [], H0⟩) <| AT.nil)) (bf <| bf <| bf <| bf <| bf <| bf <| bf <| bf <| bf <| bf <| bf <| bf <| bf <| bf <| bf <| bf <| bf <| bf <| AT.jb (some 52) 7 <| AT.ex fun (x5 : Bool) => ao (.jn ⟨[(4, (.b x5))], [], H0⟩) <| AT.nil)) (bf <| bf <| bf <| bf <| bf <| bf <| bf <| bf <| bf <| bf <| bf <| bf <| bf <| bf <| bf <| bf <| bf <| bf <| bf <| bf <| bf <| bf <| bf <| bf <| AT.jb (some 52) 7 <| AT.ex fun (x4 : Bool) => ao (.jn ⟨[(4, (.b x4))], [], H0⟩) <| AT.nil)) (bf <| bf <| bf <| bf <| bf <| bf <| bf <| bf <| bf <| bf <| bf <| bf <| bf <| bf <| bf <| bf <| bf <| bf <| bf <| bf <| bf <| bf <| bf <| bf <| bf <| bf <| bf <| bf <| bf <| bf <| AT.jb (some 52) 7 <| AT.ex fun (x3 : Bool) => ao (.jn ⟨[(4, (.b x3))], [], H0⟩) <| AT.nil)) (bf <| bf <| bf <| bf <| bf <| bf <| bf <| bf <| bf <| bf <| bf <| bf <| bf <| bf <| bf <| bf <| bf <| bf <| bf <| bf <| bf <| bf <| bf <| bf <| bf <| bf <| bf <| bf <| bf <| bf <| bf <| bf <| bf <| bf <| bf <| bf <| AT.jb (some 52) 7 <| AT.ex fun (x2 : Bool) => ao (.jn ⟨[(4, (.b x2))], [], H0⟩) <| AT.nil)) (ai (rfl : Z0) <| ai (rfl : Z0) <| orB h (fun h1 h => ai (g1 h1) <| ai (g1 h1) <| ai (rfl : Z0) <| ai (g1 h1) <| ai (g1 h1) <| ai (rfl : Z0) <| ai (g1 h1) <| ai h1 <| orB h (fun h2 h => ai (g1 h2) <| ai (g1 h2) <| ai (rfl : Z0) <| ai (g1 h2) <| ai (g1 h2) <| ai (rfl : Z0) <| ai (g1 h2) <| ai h2 <| orB h (fun h3 h => ai (g1 h3) <| ai (g1 h3) <| ai (rfl : Z0) <| ai (g1 h3) <| ai (g1 h3) <| ai (rfl : Z0) <| ai (g1 h3) <| ai h3 <| orB h (fun h4 h => ai (g1 h4) <| ai (g1 h4) <| ai (rfl : Z0) <| ai (g1 h4) <| ai (g1 h4) <| ai (rfl : Z0) <| ai (g1 h4) <| exB h fun r5 ek6 h => have ek6 := lift_slices_EqualFunc__show_samePolicy a0.Label a1.Label _ ek6; ai ek6 <| ai h4 <| orB h (fun h7 h => ai (g1 h7) <| ai (g1 h7) <| ai (rfl : Z0) <| ai (g1 h7) <| ai (g1 h7) <| ai (rfl : Z0) <| ai (g1 h7) <| exB h fun r8 ek9 h => have ek9 := lift_slices_Equal_string a0.Params a1.Params _ ek9; ai ek9 <| ai h7 <| orB h (fun h10 h => ai (g1 h10) <| ai (g1 h10) <| ai (rfl : Z0) <| ai (g1 h10) <| ai (g1 h10) <| ai (rfl : Z0) <| ai (g1 h10) <| exB h fun r11 ek12 h => have ek12 := lift_slices_EqualFunc__show_sameStmt a0.Body a1.Body _ ek12; ai ek12 <| ai h10 <| exB h fun x13 jn14 h => have jn14 := LD_show_sameDecl_j2 a0 a1 r11 (a0.Given == a1.Given) [(.b r11), (.l 45 (a1.Body.map eTreeStmt)), (.p ⟨0, 3⟩ 7), (.l 45 (a0.Body.map eTreeStmt)), (.p ⟨0, 2⟩ 7), (.b r8), (.b r8), (.b r8), (.l 9 (a1.Params.map AV.s)), (.p ⟨0, 3⟩ 6), (.l 9 (a0.Params.map AV.s)), (.p ⟨0, 2⟩ 6), (.b r5), (.b r5), (.b r5), (.l 51 (a1.Label.map eTreePolicy)), (.p ⟨0, 3⟩ 5), (.l 51 (a0.Label.map eTreePolicy)), (.p ⟨0, 2⟩ 5), (.b (a0.Given == a1.Given)), (.b (a0.Given == a1.Given)), (.b a1.Given), (.p ⟨0, 3⟩ 4), (.b a0.Given), (.p ⟨0, 2⟩ 4), (.b (a0.Other == a1.Other)), (.b (a0.Other == a1.Other)), (.b (a0.Other == a1.Other)), (.s a1.Other), (.p ⟨0, 3⟩ 3), (.s a0.Other), (.p ⟨0, 2⟩ 3), (.b (a0.Name == a1.Name)), (.b (a0.Name == a1.Name)), (.b (a0.Name == a1.Name)), (.s a1.Name), (.p ⟨0, 3⟩ 2), (.s a0.Name), (.p ⟨0, 2⟩ 2)] _ jn14; ai jn14 <| L h) (fun h10 h => ai (g1 h10) <| ai (g1 h10) <| ai (g1 h10) <| ai (g1 h10) <| ai (g1 h10) <| ai h10 <| exB h fun x11 jn12 h => have jn12 := LD_show_sameDecl_j2 a0 a1 false (a0.Given == a1.Given) [.sk, .sk, .sk, .sk, .sk, (.b r8), (.b r8), (.b r8), (.l 9 (a1.Params.map AV.s)), (.p ⟨0, 3⟩ 6), (.l 9 (a0.Params.map AV.s)), (.p ⟨0, 2⟩ 6), (.b r5), (.b r5), (.b r5), (.l 51 (a1.Label.map eTreePolicy)), (.p ⟨0, 3⟩ 5), (.l 51 (a0.Label.map eTreePolicy)), (.p ⟨0, 2⟩ 5), (.b (a0.Given == a1.Given)), (.b (a0.Given == a1.Given)), (.b a1.Given), (.p ⟨0, 3⟩ 4), (.b a0.Given), (.p ⟨0, 2⟩ 4), (.b (a0.Other == a1.Other)), (.b (a0.Other == a1.Other)), (.b (a0.Other == a1.Other)), (.s a1.Other), (.p ⟨0, 3⟩ 3), (.s a0.Other), (.p ⟨0, 2⟩ 3), (.b (a0.Name == a1.Name)), (.b (a0.Name == a1.Name)), (.b (a0.Name == a1.Name)), (.s a1.Name), (.p ⟨0, 3⟩ 2), (.s a0.Name), (.p ⟨0, 2⟩ 2)] _ jn12; ai jn12 <| L h)) (fun h7 h => ai (g1 h7) <| ai (g1 h7) <| ai (g1 h7) <| ai (g1 h7) <| ai (g1 h7) <| ai h7 <| ai gf <| ai gf <| ai gf <| ai gf <| ai gf <| ai ff <| exB h fun x8 jn9 h => have jn9 := LD_show_sameDecl_j2 a0 a1 false (a0.Given == a1.Given) [.sk, .sk, .sk, .sk, .sk, (.b false), (.b false), .sk, .sk, .sk, .sk, .sk, (.b r5), (.b r5), (.b r5), (.l 51 (a1.Label.map eTreePolicy)), (.p ⟨0, 3⟩ 5), (.l 51 (a0.Label.map eTreePolicy)), (.p ⟨0, 2⟩ 5), (.b (a0.Given == a1.Given)), (.b (a0.Given == a1.Given)), (.b a1.Given), (.p ⟨0, 3⟩ 4), (.b a0.Given), (.p ⟨0, 2⟩ 4), (.b (a0.Other == a1.Other)), (.b (a0.Other == a1.Other)), (.b (a0.Other == a1.Other)), (.s a1.Other), (.p ⟨0, 3⟩ 3), (.s a0.Other), (.p ⟨0, 2⟩ 3), (.b (a0.Name == a1.Name)), (.b (a0.Name == a1.Name)), (.b (a0.Name == a1.Name)), (.s a1.Name), (.p ⟨0, 3⟩ 2), (.s a0.Name), (.p ⟨0, 2⟩ 2)] _ jn9; ai jn9 <| L h)) (fun h4 h => ai (g1 h4) <| ai (g1 h4) <| ai (g1 h4) <| ai (g1 h4) <| ai (g1 h4) <| ai h4 <| ai gf <| ai gf <| ai gf <| ai gf <| ai gf <| ai ff <| ai gf <| ai gf <| ai gf <| ai gf <| ai gf <| ai ff <| exB h fun x5 jn6 h => have jn6 := LD_show_sameDecl_j2 a0 a1 false (a0.Given == a1.Given) [.sk, .sk, .sk, .sk, .sk, (.b false), (.b false), .sk, .sk, .sk, .sk, .sk, (.b false), (.b false), .sk, .sk, .sk, .sk, .sk, (.b (a0.Given == a1.Given)), (.b (a0.Given == a1.Given)), (.b a1.Given), (.p ⟨0, 3⟩ 4), (.b a0.Given), (.p ⟨0, 2⟩ 4), (.b (a0.Other == a1.Other)), (.b (a0.Other == a1.Other)), (.b (a0.Other == a1.Other)), (.s a1.Other), (.p ⟨0, 3⟩ 3), (.s a0.Other), (.p ⟨0, 2⟩ 3), (.b (a0.Name == a1.Name)), (.b (a0.Name == a1.Name)), (.b (a0.Name == a1.Name)), (.s a1.Name), (.p ⟨0, 3⟩ 2), (.s a0.Name), (.p ⟨0, 2⟩ 2)] _ jn6; ai jn6 <| L h)) (fun h3 h => ai (g1 h3) <| ai (g1 h3) <| ai (g1 h3) <| ai (g1 h3) <| ai (g1 h3) <| ai h3 <| ai gf <| ai gf <| ai gf <| ai gf <| ai gf <| ai ff <| ai gf <| ai gf <| ai gf <| ai gf <| ai gf <| ai ff <| ai gf <| ai gf <| ai gf <| ai gf <| ai gf <| ai ff <| exB h fun x4 jn5 h => have jn5 := LD_show_sameDecl_j2 a0 a1 false false [.sk, .sk, .sk, .sk, .sk, (.b false), (.b false), .sk, .sk, .sk, .sk, .sk, (.b false), (.b false), .sk, .sk, .sk, .sk, .sk, (.b false), .sk, .sk, .sk, .sk, .sk, (.b (a0.Other == a1.Other)), (.b (a0.Other == a1.Other)), (.b (a0.Other == a1.Other)), (.s a1.Other), (.p ⟨0, 3⟩ 3), (.s a0.Other), (.p ⟨0, 2⟩ 3), (.b (a0.Name == a1.Name)), (.b (a0.Name == a1.Name)), (.b (a0.Name == a1.Name)), (.s a1.Name), (.p ⟨0, 3⟩ 2), (.s a0.Name), (.p ⟨0, 2⟩ 2)] _ jn5; ai jn5 <| L h)) (fun h2 h => ai (g1 h2) <| ai (g1 h2) <| ai (g1 h2) <| ai (g1 h2) <| ai (g1 h2) <| ai h2 <| ai gf <| ai gf <| ai gf <| ai gf <| ai gf <| ai ff <| ai gf <| ai gf <| ai gf <| ai gf <| ai gf <| ai ff <| ai gf <| ai gf <| ai gf <| ai gf <| ai gf <| ai ff <| ai gf <| ai gf <| ai gf <| ai gf <| ai gf <| ai ff <| exB h fun x3 jn4 h => have jn4 := LD_show_sameDecl_j2 a0 a1 false false [.sk, .sk, .sk, .sk, .sk, (.b false), (.b false), .sk, .sk, .sk, .sk, .sk, (.b false), (.b false), .sk, .sk, .sk, .sk, .sk, (.b false), .sk, .sk, .sk, .sk, .sk, (.b false), (.b false), .sk, .sk, .sk, .sk, .sk, (.b (a0.Name == a1.Name)), (.b (a0.Name == a1.Name)), (.b (a0.Name == a1.Name)), (.s a1.Name), (.p ⟨0, 3⟩ 2), (.s a0.Name), (.p ⟨0, 2⟩ 2)] _ jn4; ai jn4 <| L h)) (fun h1 h => ai (g1 h1) <| ai (g1 h1) <| ai (g1 h1) <| ai (g1 h1) <| ai (g1 h1) <| ai h1 <| ai gf <| ai gf <| ai gf <| ai gf <| ai gf <| ai ff <| ai gf <| ai gf <| ai gf <| ai gf <| ai gf <| ai ff <| ai gf <| ai gf <| ai gf <| ai gf <| ai gf <| ai ff <| ai gf <| ai gf <| ai gf <| ai gf <| ai gf <| ai ff <| ai gf <| ai gf <| ai gf <| ai gf <| ai gf <| ai ff <| exB h fun x2 jn3 h => have jn3 := LD_show_sameDecl_j2 a0 a1 false false [.sk, .sk, .sk, .sk, .sk, (.b false), (.b false), .sk, .sk, .sk, .sk, .sk, (.b false), (.b false), .sk, .sk, .sk, .sk, .sk, (.b false), .sk, .sk, .sk, .sk, .sk, (.b false), (.b false), .sk, .sk, .sk, .sk, .sk, (.b false), (.b false), .sk, .sk, .sk, .sk, .sk] _ jn3; ai jn3 <| L h)) (by kernel_rfl)
abbrev Y_show_sameDecl (a0 : TreeDecl) (a1 : TreeDecl) (r : Bool) : AEnd × HP := (.ret (.b r), H0)
abbrev O_show_sameDecl (a0 : TreeDecl) (a1 : TreeDecl) (r : Bool) : Prop := call G Ω0 E0 10 [(.a (kTreeDecl a0)), (.a (kTreeDecl a1))] H0 = some (Y_show_sameDecl a0 a1 r)
noncomputable def F_show_sameDecl (a0 : TreeDecl) (a1 : TreeDecl) : Option Bool :=
  (D_show_sameDecl_j1 a0 a1).bind fun (x1 : Bool) =>
  some x1
theorem lift_show_sameDecl (a0 : TreeDecl) (a1 : TreeDecl) (r : Bool) (h : F_show_sameDecl a0 a1 = some r) : O_show_sameDecl a0 a1 r :=
  have L := fun {a} => lY (Y := Y_show_sameDecl a0 a1) (a := a) (r := r)
  callT G10 (AT.jb (some 5) 54 <| AT.ex fun (x1 : Bool) => ao (.jn ⟨[(4, (.b x1))], [], H0⟩) <| AT.nil) (ai tt <| ai tt <| exB h fun x1 jn2 h => have jn2 := LD_show_sameDecl_j1 a0 a1 _ jn2; ai jn2 <| L h) (by kernel_rfl)
noncomputable def B_slices_EqualFunc__show_sameDecl_0 (a0 : (List TreeDecl)) (a1 : (List TreeDecl)) (v0_17 : Nat) : Option (Nat ⊕ (Unit ⊕ (Nat × Bool))) :=
  if (v0_17 : Int) < (a0.length : Int) then
    (a0[v0_17]?).bind fun (y3 : TreeDecl) =>
    (a1[v0_17]?).bind fun (y5 : TreeDecl) =>
    (F_show_sameDecl y3 y5).bind fun (r7 : Bool) =>
    if r7 = true then
      if IntKind.i64.wrap ((v0_17 : Int) + 1) = ((v0_17 + 1 : Nat) : Int) then
        some (.inl (v0_17 + 1))
      else none
    else
      some (.inr (.inl ()))
  else
    some (.inr (.inr (v0_17, decide ((v0_17 : Int) < (a0.length : Int)))))
abbrev S_slices_EqualFunc__show_sameDecl_0 (a0 : (List TreeDecl)) (a1 : (List TreeDecl)) (v : Nat) : St := ⟨[(1, (.l 41 (a1.map eTreeDecl))), (2, (.f 10 [])), (15, (.l 41 (a0.map eTreeDecl))), (16, (I (a0.length : Int))), (17, (I (v : Int)))], [], H0⟩
abbrev X_slices_EqualFunc__show_sameDecl_0 (a0 : (List TreeDecl)) (a1 : (List TreeDecl)) (x : (Unit ⊕ (Nat × Bool))) : AExit × St := match x with | .inl () => (.ret, ⟨[(6, (.b false))], [], H0⟩) | .inr (z1, z2) => ((.ex 0), ⟨[(1, (.l 41 (a1.map eTreeDecl))), (2, (.f 10 [])), (15, (.l 41 (a0.map eTreeDecl))), (16, (I (a0.length : Int))), (17, (I (z1 : Int))), (18, (.b z2))], [], H0⟩)
theorem LB_slices_EqualFunc__show_sameDecl_0 (a0 : (List TreeDecl)) (a1 : (List TreeDecl)) (v0_17 : Nat) (o : Nat ⊕ (Unit ⊕ (Nat × Bool))) (h : B_slices_EqualFunc__show_sameDecl_0 a0 a1 v0_17 = some o) : bodyOK E0 c9_0 (S_slices_EqualFunc__show_sameDecl_0 a0 a1) (X_slices_EqualFunc__show_sameDecl_0 a0 a1) v0_17 o :=
  have L := fun {a} => lY (Y := bodyY (S_slices_EqualFunc__show_sameDecl_0 a0 a1) (X_slices_EqualFunc__show_sameDecl_0 a0 a1)) (a := a) (r := o)
  bodyT (AT.or (bt <| ao (.n v0_17) <| AT.ex fun (y3 : TreeDecl) => ao (.v (.a (kTreeDecl y3))) <| bt <| bt <| ao (.n v0_17) <| AT.ex fun (y5 : TreeDecl) => ao (.v (.a (kTreeDecl y5))) <| bt <| bt <| bt <| bt <| AT.ex fun (r7 : Bool) => ao (.v (.b r7)) <| AT.or (bf <| ao (.i ((v0_17 + 1 : Nat) : Int)) <| AT.nil) (bt <| AT.nil)) (bf <| AT.nil)) (orP h (fun h2 h => ai (decide_eq_true h2) <| ai (rfl : (v0_17 : Int) = (v0_17 : Int)) <| exB h fun y3 h4 h => ai (map_get eTreeDecl h4) <| ai tt <| ai ff <| ai (rfl : Z0) <| ai tt <| ai (rfl : Z0) <| ai (rfl : (v0_17 : Int) = (v0_17 : Int)) <| exB h fun y5 h6 h => ai (map_get eTreeDecl h6) <| ai tt <| ai ff <| ai (rfl : Z0) <| ai tt <| ai (rfl : Z0) <| ai (rfl : Z0) <| ai (rfl : Z0) <| exB h fun r7 ek8 h => have ek8 := lift_show_sameDecl y3 y5 _ ek8; ai ek8 <| orB h (fun h9 h => ai (congrArg not h9) <| asrtP h fun w10 h => ai w10 <| L h) (fun h9 h => ai (congrArg not h9) <| L h)) (fun h2 h => ai (decide_eq_false h2) <| L h)) (by kernel_rfl)
theorem LL_slices_EqualFunc__show_sameDecl_0 (a0 : (List TreeDecl)) (a1 : (List TreeDecl)) (v : Nat) (x : (Unit ⊕ (Nat × Bool))) (h : lp (fun v => B_slices_EqualFunc__show_sameDecl_0 a0 a1 v) v = some x) : lpAt G Ω0 E0 c9_0 (S_slices_EqualFunc__show_sameDecl_0 a0 a1 v) = some (X_slices_EqualFunc__show_sameDecl_0 a0 a1 x) :=
  lp_lift c9_0 (S_slices_EqualFunc__show_sameDecl_0 a0 a1) (X_slices_EqualFunc__show_sameDecl_0 a0 a1) (fun _ => rfl) (fun v o h => LB_slices_EqualFunc__show_sameDecl_0 a0 a1 v o h) h
abbrev Y_slices_EqualFunc__show_sameDecl (a0 : (List TreeDecl)) (a1 : (List TreeDecl)) (r : Bool) : AEnd × HP := (.ret (.b r), H0)
abbrev O_slices_EqualFunc__show_sameDecl (a0 : (List TreeDecl)) (a1 : (List TreeDecl)) (r : Bool) : Prop := call G Ω0 E0 9 [(.l 41 (a0.map eTreeDecl)), (.l 41 (a1.map eTreeDecl)), (.f 10 [])] H0 = some (Y_slices_EqualFunc__show_sameDecl a0 a1 r)
noncomputable def F_slices_EqualFunc__show_sameDecl (a0 : (List TreeDecl)) (a1 : (List TreeDecl)) : Option Bool :=
  if ((a0.length : Int) != (a1.length : Int)) = true then
    some false
  else
    (lp (fun v => B_slices_EqualFunc__show_sameDecl_0 a0 a1 v) 0).bind fun (x2 : (Unit ⊕ (Nat × Bool))) => match x2 with
    | .inl ya_3 =>
      some false
    | .inr yb_3 =>
      some true
theorem lift_slices_EqualFunc__show_sameDecl (a0 : (List TreeDecl)) (a1 : (List TreeDecl)) (r : Bool) (h : F_slices_EqualFunc__show_sameDecl a0 a1 = some r) : O_slices_EqualFunc__show_sameDecl a0 a1 r :=
  have L := fun {a} => lY (Y := Y_slices_EqualFunc__show_sameDecl a0 a1) (a := a) (r := r)
  callT G9 (ao (.i (a0.length : Int)) <| ao (.i (a1.length : Int)) <| AT.or (bt <| AT.nil) (bf <| ao (.i (a0.length : Int)) <| AT.or (AT.ex fun (ya_3 : Unit) => ao (.lp .ret ⟨[(6, (.b false))], [], H0⟩) <| AT.nil) (AT.ex fun (yb_3 : (Nat × Bool)) => ao (.lp (.ex 0) ⟨[(1, (.l 41 (a1.map eTreeDecl))), (2, (.f 10 [])), (15, (.l 41 (a0.map eTreeDecl))), (16, (I (a0.length : Int))), (17, (I (yb_3.1 : Int))), (18, (.b yb_3.2))], [], H0⟩) <| AT.nil))) (ai (map_len eTreeDecl a0) <| ai (map_len eTreeDecl a1) <| orB h (fun h1 h => ai h1 <| L h) (fun h1 h => ai h1 <| ai (map_len eTreeDecl a0) <| sum2 h (fun ya_3 lp4 h => have lp4 := LL_slices_EqualFunc__show_sameDecl_0 a0 a1 0 _ lp4; ai lp4 <| L h) (fun yb_3 lp4 h => have lp4 := LL_slices_EqualFunc__show_sameDecl_0 a0 a1 0 _ lp4; ai lp4 <| L h))) (by kernel_rfl)
abbrev Y_show_Same (a0 : Tree) (a1 : Tree) (r : Bool) : AEnd × HP := (.ret (.b r), H0)
abbrev O_show_Same (a0 : Tree) (a1 : Tree) (r : Bool) : Prop := call G Ω0 E0 5 [(.a [(.l 41 (a0.Decls.map eTreeDecl)), (.l 45 (a0.Main.map eTreeStmt))]), (.a [(.l 41 (a1.Decls.map eTreeDecl)), (.l 45 (a1.Main.map eTreeStmt))])] H0 = some (Y_show_Same a0 a1 r)
noncomputable def F_show_Same (a0 : Tree) (a1 : Tree) : Option Bool :=
  (F_slices_EqualFunc__show_sameDecl a0.Decls a1.Decls).bind fun (r1 : Bool) =>
  if r1 = true then
    (F_slices_EqualFunc__show_sameStmt a0.Main a1.Main).bind fun (r4 : Bool) =>
    some r4
  else
    some false
theorem lift_show_Same (a0 : Tree) (a1 : Tree) (r : Bool) (h : F_show_Same a0 a1 = some r) : O_show_Same a0 a1 r :=
  have L := fun {a} => lY (Y := Y_show_Same a0 a1) (a := a) (r := r)
  callT G5 (bt <| bt <| AT.ex fun (r1 : Bool) => ao (.v (.b r1)) <| AT.or (bt <| bt <| bt <| bt <| bt <| bt <| bt <| AT.ex fun (r4 : Bool) => ao (.v (.b r4)) <| bt <| AT.nil) (bf <| bf <| bf <| bf <| bf <| bf <| AT.nil)) (ai tt <| ai tt <| ai (rfl : Z0) <| ai (rfl : Z0) <| exB h fun r1 ek2 h => have ek2 := lift_slices_EqualFunc__show_sameDecl a0.Decls a1.Decls _ ek2; ai ek2 <| orB h (fun h3 h => ai (g1 h3) <| ai (g1 h3) <| ai (rfl : Z0) <| ai (g1 h3) <| ai (g1 h3) <| ai (rfl : Z0) <| ai (g1 h3) <| exB h fun r4 ek5 h => have ek5 := lift_slices_EqualFunc__show_sameStmt a0.Main a1.Main _ ek5; ai ek5 <| ai h3 <| L h) (fun h3 h => ai (g1 h3) <| ai (g1 h3) <| ai (g1 h3) <| ai (g1 h3) <| ai (g1 h3) <| ai h3 <| L h)) (by kernel_rfl)
end Go.Proofs.YtkmmjfjikmeidaaGreatDoor.A
