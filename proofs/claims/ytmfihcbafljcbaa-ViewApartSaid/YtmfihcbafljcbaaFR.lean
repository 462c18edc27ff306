/- Functions of the program as plain functions, by program. -/
import Derived.Test.YtmfihcbafljcbaaTypes
import Derived.Test.YtmfihcbafljcbaaLift
import Derived.Test.YtmfihcbafljcbaaFE
set_option maxRecDepth 100000
set_option linter.unusedSectionVars false
set_option linter.unusedVariables false
set_option linter.unusedSimpArgs false
set_option linter.constructorNameAsVariable false
namespace Go.Proofs.Ytmfihcbafljcbaa.A
open Go
variable [Lp]
noncomputable def B_R_ApartOf_0 (a0 : (List Event)) (a1 : (List Event)) (v0_5 : Nat) : Option (Nat ⊕ (Bool × Nat)) :=
  if (v0_5 : Int) < (a0.length : Int) then
    if (v0_5 : Int) < (a1.length : Int) then
      (a0[v0_5]?).bind fun (y3 : Event) =>
      (a1[v0_5]?).bind fun (y5 : Event) =>
      if ((y3.Kind == y5.Kind) && ((y3.At == y5.At) && ((y3.Which == y5.Which) && ((y3.Value == y5.Value) && true)))) = true then
        if IntKind.i64.wrap ((v0_5 : Int) + 1) = ((v0_5 + 1 : Nat) : Int) then
          some (.inl (v0_5 + 1))
        else none
      else
        some (.inr (((y3.Kind == y5.Kind) && ((y3.At == y5.At) && ((y3.Which == y5.Which) && ((y3.Value == y5.Value) && true)))), v0_5))
    else
      some (.inr (false, v0_5))
  else
    some (.inr (false, v0_5))
abbrev S_R_ApartOf_0 (a0 : (List Event)) (a1 : (List Event)) (v : Nat) : St := ⟨[(0, (.l 27 (a0.map eEvent))), (1, (.l 27 (a1.map eEvent))), (5, (I (v : Int)))], [], H0⟩
abbrev X_R_ApartOf_0 (a0 : (List Event)) (a1 : (List Event)) (x : (Bool × Nat)) : AExit × St := ((.ex 0), ⟨[(0, (.l 27 (a0.map eEvent))), (1, (.l 27 (a1.map eEvent))), (5, (I (x.2 : Int))), (26, (.b x.1))], [], H0⟩)
theorem LB_R_ApartOf_0 (a0 : (List Event)) (a1 : (List Event)) (v0_5 : Nat) (o : Nat ⊕ (Bool × Nat)) (h : B_R_ApartOf_0 a0 a1 v0_5 = some o) : bodyOK E0 c6_0 (S_R_ApartOf_0 a0 a1) (X_R_ApartOf_0 a0 a1) v0_5 o :=
  have L := fun {a} => lY (Y := bodyY (S_R_ApartOf_0 a0 a1) (X_R_ApartOf_0 a0 a1)) (a := a) (r := o)
  bodyT (ao (.i (a0.length : Int)) <| AT.or (bt <| bt <| bt <| ao (.i (a1.length : Int)) <| bt <| bt <| AT.or (bt <| bt <| bt <| ao (.n v0_5) <| AT.ex fun (y3 : Event) => ao (.v (.a (kEvent y3))) <| bt <| bt <| bt <| bt <| ao (.n v0_5) <| AT.ex fun (y5 : Event) => ao (.v (.a (kEvent y5))) <| bt <| bt <| ao (.b ((y3.Kind == y5.Kind) && ((y3.At == y5.At) && ((y3.Which == y5.Which) && ((y3.Value == y5.Value) && true))))) <| bt <| AT.or (bt <| ao (.i ((v0_5 + 1 : Nat) : Int)) <| AT.nil) (bf <| AT.nil)) (bf <| bf <| bf <| bf <| bf <| bf <| bf <| bf <| bf <| bf <| bf <| AT.nil)) (bf <| bf <| bf <| bf <| bf <| bf <| bf <| bf <| bf <| bf <| bf <| bf <| bf <| bf <| bf <| bf <| AT.nil)) (ai tt <| ai tt <| ai tt <| ai (map_len eEvent a0) <| ai tt <| ai tt <| ai tt <| orP h (fun h1 h => ai (g1 (decide_eq_true h1)) <| ai tt <| ai (g1 (decide_eq_true h1)) <| ai tt <| ai (g1 (decide_eq_true h1)) <| ai (map_len eEvent a1) <| ai tt <| ai (g1 (decide_eq_true h1)) <| ai tt <| ai (decide_eq_true h1) <| ai tt <| ai tt <| orP h (fun h2 h => ai (g1 (decide_eq_true h2)) <| ai tt <| ai (g1 (decide_eq_true h2)) <| ai tt <| ai (g1 (decide_eq_true h2)) <| ai (rfl : (v0_5 : Int) = (v0_5 : Int)) <| exB h fun y3 h4 h => ai (map_get eEvent h4) <| ai tt <| ai (g1 (decide_eq_true h2)) <| ai tt <| ai (g1 (decide_eq_true h2)) <| ai tt <| ai (g1 (decide_eq_true h2)) <| ai tt <| ai (g1 (decide_eq_true h2)) <| ai (rfl : (v0_5 : Int) = (v0_5 : Int)) <| exB h fun y5 h6 h => ai (map_get eEvent h6) <| ai tt <| ai (g1 (decide_eq_true h2)) <| ai tt <| ai (g1 (decide_eq_true h2)) <| ai (rfl : sameCells [1, 1, 1, 1] (kEvent y3) (kEvent y5) = some ((y3.Kind == y5.Kind) && ((y3.At == y5.At) && ((y3.Which == y5.Which) && ((y3.Value == y5.Value) && true))))) <| ai (decide_eq_true h2) <| orB h (fun h7 h => ai h7 <| asrtP h fun w8 h => ai w8 <| L h) (fun h7 h => ai h7 <| L h)) (fun h2 h => ai (g1 (decide_eq_false h2)) <| ai (g1 (decide_eq_false h2)) <| ai (g1 (decide_eq_false h2)) <| ai (g1 (decide_eq_false h2)) <| ai (g1 (decide_eq_false h2)) <| ai (g1 (decide_eq_false h2)) <| ai (g1 (decide_eq_false h2)) <| ai (g1 (decide_eq_false h2)) <| ai (g1 (decide_eq_false h2)) <| ai (decide_eq_false h2) <| ai ff <| L h)) (fun h1 h => ai (g1 (decide_eq_false h1)) <| ai (g1 (decide_eq_false h1)) <| ai (g1 (decide_eq_false h1)) <| ai (g1 (decide_eq_false h1)) <| ai (decide_eq_false h1) <| ai tt <| ai tt <| ai gf <| ai gf <| ai gf <| ai gf <| ai gf <| ai gf <| ai gf <| ai gf <| ai gf <| ai ff <| ai ff <| L h)) (by kernel_rfl)
theorem LL_R_ApartOf_0 (a0 : (List Event)) (a1 : (List Event)) (v : Nat) (x : (Bool × Nat)) (h : lp (fun v => B_R_ApartOf_0 a0 a1 v) v = some x) : lpAt G Ω0 E0 c6_0 (S_R_ApartOf_0 a0 a1 v) = some (X_R_ApartOf_0 a0 a1 x) :=
  lp_lift c6_0 (S_R_ApartOf_0 a0 a1) (X_R_ApartOf_0 a0 a1) (fun _ => rfl) (fun v o h => LB_R_ApartOf_0 a0 a1 v o h) h
abbrev Y_R_ApartOf (a0 : (List Event)) (a1 : (List Event)) (r : Int) : AEnd × HP := (.ret (I r), H0)
abbrev O_R_ApartOf (a0 : (List Event)) (a1 : (List Event)) (r : Int) : Prop := call G Ω0 E0 6 [(.l 27 (a0.map eEvent)), (.l 27 (a1.map eEvent))] H0 = some (Y_R_ApartOf a0 a1 r)
noncomputable def F_R_ApartOf (a0 : (List Event)) (a1 : (List Event)) : Option Int :=
  (lp (fun v => B_R_ApartOf_0 a0 a1 v) 0).bind fun (x1 : (Bool × Nat)) =>
  if ((x1.2 : Int) == (a0.length : Int)) = true then
    if ((x1.2 : Int) == (a1.length : Int)) = true then
      some (-1)
    else
      some (x1.2 : Int)
  else
    some (x1.2 : Int)
theorem lift_R_ApartOf (a0 : (List Event)) (a1 : (List Event)) (r : Int) (h : F_R_ApartOf a0 a1 = some r) : O_R_ApartOf a0 a1 r :=
  have L := fun {a} => lY (Y := Y_R_ApartOf a0 a1) (a := a) (r := r)
  callT G6 (AT.ex fun (x1 : (Bool × Nat)) => ao (.lp (.ex 0) ⟨[(0, (.l 27 (a0.map eEvent))), (1, (.l 27 (a1.map eEvent))), (5, (I (x1.2 : Int))), (26, (.b x1.1))], [], H0⟩) <| ao (.i (a0.length : Int)) <| AT.or (bt <| bt <| bt <| ao (.i (a1.length : Int)) <| bt <| bt <| AT.or (bt <| AT.nil) (bf <| AT.nil)) (bf <| bf <| bf <| bf <| bf <| bf <| AT.nil)) (exB h fun x1 lp2 h => have lp2 := LL_R_ApartOf_0 a0 a1 0 _ lp2; ai lp2 <| ai (map_len eEvent a0) <| orB h (fun h3 h => ai (g1 h3) <| ai (g1 h3) <| ai (g1 h3) <| ai (map_len eEvent a1) <| ai (g1 h3) <| ai h3 <| orB h (fun h4 h => ai h4 <| L h) (fun h4 h => ai h4 <| L h)) (fun h3 h => ai (g1 h3) <| ai (g1 h3) <| ai (g1 h3) <| ai (g1 h3) <| ai h3 <| ai ff <| L h)) (by kernel_rfl)
end Go.Proofs.Ytmfihcbafljcbaa.A
