/- Functions of the program as plain functions, by program. -/
import Derived.Test.YtmfihcbafljcbaaTypes
import Derived.Test.YtmfihcbafljcbaaLift
import Derived.Test.YtmfihcbafljcbaaFB
set_option maxRecDepth 100000
set_option linter.unusedSectionVars false
set_option linter.unusedVariables false
set_option linter.unusedSimpArgs false
set_option linter.constructorNameAsVariable false
namespace Go.Proofs.Ytmfihcbafljcbaa.A
open Go
variable [Lp]
noncomputable def B_view_Apart_0 (a0 : (List Event)) (a1 : (List Event)) (v0_11 : Nat) : Option (Nat ⊕ (Nat ⊕ (Nat × Bool))) :=
  if (v0_11 : Int) < (if (a1.length : Int) > (a0.length : Int) then (a1.length : Int) else (a0.length : Int)) then
    if (a0.length : Int) ≤ (v0_11 : Int) then
      some (.inr (.inl v0_11))
    else
      if (a1.length : Int) ≤ (v0_11 : Int) then
        some (.inr (.inl v0_11))
      else
        (a0[v0_11]?).bind fun (y4 : Event) =>
        (a1[v0_11]?).bind fun (y6 : Event) =>
        if ((y4.Kind == y6.Kind) && ((y4.At == y6.At) && ((y4.Which == y6.Which) && ((y4.Value == y6.Value) && true)))) = true then
          if IntKind.i64.wrap ((v0_11 : Int) + 1) = ((v0_11 + 1 : Nat) : Int) then
            some (.inl (v0_11 + 1))
          else none
        else
          some (.inr (.inl v0_11))
  else
    some (.inr (.inr (v0_11, decide ((v0_11 : Int) < (if (a1.length : Int) > (a0.length : Int) then (a1.length : Int) else (a0.length : Int))))))
abbrev S_view_Apart_0 (a0 : (List Event)) (a1 : (List Event)) (v : Nat) : St := ⟨[(0, (.l 27 (a0.map eEvent))), (1, (.l 27 (a1.map eEvent))), (10, (I (if (a1.length : Int) > (a0.length : Int) then (a1.length : Int) else (a0.length : Int)))), (11, (I (v : Int)))], [], H0⟩
abbrev X_view_Apart_0 (a0 : (List Event)) (a1 : (List Event)) (x : (Nat ⊕ (Nat × Bool))) : AExit × St := match x with | .inl z1 => (.ret, ⟨[(4, (I (z1 : Int)))], [], H0⟩) | .inr (z1, z2) => ((.ex 0), ⟨[(0, (.l 27 (a0.map eEvent))), (1, (.l 27 (a1.map eEvent))), (10, (I (if (a1.length : Int) > (a0.length : Int) then (a1.length : Int) else (a0.length : Int)))), (11, (I (z1 : Int))), (12, (.b z2))], [], H0⟩)
theorem LB_view_Apart_0 (a0 : (List Event)) (a1 : (List Event)) (v0_11 : Nat) (o : Nat ⊕ (Nat ⊕ (Nat × Bool))) (h : B_view_Apart_0 a0 a1 v0_11 = some o) : bodyOK E0 c5_0 (S_view_Apart_0 a0 a1) (X_view_Apart_0 a0 a1) v0_11 o :=
  have L := fun {a} => lY (Y := bodyY (S_view_Apart_0 a0 a1) (X_view_Apart_0 a0 a1)) (a := a) (r := o)
  bodyT (AT.or (bt <| ao (.i (a0.length : Int)) <| AT.or (bf <| bf <| bf <| bf <| bt <| bf <| bf <| bf <| bf <| bf <| bf <| bf <| bf <| bf <| bt <| bt <| AT.nil) (bt <| bt <| bt <| ao (.i (a1.length : Int)) <| bt <| bf <| AT.or (bf <| bf <| bf <| bf <| bf <| bf <| bf <| bf <| bf <| bt <| bt <| AT.nil) (bt <| bt <| bt <| ao (.n v0_11) <| AT.ex fun (y4 : Event) => ao (.v (.a (kEvent y4))) <| bt <| bt <| bt <| bt <| ao (.n v0_11) <| AT.ex fun (y6 : Event) => ao (.v (.a (kEvent y6))) <| bt <| bt <| ao (.b ((y4.Kind == y6.Kind) && ((y4.At == y6.At) && ((y4.Which == y6.Which) && ((y4.Value == y6.Value) && true))))) <| bf <| AT.or (bf <| ao (.i ((v0_11 + 1 : Nat) : Int)) <| AT.nil) (bt <| AT.nil)))) (bf <| AT.nil)) (orP h (fun h1 h => ai (decide_eq_true h1) <| ai tt <| ai tt <| ai tt <| ai (map_len eEvent a0) <| ai tt <| ai tt <| ai tt <| orP h (fun h2 h => ai (g0 (decide_eq_true h2)) <| ai (g0 (decide_eq_true h2)) <| ai (g0 (decide_eq_true h2)) <| ai (g0 (decide_eq_true h2)) <| ai (decide_eq_true h2) <| ai tt <| ai tt <| ai ht <| ai ht <| ai ht <| ai ht <| ai ht <| ai ht <| ai ht <| ai ht <| ai ht <| ai tt <| ai tt <| L h) (fun h2 h => ai (g0 (decide_eq_false h2)) <| ai tt <| ai (g0 (decide_eq_false h2)) <| ai tt <| ai (g0 (decide_eq_false h2)) <| ai (map_len eEvent a1) <| ai tt <| ai (g0 (decide_eq_false h2)) <| ai tt <| ai (decide_eq_false h2) <| ai tt <| ai tt <| orP h (fun h3 h => ai (g0 (decide_eq_true h3)) <| ai (g0 (decide_eq_true h3)) <| ai (g0 (decide_eq_true h3)) <| ai (g0 (decide_eq_true h3)) <| ai (g0 (decide_eq_true h3)) <| ai (g0 (decide_eq_true h3)) <| ai (g0 (decide_eq_true h3)) <| ai (g0 (decide_eq_true h3)) <| ai (g0 (decide_eq_true h3)) <| ai (decide_eq_true h3) <| ai tt <| L h) (fun h3 h => ai (g0 (decide_eq_false h3)) <| ai tt <| ai (g0 (decide_eq_false h3)) <| ai tt <| ai (g0 (decide_eq_false h3)) <| ai (rfl : (v0_11 : Int) = (v0_11 : Int)) <| exB h fun y4 h5 h => ai (map_get eEvent h5) <| ai tt <| ai (g0 (decide_eq_false h3)) <| ai tt <| ai (g0 (decide_eq_false h3)) <| ai tt <| ai (g0 (decide_eq_false h3)) <| ai tt <| ai (g0 (decide_eq_false h3)) <| ai (rfl : (v0_11 : Int) = (v0_11 : Int)) <| exB h fun y6 h7 h => ai (map_get eEvent h7) <| ai tt <| ai (g0 (decide_eq_false h3)) <| ai tt <| ai (g0 (decide_eq_false h3)) <| ai (rfl : sameCells [1, 1, 1, 1] (kEvent y4) (kEvent y6) = some ((y4.Kind == y6.Kind) && ((y4.At == y6.At) && ((y4.Which == y6.Which) && ((y4.Value == y6.Value) && true))))) <| ai (decide_eq_false h3) <| orB h (fun h8 h => ai (congrArg not h8) <| asrtP h fun w9 h => ai w9 <| L h) (fun h8 h => ai (congrArg not h8) <| L h)))) (fun h1 h => ai (decide_eq_false h1) <| L h)) (by kernel_rfl)
theorem LL_view_Apart_0 (a0 : (List Event)) (a1 : (List Event)) (v : Nat) (x : (Nat ⊕ (Nat × Bool))) (h : lp (fun v => B_view_Apart_0 a0 a1 v) v = some x) : lpAt G Ω0 E0 c5_0 (S_view_Apart_0 a0 a1 v) = some (X_view_Apart_0 a0 a1 x) :=
  lp_lift c5_0 (S_view_Apart_0 a0 a1) (X_view_Apart_0 a0 a1) (fun _ => rfl) (fun v o h => LB_view_Apart_0 a0 a1 v o h) h
abbrev Y_view_Apart (a0 : (List Event)) (a1 : (List Event)) (r : Int) : AEnd × HP := (.ret (I r), H0)
abbrev O_view_Apart (a0 : (List Event)) (a1 : (List Event)) (r : Int) : Prop := call G Ω0 E0 5 [(.l 27 (a0.map eEvent)), (.l 27 (a1.map eEvent))] H0 = some (Y_view_Apart a0 a1 r)
noncomputable def F_view_Apart (a0 : (List Event)) (a1 : (List Event)) : Option Int :=
  (lp (fun v => B_view_Apart_0 a0 a1 v) 0).bind fun (x1 : (Nat ⊕ (Nat × Bool))) => match x1 with
  | .inl ya_2 =>
    some (ya_2 : Int)
  | .inr yb_2 =>
    some (-1)
theorem lift_view_Apart (a0 : (List Event)) (a1 : (List Event)) (r : Int) (h : F_view_Apart a0 a1 = some r) : O_view_Apart a0 a1 r :=
  have L := fun {a} => lY (Y := Y_view_Apart a0 a1) (a := a) (r := r)
  callT G5 (ao (.i (a0.length : Int)) <| ao (.i (a1.length : Int)) <| ao (.i (if (a1.length : Int) > (a0.length : Int) then (a1.length : Int) else (a0.length : Int))) <| AT.or (AT.ex fun (ya_2 : Nat) => ao (.lp .ret ⟨[(4, (I (ya_2 : Int)))], [], H0⟩) <| AT.nil) (AT.ex fun (yb_2 : (Nat × Bool)) => ao (.lp (.ex 0) ⟨[(0, (.l 27 (a0.map eEvent))), (1, (.l 27 (a1.map eEvent))), (10, (I (if (a1.length : Int) > (a0.length : Int) then (a1.length : Int) else (a0.length : Int)))), (11, (I (yb_2.1 : Int))), (12, (.b yb_2.2))], [], H0⟩) <| AT.nil)) (ai (map_len eEvent a0) <| ai (map_len eEvent a1) <| ai (rfl : (if (a1.length : Int) > (a0.length : Int) then (a1.length : Int) else (a0.length : Int)) = (if (a1.length : Int) > (a0.length : Int) then (a1.length : Int) else (a0.length : Int))) <| sum2 h (fun ya_2 lp3 h => have lp3 := LL_view_Apart_0 a0 a1 0 _ lp3; ai lp3 <| L h) (fun yb_2 lp3 h => have lp3 := LL_view_Apart_0 a0 a1 0 _ lp3; ai lp3 <| L h)) (by kernel_rfl)
end Go.Proofs.Ytmfihcbafljcbaa.A
