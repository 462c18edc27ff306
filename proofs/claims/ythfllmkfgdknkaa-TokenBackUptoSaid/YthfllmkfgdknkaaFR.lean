/- Functions of the program as plain functions, by program. -/
import Derived.Test.YthfllmkfgdknkaaFRP1
set_option maxRecDepth 100000
set_option linter.unusedSectionVars false
set_option linter.unusedVariables false
set_option linter.unusedSimpArgs false
set_option linter.constructorNameAsVariable false
namespace Go.Proofs.Ythfllmkfgdknkaa.A
open Go
variable [Lp]
def B_R_SameTokens_0 (a0 : (List Token)) (a1 : (List Token)) (a2 : Bool) (v0_7 : Nat) : Option (Nat ⊕ (Unit ⊕ (Nat × Bool))) :=
  if (v0_7 : Int) < (a0.length : Int) then
    (a0[v0_7]?).bind fun (y3 : Token) =>
    (a1[v0_7]?).bind fun (y5 : Token) =>
    if (y3.Kind != y5.Kind) = true then
      some (.inr (.inl ()))
    else
      if (y3.Text == y5.Text) = true then
        if a2 = true then
          if (y3.At != y5.At) = true then
            some (.inr (.inl ()))
          else
            if IntKind.i64.wrap ((v0_7 : Int) + 1) = ((v0_7 + 1 : Nat) : Int) then
              some (.inl (v0_7 + 1))
            else none
        else
          if IntKind.i64.wrap ((v0_7 : Int) + 1) = ((v0_7 + 1 : Nat) : Int) then
            some (.inl (v0_7 + 1))
          else none
      else
        some (.inr (.inl ()))
  else
    some (.inr (.inr (v0_7, decide ((v0_7 : Int) < (a0.length : Int)))))
abbrev S_R_SameTokens_0 (a0 : (List Token)) (a1 : (List Token)) (a2 : Bool) (v : Nat) : St := ⟨[(0, (.l 34 (a0.map eToken))), (1, (.l 34 (a1.map eToken))), (2, (.b a2)), (7, (I (v : Int)))], [], H0⟩
abbrev X_R_SameTokens_0 (a0 : (List Token)) (a1 : (List Token)) (a2 : Bool) (x : (Unit ⊕ (Nat × Bool))) : AExit × St := match x with | .inl () => (.ret, ⟨[(6, (.b false))], [], H0⟩) | .inr (z1, z2) => ((.ex 0), ⟨[(0, (.l 34 (a0.map eToken))), (1, (.l 34 (a1.map eToken))), (2, (.b a2)), (7, (I (z1 : Int))), (16, (.b z2))], [], H0⟩)
theorem LB_R_SameTokens_0 (a0 : (List Token)) (a1 : (List Token)) (a2 : Bool) (v0_7 : Nat) (o : Nat ⊕ (Unit ⊕ (Nat × Bool))) (h : B_R_SameTokens_0 a0 a1 a2 v0_7 = some o) : bodyOK E0 c10_0 (S_R_SameTokens_0 a0 a1 a2) (X_R_SameTokens_0 a0 a1 a2) v0_7 o :=
  iteP h (fun h2 h => bindP h fun y3 h4 h => bindP h fun y5 h6 h => iteB h (fun h7 h => leafO (P := bodyOK E0 c10_0 (S_R_SameTokens_0 a0 a1 a2) (X_R_SameTokens_0 a0 a1 a2) v0_7) h (⟨R_SameTokens_0_x1 a0 a1 a2 v0_7 y3 y5 h2 h4 h6 h7, ne_ret⟩)) (fun h7 h => iteB h (fun h8 h => iteB h (fun h9 h => iteB h (fun h10 h => leafO (P := bodyOK E0 c10_0 (S_R_SameTokens_0 a0 a1 a2) (X_R_SameTokens_0 a0 a1 a2) v0_7) h (⟨R_SameTokens_0_x2 a0 a1 a2 v0_7 y3 y5 h2 h4 h6 h7 h8 h9 h10, ne_ret⟩)) (fun h10 h => asrtP h fun w11 h => leafO (P := bodyOK E0 c10_0 (S_R_SameTokens_0 a0 a1 a2) (X_R_SameTokens_0 a0 a1 a2) v0_7) h (R_SameTokens_0_r3 a0 a1 a2 v0_7 y3 y5 h2 h4 h6 h7 h8 h9 h10 w11))) (fun h9 h => asrtP h fun w10 h => leafO (P := bodyOK E0 c10_0 (S_R_SameTokens_0 a0 a1 a2) (X_R_SameTokens_0 a0 a1 a2) v0_7) h (R_SameTokens_0_r4 a0 a1 a2 v0_7 y3 y5 h2 h4 h6 h7 h8 h9 w10))) (fun h8 h => leafO (P := bodyOK E0 c10_0 (S_R_SameTokens_0 a0 a1 a2) (X_R_SameTokens_0 a0 a1 a2) v0_7) h (⟨R_SameTokens_0_x5 a0 a1 a2 v0_7 y3 y5 h2 h4 h6 h7 h8, ne_ret⟩)))) (fun h2 h => leafO (P := bodyOK E0 c10_0 (S_R_SameTokens_0 a0 a1 a2) (X_R_SameTokens_0 a0 a1 a2) v0_7) h (⟨R_SameTokens_0_x6 a0 a1 a2 v0_7 h2, ne_ex _⟩))
theorem LL_R_SameTokens_0 (a0 : (List Token)) (a1 : (List Token)) (a2 : Bool) (v : Nat) (x : (Unit ⊕ (Nat × Bool))) (h : lp (fun v => B_R_SameTokens_0 a0 a1 a2 v) v = some x) : lpAt G Ω0 E0 c10_0 (S_R_SameTokens_0 a0 a1 a2 v) = some (X_R_SameTokens_0 a0 a1 a2 x) :=
  lp_lift c10_0 (S_R_SameTokens_0 a0 a1 a2) (X_R_SameTokens_0 a0 a1 a2) (fun _ => rfl) (fun v o h => LB_R_SameTokens_0 a0 a1 a2 v o h) h
theorem R_SameTokens_e1 (a0 : (List Token)) (a1 : (List Token)) (a2 : Bool) (h1 : ((a0.length : Int) != (a1.length : Int)) = true) : call G Ω0 E0 10 [(.l 34 (a0.map eToken)), (.l 34 (a1.map eToken)), (.b a2)] H0 = some (.ret (.b false), H0) :=
  call_by G10 (T := ((a0.map eToken).length : Int) = (a0.length : Int) ∧ ((a1.map eToken).length : Int) = (a1.length : Int) ∧ ((a0.length : Int) != (a1.length : Int)) = true ∧ ((.b false) : AV) = ((.b false) : AV) ∧ (H0 : HP) = (H0 : HP)) [.i (a0.length : Int), .i (a1.length : Int), .b true] (by kernel_rfl) ⟨(map_len ..), (map_len ..), h1, rfl, rfl⟩
theorem R_SameTokens_e2 (a0 : (List Token)) (a1 : (List Token)) (a2 : Bool) (h1 : ((a0.length : Int) != (a1.length : Int)) = false) (lp3 : lpAt G Ω0 E0 c10_0 ⟨[(0, (.l 34 (a0.map eToken))), (1, (.l 34 (a1.map eToken))), (2, (.b a2)), (7, (I 0))], [], H0⟩ = some (.ret, ⟨[(6, (.b false))], [], H0⟩)) : call G Ω0 E0 10 [(.l 34 (a0.map eToken)), (.l 34 (a1.map eToken)), (.b a2)] H0 = some (.ret (.b false), H0) :=
  call_by G10 (T := ((a0.map eToken).length : Int) = (a0.length : Int) ∧ ((a1.map eToken).length : Int) = (a1.length : Int) ∧ ((a0.length : Int) != (a1.length : Int)) = false ∧ lpAt G Ω0 E0 c10_0 ⟨[(0, (.l 34 (a0.map eToken))), (1, (.l 34 (a1.map eToken))), (2, (.b a2)), (7, (I 0))], [], H0⟩ = some (.ret, ⟨[(6, (.b false))], [], H0⟩) ∧ ((.b false) : AV) = ((.b false) : AV) ∧ (H0 : HP) = (H0 : HP)) [.i (a0.length : Int), .i (a1.length : Int), .b false, .lp .ret ⟨[(6, (.b false))], [], H0⟩] (by kernel_rfl) ⟨(map_len ..), (map_len ..), h1, lp3, rfl, rfl⟩
theorem R_SameTokens_e3 (a0 : (List Token)) (a1 : (List Token)) (a2 : Bool) (z13 : Nat) (z24 : Bool) (h1 : ((a0.length : Int) != (a1.length : Int)) = false) (lp5 : lpAt G Ω0 E0 c10_0 ⟨[(0, (.l 34 (a0.map eToken))), (1, (.l 34 (a1.map eToken))), (2, (.b a2)), (7, (I 0))], [], H0⟩ = some ((.ex 0), ⟨[(0, (.l 34 (a0.map eToken))), (1, (.l 34 (a1.map eToken))), (2, (.b a2)), (7, (I (z13 : Int))), (16, (.b z24))], [], H0⟩)) : call G Ω0 E0 10 [(.l 34 (a0.map eToken)), (.l 34 (a1.map eToken)), (.b a2)] H0 = some (.ret (.b true), H0) :=
  call_by G10 (T := ((a0.map eToken).length : Int) = (a0.length : Int) ∧ ((a1.map eToken).length : Int) = (a1.length : Int) ∧ ((a0.length : Int) != (a1.length : Int)) = false ∧ lpAt G Ω0 E0 c10_0 ⟨[(0, (.l 34 (a0.map eToken))), (1, (.l 34 (a1.map eToken))), (2, (.b a2)), (7, (I 0))], [], H0⟩ = some ((.ex 0), ⟨[(0, (.l 34 (a0.map eToken))), (1, (.l 34 (a1.map eToken))), (2, (.b a2)), (7, (I (z13 : Int))), (16, (.b z24))], [], H0⟩) ∧ ((.b true) : AV) = ((.b true) : AV) ∧ (H0 : HP) = (H0 : HP)) [.i (a0.length : Int), .i (a1.length : Int), .b false, .lp (.ex 0) ⟨[(0, (.l 34 (a0.map eToken))), (1, (.l 34 (a1.map eToken))), (2, (.b a2)), (7, (I (z13 : Int))), (16, (.b z24))], [], H0⟩] (by kernel_rfl) ⟨(map_len ..), (map_len ..), h1, lp5, rfl, rfl⟩
abbrev O_R_SameTokens (a0 : (List Token)) (a1 : (List Token)) (a2 : Bool) (r : Bool) : Prop := call G Ω0 E0 10 [(.l 34 (a0.map eToken)), (.l 34 (a1.map eToken)), (.b a2)] H0 = some (.ret (.b r), H0)
def F_R_SameTokens (a0 : (List Token)) (a1 : (List Token)) (a2 : Bool) : Option Bool :=
  if ((a0.length : Int) != (a1.length : Int)) = true then
    some false
  else
    (lp (fun v => B_R_SameTokens_0 a0 a1 a2 v) 0).bind fun (x2 : (Unit ⊕ (Nat × Bool))) => match x2 with
    | .inl () =>
      some false
    | .inr (z13, z24) =>
      some true
theorem lift_R_SameTokens (a0 : (List Token)) (a1 : (List Token)) (a2 : Bool) (r : Bool) (h : F_R_SameTokens a0 a1 a2 = some r) : O_R_SameTokens a0 a1 a2 r :=
  iteB h (fun h1 h => leafO (P := O_R_SameTokens a0 a1 a2) h (R_SameTokens_e1 a0 a1 a2 h1)) (fun h1 h => (bindP h fun x2 hx h => match x2, hx, h with | .inl (), lp3, h => have lp3 := LL_R_SameTokens_0 a0 a1 a2 0 _ lp3; leafO (P := O_R_SameTokens a0 a1 a2) h (R_SameTokens_e2 a0 a1 a2 h1 lp3) | .inr (z13, z24), lp5, h => have lp5 := LL_R_SameTokens_0 a0 a1 a2 0 _ lp5; leafO (P := O_R_SameTokens a0 a1 a2) h (R_SameTokens_e3 a0 a1 a2 z13 z24 h1 lp5)))
end Go.Proofs.Ythfllmkfgdknkaa.A
