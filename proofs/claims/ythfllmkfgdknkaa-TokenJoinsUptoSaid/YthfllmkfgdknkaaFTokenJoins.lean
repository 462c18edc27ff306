/- Functions of the program as plain functions, by program. -/
import Derived.Test.YthfllmkfgdknkaaTypes
import Derived.Test.YthfllmkfgdknkaaLift
import Derived.Test.YthfllmkfgdknkaaFTB
set_option maxRecDepth 100000
set_option linter.unusedSectionVars false
set_option linter.unusedVariables false
set_option linter.unusedSimpArgs false
set_option linter.constructorNameAsVariable false
namespace Go.Proofs.Ythfllmkfgdknkaa.A
open Go
variable [Lp]
theorem L_TokenJoins_e1 (a0 : (List Token)) (r1 : ((List UInt8) × Int)) (r3 : ((List UInt8) × Int)) (r5 : Bool) (k2 : call G Ω0 E0 11 [(.l 34 (a0.map eToken))] H0 = some (.ret (.tp [(.s r1.1), (I r1.2)]), H0)) (k4 : call G Ω0 E0 12 [(.l 34 (a0.map eToken))] H0 = some (.ret (.tp [(.s r3.1), (I r3.2)]), H0)) (k6 : call G Ω0 E0 9 [] H0 = some (.ret (.b r5), H0)) (h7 : r5 = true) (h8 : (r1.2 == r3.2) = true) : call G Ω0 E0 4 [(.l 34 (a0.map eToken))] H0 = some (.ret (.b (r1.1 == r3.1)), H0) :=
  call_by G4 (T := call G Ω0 E0 11 [(.l 34 (a0.map eToken))] H0 = some (.ret (.tp [(.s r1.1), (I r1.2)]), H0) ∧ call G Ω0 E0 12 [(.l 34 (a0.map eToken))] H0 = some (.ret (.tp [(.s r3.1), (I r3.2)]), H0) ∧ call G Ω0 E0 9 [] H0 = some (.ret (.b r5), H0) ∧ (r5 == true) = true ∧ (r5 == true) = true ∧ (r5 == true) = true ∧ r5 = true ∧ ((r1.2 == r3.2) == true) = true ∧ ((r1.2 == r3.2) == true) = true ∧ ((r1.2 == r3.2) == true) = true ∧ (r1.2 == r3.2) = true ∧ ((.b (r1.1 == r3.1)) : AV) = ((.b (r1.1 == r3.1)) : AV) ∧ (H0 : HP) = (H0 : HP)) [.v (.tp [(.s r1.1), (I r1.2)]), .v (.tp [(.s r3.1), (I r3.2)]), .v (.b r5), .b true, .b true, .b true, .b true, .b true, .b true, .b true, .b true] (by kernel_rfl) ⟨k2, k4, k6, (congrArg (fun z => z == true) h7), (congrArg (fun z => z == true) h7), (congrArg (fun z => z == true) h7), h7, (congrArg (fun z => z == true) h8), (congrArg (fun z => z == true) h8), (congrArg (fun z => z == true) h8), h8, rfl, rfl⟩
abbrev O_L_TokenJoins (a0 : (List Token)) (r : Bool) : Prop := call G Ω0 E0 4 [(.l 34 (a0.map eToken))] H0 = some (.ret (.b r), H0)
def F_L_TokenJoins (a0 : (List Token)) : Option Bool :=
  (F_token_Join a0).bind fun (r1 : ((List UInt8) × Int)) =>
  (F_R_JoinOf a0).bind fun (r3 : ((List UInt8) × Int)) =>
  (F_L_tokenBegun).bind fun (r5 : Bool) =>
  if r5 = true then
    if (r1.2 == r3.2) = true then
      some (r1.1 == r3.1)
    else
      none
  else
    none
theorem lift_L_TokenJoins (a0 : (List Token)) (r : Bool) (h : F_L_TokenJoins a0 = some r) : O_L_TokenJoins a0 r :=
  bindP h fun r1 k2 h => have k2 := lift_token_Join a0 _ k2; bindP h fun r3 k4 h => have k4 := lift_R_JoinOf a0 _ k4; bindP h fun r5 k6 h => have k6 := lift_L_tokenBegun  _ k6; iteB h (fun h7 h => iteB h (fun h8 h => leafO (P := O_L_TokenJoins a0) h (L_TokenJoins_e1 a0 r1 r3 r5 k2 k4 k6 h7 h8)) (fun h8 h => noneO h)) (fun h7 h => noneO h)
end Go.Proofs.Ythfllmkfgdknkaa.A
