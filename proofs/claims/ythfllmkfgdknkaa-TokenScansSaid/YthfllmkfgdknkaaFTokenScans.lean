/- Functions of the program as plain functions, by program. -/
import Derived.Test.YthfllmkfgdknkaaTypes
import Derived.Test.YthfllmkfgdknkaaLift
import Derived.Test.YthfllmkfgdknkaaFTB
set_option maxRecDepth 100000
set_option linter.unusedSectionVars false
set_option linter.unusedVariables false
set_option linter.unusedSimpArgs false
set_option linter.constructorNameAsVariable false
namespace Go.Proofs.Ythfllmkfgdknkaa.A
open Go
variable [Lp]
theorem L_TokenScans_e1 (a0 : (List UInt8)) (r1 : ((List Token) × Int × Int)) (r3 : ((List Token) × Int × Int)) (r5 : Bool) (r10 : Bool) (k2 : call G Ω0 E0 7 [(.s a0)] H0 = some (.ret (.tp [(.l 34 (r1.1.map eToken)), (I r1.2.1), (I r1.2.2)]), H0)) (k4 : call G Ω0 E0 8 [(.s a0)] H0 = some (.ret (.tp [(.l 34 (r3.1.map eToken)), (I r3.2.1), (I r3.2.2)]), H0)) (k6 : call G Ω0 E0 9 [] H0 = some (.ret (.b r5), H0)) (h7 : r5 = true) (h8 : (r1.2.2 == r3.2.2) = true) (h9 : (r1.2.1 == r3.2.1) = true) (k11 : call G Ω0 E0 10 [(.l 34 (r1.1.map eToken)), (.l 34 (r3.1.map eToken)), (.b true)] H0 = some (.ret (.b r10), H0)) : call G Ω0 E0 3 [(.s a0)] H0 = some (.ret (.b r10), H0) :=
  call_by G3 (T := call G Ω0 E0 7 [(.s a0)] H0 = some (.ret (.tp [(.l 34 (r1.1.map eToken)), (I r1.2.1), (I r1.2.2)]), H0) ∧ call G Ω0 E0 8 [(.s a0)] H0 = some (.ret (.tp [(.l 34 (r3.1.map eToken)), (I r3.2.1), (I r3.2.2)]), H0) ∧ call G Ω0 E0 9 [] H0 = some (.ret (.b r5), H0) ∧ (r5 == true) = true ∧ (r5 == true) = true ∧ (r5 == true) = true ∧ r5 = true ∧ ((r1.2.2 == r3.2.2) == true) = true ∧ ((r1.2.2 == r3.2.2) == true) = true ∧ ((r1.2.2 == r3.2.2) == true) = true ∧ (r1.2.2 == r3.2.2) = true ∧ ((r1.2.1 == r3.2.1) == true) = true ∧ ((r1.2.1 == r3.2.1) == true) = true ∧ ((r1.2.1 == r3.2.1) == true) = true ∧ call G Ω0 E0 10 [(.l 34 (r1.1.map eToken)), (.l 34 (r3.1.map eToken)), (.b true)] H0 = some (.ret (.b r10), H0) ∧ (r1.2.1 == r3.2.1) = true ∧ ((.b r10) : AV) = ((.b r10) : AV) ∧ (H0 : HP) = (H0 : HP)) [.v (.tp [(.l 34 (r1.1.map eToken)), (I r1.2.1), (I r1.2.2)]), .v (.tp [(.l 34 (r3.1.map eToken)), (I r3.2.1), (I r3.2.2)]), .v (.b r5), .b true, .b true, .b true, .b true, .b true, .b true, .b true, .b true, .b true, .b true, .b true, .v (.b r10), .b true] (by kernel_rfl) ⟨k2, k4, k6, (congrArg (fun z => z == true) h7), (congrArg (fun z => z == true) h7), (congrArg (fun z => z == true) h7), h7, (congrArg (fun z => z == true) h8), (congrArg (fun z => z == true) h8), (congrArg (fun z => z == true) h8), h8, (congrArg (fun z => z == true) h9), (congrArg (fun z => z == true) h9), (congrArg (fun z => z == true) h9), k11, h9, rfl, rfl⟩
abbrev O_L_TokenScans (a0 : (List UInt8)) (r : Bool) : Prop := call G Ω0 E0 3 [(.s a0)] H0 = some (.ret (.b r), H0)
def F_L_TokenScans (a0 : (List UInt8)) : Option Bool :=
  (F_token_Scan a0).bind fun (r1 : ((List Token) × Int × Int)) =>
  (F_R_ScanOf a0).bind fun (r3 : ((List Token) × Int × Int)) =>
  (F_L_tokenBegun).bind fun (r5 : Bool) =>
  if r5 = true then
    if (r1.2.2 == r3.2.2) = true then
      if (r1.2.1 == r3.2.1) = true then
        (F_R_SameTokens r1.1 r3.1 true).bind fun (r10 : Bool) =>
        some r10
      else
        none
    else
      none
  else
    none
theorem lift_L_TokenScans (a0 : (List UInt8)) (r : Bool) (h : F_L_TokenScans a0 = some r) : O_L_TokenScans a0 r :=
  bindP h fun r1 k2 h => have k2 := lift_token_Scan a0 _ k2; bindP h fun r3 k4 h => have k4 := lift_R_ScanOf a0 _ k4; bindP h fun r5 k6 h => have k6 := lift_L_tokenBegun  _ k6; iteB h (fun h7 h => iteB h (fun h8 h => iteB h (fun h9 h => bindP h fun r10 k11 h => have k11 := lift_R_SameTokens r1.1 r3.1 true _ k11; leafO (P := O_L_TokenScans a0) h (L_TokenScans_e1 a0 r1 r3 r5 r10 k2 k4 k6 h7 h8 h9 k11)) (fun h9 h => noneO h)) (fun h8 h => noneO h)) (fun h7 h => noneO h)
end Go.Proofs.Ythfllmkfgdknkaa.A
