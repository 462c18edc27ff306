/- Functions of the program as plain functions, by program. -/
import Derived.Test.YthfllmkfgdknkaaTypes
import Derived.Test.YthfllmkfgdknkaaLift
import Derived.Test.YthfllmkfgdknkaaFT
import Derived.Test.YthfllmkfgdknkaaFR
set_option maxRecDepth 100000
set_option linter.unusedSectionVars false
set_option linter.unusedVariables false
set_option linter.unusedSimpArgs false
set_option linter.constructorNameAsVariable false
namespace Go.Proofs.Ythfllmkfgdknkaa.A
open Go
variable [Lp]
theorem L_tokenBegun_e1 (r1 : ((List Token) × Int × Int)) (r3 : ((List UInt8) × Int)) (y8 : Token) (k2 : call G Ω0 E0 7 [(.s ([97, 98, 32, 61, 61, 32, 55, 59, 35, 120]))] H0 = some (.ret (.tp [(.l 34 (r1.1.map eToken)), (I r1.2.1), (I r1.2.2)]), H0)) (k4 : call G Ω0 E0 11 [(.l 34 (r1.1.map eToken))] H0 = some (.ret (.tp [(.s r3.1), (I r3.2)]), H0)) (h5 : (r1.2.2 == 0) = true) (h6 : (r3.2 == 0) = true) (h7 : ((r1.1.length : Int) == 4) = true) (h9 : r1.1[1]? = some y8) (h10 : ((y8.Kind == 3) && ((y8.At == 3) && ((y8.Text == ([61, 61])) && true))) = true) : call G Ω0 E0 9 [] H0 = some (.ret (.b (r3.1 == ([97, 98, 32, 61, 61, 32, 55, 32, 59]))), H0) :=
  call_by G9 (T := call G Ω0 E0 7 [(.s ([97, 98, 32, 61, 61, 32, 55, 59, 35, 120]))] H0 = some (.ret (.tp [(.l 34 (r1.1.map eToken)), (I r1.2.1), (I r1.2.2)]), H0) ∧ call G Ω0 E0 11 [(.l 34 (r1.1.map eToken))] H0 = some (.ret (.tp [(.s r3.1), (I r3.2)]), H0) ∧ ((r1.2.2 == 0) == true) = true ∧ ((r1.2.2 == 0) == true) = true ∧ (r1.2.2 == 0) = true ∧ ((r3.2 == 0) == true) = true ∧ ((r3.2 == 0) == true) = true ∧ ((r1.1.map eToken).length : Int) = (r1.1.length : Int) ∧ ((r3.2 == 0) == true) = true ∧ (r3.2 == 0) = true ∧ (((r1.1.length : Int) == 4) == true) = true ∧ (((r1.1.length : Int) == 4) == true) = true ∧ (1 : Int) = (1 : Int) ∧ (r1.1.map eToken)[1]? = some (.a [(I y8.Kind), (I y8.At), (.s y8.Text)]) ∧ (((r1.1.length : Int) == 4) == true) = true ∧ (((r1.1.length : Int) == 4) == true) = true ∧ (((r1.1.length : Int) == 4) == true) = true ∧ sameCells [1, 1, 2] [(I y8.Kind), (I y8.At), (.s y8.Text)] [(I 3), (I 3), (.s ([61, 61]))] = some ((y8.Kind == 3) && ((y8.At == 3) && ((y8.Text == ([61, 61])) && true))) ∧ ((r1.1.length : Int) == 4) = true ∧ (((y8.Kind == 3) && ((y8.At == 3) && ((y8.Text == ([61, 61])) && true))) == true) = true ∧ (((y8.Kind == 3) && ((y8.At == 3) && ((y8.Text == ([61, 61])) && true))) == true) = true ∧ ((y8.Kind == 3) && ((y8.At == 3) && ((y8.Text == ([61, 61])) && true))) = true ∧ ((.b (r3.1 == ([97, 98, 32, 61, 61, 32, 55, 32, 59]))) : AV) = ((.b (r3.1 == ([97, 98, 32, 61, 61, 32, 55, 32, 59]))) : AV) ∧ (H0 : HP) = (H0 : HP)) [.v (.tp [(.l 34 (r1.1.map eToken)), (I r1.2.1), (I r1.2.2)]), .v (.tp [(.s r3.1), (I r3.2)]), .b true, .b true, .b true, .b true, .b true, .i (r1.1.length : Int), .b true, .b true, .b true, .b true, .n 1, .v (.a [(I y8.Kind), (I y8.At), (.s y8.Text)]), .b true, .b true, .b true, .b ((y8.Kind == 3) && ((y8.At == 3) && ((y8.Text == ([61, 61])) && true))), .b true, .b true, .b true, .b true] (by kernel_rfl) ⟨k2, k4, (congrArg (fun z => z == true) h5), (congrArg (fun z => z == true) h5), h5, (congrArg (fun z => z == true) h6), (congrArg (fun z => z == true) h6), (map_len ..), (congrArg (fun z => z == true) h6), h6, (congrArg (fun z => z == true) h7), (congrArg (fun z => z == true) h7), rfl, map_get eToken h9, (congrArg (fun z => z == true) h7), (congrArg (fun z => z == true) h7), (congrArg (fun z => z == true) h7), rfl, h7, (congrArg (fun z => z == true) h10), (congrArg (fun z => z == true) h10), h10, rfl, rfl⟩
abbrev O_L_tokenBegun (r : Bool) : Prop := call G Ω0 E0 9 [] H0 = some (.ret (.b r), H0)
def F_L_tokenBegun : Option Bool :=
  (F_token_Scan ([97, 98, 32, 61, 61, 32, 55, 59, 35, 120])).bind fun (r1 : ((List Token) × Int × Int)) =>
  (F_token_Join r1.1).bind fun (r3 : ((List UInt8) × Int)) =>
  if (r1.2.2 == 0) = true then
    if (r3.2 == 0) = true then
      if ((r1.1.length : Int) == 4) = true then
        (r1.1[1]?).bind fun (y8 : Token) =>
        if ((y8.Kind == 3) && ((y8.At == 3) && ((y8.Text == ([61, 61])) && true))) = true then
          some (r3.1 == ([97, 98, 32, 61, 61, 32, 55, 32, 59]))
        else
          none
      else
        none
    else
      none
  else
    none
theorem lift_L_tokenBegun (r : Bool) (h : F_L_tokenBegun = some r) : O_L_tokenBegun r :=
  bindP h fun r1 k2 h => have k2 := lift_token_Scan ([97, 98, 32, 61, 61, 32, 55, 59, 35, 120]) _ k2; bindP h fun r3 k4 h => have k4 := lift_token_Join r1.1 _ k4; iteB h (fun h5 h => iteB h (fun h6 h => iteB h (fun h7 h => bindP h fun y8 h9 h => iteB h (fun h10 h => leafO (P := O_L_tokenBegun) h (L_tokenBegun_e1 r1 r3 y8 k2 k4 h5 h6 h7 h9 h10)) (fun h10 h => noneO h)) (fun h7 h => noneO h)) (fun h6 h => noneO h)) (fun h5 h => noneO h)
end Go.Proofs.Ythfllmkfgdknkaa.A
