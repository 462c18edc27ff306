/- Functions of the program as plain functions, by program. -/
import Derived.Test.YthfllmkfgdknkaaTypes
import Derived.Test.YthfllmkfgdknkaaLift
import Derived.Test.YthfllmkfgdknkaaFTB
set_option maxRecDepth 100000
set_option linter.unusedSectionVars false
set_option linter.unusedVariables false
set_option linter.unusedSimpArgs false
set_option linter.constructorNameAsVariable false
namespace Go.Proofs.Ythfllmkfgdknkaa.A
open Go
variable [Lp]
theorem L_TokenBack_d1_p1 (a1 : (List UInt8)) (r13 : ((List Token) × Int × Int)) (k14 : call G Ω0 E0 7 [(.s a1)] H0 = some (.ret (.tp [(.l 34 (r13.1.map eToken)), (I r13.2.1), (I r13.2.2)]), H0)) (h15 : (r13.2.2 != 0) = true) : run G Ω0 E0 e5_1 ⟨[(1, (.s a1))], [], H0⟩ = some (.ret, ⟨[(4, (.b ((r13.1.length : Int) == 0)))], [], H0⟩) :=
  run_by (T := call G Ω0 E0 7 [(.s a1)] H0 = some (.ret (.tp [(.l 34 (r13.1.map eToken)), (I r13.2.1), (I r13.2.2)]), H0) ∧ (r13.2.2 != 0) = true ∧ ((r13.1.map eToken).length : Int) = (r13.1.length : Int) ∧ (.ret : AExit) = .ret ∧ (⟨[(4, (.b ((r13.1.length : Int) == 0)))], [], H0⟩ : St) = ⟨[(4, (.b ((r13.1.length : Int) == 0)))], [], H0⟩) [.v (.tp [(.l 34 (r13.1.map eToken)), (I r13.2.1), (I r13.2.2)]), .b true, .i (r13.1.length : Int)] (by kernel_rfl) ⟨k14, h15, (map_len ..), rfl, rfl⟩
theorem L_TokenBack_d1_p2 (a1 : (List UInt8)) (r13 : ((List Token) × Int × Int)) (r16 : ((List UInt8) × Int)) (k14 : call G Ω0 E0 7 [(.s a1)] H0 = some (.ret (.tp [(.l 34 (r13.1.map eToken)), (I r13.2.1), (I r13.2.2)]), H0)) (h15 : (r13.2.2 != 0) = false) (k17 : call G Ω0 E0 11 [(.l 34 (r13.1.map eToken))] H0 = some (.ret (.tp [(.s r16.1), (I r16.2)]), H0)) (h18 : (r16.2 != 0) = true) : run G Ω0 E0 e5_1 ⟨[(1, (.s a1))], [], H0⟩ = some (.ret, ⟨[(4, (.b (r16.2 == 2)))], [], H0⟩) :=
  run_by (T := call G Ω0 E0 7 [(.s a1)] H0 = some (.ret (.tp [(.l 34 (r13.1.map eToken)), (I r13.2.1), (I r13.2.2)]), H0) ∧ (r13.2.2 != 0) = false ∧ call G Ω0 E0 11 [(.l 34 (r13.1.map eToken))] H0 = some (.ret (.tp [(.s r16.1), (I r16.2)]), H0) ∧ (r16.2 != 0) = true ∧ (.ret : AExit) = .ret ∧ (⟨[(4, (.b (r16.2 == 2)))], [], H0⟩ : St) = ⟨[(4, (.b (r16.2 == 2)))], [], H0⟩) [.v (.tp [(.l 34 (r13.1.map eToken)), (I r13.2.1), (I r13.2.2)]), .b false, .v (.tp [(.s r16.1), (I r16.2)]), .b true] (by kernel_rfl) ⟨k14, h15, k17, h18, rfl, rfl⟩
theorem L_TokenBack_d1_p3 (a1 : (List UInt8)) (r13 : ((List Token) × Int × Int)) (r16 : ((List UInt8) × Int)) (r19 : ((List Token) × Int × Int)) (r22 : Bool) (k14 : call G Ω0 E0 7 [(.s a1)] H0 = some (.ret (.tp [(.l 34 (r13.1.map eToken)), (I r13.2.1), (I r13.2.2)]), H0)) (h15 : (r13.2.2 != 0) = false) (k17 : call G Ω0 E0 11 [(.l 34 (r13.1.map eToken))] H0 = some (.ret (.tp [(.s r16.1), (I r16.2)]), H0)) (h18 : (r16.2 != 0) = false) (k20 : call G Ω0 E0 7 [(.s r16.1)] H0 = some (.ret (.tp [(.l 34 (r19.1.map eToken)), (I r19.2.1), (I r19.2.2)]), H0)) (h21 : (r19.2.2 == 0) = true) (k23 : call G Ω0 E0 10 [(.l 34 (r13.1.map eToken)), (.l 34 (r19.1.map eToken)), (.b false)] H0 = some (.ret (.b r22), H0)) : run G Ω0 E0 e5_1 ⟨[(1, (.s a1))], [], H0⟩ = some (.ret, ⟨[(4, (.b r22))], [], H0⟩) :=
  run_by (T := call G Ω0 E0 7 [(.s a1)] H0 = some (.ret (.tp [(.l 34 (r13.1.map eToken)), (I r13.2.1), (I r13.2.2)]), H0) ∧ (r13.2.2 != 0) = false ∧ call G Ω0 E0 11 [(.l 34 (r13.1.map eToken))] H0 = some (.ret (.tp [(.s r16.1), (I r16.2)]), H0) ∧ (r16.2 != 0) = false ∧ call G Ω0 E0 7 [(.s r16.1)] H0 = some (.ret (.tp [(.l 34 (r19.1.map eToken)), (I r19.2.1), (I r19.2.2)]), H0) ∧ ((r19.2.2 == 0) == true) = true ∧ ((r19.2.2 == 0) == true) = true ∧ ((r19.2.2 == 0) == true) = true ∧ call G Ω0 E0 10 [(.l 34 (r13.1.map eToken)), (.l 34 (r19.1.map eToken)), (.b false)] H0 = some (.ret (.b r22), H0) ∧ (r19.2.2 == 0) = true ∧ (.ret : AExit) = .ret ∧ (⟨[(4, (.b r22))], [], H0⟩ : St) = ⟨[(4, (.b r22))], [], H0⟩) [.v (.tp [(.l 34 (r13.1.map eToken)), (I r13.2.1), (I r13.2.2)]), .b false, .v (.tp [(.s r16.1), (I r16.2)]), .b false, .v (.tp [(.l 34 (r19.1.map eToken)), (I r19.2.1), (I r19.2.2)]), .b true, .b true, .b true, .v (.b r22), .b true] (by kernel_rfl) ⟨k14, h15, k17, h18, k20, (congrArg (fun z => z == true) h21), (congrArg (fun z => z == true) h21), (congrArg (fun z => z == true) h21), k23, h21, rfl, rfl⟩
def D_L_TokenBack_d1 (a1 : (List UInt8)) : Option Bool :=
  (F_token_Scan a1).bind fun (r13 : ((List Token) × Int × Int)) =>
  if (r13.2.2 != 0) = true then
    some ((r13.1.length : Int) == 0)
  else
    (F_token_Join r13.1).bind fun (r16 : ((List UInt8) × Int)) =>
    if (r16.2 != 0) = true then
      some (r16.2 == 2)
    else
      (F_token_Scan r16.1).bind fun (r19 : ((List Token) × Int × Int)) =>
      if (r19.2.2 == 0) = true then
        (F_R_SameTokens r13.1 r19.1 false).bind fun (r22 : Bool) =>
        some r22
      else
        none
abbrev X_L_TokenBack_d1 (a1 : (List UInt8)) (x : Bool) : AExit × St := (.ret, ⟨[(4, (.b x))], [], H0⟩)
abbrev O_L_TokenBack_d1 (a1 : (List UInt8)) (x : Bool) : Prop := run G Ω0 E0 e5_1 ⟨[(1, (.s a1))], [], H0⟩ = some (X_L_TokenBack_d1 a1 x)
theorem LD_L_TokenBack_d1 (a1 : (List UInt8)) (x : Bool) (h : D_L_TokenBack_d1 a1 = some x) : O_L_TokenBack_d1 a1 x :=
  bindP h fun r13 k14 h => have k14 := lift_token_Scan a1 _ k14; iteB h (fun h15 h => leafO (P := O_L_TokenBack_d1 a1) h (L_TokenBack_d1_p1 a1 r13 k14 h15)) (fun h15 h => bindP h fun r16 k17 h => have k17 := lift_token_Join r13.1 _ k17; iteB h (fun h18 h => leafO (P := O_L_TokenBack_d1 a1) h (L_TokenBack_d1_p2 a1 r13 r16 k14 h15 k17 h18)) (fun h18 h => bindP h fun r19 k20 h => have k20 := lift_token_Scan r16.1 _ k20; iteB h (fun h21 h => bindP h fun r22 k23 h => have k23 := lift_R_SameTokens r13.1 r19.1 false _ k23; leafO (P := O_L_TokenBack_d1 a1) h (L_TokenBack_d1_p3 a1 r13 r16 r19 r22 k14 h15 k17 h18 k20 h21 k23)) (fun h21 h => noneO h)))
theorem L_TokenBack_e2 (a0 : (List Token)) (a1 : (List UInt8)) (r1 : Bool) (r4 : ((List UInt8) × Int)) (r7 : ((List Token) × Int × Int)) (r10 : Bool) (x13 : Bool) (k2 : call G Ω0 E0 9 [] H0 = some (.ret (.b r1), H0)) (h3 : r1 = true) (k5 : call G Ω0 E0 11 [(.l 34 (a0.map eToken))] H0 = some (.ret (.tp [(.s r4.1), (I r4.2)]), H0)) (h6 : (r4.2 == 0) = true) (k8 : call G Ω0 E0 7 [(.s r4.1)] H0 = some (.ret (.tp [(.l 34 (r7.1.map eToken)), (I r7.2.1), (I r7.2.2)]), H0)) (h9 : (r7.2.2 != 0) = false) (k11 : call G Ω0 E0 10 [(.l 34 (a0.map eToken)), (.l 34 (r7.1.map eToken)), (.b false)] H0 = some (.ret (.b r10), H0)) (h12 : r10 = true) (fr14 : run G Ω0 E0 e5_1 ⟨[(1, (.s a1))], [], H0⟩ = some (.ret, ⟨[(4, (.b x13))], [], H0⟩)) : call G Ω0 E0 5 [(.l 34 (a0.map eToken)), (.s a1)] H0 = some (.ret (.b x13), H0) :=
  call_by G5 (T := call G Ω0 E0 9 [] H0 = some (.ret (.b r1), H0) ∧ (!r1) = false ∧ call G Ω0 E0 11 [(.l 34 (a0.map eToken))] H0 = some (.ret (.tp [(.s r4.1), (I r4.2)]), H0) ∧ (r4.2 == 0) = true ∧ call G Ω0 E0 7 [(.s r4.1)] H0 = some (.ret (.tp [(.l 34 (r7.1.map eToken)), (I r7.2.1), (I r7.2.2)]), H0) ∧ ((r7.2.2 != 0) == false) = true ∧ ((r7.2.2 != 0) == false) = true ∧ ((r7.2.2 != 0) == false) = true ∧ call G Ω0 E0 10 [(.l 34 (a0.map eToken)), (.l 34 (r7.1.map eToken)), (.b false)] H0 = some (.ret (.b r10), H0) ∧ ((r7.2.2 != 0) == false) = true ∧ (r7.2.2 != 0) = false ∧ (!r10) = false ∧ run G Ω0 E0 e5_1 ⟨[(1, (.s a1))], [], H0⟩ = some (.ret, ⟨[(4, (.b x13))], [], H0⟩) ∧ ((.b x13) : AV) = ((.b x13) : AV) ∧ (H0 : HP) = (H0 : HP)) [.v (.b r1), .b false, .v (.tp [(.s r4.1), (I r4.2)]), .b true, .v (.tp [(.l 34 (r7.1.map eToken)), (I r7.2.1), (I r7.2.2)]), .b true, .b true, .b true, .v (.b r10), .b true, .b false, .b false, .fr .ret ⟨[(4, (.b x13))], [], H0⟩] (by kernel_rfl) ⟨k2, (congrArg not h3), k5, h6, k8, (congrArg (fun z => z == false) h9), (congrArg (fun z => z == false) h9), (congrArg (fun z => z == false) h9), k11, (congrArg (fun z => z == false) h9), h9, (congrArg not h12), fr14, rfl, rfl⟩
theorem L_TokenBack_e4 (a0 : (List Token)) (a1 : (List UInt8)) (r1 : Bool) (r4 : ((List UInt8) × Int)) (x7 : Bool) (k2 : call G Ω0 E0 9 [] H0 = some (.ret (.b r1), H0)) (h3 : r1 = true) (k5 : call G Ω0 E0 11 [(.l 34 (a0.map eToken))] H0 = some (.ret (.tp [(.s r4.1), (I r4.2)]), H0)) (h6 : (r4.2 == 0) = false) (fr8 : run G Ω0 E0 e5_1 ⟨[(1, (.s a1))], [], H0⟩ = some (.ret, ⟨[(4, (.b x7))], [], H0⟩)) : call G Ω0 E0 5 [(.l 34 (a0.map eToken)), (.s a1)] H0 = some (.ret (.b x7), H0) :=
  call_by G5 (T := call G Ω0 E0 9 [] H0 = some (.ret (.b r1), H0) ∧ (!r1) = false ∧ call G Ω0 E0 11 [(.l 34 (a0.map eToken))] H0 = some (.ret (.tp [(.s r4.1), (I r4.2)]), H0) ∧ (r4.2 == 0) = false ∧ run G Ω0 E0 e5_1 ⟨[(1, (.s a1))], [], H0⟩ = some (.ret, ⟨[(4, (.b x7))], [], H0⟩) ∧ ((.b x7) : AV) = ((.b x7) : AV) ∧ (H0 : HP) = (H0 : HP)) [.v (.b r1), .b false, .v (.tp [(.s r4.1), (I r4.2)]), .b false, .fr .ret ⟨[(4, (.b x7))], [], H0⟩] (by kernel_rfl) ⟨k2, (congrArg not h3), k5, h6, fr8, rfl, rfl⟩
abbrev O_L_TokenBack (a0 : (List Token)) (a1 : (List UInt8)) (r : Bool) : Prop := call G Ω0 E0 5 [(.l 34 (a0.map eToken)), (.s a1)] H0 = some (.ret (.b r), H0)
def F_L_TokenBack (a0 : (List Token)) (a1 : (List UInt8)) : Option Bool :=
  (F_L_tokenBegun).bind fun (r1 : Bool) =>
  if r1 = true then
    (F_token_Join a0).bind fun (r4 : ((List UInt8) × Int)) =>
    if (r4.2 == 0) = true then
      (F_token_Scan r4.1).bind fun (r7 : ((List Token) × Int × Int)) =>
      if (r7.2.2 != 0) = true then
        none
      else
        (F_R_SameTokens a0 r7.1 false).bind fun (r10 : Bool) =>
        if r10 = true then
          (D_L_TokenBack_d1 a1).bind fun (x13 : Bool) =>
          some x13
        else
          none
    else
      (D_L_TokenBack_d1 a1).bind fun (x7 : Bool) =>
      some x7
  else
    none
theorem lift_L_TokenBack (a0 : (List Token)) (a1 : (List UInt8)) (r : Bool) (h : F_L_TokenBack a0 a1 = some r) : O_L_TokenBack a0 a1 r :=
  bindP h fun r1 k2 h => have k2 := lift_L_tokenBegun  _ k2; iteB h (fun h3 h => bindP h fun r4 k5 h => have k5 := lift_token_Join a0 _ k5; iteB h (fun h6 h => bindP h fun r7 k8 h => have k8 := lift_token_Scan r4.1 _ k8; iteB h (fun h9 h => noneO h) (fun h9 h => bindP h fun r10 k11 h => have k11 := lift_R_SameTokens a0 r7.1 false _ k11; iteB h (fun h12 h => bindP h fun x13 fr14 h => have fr14 := LD_L_TokenBack_d1 a1 _ fr14; leafO (P := O_L_TokenBack a0 a1) h (L_TokenBack_e2 a0 a1 r1 r4 r7 r10 x13 k2 h3 k5 h6 k8 h9 k11 h12 fr14)) (fun h12 h => noneO h))) (fun h6 h => bindP h fun x7 fr8 h => have fr8 := LD_L_TokenBack_d1 a1 _ fr8; leafO (P := O_L_TokenBack a0 a1) h (L_TokenBack_e4 a0 a1 r1 r4 x7 k2 h3 k5 h6 fr8))) (fun h3 h => noneO h)
end Go.Proofs.Ythfllmkfgdknkaa.A
