/- Functions of the program as plain functions, by program. -/
import Derived.Test.YtdoiklliklkbgaaTypes
import Derived.Test.YtdoiklliklkbgaaLift
import Derived.Test.YtdoiklliklkbgaaFE
set_option maxRecDepth 100000
set_option linter.unusedSectionVars false
set_option linter.unusedVariables false
set_option linter.unusedSimpArgs false
set_option linter.constructorNameAsVariable false
namespace Go.Proofs.Ytdoiklliklkbgaa.A
open Go
variable [Lp]
noncomputable def D_L_RunEvals_d0 (r1 : (Int × Int)) (r3 : Int) (w0_1 : Int) : Option Bool :=
  (F_L_runBegun).bind fun (r8 : Bool) =>
  if r8 = true then
    if (r1.2 == r3) = true then
      some (r1.1 == w0_1)
    else
      none
  else
    none
abbrev X_L_RunEvals_d0 (r1 : (Int × Int)) (r3 : Int) (w0_1 : Int) (x : Bool) : AExit × St := (.ret, ⟨[(4, (.b x))], [], H0⟩)
abbrev O_L_RunEvals_d0 (r1 : (Int × Int)) (r3 : Int) (w0_1 : Int) (x : Bool) : Prop := run G Ω0 E0 e3_0 ⟨[(5, (I r1.1)), (6, (I r1.2)), (7, (I r3)), (8, (I w0_1))], [], H0⟩ = some (X_L_RunEvals_d0 r1 r3 w0_1 x)
theorem LD_L_RunEvals_d0 (r1 : (Int × Int)) (r3 : Int) (w0_1 : Int) (x : Bool) (h : D_L_RunEvals_d0 r1 r3 w0_1 = some x) : O_L_RunEvals_d0 r1 r3 w0_1 x :=
  have lf := fun {a} => leafO (P := O_L_RunEvals_d0 r1 r3 w0_1) (a := a) (r := x)
  bindP h fun r8 ek9 h => have ek9 := lift_L_runBegun  _ ek9; iteB h (fun h10 h => iteB h (fun h11 h => lf h (runI [.v (.b r8), .b true, .b true, .b true, .b true, .b true, .b true, .b true, .b true] (fun z => ai ek9 <| ai (g1 h10) <| ai (g1 h10) <| ai (g1 h10) <| ai h10 <| ai (g1 h11) <| ai (g1 h11) <| ai (g1 h11) <| ai h11 <| z) (by kernel_rfl))) (fun h11 h => noneO h)) (fun h10 h => noneO h)
abbrev O_L_RunEvals (a0 : ExprT) (a1 : (List Int)) (r : Bool) : Prop := call G Ω0 E0 3 [(.a (kExprT a0)), (.l 3 (a1.map (I)))] H0 = some (.ret (.b r), H0)
noncomputable def F_L_RunEvals (a0 : ExprT) (a1 : (List Int)) : Option Bool :=
  (F_run_Eval a0 a1).bind fun (r1 : (Int × Int)) =>
  (F_R_CheckEval a0 a1).bind fun (r3 : Int) =>
  if (r3 == 0) = true then
    (F_R_ValueOf a0 a1).bind fun (r6 : Int) =>
    (D_L_RunEvals_d0 r1 r3 r6).bind fun (x8 : Bool) =>
    some x8
  else
    (D_L_RunEvals_d0 r1 r3 0).bind fun (x6 : Bool) =>
    some x6
theorem lift_L_RunEvals (a0 : ExprT) (a1 : (List Int)) (r : Bool) (h : F_L_RunEvals a0 a1 = some r) : O_L_RunEvals a0 a1 r :=
  have lf := fun {a} => leafO (P := O_L_RunEvals a0 a1) (a := a) (r := r)
  bindP h fun r1 ek2 h => have ek2 := lift_run_Eval a0 a1 _ ek2; bindP h fun r3 ek4 h => have ek4 := lift_R_CheckEval a0 a1 _ ek4; iteB h (fun h5 h => bindP h fun r6 ek7 h => have ek7 := lift_R_ValueOf a0 a1 _ ek7; bindP h fun x8 fr9 h => have fr9 := LD_L_RunEvals_d0 r1 r3 r6 _ fr9; lf h (callI G3 [.b true, .v (.tp [(I r1.1), (I r1.2)]), .b true, .v (I r3), .b true, .b true, .v (I r6), .fr .ret ⟨[(4, (.b x8))], [], H0⟩] (fun z => ai tt <| ai (rfl : Z0) <| ai ek2 <| ai (rfl : Z0) <| ai ek4 <| ai h5 <| ai (rfl : Z0) <| ai ek7 <| ai fr9 <| z) (by kernel_rfl))) (fun h5 h => bindP h fun x6 fr7 h => have fr7 := LD_L_RunEvals_d0 r1 r3 0 _ fr7; lf h (callI G3 [.b true, .v (.tp [(I r1.1), (I r1.2)]), .b true, .v (I r3), .b false, .fr .ret ⟨[(4, (.b x6))], [], H0⟩] (fun z => ai tt <| ai (rfl : Z0) <| ai ek2 <| ai (rfl : Z0) <| ai ek4 <| ai h5 <| ai fr7 <| z) (by kernel_rfl)))
end Go.Proofs.Ytdoiklliklkbgaa.A
