/- Functions of the program as plain functions, by program. -/
import Derived.Test.YtmfihcbafljcbaaTypes
import Derived.Test.YtmfihcbafljcbaaLift
import Derived.Test.YtmfihcbafljcbaaFR
set_option maxRecDepth 100000
set_option linter.unusedSectionVars false
set_option linter.unusedVariables false
set_option linter.unusedSimpArgs false
set_option linter.constructorNameAsVariable false
namespace Go.Proofs.Ytmfihcbafljcbaa.A
open Go
variable [Lp]
abbrev Y_L_ViewApart (a0 : (List Event)) (a1 : (List Event)) (r : Bool) : AEnd × HP := (.ret (.b r), H0)
abbrev O_L_ViewApart (a0 : (List Event)) (a1 : (List Event)) (r : Bool) : Prop := call G Ω0 E0 3 [(.l 27 (a0.map eEvent)), (.l 27 (a1.map eEvent))] H0 = some (Y_L_ViewApart a0 a1 r)
noncomputable def F_L_ViewApart (a0 : (List Event)) (a1 : (List Event)) : Option Bool :=
  (F_L_viewBegun).bind fun (r1 : Bool) =>
  if r1 = true then
    (F_view_Apart a0 a1).bind fun (r4 : Int) =>
    (F_R_ApartOf a0 a1).bind fun (r6 : Int) =>
    some (r4 == r6)
  else
    none
theorem lift_L_ViewApart (a0 : (List Event)) (a1 : (List Event)) (r : Bool) (h : F_L_ViewApart a0 a1 = some r) : O_L_ViewApart a0 a1 r :=
  have L := fun {a} => lY (Y := Y_L_ViewApart a0 a1) (a := a) (r := r)
  callT G3 (AT.ex fun (r1 : Bool) => ao (.v (.b r1)) <| bt <| bt <| bt <| AT.ex fun (r4 : Int) => ao (.v (I r4)) <| bt <| bt <| bt <| AT.ex fun (r6 : Int) => ao (.v (I r6)) <| bt <| bt <| AT.nil) (exB h fun r1 ek2 h => have ek2 := lift_L_viewBegun  _ ek2; ai ek2 <| iteB h (fun h3 h => ai (g1 h3) <| ai (g1 h3) <| ai (g1 h3) <| exB h fun r4 ek5 h => have ek5 := lift_view_Apart a0 a1 _ ek5; ai ek5 <| ai (g1 h3) <| ai (g1 h3) <| ai (g1 h3) <| exB h fun r6 ek7 h => have ek7 := lift_R_ApartOf a0 a1 _ ek7; ai ek7 <| ai (g1 h3) <| ai h3 <| L h) (fun _ h => noneO h)) (by kernel_rfl)
end Go.Proofs.Ytmfihcbafljcbaa.A
