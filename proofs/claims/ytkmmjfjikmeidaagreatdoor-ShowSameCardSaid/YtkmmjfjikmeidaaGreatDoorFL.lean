/- Functions of the program as plain functions, by program. -/
import Derived.Test.YtkmmjfjikmeidaaGreatDoorTypes
import Derived.Test.YtkmmjfjikmeidaaGreatDoorLift
import Derived.Test.YtkmmjfjikmeidaaGreatDoorFR
set_option maxRecDepth 100000
set_option linter.unusedSectionVars false
set_option linter.unusedVariables false
set_option linter.unusedSimpArgs false
set_option linter.constructorNameAsVariable false
namespace Go.Proofs.YtkmmjfjikmeidaaGreatDoor.A
open Go
variable [Lp]
abbrev Y_L_ShowSame (a0 : Tree) (a1 : Tree) (r : Bool) : AEnd × HP := (.ret (.b r), H0)
abbrev O_L_ShowSame (a0 : Tree) (a1 : Tree) (r : Bool) : Prop := call G Ω0 E0 3 [(.a [(.l 41 (a0.Decls.map eTreeDecl)), (.l 45 (a0.Main.map eTreeStmt))]), (.a [(.l 41 (a1.Decls.map eTreeDecl)), (.l 45 (a1.Main.map eTreeStmt))])] H0 = some (Y_L_ShowSame a0 a1 r)
noncomputable def F_L_ShowSame (a0 : Tree) (a1 : Tree) : Option Bool :=
  (F_L_showBegun).bind fun (r1 : Bool) =>
  if r1 = true then
    (F_show_Same a0 a1).bind fun (r4 : Bool) =>
    (F_R_SameTree a0 a1 false).bind fun (r6 : Bool) =>
    if (r4 == r6) = true then
      (F_show_Same a0 a0).bind fun (r9 : Bool) =>
      some r9
    else
      none
  else
    none
theorem lift_L_ShowSame (a0 : Tree) (a1 : Tree) (r : Bool) (h : F_L_ShowSame a0 a1 = some r) : O_L_ShowSame a0 a1 r :=
  have L := fun {a} => lY (Y := Y_L_ShowSame a0 a1) (a := a) (r := r)
  callT G3 (AT.ex fun (r1 : Bool) => ao (.v (.b r1)) <| bt <| bt <| bt <| bt <| bt <| AT.ex fun (r4 : Bool) => ao (.v (.b r4)) <| bt <| bt <| bt <| bt <| bt <| AT.ex fun (r6 : Bool) => ao (.v (.b r6)) <| bt <| bt <| bt <| bt <| bt <| bt <| bt <| AT.ex fun (r9 : Bool) => ao (.v (.b r9)) <| bt <| AT.nil) (ai tt <| ai tt <| ai tt <| exB h fun r1 ek2 h => have ek2 := lift_L_showBegun  _ ek2; ai ek2 <| ai tt <| ai tt <| iteB h (fun h3 h => ai (g1 h3) <| ai (rfl : Z0) <| ai tt <| ai (g1 h3) <| ai (rfl : Z0) <| ai tt <| ai (g1 h3) <| exB h fun r4 ek5 h => have ek5 := lift_show_Same a0 a1 _ ek5; ai ek5 <| ai tt <| ai (g1 h3) <| ai (rfl : Z0) <| ai tt <| ai (g1 h3) <| ai (rfl : Z0) <| ai tt <| ai (g1 h3) <| exB h fun r6 ek7 h => have ek7 := lift_R_SameTree a0 a1 false _ ek7; ai ek7 <| ai tt <| ai (g1 h3) <| ai tt <| ai h3 <| ai tt <| ai tt <| iteB h (fun h8 h => ai (g1 h8) <| ai (rfl : Z0) <| ai tt <| ai (g1 h8) <| ai (rfl : Z0) <| ai tt <| ai (g1 h8) <| exB h fun r9 ek10 h => have ek10 := lift_show_Same a0 a0 _ ek10; ai ek10 <| ai h8 <| L h) (fun _ h => noneO h)) (fun _ h => noneO h)) (by kernel_rfl)
end Go.Proofs.YtkmmjfjikmeidaaGreatDoor.A
