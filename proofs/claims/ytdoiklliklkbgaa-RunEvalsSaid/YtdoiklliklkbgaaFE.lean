/- Functions of the program as plain functions, by program. -/
import Derived.Test.YtdoiklliklkbgaaTypes
import Derived.Test.YtdoiklliklkbgaaLift
import Derived.Test.YtdoiklliklkbgaaFB
set_option maxRecDepth 100000
set_option linter.unusedSectionVars false
set_option linter.unusedVariables false
set_option linter.unusedSimpArgs false
set_option linter.constructorNameAsVariable false
namespace Go.Proofs.Ytdoiklliklkbgaa.A
open Go
variable [Lp]
abbrev O_scope_size (a0 : ExprT) (a1 : Int) (r : Int) : Prop := call G Ω0 E0 27 [(.a (kExprT a0)), (I a1)] H0 = some (.ret (I r), H0)
structure R_scope_size where
  f_scope_size : ExprT → Int → Option Int

structure OK_scope_size (R : R_scope_size) : Prop where
  f_scope_size : ∀ (a0 : ExprT) (a1 : Int) (r : Int), R.f_scope_size a0 a1 = some r → O_scope_size a0 a1 r

noncomputable def B_scope_size_0 (R : R_scope_size) (a0 : ExprT) (a1 : Int) (v0_5 : Int) (v0_11 : Nat) : Option ((Int × Nat) ⊕ ((Int × Nat × Bool × ExprT) ⊕ (Int × Nat × Bool))) :=
  if (v0_11 : Int) < (a0.Args.length : Int) then
    (a0.Args[v0_11]?).bind fun (y2 : ExprT) =>
    if a1 < v0_5 then
      some (.inr (.inl (v0_5, v0_11, decide (a1 < v0_5), y2)))
    else
      if IntKind.i64.wrap (a1 - v0_5) = a1 - v0_5 then
        (R.f_scope_size y2 (a1 - v0_5)).bind fun (r6 : Int) =>
        if IntKind.i64.wrap (v0_5 + r6) = v0_5 + r6 then
          if IntKind.i64.wrap ((v0_11 : Int) + 1) = ((v0_11 + 1 : Nat) : Int) then
            some (.inl (v0_5 + r6, v0_11 + 1))
          else none
        else none
      else none
  else
    some (.inr (.inr (v0_5, v0_11, decide ((v0_11 : Int) < (a0.Args.length : Int)))))
abbrev S_scope_size_0 (a0 : ExprT) (a1 : Int) (v : (Int × Nat)) : St := ⟨[(1, (I a1)), (5, (I v.1)), (9, (.l 24 (a0.Args.map eExprT))), (10, (I (a0.Args.length : Int))), (11, (I (v.2 : Int)))], [], H0⟩
abbrev X_scope_size_0 (a0 : ExprT) (a1 : Int) (x : ((Int × Nat × Bool × ExprT) ⊕ (Int × Nat × Bool))) : AExit × St := match x with | .inl (z1, z2, z3, z4) => ((.ex 0), ⟨[(1, (I a1)), (5, (I z1)), (7, (.p ⟨0, 7⟩ 0)), (9, (.l 24 (a0.Args.map eExprT))), (10, (I (a0.Args.length : Int))), (11, (I (z2 : Int))), (17, (.b z3))], [(7, (kExprT z4))], H0⟩) | .inr (z1, z2, z3) => ((.ex 0), ⟨[(1, (I a1)), (5, (I z1)), (9, (.l 24 (a0.Args.map eExprT))), (10, (I (a0.Args.length : Int))), (11, (I (z2 : Int))), (12, (.b z3))], [], H0⟩)
theorem LB_scope_size_0 (R : R_scope_size) (hR : OK_scope_size R) (a0 : ExprT) (a1 : Int) (v0_5 : Int) (v0_11 : Nat) (o : (Int × Nat) ⊕ ((Int × Nat × Bool × ExprT) ⊕ (Int × Nat × Bool))) (h : B_scope_size_0 R a0 a1 v0_5 v0_11 = some o) : bodyOK E0 c27_0 (S_scope_size_0 a0 a1) (X_scope_size_0 a0 a1) (v0_5, v0_11) o :=
  have lf := fun {a} => leafO (P := bodyOK E0 c27_0 (S_scope_size_0 a0 a1) (X_scope_size_0 a0 a1) (v0_5, v0_11)) (a := a) (r := o)
  iteP h (fun h1 h => bindP h fun y2 h3 h => iteP h (fun h4 h => lf h ⟨(runI [.b true, .n v0_11, .v (.a (kExprT y2)), .b true, .b true, .b true] (fun z => ai (decide_eq_true h1) <| ai (rfl : (v0_11 : Int) = (v0_11 : Int)) <| ai (map_getE eExprT h3 (eExprT_eq _)) <| ai tt <| ai ff <| ai (rfl : Z0) <| ai tt <| ai (rfl : Z0) <| ai (decide_eq_true h4) <| z) (by kernel_rfl)), ne_ex _⟩) (fun h4 h => asrtP h fun w5 h => bindP h fun r6 ek7 h => have ek7 := hR.f_scope_size y2 (a1 - v0_5) _ ek7; asrtP h fun w8 h => asrtP h fun w9 h => lf h (roundI [.b true, .n v0_11, .v (.a (kExprT y2)), .b true, .b true, .b false, .b true, .i (a1 - v0_5), .v (I r6), .i (v0_5 + r6), .i ((v0_11 + 1 : Nat) : Int)] (fun z => ai (decide_eq_true h1) <| ai (rfl : (v0_11 : Int) = (v0_11 : Int)) <| ai (map_getE eExprT h3 (eExprT_eq _)) <| ai tt <| ai ff <| ai (rfl : Z0) <| ai tt <| ai (rfl : Z0) <| ai (decide_eq_false h4) <| ai (rfl : Z0) <| ai w5 <| ai ek7 <| ai w8 <| ai w9 <| z) (by kernel_rfl)))) (fun h1 h => lf h ⟨(runI [.b false] (fun z => ai (decide_eq_false h1) <| z) (by kernel_rfl)), ne_ex _⟩)
theorem LL_scope_size_0 (R : R_scope_size) (hR : OK_scope_size R) (a0 : ExprT) (a1 : Int) (v : (Int × Nat)) (x : ((Int × Nat × Bool × ExprT) ⊕ (Int × Nat × Bool))) (h : lp (fun v => B_scope_size_0 R a0 a1 v.1 v.2) v = some x) : lpAt G Ω0 E0 c27_0 (S_scope_size_0 a0 a1 v) = some (X_scope_size_0 a0 a1 x) :=
  lp_lift c27_0 (S_scope_size_0 a0 a1) (X_scope_size_0 a0 a1) (fun _ => rfl) (fun v o h => LB_scope_size_0 R hR a0 a1 v.1 v.2 o h) h
noncomputable def FB_scope_size (R : R_scope_size) (a0 : ExprT) (a1 : Int) : Option Int :=
  (lp (fun v => B_scope_size_0 R a0 a1 v.1 v.2) (1, 0)).bind fun (x1 : ((Int × Nat × Bool × ExprT) ⊕ (Int × Nat × Bool))) => match x1 with
  | .inl (y_2, y_3, y_4, y_5) =>
    some y_2
  | .inr (y_2, y_3, y_4) =>
    some y_2
theorem liftB_scope_size (R : R_scope_size) (hR : OK_scope_size R) (a0 : ExprT) (a1 : Int) (r : Int) (h : FB_scope_size R a0 a1 = some r) : O_scope_size a0 a1 r :=
  have lf := fun {a} => leafO (P := O_scope_size a0 a1) (a := a) (r := r)
  (bindP h fun x1 hx h => match x1, hx, h with | .inl (y_2, y_3, y_4, y_5), lp6, h => have lp6 := LL_scope_size_0 R hR a0 a1 (1, 0) _ lp6; lf h (callI G27 [.b true, .i (a0.Args.length : Int), .lp (.ex 0) ⟨[(1, (I a1)), (5, (I y_2)), (7, (.p ⟨0, 7⟩ 0)), (9, (.l 24 (a0.Args.map eExprT))), (10, (I (a0.Args.length : Int))), (11, (I (y_3 : Int))), (17, (.b y_4))], [(7, (kExprT y_5))], H0⟩] (fun z => ai tt <| ai (rfl : Z0) <| ai (map_len eExprT a0.Args) <| ai lp6 <| z) (by kernel_rfl)) | .inr (y_2, y_3, y_4), lp5, h => have lp5 := LL_scope_size_0 R hR a0 a1 (1, 0) _ lp5; lf h (callI G27 [.b true, .i (a0.Args.length : Int), .lp (.ex 0) ⟨[(1, (I a1)), (5, (I y_2)), (9, (.l 24 (a0.Args.map eExprT))), (10, (I (a0.Args.length : Int))), (11, (I (y_3 : Int))), (12, (.b y_4))], [], H0⟩] (fun z => ai tt <| ai (rfl : Z0) <| ai (map_len eExprT a0.Args) <| ai lp5 <| z) (by kernel_rfl)))
noncomputable def N_scope_size : Nat → R_scope_size
  | 0 => ⟨fun z0 z1 => none⟩
  | n + 1 => ⟨FB_scope_size (N_scope_size n)⟩
theorem ok_scope_size : ∀ n, OK_scope_size (N_scope_size n)
  | 0 => ⟨fun _ _ r h => (by cases h)⟩
  | n + 1 => ⟨fun a0 a1 r h => liftB_scope_size _ (ok_scope_size n) a0 a1 r h⟩
noncomputable def F_scope_size (a0 : ExprT) (a1 : Int) : Option Int := ev fun n => (N_scope_size n).f_scope_size a0 a1
theorem lift_scope_size (a0 : ExprT) (a1 : Int) (r : Int) (h : F_scope_size a0 a1 = some r) : O_scope_size a0 a1 r := by
  obtain ⟨n, hn⟩ := ev_some h
  exact (ok_scope_size n).f_scope_size a0 a1 r hn
noncomputable def q_scope_part_j2 : List GOp := ⟨some 23, .as (.t 45), none, false⟩ :: []
noncomputable def D_scope_part_j2 (a0 : ExprT) (a1 : Int) (w1_1 : Nat) (u2_1 : Bool) : Option Bool :=
  some u2_1
abbrev X_scope_part_j2 (a0 : ExprT) (a1 : Int) (w1_1 : Nat) (u2_1 : Bool) (x : Bool) : St := ⟨[(1, (I a1)), (2, (.p ⟨0, 2⟩ 0)), (23, (.b x))], [(2, (kExprT a0))], H0⟩
abbrev O_scope_part_j2 (a0 : ExprT) (a1 : Int) (w1_1 : Nat) (u2_1 : Bool) (u2_w1 : AV) (u2_w2 : AV) (u2_w3 : AV) (u2_w4 : AV) (u2_w5 : AV) (u2_w6 : AV) (u2_w7 : AV) (u2_w8 : AV) (u2_w9 : AV) (u2_w10 : AV) (u2_w11 : AV) (u2_w12 : AV) (u2_w13 : AV) (u2_w14 : AV) (u2_w15 : AV) (u2_w16 : AV) (u2_w17 : AV) (x : Bool) : Prop := opsK G Ω0 E0 [1, 2, 23] [2] q_scope_part_j2 ⟨[(45, (.b u2_1)), (44, u2_w1), (43, u2_w2), (42, u2_w3), (41, u2_w4), (40, u2_w5), (39, u2_w6), (38, u2_w7), (37, u2_w8), (36, u2_w9), (35, u2_w10), (34, u2_w11), (33, u2_w12), (32, u2_w13), (31, u2_w14), (30, u2_w15), (29, u2_w16), (28, u2_w17), (27, (.b (a0.Kind == 1))), (26, (.b (a0.Kind == 1))), (25, (I a0.Kind)), (24, (.p ⟨0, 2⟩ 0)), (1, (I a1)), (2, (.p ⟨0, 2⟩ 0)), (5, (I (w1_1 : Int))), (17, (.b ((a0.Args.length : Int) != (w1_1 : Int))))], [(2, (kExprT a0))], H0⟩ = some (X_scope_part_j2 a0 a1 w1_1 u2_1 x)
theorem LD_scope_part_j2 (a0 : ExprT) (a1 : Int) (w1_1 : Nat) (u2_1 : Bool) (u2_w1 : AV) (u2_w2 : AV) (u2_w3 : AV) (u2_w4 : AV) (u2_w5 : AV) (u2_w6 : AV) (u2_w7 : AV) (u2_w8 : AV) (u2_w9 : AV) (u2_w10 : AV) (u2_w11 : AV) (u2_w12 : AV) (u2_w13 : AV) (u2_w14 : AV) (u2_w15 : AV) (u2_w16 : AV) (u2_w17 : AV) (x : Bool) (h : D_scope_part_j2 a0 a1 w1_1 u2_1 = some x) : O_scope_part_j2 a0 a1 w1_1 u2_1 u2_w1 u2_w2 u2_w3 u2_w4 u2_w5 u2_w6 u2_w7 u2_w8 u2_w9 u2_w10 u2_w11 u2_w12 u2_w13 u2_w14 u2_w15 u2_w16 u2_w17 x :=
  have lf := fun {a} => leafO (P := O_scope_part_j2 a0 a1 w1_1 u2_1 u2_w1 u2_w2 u2_w3 u2_w4 u2_w5 u2_w6 u2_w7 u2_w8 u2_w9 u2_w10 u2_w11 u2_w12 u2_w13 u2_w14 u2_w15 u2_w16 u2_w17) (a := a) (r := x)
  lf h (opsKI [] (fun z => z) (by kernel_rfl))
noncomputable def q_scope_part_j1 : List GOp := ⟨some 24, .fa 0 (.t 2), none, false⟩ :: ⟨some 25, .ld none (.t 24), none, false⟩ :: ⟨some 26, .bo .eql false (.t 25) (.c (I 1)), none, false⟩ :: ⟨some 27, .mv (.t 26), none, false⟩ :: ⟨some 28, .fa 1 (.t 2), some ⟨27, true⟩, false⟩ :: ⟨some 29, .ld none (.t 28), some ⟨27, true⟩, false⟩ :: ⟨some 30, .bo .lss false (.t 29) (.c (I (-9999999))), some ⟨27, true⟩, false⟩ :: ⟨some 31, .mv (.t 30), some ⟨27, true⟩, false⟩ :: ⟨some 32, .fa 1 (.t 2), some ⟨31, false⟩, false⟩ :: ⟨some 33, .ld none (.t 32), some ⟨31, false⟩, false⟩ :: ⟨some 34, .bo .gtr false (.t 33) (.c (I 9999999)), some ⟨31, false⟩, false⟩ :: ⟨some 35, .pk (.t 31) (.c (.b true)) (.t 34), some ⟨27, true⟩, false⟩ :: ⟨some 36, .pk (.t 27) (.t 35) (.c (.b false)), none, false⟩ :: ⟨some 37, .mv (.t 36), none, false⟩ :: ⟨some 38, .mv (.t 5), some ⟨37, false⟩, false⟩ :: ⟨some 39, .bo .gtr false (.t 38) (.c (I 0)), some ⟨37, false⟩, false⟩ :: ⟨some 40, .mv (.t 39), some ⟨37, false⟩, false⟩ :: ⟨some 41, .fa 1 (.t 2), some ⟨40, true⟩, false⟩ :: ⟨some 42, .ld none (.t 41), some ⟨40, true⟩, false⟩ :: ⟨some 43, .bo .neq false (.t 42) (.c (I 0)), some ⟨40, true⟩, false⟩ :: ⟨some 44, .pk (.t 40) (.t 43) (.c (.b false)), some ⟨37, false⟩, false⟩ :: ⟨some 45, .pk (.t 37) (.c (.b true)) (.t 44), none, false⟩ :: q_scope_part_j2
noncomputable def D_scope_part_j1 (a0 : ExprT) (a1 : Int) (w1_1 : Nat) : Option Bool :=
  if (a0.Kind == 1) = true then
    if a0.N < -9999999 then
      (D_scope_part_j2 a0 a1 w1_1 true).bind fun (x7 : Bool) =>
      some x7
    else
      if 9999999 < a0.N then
        (D_scope_part_j2 a0 a1 w1_1 true).bind fun (x8 : Bool) =>
        some x8
      else
        if 0 < (w1_1 : Int) then
          (D_scope_part_j2 a0 a1 w1_1 (a0.N != 0)).bind fun (x9 : Bool) =>
          some x9
        else
          (D_scope_part_j2 a0 a1 w1_1 false).bind fun (x9 : Bool) =>
          some x9
  else
    if 0 < (w1_1 : Int) then
      (D_scope_part_j2 a0 a1 w1_1 (a0.N != 0)).bind fun (x7 : Bool) =>
      some x7
    else
      (D_scope_part_j2 a0 a1 w1_1 false).bind fun (x7 : Bool) =>
      some x7
abbrev X_scope_part_j1 (a0 : ExprT) (a1 : Int) (w1_1 : Nat) (x : Bool) : St := ⟨[(1, (I a1)), (2, (.p ⟨0, 2⟩ 0)), (23, (.b x))], [(2, (kExprT a0))], H0⟩
abbrev O_scope_part_j1 (a0 : ExprT) (a1 : Int) (w1_1 : Nat) (x : Bool) : Prop := opsK G Ω0 E0 [1, 2, 23] [2] q_scope_part_j1 ⟨[(1, (I a1)), (2, (.p ⟨0, 2⟩ 0)), (5, (I (w1_1 : Int))), (17, (.b ((a0.Args.length : Int) != (w1_1 : Int))))], [(2, (kExprT a0))], H0⟩ = some (X_scope_part_j1 a0 a1 w1_1 x)
theorem LD_scope_part_j1 (a0 : ExprT) (a1 : Int) (w1_1 : Nat) (x : Bool) (h : D_scope_part_j1 a0 a1 w1_1 = some x) : O_scope_part_j1 a0 a1 w1_1 x :=
  have lf := fun {a} => leafO (P := O_scope_part_j1 a0 a1 w1_1) (a := a) (r := x)
  iteB h (fun h5 h => iteP h (fun h6 h => bindP h fun x7 jn8 h => have jn8 := LD_scope_part_j2 a0 a1 w1_1 true .sk .sk .sk .sk .sk .sk .sk (.b true) (.b true) (.b true) .sk .sk .sk (.b (decide (a0.N < -9999999))) (.b (decide (a0.N < -9999999))) (I a0.N) (.p ⟨0, 2⟩ 1) _ jn8; lf h (opsKI [.b true, .b true, .b true, .b true, .b true, .b true, .b false, .b false, .b false, .b true, .b true, .b true, .b false, .b false, .b false, .b false, .b true, .jn (some 23) 0 ⟨[(1, (I a1)), (2, (.p ⟨0, 2⟩ 0)), (23, (.b x7))], [(2, (kExprT a0))], H0⟩] (fun z => ai (rfl : Z0) <| ai (g1 h5) <| ai (g1 h5) <| ai (rfl : Z0) <| ai (g1 h5) <| ai (g1 h5) <| ai (g0 (decide_eq_true h6)) <| ai (g0 (decide_eq_true h6)) <| ai (g0 (decide_eq_true h6)) <| ai (g1 h5) <| ai (decide_eq_true h6) <| ai h5 <| ai ((congrArg (fun z => z == false) rfl) : (true == false) = false) <| ai ((congrArg (fun z => z == false) rfl) : (true == false) = false) <| ai ((congrArg (fun z => z == false) rfl) : (true == false) = false) <| ai ((congrArg (fun z => z == false) rfl) : (true == false) = false) <| ai tt <| ai jn8 <| z) (by kernel_rfl))) (fun h6 h => iteP h (fun h7 h => bindP h fun x8 jn9 h => have jn9 := LD_scope_part_j2 a0 a1 w1_1 true .sk .sk .sk .sk .sk .sk .sk (.b (decide (9999999 < a0.N))) (.b (decide (9999999 < a0.N))) (.b (decide (9999999 < a0.N))) (.b (decide (9999999 < a0.N))) (I a0.N) (.p ⟨0, 2⟩ 1) (.b (decide (a0.N < -9999999))) (.b (decide (a0.N < -9999999))) (I a0.N) (.p ⟨0, 2⟩ 1) _ jn9; lf h (opsKI [.b true, .b true, .b true, .b true, .b true, .b true, .b true, .b true, .b true, .b true, .b true, .b false, .b true, .b false, .b false, .b false, .b false, .b true, .jn (some 23) 0 ⟨[(1, (I a1)), (2, (.p ⟨0, 2⟩ 0)), (23, (.b x8))], [(2, (kExprT a0))], H0⟩] (fun z => ai (rfl : Z0) <| ai (g1 h5) <| ai (g1 h5) <| ai (rfl : Z0) <| ai (g1 h5) <| ai (g1 h5) <| ai (g0 (decide_eq_false h6)) <| ai (g0 (decide_eq_false h6)) <| ai (rfl : Z0) <| ai (g0 (decide_eq_false h6)) <| ai (g1 h5) <| ai (decide_eq_false h6) <| ai h5 <| ai (g0 (decide_eq_true h7)) <| ai (g0 (decide_eq_true h7)) <| ai (g0 (decide_eq_true h7)) <| ai (g0 (decide_eq_true h7)) <| ai (decide_eq_true h7) <| ai jn9 <| z) (by kernel_rfl))) (fun h7 h => iteP h (fun h8 h => bindP h fun x9 jn10 h => have jn10 := LD_scope_part_j2 a0 a1 w1_1 (a0.N != 0) (.b (a0.N != 0)) (.b (a0.N != 0)) (I a0.N) (.p ⟨0, 2⟩ 1) (.b (decide (0 < (w1_1 : Int)))) (.b (decide (0 < (w1_1 : Int)))) (I (w1_1 : Int)) (.b (decide (9999999 < a0.N))) (.b (decide (9999999 < a0.N))) (.b (decide (9999999 < a0.N))) (.b (decide (9999999 < a0.N))) (I a0.N) (.p ⟨0, 2⟩ 1) (.b (decide (a0.N < -9999999))) (.b (decide (a0.N < -9999999))) (I a0.N) (.p ⟨0, 2⟩ 1) _ jn10; lf h (opsKI [.b true, .b true, .b true, .b true, .b true, .b true, .b true, .b true, .b true, .b true, .b true, .b false, .b true, .b true, .b true, .b true, .b true, .b true, .b true, .b true, .b true, .b true, .b false, .jn (some 23) 0 ⟨[(1, (I a1)), (2, (.p ⟨0, 2⟩ 0)), (23, (.b x9))], [(2, (kExprT a0))], H0⟩] (fun z => ai (rfl : Z0) <| ai (g1 h5) <| ai (g1 h5) <| ai (rfl : Z0) <| ai (g1 h5) <| ai (g1 h5) <| ai (g0 (decide_eq_false h6)) <| ai (g0 (decide_eq_false h6)) <| ai (rfl : Z0) <| ai (g0 (decide_eq_false h6)) <| ai (g1 h5) <| ai (decide_eq_false h6) <| ai h5 <| ai (g0 (decide_eq_false h7)) <| ai (g0 (decide_eq_false h7)) <| ai (g0 (decide_eq_false h7)) <| ai (g1 (decide_eq_true h8)) <| ai (g1 (decide_eq_true h8)) <| ai (rfl : Z0) <| ai (g1 (decide_eq_true h8)) <| ai (g0 (decide_eq_false h7)) <| ai (decide_eq_true h8) <| ai (decide_eq_false h7) <| ai jn10 <| z) (by kernel_rfl))) (fun h8 h => bindP h fun x9 jn10 h => have jn10 := LD_scope_part_j2 a0 a1 w1_1 false (.b false) .sk .sk .sk (.b (decide (0 < (w1_1 : Int)))) (.b (decide (0 < (w1_1 : Int)))) (I (w1_1 : Int)) (.b (decide (9999999 < a0.N))) (.b (decide (9999999 < a0.N))) (.b (decide (9999999 < a0.N))) (.b (decide (9999999 < a0.N))) (I a0.N) (.p ⟨0, 2⟩ 1) (.b (decide (a0.N < -9999999))) (.b (decide (a0.N < -9999999))) (I a0.N) (.p ⟨0, 2⟩ 1) _ jn10; lf h (opsKI [.b true, .b true, .b true, .b true, .b true, .b true, .b true, .b true, .b true, .b true, .b true, .b false, .b true, .b true, .b true, .b true, .b false, .b false, .b false, .b true, .b false, .b false, .jn (some 23) 0 ⟨[(1, (I a1)), (2, (.p ⟨0, 2⟩ 0)), (23, (.b x9))], [(2, (kExprT a0))], H0⟩] (fun z => ai (rfl : Z0) <| ai (g1 h5) <| ai (g1 h5) <| ai (rfl : Z0) <| ai (g1 h5) <| ai (g1 h5) <| ai (g0 (decide_eq_false h6)) <| ai (g0 (decide_eq_false h6)) <| ai (rfl : Z0) <| ai (g0 (decide_eq_false h6)) <| ai (g1 h5) <| ai (decide_eq_false h6) <| ai h5 <| ai (g0 (decide_eq_false h7)) <| ai (g0 (decide_eq_false h7)) <| ai (g0 (decide_eq_false h7)) <| ai (g1 (decide_eq_false h8)) <| ai (g1 (decide_eq_false h8)) <| ai (g1 (decide_eq_false h8)) <| ai (g0 (decide_eq_false h7)) <| ai (decide_eq_false h8) <| ai (decide_eq_false h7) <| ai jn10 <| z) (by kernel_rfl)))))) (fun h5 h => iteP h (fun h6 h => bindP h fun x7 jn8 h => have jn8 := LD_scope_part_j2 a0 a1 w1_1 (a0.N != 0) (.b (a0.N != 0)) (.b (a0.N != 0)) (I a0.N) (.p ⟨0, 2⟩ 1) (.b (decide (0 < (w1_1 : Int)))) (.b (decide (0 < (w1_1 : Int)))) (I (w1_1 : Int)) (.b false) (.b false) .sk .sk .sk .sk .sk .sk .sk .sk _ jn8; lf h (opsKI [.b true, .b false, .b false, .b false, .b false, .b false, .b false, .b true, .b true, .b true, .b true, .b true, .b true, .b true, .b true, .b true, .b false, .jn (some 23) 0 ⟨[(1, (I a1)), (2, (.p ⟨0, 2⟩ 0)), (23, (.b x7))], [(2, (kExprT a0))], H0⟩] (fun z => ai (rfl : Z0) <| ai (g1 h5) <| ai (g1 h5) <| ai (g1 h5) <| ai (g1 h5) <| ai (g1 h5) <| ai h5 <| ai ((congrArg (fun z => z == false) rfl) : (false == false) = true) <| ai ((congrArg (fun z => z == false) rfl) : (false == false) = true) <| ai ((congrArg (fun z => z == false) rfl) : (false == false) = true) <| ai (g1 (decide_eq_true h6)) <| ai (g1 (decide_eq_true h6)) <| ai (rfl : Z0) <| ai (g1 (decide_eq_true h6)) <| ai ((congrArg (fun z => z == false) rfl) : (false == false) = true) <| ai (decide_eq_true h6) <| ai ff <| ai jn8 <| z) (by kernel_rfl))) (fun h6 h => bindP h fun x7 jn8 h => have jn8 := LD_scope_part_j2 a0 a1 w1_1 false (.b false) .sk .sk .sk (.b (decide (0 < (w1_1 : Int)))) (.b (decide (0 < (w1_1 : Int)))) (I (w1_1 : Int)) (.b false) (.b false) .sk .sk .sk .sk .sk .sk .sk .sk _ jn8; lf h (opsKI [.b true, .b false, .b false, .b false, .b false, .b false, .b false, .b true, .b true, .b true, .b false, .b false, .b false, .b true, .b false, .b false, .jn (some 23) 0 ⟨[(1, (I a1)), (2, (.p ⟨0, 2⟩ 0)), (23, (.b x7))], [(2, (kExprT a0))], H0⟩] (fun z => ai (rfl : Z0) <| ai (g1 h5) <| ai (g1 h5) <| ai (g1 h5) <| ai (g1 h5) <| ai (g1 h5) <| ai h5 <| ai ((congrArg (fun z => z == false) rfl) : (false == false) = true) <| ai ((congrArg (fun z => z == false) rfl) : (false == false) = true) <| ai ((congrArg (fun z => z == false) rfl) : (false == false) = true) <| ai (g1 (decide_eq_false h6)) <| ai (g1 (decide_eq_false h6)) <| ai (g1 (decide_eq_false h6)) <| ai ((congrArg (fun z => z == false) rfl) : (false == false) = true) <| ai (decide_eq_false h6) <| ai ff <| ai jn8 <| z) (by kernel_rfl))))
noncomputable def D_scope_part_d1 (a0 : ExprT) (a1 : Int) (w1_1 : Nat) : Option (Unit ⊕ (Unit ⊕ (Unit ⊕ Unit))) :=
  if ((a0.Args.length : Int) != (w1_1 : Int)) = true then
    some (.inl ())
  else
    (D_scope_part_j1 a0 a1 w1_1).bind fun (x5 : Bool) =>
    if x5 = true then
      some (.inr (.inl ()))
    else
      if (a0.Kind == 2) = true then
        if a0.N < 0 then
          some (.inr (.inr (.inl ())))
        else
          if a1 ≤ a0.N then
            some (.inr (.inr (.inl ())))
          else
            some (.inr (.inr (.inr ())))
      else
        some (.inr (.inr (.inr ())))
abbrev X_scope_part_d1 (a0 : ExprT) (a1 : Int) (w1_1 : Nat) (x : (Unit ⊕ (Unit ⊕ (Unit ⊕ Unit)))) : AExit × St := match x with | .inl () => (.ret, ⟨[(4, (I 1))], [], H0⟩) | .inr (.inl ()) => (.ret, ⟨[(4, (I 3))], [], H0⟩) | .inr (.inr (.inl ())) => (.ret, ⟨[(4, (I 5))], [], H0⟩) | .inr (.inr (.inr ())) => (.ret, ⟨[(4, (I 0))], [], H0⟩)
abbrev O_scope_part_d1 (a0 : ExprT) (a1 : Int) (w1_1 : Nat) (x : (Unit ⊕ (Unit ⊕ (Unit ⊕ Unit)))) : Prop := run G Ω0 E0 e41_1 ⟨[(1, (I a1)), (2, (.p ⟨0, 2⟩ 0)), (5, (I (w1_1 : Int)))], [(2, (kExprT a0))], H0⟩ = some (X_scope_part_d1 a0 a1 w1_1 x)
theorem LD_scope_part_d1 (a0 : ExprT) (a1 : Int) (w1_1 : Nat) (x : (Unit ⊕ (Unit ⊕ (Unit ⊕ Unit)))) (h : D_scope_part_d1 a0 a1 w1_1 = some x) : O_scope_part_d1 a0 a1 w1_1 x :=
  have lf := fun {a} => leafO (P := O_scope_part_d1 a0 a1 w1_1) (a := a) (r := x)
  iteB h (fun h4 h => lf h (runI [.b true, .i (a0.Args.length : Int), .b true] (fun z => ai (rfl : Z0) <| ai (map_len eExprT a0.Args) <| ai h4 <| z) (by kernel_rfl))) (fun h4 h => bindP h fun x5 jn6 h => have jn6 := LD_scope_part_j1 a0 a1 w1_1 _ jn6; iteB h (fun h7 h => lf h (runI [.b true, .i (a0.Args.length : Int), .b false, .jn (some 24) 22 ⟨[(1, (I a1)), (2, (.p ⟨0, 2⟩ 0)), (23, (.b x5))], [(2, (kExprT a0))], H0⟩, .b true] (fun z => ai (rfl : Z0) <| ai (map_len eExprT a0.Args) <| ai h4 <| ai jn6 <| ai h7 <| z) (by kernel_rfl))) (fun h7 h => iteB h (fun h8 h => iteP h (fun h9 h => lf h (runI [.b true, .i (a0.Args.length : Int), .b false, .jn (some 24) 22 ⟨[(1, (I a1)), (2, (.p ⟨0, 2⟩ 0)), (23, (.b x5))], [(2, (kExprT a0))], H0⟩, .b false, .b true, .b true, .b true, .b true, .b true, .b true, .b false, .b false, .b false, .b false, .b true, .b true, .b true, .b true] (fun z => ai (rfl : Z0) <| ai (map_len eExprT a0.Args) <| ai h4 <| ai jn6 <| ai h7 <| ai (rfl : Z0) <| ai (g1 h8) <| ai (g1 h8) <| ai (rfl : Z0) <| ai (g1 h8) <| ai (g1 h8) <| ai (g0 (decide_eq_true h9)) <| ai (g0 (decide_eq_true h9)) <| ai (g0 (decide_eq_true h9)) <| ai (g0 (decide_eq_true h9)) <| ai (g1 h8) <| ai (decide_eq_true h9) <| ai h8 <| ai tt <| z) (by kernel_rfl))) (fun h9 h => iteP h (fun h10 h => lf h (runI [.b true, .i (a0.Args.length : Int), .b false, .jn (some 24) 22 ⟨[(1, (I a1)), (2, (.p ⟨0, 2⟩ 0)), (23, (.b x5))], [(2, (kExprT a0))], H0⟩, .b false, .b true, .b true, .b true, .b true, .b true, .b true, .b true, .b true, .b true, .b true, .b true, .b true, .b false, .b true, .b true] (fun z => ai (rfl : Z0) <| ai (map_len eExprT a0.Args) <| ai h4 <| ai jn6 <| ai h7 <| ai (rfl : Z0) <| ai (g1 h8) <| ai (g1 h8) <| ai (rfl : Z0) <| ai (g1 h8) <| ai (g1 h8) <| ai (g0 (decide_eq_false h9)) <| ai (g0 (decide_eq_false h9)) <| ai (rfl : Z0) <| ai (g0 (decide_eq_false h9)) <| ai (g0 (decide_eq_false h9)) <| ai (g1 h8) <| ai (decide_eq_false h9) <| ai h8 <| ai (decide_eq_true h10) <| z) (by kernel_rfl))) (fun h10 h => lf h (runI [.b true, .i (a0.Args.length : Int), .b false, .jn (some 24) 22 ⟨[(1, (I a1)), (2, (.p ⟨0, 2⟩ 0)), (23, (.b x5))], [(2, (kExprT a0))], H0⟩, .b false, .b true, .b true, .b true, .b true, .b true, .b true, .b true, .b true, .b true, .b true, .b true, .b true, .b false, .b true, .b false] (fun z => ai (rfl : Z0) <| ai (map_len eExprT a0.Args) <| ai h4 <| ai jn6 <| ai h7 <| ai (rfl : Z0) <| ai (g1 h8) <| ai (g1 h8) <| ai (rfl : Z0) <| ai (g1 h8) <| ai (g1 h8) <| ai (g0 (decide_eq_false h9)) <| ai (g0 (decide_eq_false h9)) <| ai (rfl : Z0) <| ai (g0 (decide_eq_false h9)) <| ai (g0 (decide_eq_false h9)) <| ai (g1 h8) <| ai (decide_eq_false h9) <| ai h8 <| ai (decide_eq_false h10) <| z) (by kernel_rfl))))) (fun h8 h => lf h (runI [.b true, .i (a0.Args.length : Int), .b false, .jn (some 24) 22 ⟨[(1, (I a1)), (2, (.p ⟨0, 2⟩ 0)), (23, (.b x5))], [(2, (kExprT a0))], H0⟩, .b false, .b true, .b false, .b false, .b false, .b false, .b false, .b false, .b false] (fun z => ai (rfl : Z0) <| ai (map_len eExprT a0.Args) <| ai h4 <| ai jn6 <| ai h7 <| ai (rfl : Z0) <| ai (g1 h8) <| ai (g1 h8) <| ai (g1 h8) <| ai (g1 h8) <| ai (g1 h8) <| ai h8 <| ai ff <| z) (by kernel_rfl)))))
abbrev O_scope_part (a0 : ExprT) (a1 : Int) (r : Int) : Prop := call G Ω0 E0 41 [(.a (kExprT a0)), (I a1)] H0 = some (.ret (I r), H0)
noncomputable def F_scope_part (a0 : ExprT) (a1 : Int) : Option Int :=
  if a0.Kind < 1 then
    some 7
  else
    if 7 < a0.Kind then
      some 7
    else
      if 2 < a0.Kind then
        (D_scope_part_d1 a0 a1 2).bind fun (x4 : (Unit ⊕ (Unit ⊕ (Unit ⊕ Unit)))) => match x4 with
        | .inl () =>
          some 1
        | .inr (.inl ()) =>
          some 3
        | .inr (.inr (.inl ())) =>
          some 5
        | .inr (.inr (.inr ())) =>
          some 0
      else
        (D_scope_part_d1 a0 a1 0).bind fun (x4 : (Unit ⊕ (Unit ⊕ (Unit ⊕ Unit)))) => match x4 with
        | .inl () =>
          some 1
        | .inr (.inl ()) =>
          some 3
        | .inr (.inr (.inl ())) =>
          some 5
        | .inr (.inr (.inr ())) =>
          some 0
theorem lift_scope_part (a0 : ExprT) (a1 : Int) (r : Int) (h : F_scope_part a0 a1 = some r) : O_scope_part a0 a1 r :=
  have lf := fun {a} => leafO (P := O_scope_part a0 a1) (a := a) (r := r)
  iteP h (fun h1 h => lf h (callI G41 [.b true, .b false, .b false, .b false, .b true, .b true] (fun z => ai tt <| ai (rfl : Z0) <| ai (g0 (decide_eq_true h1)) <| ai (g0 (decide_eq_true h1)) <| ai (g0 (decide_eq_true h1)) <| ai (decide_eq_true h1) <| ai tt <| z) (by kernel_rfl))) (fun h1 h => iteP h (fun h2 h => lf h (callI G41 [.b true, .b true, .b true, .b true, .b true, .b false, .b true] (fun z => ai tt <| ai (rfl : Z0) <| ai (g0 (decide_eq_false h1)) <| ai (g0 (decide_eq_false h1)) <| ai (rfl : Z0) <| ai (g0 (decide_eq_false h1)) <| ai (decide_eq_false h1) <| ai (decide_eq_true h2) <| z) (by kernel_rfl))) (fun h2 h => iteP h (fun h3 h => (bindP h fun x4 hx h => match x4, hx, h with | .inl (), fr5, h => have fr5 := LD_scope_part_d1 a0 a1 2 _ fr5; lf h (callI G41 [.b true, .b true, .b true, .b true, .b true, .b false, .b false, .b true, .b true, .fr .ret ⟨[(4, (I 1))], [], H0⟩] (fun z => ai tt <| ai (rfl : Z0) <| ai (g0 (decide_eq_false h1)) <| ai (g0 (decide_eq_false h1)) <| ai (rfl : Z0) <| ai (g0 (decide_eq_false h1)) <| ai (decide_eq_false h1) <| ai (decide_eq_false h2) <| ai (rfl : Z0) <| ai (decide_eq_true h3) <| ai fr5 <| z) (by kernel_rfl)) | .inr (.inl ()), fr5, h => have fr5 := LD_scope_part_d1 a0 a1 2 _ fr5; lf h (callI G41 [.b true, .b true, .b true, .b true, .b true, .b false, .b false, .b true, .b true, .fr .ret ⟨[(4, (I 3))], [], H0⟩] (fun z => ai tt <| ai (rfl : Z0) <| ai (g0 (decide_eq_false h1)) <| ai (g0 (decide_eq_false h1)) <| ai (rfl : Z0) <| ai (g0 (decide_eq_false h1)) <| ai (decide_eq_false h1) <| ai (decide_eq_false h2) <| ai (rfl : Z0) <| ai (decide_eq_true h3) <| ai fr5 <| z) (by kernel_rfl)) | .inr (.inr (.inl ())), fr5, h => have fr5 := LD_scope_part_d1 a0 a1 2 _ fr5; lf h (callI G41 [.b true, .b true, .b true, .b true, .b true, .b false, .b false, .b true, .b true, .fr .ret ⟨[(4, (I 5))], [], H0⟩] (fun z => ai tt <| ai (rfl : Z0) <| ai (g0 (decide_eq_false h1)) <| ai (g0 (decide_eq_false h1)) <| ai (rfl : Z0) <| ai (g0 (decide_eq_false h1)) <| ai (decide_eq_false h1) <| ai (decide_eq_false h2) <| ai (rfl : Z0) <| ai (decide_eq_true h3) <| ai fr5 <| z) (by kernel_rfl)) | .inr (.inr (.inr ())), fr5, h => have fr5 := LD_scope_part_d1 a0 a1 2 _ fr5; lf h (callI G41 [.b true, .b true, .b true, .b true, .b true, .b false, .b false, .b true, .b true, .fr .ret ⟨[(4, (I 0))], [], H0⟩] (fun z => ai tt <| ai (rfl : Z0) <| ai (g0 (decide_eq_false h1)) <| ai (g0 (decide_eq_false h1)) <| ai (rfl : Z0) <| ai (g0 (decide_eq_false h1)) <| ai (decide_eq_false h1) <| ai (decide_eq_false h2) <| ai (rfl : Z0) <| ai (decide_eq_true h3) <| ai fr5 <| z) (by kernel_rfl)))) (fun h3 h => (bindP h fun x4 hx h => match x4, hx, h with | .inl (), fr5, h => have fr5 := LD_scope_part_d1 a0 a1 0 _ fr5; lf h (callI G41 [.b true, .b true, .b true, .b true, .b true, .b false, .b false, .b true, .b false, .fr .ret ⟨[(4, (I 1))], [], H0⟩] (fun z => ai tt <| ai (rfl : Z0) <| ai (g0 (decide_eq_false h1)) <| ai (g0 (decide_eq_false h1)) <| ai (rfl : Z0) <| ai (g0 (decide_eq_false h1)) <| ai (decide_eq_false h1) <| ai (decide_eq_false h2) <| ai (rfl : Z0) <| ai (decide_eq_false h3) <| ai fr5 <| z) (by kernel_rfl)) | .inr (.inl ()), fr5, h => have fr5 := LD_scope_part_d1 a0 a1 0 _ fr5; lf h (callI G41 [.b true, .b true, .b true, .b true, .b true, .b false, .b false, .b true, .b false, .fr .ret ⟨[(4, (I 3))], [], H0⟩] (fun z => ai tt <| ai (rfl : Z0) <| ai (g0 (decide_eq_false h1)) <| ai (g0 (decide_eq_false h1)) <| ai (rfl : Z0) <| ai (g0 (decide_eq_false h1)) <| ai (decide_eq_false h1) <| ai (decide_eq_false h2) <| ai (rfl : Z0) <| ai (decide_eq_false h3) <| ai fr5 <| z) (by kernel_rfl)) | .inr (.inr (.inl ())), fr5, h => have fr5 := LD_scope_part_d1 a0 a1 0 _ fr5; lf h (callI G41 [.b true, .b true, .b true, .b true, .b true, .b false, .b false, .b true, .b false, .fr .ret ⟨[(4, (I 5))], [], H0⟩] (fun z => ai tt <| ai (rfl : Z0) <| ai (g0 (decide_eq_false h1)) <| ai (g0 (decide_eq_false h1)) <| ai (rfl : Z0) <| ai (g0 (decide_eq_false h1)) <| ai (decide_eq_false h1) <| ai (decide_eq_false h2) <| ai (rfl : Z0) <| ai (decide_eq_false h3) <| ai fr5 <| z) (by kernel_rfl)) | .inr (.inr (.inr ())), fr5, h => have fr5 := LD_scope_part_d1 a0 a1 0 _ fr5; lf h (callI G41 [.b true, .b true, .b true, .b true, .b true, .b false, .b false, .b true, .b false, .fr .ret ⟨[(4, (I 0))], [], H0⟩] (fun z => ai tt <| ai (rfl : Z0) <| ai (g0 (decide_eq_false h1)) <| ai (g0 (decide_eq_false h1)) <| ai (rfl : Z0) <| ai (g0 (decide_eq_false h1)) <| ai (decide_eq_false h1) <| ai (decide_eq_false h2) <| ai (rfl : Z0) <| ai (decide_eq_false h3) <| ai fr5 <| z) (by kernel_rfl))))))
abbrev O_scope_parts (a0 : ExprT) (a1 : Int) (r : Int) : Prop := call G Ω0 E0 28 [(.a (kExprT a0)), (I a1)] H0 = some (.ret (I r), H0)
structure R_scope_parts where
  f_scope_parts : ExprT → Int → Option Int

structure OK_scope_parts (R : R_scope_parts) : Prop where
  f_scope_parts : ∀ (a0 : ExprT) (a1 : Int) (r : Int), R.f_scope_parts a0 a1 = some r → O_scope_parts a0 a1 r

noncomputable def B_scope_parts_0 (R : R_scope_parts) (a0 : ExprT) (a1 : Int) (v0_18 : Nat) : Option (Nat ⊕ (Int ⊕ (Nat × Bool))) :=
  if (v0_18 : Int) < (a0.Args.length : Int) then
    (a0.Args[v0_18]?).bind fun (y5 : ExprT) =>
    (R.f_scope_parts y5 a1).bind fun (r7 : Int) =>
    if (r7 != 0) = true then
      some (.inr (.inl r7))
    else
      if IntKind.i64.wrap ((v0_18 : Int) + 1) = ((v0_18 + 1 : Nat) : Int) then
        some (.inl (v0_18 + 1))
      else none
  else
    some (.inr (.inr (v0_18, decide ((v0_18 : Int) < (a0.Args.length : Int)))))
abbrev S_scope_parts_0 (a0 : ExprT) (a1 : Int) (v : Nat) : St := ⟨[(1, (I a1)), (16, (.l 24 (a0.Args.map eExprT))), (17, (I (a0.Args.length : Int))), (18, (I (v : Int)))], [], H0⟩
abbrev X_scope_parts_0 (a0 : ExprT) (a1 : Int) (x : (Int ⊕ (Nat × Bool))) : AExit × St := match x with | .inl z1 => (.ret, ⟨[(4, (I z1))], [], H0⟩) | .inr (z1, z2) => ((.ex 0), ⟨[(1, (I a1)), (16, (.l 24 (a0.Args.map eExprT))), (17, (I (a0.Args.length : Int))), (18, (I (z1 : Int))), (19, (.b z2))], [], H0⟩)
theorem LB_scope_parts_0 (R : R_scope_parts) (hR : OK_scope_parts R) (a0 : ExprT) (a1 : Int) (v0_18 : Nat) (o : Nat ⊕ (Int ⊕ (Nat × Bool))) (h : B_scope_parts_0 R a0 a1 v0_18 = some o) : bodyOK E0 c28_0 (S_scope_parts_0 a0 a1) (X_scope_parts_0 a0 a1) v0_18 o :=
  have lf := fun {a} => leafO (P := bodyOK E0 c28_0 (S_scope_parts_0 a0 a1) (X_scope_parts_0 a0 a1) v0_18) (a := a) (r := o)
  iteP h (fun h4 h => bindP h fun y5 h6 h => bindP h fun r7 ek8 h => have ek8 := hR.f_scope_parts y5 a1 _ ek8; iteB h (fun h9 h => lf h ⟨(runI [.b true, .n v0_18, .v (.a (kExprT y5)), .b true, .b true, .b true, .v (I r7), .b true] (fun z => ai (decide_eq_true h4) <| ai (rfl : (v0_18 : Int) = (v0_18 : Int)) <| ai (map_getE eExprT h6 (eExprT_eq _)) <| ai tt <| ai ff <| ai (rfl : Z0) <| ai tt <| ai (rfl : Z0) <| ai (rfl : Z0) <| ai ek8 <| ai h9 <| z) (by kernel_rfl)), ne_ret⟩) (fun h9 h => asrtP h fun w10 h => lf h (roundI [.b true, .n v0_18, .v (.a (kExprT y5)), .b true, .b true, .b true, .v (I r7), .b false, .i ((v0_18 + 1 : Nat) : Int)] (fun z => ai (decide_eq_true h4) <| ai (rfl : (v0_18 : Int) = (v0_18 : Int)) <| ai (map_getE eExprT h6 (eExprT_eq _)) <| ai tt <| ai ff <| ai (rfl : Z0) <| ai tt <| ai (rfl : Z0) <| ai (rfl : Z0) <| ai ek8 <| ai h9 <| ai w10 <| z) (by kernel_rfl)))) (fun h4 h => lf h ⟨(runI [.b false] (fun z => ai (decide_eq_false h4) <| z) (by kernel_rfl)), ne_ex _⟩)
theorem LL_scope_parts_0 (R : R_scope_parts) (hR : OK_scope_parts R) (a0 : ExprT) (a1 : Int) (v : Nat) (x : (Int ⊕ (Nat × Bool))) (h : lp (fun v => B_scope_parts_0 R a0 a1 v) v = some x) : lpAt G Ω0 E0 c28_0 (S_scope_parts_0 a0 a1 v) = some (X_scope_parts_0 a0 a1 x) :=
  lp_lift c28_0 (S_scope_parts_0 a0 a1) (X_scope_parts_0 a0 a1) (fun _ => rfl) (fun v o h => LB_scope_parts_0 R hR a0 a1 v o h) h
noncomputable def FB_scope_parts (R : R_scope_parts) (a0 : ExprT) (a1 : Int) : Option Int :=
  (F_scope_part a0 a1).bind fun (r1 : Int) =>
  if (r1 != 0) = true then
    some r1
  else
    (lp (fun v => B_scope_parts_0 R a0 a1 v) 0).bind fun (x4 : (Int ⊕ (Nat × Bool))) => match x4 with
    | .inl y_5 =>
      some y_5
    | .inr (y_5, y_6) =>
      some 0
theorem liftB_scope_parts (R : R_scope_parts) (hR : OK_scope_parts R) (a0 : ExprT) (a1 : Int) (r : Int) (h : FB_scope_parts R a0 a1 = some r) : O_scope_parts a0 a1 r :=
  have lf := fun {a} => leafO (P := O_scope_parts a0 a1) (a := a) (r := r)
  bindP h fun r1 ek2 h => have ek2 := lift_scope_part a0 a1 _ ek2; iteB h (fun h3 h => lf h (callI G28 [.b true, .v (I r1), .b true] (fun z => ai tt <| ai (rfl : Z0) <| ai ek2 <| ai h3 <| z) (by kernel_rfl))) (fun h3 h => (bindP h fun x4 hx h => match x4, hx, h with | .inl y_5, lp6, h => have lp6 := LL_scope_parts_0 R hR a0 a1 0 _ lp6; lf h (callI G28 [.b true, .v (I r1), .b false, .b true, .i (a0.Args.length : Int), .lp .ret ⟨[(4, (I y_5))], [], H0⟩] (fun z => ai tt <| ai (rfl : Z0) <| ai ek2 <| ai h3 <| ai (rfl : Z0) <| ai (map_len eExprT a0.Args) <| ai lp6 <| z) (by kernel_rfl)) | .inr (y_5, y_6), lp7, h => have lp7 := LL_scope_parts_0 R hR a0 a1 0 _ lp7; lf h (callI G28 [.b true, .v (I r1), .b false, .b true, .i (a0.Args.length : Int), .lp (.ex 0) ⟨[(1, (I a1)), (16, (.l 24 (a0.Args.map eExprT))), (17, (I (a0.Args.length : Int))), (18, (I (y_5 : Int))), (19, (.b y_6))], [], H0⟩] (fun z => ai tt <| ai (rfl : Z0) <| ai ek2 <| ai h3 <| ai (rfl : Z0) <| ai (map_len eExprT a0.Args) <| ai lp7 <| z) (by kernel_rfl))))
noncomputable def N_scope_parts : Nat → R_scope_parts
  | 0 => ⟨fun z0 z1 => none⟩
  | n + 1 => ⟨FB_scope_parts (N_scope_parts n)⟩
theorem ok_scope_parts : ∀ n, OK_scope_parts (N_scope_parts n)
  | 0 => ⟨fun _ _ r h => (by cases h)⟩
  | n + 1 => ⟨fun a0 a1 r h => liftB_scope_parts _ (ok_scope_parts n) a0 a1 r h⟩
noncomputable def F_scope_parts (a0 : ExprT) (a1 : Int) : Option Int := ev fun n => (N_scope_parts n).f_scope_parts a0 a1
theorem lift_scope_parts (a0 : ExprT) (a1 : Int) (r : Int) (h : F_scope_parts a0 a1 = some r) : O_scope_parts a0 a1 r := by
  obtain ⟨n, hn⟩ := ev_some h
  exact (ok_scope_parts n).f_scope_parts a0 a1 r hn
abbrev O_scope_Expr (a0 : ExprT) (a1 : Int) (r : Int) : Prop := call G Ω0 E0 13 [(.a (kExprT a0)), (I a1)] H0 = some (.ret (I r), H0)
noncomputable def F_scope_Expr (a0 : ExprT) (a1 : Int) : Option Int :=
  (F_scope_size a0 15).bind fun (r1 : Int) =>
  if 15 < r1 then
    some 2
  else
    (F_scope_parts a0 a1).bind fun (r4 : Int) =>
    some r4
theorem lift_scope_Expr (a0 : ExprT) (a1 : Int) (r : Int) (h : F_scope_Expr a0 a1 = some r) : O_scope_Expr a0 a1 r :=
  have lf := fun {a} => leafO (P := O_scope_Expr a0 a1) (a := a) (r := r)
  bindP h fun r1 ek2 h => have ek2 := lift_scope_size a0 15 _ ek2; iteP h (fun h3 h => lf h (callI G13 [.b true, .v (I r1), .b true] (fun z => ai tt <| ai (rfl : Z0) <| ai ek2 <| ai (decide_eq_true h3) <| z) (by kernel_rfl))) (fun h3 h => bindP h fun r4 ek5 h => have ek5 := lift_scope_parts a0 a1 _ ek5; lf h (callI G13 [.b true, .v (I r1), .b false, .b true, .v (I r4)] (fun z => ai tt <| ai (rfl : Z0) <| ai ek2 <| ai (decide_eq_false h3) <| ai (rfl : Z0) <| ai ek5 <| z) (by kernel_rfl)))
abbrev O_run_number (a0 : Int) (r : Bool) : Prop := call G Ω0 E0 16 [(I a0)] H0 = some (.ret (.b r), H0)
noncomputable def F_run_number (a0 : Int) : Option Bool :=
  if -2147483648 ≤ a0 then
    some (decide (a0 ≤ 2147483647))
  else
    some false
theorem lift_run_number (a0 : Int) (r : Bool) (h : F_run_number a0 = some r) : O_run_number a0 r :=
  have lf := fun {a} => leafO (P := O_run_number a0) (a := a) (r := r)
  iteP h (fun h1 h => lf h (callI G16 [.b true, .b true, .b true] (fun z => ai (g1 (decide_eq_true h1)) <| ai (g1 (decide_eq_true h1)) <| ai (decide_eq_true h1) <| z) (by kernel_rfl))) (fun h1 h => lf h (callI G16 [.b false, .b false, .b false] (fun z => ai (g1 (decide_eq_false h1)) <| ai (g1 (decide_eq_false h1)) <| ai (decide_eq_false h1) <| z) (by kernel_rfl)))
abbrev O_run_Eval_1 (a0 : Int) (r : Bool) : Prop := call G Ω0 E0 15 [(I a0)] H0 = some (.ret (.b r), H0)
noncomputable def F_run_Eval_1 (a0 : Int) : Option Bool :=
  (F_run_number a0).bind fun (r1 : Bool) =>
  some (!r1)
theorem lift_run_Eval_1 (a0 : Int) (r : Bool) (h : F_run_Eval_1 a0 = some r) : O_run_Eval_1 a0 r :=
  have lf := fun {a} => leafO (P := O_run_Eval_1 a0) (a := a) (r := r)
  bindP h fun r1 ek2 h => have ek2 := lift_run_number a0 _ ek2; lf h (callI G15 [.v (.b r1)] (fun z => ai ek2 <| z) (by kernel_rfl))
noncomputable def B_slices_IndexFunc__run_Eval_1_0 (a0 : (List Int)) (v0_8 : Nat) : Option (Nat ⊕ (Nat ⊕ (Nat × Bool))) :=
  if (v0_8 : Int) < (a0.length : Int) then
    (a0[v0_8]?).bind fun (y2 : Int) =>
    (F_run_Eval_1 y2).bind fun (r4 : Bool) =>
    if r4 = true then
      some (.inr (.inl v0_8))
    else
      if IntKind.i64.wrap ((v0_8 : Int) + 1) = ((v0_8 + 1 : Nat) : Int) then
        some (.inl (v0_8 + 1))
      else none
  else
    some (.inr (.inr (v0_8, decide ((v0_8 : Int) < (a0.length : Int)))))
abbrev S_slices_IndexFunc__run_Eval_1_0 (a0 : (List Int)) (v : Nat) : St := ⟨[(0, (.l 3 (a0.map (I)))), (1, (.f 15 [])), (7, (I (a0.length : Int))), (8, (I (v : Int)))], [], H0⟩
abbrev X_slices_IndexFunc__run_Eval_1_0 (a0 : (List Int)) (x : (Nat ⊕ (Nat × Bool))) : AExit × St := match x with | .inl z1 => (.ret, ⟨[(4, (I (z1 : Int)))], [], H0⟩) | .inr (z1, z2) => ((.ex 0), ⟨[(0, (.l 3 (a0.map (I)))), (1, (.f 15 [])), (7, (I (a0.length : Int))), (8, (I (z1 : Int))), (9, (.b z2))], [], H0⟩)
theorem LB_slices_IndexFunc__run_Eval_1_0 (a0 : (List Int)) (v0_8 : Nat) (o : Nat ⊕ (Nat ⊕ (Nat × Bool))) (h : B_slices_IndexFunc__run_Eval_1_0 a0 v0_8 = some o) : bodyOK E0 c29_0 (S_slices_IndexFunc__run_Eval_1_0 a0) (X_slices_IndexFunc__run_Eval_1_0 a0) v0_8 o :=
  have lf := fun {a} => leafO (P := bodyOK E0 c29_0 (S_slices_IndexFunc__run_Eval_1_0 a0) (X_slices_IndexFunc__run_Eval_1_0 a0) v0_8) (a := a) (r := o)
  iteP h (fun h1 h => bindP h fun y2 h3 h => bindP h fun r4 ek5 h => have ek5 := lift_run_Eval_1 y2 _ ek5; iteB h (fun h6 h => lf h ⟨(runI [.b true, .n v0_8, .v (I y2), .v (.b r4), .b true] (fun z => ai (decide_eq_true h1) <| ai (rfl : (v0_8 : Int) = (v0_8 : Int)) <| ai (map_get (I) h3) <| ai ek5 <| ai h6 <| z) (by kernel_rfl)), ne_ret⟩) (fun h6 h => asrtP h fun w7 h => lf h (roundI [.b true, .n v0_8, .v (I y2), .v (.b r4), .b false, .i ((v0_8 + 1 : Nat) : Int)] (fun z => ai (decide_eq_true h1) <| ai (rfl : (v0_8 : Int) = (v0_8 : Int)) <| ai (map_get (I) h3) <| ai ek5 <| ai h6 <| ai w7 <| z) (by kernel_rfl)))) (fun h1 h => lf h ⟨(runI [.b false] (fun z => ai (decide_eq_false h1) <| z) (by kernel_rfl)), ne_ex _⟩)
theorem LL_slices_IndexFunc__run_Eval_1_0 (a0 : (List Int)) (v : Nat) (x : (Nat ⊕ (Nat × Bool))) (h : lp (fun v => B_slices_IndexFunc__run_Eval_1_0 a0 v) v = some x) : lpAt G Ω0 E0 c29_0 (S_slices_IndexFunc__run_Eval_1_0 a0 v) = some (X_slices_IndexFunc__run_Eval_1_0 a0 x) :=
  lp_lift c29_0 (S_slices_IndexFunc__run_Eval_1_0 a0) (X_slices_IndexFunc__run_Eval_1_0 a0) (fun _ => rfl) (fun v o h => LB_slices_IndexFunc__run_Eval_1_0 a0 v o h) h
abbrev O_slices_IndexFunc__run_Eval_1 (a0 : (List Int)) (r : Int) : Prop := call G Ω0 E0 29 [(.l 3 (a0.map (I))), (.f 15 [])] H0 = some (.ret (I r), H0)
noncomputable def F_slices_IndexFunc__run_Eval_1 (a0 : (List Int)) : Option Int :=
  (lp (fun v => B_slices_IndexFunc__run_Eval_1_0 a0 v) 0).bind fun (x1 : (Nat ⊕ (Nat × Bool))) => match x1 with
  | .inl y_2 =>
    some (y_2 : Int)
  | .inr (y_2, y_3) =>
    some (-1)
theorem lift_slices_IndexFunc__run_Eval_1 (a0 : (List Int)) (r : Int) (h : F_slices_IndexFunc__run_Eval_1 a0 = some r) : O_slices_IndexFunc__run_Eval_1 a0 r :=
  have lf := fun {a} => leafO (P := O_slices_IndexFunc__run_Eval_1 a0) (a := a) (r := r)
  (bindP h fun x1 hx h => match x1, hx, h with | .inl y_2, lp3, h => have lp3 := LL_slices_IndexFunc__run_Eval_1_0 a0 0 _ lp3; lf h (callI G29 [.i (a0.length : Int), .lp .ret ⟨[(4, (I (y_2 : Int)))], [], H0⟩] (fun z => ai (map_len (I) a0) <| ai lp3 <| z) (by kernel_rfl)) | .inr (y_2, y_3), lp4, h => have lp4 := LL_slices_IndexFunc__run_Eval_1_0 a0 0 _ lp4; lf h (callI G29 [.i (a0.length : Int), .lp (.ex 0) ⟨[(0, (.l 3 (a0.map (I)))), (1, (.f 15 [])), (7, (I (a0.length : Int))), (8, (I (y_2 : Int))), (9, (.b y_3))], [], H0⟩] (fun z => ai (map_len (I) a0) <| ai lp4 <| z) (by kernel_rfl)))
abbrev O_slices_ContainsFunc__run_Eval_1 (a0 : (List Int)) (r : Bool) : Prop := call G Ω0 E0 14 [(.l 3 (a0.map (I))), (.f 15 [])] H0 = some (.ret (.b r), H0)
noncomputable def F_slices_ContainsFunc__run_Eval_1 (a0 : (List Int)) : Option Bool :=
  (F_slices_IndexFunc__run_Eval_1 a0).bind fun (r1 : Int) =>
  some (decide (0 ≤ r1))
theorem lift_slices_ContainsFunc__run_Eval_1 (a0 : (List Int)) (r : Bool) (h : F_slices_ContainsFunc__run_Eval_1 a0 = some r) : O_slices_ContainsFunc__run_Eval_1 a0 r :=
  have lf := fun {a} => leafO (P := O_slices_ContainsFunc__run_Eval_1 a0) (a := a) (r := r)
  bindP h fun r1 ek2 h => have ek2 := lift_slices_IndexFunc__run_Eval_1 a0 _ ek2; lf h (callI G14 [.v (I r1)] (fun z => ai ek2 <| z) (by kernel_rfl))
abbrev O_run_truth (a0 : Bool) (r : Int) : Prop := call G Ω0 E0 30 [(.b a0)] H0 = some (.ret (I r), H0)
noncomputable def F_run_truth (a0 : Bool) : Option Int :=
  if a0 = true then
    some 1
  else
    some 0
theorem lift_run_truth (a0 : Bool) (r : Int) (h : F_run_truth a0 = some r) : O_run_truth a0 r :=
  have lf := fun {a} => leafO (P := O_run_truth a0) (a := a) (r := r)
  iteB h (fun h1 h => lf h (callI G30 [.b true] (fun z => ai h1 <| z) (by kernel_rfl))) (fun h1 h => lf h (callI G30 [.b false] (fun z => ai h1 <| z) (by kernel_rfl)))
abbrev O_run_Value (a0 : ExprT) (a1 : (List Int)) (r : Int) : Prop := call G Ω0 E0 17 [(.a (kExprT a0)), (.l 3 (a1.map (I)))] H0 = some (.ret (I r), H0)
structure R_run_Value where
  f_run_Value : ExprT → (List Int) → Option Int

structure OK_run_Value (R : R_run_Value) : Prop where
  f_run_Value : ∀ (a0 : ExprT) (a1 : (List Int)) (r : Int), R.f_run_Value a0 a1 = some r → O_run_Value a0 a1 r

noncomputable def D_run_Value_d1 (R : R_run_Value) (w1_1 : Int) : Option Int :=
  some (IntKind.i64.wrap (IntKind.i32.wrap w1_1))
abbrev X_run_Value_d1 (w1_1 : Int) (x : Int) : AExit × St := (.ret, ⟨[(4, (I x))], [], H0⟩)
abbrev O_run_Value_d1 (w1_1 : Int) (x : Int) : Prop := run G Ω0 E0 e17_1 ⟨[(7, (I w1_1))], [], H0⟩ = some (X_run_Value_d1 w1_1 x)
theorem LD_run_Value_d1 (R : R_run_Value) (hR : OK_run_Value R) (w1_1 : Int) (x : Int) (h : D_run_Value_d1 R w1_1 = some x) : O_run_Value_d1 w1_1 x :=
  have lf := fun {a} => leafO (P := O_run_Value_d1 w1_1) (a := a) (r := x)
  lf h (runI [.i (IntKind.i32.wrap w1_1), .i (IntKind.i64.wrap (IntKind.i32.wrap w1_1))] (fun z => ai (rfl : IntKind.i32.wrap w1_1 = IntKind.i32.wrap w1_1) <| ai (rfl : IntKind.i64.wrap (IntKind.i32.wrap w1_1) = IntKind.i64.wrap (IntKind.i32.wrap w1_1)) <| z) (by kernel_rfl))
noncomputable def FB_run_Value (R : R_run_Value) (a0 : ExprT) (a1 : (List Int)) : Option Int :=
  if (a0.Kind == 1) = true then
    some a0.N
  else
    if (a0.Kind == 2) = true then
      (natI a0.N).bind fun (j3 : Nat) =>
      (a1[j3]?).bind fun (y5 : Int) =>
      some y5
    else
      (a0.Args[0]?).bind fun (y3 : ExprT) =>
      (R.f_run_Value y3 a1).bind fun (r5 : Int) =>
      (a0.Args[1]?).bind fun (y7 : ExprT) =>
      (R.f_run_Value y7 a1).bind fun (r9 : Int) =>
      if (a0.Kind == 3) = true then
        if IntKind.i64.wrap (r5 + r9) = r5 + r9 then
          (D_run_Value_d1 R (r5 + r9)).bind fun (x13 : Int) =>
          some x13
        else none
      else
        if (a0.Kind == 4) = true then
          if IntKind.i64.wrap (r5 - r9) = r5 - r9 then
            (D_run_Value_d1 R (r5 - r9)).bind fun (x14 : Int) =>
            some x14
          else none
        else
          if (a0.Kind == 5) = true then
            if IntKind.i64.wrap (r5 * r9) = r5 * r9 then
              (D_run_Value_d1 R (r5 * r9)).bind fun (x15 : Int) =>
              some x15
            else none
          else
            if (a0.Kind == 6) = true then
              (F_run_truth (decide (r5 < r9))).bind fun (r15 : Int) =>
              (D_run_Value_d1 R r15).bind fun (x17 : Int) =>
              some x17
            else
              if (a0.Kind == 7) = true then
                (F_run_truth (r5 == r9)).bind fun (r16 : Int) =>
                (D_run_Value_d1 R r16).bind fun (x18 : Int) =>
                some x18
              else
                (D_run_Value_d1 R 0).bind fun (x16 : Int) =>
                some x16
theorem liftB_run_Value (R : R_run_Value) (hR : OK_run_Value R) (a0 : ExprT) (a1 : (List Int)) (r : Int) (h : FB_run_Value R a0 a1 = some r) : O_run_Value a0 a1 r :=
  have lf := fun {a} => leafO (P := O_run_Value a0 a1) (a := a) (r := r)
  iteB h (fun h1 h => lf h (callI G17 [.b true, .b true, .b true] (fun z => ai tt <| ai (rfl : Z0) <| ai h1 <| ai (rfl : Z0) <| z) (by kernel_rfl))) (fun h1 h => iteB h (fun h2 h => natP h fun j3 h4 h => bindP h fun y5 h6 h => lf h (callI G17 [.b true, .b false, .b true, .b true, .n j3, .v (I y5)] (fun z => ai tt <| ai (rfl : Z0) <| ai h1 <| ai h2 <| ai (rfl : Z0) <| ai h4 <| ai (map_get (I) h6) <| z) (by kernel_rfl))) (fun h2 h => bindP h fun y3 h4 h => bindP h fun r5 ek6 h => have ek6 := hR.f_run_Value y3 a1 _ ek6; bindP h fun y7 h8 h => bindP h fun r9 ek10 h => have ek10 := hR.f_run_Value y7 a1 _ ek10; iteB h (fun h11 h => asrtP h fun w12 h => bindP h fun x13 fr14 h => have fr14 := LD_run_Value_d1 R hR (r5 + r9) _ fr14; lf h (callI G17 [.b true, .b false, .b false, .b true, .n 0, .v (.a (kExprT y3)), .v (I r5), .b true, .n 1, .v (.a (kExprT y7)), .v (I r9), .b true, .b true, .i (r5 + r9), .fr .ret ⟨[(4, (I x13))], [], H0⟩] (fun z => ai tt <| ai (rfl : Z0) <| ai h1 <| ai h2 <| ai tt <| ai tt <| ai (rfl : Z0) <| ai tt <| ai (rfl : (0 : Int) = (0 : Int)) <| ai (map_getE eExprT h4 (eExprT_eq _)) <| ai tt <| ai tt <| ai tt <| ai ek6 <| ai tt <| ai tt <| ai (rfl : Z0) <| ai tt <| ai (rfl : (1 : Int) = (1 : Int)) <| ai (map_getE eExprT h8 (eExprT_eq _)) <| ai tt <| ai tt <| ai tt <| ai ek10 <| ai (rfl : Z0) <| ai h11 <| ai w12 <| ai fr14 <| z) (by kernel_rfl))) (fun h11 h => iteB h (fun h12 h => asrtP h fun w13 h => bindP h fun x14 fr15 h => have fr15 := LD_run_Value_d1 R hR (r5 - r9) _ fr15; lf h (callI G17 [.b true, .b false, .b false, .b true, .n 0, .v (.a (kExprT y3)), .v (I r5), .b true, .n 1, .v (.a (kExprT y7)), .v (I r9), .b true, .b false, .b true, .i (r5 - r9), .fr .ret ⟨[(4, (I x14))], [], H0⟩] (fun z => ai tt <| ai (rfl : Z0) <| ai h1 <| ai h2 <| ai tt <| ai tt <| ai (rfl : Z0) <| ai tt <| ai (rfl : (0 : Int) = (0 : Int)) <| ai (map_getE eExprT h4 (eExprT_eq _)) <| ai tt <| ai tt <| ai tt <| ai ek6 <| ai tt <| ai tt <| ai (rfl : Z0) <| ai tt <| ai (rfl : (1 : Int) = (1 : Int)) <| ai (map_getE eExprT h8 (eExprT_eq _)) <| ai tt <| ai tt <| ai tt <| ai ek10 <| ai (rfl : Z0) <| ai h11 <| ai h12 <| ai w13 <| ai fr15 <| z) (by kernel_rfl))) (fun h12 h => iteB h (fun h13 h => asrtP h fun w14 h => bindP h fun x15 fr16 h => have fr16 := LD_run_Value_d1 R hR (r5 * r9) _ fr16; lf h (callI G17 [.b true, .b false, .b false, .b true, .n 0, .v (.a (kExprT y3)), .v (I r5), .b true, .n 1, .v (.a (kExprT y7)), .v (I r9), .b true, .b false, .b false, .b true, .i (r5 * r9), .fr .ret ⟨[(4, (I x15))], [], H0⟩] (fun z => ai tt <| ai (rfl : Z0) <| ai h1 <| ai h2 <| ai tt <| ai tt <| ai (rfl : Z0) <| ai tt <| ai (rfl : (0 : Int) = (0 : Int)) <| ai (map_getE eExprT h4 (eExprT_eq _)) <| ai tt <| ai tt <| ai tt <| ai ek6 <| ai tt <| ai tt <| ai (rfl : Z0) <| ai tt <| ai (rfl : (1 : Int) = (1 : Int)) <| ai (map_getE eExprT h8 (eExprT_eq _)) <| ai tt <| ai tt <| ai tt <| ai ek10 <| ai (rfl : Z0) <| ai h11 <| ai h12 <| ai h13 <| ai w14 <| ai fr16 <| z) (by kernel_rfl))) (fun h13 h => iteB h (fun h14 h => bindP h fun r15 ek16 h => have ek16 := lift_run_truth (decide (r5 < r9)) _ ek16; bindP h fun x17 fr18 h => have fr18 := LD_run_Value_d1 R hR r15 _ fr18; lf h (callI G17 [.b true, .b false, .b false, .b true, .n 0, .v (.a (kExprT y3)), .v (I r5), .b true, .n 1, .v (.a (kExprT y7)), .v (I r9), .b true, .b false, .b false, .b false, .b true, .v (I r15), .fr .ret ⟨[(4, (I x17))], [], H0⟩] (fun z => ai tt <| ai (rfl : Z0) <| ai h1 <| ai h2 <| ai tt <| ai tt <| ai (rfl : Z0) <| ai tt <| ai (rfl : (0 : Int) = (0 : Int)) <| ai (map_getE eExprT h4 (eExprT_eq _)) <| ai tt <| ai tt <| ai tt <| ai ek6 <| ai tt <| ai tt <| ai (rfl : Z0) <| ai tt <| ai (rfl : (1 : Int) = (1 : Int)) <| ai (map_getE eExprT h8 (eExprT_eq _)) <| ai tt <| ai tt <| ai tt <| ai ek10 <| ai (rfl : Z0) <| ai h11 <| ai h12 <| ai h13 <| ai h14 <| ai ek16 <| ai fr18 <| z) (by kernel_rfl))) (fun h14 h => iteB h (fun h15 h => bindP h fun r16 ek17 h => have ek17 := lift_run_truth (r5 == r9) _ ek17; bindP h fun x18 fr19 h => have fr19 := LD_run_Value_d1 R hR r16 _ fr19; lf h (callI G17 [.b true, .b false, .b false, .b true, .n 0, .v (.a (kExprT y3)), .v (I r5), .b true, .n 1, .v (.a (kExprT y7)), .v (I r9), .b true, .b false, .b false, .b false, .b false, .b true, .v (I r16), .fr .ret ⟨[(4, (I x18))], [], H0⟩] (fun z => ai tt <| ai (rfl : Z0) <| ai h1 <| ai h2 <| ai tt <| ai tt <| ai (rfl : Z0) <| ai tt <| ai (rfl : (0 : Int) = (0 : Int)) <| ai (map_getE eExprT h4 (eExprT_eq _)) <| ai tt <| ai tt <| ai tt <| ai ek6 <| ai tt <| ai tt <| ai (rfl : Z0) <| ai tt <| ai (rfl : (1 : Int) = (1 : Int)) <| ai (map_getE eExprT h8 (eExprT_eq _)) <| ai tt <| ai tt <| ai tt <| ai ek10 <| ai (rfl : Z0) <| ai h11 <| ai h12 <| ai h13 <| ai h14 <| ai h15 <| ai ek17 <| ai fr19 <| z) (by kernel_rfl))) (fun h15 h => bindP h fun x16 fr17 h => have fr17 := LD_run_Value_d1 R hR 0 _ fr17; lf h (callI G17 [.b true, .b false, .b false, .b true, .n 0, .v (.a (kExprT y3)), .v (I r5), .b true, .n 1, .v (.a (kExprT y7)), .v (I r9), .b true, .b false, .b false, .b false, .b false, .b false, .fr .ret ⟨[(4, (I x16))], [], H0⟩] (fun z => ai tt <| ai (rfl : Z0) <| ai h1 <| ai h2 <| ai tt <| ai tt <| ai (rfl : Z0) <| ai tt <| ai (rfl : (0 : Int) = (0 : Int)) <| ai (map_getE eExprT h4 (eExprT_eq _)) <| ai tt <| ai tt <| ai tt <| ai ek6 <| ai tt <| ai tt <| ai (rfl : Z0) <| ai tt <| ai (rfl : (1 : Int) = (1 : Int)) <| ai (map_getE eExprT h8 (eExprT_eq _)) <| ai tt <| ai tt <| ai tt <| ai ek10 <| ai (rfl : Z0) <| ai h11 <| ai h12 <| ai h13 <| ai h14 <| ai h15 <| ai fr17 <| z) (by kernel_rfl)))))))))
noncomputable def N_run_Value : Nat → R_run_Value
  | 0 => ⟨fun z0 z1 => none⟩
  | n + 1 => ⟨FB_run_Value (N_run_Value n)⟩
theorem ok_run_Value : ∀ n, OK_run_Value (N_run_Value n)
  | 0 => ⟨fun _ _ r h => (by cases h)⟩
  | n + 1 => ⟨fun a0 a1 r h => liftB_run_Value _ (ok_run_Value n) a0 a1 r h⟩
noncomputable def F_run_Value (a0 : ExprT) (a1 : (List Int)) : Option Int := ev fun n => (N_run_Value n).f_run_Value a0 a1
theorem lift_run_Value (a0 : ExprT) (a1 : (List Int)) (r : Int) (h : F_run_Value a0 a1 = some r) : O_run_Value a0 a1 r := by
  obtain ⟨n, hn⟩ := ev_some h
  exact (ok_run_Value n).f_run_Value a0 a1 r hn
abbrev O_run_Eval (a0 : ExprT) (a1 : (List Int)) (r : (Int × Int)) : Prop := call G Ω0 E0 6 [(.a (kExprT a0)), (.l 3 (a1.map (I)))] H0 = some (.ret (.tp [(I r.1), (I r.2)]), H0)
noncomputable def F_run_Eval (a0 : ExprT) (a1 : (List Int)) : Option (Int × Int) :=
  (F_scope_Expr a0 (a1.length : Int)).bind fun (r1 : Int) =>
  if (r1 != 0) = true then
    some (0, r1)
  else
    (F_slices_ContainsFunc__run_Eval_1 a1).bind fun (r4 : Bool) =>
    if r4 = true then
      some (0, 3)
    else
      (F_run_Value a0 a1).bind fun (r7 : Int) =>
      some (r7, 0)
theorem lift_run_Eval (a0 : ExprT) (a1 : (List Int)) (r : (Int × Int)) (h : F_run_Eval a0 a1 = some r) : O_run_Eval a0 a1 r :=
  have lf := fun {a} => leafO (P := O_run_Eval a0 a1) (a := a) (r := r)
  bindP h fun r1 ek2 h => have ek2 := lift_scope_Expr a0 (a1.length : Int) _ ek2; iteB h (fun h3 h => lf h (callI G6 [.b true, .i (a1.length : Int), .v (I r1), .b true] (fun z => ai tt <| ai (rfl : Z0) <| ai (map_len (I) a1) <| ai ek2 <| ai h3 <| z) (by kernel_rfl))) (fun h3 h => bindP h fun r4 ek5 h => have ek5 := lift_slices_ContainsFunc__run_Eval_1 a1 _ ek5; iteB h (fun h6 h => lf h (callI G6 [.b true, .i (a1.length : Int), .v (I r1), .b false, .v (.b r4), .b true] (fun z => ai tt <| ai (rfl : Z0) <| ai (map_len (I) a1) <| ai ek2 <| ai h3 <| ai ek5 <| ai h6 <| z) (by kernel_rfl))) (fun h6 h => bindP h fun r7 ek8 h => have ek8 := lift_run_Value a0 a1 _ ek8; lf h (callI G6 [.b true, .i (a1.length : Int), .v (I r1), .b false, .v (.b r4), .b false, .b true, .v (I r7)] (fun z => ai tt <| ai (rfl : Z0) <| ai (map_len (I) a1) <| ai ek2 <| ai h3 <| ai ek5 <| ai h6 <| ai (rfl : Z0) <| ai ek8 <| z) (by kernel_rfl))))
abbrev O_R_exprParts (a0 : ExprT) (a1 : Int) (r : Int) : Prop := call G Ω0 E0 31 [(.a (kExprT a0)), (I a1)] H0 = some (.ret (I r), H0)
structure R_R_exprParts where
  f_R_exprParts : ExprT → Int → Option Int

structure OK_R_exprParts (R : R_R_exprParts) : Prop where
  f_R_exprParts : ∀ (a0 : ExprT) (a1 : Int) (r : Int), R.f_R_exprParts a0 a1 = some r → O_R_exprParts a0 a1 r

noncomputable def B_R_exprParts_0 (R : R_R_exprParts) (a0 : ExprT) (a1 : Int) (v0_5 : Int) (v0_6 : Nat) : Option ((Int × Nat) ⊕ ((Int × Nat × Bool) ⊕ (Int × Nat))) :=
  if (v0_6 : Int) < (a0.Args.length : Int) then
    if v0_5 ≤ a1 then
      (a0.Args[v0_6]?).bind fun (y3 : ExprT) =>
      if IntKind.i64.wrap (a1 - v0_5) = a1 - v0_5 then
        (R.f_R_exprParts y3 (a1 - v0_5)).bind fun (r6 : Int) =>
        if IntKind.i64.wrap (v0_5 + r6) = v0_5 + r6 then
          if IntKind.i64.wrap ((v0_6 : Int) + 1) = ((v0_6 + 1 : Nat) : Int) then
            some (.inl (v0_5 + r6, v0_6 + 1))
          else none
        else none
      else none
    else
      some (.inr (.inl (v0_5, v0_6, decide (v0_5 ≤ a1))))
  else
    some (.inr (.inr (v0_5, v0_6)))
abbrev S_R_exprParts_0 (a0 : ExprT) (a1 : Int) (v : (Int × Nat)) : St := ⟨[(1, (I a1)), (2, (.p ⟨0, 2⟩ 0)), (5, (I v.1)), (6, (I (v.2 : Int)))], [(2, (kExprT a0))], H0⟩
abbrev X_R_exprParts_0 (a0 : ExprT) (a1 : Int) (x : ((Int × Nat × Bool) ⊕ (Int × Nat))) : AExit × St := match x with | .inl (z1, z2, z3) => ((.ex 0), ⟨[(1, (I a1)), (2, (.p ⟨0, 2⟩ 0)), (5, (I z1)), (6, (I (z2 : Int))), (16, (.b z3))], [(2, (kExprT a0))], H0⟩) | .inr (z1, z2) => ((.ex 0), ⟨[(1, (I a1)), (2, (.p ⟨0, 2⟩ 0)), (5, (I z1)), (6, (I (z2 : Int))), (16, (.b false))], [(2, (kExprT a0))], H0⟩)
theorem LB_R_exprParts_0 (R : R_R_exprParts) (hR : OK_R_exprParts R) (a0 : ExprT) (a1 : Int) (v0_5 : Int) (v0_6 : Nat) (o : (Int × Nat) ⊕ ((Int × Nat × Bool) ⊕ (Int × Nat))) (h : B_R_exprParts_0 R a0 a1 v0_5 v0_6 = some o) : bodyOK E0 c31_0 (S_R_exprParts_0 a0 a1) (X_R_exprParts_0 a0 a1) (v0_5, v0_6) o :=
  have lf := fun {a} => leafO (P := bodyOK E0 c31_0 (S_R_exprParts_0 a0 a1) (X_R_exprParts_0 a0 a1) (v0_5, v0_6)) (a := a) (r := o)
  iteP h (fun h1 h => iteP h (fun h2 h => bindP h fun y3 h4 h => asrtP h fun w5 h => bindP h fun r6 ek7 h => have ek7 := hR.f_R_exprParts y3 (a1 - v0_5) _ ek7; asrtP h fun w8 h => asrtP h fun w9 h => lf h (roundI [.b true, .i (a0.Args.length : Int), .b true, .b true, .b true, .b true, .b true, .b true, .n v0_6, .v (.a (kExprT y3)), .i (a1 - v0_5), .v (I r6), .i (v0_5 + r6), .i ((v0_6 + 1 : Nat) : Int)] (fun z => ai (rfl : Z0) <| ai (map_len eExprT a0.Args) <| ai (g1 (decide_eq_true h1)) <| ai (g1 (decide_eq_true h1)) <| ai (g1 (decide_eq_true h1)) <| ai (decide_eq_true h1) <| ai (decide_eq_true h2) <| ai (rfl : Z0) <| ai (rfl : (v0_6 : Int) = (v0_6 : Int)) <| ai (map_getE eExprT h4 (eExprT_eq _)) <| ai w5 <| ai ek7 <| ai w8 <| ai w9 <| z) (by kernel_rfl))) (fun h2 h => lf h ⟨(runI [.b true, .i (a0.Args.length : Int), .b true, .b true, .b true, .b true, .b false] (fun z => ai (rfl : Z0) <| ai (map_len eExprT a0.Args) <| ai (g1 (decide_eq_true h1)) <| ai (g1 (decide_eq_true h1)) <| ai (g1 (decide_eq_true h1)) <| ai (decide_eq_true h1) <| ai (decide_eq_false h2) <| z) (by kernel_rfl)), ne_ex _⟩)) (fun h1 h => lf h ⟨(runI [.b true, .i (a0.Args.length : Int), .b false, .b false, .b false, .b false, .b false] (fun z => ai (rfl : Z0) <| ai (map_len eExprT a0.Args) <| ai (g1 (decide_eq_false h1)) <| ai (g1 (decide_eq_false h1)) <| ai (g1 (decide_eq_false h1)) <| ai (decide_eq_false h1) <| ai ff <| z) (by kernel_rfl)), ne_ex _⟩)
theorem LL_R_exprParts_0 (R : R_R_exprParts) (hR : OK_R_exprParts R) (a0 : ExprT) (a1 : Int) (v : (Int × Nat)) (x : ((Int × Nat × Bool) ⊕ (Int × Nat))) (h : lp (fun v => B_R_exprParts_0 R a0 a1 v.1 v.2) v = some x) : lpAt G Ω0 E0 c31_0 (S_R_exprParts_0 a0 a1 v) = some (X_R_exprParts_0 a0 a1 x) :=
  lp_lift c31_0 (S_R_exprParts_0 a0 a1) (X_R_exprParts_0 a0 a1) (fun _ => rfl) (fun v o h => LB_R_exprParts_0 R hR a0 a1 v.1 v.2 o h) h
noncomputable def FB_R_exprParts (R : R_R_exprParts) (a0 : ExprT) (a1 : Int) : Option Int :=
  (lp (fun v => B_R_exprParts_0 R a0 a1 v.1 v.2) (1, 0)).bind fun (x1 : ((Int × Nat × Bool) ⊕ (Int × Nat))) => match x1 with
  | .inl (y_2, y_3, y_4) =>
    some y_2
  | .inr (y_2, y_3) =>
    some y_2
theorem liftB_R_exprParts (R : R_R_exprParts) (hR : OK_R_exprParts R) (a0 : ExprT) (a1 : Int) (r : Int) (h : FB_R_exprParts R a0 a1 = some r) : O_R_exprParts a0 a1 r :=
  have lf := fun {a} => leafO (P := O_R_exprParts a0 a1) (a := a) (r := r)
  (bindP h fun x1 hx h => match x1, hx, h with | .inl (y_2, y_3, y_4), lp5, h => have lp5 := LL_R_exprParts_0 R hR a0 a1 (1, 0) _ lp5; lf h (callI G31 [.lp (.ex 0) ⟨[(1, (I a1)), (2, (.p ⟨0, 2⟩ 0)), (5, (I y_2)), (6, (I (y_3 : Int))), (16, (.b y_4))], [(2, (kExprT a0))], H0⟩] (fun z => ai tt <| ai lp5 <| z) (by kernel_rfl)) | .inr (y_2, y_3), lp4, h => have lp4 := LL_R_exprParts_0 R hR a0 a1 (1, 0) _ lp4; lf h (callI G31 [.lp (.ex 0) ⟨[(1, (I a1)), (2, (.p ⟨0, 2⟩ 0)), (5, (I y_2)), (6, (I (y_3 : Int))), (16, (.b false))], [(2, (kExprT a0))], H0⟩] (fun z => ai tt <| ai lp4 <| z) (by kernel_rfl)))
noncomputable def N_R_exprParts : Nat → R_R_exprParts
  | 0 => ⟨fun z0 z1 => none⟩
  | n + 1 => ⟨FB_R_exprParts (N_R_exprParts n)⟩
theorem ok_R_exprParts : ∀ n, OK_R_exprParts (N_R_exprParts n)
  | 0 => ⟨fun _ _ r h => (by cases h)⟩
  | n + 1 => ⟨fun a0 a1 r h => liftB_R_exprParts _ (ok_R_exprParts n) a0 a1 r h⟩
noncomputable def F_R_exprParts (a0 : ExprT) (a1 : Int) : Option Int := ev fun n => (N_R_exprParts n).f_R_exprParts a0 a1
theorem lift_R_exprParts (a0 : ExprT) (a1 : Int) (r : Int) (h : F_R_exprParts a0 a1 = some r) : O_R_exprParts a0 a1 r := by
  obtain ⟨n, hn⟩ := ev_some h
  exact (ok_R_exprParts n).f_R_exprParts a0 a1 r hn
abbrev O_R_allParts (a0 : ExprT) (r : (List ExprT)) : Prop := call G Ω0 E0 32 [(.a (kExprT a0))] H0 = some (.ret (.l 24 (r.map eExprT)), H0)
structure R_R_allParts where
  f_R_allParts : ExprT → Option (List ExprT)

structure OK_R_allParts (R : R_R_allParts) : Prop where
  f_R_allParts : ∀ (a0 : ExprT) (r : (List ExprT)), R.f_R_allParts a0 = some r → O_R_allParts a0 r

noncomputable def B_R_allParts_0 (R : R_R_allParts) (a0 : ExprT) (v0_3 : (List ExprT)) (v0_4 : Nat) : Option (((List ExprT) × Nat) ⊕ ((List ExprT) × Nat × Bool)) :=
  if (v0_4 : Int) < (a0.Args.length : Int) then
    (a0.Args[v0_4]?).bind fun (y2 : ExprT) =>
    (R.f_R_allParts y2).bind fun (r4 : (List ExprT)) =>
    if v0_3.length + r4.length ≤ 1000000000 then
      if IntKind.i64.wrap ((v0_4 : Int) + 1) = ((v0_4 + 1 : Nat) : Int) then
        some (.inl (v0_3 ++ r4, v0_4 + 1))
      else none
    else none
  else
    some (.inr (v0_3, v0_4, decide ((v0_4 : Int) < (a0.Args.length : Int))))
abbrev S_R_allParts_0 (a0 : ExprT) (v : ((List ExprT) × Nat)) : St := ⟨[(1, (.p ⟨0, 1⟩ 0)), (3, (.o 24 (v.1.map eExprT))), (4, (I (v.2 : Int)))], [(1, (kExprT a0))], H0⟩
abbrev X_R_allParts_0 (a0 : ExprT) (x : ((List ExprT) × Nat × Bool)) : AExit × St := ((.ex 0), ⟨[(1, (.p ⟨0, 1⟩ 0)), (3, (.o 24 (x.1.map eExprT))), (4, (I (x.2.1 : Int))), (11, (.b x.2.2))], [(1, (kExprT a0))], H0⟩)
theorem LB_R_allParts_0 (R : R_R_allParts) (hR : OK_R_allParts R) (a0 : ExprT) (v0_3 : (List ExprT)) (v0_4 : Nat) (o : ((List ExprT) × Nat) ⊕ ((List ExprT) × Nat × Bool)) (h : B_R_allParts_0 R a0 v0_3 v0_4 = some o) : bodyOK E0 c32_0 (S_R_allParts_0 a0) (X_R_allParts_0 a0) (v0_3, v0_4) o :=
  have lf := fun {a} => leafO (P := bodyOK E0 c32_0 (S_R_allParts_0 a0) (X_R_allParts_0 a0) (v0_3, v0_4)) (a := a) (r := o)
  iteP h (fun h1 h => bindP h fun y2 h3 h => bindP h fun r4 ek5 h => have ek5 := hR.f_R_allParts y2 _ ek5; asrtP h fun h6 h => asrtP h fun w7 h => lf h (roundI [.b true, .i (a0.Args.length : Int), .b true, .b true, .n v0_4, .v (.a (kExprT y2)), .v (.l 24 (r4.map eExprT)), .l ((v0_3 ++ r4).map eExprT), .i ((v0_4 + 1 : Nat) : Int)] (fun z => ai (rfl : Z0) <| ai (map_len eExprT a0.Args) <| ai (decide_eq_true h1) <| ai (rfl : Z0) <| ai (rfl : (v0_4 : Int) = (v0_4 : Int)) <| ai (map_getE eExprT h3 (eExprT_eq _)) <| ai ek5 <| ai ff <| ai ((all_nc eExprT (n := 3) (fun a => by rw [eExprT_eq]; rfl) r4) : (r4.map eExprT).all (fun e => e.nc == 3) = true) <| ai ((room3 h6 (by decide)) : ((v0_3.map eExprT).length + (r4.map eExprT).length) * 40 ≤ 140737488355328) <| ai ((room4 h6) : (v0_3.map eExprT).length + (r4.map eExprT).length ≤ maxLen) <| ai (List.map_append.symm : v0_3.map eExprT ++ r4.map eExprT = (v0_3 ++ r4).map eExprT) <| ai w7 <| z) (by kernel_rfl))) (fun h1 h => lf h ⟨(runI [.b true, .i (a0.Args.length : Int), .b false] (fun z => ai (rfl : Z0) <| ai (map_len eExprT a0.Args) <| ai (decide_eq_false h1) <| z) (by kernel_rfl)), ne_ex _⟩)
theorem LL_R_allParts_0 (R : R_R_allParts) (hR : OK_R_allParts R) (a0 : ExprT) (v : ((List ExprT) × Nat)) (x : ((List ExprT) × Nat × Bool)) (h : lp (fun v => B_R_allParts_0 R a0 v.1 v.2) v = some x) : lpAt G Ω0 E0 c32_0 (S_R_allParts_0 a0 v) = some (X_R_allParts_0 a0 x) :=
  lp_lift c32_0 (S_R_allParts_0 a0) (X_R_allParts_0 a0) (fun _ => rfl) (fun v o h => LB_R_allParts_0 R hR a0 v.1 v.2 o h) h
noncomputable def FB_R_allParts (R : R_R_allParts) (a0 : ExprT) : Option (List ExprT) :=
  (lp (fun v => B_R_allParts_0 R a0 v.1 v.2) ([a0], 0)).bind fun (x1 : ((List ExprT) × Nat × Bool)) =>
  some x1.1
theorem liftB_R_allParts (R : R_R_allParts) (hR : OK_R_allParts R) (a0 : ExprT) (r : (List ExprT)) (h : FB_R_allParts R a0 = some r) : O_R_allParts a0 r :=
  have lf := fun {a} => leafO (P := O_R_allParts a0) (a := a) (r := r)
  bindP h fun x1 lp2 h => have lp2 := LL_R_allParts_0 R hR a0 ([a0], 0) _ lp2; lf h (callI G32 [.b true, .l ([a0].map eExprT), .lp (.ex 0) ⟨[(1, (.p ⟨0, 1⟩ 0)), (3, (.o 24 (x1.1.map eExprT))), (4, (I (x1.2.1 : Int))), (11, (.b x1.2.2))], [(1, (kExprT a0))], H0⟩] (fun z => ai tt <| ai (rfl : Z0) <| ai ((by simp only [List.map_cons, List.map_nil, eExprT_eq]) : [(.a (kExprT a0))] = [a0].map eExprT) <| ai lp2 <| z) (by kernel_rfl))
noncomputable def N_R_allParts : Nat → R_R_allParts
  | 0 => ⟨fun z0 => none⟩
  | n + 1 => ⟨FB_R_allParts (N_R_allParts n)⟩
theorem ok_R_allParts : ∀ n, OK_R_allParts (N_R_allParts n)
  | 0 => ⟨fun _ r h => (by cases h)⟩
  | n + 1 => ⟨fun a0 r h => liftB_R_allParts _ (ok_R_allParts n) a0 r h⟩
noncomputable def F_R_allParts (a0 : ExprT) : Option (List ExprT) := ev fun n => (N_R_allParts n).f_R_allParts a0
theorem lift_R_allParts (a0 : ExprT) (r : (List ExprT)) (h : F_R_allParts a0 = some r) : O_R_allParts a0 r := by
  obtain ⟨n, hn⟩ := ev_some h
  exact (ok_R_allParts n).f_R_allParts a0 r hn
abbrev O_R_between (a0 : Int) (a1 : Int) (a2 : Int) (r : Bool) : Prop := call G Ω0 E0 33 [(I a0), (I a1), (I a2)] H0 = some (.ret (.b r), H0)
noncomputable def F_R_between (a0 : Int) (a1 : Int) (a2 : Int) : Option Bool :=
  if a1 ≤ a0 then
    some (decide (a0 ≤ a2))
  else
    some false
theorem lift_R_between (a0 : Int) (a1 : Int) (a2 : Int) (r : Bool) (h : F_R_between a0 a1 a2 = some r) : O_R_between a0 a1 a2 r :=
  have lf := fun {a} => leafO (P := O_R_between a0 a1 a2) (a := a) (r := r)
  iteP h (fun h1 h => lf h (callI G33 [.b true, .b true, .b true, .b true] (fun z => ai (g1 (decide_eq_true h1)) <| ai (g1 (decide_eq_true h1)) <| ai (g1 (decide_eq_true h1)) <| ai (decide_eq_true h1) <| z) (by kernel_rfl))) (fun h1 h => lf h (callI G33 [.b false, .b false, .b false, .b false] (fun z => ai (g1 (decide_eq_false h1)) <| ai (g1 (decide_eq_false h1)) <| ai (g1 (decide_eq_false h1)) <| ai (decide_eq_false h1) <| z) (by kernel_rfl)))
noncomputable def q_R_CheckExpr_j1 : List GOp := ⟨some 27, .fa 0 (.t 7), none, false⟩ :: ⟨some 28, .ld none (.t 27), none, false⟩ :: ⟨some 29, .bo .leq false (.t 28) (.c (I 2)), none, false⟩ :: ⟨some 30, .mv (.t 29), none, false⟩ :: ⟨some 31, .fa 2 (.t 7), some ⟨30, true⟩, false⟩ :: ⟨some 32, .ld none (.t 31), some ⟨30, true⟩, false⟩ :: ⟨some 33, .ln false (.t 32), some ⟨30, true⟩, false⟩ :: ⟨some 34, .bo .neq false (.t 33) (.c (I 0)), some ⟨30, true⟩, false⟩ :: ⟨some 35, .pk (.t 30) (.t 34) (.c (.b false)), none, false⟩ :: ⟨some 36, .mv (.t 35), none, false⟩ :: ⟨some 37, .fa 0 (.t 7), some ⟨36, false⟩, false⟩ :: ⟨some 38, .ld none (.t 37), some ⟨36, false⟩, false⟩ :: ⟨some 39, .bo .gtr false (.t 38) (.c (I 2)), some ⟨36, false⟩, false⟩ :: ⟨some 40, .mv (.t 39), some ⟨36, false⟩, false⟩ :: ⟨some 41, .fa 2 (.t 7), some ⟨40, true⟩, false⟩ :: ⟨some 42, .ld none (.t 41), some ⟨40, true⟩, false⟩ :: ⟨some 43, .ln false (.t 42), some ⟨40, true⟩, false⟩ :: ⟨some 44, .bo .neq false (.t 43) (.c (I 2)), some ⟨40, true⟩, false⟩ :: ⟨some 45, .pk (.t 40) (.t 44) (.c (.b false)), some ⟨36, false⟩, false⟩ :: ⟨some 46, .pk (.t 36) (.c (.b true)) (.t 45), none, false⟩ :: []
noncomputable def D_R_CheckExpr_j1 (a1 : Int) (r4 : (List ExprT)) (v0_6 : Nat) (y7 : ExprT) : Option (Unit ⊕ (Unit ⊕ Unit)) :=
  if y7.Kind ≤ 2 then
    if ((y7.Args.length : Int) != 0) = true then
      some (.inl ())
    else
      if 2 < y7.Kind then
        some (.inr (.inl ()))
      else
        some (.inr (.inr ()))
  else
    if 2 < y7.Kind then
      some (.inr (.inl ()))
    else
      some (.inr (.inr ()))
abbrev X_R_CheckExpr_j1 (a1 : Int) (r4 : (List ExprT)) (v0_6 : Nat) (y7 : ExprT) (x : (Unit ⊕ (Unit ⊕ Unit))) : St := match x with | .inl () => ⟨[(1, (I a1)), (5, (.l 24 (r4.map eExprT))), (6, (I (v0_6 : Int))), (7, (.p ⟨0, 7⟩ 0)), (46, (.b true))], [(7, (kExprT y7))], H0⟩ | .inr (.inl ()) => ⟨[(1, (I a1)), (5, (.l 24 (r4.map eExprT))), (6, (I (v0_6 : Int))), (7, (.p ⟨0, 7⟩ 0)), (46, (.b ((y7.Args.length : Int) != 2)))], [(7, (kExprT y7))], H0⟩ | .inr (.inr ()) => ⟨[(1, (I a1)), (5, (.l 24 (r4.map eExprT))), (6, (I (v0_6 : Int))), (7, (.p ⟨0, 7⟩ 0)), (46, (.b false))], [(7, (kExprT y7))], H0⟩
abbrev O_R_CheckExpr_j1 (a1 : Int) (r4 : (List ExprT)) (v0_6 : Nat) (y7 : ExprT) (x : (Unit ⊕ (Unit ⊕ Unit))) : Prop := opsK G Ω0 E0 [1, 5, 6, 7, 46] [7] q_R_CheckExpr_j1 ⟨[(1, (I a1)), (5, (.l 24 (r4.map eExprT))), (6, (I (v0_6 : Int))), (7, (.p ⟨0, 7⟩ 0))], [(7, (kExprT y7))], H0⟩ = some (X_R_CheckExpr_j1 a1 r4 v0_6 y7 x)
theorem LD_R_CheckExpr_j1 (a1 : Int) (r4 : (List ExprT)) (v0_6 : Nat) (y7 : ExprT) (x : (Unit ⊕ (Unit ⊕ Unit))) (h : D_R_CheckExpr_j1 a1 r4 v0_6 y7 = some x) : O_R_CheckExpr_j1 a1 r4 v0_6 y7 x :=
  have lf := fun {a} => leafO (P := O_R_CheckExpr_j1 a1 r4 v0_6 y7) (a := a) (r := x)
  iteP h (fun h12 h => iteB h (fun h13 h => lf h (opsKI [.b true, .b true, .b true, .b true, .b true, .i (y7.Args.length : Int), .b true, .b true, .b false, .b false, .b false, .b false, .b false, .b true] (fun z => ai (rfl : Z0) <| ai (g1 (decide_eq_true h12)) <| ai (g1 (decide_eq_true h12)) <| ai (rfl : Z0) <| ai (g1 (decide_eq_true h12)) <| ai (map_len eExprT y7.Args) <| ai (g1 (decide_eq_true h12)) <| ai (decide_eq_true h12) <| ai (g0 h13) <| ai (g0 h13) <| ai (g0 h13) <| ai (g0 h13) <| ai (g0 h13) <| ai h13 <| z) (by kernel_rfl))) (fun h13 h => iteP h (fun h14 h => lf h (opsKI [.b true, .b true, .b true, .b true, .b true, .i (y7.Args.length : Int), .b true, .b true, .b true, .b true, .b true, .b true, .b true, .b true, .b true, .b true, .b true, .i (y7.Args.length : Int), .b true, .b true, .b true, .b false] (fun z => ai (rfl : Z0) <| ai (g1 (decide_eq_true h12)) <| ai (g1 (decide_eq_true h12)) <| ai (rfl : Z0) <| ai (g1 (decide_eq_true h12)) <| ai (map_len eExprT y7.Args) <| ai (g1 (decide_eq_true h12)) <| ai (decide_eq_true h12) <| ai (g0 h13) <| ai (g0 h13) <| ai (rfl : Z0) <| ai (g0 h13) <| ai (g0 h13) <| ai (g1 (decide_eq_true h14)) <| ai (g1 (decide_eq_true h14)) <| ai (rfl : Z0) <| ai (g1 (decide_eq_true h14)) <| ai (map_len eExprT y7.Args) <| ai (g1 (decide_eq_true h14)) <| ai (g0 h13) <| ai (decide_eq_true h14) <| ai h13 <| z) (by kernel_rfl))) (fun h14 h => lf h (opsKI [.b true, .b true, .b true, .b true, .b true, .i (y7.Args.length : Int), .b true, .b true, .b true, .b true, .b true, .b true, .b true, .b false, .b false, .b false, .b false, .b true, .b false, .b false] (fun z => ai (rfl : Z0) <| ai (g1 (decide_eq_true h12)) <| ai (g1 (decide_eq_true h12)) <| ai (rfl : Z0) <| ai (g1 (decide_eq_true h12)) <| ai (map_len eExprT y7.Args) <| ai (g1 (decide_eq_true h12)) <| ai (decide_eq_true h12) <| ai (g0 h13) <| ai (g0 h13) <| ai (rfl : Z0) <| ai (g0 h13) <| ai (g0 h13) <| ai (g1 (decide_eq_false h14)) <| ai (g1 (decide_eq_false h14)) <| ai (g1 (decide_eq_false h14)) <| ai (g1 (decide_eq_false h14)) <| ai (g0 h13) <| ai (decide_eq_false h14) <| ai h13 <| z) (by kernel_rfl))))) (fun h12 h => iteP h (fun h13 h => lf h (opsKI [.b true, .b false, .b false, .b false, .b false, .b false, .b true, .b true, .b true, .b true, .b true, .b true, .b true, .b true, .b true, .i (y7.Args.length : Int), .b true, .b true, .b true, .b false] (fun z => ai (rfl : Z0) <| ai (g1 (decide_eq_false h12)) <| ai (g1 (decide_eq_false h12)) <| ai (g1 (decide_eq_false h12)) <| ai (g1 (decide_eq_false h12)) <| ai (decide_eq_false h12) <| ai ((congrArg (fun z => z == false) rfl) : (false == false) = true) <| ai ((congrArg (fun z => z == false) rfl) : (false == false) = true) <| ai (rfl : Z0) <| ai ((congrArg (fun z => z == false) rfl) : (false == false) = true) <| ai ((congrArg (fun z => z == false) rfl) : (false == false) = true) <| ai (g1 (decide_eq_true h13)) <| ai (g1 (decide_eq_true h13)) <| ai (rfl : Z0) <| ai (g1 (decide_eq_true h13)) <| ai (map_len eExprT y7.Args) <| ai (g1 (decide_eq_true h13)) <| ai ((congrArg (fun z => z == false) rfl) : (false == false) = true) <| ai (decide_eq_true h13) <| ai ff <| z) (by kernel_rfl))) (fun h13 h => lf h (opsKI [.b true, .b false, .b false, .b false, .b false, .b false, .b true, .b true, .b true, .b true, .b true, .b false, .b false, .b false, .b false, .b true, .b false, .b false] (fun z => ai (rfl : Z0) <| ai (g1 (decide_eq_false h12)) <| ai (g1 (decide_eq_false h12)) <| ai (g1 (decide_eq_false h12)) <| ai (g1 (decide_eq_false h12)) <| ai (decide_eq_false h12) <| ai ((congrArg (fun z => z == false) rfl) : (false == false) = true) <| ai ((congrArg (fun z => z == false) rfl) : (false == false) = true) <| ai (rfl : Z0) <| ai ((congrArg (fun z => z == false) rfl) : (false == false) = true) <| ai ((congrArg (fun z => z == false) rfl) : (false == false) = true) <| ai (g1 (decide_eq_false h13)) <| ai (g1 (decide_eq_false h13)) <| ai (g1 (decide_eq_false h13)) <| ai (g1 (decide_eq_false h13)) <| ai ((congrArg (fun z => z == false) rfl) : (false == false) = true) <| ai (decide_eq_false h13) <| ai ff <| z) (by kernel_rfl))))
noncomputable def q_R_CheckExpr_j2 : List GOp := ⟨some 47, .fa 0 (.t 7), none, false⟩ :: ⟨some 48, .ld none (.t 47), none, false⟩ :: ⟨some 49, .bo .eql false (.t 48) (.c (I 1)), none, false⟩ :: ⟨some 50, .mv (.t 49), none, false⟩ :: ⟨some 51, .fa 1 (.t 7), some ⟨50, true⟩, false⟩ :: ⟨some 52, .ld none (.t 51), some ⟨50, true⟩, false⟩ :: ⟨some 53, .ca 0 33 [(.t 52), (.c (I (-9999999))), (.c (I 9999999))], some ⟨50, true⟩, false⟩ :: ⟨some 54, .no (.t 53), some ⟨50, true⟩, false⟩ :: ⟨some 55, .pk (.t 50) (.t 54) (.c (.b false)), none, false⟩ :: ⟨some 56, .mv (.t 55), none, false⟩ :: ⟨some 57, .fa 0 (.t 7), some ⟨56, false⟩, false⟩ :: ⟨some 58, .ld none (.t 57), some ⟨56, false⟩, false⟩ :: ⟨some 59, .bo .gtr false (.t 58) (.c (I 2)), some ⟨56, false⟩, false⟩ :: ⟨some 60, .mv (.t 59), some ⟨56, false⟩, false⟩ :: ⟨some 61, .fa 1 (.t 7), some ⟨60, true⟩, false⟩ :: ⟨some 62, .ld none (.t 61), some ⟨60, true⟩, false⟩ :: ⟨some 63, .bo .neq false (.t 62) (.c (I 0)), some ⟨60, true⟩, false⟩ :: ⟨some 64, .pk (.t 60) (.t 63) (.c (.b false)), some ⟨56, false⟩, false⟩ :: ⟨some 65, .pk (.t 56) (.c (.b true)) (.t 64), none, false⟩ :: []
noncomputable def D_R_CheckExpr_j2 (a1 : Int) (r4 : (List ExprT)) (v0_6 : Nat) (y7 : ExprT) : Option (Unit ⊕ (Unit ⊕ Unit)) :=
  if (y7.Kind == 1) = true then
    (F_R_between y7.N (-9999999) 9999999).bind fun (r17 : Bool) =>
    if r17 = true then
      if 2 < y7.Kind then
        some (.inl ())
      else
        some (.inr (.inl ()))
    else
      some (.inr (.inr ()))
  else
    if 2 < y7.Kind then
      some (.inl ())
    else
      some (.inr (.inl ()))
abbrev X_R_CheckExpr_j2 (a1 : Int) (r4 : (List ExprT)) (v0_6 : Nat) (y7 : ExprT) (x : (Unit ⊕ (Unit ⊕ Unit))) : St := match x with | .inl () => ⟨[(1, (I a1)), (5, (.l 24 (r4.map eExprT))), (6, (I (v0_6 : Int))), (7, (.p ⟨0, 7⟩ 0)), (65, (.b (y7.N != 0)))], [(7, (kExprT y7))], H0⟩ | .inr (.inl ()) => ⟨[(1, (I a1)), (5, (.l 24 (r4.map eExprT))), (6, (I (v0_6 : Int))), (7, (.p ⟨0, 7⟩ 0)), (65, (.b false))], [(7, (kExprT y7))], H0⟩ | .inr (.inr ()) => ⟨[(1, (I a1)), (5, (.l 24 (r4.map eExprT))), (6, (I (v0_6 : Int))), (7, (.p ⟨0, 7⟩ 0)), (65, (.b true))], [(7, (kExprT y7))], H0⟩
abbrev O_R_CheckExpr_j2 (a1 : Int) (r4 : (List ExprT)) (v0_6 : Nat) (y7 : ExprT) (x : (Unit ⊕ (Unit ⊕ Unit))) : Prop := opsK G Ω0 E0 [1, 5, 6, 7, 65] [7] q_R_CheckExpr_j2 ⟨[(1, (I a1)), (5, (.l 24 (r4.map eExprT))), (6, (I (v0_6 : Int))), (7, (.p ⟨0, 7⟩ 0))], [(7, (kExprT y7))], H0⟩ = some (X_R_CheckExpr_j2 a1 r4 v0_6 y7 x)
theorem LD_R_CheckExpr_j2 (a1 : Int) (r4 : (List ExprT)) (v0_6 : Nat) (y7 : ExprT) (x : (Unit ⊕ (Unit ⊕ Unit))) (h : D_R_CheckExpr_j2 a1 r4 v0_6 y7 = some x) : O_R_CheckExpr_j2 a1 r4 v0_6 y7 x :=
  have lf := fun {a} => leafO (P := O_R_CheckExpr_j2 a1 r4 v0_6 y7) (a := a) (r := x)
  iteB h (fun h16 h => bindP h fun r17 ek18 h => have ek18 := lift_R_between y7.N (-9999999) 9999999 _ ek18; iteB h (fun h19 h => iteP h (fun h20 h => lf h (opsKI [.b true, .b true, .b true, .b true, .b true, .v (.b r17), .b true, .b true, .b true, .b true, .b true, .b true, .b true, .b true, .b true, .b true, .b true, .b true, .b true, .b false] (fun z => ai (rfl : Z0) <| ai (g1 h16) <| ai (g1 h16) <| ai (rfl : Z0) <| ai (g1 h16) <| ai ek18 <| ai (g1 h16) <| ai h16 <| ai (g0 (congrArg not h19)) <| ai (g0 (congrArg not h19)) <| ai (rfl : Z0) <| ai (g0 (congrArg not h19)) <| ai (g0 (congrArg not h19)) <| ai (g1 (decide_eq_true h20)) <| ai (g1 (decide_eq_true h20)) <| ai (rfl : Z0) <| ai (g1 (decide_eq_true h20)) <| ai (g0 (congrArg not h19)) <| ai (decide_eq_true h20) <| ai (congrArg not h19) <| z) (by kernel_rfl))) (fun h20 h => lf h (opsKI [.b true, .b true, .b true, .b true, .b true, .v (.b r17), .b true, .b true, .b true, .b true, .b true, .b true, .b true, .b false, .b false, .b false, .b true, .b false, .b false] (fun z => ai (rfl : Z0) <| ai (g1 h16) <| ai (g1 h16) <| ai (rfl : Z0) <| ai (g1 h16) <| ai ek18 <| ai (g1 h16) <| ai h16 <| ai (g0 (congrArg not h19)) <| ai (g0 (congrArg not h19)) <| ai (rfl : Z0) <| ai (g0 (congrArg not h19)) <| ai (g0 (congrArg not h19)) <| ai (g1 (decide_eq_false h20)) <| ai (g1 (decide_eq_false h20)) <| ai (g1 (decide_eq_false h20)) <| ai (g0 (congrArg not h19)) <| ai (decide_eq_false h20) <| ai (congrArg not h19) <| z) (by kernel_rfl)))) (fun h19 h => lf h (opsKI [.b true, .b true, .b true, .b true, .b true, .v (.b r17), .b true, .b true, .b false, .b false, .b false, .b false, .b false, .b true] (fun z => ai (rfl : Z0) <| ai (g1 h16) <| ai (g1 h16) <| ai (rfl : Z0) <| ai (g1 h16) <| ai ek18 <| ai (g1 h16) <| ai h16 <| ai (g0 (congrArg not h19)) <| ai (g0 (congrArg not h19)) <| ai (g0 (congrArg not h19)) <| ai (g0 (congrArg not h19)) <| ai (g0 (congrArg not h19)) <| ai (congrArg not h19) <| z) (by kernel_rfl)))) (fun h16 h => iteP h (fun h17 h => lf h (opsKI [.b true, .b false, .b false, .b false, .b false, .b false, .b true, .b true, .b true, .b true, .b true, .b true, .b true, .b true, .b true, .b true, .b true, .b false] (fun z => ai (rfl : Z0) <| ai (g1 h16) <| ai (g1 h16) <| ai (g1 h16) <| ai (g1 h16) <| ai h16 <| ai ((congrArg (fun z => z == false) rfl) : (false == false) = true) <| ai ((congrArg (fun z => z == false) rfl) : (false == false) = true) <| ai (rfl : Z0) <| ai ((congrArg (fun z => z == false) rfl) : (false == false) = true) <| ai ((congrArg (fun z => z == false) rfl) : (false == false) = true) <| ai (g1 (decide_eq_true h17)) <| ai (g1 (decide_eq_true h17)) <| ai (rfl : Z0) <| ai (g1 (decide_eq_true h17)) <| ai ((congrArg (fun z => z == false) rfl) : (false == false) = true) <| ai (decide_eq_true h17) <| ai ff <| z) (by kernel_rfl))) (fun h17 h => lf h (opsKI [.b true, .b false, .b false, .b false, .b false, .b false, .b true, .b true, .b true, .b true, .b true, .b false, .b false, .b false, .b true, .b false, .b false] (fun z => ai (rfl : Z0) <| ai (g1 h16) <| ai (g1 h16) <| ai (g1 h16) <| ai (g1 h16) <| ai h16 <| ai ((congrArg (fun z => z == false) rfl) : (false == false) = true) <| ai ((congrArg (fun z => z == false) rfl) : (false == false) = true) <| ai (rfl : Z0) <| ai ((congrArg (fun z => z == false) rfl) : (false == false) = true) <| ai ((congrArg (fun z => z == false) rfl) : (false == false) = true) <| ai (g1 (decide_eq_false h17)) <| ai (g1 (decide_eq_false h17)) <| ai (g1 (decide_eq_false h17)) <| ai ((congrArg (fun z => z == false) rfl) : (false == false) = true) <| ai (decide_eq_false h17) <| ai ff <| z) (by kernel_rfl))))
noncomputable def D_R_CheckExpr_d4 (a1 : Int) (r4 : (List ExprT)) (v0_6 : Nat) (y7 : ExprT) : Option (Bool ⊕ (Unit ⊕ Unit)) :=
  if (y7.Kind == 2) = true then
    if IntKind.i64.wrap (a1 - 1) = a1 - 1 then
      (F_R_between y7.N 0 (a1 - 1)).bind fun (r21 : Bool) =>
      if r21 = true then
        some (.inl !r21)
      else
        some (.inr (.inl ()))
    else none
  else
    some (.inr (.inr ()))
abbrev X_R_CheckExpr_d4 (a1 : Int) (r4 : (List ExprT)) (v0_6 : Nat) (y7 : ExprT) (x : (Bool ⊕ (Unit ⊕ Unit))) : AExit × St := match x with | .inl z1 => (.nrm, ⟨[(1, (I a1)), (5, (.l 24 (r4.map eExprT))), (6, (I (v0_6 : Int))), (76, (.b z1))], [], H0⟩) | .inr (.inl ()) => (.ret, ⟨[(4, (I 5))], [], H0⟩) | .inr (.inr ()) => (.nrm, ⟨[(1, (I a1)), (5, (.l 24 (r4.map eExprT))), (6, (I (v0_6 : Int))), (76, (.b false))], [], H0⟩)
abbrev O_R_CheckExpr_d4 (a1 : Int) (r4 : (List ExprT)) (v0_6 : Nat) (y7 : ExprT) (x : (Bool ⊕ (Unit ⊕ Unit))) : Prop := run G Ω0 E0 e18_4 ⟨[(1, (I a1)), (5, (.l 24 (r4.map eExprT))), (6, (I (v0_6 : Int))), (7, (.p ⟨0, 7⟩ 0))], [(7, (kExprT y7))], H0⟩ = some (X_R_CheckExpr_d4 a1 r4 v0_6 y7 x)
theorem LD_R_CheckExpr_d4 (a1 : Int) (r4 : (List ExprT)) (v0_6 : Nat) (y7 : ExprT) (x : (Bool ⊕ (Unit ⊕ Unit))) (h : D_R_CheckExpr_d4 a1 r4 v0_6 y7 = some x) : O_R_CheckExpr_d4 a1 r4 v0_6 y7 x :=
  have lf := fun {a} => leafO (P := O_R_CheckExpr_d4 a1 r4 v0_6 y7) (a := a) (r := x)
  iteB h (fun h19 h => asrtP h fun w20 h => bindP h fun r21 ek22 h => have ek22 := lift_R_between y7.N 0 (a1 - 1) _ ek22; iteB h (fun h23 h => lf h (runI [.b true, .b true, .b true, .b true, .b true, .b true, .i (a1 - 1), .b true, .v (.b r21), .b true, .b true, .b false] (fun z => ai (rfl : Z0) <| ai (g1 h19) <| ai (g1 h19) <| ai (rfl : Z0) <| ai (g1 h19) <| ai (g1 h19) <| ai w20 <| ai (g1 h19) <| ai ek22 <| ai (g1 h19) <| ai h19 <| ai (congrArg not h23) <| z) (by kernel_rfl))) (fun h23 h => lf h (runI [.b true, .b true, .b true, .b true, .b true, .b true, .i (a1 - 1), .b true, .v (.b r21), .b true, .b true, .b true] (fun z => ai (rfl : Z0) <| ai (g1 h19) <| ai (g1 h19) <| ai (rfl : Z0) <| ai (g1 h19) <| ai (g1 h19) <| ai w20 <| ai (g1 h19) <| ai ek22 <| ai (g1 h19) <| ai h19 <| ai (congrArg not h23) <| z) (by kernel_rfl)))) (fun h19 h => lf h (runI [.b true, .b false, .b false, .b false, .b false, .b false, .b false, .b false, .b false] (fun z => ai (rfl : Z0) <| ai (g1 h19) <| ai (g1 h19) <| ai (g1 h19) <| ai (g1 h19) <| ai (g1 h19) <| ai (g1 h19) <| ai h19 <| ai ff <| z) (by kernel_rfl)))
noncomputable def D_R_CheckExpr_d3 (a1 : Int) (r4 : (List ExprT)) (v0_6 : Nat) (y7 : ExprT) : Option (Unit ⊕ (Bool ⊕ (Unit ⊕ Unit))) :=
  (D_R_CheckExpr_j2 a1 r4 v0_6 y7).bind fun (x16 : (Unit ⊕ (Unit ⊕ Unit))) => match x16 with
  | .inl () =>
    if (y7.N != 0) = true then
      some (.inl ())
    else
      (D_R_CheckExpr_d4 a1 r4 v0_6 y7).bind fun (x19 : (Bool ⊕ (Unit ⊕ Unit))) => match x19 with
      | .inl y_20 =>
        some (.inr (.inl y_20))
      | .inr (.inl ()) =>
        some (.inr (.inr (.inl ())))
      | .inr (.inr ()) =>
        some (.inr (.inr (.inr ())))
  | .inr (.inl ()) =>
    (D_R_CheckExpr_d4 a1 r4 v0_6 y7).bind fun (x19 : (Bool ⊕ (Unit ⊕ Unit))) => match x19 with
    | .inl y_20 =>
      some (.inr (.inl y_20))
    | .inr (.inl ()) =>
      some (.inr (.inr (.inl ())))
    | .inr (.inr ()) =>
      some (.inr (.inr (.inr ())))
  | .inr (.inr ()) =>
    some (.inl ())
abbrev X_R_CheckExpr_d3 (a1 : Int) (r4 : (List ExprT)) (v0_6 : Nat) (y7 : ExprT) (x : (Unit ⊕ (Bool ⊕ (Unit ⊕ Unit)))) : AExit × St := match x with | .inl () => (.ret, ⟨[(4, (I 3))], [], H0⟩) | .inr (.inl z1) => (.nrm, ⟨[(1, (I a1)), (5, (.l 24 (r4.map eExprT))), (6, (I (v0_6 : Int))), (76, (.b z1))], [], H0⟩) | .inr (.inr (.inl ())) => (.ret, ⟨[(4, (I 5))], [], H0⟩) | .inr (.inr (.inr ())) => (.nrm, ⟨[(1, (I a1)), (5, (.l 24 (r4.map eExprT))), (6, (I (v0_6 : Int))), (76, (.b false))], [], H0⟩)
abbrev O_R_CheckExpr_d3 (a1 : Int) (r4 : (List ExprT)) (v0_6 : Nat) (y7 : ExprT) (x : (Unit ⊕ (Bool ⊕ (Unit ⊕ Unit)))) : Prop := run G Ω0 E0 e18_3 ⟨[(1, (I a1)), (5, (.l 24 (r4.map eExprT))), (6, (I (v0_6 : Int))), (7, (.p ⟨0, 7⟩ 0))], [(7, (kExprT y7))], H0⟩ = some (X_R_CheckExpr_d3 a1 r4 v0_6 y7 x)
theorem LD_R_CheckExpr_d3 (a1 : Int) (r4 : (List ExprT)) (v0_6 : Nat) (y7 : ExprT) (x : (Unit ⊕ (Bool ⊕ (Unit ⊕ Unit)))) (h : D_R_CheckExpr_d3 a1 r4 v0_6 y7 = some x) : O_R_CheckExpr_d3 a1 r4 v0_6 y7 x :=
  have lf := fun {a} => leafO (P := O_R_CheckExpr_d3 a1 r4 v0_6 y7) (a := a) (r := x)
  (bindP h fun x16 hx h => match x16, hx, h with | .inl (), jn17, h => have jn17 := LD_R_CheckExpr_j2 a1 r4 v0_6 y7 _ jn17; iteB h (fun h18 h => lf h (runI [.jn (some 47) 18 ⟨[(1, (I a1)), (5, (.l 24 (r4.map eExprT))), (6, (I (v0_6 : Int))), (7, (.p ⟨0, 7⟩ 0)), (65, (.b (y7.N != 0)))], [(7, (kExprT y7))], H0⟩, .b true] (fun z => ai jn17 <| ai h18 <| z) (by kernel_rfl))) (fun h18 h => (bindP h fun x19 hx h => match x19, hx, h with | .inl y_20, fr21, h => have fr21 := LD_R_CheckExpr_d4 a1 r4 v0_6 y7 _ fr21; lf h (runI [.jn (some 47) 18 ⟨[(1, (I a1)), (5, (.l 24 (r4.map eExprT))), (6, (I (v0_6 : Int))), (7, (.p ⟨0, 7⟩ 0)), (65, (.b (y7.N != 0)))], [(7, (kExprT y7))], H0⟩, .b false, .fr .nrm ⟨[(1, (I a1)), (5, (.l 24 (r4.map eExprT))), (6, (I (v0_6 : Int))), (76, (.b y_20))], [], H0⟩] (fun z => ai jn17 <| ai h18 <| ai fr21 <| z) (by kernel_rfl)) | .inr (.inl ()), fr20, h => have fr20 := LD_R_CheckExpr_d4 a1 r4 v0_6 y7 _ fr20; lf h (runI [.jn (some 47) 18 ⟨[(1, (I a1)), (5, (.l 24 (r4.map eExprT))), (6, (I (v0_6 : Int))), (7, (.p ⟨0, 7⟩ 0)), (65, (.b (y7.N != 0)))], [(7, (kExprT y7))], H0⟩, .b false, .fr .ret ⟨[(4, (I 5))], [], H0⟩] (fun z => ai jn17 <| ai h18 <| ai fr20 <| z) (by kernel_rfl)) | .inr (.inr ()), fr20, h => have fr20 := LD_R_CheckExpr_d4 a1 r4 v0_6 y7 _ fr20; lf h (runI [.jn (some 47) 18 ⟨[(1, (I a1)), (5, (.l 24 (r4.map eExprT))), (6, (I (v0_6 : Int))), (7, (.p ⟨0, 7⟩ 0)), (65, (.b (y7.N != 0)))], [(7, (kExprT y7))], H0⟩, .b false, .fr .nrm ⟨[(1, (I a1)), (5, (.l 24 (r4.map eExprT))), (6, (I (v0_6 : Int))), (76, (.b false))], [], H0⟩] (fun z => ai jn17 <| ai h18 <| ai fr20 <| z) (by kernel_rfl)))) | .inr (.inl ()), jn18, h => have jn18 := LD_R_CheckExpr_j2 a1 r4 v0_6 y7 _ jn18; (bindP h fun x19 hx h => match x19, hx, h with | .inl y_20, fr21, h => have fr21 := LD_R_CheckExpr_d4 a1 r4 v0_6 y7 _ fr21; lf h (runI [.jn (some 47) 18 ⟨[(1, (I a1)), (5, (.l 24 (r4.map eExprT))), (6, (I (v0_6 : Int))), (7, (.p ⟨0, 7⟩ 0)), (65, (.b false))], [(7, (kExprT y7))], H0⟩, .b false, .fr .nrm ⟨[(1, (I a1)), (5, (.l 24 (r4.map eExprT))), (6, (I (v0_6 : Int))), (76, (.b y_20))], [], H0⟩] (fun z => ai jn18 <| ai ff <| ai fr21 <| z) (by kernel_rfl)) | .inr (.inl ()), fr20, h => have fr20 := LD_R_CheckExpr_d4 a1 r4 v0_6 y7 _ fr20; lf h (runI [.jn (some 47) 18 ⟨[(1, (I a1)), (5, (.l 24 (r4.map eExprT))), (6, (I (v0_6 : Int))), (7, (.p ⟨0, 7⟩ 0)), (65, (.b false))], [(7, (kExprT y7))], H0⟩, .b false, .fr .ret ⟨[(4, (I 5))], [], H0⟩] (fun z => ai jn18 <| ai ff <| ai fr20 <| z) (by kernel_rfl)) | .inr (.inr ()), fr20, h => have fr20 := LD_R_CheckExpr_d4 a1 r4 v0_6 y7 _ fr20; lf h (runI [.jn (some 47) 18 ⟨[(1, (I a1)), (5, (.l 24 (r4.map eExprT))), (6, (I (v0_6 : Int))), (7, (.p ⟨0, 7⟩ 0)), (65, (.b false))], [(7, (kExprT y7))], H0⟩, .b false, .fr .nrm ⟨[(1, (I a1)), (5, (.l 24 (r4.map eExprT))), (6, (I (v0_6 : Int))), (76, (.b false))], [], H0⟩] (fun z => ai jn18 <| ai ff <| ai fr20 <| z) (by kernel_rfl))) | .inr (.inr ()), jn19, h => have jn19 := LD_R_CheckExpr_j2 a1 r4 v0_6 y7 _ jn19; lf h (runI [.jn (some 47) 18 ⟨[(1, (I a1)), (5, (.l 24 (r4.map eExprT))), (6, (I (v0_6 : Int))), (7, (.p ⟨0, 7⟩ 0)), (65, (.b true))], [(7, (kExprT y7))], H0⟩, .b true] (fun z => ai jn19 <| ai tt <| z) (by kernel_rfl)))
noncomputable def B_R_CheckExpr_0 (a1 : Int) (r4 : (List ExprT)) (v0_6 : Nat) : Option (Nat ⊕ (Unit ⊕ (Unit ⊕ (Unit ⊕ (Unit ⊕ (Nat × Bool)))))) :=
  if (v0_6 : Int) < (r4.length : Int) then
    (r4[v0_6]?).bind fun (y7 : ExprT) =>
    (F_R_between y7.Kind 1 7).bind fun (r9 : Bool) =>
    if r9 = true then
      (D_R_CheckExpr_j1 a1 r4 v0_6 y7).bind fun (x12 : (Unit ⊕ (Unit ⊕ Unit))) => match x12 with
      | .inl () =>
        some (.inr (.inl ()))
      | .inr (.inl ()) =>
        if ((y7.Args.length : Int) != 2) = true then
          some (.inr (.inl ()))
        else
          (D_R_CheckExpr_d3 a1 r4 v0_6 y7).bind fun (x16 : (Unit ⊕ (Bool ⊕ (Unit ⊕ Unit)))) => match x16 with
          | .inl () =>
            some (.inr (.inr (.inl ())))
          | .inr (.inl y_17) =>
            if IntKind.i64.wrap ((v0_6 : Int) + 1) = ((v0_6 + 1 : Nat) : Int) then
              some (.inl (v0_6 + 1))
            else none
          | .inr (.inr (.inl ())) =>
            some (.inr (.inr (.inr (.inl ()))))
          | .inr (.inr (.inr ())) =>
            if IntKind.i64.wrap ((v0_6 : Int) + 1) = ((v0_6 + 1 : Nat) : Int) then
              some (.inl (v0_6 + 1))
            else none
      | .inr (.inr ()) =>
        (D_R_CheckExpr_d3 a1 r4 v0_6 y7).bind fun (x16 : (Unit ⊕ (Bool ⊕ (Unit ⊕ Unit)))) => match x16 with
        | .inl () =>
          some (.inr (.inr (.inl ())))
        | .inr (.inl y_17) =>
          if IntKind.i64.wrap ((v0_6 : Int) + 1) = ((v0_6 + 1 : Nat) : Int) then
            some (.inl (v0_6 + 1))
          else none
        | .inr (.inr (.inl ())) =>
          some (.inr (.inr (.inr (.inl ()))))
        | .inr (.inr (.inr ())) =>
          if IntKind.i64.wrap ((v0_6 : Int) + 1) = ((v0_6 + 1 : Nat) : Int) then
            some (.inl (v0_6 + 1))
          else none
    else
      some (.inr (.inr (.inr (.inr (.inl ())))))
  else
    some (.inr (.inr (.inr (.inr (.inr (v0_6, decide ((v0_6 : Int) < (r4.length : Int))))))))
abbrev S_R_CheckExpr_0 (a1 : Int) (r4 : (List ExprT)) (v : Nat) : St := ⟨[(1, (I a1)), (5, (.l 24 (r4.map eExprT))), (6, (I (v : Int)))], [], H0⟩
abbrev X_R_CheckExpr_0 (a1 : Int) (r4 : (List ExprT)) (x : (Unit ⊕ (Unit ⊕ (Unit ⊕ (Unit ⊕ (Nat × Bool)))))) : AExit × St := match x with | .inl () => (.ret, ⟨[(4, (I 1))], [], H0⟩) | .inr (.inl ()) => (.ret, ⟨[(4, (I 3))], [], H0⟩) | .inr (.inr (.inl ())) => (.ret, ⟨[(4, (I 5))], [], H0⟩) | .inr (.inr (.inr (.inl ()))) => (.ret, ⟨[(4, (I 7))], [], H0⟩) | .inr (.inr (.inr (.inr (z1, z2)))) => ((.ex 0), ⟨[(1, (I a1)), (5, (.l 24 (r4.map eExprT))), (6, (I (z1 : Int))), (16, (.b z2))], [], H0⟩)
theorem LB_R_CheckExpr_0 (a1 : Int) (r4 : (List ExprT)) (v0_6 : Nat) (o : Nat ⊕ (Unit ⊕ (Unit ⊕ (Unit ⊕ (Unit ⊕ (Nat × Bool)))))) (h : B_R_CheckExpr_0 a1 r4 v0_6 = some o) : bodyOK E0 c18_0 (S_R_CheckExpr_0 a1 r4) (X_R_CheckExpr_0 a1 r4) v0_6 o :=
  have lf := fun {a} => leafO (P := bodyOK E0 c18_0 (S_R_CheckExpr_0 a1 r4) (X_R_CheckExpr_0 a1 r4) v0_6) (a := a) (r := o)
  iteP h (fun h6 h => bindP h fun y7 h8 h => bindP h fun r9 ek10 h => have ek10 := lift_R_between y7.Kind 1 7 _ ek10; iteB h (fun h11 h => (bindP h fun x12 hx h => match x12, hx, h with | .inl (), jn13, h => have jn13 := LD_R_CheckExpr_j1 a1 r4 v0_6 y7 _ jn13; lf h ⟨(runI [.i (r4.length : Int), .b true, .n v0_6, .v (.a (kExprT y7)), .b true, .b true, .b true, .v (.b r9), .b false, .jn (some 27) 19 ⟨[(1, (I a1)), (5, (.l 24 (r4.map eExprT))), (6, (I (v0_6 : Int))), (7, (.p ⟨0, 7⟩ 0)), (46, (.b true))], [(7, (kExprT y7))], H0⟩, .b true] (fun z => ai (map_len eExprT r4) <| ai (decide_eq_true h6) <| ai (rfl : (v0_6 : Int) = (v0_6 : Int)) <| ai (map_getE eExprT h8 (eExprT_eq _)) <| ai tt <| ai ff <| ai (rfl : Z0) <| ai tt <| ai (rfl : Z0) <| ai (rfl : Z0) <| ai ek10 <| ai (congrArg not h11) <| ai jn13 <| ai tt <| z) (by kernel_rfl)), ne_ret⟩ | .inr (.inl ()), jn14, h => have jn14 := LD_R_CheckExpr_j1 a1 r4 v0_6 y7 _ jn14; iteB h (fun h15 h => lf h ⟨(runI [.i (r4.length : Int), .b true, .n v0_6, .v (.a (kExprT y7)), .b true, .b true, .b true, .v (.b r9), .b false, .jn (some 27) 19 ⟨[(1, (I a1)), (5, (.l 24 (r4.map eExprT))), (6, (I (v0_6 : Int))), (7, (.p ⟨0, 7⟩ 0)), (46, (.b ((y7.Args.length : Int) != 2)))], [(7, (kExprT y7))], H0⟩, .b true] (fun z => ai (map_len eExprT r4) <| ai (decide_eq_true h6) <| ai (rfl : (v0_6 : Int) = (v0_6 : Int)) <| ai (map_getE eExprT h8 (eExprT_eq _)) <| ai tt <| ai ff <| ai (rfl : Z0) <| ai tt <| ai (rfl : Z0) <| ai (rfl : Z0) <| ai ek10 <| ai (congrArg not h11) <| ai jn14 <| ai h15 <| z) (by kernel_rfl)), ne_ret⟩) (fun h15 h => (bindP h fun x16 hx h => match x16, hx, h with | .inl (), fr17, h => have fr17 := LD_R_CheckExpr_d3 a1 r4 v0_6 y7 _ fr17; lf h ⟨(runI [.i (r4.length : Int), .b true, .n v0_6, .v (.a (kExprT y7)), .b true, .b true, .b true, .v (.b r9), .b false, .jn (some 27) 19 ⟨[(1, (I a1)), (5, (.l 24 (r4.map eExprT))), (6, (I (v0_6 : Int))), (7, (.p ⟨0, 7⟩ 0)), (46, (.b ((y7.Args.length : Int) != 2)))], [(7, (kExprT y7))], H0⟩, .b false, .fr .ret ⟨[(4, (I 3))], [], H0⟩] (fun z => ai (map_len eExprT r4) <| ai (decide_eq_true h6) <| ai (rfl : (v0_6 : Int) = (v0_6 : Int)) <| ai (map_getE eExprT h8 (eExprT_eq _)) <| ai tt <| ai ff <| ai (rfl : Z0) <| ai tt <| ai (rfl : Z0) <| ai (rfl : Z0) <| ai ek10 <| ai (congrArg not h11) <| ai jn14 <| ai h15 <| ai fr17 <| z) (by kernel_rfl)), ne_ret⟩ | .inr (.inl y_17), fr18, h => have fr18 := LD_R_CheckExpr_d3 a1 r4 v0_6 y7 _ fr18; asrtP h fun w19 h => lf h (roundI [.i (r4.length : Int), .b true, .n v0_6, .v (.a (kExprT y7)), .b true, .b true, .b true, .v (.b r9), .b false, .jn (some 27) 19 ⟨[(1, (I a1)), (5, (.l 24 (r4.map eExprT))), (6, (I (v0_6 : Int))), (7, (.p ⟨0, 7⟩ 0)), (46, (.b ((y7.Args.length : Int) != 2)))], [(7, (kExprT y7))], H0⟩, .b false, .fr .nrm ⟨[(1, (I a1)), (5, (.l 24 (r4.map eExprT))), (6, (I (v0_6 : Int))), (76, (.b y_17))], [], H0⟩, .i ((v0_6 + 1 : Nat) : Int)] (fun z => ai (map_len eExprT r4) <| ai (decide_eq_true h6) <| ai (rfl : (v0_6 : Int) = (v0_6 : Int)) <| ai (map_getE eExprT h8 (eExprT_eq _)) <| ai tt <| ai ff <| ai (rfl : Z0) <| ai tt <| ai (rfl : Z0) <| ai (rfl : Z0) <| ai ek10 <| ai (congrArg not h11) <| ai jn14 <| ai h15 <| ai fr18 <| ai w19 <| z) (by kernel_rfl)) | .inr (.inr (.inl ())), fr17, h => have fr17 := LD_R_CheckExpr_d3 a1 r4 v0_6 y7 _ fr17; lf h ⟨(runI [.i (r4.length : Int), .b true, .n v0_6, .v (.a (kExprT y7)), .b true, .b true, .b true, .v (.b r9), .b false, .jn (some 27) 19 ⟨[(1, (I a1)), (5, (.l 24 (r4.map eExprT))), (6, (I (v0_6 : Int))), (7, (.p ⟨0, 7⟩ 0)), (46, (.b ((y7.Args.length : Int) != 2)))], [(7, (kExprT y7))], H0⟩, .b false, .fr .ret ⟨[(4, (I 5))], [], H0⟩] (fun z => ai (map_len eExprT r4) <| ai (decide_eq_true h6) <| ai (rfl : (v0_6 : Int) = (v0_6 : Int)) <| ai (map_getE eExprT h8 (eExprT_eq _)) <| ai tt <| ai ff <| ai (rfl : Z0) <| ai tt <| ai (rfl : Z0) <| ai (rfl : Z0) <| ai ek10 <| ai (congrArg not h11) <| ai jn14 <| ai h15 <| ai fr17 <| z) (by kernel_rfl)), ne_ret⟩ | .inr (.inr (.inr ())), fr17, h => have fr17 := LD_R_CheckExpr_d3 a1 r4 v0_6 y7 _ fr17; asrtP h fun w18 h => lf h (roundI [.i (r4.length : Int), .b true, .n v0_6, .v (.a (kExprT y7)), .b true, .b true, .b true, .v (.b r9), .b false, .jn (some 27) 19 ⟨[(1, (I a1)), (5, (.l 24 (r4.map eExprT))), (6, (I (v0_6 : Int))), (7, (.p ⟨0, 7⟩ 0)), (46, (.b ((y7.Args.length : Int) != 2)))], [(7, (kExprT y7))], H0⟩, .b false, .fr .nrm ⟨[(1, (I a1)), (5, (.l 24 (r4.map eExprT))), (6, (I (v0_6 : Int))), (76, (.b false))], [], H0⟩, .i ((v0_6 + 1 : Nat) : Int)] (fun z => ai (map_len eExprT r4) <| ai (decide_eq_true h6) <| ai (rfl : (v0_6 : Int) = (v0_6 : Int)) <| ai (map_getE eExprT h8 (eExprT_eq _)) <| ai tt <| ai ff <| ai (rfl : Z0) <| ai tt <| ai (rfl : Z0) <| ai (rfl : Z0) <| ai ek10 <| ai (congrArg not h11) <| ai jn14 <| ai h15 <| ai fr17 <| ai w18 <| z) (by kernel_rfl)))) | .inr (.inr ()), jn15, h => have jn15 := LD_R_CheckExpr_j1 a1 r4 v0_6 y7 _ jn15; (bindP h fun x16 hx h => match x16, hx, h with | .inl (), fr17, h => have fr17 := LD_R_CheckExpr_d3 a1 r4 v0_6 y7 _ fr17; lf h ⟨(runI [.i (r4.length : Int), .b true, .n v0_6, .v (.a (kExprT y7)), .b true, .b true, .b true, .v (.b r9), .b false, .jn (some 27) 19 ⟨[(1, (I a1)), (5, (.l 24 (r4.map eExprT))), (6, (I (v0_6 : Int))), (7, (.p ⟨0, 7⟩ 0)), (46, (.b false))], [(7, (kExprT y7))], H0⟩, .b false, .fr .ret ⟨[(4, (I 3))], [], H0⟩] (fun z => ai (map_len eExprT r4) <| ai (decide_eq_true h6) <| ai (rfl : (v0_6 : Int) = (v0_6 : Int)) <| ai (map_getE eExprT h8 (eExprT_eq _)) <| ai tt <| ai ff <| ai (rfl : Z0) <| ai tt <| ai (rfl : Z0) <| ai (rfl : Z0) <| ai ek10 <| ai (congrArg not h11) <| ai jn15 <| ai ff <| ai fr17 <| z) (by kernel_rfl)), ne_ret⟩ | .inr (.inl y_17), fr18, h => have fr18 := LD_R_CheckExpr_d3 a1 r4 v0_6 y7 _ fr18; asrtP h fun w19 h => lf h (roundI [.i (r4.length : Int), .b true, .n v0_6, .v (.a (kExprT y7)), .b true, .b true, .b true, .v (.b r9), .b false, .jn (some 27) 19 ⟨[(1, (I a1)), (5, (.l 24 (r4.map eExprT))), (6, (I (v0_6 : Int))), (7, (.p ⟨0, 7⟩ 0)), (46, (.b false))], [(7, (kExprT y7))], H0⟩, .b false, .fr .nrm ⟨[(1, (I a1)), (5, (.l 24 (r4.map eExprT))), (6, (I (v0_6 : Int))), (76, (.b y_17))], [], H0⟩, .i ((v0_6 + 1 : Nat) : Int)] (fun z => ai (map_len eExprT r4) <| ai (decide_eq_true h6) <| ai (rfl : (v0_6 : Int) = (v0_6 : Int)) <| ai (map_getE eExprT h8 (eExprT_eq _)) <| ai tt <| ai ff <| ai (rfl : Z0) <| ai tt <| ai (rfl : Z0) <| ai (rfl : Z0) <| ai ek10 <| ai (congrArg not h11) <| ai jn15 <| ai ff <| ai fr18 <| ai w19 <| z) (by kernel_rfl)) | .inr (.inr (.inl ())), fr17, h => have fr17 := LD_R_CheckExpr_d3 a1 r4 v0_6 y7 _ fr17; lf h ⟨(runI [.i (r4.length : Int), .b true, .n v0_6, .v (.a (kExprT y7)), .b true, .b true, .b true, .v (.b r9), .b false, .jn (some 27) 19 ⟨[(1, (I a1)), (5, (.l 24 (r4.map eExprT))), (6, (I (v0_6 : Int))), (7, (.p ⟨0, 7⟩ 0)), (46, (.b false))], [(7, (kExprT y7))], H0⟩, .b false, .fr .ret ⟨[(4, (I 5))], [], H0⟩] (fun z => ai (map_len eExprT r4) <| ai (decide_eq_true h6) <| ai (rfl : (v0_6 : Int) = (v0_6 : Int)) <| ai (map_getE eExprT h8 (eExprT_eq _)) <| ai tt <| ai ff <| ai (rfl : Z0) <| ai tt <| ai (rfl : Z0) <| ai (rfl : Z0) <| ai ek10 <| ai (congrArg not h11) <| ai jn15 <| ai ff <| ai fr17 <| z) (by kernel_rfl)), ne_ret⟩ | .inr (.inr (.inr ())), fr17, h => have fr17 := LD_R_CheckExpr_d3 a1 r4 v0_6 y7 _ fr17; asrtP h fun w18 h => lf h (roundI [.i (r4.length : Int), .b true, .n v0_6, .v (.a (kExprT y7)), .b true, .b true, .b true, .v (.b r9), .b false, .jn (some 27) 19 ⟨[(1, (I a1)), (5, (.l 24 (r4.map eExprT))), (6, (I (v0_6 : Int))), (7, (.p ⟨0, 7⟩ 0)), (46, (.b false))], [(7, (kExprT y7))], H0⟩, .b false, .fr .nrm ⟨[(1, (I a1)), (5, (.l 24 (r4.map eExprT))), (6, (I (v0_6 : Int))), (76, (.b false))], [], H0⟩, .i ((v0_6 + 1 : Nat) : Int)] (fun z => ai (map_len eExprT r4) <| ai (decide_eq_true h6) <| ai (rfl : (v0_6 : Int) = (v0_6 : Int)) <| ai (map_getE eExprT h8 (eExprT_eq _)) <| ai tt <| ai ff <| ai (rfl : Z0) <| ai tt <| ai (rfl : Z0) <| ai (rfl : Z0) <| ai ek10 <| ai (congrArg not h11) <| ai jn15 <| ai ff <| ai fr17 <| ai w18 <| z) (by kernel_rfl))))) (fun h11 h => lf h ⟨(runI [.i (r4.length : Int), .b true, .n v0_6, .v (.a (kExprT y7)), .b true, .b true, .b true, .v (.b r9), .b true] (fun z => ai (map_len eExprT r4) <| ai (decide_eq_true h6) <| ai (rfl : (v0_6 : Int) = (v0_6 : Int)) <| ai (map_getE eExprT h8 (eExprT_eq _)) <| ai tt <| ai ff <| ai (rfl : Z0) <| ai tt <| ai (rfl : Z0) <| ai (rfl : Z0) <| ai ek10 <| ai (congrArg not h11) <| z) (by kernel_rfl)), ne_ret⟩)) (fun h6 h => lf h ⟨(runI [.i (r4.length : Int), .b false] (fun z => ai (map_len eExprT r4) <| ai (decide_eq_false h6) <| z) (by kernel_rfl)), ne_ex _⟩)
theorem LL_R_CheckExpr_0 (a1 : Int) (r4 : (List ExprT)) (v : Nat) (x : (Unit ⊕ (Unit ⊕ (Unit ⊕ (Unit ⊕ (Nat × Bool)))))) (h : lp (fun v => B_R_CheckExpr_0 a1 r4 v) v = some x) : lpAt G Ω0 E0 c18_0 (S_R_CheckExpr_0 a1 r4 v) = some (X_R_CheckExpr_0 a1 r4 x) :=
  lp_lift c18_0 (S_R_CheckExpr_0 a1 r4) (X_R_CheckExpr_0 a1 r4) (fun _ => rfl) (fun v o h => LB_R_CheckExpr_0 a1 r4 v o h) h
abbrev O_R_CheckExpr (a0 : ExprT) (a1 : Int) (r : Int) : Prop := call G Ω0 E0 18 [(.a (kExprT a0)), (I a1)] H0 = some (.ret (I r), H0)
noncomputable def F_R_CheckExpr (a0 : ExprT) (a1 : Int) : Option Int :=
  (F_R_exprParts a0 15).bind fun (r1 : Int) =>
  if 15 < r1 then
    some 2
  else
    (F_R_allParts a0).bind fun (r4 : (List ExprT)) =>
    (lp (fun v => B_R_CheckExpr_0 a1 r4 v) 0).bind fun (x6 : (Unit ⊕ (Unit ⊕ (Unit ⊕ (Unit ⊕ (Nat × Bool)))))) => match x6 with
    | .inl () =>
      some 1
    | .inr (.inl ()) =>
      some 3
    | .inr (.inr (.inl ())) =>
      some 5
    | .inr (.inr (.inr (.inl ()))) =>
      some 7
    | .inr (.inr (.inr (.inr (y_7, y_8)))) =>
      some 0
theorem lift_R_CheckExpr (a0 : ExprT) (a1 : Int) (r : Int) (h : F_R_CheckExpr a0 a1 = some r) : O_R_CheckExpr a0 a1 r :=
  have lf := fun {a} => leafO (P := O_R_CheckExpr a0 a1) (a := a) (r := r)
  bindP h fun r1 ek2 h => have ek2 := lift_R_exprParts a0 15 _ ek2; iteP h (fun h3 h => lf h (callI G18 [.b true, .v (I r1), .b true] (fun z => ai tt <| ai (rfl : Z0) <| ai ek2 <| ai (decide_eq_true h3) <| z) (by kernel_rfl))) (fun h3 h => bindP h fun r4 ek5 h => have ek5 := lift_R_allParts a0 _ ek5; (bindP h fun x6 hx h => match x6, hx, h with | .inl (), lp7, h => have lp7 := LL_R_CheckExpr_0 a1 r4 0 _ lp7; lf h (callI G18 [.b true, .v (I r1), .b false, .b true, .v (.l 24 (r4.map eExprT)), .lp .ret ⟨[(4, (I 1))], [], H0⟩] (fun z => ai tt <| ai (rfl : Z0) <| ai ek2 <| ai (decide_eq_false h3) <| ai (rfl : Z0) <| ai ek5 <| ai lp7 <| z) (by kernel_rfl)) | .inr (.inl ()), lp7, h => have lp7 := LL_R_CheckExpr_0 a1 r4 0 _ lp7; lf h (callI G18 [.b true, .v (I r1), .b false, .b true, .v (.l 24 (r4.map eExprT)), .lp .ret ⟨[(4, (I 3))], [], H0⟩] (fun z => ai tt <| ai (rfl : Z0) <| ai ek2 <| ai (decide_eq_false h3) <| ai (rfl : Z0) <| ai ek5 <| ai lp7 <| z) (by kernel_rfl)) | .inr (.inr (.inl ())), lp7, h => have lp7 := LL_R_CheckExpr_0 a1 r4 0 _ lp7; lf h (callI G18 [.b true, .v (I r1), .b false, .b true, .v (.l 24 (r4.map eExprT)), .lp .ret ⟨[(4, (I 5))], [], H0⟩] (fun z => ai tt <| ai (rfl : Z0) <| ai ek2 <| ai (decide_eq_false h3) <| ai (rfl : Z0) <| ai ek5 <| ai lp7 <| z) (by kernel_rfl)) | .inr (.inr (.inr (.inl ()))), lp7, h => have lp7 := LL_R_CheckExpr_0 a1 r4 0 _ lp7; lf h (callI G18 [.b true, .v (I r1), .b false, .b true, .v (.l 24 (r4.map eExprT)), .lp .ret ⟨[(4, (I 7))], [], H0⟩] (fun z => ai tt <| ai (rfl : Z0) <| ai ek2 <| ai (decide_eq_false h3) <| ai (rfl : Z0) <| ai ek5 <| ai lp7 <| z) (by kernel_rfl)) | .inr (.inr (.inr (.inr (y_7, y_8)))), lp9, h => have lp9 := LL_R_CheckExpr_0 a1 r4 0 _ lp9; lf h (callI G18 [.b true, .v (I r1), .b false, .b true, .v (.l 24 (r4.map eExprT)), .lp (.ex 0) ⟨[(1, (I a1)), (5, (.l 24 (r4.map eExprT))), (6, (I (y_7 : Int))), (16, (.b y_8))], [], H0⟩] (fun z => ai tt <| ai (rfl : Z0) <| ai ek2 <| ai (decide_eq_false h3) <| ai (rfl : Z0) <| ai ek5 <| ai lp9 <| z) (by kernel_rfl))))
abbrev O_R_IsNumber (a0 : Int) (r : Bool) : Prop := call G Ω0 E0 19 [(I a0)] H0 = some (.ret (.b r), H0)
noncomputable def F_R_IsNumber (a0 : Int) : Option Bool :=
  (F_R_between a0 (-2147483648) 2147483647).bind fun (r1 : Bool) =>
  some r1
theorem lift_R_IsNumber (a0 : Int) (r : Bool) (h : F_R_IsNumber a0 = some r) : O_R_IsNumber a0 r :=
  have lf := fun {a} => leafO (P := O_R_IsNumber a0) (a := a) (r := r)
  bindP h fun r1 ek2 h => have ek2 := lift_R_between a0 (-2147483648) 2147483647 _ ek2; lf h (callI G19 [.v (.b r1)] (fun z => ai ek2 <| z) (by kernel_rfl))
noncomputable def B_R_CheckEval_0 (a1 : (List Int)) (v0_6 : Nat) (v0_5 : Int) : Option ((Nat × Int) ⊕ ((Int × Nat × Bool) ⊕ (Int × Nat))) :=
  if (v0_6 : Int) < (a1.length : Int) then
    if (v0_5 == 0) = true then
      (a1[v0_6]?).bind fun (y5 : Int) =>
      (F_R_IsNumber y5).bind fun (r7 : Bool) =>
      if r7 = true then
        if IntKind.i64.wrap ((v0_6 : Int) + 1) = ((v0_6 + 1 : Nat) : Int) then
          some (.inl (v0_6 + 1, v0_5))
        else none
      else
        if IntKind.i64.wrap ((v0_6 : Int) + 1) = ((v0_6 + 1 : Nat) : Int) then
          some (.inl (v0_6 + 1, 3))
        else none
    else
      some (.inr (.inl (v0_5, v0_6, v0_5 == 0)))
  else
    some (.inr (.inr (v0_5, v0_6)))
abbrev S_R_CheckEval_0 (a1 : (List Int)) (v : (Nat × Int)) : St := ⟨[(1, (.l 3 (a1.map (I)))), (5, (I v.2)), (6, (I (v.1 : Int)))], [], H0⟩
abbrev X_R_CheckEval_0 (a1 : (List Int)) (x : ((Int × Nat × Bool) ⊕ (Int × Nat))) : AExit × St := match x with | .inl (z1, z2, z3) => ((.ex 0), ⟨[(1, (.l 3 (a1.map (I)))), (5, (I z1)), (6, (I (z2 : Int))), (18, (.b z3))], [], H0⟩) | .inr (z1, z2) => ((.ex 0), ⟨[(1, (.l 3 (a1.map (I)))), (5, (I z1)), (6, (I (z2 : Int))), (18, (.b false))], [], H0⟩)
theorem LB_R_CheckEval_0 (a1 : (List Int)) (v0_6 : Nat) (v0_5 : Int) (o : (Nat × Int) ⊕ ((Int × Nat × Bool) ⊕ (Int × Nat))) (h : B_R_CheckEval_0 a1 v0_6 v0_5 = some o) : bodyOK E0 c7_0 (S_R_CheckEval_0 a1) (X_R_CheckEval_0 a1) (v0_6, v0_5) o :=
  have lf := fun {a} => leafO (P := bodyOK E0 c7_0 (S_R_CheckEval_0 a1) (X_R_CheckEval_0 a1) (v0_6, v0_5)) (a := a) (r := o)
  iteP h (fun h3 h => iteB h (fun h4 h => bindP h fun y5 h6 h => bindP h fun r7 ek8 h => have ek8 := lift_R_IsNumber y5 _ ek8; iteB h (fun h9 h => asrtP h fun w10 h => lf h (roundI [.i (a1.length : Int), .b true, .b true, .b true, .b true, .n v0_6, .v (I y5), .v (.b r7), .b false, .i ((v0_6 + 1 : Nat) : Int)] (fun z => ai (map_len (I) a1) <| ai (g1 (decide_eq_true h3)) <| ai (g1 (decide_eq_true h3)) <| ai (decide_eq_true h3) <| ai h4 <| ai (rfl : (v0_6 : Int) = (v0_6 : Int)) <| ai (map_get (I) h6) <| ai ek8 <| ai (congrArg not h9) <| ai w10 <| z) (by kernel_rfl))) (fun h9 h => asrtP h fun w10 h => lf h (roundI [.i (a1.length : Int), .b true, .b true, .b true, .b true, .n v0_6, .v (I y5), .v (.b r7), .b true, .i ((v0_6 + 1 : Nat) : Int)] (fun z => ai (map_len (I) a1) <| ai (g1 (decide_eq_true h3)) <| ai (g1 (decide_eq_true h3)) <| ai (decide_eq_true h3) <| ai h4 <| ai (rfl : (v0_6 : Int) = (v0_6 : Int)) <| ai (map_get (I) h6) <| ai ek8 <| ai (congrArg not h9) <| ai w10 <| z) (by kernel_rfl)))) (fun h4 h => lf h ⟨(runI [.i (a1.length : Int), .b true, .b true, .b true, .b false] (fun z => ai (map_len (I) a1) <| ai (g1 (decide_eq_true h3)) <| ai (g1 (decide_eq_true h3)) <| ai (decide_eq_true h3) <| ai h4 <| z) (by kernel_rfl)), ne_ex _⟩)) (fun h3 h => lf h ⟨(runI [.i (a1.length : Int), .b false, .b false, .b false, .b false] (fun z => ai (map_len (I) a1) <| ai (g1 (decide_eq_false h3)) <| ai (g1 (decide_eq_false h3)) <| ai (decide_eq_false h3) <| ai ff <| z) (by kernel_rfl)), ne_ex _⟩)
theorem LL_R_CheckEval_0 (a1 : (List Int)) (v : (Nat × Int)) (x : ((Int × Nat × Bool) ⊕ (Int × Nat))) (h : lp (fun v => B_R_CheckEval_0 a1 v.1 v.2) v = some x) : lpAt G Ω0 E0 c7_0 (S_R_CheckEval_0 a1 v) = some (X_R_CheckEval_0 a1 x) :=
  lp_lift c7_0 (S_R_CheckEval_0 a1) (X_R_CheckEval_0 a1) (fun _ => rfl) (fun v o h => LB_R_CheckEval_0 a1 v.1 v.2 o h) h
abbrev O_R_CheckEval (a0 : ExprT) (a1 : (List Int)) (r : Int) : Prop := call G Ω0 E0 7 [(.a (kExprT a0)), (.l 3 (a1.map (I)))] H0 = some (.ret (I r), H0)
noncomputable def F_R_CheckEval (a0 : ExprT) (a1 : (List Int)) : Option Int :=
  (F_R_CheckExpr a0 (a1.length : Int)).bind fun (r1 : Int) =>
  (lp (fun v => B_R_CheckEval_0 a1 v.1 v.2) (0, r1)).bind fun (x3 : ((Int × Nat × Bool) ⊕ (Int × Nat))) => match x3 with
  | .inl (y_4, y_5, y_6) =>
    some y_4
  | .inr (y_4, y_5) =>
    some y_4
theorem lift_R_CheckEval (a0 : ExprT) (a1 : (List Int)) (r : Int) (h : F_R_CheckEval a0 a1 = some r) : O_R_CheckEval a0 a1 r :=
  have lf := fun {a} => leafO (P := O_R_CheckEval a0 a1) (a := a) (r := r)
  bindP h fun r1 ek2 h => have ek2 := lift_R_CheckExpr a0 (a1.length : Int) _ ek2; (bindP h fun x3 hx h => match x3, hx, h with | .inl (y_4, y_5, y_6), lp7, h => have lp7 := LL_R_CheckEval_0 a1 (0, r1) _ lp7; lf h (callI G7 [.b true, .i (a1.length : Int), .v (I r1), .lp (.ex 0) ⟨[(1, (.l 3 (a1.map (I)))), (5, (I y_4)), (6, (I (y_5 : Int))), (18, (.b y_6))], [], H0⟩] (fun z => ai tt <| ai (rfl : Z0) <| ai (map_len (I) a1) <| ai ek2 <| ai lp7 <| z) (by kernel_rfl)) | .inr (y_4, y_5), lp6, h => have lp6 := LL_R_CheckEval_0 a1 (0, r1) _ lp6; lf h (callI G7 [.b true, .i (a1.length : Int), .v (I r1), .lp (.ex 0) ⟨[(1, (.l 3 (a1.map (I)))), (5, (I y_4)), (6, (I (y_5 : Int))), (18, (.b false))], [], H0⟩] (fun z => ai tt <| ai (rfl : Z0) <| ai (map_len (I) a1) <| ai ek2 <| ai lp6 <| z) (by kernel_rfl)))
noncomputable def D_R_Wrap_d0 (w0_1 : Int) : Option Int :=
  if 2147483647 < w0_1 then
    if IntKind.i64.wrap (w0_1 - 4294967296) = w0_1 - 4294967296 then
      some (w0_1 - 4294967296)
    else none
  else
    some w0_1
abbrev X_R_Wrap_d0 (w0_1 : Int) (x : Int) : AExit × St := (.ret, ⟨[(2, (I x))], [], H0⟩)
abbrev O_R_Wrap_d0 (w0_1 : Int) (x : Int) : Prop := run G Ω0 E0 e20_0 ⟨[(0, (I w0_1))], [], H0⟩ = some (X_R_Wrap_d0 w0_1 x)
theorem LD_R_Wrap_d0 (w0_1 : Int) (x : Int) (h : D_R_Wrap_d0 w0_1 = some x) : O_R_Wrap_d0 w0_1 x :=
  have lf := fun {a} => leafO (P := O_R_Wrap_d0 w0_1) (a := a) (r := x)
  iteP h (fun h3 h => asrtP h fun w4 h => lf h (runI [.b true, .i (w0_1 - 4294967296)] (fun z => ai (decide_eq_true h3) <| ai w4 <| z) (by kernel_rfl))) (fun h3 h => lf h (runI [.b false] (fun z => ai (decide_eq_false h3) <| z) (by kernel_rfl)))
abbrev O_R_Wrap (a0 : Int) (r : Int) : Prop := call G Ω0 E0 20 [(I a0)] H0 = some (.ret (I r), H0)
noncomputable def F_R_Wrap (a0 : Int) : Option Int :=
  if (a0.tmod 4294967296) < 0 then
    if IntKind.i64.wrap ((a0.tmod 4294967296) + 4294967296) = (a0.tmod 4294967296) + 4294967296 then
      (D_R_Wrap_d0 ((a0.tmod 4294967296) + 4294967296)).bind fun (x3 : Int) =>
      some x3
    else none
  else
    (D_R_Wrap_d0 (a0.tmod 4294967296)).bind fun (x2 : Int) =>
    some x2
theorem lift_R_Wrap (a0 : Int) (r : Int) (h : F_R_Wrap a0 = some r) : O_R_Wrap a0 r :=
  have lf := fun {a} => leafO (P := O_R_Wrap a0) (a := a) (r := r)
  iteP h (fun h1 h => asrtP h fun w2 h => bindP h fun x3 fr4 h => have fr4 := LD_R_Wrap_d0 ((a0.tmod 4294967296) + 4294967296) _ fr4; lf h (callI G20 [.i (a0.tmod 4294967296), .b true, .i ((a0.tmod 4294967296) + 4294967296), .fr .ret ⟨[(2, (I x3))], [], H0⟩] (fun z => ai ((by decide) : (4294967296 : Int) ≠ 0) <| ai (rfl : a0.tmod 4294967296 = a0.tmod 4294967296) <| ai (decide_eq_true h1) <| ai w2 <| ai fr4 <| z) (by kernel_rfl))) (fun h1 h => bindP h fun x2 fr3 h => have fr3 := LD_R_Wrap_d0 (a0.tmod 4294967296) _ fr3; lf h (callI G20 [.i (a0.tmod 4294967296), .b false, .fr .ret ⟨[(2, (I x2))], [], H0⟩] (fun z => ai ((by decide) : (4294967296 : Int) ≠ 0) <| ai (rfl : a0.tmod 4294967296 = a0.tmod 4294967296) <| ai (decide_eq_false h1) <| ai fr3 <| z) (by kernel_rfl)))
abbrev O_R_ValueOf (a0 : ExprT) (a1 : (List Int)) (r : Int) : Prop := call G Ω0 E0 8 [(.a (kExprT a0)), (.l 3 (a1.map (I)))] H0 = some (.ret (I r), H0)
structure R_R_ValueOf where
  f_R_ValueOf : ExprT → (List Int) → Option Int

structure OK_R_ValueOf (R : R_R_ValueOf) : Prop where
  f_R_ValueOf : ∀ (a0 : ExprT) (a1 : (List Int)) (r : Int), R.f_R_ValueOf a0 a1 = some r → O_R_ValueOf a0 a1 r

noncomputable def q_R_ValueOf_j1 : List GOp := ⟨some 52, .fa 0 (.t 2), none, false⟩ :: ⟨some 53, .ld none (.t 52), none, false⟩ :: ⟨some 54, .bo .eql false (.t 53) (.c (I 6)), none, false⟩ :: ⟨some 55, .mv (.t 54), none, false⟩ :: ⟨some 56, .mv (.t 5), some ⟨55, true⟩, false⟩ :: ⟨some 57, .mv (.t 6), some ⟨55, true⟩, false⟩ :: ⟨some 58, .bo .lss false (.t 56) (.t 57), some ⟨55, true⟩, false⟩ :: ⟨some 59, .pk (.t 55) (.t 58) (.c (.b false)), none, false⟩ :: ⟨some 60, .mv (.t 59), none, false⟩ :: ⟨some 61, .fa 0 (.t 2), some ⟨60, false⟩, false⟩ :: ⟨some 62, .ld none (.t 61), some ⟨60, false⟩, false⟩ :: ⟨some 63, .bo .eql false (.t 62) (.c (I 7)), some ⟨60, false⟩, false⟩ :: ⟨some 64, .mv (.t 63), some ⟨60, false⟩, false⟩ :: ⟨some 65, .mv (.t 5), some ⟨64, true⟩, false⟩ :: ⟨some 66, .mv (.t 6), some ⟨64, true⟩, false⟩ :: ⟨some 67, .bo .eql false (.t 65) (.t 66), some ⟨64, true⟩, false⟩ :: ⟨some 68, .pk (.t 64) (.t 67) (.c (.b false)), some ⟨60, false⟩, false⟩ :: ⟨some 69, .pk (.t 60) (.c (.b true)) (.t 68), none, false⟩ :: []
noncomputable def D_R_ValueOf_j1 (R : R_R_ValueOf) (a0 : ExprT) (r5 : Int) (r9 : Int) : Option (Unit ⊕ (Unit ⊕ Unit)) :=
  if (a0.Kind == 6) = true then
    if r5 < r9 then
      some (.inl ())
    else
      if (a0.Kind == 7) = true then
        some (.inr (.inl ()))
      else
        some (.inr (.inr ()))
  else
    if (a0.Kind == 7) = true then
      some (.inr (.inl ()))
    else
      some (.inr (.inr ()))
abbrev X_R_ValueOf_j1 (a0 : ExprT) (r5 : Int) (r9 : Int) (x : (Unit ⊕ (Unit ⊕ Unit))) : St := match x with | .inl () => ⟨[(69, (.b true))], [], H0⟩ | .inr (.inl ()) => ⟨[(69, (.b (r5 == r9)))], [], H0⟩ | .inr (.inr ()) => ⟨[(69, (.b false))], [], H0⟩
abbrev O_R_ValueOf_j1 (a0 : ExprT) (r5 : Int) (r9 : Int) (x : (Unit ⊕ (Unit ⊕ Unit))) : Prop := opsK G Ω0 E0 [69] [] q_R_ValueOf_j1 ⟨[(2, (.p ⟨0, 2⟩ 0)), (5, (I r5)), (6, (I r9))], [(2, (kExprT a0))], H0⟩ = some (X_R_ValueOf_j1 a0 r5 r9 x)
theorem LD_R_ValueOf_j1 (R : R_R_ValueOf) (hR : OK_R_ValueOf R) (a0 : ExprT) (r5 : Int) (r9 : Int) (x : (Unit ⊕ (Unit ⊕ Unit))) (h : D_R_ValueOf_j1 R a0 r5 r9 = some x) : O_R_ValueOf_j1 a0 r5 r9 x :=
  have lf := fun {a} => leafO (P := O_R_ValueOf_j1 a0 r5 r9) (a := a) (r := x)
  iteB h (fun h14 h => iteP h (fun h15 h => lf h (opsKI [.b true, .b true, .b true, .b true, .b true, .b false, .b false, .b false, .b false, .b false, .b true] (fun z => ai (rfl : Z0) <| ai (g1 h14) <| ai (g1 h14) <| ai (g1 h14) <| ai h14 <| ai (g0 (decide_eq_true h15)) <| ai (g0 (decide_eq_true h15)) <| ai (g0 (decide_eq_true h15)) <| ai (g0 (decide_eq_true h15)) <| ai (g0 (decide_eq_true h15)) <| ai (decide_eq_true h15) <| z) (by kernel_rfl))) (fun h15 h => iteB h (fun h16 h => lf h (opsKI [.b true, .b true, .b true, .b true, .b true, .b true, .b true, .b true, .b true, .b true, .b true, .b true, .b true, .b true, .b true, .b false] (fun z => ai (rfl : Z0) <| ai (g1 h14) <| ai (g1 h14) <| ai (g1 h14) <| ai h14 <| ai (g0 (decide_eq_false h15)) <| ai (g0 (decide_eq_false h15)) <| ai (rfl : Z0) <| ai (g0 (decide_eq_false h15)) <| ai (g0 (decide_eq_false h15)) <| ai (g1 h16) <| ai (g1 h16) <| ai (g1 h16) <| ai (g0 (decide_eq_false h15)) <| ai h16 <| ai (decide_eq_false h15) <| z) (by kernel_rfl))) (fun h16 h => lf h (opsKI [.b true, .b true, .b true, .b true, .b true, .b true, .b true, .b true, .b true, .b true, .b false, .b false, .b false, .b true, .b false, .b false] (fun z => ai (rfl : Z0) <| ai (g1 h14) <| ai (g1 h14) <| ai (g1 h14) <| ai h14 <| ai (g0 (decide_eq_false h15)) <| ai (g0 (decide_eq_false h15)) <| ai (rfl : Z0) <| ai (g0 (decide_eq_false h15)) <| ai (g0 (decide_eq_false h15)) <| ai (g1 h16) <| ai (g1 h16) <| ai (g1 h16) <| ai (g0 (decide_eq_false h15)) <| ai h16 <| ai (decide_eq_false h15) <| z) (by kernel_rfl))))) (fun h14 h => iteB h (fun h15 h => lf h (opsKI [.b true, .b false, .b false, .b false, .b false, .b true, .b true, .b true, .b true, .b true, .b true, .b true, .b true, .b true, .b true, .b false] (fun z => ai (rfl : Z0) <| ai (g1 h14) <| ai (g1 h14) <| ai (g1 h14) <| ai h14 <| ai ((congrArg (fun z => z == false) rfl) : (false == false) = true) <| ai ((congrArg (fun z => z == false) rfl) : (false == false) = true) <| ai (rfl : Z0) <| ai ((congrArg (fun z => z == false) rfl) : (false == false) = true) <| ai ((congrArg (fun z => z == false) rfl) : (false == false) = true) <| ai (g1 h15) <| ai (g1 h15) <| ai (g1 h15) <| ai ((congrArg (fun z => z == false) rfl) : (false == false) = true) <| ai h15 <| ai ff <| z) (by kernel_rfl))) (fun h15 h => lf h (opsKI [.b true, .b false, .b false, .b false, .b false, .b true, .b true, .b true, .b true, .b true, .b false, .b false, .b false, .b true, .b false, .b false] (fun z => ai (rfl : Z0) <| ai (g1 h14) <| ai (g1 h14) <| ai (g1 h14) <| ai h14 <| ai ((congrArg (fun z => z == false) rfl) : (false == false) = true) <| ai ((congrArg (fun z => z == false) rfl) : (false == false) = true) <| ai (rfl : Z0) <| ai ((congrArg (fun z => z == false) rfl) : (false == false) = true) <| ai ((congrArg (fun z => z == false) rfl) : (false == false) = true) <| ai (g1 h15) <| ai (g1 h15) <| ai (g1 h15) <| ai ((congrArg (fun z => z == false) rfl) : (false == false) = true) <| ai h15 <| ai ff <| z) (by kernel_rfl))))
noncomputable def FB_R_ValueOf (R : R_R_ValueOf) (a0 : ExprT) (a1 : (List Int)) : Option Int :=
  if (a0.Kind == 1) = true then
    some a0.N
  else
    if (a0.Kind == 2) = true then
      (natI a0.N).bind fun (j3 : Nat) =>
      (a1[j3]?).bind fun (y5 : Int) =>
      some y5
    else
      (a0.Args[0]?).bind fun (y3 : ExprT) =>
      (R.f_R_ValueOf y3 a1).bind fun (r5 : Int) =>
      (a0.Args[1]?).bind fun (y7 : ExprT) =>
      (R.f_R_ValueOf y7 a1).bind fun (r9 : Int) =>
      if (a0.Kind == 3) = true then
        if IntKind.i64.wrap (r5 + r9) = r5 + r9 then
          (F_R_Wrap (r5 + r9)).bind fun (r13 : Int) =>
          some r13
        else none
      else
        if (a0.Kind == 4) = true then
          if IntKind.i64.wrap (r5 - r9) = r5 - r9 then
            (F_R_Wrap (r5 - r9)).bind fun (r14 : Int) =>
            some r14
          else none
        else
          if (a0.Kind == 5) = true then
            if IntKind.i64.wrap (r5 * r9) = r5 * r9 then
              (F_R_Wrap (r5 * r9)).bind fun (r15 : Int) =>
              some r15
            else none
          else
            (D_R_ValueOf_j1 R a0 r5 r9).bind fun (x14 : (Unit ⊕ (Unit ⊕ Unit))) => match x14 with
            | .inl () =>
              some 1
            | .inr (.inl ()) =>
              if (r5 == r9) = true then
                some 1
              else
                some 0
            | .inr (.inr ()) =>
              some 0
theorem liftB_R_ValueOf (R : R_R_ValueOf) (hR : OK_R_ValueOf R) (a0 : ExprT) (a1 : (List Int)) (r : Int) (h : FB_R_ValueOf R a0 a1 = some r) : O_R_ValueOf a0 a1 r :=
  have lf := fun {a} => leafO (P := O_R_ValueOf a0 a1) (a := a) (r := r)
  iteB h (fun h1 h => lf h (callI G8 [.b true, .b true, .b true] (fun z => ai tt <| ai (rfl : Z0) <| ai h1 <| ai (rfl : Z0) <| z) (by kernel_rfl))) (fun h1 h => iteB h (fun h2 h => natP h fun j3 h4 h => bindP h fun y5 h6 h => lf h (callI G8 [.b true, .b false, .b true, .b true, .n j3, .v (I y5)] (fun z => ai tt <| ai (rfl : Z0) <| ai h1 <| ai h2 <| ai (rfl : Z0) <| ai h4 <| ai (map_get (I) h6) <| z) (by kernel_rfl))) (fun h2 h => bindP h fun y3 h4 h => bindP h fun r5 ek6 h => have ek6 := hR.f_R_ValueOf y3 a1 _ ek6; bindP h fun y7 h8 h => bindP h fun r9 ek10 h => have ek10 := hR.f_R_ValueOf y7 a1 _ ek10; iteB h (fun h11 h => asrtP h fun w12 h => bindP h fun r13 ek14 h => have ek14 := lift_R_Wrap (r5 + r9) _ ek14; lf h (callI G8 [.b true, .b false, .b false, .b true, .n 0, .v (.a (kExprT y3)), .v (I r5), .b true, .n 1, .v (.a (kExprT y7)), .v (I r9), .b true, .b true, .i (r5 + r9), .v (I r13)] (fun z => ai tt <| ai (rfl : Z0) <| ai h1 <| ai h2 <| ai tt <| ai tt <| ai (rfl : Z0) <| ai tt <| ai (rfl : (0 : Int) = (0 : Int)) <| ai (map_getE eExprT h4 (eExprT_eq _)) <| ai tt <| ai tt <| ai tt <| ai ek6 <| ai tt <| ai tt <| ai (rfl : Z0) <| ai tt <| ai (rfl : (1 : Int) = (1 : Int)) <| ai (map_getE eExprT h8 (eExprT_eq _)) <| ai tt <| ai tt <| ai tt <| ai ek10 <| ai (rfl : Z0) <| ai h11 <| ai w12 <| ai ek14 <| z) (by kernel_rfl))) (fun h11 h => iteB h (fun h12 h => asrtP h fun w13 h => bindP h fun r14 ek15 h => have ek15 := lift_R_Wrap (r5 - r9) _ ek15; lf h (callI G8 [.b true, .b false, .b false, .b true, .n 0, .v (.a (kExprT y3)), .v (I r5), .b true, .n 1, .v (.a (kExprT y7)), .v (I r9), .b true, .b false, .b true, .i (r5 - r9), .v (I r14)] (fun z => ai tt <| ai (rfl : Z0) <| ai h1 <| ai h2 <| ai tt <| ai tt <| ai (rfl : Z0) <| ai tt <| ai (rfl : (0 : Int) = (0 : Int)) <| ai (map_getE eExprT h4 (eExprT_eq _)) <| ai tt <| ai tt <| ai tt <| ai ek6 <| ai tt <| ai tt <| ai (rfl : Z0) <| ai tt <| ai (rfl : (1 : Int) = (1 : Int)) <| ai (map_getE eExprT h8 (eExprT_eq _)) <| ai tt <| ai tt <| ai tt <| ai ek10 <| ai (rfl : Z0) <| ai h11 <| ai h12 <| ai w13 <| ai ek15 <| z) (by kernel_rfl))) (fun h12 h => iteB h (fun h13 h => asrtP h fun w14 h => bindP h fun r15 ek16 h => have ek16 := lift_R_Wrap (r5 * r9) _ ek16; lf h (callI G8 [.b true, .b false, .b false, .b true, .n 0, .v (.a (kExprT y3)), .v (I r5), .b true, .n 1, .v (.a (kExprT y7)), .v (I r9), .b true, .b false, .b false, .b true, .i (r5 * r9), .v (I r15)] (fun z => ai tt <| ai (rfl : Z0) <| ai h1 <| ai h2 <| ai tt <| ai tt <| ai (rfl : Z0) <| ai tt <| ai (rfl : (0 : Int) = (0 : Int)) <| ai (map_getE eExprT h4 (eExprT_eq _)) <| ai tt <| ai tt <| ai tt <| ai ek6 <| ai tt <| ai tt <| ai (rfl : Z0) <| ai tt <| ai (rfl : (1 : Int) = (1 : Int)) <| ai (map_getE eExprT h8 (eExprT_eq _)) <| ai tt <| ai tt <| ai tt <| ai ek10 <| ai (rfl : Z0) <| ai h11 <| ai h12 <| ai h13 <| ai w14 <| ai ek16 <| z) (by kernel_rfl))) (fun h13 h => (bindP h fun x14 hx h => match x14, hx, h with | .inl (), jn15, h => have jn15 := LD_R_ValueOf_j1 R hR a0 r5 r9 _ jn15; lf h (callI G8 [.b true, .b false, .b false, .b true, .n 0, .v (.a (kExprT y3)), .v (I r5), .b true, .n 1, .v (.a (kExprT y7)), .v (I r9), .b true, .b false, .b false, .b false, .jn (some 52) 17 ⟨[(69, (.b true))], [], H0⟩, .b true] (fun z => ai tt <| ai (rfl : Z0) <| ai h1 <| ai h2 <| ai tt <| ai tt <| ai (rfl : Z0) <| ai tt <| ai (rfl : (0 : Int) = (0 : Int)) <| ai (map_getE eExprT h4 (eExprT_eq _)) <| ai tt <| ai tt <| ai tt <| ai ek6 <| ai tt <| ai tt <| ai (rfl : Z0) <| ai tt <| ai (rfl : (1 : Int) = (1 : Int)) <| ai (map_getE eExprT h8 (eExprT_eq _)) <| ai tt <| ai tt <| ai tt <| ai ek10 <| ai (rfl : Z0) <| ai h11 <| ai h12 <| ai h13 <| ai jn15 <| ai tt <| z) (by kernel_rfl)) | .inr (.inl ()), jn16, h => have jn16 := LD_R_ValueOf_j1 R hR a0 r5 r9 _ jn16; iteB h (fun h17 h => lf h (callI G8 [.b true, .b false, .b false, .b true, .n 0, .v (.a (kExprT y3)), .v (I r5), .b true, .n 1, .v (.a (kExprT y7)), .v (I r9), .b true, .b false, .b false, .b false, .jn (some 52) 17 ⟨[(69, (.b (r5 == r9)))], [], H0⟩, .b true] (fun z => ai tt <| ai (rfl : Z0) <| ai h1 <| ai h2 <| ai tt <| ai tt <| ai (rfl : Z0) <| ai tt <| ai (rfl : (0 : Int) = (0 : Int)) <| ai (map_getE eExprT h4 (eExprT_eq _)) <| ai tt <| ai tt <| ai tt <| ai ek6 <| ai tt <| ai tt <| ai (rfl : Z0) <| ai tt <| ai (rfl : (1 : Int) = (1 : Int)) <| ai (map_getE eExprT h8 (eExprT_eq _)) <| ai tt <| ai tt <| ai tt <| ai ek10 <| ai (rfl : Z0) <| ai h11 <| ai h12 <| ai h13 <| ai jn16 <| ai h17 <| z) (by kernel_rfl))) (fun h17 h => lf h (callI G8 [.b true, .b false, .b false, .b true, .n 0, .v (.a (kExprT y3)), .v (I r5), .b true, .n 1, .v (.a (kExprT y7)), .v (I r9), .b true, .b false, .b false, .b false, .jn (some 52) 17 ⟨[(69, (.b (r5 == r9)))], [], H0⟩, .b false] (fun z => ai tt <| ai (rfl : Z0) <| ai h1 <| ai h2 <| ai tt <| ai tt <| ai (rfl : Z0) <| ai tt <| ai (rfl : (0 : Int) = (0 : Int)) <| ai (map_getE eExprT h4 (eExprT_eq _)) <| ai tt <| ai tt <| ai tt <| ai ek6 <| ai tt <| ai tt <| ai (rfl : Z0) <| ai tt <| ai (rfl : (1 : Int) = (1 : Int)) <| ai (map_getE eExprT h8 (eExprT_eq _)) <| ai tt <| ai tt <| ai tt <| ai ek10 <| ai (rfl : Z0) <| ai h11 <| ai h12 <| ai h13 <| ai jn16 <| ai h17 <| z) (by kernel_rfl))) | .inr (.inr ()), jn17, h => have jn17 := LD_R_ValueOf_j1 R hR a0 r5 r9 _ jn17; lf h (callI G8 [.b true, .b false, .b false, .b true, .n 0, .v (.a (kExprT y3)), .v (I r5), .b true, .n 1, .v (.a (kExprT y7)), .v (I r9), .b true, .b false, .b false, .b false, .jn (some 52) 17 ⟨[(69, (.b false))], [], H0⟩, .b false] (fun z => ai tt <| ai (rfl : Z0) <| ai h1 <| ai h2 <| ai tt <| ai tt <| ai (rfl : Z0) <| ai tt <| ai (rfl : (0 : Int) = (0 : Int)) <| ai (map_getE eExprT h4 (eExprT_eq _)) <| ai tt <| ai tt <| ai tt <| ai ek6 <| ai tt <| ai tt <| ai (rfl : Z0) <| ai tt <| ai (rfl : (1 : Int) = (1 : Int)) <| ai (map_getE eExprT h8 (eExprT_eq _)) <| ai tt <| ai tt <| ai tt <| ai ek10 <| ai (rfl : Z0) <| ai h11 <| ai h12 <| ai h13 <| ai jn17 <| ai ff <| z) (by kernel_rfl))))))))
noncomputable def N_R_ValueOf : Nat → R_R_ValueOf
  | 0 => ⟨fun z0 z1 => none⟩
  | n + 1 => ⟨FB_R_ValueOf (N_R_ValueOf n)⟩
theorem ok_R_ValueOf : ∀ n, OK_R_ValueOf (N_R_ValueOf n)
  | 0 => ⟨fun _ _ r h => (by cases h)⟩
  | n + 1 => ⟨fun a0 a1 r h => liftB_R_ValueOf _ (ok_R_ValueOf n) a0 a1 r h⟩
noncomputable def F_R_ValueOf (a0 : ExprT) (a1 : (List Int)) : Option Int := ev fun n => (N_R_ValueOf n).f_R_ValueOf a0 a1
theorem lift_R_ValueOf (a0 : ExprT) (a1 : (List Int)) (r : Int) (h : F_R_ValueOf a0 a1 = some r) : O_R_ValueOf a0 a1 r := by
  obtain ⟨n, hn⟩ := ev_some h
  exact (ok_R_ValueOf n).f_R_ValueOf a0 a1 r hn
end Go.Proofs.Ytdoiklliklkbgaa.A
