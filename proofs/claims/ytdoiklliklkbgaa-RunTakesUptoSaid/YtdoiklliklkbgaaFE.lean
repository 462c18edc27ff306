/- Functions of the program as plain functions, by program. -/
import Derived.Test.YtdoiklliklkbgaaTypes
import Derived.Test.YtdoiklliklkbgaaLift
import Derived.Test.YtdoiklliklkbgaaFB
set_option maxRecDepth 100000
set_option linter.unusedSectionVars false
set_option linter.unusedVariables false
set_option linter.unusedSimpArgs false
set_option linter.constructorNameAsVariable false
namespace Go.Proofs.Ytdoiklliklkbgaa.A
open Go
variable [Lp]
abbrev O_scope_size (a0 : ExprT) (a1 : Int) (r : Int) : Prop := call G Ω0 E0 27 [(.a (kExprT a0)), (I a1)] H0 = some (.ret (I r), H0)
structure R_scope_size where
  f_scope_size : ExprT → Int → Option Int

structure OK_scope_size (R : R_scope_size) : Prop where
  f_scope_size : ∀ (a0 : ExprT) (a1 : Int) (r : Int), R.f_scope_size a0 a1 = some r → O_scope_size a0 a1 r

noncomputable def B_scope_size_0 (R : R_scope_size) (a0 : ExprT) (a1 : Int) (v0_5 : Int) (v0_11 : Nat) : Option ((Int × Nat) ⊕ ((Int × Nat × Bool × ExprT) ⊕ (Int × Nat × Bool))) :=
  if (v0_11 : Int) < (a0.Args.length : Int) then
    (a0.Args[v0_11]?).bind fun (y2 : ExprT) =>
    if a1 < v0_5 then
      some (.inr (.inl (v0_5, v0_11, decide (a1 < v0_5), y2)))
    else
      if IntKind.i64.wrap (a1 - v0_5) = a1 - v0_5 then
        (R.f_scope_size y2 (a1 - v0_5)).bind fun (r6 : Int) =>
        if IntKind.i64.wrap (v0_5 + r6) = v0_5 + r6 then
          if IntKind.i64.wrap ((v0_11 : Int) + 1) = ((v0_11 + 1 : Nat) : Int) then
            some (.inl (v0_5 + r6, v0_11 + 1))
          else none
        else none
      else none
  else
    some (.inr (.inr (v0_5, v0_11, decide ((v0_11 : Int) < (a0.Args.length : Int)))))
abbrev S_scope_size_0 (a0 : ExprT) (a1 : Int) (v : (Int × Nat)) : St := ⟨[(1, (I a1)), (5, (I v.1)), (9, (.l 24 (a0.Args.map eExprT))), (10, (I (a0.Args.length : Int))), (11, (I (v.2 : Int)))], [], H0⟩
abbrev X_scope_size_0 (a0 : ExprT) (a1 : Int) (x : ((Int × Nat × Bool × ExprT) ⊕ (Int × Nat × Bool))) : AExit × St := match x with | .inl (z1, z2, z3, z4) => ((.ex 0), ⟨[(1, (I a1)), (5, (I z1)), (7, (.p ⟨0, 7⟩ 0)), (9, (.l 24 (a0.Args.map eExprT))), (10, (I (a0.Args.length : Int))), (11, (I (z2 : Int))), (17, (.b z3))], [(7, (kExprT z4))], H0⟩) | .inr (z1, z2, z3) => ((.ex 0), ⟨[(1, (I a1)), (5, (I z1)), (9, (.l 24 (a0.Args.map eExprT))), (10, (I (a0.Args.length : Int))), (11, (I (z2 : Int))), (12, (.b z3))], [], H0⟩)
theorem LB_scope_size_0 (R : R_scope_size) (hR : OK_scope_size R) (a0 : ExprT) (a1 : Int) (v0_5 : Int) (v0_11 : Nat) (o : (Int × Nat) ⊕ ((Int × Nat × Bool × ExprT) ⊕ (Int × Nat × Bool))) (h : B_scope_size_0 R a0 a1 v0_5 v0_11 = some o) : bodyOK E0 c27_0 (S_scope_size_0 a0 a1) (X_scope_size_0 a0 a1) (v0_5, v0_11) o :=
  iteP h (fun h1 h => bindP h fun y2 h3 h => iteP h (fun h4 h => lf h ⟨(runI [.b true, .n v0_11, .v (.a (kExprT y2)), .b true, .b true, .b true] (fun z => ai (decide_eq_true h1) <| ai (rfl : (v0_11 : Int) = (v0_11 : Int)) <| ai (map_getE eExprT h3 (eExprT_eq _)) <| ai tt <| ai ff <| ai (rfl : Z0) <| ai tt <| ai (rfl : Z0) <| ai (decide_eq_true h4) <| z) (by kernel_rfl)), ne_ex _⟩) (fun h4 h => asrtP h fun w5 h => bindP h fun r6 ek7 h => have ek7 := hR.f_scope_size y2 (a1 - v0_5) _ ek7; asrtP h fun w8 h => asrtP h fun w9 h => lf h (roundI [.b true, .n v0_11, .v (.a (kExprT y2)), .b true, .b true, .b false, .b true, .i (a1 - v0_5), .v (I r6), .i (v0_5 + r6), .i ((v0_11 + 1 : Nat) : Int)] (fun z => ai (decide_eq_true h1) <| ai (rfl : (v0_11 : Int) = (v0_11 : Int)) <| ai (map_getE eExprT h3 (eExprT_eq _)) <| ai tt <| ai ff <| ai (rfl : Z0) <| ai tt <| ai (rfl : Z0) <| ai (decide_eq_false h4) <| ai (rfl : Z0) <| ai w5 <| ai ek7 <| ai w8 <| ai w9 <| z) (by kernel_rfl)))) (fun h1 h => lf h ⟨(runI [.b false] (fun z => ai (decide_eq_false h1) <| z) (by kernel_rfl)), ne_ex _⟩)
theorem LL_scope_size_0 (R : R_scope_size) (hR : OK_scope_size R) (a0 : ExprT) (a1 : Int) (v : (Int × Nat)) (x : ((Int × Nat × Bool × ExprT) ⊕ (Int × Nat × Bool))) (h : lp (fun v => B_scope_size_0 R a0 a1 v.1 v.2) v = some x) : lpAt G Ω0 E0 c27_0 (S_scope_size_0 a0 a1 v) = some (X_scope_size_0 a0 a1 x) :=
  lp_lift c27_0 (S_scope_size_0 a0 a1) (X_scope_size_0 a0 a1) (fun _ => rfl) (fun v o h => LB_scope_size_0 R hR a0 a1 v.1 v.2 o h) h
noncomputable def FB_scope_size (R : R_scope_size) (a0 : ExprT) (a1 : Int) : Option Int :=
  (lp (fun v => B_scope_size_0 R a0 a1 v.1 v.2) (1, 0)).bind fun (x1 : ((Int × Nat × Bool × ExprT) ⊕ (Int × Nat × Bool))) => match x1 with
  | .inl (y_2, y_3, y_4, y_5) =>
    some y_2
  | .inr (y_2, y_3, y_4) =>
    some y_2
theorem liftB_scope_size (R : R_scope_size) (hR : OK_scope_size R) (a0 : ExprT) (a1 : Int) (r : Int) (h : FB_scope_size R a0 a1 = some r) : O_scope_size a0 a1 r :=
  (bindP h fun x1 hx h => match x1, hx, h with | .inl (y_2, y_3, y_4, y_5), lp6, h => have lp6 := LL_scope_size_0 R hR a0 a1 (1, 0) _ lp6; lf h (callI G27 [.b true, .i (a0.Args.length : Int), .lp (.ex 0) ⟨[(1, (I a1)), (5, (I y_2)), (7, (.p ⟨0, 7⟩ 0)), (9, (.l 24 (a0.Args.map eExprT))), (10, (I (a0.Args.length : Int))), (11, (I (y_3 : Int))), (17, (.b y_4))], [(7, (kExprT y_5))], H0⟩] (fun z => ai tt <| ai (rfl : Z0) <| ai (map_len eExprT a0.Args) <| ai lp6 <| z) (by kernel_rfl)) | .inr (y_2, y_3, y_4), lp5, h => have lp5 := LL_scope_size_0 R hR a0 a1 (1, 0) _ lp5; lf h (callI G27 [.b true, .i (a0.Args.length : Int), .lp (.ex 0) ⟨[(1, (I a1)), (5, (I y_2)), (9, (.l 24 (a0.Args.map eExprT))), (10, (I (a0.Args.length : Int))), (11, (I (y_3 : Int))), (12, (.b y_4))], [], H0⟩] (fun z => ai tt <| ai (rfl : Z0) <| ai (map_len eExprT a0.Args) <| ai lp5 <| z) (by kernel_rfl)))
noncomputable def N_scope_size : Nat → R_scope_size
  | 0 => ⟨fun z0 z1 => none⟩
  | n + 1 => ⟨FB_scope_size (N_scope_size n)⟩
theorem ok_scope_size : ∀ n, OK_scope_size (N_scope_size n)
  | 0 => ⟨fun _ _ r h => (by cases h)⟩
  | n + 1 => ⟨fun a0 a1 r h => liftB_scope_size _ (ok_scope_size n) a0 a1 r h⟩
noncomputable def F_scope_size (a0 : ExprT) (a1 : Int) : Option Int := ev fun n => (N_scope_size n).f_scope_size a0 a1
theorem lift_scope_size (a0 : ExprT) (a1 : Int) (r : Int) (h : F_scope_size a0 a1 = some r) : O_scope_size a0 a1 r := by
  obtain ⟨n, hn⟩ := ev_some h
  exact (ok_scope_size n).f_scope_size a0 a1 r hn
noncomputable def q_scope_part_j2 : List GOp := (gp 23 (.as (.t 45))) :: []
noncomputable def D_scope_part_j2 (a0 : ExprT) (a1 : Int) (w1_1 : Nat) (u2_1 : Bool) : Option Bool :=
  some u2_1
abbrev X_scope_part_j2 (a0 : ExprT) (a1 : Int) (w1_1 : Nat) (u2_1 : Bool) (x : Bool) : St := ⟨[(1, (I a1)), (2, (.p ⟨0, 2⟩ 0)), (23, (.b x))], [(2, (kExprT a0))], H0⟩
abbrev O_scope_part_j2 (a0 : ExprT) (a1 : Int) (w1_1 : Nat) (u2_1 : Bool) (u2_w1 : AV) (u2_w2 : AV) (u2_w3 : AV) (u2_w4 : AV) (u2_w5 : AV) (u2_w6 : AV) (u2_w7 : AV) (u2_w8 : AV) (u2_w9 : AV) (u2_w10 : AV) (u2_w11 : AV) (u2_w12 : AV) (u2_w13 : AV) (u2_w14 : AV) (u2_w15 : AV) (u2_w16 : AV) (u2_w17 : AV) (x : Bool) : Prop := opsK G Ω0 E0 [1, 2, 23] [2] q_scope_part_j2 ⟨[(45, (.b u2_1)), (44, u2_w1), (43, u2_w2), (42, u2_w3), (41, u2_w4), (40, u2_w5), (39, u2_w6), (38, u2_w7), (37, u2_w8), (36, u2_w9), (35, u2_w10), (34, u2_w11), (33, u2_w12), (32, u2_w13), (31, u2_w14), (30, u2_w15), (29, u2_w16), (28, u2_w17), (27, (.b (a0.Kind == 1))), (26, (.b (a0.Kind == 1))), (25, (I a0.Kind)), (24, (.p ⟨0, 2⟩ 0)), (1, (I a1)), (2, (.p ⟨0, 2⟩ 0)), (5, (I (w1_1 : Int))), (17, (.b ((a0.Args.length : Int) != (w1_1 : Int))))], [(2, (kExprT a0))], H0⟩ = some (X_scope_part_j2 a0 a1 w1_1 u2_1 x)
theorem LD_scope_part_j2 (a0 : ExprT) (a1 : Int) (w1_1 : Nat) (u2_1 : Bool) (u2_w1 : AV) (u2_w2 : AV) (u2_w3 : AV) (u2_w4 : AV) (u2_w5 : AV) (u2_w6 : AV) (u2_w7 : AV) (u2_w8 : AV) (u2_w9 : AV) (u2_w10 : AV) (u2_w11 : AV) (u2_w12 : AV) (u2_w13 : AV) (u2_w14 : AV) (u2_w15 : AV) (u2_w16 : AV) (u2_w17 : AV) (x : Bool) (h : D_scope_part_j2 a0 a1 w1_1 u2_1 = some x) : O_scope_part_j2 a0 a1 w1_1 u2_1 u2_w1 u2_w2 u2_w3 u2_w4 u2_w5 u2_w6 u2_w7 u2_w8 u2_w9 u2_w10 u2_w11 u2_w12 u2_w13 u2_w14 u2_w15 u2_w16 u2_w17 x :=
  lf h (opsKI [] (fun z => z) (by kernel_rfl))
noncomputable def q_scope_part_j1 : List GOp := (gp 24 (.fa 0 (.t 2))) :: (gp 25 (.ld none (.t 24))) :: (gp 26 (.bo .eql false (.t 25) (.c (I 1)))) :: (gp 27 (.mv (.t 26))) :: ⟨some 28, .fa 1 (.t 2), some ⟨27, true⟩, false⟩ :: ⟨some 29, .ld none (.t 28), some ⟨27, true⟩, false⟩ :: ⟨some 30, .bo .lss false (.t 29) (.c (I (-9999999))), some ⟨27, true⟩, false⟩ :: ⟨some 31, .mv (.t 30), some ⟨27, true⟩, false⟩ :: ⟨some 32, .fa 1 (.t 2), some ⟨31, false⟩, false⟩ :: ⟨some 33, .ld none (.t 32), some ⟨31, false⟩, false⟩ :: ⟨some 34, .bo .gtr false (.t 33) (.c (I 9999999)), some ⟨31, false⟩, false⟩ :: ⟨some 35, .pk (.t 31) (.c (.b true)) (.t 34), some ⟨27, true⟩, false⟩ :: (gp 36 (.pk (.t 27) (.t 35) (.c (.b false)))) :: (gp 37 (.mv (.t 36))) :: ⟨some 38, .mv (.t 5), some ⟨37, false⟩, false⟩ :: ⟨some 39, .bo .gtr false (.t 38) (.c (I 0)), some ⟨37, false⟩, false⟩ :: ⟨some 40, .mv (.t 39), some ⟨37, false⟩, false⟩ :: ⟨some 41, .fa 1 (.t 2), some ⟨40, true⟩, false⟩ :: ⟨some 42, .ld none (.t 41), some ⟨40, true⟩, false⟩ :: ⟨some 43, .bo .neq false (.t 42) (.c (I 0)), some ⟨40, true⟩, false⟩ :: ⟨some 44, .pk (.t 40) (.t 43) (.c (.b false)), some ⟨37, false⟩, false⟩ :: (gp 45 (.pk (.t 37) (.c (.b true)) (.t 44))) :: q_scope_part_j2
noncomputable def D_scope_part_j1 (a0 : ExprT) (a1 : Int) (w1_1 : Nat) : Option Bool :=
  if (a0.Kind == 1) = true then
    if a0.N < -9999999 then
      (D_scope_part_j2 a0 a1 w1_1 true).bind fun (x7 : Bool) =>
      some x7
    else
      if 9999999 < a0.N then
        (D_scope_part_j2 a0 a1 w1_1 true).bind fun (x8 : Bool) =>
        some x8
      else
        if 0 < (w1_1 : Int) then
          (D_scope_part_j2 a0 a1 w1_1 (a0.N != 0)).bind fun (x9 : Bool) =>
          some x9
        else
          (D_scope_part_j2 a0 a1 w1_1 false).bind fun (x9 : Bool) =>
          some x9
  else
    if 0 < (w1_1 : Int) then
      (D_scope_part_j2 a0 a1 w1_1 (a0.N != 0)).bind fun (x7 : Bool) =>
      some x7
    else
      (D_scope_part_j2 a0 a1 w1_1 false).bind fun (x7 : Bool) =>
      some x7
abbrev X_scope_part_j1 (a0 : ExprT) (a1 : Int) (w1_1 : Nat) (x : Bool) : St := ⟨[(1, (I a1)), (2, (.p ⟨0, 2⟩ 0)), (23, (.b x))], [(2, (kExprT a0))], H0⟩
abbrev O_scope_part_j1 (a0 : ExprT) (a1 : Int) (w1_1 : Nat) (x : Bool) : Prop := opsK G Ω0 E0 [1, 2, 23] [2] q_scope_part_j1 ⟨[(1, (I a1)), (2, (.p ⟨0, 2⟩ 0)), (5, (I (w1_1 : Int))), (17, (.b ((a0.Args.length : Int) != (w1_1 : Int))))], [(2, (kExprT a0))], H0⟩ = some (X_scope_part_j1 a0 a1 w1_1 x)
theorem LD_scope_part_j1 (a0 : ExprT) (a1 : Int) (w1_1 : Nat) (x : Bool) (h : D_scope_part_j1 a0 a1 w1_1 = some x) : O_scope_part_j1 a0 a1 w1_1 x :=
  iteB h (fun h5 h => iteP h (fun h6 h => bindP h fun x7 jn8 h => have jn8 := LD_scope_part_j2 a0 a1 w1_1 true .sk .sk .sk .sk .sk .sk .sk (.b true) (.b true) (.b true) .sk .sk .sk (.b (decide (a0.N < -9999999))) (.b (decide (a0.N < -9999999))) (I a0.N) (.p ⟨0, 2⟩ 1) _ jn8; lf h (opsKI [.b true, .b true, .b true, .b true, .b true, .b true, .b false, .b false, .b false, .b true, .b true, .b true, .b false, .b false, .b false, .b false, .b true, .jn (some 23) 0 ⟨[(1, (I a1)), (2, (.p ⟨0, 2⟩ 0)), (23, (.b x7))], [(2, (kExprT a0))], H0⟩] (fun z => ai (rfl : Z0) <| ai (g1 h5) <| ai (g1 h5) <| ai (rfl : Z0) <| ai (g1 h5) <| ai (g1 h5) <| ai (g0 (decide_eq_true h6)) <| ai (g0 (decide_eq_true h6)) <| ai (g0 (decide_eq_true h6)) <| ai (g1 h5) <| ai (decide_eq_true h6) <| ai h5 <| ai ((congrArg (fun z => z == false) rfl) : (true == false) = false) <| ai ((congrArg (fun z => z == false) rfl) : (true == false) = false) <| ai ((congrArg (fun z => z == false) rfl) : (true == false) = false) <| ai ((congrArg (fun z => z == false) rfl) : (true == false) = false) <| ai tt <| ai jn8 <| z) (by kernel_rfl))) (fun h6 h => iteP h (fun h7 h => bindP h fun x8 jn9 h => have jn9 := LD_scope_part_j2 a0 a1 w1_1 true .sk .sk .sk .sk .sk .sk .sk (.b (decide (9999999 < a0.N))) (.b (decide (9999999 < a0.N))) (.b (decide (9999999 < a0.N))) (.b (decide (9999999 < a0.N))) (I a0.N) (.p ⟨0, 2⟩ 1) (.b (decide (a0.N < -9999999))) (.b (decide (a0.N < -9999999))) (I a0.N) (.p ⟨0, 2⟩ 1) _ jn9; lf h (opsKI [.b true, .b true, .b true, .b true, .b true, .b true, .b true, .b true, .b true, .b true, .b true, .b false, .b true, .b false, .b false, .b false, .b false, .b true, .jn (some 23) 0 ⟨[(1, (I a1)), (2, (.p ⟨0, 2⟩ 0)), (23, (.b x8))], [(2, (kExprT a0))], H0⟩] (fun z => ai (rfl : Z0) <| ai (g1 h5) <| ai (g1 h5) <| ai (rfl : Z0) <| ai (g1 h5) <| ai (g1 h5) <| ai (g0 (decide_eq_false h6)) <| ai (g0 (decide_eq_false h6)) <| ai (rfl : Z0) <| ai (g0 (decide_eq_false h6)) <| ai (g1 h5) <| ai (decide_eq_false h6) <| ai h5 <| ai (g0 (decide_eq_true h7)) <| ai (g0 (decide_eq_true h7)) <| ai (g0 (decide_eq_true h7)) <| ai (g0 (decide_eq_true h7)) <| ai (decide_eq_true h7) <| ai jn9 <| z) (by kernel_rfl))) (fun h7 h => iteP h (fun h8 h => bindP h fun x9 jn10 h => have jn10 := LD_scope_part_j2 a0 a1 w1_1 (a0.N != 0) (.b (a0.N != 0)) (.b (a0.N != 0)) (I a0.N) (.p ⟨0, 2⟩ 1) (.b (decide (0 < (w1_1 : Int)))) (.b (decide (0 < (w1_1 : Int)))) (I (w1_1 : Int)) (.b (decide (9999999 < a0.N))) (.b (decide (9999999 < a0.N))) (.b (decide (9999999 < a0.N))) (.b (decide (9999999 < a0.N))) (I a0.N) (.p ⟨0, 2⟩ 1) (.b (decide (a0.N < -9999999))) (.b (decide (a0.N < -9999999))) (I a0.N) (.p ⟨0, 2⟩ 1) _ jn10; lf h (opsKI [.b true, .b true, .b true, .b true, .b true, .b true, .b true, .b true, .b true, .b true, .b true, .b false, .b true, .b true, .b true, .b true, .b true, .b true, .b true, .b true, .b true, .b true, .b false, .jn (some 23) 0 ⟨[(1, (I a1)), (2, (.p ⟨0, 2⟩ 0)), (23, (.b x9))], [(2, (kExprT a0))], H0⟩] (fun z => ai (rfl : Z0) <| ai (g1 h5) <| ai (g1 h5) <| ai (rfl : Z0) <| ai (g1 h5) <| ai (g1 h5) <| ai (g0 (decide_eq_false h6)) <| ai (g0 (decide_eq_false h6)) <| ai (rfl : Z0) <| ai (g0 (decide_eq_false h6)) <| ai (g1 h5) <| ai (decide_eq_false h6) <| ai h5 <| ai (g0 (decide_eq_false h7)) <| ai (g0 (decide_eq_false h7)) <| ai (g0 (decide_eq_false h7)) <| ai (g1 (decide_eq_true h8)) <| ai (g1 (decide_eq_true h8)) <| ai (rfl : Z0) <| ai (g1 (decide_eq_true h8)) <| ai (g0 (decide_eq_false h7)) <| ai (decide_eq_true h8) <| ai (decide_eq_false h7) <| ai jn10 <| z) (by kernel_rfl))) (fun h8 h => bindP h fun x9 jn10 h => have jn10 := LD_scope_part_j2 a0 a1 w1_1 false (.b false) .sk .sk .sk (.b (decide (0 < (w1_1 : Int)))) (.b (decide (0 < (w1_1 : Int)))) (I (w1_1 : Int)) (.b (decide (9999999 < a0.N))) (.b (decide (9999999 < a0.N))) (.b (decide (9999999 < a0.N))) (.b (decide (9999999 < a0.N))) (I a0.N) (.p ⟨0, 2⟩ 1) (.b (decide (a0.N < -9999999))) (.b (decide (a0.N < -9999999))) (I a0.N) (.p ⟨0, 2⟩ 1) _ jn10; lf h (opsKI [.b true, .b true, .b true, .b true, .b true, .b true, .b true, .b true, .b true, .b true, .b true, .b false, .b true, .b true, .b true, .b true, .b false, .b false, .b false, .b true, .b false, .b false, .jn (some 23) 0 ⟨[(1, (I a1)), (2, (.p ⟨0, 2⟩ 0)), (23, (.b x9))], [(2, (kExprT a0))], H0⟩] (fun z => ai (rfl : Z0) <| ai (g1 h5) <| ai (g1 h5) <| ai (rfl : Z0) <| ai (g1 h5) <| ai (g1 h5) <| ai (g0 (decide_eq_false h6)) <| ai (g0 (decide_eq_false h6)) <| ai (rfl : Z0) <| ai (g0 (decide_eq_false h6)) <| ai (g1 h5) <| ai (decide_eq_false h6) <| ai h5 <| ai (g0 (decide_eq_false h7)) <| ai (g0 (decide_eq_false h7)) <| ai (g0 (decide_eq_false h7)) <| ai (g1 (decide_eq_false h8)) <| ai (g1 (decide_eq_false h8)) <| ai (g1 (decide_eq_false h8)) <| ai (g0 (decide_eq_false h7)) <| ai (decide_eq_false h8) <| ai (decide_eq_false h7) <| ai jn10 <| z) (by kernel_rfl)))))) (fun h5 h => iteP h (fun h6 h => bindP h fun x7 jn8 h => have jn8 := LD_scope_part_j2 a0 a1 w1_1 (a0.N != 0) (.b (a0.N != 0)) (.b (a0.N != 0)) (I a0.N) (.p ⟨0, 2⟩ 1) (.b (decide (0 < (w1_1 : Int)))) (.b (decide (0 < (w1_1 : Int)))) (I (w1_1 : Int)) (.b false) (.b false) .sk .sk .sk .sk .sk .sk .sk .sk _ jn8; lf h (opsKI [.b true, .b false, .b false, .b false, .b false, .b false, .b false, .b true, .b true, .b true, .b true, .b true, .b true, .b true, .b true, .b true, .b false, .jn (some 23) 0 ⟨[(1, (I a1)), (2, (.p ⟨0, 2⟩ 0)), (23, (.b x7))], [(2, (kExprT a0))], H0⟩] (fun z => ai (rfl : Z0) <| ai (g1 h5) <| ai (g1 h5) <| ai (g1 h5) <| ai (g1 h5) <| ai (g1 h5) <| ai h5 <| ai ((congrArg (fun z => z == false) rfl) : (false == false) = true) <| ai ((congrArg (fun z => z == false) rfl) : (false == false) = true) <| ai ((congrArg (fun z => z == false) rfl) : (false == false) = true) <| ai (g1 (decide_eq_true h6)) <| ai (g1 (decide_eq_true h6)) <| ai (rfl : Z0) <| ai (g1 (decide_eq_true h6)) <| ai ((congrArg (fun z => z == false) rfl) : (false == false) = true) <| ai (decide_eq_true h6) <| ai ff <| ai jn8 <| z) (by kernel_rfl))) (fun h6 h => bindP h fun x7 jn8 h => have jn8 := LD_scope_part_j2 a0 a1 w1_1 false (.b false) .sk .sk .sk (.b (decide (0 < (w1_1 : Int)))) (.b (decide (0 < (w1_1 : Int)))) (I (w1_1 : Int)) (.b false) (.b false) .sk .sk .sk .sk .sk .sk .sk .sk _ jn8; lf h (opsKI [.b true, .b false, .b false, .b false, .b false, .b false, .b false, .b true, .b true, .b true, .b false, .b false, .b false, .b true, .b false, .b false, .jn (some 23) 0 ⟨[(1, (I a1)), (2, (.p ⟨0, 2⟩ 0)), (23, (.b x7))], [(2, (kExprT a0))], H0⟩] (fun z => ai (rfl : Z0) <| ai (g1 h5) <| ai (g1 h5) <| ai (g1 h5) <| ai (g1 h5) <| ai (g1 h5) <| ai h5 <| ai ((congrArg (fun z => z == false) rfl) : (false == false) = true) <| ai ((congrArg (fun z => z == false) rfl) : (false == false) = true) <| ai ((congrArg (fun z => z == false) rfl) : (false == false) = true) <| ai (g1 (decide_eq_false h6)) <| ai (g1 (decide_eq_false h6)) <| ai (g1 (decide_eq_false h6)) <| ai ((congrArg (fun z => z == false) rfl) : (false == false) = true) <| ai (decide_eq_false h6) <| ai ff <| ai jn8 <| z) (by kernel_rfl))))
noncomputable def D_scope_part_d1 (a0 : ExprT) (a1 : Int) (w1_1 : Nat) : Option (Unit ⊕ (Unit ⊕ (Unit ⊕ Unit))) :=
  if ((a0.Args.length : Int) != (w1_1 : Int)) = true then
    some (.inl ())
  else
    (D_scope_part_j1 a0 a1 w1_1).bind fun (x5 : Bool) =>
    if x5 = true then
      some (.inr (.inl ()))
    else
      if (a0.Kind == 2) = true then
        if a0.N < 0 then
          some (.inr (.inr (.inl ())))
        else
          if a1 ≤ a0.N then
            some (.inr (.inr (.inl ())))
          else
            some (.inr (.inr (.inr ())))
      else
        some (.inr (.inr (.inr ())))
abbrev X_scope_part_d1 (a0 : ExprT) (a1 : Int) (w1_1 : Nat) (x : (Unit ⊕ (Unit ⊕ (Unit ⊕ Unit)))) : AExit × St := match x with | .inl () => (.ret, ⟨[(4, (I 1))], [], H0⟩) | .inr (.inl ()) => (.ret, ⟨[(4, (I 3))], [], H0⟩) | .inr (.inr (.inl ())) => (.ret, ⟨[(4, (I 5))], [], H0⟩) | .inr (.inr (.inr ())) => (.ret, ⟨[(4, (I 0))], [], H0⟩)
abbrev O_scope_part_d1 (a0 : ExprT) (a1 : Int) (w1_1 : Nat) (x : (Unit ⊕ (Unit ⊕ (Unit ⊕ Unit)))) : Prop := run G Ω0 E0 e41_1 ⟨[(1, (I a1)), (2, (.p ⟨0, 2⟩ 0)), (5, (I (w1_1 : Int)))], [(2, (kExprT a0))], H0⟩ = some (X_scope_part_d1 a0 a1 w1_1 x)
theorem LD_scope_part_d1 (a0 : ExprT) (a1 : Int) (w1_1 : Nat) (x : (Unit ⊕ (Unit ⊕ (Unit ⊕ Unit)))) (h : D_scope_part_d1 a0 a1 w1_1 = some x) : O_scope_part_d1 a0 a1 w1_1 x :=
  iteB h (fun h4 h => lf h (runI [.b true, .i (a0.Args.length : Int), .b true] (fun z => ai (rfl : Z0) <| ai (map_len eExprT a0.Args) <| ai h4 <| z) (by kernel_rfl))) (fun h4 h => bindP h fun x5 jn6 h => have jn6 := LD_scope_part_j1 a0 a1 w1_1 _ jn6; iteB h (fun h7 h => lf h (runI [.b true, .i (a0.Args.length : Int), .b false, .jn (some 24) 22 ⟨[(1, (I a1)), (2, (.p ⟨0, 2⟩ 0)), (23, (.b x5))], [(2, (kExprT a0))], H0⟩, .b true] (fun z => ai (rfl : Z0) <| ai (map_len eExprT a0.Args) <| ai h4 <| ai jn6 <| ai h7 <| z) (by kernel_rfl))) (fun h7 h => iteB h (fun h8 h => iteP h (fun h9 h => lf h (runI [.b true, .i (a0.Args.length : Int), .b false, .jn (some 24) 22 ⟨[(1, (I a1)), (2, (.p ⟨0, 2⟩ 0)), (23, (.b x5))], [(2, (kExprT a0))], H0⟩, .b false, .b true, .b true, .b true, .b true, .b true, .b true, .b false, .b false, .b false, .b false, .b true, .b true, .b true, .b true] (fun z => ai (rfl : Z0) <| ai (map_len eExprT a0.Args) <| ai h4 <| ai jn6 <| ai h7 <| ai (rfl : Z0) <| ai (g1 h8) <| ai (g1 h8) <| ai (rfl : Z0) <| ai (g1 h8) <| ai (g1 h8) <| ai (g0 (decide_eq_true h9)) <| ai (g0 (decide_eq_true h9)) <| ai (g0 (decide_eq_true h9)) <| ai (g0 (decide_eq_true h9)) <| ai (g1 h8) <| ai (decide_eq_true h9) <| ai h8 <| ai tt <| z) (by kernel_rfl))) (fun h9 h => iteP h (fun h10 h => lf h (runI [.b true, .i (a0.Args.length : Int), .b false, .jn (some 24) 22 ⟨[(1, (I a1)), (2, (.p ⟨0, 2⟩ 0)), (23, (.b x5))], [(2, (kExprT a0))], H0⟩, .b false, .b true, .b true, .b true, .b true, .b true, .b true, .b true, .b true, .b true, .b true, .b true, .b true, .b false, .b true, .b true] (fun z => ai (rfl : Z0) <| ai (map_len eExprT a0.Args) <| ai h4 <| ai jn6 <| ai h7 <| ai (rfl : Z0) <| ai (g1 h8) <| ai (g1 h8) <| ai (rfl : Z0) <| ai (g1 h8) <| ai (g1 h8) <| ai (g0 (decide_eq_false h9)) <| ai (g0 (decide_eq_false h9)) <| ai (rfl : Z0) <| ai (g0 (decide_eq_false h9)) <| ai (g0 (decide_eq_false h9)) <| ai (g1 h8) <| ai (decide_eq_false h9) <| ai h8 <| ai (decide_eq_true h10) <| z) (by kernel_rfl))) (fun h10 h => lf h (runI [.b true, .i (a0.Args.length : Int), .b false, .jn (some 24) 22 ⟨[(1, (I a1)), (2, (.p ⟨0, 2⟩ 0)), (23, (.b x5))], [(2, (kExprT a0))], H0⟩, .b false, .b true, .b true, .b true, .b true, .b true, .b true, .b true, .b true, .b true, .b true, .b true, .b true, .b false, .b true, .b false] (fun z => ai (rfl : Z0) <| ai (map_len eExprT a0.Args) <| ai h4 <| ai jn6 <| ai h7 <| ai (rfl : Z0) <| ai (g1 h8) <| ai (g1 h8) <| ai (rfl : Z0) <| ai (g1 h8) <| ai (g1 h8) <| ai (g0 (decide_eq_false h9)) <| ai (g0 (decide_eq_false h9)) <| ai (rfl : Z0) <| ai (g0 (decide_eq_false h9)) <| ai (g0 (decide_eq_false h9)) <| ai (g1 h8) <| ai (decide_eq_false h9) <| ai h8 <| ai (decide_eq_false h10) <| z) (by kernel_rfl))))) (fun h8 h => lf h (runI [.b true, .i (a0.Args.length : Int), .b false, .jn (some 24) 22 ⟨[(1, (I a1)), (2, (.p ⟨0, 2⟩ 0)), (23, (.b x5))], [(2, (kExprT a0))], H0⟩, .b false, .b true, .b false, .b false, .b false, .b false, .b false, .b false, .b false] (fun z => ai (rfl : Z0) <| ai (map_len eExprT a0.Args) <| ai h4 <| ai jn6 <| ai h7 <| ai (rfl : Z0) <| ai (g1 h8) <| ai (g1 h8) <| ai (g1 h8) <| ai (g1 h8) <| ai (g1 h8) <| ai h8 <| ai ff <| z) (by kernel_rfl)))))
abbrev O_scope_part (a0 : ExprT) (a1 : Int) (r : Int) : Prop := call G Ω0 E0 41 [(.a (kExprT a0)), (I a1)] H0 = some (.ret (I r), H0)
noncomputable def F_scope_part (a0 : ExprT) (a1 : Int) : Option Int :=
  if a0.Kind < 1 then
    some 7
  else
    if 7 < a0.Kind then
      some 7
    else
      if 2 < a0.Kind then
        (D_scope_part_d1 a0 a1 2).bind fun (x4 : (Unit ⊕ (Unit ⊕ (Unit ⊕ Unit)))) => match x4 with
        | .inl () =>
          some 1
        | .inr (.inl ()) =>
          some 3
        | .inr (.inr (.inl ())) =>
          some 5
        | .inr (.inr (.inr ())) =>
          some 0
      else
        (D_scope_part_d1 a0 a1 0).bind fun (x4 : (Unit ⊕ (Unit ⊕ (Unit ⊕ Unit)))) => match x4 with
        | .inl () =>
          some 1
        | .inr (.inl ()) =>
          some 3
        | .inr (.inr (.inl ())) =>
          some 5
        | .inr (.inr (.inr ())) =>
          some 0
theorem lift_scope_part (a0 : ExprT) (a1 : Int) (r : Int) (h : F_scope_part a0 a1 = some r) : O_scope_part a0 a1 r :=
  iteP h (fun h1 h => lf h (callI G41 [.b true, .b false, .b false, .b false, .b true, .b true] (fun z => ai tt <| ai (rfl : Z0) <| ai (g0 (decide_eq_true h1)) <| ai (g0 (decide_eq_true h1)) <| ai (g0 (decide_eq_true h1)) <| ai (decide_eq_true h1) <| ai tt <| z) (by kernel_rfl))) (fun h1 h => iteP h (fun h2 h => lf h (callI G41 [.b true, .b true, .b true, .b true, .b true, .b false, .b true] (fun z => ai tt <| ai (rfl : Z0) <| ai (g0 (decide_eq_false h1)) <| ai (g0 (decide_eq_false h1)) <| ai (rfl : Z0) <| ai (g0 (decide_eq_false h1)) <| ai (decide_eq_false h1) <| ai (decide_eq_true h2) <| z) (by kernel_rfl))) (fun h2 h => iteP h (fun h3 h => (bindP h fun x4 hx h => match x4, hx, h with | .inl (), fr5, h => have fr5 := LD_scope_part_d1 a0 a1 2 _ fr5; lf h (callI G41 [.b true, .b true, .b true, .b true, .b true, .b false, .b false, .b true, .b true, .fr .ret ⟨[(4, (I 1))], [], H0⟩] (fun z => ai tt <| ai (rfl : Z0) <| ai (g0 (decide_eq_false h1)) <| ai (g0 (decide_eq_false h1)) <| ai (rfl : Z0) <| ai (g0 (decide_eq_false h1)) <| ai (decide_eq_false h1) <| ai (decide_eq_false h2) <| ai (rfl : Z0) <| ai (decide_eq_true h3) <| ai fr5 <| z) (by kernel_rfl)) | .inr (.inl ()), fr5, h => have fr5 := LD_scope_part_d1 a0 a1 2 _ fr5; lf h (callI G41 [.b true, .b true, .b true, .b true, .b true, .b false, .b false, .b true, .b true, .fr .ret ⟨[(4, (I 3))], [], H0⟩] (fun z => ai tt <| ai (rfl : Z0) <| ai (g0 (decide_eq_false h1)) <| ai (g0 (decide_eq_false h1)) <| ai (rfl : Z0) <| ai (g0 (decide_eq_false h1)) <| ai (decide_eq_false h1) <| ai (decide_eq_false h2) <| ai (rfl : Z0) <| ai (decide_eq_true h3) <| ai fr5 <| z) (by kernel_rfl)) | .inr (.inr (.inl ())), fr5, h => have fr5 := LD_scope_part_d1 a0 a1 2 _ fr5; lf h (callI G41 [.b true, .b true, .b true, .b true, .b true, .b false, .b false, .b true, .b true, .fr .ret ⟨[(4, (I 5))], [], H0⟩] (fun z => ai tt <| ai (rfl : Z0) <| ai (g0 (decide_eq_false h1)) <| ai (g0 (decide_eq_false h1)) <| ai (rfl : Z0) <| ai (g0 (decide_eq_false h1)) <| ai (decide_eq_false h1) <| ai (decide_eq_false h2) <| ai (rfl : Z0) <| ai (decide_eq_true h3) <| ai fr5 <| z) (by kernel_rfl)) | .inr (.inr (.inr ())), fr5, h => have fr5 := LD_scope_part_d1 a0 a1 2 _ fr5; lf h (callI G41 [.b true, .b true, .b true, .b true, .b true, .b false, .b false, .b true, .b true, .fr .ret ⟨[(4, (I 0))], [], H0⟩] (fun z => ai tt <| ai (rfl : Z0) <| ai (g0 (decide_eq_false h1)) <| ai (g0 (decide_eq_false h1)) <| ai (rfl : Z0) <| ai (g0 (decide_eq_false h1)) <| ai (decide_eq_false h1) <| ai (decide_eq_false h2) <| ai (rfl : Z0) <| ai (decide_eq_true h3) <| ai fr5 <| z) (by kernel_rfl)))) (fun h3 h => (bindP h fun x4 hx h => match x4, hx, h with | .inl (), fr5, h => have fr5 := LD_scope_part_d1 a0 a1 0 _ fr5; lf h (callI G41 [.b true, .b true, .b true, .b true, .b true, .b false, .b false, .b true, .b false, .fr .ret ⟨[(4, (I 1))], [], H0⟩] (fun z => ai tt <| ai (rfl : Z0) <| ai (g0 (decide_eq_false h1)) <| ai (g0 (decide_eq_false h1)) <| ai (rfl : Z0) <| ai (g0 (decide_eq_false h1)) <| ai (decide_eq_false h1) <| ai (decide_eq_false h2) <| ai (rfl : Z0) <| ai (decide_eq_false h3) <| ai fr5 <| z) (by kernel_rfl)) | .inr (.inl ()), fr5, h => have fr5 := LD_scope_part_d1 a0 a1 0 _ fr5; lf h (callI G41 [.b true, .b true, .b true, .b true, .b true, .b false, .b false, .b true, .b false, .fr .ret ⟨[(4, (I 3))], [], H0⟩] (fun z => ai tt <| ai (rfl : Z0) <| ai (g0 (decide_eq_false h1)) <| ai (g0 (decide_eq_false h1)) <| ai (rfl : Z0) <| ai (g0 (decide_eq_false h1)) <| ai (decide_eq_false h1) <| ai (decide_eq_false h2) <| ai (rfl : Z0) <| ai (decide_eq_false h3) <| ai fr5 <| z) (by kernel_rfl)) | .inr (.inr (.inl ())), fr5, h => have fr5 := LD_scope_part_d1 a0 a1 0 _ fr5; lf h (callI G41 [.b true, .b true, .b true, .b true, .b true, .b false, .b false, .b true, .b false, .fr .ret ⟨[(4, (I 5))], [], H0⟩] (fun z => ai tt <| ai (rfl : Z0) <| ai (g0 (decide_eq_false h1)) <| ai (g0 (decide_eq_false h1)) <| ai (rfl : Z0) <| ai (g0 (decide_eq_false h1)) <| ai (decide_eq_false h1) <| ai (decide_eq_false h2) <| ai (rfl : Z0) <| ai (decide_eq_false h3) <| ai fr5 <| z) (by kernel_rfl)) | .inr (.inr (.inr ())), fr5, h => have fr5 := LD_scope_part_d1 a0 a1 0 _ fr5; lf h (callI G41 [.b true, .b true, .b true, .b true, .b true, .b false, .b false, .b true, .b false, .fr .ret ⟨[(4, (I 0))], [], H0⟩] (fun z => ai tt <| ai (rfl : Z0) <| ai (g0 (decide_eq_false h1)) <| ai (g0 (decide_eq_false h1)) <| ai (rfl : Z0) <| ai (g0 (decide_eq_false h1)) <| ai (decide_eq_false h1) <| ai (decide_eq_false h2) <| ai (rfl : Z0) <| ai (decide_eq_false h3) <| ai fr5 <| z) (by kernel_rfl))))))
abbrev O_scope_parts (a0 : ExprT) (a1 : Int) (r : Int) : Prop := call G Ω0 E0 28 [(.a (kExprT a0)), (I a1)] H0 = some (.ret (I r), H0)
structure R_scope_parts where
  f_scope_parts : ExprT → Int → Option Int

structure OK_scope_parts (R : R_scope_parts) : Prop where
  f_scope_parts : ∀ (a0 : ExprT) (a1 : Int) (r : Int), R.f_scope_parts a0 a1 = some r → O_scope_parts a0 a1 r

noncomputable def B_scope_parts_0 (R : R_scope_parts) (a0 : ExprT) (a1 : Int) (v0_18 : Nat) : Option (Nat ⊕ (Int ⊕ (Nat × Bool))) :=
  if (v0_18 : Int) < (a0.Args.length : Int) then
    (a0.Args[v0_18]?).bind fun (y5 : ExprT) =>
    (R.f_scope_parts y5 a1).bind fun (r7 : Int) =>
    if (r7 != 0) = true then
      some (.inr (.inl r7))
    else
      if IntKind.i64.wrap ((v0_18 : Int) + 1) = ((v0_18 + 1 : Nat) : Int) then
        some (.inl (v0_18 + 1))
      else none
  else
    some (.inr (.inr (v0_18, decide ((v0_18 : Int) < (a0.Args.length : Int)))))
abbrev S_scope_parts_0 (a0 : ExprT) (a1 : Int) (v : Nat) : St := ⟨[(1, (I a1)), (16, (.l 24 (a0.Args.map eExprT))), (17, (I (a0.Args.length : Int))), (18, (I (v : Int)))], [], H0⟩
abbrev X_scope_parts_0 (a0 : ExprT) (a1 : Int) (x : (Int ⊕ (Nat × Bool))) : AExit × St := match x with | .inl z1 => (.ret, ⟨[(4, (I z1))], [], H0⟩) | .inr (z1, z2) => ((.ex 0), ⟨[(1, (I a1)), (16, (.l 24 (a0.Args.map eExprT))), (17, (I (a0.Args.length : Int))), (18, (I (z1 : Int))), (19, (.b z2))], [], H0⟩)
theorem LB_scope_parts_0 (R : R_scope_parts) (hR : OK_scope_parts R) (a0 : ExprT) (a1 : Int) (v0_18 : Nat) (o : Nat ⊕ (Int ⊕ (Nat × Bool))) (h : B_scope_parts_0 R a0 a1 v0_18 = some o) : bodyOK E0 c28_0 (S_scope_parts_0 a0 a1) (X_scope_parts_0 a0 a1) v0_18 o :=
  iteP h (fun h4 h => bindP h fun y5 h6 h => bindP h fun r7 ek8 h => have ek8 := hR.f_scope_parts y5 a1 _ ek8; iteB h (fun h9 h => lf h ⟨(runI [.b true, .n v0_18, .v (.a (kExprT y5)), .b true, .b true, .b true, .v (I r7), .b true] (fun z => ai (decide_eq_true h4) <| ai (rfl : (v0_18 : Int) = (v0_18 : Int)) <| ai (map_getE eExprT h6 (eExprT_eq _)) <| ai tt <| ai ff <| ai (rfl : Z0) <| ai tt <| ai (rfl : Z0) <| ai (rfl : Z0) <| ai ek8 <| ai h9 <| z) (by kernel_rfl)), ne_ret⟩) (fun h9 h => asrtP h fun w10 h => lf h (roundI [.b true, .n v0_18, .v (.a (kExprT y5)), .b true, .b true, .b true, .v (I r7), .b false, .i ((v0_18 + 1 : Nat) : Int)] (fun z => ai (decide_eq_true h4) <| ai (rfl : (v0_18 : Int) = (v0_18 : Int)) <| ai (map_getE eExprT h6 (eExprT_eq _)) <| ai tt <| ai ff <| ai (rfl : Z0) <| ai tt <| ai (rfl : Z0) <| ai (rfl : Z0) <| ai ek8 <| ai h9 <| ai w10 <| z) (by kernel_rfl)))) (fun h4 h => lf h ⟨(runI [.b false] (fun z => ai (decide_eq_false h4) <| z) (by kernel_rfl)), ne_ex _⟩)
theorem LL_scope_parts_0 (R : R_scope_parts) (hR : OK_scope_parts R) (a0 : ExprT) (a1 : Int) (v : Nat) (x : (Int ⊕ (Nat × Bool))) (h : lp (fun v => B_scope_parts_0 R a0 a1 v) v = some x) : lpAt G Ω0 E0 c28_0 (S_scope_parts_0 a0 a1 v) = some (X_scope_parts_0 a0 a1 x) :=
  lp_lift c28_0 (S_scope_parts_0 a0 a1) (X_scope_parts_0 a0 a1) (fun _ => rfl) (fun v o h => LB_scope_parts_0 R hR a0 a1 v o h) h
noncomputable def FB_scope_parts (R : R_scope_parts) (a0 : ExprT) (a1 : Int) : Option Int :=
  (F_scope_part a0 a1).bind fun (r1 : Int) =>
  if (r1 != 0) = true then
    some r1
  else
    (lp (fun v => B_scope_parts_0 R a0 a1 v) 0).bind fun (x4 : (Int ⊕ (Nat × Bool))) => match x4 with
    | .inl y_5 =>
      some y_5
    | .inr (y_5, y_6) =>
      some 0
theorem liftB_scope_parts (R : R_scope_parts) (hR : OK_scope_parts R) (a0 : ExprT) (a1 : Int) (r : Int) (h : FB_scope_parts R a0 a1 = some r) : O_scope_parts a0 a1 r :=
  bindP h fun r1 ek2 h => have ek2 := lift_scope_part a0 a1 _ ek2; iteB h (fun h3 h => lf h (callI G28 [.b true, .v (I r1), .b true] (fun z => ai tt <| ai (rfl : Z0) <| ai ek2 <| ai h3 <| z) (by kernel_rfl))) (fun h3 h => (bindP h fun x4 hx h => match x4, hx, h with | .inl y_5, lp6, h => have lp6 := LL_scope_parts_0 R hR a0 a1 0 _ lp6; lf h (callI G28 [.b true, .v (I r1), .b false, .b true, .i (a0.Args.length : Int), .lp .ret ⟨[(4, (I y_5))], [], H0⟩] (fun z => ai tt <| ai (rfl : Z0) <| ai ek2 <| ai h3 <| ai (rfl : Z0) <| ai (map_len eExprT a0.Args) <| ai lp6 <| z) (by kernel_rfl)) | .inr (y_5, y_6), lp7, h => have lp7 := LL_scope_parts_0 R hR a0 a1 0 _ lp7; lf h (callI G28 [.b true, .v (I r1), .b false, .b true, .i (a0.Args.length : Int), .lp (.ex 0) ⟨[(1, (I a1)), (16, (.l 24 (a0.Args.map eExprT))), (17, (I (a0.Args.length : Int))), (18, (I (y_5 : Int))), (19, (.b y_6))], [], H0⟩] (fun z => ai tt <| ai (rfl : Z0) <| ai ek2 <| ai h3 <| ai (rfl : Z0) <| ai (map_len eExprT a0.Args) <| ai lp7 <| z) (by kernel_rfl))))
noncomputable def N_scope_parts : Nat → R_scope_parts
  | 0 => ⟨fun z0 z1 => none⟩
  | n + 1 => ⟨FB_scope_parts (N_scope_parts n)⟩
theorem ok_scope_parts : ∀ n, OK_scope_parts (N_scope_parts n)
  | 0 => ⟨fun _ _ r h => (by cases h)⟩
  | n + 1 => ⟨fun a0 a1 r h => liftB_scope_parts _ (ok_scope_parts n) a0 a1 r h⟩
noncomputable def F_scope_parts (a0 : ExprT) (a1 : Int) : Option Int := ev fun n => (N_scope_parts n).f_scope_parts a0 a1
theorem lift_scope_parts (a0 : ExprT) (a1 : Int) (r : Int) (h : F_scope_parts a0 a1 = some r) : O_scope_parts a0 a1 r := by
  obtain ⟨n, hn⟩ := ev_some h
  exact (ok_scope_parts n).f_scope_parts a0 a1 r hn
abbrev O_scope_Expr (a0 : ExprT) (a1 : Int) (r : Int) : Prop := call G Ω0 E0 13 [(.a (kExprT a0)), (I a1)] H0 = some (.ret (I r), H0)
noncomputable def F_scope_Expr (a0 : ExprT) (a1 : Int) : Option Int :=
  (F_scope_size a0 15).bind fun (r1 : Int) =>
  if 15 < r1 then
    some 2
  else
    (F_scope_parts a0 a1).bind fun (r4 : Int) =>
    some r4
theorem lift_scope_Expr (a0 : ExprT) (a1 : Int) (r : Int) (h : F_scope_Expr a0 a1 = some r) : O_scope_Expr a0 a1 r :=
  bindP h fun r1 ek2 h => have ek2 := lift_scope_size a0 15 _ ek2; iteP h (fun h3 h => lf h (callI G13 [.b true, .v (I r1), .b true] (fun z => ai tt <| ai (rfl : Z0) <| ai ek2 <| ai (decide_eq_true h3) <| z) (by kernel_rfl))) (fun h3 h => bindP h fun r4 ek5 h => have ek5 := lift_scope_parts a0 a1 _ ek5; lf h (callI G13 [.b true, .v (I r1), .b false, .b true, .v (I r4)] (fun z => ai tt <| ai (rfl : Z0) <| ai ek2 <| ai (decide_eq_false h3) <| ai (rfl : Z0) <| ai ek5 <| z) (by kernel_rfl)))
abbrev O_run_truth (a0 : Bool) (r : Int) : Prop := call G Ω0 E0 30 [(.b a0)] H0 = some (.ret (I r), H0)
noncomputable def F_run_truth (a0 : Bool) : Option Int :=
  if a0 = true then
    some 1
  else
    some 0
theorem lift_run_truth (a0 : Bool) (r : Int) (h : F_run_truth a0 = some r) : O_run_truth a0 r :=
  iteB h (fun h1 h => lf h (callI G30 [.b true] (fun z => ai h1 <| z) (by kernel_rfl))) (fun h1 h => lf h (callI G30 [.b false] (fun z => ai h1 <| z) (by kernel_rfl)))
abbrev O_run_Value (a0 : ExprT) (a1 : (List Int)) (r : Int) : Prop := call G Ω0 E0 17 [(.a (kExprT a0)), (.l 3 (a1.map (I)))] H0 = some (.ret (I r), H0)
structure R_run_Value where
  f_run_Value : ExprT → (List Int) → Option Int

structure OK_run_Value (R : R_run_Value) : Prop where
  f_run_Value : ∀ (a0 : ExprT) (a1 : (List Int)) (r : Int), R.f_run_Value a0 a1 = some r → O_run_Value a0 a1 r

noncomputable def D_run_Value_d1 (R : R_run_Value) (w1_1 : Int) : Option Int :=
  some (IntKind.i64.wrap (IntKind.i32.wrap w1_1))
abbrev X_run_Value_d1 (w1_1 : Int) (x : Int) : AExit × St := (.ret, ⟨[(4, (I x))], [], H0⟩)
abbrev O_run_Value_d1 (w1_1 : Int) (x : Int) : Prop := run G Ω0 E0 e17_1 ⟨[(7, (I w1_1))], [], H0⟩ = some (X_run_Value_d1 w1_1 x)
theorem LD_run_Value_d1 (R : R_run_Value) (hR : OK_run_Value R) (w1_1 : Int) (x : Int) (h : D_run_Value_d1 R w1_1 = some x) : O_run_Value_d1 w1_1 x :=
  lf h (runI [.i (IntKind.i32.wrap w1_1), .i (IntKind.i64.wrap (IntKind.i32.wrap w1_1))] (fun z => ai (rfl : IntKind.i32.wrap w1_1 = IntKind.i32.wrap w1_1) <| ai (rfl : IntKind.i64.wrap (IntKind.i32.wrap w1_1) = IntKind.i64.wrap (IntKind.i32.wrap w1_1)) <| z) (by kernel_rfl))
noncomputable def FB_run_Value (R : R_run_Value) (a0 : ExprT) (a1 : (List Int)) : Option Int :=
  if (a0.Kind == 1) = true then
    some a0.N
  else
    if (a0.Kind == 2) = true then
      (natI a0.N).bind fun (j3 : Nat) =>
      (a1[j3]?).bind fun (y5 : Int) =>
      some y5
    else
      (a0.Args[0]?).bind fun (y3 : ExprT) =>
      (R.f_run_Value y3 a1).bind fun (r5 : Int) =>
      (a0.Args[1]?).bind fun (y7 : ExprT) =>
      (R.f_run_Value y7 a1).bind fun (r9 : Int) =>
      if (a0.Kind == 3) = true then
        if IntKind.i64.wrap (r5 + r9) = r5 + r9 then
          (D_run_Value_d1 R (r5 + r9)).bind fun (x13 : Int) =>
          some x13
        else none
      else
        if (a0.Kind == 4) = true then
          if IntKind.i64.wrap (r5 - r9) = r5 - r9 then
            (D_run_Value_d1 R (r5 - r9)).bind fun (x14 : Int) =>
            some x14
          else none
        else
          if (a0.Kind == 5) = true then
            if IntKind.i64.wrap (r5 * r9) = r5 * r9 then
              (D_run_Value_d1 R (r5 * r9)).bind fun (x15 : Int) =>
              some x15
            else none
          else
            if (a0.Kind == 6) = true then
              (F_run_truth (decide (r5 < r9))).bind fun (r15 : Int) =>
              (D_run_Value_d1 R r15).bind fun (x17 : Int) =>
              some x17
            else
              if (a0.Kind == 7) = true then
                (F_run_truth (r5 == r9)).bind fun (r16 : Int) =>
                (D_run_Value_d1 R r16).bind fun (x18 : Int) =>
                some x18
              else
                (D_run_Value_d1 R 0).bind fun (x16 : Int) =>
                some x16
theorem liftB_run_Value (R : R_run_Value) (hR : OK_run_Value R) (a0 : ExprT) (a1 : (List Int)) (r : Int) (h : FB_run_Value R a0 a1 = some r) : O_run_Value a0 a1 r :=
  iteB h (fun h1 h => lf h (callI G17 [.b true, .b true, .b true] (fun z => ai tt <| ai (rfl : Z0) <| ai h1 <| ai (rfl : Z0) <| z) (by kernel_rfl))) (fun h1 h => iteB h (fun h2 h => natP h fun j3 h4 h => bindP h fun y5 h6 h => lf h (callI G17 [.b true, .b false, .b true, .b true, .n j3, .v (I y5)] (fun z => ai tt <| ai (rfl : Z0) <| ai h1 <| ai h2 <| ai (rfl : Z0) <| ai h4 <| ai (map_get (I) h6) <| z) (by kernel_rfl))) (fun h2 h => bindP h fun y3 h4 h => bindP h fun r5 ek6 h => have ek6 := hR.f_run_Value y3 a1 _ ek6; bindP h fun y7 h8 h => bindP h fun r9 ek10 h => have ek10 := hR.f_run_Value y7 a1 _ ek10; iteB h (fun h11 h => asrtP h fun w12 h => bindP h fun x13 fr14 h => have fr14 := LD_run_Value_d1 R hR (r5 + r9) _ fr14; lf h (callI G17 [.b true, .b false, .b false, .b true, .n 0, .v (.a (kExprT y3)), .v (I r5), .b true, .n 1, .v (.a (kExprT y7)), .v (I r9), .b true, .b true, .i (r5 + r9), .fr .ret ⟨[(4, (I x13))], [], H0⟩] (fun z => ai tt <| ai (rfl : Z0) <| ai h1 <| ai h2 <| ai tt <| ai tt <| ai (rfl : Z0) <| ai tt <| ai (rfl : (0 : Int) = (0 : Int)) <| ai (map_getE eExprT h4 (eExprT_eq _)) <| ai tt <| ai tt <| ai tt <| ai ek6 <| ai tt <| ai tt <| ai (rfl : Z0) <| ai tt <| ai (rfl : (1 : Int) = (1 : Int)) <| ai (map_getE eExprT h8 (eExprT_eq _)) <| ai tt <| ai tt <| ai tt <| ai ek10 <| ai (rfl : Z0) <| ai h11 <| ai w12 <| ai fr14 <| z) (by kernel_rfl))) (fun h11 h => iteB h (fun h12 h => asrtP h fun w13 h => bindP h fun x14 fr15 h => have fr15 := LD_run_Value_d1 R hR (r5 - r9) _ fr15; lf h (callI G17 [.b true, .b false, .b false, .b true, .n 0, .v (.a (kExprT y3)), .v (I r5), .b true, .n 1, .v (.a (kExprT y7)), .v (I r9), .b true, .b false, .b true, .i (r5 - r9), .fr .ret ⟨[(4, (I x14))], [], H0⟩] (fun z => ai tt <| ai (rfl : Z0) <| ai h1 <| ai h2 <| ai tt <| ai tt <| ai (rfl : Z0) <| ai tt <| ai (rfl : (0 : Int) = (0 : Int)) <| ai (map_getE eExprT h4 (eExprT_eq _)) <| ai tt <| ai tt <| ai tt <| ai ek6 <| ai tt <| ai tt <| ai (rfl : Z0) <| ai tt <| ai (rfl : (1 : Int) = (1 : Int)) <| ai (map_getE eExprT h8 (eExprT_eq _)) <| ai tt <| ai tt <| ai tt <| ai ek10 <| ai (rfl : Z0) <| ai h11 <| ai h12 <| ai w13 <| ai fr15 <| z) (by kernel_rfl))) (fun h12 h => iteB h (fun h13 h => asrtP h fun w14 h => bindP h fun x15 fr16 h => have fr16 := LD_run_Value_d1 R hR (r5 * r9) _ fr16; lf h (callI G17 [.b true, .b false, .b false, .b true, .n 0, .v (.a (kExprT y3)), .v (I r5), .b true, .n 1, .v (.a (kExprT y7)), .v (I r9), .b true, .b false, .b false, .b true, .i (r5 * r9), .fr .ret ⟨[(4, (I x15))], [], H0⟩] (fun z => ai tt <| ai (rfl : Z0) <| ai h1 <| ai h2 <| ai tt <| ai tt <| ai (rfl : Z0) <| ai tt <| ai (rfl : (0 : Int) = (0 : Int)) <| ai (map_getE eExprT h4 (eExprT_eq _)) <| ai tt <| ai tt <| ai tt <| ai ek6 <| ai tt <| ai tt <| ai (rfl : Z0) <| ai tt <| ai (rfl : (1 : Int) = (1 : Int)) <| ai (map_getE eExprT h8 (eExprT_eq _)) <| ai tt <| ai tt <| ai tt <| ai ek10 <| ai (rfl : Z0) <| ai h11 <| ai h12 <| ai h13 <| ai w14 <| ai fr16 <| z) (by kernel_rfl))) (fun h13 h => iteB h (fun h14 h => bindP h fun r15 ek16 h => have ek16 := lift_run_truth (decide (r5 < r9)) _ ek16; bindP h fun x17 fr18 h => have fr18 := LD_run_Value_d1 R hR r15 _ fr18; lf h (callI G17 [.b true, .b false, .b false, .b true, .n 0, .v (.a (kExprT y3)), .v (I r5), .b true, .n 1, .v (.a (kExprT y7)), .v (I r9), .b true, .b false, .b false, .b false, .b true, .v (I r15), .fr .ret ⟨[(4, (I x17))], [], H0⟩] (fun z => ai tt <| ai (rfl : Z0) <| ai h1 <| ai h2 <| ai tt <| ai tt <| ai (rfl : Z0) <| ai tt <| ai (rfl : (0 : Int) = (0 : Int)) <| ai (map_getE eExprT h4 (eExprT_eq _)) <| ai tt <| ai tt <| ai tt <| ai ek6 <| ai tt <| ai tt <| ai (rfl : Z0) <| ai tt <| ai (rfl : (1 : Int) = (1 : Int)) <| ai (map_getE eExprT h8 (eExprT_eq _)) <| ai tt <| ai tt <| ai tt <| ai ek10 <| ai (rfl : Z0) <| ai h11 <| ai h12 <| ai h13 <| ai h14 <| ai ek16 <| ai fr18 <| z) (by kernel_rfl))) (fun h14 h => iteB h (fun h15 h => bindP h fun r16 ek17 h => have ek17 := lift_run_truth (r5 == r9) _ ek17; bindP h fun x18 fr19 h => have fr19 := LD_run_Value_d1 R hR r16 _ fr19; lf h (callI G17 [.b true, .b false, .b false, .b true, .n 0, .v (.a (kExprT y3)), .v (I r5), .b true, .n 1, .v (.a (kExprT y7)), .v (I r9), .b true, .b false, .b false, .b false, .b false, .b true, .v (I r16), .fr .ret ⟨[(4, (I x18))], [], H0⟩] (fun z => ai tt <| ai (rfl : Z0) <| ai h1 <| ai h2 <| ai tt <| ai tt <| ai (rfl : Z0) <| ai tt <| ai (rfl : (0 : Int) = (0 : Int)) <| ai (map_getE eExprT h4 (eExprT_eq _)) <| ai tt <| ai tt <| ai tt <| ai ek6 <| ai tt <| ai tt <| ai (rfl : Z0) <| ai tt <| ai (rfl : (1 : Int) = (1 : Int)) <| ai (map_getE eExprT h8 (eExprT_eq _)) <| ai tt <| ai tt <| ai tt <| ai ek10 <| ai (rfl : Z0) <| ai h11 <| ai h12 <| ai h13 <| ai h14 <| ai h15 <| ai ek17 <| ai fr19 <| z) (by kernel_rfl))) (fun h15 h => bindP h fun x16 fr17 h => have fr17 := LD_run_Value_d1 R hR 0 _ fr17; lf h (callI G17 [.b true, .b false, .b false, .b true, .n 0, .v (.a (kExprT y3)), .v (I r5), .b true, .n 1, .v (.a (kExprT y7)), .v (I r9), .b true, .b false, .b false, .b false, .b false, .b false, .fr .ret ⟨[(4, (I x16))], [], H0⟩] (fun z => ai tt <| ai (rfl : Z0) <| ai h1 <| ai h2 <| ai tt <| ai tt <| ai (rfl : Z0) <| ai tt <| ai (rfl : (0 : Int) = (0 : Int)) <| ai (map_getE eExprT h4 (eExprT_eq _)) <| ai tt <| ai tt <| ai tt <| ai ek6 <| ai tt <| ai tt <| ai (rfl : Z0) <| ai tt <| ai (rfl : (1 : Int) = (1 : Int)) <| ai (map_getE eExprT h8 (eExprT_eq _)) <| ai tt <| ai tt <| ai tt <| ai ek10 <| ai (rfl : Z0) <| ai h11 <| ai h12 <| ai h13 <| ai h14 <| ai h15 <| ai fr17 <| z) (by kernel_rfl)))))))))
noncomputable def N_run_Value : Nat → R_run_Value
  | 0 => ⟨fun z0 z1 => none⟩
  | n + 1 => ⟨FB_run_Value (N_run_Value n)⟩
theorem ok_run_Value : ∀ n, OK_run_Value (N_run_Value n)
  | 0 => ⟨fun _ _ r h => (by cases h)⟩
  | n + 1 => ⟨fun a0 a1 r h => liftB_run_Value _ (ok_run_Value n) a0 a1 r h⟩
noncomputable def F_run_Value (a0 : ExprT) (a1 : (List Int)) : Option Int := ev fun n => (N_run_Value n).f_run_Value a0 a1
theorem lift_run_Value (a0 : ExprT) (a1 : (List Int)) (r : Int) (h : F_run_Value a0 a1 = some r) : O_run_Value a0 a1 r := by
  obtain ⟨n, hn⟩ := ev_some h
  exact (ok_run_Value n).f_run_Value a0 a1 r hn
abbrev O_run_number (a0 : Int) (r : Bool) : Prop := call G Ω0 E0 16 [(I a0)] H0 = some (.ret (.b r), H0)
noncomputable def F_run_number (a0 : Int) : Option Bool :=
  if -2147483648 ≤ a0 then
    some (decide (a0 ≤ 2147483647))
  else
    some false
theorem lift_run_number (a0 : Int) (r : Bool) (h : F_run_number a0 = some r) : O_run_number a0 r :=
  iteP h (fun h1 h => lf h (callI G16 [.b true, .b true, .b true] (fun z => ai (g1 (decide_eq_true h1)) <| ai (g1 (decide_eq_true h1)) <| ai (decide_eq_true h1) <| z) (by kernel_rfl))) (fun h1 h => lf h (callI G16 [.b false, .b false, .b false] (fun z => ai (g1 (decide_eq_false h1)) <| ai (g1 (decide_eq_false h1)) <| ai (decide_eq_false h1) <| z) (by kernel_rfl)))
end Go.Proofs.Ytdoiklliklkbgaa.A
