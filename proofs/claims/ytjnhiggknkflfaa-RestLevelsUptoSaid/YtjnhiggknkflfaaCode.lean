/- The abstract code of the functions, made by program. -/
import Derived.Test.YtjnhiggknkflfaaAbsO
set_option maxRecDepth 100000
set_option linter.unusedSectionVars false
set_option linter.unusedVariables false
set_option linter.unusedSimpArgs false
set_option linter.constructorNameAsVariable false
namespace Go.Proofs.Ytjnhiggknkflfaa.A
open Go
abbrev gp (d : Nat) (x : AOp) : GOp := ⟨some d, x, none, false⟩
def e3_4 : AC := (.sq (.rg [] [gp 83 (.lw 2 (.t 15)), gp 84 (.sp 14 (.t 83))] [4, 5, 6, 7, 10, 11, 12, 13, 14, 17, 19] [4, 5, 6, 7, 10, 11, 13, 17, 19]) (.sq (.rg [] [gp 85 (.lw 2 (.t 17)), gp 86 (.sp 14 (.t 85))] [4, 5, 6, 7, 10, 11, 12, 13, 14, 19] [4, 5, 6, 7, 10, 11, 13, 19]) (.rg [] [gp 87 (.lw 2 (.t 19)), gp 88 (.sp 14 (.t 87))] [4, 5, 6, 7, 10, 11, 12, 13, 14] [4, 5, 6, 7, 10, 11, 13])))
def d3_4 : AC := .kp [4, 5, 6, 7, 10, 11, 12, 13, 14, 15, 17, 19] [4, 5, 6, 7, 10, 11, 13, 15, 17, 19] e3_4
def e3_3 : AC := (.sq (.bl 1 (.sq (.rg [] [gp 46 (.ld (some 2) (.t 4)), gp 47 (.ld (some 2) (.t 10)), gp 48 (.ld (some 2) (.t 11)), gp 49 (.cw 4 9 [(.t 46), (.t 47), (.t 48)]), gp 45 (.mv (.t 49)), gp 50 (.xw (.t 45) 0), gp 51 (.xw (.t 45) 1), gp 15 (.al [(.l 4 []), (.l 4 [])]), ⟨none, .sw 2 (.t 15) (.t 50), none, false⟩, gp 16 (.as (.t 51))] [4, 5, 6, 7, 10, 11, 12, 13, 14, 15] [4, 5, 6, 7, 10, 11, 13, 15]) (.sq (.rg [] [gp 53 (.ld (some 2) (.t 4)), gp 54 (.ld (some 2) (.t 10)), gp 55 (.ld (some 2) (.t 11)), gp 56 (.cw 4 10 [(.t 53), (.t 54), (.t 55)]), gp 52 (.mv (.t 56)), gp 57 (.xw (.t 52) 0), gp 58 (.xw (.t 52) 1), gp 17 (.al [(.l 4 []), (.l 4 [])]), ⟨none, .sw 2 (.t 17) (.t 57), none, false⟩, gp 18 (.as (.t 58))] [4, 5, 6, 7, 10, 11, 12, 13, 14, 15, 17] [4, 5, 6, 7, 10, 11, 13, 15, 17]) (.sq (.rg [] [gp 60 (.ld (some 2) (.t 4)), gp 61 (.ld (some 2) (.t 7)), gp 62 (.cw 4 11 [(.t 60), (.t 61)]), gp 59 (.mv (.t 62)), gp 63 (.xw (.t 59) 0), gp 64 (.xw (.t 59) 1), gp 19 (.al [(.l 4 []), (.l 4 [])]), ⟨none, .sw 2 (.t 19) (.t 63), none, false⟩, gp 20 (.as (.t 64))] [4, 5, 6, 7, 10, 11, 12, 13, 14, 15, 17, 19, 20] [4, 5, 6, 7, 10, 11, 13, 15, 17, 19]) (.sq (.sq (.rg [] [gp 65 (.ld (some 2) (.t 10)), gp 66 (.ld (some 2) (.t 5)), gp 67 (.ca 0 12 [(.t 65), (.t 66)]), gp 68 (.no (.t 67)), gp 69 (.mv (.t 68)), ⟨some 70, .ld (some 2) (.t 11), (some (69, false)), false⟩, ⟨some 71, .ld (some 2) (.t 6), (some (69, false)), false⟩, ⟨some 72, .ca 0 12 [(.t 70), (.t 71)], (some (69, false)), false⟩, ⟨some 73, .no (.t 72), (some (69, false)), false⟩, gp 74 (.pk (.t 69) (.c (.b true)) (.t 73)), gp 75 (.mv (.t 74)), ⟨some 76, .lw 2 (.t 19), (some (75, false)), false⟩, ⟨some 77, .mv (.t 20), (some (75, false)), false⟩, ⟨some 78, .mv (.t 12), (some (75, false)), false⟩, ⟨some 79, .ld (some 2) (.t 13), (some (75, false)), false⟩, ⟨some 80, .ca 0 13 [(.t 76), (.t 77), (.t 78), (.t 79)], (some (75, false)), false⟩, ⟨some 81, .no (.t 80), (some (75, false)), false⟩, gp 82 (.pk (.t 75) (.c (.b true)) (.t 81))] [4, 5, 6, 7, 10, 11, 12, 13, 14, 15, 17, 19, 82] [4, 5, 6, 7, 10, 11, 13, 15, 17, 19]) (.ite (.t 82) (.sq (.rg [] [gp 8 (.as (.c (.b false)))] [8] []) .rt) .sk)) d3_4))))) (.rg [] [gp 43 (.mv (.t 14)), gp 44 (.bo .add false (.t 43) (.c (.i .i64 1))), gp 14 (.as (.t 44))] [4, 5, 6, 7, 10, 11, 12, 13, 14] [4, 5, 6, 7, 10, 11, 13]))
def d3_3 : AC := .kp [4, 5, 6, 7, 10, 11, 12, 13, 14] [4, 5, 6, 7, 10, 11, 13] e3_3
def b3_0 : AC := (.sq (.sq (.rg [] [gp 41 (.mv (.t 14)), gp 42 (.bo .lss false (.t 41) (.c (.i .i64 2)))] [4, 5, 6, 7, 10, 11, 12, 13, 14, 42] [4, 5, 6, 7, 10, 11, 13]) (.ite (.t 42) .sk (.ex 0))) d3_3)
def c3_0 : LoopC := ⟨[4, 5, 6, 7, 10, 11, 12, 13, 14], [4, 5, 6, 7, 10, 11, 13], b3_0⟩
theorem c3_0_kf : c3_0.kf = [4, 5, 6, 7, 10, 11, 12, 13, 14] := rfl
theorem c3_0_kb : c3_0.kb = [4, 5, 6, 7, 10, 11, 13] := rfl
theorem c3_0_x : c3_0.x = b3_0 := rfl
attribute [simp] c3_0_kf c3_0_kb c3_0_x
def e3_2 : AC := (.sq (.sq (.rg [] [gp 14 (.as (.c (.i .i64 0)))] [4, 5, 6, 7, 10, 11, 12, 13, 14] [4, 5, 6, 7, 10, 11, 13]) (.bl 0 c3_0.lp)) (.sq (.rg [] [gp 8 (.as (.c (.b true)))] [8] []) .rt))
def d3_2 : AC := .kp [4, 5, 6, 7, 10, 11, 12, 13] [4, 5, 6, 7, 10, 11, 13] e3_2
def e3_1 : AC := (.sq (.rg [] [gp 13 (.al [(.l 4 []), (.l 4 [])])] [4, 5, 6, 7, 10, 11, 12, 13] [4, 5, 6, 7, 10, 11, 13]) (.sq (.sq (.rg [] [gp 36 (.mv (.t 12)), gp 37 (.bo .eql false (.t 36) (.c (.i .i64 0)))] [4, 5, 6, 7, 10, 11, 12, 13, 37] [4, 5, 6, 7, 10, 11, 13]) (.ite (.t 37) (.rg [] [gp 38 (.ld (some 2) (.t 4)), gp 39 (.ld (some 2) (.t 7)), gp 40 (.ca 0 8 [(.t 38), (.t 39)]), ⟨none, .st 2 (.t 13) (.t 40), none, false⟩] [4, 5, 6, 7, 10, 11, 12, 13] [4, 5, 6, 7, 10, 11, 13]) .sk)) d3_2))
def d3_1 : AC := .kp [4, 5, 6, 7, 10, 11, 12] [4, 5, 6, 7, 10, 11] e3_1
def e3_0 : AC := (.sq (.rg [] [gp 9 (.as (.c (.f 5 [])))] [4, 5, 6, 7, 9] [4, 5, 6, 7]) (.sq (.dg [] [10, 11] [⟨gp 23 (.mv (.t 9)), true, [9], [], false, [], [10, 11], []⟩, ⟨gp 24 (.ld (some 2) (.t 5)), true, [5], [5], false, [], [10, 11], []⟩, ⟨gp 25 (.cf 0 (.t 23) [(.t 24)]), true, [23, 24], [], false, [], [10, 11], []⟩, ⟨gp 26 (.mv (.t 9)), true, [9], [], false, [], [10, 11], []⟩, ⟨gp 27 (.ld (some 2) (.t 6)), true, [6], [6], false, [], [10, 11], []⟩, ⟨gp 28 (.cf 0 (.t 26) [(.t 27)]), true, [26, 27], [], false, [], [10, 11], []⟩, ⟨gp 10 (.al [(.l 4 []), (.l 4 [])]), true, [], [], false, [], [11], []⟩, ⟨gp 11 (.al [(.l 4 []), (.l 4 [])]), true, [], [], false, [], [10], []⟩, ⟨⟨none, .st 2 (.t 10) (.t 25), none, false⟩, false, [], [], false, [], [], []⟩, ⟨⟨none, .st 2 (.t 11) (.t 28), none, false⟩, false, [], [], false, [], [], []⟩] [4, 5, 6, 7, 10, 11] [4, 5, 6, 7, 10, 11]) (.sq (.rg [] [gp 29 (.ld (some 2) (.t 4)), gp 30 (.ca 0 6 [(.t 29)]), gp 12 (.as (.t 30))] [4, 5, 6, 7, 10, 11, 12] [4, 5, 6, 7, 10, 11]) (.sq (.sq (.rg [] [gp 31 (.mv (.t 12)), gp 32 (.bo .eql false (.t 31) (.c (.i .i64 0)))] [4, 5, 6, 7, 10, 11, 12, 32] [4, 5, 6, 7, 10, 11]) (.ite (.t 32) (.rg [] [gp 33 (.ld (some 2) (.t 4)), gp 34 (.ld (some 2) (.t 7)), gp 35 (.ca 0 7 [(.t 33), (.t 34)]), gp 12 (.as (.t 35))] [4, 5, 6, 7, 10, 11, 12] [4, 5, 6, 7, 10, 11]) .sk)) d3_1))))
def d3_0 : AC := .kp [4, 5, 6, 7] [4, 5, 6, 7] e3_0
def c3 : AFn := ⟨(.sq (.rg [] [gp 4 (.bx (.t 0)), gp 5 (.bx (.t 1)), gp 6 (.bx (.t 2)), gp 7 (.bx (.t 3)), gp 8 (.as (.c (.b false)))] [4, 5, 6, 7] [4, 5, 6, 7]) (.sq (.sq (.rg [] [gp 21 (.ca 0 4 []), gp 22 (.no (.t 21))] [4, 5, 6, 7, 22] [4, 5, 6, 7]) (.ite (.t 22) (.sq (.rg [] [gp 8 (.as (.c (.b false)))] [8] []) .rt) .sk)) d3_0)), [.t 8]⟩
def c4 : AFn := ⟨(.sq (.rg [] [gp 0 (.as (.c (.b false)))] [] []) (.sq (.rg [] [gp 14 (.ca 0 15 []), gp 15 (.ca 0 16 []), gp 16 (.ca 0 11 [(.t 14), (.t 15)]), gp 13 (.mv (.t 16)), gp 17 (.ex (.t 13) 0), gp 18 (.ex (.t 13) 1), gp 1 (.al [(.l 4 []), (.l 4 [])]), ⟨none, .st 2 (.t 1) (.t 17), none, false⟩, gp 2 (.as (.t 18))] [1, 2] [1]) (.sq (.rg [] [gp 20 (.ca 0 15 []), gp 21 (.bd [(.l 61 []), (.l 61 [])] []), gp 22 (.ca 0 11 [(.t 20), (.t 21)]), gp 19 (.mv (.t 22)), gp 23 (.ex (.t 19) 0), gp 24 (.ex (.t 19) 1), gp 3 (.al [(.l 4 []), (.l 4 [])]), ⟨none, .st 2 (.t 3) (.t 23), none, false⟩, gp 4 (.as (.t 24))] [1, 2, 3, 4] [1, 3]) (.sq (.dg [] [] [⟨gp 26 (.ca 0 15 []), true, [], [], false, [], [], []⟩, ⟨gp 27 (.ld (some 2) (.t 3)), true, [3], [3], false, [], [], []⟩, ⟨gp 28 (.ld (some 2) (.t 1)), true, [1], [1], false, [], [], []⟩, ⟨gp 29 (.ca 0 17 [(.t 26), (.t 27), (.t 28)]), true, [26, 27, 28], [], false, [], [], []⟩, ⟨gp 25 (.mv (.t 29)), true, [29], [], false, [], [], []⟩, ⟨gp 30 (.ex (.t 25) 0), true, [25], [], false, [], [], []⟩, ⟨gp 31 (.ex (.t 25) 1), true, [25], [], false, [], [], []⟩, ⟨gp 5 (.as (.t 30)), true, [30], [], false, [], [], []⟩, ⟨gp 6 (.as (.t 31)), false, [], [], false, [], [], []⟩] [1, 2, 3, 4, 5, 6] [1, 3]) (.sq (.dg [] [] [⟨gp 33 (.ca 0 15 []), true, [], [], false, [], [], []⟩, ⟨gp 34 (.ld (some 2) (.t 1)), true, [1], [1], false, [], [], []⟩, ⟨gp 35 (.ld (some 2) (.t 3)), true, [3], [3], false, [], [], []⟩, ⟨gp 36 (.ca 0 17 [(.t 33), (.t 34), (.t 35)]), true, [33, 34, 35], [], false, [], [], []⟩, ⟨gp 32 (.mv (.t 36)), true, [36], [], false, [], [], []⟩, ⟨gp 37 (.ex (.t 32) 0), true, [32], [], false, [], [], []⟩, ⟨gp 38 (.ex (.t 32) 1), true, [32], [], false, [], [], []⟩, ⟨gp 7 (.as (.t 37)), true, [37], [], false, [], [], []⟩, ⟨gp 8 (.as (.t 38)), false, [], [], false, [], [], []⟩] [1, 2, 3, 4, 5, 6, 7, 8] [1, 3]) (.sq (.dg [] [9] [⟨gp 40 (.ca 0 15 []), true, [], [], false, [], [9], []⟩, ⟨gp 41 (.ld (some 2) (.t 1)), true, [1], [1], false, [], [9], []⟩, ⟨gp 42 (.ld (some 2) (.t 3)), true, [3], [3], false, [], [9], []⟩, ⟨gp 43 (.ca 0 9 [(.t 40), (.t 41), (.t 42)]), true, [40, 41, 42], [], false, [], [9], []⟩, ⟨gp 39 (.mv (.t 43)), true, [43], [], false, [], [9], []⟩, ⟨gp 44 (.ex (.t 39) 0), true, [39], [], false, [], [9], []⟩, ⟨gp 45 (.ex (.t 39) 1), true, [39], [], false, [], [9], []⟩, ⟨gp 9 (.al [(.l 4 []), (.l 4 [])]), true, [], [], false, [], [], []⟩, ⟨⟨none, .st 2 (.t 9) (.t 44), none, false⟩, true, [9, 44], [9], false, [], [], []⟩, ⟨gp 10 (.as (.t 45)), false, [], [], false, [], [], []⟩] [1, 2, 3, 4, 5, 6, 7, 8, 9, 10] [1, 3, 9]) (.sq (.dg [] [11] [⟨gp 47 (.ca 0 15 []), true, [], [], false, [], [11], []⟩, ⟨gp 48 (.ld (some 2) (.t 1)), true, [1], [1], false, [], [11], []⟩, ⟨gp 49 (.ld (some 2) (.t 3)), true, [3], [3], false, [], [11], []⟩, ⟨gp 50 (.ca 0 10 [(.t 47), (.t 48), (.t 49)]), true, [47, 48, 49], [], false, [], [11], []⟩, ⟨gp 46 (.mv (.t 50)), true, [50], [], false, [], [11], []⟩, ⟨gp 51 (.ex (.t 46) 0), true, [46], [], false, [], [11], []⟩, ⟨gp 52 (.ex (.t 46) 1), true, [46], [], false, [], [11], []⟩, ⟨gp 11 (.al [(.l 4 []), (.l 4 [])]), true, [], [], false, [], [], []⟩, ⟨⟨none, .st 2 (.t 11) (.t 51), none, false⟩, true, [11, 51], [11], false, [], [], []⟩, ⟨gp 12 (.as (.t 52)), false, [], [], false, [], [], []⟩] [1, 2, 3, 4, 5, 6, 7, 8, 9, 10, 11, 12] [1, 3, 9, 11]) (.sq (.dg [] [107, 113] [⟨gp 53 (.ca 0 15 []), true, [], [], false, [], [107, 113], []⟩, ⟨gp 54 (.ca 0 16 []), true, [], [], false, [], [107, 113], []⟩, ⟨gp 55 (.ca 0 18 [(.t 53), (.t 54)]), true, [53, 54], [], false, [], [107, 113], []⟩, ⟨gp 56 (.bo .eql false (.t 55) (.c (.i .i64 0))), true, [55], [], false, [], [107, 113], []⟩, ⟨gp 57 (.mv (.t 56)), true, [56], [], false, [], [107, 113], []⟩, ⟨⟨some 58, .ca 0 15 [], (some (57, true)), false⟩, true, [], [], false, [], [107, 113], []⟩, ⟨⟨some 59, .ld (some 2) (.t 1), (some (57, true)), false⟩, true, [1], [1], false, [], [107, 113], []⟩, ⟨⟨some 60, .ca 0 19 [(.t 58), (.t 59)], (some (57, true)), false⟩, true, [58, 59], [], false, [], [107, 113], []⟩, ⟨⟨some 61, .bo .eql false (.t 60) (.c (.i .i64 0)), (some (57, true)), false⟩, true, [60], [], false, [], [107, 113], []⟩, ⟨gp 62 (.pk (.t 57) (.t 61) (.c (.b false))), true, [57, 61], [], false, [], [107, 113], []⟩, ⟨gp 63 (.mv (.t 62)), true, [62], [], false, [], [107, 113], []⟩, ⟨⟨some 64, .mv (.t 2), (some (63, true)), false⟩, true, [2], [], false, [], [107, 113], []⟩, ⟨⟨some 65, .bo .eql false (.t 64) (.c (.i .i64 0)), (some (63, true)), false⟩, true, [64], [], false, [], [107, 113], []⟩, ⟨gp 66 (.pk (.t 63) (.t 65) (.c (.b false))), true, [63, 65], [], false, [], [107, 113], []⟩, ⟨gp 67 (.mv (.t 66)), true, [66], [], false, [], [107, 113], []⟩, ⟨⟨some 68, .mv (.t 4), (some (67, true)), false⟩, true, [4], [], false, [], [107, 113], []⟩, ⟨⟨some 69, .bo .eql false (.t 68) (.c (.i .i64 0)), (some (67, true)), false⟩, true, [68], [], false, [], [107, 113], []⟩, ⟨gp 70 (.pk (.t 67) (.t 69) (.c (.b false))), true, [67, 69], [], false, [], [107, 113], []⟩, ⟨gp 71 (.mv (.t 70)), true, [70], [], false, [], [107, 113], []⟩, ⟨⟨some 72, .mv (.t 6), (some (71, true)), false⟩, true, [6], [], false, [], [107, 113], []⟩, ⟨⟨some 73, .bo .eql false (.t 72) (.c (.i .i64 0)), (some (71, true)), false⟩, true, [72], [], false, [], [107, 113], []⟩, ⟨gp 74 (.pk (.t 71) (.t 73) (.c (.b false))), true, [71, 73], [], false, [], [107, 113], []⟩, ⟨gp 75 (.mv (.t 74)), true, [74], [], false, [], [107, 113], []⟩, ⟨⟨some 76, .mv (.t 8), (some (75, true)), false⟩, true, [8], [], false, [], [107, 113], []⟩, ⟨⟨some 77, .bo .eql false (.t 76) (.c (.i .i64 0)), (some (75, true)), false⟩, true, [76], [], false, [], [107, 113], []⟩, ⟨gp 78 (.pk (.t 75) (.t 77) (.c (.b false))), true, [75, 77], [], false, [], [107, 113], []⟩, ⟨gp 79 (.mv (.t 78)), true, [78], [], false, [], [107, 113], []⟩, ⟨⟨some 80, .mv (.t 10), (some (79, true)), false⟩, true, [10], [], false, [], [107, 113], []⟩, ⟨⟨some 81, .bo .eql false (.t 80) (.c (.i .i64 0)), (some (79, true)), false⟩, true, [80], [], false, [], [107, 113], []⟩, ⟨gp 82 (.pk (.t 79) (.t 81) (.c (.b false))), true, [79, 81], [], false, [], [107, 113], []⟩, ⟨gp 83 (.mv (.t 82)), true, [82], [], false, [], [107, 113], []⟩, ⟨⟨some 84, .mv (.t 12), (some (83, true)), false⟩, true, [12], [], false, [], [107, 113], []⟩, ⟨⟨some 85, .bo .eql false (.t 84) (.c (.i .i64 0)), (some (83, true)), false⟩, true, [84], [], false, [], [107, 113], []⟩, ⟨gp 86 (.pk (.t 83) (.t 85) (.c (.b false))), true, [83, 85], [], false, [], [107, 113], []⟩, ⟨gp 87 (.mv (.t 86)), true, [86], [], false, [], [107, 113], []⟩, ⟨⟨some 88, .mv (.t 5), (some (87, true)), false⟩, true, [5], [], false, [], [107, 113], []⟩, ⟨gp 89 (.pk (.t 87) (.t 88) (.c (.b false))), true, [87, 88], [], false, [], [107, 113], []⟩, ⟨gp 90 (.mv (.t 89)), true, [89], [], false, [], [107, 113], []⟩, ⟨⟨some 91, .mv (.t 7), (some (90, true)), false⟩, true, [7], [], false, [], [107, 113], []⟩, ⟨⟨some 92, .no (.t 91), (some (90, true)), false⟩, true, [91], [], false, [], [107, 113], []⟩, ⟨gp 93 (.pk (.t 90) (.t 92) (.c (.b false))), true, [90, 92], [], false, [], [107, 113], []⟩, ⟨gp 94 (.mv (.t 93)), true, [93], [], false, [], [107, 113], []⟩, ⟨⟨some 95, .ld (some 2) (.t 9), (some (94, true)), false⟩, true, [9], [9], false, [], [107, 113], []⟩, ⟨⟨some 96, .ld (some 2) (.t 1), (some (94, true)), false⟩, true, [1], [1], false, [], [107, 113], []⟩, ⟨⟨some 97, .ca 0 12 [(.t 95), (.t 96)], (some (94, true)), false⟩, true, [95, 96], [], false, [], [107, 113], []⟩, ⟨gp 98 (.pk (.t 94) (.t 97) (.c (.b false))), true, [94, 97], [], false, [], [107, 113], []⟩, ⟨gp 99 (.mv (.t 98)), true, [98], [], false, [], [107, 113], []⟩, ⟨⟨some 100, .ld (some 2) (.t 11), (some (99, true)), false⟩, true, [11], [11], false, [], [107, 113], []⟩, ⟨⟨some 101, .ld (some 2) (.t 3), (some (99, true)), false⟩, true, [3], [3], false, [], [107, 113], []⟩, ⟨⟨some 102, .ca 0 12 [(.t 100), (.t 101)], (some (99, true)), false⟩, true, [100, 101], [], false, [], [107, 113], []⟩, ⟨gp 103 (.pk (.t 99) (.t 102) (.c (.b false))), true, [99, 102], [], false, [], [107, 113], []⟩, ⟨gp 104 (.mv (.t 103)), true, [103], [], false, [], [107, 113], []⟩, ⟨⟨some 105, .fa 0 (.t 1), (some (104, true)), false⟩, true, [1], [], false, [], [107, 113], []⟩, ⟨⟨some 106, .ld none (.t 105), (some (104, true)), false⟩, true, [105], [1], false, [], [107, 113], []⟩, ⟨⟨some 107, .bs 4 1 [(.c (.b false)), (.c (.b true))], (some (104, true)), true⟩, true, [], [], false, [], [113], []⟩, ⟨⟨some 108, .ca 0 20 [(.t 106), (.t 107)], (some (104, true)), false⟩, true, [106, 107], [1], false, [], [113], []⟩, ⟨gp 109 (.pk (.t 104) (.t 108) (.c (.b false))), true, [104, 108], [], false, [], [113], []⟩, ⟨gp 110 (.mv (.t 109)), true, [109], [], false, [], [113], []⟩, ⟨⟨some 111, .fa 1 (.t 1), (some (110, true)), false⟩, true, [1], [], false, [], [113], []⟩, ⟨⟨some 112, .ld none (.t 111), (some (110, true)), false⟩, true, [111], [1], false, [], [113], []⟩, ⟨⟨some 113, .bs 4 1 [(.c (.b true)), (.c (.b true))], (some (110, true)), true⟩, true, [], [], false, [], [], []⟩, ⟨⟨some 114, .ca 0 20 [(.t 112), (.t 113)], (some (110, true)), false⟩, false, [], [], false, [], [], []⟩, ⟨gp 115 (.pk (.t 110) (.t 114) (.c (.b false))), false, [], [], false, [], [], []⟩, ⟨gp 0 (.as (.t 115)), false, [], [], false, [], [], []⟩] [0] []) .rt)))))))), [.t 0]⟩
def c5 : AFn := ⟨(.sq (.rg [] [gp 1 (.bx (.t 0)), gp 2 (.al [(.l 4 []), (.l 4 [])])] [1, 2] [1, 2]) (.sq (.dg [] [3, 6, 7] [⟨gp 3 (.bs 4 1 []), true, [], [], false, [], [6, 7], []⟩, ⟨gp 4 (.fa 0 (.t 1)), true, [1], [], false, [], [3, 6, 7], []⟩, ⟨gp 5 (.ld none (.t 4)), true, [4], [1], false, [], [3, 6, 7], []⟩, ⟨⟨some 6, .ap 4 1 1 (.t 3) (.t 5), none, true⟩, true, [3, 5], [1], false, [3], [7], []⟩, ⟨gp 7 (.bs 4 1 []), true, [], [], false, [], [3, 6], []⟩, ⟨gp 8 (.fa 1 (.t 1)), true, [1], [], false, [], [3, 6, 7], []⟩, ⟨gp 9 (.ld none (.t 8)), true, [8], [1], false, [], [3, 6, 7], []⟩, ⟨⟨some 10, .ap 4 1 1 (.t 7) (.t 9), none, true⟩, false, [], [], false, [], [], []⟩, ⟨gp 11 (.bd [(.l 4 []), (.l 4 [])] [(0, 1, (.t 6)), (1, 1, (.t 10))]), false, [], [], false, [], [], []⟩, ⟨⟨none, .st 2 (.t 2) (.t 11), none, false⟩, false, [], [], false, [], [], []⟩] [2] [2]) .rt)), [.c 2 (some 2)]⟩
def e6_2 : AC := (.sq (.bl 1 (.sq (.dg [] [] [⟨gp 19 (.ld (some 2) (.t 1)), true, [1], [1], false, [], [], []⟩, ⟨gp 20 (.fa 1 (.t 1)), true, [1], [], false, [], [], []⟩, ⟨gp 21 (.ld none (.t 20)), true, [20], [1], false, [], [], []⟩, ⟨gp 22 (.mv (.t 3)), true, [3], [], false, [], [], []⟩, ⟨gp 23 (.ia 2 none (.t 21) (.t 22)), true, [21, 22], [1], false, [], [], []⟩, ⟨gp 24 (.fa 0 (.t 23)), true, [23], [1], false, [], [], []⟩, ⟨gp 25 (.ld none (.t 24)), true, [24], [1], false, [], [], []⟩, ⟨gp 26 (.ca 0 22 [(.t 19), (.t 25)]), true, [19, 25], [], false, [], [], []⟩, ⟨gp 27 (.no (.t 26)), true, [26], [], false, [], [], []⟩, ⟨gp 28 (.mv (.t 27)), true, [27], [], false, [], [], []⟩, ⟨⟨some 29, .ld (some 2) (.t 1), (some (28, false)), false⟩, true, [1], [1], false, [], [], []⟩, ⟨⟨some 30, .fa 1 (.t 1), (some (28, false)), false⟩, true, [1], [], false, [], [], []⟩, ⟨⟨some 31, .ld none (.t 30), (some (28, false)), false⟩, true, [30], [1], false, [], [], []⟩, ⟨⟨some 32, .mv (.t 3), (some (28, false)), false⟩, true, [3], [], false, [], [], []⟩, ⟨⟨some 33, .ia 2 none (.t 31) (.t 32), (some (28, false)), false⟩, true, [31, 32], [1], false, [], [], []⟩, ⟨⟨some 34, .fa 1 (.t 33), (some (28, false)), false⟩, true, [33], [1], false, [], [], []⟩, ⟨⟨some 35, .ld none (.t 34), (some (28, false)), false⟩, true, [34], [1], false, [], [], []⟩, ⟨⟨some 36, .ca 0 22 [(.t 29), (.t 35)], (some (28, false)), false⟩, false, [], [], false, [], [], []⟩, ⟨⟨some 37, .no (.t 36), (some (28, false)), false⟩, false, [], [], false, [], [], []⟩, ⟨gp 38 (.pk (.t 28) (.c (.b true)) (.t 37)), false, [], [], false, [], [], []⟩] [1, 3, 38] [1]) (.ite (.t 38) (.sq (.rg [] [gp 2 (.as (.c (.i .i64 5)))] [2] []) .rt) .sk))) (.rg [] [gp 17 (.mv (.t 3)), gp 18 (.bo .add false (.t 17) (.c (.i .i64 1))), gp 3 (.as (.t 18))] [1, 3] [1]))
def d6_2 : AC := .kp [1, 3] [1] e6_2
def b6_0 : AC := (.sq (.sq (.rg [] [gp 12 (.mv (.t 3)), gp 13 (.fa 1 (.t 1)), gp 14 (.ld none (.t 13)), gp 15 (.ln false (.t 14)), gp 16 (.bo .lss false (.t 12) (.t 15))] [1, 3, 16] [1]) (.ite (.t 16) .sk (.ex 0))) d6_2)
def c6_0 : LoopC := ⟨[1, 3], [1], b6_0⟩
theorem c6_0_kf : c6_0.kf = [1, 3] := rfl
theorem c6_0_kb : c6_0.kb = [1] := rfl
theorem c6_0_x : c6_0.x = b6_0 := rfl
attribute [simp] c6_0_kf c6_0_kb c6_0_x
def e6_1 : AC := (.sq (.sq (.rg [] [gp 3 (.as (.c (.i .i64 0)))] [1, 3] [1]) (.bl 0 c6_0.lp)) (.sq (.rg [] [gp 2 (.as (.c (.i .i64 0)))] [2] []) .rt))
def d6_1 : AC := .kp [1] [1] e6_1
def e6_0 : AC := (.sq (.sq (.rg [] [gp 8 (.fa 1 (.t 1)), gp 9 (.ld none (.t 8)), gp 10 (.ln false (.t 9)), gp 11 (.bo .gtr false (.t 10) (.c (.i .i64 20)))] [1, 11] [1]) (.ite (.t 11) (.sq (.rg [] [gp 2 (.as (.c (.i .i64 2)))] [2] []) .rt) .sk)) d6_1)
def d6_0 : AC := .kp [1] [1] e6_0
def c6 : AFn := ⟨(.sq (.rg [] [gp 1 (.bx (.t 0)), gp 2 (.as (.c (.i .i64 0)))] [1] [1]) (.sq (.sq (.rg [] [gp 4 (.fa 0 (.t 1)), gp 5 (.ld none (.t 4)), gp 6 (.ca 0 21 [(.t 5), (.c (.i .i64 1)), (.c (.i .i64 6))]), gp 7 (.no (.t 6))] [1, 7] [1]) (.ite (.t 7) (.sq (.rg [] [gp 2 (.as (.c (.i .i64 3)))] [2] []) .rt) .sk)) d6_0)), [.t 2]⟩
def c7 : AFn := ⟨(.sq (.rg [] [gp 2 (.bx (.t 0)), gp 3 (.bx (.t 1)), gp 4 (.as (.c (.i .i64 0)))] [2, 3] [2, 3]) (.sq (.rg [] [gp 6 (.ld (some 2) (.t 2)), gp 7 (.fa 0 (.t 3)), gp 8 (.ld none (.t 7)), gp 9 (.ca 0 23 [(.t 6), (.t 8)]), gp 5 (.as (.t 9))] [2, 3, 5] [2, 3]) (.sq (.sq (.rg [] [gp 10 (.mv (.t 5)), gp 11 (.bo .eql false (.t 10) (.c (.i .i64 0)))] [2, 3, 5, 11] [2, 3]) (.ite (.t 11) (.rg [] [gp 12 (.ld (some 2) (.t 2)), gp 13 (.fa 1 (.t 3)), gp 14 (.ld none (.t 13)), gp 15 (.ca 0 23 [(.t 12), (.t 14)]), gp 5 (.as (.t 15))] [5] []) .sk)) (.sq (.rg [] [gp 16 (.mv (.t 5)), gp 4 (.as (.t 16))] [4] []) .rt)))), [.t 4]⟩
def e8_0 : AC := (.sq (.bl 1 (.sq (.dg [] [20] [⟨gp 13 (.fa 0 (.t 5)), true, [5], [], false, [], [20], []⟩, ⟨gp 14 (.ld none (.t 13)), true, [13], [5], false, [], [20], []⟩, ⟨gp 15 (.ld (some 2) (.t 2)), true, [2], [2], false, [], [20], []⟩, ⟨gp 16 (.mv (.t 6)), true, [6], [], false, [], [20], []⟩, ⟨gp 17 (.fa 0 (.t 3)), true, [3], [], false, [], [20], []⟩, ⟨gp 18 (.ld none (.t 17)), true, [17], [3], false, [], [20], []⟩, ⟨gp 19 (.ca 0 24 [(.t 15), (.t 16), (.t 18)]), true, [15, 16, 18], [3], false, [], [20], []⟩, ⟨⟨some 20, .bs 4 1 [(.t 19)], none, true⟩, true, [19], [], false, [], [], []⟩, ⟨gp 21 (.ap 4 1 1 (.t 14) (.t 20)), false, [], [], false, [], [], []⟩, ⟨gp 22 (.fa 0 (.t 5)), false, [], [], false, [], [], []⟩, ⟨⟨none, .st 1 (.t 22) (.t 21), none, false⟩, false, [], [], false, [], [], []⟩] [2, 3, 4, 5, 6] [2, 3, 4, 5]) (.dg [] [30] [⟨gp 23 (.fa 1 (.t 5)), true, [5], [], false, [], [30], []⟩, ⟨gp 24 (.ld none (.t 23)), true, [23], [5], false, [], [30], []⟩, ⟨gp 25 (.ld (some 2) (.t 2)), true, [2], [2], false, [], [30], []⟩, ⟨gp 26 (.mv (.t 6)), true, [6], [], false, [], [30], []⟩, ⟨gp 27 (.fa 1 (.t 3)), true, [3], [], false, [], [30], []⟩, ⟨gp 28 (.ld none (.t 27)), true, [27], [3], false, [], [30], []⟩, ⟨gp 29 (.ca 0 24 [(.t 25), (.t 26), (.t 28)]), true, [25, 26, 28], [3], false, [], [30], []⟩, ⟨⟨some 30, .bs 4 1 [(.t 29)], none, true⟩, true, [29], [], false, [], [], []⟩, ⟨gp 31 (.ap 4 1 1 (.t 24) (.t 30)), false, [], [], false, [], [], []⟩, ⟨gp 32 (.fa 1 (.t 5)), false, [], [], false, [], [], []⟩, ⟨⟨none, .st 1 (.t 32) (.t 31), none, false⟩, false, [], [], false, [], [], []⟩] [2, 3, 4, 5, 6] [2, 3, 4, 5]))) (.rg [] [gp 11 (.mv (.t 6)), gp 12 (.bo .add false (.t 11) (.c (.i .i64 1))), gp 6 (.as (.t 12))] [2, 3, 4, 5, 6] [2, 3, 4, 5]))
def d8_0 : AC := .kp [2, 3, 4, 5, 6] [2, 3, 4, 5] e8_0
def b8_0 : AC := (.sq (.sq (.rg [] [gp 7 (.mv (.t 6)), gp 8 (.fa 0 (.t 2)), gp 9 (.ld none (.t 8)), gp 10 (.bo .lss false (.t 7) (.t 9))] [2, 3, 4, 5, 6, 10] [2, 3, 4, 5]) (.ite (.t 10) .sk (.ex 0))) d8_0)
def c8_0 : LoopC := ⟨[2, 3, 4, 5, 6], [2, 3, 4, 5], b8_0⟩
theorem c8_0_kf : c8_0.kf = [2, 3, 4, 5, 6] := rfl
theorem c8_0_kb : c8_0.kb = [2, 3, 4, 5] := rfl
theorem c8_0_x : c8_0.x = b8_0 := rfl
attribute [simp] c8_0_kf c8_0_kb c8_0_x
def c8 : AFn := ⟨(.sq (.rg [] [gp 2 (.bx (.t 0)), gp 3 (.bx (.t 1)), gp 4 (.al [(.l 4 []), (.l 4 [])])] [2, 3, 4] [2, 3, 4]) (.sq (.rg [] [gp 5 (.al [.n, .n])] [2, 3, 4, 5] [2, 3, 4, 5]) (.sq (.sq (.rg [.ownC 5 1 4, .ownC 5 0 4] [gp 6 (.as (.c (.i .i64 0)))] [2, 3, 4, 5, 6] [2, 3, 4, 5]) (.bl 0 c8_0.lp)) (.sq (.rg [.fzC 5 0, .fzC 5 1] [gp 33 (.ld (some 2) (.t 5)), ⟨none, .st 2 (.t 4) (.t 33), none, false⟩] [4] [4]) .rt)))), [.c 4 (some 2)]⟩
def e9_0 : AC := (.sq (.rg [] [gp 18 (.ld (some 2) (.t 4)), gp 19 (.ld (some 2) (.t 5)), gp 20 (.ca 0 26 [(.t 18), (.t 19)]), ⟨none, .st 2 (.t 6) (.t 20), none, false⟩, gp 7 (.as (.c (.i .i64 0)))] [6, 7] [6]) .rt)
def d9_0 : AC := .kp [4, 5, 6] [4, 5, 6] e9_0
def c9 : AFn := ⟨(.sq (.rg [] [gp 3 (.bx (.t 0)), gp 4 (.bx (.t 1)), gp 5 (.bx (.t 2)), gp 6 (.al [(.l 4 []), (.l 4 [])]), gp 7 (.as (.c (.i .i64 0)))] [3, 4, 5, 6] [3, 4, 5, 6]) (.sq (.sq (.rg [] [gp 9 (.ld (some 2) (.t 3)), gp 10 (.ld (some 2) (.t 4)), gp 11 (.ld (some 2) (.t 5)), ⟨some 12, .bs 27 2 [(.t 10), (.t 11)], none, true⟩, gp 13 (.ca 0 25 [(.t 9), (.t 12)]), gp 8 (.as (.t 13))] [4, 5, 6, 8] [4, 5, 6]) (.sq (.rg [] [gp 14 (.mv (.t 8)), gp 15 (.bo .neq false (.t 14) (.c (.i .i64 0)))] [4, 5, 6, 8, 15] [4, 5, 6]) (.ite (.t 15) (.sq (.rg [] [gp 16 (.bd [(.l 4 []), (.l 4 [])] []), gp 17 (.mv (.t 8)), ⟨none, .st 2 (.t 6) (.t 16), none, false⟩, gp 7 (.as (.t 17))] [6, 7] [6]) .rt) .sk))) d9_0)), [.c 6 (some 2), .t 7]⟩
def e10_0 : AC := (.sq (.dg [] [] [⟨gp 18 (.fa 0 (.t 4)), true, [4], [], false, [], [], []⟩, ⟨gp 19 (.ld none (.t 18)), true, [18], [4], false, [], [], []⟩, ⟨gp 20 (.fa 0 (.t 5)), true, [5], [], false, [], [], []⟩, ⟨gp 21 (.ld none (.t 20)), true, [20], [5], false, [], [], []⟩, ⟨gp 22 (.ca 0 27 [(.t 19), (.t 21)]), true, [19, 21], [4, 5], false, [], [], []⟩, ⟨gp 23 (.fa 1 (.t 4)), true, [4], [], false, [], [], []⟩, ⟨gp 24 (.ld none (.t 23)), true, [23], [4], false, [], [], []⟩, ⟨gp 25 (.fa 1 (.t 5)), true, [5], [], false, [], [], []⟩, ⟨gp 26 (.ld none (.t 25)), true, [25], [5], false, [], [], []⟩, ⟨gp 27 (.ca 0 28 [(.t 24), (.t 26)]), false, [], [], false, [], [], []⟩, ⟨gp 28 (.bd [(.l 4 []), (.l 4 [])] [(0, 1, (.t 22)), (1, 1, (.t 27))]), false, [], [], false, [], [], []⟩, ⟨⟨none, .st 2 (.t 6) (.t 28), none, false⟩, false, [], [], false, [], [], []⟩, ⟨gp 7 (.as (.c (.i .i64 0))), false, [], [], false, [], [], []⟩] [6, 7] [6]) .rt)
def d10_0 : AC := .kp [4, 5, 6] [4, 5, 6] e10_0
def c10 : AFn := ⟨(.sq (.rg [] [gp 3 (.bx (.t 0)), gp 4 (.bx (.t 1)), gp 5 (.bx (.t 2)), gp 6 (.al [(.l 4 []), (.l 4 [])]), gp 7 (.as (.c (.i .i64 0)))] [3, 4, 5, 6] [3, 4, 5, 6]) (.sq (.sq (.rg [] [gp 9 (.ld (some 2) (.t 3)), gp 10 (.ld (some 2) (.t 4)), gp 11 (.ld (some 2) (.t 5)), ⟨some 12, .bs 27 2 [(.t 10), (.t 11)], none, true⟩, gp 13 (.ca 0 25 [(.t 9), (.t 12)]), gp 8 (.as (.t 13))] [4, 5, 6, 8] [4, 5, 6]) (.sq (.rg [] [gp 14 (.mv (.t 8)), gp 15 (.bo .neq false (.t 14) (.c (.i .i64 0)))] [4, 5, 6, 8, 15] [4, 5, 6]) (.ite (.t 15) (.sq (.rg [] [gp 16 (.bd [(.l 4 []), (.l 4 [])] []), gp 17 (.mv (.t 8)), ⟨none, .st 2 (.t 6) (.t 16), none, false⟩, gp 7 (.as (.t 17))] [6, 7] [6]) .rt) .sk))) d10_0)), [.c 6 (some 2), .t 7]⟩
def e11_0 : AC := (.sq (.rg [] [gp 14 (.ld (some 2) (.t 2)), gp 15 (.ld (some 2) (.t 3)), gp 16 (.ca 0 29 [(.t 14), (.t 15)]), ⟨none, .st 2 (.t 4) (.t 16), none, false⟩, gp 5 (.as (.c (.i .i64 0)))] [4, 5] [4]) .rt)
def d11_0 : AC := .kp [2, 3, 4] [2, 3, 4] e11_0
def c11 : AFn := ⟨(.sq (.rg [] [gp 2 (.bx (.t 0)), gp 3 (.bx (.t 1)), gp 4 (.al [(.l 4 []), (.l 4 [])]), gp 5 (.as (.c (.i .i64 0)))] [2, 3, 4] [2, 3, 4]) (.sq (.sq (.rg [] [gp 7 (.ld (some 2) (.t 2)), gp 8 (.ld (some 2) (.t 3)), gp 9 (.ca 0 18 [(.t 7), (.t 8)]), gp 6 (.as (.t 9))] [2, 3, 4, 6] [2, 3, 4]) (.sq (.rg [] [gp 10 (.mv (.t 6)), gp 11 (.bo .neq false (.t 10) (.c (.i .i64 0)))] [2, 3, 4, 6, 11] [2, 3, 4]) (.ite (.t 11) (.sq (.rg [] [gp 12 (.bd [(.l 4 []), (.l 4 [])] []), gp 13 (.mv (.t 6)), ⟨none, .st 2 (.t 4) (.t 12), none, false⟩, gp 5 (.as (.t 13))] [4, 5] [4]) .rt) .sk))) d11_0)), [.c 4 (some 2), .t 5]⟩
def c12 : AFn := ⟨(.sq (.rg [] [gp 2 (.bx (.t 0)), gp 3 (.bx (.t 1)), gp 4 (.as (.c (.b false)))] [2, 3] [2, 3]) (.sq (.rg [] [gp 5 (.fa 0 (.t 2)), gp 6 (.ld none (.t 5)), gp 7 (.fa 0 (.t 3)), gp 8 (.ld none (.t 7)), gp 9 (.ca 0 20 [(.t 6), (.t 8)]), gp 10 (.mv (.t 9)), ⟨some 11, .fa 1 (.t 2), (some (10, true)), false⟩, ⟨some 12, .ld none (.t 11), (some (10, true)), false⟩, ⟨some 13, .fa 1 (.t 3), (some (10, true)), false⟩, ⟨some 14, .ld none (.t 13), (some (10, true)), false⟩, ⟨some 15, .ca 0 20 [(.t 12), (.t 14)], (some (10, true)), false⟩, gp 16 (.pk (.t 10) (.t 15) (.c (.b false))), gp 4 (.as (.t 16))] [4] []) .rt)), [.t 4]⟩
def e13_0 : AC := (.sq (.rg [] [gp 12 (.mv (.t 1)), gp 13 (.mv (.t 2)), gp 14 (.bo .eql false (.t 12) (.t 13)), gp 15 (.mv (.t 14)), ⟨some 16, .ld (some 2) (.t 4), (some (15, true)), false⟩, ⟨some 17, .ld (some 2) (.t 7), (some (15, true)), false⟩, ⟨some 18, .ca 0 12 [(.t 16), (.t 17)], (some (15, true)), false⟩, gp 19 (.pk (.t 15) (.t 18) (.c (.b false))), gp 8 (.as (.t 19))] [8] []) .rt)
def d13_0 : AC := .kp [1, 2, 4, 7] [4, 7] e13_0
def c13 : AFn := ⟨(.sq (.rg [] [gp 4 (.bx (.t 0)), gp 7 (.bx (.t 3)), gp 8 (.as (.c (.b false)))] [1, 2, 4, 7] [4, 7]) (.sq (.sq (.rg [] [gp 9 (.mv (.t 2)), gp 10 (.bo .neq false (.t 9) (.c (.i .i64 0)))] [1, 2, 4, 7, 10] [4, 7]) (.ite (.t 10) (.rg [] [gp 11 (.bd [(.l 4 []), (.l 4 [])] []), ⟨none, .st 2 (.t 7) (.t 11), none, false⟩] [1, 2, 4, 7] [4, 7]) .sk)) d13_0)), [.t 8]⟩
def c15 : AFn := ⟨(.sq (.rg [] [gp 0 (.al [(.i .i64 0), (.l 53 [])])] [0] [0]) (.sq (.rg [] [gp 1 (.bd [(.i .i64 0), (.i .i64 0)] [(0, 1, (.c (.i .i64 1))), (1, 1, (.c (.i .i64 0)))]), ⟨some 2, .bs 53 2 [(.t 1)], none, true⟩, gp 3 (.bd [(.i .i64 0), (.l 53 [])] [(0, 1, (.c (.i .i64 2))), (1, 1, (.t 2))]), ⟨none, .st 2 (.t 0) (.t 3), none, false⟩] [0] [0]) .rt)), [.c 0 (some 2)]⟩
def c16 : AFn := ⟨(.sq (.rg [] [gp 0 (.al [(.l 61 []), (.l 61 [])])] [0] [0]) (.sq (.rg [] [gp 1 (.bd [(.i .i64 0), (.l 3 [])] [(0, 1, (.c (.i .i64 1)))]), ⟨some 2, .bs 61 2 [(.t 1)], none, true⟩, gp 3 (.bd [(.l 61 []), (.l 61 [])] [(0, 1, (.t 2))]), ⟨none, .st 2 (.t 0) (.t 3), none, false⟩] [0] [0]) .rt)), [.c 0 (some 2)]⟩
def e17_0 : AC := (.sq (.rg [] [gp 17 (.ld (some 2) (.t 4)), gp 18 (.ld (some 2) (.t 5)), gp 19 (.ca 0 30 [(.t 17), (.t 18)]), gp 6 (.as (.t 19)), gp 7 (.as (.c (.i .i64 0)))] [6, 7] []) .rt)
def d17_0 : AC := .kp [4, 5] [4, 5] e17_0
def c17 : AFn := ⟨(.sq (.rg [] [gp 3 (.bx (.t 0)), gp 4 (.bx (.t 1)), gp 5 (.bx (.t 2)), gp 6 (.as (.c (.b false))), gp 7 (.as (.c (.i .i64 0)))] [3, 4, 5] [3, 4, 5]) (.sq (.sq (.rg [] [gp 9 (.ld (some 2) (.t 3)), gp 10 (.ld (some 2) (.t 4)), gp 11 (.ld (some 2) (.t 5)), ⟨some 12, .bs 27 2 [(.t 10), (.t 11)], none, true⟩, gp 13 (.ca 0 25 [(.t 9), (.t 12)]), gp 8 (.as (.t 13))] [4, 5, 8] [4, 5]) (.sq (.rg [] [gp 14 (.mv (.t 8)), gp 15 (.bo .neq false (.t 14) (.c (.i .i64 0)))] [4, 5, 8, 15] [4, 5]) (.ite (.t 15) (.sq (.rg [] [gp 16 (.mv (.t 8)), gp 6 (.as (.c (.b false))), gp 7 (.as (.t 16))] [6, 7] []) .rt) .sk))) d17_0)), [.t 6, .t 7]⟩
def e18_0 : AC := (.sq (.rg [] [gp 11 (.ld (some 2) (.t 2)), gp 12 (.ld (some 2) (.t 3)), gp 13 (.ca 0 32 [(.t 11), (.t 12)]), gp 4 (.as (.t 13))] [4] []) .rt)
def d18_0 : AC := .kp [2, 3] [2, 3] e18_0
def c18 : AFn := ⟨(.sq (.rg [] [gp 2 (.bx (.t 0)), gp 3 (.bx (.t 1)), gp 4 (.as (.c (.i .i64 0)))] [2, 3] [2, 3]) (.sq (.sq (.rg [] [gp 6 (.ld (some 2) (.t 2)), gp 7 (.ca 0 31 [(.t 6)]), gp 5 (.as (.t 7))] [2, 3, 5] [2, 3]) (.sq (.rg [] [gp 8 (.mv (.t 5)), gp 9 (.bo .neq false (.t 8) (.c (.i .i64 0)))] [2, 3, 5, 9] [2, 3]) (.ite (.t 9) (.sq (.rg [] [gp 10 (.mv (.t 5)), gp 4 (.as (.t 10))] [4] []) .rt) .sk))) d18_0)), [.t 4]⟩
def c19 : AFn := ⟨(.sq (.rg [] [gp 2 (.bx (.t 0)), gp 3 (.bx (.t 1)), gp 4 (.as (.c (.i .i64 0)))] [2, 3] [2, 3]) (.sq (.rg [] [gp 5 (.ld (some 2) (.t 2)), gp 6 (.ld (some 2) (.t 3)), ⟨some 7, .bs 27 2 [(.t 6)], none, true⟩, gp 8 (.ca 0 25 [(.t 5), (.t 7)]), gp 4 (.as (.t 8))] [4] []) .rt)), [.t 4]⟩
def e20_1 : AC := (.sq (.bl 1 (.sq (.dg [] [] [⟨gp 17 (.mv (.t 0)), true, [0], [], false, [], [], []⟩, ⟨gp 18 (.mv (.t 5)), true, [5], [], false, [], [], []⟩, ⟨gp 19 (.ia 1 none (.t 17) (.t 18)), true, [17, 18], [], false, [], [], []⟩, ⟨gp 20 (.ld none (.t 19)), true, [19], [], false, [], [], []⟩, ⟨gp 21 (.mv (.t 1)), true, [1], [], false, [], [], []⟩, ⟨gp 22 (.mv (.t 5)), true, [5], [], false, [], [], []⟩, ⟨gp 23 (.ia 1 none (.t 21) (.t 22)), true, [21, 22], [], false, [], [], []⟩, ⟨gp 24 (.ld none (.t 23)), true, [23], [], false, [], [], []⟩, ⟨gp 25 (.bo .neq true (.t 20) (.t 24)), false, [], [], false, [], [], []⟩] [0, 1, 5, 25] []) (.ite (.t 25) (.sq (.rg [] [gp 4 (.as (.c (.b false)))] [4] []) .rt) .sk))) (.rg [] [gp 15 (.mv (.t 5)), gp 16 (.bo .add false (.t 15) (.c (.i .i64 1))), gp 5 (.as (.t 16))] [0, 1, 5] []))
def d20_1 : AC := .kp [0, 1, 5] [] e20_1
def b20_0 : AC := (.sq (.sq (.rg [] [gp 11 (.mv (.t 5)), gp 12 (.mv (.t 0)), gp 13 (.ln false (.t 12)), gp 14 (.bo .lss false (.t 11) (.t 13))] [0, 1, 5, 14] []) (.ite (.t 14) .sk (.ex 0))) d20_1)
def c20_0 : LoopC := ⟨[0, 1, 5], [], b20_0⟩
theorem c20_0_kf : c20_0.kf = [0, 1, 5] := rfl
theorem c20_0_kb : c20_0.kb = [] := rfl
theorem c20_0_x : c20_0.x = b20_0 := rfl
attribute [simp] c20_0_kf c20_0_kb c20_0_x
def e20_0 : AC := (.sq (.sq (.rg [] [gp 5 (.as (.c (.i .i64 0)))] [0, 1, 5] []) (.bl 0 c20_0.lp)) (.sq (.rg [] [gp 4 (.as (.c (.b true)))] [4] []) .rt))
def d20_0 : AC := .kp [0, 1] [] e20_0
def c20 : AFn := ⟨(.sq (.rg [] [gp 4 (.as (.c (.b false)))] [0, 1] []) (.sq (.sq (.rg [] [gp 6 (.mv (.t 0)), gp 7 (.ln false (.t 6)), gp 8 (.mv (.t 1)), gp 9 (.ln false (.t 8)), gp 10 (.bo .neq false (.t 7) (.t 9))] [0, 1, 10] []) (.ite (.t 10) (.sq (.rg [] [gp 4 (.as (.c (.b false)))] [4] []) .rt) .sk)) d20_0)), [.t 4]⟩
def c21 : AFn := ⟨(.sq (.rg [] [gp 6 (.as (.c (.b false)))] [0, 1, 2] []) (.sq (.rg [] [gp 7 (.mv (.t 0)), gp 8 (.mv (.t 1)), gp 9 (.bo .geq false (.t 7) (.t 8)), gp 10 (.mv (.t 9)), ⟨some 11, .mv (.t 0), (some (10, true)), false⟩, ⟨some 12, .mv (.t 2), (some (10, true)), false⟩, ⟨some 13, .bo .leq false (.t 11) (.t 12), (some (10, true)), false⟩, gp 14 (.pk (.t 10) (.t 13) (.c (.b false))), gp 6 (.as (.t 14))] [6] []) .rt)), [.t 6]⟩
def c22 : AFn := ⟨(.sq (.rg [] [gp 2 (.bx (.t 0)), gp 4 (.as (.c (.b false)))] [1, 2] [2]) (.sq (.rg [] [gp 5 (.mv (.t 1)), gp 6 (.fa 0 (.t 2)), gp 7 (.ld none (.t 6)), gp 8 (.bo .sub false (.t 7) (.c (.i .i64 1))), gp 9 (.ca 0 21 [(.t 5), (.c (.i .i64 0)), (.t 8)]), gp 4 (.as (.t 9))] [4] []) .rt)), [.t 4]⟩
def e23_4 : AC := (.sq (.bl 3 (.sq (.dg [] [] [⟨gp 42 (.ld (some 2) (.t 2)), true, [2], [2], false, [], [], []⟩, ⟨gp 43 (.mv (.t 1)), true, [1], [], false, [], [], []⟩, ⟨gp 44 (.mv (.t 5)), true, [5], [], false, [], [], []⟩, ⟨gp 45 (.ia 2 none (.t 43) (.t 44)), true, [43, 44], [], false, [], [], []⟩, ⟨gp 46 (.fa 1 (.t 45)), true, [45], [], false, [], [], []⟩, ⟨gp 47 (.ld none (.t 46)), true, [46], [], false, [], [], []⟩, ⟨gp 48 (.mv (.t 6)), true, [6], [], false, [], [], []⟩, ⟨gp 49 (.ia 1 none (.t 47) (.t 48)), true, [47, 48], [], false, [], [], []⟩, ⟨gp 50 (.ld none (.t 49)), true, [49], [], false, [], [], []⟩, ⟨gp 51 (.ca 0 22 [(.t 42), (.t 50)]), false, [], [], false, [], [], []⟩, ⟨gp 52 (.no (.t 51)), false, [], [], false, [], [], []⟩] [1, 2, 5, 6, 52] [2]) (.ite (.t 52) (.sq (.rg [] [gp 4 (.as (.c (.i .i64 5)))] [4] []) .rt) .sk))) (.rg [] [gp 40 (.mv (.t 6)), gp 41 (.bo .add false (.t 40) (.c (.i .i64 1))), gp 6 (.as (.t 41))] [1, 2, 5, 6] [2]))
def d23_4 : AC := .kp [1, 2, 5, 6] [2] e23_4
def b23_1 : AC := (.sq (.sq (.rg [] [gp 32 (.mv (.t 6)), gp 33 (.mv (.t 1)), gp 34 (.mv (.t 5)), gp 35 (.ia 2 none (.t 33) (.t 34)), gp 36 (.fa 1 (.t 35)), gp 37 (.ld none (.t 36)), gp 38 (.ln false (.t 37)), gp 39 (.bo .lss false (.t 32) (.t 38))] [1, 2, 5, 6, 39] [2]) (.ite (.t 39) .sk (.ex 2))) d23_4)
def c23_1 : LoopC := ⟨[1, 2, 5, 6], [2], b23_1⟩
theorem c23_1_kf : c23_1.kf = [1, 2, 5, 6] := rfl
theorem c23_1_kb : c23_1.kb = [2] := rfl
theorem c23_1_x : c23_1.x = b23_1 := rfl
attribute [simp] c23_1_kf c23_1_kb c23_1_x
def e23_6 : AC := (.sq (.bl 5 (.sq (.dg [] [] [⟨gp 63 (.mv (.t 1)), true, [1], [], false, [], [], []⟩, ⟨gp 64 (.mv (.t 5)), true, [5], [], false, [], [], []⟩, ⟨gp 65 (.ia 2 none (.t 63) (.t 64)), true, [63, 64], [], false, [], [], []⟩, ⟨gp 66 (.fa 1 (.t 65)), true, [65], [], false, [], [], []⟩, ⟨gp 67 (.ld none (.t 66)), true, [66], [], false, [], [], []⟩, ⟨gp 68 (.mv (.t 7)), true, [7], [], false, [], [], []⟩, ⟨gp 69 (.ia 1 none (.t 67) (.t 68)), true, [67, 68], [], false, [], [], []⟩, ⟨gp 70 (.ld none (.t 69)), true, [69], [], false, [], [], []⟩, ⟨gp 71 (.mv (.t 1)), true, [1], [], false, [], [], []⟩, ⟨gp 72 (.mv (.t 5)), true, [5], [], false, [], [], []⟩, ⟨gp 73 (.ia 2 none (.t 71) (.t 72)), true, [71, 72], [], false, [], [], []⟩, ⟨gp 74 (.fa 1 (.t 73)), true, [73], [], false, [], [], []⟩, ⟨gp 75 (.ld none (.t 74)), true, [74], [], false, [], [], []⟩, ⟨gp 76 (.mv (.t 7)), true, [7], [], false, [], [], []⟩, ⟨gp 77 (.bo .sub false (.t 76) (.c (.i .i64 1))), true, [76], [], false, [], [], []⟩, ⟨gp 78 (.ia 1 none (.t 75) (.t 77)), true, [75, 77], [], false, [], [], []⟩, ⟨gp 79 (.ld none (.t 78)), true, [78], [], false, [], [], []⟩, ⟨gp 80 (.bo .leq false (.t 70) (.t 79)), false, [], [], false, [], [], []⟩] [1, 2, 5, 7, 80] [2]) (.ite (.t 80) (.sq (.rg [] [gp 4 (.as (.c (.i .i64 4)))] [4] []) .rt) .sk))) (.rg [] [gp 61 (.mv (.t 7)), gp 62 (.bo .add false (.t 61) (.c (.i .i64 1))), gp 7 (.as (.t 62))] [1, 2, 5, 7] [2]))
def d23_6 : AC := .kp [1, 2, 5, 7] [2] e23_6
def b23_2 : AC := (.sq (.sq (.rg [] [gp 53 (.mv (.t 7)), gp 54 (.mv (.t 1)), gp 55 (.mv (.t 5)), gp 56 (.ia 2 none (.t 54) (.t 55)), gp 57 (.fa 1 (.t 56)), gp 58 (.ld none (.t 57)), gp 59 (.ln false (.t 58)), gp 60 (.bo .lss false (.t 53) (.t 59))] [1, 2, 5, 7, 60] [2]) (.ite (.t 60) .sk (.ex 4))) d23_6)
def c23_2 : LoopC := ⟨[1, 2, 5, 7], [2], b23_2⟩
theorem c23_2_kf : c23_2.kf = [1, 2, 5, 7] := rfl
theorem c23_2_kb : c23_2.kb = [2] := rfl
theorem c23_2_x : c23_2.x = b23_2 := rfl
attribute [simp] c23_2_kf c23_2_kb c23_2_x
def e23_5 : AC := (.sq (.rg [] [gp 7 (.as (.c (.i .i64 1)))] [1, 2, 5, 7] [2]) (.bl 4 c23_2.lp))
def d23_5 : AC := .kp [1, 2, 5] [2] e23_5
def e23_3 : AC := (.sq (.sq (.rg [] [gp 6 (.as (.c (.i .i64 0)))] [1, 2, 5, 6] [2]) (.bl 2 c23_1.lp)) d23_5)
def d23_3 : AC := .kp [1, 2, 5] [2] e23_3
def e23_2 : AC := (.sq (.sq (.rg [] [gp 25 (.mv (.t 1)), gp 26 (.mv (.t 5)), gp 27 (.ia 2 none (.t 25) (.t 26)), gp 28 (.fa 1 (.t 27)), gp 29 (.ld none (.t 28)), gp 30 (.ln false (.t 29)), gp 31 (.bo .gtr false (.t 30) (.c (.i .i64 6)))] [1, 2, 5, 31] [2]) (.ite (.t 31) (.sq (.rg [] [gp 4 (.as (.c (.i .i64 2)))] [4] []) .rt) .sk)) d23_3)
def d23_2 : AC := .kp [1, 2, 5] [2] e23_2
def e23_1 : AC := (.sq (.bl 1 (.sq (.sq (.dg [] [] [⟨gp 17 (.ld (some 2) (.t 2)), true, [2], [2], false, [], [], []⟩, ⟨gp 18 (.mv (.t 1)), true, [1], [], false, [], [], []⟩, ⟨gp 19 (.mv (.t 5)), true, [5], [], false, [], [], []⟩, ⟨gp 20 (.ia 2 none (.t 18) (.t 19)), true, [18, 19], [], false, [], [], []⟩, ⟨gp 21 (.fa 0 (.t 20)), true, [20], [], false, [], [], []⟩, ⟨gp 22 (.ld none (.t 21)), true, [21], [], false, [], [], []⟩, ⟨gp 23 (.ca 0 22 [(.t 17), (.t 22)]), false, [], [], false, [], [], []⟩, ⟨gp 24 (.no (.t 23)), false, [], [], false, [], [], []⟩] [1, 2, 5, 24] [2]) (.ite (.t 24) (.sq (.rg [] [gp 4 (.as (.c (.i .i64 5)))] [4] []) .rt) .sk)) d23_2)) (.rg [] [gp 15 (.mv (.t 5)), gp 16 (.bo .add false (.t 15) (.c (.i .i64 1))), gp 5 (.as (.t 16))] [1, 2, 5] [2]))
def d23_1 : AC := .kp [1, 2, 5] [2] e23_1
def b23_0 : AC := (.sq (.sq (.rg [] [gp 11 (.mv (.t 5)), gp 12 (.mv (.t 1)), gp 13 (.ln false (.t 12)), gp 14 (.bo .lss false (.t 11) (.t 13))] [1, 2, 5, 14] [2]) (.ite (.t 14) .sk (.ex 0))) d23_1)
def c23_0 : LoopC := ⟨[1, 2, 5], [2], b23_0⟩
theorem c23_0_kf : c23_0.kf = [1, 2, 5] := rfl
theorem c23_0_kb : c23_0.kb = [2] := rfl
theorem c23_0_x : c23_0.x = b23_0 := rfl
attribute [simp] c23_0_kf c23_0_kb c23_0_x
def e23_0 : AC := (.sq (.sq (.rg [] [gp 5 (.as (.c (.i .i64 0)))] [1, 2, 5] [2]) (.bl 0 c23_0.lp)) (.sq (.rg [] [gp 4 (.as (.c (.i .i64 0)))] [4] []) .rt))
def d23_0 : AC := .kp [1, 2] [2] e23_0
def c23 : AFn := ⟨(.sq (.rg [] [gp 2 (.bx (.t 0)), gp 4 (.as (.c (.i .i64 0)))] [1, 2] [2]) (.sq (.sq (.rg [] [gp 8 (.mv (.t 1)), gp 9 (.ln false (.t 8)), gp 10 (.bo .gtr false (.t 9) (.c (.i .i64 4)))] [1, 2, 10] [2]) (.ite (.t 10) (.sq (.rg [] [gp 4 (.as (.c (.i .i64 2)))] [4] []) .rt) .sk)) d23_0)), [.t 4]⟩
def e24_1 : AC := (.sq (.bl 3 (.dg [] [] [⟨gp 34 (.mv (.t 8)), true, [8], [], false, [], [], []⟩, ⟨gp 35 (.mv (.t 34)), true, [34], [], false, [], [], []⟩, ⟨⟨some 36, .ld (some 2) (.t 3), (some (35, false)), false⟩, true, [3], [3], false, [], [], []⟩, ⟨⟨some 37, .mv (.t 1), (some (35, false)), false⟩, true, [1], [], false, [], [], []⟩, ⟨⟨some 38, .mv (.t 2), (some (35, false)), false⟩, true, [2], [], false, [], [], []⟩, ⟨⟨some 39, .mv (.t 7), (some (35, false)), false⟩, true, [7], [], false, [], [], []⟩, ⟨⟨some 40, .ia 2 none (.t 38) (.t 39), (some (35, false)), false⟩, true, [38, 39], [], false, [], [], []⟩, ⟨⟨some 41, .fa 1 (.t 40), (some (35, false)), false⟩, true, [40], [], false, [], [], []⟩, ⟨⟨some 42, .ld none (.t 41), (some (35, false)), false⟩, true, [41], [], false, [], [], []⟩, ⟨⟨some 43, .mv (.t 9), (some (35, false)), false⟩, true, [9], [], false, [], [], []⟩, ⟨⟨some 44, .ia 1 none (.t 42) (.t 43), (some (35, false)), false⟩, true, [42, 43], [], false, [], [], []⟩, ⟨⟨some 45, .ld none (.t 44), (some (35, false)), false⟩, true, [44], [], false, [], [], []⟩, ⟨⟨some 46, .ca 0 33 [(.t 36), (.t 37), (.t 45)], (some (35, false)), false⟩, false, [], [], false, [], [], []⟩, ⟨gp 47 (.pk (.t 35) (.c (.b true)) (.t 46)), false, [], [], false, [], [], []⟩, ⟨gp 8 (.as (.t 47)), false, [], [], false, [], [], []⟩] [1, 2, 3, 7, 8, 9] [3])) (.rg [] [gp 32 (.mv (.t 9)), gp 33 (.bo .add false (.t 32) (.c (.i .i64 1))), gp 9 (.as (.t 33))] [1, 2, 3, 7, 8, 9] [3]))
def d24_1 : AC := .kp [1, 2, 3, 7, 8, 9] [3] e24_1
def b24_1 : AC := (.sq (.sq (.rg [] [gp 24 (.mv (.t 9)), gp 25 (.mv (.t 2)), gp 26 (.mv (.t 7)), gp 27 (.ia 2 none (.t 25) (.t 26)), gp 28 (.fa 1 (.t 27)), gp 29 (.ld none (.t 28)), gp 30 (.ln false (.t 29)), gp 31 (.bo .lss false (.t 24) (.t 30))] [1, 2, 3, 7, 8, 9, 31] [3]) (.ite (.t 31) .sk (.ex 2))) d24_1)
def c24_1 : LoopC := ⟨[1, 2, 3, 7, 8, 9], [3], b24_1⟩
theorem c24_1_kf : c24_1.kf = [1, 2, 3, 7, 8, 9] := rfl
theorem c24_1_kb : c24_1.kb = [3] := rfl
theorem c24_1_x : c24_1.x = b24_1 := rfl
attribute [simp] c24_1_kf c24_1_kb c24_1_x
def e24_2 : AC := (.sq (.rg [] [gp 48 (.mv (.t 8)), gp 49 (.no (.t 48))] [1, 2, 3, 7, 49] [3]) (.ite (.t 49) (.sq (.rg [] [gp 6 (.as (.c (.b false)))] [6] []) .rt) .sk))
def d24_2 : AC := .kp [1, 2, 3, 7, 8] [3] e24_2
def e24_0 : AC := (.sq (.bl 1 (.sq (.dg [] [] [⟨gp 16 (.ld (some 2) (.t 3)), true, [3], [3], false, [], [], []⟩, ⟨gp 17 (.mv (.t 1)), true, [1], [], false, [], [], []⟩, ⟨gp 18 (.mv (.t 2)), true, [2], [], false, [], [], []⟩, ⟨gp 19 (.mv (.t 7)), true, [7], [], false, [], [], []⟩, ⟨gp 20 (.ia 2 none (.t 18) (.t 19)), true, [18, 19], [], false, [], [], []⟩, ⟨gp 21 (.fa 0 (.t 20)), true, [20], [], false, [], [], []⟩, ⟨gp 22 (.ld none (.t 21)), true, [21], [], false, [], [], []⟩, ⟨gp 23 (.ca 0 33 [(.t 16), (.t 17), (.t 22)]), false, [], [], false, [], [], []⟩, ⟨gp 8 (.as (.t 23)), false, [], [], false, [], [], []⟩] [1, 2, 3, 7, 8] [3]) (.sq (.sq (.rg [] [gp 9 (.as (.c (.i .i64 0)))] [1, 2, 3, 7, 8, 9] [3]) (.bl 2 c24_1.lp)) d24_2))) (.rg [] [gp 14 (.mv (.t 7)), gp 15 (.bo .add false (.t 14) (.c (.i .i64 1))), gp 7 (.as (.t 15))] [1, 2, 3, 7] [3]))
def d24_0 : AC := .kp [1, 2, 3, 7] [3] e24_0
def b24_0 : AC := (.sq (.sq (.rg [] [gp 10 (.mv (.t 7)), gp 11 (.mv (.t 2)), gp 12 (.ln false (.t 11)), gp 13 (.bo .lss false (.t 10) (.t 12))] [1, 2, 3, 7, 13] [3]) (.ite (.t 13) .sk (.ex 0))) d24_0)
def c24_0 : LoopC := ⟨[1, 2, 3, 7], [3], b24_0⟩
theorem c24_0_kf : c24_0.kf = [1, 2, 3, 7] := rfl
theorem c24_0_kb : c24_0.kb = [3] := rfl
theorem c24_0_x : c24_0.x = b24_0 := rfl
attribute [simp] c24_0_kf c24_0_kb c24_0_x
def c24 : AFn := ⟨(.sq (.rg [] [gp 3 (.bx (.t 0)), gp 6 (.as (.c (.b false)))] [1, 2, 3] [3]) (.sq (.sq (.rg [] [gp 7 (.as (.c (.i .i64 0)))] [1, 2, 3, 7] [3]) (.bl 0 c24_0.lp)) (.sq (.rg [] [gp 6 (.as (.c (.b true)))] [6] []) .rt))), [.t 6]⟩
def e25_0 : AC := (.sq (.sq (.rg [.fzB 2 true] [gp 11 (.mv (.t 1)), gp 12 (.mf 35 [(.t 2)]), gp 13 (.c2 34 [(.t 11), (.t 12)])] [13] []) (.ite (.t 13) (.sq (.rg [] [gp 4 (.as (.c (.i .i64 1)))] [4] []) .rt) .sk)) (.sq (.rg [] [gp 4 (.as (.c (.i .i64 0)))] [4] []) .rt))
def d25_0 : AC := .kp [1, 2] [2] e25_0
def c25 : AFn := ⟨(.sq (.rg [] [gp 2 (.bx (.t 0)), gp 4 (.as (.c (.i .i64 0)))] [1, 2] [2]) (.sq (.sq (.rg [] [gp 6 (.ld (some 2) (.t 2)), gp 7 (.ca 0 31 [(.t 6)]), gp 5 (.as (.t 7))] [1, 2, 5] [2]) (.sq (.rg [] [gp 8 (.mv (.t 5)), gp 9 (.bo .neq false (.t 8) (.c (.i .i64 0)))] [1, 2, 5, 9] [2]) (.ite (.t 9) (.sq (.rg [] [gp 10 (.mv (.t 5)), gp 4 (.as (.t 10))] [4] []) .rt) .sk))) d25_0)), [.t 4]⟩
def c26 : AFn := ⟨(.sq (.rg [] [gp 2 (.bx (.t 0)), gp 3 (.bx (.t 1)), gp 4 (.al [(.l 4 []), (.l 4 [])])] [2, 3, 4] [2, 3, 4]) (.sq (.dg [] [] [⟨gp 5 (.fa 0 (.t 2)), true, [2], [], false, [], [], []⟩, ⟨gp 6 (.ld none (.t 5)), true, [5], [2], false, [], [], []⟩, ⟨gp 7 (.fa 0 (.t 3)), true, [3], [], false, [], [], []⟩, ⟨gp 8 (.ld none (.t 7)), true, [7], [3], false, [], [], []⟩, ⟨gp 9 (.ca 0 28 [(.t 6), (.t 8)]), true, [6, 8], [2, 3], false, [], [], []⟩, ⟨gp 10 (.fa 1 (.t 2)), true, [2], [], false, [], [], []⟩, ⟨gp 11 (.ld none (.t 10)), true, [10], [2], false, [], [], []⟩, ⟨gp 12 (.fa 1 (.t 3)), true, [3], [], false, [], [], []⟩, ⟨gp 13 (.ld none (.t 12)), true, [12], [3], false, [], [], []⟩, ⟨gp 14 (.ca 0 27 [(.t 11), (.t 13)]), false, [], [], false, [], [], []⟩, ⟨gp 15 (.bd [(.l 4 []), (.l 4 [])] [(0, 1, (.t 9)), (1, 1, (.t 14))]), false, [], [], false, [], [], []⟩, ⟨⟨none, .st 2 (.t 4) (.t 15), none, false⟩, false, [], [], false, [], [], []⟩] [4] [4]) .rt)), [.c 4 (some 2)]⟩
def e27_0 : AC := (.sq (.bl 1 (.sq (.rg [] [gp 12 (.mv (.t 10)), gp 13 (.ia 1 none (.t 8) (.t 10)), gp 14 (.ld none (.t 13)), gp 6 (.as (.t 12)), gp 7 (.as (.t 14))] [1, 5, 6, 7, 8, 9, 10] []) (.rg [] [gp 15 (.mv (.t 5)), gp 16 (.mv (.t 7)), gp 17 (.mv (.t 16)), ⟨some 18, .mv (.t 1), (some (17, false)), false⟩, ⟨some 19, .mv (.t 6), (some (17, false)), false⟩, ⟨some 20, .ia 1 none (.t 18) (.t 19), (some (17, false)), false⟩, ⟨some 21, .ld none (.t 20), (some (17, false)), false⟩, gp 22 (.pk (.t 17) (.c (.b true)) (.t 21)), ⟨some 23, .bs 4 1 [(.t 22)], none, true⟩, gp 24 (.ap 4 1 1 (.t 15) (.t 23)), gp 5 (.as (.t 24))] [1, 5, 8, 9, 10] []))) (.rg [] [gp 25 (.bo .add false (.t 10) (.c (.i .i64 1))), gp 10 (.mv (.t 25))] [1, 5, 8, 9, 10] []))
def d27_0 : AC := .kp [1, 5, 8, 9, 10] [] e27_0
def b27_0 : AC := (.sq (.rg [] [gp 11 (.bo .lss false (.t 10) (.t 9))] [1, 5, 8, 9, 10, 11] []) (.sq (.ite (.t 11) .sk (.ex 0)) d27_0))
def c27_0 : LoopC := ⟨[1, 5, 8, 9, 10], [], b27_0⟩
theorem c27_0_kf : c27_0.kf = [1, 5, 8, 9, 10] := rfl
theorem c27_0_kb : c27_0.kb = [] := rfl
theorem c27_0_x : c27_0.x = b27_0 := rfl
attribute [simp] c27_0_kf c27_0_kb c27_0_x
def c27 : AFn := ⟨(.sq (.rg [] [gp 4 (.as (.c (.l 4 [])))] [0, 1] []) (.sq (.rg [] [gp 5 (.as (.c .n))] [0, 1, 5] []) (.sq (.sq (.rg [.own 5 4] [gp 8 (.mv (.t 0)), gp 9 (.ln false (.t 8)), gp 10 (.mv (.c (.i .i64 0)))] [1, 5, 8, 9, 10] []) (.bl 0 c27_0.lp)) (.sq (.rg [] [gp 26 (.mv (.t 5)), gp 4 (.as (.t 26))] [4, 5] []) .rt)))), [.t 4]⟩
def e28_0 : AC := (.sq (.bl 1 (.sq (.rg [] [gp 12 (.mv (.t 10)), gp 13 (.ia 1 none (.t 8) (.t 10)), gp 14 (.ld none (.t 13)), gp 6 (.as (.t 12)), gp 7 (.as (.t 14))] [1, 5, 6, 7, 8, 9, 10] []) (.rg [] [gp 15 (.mv (.t 5)), gp 16 (.mv (.t 7)), gp 17 (.mv (.t 16)), ⟨some 18, .mv (.t 1), (some (17, true)), false⟩, ⟨some 19, .mv (.t 6), (some (17, true)), false⟩, ⟨some 20, .ia 1 none (.t 18) (.t 19), (some (17, true)), false⟩, ⟨some 21, .ld none (.t 20), (some (17, true)), false⟩, gp 22 (.pk (.t 17) (.t 21) (.c (.b false))), ⟨some 23, .bs 4 1 [(.t 22)], none, true⟩, gp 24 (.ap 4 1 1 (.t 15) (.t 23)), gp 5 (.as (.t 24))] [1, 5, 8, 9, 10] []))) (.rg [] [gp 25 (.bo .add false (.t 10) (.c (.i .i64 1))), gp 10 (.mv (.t 25))] [1, 5, 8, 9, 10] []))
def d28_0 : AC := .kp [1, 5, 8, 9, 10] [] e28_0
def b28_0 : AC := (.sq (.rg [] [gp 11 (.bo .lss false (.t 10) (.t 9))] [1, 5, 8, 9, 10, 11] []) (.sq (.ite (.t 11) .sk (.ex 0)) d28_0))
def c28_0 : LoopC := ⟨[1, 5, 8, 9, 10], [], b28_0⟩
theorem c28_0_kf : c28_0.kf = [1, 5, 8, 9, 10] := rfl
theorem c28_0_kb : c28_0.kb = [] := rfl
theorem c28_0_x : c28_0.x = b28_0 := rfl
attribute [simp] c28_0_kf c28_0_kb c28_0_x
def c28 : AFn := ⟨(.sq (.rg [] [gp 4 (.as (.c (.l 4 [])))] [0, 1] []) (.sq (.rg [] [gp 5 (.as (.c .n))] [0, 1, 5] []) (.sq (.sq (.rg [.own 5 4] [gp 8 (.mv (.t 0)), gp 9 (.ln false (.t 8)), gp 10 (.mv (.c (.i .i64 0)))] [1, 5, 8, 9, 10] []) (.bl 0 c28_0.lp)) (.sq (.rg [] [gp 26 (.mv (.t 5)), gp 4 (.as (.t 26))] [4, 5] []) .rt)))), [.t 4]⟩
def c29 : AFn := ⟨(.sq (.rg [] [gp 2 (.bx (.t 0)), gp 3 (.bx (.t 1)), gp 4 (.al [(.l 4 []), (.l 4 [])])] [2, 3, 4] [2, 3, 4]) (.sq (.rg [] [gp 7 (.ld (some 2) (.t 2)), gp 8 (.ca 0 37 [(.t 7)]), gp 5 (.al [(.l 25 [])]), ⟨none, .st 1 (.t 5) (.t 8), none, false⟩] [2, 3, 4, 5] [2, 3, 4, 5]) (.sq (.rg [.fzB 2 true, .fzB 5 false] [gp 9 (.mf 38 [(.t 2), (.t 5)]), gp 6 (.as (.t 9))] [3, 4, 6] [2, 3, 4, 5]) (.sq (.dg [] [] [⟨gp 10 (.mv (.t 6)), true, [6], [], false, [], [], []⟩, ⟨gp 11 (.fa 0 (.t 3)), true, [3], [], false, [], [], []⟩, ⟨gp 12 (.ld none (.t 11)), true, [11], [3], false, [], [], []⟩, ⟨gp 13 (.cf 0 (.t 10) [(.t 12)]), true, [10, 12], [3], false, [], [], []⟩, ⟨gp 14 (.mv (.t 6)), true, [6], [], false, [], [], []⟩, ⟨gp 15 (.fa 1 (.t 3)), true, [3], [], false, [], [], []⟩, ⟨gp 16 (.ld none (.t 15)), true, [15], [3], false, [], [], []⟩, ⟨gp 17 (.d2 (.t 14) [(.t 16)]), false, [], [], false, [], [], []⟩, ⟨gp 18 (.bd [(.l 4 []), (.l 4 [])] [(0, 1, (.t 13)), (1, 1, (.t 17))]), false, [], [], false, [], [], []⟩, ⟨⟨none, .st 2 (.t 4) (.t 18), none, false⟩, false, [], [], false, [], [], []⟩] [4] [4]) .rt)))), [.c 4 (some 2)]⟩
def c30 : AFn := ⟨(.sq (.rg [] [gp 2 (.bx (.t 0)), gp 3 (.bx (.t 1)), gp 4 (.as (.c (.b false)))] [2, 3] [2, 3]) (.sq (.rg [] [gp 5 (.fa 0 (.t 3)), gp 6 (.ld none (.t 5)), gp 7 (.fa 0 (.t 2)), gp 8 (.ld none (.t 7)), gp 9 (.ca 0 43 [(.t 6), (.t 8)]), gp 10 (.mv (.t 9)), ⟨some 11, .fa 1 (.t 2), (some (10, true)), false⟩, ⟨some 12, .ld none (.t 11), (some (10, true)), false⟩, ⟨some 13, .fa 1 (.t 3), (some (10, true)), false⟩, ⟨some 14, .ld none (.t 13), (some (10, true)), false⟩, ⟨some 15, .ca 0 43 [(.t 12), (.t 14)], (some (10, true)), false⟩, gp 16 (.pk (.t 10) (.t 15) (.c (.b false))), gp 4 (.as (.t 16))] [4] []) .rt)), [.t 4]⟩
def c31 : AFn := ⟨(.sq (.rg [] [gp 1 (.bx (.t 0)), gp 2 (.as (.c (.i .i64 0)))] [1] [1]) (.sq (.bl 0 (.sq (.rg [] [gp 4 (.fa 0 (.t 1)), gp 5 (.ld none (.t 4)), gp 6 (.bo .lss false (.t 5) (.c (.i .i64 1))), gp 7 (.mv (.t 6)), ⟨some 8, .fa 0 (.t 1), (some (7, false)), false⟩, ⟨some 9, .ld none (.t 8), (some (7, false)), false⟩, ⟨some 10, .bo .gtr false (.t 9) (.c (.i .i64 6)), (some (7, false)), false⟩, gp 11 (.pk (.t 7) (.c (.b true)) (.t 10)), gp 3 (.as (.t 11))] [1, 3] [1]) (.ite (.t 3) (.sq (.rg [] [gp 2 (.as (.c (.i .i64 3)))] [2] []) .rt) (.sq (.rg [] [gp 13 (.fa 1 (.t 1)), gp 14 (.ld none (.t 13)), gp 15 (.ln false (.t 14)), gp 16 (.bo .gtr false (.t 15) (.c (.i .i64 20))), gp 12 (.as (.t 16))] [1, 12] [1]) (.ite (.t 12) (.sq (.rg [] [gp 2 (.as (.c (.i .i64 2)))] [2] []) .rt) (.sq (.rg [.fzB 1 true] [gp 18 (.fa 1 (.t 1)), gp 19 (.ld none (.t 18)), gp 20 (.mf 45 [(.t 1)]), gp 21 (.c2 44 [(.t 19), (.t 20)]), gp 17 (.as (.t 21))] [17] []) (.ite (.t 17) (.sq (.rg [] [gp 2 (.as (.c (.i .i64 5)))] [2] []) .rt) .sk))))))) (.sq (.rg [] [gp 2 (.as (.c (.i .i64 0)))] [2] []) .rt))), [.t 2]⟩
def e32_2 : AC := (.sq (.bl 3 (.sq (.rg [] [gp 27 (.ia 2 none (.t 23) (.t 25)), gp 28 (.ld (some 2) (.t 27)), gp 8 (.al [(.i .i64 0), (.l 3 [])]), ⟨none, .st 2 (.t 8) (.t 28), none, false⟩] [2, 8, 14, 15, 16, 23, 24, 25] [2, 8]) (.sq (.rg [] [gp 29 (.ld (some 2) (.t 2)), gp 30 (.ld (some 2) (.t 8)), gp 31 (.ca 0 47 [(.t 29), (.t 30)]), gp 9 (.as (.t 31))] [2, 9, 14, 15, 16, 23, 24, 25] [2]) (.sq (.rg [] [gp 32 (.mv (.t 9)), gp 33 (.bo .neq false (.t 32) (.c (.i .i64 0)))] [2, 9, 14, 15, 16, 23, 24, 25, 33] [2]) (.ite (.t 33) (.sq (.rg [] [gp 34 (.mv (.t 9)), gp 4 (.as (.t 34))] [4] []) .rt) .sk))))) (.rg [] [gp 35 (.bo .add false (.t 25) (.c (.i .i64 1))), gp 25 (.mv (.t 35))] [2, 14, 15, 16, 23, 24, 25] [2]))
def d32_2 : AC := .kp [2, 14, 15, 16, 23, 24, 25] [2] e32_2
def b32_1 : AC := (.sq (.rg [] [gp 26 (.bo .lss false (.t 25) (.t 24))] [2, 14, 15, 16, 23, 24, 25, 26] [2]) (.sq (.ite (.t 26) .sk (.ex 2)) d32_2))
def c32_1 : LoopC := ⟨[2, 14, 15, 16, 23, 24, 25], [2], b32_1⟩
theorem c32_1_kf : c32_1.kf = [2, 14, 15, 16, 23, 24, 25] := rfl
theorem c32_1_kb : c32_1.kb = [2] := rfl
theorem c32_1_x : c32_1.x = b32_1 := rfl
attribute [simp] c32_1_kf c32_1_kb c32_1_x
def e32_1 : AC := (.sq (.rg [] [gp 23 (.mv (.t 6)), gp 24 (.ln false (.t 23)), gp 25 (.mv (.c (.i .i64 0)))] [2, 14, 15, 16, 23, 24, 25] [2]) (.bl 2 c32_1.lp))
def d32_1 : AC := .kp [2, 6, 14, 15, 16] [2] e32_1
def e32_0 : AC := (.sq (.bl 1 (.sq (.rg [] [gp 18 (.ia 1 none (.t 14) (.t 16)), gp 19 (.ld none (.t 18)), gp 6 (.as (.t 19))] [2, 6, 14, 15, 16] [2]) (.sq (.sq (.rg [] [gp 20 (.mv (.t 6)), gp 21 (.ln false (.t 20)), gp 22 (.bo .gtr false (.t 21) (.c (.i .i64 4)))] [2, 6, 14, 15, 16, 22] [2]) (.ite (.t 22) (.sq (.rg [] [gp 4 (.as (.c (.i .i64 2)))] [4] []) .rt) .sk)) d32_1))) (.rg [] [gp 36 (.bo .add false (.t 16) (.c (.i .i64 1))), gp 16 (.mv (.t 36))] [2, 14, 15, 16] [2]))
def d32_0 : AC := .kp [2, 14, 15, 16] [2] e32_0
def b32_0 : AC := (.sq (.rg [] [gp 17 (.bo .lss false (.t 16) (.t 15))] [2, 14, 15, 16, 17] [2]) (.sq (.ite (.t 17) .sk (.ex 0)) d32_0))
def c32_0 : LoopC := ⟨[2, 14, 15, 16], [2], b32_0⟩
theorem c32_0_kf : c32_0.kf = [2, 14, 15, 16] := rfl
theorem c32_0_kb : c32_0.kb = [2] := rfl
theorem c32_0_x : c32_0.x = b32_0 := rfl
attribute [simp] c32_0_kf c32_0_kb c32_0_x
def c32 : AFn := ⟨(.sq (.rg [] [gp 2 (.bx (.t 0)), gp 3 (.bx (.t 1)), gp 4 (.as (.c (.i .i64 0)))] [2, 3] [2, 3]) (.sq (.sq (.rg [] [gp 10 (.fa 0 (.t 3)), gp 11 (.ld none (.t 10)), gp 12 (.fa 1 (.t 3)), gp 13 (.ld none (.t 12)), ⟨some 14, .bs 28 1 [(.t 11), (.t 13)], none, true⟩, gp 15 (.ln false (.t 14)), gp 16 (.mv (.c (.i .i64 0)))] [2, 14, 15, 16] [2]) (.bl 0 c32_0.lp)) (.sq (.rg [] [gp 4 (.as (.c (.i .i64 0)))] [4] []) .rt))), [.t 4]⟩
def e33_1 : AC := (.sq (.bl 3 (.sq (.rg [] [gp 29 (.mv (.t 7)), gp 30 (.fa 1 (.t 3)), gp 31 (.ld none (.t 30)), gp 32 (.mv (.t 9)), gp 33 (.ia 2 none (.t 31) (.t 32)), gp 34 (.fa 0 (.t 33)), gp 35 (.ld none (.t 34)), gp 36 (.ia 1 none (.t 29) (.t 35)), gp 37 (.ld none (.t 36))] [2, 3, 7, 8, 9, 37] [3]) (.ite (.t 37) (.rg [] [gp 38 (.mv (.t 7)), gp 39 (.fa 1 (.t 3)), gp 40 (.ld none (.t 39)), gp 41 (.mv (.t 9)), gp 42 (.ia 2 none (.t 40) (.t 41)), gp 43 (.fa 1 (.t 42)), gp 44 (.ld none (.t 43)), gp 45 (.ia 1 none (.t 38) (.t 44)), ⟨none, .st 1 (.t 45) (.c (.b true)), none, false⟩] [2, 3, 7, 8, 9] [3]) .sk))) (.rg [] [gp 27 (.mv (.t 9)), gp 28 (.bo .add false (.t 27) (.c (.i .i64 1))), gp 9 (.as (.t 28))] [2, 3, 7, 8, 9] [3]))
def d33_1 : AC := .kp [2, 3, 7, 8, 9] [3] e33_1
def b33_1 : AC := (.sq (.sq (.rg [] [gp 22 (.mv (.t 9)), gp 23 (.fa 1 (.t 3)), gp 24 (.ld none (.t 23)), gp 25 (.ln false (.t 24)), gp 26 (.bo .lss false (.t 22) (.t 25))] [2, 3, 7, 8, 9, 26] [3]) (.ite (.t 26) .sk (.ex 2))) d33_1)
def c33_1 : LoopC := ⟨[2, 3, 7, 8, 9], [3], b33_1⟩
theorem c33_1_kf : c33_1.kf = [2, 3, 7, 8, 9] := rfl
theorem c33_1_kb : c33_1.kb = [3] := rfl
theorem c33_1_x : c33_1.x = b33_1 := rfl
attribute [simp] c33_1_kf c33_1_kb c33_1_x
def e33_0 : AC := (.sq (.bl 1 (.sq (.rg [] [gp 9 (.as (.c (.i .i64 0)))] [2, 3, 7, 8, 9] [3]) (.bl 2 c33_1.lp))) (.rg [] [gp 20 (.mv (.t 8)), gp 21 (.bo .add false (.t 20) (.c (.i .i64 1))), gp 8 (.as (.t 21))] [2, 3, 7, 8] [3]))
def d33_0 : AC := .kp [2, 3, 7, 8] [3] e33_0
def b33_0 : AC := (.sq (.sq (.rg [] [gp 16 (.mv (.t 8)), gp 17 (.fa 0 (.t 3)), gp 18 (.ld none (.t 17)), gp 19 (.bo .lss false (.t 16) (.t 18))] [2, 3, 7, 8, 19] [3]) (.ite (.t 19) .sk (.ex 0))) d33_0)
def c33_0 : LoopC := ⟨[2, 3, 7, 8], [3], b33_0⟩
theorem c33_0_kf : c33_0.kf = [2, 3, 7, 8] := rfl
theorem c33_0_kb : c33_0.kb = [3] := rfl
theorem c33_0_x : c33_0.x = b33_0 := rfl
attribute [simp] c33_0_kf c33_0_kb c33_0_x
def e33_2 : AC := (.sq (.rg [] [gp 46 (.mv (.t 7)), gp 47 (.mv (.t 2)), gp 48 (.ia 1 none (.t 46) (.t 47)), gp 49 (.ld none (.t 48)), gp 6 (.as (.t 49))] [6] []) .rt)
def d33_2 : AC := .kp [2, 7] [] e33_2
def c33 : AFn := ⟨(.sq (.rg [] [gp 3 (.bx (.t 0)), gp 6 (.as (.c (.b false)))] [1, 2, 3] [3]) (.sq (.rg [] [gp 10 (.fa 0 (.t 3)), gp 11 (.ld none (.t 10)), gp 12 (.ms 4 1 1 (.b false) (.t 11)), gp 7 (.as (.t 12))] [1, 2, 3, 7] [3]) (.sq (.rg [] [gp 13 (.mv (.t 7)), gp 14 (.mv (.t 1)), gp 15 (.ia 1 none (.t 13) (.t 14)), ⟨none, .st 1 (.t 15) (.c (.b true)), none, false⟩] [2, 3, 7] [3]) (.sq (.sq (.rg [] [gp 8 (.as (.c (.i .i64 0)))] [2, 3, 7, 8] [3]) (.bl 0 c33_0.lp)) d33_2)))), [.t 6]⟩
def c34 : AFn := ⟨(.sq (.rg [] [gp 4 (.as (.c (.b false)))] [0, 1] []) (.sq (.rg [] [gp 5 (.mv (.t 0)), gp 6 (.mv (.t 1)), gp 7 (.c2 48 [(.t 5), (.t 6)]), gp 8 (.bo .geq false (.t 7) (.c (.i .i64 0))), gp 4 (.as (.t 8))] [4] []) .rt)), [.t 4]⟩
def c35 : AFn := ⟨(.sq (.rg [] [gp 2 (.bx (.t 0)), gp 3 (.as (.c (.b false)))] [1, 2] [1, 2]) (.sq (.rg [] [gp 4 (.ld (some 2) (.t 1)), gp 5 (.ld (some 2) (.t 2)), gp 6 (.ca 0 36 [(.t 4), (.t 5)]), gp 7 (.no (.t 6)), gp 3 (.as (.t 7))] [3] []) .rt)), [.t 3]⟩
def c36 : AFn := ⟨(.sq (.rg [] [gp 2 (.bx (.t 0)), gp 3 (.bx (.t 1)), gp 4 (.as (.c (.b false)))] [2, 3] [2, 3]) (.sq (.rg [] [gp 5 (.fa 0 (.t 3)), gp 6 (.ld none (.t 5)), gp 7 (.ln false (.t 6)), gp 8 (.fa 0 (.t 2)), gp 9 (.ld none (.t 8)), gp 10 (.bo .eql false (.t 7) (.t 9)), gp 11 (.mv (.t 10)), ⟨some 12, .fa 1 (.t 3), (some (11, true)), false⟩, ⟨some 13, .ld none (.t 12), (some (11, true)), false⟩, ⟨some 14, .ln false (.t 13), (some (11, true)), false⟩, ⟨some 15, .fa 0 (.t 2), (some (11, true)), false⟩, ⟨some 16, .ld none (.t 15), (some (11, true)), false⟩, ⟨some 17, .bo .eql false (.t 14) (.t 16), (some (11, true)), false⟩, gp 18 (.pk (.t 11) (.t 17) (.c (.b false))), gp 4 (.as (.t 18))] [4] []) .rt)), [.t 4]⟩
def e37_3 : AC := (.sq (.bl 5 (.sq (.rg [] [gp 46 (.ia 2 none (.t 42) (.t 44)), gp 47 (.ld (some 2) (.t 46)), gp 9 (.al [(.i .i64 0), (.i .i64 0)]), ⟨none, .st 2 (.t 9) (.t 47), none, false⟩] [1, 3, 5, 6, 7, 9, 11, 12, 29, 42, 43, 44] [1, 9]) (.sq (.rg [] [gp 48 (.fa 0 (.t 9)), gp 49 (.ld none (.t 48)), gp 50 (.mv (.t 7)), gp 51 (.bo .eql false (.t 49) (.t 50))] [1, 3, 5, 6, 7, 9, 11, 12, 29, 42, 43, 44, 51] [1, 9]) (.ite (.t 51) (.rg [] [gp 52 (.mv (.t 6)), gp 53 (.fa 1 (.t 9)), gp 54 (.ld none (.t 53)), ⟨some 55, .bs 3 1 [(.t 54)], none, true⟩, gp 56 (.ap 3 1 8 (.t 52) (.t 55)), gp 6 (.as (.t 56))] [1, 3, 5, 6, 7, 11, 12, 29, 42, 43, 44] [1]) .sk)))) (.rg [] [gp 57 (.bo .add false (.t 44) (.c (.i .i64 1))), gp 44 (.mv (.t 57))] [1, 3, 5, 6, 7, 11, 12, 29, 42, 43, 44] [1]))
def d37_3 : AC := .kp [1, 3, 5, 6, 7, 11, 12, 29, 42, 43, 44] [1] e37_3
def b37_2 : AC := (.sq (.rg [] [gp 45 (.bo .lss false (.t 44) (.t 43))] [1, 3, 5, 6, 7, 11, 12, 29, 42, 43, 44, 45] [1]) (.sq (.ite (.t 45) .sk (.ex 4)) d37_3))
def c37_2 : LoopC := ⟨[1, 3, 5, 6, 7, 11, 12, 29, 42, 43, 44], [1], b37_2⟩
theorem c37_2_kf : c37_2.kf = [1, 3, 5, 6, 7, 11, 12, 29, 42, 43, 44] := rfl
theorem c37_2_kb : c37_2.kb = [1] := rfl
theorem c37_2_x : c37_2.x = b37_2 := rfl
attribute [simp] c37_2_kf c37_2_kb c37_2_x
def e37_2 : AC := (.sq (.rg [] [gp 38 (.mv (.t 5)), gp 39 (.mv (.t 7)), gp 40 (.ia 1 none (.t 38) (.t 39)), ⟨none, .st 1 (.t 40) (.c (.b true)), none, false⟩] [1, 3, 5, 6, 7, 11, 12, 29] [1]) (.sq (.rg [] [gp 41 (.fa 1 (.t 1)), gp 42 (.ld none (.t 41)), gp 43 (.ln false (.t 42)), gp 44 (.mv (.c (.i .i64 0)))] [1, 3, 5, 6, 7, 11, 12, 29, 42, 43, 44] [1]) (.bl 4 c37_2.lp)))
def d37_2 : AC := .kp [1, 3, 5, 6, 7, 11, 12, 29] [1] e37_2
def e37_1 : AC := (.bl 3 (.sq (.rg [] [gp 23 (.mv (.t 6)), gp 24 (.mv (.t 6)), gp 25 (.ln false (.t 24)), gp 26 (.bo .sub false (.t 25) (.c (.i .i64 1))), gp 27 (.ia 1 none (.t 23) (.t 26)), gp 28 (.ld none (.t 27)), gp 7 (.as (.t 28))] [1, 3, 5, 6, 7, 11, 12, 29] [1]) (.sq (.rg [] [gp 29 (.mv (.t 6)), gp 30 (.mv (.t 6)), gp 31 (.ln false (.t 30)), gp 32 (.bo .sub false (.t 31) (.c (.i .i64 1))), gp 33 (.sl 3 1 (.t 29) none (some (.t 32))), gp 6 (.as (.t 33))] [1, 3, 5, 6, 7, 11, 12, 29] [1]) (.sq (.sq (.rg [] [gp 34 (.mv (.t 5)), gp 35 (.mv (.t 7)), gp 36 (.ia 1 none (.t 34) (.t 35)), gp 37 (.ld none (.t 36))] [1, 3, 5, 6, 7, 11, 12, 29, 37] [1]) (.ite (.t 37) (.ex 3) .sk)) d37_2))))
def d37_1 : AC := .kp [1, 3, 5, 6, 11, 12, 29] [1] e37_1
def b37_1 : AC := (.sq (.sq (.rg [.own 6 3] [gp 20 (.mv (.t 6)), gp 21 (.ln false (.t 20)), gp 22 (.bo .gtr false (.t 21) (.c (.i .i64 0)))] [1, 3, 5, 6, 11, 12, 22, 29] [1]) (.ite (.t 22) .sk (.ex 2))) d37_1)
def c37_1 : LoopC := ⟨[1, 3, 5, 6, 11, 12, 29], [1], b37_1⟩
theorem c37_1_kf : c37_1.kf = [1, 3, 5, 6, 11, 12, 29] := rfl
theorem c37_1_kb : c37_1.kb = [1] := rfl
theorem c37_1_x : c37_1.x = b37_1 := rfl
attribute [simp] c37_1_kf c37_1_kb c37_1_x
def e37_4 : AC := (.rg [.fz 5] [gp 58 (.mv (.t 3)), gp 59 (.mv (.t 5)), ⟨some 60, .bs 25 1 [(.t 59)], none, true⟩, gp 61 (.ap 25 1 24 (.t 58) (.t 60)), gp 3 (.as (.t 61))] [1, 3, 11, 12] [1])
def d37_4 : AC := .kp [1, 3, 5, 11, 12] [1] e37_4
def e37_0 : AC := (.sq (.bl 1 (.sq (.rg [] [gp 14 (.mv (.t 12)), gp 4 (.as (.t 14))] [1, 3, 4, 11, 12] [1]) (.sq (.rg [] [gp 15 (.fa 0 (.t 1)), gp 16 (.ld none (.t 15)), gp 17 (.ms 4 1 1 (.b false) (.t 16)), gp 5 (.as (.t 17))] [1, 3, 4, 5, 11, 12] [1]) (.sq (.rg [] [gp 18 (.mv (.t 4)), gp 19 (.bs 3 1 [(.t 18)]), gp 6 (.as (.t 19))] [1, 3, 5, 6, 11, 12, 29] [1]) (.sq (.bl 2 c37_1.lp) d37_4))))) (.rg [] [gp 62 (.bo .add false (.t 12) (.c (.i .i64 1))), gp 12 (.mv (.t 62))] [1, 3, 11, 12] [1]))
def d37_0 : AC := .kp [1, 3, 11, 12] [1] e37_0
def b37_0 : AC := (.sq (.rg [] [gp 13 (.bo .lss false (.t 12) (.t 11))] [1, 3, 11, 12, 13] [1]) (.sq (.ite (.t 13) .sk (.ex 0)) d37_0))
def c37_0 : LoopC := ⟨[1, 3, 11, 12], [1], b37_0⟩
theorem c37_0_kf : c37_0.kf = [1, 3, 11, 12] := rfl
theorem c37_0_kb : c37_0.kb = [1] := rfl
theorem c37_0_x : c37_0.x = b37_0 := rfl
attribute [simp] c37_0_kf c37_0_kb c37_0_x
def c37 : AFn := ⟨(.sq (.rg [] [gp 1 (.bx (.t 0)), gp 2 (.as (.c (.l 25 [])))] [1] [1]) (.sq (.rg [] [gp 3 (.as (.c .n))] [1, 3] [1]) (.sq (.sq (.rg [.own 3 25] [gp 10 (.fa 0 (.t 1)), gp 11 (.ld none (.t 10)), gp 12 (.mv (.c (.i .i64 0)))] [1, 3, 11, 12] [1]) (.bl 0 c37_0.lp)) (.sq (.rg [] [gp 63 (.mv (.t 3)), gp 2 (.as (.t 63))] [2, 3] []) .rt)))), [.t 2]⟩
def e38_0 : AC := (.sq (.bl 1 (.sq (.rg [] [gp 12 (.mv (.t 10)), gp 6 (.al [(.i .i64 0)]), ⟨none, .st 1 (.t 6) (.t 12), none, false⟩] [0, 2, 5, 6, 9, 10] [2, 6]) (.sq (.rg [.fzB 6 false] [gp 13 (.mf 39 [(.t 2), (.t 6)]), gp 7 (.as (.t 13))] [0, 2, 5, 7, 9, 10] [2, 6]) (.rg [] [gp 14 (.mv (.t 5)), gp 15 (.mv (.t 0)), gp 16 (.mv (.t 7)), gp 17 (.c2 42 [(.t 15), (.t 16)]), gp 18 (.no (.t 17)), ⟨some 19, .bs 4 1 [(.t 18)], none, true⟩, gp 20 (.ap 4 1 1 (.t 14) (.t 19)), gp 5 (.as (.t 20))] [0, 2, 5, 9, 10] [2])))) (.rg [] [gp 21 (.bo .add false (.t 10) (.c (.i .i64 1))), gp 10 (.mv (.t 21))] [0, 2, 5, 9, 10] [2]))
def d38_0 : AC := .kp [0, 2, 5, 9, 10] [2] e38_0
def b38_0 : AC := (.sq (.rg [] [gp 11 (.bo .lss false (.t 10) (.t 9))] [0, 2, 5, 9, 10, 11] [2]) (.sq (.ite (.t 11) .sk (.ex 0)) d38_0))
def c38_0 : LoopC := ⟨[0, 2, 5, 9, 10], [2], b38_0⟩
theorem c38_0_kf : c38_0.kf = [0, 2, 5, 9, 10] := rfl
theorem c38_0_kb : c38_0.kb = [2] := rfl
theorem c38_0_x : c38_0.x = b38_0 := rfl
attribute [simp] c38_0_kf c38_0_kb c38_0_x
def c38 : AFn := ⟨(.sq (.rg [] [gp 4 (.as (.c (.l 4 [])))] [0, 1, 2] [1, 2]) (.sq (.rg [] [gp 5 (.as (.c .n))] [0, 1, 2, 5] [1, 2]) (.sq (.sq (.rg [.own 5 4] [gp 8 (.fa 0 (.t 1)), gp 9 (.ld none (.t 8)), gp 10 (.mv (.c (.i .i64 0)))] [0, 2, 5, 9, 10] [2]) (.bl 0 c38_0.lp)) (.sq (.rg [] [gp 22 (.mv (.t 5)), gp 4 (.as (.t 22))] [4, 5] []) .rt)))), [.t 4]⟩
def c39 : AFn := ⟨(.sq (.rg [] [gp 3 (.bx (.t 0)), gp 4 (.as (.c (.b false)))] [1, 2, 3] [1, 2, 3]) (.sq (.dg [] [] [⟨gp 5 (.ld none (.t 1)), true, [1], [], true, [], [], []⟩, ⟨gp 6 (.ld none (.t 2)), true, [2], [], true, [], [], []⟩, ⟨gp 7 (.ia 1 none (.t 5) (.t 6)), true, [5, 6], [], true, [], [], []⟩, ⟨gp 8 (.ld none (.t 7)), true, [7], [], true, [], [], []⟩, ⟨gp 9 (.fa 0 (.t 3)), true, [3], [], false, [], [], []⟩, ⟨gp 10 (.ld none (.t 9)), true, [9], [3], false, [], [], []⟩, ⟨gp 11 (.ia 1 none (.t 8) (.t 10)), true, [8, 10], [], false, [], [], []⟩, ⟨gp 12 (.ld none (.t 11)), true, [11], [], false, [], [], []⟩, ⟨gp 13 (.no (.t 12)), true, [12], [], false, [], [], []⟩, ⟨gp 14 (.mv (.t 13)), true, [13], [], false, [], [], []⟩, ⟨⟨some 15, .fa 1 (.t 3), (some (14, true)), false⟩, true, [3], [], false, [], [], []⟩, ⟨⟨some 16, .ld none (.t 15), (some (14, true)), false⟩, true, [15], [3], false, [], [], []⟩, ⟨⟨some 17, .mf 41 [(.t 1), (.t 2)], (some (14, true)), false⟩, true, [1, 2], [], false, [], [], []⟩, ⟨⟨some 18, .c2 40 [(.t 16), (.t 17)], (some (14, true)), false⟩, false, [], [], false, [], [], []⟩, ⟨⟨some 19, .no (.t 18), (some (14, true)), false⟩, false, [], [], false, [], [], []⟩, ⟨gp 20 (.pk (.t 14) (.t 19) (.c (.b false))), false, [], [], false, [], [], []⟩, ⟨gp 4 (.as (.t 20)), false, [], [], false, [], [], []⟩] [4] []) .rt)), [.t 4]⟩
def c40 : AFn := ⟨(.sq (.rg [] [gp 4 (.as (.c (.b false)))] [0, 1] []) (.sq (.rg [] [gp 5 (.mv (.t 0)), gp 6 (.mv (.t 1)), gp 7 (.c2 49 [(.t 5), (.t 6)]), gp 8 (.bo .geq false (.t 7) (.c (.i .i64 0))), gp 4 (.as (.t 8))] [4] []) .rt)), [.t 4]⟩
def c41 : AFn := ⟨(.sq (.rg [] [gp 4 (.as (.c (.b false)))] [0, 1, 2] [1, 2]) (.sq (.rg [] [gp 5 (.ld none (.t 1)), gp 6 (.ld none (.t 2)), gp 7 (.ia 1 none (.t 5) (.t 6)), gp 8 (.ld none (.t 7)), gp 9 (.mv (.t 0)), gp 10 (.ia 1 none (.t 8) (.t 9)), gp 11 (.ld none (.t 10)), gp 4 (.as (.t 11))] [4] []) .rt)), [.t 4]⟩
def c42 : AFn := ⟨(.sq (.rg [] [gp 4 (.as (.c (.b false)))] [0, 1] []) (.sq (.rg [] [gp 5 (.mv (.t 0)), gp 6 (.mv (.t 1)), gp 7 (.c2 50 [(.t 5), (.t 6)]), gp 8 (.bo .geq false (.t 7) (.c (.i .i64 0))), gp 4 (.as (.t 8))] [4] []) .rt)), [.t 4]⟩
def e43_0 : AC := (.sq (.bl 1 (.sq (.rg [] [gp 11 (.mv (.t 9)), gp 12 (.ia 1 none (.t 7) (.t 9)), gp 13 (.ld none (.t 12)), gp 5 (.as (.t 11)), gp 6 (.as (.t 13))] [1, 5, 6, 7, 8, 9] []) (.sq (.rg [] [gp 14 (.mv (.t 6)), gp 15 (.mv (.t 14)), ⟨some 16, .mv (.t 1), (some (15, true)), false⟩, ⟨some 17, .mv (.t 5), (some (15, true)), false⟩, ⟨some 18, .ia 1 none (.t 16) (.t 17), (some (15, true)), false⟩, ⟨some 19, .ld none (.t 18), (some (15, true)), false⟩, ⟨some 20, .no (.t 19), (some (15, true)), false⟩, gp 21 (.pk (.t 15) (.t 20) (.c (.b false)))] [1, 7, 8, 9, 21] []) (.ite (.t 21) (.sq (.rg [] [gp 4 (.as (.c (.b false)))] [4] []) .rt) .sk)))) (.rg [] [gp 22 (.bo .add false (.t 9) (.c (.i .i64 1))), gp 9 (.mv (.t 22))] [1, 7, 8, 9] []))
def d43_0 : AC := .kp [1, 7, 8, 9] [] e43_0
def b43_0 : AC := (.sq (.rg [] [gp 10 (.bo .lss false (.t 9) (.t 8))] [1, 7, 8, 9, 10] []) (.sq (.ite (.t 10) .sk (.ex 0)) d43_0))
def c43_0 : LoopC := ⟨[1, 7, 8, 9], [], b43_0⟩
theorem c43_0_kf : c43_0.kf = [1, 7, 8, 9] := rfl
theorem c43_0_kb : c43_0.kb = [] := rfl
theorem c43_0_x : c43_0.x = b43_0 := rfl
attribute [simp] c43_0_kf c43_0_kb c43_0_x
def c43 : AFn := ⟨(.sq (.rg [] [gp 4 (.as (.c (.b false)))] [0, 1] []) (.sq (.sq (.rg [] [gp 7 (.mv (.t 0)), gp 8 (.ln false (.t 7)), gp 9 (.mv (.c (.i .i64 0)))] [1, 7, 8, 9] []) (.bl 0 c43_0.lp)) (.sq (.rg [] [gp 4 (.as (.c (.b true)))] [4] []) .rt))), [.t 4]⟩
def c44 : AFn := ⟨(.sq (.rg [] [gp 4 (.as (.c (.b false)))] [0, 1] []) (.sq (.rg [] [gp 5 (.mv (.t 0)), gp 6 (.mv (.t 1)), gp 7 (.c2 51 [(.t 5), (.t 6)]), gp 8 (.bo .geq false (.t 7) (.c (.i .i64 0))), gp 4 (.as (.t 8))] [4] []) .rt)), [.t 4]⟩
def c45 : AFn := ⟨(.sq (.rg [] [gp 2 (.bx (.t 0)), gp 3 (.as (.c (.b false)))] [1, 2] [1, 2]) (.sq (.rg [] [gp 4 (.ld (some 2) (.t 1)), gp 5 (.fa 0 (.t 2)), gp 6 (.ld none (.t 5)), gp 7 (.ca 0 46 [(.t 4), (.t 6)]), gp 8 (.no (.t 7)), gp 9 (.mv (.t 8)), ⟨some 10, .ld (some 2) (.t 1), (some (9, false)), false⟩, ⟨some 11, .fa 1 (.t 2), (some (9, false)), false⟩, ⟨some 12, .ld none (.t 11), (some (9, false)), false⟩, ⟨some 13, .ca 0 46 [(.t 10), (.t 12)], (some (9, false)), false⟩, ⟨some 14, .no (.t 13), (some (9, false)), false⟩, gp 15 (.pk (.t 9) (.c (.b true)) (.t 14)), gp 3 (.as (.t 15))] [3] []) .rt)), [.t 3]⟩
def c46 : AFn := ⟨(.sq (.rg [] [gp 2 (.bx (.t 0)), gp 4 (.as (.c (.b false)))] [1, 2] [2]) (.sq (.rg [] [gp 5 (.mv (.t 1)), gp 6 (.bo .geq false (.t 5) (.c (.i .i64 0))), gp 7 (.mv (.t 6)), ⟨some 8, .mv (.t 1), (some (7, true)), false⟩, ⟨some 9, .fa 0 (.t 2), (some (7, true)), false⟩, ⟨some 10, .ld none (.t 9), (some (7, true)), false⟩, ⟨some 11, .bo .lss false (.t 8) (.t 10), (some (7, true)), false⟩, gp 12 (.pk (.t 7) (.t 11) (.c (.b false))), gp 4 (.as (.t 12))] [4] []) .rt)), [.t 4]⟩
def e47_1 : AC := (.sq (.bl 2 (.sq (.dg [] [] [⟨gp 29 (.fa 1 (.t 3)), true, [3], [], false, [], [], []⟩, ⟨gp 30 (.ld none (.t 29)), true, [29], [3], false, [], [], []⟩, ⟨gp 31 (.mv (.t 5)), true, [5], [], false, [], [], []⟩, ⟨gp 32 (.ia 1 none (.t 30) (.t 31)), true, [30, 31], [3], false, [], [], []⟩, ⟨gp 33 (.ld none (.t 32)), true, [32], [3], false, [], [], []⟩, ⟨gp 34 (.fa 1 (.t 3)), true, [3], [], false, [], [], []⟩, ⟨gp 35 (.ld none (.t 34)), true, [34], [3], false, [], [], []⟩, ⟨gp 36 (.mv (.t 5)), true, [5], [], false, [], [], []⟩, ⟨gp 37 (.bo .sub false (.t 36) (.c (.i .i64 1))), true, [36], [], false, [], [], []⟩, ⟨gp 38 (.ia 1 none (.t 35) (.t 37)), true, [35, 37], [3], false, [], [], []⟩, ⟨gp 39 (.ld none (.t 38)), true, [38], [3], false, [], [], []⟩, ⟨gp 40 (.bo .leq false (.t 33) (.t 39)), false, [], [], false, [], [], []⟩] [3, 5, 40] [3]) (.ite (.t 40) (.sq (.rg [] [gp 4 (.as (.c (.i .i64 4)))] [4] []) .rt) .sk))) (.rg [] [gp 27 (.mv (.t 5)), gp 28 (.bo .add false (.t 27) (.c (.i .i64 1))), gp 5 (.as (.t 28))] [3, 5] [3]))
def d47_1 : AC := .kp [3, 5] [3] e47_1
def b47_0 : AC := (.sq (.sq (.rg [] [gp 22 (.mv (.t 5)), gp 23 (.fa 1 (.t 3)), gp 24 (.ld none (.t 23)), gp 25 (.ln false (.t 24)), gp 26 (.bo .lss false (.t 22) (.t 25))] [3, 5, 26] [3]) (.ite (.t 26) .sk (.ex 1))) d47_1)
def c47_0 : LoopC := ⟨[3, 5], [3], b47_0⟩
theorem c47_0_kf : c47_0.kf = [3, 5] := rfl
theorem c47_0_kb : c47_0.kb = [3] := rfl
theorem c47_0_x : c47_0.x = b47_0 := rfl
attribute [simp] c47_0_kf c47_0_kb c47_0_x
def e47_0 : AC := (.sq (.sq (.rg [] [gp 5 (.as (.c (.i .i64 1)))] [3, 5] [3]) (.bl 1 c47_0.lp)) (.sq (.rg [] [gp 4 (.as (.c (.i .i64 0)))] [4] []) .rt))
def d47_0 : AC := .kp [3] [3] e47_0
def c47 : AFn := ⟨(.sq (.rg [] [gp 2 (.bx (.t 0)), gp 3 (.bx (.t 1)), gp 4 (.as (.c (.i .i64 0)))] [2, 3] [2, 3]) (.sq (.bl 0 (.sq (.rg [] [gp 7 (.ld (some 2) (.t 2)), gp 8 (.fa 0 (.t 3)), gp 9 (.ld none (.t 8)), gp 10 (.ca 0 46 [(.t 7), (.t 9)]), gp 11 (.no (.t 10)), gp 6 (.as (.t 11))] [2, 3, 6] [2, 3]) (.ite (.t 6) (.sq (.rg [] [gp 4 (.as (.c (.i .i64 5)))] [4] []) .rt) (.sq (.rg [] [gp 13 (.fa 1 (.t 3)), gp 14 (.ld none (.t 13)), gp 15 (.ln false (.t 14)), gp 16 (.bo .gtr false (.t 15) (.c (.i .i64 6))), gp 12 (.as (.t 16))] [2, 3, 12] [2, 3]) (.ite (.t 12) (.sq (.rg [] [gp 4 (.as (.c (.i .i64 2)))] [4] []) .rt) (.sq (.rg [.fzB 2 true] [gp 18 (.fa 1 (.t 3)), gp 19 (.ld none (.t 18)), gp 20 (.mf 52 [(.t 2)]), gp 21 (.c2 40 [(.t 19), (.t 20)]), gp 17 (.as (.t 21))] [3, 17] [3]) (.ite (.t 17) (.sq (.rg [] [gp 4 (.as (.c (.i .i64 5)))] [4] []) .rt) .sk))))))) d47_0)), [.t 4]⟩
def e48_0 : AC := (.sq (.bl 1 (.sq (.rg [] [gp 10 (.mv (.t 8)), gp 5 (.as (.t 10))] [0, 1, 5, 7, 8] []) (.sq (.rg [] [gp 11 (.mv (.t 1)), gp 12 (.mv (.t 0)), gp 13 (.mv (.t 5)), gp 14 (.ia 2 none (.t 12) (.t 13)), gp 15 (.ld (some 2) (.t 14)), gp 16 (.cf 0 (.t 11) [(.t 15)])] [0, 1, 5, 7, 8, 16] []) (.ite (.t 16) (.sq (.rg [] [gp 17 (.mv (.t 5)), gp 4 (.as (.t 17))] [4] []) .rt) .sk)))) (.rg [] [gp 18 (.bo .add false (.t 8) (.c (.i .i64 1))), gp 8 (.mv (.t 18))] [0, 1, 7, 8] []))
def d48_0 : AC := .kp [0, 1, 7, 8] [] e48_0
def b48_0 : AC := (.sq (.rg [] [gp 9 (.bo .lss false (.t 8) (.t 7))] [0, 1, 7, 8, 9] []) (.sq (.ite (.t 9) .sk (.ex 0)) d48_0))
def c48_0 : LoopC := ⟨[0, 1, 7, 8], [], b48_0⟩
theorem c48_0_kf : c48_0.kf = [0, 1, 7, 8] := rfl
theorem c48_0_kb : c48_0.kb = [] := rfl
theorem c48_0_x : c48_0.x = b48_0 := rfl
attribute [simp] c48_0_kf c48_0_kb c48_0_x
def c48 : AFn := ⟨(.sq (.rg [] [gp 4 (.as (.c (.i .i64 0)))] [0, 1] []) (.sq (.sq (.rg [] [gp 6 (.mv (.t 0)), gp 7 (.ln false (.t 6)), gp 8 (.mv (.c (.i .i64 0)))] [0, 1, 7, 8] []) (.bl 0 c48_0.lp)) (.sq (.rg [] [gp 4 (.as (.c (.i .i64 (-1))))] [4] []) .rt))), [.t 4]⟩
def e49_0 : AC := (.sq (.bl 1 (.sq (.rg [] [gp 10 (.mv (.t 8)), gp 5 (.as (.t 10))] [0, 1, 5, 7, 8] []) (.sq (.rg [] [gp 11 (.mv (.t 1)), gp 12 (.mv (.t 0)), gp 13 (.mv (.t 5)), gp 14 (.ia 1 none (.t 12) (.t 13)), gp 15 (.ld none (.t 14)), gp 16 (.cf 0 (.t 11) [(.t 15)])] [0, 1, 5, 7, 8, 16] []) (.ite (.t 16) (.sq (.rg [] [gp 17 (.mv (.t 5)), gp 4 (.as (.t 17))] [4] []) .rt) .sk)))) (.rg [] [gp 18 (.bo .add false (.t 8) (.c (.i .i64 1))), gp 8 (.mv (.t 18))] [0, 1, 7, 8] []))
def d49_0 : AC := .kp [0, 1, 7, 8] [] e49_0
def b49_0 : AC := (.sq (.rg [] [gp 9 (.bo .lss false (.t 8) (.t 7))] [0, 1, 7, 8, 9] []) (.sq (.ite (.t 9) .sk (.ex 0)) d49_0))
def c49_0 : LoopC := ⟨[0, 1, 7, 8], [], b49_0⟩
theorem c49_0_kf : c49_0.kf = [0, 1, 7, 8] := rfl
theorem c49_0_kb : c49_0.kb = [] := rfl
theorem c49_0_x : c49_0.x = b49_0 := rfl
attribute [simp] c49_0_kf c49_0_kb c49_0_x
def c49 : AFn := ⟨(.sq (.rg [] [gp 4 (.as (.c (.i .i64 0)))] [0, 1] []) (.sq (.sq (.rg [] [gp 6 (.mv (.t 0)), gp 7 (.ln false (.t 6)), gp 8 (.mv (.c (.i .i64 0)))] [0, 1, 7, 8] []) (.bl 0 c49_0.lp)) (.sq (.rg [] [gp 4 (.as (.c (.i .i64 (-1))))] [4] []) .rt))), [.t 4]⟩
def e50_0 : AC := (.sq (.bl 1 (.sq (.rg [] [gp 10 (.mv (.t 8)), gp 5 (.as (.t 10))] [0, 1, 5, 7, 8] []) (.sq (.rg [] [gp 11 (.mv (.t 1)), gp 12 (.mv (.t 0)), gp 13 (.mv (.t 5)), gp 14 (.ia 2 none (.t 12) (.t 13)), gp 15 (.ld (some 2) (.t 14)), gp 16 (.cf 0 (.t 11) [(.t 15)])] [0, 1, 5, 7, 8, 16] []) (.ite (.t 16) (.sq (.rg [] [gp 17 (.mv (.t 5)), gp 4 (.as (.t 17))] [4] []) .rt) .sk)))) (.rg [] [gp 18 (.bo .add false (.t 8) (.c (.i .i64 1))), gp 8 (.mv (.t 18))] [0, 1, 7, 8] []))
def d50_0 : AC := .kp [0, 1, 7, 8] [] e50_0
def b50_0 : AC := (.sq (.rg [] [gp 9 (.bo .lss false (.t 8) (.t 7))] [0, 1, 7, 8, 9] []) (.sq (.ite (.t 9) .sk (.ex 0)) d50_0))
def c50_0 : LoopC := ⟨[0, 1, 7, 8], [], b50_0⟩
theorem c50_0_kf : c50_0.kf = [0, 1, 7, 8] := rfl
theorem c50_0_kb : c50_0.kb = [] := rfl
theorem c50_0_x : c50_0.x = b50_0 := rfl
attribute [simp] c50_0_kf c50_0_kb c50_0_x
def c50 : AFn := ⟨(.sq (.rg [] [gp 4 (.as (.c (.i .i64 0)))] [0, 1] []) (.sq (.sq (.rg [] [gp 6 (.mv (.t 0)), gp 7 (.ln false (.t 6)), gp 8 (.mv (.c (.i .i64 0)))] [0, 1, 7, 8] []) (.bl 0 c50_0.lp)) (.sq (.rg [] [gp 4 (.as (.c (.i .i64 (-1))))] [4] []) .rt))), [.t 4]⟩
def e51_0 : AC := (.sq (.bl 1 (.sq (.rg [] [gp 10 (.mv (.t 8)), gp 5 (.as (.t 10))] [0, 1, 5, 7, 8] []) (.sq (.rg [] [gp 11 (.mv (.t 1)), gp 12 (.mv (.t 0)), gp 13 (.mv (.t 5)), gp 14 (.ia 2 none (.t 12) (.t 13)), gp 15 (.ld (some 2) (.t 14)), gp 16 (.cf 0 (.t 11) [(.t 15)])] [0, 1, 5, 7, 8, 16] []) (.ite (.t 16) (.sq (.rg [] [gp 17 (.mv (.t 5)), gp 4 (.as (.t 17))] [4] []) .rt) .sk)))) (.rg [] [gp 18 (.bo .add false (.t 8) (.c (.i .i64 1))), gp 8 (.mv (.t 18))] [0, 1, 7, 8] []))
def d51_0 : AC := .kp [0, 1, 7, 8] [] e51_0
def b51_0 : AC := (.sq (.rg [] [gp 9 (.bo .lss false (.t 8) (.t 7))] [0, 1, 7, 8, 9] []) (.sq (.ite (.t 9) .sk (.ex 0)) d51_0))
def c51_0 : LoopC := ⟨[0, 1, 7, 8], [], b51_0⟩
theorem c51_0_kf : c51_0.kf = [0, 1, 7, 8] := rfl
theorem c51_0_kb : c51_0.kb = [] := rfl
theorem c51_0_x : c51_0.x = b51_0 := rfl
attribute [simp] c51_0_kf c51_0_kb c51_0_x
def c51 : AFn := ⟨(.sq (.rg [] [gp 4 (.as (.c (.i .i64 0)))] [0, 1] []) (.sq (.sq (.rg [] [gp 6 (.mv (.t 0)), gp 7 (.ln false (.t 6)), gp 8 (.mv (.c (.i .i64 0)))] [0, 1, 7, 8] []) (.bl 0 c51_0.lp)) (.sq (.rg [] [gp 4 (.as (.c (.i .i64 (-1))))] [4] []) .rt))), [.t 4]⟩
def c52 : AFn := ⟨(.sq (.rg [] [gp 3 (.as (.c (.b false)))] [0, 1] [1]) (.sq (.rg [] [gp 4 (.ld (some 2) (.t 1)), gp 5 (.mv (.t 0)), gp 6 (.ca 0 46 [(.t 4), (.t 5)]), gp 7 (.no (.t 6)), gp 3 (.as (.t 7))] [3] []) .rt)), [.t 3]⟩
abbrev Ω0 : Orc := fun f ys => match f with
  | 14 => spoilO 4 ys
  | _ => none

def G : Prg := fun
  | 3 => some c3
  | 4 => some c4
  | 5 => some c5
  | 6 => some c6
  | 7 => some c7
  | 8 => some c8
  | 9 => some c9
  | 10 => some c10
  | 11 => some c11
  | 12 => some c12
  | 13 => some c13
  | 15 => some c15
  | 16 => some c16
  | 17 => some c17
  | 18 => some c18
  | 19 => some c19
  | 20 => some c20
  | 21 => some c21
  | 22 => some c22
  | 23 => some c23
  | 24 => some c24
  | 25 => some c25
  | 26 => some c26
  | 27 => some c27
  | 28 => some c28
  | 29 => some c29
  | 30 => some c30
  | 31 => some c31
  | 32 => some c32
  | 33 => some c33
  | 34 => some c34
  | 35 => some c35
  | 36 => some c36
  | 37 => some c37
  | 38 => some c38
  | 39 => some c39
  | 40 => some c40
  | 41 => some c41
  | 42 => some c42
  | 43 => some c43
  | 44 => some c44
  | 45 => some c45
  | 46 => some c46
  | 47 => some c47
  | 48 => some c48
  | 49 => some c49
  | 50 => some c50
  | 51 => some c51
  | 52 => some c52
  | _ => none
theorem G3 : G 3 = some c3 := rfl
theorem G4 : G 4 = some c4 := rfl
theorem G5 : G 5 = some c5 := rfl
theorem G6 : G 6 = some c6 := rfl
theorem G7 : G 7 = some c7 := rfl
theorem G8 : G 8 = some c8 := rfl
theorem G9 : G 9 = some c9 := rfl
theorem G10 : G 10 = some c10 := rfl
theorem G11 : G 11 = some c11 := rfl
theorem G12 : G 12 = some c12 := rfl
theorem G13 : G 13 = some c13 := rfl
theorem G15 : G 15 = some c15 := rfl
theorem G16 : G 16 = some c16 := rfl
theorem G17 : G 17 = some c17 := rfl
theorem G18 : G 18 = some c18 := rfl
theorem G19 : G 19 = some c19 := rfl
theorem G20 : G 20 = some c20 := rfl
theorem G21 : G 21 = some c21 := rfl
theorem G22 : G 22 = some c22 := rfl
theorem G23 : G 23 = some c23 := rfl
theorem G24 : G 24 = some c24 := rfl
theorem G25 : G 25 = some c25 := rfl
theorem G26 : G 26 = some c26 := rfl
theorem G27 : G 27 = some c27 := rfl
theorem G28 : G 28 = some c28 := rfl
theorem G29 : G 29 = some c29 := rfl
theorem G30 : G 30 = some c30 := rfl
theorem G31 : G 31 = some c31 := rfl
theorem G32 : G 32 = some c32 := rfl
theorem G33 : G 33 = some c33 := rfl
theorem G34 : G 34 = some c34 := rfl
theorem G35 : G 35 = some c35 := rfl
theorem G36 : G 36 = some c36 := rfl
theorem G37 : G 37 = some c37 := rfl
theorem G38 : G 38 = some c38 := rfl
theorem G39 : G 39 = some c39 := rfl
theorem G40 : G 40 = some c40 := rfl
theorem G41 : G 41 = some c41 := rfl
theorem G42 : G 42 = some c42 := rfl
theorem G43 : G 43 = some c43 := rfl
theorem G44 : G 44 = some c44 := rfl
theorem G45 : G 45 = some c45 := rfl
theorem G46 : G 46 = some c46 := rfl
theorem G47 : G 47 = some c47 := rfl
theorem G48 : G 48 = some c48 := rfl
theorem G49 : G 49 = some c49 := rfl
theorem G50 : G 50 = some c50 := rfl
theorem G51 : G 51 = some c51 := rfl
theorem G52 : G 52 = some c52 := rfl
end Go.Proofs.Ytjnhiggknkflfaa.A
