/- Each function and its abstract code, made by program. -/
import Derived.Test.YtkmmjfjikmeidaaGreatDoorAbsJ
import Derived.Test.YtkmmjfjikmeidaaGreatDoorCode
import Derived.Test.YtkmmjfjikmeidaaGreatDoorProg
import Derived.Test.YtkmmjfjikmeidaaGreatDoorOrcOK
import Derived.Test.YtkmmjfjikmeidaaGreatDoorShelf
import Derived.Test.YtkmmjfjikmeidaaGreatDoorBld
set_option maxRecDepth 100000
set_option linter.unusedSectionVars false
set_option linter.unusedVariables false
set_option linter.unusedSimpArgs false
namespace Go.Proofs.YtkmmjfjikmeidaaGreatDoor.A
open Go Go.Proofs
variable [Base]
theorem low3 : lowF Tryz.prog 3 c3 = true := by kernel_rfl
theorem low4 : lowF Tryz.prog 4 c4 = true := by kernel_rfl
theorem low5 : lowF Tryz.prog 5 c5 = true := by kernel_rfl
theorem low6 : lowF Tryz.prog 6 c6 = true := by kernel_rfl
theorem low7 : lowF Tryz.prog 7 c7 = true := by kernel_rfl
theorem low8 : lowF Tryz.prog 8 c8 = true := by kernel_rfl
theorem low9 : lowF Tryz.prog 9 c9 = true := by kernel_rfl
theorem low10 : lowF Tryz.prog 10 c10 = true := by kernel_rfl
theorem low11 : lowF Tryz.prog 11 c11 = true := by kernel_rfl
theorem low12 : lowF Tryz.prog 12 c12 = true := by kernel_rfl
theorem low13 : lowF Tryz.prog 13 c13 = true := by kernel_rfl
theorem low14 : lowF Tryz.prog 14 c14 = true := by kernel_rfl
theorem low15 : lowF Tryz.prog 15 c15 = true := by kernel_rfl
theorem low16 : lowF Tryz.prog 16 c16 = true := by kernel_rfl
theorem low17 : lowF Tryz.prog 17 c17 = true := by kernel_rfl
theorem low18 : lowF Tryz.prog 18 c18 = true := by kernel_rfl
theorem low19 : lowF Tryz.prog 19 c19 = true := by kernel_rfl
theorem low20 : lowF Tryz.prog 20 c20 = true := by kernel_rfl
theorem low21 : lowF Tryz.prog 21 c21 = true := by kernel_rfl
theorem low22 : lowF Tryz.prog 22 c22 = true := by kernel_rfl
theorem low23 : lowF Tryz.prog 23 c23 = true := by kernel_rfl
theorem low24 : lowF Tryz.prog 24 c24 = true := by kernel_rfl
theorem low25 : lowF Tryz.prog 25 c25 = true := by kernel_rfl
theorem low27 : lowF Tryz.prog 27 c27 = true := by kernel_rfl
theorem low28 : lowF Tryz.prog 28 c28 = true := by kernel_rfl
theorem low29 : lowF Tryz.prog 29 c29 = true := by kernel_rfl
theorem low30 : lowF Tryz.prog 30 c30 = true := by kernel_rfl
theorem low31 : lowF Tryz.prog 31 c31 = true := by kernel_rfl
theorem low32 : lowF Tryz.prog 32 c32 = true := by kernel_rfl
theorem low33 : lowF Tryz.prog 33 c33 = true := by kernel_rfl
theorem low34 : lowF Tryz.prog 34 c34 = true := by kernel_rfl
theorem low35 : lowF Tryz.prog 35 c35 = true := by kernel_rfl
theorem low36 : lowF Tryz.prog 36 c36 = true := by kernel_rfl
theorem low37 : lowF Tryz.prog 37 c37 = true := by kernel_rfl
theorem low38 : lowF Tryz.prog 38 c38 = true := by kernel_rfl
theorem low39 : lowF Tryz.prog 39 c39 = true := by kernel_rfl
theorem low40 : lowF Tryz.prog 40 c40 = true := by kernel_rfl
theorem low41 : lowF Tryz.prog 41 c41 = true := by kernel_rfl
theorem low42 : lowF Tryz.prog 42 c42 = true := by kernel_rfl
theorem low43 : lowF Tryz.prog 43 c43 = true := by kernel_rfl
theorem low44 : lowF Tryz.prog 44 c44 = true := by kernel_rfl
theorem low45 : lowF Tryz.prog 45 c45 = true := by kernel_rfl
theorem low46 : lowF Tryz.prog 46 c46 = true := by kernel_rfl
theorem low48 : lowF Tryz.prog 48 c48 = true := by kernel_rfl
theorem low49 : lowF Tryz.prog 49 c49 = true := by kernel_rfl
theorem low50 : lowF Tryz.prog 50 c50 = true := by kernel_rfl
theorem low52 : lowF Tryz.prog 52 c52 = true := by kernel_rfl
theorem low53 : lowF Tryz.prog 53 c53 = true := by kernel_rfl
theorem low54 : lowF Tryz.prog 54 c54 = true := by kernel_rfl
theorem low55 : lowF Tryz.prog 55 c55 = true := by kernel_rfl
theorem low56 : lowF Tryz.prog 56 c56 = true := by kernel_rfl
theorem low57 : lowF Tryz.prog 57 c57 = true := by kernel_rfl
theorem low58 : lowF Tryz.prog 58 c58 = true := by kernel_rfl
theorem low59 : lowF Tryz.prog 59 c59 = true := by kernel_rfl
theorem low60 : lowF Tryz.prog 60 c60 = true := by kernel_rfl
theorem low61 : lowF Tryz.prog 61 c61 = true := by kernel_rfl
theorem low62 : lowF Tryz.prog 62 c62 = true := by kernel_rfl
theorem low63 : lowF Tryz.prog 63 c63 = true := by kernel_rfl
theorem low64 : lowF Tryz.prog 64 c64 = true := by kernel_rfl
theorem low65 : lowF Tryz.prog 65 c65 = true := by kernel_rfl
theorem low66 : lowF Tryz.prog 66 c66 = true := by kernel_rfl
theorem low67 : lowF Tryz.prog 67 c67 = true := by kernel_rfl
theorem low68 : lowF Tryz.prog 68 c68 = true := by kernel_rfl
theorem low69 : lowF Tryz.prog 69 c69 = true := by kernel_rfl
theorem low70 : lowF Tryz.prog 70 c70 = true := by kernel_rfl
theorem low71 : lowF Tryz.prog 71 c71 = true := by kernel_rfl
theorem low72 : lowF Tryz.prog 72 c72 = true := by kernel_rfl
theorem low73 : lowF Tryz.prog 73 c73 = true := by kernel_rfl
theorem low74 : lowF Tryz.prog 74 c74 = true := by kernel_rfl
theorem low75 : lowF Tryz.prog 75 c75 = true := by kernel_rfl
theorem low76 : lowF Tryz.prog 76 c76 = true := by kernel_rfl
theorem low79 : lowF Tryz.prog 79 c79 = true := by kernel_rfl
theorem low80 : lowF Tryz.prog 80 c80 = true := by kernel_rfl
theorem low81 : lowF Tryz.prog 81 c81 = true := by kernel_rfl
theorem low83 : lowF Tryz.prog 83 c83 = true := by kernel_rfl
theorem low85 : lowF Tryz.prog 85 c85 = true := by kernel_rfl
theorem low86 : lowF Tryz.prog 86 c86 = true := by kernel_rfl
theorem low87 : lowF Tryz.prog 87 c87 = true := by kernel_rfl
theorem low88 : lowF Tryz.prog 88 c88 = true := by kernel_rfl
theorem low89 : lowF Tryz.prog 89 c89 = true := by kernel_rfl
theorem low90 : lowF Tryz.prog 90 c90 = true := by kernel_rfl
theorem low91 : lowF Tryz.prog 91 c91 = true := by kernel_rfl
theorem low92 : lowF Tryz.prog 92 c92 = true := by kernel_rfl
theorem low93 : lowF Tryz.prog 93 c93 = true := by kernel_rfl
theorem low94 : lowF Tryz.prog 94 c94 = true := by kernel_rfl
theorem low95 : lowF Tryz.prog 95 c95 = true := by kernel_rfl
theorem low96 : lowF Tryz.prog 96 c96 = true := by kernel_rfl
theorem low97 : lowF Tryz.prog 97 c97 = true := by kernel_rfl
theorem low98 : lowF Tryz.prog 98 c98 = true := by kernel_rfl
theorem low99 : lowF Tryz.prog 99 c99 = true := by kernel_rfl
theorem low100 : lowF Tryz.prog 100 c100 = true := by kernel_rfl
theorem low101 : lowF Tryz.prog 101 c101 = true := by kernel_rfl
theorem low102 : lowF Tryz.prog 102 c102 = true := by kernel_rfl
theorem low108 : lowF Tryz.prog 108 c108 = true := by kernel_rfl
theorem low109 : lowF Tryz.prog 109 c109 = true := by kernel_rfl
theorem low110 : lowF Tryz.prog 110 c110 = true := by kernel_rfl
theorem low111 : lowF Tryz.prog 111 c111 = true := by kernel_rfl
theorem low112 : lowF Tryz.prog 112 c112 = true := by kernel_rfl
theorem low115 : lowF Tryz.prog 115 c115 = true := by kernel_rfl
theorem low120 : lowF Tryz.prog 120 c120 = true := by kernel_rfl
theorem low121 : lowF Tryz.prog 121 c121 = true := by kernel_rfl
theorem low127 : lowF Tryz.prog 127 c127 = true := by kernel_rfl
theorem low128 : lowF Tryz.prog 128 c128 = true := by kernel_rfl
theorem low129 : lowF Tryz.prog 129 c129 = true := by kernel_rfl
theorem low130 : lowF Tryz.prog 130 c130 = true := by kernel_rfl
theorem low131 : lowF Tryz.prog 131 c131 = true := by kernel_rfl
theorem tab : TabOK Tryz.prog G := by
  intro f fn h
  unfold G at h
  split at h
  · obtain rfl := Option.some.inj h; exact low3
  · obtain rfl := Option.some.inj h; exact low4
  · obtain rfl := Option.some.inj h; exact low5
  · obtain rfl := Option.some.inj h; exact low6
  · obtain rfl := Option.some.inj h; exact low7
  · obtain rfl := Option.some.inj h; exact low8
  · obtain rfl := Option.some.inj h; exact low9
  · obtain rfl := Option.some.inj h; exact low10
  · obtain rfl := Option.some.inj h; exact low11
  · obtain rfl := Option.some.inj h; exact low12
  · obtain rfl := Option.some.inj h; exact low13
  · obtain rfl := Option.some.inj h; exact low14
  · obtain rfl := Option.some.inj h; exact low15
  · obtain rfl := Option.some.inj h; exact low16
  · obtain rfl := Option.some.inj h; exact low17
  · obtain rfl := Option.some.inj h; exact low18
  · obtain rfl := Option.some.inj h; exact low19
  · obtain rfl := Option.some.inj h; exact low20
  · obtain rfl := Option.some.inj h; exact low21
  · obtain rfl := Option.some.inj h; exact low22
  · obtain rfl := Option.some.inj h; exact low23
  · obtain rfl := Option.some.inj h; exact low24
  · obtain rfl := Option.some.inj h; exact low25
  · obtain rfl := Option.some.inj h; exact low27
  · obtain rfl := Option.some.inj h; exact low28
  · obtain rfl := Option.some.inj h; exact low29
  · obtain rfl := Option.some.inj h; exact low30
  · obtain rfl := Option.some.inj h; exact low31
  · obtain rfl := Option.some.inj h; exact low32
  · obtain rfl := Option.some.inj h; exact low33
  · obtain rfl := Option.some.inj h; exact low34
  · obtain rfl := Option.some.inj h; exact low35
  · obtain rfl := Option.some.inj h; exact low36
  · obtain rfl := Option.some.inj h; exact low37
  · obtain rfl := Option.some.inj h; exact low38
  · obtain rfl := Option.some.inj h; exact low39
  · obtain rfl := Option.some.inj h; exact low40
  · obtain rfl := Option.some.inj h; exact low41
  · obtain rfl := Option.some.inj h; exact low42
  · obtain rfl := Option.some.inj h; exact low43
  · obtain rfl := Option.some.inj h; exact low44
  · obtain rfl := Option.some.inj h; exact low45
  · obtain rfl := Option.some.inj h; exact low46
  · obtain rfl := Option.some.inj h; exact low48
  · obtain rfl := Option.some.inj h; exact low49
  · obtain rfl := Option.some.inj h; exact low50
  · obtain rfl := Option.some.inj h; exact low52
  · obtain rfl := Option.some.inj h; exact low53
  · obtain rfl := Option.some.inj h; exact low54
  · obtain rfl := Option.some.inj h; exact low55
  · obtain rfl := Option.some.inj h; exact low56
  · obtain rfl := Option.some.inj h; exact low57
  · obtain rfl := Option.some.inj h; exact low58
  · obtain rfl := Option.some.inj h; exact low59
  · obtain rfl := Option.some.inj h; exact low60
  · obtain rfl := Option.some.inj h; exact low61
  · obtain rfl := Option.some.inj h; exact low62
  · obtain rfl := Option.some.inj h; exact low63
  · obtain rfl := Option.some.inj h; exact low64
  · obtain rfl := Option.some.inj h; exact low65
  · obtain rfl := Option.some.inj h; exact low66
  · obtain rfl := Option.some.inj h; exact low67
  · obtain rfl := Option.some.inj h; exact low68
  · obtain rfl := Option.some.inj h; exact low69
  · obtain rfl := Option.some.inj h; exact low70
  · obtain rfl := Option.some.inj h; exact low71
  · obtain rfl := Option.some.inj h; exact low72
  · obtain rfl := Option.some.inj h; exact low73
  · obtain rfl := Option.some.inj h; exact low74
  · obtain rfl := Option.some.inj h; exact low75
  · obtain rfl := Option.some.inj h; exact low76
  · obtain rfl := Option.some.inj h; exact low79
  · obtain rfl := Option.some.inj h; exact low80
  · obtain rfl := Option.some.inj h; exact low81
  · obtain rfl := Option.some.inj h; exact low83
  · obtain rfl := Option.some.inj h; exact low85
  · obtain rfl := Option.some.inj h; exact low86
  · obtain rfl := Option.some.inj h; exact low87
  · obtain rfl := Option.some.inj h; exact low88
  · obtain rfl := Option.some.inj h; exact low89
  · obtain rfl := Option.some.inj h; exact low90
  · obtain rfl := Option.some.inj h; exact low91
  · obtain rfl := Option.some.inj h; exact low92
  · obtain rfl := Option.some.inj h; exact low93
  · obtain rfl := Option.some.inj h; exact low94
  · obtain rfl := Option.some.inj h; exact low95
  · obtain rfl := Option.some.inj h; exact low96
  · obtain rfl := Option.some.inj h; exact low97
  · obtain rfl := Option.some.inj h; exact low98
  · obtain rfl := Option.some.inj h; exact low99
  · obtain rfl := Option.some.inj h; exact low100
  · obtain rfl := Option.some.inj h; exact low101
  · obtain rfl := Option.some.inj h; exact low102
  · obtain rfl := Option.some.inj h; exact low108
  · obtain rfl := Option.some.inj h; exact low109
  · obtain rfl := Option.some.inj h; exact low110
  · obtain rfl := Option.some.inj h; exact low111
  · obtain rfl := Option.some.inj h; exact low112
  · obtain rfl := Option.some.inj h; exact low115
  · obtain rfl := Option.some.inj h; exact low120
  · obtain rfl := Option.some.inj h; exact low121
  · obtain rfl := Option.some.inj h; exact low127
  · obtain rfl := Option.some.inj h; exact low128
  · obtain rfl := Option.some.inj h; exact low129
  · obtain rfl := Option.some.inj h; exact low130
  · obtain rfl := Option.some.inj h; exact low131
  · cases h
theorem bodied47 : bodied Tryz.prog 47 := ⟨Tryz.f47, Tryz.func47, by kernel_rfl, by kernel_rfl⟩
theorem bodied51 : bodied Tryz.prog 51 := ⟨Tryz.f51, Tryz.func51, by kernel_rfl, by kernel_rfl⟩
theorem bodied78 : bodied Tryz.prog 78 := ⟨Tryz.f78, Tryz.func78, by kernel_rfl, by kernel_rfl⟩
theorem bodied132 : bodied Tryz.prog 132 := ⟨Tryz.f132, Tryz.func132, by kernel_rfl, by kernel_rfl⟩
theorem orc : OrcOK Tryz.prog Ω0 := by
  refine ⟨fun f g n h => ?_, fun f y h _ => ?_, fun f ys x h hy hp => ?_, fun f ys t h hy => ?_, fun f t h => ?_⟩
  · simp only [Ω0] at h
    split at h
    · exact (noV_joinO h).elim
    · exact (noV_repeatO h).elim
    · exact (noV_itoaO h).elim
    · exact (noV_indexByteO h).elim
    · exact (noV_strO h).elim
    · cases h
  · simp only [Ω0] at h
    split at h
    · exact (joinO_u h).elim
    · exact (repeatO_u h).elim
    · exact (itoaO_u h).elim
    · exact (indexByteO_u h).elim
    · exact (strO_u h).elim
    · cases h
  · simp only [Ω0] at h
    split at h
    · exact joinOK bodied47 Tryz.strings_Join_none Tryz.strings_Join h
    · exact repeatOK bodied51 (fun s c w hc hl => Tryz.strings_Repeat s c w hc hl) h
    · exact itoaOK bodied78 (fun i w hi => Tryz.strconv_Itoa_small i hi w) h
    · exact indexByteOK bodied132 Tryz.strings_IndexByte h
    · exact (strO_no h hy).elim
    · cases h
  · simp only [Ω0] at h
    split at h
    · exact (joinO_no h).elim
    · exact (repeatO_no h).elim
    · exact (itoaO_no h).elim
    · exact (indexByteO_no h).elim
    · exact (strO_no h hy).elim
    · cases h
  · simp only [Ω0] at h
    split at h
    · exact (noS_joinO h).elim
    · exact (noS_repeatO h).elim
    · exact (noS_itoaO h).elim
    · exact (noS_indexByteO h).elim
    · exact strOK h
    · cases h
/-- what the abstract run of a function says, a call of it does. -/
theorem sound : RecOK Tryz.prog (call G Ω0) := call_ok tab fun B => @orc B
end Go.Proofs.YtkmmjfjikmeidaaGreatDoor.A
