/- Each function and its abstract code, made by program. -/
import Derived.Test.YtmfihcbafljcbaaAbsJ
import Derived.Test.YtmfihcbafljcbaaCode
import Derived.Test.YtmfihcbafljcbaaProg
import Derived.Test.YtmfihcbafljcbaaOrcOK
import Derived.Test.YtmfihcbafljcbaaUses
import Derived.Test.YtmfihcbafljcbaaRep
import Derived.Test.YtmfihcbafljcbaaClone
import Derived.Test.YtmfihcbafljcbaaBad
import Derived.Test.YtmfihcbafljcbaaGrow
set_option maxRecDepth 100000
set_option linter.unusedSectionVars false
set_option linter.unusedVariables false
set_option linter.unusedSimpArgs false
namespace Go.Proofs.Ytmfihcbafljcbaa.A
open Go Go.Proofs
variable [Base]
theorem low3 : lowF Try.prog 3 c3 = true := by kernel_rfl
theorem low4 : lowF Try.prog 4 c4 = true := by kernel_rfl
theorem low5 : lowF Try.prog 5 c5 = true := by kernel_rfl
theorem low6 : lowF Try.prog 6 c6 = true := by kernel_rfl
theorem low7 : lowF Try.prog 7 c7 = true := by kernel_rfl
theorem low9 : lowF Try.prog 9 c9 = true := by kernel_rfl
theorem low10 : lowF Try.prog 10 c10 = true := by kernel_rfl
theorem low11 : lowF Try.prog 11 c11 = true := by kernel_rfl
theorem low12 : lowF Try.prog 12 c12 = true := by kernel_rfl
theorem low13 : lowF Try.prog 13 c13 = true := by kernel_rfl
theorem low15 : lowF Try.prog 15 c15 = true := by kernel_rfl
theorem low16 : lowF Try.prog 16 c16 = true := by kernel_rfl
theorem low17 : lowF Try.prog 17 c17 = true := by kernel_rfl
theorem low18 : lowF Try.prog 18 c18 = true := by kernel_rfl
theorem low19 : lowF Try.prog 19 c19 = true := by kernel_rfl
theorem low20 : lowF Try.prog 20 c20 = true := by kernel_rfl
theorem low21 : lowF Try.prog 21 c21 = true := by kernel_rfl
theorem low22 : lowF Try.prog 22 c22 = true := by kernel_rfl
theorem low23 : lowF Try.prog 23 c23 = true := by kernel_rfl
theorem low24 : lowF Try.prog 24 c24 = true := by kernel_rfl
theorem low25 : lowF Try.prog 25 c25 = true := by kernel_rfl
theorem low26 : lowF Try.prog 26 c26 = true := by kernel_rfl
theorem low27 : lowF Try.prog 27 c27 = true := by kernel_rfl
theorem low28 : lowF Try.prog 28 c28 = true := by kernel_rfl
theorem low29 : lowF Try.prog 29 c29 = true := by kernel_rfl
theorem low30 : lowF Try.prog 30 c30 = true := by kernel_rfl
theorem low31 : lowF Try.prog 31 c31 = true := by kernel_rfl
theorem low32 : lowF Try.prog 32 c32 = true := by kernel_rfl
theorem low33 : lowF Try.prog 33 c33 = true := by kernel_rfl
theorem low34 : lowF Try.prog 34 c34 = true := by kernel_rfl
theorem low35 : lowF Try.prog 35 c35 = true := by kernel_rfl
theorem low36 : lowF Try.prog 36 c36 = true := by kernel_rfl
theorem low37 : lowF Try.prog 37 c37 = true := by kernel_rfl
theorem low38 : lowF Try.prog 38 c38 = true := by kernel_rfl
theorem low39 : lowF Try.prog 39 c39 = true := by kernel_rfl
theorem low40 : lowF Try.prog 40 c40 = true := by kernel_rfl
theorem low41 : lowF Try.prog 41 c41 = true := by kernel_rfl
theorem low42 : lowF Try.prog 42 c42 = true := by kernel_rfl
theorem low43 : lowF Try.prog 43 c43 = true := by kernel_rfl
theorem low44 : lowF Try.prog 44 c44 = true := by kernel_rfl
theorem low45 : lowF Try.prog 45 c45 = true := by kernel_rfl
theorem low46 : lowF Try.prog 46 c46 = true := by kernel_rfl
theorem low47 : lowF Try.prog 47 c47 = true := by kernel_rfl
theorem low48 : lowF Try.prog 48 c48 = true := by kernel_rfl
theorem low49 : lowF Try.prog 49 c49 = true := by kernel_rfl
theorem low50 : lowF Try.prog 50 c50 = true := by kernel_rfl
theorem low51 : lowF Try.prog 51 c51 = true := by kernel_rfl
theorem low53 : lowF Try.prog 53 c53 = true := by kernel_rfl
theorem low54 : lowF Try.prog 54 c54 = true := by kernel_rfl
theorem low55 : lowF Try.prog 55 c55 = true := by kernel_rfl
theorem low56 : lowF Try.prog 56 c56 = true := by kernel_rfl
theorem low57 : lowF Try.prog 57 c57 = true := by kernel_rfl
theorem low58 : lowF Try.prog 58 c58 = true := by kernel_rfl
theorem low59 : lowF Try.prog 59 c59 = true := by kernel_rfl
theorem low60 : lowF Try.prog 60 c60 = true := by kernel_rfl
theorem low61 : lowF Try.prog 61 c61 = true := by kernel_rfl
theorem low62 : lowF Try.prog 62 c62 = true := by kernel_rfl
theorem low64 : lowF Try.prog 64 c64 = true := by kernel_rfl
theorem low65 : lowF Try.prog 65 c65 = true := by kernel_rfl
theorem low66 : lowF Try.prog 66 c66 = true := by kernel_rfl
theorem low67 : lowF Try.prog 67 c67 = true := by kernel_rfl
theorem low68 : lowF Try.prog 68 c68 = true := by kernel_rfl
theorem low69 : lowF Try.prog 69 c69 = true := by kernel_rfl
theorem low70 : lowF Try.prog 70 c70 = true := by kernel_rfl
theorem low71 : lowF Try.prog 71 c71 = true := by kernel_rfl
theorem low72 : lowF Try.prog 72 c72 = true := by kernel_rfl
theorem low73 : lowF Try.prog 73 c73 = true := by kernel_rfl
theorem low74 : lowF Try.prog 74 c74 = true := by kernel_rfl
theorem low75 : lowF Try.prog 75 c75 = true := by kernel_rfl
theorem low76 : lowF Try.prog 76 c76 = true := by kernel_rfl
theorem low77 : lowF Try.prog 77 c77 = true := by kernel_rfl
theorem tab : TabOK Try.prog G := by
  intro f fn h
  unfold G at h
  split at h
  · obtain rfl := Option.some.inj h; exact low3
  · obtain rfl := Option.some.inj h; exact low4
  · obtain rfl := Option.some.inj h; exact low5
  · obtain rfl := Option.some.inj h; exact low6
  · obtain rfl := Option.some.inj h; exact low7
  · obtain rfl := Option.some.inj h; exact low9
  · obtain rfl := Option.some.inj h; exact low10
  · obtain rfl := Option.some.inj h; exact low11
  · obtain rfl := Option.some.inj h; exact low12
  · obtain rfl := Option.some.inj h; exact low13
  · obtain rfl := Option.some.inj h; exact low15
  · obtain rfl := Option.some.inj h; exact low16
  · obtain rfl := Option.some.inj h; exact low17
  · obtain rfl := Option.some.inj h; exact low18
  · obtain rfl := Option.some.inj h; exact low19
  · obtain rfl := Option.some.inj h; exact low20
  · obtain rfl := Option.some.inj h; exact low21
  · obtain rfl := Option.some.inj h; exact low22
  · obtain rfl := Option.some.inj h; exact low23
  · obtain rfl := Option.some.inj h; exact low24
  · obtain rfl := Option.some.inj h; exact low25
  · obtain rfl := Option.some.inj h; exact low26
  · obtain rfl := Option.some.inj h; exact low27
  · obtain rfl := Option.some.inj h; exact low28
  · obtain rfl := Option.some.inj h; exact low29
  · obtain rfl := Option.some.inj h; exact low30
  · obtain rfl := Option.some.inj h; exact low31
  · obtain rfl := Option.some.inj h; exact low32
  · obtain rfl := Option.some.inj h; exact low33
  · obtain rfl := Option.some.inj h; exact low34
  · obtain rfl := Option.some.inj h; exact low35
  · obtain rfl := Option.some.inj h; exact low36
  · obtain rfl := Option.some.inj h; exact low37
  · obtain rfl := Option.some.inj h; exact low38
  · obtain rfl := Option.some.inj h; exact low39
  · obtain rfl := Option.some.inj h; exact low40
  · obtain rfl := Option.some.inj h; exact low41
  · obtain rfl := Option.some.inj h; exact low42
  · obtain rfl := Option.some.inj h; exact low43
  · obtain rfl := Option.some.inj h; exact low44
  · obtain rfl := Option.some.inj h; exact low45
  · obtain rfl := Option.some.inj h; exact low46
  · obtain rfl := Option.some.inj h; exact low47
  · obtain rfl := Option.some.inj h; exact low48
  · obtain rfl := Option.some.inj h; exact low49
  · obtain rfl := Option.some.inj h; exact low50
  · obtain rfl := Option.some.inj h; exact low51
  · obtain rfl := Option.some.inj h; exact low53
  · obtain rfl := Option.some.inj h; exact low54
  · obtain rfl := Option.some.inj h; exact low55
  · obtain rfl := Option.some.inj h; exact low56
  · obtain rfl := Option.some.inj h; exact low57
  · obtain rfl := Option.some.inj h; exact low58
  · obtain rfl := Option.some.inj h; exact low59
  · obtain rfl := Option.some.inj h; exact low60
  · obtain rfl := Option.some.inj h; exact low61
  · obtain rfl := Option.some.inj h; exact low62
  · obtain rfl := Option.some.inj h; exact low64
  · obtain rfl := Option.some.inj h; exact low65
  · obtain rfl := Option.some.inj h; exact low66
  · obtain rfl := Option.some.inj h; exact low67
  · obtain rfl := Option.some.inj h; exact low68
  · obtain rfl := Option.some.inj h; exact low69
  · obtain rfl := Option.some.inj h; exact low70
  · obtain rfl := Option.some.inj h; exact low71
  · obtain rfl := Option.some.inj h; exact low72
  · obtain rfl := Option.some.inj h; exact low73
  · obtain rfl := Option.some.inj h; exact low74
  · obtain rfl := Option.some.inj h; exact low75
  · obtain rfl := Option.some.inj h; exact low76
  · obtain rfl := Option.some.inj h; exact low77
  · cases h
theorem orc : OrcOK Try.prog Ω0 := by
  refine ⟨fun f g n h => ?_, fun f y h _ => ?_, fun f ys x h hy hp => ?_, fun f ys t h hy => ?_, fun f t h => ?_, fun f c es ns h hn => ?_⟩
  · simp only [Ω0] at h
    split at h
    · exact (noV_itO h).elim
    · exact (noV_cloneO h).elim
    · exact (noV_repO h).elim
    · exact (noV_badO h).elim
    · exact (noV_growO h).elim
    · cases h
  · simp only [Ω0] at h
    split at h
    · exact (itO_u h).elim
    · exact (cloneO_u h).elim
    · exact (repO_u h).elim
    · exact (badO_u h).elim
    · exact (growO_u h).elim
    · cases h
  · simp only [Ω0] at h
    split at h
    · exact (itO_no h hy).elim
    · exact cloneOK h
    · exact repOK h
    · exact badOK h
    · exact (growO_no h hp).elim
    · cases h
  · simp only [Ω0] at h
    split at h
    · exact (itO_row h).elim
    · exact (cloneO_no h).elim
    · exact (repO_no h).elim
    · exact (badO_no h).elim
    · exact grow63 h
    · cases h
  · simp only [Ω0] at h
    split at h
    · exact (noS_itO h).elim
    · exact (noS_cloneO h).elim
    · exact (noS_repO h).elim
    · exact (noS_badO h).elim
    · exact (noS_growO h).elim
    · cases h
  · simp only [Ω0] at h
    split at h
    · exact itOK h hn
    · exact (noI_cloneO h).elim
    · exact (noI_repO h).elim
    · exact (noI_badO h).elim
    · exact (noI_growO h).elim
    · cases h
/-- what the abstract run of a function says, a call of it does. -/
theorem sound : RecOK Try.prog (call G Ω0) := call_ok tab fun B => @orc B
end Go.Proofs.Ytmfihcbafljcbaa.A
