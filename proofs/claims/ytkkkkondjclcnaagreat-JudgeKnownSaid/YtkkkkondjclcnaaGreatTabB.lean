/- What claims begin with is told, too. -/
import Derived.Test.YtkkkkondjclcnaaGreatTab
import Derived.Test.YtkkkkondjclcnaaGreatJBegin
set_option maxRecDepth 100000
set_option linter.unusedSectionVars false
set_option linter.unusedVariables false
set_option linter.unusedSimpArgs false
namespace Go.Proofs.YtkkkkondjclcnaaGreat.A
open Go Go.Proofs
variable [aY]
theorem orc:eX Tryz.prog Ω0:=by
 refine ⟨fun f g n h=>?_,fun f y h _=>?_,fun f ys x h hy hp=>?_,fun f ys t h hy=>?_,fun f t h=>?_,fun f c es ns h hn=>?_⟩
 ·simp only [Ω0] at h
  split at h
  ·exact (JM h).elim
  ·exact (CU h).elim
  ·exact (GP h).elim
  ·exact (GS h).elim
  ·exact (KY h).elim
  ·exact (Fh h).elim
  ·cases h
 ·simp only [Ω0] at h
  split at h
  ·exact (Qi h).elim
  ·exact (GW h).elim
  ·exact (L5 h).elim
  ·exact (L7 h).elim
  ·exact (Oa h).elim
  ·exact (JL h).elim
  ·cases h
 ·simp only [Ω0] at h
  split at h
  ·exact (L6 h hy).elim
  ·exact KP h
  ·exact Q7 h
  ·exact LZ h
  ·exact N5 h
  ·exact (IU h hp).elim
  ·cases h
 ·simp only [Ω0] at h
  split at h
  ·exact (JO h).elim
  ·exact (Fk h).elim
  ·exact (JP h).elim
  ·exact (JQ h).elim
  ·exact (L8 h).elim
  ·exact KQ h
  ·cases h
 ·simp only [Ω0] at h
  split at h
  ·exact (JN h).elim
  ·exact (CV h).elim
  ·exact (GQ h).elim
  ·exact (GU h).elim
  ·exact (KZ h).elim
  ·exact (Fi h).elim
  ·cases h
 ·simp only [Ω0] at h
  split at h
  ·exact Wj h hn
  ·exact (CW h).elim
  ·exact (GR h).elim
  ·exact (GV h).elim
  ·exact (K0 h).elim
  ·exact (Fj h).elim
  ·cases h
theorem sound:gN Tryz.prog (call G Ω0):=KN tab fun B=>@orc B
end Go.Proofs.YtkkkkondjclcnaaGreat.A
