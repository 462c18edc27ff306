/- Each function and its abstract code, made by program. -/
import Derived.Test.YtkkkkondjclcnaaGreatAbsJ
import Derived.Test.YtkkkkondjclcnaaGreatCode
import Derived.Test.YtkkkkondjclcnaaGreatProg
import Derived.Test.YtkkkkondjclcnaaGreatShelf
set_option linter.all false
set_option maxRecDepth 100000
namespace Go.Proofs.YtkkkkondjclcnaaGreat.A
open Go Go.Proofs
variable [bM]
theorem tab:Al Tryz.prog G:=by
 intro f fn h
 unfold G at h
 split at h<;>first | (obtain rfl:=af h;as_aux_lemma=>kernel_rfl) | cases h
theorem amR:je Tryz.prog Ω1:=by
 refine ⟨fun f g n h=>?_,fun f y h _=>?_,fun f ys x h hy hp=>?_,fun f ys t h hy=>?_,fun f t h=>?_,fun f c es ns h hn=>?_⟩
 ·simp only [Ω1] at h
  split at h
  ·exact (Re h).elim
  ·exact (Ob h).elim
  ·exact (Mo h).elim
  ·cases h
 ·simp only [Ω1] at h
  split at h
  ·exact (Xr h).elim
  ·exact (TL h).elim
  ·exact (Rd h).elim
  ·cases h
 ·simp only [Ω1] at h
  split at h
  ·exact (TM h hy).elim
  ·exact Y4 h
  ·exact (Ql h hp).elim
  ·cases h
 ·simp only [Ω1] at h
  split at h
  ·exact (Rg h).elim
  ·exact (Rh h).elim
  ·exact Sv h
  ·cases h
 ·simp only [Ω1] at h
  split at h
  ·exact (Rf h).elim
  ·exact (Oc h).elim
  ·exact (Mp h).elim
  ·cases h
 ·simp only [Ω1] at h
  split at h
  ·exact agB h hn
  ·exact (Od h).elim
  ·exact (Mq h).elim
  ·cases h
theorem KT:kC Tryz.prog (call G Ω1):=Ss tab fun B=>@amR B
end Go.Proofs.YtkkkkondjclcnaaGreat.A
