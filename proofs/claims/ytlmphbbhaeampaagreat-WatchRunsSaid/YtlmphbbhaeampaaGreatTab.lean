/- Each function and its abstract code, made by program. -/
import Derived.Test.YtlmphbbhaeampaaGreatAbsJ
import Derived.Test.YtlmphbbhaeampaaGreatCode
import Derived.Test.YtlmphbbhaeampaaGreatProg
import Derived.Test.YtlmphbbhaeampaaGreatShelf
import Derived.Test.YtlmphbbhaeampaaGreatBad
set_option linter.all false
set_option maxRecDepth 100000
namespace Go.Proofs.YtlmphbbhaeampaaGreat.A
open Go Go.Proofs
variable [cN]
set_option maxHeartbeats 16000000 in
theorem tab:Cq Tryz.prog G:=by
 intro f fn h
 unfold G at h
 split at h<;>first | (obtain rfl:=aq h;as_aux_lemma=>kernel_rfl) | cases h
theorem orc:jw Tryz.prog Ω0:=by
 refine ⟨fun f g n h=>?_,fun f y h _=>?_,fun f ys x h hy hp=>?_,fun f ys t h hy=>?_,fun f t h=>?_,fun f c es ns h hn=>?_⟩
 ·simp only [Ω0] at h
  split at h
  ·exact (ZB h).elim
  ·exact (WH h).elim
  ·exact (WK h).elim
  ·exact (Ut h).elim
  ·cases h
 ·simp only [Ω0] at h
  split at h
  ·exact (aiN h).elim
  ·exact (aaL h).elim
  ·exact (aaN h).elim
  ·exact (ZA h).elim
  ·cases h
 ·simp only [Ω0] at h
  split at h
  ·exact (aaM h hy).elim
  ·exact amK h
  ·exact amL h
  ·exact (XU h hp).elim
  ·cases h
 ·simp only [Ω0] at h
  split at h
  ·exact (ZD h).elim
  ·exact (ZE h).elim
  ·exact (ZF h).elim
  ·exact aaw h
  ·cases h
 ·simp only [Ω0] at h
  split at h
  ·exact (ZC h).elim
  ·exact (WI h).elim
  ·exact (WL h).elim
  ·exact (Uu h).elim
  ·cases h
 ·simp only [Ω0] at h
  split at h
  ·exact apq h hn
  ·exact (WJ h).elim
  ·exact (WM h).elim
  ·exact (Uv h).elim
  ·cases h
theorem sound:nJ Tryz.prog (call G Ω0):=aat tab fun B=>@orc B
end Go.Proofs.YtlmphbbhaeampaaGreat.A
