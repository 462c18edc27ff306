/- Each function and its abstract code, made by program. -/
import Derived.Test.YtlmphbbhaeampaaGreatAbsJ
import Derived.Test.YtlmphbbhaeampaaGreatCode
import Derived.Test.YtlmphbbhaeampaaGreatProg
import Derived.Test.YtlmphbbhaeampaaGreatShelf
import Derived.Test.YtlmphbbhaeampaaGreatBad
set_option linter.all false
set_option maxRecDepth 100000
namespace Go.Proofs.YtlmphbbhaeampaaGreat.A
open Go Go.Proofs
variable [cj]
set_option maxHeartbeats 16000000 in
theorem tab:zY Tryz.prog G:=by
 intro f fn h
 unfold G at h
 split at h<;>first | (obtain rfl:=ah h;as_aux_lemma=>kernel_rfl) | cases h
theorem orc:iT Tryz.prog Ω0:=by
 refine ⟨fun f g n h=>?_,fun f y h _=>?_,fun f ys x h hy hp=>?_,fun f ys t h hy=>?_,fun f t h=>?_,fun f c es ns h hn=>?_⟩
 ·simp only [Ω0] at h
  split at h
  ·exact (VF h).elim
  ·exact (PG h).elim
  ·exact (Tc h).elim
  ·exact (Tf h).elim
  ·exact (QE h).elim
  ·cases h
 ·simp only [Ω0] at h
  split at h
  ·exact (adV h).elim
  ·exact (Ti h).elim
  ·exact (WU h).elim
  ·exact (WX h).elim
  ·exact (VE h).elim
  ·cases h
 ·simp only [Ω0] at h
  split at h
  ·exact (WV h hy).elim
  ·exact WC h
  ·exact afV h
  ·exact afW h
  ·exact (UM h hp).elim
  ·cases h
 ·simp only [Ω0] at h
  split at h
  ·exact (VH h).elim
  ·exact (QH h).elim
  ·exact (VI h).elim
  ·exact (VJ h).elim
  ·exact WD h
  ·cases h
 ·simp only [Ω0] at h
  split at h
  ·exact (VG h).elim
  ·exact (PH h).elim
  ·exact (Td h).elim
  ·exact (Tg h).elim
  ·exact (QF h).elim
  ·cases h
 ·simp only [Ω0] at h
  split at h
  ·exact ah9 h hn
  ·exact (PI h).elim
  ·exact (Te h).elim
  ·exact (Th h).elim
  ·exact (QG h).elim
  ·cases h
theorem sound:kS Tryz.prog (call G Ω0):=Wz tab fun B=>@orc B
end Go.Proofs.YtlmphbbhaeampaaGreat.A
