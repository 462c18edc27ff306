/- slices.Grow of nothing makes an empty row, by program. -/
import Derived.WalkKit
import Derived.ProofKit
import Derived.Laws.Append
import Derived.Test.YtkkkkondjclcnaaAbsG
import Derived.Test.YtkkkkondjclcnaaAbsO
import Derived.Test.YtkkkkondjclcnaaOrcOK
import Derived.Test.YtkkkkondjclcnaaProg
set_option maxRecDepth 100000
set_option linter.unusedSectionVars false
set_option linter.unusedVariables false
set_option linter.unusedSimpArgs false
namespace Go.Proofs.Ytkkkkondjclcnaa.A
open Go Go.Proofs
def QZ(P:Program)(t:TypeId)(w:World)(e:Ending)(w':World):Prop:=
 ∃ v,e= .returned v∧(v= .slice none 0 0∨∃ g cap cs,v= .slice (some ⟨g,0,none⟩) 0 cap∧w.heap.size≤g∧w'.heap[g]? =some (.cells cs t (0,0))∧cap≤maxLen∧cs.size=cap*P.cellsOf t)∧
   w.heap.size≤w'.heap.size∧(∀ b,b<w.heap.size→w'.heap[b]? =w.heap[b]?)∧w'.os=w.os∧w'.output=w.output
theorem F6(n:Int)(h0:0≤n)(h1:n≤1000000)(w:World):Calls Try.prog 76 #[.slice none 0 0,.int .i64 n] w (QZ Try.prog 60 w):=by
 go_enter Try.func76,Try.ntmps76
 go_wp2
 ·exfalso
  have h:281474976710656<n*(Try.t60.bytes:Int):=by assumption
  have hb:Try.t60.bytes=48:=rfl
  rw [hb] at h;omega
 ·exfalso
  have h:281474976710656<n*(Try.t60.bytes:Int):=by assumption
  have hb:Try.t60.bytes=48:=rfl
  rw [hb] at h;omega
 ·exfalso
  have h:281474976710656<Builtin.nextslicecap n.toNat 0*Try.t60.bytes:=by assumption
  have hb:Try.t60.bytes=48:=rfl
  rw [nextslicecap_zero (by omega),hb] at h;omega
 ·go_ret
  have hge:=grownCap_ge w n.toNat 0 60
  have hm:=grownCap_le_maxLen w n.toNat 0 60 (by simp [maxLen];omega)
  unfold grownCap at hge hm
  refine ⟨_,rfl,.inr ⟨w.heap.size,_,_,rfl,Nat.le_refl _,heap_alloc_new w _,hm,?_⟩,?_,?_,rfl,rfl⟩
  ·have hc:Try.prog.cellsOf 60=2:=by kernel_rfl
   rw [Array.size_append,size_zeroCells,size_zeroCells,hc,←Nat.add_mul]
   show _*2=_*2
   congr 1
   omega
  ·show _≤(w.alloc _).heap.size
   simp
  ·intro b hb;exact heap_alloc_old w _ hb
 ·go_ret
  exact ⟨_,rfl,.inl rfl,Nat.le_refl _,fun _ _=>rfl,rfl,rfl⟩
theorem Nr[aP]{ys:List AV}{t:TypeId}(h:lR 60 ys=some (.o t [])):JG Try.prog 76 ys t:=by
 unfold lR at h
 split at h
 ·split at h
  ·rename_i n hn
   obtain rfl:60=t:=by
    have:=Option.some.inj h
    injection this
   refine ⟨⟨_,Try.func76,by kernel_rfl,by kernel_rfl⟩,(by have h9:Try.prog.cellsOf 60=2:=(by kernel_rfl);omega),fun w I κ cargs _ _ hs ha=>?_⟩
   have h0:=ha 0 _ rfl
   have h1:=ha 1 _ rfl
   have hc:=Hk hs undef
   generalize cargs.getD 0 undef=v0 at *
   generalize cargs.getD 1 undef=v1 at *
   subst hc
   cases h0
   cases h1
   exact (F6 n hn.1 hn.2 w).mono fun e w' h=>h
  ·cases h
 ·cases h
end Go.Proofs.Ytkkkkondjclcnaa.A
