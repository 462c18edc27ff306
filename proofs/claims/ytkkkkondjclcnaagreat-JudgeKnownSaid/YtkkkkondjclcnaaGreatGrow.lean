/- slices.Grow of nothing makes an empty row, by program. -/
import Derived.WalkKit
import Derived.ProofKit
import Derived.Laws.Append
import Derived.Test.YtkkkkondjclcnaaGreatAbsG
import Derived.Test.YtkkkkondjclcnaaGreatAbsO
import Derived.Test.YtkkkkondjclcnaaGreatOrcOK
import Derived.Test.YtkkkkondjclcnaaGreatProg
set_option maxRecDepth 100000
set_option linter.unusedSectionVars false
set_option linter.unusedVariables false
set_option linter.unusedSimpArgs false
namespace Go.Proofs.YtkkkkondjclcnaaGreat.A
open Go Go.Proofs
def Z2(P:Program)(t:TypeId)(w:World)(e:Ending)(w':World):Prop:=
 ∃ v,e= .returned v∧(v= .slice none 0 0∨∃ g cap cs,v= .slice (some ⟨g,0,none⟩) 0 cap∧w.heap.size≤g∧w'.heap[g]? =some (.cells cs t (0,0))∧cap≤maxLen∧cs.size=cap*P.cellsOf t)∧
   w.heap.size≤w'.heap.size∧(∀ b,b<w.heap.size→w'.heap[b]? =w.heap[b]?)∧w'.os=w.os∧w'.output=w.output
theorem JH(n:Int)(h0:0≤n)(h1:n≤1000000)(w:World):Calls Tryz.prog 155 #[.slice none 0 0,.int .i64 n] w (Z2 Tryz.prog 81 w):=by
 go_enter Tryz.func155,Tryz.ntmps155
 go_wp2
 ·exfalso
  have h:281474976710656<n*(Tryz.t81.bytes:Int):=by assumption
  have hb:Tryz.t81.bytes=48:=rfl
  rw [hb] at h;omega
 ·exfalso
  have h:281474976710656<n*(Tryz.t81.bytes:Int):=by assumption
  have hb:Tryz.t81.bytes=48:=rfl
  rw [hb] at h;omega
 ·exfalso
  have h:281474976710656<Builtin.nextslicecap n.toNat 0*Tryz.t81.bytes:=by assumption
  have hb:Tryz.t81.bytes=48:=rfl
  rw [nextslicecap_zero (by omega),hb] at h;omega
 ·go_ret
  have hge:=grownCap_ge w n.toNat 0 81
  have hm:=grownCap_le_maxLen w n.toNat 0 81 (by simp [maxLen];omega)
  unfold grownCap at hge hm
  refine ⟨_,rfl,.inr ⟨w.heap.size,_,_,rfl,Nat.le_refl _,heap_alloc_new w _,hm,?_⟩,?_,?_,rfl,rfl⟩
  ·have hc:Tryz.prog.cellsOf 81=2:=by kernel_rfl
   rw [Array.size_append,size_zeroCells,size_zeroCells,hc,←Nat.add_mul]
   show _*2=_*2
   congr 1
   omega
  ·show _≤(w.alloc _).heap.size
   simp
  ·intro b hb;exact heap_alloc_old w _ hb
 ·go_ret
  exact ⟨_,rfl,.inl rfl,Nat.le_refl _,fun _ _=>rfl,rfl,rfl⟩
theorem KQ[aY]{ys:List AV}{t:TypeId}(h:nJ 81 ys=some (.o t [])):QW Tryz.prog 155 ys t:=by
 unfold nJ at h
 split at h
 ·split at h
  ·rename_i n hn
   obtain rfl:81=t:=by
    have:=Option.some.inj h
    injection this
   refine ⟨⟨_,Tryz.func155,by kernel_rfl,by kernel_rfl⟩,(by have h9:Tryz.prog.cellsOf 81=2:=(by kernel_rfl);omega),fun w I κ cargs _ _ hs ha=>?_⟩
   have h0:=ha 0 _ rfl
   have h1:=ha 1 _ rfl
   have hc:=NZ hs undef
   generalize cargs.getD 0 undef=v0 at *
   generalize cargs.getD 1 undef=v1 at *
   subst hc
   cases h0
   cases h1
   exact (JH n hn.1 hn.2 w).mono fun e w' h=>h
  ·cases h
 ·cases h
end Go.Proofs.YtkkkkondjclcnaaGreat.A
