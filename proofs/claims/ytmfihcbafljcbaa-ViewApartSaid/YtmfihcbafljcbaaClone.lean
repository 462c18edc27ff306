/- slices.Clone of ints: what it answers. -/
import Derived.Shelf.Abstract
import Derived.Test.YtmfihcbafljcbaaAbsG
import Derived.Test.YtmfihcbafljcbaaAbsO
import Derived.Test.YtmfihcbafljcbaaProg
import Derived.Test.YtmfihcbafljcbaaShelf
set_option linter.unusedVariables false
set_option linter.unusedSimpArgs false
set_option linter.unusedSectionVars false
set_option linter.constructorNameAsVariable false
namespace Go.Proofs.Ytmfihcbafljcbaa.A
open Go Go.Proofs Go.RowKit Go.Shelf
variable [Base]
theorem cloneOK {ys : List AV} {x : AV} (h : cloneO 3 ys = some x) : CallOK Try.prog 14 ys x := by
  unfold cloneO at h
  split at h
  · rename_i t es
    obtain ⟨ns, hns, h⟩ := Option.bind_eq_some_iff.1 h
    split at h
    · rename_i hlen
      obtain rfl := Option.some.inj h
      obtain rfl := intsOf_get hns
      refine ⟨⟨Try.f14, Try.func14, rfl, by decide⟩, fun w I κ cargs hn0 hI hs ha => ?_⟩
      have h0 := ha 0 _ rfl
      obtain ⟨v0, rfl⟩ : ∃ v0, cargs = #[v0] := by
        have hs2 : cargs.size = 1 := hs
        exact ⟨cargs.getD 0 undef, by
          apply Array.ext (by simpa using hs2)
          intro i h1 h2
          obtain rfl : i = 0 := by omega
          simp [Array.getD, h1]⟩
      have h0 : VR w I κ (.l t (ns.map (AV.i .i64))) v0 := h0
      have hin : ∀ (v' : Value) (w' : World), w'.ownsRow w.heap.size 3 1 v' ns.length (ns.map (Value.int .i64)) → Below w.heap.size w w' →
          ∃ v I', Ending.returned v' = .returned v ∧ VR w' I' κ (.l 3 (ns.map (AV.i .i64))) v ∧ w.heap.size ≤ w'.heap.size ∧ (∀ b, b < w.heap.size → w'.heap[b]? = w.heap[b]?) ∧ (∀ b, I b → I' b) ∧ (∀ b, I' b → I b ∨ w.heap.size ≤ b) ∧ (∀ b, I' b → b < w'.heap.size) ∧ w'.os = w.os ∧ w'.output = w.output := fun v' w' ho hB => by
        refine ⟨v', fun b => I b ∨ (w.heap.size ≤ b ∧ b < w'.heap.size), rfl, ?_, hB.size, fun b hb => hB.block b hb, fun b hb => .inl hb, fun b hb => hb.imp id fun e => e.1, fun b hb => by rcases hb with hb | hb; exact Nat.lt_of_lt_of_le (hI b hb) hB.size; exact hb.2, hB.os, hB.output⟩
        obtain ⟨_, ⟨rfl, h0⟩ | ⟨g, cap, cur, rfl, hg, hh, hc1, hc2, hsz, htk⟩⟩ := ho
        · rw [List.eq_nil_of_length_eq_zero h0]
          exact .lnil _ _ _
        · have hgl : g < w'.heap.size := (Array.getElem?_eq_some_iff.1 hh).1
          have := VR.l (w := w') (κ := κ) (I := fun b => I b ∨ (w.heap.size ≤ b ∧ b < w'.heap.size)) 3 (ns.map (AV.i .i64)) g 0 cap cur 3 (0, 0) 1 (.inr ⟨hg, hgl⟩) hh (fun _ => ⟨fun _ => ⟨rfl, rfl⟩, fun h => absurd h (by have := hn0.1; omega)⟩) (by omega)
            (fun e he => by obtain ⟨n, _, rfl⟩ := List.mem_map.1 he; rfl) (by simp only [List.length_map]; omega) (fun e he => by obtain ⟨n, _, rfl⟩ := List.mem_map.1 he; rfl) (fun e he c hc => by obtain ⟨n, _, rfl⟩ := List.mem_map.1 he; simp only [AV.cl, List.mem_singleton] at hc; subst hc; rfl) (by simpa using hc1) hc2 (fun j e m c he hc => by
              rw [List.getElem?_map] at he
              obtain ⟨n, hn, rfl⟩ := Option.map_eq_some_iff.1 he
              match m, hc with
              | 0, hc =>
                obtain rfl := Option.some.inj hc
                have hj : j < ns.length := (List.getElem?_eq_some_iff.1 hn).1
                have h3 : (cur.toList.take (ns.length * 1))[j]? = some (.int .i64 n) := by rw [htk, List.getElem?_map, hn]; rfl
                rw [List.getElem?_take_of_lt (by omega), Array.getElem?_toList] at h3
                have hr : cur.getD (0 + j * 1 + 0) undef = .int .i64 n := by rw [Array.getD_eq_getD_getElem?, Nat.zero_add, Nat.mul_one, Nat.add_zero, h3]; rfl
                rw [hr]
                exact .i _ _)
          rwa [List.length_map] at this
      generalize hes : ns.map (AV.i .i64) = es at h0
      cases h0 with
      | lnil _ A cap =>
        have hn0' : ns = [] := List.map_eq_nil_iff.1 hes
        subst hn0'
        cases A with
        | none =>
          refine (Try.slices_Clone_int_nil 0 cap w).mono ?_
          rintro e w' ⟨rfl, rfl⟩
          exact hin _ _ ⟨rfl, .inl ⟨rfl, rfl⟩⟩ (Below.refl _ _)
        | some a =>
          refine (Try.slices_Clone_int_zero a cap w).mono ?_
          rintro e w' ⟨v', rfl, ho, _, hB⟩
          exact hin _ _ ho hB
      | l _ _ g o cap cs T fz sz hIg hh ht hsz hnc hsize hp h1 hcap hmax hcell =>
        subst hes
        rw [List.length_map]
        refine (Try.slices_Clone_int g o ns.length cap ns w (Nat.le_refl _) (by omega) (fun j hj => ?_)).mono ?_
        · have he : (ns.map (AV.i .i64))[j]? = some (.i .i64 (ns.getD j 0)) := by rw [List.getElem?_map]; simp [List.getD, List.getElem?_eq_getElem hj]
          obtain rfl : (1 : Nat) = sz := hnc _ (List.mem_of_getElem? he)
          have hb := hcell j _ 0 _ he rfl
          simp only [List.length_map] at hsize
          have hlt : o + j < cs.size := by omega
          rw [Array.getD_eq_getD_getElem?, Nat.mul_one, Nat.add_zero, Array.getElem?_eq_getElem hlt] at hb
          unfold World.cell?
          simp only [hh, Array.getElem?_eq_getElem hlt]
          simp only [Option.getD_some] at hb
          rw [hb.i_inv]
          rfl
        · rintro e w' ⟨v', rfl, ho, _, hB⟩
          rw [List.take_length] at ho
          exact hin _ _ ho hB
    · cases h
  · cases h
end Go.Proofs.Ytmfihcbafljcbaa.A
