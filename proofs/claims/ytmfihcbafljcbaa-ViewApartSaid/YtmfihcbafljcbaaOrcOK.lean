/- The library's contracts, as calls that change nothing. -/
import Derived.Test.YtmfihcbafljcbaaAbsG
import Derived.Test.YtmfihcbafljcbaaAbsO
import Derived.Below
import Derived.Lib.AtoiErrMem
import Derived.Lib.AppendIntMem
import Derived.Lib.LaidTab
set_option linter.unusedSectionVars false
set_option linter.unusedVariables false
set_option linter.unusedSimpArgs false
set_option linter.constructorNameAsVariable false
namespace Go.Proofs.Ytmfihcbafljcbaa.A
open Go Go.RowKit
variable [Base]
theorem array_two {α : Type} {a : Array α} (h : a.size = 2) (d : α) : a = #[a.getD 0 d, a.getD 1 d] := by
  apply Array.ext (by simpa using h)
  intro i h1 h2
  have : i = 0 ∨ i = 1 := by omega
  rcases this with rfl | rfl <;> simp [Array.getD, h1]
theorem joinOK {P : Program} {f : FuncId} (hb : bodied P f)
    (hnone : ∀ (a : Option Addr) (c : Nat) (sep : ByteArray) (w : World), Calls P f #[.slice a 0 c, .string sep] w fun e w' => e = .returned (.string ⟨#[]⟩) ∧ w' = w)
    (hjoin : ∀ (bk o c : Nat) (xs : List ByteArray) (sep : ByteArray) (w : World), (∀ (j : Nat) x, xs[j]? = some x → w.cell? ⟨bk, o + j, none⟩ = some (.string x)) → bk < w.heap.size → xs.length ≤ 140737488355328 → xs.length ≤ c →
      (Lib.join (xs.map (·.data.toList)) sep.data.toList).length ≤ 140737488355328 →
      Calls P f #[.slice (some ⟨bk, o, none⟩) xs.length c, .string sep] w fun e w' => e = .returned (.string ⟨(Lib.join (xs.map (·.data.toList)) sep.data.toList).toArray⟩) ∧ Below w.heap.size w w')
    {ys : List AV} {x : AV} (h : joinO ys = some x) : CallOK P f ys x := by
  unfold joinO at h
  split at h
  · rename_i t es sep
    obtain ⟨ss, h1, h2⟩ := Option.bind_eq_some_iff.1 h
    obtain ⟨r, h3, rfl⟩ := Option.map_eq_some_iff.1 h2
    obtain rfl := strsOf_get h1
    unfold joinS at h3
    split at h3
    · rename_i hlen
      obtain rfl := Option.some.inj h3
      refine ⟨hb, fun w I κ cargs hn hI hs ha => ?_⟩
      have h0 := ha 0 _ rfl
      have h1 := ha 1 _ rfl
      have hc := array_two hs undef
      generalize cargs.getD 0 undef = v0 at *
      generalize cargs.getD 1 undef = v1 at *
      subst hc
      cases h1
      have hsep : (⟨sep.toArray⟩ : ByteArray).data.toList = sep := rfl
      generalize hes : ss.map AV.s = es at h0
      cases h0 with
      | lnil _ A cap =>
        obtain rfl : ss = [] := by simpa using hes
        refine (hnone A cap _ w).mono ?_
        rintro e w' ⟨rfl, rfl⟩
        exact ⟨_, I, rfl, .s [], Nat.le_refl _, fun _ _ => rfl, fun _ h => h, fun _ h => .inl h, hI, rfl, rfl⟩
      | l t _ g o cap cs T fz sz hIg hh ht hsz hnc hsize hp h1 hcap hmax hcell =>
        subst hes
        have hlen2 : (ss.map AV.s).length = (ss.map fun l : List UInt8 => (⟨l.toArray⟩ : ByteArray)).length := by simp
        rw [hlen2] at hcap ⊢
        by_cases hz : ss = []
        · subst hz
          refine (hnone _ cap _ w).mono ?_
          rintro e w' ⟨rfl, rfl⟩
          exact ⟨_, I, rfl, .s [], Nat.le_refl _, fun _ _ => rfl, fun _ h => h, fun _ h => .inl h, hI, rfl, rfl⟩
        have hmap : (ss.map fun l : List UInt8 => (⟨l.toArray⟩ : ByteArray)).map (·.data.toList) = ss := by
          rw [List.map_map]
          exact (List.map_congr_left (g := id) fun a _ => rfl).trans (List.map_id ss)
        obtain rfl : sz = 1 := by
          cases ss with
          | nil => exact absurd rfl hz
          | cons y ss => exact (hnc (.s y) (by simp)).symm
        have := hjoin g o cap (ss.map fun l : List UInt8 => (⟨l.toArray⟩ : ByteArray)) ⟨sep.toArray⟩ w (fun j y hj => by
          rw [List.getElem?_map] at hj
          obtain ⟨l, hl, rfl⟩ := Option.map_eq_some_iff.1 hj
          have hv := hcell j (.s l) 0 (.s l) (by rw [List.getElem?_map, hl]; rfl) rfl
          have hlt : j < ss.length := (List.getElem?_eq_some_iff.1 hl).1
          have hb2 : o + j < cs.size := by simp at hsize; omega
          rw [Nat.mul_one, Nat.add_zero, Array.getD_eq_getD_getElem?, Array.getElem?_eq_getElem hb2] at hv
          unfold World.cell?
          simp only [hh]
          simp only [Option.isSome_none, Bool.false_eq_true, if_false, Array.getElem?_eq_getElem hb2]
          congr 1
          generalize cs[o + j] = q at hv
          cases hv; rfl) (hI g hIg) (by simpa using hlen.1) hcap (by rw [hmap]; exact hlen.2)
        rw [hmap] at this
        refine this.mono ?_
        rintro e w' ⟨rfl, hbel⟩
        exact ⟨_, I, rfl, .s _, hbel.size, fun b hb => hbel.block b hb, fun _ h => h, fun _ h => .inl h, fun b hb => Nat.lt_of_lt_of_le (hI b hb) hbel.size, hbel.os, hbel.output⟩
    · cases h3
  · cases h
theorem indexByteOK {P : Program} {f : FuncId} (hb : bodied P f)
    (hidx : ∀ (s : ByteArray) (c : Int) (w : World), Calls P f #[.string s, .int .u8 c] w fun e w' => e = .returned (.int .i64 (Lib.indexByte s.data.toList c.toNat.toUInt8)) ∧ w' = w)
    {ys : List AV} {x : AV} (h : indexByteO ys = some x) : CallOK P f ys x := by
  unfold indexByteO at h
  split at h
  · rename_i s c
    obtain rfl := Option.some.inj h
    refine ⟨hb, fun w I κ cargs hn hI hs ha => ?_⟩
    have h0 := ha 0 _ rfl
    have h1 := ha 1 _ rfl
    have hc := array_two hs undef
    generalize cargs.getD 0 undef = v0 at *
    generalize cargs.getD 1 undef = v1 at *
    subst hc
    cases h0
    cases h1
    refine (hidx _ c w).mono ?_
    rintro e w' ⟨rfl, rfl⟩
    exact ⟨_, I, rfl, .i _ _, Nat.le_refl _, fun _ _ => rfl, fun _ h => h, fun _ h => .inl h, hI, rfl, rfl⟩
  · cases h
theorem array_one {α : Type} {a : Array α} (h : a.size = 1) (d : α) : a = #[a.getD 0 d] := by
  apply Array.ext (by simpa using h)
  intro i h1 h2
  obtain rfl : i = 0 := by omega
  simp [Array.getD, h1]
theorem atoiOK {P : Program} {f : FuncId} {t5 : TypeId} (hb : bodied P f)
    (hat : ∀ (s : ByteArray) (n : Int), s.size ≤ 18 → Lib.atoi s.data.toList = some n → ∀ w : World, Calls P f #[.string s] w fun e w' => e = .returned (.tuple #[.int .i64 n, .nilIface]) ∧ ∃ t, w' = Lib.bytesWorld w t5 t)
    {ys : List AV} {x : AV} (h : atoiO ys = some x) : CallOK P f ys x := by
  unfold atoiO at h
  split at h
  · rename_i s
    split at h
    · rename_i hl
      obtain ⟨n, hn, rfl⟩ := Option.map_eq_some_iff.1 h
      refine ⟨hb, fun w I κ cargs hn0 hI hs ha => ?_⟩
      have h0 := ha 0 _ rfl
      have hc := array_one hs undef
      generalize cargs.getD 0 undef = v0 at *
      subst hc
      cases h0
      refine (hat ⟨s.toArray⟩ n (by show s.toArray.size ≤ 18; simpa using hl) hn w).mono ?_
      rintro e w' ⟨rfl, t, rfl⟩
      have hbel := Lib.bytesWorld_below w t5 t
      refine ⟨_, I, rfl, ?_, hbel.size, fun b hb => hbel.block b hb, fun _ h => h, fun _ h => .inl h, fun b hb => Nat.lt_of_lt_of_le (hI b hb) hbel.size, hbel.os, hbel.output⟩
      refine .tp _ _ rfl fun m c hm => ?_
      match m with
      | 0 => obtain rfl := Option.some.inj hm; exact .i _ _
      | 1 => obtain rfl := Option.some.inj hm; exact .ni
      | m + 2 => cases hm
    · cases h
  · cases h
theorem atoiO_no {ys : List AV} {t : TypeId} (h : atoiO ys = some (.o t [])) : False := by
  unfold atoiO at h
  split at h
  · split at h
    · obtain ⟨_, _, h2⟩ := Option.map_eq_some_iff.1 h; cases h2
    · cases h
  · cases h
theorem repeatOK {P : Program} {f : FuncId} (hb : bodied P f)
    (hr : ∀ (s : ByteArray) (c : Nat) (w : World), c ≤ 9223372036854775807 → s.size * c ≤ 140737488355328 → Calls P f #[.string s, .int .i64 c] w fun e w' => e = .returned (.string ⟨(Lib.repeatL s.data.toList c).toArray⟩) ∧ Below w.heap.size w w')
    {ys : List AV} {x : AV} (h : repeatO ys = some x) : CallOK P f ys x := by
  unfold repeatO at h
  split at h
  · rename_i s c
    obtain ⟨r, h3, rfl⟩ := Option.map_eq_some_iff.1 h
    unfold repeatS at h3
    split at h3
    · rename_i hc
      obtain rfl := Option.some.inj h3
      obtain ⟨c1, c2, c3⟩ := hc
      refine ⟨hb, fun w I κ cargs hn hI hs ha => ?_⟩
      have h0 := ha 0 _ rfl
      have h1 := ha 1 _ rfl
      have hcc := array_two hs undef
      generalize cargs.getD 0 undef = v0 at *
      generalize cargs.getD 1 undef = v1 at *
      subst hcc
      cases h0
      cases h1
      have := hr ⟨s.toArray⟩ c.toNat w (by omega) (by show s.toArray.size * _ ≤ _; simpa using c2)
      rw [Int.toNat_of_nonneg c1] at this
      refine this.mono ?_
      rintro e w' ⟨rfl, hbel⟩
      exact ⟨_, I, rfl, .s _, hbel.size, fun b hb => hbel.block b hb, fun _ h => h, fun _ h => .inl h, fun b hb => Nat.lt_of_lt_of_le (hI b hb) hbel.size, hbel.os, hbel.output⟩
    · cases h3
  · cases h
theorem repeatO_no {ys : List AV} {t : TypeId} (h : repeatO ys = some (.o t [])) : False := by
  unfold repeatO at h
  split at h
  · obtain ⟨r, _, h3⟩ := Option.map_eq_some_iff.1 h
    cases h3
  · cases h
theorem itoaOK {P : Program} {f : FuncId} (hb : bodied P f)
    (hr : ∀ (n : Int) (w : World), -9223372036854775808 ≤ n → n ≤ 9223372036854775807 → Lib.TabIs P w "internal/strconv.uint64pow10" .u64 Lib.pow10Tab → Calls P f #[.int .i64 n] w fun e w' => e = .returned (.string ⟨(Lib.itoa n).toArray⟩) ∧ ∃ k os, w' = Go.Sort.grow (w.drewN k) os)
    (ht : ∀ (w : World) (I : Nat → Prop), Lay w I → Lib.TabIs P w "internal/strconv.uint64pow10" .u64 Lib.pow10Tab)
    {ys : List AV} {x : AV} (h : itoaO ys = some x) : CallOK P f ys x := by
  unfold itoaO at h
  split at h
  · rename_i n
    obtain ⟨r, h3, rfl⟩ := Option.map_eq_some_iff.1 h
    unfold itoaS at h3
    split at h3
    · rename_i hc
      obtain rfl := Option.some.inj h3
      refine ⟨hb, fun w I κ cargs hn hI hs ha => ?_⟩
      have h0 := ha 0 _ rfl
      have hcc := array_one hs undef
      generalize cargs.getD 0 undef = v0 at *
      subst hcc
      cases h0
      refine (hr n w hc.1 hc.2 (ht w I hn.2)).mono ?_
      rintro e w' ⟨rfl, k, os, rfl⟩
      have hbel := Lib.below_grow w.heap.size w (Nat.le_refl _) k os
      exact ⟨_, I, rfl, .s _, hbel.size, fun b hb => hbel.block b hb, fun _ h => h, fun _ h => .inl h, fun b hb => Nat.lt_of_lt_of_le (hI b hb) hbel.size, hbel.os, hbel.output⟩
    · cases h3
  · cases h
theorem itoaO_no {ys : List AV} {t : TypeId} (h : itoaO ys = some (.o t [])) : False := by
  unfold itoaO at h
  split at h
  · obtain ⟨r, _, h3⟩ := Option.map_eq_some_iff.1 h
    cases h3
  · cases h
theorem joinO_no {ys : List AV} {t : TypeId} (h : joinO ys = some (.o t [])) : False := by
  unfold joinO at h
  split at h
  · obtain ⟨ss, _, h2⟩ := Option.bind_eq_some_iff.1 h
    obtain ⟨r, _, h3⟩ := Option.map_eq_some_iff.1 h2
    cases h3
  · cases h
theorem indexByteO_no {ys : List AV} {t : TypeId} (h : indexByteO ys = some (.o t [])) : False := by
  unfold indexByteO at h
  split at h
  · obtain ⟨r, _, h3⟩ := Option.map_eq_some_iff.1 h
    cases h3
  · cases h
theorem growO_no {u : TypeId} {ys : List AV} {x : AV} (h : growO u ys = some x) (hp : x.pure = true) : False := by
  unfold growO at h
  split at h
  · split at h
    · obtain rfl := Option.some.inj h
      cases hp
    · cases h
  · cases h
end Go.Proofs.Ytmfihcbafljcbaa.A
