/- Runs: what is not taken does not matter. -/
import Derived.Test.YtdoiklliklkbgaaRunL
set_option linter.unusedSectionVars false
set_option linter.unusedVariables false
set_option linter.unusedSimpArgs false
set_option linter.constructorNameAsVariable false
namespace Go.Proofs.Ytdoiklliklkbgaa.A
open Go
theorem nth_set (l : List Int) (j k x : Int) : nth (l.set j.toNat x) k = if j.toNat = k.toNat ∧ j.toNat < l.length then x else nth l k := by
  unfold nth
  rw [List.getD_eq_getElem?_getD, List.getD_eq_getElem?_getD, List.getElem?_set]
  by_cases h : j.toNat = k.toNat
  · by_cases h2 : j.toNat < l.length
    · rw [if_pos h, if_pos h2, if_pos ⟨h, h2⟩]; rfl
    · rw [if_pos h, if_neg h2, if_neg (fun hh => h2 hh.2), List.getElem?_eq_none (by omega)]
  · rw [if_neg h, if_neg (fun hh => h hh.1)]
theorem go_taken (X : Ctx) (s : Stmt) (a : Int) (l : List Stmt) (K : List Task) (r : RunT) :
    (goS X s a l K r).2.Taken = if s.Kind = 3 then r.Taken.set s.Other.toNat (nth r.Taken s.Other + 1) else r.Taken := by
  unfold goS
  by_cases k3 : s.Kind = 3
  · rw [if_neg (by omega), if_neg (by omega), if_neg (by omega), if_pos k3]
    unfold doS
    rw [if_pos k3]
  · rw [if_neg k3]
    split
    · rfl
    split
    · rfl
    split
    · split <;> rfl
    · unfold doS
      rw [if_neg k3]
      repeat' split
      all_goals rfl
theorem step_mono (X : Ctx) (c : Cfg) (k : Int) : nth c.2.Taken k ≤ nth (stepS X c).2.Taken k := by
  obtain ⟨ts, r⟩ := c
  match ts with
  | [] => exact Int.le_refl _
  | .leave s :: K => exact Int.le_refl _
  | .run [] _ :: K => exact Int.le_refl _
  | .run (s :: l) a :: K =>
    simp only [stepS]
    split
    · exact Int.le_refl _
    · rw [go_taken]
      split
      · rw [nth_set]
        split
        · rename_i h
          have : nth r.Taken k = nth r.Taken s.Other := by unfold nth; rw [h.1]
          rw [this]
          show nth r.Taken s.Other ≤ nth r.Taken s.Other + 1
          omega
        · exact Int.le_refl _
      · exact Int.le_refl _
theorem iter_mono (X : Ctx) (k : Int) : ∀ (n : Nat) (c : Cfg), nth c.2.Taken k ≤ nth (iter X n c).2.Taken k
  | 0, c => Int.le_refl _
  | n + 1, c => Int.le_trans (step_mono X c k) (iter_mono X k n (stepS X c))
theorem go_same {X Y : Ctx} (hp : X.p = Y.p) (hf : X.first = Y.first) (s : Stmt) (a : Int) (l : List Stmt) (K : List Task) (r : RunT) (hr : s.Kind = 3 → nth (nthL X.ins s.Other) (nth r.Taken s.Other) = nth (nthL Y.ins s.Other) (nth r.Taken s.Other)) :
    goS X s a l K r = goS Y s a l K r := by
  obtain ⟨p, i, f, q⟩ := X
  obtain ⟨p', i', f', q'⟩ := Y
  simp only at hp hf hr
  subst hp hf
  unfold goS
  split
  · rfl
  split
  · rfl
  split
  · rfl
  · unfold doS
    by_cases k3 : s.Kind = 3
    · rw [if_pos k3, if_pos k3]
      simp only
      rw [hr k3]
    · rw [if_neg k3, if_neg k3]
theorem takes {X Y : Ctx} (hp : X.p = Y.p) (hf : X.first = Y.first) (hfu : X.fuel = Y.fuel) {q : RunT} {v t : Nat}
    (agree : ∀ k j : Int, 0 ≤ j → k.toNat < t → j < nth q.Taken k → nth (nthL X.ins k) j = nth (nthL Y.ins k) j) (out : ∀ k : Int, t ≤ k.toNat → nthL X.ins k = nthL Y.ins k) : ∀ (n : Nat) (c : Cfg), Kept v t c.2 → iter X n c = ([], q) → iter Y n c = ([], q)
  | 0, c, hk, h => h
  | n + 1, c, hk, h => by
    have hst : stepS X c = stepS Y c := by
      obtain ⟨ts, r⟩ := c
      match ts, h with
      | [], _ => rfl
      | .leave s :: K, _ =>
        obtain ⟨p, i, f, g⟩ := X
        obtain ⟨p', i', f', g'⟩ := Y
        simp only at hp hf hfu
        subst hp hf hfu
        rfl
      | .run [] _ :: K, _ => rfl
      | .run (s :: l) a :: K, h =>
        simp only [stepS, ← hfu]
        by_cases hg : r.Steps = X.fuel
        · rw [if_pos hg, if_pos hg]
        · rw [if_neg hg, if_neg hg]
          refine go_same hp hf s a l K r.tick fun k3 => ?_
          show nth (nthL X.ins s.Other) (nth r.Taken s.Other) = nth (nthL Y.ins s.Other) (nth r.Taken s.Other)
          by_cases hb : s.Other.toNat < t
          · refine agree _ _ (nth_nn hk.nn _) hb ?_
            have h1 := iter_mono X s.Other n (stepS X (.run (s :: l) a :: K, r))
            rw [show iter X n (stepS X (.run (s :: l) a :: K, r)) = ([], q) from h] at h1
            simp only [stepS, if_neg hg] at h1
            rw [go_taken, if_pos k3, nth_set, if_pos ⟨rfl, by show _ < r.Taken.length; rw [hk.taken]; exact hb⟩] at h1
            have h2 : nth r.Taken s.Other + 1 ≤ nth q.Taken s.Other := h1
            omega
          · rw [out _ (by omega)]
    rw [iter, ← hst]
    exact takes hp hf hfu agree out n (stepS X c) hk.step h
theorem comes_takes {X Y : Ctx} (hp : X.p = Y.p) (hf : X.first = Y.first) (hfu : X.fuel = Y.fuel) {c : Cfg} {r : RunT} {v t : Nat} (hk : Kept v t c.2)
    (agree : ∀ k j : Int, 0 ≤ j → k.toNat < t → j < nth r.Taken k → nth (nthL X.ins k) j = nth (nthL Y.ins k) j) (out : ∀ k : Int, t ≤ k.toNat → nthL X.ins k = nthL Y.ins k) (h : Comes X c r) : Comes Y c r := by
  rcases h with ⟨q, ⟨n, g1⟩, g2, rfl⟩ | ⟨⟨n, g1⟩, g2⟩
  · exact .inl ⟨q, ⟨n, takes (q := q) hp hf hfu agree out n c hk g1⟩, g2, rfl⟩
  · exact .inr ⟨⟨n, takes hp hf hfu agree out n c hk g1⟩, g2⟩
/-- other numbers behind what was taken. -/
def mixAt (tk : List Int) (ins others : List (List Int)) (i : Nat) : List Int :=
  if nth tk i ≤ ((nthL ins i).length : Int) ∧ i < others.length then (nthL ins i).take (nth tk i).toNat ++ nthL others i else nthL ins i
def mixOf (tk : List Int) (ins others : List (List Int)) : List (List Int) := (List.range ins.length).map (mixAt tk ins others)
theorem nthL_mix {tk : List Int} {ins others : List (List Int)} {k : Int} (h : k.toNat < ins.length) : nthL (mixOf tk ins others) k = mixAt tk ins others k.toNat := by
  unfold nthL mixOf
  rw [List.getD_eq_getElem?_getD, List.getElem?_map, List.getElem?_range h]; rfl
theorem nth_toNat (l : List Int) (k : Int) : nth l (k.toNat : Int) = nth l k := by unfold nth; rw [Int.toNat_natCast]
theorem nthL_toNat (l : List (List Int)) (k : Int) : nthL l (k.toNat : Int) = nthL l k := by unfold nthL; rw [Int.toNat_natCast]
theorem mix_agree {tk : List Int} {ins others : List (List Int)} {k j : Int} (h : k.toNat < ins.length) (h0 : 0 ≤ j) (hj : j < nth tk k) : nth (nthL ins k) j = nth (nthL (mixOf tk ins others) k) j := by
  rw [nthL_mix h]
  unfold mixAt
  rw [nth_toNat, nthL_toNat]
  split
  · rename_i hc
    unfold nth at hj hc ⊢
    rw [List.getD_eq_getElem?_getD, List.getD_eq_getElem?_getD, List.getElem?_append_left (by rw [List.length_take]; omega), List.getElem?_take_of_lt (by omega)]
  · rfl
variable [Lp]
theorem mix_is {p : Program} {ins others : List (List Int)} {fuel : Int} {r : RunT} {e : Int} (hi : ins.length ≤ 5) (ht : r.Taken.length = ins.length) (hn : ∀ x ∈ r.Taken, 0 ≤ x) (hl : ∀ l ∈ ins, l.length ≤ 100) (ho : ∀ l ∈ others, l.length ≤ 1048576) :
    ∃ z, lp (fun v => B_L_RunTakes_0 p ins others fuel (r, e) v.1 v.2) ([], 0) = some (mixOf r.Taken ins others, z) := by
  obtain ⟨x, hx, hQ⟩ := lp_wf (B := fun v => B_L_RunTakes_0 p ins others fuel (r, e) v.1 v.2) (fun v => ins.length - v.2)
    (fun v => v.2 ≤ ins.length ∧ v.1 = (List.range v.2).map (mixAt r.Taken ins others)) (fun x => x.1 = mixOf r.Taken ins others) (by
      rintro ⟨l, k⟩ ⟨hk, he⟩
      simp only at hk he ⊢
      unfold B_L_RunTakes_0
      by_cases hlt : k < ins.length
      · have e1 : r.Taken[k]? = some (nth r.Taken (k : Int)) := by
          have := getD_some (l := r.Taken) (k := (k : Int)) (by omega) (by omega)
          rwa [Int.toNat_natCast] at this
        have e2 : ins[k]? = some (nthL ins (k : Int)) := by
          have := getL_some (l := ins) (k := (k : Int)) (by omega) (by omega)
          rwa [Int.toNat_natCast] at this
        have h0 := hn _ (List.mem_of_getElem? e1)
        have h1 := hl _ (List.mem_of_getElem? e2)
        have hll : l.length = k := by rw [he]; simp
        have fin : l ++ [mixAt r.Taken ins others k] = (List.range (k + 1)).map (mixAt r.Taken ins others) := by rw [List.range_succ, List.map_append, he]; rfl
        have d3 : ∀ w, D_L_RunTakes_d3 p ins others fuel (r, e) l k w = some (l ++ [w]) := fun w => by
          unfold D_L_RunTakes_d3
          rw [if_pos (by rw [hll]; simp only [List.length_singleton]; omega)]
        rw [if_pos (by omega)]
        simp only
        rw [e1, Option.bind_some, e2, Option.bind_some]
        by_cases g1 : nth r.Taken (k : Int) ≤ ((nthL ins (k : Int)).length : Int)
        · rw [if_pos g1]
          by_cases g2 : k < others.length
          · have e3 : others[k]? = some (nthL others (k : Int)) := by
              have := getL_some (l := others) (k := (k : Int)) (by omega) (by omega)
              rwa [Int.toNat_natCast] at this
            have h2 := ho _ (List.mem_of_getElem? e3)
            rw [if_pos (by omega), natI_nn h0, Option.bind_some, if_pos (by omega), if_pos (by simp only [List.length_nil, List.length_drop, List.length_take]; omega), e3, Option.bind_some, if_pos (by simp only [List.nil_append, List.length_drop, List.length_take]; omega), d3, Option.bind_some, if_pos (w64s (by omega))]
            refine .inr ⟨_, rfl, ⟨by simp only; omega, ?_⟩, by simp only; omega⟩
            simp only
            rw [← fin, mixAt, if_pos ⟨g1, g2⟩, List.drop_zero, List.nil_append]
          · rw [if_neg (by omega), d3, Option.bind_some, if_pos (w64s (by omega))]
            refine .inr ⟨_, rfl, ⟨by simp only; omega, ?_⟩, by simp only; omega⟩
            simp only
            rw [← fin, mixAt, if_neg (fun h => g2 h.2)]
        · rw [if_neg g1, d3, Option.bind_some, if_pos (w64s (by omega))]
          refine .inr ⟨_, rfl, ⟨by simp only; omega, ?_⟩, by simp only; omega⟩
          simp only
          rw [← fin, mixAt, if_neg (fun h => g1 h.1)]
      · rw [if_neg (by omega)]
        obtain rfl : k = ins.length := by omega
        exact .inl ⟨_, rfl, he⟩) ([], 0) ⟨Nat.zero_le _, rfl⟩
  exact ⟨x.2, by rw [hx, ← hQ]⟩
theorem law_RunTakes (p : Program) (ins others : List (List Int)) (fuel : Int) (hp : ∀ f ∈ p.Funcs, f.Params.length ≤ 9223372036854775807) (ho : ∀ l ∈ others, l.length ≤ 1048576) : F_L_RunTakes p ins others fuel = some true := by
  unfold F_L_RunTakes
  have hb : F_L_runBegun = some true := rfl
  obtain ⟨a1, a2⟩ := run_is (ins := ins) (fuel := fuel) hp
  by_cases hx : readyS p ins fuel = 0
  rotate_left
  · rw [a1 hx, hb]
    simp [hx]
  obtain ⟨r, hr, hr2⟩ := a2 hx
  obtain ⟨c1, c2, c3, c4, c5⟩ := comes_small hx hr2
  have hX := okX_of hx
  have hi : ins.length = p.Ins.length := hX.ins
  obtain ⟨z, hz⟩ := mix_is (p := p) (ins := ins) (others := others) (fuel := fuel) (r := r) (e := 0) (by omega) (by rw [c1.taken, hi]) c1.nn (fun l hl => (hX.nums l hl).1) ho
  rw [hr, hb]
  simp only [Option.bind_some, if_true, bne_self_eq_false, Bool.false_eq_true, if_false]
  rw [hz, Option.bind_some]
  simp only
  obtain ⟨b1, b2⟩ := run_is (ins := mixOf r.Taken ins others) (fuel := fuel) hp
  by_cases hy : readyS p (mixOf r.Taken ins others) fuel = 0
  rotate_left
  · rw [b1 hy]
    simp [hy]
  obtain ⟨s, hs, hs2⟩ := b2 hy
  rw [hs]
  simp only [Option.bind_some, bne_self_eq_false, Bool.false_eq_true, if_false]
  have hk := init_kept p
  have h := comes_takes (X := ctxOf p ins fuel) (Y := ctxOf p (mixOf r.Taken ins others) fuel) (c := begin_ p) rfl rfl rfl hk (fun k j h0 hkt hj => mix_agree (ins := ins) (by omega) h0 hj) (fun k hkt => by
    have e : ∀ l : List (List Int), l.length = p.Ins.length → nthL l k = [] := fun l hl => by
      unfold nthL
      rw [List.getD_eq_getElem?_getD, List.getElem?_eq_none (by omega)]; rfl
    show nthL ins k = nthL (mixOf r.Taken ins others) k
    rw [e ins hi, e (mixOf r.Taken ins others) (by simp [mixOf, hi])]) hr2
  obtain rfl := h.eq hs2
  rw [sameRun_self (by omega) (by rw [c1.vars]; omega) (by rw [c1.taken]; omega)]; rfl
end Go.Proofs.Ytdoiklliklkbgaa.A
