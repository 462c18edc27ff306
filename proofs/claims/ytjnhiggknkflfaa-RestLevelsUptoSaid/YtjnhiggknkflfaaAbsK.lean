/- Regions whose order is drawn: whatever the order, what the order of the text gives. -/
import Derived.Test.YtjnhiggknkflfaaAbsI
import Derived.Orders
set_option linter.unusedSectionVars false
set_option linter.unusedVariables false
set_option linter.unusedSimpArgs false
set_option linter.constructorNameAsVariable false
namespace Go.Proofs.Ytjnhiggknkflfaa.A
open Go
variable [Base]

/-- the same to whoever looks. -/
structure Se (s s' : St) : Prop where
  fr : ∀ d, fget s.fr d = fget s'.fr d
  bx : ∀ d, bget s.bx d = bget s'.bx d
  hp : s.hp = s'.hp
theorem Se.refl (s : St) : Se s s := ⟨fun _ => rfl, fun _ => rfl, rfl⟩
theorem Se.symm {s s' : St} (h : Se s s') : Se s' s := ⟨fun d => (h.fr d).symm, fun d => (h.bx d).symm, h.hp.symm⟩
theorem Se.trans {s s' s'' : St} (h : Se s s') (h' : Se s' s'') : Se s s'' := ⟨fun d => (h.fr d).trans (h'.fr d), fun d => (h.bx d).trans (h'.bx d), h.hp.trans h'.hp⟩
theorem Se.box {s s' : St} (h : Se s s') (dp : Nat) (k : Key) : s.box dp k = s'.box dp k := by
  simp only [St.box, h.bx, h.hp]
theorem Conc.se {C : Cx} {s s' : St} {a : Act} {w : World} {σ : Sp} (h : Conc C s a w σ) (hs : Se s s') : Conc C s' a w σ :=
  h.equiv (fun d => .inr (hs.fr d).symm) (fun k cs hk => by rw [hs.box]; exact hk) (fun _ _ _ h => by rw [hs.hp]; exact h)

def lks {α : Type} (l : List (Nat × α)) : List Nat := l.map (·.1)
theorem fget_append (l r : List (Nat × AV)) (d : Nat) : fget (l ++ r) d = if d ∈ lks l then fget l d else fget r d := by
  induction l with
  | nil => simp [lks]
  | cons x l ih =>
    obtain ⟨k, y⟩ := x
    simp only [List.cons_append, fget, lks, List.map_cons, List.mem_cons]
    by_cases h : k = d
    · subst h; simp
    · have h' : ¬ d = k := fun e => h e.symm
      simp only [if_neg h, h', false_or]
      exact ih
theorem bget_append (l r : List (Nat × List AV)) (d : Nat) : bget (l ++ r) d = if d ∈ lks l then bget l d else bget r d := by
  induction l with
  | nil => simp [lks]
  | cons x l ih =>
    obtain ⟨k, y⟩ := x
    simp only [List.cons_append, bget, lks, List.map_cons, List.mem_cons]
    by_cases h : k = d
    · subst h; simp
    · have h' : ¬ d = k := fun e => h e.symm
      simp only [if_neg h, h', false_or]
      exact ih
theorem bget_bsets (bx wb : List (Nat × List AV)) (d : Nat) : bget (bsets bx wb) d = match bget wb d with
    | some cs => (bget bx d).map fun _ => cs
    | none => bget bx d := by
  induction wb with
  | nil => rfl
  | cons x wb ih =>
    obtain ⟨k, y⟩ := x
    simp only [bsets, bget_bset, bget]
    by_cases h : k = d
    · subst h
      simp only [if_true, ih]
      cases bget wb k with
      | none => rfl
      | some cs => cases bget bx k <;> rfl
    · rw [if_neg h, if_neg (fun e => h e.symm), ih]
theorem bget_none {l : List (Nat × List AV)} {d : Nat} (h : d ∉ lks l) : bget l d = none := by
  induction l with
  | nil => rfl
  | cons x l ih =>
    obtain ⟨k, y⟩ := x
    simp only [lks, List.map_cons, List.mem_cons, not_or] at h
    simp only [bget, if_neg (fun e => h.1 (Eq.symm e))]
    exact ih h.2
theorem Se.app {s s' : St} (q : Patch) (h : Se s s') : Se (q.app s) (q.app s') := by
  refine ⟨fun d => ?_, fun d => ?_, ?_⟩
  · simp only [Patch.app, fget_append, h.fr]
  · simp only [Patch.app, bget_append, bget_bsets, h.bx]
  · simp only [Patch.app, h.hp]
/-- what two operations change lies apart. -/
structure Apart (q q' : Patch) : Prop where
  fr : ∀ d, d ∈ lks q.fr → d ∉ lks q'.fr
  nn : ∀ d, d ∈ lks q.nb → d ∉ lks q'.nb
  nw : ∀ d, d ∈ lks q.nb → d ∉ lks q'.wb
  wn : ∀ d, d ∈ lks q.wb → d ∉ lks q'.nb
  ww : ∀ d, d ∈ lks q.wb → d ∉ lks q'.wb
  hp : q.hp = none ∨ q'.hp = none
theorem app_comm {q q' : Patch} (h : Apart q q') (s : St) : Se (q.app (q'.app s)) (q'.app (q.app s)) := by
  refine ⟨fun d => ?_, fun d => ?_, ?_⟩
  · simp only [Patch.app, fget_append]
    by_cases h1 : d ∈ lks q.fr
    · simp [h1, h.fr d h1]
    · simp [h1]
  · simp only [Patch.app, bget_append, bget_bsets]
    by_cases h1 : d ∈ lks q.nb
    · have h2 := bget_none (h.nw d h1)
      simp [h1, h.nn d h1, h2]
    · by_cases h3 : d ∈ lks q'.nb
      · have h4 : bget q.wb d = none := bget_none fun h5 => h.wn d h5 h3
        simp [h1, h3, h4]
      · simp only [if_neg h1, if_neg h3]
        by_cases h5 : d ∈ lks q.wb
        · have := bget_none (h.ww d h5)
          rw [this]
        · rw [bget_none h5]
  · simp only [Patch.app]
    rcases h.hp with e | e <;> rw [e] <;> cases q.hp <;> cases q'.hp <;> first | rfl | cases e

def isSt : AOp → Bool
  | .st _ _ _ => true
  | _ => false
def isAl : AOp → Bool
  | .al _ => true
  | _ => false
def optL (d : Option Nat) : List Nat := match d with
  | some d => [d]
  | none => []
def gsl (p : DOp) : List Nat := match p.p.g with
  | some (j, _) => [j]
  | none => []
def wrS (p : DOp) : List Nat := optL p.p.d ++ p.cs
def rdS (p : DOp) : List Nat := gsl p ++ p.vw
def wrB (p : DOp) : List Nat := (if isAl p.p.o = true then optL p.p.d else []) ++ (if isSt p.p.o = true then p.vb else [])
def disj (l m : List Nat) : Bool := l.all fun x => !m.contains x
def commD (p q : DOp) : Bool := disj (wrS p) (rdS q) && disj (wrS q) (rdS p) && disj (wrS p) (wrS q) && disj (wrB p) q.vb && disj (wrB q) p.vb && disj (wrB p) (wrB q) && !((isSt p.p.o || isSt q.p.o) && p.vh && q.vh)
theorem disj_mem {l m : List Nat} (h : disj l m = true) {x : Nat} (hx : x ∈ l) : x ∉ m := by
  have := List.all_eq_true.1 h x hx
  simpa using this
theorem lks_keepB (bx : List (Nat × List AV)) (ks : List Nat) {d : Nat} (h : d ∈ lks (keepB bx ks)) : d ∈ ks := by
  induction ks with
  | nil => simp [keepB, lks] at h
  | cons k ks ih =>
    simp only [keepB] at h
    split at h
    · simp only [lks, List.map_cons, List.mem_cons] at h
      rcases h with rfl | h
      · simp
      · exact List.mem_cons_of_mem _ (ih h)
    · exact List.mem_cons_of_mem _ (ih h)

section
variable {R : Rec} {Ω : Orc} {E : Env}
structure Small (p : DOp) (q : Patch) : Prop where
  fr : ∀ d, d ∈ lks q.fr → d ∈ wrS p
  nb : ∀ d, d ∈ lks q.nb → isAl p.p.o = true ∧ d ∈ optL p.p.d
  wb : ∀ d, d ∈ lks q.wb → isSt p.p.o = true ∧ d ∈ p.vb
  hp : q.hp ≠ none → isSt p.p.o = true ∧ p.vh = true
theorem small_fr {p : DOp} {fr : List (Nat × AV)} (h : ∀ d, d ∈ lks fr → d ∈ wrS p) : Small p ⟨fr, [], [], none⟩ :=
  ⟨h, fun d hd => by simp [lks] at hd, fun d hd => by simp [lks] at hd, fun h => absurd rfl h⟩
theorem lks_dput (d : Option Nat) (x : AV) : lks (dput d x) = optL d := by cases d <;> rfl
theorem effect_small (p : DOp) (r : AV × St) : Small p (effect p r) := by
  have hgen : Small p ⟨dput p.p.d (frz p.p.fz r.1) ++ p.cs.map (fun m => (m, .u)), [], [], none⟩ := small_fr fun d hd => by
    simp only [lks, List.map_append, List.map_map] at hd
    rcases List.mem_append.1 hd with hd | hd
    · have : d ∈ lks (dput p.p.d (frz p.p.fz r.1)) := hd
      rw [lks_dput] at this
      exact List.mem_append_left _ this
    · obtain ⟨m, hm, rfl⟩ := List.mem_map.1 hd
      exact List.mem_append_right _ hm
  unfold effect
  split
  · rename_i zs ho
    split
    · rename_i dd hd
      refine ⟨fun d h => ?_, fun d h => ⟨by rw [ho]; rfl, ?_⟩, fun d h => by simp [lks] at h, fun h => absurd rfl h⟩
      · simp only [lks, List.map_cons, List.map_nil, List.mem_singleton] at h
        subst h; unfold wrS; rw [hd]; simp [optL]
      · simp only [lks, List.map_cons, List.map_nil, List.mem_singleton] at h
        subst h; rw [hd]; simp [optL]
    · exact small_fr fun d h => by simp [lks] at h
  · rename_i ho
    refine ⟨fun d h => ?_, fun d h => by simp [lks] at h, fun d h => ⟨by rw [ho]; rfl, lks_keepB _ _ h⟩, fun h => ⟨by rw [ho]; rfl, ?_⟩⟩
    · simp only [lks, List.map_map] at h
      obtain ⟨m, hm, rfl⟩ := List.mem_map.1 h
      exact List.mem_append_right _ hm
    by_cases hv : p.vh = true
    · exact hv
    · simp [hv] at h
  · exact hgen
theorem patch_small {p : DOp} {s : St} {q : Patch} (h : patchL R Ω E p s = some q) : Small p q := by
  have hcore : ∀ v q, coreL R Ω E p v = some q → Small p q := by
    intro v q hq
    unfold coreL at hq
    split at hq
    · obtain ⟨r, _, h2⟩ := Option.bind_eq_some_iff.1 hq
      split at h2
      · obtain rfl := Option.some.inj h2
        exact effect_small p r
      · cases h2
    · cases hq
  unfold patchL at h
  split at h
  · exact hcore _ _ h
  · obtain ⟨y, _, h2⟩ := Option.bind_eq_some_iff.1 h
    split at h2
    · exact hcore _ _ h2
    · obtain rfl := Option.some.inj h2
      exact small_fr fun d hd => by rw [lks_dput] at hd; exact List.mem_append_left _ hd
theorem keepF_congr {fr fr' : List (Nat × AV)} {ks : List Nat} (h : ∀ d ∈ ks, fget fr d = fget fr' d) : keepF fr ks = keepF fr' ks :=
  List.map_congr_left fun d hd => by rw [h d hd]
theorem keepB_congr {bx bx' : List (Nat × List AV)} {ks : List Nat} (h : ∀ d ∈ ks, bget bx d = bget bx' d) : keepB bx ks = keepB bx' ks := by
  induction ks with
  | nil => rfl
  | cons k ks ih =>
    simp only [keepB, h k (by simp), ih fun d hd => h d (by simp [hd])]
/-- an operation sees the same in both. -/
structure Sees (p : DOp) (s s' : St) : Prop where
  fr : ∀ d ∈ rdS p, fget s.fr d = fget s'.fr d
  bx : ∀ d ∈ p.vb, bget s.bx d = bget s'.bx d
  hp : p.vh = true → s.hp = s'.hp
theorem Sees.patch {p : DOp} {s s' : St} (h : Sees p s s') : patchL R Ω E p s = patchL R Ω E p s' := by
  have hv : view p s = view p s' := by
    unfold view
    rw [keepF_congr fun d hd => h.fr d (List.mem_append_right _ hd), keepB_congr h.bx]
    by_cases hh : p.vh = true
    · simp only [hh, if_true, h.hp hh]
    · simp only [if_neg hh]
  unfold patchL
  rw [hv]
  split
  · rfl
  · rename_i j want hg
    rw [h.fr j (List.mem_append_left _ (by unfold gsl; rw [hg]; simp))]
theorem Se.sees {p : DOp} {s s' : St} (h : Se s s') : Sees p s s' := ⟨fun d _ => h.fr d, fun d _ => h.bx d, fun _ => h.hp⟩
theorem sees_app {p p' : DOp} {q : Patch} {s : St} (hq : Small p q) (hc : commD p p' = true) : Sees p' (q.app s) s := by
  simp only [commD, Bool.and_eq_true, Bool.not_eq_true'] at hc
  obtain ⟨⟨⟨⟨⟨⟨c1, c2⟩, c3⟩, c4⟩, c5⟩, c6⟩, c7⟩ := hc
  refine ⟨fun d hd => ?_, fun d hd => ?_, fun hh => ?_⟩
  · simp only [Patch.app, fget_append]
    rw [if_neg]
    intro hm
    exact disj_mem c1 (hq.fr d hm) hd
  · simp only [Patch.app, bget_append, bget_bsets]
    have hnb : d ∉ lks q.nb := fun hm => by
      obtain ⟨h1, h2⟩ := hq.nb d hm
      exact disj_mem c4 (List.mem_append_left _ (by rw [if_pos h1]; exact h2)) hd
    have hwb : d ∉ lks q.wb := fun hm => by
      obtain ⟨h1, h2⟩ := hq.wb d hm
      exact disj_mem c4 (List.mem_append_right _ (by rw [if_pos h1]; exact h2)) hd
    rw [if_neg hnb, bget_none hwb]
  · simp only [Patch.app]
    cases hp : q.hp with
    | none => rfl
    | some x =>
      obtain ⟨h1, h2⟩ := hq.hp (by rw [hp]; simp)
      rw [h1, h2, hh] at c7
      simp at c7
theorem apart_of {p p' : DOp} {q q' : Patch} (hq : Small p q) (hq' : Small p' q') (hc : commD p p' = true) : Apart q q' := by
  simp only [commD, Bool.and_eq_true, Bool.not_eq_true'] at hc
  obtain ⟨⟨⟨⟨⟨⟨c1, c2⟩, c3⟩, c4⟩, c5⟩, c6⟩, c7⟩ := hc
  have m1 : ∀ {p : DOp} {q : Patch} {d}, Small p q → d ∈ lks q.nb → d ∈ wrB p := fun hq h => by
    obtain ⟨h1, h2⟩ := hq.nb _ h
    exact List.mem_append_left _ (by rw [if_pos h1]; exact h2)
  have m2 : ∀ {p : DOp} {q : Patch} {d}, Small p q → d ∈ lks q.wb → d ∈ wrB p := fun hq h => by
    obtain ⟨h1, h2⟩ := hq.wb _ h
    exact List.mem_append_right _ (by rw [if_pos h1]; exact h2)
  refine ⟨fun d h h' => disj_mem c3 (hq.fr d h) (hq'.fr d h'), fun d h h' => disj_mem c6 (m1 hq h) (m1 hq' h'), fun d h h' => disj_mem c6 (m1 hq h) (m2 hq' h'), fun d h h' => disj_mem c6 (m2 hq h) (m1 hq' h'), fun d h h' => disj_mem c6 (m2 hq h) (m2 hq' h'), ?_⟩
  cases h1 : q.hp with
  | none => exact .inl rfl
  | some x =>
    cases h2 : q'.hp with
    | none => exact .inr rfl
    | some y =>
      obtain ⟨h3, h4⟩ := hq.hp (by rw [h1]; simp)
      obtain ⟨h5, h6⟩ := hq'.hp (by rw [h2]; simp)
      rw [h3, h4, h6] at c7
      simp at c7

/-- a run through some of the operations, the state being what it is to whoever looks. -/
def Goes (R : Rec) (Ω : Orc) (E : Env) (gs : List DOp) : List Nat → St → St → Prop
  | [], s, t => Se s t
  | i :: π, s, t => ∃ p s1 s2, gs[i]? = some p ∧ Se s s1 ∧ execD1 R Ω E s1 p = some s2 ∧ Goes R Ω E gs π s2 t
variable {gs : List DOp}
theorem Goes.se {π : List Nat} {s s' t : St} (h : Goes R Ω E gs π s' t) (hs : Se s s') : Goes R Ω E gs π s t := by
  cases π with
  | nil => exact Se.trans hs h
  | cons i π =>
    obtain ⟨p, s1, s2, h1, h2, h3, h4⟩ := h
    exact ⟨p, s1, s2, h1, hs.trans h2, h3, h4⟩
theorem Goes.text : ∀ (ps : List DOp) (i : Nat) (s t : St), gs.drop i = ps → execD R Ω E s ps = some t → Goes R Ω E gs (List.range' i ps.length) s t
  | [], i, s, t, _, he => by
    obtain rfl := Option.some.inj he
    exact Se.refl _
  | p :: ps, i, s, t, hi, he => by
    obtain ⟨s2, h1, h2⟩ := Option.bind_eq_some_iff.1 he
    rw [List.length_cons, List.range'_succ]
    refine ⟨p, s, s2, ?_, Se.refl _, h1, Goes.text ps (i + 1) s2 t ?_ h2⟩
    · have : (gs.drop i)[0]? = some p := by rw [hi]; rfl
      simpa using this
    · rw [← List.drop_drop, hi]; rfl
/-- two operations that have nothing to do with each other. -/
def free2 (gs : List DOp) (i j : Nat) : Prop := ∃ p q, gs[i]? = some p ∧ gs[j]? = some q ∧ p.lt = true ∧ q.lt = true ∧ commD p q = true
theorem Goes.swap {i j : Nat} {π : List Nat} {s t : St} (hf : free2 gs i j) (h : Goes R Ω E gs (i :: j :: π) s t) : Goes R Ω E gs (j :: i :: π) s t := by
  obtain ⟨p, q, hp, hq, hpl, hql, hc⟩ := hf
  obtain ⟨p', s1, s2, h1, h2, h3, q', s3, s4, h4, h5, h6, h7⟩ := h
  obtain rfl : p = p' := by rw [hp] at h1; exact Option.some.inj h1
  obtain rfl : q = q' := by rw [hq] at h4; exact Option.some.inj h4
  simp only [execD1, if_pos hpl] at h3
  simp only [execD1, if_pos hql] at h6
  obtain ⟨pp, hpp, he⟩ := Option.bind_eq_some_iff.1 h3
  obtain rfl := Option.some.inj he
  obtain ⟨qq, hqq, he'⟩ := Option.bind_eq_some_iff.1 h6
  obtain rfl := Option.some.inj he'
  have hc' : commD q p = true := by
    simp only [commD, Bool.and_eq_true, Bool.not_eq_true'] at hc ⊢
    obtain ⟨⟨⟨⟨⟨⟨c1, c2⟩, c3⟩, c4⟩, c5⟩, c6⟩, c7⟩ := hc
    have hsym : ∀ l m, disj l m = true → disj m l = true := fun l m h => by
      unfold disj
      rw [List.all_eq_true]
      intro x hx
      have : x ∉ l := fun hl => disj_mem h hl hx
      simpa using this
    refine ⟨⟨⟨⟨⟨⟨c2, c1⟩, hsym _ _ c3⟩, c5⟩, c4⟩, hsym _ _ c6⟩, ?_⟩
    revert c7
    cases isSt p.p.o <;> cases isSt q.p.o <;> cases p.vh <;> cases q.vh <;> simp
  have sp := patch_small hpp
  have sq := patch_small hqq
  -- the second one, first
  have e1 : patchL R Ω E q s1 = some qq := by
    rw [← hqq]
    exact ((sees_app sp hc).patch.symm.trans (Se.sees h5).patch)
  have e2 : patchL R Ω E p (qq.app s1) = some pp := by
    rw [← hpp]
    exact (sees_app sq hc').patch
  refine ⟨q, s1, qq.app s1, hq, h2, by simp only [execD1, if_pos hql, e1, Option.bind_some], p, qq.app s1, pp.app (qq.app s1), hp, Se.refl _, by simp only [execD1, if_pos hpl, e2, Option.bind_some], ?_⟩
  exact h7.se ((app_comm (apart_of sp sq hc) s1).trans (h5.app qq))
theorem Goes.front {i : Nat} {B : List Nat} {t : St} : ∀ (A : List Nat) (s : St), (∀ a ∈ A, free2 gs a i) → Goes R Ω E gs (A ++ i :: B) s t → Goes R Ω E gs (i :: (A ++ B)) s t
  | [], _, _, h => h
  | a :: A, s, hf, h => by
    obtain ⟨p, s1, s2, h1, h2, h3, h4⟩ := h
    exact Goes.swap (hf a (by simp)) ⟨p, s1, s2, h1, h2, h3, Goes.front A s2 (fun b hb => hf b (by simp [hb])) h4⟩
end
end Go.Proofs.Ytjnhiggknkflfaa.A
