/- Regions whose order is drawn: whatever the order, what the order of the text gives. -/
import Derived.Test.YtmfihcbafljcbaaAbsI
import Derived.Orders
set_option linter.unusedSectionVars false
set_option linter.unusedVariables false
set_option linter.unusedSimpArgs false
set_option linter.constructorNameAsVariable false
namespace Go.Proofs.Ytmfihcbafljcbaa.A
open Go
variable [Base]

/-- the same to whoever looks. -/
structure Se (s s' : St) : Prop where
  fr : ∀ d, fget s.fr d = fget s'.fr d
  bx : ∀ d, bget s.bx d = bget s'.bx d
  hp : s.hp = s'.hp
  mem : ∀ y, y ∈ s.fr ↔ y ∈ s'.fr
theorem Se.refl (s : St) : Se s s := ⟨fun _ => rfl, fun _ => rfl, rfl, fun _ => Iff.rfl⟩
theorem Se.symm {s s' : St} (h : Se s s') : Se s' s := ⟨fun d => (h.fr d).symm, fun d => (h.bx d).symm, h.hp.symm, fun y => (h.mem y).symm⟩
theorem Se.trans {s s' s'' : St} (h : Se s s') (h' : Se s' s'') : Se s s'' := ⟨fun d => (h.fr d).trans (h'.fr d), fun d => (h.bx d).trans (h'.bx d), h.hp.trans h'.hp, fun y => (h.mem y).trans (h'.mem y)⟩
theorem Se.box {s s' : St} (h : Se s s') (dp : Nat) (k : Key) : s.box dp k = s'.box dp k := by
  simp only [St.box, h.bx, h.hp]
theorem Conc.se {C : Cx} {s s' : St} {a : Act} {w : World} {σ : Sp} (h : Conc C s a w σ) (hs : Se s s') : Conc C s' a w σ :=
  h.equiv (fun d => .inr (hs.fr d).symm) (fun k cs hk => by rw [hs.box]; exact hk) (fun _ _ _ h => by rw [hs.hp]; exact h)

def lks {α : Type} (l : List (Nat × α)) : List Nat := l.map (·.1)
theorem fget_append (l r : List (Nat × AV)) (d : Nat) : fget (l ++ r) d = if d ∈ lks l then fget l d else fget r d := by
  induction l with
  | nil => simp [lks]
  | cons x l ih =>
    obtain ⟨k, y⟩ := x
    simp only [List.cons_append, fget, lks, List.map_cons, List.mem_cons]
    by_cases h : k = d
    · subst h; simp
    · have h' : ¬ d = k := fun e => h e.symm
      simp only [if_neg h, h', false_or]
      exact ih
theorem bget_append (l r : List (Nat × List AV)) (d : Nat) : bget (l ++ r) d = if d ∈ lks l then bget l d else bget r d := by
  induction l with
  | nil => simp [lks]
  | cons x l ih =>
    obtain ⟨k, y⟩ := x
    simp only [List.cons_append, bget, lks, List.map_cons, List.mem_cons]
    by_cases h : k = d
    · subst h; simp
    · have h' : ¬ d = k := fun e => h e.symm
      simp only [if_neg h, h', false_or]
      exact ih
theorem bget_bsets (bx wb : List (Nat × List AV)) (d : Nat) : bget (bsets bx wb) d = match bget wb d with
    | some cs => (bget bx d).map fun _ => cs
    | none => bget bx d := by
  induction wb with
  | nil => rfl
  | cons x wb ih =>
    obtain ⟨k, y⟩ := x
    simp only [bsets, bget_bset, bget]
    by_cases h : k = d
    · subst h
      simp only [if_true, ih]
      cases bget wb k with
      | none => rfl
      | some cs => cases bget bx k <;> rfl
    · rw [if_neg h, if_neg (fun e => h e.symm), ih]
theorem bget_none {l : List (Nat × List AV)} {d : Nat} (h : d ∉ lks l) : bget l d = none := by
  induction l with
  | nil => rfl
  | cons x l ih =>
    obtain ⟨k, y⟩ := x
    simp only [lks, List.map_cons, List.mem_cons, not_or] at h
    simp only [bget, if_neg (fun e => h.1 (Eq.symm e))]
    exact ih h.2
theorem Se.app {s s' : St} (q : Patch) (h : Se s s') : Se (q.app s) (q.app s') := by
  refine ⟨fun d => ?_, fun d => ?_, ?_, fun y => by simp only [Patch.app, List.mem_append, h.mem y]⟩
  · simp only [Patch.app, fget_append, h.fr]
  · simp only [Patch.app, bget_append, bget_bsets, h.bx]
  · simp only [Patch.app, h.hp]
/-- what two operations change lies apart. -/
structure Apart (q q' : Patch) : Prop where
  fr : ∀ d, d ∈ lks q.fr → d ∉ lks q'.fr
  nn : ∀ d, d ∈ lks q.nb → d ∉ lks q'.nb
  nw : ∀ d, d ∈ lks q.nb → d ∉ lks q'.wb
  wn : ∀ d, d ∈ lks q.wb → d ∉ lks q'.nb
  ww : ∀ d, d ∈ lks q.wb → d ∉ lks q'.wb
  hp : q.hp = none ∨ q'.hp = none
theorem app_comm {q q' : Patch} (h : Apart q q') (s : St) : Se (q.app (q'.app s)) (q'.app (q.app s)) := by
  refine ⟨fun d => ?_, fun d => ?_, ?_, fun y => by simp only [Patch.app, List.mem_append]; constructor <;> rintro (h | h | h) <;> simp [h]⟩
  · simp only [Patch.app, fget_append]
    by_cases h1 : d ∈ lks q.fr
    · simp [h1, h.fr d h1]
    · simp [h1]
  · simp only [Patch.app, bget_append, bget_bsets]
    by_cases h1 : d ∈ lks q.nb
    · have h2 := bget_none (h.nw d h1)
      simp [h1, h.nn d h1, h2]
    · by_cases h3 : d ∈ lks q'.nb
      · have h4 : bget q.wb d = none := bget_none fun h5 => h.wn d h5 h3
        simp [h1, h3, h4]
      · simp only [if_neg h1, if_neg h3]
        by_cases h5 : d ∈ lks q.wb
        · have := bget_none (h.ww d h5)
          rw [this]
        · rw [bget_none h5]
  · simp only [Patch.app]
    rcases h.hp with e | e <;> rw [e] <;> cases q.hp <;> cases q'.hp <;> first | rfl | cases e

def isSt : AOp → Bool
  | .st _ _ _ => true
  | _ => false
def isRowAp (p : DOp) : Bool := match p.p.o with
  | .ap _ _ _ _ _ => p.cs.length == 2
  | _ => false
def isWr (p : DOp) : Bool := isSt p.p.o || isRowAp p
def isAl : AOp → Bool
  | .al _ => true
  | _ => false
def optL (d : Option Nat) : List Nat := match d with
  | some d => [d]
  | none => []
def gsl (p : DOp) : List Nat := match p.p.g with
  | some (j, _) => [j]
  | none => []
def wrS (p : DOp) : List Nat := optL p.p.d ++ p.cs
def rdS (p : DOp) : List Nat := gsl p ++ p.vw
def wrB (p : DOp) : List Nat := (if isAl p.p.o = true then optL p.p.d else []) ++ (if isWr p = true then p.vb else [])
def disj (l m : List Nat) : Bool := l.all fun x => !m.contains x
def commD (p q : DOp) : Bool := disj (wrS p) (rdS q) && disj (wrS q) (rdS p) && disj (wrS p) (wrS q) && disj (wrB p) q.vb && disj (wrB q) p.vb && disj (wrB p) (wrB q) && !((isWr p || isWr q) && p.vh && q.vh)
theorem disj_mem {l m : List Nat} (h : disj l m = true) {x : Nat} (hx : x ∈ l) : x ∉ m := by
  have := List.all_eq_true.1 h x hx
  simpa using this
theorem lks_keepB (bx : List (Nat × List AV)) (ks : List Nat) {d : Nat} (h : d ∈ lks (keepB bx ks)) : d ∈ ks := by
  induction ks with
  | nil => simp [keepB, lks] at h
  | cons k ks ih =>
    simp only [keepB] at h
    split at h
    · simp only [lks, List.map_cons, List.mem_cons] at h
      rcases h with rfl | h
      · simp
      · exact List.mem_cons_of_mem _ (ih h)
    · exact List.mem_cons_of_mem _ (ih h)

section
variable {R : Rec} {Ω : Orc} {E : Env}
structure Small (p : DOp) (q : Patch) : Prop where
  fr : ∀ d, d ∈ lks q.fr → d ∈ wrS p
  nb : ∀ d, d ∈ lks q.nb → isAl p.p.o = true ∧ d ∈ optL p.p.d
  wb : ∀ d, d ∈ lks q.wb → isWr p = true ∧ d ∈ p.vb
  hp : q.hp ≠ none → isWr p = true ∧ p.vh = true
theorem small_fr {p : DOp} {fr : List (Nat × AV)} (h : ∀ d, d ∈ lks fr → d ∈ wrS p) : Small p ⟨fr, [], [], none⟩ :=
  ⟨h, fun d hd => by simp [lks] at hd, fun d hd => by simp [lks] at hd, fun h => absurd rfl h⟩
theorem lks_dput (d : Option Nat) (x : AV) : lks (dput d x) = optL d := by cases d <;> rfl
theorem effect_small (p : DOp) (r : AV × St) : Small p (effect p r) := by
  have hgen : Small p ⟨dput p.p.d (frz p.p.fz r.1) ++ p.cs.map (fun m => (m, .u)), [], [], none⟩ := small_fr fun d hd => by
    simp only [lks, List.map_append, List.map_map] at hd
    rcases List.mem_append.1 hd with hd | hd
    · have : d ∈ lks (dput p.p.d (frz p.p.fz r.1)) := hd
      rw [lks_dput] at this
      exact List.mem_append_left _ this
    · obtain ⟨m, hm, rfl⟩ := List.mem_map.1 hd
      exact List.mem_append_right _ hm
  unfold effect
  split
  · rename_i zs ho
    split
    · rename_i dd hd
      refine ⟨fun d h => ?_, fun d h => ⟨by rw [ho]; rfl, ?_⟩, fun d h => by simp [lks] at h, fun h => absurd rfl h⟩
      · simp only [lks, List.map_cons, List.map_nil, List.mem_singleton] at h
        subst h; unfold wrS; rw [hd]; simp [optL]
      · simp only [lks, List.map_cons, List.map_nil, List.mem_singleton] at h
        subst h; rw [hd]; simp [optL]
    · exact small_fr fun d h => by simp [lks] at h
  · rename_i ho
    refine ⟨fun d h => ?_, fun d h => by simp [lks] at h, fun d h => ⟨by simp [isWr, ho, isSt], lks_keepB _ _ h⟩, fun h => ⟨by simp [isWr, ho, isSt], ?_⟩⟩
    · simp only [lks, List.map_map] at h
      obtain ⟨m, hm, rfl⟩ := List.mem_map.1 h
      exact List.mem_append_right _ hm
    by_cases hv : p.vh = true
    · exact hv
    · simp [hv] at h
  · rename_i ho
    by_cases h2 : (p.cs.length == 2) = true
    · have hw : isWr p = true := by simp only [isWr, isRowAp, ho, h2, Bool.or_true]
      rw [if_pos h2]
      refine ⟨hgen.fr, fun d h => by simp [lks] at h, fun d h => ⟨hw, lks_keepB _ _ h⟩, fun h => ⟨hw, ?_⟩⟩
      by_cases hv : p.vh = true
      · exact hv
      · simp [hv] at h
    · simp only [h2, Bool.false_and, Bool.false_eq_true, if_false]
      exact hgen
  · exact hgen
theorem patch_small {p : DOp} {s : St} {q : Patch} (h : patchL R Ω E p s = some q) : Small p q := by
  have hcore : ∀ v q, coreL R Ω E p v = some q → Small p q := by
    intro v q hq
    unfold coreL at hq
    split at hq
    · obtain ⟨r, _, h2⟩ := Option.bind_eq_some_iff.1 hq
      split at h2
      · obtain rfl := Option.some.inj h2
        exact effect_small p r
      · cases h2
    · cases hq
  unfold patchL at h
  split at h
  · exact hcore _ _ h
  · obtain ⟨y, _, h2⟩ := Option.bind_eq_some_iff.1 h
    split at h2
    · exact hcore _ _ h2
    · obtain rfl := Option.some.inj h2
      exact small_fr fun d hd => by rw [lks_dput] at hd; exact List.mem_append_left _ hd
theorem keepF_congr {fr fr' : List (Nat × AV)} {ks : List Nat} (h : ∀ d ∈ ks, fget fr d = fget fr' d) : keepF fr ks = keepF fr' ks :=
  List.map_congr_left fun d hd => by rw [h d hd]
theorem keepB_congr {bx bx' : List (Nat × List AV)} {ks : List Nat} (h : ∀ d ∈ ks, bget bx d = bget bx' d) : keepB bx ks = keepB bx' ks := by
  induction ks with
  | nil => rfl
  | cons k ks ih =>
    simp only [keepB, h k (by simp), ih fun d hd => h d (by simp [hd])]
/-- an operation sees the same in both. -/
structure Sees (p : DOp) (s s' : St) : Prop where
  fr : ∀ d ∈ rdS p, fget s.fr d = fget s'.fr d
  bx : ∀ d ∈ p.vb, bget s.bx d = bget s'.bx d
  hp : p.vh = true → s.hp = s'.hp
theorem Sees.patch {p : DOp} {s s' : St} (h : Sees p s s') : patchL R Ω E p s = patchL R Ω E p s' := by
  have hv : view p s = view p s' := by
    unfold view
    rw [keepF_congr fun d hd => h.fr d (List.mem_append_right _ hd), keepB_congr h.bx]
    by_cases hh : p.vh = true
    · simp only [hh, if_true, h.hp hh]
    · simp only [if_neg hh]
  unfold patchL
  rw [hv]
  split
  · rfl
  · rename_i j want hg
    rw [h.fr j (List.mem_append_left _ (by unfold gsl; rw [hg]; simp))]
theorem Se.sees {p : DOp} {s s' : St} (h : Se s s') : Sees p s s' := ⟨fun d _ => h.fr d, fun d _ => h.bx d, fun _ => h.hp⟩
theorem sees_app {p p' : DOp} {q : Patch} {s : St} (hq : Small p q) (hc : commD p p' = true) : Sees p' (q.app s) s := by
  simp only [commD, Bool.and_eq_true, Bool.not_eq_true'] at hc
  obtain ⟨⟨⟨⟨⟨⟨c1, c2⟩, c3⟩, c4⟩, c5⟩, c6⟩, c7⟩ := hc
  refine ⟨fun d hd => ?_, fun d hd => ?_, fun hh => ?_⟩
  · simp only [Patch.app, fget_append]
    rw [if_neg]
    intro hm
    exact disj_mem c1 (hq.fr d hm) hd
  · simp only [Patch.app, bget_append, bget_bsets]
    have hnb : d ∉ lks q.nb := fun hm => by
      obtain ⟨h1, h2⟩ := hq.nb d hm
      exact disj_mem c4 (List.mem_append_left _ (by rw [if_pos h1]; exact h2)) hd
    have hwb : d ∉ lks q.wb := fun hm => by
      obtain ⟨h1, h2⟩ := hq.wb d hm
      exact disj_mem c4 (List.mem_append_right _ (by rw [if_pos h1]; exact h2)) hd
    rw [if_neg hnb, bget_none hwb]
  · simp only [Patch.app]
    cases hp : q.hp with
    | none => rfl
    | some x =>
      obtain ⟨h1, h2⟩ := hq.hp (by rw [hp]; simp)
      rw [h1, h2, hh] at c7
      simp at c7
theorem apart_of {p p' : DOp} {q q' : Patch} (hq : Small p q) (hq' : Small p' q') (hc : commD p p' = true) : Apart q q' := by
  simp only [commD, Bool.and_eq_true, Bool.not_eq_true'] at hc
  obtain ⟨⟨⟨⟨⟨⟨c1, c2⟩, c3⟩, c4⟩, c5⟩, c6⟩, c7⟩ := hc
  have m1 : ∀ {p : DOp} {q : Patch} {d}, Small p q → d ∈ lks q.nb → d ∈ wrB p := fun hq h => by
    obtain ⟨h1, h2⟩ := hq.nb _ h
    exact List.mem_append_left _ (by rw [if_pos h1]; exact h2)
  have m2 : ∀ {p : DOp} {q : Patch} {d}, Small p q → d ∈ lks q.wb → d ∈ wrB p := fun hq h => by
    obtain ⟨h1, h2⟩ := hq.wb _ h
    exact List.mem_append_right _ (by rw [if_pos h1]; exact h2)
  refine ⟨fun d h h' => disj_mem c3 (hq.fr d h) (hq'.fr d h'), fun d h h' => disj_mem c6 (m1 hq h) (m1 hq' h'), fun d h h' => disj_mem c6 (m1 hq h) (m2 hq' h'), fun d h h' => disj_mem c6 (m2 hq h) (m1 hq' h'), fun d h h' => disj_mem c6 (m2 hq h) (m2 hq' h'), ?_⟩
  cases h1 : q.hp with
  | none => exact .inl rfl
  | some x =>
    cases h2 : q'.hp with
    | none => exact .inr rfl
    | some y =>
      obtain ⟨h3, h4⟩ := hq.hp (by rw [h1]; simp)
      obtain ⟨h5, h6⟩ := hq'.hp (by rw [h2]; simp)
      rw [h3, h4, h6] at c7
      simp at c7

/-- a run through some of the operations, the state being what it is to whoever looks. -/
def Goes (R : Rec) (Ω : Orc) (E : Env) (gs : List DOp) : List Nat → St → St → Prop
  | [], s, t => Se s t
  | i :: π, s, t => ∃ p s1 s2, gs[i]? = some p ∧ Se s s1 ∧ execD1 R Ω E s1 p = some s2 ∧ Goes R Ω E gs π s2 t
variable {gs : List DOp}
theorem Goes.se {π : List Nat} {s s' t : St} (h : Goes R Ω E gs π s' t) (hs : Se s s') : Goes R Ω E gs π s t := by
  cases π with
  | nil => exact Se.trans hs h
  | cons i π =>
    obtain ⟨p, s1, s2, h1, h2, h3, h4⟩ := h
    exact ⟨p, s1, s2, h1, hs.trans h2, h3, h4⟩
theorem Goes.text : ∀ (ps : List DOp) (i : Nat) (s t : St), gs.drop i = ps → execD R Ω E s ps = some t → Goes R Ω E gs (List.range' i ps.length) s t
  | [], i, s, t, _, he => by
    obtain rfl := Option.some.inj he
    exact Se.refl _
  | p :: ps, i, s, t, hi, he => by
    obtain ⟨s2, h1, h2⟩ := Option.bind_eq_some_iff.1 he
    rw [List.length_cons, List.range'_succ]
    refine ⟨p, s, s2, ?_, Se.refl _, h1, Goes.text ps (i + 1) s2 t ?_ h2⟩
    · have : (gs.drop i)[0]? = some p := by rw [hi]; rfl
      simpa using this
    · rw [← List.drop_drop, hi]; rfl
def opdS (xs : List Opd) : List Nat := xs.flatMap fun x => match x with
  | .t n => [n]
  | .c _ => []
def lkOf (sl dl : List Nat) : AOp → Bool
  | .lk _ (.t _) (.t b) lv => sl.contains b && (!lv || dl.contains b)
  | _ => false
def lnOf : AOp → Bool
  | .ln false (.t _) => true
  | _ => false
def alOK (ow : List Nat) (q : DOp) : Bool := match q.p.o with
  | .al zs => AV.pureL zs && !q.vh && (match q.p.d with
    | some d => ow.contains d && q.vb == [d]
    | none => false)
  | _ => false
/-- a call that is not shown all, and an operation that looks at what it is not shown. -/
def besideD (p q : DOp) : Bool := match p.p.o with
  | .ch _ args sl dl ow => !p.lt && q.lt && p.p.g.isNone && q.p.g.isNone && !isWr q && disj (wrS q) (opdS args ++ (sl ++ dl)) && disj (optL p.p.d) (wrS q ++ q.vw) && (q.nb.contains 1000000 || lkOf sl dl q.p.o) && (alOK ow q || lkOf sl dl q.p.o || lnOf q.p.o || (!isAl q.p.o && q.vb.isEmpty && !q.vh))
  | _ => false
structure Beside (p q : DOp) (f : FuncId) (args : List Opd) (sl dl ow : List Nat) : Prop where
  o : p.p.o = .ch f args sl dl ow
  pl : p.lt = false
  ql : q.lt = true
  pg : p.p.g = none
  qg : q.p.g = none
  nw : isWr q = false
  wr : ∀ d, d ∈ wrS q → d ∉ opdS args ∧ d ∉ sl ∧ d ∉ dl
  ds : ∀ d, p.p.d = some d → d ∉ wrS q ∧ d ∉ q.vw
  nb : (1000000 : Nat) ∈ q.nb ∨ lkOf sl dl q.p.o = true
  kd : alOK ow q = true ∨ lkOf sl dl q.p.o = true ∨ lnOf q.p.o = true ∨ (isAl q.p.o = false ∧ q.vb = [] ∧ q.vh = false)
theorem beside_of {p q : DOp} (h : besideD p q = true) : ∃ f args sl dl ow, Beside p q f args sl dl ow := by
  unfold besideD at h
  split at h
  · rename_i f args sl dl ow ho
    simp only [Bool.and_eq_true, Bool.not_eq_true', Option.isNone_iff_eq_none, Bool.or_eq_true] at h
    obtain ⟨⟨⟨⟨⟨⟨⟨⟨h1, h2⟩, h3⟩, h4⟩, h5⟩, h6⟩, h7⟩, h8⟩, h9⟩ := h
    refine ⟨f, args, sl, dl, ow, ho, h1, h2, h3, h4, h5, fun d hd => ?_, fun d hd => ?_, h8.imp (fun h => by simpa using h) id, ?_⟩
    · have := disj_mem h6 hd
      exact ⟨fun hm => this (List.mem_append_left _ hm), fun hm => this (List.mem_append_right _ (List.mem_append_left _ hm)), fun hm => this (List.mem_append_right _ (List.mem_append_right _ hm))⟩
    · have : d ∈ optL p.p.d := by rw [hd]; simp [optL]
      have := disj_mem h7 this
      exact ⟨fun hm => this (List.mem_append_left _ hm), fun hm => this (List.mem_append_right _ hm)⟩
    · rcases h9 with ((h9 | h9) | h9) | h9
      · exact .inl h9
      · exact .inr (.inl h9)
      · exact .inr (.inr (.inl h9))
      · exact .inr (.inr (.inr ⟨h9.1.1, by simpa using h9.1.2, h9.2⟩))
  · cases h
theorem al_ok {ow : List Nat} {q : DOp} (h : alOK ow q = true) : ∃ zs d, q.p.o = .al zs ∧ q.p.d = some d ∧ AV.pureL zs = true ∧ d ∈ ow ∧ q.vb = [d] ∧ q.vh = false := by
  unfold alOK at h
  split at h
  · rename_i zs ho
    simp only [Bool.and_eq_true, Bool.not_eq_true'] at h
    obtain ⟨⟨h1, h2⟩, h3⟩ := h
    split at h3
    · rename_i d hd
      simp only [Bool.and_eq_true, beq_iff_eq] at h3
      exact ⟨zs, d, ho, hd, h1, by simpa using h3.1, h3.2, h2⟩
    · cases h3
  · cases h
theorem lk_ok {sl dl : List Nat} {o : AOp} (h : lkOf sl dl o = true) : ∃ n m b lv, o = .lk n (.t m) (.t b) lv ∧ b ∈ sl ∧ (lv = true → b ∈ dl) := by
  unfold lkOf at h
  split at h
  · rename_i n m b lv
    simp only [Bool.and_eq_true, Bool.or_eq_true, Bool.not_eq_true'] at h
    refine ⟨n, m, b, lv, rfl, by simpa using h.1, fun hl => ?_⟩
    rcases h.2 with h' | h'
    · rw [hl] at h'; cases h'
    · simpa using h'
  · cases h
theorem ln_ok {o : AOp} (h : lnOf o = true) : ∃ m, o = .ln false (.t m) := by
  unfold lnOf at h
  split at h
  · exact ⟨_, rfl⟩
  · cases h
theorem Beside.alw {p q : DOp} {f : FuncId} {args : List Opd} {sl dl ow : List Nat} (hb : Beside p q f args sl dl ow) (ha : isAl q.p.o = true) : alOK ow q = true := by
  rcases hb.kd with h | h | h | h
  · exact h
  · obtain ⟨n, m, b, lv, e, _⟩ := lk_ok h
    rw [e] at ha; cases ha
  · obtain ⟨m, e⟩ := ln_ok h
    rw [e] at ha; cases ha
  · rw [h.1] at ha; cases ha
theorem frz_bor {z : Bool} {x : AV} {hid : Key → Bool} (h : borH hid x = false) : borH hid (frz z x) = false := by
  cases z with
  | false => exact h
  | true => cases x <;> first | exact h | rfl
theorem borC_borH {hid : Key → Bool} {x : AV} (h : borC x = false) : borH hid x = false := by
  cases x with
  | r pl => cases pl <;> first | rfl | cases h
  | v pl lo len => cases pl <;> first | rfl | cases h
  | q pl i sz off => cases pl <;> first | rfl | cases h
  | _ => rfl
theorem copy_borH {hid : Key → Bool} {x : AV} (h : x.copy = true) : borH hid x = false := by
  cases x <;> first | rfl | cases h
theorem mem_fget {fr : List (Nat × AV)} {d : Nat} (h : fget fr d ≠ .u) : ∃ y ∈ fr, y.2 = fget fr d := by
  induction fr with
  | nil => exact absurd rfl h
  | cons y fr ih =>
    obtain ⟨k, x⟩ := y
    simp only [fget] at h ⊢
    split
    · exact ⟨(k, x), by simp, rfl⟩
    · rename_i hne
      rw [if_neg hne] at h
      obtain ⟨z, hz, e⟩ := ih h
      exact ⟨z, List.mem_cons_of_mem _ hz, e⟩
/-- the boxes that are not shown lie in sight. -/
structure SlIn (dp : Nat) (s : St) (sl dl ow : List Nat) : Prop where
  sl : ∀ m ∈ sl, ∃ k, evKey dp s (fget s.fr m) false = some k ∧ k.dp ≤ dp
  dl : ∀ m ∈ dl, ownO dp ow (fget s.fr m) = false ∧ ∃ k, evKey dp s (fget s.fr m) true = some k ∧ k.dp ≤ dp
theorem SlIn.dp {dp : Nat} {s : St} {sl dl ow : List Nat} (h : SlIn dp s sl dl ow) {k : Key} (hk : hidK dp s sl dl ow k = true) : k.dp ≤ dp := by
  unfold hidK at hk
  simp only [Bool.or_eq_true, List.any_eq_true, Bool.and_eq_true, beq_iff_eq, decide_eq_true_eq] at hk
  rcases hk with (⟨n, hn, e⟩ | ⟨n, hn, _, e⟩) | ⟨e, _⟩
  · obtain ⟨k', e', h'⟩ := h.sl n hn
    rw [e] at e'; injection e' with e'; subst e'; exact h'
  · obtain ⟨_, k', e', h'⟩ := h.dl n hn
    rw [e] at e'; injection e' with e'; subst e'; exact h'
  · omega
theorem evKey_le {dp : Nat} {v s : St} (hbx : ∀ k cs, v.box dp k = some cs → s.box dp k = some cs) {y : AV} {lv : Bool} {k : Key} (h : evKey dp v y lv = some k) : evKey dp s y lv = some k := by
  cases y <;> first | (simp [evKey] at h; done) | skip
  rename_i k' off
  cases lv with
  | false => exact h
  | true =>
    simp only [evKey, if_true] at h ⊢
    split at h
    · rename_i k2 o2 hc
      obtain ⟨cs, hb, hcs⟩ := Option.bind_eq_some_iff.1 hc
      simp only [hbx _ cs hb, Option.bind_some, hcs]
      exact h
    · cases h
theorem view_fr (q : DOp) (s : St) (n : Nat) : fget (view q s).fr n = .u ∨ fget (view q s).fr n = fget s.fr n := fget_keepF s.fr q.vw n
theorem view_bx (q : DOp) (s : St) (dp : Nat) (k : Key) (cs : List AV) (h : (view q s).box dp k = some cs) : s.box dp k = some cs := by
  by_cases hk : k.dp = dp
  · simp only [St.box, hk, if_true] at h ⊢
    exact bget_keepB h
  · simp only [St.box, if_neg hk, view] at h ⊢
    split at h
    · exact h
    · cases h
/-- the key that is told is one that is not shown. -/
theorem lk_hid {dp : Nat} {q : DOp} {s : St} {sl dl ow : List Nat} {b : Nat} {lv : Bool} {k : Key} (hs : SlIn dp s sl dl ow) (hb : b ∈ sl) (hl : lv = true → b ∈ dl) (h : evKey dp (view q s) (fget (view q s).fr b) lv = some k) : hidK dp s sl dl ow k = true := by
  have h1 := evKey_le (view_bx q s dp) h
  have h2 : fget (view q s).fr b = fget s.fr b := by
    rcases view_fr q s b with e | e
    · rw [e] at h1; cases h1
    · exact e
  rw [h2] at h1
  unfold hidK
  simp only [Bool.or_eq_true, List.any_eq_true, Bool.and_eq_true, beq_iff_eq, Bool.not_eq_true']
  cases lv with
  | false => exact .inl (.inl ⟨b, hb, h1⟩)
  | true => exact .inl (.inr ⟨b, hl rfl, (hs.dl b (hl rfl)).1, h1⟩)
/-- what such an operation changes. -/
structure BesP (q : DOp) (qq : Patch) (ow : List Nat) : Prop where
  fr : ∀ d, d ∈ lks qq.fr → d ∈ wrS q
  nb : qq.nb = [] ∨ ∃ d zs, qq.nb = [(d, zs)] ∧ AV.pureL zs = true ∧ d ∈ ow
  wb : qq.wb = []
  hp : qq.hp = none
theorem effect_nw {q : DOp} {r : AV × St} (hnw : isWr q = false) (hal : isAl q.p.o = false) : effect q r = ⟨dput q.p.d (frz q.p.fz r.1) ++ q.cs.map (fun m => (m, .u)), [], [], none⟩ := by
  unfold effect
  split
  · rename_i zs ho; rw [ho] at hal; cases hal
  · rename_i ho; simp [isWr, isSt, ho] at hnw
  · rename_i ho
    have h2 : (q.cs.length == 2) = false := by
      simp only [isWr, isRowAp, ho, isSt, Bool.false_or] at hnw
      exact hnw
    simp only [h2, Bool.false_and, Bool.false_eq_true, if_false]
  · rfl
theorem Beside.inv {p q : DOp} {f : FuncId} {args : List Opd} {sl dl ow : List Nat} (hb : Beside p q f args sl dl ow) {s : St} {qq : Patch} (h : patchL R Ω E q s = some qq) : ∃ r, execOp R Ω E (view q s) q.p.d q.p.o = some r ∧ okB E.dp q.nb r.1 = true ∧ qq = effect q r := by
  unfold patchL at h
  rw [hb.qg] at h
  simp only at h
  unfold coreL at h
  split at h
  · obtain ⟨r, hr, h2⟩ := Option.bind_eq_some_iff.1 h
    split at h2
    · rename_i hok
      exact ⟨r, hr, (Bool.and_eq_true_iff.1 hok).2, (Option.some.inj h2).symm⟩
    · cases h2
  · cases h
theorem Beside.patch {p q : DOp} {f : FuncId} {args : List Opd} {sl dl ow : List Nat} (hb : Beside p q f args sl dl ow) {s : St} {qq : Patch} (h : patchL R Ω E q s = some qq) : BesP q qq ow := by
  have hs := patch_small h
  obtain ⟨r, hr, hok, rfl⟩ := hb.inv h
  by_cases hal : isAl q.p.o = true
  · obtain ⟨zs, dd, ho, hd, h1, h2, _⟩ := al_ok (hb.alw hal)
    have he : effect q r = ⟨[(dd, r.1)], [(dd, zs)], [], none⟩ := by
      unfold effect
      rw [ho, hd]
    rw [he] at hs ⊢
    exact ⟨hs.fr, .inr ⟨dd, zs, rfl, h1, h2⟩, rfl, rfl⟩
  · rw [effect_nw hb.nw (by simpa using hal)] at hs ⊢
    exact ⟨hs.fr, .inl rfl, rfl, rfl⟩
/-- what it answers borrows of nothing that is shown. -/
theorem Beside.plain {p q : DOp} {f : FuncId} {args : List Opd} {sl dl ow : List Nat} (hb : Beside p q f args sl dl ow) {s : St} {qq : Patch} (hi : SlIn E.dp s sl dl ow) (h : patchL R Ω E q s = some qq) : ∀ y ∈ qq.fr, borH (hidK E.dp s sl dl ow) y.2 = false := by
  obtain ⟨r, hr, hok, rfl⟩ := hb.inv h
  have hx : borH (hidK E.dp s sl dl ow) r.1 = false := by
    rcases hb.nb with hn | hl
    · unfold okB at hok
      have h4 := (Bool.and_eq_true_iff.1 hok).2
      have h5 : q.nb.contains 1000000 = true := by simpa using hn
      rw [h5] at h4
      exact borC_borH (by simpa using h4)
    · obtain ⟨n, m, b, lv, e, hsl, hdl⟩ := lk_ok hl
      rw [e] at hr
      simp only [execOp] at hr
      split at hr
      · rename_i k off hk
        split at hr
        · rename_i hev
          have hhid := lk_hid hi hsl hdl hev
          obtain ⟨cs, _, hr1⟩ := Option.bind_eq_some_iff.1 hr
          obtain ⟨y, _, hr2⟩ := Option.bind_eq_some_iff.1 hr1
          split at hr2
          · obtain rfl := Option.some.inj hr2
            simp [borH, hhid]
          · split at hr2
            · rename_i hc
              obtain rfl := Option.some.inj hr2
              exact copy_borH hc
            · cases hr2
        · cases hr
      · cases hr
  by_cases hal : isAl q.p.o = true
  · obtain ⟨zs, dd, ho, hd, h1, h2, _⟩ := al_ok (hb.alw hal)
    have he : effect q r = ⟨[(dd, r.1)], [(dd, zs)], [], none⟩ := by
      unfold effect
      rw [ho, hd]
    rw [he]
    intro y hy
    obtain rfl : y = (dd, r.1) := by simpa using hy
    exact hx
  · rw [effect_nw hb.nw (by simpa using hal)]
    intro y hy
    rcases List.mem_append.1 hy with hy | hy
    · cases hd : q.p.d with
      | none => rw [hd] at hy; cases hy
      | some dd =>
        rw [hd] at hy
        obtain rfl : y = (dd, frz q.p.fz r.1) := by simpa [dput] using hy
        exact frz_bor hx
    · obtain ⟨m, _, rfl⟩ := List.mem_map.1 hy
      rfl
theorem Beside.nobox {p q : DOp} {f : FuncId} {args : List Opd} {sl dl ow : List Nat} (hb : Beside p q f args sl dl ow) {s : St} {qq : Patch} (h : patchL R Ω E q s = some qq) : ∀ d ∈ lks qq.nb, bget s.bx d = none := by
  have hs := patch_small h
  intro d hd
  obtain ⟨h1, h2⟩ := hs.nb d hd
  obtain ⟨r, hr, _, _⟩ := hb.inv h
  obtain ⟨zs, dd, ho, hdd, _, _, hvb, _⟩ := al_ok (hb.alw h1)
  rw [hdd] at h2
  obtain rfl : d = dd := by simpa [optL] using h2
  rw [ho] at hr
  simp only [execOp, hdd, Option.bind_some] at hr
  split at hr
  · rename_i hc
    simp only [Bool.and_eq_true] at hc
    have h4 : bget (keepB s.bx q.vb) d = none := by have := hc.1.1; simp only [freeD, Bool.and_eq_true] at this; simpa [view] using this.1
    rwa [bget_kept _ _ _ (by rw [hvb]; simp)] at h4
  · cases hr
/-- a call that is not shown all, seen from outside. -/
structure CallH (R : Rec) (E : Env) (s : St) (f : FuncId) (args : List AV) (sl dl ow : List Nat) (x : AV) (hp' : HP) : Prop where
  ro : E.ro = false
  copy : args.all AV.copy = true
  deep : ∀ d cs, bget s.bx d = some cs → AV.deepL E.dp cs = true
  nb : ∀ y ∈ s.fr, borH (hidK E.dp s sl dl ow) y.2 = false
  pt : SlIn E.dp s sl dl ow
  run : R ⟨E.dp + 1, false⟩ f args (shwH E.dp s sl dl ow) = some (.ret x, hp')
  pure : x.pure = true
  post : ∀ d cs, bget (s.backH E.dp (mrgH E.dp s sl dl ow hp')).bx d = some cs → d ∈ ow ∨ ∀ h ∈ ow, AV.noKL ⟨E.dp, h⟩ cs = true
theorem keyIn_iff {dp : Nat} {o : Option Key} : keyIn dp o = true ↔ ∃ k, o = some k ∧ k.dp ≤ dp := by
  cases o with
  | none => simp [keyIn]
  | some k => simp [keyIn]
theorem callH_inv {s : St} {f : FuncId} {args : List AV} {sl dl ow : List Nat} {r : AV × St} (h : doCallH R E s f args sl dl ow = some r) : ∃ hp', CallH R E s f args sl dl ow r.1 hp' ∧ r.2 = s.backH E.dp (mrgH E.dp s sl dl ow hp') := by
  unfold doCallH at h
  split at h
  · rename_i hc
    simp only [Bool.and_eq_true, Bool.not_eq_true'] at hc
    obtain ⟨⟨⟨⟨⟨h1, h2⟩, h3⟩, h4⟩, h5⟩, h6⟩ := hc
    obtain ⟨⟨q, hp'⟩, hq, he2⟩ := Option.bind_eq_some_iff.1 h
    cases q with
    | new cs => cases he2
    | ret x => ?_
    simp only at he2
    split at he2
    · rename_i hk
      obtain rfl := Option.some.inj he2
      obtain ⟨hk1, hk2⟩ := Bool.and_eq_true_iff.1 hk
      refine ⟨hp', ⟨h1, h2, allBx_iff.1 h3, fun n hn => ?_, ⟨fun m hm => keyIn_iff.1 (List.all_eq_true.1 h5 m hm), fun m hm => ?_⟩, hq, hk1, fun d cs hd => ?_⟩, rfl⟩
      · simpa using List.all_eq_true.1 h4 n hn
      · have := List.all_eq_true.1 h6 m hm
        simp only [Bool.and_eq_true, Bool.not_eq_true'] at this
        exact ⟨this.1, keyIn_iff.1 this.2⟩
      · have := allBx_iff.1 hk2 d cs hd
        simpa using this
    · cases he2
  · cases h
theorem CallH.mk' {s : St} {f : FuncId} {args : List AV} {sl dl ow : List Nat} {x : AV} {hp' : HP} (h : CallH R E s f args sl dl ow x hp') :
    doCallH R E s f args sl dl ow = some (x, s.backH E.dp (mrgH E.dp s sl dl ow hp')) := by
  unfold doCallH
  have h4' : (s.fr.all fun y => !borH (hidK E.dp s sl dl ow) y.2) = true := by
    rw [List.all_eq_true]; intro n hn; rw [h.nb n hn]; rfl
  have h5' : sl.all (fun n => keyIn E.dp (evKey E.dp s (fget s.fr n) false)) = true := by
    rw [List.all_eq_true]; intro m hm
    exact keyIn_iff.2 (h.pt.sl m hm)
  have h7' : dl.all (fun n => !ownO E.dp ow (fget s.fr n) && keyIn E.dp (evKey E.dp s (fget s.fr n) true)) = true := by
    rw [List.all_eq_true]; intro m hm
    rw [(h.pt.dl m hm).1, keyIn_iff.2 (h.pt.dl m hm).2]; rfl
  have h3' : allBx s.bx (fun _ cs => AV.deepL E.dp cs) = true := allBx_iff.2 h.deep
  have h6' : allBx (s.backH E.dp (mrgH E.dp s sl dl ow hp')).bx (fun d cs => ow.contains d || ow.all fun h => AV.noKL ⟨E.dp, h⟩ cs) = true := allBx_iff.2 fun d cs hd => by
    have := h.post d cs hd
    simpa using this
  rw [if_pos (by rw [h.ro, h.copy, h3', h4', h5', h7']; rfl), h.run]
  simp only [Option.bind_some]
  rw [if_pos (by rw [h.pure, h6']; rfl)]
theorem bget_backB' (dp : Nat) (hp' : HP) : ∀ (bx : List (Nat × List AV)) (d : Nat), bget (backB dp hp' bx) d = (bget bx d).bind fun _ => hp' ⟨dp, d⟩
  | [], d => rfl
  | (k, c) :: r, d => by
    simp only [backB, bget]
    by_cases h : k = d
    · subst h
      simp only [if_true, Option.bind_some]
      cases hk : hp' ⟨dp, k⟩ with
      | some cs => simp [bget]
      | none =>
        simp only
        rw [bget_backB' dp hp' r k, hk]
        cases bget r k <;> rfl
    · rw [if_neg h]
      split
      · simp only [bget, if_neg h]; exact bget_backB' dp hp' r d
      · exact bget_backB' dp hp' r d
theorem Se.ev {s s' : St} (h : Se s s') (xs : List Opd) : xs.map s.ev = xs.map s'.ev := by
  apply List.map_congr_left
  intro x _
  cases x with
  | c z => rfl
  | t n => exact h.fr n
theorem Se.evk {s s' : St} (h : Se s s') (dp : Nat) (y : AV) (lv : Bool) : evKey dp s y lv = evKey dp s' y lv := by
  unfold evKey
  simp only [h.box]
theorem Se.hid {s s' : St} (h : Se s s') (dp : Nat) (sl dl ow : List Nat) : hidK dp s sl dl ow = hidK dp s' sl dl ow := by
  funext k
  unfold hidK
  simp only [h.fr, h.evk]
theorem Se.mrg {s s' : St} (h : Se s s') (dp : Nat) (sl dl ow : List Nat) (hp' : HP) : mrgH dp s sl dl ow hp' = mrgH dp s' sl dl ow hp' := by
  funext k
  unfold mrgH
  rw [h.hid, h.box]
theorem Se.shw {s s' : St} (h : Se s s') (dp : Nat) (sl dl ow : List Nat) : shwH dp s sl dl ow = shwH dp s' sl dl ow := by
  funext k
  unfold shwH
  rw [h.hid, h.box]
theorem Se.backH {s s' : St} (h : Se s s') (dp : Nat) (hp' : HP) : Se (s.backH dp hp') (s'.backH dp hp') :=
  ⟨h.fr, fun d => by simp only [St.backH, bget_backB', h.bx], rfl, h.mem⟩
theorem Se.put {s s' : St} (h : Se s s') (d : Option Nat) (x : AV) : Se (put s d x) (A.put s' d x) := by
  cases d with
  | none => exact h
  | some d => exact ⟨fun n => by simp only [A.put, St.fset, fget]; split <;> first | rfl | exact h.fr n, h.bx, h.hp, fun y => by simp only [A.put, St.fset, List.mem_cons, h.mem y]⟩
theorem SlIn.se {dp : Nat} {s s' : St} {sl dl ow : List Nat} (h : SlIn dp s sl dl ow) (hs : Se s s') : SlIn dp s' sl dl ow :=
  ⟨fun m hm => by rw [← hs.fr, ← hs.evk]; exact h.sl m hm, fun m hm => by rw [← hs.fr, ← hs.evk]; exact h.dl m hm⟩
theorem CallH.se {s s' : St} {f : FuncId} {args : List AV} {sl dl ow : List Nat} {x : AV} {hp' : HP} (h : CallH R E s f args sl dl ow x hp') (hs : Se s s') : CallH R E s' f args sl dl ow x hp' :=
  ⟨h.ro, h.copy, fun d cs hd => h.deep d cs (by rw [hs.bx]; exact hd), fun y hy => by rw [← hs.hid]; exact h.nb y ((hs.mem y).2 hy), h.pt.se hs, by rw [← hs.shw]; exact h.run, h.pure,
    fun d cs hd => h.post d cs (by rw [(hs.backH _ _).bx, hs.mrg]; exact hd)⟩
theorem opdS_ev {s s' : St} {xs : List Opd} (h : ∀ n ∈ opdS xs, fget s'.fr n = fget s.fr n) : xs.map s'.ev = xs.map s.ev := by
  apply List.map_congr_left
  intro x hx
  cases x with
  | c z => rfl
  | t n => exact h n (List.mem_flatMap.2 ⟨_, hx, by simp⟩)
section
variable {p q : DOp} {f : FuncId} {args : List Opd} {sl dl ow : List Nat} {qq : Patch} {s : St}
/-- what the call is shown is the same, whether the other one stands before it or not. -/
theorem BesP.fgt (hq : BesP q qq ow) (hb : Beside p q f args sl dl ow) {n : Nat} (hn : n ∈ opdS args ∨ n ∈ sl ∨ n ∈ dl) : fget (qq.app s).fr n = fget s.fr n := by
  simp only [Patch.app, fget_append]
  rw [if_neg]
  intro hm
  have := hb.wr n (hq.fr n hm)
  rcases hn with h | h | h
  · exact this.1 h
  · exact this.2.1 h
  · exact this.2.2 h
theorem BesP.box (hq : BesP q qq ow) {dp : Nat} {k : Key} (hk : ∀ d, k = ⟨dp, d⟩ → d ∉ ow) : (qq.app s).box dp k = s.box dp k := by
  unfold St.box
  split
  · rename_i hd
    simp only [Patch.app, hq.wb, bsets]
    rcases hq.nb with e | ⟨d, zs, e, _, h2⟩
    · rw [e]; rfl
    · rw [e]
      have : d ≠ k.d := fun e' => hk k.d (by rw [← hd]) (e' ▸ h2)
      simp [bget, this]
  · simp only [Patch.app, hq.hp, Option.getD_none]
theorem BesP.evk (hq : BesP q qq ow) {dp : Nat} {y : AV} {lv : Bool} (h : lv = true → ownO dp ow y = false) : evKey dp (qq.app s) y lv = evKey dp s y lv := by
  cases lv with
  | false => cases y <;> rfl
  | true =>
    have h := h rfl
    cases y <;> first | rfl | skip
    rename_i k off
    simp only [evKey, if_true]
    rw [hq.box fun d e hd => by subst e; simp [ownO, hd] at h]
theorem BesP.hid (hq : BesP q qq ow) (hb : Beside p q f args sl dl ow) (dp : Nat) : hidK dp (qq.app s) sl dl ow = hidK dp s sl dl ow := by
  funext k
  unfold hidK
  have h1 : (sl.any fun n => evKey dp (qq.app s) (fget (qq.app s).fr n) false == some k) = (sl.any fun n => evKey dp s (fget s.fr n) false == some k) := by
    rw [Bool.eq_iff_iff, List.any_eq_true, List.any_eq_true]
    constructor
    · rintro ⟨n, hn, h⟩; exact ⟨n, hn, by rwa [hq.fgt hb (.inr (.inl hn)), hq.evk (fun h => by cases h)] at h⟩
    · rintro ⟨n, hn, h⟩; exact ⟨n, hn, by rwa [hq.fgt hb (.inr (.inl hn)), hq.evk (fun h => by cases h)]⟩
  have h2 : (dl.any fun n => !ownO dp ow (fget (qq.app s).fr n) && evKey dp (qq.app s) (fget (qq.app s).fr n) true == some k) = (dl.any fun n => !ownO dp ow (fget s.fr n) && evKey dp s (fget s.fr n) true == some k) := by
    rw [Bool.eq_iff_iff, List.any_eq_true, List.any_eq_true]
    simp only [Bool.and_eq_true, Bool.not_eq_true']
    constructor
    · rintro ⟨n, hn, h0, h⟩
      rw [hq.fgt hb (.inr (.inr hn))] at h0 h
      exact ⟨n, hn, h0, by rwa [hq.evk (fun _ => h0)] at h⟩
    · rintro ⟨n, hn, h0, h⟩
      rw [← hq.fgt (s := s) hb (.inr (.inr hn))] at h0 h
      exact ⟨n, hn, h0, by rwa [hq.evk (fun _ => h0)]⟩
  rw [h1, h2]
theorem hidK_ow {dp : Nat} {d : Nat} (h : d ∈ ow) : hidK dp s sl dl ow ⟨dp, d⟩ = true := by
  simp [hidK, h]
theorem BesP.shw (hq : BesP q qq ow) (hb : Beside p q f args sl dl ow) (dp : Nat) : shwH dp (qq.app s) sl dl ow = shwH dp s sl dl ow := by
  funext k
  unfold shwH
  rw [hq.hid hb]
  split
  · rfl
  · rename_i hn
    exact hq.box fun d e hd => hn (by rw [e]; exact hidK_ow hd)
theorem BesP.mrg (hq : BesP q qq ow) (hb : Beside p q f args sl dl ow) {dp : Nat} {hp' : HP} {k : Key} (hk : ∀ d, k = ⟨dp, d⟩ → d ∉ ow) : mrgH dp (qq.app s) sl dl ow hp' k = mrgH dp s sl dl ow hp' k := by
  unfold mrgH
  rw [hq.hid hb, hq.box hk]
theorem mrgO {dp : Nat} {hp' : HP} {d : Nat} (h : d ∈ ow) : mrgH dp s sl dl ow hp' ⟨dp, d⟩ = bget s.bx d := by
  unfold mrgH
  rw [if_pos (hidK_ow h)]
  simp [St.box]
theorem app_bx (hq : BesP q qq ow) : (qq.app s).bx = qq.nb ++ s.bx := by simp only [Patch.app, hq.wb, bsets]
theorem BesP.bxO (hq : BesP q qq ow) {d : Nat} (h : d ∉ ow) : bget (qq.app s).bx d = bget s.bx d := by
  rw [app_bx hq]
  rcases hq.nb with e | ⟨d', zs, e, _, h2⟩
  · rw [e]; rfl
  · rw [e]
    have : d' ≠ d := fun e' => h (e' ▸ h2)
    simp [bget, this]
theorem BesP.bxI (hq : BesP q qq ow) {d : Nat} {cs : List AV} (h : bget (qq.app s).bx d = some cs) : bget s.bx d = some cs ∨ AV.pureL cs = true := by
  rw [app_bx hq] at h
  rcases hq.nb with e | ⟨d', zs, e, hz, _⟩
  · rw [e] at h; exact .inl h
  · rw [e] at h
    simp only [List.cons_append, List.nil_append, bget] at h
    split at h
    · obtain rfl := Option.some.inj h; exact .inr hz
    · exact .inl h
theorem SlIn.app (h : SlIn E.dp s sl dl ow) (hq : BesP q qq ow) (hb : Beside p q f args sl dl ow) : SlIn E.dp (qq.app s) sl dl ow :=
  ⟨fun m hm => by rw [hq.fgt hb (.inr (.inl hm)), hq.evk (fun h => by cases h)]; exact h.sl m hm,
    fun m hm => by
      have h1 := h.dl m hm
      rw [hq.fgt hb (.inr (.inr hm)), hq.evk (fun _ => h1.1)]; exact h1⟩
theorem SlIn.unapp (h : SlIn E.dp (qq.app s) sl dl ow) (hq : BesP q qq ow) (hb : Beside p q f args sl dl ow) : SlIn E.dp s sl dl ow :=
  ⟨fun m hm => by
      have h1 := h.sl m hm
      rwa [hq.fgt hb (.inr (.inl hm)), hq.evk (fun h => by cases h)] at h1,
    fun m hm => by
      have h1 := h.dl m hm
      rw [hq.fgt hb (.inr (.inr hm))] at h1
      rwa [hq.evk (fun _ => h1.1)] at h1⟩
/-- what the call does is what it does behind the other one. -/
theorem BesP.call (hq : BesP q qq ow) (hb : Beside p q f args sl dl ow) (hpl : ∀ y ∈ qq.fr, borH (hidK E.dp s sl dl ow) y.2 = false) {vals : List AV} {x : AV} {hp' : HP} (h : CallH R E s f vals sl dl ow x hp') : CallH R E (qq.app s) f vals sl dl ow x hp' := by
  refine ⟨h.ro, h.copy, fun d cs hd => ?_, fun y hy => ?_, h.pt.app hq hb, by rw [hq.shw hb]; exact h.run, h.pure, fun d cs hd => ?_⟩
  · rcases hq.bxI hd with h1 | h1
    · exact h.deep d cs h1
    · exact pureL_deepL _ h1
  · rw [hq.hid hb]
    rcases List.mem_append.1 (show y ∈ qq.fr ++ s.fr from hy) with h1 | h1
    · exact hpl y h1
    · exact h.nb y h1
  · by_cases ho : d ∈ ow
    · exact .inl ho
    · refine h.post d cs ?_
      simp only [St.backH, bget_backB', hq.bxO ho] at hd ⊢
      rwa [hq.mrg hb fun d' e => by injection e with _ e; subst e; exact ho] at hd
theorem BesP.uncall (hq : BesP q qq ow) (hb : Beside p q f args sl dl ow) {vals : List AV} {x : AV} {hp' : HP} (hno : ∀ d ∈ lks qq.nb, bget s.bx d = none) (h : CallH R E (qq.app s) f vals sl dl ow x hp') : CallH R E s f vals sl dl ow x hp' := by
  refine ⟨h.ro, h.copy, fun d cs hd => ?_, fun y hy => ?_, h.pt.unapp hq hb, by rw [← hq.shw hb]; exact h.run, h.pure, fun d cs hd => ?_⟩
  · refine h.deep d cs ?_
    rw [app_bx hq, bget_append, if_neg fun hm => ?_]
    · exact hd
    · rw [hno d hm] at hd; cases hd
  · rw [← hq.hid hb]
    exact h.nb y (show y ∈ qq.fr ++ s.fr from List.mem_append_right _ hy)
  · by_cases ho : d ∈ ow
    · exact .inl ho
    · refine h.post d cs ?_
      simp only [St.backH, bget_backB', hq.bxO ho] at hd ⊢
      rwa [hq.mrg hb fun d' e => by injection e with _ e; subst e; exact ho]
/-- what comes of both is the same. -/
theorem BesP.comm (hq : BesP q qq ow) (hb : Beside p q f args sl dl ow) {x : AV} {hp' : HP} : Se (qq.app (put (s.backH E.dp (mrgH E.dp s sl dl ow hp')) p.p.d x)) (put ((qq.app s).backH E.dp (mrgH E.dp (qq.app s) sl dl ow hp')) p.p.d x) := by
  have hbx : ∀ d, bget (qq.nb ++ bsets (s.backH E.dp (mrgH E.dp s sl dl ow hp')).bx qq.wb) d = bget ((qq.app s).backH E.dp (mrgH E.dp (qq.app s) sl dl ow hp')).bx d := by
    intro d
    simp only [St.backH, app_bx hq, hq.wb, bsets, bget_append, bget_backB']
    by_cases hd : d ∈ lks qq.nb
    · rw [if_pos hd, if_pos hd]
      rcases hq.nb with e | ⟨d', zs, e, _, ho⟩
      · rw [e] at hd; simp [lks] at hd
      · rw [e] at hd ⊢
        simp only [lks, List.map_cons, List.map_nil, List.mem_singleton] at hd
        subst hd
        rw [mrgO (s := qq.app s) ho, app_bx hq, e]
        simp [bget]
    · rw [if_neg hd, if_neg hd]
      by_cases ho : d ∈ ow
      · rw [mrgO (s := qq.app s) ho, mrgO (s := s) ho, app_bx hq, bget_append, if_neg hd]
      · rw [hq.mrg hb fun d' e => by injection e with _ e; subst e; exact ho]
  have hhp : (s.backH E.dp (mrgH E.dp s sl dl ow hp')).hp = ((qq.app s).backH E.dp (mrgH E.dp (qq.app s) sl dl ow hp')).hp := by
    simp only [St.backH]
    funext k
    split
    · rename_i hlt
      rw [hq.mrg hb fun d e => by subst e; exact absurd hlt (Nat.lt_irrefl _)]
    · rfl
  cases hd : p.p.d with
  | none =>
    refine ⟨fun n => rfl, hbx, ?_, fun y => Iff.rfl⟩
    show qq.hp.getD _ = _
    rw [hq.hp]; exact hhp
  | some dd =>
    have hdd : dd ∉ lks qq.fr := fun hm => (hb.ds dd hd).1 (hq.fr dd hm)
    refine ⟨fun n => ?_, hbx, ?_, fun y => ?_⟩
    · show fget (qq.fr ++ (dd, x) :: s.fr) n = fget ((dd, x) :: (qq.fr ++ s.fr)) n
      simp only [fget_append, fget]
      by_cases hn : dd = n
      · subst hn; simp [hdd]
      · simp only [if_neg hn]
    · show qq.hp.getD _ = _
      rw [hq.hp]; exact hhp
    · show y ∈ qq.fr ++ (dd, x) :: s.fr ↔ y ∈ (dd, x) :: (qq.fr ++ s.fr)
      simp only [List.mem_append, List.mem_cons]
      constructor
      · rintro (h | h | h)
        · exact .inr (.inl h)
        · exact .inl h
        · exact .inr (.inr h)
      · rintro (h | h | h)
        · exact .inr (.inl h)
        · exact .inl h
        · exact .inr (.inr h)
/-- the other one sees the same behind the call. -/
theorem Beside.sees (hb : Beside p q f args sl dl ow) {x : AV} {hp' : HP} (hnb : ∀ y ∈ s.fr, borH (hidK E.dp s sl dl ow) y.2 = false) (hpt : SlIn E.dp s sl dl ow) :
    patchL R Ω E q (put (s.backH E.dp (mrgH E.dp s sl dl ow hp')) p.p.d x) = patchL R Ω E q s := by
  have hkf : keepF (put (s.backH E.dp (mrgH E.dp s sl dl ow hp')) p.p.d x).fr q.vw = keepF s.fr q.vw := by
    apply keepF_congr
    intro n hn
    cases hd : p.p.d with
    | none => rfl
    | some dd =>
      have : dd ≠ n := fun e => (hb.ds dd hd).2 (e ▸ hn)
      simp only [put, St.fset, fget, if_neg this]
      rfl
  have hbx2 : (put (s.backH E.dp (mrgH E.dp s sl dl ow hp')) p.p.d x).bx = (s.backH E.dp (mrgH E.dp s sl dl ow hp')).bx := by cases p.p.d <;> rfl
  have hp2 : (put (s.backH E.dp (mrgH E.dp s sl dl ow hp')) p.p.d x).hp = (s.backH E.dp (mrgH E.dp s sl dl ow hp')).hp := by cases p.p.d <;> rfl
  have hbo : ∀ d, hidK E.dp s sl dl ow ⟨E.dp, d⟩ = true → bget (put (s.backH E.dp (mrgH E.dp s sl dl ow hp')) p.p.d x).bx d = bget s.bx d := by
    intro d hd
    rw [hbx2]
    simp only [St.backH, bget_backB']
    have : mrgH E.dp s sl dl ow hp' ⟨E.dp, d⟩ = bget s.bx d := by
      unfold mrgH
      rw [if_pos hd]
      simp [St.box]
    rw [this]
    cases bget s.bx d <;> rfl
  have hvfr : (view q (put (s.backH E.dp (mrgH E.dp s sl dl ow hp')) p.p.d x)).fr = (view q s).fr := hkf
  -- boxes that are not shown
  have hvb : ∀ k, hidK E.dp s sl dl ow k = true → (view q (put (s.backH E.dp (mrgH E.dp s sl dl ow hp')) p.p.d x)).box E.dp k = (view q s).box E.dp k := by
    intro k hk
    obtain ⟨kd, ke⟩ := k
    by_cases hkd : kd = E.dp
    · subst hkd
      show (if E.dp = E.dp then bget (keepB _ q.vb) ke else _) = (if E.dp = E.dp then bget (keepB _ q.vb) ke else _)
      rw [if_pos rfl, if_pos rfl]
      have : ∀ ks, bget (keepB (put (s.backH E.dp (mrgH E.dp s sl dl ow hp')) p.p.d x).bx ks) ke = bget (keepB s.bx ks) ke := by
        intro ks
        by_cases hm : ke ∈ ks
        · rw [bget_kept _ _ _ hm, bget_kept _ _ _ hm, hbo ke hk]
        · have h1 : ∀ bx : List (Nat × List AV), bget (keepB bx ks) ke = none := fun bx => bget_none fun h => hm (lks_keepB bx ks h)
          rw [h1, h1]
      exact this q.vb
    · have hlt : kd < E.dp := by have : (⟨kd, ke⟩ : Key).dp ≤ E.dp := hpt.dp hk; simp only at this; omega
      show (if kd = E.dp then _ else (view q (put (s.backH E.dp (mrgH E.dp s sl dl ow hp')) p.p.d x)).hp ⟨kd, ke⟩) = (if kd = E.dp then _ else (view q s).hp ⟨kd, ke⟩)
      rw [if_neg hkd, if_neg hkd]
      simp only [view]
      split
      · rw [hp2]
        simp only [St.backH]
        rw [if_pos hlt]
        unfold mrgH
        rw [if_pos hk]
        simp [St.box, hkd]
      · rfl
  have hkey : (alOK ow q = true ∨ (isAl q.p.o = false ∧ q.vb = [] ∧ q.vh = false)) ∨ ∃ g : Option AV, (execOp R Ω E (view q s) q.p.d q.p.o = g.map fun y => (y, view q s)) ∧ (execOp R Ω E (view q (put (s.backH E.dp (mrgH E.dp s sl dl ow hp')) p.p.d x)) q.p.d q.p.o = g.map fun y => (y, view q (put (s.backH E.dp (mrgH E.dp s sl dl ow hp')) p.p.d x))) ∧ isAl q.p.o = false ∧ (∀ v, lightOk v q.p.o = true) ∧ ∀ v, lightSt E.dp q v = true := by
    rcases hb.kd with h | h | h | h
    · exact .inl (.inl h)
    · right
      obtain ⟨n, m, b, lv, ho, hsl, hdl⟩ := lk_ok h
      have e1 : ∀ n, (view q (put (s.backH E.dp (mrgH E.dp s sl dl ow hp')) p.p.d x)).ev (.t n) = (view q s).ev (.t n) := fun n => by show fget _ n = fget _ n; rw [hvfr]
      have e2 : evKey E.dp (view q (put (s.backH E.dp (mrgH E.dp s sl dl ow hp')) p.p.d x)) ((view q s).ev (.t b)) lv = evKey E.dp (view q s) ((view q s).ev (.t b)) lv := by
        cases lv with
        | false => unfold evKey; cases (view q s).ev (.t b) <;> rfl
        | true =>
          cases hy : (view q s).ev (.t b) <;> first | rfl | skip
          rename_i k' off'
          have hk' : hidK E.dp s sl dl ow k' = true := lk_hid (q := q) (lv := false) hpt hsl (fun h => by cases h) (by
            show evKey E.dp (view q s) ((view q s).ev (.t b)) false = some k'
            rw [hy]; rfl)
          simp only [evKey, if_true, hvb k' hk']
      have e3 : isAl q.p.o = false ∧ (∀ v, lightOk v q.p.o = true) ∧ ∀ v, lightSt E.dp q v = true := ⟨by rw [ho]; rfl, fun v => by rw [ho]; rfl, fun v => by unfold lightSt; rw [ho]⟩
      by_cases hA : ∃ k off, (view q s).ev (.t m) = .p k off ∧ evKey E.dp (view q s) ((view q s).ev (.t b)) lv = some k
      · obtain ⟨k, off, hA, hev⟩ := hA
        have hk := lk_hid (q := q) hpt hsl hdl hev
        refine ⟨((view q s).box E.dp k).bind fun cs => (pick n off cs).bind fun y => match y with
          | .o _ _ => some (.r (.c k off))
          | y => if y.copy then some y else none, ?_, ?_, e3⟩
        · rw [ho]
          simp only [execOp, hA, if_pos hev]
          cases (view q s).box E.dp k with
          | none => rfl
          | some cs =>
            simp only [Option.bind_some]
            cases pick n off cs with
            | none => rfl
            | some y =>
              simp only [Option.bind_some]
              cases y <;> simp only [] <;> first | rfl | (split <;> rfl)
        · rw [ho]
          simp only [execOp, e1, hA, e2, if_pos hev, hvb k hk]
          cases (view q s).box E.dp k with
          | none => rfl
          | some cs =>
            simp only [Option.bind_some]
            cases pick n off cs with
            | none => rfl
            | some y =>
              simp only [Option.bind_some]
              cases y <;> simp only [] <;> first | rfl | (split <;> rfl)
      · refine ⟨none, ?_, ?_, e3⟩
        · rw [ho]
          simp only [execOp]
          split
          · rename_i k off hx
            rw [if_neg fun hev => hA ⟨k, off, hx, hev⟩]; rfl
          · rfl
        · rw [ho]
          simp only [execOp, e1, e2]
          split
          · rename_i k off hx
            rw [if_neg fun hev => hA ⟨k, off, hx, hev⟩]; rfl
          · rfl
    · right
      obtain ⟨m, ho⟩ := ln_ok h
      have e1 : (view q (put (s.backH E.dp (mrgH E.dp s sl dl ow hp')) p.p.d x)).ev (.t m) = (view q s).ev (.t m) := by show fget _ m = fget _ m; rw [hvfr]
      have hrow : ∀ pl, borH (hidK E.dp s sl dl ow) (.r pl) = false → (view q (put (s.backH E.dp (mrgH E.dp s sl dl ow hp')) p.p.d x)).rowAt E.dp pl = (view q s).rowAt E.dp pl := by
        intro pl hpl
        cases pl with
        | s d' => simp only [St.rowAt, hvfr]
        | c k off =>
          have hk : hidK E.dp s sl dl ow k = true := by simpa [borH] using hpl
          simp only [St.rowAt, hvb k hk]
      have hbv : borH (hidK E.dp s sl dl ow) ((view q s).ev (.t m)) = false := by
        show borH _ (fget (view q s).fr m) = false
        rcases view_fr q s m with e | e
        · rw [e]; rfl
        · rw [e]
          by_cases hu : fget s.fr m = .u
          · rw [hu]; rfl
          · obtain ⟨y, hy, e'⟩ := mem_fget hu
            rw [← e']; exact hnb y hy
      have hel : (view q (put (s.backH E.dp (mrgH E.dp s sl dl ow hp')) p.p.d x)).elems E.dp ((view q s).ev (.t m)) = (view q s).elems E.dp ((view q s).ev (.t m)) := by
        cases hy : (view q s).ev (.t m) with
        | r pl => rw [hy] at hbv; exact hrow pl hbv
        | v pl lo len =>
          rw [hy] at hbv
          have : borH (hidK E.dp s sl dl ow) (.r pl) = false := by cases pl <;> exact hbv
          simp only [St.elems, hrow pl this]
        | _ => rfl
      refine ⟨(match (view q s).ev (.t m) with
        | .s _ => none
        | .sp _ _ n _ => some (.i .i64 n)
        | y => ((view q s).elems E.dp y).bind fun r => some (.i .i64 r.2.length)), ?_, ?_, by rw [ho]; rfl, fun v => by rw [ho]; rfl, fun v => by unfold lightSt; rw [ho]⟩
      · rw [ho]
        simp only [execOp]
        cases (view q s).ev (.t m) <;> simp only [] <;> first | rfl | (simp only [Bool.false_eq_true, if_false]; cases (view q s).elems E.dp _ <;> rfl)
      · rw [ho]
        simp only [execOp, e1]
        cases hy : (view q s).ev (.t m) <;> rw [hy] at hel <;> simp only [] <;> first | rfl | (simp only [Bool.false_eq_true, if_false, hel]; cases (view q s).elems E.dp _ <;> rfl)
    · exact .inl (.inr h)
  rcases hkey with h | ⟨g, h1, h2, h3, h4, h5⟩
  · refine Sees.patch ⟨fun d hd => ?_, fun d hd => ?_, fun hv => ?_⟩
    · have hd' : d ∈ q.vw := by
        have h2 := hd
        unfold rdS gsl at h2
        rw [hb.qg] at h2
        simpa using h2
      have := congrArg (fun l => fget l d) hkf
      simpa only [fget_kept _ _ _ hd'] using this
    · rcases h with h | h
      · obtain ⟨zs, dd, _, _, _, hdo, hvb', _⟩ := al_ok h
        rw [hvb'] at hd
        obtain rfl : d = dd := by simpa using hd
        exact hbo d (hidK_ow hdo)
      · rw [h.2.1] at hd; cases hd
    · rcases h with h | h
      · obtain ⟨_, _, _, _, _, _, _, hvh⟩ := al_ok h
        rw [hvh] at hv; cases hv
      · rw [h.2.2] at hv; cases hv
  · unfold patchL coreL
    rw [hb.qg]
    simp only [h1, h2, h4, h5]
    cases g with
    | none => rfl
    | some y => simp only [Option.map_some, Option.bind_some, effect_nw hb.nw h3]
end
/-- two operations that have nothing to do with each other. -/
def free2 (gs : List DOp) (i j : Nat) : Prop := ∃ p q, gs[i]? = some p ∧ gs[j]? = some q ∧ ((p.lt = true ∧ q.lt = true ∧ commD p q = true) ∨ besideD p q = true ∨ besideD q p = true)
theorem Goes.swap {i j : Nat} {π : List Nat} {s t : St} (hf : free2 gs i j) (h : Goes R Ω E gs (i :: j :: π) s t) : Goes R Ω E gs (j :: i :: π) s t := by
  obtain ⟨p, q, hp, hq, hcase⟩ := hf
  obtain ⟨p', s1, s2, h1, h2, h3, q', s3, s4, h4, h5, h6, h7⟩ := h
  obtain rfl : p = p' := by rw [hp] at h1; exact Option.some.inj h1
  obtain rfl : q = q' := by rw [hq] at h4; exact Option.some.inj h4
  rcases hcase with ⟨hpl, hql, hc⟩ | hc | hc
  rotate_left
  · -- the call stands first in the text
    obtain ⟨f, args, sl, vs, ow, hb⟩ := beside_of hc
    simp only [execD1, hb.pl, Bool.false_eq_true, if_false, execG, hb.pg, hb.o, execOp] at h3
    obtain ⟨⟨x, s2'⟩, hcall, he⟩ := Option.bind_eq_some_iff.1 h3
    obtain rfl := Option.some.inj he
    simp only [execD1, if_pos hb.ql] at h6
    obtain ⟨qq, hqq, he'⟩ := Option.bind_eq_some_iff.1 h6
    obtain rfl := Option.some.inj he'
    have hP := hb.patch hqq
    obtain ⟨hp', hC, e2⟩ := callH_inv hcall
    simp only at e2 hC
    subst e2
    have hqq1 : patchL R Ω E q s1 = some qq := by
      rw [← hb.sees (x := frz p.p.fz x) (hp' := hp') hC.nb hC.pt, (Se.sees h5).patch]; exact hqq
    have hev := opdS_ev (s := s1) (s' := qq.app s1) (xs := args) fun n hn => hP.fgt hb (.inl hn)
    have hcall' := (hP.call hb (hb.plain hC.pt hqq1) hC).mk'
    rw [← hev] at hcall'
    refine ⟨q, s1, qq.app s1, hq, h2, by simp only [execD1, if_pos hb.ql, hqq1, Option.bind_some], p, qq.app s1, _, hp, Se.refl _, by simp only [execD1, hb.pl, Bool.false_eq_true, if_false, execG, hb.pg, hb.o, execOp, hcall', Option.bind_some]; rfl, ?_⟩
    exact h7.se (Se.trans (hP.comm hb).symm (h5.app qq))
  · -- the call stands last in the text
    obtain ⟨f, args, sl, vs, ow, hb⟩ := beside_of hc
    simp only [execD1, if_pos hb.ql] at h3
    obtain ⟨qq, hqq, he'⟩ := Option.bind_eq_some_iff.1 h3
    obtain rfl := Option.some.inj he'
    simp only [execD1, hb.pl, Bool.false_eq_true, if_false, execG, hb.pg, hb.o, execOp] at h6
    obtain ⟨⟨x, s4'⟩, hcall, he⟩ := Option.bind_eq_some_iff.1 h6
    obtain rfl := Option.some.inj he
    have hP := hb.patch hqq
    obtain ⟨hp', hC, e2⟩ := callH_inv hcall
    simp only at e2 hC
    subst e2
    have hev := opdS_ev (s := s1) (s' := qq.app s1) (xs := args) fun n hn => hP.fgt hb (.inl hn)
    have hC1 := hC.se h5.symm
    rw [← h5.ev, hev] at hC1
    have hC2 := hP.uncall hb (hb.nobox hqq) hC1
    have hcall' := hC2.mk'
    have hqq1 : patchL R Ω E p (put (s1.backH E.dp (mrgH E.dp s1 sl vs ow hp')) q.p.d (frz q.p.fz x)) = some qq := by
      rw [hb.sees hC2.nb hC2.pt]; exact hqq
    refine ⟨q, s1, _, hq, h2, by simp only [execD1, hb.pl, Bool.false_eq_true, if_false, execG, hb.pg, hb.o, execOp, hcall', Option.bind_some]; rfl, p, _, _, hp, Se.refl _, by simp only [execD1, if_pos hb.ql, hqq1, Option.bind_some]; rfl, ?_⟩
    refine h7.se (Se.trans (hP.comm hb) ?_)
    refine Se.put ?_ _ _
    rw [← h5.mrg]
    exact h5.backH _ _
  simp only [execD1, if_pos hpl] at h3
  simp only [execD1, if_pos hql] at h6
  obtain ⟨pp, hpp, he⟩ := Option.bind_eq_some_iff.1 h3
  obtain rfl := Option.some.inj he
  obtain ⟨qq, hqq, he'⟩ := Option.bind_eq_some_iff.1 h6
  obtain rfl := Option.some.inj he'
  have hc' : commD q p = true := by
    simp only [commD, Bool.and_eq_true, Bool.not_eq_true'] at hc ⊢
    obtain ⟨⟨⟨⟨⟨⟨c1, c2⟩, c3⟩, c4⟩, c5⟩, c6⟩, c7⟩ := hc
    have hsym : ∀ l m, disj l m = true → disj m l = true := fun l m h => by
      unfold disj
      rw [List.all_eq_true]
      intro x hx
      have : x ∉ l := fun hl => disj_mem h hl hx
      simpa using this
    refine ⟨⟨⟨⟨⟨⟨c2, c1⟩, hsym _ _ c3⟩, c5⟩, c4⟩, hsym _ _ c6⟩, ?_⟩
    revert c7
    cases isWr p <;> cases isWr q <;> cases p.vh <;> cases q.vh <;> simp
  have sp := patch_small hpp
  have sq := patch_small hqq
  -- the second one, first
  have e1 : patchL R Ω E q s1 = some qq := by
    rw [← hqq]
    exact ((sees_app sp hc).patch.symm.trans (Se.sees h5).patch)
  have e2 : patchL R Ω E p (qq.app s1) = some pp := by
    rw [← hpp]
    exact (sees_app sq hc').patch
  refine ⟨q, s1, qq.app s1, hq, h2, by simp only [execD1, if_pos hql, e1, Option.bind_some], p, qq.app s1, pp.app (qq.app s1), hp, Se.refl _, by simp only [execD1, if_pos hpl, e2, Option.bind_some], ?_⟩
  exact h7.se ((app_comm (apart_of sp sq hc) s1).trans (h5.app qq))
theorem Goes.front {i : Nat} {B : List Nat} {t : St} : ∀ (A : List Nat) (s : St), (∀ a ∈ A, free2 gs a i) → Goes R Ω E gs (A ++ i :: B) s t → Goes R Ω E gs (i :: (A ++ B)) s t
  | [], _, _, h => h
  | a :: A, s, hf, h => by
    obtain ⟨p, s1, s2, h1, h2, h3, h4⟩ := h
    exact Goes.swap (hf a (by simp)) ⟨p, s1, s2, h1, h2, h3, Goes.front A s2 (fun b hb => hf b (by simp [hb])) h4⟩
end
end Go.Proofs.Ytmfihcbafljcbaa.A
