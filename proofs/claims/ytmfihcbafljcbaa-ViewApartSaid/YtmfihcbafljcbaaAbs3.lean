/- The abstract run without a bound on its length, and how it goes on: one equation for each command. -/
import Derived.Test.YtmfihcbafljcbaaAbs2
set_option linter.unusedSectionVars false
set_option linter.unusedVariables false
set_option linter.unusedSimpArgs false
set_option linter.constructorNameAsVariable false
namespace Go.Proofs.Ytmfihcbafljcbaa.A
open Go

def LeO {α : Type} (x y : Option α) : Prop := ∀ r, x = some r → y = some r
theorem LeO.refl {α : Type} (x : Option α) : LeO x x := fun _ h => h
theorem LeO.bind {α β : Type} {x y : Option α} {f g : α → Option β} (h : LeO x y) (hf : ∀ a, LeO (f a) (g a)) : LeO (x.bind f) (y.bind g) := by
  intro r hr
  obtain ⟨a, ha, hfa⟩ := Option.bind_eq_some_iff.1 hr
  exact Option.bind_eq_some_iff.2 ⟨a, h a ha, hf a r hfa⟩
theorem LeO.ite {α : Type} {c : Prop} [Decidable c] {x y x' y' : Option α} (h : LeO x x') (h' : LeO y y') : LeO (if c then x else y) (if c then x' else y') := by
  split
  · exact h
  · exact h'
def LeR (R R' : Rec) : Prop := ∀ E f args hp, LeO (R E f args hp) (R' E f args hp)
abbrev Run := Env → AC → St → Option (AExit × St)
def LeX (X X' : Run) : Prop := ∀ E c st, LeO (X E c st) (X' E c st)

theorem callF_mono {G : Prg} {X X' : Run} (h : LeX X X') : LeR (callF G X) (callF G X') := fun _ _ _ _ =>
  LeO.bind (LeO.refl _) fun _ => LeO.bind (h _ _ _) fun _ => LeO.refl _
theorem doCall_mono {R R' : Rec} (h : LeR R R') {Ω : Orc} {E : Env} {st : St} {m : Nat} {f : FuncId} {args : List AV} :
    LeO (doCall R Ω E st m f args) (doCall R' Ω E st m f args) := by
  unfold doCall
  split
  · exact LeO.bind (LeO.refl _) fun _ => LeO.bind (h _ _ _ _) fun _ => LeO.refl _
  · exact LeO.refl _
  · exact LeO.refl _
theorem doCall2_mono {R R' : Rec} (h : LeR R R') {Ω : Orc} {E : Env} {st : St} {f : FuncId} {args : List AV} : LeO (doCall2 R Ω E st f args) (doCall2 R' Ω E st f args) :=
  LeO.ite (doCall_mono h) <| LeO.ite (LeO.bind (h _ _ _ _) fun _ => LeO.refl _) (LeO.refl _)
theorem doCall3_mono {R R' : Rec} (h : LeR R R') {E : Env} {st : St} {f : FuncId} {args : List AV} : LeO (doCall3 R E st f args) (doCall3 R' E st f args) :=
  LeO.ite (LeO.bind (h _ _ _ _) fun _ => LeO.refl _) (LeO.refl _)
theorem doCallN_mono {R R' : Rec} (h : LeR R R') {E : Env} {st : St} {d : Nat} {f : FuncId} {args : List AV} : LeO (doCallN R E st d f args) (doCallN R' E st d f args) :=
  LeO.ite (LeO.bind (h _ _ _ _) fun _ => LeO.refl _) (LeO.refl _)
theorem execOp_mono {R R' : Rec} (h : LeR R R') {Ω : Orc} {E : Env} {st : St} {d : Option Nat} (o : AOp) :
    LeO (execOp R Ω E st d o) (execOp R' Ω E st d o) := by
  cases o with
  | ca m f args => exact doCall_mono h
  | cf m x args =>
    simp only [execOp]
    split
    · exact doCall_mono h
    · exact LeO.refl _
  | c2 f args => exact doCall2_mono h
  | d2 x args =>
    simp only [execOp]
    split
    · exact doCall2_mono h
    · exact LeO.refl _
  | cn f args => exact LeO.bind (LeO.refl _) fun _ => doCallN_mono h
  | vi g f args =>
    refine LeO.bind (LeO.refl _) fun z => ?_
    split
    · exact LeO.ite (LeO.bind (h _ _ _ _) fun _ => LeO.refl _) (LeO.refl _)
    · exact LeO.refl _
  | cw t f args => exact LeO.bind (LeO.refl _) fun _ => LeO.ite (LeO.bind (LeO.refl _) fun _ => LeO.bind (h _ _ _ _) fun _ => LeO.refl _) (LeO.refl _)
  | ch f args sl dl ow => exact LeO.ite (LeO.bind (h _ _ _ _) fun _ => LeO.refl _) (LeO.refl _)
  | c3 f args => exact doCall3_mono h
  | d3 x args =>
    simp only [execOp]
    split
    · exact doCall3_mono h
    · exact LeO.refl _
  | _ => exact LeO.refl _
theorem execG_mono {R R' : Rec} (h : LeR R R') {Ω : Orc} {E : Env} {st : St} {g : GOp} : LeO (execG R Ω E st g) (execG R' Ω E st g) := by
  unfold execG
  split
  · exact LeO.bind (execOp_mono h _) fun _ => LeO.refl _
  · exact LeO.bind (LeO.refl _) fun _ => LeO.ite (LeO.bind (execOp_mono h _) fun _ => LeO.refl _) (LeO.refl _)
theorem execOps_mono {R R' : Rec} (h : LeR R R') {Ω : Orc} {E : Env} : ∀ (gs : List GOp) (st : St), LeO (execOps R Ω E st gs) (execOps R' Ω E st gs)
  | [], _ => LeO.refl _
  | _ :: gs, _ => LeO.bind (execG_mono h) fun _ => execOps_mono h gs _
theorem coreL_mono {R R' : Rec} (h : LeR R R') {Ω : Orc} {E : Env} {p : DOp} {v : St} : LeO (coreL R Ω E p v) (coreL R' Ω E p v) :=
  LeO.ite (LeO.bind (execOp_mono h _) fun _ => LeO.refl _) (LeO.refl _)
theorem execD1_mono {R R' : Rec} (h : LeR R R') {Ω : Orc} {E : Env} {st : St} {p : DOp} : LeO (execD1 R Ω E st p) (execD1 R' Ω E st p) := by
  unfold execD1
  refine LeO.ite (LeO.bind ?_ fun _ => LeO.refl _) (execG_mono h)
  unfold patchL
  split
  · exact coreL_mono h
  · exact LeO.bind (LeO.refl _) fun _ => LeO.ite (coreL_mono h) (LeO.refl _)
theorem execD_mono {R R' : Rec} (h : LeR R R') {Ω : Orc} {E : Env} : ∀ (gs : List DOp) (st : St), LeO (execD R Ω E st gs) (execD R' Ω E st gs)
  | [], _ => LeO.refl _
  | _ :: gs, _ => LeO.bind (execD1_mono h) fun _ => execD_mono h gs _
theorem goOn_mono {k k' : St → Option (AExit × St)} (h : ∀ st, LeO (k st) (k' st)) (r : AExit × St) : LeO (goOn k r) (goOn k' r) := by
  unfold goOn
  split
  · exact h _
  · exact LeO.refl _

section
variable {G : Prg} {Ω : Orc}
theorem rounds_mono {dp : Nat} {X X' : AC → St → Option (AExit × St)} (h : ∀ c st, LeO (X c st) (X' c st)) {x : Nat} {y b : AC} : ∀ (ns : List Int) (st : St), LeO (rounds dp X x y b ns st) (rounds dp X' x y b ns st)
  | [], _ => LeO.refl _
  | n :: ns, st => by
    unfold rounds
    refine LeO.ite (LeO.bind (h _ _) fun q => ?_) (LeO.refl _)
    split
    · refine LeO.bind (h _ _) fun r => ?_
      split
      · exact rounds_mono h ns _
      · exact LeO.refl _
    · exact LeO.refl _
theorem exec_step : ∀ n, LeX (exec G Ω n) (exec G Ω (n + 1))
  | 0, _, _, _ => fun r hr => by simp [exec] at hr
  | n + 1, E, c, st => by
    have ih := exec_step n
    cases c with
    | sk => exact LeO.refl _
    | ex id => exact LeO.refl _
    | rt => exact LeO.refl _
    | rg pre ops kf kb => exact LeO.bind (LeO.refl _) fun _ => LeO.bind (execOps_mono (callF_mono ih) _ _) fun _ => LeO.refl _
    | dg pre mks ops kf kb => exact LeO.bind (LeO.refl _) fun _ => LeO.ite (LeO.bind (execD_mono (callF_mono ih) _ _) fun _ => LeO.refl _) (LeO.refl _)
    | sq x y => exact LeO.bind (ih _ _ _) fun _ => goOn_mono (fun _ => ih _ _ _) _
    | ite c x y => exact LeO.bind (LeO.refl _) fun _ => LeO.ite (ih _ _ _) (ih _ _ _)
    | bl id x => exact LeO.bind (ih _ _ _) fun _ => LeO.refl _
    | lp x => exact LeO.bind (ih _ _ _) fun _ => goOn_mono (fun _ => ih _ _ _) _
    | kp kf kb x => exact ih _ _ _
    | bad => exact LeO.refl _
    | ru g x y b => exact LeO.ite (LeO.refl _) (LeO.bind (LeO.refl _) fun ns => rounds_mono (fun c st => ih _ c st) ns st)
theorem exec_le {n m : Nat} (h : n ≤ m) : LeX (exec G Ω n) (exec G Ω m) := by
  induction h with
  | refl => exact fun _ _ _ _ h => h
  | step _ ih => exact fun E c st r hr => exec_step _ E c st r (ih E c st r hr)

/-- the run, however long it is. -/
noncomputable def run (G : Prg) (Ω : Orc) : Run := fun E c st =>
  open Classical in if h : ∃ n, (exec G Ω n E c st).isSome = true then exec G Ω (Classical.choose h) E c st else none
theorem run_some {E : Env} {c : AC} {st : St} {r : AExit × St} : run G Ω E c st = some r ↔ ∃ n, exec G Ω n E c st = some r := by
  constructor
  · intro h
    unfold run at h
    split at h
    · exact ⟨_, h⟩
    · cases h
  · rintro ⟨n, h⟩
    have hex : ∃ n, (exec G Ω n E c st).isSome = true := ⟨n, by rw [h]; rfl⟩
    unfold run
    rw [dif_pos hex]
    have hc := Classical.choose_spec hex
    obtain ⟨r', hr'⟩ := Option.isSome_iff_exists.1 hc
    rw [hr']
    have h1 := exec_le (Nat.le_max_left n (Classical.choose hex)) E c st r h
    have h2 := exec_le (Nat.le_max_right n (Classical.choose hex)) E c st r' hr'
    rw [h1] at h2
    exact h2.symm
theorem run_ge (n : Nat) : LeX (exec G Ω n) (run G Ω) := fun _ _ _ _ h => run_some.2 ⟨n, h⟩

/-- what a call comes to. -/
noncomputable def call (G : Prg) (Ω : Orc) : Rec := callF G (run G Ω)

/-- what comes of a part that is not bounded comes of it at some bound. -/
def Fin {α : Type} (x : Option α) (y : Nat → Option α) : Prop := ∀ r, x = some r → ∃ n, ∀ m, n ≤ m → y m = some r
theorem Fin.same {α : Type} (x : Option α) : Fin x fun _ => x := fun _ h => ⟨0, fun _ _ => h⟩
theorem Fin.bind {α β : Type} {x : Option α} {y : Nat → Option α} {f : α → Option β} {g : Nat → α → Option β} (h : Fin x y) (hf : ∀ a, Fin (f a) fun n => g n a) :
    Fin (x.bind f) fun n => (y n).bind (g n) := by
  intro r hr
  obtain ⟨a, ha, hfa⟩ := Option.bind_eq_some_iff.1 hr
  obtain ⟨n, hn⟩ := h a ha
  obtain ⟨m, hm⟩ := hf a r hfa
  exact ⟨max n m, fun k hk => Option.bind_eq_some_iff.2 ⟨a, hn k (by omega), hm k (by omega)⟩⟩
theorem Fin.ite {α : Type} {c : Prop} [Decidable c] {x x' : Option α} {y y' : Nat → Option α} (h : Fin x y) (h' : Fin x' y') : Fin (if c then x else x') fun n => if c then y n else y' n := by
  split
  · exact h
  · exact h'
theorem run_fin (E : Env) (c : AC) (st : St) : Fin (run G Ω E c st) fun n => exec G Ω n E c st := by
  intro r hr
  obtain ⟨n, hn⟩ := run_some.1 hr
  exact ⟨n, fun m hm => exec_le hm _ _ _ _ hn⟩
theorem call_fin (E : Env) (f : FuncId) (args : List AV) (hp : HP) : Fin (call G Ω E f args hp) fun n => callF G (exec G Ω n) E f args hp :=
  Fin.bind (Fin.same _) fun _ => Fin.bind (run_fin _ _ _) fun _ => Fin.same _
theorem doCall_fin (E : Env) (st : St) (m : Nat) (f : FuncId) (args : List AV) :
    Fin (doCall (call G Ω) Ω E st m f args) fun n => doCall (callF G (exec G Ω n)) Ω E st m f args := by
  unfold doCall
  split
  · exact Fin.bind (Fin.same _) fun _ => Fin.bind (call_fin _ _ _ _) fun _ => Fin.same _
  · exact Fin.same _
  · exact Fin.same _
theorem doCall2_fin (E : Env) (st : St) (f : FuncId) (args : List AV) : Fin (doCall2 (call G Ω) Ω E st f args) fun n => doCall2 (callF G (exec G Ω n)) Ω E st f args :=
  Fin.ite (doCall_fin _ _ _ _ _) <| Fin.ite (Fin.bind (call_fin _ _ _ _) fun _ => Fin.same _) (Fin.same _)
theorem execOp_fin (E : Env) (st : St) (d : Option Nat) (o : AOp) :
    Fin (execOp (call G Ω) Ω E st d o) fun n => execOp (callF G (exec G Ω n)) Ω E st d o := by
  cases o with
  | ca m f args => exact doCall_fin _ _ _ _ _
  | cf m x args =>
    simp only [execOp]
    split
    · exact doCall_fin _ _ _ _ _
    · exact Fin.same _
  | c2 f args => exact doCall2_fin _ _ _ _
  | d2 x args =>
    simp only [execOp]
    split
    · exact doCall2_fin _ _ _ _
    · exact Fin.same _
  | c3 f args => exact Fin.ite (Fin.bind (call_fin _ _ _ _) fun _ => Fin.same _) (Fin.same _)
  | d3 x args =>
    simp only [execOp]
    split
    · exact Fin.ite (Fin.bind (call_fin _ _ _ _) fun _ => Fin.same _) (Fin.same _)
    · exact Fin.same _
  | cn f args => exact Fin.bind (Fin.same _) fun _ => Fin.ite (Fin.bind (call_fin _ _ _ _) fun _ => Fin.same _) (Fin.same _)
  | vi g f args =>
    refine Fin.bind (Fin.same _) fun z => ?_
    split
    · exact Fin.ite (Fin.bind (call_fin _ _ _ _) fun _ => Fin.same _) (Fin.same _)
    · exact Fin.same _
  | cw t f args => exact Fin.bind (Fin.same _) fun _ => Fin.ite (Fin.bind (Fin.same _) fun _ => Fin.bind (call_fin _ _ _ _) fun _ => Fin.same _) (Fin.same _)
  | ch f args sl dl ow => exact Fin.ite (Fin.bind (call_fin _ _ _ _) fun _ => Fin.same _) (Fin.same _)
  | _ => exact Fin.same _
theorem execG_fin (E : Env) (st : St) (g : GOp) : Fin (execG (call G Ω) Ω E st g) fun n => execG (callF G (exec G Ω n)) Ω E st g := by
  unfold execG
  split
  · exact Fin.bind (execOp_fin _ _ _ _) fun _ => Fin.same _
  · exact Fin.bind (Fin.same _) fun _ => Fin.ite (Fin.bind (execOp_fin _ _ _ _) fun _ => Fin.same _) (Fin.same _)
theorem execOps_fin (E : Env) : ∀ (gs : List GOp) (st : St), Fin (execOps (call G Ω) Ω E st gs) fun n => execOps (callF G (exec G Ω n)) Ω E st gs
  | [], _ => Fin.same _
  | _ :: gs, _ => Fin.bind (execG_fin _ _ _) fun _ => execOps_fin E gs _
theorem coreL_fin (E : Env) (p : DOp) (v : St) : Fin (coreL (call G Ω) Ω E p v) fun n => coreL (callF G (exec G Ω n)) Ω E p v :=
  Fin.ite (Fin.bind (execOp_fin _ _ _ _) fun _ => Fin.same _) (Fin.same _)
theorem execD1_fin (E : Env) (st : St) (p : DOp) : Fin (execD1 (call G Ω) Ω E st p) fun n => execD1 (callF G (exec G Ω n)) Ω E st p := by
  unfold execD1
  refine Fin.ite (Fin.bind ?_ fun _ => Fin.same _) (execG_fin _ _ _)
  unfold patchL
  split
  · exact coreL_fin _ _ _
  · exact Fin.bind (Fin.same _) fun _ => Fin.ite (coreL_fin _ _ _) (Fin.same _)
theorem execD_fin (E : Env) : ∀ (gs : List DOp) (st : St), Fin (execD (call G Ω) Ω E st gs) fun n => execD (callF G (exec G Ω n)) Ω E st gs
  | [], _ => Fin.same _
  | _ :: gs, _ => Fin.bind (execD1_fin _ _ _) fun _ => execD_fin E gs _
theorem goOn_fin {k : St → Option (AExit × St)} {k' : Nat → St → Option (AExit × St)} (h : ∀ st, Fin (k st) fun n => k' n st) (r : AExit × St) :
    Fin (goOn k r) fun n => goOn (k' n) r := by
  unfold goOn
  split
  · exact h _
  · exact Fin.same _

theorem opt_eq {α : Type} {x y : Option α} (h : LeO x y) (h' : LeO y x) : x = y := by
  cases x with
  | none => cases y with
    | none => rfl
    | some r => exact (h' r rfl)
  | some r => exact (h r rfl).symm
/-- one equation of the run out of that of the bounded one. -/
theorem run_of {E : Env} {c : AC} {st : St} {F : Option (AExit × St)} {f : Nat → Option (AExit × St)} (h : ∀ n, exec G Ω (n + 1) E c st = f n)
    (hle : ∀ n, LeO (f n) F) (hfin : Fin F f) : run G Ω E c st = F := by
  refine opt_eq (fun r hr => ?_) (fun r hr => ?_)
  · obtain ⟨n, hn⟩ := run_some.1 hr
    cases n with
    | zero => simp [exec] at hn
    | succ n => exact hle n r ((h n).symm.trans hn)
  · obtain ⟨n, hn⟩ := hfin r hr
    exact run_some.2 ⟨n + 1, (h n).trans (hn n (Nat.le_refl _))⟩
variable (E : Env) (st : St)
theorem run_sk : run G Ω E .sk st = some (.nrm, st) := run_some.2 ⟨1, rfl⟩
theorem run_ex (id : Nat) : run G Ω E (.ex id) st = some (.ex id, st) := run_some.2 ⟨1, rfl⟩
theorem run_rt : run G Ω E .rt st = some (.ret, st) := run_some.2 ⟨1, rfl⟩
theorem run_sq (x y : AC) : run G Ω E (.sq x y) st = (run G Ω E x st).bind (goOn fun st1 => run G Ω E y st1) :=
  run_of (fun _ => rfl) (fun n => LeO.bind (run_ge n _ _ _) fun _ => goOn_mono (fun _ => run_ge n _ _ _) _)
    (Fin.bind (run_fin _ _ _) fun _ => goOn_fin (fun _ => run_fin _ _ _) _)
theorem run_lp (x : AC) : run G Ω E (.lp x) st = (run G Ω E x st).bind (goOn fun st1 => run G Ω E (.lp x) st1) :=
  run_of (fun _ => rfl) (fun n => LeO.bind (run_ge n _ _ _) fun _ => goOn_mono (fun _ => run_ge n _ _ _) _)
    (Fin.bind (run_fin _ _ _) fun _ => goOn_fin (fun _ => run_fin _ _ _) _)
theorem run_ite (c : Opd) (x y : AC) : run G Ω E (.ite c x y) st = (asB (st.ev c)).bind fun z => if z = true then run G Ω E x st else run G Ω E y st :=
  run_of (fun _ => rfl) (fun n => LeO.bind (LeO.refl _) fun _ => LeO.ite (run_ge n _ _ _) (run_ge n _ _ _))
    (Fin.bind (Fin.same _) fun _ => Fin.ite (run_fin _ _ _) (run_fin _ _ _))
theorem run_bl (id : Nat) (x : AC) : run G Ω E (.bl id x) st = (run G Ω E x st).bind (inBlock id) :=
  run_of (fun _ => rfl) (fun n => LeO.bind (run_ge n _ _ _) fun _ => LeO.refl _) (Fin.bind (run_fin _ _ _) fun _ => Fin.same _)
theorem run_rg (pre : List Pre) (ops : List GOp) (kf kb : List Nat) : run G Ω E (.rg pre ops kf kb) st =
    (doPre E st pre).bind fun st1 => (execOps (call G Ω) Ω E st1 ops).bind fun st2 => some (.nrm, st2.keep kf kb) :=
  run_of (fun _ => rfl) (fun n => LeO.bind (LeO.refl _) fun _ => LeO.bind (execOps_mono (callF_mono (run_ge n)) _ _) fun _ => LeO.refl _)
    (Fin.bind (Fin.same _) fun _ => Fin.bind (execOps_fin _ _ _) fun _ => Fin.same _)
theorem run_dg (pre : List Pre) (mks : List Nat) (ops : List DOp) (kf kb : List Nat) : run G Ω E (.dg pre mks ops kf kb) st =
    (doPre E st pre).bind fun st1 => if (mks.all (freeOf E.dp st1) && ops.all (freeB E.dp st1)) = true then (execD (call G Ω) Ω E st1 ops).bind fun st2 => some (.nrm, st2.keep kf kb) else none :=
  run_of (fun _ => rfl) (fun n => LeO.bind (LeO.refl _) fun _ => LeO.ite (LeO.bind (execD_mono (callF_mono (run_ge n)) _ _) fun _ => LeO.refl _) (LeO.refl _))
    (Fin.bind (Fin.same _) fun _ => Fin.ite (Fin.bind (execD_fin _ _ _) fun _ => Fin.same _) (Fin.same _))
theorem run_kp (kf kb : List Nat) (x : AC) : run G Ω E (.kp kf kb x) st = run G Ω E x (st.keep kf kb) :=
  run_of (fun _ => rfl) (fun n => run_ge n _ _ _) (run_fin _ _ _)
theorem call_eq (f : FuncId) (args : List AV) (hp : HP) : call G Ω E f args hp = (G f).bind fun fn => (run G Ω E fn.code ⟨argFr 0 args, [], hp⟩).bind fun r => match r.1 with
    | .ex _ => none
    | _ => (r.2.end_ E fn.res).bind fun x => some (x, r.2.hp) := rfl
end
/-- a loop and what is kept where it begins anew. -/
structure LoopC where
  kf : List Nat
  kb : List Nat
  x : AC
def LoopC.lp (l : LoopC) : AC := .lp (.kp l.kf l.kb l.x)
noncomputable def lpAt (G : Prg) (Ω : Orc) (E : Env) (l : LoopC) (st : St) : Option (AExit × St) := run G Ω E l.lp st
theorem fget_kept (fr : List (Nat × AV)) (ks : List Nat) (k : Nat) (h : k ∈ ks) : fget (keepF fr ks) k = fget fr k := by
  induction ks with
  | nil => cases h
  | cons j ks ih =>
    simp only [keepF, List.map_cons, fget]
    by_cases hj : j = k
    · rw [if_pos hj, hj]
    · rw [if_neg hj]
      exact ih ((List.mem_cons.1 h).resolve_left (fun e => hj e.symm))
theorem bget_kept (bx : List (Nat × List AV)) (ks : List Nat) (k : Nat) (h : k ∈ ks) : bget (keepB bx ks) k = bget bx k := by
  induction ks with
  | nil => cases h
  | cons j ks ih =>
    simp only [keepB]
    by_cases hj : j = k
    · subst hj
      cases hb : bget bx j with
      | some cs => simp [bget]
      | none =>
        simp only
        by_cases hk : j ∈ ks
        · rw [ih hk, hb]
        · clear ih h
          induction ks with
          | nil => rfl
          | cons i ks ih2 =>
            simp only [keepB]
            have hi : i ≠ j := fun e => hk (by rw [e]; exact List.mem_cons_self ..)
            have ih3 := ih2 fun hm => hk (List.mem_cons_of_mem _ hm)
            cases bget bx i with
            | some cs => simp only [bget, if_neg hi]; exact ih3
            | none => exact ih3
    · have hk := (List.mem_cons.1 h).resolve_left (fun e => hj e.symm)
      cases hb : bget bx j with
      | some cs => simp only [bget, if_neg hj]; exact ih hk
      | none => exact ih hk
theorem keep_keep (st : St) (kf kb : List Nat) : (st.keep kf kb).keep kf kb = st.keep kf kb := by
  have h1 : keepF (keepF st.fr kf) kf = keepF st.fr kf := by
    show kf.map (fun k => (k, fget (keepF st.fr kf) k)) = kf.map (fun k => (k, fget st.fr k))
    exact List.map_congr_left fun k hk => by rw [fget_kept st.fr kf k hk]
  have h2 : ∀ ks, (∀ k ∈ ks, k ∈ kb) → keepB (keepB st.bx kb) ks = keepB st.bx ks := by
    intro ks hs
    induction ks with
    | nil => rfl
    | cons j ks ih =>
      simp only [keepB]
      rw [bget_kept st.bx kb j (hs j (List.mem_cons_self ..)), ih fun k hk => hs k (List.mem_cons_of_mem _ hk)]
  show (⟨keepF (keepF st.fr kf) kf, keepB (keepB st.bx kb) kb, st.hp⟩ : St) = ⟨keepF st.fr kf, keepB st.bx kb, st.hp⟩
  rw [h1, h2 kb fun _ h => h]
theorem run_lpk (G : Prg) (Ω : Orc) (E : Env) (l : LoopC) (st : St) : run G Ω E l.lp st = lpAt G Ω E l (st.keep l.kf l.kb) := by
  show run G Ω E (.lp (.kp l.kf l.kb l.x)) st = run G Ω E (.lp (.kp l.kf l.kb l.x)) (st.keep l.kf l.kb)
  rw [run_lp, run_lp, run_kp, run_kp, keep_keep]
/-- what a round leaves for the next one. -/
def kept (l : LoopC) (r : AExit × St) : Option St :=
  match r.1 with
  | .nrm => some (r.2.keep l.kf l.kb)
  | _ => none
theorem lpAt_step {G : Prg} {Ω : Orc} {E : Env} {l : LoopC} {st st1 : St} (h : (run G Ω E l.x (st.keep l.kf l.kb)).bind (kept l) = some st1) : lpAt G Ω E l st = lpAt G Ω E l st1 := by
  obtain ⟨r, h1, h2⟩ := Option.bind_eq_some_iff.1 h
  obtain ⟨e, s⟩ := r
  cases e <;> simp [kept] at h2
  subst h2
  show run G Ω E (.lp (.kp l.kf l.kb l.x)) st = _
  rw [run_lp, run_kp, h1, ← run_lpk]
  rfl
theorem lpAt_end {G : Prg} {Ω : Orc} {E : Env} {l : LoopC} {st : St} {r : AExit × St} (h : run G Ω E l.x (st.keep l.kf l.kb) = some r) (hr : r.1 ≠ .nrm) : lpAt G Ω E l st = some r := by
  show run G Ω E (.lp (.kp l.kf l.kb l.x)) st = _
  rw [run_lp, run_kp, h]
  obtain ⟨e, s⟩ := r
  cases e with
  | nrm => exact absurd rfl hr
  | _ => rfl
theorem bind_ite {α β : Type} {c : Prop} [Decidable c] (x y : Option α) (f : α → Option β) : (if c then x else y).bind f = if c then x.bind f else y.bind f := by
  split <;> rfl
theorem run_lp_step {G : Prg} {Ω : Orc} {E : Env} {x : AC} {st st1 : St} (h : run G Ω E x st = some (.nrm, st1)) : run G Ω E (.lp x) st = run G Ω E (.lp x) st1 := by
  rw [run_lp, h]; rfl
theorem run_lp_end {G : Prg} {Ω : Orc} {E : Env} {x : AC} {st st1 : St} {e : AExit} (h : run G Ω E x st = some (e, st1)) (he : goOn (fun st1 => run G Ω E (.lp x) st1) (e, st1) = some (e, st1)) :
    run G Ω E (.lp x) st = some (e, st1) := by
  rw [run_lp, h]; exact he
theorem wrap64 {n : Int} (h1 : -9223372036854775808 ≤ n) (h2 : n ≤ 9223372036854775807) : IntKind.i64.wrap n = n := by
  simp [IntKind.wrap, IntKind.bits, IntKind.signed]; omega
end Go.Proofs.Ytmfihcbafljcbaa.A
