/- The abstract run: what the operations, the commands and the calls of the program do with abstract values. A run that this text does not follow answers none. -/
import Derived.Test.YtmfihcbafljcbaaAbs1
set_option linter.unusedSectionVars false
set_option linter.unusedVariables false
set_option linter.unusedSimpArgs false
set_option linter.constructorNameAsVariable false
namespace Go.Proofs.Ytmfihcbafljcbaa.A
open Go

abbrev HP := Key → Option (List AV)
structure St where
  fr : List (Nat × AV)
  bx : List (Nat × List AV)
  hp : HP
structure Env where
  dp : Nat
  ro : Bool

def fget : List (Nat × AV) → Nat → AV
  | [], _ => .u
  | (k, x) :: r, d => if k = d then x else fget r d
def bget : List (Nat × List AV) → Nat → Option (List AV)
  | [], _ => none
  | (k, x) :: r, d => if k = d then some x else bget r d
def bset : List (Nat × List AV) → Nat → List AV → List (Nat × List AV)
  | [], _, _ => []
  | (k, x) :: r, d, y => if k = d then (k, y) :: r else (k, x) :: bset r d y
def upd (hp : HP) (k : Key) (cs : List AV) : HP := fun k' => if k' = k then some cs else hp k'

def St.fset (st : St) (d : Nat) (x : AV) : St := { st with fr := (d, x) :: st.fr }
def St.box (dp : Nat) (st : St) (k : Key) : Option (List AV) := if k.dp = dp then bget st.bx k.d else st.hp k
def St.setBox (dp : Nat) (st : St) (k : Key) (cs : List AV) : St :=
  if k.dp = dp then { st with bx := bset st.bx k.d cs } else { st with hp := upd st.hp k cs }
/-- borrows of a place are forgotten -/
def St.dropB (st : St) (pl : Pl) : St := { st with fr := st.fr.map fun x => (x.1, if x.2.bor pl = true then .u else x.2) }
def asB : AV → Option Bool
  | .b x => some x
  | _ => none
def isBor : AV → Bool
  | .r _ => true
  | .v _ _ _ => true
  | .q _ _ _ _ => true
  | .w _ _ _ => true
  | .bp _ _ _ => true
  | _ => false

def St.rowAt (dp : Nat) (st : St) : Pl → Option (TypeId × List AV)
  | .s d => match fget st.fr d with
    | .o t es => some (t, es)
    | _ => none
  | .c k off => match st.box dp k with
    | some cs => match cs[off]? with
      | some (.o t es) => some (t, es)
      | _ => none
    | none => none
/-- what a place holds becomes another thing -/
def St.putAt (dp : Nat) (st : St) (x : AV) : Pl → Option St
  | .s d => some (st.fset d x)
  | .c k off => match st.box dp k with
    | some cs => some (st.setBox dp k (cs.set off x))
    | none => none
/-- may it be written there? -/
def Pl.mine (E : Env) : Pl → Bool
  | .s _ => true
  | .c k _ => decide (k.dp = E.dp) || !E.ro

inductive Opd where
  | t (n : Nat)
  | c (x : AV)
def St.ev (st : St) : Opd → AV
  | .t n => fget st.fr n
  | .c x => x

/-- what a slice holds -/
def St.elems (dp : Nat) (st : St) : AV → Option (TypeId × List AV)
  | .l t es => some (t, es)
  | .n => some (0, [])
  | .o t es => some (t, es)
  | .r pl => st.rowAt dp pl
  | .v pl lo len => match st.rowAt dp pl with
    | some (t, es) => if lo + len ≤ es.length then some (t, (es.drop lo).take len) else none
    | none => none
  | _ => none

def pick (n : Option Nat) (off : Nat) (cs : List AV) : Option AV :=
  match n with
  | none => cs[off]?
  | some m => if off + m ≤ cs.length then some (.a ((cs.drop off).take m)) else none
def putCells (cs : List AV) (off : Nat) (ys : List AV) : List AV := cs.take off ++ ys ++ cs.drop (off + ys.length)
def onlyOr (x : AV) : List AV → AV
  | [y] => y
  | _ => x
def putCl (e : AV) (off : Nat) (ys : List AV) : AV :=
  match e with
  | .a cs => .a (putCells cs off ys)
  | x => onlyOr x ys

def eqCells : List AV → List AV → Option Bool
  | [], [] => some true
  | .i k a :: xs, .i k' b :: ys => if k = k' then (eqCells xs ys).map fun r => a == b && r else none
  | .b a :: xs, .b b :: ys => (eqCells xs ys).map fun r => a == b && r
  | .s a :: xs, .s b :: ys => (eqCells xs ys).map fun r => a == b && r
  | _, _ => none
def bopI (op : BinOp) (k : IntKind) (a b : Int) : Option AV :=
  match op with
  | .add => some (.i k (k.wrap (a + b)))
  | .sub => some (.i k (k.wrap (a - b)))
  | .mul => some (.i k (k.wrap (a * b)))
  | .quo => if b = 0 then none else some (.i k (k.wrap (a.tdiv b)))
  | .rem => if b = 0 then none else some (.i k (a.tmod b))
  | .eql => some (.b (a == b))
  | .neq => some (.b (a != b))
  | .lss => some (.b (decide (a < b)))
  | .leq => some (.b (decide (a ≤ b)))
  | .gtr => some (.b (decide (b < a)))
  | .geq => some (.b (decide (b ≤ a)))
  | .or => some (.i k (if b > a then b else a))
  | _ => none
def bop (op : BinOp) (bl : Bool) (x y : AV) : Option AV :=
  match x, y with
  | .i k a, .i k' b => if k = k' then bopI op k a b else none
  | .b a, .b b => if bl then match op with
    | .eql => some (.b (a == b))
    | .neq => some (.b (!(a == b)))
    | _ => none
    else none
  | .s a, .s b => match op with
    | .add => if a.length + b.length ≤ 4611686018427387904 then some (.s (a ++ b)) else none
    | .eql => some (.b (a == b))
    | .neq => some (.b (!(a == b)))
    | _ => none
  | _, _ => none

inductive AOp where
  | mv (x : Opd)
  | as (x : Opd)
  | pk (c x y : Opd)
  | bx (x : Opd)
  | al (zs : List AV)
  | ld (n : Option Nat) (x : Opd)
  | st (n : Nat) (x y : Opd)
  | fa (off : Nat) (x : Opd)
  | fd (n : Option Nat) (off : Nat) (x : Opd)
  | ia (sz : Nat) (arr : Option Nat) (x i : Opd)
  | ix (x i : Opd)
  | bo (op : BinOp) (bl : Bool) (x y : Opd)
  | no (x : Opd)
  | ng (x : Opd)
  | cv (k : IntKind) (x : Opd)
  | cs (x : Opd)
  | ae (ks : List Nat) (ng : Bool) (x y : Opd)
  | bs (t sz : Nat) (es : List Opd)
  | bd (zs : List AV) (fs : List (Nat × Nat × Opd))
  | ms (t sz : Nat) (by_ : Nat) (x : AV) (n : Opd)
  | sl (t sz : Nat) (x : Opd) (lo hi : Option Opd)
  | ex (x : Opd) (i : Nat)
  | mf (f : FuncId) (caps : List Opd)
  | ca (m : Nat) (f : FuncId) (args : List Opd)
  | cf (m : Nat) (x : Opd) (args : List Opd)
  | c2 (f : FuncId) (args : List Opd)
  | d2 (x : Opd) (args : List Opd)
  | c3 (f : FuncId) (args : List Opd)
  | d3 (x : Opd) (args : List Opd)
  | cn (f : FuncId) (args : List Opd)
  | cr (t : Nat) (f : FuncId) (args : List Opd)
  | ln (str : Bool) (x : Opd)
  | ap (t sz : Nat) (by_ : Nat) (x y : Opd)
  | nc (x : Opd)
  | cw (t : TypeId) (f : FuncId) (args : List Opd)
  | xw (x : Opd) (i : Nat)
  | sw (n : Nat) (x y : Opd)
  | lw (n : Nat) (x : Opd)
  | sp (f : FuncId) (x : Opd)
  | vi (g f : FuncId) (args : List Opd)
  | ch (f : FuncId) (args : List Opd) (sl dl ow : List Nat)
  | lk (n : Option Nat) (x y : Opd) (lv : Bool)
  | bz (t off : Nat) (x : Opd)
  | lz (x : Opd)
  | pe (ng : Bool) (x y : Opd)
  | cp (t n off : Nat) (x : Opd)
  | aq (t : Nat) (x y : Opd)
  | sb (f : FuncId) (x : Opd)
  | tx (x : Opd)
  | sz (x y : Opd)
structure GOp where
  d : Option Nat
  o : AOp
  g : Option (Nat × Bool) := none
  fz : Bool := false
/-- an operation of a region whose order is drawn: light ones see nothing but a view of the state. -/
structure DOp where
  p : GOp
  lt : Bool
  vw : List Nat
  vb : List Nat
  vh : Bool
  cs : List Nat
  nk : List Nat
  nb : List Nat

inductive AEnd where
  | ret (x : AV)
  | new (cs : List AV)
inductive AExit where
  | nrm
  | ex (id : Nat)
  | ret
inductive Pre where
  | own (d : Nat) (t : TypeId)
  | fz (d : Nat)
  | ownC (d off : Nat) (t : TypeId)
  | fzC (d off : Nat)
  | fzB (d : Nat) (agg : Bool)
  | pin (d off nd sz : Nat)
  | unp (d off : Nat)
inductive AC where
  | sk
  | rg (pre : List Pre) (ops : List GOp) (kf kb : List Nat)
  | dg (pre : List Pre) (mks : List Nat) (ops : List DOp) (kf kb : List Nat)
  | sq (x y : AC)
  | ite (c : Opd) (x y : AC)
  | bl (id : Nat) (x : AC)
  | lp (x : AC)
  | ex (id : Nat)
  | rt
  | kp (kf kb : List Nat) (x : AC)
  | bad
  | ru (g : Opd) (x : Nat) (y b : AC)
inductive RV where
  | t (n : Nat)
  | c (n : Nat) (sz : Option Nat)
structure AFn where
  code : AC
  res : List RV
abbrev Prg := FuncId → Option AFn
abbrev Orc := FuncId → List AV → Option AV
abbrev Rec := Env → FuncId → List AV → HP → Option (AEnd × HP)

/-- cells, so many by so many. -/
def chunks (sz : Nat) : Nat → List AV → List AV
  | 0, _ => []
  | n + 1, cs => (if sz = 1 then cs.headD .u else .a (cs.take sz)) :: chunks sz n (cs.drop sz)
/-- an argument of a call that changes nothing: what it borrows is told by its type. -/
def St.lend (dp : Nat) (st : St) (x : AV) : Option (AV × List TypeId) :=
  match x with
  | .o t es => some (.l t es, [t])
  | .r pl => (st.rowAt dp pl).bind fun r => some (.l r.1 r.2, [r.1])
  | .v pl lo len => (st.rowAt dp pl).bind fun r => if lo + len ≤ r.2.length then some (.l r.1 ((r.2.drop lo).take len), [r.1]) else none
  | .w _ t x => some (x, [t])
  | .sp k o n sz => (st.box dp k).bind fun cs => if (decide (1000000 ≤ k.d) && AV.pureL cs && decide (0 < sz) && decide (o + n * sz ≤ cs.length)) = true then some (.l 0 (chunks sz n (cs.drop o)), [(k.d - 1000000) / 1000]) else none
  | x => if x.pure then some (x, []) else none
def St.lendAll (dp : Nat) (st : St) : List AV → Option (List AV × List TypeId)
  | [] => some ([], [])
  | x :: xs => (st.lend dp x).bind fun y => (st.lendAll dp xs).bind fun ys => some (y.1 :: ys.1, y.2 ++ ys.2)

/-- a call: mode 0 changes nothing and is handed nothing that can change; mode 1 is a function that is told by a table. -/
def doCall (R : Rec) (Ω : Orc) (E : Env) (st : St) (m : Nat) (f : FuncId) (args : List AV) : Option (AV × St) :=
  match m with
  | 0 => (st.lendAll E.dp args).bind fun ys => (R ⟨0, false⟩ f ys.1 (fun _ => none)).bind fun r => match r.1 with
    | .ret x => if x.pure && (ys.2.isEmpty || x.off ys.2) then some (x, st) else none
    | .new _ => none
  | 1 => (st.lendAll E.dp args).bind fun ys => (Ω f ys.1).bind fun x => if x.pure && (ys.2.isEmpty || x.off ys.2) then some (x, st) else none
  | _ => none

/-- does it borrow of a box? -/
def borC : AV → Bool
  | .r (.c _ _) => true
  | .v (.c _ _) _ _ => true
  | .q (.c _ _) _ _ _ => true
  | _ => false
def backB (dp : Nat) (hp : HP) : List (Nat × List AV) → List (Nat × List AV)
  | [] => []
  | (d, _) :: r => match hp ⟨dp, d⟩ with
    | some cs => (d, cs) :: backB dp hp r
    | none => backB dp hp r
/-- behind a call that may have changed what is in sight. -/
def St.back (dp : Nat) (st : St) (hp : HP) : St :=
  ⟨st.fr.map fun x => (x.1, if borC x.2 = true then .u else x.2), backB dp hp st.bx, fun k => if k.dp < dp then hp k else none⟩
/-- may it be handed to a function that changes nothing? -/
def AV.lendy : AV → Bool
  | .o _ _ => true
  | .r _ => true
  | .v _ _ _ => true
  | x => x.pure
/-- a call of a function that may change all boxes in sight; it changes nothing, if it is handed nothing that can be changed. -/
def doCall2 (R : Rec) (Ω : Orc) (E : Env) (st : St) (f : FuncId) (args : List AV) : Option (AV × St) :=
  if args.all AV.lendy = true then doCall R Ω E st 0 f args
  else if (!E.ro && args.all AV.copy && st.bx.all fun y => AV.deepL E.dp y.2) = true then
    (R ⟨E.dp + 1, false⟩ f args (fun k => st.box E.dp k)).bind fun r => match r.1 with
      | .ret x => some (x, st.back E.dp r.2)
      | .new _ => none
  else none
/-- a call of a function that sees boxes and changes none. -/
def doCall3 (R : Rec) (E : Env) (st : St) (f : FuncId) (args : List AV) : Option (AV × St) :=
  if (args.all AV.copy && st.bx.all fun y => AV.deepL E.dp y.2) = true then
    (R ⟨E.dp + 1, true⟩ f args (fun k => st.box E.dp k)).bind fun r => match r.1 with
      | .ret x => if x.pure = true then some (x, st) else none
      | .new _ => none
  else none
/-- a slot without a box; numbers from 1000000 on are those of rows that are pinned. -/
def freeD (bx : List (Nat × List AV)) (d : Nat) : Bool := (bget bx d).isNone && decide (d < 1000000)
/-- a slot whose box nobody has, and nobody names. -/
def noBox (dp : Nat) (st : St) (d : Nat) : Bool := freeD st.bx d && st.fr.all (fun y => y.2.noK ⟨dp, d⟩) && st.bx.all (fun y => AV.noKL ⟨dp, d⟩ y.2)
/-- a call of a function that makes a box: it is the slot's from then on. -/
def doCallN (R : Rec) (E : Env) (st : St) (d : Nat) (f : FuncId) (args : List AV) : Option (AV × St) :=
  if (!E.ro && args.all AV.copy && st.bx.all fun y => AV.deepL E.dp y.2) = true then
    (R ⟨E.dp + 1, false⟩ f args (fun k => st.box E.dp k)).bind fun r => match r.1 with
      | .ret _ => none
      | .new cs => if noBox E.dp (st.back E.dp r.2) d = true then some (.p ⟨E.dp, d⟩ 0, { (st.back E.dp r.2) with bx := (d, cs) :: (st.back E.dp r.2).bx }) else none
  else none
/-- a call of a function that is told by a table, and makes an empty row: it is the slot's. -/
def doCallR (Ω : Orc) (st : St) (d : Nat) (t : TypeId) (f : FuncId) (args : List AV) : Option (AV × St) :=
  if AV.pureL args = true then (Ω f args).bind fun x => match x with
    | .o t' [] => if t' = t then some (.o t [], st.dropB (.s d)) else none
    | _ => none
  else none

/-- its lists of that type are told to be of no type: within them there are none. -/
def AV.unt1 (t : TypeId) : AV → Option AV
  | .l t' es => if AV.offL [t] es = true then some (.l (if t' = t then 0 else t') es) else none
  | x => if (x.pure && x.off [t]) = true then some x else none
def AV.unt1L (t : TypeId) : List AV → Option (List AV)
  | [] => some []
  | x :: xs => (AV.unt1 t x).bind fun y => (AV.unt1L t xs).bind fun ys => some (y :: ys)
def AV.unt (t : TypeId) : AV → Option AV
  | .a cs => (AV.unt1L t cs).map .a
  | x => AV.unt1 t x
def AV.untL (t : TypeId) : List AV → Option (List AV)
  | [] => some []
  | x :: xs => (AV.unt t x).bind fun y => (AV.untL t xs).bind fun ys => some (y :: ys)
mutual
/-- all lists in it are of that type; nothing points into memory. -/
def AV.onlyT (t : TypeId) : AV → Bool
  | .a cs => AV.onlyTL t cs
  | .tp cs => AV.onlyTL t cs
  | .f _ cs => AV.onlyTL t cs
  | .ifc _ x => AV.onlyT t x
  | .l t' es => es.isEmpty || (t' == t && AV.onlyTL t es)
  | .e _ _ => false
  | _ => true
def AV.onlyTL (t : TypeId) : List AV → Bool
  | [] => true
  | x :: xs => AV.onlyT t x && AV.onlyTL t xs
end
/-- a call that changes nothing, whose answer lies in new memory: the answer is a group of its own. -/
def doCallW (R : Rec) (st : St) (d : Nat) (t : TypeId) (f : FuncId) (args : List AV) : Option (AV × St) :=
  if (t != 0 && AV.pureL args) = true then (AV.untL t args).bind fun ys => (R ⟨0, false⟩ f ys (fun _ => none)).bind fun r => match r.1 with
    | .ret x => if (x.pure && AV.onlyT t x) = true then some (.w d t x, st) else none
    | .new _ => none
  else none
/-- a struct of so many cells -/
def aggN (n : Int) : AV → Bool
  | .a cs => decide ((cs.length : Int) = n)
  | _ => false
/-- a call of a function that does what another one does, and answers two zeros more. -/
def doCallV (R : Rec) (Ω : Orc) (E : Env) (st : St) (g f : FuncId) (args : List AV) : Option (AV × St) :=
  (Ω f [.u, .i .i64 g]).bind fun z => match z with
    | .i .i64 n => if (!E.ro && args.all AV.copy && (args.length == 1) && st.bx.all fun y => AV.deepL E.dp y.2) = true then
        (R ⟨E.dp + 1, false⟩ g args (fun k => st.box E.dp k)).bind fun r => match r.1 with
          | .ret x => if aggN n x = true then some (.tp [x, .i .i64 0, .i .i64 0], st.back E.dp r.2) else none
          | .new _ => none
      else none
    | _ => none
/-- which box is meant: that of the pointer, or that of the pointer that lies where it points. -/
def evKey (dp : Nat) (st : St) (y : AV) (lv : Bool) : Option Key := match y with
  | .p k off => if lv = true then (match (st.box dp k).bind (fun cs => cs[off]?) with
    | some (.p k2 _) => some k2
    | _ => none) else some k
  | _ => none
def ownO (dp : Nat) (ow : List Nat) : AV → Bool
  | .p k _ => decide (k.dp = dp) && ow.contains k.d
  | _ => false
/-- boxes that a call is not shown: those of some pointers, those that these point to, and some of one's own. -/
def hidK (dp : Nat) (st : St) (sl dl ow : List Nat) (k : Key) : Bool :=
  (sl.any fun n => evKey dp st (fget st.fr n) false == some k) || (dl.any fun n => !ownO dp ow (fget st.fr n) && evKey dp st (fget st.fr n) true == some k) || (decide (k.dp = dp) && ow.contains k.d)
def mrgH (dp : Nat) (st : St) (sl dl ow : List Nat) (hp : HP) : HP := fun k => if hidK dp st sl dl ow k = true then st.box dp k else hp k
def shwH (dp : Nat) (st : St) (sl dl ow : List Nat) : HP := fun k => if hidK dp st sl dl ow k = true then none else st.box dp k
/-- does it borrow of a box that is shown? -/
def borH (hid : Key → Bool) : AV → Bool
  | .r (.c k _) => !hid k
  | .v (.c k _) _ _ => !hid k
  | .q (.c k _) _ _ _ => !hid k
  | _ => false
/-- something holds of all boxes. -/
def allBx (bx : List (Nat × List AV)) (g : Nat → List AV → Bool) : Bool := bx.all fun y => g y.1 ((bget bx y.1).getD [])
def keyIn (dp : Nat) : Option Key → Bool
  | some k => decide (k.dp ≤ dp)
  | none => false
def St.backH (dp : Nat) (st : St) (hp : HP) : St := ⟨st.fr, backB dp hp st.bx, fun k => if k.dp < dp then hp k else none⟩
/-- a call that is not shown all boxes. -/
def doCallH (R : Rec) (E : Env) (st : St) (f : FuncId) (args : List AV) (sl dl ow : List Nat) : Option (AV × St) :=
  if (!E.ro && args.all AV.copy && allBx st.bx (fun _ cs => AV.deepL E.dp cs) && (st.fr.all fun y => !borH (hidK E.dp st sl dl ow) y.2) && sl.all (fun n => keyIn E.dp (evKey E.dp st (fget st.fr n) false)) && dl.all (fun n => !ownO E.dp ow (fget st.fr n) && keyIn E.dp (evKey E.dp st (fget st.fr n) true))) = true then
    (R ⟨E.dp + 1, false⟩ f args (shwH E.dp st sl dl ow)).bind fun r => match r.1 with
      | .ret x => if (x.pure && allBx (st.backH E.dp (mrgH E.dp st sl dl ow r.2)).bx fun d cs => ow.contains d || ow.all fun h => AV.noKL ⟨E.dp, h⟩ cs) = true then some (x, st.backH E.dp (mrgH E.dp st sl dl ow r.2)) else none
      | .new _ => none
  else none
def wrapW (g : Nat) (t : TypeId) : AV → AV
  | .i k n => .i k n
  | .b x => .b x
  | x => .w g t x
/-- cells of one group. -/
def unwL (g : Nat) (t : TypeId) : List AV → Option (List AV)
  | [] => some []
  | .w g' t' x :: xs => if g' = g ∧ t' = t then (unwL g t xs).bind fun ys => some (x :: ys) else none
  | _ :: _ => none
def unw : List AV → Option (Nat × TypeId × List AV)
  | .w g t x :: xs => (unwL g t (.w g t x :: xs)).bind fun ys => some (g, t, ys)
  | _ => none
def AV.ung (g : Nat) : AV → AV
  | .w g' t x => if g' = g then .u else .w g' t x
  | x => x
/-- what a group holds is told no more. -/
def St.dropG (st : St) (g : Nat) : St := { st with fr := st.fr.map (fun x => (x.1, x.2.ung g)), bx := st.bx.map (fun x => (x.1, x.2.map (AV.ung g))) }

def natOf : AV → Option Nat
  | .i _ n => if 0 ≤ n then some n.toNat else none
  | _ => none
def bndOf (st : St) (x : Option Opd) (dflt : Nat) : Option Nat :=
  match x with
  | none => some dflt
  | some y => natOf (st.ev y)

def consume (E : Env) (st : St) (t : TypeId) : Opd → Option (List AV × St)
  | .c .n => some ([], st)
  | .c _ => none
  | .t m => match fget st.fr m with
    | .n => some ([], st)
    | .o t' es => if t' = t then some (es, st.fset m .u) else none
    | .r pl => if pl.mine E then (st.rowAt E.dp pl).bind fun r => if r.1 = t then (st.putAt E.dp .u pl).bind fun st' => some (r.2, st') else none else none
    | .v pl lo len => if pl.mine E && lo == 0 then
        (st.rowAt E.dp pl).bind fun r => if len ≤ r.2.length ∧ r.1 = t then (st.putAt E.dp .u pl).bind fun st' => some (r.2.take len, st') else none
      else none
    | _ => none

/-- the address of an element -/
def elemAt (sz : Nat) (st : St) (e : Option AV) (x : AV → AV) : Option (AV × St) :=
  e.bind fun e => if e.nc = sz then some (x e, st) else none

def byteAV (c : UInt8) : AV := .i .u8 c.toNat
/-- bytes that are told one by one -/
def bytesOf : List AV → Option (List UInt8)
  | [] => some []
  | .i .u8 n :: r => if 0 ≤ n ∧ n < 256 then (bytesOf r).map (UInt8.ofNat n.toNat :: ·) else none
  | _ => none
/-- are flat structs the same? -/
def sameCells : List Nat → List AV → List AV → Option Bool
  | [], [], [] => some true
  | 0 :: ks, .b m :: xs, .b n :: ys => (sameCells ks xs ys).map fun r => (m == n) && r
  | 1 :: ks, .i k m :: xs, .i k' n :: ys => if k = k' then (sameCells ks xs ys).map fun r => (m == n) && r else none
  | 2 :: ks, .s m :: xs, .s n :: ys => (sameCells ks xs ys).map fun r => (m == n) && r
  | _, _, _ => none
def execOp (R : Rec) (Ω : Orc) (E : Env) (st : St) (d : Option Nat) : AOp → Option (AV × St)
  | .mv x => match st.ev x with
    | .o _ _ => match x with
      | .t n => some (.r (.s n), st)
      | .c _ => none
    | y => some (y, st)
  | .as x => match x with
    | .c y => if y.pure then some (y, st) else none
    | .t n => match fget st.fr n with
      | .o t es => d.bind fun d => some (.o t es, (st.fset n .u).dropB (.s d))
      | .v pl lo len => d.bind fun d =>
        if pl = .s d && lo == 0 then (st.rowAt E.dp pl).bind fun r => if len ≤ r.2.length then some (.o r.1 (r.2.take len), st.dropB (.s d)) else none
        else some (.v pl lo len, st)
      | y => if y.copy || isBor y then some (y, st) else none
  | .pk c x y => (asB (st.ev c)).bind fun z =>
    if z = true then (if (st.ev x).copy then some (st.ev x, st) else none) else (if (st.ev y).copy then some (st.ev y, st) else none)
  | .bx x => d.bind fun d =>
    let cs := (st.ev x).cl
    if (st.ev x).copy && cs.all AV.one && (st.ev x).deep E.dp && freeD st.bx d && st.fr.all (fun y => y.2.noK ⟨E.dp, d⟩) && st.bx.all (fun y => AV.noKL ⟨E.dp, d⟩ y.2)
    then some (.p ⟨E.dp, d⟩ 0, { st with bx := (d, cs) :: st.bx }) else none
  | .al zs => d.bind fun d =>
    if freeD st.bx d && st.fr.all (fun y => y.2.noK ⟨E.dp, d⟩) && st.bx.all (fun y => AV.noKL ⟨E.dp, d⟩ y.2)
    then some (.p ⟨E.dp, d⟩ 0, { st with bx := (d, zs) :: st.bx }) else none
  | .ld n x => match st.ev x with
    | .p k off => (st.box E.dp k).bind fun cs => (pick n off cs).bind fun y => match y with
      | .o _ _ => some (.r (.c k off), st)
      | y => if y.copy then some (y, st) else none
    | .e x off => (pick n off x.cl).bind fun y => some (y, st)
    | .q pl i sz off => (st.rowAt E.dp pl).bind fun r => (r.2[i]?).bind fun e => if e.nc = sz then (pick n off e.cl).bind fun y => some (y, st) else none
    | _ => none
  | .st n x y => match st.ev x with
    | .p k off =>
      if (Pl.c k off).mine E then
        (st.box E.dp k).bind fun cs => match st.ev y with
        | .o t es => match y with
          | .t m => if n == 1 && decide (off < cs.length) then some (.u, (((st.fset m .u).dropB (.c k off)).setBox E.dp k (cs.set off (.o t es)))) else none
          | _ => none
        | .v pl lo len =>
          if pl = .c k off && lo == 0 && n == 1 then (st.rowAt E.dp pl).bind fun r => if len ≤ r.2.length then some (.u, (st.dropB (.c k off)).setBox E.dp k (cs.set off (.o r.1 (r.2.take len)))) else none
          else none
        | y => if y.copy && y.nc == n && y.cl.all AV.one && y.deep k.dp && decide (off + n ≤ cs.length) then some (.u, st.setBox E.dp k (putCells cs off y.cl)) else none
      else none
    | .q pl i sz off =>
      if pl.mine E then
        (st.rowAt E.dp pl).bind fun r => (r.2[i]?).bind fun e =>
          if e.nc == sz && (st.ev y).pure && (st.ev y).nc == n && (st.ev y).cl.all AV.one && decide (off + n ≤ sz) then
            (st.putAt E.dp (.o r.1 (r.2.set i (putCl e off (st.ev y).cl))) pl).bind fun st' => some (.u, st')
          else none
      else none
    | _ => none
  | .fa off x => match st.ev x with
    | .p k o => some (.p k (o + off), st)
    | .e y o => some (.e y (o + off), st)
    | .q pl i sz o => (st.rowAt E.dp pl).bind fun r => if i < r.2.length then some (.q pl i sz (o + off), st) else none
    | _ => none
  | .fd n off x => match st.ev x with
    | .a cs => (pick n off cs).bind fun y => some (y, st)
    | _ => none
  | .ia sz arr x i => (natOf (st.ev i)).bind fun j => match arr with
    | some len => if j < len then
        match st.ev x with
        | .p k o => some (.p k (o + j * sz), st)
        | .e y o => some (.e y (o + j * sz), st)
        | _ => none
      else none
    | none => match st.ev x with
      | .l _ es => elemAt sz st es[j]? fun e => .e e 0
      | .o _ es => match x with
        | .t m => elemAt sz st es[j]? fun _ => .q (.s m) j sz 0
        | _ => none
      | .r pl => (st.rowAt E.dp pl).bind fun r => elemAt sz st r.2[j]? fun _ => .q pl j sz 0
      | .v pl lo len => if j < len then (st.rowAt E.dp pl).bind fun r => if lo + len ≤ r.2.length then elemAt sz st r.2[lo + j]? fun _ => .q pl (lo + j) sz 0 else none else none
      | .sp k o n s => if j < n ∧ s = sz then some (.p k (o + j * sz), st) else none
      | _ => none
  | .ix x i => match st.ev x with
    | .s l => (natOf (st.ev i)).bind fun j => (l[j]?).bind fun c => some (.i .u8 c.toNat, st)
    | _ => none
  | .bo op bl x y => (bop op bl (st.ev x) (st.ev y)).bind fun r => some (r, st)
  | .no x => (asB (st.ev x)).bind fun y => some (.b (!y), st)
  | .ng x => match st.ev x with
    | .i k n => some (.i k (k.wrap (0 - n)), st)
    | _ => none
  | .cv k x => match st.ev x with
    | .i _ n => some (.i k (k.wrap n), st)
    | _ => none
  | .cs x => match st.ev x with
    | .i _ n => if 0 ≤ n ∧ n < 128 then some (.s [UInt8.ofNat n.toNat], st) else none
    | _ => none
  | .ae ks ng x y => match st.ev x, st.ev y with
    | .a xs, .a ys => (sameCells ks xs ys).bind fun r => some (.b (if ng then !r else r), st)
    | _, _ => none
  | .bs t sz es => d.bind fun d =>
    let vs := es.map st.ev
    if vs.all (fun y => y.pure && y.cl.all AV.one && y.nc == sz) then some (.o t vs, st.dropB (.s d)) else none
  | .bd zs fs =>
    if fs.all (fun f => (st.ev f.2.2).copy && (st.ev f.2.2).nc == f.2.1 && (st.ev f.2.2).cl.all AV.one && decide (f.1 + f.2.1 ≤ zs.length)) then
      some (.a (fs.foldl (fun cs f => putCells cs f.1 (st.ev f.2.2).cl) zs), st) else none
  | .ms t _ by_ x n => d.bind fun d => (natOf (st.ev n)).bind fun n =>
    if n * by_ ≤ 140737488355328 && decide (n ≤ maxLen) then some (.o t (List.replicate n x), st.dropB (.s d)) else none
  | .sl t sz x lo hi => match st.ev x with
    | .s l => (bndOf st lo 0).bind fun a => (bndOf st hi l.length).bind fun b => if t == 0 && decide (a ≤ b) && decide (b ≤ l.length) then some (.s ((l.take b).drop a), st) else none
    | .l t' es => (bndOf st lo 0).bind fun a => (bndOf st hi es.length).bind fun b => if t != 0 && es.all (fun e => e.nc == sz) && decide (a ≤ b) && decide (b ≤ es.length) then some (.l t' ((es.take b).drop a), st) else none
    | .r pl => (st.rowAt E.dp pl).bind fun r => (bndOf st lo 0).bind fun a => (bndOf st hi r.2.length).bind fun b =>
      if t != 0 && r.1 == t && decide (a ≤ b) && decide (b ≤ r.2.length) then some (.v pl a (b - a), st) else none
    | _ => none
  | .ex x i => match st.ev x with
    | .tp vs => (vs[i]?).bind fun y => some (y, st)
    | _ => none
  | .mf f caps => if AV.copyL (caps.map st.ev) then some (.f f (caps.map st.ev), st) else none
  | .ca m f args => doCall R Ω E st m f (args.map st.ev)
  | .cf m x args => match st.ev x with
    | .f f caps => doCall R Ω E st m f (args.map st.ev ++ caps)
    | _ => none
  | .c2 f args => doCall2 R Ω E st f (args.map st.ev)
  | .d2 x args => match st.ev x with
    | .f f caps => doCall2 R Ω E st f (args.map st.ev ++ caps)
    | _ => none
  | .c3 f args => doCall3 R E st f (args.map st.ev)
  | .d3 x args => match st.ev x with
    | .f f caps => doCall3 R E st f (args.map st.ev ++ caps)
    | _ => none
  | .cn f args => d.bind fun d => doCallN R E st d f (args.map st.ev)
  | .cr t f args => d.bind fun d => doCallR Ω st d t f (args.map st.ev)
  | .ln str x => match st.ev x with
    | .s l => if str then some (.i .i64 l.length, st) else none
    | .sp _ _ n _ => if str then none else some (.i .i64 n, st)
    | y => if str then none else (st.elems E.dp y).bind fun r => some (.i .i64 r.2.length, st)
  | .ap t sz by_ x y => d.bind fun d => (st.elems E.dp (st.ev y)).bind fun ys => (consume E st t x).bind fun r =>
    if ys.2.all (fun e => e.nc == sz) && decide ((r.1.length + ys.2.length) * by_ ≤ 140737488355328) && decide (r.1.length + ys.2.length ≤ maxLen)
    then some (.o t (r.1 ++ ys.2), r.2.dropB (.s d)) else none
  | .nc x => match st.ev x with
    | .p k o => some (.p k o, st)
    | .e y o => some (.e y o, st)
    | .q _ _ _ _ => none
    | .f g caps => some (.f g caps, st)
    | _ => none
  | .cw t f args => d.bind fun d => doCallW R st d t f (args.map st.ev)
  | .xw x i => match st.ev x with
    | .w g t (.tp vs) => (vs[i]?).bind fun y => some (wrapW g t y, st)
    | _ => none
  | .sw n x y => match st.ev x with
    | .p k off => if k.dp = E.dp ∧ off = 0 then
        (bget st.bx k.d).bind fun bs => match st.ev y with
          | .w g t (.a cs) => if cs.length = n ∧ n ≤ bs.length then some (.u, st.setBox E.dp k (putCells bs 0 (cs.map (.w g t)))) else none
          | _ => none
      else none
    | _ => none
  | .lw n x => match st.ev x with
    | .p k off => (st.box E.dp k).bind fun cs => if off + n ≤ cs.length then (unw ((cs.drop off).take n)).bind fun y => if y.2.2.all AV.one = true then some (.w y.1 y.2.1 (.a y.2.2), st) else none else none
    | _ => none
  | .sp f x => match st.ev x with
    | .w g t y => (Ω f [y]).bind fun r => match r with
      | .u => some (.u, st.dropG g)
      | _ => none
    | _ => none
  | .vi g f args => doCallV R Ω E st g f (args.map st.ev)
  | .ch f args sl dl ow => doCallH R E st f (args.map st.ev) sl dl ow
  | .lk n x y lv => match st.ev x with
    | .p k off => if evKey E.dp st (st.ev y) lv = some k then (st.box E.dp k).bind fun cs => (pick n off cs).bind fun y => match y with
        | .o _ _ => some (.r (.c k off), st)
        | y => if y.copy then some (y, st) else none
      else none
    | _ => none
  | .bz t off x => d.bind fun d =>
    let cs := (st.ev x).cl
    if (st.ev x).copy && cs.all AV.one && (st.ev x).deep E.dp && freeD st.bx d && st.fr.all (fun y => y.2.noK ⟨E.dp, d⟩) && st.bx.all (fun y => AV.noKL ⟨E.dp, d⟩ y.2)
    then (match cs[off]? with
      | some .z => some (.p ⟨E.dp, d⟩ 0, ({ st with bx := (d, cs) :: st.bx } : St).setBox E.dp ⟨E.dp, d⟩ (cs.set off (.bp t ⟨E.dp, d⟩ false)))
      | _ => none) else none
  | .lz x => match st.ev x with
    | .p k off => (st.box E.dp k).bind fun cs => match cs[off]? with
      | some (.bp _ k' u) => some (if u = true then .p k' off else .z, st)
      | some (.p k2 o2) => some (.p k2 o2, st)
      | _ => none
    | _ => none
  | .pe ng x y => match st.ev x, st.ev y with
    | .z, .z => some (.b (!ng), st)
    | .p _ _, .z => some (.b ng, st)
    | .p k o, .p k' o' => if k = k' ∧ o = o' then some (.b (!ng), st) else none
    | _, _ => none
  | .cp t n off x => match st.ev x with
    | .p k o => (st.box E.dp k).bind fun cs => if o = off ∧ cs.length = n then (match cs[off]? with
      | some (.bp t' _ _) => if t' = t then some (.p k o, st) else none
      | _ => none) else none
    | _ => none
  | .aq t x y => d.bind fun d => match st.ev y with
    | .s l => (consume E st t x).bind fun r =>
      if decide (r.1.length + l.length ≤ 140737488355328) && decide (r.1.length + l.length ≤ maxLen) then some (.o t (r.1 ++ l.map byteAV), r.2.dropB (.s d)) else none
    | _ => none
  | .sz x y => match st.ev x, st.ev y with
    | .p k off, .p k2 o2 => if (Pl.c k off).mine E then (st.box E.dp k).bind fun cs => match cs[off]? with
        | some (.bp t k' _) => if k2 = k ∧ o2 = off ∧ k' = k then some (.u, st.setBox E.dp k (cs.set off (.bp t k true))) else none
        | _ => none
      else none
    | _, _ => none
  | .tx x => (st.elems E.dp (st.ev x)).bind fun r => (bytesOf r.2).bind fun l => if l = [] then none else some (.s l, st)
  | .sb f x => match st.ev x with
    | .p k off => if (Pl.c k (off + 1)).mine E then (st.box E.dp k).bind fun cs => match cs[off + 1]? with
        | some (.o t es) => (Ω f [.u, .u, .i .i64 t]).bind fun z => match z with
          | .s [] => (bytesOf es).bind fun l => if l = [] then none else some (.s l, (st.dropB (.c k (off + 1))).setBox E.dp k (cs.set (off + 1) .u))
          | _ => none
        | _ => none
      else none
    | _ => none

def put (st : St) (d : Option Nat) (x : AV) : St :=
  match d with
  | some d => st.fset d x
  | none => st
/-- does a guard say yes? -/
def asG : AV → Bool → Option Bool
  | .b x, want => some (x == want)
  | .sk, _ => some false
  | _, _ => none
/-- a row that is told to be frozen is frozen at once. -/
def frz : Bool → AV → AV
  | true, .o t es => .l t es
  | _, x => x
def execG (R : Rec) (Ω : Orc) (E : Env) (st : St) (g : GOp) : Option St :=
  match g.g with
  | none => (execOp R Ω E st g.d g.o).bind fun r => some (put r.2 g.d (frz g.fz r.1))
  | some (j, want) => (asG (fget st.fr j) want).bind fun y =>
    if y = true then (execOp R Ω E st g.d g.o).bind fun r => some (put r.2 g.d (frz g.fz r.1)) else some (put st g.d .sk)
def execOps (R : Rec) (Ω : Orc) (E : Env) : St → List GOp → Option St
  | st, [] => some st
  | st, g :: gs => (execG R Ω E st g).bind fun st' => execOps R Ω E st' gs

def keepF (fr : List (Nat × AV)) (ks : List Nat) : List (Nat × AV) := ks.map fun k => (k, fget fr k)
def keepB (bx : List (Nat × List AV)) : List Nat → List (Nat × List AV)
  | [] => []
  | k :: ks => match bget bx k with
    | some cs => (k, cs) :: keepB bx ks
    | none => keepB bx ks
def St.keep (st : St) (kf kb : List Nat) : St := { st with fr := keepF st.fr kf, bx := keepB st.bx kb }

/-- what an operation of a drawn region sees. -/
def view (p : DOp) (s : St) : St := ⟨keepF s.fr p.vw, keepB s.bx p.vb, if p.vh = true then s.hp else fun _ => none⟩
def isU : AV → Bool
  | .u => true
  | _ => false
def isO : AV → Bool
  | .o _ _ => true
  | _ => false
def lightOk (v : St) : AOp → Bool
  | .as x => (v.ev x).copy
  | .mv x => !isU (v.ev x)
  | .ap _ _ _ x _ => match v.ev x with
    | .o _ _ => true
    | .n => true
    | .r (.c _ _) => true
    | _ => false
  | .st _ x y => ((v.ev y).copy || isO (v.ev y)) && match v.ev x with
    | .p _ _ => true
    | _ => false
  | _ => true
def isRC : AV → Bool
  | .r (.c _ _) => true
  | _ => false
/-- a row that is put into a box: a slot's, into a box of one's own; a row in a box that is appended to. -/
def lightSt (dp : Nat) (p : DOp) (v : St) : Bool :=
  match p.p.o with
  | .st _ x y => !isO (v.ev y) || (match v.ev x with
    | .p k _ => decide (k.dp = dp) && p.vb == [k.d] && (match y with
      | .t m => p.cs == [m]
      | .c _ => false)
    | _ => false)
  | .ap _ _ _ x _ => isRC (v.ev x) == (p.cs.length == 2)
  | _ => true
/-- it does not borrow of that box. -/
def borX (k : Key) : AV → Bool
  | .r (.c k' _) => decide (k' = k)
  | .v (.c k' _) _ _ => decide (k' = k)
  | .q (.c k' _) _ _ _ => decide (k' = k)
  | _ => false
def okRes (dp : Nat) (mk : List Nat) (x : AV) : Bool := mk.all fun h => x.noK ⟨dp, h⟩ && !x.bor (.s h)
/-- it borrows of none of these boxes; 1000000 stands for all of them. -/
def okB (dp : Nat) (nb : List Nat) (x : AV) : Bool := (nb.all fun h => !borX ⟨dp, h⟩ x) && (!nb.contains 1000000 || !borC x)
/-- what an operation changes. -/
structure Patch where
  fr : List (Nat × AV)
  nb : List (Nat × List AV)
  wb : List (Nat × List AV)
  hp : Option HP
def bsets (bx : List (Nat × List AV)) : List (Nat × List AV) → List (Nat × List AV)
  | [] => bx
  | (b, cs) :: r => bset (bsets bx r) b cs
def Patch.app (q : Patch) (s : St) : St := ⟨q.fr ++ s.fr, q.nb ++ bsets s.bx q.wb, q.hp.getD s.hp⟩
def dput (d : Option Nat) (x : AV) : List (Nat × AV) :=
  match d with
  | some d => [(d, x)]
  | none => []
def effect (p : DOp) (r : AV × St) : Patch :=
  match p.p.o with
  | .al zs => match p.p.d with
    | some d => ⟨[(d, r.1)], [(d, zs)], [], none⟩
    | none => ⟨[], [], [], none⟩
  | .st _ _ _ => ⟨p.cs.map (fun m => (m, .u)), [], keepB r.2.bx p.vb, if p.vh = true then some r.2.hp else none⟩
  | .ap _ _ _ _ _ => ⟨dput p.p.d (frz p.p.fz r.1) ++ p.cs.map (fun m => (m, .u)), [], if (p.cs.length == 2) = true then keepB r.2.bx p.vb else [], if (p.cs.length == 2 && p.vh) = true then some r.2.hp else none⟩
  | _ => ⟨dput p.p.d (frz p.p.fz r.1) ++ p.cs.map (fun m => (m, .u)), [], [], none⟩
def coreL (R : Rec) (Ω : Orc) (E : Env) (p : DOp) (v : St) : Option Patch :=
  if (lightOk v p.p.o && lightSt E.dp p v) = true then (execOp R Ω E v p.p.d p.p.o).bind fun r => if (okRes E.dp p.nk r.1 && okB E.dp p.nb r.1) = true then some (effect p r) else none else none
def patchL (R : Rec) (Ω : Orc) (E : Env) (p : DOp) (s : St) : Option Patch :=
  match p.p.g with
  | none => coreL R Ω E p (view p s)
  | some (j, want) => (asG (fget s.fr j) want).bind fun y => if y = true then coreL R Ω E p (view p s) else some ⟨dput p.p.d .sk, [], [], none⟩
def execD1 (R : Rec) (Ω : Orc) (E : Env) (s : St) (p : DOp) : Option St :=
  if p.lt = true then (patchL R Ω E p s).bind fun q => some (q.app s) else execG R Ω E s p.p
def execD (R : Rec) (Ω : Orc) (E : Env) : St → List DOp → Option St
  | st, [] => some st
  | st, p :: ps => (execD1 R Ω E st p).bind fun st' => execD R Ω E st' ps
def isRowSt : AOp → List Nat → Bool
  | .st _ _ _, cs => !cs.isEmpty
  | _, _ => false
/-- nothing in sight borrows of the boxes into which rows are put. -/
def freeB (dp : Nat) (st : St) (p : DOp) : Bool := !isRowSt p.p.o p.cs || p.vb.all fun h => st.fr.all fun y => !borX ⟨dp, h⟩ y.2
/-- nothing in sight names that slot's box or borrows that slot's row. -/
def freeOf (dp : Nat) (st : St) (h : Nat) : Bool := (bget st.bx h).isNone && st.fr.all (fun y => y.2.noK ⟨dp, h⟩ && !y.2.bor (.s h)) && st.bx.all (fun y => AV.noKL ⟨dp, h⟩ y.2)

/-- a number for a row of that type, which no box has. -/
def noPin (dp : Nat) (st : St) (t d : Nat) : Bool := ((bget st.bx d).isNone && decide (1000000 ≤ d) && decide ((d - 1000000) / 1000 = t)) && st.fr.all (fun y => y.2.noK ⟨dp, d⟩) && st.bx.all (fun y => AV.noKL ⟨dp, d⟩ y.2)
def doPre1 (E : Env) (st : St) : Pre → Option St
  | .own d t => match fget st.fr d with
    | .n => some ((st.dropB (.s d)).fset d (.o t []))
    | .o _ _ => some st
    | _ => none
  | .fz d => match fget st.fr d with
    | .o t es => some (st.fset d (.l t es))
    | _ => none
  | .ownC d off t => match fget st.fr d with
    | .p k o => if (Pl.c k (o + off)).mine E then
        (st.box E.dp k).bind fun cs => match cs[o + off]? with
          | some .n => some ((st.dropB (.c k (o + off))).setBox E.dp k (cs.set (o + off) (.o t [])))
          | some (.o _ _) => some st
          | _ => none
      else none
    | _ => none
  | .fzC d off => match fget st.fr d with
    | .p k o => if (Pl.c k (o + off)).mine E then
        (st.box E.dp k).bind fun cs => match cs[o + off]? with
          | some (.o t es) => some (st.setBox E.dp k (cs.set (o + off) (.l t es)))
          | some (.l _ _) => some st
          | some (.f _ _) => some (st.setBox E.dp k (cs.set (o + off) .u))
          | some .nf => some st
          | _ => none
      else none
    | _ => none
  | .fzB d agg => match fget st.fr d with
    | .p k 0 => if k.dp = E.dp then
        (bget st.bx k.d).bind fun cs => if AV.pureL cs then
            if agg then some { (st.fset d (.e (.a cs) 0)) with bx := st.bx.filter fun y => y.1 != k.d }
            else match cs with
              | [c] => some { (st.fset d (.e c 0)) with bx := st.bx.filter fun y => y.1 != k.d }
              | _ => none
          else none
      else none
    | _ => none
  | .pin d off nd sz => match fget st.fr d with
    | .p k o => if k.dp = E.dp then
        (bget st.bx k.d).bind fun cs => match cs[o + off]? with
          | some (.o t es) => if es.isEmpty = true then some (((st.setBox E.dp k (cs.set (o + off) .u)).dropB (.c k (o + off))).setBox E.dp k ((cs.set (o + off) .u).set (o + off) (.l 0 [])))
            else if (es.all (fun e => e.nc == sz) && noPin E.dp (st.setBox E.dp k (cs.set (o + off) .u)) t nd) = true then
              some ((({ (st.setBox E.dp k (cs.set (o + off) .u)) with bx := (nd, es.flatMap AV.cl) :: (st.setBox E.dp k (cs.set (o + off) .u)).bx } : St).dropB (.c k (o + off))).setBox E.dp k ((cs.set (o + off) .u).set (o + off) (.sp ⟨E.dp, nd⟩ 0 es.length sz)))
            else none
          | some (.l _ _) => some st
          | _ => none
      else none
    | _ => none
  | .unp d off => match fget st.fr d with
    | .p k o => if k.dp = E.dp then
        (bget st.bx k.d).bind fun cs => match cs[o + off]? with
          | some (.sp k2 0 n sz) => if k2.dp = E.dp ∧ k2 ≠ k then (bget st.bx k2.d).bind fun cs2 =>
              if (AV.pureL cs2 && decide (0 < sz) && decide (n * sz ≤ cs2.length)) = true then
                some ((({ st with bx := st.bx.filter fun y => y.1 != k2.d } : St).dropB (.c k (o + off))).setBox E.dp k (cs.set (o + off) (.l 0 (chunks sz n cs2))))
              else none
            else none
          | some (.l _ _) => some st
          | _ => none
      else none
    | _ => none
def doPre (E : Env) : St → List Pre → Option St
  | st, [] => some st
  | st, p :: ps => (doPre1 E st p).bind fun st' => doPre E st' ps

/-- what a function hands back: rows that it owns are frozen. -/
def St.fin1 (dp : Nat) (st : St) : AV → Option AV
  | .o t es => some (.l t es)
  | .r (.s d) => (st.rowAt dp (.s d)).bind fun r => some (.l r.1 r.2)
  | .r (.c k off) => if k.dp = dp then (st.rowAt dp (.c k off)).bind fun r => some (.l r.1 r.2) else none
  | .v (.s d) lo len => (st.rowAt dp (.s d)).bind fun r => if lo + len ≤ r.2.length then some (.l r.1 ((r.2.drop lo).take len)) else none
  | .w _ _ _ => none
  | .bp _ _ _ => none
  | x => some x
def St.finL (dp : Nat) (st : St) : List AV → Option (List AV)
  | [] => some []
  | x :: xs => (st.fin1 dp x).bind fun y => (st.finL dp xs).bind fun ys => some (y :: ys)
def St.resV (E : Env) (st : St) : RV → Option AV
  | .t n => st.fin1 E.dp (fget st.fr n)
  | .c n sz => match fget st.fr n with
    | .p k off => if k.dp = E.dp then
        (bget st.bx k.d).bind fun cs => (pick sz off cs).bind fun y => match y with
          | .a ds => (st.finL E.dp ds).bind fun ds => some (.a ds)
          | y => st.fin1 E.dp y
      else none
    | _ => none
def St.resAll (E : Env) (st : St) : List RV → Option (List AV)
  | [] => some []
  | x :: xs => (st.resV E x).bind fun y => (st.resAll E xs).bind fun ys => some (y :: ys)
def tup : List AV → AV
  | [x] => x
  | xs => .tp xs
def St.result (E : Env) (st : St) (rs : List RV) : Option AV :=
  (st.resAll E rs).bind fun xs => if AV.pureL xs then some (tup xs) else none

/-- cells of a box that is handed back: nothing in them names a box. -/
def newCell : AV → Bool
  | .o _ _ => true
  | x => x.pure
def St.newOf (E : Env) (st : St) : List RV → Option (List AV)
  | [.t n] => match fget st.fr n with
    | .p k 0 => if k.dp = E.dp then (bget st.bx k.d).bind fun cs => if cs.all newCell then some cs else none else none
    | _ => none
  | _ => none
def St.end_ (E : Env) (st : St) (rs : List RV) : Option AEnd :=
  match st.result E rs with
  | some x => some (.ret x)
  | none => (st.newOf E rs).map .new
def argFr : Nat → List AV → List (Nat × AV)
  | _, [] => []
  | i, x :: xs => (i, x) :: argFr (i + 1) xs

def callF (G : Prg) (X : Env → AC → St → Option (AExit × St)) : Rec := fun E f args hp =>
  (G f).bind fun fn => (X E fn.code ⟨argFr 0 args, [], hp⟩).bind fun r => match r.1 with
    | .ex _ => none
    | _ => (r.2.end_ E fn.res).bind fun x => some (x, r.2.hp)

/-- what stands behind goes on where the first part comes to its end. -/
def goOn (k : St → Option (AExit × St)) (r : AExit × St) : Option (AExit × St) :=
  match r.1 with
  | .nrm => k r.2
  | e => some (e, r.2)
def inBlock (id : Nat) (r : AExit × St) : Option (AExit × St) :=
  match r.1 with
  | .ex id' => if id' = id then some (.nrm, r.2) else some (.ex id', r.2)
  | e => some (e, r.2)

/-- the numbers that an iterator gives. -/
def intsOf : List AV → Option (List Int)
  | [] => some []
  | .i .i64 n :: r => (intsOf r).map (n :: ·)
  | _ => none
def iterOf (Ω : Orc) : AV → Option (List Int)
  | .f f [c] => if (AV.f f [c]).copy = true then ((Ω f [.u, c]).bind fun x => match x with
    | .l 0 es => intsOf es
    | _ => none) else none
  | _ => none
/-- what a round begins with: as a function that is called, one level down. -/
def St.inner (dp : Nat) (st : St) (x : Nat) (n : Int) : St := ⟨(x, .i .i64 n) :: st.fr.map fun y => (y.1, if y.2.copy = true then y.2 else .u), [], fun k => st.box dp k⟩
/-- rounds, one for each number. -/
def rounds (dp : Nat) (X : AC → St → Option (AExit × St)) (x : Nat) (y b : AC) : List Int → St → Option (AExit × St)
  | [], st => some (.nrm, st)
  | n :: ns, st => if (st.bx.all fun z => AV.deepL dp z.2) = true then
      (X y (st.inner dp x n)).bind fun q => match q.1 with
        | .nrm => (X b q.2).bind fun r => match r.1 with
          | .nrm => rounds dp X x y b ns (st.back dp r.2.hp)
          | e => some (e, st.back dp r.2.hp)
        | _ => none
    else none
def exec (G : Prg) (Ω : Orc) : Nat → Env → AC → St → Option (AExit × St)
  | 0, _, _, _ => none
  | n + 1, E, c, st =>
    match c with
    | .sk => some (.nrm, st)
    | .rg pre ops kf kb => (doPre E st pre).bind fun st1 => (execOps (callF G (exec G Ω n)) Ω E st1 ops).bind fun st2 => some (.nrm, st2.keep kf kb)
    | .dg pre mks ops kf kb => (doPre E st pre).bind fun st1 => if (mks.all (freeOf E.dp st1) && ops.all (freeB E.dp st1)) = true then
        (execD (callF G (exec G Ω n)) Ω E st1 ops).bind fun st2 => some (.nrm, st2.keep kf kb) else none
    | .sq x y => (exec G Ω n E x st).bind (goOn fun st1 => exec G Ω n E y st1)
    | .ite c x y => (asB (st.ev c)).bind fun z => if z = true then exec G Ω n E x st else exec G Ω n E y st
    | .bl id x => (exec G Ω n E x st).bind (inBlock id)
    | .lp x => (exec G Ω n E x st).bind (goOn fun st1 => exec G Ω n E (.lp x) st1)
    | .ex id => some (.ex id, st)
    | .rt => some (.ret, st)
    | .kp kf kb x => exec G Ω n E x (st.keep kf kb)
    | .bad => none
    | .ru g x y b => if E.ro = true then none else (iterOf Ω (st.ev g)).bind fun ns => rounds E.dp (exec G Ω n ⟨E.dp + 1, false⟩) x y b ns st
end Go.Proofs.Ytmfihcbafljcbaa.A
