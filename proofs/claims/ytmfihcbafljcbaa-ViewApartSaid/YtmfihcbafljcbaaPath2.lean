/- Paths: every operation. -/
import Derived.Test.YtmfihcbafljcbaaPath
set_option linter.unusedSectionVars false
set_option linter.unusedVariables false
set_option linter.unusedSimpArgs false
set_option linter.constructorNameAsVariable false
namespace Go.Proofs.Ytmfihcbafljcbaa.A
open Go
abbrev KW := AV → St → AT → Prop
section
variable (G : Prg) (Ω : Orc) (E : Env) (st : St) (d : Option Nat)
/-- the address of an element. -/
def iaW (sz : Nat) (arr : Option Nat) (x : AV) (xo : Opd) (j : Nat) (a : AT) (k : KW) : Prop :=
  match arr with
  | some len => j < len ∧ (match x with
    | .p kk o => k (.p kk (o + j * sz)) st a
    | .e y o => k (.e y (o + j * sz)) st a
    | _ => False)
  | none => match x with
    | .l _ es => elemW sz es j a fun e r => k (.e e 0) st r
    | .o _ es => match xo with
      | .t m => elemW sz es j a fun _ r => k (.q (.s m) j sz 0) st r
      | .c _ => False
    | .r pl => rowW E st pl a fun _ es r => elemW sz es j r fun _ r => k (.q pl j sz 0) st r
    | .v pl lo len => rowW E st pl a fun _ es r => j < len ∧ lo + len ≤ es.length ∧ (elemW sz es (lo + j) r fun _ r => k (.q pl (lo + j) sz 0) st r)
    | _ => False
def boW (op : BinOp) (bl : Bool) (x y : AV) (a : AT) (k : KW) : Prop :=
  match x, y with
  | .i ki m, .i ki' n => if ki = ki' then
      match op with
      | .add => tkI a fun r a => ki.wrap (m + n) = r ∧ k (.i ki r) st a
      | .sub => tkI a fun r a => ki.wrap (m - n) = r ∧ k (.i ki r) st a
      | .mul => tkI a fun r a => ki.wrap (m * n) = r ∧ k (.i ki r) st a
      | .quo => tkI a fun r a => n ≠ 0 ∧ ki.wrap (m.tdiv n) = r ∧ k (.i ki r) st a
      | .rem => tkI a fun r a => n ≠ 0 ∧ m.tmod n = r ∧ k (.i ki r) st a
      | .or => tkI a fun r a => (if n > m then n else m) = r ∧ k (.i ki r) st a
      | .eql => k (.b (m == n)) st a
      | .neq => k (.b (m != n)) st a
      | .lss => k (.b (decide (m < n))) st a
      | .leq => k (.b (decide (m ≤ n))) st a
      | .gtr => k (.b (decide (n < m))) st a
      | .geq => k (.b (decide (n ≤ m))) st a
      | _ => False
    else False
  | .b m, .b n => match bl, op with
    | true, .eql => k (.b (m == n)) st a
    | true, .neq => k (.b (!(m == n))) st a
    | _, _ => False
  | .s m, .s n => match op with
    | .add => tkS a fun r a => m.length + n.length ≤ 4611686018427387904 ∧ m ++ n = r ∧ k (.s r) st a
    | .eql => k (.b (m == n)) st a
    | .neq => k (.b (!(m == n))) st a
    | _ => False
  | _, _ => False
def ldW (n : Option Nat) (x : AV) (a : AT) (k : KW) : Prop :=
  match x with
  | .p kk off => boxW E st kk a fun cs a => match pick n off cs with
    | some (.o _ _) => k (.r (.c kk off)) st a
    | some y => ifW y.copy (k y st a)
    | none => False
  | .e x off => match pick n off x.cl with
    | some y => k y st a
    | none => False
  | .q pl i sz off => rowW E st pl a fun _ es a => elemW sz es i a fun e a => match pick n off e.cl with
    | some y => k y st a
    | none => False
  | _ => False
def stW (n : Nat) (x y : AV) (yo : Opd) (a : AT) (k : KW) : Prop :=
  match x with
  | .p kk off => E.ro = false ∧ (boxW E st kk a fun cs a => match y with
    | .o t es => match yo with
      | .t m => ifW (n == 1 && decide (off < cs.length)) (putBoxW E ((st.fset m .u).dropB (.c kk off)) kk (cs.set off (.o t es)) a fun st' a => k .u st' a)
      | .c _ => False
    | .v pl lo len => pl = .c kk off ∧ ifW (lo == 0 && n == 1) (rowW E st pl a fun t es a => tkL a fun es' a => len ≤ es.length ∧ es.take len = es' ∧ (putBoxW E (st.dropB (.c kk off)) kk (cs.set off (.o t es')) a fun st' a => k .u st' a))
    | y => y.deep kk.dp = true ∧ ifW (y.copy && y.nc == n && y.cl.all AV.one && decide (off + n ≤ cs.length)) (putBoxW E st kk (putCells cs off y.cl) a fun st' a => k .u st' a))
  | .q pl i sz off => E.ro = false ∧ (rowW E st pl a fun t es a => tkV a fun e a => es[i]? = some e ∧ ifW (e.nc == sz && y.pure && y.nc == n && y.cl.all AV.one && decide (off + n ≤ sz)) (tkL a fun es' a => es.set i (putCl e off y.cl) = es' ∧ (putAtW E st (.o t es') pl a fun st' a => k .u st' a)))
  | _ => False
def bndW (x : Option AV) (dflt : Nat) (a : AT) (k : Nat → AT → Prop) : Prop :=
  match x with
  | none => k dflt a
  | some y => natW y a k
def slW (t sz : Nat) (x : AV) (lo hi : Option AV) (a : AT) (k : KW) : Prop :=
  match x with
  | .s l => bndW lo 0 a fun i a => bndW hi l.length a fun j a => tkS a fun r a => t = 0 ∧ i ≤ j ∧ j ≤ l.length ∧ (l.take j).drop i = r ∧ k (.s r) st a
  | .l t' es => bndW lo 0 a fun i a => bndW hi es.length a fun j a => tkL a fun r a => t ≠ 0 ∧ es.all (fun e => e.nc == sz) = true ∧ i ≤ j ∧ j ≤ es.length ∧ (es.take j).drop i = r ∧ k (.l t' r) st a
  | .r pl => rowW E st pl a fun t' es a => bndW lo 0 a fun i a => bndW hi es.length a fun j a => tkN a fun m a => ifW (t != 0 && t' == t) (i ≤ j ∧ j ≤ es.length ∧ j - i = m ∧ k (.v pl i m) st a)
  | _ => False
def consumeW (t : TypeId) (x : Opd) (a : AT) (k : List AV → St → AT → Prop) : Prop :=
  match x with
  | .c .n => k [] st a
  | .c _ => False
  | .t m => match fget st.fr m with
    | .n => k [] st a
    | .o t' es => ifW (t' == t) (k es (st.fset m .u) a)
    | .r pl => E.ro = false ∧ (rowW E st pl a fun t' es a => ifW (t' == t) (putAtW E st .u pl a fun st' a => k es st' a))
    | .v pl lo len => E.ro = false ∧ ifW (lo == 0) (rowW E st pl a fun t' es a => tkL a fun es' a => len ≤ es.length ∧ t' = t ∧ es.take len = es' ∧ (putAtW E st .u pl a fun st' a => k es' st' a))
    | _ => False
noncomputable def caW (m : Nat) (f : FuncId) (args : List AV) (a : AT) (k : KW) : Prop :=
  match m with
  | 0 => lendW E st args a fun ys ts a => tkV a fun x a => call G Ω ⟨0, false⟩ f ys (fun _ => none) = some (.ret x, fun _ => none) ∧ (match ts with
    | [] => ifW x.pure (k x st a)
    | ts => x.pure = true ∧ x.off ts = true ∧ k x st a)
  | 1 => lendW E st args a fun ys ts a => tkV a fun x a => Ω f ys = some x ∧ (match ts with
    | [] => ifW x.pure (k x st a)
    | ts => x.pure = true ∧ x.off ts = true ∧ k x st a)
  | _ => False
noncomputable def c2W (f : FuncId) (args : List AV) (a : AT) (k : KW) : Prop :=
  match args.all AV.lendy with
  | true => caW G Ω E st 0 f args a k
  | false => E.ro = false ∧ (st.bx.all fun y => AV.deepL E.dp y.2) = true ∧ ifW (args.all AV.copy) (tkV a fun x a => tkH a fun h2 a => tkBx a fun bx a => tkH a fun h3 a =>
    call G Ω ⟨E.dp + 1, false⟩ f args (fun kk => st.box E.dp kk) = some (.ret x, h2) ∧ backB E.dp h2 st.bx = bx ∧ (fun kk : Key => if kk.dp < E.dp then h2 kk else none) = h3 ∧
    k x ⟨st.fr.map fun y => (y.1, if borC y.2 = true then .u else y.2), bx, h3⟩ a)
noncomputable def c3W (f : FuncId) (args : List AV) (a : AT) (k : KW) : Prop :=
  (st.bx.all fun y => AV.deepL E.dp y.2) = true ∧ ifW (args.all AV.copy) (tkV a fun x a => tkH a fun h2 a => call G Ω ⟨E.dp + 1, true⟩ f args (fun kk => st.box E.dp kk) = some (.ret x, h2) ∧ ifW x.pure (k x st a))
noncomputable def cnW (dd : Nat) (f : FuncId) (args : List AV) (a : AT) (k : KW) : Prop :=
  E.ro = false ∧ (st.bx.all fun y => AV.deepL E.dp y.2) = true ∧ ifW (args.all AV.copy) (tkL a fun cs a => tkH a fun h2 a => tkBx a fun bx a => tkH a fun h3 a =>
    call G Ω ⟨E.dp + 1, false⟩ f args (fun kk => st.box E.dp kk) = some (.new cs, h2) ∧ backB E.dp h2 st.bx = bx ∧ (fun kk : Key => if kk.dp < E.dp then h2 kk else none) = h3 ∧
    noBox E.dp ⟨st.fr.map fun y => (y.1, if borC y.2 = true then .u else y.2), bx, h3⟩ dd = true ∧
    k (.p ⟨E.dp, dd⟩ 0) ⟨st.fr.map fun y => (y.1, if borC y.2 = true then .u else y.2), (dd, cs) :: bx, h3⟩ a)
noncomputable def opW (a : AT) (o : AOp) (k : KW) : Prop :=
  match o with
  | .mv x => match st.ev x with
    | .o _ _ => match x with
      | .t n => k (.r (.s n)) st a
      | .c _ => False
    | y => k y st a
  | .as x => match x with
    | .c y => ifW y.pure (k y st a)
    | .t n => match fget st.fr n with
      | .o t es => match d with
        | some d => k (.o t es) ((st.fset n .u).dropB (.s d)) a
        | none => False
      | .v pl lo len => match d with
        | some d => tkB a fun own a => match own with
          | true => pl = .s d ∧ ifW (lo == 0) (rowW E st pl a fun t es a => tkL a fun es' a => len ≤ es.length ∧ es.take len = es' ∧ k (.o t es') (st.dropB (.s d)) a)
          | false => (pl = .s d → (lo == 0) = false) ∧ k (.v pl lo len) st a
        | none => False
      | y => ifW (y.copy || isBor y) (k y st a)
  | .pk c x y => match st.ev c with
    | .b z => tkB a fun w a => z = w ∧ (match w with
      | true => ifW (st.ev x).copy (k (st.ev x) st a)
      | false => ifW (st.ev y).copy (k (st.ev y) st a))
    | _ => False
  | .bx x => match d with
    | some d => ((st.ev x).deep E.dp && (st.fr.all (fun y => y.2.noK ⟨E.dp, d⟩) && st.bx.all (fun y => AV.noKL ⟨E.dp, d⟩ y.2))) = true ∧
      ifW ((st.ev x).copy && (st.ev x).cl.all AV.one && freeD st.bx d) (k (.p ⟨E.dp, d⟩ 0) { st with bx := (d, (st.ev x).cl) :: st.bx } a)
    | none => False
  | .al zs => match d with
    | some d => (st.fr.all (fun y => y.2.noK ⟨E.dp, d⟩) && st.bx.all (fun y => AV.noKL ⟨E.dp, d⟩ y.2)) = true ∧ ifW (freeD st.bx d) (k (.p ⟨E.dp, d⟩ 0) { st with bx := (d, zs) :: st.bx } a)
    | none => False
  | .ld n x => ldW E st n (st.ev x) a k
  | .st n x y => stW E st n (st.ev x) (st.ev y) y a k
  | .fa off x => match st.ev x with
    | .p kk o => k (.p kk (o + off)) st a
    | .e y o => k (.e y (o + off)) st a
    | .q pl i sz o => rowW E st pl a fun _ es a => i < es.length ∧ k (.q pl i sz (o + off)) st a
    | _ => False
  | .fd n off x => match st.ev x with
    | .a cs => match pick n off cs with
      | some y => k y st a
      | none => False
    | _ => False
  | .ia sz arr x i => natW (st.ev i) a fun j a => iaW E st sz arr (st.ev x) x j a k
  | .ix x i => match st.ev x with
    | .s l => natW (st.ev i) a fun j a => tkI a fun c a => (l[j]?).map (fun z : UInt8 => (z.toNat : Int)) = some c ∧ k (.i .u8 c) st a
    | _ => False
  | .bo op bl x y => boW st op bl (st.ev x) (st.ev y) a k
  | .no x => match st.ev x with
    | .b y => k (.b (!y)) st a
    | _ => False
  | .ng x => match st.ev x with
    | .i ki n => tkI a fun r a => ki.wrap (0 - n) = r ∧ k (.i ki r) st a
    | _ => False
  | .ae ks ng x y => match st.ev x, st.ev y with
    | .a xs, .a ys => tkB a fun r a => sameCells ks xs ys = some r ∧ k (.b (if ng then !r else r)) st a
    | _, _ => False
  | .cs x => match st.ev x with
    | .i _ n => tkS a fun r a => (0 ≤ n ∧ n < 128) ∧ [UInt8.ofNat n.toNat] = r ∧ k (.s r) st a
    | _ => False
  | .cv ki x => match st.ev x with
    | .i _ n => tkI a fun r a => ki.wrap n = r ∧ k (.i ki r) st a
    | _ => False
  | .bs t sz es => match d with
    | some d => ifW ((es.map st.ev).all fun y => y.pure && y.cl.all AV.one && y.nc == sz) (tkL a fun vs a => es.map st.ev = vs ∧ k (.o t vs) (st.dropB (.s d)) a)
    | none => False
  | .bd zs fs => ifW (fs.all fun f => (st.ev f.2.2).copy && (st.ev f.2.2).nc == f.2.1 && (st.ev f.2.2).cl.all AV.one && decide (f.1 + f.2.1 ≤ zs.length))
      (k (.a (fs.foldl (fun cs f => putCells cs f.1 (st.ev f.2.2).cl) zs)) st a)
  | .ms t _ by_ x n => match d with
    | some d => natW (st.ev n) a fun n a => tkL a fun es a => n * by_ ≤ 140737488355328 ∧ n ≤ maxLen ∧ List.replicate n x = es ∧ k (.o t es) (st.dropB (.s d)) a
    | none => False
  | .sl t sz x lo hi => slW E st t sz (st.ev x) (lo.map st.ev) (hi.map st.ev) a k
  | .ex x i => match st.ev x with
    | .tp vs => match vs[i]? with
      | some y => k y st a
      | none => False
    | _ => False
  | .mf f caps => ifW (AV.copyL (caps.map st.ev)) (k (.f f (caps.map st.ev)) st a)
  | .ca m f args => caW G Ω E st m f (args.map st.ev) a k
  | .cf m x args => match st.ev x with
    | .f f caps => caW G Ω E st m f (args.map st.ev ++ caps) a k
    | _ => False
  | .c2 f args => c2W G Ω E st f (args.map st.ev) a k
  | .d2 x args => match st.ev x with
    | .f f caps => c2W G Ω E st f (args.map st.ev ++ caps) a k
    | _ => False
  | .c3 f args => c3W G Ω E st f (args.map st.ev) a k
  | .d3 x args => match st.ev x with
    | .f f caps => c3W G Ω E st f (args.map st.ev ++ caps) a k
    | _ => False
  | .cn f args => match d with
    | some dd => cnW G Ω E st dd f (args.map st.ev) a k
    | none => False
  | .cr t f args => match d with
    | some dd => ifW (AV.pureL (args.map st.ev)) (Ω f (args.map st.ev) = some (.o t []) ∧ k (.o t []) (st.dropB (.s dd)) a)
    | none => False
  | .ln str x => match st.ev x with
    | .s l => ifW str (tkI a fun n a => (l.length : Int) = n ∧ k (.i .i64 n) st a)
    | y => ifW (!str) (elemsW E st y a fun _ es a => tkI a fun n a => (es.length : Int) = n ∧ k (.i .i64 n) st a)
  | .ap t sz by_ x y => match d with
    | some d => elemsW E st (st.ev y) a fun _ ys a => consumeW E st t x a fun es st' a => tkL a fun r a =>
        ys.all (fun e => e.nc == sz) = true ∧ (es.length + ys.length) * by_ ≤ 140737488355328 ∧ es.length + ys.length ≤ maxLen ∧ es ++ ys = r ∧ k (.o t r) (st'.dropB (.s d)) a
    | none => False
  | .nc x => match st.ev x with
    | .p kk o => k (.p kk o) st a
    | .e y o => k (.e y o) st a
    | .f g caps => k (.f g caps) st a
    | _ => False
  | .cw t f args => match d with
    | some d => ifW (t != 0 && AV.pureL (args.map st.ev)) (tkL a fun ys a => tkV a fun x a => AV.untL t (args.map st.ev) = some ys ∧ call G Ω ⟨0, false⟩ f ys (fun _ => none) = some (.ret x, fun _ => none) ∧ (x.pure && AV.onlyT t x) = true ∧ k (.w d t x) st a)
    | none => False
  | .vi _ _ _ => False
  | .ch _ _ _ _ _ => False
  | .bz t off x => match d with
    | some d => ((st.ev x).deep E.dp && (st.fr.all (fun y => y.2.noK ⟨E.dp, d⟩) && st.bx.all (fun y => AV.noKL ⟨E.dp, d⟩ y.2))) = true ∧
      ifW ((st.ev x).copy && (st.ev x).cl.all AV.one && freeD st.bx d) (match (st.ev x).cl[off]? with
        | some .z => k (.p ⟨E.dp, d⟩ 0) { st with bx := (d, (st.ev x).cl.set off (.bp t ⟨E.dp, d⟩ false)) :: st.bx } a
        | _ => False)
    | none => False
  | .lz x => match st.ev x with
    | .p kk off => boxW E st kk a fun cs a => match cs[off]? with
      | some (.bp _ k' u) => tkB a fun v a => u = v ∧ (match v with
        | true => k (.p k' off) st a
        | false => k .z st a)
      | _ => False
    | _ => False
  | .pe ng x y => match st.ev x, st.ev y with
    | .z, .z => k (.b (!ng)) st a
    | .p _ _, .z => k (.b ng) st a
    | .p kk o, .p k' o' => (kk = k' ∧ o = o') ∧ k (.b (!ng)) st a
    | _, _ => False
  | .cp t n off x => match st.ev x with
    | .p kk o => boxW E st kk a fun cs a => ifW (o == off && cs.length == n) (match cs[off]? with
      | some (.bp t' _ _) => ifW (t' == t) (k (.p kk o) st a)
      | _ => False)
    | _ => False
  | .aq t x y => match d with
    | some d => match st.ev y with
      | .s l => consumeW E st t x a fun es st' a => tkL a fun r a => (es.length + l.length ≤ 140737488355328 ∧ es.length + l.length ≤ maxLen) ∧ es ++ l.map byteAV = r ∧ k (.o t r) (st'.dropB (.s d)) a
      | _ => False
    | none => False
  | .sz x y => match st.ev x, st.ev y with
    | .p kk off, .p k2 o2 => E.ro = false ∧ (boxW E st kk a fun cs a => match cs[off]? with
      | some (.bp t k' _) => (k2 = kk ∧ o2 = off ∧ k' = kk) ∧ (putBoxW E st kk (cs.set off (.bp t kk true)) a fun st' a => k .u st' a)
      | _ => False)
    | _, _ => False
  | .tx x => elemsW E st (st.ev x) a fun _ es a => tkS a fun l a => bytesOf es = some l ∧ l ≠ [] ∧ k (.s l) st a
  | .sb f x => match st.ev x with
    | .p kk off => E.ro = false ∧ (boxW E st kk a fun cs a => match cs[off + 1]? with
      | some (.o t es) => tkS a fun l a => Ω f [.u, .u, .i .i64 t] = some (.s []) ∧ bytesOf es = some l ∧ l ≠ [] ∧ (putBoxW E (st.dropB (.c kk (off + 1))) kk (cs.set (off + 1) .u) a fun st' a => k (.s l) st' a)
      | _ => False)
    | _ => False
  | .lk _ _ _ _ => False
  | .xw x i => match st.ev x with
    | .w g t (.tp vs) => match vs[i]? with
      | some y => k (wrapW g t y) st a
      | none => False
    | _ => False
  | .sw n x y => match st.ev x with
    | .p kk off => match st.ev y with
      | .w g t (.a cs) => match bget st.bx kk.d with
        | some bs => ifW (decide (kk.dp = E.dp) && off == 0 && cs.length == n && decide (n ≤ bs.length)) (k .u { st with bx := bset st.bx kk.d (putCells bs 0 (cs.map (.w g t))) } a)
        | none => False
      | _ => False
    | _ => False
  | .lw n x => match st.ev x with
    | .p kk off => boxW E st kk a fun cs a => ifW (decide (off + n ≤ cs.length)) (match unw ((cs.drop off).take n) with
      | some y => ifW (y.2.2.all AV.one) (k (.w y.1 y.2.1 (.a y.2.2)) st a)
      | none => False)
    | _ => False
  | .sp f x => match st.ev x with
    | .w g t y => Ω f [y] = some .u ∧ k .u (st.dropG g) a
    | _ => False
end
section
variable {G : Prg} {Ω : Orc} {E : Env} {st : St} {d : Option Nat}
def Told (o : AOp) (k : KW) (G : Prg) (Ω : Orc) (E : Env) (st : St) (d : Option Nat) : Prop := ∃ x st' r, execOp (call G Ω) Ω E st d o = some (x, st') ∧ k x st' r
theorem Told.mk {o : AOp} {k : KW} {x : AV} {st' : St} {r : AT} (h : execOp (call G Ω) Ω E st d o = some (x, st')) (hk : k x st' r) : Told o k G Ω E st d := ⟨x, st', r, h, hk⟩
theorem elemAt_of {sz : Nat} {es : List AV} {j : Nat} {e : AV} {f : AV → AV} (h : es[j]? = some e) (hn : e.nc = sz) : elemAt sz st es[j]? f = some (f e, st) := by
  rw [h]; simp only [elemAt, Option.bind_some, hn, if_true]
theorem boW_ex {op : BinOp} {bl : Bool} {x y : Opd} {a : AT} {k : KW} (h : boW st op bl (st.ev x) (st.ev y) a k) : Told (.bo op bl x y) k G Ω E st d := by
  unfold boW at h
  split at h
  · rename_i ki m ki' n hx hy
    split at h
    · rename_i hki
      subst hki
      split at h
      · obtain ⟨r, a', h1, h2⟩ := tkI_ex h
        exact .mk (by simp only [execOp, hx, hy, bop, if_true, bopI, h1, Option.bind_some]) h2
      · obtain ⟨r, a', h1, h2⟩ := tkI_ex h
        exact .mk (by simp only [execOp, hx, hy, bop, if_true, bopI, h1, Option.bind_some]) h2
      · obtain ⟨r, a', h1, h2⟩ := tkI_ex h
        exact .mk (by simp only [execOp, hx, hy, bop, if_true, bopI, h1, Option.bind_some]) h2
      · obtain ⟨r, a', h0, h1, h2⟩ := tkI_ex h
        exact .mk (by simp only [execOp, hx, hy, bop, if_true, bopI, if_neg h0, h1, Option.bind_some]) h2
      · obtain ⟨r, a', h0, h1, h2⟩ := tkI_ex h
        exact .mk (by simp only [execOp, hx, hy, bop, if_true, bopI, if_neg h0, h1, Option.bind_some]) h2
      · obtain ⟨r, a', h1, h2⟩ := tkI_ex h
        exact .mk (by simp only [execOp, hx, hy, bop, if_true, bopI, h1, Option.bind_some]) h2
      · exact .mk (by simp only [execOp, hx, hy, bop, if_true, bopI, Option.bind_some]) h
      · exact .mk (by simp only [execOp, hx, hy, bop, if_true, bopI, Option.bind_some]) h
      · exact .mk (by simp only [execOp, hx, hy, bop, if_true, bopI, Option.bind_some]) h
      · exact .mk (by simp only [execOp, hx, hy, bop, if_true, bopI, Option.bind_some]) h
      · exact .mk (by simp only [execOp, hx, hy, bop, if_true, bopI, Option.bind_some]) h
      · exact .mk (by simp only [execOp, hx, hy, bop, if_true, bopI, Option.bind_some]) h
      · exact h.elim
    · exact h.elim
  · rename_i m n hx hy
    split at h
    · exact .mk (by simp only [execOp, hx, hy, bop, if_true, Option.bind_some]) h
    · exact .mk (by simp only [execOp, hx, hy, bop, if_true, Option.bind_some]) h
    · exact h.elim
  · rename_i m n hx hy
    split at h
    · obtain ⟨r, a', h0, h1, h2⟩ := tkS_ex h
      exact .mk (by simp only [execOp, hx, hy, bop, if_pos h0, h1, Option.bind_some]) h2
    · exact .mk (by simp only [execOp, hx, hy, bop, Option.bind_some]) h
    · exact .mk (by simp only [execOp, hx, hy, bop, Option.bind_some]) h
    · exact h.elim
  · exact h.elim
theorem ldW_ex {n : Option Nat} {x : Opd} {a : AT} {k : KW} (h : ldW E st n (st.ev x) a k) : Told (.ld n x) k G Ω E st d := by
  unfold ldW at h
  split at h
  · rename_i kk off hx
    obtain ⟨cs, r, h1, h2⟩ := boxW_ex h
    split at h2
    · rename_i t es hp
      exact .mk (by simp only [execOp, hx, h1, hp, Option.bind_some]) h2
    · rename_i y hy hp
      obtain ⟨h3, h4⟩ := ifW_ex h2
      refine .mk (x := y) (st' := st) ?_ h4
      simp only [execOp, hx, h1, hp, Option.bind_some, if_pos h3]
    · exact h2.elim
  · rename_i y off hx
    split at h
    · rename_i z hp
      exact .mk (by simp only [execOp, hx, hp, Option.bind_some]) h
    · exact h.elim
  · rename_i pl i sz off hx
    obtain ⟨t, es, r, h1, h2⟩ := rowW_ex h
    obtain ⟨e, r', h3, h4, h5⟩ := elemW_ex h2
    split at h5
    · rename_i z hp
      exact .mk (by simp only [execOp, hx, h1, h3, hp, h4, if_true, Option.bind_some]) h5
    · exact h5.elim
  · exact h.elim
theorem stW_ex {n : Nat} {x y : Opd} {a : AT} {k : KW} (h : stW E st n (st.ev x) (st.ev y) y a k) : Told (.st n x y) k G Ω E st d := by
  unfold stW at h
  split at h
  · rename_i kk off hx
    obtain ⟨hro, h⟩ := h
    obtain ⟨cs, r, h1, h2⟩ := boxW_ex h
    split at h2
    · rename_i t es hy
      split at h2
      · rename_i m
        obtain ⟨h3, h4⟩ := ifW_ex h2
        obtain ⟨r', h5⟩ := putBoxW_ex h4
        exact .mk (by simp only [execOp, hx, mine_of hro, if_true, h1, hy, Option.bind_some, if_pos h3]) h5
      · exact h2.elim
    · rename_i pl lo len hy
      obtain ⟨rfl, h2⟩ := h2
      obtain ⟨h3, h4⟩ := ifW_ex h2
      obtain ⟨t, es, r1, h5, h6⟩ := rowW_ex h4
      obtain ⟨es', r2, h7, rfl, h9⟩ := tkL_ex h6
      obtain ⟨r', h10⟩ := putBoxW_ex h9
      simp only [Bool.and_eq_true] at h3
      exact .mk (by simp only [execOp, hx, mine_of hro, if_true, h1, hy, Option.bind_some, h3.1, h3.2, Bool.and_self, decide_true, Bool.true_and, h5, if_pos h7, true_and, and_self]) h10
    · rename_i y' hy1 hy2
      obtain ⟨h0, h2⟩ := h2
      obtain ⟨h3, h4⟩ := ifW_ex h2
      obtain ⟨r', h5⟩ := putBoxW_ex h4
      have h6 : ((st.ev y).copy && (st.ev y).nc == n && (st.ev y).cl.all AV.one && (st.ev y).deep kk.dp && decide (off + n ≤ cs.length)) = true := by
        simp only [Bool.and_eq_true] at h3 ⊢
        exact ⟨⟨h3.1, h0⟩, h3.2⟩
      refine .mk (x := .u) (st' := st.setBox E.dp kk (putCells cs off (st.ev y).cl)) ?_ h5
      simp only [execOp, hx, mine_of hro, if_true, h1, Option.bind_some, if_pos h6]
  · rename_i pl i sz off hx
    obtain ⟨hro, h⟩ := h
    obtain ⟨t, es, r, h1, h2⟩ := rowW_ex h
    obtain ⟨e, r1, h3, h4⟩ := tkV_ex h2
    obtain ⟨h5, h6⟩ := ifW_ex h4
    obtain ⟨es', r2, rfl, h8⟩ := tkL_ex h6
    obtain ⟨st', r3, h9, h10⟩ := putAtW_ex h8
    exact .mk (by simp only [execOp, hx, mine_of hro, if_true, h1, h3, Option.bind_some, if_pos h5, h9]) h10
  · exact h.elim
theorem bndW_ex {x : Option Opd} {dflt : Nat} {a : AT} {k : Nat → AT → Prop} (h : bndW (x.map st.ev) dflt a k) : ∃ j r, bndOf st x dflt = some j ∧ k j r := by
  cases x with
  | none => exact ⟨dflt, a, rfl, h⟩
  | some y =>
    obtain ⟨j, r, h1, h2⟩ := natW_ex (x := st.ev y) h
    exact ⟨j, r, h1, h2⟩
theorem slW_ex {t sz : Nat} {x : Opd} {lo hi : Option Opd} {a : AT} {k : KW} (h : slW E st t sz (st.ev x) (lo.map st.ev) (hi.map st.ev) a k) : Told (.sl t sz x lo hi) k G Ω E st d := by
  unfold slW at h
  split at h
  · rename_i l hx
    obtain ⟨i, r1, h1, h2⟩ := bndW_ex h
    obtain ⟨j, r2, h3, h4⟩ := bndW_ex h2
    obtain ⟨z, r3, rfl, h5, h6, rfl, h8⟩ := tkS_ex h4
    exact .mk (by simp [execOp, hx, h1, h3, h5, h6]) h8
  · rename_i t' es hx
    obtain ⟨i, r1, h1, h2⟩ := bndW_ex h
    obtain ⟨j, r2, h3, h4⟩ := bndW_ex h2
    obtain ⟨z, r3, h0, hall, h5, h6, rfl, h8⟩ := tkL_ex h4
    exact .mk (by simp only [execOp, hx, h1, h3, Option.bind_some, hall, bne_iff_ne, ne_eq, h0, not_false_eq_true, h5, h6, decide_true, Bool.and_true, Bool.and_self, if_true]) h8
  · rename_i pl hx
    obtain ⟨t', es, r0, hr, h⟩ := rowW_ex h
    obtain ⟨i, r1, h1, h2⟩ := bndW_ex h
    obtain ⟨j, r2, h3, h4⟩ := bndW_ex h2
    obtain ⟨m, r3, h5⟩ := tkN_ex h4
    obtain ⟨h6, h7, h8, rfl, h10⟩ := ifW_ex h5
    exact .mk (by simp only [execOp, hx, hr, h1, h3, Option.bind_some, h6, h7, h8, decide_true, Bool.and_self, if_true]) h10
  · exact h.elim
theorem consumeW_ex {t : TypeId} {x : Opd} {a : AT} {k : List AV → St → AT → Prop} (h : consumeW E st t x a k) : ∃ es st' r, consume E st t x = some (es, st') ∧ k es st' r := by
  unfold consumeW at h
  split at h
  · exact ⟨_, _, a, rfl, h⟩
  · exact h.elim
  · rename_i m
    split at h
    · rename_i hx
      exact ⟨_, _, a, by simp only [consume, hx], h⟩
    · rename_i t' es hx
      obtain ⟨h1, h2⟩ := ifW_ex h
      exact ⟨_, _, a, by simp only [consume, hx, if_pos (beq_iff_eq.1 h1)], h2⟩
    · rename_i pl hx
      obtain ⟨hro, h⟩ := h
      obtain ⟨t', es, r, h1, h2⟩ := rowW_ex h
      obtain ⟨h3, h4⟩ := ifW_ex h2
      obtain ⟨st', r', h5, h6⟩ := putAtW_ex h4
      exact ⟨_, _, r', by simp only [consume, hx, mine_of hro, if_true, h1, Option.bind_some, if_pos (beq_iff_eq.1 h3), h5], h6⟩
    · rename_i pl lo len hx
      obtain ⟨hro, h⟩ := h
      obtain ⟨h0, h⟩ := ifW_ex h
      obtain ⟨t', es, r, h1, h2⟩ := rowW_ex h
      obtain ⟨es', r2, h3, h4, rfl, h6⟩ := tkL_ex h2
      obtain ⟨st', r', h7, h8⟩ := putAtW_ex h6
      exact ⟨_, _, r', by simp only [consume, hx, mine_of hro, h0, Bool.and_self, if_true, h1, Option.bind_some, if_pos (And.intro h3 h4), h7], h8⟩
    · exact h.elim
theorem iaW_ex {sz : Nat} {arr : Option Nat} {x i : Opd} {j : Nat} {a : AT} {k : KW} (hj : natOf (st.ev i) = some j) (h : iaW E st sz arr (st.ev x) x j a k) : Told (.ia sz arr x i) k G Ω E st d := by
  unfold iaW at h
  split at h
  · rename_i len
    obtain ⟨h1, h⟩ := h
    split at h
    · rename_i kk o hx
      exact .mk (by simp only [execOp, hj, Option.bind_some, if_pos h1, hx]) h
    · rename_i y o hx
      exact .mk (by simp only [execOp, hj, Option.bind_some, if_pos h1, hx]) h
    · exact h.elim
  · split at h
    · rename_i t es hx
      obtain ⟨e, r, h1, h2, h3⟩ := elemW_ex h
      exact .mk (by simp only [execOp, hj, Option.bind_some, hx]; exact elemAt_of h1 h2) h3
    · rename_i t es hx
      split at h
      · rename_i m
        obtain ⟨e, r, h1, h2, h3⟩ := elemW_ex h
        exact .mk (by simp only [execOp, hj, Option.bind_some, hx]; exact elemAt_of h1 h2) h3
      · exact h.elim
    · rename_i pl hx
      obtain ⟨t, es, r0, h0, h⟩ := rowW_ex h
      obtain ⟨e, r, h1, h2, h3⟩ := elemW_ex h
      exact .mk (by simp only [execOp, hj, Option.bind_some, hx, h0]; exact elemAt_of h1 h2) h3
    · rename_i pl lo len hx
      obtain ⟨t, es, r0, h0, h4, h5, h⟩ := rowW_ex h
      obtain ⟨e, r, h1, h2, h3⟩ := elemW_ex h
      exact .mk (by simp only [execOp, hj, Option.bind_some, hx, if_pos h4, h0, if_pos h5]; exact elemAt_of h1 h2) h3
    · exact h.elim
theorem caW_ex {m : Nat} {f : FuncId} {args : List AV} {a : AT} {k : KW} (h : caW G Ω E st m f args a k) : ∃ x r, doCall (call G Ω) Ω E st m f args = some (x, st) ∧ k x st r := by
  unfold caW at h
  split at h
  · obtain ⟨ys, ts, r, h1, h2⟩ := lendW_ex h
    obtain ⟨x, r1, h3, h4⟩ := tkV_ex h2
    have h5 : ∃ b, (x.pure && (ts.isEmpty || x.off ts)) = true ∧ b = r1 ∧ k x st b := by
      split at h4
      · obtain ⟨h5, h6⟩ := ifW_ex h4
        exact ⟨r1, by simp [h5], rfl, h6⟩
      · exact ⟨r1, by simp [h4.1, h4.2.1], rfl, h4.2.2⟩
    obtain ⟨b, h6, rfl, h7⟩ := h5
    exact ⟨x, b, by simp only [doCall, h1, Option.bind_some, h3, h6, if_true], h7⟩
  · obtain ⟨ys, ts, r, h1, h2⟩ := lendW_ex h
    obtain ⟨x, r1, h3, h4⟩ := tkV_ex h2
    have h5 : ∃ b, (x.pure && (ts.isEmpty || x.off ts)) = true ∧ b = r1 ∧ k x st b := by
      split at h4
      · obtain ⟨h5, h6⟩ := ifW_ex h4
        exact ⟨r1, by simp [h5], rfl, h6⟩
      · exact ⟨r1, by simp [h4.1, h4.2.1], rfl, h4.2.2⟩
    obtain ⟨b, h6, rfl, h7⟩ := h5
    exact ⟨x, b, by simp only [doCall, h1, Option.bind_some, h3, h6, if_true], h7⟩
  · exact h.elim
theorem c2W_ex {f : FuncId} {args : List AV} {a : AT} {k : KW} (h : c2W G Ω E st f args a k) : ∃ x st' r, doCall2 (call G Ω) Ω E st f args = some (x, st') ∧ k x st' r := by
  unfold c2W at h
  split at h
  · rename_i hc
    obtain ⟨x, r, h1, h2⟩ := caW_ex h
    exact ⟨x, st, r, by rw [doCall2, if_pos hc]; exact h1, h2⟩
  · rename_i hc
    obtain ⟨h1, h2, h⟩ := h
    obtain ⟨h3, h⟩ := ifW_ex h
    obtain ⟨x, r1, h⟩ := tkV_ex h
    obtain ⟨hp2, r2, h⟩ := tkH_ex h
    obtain ⟨bx, r3, h⟩ := tkBx_ex h
    obtain ⟨hp3, r4, h4, rfl, rfl, h5⟩ := tkH_ex h
    refine ⟨x, st.back E.dp hp2, r4, ?_, h5⟩
    rw [doCall2, if_neg (by rw [hc]; simp)]
    simp only [h1, h2, h3, Bool.not_false, Bool.and_self, if_true, h4, Option.bind_some]
theorem c3W_ex {f : FuncId} {args : List AV} {a : AT} {k : KW} (h : c3W G Ω E st f args a k) : ∃ x r, doCall3 (call G Ω) E st f args = some (x, st) ∧ k x st r := by
  obtain ⟨h1, h⟩ := h
  obtain ⟨h2, h⟩ := ifW_ex h
  obtain ⟨x, r1, h⟩ := tkV_ex h
  obtain ⟨hp2, r2, h3, h⟩ := tkH_ex h
  obtain ⟨h4, h5⟩ := ifW_ex h
  exact ⟨x, r2, by simp only [doCall3, h1, h2, Bool.and_self, if_true, h3, Option.bind_some, h4], h5⟩
/-- what a path is told of an operation. -/
theorem opW_ex {o : AOp} {a : AT} {k : KW} (h : opW G Ω E st d a o k) : Told o k G Ω E st d := by
  cases o with
  | mv x =>
    simp only [opW] at h
    split at h
    · rename_i t es hx
      split at h
      · exact .mk (by simp only [execOp, hx]) h
      · exact h.elim
    · rename_i hx
      refine .mk (x := st.ev x) (st' := st) ?_ h
      simp only [execOp]
  | as x =>
    cases x with
    | c y =>
      obtain ⟨h1, h2⟩ := ifW_ex h
      exact .mk (by simp only [execOp, h1, if_true]) h2
    | t n =>
      simp only [opW] at h
      split at h
      · rename_i t es hx
        split at h
        · exact .mk (by simp only [execOp, hx, Option.bind_some]) h
        · exact h.elim
      · rename_i pl lo len hx
        split at h
        · rename_i dd
          obtain ⟨own, r, h⟩ := tkB_ex h
          cases own with
          | true =>
            obtain ⟨rfl, h⟩ := h
            obtain ⟨h1, h⟩ := ifW_ex h
            obtain ⟨t, es, r1, h2, h⟩ := rowW_ex h
            obtain ⟨es', r2, h3, rfl, h5⟩ := tkL_ex h
            exact .mk (by simp only [execOp, hx, Option.bind_some, h1, decide_true, Bool.and_self, and_self, if_true, h2, if_pos h3]) h5
          | false =>
            obtain ⟨h1, h2⟩ := h
            refine .mk (x := .v pl lo len) (st' := st) ?_ h2
            simp only [execOp, hx, Option.bind_some]
            rw [if_neg]
            simp only [Bool.and_eq_true, decide_eq_true_eq]
            rintro ⟨h3, h4⟩
            rw [h1 h3] at h4
            cases h4
        · exact h.elim
      · rename_i hx1 hx2
        obtain ⟨h1, h2⟩ := ifW_ex h
        refine .mk (x := fget st.fr n) (st' := st) ?_ h2
        simp only [execOp, if_pos h1]
  | pk c x y =>
    simp only [opW] at h
    split at h
    · rename_i z hc
      obtain ⟨w, r, rfl, h⟩ := tkB_ex h
      cases z with
      | true =>
        obtain ⟨h1, h2⟩ := ifW_ex h
        exact .mk (by simp only [execOp, hc, asB, Option.bind_some, if_true, h1]) h2
      | false =>
        obtain ⟨h1, h2⟩ := ifW_ex h
        exact .mk (by simp only [execOp, hc, asB, Option.bind_some, Bool.false_eq_true, if_false, h1, if_true]) h2
    · exact h.elim
  | bx x =>
    simp only [opW] at h
    split at h
    · rename_i dd
      obtain ⟨h1, h⟩ := h
      obtain ⟨h2, h3⟩ := ifW_ex h
      simp only [Bool.and_eq_true] at h1 h2
      exact .mk (by simp only [execOp, Option.bind_some, h1.1, h1.2.1, h1.2.2, h2.1.1, h2.1.2, h2.2, Bool.and_self, if_true]) h3
    · exact h.elim
  | al zs =>
    simp only [opW] at h
    split at h
    · rename_i dd
      obtain ⟨h1, h⟩ := h
      obtain ⟨h2, h3⟩ := ifW_ex h
      simp only [Bool.and_eq_true] at h1
      exact .mk (by simp only [execOp, Option.bind_some, h1.1, h1.2, h2, Bool.and_self, if_true]) h3
    · exact h.elim
  | ld n x => exact ldW_ex h
  | st n x y => exact stW_ex h
  | fa off x =>
    simp only [opW] at h
    split at h
    · rename_i hx; exact .mk (by simp only [execOp, hx]) h
    · rename_i hx; exact .mk (by simp only [execOp, hx]) h
    · rename_i hx
      obtain ⟨t, es, r, h1, h2, h3⟩ := rowW_ex h
      exact .mk (by simp only [execOp, hx, h1, Option.bind_some, if_pos h2]) h3
    · exact h.elim
  | fd n off x =>
    simp only [opW] at h
    split at h
    · rename_i cs hx
      split at h
      · rename_i y hy
        exact .mk (by simp only [execOp, hx, hy, Option.bind_some]) h
      · exact h.elim
    · exact h.elim
  | ia sz arr x i =>
    obtain ⟨j, r, h1, h2⟩ := natW_ex (x := st.ev i) h
    exact iaW_ex h1 h2
  | ix x i =>
    simp only [opW] at h
    split at h
    · rename_i l hx
      obtain ⟨j, r, h1, h2⟩ := natW_ex h
      obtain ⟨c, r2, h3, h4⟩ := tkI_ex h2
      cases hl : l[j]? with
      | none => rw [hl] at h3; cases h3
      | some z =>
        rw [hl] at h3
        obtain rfl := Option.some.inj h3
        exact .mk (by simp only [execOp, hx, h1, Option.bind_some, hl]) h4
    · exact h.elim
  | bo op bl x y => exact boW_ex h
  | no x =>
    simp only [opW] at h
    split at h
    · rename_i y hx
      exact .mk (by simp only [execOp, hx, asB, Option.bind_some]) h
    · exact h.elim
  | ng x =>
    simp only [opW] at h
    split at h
    · rename_i hx
      obtain ⟨r, a', h1, h2⟩ := tkI_ex h
      exact .mk (by simp only [execOp, hx, h1]) h2
    · exact h.elim
  | ae ks ng x y =>
    simp only [opW] at h
    split at h
    · rename_i hx hy
      obtain ⟨r, a', h1, h2⟩ := tkB_ex h
      exact .mk (by simp only [execOp, hx, hy, h1, Option.bind_some]) h2
    · exact h.elim
  | cs x =>
    simp only [opW] at h
    split at h
    · rename_i hx
      obtain ⟨r, a', h1, h2, h3⟩ := tkS_ex h
      exact .mk (by simp only [execOp, hx, if_pos h1, h2]) h3
    · exact h.elim
  | cv ki x =>
    simp only [opW] at h
    split at h
    · rename_i hx
      obtain ⟨r, a', h1, h2⟩ := tkI_ex h
      exact .mk (by simp only [execOp, hx, h1]) h2
    · exact h.elim
  | bs t sz es =>
    simp only [opW] at h
    split at h
    · obtain ⟨h1, h2⟩ := ifW_ex h
      obtain ⟨vs, r, rfl, h3⟩ := tkL_ex h2
      exact .mk (by simp only [execOp, Option.bind_some, h1, if_true]) h3
    · exact h.elim
  | bd zs fs =>
    obtain ⟨h1, h2⟩ := ifW_ex h
    exact .mk (by simp only [execOp, h1, if_true]) h2
  | ms t sz by_ x n =>
    simp only [opW] at h
    split at h
    · obtain ⟨m, r, h1, h2⟩ := natW_ex h
      obtain ⟨es, r2, h3, h4, rfl, h6⟩ := tkL_ex h2
      exact .mk (by simp only [execOp, Option.bind_some, h1, h3, h4, decide_true, Bool.and_self, if_true]) h6
    · exact h.elim
  | sl t sz x lo hi => exact slW_ex h
  | ex x i =>
    simp only [opW] at h
    split at h
    · rename_i vs hx
      split at h
      · rename_i y hy
        exact .mk (by simp only [execOp, hx, hy, Option.bind_some]) h
      · exact h.elim
    · exact h.elim
  | mf f caps =>
    obtain ⟨h1, h2⟩ := ifW_ex h
    exact .mk (by simp only [execOp, h1, if_true]) h2
  | ca m f args =>
    obtain ⟨x, r, h1, h2⟩ := caW_ex h
    exact .mk h1 h2
  | cf m x args =>
    simp only [opW] at h
    split at h
    · rename_i f caps hx
      obtain ⟨x, r, h1, h2⟩ := caW_ex h
      exact .mk (by simp only [execOp, hx]; exact h1) h2
    · exact h.elim
  | c2 f args =>
    obtain ⟨x, st', r, h1, h2⟩ := c2W_ex h
    exact .mk h1 h2
  | d2 x args =>
    simp only [opW] at h
    split at h
    · rename_i f caps hx
      obtain ⟨x, st', r, h1, h2⟩ := c2W_ex h
      exact .mk (by simp only [execOp, hx]; exact h1) h2
    · exact h.elim
  | c3 f args =>
    obtain ⟨x, r, h1, h2⟩ := c3W_ex h
    exact .mk h1 h2
  | d3 x args =>
    simp only [opW] at h
    split at h
    · rename_i f caps hx
      obtain ⟨x, r, h1, h2⟩ := c3W_ex h
      exact .mk (by simp only [execOp, hx]; exact h1) h2
    · exact h.elim
  | cn f args =>
    simp only [opW] at h
    split at h
    · rename_i dd
      obtain ⟨h1, h2, h⟩ := h
      obtain ⟨h3, h⟩ := ifW_ex h
      obtain ⟨cs, r1, h⟩ := tkL_ex h
      obtain ⟨hp2, r2, h⟩ := tkH_ex h
      obtain ⟨bx, r3, h⟩ := tkBx_ex h
      obtain ⟨hp3, r4, h4, rfl, rfl, h5, h6⟩ := tkH_ex h
      refine .mk (x := .p ⟨E.dp, dd⟩ 0) (st' := { (st.back E.dp hp2) with bx := (dd, cs) :: (st.back E.dp hp2).bx }) ?_ h6
      have h5' : noBox E.dp (st.back E.dp hp2) dd = true := h5
      simp only [execOp, Option.bind_some, doCallN, h1, h2, h3, Bool.not_false, Bool.and_self, if_true, h4, h5']
    · exact h.elim
  | cr t f args =>
    simp only [opW] at h
    split at h
    · rename_i dd
      obtain ⟨h1, h2, h3⟩ := ifW_ex h
      exact .mk (by simp only [execOp, Option.bind_some, doCallR, h1, if_true, h2]) h3
    · exact h.elim
  | ln str x =>
    simp only [opW] at h
    split at h
    · rename_i l hx
      obtain ⟨h1, h2⟩ := ifW_ex h
      obtain ⟨n, r, h3, h4⟩ := tkI_ex h2
      exact .mk (by simp only [execOp, hx, h1, if_true, h3]) h4
    · rename_i hx
      obtain ⟨h1, h2⟩ := ifW_ex h
      obtain ⟨t, es, r, h3, h4⟩ := elemsW_ex h2
      obtain ⟨n, r, h5, h6⟩ := tkI_ex h4
      have hs : str = false := by simpa using h1
      refine .mk (x := .i .i64 n) (st' := st) ?_ h6
      have hsp : ∀ kk o m s, st.ev x ≠ .sp kk o m s := fun kk o m s e => by rw [e] at h3; cases h3
      simp only [execOp, hs, Bool.false_eq_true, if_false]
      simp only [h3, Option.bind_some, h5]
  | ap t sz by_ x y =>
    simp only [opW] at h
    split at h
    · obtain ⟨t', ys, r, h1, h2⟩ := elemsW_ex h
      obtain ⟨es, st', r2, h3, h4⟩ := consumeW_ex h2
      obtain ⟨z, r3, h5, h6, h7, rfl, h9⟩ := tkL_ex h4
      exact .mk (by simp only [execOp, Option.bind_some, h1, h3, h5, h6, h7, decide_true, Bool.and_self, if_true]) h9
    · exact h.elim
  | nc x =>
    simp only [opW] at h
    split at h
    · rename_i hx; exact .mk (by simp only [execOp, hx]) h
    · rename_i hx; exact .mk (by simp only [execOp, hx]) h
    · rename_i hx; exact .mk (by simp only [execOp, hx]) h
    · exact h.elim
  | cw t f args =>
    simp only [opW] at h
    split at h
    · rename_i dd
      obtain ⟨h1, h⟩ := ifW_ex h
      obtain ⟨ys, r, h⟩ := tkL_ex h
      obtain ⟨x, r, h2, h3, h4, h5⟩ := tkV_ex h
      exact .mk (by simp only [execOp, Option.bind_some, doCallW, if_pos h1, h2, h3, h4, if_true]) h5
    · exact h.elim
  | vi g f args => exact (show False from h).elim
  | ch f args sl dl ow => exact (show False from h).elim
  | bz t off x =>
    simp only [opW] at h
    split at h
    · rename_i dd
      obtain ⟨h1, h⟩ := h
      obtain ⟨h2, h3⟩ := ifW_ex h
      simp only [Bool.and_eq_true] at h1 h2
      split at h3
      · rename_i hz
        refine .mk (x := .p ⟨E.dp, dd⟩ 0) (st' := { st with bx := (dd, (st.ev x).cl.set off (.bp t ⟨E.dp, dd⟩ false)) :: st.bx }) ?_ h3
        simp only [execOp, Option.bind_some, h1.1, h1.2.1, h1.2.2, h2.1.1, h2.1.2, h2.2, Bool.and_self, if_true, hz, St.setBox, bset]
      · exact h3.elim
    · exact h.elim
  | lz x =>
    simp only [opW] at h
    split at h
    · rename_i kk off hx
      obtain ⟨cs, r, h1, h⟩ := boxW_ex h
      split at h
      · rename_i t k' u hc
        obtain ⟨v, r1, rfl, h⟩ := tkB_ex h
        cases u with
        | true => exact .mk (by simp only [execOp, hx, h1, Option.bind_some, hc, if_true]) h
        | false => exact .mk (by simp only [execOp, hx, h1, Option.bind_some, hc, Bool.false_eq_true, if_false]) h
      · exact h.elim
    · exact h.elim
  | pe ng x y =>
    simp only [opW] at h
    split at h
    · rename_i hx hy; exact .mk (by simp only [execOp, hx, hy]) h
    · rename_i hx hy; exact .mk (by simp only [execOp, hx, hy]) h
    · rename_i hx hy; exact .mk (by simp only [execOp, hx, hy, if_pos h.1]) h.2
    · exact h.elim
  | cp t n off x =>
    simp only [opW] at h
    split at h
    · rename_i kk o hx
      obtain ⟨cs, r, h1, h⟩ := boxW_ex h
      obtain ⟨h2, h⟩ := ifW_ex h
      simp only [Bool.and_eq_true, beq_iff_eq] at h2
      split at h
      · rename_i t' k' u hc
        obtain ⟨h3, h⟩ := ifW_ex h
        exact .mk (by simp only [execOp, hx, h1, Option.bind_some, if_pos h2, hc, if_pos (beq_iff_eq.1 h3)]) h
      · exact h.elim
    · exact h.elim
  | aq t x y =>
    simp only [opW] at h
    split at h
    · split at h
      · rename_i l hy
        obtain ⟨es, st', r2, h3, h4⟩ := consumeW_ex h
        obtain ⟨z, r3, h5, rfl, h9⟩ := tkL_ex h4
        exact .mk (by simp only [execOp, Option.bind_some, hy, h3, h5.1, h5.2, decide_true, Bool.and_self, if_true]) h9
      · exact h.elim
    · exact h.elim
  | sb f x =>
    simp only [opW] at h
    split at h
    · rename_i kk off hx
      obtain ⟨hro, h⟩ := h
      obtain ⟨cs, r, h1, h⟩ := boxW_ex h
      split at h
      · rename_i t es hc
        obtain ⟨l, r1, h2, h3, h4, h⟩ := tkS_ex h
        obtain ⟨r', h5⟩ := putBoxW_ex h
        exact .mk (by simp only [execOp, hx, mine_of hro, if_true, h1, Option.bind_some, hc, h2, h3, if_neg h4]) h5
      · exact h.elim
    · exact h.elim
  | tx x =>
    simp only [opW] at h
    obtain ⟨t, es, r, h1, h2⟩ := elemsW_ex h
    obtain ⟨l, r1, h3, h4, h5⟩ := tkS_ex h2
    exact .mk (by simp only [execOp, h1, Option.bind_some, h3, if_neg h4]) h5
  | sz x y =>
    simp only [opW] at h
    split at h
    · rename_i kk off k2 o2 hx hy
      obtain ⟨hro, h⟩ := h
      obtain ⟨cs, r, h1, h⟩ := boxW_ex h
      split at h
      · rename_i t k' u hc
        obtain ⟨h2, h⟩ := h
        obtain ⟨r', h5⟩ := putBoxW_ex h
        exact .mk (by simp only [execOp, hx, hy, mine_of hro, if_true, h1, Option.bind_some, hc, if_pos h2]) h5
      · exact h.elim
    · exact h.elim
  | lk n x y lv => exact (show False from h).elim
  | xw x i =>
    simp only [opW] at h
    split at h
    · rename_i g t vs hx
      split at h
      · rename_i y hy
        exact .mk (by simp only [execOp, hx, hy, Option.bind_some]) h
      · exact h.elim
    · exact h.elim
  | sw n x y =>
    simp only [opW] at h
    split at h
    · rename_i kk off hx
      split at h
      · rename_i g t cs hy
        split at h
        · rename_i bs hb
          obtain ⟨h1, h⟩ := ifW_ex h
          simp only [Bool.and_eq_true, decide_eq_true_eq, beq_iff_eq] at h1
          obtain ⟨⟨⟨h2, h3⟩, h4⟩, h5⟩ := h1
          exact .mk (by simp only [execOp, hx, hy, hb, h2, h3, h4, h5, and_self, if_true, Option.bind_some, St.setBox]) h
        · exact h.elim
      · exact h.elim
    · exact h.elim
  | lw n x =>
    simp only [opW] at h
    split at h
    · rename_i kk off hx
      obtain ⟨cs, r, h1, h⟩ := boxW_ex h
      obtain ⟨h2, h⟩ := ifW_ex h
      split at h
      · rename_i y hy
        obtain ⟨h3, h⟩ := ifW_ex h
        exact .mk (by simp only [execOp, hx, h1, Option.bind_some, if_pos (of_decide_eq_true h2), hy, h3, if_true]) h
      · exact h.elim
    · exact h.elim
  | sp f x =>
    simp only [opW] at h
    split at h
    · rename_i g t y hx
      exact .mk (by simp only [execOp, hx, h.1, Option.bind_some]) h.2
    · exact h.elim
end
end Go.Proofs.Ytmfihcbafljcbaa.A
