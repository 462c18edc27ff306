/- What values an abstract run of the program has: plain lists for what is never changed again, rows and boxes that one place alone owns; and how these lie in the model's memory. -/
import Derived.WalkKit
set_option linter.all false
namespace Go.Proofs.YtlmphbbhaeampaaGreat.A
open Go
class cj where
 n0:Nat
 tg:TypeId→Bool:=fun _=>true
structure Key where
 dp:Nat
 d:Nat
instance:DecidableEq Key:=fun a b=>
 if h:a.d=b.d then
  if h':a.dp=b.dp then isTrue (by cases a;cases b;simp only at h h';rw [h,h'])
  else isFalse fun e=>h' (by rw [e])
 else isFalse fun e=>h (by rw [e])
inductive Pl where
 | s (d:Nat)
 | c (k:Key) (off:Nat)
deriving DecidableEq
inductive AV where
 | u
 | sk
 | b (x:Bool)
 | i (k:IntKind) (n:Int)
 | s (l:List UInt8)
 | n
 | z
 | nf
 | ni
 | l (t:TypeId) (es:List AV)
 | e (x:AV) (off:Nat)
 | f (g:FuncId) (B:List AV)
 | a (cs:List AV)
 | tp (vs:List AV)
 | ifc (t:TypeId) (x:AV)
 | p (k:Key) (off:Nat)
 | o (t:TypeId) (es:List AV)
 | r (pl:Pl)
 | v (pl:Pl) (lo len:Nat)
 | q (pl:Pl) (i sz off:Nat)
 | w (g:Nat) (t:TypeId) (x:AV)
 | bp (t:TypeId) (k:Key) (u:Bool)
 | sp (k:Key) (off n sz:Nat)
 | ag (cs:List AV) (rs:List (Nat×Nat))
namespace AV
def cl:AV→List AV
 | .a cs=>cs
 | x=>[x]
def nc(x:AV):Nat:=x.cl.length
def one:AV→Bool
 | .u=>false
 | .sk=>false
 | .a _=>false
 | .tp _=>false
 | .r _=>false
 | .v _ _ _=>false
 | .q _ _ _ _=>false
 | .ag _ _=>false
 | _=>true
mutual
def pure:AV→Bool
 | .a cs=>bJ cs
 | .tp cs=>bJ cs
 | .f _ cs=>bJ cs
 | .ifc _ x=>pure x
 | .p _ _=>false
 | .o _ _=>false
 | .r _=>false
 | .v _ _ _=>false
 | .q _ _ _ _=>false
 | .u=>false
 | .w _ _ _=>false
 | .bp _ _ _=>false
 | .sp _ _ _ _=>false
 | .ag _ _=>false
 | _=>true
def bJ:List AV→Bool
 | []=>true
 | x::xs=>pure x&&bJ xs
end
mutual
def copy:AV→Bool
 | .a cs=>nj cs
 | .tp cs=>nj cs
 | .f _ cs=>nj cs
 | .ifc _ x=>copy x
 | .o _ _=>false
 | .r _=>false
 | .v _ _ _=>false
 | .q _ _ _ _=>false
 | .u=>false
 | .w _ _ _=>false
 | .bp _ _ _=>false
 | .ag _ _=>false
 | _=>true
def nj:List AV→Bool
 | []=>true
 | x::xs=>copy x&&nj xs
end
mutual
def cU(k:Key):AV→Bool
 | .a cs=>iE k cs
 | .ag cs _=>iE k cs
 | .tp cs=>iE k cs
 | .f _ cs=>iE k cs
 | .ifc _ x=>cU k x
 | .p k' _=>decide (k'≠k)
 | .bp _ k' _=>decide (k'≠k)
 | .sp k' _ _ _=>decide (k'≠k)
 | .r (.c k' _)=>decide (k'≠k)
 | .v (.c k' _) _ _=>decide (k'≠k)
 | .q (.c k' _) _ _ _=>decide (k'≠k)
 | _=>true
def iE(k:Key):List AV→Bool
 | []=>true
 | x::xs=>cU k x&&iE k xs
end
mutual
def deep(d:Nat):AV→Bool
 | .a cs=>fJ d cs
 | .tp cs=>fJ d cs
 | .f _ cs=>fJ d cs
 | .ifc _ x=>deep d x
 | .p k _=>decide (k.dp≤d)
 | .bp _ k _=>decide (k.dp≤d)
 | .sp k _ _ _=>decide (k.dp≤d)
 | .w _ _ _=>false
 | .ag _ _=>false
 | _=>true
def fJ(d:Nat):List AV→Bool
 | []=>true
 | x::xs=>deep d x&&fJ d xs
end
mutual
def off(ts:List TypeId):AV→Bool
 | .a cs=>sJ ts cs
 | .tp cs=>sJ ts cs
 | .f _ cs=>sJ ts cs
 | .ifc _ x=>off ts x
 | .l t es=>es.isEmpty||(t !=0&&!ts.contains t&&sJ ts es)
 | .e _ _=>ts.isEmpty
 | _=>true
def sJ(ts:List TypeId):List AV→Bool
 | []=>true
 | x::xs=>off ts x&&sJ ts xs
end
def fG(pl:Pl):AV→Bool
 | .r x=>decide (x=pl)
 | .v x _ _=>decide (x=pl)
 | .q x _ _ _=>decide (x=pl)
 | .ag _ rs=>match pl with
  | .s d=>rs.any fun q=>q.2==d
  | .c _ _=>false
 | _=>false
end AV
theorem fp{l:List AV}(h:AV.bJ l=true):∀ x∈l,x.pure=true:=by
 induction l with
 | nil=>intro x hx;cases hx
 | cons y l ih=>
  simp only [AV.bJ,Bool.and_eq_true] at h
  intro x hx
  rcases List.mem_cons.1 hx with rfl | hx
  ·exact h.1
  ·exact ih h.2 x hx
theorem zy{l:List AV}(h:AV.nj l=true):∀ x∈l,x.copy=true:=by
 induction l with
 | nil=>intro x hx;cases hx
 | cons y l ih=>
  simp only [AV.nj,Bool.and_eq_true] at h
  intro x hx
  rcases List.mem_cons.1 hx with rfl | hx
  ·exact h.1
  ·exact ih h.2 x hx
theorem jY{l:List AV}(h:∀ x∈l,x.pure=true):AV.bJ l=true:=by
 induction l with
 | nil=>rfl
 | cons y l ih=>
  simp only [AV.bJ,Bool.and_eq_true]
  exact ⟨h y (by simp),ih fun x hx=>h x (by simp [hx])⟩
theorem jZ{k:Key}{l:List AV}(h:AV.iE k l=true):∀ x∈l,x.cU k=true:=by
 induction l with
 | nil=>intro x hx;cases hx
 | cons y l ih=>
  simp only [AV.iE,Bool.and_eq_true] at h
  intro x hx
  rcases List.mem_cons.1 hx with rfl | hx
  ·exact h.1
  ·exact ih h.2 x hx
theorem uE{ts:List TypeId}{l:List AV}(h:AV.sJ ts l=true):∀ x∈l,x.off ts=true:=by
 induction l with
 | nil=>intro x hx;cases hx
 | cons y l ih=>
  simp only [AV.sJ,Bool.and_eq_true] at h
  intro x hx
  rcases List.mem_cons.1 hx with rfl | hx
  ·exact h.1
  ·exact ih h.2 x hx
theorem nm{d:Nat}{l:List AV}(h:AV.fJ d l=true):∀ x∈l,x.deep d=true:=by
 induction l with
 | nil=>intro x hx;cases hx
 | cons y l ih=>
  simp only [AV.fJ,Bool.and_eq_true] at h
  intro x hx
  rcases List.mem_cons.1 hx with rfl | hx
  ·exact h.1
  ·exact ih h.2 x hx
theorem xv{k:Key}{l:List AV}{c:AV}(hm:c∈l)(h:c.cU k=false):AV.iE k l=false:=by
 cases hl:AV.iE k l with
 | false=>rfl
 | true=>rw [jZ hl c hm] at h;cases h
mutual
theorem lq{k:Key} : (x:AV)→x.pure=true→x.cU k=true
 | .a cs,h=>xw cs h
 | .tp cs,h=>xw cs h
 | .f _ cs,h=>xw cs h
 | .ifc _ x,h=>lq x h
 | .b _,_=>rfl
 | .i _ _,_=>rfl
 | .s _,_=>rfl
 | .n,_=>rfl
 | .z,_=>rfl
 | .nf,_=>rfl
 | .ni,_=>rfl
 | .sk,_=>rfl
 | .l _ _,_=>rfl
 | .e _ _,_=>rfl
theorem xw{k:Key} : (l:List AV)→AV.bJ l=true→AV.iE k l=true
 | [],_=>rfl
 | x::l,h=>by
  simp only [AV.bJ,Bool.and_eq_true] at h
  simp only [AV.iE,Bool.and_eq_true]
  exact ⟨lq x h.1,xw l h.2⟩
end
mutual
theorem dO:(x:AV)→x.pure=true→x.copy=true
 | .a cs,h=>vL cs h
 | .tp cs,h=>vL cs h
 | .f _ cs,h=>vL cs h
 | .ifc _ x,h=>dO x h
 | .b _,_=>rfl
 | .i _ _,_=>rfl
 | .s _,_=>rfl
 | .n,_=>rfl
 | .z,_=>rfl
 | .nf,_=>rfl
 | .ni,_=>rfl
 | .sk,_=>rfl
 | .l _ _,_=>rfl
 | .e _ _,_=>rfl
theorem vL:(l:List AV)→AV.bJ l=true→AV.nj l=true
 | [],_=>rfl
 | x::l,h=>by
  simp only [AV.bJ,Bool.and_eq_true] at h
  simp only [AV.nj,Bool.and_eq_true]
  exact ⟨dO x h.1,vL l h.2⟩
end
variable [cj]
inductive VR(w:World)(I:Nat→Prop)(κ:Key→Nat):AV→Value→Prop where
 | u (v:Value):VR w I κ .u v
 | sk:VR w I κ .sk undef
 | b (x:Bool):VR w I κ (.b x) (.bool x)
 | i (k:IntKind) (n:Int):VR w I κ (.i k n) (.int k n)
 | s (l:List UInt8):VR w I κ (.s l) (.string ⟨l.toArray⟩)
 | n:VR w I κ .n (.slice none 0 0)
 | z:VR w I κ .z (.pointer none)
 | nf:VR w I κ .nf .nilFunc
 | ni:VR w I κ .ni .nilIface
 | lnil (t:TypeId) (A:Option Addr) (cap:Nat):VR w I κ (.l t []) (.slice A 0 cap)
 | l (t:TypeId) (es:List AV) (g o cap:Nat) (cs:Array Value) (T:TypeId) (fz:Nat×Nat) (sz:Nat) (hI:I g)
   (hh:w.heap[g]? =some (.cells cs T fz)) (ht:t≠0→(cj.n0≤g→T=t∧fz=(0,0))∧(g<cj.n0→cj.tg t=true)) (K:0<sz) (L:∀ e∈es,e.nc=sz) (C:o+es.length*sz≤cs.size)
   (hp:∀ e∈es,e.pure=true) (h1:∀ e∈es,∀ c∈e.cl,c.one=true) (G:es.length≤cap) (F:cap≤maxLen)
   (hc:∀ (j:Nat)(e:AV)(m:Nat)(c:AV),es[j]? =some e→e.cl[m]? =some c→VR w I κ c (cs.getD (o+j*sz+m) undef)) :
   VR w I κ (.l t es) (.slice (some ⟨g,o,none⟩) es.length cap)
 | e (x:AV) (off g o:Nat) (cs:Array Value) (T:TypeId) (fz:Nat×Nat) (hI:I g) (hh:w.heap[g]? =some (.cells cs T fz))
   (hp:x.pure=true) (C:o+x.nc≤cs.size) (h1:∀ c∈x.cl,c.one=true)
   (hc:∀ (m:Nat)(c:AV),x.cl[m]? =some c→VR w I κ c (cs.getD (o+m) undef)):VR w I κ (.e x off) (.pointer (some ⟨g,o+off,none⟩))
 | f (g:FuncId) (B:List AV) (vs:Array Value) (hg:g<1000000) (hl:B.length=vs.size) (hc:∀ (m:Nat)(c:AV),B[m]? =some c→VR w I κ c (vs.getD m undef)) :
   VR w I κ (.f g B) (.func (.func g) #[] vs)
 | fm (g:FuncId) (B:List AV) (vs:Array Value) (hl:B.length=vs.size) (hc:∀ (m:Nat)(c:AV),B[m]? =some c→VR w I κ c (vs.getD m undef)) :
   VR w I κ (.f (1000000+g) B) (.func (.func g) vs #[])
 | a (cs:List AV) (vs:Array Value) (hl:cs.length=vs.size) (h1:∀ c∈cs,c.one=true) (hc:∀ (m:Nat)(c:AV),cs[m]? =some c→VR w I κ c (vs.getD m undef)) :
   VR w I κ (.a cs) (.agg vs)
 | tp (cs:List AV) (vs:Array Value) (hl:cs.length=vs.size) (hc:∀ (m:Nat)(c:AV),cs[m]? =some c→VR w I κ c (vs.getD m undef)) :
   VR w I κ (.tp cs) (.tuple vs)
 | ifc (t:TypeId) (x:AV) (v:Value) (h:VR w I κ x v):VR w I κ (.ifc t x) (.iface t v)
 | p (k:Key) (off:Nat):VR w I κ (.p k off) (.pointer (some ⟨κ k,off,none⟩))
 | sp (k:Key) (off n sz cap:Nat) (h1:n≤cap) (h2:cap≤maxLen):VR w I κ (.sp k off n sz) (.slice (some ⟨κ k,off,none⟩) n cap)
theorem j0{x:AV}(h:x.pure=true):∀ c∈x.cl,c.pure=true:=by
 intro c hc
 cases x<;>simp only [AV.cl,List.mem_singleton] at hc<;>first | (subst hc;exact h) | skip
 exact fp (by simpa [AV.pure] using h) c hc
theorem VR.mono{w w':World}{I I':Nat→Prop}{κ κ':Key→Nat}{x:AV}{v:Value}(h:VR w I κ x v)
  (hI:∀ b,I b→I' b) (hh:∀ b,I b→w'.heap[b]? =w.heap[b]?) (hk:∀ k,x.cU k=false→κ' k=κ k):VR w' I' κ' x v:=by
 induction h with
 | u v=>exact .u v
 | sk=>exact .sk
 | b x=>exact .b x
 | i k n=>exact .i k n
 | s l=>exact .s l
 | n=>exact .n
 | z=>exact .z
 | nf=>exact .nf
 | ni=>exact .ni
 | lnil t A cap=>exact .lnil t A cap
 | l t es g o cap cs T fz sz H J ht K L C hp h1 G F hc ih=>
  refine .l t es g o cap cs T fz sz (hI _ H) ((hh _ H).trans J) ht K L C hp h1 G F fun j e m c he D=>ih j e m c he D fun k E=>?_
  exfalso
  have M:=j0 (hp e (List.mem_of_getElem? he)) c (List.mem_of_getElem? D)
  exact absurd E (by simp [lq c M])
 | e x off g o cs T fz H J hp C h1 hc ih=>
  refine .e x off g o cs T fz (hI _ H) ((hh _ H).trans J) hp C h1 fun m c D=>ih m c D fun k E=>?_
  exfalso
  exact absurd E (by simp [lq c (j0 hp c (List.mem_of_getElem? D))])
 | f g B vs hg hl hc ih=>exact .f g B vs hg hl fun m c D=>ih m c D fun k E=>hk k (xv (List.mem_of_getElem? D) E)
 | fm g B vs hl hc ih=>exact .fm g B vs hl fun m c D=>ih m c D fun k E=>hk k (xv (List.mem_of_getElem? D) E)
 | a cs vs hl h1 hc ih=>exact .a cs vs hl h1 fun m c D=>ih m c D fun k E=>hk k (xv (List.mem_of_getElem? D) E)
 | tp cs vs hl hc ih=>exact .tp cs vs hl fun m c D=>ih m c D fun k E=>hk k (xv (List.mem_of_getElem? D) E)
 | ifc t x v h ih=>exact .ifc t x v (ih hk)
 | p k off=>rw [←hk k (by simp [AV.cU])];exact .p k off
 | sp k off n sz cap h1 h2=>rw [←hk k (by simp [AV.cU])];exact .sp k off n sz cap h1 h2
def ab:=@if_neg
def ad:=@Option.bind_some
def af:=@if_pos
def ah:=@Option.some.inj
def aj:=@Option.bind_eq_some_iff
def au:=@Nat.ne_of_lt
def av:=@congrArg
def aA:=@if_true
def aB:=@Nat.lt_succ_of_lt
def aL:=@Bool.and_eq_true
def aE:=@decide_eq_true
def aG:=@decide_eq_false
def aR:=@Nat.le_of_lt
def aV:=@List.getElem?_eq_getElem
def aY:=@Nat.le_refl
def bu:=@List.mem_of_getElem?
def cp:=@List.getElem_mem
def cC:=@Ne.symm
def cF:=@if_false
def cI:=@List.all_eq_true
def dh:=@List.mem_cons
def di:=@Nat.le_trans
def dq:=@Bool.false_eq_true
def dy:=@Nat.zero_le
def dH:=@beq_iff_eq
def dI:=@List.map_append
def dM:=@Prod.mk.inj
def dS:=@List.mem_singleton
def eg:=@decide_eq_true_eq
def eh:=@List.mem_append
def eu:=@List.map_cons
def ew:=@Option.map_eq_some_iff
def ey:=@List.mem_iff_getElem?
def eK:=@Nat.lt_of_lt_of_le
def eL:=@Array.getD_eq_getD_getElem?
def eM:=@List.length_cons
def eN:=@List.nil_append
def eY:=@Nat.add_mul
def eZ:=@List.cons_append
def e6:=@List.drop_eq_getElem_cons
def fL:=@Nat.mul_le_mul_right
def fM:=@List.getD_eq_getElem?_getD
def gN:=@Bool.and_self
def gO:=@Nat.zero_add
def gP:=@Nat.lt_succ_self
def iF:=@List.mem_of_mem_take
def iG:=@List.mem_map
def iH:=@List.length_map
def je:=@Option.isSome_iff_exists
def jf:=@Option.map_some
def j8:=@List.getElem?_eq_some_iff
def ka:=@List.mem_or_eq_of_mem_set
def lr:=@Option.getD_some
def mm:=@Option.some.injEq
def mn:=@List.getElem?_take
def mo:=@Nat.add_zero
def mq:=@Array.getElem?_eq_getElem
def mr:=@List.drop_eq_nil_of_le
def nQ:=@Nat.lt_or_ge
def nR:=@Nat.not_lt
def nS:=@List.getElem?_drop
def nT:=@List.getElem?_map
def nU:=@List.length_append
def nW:=@List.getElem?_append_left
def nX:=@List.filter_append
def o0:=@List.cons.inj
def o7:=@List.append_assoc
def o8:=@List.getElem?_append
def o9:=@List.mem_append_left
def pa:=@Bool.not_eq_true'
def pb:=@List.take_of_length_le
def pc:=@List.length_set
def qC:=@decide_true
def qD:=@List.getElem?_set
def qE:=@List.length_nil
def qF:=@List.mem_append_right
def sK:=@List.map_congr_left
def sL:=@Bool.true_and
def sM:=@of_decide_eq_true
def sN:=@List.mem_of_mem_drop
def sO:=@Nat.mul_comm
def sP:=@Array.getElem?_eq_some_iff
def sQ:=@Decidable.not_not
def sR:=@List.drop_eq_nil_iff
def sS:=@List.length_take
def sT:=@Array.size_push
def uG:=@bne_iff_ne
def uH:=@Nat.sub_zero
def uI:=@Nat.le_of_eq
def uJ:=@not_true_eq_false
def uK:=@Bool.false_or
def uL:=@Int.le_refl
def uN:=@List.size_toArray
def uO:=@Bool.and_eq_true_iff
def uP:=@List.nodup_cons
def uR:=@List.map_replicate
def uS:=@List.eq_of_mem_replicate
def uT:=@List.getElem?_replicate
def uU:=@Array.ext
def yf:=@Nat.add_assoc
def wg:=@Bool.not_true
def wh:=@List.foldl_cons
def wi:=@List.mapM_cons
def wj:=@List.all_cons
def wk:=@List.mem_map_of_mem
def wm:=@List.eq_nil_of_length_eq_zero
def wo:=@List.getElem?_append_right
def wq:=@List.length_singleton
def wu:=@beq_self_eq_true
def wv:=@Nat.min_eq_left
def wx:=@Array.getElem?_push
def zz:=@List.mem_cons_of_mem
def zA:=@not_false_eq_true
def zB:=@List.any_eq_true
def zC:=@List.getElem?_toArray
def zD:=@Array.getElem?_append
def zE:=@List.append_nil
def zF:=@Bool.or_eq_true
def zG:=@List.length_drop
def zH:=@List.range_succ
def zJ:=@Array.replicate_succ
def zK:=@Array.replicate_zero
def zL:=@List.push_toArray
def zM:=@List.append_toArray
def Dj:=@Classical.choose_spec
def Dk:=@Nat.le_max_left
def Dl:=@Nat.le_max_right
def Dm:=@of_decide_eq_false
def Dn:=@Array.getElem?_setIfInBounds
def Dp:=@List.snd_lt_of_mem_zipIdx
def Dq:=@Array.mapM_eq_mapM_toList
def Dr:=@List.ext_getElem?
def Dt:=@List.range'_succ
def Du:=@List.cons.injEq
def Dv:=@List.length_replicate
def Dw:=@List.flatMap_cons
def Dx:=@Array.all_eq_true_iff_forall_mem
def Dy:=@List.length_eq_zero_iff
def Dz:=@List.drop_length
def DA:=@List.take_add_one
def DB:=@List.take_append_drop
def DC:=@List.getLastD_eq_getLast?
def DD:=@List.getElem?_eq_none
def DE:=@List.length_filter_le
def DF:=@Nat.min_le_right
def DG:=@Option.bind_eq_bind
def JJ:=@Array.eq_empty_of_size_eq_zero
def JK:=@List.exists_of_findSome?_eq_some
def JL:=@List.getLast?_eq_some_getLast
end Go.Proofs.YtlmphbbhaeampaaGreat.A
