/- What values an abstract run of the program has: plain lists for what is never changed again, rows and boxes that one place alone owns; and how these lie in the model's memory. -/
import Derived.WalkKit
set_option linter.all false
namespace Go.Proofs.YtkkkkondjclcnaaGreat.A
open Go
class bM where
 n0:Nat
 tg:TypeId→Bool:=fun _=>true
structure Key where
 dp:Nat
 d:Nat
instance:DecidableEq Key:=fun a b=>
 if h:a.d=b.d then
  if h':a.dp=b.dp then isTrue (by cases a;cases b;simp only at h h';rw [h,h'])
  else isFalse fun e=>h' (by rw [e])
 else isFalse fun e=>h (by rw [e])
inductive Pl where
 | s (d:Nat)
 | c (k:Key) (off:Nat)
deriving DecidableEq
inductive AV where
 | u
 | sk
 | b (x:Bool)
 | i (k:IntKind) (n:Int)
 | s (l:List UInt8)
 | n
 | z
 | nf
 | ni
 | l (t:TypeId) (es:List AV)
 | e (x:AV) (off:Nat)
 | f (g:FuncId) (B:List AV)
 | a (cs:List AV)
 | tp (vs:List AV)
 | ifc (t:TypeId) (x:AV)
 | p (k:Key) (off:Nat)
 | o (t:TypeId) (es:List AV)
 | r (pl:Pl)
 | v (pl:Pl) (lo len:Nat)
 | q (pl:Pl) (i sz off:Nat)
 | w (g:Nat) (t:TypeId) (x:AV)
 | bp (t:TypeId) (k:Key) (u:Bool)
 | sp (k:Key) (off n sz:Nat)
 | ag (cs:List AV) (rs:List (Nat×Nat))
namespace AV
def cl:AV→List AV
 | .a cs=>cs
 | x=>[x]
def nc(x:AV):Nat:=x.cl.length
def one:AV→Bool
 | .u=>false
 | .sk=>false
 | .a _=>false
 | .tp _=>false
 | .r _=>false
 | .v _ _ _=>false
 | .q _ _ _ _=>false
 | .ag _ _=>false
 | _=>true
mutual
def pure:AV→Bool
 | .a cs=>aX cs
 | .tp cs=>aX cs
 | .f _ cs=>aX cs
 | .ifc _ x=>pure x
 | .p _ _=>false
 | .o _ _=>false
 | .r _=>false
 | .v _ _ _=>false
 | .q _ _ _ _=>false
 | .u=>false
 | .w _ _ _=>false
 | .bp _ _ _=>false
 | .sp _ _ _ _=>false
 | .ag _ _=>false
 | _=>true
def aX:List AV→Bool
 | []=>true
 | x::xs=>pure x&&aX xs
end
mutual
def copy:AV→Bool
 | .a cs=>nW cs
 | .tp cs=>nW cs
 | .f _ cs=>nW cs
 | .ifc _ x=>copy x
 | .o _ _=>false
 | .r _=>false
 | .v _ _ _=>false
 | .q _ _ _ _=>false
 | .u=>false
 | .w _ _ _=>false
 | .bp _ _ _=>false
 | .ag _ _=>false
 | _=>true
def nW:List AV→Bool
 | []=>true
 | x::xs=>copy x&&nW xs
end
mutual
def cb(k:Key):AV→Bool
 | .a cs=>dm k cs
 | .ag cs _=>dm k cs
 | .tp cs=>dm k cs
 | .f _ cs=>dm k cs
 | .ifc _ x=>cb k x
 | .p k' _=>decide (k'≠k)
 | .bp _ k' _=>decide (k'≠k)
 | .sp k' _ _ _=>decide (k'≠k)
 | .r (.c k' _)=>decide (k'≠k)
 | .v (.c k' _) _ _=>decide (k'≠k)
 | .q (.c k' _) _ _ _=>decide (k'≠k)
 | _=>true
def dm(k:Key):List AV→Bool
 | []=>true
 | x::xs=>cb k x&&dm k xs
end
mutual
def deep(d:Nat):AV→Bool
 | .a cs=>dt d cs
 | .tp cs=>dt d cs
 | .f _ cs=>dt d cs
 | .ifc _ x=>deep d x
 | .p k _=>decide (k.dp≤d)
 | .bp _ k _=>decide (k.dp≤d)
 | .sp k _ _ _=>decide (k.dp≤d)
 | .w _ _ _=>false
 | .ag _ _=>false
 | _=>true
def dt(d:Nat):List AV→Bool
 | []=>true
 | x::xs=>deep d x&&dt d xs
end
mutual
def off(ts:List TypeId):AV→Bool
 | .a cs=>lX ts cs
 | .tp cs=>lX ts cs
 | .f _ cs=>lX ts cs
 | .ifc _ x=>off ts x
 | .l t es=>es.isEmpty||(t !=0&&!ts.contains t&&lX ts es)
 | .e _ _=>ts.isEmpty
 | _=>true
def lX(ts:List TypeId):List AV→Bool
 | []=>true
 | x::xs=>off ts x&&lX ts xs
end
def kq(pl:Pl):AV→Bool
 | .r x=>decide (x=pl)
 | .v x _ _=>decide (x=pl)
 | .q x _ _ _=>decide (x=pl)
 | .ag _ rs=>match pl with
  | .s d=>rs.any fun q=>q.2==d
  | .c _ _=>false
 | _=>false
end AV
theorem fB{l:List AV}(h:AV.aX l=true):∀ x∈l,x.pure=true:=by
 induction l with
 | nil=>intro x hx;cases hx
 | cons y l ih=>
  simp only [AV.aX,Bool.and_eq_true] at h
  intro x hx
  rcases List.mem_cons.1 hx with rfl | hx
  ·exact h.1
  ·exact ih h.2 x hx
theorem Bz{l:List AV}(h:AV.nW l=true):∀ x∈l,x.copy=true:=by
 induction l with
 | nil=>intro x hx;cases hx
 | cons y l ih=>
  simp only [AV.nW,Bool.and_eq_true] at h
  intro x hx
  rcases List.mem_cons.1 hx with rfl | hx
  ·exact h.1
  ·exact ih h.2 x hx
theorem kM{l:List AV}(h:∀ x∈l,x.pure=true):AV.aX l=true:=by
 induction l with
 | nil=>rfl
 | cons y l ih=>
  simp only [AV.aX,Bool.and_eq_true]
  exact ⟨h y (by simp),ih fun x hx=>h x (by simp [hx])⟩
theorem mP{k:Key}{l:List AV}(h:AV.dm k l=true):∀ x∈l,x.cb k=true:=by
 induction l with
 | nil=>intro x hx;cases hx
 | cons y l ih=>
  simp only [AV.dm,Bool.and_eq_true] at h
  intro x hx
  rcases List.mem_cons.1 hx with rfl | hx
  ·exact h.1
  ·exact ih h.2 x hx
theorem wW{ts:List TypeId}{l:List AV}(h:AV.lX ts l=true):∀ x∈l,x.off ts=true:=by
 induction l with
 | nil=>intro x hx;cases hx
 | cons y l ih=>
  simp only [AV.lX,Bool.and_eq_true] at h
  intro x hx
  rcases List.mem_cons.1 hx with rfl | hx
  ·exact h.1
  ·exact ih h.2 x hx
theorem nX{d:Nat}{l:List AV}(h:AV.dt d l=true):∀ x∈l,x.deep d=true:=by
 induction l with
 | nil=>intro x hx;cases hx
 | cons y l ih=>
  simp only [AV.dt,Bool.and_eq_true] at h
  intro x hx
  rcases List.mem_cons.1 hx with rfl | hx
  ·exact h.1
  ·exact ih h.2 x hx
theorem zG{k:Key}{l:List AV}{c:AV}(hm:c∈l)(h:c.cb k=false):AV.dm k l=false:=by
 cases hl:AV.dm k l with
 | false=>rfl
 | true=>rw [mP hl c hm] at h;cases h
mutual
theorem kN{k:Key} : (x:AV)→x.pure=true→x.cb k=true
 | .a cs,h=>zH cs h
 | .tp cs,h=>zH cs h
 | .f _ cs,h=>zH cs h
 | .ifc _ x,h=>kN x h
 | .b _,_=>rfl
 | .i _ _,_=>rfl
 | .s _,_=>rfl
 | .n,_=>rfl
 | .z,_=>rfl
 | .nf,_=>rfl
 | .ni,_=>rfl
 | .sk,_=>rfl
 | .l _ _,_=>rfl
 | .e _ _,_=>rfl
theorem zH{k:Key} : (l:List AV)→AV.aX l=true→AV.dm k l=true
 | [],_=>rfl
 | x::l,h=>by
  simp only [AV.aX,Bool.and_eq_true] at h
  simp only [AV.dm,Bool.and_eq_true]
  exact ⟨kN x h.1,zH l h.2⟩
end
mutual
theorem Mh{d:Nat} : (x:AV)→x.pure=true→x.deep d=true
 | .a cs,h=>uk cs h
 | .tp cs,h=>uk cs h
 | .f _ cs,h=>uk cs h
 | .ifc _ x,h=>Mh x h
 | .b _,_=>rfl
 | .i _ _,_=>rfl
 | .s _,_=>rfl
 | .n,_=>rfl
 | .z,_=>rfl
 | .nf,_=>rfl
 | .ni,_=>rfl
 | .sk,_=>rfl
 | .l _ _,_=>rfl
 | .e _ _,_=>rfl
theorem uk{d:Nat} : (l:List AV)→AV.aX l=true→AV.dt d l=true
 | [],_=>rfl
 | x::l,h=>by
  simp only [AV.aX,Bool.and_eq_true] at h
  simp only [AV.dt,Bool.and_eq_true]
  exact ⟨Mh x h.1,uk l h.2⟩
end
mutual
theorem ed:(x:AV)→x.pure=true→x.copy=true
 | .a cs,h=>xZ cs h
 | .tp cs,h=>xZ cs h
 | .f _ cs,h=>xZ cs h
 | .ifc _ x,h=>ed x h
 | .b _,_=>rfl
 | .i _ _,_=>rfl
 | .s _,_=>rfl
 | .n,_=>rfl
 | .z,_=>rfl
 | .nf,_=>rfl
 | .ni,_=>rfl
 | .sk,_=>rfl
 | .l _ _,_=>rfl
 | .e _ _,_=>rfl
theorem xZ:(l:List AV)→AV.aX l=true→AV.nW l=true
 | [],_=>rfl
 | x::l,h=>by
  simp only [AV.aX,Bool.and_eq_true] at h
  simp only [AV.nW,Bool.and_eq_true]
  exact ⟨ed x h.1,xZ l h.2⟩
end
variable [bM]
inductive VR(w:World)(I:Nat→Prop)(κ:Key→Nat):AV→Value→Prop where
 | u (v:Value):VR w I κ .u v
 | sk:VR w I κ .sk undef
 | b (x:Bool):VR w I κ (.b x) (.bool x)
 | i (k:IntKind) (n:Int):VR w I κ (.i k n) (.int k n)
 | s (l:List UInt8):VR w I κ (.s l) (.string ⟨l.toArray⟩)
 | n:VR w I κ .n (.slice none 0 0)
 | z:VR w I κ .z (.pointer none)
 | nf:VR w I κ .nf .nilFunc
 | ni:VR w I κ .ni .nilIface
 | lnil (t:TypeId) (A:Option Addr) (cap:Nat):VR w I κ (.l t []) (.slice A 0 cap)
 | l (t:TypeId) (es:List AV) (g o cap:Nat) (cs:Array Value) (T:TypeId) (fz:Nat×Nat) (sz:Nat) (hI:I g)
   (hh:w.heap[g]? =some (.cells cs T fz)) (ht:t≠0→(bM.n0≤g→T=t∧fz=(0,0))∧(g<bM.n0→bM.tg t=true)) (K:0<sz) (L:∀ e∈es,e.nc=sz) (C:o+es.length*sz≤cs.size)
   (hp:∀ e∈es,e.pure=true) (h1:∀ e∈es,∀ c∈e.cl,c.one=true) (G:es.length≤cap) (F:cap≤maxLen)
   (hc:∀ (j:Nat)(e:AV)(m:Nat)(c:AV),es[j]? =some e→e.cl[m]? =some c→VR w I κ c (cs.getD (o+j*sz+m) undef)) :
   VR w I κ (.l t es) (.slice (some ⟨g,o,none⟩) es.length cap)
 | e (x:AV) (off g o:Nat) (cs:Array Value) (T:TypeId) (fz:Nat×Nat) (hI:I g) (hh:w.heap[g]? =some (.cells cs T fz))
   (hp:x.pure=true) (C:o+x.nc≤cs.size) (h1:∀ c∈x.cl,c.one=true)
   (hc:∀ (m:Nat)(c:AV),x.cl[m]? =some c→VR w I κ c (cs.getD (o+m) undef)):VR w I κ (.e x off) (.pointer (some ⟨g,o+off,none⟩))
 | f (g:FuncId) (B:List AV) (vs:Array Value) (hg:g<1000000) (hl:B.length=vs.size) (hc:∀ (m:Nat)(c:AV),B[m]? =some c→VR w I κ c (vs.getD m undef)) :
   VR w I κ (.f g B) (.func (.func g) #[] vs)
 | fm (g:FuncId) (B:List AV) (vs:Array Value) (hl:B.length=vs.size) (hc:∀ (m:Nat)(c:AV),B[m]? =some c→VR w I κ c (vs.getD m undef)) :
   VR w I κ (.f (1000000+g) B) (.func (.func g) vs #[])
 | a (cs:List AV) (vs:Array Value) (hl:cs.length=vs.size) (h1:∀ c∈cs,c.one=true) (hc:∀ (m:Nat)(c:AV),cs[m]? =some c→VR w I κ c (vs.getD m undef)) :
   VR w I κ (.a cs) (.agg vs)
 | tp (cs:List AV) (vs:Array Value) (hl:cs.length=vs.size) (hc:∀ (m:Nat)(c:AV),cs[m]? =some c→VR w I κ c (vs.getD m undef)) :
   VR w I κ (.tp cs) (.tuple vs)
 | ifc (t:TypeId) (x:AV) (v:Value) (h:VR w I κ x v):VR w I κ (.ifc t x) (.iface t v)
 | p (k:Key) (off:Nat):VR w I κ (.p k off) (.pointer (some ⟨κ k,off,none⟩))
 | sp (k:Key) (off n sz cap:Nat) (h1:n≤cap) (h2:cap≤maxLen):VR w I κ (.sp k off n sz) (.slice (some ⟨κ k,off,none⟩) n cap)
theorem kO{x:AV}(h:x.pure=true):∀ c∈x.cl,c.pure=true:=by
 intro c hc
 cases x<;>simp only [AV.cl,List.mem_singleton] at hc<;>first | (subst hc;exact h) | skip
 exact fB (by simpa [AV.pure] using h) c hc
theorem VR.mono{w w':World}{I I':Nat→Prop}{κ κ':Key→Nat}{x:AV}{v:Value}(h:VR w I κ x v)
  (hI:∀ b,I b→I' b) (hh:∀ b,I b→w'.heap[b]? =w.heap[b]?) (hk:∀ k,x.cb k=false→κ' k=κ k):VR w' I' κ' x v:=by
 induction h with
 | u v=>exact .u v
 | sk=>exact .sk
 | b x=>exact .b x
 | i k n=>exact .i k n
 | s l=>exact .s l
 | n=>exact .n
 | z=>exact .z
 | nf=>exact .nf
 | ni=>exact .ni
 | lnil t A cap=>exact .lnil t A cap
 | l t es g o cap cs T fz sz H J ht K L C hp h1 G F hc ih=>
  refine .l t es g o cap cs T fz sz (hI _ H) ((hh _ H).trans J) ht K L C hp h1 G F fun j e m c he D=>ih j e m c he D fun k E=>?_
  exfalso
  have M:=kO (hp e (List.mem_of_getElem? he)) c (List.mem_of_getElem? D)
  exact absurd E (by simp [kN c M])
 | e x off g o cs T fz H J hp C h1 hc ih=>
  refine .e x off g o cs T fz (hI _ H) ((hh _ H).trans J) hp C h1 fun m c D=>ih m c D fun k E=>?_
  exfalso
  exact absurd E (by simp [kN c (kO hp c (List.mem_of_getElem? D))])
 | f g B vs hg hl hc ih=>exact .f g B vs hg hl fun m c D=>ih m c D fun k E=>hk k (zG (List.mem_of_getElem? D) E)
 | fm g B vs hl hc ih=>exact .fm g B vs hl fun m c D=>ih m c D fun k E=>hk k (zG (List.mem_of_getElem? D) E)
 | a cs vs hl h1 hc ih=>exact .a cs vs hl h1 fun m c D=>ih m c D fun k E=>hk k (zG (List.mem_of_getElem? D) E)
 | tp cs vs hl hc ih=>exact .tp cs vs hl fun m c D=>ih m c D fun k E=>hk k (zG (List.mem_of_getElem? D) E)
 | ifc t x v h ih=>exact .ifc t x v (ih hk)
 | p k off=>rw [←hk k (by simp [AV.cb])];exact .p k off
 | sp k off n sz cap h1 h2=>rw [←hk k (by simp [AV.cb])];exact .sp k off n sz cap h1 h2
def aa:=@if_neg
def ab:=@if_pos
def ad:=@Option.bind_some
def af:=@Option.some.inj
def ah:=@Option.bind_eq_some_iff
def an:=@congrArg
def ay:=@decide_eq_false
def az:=@if_true
def aA:=@decide_eq_true
def aC:=@Bool.and_eq_true
def aP:=@List.getElem?_eq_getElem
def aV:=@Nat.le_refl
def bg:=@List.mem_of_getElem?
def bB:=@if_false
def bN:=@List.getElem_mem
def bQ:=@Nat.ne_of_lt
def bS:=@Nat.le_trans
def bU:=@Bool.false_eq_true
def cC:=@List.length_cons
def cJ:=@List.all_eq_true
def cT:=@Nat.lt_succ_of_lt
def db:=@Option.map_eq_some_iff
def dc:=@Nat.zero_le
def dk:=@List.mem_append
def dK:=@Array.getD_eq_getD_getElem?
def dZ:=@List.nil_append
def ea:=@Nat.lt_of_lt_of_le
def eb:=@List.getElem?_eq_some_iff
def ec:=@Nat.le_of_lt
def eh:=@beq_iff_eq
def ei:=@List.map_append
def eI:=@decide_eq_true_eq
def eJ:=@List.cons_append
def eK:=@List.length_append
def eX:=@List.mem_cons
def eY:=@List.length_map
def eZ:=@List.mem_iff_getElem?
def e7:=@Array.size_push
def fj:=@List.map_cons
def fE:=@Option.map_some
def fF:=@Nat.add_mul
def fG:=@Array.getElem?_push
def gh:=@Nat.zero_add
def gK:=@Nat.mul_le_mul_right
def gN:=@Prod.mk.inj
def gO:=@Bool.not_eq_true'
def gP:=@List.drop_eq_nil_iff
def iJ:=@List.mem_map
def ji:=@Bool.and_self
def jj:=@List.mem_singleton
def jk:=@List.length_nil
def jJ:=@Option.isSome_iff_exists
def jK:=@List.any_eq_true
def jL:=@List.take_of_length_le
def kP:=@Array.getElem?_eq_getElem
def kQ:=@List.length_drop
def lM:=@List.getD_eq_getElem?_getD
def lN:=@Bool.eq_iff_iff
def mQ:=@Bool.true_and
def mR:=@Nat.lt_succ_self
def mS:=@List.getElem?_take
def mT:=@List.getElem?_drop
def mU:=@List.mem_or_eq_of_mem_set
def mV:=@Nat.mul_comm
def mW:=@List.append_nil
def ov:=@List.drop_eq_getElem_cons
def ox:=@List.append_assoc
def oy:=@Option.some.injEq
def oz:=@Nat.lt_or_ge
def oA:=@List.mem_of_mem_take
def oB:=@Nat.not_lt
def oC:=@Nat.add_zero
def pS:=@Bool.false_or
def pT:=@Ne.symm
def pU:=@List.cons.inj
def pV:=@List.getElem?_append
def pW:=@List.mem_append_left
def pX:=@List.mem_append_right
def rU:=@List.map_congr_left
def rV:=@decide_true
def rW:=@of_decide_eq_true
def rX:=@List.size_toArray
def rY:=@List.drop_eq_nil_of_le
def rZ:=@Array.size_modify
def sa:=@Array.getElem?_modify
def uP:=@bne_iff_ne
def uR:=@Bool.and_true
def uS:=@Bool.not_true
def uT:=@Decidable.not_not
def uU:=@List.mem_of_mem_drop
def uV:=@Nat.add_assoc
def uW:=@Nat.sub_zero
def uX:=@List.getElem?_set
def uY:=@List.flatMap_cons
def uZ:=@List.getElem?_append_left
def u0:=@Bool.or_eq_true
def u5:=@List.map_nil
def u6:=@Bool.and_eq_true_iff
def u7:=@Array.getElem?_eq_some_iff
def wX:=@List.nodup_cons
def vp:=@Option.getD_some
def vt:=@Nat.le_of_eq
def vu:=@List.all_cons
def vv:=@not_true_eq_false
def vz:=@List.getElem?_append_right
def vA:=@List.length_set
def vB:=@List.range_succ
def vD:=@Array.replicate_succ
def vE:=@Array.replicate_zero
def vG:=@List.push_toArray
def vH:=@List.append_toArray
def yk:=@List.all_map
def yl:=@List.getElem?_map
def ym:=@List.foldl_cons
def yn:=@List.mapM_cons
def yp:=@List.mem_map_of_mem
def yq:=@List.eq_nil_of_length_eq_zero
def yr:=@Array.getElem?_append
def yt:=@List.mem_range
def yu:=@List.take_succ_cons
def yv:=@Array.ext
def yw:=@List.eq_of_mem_replicate
def BA:=@not_false_eq_true
def BB:=@of_decide_eq_false
def BC:=@List.map_replicate
def BD:=@List.drop_zero
def BE:=@List.take_add_one
def BF:=@List.take_append_drop
def BG:=@List.getElem?_toArray
def BH:=@Nat.zero_mul
def BI:=@List.mem_flatMap
def BJ:=@Classical.byContradiction
def BK:=@Bool.true_or
def BL:=@Bool.or_true
def BM:=@List.forall_mem_append
def Fi:=@Classical.choose_spec
def Fj:=@Nat.le_max_left
def Fk:=@Nat.le_max_right
def Fl:=@List.mem_cons_of_mem
def Fm:=@List.cons.injEq
def Fp:=@List.drop_length
def Fq:=@Array.getElem?_setIfInBounds
def Fs:=@List.snd_lt_of_mem_zipIdx
def Ft:=@List.range'_succ
def Fu:=@Array.eq_empty_of_size_eq_zero
def Fv:=@List.length_replicate
def Fx:=@beq_self_eq_true
def Fy:=@List.take_length
def Fz:=@List.length_eq_zero_iff
def FA:=@Array.all_eq_true_iff_forall_mem
def FB:=@Nat.min_le_right
def FC:=@Option.bind_eq_bind
def Mi:=@List.exists_of_findSome?_eq_some
end Go.Proofs.YtkkkkondjclcnaaGreat.A
