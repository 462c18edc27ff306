/- What values an abstract run of the program has: plain lists for what is never changed again, rows and boxes that one place alone owns; and how these lie in the model's memory. -/
import Derived.WalkKit
set_option linter.all false
namespace Go.Proofs.YtlmphbbhaeampaaGreat.A
open Go
class cN where
 n0:Nat
 tg:TypeId→Bool:=fun _=>true
structure Key where
 dp:Nat
 d:Nat
instance:DecidableEq Key:=fun a b=>
 if h:a.d=b.d then
  if h':a.dp=b.dp then isTrue (by cases a;cases b;simp only at h h';rw [h,h'])
  else isFalse fun e=>h' (by rw [e])
 else isFalse fun e=>h (by rw [e])
inductive Pl where
 | s (d:Nat)
 | c (k:Key) (off:Nat)
deriving DecidableEq
inductive AV where
 | u
 | sk
 | b (x:Bool)
 | i (k:IntKind) (n:Int)
 | s (l:List UInt8)
 | n
 | z
 | nf
 | ni
 | l (t:TypeId) (es:List AV)
 | e (x:AV) (off:Nat)
 | f (g:FuncId) (B:List AV)
 | a (cs:List AV)
 | tp (vs:List AV)
 | ifc (t:TypeId) (x:AV)
 | p (k:Key) (off:Nat)
 | o (t:TypeId) (es:List AV)
 | r (pl:Pl)
 | v (pl:Pl) (lo len:Nat)
 | q (pl:Pl) (i sz off:Nat)
 | w (g:Nat) (t:TypeId) (x:AV)
 | bp (t:TypeId) (k:Key) (u:Bool)
 | sp (k:Key) (off n sz:Nat)
 | ag (cs:List AV) (rs:List (Nat×Nat))
namespace AV
def cl:AV→List AV
 | .a cs=>cs
 | x=>[x]
def nc(x:AV):Nat:=x.cl.length
def one:AV→Bool
 | .u=>false
 | .sk=>false
 | .a _=>false
 | .tp _=>false
 | .r _=>false
 | .v _ _ _=>false
 | .q _ _ _ _=>false
 | .ag _ _=>false
 | _=>true
mutual
def pure:AV→Bool
 | .a cs=>cG cs
 | .tp cs=>cG cs
 | .f _ cs=>cG cs
 | .ifc _ x=>pure x
 | .p _ _=>false
 | .o _ _=>false
 | .r _=>false
 | .v _ _ _=>false
 | .q _ _ _ _=>false
 | .u=>false
 | .w _ _ _=>false
 | .bp _ _ _=>false
 | .sp _ _ _ _=>false
 | .ag _ _=>false
 | _=>true
def cG:List AV→Bool
 | []=>true
 | x::xs=>pure x&&cG xs
end
mutual
def copy:AV→Bool
 | .a cs=>sU cs
 | .tp cs=>sU cs
 | .f _ cs=>sU cs
 | .ifc _ x=>copy x
 | .o _ _=>false
 | .r _=>false
 | .v _ _ _=>false
 | .q _ _ _ _=>false
 | .u=>false
 | .w _ _ _=>false
 | .bp _ _ _=>false
 | .ag _ _=>false
 | _=>true
def sU:List AV→Bool
 | []=>true
 | x::xs=>copy x&&sU xs
end
mutual
def dD(k:Key):AV→Bool
 | .a cs=>jI k cs
 | .ag cs _=>jI k cs
 | .tp cs=>jI k cs
 | .f _ cs=>jI k cs
 | .ifc _ x=>dD k x
 | .p k' _=>decide (k'≠k)
 | .bp _ k' _=>decide (k'≠k)
 | .sp k' _ _ _=>decide (k'≠k)
 | .r (.c k' _)=>decide (k'≠k)
 | .v (.c k' _) _ _=>decide (k'≠k)
 | .q (.c k' _) _ _ _=>decide (k'≠k)
 | _=>true
def jI(k:Key):List AV→Bool
 | []=>true
 | x::xs=>dD k x&&jI k xs
end
mutual
def deep(d:Nat):AV→Bool
 | .a cs=>jJ d cs
 | .tp cs=>jJ d cs
 | .f _ cs=>jJ d cs
 | .ifc _ x=>deep d x
 | .p k _=>decide (k.dp≤d)
 | .bp _ k _=>decide (k.dp≤d)
 | .sp k _ _ _=>decide (k.dp≤d)
 | .w _ _ _=>false
 | .ag _ _=>false
 | _=>true
def jJ(d:Nat):List AV→Bool
 | []=>true
 | x::xs=>deep d x&&jJ d xs
end
mutual
def off(ts:List TypeId):AV→Bool
 | .a cs=>tZ ts cs
 | .tp cs=>tZ ts cs
 | .f _ cs=>tZ ts cs
 | .ifc _ x=>off ts x
 | .l t es=>es.isEmpty||(t !=0&&!ts.contains t&&tZ ts es)
 | .e _ _=>ts.isEmpty
 | _=>true
def tZ(ts:List TypeId):List AV→Bool
 | []=>true
 | x::xs=>off ts x&&tZ ts xs
end
def fX(pl:Pl):AV→Bool
 | .r x=>decide (x=pl)
 | .v x _ _=>decide (x=pl)
 | .q x _ _ _=>decide (x=pl)
 | .ag _ rs=>match pl with
  | .s d=>rs.any fun q=>q.2==d
  | .c _ _=>false
 | _=>false
end AV
theorem jm{l:List AV}(h:AV.cG l=true):∀ x∈l,x.pure=true:=by
 induction l with
 | nil=>intro x hx;cases hx
 | cons y l ih=>
  simp only [AV.cG,Bool.and_eq_true] at h
  intro x hx
  rcases List.mem_cons.1 hx with rfl | hx
  ·exact h.1
  ·exact ih h.2 x hx
theorem BX{l:List AV}(h:AV.sU l=true):∀ x∈l,x.copy=true:=by
 induction l with
 | nil=>intro x hx;cases hx
 | cons y l ih=>
  simp only [AV.sU,Bool.and_eq_true] at h
  intro x hx
  rcases List.mem_cons.1 hx with rfl | hx
  ·exact h.1
  ·exact ih h.2 x hx
theorem lU{l:List AV}(h:∀ x∈l,x.pure=true):AV.cG l=true:=by
 induction l with
 | nil=>rfl
 | cons y l ih=>
  simp only [AV.cG,Bool.and_eq_true]
  exact ⟨h y (by simp),ih fun x hx=>h x (by simp [hx])⟩
theorem lV{k:Key}{l:List AV}(h:AV.jI k l=true):∀ x∈l,x.dD k=true:=by
 induction l with
 | nil=>intro x hx;cases hx
 | cons y l ih=>
  simp only [AV.jI,Bool.and_eq_true] at h
  intro x hx
  rcases List.mem_cons.1 hx with rfl | hx
  ·exact h.1
  ·exact ih h.2 x hx
theorem xd{ts:List TypeId}{l:List AV}(h:AV.tZ ts l=true):∀ x∈l,x.off ts=true:=by
 induction l with
 | nil=>intro x hx;cases hx
 | cons y l ih=>
  simp only [AV.tZ,Bool.and_eq_true] at h
  intro x hx
  rcases List.mem_cons.1 hx with rfl | hx
  ·exact h.1
  ·exact ih h.2 x hx
theorem pS{d:Nat}{l:List AV}(h:AV.jJ d l=true):∀ x∈l,x.deep d=true:=by
 induction l with
 | nil=>intro x hx;cases hx
 | cons y l ih=>
  simp only [AV.jJ,Bool.and_eq_true] at h
  intro x hx
  rcases List.mem_cons.1 hx with rfl | hx
  ·exact h.1
  ·exact ih h.2 x hx
theorem Ae{k:Key}{l:List AV}{c:AV}(hm:c∈l)(h:c.dD k=false):AV.jI k l=false:=by
 cases hl:AV.jI k l with
 | false=>rfl
 | true=>rw [lV hl c hm] at h;cases h
mutual
theorem lW{k:Key} : (x:AV)→x.pure=true→x.dD k=true
 | .a cs,h=>Af cs h
 | .tp cs,h=>Af cs h
 | .f _ cs,h=>Af cs h
 | .ifc _ x,h=>lW x h
 | .b _,_=>rfl
 | .i _ _,_=>rfl
 | .s _,_=>rfl
 | .n,_=>rfl
 | .z,_=>rfl
 | .nf,_=>rfl
 | .ni,_=>rfl
 | .sk,_=>rfl
 | .l _ _,_=>rfl
 | .e _ _,_=>rfl
theorem Af{k:Key} : (l:List AV)→AV.cG l=true→AV.jI k l=true
 | [],_=>rfl
 | x::l,h=>by
  simp only [AV.cG,Bool.and_eq_true] at h
  simp only [AV.jI,Bool.and_eq_true]
  exact ⟨lW x h.1,Af l h.2⟩
end
mutual
theorem er:(x:AV)→x.pure=true→x.copy=true
 | .a cs,h=>yF cs h
 | .tp cs,h=>yF cs h
 | .f _ cs,h=>yF cs h
 | .ifc _ x,h=>er x h
 | .b _,_=>rfl
 | .i _ _,_=>rfl
 | .s _,_=>rfl
 | .n,_=>rfl
 | .z,_=>rfl
 | .nf,_=>rfl
 | .ni,_=>rfl
 | .sk,_=>rfl
 | .l _ _,_=>rfl
 | .e _ _,_=>rfl
theorem yF:(l:List AV)→AV.cG l=true→AV.sU l=true
 | [],_=>rfl
 | x::l,h=>by
  simp only [AV.cG,Bool.and_eq_true] at h
  simp only [AV.sU,Bool.and_eq_true]
  exact ⟨er x h.1,yF l h.2⟩
end
variable [cN]
inductive VR(w:World)(I:Nat→Prop)(κ:Key→Nat):AV→Value→Prop where
 | u (v:Value):VR w I κ .u v
 | sk:VR w I κ .sk undef
 | b (x:Bool):VR w I κ (.b x) (.bool x)
 | i (k:IntKind) (n:Int):VR w I κ (.i k n) (.int k n)
 | s (l:List UInt8):VR w I κ (.s l) (.string ⟨l.toArray⟩)
 | n:VR w I κ .n (.slice none 0 0)
 | z:VR w I κ .z (.pointer none)
 | nf:VR w I κ .nf .nilFunc
 | ni:VR w I κ .ni .nilIface
 | lnil (t:TypeId) (A:Option Addr) (cap:Nat):VR w I κ (.l t []) (.slice A 0 cap)
 | l (t:TypeId) (es:List AV) (g o cap:Nat) (cs:Array Value) (T:TypeId) (fz:Nat×Nat) (sz:Nat) (hI:I g)
   (hh:w.heap[g]? =some (.cells cs T fz)) (ht:t≠0→(cN.n0≤g→T=t∧fz=(0,0))∧(g<cN.n0→cN.tg t=true)) (K:0<sz) (L:∀ e∈es,e.nc=sz) (C:o+es.length*sz≤cs.size)
   (hp:∀ e∈es,e.pure=true) (h1:∀ e∈es,∀ c∈e.cl,c.one=true) (G:es.length≤cap) (F:cap≤maxLen)
   (hc:∀ (j:Nat)(e:AV)(m:Nat)(c:AV),es[j]? =some e→e.cl[m]? =some c→VR w I κ c (cs.getD (o+j*sz+m) undef)) :
   VR w I κ (.l t es) (.slice (some ⟨g,o,none⟩) es.length cap)
 | e (x:AV) (off g o:Nat) (cs:Array Value) (T:TypeId) (fz:Nat×Nat) (hI:I g) (hh:w.heap[g]? =some (.cells cs T fz))
   (hp:x.pure=true) (C:o+x.nc≤cs.size) (h1:∀ c∈x.cl,c.one=true)
   (hc:∀ (m:Nat)(c:AV),x.cl[m]? =some c→VR w I κ c (cs.getD (o+m) undef)):VR w I κ (.e x off) (.pointer (some ⟨g,o+off,none⟩))
 | f (g:FuncId) (B:List AV) (vs:Array Value) (hg:g<1000000) (hl:B.length=vs.size) (hc:∀ (m:Nat)(c:AV),B[m]? =some c→VR w I κ c (vs.getD m undef)) :
   VR w I κ (.f g B) (.func (.func g) #[] vs)
 | fm (g:FuncId) (B:List AV) (vs:Array Value) (hl:B.length=vs.size) (hc:∀ (m:Nat)(c:AV),B[m]? =some c→VR w I κ c (vs.getD m undef)) :
   VR w I κ (.f (1000000+g) B) (.func (.func g) vs #[])
 | a (cs:List AV) (vs:Array Value) (hl:cs.length=vs.size) (h1:∀ c∈cs,c.one=true) (hc:∀ (m:Nat)(c:AV),cs[m]? =some c→VR w I κ c (vs.getD m undef)) :
   VR w I κ (.a cs) (.agg vs)
 | tp (cs:List AV) (vs:Array Value) (hl:cs.length=vs.size) (hc:∀ (m:Nat)(c:AV),cs[m]? =some c→VR w I κ c (vs.getD m undef)) :
   VR w I κ (.tp cs) (.tuple vs)
 | ifc (t:TypeId) (x:AV) (v:Value) (h:VR w I κ x v):VR w I κ (.ifc t x) (.iface t v)
 | p (k:Key) (off:Nat):VR w I κ (.p k off) (.pointer (some ⟨κ k,off,none⟩))
 | sp (k:Key) (off n sz cap:Nat) (h1:n≤cap) (h2:cap≤maxLen):VR w I κ (.sp k off n sz) (.slice (some ⟨κ k,off,none⟩) n cap)
theorem lA{x:AV}(h:x.pure=true):∀ c∈x.cl,c.pure=true:=by
 intro c hc
 cases x<;>simp only [AV.cl,List.mem_singleton] at hc<;>first | (subst hc;exact h) | skip
 exact jm (by simpa [AV.pure] using h) c hc
theorem VR.mono{w w':World}{I I':Nat→Prop}{κ κ':Key→Nat}{x:AV}{v:Value}(h:VR w I κ x v)
  (hI:∀ b,I b→I' b) (hh:∀ b,I b→w'.heap[b]? =w.heap[b]?) (hk:∀ k,x.dD k=false→κ' k=κ k):VR w' I' κ' x v:=by
 induction h with
 | u v=>exact .u v
 | sk=>exact .sk
 | b x=>exact .b x
 | i k n=>exact .i k n
 | s l=>exact .s l
 | n=>exact .n
 | z=>exact .z
 | nf=>exact .nf
 | ni=>exact .ni
 | lnil t A cap=>exact .lnil t A cap
 | l t es g o cap cs T fz sz H J ht K L C hp h1 G F hc ih=>
  refine .l t es g o cap cs T fz sz (hI _ H) ((hh _ H).trans J) ht K L C hp h1 G F fun j e m c he D=>ih j e m c he D fun k E=>?_
  exfalso
  have M:=lA (hp e (List.mem_of_getElem? he)) c (List.mem_of_getElem? D)
  exact absurd E (by simp [lW c M])
 | e x off g o cs T fz H J hp C h1 hc ih=>
  refine .e x off g o cs T fz (hI _ H) ((hh _ H).trans J) hp C h1 fun m c D=>ih m c D fun k E=>?_
  exfalso
  exact absurd E (by simp [lW c (lA hp c (List.mem_of_getElem? D))])
 | f g B vs hg hl hc ih=>exact .f g B vs hg hl fun m c D=>ih m c D fun k E=>hk k (Ae (List.mem_of_getElem? D) E)
 | fm g B vs hl hc ih=>exact .fm g B vs hl fun m c D=>ih m c D fun k E=>hk k (Ae (List.mem_of_getElem? D) E)
 | a cs vs hl h1 hc ih=>exact .a cs vs hl h1 fun m c D=>ih m c D fun k E=>hk k (Ae (List.mem_of_getElem? D) E)
 | tp cs vs hl hc ih=>exact .tp cs vs hl fun m c D=>ih m c D fun k E=>hk k (Ae (List.mem_of_getElem? D) E)
 | ifc t x v h ih=>exact .ifc t x v (ih hk)
 | p k off=>rw [←hk k (by simp [AV.dD])];exact .p k off
 | sp k off n sz cap h1 h2=>rw [←hk k (by simp [AV.dD])];exact .sp k off n sz cap h1 h2
def ab:=@Option.bind_some
def af:=@if_pos
def ah:=@if_neg
def aj:=@Nat.ne_of_lt
def aq:=@Option.some.inj
def au:=@Option.bind_eq_some_iff
def az:=@congrArg
def aD:=@decide_eq_false
def aF:=@decide_eq_true
def aJ:=@Nat.lt_succ_of_lt
def aH:=@if_true
def aY:=@Bool.and_eq_true
def bm:=@Nat.le_of_lt
def bu:=@List.getElem?_eq_getElem
def bG:=@Nat.le_refl
def cg:=@List.getElem_mem
def cm:=@List.mem_of_getElem?
def cH:=@if_false
def cQ:=@List.map_append
def dh:=@Ne.symm
def du:=@Nat.zero_le
def dy:=@Bool.false_eq_true
def dz:=@List.all_eq_true
def dU:=@List.drop_eq_getElem_cons
def eA:=@List.mem_cons
def eB:=@beq_iff_eq
def eC:=@Nat.le_trans
def eS:=@decide_eq_true_eq
def fi:=@Option.map_eq_some_iff
def fj:=@List.length_cons
def fk:=@List.cons_append
def fO:=@Nat.lt_of_lt_of_le
def fP:=@List.mem_iff_getElem?
def fQ:=@Nat.add_mul
def fR:=@Nat.lt_succ_self
def gw:=@List.nil_append
def iy:=@Array.getD_eq_getD_getElem?
def iz:=@Nat.mul_le_mul_right
def iA:=@List.mem_append
def iB:=@Prod.mk.inj
def iC:=@List.take_of_length_le
def je:=@List.map_cons
def jf:=@List.length_map
def jg:=@List.drop_eq_nil_of_le
def jK:=@Option.isSome_iff_exists
def jL:=@Nat.zero_add
def kH:=@Bool.and_self
def kJ:=@Option.map_some
def kK:=@List.cons.inj
def lX:=@List.mem_or_eq_of_mem_set
def oL:=@List.mem_of_mem_take
def oM:=@List.mem_singleton
def oO:=@List.mem_map
def oP:=@Int.le_refl
def oQ:=@List.length_append
def p7:=@Option.some.injEq
def p8:=@Nat.add_zero
def p9:=@Array.getElem?_eq_getElem
def qa:=@Bool.not_eq_true'
def rV:=@decide_true
def rW:=@Nat.lt_or_ge
def rX:=@Nat.not_lt
def rY:=@List.append_assoc
def rZ:=@List.getElem?_append
def sa:=@List.mem_append_left
def sb:=@List.mem_append_right
def sc:=@List.map_replicate
def uW:=@bne_iff_ne
def uX:=@of_decide_eq_true
def uY:=@List.length_nil
def uZ:=@Bool.false_or
def u0:=@Decidable.not_not
def u4:=@List.eq_of_mem_replicate
def u5:=@Array.size_push
def xe:=@List.map_congr_left
def xg:=@Bool.true_and
def xh:=@List.any_eq_true
def xj:=@List.mem_of_mem_drop
def xk:=@List.getElem?_take
def xm:=@List.getElem?_drop
def xn:=@Option.getD_some
def xp:=@List.getElem?_map
def xq:=@Bool.not_true
def xr:=@Nat.sub_zero
def xt:=@Nat.le_of_eq
def xu:=@List.getElem?_set
def xv:=@not_true_eq_false
def xw:=@List.size_toArray
def xx:=@List.getElem?_append_left
def xy:=@Bool.and_eq_true_iff
def xz:=@List.length_singleton
def xA:=@List.getD_eq_getElem?_getD
def xD:=@Array.getElem?_eq_some_iff
def xE:=@List.nodup_cons
def xG:=@beq_self_eq_true
def xH:=@Bool.eq_iff_iff
def AM:=@Nat.add_assoc
def AN:=@List.getElem?_eq_some_iff
def AO:=@List.foldl_cons
def AP:=@List.mapM_cons
def yU:=@List.getElem?_append_right
def yV:=@List.length_set
def yW:=@List.range_succ
def yX:=@List.take_succ_cons
def yY:=@Array.ext
def yZ:=@Array.getElem?_push
def BY:=@List.mem_cons_of_mem
def BZ:=@not_false_eq_true
def B0:=@of_decide_eq_false
def B3:=@List.getElem?_toArray
def B4:=@List.mem_map_of_mem
def B5:=@List.eq_nil_of_length_eq_zero
def B6:=@Array.getElem?_append
def B7:=@Bool.or_eq_true
def B8:=@Bool.or_true
def B9:=@Bool.true_or
def Ca:=@List.drop_eq_nil_iff
def Cb:=@List.length_drop
def Cc:=@Array.replicate_succ
def Cd:=@Array.replicate_zero
def Ce:=@List.push_toArray
def Cf:=@List.append_toArray
def F1:=@Classical.choose_spec
def F2:=@Nat.le_max_left
def F3:=@Nat.le_max_right
def F4:=@Array.getElem?_setIfInBounds
def F5:=@List.snd_lt_of_mem_zipIdx
def F6:=@Array.mapM_eq_mapM_toList
def F7:=@List.ext_getElem?
def F8:=@List.range'_succ
def F9:=@List.cons.injEq
def Ga:=@List.length_replicate
def Gb:=@List.append_nil
def Gc:=@Array.all_eq_true_iff_forall_mem
def Gd:=@List.drop_length
def Ge:=@List.take_add_one
def Gf:=@Nat.min_le_right
def Gg:=@Option.bind_eq_bind
def Nq:=@Array.eq_empty_of_size_eq_zero
def Nr:=@List.exists_of_findSome?_eq_some
end Go.Proofs.YtlmphbbhaeampaaGreat.A
