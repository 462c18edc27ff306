/- What values an abstract run of the program has: plain lists for what is never changed again, rows and boxes that one place alone owns; and how these lie in the model's memory. -/
import Derived.WalkKit
set_option linter.all false
namespace Go.Proofs.YtkkkkondjclcnaaGreat.A
open Go
class bJ where
 n0:Nat
 tg:TypeId→Bool:=fun _=>true
structure Key where
 dp:Nat
 d:Nat
instance:DecidableEq Key:=fun a b=>
 if h:a.d=b.d then
  if h':a.dp=b.dp then isTrue (by cases a;cases b;simp only at h h';rw [h,h'])
  else isFalse fun e=>h' (by rw [e])
 else isFalse fun e=>h (by rw [e])
inductive Pl where
 | s (d:Nat)
 | c (k:Key) (off:Nat)
deriving DecidableEq
inductive AV where
 | u
 | sk
 | b (x:Bool)
 | i (k:IntKind) (n:Int)
 | s (l:List UInt8)
 | n
 | z
 | nf
 | ni
 | l (t:TypeId) (es:List AV)
 | e (x:AV) (off:Nat)
 | f (g:FuncId) (caps:List AV)
 | a (cs:List AV)
 | tp (vs:List AV)
 | ifc (t:TypeId) (x:AV)
 | p (k:Key) (off:Nat)
 | o (t:TypeId) (es:List AV)
 | r (pl:Pl)
 | v (pl:Pl) (lo len:Nat)
 | q (pl:Pl) (i sz off:Nat)
 | w (g:Nat) (t:TypeId) (x:AV)
 | bp (t:TypeId) (k:Key) (u:Bool)
 | sp (k:Key) (off n sz:Nat)
 | ag (cs:List AV) (rs:List (Nat×Nat))
namespace AV
def cl:AV→List AV
 | .a cs=>cs
 | x=>[x]
def nc(x:AV):Nat:=x.cl.length
def one:AV→Bool
 | .u=>false
 | .sk=>false
 | .a _=>false
 | .tp _=>false
 | .r _=>false
 | .v _ _ _=>false
 | .q _ _ _ _=>false
 | .ag _ _=>false
 | _=>true
mutual
def pure:AV→Bool
 | .a cs=>bk cs
 | .tp cs=>bk cs
 | .f _ cs=>bk cs
 | .ifc _ x=>pure x
 | .p _ _=>false
 | .o _ _=>false
 | .r _=>false
 | .v _ _ _=>false
 | .q _ _ _ _=>false
 | .u=>false
 | .w _ _ _=>false
 | .bp _ _ _=>false
 | .sp _ _ _ _=>false
 | .ag _ _=>false
 | _=>true
def bk:List AV→Bool
 | []=>true
 | x::xs=>pure x&&bk xs
end
mutual
def copy:AV→Bool
 | .a cs=>mE cs
 | .tp cs=>mE cs
 | .f _ cs=>mE cs
 | .ifc _ x=>copy x
 | .o _ _=>false
 | .r _=>false
 | .v _ _ _=>false
 | .q _ _ _ _=>false
 | .u=>false
 | .w _ _ _=>false
 | .bp _ _ _=>false
 | .ag _ _=>false
 | _=>true
def mE:List AV→Bool
 | []=>true
 | x::xs=>copy x&&mE xs
end
mutual
def cC(k:Key):AV→Bool
 | .a cs=>dB k cs
 | .ag cs _=>dB k cs
 | .tp cs=>dB k cs
 | .f _ cs=>dB k cs
 | .ifc _ x=>cC k x
 | .p k' _=>decide (k'≠k)
 | .bp _ k' _=>decide (k'≠k)
 | .sp k' _ _ _=>decide (k'≠k)
 | .r (.c k' _)=>decide (k'≠k)
 | .v (.c k' _) _ _=>decide (k'≠k)
 | .q (.c k' _) _ _ _=>decide (k'≠k)
 | _=>true
def dB(k:Key):List AV→Bool
 | []=>true
 | x::xs=>cC k x&&dB k xs
end
mutual
def deep(d:Nat):AV→Bool
 | .a cs=>ee d cs
 | .tp cs=>ee d cs
 | .f _ cs=>ee d cs
 | .ifc _ x=>deep d x
 | .p k _=>decide (k.dp≤d)
 | .bp _ k _=>decide (k.dp≤d)
 | .sp k _ _ _=>decide (k.dp≤d)
 | .w _ _ _=>false
 | .ag _ _=>false
 | _=>true
def ee(d:Nat):List AV→Bool
 | []=>true
 | x::xs=>deep d x&&ee d xs
end
mutual
def off(ts:List TypeId):AV→Bool
 | .a cs=>k7 ts cs
 | .tp cs=>k7 ts cs
 | .f _ cs=>k7 ts cs
 | .ifc _ x=>off ts x
 | .l t es=>es.isEmpty||(t !=0&&!ts.contains t&&k7 ts es)
 | .e _ _=>ts.isEmpty
 | _=>true
def k7(ts:List TypeId):List AV→Bool
 | []=>true
 | x::xs=>off ts x&&k7 ts xs
end
def ji(pl:Pl):AV→Bool
 | .r x=>decide (x=pl)
 | .v x _ _=>decide (x=pl)
 | .q x _ _ _=>decide (x=pl)
 | .ag _ rs=>match pl with
  | .s d=>rs.any fun q=>q.2==d
  | .c _ _=>false
 | _=>false
end AV
theorem ft{l:List AV}(h:AV.bk l=true):∀ x∈l,x.pure=true:=by
 induction l with
 | nil=>intro x hx;cases hx
 | cons y l ih=>
  simp only [AV.bk,Bool.and_eq_true] at h
  intro x hx
  rcases List.mem_cons.1 hx with rfl | hx
  ·exact h.1
  ·exact ih h.2 x hx
theorem yI{l:List AV}(h:AV.mE l=true):∀ x∈l,x.copy=true:=by
 induction l with
 | nil=>intro x hx;cases hx
 | cons y l ih=>
  simp only [AV.mE,Bool.and_eq_true] at h
  intro x hx
  rcases List.mem_cons.1 hx with rfl | hx
  ·exact h.1
  ·exact ih h.2 x hx
theorem jo{l:List AV}(h:∀ x∈l,x.pure=true):AV.bk l=true:=by
 induction l with
 | nil=>rfl
 | cons y l ih=>
  simp only [AV.bk,Bool.and_eq_true]
  exact ⟨h y (by simp),ih fun x hx=>h x (by simp [hx])⟩
theorem nh{k:Key}{l:List AV}(h:AV.dB k l=true):∀ x∈l,x.cC k=true:=by
 induction l with
 | nil=>intro x hx;cases hx
 | cons y l ih=>
  simp only [AV.dB,Bool.and_eq_true] at h
  intro x hx
  rcases List.mem_cons.1 hx with rfl | hx
  ·exact h.1
  ·exact ih h.2 x hx
theorem uM{ts:List TypeId}{l:List AV}(h:AV.k7 ts l=true):∀ x∈l,x.off ts=true:=by
 induction l with
 | nil=>intro x hx;cases hx
 | cons y l ih=>
  simp only [AV.k7,Bool.and_eq_true] at h
  intro x hx
  rcases List.mem_cons.1 hx with rfl | hx
  ·exact h.1
  ·exact ih h.2 x hx
theorem mF{d:Nat}{l:List AV}(h:AV.ee d l=true):∀ x∈l,x.deep d=true:=by
 induction l with
 | nil=>intro x hx;cases hx
 | cons y l ih=>
  simp only [AV.ee,Bool.and_eq_true] at h
  intro x hx
  rcases List.mem_cons.1 hx with rfl | hx
  ·exact h.1
  ·exact ih h.2 x hx
theorem xe{k:Key}{l:List AV}{c:AV}(hm:c∈l)(h:c.cC k=false):AV.dB k l=false:=by
 cases hl:AV.dB k l with
 | false=>rfl
 | true=>rw [nh hl c hm] at h;cases h
mutual
theorem lM{k:Key} : (x:AV)→x.pure=true→x.cC k=true
 | .a cs,h=>xg cs h
 | .tp cs,h=>xg cs h
 | .f _ cs,h=>xg cs h
 | .ifc _ x,h=>lM x h
 | .b _,_=>rfl
 | .i _ _,_=>rfl
 | .s _,_=>rfl
 | .n,_=>rfl
 | .z,_=>rfl
 | .nf,_=>rfl
 | .ni,_=>rfl
 | .sk,_=>rfl
 | .l _ _,_=>rfl
 | .e _ _,_=>rfl
theorem xg{k:Key} : (l:List AV)→AV.bk l=true→AV.dB k l=true
 | [],_=>rfl
 | x::l,h=>by
  simp only [AV.bk,Bool.and_eq_true] at h
  simp only [AV.dB,Bool.and_eq_true]
  exact ⟨lM x h.1,xg l h.2⟩
end
mutual
theorem dG:(x:AV)→x.pure=true→x.copy=true
 | .a cs,h=>vq cs h
 | .tp cs,h=>vq cs h
 | .f _ cs,h=>vq cs h
 | .ifc _ x,h=>dG x h
 | .b _,_=>rfl
 | .i _ _,_=>rfl
 | .s _,_=>rfl
 | .n,_=>rfl
 | .z,_=>rfl
 | .nf,_=>rfl
 | .ni,_=>rfl
 | .sk,_=>rfl
 | .l _ _,_=>rfl
 | .e _ _,_=>rfl
theorem vq:(l:List AV)→AV.bk l=true→AV.mE l=true
 | [],_=>rfl
 | x::l,h=>by
  simp only [AV.bk,Bool.and_eq_true] at h
  simp only [AV.mE,Bool.and_eq_true]
  exact ⟨dG x h.1,vq l h.2⟩
end
variable [bJ]
inductive VR(w:World)(I:Nat→Prop)(κ:Key→Nat):AV→Value→Prop where
 | u (v:Value):VR w I κ .u v
 | sk:VR w I κ .sk undef
 | b (x:Bool):VR w I κ (.b x) (.bool x)
 | i (k:IntKind) (n:Int):VR w I κ (.i k n) (.int k n)
 | s (l:List UInt8):VR w I κ (.s l) (.string ⟨l.toArray⟩)
 | n:VR w I κ .n (.slice none 0 0)
 | z:VR w I κ .z (.pointer none)
 | nf:VR w I κ .nf .nilFunc
 | ni:VR w I κ .ni .nilIface
 | lnil (t:TypeId) (A:Option Addr) (cap:Nat):VR w I κ (.l t []) (.slice A 0 cap)
 | l (t:TypeId) (es:List AV) (g o cap:Nat) (cs:Array Value) (T:TypeId) (fz:Nat×Nat) (sz:Nat) (hI:I g)
   (hh:w.heap[g]? =some (.cells cs T fz)) (ht:t≠0→(bJ.n0≤g→T=t∧fz=(0,0))∧(g<bJ.n0→bJ.tg t=true)) (hsz:0<sz) (hnc:∀ e∈es,e.nc=sz) (hsize:o+es.length*sz≤cs.size)
   (hp:∀ e∈es,e.pure=true) (h1:∀ e∈es,∀ c∈e.cl,c.one=true) (hcap:es.length≤cap) (hmax:cap≤maxLen)
   (hc:∀ (j:Nat)(e:AV)(m:Nat)(c:AV),es[j]? =some e→e.cl[m]? =some c→VR w I κ c (cs.getD (o+j*sz+m) undef)) :
   VR w I κ (.l t es) (.slice (some ⟨g,o,none⟩) es.length cap)
 | e (x:AV) (off g o:Nat) (cs:Array Value) (T:TypeId) (fz:Nat×Nat) (hI:I g) (hh:w.heap[g]? =some (.cells cs T fz))
   (hp:x.pure=true) (hsize:o+x.nc≤cs.size) (h1:∀ c∈x.cl,c.one=true)
   (hc:∀ (m:Nat)(c:AV),x.cl[m]? =some c→VR w I κ c (cs.getD (o+m) undef)):VR w I κ (.e x off) (.pointer (some ⟨g,o+off,none⟩))
 | f (g:FuncId) (caps:List AV) (vs:Array Value) (hg:g<1000000) (hl:caps.length=vs.size) (hc:∀ (m:Nat)(c:AV),caps[m]? =some c→VR w I κ c (vs.getD m undef)) :
   VR w I κ (.f g caps) (.func (.func g) #[] vs)
 | fm (g:FuncId) (caps:List AV) (vs:Array Value) (hl:caps.length=vs.size) (hc:∀ (m:Nat)(c:AV),caps[m]? =some c→VR w I κ c (vs.getD m undef)) :
   VR w I κ (.f (1000000+g) caps) (.func (.func g) vs #[])
 | a (cs:List AV) (vs:Array Value) (hl:cs.length=vs.size) (h1:∀ c∈cs,c.one=true) (hc:∀ (m:Nat)(c:AV),cs[m]? =some c→VR w I κ c (vs.getD m undef)) :
   VR w I κ (.a cs) (.agg vs)
 | tp (cs:List AV) (vs:Array Value) (hl:cs.length=vs.size) (hc:∀ (m:Nat)(c:AV),cs[m]? =some c→VR w I κ c (vs.getD m undef)) :
   VR w I κ (.tp cs) (.tuple vs)
 | ifc (t:TypeId) (x:AV) (v:Value) (h:VR w I κ x v):VR w I κ (.ifc t x) (.iface t v)
 | p (k:Key) (off:Nat):VR w I κ (.p k off) (.pointer (some ⟨κ k,off,none⟩))
 | sp (k:Key) (off n sz cap:Nat) (h1:n≤cap) (h2:cap≤maxLen):VR w I κ (.sp k off n sz) (.slice (some ⟨κ k,off,none⟩) n cap)
theorem jq{x:AV}(h:x.pure=true):∀ c∈x.cl,c.pure=true:=by
 intro c hc
 cases x<;>simp only [AV.cl,List.mem_singleton] at hc<;>first | (subst hc;exact h) | skip
 exact ft (by simpa [AV.pure] using h) c hc
theorem VR.mono{w w':World}{I I':Nat→Prop}{κ κ':Key→Nat}{x:AV}{v:Value}(h:VR w I κ x v)
  (hI:∀ b,I b→I' b) (hh:∀ b,I b→w'.heap[b]? =w.heap[b]?) (hk:∀ k,x.cC k=false→κ' k=κ k):VR w' I' κ' x v:=by
 induction h with
 | u v=>exact .u v
 | sk=>exact .sk
 | b x=>exact .b x
 | i k n=>exact .i k n
 | s l=>exact .s l
 | n=>exact .n
 | z=>exact .z
 | nf=>exact .nf
 | ni=>exact .ni
 | lnil t A cap=>exact .lnil t A cap
 | l t es g o cap cs T fz sz hI0 hh0 ht hsz hnc hsize hp h1 hcap hmax hc ih=>
  refine .l t es g o cap cs T fz sz (hI _ hI0) ((hh _ hI0).trans hh0) ht hsz hnc hsize hp h1 hcap hmax fun j e m c he hc'=>ih j e m c he hc' fun k hk'=>?_
  exfalso
  have hpc:=jq (hp e (List.mem_of_getElem? he)) c (List.mem_of_getElem? hc')
  exact absurd hk' (by simp [lM c hpc])
 | e x off g o cs T fz hI0 hh0 hp hsize h1 hc ih=>
  refine .e x off g o cs T fz (hI _ hI0) ((hh _ hI0).trans hh0) hp hsize h1 fun m c hc'=>ih m c hc' fun k hk'=>?_
  exfalso
  exact absurd hk' (by simp [lM c (jq hp c (List.mem_of_getElem? hc'))])
 | f g caps vs hg hl hc ih=>exact .f g caps vs hg hl fun m c hc'=>ih m c hc' fun k hk'=>hk k (xe (List.mem_of_getElem? hc') hk')
 | fm g caps vs hl hc ih=>exact .fm g caps vs hl fun m c hc'=>ih m c hc' fun k hk'=>hk k (xe (List.mem_of_getElem? hc') hk')
 | a cs vs hl h1 hc ih=>exact .a cs vs hl h1 fun m c hc'=>ih m c hc' fun k hk'=>hk k (xe (List.mem_of_getElem? hc') hk')
 | tp cs vs hl hc ih=>exact .tp cs vs hl fun m c hc'=>ih m c hc' fun k hk'=>hk k (xe (List.mem_of_getElem? hc') hk')
 | ifc t x v h ih=>exact .ifc t x v (ih hk)
 | p k off=>rw [←hk k (by simp [AV.cC])];exact .p k off
 | sp k off n sz cap h1 h2=>rw [←hk k (by simp [AV.cC])];exact .sp k off n sz cap h1 h2
def aa:=@Option.some.inj
def ab:=@if_pos
def ad:=@if_neg
def af:=@Option.bind_some
def ah:=@Option.bind_eq_some_iff
def an:=@congrArg
def aq:=@if_true
def av:=@decide_eq_true
def aw:=@decide_eq_false
def aA:=@Bool.and_eq_true
def aB:=@List.getElem?_eq_getElem
def aL:=@List.mem_of_getElem?
def aM:=@if_false
def aS:=@Nat.le_refl
def bn:=@Array.getD_eq_getD_getElem?
def bu:=@List.length_cons
def bB:=@Bool.false_eq_true
def bH:=@List.all_eq_true
def bQ:=@Nat.le_trans
def bU:=@List.mem_append
def bZ:=@List.map_cons
def cb:=@List.getD_eq_getElem?_getD
def cq:=@List.getElem_mem
def ct:=@Nat.zero_le
def cH:=@List.length_append
def cI:=@List.map_append
def cR:=@List.mem_cons
def cS:=@beq_iff_eq
def cT:=@Nat.ne_of_lt
def c9:=@Option.map_eq_some_iff
def da:=@Nat.add_mul
def df:=@decide_eq_true_eq
def dh:=@List.getElem?_eq_some_iff
def dC:=@List.length_map
def ea:=@List.nil_append
def eb:=@Nat.lt_of_lt_of_le
def ec:=@List.mem_iff_getElem?
def eu:=@List.cons_append
def eH:=@List.mem_map
def eI:=@List.mem_of_mem_take
def eJ:=@Prod.mk.inj
def eK:=@Nat.lt_succ_of_lt
def eU:=@Nat.zero_add
def eV:=@List.getElem?_take
def eW:=@List.drop_eq_nil_iff
def fu:=@List.mem_of_mem_drop
def fv:=@Nat.mul_le_mul_right
def fw:=@List.mem_singleton
def fx:=@Nat.le_of_lt
def gq:=@Option.isSome_iff_exists
def gu:=@Bool.and_self
def gv:=@Option.map_some
def gw:=@List.getElem?_map
def gx:=@List.getElem?_drop
def gy:=@List.length_drop
def gD:=@List.mem_append_left
def ig:=@List.length_nil
def iH:=@List.mem_or_eq_of_mem_set
def iI:=@Bool.not_eq_true'
def jr:=@Bool.true_and
def js:=@Bool.false_or
def jt:=@List.drop_eq_getElem_cons
def ju:=@Option.some.injEq
def jv:=@List.mem_append_right
def jw:=@Bool.or_eq_true
def kt:=@Option.getD_some
def ku:=@Array.getElem?_eq_getElem
def kv:=@List.getElem?_append
def kx:=@List.getElem?_set
def kz:=@Nat.mul_comm
def kA:=@List.getElem?_replicate
def kB:=@List.map_nil
def lN:=@List.any_eq_true
def lO:=@List.append_assoc
def lP:=@Nat.lt_or_ge
def lQ:=@Nat.not_lt
def lR:=@Nat.add_zero
def lS:=@Array.ext'
def lT:=@Classical.byContradiction
def lU:=@List.take_of_length_le
def nj:=@of_decide_eq_true
def nm:=@Nat.lt_succ_self
def np:=@List.cons.inj
def nq:=@Array.getElem?_eq_some_iff
def oq:=@decide_true
def ot:=@not_false_eq_true
def ou:=@Bool.not_true
def ov:=@List.length_singleton
def ox:=@List.mem_map_of_mem
def oy:=@List.eq_nil_of_length_eq_zero
def oz:=@List.getElem?_append_left
def oA:=@List.range_succ
def p8:=@Ne.symm
def p9:=@List.take_add_one
def qa:=@Nat.add_assoc
def qb:=@List.foldl_cons
def qc:=@decide_false
def qf:=@List.size_toArray
def qg:=@List.append_nil
def qh:=@List.drop_eq_nil_of_le
def oe:=@Bool.eq_iff_iff
def qi:=@List.map_congr_left
def qj:=@bne_iff_ne
def qm:=@Decidable.not_not
def qn:=@Nat.sub_zero
def qo:=@not_true_eq_false
def qp:=@Array.getElem?_push
def qt:=@Array.size_push
def tA:=@Bool.and_true
def tB:=@List.nodup_cons
def tC:=@List.drop_zero
def tD:=@Array.getElem?_setIfInBounds
def tE:=@Nat.le_of_eq
def tF:=@List.getElem?_append_right
def tG:=@List.length_set
def tH:=@List.mem_filter
def tI:=@Nat.eq_zero_or_pos
def tJ:=@Array.ext
def vD:=@List.mem_cons_of_mem
def vE:=@List.take_append_drop
def vF:=@List.mapM_cons
def vG:=@Array.getElem?_toList
def vH:=@List.range_eq_range'
def vI:=@Array.getElem?_append
def vJ:=@Bool.true_or
def vK:=@Bool.or_true
def vL:=@List.sum_cons
def vM:=@List.getElem?_eq_none
def vN:=@List.length_eq_zero_iff
def vO:=@List.take_succ_cons
def vP:=@Bool.and_eq_true_iff
def vQ:=@List.eq_of_mem_replicate
def yJ:=@Bool.not_false
def yK:=@of_decide_eq_false
def yL:=@List.all_map
def yM:=@List.drop_length
def yN:=@List.any_cons
def yO:=@List.map_replicate
def yP:=@Array.all_eq_true_iff_forall_mem
def yQ:=@List.all_cons
def yR:=@List.getElem?_toArray
def yS:=@Nat.zero_mul
def yT:=@List.range'_succ
def yU:=@Int.le_refl
def yV:=@List.getElem?_cons_zero
def yW:=@List.isEmpty_iff
def yX:=@Array.getElem?_eq_none
def yY:=@List.mem_range
def yZ:=@List.findSome?_cons
def y0:=@Bool.true_eq_false
def za:=@List.length_filter_le
def zb:=@List.filter_append
def zc:=@List.getElem?_range
def zd:=@List.forall_mem_append
def ze:=@Array.replicate_succ
def zf:=@Array.replicate_zero
def zg:=@List.push_toArray
def zh:=@List.append_toArray
def Cq:=@Classical.choose_spec
def Cr:=@Nat.le_max_left
def Ct:=@Nat.le_max_right
def Cu:=@List.cons.injEq
def Cv:=@Bool.not_eq_eq_eq_not
def Cw:=@List.getElem?_cons_succ
def Cy:=@List.snd_lt_of_mem_zipIdx
def Cz:=@List.mem_replicate
def CB:=@List.length_replicate
def CC:=@List.flatMap_cons
def CD:=@List.mem_flatMap
def CE:=@List.length_take
def CF:=@beq_self_eq_true
def CH:=@List.ext_getElem
def CI:=@List.take_length
def CJ:=@List.length_range
def CK:=@List.filter_eq_self
def CL:=@List.getElem?_take_of_lt
def CM:=@Nat.min_le_right
def CN:=@Option.bind_eq_bind
def Js:=@Array.eq_empty_of_size_eq_zero
def Jt:=@List.exists_of_findSome?_eq_some
end Go.Proofs.YtkkkkondjclcnaaGreat.A
