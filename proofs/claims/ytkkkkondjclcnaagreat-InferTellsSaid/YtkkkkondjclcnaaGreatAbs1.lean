/- What values an abstract run of the program has: plain lists for what is never changed again, rows and boxes that one place alone owns; and how these lie in the model's memory. -/
import Derived.WalkKit
set_option linter.all false
namespace Go.Proofs.YtkkkkondjclcnaaGreat.A
open Go
class bI where
 n0:Nat
 tg:TypeId→Bool:=fun _=>true
structure Key where
 dp:Nat
 d:Nat
instance:DecidableEq Key:=fun a b=>
 if h:a.d=b.d then
  if h':a.dp=b.dp then isTrue (by cases a;cases b;simp only at h h';rw [h,h'])
  else isFalse fun e=>h' (by rw [e])
 else isFalse fun e=>h (by rw [e])
inductive Pl where
 | s (d:Nat)
 | c (k:Key) (off:Nat)
deriving DecidableEq
inductive AV where
 | u
 | sk
 | b (x:Bool)
 | i (k:IntKind) (n:Int)
 | s (l:List UInt8)
 | n
 | z
 | nf
 | ni
 | l (t:TypeId) (es:List AV)
 | e (x:AV) (off:Nat)
 | f (g:FuncId) (caps:List AV)
 | a (cs:List AV)
 | tp (vs:List AV)
 | ifc (t:TypeId) (x:AV)
 | p (k:Key) (off:Nat)
 | o (t:TypeId) (es:List AV)
 | r (pl:Pl)
 | v (pl:Pl) (lo len:Nat)
 | q (pl:Pl) (i sz off:Nat)
 | w (g:Nat) (t:TypeId) (x:AV)
 | bp (t:TypeId) (k:Key) (u:Bool)
 | sp (k:Key) (off n sz:Nat)
 | ag (cs:List AV) (rs:List (Nat×Nat))
namespace AV
def cl:AV→List AV
 | .a cs=>cs
 | x=>[x]
def nc(x:AV):Nat:=x.cl.length
def one:AV→Bool
 | .u=>false
 | .sk=>false
 | .a _=>false
 | .tp _=>false
 | .r _=>false
 | .v _ _ _=>false
 | .q _ _ _ _=>false
 | .ag _ _=>false
 | _=>true
mutual
def pure:AV→Bool
 | .a cs=>bk cs
 | .tp cs=>bk cs
 | .f _ cs=>bk cs
 | .ifc _ x=>pure x
 | .p _ _=>false
 | .o _ _=>false
 | .r _=>false
 | .v _ _ _=>false
 | .q _ _ _ _=>false
 | .u=>false
 | .w _ _ _=>false
 | .bp _ _ _=>false
 | .sp _ _ _ _=>false
 | .ag _ _=>false
 | _=>true
def bk:List AV→Bool
 | []=>true
 | x::xs=>pure x&&bk xs
end
mutual
def copy:AV→Bool
 | .a cs=>mC cs
 | .tp cs=>mC cs
 | .f _ cs=>mC cs
 | .ifc _ x=>copy x
 | .o _ _=>false
 | .r _=>false
 | .v _ _ _=>false
 | .q _ _ _ _=>false
 | .u=>false
 | .w _ _ _=>false
 | .bp _ _ _=>false
 | .ag _ _=>false
 | _=>true
def mC:List AV→Bool
 | []=>true
 | x::xs=>copy x&&mC xs
end
mutual
def cJ(k:Key):AV→Bool
 | .a cs=>eG k cs
 | .ag cs _=>eG k cs
 | .tp cs=>eG k cs
 | .f _ cs=>eG k cs
 | .ifc _ x=>cJ k x
 | .p k' _=>decide (k'≠k)
 | .bp _ k' _=>decide (k'≠k)
 | .sp k' _ _ _=>decide (k'≠k)
 | .r (.c k' _)=>decide (k'≠k)
 | .v (.c k' _) _ _=>decide (k'≠k)
 | .q (.c k' _) _ _ _=>decide (k'≠k)
 | _=>true
def eG(k:Key):List AV→Bool
 | []=>true
 | x::xs=>cJ k x&&eG k xs
end
mutual
def deep(d:Nat):AV→Bool
 | .a cs=>fJ d cs
 | .tp cs=>fJ d cs
 | .f _ cs=>fJ d cs
 | .ifc _ x=>deep d x
 | .p k _=>decide (k.dp≤d)
 | .bp _ k _=>decide (k.dp≤d)
 | .sp k _ _ _=>decide (k.dp≤d)
 | .w _ _ _=>false
 | .ag _ _=>false
 | _=>true
def fJ(d:Nat):List AV→Bool
 | []=>true
 | x::xs=>deep d x&&fJ d xs
end
mutual
def off(ts:List TypeId):AV→Bool
 | .a cs=>kS ts cs
 | .tp cs=>kS ts cs
 | .f _ cs=>kS ts cs
 | .ifc _ x=>off ts x
 | .l t es=>es.isEmpty||(t !=0&&!ts.contains t&&kS ts es)
 | .e _ _=>ts.isEmpty
 | _=>true
def kS(ts:List TypeId):List AV→Bool
 | []=>true
 | x::xs=>off ts x&&kS ts xs
end
def jf(pl:Pl):AV→Bool
 | .r x=>decide (x=pl)
 | .v x _ _=>decide (x=pl)
 | .q x _ _ _=>decide (x=pl)
 | .ag _ rs=>match pl with
  | .s d=>rs.any fun q=>q.2==d
  | .c _ _=>false
 | _=>false
end AV
theorem fe{l:List AV}(h:AV.bk l=true):∀ x∈l,x.pure=true:=by
 induction l with
 | nil=>intro x hx;cases hx
 | cons y l ih=>
  simp only [AV.bk,Bool.and_eq_true] at h
  intro x hx
  rcases List.mem_cons.1 hx with rfl | hx
  ·exact h.1
  ·exact ih h.2 x hx
theorem za{l:List AV}(h:AV.mC l=true):∀ x∈l,x.copy=true:=by
 induction l with
 | nil=>intro x hx;cases hx
 | cons y l ih=>
  simp only [AV.mC,Bool.and_eq_true] at h
  intro x hx
  rcases List.mem_cons.1 hx with rfl | hx
  ·exact h.1
  ·exact ih h.2 x hx
theorem jk{l:List AV}(h:∀ x∈l,x.pure=true):AV.bk l=true:=by
 induction l with
 | nil=>rfl
 | cons y l ih=>
  simp only [AV.bk,Bool.and_eq_true]
  exact ⟨h y (by simp),ih fun x hx=>h x (by simp [hx])⟩
theorem n9{k:Key}{l:List AV}(h:AV.eG k l=true):∀ x∈l,x.cJ k=true:=by
 induction l with
 | nil=>intro x hx;cases hx
 | cons y l ih=>
  simp only [AV.eG,Bool.and_eq_true] at h
  intro x hx
  rcases List.mem_cons.1 hx with rfl | hx
  ·exact h.1
  ·exact ih h.2 x hx
theorem uN{ts:List TypeId}{l:List AV}(h:AV.kS ts l=true):∀ x∈l,x.off ts=true:=by
 induction l with
 | nil=>intro x hx;cases hx
 | cons y l ih=>
  simp only [AV.kS,Bool.and_eq_true] at h
  intro x hx
  rcases List.mem_cons.1 hx with rfl | hx
  ·exact h.1
  ·exact ih h.2 x hx
theorem nU{d:Nat}{l:List AV}(h:AV.fJ d l=true):∀ x∈l,x.deep d=true:=by
 induction l with
 | nil=>intro x hx;cases hx
 | cons y l ih=>
  simp only [AV.fJ,Bool.and_eq_true] at h
  intro x hx
  rcases List.mem_cons.1 hx with rfl | hx
  ·exact h.1
  ·exact ih h.2 x hx
theorem xe{k:Key}{l:List AV}{c:AV}(hm:c∈l)(h:c.cJ k=false):AV.eG k l=false:=by
 cases hl:AV.eG k l with
 | false=>rfl
 | true=>rw [n9 hl c hm] at h;cases h
mutual
theorem lC{k:Key} : (x:AV)→x.pure=true→x.cJ k=true
 | .a cs,h=>xg cs h
 | .tp cs,h=>xg cs h
 | .f _ cs,h=>xg cs h
 | .ifc _ x,h=>lC x h
 | .b _,_=>rfl
 | .i _ _,_=>rfl
 | .s _,_=>rfl
 | .n,_=>rfl
 | .z,_=>rfl
 | .nf,_=>rfl
 | .ni,_=>rfl
 | .sk,_=>rfl
 | .l _ _,_=>rfl
 | .e _ _,_=>rfl
theorem xg{k:Key} : (l:List AV)→AV.bk l=true→AV.eG k l=true
 | [],_=>rfl
 | x::l,h=>by
  simp only [AV.bk,Bool.and_eq_true] at h
  simp only [AV.eG,Bool.and_eq_true]
  exact ⟨lC x h.1,xg l h.2⟩
end
mutual
theorem dE:(x:AV)→x.pure=true→x.copy=true
 | .a cs,h=>vo cs h
 | .tp cs,h=>vo cs h
 | .f _ cs,h=>vo cs h
 | .ifc _ x,h=>dE x h
 | .b _,_=>rfl
 | .i _ _,_=>rfl
 | .s _,_=>rfl
 | .n,_=>rfl
 | .z,_=>rfl
 | .nf,_=>rfl
 | .ni,_=>rfl
 | .sk,_=>rfl
 | .l _ _,_=>rfl
 | .e _ _,_=>rfl
theorem vo:(l:List AV)→AV.bk l=true→AV.mC l=true
 | [],_=>rfl
 | x::l,h=>by
  simp only [AV.bk,Bool.and_eq_true] at h
  simp only [AV.mC,Bool.and_eq_true]
  exact ⟨dE x h.1,vo l h.2⟩
end
variable [bI]
inductive VR(w:World)(I:Nat→Prop)(κ:Key→Nat):AV→Value→Prop where
 | u (v:Value):VR w I κ .u v
 | sk:VR w I κ .sk undef
 | b (x:Bool):VR w I κ (.b x) (.bool x)
 | i (k:IntKind) (n:Int):VR w I κ (.i k n) (.int k n)
 | s (l:List UInt8):VR w I κ (.s l) (.string ⟨l.toArray⟩)
 | n:VR w I κ .n (.slice none 0 0)
 | z:VR w I κ .z (.pointer none)
 | nf:VR w I κ .nf .nilFunc
 | ni:VR w I κ .ni .nilIface
 | lnil (t:TypeId) (A:Option Addr) (cap:Nat):VR w I κ (.l t []) (.slice A 0 cap)
 | l (t:TypeId) (es:List AV) (g o cap:Nat) (cs:Array Value) (T:TypeId) (fz:Nat×Nat) (sz:Nat) (hI:I g)
   (hh:w.heap[g]? =some (.cells cs T fz)) (ht:t≠0→(bI.n0≤g→T=t∧fz=(0,0))∧(g<bI.n0→bI.tg t=true)) (hsz:0<sz) (hnc:∀ e∈es,e.nc=sz) (hsize:o+es.length*sz≤cs.size)
   (hp:∀ e∈es,e.pure=true) (h1:∀ e∈es,∀ c∈e.cl,c.one=true) (hcap:es.length≤cap) (hmax:cap≤maxLen)
   (hc:∀ (j:Nat)(e:AV)(m:Nat)(c:AV),es[j]? =some e→e.cl[m]? =some c→VR w I κ c (cs.getD (o+j*sz+m) undef)) :
   VR w I κ (.l t es) (.slice (some ⟨g,o,none⟩) es.length cap)
 | e (x:AV) (off g o:Nat) (cs:Array Value) (T:TypeId) (fz:Nat×Nat) (hI:I g) (hh:w.heap[g]? =some (.cells cs T fz))
   (hp:x.pure=true) (hsize:o+x.nc≤cs.size) (h1:∀ c∈x.cl,c.one=true)
   (hc:∀ (m:Nat)(c:AV),x.cl[m]? =some c→VR w I κ c (cs.getD (o+m) undef)):VR w I κ (.e x off) (.pointer (some ⟨g,o+off,none⟩))
 | f (g:FuncId) (caps:List AV) (vs:Array Value) (hg:g<1000000) (hl:caps.length=vs.size) (hc:∀ (m:Nat)(c:AV),caps[m]? =some c→VR w I κ c (vs.getD m undef)) :
   VR w I κ (.f g caps) (.func (.func g) #[] vs)
 | fm (g:FuncId) (caps:List AV) (vs:Array Value) (hl:caps.length=vs.size) (hc:∀ (m:Nat)(c:AV),caps[m]? =some c→VR w I κ c (vs.getD m undef)) :
   VR w I κ (.f (1000000+g) caps) (.func (.func g) vs #[])
 | a (cs:List AV) (vs:Array Value) (hl:cs.length=vs.size) (h1:∀ c∈cs,c.one=true) (hc:∀ (m:Nat)(c:AV),cs[m]? =some c→VR w I κ c (vs.getD m undef)) :
   VR w I κ (.a cs) (.agg vs)
 | tp (cs:List AV) (vs:Array Value) (hl:cs.length=vs.size) (hc:∀ (m:Nat)(c:AV),cs[m]? =some c→VR w I κ c (vs.getD m undef)) :
   VR w I κ (.tp cs) (.tuple vs)
 | ifc (t:TypeId) (x:AV) (v:Value) (h:VR w I κ x v):VR w I κ (.ifc t x) (.iface t v)
 | p (k:Key) (off:Nat):VR w I κ (.p k off) (.pointer (some ⟨κ k,off,none⟩))
 | sp (k:Key) (off n sz cap:Nat) (h1:n≤cap) (h2:cap≤maxLen):VR w I κ (.sp k off n sz) (.slice (some ⟨κ k,off,none⟩) n cap)
theorem jX{x:AV}(h:x.pure=true):∀ c∈x.cl,c.pure=true:=by
 intro c hc
 cases x<;>simp only [AV.cl,List.mem_singleton] at hc<;>first | (subst hc;exact h) | skip
 exact fe (by simpa [AV.pure] using h) c hc
theorem VR.mono{w w':World}{I I':Nat→Prop}{κ κ':Key→Nat}{x:AV}{v:Value}(h:VR w I κ x v)
  (hI:∀ b,I b→I' b) (hh:∀ b,I b→w'.heap[b]? =w.heap[b]?) (hk:∀ k,x.cJ k=false→κ' k=κ k):VR w' I' κ' x v:=by
 induction h with
 | u v=>exact .u v
 | sk=>exact .sk
 | b x=>exact .b x
 | i k n=>exact .i k n
 | s l=>exact .s l
 | n=>exact .n
 | z=>exact .z
 | nf=>exact .nf
 | ni=>exact .ni
 | lnil t A cap=>exact .lnil t A cap
 | l t es g o cap cs T fz sz hI0 hh0 ht hsz hnc hsize hp h1 hcap hmax hc ih=>
  refine .l t es g o cap cs T fz sz (hI _ hI0) ((hh _ hI0).trans hh0) ht hsz hnc hsize hp h1 hcap hmax fun j e m c he hc'=>ih j e m c he hc' fun k hk'=>?_
  exfalso
  have hpc:=jX (hp e (List.mem_of_getElem? he)) c (List.mem_of_getElem? hc')
  exact absurd hk' (by simp [lC c hpc])
 | e x off g o cs T fz hI0 hh0 hp hsize h1 hc ih=>
  refine .e x off g o cs T fz (hI _ hI0) ((hh _ hI0).trans hh0) hp hsize h1 fun m c hc'=>ih m c hc' fun k hk'=>?_
  exfalso
  exact absurd hk' (by simp [lC c (jX hp c (List.mem_of_getElem? hc'))])
 | f g caps vs hg hl hc ih=>exact .f g caps vs hg hl fun m c hc'=>ih m c hc' fun k hk'=>hk k (xe (List.mem_of_getElem? hc') hk')
 | fm g caps vs hl hc ih=>exact .fm g caps vs hl fun m c hc'=>ih m c hc' fun k hk'=>hk k (xe (List.mem_of_getElem? hc') hk')
 | a cs vs hl h1 hc ih=>exact .a cs vs hl h1 fun m c hc'=>ih m c hc' fun k hk'=>hk k (xe (List.mem_of_getElem? hc') hk')
 | tp cs vs hl hc ih=>exact .tp cs vs hl fun m c hc'=>ih m c hc' fun k hk'=>hk k (xe (List.mem_of_getElem? hc') hk')
 | ifc t x v h ih=>exact .ifc t x v (ih hk)
 | p k off=>rw [←hk k (by simp [AV.cJ])];exact .p k off
 | sp k off n sz cap h1 h2=>rw [←hk k (by simp [AV.cJ])];exact .sp k off n sz cap h1 h2
def aa:=@if_pos
def ab:=@if_neg
def ad:=@Option.some.inj
def ae:=@Option.bind_some
def af:=@Option.bind_eq_some_iff
def ak:=@congrArg
def an:=@if_true
def av:=@decide_eq_true
def aw:=@decide_eq_false
def aB:=@Bool.and_eq_true
def aA:=@List.getElem?_eq_getElem
def aI:=@if_false
def aP:=@List.mem_of_getElem?
def aT:=@Nat.le_refl
def bn:=@Bool.false_eq_true
def bA:=@Array.getD_eq_getD_getElem?
def bD:=@List.length_cons
def bJ:=@List.mem_append
def bO:=@List.all_eq_true
def bU:=@Nat.le_trans
def bY:=@List.getElem_mem
def b9:=@Nat.zero_le
def cp:=@List.getD_eq_getElem?_getD
def cq:=@List.map_cons
def cC:=@List.length_append
def cE:=@decide_eq_true_eq
def cQ:=@List.mem_cons
def cR:=@beq_iff_eq
def da:=@Nat.add_mul
def db:=@List.getElem?_eq_some_iff
def dc:=@List.map_append
def dN:=@Option.map_eq_some_iff
def dX:=@List.nil_append
def dY:=@Nat.ne_of_lt
def dZ:=@List.mem_iff_getElem?
def eo:=@List.drop_eq_nil_iff
def eA:=@List.cons_append
def eB:=@Nat.lt_of_lt_of_le
def eC:=@List.mem_of_mem_take
def eQ:=@List.getElem?_take
def eR:=@Prod.mk.inj
def fg:=@Option.map_some
def fh:=@List.length_map
def fi:=@Nat.zero_add
def fj:=@List.mem_of_mem_drop
def fk:=@Nat.mul_le_mul_right
def gd:=@Option.isSome_iff_exists
def gh:=@List.getElem?_map
def gj:=@List.getElem?_drop
def gm:=@List.mem_singleton
def gq:=@List.mem_append_left
def gu:=@Bool.not_eq_true'
def gT:=@Bool.and_self
def gY:=@Bool.true_and
def gZ:=@List.mem_map
def hZ:=@List.length_drop
def ib:=@Nat.lt_succ_of_lt
def iC:=@List.length_nil
def iD:=@List.mem_or_eq_of_mem_set
def iE:=@Nat.le_of_lt
def jl:=@Bool.false_or
def jm:=@Option.some.injEq
def jo:=@List.mem_append_right
def jq:=@Bool.or_eq_true
def kg:=@List.drop_eq_getElem_cons
def kh:=@List.getElem?_append
def kj:=@List.getElem?_set
def kl:=@Nat.mul_comm
def km:=@Classical.byContradiction
def ko:=@List.getElem?_replicate
def lD:=@List.any_eq_true
def lE:=@List.append_assoc
def lF:=@Nat.lt_or_ge
def lG:=@List.take_of_length_le
def lH:=@Bool.eq_iff_iff
def mV:=@Array.ext'
def mW:=@List.map_nil
def oa:=@decide_true
def ob:=@of_decide_eq_true
def oc:=@Nat.not_lt
def od:=@Option.getD_some
def oe:=@List.mem_map_of_mem
def og:=@List.getElem?_append_left
def oh:=@Array.getElem?_eq_some_iff
def pS:=@not_false_eq_true
def pT:=@Bool.not_true
def pU:=@Ne.symm
def pV:=@Nat.lt_succ_self
def pW:=@List.take_add_one
def pX:=@Nat.add_assoc
def pY:=@List.foldl_cons
def pZ:=@Nat.add_zero
def p6:=@decide_false
def p7:=@List.eq_nil_of_length_eq_zero
def p8:=@List.append_nil
def p9:=@List.drop_eq_nil_of_le
def qa:=@Nat.eq_zero_or_pos
def sT:=@List.map_congr_left
def sU:=@Decidable.not_not
def sV:=@Nat.sub_zero
def qb:=@not_true_eq_false
def qc:=@List.size_toArray
def qf:=@List.range_succ
def qg:=@List.length_eq_zero_iff
def tA:=@bne_iff_ne
def tB:=@Bool.and_true
def tC:=@List.nodup_cons
def tD:=@List.drop_zero
def tE:=@Array.getElem?_setIfInBounds
def tF:=@Nat.le_of_eq
def tG:=@List.getElem?_append_right
def tH:=@and_assoc
def tI:=@List.length_set
def tJ:=@List.mem_filter
def tK:=@Array.getElem?_eq_getElem
def vy:=@List.mem_cons_of_mem
def vz:=@List.any_cons
def vA:=@List.take_append_drop
def vB:=@List.mapM_cons
def vC:=@List.length_singleton
def vD:=@List.range_eq_range'
def vE:=@Array.getElem?_append
def vF:=@Bool.true_or
def vG:=@Bool.or_true
def vH:=@Classical.not_not
def vI:=@List.sum_cons
def vJ:=@List.getElem?_eq_none
def vK:=@and_congr_right
def vL:=@List.take_succ_cons
def vM:=@Bool.and_eq_true_iff
def vN:=@Array.ext
def vO:=@List.eq_of_mem_replicate
def zb:=@of_decide_eq_false
def zc:=@List.all_map
def zd:=@List.drop_length
def ze:=@List.map_replicate
def zf:=@Array.all_eq_true_iff_forall_mem
def zg:=@List.all_cons
def zh:=@List.getElem?_toArray
def zi:=@Nat.zero_mul
def zj:=@Array.getElem?_toList
def zk:=@List.range'_succ
def zl:=@Int.le_refl
def zm:=@List.getElem?_cons_zero
def zn:=@List.isEmpty_iff
def zo:=@Array.getElem?_eq_none
def zp:=@List.mem_range
def zq:=@List.findSome?_cons
def zr:=@Bool.true_eq_false
def zt:=@decide_eq_false_iff_not
def zu:=@List.getElem?_range
def zw:=@List.forall_mem_append
def zx:=@Bool.or_eq_false_iff
def zy:=@List.any_eq_false
def zz:=@List.getElem_zip
def CE:=@Classical.choose_spec
def CF:=@Nat.le_max_left
def CH:=@Nat.le_max_right
def CI:=@List.cons.injEq
def CJ:=@List.getElem?_cons_succ
def CK:=@List.snd_lt_of_mem_zipIdx
def CL:=@List.mem_replicate
def CM:=@List.length_replicate
def CN:=@List.flatMap_cons
def CO:=@List.mem_flatMap
def CP:=@beq_self_eq_true
def CQ:=@List.ext_getElem
def CS:=@List.filter_append
def CT:=@List.filter_eq_self
def CU:=@Array.replicate_succ
def CV:=@Array.replicate_zero
def CW:=@List.push_toArray
def CX:=@List.append_toArray
def CY:=@Nat.min_le_right
def CZ:=@Option.bind_eq_bind
def JE:=@List.exists_of_findSome?_eq_some
end Go.Proofs.YtkkkkondjclcnaaGreat.A
