/- What values an abstract run of the program has: plain lists for what is never changed again, rows and boxes that one place alone owns; and how these lie in the model's memory. -/
import Derived.WalkKit
set_option linter.unusedSectionVars false
set_option linter.unusedVariables false
set_option linter.unusedSimpArgs false
set_option linter.constructorNameAsVariable false
namespace Go.Proofs.YtkkkkondjclcnaaGreat.A
open Go
class aY where
 n0:Nat
 tg:TypeId→Bool:=fun _=>true
structure Key where
 dp:Nat
 d:Nat
instance:DecidableEq Key:=fun a b=>
 if h:a.d=b.d then
  if h':a.dp=b.dp then isTrue (by cases a;cases b;simp only at h h';rw [h,h'])
  else isFalse fun e=>h' (by rw [e])
 else isFalse fun e=>h (by rw [e])
inductive Pl where
 | s (d:Nat)
 | c (k:Key) (off:Nat)
deriving DecidableEq
inductive AV where
 | u
 | sk
 | b (x:Bool)
 | i (k:IntKind) (n:Int)
 | s (l:List UInt8)
 | n
 | z
 | nf
 | ni
 | l (t:TypeId) (es:List AV)
 | e (x:AV) (off:Nat)
 | f (g:FuncId) (caps:List AV)
 | a (cs:List AV)
 | tp (vs:List AV)
 | ifc (t:TypeId) (x:AV)
 | p (k:Key) (off:Nat)
 | o (t:TypeId) (es:List AV)
 | r (pl:Pl)
 | v (pl:Pl) (lo len:Nat)
 | q (pl:Pl) (i sz off:Nat)
 | w (g:Nat) (t:TypeId) (x:AV)
 | bp (t:TypeId) (k:Key) (u:Bool)
 | sp (k:Key) (off n sz:Nat)
 | ag (cs:List AV) (rs:List (Nat×Nat))
namespace AV
def cl:AV→List AV
 | .a cs=>cs
 | x=>[x]
def nc(x:AV):Nat:=x.cl.length
def one:AV→Bool
 | .u=>false
 | .sk=>false
 | .a _=>false
 | .tp _=>false
 | .r _=>false
 | .v _ _ _=>false
 | .q _ _ _ _=>false
 | .ag _ _=>false
 | _=>true
mutual
def pure:AV→Bool
 | .a cs=>aK cs
 | .tp cs=>aK cs
 | .f _ cs=>aK cs
 | .ifc _ x=>pure x
 | .p _ _=>false
 | .o _ _=>false
 | .r _=>false
 | .v _ _ _=>false
 | .q _ _ _ _=>false
 | .u=>false
 | .w _ _ _=>false
 | .bp _ _ _=>false
 | .sp _ _ _ _=>false
 | .ag _ _=>false
 | _=>true
def aK:List AV→Bool
 | []=>true
 | x::xs=>pure x&&aK xs
end
mutual
def copy:AV→Bool
 | .a cs=>kC cs
 | .tp cs=>kC cs
 | .f _ cs=>kC cs
 | .ifc _ x=>copy x
 | .o _ _=>false
 | .r _=>false
 | .v _ _ _=>false
 | .q _ _ _ _=>false
 | .u=>false
 | .w _ _ _=>false
 | .bp _ _ _=>false
 | .ag _ _=>false
 | _=>true
def kC:List AV→Bool
 | []=>true
 | x::xs=>copy x&&kC xs
end
mutual
def bb(k:Key):AV→Bool
 | .a cs=>bM k cs
 | .ag cs _=>bM k cs
 | .tp cs=>bM k cs
 | .f _ cs=>bM k cs
 | .ifc _ x=>bb k x
 | .p k' _=>decide (k'≠k)
 | .bp _ k' _=>decide (k'≠k)
 | .sp k' _ _ _=>decide (k'≠k)
 | .r (.c k' _)=>decide (k'≠k)
 | .v (.c k' _) _ _=>decide (k'≠k)
 | .q (.c k' _) _ _ _=>decide (k'≠k)
 | _=>true
def bM(k:Key):List AV→Bool
 | []=>true
 | x::xs=>bb k x&&bM k xs
end
mutual
def deep(d:Nat):AV→Bool
 | .a cs=>bP d cs
 | .tp cs=>bP d cs
 | .f _ cs=>bP d cs
 | .ifc _ x=>deep d x
 | .p k _=>decide (k.dp≤d)
 | .bp _ k _=>decide (k.dp≤d)
 | .sp k _ _ _=>decide (k.dp≤d)
 | .w _ _ _=>false
 | .ag _ _=>false
 | _=>true
def bP(d:Nat):List AV→Bool
 | []=>true
 | x::xs=>deep d x&&bP d xs
end
mutual
def off(ts:List TypeId):AV→Bool
 | .a cs=>ua ts cs
 | .tp cs=>ua ts cs
 | .f _ cs=>ua ts cs
 | .ifc _ x=>off ts x
 | .l t es=>es.isEmpty||(t !=0&&!ts.contains t&&ua ts es)
 | .e _ _=>ts.isEmpty
 | _=>true
def ua(ts:List TypeId):List AV→Bool
 | []=>true
 | x::xs=>off ts x&&ua ts xs
end
def fe(pl:Pl):AV→Bool
 | .r x=>decide (x=pl)
 | .v x _ _=>decide (x=pl)
 | .q x _ _ _=>decide (x=pl)
 | .ag _ rs=>match pl with
  | .s d=>rs.any fun q=>q.2==d
  | .c _ _=>false
 | _=>false
end AV
theorem cT{l:List AV}(h:AV.aK l=true):∀ x∈l,x.pure=true:=by
 induction l with
 | nil=>intro x hx;cases hx
 | cons y l ih=>
  simp only [AV.aK,Bool.and_eq_true] at h
  intro x hx
  rcases List.mem_cons.1 hx with rfl | hx
  ·exact h.1
  ·exact ih h.2 x hx
theorem wD{l:List AV}(h:AV.kC l=true):∀ x∈l,x.copy=true:=by
 induction l with
 | nil=>intro x hx;cases hx
 | cons y l ih=>
  simp only [AV.kC,Bool.and_eq_true] at h
  intro x hx
  rcases List.mem_cons.1 hx with rfl | hx
  ·exact h.1
  ·exact ih h.2 x hx
theorem ib{l:List AV}(h:∀ x∈l,x.pure=true):AV.aK l=true:=by
 induction l with
 | nil=>rfl
 | cons y l ih=>
  simp only [AV.aK,Bool.and_eq_true]
  exact ⟨h y (by simp),ih fun x hx=>h x (by simp [hx])⟩
theorem ja{k:Key}{l:List AV}(h:AV.bM k l=true):∀ x∈l,x.bb k=true:=by
 induction l with
 | nil=>intro x hx;cases hx
 | cons y l ih=>
  simp only [AV.bM,Bool.and_eq_true] at h
  intro x hx
  rcases List.mem_cons.1 hx with rfl | hx
  ·exact h.1
  ·exact ih h.2 x hx
theorem sw{ts:List TypeId}{l:List AV}(h:AV.ua ts l=true):∀ x∈l,x.off ts=true:=by
 induction l with
 | nil=>intro x hx;cases hx
 | cons y l ih=>
  simp only [AV.ua,Bool.and_eq_true] at h
  intro x hx
  rcases List.mem_cons.1 hx with rfl | hx
  ·exact h.1
  ·exact ih h.2 x hx
theorem kZ{d:Nat}{l:List AV}(h:AV.bP d l=true):∀ x∈l,x.deep d=true:=by
 induction l with
 | nil=>intro x hx;cases hx
 | cons y l ih=>
  simp only [AV.bP,Bool.and_eq_true] at h
  intro x hx
  rcases List.mem_cons.1 hx with rfl | hx
  ·exact h.1
  ·exact ih h.2 x hx
theorem uF{k:Key}{l:List AV}{c:AV}(hm:c∈l)(h:c.bb k=false):AV.bM k l=false:=by
 cases hl:AV.bM k l with
 | false=>rfl
 | true=>rw [ja hl c hm] at h;cases h
mutual
theorem ic{k:Key} : (x:AV)→x.pure=true→x.bb k=true
 | .a cs,h=>rJ cs h
 | .tp cs,h=>rJ cs h
 | .f _ cs,h=>rJ cs h
 | .ifc _ x,h=>ic x h
 | .b _,_=>rfl
 | .i _ _,_=>rfl
 | .s _,_=>rfl
 | .n,_=>rfl
 | .z,_=>rfl
 | .nf,_=>rfl
 | .ni,_=>rfl
 | .sk,_=>rfl
 | .l _ _,_=>rfl
 | .e _ _,_=>rfl
theorem rJ{k:Key} : (l:List AV)→AV.aK l=true→AV.bM k l=true
 | [],_=>rfl
 | x::l,h=>by
  simp only [AV.aK,Bool.and_eq_true] at h
  simp only [AV.bM,Bool.and_eq_true]
  exact ⟨ic x h.1,rJ l h.2⟩
end
mutual
theorem Fa{d:Nat} : (x:AV)→x.pure=true→x.deep d=true
 | .a cs,h=>qy cs h
 | .tp cs,h=>qy cs h
 | .f _ cs,h=>qy cs h
 | .ifc _ x,h=>Fa x h
 | .b _,_=>rfl
 | .i _ _,_=>rfl
 | .s _,_=>rfl
 | .n,_=>rfl
 | .z,_=>rfl
 | .nf,_=>rfl
 | .ni,_=>rfl
 | .sk,_=>rfl
 | .l _ _,_=>rfl
 | .e _ _,_=>rfl
theorem qy{d:Nat} : (l:List AV)→AV.aK l=true→AV.bP d l=true
 | [],_=>rfl
 | x::l,h=>by
  simp only [AV.aK,Bool.and_eq_true] at h
  simp only [AV.bP,Bool.and_eq_true]
  exact ⟨Fa x h.1,qy l h.2⟩
end
mutual
theorem cH:(x:AV)→x.pure=true→x.copy=true
 | .a cs,h=>ta cs h
 | .tp cs,h=>ta cs h
 | .f _ cs,h=>ta cs h
 | .ifc _ x,h=>cH x h
 | .b _,_=>rfl
 | .i _ _,_=>rfl
 | .s _,_=>rfl
 | .n,_=>rfl
 | .z,_=>rfl
 | .nf,_=>rfl
 | .ni,_=>rfl
 | .sk,_=>rfl
 | .l _ _,_=>rfl
 | .e _ _,_=>rfl
theorem ta:(l:List AV)→AV.aK l=true→AV.kC l=true
 | [],_=>rfl
 | x::l,h=>by
  simp only [AV.aK,Bool.and_eq_true] at h
  simp only [AV.kC,Bool.and_eq_true]
  exact ⟨cH x h.1,ta l h.2⟩
end
variable [aY]
inductive VR(w:World)(I:Nat→Prop)(κ:Key→Nat):AV→Value→Prop where
 | u (v:Value):VR w I κ .u v
 | sk:VR w I κ .sk undef
 | b (x:Bool):VR w I κ (.b x) (.bool x)
 | i (k:IntKind) (n:Int):VR w I κ (.i k n) (.int k n)
 | s (l:List UInt8):VR w I κ (.s l) (.string ⟨l.toArray⟩)
 | n:VR w I κ .n (.slice none 0 0)
 | z:VR w I κ .z (.pointer none)
 | nf:VR w I κ .nf .nilFunc
 | ni:VR w I κ .ni .nilIface
 | lnil (t:TypeId) (A:Option Addr) (cap:Nat):VR w I κ (.l t []) (.slice A 0 cap)
 | l (t:TypeId) (es:List AV) (g o cap:Nat) (cs:Array Value) (T:TypeId) (fz:Nat×Nat) (sz:Nat) (hI:I g)
   (hh:w.heap[g]? =some (.cells cs T fz)) (ht:t≠0→(aY.n0≤g→T=t∧fz=(0,0))∧(g<aY.n0→aY.tg t=true)) (hsz:0<sz) (hnc:∀ e∈es,e.nc=sz) (hsize:o+es.length*sz≤cs.size)
   (hp:∀ e∈es,e.pure=true) (h1:∀ e∈es,∀ c∈e.cl,c.one=true) (hcap:es.length≤cap) (hmax:cap≤maxLen)
   (hc:∀ (j:Nat)(e:AV)(m:Nat)(c:AV),es[j]? =some e→e.cl[m]? =some c→VR w I κ c (cs.getD (o+j*sz+m) undef)) :
   VR w I κ (.l t es) (.slice (some ⟨g,o,none⟩) es.length cap)
 | e (x:AV) (off g o:Nat) (cs:Array Value) (T:TypeId) (fz:Nat×Nat) (hI:I g) (hh:w.heap[g]? =some (.cells cs T fz))
   (hp:x.pure=true) (hsize:o+x.nc≤cs.size) (h1:∀ c∈x.cl,c.one=true)
   (hc:∀ (m:Nat)(c:AV),x.cl[m]? =some c→VR w I κ c (cs.getD (o+m) undef)):VR w I κ (.e x off) (.pointer (some ⟨g,o+off,none⟩))
 | f (g:FuncId) (caps:List AV) (vs:Array Value) (hg:g<1000000) (hl:caps.length=vs.size) (hc:∀ (m:Nat)(c:AV),caps[m]? =some c→VR w I κ c (vs.getD m undef)) :
   VR w I κ (.f g caps) (.func (.func g) #[] vs)
 | fm (g:FuncId) (caps:List AV) (vs:Array Value) (hl:caps.length=vs.size) (hc:∀ (m:Nat)(c:AV),caps[m]? =some c→VR w I κ c (vs.getD m undef)) :
   VR w I κ (.f (1000000+g) caps) (.func (.func g) vs #[])
 | a (cs:List AV) (vs:Array Value) (hl:cs.length=vs.size) (h1:∀ c∈cs,c.one=true) (hc:∀ (m:Nat)(c:AV),cs[m]? =some c→VR w I κ c (vs.getD m undef)) :
   VR w I κ (.a cs) (.agg vs)
 | tp (cs:List AV) (vs:Array Value) (hl:cs.length=vs.size) (hc:∀ (m:Nat)(c:AV),cs[m]? =some c→VR w I κ c (vs.getD m undef)) :
   VR w I κ (.tp cs) (.tuple vs)
 | ifc (t:TypeId) (x:AV) (v:Value) (h:VR w I κ x v):VR w I κ (.ifc t x) (.iface t v)
 | p (k:Key) (off:Nat):VR w I κ (.p k off) (.pointer (some ⟨κ k,off,none⟩))
 | sp (k:Key) (off n sz cap:Nat) (h1:n≤cap) (h2:cap≤maxLen):VR w I κ (.sp k off n sz) (.slice (some ⟨κ k,off,none⟩) n cap)
theorem iQ{x:AV}(h:x.pure=true):∀ c∈x.cl,c.pure=true:=by
 intro c hc
 cases x<;>simp only [AV.cl,List.mem_singleton] at hc<;>first | (subst hc;exact h) | skip
 exact cT (by simpa [AV.pure] using h) c hc
theorem VR.mono{w w':World}{I I':Nat→Prop}{κ κ':Key→Nat}{x:AV}{v:Value}(h:VR w I κ x v)
  (hI:∀ b,I b→I' b) (hh:∀ b,I b→w'.heap[b]? =w.heap[b]?) (hk:∀ k,x.bb k=false→κ' k=κ k):VR w' I' κ' x v:=by
 induction h with
 | u v=>exact .u v
 | sk=>exact .sk
 | b x=>exact .b x
 | i k n=>exact .i k n
 | s l=>exact .s l
 | n=>exact .n
 | z=>exact .z
 | nf=>exact .nf
 | ni=>exact .ni
 | lnil t A cap=>exact .lnil t A cap
 | l t es g o cap cs T fz sz hI0 hh0 ht hsz hnc hsize hp h1 hcap hmax hc ih=>
  refine .l t es g o cap cs T fz sz (hI _ hI0) ((hh _ hI0).trans hh0) ht hsz hnc hsize hp h1 hcap hmax fun j e m c he hc'=>ih j e m c he hc' fun k hk'=>?_
  exfalso
  have hpc:=iQ (hp e (List.mem_of_getElem? he)) c (List.mem_of_getElem? hc')
  exact absurd hk' (by simp [ic c hpc])
 | e x off g o cs T fz hI0 hh0 hp hsize h1 hc ih=>
  refine .e x off g o cs T fz (hI _ hI0) ((hh _ hI0).trans hh0) hp hsize h1 fun m c hc'=>ih m c hc' fun k hk'=>?_
  exfalso
  exact absurd hk' (by simp [ic c (iQ hp c (List.mem_of_getElem? hc'))])
 | f g caps vs hg hl hc ih=>exact .f g caps vs hg hl fun m c hc'=>ih m c hc' fun k hk'=>hk k (uF (List.mem_of_getElem? hc') hk')
 | fm g caps vs hl hc ih=>exact .fm g caps vs hl fun m c hc'=>ih m c hc' fun k hk'=>hk k (uF (List.mem_of_getElem? hc') hk')
 | a cs vs hl h1 hc ih=>exact .a cs vs hl h1 fun m c hc'=>ih m c hc' fun k hk'=>hk k (uF (List.mem_of_getElem? hc') hk')
 | tp cs vs hl hc ih=>exact .tp cs vs hl fun m c hc'=>ih m c hc' fun k hk'=>hk k (uF (List.mem_of_getElem? hc') hk')
 | ifc t x v h ih=>exact .ifc t x v (ih hk)
 | p k off=>rw [←hk k (by simp [AV.bb])];exact .p k off
 | sp k off n sz cap h1 h2=>rw [←hk k (by simp [AV.bb])];exact .sp k off n sz cap h1 h2
end Go.Proofs.YtkkkkondjclcnaaGreat.A
