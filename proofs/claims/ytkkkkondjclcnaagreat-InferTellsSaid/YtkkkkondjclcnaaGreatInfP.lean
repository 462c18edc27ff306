/- Levels in order; how much they hold; flows of commands that are right. -/
import Derived.Test.YtkkkkondjclcnaaGreatOkS
import Derived.Test.YtkkkkondjclcnaaGreatRawF
set_option linter.all false
namespace Go.Proofs.YtkkkkondjclcnaaGreat.A
open Go
abbrev eX(n:Nat)(l m:Level):Prop:=jS n l m=true
theorem le_iff{n:Nat}{l m:Level} : eX n l m↔∀ k,k<n→(on m.Readers k=true→on l.Readers k=true)∧(on l.Writers k=true→on m.Writers k=true):=by
 unfold eX jS DD
 simp only [aB,bO,zp,jq,gu]
 constructor
 ·rintro ⟨h1,h2⟩ k hk
  exact ⟨fun h=>(h1 k hk).resolve_left (by simp [h]),fun h=>(h2 k hk).resolve_left (by simp [h])⟩
 ·intro h
  refine ⟨fun k hk=>?_,fun k hk=>?_⟩
  ·have:=(h k hk).1
   cases hq:on m.Readers k with
   | true=>exact .inr (this hq)
   | false=>exact .inl rfl
  ·have:=(h k hk).2
   cases hq:on l.Writers k with
   | true=>exact .inr (this hq)
   | false=>exact .inl rfl
theorem RR{n:Nat}(f:Nat→Bool){k:Nat}(hk:k<n):on ((List.range n).map f) k=f k:=by
 unfold on
 rw [cp,gh,zu hk]
 rfl
theorem HB{n:Nat}{x y:List Bool}{k:Nat}(hk:k<n):on (o7 n x y) k=(on x k&&on y k):=RR _ hk
theorem Ll{n:Nat}{x y:List Bool}{k:Nat}(hk:k<n):on (uH n x y) k=(on x k||on y k):=RR _ hk
theorem le_refl(n:Nat)(l:Level):eX n l l:=le_iff.2 fun _ _=>⟨id,id⟩
theorem le_trans{n:Nat}{a b c:Level}(h:eX n a b)(h':eX n b c):eX n a c:=
 le_iff.2 fun k hk=>⟨fun hc=>(le_iff.1 h k hk).1 ((le_iff.1 h' k hk).1 hc),fun ha=>(le_iff.1 h' k hk).2 ((le_iff.1 h k hk).2 ha)⟩
theorem Oz(n:Nat)(a b:Level):eX n a (cV n a b):=
 le_iff.2 fun k hk=>⟨fun h=>by rw [cV,HB hk,aB] at h;exact h.1,fun h=>by rw [cV,Ll hk,h];rfl⟩
theorem TX(n:Nat)(a b:Level):eX n b (cV n a b):=
 le_iff.2 fun k hk=>⟨fun h=>by rw [cV,HB hk,aB] at h;exact h.2,fun h=>by rw [cV,Ll hk,h,vG]⟩
theorem join_le{n:Nat}{a b c:Level}(h:eX n a c)(h':eX n b c):eX n (cV n a b) c:=
 le_iff.2 fun k hk=>⟨fun hc=>by rw [cV,HB hk,(le_iff.1 h k hk).1 hc,(le_iff.1 h' k hk).1 hc];rfl,fun hj=>by
  rw [cV,Ll hk,jq] at hj
  exact hj.elim (le_iff.1 h k hk).2 (le_iff.1 h' k hk).2⟩
theorem join_mono{n:Nat}{a b c d:Level}(h:eX n a c)(h':eX n b d):eX n (cV n a b) (cV n c d):=join_le (le_trans h (Oz n c d)) (le_trans h' (TX n c d))
theorem bot_le(n:Nat)(l:Level):eX n (ij n) l:=
 le_iff.2 fun k hk=>⟨fun _=>by simp [ij,on,ko,hk],fun h=>by simp [ij,on,ko,hk] at h⟩
def bit(l:Level)(k:Nat):Nat:=(if on l.Readers k=true then 0 else 1)+(if on l.Writers k=true then 1 else 0)
def wt:Nat→Level→Nat
 | 0,_=>0
 | n+1,l=>wt n l+bit l n
theorem abV{l m:Level}{k:Nat}(h:(on m.Readers k=true→on l.Readers k=true)∧(on l.Writers k=true→on m.Writers k=true)):bit l k≤bit m k:=by
 unfold bit
 cases h1:on l.Readers k<;>cases h2:on m.Readers k<;>cases h3:on l.Writers k<;>cases h4:on m.Writers k<;>simp_all
theorem abW(n:Nat)(l:Level):wt n l≤2*n:=by
 induction n with
 | zero=>simp [wt]
 | succ n ih=>
  have:bit l n≤2:=by unfold bit;split<;>split<;>omega
  rw [wt];omega
theorem OA{l m:Level} : ∀ {n:Nat},(∀ k,k<n→bit l k≤bit m k)→wt n l≤wt n m
 | 0,_=>aT _
 | n+1,h=>by
  have:=OA (n:=n) fun k hk=>h k (by omega)
  have:=h n (by omega)
  rw [wt,wt];omega
theorem VP{l m:Level} : ∀ {n:Nat}{j:Nat},(∀ k,k<n→bit l k≤bit m k)→j<n→bit l j<bit m j→wt n l<wt n m
 | n+1,j,h,hj,hb=>by
  have h1:=OA (n:=n) fun k hk=>h k (by omega)
  have h2:=h n (by omega)
  rw [wt,wt]
  by_cases he:j=n
  ·subst he;omega
  ·have:=VP (n:=n) (fun k hk=>h k (by omega)) (show j<n by omega) hb
   omega
theorem OB{n:Nat}{t f:Level}(h:jS n f t=false):wt n t<wt n (cV n t f):=by
 have hle:=le_iff.1 (Oz n t f)
 have:¬eX n f t:=by unfold eX;rw [h];simp
 rw [le_iff] at this
 simp only [Classical.not_forall] at this
 obtain ⟨k,hk,hn⟩:=this
 refine VP (fun k hk=>abV (hle k hk)) hk ?_
 have ha:=HB (x:=t.Readers) (y:=f.Readers) hk
 have ho:=Ll (x:=t.Writers) (y:=f.Writers) hk
 unfold bit cV
 rw [ha,ho]
 revert hn
 cases on t.Readers k<;>cases on f.Readers k<;>cases on t.Writers k<;>cases on f.Writers k<;>simp
def HC(n:Nat)(V:List Level):Nat:=(V.map (wt n)).sum
theorem DH(n:Nat):∀ V:List Level,HC n V≤2*n*V.length
 | []=>by simp [HC]
 | l::V=>by
  have:=DH n V
  have:=abW n l
  unfold HC at *
  rw [cq,vI,bD,Nat.mul_add]
  omega
theorem Jg(n:Nat)(u:Level):∀ {V:List Level}{j:Nat}{t:Level},V[j]? =some t→HC n (V.set j u)+wt n t=HC n V+wt n u
 | [],j,t,h=>by simp at h
 | l::V,0,t,h=>by
  obtain rfl:l=t:=by simpa using h
  simp only [HC,List.set_cons_zero,cq,vI];omega
 | l::V,j+1,t,h=>by
  have:=Jg n u (V:=V) (j:=j) (t:=t) (by simpa using h)
  simp only [HC,List.set_cons_succ,cq,vI] at this ⊢;omega
def uq(n:Nat)(V W:List Level):Prop:=V.length=W.length∧∀ (i:Nat)(a b:Level),V[i]? =some a→W[i]? =some b→eX n a b
theorem yw(n:Nat)(V:List Level):uq n V V:=⟨rfl,fun i a b h h'=>by rw [h] at h';cases h';exact le_refl n a⟩
theorem OC{n:Nat}{V W:List Level}{j:Nat}{u:Level}(h:uq n V W)(hu:∀ b,W[j]? =some b→eX n u b):uq n (V.set j u) W:=⟨by rw [tI];exact h.1,fun i a b ha hb=>by
 rw [kj] at ha
 split at ha
 ·rename_i he
  subst he
  split at ha
  ·cases ha;exact hu b hb
  ·cases ha
 ·exact h.2 i a b ha hb⟩
def HD(n:Nat)(V:List Level):List Int→Level→Level
 | [],v=>v
 | k::ns,v=>HD n V ns (cV n v (V.getD k.toNat (ij n)))
def jU(n:Nat)(V:List Level)(e:ax):Level:=HD n V (py e) (ij n)
theorem J8{n:Nat}{V W:List Level}(h:uq n V W)(k:Nat):eX n (V.getD k (ij n)) (W.getD k (ij n)):=by
 rw [cp,cp]
 by_cases hk:k<V.length
 ·have hk2:k<W.length:=by rw [←h.1];exact hk
  rw [aA hk,aA hk2]
  exact h.2 k _ _ (aA hk) (aA hk2)
 ·rw [vJ (by omega)]
  exact bot_le n _
theorem My{n:Nat}{V W:List Level}(h:uq n V W):∀ (ns:List Int)(v w:Level),eX n v w→eX n (HD n V ns v) (HD n W ns w)
 | [],v,w,hv=>hv
 | k::ns,v,w,hv=>My h ns _ _ (join_mono hv (J8 h k.toNat))
theorem tm{n:Nat}{V W:List Level}(h:uq n V W)(e:ax):eX n (jU n V e) (jU n W e):=My h _ _ _ (le_refl n _)
variable [Lp]
theorem go_eq{p:Program}(h:oS p){vars:List Level}(hs:∀ l∈vars,bc (MM p) l):∀ (ns:List Int)(v:Level),bc (MM p) v→(∀ n∈ns,0≤n∧n.toNat<vars.length)→AZ vars ns v=some (HD (MM p) vars ns v)∧bc (MM p) (HD (MM p) vars ns v)
 | [],v,hv,_=>⟨rfl,hv⟩
 | n::ns,v,hv,hn=>by
  obtain ⟨h0,h1⟩:=hn n (by simp)
  have hd:vars.getD n.toNat (ij (MM p))=vars[n.toNat]:=by rw [cp,aA h1];rfl
  rw [AZ,dP h0,ae,aA h1,ae,um h.small hv (hs _ (bY h1)),ae,HD,hd]
  exact go_eq h hs ns _ (dU _ _ _) fun m hm=>hn m (by simp [hm])
structure dx(p:Program)(V F:List Level):Prop where
 vl:V.length=p.Vars.length
 fl:F.length=p.Funcs.length
 vs:∀ l∈V,bc (MM p) l
 fs:∀ l∈F,bc (MM p) l
theorem F4{p:Program}(h:oS p){V F:List Level}(hV:dx p V F){e:ax}(he:dT p e=0):iX p V e=some (jU (MM p) V e)∧bc (MM p) (jU (MM p) V e):=by
 have:=go_eq h hV.vs (py e) _ (lk (MM p)) fun n hn=>by rw [hV.vl];exact abU he n hn
 refine ⟨?_,this.2⟩
 unfold iX
 rw [wg h,ae]
 exact this.1
theorem of_eq{p:Program}(h:oS p){V F:List Level}(hV:dx p V F){e:ax}(he:dT p e=0){pl:Level}(hpl:bc (MM p) pl):nQ p V pl e=some (cV (MM p) pl (jU (MM p) V e)):=by
 obtain ⟨h1,h2⟩:=F4 h hV he
 unfold nQ
 rw [h1,ae,um h.small hpl h2]
def LeF(n:Nat)(f g:cY):Prop:=eX n f.Level g.Level∧f.To=g.To∧f.Func=g.Func
def qJ(p:Program)(f:cY):Prop:=bc (MM p) f.Level∧0≤f.To∧(if f.Func=true then f.To.toNat<p.Funcs.length else f.To.toNat<p.Vars.length)
inductive F2(n:Nat):List cY→List cY→Prop where
 | nil:F2 n [] []
 | cons {f g:cY} {r q:List cY} (h:LeF n f g) (t:F2 n r q):F2 n (f::r) (g::q)
theorem F2.append{n:Nat}{a b c d:List cY}(h:F2 n a b)(h':F2 n c d):F2 n (a++c) (b++d):=by
 induction h with
 | nil=>exact h'
 | cons h _ ih=>exact .cons h ih
theorem OD{p:Program}(h:oS p){V F W E:List Level}(hV:dx p V F)(hW:dx p W E)(hle:uq (MM p) V W){pl ql:Level}(hpl:bc (MM p) pl)(hql:bc (MM p) ql)(hpq:eX (MM p) pl ql){ps:List Int}(hps:∀ n∈ps,0≤n∧n<p.Vars.length) :
  ∀ (es:List ax)(i:Nat)(o o':List cY),(∀ e∈es,dT p e=0)→i+es.length≤ps.length→(∀ f∈o,qJ p f)→F2 (MM p) o o'→
   ∃ r r',oT p V pl ps es i o=some r∧oT p W ql ps es i o'=some r'∧F2 (MM p) r r'∧(∀ f∈r,qJ p f)∧r.length=o.length+es.length
 | [],i,o,o',_,_,ho,h2=>⟨o,o',rfl,rfl,h2,ho,rfl⟩
 | e::es,i,o,o',he,hi,ho,h2=>by
  have hi2:i<ps.length:=by simp only [bD] at hi;omega
  have hn:=hps _ (bY hi2)
  have hs:=dU (MM p) pl (jU (MM p) V e)
  rw [oT,of_eq h hV (he e (by simp)) hpl,ae,aA hi2,ae,oT,of_eq h hW (he e (by simp)) hql,ae,aA hi2,ae]
  obtain ⟨r,r',a1,a2,a3,a4,a5⟩:=OD h hV hW hle hpl hql hpq hps es (i+1) (o++[⟨cV (MM p) pl (jU (MM p) V e),ps[i],false⟩]) (o'++[⟨cV (MM p) ql (jU (MM p) W e),ps[i],false⟩]) (fun x hx=>he x (by simp [hx])) (by simp only [bD] at hi;omega)
   (fun f hf=>by
    rcases bJ.1 hf with hf | hf
    ·exact ho f hf
    ·obtain rfl:=gm.1 hf
     exact ⟨hs,hn.1,by simp;omega⟩) (h2.append (.cons ⟨join_mono hpq (tm hle e),rfl,rfl⟩ .nil))
  exact ⟨r,r',a1,a2,a3,a4,by rw [a5];simp;omega⟩
theorem tn{p:Program}(h:oS p)(ho:Dy p){i:Nat}(hi:i≤p.Funcs.length){V F W E:List Level}(hV:dx p V F)(hW:dx p W E)(hle:uq (MM p) V W){pl ql:Level}(hpl:bc (MM p) pl)(hql:bc (MM p) ql)(hpq:eX (MM p) pl ql){s:Stmt}(hs:bw p i s=0) :
  s.Args.length≤4∧∃ r r',oV p V s pl=some r∧oV p W s ql=some r'∧F2 (MM p) r r'∧(∀ f∈r,qJ p f)∧r.length≤10:=by
 obtain ⟨g1,g2,g3,g4,g5,g6⟩:=AY hs
 have one:∀ {x y:Level},bc (MM p) x→eX (MM p) x y→ey s.Kind=true→F2 (MM p) [⟨x,s.Var,false⟩] [⟨y,s.Var,false⟩]∧(∀ f∈([⟨x,s.Var,false⟩]:List cY),qJ p f)∧([⟨x,s.Var,false⟩]:List cY).length≤10:=fun hx hxy hv=>by
  have:=g2 hv
  exact ⟨.cons ⟨hxy,rfl,rfl⟩ .nil,fun f hf=>by obtain rfl:=gm.1 hf;exact ⟨hx,this.1,by simp;omega⟩,by simp⟩
 have noA:s.Kind≠2→s.Args.length≤4:=fun hk=>by
  unfold bw at hs
  split at hs
  ·exact absurd hs (by decide)
  split at hs
  ·exact absurd hs (by decide)
  split at hs
  ·exact absurd hs (by decide)
  ·rename_i h3
   have:¬(s.Kind≠2∧0<s.Args.length):=fun hh=>h3 (.inr (.inr (.inr (.inl hh))))
   have:s.Args.length=0:=by
    rcases qa s.Args.length with h | h
    ·exact h
    ·exact absurd ⟨hk,h⟩ this
   omega
 unfold oV
 by_cases h1:s.Kind=1
 ·rw [aa h1,aa h1]
  have he:=g5 (by simp [eu,h1])
  rw [of_eq h hV he hpl,of_eq h hW he hql]
  obtain ⟨a1,a2,a3⟩:=one (dU (MM p) pl (jU (MM p) V s.Expr)) (join_mono hpq (tm hle s.Expr)) (by simp [ey,h1])
  exact ⟨noA (by omega),_,_,rfl,rfl,a1,a2,a3⟩
 rw [ab h1,ab h1]
 by_cases h2:s.Kind=2
 ·rw [aa h2,aa h2]
  obtain ⟨o1,o2⟩:=g3 (by simp [fO,h2])
  have o3:s.Other<i:=by simpa [gI,h2] using o2
  have o4:s.Other.toNat<p.Funcs.length:=by omega
  have hfn:=ho.fns _ o4
  obtain ⟨f1,f2,_,f4⟩:=Eu hfn
  have hal:s.Args.length=(p.Funcs[s.Other.toNat]).Params.length:=by
   rw [g4 h2,yq,aA o4];rfl
  rw [dP o1,ae,ae,aA o4,ae,ae]
  obtain ⟨r,r',a1,a2,a3,a4,a5⟩:=OD h hV hW hle hpl hql hpq f2 s.Args 0 [] [] g6 (by omega) (fun _ h=>absurd h (by simp)) .nil
  rw [a1,a2,ae,ae,of_eq h hV f4 hpl,of_eq h hW f4 hql,ae,ae]
  have hv:=g2 (by simp [ey,h2])
  refine ⟨by omega,_,_,rfl,rfl,a3.append (.cons ⟨join_mono hpq (tm hle _),rfl,rfl⟩ (.cons ⟨hpq,rfl,rfl⟩ .nil)),fun f hf=>?_,?_⟩
  ·rcases bJ.1 hf with hf | hf
   ·exact a4 f hf
   ·rcases cQ.1 hf with rfl | hf
    ·exact ⟨dU _ _ _,hv.1,by simp;omega⟩
    ·obtain rfl:=gm.1 hf
     exact ⟨hpl,o1,by simp;omega⟩
  ·rw [cC,a5];simp;omega
 rw [ab h2,ab h2]
 by_cases h3:s.Kind=3
 ·rw [aa h3,aa h3]
  obtain ⟨o1,o2⟩:=g3 (by simp [fO,h3])
  have o3:s.Other<p.Ins.length:=by simpa [gI,h3] using o2
  have o4:s.Other.toNat<p.Ins.length:=by omega
  have hlab:=h.ins _ (bY o4)
  have hsz:=sB p.ah (p.Ins[s.Other.toNat])
  rw [dP o1,ae,ae,aA o4,ae,ae,PW p.ah h.dK _ hlab,ae,ae,um h.small hpl hsz,um h.small hql hsz,ae,ae]
  obtain ⟨a1,a2,a3⟩:=one (dU (MM p) pl (cw p.ah (p.Ins[s.Other.toNat]))) (join_mono hpq (le_refl (MM p) (cw p.ah (p.Ins[s.Other.toNat])))) (by simp [ey,h3])
  exact ⟨noA (by omega),_,_,rfl,rfl,a1,a2,a3⟩
 rw [ab h3,ab h3]
 by_cases h5:s.Kind=5
 ·rw [aa h5,aa h5]
  have he:=g5 (by simp [eu,h5])
  rw [of_eq h hV he hpl,of_eq h hW he hql]
  have hj:=dU (MM p) pl (jU (MM p) V s.Expr)
  have hm:=le_iff.1 (join_mono hpq (tm hle s.Expr))
  obtain ⟨a1,a2,a3⟩:=one (x:=⟨pl.Readers,(cV (MM p) pl (jU (MM p) V s.Expr)).Writers⟩) (y:=⟨ql.Readers,(cV (MM p) ql (jU (MM p) W s.Expr)).Writers⟩) ⟨hpl.1,hj.2⟩ (le_iff.2 fun k hk=>⟨(le_iff.1 hpq k hk).1,(hm k hk).2⟩) (by simp [ey,h5])
  exact ⟨noA (by omega),_,_,rfl,rfl,a1,a2,a3⟩
 rw [ab h5,ab h5]
 by_cases h6:s.Kind=6
 ·rw [aa h6,aa h6]
  have he:=g5 (by simp [eu,h6])
  rw [of_eq h hV he hpl,of_eq h hW he hql]
  have hj:=dU (MM p) pl (jU (MM p) V s.Expr)
  have hm:=le_iff.1 (join_mono hpq (tm hle s.Expr))
  obtain ⟨a1,a2,a3⟩:=one (x:=⟨(cV (MM p) pl (jU (MM p) V s.Expr)).Readers,pl.Writers⟩) (y:=⟨(cV (MM p) ql (jU (MM p) W s.Expr)).Readers,ql.Writers⟩) ⟨hj.1,hpl.2⟩ (le_iff.2 fun k hk=>⟨(hm k hk).1,(le_iff.1 hpq k hk).2⟩) (by simp [ey,h6])
  exact ⟨noA (by omega),_,_,rfl,rfl,a1,a2,a3⟩
 rw [ab h6,ab h6]
 exact ⟨noA (by omega),_,_,rfl,rfl,.nil,fun _ h=>(by cases h),by simp⟩
def o9(p:Program)(n:Nat)(V F:List Level)(f:cY):Prop:=
 if f.Func=true then ∀ t,F[f.To.toNat]? =some t→eX n f.Level t
 else ∀ v t,p.Vars[f.To.toNat]? =some v→v.Known=false→V[f.To.toNat]? =some t→eX n f.Level t
section
variable (n:Nat)(V:List Level)(T:Stmt→Level→Prop)
mutual
def Ap:Stmt→Level→Prop
 | ⟨k,v,o,e,args,th,el⟩,pl=>T ⟨k,v,o,e,args,th,el⟩ pl∧(7≤k→nh th (cV n pl (jU n V e))∧nh el (cV n pl (jU n V e)))
def nh:List Stmt→Level→Prop
 | [],_=>True
 | x::r,pl=>Ap x pl∧nh r pl
end
theorem EE(s:Stmt)(pl:Level):Ap n V T s pl↔T s pl∧(7≤s.Kind→nh n V T s.Then (cV n pl (jU n V s.Expr))∧nh n V T s.Else (cV n pl (jU n V s.Expr))):=by
 cases s;rw [Ap]
def BW(F:List Level):List Func→Nat→Prop
 | [],_=>True
 | f::r,i=>(∀ q,F[i]? =some q→nh n V T f.Body q)∧BW F r (i+1)
def qK(p:Program)(F:List Level):Prop:=BW n V T F p.Funcs 0∧nh n V T p.Main (ij n)
end
variable [Lp]
def asks(p:Program)(V F:List Level)(st:Stmt)(pl:Level):Prop:=∀ fs,oV p V st pl=some fs→∀ f∈fs,o9 p (MM p) V F f
structure pA(p:Program)(W E:List Level)(s:bR):Prop where
 ok:dx p s.V s.F
 v:uq (MM p) s.V W
 f:uq (MM p) s.F E
def mu(p:Program)(s:bR):Nat:=HC (MM p) s.V+HC (MM p) s.F
structure Grow(p:Program)(s t:bR):Prop where
 mu:mu p s≤mu p t
 ch:t.ch=true→s.ch=true∨A.mu p s<A.mu p t
 up:s.ch=true→t.ch=true
 kn:∀ (i:Nat)(v:Var),p.Vars[i]? =some v→v.Known=true→t.V[i]? =s.V[i]?
theorem Grow.refl(p:Program)(s:bR):Grow p s s:=⟨aT _,fun h=>.inl h,fun h=>h,fun _ _ _ _=>rfl⟩
theorem Grow.trans{p:Program}{s t u:bR}(h:Grow p s t)(h':Grow p t u):Grow p s u:=
 ⟨bU h.mu h'.mu,fun hu=>(h'.ch hu).elim (fun ht=>(h.ch ht).imp id fun hlt=>eB hlt h'.mu) fun hlt=>.inr (Nat.lt_of_le_of_lt h.mu hlt),fun hs=>h'.up (h.up hs),fun i v hv hk=>(h'.kn i v hv hk).trans (h.kn i v hv hk)⟩
theorem qL{n:Nat}{V:List Level}{i:Nat}{t:Level}(h:∀ l∈V,bc n l)(ht:V[i]? =some t):bc n t:=h t (aP ht)
theorem BX{V:List Level}{j:Nat}{u l:Level}(h:l∈V.set j u):l∈V∨l=u:=(iD h)
theorem WB{p:Program}(h:oS p){W E:List Level}{s:bR}(hb:pA p W E s){f g:cY}(hf:qJ p f)(hfg:LeF (MM p) f g)(hg:o9 p (MM p) W E g) :
  ∃ t,qI p s f=some t∧pA p W E t∧Grow p s t∧(t.ch=false→t=s∧o9 p (MM p) s.V s.F f):=by
 obtain ⟨h1,h2,h3⟩:=hf
 obtain ⟨l1,l2,l3⟩:=hfg
 unfold qI
 rw [dP h2,ae]
 unfold o9 at hg
 cases hfn:f.Func with
 | true=>
  rw [aa rfl]
  rw [hfn,aa rfl] at h3
  rw [←l3,hfn,aa rfl,←l2] at hg
  have hi:f.To.toNat<s.F.length:=by rw [hb.ok.fl];exact h3
  have ht:=aA hi
  generalize s.F[f.To.toNat]=t at ht
  have hts:=qL hb.ok.fs ht
  rw [ht,ae,tP h.small h1 hts,ae]
  cases hu:jS (MM p) f.Level t with
  | true=>
   rw [aa rfl]
   exact ⟨s,rfl,hb,.refl p s,fun _=>⟨rfl,by unfold o9;rw [hfn,aa rfl];intro t' ht';rw [ht] at ht';cases ht';exact hu⟩⟩
  | false=>
   rw [ab (by simp),um h.small hts h1,ae]
   have hw:=Jg (MM p) (cV (MM p) t f.Level) ht
   have hj:=OB hu
   refine ⟨_,rfl,⟨⟨hb.ok.vl,by simp [hb.ok.fl],hb.ok.vs,fun l hl=>(BX hl).elim (hb.ok.fs l) fun e=>by rw [e];exact dU _ _ _⟩,hb.v,OC hb.f fun b hbb=>join_le (hb.f.2 _ _ _ ht hbb) (le_trans l1 (hg b hbb))⟩,⟨by simp only [mu];omega,fun _=>.inr (by simp only [mu];omega),fun _=>rfl,fun _ _ _ _=>rfl⟩,fun hc=>by cases hc⟩
 | false=>
  rw [ab (by simp)]
  rw [hfn,ab (by simp)] at h3
  rw [←l3,hfn,ab (by simp),←l2] at hg
  have hv:=aA h3
  generalize p.Vars[f.To.toNat]=v at hv
  rw [hv,ae]
  cases hk:v.Known with
  | true=>
   rw [aa rfl]
   exact ⟨s,rfl,hb,.refl p s,fun _=>⟨rfl,by unfold o9;rw [hfn,ab (by simp)];intro v' t' hv' hk';rw [hv] at hv';cases hv';rw [hk] at hk';cases hk'⟩⟩
  | false=>
   rw [ab (by simp)]
   have hi:f.To.toNat<s.V.length:=by rw [hb.ok.vl];exact h3
   have ht:=aA hi
   generalize s.V[f.To.toNat]=t at ht
   have hts:=qL hb.ok.vs ht
   rw [ht,ae,tP h.small h1 hts,ae]
   cases hu:jS (MM p) f.Level t with
   | true=>
    rw [aa rfl]
    exact ⟨s,rfl,hb,.refl p s,fun _=>⟨rfl,by unfold o9;rw [hfn,ab (by simp)];intro v' t' _ _ ht';rw [ht] at ht';cases ht';exact hu⟩⟩
   | false=>
    rw [ab (by simp),um h.small hts h1,ae]
    have hw:=Jg (MM p) (cV (MM p) t f.Level) ht
    have hj:=OB hu
    refine ⟨_,rfl,⟨⟨by simp [hb.ok.vl],hb.ok.fl,fun l hl=>(BX hl).elim (hb.ok.vs l) fun e=>by rw [e];exact dU _ _ _,hb.ok.fs⟩,OC hb.v fun b hbb=>join_le (hb.v.2 _ _ _ ht hbb) (le_trans l1 (hg v b hv hk hbb)),hb.f⟩,⟨by simp only [mu];omega,fun _=>.inr (by simp only [mu];omega),fun _=>rfl,fun i v' hv' hk'=>?_⟩,fun hc=>by cases hc⟩
    show (s.V.set _ _)[i]? =s.V[i]?
    rw [List.getElem?_set_ne]
    intro e
    rw [e,hv'] at hv
    cases hv
    rw [hk'] at hk;cases hk
theorem Mz{p:Program}(h:oS p){W E:List Level} : ∀ {fs gs:List cY}{s:bR},F2 (MM p) fs gs→pA p W E s→(∀ f∈fs,qJ p f)→(∀ g∈gs,o9 p (MM p) W E g)→
  ∃ t,ve p fs s=some t∧pA p W E t∧Grow p s t∧(t.ch=false→t=s∧∀ f∈fs,o9 p (MM p) s.V s.F f)
 | _,_,s,.nil,hb,_,_=>⟨s,rfl,hb,.refl p s,fun _=>⟨rfl,fun _ h=>absurd h (by simp)⟩⟩
 | _,_,s,.cons (f:=f) (g:=g) (r:=r) (q:=q) hfg ht,hb,hf,hg=>by
  obtain ⟨t,t1,t2,t3,t4⟩:=WB h hb (hf f (by simp)) hfg (hg g (by simp))
  obtain ⟨u,u1,u2,u3,u4⟩:=Mz h ht t2 (fun x hx=>hf x (by simp [hx])) fun x hx=>hg x (by simp [hx])
  refine ⟨u,by rw [ve,t1,ae,u1],u2,t3.trans u3,fun hc=>?_⟩
  obtain ⟨rfl,b⟩:=u4 hc
  obtain ⟨rfl,c⟩:=t4 hc
  refine ⟨rfl,fun x hx=>?_⟩
  rcases cQ.1 hx with rfl | hx
  ·exact c
  ·exact b x hx
section
variable {p:Program}(h:oS p)(ho:Dy p){W E:List Level}(hW:dx p W E){i:Nat}(hi:i≤p.Funcs.length)
include h ho hW hi
theorem MA{st:Stmt}{a:Nat}{pl ql:Level}{s:bR}(hs:bw p i st=0)(hb:pA p W E s)(hpl:bc (MM p) pl)(hql:bc (MM p) ql)(hpq:eX (MM p) pl ql)(hT:asks p W E st ql) :
  ∃ t,rF p a st pl s=some t∧pA p W E t∧Grow p s t∧(t.ch=false→t=s∧asks p s.V s.F st pl):=by
 obtain ⟨_,r,r',a1,a2,a3,a4,a5⟩:=tn h ho hi hb.ok hW hb.v hpl hql hpq hs
 obtain ⟨t,t1,t2,t3,t4⟩:=Mz h a3 hb a4 (hT r' a2)
 refine ⟨t,by unfold rF;rw [a1,ae,aa (by omega),t1],t2,t3,fun hc=>⟨(t4 hc).1,fun fs hfs=>?_⟩⟩
 rw [a1] at hfs;cases hfs
 exact (t4 hc).2
mutual
theorem WC:∀ (st:Stmt)(a:Nat)(pl ql:Level)(s:bR),uk (bw p i) st=0→oQ st≤50→a+oQ st≤1000→pA p W E s→bc (MM p) pl→bc (MM p) ql→eX (MM p) pl ql→Ap (MM p) W (asks p W E) st ql→
  ∃ t,Ew p bR.V (rF p) st a pl s=some (a+oQ st,t)∧pA p W E t∧Grow p s t∧(t.ch=false→t=s∧Ap (MM p) s.V (asks p s.V s.F) st pl)
 | ⟨k,v,o,e,args,th,el⟩,a,pl,ql,s,he,hc,ha,hb,hpl,hql,hpq,hT=>by
  obtain ⟨e1,e2,e3⟩:=BR he
  obtain ⟨T1,T2⟩:=(EE _ _ _ _ _).1 hT
  have hlen:=(tn h ho hi hb.ok hW hb.v hpl hql hpq e1).1
  have hcnt:=yn ⟨k,v,o,e,args,th,el⟩
  have l1:=fA th
  have l2:=fA el
  simp only at hlen hcnt e2 e3
  obtain ⟨t,t1,t2,t3,t4⟩:=MA h ho hW hi (a:=a) e1 hb hpl hql hpq T1
  rw [F3,aa ⟨by omega,by simp only;omega,by simp only;omega,by simp only;omega⟩,t1,ae]
  by_cases h7:7≤k
  ·rw [aa h7]
   obtain ⟨T3,T4⟩:=T2 h7
   have hex:=(AY e1).2.2.2.2.1 (by simp only [eu];exact av ⟨by omega,by omega⟩)
   simp only at hex
   have hq:=of_eq h t2.ok hex hpl
   have hsz:=dU (MM p) pl (jU (MM p) t.V e)
   have hsz2:=dU (MM p) ql (jU (MM p) W e)
   have hle:=join_mono hpq (tm t2.v e)
   simp only
   rw [hq,ae]
   obtain ⟨u,u1,u2,u3,u4⟩:=A5 th (a+1) _ _ t e2 (by omega) (by omega) t2 hsz hsz2 hle T3
   obtain ⟨w,w1,w2,w3,w4⟩:=A5 el (a+1+bb th) _ _ u e3 (by omega) (by omega) u2 hsz hsz2 hle T4
   rw [u1,ae,w1]
   refine ⟨w,by rw [hcnt];congr 2;omega,w2,(t3.trans u3).trans w3,fun hc=>?_⟩
   obtain ⟨rfl,c1⟩:=w4 hc
   obtain ⟨rfl,c2⟩:=u4 hc
   obtain ⟨rfl,c3⟩:=t4 hc
   exact ⟨rfl,(EE _ _ _ _ _).2 ⟨c3,fun _=>⟨c2,c1⟩⟩⟩
  ·rw [ab h7]
   have hk0:k<7:=by omega
   have z:th.length=0∧el.length=0:=by
    unfold bw at e1
    split at e1
    ·exact absurd e1 (by decide)
    split at e1
    ·exact absurd e1 (by decide)
    split at e1
    ·exact absurd e1 (by decide)
    ·rename_i h3
     simp only at h3
     constructor
     ·rcases qa th.length with hz | hz
      ·exact hz
      ·exact absurd (.inr (.inr (.inr (.inr (.inl ⟨hk0,hz⟩))))) h3
     ·rcases qa el.length with hz | hz
      ·exact hz
      ·exact absurd (.inr (.inr (.inr (.inr (.inr ⟨by omega,hz⟩))))) h3
   have z1:th=[]:=qg.1 z.1
   have z2:el=[]:=qg.1 z.2
   subst z1 z2
   refine ⟨t,by rw [hcnt];simp [bb],t2,t3,fun hc=>?_⟩
   obtain ⟨rfl,c3⟩:=t4 hc
   exact ⟨rfl,(EE _ _ _ _ _).2 ⟨c3,fun hh=>absurd hh h7⟩⟩
theorem A5:∀ (l:List Stmt)(a:Nat)(pl ql:Level)(s:bR),cZ (bw p i) l=0→bb l≤50→a+bb l≤1000→pA p W E s→bc (MM p) pl→bc (MM p) ql→eX (MM p) pl ql→nh (MM p) W (asks p W E) l ql→
  ∃ t,k9 p bR.V (rF p) l a pl s=some (a+bb l,t)∧pA p W E t∧Grow p s t∧(t.ch=false→t=s∧nh (MM p) s.V (asks p s.V s.F) l pl)
 | [],a,pl,ql,s,he,hc,ha,hb,hpl,hql,hpq,hT=>⟨s,by rw [k9,bb];rfl,hb,.refl p s,fun _=>⟨rfl,by rw [nh];trivial⟩⟩
 | x::r,a,pl,ql,s,he,hc,ha,hb,hpl,hql,hpq,hT=>by
  rw [bb] at hc ha
  rw [nh] at hT
  have he1:=yr he x (by simp)
  have he2:cZ (bw p i) r=0:=by
   rw [cZ,ab (by simp [he1])] at he;exact he
  obtain ⟨t,t1,t2,t3,t4⟩:=WC x a pl ql s he1 (by omega) (by omega) hb hpl hql hpq hT.1
  obtain ⟨u,u1,u2,u3,u4⟩:=A5 r (a+oQ x) pl ql t he2 (by omega) (by omega) t2 hpl hql hpq hT.2
  refine ⟨u,by rw [k9,t1,ae,u1,bb];congr 2;omega,u2,t3.trans u3,fun hc=>?_⟩
  obtain ⟨rfl,c1⟩:=u4 hc
  obtain ⟨rfl,c2⟩:=t4 hc
  exact ⟨rfl,by rw [nh];exact ⟨c2,c1⟩⟩
end
end
variable [Lp]
abbrev eh(l:List Func):Nat:=(l.map fun f=>bb f.Body).sum
section
variable {p:Program}(h:oS p)(ho:Dy p)
include h ho
theorem EF{rest:List Func}{f:Func}{i:Nat}(hd:p.Funcs.drop i=f::rest):p.Funcs[i]? =some f∧p.Funcs.drop (i+1)=rest∧i<p.Funcs.length∧sA p i f=0:=by
 have hg:p.Funcs[i]? =some f:=by
  have:=ak (fun l=>l[0]?) hd
  simpa using this
 have hd2:p.Funcs.drop (i+1)=rest:=by
  have:=ak List.tail hd
  simpa using this
 have hi:=(db.1 hg).1
 have:=ho.fns i hi
 rw [(db.1 hg).2] at this
 exact ⟨hg,hd2,hi,this⟩
theorem OE{W E:List Level}(hW:dx p W E):∀ (rest:List Func)(i a:Nat)(s:bR),p.Funcs.drop i=rest→eh rest≤50→a+eh rest≤1000→pA p W E s→BW (MM p) W (asks p W E) E rest i→
  ∃ t,xx p bR.V bR.F (rF p) rest i a s=some (a+eh rest,t)∧pA p W E t∧Grow p s t∧(t.ch=false→t=s∧BW (MM p) s.V (asks p s.V s.F) s.F rest i)
 | [],i,a,s,hd,hs,ha,hb,hT=>⟨s,rfl,hb,.refl p s,fun _=>⟨rfl,trivial⟩⟩
 | f::rest,i,a,s,hd,hs,ha,hb,hT=>by
  obtain ⟨hg,hd2,hi,hfn⟩:=EF h ho hd
  obtain ⟨_,_,f3,_⟩:=Eu hfn
  have hsum:eh (f::rest)=bb f.Body+eh rest:=by simp [eh]
  rw [hsum] at hs ha
  have hl:=fA f.Body
  have hiF:i<s.F.length:=by rw [hb.ok.fl];exact hi
  have hiE:i<E.length:=by rw [hW.fl];exact hi
  have hq:=aA hiF
  have hq2:=aA hiE
  rw [xx,aa (by omega),hq,ae]
  obtain ⟨t,t1,t2,t3,t4⟩:=A5 h ho hW (by omega) f.Body a _ _ s f3 (by omega) (by omega) hb (hb.ok.fs _ (bY hiF)) (hW.fs _ (bY hiE)) (hb.f.2 i _ _ hq hq2) (hT.1 _ hq2)
  obtain ⟨u,u1,u2,u3,u4⟩:=OE hW rest (i+1) (a+bb f.Body) t hd2 (by omega) (by omega) t2 hT.2
  refine ⟨u,by rw [t1,ae,u1,hsum];congr 2;omega,u2,t3.trans u3,fun hc=>?_⟩
  obtain ⟨rfl,c1⟩:=u4 hc
  obtain ⟨rfl,c2⟩:=t4 hc
  exact ⟨rfl,fun q hq'=>by rw [hq] at hq';cases hq';exact c2,c1⟩
theorem WD{W E:List Level}(hW:dx p W E){s:bR}(hb:pA p W E s)(hT:qK (MM p) W (asks p W E) p E) :
  ∃ a t,yv p bR.V bR.F (rF p) s=some (a,t)∧pA p W E t∧Grow p s t∧(t.ch=false→t=s∧qK (MM p) s.V (asks p s.V s.F) p s.F):=by
 have hsum:=ho.sum
 have hf:=ho.funcs
 have hm:=ho.main
 have hl:=fA p.Main
 obtain ⟨t,t1,t2,t3,t4⟩:=OE h ho hW p.Funcs 0 0 s rfl (show eh p.Funcs≤50 by unfold eh;omega) (show 0+eh p.Funcs≤1000 by unfold eh;omega) hb hT.1
 obtain ⟨u,u1,u2,u3,u4⟩:=A5 h ho hW (aT _) p.Main (0+eh p.Funcs) (ij (MM p)) (ij (MM p)) t ho.mains (by omega) (by unfold eh;omega) t2 (lk _) (lk _) (le_refl _ _) hT.2
 refine ⟨_,u,by unfold yv;rw [aa (by omega),t1,ae,wg h,ae,u1],u2,t3.trans u3,fun hc=>?_⟩
 obtain ⟨rfl,c1⟩:=u4 hc
 obtain ⟨rfl,c2⟩:=t4 hc
 exact ⟨rfl,c2,c1⟩
def nz(p:Program):List Level:=p.Vars.map fun v=>if v.Known=true then cw p.ah v.Label else ij (MM p)
def sM(p:Program):List Level:=p.Funcs.map fun _=>ij (MM p)
theorem F5:∀ (l:List Var)(o:List Level),(∀ v∈l,v∈p.Vars)→Ez p l o=some (o++l.map fun v=>if v.Known=true then cw p.ah v.Label else ij (MM p))
 | [],o,_=>by simp [Ez]
 | v::r,o,hv=>by
  have hlab:=h.vars v (hv v (by simp))
  rw [Ez,wg h,ae]
  cases hk:v.Known with
  | true=>
   rw [aa rfl,PW p.ah h.dK _ hlab,ae,F5 r _ fun w hw=>hv w (by simp [hw])]
   simp [hk]
  | false=>
   rw [ab (by simp),ae,F5 r _ fun w hw=>hv w (by simp [hw])]
   simp [hk]
theorem MB:∀ (l:List Func)(o:List Level),EA p l o=some (o++l.map fun _=>ij (MM p))
 | [],o=>by simp [EA]
 | v::r,o=>by
  rw [EA,wg h,ae,MB r]
  simp
theorem VQ:dx p (nz p) (sM p):=by
 refine ⟨by simp [nz],by simp [sM],fun l hl=>?_,fun l hl=>?_⟩
 ·obtain ⟨v,_,rfl⟩:=gZ.1 hl
  split
  ·exact sB _ _
  ·exact lk _
 ·obtain ⟨v,_,rfl⟩:=gZ.1 hl
  exact lk _
theorem RS{W E:List Level}(hW:dx p W E)(hK:∀ (i:Nat)(v:Var)(b:Level),p.Vars[i]? =some v→v.Known=true→W[i]? =some b→eX (MM p) (cw p.ah v.Label) b)(hT:qK (MM p) W (asks p W E) p E) :
  ∃ m,na p=some m∧dx p m.Vars m.Funcs∧qK (MM p) m.Vars (asks p m.Vars m.Funcs) p m.Funcs∧uq (MM p) m.Vars W∧uq (MM p) m.Funcs E∧∀ (i:Nat)(v:Var),p.Vars[i]? =some v→v.Known=true→m.Vars[i]? =some (cw p.ah v.Label):=by
 have hv16:=ho.vars
 have hf5:=ho.funcs
 have b0:pA p W E ⟨nz p,sM p,true⟩:=by
  refine ⟨VQ h ho,⟨by rw [hW.vl];simp [nz],fun i a b ha hb=>?_⟩,⟨by rw [hW.fl];simp [sM],fun i a b ha hb=>?_⟩⟩
  ·rw [nz,gh] at ha
   obtain ⟨v,hv,rfl⟩:=dN.1 ha
   split
   ·rename_i hk;exact hK i v b hv hk hb
   ·exact bot_le _ _
  ·rw [sM,gh] at ha
   obtain ⟨v,hv,rfl⟩:=dN.1 ha
   exact bot_le _ _
 have k0:∀ (i:Nat)(v:Var),p.Vars[i]? =some v→v.Known=true→(nz p)[i]? =some (cw p.ah v.Label):=fun i v hv hk=>by
  rw [nz,gh,hv];simp [hk]
 obtain ⟨s,hs,hQ⟩:=j0 (B:=BV p) (fun s=>2*(2*MM p*(p.Vars.length+p.Funcs.length) - mu p s)+(if s.ch=true then 1 else 0))
  (fun s=>pA p W E s∧(∀ (i:Nat)(v:Var),p.Vars[i]? =some v→v.Known=true→s.V[i]? =some (cw p.ah v.Label))∧(s.ch=false→qK (MM p) s.V (asks p s.V s.F) p s.F))
  (fun s=>pA p W E s∧(∀ (i:Nat)(v:Var),p.Vars[i]? =some v→v.Known=true→s.V[i]? =some (cw p.ah v.Label))∧qK (MM p) s.V (asks p s.V s.F) p s.F) (by
   rintro s ⟨hb,hkn,hal⟩
   unfold BV
   cases hc:s.ch with
   | false=>
    rw [ab (by simp)]
    exact .inl ⟨s,rfl,hb,hkn,hal hc⟩
   | true=>
    rw [aa rfl]
    have hb2:pA p W E ⟨s.V,s.F,false⟩:=⟨hb.ok,hb.v,hb.f⟩
    obtain ⟨a,t,t1,t2,t3,t4⟩:=WD h ho hW hb2 hT
    refine .inr ⟨t,by rw [t1];rfl,⟨t2,fun i v hv hk=>(t3.kn i v hv hk).trans (hkn i v hv hk),fun hc2=>?_⟩,?_⟩
    ·obtain ⟨rfl,c⟩:=t4 hc2
     exact c
    ·have m1:mu p ⟨s.V,s.F,false⟩=mu p s:=rfl
     have m2:=t3.mu
     have m3:mu p t≤2*MM p*(p.Vars.length+p.Funcs.length):=by
      have q1:=DH (MM p) t.V
      have q2:=DH (MM p) t.F
      rw [t2.ok.vl] at q1
      rw [t2.ok.fl] at q2
      unfold mu
      rw [Nat.mul_add];omega
     cases hc2:t.ch with
     | false=>simp only [bn,aI,an];omega
     | true=>
      have:=t3.ch hc2
      simp only [an]
      rcases this with h1 | h1
      ·cases h1
      ·omega) ⟨nz p,sM p,true⟩ ⟨b0,k0,fun hc=>by cases hc⟩
 refine ⟨⟨s.V,s.F⟩,?_,hQ.1.ok,hQ.2.2,hQ.1.v,hQ.1.f,hQ.2.1⟩
 unfold na
 have e1:=F5 h ho p.Vars [] fun v hv=>hv
 have e2:=MB h ho p.Funcs []
 rw [dX] at e1 e2
 rw [aa (by omega),e1,ae,e2,ae]
 show (lp (BV p) ⟨nz p,sM p,true⟩).bind _=_
 rw [hs];rfl
end
variable [Lp]
mutual
theorem TY{n:Nat}{V:List Level}{T:Stmt→Level→Prop}(hT:∀ s pl,T s pl):∀ (s:Stmt)(pl:Level),Ap n V T s pl
 | ⟨k,v,o,e,args,th,el⟩,pl=>by rw [Ap];exact ⟨hT _ _,fun _=>⟨yx hT th _,yx hT el _⟩⟩
theorem yx{n:Nat}{V:List Level}{T:Stmt→Level→Prop}(hT:∀ s pl,T s pl):∀ (l:List Stmt)(pl:Level),nh n V T l pl
 | [],pl=>by rw [nh];trivial
 | x::r,pl=>by rw [nh];exact ⟨TY hT x pl,yx hT r pl⟩
end
theorem MC{n:Nat}{V:List Level}{T:Stmt→Level→Prop}(hT:∀ s pl,T s pl)(F:List Level):∀ (l:List Func)(i:Nat),BW n V T F l i
 | [],_=>trivial
 | f::r,i=>⟨fun q _=>yx hT f.Body q,MC hT F r (i+1)⟩
def yy(n:Nat):Level:=⟨List.replicate n false,List.replicate n true⟩
theorem le_top(n:Nat)(l:Level):eX n l (yy n):=
 le_iff.2 fun k hk=>⟨fun h=>by simp [yy,on,ko,hk] at h,fun _=>by simp [yy,on,ko,hk]⟩
theorem Ji{n k i:Nat}{t:Level}(h:(List.replicate k (yy n))[i]? =some t):t=yy n:=by
 rw [ko] at h
 split at h
 ·exact (ad h).symm
 ·cases h
theorem WI{p:Program}(h:oS p)(ho:Dy p):∃ m,na p=some m∧dx p m.Vars m.Funcs∧qK (MM p) m.Vars (asks p m.Vars m.Funcs) p m.Funcs∧∀ (i:Nat)(v:Var),p.Vars[i]? =some v→v.Known=true→m.Vars[i]? =some (cw p.ah v.Label):=by
 have hs:bc (MM p) (yy (MM p)):=by simp [bc,yy]
 have hT:∀ s pl,asks p (List.replicate p.Vars.length (yy (MM p))) (List.replicate p.Funcs.length (yy (MM p))) s pl:=fun s pl fs _ f _=>by
  unfold o9
  split
  ·intro t ht;rw [Ji ht];exact le_top _ _
  ·intro v t _ _ ht;rw [Ji ht];exact le_top _ _
 obtain ⟨m,m1,m2,m3,_,_,m6⟩:=RS h ho (W:=List.replicate p.Vars.length (yy (MM p))) (E:=List.replicate p.Funcs.length (yy (MM p))) ⟨by simp,by simp,fun l hl=>by rw [(CL.1 hl).2];exact hs,fun l hl=>by rw [(CL.1 hl).2];exact hs⟩
  (fun i v b _ _ hb=>by rw [Ji hb];exact le_top _ _) ⟨MC hT _ _ _,yx hT _ _⟩
 exact ⟨m,m1,m2,m3,m6⟩
end Go.Proofs.YtkkkkondjclcnaaGreat.A
