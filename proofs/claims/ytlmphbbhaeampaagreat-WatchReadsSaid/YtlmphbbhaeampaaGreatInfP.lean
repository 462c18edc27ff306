/- Levels in order; how much they hold; flows of commands that are right. -/
import Derived.Test.YtlmphbbhaeampaaGreatSpkS
import Derived.Test.YtlmphbbhaeampaaGreatRawF
set_option linter.all false
namespace Go.Proofs.YtlmphbbhaeampaaGreat.A
open Go
abbrev mc(n:Nat)(l m:Level):Prop:=iu n l m=true
variable {l m:Level}
theorem le_iff{n:Nat}: mc n l m↔∀ k,k<n→(on m.Readers k=true→on l.Readers k=true)∧(on l.Writers k=true→on m.Writers k=true):=by
 grind [iu,Gq]
variable {k:Nat}
theorem SU{n:Nat}(f:Nat→Bool)(hk:k<n):on ((List.range n).map f) k=f k:=by
 grind [on]
variable {x y:List Bool}
theorem Ez{n:Nat}(hk:k<n):on (xg n x y) k=(on x k&&on y k):=SU _ hk
theorem Ln{n:Nat}(hk:k<n):on (C5 n x y) k=(on x k||on y k):=SU _ hk
theorem le_refl(n:Nat)(l:Level):mc n l l:=le_iff.2 fun _ _=>⟨id,id⟩
variable {a b c:Level}
theorem le_trans{n:Nat}(h:mc n a b)(h':mc n b c):mc n a c:=
 by grind [le_iff]
theorem Ps(n:Nat)(a b:Level):mc n a (eF n a b):=
 by grind [le_iff,eF,Ez,Ln]
theorem UF(n:Nat)(a b:Level):mc n b (eF n a b):=
 by grind [le_iff,eF,Ez,Ln]
theorem join_le{n:Nat}(h:mc n a c)(h':mc n b c):mc n (eF n a b) c:=
 by grind [le_iff,eF,Ez,Ln]
theorem join_mono{n:Nat}{d:Level}(h:mc n a c)(h':mc n b d):mc n (eF n a b) (eF n c d):=by grind [join_le,le_trans,Ps,UF]
theorem bot_le(n:Nat)(l:Level):mc n (fc n) l:=
 by grind [le_iff,fc,on]
def bit(l:Level)(k:Nat):Nat:=(if on l.Readers k=true then 0 else 1)+(if on l.Writers k=true then 1 else 0)
def wt:Nat→Level→Nat
 | 0,_=>0
 | n+1,l=>wt n l+bit l n
theorem adB(h:(on m.Readers k=true→on l.Readers k=true)∧(on l.Writers k=true→on m.Writers k=true)):bit l k≤bit m k:=by
 grind [bit]
theorem adC(n:Nat)(l:Level):wt n l≤2*n:=by
 induction n with
 | zero=>simp [wt]
 | succ n ih=>
  grind [bit,wt]
theorem Pt{l m:Level} : ∀ {n:Nat},(∀ k,k<n→bit l k≤bit m k)→wt n l≤wt n m
 | 0,_=>aY _
 | n+1,h=>by
  have:=Pt (n:=n) fun k hk=>h k (by omega)
  grind [wt]
theorem VB{l m:Level} : ∀ {n:Nat}{j:Nat},(∀ k,k<n→bit l k≤bit m k)→j<n→bit l j<bit m j→wt n l<wt n m
 | n+1,j,h,hj,hb=>by
  have h1:=Pt (n:=n) fun k hk=>h k (by omega)
  have h2:=h n (by omega)
  rw [wt,wt]
  by_cases he:j=n
  ·subst he;omega
  ·have:=VB (n:=n) (fun k hk=>h k (by omega)) (show j<n by omega) hb
   omega
variable {t:Level}
theorem Pu{n:Nat}{f:Level}(h:iu n f t=false):wt n t<wt n (eF n t f):=by
 have hle:=le_iff.1 (Ps n t f)
 have:¬mc n f t:=by grind
 rw [le_iff] at this
 simp only [Classical.not_forall] at this
 obtain ⟨k,hk,hn⟩:=this
 refine VB (fun k hk=>adB (hle k hk)) hk ?_
 grind [Ez,Ln,bit,eF]
def Ik(n:Nat)(V:List Level):Nat:=(V.map (wt n)).sum
theorem Ng(n:Nat):∀ V:List Level,Ik n V≤2*n*V.length
 | []=>by simp [Ik]
 | l::V=>by
  have:=Ng n V
  grind [adC,Ik,Nat.mul_add]
theorem Jt(n:Nat)(u:Level):∀ {V:List Level}{j:Nat}{t:Level},V[j]? =some t→Ik n (V.set j u)+wt n t=Ik n V+wt n u
 | [],j,t,h=>by simp at h
 | l::V,0,t,h=>by
  grind [Ik]
 | l::V,j+1,t,h=>by
  have:=Jt n u (V:=V) (j:=j) (t:=t) (by simpa using h)
  grind [Ik]
def EA(n:Nat)(V W:List Level):Prop:=V.length=W.length∧∀ (i:Nat)(a b:Level),V[i]? =some a→W[i]? =some b→mc n a b
variable {j:Nat}{u:Level}
theorem Pv{n:Nat}{V W:List Level}(h:EA n V W)(hu:∀ b,W[j]? =some b→mc n u b):EA n (V.set j u) W:=⟨by rw [pc];exact h.1,fun i a b ha hb=>by
 rw [qD] at ha
 split at ha
 ·grind
 ·exact h.2 i a b ha hb⟩
theorem SV{n:Nat}{V W:List Level}(h:EA n V W)(k:Nat):mc n (V.getD k (fc n)) (W.getD k (fc n)):=by
 rw [fM,fM]
 by_cases hk:k<V.length
 ·have X:k<W.length:=by rw [←h.1];exact hk
  rw [aV hk,aV X]
  exact h.2 k _ _ (aV hk) (aV X)
 grind [bot_le]
theorem Nh{n:Nat}{V W:List Level}(h:EA n V W):∀ (ns:List Int)(v w:Level),mc n v w→mc n (FI n V ns v) (FI n W ns w)
 | [],v,w,hv=>hv
 | k::ns,v,w,hv=>Nh h ns _ _ (join_mono hv (SV h k.toNat))
theorem vG{n:Nat}{V W:List Level}(h:EA n V W)(e:aK):mc n (rS n V e) (rS n W e):=Nh h _ _ _ (le_refl n _)
variable [Lp]
variable {F:List Level}{pl:Level}
theorem of_eq{p:Program}(h:nJ p){V:List Level}(hV:lG p V F){e:aK}(he:fK p e=0)(C:cN (MM p) pl):oP p V pl e=some (eF (MM p) pl (rS (MM p) V e)):=by
 obtain ⟨h1,h2⟩:=MW h hV he
 unfold oP
 rw [h1,ad,ua h.small C h2]
def LeF(n:Nat)(f g:eJ):Prop:=mc n f.Level g.Level∧f.To=g.To∧f.Func=g.Func
def BQ(p:Program)(f:eJ):Prop:=cN (MM p) f.Level∧0≤f.To∧(if f.Func=true then f.To.toNat<p.Funcs.length else f.To.toNat<p.Vars.length)
inductive F2(n:Nat):List eJ→List eJ→Prop where
 | nil:F2 n [] []
 | cons {f g:eJ} {r q:List eJ} (h:LeF n f g) (t:F2 n r q):F2 n (f::r) (g::q)
theorem F2.append{n:Nat}{a b c d:List eJ}(h:F2 n a b)(h':F2 n c d):F2 n (a++c) (b++d):=by
 induction h with
 | nil=>exact h'
 | cons h _ ih=>exact .cons h ih
theorem Pw{p:Program}(h:nJ p){V F W E:List Level}(hV:lG p V F)(hW:lG p W E)(hle:EA (MM p) V W){pl ql:Level}(C:cN (MM p) pl)(G:cN (MM p) ql)(D:mc (MM p) pl ql){ps:List Int}(U:∀ n∈ps,0≤n∧n<p.Vars.length) :
  ∀ (es:List aK)(i:Nat)(o o':List eJ),(∀ e∈es,fK p e=0)→i+es.length≤ps.length→(∀ f∈o,BQ p f)→F2 (MM p) o o'→
   ∃ r r',um p V pl ps es i o=some r∧um p W ql ps es i o'=some r'∧F2 (MM p) r r'∧(∀ f∈r,BQ p f)∧r.length=o.length+es.length
 | [],i,o,o',_,_,ho,h2=>⟨o,o',rfl,rfl,h2,ho,rfl⟩
 | e::es,i,o,o',he,hi,ho,h2=>by
  have Q:i<ps.length:=by grind
  have hn:=U _ (cp Q)
  have hs:=fx (MM p) pl (rS (MM p) V e)
  rw [um,of_eq h hV (he e (by simp)) C,ad,aV Q,ad,um,of_eq h hW (he e (by simp)) G,ad,aV Q,ad]
  obtain ⟨r,r',a1,a2,a3,a4,a5⟩:=Pw h hV hW hle C G D U es (i+1) (o++[⟨eF (MM p) pl (rS (MM p) V e),ps[i],false⟩]) (o'++[⟨eF (MM p) ql (rS (MM p) W e),ps[i],false⟩]) (fun x hx=>he x (by simp [hx])) (by grind)
   (fun f hf=>by
    rcases eh.1 hf with hf | hf
    ·exact ho f hf
    ·obtain rfl:=dS.1 hf
     exact ⟨hs,hn.1,by simp;omega⟩) (h2.append (.cons ⟨join_mono D (vG hle e),rfl,rfl⟩ .nil))
  grind
variable {ql:Level}
theorem Ni{p:Program}(h:nJ p)(ho:FG p){i:Nat}(hi:i≤p.Funcs.length){V W E:List Level}(hV:lG p V F)(hW:lG p W E)(hle:EA (MM p) V W)(C:cN (MM p) pl)(G:cN (MM p) ql)(D:mc (MM p) pl ql){s:Stmt}(hs:dc p i s=0):
  s.Args.length≤4∧∃ r r',vE p V s pl=some r∧vE p W s ql=some r'∧F2 (MM p) r r'∧(∀ f∈r,BQ p f)∧r.length≤10:=by
 obtain ⟨g1,g2,g3,g4,g5,g6⟩:=oL hs
 have one:∀ {x y:Level},cN (MM p) x→mc (MM p) x y→ir s.Kind=true→F2 (MM p) [⟨x,s.Var,false⟩] [⟨y,s.Var,false⟩]∧(∀ f∈([⟨x,s.Var,false⟩]:List eJ),BQ p f)∧([⟨x,s.Var,false⟩]:List eJ).length≤10:=fun hx ae hv=>by
  have:=g2 hv
  exact ⟨.cons ⟨ae,rfl,rfl⟩ .nil,fun f hf=>by obtain rfl:=dS.1 hf;exact ⟨hx,this.1,by simp;omega⟩,by simp⟩
 have noA:s.Kind≠2→s.Args.length≤4:=by grind [dc]
 unfold vE
 by_cases h1:s.Kind=1
 ·grind [jI,of_eq,fx,join_mono,vG,ir]
 rw [ab h1,ab h1]
 by_cases h2:s.Kind=2
 ·rw [af h2,af h2]
  obtain ⟨o1,o2⟩:=g3 (by simp [lP,h2])
  have o3:s.Other<i:=by grind [ij]
  have o4:s.Other.toNat<p.Funcs.length:=by omega
  have H:=ho.fns _ o4
  obtain ⟨f1,f2,_,f4⟩:=CD H
  have al:s.Args.length=(p.Funcs[s.Other.toNat]).Params.length:=by
   grind [Bu]
  rw [cA o1,ad,ad,aV o4,ad,ad]
  obtain ⟨r,r',a1,a2,a3,a4,a5⟩:=Pw h hV hW hle C G D f2 s.Args 0 [] [] g6 (by omega) (fun _ h=>absurd h (by simp)) .nil
  rw [a1,a2,ad,ad,of_eq h hV f4 C,of_eq h hW f4 G,ad,ad]
  have hv:=g2 (by simp [ir,h2])
  refine ⟨by omega,_,_,rfl,rfl,a3.append (.cons ⟨join_mono D (vG hle _),rfl,rfl⟩ (.cons ⟨D,rfl,rfl⟩ .nil)),fun f hf=>?_,?_⟩
  ·rcases eh.1 hf with hf | hf
   ·exact a4 f hf
   ·rcases dh.1 hf with rfl | hf
    ·exact ⟨fx _ _ _,hv.1,by simp;omega⟩
    ·obtain rfl:=dS.1 hf
     exact ⟨C,o1,by simp;omega⟩
  grind
 rw [ab h2,ab h2]
 by_cases h3:s.Kind=3
 ·rw [af h3,af h3]
  obtain ⟨o1,o2⟩:=g3 (by simp [lP,h3])
  have o3:s.Other<p.Ins.length:=by grind [ij]
  have o4:s.Other.toNat<p.Ins.length:=by omega
  have I:=h.ins _ (cp o4)
  have M:=jc p.an (p.Ins[s.Other.toNat])
  rw [cA o1,ad,ad,aV o4,ad,ad,Gp p.an h.eU _ I,ad,ad,ua h.small C M,ua h.small G M,ad,ad]
  grind [fx,join_mono,le_refl,ir]
 rw [ab h3,ab h3]
 by_cases h5:s.Kind=5
 ·rw [af h5,af h5]
  have he:=g5 (by simp [jI,h5])
  rw [of_eq h hV he C,of_eq h hW he G]
  have hj:=fx (MM p) pl (rS (MM p) V s.Expr)
  have hm:=le_iff.1 (join_mono D (vG hle s.Expr))
  obtain ⟨a1,a2,a3⟩:=one (x:=⟨pl.Readers,(eF (MM p) pl (rS (MM p) V s.Expr)).Writers⟩) (y:=⟨ql.Readers,(eF (MM p) ql (rS (MM p) W s.Expr)).Writers⟩) ⟨C.1,hj.2⟩ ((by grind [le_iff])) (by simp [ir,h5])
  grind
 rw [ab h5,ab h5]
 by_cases h6:s.Kind=6
 ·rw [af h6,af h6]
  have he:=g5 (by simp [jI,h6])
  rw [of_eq h hV he C,of_eq h hW he G]
  have hj:=fx (MM p) pl (rS (MM p) V s.Expr)
  have hm:=le_iff.1 (join_mono D (vG hle s.Expr))
  obtain ⟨a1,a2,a3⟩:=one (x:=⟨(eF (MM p) pl (rS (MM p) V s.Expr)).Readers,pl.Writers⟩) (y:=⟨(eF (MM p) ql (rS (MM p) W s.Expr)).Readers,ql.Writers⟩) ⟨hj.1,C.2⟩ ((by grind [le_iff])) (by simp [ir,h6])
  grind
 rw [ab h6,ab h6]
 exact ⟨noA (by omega),_,_,rfl,rfl,.nil,fun _ h=>(by cases h),by simp⟩
def AW(p:Program)(n:Nat)(V F:List Level)(f:eJ):Prop:=
 if f.Func=true then ∀ t,F[f.To.toNat]? =some t→mc n f.Level t
 else ∀ v t,p.Vars[f.To.toNat]? =some v→v.Known=false→V[f.To.toNat]? =some t→mc n f.Level t
section
variable (n:Nat)(V:List Level)(T:Stmt→Level→Prop)
mutual
def GD:Stmt→Level→Prop
 | ⟨k,v,o,e,args,th,el⟩,pl=>T ⟨k,v,o,e,args,th,el⟩ pl∧(7≤k→s8 th (eF n pl (rS n V e))∧s8 el (eF n pl (rS n V e)))
def s8:List Stmt→Level→Prop
 | [],_=>True
 | x::r,pl=>GD x pl∧s8 r pl
end
theorem Ju(s:Stmt)(pl:Level):GD n V T s pl↔T s pl∧(7≤s.Kind→s8 n V T s.Then (eF n pl (rS n V s.Expr))∧s8 n V T s.Else (eF n pl (rS n V s.Expr))):=by
 cases s;rw [GD]
def Nj(F:List Level):List Func→Nat→Prop
 | [],_=>True
 | f::r,i=>(∀ q,F[i]? =some q→s8 n V T f.Body q)∧Nj F r (i+1)
def GF(p:Program)(F:List Level):Prop:=Nj n V T F p.Funcs 0∧s8 n V T p.Main (fc n)
end
variable [Lp]
def asks(p:Program)(V F:List Level)(st:Stmt)(pl:Level):Prop:=∀ fs,vE p V st pl=some fs→∀ f∈fs,AW p (MM p) V F f
structure uB(p:Program)(W E:List Level)(s:dP):Prop where
 ok:lG p s.V s.F
 v:EA (MM p) s.V W
 f:EA (MM p) s.F E
def mu(p:Program)(s:dP):Nat:=Ik (MM p) s.V+Ik (MM p) s.F
structure Grow(p:Program)(s t:dP):Prop where
 mu:mu p s≤mu p t
 ch:t.ch=true→s.ch=true∨A.mu p s<A.mu p t
 up:s.ch=true→t.ch=true
 kn:∀ (i:Nat)(v:Var),p.Vars[i]? =some v→v.Known=true→t.V[i]? =s.V[i]?
theorem Grow.refl(p:Program)(s:dP):Grow p s s:=⟨aY _,fun h=>.inl h,fun h=>h,fun _ _ _ _=>rfl⟩
variable {s:dP}
theorem Grow.trans{p:Program}{t u:dP}(h:Grow p s t)(h':Grow p t u):Grow p s u:=
 ⟨di h.mu h'.mu,fun hu=>(h'.ch hu).elim (fun ht=>(h.ch ht).imp id fun P=>eK P h'.mu) fun P=>.inr (Nat.lt_of_le_of_lt h.mu P),fun hs=>h'.up (h.up hs),fun i v hv hk=>(h'.kn i v hv hk).trans (h.kn i v hv hk)⟩
theorem SW{n:Nat}{V:List Level}{i:Nat}(h:∀ l∈V,cN n l)(ht:V[i]? =some t):cN n t:=h t (bu ht)
theorem Nk{V:List Level}(h:l∈V.set j u):l∈V∨l=u:=(ka h)
theorem Ws{p:Program}(h:nJ p){W E:List Level}(hb:uB p W E s){f g:eJ}(hf:BQ p f)(R:LeF (MM p) f g)(hg:AW p (MM p) W E g):
  ∃ t,CQ p s f=some t∧uB p W E t∧Grow p s t∧(t.ch=false→t=s∧AW p (MM p) s.V s.F f):=by
 obtain ⟨h1,h2,h3⟩:=hf
 obtain ⟨l1,l2,l3⟩:=R
 unfold CQ
 rw [cA h2,ad]
 unfold AW at hg
 cases H:f.Func with
 | true=>
  rw [af rfl]
  rw [H,af rfl] at h3
  rw [←l3,H,af rfl,←l2] at hg
  have hi:f.To.toNat<s.F.length:=by rw [hb.ok.fl];exact h3
  have ht:=aV hi
  generalize s.F[f.To.toNat]=t at ht
  have K:=SW hb.ok.fs ht
  rw [ht,ad,ye h.small h1 K,ad]
  cases hu:iu (MM p) f.Level t with
  | true=>
   rw [af rfl]
   exact ⟨s,rfl,hb,.refl p s,by grind [AW]⟩
  | false=>
   rw [ab (by simp),ua h.small K h1,ad]
   have hw:=Jt (MM p) (eF (MM p) t f.Level) ht
   have hj:=Pu hu
   refine ⟨_,rfl,⟨⟨hb.ok.vl,by simp [hb.ok.fl],hb.ok.vs,fun l hl=>(Nk hl).elim (hb.ok.fs l) fun e=>by rw [e];exact fx _ _ _⟩,hb.v,Pv hb.f fun b O=>join_le (hb.f.2 _ _ _ ht O) (le_trans l1 (hg b O))⟩,⟨by simp only [mu];omega,fun _=>.inr (by simp only [mu];omega),fun _=>rfl,fun _ _ _ _=>rfl⟩,fun hc=>by cases hc⟩
 | false=>
  rw [ab (by simp)]
  rw [H,ab (by simp)] at h3
  rw [←l3,H,ab (by simp),←l2] at hg
  have hv:=aV h3
  generalize p.Vars[f.To.toNat]=v at hv
  rw [hv,ad]
  cases hk:v.Known with
  | true=>
   rw [af rfl]
   exact ⟨s,rfl,hb,.refl p s,by grind [AW]⟩
  | false=>
   rw [ab (by simp)]
   have hi:f.To.toNat<s.V.length:=by rw [hb.ok.vl];exact h3
   have ht:=aV hi
   generalize s.V[f.To.toNat]=t at ht
   have K:=SW hb.ok.vs ht
   rw [ht,ad,ye h.small h1 K,ad]
   cases hu:iu (MM p) f.Level t with
   | true=>
    rw [af rfl]
    exact ⟨s,rfl,hb,.refl p s,by grind [AW]⟩
   | false=>
    rw [ab (by simp),ua h.small K h1,ad]
    have hw:=Jt (MM p) (eF (MM p) t f.Level) ht
    have hj:=Pu hu
    refine ⟨_,rfl,⟨⟨by simp [hb.ok.vl],hb.ok.fl,fun l hl=>(Nk hl).elim (hb.ok.vs l) fun e=>by rw [e];exact fx _ _ _,hb.ok.fs⟩,Pv hb.v fun b O=>join_le (hb.v.2 _ _ _ ht O) (le_trans l1 (hg v b hv hk O)),hb.f⟩,⟨by simp only [mu];omega,fun _=>.inr (by simp only [mu];omega),fun _=>rfl,fun i v' am ap=>?_⟩,fun hc=>by cases hc⟩
    grind
theorem Nl{p:Program}(h:nJ p){W E:List Level} : ∀ {fs gs:List eJ}{s:dP},F2 (MM p) fs gs→uB p W E s→(∀ f∈fs,BQ p f)→(∀ g∈gs,AW p (MM p) W E g)→
  ∃ t,BO p fs s=some t∧uB p W E t∧Grow p s t∧(t.ch=false→t=s∧∀ f∈fs,AW p (MM p) s.V s.F f)
 | _,_,s,.nil,hb,_,_=>⟨s,rfl,hb,.refl p s,by grind⟩
 | _,_,s,.cons (f:=f) (g:=g) (r:=r) (q:=q) R ht,hb,hf,hg=>by
  obtain ⟨t,t1,t2,t3,t4⟩:=Ws h hb (hf f (by simp)) R (hg g (by simp))
  obtain ⟨u,u1,u2,u3,u4⟩:=Nl h ht t2 (fun x hx=>hf x (by simp [hx])) fun x hx=>hg x (by simp [hx])
  refine ⟨u,by grind [BO],u2,t3.trans u3,fun hc=>?_⟩
  grind
section
variable {p:Program}(h:nJ p)(ho:FG p){W E:List Level}(hW:lG p W E){i:Nat}(hi:i≤p.Funcs.length)
include h ho hW hi
theorem UG{st:Stmt}{a:Nat}(hs:dc p i st=0)(hb:uB p W E s)(C:cN (MM p) pl)(G:cN (MM p) ql)(D:mc (MM p) pl ql)(hT:asks p W E st ql):
  ∃ t,sH p a st pl s=some t∧uB p W E t∧Grow p s t∧(t.ch=false→t=s∧asks p s.V s.F st pl):=by
 obtain ⟨_,r,r',a1,a2,a3,a4,a5⟩:=Ni h ho hi hb.ok hW hb.v C G D hs
 obtain ⟨t,t1,t2,t3,t4⟩:=Nl h a3 hb a4 (hT r' a2)
 refine ⟨t,by grind [sH],t2,t3,fun hc=>⟨(t4 hc).1,fun fs aq=>?_⟩⟩
 grind
mutual
theorem Wt:∀ (st:Stmt)(a:Nat)(pl ql:Level)(s:dP),xf (dc p i) st=0→gh st≤50→a+gh st≤1000→uB p W E s→cN (MM p) pl→cN (MM p) ql→mc (MM p) pl ql→GD (MM p) W (asks p W E) st ql→
  ∃ t,Ig p dP.V (sH p) st a pl s=some (a+gh st,t)∧uB p W E t∧Grow p s t∧(t.ch=false→t=s∧GD (MM p) s.V (asks p s.V s.F) st pl)
 | ⟨k,v,o,e,args,th,el⟩,a,pl,ql,s,he,hc,ha,hb,C,G,D,hT=>by
  obtain ⟨e1,e2,e3⟩:=yN he
  obtain ⟨T1,T2⟩:=(Ju _ _ _ _ _).1 hT
  have hlen:=(Ni h ho hi hb.ok hW hb.v C G D e1).1
  have J:=yK ⟨k,v,o,e,args,th,el⟩
  have l1:=qW th
  have l2:=qW el
  simp only at hlen J e2 e3
  obtain ⟨t,t1,t2,t3,t4⟩:=UG h ho hW hi (a:=a) e1 hb C G D T1
  rw [Nd,af ⟨by omega,by simp only;omega,by simp only;omega,by simp only;omega⟩,t1,ad]
  by_cases h7:7≤k
  ·rw [af h7]
   obtain ⟨T3,T4⟩:=T2 h7
   have hex:=(oL e1).2.2.2.2.1 (by grind [jI])
   simp only at hex
   have hq:=of_eq h t2.ok hex C
   have M:=fx (MM p) pl (rS (MM p) t.V e)
   have L:=fx (MM p) ql (rS (MM p) W e)
   have hle:=join_mono D (vG t2.v e)
   simp only
   rw [hq,ad]
   obtain ⟨u,u1,u2,u3,u4⟩:=BR th (a+1) _ _ t e2 (by omega) (by omega) t2 M L hle T3
   obtain ⟨w,w1,w2,w3,w4⟩:=BR el (a+1+cP th) _ _ u e3 (by omega) (by omega) u2 M L hle T4
   rw [u1,ad,w1]
   refine ⟨w,by rw [J];congr 2;omega,w2,(t3.trans u3).trans w3,fun hc=>?_⟩
   grind [Ju]
  ·rw [ab h7]
   have ao:k<7:=by omega
   have z:th.length=0∧el.length=0:=by
    grind [dc]
   have z1:th=[]:=Dy.1 z.1
   have z2:el=[]:=Dy.1 z.2
   subst z1 z2
   refine ⟨t,by rw [J];simp [cP],t2,t3,fun hc=>?_⟩
   obtain ⟨rfl,c3⟩:=t4 hc
   exact ⟨rfl,(Ju _ _ _ _ _).2 ⟨c3,fun hh=>absurd hh h7⟩⟩
theorem BR:∀ (l:List Stmt)(a:Nat)(pl ql:Level)(s:dP),fF (dc p i) l=0→cP l≤50→a+cP l≤1000→uB p W E s→cN (MM p) pl→cN (MM p) ql→mc (MM p) pl ql→s8 (MM p) W (asks p W E) l ql→
  ∃ t,oh p dP.V (sH p) l a pl s=some (a+cP l,t)∧uB p W E t∧Grow p s t∧(t.ch=false→t=s∧s8 (MM p) s.V (asks p s.V s.F) l pl)
 | [],a,pl,ql,s,he,hc,ha,hb,C,G,D,hT=>⟨s,by rw [oh,cP];rfl,hb,.refl p s,by grind [s8]⟩
 | x::r,a,pl,ql,s,he,hc,ha,hb,C,G,D,hT=>by
  rw [cP] at hc ha
  rw [s8] at hT
  have aj:=CB he x (by simp)
  have ai:fF (dc p i) r=0:=by
   grind [fF]
  obtain ⟨t,t1,t2,t3,t4⟩:=Wt x a pl ql s aj (by omega) (by omega) hb C G D hT.1
  obtain ⟨u,u1,u2,u3,u4⟩:=BR r (a+gh x) pl ql t ai (by omega) (by omega) t2 C G D hT.2
  refine ⟨u,by grind [oh,cP],u2,t3.trans u3,fun hc=>?_⟩
  grind [s8]
end
end
variable [Lp]
abbrev CT(l:List Func):Nat:=(l.map fun f=>cP f.Body).sum
section
variable {p:Program}(h:nJ p)(ho:FG p)
include h ho
theorem Wu{rest:List Func}{f:Func}{i:Nat}(hd:p.Funcs.drop i=f::rest):p.Funcs[i]? =some f∧p.Funcs.drop (i+1)=rest∧i<p.Funcs.length∧C2 p i f=0:=by
 have hg:p.Funcs[i]? =some f:=by
  have:=av (fun l=>l[0]?) hd
  simpa using this
 have aa:p.Funcs.drop (i+1)=rest:=by
  have:=av List.tail hd
  simpa using this
 have hi:=(j8.1 hg).1
 have:=ho.fns i hi
 grind
theorem Px{W E:List Level}(hW:lG p W E):∀ (rest:List Func)(i a:Nat)(s:dP),p.Funcs.drop i=rest→CT rest≤50→a+CT rest≤1000→uB p W E s→Nj (MM p) W (asks p W E) E rest i→
  ∃ t,CP p dP.V dP.F (sH p) rest i a s=some (a+CT rest,t)∧uB p W E t∧Grow p s t∧(t.ch=false→t=s∧Nj (MM p) s.V (asks p s.V s.F) s.F rest i)
 | [],i,a,s,hd,hs,ha,hb,hT=>⟨s,rfl,hb,.refl p s,fun _=>⟨rfl,trivial⟩⟩
 | f::rest,i,a,s,hd,hs,ha,hb,hT=>by
  obtain ⟨hg,aa,hi,H⟩:=Wu h ho hd
  obtain ⟨_,_,f3,_⟩:=CD H
  have N:CT (f::rest)=cP f.Body+CT rest:=by simp [CT]
  rw [N] at hs ha
  have hl:=qW f.Body
  have Y:i<s.F.length:=by rw [hb.ok.fl];exact hi
  have Z:i<E.length:=by rw [hW.fl];exact hi
  have hq:=aV Y
  have S:=aV Z
  rw [CP,af (by omega),hq,ad]
  obtain ⟨t,t1,t2,t3,t4⟩:=BR h ho hW (by omega) f.Body a _ _ s f3 (by omega) (by omega) hb (hb.ok.fs _ (cp Y)) (hW.fs _ (cp Z)) (hb.f.2 i _ _ hq S) (hT.1 _ S)
  obtain ⟨u,u1,u2,u3,u4⟩:=Px hW rest (i+1) (a+cP f.Body) t aa (by omega) (by omega) t2 hT.2
  refine ⟨u,by grind,u2,t3.trans u3,fun hc=>?_⟩
  obtain ⟨rfl,c1⟩:=u4 hc
  obtain ⟨rfl,c2⟩:=t4 hc
  exact ⟨rfl,by grind,c1⟩
theorem Wv{W E:List Level}(hW:lG p W E)(hb:uB p W E s)(hT:GF (MM p) W (asks p W E) p E):
  ∃ a t,Ev p dP.V dP.F (sH p) s=some (a,t)∧uB p W E t∧Grow p s t∧(t.ch=false→t=s∧GF (MM p) s.V (asks p s.V s.F) p s.F):=by
 have N:=ho.sum
 have hf:=ho.funcs
 have hm:=ho.main
 have hl:=qW p.Main
 obtain ⟨t,t1,t2,t3,t4⟩:=Px h ho hW p.Funcs 0 0 s rfl (show CT p.Funcs≤50 by grind) (show 0+CT p.Funcs≤1000 by grind) hb hT.1
 obtain ⟨u,u1,u2,u3,u4⟩:=BR h ho hW (aY _) p.Main (0+CT p.Funcs) (fc (MM p)) (fc (MM p)) t ho.mains (by omega) (by grind) t2 (nK _) (nK _) (le_refl _ _) hT.2
 refine ⟨_,u,by unfold Ev;rw [af (by omega),t1,ad,tu h,ad,u1],u2,t3.trans u3,fun hc=>?_⟩
 obtain ⟨rfl,c1⟩:=u4 hc
 obtain ⟨rfl,c2⟩:=t4 hc
 exact ⟨rfl,c2,c1⟩
def xW(p:Program):List Level:=p.Vars.map fun v=>if v.Known=true then dm p.an v.Label else fc (MM p)
def CU(p:Program):List Level:=p.Funcs.map fun _=>fc (MM p)
theorem GG:∀ (l:List Var)(o:List Level),(∀ v∈l,v∈p.Vars)→E9 p l o=some (o++l.map fun v=>if v.Known=true then dm p.an v.Label else fc (MM p))
 | [],o,_=>by simp [E9]
 | v::r,o,hv=>by
  have I:=h.vars v (hv v (by simp))
  rw [E9,tu h,ad]
  cases hk:v.Known with
  | true=>
   rw [af rfl,Gp p.an h.eU _ I,ad,GG r _ fun w hw=>hv w (by simp [hw])]
   simp [hk]
  | false=>
   rw [ab (by simp),ad,GG r _ fun w hw=>hv w (by simp [hw])]
   simp [hk]
theorem Nn:∀ (l:List Func)(o:List Level),Fa p l o=some (o++l.map fun _=>fc (MM p))
 | [],o=>by simp [Fa]
 | v::r,o=>by
  rw [Fa,tu h,ad,Nn r]
  simp
theorem afR:lG p (xW p) (CU p):=by
 refine ⟨by simp [xW],by simp [CU],fun l hl=>?_,fun l hl=>?_⟩
 ·obtain ⟨v,_,rfl⟩:=iG.1 hl
  grind [jc,nK]
 ·obtain ⟨v,_,rfl⟩:=iG.1 hl
  exact nK _
theorem adD{W E:List Level}(hW:lG p W E)(hK:∀ (i:Nat)(v:Var)(b:Level),p.Vars[i]? =some v→v.Known=true→W[i]? =some b→mc (MM p) (dm p.an v.Label) b)(hT:GF (MM p) W (asks p W E) p E) :
  ∃ m,pR p=some m∧lG p m.Vars m.Funcs∧GF (MM p) m.Vars (asks p m.Vars m.Funcs) p m.Funcs∧EA (MM p) m.Vars W∧EA (MM p) m.Funcs E∧∀ (i:Nat)(v:Var),p.Vars[i]? =some v→v.Known=true→m.Vars[i]? =some (dm p.an v.Label):=by
 have ag:=ho.vars
 have ar:=ho.funcs
 have b0:uB p W E ⟨xW p,CU p,true⟩:=by
  refine ⟨afR h ho,⟨by rw [hW.vl];simp [xW],fun i a b ha hb=>?_⟩,⟨by rw [hW.fl];simp [CU],fun i a b ha hb=>?_⟩⟩
  ·grind [xW,bot_le]
  grind [CU,bot_le]
 have k0:∀ (i:Nat)(v:Var),p.Vars[i]? =some v→v.Known=true→(xW p)[i]? =some (dm p.an v.Label):=by grind [xW]
 obtain ⟨s,hs,hQ⟩:=kT (B:=CS p) (fun s=>2*(2*MM p*(p.Vars.length+p.Funcs.length) - mu p s)+(if s.ch=true then 1 else 0))
  (fun s=>uB p W E s∧(∀ (i:Nat)(v:Var),p.Vars[i]? =some v→v.Known=true→s.V[i]? =some (dm p.an v.Label))∧(s.ch=false→GF (MM p) s.V (asks p s.V s.F) p s.F))
  (fun s=>uB p W E s∧(∀ (i:Nat)(v:Var),p.Vars[i]? =some v→v.Known=true→s.V[i]? =some (dm p.an v.Label))∧GF (MM p) s.V (asks p s.V s.F) p s.F) (by
   rintro s ⟨hb,ah,al⟩
   unfold CS
   cases hc:s.ch with
   | false=>
    grind
   | true=>
    rw [af rfl]
    have ak:uB p W E ⟨s.V,s.F,false⟩:=⟨hb.ok,hb.v,hb.f⟩
    obtain ⟨a,t,t1,t2,t3,t4⟩:=Wv h ho hW ak hT
    refine .inr ⟨t,by rw [t1];rfl,⟨t2,fun i v hv hk=>(t3.kn i v hv hk).trans (ah i v hv hk),fun ac=>?_⟩,?_⟩
    ·grind
    ·have m1:mu p ⟨s.V,s.F,false⟩=mu p s:=rfl
     have m2:=t3.mu
     have m3:mu p t≤2*MM p*(p.Vars.length+p.Funcs.length):=by
      have q1:=Ng (MM p) t.V
      have q2:=Ng (MM p) t.F
      rw [t2.ok.vl] at q1
      rw [t2.ok.fl] at q2
      grind [mu]
     cases ac:t.ch with
     | false=>grind
     | true=>
      have:=t3.ch ac
      grind) ⟨xW p,CU p,true⟩ (by grind)
 refine ⟨⟨s.V,s.F⟩,?_,hQ.1.ok,hQ.2.2,hQ.1.v,hQ.1.f,hQ.2.1⟩
 unfold pR
 have e1:=GG h ho p.Vars [] fun v hv=>hv
 have e2:=Nn h ho p.Funcs []
 rw [eN] at e1 e2
 rw [af (by omega),e1,ad,e2,ad]
 show (lp (CS p) ⟨xW p,CU p,true⟩).bind _=_
 rw [hs];rfl
end
variable [Lp]
mutual
theorem UH{n:Nat}{V:List Level}{T:Stmt→Level→Prop}(hT:∀ s pl,T s pl):∀ (s:Stmt)(pl:Level),GD n V T s pl
 | ⟨k,v,o,e,args,th,el⟩,pl=>by rw [GD];exact ⟨hT _ _,fun _=>⟨zg hT th _,zg hT el _⟩⟩
theorem zg{n:Nat}{V:List Level}{T:Stmt→Level→Prop}(hT:∀ s pl,T s pl):∀ (l:List Stmt)(pl:Level),s8 n V T l pl
 | [],pl=>by rw [s8];trivial
 | x::r,pl=>by rw [s8];exact ⟨UH hT x pl,zg hT r pl⟩
end
theorem No{n:Nat}{V:List Level}{T:Stmt→Level→Prop}(hT:∀ s pl,T s pl)(F:List Level):∀ (l:List Func)(i:Nat),Nj n V T F l i
 | [],_=>trivial
 | f::r,i=>⟨fun q _=>zg hT f.Body q,No hT F r (i+1)⟩
def EB(n:Nat):Level:=⟨List.replicate n false,List.replicate n true⟩
theorem le_top(n:Nat)(l:Level):mc n l (EB n):=
 by grind [le_iff,EB,on]
theorem Ww{p:Program}(h:nJ p)(ho:FG p):∃ m,pR p=some m∧lG p m.Vars m.Funcs∧GF (MM p) m.Vars (asks p m.Vars m.Funcs) p m.Funcs∧∀ (i:Nat)(v:Var),p.Vars[i]? =some v→v.Known=true→m.Vars[i]? =some (dm p.an v.Label):=by
 have hs:cN (MM p) (EB (MM p)):=by simp [cN,EB]
 have hT:∀ s pl,asks p (List.replicate p.Vars.length (EB (MM p))) (List.replicate p.Funcs.length (EB (MM p))) s pl:=fun s pl fs _ f _=>by
  grind [AW,le_top]
 obtain ⟨m,m1,m2,m3,_,_,m6⟩:=adD h ho (W:=List.replicate p.Vars.length (EB (MM p))) (E:=List.replicate p.Funcs.length (EB (MM p))) ⟨by simp,by simp,by grind,by grind⟩
  ((by grind [le_top])) ⟨No hT _ _ _,zg hT _ _⟩
 grind
end Go.Proofs.YtlmphbbhaeampaaGreat.A
