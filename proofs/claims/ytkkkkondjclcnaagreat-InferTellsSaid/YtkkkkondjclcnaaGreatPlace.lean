/- All commands with their numbers and places, in order; walks as rounds over them. -/
import Derived.Test.YtkkkkondjclcnaaGreatInfP
set_option linter.all false
namespace Go.Proofs.YtkkkkondjclcnaaGreat.A
open Go
structure DI where
 s:Stmt
 a:Nat
 pl:Level
section
variable (n:Nat)(V:List Level)
mutual
def Cf:Stmt→Nat→Level→List DI
 | ⟨k,v,o,e,args,th,el⟩,a,pl=>⟨⟨k,v,o,e,args,th,el⟩,a,pl⟩::if 7≤k then mM th (a+1) (cV n pl (jU n V e))++mM el (a+1+bb th) (cV n pl (jU n V e)) else []
def mM:List Stmt→Nat→Level→List DI
 | [],_,_=>[]
 | x::r,a,pl=>Cf x a pl++mM r (a+oQ x) pl
end
theorem DJ(s:Stmt)(a:Nat)(pl:Level):Cf n V s a pl=⟨s,a,pl⟩::if 7≤s.Kind then mM n V s.Then (a+1) (cV n pl (jU n V s.Expr))++mM n V s.Else (a+1+bb s.Then) (cV n pl (jU n V s.Expr)) else []:=by
 cases s;rw [Cf]
def wX(F:List Level):List Func→Nat→Nat→List DI
 | [],_,_=>[]
 | f::r,i,a=>mM n V f.Body a (F.getD i (ij n))++wX F r (i+1) (a+bb f.Body)
def iu(p:Program)(F:List Level):List DI:=wX n V F p.Funcs 0 0++mM n V p.Main (eh p.Funcs) (ij n)
variable {n V}{T:Stmt→Level→Prop}
mutual
theorem WE:∀ (s:Stmt)(a:Nat)(pl:Level),Ap n V T s pl↔∀ x∈Cf n V s a pl,T x.s x.pl
 | ⟨k,v,o,e,args,th,el⟩,a,pl=>by
  rw [Ap,Cf,List.forall_mem_cons]
  refine vK fun _=>?_
  by_cases h7:7≤k
  ·rw [aa h7,zw,←A6 th,←A6 el]
   exact ⟨fun h=>h h7,fun h _=>h⟩
  ·rw [ab h7]
   exact ⟨fun _ _ h=>absurd h (by simp),fun _ h=>absurd h h7⟩
theorem A6:∀ (l:List Stmt)(a:Nat)(pl:Level),nh n V T l pl↔∀ x∈mM n V l a pl,T x.s x.pl
 | [],a,pl=>by rw [nh,mM];exact ⟨fun _ _ h=>absurd h (by simp),fun _=>trivial⟩
 | x::r,a,pl=>by rw [nh,mM,zw,←WE x,←A6 r]
end
theorem OF{F:List Level} : ∀ (l:List Func)(i a:Nat),i+l.length≤F.length→(BW n V T F l i↔∀ x∈wX n V F l i a,T x.s x.pl)
 | [],i,a,_=>⟨fun _ _ h=>absurd h (by simp [wX]),fun _=>trivial⟩
 | f::r,i,a,h=>by
  have hi:i<F.length:=by simp only [bD] at h;omega
  have hq:F[i]? =some F[i]:=aA hi
  have hd:F.getD i (ij n)=F[i]:=by rw [cp,hq];rfl
  rw [BW,wX,zw,←OF r (i+1) (a+bb f.Body) (by simp only [bD] at h;omega),←A6 f.Body,hd]
  exact and_congr_left fun _=>⟨fun g=>g _ hq,fun g q hq'=>by rw [hq] at hq';cases hq';exact g⟩
theorem Jh{p:Program}{F:List Level}(h:F.length=p.Funcs.length):qK n V T p F↔∀ x∈iu n V p F,T x.s x.pl:=by
 unfold qK iu
 rw [zw,←OF p.Funcs 0 0 (by omega),←A6 p.Main]
end
variable [Lp]
section
variable {p:Program}(h:oS p)(ho:Dy p){V F:List Level}(hV:dx p V F){σ:Type}(dof:Nat→Stmt→Level→σ→Option σ)
theorem WG{i:Int}{s:Stmt}(h:bw p i s=0)(hk:¬7≤s.Kind):s.Then=[]∧s.Else=[]:=by
 have hk0:s.Kind<7:=by omega
 unfold bw at h
 split at h
 ·exact absurd h (by decide)
 split at h
 ·exact absurd h (by decide)
 split at h
 ·exact absurd h (by decide)
 ·rename_i h3
  constructor
  ·rcases qa s.Then.length with hz | hz
   ·exact qg.1 hz
   ·exact absurd (.inr (.inr (.inr (.inr (.inl ⟨hk0,hz⟩))))) h3
  ·rcases qa s.Else.length with hz | hz
   ·exact qg.1 hz
   ·exact absurd (.inr (.inr (.inr (.inr (.inr ⟨by omega,hz⟩))))) h3
include h ho hV
theorem RT(i:Nat):bc (MM p) (F.getD i (ij (MM p))):=by
 rw [cp]
 cases hq:F[i]? with
 | none=>exact lk _
 | some q=>exact qL hV.fs hq
omit h ho hV in
mutual
theorem abX{i:Nat}(hi:i≤p.Funcs.length):∀ (st:Stmt)(a:Nat)(pl:Level),uk (bw p i) st=0→bc (MM p) pl→∀ x∈Cf (MM p) V st a pl,(∃ i:Nat,i≤p.Funcs.length∧bw p i x.s=0)∧bc (MM p) x.pl
 | ⟨k,v,o,e,args,th,el⟩,a,pl,he,hpl,x,hx=>by
  obtain ⟨e1,e2,e3⟩:=BR he
  rw [DJ] at hx
  rcases cQ.1 hx with rfl | hx
  ·exact ⟨⟨i,hi,e1⟩,hpl⟩
  ·split at hx
   ·have hsz:=dU (MM p) pl (jU (MM p) V e)
    rcases bJ.1 hx with hx | hx
    ·exact DK hi th _ _ e2 hsz x hx
    ·exact DK hi el _ _ e3 hsz x hx
   ·exact absurd hx (by simp)
theorem DK{i:Nat}(hi:i≤p.Funcs.length):∀ (l:List Stmt)(a:Nat)(pl:Level),cZ (bw p i) l=0→bc (MM p) pl→∀ x∈mM (MM p) V l a pl,(∃ i:Nat,i≤p.Funcs.length∧bw p i x.s=0)∧bc (MM p) x.pl
 | [],a,pl,he,hpl,x,hx=>by rw [mM] at hx;exact absurd hx (by simp)
 | y::r,a,pl,he,hpl,x,hx=>by
  have he1:=yr he y (by simp)
  have he2:cZ (bw p i) r=0:=by
   rw [cZ,ab (by simp [he1])] at he;exact he
  rw [mM] at hx
  rcases bJ.1 hx with hx | hx
  ·exact abX hi y _ _ he1 hpl x hx
  ·exact DK hi r _ _ he2 hpl x hx
end
omit h ho hV in
mutual
theorem WH:∀ (st:Stmt)(a:Nat)(pl:Level),(Cf (MM p) V st a pl).length≤oQ st
 | ⟨k,v,o,e,args,th,el⟩,a,pl=>by
  have hc:=yn ⟨k,v,o,e,args,th,el⟩
  simp only at hc
  rw [DJ,bD]
  split
  ·have h1:=A7 th (a+1) (cV (MM p) pl (jU (MM p) V e))
   have h2:=A7 el (a+1+bb th) (cV (MM p) pl (jU (MM p) V e))
   rw [cC];simp only;omega
  ·simp;omega
theorem A7:∀ (l:List Stmt)(a:Nat)(pl:Level),(mM (MM p) V l a pl).length≤bb l
 | [],a,pl=>by rw [mM];simp
 | y::r,a,pl=>by
  have h1:=WH y a pl
  have h2:=A7 r (a+oQ y) pl
  rw [mM,cC,bb];omega
end
theorem RU:∀ (rest:List Func)(i a:Nat),p.Funcs.drop i=rest→∀ x∈wX (MM p) V F rest i a,(∃ i:Nat,i≤p.Funcs.length∧bw p i x.s=0)∧bc (MM p) x.pl
 | [],i,a,hd,x,hx=>absurd hx (by simp [wX])
 | f::rest,i,a,hd,x,hx=>by
  obtain ⟨hg,hd2,hi,hfn⟩:=EF h ho hd
  obtain ⟨_,_,f3,_⟩:=Eu hfn
  rw [wX] at hx
  rcases bJ.1 hx with hx | hx
  ·exact DK (by omega) f.Body _ _ f3 (RT h ho hV i) x hx
  ·exact RU rest (i+1) _ hd2 x hx
theorem DL:∀ x∈iu (MM p) V p F,(∃ i:Nat,i≤p.Funcs.length∧bw p i x.s=0)∧bc (MM p) x.pl:=by
 intro x hx
 unfold iu at hx
 rcases bJ.1 hx with hx | hx
 ·exact RU h ho hV p.Funcs 0 0 rfl x hx
 ·exact DK (aT _) p.Main _ _ ho.mains (lk _) x hx
omit h ho hV in
theorem OG:∀ (l:List Func)(i a:Nat),(wX (MM p) V F l i a).length≤eh l
 | [],i,a=>by simp [wX]
 | f::r,i,a=>by
  have h1:=A7 (p:=p) (V:=V) f.Body a (F.getD i (ij (MM p)))
  have h2:=OG r (i+1) (a+bb f.Body)
  have hsum:eh (f::r)=bb f.Body+eh r:=by simp [eh]
  rw [wX,cC,hsum];omega
theorem HE:(iu (MM p) V p F).length≤50:=by
 have hsum:=ho.sum
 have h1:=OG (p:=p) (V:=V) (F:=F) p.Funcs 0 0
 have h2:=A7 (p:=p) (V:=V) p.Main (eh p.Funcs) (ij (MM p))
 have h3:eh p.Funcs+bb p.Main≤50:=hsum
 unfold iu
 rw [cC]
 omega
end
end Go.Proofs.YtkkkkondjclcnaaGreat.A
