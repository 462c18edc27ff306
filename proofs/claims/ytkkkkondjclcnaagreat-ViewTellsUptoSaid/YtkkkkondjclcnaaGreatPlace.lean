/- All commands with their numbers and places, in order; walks as rounds over them. -/
import Derived.Test.YtkkkkondjclcnaaGreatInfP
set_option linter.all false
namespace Go.Proofs.YtkkkkondjclcnaaGreat.A
open Go
structure Dv where
 s:Stmt
 a:Nat
 pl:Level
section
variable (n:Nat)(V:List Level)
mutual
def B0:Stmt→Nat→Level→List Dv
 | ⟨k,v,o,e,args,th,el⟩,a,pl=>⟨⟨k,v,o,e,args,th,el⟩,a,pl⟩::if 7≤k then mT th (a+1) (cZ n pl (km n V e))++mT el (a+1+br th) (cZ n pl (km n V e)) else []
def mT:List Stmt→Nat→Level→List Dv
 | [],_,_=>[]
 | x::r,a,pl=>B0 x a pl++mT r (a+sA x) pl
end
theorem Dw(s:Stmt)(a:Nat)(pl:Level):B0 n V s a pl=⟨s,a,pl⟩::if 7≤s.Kind then mT n V s.Then (a+1) (cZ n pl (km n V s.Expr))++mT n V s.Else (a+1+br s.Then) (cZ n pl (km n V s.Expr)) else []:=by
 cases s;rw [B0]
def wX(F:List Level):List Func→Nat→Nat→List Dv
 | [],_,_=>[]
 | f::r,i,a=>mT n V f.Body a (F.getD i (iF n))++wX F r (i+1) (a+br f.Body)
def sF(p:Program)(F:List Level):List Dv:=wX n V F p.Funcs 0 0++mT n V p.Main (iG p.Funcs) (iF n)
variable {n V}{T:Stmt→Level→Prop}
mutual
theorem WL:∀ (s:Stmt)(a:Nat)(pl:Level),BI n V T s pl↔∀ x∈B0 n V s a pl,T x.s x.pl
 | ⟨k,v,o,e,args,th,el⟩,a,pl=>by
  rw [BI,B0,List.forall_mem_cons]
  refine and_congr_right fun _=>?_
  by_cases h7:7≤k
  ·rw [ab h7,zd,←AQ th,←AQ el]
   exact ⟨fun h=>h h7,fun h _=>h⟩
  ·rw [ad h7]
   exact ⟨fun _ _ h=>absurd h (by simp),fun _ h=>absurd h h7⟩
theorem AQ:∀ (l:List Stmt)(a:Nat)(pl:Level),pq n V T l pl↔∀ x∈mT n V l a pl,T x.s x.pl
 | [],a,pl=>by rw [pq,mT];exact ⟨fun _ _ h=>absurd h (by simp),fun _=>trivial⟩
 | x::r,a,pl=>by rw [pq,mT,zd,←WL x,←AQ r]
end
theorem Oz{F:List Level} : ∀ (l:List Func)(i a:Nat),i+l.length≤F.length→(FK n V T F l i↔∀ x∈wX n V F l i a,T x.s x.pl)
 | [],i,a,_=>⟨fun _ _ h=>absurd h (by simp [wX]),fun _=>trivial⟩
 | f::r,i,a,h=>by
  have hi:i<F.length:=by simp only [bu] at h;omega
  have hq:F[i]? =some F[i]:=aB hi
  have hd:F.getD i (iF n)=F[i]:=by rw [cb,hq];rfl
  rw [FK,wX,zd,←Oz r (i+1) (a+br f.Body) (by simp only [bu] at h;omega),←AQ f.Body,hd]
  exact and_congr_left fun _=>⟨fun g=>g _ hq,fun g q hq'=>by rw [hq] at hq';cases hq';exact g⟩
theorem OA{p:Program}{F:List Level}(h:F.length=p.Funcs.length):vi n V T p F↔∀ x∈sF n V p F,T x.s x.pl:=by
 unfold vi sF
 rw [zd,←Oz p.Funcs 0 0 (by omega),←AQ p.Main]
end
variable [Lp]
section
variable {p:Program}(h:pJ p)(ho:EV p){V F:List Level}(hV:eF p V F){σ:Type}(dof:Nat→Stmt→Level→σ→Option σ)
theorem WM{i:Int}{s:Stmt}(h:bO p i s=0)(hk:¬7≤s.Kind):s.Then=[]∧s.Else=[]:=by
 have hk0:s.Kind<7:=by omega
 unfold bO at h
 split at h
 ·exact absurd h (by decide)
 split at h
 ·exact absurd h (by decide)
 split at h
 ·exact absurd h (by decide)
 ·rename_i h3
  constructor
  ·rcases tI s.Then.length with hz | hz
   ·exact vN.1 hz
   ·exact absurd (.inr (.inr (.inr (.inr (.inl ⟨hk0,hz⟩))))) h3
  ·rcases tI s.Else.length with hz | hz
   ·exact vN.1 hz
   ·exact absurd (.inr (.inr (.inr (.inr (.inr ⟨by omega,hz⟩))))) h3
include h ho hV
theorem RH(i:Nat):bA (MM p) (F.getD i (iF (MM p))):=by
 rw [cb]
 cases hq:F[i]? with
 | none=>exact mS _
 | some q=>exact Du hV.fs hq
omit h ho hV in
mutual
theorem ack{i:Nat}(hi:i≤p.Funcs.length):∀ (st:Stmt)(a:Nat)(pl:Level),vf (bO p i) st=0→bA (MM p) pl→∀ x∈B0 (MM p) V st a pl,(∃ i:Nat,i≤p.Funcs.length∧bO p i x.s=0)∧bA (MM p) x.pl
 | ⟨k,v,o,e,args,th,el⟩,a,pl,he,hpl,x,hx=>by
  obtain ⟨e1,e2,e3⟩:=FJ he
  rw [Dw] at hx
  rcases cR.1 hx with rfl | hx
  ·exact ⟨⟨i,hi,e1⟩,hpl⟩
  ·split at hx
   ·have hsz:=et (MM p) pl (km (MM p) V e)
    rcases bU.1 hx with hx | hx
    ·exact Dx hi th _ _ e2 hsz x hx
    ·exact Dx hi el _ _ e3 hsz x hx
   ·exact absurd hx (by simp)
theorem Dx{i:Nat}(hi:i≤p.Funcs.length):∀ (l:List Stmt)(a:Nat)(pl:Level),dj (bO p i) l=0→bA (MM p) pl→∀ x∈mT (MM p) V l a pl,(∃ i:Nat,i≤p.Funcs.length∧bO p i x.s=0)∧bA (MM p) x.pl
 | [],a,pl,he,hpl,x,hx=>by rw [mT] at hx;exact absurd hx (by simp)
 | y::r,a,pl,he,hpl,x,hx=>by
  have he1:=BB he y (by simp)
  have he2:dj (bO p i) r=0:=by
   rw [dj,ad (by simp [he1])] at he;exact he
  rw [mT] at hx
  rcases bU.1 hx with hx | hx
  ·exact ack hi y _ _ he1 hpl x hx
  ·exact Dx hi r _ _ he2 hpl x hx
end
omit h ho hV in
mutual
theorem WN:∀ (st:Stmt)(a:Nat)(pl:Level),(B0 (MM p) V st a pl).length≤sA st
 | ⟨k,v,o,e,args,th,el⟩,a,pl=>by
  have hc:=AK ⟨k,v,o,e,args,th,el⟩
  simp only at hc
  rw [Dw,bu]
  split
  ·have h1:=AR th (a+1) (cZ (MM p) pl (km (MM p) V e))
   have h2:=AR el (a+1+br th) (cZ (MM p) pl (km (MM p) V e))
   rw [cH];simp only;omega
  ·simp;omega
theorem AR:∀ (l:List Stmt)(a:Nat)(pl:Level),(mT (MM p) V l a pl).length≤br l
 | [],a,pl=>by rw [mT];simp
 | y::r,a,pl=>by
  have h1:=WN y a pl
  have h2:=AR r (a+sA y) pl
  rw [mT,cH,br];omega
end
theorem RI:∀ (rest:List Func)(i a:Nat),p.Funcs.drop i=rest→∀ x∈wX (MM p) V F rest i a,(∃ i:Nat,i≤p.Funcs.length∧bO p i x.s=0)∧bA (MM p) x.pl
 | [],i,a,hd,x,hx=>absurd hx (by simp [wX])
 | f::rest,i,a,hd,x,hx=>by
  obtain ⟨hg,hd2,hi,hfn⟩:=Ja h ho hd
  obtain ⟨_,_,f3,_⟩:=Hk hfn
  rw [wX] at hx
  rcases bU.1 hx with hx | hx
  ·exact Dx (by omega) f.Body _ _ f3 (RH h ho hV i) x hx
  ·exact RI rest (i+1) _ hd2 x hx
theorem JY:∀ x∈sF (MM p) V p F,(∃ i:Nat,i≤p.Funcs.length∧bO p i x.s=0)∧bA (MM p) x.pl:=by
 intro x hx
 unfold sF at hx
 rcases bU.1 hx with hx | hx
 ·exact RI h ho hV p.Funcs 0 0 rfl x hx
 ·exact Dx (aS _) p.Main _ _ ho.mains (mS _) x hx
omit h ho hV in
theorem OB:∀ (l:List Func)(i a:Nat),(wX (MM p) V F l i a).length≤iG l
 | [],i,a=>by simp [wX]
 | f::r,i,a=>by
  have h1:=AR (p:=p) (V:=V) f.Body a (F.getD i (iF (MM p)))
  have h2:=OB r (i+1) (a+br f.Body)
  have hsum:iG (f::r)=br f.Body+iG r:=by simp [iG]
  rw [wX,cH,hsum];omega
theorem PR:(sF (MM p) V p F).length≤50:=by
 have hsum:=ho.sum
 have h1:=OB (p:=p) (V:=V) (F:=F) p.Funcs 0 0
 have h2:=AR (p:=p) (V:=V) p.Main (iG p.Funcs) (iF (MM p))
 have h3:iG p.Funcs+br p.Main≤50:=hsum
 unfold sF
 rw [cH]
 omega
end
end Go.Proofs.YtkkkkondjclcnaaGreat.A
