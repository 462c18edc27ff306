/- actors and labels of a program: what their checks answer. -/
import Derived.Test.YtkkkkondjclcnaaGreatLift
import Derived.Test.YtkkkkondjclcnaaGreatFE
set_option linter.all false
namespace Go.Proofs.YtkkkkondjclcnaaGreat.A
open Go
def bN(m n:Int):Bool:=decide (0≤n∧n<m)
def ku(m:Int)(g:cB):Bool:=!bN m g.Who||!bN m g.For
def eL(a:ah):Int:=if a.Many<1∨6<a.Many then 3 else if 20<a.Grants.length then 2 else if a.Grants.any (ku a.Many) then 5 else 0
theorem lj{a:ah}(h:eL a=0):1≤a.Many∧a.Many≤6∧a.Grants.length≤20∧∀ g∈a.Grants,(0≤g.Who∧g.Who<a.Many)∧0≤g.For∧g.For<a.Many:=by
 unfold eL at h
 split at h
 ·cases h
 split at h
 ·cases h
 split at h
 ·cases h
 rename_i h1 h2 h3
 refine ⟨by omega,by omega,by omega,fun g hg=>?_⟩
 have:¬ku a.Many g=true:=fun hb=>h3 (lD.2 ⟨g,hg,hb⟩)
 simpa [ku,bN] using this
variable [Lp]
theorem Ml(a:ah)(n:Int):lh a n=some (bN a.Many n):=by
 unfold lh bN
 by_cases h:0≤n<;>simp [h]
theorem TM(a:ah)(g:cB):lO g a=some (ku a.Many g):=by
 unfold lO ku
 rw [Ml,Ml]
 cases bN a.Many g.Who<;>simp
theorem Wm(a:ah):rj a=some (eL a):=by
 unfold rj eL
 by_cases h1:a.Many<1
 ·simp [h1]
 by_cases h2:6<a.Many
 ·simp [h1,h2]
 by_cases h3:20<a.Grants.length
 ·have h3':(20:Int)<(a.Grants.length:Int):=by omega
  simp [h1,h2,h3,h3']
 have h3':¬(20:Int)<(a.Grants.length:Int):=by omega
 have hc:eZ a.Grants a=some (a.Grants.any (ku a.Many)):=sZ (fun y=>lO y a) (ku a.Many) a.Grants (by omega) (fun y _=>TM a y)
 rw [ab h1,ab h2,ab h3',hc]
 cases hb:a.Grants.any (ku a.Many)<;>simp [h1,h2,h3]
theorem Jc{α ε:Type}{B:α→Option (α⊕ε)}(n s:Nat)(p:Nat→Bool)(f:Nat→α){x y:ε}(hs:s≤n)(h0:∀ k,s≤k→k<n→p k=false→B (f k)=some (.inl (f (k+1))))(h1:∀ k,s≤k→k<n→p k=true→B (f k)=some (.inr x))(he:B (f n)=some (.inr y)) :
  lp B (f s)=some (if (List.range' s (n - s)).any p then x else y):=by
 have:∀ m k,s≤k→k+m=n→lp B (f k)=some (if (List.range' k m).any p then x else y):=by
  intro m
  induction m with
  | zero=>
    intro k _ hk;obtain rfl:k=n:=by omega
    exact iI he
  | succ m ih=>
   intro k hsk hk
   rw [zk,vz]
   cases hp:p k with
   | true=>exact iI (h1 k hsk (by omega) hp)
   | false=>rw [mi (h0 k hsk (by omega) hp),ih (k+1) (by omega) (by omega)];rfl
 exact this (n - s) s (aT _) (by omega)
theorem Wn{α ε:Type}{B:α→Option (α⊕ε)}(n:Nat)(p:Nat→Bool)(f:Nat→α){x y:ε}(h0:∀ k,k<n→p k=false→B (f k)=some (.inl (f (k+1))))(h1:∀ k,k<n→p k=true→B (f k)=some (.inr x))(he:B (f n)=some (.inr y)) :
  lp B (f 0)=some (if (List.range n).any p then x else y):=by
 have h:=Jc n 0 p f (b9 _) (fun k _=>h0 k) (fun k _=>h1 k) he
 rw [vD];exact h
theorem Mm{α ε β:Type}{B:α→Option (α⊕ε)}(es:List β)(q:β→Option ε)(f:Nat→α){y:ε}(h0:∀ k (h:k<es.length),q es[k]=none→B (f k)=some (.inl (f (k+1))))(h1:∀ k (h:k<es.length) x,q es[k]=some x→B (f k)=some (.inr x))(he:B (f es.length)=some (.inr y)) :
  lp B (f 0)=some ((es.findSome? q).getD y):=by
 have:∀ m k,k+m=es.length→lp B (f k)=some (((es.drop k).findSome? q).getD y):=by
  intro m
  induction m with
  | zero=>
    intro k hk;obtain rfl:k=es.length:=by omega
    rw [zd];exact iI he
  | succ m ih=>
   intro k hk
   have hlt:k<es.length:=by omega
   rw [kg hlt,zq]
   cases hq:q es[k] with
   | some x=>exact iI (h1 k hlt x hq)
   | none=>rw [mi (h0 k hlt hq)];exact ih (k+1) (by omega)
 exact this es.length 0 (by omega)
def desc(l:List Int):Bool:=(List.range' 1 (l.length - 1)).any fun k=>decide (l.getD k 0≤l.getD (k - 1) 0)
theorem qG{l:List Int}{k:Nat}(h:k<l.length):l[k]? =some (l.getD k 0):=by
 rw [cp,aA h];rfl
theorem Lh(k:Nat)(h1:1≤k)(h:k<4611686018427387904):IntKind.i64.wrap ((k:Int) - 1)=(k:Int) - 1∧eI ((k:Int) - 1)=some (k - 1):=by
 refine ⟨wrap64 (by omega) (by omega),?_⟩
 rw [dP (by omega)];congr 1;omega
theorem Rx(p:br)(h6:p.Names.length≤6):∃ z,lp (fun v=>fv p v) 1=some (if desc p.Names then .inl () else .inr z):=by
 by_cases h:p.Names.length=0
 ·refine ⟨(1,false),?_⟩
  rw [show desc p.Names=false by simp [desc,h]]
  exact iI (by simp [fv,h])
 ·refine ⟨(p.Names.length,false),?_⟩
  exact Jc (B:=fun v=>fv p v) p.Names.length 1 (fun k=>decide (p.Names.getD k 0≤p.Names.getD (k - 1) 0)) id (by omega)
   (fun k h1 hk hp=>by
    have hp':¬p.Names.getD k 0≤p.Names.getD (k - 1) 0:=by simpa using hp
    obtain ⟨hw,hn⟩:=Lh k h1 (by omega)
    simp only [fv,id,show (k:Int)<(p.Names.length:Int) by omega,an,qG hk,ae,hw,hn,qG (show k - 1<p.Names.length by omega),hp',aI,fM k (by omega)])
   (fun k h1 hk hp=>by
    have hp':p.Names.getD k 0≤p.Names.getD (k - 1) 0:=by simpa using hp
    obtain ⟨hw,hn⟩:=Lh k h1 (by omega)
    simp only [fv,id,show (k:Int)<(p.Names.length:Int) by omega,an,qG hk,ae,hw,hn,qG (show k - 1<p.Names.length by omega),hp'])
   (by simp [fv])
def cj(m:Int)(p:br):Int:=
 if bN m p.Owner=false then 5 else if 6<p.Names.length then 2 else if p.Names.any (fun n=>!bN m n) then 5 else if desc p.Names then 4 else 0
theorem Hp{m:Int}{p:br}(h:cj m p=0):bN m p.Owner=true∧p.Names.length≤6∧∀ n∈p.Names,bN m n=true:=by
 unfold cj at h
 split at h
 ·cases h
 split at h
 ·cases h
 split at h
 ·cases h
 rename_i h1 h2 h3
 refine ⟨by simpa using h1,by omega,fun n hn=>?_⟩
 cases hi:bN m n with
 | true=>rfl
 | false=>exact absurd (lD.2 ⟨n,hn,by rw [hi];rfl⟩) h3
theorem Mn(a:ah)(p:br):rp a p=some (cj a.Many p):=by
 unfold rp cj
 rw [Ml,ae]
 cases h1:bN a.Many p.Owner with
 | false=>simp
 | true=>
  by_cases h2:6<p.Names.length
  ·simp [h2,show (6:Int)<(p.Names.length:Int) by omega]
  ·have h2':¬(6:Int)<(p.Names.length:Int):=by omega
   have hc:e7 p.Names a=some (p.Names.any (fun n=>!bN a.Many n)):=sZ (fun y=>oy y a) _ p.Names (by omega) (fun y _=>by simp [oy,Ml])
   obtain ⟨z,hz⟩:=Rx p (by omega)
   simp only [an,h2',aI,hc,ae,hz,h2,zr]
   cases p.Names.any (fun n=>!bN a.Many n) with
   | true=>simp
   | false=>cases desc p.Names<;>simp
def bK{β:Type}(f:β→Int)(l:List β):Int:=(l.findSome? fun x=>if f x≠0 then some (f x) else none).getD 0
def sJ(m:Int)(ps:List br):Int:=if 4<ps.length then 2 else bK (cj m) ps
def dC(m:Int)(l:Label):Int:=if sJ m l.Read≠0 then sJ m l.Read else sJ m l.Write
theorem oP{β:Type}{f:β→Int}{l:List β}(h:bK f l=0):∀ x∈l,f x=0:=by
 unfold bK at h
 cases hq:l.findSome? (fun x=>if f x≠0 then some (f x) else none) with
 | some y=>
  rw [hq] at h
  obtain ⟨x,_,hx⟩:=JE hq
  split at hx
  ·rename_i h1
   obtain rfl:=ad hx
   exact absurd h h1
  ·cases hx
 | none=>
  intro x hx
  have:=List.findSome?_eq_none_iff.1 hq x hx
  split at this
  ·cases this
  ·rename_i h1;exact vH.1 h1
theorem BP{m:Int}{ps:List br}(h:sJ m ps=0):ps.length≤4∧∀ p∈ps,cj m p=0:=by
 unfold sJ at h
 split at h
 ·cases h
 ·exact ⟨by omega,oP h⟩
theorem BQ{m:Int}{l:Label}(h:dC m l=0):sJ m l.Read=0∧sJ m l.Write=0:=by
 unfold dC at h
 split at h
 ·rename_i h1;exact absurd h h1
 ·rename_i h1;exact ⟨vH.1 h1,h⟩
theorem Hq(a:ah)(l:Label)(i:Nat)(ps:List br)(h4:ps.length≤4):lp (fun v=>im a l i ps v) 0=some (if bK (cj a.Many) ps≠0 then .inl (bK (cj a.Many) ps) else .inr (ps.length,false)):=by
 have h:=Mm (B:=fun v=>im a l i ps v) ps (fun p=>if cj a.Many p≠0 then some (.inl (cj a.Many p)) else none) id (y:=.inr (ps.length,false))
  (fun k hk hq=>by
   have h0:cj a.Many ps[k]=0:=by
    apply km
    intro h
    rw [aa h] at hq;cases hq
   simp [im,hk,Mn,h0,fM k (by omega)])
  (fun k hk x hq=>by
   by_cases h:cj a.Many ps[k]=0
   ·rw [ab (by simpa using h)] at hq;cases hq
   ·rw [aa h] at hq
    obtain rfl:=ad hq
    simp [im,hk,Mn,h])
  (by simp [im])
 have h':lp (fun v=>im a l i ps v) 0=_:=h
 rw [h']
 congr 1
 unfold bK
 have he:(ps.findSome? fun p=>if cj a.Many p≠0 then some ((.inl (cj a.Many p)):Int⊕(Nat×Bool)) else none)=(ps.findSome? fun p=>if cj a.Many p≠0 then some (cj a.Many p) else none).map .inl:=by
  clear h h' h4
  induction ps with
  | nil=>rfl
  | cons p ps ih=>
   simp only [zq]
   by_cases h:cj a.Many p≠0
   ·simp only [aa h];rfl
   ·simp only [ab h];exact ih
 rw [he]
 cases hq:ps.findSome? (fun p=>if cj a.Many p≠0 then some (cj a.Many p) else none) with
 | none=>simp
 | some y=>
  obtain ⟨x,_,hx⟩:=JE hq
  have hy:y≠0:=by
   split at hx
   ·rename_i h1;obtain rfl:=ad hx;exact h1
   ·cases hx
  simp [hy]
theorem Ry(a:ah)(l:Label):qB a l=some (dC a.Many l):=by
 have w0:IntKind.i64.wrap 1=1:=by decide
 have w1:IntKind.i64.wrap 2=2:=by decide
 unfold qB dC sJ
 by_cases h1:4<l.Read.length
 ·have:lp (fun v=>cA a l v) 0=some (.inl ()):=iI (by simp [cA,show (4:Int)<(l.Read.length:Int) by omega])
  simp [this,h1]
 have h1':¬(4:Int)<(l.Read.length:Int):=by omega
 have i1:=Hq a l 0 l.Read (by omega)
 by_cases e1:bK (cj a.Many) l.Read=0
 ·have n1:lp (fun v=>cA a l v) 0=lp (fun v=>cA a l v) 1:=mi (by
   simp only [e1,ne_eq,qb,aI] at i1
   simp [cA,h1',i1,w0])
  rw [n1]
  by_cases h2:4<l.Write.length
  ·have:lp (fun v=>cA a l v) 1=some (.inl ()):=iI (by simp [cA,show (4:Int)<(l.Write.length:Int) by omega])
   simp [this,h1,h2,e1]
  have h2':¬(4:Int)<(l.Write.length:Int):=by omega
  have i2:=Hq a l 1 l.Write (by omega)
  by_cases e2:bK (cj a.Many) l.Write=0
  ·have n2:lp (fun v=>cA a l v) 1=lp (fun v=>cA a l v) 2:=mi (by
    simp only [e2,ne_eq,qb,aI] at i2
    simp [cA,h2',i2,w1])
   have n3:lp (fun v=>cA a l v) 2=some (.inr (.inr (2,false))):=iI (by simp [cA])
   simp [n2,n3,h1,h2,e1,e2]
  ·have n2:lp (fun v=>cA a l v) 1=some (.inr (.inl (bK (cj a.Many) l.Write))):=iI (by
    simp only [ne_eq,e2,pS,an] at i2
    simp [cA,h2',i2])
   simp [n2,h1,h2,e1]
 ·have n1:lp (fun v=>cA a l v) 0=some (.inr (.inl (bK (cj a.Many) l.Read))):=iI (by
   simp only [ne_eq,e1,pS,an] at i1
   simp [cA,h1',i1])
  simp [n1,h1,e1]
theorem Ao{m n:Int} : bN m n=true↔0≤n∧n<m:=by simp [bN]
end Go.Proofs.YtkkkkondjclcnaaGreat.A
