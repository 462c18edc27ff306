/- actors and labels of a program: what their checks answer. -/
import Derived.Test.YtlmphbbhaeampaaGreatBase
import Derived.Test.YtlmphbbhaeampaaGreatFE
set_option linter.all false
namespace Go.Proofs.YtlmphbbhaeampaaGreat.A
open Go
def dk(m n:Int):Bool:=decide (0≤n∧n<m)
def vn(m:Int)(g:dv):Bool:=!dk m g.Who||!dk m g.For
def jV(a:an):Int:=if a.Many<1∨6<a.Many then 3 else if 20<a.Grants.length then 2 else if a.Grants.any (vn a.Many) then 5 else 0
theorem oY{a:an}(h:jV a=0):1≤a.Many∧a.Many≤6∧a.Grants.length≤20∧∀ g∈a.Grants,(0≤g.Who∧g.Who<a.Many)∧0≤g.For∧g.For<a.Many:=by
 grind [jV,vn,dk]
variable [Lp]
theorem Mz(a:an)(n:Int):kv a n=some (dk a.Many n):=by
 grind [kv,dk]
theorem T7(a:an)(g:dv):mC g a=some (vn a.Many g):=by
 grind [mC,vn,Mz]
theorem V6(a:an):rA a=some (jV a):=by
 unfold rA jV
 by_cases h1:a.Many<1
 ·simp [h1]
 by_cases h2:6<a.Many
 ·simp [h1,h2]
 by_cases h3:20<a.Grants.length
 ·grind
 have d:¬(20:Int)<(a.Grants.length:Int):=by omega
 have hc:fB a.Grants a=some (a.Grants.any (vn a.Many)):=pj (fun y=>mC y a) (vn a.Many) a.Grants (by omega) (fun y _=>T7 a y)
 grind
variable {α ε:Type}{B:α→Option (α⊕ε)}{x y:ε}
theorem O8(n s:Nat)(p:Nat→Bool)(f:Nat→α)(hs:s≤n)(h0:∀ k,s≤k→k<n→p k=false→B (f k)=some (.inl (f (k+1))))(h1:∀ k,s≤k→k<n→p k=true→B (f k)=some (.inr x))(he:B (f n)=some (.inr y)):
  lp B (f s)=some (if (List.range' s (n - s)).any p then x else y):=by
 have:∀ m k,s≤k→k+m=n→lp B (f k)=some (if (List.range' k m).any p then x else y):=by
  intro m
  induction m with
  | zero=>grind [gJ]
  | succ m ih=>
   grind [List.range'_succ,gJ,mh]
 grind
theorem V7(n:Nat)(p:Nat→Bool)(f:Nat→α)(h0:∀ k,k<n→p k=false→B (f k)=some (.inl (f (k+1))))(h1:∀ k,k<n→p k=true→B (f k)=some (.inr x))(he:B (f n)=some (.inr y)):
  lp B (f 0)=some (if (List.range n).any p then x else y):=by
 have h:=O8 n 0 p f (dy _) (fun k _=>h0 k) (fun k _=>h1 k) he
 grind
variable {β:Type}
theorem T8(es:List β)(q:β→Option ε)(f:Nat→α)(h0:∀ k (h:k<es.length),q es[k]=none→B (f k)=some (.inl (f (k+1))))(h1:∀ k (h:k<es.length) x,q es[k]=some x→B (f k)=some (.inr x))(he:B (f es.length)=some (.inr y)):
  lp B (f 0)=some ((es.findSome? q).getD y):=by
 have:∀ m k,k+m=es.length→lp B (f k)=some (((es.drop k).findSome? q).getD y):=by
  intro m
  induction m with
  | zero=>grind [gJ]
  | succ m ih=>
   grind [List.drop_eq_getElem_cons,gJ,mh]
 simp_all
def desc(l:List Int):Bool:=(List.range' 1 (l.length - 1)).any fun k=>decide (l.getD k 0≤l.getD (k - 1) 0)
theorem Vv(k:Nat)(h1:1≤k)(h:k<4611686018427387904):IntKind.i64.wrap ((k:Int) - 1)=(k:Int) - 1∧cV ((k:Int) - 1)=some (k - 1):=by
 grind [wrap64,cA]
theorem Sh(p:cb)(h6:p.Names.length≤6):∃ z,lp (fun v=>fV p v) 1=some (if desc p.Names then .inl () else .inr z):=by
 by_cases h:p.Names.length=0
 ·simp_all [desc,gJ,fV]
 ·refine ⟨(p.Names.length,false),?_⟩
  exact O8 (B:=fun v=>fV p v) p.Names.length 1 (fun k=>decide (p.Names.getD k 0≤p.Names.getD (k - 1) 0)) id (by omega)
   ((by grind [Vv,fV,kt]))
   ((by grind [Vv,fV]))
   (by simp [fV])
def fH(m:Int)(p:cb):Int:=
 if dk m p.Owner=false then 5 else if 6<p.Names.length then 2 else if p.Names.any (fun n=>!dk m n) then 5 else if desc p.Names then 4 else 0
variable {m:Int}
theorem HT{p:cb}(h:fH m p=0):dk m p.Owner=true∧p.Names.length≤6∧∀ n∈p.Names,dk m n=true:=by
 grind [fH]
theorem MA(a:an)(p:cb):rD a p=some (fH a.Many p):=by
 unfold rD fH
 rw [Mz,ad]
 cases h1:dk a.Many p.Owner with
 | false=>simp
 | true=>
  by_cases h2:6<p.Names.length
  ·grind
  ·have b:¬(6:Int)<(p.Names.length:Int):=by omega
   have hc:fC p.Names a=some (p.Names.any (fun n=>!dk a.Many n)):=pj (fun y=>pq y a) _ p.Names (by omega) (fun y _=>by simp [pq,Mz])
   grind [Sh]
def c8{β:Type}(f:β→Int)(l:List β):Int:=(l.findSome? fun x=>if f x≠0 then some (f x) else none).getD 0
def vX(m:Int)(ps:List cb):Int:=if 4<ps.length then 2 else c8 (fH m) ps
def kx(m:Int)(l:Label):Int:=if vX m l.Read≠0 then vX m l.Read else vX m l.Write
theorem pJ{f:β→Int}{l:List β}(h:c8 f l=0):∀ x∈l,f x=0:=by
 unfold c8 at h
 cases hq:l.findSome? (fun x=>if f x≠0 then some (f x) else none) with
 | some y=>
  rw [hq] at h
  obtain ⟨x,_,hx⟩:=JK hq
  grind
 | none=>
  grind
theorem yJ{ps:List cb}(h:vX m ps=0):ps.length≤4∧∀ p∈ps,fH m p=0:=by
 grind [vX,pJ]
theorem vo{l:Label}(h:kx m l=0):vX m l.Read=0∧vX m l.Write=0:=by
 grind [kx]
theorem HU(a:an)(l:Label)(i:Nat)(ps:List cb)(h4:ps.length≤4):lp (fun v=>iQ a ps v) 0=some (if c8 (fH a.Many) ps≠0 then .inl (c8 (fH a.Many) ps) else .inr (ps.length,false)):=by
 have h:=T8 (B:=fun v=>iQ a ps v) ps (fun p=>if fH a.Many p≠0 then some (.inl (fH a.Many p)) else none) id (y:=.inr (ps.length,false))
  ((by grind [iQ,MA,kt]))
  ((by grind [iQ,MA]))
  (by simp [iQ])
 have h':lp (fun v=>iQ a ps v) 0=_:=h
 rw [h']
 congr 1
 unfold c8
 have he:(ps.findSome? fun p=>if fH a.Many p≠0 then some ((.inl (fH a.Many p)):Int⊕(Nat×Bool)) else none)=(ps.findSome? fun p=>if fH a.Many p≠0 then some (fH a.Many p) else none).map .inl:=by
  clear h h' h4
  induction ps with
  | nil=>rfl
  | cons p ps ih=>
   grind
 rw [he]
 cases hq:ps.findSome? (fun p=>if fH a.Many p≠0 then some (fH a.Many p) else none) with
 | none=>simp
 | some y=>
  obtain ⟨x,_,hx⟩:=JK hq
  grind
theorem Si(a:an)(l:Label):qR a l=some (kx a.Many l):=by
 have w0:IntKind.i64.wrap 1=1:=by decide
 have w1:IntKind.i64.wrap 2=2:=by decide
 unfold qR kx vX
 by_cases h1:4<l.Read.length
 ·have:lp (fun v=>cZ a l v) 0=some (.inl ()):=by grind [gJ,cZ]
  simp [this,h1]
 have c:¬(4:Int)<(l.Read.length:Int):=by omega
 have i1:=HU a l 0 l.Read (by omega)
 by_cases e1:c8 (fH a.Many) l.Read=0
 ·have n1:lp (fun v=>cZ a l v) 0=lp (fun v=>cZ a l v) 1:=mh (by
   simp only [e1,ne_eq,uJ,cF] at i1
   simp [cZ,c,i1,w0])
  rw [n1]
  by_cases h2:4<l.Write.length
  ·have:lp (fun v=>cZ a l v) 1=some (.inl ()):=by grind [gJ,cZ]
   grind
  have b:¬(4:Int)<(l.Write.length:Int):=by omega
  have i2:=HU a l 1 l.Write (by omega)
  by_cases e2:c8 (fH a.Many) l.Write=0
  ·have n2:lp (fun v=>cZ a l v) 1=lp (fun v=>cZ a l v) 2:=mh (by
    simp only [e2,ne_eq,uJ,cF] at i2
    simp [cZ,b,i2,w1])
   simp_all [cZ,gJ]
  ·have n2:lp (fun v=>cZ a l v) 1=some (.inr (.inl (c8 (fH a.Many) l.Write))):=gJ (by
    simp only [ne_eq,e2,zA,aA] at i2
    simp [cZ,b,i2])
   grind
 ·have n1:lp (fun v=>cZ a l v) 0=some (.inr (.inl (c8 (fH a.Many) l.Read))):=gJ (by
   simp only [ne_eq,e1,zA,aA] at i1
   simp [cZ,c,i1])
  simp [n1,h1,e1]
theorem vY{n:Int}: dk m n=true↔0≤n∧n<m:=by simp [dk]
end Go.Proofs.YtlmphbbhaeampaaGreat.A
