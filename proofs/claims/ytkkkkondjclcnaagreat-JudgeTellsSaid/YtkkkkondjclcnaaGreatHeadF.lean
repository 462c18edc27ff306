/- actors and labels of a program: what their checks answer. -/
import Derived.Test.YtkkkkondjclcnaaGreatBase
import Derived.Test.YtkkkkondjclcnaaGreatFE
set_option linter.all false
namespace Go.Proofs.YtkkkkondjclcnaaGreat.A
open Go
def cw(m n:Int):Bool:=decide (0≤n∧n<m)
def qv(m:Int)(g:dv):Bool:=!cw m g.Who||!cw m g.For
def iG(a:ak):Int:=if a.Many<1∨6<a.Many then 3 else if 20<a.Grants.length then 2 else if a.Grants.any (qv a.Many) then 5 else 0
theorem my{a:ak}(h:iG a=0):1≤a.Many∧a.Many≤6∧a.Grants.length≤20∧∀ g∈a.Grants,(0≤g.Who∧g.Who<a.Many)∧0≤g.For∧g.For<a.Many:=by
 grind [iG,qv,cw]
variable [Lp]
theorem Tb(a:ak)(n:Int):mx a n=some (cw a.Many n):=by
 grind [mx,cw]
theorem WB(a:ak)(g:dv):na g a=some (qv a.Many g):=by
 grind [na,qv,Tb]
theorem Zr(a:ak):tj a=some (iG a):=by
 unfold tj iG
 by_cases h1:a.Many<1
 ·simp [h1]
 by_cases h2:6<a.Many
 ·simp [h1,h2]
 by_cases h3:20<a.Grants.length
 ·grind
 have d:¬(20:Int)<(a.Grants.length:Int):=by omega
 have hc:gD a.Grants a=some (a.Grants.any (qv a.Many)):=xc (fun y=>na y a) (qv a.Many) a.Grants (by omega) (fun y _=>WB a y)
 grind
variable {α ε:Type}{B:α→Option (α⊕ε)}{x y:ε}
theorem LK(n s:Nat)(p:Nat→Bool)(f:Nat→α)(hs:s≤n)(h0:∀ k,s≤k→k<n→p k=false→B (f k)=some (.inl (f (k+1))))(h1:∀ k,s≤k→k<n→p k=true→B (f k)=some (.inr x))(he:B (f n)=some (.inr y)):
  lp B (f s)=some (if (List.range' s (n - s)).any p then x else y):=by
 have:∀ m k,s≤k→k+m=n→lp B (f k)=some (if (List.range' k m).any p then x else y):=by
  intro m
  induction m with
  | zero=>grind [jQ]
  | succ m ih=>
   grind [List.range'_succ,jQ,nJ]
 grind
theorem Zs(n:Nat)(p:Nat→Bool)(f:Nat→α)(h0:∀ k,k<n→p k=false→B (f k)=some (.inl (f (k+1))))(h1:∀ k,k<n→p k=true→B (f k)=some (.inr x))(he:B (f n)=some (.inr y)):
  lp B (f 0)=some (if (List.range n).any p then x else y):=by
 have h:=LK n 0 p f (dc _) (fun k _=>h0 k) (fun k _=>h1 k) he
 grind
variable {β:Type}
theorem O9(es:List β)(q:β→Option ε)(f:Nat→α)(h0:∀ k (h:k<es.length),q es[k]=none→B (f k)=some (.inl (f (k+1))))(h1:∀ k (h:k<es.length) x,q es[k]=some x→B (f k)=some (.inr x))(he:B (f es.length)=some (.inr y)):
  lp B (f 0)=some ((es.findSome? q).getD y):=by
 have:∀ m k,k+m=es.length→lp B (f k)=some (((es.drop k).findSome? q).getD y):=by
  intro m
  induction m with
  | zero=>grind [jQ]
  | succ m ih=>
   grind [List.drop_eq_getElem_cons,jQ,nJ]
 simp_all
def desc(l:List Int):Bool:=(List.range' 1 (l.length - 1)).any fun k=>decide (l.getD k 0≤l.getD (k - 1) 0)
theorem N4(k:Nat)(h1:1≤k)(h:k<4611686018427387904):IntKind.i64.wrap ((k:Int) - 1)=(k:Int) - 1∧dV ((k:Int) - 1)=some (k - 1):=by
 grind [wrap64,cX]
theorem UX(p:bz)(h6:p.Names.length≤6):∃ z,lp (fun v=>gY p v) 1=some (if desc p.Names then .inl () else .inr z):=by
 by_cases h:p.Names.length=0
 ·simp_all [desc,jQ,gY]
 ·refine ⟨(p.Names.length,false),?_⟩
  exact LK (B:=fun v=>gY p v) p.Names.length 1 (fun k=>decide (p.Names.getD k 0≤p.Names.getD (k - 1) 0)) id (by omega)
   ((by grind [N4,gY,gJ]))
   ((by grind [N4,gY]))
   (by simp [gY])
def cS(m:Int)(p:bz):Int:=
 if cw m p.Owner=false then 5 else if 6<p.Names.length then 2 else if p.Names.any (fun n=>!cw m n) then 5 else if desc p.Names then 4 else 0
variable {m:Int}
theorem wx{p:bz}(h:cS m p=0):cw m p.Owner=true∧p.Names.length≤6∧∀ n∈p.Names,cw m n=true:=by
 grind [cS]
theorem Pa(a:ak)(p:bz):tn a p=some (cS a.Many p):=by
 unfold tn cS
 rw [Tb,ad]
 cases h1:cw a.Many p.Owner with
 | false=>simp
 | true=>
  by_cases h2:6<p.Names.length
  ·grind
  ·have b:¬(6:Int)<(p.Names.length:Int):=by omega
   have hc:gE p.Names a=some (p.Names.any (fun n=>!cw a.Many n)):=xc (fun y=>qj y a) _ p.Names (by omega) (fun y _=>by simp [qj,Tb])
   grind [UX]
def cj{β:Type}(f:β→Int)(l:List β):Int:=(l.findSome? fun x=>if f x≠0 then some (f x) else none).getD 0
def tB(m:Int)(ps:List bz):Int:=if 4<ps.length then 2 else cj (cS m) ps
def fK(m:Int)(l:Label):Int:=if tB m l.Read≠0 then tB m l.Read else tB m l.Write
theorem qL{f:β→Int}{l:List β}(h:cj f l=0):∀ x∈l,f x=0:=by
 unfold cj at h
 cases hq:l.findSome? (fun x=>if f x≠0 then some (f x) else none) with
 | some y=>
  rw [hq] at h
  obtain ⟨x,_,hx⟩:=Mi hq
  grind
 | none=>
  grind
theorem xy{ps:List bz}(h:tB m ps=0):ps.length≤4∧∀ p∈ps,cS m p=0:=by
 grind [tB,qL]
theorem qw{l:Label}(h:fK m l=0):tB m l.Read=0∧tB m l.Write=0:=by
 grind [fK]
theorem J2(a:ak)(l:Label)(i:Nat)(ps:List bz)(h4:ps.length≤4):lp (fun v=>js a ps v) 0=some (if cj (cS a.Many) ps≠0 then .inl (cj (cS a.Many) ps) else .inr (ps.length,false)):=by
 have h:=O9 (B:=fun v=>js a ps v) ps (fun p=>if cS a.Many p≠0 then some (.inl (cS a.Many p)) else none) id (y:=.inr (ps.length,false))
  ((by grind [js,Pa,gJ]))
  ((by grind [js,Pa]))
  (by simp [js])
 have h':lp (fun v=>js a ps v) 0=_:=h
 rw [h']
 congr 1
 unfold cj
 have he:(ps.findSome? fun p=>if cS a.Many p≠0 then some ((.inl (cS a.Many p)):Int⊕(Nat×Bool)) else none)=(ps.findSome? fun p=>if cS a.Many p≠0 then some (cS a.Many p) else none).map .inl:=by
  clear h h' h4
  induction ps with
  | nil=>rfl
  | cons p ps ih=>
   grind
 rw [he]
 cases hq:ps.findSome? (fun p=>if cS a.Many p≠0 then some (cS a.Many p) else none) with
 | none=>simp
 | some y=>
  obtain ⟨x,_,hx⟩:=Mi hq
  grind
theorem UY(a:ak)(l:Label):sr a l=some (fK a.Many l):=by
 have w0:IntKind.i64.wrap 1=1:=by decide
 have w1:IntKind.i64.wrap 2=2:=by decide
 unfold sr fK tB
 by_cases h1:4<l.Read.length
 ·have:lp (fun v=>c8 a l v) 0=some (.inl ()):=by grind [jQ,c8]
  simp [this,h1]
 have c:¬(4:Int)<(l.Read.length:Int):=by omega
 have i1:=J2 a l 0 l.Read (by omega)
 by_cases e1:cj (cS a.Many) l.Read=0
 ·have n1:lp (fun v=>c8 a l v) 0=lp (fun v=>c8 a l v) 1:=nJ (by
   simp only [e1,ne_eq,vv,bB] at i1
   simp [c8,c,i1,w0])
  rw [n1]
  by_cases h2:4<l.Write.length
  ·have:lp (fun v=>c8 a l v) 1=some (.inl ()):=by grind [jQ,c8]
   grind
  have b:¬(4:Int)<(l.Write.length:Int):=by omega
  have i2:=J2 a l 1 l.Write (by omega)
  by_cases e2:cj (cS a.Many) l.Write=0
  ·have n2:lp (fun v=>c8 a l v) 1=lp (fun v=>c8 a l v) 2:=nJ (by
    simp only [e2,ne_eq,vv,bB] at i2
    simp [c8,b,i2,w1])
   simp_all [c8,jQ]
  ·have n2:lp (fun v=>c8 a l v) 1=some (.inr (.inl (cj (cS a.Many) l.Write))):=jQ (by
    simp only [ne_eq,e2,BA,az] at i2
    simp [c8,b,i2])
   grind
 ·have n1:lp (fun v=>c8 a l v) 0=some (.inr (.inl (cj (cS a.Many) l.Read))):=jQ (by
   simp only [ne_eq,e1,BA,az] at i1
   simp [c8,c,i1])
  simp [n1,h1,e1]
theorem qX{n:Int}: cw m n=true↔0≤n∧n<m:=by simp [cw]
end Go.Proofs.YtkkkkondjclcnaaGreat.A
