/- actors and labels of a program: what their checks answer. -/
import Derived.Test.YtlmphbbhaeampaaGreatBase
import Derived.Test.YtlmphbbhaeampaaGreatFE
set_option linter.all false
namespace Go.Proofs.YtlmphbbhaeampaaGreat.A
open Go
def de(m n:Int):Bool:=decide (0≤n∧n<m)
def qw(m:Int)(g:dO):Bool:=!de m g.Who||!de m g.For
def iw(a:ak):Int:=if a.Many<1∨6<a.Many then 3 else if 20<a.Grants.length then 2 else if a.Grants.any (qw a.Many) then 5 else 0
theorem mU{a:ak}(h:iw a=0):1≤a.Many∧a.Many≤6∧a.Grants.length≤20∧∀ g∈a.Grants,(0≤g.Who∧g.Who<a.Many)∧0≤g.For∧g.For<a.Many:=by
 grind [iw,qw,de]
variable [Lp]
theorem TZ(a:ak)(n:Int):mT a n=some (de a.Many n):=by
 grind [mT,de]
theorem Xx(a:ak)(g:dO):nq g a=some (qw a.Many g):=by
 grind [nq,qw,TZ]
theorem Z3(a:ak):tm a=some (iw a):=by
 unfold tm iw
 by_cases h1:a.Many<1
 ·simp [h1]
 by_cases h2:6<a.Many
 ·simp [h1,h2]
 by_cases h3:20<a.Grants.length
 ·grind
 have d:¬(20:Int)<(a.Grants.length:Int):=by omega
 have hc:gh a.Grants a=some (a.Grants.any (qw a.Many)):=qh (fun y=>nq y a) (qw a.Many) a.Grants (by omega) (fun y _=>Xx a y)
 grind
variable {α ε:Type}{B:α→Option (α⊕ε)}{x y:ε}
theorem MR(n s:Nat)(p:Nat→Bool)(f:Nat→α)(hs:s≤n)(h0:∀ k,s≤k→k<n→p k=false→B (f k)=some (.inl (f (k+1))))(h1:∀ k,s≤k→k<n→p k=true→B (f k)=some (.inr x))(he:B (f n)=some (.inr y)):
  lp B (f s)=some (if (List.range' s (n - s)).any p then x else y):=by
 have:∀ m k,s≤k→k+m=n→lp B (f k)=some (if (List.range' k m).any p then x else y):=by
  intro m
  induction m with
  | zero=>grind [jQ]
  | succ m ih=>
   grind [List.range'_succ,jQ,nV]
 grind
theorem Z4(n:Nat)(p:Nat→Bool)(f:Nat→α)(h0:∀ k,k<n→p k=false→B (f k)=some (.inl (f (k+1))))(h1:∀ k,k<n→p k=true→B (f k)=some (.inr x))(he:B (f n)=some (.inr y)):
  lp B (f 0)=some (if (List.range n).any p then x else y):=by
 have h:=MR n 0 p f (du _) (fun k _=>h0 k) (fun k _=>h1 k) he
 grind
variable {β:Type}
theorem Qc(es:List β)(q:β→Option ε)(f:Nat→α)(h0:∀ k (h:k<es.length),q es[k]=none→B (f k)=some (.inl (f (k+1))))(h1:∀ k (h:k<es.length) x,q es[k]=some x→B (f k)=some (.inr x))(he:B (f es.length)=some (.inr y)):
  lp B (f 0)=some ((es.findSome? q).getD y):=by
 have:∀ m k,k+m=es.length→lp B (f k)=some (((es.drop k).findSome? q).getD y):=by
  intro m
  induction m with
  | zero=>grind [jQ]
  | succ m ih=>
   grind [List.drop_eq_getElem_cons,jQ,nV]
 simp_all
def desc(l:List Int):Bool:=(List.range' 1 (l.length - 1)).any fun k=>decide (l.getD k 0≤l.getD (k - 1) 0)
theorem OT(k:Nat)(h1:1≤k)(h:k<4611686018427387904):IntKind.i64.wrap ((k:Int) - 1)=(k:Int) - 1∧cU ((k:Int) - 1)=some (k - 1):=by
 grind [wrap64,cb]
theorem VY(p:cp)(h6:p.Names.length≤6):∃ z,lp (fun v=>gI p v) 1=some (if desc p.Names then .inl () else .inr z):=by
 by_cases h:p.Names.length=0
 ·simp_all [desc,jQ,gI]
 ·refine ⟨(p.Names.length,false),?_⟩
  exact MR (B:=fun v=>gI p v) p.Names.length 1 (fun k=>decide (p.Names.getD k 0≤p.Names.getD (k - 1) 0)) id (by omega)
   ((by grind [OT,gI,iL]))
   ((by grind [OT,gI]))
   (by simp [gI])
def dx(m:Int)(p:cp):Int:=
 if de m p.Owner=false then 5 else if 6<p.Names.length then 2 else if p.Names.any (fun n=>!de m n) then 5 else if desc p.Names then 4 else 0
variable {m:Int}
theorem wx{p:cp}(h:dx m p=0):de m p.Owner=true∧p.Names.length≤6∧∀ n∈p.Names,de m n=true:=by
 grind [dx]
theorem Qd(a:ak)(p:cp):tr a p=some (dx a.Many p):=by
 unfold tr dx
 rw [TZ,ab]
 cases h1:de a.Many p.Owner with
 | false=>simp
 | true=>
  by_cases h2:6<p.Names.length
  ·grind
  ·have b:¬(6:Int)<(p.Names.length:Int):=by omega
   have hc:gj p.Names a=some (p.Names.any (fun n=>!de a.Many n)):=qh (fun y=>qm y a) _ p.Names (by omega) (fun y _=>by simp [qm,TZ])
   grind [VY]
def cT{β:Type}(f:β→Int)(l:List β):Int:=(l.findSome? fun x=>if f x≠0 then some (f x) else none).getD 0
def tD(m:Int)(ps:List cp):Int:=if 4<ps.length then 2 else cT (dx m) ps
def fw(m:Int)(l:Label):Int:=if tD m l.Read≠0 then tD m l.Read else tD m l.Write
theorem qP{f:β→Int}{l:List β}(h:cT f l=0):∀ x∈l,f x=0:=by
 unfold cT at h
 cases hq:l.findSome? (fun x=>if f x≠0 then some (f x) else none) with
 | some y=>
  rw [hq] at h
  obtain ⟨x,_,hx⟩:=Nr hq
  grind
 | none=>
  grind
theorem yd{ps:List cp}(h:tD m ps=0):ps.length≤4∧∀ p∈ps,dx m p=0:=by
 grind [tD,qP]
theorem qx{l:Label}(h:fw m l=0):tD m l.Read=0∧tD m l.Write=0:=by
 grind [fw]
theorem K0(a:ak)(l:Label)(i:Nat)(ps:List cp)(h4:ps.length≤4):lp (fun v=>jr a ps v) 0=some (if cT (dx a.Many) ps≠0 then .inl (cT (dx a.Many) ps) else .inr (ps.length,false)):=by
 have h:=Qc (B:=fun v=>jr a ps v) ps (fun p=>if dx a.Many p≠0 then some (.inl (dx a.Many p)) else none) id (y:=.inr (ps.length,false))
  ((by grind [jr,Qd,iL]))
  ((by grind [jr,Qd]))
  (by simp [jr])
 have h':lp (fun v=>jr a ps v) 0=_:=h
 rw [h']
 congr 1
 unfold cT
 have he:(ps.findSome? fun p=>if dx a.Many p≠0 then some ((.inl (dx a.Many p)):Int⊕(Nat×Bool)) else none)=(ps.findSome? fun p=>if dx a.Many p≠0 then some (dx a.Many p) else none).map .inl:=by
  clear h h' h4
  induction ps with
  | nil=>rfl
  | cons p ps ih=>
   grind
 rw [he]
 cases hq:ps.findSome? (fun p=>if dx a.Many p≠0 then some (dx a.Many p) else none) with
 | none=>simp
 | some y=>
  obtain ⟨x,_,hx⟩:=Nr hq
  grind
theorem VZ(a:ak)(l:Label):sr a l=some (fw a.Many l):=by
 have w0:IntKind.i64.wrap 1=1:=by decide
 have w1:IntKind.i64.wrap 2=2:=by decide
 unfold sr fw tD
 by_cases h1:4<l.Read.length
 ·have:lp (fun v=>dG a l v) 0=some (.inl ()):=by grind [jQ,dG]
  simp [this,h1]
 have c:¬(4:Int)<(l.Read.length:Int):=by omega
 have i1:=K0 a l 0 l.Read (by omega)
 by_cases e1:cT (dx a.Many) l.Read=0
 ·have n1:lp (fun v=>dG a l v) 0=lp (fun v=>dG a l v) 1:=nV (by
   simp only [e1,ne_eq,xv,cH] at i1
   simp [dG,c,i1,w0])
  rw [n1]
  by_cases h2:4<l.Write.length
  ·have:lp (fun v=>dG a l v) 1=some (.inl ()):=by grind [jQ,dG]
   grind
  have b:¬(4:Int)<(l.Write.length:Int):=by omega
  have i2:=K0 a l 1 l.Write (by omega)
  by_cases e2:cT (dx a.Many) l.Write=0
  ·have n2:lp (fun v=>dG a l v) 1=lp (fun v=>dG a l v) 2:=nV (by
    simp only [e2,ne_eq,xv,cH] at i2
    simp [dG,b,i2,w1])
   simp_all [dG,jQ]
  ·have n2:lp (fun v=>dG a l v) 1=some (.inr (.inl (cT (dx a.Many) l.Write))):=jQ (by
    simp only [ne_eq,e2,BZ,aH] at i2
    simp [dG,b,i2])
   grind
 ·have n1:lp (fun v=>dG a l v) 0=some (.inr (.inl (cT (dx a.Many) l.Read))):=jQ (by
   simp only [ne_eq,e1,BZ,aH] at i1
   simp [dG,c,i1])
  simp [n1,h1,e1]
theorem yN{n:Int}: de m n=true↔0≤n∧n<m:=by simp [de]
end Go.Proofs.YtlmphbbhaeampaaGreat.A
