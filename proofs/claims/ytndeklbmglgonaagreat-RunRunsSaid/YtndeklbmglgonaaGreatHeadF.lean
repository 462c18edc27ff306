/- actors and labels of a program: what their checks answer. -/
import Derived.Test.YtndeklbmglgonaaGreatFinds
import Derived.Test.YtndeklbmglgonaaGreatA
set_option linter.unusedSectionVars false
set_option linter.unusedVariables false
set_option linter.unusedSimpArgs false
set_option linter.constructorNameAsVariable false
namespace Go.Proofs.YtndeklbmglgonaaGreat.A
open Go
def cm(m n:Int):Bool:=decide (0≤n∧n<m)
def gK(m:Int)(g:il):Bool:=!cm m g.Who||!cm m g.For
def fQ(a:an):Int:=if a.Many<1∨6<a.Many then 3 else if 20<a.Grants.length then 2 else if a.Grants.any (gK a.Many) then 5 else 0
theorem yc{a:an}(h:fQ a=0):1≤a.Many∧a.Many≤6∧a.Grants.length≤20∧∀ g∈a.Grants,(0≤g.Who∧g.Who<a.Many)∧0≤g.For∧g.For<a.Many:=by
 unfold fQ at h
 split at h
 ·cases h
 split at h
 ·cases h
 split at h
 ·cases h
 rename_i h1 h2 h3
 refine ⟨by omega,by omega,by omega,fun g hg=>?_⟩
 have:¬gK a.Many g=true:=fun hb=>h3 (List.any_eq_true.2 ⟨g,hg,hb⟩)
 simpa [gK,cm] using this
variable [Lp]
theorem FX(a:an)(n:Int):iG a n=some (cm a.Many n):=by
 unfold iG cm
 by_cases h:0≤n<;>simp [h]
theorem KF(a:an)(g:il):iW g a=some (gK a.Many g):=by
 unfold iW gK
 rw [FX,FX]
 cases cm a.Many g.Who<;>simp
theorem MT(a:an):nd a=some (fQ a):=by
 unfold nd fQ
 by_cases h1:a.Many<1
 ·simp [h1]
 by_cases h2:6<a.Many
 ·simp [h1,h2]
 by_cases h3:20<a.Grants.length
 ·have h3':(20:Int)<(a.Grants.length:Int):=by omega
  simp [h1,h2,h3,h3']
 have h3':¬(20:Int)<(a.Grants.length:Int):=by omega
 have hc:dV a.Grants a=some (a.Grants.any (gK a.Many)):=oZ (fun y=>iW y a) (gK a.Many) a.Grants (by omega) (fun y _=>KF a y)
 rw [if_neg h1,if_neg h2,if_neg h3',hc]
 cases hb:a.Grants.any (gK a.Many)<;>simp [h1,h2,h3]
theorem H4{α ε:Type}{B:α→Option (α⊕ε)}(n s:Nat)(p:Nat→Bool)(f:Nat→α){x y:ε}(hs:s≤n)(h0:∀ k,s≤k→k<n→p k=false→B (f k)=some (.inl (f (k+1))))(h1:∀ k,s≤k→k<n→p k=true→B (f k)=some (.inr x))(he:B (f n)=some (.inr y)) :
  lp B (f s)=some (if (List.range' s (n - s)).any p then x else y):=by
 have:∀ m k,s≤k→k+m=n→lp B (f k)=some (if (List.range' k m).any p then x else y):=by
  intro m
  induction m with
  | zero=>
    intro k _ hk;obtain rfl:k=n:=by omega
    exact fo he
  | succ m ih=>
   intro k hsk hk
   rw [List.range'_succ,List.any_cons]
   cases hp:p k with
   | true=>exact fo (h1 k hsk (by omega) hp)
   | false=>rw [jz (h0 k hsk (by omega) hp),ih (k+1) (by omega) (by omega)];rfl
 exact this (n - s) s (Nat.le_refl _) (by omega)
theorem FY{α ε β:Type}{B:α→Option (α⊕ε)}(es:List β)(q:β→Option ε)(f:Nat→α){y:ε}(h0:∀ k (h:k<es.length),q es[k]=none→B (f k)=some (.inl (f (k+1))))(h1:∀ k (h:k<es.length) x,q es[k]=some x→B (f k)=some (.inr x))(he:B (f es.length)=some (.inr y)) :
  lp B (f 0)=some ((es.findSome? q).getD y):=by
 have:∀ m k,k+m=es.length→lp B (f k)=some (((es.drop k).findSome? q).getD y):=by
  intro m
  induction m with
  | zero=>
    intro k hk;obtain rfl:k=es.length:=by omega
    rw [List.drop_length];exact fo he
  | succ m ih=>
   intro k hk
   have hlt:k<es.length:=by omega
   rw [List.drop_eq_getElem_cons hlt,List.findSome?_cons]
   cases hq:q es[k] with
   | some x=>exact fo (h1 k hlt x hq)
   | none=>rw [jz (h0 k hlt hq)];exact ih (k+1) (by omega)
 exact this es.length 0 (by omega)
def desc(l:List Int):Bool:=(List.range' 1 (l.length - 1)).any fun k=>decide (l.getD k 0≤l.getD (k - 1) 0)
theorem mI{l:List Int}{k:Nat}(h:k<l.length):l[k]? =some (l.getD k 0):=by
 rw [List.getD_eq_getElem?_getD,List.getElem?_eq_getElem h];rfl
theorem Ff(k:Nat)(h1:1≤k)(h:k<4611686018427387904):IntKind.i64.wrap ((k:Int) - 1)=(k:Int) - 1∧dU ((k:Int) - 1)=some (k - 1):=by
 refine ⟨wrap64 (by omega) (by omega),?_⟩
 rw [cQ (by omega)];congr 1;omega
theorem JB(p:b9)(h6:p.Names.length≤6):∃ z,lp (fun v=>eb p v) 1=some (if desc p.Names then .inl () else .inr z):=by
 by_cases h:p.Names.length=0
 ·refine ⟨(1,false),?_⟩
  rw [show desc p.Names=false by simp [desc,h]]
  exact fo (by simp [eb,h])
 ·refine ⟨(p.Names.length,false),?_⟩
  exact H4 (B:=fun v=>eb p v) p.Names.length 1 (fun k=>decide (p.Names.getD k 0≤p.Names.getD (k - 1) 0)) id (by omega)
   (fun k h1 hk hp=>by
    have hp':¬p.Names.getD k 0≤p.Names.getD (k - 1) 0:=by simpa using hp
    obtain ⟨hw,hn⟩:=Ff k h1 (by omega)
    simp only [eb,id,show (k:Int)<(p.Names.length:Int) by omega,if_true,mI hk,Option.bind_some,hw,hn,mI (show k - 1<p.Names.length by omega),hp',if_false,sg k (by omega)])
   (fun k h1 hk hp=>by
    have hp':p.Names.getD k 0≤p.Names.getD (k - 1) 0:=by simpa using hp
    obtain ⟨hw,hn⟩:=Ff k h1 (by omega)
    simp only [eb,id,show (k:Int)<(p.Names.length:Int) by omega,if_true,mI hk,Option.bind_some,hw,hn,mI (show k - 1<p.Names.length by omega),hp'])
   (by simp [eb])
def bN(m:Int)(p:b9):Int:=
 if cm m p.Owner=false then 5 else if 6<p.Names.length then 2 else if p.Names.any (fun n=>!cm m n) then 5 else if desc p.Names then 4 else 0
theorem IP{m:Int}{p:b9}(h:bN m p=0):cm m p.Owner=true∧p.Names.length≤6∧∀ n∈p.Names,cm m n=true:=by
 unfold bN at h
 split at h
 ·cases h
 split at h
 ·cases h
 split at h
 ·cases h
 rename_i h1 h2 h3
 refine ⟨by simpa using h1,by omega,fun n hn=>?_⟩
 cases hi:cm m n with
 | true=>rfl
 | false=>exact absurd (List.any_eq_true.2 ⟨n,hn,by rw [hi];rfl⟩) h3
theorem FZ(a:an)(p:b9):nq a p=some (bN a.Many p):=by
 unfold nq bN
 rw [FX,Option.bind_some]
 cases h1:cm a.Many p.Owner with
 | false=>simp
 | true=>
  by_cases h2:6<p.Names.length
  ·simp [h2,show (6:Int)<(p.Names.length:Int) by omega]
  ·have h2':¬(6:Int)<(p.Names.length:Int):=by omega
   have hc:dX p.Names a=some (p.Names.any (fun n=>!cm a.Many n)):=oZ (fun y=>k9 y a) _ p.Names (by omega) (fun y _=>by simp [k9,FX])
   obtain ⟨z,hz⟩:=JB p (by omega)
   simp only [if_true,h2',if_false,hc,Option.bind_some,hz,h2,Bool.true_eq_false]
   cases p.Names.any (fun n=>!cm a.Many n) with
   | true=>simp
   | false=>cases desc p.Names<;>simp
def aT{β:Type}(f:β→Int)(l:List β):Int:=(l.findSome? fun x=>if f x≠0 then some (f x) else none).getD 0
def pM(m:Int)(ps:List b9):Int:=if 4<ps.length then 2 else aT (bN m) ps
def dA(m:Int)(l:Label):Int:=if pM m l.Read≠0 then pM m l.Read else pM m l.Write
theorem rK{β:Type}{f:β→Int}{l:List β}(h:aT f l=0):∀ x∈l,f x=0:=by
 unfold aT at h
 cases hq:l.findSome? (fun x=>if f x≠0 then some (f x) else none) with
 | some y=>
  rw [hq] at h
  obtain ⟨x,_,hx⟩:=List.exists_of_findSome?_eq_some hq
  split at hx
  ·rename_i h1
   obtain rfl:=Option.some.inj hx
   exact absurd h h1
  ·cases hx
 | none=>
  intro x hx
  have:=List.findSome?_eq_none_iff.1 hq x hx
  split at this
  ·cases this
  ·rename_i h1;exact Classical.not_not.1 h1
theorem F0{m:Int}{ps:List b9}(h:pM m ps=0):ps.length≤4∧∀ p∈ps,bN m p=0:=by
 unfold pM at h
 split at h
 ·cases h
 ·exact ⟨by omega,rK h⟩
theorem F1{m:Int}{l:Label}(h:dA m l=0):pM m l.Read=0∧pM m l.Write=0:=by
 unfold dA at h
 split at h
 ·rename_i h1;exact absurd h h1
 ·rename_i h1;exact ⟨Classical.not_not.1 h1,h⟩
theorem Cw(a:an)(l:Label)(i:Nat)(ps:List b9)(h4:ps.length≤4):lp (fun v=>e9 a l i ps v) 0=some (if aT (bN a.Many) ps≠0 then .inl (aT (bN a.Many) ps) else .inr (ps.length,false)):=by
 have h:=FY (B:=fun v=>e9 a l i ps v) ps (fun p=>if bN a.Many p≠0 then some (.inl (bN a.Many p)) else none) id (y:=.inr (ps.length,false))
  (fun k hk hq=>by
   have h0:bN a.Many ps[k]=0:=by
    apply Classical.byContradiction
    intro h
    rw [if_pos h] at hq;cases hq
   simp [e9,hk,FZ,h0,sg k (by omega)])
  (fun k hk x hq=>by
   by_cases h:bN a.Many ps[k]=0
   ·rw [if_neg (by simpa using h)] at hq;cases hq
   ·rw [if_pos h] at hq
    obtain rfl:=Option.some.inj hq
    simp [e9,hk,FZ,h])
  (by simp [e9])
 have h':lp (fun v=>e9 a l i ps v) 0=_:=h
 rw [h']
 congr 1
 unfold aT
 have he:(ps.findSome? fun p=>if bN a.Many p≠0 then some ((.inl (bN a.Many p)):Int⊕(Nat×Bool)) else none)=(ps.findSome? fun p=>if bN a.Many p≠0 then some (bN a.Many p) else none).map .inl:=by
  clear h h' h4
  induction ps with
  | nil=>rfl
  | cons p ps ih=>
   simp only [List.findSome?_cons]
   by_cases h:bN a.Many p≠0
   ·simp only [if_pos h];rfl
   ·simp only [if_neg h];exact ih
 rw [he]
 cases hq:ps.findSome? (fun p=>if bN a.Many p≠0 then some (bN a.Many p) else none) with
 | none=>simp
 | some y=>
  obtain ⟨x,_,hx⟩:=List.exists_of_findSome?_eq_some hq
  have hy:y≠0:=by
   split at hx
   ·rename_i h1;obtain rfl:=Option.some.inj hx;exact h1
   ·cases hx
  simp [hy]
theorem JC(a:an)(l:Label):my a l=some (dA a.Many l):=by
 have w0:IntKind.i64.wrap 1=1:=by decide
 have w1:IntKind.i64.wrap 2=2:=by decide
 unfold my dA pM
 by_cases h1:4<l.Read.length
 ·have:lp (fun v=>bV a l v) 0=some (.inl ()):=fo (by simp [bV,show (4:Int)<(l.Read.length:Int) by omega])
  simp [this,h1]
 have h1':¬(4:Int)<(l.Read.length:Int):=by omega
 have i1:=Cw a l 0 l.Read (by omega)
 by_cases e1:aT (bN a.Many) l.Read=0
 ·have n1:lp (fun v=>bV a l v) 0=lp (fun v=>bV a l v) 1:=jz (by
   simp only [e1,ne_eq,not_true_eq_false,if_false] at i1
   simp [bV,h1',i1,w0])
  rw [n1]
  by_cases h2:4<l.Write.length
  ·have:lp (fun v=>bV a l v) 1=some (.inl ()):=fo (by simp [bV,show (4:Int)<(l.Write.length:Int) by omega])
   simp [this,h1,h2,e1]
  have h2':¬(4:Int)<(l.Write.length:Int):=by omega
  have i2:=Cw a l 1 l.Write (by omega)
  by_cases e2:aT (bN a.Many) l.Write=0
  ·have n2:lp (fun v=>bV a l v) 1=lp (fun v=>bV a l v) 2:=jz (by
    simp only [e2,ne_eq,not_true_eq_false,if_false] at i2
    simp [bV,h2',i2,w1])
   have n3:lp (fun v=>bV a l v) 2=some (.inr (.inr (2,false))):=fo (by simp [bV])
   simp [n2,n3,h1,h2,e1,e2]
  ·have n2:lp (fun v=>bV a l v) 1=some (.inr (.inl (aT (bN a.Many) l.Write))):=fo (by
    simp only [ne_eq,e2,not_false_eq_true,if_true] at i2
    simp [bV,h2',i2])
   simp [n2,h1,h2,e1]
 ·have n1:lp (fun v=>bV a l v) 0=some (.inr (.inl (aT (bN a.Many) l.Read))):=fo (by
   simp only [ne_eq,e1,not_false_eq_true,if_true] at i1
   simp [bV,h1',i1])
  simp [n1,h1,e1]
end Go.Proofs.YtndeklbmglgonaaGreat.A
