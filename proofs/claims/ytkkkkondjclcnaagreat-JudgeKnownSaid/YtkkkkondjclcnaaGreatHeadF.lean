/- actors and labels of a program: what their checks answer. -/
import Derived.Test.YtkkkkondjclcnaaGreatFinds
import Derived.Test.YtkkkkondjclcnaaGreatFE
set_option linter.unusedSectionVars false
set_option linter.unusedVariables false
set_option linter.unusedSimpArgs false
set_option linter.constructorNameAsVariable false
namespace Go.Proofs.YtkkkkondjclcnaaGreat.A
open Go
def ct(m n:Int):Bool:=decide (0≤n∧n<m)
def oH(m:Int)(g:bc):Bool:=!ct m g.Who||!ct m g.For
def eO(a:aa):Int:=if a.Many<1∨6<a.Many then 3 else if 20<a.Grants.length then 2 else if a.Grants.any (oH a.Many) then 5 else 0
theorem rB{a:aa}(h:eO a=0):1≤a.Many∧a.Many≤6∧a.Grants.length≤20∧∀ g∈a.Grants,(0≤g.Who∧g.Who<a.Many)∧0≤g.For∧g.For<a.Many:=by
 unfold eO at h
 split at h
 ·cases h
 split at h
 ·cases h
 split at h
 ·cases h
 rename_i h1 h2 h3
 refine ⟨by omega,by omega,by omega,fun g hg=>?_⟩
 have:¬oH a.Many g=true:=fun hb=>h3 (List.any_eq_true.2 ⟨g,hg,hb⟩)
 simpa [oH,ct] using this
variable [Lp]
theorem Hy(a:aa)(n:Int):jJ a n=some (ct a.Many n):=by
 unfold jJ ct
 by_cases h:0≤n<;>simp [h]
theorem Po(a:aa)(g:bc):jY g a=some (oH a.Many g):=by
 unfold jY oH
 rw [Hy,Hy]
 cases ct a.Many g.Who<;>simp
theorem J2(a:aa):mc a=some (eO a):=by
 unfold mc eO
 by_cases h1:a.Many<1
 ·simp [h1]
 by_cases h2:6<a.Many
 ·simp [h1,h2]
 by_cases h3:20<a.Grants.length
 ·have h3':(20:Int)<(a.Grants.length:Int):=by omega
  simp [h1,h2,h3,h3']
 have h3':¬(20:Int)<(a.Grants.length:Int):=by omega
 have hc:dU a.Grants a=some (a.Grants.any (oH a.Many)):=rk (fun y=>jY y a) (oH a.Many) a.Grants (by omega) (fun y _=>Po a y)
 rw [if_neg h1,if_neg h2,if_neg h3',hc]
 cases hb:a.Grants.any (oH a.Many)<;>simp [h1,h2,h3]
theorem J3{α ε:Type}{B:α→Option (α⊕ε)}(n s:Nat)(p:Nat→Bool)(f:Nat→α){x y:ε}(hs:s≤n)(h0:∀ k,s≤k→k<n→p k=false→B (f k)=some (.inl (f (k+1))))(h1:∀ k,s≤k→k<n→p k=true→B (f k)=some (.inr x))(he:B (f n)=some (.inr y)) :
  lp B (f s)=some (if (List.range' s (n - s)).any p then x else y):=by
 have:∀ m k,s≤k→k+m=n→lp B (f k)=some (if (List.range' k m).any p then x else y):=by
  intro m
  induction m with
  | zero=>
    intro k _ hk;obtain rfl:k=n:=by omega
    exact ji he
  | succ m ih=>
   intro k hsk hk
   rw [List.range'_succ,List.any_cons]
   cases hp:p k with
   | true=>exact ji (h1 k hsk (by omega) hp)
   | false=>rw [ma (h0 k hsk (by omega) hp),ih (k+1) (by omega) (by omega)];rfl
 exact this (n - s) s (Nat.le_refl _) (by omega)
theorem Rj{α ε:Type}{B:α→Option (α⊕ε)}(n:Nat)(p:Nat→Bool)(f:Nat→α){x y:ε}(h0:∀ k,k<n→p k=false→B (f k)=some (.inl (f (k+1))))(h1:∀ k,k<n→p k=true→B (f k)=some (.inr x))(he:B (f n)=some (.inr y)) :
  lp B (f 0)=some (if (List.range n).any p then x else y):=by
 have h:=J3 n 0 p f (Nat.zero_le _) (fun k _=>h0 k) (fun k _=>h1 k) he
 rw [List.range_eq_range'];exact h
theorem Pp{α ε β:Type}{B:α→Option (α⊕ε)}(es:List β)(q:β→Option ε)(f:Nat→α){y:ε}(h0:∀ k (h:k<es.length),q es[k]=none→B (f k)=some (.inl (f (k+1))))(h1:∀ k (h:k<es.length) x,q es[k]=some x→B (f k)=some (.inr x))(he:B (f es.length)=some (.inr y)) :
  lp B (f 0)=some ((es.findSome? q).getD y):=by
 have:∀ m k,k+m=es.length→lp B (f k)=some (((es.drop k).findSome? q).getD y):=by
  intro m
  induction m with
  | zero=>
    intro k hk;obtain rfl:k=es.length:=by omega
    rw [List.drop_length];exact ji he
  | succ m ih=>
   intro k hk
   have hlt:k<es.length:=by omega
   rw [List.drop_eq_getElem_cons hlt,List.findSome?_cons]
   cases hq:q es[k] with
   | some x=>exact ji (h1 k hlt x hq)
   | none=>rw [ma (h0 k hlt hq)];exact ih (k+1) (by omega)
 exact this es.length 0 (by omega)
def desc(l:List Int):Bool:=(List.range' 1 (l.length - 1)).any fun k=>decide (l.getD k 0≤l.getD (k - 1) 0)
theorem yK{l:List Int}{k:Nat}(h:k<l.length):l[k]? =some (l.getD k 0):=by
 rw [List.getD_eq_getElem?_getD,List.getElem?_eq_getElem h];rfl
theorem QL(k:Nat)(h1:1≤k)(h:k<4611686018427387904):IntKind.i64.wrap ((k:Int) - 1)=(k:Int) - 1∧dG ((k:Int) - 1)=some (k - 1):=by
 refine ⟨wrap64 (by omega) (by omega),?_⟩
 rw [eb (by omega)];congr 1;omega
theorem MS(p:aD)(h6:p.Names.length≤6):∃ z,lp (fun v=>ei p v) 1=some (if desc p.Names then .inl () else .inr z):=by
 by_cases h:p.Names.length=0
 ·refine ⟨(1,false),?_⟩
  rw [show desc p.Names=false by simp [desc,h]]
  exact ji (by simp [ei,h])
 ·refine ⟨(p.Names.length,false),?_⟩
  exact J3 (B:=fun v=>ei p v) p.Names.length 1 (fun k=>decide (p.Names.getD k 0≤p.Names.getD (k - 1) 0)) id (by omega)
   (fun k h1 hk hp=>by
    have hp':¬p.Names.getD k 0≤p.Names.getD (k - 1) 0:=by simpa using hp
    obtain ⟨hw,hn⟩:=QL k h1 (by omega)
    simp only [ei,id,show (k:Int)<(p.Names.length:Int) by omega,if_true,yK hk,Option.bind_some,hw,hn,yK (show k - 1<p.Names.length by omega),hp',if_false,tk k (by omega)])
   (fun k h1 hk hp=>by
    have hp':p.Names.getD k 0≤p.Names.getD (k - 1) 0:=by simpa using hp
    obtain ⟨hw,hn⟩:=QL k h1 (by omega)
    simp only [ei,id,show (k:Int)<(p.Names.length:Int) by omega,if_true,yK hk,Option.bind_some,hw,hn,yK (show k - 1<p.Names.length by omega),hp'])
   (by simp [ei])
def da(m:Int)(p:aD):Int:=
 if ct m p.Owner=false then 5 else if 6<p.Names.length then 2 else if p.Names.any (fun n=>!ct m n) then 5 else if desc p.Names then 4 else 0
theorem yL{m:Int}{p:aD}(h:da m p=0):ct m p.Owner=true∧p.Names.length≤6∧∀ n∈p.Names,ct m n=true:=by
 unfold da at h
 split at h
 ·cases h
 split at h
 ·cases h
 split at h
 ·cases h
 rename_i h1 h2 h3
 refine ⟨by simpa using h1,by omega,fun n hn=>?_⟩
 cases hi:ct m n with
 | true=>rfl
 | false=>exact absurd (List.any_eq_true.2 ⟨n,hn,by rw [hi];rfl⟩) h3
theorem Hz(a:aa)(p:aD):pb a p=some (da a.Many p):=by
 unfold pb da
 rw [Hy,Option.bind_some]
 cases h1:ct a.Many p.Owner with
 | false=>simp
 | true=>
  by_cases h2:6<p.Names.length
  ·simp [h2,show (6:Int)<(p.Names.length:Int) by omega]
  ·have h2':¬(6:Int)<(p.Names.length:Int):=by omega
   have hc:dV p.Names a=some (p.Names.any (fun n=>!ct a.Many n)):=rk (fun y=>mQ y a) _ p.Names (by omega) (fun y _=>by simp [mQ,Hy])
   obtain ⟨z,hz⟩:=MS p (by omega)
   simp only [if_true,h2',if_false,hc,Option.bind_some,hz,h2,Bool.true_eq_false]
   cases p.Names.any (fun n=>!ct a.Many n) with
   | true=>simp
   | false=>cases desc p.Names<;>simp
def br{β:Type}(f:β→Int)(l:List β):Int:=(l.findSome? fun x=>if f x≠0 then some (f x) else none).getD 0
def qX(m:Int)(ps:List aD):Int:=if 4<ps.length then 2 else br (da m) ps
def fB(m:Int)(l:Label):Int:=if qX m l.Read≠0 then qX m l.Read else qX m l.Write
theorem kU{β:Type}{f:β→Int}{l:List β}(h:br f l=0):∀ x∈l,f x=0:=by
 unfold br at h
 cases hq:l.findSome? (fun x=>if f x≠0 then some (f x) else none) with
 | some y=>
  rw [hq] at h
  obtain ⟨x,_,hx⟩:=List.exists_of_findSome?_eq_some hq
  split at hx
  ·rename_i h1
   obtain rfl:=Option.some.inj hx
   exact absurd h h1
  ·cases hx
 | none=>
  intro x hx
  have:=List.findSome?_eq_none_iff.1 hq x hx
  split at this
  ·cases this
  ·rename_i h1;exact Classical.not_not.1 h1
theorem sL{m:Int}{ps:List aD}(h:qX m ps=0):ps.length≤4∧∀ p∈ps,da m p=0:=by
 unfold qX at h
 split at h
 ·cases h
 ·exact ⟨by omega,kU h⟩
theorem sM{m:Int}{l:Label}(h:fB m l=0):qX m l.Read=0∧qX m l.Write=0:=by
 unfold fB at h
 split at h
 ·rename_i h1;exact absurd h h1
 ·rename_i h1;exact ⟨Classical.not_not.1 h1,h⟩
theorem Dy(a:aa)(l:Label)(i:Nat)(ps:List aD)(h4:ps.length≤4):lp (fun v=>fq a l i ps v) 0=some (if br (da a.Many) ps≠0 then .inl (br (da a.Many) ps) else .inr (ps.length,false)):=by
 have h:=Pp (B:=fun v=>fq a l i ps v) ps (fun p=>if da a.Many p≠0 then some (.inl (da a.Many p)) else none) id (y:=.inr (ps.length,false))
  (fun k hk hq=>by
   have h0:da a.Many ps[k]=0:=by
    apply Classical.byContradiction
    intro h
    rw [if_pos h] at hq;cases hq
   simp [fq,hk,Hz,h0,tk k (by omega)])
  (fun k hk x hq=>by
   by_cases h:da a.Many ps[k]=0
   ·rw [if_neg (by simpa using h)] at hq;cases hq
   ·rw [if_pos h] at hq
    obtain rfl:=Option.some.inj hq
    simp [fq,hk,Hz,h])
  (by simp [fq])
 have h':lp (fun v=>fq a l i ps v) 0=_:=h
 rw [h']
 congr 1
 unfold br
 have he:(ps.findSome? fun p=>if da a.Many p≠0 then some ((.inl (da a.Many p)):Int⊕(Nat×Bool)) else none)=(ps.findSome? fun p=>if da a.Many p≠0 then some (da a.Many p) else none).map .inl:=by
  clear h h' h4
  induction ps with
  | nil=>rfl
  | cons p ps ih=>
   simp only [List.findSome?_cons]
   by_cases h:da a.Many p≠0
   ·simp only [if_pos h];rfl
   ·simp only [if_neg h];exact ih
 rw [he]
 cases hq:ps.findSome? (fun p=>if da a.Many p≠0 then some (da a.Many p) else none) with
 | none=>simp
 | some y=>
  obtain ⟨x,_,hx⟩:=List.exists_of_findSome?_eq_some hq
  have hy:y≠0:=by
   split at hx
   ·rename_i h1;obtain rfl:=Option.some.inj hx;exact h1
   ·cases hx
  simp [hy]
theorem MT(a:aa)(l:Label):ot a l=some (fB a.Many l):=by
 have w0:IntKind.i64.wrap 1=1:=by decide
 have w1:IntKind.i64.wrap 2=2:=by decide
 unfold ot fB qX
 by_cases h1:4<l.Read.length
 ·have:lp (fun v=>bH a l v) 0=some (.inl ()):=ji (by simp [bH,show (4:Int)<(l.Read.length:Int) by omega])
  simp [this,h1]
 have h1':¬(4:Int)<(l.Read.length:Int):=by omega
 have i1:=Dy a l 0 l.Read (by omega)
 by_cases e1:br (da a.Many) l.Read=0
 ·have n1:lp (fun v=>bH a l v) 0=lp (fun v=>bH a l v) 1:=ma (by
   simp only [e1,ne_eq,not_true_eq_false,if_false] at i1
   simp [bH,h1',i1,w0])
  rw [n1]
  by_cases h2:4<l.Write.length
  ·have:lp (fun v=>bH a l v) 1=some (.inl ()):=ji (by simp [bH,show (4:Int)<(l.Write.length:Int) by omega])
   simp [this,h1,h2,e1]
  have h2':¬(4:Int)<(l.Write.length:Int):=by omega
  have i2:=Dy a l 1 l.Write (by omega)
  by_cases e2:br (da a.Many) l.Write=0
  ·have n2:lp (fun v=>bH a l v) 1=lp (fun v=>bH a l v) 2:=ma (by
    simp only [e2,ne_eq,not_true_eq_false,if_false] at i2
    simp [bH,h2',i2,w1])
   have n3:lp (fun v=>bH a l v) 2=some (.inr (.inr (2,false))):=ji (by simp [bH])
   simp [n2,n3,h1,h2,e1,e2]
  ·have n2:lp (fun v=>bH a l v) 1=some (.inr (.inl (br (da a.Many) l.Write))):=ji (by
    simp only [ne_eq,e2,not_false_eq_true,if_true] at i2
    simp [bH,h2',i2])
   simp [n2,h1,h2,e1]
 ·have n1:lp (fun v=>bH a l v) 0=some (.inr (.inl (br (da a.Many) l.Read))):=ji (by
   simp only [ne_eq,e1,not_false_eq_true,if_true] at i1
   simp [bH,h1',i1])
  simp [n1,h1,e1]
theorem qE{m n:Int} : ct m n=true↔0≤n∧n<m:=by simp [ct]
end Go.Proofs.YtkkkkondjclcnaaGreat.A
