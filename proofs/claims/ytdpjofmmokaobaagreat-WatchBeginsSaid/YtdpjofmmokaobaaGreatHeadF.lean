/- actors and labels of a program: what their checks answer. -/
import Derived.Test.YtdpjofmmokaobaaGreatFinds
import Derived.Test.YtdpjofmmokaobaaGreatA
set_option linter.unusedSectionVars false
set_option linter.unusedVariables false
set_option linter.unusedSimpArgs false
namespace Go.Proofs.YtdpjofmmokaobaaGreat.A
open Go
def dc(m n:Int):Bool:=decide (0≤n∧n<m)
def nN(m:Int)(g:cq):Bool:=!dc m g.Who||!dc m g.For
def fH(a:ah):Int:=if a.Many<1∨6<a.Many then 3 else if 20<a.Grants.length then 2 else if a.Grants.any (nN a.Many) then 5 else 0
theorem sD{a:ah}(h:fH a=0):1≤a.Many∧a.Many≤6∧a.Grants.length≤20∧∀ g∈a.Grants,(0≤g.Who∧g.Who<a.Many)∧0≤g.For∧g.For<a.Many:=by
 unfold fH at h
 split at h
 ·cases h
 split at h
 ·cases h
 split at h
 ·cases h
 rename_i h1 h2 h3
 refine ⟨by omega,by omega,by omega,fun g hg=>?_⟩
 have:¬nN a.Many g=true:=fun hb=>h3 (List.any_eq_true.2 ⟨g,hg,hb⟩)
 simpa [nN,dc] using this
variable [Lp]
theorem Gk(a:ah)(n:Int):jm a n=some (dc a.Many n):=by
 unfold jm dc
 by_cases h:0≤n<;>simp [h]
theorem MT(a:ah)(g:cq):jF g a=some (nN a.Many g):=by
 unfold jF nN
 rw [Gk,Gk]
 cases dc a.Many g.Who<;>simp
theorem OT(a:ah):od a=some (fH a):=by
 unfold od fH
 by_cases h1:a.Many<1
 ·simp [h1]
 by_cases h2:6<a.Many
 ·simp [h1,h2]
 by_cases h3:20<a.Grants.length
 ·have h3':(20:Int)<(a.Grants.length:Int):=by omega
  simp [h1,h2,h3,h3']
 have h3':¬(20:Int)<(a.Grants.length:Int):=by omega
 have hc:ea a.Grants a=some (a.Grants.any (nN a.Many)):=l9 (fun y=>jF y a) (nN a.Many) a.Grants (by omega) (fun y _=>MT a y)
 rw [if_neg h1,if_neg h2,if_neg h3',hc]
 cases hb:a.Grants.any (nN a.Many)<;>simp [h1,h2,h3]
theorem Is{α ε:Type}{B:α→Option (α⊕ε)}(n s:Nat)(p:Nat→Bool)(f:Nat→α){x y:ε}(hs:s≤n)(h0:∀ k,s≤k→k<n→p k=false→B (f k)=some (.inl (f (k+1))))(h1:∀ k,s≤k→k<n→p k=true→B (f k)=some (.inr x))(he:B (f n)=some (.inr y)) :
  lp B (f s)=some (if (List.range' s (n - s)).any p then x else y):=by
 have:∀ m k,s≤k→k+m=n→lp B (f k)=some (if (List.range' k m).any p then x else y):=by
  intro m
  induction m with
  | zero=>
    intro k _ hk;obtain rfl:k=n:=by omega
    exact iG he
  | succ m ih=>
   intro k hsk hk
   rw [List.range'_succ,List.any_cons]
   cases hp:p k with
   | true=>exact iG (h1 k hsk (by omega) hp)
   | false=>rw [ly (h0 k hsk (by omega) hp),ih (k+1) (by omega) (by omega)];rfl
 exact this (n - s) s (Nat.le_refl _) (by omega)
theorem OU{α ε:Type}{B:α→Option (α⊕ε)}(n:Nat)(p:Nat→Bool)(f:Nat→α){x y:ε}(h0:∀ k,k<n→p k=false→B (f k)=some (.inl (f (k+1))))(h1:∀ k,k<n→p k=true→B (f k)=some (.inr x))(he:B (f n)=some (.inr y)) :
  lp B (f 0)=some (if (List.range n).any p then x else y):=by
 have h:=Is n 0 p f (Nat.zero_le _) (fun k _=>h0 k) (fun k _=>h1 k) he
 rw [List.range_eq_range'];exact h
theorem MU{α ε β:Type}{B:α→Option (α⊕ε)}(es:List β)(q:β→Option ε)(f:Nat→α){y:ε}(h0:∀ k (h:k<es.length),q es[k]=none→B (f k)=some (.inl (f (k+1))))(h1:∀ k (h:k<es.length) x,q es[k]=some x→B (f k)=some (.inr x))(he:B (f es.length)=some (.inr y)) :
  lp B (f 0)=some ((es.findSome? q).getD y):=by
 have:∀ m k,k+m=es.length→lp B (f k)=some (((es.drop k).findSome? q).getD y):=by
  intro m
  induction m with
  | zero=>
    intro k hk;obtain rfl:k=es.length:=by omega
    rw [List.drop_length];exact iG he
  | succ m ih=>
   intro k hk
   have hlt:k<es.length:=by omega
   rw [List.drop_eq_getElem_cons hlt,List.findSome?_cons]
   cases hq:q es[k] with
   | some x=>exact iG (h1 k hlt x hq)
   | none=>rw [ly (h0 k hlt hq)];exact ih (k+1) (by omega)
 exact this es.length 0 (by omega)
def desc(l:List Int):Bool:=(List.range' 1 (l.length - 1)).any fun k=>decide (l.getD k 0≤l.getD (k - 1) 0)
theorem xQ{l:List Int}{k:Nat}(h:k<l.length):l[k]? =some (l.getD k 0):=by
 rw [List.getD_eq_getElem?_getD,List.getElem?_eq_getElem h];rfl
theorem Ob(k:Nat)(h1:1≤k)(h:k<4611686018427387904):IntKind.i64.wrap ((k:Int) - 1)=(k:Int) - 1∧cX ((k:Int) - 1)=some (k - 1):=by
 refine ⟨wrap64 (by omega) (by omega),?_⟩
 rw [cj (by omega)];congr 1;omega
theorem KB(p:bC)(h6:p.Names.length≤6):∃ z,lp (fun v=>ej p v) 1=some (if desc p.Names then .inl () else .inr z):=by
 by_cases h:p.Names.length=0
 ·refine ⟨(1,false),?_⟩
  rw [show desc p.Names=false by simp [desc,h]]
  exact iG (by simp [ej,h])
 ·refine ⟨(p.Names.length,false),?_⟩
  exact Is (B:=fun v=>ej p v) p.Names.length 1 (fun k=>decide (p.Names.getD k 0≤p.Names.getD (k - 1) 0)) id (by omega)
   (fun k h1 hk hp=>by
    have hp':¬p.Names.getD k 0≤p.Names.getD (k - 1) 0:=by simpa using hp
    obtain ⟨hw,hn⟩:=Ob k h1 (by omega)
    simp only [ej,id,show (k:Int)<(p.Names.length:Int) by omega,if_true,xQ hk,Option.bind_some,hw,hn,xQ (show k - 1<p.Names.length by omega),hp',if_false,pK k (by omega)])
   (fun k h1 hk hp=>by
    have hp':p.Names.getD k 0≤p.Names.getD (k - 1) 0:=by simpa using hp
    obtain ⟨hw,hn⟩:=Ob k h1 (by omega)
    simp only [ej,id,show (k:Int)<(p.Names.length:Int) by omega,if_true,xQ hk,Option.bind_some,hw,hn,xQ (show k - 1<p.Names.length by omega),hp'])
   (by simp [ej])
def dB(m:Int)(p:bC):Int:=
 if dc m p.Owner=false then 5 else if 6<p.Names.length then 2 else if p.Names.any (fun n=>!dc m n) then 5 else if desc p.Names then 4 else 0
theorem CF{m:Int}{p:bC}(h:dB m p=0):dc m p.Owner=true∧p.Names.length≤6∧∀ n∈p.Names,dc m n=true:=by
 unfold dB at h
 split at h
 ·cases h
 split at h
 ·cases h
 split at h
 ·cases h
 rename_i h1 h2 h3
 refine ⟨by simpa using h1,by omega,fun n hn=>?_⟩
 cases hi:dc m n with
 | true=>rfl
 | false=>exact absurd (List.any_eq_true.2 ⟨n,hn,by rw [hi];rfl⟩) h3
theorem Gl(a:ah)(p:bC):oj a p=some (dB a.Many p):=by
 unfold oj dB
 rw [Gk,Option.bind_some]
 cases h1:dc a.Many p.Owner with
 | false=>simp
 | true=>
  by_cases h2:6<p.Names.length
  ·simp [h2,show (6:Int)<(p.Names.length:Int) by omega]
  ·have h2':¬(6:Int)<(p.Names.length:Int):=by omega
   have hc:eb p.Names a=some (p.Names.any (fun n=>!dc a.Many n)):=l9 (fun y=>mb y a) _ p.Names (by omega) (fun y _=>by simp [mb,Gk])
   obtain ⟨z,hz⟩:=KB p (by omega)
   simp only [if_true,h2',if_false,hc,Option.bind_some,hz,h2,Bool.true_eq_false]
   cases p.Names.any (fun n=>!dc a.Many n) with
   | true=>simp
   | false=>cases desc p.Names<;>simp
def bR{β:Type}(f:β→Int)(l:List β):Int:=(l.findSome? fun x=>if f x≠0 then some (f x) else none).getD 0
def rR(m:Int)(ps:List bC):Int:=if 4<ps.length then 2 else bR (dB m) ps
def gy(m:Int)(l:Label):Int:=if rR m l.Read≠0 then rR m l.Read else rR m l.Write
theorem mB{β:Type}{f:β→Int}{l:List β}(h:bR f l=0):∀ x∈l,f x=0:=by
 unfold bR at h
 cases hq:l.findSome? (fun x=>if f x≠0 then some (f x) else none) with
 | some y=>
  rw [hq] at h
  obtain ⟨x,_,hx⟩:=List.exists_of_findSome?_eq_some hq
  split at hx
  ·rename_i h1
   obtain rfl:=Option.some.inj hx
   exact absurd h h1
  ·cases hx
 | none=>
  intro x hx
  have:=List.findSome?_eq_none_iff.1 hq x hx
  split at this
  ·cases this
  ·rename_i h1;exact Classical.not_not.1 h1
theorem ur{m:Int}{ps:List bC}(h:rR m ps=0):ps.length≤4∧∀ p∈ps,dB m p=0:=by
 unfold rR at h
 split at h
 ·cases h
 ·exact ⟨by omega,mB h⟩
theorem uu{m:Int}{l:Label}(h:gy m l=0):rR m l.Read=0∧rR m l.Write=0:=by
 unfold gy at h
 split at h
 ·rename_i h1;exact absurd h h1
 ·rename_i h1;exact ⟨Classical.not_not.1 h1,h⟩
theorem CH(a:ah)(l:Label)(i:Nat)(ps:List bC)(h4:ps.length≤4):lp (fun v=>fq a l i ps v) 0=some (if bR (dB a.Many) ps≠0 then .inl (bR (dB a.Many) ps) else .inr (ps.length,false)):=by
 have h:=MU (B:=fun v=>fq a l i ps v) ps (fun p=>if dB a.Many p≠0 then some (.inl (dB a.Many p)) else none) id (y:=.inr (ps.length,false))
  (fun k hk hq=>by
   have h0:dB a.Many ps[k]=0:=by
    apply Classical.byContradiction
    intro h
    rw [if_pos h] at hq;cases hq
   simp [fq,hk,Gl,h0,pK k (by omega)])
  (fun k hk x hq=>by
   by_cases h:dB a.Many ps[k]=0
   ·rw [if_neg (by simpa using h)] at hq;cases hq
   ·rw [if_pos h] at hq
    obtain rfl:=Option.some.inj hq
    simp [fq,hk,Gl,h])
  (by simp [fq])
 have h':lp (fun v=>fq a l i ps v) 0=_:=h
 rw [h']
 congr 1
 unfold bR
 have he:(ps.findSome? fun p=>if dB a.Many p≠0 then some ((.inl (dB a.Many p)):Int⊕(Nat×Bool)) else none)=(ps.findSome? fun p=>if dB a.Many p≠0 then some (dB a.Many p) else none).map .inl:=by
  clear h h' h4
  induction ps with
  | nil=>rfl
  | cons p ps ih=>
   simp only [List.findSome?_cons]
   by_cases h:dB a.Many p≠0
   ·simp only [if_pos h];rfl
   ·simp only [if_neg h];exact ih
 rw [he]
 cases hq:ps.findSome? (fun p=>if dB a.Many p≠0 then some (dB a.Many p) else none) with
 | none=>simp
 | some y=>
  obtain ⟨x,_,hx⟩:=List.exists_of_findSome?_eq_some hq
  have hy:y≠0:=by
   split at hx
   ·rename_i h1;obtain rfl:=Option.some.inj hx;exact h1
   ·cases hx
  simp [hy]
theorem KC(a:ah)(l:Label):nD a l=some (gy a.Many l):=by
 have w0:IntKind.i64.wrap 1=1:=by decide
 have w1:IntKind.i64.wrap 2=2:=by decide
 unfold nD gy rR
 by_cases h1:4<l.Read.length
 ·have:lp (fun v=>b8 a l v) 0=some (.inl ()):=iG (by simp [b8,show (4:Int)<(l.Read.length:Int) by omega])
  simp [this,h1]
 have h1':¬(4:Int)<(l.Read.length:Int):=by omega
 have i1:=CH a l 0 l.Read (by omega)
 by_cases e1:bR (dB a.Many) l.Read=0
 ·have n1:lp (fun v=>b8 a l v) 0=lp (fun v=>b8 a l v) 1:=ly (by
   simp only [e1,ne_eq,not_true_eq_false,if_false] at i1
   simp [b8,h1',i1,w0])
  rw [n1]
  by_cases h2:4<l.Write.length
  ·have:lp (fun v=>b8 a l v) 1=some (.inl ()):=iG (by simp [b8,show (4:Int)<(l.Write.length:Int) by omega])
   simp [this,h1,h2,e1]
  have h2':¬(4:Int)<(l.Write.length:Int):=by omega
  have i2:=CH a l 1 l.Write (by omega)
  by_cases e2:bR (dB a.Many) l.Write=0
  ·have n2:lp (fun v=>b8 a l v) 1=lp (fun v=>b8 a l v) 2:=ly (by
    simp only [e2,ne_eq,not_true_eq_false,if_false] at i2
    simp [b8,h2',i2,w1])
   have n3:lp (fun v=>b8 a l v) 2=some (.inr (.inr (2,false))):=iG (by simp [b8])
   simp [n2,n3,h1,h2,e1,e2]
  ·have n2:lp (fun v=>b8 a l v) 1=some (.inr (.inl (bR (dB a.Many) l.Write))):=iG (by
    simp only [ne_eq,e2,not_false_eq_true,if_true] at i2
    simp [b8,h2',i2])
   simp [n2,h1,h2,e1]
 ·have n1:lp (fun v=>b8 a l v) 0=some (.inr (.inl (bR (dB a.Many) l.Read))):=iG (by
   simp only [ne_eq,e1,not_false_eq_true,if_true] at i1
   simp [b8,h1',i1])
  simp [n1,h1,e1]
theorem rS{m n:Int} : dc m n=true↔0≤n∧n<m:=by simp [dc]
end Go.Proofs.YtdpjofmmokaobaaGreat.A
