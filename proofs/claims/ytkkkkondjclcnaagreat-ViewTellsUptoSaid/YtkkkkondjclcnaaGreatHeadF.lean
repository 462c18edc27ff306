/- actors and labels of a program: what their checks answer. -/
import Derived.Test.YtkkkkondjclcnaaGreatLift
import Derived.Test.YtkkkkondjclcnaaGreatFE
set_option linter.all false
namespace Go.Proofs.YtkkkkondjclcnaaGreat.A
open Go
def bL(m n:Int):Bool:=decide (0≤n∧n<m)
def kH(m:Int)(g:cG):Bool:=!bL m g.Who||!bL m g.For
def eP(a:aj):Int:=if a.Many<1∨6<a.Many then 3 else if 20<a.Grants.length then 2 else if a.Grants.any (kH a.Many) then 5 else 0
theorem lB{a:aj}(h:eP a=0):1≤a.Many∧a.Many≤6∧a.Grants.length≤20∧∀ g∈a.Grants,(0≤g.Who∧g.Who<a.Many)∧0≤g.For∧g.For<a.Many:=by
 unfold eP at h
 split at h
 ·cases h
 split at h
 ·cases h
 split at h
 ·cases h
 rename_i h1 h2 h3
 refine ⟨by omega,by omega,by omega,fun g hg=>?_⟩
 have:¬kH a.Many g=true:=fun hb=>h3 (lN.2 ⟨g,hg,hb⟩)
 simpa [kH,bL] using this
variable [Lp]
theorem FG(a:aj)(n:Int):jN a n=some (bL a.Many n):=by
 unfold jN bL
 by_cases h:0≤n<;>simp [h]
theorem TH(a:aj)(g:cG):lZ g a=some (kH a.Many g):=by
 unfold lZ kH
 rw [FG,FG]
 cases bL a.Many g.Who<;>simp
theorem Wt(a:aj):rh a=some (eP a):=by
 unfold rh eP
 by_cases h1:a.Many<1
 ·simp [h1]
 by_cases h2:6<a.Many
 ·simp [h1,h2]
 by_cases h3:20<a.Grants.length
 ·have h3':(20:Int)<(a.Grants.length:Int):=by omega
  simp [h1,h2,h3,h3']
 have h3':¬(20:Int)<(a.Grants.length:Int):=by omega
 have hc:fj a.Grants a=some (a.Grants.any (kH a.Many)):=uT (fun y=>lZ y a) (kH a.Many) a.Grants (by omega) (fun y _=>TH a y)
 rw [ad h1,ad h2,ad h3',hc]
 cases hb:a.Grants.any (kH a.Many)<;>simp [h1,h2,h3]
theorem I2{α ε:Type}{B:α→Option (α⊕ε)}(n s:Nat)(p:Nat→Bool)(f:Nat→α){x y:ε}(hs:s≤n)(h0:∀ k,s≤k→k<n→p k=false→B (f k)=some (.inl (f (k+1))))(h1:∀ k,s≤k→k<n→p k=true→B (f k)=some (.inr x))(he:B (f n)=some (.inr y)) :
  lp B (f s)=some (if (List.range' s (n - s)).any p then x else y):=by
 have:∀ m k,s≤k→k+m=n→lp B (f k)=some (if (List.range' k m).any p then x else y):=by
  intro m
  induction m with
  | zero=>
    intro k _ hk;obtain rfl:k=n:=by omega
    exact fc he
  | succ m ih=>
   intro k hsk hk
   rw [yT,yN]
   cases hp:p k with
   | true=>exact fc (h1 k hsk (by omega) hp)
   | false=>rw [lF (h0 k hsk (by omega) hp),ih (k+1) (by omega) (by omega)];rfl
 exact this (n - s) s (aS _) (by omega)
theorem Wu{α ε:Type}{B:α→Option (α⊕ε)}(n:Nat)(p:Nat→Bool)(f:Nat→α){x y:ε}(h0:∀ k,k<n→p k=false→B (f k)=some (.inl (f (k+1))))(h1:∀ k,k<n→p k=true→B (f k)=some (.inr x))(he:B (f n)=some (.inr y)) :
  lp B (f 0)=some (if (List.range n).any p then x else y):=by
 have h:=I2 n 0 p f (ct _) (fun k _=>h0 k) (fun k _=>h1 k) he
 rw [vH];exact h
theorem Mb{α ε β:Type}{B:α→Option (α⊕ε)}(es:List β)(q:β→Option ε)(f:Nat→α){y:ε}(h0:∀ k (h:k<es.length),q es[k]=none→B (f k)=some (.inl (f (k+1))))(h1:∀ k (h:k<es.length) x,q es[k]=some x→B (f k)=some (.inr x))(he:B (f es.length)=some (.inr y)) :
  lp B (f 0)=some ((es.findSome? q).getD y):=by
 have:∀ m k,k+m=es.length→lp B (f k)=some (((es.drop k).findSome? q).getD y):=by
  intro m
  induction m with
  | zero=>
    intro k hk;obtain rfl:k=es.length:=by omega
    rw [yM];exact fc he
  | succ m ih=>
   intro k hk
   have hlt:k<es.length:=by omega
   rw [jt hlt,yZ]
   cases hq:q es[k] with
   | some x=>exact fc (h1 k hlt x hq)
   | none=>rw [lF (h0 k hlt hq)];exact ih (k+1) (by omega)
 exact this es.length 0 (by omega)
def desc(l:List Int):Bool:=(List.range' 1 (l.length - 1)).any fun k=>decide (l.getD k 0≤l.getD (k - 1) 0)
theorem qK{l:List Int}{k:Nat}(h:k<l.length):l[k]? =some (l.getD k 0):=by
 rw [cb,aB h];rfl
theorem K5(k:Nat)(h1:1≤k)(h:k<4611686018427387904):IntKind.i64.wrap ((k:Int) - 1)=(k:Int) - 1∧ed ((k:Int) - 1)=some (k - 1):=by
 refine ⟨wrap64 (by omega) (by omega),?_⟩
 rw [dx (by omega)];congr 1;omega
theorem Rl(p:bD)(h6:p.Names.length≤6):∃ z,lp (fun v=>fG p v) 1=some (if desc p.Names then .inl () else .inr z):=by
 by_cases h:p.Names.length=0
 ·refine ⟨(1,false),?_⟩
  rw [show desc p.Names=false by simp [desc,h]]
  exact fc (by simp [fG,h])
 ·refine ⟨(p.Names.length,false),?_⟩
  exact I2 (B:=fun v=>fG p v) p.Names.length 1 (fun k=>decide (p.Names.getD k 0≤p.Names.getD (k - 1) 0)) id (by omega)
   (fun k h1 hk hp=>by
    have hp':¬p.Names.getD k 0≤p.Names.getD (k - 1) 0:=by simpa using hp
    obtain ⟨hw,hn⟩:=K5 k h1 (by omega)
    simp only [fG,id,show (k:Int)<(p.Names.length:Int) by omega,aq,qK hk,af,hw,hn,qK (show k - 1<p.Names.length by omega),hp',aM,eQ k (by omega)])
   (fun k h1 hk hp=>by
    have hp':p.Names.getD k 0≤p.Names.getD (k - 1) 0:=by simpa using hp
    obtain ⟨hw,hn⟩:=K5 k h1 (by omega)
    simp only [fG,id,show (k:Int)<(p.Names.length:Int) by omega,aq,qK hk,af,hw,hn,qK (show k - 1<p.Names.length by omega),hp'])
   (by simp [fG])
def cz(m:Int)(p:bD):Int:=
 if bL m p.Owner=false then 5 else if 6<p.Names.length then 2 else if p.Names.any (fun n=>!bL m n) then 5 else if desc p.Names then 4 else 0
theorem Hf{m:Int}{p:bD}(h:cz m p=0):bL m p.Owner=true∧p.Names.length≤6∧∀ n∈p.Names,bL m n=true:=by
 unfold cz at h
 split at h
 ·cases h
 split at h
 ·cases h
 split at h
 ·cases h
 rename_i h1 h2 h3
 refine ⟨by simpa using h1,by omega,fun n hn=>?_⟩
 cases hi:bL m n with
 | true=>rfl
 | false=>exact absurd (lN.2 ⟨n,hn,by rw [hi];rfl⟩) h3
theorem Mc(a:aj)(p:bD):rm a p=some (cz a.Many p):=by
 unfold rm cz
 rw [FG,af]
 cases h1:bL a.Many p.Owner with
 | false=>simp
 | true=>
  by_cases h2:6<p.Names.length
  ·simp [h2,show (6:Int)<(p.Names.length:Int) by omega]
  ·have h2':¬(6:Int)<(p.Names.length:Int):=by omega
   have hc:fk p.Names a=some (p.Names.any (fun n=>!bL a.Many n)):=uT (fun y=>oI y a) _ p.Names (by omega) (fun y _=>by simp [oI,FG])
   obtain ⟨z,hz⟩:=Rl p (by omega)
   simp only [aq,h2',aM,hc,af,hz,h2,y0]
   cases p.Names.any (fun n=>!bL a.Many n) with
   | true=>simp
   | false=>cases desc p.Names<;>simp
def bg{β:Type}(f:β→Int)(l:List β):Int:=(l.findSome? fun x=>if f x≠0 then some (f x) else none).getD 0
def sM(m:Int)(ps:List bD):Int:=if 4<ps.length then 2 else bg (cz m) ps
def dE(m:Int)(l:Label):Int:=if sM m l.Read≠0 then sM m l.Read else sM m l.Write
theorem mq{β:Type}{f:β→Int}{l:List β}(h:bg f l=0):∀ x∈l,f x=0:=by
 unfold bg at h
 cases hq:l.findSome? (fun x=>if f x≠0 then some (f x) else none) with
 | some y=>
  rw [hq] at h
  obtain ⟨x,_,hx⟩:=Jt hq
  split at hx
  ·rename_i h1
   obtain rfl:=aa hx
   exact absurd h h1
  ·cases hx
 | none=>
  intro x hx
  have:=List.findSome?_eq_none_iff.1 hq x hx
  split at this
  ·cases this
  ·rename_i h1;exact Classical.not_not.1 h1
theorem Bz{m:Int}{ps:List bD}(h:sM m ps=0):ps.length≤4∧∀ p∈ps,cz m p=0:=by
 unfold sM at h
 split at h
 ·cases h
 ·exact ⟨by omega,mq h⟩
theorem BA{m:Int}{l:Label}(h:dE m l=0):sM m l.Read=0∧sM m l.Write=0:=by
 unfold dE at h
 split at h
 ·rename_i h1;exact absurd h h1
 ·rename_i h1;exact ⟨Classical.not_not.1 h1,h⟩
theorem Hg(a:aj)(l:Label)(i:Nat)(ps:List bD)(h4:ps.length≤4):lp (fun v=>iv a l i ps v) 0=some (if bg (cz a.Many) ps≠0 then .inl (bg (cz a.Many) ps) else .inr (ps.length,false)):=by
 have h:=Mb (B:=fun v=>iv a l i ps v) ps (fun p=>if cz a.Many p≠0 then some (.inl (cz a.Many p)) else none) id (y:=.inr (ps.length,false))
  (fun k hk hq=>by
   have h0:cz a.Many ps[k]=0:=by
    apply lT
    intro h
    rw [ab h] at hq;cases hq
   simp [iv,hk,Mc,h0,eQ k (by omega)])
  (fun k hk x hq=>by
   by_cases h:cz a.Many ps[k]=0
   ·rw [ad (by simpa using h)] at hq;cases hq
   ·rw [ab h] at hq
    obtain rfl:=aa hq
    simp [iv,hk,Mc,h])
  (by simp [iv])
 have h':lp (fun v=>iv a l i ps v) 0=_:=h
 rw [h']
 congr 1
 unfold bg
 have he:(ps.findSome? fun p=>if cz a.Many p≠0 then some ((.inl (cz a.Many p)):Int⊕(Nat×Bool)) else none)=(ps.findSome? fun p=>if cz a.Many p≠0 then some (cz a.Many p) else none).map .inl:=by
  clear h h' h4
  induction ps with
  | nil=>rfl
  | cons p ps ih=>
   simp only [yZ]
   by_cases h:cz a.Many p≠0
   ·simp only [ab h];rfl
   ·simp only [ad h];exact ih
 rw [he]
 cases hq:ps.findSome? (fun p=>if cz a.Many p≠0 then some (cz a.Many p) else none) with
 | none=>simp
 | some y=>
  obtain ⟨x,_,hx⟩:=Jt hq
  have hy:y≠0:=by
   split at hx
   ·rename_i h1;obtain rfl:=aa hx;exact h1
   ·cases hx
  simp [hy]
theorem Rm(a:aj)(l:Label):qF a l=some (dE a.Many l):=by
 have w0:IntKind.i64.wrap 1=1:=by decide
 have w1:IntKind.i64.wrap 2=2:=by decide
 unfold qF dE sM
 by_cases h1:4<l.Read.length
 ·have:lp (fun v=>cE a l v) 0=some (.inl ()):=fc (by simp [cE,show (4:Int)<(l.Read.length:Int) by omega])
  simp [this,h1]
 have h1':¬(4:Int)<(l.Read.length:Int):=by omega
 have i1:=Hg a l 0 l.Read (by omega)
 by_cases e1:bg (cz a.Many) l.Read=0
 ·have n1:lp (fun v=>cE a l v) 0=lp (fun v=>cE a l v) 1:=lF (by
   simp only [e1,ne_eq,qo,aM] at i1
   simp [cE,h1',i1,w0])
  rw [n1]
  by_cases h2:4<l.Write.length
  ·have:lp (fun v=>cE a l v) 1=some (.inl ()):=fc (by simp [cE,show (4:Int)<(l.Write.length:Int) by omega])
   simp [this,h1,h2,e1]
  have h2':¬(4:Int)<(l.Write.length:Int):=by omega
  have i2:=Hg a l 1 l.Write (by omega)
  by_cases e2:bg (cz a.Many) l.Write=0
  ·have n2:lp (fun v=>cE a l v) 1=lp (fun v=>cE a l v) 2:=lF (by
    simp only [e2,ne_eq,qo,aM] at i2
    simp [cE,h2',i2,w1])
   have n3:lp (fun v=>cE a l v) 2=some (.inr (.inr (2,false))):=fc (by simp [cE])
   simp [n2,n3,h1,h2,e1,e2]
  ·have n2:lp (fun v=>cE a l v) 1=some (.inr (.inl (bg (cz a.Many) l.Write))):=fc (by
    simp only [ne_eq,e2,ot,aq] at i2
    simp [cE,h2',i2])
   simp [n2,h1,h2,e1]
 ·have n1:lp (fun v=>cE a l v) 0=some (.inr (.inl (bg (cz a.Many) l.Read))):=fc (by
   simp only [ne_eq,e1,ot,aq] at i1
   simp [cE,h1',i1])
  simp [n1,h1,e1]
theorem z7{m n:Int} : bL m n=true↔0≤n∧n<m:=by simp [bL]
end Go.Proofs.YtkkkkondjclcnaaGreat.A
