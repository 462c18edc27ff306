/- Tokens, as plain mathematics: what is skipped, which token begins, what is scanned. -/
import Derived.Test.YtphgedfhcncobaaGreatDoorFinds
import Derived.Test.YtphgedfhcncobaaGreatDoorTypes
import Derived.Test.YtphgedfhcncobaaGreatDoorAbsO
set_option linter.unusedSectionVars false
set_option linter.unusedVariables false
set_option linter.unusedSimpArgs false
namespace Go.Proofs.YtphgedfhcncobaaGreatDoor.A
open Go
def AA(c:UInt8):Bool:=c.toNat==32||c.toNat==9||c.toNat==10
def mO(c:UInt8):Bool:=decide (97≤c.toNat∧c.toNat≤122)
def b6(c:UInt8):Bool:=decide (48≤c.toNat∧c.toNat≤57)
def df(c:UInt8):Bool:=mO c||b6 c
def dm:List UInt8:=[123,125,40,41,59,58,33,44,61,43,45,42,60]
def bm:Bool→List UInt8→Nat
 | _,[]=>0
 | true,c::r=>1+bm (c.toNat !=10) r
 | false,c::r=>if c.toNat==35 then 1+bm true r else if AA c then 1+bm false r else 0
theorem rW:∀ (r:List UInt8)(b:Bool),bm b r≤r.length
 | [],b=>by cases b<;>simp [bm]
 | c::r,true=>by have:=rW r (c.toNat !=10);simp only [bm,List.length_cons];omega
 | c::r,false=>by
  have h1:=rW r true
  have h2:=rW r false
  simp only [bm,List.length_cons]
  split
  ·omega
  ·split<;>omega
def aZ(p:UInt8→Bool)(r:List UInt8):Nat:=(r.takeWhile p).length
theorem ox(p:UInt8→Bool)(c:UInt8)(r:List UInt8):aZ p (c::r)=if p c then 1+aZ p r else 0:=by
 unfold aZ
 cases h:p c<;>simp [h];omega
theorem jk(p:UInt8→Bool)(r:List UInt8):aZ p r≤r.length:=by
 unfold aZ;exact (List.takeWhile_sublist p).length_le
def nH(r:List UInt8):Bool:=match r with
 | d::_=>d.toNat==61
 | []=>false
def nI(c:UInt8)(r:List UInt8):Int×Nat:=if mO c=true then (1,1+aZ df r) else if b6 c=true then (2,1+aZ b6 r) else if (c.toNat==61&&nH r)=true then (3,2) else if dm.any (·==c)=true then (3,1) else (0,0)
def aF:List UInt8→Int×Nat
 | []=>(0,0)
 | c::r=>nI c r
def dh(k:Int)(n:Nat)(c:UInt8):Int:=if k=0 then 1 else if k=1∧12<n∨k=2∧7<n then 2 else if k=2∧1<n∧c.toNat=48 then 1 else 0
theorem AB(r:List UInt8):(aF r).2≤r.length:=by
 cases r with
 | nil=>simp [aF]
 | cons c r=>
  have h1:=jk df r
  have h2:=jk b6 r
  show (nI c r).2≤_
  unfold nI
  rw [List.length_cons]
  by_cases g1:mO c=true
  ·rw [if_pos g1];show 1+aZ df r≤_;omega
  rw [if_neg g1]
  by_cases g2:b6 c=true
  ·rw [if_pos g2];show 1+aZ b6 r≤_;omega
  rw [if_neg g2]
  by_cases g3:(c.toNat==61&&nH r)=true
  ·rw [if_pos g3]
   cases r with
   | nil=>simp [nH] at g3
   | cons d r=>show 2≤_;simp
  rw [if_neg g3]
  by_cases g4:dm.any (·==c)=true
  ·rw [if_pos g4];show 1≤_;omega
  ·rw [if_neg g4];show 0≤_;omega
theorem DY{r:List UInt8}(h:(aF r).1≠0):0<(aF r).2:=by
 cases r with
 | nil=>simp [aF] at h
 | cons c r=>
  have h':(nI c r).1≠0:=h
  show 0<(nI c r).2
  unfold nI at h' ⊢
  by_cases g1:mO c=true
  ·rw [if_pos g1];show 0<1+aZ df r;omega
  rw [if_neg g1] at h' ⊢
  by_cases g2:b6 c=true
  ·rw [if_pos g2];show 0<1+aZ b6 r;omega
  rw [if_neg g2] at h' ⊢
  by_cases g3:(c.toNat==61&&nH r)=true
  ·rw [if_pos g3];show 0<2;omega
  rw [if_neg g3] at h' ⊢
  by_cases g4:dm.any (·==c)=true
  ·rw [if_pos g4];show 0<1;omega
  ·rw [if_neg g4] at h';exact absurd rfl h'
def cK:Nat→Nat→List UInt8→List Token×Int×Int
 | 0,_,_=>([],0,0)
 | n+1,at_,r=>match r.drop (bm false r) with
  | []=>([],0,0)
  | c::q=>if dh (aF (c::q)).1 (aF (c::q)).2 c≠0 then ([],((at_+bm false r:Nat):Int),dh (aF (c::q)).1 (aF (c::q)).2 c)
   else match cK n (at_+bm false r+(aF (c::q)).2) ((c::q).drop (aF (c::q)).2) with
    | (ts,p,e)=>if e≠0 then ([],p,e) else (⟨(aF (c::q)).1,((at_+bm false r:Nat):Int),(c::q).take (aF (c::q)).2⟩::ts,0,0)
def oZ(s:List UInt8):List Token×Int×Int:=if 6000<s.length then ([],0,2) else cK (s.length+1) 0 s
theorem EX:∀ {n a:Nat}{r:List UInt8},(cK n a r).2.2=0→(cK n a r).2.1=0
 | 0,_,_,_=>rfl
 | n+1,a,r,h=>by
  unfold cK at h ⊢
  split at h
  ·rfl
  ·rename_i c q hq
   split at h
   ·rename_i hE;exact absurd h hE
   ·rename_i hE
    rw [if_neg hE]
    split at h
    rename_i ts p e hR
    by_cases he:e≠0
    ·rw [if_pos he] at h;exact absurd h he
    ·simp only [if_neg he]
theorem DZ:∀ {n a:Nat}{r:List UInt8},(cK n a r).2.2≠0→(cK n a r).1=[]
 | 0,_,_,_=>rfl
 | n+1,a,r,h=>by
  unfold cK at h ⊢
  split at h
  ·rfl
  ·rename_i c q hq
   split at h
   ·rename_i hE;rw [if_pos hE]
   ·rename_i hE
    rw [if_neg hE]
    split at h
    rename_i ts p e hR
    by_cases he:e≠0
    ·simp only [if_pos he]
    ·rw [if_neg he] at h;exact absurd rfl h
theorem tj{n a:Nat}{r:List UInt8}(h:r.drop (bm false r)=[]):cK (n+1) a r=([],0,0):=by
 unfold cK;rw [h]
theorem yU{n a:Nat}{r:List UInt8}{c:UInt8}{q:List UInt8}(h:r.drop (bm false r)=c::q)(hE:dh (aF (c::q)).1 (aF (c::q)).2 c≠0):cK (n+1) a r=([],((a+bm false r:Nat):Int),dh (aF (c::q)).1 (aF (c::q)).2 c):=by
 unfold cK;rw [h];simp only [if_pos hE]
theorem tk{n a:Nat}{r:List UInt8}{c:UInt8}{q:List UInt8}(h:r.drop (bm false r)=c::q)(hE:dh (aF (c::q)).1 (aF (c::q)).2 c=0) :
  cK (n+1) a r=if (cK n (a+bm false r+(aF (c::q)).2) ((c::q).drop (aF (c::q)).2)).2.2≠0 then ([],(cK n (a+bm false r+(aF (c::q)).2) ((c::q).drop (aF (c::q)).2)).2.1,(cK n (a+bm false r+(aF (c::q)).2) ((c::q).drop (aF (c::q)).2)).2.2)
   else (⟨(aF (c::q)).1,((a+bm false r:Nat):Int),(c::q).take (aF (c::q)).2⟩::(cK n (a+bm false r+(aF (c::q)).2) ((c::q).drop (aF (c::q)).2)).1,0,0):=by
 rw [show cK (n+1) a r=(match r.drop (bm false r) with
  | []=>(([],0,0):List Token×Int×Int)
  | c::q=>if dh (aF (c::q)).1 (aF (c::q)).2 c≠0 then ([],((a+bm false r:Nat):Int),dh (aF (c::q)).1 (aF (c::q)).2 c)
   else match cK n (a+bm false r+(aF (c::q)).2) ((c::q).drop (aF (c::q)).2) with
    | (ts,p,e)=>if e≠0 then ([],p,e) else (⟨(aF (c::q)).1,((a+bm false r:Nat):Int),(c::q).take (aF (c::q)).2⟩::ts,0,0)) from rfl,h]
 simp only [if_neg (show ¬dh (aF (c::q)).1 (aF (c::q)).2 c≠0 from fun h=>h hE)]
theorem I5(c:UInt8):c.toNat<256:=c.toNat_lt
theorem Gm(n:Nat)(h:n<256):IntKind.i64.wrap (n:Int)=n:=wrap64 (by omega) (by omega)
theorem vG(n:Nat)(h:n<100000):IntKind.i64.wrap ((n:Int)+1)=(n:Int)+1:=wrap64 (by omega) (by omega)
theorem eR{n:Int}(h1 : -1000000000<n)(h2:n<1000000000):IntKind.i64.wrap n=n:=wrap64 (by omega) (by omega)
variable [Lp]
theorem tl{α ε:Type}{B:α→Option (α⊕ε)}(s:List UInt8)(p:UInt8→Bool)(f:Nat→α)(x1:Nat→ε)(x2:ε)(lo:Nat)
  (h1:∀ k (h:k<s.length),lo≤k→p s[k]=true→B (f k)=some (.inl (f (k+1)))) (h2:∀ k (h:k<s.length),lo≤k→p s[k]=false→B (f k)=some (.inr (x1 k))) (h3:B (f s.length)=some (.inr x2)) :
  ∀ k,lo≤k→k≤s.length→lp B (f k)=some (if k+aZ p (s.drop k)<s.length then x1 (k+aZ p (s.drop k)) else x2):=by
 have:∀ m k,lo≤k→k+m=s.length→lp B (f k)=some (if k+aZ p (s.drop k)<s.length then x1 (k+aZ p (s.drop k)) else x2):=by
  intro m
  induction m with
  | zero=>
   intro k hlo hk
   obtain rfl:k=s.length:=by omega
   rw [List.drop_length]
   simp only [aZ,List.takeWhile_nil,List.length_nil,Nat.add_zero,Nat.lt_irrefl,if_false]
   exact b5 h3
  | succ m ih=>
   intro k hlo hk
   have hlt:k<s.length:=by omega
   rw [List.drop_eq_getElem_cons hlt,ox]
   cases hp:p s[k] with
   | true=>
    rw [fG (h1 k hlt hlo hp),ih (k+1) (by omega) (by omega)]
    simp only [if_true]
    rw [show k+(1+aZ p (s.drop (k+1)))=k+1+aZ p (s.drop (k+1)) by omega]
   | false=>
    simp only [Bool.false_eq_true,if_false,Nat.add_zero,hlt,if_true]
    exact b5 (h2 k hlt hlo hp)
 exact fun k hlo hk=>this (s.length - k) k hlo (by omega)
theorem sH:∀ (l:List UInt8)(c:UInt8),decide (0≤Lib.indexByte l c)=l.any (·==c)
 | [],c=>by simp [Lib.indexByte]
 | b::l,c=>by
  have ih:=sH l c
  have hm : -1≤Lib.indexByte l c:=by
   clear ih
   induction l with
   | nil=>simp [Lib.indexByte]
   | cons d l ih=>
    unfold Lib.indexByte
    split
    ·omega
    split
    ·omega
    ·omega
  unfold Lib.indexByte
  rw [List.any_cons]
  cases hb:(b==c) with
  | true=>simp
  | false=>
   rw [Bool.false_or,←ih]
   simp only [Bool.false_eq_true,if_false]
   by_cases h:Lib.indexByte l c= -1
   ·simp [h]
   ·have:(Lib.indexByte l c== -1)=false:=by simpa using h
    simp only [this,Bool.false_eq_true,if_false]
    rw [Bool.eq_iff_iff];simp;omega
end Go.Proofs.YtphgedfhcncobaaGreatDoor.A
