/- Tokens, as plain mathematics: what is skipped, which token begins, what is scanned. -/
import Derived.Test.YtogbakbmphadfaaGreatDoorFinds
import Derived.Test.YtogbakbmphadfaaGreatDoorTypes
import Derived.Test.YtogbakbmphadfaaGreatDoorAbsO
set_option linter.unusedSectionVars false
set_option linter.unusedVariables false
set_option linter.unusedSimpArgs false
namespace Go.Proofs.YtogbakbmphadfaaGreatDoor.A
open Go
def Fg(c:UInt8):Bool:=c.toNat==32||c.toNat==9||c.toNat==10
def pL(c:UInt8):Bool:=decide (97≤c.toNat∧c.toNat≤122)
def cV(c:UInt8):Bool:=decide (48≤c.toNat∧c.toNat≤57)
def en(c:UInt8):Bool:=pL c||cV c
def er:List UInt8:=[123,125,40,41,59,58,33,44,61,43,45,42,60]
def bM:Bool→List UInt8→Nat
 | _,[]=>0
 | true,c::r=>1+bM (c.toNat !=10) r
 | false,c::r=>if c.toNat==35 then 1+bM true r else if Fg c then 1+bM false r else 0
theorem vM:∀ (r:List UInt8)(b:Bool),bM b r≤r.length
 | [],b=>by cases b<;>simp [bM]
 | c::r,true=>by have:=vM r (c.toNat !=10);simp only [bM,List.length_cons];omega
 | c::r,false=>by
  have h1:=vM r true
  have h2:=vM r false
  simp only [bM,List.length_cons]
  split
  ·omega
  ·split<;>omega
def bA(p:UInt8→Bool)(r:List UInt8):Nat:=(r.takeWhile p).length
theorem q9(p:UInt8→Bool)(c:UInt8)(r:List UInt8):bA p (c::r)=if p c then 1+bA p r else 0:=by
 unfold bA
 cases h:p c<;>simp [h];omega
theorem lj(p:UInt8→Bool)(r:List UInt8):bA p r≤r.length:=by
 unfold bA;exact (List.takeWhile_sublist p).length_le
def qv(r:List UInt8):Bool:=match r with
 | d::_=>d.toNat==61
 | []=>false
def qw(c:UInt8)(r:List UInt8):Int×Nat:=if pL c=true then (1,1+bA en r) else if cV c=true then (2,1+bA cV r) else if (c.toNat==61&&qv r)=true then (3,2) else if er.any (·==c)=true then (3,1) else (0,0)
def aV:List UInt8→Int×Nat
 | []=>(0,0)
 | c::r=>qw c r
def dZ(k:Int)(n:Nat)(c:UInt8):Int:=if k=0 then 1 else if k=1∧12<n∨k=2∧7<n then 2 else if k=2∧1<n∧c.toNat=48 then 1 else 0
theorem Fh(r:List UInt8):(aV r).2≤r.length:=by
 cases r with
 | nil=>simp [aV]
 | cons c r=>
  have h1:=lj en r
  have h2:=lj cV r
  show (qw c r).2≤_
  unfold qw
  rw [List.length_cons]
  by_cases g1:pL c=true
  ·rw [if_pos g1];show 1+bA en r≤_;omega
  rw [if_neg g1]
  by_cases g2:cV c=true
  ·rw [if_pos g2];show 1+bA cV r≤_;omega
  rw [if_neg g2]
  by_cases g3:(c.toNat==61&&qv r)=true
  ·rw [if_pos g3]
   cases r with
   | nil=>simp [qv] at g3
   | cons d r=>show 2≤_;simp
  rw [if_neg g3]
  by_cases g4:er.any (·==c)=true
  ·rw [if_pos g4];show 1≤_;omega
  ·rw [if_neg g4];show 0≤_;omega
theorem Jl{r:List UInt8}(h:(aV r).1≠0):0<(aV r).2:=by
 cases r with
 | nil=>simp [aV] at h
 | cons c r=>
  have h':(qw c r).1≠0:=h
  show 0<(qw c r).2
  unfold qw at h' ⊢
  by_cases g1:pL c=true
  ·rw [if_pos g1];show 0<1+bA en r;omega
  rw [if_neg g1] at h' ⊢
  by_cases g2:cV c=true
  ·rw [if_pos g2];show 0<1+bA cV r;omega
  rw [if_neg g2] at h' ⊢
  by_cases g3:(c.toNat==61&&qv r)=true
  ·rw [if_pos g3];show 0<2;omega
  rw [if_neg g3] at h' ⊢
  by_cases g4:er.any (·==c)=true
  ·rw [if_pos g4];show 0<1;omega
  ·rw [if_neg g4] at h';exact absurd rfl h'
def dK:Nat→Nat→List UInt8→List Token×Int×Int
 | 0,_,_=>([],0,0)
 | n+1,at_,r=>match r.drop (bM false r) with
  | []=>([],0,0)
  | c::q=>if dZ (aV (c::q)).1 (aV (c::q)).2 c≠0 then ([],((at_+bM false r:Nat):Int),dZ (aV (c::q)).1 (aV (c::q)).2 c)
   else match dK n (at_+bM false r+(aV (c::q)).2) ((c::q).drop (aV (c::q)).2) with
    | (ts,p,e)=>if e≠0 then ([],p,e) else (⟨(aV (c::q)).1,((at_+bM false r:Nat):Int),(c::q).take (aV (c::q)).2⟩::ts,0,0)
def sd(s:List UInt8):List Token×Int×Int:=if 6000<s.length then ([],0,2) else dK (s.length+1) 0 s
theorem KJ:∀ {n a:Nat}{r:List UInt8},(dK n a r).2.2=0→(dK n a r).2.1=0
 | 0,_,_,_=>rfl
 | n+1,a,r,h=>by
  unfold dK at h ⊢
  split at h
  ·rfl
  ·rename_i c q hq
   split at h
   ·rename_i hE;exact absurd h hE
   ·rename_i hE
    rw [if_neg hE]
    split at h
    rename_i ts p e hR
    by_cases he:e≠0
    ·rw [if_pos he] at h;exact absurd h he
    ·simp only [if_neg he]
theorem Jm:∀ {n a:Nat}{r:List UInt8},(dK n a r).2.2≠0→(dK n a r).1=[]
 | 0,_,_,_=>rfl
 | n+1,a,r,h=>by
  unfold dK at h ⊢
  split at h
  ·rfl
  ·rename_i c q hq
   split at h
   ·rename_i hE;rw [if_pos hE]
   ·rename_i hE
    rw [if_neg hE]
    split at h
    rename_i ts p e hR
    by_cases he:e≠0
    ·simp only [if_pos he]
    ·rw [if_neg he] at h;exact absurd rfl h
theorem xp{n a:Nat}{r:List UInt8}(h:r.drop (bM false r)=[]):dK (n+1) a r=([],0,0):=by
 unfold dK;rw [h]
theorem Dr{n a:Nat}{r:List UInt8}{c:UInt8}{q:List UInt8}(h:r.drop (bM false r)=c::q)(hE:dZ (aV (c::q)).1 (aV (c::q)).2 c≠0):dK (n+1) a r=([],((a+bM false r:Nat):Int),dZ (aV (c::q)).1 (aV (c::q)).2 c):=by
 unfold dK;rw [h];simp only [if_pos hE]
theorem xq{n a:Nat}{r:List UInt8}{c:UInt8}{q:List UInt8}(h:r.drop (bM false r)=c::q)(hE:dZ (aV (c::q)).1 (aV (c::q)).2 c=0) :
  dK (n+1) a r=if (dK n (a+bM false r+(aV (c::q)).2) ((c::q).drop (aV (c::q)).2)).2.2≠0 then ([],(dK n (a+bM false r+(aV (c::q)).2) ((c::q).drop (aV (c::q)).2)).2.1,(dK n (a+bM false r+(aV (c::q)).2) ((c::q).drop (aV (c::q)).2)).2.2)
   else (⟨(aV (c::q)).1,((a+bM false r:Nat):Int),(c::q).take (aV (c::q)).2⟩::(dK n (a+bM false r+(aV (c::q)).2) ((c::q).drop (aV (c::q)).2)).1,0,0):=by
 rw [show dK (n+1) a r=(match r.drop (bM false r) with
  | []=>(([],0,0):List Token×Int×Int)
  | c::q=>if dZ (aV (c::q)).1 (aV (c::q)).2 c≠0 then ([],((a+bM false r:Nat):Int),dZ (aV (c::q)).1 (aV (c::q)).2 c)
   else match dK n (a+bM false r+(aV (c::q)).2) ((c::q).drop (aV (c::q)).2) with
    | (ts,p,e)=>if e≠0 then ([],p,e) else (⟨(aV (c::q)).1,((a+bM false r:Nat):Int),(c::q).take (aV (c::q)).2⟩::ts,0,0)) from rfl,h]
 simp only [if_neg (show ¬dZ (aV (c::q)).1 (aV (c::q)).2 c≠0 from fun h=>h hE)]
theorem Qi(c:UInt8):c.toNat<256:=c.toNat_lt
theorem Mw(n:Nat)(h:n<256):IntKind.i64.wrap (n:Int)=n:=wrap64 (by omega) (by omega)
theorem Ao(n:Nat)(h:n<100000):IntKind.i64.wrap ((n:Int)+1)=(n:Int)+1:=wrap64 (by omega) (by omega)
theorem eY{n:Int}(h1 : -1000000000<n)(h2:n<1000000000):IntKind.i64.wrap n=n:=wrap64 (by omega) (by omega)
variable [Lp]
theorem xr{α ε:Type}{B:α→Option (α⊕ε)}(s:List UInt8)(p:UInt8→Bool)(f:Nat→α)(x1:Nat→ε)(x2:ε)(lo:Nat)
  (h1:∀ k (h:k<s.length),lo≤k→p s[k]=true→B (f k)=some (.inl (f (k+1)))) (h2:∀ k (h:k<s.length),lo≤k→p s[k]=false→B (f k)=some (.inr (x1 k))) (h3:B (f s.length)=some (.inr x2)) :
  ∀ k,lo≤k→k≤s.length→lp B (f k)=some (if k+bA p (s.drop k)<s.length then x1 (k+bA p (s.drop k)) else x2):=by
 have:∀ m k,lo≤k→k+m=s.length→lp B (f k)=some (if k+bA p (s.drop k)<s.length then x1 (k+bA p (s.drop k)) else x2):=by
  intro m
  induction m with
  | zero=>
   intro k hlo hk
   obtain rfl:k=s.length:=by omega
   rw [List.drop_length]
   simp only [bA,List.takeWhile_nil,List.length_nil,Nat.add_zero,Nat.lt_irrefl,if_false]
   exact bZ h3
  | succ m ih=>
   intro k hlo hk
   have hlt:k<s.length:=by omega
   rw [List.drop_eq_getElem_cons hlt,q9]
   cases hp:p s[k] with
   | true=>
    rw [de (h1 k hlt hlo hp),ih (k+1) (by omega) (by omega)]
    simp only [if_true]
    rw [show k+(1+bA p (s.drop (k+1)))=k+1+bA p (s.drop (k+1)) by omega]
   | false=>
    simp only [Bool.false_eq_true,if_false,Nat.add_zero,hlt,if_true]
    exact bZ (h2 k hlt hlo hp)
 exact fun k hlo hk=>this (s.length - k) k hlo (by omega)
theorem wC:∀ (l:List UInt8)(c:UInt8),decide (0≤Lib.indexByte l c)=l.any (·==c)
 | [],c=>by simp [Lib.indexByte]
 | b::l,c=>by
  have ih:=wC l c
  have hm : -1≤Lib.indexByte l c:=by
   clear ih
   induction l with
   | nil=>simp [Lib.indexByte]
   | cons d l ih=>
    unfold Lib.indexByte
    split
    ·omega
    split
    ·omega
    ·omega
  unfold Lib.indexByte
  rw [List.any_cons]
  cases hb:(b==c) with
  | true=>simp
  | false=>
   rw [Bool.false_or,←ih]
   simp only [Bool.false_eq_true,if_false]
   by_cases h:Lib.indexByte l c= -1
   ·simp [h]
   ·have:(Lib.indexByte l c== -1)=false:=by simpa using h
    simp only [this,Bool.false_eq_true,if_false]
    rw [Bool.eq_iff_iff];simp;omega
end Go.Proofs.YtogbakbmphadfaaGreatDoor.A
