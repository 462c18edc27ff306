/- Plain functions: loops as least fixed points, and how what they answer is told of the abstract run. -/
import Derived.Test.YtphgedfhcncobaaGreatDoorBase
set_option linter.unusedSectionVars false
set_option linter.unusedVariables false
set_option linter.unusedSimpArgs false
set_option linter.constructorNameAsVariable false
namespace Go.Proofs.YtphgedfhcncobaaGreatDoor.A
open Go
def mJ{α ε:Type}(B:α→Option (α⊕ε)):Nat→α→Option ε
 | 0,_=>none
 | n+1,v=>match B v with
  | some (.inl w)=>mJ B n w
  | some (.inr x)=>some x
  | none=>none
class Lp where
 run : {α ε:Type}→(α→Option (α⊕ε))→α→Option ε
 sound:∀ {α ε:Type}{B:α→Option (α⊕ε)}{v:α}{x:ε},run B v=some x→∃ n,mJ B n v=some x
 told:∀ {α ε:Type}{B:α→Option (α⊕ε)}{v:α}{x:ε}(n:Nat),mJ B n v=some x→run B v=some x
abbrev lp[Lp]{α ε:Type}(B:α→Option (α⊕ε))(v:α):Option ε:=Lp.run B v
theorem uM[Lp]{α ε:Type}{B:α→Option (α⊕ε)}{v:α}{x:ε}(h:lp B v=some x):∃ n,mJ B n v=some x:=Lp.sound h
theorem CV[Lp]{α ε:Type}{B:α→Option (α⊕ε)}{v:α}{x:ε}(n:Nat)(h:mJ B n v=some x):lp B v=some x:=Lp.told n h
theorem Al{α ε:Type}{B:α→Option (α⊕ε)} : ∀ {n:Nat}{v:α}{x:ε},mJ B n v=some x→mJ B (n+1) v=some x
 | 0,_,_,h=>by cases h
 | n+1,v,x,h=>by
  rw [mJ] at h ⊢
  split at h
  ·exact Al h
  ·exact h
  ·exact h
theorem DU{α ε:Type}{B:α→Option (α⊕ε)}{n m:Nat}{v:α}{x:ε}(hm:n≤m)(h:mJ B n v=some x):mJ B m v=some x:=by
 induction hm with
 | refl=>exact h
 | step _ ih=>exact Al ih
theorem GH{α ε:Type}{B:α→Option (α⊕ε)}{n m:Nat}{v:α}{x y:ε}(h:mJ B n v=some x)(h':mJ B m v=some y):x=y:=by
 have h1:=DU (Nat.le_max_left n m) h
 rw [DU (Nat.le_max_right n m) h'] at h1
 exact (Option.some.inj h1).symm
theorem DV:Nonempty Lp:=by
 refine ⟨⟨fun {α ε} B v=>open Classical in if h:∃ n,(mJ B n v).isSome then mJ B h.choose v else none,fun {α ε B v x} h=>?_,fun {α ε B v x} n h=>?_⟩⟩
 ·split at h
  ·rename_i hn;exact ⟨_,h⟩
  ·cases h
 ·have hn:∃ n,(mJ B n v).isSome:=⟨n,by rw [h];rfl⟩
  rw [dif_pos hn]
  have:=hn.choose_spec
  obtain ⟨y,hy⟩:=Option.isSome_iff_exists.1 this
  rw [hy,GH hy h]
variable [Lp]
section
variable {α ε:Type}{B:α→Option (α⊕ε)}
theorem b5{v:α}{x:ε}(h:B v=some (.inr x)):lp B v=some x:=CV 1 (by rw [mJ,h])
theorem fG{v w:α}(h:B v=some (.inl w)):lp B v=lp B w:=by
 cases hw:lp B w with
 | some x=>obtain ⟨n,hn⟩:=uM hw;exact CV (n+1) (by rw [mJ,h];exact hn)
 | none=>
  cases hv:lp B v with
  | none=>rfl
  | some x=>
   obtain ⟨n,hn⟩:=uM hv
   cases n with
   | zero=>cases hn
   | succ n=>rw [mJ,h] at hn;rw [CV n hn] at hw;cases hw
end
def bF{α ε:Type}(E:Env)(l:bC)(S:α→St)(X:ε→aE×St)(v:α):α⊕ε→Prop
 | .inl w=>(run G Ω0 E l.x (S v)).bind (kept l)=some (S w)
 | .inr x=>run G Ω0 E l.x (S v)=some (X x)∧(X x).1≠.nrm
theorem GI{α ε:Type}{E:Env}{B:α→Option (α⊕ε)}(l:bC)(S:α→St)(X:ε→aE×St)(hk:∀ v,(S v).a7 l.kf l.kb=S v)(hb:∀ v o,B v=some o→bF E l S X v o){v:α}{x:ε}(h:lp B v=some x):wN G Ω0 E l (S v)=some (X x):=by
 obtain ⟨n,hn⟩:=uM h
 clear h
 induction n generalizing v with
 | zero=>cases hn
 | succ n ih=>
  rw [mJ] at hn
  split at hn
  ·rename_i w hw
   rw [DM (by rw [hk];exact hb v _ hw)]
   exact ih hn
  ·rename_i y hy
   obtain rfl:=Option.some.inj hn
   obtain ⟨h1,h2⟩:=hb v _ hy
   exact EG (by rw [hk];exact h1) h2
  ·cases hn
def boxes(dp:Nat)(bx:List (Nat×List AV))(hp:HP):HP:=fun k=>if k.dp=dp then an bx k.d else hp k
theorem IU{hp:HP}{k k':Key}{cs:List AV}(h:k≠k'):aP hp k' cs k=hp k:=by simp only [aP,if_neg h]
theorem GJ{dp:Nat}{bx:List (Nat×List AV)}{hp:HP}{k:Key}{c:List AV}(h:k.dp≠dp):aP (boxes dp bx hp) k c=boxes dp bx (aP hp k c):=by
 funext q
 simp only [aP,boxes]
 by_cases h1:q=k
 ·subst h1;simp [h]
 ·simp [h1]
theorem CW{bx:List (Nat×List AV)}{d d':Nat}{c:List AV}(h:(an bx d).isSome=true):an (fU bx d c) d'=if d'=d then some c else an bx d':=by
 induction bx with
 | nil=>simp [an] at h
 | cons x bx ih=>
  obtain ⟨k,cs⟩:=x
  by_cases hk:k=d
  ·subst hk
   by_cases hd:d'=k
   ·subst hd;simp [fU,an]
   ·have:¬k=d':=fun e=>hd e.symm
    simp [fU,an,hd,this]
  ·have h2:(an bx d).isSome=true:=by simpa [an,hk] using h
   have:=ih h2
   by_cases hd:k=d'
   ·subst hd
    simp [fU,an,hk]
   ·simp [fU,an,hk,hd,this]
theorem GK{dp:Nat}{bx:List (Nat×List AV)}{hp:HP}{d:Nat}{c:List AV}(h:(an bx d).isSome=true):aP (boxes dp bx hp) ⟨dp,d⟩ c=boxes dp (fU bx d c) hp:=by
 funext q
 obtain ⟨qd,q'⟩:=q
 simp only [aP,boxes,CW h,Key.mk.injEq]
 by_cases h1:qd=dp
 ·simp [h1]
 ·simp [h1]
theorem ik{dp:Nat}{bx bx1:List (Nat×List AV)}{hp:HP}{d:Nat}{c:List AV}(h:(an bx d).isSome=true)(hb:fU bx d c=bx1):aP (boxes dp bx hp) ⟨dp,d⟩ c=boxes dp bx1 hp:=hb▸GK h
theorem rU{dp:Nat}{bx:List (Nat×List AV)}{hp hp1:HP}{k:Key}{c:List AV}(h:k.dp≠dp)(hh:aP hp k c=hp1):aP (boxes dp bx hp) k c=boxes dp bx hp1:=hh▸GJ h
def td:List Nat→Bool
 | []=>true
 | x::l=>l.all (fun y=>x !=y)&&td l
theorem Am:∀ {l:List Nat},td l=true→l.Nodup
 | [],_=>List.nodup_nil
 | x::l,h=>by
  simp only [td,Bool.and_eq_true,List.all_eq_true,bne_iff_ne,ne_eq] at h
  exact List.nodup_cons.2 ⟨fun hm=>h.1 x hm rfl,Am h.2⟩
theorem BL{dp:Nat}{bx bx':List (Nat×List AV)}{hp:HP}(h:bx'.map Prod.fst=bx.map Prod.fst)(hn0:td (bx.map Prod.fst)=true):iS dp (boxes dp bx' hp) bx=bx':=by
 have hn:=Am hn0
 clear hn0
 have key:∀ (l l':List (Nat×List AV)),l'.map Prod.fst=l.map Prod.fst→(l.map Prod.fst).Nodup→(∀ x∈l',an bx' x.1=some x.2)→iS dp (boxes dp bx' hp) l=l':=by
  intro l
  induction l with
  | nil=>intro l' hl _ _;cases l' with
   | nil=>rfl
   | cons _ _=>cases hl
  | cons y l ih=>
   intro l' hl hnd hg
   cases l' with
   | nil=>cases hl
   | cons x l'=>
    simp only [List.map_cons,List.cons.injEq] at hl
    obtain ⟨d,cs⟩:=y
    obtain ⟨d',cs'⟩:=x
    obtain ⟨rfl,hl⟩:=hl
    have h1:=hg (d',cs') (by simp)
    simp only [iS,boxes,if_true,h1]
    rw [ih l' hl (List.nodup_cons.1 hnd).2 fun x hx=>hg x (by simp [hx])]
 refine key bx bx' h hn fun x hx=>?_
 have hn':(bx'.map Prod.fst).Nodup:=by rw [h];exact hn
 clear key h hn
 induction bx' with
 | nil=>cases hx
 | cons y bx' ih=>
  obtain ⟨d,cs⟩:=y
  rcases List.mem_cons.1 hx with rfl | hx
  ·simp [an]
  ·have hne:¬d=x.1:=fun e=>(List.nodup_cons.1 hn').1 (List.mem_map.2 ⟨x,hx,e.symm⟩)
   simp only [an,if_neg hne]
   exact ih hx (List.nodup_cons.1 hn').2
def dw(dp:Nat)(hp:HP):Prop:=∀ k:Key,¬k.dp<dp→hp k=none
theorem il(dp:Nat):dw dp (fun _=>none):=fun _ _=>rfl
theorem ka{dp:Nat}{hp:HP}{k:Key}{c:List AV}(hk:k.dp<dp)(h:dw dp hp):dw dp (aP hp k c):=by
 intro q hq
 have:q≠k:=fun e=>by subst e;exact hq hk
 rw [IU this];exact h q hq
theorem ft{dp:Nat}{bx:List (Nat×List AV)}{hp:HP}(h:dw dp hp):dw (dp+1) (boxes dp bx hp):=by
 intro q hq
 simp only [boxes,if_neg (show ¬q.dp=dp by omega)]
 exact h q (by omega)
theorem DW{dp:Nat}{bx:List (Nat×List AV)}{hp:HP}(h:dw dp hp):(fun k:Key=>if k.dp<dp then boxes dp bx hp k else none)=hp:=by
 funext q
 by_cases h1:q.dp<dp
 ·simp only [if_pos h1,boxes,if_neg (show ¬q.dp=dp by omega)]
 ·rw [if_neg h1,h q h1]
theorem tW{dp d:Nat}{k:Key}(h:k.dp<dp):k≠⟨dp,d⟩:=fun e=>by subst e;exact Nat.lt_irrefl _ h
theorem nG{E:Env}{f:FuncId}{ys:List AV}{h1 h1' h2 h2':HP}{x:AV}(e1:h1=h1')(e2:h2=h2')(h:call G Ω0 E f ys h1=some (.ret x,h2)):call G Ω0 E f ys h1'=some (.ret x,h2'):=e1▸e2▸h
theorem IV{R:Type}{c:Prop}[Decidable c]{A B:Option R}{r:R}{P:Prop}(h:(if c then A else B)=some r)(h1:c→A=some r→P)(h2:¬c→B=some r→P):P:=by
 by_cases hc:c
 ·exact h1 hc (by rwa [if_pos hc] at h)
 ·exact h2 hc (by rwa [if_neg hc] at h)
theorem IW{R:Type}{c:Bool}{A B:Option R}{r:R}{P:Prop}(h:(if c=true then A else B)=some r)(h1:c=true→A=some r→P)(h2:c=false→B=some r→P):P:=by
 cases c with
 | true=>exact h1 rfl h
 | false=>exact h2 rfl h
def gC(n:Int):Option Nat:=if 0≤n then some n.toNat else none
theorem GL{n:Int}{j:Nat}(h:gC n=some j):n=(j:Int):=by
 unfold gC at h;split at h
 ·obtain rfl:=Option.some.inj h;omega
 ·cases h
theorem cH(n:Nat):gC (n:Int)=some n:=by simp [gC]
theorem GM{n:Int}(h:0≤n):gC n=some n.toNat:=by simp [gC,h]
theorem aY{R:Type}{c:Prop}[Decidable c]{A:Option R}{r:R}{P:Prop}(h:(if c then A else none)=some r)(h1:c→A=some r→P):P:=
 IV h h1 fun _ h=>by cases h
theorem NC{R:Type}{r:R}{P:Prop}(h:(none:Option R)=some r):P:=by cases h
theorem IX:aE.ret≠.nrm:=by intro h;cases h
theorem ND(n:Nat):aE.ex n≠.nrm:=by intro h;cases h
def zW{α ε:Type}(S:α→St)(X:ε→aE×St):α⊕ε→St⊕(aE×St)
 | .inl w=>.inl (S w)
 | .inr x=>.inr (X x)
theorem cu{Q R:Type}{m:Option Q}{k:Q→Option R}{r:R}{T:Q→Prop}(h:m.bind k=some r)(h1:∀ x,m=some x→k x=some r→T x):∃ x,T x:=by
 obtain ⟨x,h2,h3⟩:=Option.bind_eq_some_iff.1 h
 exact ⟨x,h1 x h2 h3⟩
theorem mK{R:Type}{n:Int}{k:Nat→Option R}{r:R}{T:Nat→Prop}(h:(gC n).bind k=some r)(h1:∀ j:Nat,n=(j:Int)→k j=some r→T j):∃ j,T j:=
 cu h fun j hj h=>h1 j (GL hj) h
theorem bq{R:Type}{c:Prop}[Decidable c]{A B:Option R}{r:R}{T S:Prop}(h:(if c then A else B)=some r)(h1:c→A=some r→T)(h2:¬c→B=some r→S):T∨S:=
 IV h (fun hc h=>.inl (h1 hc h)) fun hc h=>.inr (h2 hc h)
theorem aA{R:Type}{c:Bool}{A B:Option R}{r:R}{T S:Prop}(h:(if c=true then A else B)=some r)(h1:c=true→A=some r→T)(h2:c=false→B=some r→S):T∨S:=
 IW h (fun hc h=>.inl (h1 hc h)) fun hc h=>.inr (h2 hc h)
theorem P5{b0 b1 R:Type}{m:Option (b0⊕b1)}{K:b0⊕b1→Option R}{r:R}{T0:b0→Prop}{T1:b1→Prop}(h:m.bind K=some r)(p0:∀ a,m=some (.inl a)→K (.inl a)=some r→T0 a)(p1:∀ a,m=some (.inr a)→K (.inr a)=some r→T1 a):(∃ a,T0 a)∨(∃ a,T1 a):=by
 obtain ⟨x,h2,h3⟩:=Option.bind_eq_some_iff.1 h
 match x,h2,h3 with
 | .inl a,h2,h3=>exact .inl ⟨a,p0 a h2 h3⟩
 | .inr a,h2,h3=>exact .inr (⟨a,p1 a h2 h3⟩)
theorem P6{b0 b1 b2 R:Type}{m:Option (b0⊕(b1⊕b2))}{K:b0⊕(b1⊕b2)→Option R}{r:R}{T0:b0→Prop}{T1:b1→Prop}{T2:b2→Prop}(h:m.bind K=some r)(p0:∀ a,m=some (.inl a)→K (.inl a)=some r→T0 a)(p1:∀ a,m=some (.inr (.inl a))→K (.inr (.inl a))=some r→T1 a)(p2:∀ a,m=some (.inr (.inr a))→K (.inr (.inr a))=some r→T2 a):(∃ a,T0 a)∨(∃ a,T1 a)∨(∃ a,T2 a):=by
 obtain ⟨x,h2,h3⟩:=Option.bind_eq_some_iff.1 h
 match x,h2,h3 with
 | .inl a,h2,h3=>exact .inl ⟨a,p0 a h2 h3⟩
 | .inr (.inl a),h2,h3=>exact .inr (.inl ⟨a,p1 a h2 h3⟩)
 | .inr (.inr a),h2,h3=>exact .inr (.inr (⟨a,p2 a h2 h3⟩))
theorem P7{b0 b1 b2 b3 R:Type}{m:Option (b0⊕(b1⊕(b2⊕b3)))}{K:b0⊕(b1⊕(b2⊕b3))→Option R}{r:R}{T0:b0→Prop}{T1:b1→Prop}{T2:b2→Prop}{T3:b3→Prop}(h:m.bind K=some r)(p0:∀ a,m=some (.inl a)→K (.inl a)=some r→T0 a)(p1:∀ a,m=some (.inr (.inl a))→K (.inr (.inl a))=some r→T1 a)(p2:∀ a,m=some (.inr (.inr (.inl a)))→K (.inr (.inr (.inl a)))=some r→T2 a)(p3:∀ a,m=some (.inr (.inr (.inr a)))→K (.inr (.inr (.inr a)))=some r→T3 a):(∃ a,T0 a)∨(∃ a,T1 a)∨(∃ a,T2 a)∨(∃ a,T3 a):=by
 obtain ⟨x,h2,h3⟩:=Option.bind_eq_some_iff.1 h
 match x,h2,h3 with
 | .inl a,h2,h3=>exact .inl ⟨a,p0 a h2 h3⟩
 | .inr (.inl a),h2,h3=>exact .inr (.inl ⟨a,p1 a h2 h3⟩)
 | .inr (.inr (.inl a)),h2,h3=>exact .inr (.inr (.inl ⟨a,p2 a h2 h3⟩))
 | .inr (.inr (.inr a)),h2,h3=>exact .inr (.inr (.inr (⟨a,p3 a h2 h3⟩)))
theorem P8{b0 b1 b2 b3 b4 R:Type}{m:Option (b0⊕(b1⊕(b2⊕(b3⊕b4))))}{K:b0⊕(b1⊕(b2⊕(b3⊕b4)))→Option R}{r:R}{T0:b0→Prop}{T1:b1→Prop}{T2:b2→Prop}{T3:b3→Prop}{T4:b4→Prop}(h:m.bind K=some r)(p0:∀ a,m=some (.inl a)→K (.inl a)=some r→T0 a)(p1:∀ a,m=some (.inr (.inl a))→K (.inr (.inl a))=some r→T1 a)(p2:∀ a,m=some (.inr (.inr (.inl a)))→K (.inr (.inr (.inl a)))=some r→T2 a)(p3:∀ a,m=some (.inr (.inr (.inr (.inl a))))→K (.inr (.inr (.inr (.inl a))))=some r→T3 a)(p4:∀ a,m=some (.inr (.inr (.inr (.inr a))))→K (.inr (.inr (.inr (.inr a))))=some r→T4 a):(∃ a,T0 a)∨(∃ a,T1 a)∨(∃ a,T2 a)∨(∃ a,T3 a)∨(∃ a,T4 a):=by
 obtain ⟨x,h2,h3⟩:=Option.bind_eq_some_iff.1 h
 match x,h2,h3 with
 | .inl a,h2,h3=>exact .inl ⟨a,p0 a h2 h3⟩
 | .inr (.inl a),h2,h3=>exact .inr (.inl ⟨a,p1 a h2 h3⟩)
 | .inr (.inr (.inl a)),h2,h3=>exact .inr (.inr (.inl ⟨a,p2 a h2 h3⟩))
 | .inr (.inr (.inr (.inl a))),h2,h3=>exact .inr (.inr (.inr (.inl ⟨a,p3 a h2 h3⟩)))
 | .inr (.inr (.inr (.inr a))),h2,h3=>exact .inr (.inr (.inr (.inr (⟨a,p4 a h2 h3⟩))))
theorem lY{R V:Type}{Y:R→V}{a r:R}(h:some a=some r):Y a=Y r:=by rw [Option.some.inj h]
theorem NF{α ε:Type}{E:Env}{l:bC}{S:α→St}{X:ε→aE×St}{v:α}{o:α⊕ε}{T:Prop}(a:AT)(h:T)(he:T=cW G Ω0 E l.x (S v) a fun e s _=>Gf l.kf l.kb e s=zW S X o):bF E l S X v o:=by
 obtain ⟨e,s,_,h1,h2⟩:=n7 l.x (he▸h)
 cases o with
 | inl w=>
  cases e with
  | nrm=>
   have h3:s.a7 l.kf l.kb=S w:=Sum.inl.inj h2
   show (run G Ω0 E l.x (S v)).bind (kept l)=some (S w)
   rw [h1,←h3];rfl
  | ret=>cases h2
  | ex id=>cases h2
 | inr x=>
  cases e with
  | nrm=>cases h2
  | ret=>
   have h3:(aE.ret,s)=X x:=Sum.inr.inj h2
   exact ⟨by rw [h1,h3],by rw [←h3];exact IX⟩
  | ex id=>
   have h3:(aE.ex id,s)=X x:=Sum.inr.inj h2
   exact ⟨by rw [h1,h3],by rw [←h3];exact ND _⟩
theorem cO{E:Env}{f:FuncId}{ys:List AV}{x:AV}{dp:Nat}{bx:List (Nat×List AV)}{hp:HP}{k:Key}{c c':List AV}(hk:k.dp<dp)(h:call G Ω0 E f ys (aP (boxes dp bx (aP hp k c)) k c)=some (.ret x,aP (boxes dp bx (aP hp k c)) k c')):call G Ω0 E f ys (boxes dp bx (aP hp k c))=some (.ret x,boxes dp bx (aP hp k c')):=
 nG (rU (Nat.ne_of_lt hk) (iC ..)) (rU (Nat.ne_of_lt hk) (iC ..)) h
theorem IY{α ε:Type}{B:α→Option (α⊕ε)}(n:Nat)(f:Nat→α){x:ε}(hs:∀ k,k<n→B (f k)=some (.inl (f (k+1))))(he:B (f n)=some (.inr x)):lp B (f 0)=some x:=by
 have:∀ m k,k+m=n→lp B (f k)=some x:=by
  intro m
  induction m with
  | zero=>
    intro k hk;obtain rfl:k=n:=by omega
    exact b5 he
  | succ m ih=>intro k hk;rw [fG (hs k (by omega))];exact ih (k+1) (by omega)
 exact this n 0 (by omega)
theorem mM{α ε β:Type}{B:α→Option (α⊕ε)}(es:List β)(p:β→Bool)(f:Nat→α){x y:ε}(hs:∀ k (h:k<es.length),p es[k]=false→B (f k)=some (.inl (f (k+1))))(hx:∀ k (h:k<es.length),p es[k]=true→B (f k)=some (.inr x))(he:B (f es.length)=some (.inr y)):lp B (f 0)=some (if es.any p then x else y):=by
 have:∀ m k,k+m=es.length→lp B (f k)=some (if (es.drop k).any p then x else y):=by
  intro m
  induction m with
  | zero=>
   intro k hk
   obtain rfl:k=es.length:=by omega
   rw [List.drop_length]
   exact b5 he
  | succ m ih=>
   intro k hk
   have hlt:k<es.length:=by omega
   rw [List.drop_eq_getElem_cons hlt,List.any_cons]
   cases hp:p es[k] with
   | true=>exact b5 (hx k hlt hp)
   | false=>rw [fG (hs k hlt hp),ih (k+1) (by omega)];rfl
 exact this es.length 0 (by omega)
theorem vE{E:Env}{f:FuncId}{ys:List AV}{dp:Nat}{bx bx':List (Nat×List AV)}{hp hp':HP}{y:aW}(_:call G Ω0 E f ys (boxes dp bx hp)=some (y,boxes dp bx' hp'))(h:bx'.map Prod.fst=bx.map Prod.fst)(hn:td (bx.map Prod.fst)=true):iS dp (boxes dp bx' hp') bx=bx':=BL h hn
theorem vF{E:Env}{f:FuncId}{ys:List AV}{dp:Nat}{bx bx':List (Nat×List AV)}{hp hp':HP}{y:aW}(_:call G Ω0 E f ys (boxes dp bx hp)=some (y,boxes dp bx' hp'))(hz:dw dp hp'):(fun k:Key=>if k.dp<dp then boxes dp bx' hp' k else none)=hp':=DW hz
theorem g1{x y:Bool}(h:x=y):(x==true)=(y==true):=congrArg (fun z=>z==true) h
theorem g0{x y:Bool}(h:x=y):(x==false)=(y==false):=congrArg (fun z=>z==false) h
noncomputable def ev{α:Type}(x:Nat→Option α):Option α:=open Classical in if h:∃ r,∃ n0,∀ n,n0≤n→x n=some r then some (Classical.choose h) else none
theorem mq{α:Type}{x:Nat→Option α}{r:α}(h:ev x=some r):∃ n,x n=some r:=by
 unfold ev at h
 split at h
 ·rename_i hex
  obtain ⟨n0,hn⟩:=Classical.choose_spec hex
  exact ⟨n0,by rw [hn n0 (Nat.le_refl _)];exact h⟩
 ·cases h
theorem qn{α:Type}{x:Nat→Option α}{r:α}(n0:Nat)(h:∀ n,n0≤n→x n=some r):ev x=some r:=by
 unfold ev
 have hex:∃ r,∃ n0,∀ n,n0≤n→x n=some r:=⟨r,n0,h⟩
 rw [dif_pos hex]
 obtain ⟨n1,h1⟩:=Classical.choose_spec hex
 have:=h1 (max n0 n1) (Nat.le_max_right _ _)
 rw [h (max n0 n1) (Nat.le_max_left _ _)] at this
 exact this.symm
theorem aG{R:Type}{E:Env}{f:FuncId}{fn:bb}{ys:List AV}{hp:HP}{Y:R→aW×HP}{r:R}{T:Prop}(hG:G f=some fn)(a:AT)(h:(∀ {a:R},some a=some r→Y a=Y r)→T)(he:T=CU G Ω0 E fn ys hp a fun y h=>(aW.ret y,h)=Y r:=by kernel_rfl):call G Ω0 E f ys hp=some (Y r):=Nv hG a (h lY) he
theorem Qn{R:Type}{E:Env}{f:FuncId}{fn:bb}{ys:List AV}{hp:HP}{Y:R→aW×HP}{r:R}{T:Prop}(hG:G f=some fn)(a:AT)(h:(∀ {a:R},some a=some r→Y a=Y r)→T)(he:T=Ai G Ω0 E fn ys hp a fun y h=>(aW.new y,h)=Y r:=by kernel_rfl):call G Ω0 E f ys hp=some (Y r):=IS hG a (h lY) he
theorem lX{R:Type}{E:Env}{c:AC}{st:St}{Y:R→aE×St}{r:R}{T:Prop}(a:AT)(h:(∀ {a:R},some a=some r→Y a=Y r)→T)(he:T=cW G Ω0 E c st a fun e s _=>(e,s)=Y r:=by kernel_rfl):run G Ω0 E c st=some (Y r):=runT a (h lY) he
theorem cC{R:Type}{E:Env}{kf kb:List Nat}{gs:List bU}{st:St}{Y:R→St}{r:R}{T:Prop}(a:AT)(h:(∀ {a:R},some a=some r→Y a=Y r)→T)(he:T=ta G Ω0 E kf kb st gs a fun s _=>s=Y r:=by kernel_rfl):dx G Ω0 E kf kb gs st=some (Y r):=Nw a (h lY) he
theorem Re{R:Type}{E:Env}{kf kb:List Nat}{gs:List bh}{st:St}{Y:R→St}{r:R}{T:Prop}(a:AT)(h:(∀ {a:R},some a=some r→Y a=Y r)→T)(he:T=tc G Ω0 E kf kb st gs a fun s _=>s=Y r:=by kernel_rfl):wR G Ω0 E kf kb gs st=some (Y r):=Nx a (h lY) he
theorem bP{α ε:Type}{E:Env}{l:bC}{S:α→St}{X:ε→aE×St}{v:α}{o:α⊕ε}{T:Prop}(a:AT)(h:(∀ {a:α⊕ε},some a=some o→zW S X a=zW S X o)→T)(he:T=cW G Ω0 E l.x (S v) a fun e s _=>Gf l.kf l.kb e s=zW S X o:=by kernel_rfl):bF E l S X v o:=NF a (h lY) he
theorem ar{Q R:Type}{m:Option Q}{k:Q→Option R}{r:R}{O T:Q→Prop}(h:m.bind k=some r)(l:∀ x,m=some x→O x)(h1:∀ x,k x=some r→T x):∃ x,O x∧T x:=cu h fun x e h=>⟨l x e,h1 x h⟩
theorem bD{b0 b1 R:Type}{m:Option (b0⊕b1)}{K:b0⊕b1→Option R}{r:R}{O:b0⊕b1→Prop}{T0:b0→Prop}{T1:b1→Prop}(h:m.bind K=some r)(l:∀ x,m=some x→O x)(p0:∀ a,K (.inl a)=some r→T0 a)(p1:∀ a,K (.inr a)=some r→T1 a):(∃ a,O (.inl a)∧T0 a)∨(∃ a,O (.inr a)∧T1 a):=P5 h (fun a e h=>⟨l _ e,p0 a h⟩) (fun a e h=>⟨l _ e,p1 a h⟩)
theorem CX{b0 b1 b2 R:Type}{m:Option (b0⊕(b1⊕b2))}{K:b0⊕(b1⊕b2)→Option R}{r:R}{O:b0⊕(b1⊕b2)→Prop}{T0:b0→Prop}{T1:b1→Prop}{T2:b2→Prop}(h:m.bind K=some r)(l:∀ x,m=some x→O x)(p0:∀ a,K (.inl a)=some r→T0 a)(p1:∀ a,K (.inr (.inl a))=some r→T1 a)(p2:∀ a,K (.inr (.inr a))=some r→T2 a):(∃ a,O (.inl a)∧T0 a)∨(∃ a,O (.inr (.inl a))∧T1 a)∨(∃ a,O (.inr (.inr a))∧T2 a):=P6 h (fun a e h=>⟨l _ e,p0 a h⟩) (fun a e h=>⟨l _ e,p1 a h⟩) (fun a e h=>⟨l _ e,p2 a h⟩)
theorem CY{b0 b1 b2 b3 R:Type}{m:Option (b0⊕(b1⊕(b2⊕b3)))}{K:b0⊕(b1⊕(b2⊕b3))→Option R}{r:R}{O:b0⊕(b1⊕(b2⊕b3))→Prop}{T0:b0→Prop}{T1:b1→Prop}{T2:b2→Prop}{T3:b3→Prop}(h:m.bind K=some r)(l:∀ x,m=some x→O x)(p0:∀ a,K (.inl a)=some r→T0 a)(p1:∀ a,K (.inr (.inl a))=some r→T1 a)(p2:∀ a,K (.inr (.inr (.inl a)))=some r→T2 a)(p3:∀ a,K (.inr (.inr (.inr a)))=some r→T3 a):(∃ a,O (.inl a)∧T0 a)∨(∃ a,O (.inr (.inl a))∧T1 a)∨(∃ a,O (.inr (.inr (.inl a)))∧T2 a)∨(∃ a,O (.inr (.inr (.inr a)))∧T3 a):=P7 h (fun a e h=>⟨l _ e,p0 a h⟩) (fun a e h=>⟨l _ e,p1 a h⟩) (fun a e h=>⟨l _ e,p2 a h⟩) (fun a e h=>⟨l _ e,p3 a h⟩)
theorem Rl{b0 b1 b2 b3 b4 R:Type}{m:Option (b0⊕(b1⊕(b2⊕(b3⊕b4))))}{K:b0⊕(b1⊕(b2⊕(b3⊕b4)))→Option R}{r:R}{O:b0⊕(b1⊕(b2⊕(b3⊕b4)))→Prop}{T0:b0→Prop}{T1:b1→Prop}{T2:b2→Prop}{T3:b3→Prop}{T4:b4→Prop}(h:m.bind K=some r)(l:∀ x,m=some x→O x)(p0:∀ a,K (.inl a)=some r→T0 a)(p1:∀ a,K (.inr (.inl a))=some r→T1 a)(p2:∀ a,K (.inr (.inr (.inl a)))=some r→T2 a)(p3:∀ a,K (.inr (.inr (.inr (.inl a))))=some r→T3 a)(p4:∀ a,K (.inr (.inr (.inr (.inr a))))=some r→T4 a):(∃ a,O (.inl a)∧T0 a)∨(∃ a,O (.inr (.inl a))∧T1 a)∨(∃ a,O (.inr (.inr (.inl a)))∧T2 a)∨(∃ a,O (.inr (.inr (.inr (.inl a))))∧T3 a)∨(∃ a,O (.inr (.inr (.inr (.inr a))))∧T4 a):=P8 h (fun a e h=>⟨l _ e,p0 a h⟩) (fun a e h=>⟨l _ e,p1 a h⟩) (fun a e h=>⟨l _ e,p2 a h⟩) (fun a e h=>⟨l _ e,p3 a h⟩) (fun a e h=>⟨l _ e,p4 a h⟩)
theorem e5{α ε:Type}{E:Env}{B:α→Option (α⊕ε)}{l:bC}{S:α→St}{X:ε→aE×St}(hb:∀ v o,B v=some o→bF E l S X v o)(v:α)(x:ε)(h:lp B v=some x)(hk:∀ v,(S v).a7 l.kf l.kb=S v:=by exact fun _=>rfl):wN G Ω0 E l (S v)=some (X x):=GI l S X hk hb h
theorem rI(n:Nat):(n:Int)=(n:Int):=rfl
theorem rN(n:Nat):n=n:=rfl
theorem Rm{k:Key}{dp:Nat}(h:k.dp<dp)(ns:List Nat):(vo dp ns (.p k 0)&&okB dp [] (.p k 0))=true:=by simp [vo,okB,oH,AV.bL,AV.dL,AV.dA,tW h]
abbrev xB(f:Bool→AT):AT:=.ex fun r=>ao (.v (.b r)) (f r)
abbrev xI(f:Int→AT):AT:=.ex fun r=>ao (.v (I r)) (f r)
abbrev xN(f:Nat→AT):AT:=.ex fun r=>ao (.n r) (f r)
abbrev oN(r:AT):AT:=.or (bt .nil) (bf r)
theorem oS{p:Prop}(h:p):true=true∧Z0∧p:=⟨rfl,rfl,h⟩
theorem lK{p:Prop}{q:Prop}(H:q)(h:p):q∧Z0∧p:=⟨H,rfl,h⟩
theorem yS{p:Prop}{x y:Bool}(H:x=y)(h:p):(x==false)=(y==false)∧(x==false)=(y==false)∧p:=⟨g0 H,g0 H,h⟩
theorem iN{p:Prop}{x y:Bool}(H:x=y)(h:p):(x==false)=(y==false)∧x=y∧p:=⟨g0 H,H,h⟩
theorem Gg{p:Prop}{x y:Bool}(H:x=y)(h:p):(x==false)=(y==false)∧(x==false)=(y==false)∧(x==false)=(y==false)∧x=y∧p:=⟨g0 H,g0 H,g0 H,H,h⟩
theorem An{p:Prop}{x y:Bool}(H:x=y)(h:p):(x==false)=(y==false)∧(x==false)=(y==false)∧(x==false)=(y==false)∧p:=⟨g0 H,g0 H,g0 H,h⟩
theorem tf{p:Prop}{x y:Bool}(H:x=y)(h:p):(x==true)=(y==true)∧(x==true)=(y==true)∧x=y∧p:=⟨g1 H,g1 H,H,h⟩
theorem Gh{p:Prop}{x y:Bool}(H:x=y)(h:p):(x==true)=(y==true)∧(x==true)=(y==true)∧x=y∧false=false∧p:=⟨g1 H,g1 H,H,rfl,h⟩
theorem rh{p:Prop}{x y:Bool}(H:x=y)(h:p):(x==false)=(y==false)∧(x==false)=(y==false)∧Z0∧(x==false)=(y==false)∧p:=⟨g0 H,g0 H,rfl,g0 H,h⟩
theorem DX{p:Prop}{x y:Bool}(H:x=y)(h:p):(x==false)=(y==false)∧(x==false)=(y==false)∧(x==false)=(y==false)∧(x==false)=(y==false)∧x=y∧true=true∧p:=⟨g0 H,g0 H,g0 H,g0 H,H,rfl,h⟩
theorem ma{p:Prop}(h:p):true=true∧true=true∧true=true∧true=true∧p:=⟨rfl,rfl,rfl,rfl,h⟩
theorem EO{p:Prop}{x y:Bool}(H:x=y)(h:p):true=true∧(x==true)=(y==true)∧true=true∧(x==true)=(y==true)∧true=true∧(x==true)=(y==true)∧true=true∧(x==true)=(y==true)∧p:=⟨rfl,g1 H,rfl,g1 H,rfl,g1 H,rfl,g1 H,h⟩
theorem fX{p:Prop}{x y:Bool}(H:x=y)(h:p):(x==true)=(y==true)∧x=y∧p:=⟨g1 H,H,h⟩
theorem qO{p:Prop}{x y:Bool}(H:x=y)(h:p):(x==false)=(y==false)∧(x==false)=(y==false)∧x=y∧p:=⟨g0 H,g0 H,H,h⟩
theorem rV{p:Prop}{x y:Bool}(H:x=y)(h:p):(x==true)=(y==true)∧(x==true)=(y==true)∧(x==true)=(y==true)∧p:=⟨g1 H,g1 H,g1 H,h⟩
theorem EP{p:Prop}{x y:Bool}(H:x=y)(h:p):(x==true)=(y==true)∧(x==true)=(y==true)∧(x==true)=(y==true)∧(x==true)=(y==true)∧(x==true)=(y==true)∧(x==true)=(y==true)∧x=y∧p:=⟨g1 H,g1 H,g1 H,g1 H,g1 H,g1 H,H,h⟩
theorem dG{p:Prop}{x y:Bool}(H:x=y)(h:p):(x==true)=(y==true)∧(x==true)=(y==true)∧p:=⟨g1 H,g1 H,h⟩
theorem Ao{p:Prop}{x y:Bool}(H:x=y)(h:p):(x==true)=(y==true)∧(x==true)=(y==true)∧(x==true)=(y==true)∧(x==true)=(y==true)∧x=y∧p:=⟨g1 H,g1 H,g1 H,g1 H,H,h⟩
theorem Ap{p:Prop}{x y:Bool}(H:x=y)(h:p):(x==false)=(y==false)∧(x==false)=(y==false)∧(x==false)=(y==false)∧(x==false)=(y==false)∧x=y∧p:=⟨g0 H,g0 H,g0 H,g0 H,H,h⟩
theorem Aq{p:Prop}{x y:Bool}(H:x=y)(h:p):(x==false)=(y==false)∧(x==false)=(y==false)∧Z0∧(x==false)=(y==false)∧(x==false)=(y==false)∧p:=⟨g0 H,g0 H,rfl,g0 H,g0 H,h⟩
theorem ek{p:Prop}{x y:Bool}(H:x=y)(h:p):(x==true)=(y==true)∧(x==true)=(y==true)∧Z0∧(x==true)=(y==true)∧p:=⟨g1 H,g1 H,rfl,g1 H,h⟩
theorem wW{p:Prop}{x y:Bool}(H:x=y)(h:p):(x==false)=(y==false)∧(x==false)=(y==false)∧Z0∧(x==false)=(y==false)∧x=y∧p:=⟨g0 H,g0 H,rfl,g0 H,H,h⟩
theorem wX{p:Prop}{x y:Bool}(H:x=y)(h:p):(x==true)=(y==true)∧(x==true)=(y==true)∧Z0∧(x==true)=(y==true)∧x=y∧p:=⟨g1 H,g1 H,rfl,g1 H,H,h⟩
theorem wY{p:Prop}{x y:Bool}(H:x=y)(h:p):(x==false)=(y==false)∧(x==false)=(y==false)∧Z0∧(x==false)=(y==false)∧(x==false)=(y==false)∧(x==false)=(y==false)∧p:=⟨g0 H,g0 H,rfl,g0 H,g0 H,g0 H,h⟩
theorem CZ{p:Prop}{x y:Bool}(H:x=y)(h:p):(x==false)=(y==false)∧(x==false)=(y==false)∧(x==false)=(y==false)∧(x==false)=(y==false)∧(x==false)=(y==false)∧(x==false)=(y==false)∧(x==false)=(y==false)∧(x==false)=(y==false)∧x=y∧p:=⟨g0 H,g0 H,g0 H,g0 H,g0 H,g0 H,g0 H,g0 H,H,h⟩
theorem uN{p:Prop}{x y:Bool}(H:x=y)(h:p):(x==true)=(y==true)∧(x==true)=(y==true)∧(x==true)=(y==true)∧(x==true)=(y==true)∧p:=⟨g1 H,g1 H,g1 H,g1 H,h⟩
theorem qP{p:Prop}{x y:Bool}(H:x=y)(h:p):(x==true)=(y==true)∧(x==true)=(y==true)∧(x==true)=(y==true)∧x=y∧p:=⟨g1 H,g1 H,g1 H,H,h⟩
theorem ER{p:Prop}{x y:Bool}(H:x=y)(h:p):(x==false)=(y==false)∧(x==false)=(y==false)∧(x==false)=(y==false)∧(x==false)=(y==false)∧(x==false)=(y==false)∧x=y∧p:=⟨g0 H,g0 H,g0 H,g0 H,g0 H,H,h⟩
theorem C0{p:Prop}{x y:Bool}(H:x=y)(h:p):(x==true)=(y==true)∧(x==true)=(y==true)∧(x==true)=(y==true)∧(x==true)=(y==true)∧(x==true)=(y==true)∧x=y∧p:=⟨g1 H,g1 H,g1 H,g1 H,g1 H,H,h⟩
theorem ES{p:Prop}{x y:Bool}(H:x=y)(h:p):(x==true)=(y==true)∧(x==true)=(y==true)∧(x==true)=(y==true)∧(x==true)=(y==true)∧x=y∧(false==true)=false∧(false==true)=false∧(false==true)=false∧false=false∧p:=⟨g1 H,g1 H,g1 H,g1 H,H,rfl,rfl,rfl,rfl,h⟩
theorem wZ{p:Prop}{q:Prop}(H:q)(h:p):q∧true=true∧true=true∧Z0∧true=true∧p:=⟨H,rfl,rfl,rfl,rfl,h⟩
theorem uO{p:Prop}(h:p):true=true∧true=true∧Z0∧true=true∧p:=⟨rfl,rfl,rfl,rfl,h⟩
abbrev b9(r:AT):AT:=bt<|bt r
abbrev cJ(r:AT):AT:=bt<|bt<|bt<|bt r
abbrev eQ(r:AT):AT:=bt<|bf r
abbrev gu(r:AT):AT:=bt<|bt<|bt r
abbrev kS(r:AT):AT:=bt<|bt<|bt<|bt<|bt r
abbrev ti(r:AT):AT:=bf<|bf<|bf<|bf r
abbrev ux(r:AT):AT:=bt<|bt<|bf r
abbrev uy(r:AT):AT:=bt<|bt<|bt<|bt<|bf r
abbrev yT(r:AT):AT:=bt<|bt<|bt<|bt<|bt<|bt r
abbrev Ar(r:AT):AT:=bt<|bt<|bt<|bf r
abbrev w0(r:AT):AT:=bf<|bf<|bt<|bf<|bt r
abbrev As(r:AT):AT:=bf<|bf<|bf<|bf<|bt<|bt r
abbrev Au(r:AT):AT:=bt<|bt<|bt<|bt<|bt<|bf r
abbrev Av(r:AT):AT:=bf<|bf<|bf<|bf<|bf<|bf<|bf<|bf<|bf<|bf<|bf<|bf<|bf r
abbrev Aw(r:AT):AT:=bf<|bf<|bf<|bf<|bt r
abbrev Ax(r:AT):AT:=bf<|bf<|bf<|bf<|bf<|bf<|bf<|bf<|bf r
abbrev C1(r:AT):AT:=bf<|bf<|bf<|bt r
abbrev C2(r:AT):AT:=bf<|bf<|bf<|bf<|bf<|bf<|bf r
abbrev C3(r:AT):AT:=bf<|bf<|bf<|bf<|bf r
abbrev C4(r:AT):AT:=bf<|bf<|bf<|bf<|bf<|bf<|bf<|bf<|bt r
abbrev C5(r:AT):AT:=bf<|bf<|bf<|bf<|bt<|bf<|bf r
abbrev C6(r:AT):AT:=bf<|bf<|bf<|bf<|bf<|bf r
abbrev ET(r:AT):AT:=bt<|bt<|bt<|bt<|bt<|bt<|bf r
abbrev EU(r:AT):AT:=bf<|bf<|bf<|bf<|bf<|bt r
abbrev EV(r:AT):AT:=bf<|bf<|bt<|bf<|bf r
abbrev IZ(r:AT):AT:=bf<|bf<|bf<|bf<|bt<|bf<|bf<|bf<|bf<|bt<|bt r
abbrev I0(r:AT):AT:=bf<|bf<|bf<|bt<|bt<|bt<|bt<|bt<|bt r
abbrev I1(r:AT):AT:=bf<|bf<|bf<|bf<|bf<|bf<|bf<|bf<|bt<|bf<|bf<|bf<|bf<|bf<|bf<|bf<|bf<|bt r
abbrev I2(r:AT):AT:=bf<|bf<|bf<|bf<|bf<|bf<|bf<|bf<|bf<|bf<|bf r
end Go.Proofs.YtphgedfhcncobaaGreatDoor.A
