/- Plain functions: loops as least fixed points, and how what they answer is told of the abstract run. -/
import Derived.Test.YtkkkkondjclcnaaGreatBase
set_option linter.all false
namespace Go.Proofs.YtkkkkondjclcnaaGreat.A
open Go
def pA{α ε:Type}(B:α→Option (α⊕ε)):Nat→α→Option ε
 | 0,_=>none
 | n+1,v=>match B v with
  | some (.inl w)=>pA B n w
  | some (.inr x)=>some x
  | none=>none
class Lp where
 run : {α ε:Type}→(α→Option (α⊕ε))→α→Option ε
 sound:∀ {α ε:Type}{B:α→Option (α⊕ε)}{v:α}{x:ε},run B v=some x→∃ n,pA B n v=some x
 told:∀ {α ε:Type}{B:α→Option (α⊕ε)}{v:α}{x:ε}(n:Nat),pA B n v=some x→run B v=some x
abbrev lp[Lp]{α ε:Type}(B:α→Option (α⊕ε))(v:α):Option ε:=Lp.run B v
theorem xM[Lp]{α ε:Type}{B:α→Option (α⊕ε)}{v:α}{x:ε}(h:lp B v=some x):∃ n,pA B n v=some x:=Lp.sound h
theorem Po[Lp]{α ε:Type}{B:α→Option (α⊕ε)}{v:α}{x:ε}(n:Nat)(h:pA B n v=some x):lp B v=some x:=Lp.told n h
theorem Ls{α ε:Type}{B:α→Option (α⊕ε)} : ∀ {n:Nat}{v:α}{x:ε},pA B n v=some x→pA B (n+1) v=some x
 | 0,_,_,h=>by cases h
 | n+1,v,x,h=>by
  rw [pA] at h ⊢
  split at h
  ·exact Ls h
  ·exact h
  ·exact h
theorem QZ{α ε:Type}{B:α→Option (α⊕ε)}{n m:Nat}{v:α}{x:ε}(hm:n≤m)(h:pA B n v=some x):pA B m v=some x:=by
 induction hm with
 | refl=>exact h
 | step _ ih=>exact Ls ih
theorem Wa{α ε:Type}{B:α→Option (α⊕ε)}{n m:Nat}{v:α}{x y:ε}(h:pA B n v=some x)(h':pA B m v=some y):x=y:=by
 have h1:=QZ (Cr n m) h
 rw [QZ (Ct n m) h'] at h1
 exact (aa h1).symm
theorem Q0:Nonempty Lp:=by
 refine ⟨⟨fun {α ε} B v=>open Classical in if h:∃ n,(pA B n v).isSome then pA B h.choose v else none,fun {α ε B v x} h=>?_,fun {α ε B v x} n h=>?_⟩⟩
 ·split at h
  ·rename_i hn;exact ⟨_,h⟩
  ·cases h
 ·have hn:∃ n,(pA B n v).isSome:=⟨n,by rw [h];rfl⟩
  rw [dif_pos hn]
  have:=hn.choose_spec
  obtain ⟨y,hy⟩:=gq.1 this
  rw [hy,Wa hy h]
variable [Lp]
section
variable {α ε:Type}{B:α→Option (α⊕ε)}
theorem fc{v:α}{x:ε}(h:B v=some (.inr x)):lp B v=some x:=Po 1 (by rw [pA,h])
theorem lF{v w:α}(h:B v=some (.inl w)):lp B v=lp B w:=by
 cases hw:lp B w with
 | some x=>obtain ⟨n,hn⟩:=xM hw;exact Po (n+1) (by rw [pA,h];exact hn)
 | none=>
  cases hv:lp B v with
  | none=>rfl
  | some x=>
   obtain ⟨n,hn⟩:=xM hv
   cases n with
   | zero=>cases hn
   | succ n=>rw [pA,h] at hn;rw [Po n hn] at hw;cases hw
end
def bz{α ε:Type}(E:Env)(l:aY)(S:α→St)(X:ε→aI×St)(v:α):α⊕ε→Prop
 | .inl w=>(run G Ω0 E l.x (S v)).bind (kept l)=some (S w)
 | .inr x=>run G Ω0 E l.x (S v)=some (X x)∧(X x).1≠.nrm
theorem Wb{α ε:Type}{E:Env}{B:α→Option (α⊕ε)}(l:aY)(S:α→St)(X:ε→aI×St)(hk:∀ v,(S v).aP l.kf l.kb=S v)(hb:∀ v o,B v=some o→bz E l S X v o){v:α}{x:ε}(h:lp B v=some x):gY G Ω0 E l (S v)=some (X x):=by
 obtain ⟨n,hn⟩:=xM h
 clear h
 induction n generalizing v with
 | zero=>cases hn
 | succ n ih=>
  rw [pA] at hn
  split at hn
  ·rename_i w hw
   rw [c8 (by rw [hk];exact hb v _ hw)]
   exact ih hn
  ·rename_i y hy
   obtain rfl:=aa hn
   obtain ⟨h1,h2⟩:=hb v _ hy
   exact di (by rw [hk];exact h1) h2
  ·cases hn
def boxes(dp:Nat)(bx:List (Nat×List AV))(hp:HP):HP:=fun k=>if k.dp=dp then aO bx k.d else hp k
theorem oY{hp:HP}{k k':Key}{cs:List AV}(h:k≠k'):aF hp k' cs k=hp k:=by simp only [aF,ad h]
theorem xO{h h':HP}{k k':Key}{c d:List AV}(hn:k'≠k)(e:aF h k c=h'):aF (aF h k' d) k c=aF h' k' d:=by
 subst e
 funext q
 simp only [aF]
 by_cases h1:q=k
 ·subst h1;simp [p8 hn]
 ·simp [h1]
theorem Wd{dp:Nat}{bx:List (Nat×List AV)}{hp:HP}{k:Key}{c:List AV}(h:k.dp≠dp):aF (boxes dp bx hp) k c=boxes dp bx (aF hp k c):=by
 funext q
 simp only [aF,boxes]
 by_cases h1:q=k
 ·subst h1;simp [h]
 ·simp [h1]
theorem Pp{bx:List (Nat×List AV)}{d d':Nat}{c:List AV}(h:(aO bx d).isSome=true):aO (nP bx d c) d'=if d'=d then some c else aO bx d':=by
 induction bx with
 | nil=>simp [aO] at h
 | cons x bx ih=>
  obtain ⟨k,cs⟩:=x
  by_cases hk:k=d
  ·subst hk
   by_cases hd:d'=k
   ·subst hd;simp [nP,aO]
   ·have:¬k=d':=fun e=>hd e.symm
    simp [nP,aO,hd,this]
  ·have h2:(aO bx d).isSome=true:=by simpa [aO,hk] using h
   have:=ih h2
   by_cases hd:k=d'
   ·subst hd
    simp [nP,aO,hk]
   ·simp [nP,aO,hk,hd,this]
theorem We{dp:Nat}{bx:List (Nat×List AV)}{hp:HP}{d:Nat}{c:List AV}(h:(aO bx d).isSome=true):aF (boxes dp bx hp) ⟨dp,d⟩ c=boxes dp (nP bx d c) hp:=by
 funext q
 obtain ⟨qd,q'⟩:=q
 simp only [aF,boxes,Pp h,Key.mk.injEq]
 by_cases h1:qd=dp
 ·simp [h1]
 ·simp [h1]
theorem gE{dp:Nat}{bx bx1:List (Nat×List AV)}{hp:HP}{d:Nat}{c:List AV}(h:(aO bx d).isSome=true)(hb:nP bx d c=bx1):aF (boxes dp bx hp) ⟨dp,d⟩ c=boxes dp bx1 hp:=hb▸We h
theorem oF{dp:Nat}{bx:List (Nat×List AV)}{hp hp1:HP}{k:Key}{c:List AV}(h:k.dp≠dp)(hh:aF hp k c=hp1):aF (boxes dp bx hp) k c=boxes dp bx hp1:=hh▸Wd h
theorem uQ{H H1 H2:HP}{k:Key}{c:List AV}(h:H=H1)(h':aF H1 k c=H2):aF H k c=H2:=h▸h'
def CX:List Nat→Bool
 | []=>true
 | x::l=>l.all (fun y=>x !=y)&&CX l
theorem Lt:∀ {l:List Nat},CX l=true→l.Nodup
 | [],_=>List.nodup_nil
 | x::l,h=>by
  simp only [CX,aA,bH,qj,ne_eq] at h
  exact tB.2 ⟨fun hm=>h.1 x hm rfl,Lt h.2⟩
theorem Nh{dp:Nat}{bx bx':List (Nat×List AV)}{hp:HP}(h:bx'.map Prod.fst=bx.map Prod.fst)(hn0:CX (bx.map Prod.fst)=true):ib dp (boxes dp bx' hp) bx=bx':=by
 have hn:=Lt hn0
 clear hn0
 have key:∀ (l l':List (Nat×List AV)),l'.map Prod.fst=l.map Prod.fst→(l.map Prod.fst).Nodup→(∀ x∈l',aO bx' x.1=some x.2)→ib dp (boxes dp bx' hp) l=l':=by
  intro l
  induction l with
  | nil=>intro l' hl _ _;cases l' with
   | nil=>rfl
   | cons _ _=>cases hl
  | cons y l ih=>
   intro l' hl hnd hg
   cases l' with
   | nil=>cases hl
   | cons x l'=>
    simp only [bZ,Cu] at hl
    obtain ⟨d,cs⟩:=y
    obtain ⟨d',cs'⟩:=x
    obtain ⟨rfl,hl⟩:=hl
    have h1:=hg (d',cs') (by simp)
    simp only [ib,boxes,aq,h1]
    rw [ih l' hl (tB.1 hnd).2 fun x hx=>hg x (by simp [hx])]
 refine key bx bx' h hn fun x hx=>?_
 have hn':(bx'.map Prod.fst).Nodup:=by rw [h];exact hn
 clear key h hn
 induction bx' with
 | nil=>cases hx
 | cons y bx' ih=>
  obtain ⟨d,cs⟩:=y
  rcases cR.1 hx with rfl | hx
  ·simp [aO]
  ·have hne:¬d=x.1:=fun e=>(tB.1 hn').1 (eH.2 ⟨x,hx,e.symm⟩)
   simp only [aO,ad hne]
   exact ih hx (tB.1 hn').2
def cF(dp:Nat)(hp:HP):Prop:=∀ k:Key,¬k.dp<dp→hp k=none
theorem iN(dp:Nat):cF dp (fun _=>none):=fun _ _=>rfl
theorem cu{dp:Nat}{hp:HP}{k:Key}{c:List AV}(hk:k.dp<dp)(h:cF dp hp):cF dp (aF hp k c):=by
 intro q hq
 have:q≠k:=fun e=>by subst e;exact hq hk
 rw [oY this];exact h q hq
theorem dw{dp:Nat}{bx:List (Nat×List AV)}{hp:HP}(h:cF dp hp):cF (dp+1) (boxes dp bx hp):=by
 intro q hq
 simp only [boxes,ad (show ¬q.dp=dp by omega)]
 exact h q (by omega)
theorem Q1{dp:Nat}{bx:List (Nat×List AV)}{hp:HP}(h:cF dp hp):(fun k:Key=>if k.dp<dp then boxes dp bx hp k else none)=hp:=by
 funext q
 by_cases h1:q.dp<dp
 ·simp only [ab h1,boxes,ad (show ¬q.dp=dp by omega)]
 ·rw [ad h1,h q h1]
theorem aa8{dp d d':Nat}(h:d≠d'):(⟨dp,d⟩:Key)≠⟨dp,d'⟩:=fun e=>h (an Key.d e)
theorem cP{dp d:Nat}{k:Key}(h:k.dp<dp):k≠⟨dp,d⟩:=fun e=>by subst e;exact Nat.lt_irrefl _ h
theorem N0{dp d:Nat}{k:Key}(h:k.dp<dp):(⟨dp,d⟩:Key)≠k:=fun e=>cP h e.symm
theorem pa{E:Env}{f:FuncId}{ys:List AV}{h1 h1' h2 h2':HP}{x:AV}(e1:h1=h1')(e2:h2=h2')(h:call G Ω0 E f ys h1=some (.ret x,h2)):call G Ω0 E f ys h1'=some (.ret x,h2'):=e1▸e2▸h
theorem Tn{R:Type}{c:Prop}[Decidable c]{A B:Option R}{r:R}{P:Prop}(h:(if c then A else B)=some r)(h1:c→A=some r→P)(h2:¬c→B=some r→P):P:=by
 by_cases hc:c
 ·exact h1 hc (by rwa [ab hc] at h)
 ·exact h2 hc (by rwa [ad hc] at h)
theorem ajZ{R:Type}{c:Bool}{A B:Option R}{r:R}{P:Prop}(h:(if c=true then A else B)=some r)(h1:c=true→A=some r→P)(h2:c=false→B=some r→P):P:=by
 cases c with
 | true=>exact h1 rfl h
 | false=>exact h2 rfl h
def ed(n:Int):Option Nat:=if 0≤n then some n.toNat else none
theorem pb{n:Int}{j:Nat}(h:ed n=some j):n=(j:Int):=by
 unfold ed at h;split at h
 ·obtain rfl:=aa h;omega
 ·cases h
theorem Bg(n:Nat):ed (n:Int)=some n:=by simp [ed]
theorem dx{n:Int}(h:0≤n):ed n=some n.toNat:=by simp [ed,h]
theorem aJ{R:Type}{c:Prop}[Decidable c]{A:Option R}{r:R}{P:Prop}(h:(if c then A else none)=some r)(h1:c→A=some r→P):P:=
 Tn h h1 fun _ h=>by cases h
theorem ahr{R:Type}{r:R}{P:Prop}(h:(none:Option R)=some r):P:=by cases h
theorem aa9:aI.ret≠.nrm:=by intro h;cases h
theorem ahs(n:Nat):aI.ex n≠.nrm:=by intro h;cases h
def KZ{α ε:Type}(S:α→St)(X:ε→aI×St):α⊕ε→St⊕(aI×St)
 | .inl w=>.inl (S w)
 | .inr x=>.inr (X x)
theorem bR{Q R:Type}{m:Option Q}{k:Q→Option R}{r:R}{T:Q→Prop}(h:m.bind k=some r)(h1:∀ x,m=some x→k x=some r→T x):∃ x,T x:=by
 obtain ⟨x,h2,h3⟩:=ah.1 h
 exact ⟨x,h1 x h2 h3⟩
theorem kC{R:Type}{n:Int}{k:Nat→Option R}{r:R}{T:Nat→Prop}(h:(ed n).bind k=some r)(h1:∀ j:Nat,n=(j:Int)→k j=some r→T j):∃ j,T j:=
 bR h fun j hj h=>h1 j (pb hj) h
theorem bP{R:Type}{c:Prop}[Decidable c]{A B:Option R}{r:R}{T S:Prop}(h:(if c then A else B)=some r)(h1:c→A=some r→T)(h2:¬c→B=some r→S):T∨S:=
 Tn h (fun hc h=>.inl (h1 hc h)) fun hc h=>.inr (h2 hc h)
theorem bI{R:Type}{c:Bool}{A B:Option R}{r:R}{T S:Prop}(h:(if c=true then A else B)=some r)(h1:c=true→A=some r→T)(h2:c=false→B=some r→S):T∨S:=
 ajZ h (fun hc h=>.inl (h1 hc h)) fun hc h=>.inr (h2 hc h)
theorem aj0{b0 b1 R:Type}{m:Option (b0⊕b1)}{K:b0⊕b1→Option R}{r:R}{T0:b0→Prop}{T1:b1→Prop}(h:m.bind K=some r)(p0:∀ a,m=some (.inl a)→K (.inl a)=some r→T0 a)(p1:∀ a,m=some (.inr a)→K (.inr a)=some r→T1 a):(∃ a,T0 a)∨(∃ a,T1 a):=by
 obtain ⟨x,h2,h3⟩:=ah.1 h
 match x,h2,h3 with
 | .inl a,h2,h3=>exact .inl ⟨a,p0 a h2 h3⟩
 | .inr a,h2,h3=>exact .inr (⟨a,p1 a h2 h3⟩)
theorem aj1{b0 b1 b2 R:Type}{m:Option (b0⊕(b1⊕b2))}{K:b0⊕(b1⊕b2)→Option R}{r:R}{T0:b0→Prop}{T1:b1→Prop}{T2:b2→Prop}(h:m.bind K=some r)(p0:∀ a,m=some (.inl a)→K (.inl a)=some r→T0 a)(p1:∀ a,m=some (.inr (.inl a))→K (.inr (.inl a))=some r→T1 a)(p2:∀ a,m=some (.inr (.inr a))→K (.inr (.inr a))=some r→T2 a):(∃ a,T0 a)∨(∃ a,T1 a)∨(∃ a,T2 a):=by
 obtain ⟨x,h2,h3⟩:=ah.1 h
 match x,h2,h3 with
 | .inl a,h2,h3=>exact .inl ⟨a,p0 a h2 h3⟩
 | .inr (.inl a),h2,h3=>exact .inr (.inl ⟨a,p1 a h2 h3⟩)
 | .inr (.inr a),h2,h3=>exact .inr (.inr (⟨a,p2 a h2 h3⟩))
theorem aj2{b0 b1 b2 b3 R:Type}{m:Option (b0⊕(b1⊕(b2⊕b3)))}{K:b0⊕(b1⊕(b2⊕b3))→Option R}{r:R}{T0:b0→Prop}{T1:b1→Prop}{T2:b2→Prop}{T3:b3→Prop}(h:m.bind K=some r)(p0:∀ a,m=some (.inl a)→K (.inl a)=some r→T0 a)(p1:∀ a,m=some (.inr (.inl a))→K (.inr (.inl a))=some r→T1 a)(p2:∀ a,m=some (.inr (.inr (.inl a)))→K (.inr (.inr (.inl a)))=some r→T2 a)(p3:∀ a,m=some (.inr (.inr (.inr a)))→K (.inr (.inr (.inr a)))=some r→T3 a):(∃ a,T0 a)∨(∃ a,T1 a)∨(∃ a,T2 a)∨(∃ a,T3 a):=by
 obtain ⟨x,h2,h3⟩:=ah.1 h
 match x,h2,h3 with
 | .inl a,h2,h3=>exact .inl ⟨a,p0 a h2 h3⟩
 | .inr (.inl a),h2,h3=>exact .inr (.inl ⟨a,p1 a h2 h3⟩)
 | .inr (.inr (.inl a)),h2,h3=>exact .inr (.inr (.inl ⟨a,p2 a h2 h3⟩))
 | .inr (.inr (.inr a)),h2,h3=>exact .inr (.inr (.inr (⟨a,p3 a h2 h3⟩)))
theorem aj3{b0 b1 b2 b3 b4 R:Type}{m:Option (b0⊕(b1⊕(b2⊕(b3⊕b4))))}{K:b0⊕(b1⊕(b2⊕(b3⊕b4)))→Option R}{r:R}{T0:b0→Prop}{T1:b1→Prop}{T2:b2→Prop}{T3:b3→Prop}{T4:b4→Prop}(h:m.bind K=some r)(p0:∀ a,m=some (.inl a)→K (.inl a)=some r→T0 a)(p1:∀ a,m=some (.inr (.inl a))→K (.inr (.inl a))=some r→T1 a)(p2:∀ a,m=some (.inr (.inr (.inl a)))→K (.inr (.inr (.inl a)))=some r→T2 a)(p3:∀ a,m=some (.inr (.inr (.inr (.inl a))))→K (.inr (.inr (.inr (.inl a))))=some r→T3 a)(p4:∀ a,m=some (.inr (.inr (.inr (.inr a))))→K (.inr (.inr (.inr (.inr a))))=some r→T4 a):(∃ a,T0 a)∨(∃ a,T1 a)∨(∃ a,T2 a)∨(∃ a,T3 a)∨(∃ a,T4 a):=by
 obtain ⟨x,h2,h3⟩:=ah.1 h
 match x,h2,h3 with
 | .inl a,h2,h3=>exact .inl ⟨a,p0 a h2 h3⟩
 | .inr (.inl a),h2,h3=>exact .inr (.inl ⟨a,p1 a h2 h3⟩)
 | .inr (.inr (.inl a)),h2,h3=>exact .inr (.inr (.inl ⟨a,p2 a h2 h3⟩))
 | .inr (.inr (.inr (.inl a))),h2,h3=>exact .inr (.inr (.inr (.inl ⟨a,p3 a h2 h3⟩)))
 | .inr (.inr (.inr (.inr a))),h2,h3=>exact .inr (.inr (.inr (.inr (⟨a,p4 a h2 h3⟩))))
theorem lY{R V:Type}{Y:R→V}{a r:R}(h:some a=some r):Y a=Y r:=by rw [aa h]
theorem aht{α ε:Type}{E:Env}{l:aY}{S:α→St}{X:ε→aI×St}{v:α}{o:α⊕ε}{T:Prop}(a:AT)(h:T)(he:T=cW G Ω0 E l.x (S v) a fun e s _=>VE l.kf l.kb e s=KZ S X o):bz E l S X v o:=by
 obtain ⟨e,s,_,h1,h2⟩:=vt l.x (he▸h)
 cases o with
 | inl w=>
  cases e with
  | nrm=>
   have h3:s.aP l.kf l.kb=S w:=Sum.inl.inj h2
   show (run G Ω0 E l.x (S v)).bind (kept l)=some (S w)
   rw [h1,←h3];rfl
  | ret=>cases h2
  | ex id=>cases h2
 | inr x=>
  cases e with
  | nrm=>cases h2
  | ret=>
   have h3:(aI.ret,s)=X x:=Sum.inr.inj h2
   exact ⟨by rw [h1,h3],by rw [←h3];exact aa9⟩
  | ex id=>
   have h3:(aI.ex id,s)=X x:=Sum.inr.inj h2
   exact ⟨by rw [h1,h3],by rw [←h3];exact ahs _⟩
theorem cO{E:Env}{f:FuncId}{ys:List AV}{x:AV}{dp:Nat}{bx:List (Nat×List AV)}{hp:HP}{k:Key}{c c':List AV}(hk:k.dp<dp)(h:call G Ω0 E f ys (aF (boxes dp bx (aF hp k c)) k c)=some (.ret x,aF (boxes dp bx (aF hp k c)) k c')):call G Ω0 E f ys (boxes dp bx (aF hp k c))=some (.ret x,boxes dp bx (aF hp k c')):=
 pa (oF (cT hk) (nW ..)) (oF (cT hk) (nW ..)) h
theorem sw3{dp:Nat}{bx:List (Nat×List AV)}{hp:HP}{k0 k1 k2:Key}{a b c a' b' c':List AV}(h0:k0.dp<dp)(h1:k1.dp<dp)(h2:k2.dp<dp)(n01:k0≠k1)(n02:k0≠k2)(n12:k1≠k2) :
  aF (aF (aF (boxes dp bx (aF (aF (aF hp k0 a) k1 b) k2 c)) k0 a') k1 b') k2 c'=boxes dp bx (aF (aF (aF hp k0 a') k1 b') k2 c'):=
 uQ (uQ (oF (cT h0) (xO (p8 n02) (xO (p8 n01) (nW ..)))) (oF (cT h1) (xO (p8 n12) (nW ..)))) (oF (cT h2) (nW ..))
theorem cO3{E:Env}{f:FuncId}{ys:List AV}{x:AV}{dp:Nat}{bx:List (Nat×List AV)}{hp:HP}{k0 k1 k2:Key}{a b c a' b' c':List AV}(h0:k0.dp<dp)(h1:k1.dp<dp)(h2:k2.dp<dp)(n01:k0≠k1)(n02:k0≠k2)(n12:k1≠k2)(h:call G Ω0 E f ys (aF (aF (aF (boxes dp bx (aF (aF (aF hp k0 a) k1 b) k2 c)) k0 a) k1 b) k2 c)=some (.ret x,aF (aF (aF (boxes dp bx (aF (aF (aF hp k0 a) k1 b) k2 c)) k0 a') k1 b') k2 c')) :
  call G Ω0 E f ys (boxes dp bx (aF (aF (aF hp k0 a) k1 b) k2 c))=some (.ret x,boxes dp bx (aF (aF (aF hp k0 a') k1 b') k2 c')):=pa (sw3 h0 h1 h2 n01 n02 n12) (sw3 h0 h1 h2 n01 n02 n12) h
theorem aj4{hp:HP}{k0 k1:Key}{a b:List AV}(n01:k0≠k1):(aF (aF hp k0 a) k1 b) k0=some a:=(oY n01).trans (eX ..)
theorem aj5{hp:HP}{k0 k1 k2:Key}{a b c:List AV}(n01:k0≠k1)(n02:k0≠k2):(aF (aF (aF hp k0 a) k1 b) k2 c) k0=some a:=(oY n02).trans (aj4 n01)
abbrev NX.bX(p:aI×St):NX:=.lp p.1 p.2
abbrev NX.jJ(p:aI×St):NX:=.fr p.1 p.2
theorem kO{α ε:Type}{B:α→Option (α⊕ε)}(n:Nat)(f:Nat→α){x:ε}(hs:∀ k,k<n→B (f k)=some (.inl (f (k+1))))(he:B (f n)=some (.inr x)):lp B (f 0)=some x:=by
 have:∀ m k,k+m=n→lp B (f k)=some x:=by
  intro m
  induction m with
  | zero=>
    intro k hk;obtain rfl:k=n:=by omega
    exact fc he
  | succ m ih=>intro k hk;rw [lF (hs k (by omega))];exact ih (k+1) (by omega)
 exact this n 0 (by omega)
theorem Aj{α ε β:Type}{B:α→Option (α⊕ε)}(es:List β)(p:β→Bool)(f:Nat→α){x y:ε}(hs:∀ k (h:k<es.length),p es[k]=false→B (f k)=some (.inl (f (k+1))))(hx:∀ k (h:k<es.length),p es[k]=true→B (f k)=some (.inr x))(he:B (f es.length)=some (.inr y)):lp B (f 0)=some (if es.any p then x else y):=by
 have:∀ m k,k+m=es.length→lp B (f k)=some (if (es.drop k).any p then x else y):=by
  intro m
  induction m with
  | zero=>
   intro k hk
   obtain rfl:k=es.length:=by omega
   rw [yM]
   exact fc he
  | succ m ih=>
   intro k hk
   have hlt:k<es.length:=by omega
   rw [jt hlt,yN]
   cases hp:p es[k] with
   | true=>exact fc (hx k hlt hp)
   | false=>rw [lF (hs k hlt hp),ih (k+1) (by omega)];rfl
 exact this es.length 0 (by omega)
theorem ke{α ε:Type}{B:α→Option (α⊕ε)}(m:α→Nat)(Inv:α→Prop)(Q:ε→Prop)(step:∀ a,Inv a→(∃ x,B a=some (.inr x)∧Q x)∨∃ b,B a=some (.inl b)∧Inv b∧m b<m a):∀ a,Inv a→∃ x,lp B a=some x∧Q x:=by
 have:∀ n a,m a<n→Inv a→∃ x,lp B a=some x∧Q x:=by
  intro n
  induction n with
  | zero=>intro a h;omega
  | succ n ih=>
   intro a h hi
   rcases step a hi with ⟨x,h1,h2⟩ | ⟨b,h1,h2,h3⟩
   ·exact ⟨x,fc h1,h2⟩
   ·rw [lF h1];exact ih b (by omega) h2
 exact fun a=>this (m a+1) a (nm _)
theorem Tp{t:TypeId}{n:Int}(h:0≤n∧n≤1000000):qX t [.n,.i .i64 n]=some (.o t []):=by
 simp [qX,h.1,h.2]
theorem zm{E:Env}{f:FuncId}{ys:List AV}{dp:Nat}{bx bx':List (Nat×List AV)}{hp hp':HP}{y:bm}(_:call G Ω0 E f ys (boxes dp bx hp)=some (y,boxes dp bx' hp'))(h:bx'.map Prod.fst=bx.map Prod.fst)(hn:CX (bx.map Prod.fst)=true):ib dp (boxes dp bx' hp') bx=bx':=Nh h hn
theorem zn{E:Env}{f:FuncId}{ys:List AV}{dp:Nat}{bx bx':List (Nat×List AV)}{hp hp':HP}{y:bm}(_:call G Ω0 E f ys (boxes dp bx hp)=some (y,boxes dp bx' hp'))(hz:cF dp hp'):(fun k:Key=>if k.dp<dp then boxes dp bx' hp' k else none)=hp':=Q1 hz
theorem g1{x y:Bool}(h:x=y):(x==true)=(y==true):=an (fun z=>z==true) h
theorem g0{x y:Bool}(h:x=y):(x==false)=(y==false):=an (fun z=>z==false) h
theorem D7{α:Type}{ts:List TypeId}{f:α→AV}(h:∀ x,(f x).off ts=true):∀ l:List α,AV.k7 ts (l.map f)=true
 | []=>rfl
 | x::l=>by simp only [bZ,AV.k7,h x,D7 h l,gu]
theorem xP(ts:List TypeId)(l:List Bool):AV.k7 ts (l.map AV.b)=true:=D7 (fun _=>by simp only [AV.off]) l
noncomputable def ev{α:Type}(x:Nat→Option α):Option α:=open Classical in if h:∃ r,∃ n0,∀ n,n0≤n→x n=some r then some (Classical.choose h) else none
theorem uR{α:Type}{x:Nat→Option α}{r:α}(h:ev x=some r):∃ n,x n=some r:=by
 unfold ev at h
 split at h
 ·rename_i hex
  obtain ⟨n0,hn⟩:=Cq hex
  exact ⟨n0,by rw [hn n0 (aS _)];exact h⟩
 ·cases h
theorem Bh{α:Type}{x:Nat→Option α}{r:α}(n0:Nat)(h:∀ n,n0≤n→x n=some r):ev x=some r:=by
 unfold ev
 have hex:∃ r,∃ n0,∀ n,n0≤n→x n=some r:=⟨r,n0,h⟩
 rw [dif_pos hex]
 obtain ⟨n1,h1⟩:=Cq hex
 have:=h1 (max n0 n1) (Ct _ _)
 rw [h (max n0 n1) (Cr _ _)] at this
 exact this.symm
def CY(l:List Int):Option (List Int):=if l.length≤17592186044416 then some l else none
theorem Q2{t u:TypeId}{l r:List Int}(h:CY l=some r):nT t [.l u (l.map (AV.i .i64))]=some (.l t (r.map (AV.i .i64))):=by
 unfold CY at h
 split at h
 ·rename_i hl
  cases h
  simp [nT,Bf,hl]
 ·cases h
def Pq(b:Bool)(n:Int):Option (List Bool):=if 0≤n∧n≤1000000 then some (List.replicate n.toNat b) else none
theorem Wf{t u:TypeId}{b:Bool}{n:Int}{r:List Bool}(h:Pq b n=some r):uO t [.l u [.b b],.i .i64 n]=some (.l t (r.map AV.b)):=by
 unfold Pq at h
 split at h
 ·rename_i hn
  obtain rfl:=aa h
  simp only [uO,ab hn,yO]
 ·cases h
theorem aX{R:Type}{E:Env}{f:FuncId}{fn:bE}{ys:List AV}{hp:HP}{Y:R→bm×HP}{r:R}{T:Prop}(hG:G f=some fn)(a:AT)(h:(∀ {a:R},some a=some r→Y a=Y r)→T)(he:T=Pn G Ω0 E fn ys hp a fun y h=>(bm.ret y,h)=Y r:=by kernel_rfl):call G Ω0 E f ys hp=some (Y r):=aho hG a (h lY) he
theorem Wg{R:Type}{E:Env}{f:FuncId}{fn:bE}{ys:List AV}{hp:HP}{Y:R→bm×HP}{r:R}{T:Prop}(hG:G f=some fn)(a:AT)(h:(∀ {a:R},some a=some r→Y a=Y r)→T)(he:T=Lm G Ω0 E fn ys hp a fun y h=>(bm.new y,h)=Y r:=by kernel_rfl):call G Ω0 E f ys hp=some (Y r):=aa7 hG a (h lY) he
theorem vu{R:Type}{E:Env}{c:AC}{st:St}{Y:R→aI×St}{r:R}{T:Prop}(a:AT)(h:(∀ {a:R},some a=some r→Y a=Y r)→T)(he:T=cW G Ω0 E c st a fun e s _=>(e,s)=Y r:=by kernel_rfl):run G Ω0 E c st=some (Y r):=runT a (h lY) he
theorem ss{R:Type}{E:Env}{kf kb:List Nat}{gs:List cN}{st:St}{Y:R→St}{r:R}{T:Prop}(a:AT)(h:(∀ {a:R},some a=some r→Y a=Y r)→T)(he:T=CV G Ω0 E kf kb st gs a fun s _=>s=Y r:=by kernel_rfl):rY G Ω0 E kf kb gs st=some (Y r):=ahp a (h lY) he
theorem ak5{R:Type}{E:Env}{kf kb:List Nat}{gs:List cp}{st:St}{Y:R→St}{r:R}{T:Prop}(a:AT)(h:(∀ {a:R},some a=some r→Y a=Y r)→T)(he:T=CW G Ω0 E kf kb st gs a fun s _=>s=Y r:=by kernel_rfl):Im G Ω0 E kf kb gs st=some (Y r):=ahq a (h lY) he
theorem bG{α ε:Type}{E:Env}{l:aY}{S:α→St}{X:ε→aI×St}{v:α}{o:α⊕ε}{T:Prop}(a:AT)(h:(∀ {a:α⊕ε},some a=some o→KZ S X a=KZ S X o)→T)(he:T=cW G Ω0 E l.x (S v) a fun e s _=>VE l.kf l.kb e s=KZ S X o:=by kernel_rfl):bz E l S X v o:=aht a (h lY) he
theorem aW{Q R:Type}{m:Option Q}{k:Q→Option R}{r:R}{O T:Q→Prop}(h:m.bind k=some r)(l:∀ x,m=some x→O x)(h1:∀ x,k x=some r→T x):∃ x,O x∧T x:=bR h fun x e h=>⟨l x e,h1 x h⟩
theorem dy{b0 b1 R:Type}{m:Option (b0⊕b1)}{K:b0⊕b1→Option R}{r:R}{O:b0⊕b1→Prop}{T0:b0→Prop}{T1:b1→Prop}(h:m.bind K=some r)(l:∀ x,m=some x→O x)(p0:∀ a,K (.inl a)=some r→T0 a)(p1:∀ a,K (.inr a)=some r→T1 a):(∃ a,O (.inl a)∧T0 a)∨(∃ a,O (.inr a)∧T1 a):=aj0 h (fun a e h=>⟨l _ e,p0 a h⟩) (fun a e h=>⟨l _ e,p1 a h⟩)
theorem K0{b0 b1 b2 R:Type}{m:Option (b0⊕(b1⊕b2))}{K:b0⊕(b1⊕b2)→Option R}{r:R}{O:b0⊕(b1⊕b2)→Prop}{T0:b0→Prop}{T1:b1→Prop}{T2:b2→Prop}(h:m.bind K=some r)(l:∀ x,m=some x→O x)(p0:∀ a,K (.inl a)=some r→T0 a)(p1:∀ a,K (.inr (.inl a))=some r→T1 a)(p2:∀ a,K (.inr (.inr a))=some r→T2 a):(∃ a,O (.inl a)∧T0 a)∨(∃ a,O (.inr (.inl a))∧T1 a)∨(∃ a,O (.inr (.inr a))∧T2 a):=aj1 h (fun a e h=>⟨l _ e,p0 a h⟩) (fun a e h=>⟨l _ e,p1 a h⟩) (fun a e h=>⟨l _ e,p2 a h⟩)
theorem Pr{b0 b1 b2 b3 R:Type}{m:Option (b0⊕(b1⊕(b2⊕b3)))}{K:b0⊕(b1⊕(b2⊕b3))→Option R}{r:R}{O:b0⊕(b1⊕(b2⊕b3))→Prop}{T0:b0→Prop}{T1:b1→Prop}{T2:b2→Prop}{T3:b3→Prop}(h:m.bind K=some r)(l:∀ x,m=some x→O x)(p0:∀ a,K (.inl a)=some r→T0 a)(p1:∀ a,K (.inr (.inl a))=some r→T1 a)(p2:∀ a,K (.inr (.inr (.inl a)))=some r→T2 a)(p3:∀ a,K (.inr (.inr (.inr a)))=some r→T3 a):(∃ a,O (.inl a)∧T0 a)∨(∃ a,O (.inr (.inl a))∧T1 a)∨(∃ a,O (.inr (.inr (.inl a)))∧T2 a)∨(∃ a,O (.inr (.inr (.inr a)))∧T3 a):=aj2 h (fun a e h=>⟨l _ e,p0 a h⟩) (fun a e h=>⟨l _ e,p1 a h⟩) (fun a e h=>⟨l _ e,p2 a h⟩) (fun a e h=>⟨l _ e,p3 a h⟩)
theorem VF{b0 b1 b2 b3 b4 R:Type}{m:Option (b0⊕(b1⊕(b2⊕(b3⊕b4))))}{K:b0⊕(b1⊕(b2⊕(b3⊕b4)))→Option R}{r:R}{O:b0⊕(b1⊕(b2⊕(b3⊕b4)))→Prop}{T0:b0→Prop}{T1:b1→Prop}{T2:b2→Prop}{T3:b3→Prop}{T4:b4→Prop}(h:m.bind K=some r)(l:∀ x,m=some x→O x)(p0:∀ a,K (.inl a)=some r→T0 a)(p1:∀ a,K (.inr (.inl a))=some r→T1 a)(p2:∀ a,K (.inr (.inr (.inl a)))=some r→T2 a)(p3:∀ a,K (.inr (.inr (.inr (.inl a))))=some r→T3 a)(p4:∀ a,K (.inr (.inr (.inr (.inr a))))=some r→T4 a):(∃ a,O (.inl a)∧T0 a)∨(∃ a,O (.inr (.inl a))∧T1 a)∨(∃ a,O (.inr (.inr (.inl a)))∧T2 a)∨(∃ a,O (.inr (.inr (.inr (.inl a))))∧T3 a)∨(∃ a,O (.inr (.inr (.inr (.inr a))))∧T4 a):=aj3 h (fun a e h=>⟨l _ e,p0 a h⟩) (fun a e h=>⟨l _ e,p1 a h⟩) (fun a e h=>⟨l _ e,p2 a h⟩) (fun a e h=>⟨l _ e,p3 a h⟩) (fun a e h=>⟨l _ e,p4 a h⟩)
theorem dZ{α ε:Type}{E:Env}{B:α→Option (α⊕ε)}{l:aY}{S:α→St}{X:ε→aI×St}(hb:∀ v o,B v=some o→bz E l S X v o)(v:α)(x:ε)(h:lp B v=some x)(hk:∀ v,(S v).aP l.kf l.kb=S v:=by exact fun _=>rfl):gY G Ω0 E l (S v)=some (X x):=Wb l S X hk hb h
theorem rI(n:Nat):(n:Int)=(n:Int):=rfl
theorem rN(n:Nat):n=n:=rfl
theorem okR{k:Key}{dp:Nat}(h:k.dp<dp)(ns:List Nat):(jK dp ns (.p k 0)&&okB dp [] (.p k 0))=true:=by simp [jK,okB,jR,AV.cC,AV.dB,AV.ji,cP h]
abbrev xB(f:Bool→AT):AT:=.ex fun r=>ao (.v (.b r)) (f r)
abbrev xI(f:Int→AT):AT:=.ex fun r=>ao (.v (I r)) (f r)
abbrev xN(f:Nat→AT):AT:=.ex fun r=>ao (.n r) (f r)
abbrev oN(r:AT):AT:=.or (bt .nil) (bf r)
theorem kP{p:Prop}{q:Prop}(H:q)(h:p):q∧Z0∧p:=⟨H,rfl,h⟩
theorem su{p:Prop}(h:p):true=true∧Z0∧p:=⟨rfl,rfl,h⟩
theorem VG{p:Prop}{x y:Bool}(H:x=y)(h:p):(x==true)=(y==true)∧(x==true)=(y==true)∧Z0∧(x==true)=(y==true)∧(x==true)=(y==true)∧p:=⟨g1 H,g1 H,rfl,g1 H,g1 H,h⟩
theorem GK{p:Prop}{x y:Bool}(H:x=y)(h:p):(x==false)=(y==false)∧(x==false)=(y==false)∧Z0∧(x==false)=(y==false)∧p:=⟨g0 H,g0 H,rfl,g0 H,h⟩
theorem VH{p:Prop}{x y:Bool}(H:x=y)(h:p):(x==false)=(y==false)∧(x==false)=(y==false)∧(x==false)=(y==false)∧(x==false)=(y==false)∧x=y∧p:=⟨g0 H,g0 H,g0 H,g0 H,H,h⟩
theorem Lu{p:Prop}{x y:Bool}(H:x=y)(h:p):(x==true)=(y==true)∧(x==true)=(y==true)∧Z0∧(x==true)=(y==true)∧p:=⟨g1 H,g1 H,rfl,g1 H,h⟩
theorem N1{p:Prop}{x y:Bool}(H:x=y)(h:p):(x==true)=(y==true)∧(x==true)=(y==true)∧(x==true)=(y==true)∧p:=⟨g1 H,g1 H,g1 H,h⟩
theorem ev7{p:Prop}{x y:Bool}(H:x=y)(h:p):(x==true)=(y==true)∧(x==true)=(y==true)∧(x==true)=(y==true)∧(x==true)=(y==true)∧(x==true)=(y==true)∧x=y∧false=false∧p:=⟨g1 H,g1 H,g1 H,g1 H,g1 H,H,rfl,h⟩
theorem ev8{p:Prop}{x y:Bool}(H:x=y)(h:p):(x==false)=(y==false)∧(x==false)=(y==false)∧Z0∧(x==false)=(y==false)∧x=y∧p:=⟨g0 H,g0 H,rfl,g0 H,H,h⟩
theorem JA{p:Prop}(h:p):true=true∧false=false∧Z0∧true=true∧Z0∧Z0∧p:=⟨rfl,rfl,rfl,rfl,rfl,rfl,h⟩
theorem nX{p:Prop}{x y:Bool}(H:x=y)(h:p):(x==true)=(y==true)∧(x==true)=(y==true)∧x=y∧p:=⟨g1 H,g1 H,H,h⟩
theorem jy{p:Prop}{x y:Bool}(H:x=y)(h:p):(x==false)=(y==false)∧x=y∧p:=⟨g0 H,H,h⟩
theorem Tq{p:Prop}{x y:Bool}(H:x=y)(h:p):(x==false)=(y==false)∧(x==false)=(y==false)∧(x==false)=(y==false)∧(x==false)=(y==false)∧(x==false)=(y==false)∧x=y∧p:=⟨g0 H,g0 H,g0 H,g0 H,g0 H,H,h⟩
theorem bq{p:Prop}(h:p):true=true∧true=true∧p:=⟨rfl,rfl,h⟩
theorem Ps{p:Prop}{q:Prop}(H:q)(h:p):q∧Z0∧Z0∧p:=⟨H,rfl,rfl,h⟩
theorem rZ{p:Prop}{x y:Bool}(H:x=y)(h:p):(x==true)=(y==true)∧x=y∧p:=⟨g1 H,H,h⟩
theorem bY{p:Prop}{x y:Bool}(H:x=y)(h:p):(x==false)=(y==false)∧(x==false)=(y==false)∧p:=⟨g0 H,g0 H,h⟩
theorem zU{p:Prop}(h:p):true=true∧true=true∧true=true∧p:=⟨rfl,rfl,rfl,h⟩
theorem uS{p:Prop}(h:p):true=true∧true=true∧true=true∧true=true∧p:=⟨rfl,rfl,rfl,rfl,h⟩
theorem Ff{p:Prop}{x y:Bool}(H:x=y)(h:p):(x==true)=(y==true)∧(x==true)=(y==true)∧(x==true)=(y==true)∧x=y∧p:=⟨g1 H,g1 H,g1 H,H,h⟩
theorem Pt{p:Prop}{x y:Bool}(H:x=y)(h:p):(x==false)=(y==false)∧(x==false)=(y==false)∧x=y∧p:=⟨g0 H,g0 H,H,h⟩
theorem Lv{p:Prop}{q:Prop}(H:q)(h:p):q∧true=true∧true=true∧true=true∧p:=⟨H,rfl,rfl,rfl,h⟩
theorem dt{p:Prop}{x y:Bool}(H:x=y)(h:p):(x==true)=(y==true)∧(x==true)=(y==true)∧p:=⟨g1 H,g1 H,h⟩
theorem fB{p:Prop}(h:p):Z0∧true=true∧p:=⟨rfl,rfl,h⟩
theorem kD{p:Prop}(h:p):Z0∧Z0∧p:=⟨rfl,rfl,h⟩
theorem nu{p:Prop}(h:p):(true==false)=false∧(true==false)=false∧p:=⟨rfl,rfl,h⟩
theorem CZ{p:Prop}{x y:Bool}(H:x=y)(h:p):(x==false)=(y==false)∧true=true∧(x==false)=(y==false)∧p:=⟨g0 H,rfl,g0 H,h⟩
abbrev en(r:AT):AT:=bt<|bt r
abbrev iu(r:AT):AT:=bt<|bt<|bt r
abbrev qx(r:AT):AT:=bt<|bt<|bt<|bt r
abbrev uF(r:AT):AT:=bt<|bt<|bt<|bt<|bt r
abbrev wW(r:AT):AT:=bt<|bf r
abbrev JB(r:AT):AT:=bf<|bf<|bf r
abbrev N2(r:AT):AT:=bf<|bf<|bf<|bf r
abbrev Q3(r:AT):AT:=bt<|bt<|bt<|bt<|bt<|bt<|bf r
abbrev VI(r:AT):AT:=bf<|bf<|bf<|bf<|bt r
abbrev VJ(r:AT):AT:=bf<|bf<|bf<|bt<|bf<|bf r
abbrev Tr(r:AT):AT:=bf<|bf<|bf<|bf<|bf<|bf<|bf r
abbrev Ts(r:AT):AT:=bf<|bf<|bf<|bt<|bt r
abbrev Tt(r:AT):AT:=bt<|bt<|bt<|bt<|bf r
abbrev Tu(r:AT):AT:=bf<|bf<|bf<|bf<|bf r
abbrev Tv(r:AT):AT:=bf<|bf<|bf<|bf<|bf<|bt r
abbrev Tw(r:AT):AT:=bt<|bt<|bt<|bt<|bt<|bf r
abbrev Tx(r:AT):AT:=bt<|bt<|bt<|bt<|bt<|bt<|bt r
abbrev Ty(r:AT):AT:=bf<|bf<|bf<|bf<|bf<|bf<|bf<|bf r
abbrev abd(r:AT):AT:=bf<|bf<|bf<|bf<|bt<|bf<|bf<|bf<|bf<|bt<|bf<|bf<|bf<|bf<|bt r
abbrev abe(r:AT):AT:=bf<|bf<|bf<|bf<|bt<|bf<|bf<|bf<|bf<|bt r
abbrev abf(r:AT):AT:=bf<|bf<|bf<|bf<|bf<|bf<|bf<|bt<|bt r
abbrev abg(r:AT):AT:=bf<|bf<|bf<|bf<|bf<|bf<|bf<|bt<|bf<|bf<|bf<|bf<|bf<|bf<|bf<|bt<|bt r
abbrev abh(r:AT):AT:=bf<|bf<|bf<|bf<|bf<|bt<|bt<|bt<|bt<|bt r
theorem eQ(k:Nat)(h:k<9223372036854775807):IntKind.i64.wrap ((k:Int)+1)=((k+1:Nat):Int):=(wrap64 (by omega) (by omega)).trans (by omega)
variable [Lp]
def D8{β:Type}(φ:β→Option Bool)(es:List β)(k:Nat):Option (Nat⊕(Nat⊕(Nat×Bool))):=
 if (k:Int)<(es.length:Int) then
  (es[k]?).bind fun (y:β)=>
  (φ y).bind fun (r:Bool)=>
  if r=true then
   some (.inr (.inl k))
  else
   if IntKind.i64.wrap ((k:Int)+1)=((k+1:Nat):Int) then
    some (.inl (k+1))
   else none
 else
  some (.inr (.inr (k,decide ((k:Int)<(es.length:Int)))))
def VK{β:Type}(p:β→Bool)(es:List β):Nat⊕(Nat×Bool):=match es.findIdx? p with
 | some k=>.inl k
 | none=>.inr (es.length,false)
theorem find_spec{β:Type}(φ:β→Option Bool)(p:β→Bool)(es:List β)(hl:es.length≤9223372036854775807)(h:∀ y∈es,φ y=some (p y)):lp (fun v=>D8 φ es v) 0=some (VK p es):=by
 have:∀ m k,k+m=es.length→lp (fun v=>D8 φ es v) k=some (match (es.drop k).findIdx? p with
   | some j=>.inl (k+j)
   | none=>.inr (es.length,false)):=by
  intro m
  induction m with
  | zero=>
   intro k hk
   obtain rfl:k=es.length:=by omega
   rw [yM]
   exact fc (by simp [D8])
  | succ m ih=>
   intro k hk
   have hlt:k<es.length:=by omega
   have hp:=h es[k] (cq hlt)
   rw [jt hlt,List.findIdx?_cons]
   cases hq:p es[k] with
   | true=>exact fc (by simp [D8,hlt,hp,hq])
   | false=>
    rw [lF (w:=k+1) (by simp [D8,hlt,hp,hq,eQ k (by omega)]),ih (k+1) (by omega)]
    simp only [bB,aM]
    cases List.findIdx? p (List.drop (k+1) es) with
    | none=>rfl
    | some j=>simp only [gv];congr 2;omega
 have h0:=this es.length 0 (by omega)
 simp only [tC,eU] at h0
 exact h0
theorem uT{β:Type}(φ:β→Option Bool)(p:β→Bool)(es:List β)(hl:es.length≤9223372036854775807)(h:∀ y∈es,φ y=some (p y)) :
  (((lp (fun v=>D8 φ es v) 0).bind fun (x1:(Nat⊕(Nat×Bool)))=>match x1 with
  | .inl z=>some (z:Int)
  | .inr _=>some (-1)).bind fun (r1:Int)=>some (decide (0≤r1)))=some (es.any p):=by
 rw [find_spec φ p es hl h,af]
 unfold VK
 cases hf:es.findIdx? p with
 | none=>
  have:=List.findIdx?_eq_none_iff.1 hf
  have hany:es.any p=false:=by
   rw [Bool.eq_false_iff]
   intro ha
   obtain ⟨x,hx,hpx⟩:=lN.1 ha
   rw [this x hx] at hpx;cases hpx
  rw [hany];rfl
 | some k=>
  obtain ⟨h1,h2,_⟩:=List.findIdx?_eq_some_iff_getElem.1 hf
  have hany:es.any p=true:=lN.2 ⟨_,cq h1,h2⟩
  rw [hany]
  simp only [af]
  rw [show decide ((0:Int)≤(k:Int))=true by simp]
end Go.Proofs.YtkkkkondjclcnaaGreat.A
