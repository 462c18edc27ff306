/- Plain functions: loops as least fixed points, and how what they answer is told of the abstract run. -/
import Derived.Test.YtkkkkondjclcnaaGreatBase
set_option linter.all false
namespace Go.Proofs.YtkkkkondjclcnaaGreat.A
open Go
def ph{α ε:Type}(B:α→Option (α⊕ε)):Nat→α→Option ε
 | 0,_=>none
 | n+1,v=>match B v with
  | some (.inl w)=>ph B n w
  | some (.inr x)=>some x
  | none=>none
class Lp where
 run : {α ε:Type}→(α→Option (α⊕ε))→α→Option ε
 sound:∀ {α ε:Type}{B:α→Option (α⊕ε)}{v:α}{x:ε},run B v=some x→∃ n,ph B n v=some x
 told:∀ {α ε:Type}{B:α→Option (α⊕ε)}{v:α}{x:ε}(n:Nat),ph B n v=some x→run B v=some x
abbrev lp[Lp]{α ε:Type}(B:α→Option (α⊕ε))(v:α):Option ε:=Lp.run B v
theorem xT[Lp]{α ε:Type}{B:α→Option (α⊕ε)}{v:α}{x:ε}(h:lp B v=some x):∃ n,ph B n v=some x:=Lp.sound h
theorem Pu[Lp]{α ε:Type}{B:α→Option (α⊕ε)}{v:α}{x:ε}(n:Nat)(h:ph B n v=some x):lp B v=some x:=Lp.told n h
theorem LB{α ε:Type}{B:α→Option (α⊕ε)} : ∀ {n:Nat}{v:α}{x:ε},ph B n v=some x→ph B (n+1) v=some x
 | 0,_,_,h=>by cases h
 | n+1,v,x,h=>by
  rw [ph] at h ⊢
  split at h
  ·exact LB h
  ·exact h
  ·exact h
theorem Ra{α ε:Type}{B:α→Option (α⊕ε)}{n m:Nat}{v:α}{x:ε}(hm:n≤m)(h:ph B n v=some x):ph B m v=some x:=by
 induction hm with
 | refl=>exact h
 | step _ ih=>exact LB ih
theorem V4{α ε:Type}{B:α→Option (α⊕ε)}{n m:Nat}{v:α}{x y:ε}(h:ph B n v=some x)(h':ph B m v=some y):x=y:=by
 have h1:=Ra (CF n m) h
 rw [Ra (CH n m) h'] at h1
 exact (ad h1).symm
theorem Rb:Nonempty Lp:=by
 refine ⟨⟨fun {α ε} B v=>open Classical in if h:∃ n,(ph B n v).isSome then ph B h.choose v else none,fun {α ε B v x} h=>?_,fun {α ε B v x} n h=>?_⟩⟩
 ·split at h
  ·rename_i hn;exact ⟨_,h⟩
  ·cases h
 ·have hn:∃ n,(ph B n v).isSome:=⟨n,by rw [h];rfl⟩
  rw [dif_pos hn]
  have:=hn.choose_spec
  obtain ⟨y,hy⟩:=gd.1 this
  rw [hy,V4 hy h]
variable [Lp]
section
variable {α ε:Type}{B:α→Option (α⊕ε)}
theorem iI{v:α}{x:ε}(h:B v=some (.inr x)):lp B v=some x:=Pu 1 (by rw [ph,h])
theorem mi{v w:α}(h:B v=some (.inl w)):lp B v=lp B w:=by
 cases hw:lp B w with
 | some x=>obtain ⟨n,hn⟩:=xT hw;exact Pu (n+1) (by rw [ph,h];exact hn)
 | none=>
  cases hv:lp B v with
  | none=>rfl
  | some x=>
   obtain ⟨n,hn⟩:=xT hv
   cases n with
   | zero=>cases hn
   | succ n=>rw [ph,h] at hn;rw [Pu n hn] at hw;cases hw
end
def bu{α ε:Type}(E:Env)(l:aY)(S:α→St)(X:ε→aH×St)(v:α):α⊕ε→Prop
 | .inl w=>(run G Ω0 E l.x (S v)).bind (kept l)=some (S w)
 | .inr x=>run G Ω0 E l.x (S v)=some (X x)∧(X x).1≠.nrm
theorem V5{α ε:Type}{E:Env}{B:α→Option (α⊕ε)}(l:aY)(S:α→St)(X:ε→aH×St)(hk:∀ v,(S v).aN l.kf l.kb=S v)(hb:∀ v o,B v=some o→bu E l S X v o){v:α}{x:ε}(h:lp B v=some x):fL G Ω0 E l (S v)=some (X x):=by
 obtain ⟨n,hn⟩:=xT h
 clear h
 induction n generalizing v with
 | zero=>cases hn
 | succ n ih=>
  rw [ph] at hn
  split at hn
  ·rename_i w hw
   rw [cP (by rw [hk];exact hb v _ hw)]
   exact ih hn
  ·rename_i y hy
   obtain rfl:=ad hn
   obtain ⟨h1,h2⟩:=hb v _ hy
   exact cT (by rw [hk];exact h1) h2
  ·cases hn
def boxes(dp:Nat)(bx:List (Nat×List AV))(hp:HP):HP:=fun k=>if k.dp=dp then aO bx k.d else hp k
theorem nH{hp:HP}{k k':Key}{cs:List AV}(h:k≠k'):aG hp k' cs k=hp k:=by simp only [aG,ab h]
theorem xU{h h':HP}{k k':Key}{c d:List AV}(hn:k'≠k)(e:aG h k c=h'):aG (aG h k' d) k c=aG h' k' d:=by
 subst e
 funext q
 simp only [aG]
 by_cases h1:q=k
 ·subst h1;simp [pU hn]
 ·simp [h1]
theorem V6{dp:Nat}{bx:List (Nat×List AV)}{hp:HP}{k:Key}{c:List AV}(h:k.dp≠dp):aG (boxes dp bx hp) k c=boxes dp bx (aG hp k c):=by
 funext q
 simp only [aG,boxes]
 by_cases h1:q=k
 ·subst h1;simp [h]
 ·simp [h1]
theorem Pv{bx:List (Nat×List AV)}{d d':Nat}{c:List AV}(h:(aO bx d).isSome=true):aO (nB bx d c) d'=if d'=d then some c else aO bx d':=by
 induction bx with
 | nil=>simp [aO] at h
 | cons x bx ih=>
  obtain ⟨k,cs⟩:=x
  by_cases hk:k=d
  ·subst hk
   by_cases hd:d'=k
   ·subst hd;simp [nB,aO]
   ·have:¬k=d':=fun e=>hd e.symm
    simp [nB,aO,hd,this]
  ·have h2:(aO bx d).isSome=true:=by simpa [aO,hk] using h
   have:=ih h2
   by_cases hd:k=d'
   ·subst hd
    simp [nB,aO,hk]
   ·simp [nB,aO,hk,hd,this]
theorem V7{dp:Nat}{bx:List (Nat×List AV)}{hp:HP}{d:Nat}{c:List AV}(h:(aO bx d).isSome=true):aG (boxes dp bx hp) ⟨dp,d⟩ c=boxes dp (nB bx d c) hp:=by
 funext q
 obtain ⟨qd,q'⟩:=q
 simp only [aG,boxes,Pv h,Key.mk.injEq]
 by_cases h1:qd=dp
 ·simp [h1]
 ·simp [h1]
theorem kq{dp:Nat}{bx bx1:List (Nat×List AV)}{hp:HP}{d:Nat}{c:List AV}(h:(aO bx d).isSome=true)(hb:nB bx d c=bx1):aG (boxes dp bx hp) ⟨dp,d⟩ c=boxes dp bx1 hp:=hb▸V7 h
theorem ot{dp:Nat}{bx:List (Nat×List AV)}{hp hp1:HP}{k:Key}{c:List AV}(h:k.dp≠dp)(hh:aG hp k c=hp1):aG (boxes dp bx hp) k c=boxes dp bx hp1:=hh▸V6 h
theorem uR{H H1 H2:HP}{k:Key}{c:List AV}(h:H=H1)(h':aG H1 k c=H2):aG H k c=H2:=h▸h'
def C9:List Nat→Bool
 | []=>true
 | x::l=>l.all (fun y=>x !=y)&&C9 l
theorem LC:∀ {l:List Nat},C9 l=true→l.Nodup
 | [],_=>List.nodup_nil
 | x::l,h=>by
  simp only [C9,aB,bO,tA,ne_eq] at h
  exact tC.2 ⟨fun hm=>h.1 x hm rfl,LC h.2⟩
theorem Nr{dp:Nat}{bx bx':List (Nat×List AV)}{hp:HP}(h:bx'.map Prod.fst=bx.map Prod.fst)(hn0:C9 (bx.map Prod.fst)=true):gD dp (boxes dp bx' hp) bx=bx':=by
 have hn:=LC hn0
 clear hn0
 have key:∀ (l l':List (Nat×List AV)),l'.map Prod.fst=l.map Prod.fst→(l.map Prod.fst).Nodup→(∀ x∈l',aO bx' x.1=some x.2)→gD dp (boxes dp bx' hp) l=l':=by
  intro l
  induction l with
  | nil=>intro l' hl _ _;cases l' with
   | nil=>rfl
   | cons _ _=>cases hl
  | cons y l ih=>
   intro l' hl hnd hg
   cases l' with
   | nil=>cases hl
   | cons x l'=>
    simp only [cq,CI] at hl
    obtain ⟨d,cs⟩:=y
    obtain ⟨d',cs'⟩:=x
    obtain ⟨rfl,hl⟩:=hl
    have h1:=hg (d',cs') (by simp)
    simp only [gD,boxes,an,h1]
    rw [ih l' hl (tC.1 hnd).2 fun x hx=>hg x (by simp [hx])]
 refine key bx bx' h hn fun x hx=>?_
 have hn':(bx'.map Prod.fst).Nodup:=by rw [h];exact hn
 clear key h hn
 induction bx' with
 | nil=>cases hx
 | cons y bx' ih=>
  obtain ⟨d,cs⟩:=y
  rcases cQ.1 hx with rfl | hx
  ·simp [aO]
  ·have hne:¬d=x.1:=fun e=>(tC.1 hn').1 (gZ.2 ⟨x,hx,e.symm⟩)
   simp only [aO,ab hne]
   exact ih hx (tC.1 hn').2
def cM(dp:Nat)(hp:HP):Prop:=∀ k:Key,¬k.dp<dp→hp k=none
theorem qn(dp:Nat):cM dp (fun _=>none):=fun _ _=>rfl
theorem cz{dp:Nat}{hp:HP}{k:Key}{c:List AV}(hk:k.dp<dp)(h:cM dp hp):cM dp (aG hp k c):=by
 intro q hq
 have:q≠k:=fun e=>by subst e;exact hq hk
 rw [nH this];exact h q hq
theorem il{dp:Nat}{bx:List (Nat×List AV)}{hp:HP}(h:cM dp hp):cM (dp+1) (boxes dp bx hp):=by
 intro q hq
 simp only [boxes,ab (show ¬q.dp=dp by omega)]
 exact h q (by omega)
theorem Rc{dp:Nat}{bx:List (Nat×List AV)}{hp:HP}(h:cM dp hp):(fun k:Key=>if k.dp<dp then boxes dp bx hp k else none)=hp:=by
 funext q
 by_cases h1:q.dp<dp
 ·simp only [aa h1,boxes,ab (show ¬q.dp=dp by omega)]
 ·rw [ab h1,h q h1]
theorem aaP{dp d d':Nat}(h:d≠d'):(⟨dp,d⟩:Key)≠⟨dp,d'⟩:=fun e=>h (ak Key.d e)
theorem de{dp d:Nat}{k:Key}(h:k.dp<dp):k≠⟨dp,d⟩:=fun e=>by subst e;exact Nat.lt_irrefl _ h
theorem N6{dp d:Nat}{k:Key}(h:k.dp<dp):(⟨dp,d⟩:Key)≠k:=fun e=>de h e.symm
theorem tM{E:Env}{f:FuncId}{ys:List AV}{h1 h1' h2 h2':HP}{x:AV}(e1:h1=h1')(e2:h2=h2')(h:call G Ω0 E f ys h1=some (.ret x,h2)):call G Ω0 E f ys h1'=some (.ret x,h2'):=e1▸e2▸h
theorem Ts{R:Type}{c:Prop}[Decidable c]{A B:Option R}{r:R}{P:Prop}(h:(if c then A else B)=some r)(h1:c→A=some r→P)(h2:¬c→B=some r→P):P:=by
 by_cases hc:c
 ·exact h1 hc (by rwa [aa hc] at h)
 ·exact h2 hc (by rwa [ab hc] at h)
theorem ajd{R:Type}{c:Bool}{A B:Option R}{r:R}{P:Prop}(h:(if c=true then A else B)=some r)(h1:c=true→A=some r→P)(h2:c=false→B=some r→P):P:=by
 cases c with
 | true=>exact h1 rfl h
 | false=>exact h2 rfl h
def eI(n:Int):Option Nat:=if 0≤n then some n.toNat else none
theorem mj{n:Int}{j:Nat}(h:eI n=some j):n=(j:Int):=by
 unfold eI at h;split at h
 ·obtain rfl:=ad h;omega
 ·cases h
theorem LD(n:Nat):eI (n:Int)=some n:=by simp [eI]
theorem dP{n:Int}(h:0≤n):eI n=some n.toNat:=by simp [eI,h]
theorem aQ{R:Type}{c:Prop}[Decidable c]{A:Option R}{r:R}{P:Prop}(h:(if c then A else none)=some r)(h1:c→A=some r→P):P:=
 Ts h h1 fun _ h=>by cases h
theorem agG{R:Type}{r:R}{P:Prop}(h:(none:Option R)=some r):P:=by cases h
theorem aaQ:aH.ret≠.nrm:=by intro h;cases h
theorem agH(n:Nat):aH.ex n≠.nrm:=by intro h;cases h
def La{α ε:Type}(S:α→St)(X:ε→aH×St):α⊕ε→St⊕(aH×St)
 | .inl w=>.inl (S w)
 | .inr x=>.inr (X x)
theorem cb{Q R:Type}{m:Option Q}{k:Q→Option R}{r:R}{T:Q→Prop}(h:m.bind k=some r)(h1:∀ x,m=some x→k x=some r→T x):∃ x,T x:=by
 obtain ⟨x,h2,h3⟩:=af.1 h
 exact ⟨x,h1 x h2 h3⟩
theorem ou{R:Type}{n:Int}{k:Nat→Option R}{r:R}{T:Nat→Prop}(h:(eI n).bind k=some r)(h1:∀ j:Nat,n=(j:Int)→k j=some r→T j):∃ j,T j:=
 cb h fun j hj h=>h1 j (mj hj) h
theorem bL{R:Type}{c:Prop}[Decidable c]{A B:Option R}{r:R}{T S:Prop}(h:(if c then A else B)=some r)(h1:c→A=some r→T)(h2:¬c→B=some r→S):T∨S:=
 Ts h (fun hc h=>.inl (h1 hc h)) fun hc h=>.inr (h2 hc h)
theorem bz{R:Type}{c:Bool}{A B:Option R}{r:R}{T S:Prop}(h:(if c=true then A else B)=some r)(h1:c=true→A=some r→T)(h2:c=false→B=some r→S):T∨S:=
 ajd h (fun hc h=>.inl (h1 hc h)) fun hc h=>.inr (h2 hc h)
theorem aje{b0 b1 R:Type}{m:Option (b0⊕b1)}{K:b0⊕b1→Option R}{r:R}{T0:b0→Prop}{T1:b1→Prop}(h:m.bind K=some r)(p0:∀ a,m=some (.inl a)→K (.inl a)=some r→T0 a)(p1:∀ a,m=some (.inr a)→K (.inr a)=some r→T1 a):(∃ a,T0 a)∨(∃ a,T1 a):=by
 obtain ⟨x,h2,h3⟩:=af.1 h
 match x,h2,h3 with
 | .inl a,h2,h3=>exact .inl ⟨a,p0 a h2 h3⟩
 | .inr a,h2,h3=>exact .inr (⟨a,p1 a h2 h3⟩)
theorem ajf{b0 b1 b2 R:Type}{m:Option (b0⊕(b1⊕b2))}{K:b0⊕(b1⊕b2)→Option R}{r:R}{T0:b0→Prop}{T1:b1→Prop}{T2:b2→Prop}(h:m.bind K=some r)(p0:∀ a,m=some (.inl a)→K (.inl a)=some r→T0 a)(p1:∀ a,m=some (.inr (.inl a))→K (.inr (.inl a))=some r→T1 a)(p2:∀ a,m=some (.inr (.inr a))→K (.inr (.inr a))=some r→T2 a):(∃ a,T0 a)∨(∃ a,T1 a)∨(∃ a,T2 a):=by
 obtain ⟨x,h2,h3⟩:=af.1 h
 match x,h2,h3 with
 | .inl a,h2,h3=>exact .inl ⟨a,p0 a h2 h3⟩
 | .inr (.inl a),h2,h3=>exact .inr (.inl ⟨a,p1 a h2 h3⟩)
 | .inr (.inr a),h2,h3=>exact .inr (.inr (⟨a,p2 a h2 h3⟩))
theorem ajg{b0 b1 b2 b3 R:Type}{m:Option (b0⊕(b1⊕(b2⊕b3)))}{K:b0⊕(b1⊕(b2⊕b3))→Option R}{r:R}{T0:b0→Prop}{T1:b1→Prop}{T2:b2→Prop}{T3:b3→Prop}(h:m.bind K=some r)(p0:∀ a,m=some (.inl a)→K (.inl a)=some r→T0 a)(p1:∀ a,m=some (.inr (.inl a))→K (.inr (.inl a))=some r→T1 a)(p2:∀ a,m=some (.inr (.inr (.inl a)))→K (.inr (.inr (.inl a)))=some r→T2 a)(p3:∀ a,m=some (.inr (.inr (.inr a)))→K (.inr (.inr (.inr a)))=some r→T3 a):(∃ a,T0 a)∨(∃ a,T1 a)∨(∃ a,T2 a)∨(∃ a,T3 a):=by
 obtain ⟨x,h2,h3⟩:=af.1 h
 match x,h2,h3 with
 | .inl a,h2,h3=>exact .inl ⟨a,p0 a h2 h3⟩
 | .inr (.inl a),h2,h3=>exact .inr (.inl ⟨a,p1 a h2 h3⟩)
 | .inr (.inr (.inl a)),h2,h3=>exact .inr (.inr (.inl ⟨a,p2 a h2 h3⟩))
 | .inr (.inr (.inr a)),h2,h3=>exact .inr (.inr (.inr (⟨a,p3 a h2 h3⟩)))
theorem ajh{b0 b1 b2 b3 b4 R:Type}{m:Option (b0⊕(b1⊕(b2⊕(b3⊕b4))))}{K:b0⊕(b1⊕(b2⊕(b3⊕b4)))→Option R}{r:R}{T0:b0→Prop}{T1:b1→Prop}{T2:b2→Prop}{T3:b3→Prop}{T4:b4→Prop}(h:m.bind K=some r)(p0:∀ a,m=some (.inl a)→K (.inl a)=some r→T0 a)(p1:∀ a,m=some (.inr (.inl a))→K (.inr (.inl a))=some r→T1 a)(p2:∀ a,m=some (.inr (.inr (.inl a)))→K (.inr (.inr (.inl a)))=some r→T2 a)(p3:∀ a,m=some (.inr (.inr (.inr (.inl a))))→K (.inr (.inr (.inr (.inl a))))=some r→T3 a)(p4:∀ a,m=some (.inr (.inr (.inr (.inr a))))→K (.inr (.inr (.inr (.inr a))))=some r→T4 a):(∃ a,T0 a)∨(∃ a,T1 a)∨(∃ a,T2 a)∨(∃ a,T3 a)∨(∃ a,T4 a):=by
 obtain ⟨x,h2,h3⟩:=af.1 h
 match x,h2,h3 with
 | .inl a,h2,h3=>exact .inl ⟨a,p0 a h2 h3⟩
 | .inr (.inl a),h2,h3=>exact .inr (.inl ⟨a,p1 a h2 h3⟩)
 | .inr (.inr (.inl a)),h2,h3=>exact .inr (.inr (.inl ⟨a,p2 a h2 h3⟩))
 | .inr (.inr (.inr (.inl a))),h2,h3=>exact .inr (.inr (.inr (.inl ⟨a,p3 a h2 h3⟩)))
 | .inr (.inr (.inr (.inr a))),h2,h3=>exact .inr (.inr (.inr (.inr (⟨a,p4 a h2 h3⟩))))
theorem lY{R V:Type}{Y:R→V}{a r:R}(h:some a=some r):Y a=Y r:=by rw [ad h]
theorem agI{α ε:Type}{E:Env}{l:aY}{S:α→St}{X:ε→aH×St}{v:α}{o:α⊕ε}{T:Prop}(a:AT)(h:T)(he:T=cW G Ω0 E l.x (S v) a fun e s _=>VC l.kf l.kb e s=La S X o):bu E l S X v o:=by
 obtain ⟨e,s,_,h1,h2⟩:=vp l.x (he▸h)
 cases o with
 | inl w=>
  cases e with
  | nrm=>
   have h3:s.aN l.kf l.kb=S w:=Sum.inl.inj h2
   show (run G Ω0 E l.x (S v)).bind (kept l)=some (S w)
   rw [h1,←h3];rfl
  | ret=>cases h2
  | ex id=>cases h2
 | inr x=>
  cases e with
  | nrm=>cases h2
  | ret=>
   have h3:(aH.ret,s)=X x:=Sum.inr.inj h2
   exact ⟨by rw [h1,h3],by rw [←h3];exact aaQ⟩
  | ex id=>
   have h3:(aH.ex id,s)=X x:=Sum.inr.inj h2
   exact ⟨by rw [h1,h3],by rw [←h3];exact agH _⟩
theorem cO{E:Env}{f:FuncId}{ys:List AV}{x:AV}{dp:Nat}{bx:List (Nat×List AV)}{hp:HP}{k:Key}{c c':List AV}(hk:k.dp<dp)(h:call G Ω0 E f ys (aG (boxes dp bx (aG hp k c)) k c)=some (.ret x,aG (boxes dp bx (aG hp k c)) k c')):call G Ω0 E f ys (boxes dp bx (aG hp k c))=some (.ret x,boxes dp bx (aG hp k c')):=
 tM (ot (dY hk) (nG ..)) (ot (dY hk) (nG ..)) h
theorem sw3{dp:Nat}{bx:List (Nat×List AV)}{hp:HP}{k0 k1 k2:Key}{a b c a' b' c':List AV}(h0:k0.dp<dp)(h1:k1.dp<dp)(h2:k2.dp<dp)(n01:k0≠k1)(n02:k0≠k2)(n12:k1≠k2) :
  aG (aG (aG (boxes dp bx (aG (aG (aG hp k0 a) k1 b) k2 c)) k0 a') k1 b') k2 c'=boxes dp bx (aG (aG (aG hp k0 a') k1 b') k2 c'):=
 uR (uR (ot (dY h0) (xU (pU n02) (xU (pU n01) (nG ..)))) (ot (dY h1) (xU (pU n12) (nG ..)))) (ot (dY h2) (nG ..))
theorem cO3{E:Env}{f:FuncId}{ys:List AV}{x:AV}{dp:Nat}{bx:List (Nat×List AV)}{hp:HP}{k0 k1 k2:Key}{a b c a' b' c':List AV}(h0:k0.dp<dp)(h1:k1.dp<dp)(h2:k2.dp<dp)(n01:k0≠k1)(n02:k0≠k2)(n12:k1≠k2)(h:call G Ω0 E f ys (aG (aG (aG (boxes dp bx (aG (aG (aG hp k0 a) k1 b) k2 c)) k0 a) k1 b) k2 c)=some (.ret x,aG (aG (aG (boxes dp bx (aG (aG (aG hp k0 a) k1 b) k2 c)) k0 a') k1 b') k2 c')) :
  call G Ω0 E f ys (boxes dp bx (aG (aG (aG hp k0 a) k1 b) k2 c))=some (.ret x,boxes dp bx (aG (aG (aG hp k0 a') k1 b') k2 c')):=tM (sw3 h0 h1 h2 n01 n02 n12) (sw3 h0 h1 h2 n01 n02 n12) h
theorem aji{hp:HP}{k0 k1:Key}{a b:List AV}(n01:k0≠k1):(aG (aG hp k0 a) k1 b) k0=some a:=(nH n01).trans (lI ..)
theorem ajj{hp:HP}{k0 k1 k2:Key}{a b c:List AV}(n01:k0≠k1)(n02:k0≠k2):(aG (aG (aG hp k0 a) k1 b) k2 c) k0=some a:=(nH n02).trans (aji n01)
abbrev N4.bT(p:aH×St):N4:=.lp p.1 p.2
abbrev N4.nW(p:aH×St):N4:=.fr p.1 p.2
theorem sx{α ε:Type}{B:α→Option (α⊕ε)}(n:Nat)(f:Nat→α){x:ε}(hs:∀ k,k<n→B (f k)=some (.inl (f (k+1))))(he:B (f n)=some (.inr x)):lp B (f 0)=some x:=by
 have:∀ m k,k+m=n→lp B (f k)=some x:=by
  intro m
  induction m with
  | zero=>
    intro k hk;obtain rfl:k=n:=by omega
    exact iI he
  | succ m ih=>intro k hk;rw [mi (hs k (by omega))];exact ih (k+1) (by omega)
 exact this n 0 (by omega)
theorem qo{α ε β:Type}{B:α→Option (α⊕ε)}(es:List β)(p:β→Bool)(f:Nat→α){x y:ε}(hs:∀ k (h:k<es.length),p es[k]=false→B (f k)=some (.inl (f (k+1))))(hx:∀ k (h:k<es.length),p es[k]=true→B (f k)=some (.inr x))(he:B (f es.length)=some (.inr y)):lp B (f 0)=some (if es.any p then x else y):=by
 have:∀ m k,k+m=es.length→lp B (f k)=some (if (es.drop k).any p then x else y):=by
  intro m
  induction m with
  | zero=>
   intro k hk
   obtain rfl:k=es.length:=by omega
   rw [zd]
   exact iI he
  | succ m ih=>
   intro k hk
   have hlt:k<es.length:=by omega
   rw [kg hlt,vz]
   cases hp:p es[k] with
   | true=>exact iI (hx k hlt hp)
   | false=>rw [mi (hs k hlt hp),ih (k+1) (by omega)];rfl
 exact this es.length 0 (by omega)
theorem j0{α ε:Type}{B:α→Option (α⊕ε)}(m:α→Nat)(Inv:α→Prop)(Q:ε→Prop)(step:∀ a,Inv a→(∃ x,B a=some (.inr x)∧Q x)∨∃ b,B a=some (.inl b)∧Inv b∧m b<m a):∀ a,Inv a→∃ x,lp B a=some x∧Q x:=by
 have:∀ n a,m a<n→Inv a→∃ x,lp B a=some x∧Q x:=by
  intro n
  induction n with
  | zero=>intro a h;omega
  | succ n ih=>
   intro a h hi
   rcases step a hi with ⟨x,h1,h2⟩ | ⟨b,h1,h2,h3⟩
   ·exact ⟨x,iI h1,h2⟩
   ·rw [mi h1];exact ih b (by omega) h2
 exact fun a=>this (m a+1) a (pV _)
theorem Tt{t:TypeId}{n:Int}(h:0≤n∧n≤1000000):q8 t [.n,.i .i64 n]=some (.o t []):=by
 simp [q8,h.1,h.2]
theorem Ca{E:Env}{f:FuncId}{ys:List AV}{dp:Nat}{bx bx':List (Nat×List AV)}{hp hp':HP}{y:bm}(_:call G Ω0 E f ys (boxes dp bx hp)=some (y,boxes dp bx' hp'))(h:bx'.map Prod.fst=bx.map Prod.fst)(hn:C9 (bx.map Prod.fst)=true):gD dp (boxes dp bx' hp') bx=bx':=Nr h hn
theorem Cb{E:Env}{f:FuncId}{ys:List AV}{dp:Nat}{bx bx':List (Nat×List AV)}{hp hp':HP}{y:bm}(_:call G Ω0 E f ys (boxes dp bx hp)=some (y,boxes dp bx' hp'))(hz:cM dp hp'):(fun k:Key=>if k.dp<dp then boxes dp bx' hp' k else none)=hp':=Rc hz
theorem g1{x y:Bool}(h:x=y):(x==true)=(y==true):=ak (fun z=>z==true) h
theorem g0{x y:Bool}(h:x=y):(x==false)=(y==false):=ak (fun z=>z==false) h
theorem En{α:Type}{ts:List TypeId}{f:α→AV}(h:∀ x,(f x).off ts=true):∀ l:List α,AV.kS ts (l.map f)=true
 | []=>rfl
 | x::l=>by simp only [cq,AV.kS,h x,En h l,gT]
theorem xV(ts:List TypeId)(l:List Bool):AV.kS ts (l.map AV.b)=true:=En (fun _=>by simp only [AV.off]) l
noncomputable def ev{α:Type}(x:Nat→Option α):Option α:=open Classical in if h:∃ r,∃ n0,∀ n,n0≤n→x n=some r then some (Classical.choose h) else none
theorem uS{α:Type}{x:Nat→Option α}{r:α}(h:ev x=some r):∃ n,x n=some r:=by
 unfold ev at h
 split at h
 ·rename_i hex
  obtain ⟨n0,hn⟩:=CE hex
  exact ⟨n0,by rw [hn n0 (aT _)];exact h⟩
 ·cases h
theorem Bu{α:Type}{x:Nat→Option α}{r:α}(n0:Nat)(h:∀ n,n0≤n→x n=some r):ev x=some r:=by
 unfold ev
 have hex:∃ r,∃ n0,∀ n,n0≤n→x n=some r:=⟨r,n0,h⟩
 rw [dif_pos hex]
 obtain ⟨n1,h1⟩:=CE hex
 have:=h1 (max n0 n1) (CH _ _)
 rw [h (max n0 n1) (CF _ _)] at this
 exact this.symm
def Pw(b:Bool)(n:Int):Option (List Bool):=if 0≤n∧n≤1000000 then some (List.replicate n.toNat b) else none
theorem V8{t u:TypeId}{b:Bool}{n:Int}{r:List Bool}(h:Pw b n=some r):uP t [.l u [.b b],.i .i64 n]=some (.l t (r.map AV.b)):=by
 unfold Pw at h
 split at h
 ·rename_i hn
  obtain rfl:=ad h
  simp only [uP,aa hn,ze]
 ·cases h
theorem aW{R:Type}{E:Env}{f:FuncId}{fn:bE}{ys:List AV}{hp:HP}{Y:R→bm×HP}{r:R}{T:Prop}(hG:G f=some fn)(a:AT)(h:(∀ {a:R},some a=some r→Y a=Y r)→T)(he:T=Pt G Ω0 E fn ys hp a fun y h=>(bm.ret y,h)=Y r:=by kernel_rfl):call G Ω0 E f ys hp=some (Y r):=agD hG a (h lY) he
theorem ajB{R:Type}{E:Env}{f:FuncId}{fn:bE}{ys:List AV}{hp:HP}{Y:R→bm×HP}{r:R}{T:Prop}(hG:G f=some fn)(a:AT)(h:(∀ {a:R},some a=some r→Y a=Y r)→T)(he:T=Lw G Ω0 E fn ys hp a fun y h=>(bm.new y,h)=Y r:=by kernel_rfl):call G Ω0 E f ys hp=some (Y r):=aaO hG a (h lY) he
theorem zD{R:Type}{E:Env}{c:AC}{st:St}{Y:R→aH×St}{r:R}{T:Prop}(a:AT)(h:(∀ {a:R},some a=some r→Y a=Y r)→T)(he:T=cW G Ω0 E c st a fun e s _=>(e,s)=Y r:=by kernel_rfl):run G Ω0 E c st=some (Y r):=runT a (h lY) he
theorem oJ{R:Type}{E:Env}{kf kb:List Nat}{gs:List cF}{st:St}{Y:R→St}{r:R}{T:Prop}(a:AT)(h:(∀ {a:R},some a=some r→Y a=Y r)→T)(he:T=C7 G Ω0 E kf kb st gs a fun s _=>s=Y r:=by kernel_rfl):oX G Ω0 E kf kb gs st=some (Y r):=agE a (h lY) he
theorem aaS{R:Type}{E:Env}{kf kb:List Nat}{gs:List b6}{st:St}{Y:R→St}{r:R}{T:Prop}(a:AT)(h:(∀ {a:R},some a=some r→Y a=Y r)→T)(he:T=C8 G Ω0 E kf kb st gs a fun s _=>s=Y r:=by kernel_rfl):Fz G Ω0 E kf kb gs st=some (Y r):=agF a (h lY) he
theorem bH{α ε:Type}{E:Env}{l:aY}{S:α→St}{X:ε→aH×St}{v:α}{o:α⊕ε}{T:Prop}(a:AT)(h:(∀ {a:α⊕ε},some a=some o→La S X a=La S X o)→T)(he:T=cW G Ω0 E l.x (S v) a fun e s _=>VC l.kf l.kb e s=La S X o:=by kernel_rfl):bu E l S X v o:=agI a (h lY) he
theorem aU{Q R:Type}{m:Option Q}{k:Q→Option R}{r:R}{O T:Q→Prop}(h:m.bind k=some r)(l:∀ x,m=some x→O x)(h1:∀ x,k x=some r→T x):∃ x,O x∧T x:=cb h fun x e h=>⟨l x e,h1 x h⟩
theorem dA{b0 b1 R:Type}{m:Option (b0⊕b1)}{K:b0⊕b1→Option R}{r:R}{O:b0⊕b1→Prop}{T0:b0→Prop}{T1:b1→Prop}(h:m.bind K=some r)(l:∀ x,m=some x→O x)(p0:∀ a,K (.inl a)=some r→T0 a)(p1:∀ a,K (.inr a)=some r→T1 a):(∃ a,O (.inl a)∧T0 a)∨(∃ a,O (.inr a)∧T1 a):=aje h (fun a e h=>⟨l _ e,p0 a h⟩) (fun a e h=>⟨l _ e,p1 a h⟩)
theorem Px{b0 b1 b2 R:Type}{m:Option (b0⊕(b1⊕b2))}{K:b0⊕(b1⊕b2)→Option R}{r:R}{O:b0⊕(b1⊕b2)→Prop}{T0:b0→Prop}{T1:b1→Prop}{T2:b2→Prop}(h:m.bind K=some r)(l:∀ x,m=some x→O x)(p0:∀ a,K (.inl a)=some r→T0 a)(p1:∀ a,K (.inr (.inl a))=some r→T1 a)(p2:∀ a,K (.inr (.inr a))=some r→T2 a):(∃ a,O (.inl a)∧T0 a)∨(∃ a,O (.inr (.inl a))∧T1 a)∨(∃ a,O (.inr (.inr a))∧T2 a):=ajf h (fun a e h=>⟨l _ e,p0 a h⟩) (fun a e h=>⟨l _ e,p1 a h⟩) (fun a e h=>⟨l _ e,p2 a h⟩)
theorem Py{b0 b1 b2 b3 R:Type}{m:Option (b0⊕(b1⊕(b2⊕b3)))}{K:b0⊕(b1⊕(b2⊕b3))→Option R}{r:R}{O:b0⊕(b1⊕(b2⊕b3))→Prop}{T0:b0→Prop}{T1:b1→Prop}{T2:b2→Prop}{T3:b3→Prop}(h:m.bind K=some r)(l:∀ x,m=some x→O x)(p0:∀ a,K (.inl a)=some r→T0 a)(p1:∀ a,K (.inr (.inl a))=some r→T1 a)(p2:∀ a,K (.inr (.inr (.inl a)))=some r→T2 a)(p3:∀ a,K (.inr (.inr (.inr a)))=some r→T3 a):(∃ a,O (.inl a)∧T0 a)∨(∃ a,O (.inr (.inl a))∧T1 a)∨(∃ a,O (.inr (.inr (.inl a)))∧T2 a)∨(∃ a,O (.inr (.inr (.inr a)))∧T3 a):=ajg h (fun a e h=>⟨l _ e,p0 a h⟩) (fun a e h=>⟨l _ e,p1 a h⟩) (fun a e h=>⟨l _ e,p2 a h⟩) (fun a e h=>⟨l _ e,p3 a h⟩)
theorem VD{b0 b1 b2 b3 b4 R:Type}{m:Option (b0⊕(b1⊕(b2⊕(b3⊕b4))))}{K:b0⊕(b1⊕(b2⊕(b3⊕b4)))→Option R}{r:R}{O:b0⊕(b1⊕(b2⊕(b3⊕b4)))→Prop}{T0:b0→Prop}{T1:b1→Prop}{T2:b2→Prop}{T3:b3→Prop}{T4:b4→Prop}(h:m.bind K=some r)(l:∀ x,m=some x→O x)(p0:∀ a,K (.inl a)=some r→T0 a)(p1:∀ a,K (.inr (.inl a))=some r→T1 a)(p2:∀ a,K (.inr (.inr (.inl a)))=some r→T2 a)(p3:∀ a,K (.inr (.inr (.inr (.inl a))))=some r→T3 a)(p4:∀ a,K (.inr (.inr (.inr (.inr a))))=some r→T4 a):(∃ a,O (.inl a)∧T0 a)∨(∃ a,O (.inr (.inl a))∧T1 a)∨(∃ a,O (.inr (.inr (.inl a)))∧T2 a)∨(∃ a,O (.inr (.inr (.inr (.inl a))))∧T3 a)∨(∃ a,O (.inr (.inr (.inr (.inr a))))∧T4 a):=ajh h (fun a e h=>⟨l _ e,p0 a h⟩) (fun a e h=>⟨l _ e,p1 a h⟩) (fun a e h=>⟨l _ e,p2 a h⟩) (fun a e h=>⟨l _ e,p3 a h⟩) (fun a e h=>⟨l _ e,p4 a h⟩)
theorem ei{α ε:Type}{E:Env}{B:α→Option (α⊕ε)}{l:aY}{S:α→St}{X:ε→aH×St}(hb:∀ v o,B v=some o→bu E l S X v o)(v:α)(x:ε)(h:lp B v=some x)(hk:∀ v,(S v).aN l.kf l.kb=S v:=by exact fun _=>rfl):fL G Ω0 E l (S v)=some (X x):=V5 l S X hk hb h
theorem rI(n:Nat):(n:Int)=(n:Int):=rfl
theorem rN(n:Nat):n=n:=rfl
theorem okR{k:Key}{dp:Nat}(h:k.dp<dp)(ns:List Nat):(ja dp ns (.p k 0)&&okB dp [] (.p k 0))=true:=by simp [ja,okB,jt,AV.cJ,AV.eG,AV.jf,de h]
abbrev xB(f:Bool→AT):AT:=.ex fun r=>ao (.v (.b r)) (f r)
abbrev xI(f:Int→AT):AT:=.ex fun r=>ao (.v (I r)) (f r)
abbrev xN(f:Nat→AT):AT:=.ex fun r=>ao (.n r) (f r)
abbrev oN(r:AT):AT:=.or (bt .nil) (bf r)
theorem nI{p:Prop}{q:Prop}(H:q)(h:p):q∧Z0∧p:=⟨H,rfl,h⟩
theorem et{p:Prop}(h:p):true=true∧Z0∧p:=⟨rfl,rfl,h⟩
theorem Az{p:Prop}{x y:Bool}(H:x=y)(h:p):(x==false)=(y==false)∧(x==false)=(y==false)∧Z0∧(x==false)=(y==false)∧p:=⟨g0 H,g0 H,rfl,g0 H,h⟩
theorem N7{p:Prop}{x y:Bool}(H:x=y)(h:p):(x==false)=(y==false)∧(x==false)=(y==false)∧(x==false)=(y==false)∧(x==false)=(y==false)∧x=y∧p:=⟨g0 H,g0 H,g0 H,g0 H,H,h⟩
theorem LF{p:Prop}{x y:Bool}(H:x=y)(h:p):(x==true)=(y==true)∧(x==true)=(y==true)∧Z0∧(x==true)=(y==true)∧p:=⟨g1 H,g1 H,rfl,g1 H,h⟩
theorem Rd{p:Prop}{x y:Bool}(H:x=y)(h:p):(x==false)=(y==false)∧(x==false)=(y==false)∧Z0∧(x==false)=(y==false)∧(x==false)=(y==false)∧p:=⟨g0 H,g0 H,rfl,g0 H,g0 H,h⟩
theorem ev6{p:Prop}{x y:Bool}(H:x=y)(h:p):(x==false)=(y==false)∧(x==false)=(y==false)∧Z0∧(x==false)=(y==false)∧x=y∧p:=⟨g0 H,g0 H,rfl,g0 H,H,h⟩
theorem JL{p:Prop}(h:p):true=true∧false=false∧Z0∧true=true∧Z0∧Z0∧p:=⟨rfl,rfl,rfl,rfl,rfl,rfl,h⟩
theorem ua{p:Prop}{x y:Bool}(H:x=y)(h:p):(x==true)=(y==true)∧(x==true)=(y==true)∧x=y∧p:=⟨g1 H,g1 H,H,h⟩
theorem lJ{p:Prop}{x y:Bool}(H:x=y)(h:p):(x==false)=(y==false)∧x=y∧p:=⟨g0 H,H,h⟩
theorem Tu{p:Prop}{x y:Bool}(H:x=y)(h:p):(x==false)=(y==false)∧(x==false)=(y==false)∧(x==false)=(y==false)∧(x==false)=(y==false)∧(x==false)=(y==false)∧x=y∧p:=⟨g0 H,g0 H,g0 H,g0 H,g0 H,H,h⟩
theorem Pz{p:Prop}{q:Prop}(H:q)(h:p):q∧true=true∧true=true∧Z0∧true=true∧true=true∧p:=⟨H,rfl,rfl,rfl,rfl,rfl,h⟩
theorem Iz{p:Prop}(h:p):true=true∧true=true∧Z0∧Z0∧p:=⟨rfl,rfl,rfl,rfl,h⟩
theorem IA{p:Prop}{q:Prop}(H:q)(h:p):q∧Z0∧Z0∧p:=⟨H,rfl,rfl,h⟩
theorem lK{p:Prop}{x y:Bool}(H:x=y)(h:p):(x==true)=(y==true)∧x=y∧p:=⟨g1 H,H,h⟩
theorem Bv{p:Prop}{x y:Bool}(H:x=y)(h:p):(x==false)=(y==false)∧(x==false)=(y==false)∧p:=⟨g0 H,g0 H,h⟩
theorem Tv{p:Prop}{x y:Bool}(H:x=y)(h:p):(x==false)=(y==false)∧(x==false)=(y==false)∧(x==false)=(y==false)∧(x==false)=(y==false)∧(x==false)=(y==false)∧(x==false)=(y==false)∧(x==false)=(y==false)∧x=y∧true=true∧p:=⟨g0 H,g0 H,g0 H,g0 H,g0 H,g0 H,g0 H,H,rfl,h⟩
theorem PA{p:Prop}(h:p):false=false∧Z0∧true=true∧Z0∧Z0∧p:=⟨rfl,rfl,rfl,rfl,rfl,h⟩
theorem IB{p:Prop}(h:p):true=true∧true=true∧Z0∧true=true∧p:=⟨rfl,rfl,rfl,rfl,h⟩
theorem PB{p:Prop}{x y:Bool}(H:x=y)(h:p):(x==true)=(y==true)∧(x==true)=(y==true)∧Z0∧(x==true)=(y==true)∧(x==true)=(y==true)∧Z0∧(x==true)=(y==true)∧p:=⟨g1 H,g1 H,rfl,g1 H,g1 H,rfl,g1 H,h⟩
theorem LG{p:Prop}{x y:Bool}(H:x=y)(h:p):(x==true)=(y==true)∧(x==true)=(y==true)∧(x==true)=(y==true)∧(x==true)=(y==true)∧(x==true)=(y==true)∧x=y∧p:=⟨g1 H,g1 H,g1 H,g1 H,g1 H,H,h⟩
theorem xW{p:Prop}(h:p):true=true∧true=true∧true=true∧true=true∧p:=⟨rfl,rfl,rfl,rfl,h⟩
theorem Tw{p:Prop}{x y:Bool}(H:x=y)(h:p):(x==true)=(y==true)∧true=true∧(x==true)=(y==true)∧Z0∧true=true∧(x==true)=(y==true)∧true=true∧(x==true)=(y==true)∧p:=⟨g1 H,rfl,g1 H,rfl,rfl,g1 H,rfl,g1 H,h⟩
theorem Da{p:Prop}{x y:Bool}(H:x=y)(h:p):(x==true)=(y==true)∧(x==true)=(y==true)∧(x==true)=(y==true)∧x=y∧p:=⟨g1 H,g1 H,g1 H,H,h⟩
theorem PC{p:Prop}{x y:Bool}(H:x=y)(h:p):(x==false)=(y==false)∧(x==false)=(y==false)∧x=y∧p:=⟨g0 H,g0 H,H,h⟩
theorem Tx{p:Prop}{q:Prop}(H:q)(h:p):q∧false=false∧Z0∧true=true∧Z0∧Z0∧p:=⟨H,rfl,rfl,rfl,rfl,rfl,h⟩
theorem PD{p:Prop}{x y:Bool}(H:x=y)(h:p):(x==true)=(y==true)∧true=true∧(x==true)=(y==true)∧true=true∧(x==true)=(y==true)∧p:=⟨g1 H,rfl,g1 H,rfl,g1 H,h⟩
theorem PE{p:Prop}{x y:Bool}(H:x=y)(h:p):true=true∧(x==true)=(y==true)∧true=true∧(x==true)=(y==true)∧true=true∧(x==true)=(y==true)∧true=true∧(x==true)=(y==true)∧Z0∧true=true∧(x==true)=(y==true)∧true=true∧(x==true)=(y==true)∧p:=⟨rfl,g1 H,rfl,g1 H,rfl,g1 H,rfl,g1 H,rfl,rfl,g1 H,rfl,g1 H,h⟩
theorem cU{p:Prop}{x y:Bool}(H:x=y)(h:p):(x==true)=(y==true)∧(x==true)=(y==true)∧(x==true)=(y==true)∧p:=⟨g1 H,g1 H,g1 H,h⟩
theorem eD{p:Prop}{x y:Bool}(H:x=y)(h:p):(x==false)=(y==false)∧(x==false)=(y==false)∧(x==false)=(y==false)∧p:=⟨g0 H,g0 H,g0 H,h⟩
theorem bW{p:Prop}(h:p):true=true∧true=true∧p:=⟨rfl,rfl,h⟩
theorem jG{p:Prop}{x y:Bool}(H:x=y)(h:p):true=true∧(x==true)=(y==true)∧p:=⟨rfl,g1 H,h⟩
theorem ju{p:Prop}(h:p):(true==false)=false∧(true==false)=false∧p:=⟨rfl,rfl,h⟩
theorem Bw{p:Prop}{x y:Bool}(H:x=y)(h:p):true=true∧(x==false)=(y==false)∧true=true∧(x==false)=(y==false)∧p:=⟨rfl,g0 H,rfl,g0 H,h⟩
theorem lL{p:Prop}(h:p):false=false∧Z0∧p:=⟨rfl,rfl,h⟩
theorem Db{p:Prop}{x y:Bool}(H:x=y)(h:p):(x==true)=(y==true)∧(false==false)=true∧x=y∧false=false∧p:=⟨g1 H,rfl,H,rfl,h⟩
theorem Ai{p:Prop}{x y:Bool}(H:x=y)(h:p):(x==true)=(y==true)∧(x==true)=(y==true)∧p:=⟨g1 H,g1 H,h⟩
theorem uT{p:Prop}(h:p):Z0∧Z0∧p:=⟨rfl,rfl,h⟩
theorem qp{p:Prop}(h:p):(false==true)=false∧(false==true)=false∧p:=⟨rfl,rfl,h⟩
abbrev dG(r:AT):AT:=bt<|bt r
abbrev eF(r:AT):AT:=bt<|bt<|bt r
abbrev mD(r:AT):AT:=bt<|bt<|bt<|bt r
abbrev pj(r:AT):AT:=bt<|bt<|bt<|bt<|bt r
abbrev vV(r:AT):AT:=bt<|bf r
abbrev Dc(r:AT):AT:=bt<|bt<|bt<|bt<|bt<|bt<|bt r
abbrev JM(r:AT):AT:=bf<|bf<|bf r
abbrev N8(r:AT):AT:=bf<|bf<|bf<|bf<|bt r
abbrev Re(r:AT):AT:=bt<|bt<|bt<|bt<|bt<|bt<|bf r
abbrev Rf(r:AT):AT:=bf<|bf<|bf<|bf<|bf<|bf r
abbrev LH(r:AT):AT:=bf<|bf<|bf<|bf r
abbrev LI(r:AT):AT:=bt<|bt<|bt<|bf r
abbrev PF(r:AT):AT:=bf<|bf<|bf<|bt<|bf<|bf r
abbrev Ty(r:AT):AT:=bf<|bf<|bf<|bf<|bf<|bf<|bf r
abbrev Tz(r:AT):AT:=bt<|bt<|bt<|bt<|bf r
abbrev TA(r:AT):AT:=bf<|bf<|bf<|bf<|bf r
abbrev TB(r:AT):AT:=bf<|bf<|bf<|bf<|bf<|bt r
abbrev TC(r:AT):AT:=bf<|bf<|bf<|bf<|bt<|bf<|bf<|bf<|bf<|bt r
abbrev TD(r:AT):AT:=bf<|bf<|bf<|bf<|bf<|bf<|bf<|bt<|bt r
abbrev TE(r:AT):AT:=bf<|bf<|bf<|bf<|bf<|bf<|bf<|bf<|bf<|bf<|bf<|bf<|bf<|bt<|bf<|bf r
abbrev aaU(r:AT):AT:=bf<|bf<|bf<|bf<|bt<|bf<|bf<|bf<|bf<|bt<|bf<|bf<|bf<|bf<|bt r
abbrev aaV(r:AT):AT:=bf<|bf<|bf<|bf<|bf<|bf<|bf<|bt<|bf<|bf<|bf<|bf<|bf<|bf<|bf<|bt<|bt r
abbrev aaW(r:AT):AT:=bf<|bf<|bf<|bf<|bf<|bt<|bt<|bt<|bt<|bt r
theorem fM(k:Nat)(h:k<9223372036854775807):IntKind.i64.wrap ((k:Int)+1)=((k+1:Nat):Int):=(wrap64 (by omega) (by omega)).trans (by omega)
variable [Lp]
def Eo{β:Type}(φ:β→Option Bool)(es:List β)(k:Nat):Option (Nat⊕(Nat⊕(Nat×Bool))):=
 if (k:Int)<(es.length:Int) then
  (es[k]?).bind fun (y:β)=>
  (φ y).bind fun (r:Bool)=>
  if r=true then
   some (.inr (.inl k))
  else
   if IntKind.i64.wrap ((k:Int)+1)=((k+1:Nat):Int) then
    some (.inl (k+1))
   else none
 else
  some (.inr (.inr (k,decide ((k:Int)<(es.length:Int)))))
def VE{β:Type}(p:β→Bool)(es:List β):Nat⊕(Nat×Bool):=match es.findIdx? p with
 | some k=>.inl k
 | none=>.inr (es.length,false)
theorem find_spec{β:Type}(φ:β→Option Bool)(p:β→Bool)(es:List β)(hl:es.length≤9223372036854775807)(h:∀ y∈es,φ y=some (p y)):lp (fun v=>Eo φ es v) 0=some (VE p es):=by
 have:∀ m k,k+m=es.length→lp (fun v=>Eo φ es v) k=some (match (es.drop k).findIdx? p with
   | some j=>.inl (k+j)
   | none=>.inr (es.length,false)):=by
  intro m
  induction m with
  | zero=>
   intro k hk
   obtain rfl:k=es.length:=by omega
   rw [zd]
   exact iI (by simp [Eo])
  | succ m ih=>
   intro k hk
   have hlt:k<es.length:=by omega
   have hp:=h es[k] (bY hlt)
   rw [kg hlt,List.findIdx?_cons]
   cases hq:p es[k] with
   | true=>exact iI (by simp [Eo,hlt,hp,hq])
   | false=>
    rw [mi (w:=k+1) (by simp [Eo,hlt,hp,hq,fM k (by omega)]),ih (k+1) (by omega)]
    simp only [bn,aI]
    cases List.findIdx? p (List.drop (k+1) es) with
    | none=>rfl
    | some j=>simp only [fg];congr 2;omega
 have h0:=this es.length 0 (by omega)
 simp only [tD,fi] at h0
 exact h0
theorem sZ{β:Type}(φ:β→Option Bool)(p:β→Bool)(es:List β)(hl:es.length≤9223372036854775807)(h:∀ y∈es,φ y=some (p y)) :
  (((lp (fun v=>Eo φ es v) 0).bind fun (x1:(Nat⊕(Nat×Bool)))=>match x1 with
  | .inl z=>some (z:Int)
  | .inr _=>some (-1)).bind fun (r1:Int)=>some (decide (0≤r1)))=some (es.any p):=by
 rw [find_spec φ p es hl h,ae]
 unfold VE
 cases hf:es.findIdx? p with
 | none=>
  have:=List.findIdx?_eq_none_iff.1 hf
  have hany:es.any p=false:=by
   rw [Bool.eq_false_iff]
   intro ha
   obtain ⟨x,hx,hpx⟩:=lD.1 ha
   rw [this x hx] at hpx;cases hpx
  rw [hany];rfl
 | some k=>
  obtain ⟨h1,h2,_⟩:=List.findIdx?_eq_some_iff_getElem.1 hf
  have hany:es.any p=true:=lD.2 ⟨_,bY h1,h2⟩
  rw [hany]
  simp only [ae]
  rw [show decide ((0:Int)≤(k:Int))=true by simp]
end Go.Proofs.YtkkkkondjclcnaaGreat.A
