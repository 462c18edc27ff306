/- Plain functions: loops as least fixed points, and how what they answer is told of the abstract run. -/
import Derived.Test.YtndeklbmglgonaaGreatBase
set_option linter.unusedSectionVars false
set_option linter.unusedVariables false
set_option linter.unusedSimpArgs false
set_option linter.constructorNameAsVariable false
namespace Go.Proofs.YtndeklbmglgonaaGreat.A
open Go
def pB{α ε:Type}(B:α→Option (α⊕ε)):Nat→α→Option ε
 | 0,_=>none
 | n+1,v=>match B v with
  | some (.inl w)=>pB B n w
  | some (.inr x)=>some x
  | none=>none
class Lp where
 run : {α ε:Type}→(α→Option (α⊕ε))→α→Option ε
 sound:∀ {α ε:Type}{B:α→Option (α⊕ε)}{v:α}{x:ε},run B v=some x→∃ n,pB B n v=some x
 told:∀ {α ε:Type}{B:α→Option (α⊕ε)}{v:α}{x:ε}(n:Nat),pB B n v=some x→run B v=some x
abbrev lp[Lp]{α ε:Type}(B:α→Option (α⊕ε))(v:α):Option ε:=Lp.run B v
theorem AE[Lp]{α ε:Type}{B:α→Option (α⊕ε)}{v:α}{x:ε}(h:lp B v=some x):∃ n,pB B n v=some x:=Lp.sound h
theorem ID[Lp]{α ε:Type}{B:α→Option (α⊕ε)}{v:α}{x:ε}(n:Nat)(h:pB B n v=some x):lp B v=some x:=Lp.told n h
theorem Fy{α ε:Type}{B:α→Option (α⊕ε)} : ∀ {n:Nat}{v:α}{x:ε},pB B n v=some x→pB B (n+1) v=some x
 | 0,_,_,h=>by cases h
 | n+1,v,x,h=>by
  rw [pB] at h ⊢
  split at h
  ·exact Fy h
  ·exact h
  ·exact h
theorem Jt{α ε:Type}{B:α→Option (α⊕ε)}{n m:Nat}{v:α}{x:ε}(hm:n≤m)(h:pB B n v=some x):pB B m v=some x:=by
 induction hm with
 | refl=>exact h
 | step _ ih=>exact Fy ih
theorem MK{α ε:Type}{B:α→Option (α⊕ε)}{n m:Nat}{v:α}{x y:ε}(h:pB B n v=some x)(h':pB B m v=some y):x=y:=by
 have h1:=Jt (Nat.le_max_left n m) h
 rw [Jt (Nat.le_max_right n m) h'] at h1
 exact (Option.some.inj h1).symm
theorem Ju:Nonempty Lp:=by
 refine ⟨⟨fun {α ε} B v=>open Classical in if h:∃ n,(pB B n v).isSome then pB B h.choose v else none,fun {α ε B v x} h=>?_,fun {α ε B v x} n h=>?_⟩⟩
 ·split at h
  ·rename_i hn;exact ⟨_,h⟩
  ·cases h
 ·have hn:∃ n,(pB B n v).isSome:=⟨n,by rw [h];rfl⟩
  rw [dif_pos hn]
  have:=hn.choose_spec
  obtain ⟨y,hy⟩:=Option.isSome_iff_exists.1 this
  rw [hy,MK hy h]
variable [Lp]
section
variable {α ε:Type}{B:α→Option (α⊕ε)}
theorem fo{v:α}{x:ε}(h:B v=some (.inr x)):lp B v=some x:=ID 1 (by rw [pB,h])
theorem jz{v w:α}(h:B v=some (.inl w)):lp B v=lp B w:=by
 cases hw:lp B w with
 | some x=>obtain ⟨n,hn⟩:=AE hw;exact ID (n+1) (by rw [pB,h];exact hn)
 | none=>
  cases hv:lp B v with
  | none=>rfl
  | some x=>
   obtain ⟨n,hn⟩:=AE hv
   cases n with
   | zero=>cases hn
   | succ n=>rw [pB,h] at hn;rw [ID n hn] at hw;cases hw
end
def bu{α ε:Type}(E:Env)(l:bq)(S:α→St)(X:ε→aJ×St)(v:α):α⊕ε→Prop
 | .inl w=>(run G Ω0 E l.x (S v)).bind (kept l)=some (S w)
 | .inr x=>run G Ω0 E l.x (S v)=some (X x)∧(X x).1≠.nrm
theorem ML{α ε:Type}{E:Env}{B:α→Option (α⊕ε)}(l:bq)(S:α→St)(X:ε→aJ×St)(hk:∀ v,(S v).bX l.kf l.kb=S v)(hb:∀ v o,B v=some o→bu E l S X v o){v:α}{x:ε}(h:lp B v=some x):Di G Ω0 E l (S v)=some (X x):=by
 obtain ⟨n,hn⟩:=AE h
 clear h
 induction n generalizing v with
 | zero=>cases hn
 | succ n ih=>
  rw [pB] at hn
  split at hn
  ·rename_i w hw
   rw [Jh (by rw [hk];exact hb v _ hw)]
   exact ih hn
  ·rename_i y hy
   obtain rfl:=Option.some.inj hn
   obtain ⟨h1,h2⟩:=hb v _ hy
   exact Ka (by rw [hk];exact h1) h2
  ·cases hn
def boxes(dp:Nat)(bx:List (Nat×List AV))(hp:HP):HP:=fun k=>if k.dp=dp then aP bx k.d else hp k
theorem Fz{hp:HP}{k k':Key}{cs:List AV}(h:k≠k'):ad hp k' cs k=hp k:=by simp only [ad,if_neg h]
theorem dv{h h':HP}{k k':Key}{c d:List AV}(hn:k'≠k)(e:ad h k c=h'):ad (ad h k' d) k c=ad h' k' d:=by
 subst e
 funext q
 simp only [ad]
 by_cases h1:q=k
 ·subst h1;simp [Ne.symm hn]
 ·simp [h1]
theorem MM{dp:Nat}{bx:List (Nat×List AV)}{hp:HP}{k:Key}{c:List AV}(h:k.dp≠dp):ad (boxes dp bx hp) k c=boxes dp bx (ad hp k c):=by
 funext q
 simp only [ad,boxes]
 by_cases h1:q=k
 ·subst h1;simp [h]
 ·simp [h1]
theorem IE{bx:List (Nat×List AV)}{d d':Nat}{c:List AV}(h:(aP bx d).isSome=true):aP (iU bx d c) d'=if d'=d then some c else aP bx d':=by
 induction bx with
 | nil=>simp [aP] at h
 | cons x bx ih=>
  obtain ⟨k,cs⟩:=x
  by_cases hk:k=d
  ·subst hk
   by_cases hd:d'=k
   ·subst hd;simp [iU,aP]
   ·have:¬k=d':=fun e=>hd e.symm
    simp [iU,aP,hd,this]
  ·have h2:(aP bx d).isSome=true:=by simpa [aP,hk] using h
   have:=ih h2
   by_cases hd:k=d'
   ·subst hd
    simp [iU,aP,hk]
   ·simp [iU,aP,hk,hd,this]
theorem MN{dp:Nat}{bx:List (Nat×List AV)}{hp:HP}{d:Nat}{c:List AV}(h:(aP bx d).isSome=true):ad (boxes dp bx hp) ⟨dp,d⟩ c=boxes dp (iU bx d c) hp:=by
 funext q
 obtain ⟨qd,q'⟩:=q
 simp only [ad,boxes,IE h,Key.mk.injEq]
 by_cases h1:qd=dp
 ·simp [h1]
 ·simp [h1]
theorem cY{dp:Nat}{bx bx1:List (Nat×List AV)}{hp:HP}{d:Nat}{c:List AV}(h:(aP bx d).isSome=true)(hb:iU bx d c=bx1):ad (boxes dp bx hp) ⟨dp,d⟩ c=boxes dp bx1 hp:=hb▸MN h
theorem bZ{dp:Nat}{bx:List (Nat×List AV)}{hp hp1:HP}{k:Key}{c:List AV}(h:k.dp≠dp)(hh:ad hp k c=hp1):ad (boxes dp bx hp) k c=boxes dp bx hp1:=hh▸MM h
theorem eK{H H1 H2:HP}{k:Key}{c:List AV}(h:H=H1)(h':ad H1 k c=H2):ad H k c=H2:=h▸h'
def xG:List Nat→Bool
 | []=>true
 | x::l=>l.all (fun y=>x !=y)&&xG l
theorem FA:∀ {l:List Nat},xG l=true→l.Nodup
 | [],_=>List.nodup_nil
 | x::l,h=>by
  simp only [xG,Bool.and_eq_true,List.all_eq_true,bne_iff_ne,ne_eq] at h
  exact List.nodup_cons.2 ⟨fun hm=>h.1 x hm rfl,FA h.2⟩
theorem Hb{dp:Nat}{bx bx':List (Nat×List AV)}{hp:HP}(h:bx'.map Prod.fst=bx.map Prod.fst)(hn0:xG (bx.map Prod.fst)=true):py dp (boxes dp bx' hp) bx=bx':=by
 have hn:=FA hn0
 clear hn0
 have key:∀ (l l':List (Nat×List AV)),l'.map Prod.fst=l.map Prod.fst→(l.map Prod.fst).Nodup→(∀ x∈l',aP bx' x.1=some x.2)→py dp (boxes dp bx' hp) l=l':=by
  intro l
  induction l with
  | nil=>intro l' hl _ _;cases l' with
   | nil=>rfl
   | cons _ _=>cases hl
  | cons y l ih=>
   intro l' hl hnd hg
   cases l' with
   | nil=>cases hl
   | cons x l'=>
    simp only [List.map_cons,List.cons.injEq] at hl
    obtain ⟨d,cs⟩:=y
    obtain ⟨d',cs'⟩:=x
    obtain ⟨rfl,hl⟩:=hl
    have h1:=hg (d',cs') (by simp)
    simp only [py,boxes,if_true,h1]
    rw [ih l' hl (List.nodup_cons.1 hnd).2 fun x hx=>hg x (by simp [hx])]
 refine key bx bx' h hn fun x hx=>?_
 have hn':(bx'.map Prod.fst).Nodup:=by rw [h];exact hn
 clear key h hn
 induction bx' with
 | nil=>cases hx
 | cons y bx' ih=>
  obtain ⟨d,cs⟩:=y
  rcases List.mem_cons.1 hx with rfl | hx
  ·simp [aP]
  ·have hne:¬d=x.1:=fun e=>(List.nodup_cons.1 hn').1 (List.mem_map.2 ⟨x,hx,e.symm⟩)
   simp only [aP,if_neg hne]
   exact ih hx (List.nodup_cons.1 hn').2
def bm(dp:Nat)(hp:HP):Prop:=∀ k:Key,¬k.dp<dp→hp k=none
theorem dw(dp:Nat):bm dp (fun _=>none):=fun _ _=>rfl
theorem aH{dp:Nat}{hp:HP}{k:Key}{c:List AV}(hk:k.dp<dp)(h:bm dp hp):bm dp (ad hp k c):=by
 intro q hq
 have:q≠k:=fun e=>by subst e;exact hq hk
 rw [Fz this];exact h q hq
theorem a9{dp:Nat}{bx:List (Nat×List AV)}{hp:HP}(h:bm dp hp):bm (dp+1) (boxes dp bx hp):=by
 intro q hq
 simp only [boxes,if_neg (show ¬q.dp=dp by omega)]
 exact h q (by omega)
theorem Jv{dp:Nat}{bx:List (Nat×List AV)}{hp:HP}(h:bm dp hp):(fun k:Key=>if k.dp<dp then boxes dp bx hp k else none)=hp:=by
 funext q
 by_cases h1:q.dp<dp
 ·simp only [if_pos h1,boxes,if_neg (show ¬q.dp=dp by omega)]
 ·rw [if_neg h1,h q h1]
theorem Qg{dp d d':Nat}(h:d≠d'):(⟨dp,d⟩:Key)≠⟨dp,d'⟩:=fun e=>h (congrArg Key.d e)
theorem aG{dp d:Nat}{k:Key}(h:k.dp<dp):k≠⟨dp,d⟩:=fun e=>by subst e;exact Nat.lt_irrefl _ h
theorem MO{dp d:Nat}{k:Key}(h:k.dp<dp):(⟨dp,d⟩:Key)≠k:=fun e=>aG h e.symm
theorem ey{E:Env}{f:FuncId}{ys:List AV}{h1 h1' h2 h2':HP}{x:AV}(e1:h1=h1')(e2:h2=h2')(h:call G Ω0 E f ys h1=some (.ret x,h2)):call G Ω0 E f ys h1'=some (.ret x,h2'):=e1▸e2▸h
theorem Kq{R:Type}{c:Prop}[Decidable c]{A B:Option R}{r:R}{P:Prop}(h:(if c then A else B)=some r)(h1:c→A=some r→P)(h2:¬c→B=some r→P):P:=by
 by_cases hc:c
 ·exact h1 hc (by rwa [if_pos hc] at h)
 ·exact h2 hc (by rwa [if_neg hc] at h)
theorem Qh{R:Type}{c:Bool}{A B:Option R}{r:R}{P:Prop}(h:(if c=true then A else B)=some r)(h1:c=true→A=some r→P)(h2:c=false→B=some r→P):P:=by
 cases c with
 | true=>exact h1 rfl h
 | false=>exact h2 rfl h
def dU(n:Int):Option Nat:=if 0≤n then some n.toNat else none
theorem MP{n:Int}{j:Nat}(h:dU n=some j):n=(j:Int):=by
 unfold dU at h;split at h
 ·obtain rfl:=Option.some.inj h;omega
 ·cases h
theorem Kr(n:Nat):dU (n:Int)=some n:=by simp [dU]
theorem cQ{n:Int}(h:0≤n):dU n=some n.toNat:=by simp [dU,h]
theorem aA{R:Type}{c:Prop}[Decidable c]{A:Option R}{r:R}{P:Prop}(h:(if c then A else none)=some r)(h1:c→A=some r→P):P:=
 Kq h h1 fun _ h=>by cases h
theorem Mu{R:Type}{r:R}{P:Prop}(h:(none:Option R)=some r):P:=by cases h
theorem Qi:aJ.ret≠.nrm:=by intro h;cases h
theorem XM(n:Nat):aJ.ex n≠.nrm:=by intro h;cases h
def Fe{α ε:Type}(S:α→St)(X:ε→aJ×St):α⊕ε→St⊕(aJ×St)
 | .inl w=>.inl (S w)
 | .inr x=>.inr (X x)
theorem ba{Q R:Type}{m:Option Q}{k:Q→Option R}{r:R}{T:Q→Prop}(h:m.bind k=some r)(h1:∀ x,m=some x→k x=some r→T x):∃ x,T x:=by
 obtain ⟨x,h2,h3⟩:=Option.bind_eq_some_iff.1 h
 exact ⟨x,h1 x h2 h3⟩
theorem fG{R:Type}{n:Int}{k:Nat→Option R}{r:R}{T:Nat→Prop}(h:(dU n).bind k=some r)(h1:∀ j:Nat,n=(j:Int)→k j=some r→T j):∃ j,T j:=
 ba h fun j hj h=>h1 j (MP hj) h
theorem bB{R:Type}{c:Prop}[Decidable c]{A B:Option R}{r:R}{T S:Prop}(h:(if c then A else B)=some r)(h1:c→A=some r→T)(h2:¬c→B=some r→S):T∨S:=
 Kq h (fun hc h=>.inl (h1 hc h)) fun hc h=>.inr (h2 hc h)
theorem aM{R:Type}{c:Bool}{A B:Option R}{r:R}{T S:Prop}(h:(if c=true then A else B)=some r)(h1:c=true→A=some r→T)(h2:c=false→B=some r→S):T∨S:=
 Qh h (fun hc h=>.inl (h1 hc h)) fun hc h=>.inr (h2 hc h)
theorem aaE{b0 b1 R:Type}{m:Option (b0⊕b1)}{K:b0⊕b1→Option R}{r:R}{T0:b0→Prop}{T1:b1→Prop}(h:m.bind K=some r)(p0:∀ a,m=some (.inl a)→K (.inl a)=some r→T0 a)(p1:∀ a,m=some (.inr a)→K (.inr a)=some r→T1 a):(∃ a,T0 a)∨(∃ a,T1 a):=by
 obtain ⟨x,h2,h3⟩:=Option.bind_eq_some_iff.1 h
 match x,h2,h3 with
 | .inl a,h2,h3=>exact .inl ⟨a,p0 a h2 h3⟩
 | .inr a,h2,h3=>exact .inr (⟨a,p1 a h2 h3⟩)
theorem aaF{b0 b1 b2 R:Type}{m:Option (b0⊕(b1⊕b2))}{K:b0⊕(b1⊕b2)→Option R}{r:R}{T0:b0→Prop}{T1:b1→Prop}{T2:b2→Prop}(h:m.bind K=some r)(p0:∀ a,m=some (.inl a)→K (.inl a)=some r→T0 a)(p1:∀ a,m=some (.inr (.inl a))→K (.inr (.inl a))=some r→T1 a)(p2:∀ a,m=some (.inr (.inr a))→K (.inr (.inr a))=some r→T2 a):(∃ a,T0 a)∨(∃ a,T1 a)∨(∃ a,T2 a):=by
 obtain ⟨x,h2,h3⟩:=Option.bind_eq_some_iff.1 h
 match x,h2,h3 with
 | .inl a,h2,h3=>exact .inl ⟨a,p0 a h2 h3⟩
 | .inr (.inl a),h2,h3=>exact .inr (.inl ⟨a,p1 a h2 h3⟩)
 | .inr (.inr a),h2,h3=>exact .inr (.inr (⟨a,p2 a h2 h3⟩))
theorem aaG{b0 b1 b2 b3 R:Type}{m:Option (b0⊕(b1⊕(b2⊕b3)))}{K:b0⊕(b1⊕(b2⊕b3))→Option R}{r:R}{T0:b0→Prop}{T1:b1→Prop}{T2:b2→Prop}{T3:b3→Prop}(h:m.bind K=some r)(p0:∀ a,m=some (.inl a)→K (.inl a)=some r→T0 a)(p1:∀ a,m=some (.inr (.inl a))→K (.inr (.inl a))=some r→T1 a)(p2:∀ a,m=some (.inr (.inr (.inl a)))→K (.inr (.inr (.inl a)))=some r→T2 a)(p3:∀ a,m=some (.inr (.inr (.inr a)))→K (.inr (.inr (.inr a)))=some r→T3 a):(∃ a,T0 a)∨(∃ a,T1 a)∨(∃ a,T2 a)∨(∃ a,T3 a):=by
 obtain ⟨x,h2,h3⟩:=Option.bind_eq_some_iff.1 h
 match x,h2,h3 with
 | .inl a,h2,h3=>exact .inl ⟨a,p0 a h2 h3⟩
 | .inr (.inl a),h2,h3=>exact .inr (.inl ⟨a,p1 a h2 h3⟩)
 | .inr (.inr (.inl a)),h2,h3=>exact .inr (.inr (.inl ⟨a,p2 a h2 h3⟩))
 | .inr (.inr (.inr a)),h2,h3=>exact .inr (.inr (.inr (⟨a,p3 a h2 h3⟩)))
theorem aaH{b0 b1 b2 b3 b4 R:Type}{m:Option (b0⊕(b1⊕(b2⊕(b3⊕b4))))}{K:b0⊕(b1⊕(b2⊕(b3⊕b4)))→Option R}{r:R}{T0:b0→Prop}{T1:b1→Prop}{T2:b2→Prop}{T3:b3→Prop}{T4:b4→Prop}(h:m.bind K=some r)(p0:∀ a,m=some (.inl a)→K (.inl a)=some r→T0 a)(p1:∀ a,m=some (.inr (.inl a))→K (.inr (.inl a))=some r→T1 a)(p2:∀ a,m=some (.inr (.inr (.inl a)))→K (.inr (.inr (.inl a)))=some r→T2 a)(p3:∀ a,m=some (.inr (.inr (.inr (.inl a))))→K (.inr (.inr (.inr (.inl a))))=some r→T3 a)(p4:∀ a,m=some (.inr (.inr (.inr (.inr a))))→K (.inr (.inr (.inr (.inr a))))=some r→T4 a):(∃ a,T0 a)∨(∃ a,T1 a)∨(∃ a,T2 a)∨(∃ a,T3 a)∨(∃ a,T4 a):=by
 obtain ⟨x,h2,h3⟩:=Option.bind_eq_some_iff.1 h
 match x,h2,h3 with
 | .inl a,h2,h3=>exact .inl ⟨a,p0 a h2 h3⟩
 | .inr (.inl a),h2,h3=>exact .inr (.inl ⟨a,p1 a h2 h3⟩)
 | .inr (.inr (.inl a)),h2,h3=>exact .inr (.inr (.inl ⟨a,p2 a h2 h3⟩))
 | .inr (.inr (.inr (.inl a))),h2,h3=>exact .inr (.inr (.inr (.inl ⟨a,p3 a h2 h3⟩)))
 | .inr (.inr (.inr (.inr a))),h2,h3=>exact .inr (.inr (.inr (.inr (⟨a,p4 a h2 h3⟩))))
theorem lY{R V:Type}{Y:R→V}{a r:R}(h:some a=some r):Y a=Y r:=by rw [Option.some.inj h]
theorem XN{α ε:Type}{E:Env}{l:bq}{S:α→St}{X:ε→aJ×St}{v:α}{o:α⊕ε}{T:Prop}(a:AT)(h:T)(he:T=cW G Ω0 E l.x (S v) a fun e s _=>Mt l.kf l.kb e s=Fe S X o):bu E l S X v o:=by
 obtain ⟨e,s,_,h1,h2⟩:=qG l.x (he▸h)
 cases o with
 | inl w=>
  cases e with
  | nrm=>
   have h3:s.bX l.kf l.kb=S w:=Sum.inl.inj h2
   show (run G Ω0 E l.x (S v)).bind (kept l)=some (S w)
   rw [h1,←h3];rfl
  | ret=>cases h2
  | ex id=>cases h2
 | inr x=>
  cases e with
  | nrm=>cases h2
  | ret=>
   have h3:(aJ.ret,s)=X x:=Sum.inr.inj h2
   exact ⟨by rw [h1,h3],by rw [←h3];exact Qi⟩
  | ex id=>
   have h3:(aJ.ex id,s)=X x:=Sum.inr.inj h2
   exact ⟨by rw [h1,h3],by rw [←h3];exact XM _⟩
theorem cO{E:Env}{f:FuncId}{ys:List AV}{x:AV}{dp:Nat}{bx:List (Nat×List AV)}{hp:HP}{k:Key}{c c':List AV}(hk:k.dp<dp)(h:call G Ω0 E f ys (ad (boxes dp bx (ad hp k c)) k c)=some (.ret x,ad (boxes dp bx (ad hp k c)) k c')):call G Ω0 E f ys (boxes dp bx (ad hp k c))=some (.ret x,boxes dp bx (ad hp k c')):=
 ey (bZ (Nat.ne_of_lt hk) (aV ..)) (bZ (Nat.ne_of_lt hk) (aV ..)) h
theorem Jw{α ε:Type}{B:α→Option (α⊕ε)}(n:Nat)(f:Nat→α){x:ε}(hs:∀ k,k<n→B (f k)=some (.inl (f (k+1))))(he:B (f n)=some (.inr x)):lp B (f 0)=some x:=by
 have:∀ m k,k+m=n→lp B (f k)=some x:=by
  intro m
  induction m with
  | zero=>
    intro k hk;obtain rfl:k=n:=by omega
    exact fo he
  | succ m ih=>intro k hk;rw [jz (hs k (by omega))];exact ih (k+1) (by omega)
 exact this n 0 (by omega)
theorem qX{α ε β:Type}{B:α→Option (α⊕ε)}(es:List β)(p:β→Bool)(f:Nat→α){x y:ε}(hs:∀ k (h:k<es.length),p es[k]=false→B (f k)=some (.inl (f (k+1))))(hx:∀ k (h:k<es.length),p es[k]=true→B (f k)=some (.inr x))(he:B (f es.length)=some (.inr y)):lp B (f 0)=some (if es.any p then x else y):=by
 have:∀ m k,k+m=es.length→lp B (f k)=some (if (es.drop k).any p then x else y):=by
  intro m
  induction m with
  | zero=>
   intro k hk
   obtain rfl:k=es.length:=by omega
   rw [List.drop_length]
   exact fo he
  | succ m ih=>
   intro k hk
   have hlt:k<es.length:=by omega
   rw [List.drop_eq_getElem_cons hlt,List.any_cons]
   cases hp:p es[k] with
   | true=>exact fo (hx k hlt hp)
   | false=>rw [jz (hs k hlt hp),ih (k+1) (by omega)];rfl
 exact this es.length 0 (by omega)
theorem de{α ε:Type}{B:α→Option (α⊕ε)}(m:α→Nat)(Inv:α→Prop)(Q:ε→Prop)(step:∀ a,Inv a→(∃ x,B a=some (.inr x)∧Q x)∨∃ b,B a=some (.inl b)∧Inv b∧m b<m a):∀ a,Inv a→∃ x,lp B a=some x∧Q x:=by
 have:∀ n a,m a<n→Inv a→∃ x,lp B a=some x∧Q x:=by
  intro n
  induction n with
  | zero=>intro a h;omega
  | succ n ih=>
   intro a h hi
   rcases step a hi with ⟨x,h1,h2⟩ | ⟨b,h1,h2,h3⟩
   ·exact ⟨x,fo h1,h2⟩
   ·rw [jz h1];exact ih b (by omega) h2
 exact fun a=>this (m a+1) a (Nat.lt_succ_self _)
theorem Ks{t:TypeId}{n:Int}(h:0≤n∧n≤1000000):qF t [.n,.i .i64 n]=some (.o t []):=by
 simp [qF,h.1,h.2]
theorem er{E:Env}{f:FuncId}{ys:List AV}{dp:Nat}{bx bx':List (Nat×List AV)}{hp hp':HP}{y:bh}(_:call G Ω0 E f ys (boxes dp bx hp)=some (y,boxes dp bx' hp'))(h:bx'.map Prod.fst=bx.map Prod.fst)(hn:xG (bx.map Prod.fst)=true):py dp (boxes dp bx' hp') bx=bx':=Hb h hn
theorem et{E:Env}{f:FuncId}{ys:List AV}{dp:Nat}{bx bx':List (Nat×List AV)}{hp hp':HP}{y:bh}(_:call G Ω0 E f ys (boxes dp bx hp)=some (y,boxes dp bx' hp'))(hz:bm dp hp'):(fun k:Key=>if k.dp<dp then boxes dp bx' hp' k else none)=hp':=Jv hz
theorem g1{x y:Bool}(h:x=y):(x==true)=(y==true):=congrArg (fun z=>z==true) h
theorem g0{x y:Bool}(h:x=y):(x==false)=(y==false):=congrArg (fun z=>z==false) h
noncomputable def ev{α:Type}(x:Nat→Option α):Option α:=open Classical in if h:∃ r,∃ n0,∀ n,n0≤n→x n=some r then some (Classical.choose h) else none
theorem iO{α:Type}{x:Nat→Option α}{r:α}(h:ev x=some r):∃ n,x n=some r:=by
 unfold ev at h
 split at h
 ·rename_i hex
  obtain ⟨n0,hn⟩:=Classical.choose_spec hex
  exact ⟨n0,by rw [hn n0 (Nat.le_refl _)];exact h⟩
 ·cases h
theorem m7{α:Type}{x:Nat→Option α}{r:α}(n0:Nat)(h:∀ n,n0≤n→x n=some r):ev x=some r:=by
 unfold ev
 have hex:∃ r,∃ n0,∀ n,n0≤n→x n=some r:=⟨r,n0,h⟩
 rw [dif_pos hex]
 obtain ⟨n1,h1⟩:=Classical.choose_spec hex
 have:=h1 (max n0 n1) (Nat.le_max_right _ _)
 rw [h (max n0 n1) (Nat.le_max_left _ _)] at this
 exact this.symm
theorem aO{R:Type}{E:Env}{f:FuncId}{fn:bG}{ys:List AV}{hp:HP}{Y:R→bh×HP}{r:R}{T:Prop}(hG:G f=some fn)(a:AT)(h:(∀ {a:R},some a=some r→Y a=Y r)→T)(he:T=IC G Ω0 E fn ys hp a fun y h=>(bh.ret y,h)=Y r:=by kernel_rfl):call G Ω0 E f ys hp=some (Y r):=XJ hG a (h lY) he
theorem MQ{R:Type}{E:Env}{f:FuncId}{fn:bG}{ys:List AV}{hp:HP}{Y:R→bh×HP}{r:R}{T:Prop}(hG:G f=some fn)(a:AT)(h:(∀ {a:R},some a=some r→Y a=Y r)→T)(he:T=Fv G Ω0 E fn ys hp a fun y h=>(bh.new y,h)=Y r:=by kernel_rfl):call G Ω0 E f ys hp=some (Y r):=Qf hG a (h lY) he
theorem ga{R:Type}{E:Env}{c:AC}{st:St}{Y:R→aJ×St}{r:R}{T:Prop}(a:AT)(h:(∀ {a:R},some a=some r→Y a=Y r)→T)(he:T=cW G Ω0 E c st a fun e s _=>(e,s)=Y r:=by kernel_rfl):run G Ω0 E c st=some (Y r):=runT a (h lY) he
theorem dj{R:Type}{E:Env}{kf kb:List Nat}{gs:List cK}{st:St}{Y:R→St}{r:R}{T:Prop}(a:AT)(h:(∀ {a:R},some a=some r→Y a=Y r)→T)(he:T=xE G Ω0 E kf kb st gs a fun s _=>s=Y r:=by kernel_rfl):ew G Ω0 E kf kb gs st=some (Y r):=XK a (h lY) he
theorem FB{R:Type}{E:Env}{kf kb:List Nat}{gs:List cp}{st:St}{Y:R→St}{r:R}{T:Prop}(a:AT)(h:(∀ {a:R},some a=some r→Y a=Y r)→T)(he:T=xF G Ω0 E kf kb st gs a fun s _=>s=Y r:=by kernel_rfl):vu G Ω0 E kf kb gs st=some (Y r):=XL a (h lY) he
theorem bD{α ε:Type}{E:Env}{l:bq}{S:α→St}{X:ε→aJ×St}{v:α}{o:α⊕ε}{T:Prop}(a:AT)(h:(∀ {a:α⊕ε},some a=some o→Fe S X a=Fe S X o)→T)(he:T=cW G Ω0 E l.x (S v) a fun e s _=>Mt l.kf l.kb e s=Fe S X o:=by kernel_rfl):bu E l S X v o:=XN a (h lY) he
theorem aB{Q R:Type}{m:Option Q}{k:Q→Option R}{r:R}{O T:Q→Prop}(h:m.bind k=some r)(l:∀ x,m=some x→O x)(h1:∀ x,k x=some r→T x):∃ x,O x∧T x:=ba h fun x e h=>⟨l x e,h1 x h⟩
theorem bO{b0 b1 R:Type}{m:Option (b0⊕b1)}{K:b0⊕b1→Option R}{r:R}{O:b0⊕b1→Prop}{T0:b0→Prop}{T1:b1→Prop}(h:m.bind K=some r)(l:∀ x,m=some x→O x)(p0:∀ a,K (.inl a)=some r→T0 a)(p1:∀ a,K (.inr a)=some r→T1 a):(∃ a,O (.inl a)∧T0 a)∨(∃ a,O (.inr a)∧T1 a):=aaE h (fun a e h=>⟨l _ e,p0 a h⟩) (fun a e h=>⟨l _ e,p1 a h⟩)
theorem IF{b0 b1 b2 R:Type}{m:Option (b0⊕(b1⊕b2))}{K:b0⊕(b1⊕b2)→Option R}{r:R}{O:b0⊕(b1⊕b2)→Prop}{T0:b0→Prop}{T1:b1→Prop}{T2:b2→Prop}(h:m.bind K=some r)(l:∀ x,m=some x→O x)(p0:∀ a,K (.inl a)=some r→T0 a)(p1:∀ a,K (.inr (.inl a))=some r→T1 a)(p2:∀ a,K (.inr (.inr a))=some r→T2 a):(∃ a,O (.inl a)∧T0 a)∨(∃ a,O (.inr (.inl a))∧T1 a)∨(∃ a,O (.inr (.inr a))∧T2 a):=aaF h (fun a e h=>⟨l _ e,p0 a h⟩) (fun a e h=>⟨l _ e,p1 a h⟩) (fun a e h=>⟨l _ e,p2 a h⟩)
theorem BZ{b0 b1 b2 b3 R:Type}{m:Option (b0⊕(b1⊕(b2⊕b3)))}{K:b0⊕(b1⊕(b2⊕b3))→Option R}{r:R}{O:b0⊕(b1⊕(b2⊕b3))→Prop}{T0:b0→Prop}{T1:b1→Prop}{T2:b2→Prop}{T3:b3→Prop}(h:m.bind K=some r)(l:∀ x,m=some x→O x)(p0:∀ a,K (.inl a)=some r→T0 a)(p1:∀ a,K (.inr (.inl a))=some r→T1 a)(p2:∀ a,K (.inr (.inr (.inl a)))=some r→T2 a)(p3:∀ a,K (.inr (.inr (.inr a)))=some r→T3 a):(∃ a,O (.inl a)∧T0 a)∨(∃ a,O (.inr (.inl a))∧T1 a)∨(∃ a,O (.inr (.inr (.inl a)))∧T2 a)∨(∃ a,O (.inr (.inr (.inr a)))∧T3 a):=aaG h (fun a e h=>⟨l _ e,p0 a h⟩) (fun a e h=>⟨l _ e,p1 a h⟩) (fun a e h=>⟨l _ e,p2 a h⟩) (fun a e h=>⟨l _ e,p3 a h⟩)
theorem IG{b0 b1 b2 b3 b4 R:Type}{m:Option (b0⊕(b1⊕(b2⊕(b3⊕b4))))}{K:b0⊕(b1⊕(b2⊕(b3⊕b4)))→Option R}{r:R}{O:b0⊕(b1⊕(b2⊕(b3⊕b4)))→Prop}{T0:b0→Prop}{T1:b1→Prop}{T2:b2→Prop}{T3:b3→Prop}{T4:b4→Prop}(h:m.bind K=some r)(l:∀ x,m=some x→O x)(p0:∀ a,K (.inl a)=some r→T0 a)(p1:∀ a,K (.inr (.inl a))=some r→T1 a)(p2:∀ a,K (.inr (.inr (.inl a)))=some r→T2 a)(p3:∀ a,K (.inr (.inr (.inr (.inl a))))=some r→T3 a)(p4:∀ a,K (.inr (.inr (.inr (.inr a))))=some r→T4 a):(∃ a,O (.inl a)∧T0 a)∨(∃ a,O (.inr (.inl a))∧T1 a)∨(∃ a,O (.inr (.inr (.inl a)))∧T2 a)∨(∃ a,O (.inr (.inr (.inr (.inl a))))∧T3 a)∨(∃ a,O (.inr (.inr (.inr (.inr a))))∧T4 a):=aaH h (fun a e h=>⟨l _ e,p0 a h⟩) (fun a e h=>⟨l _ e,p1 a h⟩) (fun a e h=>⟨l _ e,p2 a h⟩) (fun a e h=>⟨l _ e,p3 a h⟩) (fun a e h=>⟨l _ e,p4 a h⟩)
theorem cV{α ε:Type}{E:Env}{B:α→Option (α⊕ε)}{l:bq}{S:α→St}{X:ε→aJ×St}(hb:∀ v o,B v=some o→bu E l S X v o)(v:α)(x:ε)(h:lp B v=some x)(hk:∀ v,(S v).bX l.kf l.kb=S v:=by exact fun _=>rfl):Di G Ω0 E l (S v)=some (X x):=ML l S X hk hb h
theorem rI(n:Nat):(n:Int)=(n:Int):=rfl
theorem rN(n:Nat):n=n:=rfl
theorem fE{k:Key}{dp:Nat}(h:k.dp<dp)(ns:List Nat):(aR dp ns (.p k 0)&&okB dp [] (.p k 0))=true:=by simp [aR,okB,bY,AV.aQ,AV.aN,AV.bI,aG h]
abbrev xB(f:Bool→AT):AT:=.ex fun r=>ao (.v (.b r)) (f r)
abbrev xI(f:Int→AT):AT:=.ex fun r=>ao (.v (I r)) (f r)
abbrev xN(f:Nat→AT):AT:=.ex fun r=>ao (.n r) (f r)
abbrev oN(r:AT):AT:=.or (bt .nil) (bf r)
theorem jr{p:Prop}{q:Prop}(H:q)(h:p):q∧Z0∧p:=⟨H,rfl,h⟩
theorem pC{p:Prop}(h:p):true=true∧Z0∧p:=⟨rfl,rfl,h⟩
theorem Jx{p:Prop}{x y:Bool}(H:x=y)(h:p):(x==true)=(y==true)∧(x==true)=(y==true)∧Z0∧(x==true)=(y==true)∧(x==true)=(y==true)∧p:=⟨g1 H,g1 H,rfl,g1 H,g1 H,h⟩
theorem Ao{p:Prop}{x y:Bool}(H:x=y)(h:p):(x==false)=(y==false)∧(x==false)=(y==false)∧(x==false)=(y==false)∧p:=⟨g0 H,g0 H,g0 H,h⟩
theorem B0{p:Prop}{x y:Bool}(H:x=y)(h:p):(x==false)=(y==false)∧(x==false)=(y==false)∧Z0∧(x==false)=(y==false)∧p:=⟨g0 H,g0 H,rfl,g0 H,h⟩
theorem wz{p:Prop}{x y:Bool}(H:x=y)(h:p):(x==false)=(y==false)∧(x==false)=(y==false)∧(x==false)=(y==false)∧(x==false)=(y==false)∧x=y∧p:=⟨g0 H,g0 H,g0 H,g0 H,H,h⟩
theorem Ap{p:Prop}{x y:Bool}(H:x=y)(h:p):(x==true)=(y==true)∧(x==true)=(y==true)∧Z0∧(x==true)=(y==true)∧p:=⟨g1 H,g1 H,rfl,g1 H,h⟩
theorem Ey{p:Prop}{x y:Bool}(H:x=y)(h:p):(x==true)=(y==true)∧(x==true)=(y==true)∧(x==true)=(y==true)∧p:=⟨g1 H,g1 H,g1 H,h⟩
theorem Qj{p:Prop}{x y:Bool}(H:x=y)(h:p):(x==true)=(y==true)∧(x==true)=(y==true)∧Z0∧(x==true)=(y==true)∧(false==false)=true∧x=y∧false=false∧p:=⟨g1 H,g1 H,rfl,g1 H,rfl,H,rfl,h⟩
theorem HW{p:Prop}{x y:Bool}(H:x=y)(h:p):(x==true)=(y==true)∧(x==true)=(y==true)∧(x==true)=(y==true)∧(false==false)=true∧x=y∧false=false∧p:=⟨g1 H,g1 H,g1 H,rfl,H,rfl,h⟩
theorem IH{p:Prop}{x y:Bool}(H:x=y)(h:p):(x==false)=(y==false)∧(x==false)=(y==false)∧Z0∧(x==false)=(y==false)∧(x==false)=(y==false)∧p:=⟨g0 H,g0 H,rfl,g0 H,g0 H,h⟩
theorem xH{p:Prop}(h:p):true=true∧false=false∧Z0∧true=true∧Z0∧Z0∧p:=⟨rfl,rfl,rfl,rfl,rfl,rfl,h⟩
theorem gG{p:Prop}(h:p):true=true∧true=true∧true=true∧p:=⟨rfl,rfl,rfl,h⟩
theorem kl{p:Prop}{x y:Bool}(H:x=y)(h:p):(x==true)=(y==true)∧(x==true)=(y==true)∧x=y∧p:=⟨g1 H,g1 H,H,h⟩
theorem Kt{p:Prop}{x y:Bool}(H:x=y)(h:p):(x==true)=(y==true)∧(x==true)=(y==true)∧(x==true)=(y==true)∧Z0∧(x==true)=(y==true)∧x=y∧p:=⟨g1 H,g1 H,g1 H,rfl,g1 H,H,h⟩
theorem nX{p:Prop}{x y:Bool}(H:x=y)(h:p):(x==false)=(y==false)∧x=y∧p:=⟨g0 H,H,h⟩
theorem Dq{p:Prop}{x y:Bool}(H:x=y)(h:p):(x==false)=(y==false)∧(x==false)=(y==false)∧(x==false)=(y==false)∧(x==false)=(y==false)∧(x==false)=(y==false)∧x=y∧p:=⟨g0 H,g0 H,g0 H,g0 H,g0 H,H,h⟩
theorem II{p:Prop}{q:Prop}(H:q)(h:p):q∧true=true∧true=true∧Z0∧true=true∧true=true∧p:=⟨H,rfl,rfl,rfl,rfl,rfl,h⟩
theorem cD{p:Prop}(h:p):true=true∧true=true∧p:=⟨rfl,rfl,h⟩
theorem Dr{p:Prop}{q:Prop}(H:q)(h:p):q∧Z0∧Z0∧p:=⟨H,rfl,rfl,h⟩
theorem IJ{p:Prop}{x y:Bool}(H:x=y)(h:p):(x==true)=(y==true)∧(x==true)=(y==true)∧(x==true)=(y==true)∧Z0∧(x==true)=(y==true)∧p:=⟨g1 H,g1 H,g1 H,rfl,g1 H,h⟩
theorem vz{p:Prop}{x y:Bool}(H:x=y)(h:p):(x==true)=(y==true)∧x=y∧p:=⟨g1 H,H,h⟩
theorem gI{p:Prop}(h:p):false=false∧true=true∧p:=⟨rfl,rfl,h⟩
theorem lJ{p:Prop}{x y:Bool}(H:x=y)(h:p):(x==false)=(y==false)∧(x==false)=(y==false)∧p:=⟨g0 H,g0 H,h⟩
theorem AF{p:Prop}{x y:Bool}(H:x=y)(h:p):(x==false)=(y==false)∧(x==false)=(y==false)∧false=false∧true=true∧p:=⟨g0 H,g0 H,rfl,rfl,h⟩
theorem Ku{p:Prop}{x y:Bool}(H:x=y)(h:p):(x==false)=(y==false)∧(x==false)=(y==false)∧(x==false)=(y==false)∧(x==false)=(y==false)∧(x==false)=(y==false)∧(x==false)=(y==false)∧(x==false)=(y==false)∧x=y∧true=true∧p:=⟨g0 H,g0 H,g0 H,g0 H,g0 H,g0 H,g0 H,H,rfl,h⟩
theorem Kv{p:Prop}{x y:Bool}(H:x=y)(h:p):(x==false)=(y==false)∧(x==false)=(y==false)∧(x==false)=(y==false)∧(x==false)=(y==false)∧(x==false)=(y==false)∧(x==false)=(y==false)∧(x==false)=(y==false)∧x=y∧(true==false)=false∧(true==false)=false∧(true==false)=false∧(true==false)=false∧(true==false)=false∧(true==false)=false∧(true==false)=false∧true=true∧true=true∧p:=⟨g0 H,g0 H,g0 H,g0 H,g0 H,g0 H,g0 H,H,rfl,rfl,rfl,rfl,rfl,rfl,rfl,rfl,rfl,h⟩
theorem IK{p:Prop}{x y:Bool}(H:x=y)(h:p):(x==true)=(y==true)∧(x==true)=(y==true)∧(x==true)=(y==true)∧(x==true)=(y==true)∧(x==true)=(y==true)∧x=y∧p:=⟨g1 H,g1 H,g1 H,g1 H,g1 H,H,h⟩
theorem sJ{p:Prop}{x y:Bool}(H:x=y)(h:p):(x==true)=(y==true)∧(x==true)=(y==true)∧p:=⟨g1 H,g1 H,h⟩
theorem AG{p:Prop}{x y:Bool}(H:x=y)(h:p):(x==true)=(y==true)∧(x==true)=(y==true)∧(x==true)=(y==true)∧(x==true)=(y==true)∧p:=⟨g1 H,g1 H,g1 H,g1 H,h⟩
theorem lK{p:Prop}(h:p):true=true∧true=true∧true=true∧true=true∧true=true∧p:=⟨rfl,rfl,rfl,rfl,rfl,h⟩
theorem FC{p:Prop}{q:Prop}(H:q)(h:p):q∧true=true∧true=true∧p:=⟨H,rfl,rfl,h⟩
theorem AH{p:Prop}{x y:Bool}(H:x=y)(h:p):(x==false)=(y==false)∧(x==false)=(y==false)∧x=y∧p:=⟨g0 H,g0 H,H,h⟩
theorem Ds{p:Prop}{q:Prop}(H:q)(h:p):q∧true=true∧true=true∧true=true∧true=true∧p:=⟨H,rfl,rfl,rfl,rfl,h⟩
theorem kY{p:Prop}(h:p):true=true∧false=false∧p:=⟨rfl,rfl,h⟩
theorem pD{p:Prop}(h:p):true=true∧true=true∧true=true∧true=true∧p:=⟨rfl,rfl,rfl,rfl,h⟩
theorem FD{p:Prop}{q:Prop}(H:q)(h:p):q∧true=true∧true=true∧true=true∧p:=⟨H,rfl,rfl,rfl,h⟩
theorem FE{p:Prop}{x y:Bool}(H:x=y)(h:p):(x==true)=(y==true)∧(x==true)=(y==true)∧(x==true)=(y==true)∧x=y∧p:=⟨g1 H,g1 H,g1 H,H,h⟩
theorem Kw{p:Prop}{x y:Bool}(H:x=y)(h:p):(x==true)=(y==true)∧(x==true)=(y==true)∧Z0∧(x==true)=(y==true)∧(x==true)=(y==true)∧Z0∧(x==true)=(y==true)∧p:=⟨g1 H,g1 H,rfl,g1 H,g1 H,rfl,g1 H,h⟩
theorem Kx{p:Prop}{x y:Bool}(H:x=y)(h:p):(x==true)=(y==true)∧(x==true)=(y==true)∧Z0∧(x==true)=(y==true)∧(x==true)=(y==true)∧Z0∧(x==true)=(y==true)∧x=y∧p:=⟨g1 H,g1 H,rfl,g1 H,g1 H,rfl,g1 H,H,h⟩
abbrev b5(r:AT):AT:=bt<|bt r
abbrev cR(r:AT):AT:=bt<|bt<|bt r
abbrev fF(r:AT):AT:=bt<|bf r
abbrev js(r:AT):AT:=bt<|bt<|bt<|bt<|bt r
abbrev jt(r:AT):AT:=bt<|bt<|bt<|bt r
abbrev rT(r:AT):AT:=bf<|bt r
abbrev wA(r:AT):AT:=bf<|bf<|bf<|bf<|bt r
abbrev wB(r:AT):AT:=bt<|bt<|bt<|bf r
abbrev Aq(r:AT):AT:=bf<|bf<|bf<|bt<|bf<|bf r
abbrev B3(r:AT):AT:=bt<|bt<|bt<|bt<|bt<|bt<|bf r
abbrev vA(r:AT):AT:=bf<|bf<|bf r
abbrev xJ(r:AT):AT:=bf<|bf<|bf<|bf<|bt<|bf<|bf r
abbrev xK(r:AT):AT:=bt<|bt<|bf r
abbrev AI(r:AT):AT:=bt<|bt<|bt<|bt<|bt<|bt<|bt r
abbrev Dt(r:AT):AT:=bf<|bf<|bf<|bf<|bf<|bt r
abbrev FF(r:AT):AT:=bt<|bt<|bt<|bt<|bt<|bt r
abbrev FG(r:AT):AT:=bt<|bt<|bt<|bt<|bt<|bf r
abbrev FH(r:AT):AT:=bf<|bf<|bf<|bf<|bf<|bf r
abbrev FI(r:AT):AT:=bf<|bf<|bf<|bf r
abbrev IL(r:AT):AT:=bt<|bt<|bt<|bt<|bf r
abbrev Ky(r:AT):AT:=bf<|bf<|bf<|bt<|bt r
abbrev Kz(r:AT):AT:=bf<|bf<|bf<|bf<|bf r
abbrev KA(r:AT):AT:=bf<|bf<|bf<|bf<|bf<|bf<|bf<|bf<|bf<|bf<|bf r
abbrev KB(r:AT):AT:=bf<|bf<|bf<|bf<|bf<|bf<|bf<|bt<|bt r
abbrev KC(r:AT):AT:=bf<|bf<|bf<|bf<|bf<|bf<|bf<|bt<|bf<|bf<|bf<|bf<|bf<|bf<|bf<|bt<|bt r
abbrev KD(r:AT):AT:=bt<|bt<|bt<|bt<|bt<|bt<|bt<|bt r
abbrev Qk(r:AT):AT:=bf<|bf<|bf<|bf<|bt<|bf<|bf<|bf<|bf<|bt<|bf<|bf<|bf<|bf<|bt r
abbrev Ql(r:AT):AT:=bf<|bf<|bf<|bf<|bt<|bf<|bf<|bf<|bf<|bt r
abbrev Qm(r:AT):AT:=bf<|bf<|bf<|bf<|bf<|bf<|bf<|bf<|bf<|bt<|bt r
abbrev Qn(r:AT):AT:=bf<|bf<|bf<|bf<|bf<|bt<|bt<|bt<|bt<|bt r
abbrev Qo(r:AT):AT:=bf<|bf<|bf<|bf<|bf<|bf<|bt<|bf<|bf r
abbrev Qp(r:AT):AT:=bf<|bf<|bf<|bf<|bf<|bf<|bf<|bf<|bf<|bf<|bf<|bf r
end Go.Proofs.YtndeklbmglgonaaGreat.A
