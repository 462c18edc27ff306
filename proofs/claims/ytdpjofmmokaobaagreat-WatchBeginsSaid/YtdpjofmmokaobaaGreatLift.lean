/- Plain functions: loops as least fixed points, and how what they answer is told of the abstract run. -/
import Derived.Test.YtdpjofmmokaobaaGreatBase
set_option linter.unusedSectionVars false
set_option linter.unusedVariables false
set_option linter.unusedSimpArgs false
set_option linter.constructorNameAsVariable false
namespace Go.Proofs.YtdpjofmmokaobaaGreat.A
open Go
def qf{α ε:Type}(B:α→Option (α⊕ε)):Nat→α→Option ε
 | 0,_=>none
 | n+1,v=>match B v with
  | some (.inl w)=>qf B n w
  | some (.inr x)=>some x
  | none=>none
class Lp where
 run : {α ε:Type}→(α→Option (α⊕ε))→α→Option ε
 sound:∀ {α ε:Type}{B:α→Option (α⊕ε)}{v:α}{x:ε},run B v=some x→∃ n,qf B n v=some x
 told:∀ {α ε:Type}{B:α→Option (α⊕ε)}{v:α}{x:ε}(n:Nat),qf B n v=some x→run B v=some x
abbrev lp[Lp]{α ε:Type}(B:α→Option (α⊕ε))(v:α):Option ε:=Lp.run B v
theorem xx[Lp]{α ε:Type}{B:α→Option (α⊕ε)}{v:α}{x:ε}(h:lp B v=some x):∃ n,qf B n v=some x:=Lp.sound h
theorem Fw[Lp]{α ε:Type}{B:α→Option (α⊕ε)}{v:α}{x:ε}(n:Nat)(h:qf B n v=some x):lp B v=some x:=Lp.told n h
theorem FT{α ε:Type}{B:α→Option (α⊕ε)} : ∀ {n:Nat}{v:α}{x:ε},qf B n v=some x→qf B (n+1) v=some x
 | 0,_,_,h=>by cases h
 | n+1,v,x,h=>by
  rw [qf] at h ⊢
  split at h
  ·exact FT h
  ·exact h
  ·exact h
theorem Kv{α ε:Type}{B:α→Option (α⊕ε)}{n m:Nat}{v:α}{x:ε}(hm:n≤m)(h:qf B n v=some x):qf B m v=some x:=by
 induction hm with
 | refl=>exact h
 | step _ ih=>exact FT ih
theorem OK{α ε:Type}{B:α→Option (α⊕ε)}{n m:Nat}{v:α}{x y:ε}(h:qf B n v=some x)(h':qf B m v=some y):x=y:=by
 have h1:=Kv (Nat.le_max_left n m) h
 rw [Kv (Nat.le_max_right n m) h'] at h1
 exact (Option.some.inj h1).symm
theorem Kw:Nonempty Lp:=by
 refine ⟨⟨fun {α ε} B v=>open Classical in if h:∃ n,(qf B n v).isSome then qf B h.choose v else none,fun {α ε B v x} h=>?_,fun {α ε B v x} n h=>?_⟩⟩
 ·split at h
  ·rename_i hn;exact ⟨_,h⟩
  ·cases h
 ·have hn:∃ n,(qf B n v).isSome:=⟨n,by rw [h];rfl⟩
  rw [dif_pos hn]
  have:=hn.choose_spec
  obtain ⟨y,hy⟩:=Option.isSome_iff_exists.1 this
  rw [hy,OK hy h]
variable [Lp]
section
variable {α ε:Type}{B:α→Option (α⊕ε)}
theorem iG{v:α}{x:ε}(h:B v=some (.inr x)):lp B v=some x:=Fw 1 (by rw [qf,h])
theorem ly{v w:α}(h:B v=some (.inl w)):lp B v=lp B w:=by
 cases hw:lp B w with
 | some x=>obtain ⟨n,hn⟩:=xx hw;exact Fw (n+1) (by rw [qf,h];exact hn)
 | none=>
  cases hv:lp B v with
  | none=>rfl
  | some x=>
   obtain ⟨n,hn⟩:=xx hv
   cases n with
   | zero=>cases hn
   | succ n=>rw [qf,h] at hn;rw [Fw n hn] at hw;cases hw
end
def bI{α ε:Type}(E:Env)(l:bY)(S:α→St)(X:ε→aR×St)(v:α):α⊕ε→Prop
 | .inl w=>(run G Ω0 E l.x (S v)).bind (kept l)=some (S w)
 | .inr x=>run G Ω0 E l.x (S v)=some (X x)∧(X x).1≠.nrm
theorem OL{α ε:Type}{E:Env}{B:α→Option (α⊕ε)}(l:bY)(S:α→St)(X:ε→aR×St)(hk:∀ v,(S v).bw l.kf l.kb=S v)(hb:∀ v o,B v=some o→bI E l S X v o){v:α}{x:ε}(h:lp B v=some x):Dn G Ω0 E l (S v)=some (X x):=by
 obtain ⟨n,hn⟩:=xx h
 clear h
 induction n generalizing v with
 | zero=>cases hn
 | succ n ih=>
  rw [qf] at hn
  split at hn
  ·rename_i w hw
   rw [JY (by rw [hk];exact hb v _ hw)]
   exact ih hn
  ·rename_i y hy
   obtain rfl:=Option.some.inj hn
   obtain ⟨h1,h2⟩:=hb v _ hy
   exact Lz (by rw [hk];exact h1) h2
  ·cases hn
def boxes(dp:Nat)(bx:List (Nat×List AV))(hp:HP):HP:=fun k=>if k.dp=dp then aC bx k.d else hp k
theorem B6{hp:HP}{k k':Key}{cs:List AV}(h:k≠k'):ad hp k' cs k=hp k:=by simp only [ad,if_neg h]
theorem bU{h h':HP}{k k':Key}{c d:List AV}(hn:k'≠k)(e:ad h k c=h'):ad (ad h k' d) k c=ad h' k' d:=by
 subst e
 funext q
 simp only [ad]
 by_cases h1:q=k
 ·subst h1;simp [Ne.symm hn]
 ·simp [h1]
theorem OM{dp:Nat}{bx:List (Nat×List AV)}{hp:HP}{k:Key}{c:List AV}(h:k.dp≠dp):ad (boxes dp bx hp) k c=boxes dp bx (ad hp k c):=by
 funext q
 simp only [ad,boxes]
 by_cases h1:q=k
 ·subst h1;simp [h]
 ·simp [h1]
theorem Jg{bx:List (Nat×List AV)}{d d':Nat}{c:List AV}(h:(aC bx d).isSome=true):aC (iQ bx d c) d'=if d'=d then some c else aC bx d':=by
 induction bx with
 | nil=>simp [aC] at h
 | cons x bx ih=>
  obtain ⟨k,cs⟩:=x
  by_cases hk:k=d
  ·subst hk
   by_cases hd:d'=k
   ·subst hd;simp [iQ,aC]
   ·have:¬k=d':=fun e=>hd e.symm
    simp [iQ,aC,hd,this]
  ·have h2:(aC bx d).isSome=true:=by simpa [aC,hk] using h
   have:=ih h2
   by_cases hd:k=d'
   ·subst hd
    simp [iQ,aC,hk]
   ·simp [iQ,aC,hk,hd,this]
theorem ON{dp:Nat}{bx:List (Nat×List AV)}{hp:HP}{d:Nat}{c:List AV}(h:(aC bx d).isSome=true):ad (boxes dp bx hp) ⟨dp,d⟩ c=boxes dp (iQ bx d c) hp:=by
 funext q
 obtain ⟨qd,q'⟩:=q
 simp only [ad,boxes,Jg h,Key.mk.injEq]
 by_cases h1:qd=dp
 ·simp [h1]
 ·simp [h1]
theorem cz{dp:Nat}{bx bx1:List (Nat×List AV)}{hp:HP}{d:Nat}{c:List AV}(h:(aC bx d).isSome=true)(hb:iQ bx d c=bx1):ad (boxes dp bx hp) ⟨dp,d⟩ c=boxes dp bx1 hp:=hb▸ON h
theorem bN{dp:Nat}{bx:List (Nat×List AV)}{hp hp1:HP}{k:Key}{c:List AV}(h:k.dp≠dp)(hh:ad hp k c=hp1):ad (boxes dp bx hp) k c=boxes dp bx hp1:=hh▸OM h
theorem fj{H H1 H2:HP}{k:Key}{c:List AV}(h:H=H1)(h':ad H1 k c=H2):ad H k c=H2:=h▸h'
def yX:List Nat→Bool
 | []=>true
 | x::l=>l.all (fun y=>x !=y)&&yX l
theorem FU:∀ {l:List Nat},yX l=true→l.Nodup
 | [],_=>List.nodup_nil
 | x::l,h=>by
  simp only [yX,Bool.and_eq_true,List.all_eq_true,bne_iff_ne,ne_eq] at h
  exact List.nodup_cons.2 ⟨fun hm=>h.1 x hm rfl,FU h.2⟩
theorem Hx{dp:Nat}{bx bx':List (Nat×List AV)}{hp:HP}(h:bx'.map Prod.fst=bx.map Prod.fst)(hn0:yX (bx.map Prod.fst)=true):iR dp (boxes dp bx' hp) bx=bx':=by
 have hn:=FU hn0
 clear hn0
 have key:∀ (l l':List (Nat×List AV)),l'.map Prod.fst=l.map Prod.fst→(l.map Prod.fst).Nodup→(∀ x∈l',aC bx' x.1=some x.2)→iR dp (boxes dp bx' hp) l=l':=by
  intro l
  induction l with
  | nil=>intro l' hl _ _;cases l' with
   | nil=>rfl
   | cons _ _=>cases hl
  | cons y l ih=>
   intro l' hl hnd hg
   cases l' with
   | nil=>cases hl
   | cons x l'=>
    simp only [List.map_cons,List.cons.injEq] at hl
    obtain ⟨d,cs⟩:=y
    obtain ⟨d',cs'⟩:=x
    obtain ⟨rfl,hl⟩:=hl
    have h1:=hg (d',cs') (by simp)
    simp only [iR,boxes,if_true,h1]
    rw [ih l' hl (List.nodup_cons.1 hnd).2 fun x hx=>hg x (by simp [hx])]
 refine key bx bx' h hn fun x hx=>?_
 have hn':(bx'.map Prod.fst).Nodup:=by rw [h];exact hn
 clear key h hn
 induction bx' with
 | nil=>cases hx
 | cons y bx' ih=>
  obtain ⟨d,cs⟩:=y
  rcases List.mem_cons.1 hx with rfl | hx
  ·simp [aC]
  ·have hne:¬d=x.1:=fun e=>(List.nodup_cons.1 hn').1 (List.mem_map.2 ⟨x,hx,e.symm⟩)
   simp only [aC,if_neg hne]
   exact ih hx (List.nodup_cons.1 hn').2
def aN(dp:Nat)(hp:HP):Prop:=∀ k:Key,¬k.dp<dp→hp k=none
theorem dJ(dp:Nat):aN dp (fun _=>none):=fun _ _=>rfl
theorem ab{dp:Nat}{hp:HP}{k:Key}{c:List AV}(hk:k.dp<dp)(h:aN dp hp):aN dp (ad hp k c):=by
 intro q hq
 have:q≠k:=fun e=>by subst e;exact hq hk
 rw [B6 this];exact h q hq
theorem az{dp:Nat}{bx:List (Nat×List AV)}{hp:HP}(h:aN dp hp):aN (dp+1) (boxes dp bx hp):=by
 intro q hq
 simp only [boxes,if_neg (show ¬q.dp=dp by omega)]
 exact h q (by omega)
theorem Kx{dp:Nat}{bx:List (Nat×List AV)}{hp:HP}(h:aN dp hp):(fun k:Key=>if k.dp<dp then boxes dp bx hp k else none)=hp:=by
 funext q
 by_cases h1:q.dp<dp
 ·simp only [if_pos h1,boxes,if_neg (show ¬q.dp=dp by omega)]
 ·rw [if_neg h1,h q h1]
theorem B7{dp d d':Nat}(h:d≠d'):(⟨dp,d⟩:Key)≠⟨dp,d'⟩:=fun e=>h (congrArg Key.d e)
theorem aj{dp d:Nat}{k:Key}(h:k.dp<dp):k≠⟨dp,d⟩:=fun e=>by subst e;exact Nat.lt_irrefl _ h
theorem Dx{dp d:Nat}{k:Key}(h:k.dp<dp):(⟨dp,d⟩:Key)≠k:=fun e=>aj h e.symm
theorem cT{E:Env}{f:FuncId}{ys:List AV}{h1 h1' h2 h2':HP}{x:AV}(e1:h1=h1')(e2:h2=h2')(h:call G Ω0 E f ys h1=some (.ret x,h2)):call G Ω0 E f ys h1'=some (.ret x,h2'):=e1▸e2▸h
theorem MC{R:Type}{c:Prop}[Decidable c]{A B:Option R}{r:R}{P:Prop}(h:(if c then A else B)=some r)(h1:c→A=some r→P)(h2:¬c→B=some r→P):P:=by
 by_cases hc:c
 ·exact h1 hc (by rwa [if_pos hc] at h)
 ·exact h2 hc (by rwa [if_neg hc] at h)
theorem FV{R:Type}{c:Bool}{A B:Option R}{r:R}{P:Prop}(h:(if c=true then A else B)=some r)(h1:c=true→A=some r→P)(h2:c=false→B=some r→P):P:=by
 cases c with
 | true=>exact h1 rfl h
 | false=>exact h2 rfl h
def cX(n:Int):Option Nat:=if 0≤n then some n.toNat else none
theorem tI{n:Int}{j:Nat}(h:cX n=some j):n=(j:Int):=by
 unfold cX at h;split at h
 ·obtain rfl:=Option.some.inj h;omega
 ·cases h
theorem FW(n:Nat):cX (n:Int)=some n:=by simp [cX]
theorem cj{n:Int}(h:0≤n):cX n=some n.toNat:=by simp [cX,h]
theorem aS{R:Type}{c:Prop}[Decidable c]{A:Option R}{r:R}{P:Prop}(h:(if c then A else none)=some r)(h1:c→A=some r→P):P:=
 MC h h1 fun _ h=>by cases h
theorem B8{R:Type}{r:R}{P:Prop}(h:(none:Option R)=some r):P:=by cases h
theorem SO:aR.ret≠.nrm:=by intro h;cases h
theorem Xr(n:Nat):aR.ex n≠.nrm:=by intro h;cases h
def Fx{α ε:Type}(S:α→St)(X:ε→aR×St):α⊕ε→St⊕(aR×St)
 | .inl w=>.inl (S w)
 | .inr x=>.inr (X x)
theorem aP{Q R:Type}{m:Option Q}{k:Q→Option R}{r:R}{T:Q→Prop}(h:m.bind k=some r)(h1:∀ x,m=some x→k x=some r→T x):∃ x,T x:=by
 obtain ⟨x,h2,h3⟩:=Option.bind_eq_some_iff.1 h
 exact ⟨x,h1 x h2 h3⟩
theorem eN{R:Type}{n:Int}{k:Nat→Option R}{r:R}{T:Nat→Prop}(h:(cX n).bind k=some r)(h1:∀ j:Nat,n=(j:Int)→k j=some r→T j):∃ j,T j:=
 aP h fun j hj h=>h1 j (tI hj) h
theorem cb{R:Type}{c:Prop}[Decidable c]{A B:Option R}{r:R}{T S:Prop}(h:(if c then A else B)=some r)(h1:c→A=some r→T)(h2:¬c→B=some r→S):T∨S:=
 MC h (fun hc h=>.inl (h1 hc h)) fun hc h=>.inr (h2 hc h)
theorem a8{R:Type}{c:Bool}{A B:Option R}{r:R}{T S:Prop}(h:(if c=true then A else B)=some r)(h1:c=true→A=some r→T)(h2:c=false→B=some r→S):T∨S:=
 FV h (fun hc h=>.inl (h1 hc h)) fun hc h=>.inr (h2 hc h)
theorem Z8{b0 b1 R:Type}{m:Option (b0⊕b1)}{K:b0⊕b1→Option R}{r:R}{T0:b0→Prop}{T1:b1→Prop}(h:m.bind K=some r)(p0:∀ a,m=some (.inl a)→K (.inl a)=some r→T0 a)(p1:∀ a,m=some (.inr a)→K (.inr a)=some r→T1 a):(∃ a,T0 a)∨(∃ a,T1 a):=by
 obtain ⟨x,h2,h3⟩:=Option.bind_eq_some_iff.1 h
 match x,h2,h3 with
 | .inl a,h2,h3=>exact .inl ⟨a,p0 a h2 h3⟩
 | .inr a,h2,h3=>exact .inr (⟨a,p1 a h2 h3⟩)
theorem Z9{b0 b1 b2 R:Type}{m:Option (b0⊕(b1⊕b2))}{K:b0⊕(b1⊕b2)→Option R}{r:R}{T0:b0→Prop}{T1:b1→Prop}{T2:b2→Prop}(h:m.bind K=some r)(p0:∀ a,m=some (.inl a)→K (.inl a)=some r→T0 a)(p1:∀ a,m=some (.inr (.inl a))→K (.inr (.inl a))=some r→T1 a)(p2:∀ a,m=some (.inr (.inr a))→K (.inr (.inr a))=some r→T2 a):(∃ a,T0 a)∨(∃ a,T1 a)∨(∃ a,T2 a):=by
 obtain ⟨x,h2,h3⟩:=Option.bind_eq_some_iff.1 h
 match x,h2,h3 with
 | .inl a,h2,h3=>exact .inl ⟨a,p0 a h2 h3⟩
 | .inr (.inl a),h2,h3=>exact .inr (.inl ⟨a,p1 a h2 h3⟩)
 | .inr (.inr a),h2,h3=>exact .inr (.inr (⟨a,p2 a h2 h3⟩))
theorem aaa{b0 b1 b2 b3 R:Type}{m:Option (b0⊕(b1⊕(b2⊕b3)))}{K:b0⊕(b1⊕(b2⊕b3))→Option R}{r:R}{T0:b0→Prop}{T1:b1→Prop}{T2:b2→Prop}{T3:b3→Prop}(h:m.bind K=some r)(p0:∀ a,m=some (.inl a)→K (.inl a)=some r→T0 a)(p1:∀ a,m=some (.inr (.inl a))→K (.inr (.inl a))=some r→T1 a)(p2:∀ a,m=some (.inr (.inr (.inl a)))→K (.inr (.inr (.inl a)))=some r→T2 a)(p3:∀ a,m=some (.inr (.inr (.inr a)))→K (.inr (.inr (.inr a)))=some r→T3 a):(∃ a,T0 a)∨(∃ a,T1 a)∨(∃ a,T2 a)∨(∃ a,T3 a):=by
 obtain ⟨x,h2,h3⟩:=Option.bind_eq_some_iff.1 h
 match x,h2,h3 with
 | .inl a,h2,h3=>exact .inl ⟨a,p0 a h2 h3⟩
 | .inr (.inl a),h2,h3=>exact .inr (.inl ⟨a,p1 a h2 h3⟩)
 | .inr (.inr (.inl a)),h2,h3=>exact .inr (.inr (.inl ⟨a,p2 a h2 h3⟩))
 | .inr (.inr (.inr a)),h2,h3=>exact .inr (.inr (.inr (⟨a,p3 a h2 h3⟩)))
theorem aab{b0 b1 b2 b3 b4 R:Type}{m:Option (b0⊕(b1⊕(b2⊕(b3⊕b4))))}{K:b0⊕(b1⊕(b2⊕(b3⊕b4)))→Option R}{r:R}{T0:b0→Prop}{T1:b1→Prop}{T2:b2→Prop}{T3:b3→Prop}{T4:b4→Prop}(h:m.bind K=some r)(p0:∀ a,m=some (.inl a)→K (.inl a)=some r→T0 a)(p1:∀ a,m=some (.inr (.inl a))→K (.inr (.inl a))=some r→T1 a)(p2:∀ a,m=some (.inr (.inr (.inl a)))→K (.inr (.inr (.inl a)))=some r→T2 a)(p3:∀ a,m=some (.inr (.inr (.inr (.inl a))))→K (.inr (.inr (.inr (.inl a))))=some r→T3 a)(p4:∀ a,m=some (.inr (.inr (.inr (.inr a))))→K (.inr (.inr (.inr (.inr a))))=some r→T4 a):(∃ a,T0 a)∨(∃ a,T1 a)∨(∃ a,T2 a)∨(∃ a,T3 a)∨(∃ a,T4 a):=by
 obtain ⟨x,h2,h3⟩:=Option.bind_eq_some_iff.1 h
 match x,h2,h3 with
 | .inl a,h2,h3=>exact .inl ⟨a,p0 a h2 h3⟩
 | .inr (.inl a),h2,h3=>exact .inr (.inl ⟨a,p1 a h2 h3⟩)
 | .inr (.inr (.inl a)),h2,h3=>exact .inr (.inr (.inl ⟨a,p2 a h2 h3⟩))
 | .inr (.inr (.inr (.inl a))),h2,h3=>exact .inr (.inr (.inr (.inl ⟨a,p3 a h2 h3⟩)))
 | .inr (.inr (.inr (.inr a))),h2,h3=>exact .inr (.inr (.inr (.inr (⟨a,p4 a h2 h3⟩))))
theorem lY{R V:Type}{Y:R→V}{a r:R}(h:some a=some r):Y a=Y r:=by rw [Option.some.inj h]
theorem Xs{α ε:Type}{E:Env}{l:bY}{S:α→St}{X:ε→aR×St}{v:α}{o:α⊕ε}{T:Prop}(a:AT)(h:T)(he:T=cW G Ω0 E l.x (S v) a fun e s _=>N4 l.kf l.kb e s=Fx S X o):bI E l S X v o:=by
 obtain ⟨e,s,_,h1,h2⟩:=rK l.x (he▸h)
 cases o with
 | inl w=>
  cases e with
  | nrm=>
   have h3:s.bw l.kf l.kb=S w:=Sum.inl.inj h2
   show (run G Ω0 E l.x (S v)).bind (kept l)=some (S w)
   rw [h1,←h3];rfl
  | ret=>cases h2
  | ex id=>cases h2
 | inr x=>
  cases e with
  | nrm=>cases h2
  | ret=>
   have h3:(aR.ret,s)=X x:=Sum.inr.inj h2
   exact ⟨by rw [h1,h3],by rw [←h3];exact SO⟩
  | ex id=>
   have h3:(aR.ex id,s)=X x:=Sum.inr.inj h2
   exact ⟨by rw [h1,h3],by rw [←h3];exact Xr _⟩
theorem cO{E:Env}{f:FuncId}{ys:List AV}{x:AV}{dp:Nat}{bx:List (Nat×List AV)}{hp:HP}{k:Key}{c c':List AV}(hk:k.dp<dp)(h:call G Ω0 E f ys (ad (boxes dp bx (ad hp k c)) k c)=some (.ret x,ad (boxes dp bx (ad hp k c)) k c')):call G Ω0 E f ys (boxes dp bx (ad hp k c))=some (.ret x,boxes dp bx (ad hp k c')):=
 cT (bN (Nat.ne_of_lt hk) (bh ..)) (bN (Nat.ne_of_lt hk) (bh ..)) h
theorem YS{dp:Nat}{bx:List (Nat×List AV)}{hp:HP}{k0 k1:Key}{a b a' b':List AV}(h0:k0.dp<dp)(h1:k1.dp<dp)(n01:k0≠k1) :
  ad (ad (boxes dp bx (ad (ad hp k0 a) k1 b)) k0 a') k1 b'=boxes dp bx (ad (ad hp k0 a') k1 b'):=
 fj (bN (Nat.ne_of_lt h0) (bU (Ne.symm n01) (bh ..))) (bN (Nat.ne_of_lt h1) (bh ..))
theorem YT{dp:Nat}{bx:List (Nat×List AV)}{hp:HP}{k0 k1 k2:Key}{a b c a' b' c':List AV}(h0:k0.dp<dp)(h1:k1.dp<dp)(h2:k2.dp<dp)(n01:k0≠k1)(n02:k0≠k2)(n12:k1≠k2) :
  ad (ad (ad (boxes dp bx (ad (ad (ad hp k0 a) k1 b) k2 c)) k0 a') k1 b') k2 c'=boxes dp bx (ad (ad (ad hp k0 a') k1 b') k2 c'):=
 fj (fj (bN (Nat.ne_of_lt h0) (bU (Ne.symm n02) (bU (Ne.symm n01) (bh ..)))) (bN (Nat.ne_of_lt h1) (bU (Ne.symm n12) (bh ..)))) (bN (Nat.ne_of_lt h2) (bh ..))
theorem N5{E:Env}{f:FuncId}{ys:List AV}{x:AV}{dp:Nat}{bx:List (Nat×List AV)}{hp:HP}{k0 k1:Key}{a b a' b':List AV}(h0:k0.dp<dp)(h1:k1.dp<dp)(n01:k0≠k1)(h:call G Ω0 E f ys (ad (ad (boxes dp bx (ad (ad hp k0 a) k1 b)) k0 a) k1 b)=some (.ret x,ad (ad (boxes dp bx (ad (ad hp k0 a) k1 b)) k0 a') k1 b')) :
  call G Ω0 E f ys (boxes dp bx (ad (ad hp k0 a) k1 b))=some (.ret x,boxes dp bx (ad (ad hp k0 a') k1 b')):=cT (YS h0 h1 n01) (YS h0 h1 n01) h
theorem iH{E:Env}{f:FuncId}{ys:List AV}{x:AV}{dp:Nat}{bx:List (Nat×List AV)}{hp:HP}{k0 k1 k2:Key}{a b c a' b' c':List AV}(h0:k0.dp<dp)(h1:k1.dp<dp)(h2:k2.dp<dp)(n01:k0≠k1)(n02:k0≠k2)(n12:k1≠k2)(h:call G Ω0 E f ys (ad (ad (ad (boxes dp bx (ad (ad (ad hp k0 a) k1 b) k2 c)) k0 a) k1 b) k2 c)=some (.ret x,ad (ad (ad (boxes dp bx (ad (ad (ad hp k0 a) k1 b) k2 c)) k0 a') k1 b') k2 c')) :
  call G Ω0 E f ys (boxes dp bx (ad (ad (ad hp k0 a) k1 b) k2 c))=some (.ret x,boxes dp bx (ad (ad (ad hp k0 a') k1 b') k2 c')):=cT (YT h0 h1 h2 n01 n02 n12) (YT h0 h1 h2 n01 n02 n12) h
theorem FX{hp:HP}{k0 k1:Key}{a b:List AV}(n01:k0≠k1):(ad (ad hp k0 a) k1 b) k0=some a:=(B6 n01).trans (aG ..)
theorem cE{hp:HP}{k0 k1 k2:Key}{a b c:List AV}(n01:k0≠k1)(n02:k0≠k2):(ad (ad (ad hp k0 a) k1 b) k2 c) k0=some a:=(B6 n02).trans (FX n01)
theorem qC{α ε:Type}{B:α→Option (α⊕ε)}(n:Nat)(f:Nat→α){x:ε}(hs:∀ k,k<n→B (f k)=some (.inl (f (k+1))))(he:B (f n)=some (.inr x)):lp B (f 0)=some x:=by
 have:∀ m k,k+m=n→lp B (f k)=some x:=by
  intro m
  induction m with
  | zero=>
    intro k hk;obtain rfl:k=n:=by omega
    exact iG he
  | succ m ih=>intro k hk;rw [ly (hs k (by omega))];exact ih (k+1) (by omega)
 exact this n 0 (by omega)
theorem fU{α ε:Type}{B:α→Option (α⊕ε)}(m:α→Nat)(Inv:α→Prop)(Q:ε→Prop)(step:∀ a,Inv a→(∃ x,B a=some (.inr x)∧Q x)∨∃ b,B a=some (.inl b)∧Inv b∧m b<m a):∀ a,Inv a→∃ x,lp B a=some x∧Q x:=by
 have:∀ n a,m a<n→Inv a→∃ x,lp B a=some x∧Q x:=by
  intro n
  induction n with
  | zero=>intro a h;omega
  | succ n ih=>
   intro a h hi
   rcases step a hi with ⟨x,h1,h2⟩ | ⟨b,h1,h2,h3⟩
   ·exact ⟨x,iG h1,h2⟩
   ·rw [ly h1];exact ih b (by omega) h2
 exact fun a=>this (m a+1) a (Nat.lt_succ_self _)
theorem MD{t:TypeId}{n:Int}(h:0≤n∧n≤1000000):n8 t [.n,.i .i64 n]=some (.o t []):=by
 simp [n8,h.1,h.2]
theorem cL{E:Env}{f:FuncId}{ys:List AV}{dp:Nat}{bx bx':List (Nat×List AV)}{hp hp':HP}{y:aW}(_:call G Ω0 E f ys (boxes dp bx hp)=some (y,boxes dp bx' hp'))(h:bx'.map Prod.fst=bx.map Prod.fst)(hn:yX (bx.map Prod.fst)=true):iR dp (boxes dp bx' hp') bx=bx':=Hx h hn
theorem cM{E:Env}{f:FuncId}{ys:List AV}{dp:Nat}{bx bx':List (Nat×List AV)}{hp hp':HP}{y:aW}(_:call G Ω0 E f ys (boxes dp bx hp)=some (y,boxes dp bx' hp'))(hz:aN dp hp'):(fun k:Key=>if k.dp<dp then boxes dp bx' hp' k else none)=hp':=Kx hz
theorem g1{x y:Bool}(h:x=y):(x==true)=(y==true):=congrArg (fun z=>z==true) h
theorem g0{x y:Bool}(h:x=y):(x==false)=(y==false):=congrArg (fun z=>z==false) h
theorem wE{α:Type}{ts:List TypeId}{f:α→AV}(h:∀ x,(f x).off ts=true):∀ l:List α,AV.pT ts (l.map f)=true
 | []=>rfl
 | x::l=>by simp only [List.map_cons,AV.pT,h x,wE h l,Bool.and_self]
theorem ME(ts:List TypeId)(k:IntKind)(l:List Int):AV.pT ts (l.map (AV.i k))=true:=wE (fun _=>by simp only [AV.off]) l
theorem MF(ts:List TypeId)(l:List Bool):AV.pT ts (l.map AV.b)=true:=wE (fun _=>by simp only [AV.off]) l
theorem MG(ts:List TypeId)(l:List (List UInt8)):AV.pT ts (l.map AV.s)=true:=wE (fun _=>by simp only [AV.off]) l
noncomputable def ev{α:Type}(x:Nat→Option α):Option α:=open Classical in if h:∃ r,∃ n0,∀ n,n0≤n→x n=some r then some (Classical.choose h) else none
theorem qh{α:Type}{x:Nat→Option α}{r:α}(h:ev x=some r):∃ n,x n=some r:=by
 unfold ev at h
 split at h
 ·rename_i hex
  obtain ⟨n0,hn⟩:=Classical.choose_spec hex
  exact ⟨n0,by rw [hn n0 (Nat.le_refl _)];exact h⟩
 ·cases h
theorem vB{α:Type}{x:Nat→Option α}{r:α}(n0:Nat)(h:∀ n,n0≤n→x n=some r):ev x=some r:=by
 unfold ev
 have hex:∃ r,∃ n0,∀ n,n0≤n→x n=some r:=⟨r,n0,h⟩
 rw [dif_pos hex]
 obtain ⟨n1,h1⟩:=Classical.choose_spec hex
 have:=h1 (max n0 n1) (Nat.le_max_right _ _)
 rw [h (max n0 n1) (Nat.le_max_left _ _)] at this
 exact this.symm
def Jh(b:Bool)(n:Int):Option (List Bool):=if 0≤n∧n≤1000000 then some (List.replicate n.toNat b) else none
theorem OO{t u:TypeId}{b:Bool}{n:Int}{r:List Bool}(h:Jh b n=some r):rh t [.l u [.b b],.i .i64 n]=some (.l t (r.map AV.b)):=by
 unfold Jh at h
 split at h
 ·rename_i hn
  obtain rfl:=Option.some.inj h
  simp only [rh,if_pos hn,List.map_replicate]
 ·cases h
theorem aK{R:Type}{E:Env}{f:FuncId}{fn:bE}{ys:List AV}{hp:HP}{Y:R→aW×HP}{r:R}{T:Prop}(hG:G f=some fn)(a:AT)(h:(∀ {a:R},some a=some r→Y a=Y r)→T)(he:T=Jf G Ω0 E fn ys hp a fun y h=>(aW.ret y,h)=Y r:=by kernel_rfl):call G Ω0 E f ys hp=some (Y r):=Xo hG a (h lY) he
theorem Ie{R:Type}{E:Env}{f:FuncId}{fn:bE}{ys:List AV}{hp:HP}{Y:R→aW×HP}{r:R}{T:Prop}(hG:G f=some fn)(a:AT)(h:(∀ {a:R},some a=some r→Y a=Y r)→T)(he:T=FN G Ω0 E fn ys hp a fun y h=>(aW.new y,h)=Y r:=by kernel_rfl):call G Ω0 E f ys hp=some (Y r):=SN hG a (h lY) he
theorem tc{R:Type}{E:Env}{c:AC}{st:St}{Y:R→aR×St}{r:R}{T:Prop}(a:AT)(h:(∀ {a:R},some a=some r→Y a=Y r)→T)(he:T=cW G Ω0 E c st a fun e s _=>(e,s)=Y r:=by kernel_rfl):run G Ω0 E c st=some (Y r):=runT a (h lY) he
theorem kC{R:Type}{E:Env}{kf kb:List Nat}{gs:List dM}{st:St}{Y:R→St}{r:R}{T:Prop}(a:AT)(h:(∀ {a:R},some a=some r→Y a=Y r)→T)(he:T=yV G Ω0 E kf kb st gs a fun s _=>s=Y r:=by kernel_rfl):lx G Ω0 E kf kb gs st=some (Y r):=Xp a (h lY) he
theorem FY{R:Type}{E:Env}{kf kb:List Nat}{gs:List bQ}{st:St}{Y:R→St}{r:R}{T:Prop}(a:AT)(h:(∀ {a:R},some a=some r→Y a=Y r)→T)(he:T=yW G Ω0 E kf kb st gs a fun s _=>s=Y r:=by kernel_rfl):xv G Ω0 E kf kb gs st=some (Y r):=Xq a (h lY) he
theorem bP{α ε:Type}{E:Env}{l:bY}{S:α→St}{X:ε→aR×St}{v:α}{o:α⊕ε}{T:Prop}(a:AT)(h:(∀ {a:α⊕ε},some a=some o→Fx S X a=Fx S X o)→T)(he:T=cW G Ω0 E l.x (S v) a fun e s _=>N4 l.kf l.kb e s=Fx S X o:=by kernel_rfl):bI E l S X v o:=Xs a (h lY) he
theorem aQ{Q R:Type}{m:Option Q}{k:Q→Option R}{r:R}{O T:Q→Prop}(h:m.bind k=some r)(l:∀ x,m=some x→O x)(h1:∀ x,k x=some r→T x):∃ x,O x∧T x:=aP h fun x e h=>⟨l x e,h1 x h⟩
theorem cN{b0 b1 R:Type}{m:Option (b0⊕b1)}{K:b0⊕b1→Option R}{r:R}{O:b0⊕b1→Prop}{T0:b0→Prop}{T1:b1→Prop}(h:m.bind K=some r)(l:∀ x,m=some x→O x)(p0:∀ a,K (.inl a)=some r→T0 a)(p1:∀ a,K (.inr a)=some r→T1 a):(∃ a,O (.inl a)∧T0 a)∨(∃ a,O (.inr a)∧T1 a):=Z8 h (fun a e h=>⟨l _ e,p0 a h⟩) (fun a e h=>⟨l _ e,p1 a h⟩)
theorem N6{b0 b1 b2 R:Type}{m:Option (b0⊕(b1⊕b2))}{K:b0⊕(b1⊕b2)→Option R}{r:R}{O:b0⊕(b1⊕b2)→Prop}{T0:b0→Prop}{T1:b1→Prop}{T2:b2→Prop}(h:m.bind K=some r)(l:∀ x,m=some x→O x)(p0:∀ a,K (.inl a)=some r→T0 a)(p1:∀ a,K (.inr (.inl a))=some r→T1 a)(p2:∀ a,K (.inr (.inr a))=some r→T2 a):(∃ a,O (.inl a)∧T0 a)∨(∃ a,O (.inr (.inl a))∧T1 a)∨(∃ a,O (.inr (.inr a))∧T2 a):=Z9 h (fun a e h=>⟨l _ e,p0 a h⟩) (fun a e h=>⟨l _ e,p1 a h⟩) (fun a e h=>⟨l _ e,p2 a h⟩)
theorem N7{b0 b1 b2 b3 R:Type}{m:Option (b0⊕(b1⊕(b2⊕b3)))}{K:b0⊕(b1⊕(b2⊕b3))→Option R}{r:R}{O:b0⊕(b1⊕(b2⊕b3))→Prop}{T0:b0→Prop}{T1:b1→Prop}{T2:b2→Prop}{T3:b3→Prop}(h:m.bind K=some r)(l:∀ x,m=some x→O x)(p0:∀ a,K (.inl a)=some r→T0 a)(p1:∀ a,K (.inr (.inl a))=some r→T1 a)(p2:∀ a,K (.inr (.inr (.inl a)))=some r→T2 a)(p3:∀ a,K (.inr (.inr (.inr a)))=some r→T3 a):(∃ a,O (.inl a)∧T0 a)∨(∃ a,O (.inr (.inl a))∧T1 a)∨(∃ a,O (.inr (.inr (.inl a)))∧T2 a)∨(∃ a,O (.inr (.inr (.inr a)))∧T3 a):=aaa h (fun a e h=>⟨l _ e,p0 a h⟩) (fun a e h=>⟨l _ e,p1 a h⟩) (fun a e h=>⟨l _ e,p2 a h⟩) (fun a e h=>⟨l _ e,p3 a h⟩)
theorem aa7{b0 b1 b2 b3 b4 R:Type}{m:Option (b0⊕(b1⊕(b2⊕(b3⊕b4))))}{K:b0⊕(b1⊕(b2⊕(b3⊕b4)))→Option R}{r:R}{O:b0⊕(b1⊕(b2⊕(b3⊕b4)))→Prop}{T0:b0→Prop}{T1:b1→Prop}{T2:b2→Prop}{T3:b3→Prop}{T4:b4→Prop}(h:m.bind K=some r)(l:∀ x,m=some x→O x)(p0:∀ a,K (.inl a)=some r→T0 a)(p1:∀ a,K (.inr (.inl a))=some r→T1 a)(p2:∀ a,K (.inr (.inr (.inl a)))=some r→T2 a)(p3:∀ a,K (.inr (.inr (.inr (.inl a))))=some r→T3 a)(p4:∀ a,K (.inr (.inr (.inr (.inr a))))=some r→T4 a):(∃ a,O (.inl a)∧T0 a)∨(∃ a,O (.inr (.inl a))∧T1 a)∨(∃ a,O (.inr (.inr (.inl a)))∧T2 a)∨(∃ a,O (.inr (.inr (.inr (.inl a))))∧T3 a)∨(∃ a,O (.inr (.inr (.inr (.inr a))))∧T4 a):=aab h (fun a e h=>⟨l _ e,p0 a h⟩) (fun a e h=>⟨l _ e,p1 a h⟩) (fun a e h=>⟨l _ e,p2 a h⟩) (fun a e h=>⟨l _ e,p3 a h⟩) (fun a e h=>⟨l _ e,p4 a h⟩)
theorem ef{α ε:Type}{E:Env}{B:α→Option (α⊕ε)}{l:bY}{S:α→St}{X:ε→aR×St}(hb:∀ v o,B v=some o→bI E l S X v o)(v:α)(x:ε)(h:lp B v=some x)(hk:∀ v,(S v).bw l.kf l.kb=S v:=by exact fun _=>rfl):Dn G Ω0 E l (S v)=some (X x):=OL l S X hk hb h
theorem rI(n:Nat):(n:Int)=(n:Int):=rfl
theorem rN(n:Nat):n=n:=rfl
theorem YU{k:Key}{dp:Nat}(h:k.dp<dp)(ns:List Nat):(a6 dp ns (.p k 0)&&okB dp [] (.p k 0))=true:=by simp [a6,okB,cu,AV.aI,AV.aJ,AV.bO,aj h]
abbrev xB(f:Bool→AT):AT:=.ex fun r=>ao (.v (.b r)) (f r)
abbrev xI(f:Int→AT):AT:=.ex fun r=>ao (.v (I r)) (f r)
abbrev xN(f:Nat→AT):AT:=.ex fun r=>ao (.n r) (f r)
abbrev oN(r:AT):AT:=.or (bt .nil) (bf r)
theorem sZ{p:Prop}{q:Prop}(H:q)(h:p):q∧Z0∧p:=⟨H,rfl,h⟩
theorem EG{p:Prop}{x y:Bool}(H:x=y)(h:p):(x==false)=(y==false)∧(x==false)=(y==false)∧(x==false)=(y==false)∧p:=⟨g0 H,g0 H,g0 H,h⟩
theorem Ky{p:Prop}{x y:Bool}(H:x=y)(h:p):(x==false)=(y==false)∧(x==false)=(y==false)∧Z0∧(x==false)=(y==false)∧p:=⟨g0 H,g0 H,rfl,g0 H,h⟩
theorem EH{p:Prop}{x y:Bool}(H:x=y)(h:p):(x==false)=(y==false)∧(x==false)=(y==false)∧(x==false)=(y==false)∧(x==false)=(y==false)∧x=y∧p:=⟨g0 H,g0 H,g0 H,g0 H,H,h⟩
theorem Ig{p:Prop}{x y:Bool}(H:x=y)(h:p):(x==true)=(y==true)∧(x==true)=(y==true)∧(x==true)=(y==true)∧p:=⟨g1 H,g1 H,g1 H,h⟩
theorem FZ{p:Prop}(h:p):true=true∧false=false∧Z0∧true=true∧Z0∧Z0∧p:=⟨rfl,rfl,rfl,rfl,rfl,rfl,h⟩
theorem sf{p:Prop}(h:p):true=true∧true=true∧true=true∧p:=⟨rfl,rfl,rfl,h⟩
theorem qD{p:Prop}{x y:Bool}(H:x=y)(h:p):(x==true)=(y==true)∧(x==true)=(y==true)∧x=y∧p:=⟨g1 H,g1 H,H,h⟩
theorem Ih{p:Prop}{x y:Bool}(H:x=y)(h:p):(x==true)=(y==true)∧x=y∧p:=⟨g1 H,H,h⟩
theorem tU{p:Prop}{x y:Bool}(H:x=y)(h:p):(x==false)=(y==false)∧x=y∧p:=⟨g0 H,H,h⟩
theorem Ji{p:Prop}(h:p):false=false∧Z0∧true=true∧Z0∧Z0∧p:=⟨rfl,rfl,rfl,rfl,rfl,h⟩
theorem cF{p:Prop}(h:p):true=true∧true=true∧p:=⟨rfl,rfl,h⟩
theorem eY{p:Prop}(h:p):false=false∧true=true∧p:=⟨rfl,rfl,h⟩
theorem sL{p:Prop}{x y:Bool}(H:x=y)(h:p):(x==false)=(y==false)∧(x==false)=(y==false)∧p:=⟨g0 H,g0 H,h⟩
theorem A7{p:Prop}{x y:Bool}(H:x=y)(h:p):(x==false)=(y==false)∧(x==false)=(y==false)∧false=false∧true=true∧p:=⟨g0 H,g0 H,rfl,rfl,h⟩
theorem MH{p:Prop}{x y:Bool}(H:x=y)(h:p):(x==false)=(y==false)∧(x==false)=(y==false)∧(x==false)=(y==false)∧(x==false)=(y==false)∧(x==false)=(y==false)∧(x==false)=(y==false)∧(x==false)=(y==false)∧x=y∧true=true∧p:=⟨g0 H,g0 H,g0 H,g0 H,g0 H,g0 H,g0 H,H,rfl,h⟩
theorem MI{p:Prop}{x y:Bool}(H:x=y)(h:p):(x==false)=(y==false)∧(x==false)=(y==false)∧(x==false)=(y==false)∧(x==false)=(y==false)∧(x==false)=(y==false)∧(x==false)=(y==false)∧(x==false)=(y==false)∧x=y∧(true==false)=false∧(true==false)=false∧(true==false)=false∧(true==false)=false∧(true==false)=false∧(true==false)=false∧(true==false)=false∧true=true∧true=true∧p:=⟨g0 H,g0 H,g0 H,g0 H,g0 H,g0 H,g0 H,H,rfl,rfl,rfl,rfl,rfl,rfl,rfl,rfl,rfl,h⟩
theorem F0{p:Prop}{x y:Bool}(H:x=y)(h:p):(x==true)=(y==true)∧(x==true)=(y==true)∧(x==true)=(y==true)∧(x==true)=(y==true)∧(x==true)=(y==true)∧x=y∧p:=⟨g1 H,g1 H,g1 H,g1 H,g1 H,H,h⟩
theorem yY{p:Prop}{x y:Bool}(H:x=y)(h:p):(x==true)=(y==true)∧(x==true)=(y==true)∧p:=⟨g1 H,g1 H,h⟩
theorem Jj{p:Prop}{x y:Bool}(H:x=y)(h:p):(x==true)=(y==true)∧(x==true)=(y==true)∧(x==true)=(y==true)∧(x==true)=(y==true)∧p:=⟨g1 H,g1 H,g1 H,g1 H,h⟩
theorem oT{p:Prop}(h:p):true=true∧true=true∧true=true∧true=true∧true=true∧p:=⟨rfl,rfl,rfl,rfl,rfl,h⟩
theorem F1{p:Prop}{q:Prop}(H:q)(h:p):q∧true=true∧true=true∧p:=⟨H,rfl,rfl,h⟩
theorem A8{p:Prop}{q:Prop}(H:q)(h:p):q∧true=true∧true=true∧true=true∧true=true∧p:=⟨H,rfl,rfl,rfl,rfl,h⟩
theorem lz{p:Prop}(h:p):true=true∧true=true∧true=true∧true=true∧p:=⟨rfl,rfl,rfl,rfl,h⟩
theorem A9{p:Prop}{q:Prop}(H:q)(h:p):q∧true=true∧true=true∧true=true∧p:=⟨H,rfl,rfl,rfl,h⟩
theorem xy{p:Prop}(h:p):true=true∧false=false∧true=true∧p:=⟨rfl,rfl,rfl,h⟩
theorem MJ{p:Prop}{x y:Bool}(H:x=y)(h:p):(x==true)=(y==true)∧(x==true)=(y==true)∧Z0∧(x==true)=(y==true)∧(x==true)=(y==true)∧Z0∧(x==true)=(y==true)∧p:=⟨g1 H,g1 H,rfl,g1 H,g1 H,rfl,g1 H,h⟩
theorem Jk{p:Prop}{x y:Bool}(H:x=y)(h:p):(x==true)=(y==true)∧(x==true)=(y==true)∧Z0∧(x==true)=(y==true)∧(x==true)=(y==true)∧Z0∧(x==true)=(y==true)∧x=y∧p:=⟨g1 H,g1 H,rfl,g1 H,g1 H,rfl,g1 H,H,h⟩
abbrev du(r:AT):AT:=bt<|bt r
abbrev dE(r:AT):AT:=bt<|bt<|bt r
abbrev kD(r:AT):AT:=bt<|bf r
abbrev qE(r:AT):AT:=bt<|bt<|bt<|bt<|bt r
abbrev sg(r:AT):AT:=bf<|bt r
abbrev tV(r:AT):AT:=bt<|bt<|bt<|bt r
abbrev B9(r:AT):AT:=bf<|bf<|bf r
abbrev EI(r:AT):AT:=bf<|bf<|bf<|bf<|bt r
abbrev Ii(r:AT):AT:=bt<|bt<|bt<|bt<|bf r
abbrev Ij(r:AT):AT:=bf<|bf<|bf<|bf<|bf<|bf r
abbrev Dy(r:AT):AT:=bt<|bt<|bt<|bf r
abbrev F2(r:AT):AT:=bt<|bt<|bt<|bt<|bt<|bt<|bf r
abbrev Jl(r:AT):AT:=bf<|bf<|bf<|bt<|bf<|bf r
abbrev Jm(r:AT):AT:=bt<|bt<|bt<|bt<|bt<|bt r
abbrev Jn(r:AT):AT:=bt<|bt<|bt<|bt<|bt<|bt<|bt<|bt r
abbrev MK(r:AT):AT:=bf<|bf<|bf<|bf<|bf<|bf<|bf r
abbrev ML(r:AT):AT:=bf<|bf<|bf<|bt<|bt r
abbrev MN(r:AT):AT:=bf<|bf<|bf<|bf<|bf<|bf<|bf<|bt<|bt r
abbrev MO(r:AT):AT:=bf<|bf<|bf<|bf<|bf<|bf<|bf<|bt<|bf<|bf<|bf<|bf<|bf<|bf<|bf<|bt<|bt r
abbrev MP(r:AT):AT:=bf<|bf<|bf<|bf<|bt<|bf<|bf r
abbrev MQ(r:AT):AT:=bt<|bt<|bt<|bt<|bt<|bt<|bt r
abbrev SP(r:AT):AT:=bf<|bf<|bf<|bf<|bf<|bf<|bf<|bf<|bf<|bf<|bf r
abbrev SQ(r:AT):AT:=bt<|bt<|bt<|bt<|bt<|bt<|bt<|bt<|bt<|bt r
abbrev SS(r:AT):AT:=bf<|bf<|bf<|bf<|bf<|bf<|bf<|bf<|bf<|bf<|bf<|bf r
end Go.Proofs.YtdpjofmmokaobaaGreat.A
