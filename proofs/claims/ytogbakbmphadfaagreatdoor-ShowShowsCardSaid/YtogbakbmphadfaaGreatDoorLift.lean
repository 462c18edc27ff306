/- Plain functions: loops as least fixed points, and how what they answer is told of the abstract run. -/
import Derived.Test.YtogbakbmphadfaaGreatDoorBase
set_option linter.unusedSectionVars false
set_option linter.unusedVariables false
set_option linter.unusedSimpArgs false
set_option linter.constructorNameAsVariable false
namespace Go.Proofs.YtogbakbmphadfaaGreatDoor.A
open Go
def pH{α ε:Type}(B:α→Option (α⊕ε)):Nat→α→Option ε
 | 0,_=>none
 | n+1,v=>match B v with
  | some (.inl w)=>pH B n w
  | some (.inr x)=>some x
  | none=>none
class Lp where
 run : {α ε:Type}→(α→Option (α⊕ε))→α→Option ε
 sound:∀ {α ε:Type}{B:α→Option (α⊕ε)}{v:α}{x:ε},run B v=some x→∃ n,pH B n v=some x
 told:∀ {α ε:Type}{B:α→Option (α⊕ε)}{v:α}{x:ε}(n:Nat),pH B n v=some x→run B v=some x
abbrev lp[Lp]{α ε:Type}(B:α→Option (α⊕ε))(v:α):Option ε:=Lp.run B v
theorem zj[Lp]{α ε:Type}{B:α→Option (α⊕ε)}{v:α}{x:ε}(h:lp B v=some x):∃ n,pH B n v=some x:=Lp.sound h
theorem H7[Lp]{α ε:Type}{B:α→Option (α⊕ε)}{v:α}{x:ε}(n:Nat)(h:pH B n v=some x):lp B v=some x:=Lp.told n h
theorem EX{α ε:Type}{B:α→Option (α⊕ε)} : ∀ {n:Nat}{v:α}{x:ε},pH B n v=some x→pH B (n+1) v=some x
 | 0,_,_,h=>by cases h
 | n+1,v,x,h=>by
  rw [pH] at h ⊢
  split at h
  ·exact EX h
  ·exact h
  ·exact h
theorem Ji{α ε:Type}{B:α→Option (α⊕ε)}{n m:Nat}{v:α}{x:ε}(hm:n≤m)(h:pH B n v=some x):pH B m v=some x:=by
 induction hm with
 | refl=>exact h
 | step _ ih=>exact EX ih
theorem MR{α ε:Type}{B:α→Option (α⊕ε)}{n m:Nat}{v:α}{x y:ε}(h:pH B n v=some x)(h':pH B m v=some y):x=y:=by
 have h1:=Ji (Nat.le_max_left n m) h
 rw [Ji (Nat.le_max_right n m) h'] at h1
 exact (Option.some.inj h1).symm
theorem Jj:Nonempty Lp:=by
 refine ⟨⟨fun {α ε} B v=>open Classical in if h:∃ n,(pH B n v).isSome then pH B h.choose v else none,fun {α ε B v x} h=>?_,fun {α ε B v x} n h=>?_⟩⟩
 ·split at h
  ·rename_i hn;exact ⟨_,h⟩
  ·cases h
 ·have hn:∃ n,(pH B n v).isSome:=⟨n,by rw [h];rfl⟩
  rw [dif_pos hn]
  have:=hn.choose_spec
  obtain ⟨y,hy⟩:=Option.isSome_iff_exists.1 this
  rw [hy,MR hy h]
variable [Lp]
section
variable {α ε:Type}{B:α→Option (α⊕ε)}
theorem bZ{v:α}{x:ε}(h:B v=some (.inr x)):lp B v=some x:=H7 1 (by rw [pH,h])
theorem de{v w:α}(h:B v=some (.inl w)):lp B v=lp B w:=by
 cases hw:lp B w with
 | some x=>obtain ⟨n,hn⟩:=zj hw;exact H7 (n+1) (by rw [pH,h];exact hn)
 | none=>
  cases hv:lp B v with
  | none=>rfl
  | some x=>
   obtain ⟨n,hn⟩:=zj hv
   cases n with
   | zero=>cases hn
   | succ n=>rw [pH,h] at hn;rw [H7 n hn] at hw;cases hw
end
def bH{α ε:Type}(E:Env)(l:bq)(S:α→St)(X:ε→aK×St)(v:α):α⊕ε→Prop
 | .inl w=>(run G Ω0 E l.x (S v)).bind (kept l)=some (S w)
 | .inr x=>run G Ω0 E l.x (S v)=some (X x)∧(X x).1≠.nrm
theorem MS{α ε:Type}{E:Env}{B:α→Option (α⊕ε)}(l:bq)(S:α→St)(X:ε→aK×St)(hk:∀ v,(S v).bw l.kf l.kb=S v)(hb:∀ v o,B v=some o→bH E l S X v o){v:α}{x:ε}(h:lp B v=some x):Bw G Ω0 E l (S v)=some (X x):=by
 obtain ⟨n,hn⟩:=zj h
 clear h
 induction n generalizing v with
 | zero=>cases hn
 | succ n ih=>
  rw [pH] at hn
  split at hn
  ·rename_i w hw
   rw [I1 (by rw [hk];exact hb v _ hw)]
   exact ih hn
  ·rename_i y hy
   obtain rfl:=Option.some.inj hn
   obtain ⟨h1,h2⟩:=hb v _ hy
   exact J9 (by rw [hk];exact h1) h2
  ·cases hn
def boxes(dp:Nat)(bx:List (Nat×List AV))(hp:HP):HP:=fun k=>if k.dp=dp then az bx k.d else hp k
theorem P9{hp:HP}{k k':Key}{cs:List AV}(h:k≠k'):aB hp k' cs k=hp k:=by simp only [aB,if_neg h]
theorem MT{dp:Nat}{bx:List (Nat×List AV)}{hp:HP}{k:Key}{c:List AV}(h:k.dp≠dp):aB (boxes dp bx hp) k c=boxes dp bx (aB hp k c):=by
 funext q
 simp only [aB,boxes]
 by_cases h1:q=k
 ·subst h1;simp [h]
 ·simp [h1]
theorem H8{bx:List (Nat×List AV)}{d d':Nat}{c:List AV}(h:(az bx d).isSome=true):az (hY bx d c) d'=if d'=d then some c else az bx d':=by
 induction bx with
 | nil=>simp [az] at h
 | cons x bx ih=>
  obtain ⟨k,cs⟩:=x
  by_cases hk:k=d
  ·subst hk
   by_cases hd:d'=k
   ·subst hd;simp [hY,az]
   ·have:¬k=d':=fun e=>hd e.symm
    simp [hY,az,hd,this]
  ·have h2:(az bx d).isSome=true:=by simpa [az,hk] using h
   have:=ih h2
   by_cases hd:k=d'
   ·subst hd
    simp [hY,az,hk]
   ·simp [hY,az,hk,hd,this]
theorem MU{dp:Nat}{bx:List (Nat×List AV)}{hp:HP}{d:Nat}{c:List AV}(h:(az bx d).isSome=true):aB (boxes dp bx hp) ⟨dp,d⟩ c=boxes dp (hY bx d c) hp:=by
 funext q
 obtain ⟨qd,q'⟩:=q
 simp only [aB,boxes,H8 h,Key.mk.injEq]
 by_cases h1:qd=dp
 ·simp [h1]
 ·simp [h1]
theorem dE{dp:Nat}{bx bx1:List (Nat×List AV)}{hp:HP}{d:Nat}{c:List AV}(h:(az bx d).isSome=true)(hb:hY bx d c=bx1):aB (boxes dp bx hp) ⟨dp,d⟩ c=boxes dp bx1 hp:=hb▸MU h
theorem vK{dp:Nat}{bx:List (Nat×List AV)}{hp hp1:HP}{k:Key}{c:List AV}(h:k.dp≠dp)(hh:aB hp k c=hp1):aB (boxes dp bx hp) k c=boxes dp bx hp1:=hh▸MT h
def xk:List Nat→Bool
 | []=>true
 | x::l=>l.all (fun y=>x !=y)&&xk l
theorem EY:∀ {l:List Nat},xk l=true→l.Nodup
 | [],_=>List.nodup_nil
 | x::l,h=>by
  simp only [xk,Bool.and_eq_true,List.all_eq_true,bne_iff_ne,ne_eq] at h
  exact List.nodup_cons.2 ⟨fun hm=>h.1 x hm rfl,EY h.2⟩
theorem GM{dp:Nat}{bx bx':List (Nat×List AV)}{hp:HP}(h:bx'.map Prod.fst=bx.map Prod.fst)(hn0:xk (bx.map Prod.fst)=true):kJ dp (boxes dp bx' hp) bx=bx':=by
 have hn:=EY hn0
 clear hn0
 have key:∀ (l l':List (Nat×List AV)),l'.map Prod.fst=l.map Prod.fst→(l.map Prod.fst).Nodup→(∀ x∈l',az bx' x.1=some x.2)→kJ dp (boxes dp bx' hp) l=l':=by
  intro l
  induction l with
  | nil=>intro l' hl _ _;cases l' with
   | nil=>rfl
   | cons _ _=>cases hl
  | cons y l ih=>
   intro l' hl hnd hg
   cases l' with
   | nil=>cases hl
   | cons x l'=>
    simp only [List.map_cons,List.cons.injEq] at hl
    obtain ⟨d,cs⟩:=y
    obtain ⟨d',cs'⟩:=x
    obtain ⟨rfl,hl⟩:=hl
    have h1:=hg (d',cs') (by simp)
    simp only [kJ,boxes,if_true,h1]
    rw [ih l' hl (List.nodup_cons.1 hnd).2 fun x hx=>hg x (by simp [hx])]
 refine key bx bx' h hn fun x hx=>?_
 have hn':(bx'.map Prod.fst).Nodup:=by rw [h];exact hn
 clear key h hn
 induction bx' with
 | nil=>cases hx
 | cons y bx' ih=>
  obtain ⟨d,cs⟩:=y
  rcases List.mem_cons.1 hx with rfl | hx
  ·simp [az]
  ·have hne:¬d=x.1:=fun e=>(List.nodup_cons.1 hn').1 (List.mem_map.2 ⟨x,hx,e.symm⟩)
   simp only [az,if_neg hne]
   exact ih hx (List.nodup_cons.1 hn').2
def cJ(dp:Nat)(hp:HP):Prop:=∀ k:Key,¬k.dp<dp→hp k=none
theorem dF(dp:Nat):cJ dp (fun _=>none):=fun _ _=>rfl
theorem a7{dp:Nat}{hp:HP}{k:Key}{c:List AV}(hk:k.dp<dp)(h:cJ dp hp):cJ dp (aB hp k c):=by
 intro q hq
 have:q≠k:=fun e=>by subst e;exact hq hk
 rw [P9 this];exact h q hq
theorem bj{dp:Nat}{bx:List (Nat×List AV)}{hp:HP}(h:cJ dp hp):cJ (dp+1) (boxes dp bx hp):=by
 intro q hq
 simp only [boxes,if_neg (show ¬q.dp=dp by omega)]
 exact h q (by omega)
theorem Jk{dp:Nat}{bx:List (Nat×List AV)}{hp:HP}(h:cJ dp hp):(fun k:Key=>if k.dp<dp then boxes dp bx hp k else none)=hp:=by
 funext q
 by_cases h1:q.dp<dp
 ·simp only [if_pos h1,boxes,if_neg (show ¬q.dp=dp by omega)]
 ·rw [if_neg h1,h q h1]
theorem ct{dp d:Nat}{k:Key}(h:k.dp<dp):k≠⟨dp,d⟩:=fun e=>by subst e;exact Nat.lt_irrefl _ h
theorem ko{E:Env}{f:FuncId}{ys:List AV}{h1 h1' h2 h2':HP}{x:AV}(e1:h1=h1')(e2:h2=h2')(h:call G Ω0 E f ys h1=some (.ret x,h2)):call G Ω0 E f ys h1'=some (.ret x,h2'):=e1▸e2▸h
theorem Qa{R:Type}{c:Prop}[Decidable c]{A B:Option R}{r:R}{P:Prop}(h:(if c then A else B)=some r)(h1:c→A=some r→P)(h2:¬c→B=some r→P):P:=by
 by_cases hc:c
 ·exact h1 hc (by rwa [if_pos hc] at h)
 ·exact h2 hc (by rwa [if_neg hc] at h)
theorem Kx{R:Type}{c:Bool}{A B:Option R}{r:R}{P:Prop}(h:(if c=true then A else B)=some r)(h1:c=true→A=some r→P)(h2:c=false→B=some r→P):P:=by
 cases c with
 | true=>exact h1 rfl h
 | false=>exact h2 rfl h
def dG(n:Int):Option Nat:=if 0≤n then some n.toNat else none
theorem MV{n:Int}{j:Nat}(h:dG n=some j):n=(j:Int):=by
 unfold dG at h;split at h
 ·obtain rfl:=Option.some.inj h;omega
 ·cases h
theorem dH(n:Nat):dG (n:Int)=some n:=by simp [dG]
theorem MW{n:Int}(h:0≤n):dG n=some n.toNat:=by simp [dG,h]
theorem aj{R:Type}{c:Prop}[Decidable c]{A:Option R}{r:R}{P:Prop}(h:(if c then A else none)=some r)(h1:c→A=some r→P):P:=
 Qa h h1 fun _ h=>by cases h
theorem Mp{R:Type}{r:R}{P:Prop}(h:(none:Option R)=some r):P:=by cases h
theorem Qb:aK.ret≠.nrm:=by intro h;cases h
theorem WS(n:Nat):aK.ex n≠.nrm:=by intro h;cases h
def EB{α ε:Type}(S:α→St)(X:ε→aK×St):α⊕ε→St⊕(aK×St)
 | .inl w=>.inl (S w)
 | .inr x=>.inr (X x)
theorem br{Q R:Type}{m:Option Q}{k:Q→Option R}{r:R}{T:Q→Prop}(h:m.bind k=some r)(h1:∀ x,m=some x→k x=some r→T x):∃ x,T x:=by
 obtain ⟨x,h2,h3⟩:=Option.bind_eq_some_iff.1 h
 exact ⟨x,h1 x h2 h3⟩
theorem lB{R:Type}{n:Int}{k:Nat→Option R}{r:R}{T:Nat→Prop}(h:(dG n).bind k=some r)(h1:∀ j:Nat,n=(j:Int)→k j=some r→T j):∃ j,T j:=
 br h fun j hj h=>h1 j (MV hj) h
theorem bu{R:Type}{c:Prop}[Decidable c]{A B:Option R}{r:R}{T S:Prop}(h:(if c then A else B)=some r)(h1:c→A=some r→T)(h2:¬c→B=some r→S):T∨S:=
 Qa h (fun hc h=>.inl (h1 hc h)) fun hc h=>.inr (h2 hc h)
theorem aJ{R:Type}{c:Bool}{A B:Option R}{r:R}{T S:Prop}(h:(if c=true then A else B)=some r)(h1:c=true→A=some r→T)(h2:c=false→B=some r→S):T∨S:=
 Kx h (fun hc h=>.inl (h1 hc h)) fun hc h=>.inr (h2 hc h)
theorem ZA{b0 b1 R:Type}{m:Option (b0⊕b1)}{K:b0⊕b1→Option R}{r:R}{T0:b0→Prop}{T1:b1→Prop}(h:m.bind K=some r)(p0:∀ a,m=some (.inl a)→K (.inl a)=some r→T0 a)(p1:∀ a,m=some (.inr a)→K (.inr a)=some r→T1 a):(∃ a,T0 a)∨(∃ a,T1 a):=by
 obtain ⟨x,h2,h3⟩:=Option.bind_eq_some_iff.1 h
 match x,h2,h3 with
 | .inl a,h2,h3=>exact .inl ⟨a,p0 a h2 h3⟩
 | .inr a,h2,h3=>exact .inr (⟨a,p1 a h2 h3⟩)
theorem ZB{b0 b1 b2 R:Type}{m:Option (b0⊕(b1⊕b2))}{K:b0⊕(b1⊕b2)→Option R}{r:R}{T0:b0→Prop}{T1:b1→Prop}{T2:b2→Prop}(h:m.bind K=some r)(p0:∀ a,m=some (.inl a)→K (.inl a)=some r→T0 a)(p1:∀ a,m=some (.inr (.inl a))→K (.inr (.inl a))=some r→T1 a)(p2:∀ a,m=some (.inr (.inr a))→K (.inr (.inr a))=some r→T2 a):(∃ a,T0 a)∨(∃ a,T1 a)∨(∃ a,T2 a):=by
 obtain ⟨x,h2,h3⟩:=Option.bind_eq_some_iff.1 h
 match x,h2,h3 with
 | .inl a,h2,h3=>exact .inl ⟨a,p0 a h2 h3⟩
 | .inr (.inl a),h2,h3=>exact .inr (.inl ⟨a,p1 a h2 h3⟩)
 | .inr (.inr a),h2,h3=>exact .inr (.inr (⟨a,p2 a h2 h3⟩))
theorem ZC{b0 b1 b2 b3 R:Type}{m:Option (b0⊕(b1⊕(b2⊕b3)))}{K:b0⊕(b1⊕(b2⊕b3))→Option R}{r:R}{T0:b0→Prop}{T1:b1→Prop}{T2:b2→Prop}{T3:b3→Prop}(h:m.bind K=some r)(p0:∀ a,m=some (.inl a)→K (.inl a)=some r→T0 a)(p1:∀ a,m=some (.inr (.inl a))→K (.inr (.inl a))=some r→T1 a)(p2:∀ a,m=some (.inr (.inr (.inl a)))→K (.inr (.inr (.inl a)))=some r→T2 a)(p3:∀ a,m=some (.inr (.inr (.inr a)))→K (.inr (.inr (.inr a)))=some r→T3 a):(∃ a,T0 a)∨(∃ a,T1 a)∨(∃ a,T2 a)∨(∃ a,T3 a):=by
 obtain ⟨x,h2,h3⟩:=Option.bind_eq_some_iff.1 h
 match x,h2,h3 with
 | .inl a,h2,h3=>exact .inl ⟨a,p0 a h2 h3⟩
 | .inr (.inl a),h2,h3=>exact .inr (.inl ⟨a,p1 a h2 h3⟩)
 | .inr (.inr (.inl a)),h2,h3=>exact .inr (.inr (.inl ⟨a,p2 a h2 h3⟩))
 | .inr (.inr (.inr a)),h2,h3=>exact .inr (.inr (.inr (⟨a,p3 a h2 h3⟩)))
theorem ZD{b0 b1 b2 b3 b4 R:Type}{m:Option (b0⊕(b1⊕(b2⊕(b3⊕b4))))}{K:b0⊕(b1⊕(b2⊕(b3⊕b4)))→Option R}{r:R}{T0:b0→Prop}{T1:b1→Prop}{T2:b2→Prop}{T3:b3→Prop}{T4:b4→Prop}(h:m.bind K=some r)(p0:∀ a,m=some (.inl a)→K (.inl a)=some r→T0 a)(p1:∀ a,m=some (.inr (.inl a))→K (.inr (.inl a))=some r→T1 a)(p2:∀ a,m=some (.inr (.inr (.inl a)))→K (.inr (.inr (.inl a)))=some r→T2 a)(p3:∀ a,m=some (.inr (.inr (.inr (.inl a))))→K (.inr (.inr (.inr (.inl a))))=some r→T3 a)(p4:∀ a,m=some (.inr (.inr (.inr (.inr a))))→K (.inr (.inr (.inr (.inr a))))=some r→T4 a):(∃ a,T0 a)∨(∃ a,T1 a)∨(∃ a,T2 a)∨(∃ a,T3 a)∨(∃ a,T4 a):=by
 obtain ⟨x,h2,h3⟩:=Option.bind_eq_some_iff.1 h
 match x,h2,h3 with
 | .inl a,h2,h3=>exact .inl ⟨a,p0 a h2 h3⟩
 | .inr (.inl a),h2,h3=>exact .inr (.inl ⟨a,p1 a h2 h3⟩)
 | .inr (.inr (.inl a)),h2,h3=>exact .inr (.inr (.inl ⟨a,p2 a h2 h3⟩))
 | .inr (.inr (.inr (.inl a))),h2,h3=>exact .inr (.inr (.inr (.inl ⟨a,p3 a h2 h3⟩)))
 | .inr (.inr (.inr (.inr a))),h2,h3=>exact .inr (.inr (.inr (.inr (⟨a,p4 a h2 h3⟩))))
theorem lY{R V:Type}{Y:R→V}{a r:R}(h:some a=some r):Y a=Y r:=by rw [Option.some.inj h]
theorem WT{α ε:Type}{E:Env}{l:bq}{S:α→St}{X:ε→aK×St}{v:α}{o:α⊕ε}{T:Prop}(a:AT)(h:T)(he:T=cW G Ω0 E l.x (S v) a fun e s _=>Mo l.kf l.kb e s=EB S X o):bH E l S X v o:=by
 obtain ⟨e,s,_,h1,h2⟩:=qS l.x (he▸h)
 cases o with
 | inl w=>
  cases e with
  | nrm=>
   have h3:s.bw l.kf l.kb=S w:=Sum.inl.inj h2
   show (run G Ω0 E l.x (S v)).bind (kept l)=some (S w)
   rw [h1,←h3];rfl
  | ret=>cases h2
  | ex id=>cases h2
 | inr x=>
  cases e with
  | nrm=>cases h2
  | ret=>
   have h3:(aK.ret,s)=X x:=Sum.inr.inj h2
   exact ⟨by rw [h1,h3],by rw [←h3];exact Qb⟩
  | ex id=>
   have h3:(aK.ex id,s)=X x:=Sum.inr.inj h2
   exact ⟨by rw [h1,h3],by rw [←h3];exact WS _⟩
theorem cO{E:Env}{f:FuncId}{ys:List AV}{x:AV}{dp:Nat}{bx:List (Nat×List AV)}{hp:HP}{k:Key}{c c':List AV}(hk:k.dp<dp)(h:call G Ω0 E f ys (aB (boxes dp bx (aB hp k c)) k c)=some (.ret x,aB (boxes dp bx (aB hp k c)) k c')):call G Ω0 E f ys (boxes dp bx (aB hp k c))=some (.ret x,boxes dp bx (aB hp k c')):=
 ko (vK (Nat.ne_of_lt hk) (ew ..)) (vK (Nat.ne_of_lt hk) (ew ..)) h
theorem Qc{α ε:Type}{B:α→Option (α⊕ε)}(n:Nat)(f:Nat→α){x:ε}(hs:∀ k,k<n→B (f k)=some (.inl (f (k+1))))(he:B (f n)=some (.inr x)):lp B (f 0)=some x:=by
 have:∀ m k,k+m=n→lp B (f k)=some x:=by
  intro m
  induction m with
  | zero=>
    intro k hk;obtain rfl:k=n:=by omega
    exact bZ he
  | succ m ih=>intro k hk;rw [de (hs k (by omega))];exact ih (k+1) (by omega)
 exact this n 0 (by omega)
theorem pI{α ε β:Type}{B:α→Option (α⊕ε)}(es:List β)(p:β→Bool)(f:Nat→α){x y:ε}(hs:∀ k (h:k<es.length),p es[k]=false→B (f k)=some (.inl (f (k+1))))(hx:∀ k (h:k<es.length),p es[k]=true→B (f k)=some (.inr x))(he:B (f es.length)=some (.inr y)):lp B (f 0)=some (if es.any p then x else y):=by
 have:∀ m k,k+m=es.length→lp B (f k)=some (if (es.drop k).any p then x else y):=by
  intro m
  induction m with
  | zero=>
   intro k hk
   obtain rfl:k=es.length:=by omega
   rw [List.drop_length]
   exact bZ he
  | succ m ih=>
   intro k hk
   have hlt:k<es.length:=by omega
   rw [List.drop_eq_getElem_cons hlt,List.any_cons]
   cases hp:p es[k] with
   | true=>exact bZ (hx k hlt hp)
   | false=>rw [de (hs k hlt hp),ih (k+1) (by omega)];rfl
 exact this es.length 0 (by omega)
theorem WU{l m:List UInt8}(h:l.length+m.length≤1000000000):(l.map af).length+m.length≤140737488355328∧(l.map af).length+m.length≤maxLen:=by
 rw [List.length_map]
 exact ⟨by omega,Nat.le_trans h (by decide)⟩
theorem H9{x:Int}{l:List AV}{m:List UInt8}(h:0≤x∧x<256)(e:l=m.map af):AV.i .u8 x::l=(UInt8.ofNat x.toNat::m).map af:=by
 subst e
 have h2:x.toNat<256:=by omega
 simp only [List.map_cons,af,List.cons.injEq,AV.i.injEq,true_and,and_true]
 rw [UInt8.toNat_ofNat_of_lt' (by simpa using h2)]
 omega
theorem ux:∀ l:List UInt8,bytesOf (l.map af)=some l
 | []=>rfl
 | c::l=>by
  have h1:(0:Int)≤(c.toNat:Int)∧(c.toNat:Int)<256:=⟨by omega,by have:=c.toNat_lt;omega⟩
  simp only [List.map_cons,af,bytesOf,if_pos h1,Int.toNat_natCast,UInt8.ofNat_toNat]
  rw [ux l];rfl
theorem fB{E:Env}{f:FuncId}{ys:List AV}{dp:Nat}{bx bx':List (Nat×List AV)}{hp hp':HP}{y:aZ}(_:call G Ω0 E f ys (boxes dp bx hp)=some (y,boxes dp bx' hp'))(h:bx'.map Prod.fst=bx.map Prod.fst)(hn:xk (bx.map Prod.fst)=true):kJ dp (boxes dp bx' hp') bx=bx':=GM h hn
theorem fC{E:Env}{f:FuncId}{ys:List AV}{dp:Nat}{bx bx':List (Nat×List AV)}{hp hp':HP}{y:aZ}(_:call G Ω0 E f ys (boxes dp bx hp)=some (y,boxes dp bx' hp'))(hz:cJ dp hp'):(fun k:Key=>if k.dp<dp then boxes dp bx' hp' k else none)=hp':=Jk hz
theorem g1{x y:Bool}(h:x=y):(x==true)=(y==true):=congrArg (fun z=>z==true) h
theorem g0{x y:Bool}(h:x=y):(x==false)=(y==false):=congrArg (fun z=>z==false) h
noncomputable def ev{α:Type}(x:Nat→Option α):Option α:=open Classical in if h:∃ r,∃ n0,∀ n,n0≤n→x n=some r then some (Classical.choose h) else none
theorem iD{α:Type}{x:Nat→Option α}{r:α}(h:ev x=some r):∃ n,x n=some r:=by
 unfold ev at h
 split at h
 ·rename_i hex
  obtain ⟨n0,hn⟩:=Classical.choose_spec hex
  exact ⟨n0,by rw [hn n0 (Nat.le_refl _)];exact h⟩
 ·cases h
theorem my{α:Type}{x:Nat→Option α}{r:α}(n0:Nat)(h:∀ n,n0≤n→x n=some r):ev x=some r:=by
 unfold ev
 have hex:∃ r,∃ n0,∀ n,n0≤n→x n=some r:=⟨r,n0,h⟩
 rw [dif_pos hex]
 obtain ⟨n1,h1⟩:=Classical.choose_spec hex
 have:=h1 (max n0 n1) (Nat.le_max_right _ _)
 rw [h (max n0 n1) (Nat.le_max_left _ _)] at this
 exact this.symm
theorem aH{R:Type}{E:Env}{f:FuncId}{fn:bg}{ys:List AV}{hp:HP}{Y:R→aZ×HP}{r:R}{T:Prop}(hG:G f=some fn)(a:AT)(h:(∀ {a:R},some a=some r→Y a=Y r)→T)(he:T=H6 G Ω0 E fn ys hp a fun y h=>(aZ.ret y,h)=Y r:=by kernel_rfl):call G Ω0 E f ys hp=some (Y r):=WM hG a (h lY) he
theorem ZU{R:Type}{E:Env}{f:FuncId}{fn:bg}{ys:List AV}{hp:HP}{Y:R→aZ×HP}{r:R}{T:Prop}(hG:G f=some fn)(a:AT)(h:(∀ {a:R},some a=some r→Y a=Y r)→T)(he:T=EU G Ω0 E fn ys hp a fun y h=>(aZ.new y,h)=Y r:=by kernel_rfl):call G Ω0 E f ys hp=some (Y r):=P8 hG a (h lY) he
theorem fP{R:Type}{E:Env}{c:AC}{st:St}{Y:R→aK×St}{r:R}{T:Prop}(a:AT)(h:(∀ {a:R},some a=some r→Y a=Y r)→T)(he:T=cW G Ω0 E c st a fun e s _=>(e,s)=Y r:=by kernel_rfl):run G Ω0 E c st=some (Y r):=runT a (h lY) he
theorem dv{R:Type}{E:Env}{kf kb:List Nat}{gs:List cL}{st:St}{Y:R→St}{r:R}{T:Prop}(a:AT)(h:(∀ {a:R},some a=some r→Y a=Y r)→T)(he:T=xi G Ω0 E kf kb st gs a fun s _=>s=Y r:=by kernel_rfl):eB G Ω0 E kf kb gs st=some (Y r):=WN a (h lY) he
theorem aaR{R:Type}{E:Env}{kf kb:List Nat}{gs:List bI}{st:St}{Y:R→St}{r:R}{T:Prop}(a:AT)(h:(∀ {a:R},some a=some r→Y a=Y r)→T)(he:T=xj G Ω0 E kf kb st gs a fun s _=>s=Y r:=by kernel_rfl):BB G Ω0 E kf kb gs st=some (Y r):=WO a (h lY) he
theorem bV{α ε:Type}{E:Env}{l:bq}{S:α→St}{X:ε→aK×St}{v:α}{o:α⊕ε}{T:Prop}(a:AT)(h:(∀ {a:α⊕ε},some a=some o→EB S X a=EB S X o)→T)(he:T=cW G Ω0 E l.x (S v) a fun e s _=>Mo l.kf l.kb e s=EB S X o:=by kernel_rfl):bH E l S X v o:=WT a (h lY) he
theorem aw{Q R:Type}{m:Option Q}{k:Q→Option R}{r:R}{O T:Q→Prop}(h:m.bind k=some r)(l:∀ x,m=some x→O x)(h1:∀ x,k x=some r→T x):∃ x,O x∧T x:=br h fun x e h=>⟨l x e,h1 x h⟩
theorem bW{b0 b1 R:Type}{m:Option (b0⊕b1)}{K:b0⊕b1→Option R}{r:R}{O:b0⊕b1→Prop}{T0:b0→Prop}{T1:b1→Prop}(h:m.bind K=some r)(l:∀ x,m=some x→O x)(p0:∀ a,K (.inl a)=some r→T0 a)(p1:∀ a,K (.inr a)=some r→T1 a):(∃ a,O (.inl a)∧T0 a)∨(∃ a,O (.inr a)∧T1 a):=ZA h (fun a e h=>⟨l _ e,p0 a h⟩) (fun a e h=>⟨l _ e,p1 a h⟩)
theorem An{b0 b1 b2 R:Type}{m:Option (b0⊕(b1⊕b2))}{K:b0⊕(b1⊕b2)→Option R}{r:R}{O:b0⊕(b1⊕b2)→Prop}{T0:b0→Prop}{T1:b1→Prop}{T2:b2→Prop}(h:m.bind K=some r)(l:∀ x,m=some x→O x)(p0:∀ a,K (.inl a)=some r→T0 a)(p1:∀ a,K (.inr (.inl a))=some r→T1 a)(p2:∀ a,K (.inr (.inr a))=some r→T2 a):(∃ a,O (.inl a)∧T0 a)∨(∃ a,O (.inr (.inl a))∧T1 a)∨(∃ a,O (.inr (.inr a))∧T2 a):=ZB h (fun a e h=>⟨l _ e,p0 a h⟩) (fun a e h=>⟨l _ e,p1 a h⟩) (fun a e h=>⟨l _ e,p2 a h⟩)
theorem Ia{b0 b1 b2 b3 R:Type}{m:Option (b0⊕(b1⊕(b2⊕b3)))}{K:b0⊕(b1⊕(b2⊕b3))→Option R}{r:R}{O:b0⊕(b1⊕(b2⊕b3))→Prop}{T0:b0→Prop}{T1:b1→Prop}{T2:b2→Prop}{T3:b3→Prop}(h:m.bind K=some r)(l:∀ x,m=some x→O x)(p0:∀ a,K (.inl a)=some r→T0 a)(p1:∀ a,K (.inr (.inl a))=some r→T1 a)(p2:∀ a,K (.inr (.inr (.inl a)))=some r→T2 a)(p3:∀ a,K (.inr (.inr (.inr a)))=some r→T3 a):(∃ a,O (.inl a)∧T0 a)∨(∃ a,O (.inr (.inl a))∧T1 a)∨(∃ a,O (.inr (.inr (.inl a)))∧T2 a)∨(∃ a,O (.inr (.inr (.inr a)))∧T3 a):=ZC h (fun a e h=>⟨l _ e,p0 a h⟩) (fun a e h=>⟨l _ e,p1 a h⟩) (fun a e h=>⟨l _ e,p2 a h⟩) (fun a e h=>⟨l _ e,p3 a h⟩)
theorem aaZ{b0 b1 b2 b3 b4 R:Type}{m:Option (b0⊕(b1⊕(b2⊕(b3⊕b4))))}{K:b0⊕(b1⊕(b2⊕(b3⊕b4)))→Option R}{r:R}{O:b0⊕(b1⊕(b2⊕(b3⊕b4)))→Prop}{T0:b0→Prop}{T1:b1→Prop}{T2:b2→Prop}{T3:b3→Prop}{T4:b4→Prop}(h:m.bind K=some r)(l:∀ x,m=some x→O x)(p0:∀ a,K (.inl a)=some r→T0 a)(p1:∀ a,K (.inr (.inl a))=some r→T1 a)(p2:∀ a,K (.inr (.inr (.inl a)))=some r→T2 a)(p3:∀ a,K (.inr (.inr (.inr (.inl a))))=some r→T3 a)(p4:∀ a,K (.inr (.inr (.inr (.inr a))))=some r→T4 a):(∃ a,O (.inl a)∧T0 a)∨(∃ a,O (.inr (.inl a))∧T1 a)∨(∃ a,O (.inr (.inr (.inl a)))∧T2 a)∨(∃ a,O (.inr (.inr (.inr (.inl a))))∧T3 a)∨(∃ a,O (.inr (.inr (.inr (.inr a))))∧T4 a):=ZD h (fun a e h=>⟨l _ e,p0 a h⟩) (fun a e h=>⟨l _ e,p1 a h⟩) (fun a e h=>⟨l _ e,p2 a h⟩) (fun a e h=>⟨l _ e,p3 a h⟩) (fun a e h=>⟨l _ e,p4 a h⟩)
theorem eH{α ε:Type}{E:Env}{B:α→Option (α⊕ε)}{l:bq}{S:α→St}{X:ε→aK×St}(hb:∀ v o,B v=some o→bH E l S X v o)(v:α)(x:ε)(h:lp B v=some x)(hk:∀ v,(S v).bw l.kf l.kb=S v:=by exact fun _=>rfl):Bw G Ω0 E l (S v)=some (X x):=MS l S X hk hb h
theorem rI(n:Nat):(n:Int)=(n:Int):=rfl
theorem rN(n:Nat):n=n:=rfl
theorem EZ{k:Key}{dp:Nat}(h:k.dp<dp)(ns:List Nat):(cU dp ns (.p k 0)&&okB dp [] (.p k 0))=true:=by simp [cU,okB,fG,AV.bn,AV.bY,AV.cG,ct h]
abbrev xB(f:Bool→AT):AT:=.ex fun r=>ao (.v (.b r)) (f r)
abbrev xI(f:Int→AT):AT:=.ex fun r=>ao (.v (I r)) (f r)
abbrev xN(f:Nat→AT):AT:=.ex fun r=>ao (.n r) (f r)
abbrev oN(r:AT):AT:=.or (bt .nil) (bf r)
theorem od{p:Prop}(h:p):true=true∧Z0∧p:=⟨rfl,rfl,h⟩
theorem fO{p:Prop}{q:Prop}(H:q)(h:p):q∧Z0∧p:=⟨H,rfl,h⟩
theorem Dq{p:Prop}{x y:Bool}(H:x=y)(h:p):(x==false)=(y==false)∧(x==false)=(y==false)∧p:=⟨g0 H,g0 H,h⟩
theorem o9{p:Prop}{x y:Bool}(H:x=y)(h:p):(x==false)=(y==false)∧x=y∧p:=⟨g0 H,H,h⟩
theorem Mq{p:Prop}{x y:Bool}(H:x=y)(h:p):(x==false)=(y==false)∧(x==false)=(y==false)∧(x==false)=(y==false)∧x=y∧p:=⟨g0 H,g0 H,g0 H,H,h⟩
theorem nC{p:Prop}(h:p):false=false∧true=true∧p:=⟨rfl,rfl,h⟩
theorem E1{p:Prop}{x y:Bool}(H:x=y)(h:p):(x==false)=(y==false)∧(x==false)=(y==false)∧(x==false)=(y==false)∧p:=⟨g0 H,g0 H,g0 H,h⟩
theorem xl{p:Prop}{x y:Bool}(H:x=y)(h:p):(x==true)=(y==true)∧(x==true)=(y==true)∧x=y∧p:=⟨g1 H,g1 H,H,h⟩
theorem Mr{p:Prop}{x y:Bool}(H:x=y)(h:p):(x==true)=(y==true)∧(x==true)=(y==true)∧x=y∧false=false∧p:=⟨g1 H,g1 H,H,rfl,h⟩
theorem Hu{p:Prop}(h:p):true=true∧false=false∧Z0∧true=true∧Z0∧Z0∧p:=⟨rfl,rfl,rfl,rfl,rfl,rfl,h⟩
theorem qu{p:Prop}{x y:Bool}(H:x=y)(h:p):(x==false)=(y==false)∧(x==false)=(y==false)∧Z0∧(x==false)=(y==false)∧p:=⟨g0 H,g0 H,rfl,g0 H,h⟩
theorem E2{p:Prop}{x y:Bool}(H:x=y)(h:p):(x==false)=(y==false)∧(x==false)=(y==false)∧(x==false)=(y==false)∧(x==false)=(y==false)∧x=y∧true=true∧p:=⟨g0 H,g0 H,g0 H,g0 H,H,rfl,h⟩
theorem oM{p:Prop}(h:p):true=true∧true=true∧true=true∧true=true∧p:=⟨rfl,rfl,rfl,rfl,h⟩
theorem Ky{p:Prop}{x y:Bool}(H:x=y)(h:p):true=true∧(x==true)=(y==true)∧true=true∧(x==true)=(y==true)∧true=true∧(x==true)=(y==true)∧true=true∧(x==true)=(y==true)∧p:=⟨rfl,g1 H,rfl,g1 H,rfl,g1 H,rfl,g1 H,h⟩
theorem jv{p:Prop}{x y:Bool}(H:x=y)(h:p):(x==true)=(y==true)∧x=y∧p:=⟨g1 H,H,h⟩
theorem uy{p:Prop}{x y:Bool}(H:x=y)(h:p):(x==false)=(y==false)∧(x==false)=(y==false)∧x=y∧p:=⟨g0 H,g0 H,H,h⟩
theorem vL{p:Prop}{x y:Bool}(H:x=y)(h:p):(x==true)=(y==true)∧(x==true)=(y==true)∧(x==true)=(y==true)∧p:=⟨g1 H,g1 H,g1 H,h⟩
theorem Kz{p:Prop}{x y:Bool}(H:x=y)(h:p):(x==true)=(y==true)∧(x==true)=(y==true)∧(x==true)=(y==true)∧(x==true)=(y==true)∧(x==true)=(y==true)∧(x==true)=(y==true)∧x=y∧p:=⟨g1 H,g1 H,g1 H,g1 H,g1 H,g1 H,H,h⟩
theorem ie{p:Prop}{x y:Bool}(H:x=y)(h:p):(x==true)=(y==true)∧(x==true)=(y==true)∧p:=⟨g1 H,g1 H,h⟩
theorem E3{p:Prop}{x y:Bool}(H:x=y)(h:p):(x==true)=(y==true)∧(x==true)=(y==true)∧(x==true)=(y==true)∧(x==true)=(y==true)∧x=y∧p:=⟨g1 H,g1 H,g1 H,g1 H,H,h⟩
theorem E4{p:Prop}{x y:Bool}(H:x=y)(h:p):(x==false)=(y==false)∧(x==false)=(y==false)∧(x==false)=(y==false)∧(x==false)=(y==false)∧x=y∧p:=⟨g0 H,g0 H,g0 H,g0 H,H,h⟩
theorem E5{p:Prop}{x y:Bool}(H:x=y)(h:p):(x==false)=(y==false)∧(x==false)=(y==false)∧Z0∧(x==false)=(y==false)∧(x==false)=(y==false)∧p:=⟨g0 H,g0 H,rfl,g0 H,g0 H,h⟩
theorem fH{p:Prop}{x y:Bool}(H:x=y)(h:p):(x==true)=(y==true)∧(x==true)=(y==true)∧Z0∧(x==true)=(y==true)∧p:=⟨g1 H,g1 H,rfl,g1 H,h⟩
theorem BG{p:Prop}{x y:Bool}(H:x=y)(h:p):(x==false)=(y==false)∧(x==false)=(y==false)∧Z0∧(x==false)=(y==false)∧x=y∧p:=⟨g0 H,g0 H,rfl,g0 H,H,h⟩
theorem BH{p:Prop}{x y:Bool}(H:x=y)(h:p):(x==true)=(y==true)∧(x==true)=(y==true)∧Z0∧(x==true)=(y==true)∧x=y∧p:=⟨g1 H,g1 H,rfl,g1 H,H,h⟩
theorem KA{p:Prop}{x y:Bool}(H:x=y)(h:p):(x==false)=(y==false)∧(x==false)=(y==false)∧(x==false)=(y==false)∧(x==false)=(y==false)∧(x==false)=(y==false)∧(x==false)=(y==false)∧(x==false)=(y==false)∧(x==false)=(y==false)∧x=y∧p:=⟨g0 H,g0 H,g0 H,g0 H,g0 H,g0 H,g0 H,g0 H,H,h⟩
theorem zk{p:Prop}{x y:Bool}(H:x=y)(h:p):(x==true)=(y==true)∧(x==true)=(y==true)∧(x==true)=(y==true)∧(x==true)=(y==true)∧p:=⟨g1 H,g1 H,g1 H,g1 H,h⟩
theorem ru{p:Prop}{x y:Bool}(H:x=y)(h:p):(x==true)=(y==true)∧(x==true)=(y==true)∧(x==true)=(y==true)∧x=y∧p:=⟨g1 H,g1 H,g1 H,H,h⟩
theorem KB{p:Prop}{x y:Bool}(H:x=y)(h:p):(x==false)=(y==false)∧(x==false)=(y==false)∧(x==false)=(y==false)∧(x==false)=(y==false)∧(x==false)=(y==false)∧x=y∧p:=⟨g0 H,g0 H,g0 H,g0 H,g0 H,H,h⟩
theorem Ib{p:Prop}{x y:Bool}(H:x=y)(h:p):(x==true)=(y==true)∧(x==true)=(y==true)∧(x==true)=(y==true)∧(x==true)=(y==true)∧(x==true)=(y==true)∧x=y∧p:=⟨g1 H,g1 H,g1 H,g1 H,g1 H,H,h⟩
theorem KC{p:Prop}{x y:Bool}(H:x=y)(h:p):(x==true)=(y==true)∧(x==true)=(y==true)∧(x==true)=(y==true)∧(x==true)=(y==true)∧x=y∧(false==true)=false∧(false==true)=false∧(false==true)=false∧false=false∧p:=⟨g1 H,g1 H,g1 H,g1 H,H,rfl,rfl,rfl,rfl,h⟩
theorem BI{p:Prop}{q:Prop}(H:q)(h:p):q∧true=true∧true=true∧Z0∧true=true∧p:=⟨H,rfl,rfl,rfl,rfl,h⟩
theorem oO{p:Prop}(h:p):true=true∧true=true∧Z0∧true=true∧p:=⟨rfl,rfl,rfl,rfl,h⟩
theorem xm{p:Prop}(h:p):true=true∧false=false∧true=true∧p:=⟨rfl,rfl,rfl,h⟩
abbrev cu(r:AT):AT:=bt<|bt r
abbrev dD(r:AT):AT:=bt<|bt<|bt<|bt r
abbrev eI(r:AT):AT:=bt<|bt<|bt r
abbrev jG(r:AT):AT:=bt<|bf r
abbrev pJ(r:AT):AT:=bt<|bt<|bt<|bt<|bt r
abbrev xn(r:AT):AT:=bf<|bf<|bf<|bf r
abbrev yR(r:AT):AT:=bt<|bt<|bf r
abbrev yS(r:AT):AT:=bt<|bt<|bt<|bt<|bf r
abbrev yT(r:AT):AT:=bf<|bt r
abbrev E6(r:AT):AT:=bt<|bt<|bt<|bf r
abbrev E7(r:AT):AT:=bt<|bt<|bt<|bt<|bt<|bt r
abbrev E8(r:AT):AT:=bf<|bf<|bf<|bf<|bt<|bt r
abbrev E9(r:AT):AT:=bt<|bt<|bt<|bt<|bt<|bf r
abbrev Fa(r:AT):AT:=bf<|bf<|bf<|bf<|bf<|bf<|bf<|bf<|bf<|bf<|bf<|bf<|bf r
abbrev Fb(r:AT):AT:=bf<|bf<|bf<|bf<|bt r
abbrev Fc(r:AT):AT:=bf<|bf<|bf<|bf<|bf<|bf<|bf<|bf<|bf r
abbrev Ic(r:AT):AT:=bf<|bf<|bf<|bt r
abbrev Ie(r:AT):AT:=bf<|bf<|bf<|bf<|bf<|bf<|bf r
abbrev Ig(r:AT):AT:=bf<|bf<|bf<|bf<|bf r
abbrev Ih(r:AT):AT:=bf<|bf<|bf<|bf<|bt<|bf<|bf r
abbrev Ii(r:AT):AT:=bf<|bf<|bf<|bf<|bf<|bf r
abbrev KD(r:AT):AT:=bt<|bt<|bt<|bt<|bt<|bt<|bf r
abbrev KE(r:AT):AT:=bf<|bf<|bf<|bf<|bf<|bf<|bf<|bf<|bt r
abbrev KF(r:AT):AT:=bf<|bf<|bt<|bf<|bt r
abbrev KG(r:AT):AT:=bf<|bf<|bf<|bf<|bf<|bt r
abbrev KH(r:AT):AT:=bf<|bf<|bt<|bf<|bf r
abbrev Qd(r:AT):AT:=bf<|bf<|bf<|bf<|bt<|bf<|bf<|bf<|bf<|bt<|bt r
abbrev Qe(r:AT):AT:=bf<|bf<|bf<|bt<|bt<|bt<|bt<|bt<|bt r
abbrev Qf(r:AT):AT:=bf<|bf<|bf<|bf<|bf<|bf<|bf<|bf<|bf<|bf<|bf r
end Go.Proofs.YtogbakbmphadfaaGreatDoor.A
