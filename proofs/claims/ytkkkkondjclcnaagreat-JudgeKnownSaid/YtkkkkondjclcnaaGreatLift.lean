/- Plain functions: loops as least fixed points, and how what they answer is told of the abstract run. -/
import Derived.Test.YtkkkkondjclcnaaGreatBase
set_option linter.unusedSectionVars false
set_option linter.unusedVariables false
set_option linter.unusedSimpArgs false
set_option linter.constructorNameAsVariable false
namespace Go.Proofs.YtkkkkondjclcnaaGreat.A
open Go
def qB{α ε:Type}(B:α→Option (α⊕ε)):Nat→α→Option ε
 | 0,_=>none
 | n+1,v=>match B v with
  | some (.inl w)=>qB B n w
  | some (.inr x)=>some x
  | none=>none
class Lp where
 run : {α ε:Type}→(α→Option (α⊕ε))→α→Option ε
 sound:∀ {α ε:Type}{B:α→Option (α⊕ε)}{v:α}{x:ε},run B v=some x→∃ n,qB B n v=some x
 told:∀ {α ε:Type}{B:α→Option (α⊕ε)}{v:α}{x:ε}(n:Nat),qB B n v=some x→run B v=some x
abbrev lp[Lp]{α ε:Type}(B:α→Option (α⊕ε))(v:α):Option ε:=Lp.run B v
theorem yE[Lp]{α ε:Type}{B:α→Option (α⊕ε)}{v:α}{x:ε}(h:lp B v=some x):∃ n,qB B n v=some x:=Lp.sound h
theorem Lg[Lp]{α ε:Type}{B:α→Option (α⊕ε)}{v:α}{x:ε}(n:Nat)(h:qB B n v=some x):lp B v=some x:=Lp.told n h
theorem Hg{α ε:Type}{B:α→Option (α⊕ε)} : ∀ {n:Nat}{v:α}{x:ε},qB B n v=some x→qB B (n+1) v=some x
 | 0,_,_,h=>by cases h
 | n+1,v,x,h=>by
  rw [qB] at h ⊢
  split at h
  ·exact Hg h
  ·exact h
  ·exact h
theorem MH{α ε:Type}{B:α→Option (α⊕ε)}{n m:Nat}{v:α}{x:ε}(hm:n≤m)(h:qB B n v=some x):qB B m v=some x:=by
 induction hm with
 | refl=>exact h
 | step _ ih=>exact Hg ih
theorem Rb{α ε:Type}{B:α→Option (α⊕ε)}{n m:Nat}{v:α}{x y:ε}(h:qB B n v=some x)(h':qB B m v=some y):x=y:=by
 have h1:=MH (Nat.le_max_left n m) h
 rw [MH (Nat.le_max_right n m) h'] at h1
 exact (Option.some.inj h1).symm
theorem MI:Nonempty Lp:=by
 refine ⟨⟨fun {α ε} B v=>open Classical in if h:∃ n,(qB B n v).isSome then qB B h.choose v else none,fun {α ε B v x} h=>?_,fun {α ε B v x} n h=>?_⟩⟩
 ·split at h
  ·rename_i hn;exact ⟨_,h⟩
  ·cases h
 ·have hn:∃ n,(qB B n v).isSome:=⟨n,by rw [h];rfl⟩
  rw [dif_pos hn]
  have:=hn.choose_spec
  obtain ⟨y,hy⟩:=Option.isSome_iff_exists.1 this
  rw [hy,Rb hy h]
variable [Lp]
section
variable {α ε:Type}{B:α→Option (α⊕ε)}
theorem ji{v:α}{x:ε}(h:B v=some (.inr x)):lp B v=some x:=Lg 1 (by rw [qB,h])
theorem ma{v w:α}(h:B v=some (.inl w)):lp B v=lp B w:=by
 cases hw:lp B w with
 | some x=>obtain ⟨n,hn⟩:=yE hw;exact Lg (n+1) (by rw [qB,h];exact hn)
 | none=>
  cases hv:lp B v with
  | none=>rfl
  | some x=>
   obtain ⟨n,hn⟩:=yE hv
   cases n with
   | zero=>cases hn
   | succ n=>rw [qB,h] at hn;rw [Lg n hn] at hw;cases hw
end
def bB{α ε:Type}(E:Env)(l:bm)(S:α→St)(X:ε→aI×St)(v:α):α⊕ε→Prop
 | .inl w=>(run G Ω0 E l.x (S v)).bind (kept l)=some (S w)
 | .inr x=>run G Ω0 E l.x (S v)=some (X x)∧(X x).1≠.nrm
theorem xD{α ε:Type}{E:Env}{B:α→Option (α⊕ε)}(l:bm)(S:α→St)(X:ε→aI×St)(hk:∀ v,(S v).aH l.kf l.kb=S v)(hb:∀ v o,B v=some o→bB E l S X v o){v:α}{x:ε}(h:lp B v=some x):ju G Ω0 E l (S v)=some (X x):=by
 obtain ⟨n,hn⟩:=yE h
 clear h
 induction n generalizing v with
 | zero=>cases hn
 | succ n ih=>
  rw [qB] at hn
  split at hn
  ·rename_i w hw
   rw [iE (by rw [hk];exact hb v _ hw)]
   exact ih hn
  ·rename_i y hy
   obtain rfl:=Option.some.inj hn
   obtain ⟨h1,h2⟩:=hb v _ hy
   exact ig (by rw [hk];exact h1) h2
  ·cases hn
def boxes(dp:Nat)(bx:List (Nat×List AV))(hp:HP):HP:=fun k=>if k.dp=dp then aq bx k.d else hp k
theorem la{hp:HP}{k k':Key}{cs:List AV}(h:k≠k'):ab hp k' cs k=hp k:=by simp only [ab,if_neg h]
theorem sB{h h':HP}{k k':Key}{c d:List AV}(hn:k'≠k)(e:ab h k c=h'):ab (ab h k' d) k c=ab h' k' d:=by
 subst e
 funext q
 simp only [ab]
 by_cases h1:q=k
 ·subst h1;simp [Ne.symm hn]
 ·simp [h1]
theorem Rc{dp:Nat}{bx:List (Nat×List AV)}{hp:HP}{k:Key}{c:List AV}(h:k.dp≠dp):ab (boxes dp bx hp) k c=boxes dp bx (ab hp k c):=by
 funext q
 simp only [ab,boxes]
 by_cases h1:q=k
 ·subst h1;simp [h]
 ·simp [h1]
theorem Lh{bx:List (Nat×List AV)}{d d':Nat}{c:List AV}(h:(aq bx d).isSome=true):aq (kK bx d c) d'=if d'=d then some c else aq bx d':=by
 induction bx with
 | nil=>simp [aq] at h
 | cons x bx ih=>
  obtain ⟨k,cs⟩:=x
  by_cases hk:k=d
  ·subst hk
   by_cases hd:d'=k
   ·subst hd;simp [kK,aq]
   ·have:¬k=d':=fun e=>hd e.symm
    simp [kK,aq,hd,this]
  ·have h2:(aq bx d).isSome=true:=by simpa [aq,hk] using h
   have:=ih h2
   by_cases hd:k=d'
   ·subst hd
    simp [kK,aq,hk]
   ·simp [kK,aq,hk,hd,this]
theorem Rd{dp:Nat}{bx:List (Nat×List AV)}{hp:HP}{d:Nat}{c:List AV}(h:(aq bx d).isSome=true):ab (boxes dp bx hp) ⟨dp,d⟩ c=boxes dp (kK bx d c) hp:=by
 funext q
 obtain ⟨qd,q'⟩:=q
 simp only [ab,boxes,Lh h,Key.mk.injEq]
 by_cases h1:qd=dp
 ·simp [h1]
 ·simp [h1]
theorem dN{dp:Nat}{bx bx1:List (Nat×List AV)}{hp:HP}{d:Nat}{c:List AV}(h:(aq bx d).isSome=true)(hb:kK bx d c=bx1):ab (boxes dp bx hp) ⟨dp,d⟩ c=boxes dp bx1 hp:=hb▸Rd h
theorem dA{dp:Nat}{bx:List (Nat×List AV)}{hp hp1:HP}{k:Key}{c:List AV}(h:k.dp≠dp)(hh:ab hp k c=hp1):ab (boxes dp bx hp) k c=boxes dp bx hp1:=hh▸Rc h
theorem ij{H H1 H2:HP}{k:Key}{c:List AV}(h:H=H1)(h':ab H1 k c=H2):ab H k c=H2:=h▸h'
def Aa:List Nat→Bool
 | []=>true
 | x::l=>l.all (fun y=>x !=y)&&Aa l
theorem Hh:∀ {l:List Nat},Aa l=true→l.Nodup
 | [],_=>List.nodup_nil
 | x::l,h=>by
  simp only [Aa,Bool.and_eq_true,List.all_eq_true,bne_iff_ne,ne_eq] at h
  exact List.nodup_cons.2 ⟨fun hm=>h.1 x hm rfl,Hh h.2⟩
theorem Jc{dp:Nat}{bx bx':List (Nat×List AV)}{hp:HP}(h:bx'.map Prod.fst=bx.map Prod.fst)(hn0:Aa (bx.map Prod.fst)=true):bC dp (boxes dp bx' hp) bx=bx':=by
 have hn:=Hh hn0
 clear hn0
 have key:∀ (l l':List (Nat×List AV)),l'.map Prod.fst=l.map Prod.fst→(l.map Prod.fst).Nodup→(∀ x∈l',aq bx' x.1=some x.2)→bC dp (boxes dp bx' hp) l=l':=by
  intro l
  induction l with
  | nil=>intro l' hl _ _;cases l' with
   | nil=>rfl
   | cons _ _=>cases hl
  | cons y l ih=>
   intro l' hl hnd hg
   cases l' with
   | nil=>cases hl
   | cons x l'=>
    simp only [List.map_cons,List.cons.injEq] at hl
    obtain ⟨d,cs⟩:=y
    obtain ⟨d',cs'⟩:=x
    obtain ⟨rfl,hl⟩:=hl
    have h1:=hg (d',cs') (by simp)
    simp only [bC,boxes,if_true,h1]
    rw [ih l' hl (List.nodup_cons.1 hnd).2 fun x hx=>hg x (by simp [hx])]
 refine key bx bx' h hn fun x hx=>?_
 have hn':(bx'.map Prod.fst).Nodup:=by rw [h];exact hn
 clear key h hn
 induction bx' with
 | nil=>cases hx
 | cons y bx' ih=>
  obtain ⟨d,cs⟩:=y
  rcases List.mem_cons.1 hx with rfl | hx
  ·simp [aq]
  ·have hne:¬d=x.1:=fun e=>(List.nodup_cons.1 hn').1 (List.mem_map.2 ⟨x,hx,e.symm⟩)
   simp only [aq,if_neg hne]
   exact ih hx (List.nodup_cons.1 hn').2
def ax(dp:Nat)(hp:HP):Prop:=∀ k:Key,¬k.dp<dp→hp k=none
theorem oh(dp:Nat):ax dp (fun _=>none):=fun _ _=>rfl
theorem aF{dp:Nat}{hp:HP}{k:Key}{c:List AV}(hk:k.dp<dp)(h:ax dp hp):ax dp (ab hp k c):=by
 intro q hq
 have:q≠k:=fun e=>by subst e;exact hq hk
 rw [la this];exact h q hq
theorem bX{dp:Nat}{bx:List (Nat×List AV)}{hp:HP}(h:ax dp hp):ax (dp+1) (boxes dp bx hp):=by
 intro q hq
 simp only [boxes,if_neg (show ¬q.dp=dp by omega)]
 exact h q (by omega)
theorem MJ{dp:Nat}{bx:List (Nat×List AV)}{hp:HP}(h:ax dp hp):(fun k:Key=>if k.dp<dp then boxes dp bx hp k else none)=hp:=by
 funext q
 by_cases h1:q.dp<dp
 ·simp only [if_pos h1,boxes,if_neg (show ¬q.dp=dp by omega)]
 ·rw [if_neg h1,h q h1]
theorem U0{dp d d':Nat}(h:d≠d'):(⟨dp,d⟩:Key)≠⟨dp,d'⟩:=fun e=>h (congrArg Key.d e)
theorem aP{dp d:Nat}{k:Key}(h:k.dp<dp):k≠⟨dp,d⟩:=fun e=>by subst e;exact Nat.lt_irrefl _ h
theorem xE{dp d:Nat}{k:Key}(h:k.dp<dp):(⟨dp,d⟩:Key)≠k:=fun e=>aP h e.symm
theorem jP{E:Env}{f:FuncId}{ys:List AV}{h1 h1' h2 h2':HP}{x:AV}(e1:h1=h1')(e2:h2=h2')(h:call G Ω0 E f ys h1=some (.ret x,h2)):call G Ω0 E f ys h1'=some (.ret x,h2'):=e1▸e2▸h
theorem Pd{R:Type}{c:Prop}[Decidable c]{A B:Option R}{r:R}{P:Prop}(h:(if c then A else B)=some r)(h1:c→A=some r→P)(h2:¬c→B=some r→P):P:=by
 by_cases hc:c
 ·exact h1 hc (by rwa [if_pos hc] at h)
 ·exact h2 hc (by rwa [if_neg hc] at h)
theorem aco{R:Type}{c:Bool}{A B:Option R}{r:R}{P:Prop}(h:(if c=true then A else B)=some r)(h1:c=true→A=some r→P)(h2:c=false→B=some r→P):P:=by
 cases c with
 | true=>exact h1 rfl h
 | false=>exact h2 rfl h
def dG(n:Int):Option Nat:=if 0≤n then some n.toNat else none
theorem jQ{n:Int}{j:Nat}(h:dG n=some j):n=(j:Int):=by
 unfold dG at h;split at h
 ·obtain rfl:=Option.some.inj h;omega
 ·cases h
theorem Hi(n:Nat):dG (n:Int)=some n:=by simp [dG]
theorem eb{n:Int}(h:0≤n):dG n=some n.toNat:=by simp [dG,h]
theorem aR{R:Type}{c:Prop}[Decidable c]{A:Option R}{r:R}{P:Prop}(h:(if c then A else none)=some r)(h1:c→A=some r→P):P:=
 Pd h h1 fun _ h=>by cases h
theorem Zy{R:Type}{r:R}{P:Prop}(h:(none:Option R)=some r):P:=by cases h
theorem U1:aI.ret≠.nrm:=by intro h;cases h
theorem Zz(n:Nat):aI.ex n≠.nrm:=by intro h;cases h
def GF{α ε:Type}(S:α→St)(X:ε→aI×St):α⊕ε→St⊕(aI×St)
 | .inl w=>.inl (S w)
 | .inr x=>.inr (X x)
theorem bO{Q R:Type}{m:Option Q}{k:Q→Option R}{r:R}{T:Q→Prop}(h:m.bind k=some r)(h1:∀ x,m=some x→k x=some r→T x):∃ x,T x:=by
 obtain ⟨x,h2,h3⟩:=Option.bind_eq_some_iff.1 h
 exact ⟨x,h1 x h2 h3⟩
theorem rR{R:Type}{n:Int}{k:Nat→Option R}{r:R}{T:Nat→Prop}(h:(dG n).bind k=some r)(h1:∀ j:Nat,n=(j:Int)→k j=some r→T j):∃ j,T j:=
 bO h fun j hj h=>h1 j (jQ hj) h
theorem bZ{R:Type}{c:Prop}[Decidable c]{A B:Option R}{r:R}{T S:Prop}(h:(if c then A else B)=some r)(h1:c→A=some r→T)(h2:¬c→B=some r→S):T∨S:=
 Pd h (fun hc h=>.inl (h1 hc h)) fun hc h=>.inr (h2 hc h)
theorem bE{R:Type}{c:Bool}{A B:Option R}{r:R}{T S:Prop}(h:(if c=true then A else B)=some r)(h1:c=true→A=some r→T)(h2:c=false→B=some r→S):T∨S:=
 aco h (fun hc h=>.inl (h1 hc h)) fun hc h=>.inr (h2 hc h)
theorem acp{b0 b1 R:Type}{m:Option (b0⊕b1)}{K:b0⊕b1→Option R}{r:R}{T0:b0→Prop}{T1:b1→Prop}(h:m.bind K=some r)(p0:∀ a,m=some (.inl a)→K (.inl a)=some r→T0 a)(p1:∀ a,m=some (.inr a)→K (.inr a)=some r→T1 a):(∃ a,T0 a)∨(∃ a,T1 a):=by
 obtain ⟨x,h2,h3⟩:=Option.bind_eq_some_iff.1 h
 match x,h2,h3 with
 | .inl a,h2,h3=>exact .inl ⟨a,p0 a h2 h3⟩
 | .inr a,h2,h3=>exact .inr (⟨a,p1 a h2 h3⟩)
theorem acq{b0 b1 b2 R:Type}{m:Option (b0⊕(b1⊕b2))}{K:b0⊕(b1⊕b2)→Option R}{r:R}{T0:b0→Prop}{T1:b1→Prop}{T2:b2→Prop}(h:m.bind K=some r)(p0:∀ a,m=some (.inl a)→K (.inl a)=some r→T0 a)(p1:∀ a,m=some (.inr (.inl a))→K (.inr (.inl a))=some r→T1 a)(p2:∀ a,m=some (.inr (.inr a))→K (.inr (.inr a))=some r→T2 a):(∃ a,T0 a)∨(∃ a,T1 a)∨(∃ a,T2 a):=by
 obtain ⟨x,h2,h3⟩:=Option.bind_eq_some_iff.1 h
 match x,h2,h3 with
 | .inl a,h2,h3=>exact .inl ⟨a,p0 a h2 h3⟩
 | .inr (.inl a),h2,h3=>exact .inr (.inl ⟨a,p1 a h2 h3⟩)
 | .inr (.inr a),h2,h3=>exact .inr (.inr (⟨a,p2 a h2 h3⟩))
theorem acr{b0 b1 b2 b3 R:Type}{m:Option (b0⊕(b1⊕(b2⊕b3)))}{K:b0⊕(b1⊕(b2⊕b3))→Option R}{r:R}{T0:b0→Prop}{T1:b1→Prop}{T2:b2→Prop}{T3:b3→Prop}(h:m.bind K=some r)(p0:∀ a,m=some (.inl a)→K (.inl a)=some r→T0 a)(p1:∀ a,m=some (.inr (.inl a))→K (.inr (.inl a))=some r→T1 a)(p2:∀ a,m=some (.inr (.inr (.inl a)))→K (.inr (.inr (.inl a)))=some r→T2 a)(p3:∀ a,m=some (.inr (.inr (.inr a)))→K (.inr (.inr (.inr a)))=some r→T3 a):(∃ a,T0 a)∨(∃ a,T1 a)∨(∃ a,T2 a)∨(∃ a,T3 a):=by
 obtain ⟨x,h2,h3⟩:=Option.bind_eq_some_iff.1 h
 match x,h2,h3 with
 | .inl a,h2,h3=>exact .inl ⟨a,p0 a h2 h3⟩
 | .inr (.inl a),h2,h3=>exact .inr (.inl ⟨a,p1 a h2 h3⟩)
 | .inr (.inr (.inl a)),h2,h3=>exact .inr (.inr (.inl ⟨a,p2 a h2 h3⟩))
 | .inr (.inr (.inr a)),h2,h3=>exact .inr (.inr (.inr (⟨a,p3 a h2 h3⟩)))
theorem acs{b0 b1 b2 b3 b4 R:Type}{m:Option (b0⊕(b1⊕(b2⊕(b3⊕b4))))}{K:b0⊕(b1⊕(b2⊕(b3⊕b4)))→Option R}{r:R}{T0:b0→Prop}{T1:b1→Prop}{T2:b2→Prop}{T3:b3→Prop}{T4:b4→Prop}(h:m.bind K=some r)(p0:∀ a,m=some (.inl a)→K (.inl a)=some r→T0 a)(p1:∀ a,m=some (.inr (.inl a))→K (.inr (.inl a))=some r→T1 a)(p2:∀ a,m=some (.inr (.inr (.inl a)))→K (.inr (.inr (.inl a)))=some r→T2 a)(p3:∀ a,m=some (.inr (.inr (.inr (.inl a))))→K (.inr (.inr (.inr (.inl a))))=some r→T3 a)(p4:∀ a,m=some (.inr (.inr (.inr (.inr a))))→K (.inr (.inr (.inr (.inr a))))=some r→T4 a):(∃ a,T0 a)∨(∃ a,T1 a)∨(∃ a,T2 a)∨(∃ a,T3 a)∨(∃ a,T4 a):=by
 obtain ⟨x,h2,h3⟩:=Option.bind_eq_some_iff.1 h
 match x,h2,h3 with
 | .inl a,h2,h3=>exact .inl ⟨a,p0 a h2 h3⟩
 | .inr (.inl a),h2,h3=>exact .inr (.inl ⟨a,p1 a h2 h3⟩)
 | .inr (.inr (.inl a)),h2,h3=>exact .inr (.inr (.inl ⟨a,p2 a h2 h3⟩))
 | .inr (.inr (.inr (.inl a))),h2,h3=>exact .inr (.inr (.inr (.inl ⟨a,p3 a h2 h3⟩)))
 | .inr (.inr (.inr (.inr a))),h2,h3=>exact .inr (.inr (.inr (.inr (⟨a,p4 a h2 h3⟩))))
theorem lY{R V:Type}{Y:R→V}{a r:R}(h:some a=some r):Y a=Y r:=by rw [Option.some.inj h]
theorem ZA{α ε:Type}{E:Env}{l:bm}{S:α→St}{X:ε→aI×St}{v:α}{o:α⊕ε}{T:Prop}(a:AT)(h:T)(he:T=cW G Ω0 E l.x (S v) a fun e s _=>QH l.kf l.kb e s=GF S X o):bB E l S X v o:=by
 obtain ⟨e,s,_,h1,h2⟩:=tj l.x (he▸h)
 cases o with
 | inl w=>
  cases e with
  | nrm=>
   have h3:s.aH l.kf l.kb=S w:=Sum.inl.inj h2
   show (run G Ω0 E l.x (S v)).bind (kept l)=some (S w)
   rw [h1,←h3];rfl
  | ret=>cases h2
  | ex id=>cases h2
 | inr x=>
  cases e with
  | nrm=>cases h2
  | ret=>
   have h3:(aI.ret,s)=X x:=Sum.inr.inj h2
   exact ⟨by rw [h1,h3],by rw [←h3];exact U1⟩
  | ex id=>
   have h3:(aI.ex id,s)=X x:=Sum.inr.inj h2
   exact ⟨by rw [h1,h3],by rw [←h3];exact Zz _⟩
theorem cO{E:Env}{f:FuncId}{ys:List AV}{x:AV}{dp:Nat}{bx:List (Nat×List AV)}{hp:HP}{k:Key}{c c':List AV}(hk:k.dp<dp)(h:call G Ω0 E f ys (ab (boxes dp bx (ab hp k c)) k c)=some (.ret x,ab (boxes dp bx (ab hp k c)) k c')):call G Ω0 E f ys (boxes dp bx (ab hp k c))=some (.ret x,boxes dp bx (ab hp k c')):=
 jP (dA (Nat.ne_of_lt hk) (dI ..)) (dA (Nat.ne_of_lt hk) (dI ..)) h
theorem sw2{dp:Nat}{bx:List (Nat×List AV)}{hp:HP}{k0 k1:Key}{a b a' b':List AV}(h0:k0.dp<dp)(h1:k1.dp<dp)(n01:k0≠k1) :
  ab (ab (boxes dp bx (ab (ab hp k0 a) k1 b)) k0 a') k1 b'=boxes dp bx (ab (ab hp k0 a') k1 b'):=
 ij (dA (Nat.ne_of_lt h0) (sB (Ne.symm n01) (dI ..))) (dA (Nat.ne_of_lt h1) (dI ..))
theorem sw3{dp:Nat}{bx:List (Nat×List AV)}{hp:HP}{k0 k1 k2:Key}{a b c a' b' c':List AV}(h0:k0.dp<dp)(h1:k1.dp<dp)(h2:k2.dp<dp)(n01:k0≠k1)(n02:k0≠k2)(n12:k1≠k2) :
  ab (ab (ab (boxes dp bx (ab (ab (ab hp k0 a) k1 b) k2 c)) k0 a') k1 b') k2 c'=boxes dp bx (ab (ab (ab hp k0 a') k1 b') k2 c'):=
 ij (ij (dA (Nat.ne_of_lt h0) (sB (Ne.symm n02) (sB (Ne.symm n01) (dI ..)))) (dA (Nat.ne_of_lt h1) (sB (Ne.symm n12) (dI ..)))) (dA (Nat.ne_of_lt h2) (dI ..))
theorem JU{E:Env}{f:FuncId}{ys:List AV}{x:AV}{dp:Nat}{bx:List (Nat×List AV)}{hp:HP}{k0 k1:Key}{a b a' b':List AV}(h0:k0.dp<dp)(h1:k1.dp<dp)(n01:k0≠k1)(h:call G Ω0 E f ys (ab (ab (boxes dp bx (ab (ab hp k0 a) k1 b)) k0 a) k1 b)=some (.ret x,ab (ab (boxes dp bx (ab (ab hp k0 a) k1 b)) k0 a') k1 b')) :
  call G Ω0 E f ys (boxes dp bx (ab (ab hp k0 a) k1 b))=some (.ret x,boxes dp bx (ab (ab hp k0 a') k1 b')):=jP (sw2 h0 h1 n01) (sw2 h0 h1 n01) h
theorem U2{E:Env}{f:FuncId}{ys:List AV}{x:AV}{dp:Nat}{bx:List (Nat×List AV)}{hp:HP}{k0 k1 k2:Key}{a b c a' b' c':List AV}(h0:k0.dp<dp)(h1:k1.dp<dp)(h2:k2.dp<dp)(n01:k0≠k1)(n02:k0≠k2)(n12:k1≠k2)(h:call G Ω0 E f ys (ab (ab (ab (boxes dp bx (ab (ab (ab hp k0 a) k1 b) k2 c)) k0 a) k1 b) k2 c)=some (.ret x,ab (ab (ab (boxes dp bx (ab (ab (ab hp k0 a) k1 b) k2 c)) k0 a') k1 b') k2 c')) :
  call G Ω0 E f ys (boxes dp bx (ab (ab (ab hp k0 a) k1 b) k2 c))=some (.ret x,boxes dp bx (ab (ab (ab hp k0 a') k1 b') k2 c')):=jP (sw3 h0 h1 h2 n01 n02 n12) (sw3 h0 h1 h2 n01 n02 n12) h
theorem Li{hp:HP}{k0 k1:Key}{a b:List AV}(n01:k0≠k1):(ab (ab hp k0 a) k1 b) k0=some a:=(la n01).trans (cD ..)
theorem acu{hp:HP}{k0 k1 k2:Key}{a b c:List AV}(n01:k0≠k1)(n02:k0≠k2):(ab (ab (ab hp k0 a) k1 b) k2 c) k0=some a:=(la n02).trans (Li n01)
abbrev JS.cu(p:aI×St):JS:=.lp p.1 p.2
abbrev JS.uz(p:aI×St):JS:=.fr p.1 p.2
theorem vp{α ε:Type}{B:α→Option (α⊕ε)}(n:Nat)(f:Nat→α){x:ε}(hs:∀ k,k<n→B (f k)=some (.inl (f (k+1))))(he:B (f n)=some (.inr x)):lp B (f 0)=some x:=by
 have:∀ m k,k+m=n→lp B (f k)=some x:=by
  intro m
  induction m with
  | zero=>
    intro k hk;obtain rfl:k=n:=by omega
    exact ji he
  | succ m ih=>intro k hk;rw [ma (hs k (by omega))];exact ih (k+1) (by omega)
 exact this n 0 (by omega)
theorem oX{α ε:Type}{B:α→Option (α⊕ε)}(m:α→Nat)(Inv:α→Prop)(Q:ε→Prop)(step:∀ a,Inv a→(∃ x,B a=some (.inr x)∧Q x)∨∃ b,B a=some (.inl b)∧Inv b∧m b<m a):∀ a,Inv a→∃ x,lp B a=some x∧Q x:=by
 have:∀ n a,m a<n→Inv a→∃ x,lp B a=some x∧Q x:=by
  intro n
  induction n with
  | zero=>intro a h;omega
  | succ n ih=>
   intro a h hi
   rcases step a hi with ⟨x,h1,h2⟩ | ⟨b,h1,h2,h3⟩
   ·exact ⟨x,ji h1,h2⟩
   ·rw [ma h1];exact ih b (by omega) h2
 exact fun a=>this (m a+1) a (Nat.lt_succ_self _)
theorem Pe{t:TypeId}{n:Int}(h:0≤n∧n≤1000000):nJ t [.n,.i .i64 n]=some (.o t []):=by
 simp [nJ,h.1,h.2]
theorem oi{E:Env}{f:FuncId}{ys:List AV}{dp:Nat}{bx bx':List (Nat×List AV)}{hp hp':HP}{y:aQ}(_:call G Ω0 E f ys (boxes dp bx hp)=some (y,boxes dp bx' hp'))(h:bx'.map Prod.fst=bx.map Prod.fst)(hn:Aa (bx.map Prod.fst)=true):bC dp (boxes dp bx' hp') bx=bx':=Jc h hn
theorem oj{E:Env}{f:FuncId}{ys:List AV}{dp:Nat}{bx bx':List (Nat×List AV)}{hp hp':HP}{y:aQ}(_:call G Ω0 E f ys (boxes dp bx hp)=some (y,boxes dp bx' hp'))(hz:ax dp hp'):(fun k:Key=>if k.dp<dp then boxes dp bx' hp' k else none)=hp':=MJ hz
theorem g1{x y:Bool}(h:x=y):(x==true)=(y==true):=congrArg (fun z=>z==true) h
theorem g0{x y:Bool}(h:x=y):(x==false)=(y==false):=congrArg (fun z=>z==false) h
theorem JV{α:Type}{ts:List TypeId}{f:α→AV}(h:∀ x,(f x).off ts=true):∀ l:List α,AV.ua ts (l.map f)=true
 | []=>rfl
 | x::l=>by simp only [List.map_cons,AV.ua,h x,JV h l,Bool.and_self]
theorem Pf(ts:List TypeId)(l:List Bool):AV.ua ts (l.map AV.b)=true:=JV (fun _=>by simp only [AV.off]) l
noncomputable def ev{α:Type}(x:Nat→Option α):Option α:=open Classical in if h:∃ r,∃ n0,∀ n,n0≤n→x n=some r then some (Classical.choose h) else none
theorem vc{α:Type}{x:Nat→Option α}{r:α}(h:ev x=some r):∃ n,x n=some r:=by
 unfold ev at h
 split at h
 ·rename_i hex
  obtain ⟨n0,hn⟩:=Classical.choose_spec hex
  exact ⟨n0,by rw [hn n0 (Nat.le_refl _)];exact h⟩
 ·cases h
theorem Ba{α:Type}{x:Nat→Option α}{r:α}(n0:Nat)(h:∀ n,n0≤n→x n=some r):ev x=some r:=by
 unfold ev
 have hex:∃ r,∃ n0,∀ n,n0≤n→x n=some r:=⟨r,n0,h⟩
 rw [dif_pos hex]
 obtain ⟨n1,h1⟩:=Classical.choose_spec hex
 have:=h1 (max n0 n1) (Nat.le_max_right _ _)
 rw [h (max n0 n1) (Nat.le_max_left _ _)] at this
 exact this.symm
def Lj(b:Bool)(n:Int):Option (List Bool):=if 0≤n∧n≤1000000 then some (List.replicate n.toNat b) else none
theorem Re{t u:TypeId}{b:Bool}{n:Int}{r:List Bool}(h:Lj b n=some r):rP t [.l u [.b b],.i .i64 n]=some (.l t (r.map AV.b)):=by
 unfold Lj at h
 split at h
 ·rename_i hn
  obtain rfl:=Option.some.inj h
  simp only [rP,if_pos hn,List.map_replicate]
 ·cases h
theorem aJ{R:Type}{E:Env}{f:FuncId}{fn:aZ}{ys:List AV}{hp:HP}{Y:R→aQ×HP}{r:R}{T:Prop}(hG:G f=some fn)(a:AT)(h:(∀ {a:R},some a=some r→Y a=Y r)→T)(he:T=Lc G Ω0 E fn ys hp a fun y h=>(aQ.ret y,h)=Y r:=by kernel_rfl):call G Ω0 E f ys hp=some (Y r):=Zv hG a (h lY) he
theorem Rf{R:Type}{E:Env}{f:FuncId}{fn:aZ}{ys:List AV}{hp:HP}{Y:R→aQ×HP}{r:R}{T:Prop}(hG:G f=some fn)(a:AT)(h:(∀ {a:R},some a=some r→Y a=Y r)→T)(he:T=Hb G Ω0 E fn ys hp a fun y h=>(aQ.new y,h)=Y r:=by kernel_rfl):call G Ω0 E f ys hp=some (Y r):=UZ hG a (h lY) he
theorem Lk{R:Type}{E:Env}{c:AC}{st:St}{Y:R→aI×St}{r:R}{T:Prop}(a:AT)(h:(∀ {a:R},some a=some r→Y a=Y r)→T)(he:T=cW G Ω0 E c st a fun e s _=>(e,s)=Y r:=by kernel_rfl):run G Ω0 E c st=some (Y r):=runT a (h lY) he
theorem m7{R:Type}{E:Env}{kf kb:List Nat}{gs:List dL}{st:St}{Y:R→St}{r:R}{T:Prop}(a:AT)(h:(∀ {a:R},some a=some r→Y a=Y r)→T)(he:T=zW G Ω0 E kf kb st gs a fun s _=>s=Y r:=by kernel_rfl):nv G Ω0 E kf kb gs st=some (Y r):=Zw a (h lY) he
theorem Hj{R:Type}{E:Env}{kf kb:List Nat}{gs:List bw}{st:St}{Y:R→St}{r:R}{T:Prop}(a:AT)(h:(∀ {a:R},some a=some r→Y a=Y r)→T)(he:T=zX G Ω0 E kf kb st gs a fun s _=>s=Y r:=by kernel_rfl):yD G Ω0 E kf kb gs st=some (Y r):=Zx a (h lY) he
theorem bL{α ε:Type}{E:Env}{l:bm}{S:α→St}{X:ε→aI×St}{v:α}{o:α⊕ε}{T:Prop}(a:AT)(h:(∀ {a:α⊕ε},some a=some o→GF S X a=GF S X o)→T)(he:T=cW G Ω0 E l.x (S v) a fun e s _=>QH l.kf l.kb e s=GF S X o:=by kernel_rfl):bB E l S X v o:=ZA a (h lY) he
theorem aT{Q R:Type}{m:Option Q}{k:Q→Option R}{r:R}{O T:Q→Prop}(h:m.bind k=some r)(l:∀ x,m=some x→O x)(h1:∀ x,k x=some r→T x):∃ x,O x∧T x:=bO h fun x e h=>⟨l x e,h1 x h⟩
theorem ec{b0 b1 R:Type}{m:Option (b0⊕b1)}{K:b0⊕b1→Option R}{r:R}{O:b0⊕b1→Prop}{T0:b0→Prop}{T1:b1→Prop}(h:m.bind K=some r)(l:∀ x,m=some x→O x)(p0:∀ a,K (.inl a)=some r→T0 a)(p1:∀ a,K (.inr a)=some r→T1 a):(∃ a,O (.inl a)∧T0 a)∨(∃ a,O (.inr a)∧T1 a):=acp h (fun a e h=>⟨l _ e,p0 a h⟩) (fun a e h=>⟨l _ e,p1 a h⟩)
theorem QI{b0 b1 b2 R:Type}{m:Option (b0⊕(b1⊕b2))}{K:b0⊕(b1⊕b2)→Option R}{r:R}{O:b0⊕(b1⊕b2)→Prop}{T0:b0→Prop}{T1:b1→Prop}{T2:b2→Prop}(h:m.bind K=some r)(l:∀ x,m=some x→O x)(p0:∀ a,K (.inl a)=some r→T0 a)(p1:∀ a,K (.inr (.inl a))=some r→T1 a)(p2:∀ a,K (.inr (.inr a))=some r→T2 a):(∃ a,O (.inl a)∧T0 a)∨(∃ a,O (.inr (.inl a))∧T1 a)∨(∃ a,O (.inr (.inr a))∧T2 a):=acq h (fun a e h=>⟨l _ e,p0 a h⟩) (fun a e h=>⟨l _ e,p1 a h⟩) (fun a e h=>⟨l _ e,p2 a h⟩)
theorem QJ{b0 b1 b2 b3 R:Type}{m:Option (b0⊕(b1⊕(b2⊕b3)))}{K:b0⊕(b1⊕(b2⊕b3))→Option R}{r:R}{O:b0⊕(b1⊕(b2⊕b3))→Prop}{T0:b0→Prop}{T1:b1→Prop}{T2:b2→Prop}{T3:b3→Prop}(h:m.bind K=some r)(l:∀ x,m=some x→O x)(p0:∀ a,K (.inl a)=some r→T0 a)(p1:∀ a,K (.inr (.inl a))=some r→T1 a)(p2:∀ a,K (.inr (.inr (.inl a)))=some r→T2 a)(p3:∀ a,K (.inr (.inr (.inr a)))=some r→T3 a):(∃ a,O (.inl a)∧T0 a)∨(∃ a,O (.inr (.inl a))∧T1 a)∨(∃ a,O (.inr (.inr (.inl a)))∧T2 a)∨(∃ a,O (.inr (.inr (.inr a)))∧T3 a):=acr h (fun a e h=>⟨l _ e,p0 a h⟩) (fun a e h=>⟨l _ e,p1 a h⟩) (fun a e h=>⟨l _ e,p2 a h⟩) (fun a e h=>⟨l _ e,p3 a h⟩)
theorem adb{b0 b1 b2 b3 b4 R:Type}{m:Option (b0⊕(b1⊕(b2⊕(b3⊕b4))))}{K:b0⊕(b1⊕(b2⊕(b3⊕b4)))→Option R}{r:R}{O:b0⊕(b1⊕(b2⊕(b3⊕b4)))→Prop}{T0:b0→Prop}{T1:b1→Prop}{T2:b2→Prop}{T3:b3→Prop}{T4:b4→Prop}(h:m.bind K=some r)(l:∀ x,m=some x→O x)(p0:∀ a,K (.inl a)=some r→T0 a)(p1:∀ a,K (.inr (.inl a))=some r→T1 a)(p2:∀ a,K (.inr (.inr (.inl a)))=some r→T2 a)(p3:∀ a,K (.inr (.inr (.inr (.inl a))))=some r→T3 a)(p4:∀ a,K (.inr (.inr (.inr (.inr a))))=some r→T4 a):(∃ a,O (.inl a)∧T0 a)∨(∃ a,O (.inr (.inl a))∧T1 a)∨(∃ a,O (.inr (.inr (.inl a)))∧T2 a)∨(∃ a,O (.inr (.inr (.inr (.inl a))))∧T3 a)∨(∃ a,O (.inr (.inr (.inr (.inr a))))∧T4 a):=acs h (fun a e h=>⟨l _ e,p0 a h⟩) (fun a e h=>⟨l _ e,p1 a h⟩) (fun a e h=>⟨l _ e,p2 a h⟩) (fun a e h=>⟨l _ e,p3 a h⟩) (fun a e h=>⟨l _ e,p4 a h⟩)
theorem gl{α ε:Type}{E:Env}{B:α→Option (α⊕ε)}{l:bm}{S:α→St}{X:ε→aI×St}(hb:∀ v o,B v=some o→bB E l S X v o)(v:α)(x:ε)(h:lp B v=some x)(hk:∀ v,(S v).aH l.kf l.kb=S v:=by exact fun _=>rfl):ju G Ω0 E l (S v)=some (X x):=xD l S X hk hb h
theorem rI(n:Nat):(n:Int)=(n:Int):=rfl
theorem rN(n:Nat):n=n:=rfl
theorem okR{k:Key}{dp:Nat}(h:k.dp<dp)(ns:List Nat):(k7 dp ns (.p k 0)&&okB dp [] (.p k 0))=true:=by simp [k7,okB,jc,AV.bb,AV.bM,AV.fe,aP h]
abbrev xB(f:Bool→AT):AT:=.ex fun r=>ao (.v (.b r)) (f r)
abbrev xI(f:Int→AT):AT:=.ex fun r=>ao (.v (I r)) (f r)
abbrev xN(f:Nat→AT):AT:=.ex fun r=>ao (.n r) (f r)
abbrev oN(r:AT):AT:=.or (bt .nil) (bf r)
theorem pL{p:Prop}{x y:Bool}(H:x=y)(h:p):(x==false)=(y==false)∧x=y∧p:=⟨g0 H,H,h⟩
theorem uA{p:Prop}{q:Prop}(H:q)(h:p):q∧Z0∧p:=⟨H,rfl,h⟩
theorem sj{p:Prop}{x y:Bool}(H:x=y)(h:p):(x==true)=(y==true)∧x=y∧p:=⟨g1 H,H,h⟩
theorem MK{p:Prop}{x y:Bool}(H:x=y)(h:p):(x==false)=(y==false)∧(x==false)=(y==false)∧Z0∧(x==false)=(y==false)∧p:=⟨g0 H,g0 H,rfl,g0 H,h⟩
theorem Fp{p:Prop}{x y:Bool}(H:x=y)(h:p):(x==false)=(y==false)∧(x==false)=(y==false)∧(x==false)=(y==false)∧(x==false)=(y==false)∧x=y∧p:=⟨g0 H,g0 H,g0 H,g0 H,H,h⟩
theorem ML{p:Prop}(h:p):true=true∧false=false∧Z0∧true=true∧Z0∧Z0∧p:=⟨rfl,rfl,rfl,rfl,rfl,rfl,h⟩
theorem tI{p:Prop}{x y:Bool}(H:x=y)(h:p):(x==true)=(y==true)∧(x==true)=(y==true)∧x=y∧p:=⟨g1 H,g1 H,H,h⟩
theorem cP{p:Prop}{x y:Bool}(H:x=y)(h:p):(x==false)=(y==false)∧(x==false)=(y==false)∧p:=⟨g0 H,g0 H,h⟩
theorem Fq{p:Prop}{x y:Bool}(H:x=y)(h:p):(x==false)=(y==false)∧(x==false)=(y==false)∧(x==false)=(y==false)∧p:=⟨g0 H,g0 H,g0 H,h⟩
theorem JW{p:Prop}{x y:Bool}(H:x=y)(h:p):(x==true)=(y==true)∧(x==true)=(y==true)∧(x==true)=(y==true)∧p:=⟨g1 H,g1 H,g1 H,h⟩
theorem Pg{p:Prop}{x y:Bool}(H:x=y)(h:p):(x==true)=(y==true)∧(x==true)=(y==true)∧(x==true)=(y==true)∧(x==true)=(y==true)∧(x==true)=(y==true)∧x=y∧p:=⟨g1 H,g1 H,g1 H,g1 H,g1 H,H,h⟩
theorem bG{p:Prop}{x y:Bool}(H:x=y)(h:p):(x==true)=(y==true)∧(x==true)=(y==true)∧p:=⟨g1 H,g1 H,h⟩
theorem Ll{p:Prop}(h:p):false=false∧Z0∧true=true∧Z0∧Z0∧p:=⟨rfl,rfl,rfl,rfl,rfl,h⟩
theorem yF{p:Prop}(h:p):true=true∧true=true∧true=true∧p:=⟨rfl,rfl,rfl,h⟩
theorem Ab{p:Prop}(h:p):true=true∧true=true∧Z0∧true=true∧p:=⟨rfl,rfl,rfl,rfl,h⟩
theorem Hk{p:Prop}{q:Prop}(H:q)(h:p):q∧true=true∧true=true∧Z0∧true=true∧true=true∧Z0∧true=true∧true=true∧p:=⟨H,rfl,rfl,rfl,rfl,rfl,rfl,rfl,rfl,h⟩
theorem Ef{p:Prop}(h:p):true=true∧false=false∧Z0∧Z0∧Z0∧p:=⟨rfl,rfl,rfl,rfl,rfl,h⟩
theorem bJ{p:Prop}(h:p):true=true∧true=true∧p:=⟨rfl,rfl,h⟩
theorem dO{p:Prop}(h:p):true=true∧Z0∧p:=⟨rfl,rfl,h⟩
theorem jd{p:Prop}(h:p):false=false∧Z0∧p:=⟨rfl,rfl,h⟩
theorem vt{p:Prop}{x y:Bool}(H:x=y)(h:p):(x==true)=(y==true)∧true=true∧(x==true)=(y==true)∧p:=⟨g1 H,rfl,g1 H,h⟩
theorem mO{p:Prop}(h:p):false=false∧true=true∧p:=⟨rfl,rfl,h⟩
theorem rS{p:Prop}{x y:Bool}(H:x=y)(h:p):true=true∧(x==false)=(y==false)∧p:=⟨rfl,g0 H,h⟩
abbrev ew(r:AT):AT:=bt<|bt<|bt r
abbrev gT(r:AT):AT:=bt<|bt r
abbrev tJ(r:AT):AT:=bt<|bt<|bt<|bt<|bt r
abbrev vu(r:AT):AT:=bt<|bf r
abbrev zu(r:AT):AT:=bt<|bt<|bt<|bt r
abbrev Fs(r:AT):AT:=bf<|bf<|bf<|bf<|bt r
abbrev Ft(r:AT):AT:=bf<|bf<|bf r
abbrev MN(r:AT):AT:=bt<|bt<|bt<|bt<|bt<|bt r
abbrev MO(r:AT):AT:=bt<|bt<|bt<|bt<|bt<|bt<|bf r
abbrev MP(r:AT):AT:=bf<|bf<|bf<|bf<|bf<|bf r
abbrev Lm(r:AT):AT:=bf<|bf<|bf<|bt<|bf<|bf r
abbrev Ln(r:AT):AT:=bt<|bt<|bt<|bf r
abbrev Ph(r:AT):AT:=bt<|bt<|bt<|bt<|bf r
abbrev Pj(r:AT):AT:=bf<|bf<|bf<|bf<|bf<|bf<|bf r
abbrev Pk(r:AT):AT:=bf<|bf<|bf<|bf<|bt<|bf<|bf r
abbrev U3(r:AT):AT:=bf<|bf<|bf<|bf<|bf<|bf<|bf<|bf<|bf<|bf<|bf r
abbrev U4(r:AT):AT:=bf<|bf<|bf<|bf<|bf<|bf<|bf<|bt<|bt r
abbrev U5(r:AT):AT:=bf<|bf<|bf<|bf<|bf<|bf<|bf<|bt<|bf<|bf<|bf<|bf<|bf<|bf<|bf<|bt<|bt r
end Go.Proofs.YtkkkkondjclcnaaGreat.A
