/- Plain functions: loops as least fixed points, and how what they answer is told of the abstract run. -/
import Derived.Test.YtkkkkondjclcnaaBase
set_option linter.unusedSectionVars false
set_option linter.unusedVariables false
set_option linter.unusedSimpArgs false
set_option linter.constructorNameAsVariable false
namespace Go.Proofs.Ytkkkkondjclcnaa.A
open Go
def mX{α ε:Type}(B:α→Option (α⊕ε)):Nat→α→Option ε
 | 0,_=>none
 | n+1,v=>match B v with
  | some (.inl w)=>mX B n w
  | some (.inr x)=>some x
  | none=>none
class Lp where
 run : {α ε:Type}→(α→Option (α⊕ε))→α→Option ε
 sound:∀ {α ε:Type}{B:α→Option (α⊕ε)}{v:α}{x:ε},run B v=some x→∃ n,mX B n v=some x
 told:∀ {α ε:Type}{B:α→Option (α⊕ε)}{v:α}{x:ε}(n:Nat),mX B n v=some x→run B v=some x
abbrev lp[Lp]{α ε:Type}(B:α→Option (α⊕ε))(v:α):Option ε:=Lp.run B v
theorem tT[Lp]{α ε:Type}{B:α→Option (α⊕ε)}{v:α}{x:ε}(h:lp B v=some x):∃ n,mX B n v=some x:=Lp.sound h
theorem Fw[Lp]{α ε:Type}{B:α→Option (α⊕ε)}{v:α}{x:ε}(n:Nat)(h:mX B n v=some x):lp B v=some x:=Lp.told n h
theorem Cm{α ε:Type}{B:α→Option (α⊕ε)} : ∀ {n:Nat}{v:α}{x:ε},mX B n v=some x→mX B (n+1) v=some x
 | 0,_,_,h=>by cases h
 | n+1,v,x,h=>by
  rw [mX] at h ⊢
  split at h
  ·exact Cm h
  ·exact h
  ·exact h
theorem Gj{α ε:Type}{B:α→Option (α⊕ε)}{n m:Nat}{v:α}{x:ε}(hm:n≤m)(h:mX B n v=some x):mX B m v=some x:=by
 induction hm with
 | refl=>exact h
 | step _ ih=>exact Cm ih
theorem JX{α ε:Type}{B:α→Option (α⊕ε)}{n m:Nat}{v:α}{x y:ε}(h:mX B n v=some x)(h':mX B m v=some y):x=y:=by
 have h1:=Gj (Nat.le_max_left n m) h
 rw [Gj (Nat.le_max_right n m) h'] at h1
 exact (Option.some.inj h1).symm
theorem Gk:Nonempty Lp:=by
 refine ⟨⟨fun {α ε} B v=>open Classical in if h:∃ n,(mX B n v).isSome then mX B h.choose v else none,fun {α ε B v x} h=>?_,fun {α ε B v x} n h=>?_⟩⟩
 ·split at h
  ·rename_i hn;exact ⟨_,h⟩
  ·cases h
 ·have hn:∃ n,(mX B n v).isSome:=⟨n,by rw [h];rfl⟩
  rw [dif_pos hn]
  have:=hn.choose_spec
  obtain ⟨y,hy⟩:=Option.isSome_iff_exists.1 this
  rw [hy,JX hy h]
variable [Lp]
section
variable {α ε:Type}{B:α→Option (α⊕ε)}
theorem fN{v:α}{x:ε}(h:B v=some (.inr x)):lp B v=some x:=Fw 1 (by rw [mX,h])
theorem ji{v w:α}(h:B v=some (.inl w)):lp B v=lp B w:=by
 cases hw:lp B w with
 | some x=>obtain ⟨n,hn⟩:=tT hw;exact Fw (n+1) (by rw [mX,h];exact hn)
 | none=>
  cases hv:lp B v with
  | none=>rfl
  | some x=>
   obtain ⟨n,hn⟩:=tT hv
   cases n with
   | zero=>cases hn
   | succ n=>rw [mX,h] at hn;rw [Fw n hn] at hw;cases hw
end
def bG{α ε:Type}(E:Env)(l:bm)(S:α→St)(X:ε→aE×St)(v:α):α⊕ε→Prop
 | .inl w=>(run G Ω0 E l.x (S v)).bind (kept l)=some (S w)
 | .inr x=>run G Ω0 E l.x (S v)=some (X x)∧(X x).1≠.nrm
theorem JY{α ε:Type}{E:Env}{B:α→Option (α⊕ε)}(l:bm)(S:α→St)(X:ε→aE×St)(hk:∀ v,(S v).aD l.kf l.kb=S v)(hb:∀ v o,B v=some o→bG E l S X v o){v:α}{x:ε}(h:lp B v=some x):mI G Ω0 E l (S v)=some (X x):=by
 obtain ⟨n,hn⟩:=tT h
 clear h
 induction n generalizing v with
 | zero=>cases hn
 | succ n ih=>
  rw [mX] at hn
  split at hn
  ·rename_i w hw
   rw [gq (by rw [hk];exact hb v _ hw)]
   exact ih hn
  ·rename_i y hy
   obtain rfl:=Option.some.inj hn
   obtain ⟨h1,h2⟩:=hb v _ hy
   exact iW (by rw [hk];exact h1) h2
  ·cases hn
def boxes(dp:Nat)(bx:List (Nat×List AV))(hp:HP):HP:=fun k=>if k.dp=dp then aq bx k.d else hp k
theorem jj{hp:HP}{k k':Key}{cs:List AV}(h:k≠k'):aj hp k' cs k=hp k:=by simp only [aj,if_neg h]
theorem qS{h h':HP}{k k':Key}{c d:List AV}(hn:k'≠k)(e:aj h k c=h'):aj (aj h k' d) k c=aj h' k' d:=by
 subst e
 funext q
 simp only [aj]
 by_cases h1:q=k
 ·subst h1;simp [Ne.symm hn]
 ·simp [h1]
theorem JZ{dp:Nat}{bx:List (Nat×List AV)}{hp:HP}{k:Key}{c:List AV}(h:k.dp≠dp):aj (boxes dp bx hp) k c=boxes dp bx (aj hp k c):=by
 funext q
 simp only [aj,boxes]
 by_cases h1:q=k
 ·subst h1;simp [h]
 ·simp [h1]
theorem Fx{bx:List (Nat×List AV)}{d d':Nat}{c:List AV}(h:(aq bx d).isSome=true):aq (fV bx d c) d'=if d'=d then some c else aq bx d':=by
 induction bx with
 | nil=>simp [aq] at h
 | cons x bx ih=>
  obtain ⟨k,cs⟩:=x
  by_cases hk:k=d
  ·subst hk
   by_cases hd:d'=k
   ·subst hd;simp [fV,aq]
   ·have:¬k=d':=fun e=>hd e.symm
    simp [fV,aq,hd,this]
  ·have h2:(aq bx d).isSome=true:=by simpa [aq,hk] using h
   have:=ih h2
   by_cases hd:k=d'
   ·subst hd
    simp [fV,aq,hk]
   ·simp [fV,aq,hk,hd,this]
theorem J0{dp:Nat}{bx:List (Nat×List AV)}{hp:HP}{d:Nat}{c:List AV}(h:(aq bx d).isSome=true):aj (boxes dp bx hp) ⟨dp,d⟩ c=boxes dp (fV bx d c) hp:=by
 funext q
 obtain ⟨qd,q'⟩:=q
 simp only [aj,boxes,Fx h,Key.mk.injEq]
 by_cases h1:qd=dp
 ·simp [h1]
 ·simp [h1]
theorem fJ{dp:Nat}{bx bx1:List (Nat×List AV)}{hp:HP}{d:Nat}{c:List AV}(h:(aq bx d).isSome=true)(hb:fV bx d c=bx1):aj (boxes dp bx hp) ⟨dp,d⟩ c=boxes dp bx1 hp:=hb▸J0 h
theorem jG{dp:Nat}{bx:List (Nat×List AV)}{hp hp1:HP}{k:Key}{c:List AV}(h:k.dp≠dp)(hh:aj hp k c=hp1):aj (boxes dp bx hp) k c=boxes dp bx hp1:=hh▸JZ h
theorem oO{H H1 H2:HP}{k:Key}{c:List AV}(h:H=H1)(h':aj H1 k c=H2):aj H k c=H2:=h▸h'
def vc:List Nat→Bool
 | []=>true
 | x::l=>l.all (fun y=>x !=y)&&vc l
theorem Cn:∀ {l:List Nat},vc l=true→l.Nodup
 | [],_=>List.nodup_nil
 | x::l,h=>by
  simp only [vc,Bool.and_eq_true,List.all_eq_true,bne_iff_ne,ne_eq] at h
  exact List.nodup_cons.2 ⟨fun hm=>h.1 x hm rfl,Cn h.2⟩
theorem DQ{dp:Nat}{bx bx':List (Nat×List AV)}{hp:HP}(h:bx'.map Prod.fst=bx.map Prod.fst)(hn0:vc (bx.map Prod.fst)=true):da dp (boxes dp bx' hp) bx=bx':=by
 have hn:=Cn hn0
 clear hn0
 have key:∀ (l l':List (Nat×List AV)),l'.map Prod.fst=l.map Prod.fst→(l.map Prod.fst).Nodup→(∀ x∈l',aq bx' x.1=some x.2)→da dp (boxes dp bx' hp) l=l':=by
  intro l
  induction l with
  | nil=>intro l' hl _ _;cases l' with
   | nil=>rfl
   | cons _ _=>cases hl
  | cons y l ih=>
   intro l' hl hnd hg
   cases l' with
   | nil=>cases hl
   | cons x l'=>
    simp only [List.map_cons,List.cons.injEq] at hl
    obtain ⟨d,cs⟩:=y
    obtain ⟨d',cs'⟩:=x
    obtain ⟨rfl,hl⟩:=hl
    have h1:=hg (d',cs') (by simp)
    simp only [da,boxes,if_true,h1]
    rw [ih l' hl (List.nodup_cons.1 hnd).2 fun x hx=>hg x (by simp [hx])]
 refine key bx bx' h hn fun x hx=>?_
 have hn':(bx'.map Prod.fst).Nodup:=by rw [h];exact hn
 clear key h hn
 induction bx' with
 | nil=>cases hx
 | cons y bx' ih=>
  obtain ⟨d,cs⟩:=y
  rcases List.mem_cons.1 hx with rfl | hx
  ·simp [aq]
  ·have hne:¬d=x.1:=fun e=>(List.nodup_cons.1 hn').1 (List.mem_map.2 ⟨x,hx,e.symm⟩)
   simp only [aq,if_neg hne]
   exact ih hx (List.nodup_cons.1 hn').2
def aS(dp:Nat)(hp:HP):Prop:=∀ k:Key,¬k.dp<dp→hp k=none
theorem kZ(dp:Nat):aS dp (fun _=>none):=fun _ _=>rfl
theorem bc{dp:Nat}{hp:HP}{k:Key}{c:List AV}(hk:k.dp<dp)(h:aS dp hp):aS dp (aj hp k c):=by
 intro q hq
 have:q≠k:=fun e=>by subst e;exact hq hk
 rw [jj this];exact h q hq
theorem dO{dp:Nat}{bx:List (Nat×List AV)}{hp:HP}(h:aS dp hp):aS (dp+1) (boxes dp bx hp):=by
 intro q hq
 simp only [boxes,if_neg (show ¬q.dp=dp by omega)]
 exact h q (by omega)
theorem Gl{dp:Nat}{bx:List (Nat×List AV)}{hp:HP}(h:aS dp hp):(fun k:Key=>if k.dp<dp then boxes dp bx hp k else none)=hp:=by
 funext q
 by_cases h1:q.dp<dp
 ·simp only [if_pos h1,boxes,if_neg (show ¬q.dp=dp by omega)]
 ·rw [if_neg h1,h q h1]
theorem Mi{dp d d':Nat}(h:d≠d'):(⟨dp,d⟩:Key)≠⟨dp,d'⟩:=fun e=>h (congrArg Key.d e)
theorem bH{dp d:Nat}{k:Key}(h:k.dp<dp):k≠⟨dp,d⟩:=fun e=>by subst e;exact Nat.lt_irrefl _ h
theorem Eg{dp d:Nat}{k:Key}(h:k.dp<dp):(⟨dp,d⟩:Key)≠k:=fun e=>bH h e.symm
theorem nT{E:Env}{f:FuncId}{ys:List AV}{h1 h1' h2 h2':HP}{x:AV}(e1:h1=h1')(e2:h2=h2')(h:call G Ω0 E f ys h1=some (.ret x,h2)):call G Ω0 E f ys h1'=some (.ret x,h2'):=e1▸e2▸h
theorem HC{R:Type}{c:Prop}[Decidable c]{A B:Option R}{r:R}{P:Prop}(h:(if c then A else B)=some r)(h1:c→A=some r→P)(h2:¬c→B=some r→P):P:=by
 by_cases hc:c
 ·exact h1 hc (by rwa [if_pos hc] at h)
 ·exact h2 hc (by rwa [if_neg hc] at h)
theorem xl{R:Type}{c:Bool}{A B:Option R}{r:R}{P:Prop}(h:(if c=true then A else B)=some r)(h1:c=true→A=some r→P)(h2:c=false→B=some r→P):P:=by
 cases c with
 | true=>exact h1 rfl h
 | false=>exact h2 rfl h
def fY(n:Int):Option Nat:=if 0≤n then some n.toNat else none
theorem oP{n:Int}{j:Nat}(h:fY n=some j):n=(j:Int):=by
 unfold fY at h;split at h
 ·obtain rfl:=Option.some.inj h;omega
 ·cases h
theorem Co(n:Nat):fY (n:Int)=some n:=by simp [fY]
theorem fB{n:Int}(h:0≤n):fY n=some n.toNat:=by simp [fY,h]
theorem aV{R:Type}{c:Prop}[Decidable c]{A:Option R}{r:R}{P:Prop}(h:(if c then A else none)=some r)(h1:c→A=some r→P):P:=
 HC h h1 fun _ h=>by cases h
theorem tU{R:Type}{r:R}{P:Prop}(h:(none:Option R)=some r):P:=by cases h
theorem Mj:aE.ret≠.nrm:=by intro h;cases h
theorem Qz(n:Nat):aE.ex n≠.nrm:=by intro h;cases h
def BY{α ε:Type}(S:α→St)(X:ε→aE×St):α⊕ε→St⊕(aE×St)
 | .inl w=>.inl (S w)
 | .inr x=>.inr (X x)
theorem cw{Q R:Type}{m:Option Q}{k:Q→Option R}{r:R}{T:Q→Prop}(h:m.bind k=some r)(h1:∀ x,m=some x→k x=some r→T x):∃ x,T x:=by
 obtain ⟨x,h2,h3⟩:=Option.bind_eq_some_iff.1 h
 exact ⟨x,h1 x h2 h3⟩
theorem sI{R:Type}{n:Int}{k:Nat→Option R}{r:R}{T:Nat→Prop}(h:(fY n).bind k=some r)(h1:∀ j:Nat,n=(j:Int)→k j=some r→T j):∃ j,T j:=
 cw h fun j hj h=>h1 j (oP hj) h
theorem bQ{R:Type}{c:Prop}[Decidable c]{A B:Option R}{r:R}{T S:Prop}(h:(if c then A else B)=some r)(h1:c→A=some r→T)(h2:¬c→B=some r→S):T∨S:=
 HC h (fun hc h=>.inl (h1 hc h)) fun hc h=>.inr (h2 hc h)
theorem bb{R:Type}{c:Bool}{A B:Option R}{r:R}{T S:Prop}(h:(if c=true then A else B)=some r)(h1:c=true→A=some r→T)(h2:c=false→B=some r→S):T∨S:=
 xl h (fun hc h=>.inl (h1 hc h)) fun hc h=>.inr (h2 hc h)
theorem Tc{b0 b1 R:Type}{m:Option (b0⊕b1)}{K:b0⊕b1→Option R}{r:R}{T0:b0→Prop}{T1:b1→Prop}(h:m.bind K=some r)(p0:∀ a,m=some (.inl a)→K (.inl a)=some r→T0 a)(p1:∀ a,m=some (.inr a)→K (.inr a)=some r→T1 a):(∃ a,T0 a)∨(∃ a,T1 a):=by
 obtain ⟨x,h2,h3⟩:=Option.bind_eq_some_iff.1 h
 match x,h2,h3 with
 | .inl a,h2,h3=>exact .inl ⟨a,p0 a h2 h3⟩
 | .inr a,h2,h3=>exact .inr (⟨a,p1 a h2 h3⟩)
theorem Td{b0 b1 b2 R:Type}{m:Option (b0⊕(b1⊕b2))}{K:b0⊕(b1⊕b2)→Option R}{r:R}{T0:b0→Prop}{T1:b1→Prop}{T2:b2→Prop}(h:m.bind K=some r)(p0:∀ a,m=some (.inl a)→K (.inl a)=some r→T0 a)(p1:∀ a,m=some (.inr (.inl a))→K (.inr (.inl a))=some r→T1 a)(p2:∀ a,m=some (.inr (.inr a))→K (.inr (.inr a))=some r→T2 a):(∃ a,T0 a)∨(∃ a,T1 a)∨(∃ a,T2 a):=by
 obtain ⟨x,h2,h3⟩:=Option.bind_eq_some_iff.1 h
 match x,h2,h3 with
 | .inl a,h2,h3=>exact .inl ⟨a,p0 a h2 h3⟩
 | .inr (.inl a),h2,h3=>exact .inr (.inl ⟨a,p1 a h2 h3⟩)
 | .inr (.inr a),h2,h3=>exact .inr (.inr (⟨a,p2 a h2 h3⟩))
theorem Te{b0 b1 b2 b3 R:Type}{m:Option (b0⊕(b1⊕(b2⊕b3)))}{K:b0⊕(b1⊕(b2⊕b3))→Option R}{r:R}{T0:b0→Prop}{T1:b1→Prop}{T2:b2→Prop}{T3:b3→Prop}(h:m.bind K=some r)(p0:∀ a,m=some (.inl a)→K (.inl a)=some r→T0 a)(p1:∀ a,m=some (.inr (.inl a))→K (.inr (.inl a))=some r→T1 a)(p2:∀ a,m=some (.inr (.inr (.inl a)))→K (.inr (.inr (.inl a)))=some r→T2 a)(p3:∀ a,m=some (.inr (.inr (.inr a)))→K (.inr (.inr (.inr a)))=some r→T3 a):(∃ a,T0 a)∨(∃ a,T1 a)∨(∃ a,T2 a)∨(∃ a,T3 a):=by
 obtain ⟨x,h2,h3⟩:=Option.bind_eq_some_iff.1 h
 match x,h2,h3 with
 | .inl a,h2,h3=>exact .inl ⟨a,p0 a h2 h3⟩
 | .inr (.inl a),h2,h3=>exact .inr (.inl ⟨a,p1 a h2 h3⟩)
 | .inr (.inr (.inl a)),h2,h3=>exact .inr (.inr (.inl ⟨a,p2 a h2 h3⟩))
 | .inr (.inr (.inr a)),h2,h3=>exact .inr (.inr (.inr (⟨a,p3 a h2 h3⟩)))
theorem Tf{b0 b1 b2 b3 b4 R:Type}{m:Option (b0⊕(b1⊕(b2⊕(b3⊕b4))))}{K:b0⊕(b1⊕(b2⊕(b3⊕b4)))→Option R}{r:R}{T0:b0→Prop}{T1:b1→Prop}{T2:b2→Prop}{T3:b3→Prop}{T4:b4→Prop}(h:m.bind K=some r)(p0:∀ a,m=some (.inl a)→K (.inl a)=some r→T0 a)(p1:∀ a,m=some (.inr (.inl a))→K (.inr (.inl a))=some r→T1 a)(p2:∀ a,m=some (.inr (.inr (.inl a)))→K (.inr (.inr (.inl a)))=some r→T2 a)(p3:∀ a,m=some (.inr (.inr (.inr (.inl a))))→K (.inr (.inr (.inr (.inl a))))=some r→T3 a)(p4:∀ a,m=some (.inr (.inr (.inr (.inr a))))→K (.inr (.inr (.inr (.inr a))))=some r→T4 a):(∃ a,T0 a)∨(∃ a,T1 a)∨(∃ a,T2 a)∨(∃ a,T3 a)∨(∃ a,T4 a):=by
 obtain ⟨x,h2,h3⟩:=Option.bind_eq_some_iff.1 h
 match x,h2,h3 with
 | .inl a,h2,h3=>exact .inl ⟨a,p0 a h2 h3⟩
 | .inr (.inl a),h2,h3=>exact .inr (.inl ⟨a,p1 a h2 h3⟩)
 | .inr (.inr (.inl a)),h2,h3=>exact .inr (.inr (.inl ⟨a,p2 a h2 h3⟩))
 | .inr (.inr (.inr (.inl a))),h2,h3=>exact .inr (.inr (.inr (.inl ⟨a,p3 a h2 h3⟩)))
 | .inr (.inr (.inr (.inr a))),h2,h3=>exact .inr (.inr (.inr (.inr (⟨a,p4 a h2 h3⟩))))
theorem lY{R V:Type}{Y:R→V}{a r:R}(h:some a=some r):Y a=Y r:=by rw [Option.some.inj h]
theorem QA{α ε:Type}{E:Env}{l:bm}{S:α→St}{X:ε→aE×St}{v:α}{o:α⊕ε}{T:Prop}(a:AT)(h:T)(he:T=cW G Ω0 E l.x (S v) a fun e s _=>Jp l.kf l.kb e s=BY S X o):bG E l S X v o:=by
 obtain ⟨e,s,_,h1,h2⟩:=pb l.x (he▸h)
 cases o with
 | inl w=>
  cases e with
  | nrm=>
   have h3:s.aD l.kf l.kb=S w:=Sum.inl.inj h2
   show (run G Ω0 E l.x (S v)).bind (kept l)=some (S w)
   rw [h1,←h3];rfl
  | ret=>cases h2
  | ex id=>cases h2
 | inr x=>
  cases e with
  | nrm=>cases h2
  | ret=>
   have h3:(aE.ret,s)=X x:=Sum.inr.inj h2
   exact ⟨by rw [h1,h3],by rw [←h3];exact Mj⟩
  | ex id=>
   have h3:(aE.ex id,s)=X x:=Sum.inr.inj h2
   exact ⟨by rw [h1,h3],by rw [←h3];exact Qz _⟩
theorem cO{E:Env}{f:FuncId}{ys:List AV}{x:AV}{dp:Nat}{bx:List (Nat×List AV)}{hp:HP}{k:Key}{c c':List AV}(hk:k.dp<dp)(h:call G Ω0 E f ys (aj (boxes dp bx (aj hp k c)) k c)=some (.ret x,aj (boxes dp bx (aj hp k c)) k c')):call G Ω0 E f ys (boxes dp bx (aj hp k c))=some (.ret x,boxes dp bx (aj hp k c')):=
 nT (jG (Nat.ne_of_lt hk) (jh ..)) (jG (Nat.ne_of_lt hk) (jh ..)) h
theorem SA{dp:Nat}{bx:List (Nat×List AV)}{hp:HP}{k0 k1 k2:Key}{a b c a' b' c':List AV}(h0:k0.dp<dp)(h1:k1.dp<dp)(h2:k2.dp<dp)(n01:k0≠k1)(n02:k0≠k2)(n12:k1≠k2) :
  aj (aj (aj (boxes dp bx (aj (aj (aj hp k0 a) k1 b) k2 c)) k0 a') k1 b') k2 c'=boxes dp bx (aj (aj (aj hp k0 a') k1 b') k2 c'):=
 oO (oO (jG (Nat.ne_of_lt h0) (qS (Ne.symm n02) (qS (Ne.symm n01) (jh ..)))) (jG (Nat.ne_of_lt h1) (qS (Ne.symm n12) (jh ..)))) (jG (Nat.ne_of_lt h2) (jh ..))
theorem Mk{E:Env}{f:FuncId}{ys:List AV}{x:AV}{dp:Nat}{bx:List (Nat×List AV)}{hp:HP}{k0 k1 k2:Key}{a b c a' b' c':List AV}(h0:k0.dp<dp)(h1:k1.dp<dp)(h2:k2.dp<dp)(n01:k0≠k1)(n02:k0≠k2)(n12:k1≠k2)(h:call G Ω0 E f ys (aj (aj (aj (boxes dp bx (aj (aj (aj hp k0 a) k1 b) k2 c)) k0 a) k1 b) k2 c)=some (.ret x,aj (aj (aj (boxes dp bx (aj (aj (aj hp k0 a) k1 b) k2 c)) k0 a') k1 b') k2 c')) :
  call G Ω0 E f ys (boxes dp bx (aj (aj (aj hp k0 a) k1 b) k2 c))=some (.ret x,boxes dp bx (aj (aj (aj hp k0 a') k1 b') k2 c')):=nT (SA h0 h1 h2 n01 n02 n12) (SA h0 h1 h2 n01 n02 n12) h
theorem Tg{hp:HP}{k0 k1:Key}{a b:List AV}(n01:k0≠k1):(aj (aj hp k0 a) k1 b) k0=some a:=(jj n01).trans (cY ..)
theorem Th{hp:HP}{k0 k1 k2:Key}{a b c:List AV}(n01:k0≠k1)(n02:k0≠k2):(aj (aj (aj hp k0 a) k1 b) k2 c) k0=some a:=(jj n02).trans (Tg n01)
theorem sX{α ε:Type}{B:α→Option (α⊕ε)}(n:Nat)(f:Nat→α){x:ε}(hs:∀ k,k<n→B (f k)=some (.inl (f (k+1))))(he:B (f n)=some (.inr x)):lp B (f 0)=some x:=by
 have:∀ m k,k+m=n→lp B (f k)=some x:=by
  intro m
  induction m with
  | zero=>
    intro k hk;obtain rfl:k=n:=by omega
    exact fN he
  | succ m ih=>intro k hk;rw [ji (hs k (by omega))];exact ih (k+1) (by omega)
 exact this n 0 (by omega)
theorem oh{α ε:Type}{B:α→Option (α⊕ε)}(m:α→Nat)(Inv:α→Prop)(Q:ε→Prop)(step:∀ a,Inv a→(∃ x,B a=some (.inr x)∧Q x)∨∃ b,B a=some (.inl b)∧Inv b∧m b<m a):∀ a,Inv a→∃ x,lp B a=some x∧Q x:=by
 have:∀ n a,m a<n→Inv a→∃ x,lp B a=some x∧Q x:=by
  intro n
  induction n with
  | zero=>intro a h;omega
  | succ n ih=>
   intro a h hi
   rcases step a hi with ⟨x,h1,h2⟩ | ⟨b,h1,h2,h3⟩
   ·exact ⟨x,fN h1,h2⟩
   ·rw [ji h1];exact ih b (by omega) h2
 exact fun a=>this (m a+1) a (Nat.lt_succ_self _)
theorem HD{t:TypeId}{n:Int}(h:0≤n∧n≤1000000):lR t [.n,.i .i64 n]=some (.o t []):=by
 simp [lR,h.1,h.2]
theorem uJ{E:Env}{f:FuncId}{ys:List AV}{dp:Nat}{bx bx':List (Nat×List AV)}{hp hp':HP}{y:aR}(_:call G Ω0 E f ys (boxes dp bx hp)=some (y,boxes dp bx' hp'))(h:bx'.map Prod.fst=bx.map Prod.fst)(hn:vc (bx.map Prod.fst)=true):da dp (boxes dp bx' hp') bx=bx':=DQ h hn
theorem uK{E:Env}{f:FuncId}{ys:List AV}{dp:Nat}{bx bx':List (Nat×List AV)}{hp hp':HP}{y:aR}(_:call G Ω0 E f ys (boxes dp bx hp)=some (y,boxes dp bx' hp'))(hz:aS dp hp'):(fun k:Key=>if k.dp<dp then boxes dp bx' hp' k else none)=hp':=Gl hz
theorem g1{x y:Bool}(h:x=y):(x==true)=(y==true):=congrArg (fun z=>z==true) h
theorem g0{x y:Bool}(h:x=y):(x==false)=(y==false):=congrArg (fun z=>z==false) h
theorem Eh{α:Type}{ts:List TypeId}{f:α→AV}(h:∀ x,(f x).off ts=true):∀ l:List α,AV.pQ ts (l.map f)=true
 | []=>rfl
 | x::l=>by simp only [List.map_cons,AV.pQ,h x,Eh h l,Bool.and_self]
theorem HE(ts:List TypeId)(l:List Bool):AV.pQ ts (l.map AV.b)=true:=Eh (fun _=>by simp only [AV.off]) l
noncomputable def ev{α:Type}(x:Nat→Option α):Option α:=open Classical in if h:∃ r,∃ n0,∀ n,n0≤n→x n=some r then some (Classical.choose h) else none
theorem wa{α:Type}{x:Nat→Option α}{r:α}(h:ev x=some r):∃ n,x n=some r:=by
 unfold ev at h
 split at h
 ·rename_i hex
  obtain ⟨n0,hn⟩:=Classical.choose_spec hex
  exact ⟨n0,by rw [hn n0 (Nat.le_refl _)];exact h⟩
 ·cases h
theorem BZ{α:Type}{x:Nat→Option α}{r:α}(n0:Nat)(h:∀ n,n0≤n→x n=some r):ev x=some r:=by
 unfold ev
 have hex:∃ r,∃ n0,∀ n,n0≤n→x n=some r:=⟨r,n0,h⟩
 rw [dif_pos hex]
 obtain ⟨n1,h1⟩:=Classical.choose_spec hex
 have:=h1 (max n0 n1) (Nat.le_max_right _ _)
 rw [h (max n0 n1) (Nat.le_max_left _ _)] at this
 exact this.symm
def Fy(b:Bool)(n:Int):Option (List Bool):=if 0≤n∧n≤1000000 then some (List.replicate n.toNat b) else none
theorem J1{t u:TypeId}{b:Bool}{n:Int}{r:List Bool}(h:Fy b n=some r):oK t [.l u [.b b],.i .i64 n]=some (.l t (r.map AV.b)):=by
 unfold Fy at h
 split at h
 ·rename_i hn
  obtain rfl:=Option.some.inj h
  simp only [oK,if_pos hn,List.map_replicate]
 ·cases h
theorem aH{R:Type}{E:Env}{f:FuncId}{fn:a8}{ys:List AV}{hp:HP}{Y:R→aR×HP}{r:R}{T:Prop}(hG:G f=some fn)(a:AT)(h:(∀ {a:R},some a=some r→Y a=Y r)→T)(he:T=Ft G Ω0 E fn ys hp a fun y h=>(aR.ret y,h)=Y r:=by kernel_rfl):call G Ω0 E f ys hp=some (Y r):=Qw hG a (h lY) he
theorem Tx{R:Type}{E:Env}{f:FuncId}{fn:a8}{ys:List AV}{hp:HP}{Y:R→aR×HP}{r:R}{T:Prop}(hG:G f=some fn)(a:AT)(h:(∀ {a:R},some a=some r→Y a=Y r)→T)(he:T=Ch G Ω0 E fn ys hp a fun y h=>(aR.new y,h)=Y r:=by kernel_rfl):call G Ω0 E f ys hp=some (Y r):=Mh hG a (h lY) he
theorem Fz{R:Type}{E:Env}{c:AC}{st:St}{Y:R→aE×St}{r:R}{T:Prop}(a:AT)(h:(∀ {a:R},some a=some r→Y a=Y r)→T)(he:T=cW G Ω0 E c st a fun e s _=>(e,s)=Y r:=by kernel_rfl):run G Ω0 E c st=some (Y r):=runT a (h lY) he
theorem jk{R:Type}{E:Env}{kf kb:List Nat}{gs:List cV}{st:St}{Y:R→St}{r:R}{T:Prop}(a:AT)(h:(∀ {a:R},some a=some r→Y a=Y r)→T)(he:T=u7 G Ω0 E kf kb st gs a fun s _=>s=Y r:=by kernel_rfl):jF G Ω0 E kf kb gs st=some (Y r):=Qx a (h lY) he
theorem Cp{R:Type}{E:Env}{kf kb:List Nat}{gs:List aY}{st:St}{Y:R→St}{r:R}{T:Prop}(a:AT)(h:(∀ {a:R},some a=some r→Y a=Y r)→T)(he:T=u9 G Ω0 E kf kb st gs a fun s _=>s=Y r:=by kernel_rfl):tS G Ω0 E kf kb gs st=some (Y r):=Qy a (h lY) he
theorem bO{α ε:Type}{E:Env}{l:bm}{S:α→St}{X:ε→aE×St}{v:α}{o:α⊕ε}{T:Prop}(a:AT)(h:(∀ {a:α⊕ε},some a=some o→BY S X a=BY S X o)→T)(he:T=cW G Ω0 E l.x (S v) a fun e s _=>Jp l.kf l.kb e s=BY S X o:=by kernel_rfl):bG E l S X v o:=QA a (h lY) he
theorem aJ{Q R:Type}{m:Option Q}{k:Q→Option R}{r:R}{O T:Q→Prop}(h:m.bind k=some r)(l:∀ x,m=some x→O x)(h1:∀ x,k x=some r→T x):∃ x,O x∧T x:=cw h fun x e h=>⟨l x e,h1 x h⟩
theorem dT{b0 b1 R:Type}{m:Option (b0⊕b1)}{K:b0⊕b1→Option R}{r:R}{O:b0⊕b1→Prop}{T0:b0→Prop}{T1:b1→Prop}(h:m.bind K=some r)(l:∀ x,m=some x→O x)(p0:∀ a,K (.inl a)=some r→T0 a)(p1:∀ a,K (.inr a)=some r→T1 a):(∃ a,O (.inl a)∧T0 a)∨(∃ a,O (.inr a)∧T1 a):=Tc h (fun a e h=>⟨l _ e,p0 a h⟩) (fun a e h=>⟨l _ e,p1 a h⟩)
theorem Jq{b0 b1 b2 R:Type}{m:Option (b0⊕(b1⊕b2))}{K:b0⊕(b1⊕b2)→Option R}{r:R}{O:b0⊕(b1⊕b2)→Prop}{T0:b0→Prop}{T1:b1→Prop}{T2:b2→Prop}(h:m.bind K=some r)(l:∀ x,m=some x→O x)(p0:∀ a,K (.inl a)=some r→T0 a)(p1:∀ a,K (.inr (.inl a))=some r→T1 a)(p2:∀ a,K (.inr (.inr a))=some r→T2 a):(∃ a,O (.inl a)∧T0 a)∨(∃ a,O (.inr (.inl a))∧T1 a)∨(∃ a,O (.inr (.inr a))∧T2 a):=Td h (fun a e h=>⟨l _ e,p0 a h⟩) (fun a e h=>⟨l _ e,p1 a h⟩) (fun a e h=>⟨l _ e,p2 a h⟩)
theorem Jr{b0 b1 b2 b3 R:Type}{m:Option (b0⊕(b1⊕(b2⊕b3)))}{K:b0⊕(b1⊕(b2⊕b3))→Option R}{r:R}{O:b0⊕(b1⊕(b2⊕b3))→Prop}{T0:b0→Prop}{T1:b1→Prop}{T2:b2→Prop}{T3:b3→Prop}(h:m.bind K=some r)(l:∀ x,m=some x→O x)(p0:∀ a,K (.inl a)=some r→T0 a)(p1:∀ a,K (.inr (.inl a))=some r→T1 a)(p2:∀ a,K (.inr (.inr (.inl a)))=some r→T2 a)(p3:∀ a,K (.inr (.inr (.inr a)))=some r→T3 a):(∃ a,O (.inl a)∧T0 a)∨(∃ a,O (.inr (.inl a))∧T1 a)∨(∃ a,O (.inr (.inr (.inl a)))∧T2 a)∨(∃ a,O (.inr (.inr (.inr a)))∧T3 a):=Te h (fun a e h=>⟨l _ e,p0 a h⟩) (fun a e h=>⟨l _ e,p1 a h⟩) (fun a e h=>⟨l _ e,p2 a h⟩) (fun a e h=>⟨l _ e,p3 a h⟩)
theorem UD{b0 b1 b2 b3 b4 R:Type}{m:Option (b0⊕(b1⊕(b2⊕(b3⊕b4))))}{K:b0⊕(b1⊕(b2⊕(b3⊕b4)))→Option R}{r:R}{O:b0⊕(b1⊕(b2⊕(b3⊕b4)))→Prop}{T0:b0→Prop}{T1:b1→Prop}{T2:b2→Prop}{T3:b3→Prop}{T4:b4→Prop}(h:m.bind K=some r)(l:∀ x,m=some x→O x)(p0:∀ a,K (.inl a)=some r→T0 a)(p1:∀ a,K (.inr (.inl a))=some r→T1 a)(p2:∀ a,K (.inr (.inr (.inl a)))=some r→T2 a)(p3:∀ a,K (.inr (.inr (.inr (.inl a))))=some r→T3 a)(p4:∀ a,K (.inr (.inr (.inr (.inr a))))=some r→T4 a):(∃ a,O (.inl a)∧T0 a)∨(∃ a,O (.inr (.inl a))∧T1 a)∨(∃ a,O (.inr (.inr (.inl a)))∧T2 a)∨(∃ a,O (.inr (.inr (.inr (.inl a))))∧T3 a)∨(∃ a,O (.inr (.inr (.inr (.inr a))))∧T4 a):=Tf h (fun a e h=>⟨l _ e,p0 a h⟩) (fun a e h=>⟨l _ e,p1 a h⟩) (fun a e h=>⟨l _ e,p2 a h⟩) (fun a e h=>⟨l _ e,p3 a h⟩) (fun a e h=>⟨l _ e,p4 a h⟩)
theorem gu{α ε:Type}{E:Env}{B:α→Option (α⊕ε)}{l:bm}{S:α→St}{X:ε→aE×St}(hb:∀ v o,B v=some o→bG E l S X v o)(v:α)(x:ε)(h:lp B v=some x)(hk:∀ v,(S v).aD l.kf l.kb=S v:=by exact fun _=>rfl):mI G Ω0 E l (S v)=some (X x):=JY l S X hk hb h
theorem rI(n:Nat):(n:Int)=(n:Int):=rfl
theorem rN(n:Nat):n=n:=rfl
theorem UF{k:Key}{dp:Nat}(h:k.dp<dp)(ns:List Nat):(oa dp ns (.p k 0)&&okB dp [] (.p k 0))=true:=by simp [oa,okB,jC,AV.aW,AV.bR,AV.dj,bH h]
abbrev xB(f:Bool→AT):AT:=.ex fun r=>ao (.v (.b r)) (f r)
abbrev xI(f:Int→AT):AT:=.ex fun r=>ao (.v (I r)) (f r)
abbrev xN(f:Nat→AT):AT:=.ex fun r=>ao (.n r) (f r)
abbrev oN(r:AT):AT:=.or (bt .nil) (bf r)
theorem uL{p:Prop}{x y:Bool}(H:x=y)(h:p):(x==false)=(y==false)∧x=y∧p:=⟨g0 H,H,h⟩
theorem p9{p:Prop}{q:Prop}(H:q)(h:p):q∧Z0∧p:=⟨H,rfl,h⟩
theorem Js{p:Prop}{q:Prop}(H:q)(h:p):q∧Z0∧Z0∧p:=⟨H,rfl,rfl,h⟩
theorem Ei{p:Prop}{x y:Bool}(H:x=y)(h:p):(x==true)=(y==true)∧x=y∧p:=⟨g1 H,H,h⟩
theorem Ej{p:Prop}{x y:Bool}(H:x=y)(h:p):(x==false)=(y==false)∧(x==false)=(y==false)∧Z0∧(x==false)=(y==false)∧p:=⟨g0 H,g0 H,rfl,g0 H,h⟩
theorem yw{p:Prop}{x y:Bool}(H:x=y)(h:p):(x==false)=(y==false)∧(x==false)=(y==false)∧(x==false)=(y==false)∧(x==false)=(y==false)∧x=y∧p:=⟨g0 H,g0 H,g0 H,g0 H,H,h⟩
theorem Gm{p:Prop}(h:p):true=true∧false=false∧Z0∧true=true∧Z0∧Z0∧p:=⟨rfl,rfl,rfl,rfl,rfl,rfl,h⟩
theorem pz{p:Prop}{x y:Bool}(H:x=y)(h:p):(x==true)=(y==true)∧(x==true)=(y==true)∧x=y∧p:=⟨g1 H,g1 H,H,h⟩
theorem AY{p:Prop}{x y:Bool}(H:x=y)(h:p):(x==false)=(y==false)∧(x==false)=(y==false)∧p:=⟨g0 H,g0 H,h⟩
theorem yx{p:Prop}{x y:Bool}(H:x=y)(h:p):(x==false)=(y==false)∧(x==false)=(y==false)∧(x==false)=(y==false)∧p:=⟨g0 H,g0 H,g0 H,h⟩
theorem zL{p:Prop}{x y:Bool}(H:x=y)(h:p):(x==true)=(y==true)∧(x==true)=(y==true)∧(x==true)=(y==true)∧p:=⟨g1 H,g1 H,g1 H,h⟩
theorem HF{p:Prop}{x y:Bool}(H:x=y)(h:p):(x==true)=(y==true)∧(x==true)=(y==true)∧(x==true)=(y==true)∧(x==true)=(y==true)∧(x==true)=(y==true)∧x=y∧p:=⟨g1 H,g1 H,g1 H,g1 H,g1 H,H,h⟩
theorem vd{p:Prop}{x y:Bool}(H:x=y)(h:p):(x==true)=(y==true)∧(x==true)=(y==true)∧p:=⟨g1 H,g1 H,h⟩
theorem FA{p:Prop}{x y:Bool}(H:x=y)(h:p):(x==false)=(y==false)∧(x==false)=(y==false)∧x=y∧p:=⟨g0 H,g0 H,H,h⟩
theorem zM{p:Prop}(h:p):true=true∧true=true∧Z0∧true=true∧p:=⟨rfl,rfl,rfl,rfl,h⟩
abbrev fO(r:AT):AT:=bt<|bt<|bt r
abbrev iI(r:AT):AT:=bt<|bt r
abbrev oi(r:AT):AT:=bt<|bt<|bt<|bt<|bt r
abbrev sd(r:AT):AT:=bt<|bf r
abbrev uM(r:AT):AT:=bt<|bt<|bt<|bt r
abbrev yz(r:AT):AT:=bf<|bf<|bf<|bf<|bt r
abbrev AZ(r:AT):AT:=bf<|bf<|bf r
abbrev Gn(r:AT):AT:=bt<|bt<|bt<|bt<|bt<|bt<|bf r
abbrev Jt(r:AT):AT:=bf<|bf<|bf<|bt<|bf<|bf r
abbrev Ju(r:AT):AT:=bf<|bf<|bf<|bf<|bf<|bf r
abbrev FB(r:AT):AT:=bt<|bt<|bt<|bf r
abbrev HG(r:AT):AT:=bt<|bt<|bt<|bt<|bt<|bt r
abbrev HH(r:AT):AT:=bt<|bt<|bt<|bt<|bf r
abbrev HI(r:AT):AT:=bf<|bf<|bf<|bf<|bf<|bf<|bf r
abbrev HJ(r:AT):AT:=bf<|bf<|bf<|bf<|bt<|bf<|bf r
abbrev Ml(r:AT):AT:=bf<|bf<|bf<|bf<|bf<|bf<|bf<|bf<|bf<|bf<|bf r
abbrev Mm(r:AT):AT:=bf<|bf<|bf<|bf<|bt<|bf<|bf<|bf<|bf<|bt r
abbrev Mn(r:AT):AT:=bf<|bf<|bf<|bf<|bf<|bf<|bf<|bt<|bt r
abbrev Mo(r:AT):AT:=bf<|bf<|bf<|bf<|bf<|bf<|bf<|bt<|bf<|bf<|bf<|bf<|bf<|bf<|bf<|bt<|bt r
end Go.Proofs.Ytkkkkondjclcnaa.A
