/- How the abstract run is reckoned: which definitions simp opens. -/
import Derived.Test.YtlmphbbhaeampaaGreatCode
import Derived.Test.YtlmphbbhaeampaaGreatPath
set_option linter.all false
namespace Go.Proofs.YtlmphbbhaeampaaGreat.A
open Go
abbrev E0:Env:=⟨0,false⟩
abbrev H0:HP:=fun _=>none
attribute [simp] aQ bH nO St.dA St.ev St.cn eW ep put ib iX execOp sW mb St.elems sV pick rp u6 AV.cl AV.nc ob sg run_ite lf sf kA zd Kc pf kept AV.pure AV.cG AV.copy AV.sU AV.one HH
 St.result St.uo St.CY St.ua St.LX lC qH zb qZ inBlock St.box St.bI AV.deep AV.dD AV.jI elemAt Fg AV.jJ cK St.m8 St.fK AV.off AV.tZ AV.fX St.ct St.rowAt St.putAt Pl.kq consume fM qc putCells
 lB e7 eZ kr view mY Cg iY cR.app Ag kM effect ee
theorem VI(dp:Nat)(st:St){x:AV}(h:x.pure=true):st.m8 dp x=some (x,[]):=by
 cases x<;>first | (simp only [St.m8,h,aH];done) | (simp [AV.pure] at h;done) | (simp only [St.m8];rw [af (by simpa [AV.pure] using h)])
theorem GD(dp:Nat)(st:St):∀ {xs:List AV},AV.cG xs=true→st.fK dp xs=some (xs,[])
 | [],_=>rfl
 | x::xs,h=>by
  simp only [AV.cG,aY] at h
  simp only [St.fK,VI dp st h.1,GD dp st h.2,ab,gw]
variable {β:Type}
theorem VJ{α:Type}{x y:Option α}{f:α→Option β}(h:x=y):x.bind f=y.bind f:=by rw [h]
attribute [congr] VJ
variable {E:Env}{f:FuncId}{hp:HP}
theorem Px{G:sd}{Ω:ej}{args:List AV}{r:bC×HP}(n:Nat)(h:kt G (exec G Ω n) E f args hp=some r):call G Ω E f args hp=some r:=by
 obtain ⟨fn,h1,h2⟩:=au.1 h
 obtain ⟨q,h3,h4⟩:=au.1 h2
 exact au.2 ⟨fn,h1,au.2 ⟨q,pc n _ _ _ _ h3,h4⟩⟩
theorem dQ{α:Type}(e:α→AV)(h:∀ a,(e a).pure=true)(l:List α):AV.cG (l.map e)=true:=
 lU fun x hx=>by
  obtain ⟨a,_,rfl⟩:=oO.1 hx
  exact h a
@[simp] theorem aps (l:List Int):AV.cG (l.map (AV.i .i64))=true:=dQ _ (fun _=>rfl) l
@[simp] theorem apt (l:List Bool):AV.cG (l.map AV.b)=true:=dQ _ (fun _=>rfl) l
theorem Ku(n:Nat)(h:n<4611686018427387904):IntKind.i64.wrap ((n:Int)+1)=(n:Int)+1:=wrap64 (by omega) (by omega)
abbrev I(n:Int):AV:=.i .i64 n
abbrev Z0:Prop:=(0:Nat)=0
abbrev T0:Prop:=true=true
def db{α:Type}(t:TypeId)(e:α→AV)(l:List α):AV:=.l t (l.map e)
variable {j:Nat}
theorem aB{α:Type}(e:α→AV){l:List α}{x:α}(h:l[j]? =some x):(l.map e)[j]? =some (e x):=by rw [xp,h];rfl
theorem dR{α:Type}(e:α→AV){l:List α}{x:α}{v:AV}(h:l[j]? =some x)(hv:e x=v):(l.map e)[j]? =some v:=by rw [aB e h,hv]
theorem map_set{α:Type}(e:α→AV)(l:List α)(j:Nat)(x:α):(l.map e).set j (e x)=(l.set j x).map e:=(List.map_set ..).symm
theorem map_take{α:Type}(e:α→AV)(l:List α)(j:Nat):(l.map e).take j=(l.take j).map e:=(List.map_take ..).symm
theorem N8{α:Type}(e:α→AV)(l:List α)(i j:Nat):((l.map e).take j).drop i=((l.take j).drop i).map e:=by rw [List.map_drop,List.map_take]
theorem aP{α:Type}(e:α→AV)(l:List α):((l.map e).length:Int)=((l.length:Nat):Int):=by rw [jf]
variable {n:Nat}
theorem dS{α:Type}(e:α→AV)(h:∀ a,(e a).nc=n)(l:List α):((l.map e).all fun x=>x.nc==n)=true:=by
 rw [List.all_map]
 exact dz.2 fun x _=>eB.2 (h x)
theorem Cr{b:Nat}(h:n≤1000000000)(hb:b≤100000):n*b≤140737488355328:=eC (Nat.mul_le_mul h hb) (by decide)
theorem Ct(h:n≤1000000000):n≤maxLen:=eC h (by decide)
theorem eJ{α:Type}{e:α→AV}{l m:List α}{b:Nat}(h:l.length+m.length≤1000000000)(hb:b≤100000):((l.map e).length+(m.map e).length)*b≤140737488355328:=by
 rw [jf,jf];exact Cr h hb
theorem eK{α:Type}{e:α→AV}{l m:List α}(h:l.length+m.length≤1000000000):(l.map e).length+(m.map e).length≤maxLen:=by
 rw [jf,jf];exact Ct h
theorem bA(hp:HP)(k:Key)(a b:List AV):ar (ar hp k a) k b=ar hp k b:=by
 funext k';simp only [ar];split<;>rfl
theorem aA(hp:HP)(k:Key)(a:List AV):ar hp k a k=some a:=by simp [ar]
def v7{α ε:Type}(B:α→Option (α⊕ε)):Nat→α→Option ε
 | 0,_=>none
 | n+1,v=>match B v with
  | some (.inl w)=>v7 B n w
  | some (.inr x)=>some x
  | none=>none
class Lp where
 run : {α ε:Type}→(α→Option (α⊕ε))→α→Option ε
 sound:∀ {α ε:Type}{B:α→Option (α⊕ε)}{v:α}{x:ε},run B v=some x→∃ n,v7 B n v=some x
 told:∀ {α ε:Type}{B:α→Option (α⊕ε)}{v:α}{x:ε}(n:Nat),v7 B n v=some x→run B v=some x
abbrev lp[Lp]{α ε:Type}(B:α→Option (α⊕ε))(v:α):Option ε:=Lp.run B v
theorem Jc[Lp]{α ε:Type}{B:α→Option (α⊕ε)}{v:α}{x:ε}(h:lp B v=some x):∃ n,v7 B n v=some x:=Lp.sound h
theorem Ty[Lp]{α ε:Type}{B:α→Option (α⊕ε)}{v:α}{x:ε}(n:Nat)(h:v7 B n v=some x):lp B v=some x:=Lp.told n h
theorem Py{α ε:Type}{B:α→Option (α⊕ε)} : ∀ {n:Nat}{v:α}{x:ε},v7 B n v=some x→v7 B (n+1) v=some x
 | 0,_,_,h=>by cases h
 | n+1,v,x,h=>by
  rw [v7] at h ⊢
  split at h
  ·exact Py h
  ·exact h
  ·exact h
theorem VK{α ε:Type}{B:α→Option (α⊕ε)}{m:Nat}{v:α}{x:ε}(hm:n≤m)(h:v7 B n v=some x):v7 B m v=some x:=by
 induction hm with
 | refl=>exact h
 | step _ ih=>exact Py ih
theorem ZS{α ε:Type}{B:α→Option (α⊕ε)}{m:Nat}{v:α}{x y:ε}(h:v7 B n v=some x)(h':v7 B m v=some y):x=y:=by
 have h1:=VK (F2 n m) h
 rw [VK (F3 n m) h'] at h1
 exact (aq h1).symm
theorem VL:Nonempty Lp:=by
 refine ⟨⟨fun {α ε} B v=>open Classical in if h:∃ n,(v7 B n v).isSome then v7 B h.choose v else none,fun {α ε B v x} h=>?_,fun {α ε B v x} n h=>?_⟩⟩
 ·split at h
  ·rename_i hn;exact ⟨_,h⟩
  ·cases h
 ·have hn:∃ n,(v7 B n v).isSome:=⟨n,by rw [h];rfl⟩
  rw [dif_pos hn]
  have:=hn.choose_spec
  obtain ⟨y,hy⟩:=jK.1 this
  rw [hy,ZS hy h]
variable [Lp]
section
variable {α ε:Type}{B:α→Option (α⊕ε)}
theorem jQ{v:α}{x:ε}(h:B v=some (.inr x)):lp B v=some x:=Ty 1 (by rw [v7,h])
theorem nV{v w:α}(h:B v=some (.inl w)):lp B v=lp B w:=by
 cases hw:lp B w with
 | some x=>obtain ⟨n,hn⟩:=Jc hw;exact Ty (n+1) (by rw [v7,h];exact hn)
 | none=>
  cases hv:lp B v with
  | none=>rfl
  | some x=>
   obtain ⟨n,hn⟩:=Jc hv
   cases n with
   | zero=>cases hn
   | succ n=>rw [v7,h] at hn;rw [Ty n hn] at hw;cases hw
end
def bQ{α ε:Type}(E:Env)(l:bO)(S:α→St)(X:ε→bc×St)(v:α):α⊕ε→Prop
 | .inl w=>(run G Ω0 E l.x (S v)).bind (kept l)=some (S w)
 | .inr x=>run G Ω0 E l.x (S v)=some (X x)∧(X x).1≠.nrm
theorem Sv{α ε:Type}{B:α→Option (α⊕ε)}(l:bO)(S:α→St)(X:ε→bc×St)(hk:∀ v,(S v).cn l.kf l.kb=S v)(hb:∀ v o,B v=some o→bQ E l S X v o){v:α}{x:ε}(h:lp B v=some x):va G Ω0 E l (S v)=some (X x):=by
 obtain ⟨n,hn⟩:=Jc h
 clear h
 induction n generalizing v with
 | zero=>cases hn
 | succ n ih=>
  rw [v7] at hn
  split at hn
  ·rename_i w hw
   rw [pT (by rw [hk];exact hb v _ hw)]
   exact ih hn
  ·rename_i y hy
   obtain rfl:=aq hn
   obtain ⟨h1,h2⟩:=hb v _ hy
   exact m9 (by rw [hk];exact h1) h2
  ·cases hn
def boxes(dp:Nat)(bx:List (Nat×List AV))(hp:HP):HP:=fun k=>if k.dp=dp then bH bx k.d else hp k
variable {k k':Key}
theorem Kv{cs:List AV}(h:k≠k'):ar hp k' cs k=hp k:=by simp only [ar,ah h]
variable {c:List AV}
theorem dj{h h':HP}{d:List AV}(hn:k'≠k)(e:ar h k c=h'):ar (ar h k' d) k c=ar h' k' d:=by
 subst e
 funext q
 simp only [ar]
 by_cases h1:q=k
 ·subst h1;simp [dh hn]
 ·simp [h1]
variable {dp:Nat}{bx:List (Nat×List AV)}
theorem ZT(h:k.dp≠dp):ar (boxes dp bx hp) k c=boxes dp bx (ar hp k c):=by
 funext q
 simp only [ar,boxes]
 by_cases h1:q=k
 ·subst h1;simp [h]
 ·simp [h1]
variable {d d':Nat}
theorem Tz(h:(bH bx d).isSome=true):bH (nO bx d c) d'=if d'=d then some c else bH bx d':=by
 induction bx with
 | nil=>simp [bH] at h
 | cons x bx ih=>
  obtain ⟨k,cs⟩:=x
  by_cases hk:k=d
  ·subst hk
   by_cases hd:d'=k
   ·subst hd;simp [nO,bH]
   ·have:¬k=d':=fun e=>hd e.symm
    simp [nO,bH,hd,this]
  ·have h2:(bH bx d).isSome=true:=by simpa [bH,hk] using h
   have:=ih h2
   by_cases hd:k=d'
   ·subst hd
    simp [nO,bH,hk]
   ·simp [nO,bH,hk,hd,this]
theorem ZU(h:(bH bx d).isSome=true):ar (boxes dp bx hp) ⟨dp,d⟩ c=boxes dp (nO bx d c) hp:=by
 funext q
 obtain ⟨qd,q'⟩:=q
 simp only [ar,boxes,Tz h,Key.mk.injEq]
 by_cases h1:qd=dp
 ·simp [h1]
 ·simp [h1]
theorem dB{bx1:List (Nat×List AV)}(h:(bH bx d).isSome=true)(hb:nO bx d c=bx1):ar (boxes dp bx hp) ⟨dp,d⟩ c=boxes dp bx1 hp:=hb▸ZU h
theorem c8{hp1:HP}(h:k.dp≠dp)(hh:ar hp k c=hp1):ar (boxes dp bx hp) k c=boxes dp bx hp1:=hh▸ZT h
theorem jh{H H1 H2:HP}(h:H=H1)(h':ar H1 k c=H2):ar H k c=H2:=h▸h'
def DD:List Nat→Bool
 | []=>true
 | x::l=>l.all (fun y=>x !=y)&&DD l
theorem Pz:∀ {l:List Nat},DD l=true→l.Nodup
 | [],_=>List.nodup_nil
 | x::l,h=>by
  simp only [DD,aY,dz,uW,ne_eq] at h
  exact xE.2 ⟨fun hm=>h.1 x hm rfl,Pz h.2⟩
variable {bx':List (Nat×List AV)}
theorem Rs(h:bx'.map Prod.fst=bx.map Prod.fst)(J:DD (bx.map Prod.fst)=true):qb dp (boxes dp bx' hp) bx=bx':=by
 have hn:=Pz J
 clear J
 have key:∀ (l l':List (Nat×List AV)),l'.map Prod.fst=l.map Prod.fst→(l.map Prod.fst).Nodup→(∀ x∈l',bH bx' x.1=some x.2)→qb dp (boxes dp bx' hp) l=l':=by
  intro l
  induction l with
  | nil=>intro l' hl _ _;cases l' with
   | nil=>rfl
   | cons _ _=>cases hl
  | cons y l ih=>
   intro l' hl W hg
   cases l' with
   | nil=>cases hl
   | cons x l'=>
    simp only [je,F9] at hl
    obtain ⟨d,cs⟩:=y
    obtain ⟨d',cs'⟩:=x
    obtain ⟨rfl,hl⟩:=hl
    have h1:=hg (d',cs') (by simp)
    simp only [qb,boxes,aH,h1]
    rw [ih l' hl (xE.1 W).2 fun x hx=>hg x (by simp [hx])]
 refine key bx bx' h hn fun x hx=>?_
 have L:(bx'.map Prod.fst).Nodup:=by rw [h];exact hn
 clear key h hn
 induction bx' with
 | nil=>cases hx
 | cons y bx' ih=>
  obtain ⟨d,cs⟩:=y
  rcases eA.1 hx with rfl | hx
  ·simp [bH]
  ·have U:¬d=x.1:=fun e=>(xE.1 L).1 (oO.2 ⟨x,hx,e.symm⟩)
   simp only [bH,ah U]
   exact ih hx (xE.1 L).2
def bF(dp:Nat)(hp:HP):Prop:=∀ k:Key,¬k.dp<dp→hp k=none
theorem eT(dp:Nat):bF dp (fun _=>none):=fun _ _=>rfl
theorem an(hk:k.dp<dp)(h:bF dp hp):bF dp (ar hp k c):=by
 intro q hq
 have:q≠k:=fun e=>by subst e;exact hq hk
 rw [Kv this];exact h q hq
theorem aU(h:bF dp hp):bF (dp+1) (boxes dp bx hp):=by
 intro q hq
 simp only [boxes,ah (show ¬q.dp=dp by omega)]
 exact h q (by omega)
theorem VM(h:bF dp hp):(fun k:Key=>if k.dp<dp then boxes dp bx hp k else none)=hp:=by
 funext q
 by_cases h1:q.dp<dp
 ·simp only [af h1,boxes,ah (show ¬q.dp=dp by omega)]
 ·rw [ah h1,h q h1]
theorem Kw(h:d≠d'):(⟨dp,d⟩:Key)≠⟨dp,d'⟩:=fun e=>h (az Key.d e)
theorem aV(h:k.dp<dp):k≠⟨dp,d⟩:=fun e=>by subst e;exact Nat.lt_irrefl _ h
theorem Mf(h:k.dp<dp):(⟨dp,d⟩:Key)≠k:=fun e=>aV h e.symm
variable {ys:List AV}
theorem ek{h1 N h2 M:HP}{x:AV}(e1:h1=N)(e2:h2=M)(h:call G Ω0 E f ys h1=some (.ret x,h2)):call G Ω0 E f ys N=some (.ret x,M):=e1▸e2▸h
variable {R:Type}{A:Option R}{r:R}{P:Prop}
theorem Xh{c:Prop}[Decidable c]{B:Option R}(h:(if c then A else B)=some r)(h1:c→A=some r→P)(h2:¬c→B=some r→P):P:=by
 by_cases hc:c
 ·exact h1 hc (by rwa [af hc] at h)
 ·exact h2 hc (by rwa [ah hc] at h)
theorem Xi{c:Bool}{B:Option R}(h:(if c=true then A else B)=some r)(h1:c=true→A=some r→P)(h2:c=false→B=some r→P):P:=by
 cases c with
 | true=>exact h1 rfl h
 | false=>exact h2 rfl h
def cU(n:Int):Option Nat:=if 0≤n then some n.toNat else none
theorem xR{n:Int}(h:cU n=some j):n=(j:Int):=by
 unfold cU at h;split at h
 ·obtain rfl:=aq h;omega
 ·cases h
theorem Jd(n:Nat):cU (n:Int)=some n:=by simp [cU]
theorem cb{n:Int}(h:0≤n):cU n=some n.toNat:=by simp [cU,h]
theorem aO{c:Prop}[Decidable c](h:(if c then A else none)=some r)(h1:c→A=some r→P):P:=
 Xh h h1 fun _ h=>by cases h
theorem TA(h:(none:Option R)=some r):P:=by cases h
theorem ahF:bc.ret≠.nrm:=by intro h;cases h
theorem amn(n:Nat):bc.ex n≠.nrm:=by intro h;cases h
def OS{α ε:Type}(S:α→St)(X:ε→bc×St):α⊕ε→St⊕(bc×St)
 | .inl w=>.inl (S w)
 | .inr x=>.inr (X x)
variable {Q:Type}
theorem ba{m:Option Q}{k:Q→Option R}{T:Q→Prop}(h:m.bind k=some r)(h1:∀ x,m=some x→k x=some r→T x):∃ x,T x:=by
 obtain ⟨x,h2,h3⟩:=au.1 h
 exact ⟨x,h1 x h2 h3⟩
theorem dM{n:Int}{k:Nat→Option R}{T:Nat→Prop}(h:(cU n).bind k=some r)(h1:∀ j:Nat,n=(j:Int)→k j=some r→T j):∃ j,T j:=
 ba h fun j hj h=>h1 j (xR hj) h
variable {T:Prop}
theorem cw{c:Prop}[Decidable c]{B:Option R}{S:Prop}(h:(if c then A else B)=some r)(h1:c→A=some r→T)(h2:¬c→B=some r→S):T∨S:=
 Xh h (fun hc h=>.inl (h1 hc h)) fun hc h=>.inr (h2 hc h)
theorem bB{c:Bool}{B:Option R}{S:Prop}(h:(if c=true then A else B)=some r)(h1:c=true→A=some r→T)(h2:c=false→B=some r→S):T∨S:=
 Xi h (fun hc h=>.inl (h1 hc h)) fun hc h=>.inr (h2 hc h)
variable {b0 b1:Type}{K:b0⊕b1→Option R}{T0:b0→Prop}{T1:b1→Prop}
theorem apf{m:Option (b0⊕b1)}(h:m.bind K=some r)(p0:∀ a,m=some (.inl a)→K (.inl a)=some r→T0 a)(p1:∀ a,m=some (.inr a)→K (.inr a)=some r→T1 a):(∃ a,T0 a)∨(∃ a,T1 a):=by
 obtain ⟨x,h2,h3⟩:=au.1 h
 match x,h2,h3 with
 | .inl a,h2,h3=>exact .inl ⟨a,p0 a h2 h3⟩
 | .inr a,h2,h3=>exact .inr (⟨a,p1 a h2 h3⟩)
variable {b2:Type}{T2:b2→Prop}
theorem apg{m:Option (b0⊕(b1⊕b2))}{K:b0⊕(b1⊕b2)→Option R}(h:m.bind K=some r)(p0:∀ a,m=some (.inl a)→K (.inl a)=some r→T0 a)(p1:∀ a,m=some (.inr (.inl a))→K (.inr (.inl a))=some r→T1 a)(p2:∀ a,m=some (.inr (.inr a))→K (.inr (.inr a))=some r→T2 a):(∃ a,T0 a)∨(∃ a,T1 a)∨(∃ a,T2 a):=by
 obtain ⟨x,h2,h3⟩:=au.1 h
 match x,h2,h3 with
 | .inl a,h2,h3=>exact .inl ⟨a,p0 a h2 h3⟩
 | .inr (.inl a),h2,h3=>exact .inr (.inl ⟨a,p1 a h2 h3⟩)
 | .inr (.inr a),h2,h3=>exact .inr (.inr (⟨a,p2 a h2 h3⟩))
variable {b3:Type}{T3:b3→Prop}
theorem aph{m:Option (b0⊕(b1⊕(b2⊕b3)))}{K:b0⊕(b1⊕(b2⊕b3))→Option R}(h:m.bind K=some r)(p0:∀ a,m=some (.inl a)→K (.inl a)=some r→T0 a)(p1:∀ a,m=some (.inr (.inl a))→K (.inr (.inl a))=some r→T1 a)(p2:∀ a,m=some (.inr (.inr (.inl a)))→K (.inr (.inr (.inl a)))=some r→T2 a)(p3:∀ a,m=some (.inr (.inr (.inr a)))→K (.inr (.inr (.inr a)))=some r→T3 a):(∃ a,T0 a)∨(∃ a,T1 a)∨(∃ a,T2 a)∨(∃ a,T3 a):=by
 obtain ⟨x,h2,h3⟩:=au.1 h
 match x,h2,h3 with
 | .inl a,h2,h3=>exact .inl ⟨a,p0 a h2 h3⟩
 | .inr (.inl a),h2,h3=>exact .inr (.inl ⟨a,p1 a h2 h3⟩)
 | .inr (.inr (.inl a)),h2,h3=>exact .inr (.inr (.inl ⟨a,p2 a h2 h3⟩))
 | .inr (.inr (.inr a)),h2,h3=>exact .inr (.inr (.inr (⟨a,p3 a h2 h3⟩)))
variable {b4:Type}{T4:b4→Prop}
theorem api{m:Option (b0⊕(b1⊕(b2⊕(b3⊕b4))))}{K:b0⊕(b1⊕(b2⊕(b3⊕b4)))→Option R}(h:m.bind K=some r)(p0:∀ a,m=some (.inl a)→K (.inl a)=some r→T0 a)(p1:∀ a,m=some (.inr (.inl a))→K (.inr (.inl a))=some r→T1 a)(p2:∀ a,m=some (.inr (.inr (.inl a)))→K (.inr (.inr (.inl a)))=some r→T2 a)(p3:∀ a,m=some (.inr (.inr (.inr (.inl a))))→K (.inr (.inr (.inr (.inl a))))=some r→T3 a)(p4:∀ a,m=some (.inr (.inr (.inr (.inr a))))→K (.inr (.inr (.inr (.inr a))))=some r→T4 a):(∃ a,T0 a)∨(∃ a,T1 a)∨(∃ a,T2 a)∨(∃ a,T3 a)∨(∃ a,T4 a):=by
 obtain ⟨x,h2,h3⟩:=au.1 h
 match x,h2,h3 with
 | .inl a,h2,h3=>exact .inl ⟨a,p0 a h2 h3⟩
 | .inr (.inl a),h2,h3=>exact .inr (.inl ⟨a,p1 a h2 h3⟩)
 | .inr (.inr (.inl a)),h2,h3=>exact .inr (.inr (.inl ⟨a,p2 a h2 h3⟩))
 | .inr (.inr (.inr (.inl a))),h2,h3=>exact .inr (.inr (.inr (.inl ⟨a,p3 a h2 h3⟩)))
 | .inr (.inr (.inr (.inr a))),h2,h3=>exact .inr (.inr (.inr (.inr (⟨a,p4 a h2 h3⟩))))
theorem lY{V:Type}{Y:R→V}{a:R}(h:some a=some r):Y a=Y r:=by rw [aq h]
theorem amo{α ε:Type}{l:bO}{S:α→St}{X:ε→bc×St}{v:α}{o:α⊕ε}(a:AT)(h:T)(he:T=cW G Ω0 E l.x (S v) a fun e s _=>Zd l.kf l.kb e s=OS S X o):bQ E l S X v o:=by
 obtain ⟨e,s,_,h1,h2⟩:=yH l.x (he▸h)
 cases o with
 | inl w=>
  cases e with
  | nrm=>
   have h3:s.cn l.kf l.kb=S w:=Sum.inl.inj h2
   show (run G Ω0 E l.x (S v)).bind (kept l)=some (S w)
   rw [h1,←h3];rfl
  | ret=>cases h2
  | ex id=>cases h2
 | inr x=>
  cases e with
  | nrm=>cases h2
  | ret=>
   have h3:(bc.ret,s)=X x:=Sum.inr.inj h2
   exact ⟨by rw [h1,h3],by rw [←h3];exact ahF⟩
  | ex id=>
   have h3:(bc.ex id,s)=X x:=Sum.inr.inj h2
   exact ⟨by rw [h1,h3],by rw [←h3];exact amn _⟩
variable {c':List AV}
theorem cO{x:AV}(hk:k.dp<dp)(h:call G Ω0 E f ys (ar (boxes dp bx (ar hp k c)) k c)=some (.ret x,ar (boxes dp bx (ar hp k c)) k c')):call G Ω0 E f ys (boxes dp bx (ar hp k c))=some (.ret x,boxes dp bx (ar hp k c')):=
 ek (c8 (aj hk) (bA ..)) (c8 (aj hk) (bA ..)) h
variable {k0 k1:Key}{a b a' b':List AV}
theorem sw2(h0:k0.dp<dp)(h1:k1.dp<dp)(n01:k0≠k1):
  ar (ar (boxes dp bx (ar (ar hp k0 a) k1 b)) k0 a') k1 b'=boxes dp bx (ar (ar hp k0 a') k1 b'):=
 jh (c8 (aj h0) (dj (dh n01) (bA ..))) (c8 (aj h1) (bA ..))
variable {k2:Key}
theorem sw3(h0:k0.dp<dp)(h1:k1.dp<dp)(h2:k2.dp<dp)(n01:k0≠k1)(n02:k0≠k2)(n12:k1≠k2):
  ar (ar (ar (boxes dp bx (ar (ar (ar hp k0 a) k1 b) k2 c)) k0 a') k1 b') k2 c'=boxes dp bx (ar (ar (ar hp k0 a') k1 b') k2 c'):=
 jh (jh (c8 (aj h0) (dj (dh n02) (dj (dh n01) (bA ..)))) (c8 (aj h1) (dj (dh n12) (bA ..)))) (c8 (aj h2) (bA ..))
theorem Ze{x:AV}(h0:k0.dp<dp)(h1:k1.dp<dp)(n01:k0≠k1)(h:call G Ω0 E f ys (ar (ar (boxes dp bx (ar (ar hp k0 a) k1 b)) k0 a) k1 b)=some (.ret x,ar (ar (boxes dp bx (ar (ar hp k0 a) k1 b)) k0 a') k1 b')):
  call G Ω0 E f ys (boxes dp bx (ar (ar hp k0 a) k1 b))=some (.ret x,boxes dp bx (ar (ar hp k0 a') k1 b')):=ek (sw2 h0 h1 n01) (sw2 h0 h1 n01) h
theorem mc{x:AV}(h0:k0.dp<dp)(h1:k1.dp<dp)(h2:k2.dp<dp)(n01:k0≠k1)(n02:k0≠k2)(n12:k1≠k2)(h:call G Ω0 E f ys (ar (ar (ar (boxes dp bx (ar (ar (ar hp k0 a) k1 b) k2 c)) k0 a) k1 b) k2 c)=some (.ret x,ar (ar (ar (boxes dp bx (ar (ar (ar hp k0 a) k1 b) k2 c)) k0 a') k1 b') k2 c')):
  call G Ω0 E f ys (boxes dp bx (ar (ar (ar hp k0 a) k1 b) k2 c))=some (.ret x,boxes dp bx (ar (ar (ar hp k0 a') k1 b') k2 c')):=ek (sw3 h0 h1 h2 n01 n02 n12) (sw3 h0 h1 h2 n01 n02 n12) h
theorem PA(n01:k0≠k1):(ar (ar hp k0 a) k1 b) k0=some a:=(Kv n01).trans (aA ..)
theorem eb(n01:k0≠k1)(n02:k0≠k2):(ar (ar (ar hp k0 a) k1 b) k2 c) k0=some a:=(Kv n02).trans (PA n01)
abbrev R4.cA(p:bc×St):R4:=.lp p.1 p.2
abbrev R4.ei(p:bc×St):R4:=.fr p.1 p.2
theorem me{α ε:Type}{B:α→Option (α⊕ε)}(n:Nat)(f:Nat→α){x:ε}(hs:∀ k,k<n→B (f k)=some (.inl (f (k+1))))(he:B (f n)=some (.inr x)):lp B (f 0)=some x:=by
 have:∀ m k,k+m=n→lp B (f k)=some x:=by
  intro m
  induction m with
  | zero=>
    intro k hk;obtain rfl:k=n:=by omega
    exact jQ he
  | succ m ih=>intro k hk;rw [nV (hs k (by omega))];exact ih (k+1) (by omega)
 exact this n 0 (by omega)
theorem pj{α ε:Type}{B:α→Option (α⊕ε)}(es:List β)(p:β→Bool)(f:Nat→α){x y:ε}(hs:∀ k (h:k<es.length),p es[k]=false→B (f k)=some (.inl (f (k+1))))(hx:∀ k (h:k<es.length),p es[k]=true→B (f k)=some (.inr x))(he:B (f es.length)=some (.inr y)):lp B (f 0)=some (if es.any p then x else y):=by
 have:∀ m k,k+m=es.length→lp B (f k)=some (if (es.drop k).any p then x else y):=by
  intro m
  induction m with
  | zero=>
   intro k hk
   obtain rfl:k=es.length:=by omega
   rw [Gd]
   exact jQ he
  | succ m ih=>
   intro k hk
   have C:k<es.length:=by omega
   rw [dU C,List.any_cons]
   cases hp:p es[k] with
   | true=>exact jQ (hx k C hp)
   | false=>rw [nV (hs k C hp),ih (k+1) (by omega)];rfl
 exact this es.length 0 (by omega)
theorem eX{α ε:Type}{B:α→Option (α⊕ε)}(m:α→Nat)(Inv:α→Prop)(Q:ε→Prop)(step:∀ a,Inv a→(∃ x,B a=some (.inr x)∧Q x)∨∃ b,B a=some (.inl b)∧Inv b∧m b<m a):∀ a,Inv a→∃ x,lp B a=some x∧Q x:=by
 have:∀ n a,m a<n→Inv a→∃ x,lp B a=some x∧Q x:=by
  intro n
  induction n with
  | zero=>intro a h;omega
  | succ n ih=>
   intro a h hi
   rcases step a hi with ⟨x,h1,h2⟩ | ⟨b,h1,h2,h3⟩
   ·exact ⟨x,jQ h1,h2⟩
   ·rw [nV h1];exact ih b (by omega) h2
 exact fun a=>this (m a+1) a (fR _)
variable {t:TypeId}
theorem Xj{n:Int}(h:0≤n∧n≤1000000):sX t [.n,.i .i64 n]=some (.o t []):=by
 simp [sX,h.1,h.2]
variable {g:HP}
theorem c2b{y:bC}(_:call G Ω0 E f ys (boxes dp bx hp)=some (y,boxes dp bx' g))(h:bx'.map Prod.fst=bx.map Prod.fst)(hn:DD (bx.map Prod.fst)=true):qb dp (boxes dp bx' g) bx=bx':=Rs h hn
theorem c2l{y:bC}(_:call G Ω0 E f ys (boxes dp bx hp)=some (y,boxes dp bx' g))(hz:bF dp g):(fun k:Key=>if k.dp<dp then boxes dp bx' g k else none)=g:=VM hz
variable {x y:Bool}
theorem g1(h:x=y):(x==true)=(y==true):=az (fun z=>z==true) h
theorem g0(h:x=y):(x==false)=(y==false):=az (fun z=>z==false) h
theorem AJ{α:Type}{ts:List TypeId}{f:α→AV}(h:∀ x,(f x).off ts=true):∀ l:List α,AV.tZ ts (l.map f)=true
 | []=>rfl
 | x::l=>by simp only [je,AV.tZ,h x,AJ h l,kH]
theorem PB(ts:List TypeId)(k:IntKind)(l:List Int):AV.tZ ts (l.map (AV.i k))=true:=AJ (fun _=>by simp only [AV.off]) l
theorem PC(ts:List TypeId)(l:List Bool):AV.tZ ts (l.map AV.b)=true:=AJ (fun _=>by simp only [AV.off]) l
theorem PD(ts:List TypeId)(l:List (List UInt8)):AV.tZ ts (l.map AV.s)=true:=AJ (fun _=>by simp only [AV.off]) l
noncomputable def ev{α:Type}(x:Nat→Option α):Option α:=open Classical in if h:∃ r,∃ n0,∀ n,n0≤n→x n=some r then some (Classical.choose h) else none
theorem nW{α:Type}{x:Nat→Option α}{r:α}(h:ev x=some r):∃ n,x n=some r:=by
 unfold ev at h
 split at h
 ·rename_i hex
  obtain ⟨n0,hn⟩:=F1 hex
  exact ⟨n0,by rw [hn n0 (bG _)];exact h⟩
 ·cases h
theorem uH{α:Type}{x:Nat→Option α}{r:α}(n0:Nat)(h:∀ n,n0≤n→x n=some r):ev x=some r:=by
 unfold ev
 have hex:∃ r,∃ n0,∀ n,n0≤n→x n=some r:=⟨r,n0,h⟩
 rw [dif_pos hex]
 obtain ⟨n1,h1⟩:=F1 hex
 have:=h1 (max n0 n1) (F3 _ _)
 rw [h (max n0 n1) (F2 _ _)] at this
 exact this.symm
def TB(b:Bool)(n:Int):Option (List Bool):=if 0≤n∧n≤1000000 then some (List.replicate n.toNat b) else none
theorem ZV{u:TypeId}{b:Bool}{n:Int}{r:List Bool}(h:TB b n=some r):xK t [.l u [.b b],.i .i64 n]=some (.l t (r.map AV.b)):=by
 unfold TB at h
 split at h
 ·rename_i hn
  obtain rfl:=aq h
  simp only [xK,af hn,sc]
 ·cases h
variable {fn:bU}{Y:R→bC×HP}
theorem bj(hG:G f=some fn)(a:AT)(h:(∀ {a:R},some a=some r→Y a=Y r)→T)(he:T=Tx G Ω0 E fn ys hp a fun y h=>(bC.ret y,h)=Y r:=by kernel_rfl):call G Ω0 E f ys hp=some (Y r):=amk hG a (h lY) he
theorem Sw(hG:G f=some fn)(a:AT)(h:(∀ {a:R},some a=some r→Y a=Y r)→T)(he:T=Pu G Ω0 E fn ys hp a fun y h=>(bC.new y,h)=Y r:=by kernel_rfl):call G Ω0 E f ys hp=some (Y r):=ahE hG a (h lY) he
variable {st:St}
theorem oi{c:AC}{Y:R→bc×St}(a:AT)(h:(∀ {a:R},some a=some r→Y a=Y r)→T)(he:T=cW G Ω0 E c st a fun e s _=>(e,s)=Y r:=by kernel_rfl):run G Ω0 E c st=some (Y r):=runT a (h lY) he
variable {kf kb:List Nat}
theorem qJ{gs:List dE}{Y:R→St}(a:AT)(h:(∀ {a:R},some a=some r→Y a=Y r)→T)(he:T=GB G Ω0 E kf kb st gs a fun s _=>s=Y r:=by kernel_rfl):q9 G Ω0 E kf kb gs st=some (Y r):=aml a (h lY) he
theorem aqi{gs:List cz}{Y:R→St}(a:AT)(h:(∀ {a:R},some a=some r→Y a=Y r)→T)(he:T=GC G Ω0 E kf kb st gs a fun s _=>s=Y r:=by kernel_rfl):Ma G Ω0 E kf kb gs st=some (Y r):=amm a (h lY) he
theorem bZ{α ε:Type}{l:bO}{S:α→St}{X:ε→bc×St}{v:α}{o:α⊕ε}(a:AT)(h:(∀ {a:α⊕ε},some a=some o→OS S X a=OS S X o)→T)(he:T=cW G Ω0 E l.x (S v) a fun e s _=>Zd l.kf l.kb e s=OS S X o:=by kernel_rfl):bQ E l S X v o:=amo a (h lY) he
theorem bq{m:Option Q}{k:Q→Option R}{O T:Q→Prop}(h:m.bind k=some r)(l:∀ x,m=some x→O x)(h1:∀ x,k x=some r→T x):∃ x,O x∧T x:=ba h fun x e h=>⟨l x e,h1 x h⟩
theorem dv{m:Option (b0⊕b1)}{O:b0⊕b1→Prop}(h:m.bind K=some r)(l:∀ x,m=some x→O x)(p0:∀ a,K (.inl a)=some r→T0 a)(p1:∀ a,K (.inr a)=some r→T1 a):(∃ a,O (.inl a)∧T0 a)∨(∃ a,O (.inr a)∧T1 a):=apf h (fun a e h=>⟨l _ e,p0 a h⟩) (fun a e h=>⟨l _ e,p1 a h⟩)
theorem TC{m:Option (b0⊕(b1⊕b2))}{K:b0⊕(b1⊕b2)→Option R}{O:b0⊕(b1⊕b2)→Prop}(h:m.bind K=some r)(l:∀ x,m=some x→O x)(p0:∀ a,K (.inl a)=some r→T0 a)(p1:∀ a,K (.inr (.inl a))=some r→T1 a)(p2:∀ a,K (.inr (.inr a))=some r→T2 a):(∃ a,O (.inl a)∧T0 a)∨(∃ a,O (.inr (.inl a))∧T1 a)∨(∃ a,O (.inr (.inr a))∧T2 a):=apg h (fun a e h=>⟨l _ e,p0 a h⟩) (fun a e h=>⟨l _ e,p1 a h⟩) (fun a e h=>⟨l _ e,p2 a h⟩)
theorem Kx{m:Option (b0⊕(b1⊕(b2⊕b3)))}{K:b0⊕(b1⊕(b2⊕b3))→Option R}{O:b0⊕(b1⊕(b2⊕b3))→Prop}(h:m.bind K=some r)(l:∀ x,m=some x→O x)(p0:∀ a,K (.inl a)=some r→T0 a)(p1:∀ a,K (.inr (.inl a))=some r→T1 a)(p2:∀ a,K (.inr (.inr (.inl a)))=some r→T2 a)(p3:∀ a,K (.inr (.inr (.inr a)))=some r→T3 a):(∃ a,O (.inl a)∧T0 a)∨(∃ a,O (.inr (.inl a))∧T1 a)∨(∃ a,O (.inr (.inr (.inl a)))∧T2 a)∨(∃ a,O (.inr (.inr (.inr a)))∧T3 a):=aph h (fun a e h=>⟨l _ e,p0 a h⟩) (fun a e h=>⟨l _ e,p1 a h⟩) (fun a e h=>⟨l _ e,p2 a h⟩) (fun a e h=>⟨l _ e,p3 a h⟩)
theorem Zf{m:Option (b0⊕(b1⊕(b2⊕(b3⊕b4))))}{K:b0⊕(b1⊕(b2⊕(b3⊕b4)))→Option R}{O:b0⊕(b1⊕(b2⊕(b3⊕b4)))→Prop}(h:m.bind K=some r)(l:∀ x,m=some x→O x)(p0:∀ a,K (.inl a)=some r→T0 a)(p1:∀ a,K (.inr (.inl a))=some r→T1 a)(p2:∀ a,K (.inr (.inr (.inl a)))=some r→T2 a)(p3:∀ a,K (.inr (.inr (.inr (.inl a))))=some r→T3 a)(p4:∀ a,K (.inr (.inr (.inr (.inr a))))=some r→T4 a):(∃ a,O (.inl a)∧T0 a)∨(∃ a,O (.inr (.inl a))∧T1 a)∨(∃ a,O (.inr (.inr (.inl a)))∧T2 a)∨(∃ a,O (.inr (.inr (.inr (.inl a))))∧T3 a)∨(∃ a,O (.inr (.inr (.inr (.inr a))))∧T4 a):=api h (fun a e h=>⟨l _ e,p0 a h⟩) (fun a e h=>⟨l _ e,p1 a h⟩) (fun a e h=>⟨l _ e,p2 a h⟩) (fun a e h=>⟨l _ e,p3 a h⟩) (fun a e h=>⟨l _ e,p4 a h⟩)
theorem dT{α ε:Type}{B:α→Option (α⊕ε)}{l:bO}{S:α→St}{X:ε→bc×St}(hb:∀ v o,B v=some o→bQ E l S X v o)(v:α)(x:ε)(h:lp B v=some x)(hk:∀ v,(S v).cn l.kf l.kb=S v:=by exact fun _=>rfl):va G Ω0 E l (S v)=some (X x):=Sv l S X hk hb h
theorem rI(n:Nat):(n:Int)=(n:Int):=rfl
theorem rN(n:Nat):n=n:=rfl
theorem gu(h:k.dp<dp)(ns:List Nat):(iY dp ns (.p k 0)&&okB dp [] (.p k 0))=true:=by simp [iY,okB,kL,AV.dD,AV.jI,AV.fX,aV h]
theorem eu(h:k.dp<dp)(ns:List Nat)(bs:List Nat)(j:Nat):(iY dp ns (.p k j)&&okB dp bs (.p k j))=true:=by simp [iY,okB,pa,kL,AV.dD,AV.jI,AV.fX,aV h]
theorem v8(h:k.dp<dp)(ns:List Nat)(j:Nat):(iY dp ns (.r (.c k j))&&okB dp [] (.r (.c k j)))=true:=by simp [iY,okB,pa,kL,AV.dD,AV.jI,AV.fX,aV h]
theorem eo{y:bC}(b:call G Ω0 E f ys (boxes dp bx hp)=some (y,boxes dp bx' g))(hz:bF dp g)(k:T)(h1:bx'.map Prod.fst=bx.map Prod.fst:=by kernel_rfl)(h2:DD (bx.map Prod.fst)=true:=by kernel_rfl):call G Ω0 E f ys (boxes dp bx hp)=some (y,boxes dp bx' g)∧qb dp (boxes dp bx' g) bx=bx'∧(fun k:Key=>if k.dp<dp then boxes dp bx' g k else none)=g∧T:=⟨b,c2b b h1 h2,c2l b hz,k⟩
abbrev dY(dp n:Nat)(fr:List (Nat×AV))(bx:List (Nat×List AV)):Bool:=fr.all (fun y=>y.2.dD ⟨dp,n⟩)&&bx.all (fun y=>AV.jI ⟨dp,n⟩ y.2)
theorem ji(dp:Nat)(ns bs:List Nat)(d j:Nat)(h:(ns.all fun x=>x !=d)=true:=by rfl):(iY dp ns (.p ⟨dp,d⟩ j)&&okB dp bs (.p ⟨dp,d⟩ j))=true:=by
 simp only [iY,okB,pa,kL,AV.dD,AV.fX,aY,dz,Bool.not_false,B8,and_true,implies_true]
 intro x hx
 have:=dz.1 h x hx
 simp at this ⊢
 exact fun e=>this e.symm
abbrev xB(f:Bool→AT):AT:=.ex fun r=>ao (.v (.b r)) (f r)
abbrev xI(f:Int→AT):AT:=.ex fun r=>ao (.v (I r)) (f r)
abbrev xN(f:Nat→AT):AT:=.ex fun r=>ao (.n r) (f r)
abbrev oN(r:AT):AT:=.or (bt .nil) (bf r)
variable {p q:Prop}
theorem lG(H:q)(h:p):q∧Z0∧p:=⟨H,rfl,h⟩
theorem uq(h:p):true=true∧Z0∧p:=⟨rfl,rfl,h⟩
theorem Ky(H:x=y)(h:p):(x==false)=(y==false)∧(x==false)=(y==false)∧Z0∧(x==false)=(y==false)∧p:=⟨g0 H,g0 H,rfl,g0 H,h⟩
theorem Zg(H:x=y)(h:p):(x==false)=(y==false)∧(x==false)=(y==false)∧(x==false)=(y==false)∧(x==false)=(y==false)∧x=y∧p:=⟨g0 H,g0 H,g0 H,g0 H,H,h⟩
theorem Sx(H:x=y)(h:p):(x==true)=(y==true)∧(x==true)=(y==true)∧Z0∧(x==true)=(y==true)∧p:=⟨g1 H,g1 H,rfl,g1 H,h⟩
theorem PE(H:x=y)(h:p):(x==true)=(y==true)∧(x==true)=(y==true)∧(x==true)=(y==true)∧p:=⟨g1 H,g1 H,g1 H,h⟩
theorem Zh(H:x=y)(h:p):(x==true)=(y==true)∧(x==true)=(y==true)∧(x==true)=(y==true)∧(false==false)=true∧x=y∧false=false∧p:=⟨g1 H,g1 H,g1 H,rfl,H,rfl,h⟩
theorem Zi(H:x=y)(h:p):(x==false)=(y==false)∧(x==false)=(y==false)∧Z0∧(x==false)=(y==false)∧(x==false)=(y==false)∧p:=⟨g0 H,g0 H,rfl,g0 H,g0 H,h⟩
theorem IF(h:p):true=true∧false=false∧Z0∧true=true∧Z0∧Z0∧p:=⟨rfl,rfl,rfl,rfl,rfl,rfl,h⟩
theorem ur(H:x=y)(h:p):(x==true)=(y==true)∧(x==true)=(y==true)∧x=y∧p:=⟨g1 H,g1 H,H,h⟩
theorem Xk(H:x=y)(h:p):(x==true)=(y==true)∧(x==true)=(y==true)∧(x==true)=(y==true)∧(x==true)=(y==true)∧x=y∧p:=⟨g1 H,g1 H,g1 H,g1 H,H,h⟩
theorem iD(H:x=y)(h:p):(x==false)=(y==false)∧x=y∧p:=⟨g0 H,H,h⟩
theorem TD(H:x=y)(h:p):(x==false)=(y==false)∧(x==false)=(y==false)∧(x==false)=(y==false)∧(x==false)=(y==false)∧(x==false)=(y==false)∧x=y∧p:=⟨g0 H,g0 H,g0 H,g0 H,g0 H,H,h⟩
theorem aZ(h:p):true=true∧true=true∧p:=⟨rfl,rfl,h⟩
theorem Mg(h:p):true=true∧true=true∧Z0∧Z0∧p:=⟨rfl,rfl,rfl,rfl,h⟩
theorem TE(H:q)(h:p):q∧Z0∧Z0∧p:=⟨H,rfl,rfl,h⟩
theorem qg(H:x=y)(h:p):(x==true)=(y==true)∧x=y∧p:=⟨g1 H,H,h⟩
theorem ew(h:p):false=false∧true=true∧p:=⟨rfl,rfl,h⟩
theorem xS(H:x=y)(h:p):(x==false)=(y==false)∧(x==false)=(y==false)∧p:=⟨g0 H,g0 H,h⟩
theorem Mh(H:x=y)(h:p):(x==false)=(y==false)∧(x==false)=(y==false)∧false=false∧true=true∧p:=⟨g0 H,g0 H,rfl,rfl,h⟩
theorem Xl(H:x=y)(h:p):(x==false)=(y==false)∧(x==false)=(y==false)∧(x==false)=(y==false)∧(x==false)=(y==false)∧(x==false)=(y==false)∧(x==false)=(y==false)∧(x==false)=(y==false)∧x=y∧true=true∧p:=⟨g0 H,g0 H,g0 H,g0 H,g0 H,g0 H,g0 H,H,rfl,h⟩
theorem Xm(H:x=y)(h:p):(x==false)=(y==false)∧(x==false)=(y==false)∧(x==false)=(y==false)∧(x==false)=(y==false)∧(x==false)=(y==false)∧(x==false)=(y==false)∧(x==false)=(y==false)∧x=y∧(true==false)=false∧(true==false)=false∧(true==false)=false∧(true==false)=false∧(true==false)=false∧(true==false)=false∧(true==false)=false∧true=true∧true=true∧p:=⟨g0 H,g0 H,g0 H,g0 H,g0 H,g0 H,g0 H,H,rfl,rfl,rfl,rfl,rfl,rfl,rfl,rfl,rfl,h⟩
theorem PF(H:q)(h:p):q∧true=true∧true=true∧p:=⟨H,rfl,rfl,h⟩
theorem mu(h:p):true=true∧true=true∧true=true∧true=true∧true=true∧p:=⟨rfl,rfl,rfl,rfl,rfl,h⟩
theorem eH(h:p):true=true∧true=true∧true=true∧p:=⟨rfl,rfl,rfl,h⟩
theorem Je(h:p):true=true∧true=true∧Z0∧true=true∧p:=⟨rfl,rfl,rfl,rfl,h⟩
theorem TF(H:x=y)(h:p):(x==true)=(y==true)∧(x==true)=(y==true)∧Z0∧(x==true)=(y==true)∧(x==true)=(y==true)∧Z0∧(x==true)=(y==true)∧p:=⟨g1 H,g1 H,rfl,g1 H,g1 H,rfl,g1 H,h⟩
theorem Mi(H:x=y)(h:p):(x==true)=(y==true)∧(x==true)=(y==true)∧(x==true)=(y==true)∧(x==true)=(y==true)∧(x==true)=(y==true)∧x=y∧p:=⟨g1 H,g1 H,g1 H,g1 H,g1 H,H,h⟩
theorem fH(h:p):true=true∧true=true∧true=true∧true=true∧p:=⟨rfl,rfl,rfl,rfl,h⟩
theorem Mj(H:x=y)(h:p):(x==false)=(y==false)∧(x==false)=(y==false)∧x=y∧p:=⟨g0 H,g0 H,H,h⟩
theorem mw(h:p):true=true∧false=false∧p:=⟨rfl,rfl,h⟩
theorem Db(H:x=y)(h:p):true=true∧(x==false)=(y==false)∧p:=⟨rfl,g0 H,h⟩
theorem A3(H:q)(h:p):q∧true=true∧true=true∧true=true∧true=true∧p:=⟨H,rfl,rfl,rfl,rfl,h⟩
theorem TG(H:x=y)(h:p):(x==false)=(y==false)∧true=true∧(x==false)=(y==false)∧true=true∧(x==false)=(y==false)∧true=true∧(x==false)=(y==false)∧p:=⟨g0 H,rfl,g0 H,rfl,g0 H,rfl,g0 H,h⟩
theorem Xn(H:x=y)(h:p):(x==false)=(y==false)∧(x==false)=(y==false)∧(x==false)=(y==false)∧(x==false)=(y==false)∧(x==false)=(y==false)∧(x==false)=(y==false)∧x=y∧true=true∧p:=⟨g0 H,g0 H,g0 H,g0 H,g0 H,g0 H,H,rfl,h⟩
theorem wa(H:q)(h:p):q∧true=true∧true=true∧true=true∧p:=⟨H,rfl,rfl,rfl,h⟩
theorem EN(h:p):true=true∧false=false∧true=true∧p:=⟨rfl,rfl,rfl,h⟩
theorem TH(H:q)(h:p):q∧true=true∧true=true∧true=true∧true=true∧true=true∧p:=⟨H,rfl,rfl,rfl,rfl,rfl,h⟩
theorem PG(h:p):true=true∧false=false∧Z0∧Z0∧Z0∧p:=⟨rfl,rfl,rfl,rfl,rfl,h⟩
theorem TI(H:q)(h:p):q∧true=true∧Z0∧true=true∧true=true∧true=true∧p:=⟨H,rfl,rfl,rfl,rfl,rfl,h⟩
theorem Mk(H:x=y)(h:p):(x==true)=(y==true)∧(x==true)=(y==true)∧(x==true)=(y==true)∧x=y∧p:=⟨g1 H,g1 H,g1 H,H,h⟩
theorem Xo(H:x=y)(h:p):(x==true)=(y==true)∧(x==true)=(y==true)∧Z0∧(x==true)=(y==true)∧(x==true)=(y==true)∧Z0∧(x==true)=(y==true)∧x=y∧p:=⟨g1 H,g1 H,rfl,g1 H,g1 H,rfl,g1 H,H,h⟩
theorem fy(H:x=y)(h:p):(x==false)=(y==false)∧(x==false)=(y==false)∧(x==false)=(y==false)∧p:=⟨g0 H,g0 H,g0 H,h⟩
theorem dC(H:x=y)(h:p):(x==true)=(y==true)∧(x==true)=(y==true)∧p:=⟨g1 H,g1 H,h⟩
theorem lZ(h:p):false=false∧Z0∧true=true∧Z0∧p:=⟨rfl,rfl,rfl,rfl,h⟩
theorem lh(h:p):false=false∧Z0∧Z0∧p:=⟨rfl,rfl,rfl,h⟩
theorem wc(H:x=y)(h:p):true=true∧(x==false)=(y==false)∧true=true∧(x==false)=(y==false)∧p:=⟨rfl,g0 H,rfl,g0 H,h⟩
theorem iT(H:x=y)(h:p):true=true∧(x==true)=(y==true)∧p:=⟨rfl,g1 H,h⟩
theorem l3(h:p):Z0∧true=true∧p:=⟨rfl,rfl,h⟩
theorem nR(h:p):(true==false)=false∧(true==false)=false∧p:=⟨rfl,rfl,h⟩
theorem zF(h:p):Z0∧Z0∧p:=⟨rfl,rfl,h⟩
abbrev cM(r:AT):AT:=bt<|bt r
abbrev ea(r:AT):AT:=bt<|bt<|bt r
abbrev gZ(r:AT):AT:=bt<|bf r
abbrev mg(r:AT):AT:=bt<|bt<|bt<|bt r
abbrev pn(r:AT):AT:=bt<|bt<|bt<|bt<|bt r
abbrev we(r:AT):AT:=bf<|bt r
abbrev IG(r:AT):AT:=bf<|bf r
abbrev Kz(r:AT):AT:=bf<|bf<|bf r
abbrev PH(r:AT):AT:=bt<|bt<|bt<|bt<|bf r
abbrev PI(r:AT):AT:=bt<|bt<|bt<|bt<|bt<|bt<|bt r
abbrev Jf(r:AT):AT:=bt<|bt<|bf r
abbrev Ml(r:AT):AT:=bf<|bf<|bf<|bt<|bf<|bf r
abbrev Mm(r:AT):AT:=bf<|bf<|bf<|bf<|bf<|bf r
abbrev PJ(r:AT):AT:=bt<|bt<|bt<|bt<|bt<|bt<|bf r
abbrev PK(r:AT):AT:=bt<|bt<|bt<|bt<|bt<|bt r
abbrev PL(r:AT):AT:=bt<|bt<|bt<|bf r
abbrev TJ(r:AT):AT:=bf<|bf<|bf<|bf<|bt r
abbrev TK(r:AT):AT:=bf<|bf<|bf<|bf<|bf r
abbrev TL(r:AT):AT:=bf<|bf<|bf<|bf<|bf<|bt r
abbrev TM(r:AT):AT:=bt<|bt<|bt<|bt<|bt<|bf r
abbrev TN(r:AT):AT:=bf<|bf<|bf<|bf r
abbrev TO(r:AT):AT:=bt<|bt<|bt<|bt<|bt<|bt<|bt<|bt r
abbrev Xp(r:AT):AT:=bf<|bf<|bf<|bf<|bf<|bf<|bf<|bt<|bt r
abbrev Xq(r:AT):AT:=bf<|bf<|bf<|bf<|bf<|bf<|bf<|bt<|bf<|bf<|bf<|bf<|bf<|bf<|bf<|bt<|bt r
abbrev Xr(r:AT):AT:=bf<|bf<|bf<|bf<|bf<|bf<|bt<|bt r
abbrev ahG(r:AT):AT:=bf<|bf<|bf<|bf<|bt<|bf<|bf<|bf<|bf<|bt<|bf<|bf<|bf<|bf<|bt r
abbrev ahH(r:AT):AT:=bf<|bf<|bf<|bf<|bt<|bf<|bf<|bf<|bf<|bt r
abbrev ahI(r:AT):AT:=bt<|bt<|bt<|bt<|bt<|bt<|bt<|bt<|bt<|bt r
abbrev ahJ(r:AT):AT:=bf<|bf<|bf<|bf<|bf<|bf<|bt<|bf<|bf<|bf<|bf<|bf<|bf<|bt<|bt r
abbrev ahK(r:AT):AT:=bf<|bf<|bf<|bf<|bf<|bf<|bf<|bf<|bf r
abbrev ahL(r:AT):AT:=bf<|bf<|bf<|bf<|bf<|bt<|bt<|bt<|bt<|bt r
abbrev ahM(r:AT):AT:=bf<|bf<|bf<|bf<|bf<|bf<|bf<|bf<|bf<|bf<|bf<|bf r
theorem iL(k:Nat)(h:k<9223372036854775807):IntKind.i64.wrap ((k:Int)+1)=((k+1:Nat):Int):=(wrap64 (by omega) (by omega)).trans (by omega)
variable [Lp]
def Ao{β:Type}(φ:β→Option Bool)(es:List β)(k:Nat):Option (Nat⊕(Nat⊕(Nat×Bool))):=
 if (k:Int)<(es.length:Int) then
  (es[k]?).bind fun (y:β)=>
  (φ y).bind fun (r:Bool)=>
  if r=true then
   some (.inr (.inl k))
  else
   if IntKind.i64.wrap ((k:Int)+1)=((k+1:Nat):Int) then
    some (.inl (k+1))
   else none
 else
  some (.inr (.inr (k,decide ((k:Int)<(es.length:Int)))))
def Zj{β:Type}(p:β→Bool)(es:List β):Nat⊕(Nat×Bool):=match es.findIdx? p with
 | some k=>.inl k
 | none=>.inr (es.length,false)
theorem find_spec(φ:β→Option Bool)(p:β→Bool)(es:List β)(hl:es.length≤9223372036854775807)(h:∀ y∈es,φ y=some (p y)):lp (fun v=>Ao φ es v) 0=some (Zj p es):=by
 have:∀ m k,k+m=es.length→lp (fun v=>Ao φ es v) k=some (match (es.drop k).findIdx? p with
   | some j=>.inl (k+j)
   | none=>.inr (es.length,false)):=by
  intro m
  induction m with
  | zero=>
   intro k hk
   obtain rfl:k=es.length:=by omega
   rw [Gd]
   exact jQ (by simp [Ao])
  | succ m ih=>
   intro k hk
   have C:k<es.length:=by omega
   have hp:=h es[k] (cg C)
   rw [dU C,List.findIdx?_cons]
   cases hq:p es[k] with
   | true=>exact jQ (by simp [Ao,C,hp,hq])
   | false=>
    rw [nV (w:=k+1) (by simp [Ao,C,hp,hq,iL k (by omega)]),ih (k+1) (by omega)]
    simp only [dy,cH]
    cases List.findIdx? p (List.drop (k+1) es) with
    | none=>rfl
    | some j=>simp only [kJ];congr 2;omega
 have h0:=this es.length 0 (by omega)
 simp only [List.drop_zero,jL] at h0
 exact h0
theorem qh(φ:β→Option Bool)(p:β→Bool)(es:List β)(hl:es.length≤9223372036854775807)(h:∀ y∈es,φ y=some (p y)):
  (((lp (fun v=>Ao φ es v) 0).bind fun (x1:(Nat⊕(Nat×Bool)))=>match x1 with
  | .inl z=>some (z:Int)
  | .inr _=>some (-1)).bind fun (r1:Int)=>some (decide (0≤r1)))=some (es.any p):=by
 rw [find_spec φ p es hl h,ab]
 unfold Zj
 cases hf:es.findIdx? p with
 | none=>
  have:=List.findIdx?_eq_none_iff.1 hf
  have D:es.any p=false:=by
   rw [Bool.eq_false_iff]
   intro ha
   obtain ⟨x,hx,F⟩:=xh.1 ha
   rw [this x hx] at F;cases F
  rw [D];rfl
 | some k=>
  obtain ⟨h1,h2,_⟩:=List.findIdx?_eq_some_iff_getElem.1 hf
  have D:es.any p=true:=xh.2 ⟨_,cg h1,h2⟩
  rw [D]
  simp only [ab]
  rw [show decide ((0:Int)≤(k:Int))=true by simp]
end Go.Proofs.YtlmphbbhaeampaaGreat.A
