/- How the abstract run is reckoned: which definitions simp opens. -/
import Derived.Test.YtkkkkondjclcnaaGreatCode
import Derived.Test.YtkkkkondjclcnaaGreatPath
set_option linter.all false
namespace Go.Proofs.YtkkkkondjclcnaaGreat.A
open Go
abbrev E0:Env:=⟨0,false⟩
abbrev H0:HP:=fun _=>none
attribute [simp] au aE oU St.dC St.ev St.aG eE du put iq fS execOp sZ iE St.elems sX pick rn u9 AV.cl AV.nc n3 n4 run_ite bh dR cQ yA Jn dL kept AV.pure AV.aX AV.copy AV.nW AV.one GV
 St.result St.sc St.Ay St.pZ St.K1 jy qA wN qZ inBlock St.box St.aL AV.deep AV.cb AV.dm elemAt EM AV.dt aF St.jl St.fk AV.off AV.lX AV.kq St.bc St.rowAt St.putAt Pl.jM consume eV pY putCells
 lC dF dy jx view kR EL gv bL.app sY jO effect um
theorem yE(dp:Nat)(st:St){x:AV}(h:x.pure=true):st.jl dp x=some (x,[]):=by
 cases x<;>first | (simp only [St.jl,h,az];done) | (simp [AV.pure] at h;done) | (simp only [St.jl];rw [ab (by simpa [AV.pure] using h)])
theorem AE(dp:Nat)(st:St):∀ {xs:List AV},AV.aX xs=true→st.fk dp xs=some (xs,[])
 | [],_=>rfl
 | x::xs,h=>by
  simp only [AV.aX,aC] at h
  simp only [St.fk,yE dp st h.1,AE dp st h.2,ad,dZ]
variable {β:Type}
theorem Uw{α:Type}{x y:Option α}{f:α→Option β}(h:x=y):x.bind f=y.bind f:=by rw [h]
attribute [congr] Uw
variable {E:Env}{f:FuncId}{hp:HP}
theorem Ou{G:sb}{Ω:ef}{args:List AV}{r:bH×HP}(n:Nat)(h:jP G (exec G Ω n) E f args hp=some r):call G Ω E f args hp=some r:=by
 obtain ⟨fn,h1,h2⟩:=ah.1 h
 obtain ⟨q,h3,h4⟩:=ah.1 h2
 exact ah.2 ⟨fn,h1,ah.2 ⟨q,lR n _ _ _ _ h3,h4⟩⟩
theorem ej{α:Type}(e:α→AV)(h:∀ a,(e a).pure=true)(l:List α):AV.aX (l.map e)=true:=
 kM fun x hx=>by
  obtain ⟨a,_,rfl⟩:=iJ.1 hx
  exact h a
theorem Ov{l m:List AV}(h:AV.aX l=true)(h':AV.aX m=true):AV.aX (l++m)=true:=
 kM fun x hx=>(dk.1 hx).elim (fB h x) (fB h' x)
@[simp] theorem amU (l:List Int):AV.aX (l.map (AV.i .i64))=true:=ej _ (fun _=>rfl) l
@[simp] theorem amV (l:List Bool):AV.aX (l.map AV.b)=true:=ej _ (fun _=>rfl) l
theorem wrapN(n:Nat)(h:n<4611686018427387904):IntKind.i64.wrap (n:Int)=n:=wrap64 (by omega) (by omega)
theorem iF(n:Nat)(h:n<4611686018427387904):IntKind.i64.wrap ((n:Int)+1)=(n:Int)+1:=wrap64 (by omega) (by omega)
theorem amB{α:Type}(e:α→AV)(p:AV→Bool)(h:∀ a,p (e a)=true)(l:List α):(l.map e).all p=true:=by
 simp [yk,h]
abbrev I(n:Int):AV:=.i .i64 n
abbrev Z0:Prop:=(0:Nat)=0
abbrev T0:Prop:=true=true
def eW{α:Type}(t:TypeId)(e:α→AV)(l:List α):AV:=.l t (l.map e)
variable {j:Nat}
theorem aM{α:Type}(e:α→AV){l:List α}{x:α}(h:l[j]? =some x):(l.map e)[j]? =some (e x):=by rw [yl,h];rfl
theorem kS{α:Type}(e:α→AV){l:List α}{x:α}{v:AV}(h:l[j]? =some x)(hv:e x=v):(l.map e)[j]? =some v:=by rw [aM e h,hv]
theorem map_set{α:Type}(e:α→AV)(l:List α)(j:Nat)(x:α):(l.map e).set j (e x)=(l.set j x).map e:=(List.map_set ..).symm
theorem map_take{α:Type}(e:α→AV)(l:List α)(j:Nat):(l.map e).take j=(l.take j).map e:=(List.map_take ..).symm
theorem Nb{α:Type}(e:α→AV)(l:List α)(i j:Nat):((l.map e).take j).drop i=((l.take j).drop i).map e:=by rw [List.map_drop,List.map_take]
theorem aJ{α:Type}(e:α→AV)(l:List α):((l.map e).length:Int)=((l.length:Nat):Int):=by rw [eY]
variable {n:Nat}
theorem mY{α:Type}(e:α→AV)(h:∀ a,(e a).nc=n)(l:List α):((l.map e).all fun x=>x.nc==n)=true:=by
 rw [yk]
 exact cJ.2 fun x _=>eh.2 (h x)
theorem NV{b:Nat}(h:n≤1000000000)(hb:b≤100000):n*b≤140737488355328:=bS (Nat.mul_le_mul h hb) (by decide)
theorem NW(h:n≤1000000000):n≤maxLen:=bS h (by decide)
theorem rr{α:Type}{e:α→AV}{l m:List α}{b:Nat}(h:l.length+m.length≤1000000000)(hb:b≤100000):((l.map e).length+(m.map e).length)*b≤140737488355328:=by
 rw [eY,eY];exact NV h hb
theorem rv{α:Type}{e:α→AV}{l m:List α}(h:l.length+m.length≤1000000000):(l.map e).length+(m.map e).length≤maxLen:=by
 rw [eY,eY];exact NW h
theorem fW(hp:HP)(k:Key)(a b:List AV):ar (ar hp k a) k b=ar hp k b:=by
 funext k';simp only [ar];split<;>rfl
theorem iK(hp:HP)(k:Key)(a:List AV):ar hp k a k=some a:=by simp [ar]
def ry{α ε:Type}(B:α→Option (α⊕ε)):Nat→α→Option ε
 | 0,_=>none
 | n+1,v=>match B v with
  | some (.inl w)=>ry B n w
  | some (.inr x)=>some x
  | none=>none
class Lp where
 run : {α ε:Type}→(α→Option (α⊕ε))→α→Option ε
 sound:∀ {α ε:Type}{B:α→Option (α⊕ε)}{v:α}{x:ε},run B v=some x→∃ n,ry B n v=some x
 told:∀ {α ε:Type}{B:α→Option (α⊕ε)}{v:α}{x:ε}(n:Nat),ry B n v=some x→run B v=some x
abbrev lp[Lp]{α ε:Type}(B:α→Option (α⊕ε))(v:α):Option ε:=Lp.run B v
theorem AF[Lp]{α ε:Type}{B:α→Option (α⊕ε)}{v:α}{x:ε}(h:lp B v=some x):∃ n,ry B n v=some x:=Lp.sound h
theorem SP[Lp]{α ε:Type}{B:α→Option (α⊕ε)}{v:α}{x:ε}(n:Nat)(h:ry B n v=some x):lp B v=some x:=Lp.told n h
theorem Ow{α ε:Type}{B:α→Option (α⊕ε)} : ∀ {n:Nat}{v:α}{x:ε},ry B n v=some x→ry B (n+1) v=some x
 | 0,_,_,h=>by cases h
 | n+1,v,x,h=>by
  rw [ry] at h ⊢
  split at h
  ·exact Ow h
  ·exact h
  ·exact h
theorem Ux{α ε:Type}{B:α→Option (α⊕ε)}{m:Nat}{v:α}{x:ε}(hm:n≤m)(h:ry B n v=some x):ry B m v=some x:=by
 induction hm with
 | refl=>exact h
 | step _ ih=>exact Ow ih
theorem Y8{α ε:Type}{B:α→Option (α⊕ε)}{m:Nat}{v:α}{x y:ε}(h:ry B n v=some x)(h':ry B m v=some y):x=y:=by
 have h1:=Ux (Fj n m) h
 rw [Ux (Fk n m) h'] at h1
 exact (af h1).symm
theorem Uy:Nonempty Lp:=by
 refine ⟨⟨fun {α ε} B v=>open Classical in if h:∃ n,(ry B n v).isSome then ry B h.choose v else none,fun {α ε B v x} h=>?_,fun {α ε B v x} n h=>?_⟩⟩
 ·split at h
  ·rename_i hn;exact ⟨_,h⟩
  ·cases h
 ·have hn:∃ n,(ry B n v).isSome:=⟨n,by rw [h];rfl⟩
  rw [dif_pos hn]
  have:=hn.choose_spec
  obtain ⟨y,hy⟩:=jJ.1 this
  rw [hy,Y8 hy h]
variable [Lp]
section
variable {α ε:Type}{B:α→Option (α⊕ε)}
theorem jQ{v:α}{x:ε}(h:B v=some (.inr x)):lp B v=some x:=SP 1 (by rw [ry,h])
theorem nJ{v w:α}(h:B v=some (.inl w)):lp B v=lp B w:=by
 cases hw:lp B w with
 | some x=>obtain ⟨n,hn⟩:=AF hw;exact SP (n+1) (by rw [ry,h];exact hn)
 | none=>
  cases hv:lp B v with
  | none=>rfl
  | some x=>
   obtain ⟨n,hn⟩:=AF hv
   cases n with
   | zero=>cases hn
   | succ n=>rw [ry,h] at hn;rw [SP n hn] at hw;cases hw
end
def bO{α ε:Type}(E:Env)(l:bb)(S:α→St)(X:ε→aN×St)(v:α):α⊕ε→Prop
 | .inl w=>(run G Ω0 E l.x (S v)).bind (kept l)=some (S w)
 | .inr x=>run G Ω0 E l.x (S v)=some (X x)∧(X x).1≠.nrm
theorem Ro{α ε:Type}{B:α→Option (α⊕ε)}(l:bb)(S:α→St)(X:ε→aN×St)(hk:∀ v,(S v).aG l.kf l.kb=S v)(hb:∀ v o,B v=some o→bO E l S X v o){v:α}{x:ε}(h:lp B v=some x):fH G Ω0 E l (S v)=some (X x):=by
 obtain ⟨n,hn⟩:=AF h
 clear h
 induction n generalizing v with
 | zero=>cases hn
 | succ n ih=>
  rw [ry] at hn
  split at hn
  ·rename_i w hw
   rw [dz (by rw [hk];exact hb v _ hw)]
   exact ih hn
  ·rename_i y hy
   obtain rfl:=af hn
   obtain ⟨h1,h2⟩:=hb v _ hy
   exact dD (by rw [hk];exact h1) h2
  ·cases hn
def boxes(dp:Nat)(bx:List (Nat×List AV))(hp:HP):HP:=fun k=>if k.dp=dp then aE bx k.d else hp k
variable {k k':Key}
theorem n6{cs:List AV}(h:k≠k'):ar hp k' cs k=hp k:=by simp only [ar,aa h]
variable {c:List AV}
theorem xa{h h':HP}{d:List AV}(hn:k'≠k)(e:ar h k c=h'):ar (ar h k' d) k c=ar h' k' d:=by
 subst e
 funext q
 simp only [ar]
 by_cases h1:q=k
 ·subst h1;simp [pT hn]
 ·simp [h1]
variable {dp:Nat}{bx:List (Nat×List AV)}
theorem Y9(h:k.dp≠dp):ar (boxes dp bx hp) k c=boxes dp bx (ar hp k c):=by
 funext q
 simp only [ar,boxes]
 by_cases h1:q=k
 ·subst h1;simp [h]
 ·simp [h1]
variable {d d':Nat}
theorem SQ(h:(aE bx d).isSome=true):aE (oU bx d c) d'=if d'=d then some c else aE bx d':=by
 induction bx with
 | nil=>simp [aE] at h
 | cons x bx ih=>
  obtain ⟨k,cs⟩:=x
  by_cases hk:k=d
  ·subst hk
   by_cases hd:d'=k
   ·subst hd;simp [oU,aE]
   ·have:¬k=d':=fun e=>hd e.symm
    simp [oU,aE,hd,this]
  ·have h2:(aE bx d).isSome=true:=by simpa [aE,hk] using h
   have:=ih h2
   by_cases hd:k=d'
   ·subst hd
    simp [oU,aE,hk]
   ·simp [oU,aE,hk,hd,this]
theorem Za(h:(aE bx d).isSome=true):ar (boxes dp bx hp) ⟨dp,d⟩ c=boxes dp (oU bx d c) hp:=by
 funext q
 obtain ⟨qd,q'⟩:=q
 simp only [ar,boxes,SQ h,Key.mk.injEq]
 by_cases h1:qd=dp
 ·simp [h1]
 ·simp [h1]
theorem gj{bx1:List (Nat×List AV)}(h:(aE bx d).isSome=true)(hb:oU bx d c=bx1):ar (boxes dp bx hp) ⟨dp,d⟩ c=boxes dp bx1 hp:=hb▸Za h
theorem fI{hp1:HP}(h:k.dp≠dp)(hh:ar hp k c=hp1):ar (boxes dp bx hp) k c=boxes dp bx hp1:=hh▸Y9 h
theorem kT{H H1 H2:HP}(h:H=H1)(h':ar H1 k c=H2):ar H k c=H2:=h▸h'
def FP:List Nat→Bool
 | []=>true
 | x::l=>l.all (fun y=>x !=y)&&FP l
theorem Ox:∀ {l:List Nat},FP l=true→l.Nodup
 | [],_=>List.nodup_nil
 | x::l,h=>by
  simp only [FP,aC,cJ,uP,ne_eq] at h
  exact wX.2 ⟨fun hm=>h.1 x hm rfl,Ox h.2⟩
variable {bx':List (Nat×List AV)}
theorem Qx(h:bx'.map Prod.fst=bx.map Prod.fst)(F:FP (bx.map Prod.fst)=true):bY dp (boxes dp bx' hp) bx=bx':=by
 have hn:=Ox F
 clear F
 have key:∀ (l l':List (Nat×List AV)),l'.map Prod.fst=l.map Prod.fst→(l.map Prod.fst).Nodup→(∀ x∈l',aE bx' x.1=some x.2)→bY dp (boxes dp bx' hp) l=l':=by
  intro l
  induction l with
  | nil=>intro l' hl _ _;cases l' with
   | nil=>rfl
   | cons _ _=>cases hl
  | cons y l ih=>
   intro l' hl U hg
   cases l' with
   | nil=>cases hl
   | cons x l'=>
    simp only [fj,Fm] at hl
    obtain ⟨d,cs⟩:=y
    obtain ⟨d',cs'⟩:=x
    obtain ⟨rfl,hl⟩:=hl
    have h1:=hg (d',cs') (by simp)
    simp only [bY,boxes,az,h1]
    rw [ih l' hl (wX.1 U).2 fun x hx=>hg x (by simp [hx])]
 refine key bx bx' h hn fun x hx=>?_
 have J:(bx'.map Prod.fst).Nodup:=by rw [h];exact hn
 clear key h hn
 induction bx' with
 | nil=>cases hx
 | cons y bx' ih=>
  obtain ⟨d,cs⟩:=y
  rcases eX.1 hx with rfl | hx
  ·simp [aE]
  ·have N:¬d=x.1:=fun e=>(wX.1 J).1 (iJ.2 ⟨x,hx,e.symm⟩)
   simp only [aE,aa N]
   exact ih hx (wX.1 J).2
def aO(dp:Nat)(hp:HP):Prop:=∀ k:Key,¬k.dp<dp→hp k=none
theorem sf(dp:Nat):aO dp (fun _=>none):=fun _ _=>rfl
theorem aU(hk:k.dp<dp)(h:aO dp hp):aO dp (ar hp k c):=by
 intro q hq
 have:q≠k:=fun e=>by subst e;exact hq hk
 rw [n6 this];exact h q hq
theorem dJ(h:aO dp hp):aO (dp+1) (boxes dp bx hp):=by
 intro q hq
 simp only [boxes,aa (show ¬q.dp=dp by omega)]
 exact h q (by omega)
theorem Uz(h:aO dp hp):(fun k:Key=>if k.dp<dp then boxes dp bx hp k else none)=hp:=by
 funext q
 by_cases h1:q.dp<dp
 ·simp only [ab h1,boxes,aa (show ¬q.dp=dp by omega)]
 ·rw [aa h1,h q h1]
theorem aeP(h:d≠d'):(⟨dp,d⟩:Key)≠⟨dp,d'⟩:=fun e=>h (an Key.d e)
theorem bD(h:k.dp<dp):k≠⟨dp,d⟩:=fun e=>by subst e;exact Nat.lt_irrefl _ h
theorem CS(h:k.dp<dp):(⟨dp,d⟩:Key)≠k:=fun e=>bD h e.symm
variable {ys:List AV}
theorem mJ{h1 M h2 L:HP}{x:AV}(e1:h1=M)(e2:h2=L)(h:call G Ω0 E f ys h1=some (.ret x,h2)):call G Ω0 E f ys M=some (.ret x,L):=e1▸e2▸h
variable {R:Type}{A:Option R}{r:R}{P:Prop}
theorem Wl{c:Prop}[Decidable c]{B:Option R}(h:(if c then A else B)=some r)(h1:c→A=some r→P)(h2:¬c→B=some r→P):P:=by
 by_cases hc:c
 ·exact h1 hc (by rwa [ab hc] at h)
 ·exact h2 hc (by rwa [aa hc] at h)
theorem amC{c:Bool}{B:Option R}(h:(if c=true then A else B)=some r)(h1:c=true→A=some r→P)(h2:c=false→B=some r→P):P:=by
 cases c with
 | true=>exact h1 rfl h
 | false=>exact h2 rfl h
def dV(n:Int):Option Nat:=if 0≤n then some n.toNat else none
theorem iV{n:Int}(h:dV n=some j):n=(j:Int):=by
 unfold dV at h;split at h
 ·obtain rfl:=af h;omega
 ·cases h
theorem Oy(n:Nat):dV (n:Int)=some n:=by simp [dV]
theorem cX{n:Int}(h:0≤n):dV n=some n.toNat:=by simp [dV,h]
theorem aW{c:Prop}[Decidable c](h:(if c then A else none)=some r)(h1:c→A=some r→P):P:=
 Wl h h1 fun _ h=>by cases h
theorem aj8(h:(none:Option R)=some r):P:=by cases h
theorem aeQ:aN.ret≠.nrm:=by intro h;cases h
theorem aj9(n:Nat):aN.ex n≠.nrm:=by intro h;cases h
def NX{α ε:Type}(S:α→St)(X:ε→aN×St):α⊕ε→St⊕(aN×St)
 | .inl w=>.inl (S w)
 | .inr x=>.inr (X x)
variable {Q:Type}
theorem cn{m:Option Q}{k:Q→Option R}{T:Q→Prop}(h:m.bind k=some r)(h1:∀ x,m=some x→k x=some r→T x):∃ x,T x:=by
 obtain ⟨x,h2,h3⟩:=ah.1 h
 exact ⟨x,h1 x h2 h3⟩
theorem mZ{n:Int}{k:Nat→Option R}{T:Nat→Prop}(h:(dV n).bind k=some r)(h1:∀ j:Nat,n=(j:Int)→k j=some r→T j):∃ j,T j:=
 cn h fun j hj h=>h1 j (iV hj) h
variable {T:Prop}
theorem cp{c:Prop}[Decidable c]{B:Option R}{S:Prop}(h:(if c then A else B)=some r)(h1:c→A=some r→T)(h2:¬c→B=some r→S):T∨S:=
 Wl h (fun hc h=>.inl (h1 hc h)) fun hc h=>.inr (h2 hc h)
theorem cG{c:Bool}{B:Option R}{S:Prop}(h:(if c=true then A else B)=some r)(h1:c=true→A=some r→T)(h2:c=false→B=some r→S):T∨S:=
 amC h (fun hc h=>.inl (h1 hc h)) fun hc h=>.inr (h2 hc h)
variable {b0 b1:Type}{K:b0⊕b1→Option R}{T0:b0→Prop}{T1:b1→Prop}
theorem amD{m:Option (b0⊕b1)}(h:m.bind K=some r)(p0:∀ a,m=some (.inl a)→K (.inl a)=some r→T0 a)(p1:∀ a,m=some (.inr a)→K (.inr a)=some r→T1 a):(∃ a,T0 a)∨(∃ a,T1 a):=by
 obtain ⟨x,h2,h3⟩:=ah.1 h
 match x,h2,h3 with
 | .inl a,h2,h3=>exact .inl ⟨a,p0 a h2 h3⟩
 | .inr a,h2,h3=>exact .inr (⟨a,p1 a h2 h3⟩)
variable {b2:Type}{T2:b2→Prop}
theorem amE{m:Option (b0⊕(b1⊕b2))}{K:b0⊕(b1⊕b2)→Option R}(h:m.bind K=some r)(p0:∀ a,m=some (.inl a)→K (.inl a)=some r→T0 a)(p1:∀ a,m=some (.inr (.inl a))→K (.inr (.inl a))=some r→T1 a)(p2:∀ a,m=some (.inr (.inr a))→K (.inr (.inr a))=some r→T2 a):(∃ a,T0 a)∨(∃ a,T1 a)∨(∃ a,T2 a):=by
 obtain ⟨x,h2,h3⟩:=ah.1 h
 match x,h2,h3 with
 | .inl a,h2,h3=>exact .inl ⟨a,p0 a h2 h3⟩
 | .inr (.inl a),h2,h3=>exact .inr (.inl ⟨a,p1 a h2 h3⟩)
 | .inr (.inr a),h2,h3=>exact .inr (.inr (⟨a,p2 a h2 h3⟩))
variable {b3:Type}{T3:b3→Prop}
theorem amF{m:Option (b0⊕(b1⊕(b2⊕b3)))}{K:b0⊕(b1⊕(b2⊕b3))→Option R}(h:m.bind K=some r)(p0:∀ a,m=some (.inl a)→K (.inl a)=some r→T0 a)(p1:∀ a,m=some (.inr (.inl a))→K (.inr (.inl a))=some r→T1 a)(p2:∀ a,m=some (.inr (.inr (.inl a)))→K (.inr (.inr (.inl a)))=some r→T2 a)(p3:∀ a,m=some (.inr (.inr (.inr a)))→K (.inr (.inr (.inr a)))=some r→T3 a):(∃ a,T0 a)∨(∃ a,T1 a)∨(∃ a,T2 a)∨(∃ a,T3 a):=by
 obtain ⟨x,h2,h3⟩:=ah.1 h
 match x,h2,h3 with
 | .inl a,h2,h3=>exact .inl ⟨a,p0 a h2 h3⟩
 | .inr (.inl a),h2,h3=>exact .inr (.inl ⟨a,p1 a h2 h3⟩)
 | .inr (.inr (.inl a)),h2,h3=>exact .inr (.inr (.inl ⟨a,p2 a h2 h3⟩))
 | .inr (.inr (.inr a)),h2,h3=>exact .inr (.inr (.inr (⟨a,p3 a h2 h3⟩)))
variable {b4:Type}{T4:b4→Prop}
theorem amG{m:Option (b0⊕(b1⊕(b2⊕(b3⊕b4))))}{K:b0⊕(b1⊕(b2⊕(b3⊕b4)))→Option R}(h:m.bind K=some r)(p0:∀ a,m=some (.inl a)→K (.inl a)=some r→T0 a)(p1:∀ a,m=some (.inr (.inl a))→K (.inr (.inl a))=some r→T1 a)(p2:∀ a,m=some (.inr (.inr (.inl a)))→K (.inr (.inr (.inl a)))=some r→T2 a)(p3:∀ a,m=some (.inr (.inr (.inr (.inl a))))→K (.inr (.inr (.inr (.inl a))))=some r→T3 a)(p4:∀ a,m=some (.inr (.inr (.inr (.inr a))))→K (.inr (.inr (.inr (.inr a))))=some r→T4 a):(∃ a,T0 a)∨(∃ a,T1 a)∨(∃ a,T2 a)∨(∃ a,T3 a)∨(∃ a,T4 a):=by
 obtain ⟨x,h2,h3⟩:=ah.1 h
 match x,h2,h3 with
 | .inl a,h2,h3=>exact .inl ⟨a,p0 a h2 h3⟩
 | .inr (.inl a),h2,h3=>exact .inr (.inl ⟨a,p1 a h2 h3⟩)
 | .inr (.inr (.inl a)),h2,h3=>exact .inr (.inr (.inl ⟨a,p2 a h2 h3⟩))
 | .inr (.inr (.inr (.inl a))),h2,h3=>exact .inr (.inr (.inr (.inl ⟨a,p3 a h2 h3⟩)))
 | .inr (.inr (.inr (.inr a))),h2,h3=>exact .inr (.inr (.inr (.inr (⟨a,p4 a h2 h3⟩))))
theorem lY{V:Type}{Y:R→V}{a:R}(h:some a=some r):Y a=Y r:=by rw [af h]
theorem aka{α ε:Type}{l:bb}{S:α→St}{X:ε→aN×St}{v:α}{o:α⊕ε}(a:AT)(h:T)(he:T=cW G Ω0 E l.x (S v) a fun e s _=>YB l.kf l.kb e s=NX S X o):bO E l S X v o:=by
 obtain ⟨e,s,_,h1,h2⟩:=ya l.x (he▸h)
 cases o with
 | inl w=>
  cases e with
  | nrm=>
   have h3:s.aG l.kf l.kb=S w:=Sum.inl.inj h2
   show (run G Ω0 E l.x (S v)).bind (kept l)=some (S w)
   rw [h1,←h3];rfl
  | ret=>cases h2
  | ex id=>cases h2
 | inr x=>
  cases e with
  | nrm=>cases h2
  | ret=>
   have h3:(aN.ret,s)=X x:=Sum.inr.inj h2
   exact ⟨by rw [h1,h3],by rw [←h3];exact aeQ⟩
  | ex id=>
   have h3:(aN.ex id,s)=X x:=Sum.inr.inj h2
   exact ⟨by rw [h1,h3],by rw [←h3];exact aj9 _⟩
variable {c':List AV}
theorem cO{x:AV}(hk:k.dp<dp)(h:call G Ω0 E f ys (ar (boxes dp bx (ar hp k c)) k c)=some (.ret x,ar (boxes dp bx (ar hp k c)) k c')):call G Ω0 E f ys (boxes dp bx (ar hp k c))=some (.ret x,boxes dp bx (ar hp k c')):=
 mJ (fI (bQ hk) (fW ..)) (fI (bQ hk) (fW ..)) h
variable {k0 k1:Key}{a b a' b':List AV}
theorem sw2(h0:k0.dp<dp)(h1:k1.dp<dp)(n01:k0≠k1):
  ar (ar (boxes dp bx (ar (ar hp k0 a) k1 b)) k0 a') k1 b'=boxes dp bx (ar (ar hp k0 a') k1 b'):=
 kT (fI (bQ h0) (xa (pT n01) (fW ..))) (fI (bQ h1) (fW ..))
variable {k2:Key}
theorem sw3(h0:k0.dp<dp)(h1:k1.dp<dp)(h2:k2.dp<dp)(n01:k0≠k1)(n02:k0≠k2)(n12:k1≠k2):
  ar (ar (ar (boxes dp bx (ar (ar (ar hp k0 a) k1 b) k2 c)) k0 a') k1 b') k2 c'=boxes dp bx (ar (ar (ar hp k0 a') k1 b') k2 c'):=
 kT (kT (fI (bQ h0) (xa (pT n02) (xa (pT n01) (fW ..)))) (fI (bQ h1) (xa (pT n12) (fW ..)))) (fI (bQ h2) (fW ..))
theorem Rp{x:AV}(h0:k0.dp<dp)(h1:k1.dp<dp)(n01:k0≠k1)(h:call G Ω0 E f ys (ar (ar (boxes dp bx (ar (ar hp k0 a) k1 b)) k0 a) k1 b)=some (.ret x,ar (ar (boxes dp bx (ar (ar hp k0 a) k1 b)) k0 a') k1 b')):
  call G Ω0 E f ys (boxes dp bx (ar (ar hp k0 a) k1 b))=some (.ret x,boxes dp bx (ar (ar hp k0 a') k1 b')):=mJ (sw2 h0 h1 n01) (sw2 h0 h1 n01) h
theorem cO3{x:AV}(h0:k0.dp<dp)(h1:k1.dp<dp)(h2:k2.dp<dp)(n01:k0≠k1)(n02:k0≠k2)(n12:k1≠k2)(h:call G Ω0 E f ys (ar (ar (ar (boxes dp bx (ar (ar (ar hp k0 a) k1 b) k2 c)) k0 a) k1 b) k2 c)=some (.ret x,ar (ar (ar (boxes dp bx (ar (ar (ar hp k0 a) k1 b) k2 c)) k0 a') k1 b') k2 c')):
  call G Ω0 E f ys (boxes dp bx (ar (ar (ar hp k0 a) k1 b) k2 c))=some (.ret x,boxes dp bx (ar (ar (ar hp k0 a') k1 b') k2 c')):=mJ (sw3 h0 h1 h2 n01 n02 n12) (sw3 h0 h1 h2 n01 n02 n12) h
theorem SS(n01:k0≠k1):(ar (ar hp k0 a) k1 b) k0=some a:=(n6 n01).trans (iK ..)
theorem amH(n01:k0≠k1)(n02:k0≠k2):(ar (ar (ar hp k0 a) k1 b) k2 c) k0=some a:=(n6 n02).trans (SS n01)
abbrev Rl.cD(p:aN×St):Rl:=.lp p.1 p.2
abbrev Rl.wO(p:aN×St):Rl:=.fr p.1 p.2
theorem uq{α ε:Type}{B:α→Option (α⊕ε)}(n:Nat)(f:Nat→α){x:ε}(hs:∀ k,k<n→B (f k)=some (.inl (f (k+1))))(he:B (f n)=some (.inr x)):lp B (f 0)=some x:=by
 have:∀ m k,k+m=n→lp B (f k)=some x:=by
  intro m
  induction m with
  | zero=>
    intro k hk;obtain rfl:k=n:=by omega
    exact jQ he
  | succ m ih=>intro k hk;rw [nJ (hs k (by omega))];exact ih (k+1) (by omega)
 exact this n 0 (by omega)
theorem sg{α ε:Type}{B:α→Option (α⊕ε)}(es:List β)(p:β→Bool)(f:Nat→α){x y:ε}(hs:∀ k (h:k<es.length),p es[k]=false→B (f k)=some (.inl (f (k+1))))(hx:∀ k (h:k<es.length),p es[k]=true→B (f k)=some (.inr x))(he:B (f es.length)=some (.inr y)):lp B (f 0)=some (if es.any p then x else y):=by
 have:∀ m k,k+m=es.length→lp B (f k)=some (if (es.drop k).any p then x else y):=by
  intro m
  induction m with
  | zero=>
   intro k hk
   obtain rfl:k=es.length:=by omega
   rw [Fp]
   exact jQ he
  | succ m ih=>
   intro k hk
   have g:k<es.length:=by omega
   rw [ov g,List.any_cons]
   cases hp:p es[k] with
   | true=>exact jQ (hx k g hp)
   | false=>rw [nJ (hs k g hp),ih (k+1) (by omega)];rfl
 exact this es.length 0 (by omega)
theorem kA{α ε:Type}{B:α→Option (α⊕ε)}(m:α→Nat)(Inv:α→Prop)(Q:ε→Prop)(step:∀ a,Inv a→(∃ x,B a=some (.inr x)∧Q x)∨∃ b,B a=some (.inl b)∧Inv b∧m b<m a):∀ a,Inv a→∃ x,lp B a=some x∧Q x:=by
 have:∀ n a,m a<n→Inv a→∃ x,lp B a=some x∧Q x:=by
  intro n
  induction n with
  | zero=>intro a h;omega
  | succ n ih=>
   intro a h hi
   rcases step a hi with ⟨x,h1,h2⟩ | ⟨b,h1,h2,h3⟩
   ·exact ⟨x,jQ h1,h2⟩
   ·rw [nJ h1];exact ih b (by omega) h2
 exact fun a=>this (m a+1) a (mR _)
variable {t:TypeId}
theorem Wm{n:Int}(h:0≤n∧n≤1000000):rq t [.n,.i .i64 n]=some (.o t []):=by
 simp [rq,h.1,h.2]
variable {hp':HP}
theorem sh{y:bH}(_:call G Ω0 E f ys (boxes dp bx hp)=some (y,boxes dp bx' hp'))(h:bx'.map Prod.fst=bx.map Prod.fst)(hn:FP (bx.map Prod.fst)=true):bY dp (boxes dp bx' hp') bx=bx':=Qx h hn
theorem si{y:bH}(_:call G Ω0 E f ys (boxes dp bx hp)=some (y,boxes dp bx' hp'))(hz:aO dp hp'):(fun k:Key=>if k.dp<dp then boxes dp bx' hp' k else none)=hp':=Uz hz
variable {x y:Bool}
theorem g1(h:x=y):(x==true)=(y==true):=an (fun z=>z==true) h
theorem g0(h:x=y):(x==false)=(y==false):=an (fun z=>z==false) h
theorem G0{α:Type}{ts:List TypeId}{f:α→AV}(h:∀ x,(f x).off ts=true):∀ l:List α,AV.lX ts (l.map f)=true
 | []=>rfl
 | x::l=>by simp only [fj,AV.lX,h x,G0 h l,ji]
theorem AG(ts:List TypeId)(l:List Bool):AV.lX ts (l.map AV.b)=true:=G0 (fun _=>by simp only [AV.off]) l
noncomputable def ev{α:Type}(x:Nat→Option α):Option α:=open Classical in if h:∃ r,∃ n0,∀ n,n0≤n→x n=some r then some (Classical.choose h) else none
theorem xb{α:Type}{x:Nat→Option α}{r:α}(h:ev x=some r):∃ n,x n=some r:=by
 unfold ev at h
 split at h
 ·rename_i hex
  obtain ⟨n0,hn⟩:=Fi hex
  exact ⟨n0,by rw [hn n0 (aV _)];exact h⟩
 ·cases h
theorem D5{α:Type}{x:Nat→Option α}{r:α}(n0:Nat)(h:∀ n,n0≤n→x n=some r):ev x=some r:=by
 unfold ev
 have hex:∃ r,∃ n0,∀ n,n0≤n→x n=some r:=⟨r,n0,h⟩
 rw [dif_pos hex]
 obtain ⟨n1,h1⟩:=Fi hex
 have:=h1 (max n0 n1) (Fk _ _)
 rw [h (max n0 n1) (Fj _ _)] at this
 exact this.symm
def SU(b:Bool)(n:Int):Option (List Bool):=if 0≤n∧n≤1000000 then some (List.replicate n.toNat b) else none
theorem Zb{u:TypeId}{b:Bool}{n:Int}{r:List Bool}(h:SU b n=some r):vW t [.l u [.b b],.i .i64 n]=some (.l t (r.map AV.b)):=by
 unfold SU at h
 split at h
 ·rename_i hn
  obtain rfl:=af h
  simp only [vW,ab hn,BC]
 ·cases h
def JA:Option Bool:=some true
theorem UA{b:Bool}(h:JA=some b):uo []=some (.b b):=by
 obtain rfl:=af h;rfl
variable {fn:bE}{Y:R→bH×HP}
theorem bu(hG:G f=some fn)(a:AT)(h:(∀ {a:R},some a=some r→Y a=Y r)→T)(he:T=SO G Ω0 E fn ys hp a fun y h=>(bH.ret y,h)=Y r:=by kernel_rfl):call G Ω0 E f ys hp=some (Y r):=aj5 hG a (h lY) he
theorem Zc(hG:G f=some fn)(a:AT)(h:(∀ {a:R},some a=some r→Y a=Y r)→T)(he:T=Oo G Ω0 E fn ys hp a fun y h=>(bH.new y,h)=Y r:=by kernel_rfl):call G Ω0 E f ys hp=some (Y r):=aeO hG a (h lY) he
variable {st:St}
theorem NY{c:AC}{Y:R→aN×St}(a:AT)(h:(∀ {a:R},some a=some r→Y a=Y r)→T)(he:T=cW G Ω0 E c st a fun e s _=>(e,s)=Y r:=by kernel_rfl):run G Ω0 E c st=some (Y r):=runT a (h lY) he
variable {kf kb:List Nat}
theorem ur{gs:List de}{Y:R→St}(a:AT)(h:(∀ {a:R},some a=some r→Y a=Y r)→T)(he:T=FN G Ω0 E kf kb st gs a fun s _=>s=Y r:=by kernel_rfl):uc G Ω0 E kf kb gs st=some (Y r):=aj6 a (h lY) he
theorem anG{gs:List br}{Y:R→St}(a:AT)(h:(∀ {a:R},some a=some r→Y a=Y r)→T)(he:T=FO G Ω0 E kf kb st gs a fun s _=>s=Y r:=by kernel_rfl):K5 G Ω0 E kf kb gs st=some (Y r):=aj7 a (h lY) he
theorem bZ{α ε:Type}{l:bb}{S:α→St}{X:ε→aN×St}{v:α}{o:α⊕ε}(a:AT)(h:(∀ {a:α⊕ε},some a=some o→NX S X a=NX S X o)→T)(he:T=cW G Ω0 E l.x (S v) a fun e s _=>YB l.kf l.kb e s=NX S X o:=by kernel_rfl):bO E l S X v o:=aka a (h lY) he
theorem bJ{m:Option Q}{k:Q→Option R}{O T:Q→Prop}(h:m.bind k=some r)(l:∀ x,m=some x→O x)(h1:∀ x,k x=some r→T x):∃ x,O x∧T x:=cn h fun x e h=>⟨l x e,h1 x h⟩
theorem fc{m:Option (b0⊕b1)}{O:b0⊕b1→Prop}(h:m.bind K=some r)(l:∀ x,m=some x→O x)(p0:∀ a,K (.inl a)=some r→T0 a)(p1:∀ a,K (.inr a)=some r→T1 a):(∃ a,O (.inl a)∧T0 a)∨(∃ a,O (.inr a)∧T1 a):=amD h (fun a e h=>⟨l _ e,p0 a h⟩) (fun a e h=>⟨l _ e,p1 a h⟩)
theorem SV{m:Option (b0⊕(b1⊕b2))}{K:b0⊕(b1⊕b2)→Option R}{O:b0⊕(b1⊕b2)→Prop}(h:m.bind K=some r)(l:∀ x,m=some x→O x)(p0:∀ a,K (.inl a)=some r→T0 a)(p1:∀ a,K (.inr (.inl a))=some r→T1 a)(p2:∀ a,K (.inr (.inr a))=some r→T2 a):(∃ a,O (.inl a)∧T0 a)∨(∃ a,O (.inr (.inl a))∧T1 a)∨(∃ a,O (.inr (.inr a))∧T2 a):=amE h (fun a e h=>⟨l _ e,p0 a h⟩) (fun a e h=>⟨l _ e,p1 a h⟩) (fun a e h=>⟨l _ e,p2 a h⟩)
theorem SW{m:Option (b0⊕(b1⊕(b2⊕b3)))}{K:b0⊕(b1⊕(b2⊕b3))→Option R}{O:b0⊕(b1⊕(b2⊕b3))→Prop}(h:m.bind K=some r)(l:∀ x,m=some x→O x)(p0:∀ a,K (.inl a)=some r→T0 a)(p1:∀ a,K (.inr (.inl a))=some r→T1 a)(p2:∀ a,K (.inr (.inr (.inl a)))=some r→T2 a)(p3:∀ a,K (.inr (.inr (.inr a)))=some r→T3 a):(∃ a,O (.inl a)∧T0 a)∨(∃ a,O (.inr (.inl a))∧T1 a)∨(∃ a,O (.inr (.inr (.inl a)))∧T2 a)∨(∃ a,O (.inr (.inr (.inr a)))∧T3 a):=amF h (fun a e h=>⟨l _ e,p0 a h⟩) (fun a e h=>⟨l _ e,p1 a h⟩) (fun a e h=>⟨l _ e,p2 a h⟩) (fun a e h=>⟨l _ e,p3 a h⟩)
theorem YC{m:Option (b0⊕(b1⊕(b2⊕(b3⊕b4))))}{K:b0⊕(b1⊕(b2⊕(b3⊕b4)))→Option R}{O:b0⊕(b1⊕(b2⊕(b3⊕b4)))→Prop}(h:m.bind K=some r)(l:∀ x,m=some x→O x)(p0:∀ a,K (.inl a)=some r→T0 a)(p1:∀ a,K (.inr (.inl a))=some r→T1 a)(p2:∀ a,K (.inr (.inr (.inl a)))=some r→T2 a)(p3:∀ a,K (.inr (.inr (.inr (.inl a))))=some r→T3 a)(p4:∀ a,K (.inr (.inr (.inr (.inr a))))=some r→T4 a):(∃ a,O (.inl a)∧T0 a)∨(∃ a,O (.inr (.inl a))∧T1 a)∨(∃ a,O (.inr (.inr (.inl a)))∧T2 a)∨(∃ a,O (.inr (.inr (.inr (.inl a))))∧T3 a)∨(∃ a,O (.inr (.inr (.inr (.inr a))))∧T4 a):=amG h (fun a e h=>⟨l _ e,p0 a h⟩) (fun a e h=>⟨l _ e,p1 a h⟩) (fun a e h=>⟨l _ e,p2 a h⟩) (fun a e h=>⟨l _ e,p3 a h⟩) (fun a e h=>⟨l _ e,p4 a h⟩)
theorem fC{α ε:Type}{B:α→Option (α⊕ε)}{l:bb}{S:α→St}{X:ε→aN×St}(hb:∀ v o,B v=some o→bO E l S X v o)(v:α)(x:ε)(h:lp B v=some x)(hk:∀ v,(S v).aG l.kf l.kb=S v:=by exact fun _=>rfl):fH G Ω0 E l (S v)=some (X x):=Ro l S X hk hb h
theorem rI(n:Nat):(n:Int)=(n:Int):=rfl
theorem rN(n:Nat):n=n:=rfl
theorem okR(h:k.dp<dp)(ns:List Nat):(gv dp ns (.p k 0)&&okB dp [] (.p k 0))=true:=by simp [gv,okB,ir,AV.cb,AV.dm,AV.kq,bD h]
abbrev xB(f:Bool→AT):AT:=.ex fun r=>ao (.v (.b r)) (f r)
abbrev xI(f:Int→AT):AT:=.ex fun r=>ao (.v (I r)) (f r)
abbrev xN(f:Nat→AT):AT:=.ex fun r=>ao (.n r) (f r)
abbrev oN(r:AT):AT:=.or (bt .nil) (bf r)
variable {p q:Prop}
theorem oY(H:q)(h:p):q∧Z0∧p:=⟨H,rfl,h⟩
theorem vX(h:p):true=true∧Z0∧p:=⟨rfl,rfl,h⟩
theorem JB(H:x=y)(h:p):(x==false)=(y==false)∧(x==false)=(y==false)∧Z0∧(x==false)=(y==false)∧p:=⟨g0 H,g0 H,rfl,g0 H,h⟩
theorem YD(H:x=y)(h:p):(x==false)=(y==false)∧(x==false)=(y==false)∧(x==false)=(y==false)∧(x==false)=(y==false)∧x=y∧p:=⟨g0 H,g0 H,g0 H,g0 H,H,h⟩
theorem Rq(H:x=y)(h:p):(x==true)=(y==true)∧(x==true)=(y==true)∧Z0∧(x==true)=(y==true)∧p:=⟨g1 H,g1 H,rfl,g1 H,h⟩
theorem Rr(H:x=y)(h:p):(x==true)=(y==true)∧(x==true)=(y==true)∧(x==true)=(y==true)∧p:=⟨g1 H,g1 H,g1 H,h⟩
theorem Mu(h:p):true=true∧false=false∧Z0∧true=true∧Z0∧Z0∧p:=⟨rfl,rfl,rfl,rfl,rfl,rfl,h⟩
theorem vY(H:x=y)(h:p):(x==true)=(y==true)∧(x==true)=(y==true)∧x=y∧p:=⟨g1 H,g1 H,H,h⟩
theorem oL(H:x=y)(h:p):(x==false)=(y==false)∧x=y∧p:=⟨g0 H,H,h⟩
theorem ev9(H:x=y)(h:p):(x==false)=(y==false)∧(x==false)=(y==false)∧(x==false)=(y==false)∧(x==false)=(y==false)∧(x==false)=(y==false)∧x=y∧p:=⟨g0 H,g0 H,g0 H,g0 H,g0 H,H,h⟩
theorem SX(H:q)(h:p):q∧Z0∧Z0∧p:=⟨H,rfl,rfl,h⟩
theorem nB(H:x=y)(h:p):(x==true)=(y==true)∧x=y∧p:=⟨g1 H,H,h⟩
theorem cq(H:x=y)(h:p):(x==false)=(y==false)∧(x==false)=(y==false)∧p:=⟨g0 H,g0 H,h⟩
theorem zb(h:p):true=true∧true=true∧true=true∧p:=⟨rfl,rfl,rfl,h⟩
theorem Cw(h:p):true=true∧true=true∧true=true∧true=true∧p:=⟨rfl,rfl,rfl,rfl,h⟩
theorem FQ(H:x=y)(h:p):(x==true)=(y==true)∧(x==true)=(y==true)∧(x==true)=(y==true)∧x=y∧p:=⟨g1 H,g1 H,g1 H,H,h⟩
theorem SY(H:x=y)(h:p):(x==false)=(y==false)∧(x==false)=(y==false)∧x=y∧p:=⟨g0 H,g0 H,H,h⟩
theorem Oz(H:q)(h:p):q∧true=true∧true=true∧true=true∧p:=⟨H,rfl,rfl,rfl,h⟩
theorem cu(H:x=y)(h:p):(x==true)=(y==true)∧(x==true)=(y==true)∧p:=⟨g1 H,g1 H,h⟩
theorem cg(h:p):true=true∧true=true∧p:=⟨rfl,rfl,h⟩
theorem gT(h:p):Z0∧true=true∧p:=⟨rfl,rfl,h⟩
theorem lZ(h:p):Z0∧Z0∧p:=⟨rfl,rfl,h⟩
theorem Cy(H:x=y)(h:p):(x==true)=(y==true)∧true=true∧(x==true)=(y==true)∧p:=⟨g1 H,rfl,g1 H,h⟩
theorem p7(h:p):false=false∧true=true∧p:=⟨rfl,rfl,h⟩
theorem oD(h:p):(true==false)=false∧(true==false)=false∧p:=⟨rfl,rfl,h⟩
theorem FT(H:x=y)(h:p):(x==false)=(y==false)∧true=true∧(x==false)=(y==false)∧p:=⟨g0 H,rfl,g0 H,h⟩
abbrev fN(r:AT):AT:=bt<|bt r
abbrev ja(r:AT):AT:=bt<|bt<|bt r
abbrev rz(r:AT):AT:=bt<|bt<|bt<|bt r
abbrev wP(r:AT):AT:=bt<|bt<|bt<|bt<|bt r
abbrev yG(r:AT):AT:=bt<|bf r
abbrev Mv(r:AT):AT:=bf<|bf<|bf r
abbrev UB(r:AT):AT:=bt<|bt<|bt<|bt<|bt<|bt<|bf r
abbrev UC(r:AT):AT:=bf<|bf<|bf<|bf r
abbrev YE(r:AT):AT:=bf<|bf<|bf<|bf<|bt r
abbrev YF(r:AT):AT:=bf<|bf<|bf<|bt<|bf<|bf r
abbrev Wn(r:AT):AT:=bf<|bf<|bf<|bf<|bf<|bf<|bf r
abbrev Wo(r:AT):AT:=bt<|bt<|bt<|bt<|bt<|bt r
abbrev Wp(r:AT):AT:=bf<|bf<|bf<|bf<|bf r
abbrev Wq(r:AT):AT:=bf<|bf<|bf<|bf<|bf<|bt r
abbrev Wr(r:AT):AT:=bt<|bt<|bt<|bt<|bt<|bt<|bt r
abbrev Ws(r:AT):AT:=bf<|bf<|bf<|bf<|bf<|bf r
abbrev aeT(r:AT):AT:=bf<|bf<|bf<|bf<|bt<|bf<|bf<|bf<|bf<|bt<|bf<|bf<|bf<|bf<|bt r
abbrev aeU(r:AT):AT:=bf<|bf<|bf<|bf<|bt<|bf<|bf<|bf<|bf<|bt r
abbrev aeV(r:AT):AT:=bf<|bf<|bf<|bf<|bf<|bf<|bf<|bt<|bt r
abbrev aeW(r:AT):AT:=bf<|bf<|bf<|bf<|bf<|bf<|bf<|bt<|bf<|bf<|bf<|bf<|bf<|bf<|bf<|bt<|bt r
abbrev aeX(r:AT):AT:=bf<|bf<|bf<|bf<|bf<|bt<|bt<|bt<|bt<|bt r
theorem gJ(k:Nat)(h:k<9223372036854775807):IntKind.i64.wrap ((k:Int)+1)=((k+1:Nat):Int):=(wrap64 (by omega) (by omega)).trans (by omega)
variable [Lp]
def zO{β:Type}(φ:β→Option Bool)(es:List β)(k:Nat):Option (Nat⊕(Nat⊕(Nat×Bool))):=
 if (k:Int)<(es.length:Int) then
  (es[k]?).bind fun (y:β)=>
  (φ y).bind fun (r:Bool)=>
  if r=true then
   some (.inr (.inl k))
  else
   if IntKind.i64.wrap ((k:Int)+1)=((k+1:Nat):Int) then
    some (.inl (k+1))
   else none
 else
  some (.inr (.inr (k,decide ((k:Int)<(es.length:Int)))))
def YG{β:Type}(p:β→Bool)(es:List β):Nat⊕(Nat×Bool):=match es.findIdx? p with
 | some k=>.inl k
 | none=>.inr (es.length,false)
theorem find_spec(φ:β→Option Bool)(p:β→Bool)(es:List β)(hl:es.length≤9223372036854775807)(h:∀ y∈es,φ y=some (p y)):lp (fun v=>zO φ es v) 0=some (YG p es):=by
 have:∀ m k,k+m=es.length→lp (fun v=>zO φ es v) k=some (match (es.drop k).findIdx? p with
   | some j=>.inl (k+j)
   | none=>.inr (es.length,false)):=by
  intro m
  induction m with
  | zero=>
   intro k hk
   obtain rfl:k=es.length:=by omega
   rw [Fp]
   exact jQ (by simp [zO])
  | succ m ih=>
   intro k hk
   have g:k<es.length:=by omega
   have hp:=h es[k] (bN g)
   rw [ov g,List.findIdx?_cons]
   cases hq:p es[k] with
   | true=>exact jQ (by simp [zO,g,hp,hq])
   | false=>
    rw [nJ (w:=k+1) (by simp [zO,g,hp,hq,gJ k (by omega)]),ih (k+1) (by omega)]
    simp only [bU,bB]
    cases List.findIdx? p (List.drop (k+1) es) with
    | none=>rfl
    | some j=>simp only [fE];congr 2;omega
 have h0:=this es.length 0 (by omega)
 simp only [BD,gh] at h0
 exact h0
theorem xc(φ:β→Option Bool)(p:β→Bool)(es:List β)(hl:es.length≤9223372036854775807)(h:∀ y∈es,φ y=some (p y)):
  (((lp (fun v=>zO φ es v) 0).bind fun (x1:(Nat⊕(Nat×Bool)))=>match x1 with
  | .inl z=>some (z:Int)
  | .inr _=>some (-1)).bind fun (r1:Int)=>some (decide (0≤r1)))=some (es.any p):=by
 rw [find_spec φ p es hl h,ad]
 unfold YG
 cases hf:es.findIdx? p with
 | none=>
  have:=List.findIdx?_eq_none_iff.1 hf
  have C:es.any p=false:=by
   rw [Bool.eq_false_iff]
   intro ha
   obtain ⟨x,hx,D⟩:=jK.1 ha
   rw [this x hx] at D;cases D
  rw [C];rfl
 | some k=>
  obtain ⟨h1,h2,_⟩:=List.findIdx?_eq_some_iff_getElem.1 hf
  have C:es.any p=true:=jK.2 ⟨_,bN h1,h2⟩
  rw [C]
  simp only [ad]
  rw [show decide ((0:Int)≤(k:Int))=true by simp]
end Go.Proofs.YtkkkkondjclcnaaGreat.A
