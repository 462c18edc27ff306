/- How the abstract run is reckoned: which definitions simp opens. -/
import Derived.Test.YtlmphbbhaeampaaGreatCode
import Derived.Test.YtlmphbbhaeampaaGreatPath
set_option linter.all false
namespace Go.Proofs.YtlmphbbhaeampaaGreat.A
open Go
abbrev E0:Env:=⟨0,false⟩
abbrev H0:HP:=fun _=>none
attribute [simp] az aZ mS St.cS St.ev St.bB eD dF put iL ix execOp sw iM St.elems rf pick qb sU AV.cl AV.nc nq qI run_ite eo mw iN yk GX mg kept AV.pure AV.bJ AV.copy AV.nj AV.one EK
 St.result St.sd St.Ar St.rV St.Ix kq pB xm pU inBlock St.box St.aW AV.deep AV.cU AV.iE elemAt CX AV.fJ dj St.jE St.eX AV.off AV.sJ AV.fG St.bC St.rowAt St.putAt Pl.iI consume fg pd putCells
 kM eH eG jL view me A0 gZ cq.app xx ke effect jg
theorem zZ(dp:Nat)(st:St){x:AV}(h:x.pure=true):st.jE dp x=some (x,[]):=by
 cases x<;>first | (simp only [St.jE,h,aA];done) | (simp [AV.pure] at h;done) | (simp only [St.jE];rw [af (by simpa [AV.pure] using h)])
theorem D2(dp:Nat)(st:St):∀ {xs:List AV},AV.bJ xs=true→st.eX dp xs=some (xs,[])
 | [],_=>rfl
 | x::xs,h=>by
  simp only [AV.bJ,aL] at h
  simp only [St.eX,zZ dp st h.1,D2 dp st h.2,ad,eN]
variable {β:Type}
theorem RY{α:Type}{x y:Option α}{f:α→Option β}(h:x=y):x.bind f=y.bind f:=by rw [h]
attribute [congr] RY
variable {E:Env}{f:FuncId}{hp:HP}
theorem L5{G:qG}{Ω:dK}{args:List AV}{r:bA×HP}(n:Nat)(h:jM G (exec G Ω n) E f args hp=some r):call G Ω E f args hp=some r:=by
 obtain ⟨fn,h1,h2⟩:=aj.1 h
 obtain ⟨q,h3,h4⟩:=aj.1 h2
 exact aj.2 ⟨fn,h1,aj.2 ⟨q,np n _ _ _ _ h3,h4⟩⟩
theorem de{α:Type}(e:α→AV)(h:∀ a,(e a).pure=true)(l:List α):AV.bJ (l.map e)=true:=
 jY fun x hx=>by
  obtain ⟨a,_,rfl⟩:=iG.1 hx
  exact h a
theorem L6{l m:List AV}(h:AV.bJ l=true)(h':AV.bJ m=true):AV.bJ (l++m)=true:=
 jY fun x hx=>(eh.1 hx).elim (fp h x) (fp h' x)
@[simp] theorem aib (l:List Int):AV.bJ (l.map (AV.i .i64))=true:=de _ (fun _=>rfl) l
@[simp] theorem aic (l:List Bool):AV.bJ (l.map AV.b)=true:=de _ (fun _=>rfl) l
theorem yx(n:Nat)(h:n<4611686018427387904):IntKind.i64.wrap ((n:Int)+1)=(n:Int)+1:=wrap64 (by omega) (by omega)
theorem ah2{α:Type}(e:α→AV)(p:AV→Bool)(h:∀ a,p (e a)=true)(l:List α):(l.map e).all p=true:=by
 simp [List.all_map,h]
abbrev I(n:Int):AV:=.i .i64 n
abbrev Z0:Prop:=(0:Nat)=0
abbrev T0:Prop:=true=true
def bO{α:Type}(t:TypeId)(e:α→AV)(l:List α):AV:=.l t (l.map e)
variable {j:Nat}
theorem aI{α:Type}(e:α→AV){l:List α}{x:α}(h:l[j]? =some x):(l.map e)[j]? =some (e x):=by rw [nT,h];rfl
theorem nZ{α:Type}(e:α→AV){l:List α}{x:α}{v:AV}(h:l[j]? =some x)(hv:e x=v):(l.map e)[j]? =some v:=by rw [aI e h,hv]
theorem map_set{α:Type}(e:α→AV)(l:List α)(j:Nat)(x:α):(l.map e).set j (e x)=(l.set j x).map e:=(List.map_set ..).symm
theorem map_take{α:Type}(e:α→AV)(l:List α)(j:Nat):(l.map e).take j=(l.take j).map e:=(List.map_take ..).symm
theorem KG{α:Type}(e:α→AV)(l:List α)(i j:Nat):((l.map e).take j).drop i=((l.take j).drop i).map e:=by rw [List.map_drop,List.map_take]
theorem bn{α:Type}(e:α→AV)(l:List α):((l.map e).length:Int)=((l.length:Nat):Int):=by rw [iH]
variable {n:Nat}
theorem fS{α:Type}(e:α→AV)(h:∀ a,(e a).nc=n)(l:List α):((l.map e).all fun x=>x.nc==n)=true:=by
 rw [List.all_map]
 exact cI.2 fun x _=>dH.2 (h x)
theorem EW{b:Nat}(h:n≤1000000000)(hb:b≤100000):n*b≤140737488355328:=di (Nat.mul_le_mul h hb) (by decide)
theorem EX(h:n≤1000000000):n≤maxLen:=di h (by decide)
theorem jO{α:Type}{e:α→AV}{l m:List α}{b:Nat}(h:l.length+m.length≤1000000000)(hb:b≤100000):((l.map e).length+(m.map e).length)*b≤140737488355328:=by
 rw [iH,iH];exact EW h hb
theorem jP{α:Type}{e:α→AV}{l m:List α}(h:l.length+m.length≤1000000000):(l.map e).length+(m.map e).length≤maxLen:=by
 rw [iH,iH];exact EX h
theorem bP(hp:HP)(k:Key)(a b:List AV):aq (aq hp k a) k b=aq hp k b:=by
 funext k';simp only [aq];split<;>rfl
theorem a7(hp:HP)(k:Key)(a:List AV):aq hp k a k=some a:=by simp [aq]
def sh{α ε:Type}(B:α→Option (α⊕ε)):Nat→α→Option ε
 | 0,_=>none
 | n+1,v=>match B v with
  | some (.inl w)=>sh B n w
  | some (.inr x)=>some x
  | none=>none
class Lp where
 run : {α ε:Type}→(α→Option (α⊕ε))→α→Option ε
 sound:∀ {α ε:Type}{B:α→Option (α⊕ε)}{v:α}{x:ε},run B v=some x→∃ n,sh B n v=some x
 told:∀ {α ε:Type}{B:α→Option (α⊕ε)}{v:α}{x:ε}(n:Nat),sh B n v=some x→run B v=some x
abbrev lp[Lp]{α ε:Type}(B:α→Option (α⊕ε))(v:α):Option ε:=Lp.run B v
theorem Cl[Lp]{α ε:Type}{B:α→Option (α⊕ε)}{v:α}{x:ε}(h:lp B v=some x):∃ n,sh B n v=some x:=Lp.sound h
theorem P0[Lp]{α ε:Type}{B:α→Option (α⊕ε)}{v:α}{x:ε}(n:Nat)(h:sh B n v=some x):lp B v=some x:=Lp.told n h
theorem L7{α ε:Type}{B:α→Option (α⊕ε)} : ∀ {n:Nat}{v:α}{x:ε},sh B n v=some x→sh B (n+1) v=some x
 | 0,_,_,h=>by cases h
 | n+1,v,x,h=>by
  rw [sh] at h ⊢
  split at h
  ·exact L7 h
  ·exact h
  ·exact h
theorem RZ{α ε:Type}{B:α→Option (α⊕ε)}{m:Nat}{v:α}{x:ε}(hm:n≤m)(h:sh B n v=some x):sh B m v=some x:=by
 induction hm with
 | refl=>exact h
 | step _ ih=>exact L7 ih
theorem VW{α ε:Type}{B:α→Option (α⊕ε)}{m:Nat}{v:α}{x y:ε}(h:sh B n v=some x)(h':sh B m v=some y):x=y:=by
 have h1:=RZ (Dk n m) h
 rw [RZ (Dl n m) h'] at h1
 exact (ah h1).symm
theorem R0:Nonempty Lp:=by
 refine ⟨⟨fun {α ε} B v=>open Classical in if h:∃ n,(sh B n v).isSome then sh B h.choose v else none,fun {α ε B v x} h=>?_,fun {α ε B v x} n h=>?_⟩⟩
 ·split at h
  ·rename_i hn;exact ⟨_,h⟩
  ·cases h
 ·have hn:∃ n,(sh B n v).isSome:=⟨n,by rw [h];rfl⟩
  rw [dif_pos hn]
  have:=hn.choose_spec
  obtain ⟨y,hy⟩:=je.1 this
  rw [hy,VW hy h]
variable [Lp]
section
variable {α ε:Type}{B:α→Option (α⊕ε)}
theorem gJ{v:α}{x:ε}(h:B v=some (.inr x)):lp B v=some x:=P0 1 (by rw [sh,h])
theorem mh{v w:α}(h:B v=some (.inl w)):lp B v=lp B w:=by
 cases hw:lp B w with
 | some x=>obtain ⟨n,hn⟩:=Cl hw;exact P0 (n+1) (by rw [sh,h];exact hn)
 | none=>
  cases hv:lp B v with
  | none=>rfl
  | some x=>
   obtain ⟨n,hn⟩:=Cl hv
   cases n with
   | zero=>cases hn
   | succ n=>rw [sh,h] at hn;rw [P0 n hn] at hw;cases hw
end
def cG{α ε:Type}(E:Env)(l:bX)(S:α→St)(X:ε→bh×St)(v:α):α⊕ε→Prop
 | .inl w=>(run G Ω0 E l.x (S v)).bind (kept l)=some (S w)
 | .inr x=>run G Ω0 E l.x (S v)=some (X x)∧(X x).1≠.nrm
theorem OT{α ε:Type}{B:α→Option (α⊕ε)}(l:bX)(S:α→St)(X:ε→bh×St)(hk:∀ v,(S v).bB l.kf l.kb=S v)(hb:∀ v o,B v=some o→cG E l S X v o){v:α}{x:ε}(h:lp B v=some x):rW G Ω0 E l (S v)=some (X x):=by
 obtain ⟨n,hn⟩:=Cl h
 clear h
 induction n generalizing v with
 | zero=>cases hn
 | succ n ih=>
  rw [sh] at hn
  split at hn
  ·rename_i w hw
   rw [nr (by rw [hk];exact hb v _ hw)]
   exact ih hn
  ·rename_i y hy
   obtain rfl:=ah hn
   obtain ⟨h1,h2⟩:=hb v _ hy
   exact nY (by rw [hk];exact h1) h2
  ·cases hn
def boxes(dp:Nat)(bx:List (Nat×List AV))(hp:HP):HP:=fun k=>if k.dp=dp then aZ bx k.d else hp k
variable {k k':Key}
theorem om{cs:List AV}(h:k≠k'):aq hp k' cs k=hp k:=by simp only [aq,ab h]
variable {c:List AV}
theorem cJ{h h':HP}{d:List AV}(hn:k'≠k)(e:aq h k c=h'):aq (aq h k' d) k c=aq h' k' d:=by
 subst e
 funext q
 simp only [aq]
 by_cases h1:q=k
 ·subst h1;simp [cC hn]
 ·simp [h1]
variable {dp:Nat}{bx:List (Nat×List AV)}
theorem VX(h:k.dp≠dp):aq (boxes dp bx hp) k c=boxes dp bx (aq hp k c):=by
 funext q
 simp only [aq,boxes]
 by_cases h1:q=k
 ·subst h1;simp [h]
 ·simp [h1]
variable {d d':Nat}
theorem P1(h:(aZ bx d).isSome=true):aZ (mS bx d c) d'=if d'=d then some c else aZ bx d':=by
 induction bx with
 | nil=>simp [aZ] at h
 | cons x bx ih=>
  obtain ⟨k,cs⟩:=x
  by_cases hk:k=d
  ·subst hk
   by_cases hd:d'=k
   ·subst hd;simp [mS,aZ]
   ·have:¬k=d':=fun e=>hd e.symm
    simp [mS,aZ,hd,this]
  ·have h2:(aZ bx d).isSome=true:=by simpa [aZ,hk] using h
   have:=ih h2
   by_cases hd:k=d'
   ·subst hd
    simp [mS,aZ,hk]
   ·simp [mS,aZ,hk,hd,this]
theorem VY(h:(aZ bx d).isSome=true):aq (boxes dp bx hp) ⟨dp,d⟩ c=boxes dp (mS bx d c) hp:=by
 funext q
 obtain ⟨qd,q'⟩:=q
 simp only [aq,boxes,P1 h,Key.mk.injEq]
 by_cases h1:qd=dp
 ·simp [h1]
 ·simp [h1]
theorem dt{bx1:List (Nat×List AV)}(h:(aZ bx d).isSome=true)(hb:mS bx d c=bx1):aq (boxes dp bx hp) ⟨dp,d⟩ c=boxes dp bx1 hp:=hb▸VY h
theorem cD{hp1:HP}(h:k.dp≠dp)(hh:aq hp k c=hp1):aq (boxes dp bx hp) k c=boxes dp bx hp1:=hh▸VX h
theorem iJ{H H1 H2:HP}(h:H=H1)(h':aq H1 k c=H2):aq H k c=H2:=h▸h'
def Ba:List Nat→Bool
 | []=>true
 | x::l=>l.all (fun y=>x !=y)&&Ba l
theorem L8:∀ {l:List Nat},Ba l=true→l.Nodup
 | [],_=>List.nodup_nil
 | x::l,h=>by
  simp only [Ba,aL,cI,uG,ne_eq] at h
  exact uP.2 ⟨fun hm=>h.1 x hm rfl,L8 h.2⟩
variable {bx':List (Nat×List AV)}
theorem NR(h:bx'.map Prod.fst=bx.map Prod.fst)(J:Ba (bx.map Prod.fst)=true):fi dp (boxes dp bx' hp) bx=bx':=by
 have hn:=L8 J
 clear J
 have key:∀ (l l':List (Nat×List AV)),l'.map Prod.fst=l.map Prod.fst→(l.map Prod.fst).Nodup→(∀ x∈l',aZ bx' x.1=some x.2)→fi dp (boxes dp bx' hp) l=l':=by
  intro l
  induction l with
  | nil=>intro l' hl _ _;cases l' with
   | nil=>rfl
   | cons _ _=>cases hl
  | cons y l ih=>
   intro l' hl W hg
   cases l' with
   | nil=>cases hl
   | cons x l'=>
    simp only [eu,Du] at hl
    obtain ⟨d,cs⟩:=y
    obtain ⟨d',cs'⟩:=x
    obtain ⟨rfl,hl⟩:=hl
    have h1:=hg (d',cs') (by simp)
    simp only [fi,boxes,aA,h1]
    rw [ih l' hl (uP.1 W).2 fun x hx=>hg x (by simp [hx])]
 refine key bx bx' h hn fun x hx=>?_
 have L:(bx'.map Prod.fst).Nodup:=by rw [h];exact hn
 clear key h hn
 induction bx' with
 | nil=>cases hx
 | cons y bx' ih=>
  obtain ⟨d,cs⟩:=y
  rcases dh.1 hx with rfl | hx
  ·simp [aZ]
  ·have U:¬d=x.1:=fun e=>(uP.1 L).1 (iG.2 ⟨x,hx,e.symm⟩)
   simp only [aZ,ab U]
   exact ih hx (uP.1 L).2
def aT(dp:Nat)(hp:HP):Prop:=∀ k:Key,¬k.dp<dp→hp k=none
theorem fq(dp:Nat):aT dp (fun _=>none):=fun _ _=>rfl
theorem ak(hk:k.dp<dp)(h:aT dp hp):aT dp (aq hp k c):=by
 intro q hq
 have:q≠k:=fun e=>by subst e;exact hq hk
 rw [om this];exact h q hq
theorem aQ(h:aT dp hp):aT (dp+1) (boxes dp bx hp):=by
 intro q hq
 simp only [boxes,ab (show ¬q.dp=dp by omega)]
 exact h q (by omega)
theorem R1(h:aT dp hp):(fun k:Key=>if k.dp<dp then boxes dp bx hp k else none)=hp:=by
 funext q
 by_cases h1:q.dp<dp
 ·simp only [af h1,boxes,ab (show ¬q.dp=dp by omega)]
 ·rw [ab h1,h q h1]
theorem Hr(h:d≠d'):(⟨dp,d⟩:Key)≠⟨dp,d'⟩:=fun e=>h (av Key.d e)
theorem aM(h:k.dp<dp):k≠⟨dp,d⟩:=fun e=>by subst e;exact Nat.lt_irrefl _ h
theorem EY(h:k.dp<dp):(⟨dp,d⟩:Key)≠k:=fun e=>aM h e.symm
variable {ys:List AV}
theorem dX{h1 N h2 M:HP}{x:AV}(e1:h1=N)(e2:h2=M)(h:call G Ω0 E f ys h1=some (.ret x,h2)):call G Ω0 E f ys N=some (.ret x,M):=e1▸e2▸h
variable {R:Type}{A:Option R}{r:R}{P:Prop}
theorem TN{c:Prop}[Decidable c]{B:Option R}(h:(if c then A else B)=some r)(h1:c→A=some r→P)(h2:¬c→B=some r→P):P:=by
 by_cases hc:c
 ·exact h1 hc (by rwa [af hc] at h)
 ·exact h2 hc (by rwa [ab hc] at h)
theorem L9{c:Bool}{B:Option R}(h:(if c=true then A else B)=some r)(h1:c=true→A=some r→P)(h2:c=false→B=some r→P):P:=by
 cases c with
 | true=>exact h1 rfl h
 | false=>exact h2 rfl h
def cV(n:Int):Option Nat:=if 0≤n then some n.toNat else none
theorem rr{n:Int}(h:cV n=some j):n=(j:Int):=by
 unfold cV at h;split at h
 ·obtain rfl:=ah h;omega
 ·cases h
theorem F6(n:Nat):cV (n:Int)=some n:=by simp [cV]
theorem cA{n:Int}(h:0≤n):cV n=some n.toNat:=by simp [cV,h]
theorem bc{c:Prop}[Decidable c](h:(if c then A else none)=some r)(h1:c→A=some r→P):P:=
 TN h h1 fun _ h=>by cases h
theorem Hs(h:(none:Option R)=some r):P:=by cases h
theorem acY:bh.ret≠.nrm:=by intro h;cases h
theorem afz(n:Nat):bh.ex n≠.nrm:=by intro h;cases h
def Lh{α ε:Type}(S:α→St)(X:ε→bh×St):α⊕ε→St⊕(bh×St)
 | .inl w=>.inl (S w)
 | .inr x=>.inr (X x)
variable {Q:Type}
theorem bm{m:Option Q}{k:Q→Option R}{T:Q→Prop}(h:m.bind k=some r)(h1:∀ x,m=some x→k x=some r→T x):∃ x,T x:=by
 obtain ⟨x,h2,h3⟩:=aj.1 h
 exact ⟨x,h1 x h2 h3⟩
theorem ez{n:Int}{k:Nat→Option R}{T:Nat→Prop}(h:(cV n).bind k=some r)(h1:∀ j:Nat,n=(j:Int)→k j=some r→T j):∃ j,T j:=
 bm h fun j hj h=>h1 j (rr hj) h
variable {T:Prop}
theorem da{c:Prop}[Decidable c]{B:Option R}{S:Prop}(h:(if c then A else B)=some r)(h1:c→A=some r→T)(h2:¬c→B=some r→S):T∨S:=
 TN h (fun hc h=>.inl (h1 hc h)) fun hc h=>.inr (h2 hc h)
theorem b9{c:Bool}{B:Option R}{S:Prop}(h:(if c=true then A else B)=some r)(h1:c=true→A=some r→T)(h2:c=false→B=some r→S):T∨S:=
 L9 h (fun hc h=>.inl (h1 hc h)) fun hc h=>.inr (h2 hc h)
variable {b0 b1:Type}{K:b0⊕b1→Option R}{T0:b0→Prop}{T1:b1→Prop}
theorem ah3{m:Option (b0⊕b1)}(h:m.bind K=some r)(p0:∀ a,m=some (.inl a)→K (.inl a)=some r→T0 a)(p1:∀ a,m=some (.inr a)→K (.inr a)=some r→T1 a):(∃ a,T0 a)∨(∃ a,T1 a):=by
 obtain ⟨x,h2,h3⟩:=aj.1 h
 match x,h2,h3 with
 | .inl a,h2,h3=>exact .inl ⟨a,p0 a h2 h3⟩
 | .inr a,h2,h3=>exact .inr (⟨a,p1 a h2 h3⟩)
variable {b2:Type}{T2:b2→Prop}
theorem ah4{m:Option (b0⊕(b1⊕b2))}{K:b0⊕(b1⊕b2)→Option R}(h:m.bind K=some r)(p0:∀ a,m=some (.inl a)→K (.inl a)=some r→T0 a)(p1:∀ a,m=some (.inr (.inl a))→K (.inr (.inl a))=some r→T1 a)(p2:∀ a,m=some (.inr (.inr a))→K (.inr (.inr a))=some r→T2 a):(∃ a,T0 a)∨(∃ a,T1 a)∨(∃ a,T2 a):=by
 obtain ⟨x,h2,h3⟩:=aj.1 h
 match x,h2,h3 with
 | .inl a,h2,h3=>exact .inl ⟨a,p0 a h2 h3⟩
 | .inr (.inl a),h2,h3=>exact .inr (.inl ⟨a,p1 a h2 h3⟩)
 | .inr (.inr a),h2,h3=>exact .inr (.inr (⟨a,p2 a h2 h3⟩))
variable {b3:Type}{T3:b3→Prop}
theorem ah5{m:Option (b0⊕(b1⊕(b2⊕b3)))}{K:b0⊕(b1⊕(b2⊕b3))→Option R}(h:m.bind K=some r)(p0:∀ a,m=some (.inl a)→K (.inl a)=some r→T0 a)(p1:∀ a,m=some (.inr (.inl a))→K (.inr (.inl a))=some r→T1 a)(p2:∀ a,m=some (.inr (.inr (.inl a)))→K (.inr (.inr (.inl a)))=some r→T2 a)(p3:∀ a,m=some (.inr (.inr (.inr a)))→K (.inr (.inr (.inr a)))=some r→T3 a):(∃ a,T0 a)∨(∃ a,T1 a)∨(∃ a,T2 a)∨(∃ a,T3 a):=by
 obtain ⟨x,h2,h3⟩:=aj.1 h
 match x,h2,h3 with
 | .inl a,h2,h3=>exact .inl ⟨a,p0 a h2 h3⟩
 | .inr (.inl a),h2,h3=>exact .inr (.inl ⟨a,p1 a h2 h3⟩)
 | .inr (.inr (.inl a)),h2,h3=>exact .inr (.inr (.inl ⟨a,p2 a h2 h3⟩))
 | .inr (.inr (.inr a)),h2,h3=>exact .inr (.inr (.inr (⟨a,p3 a h2 h3⟩)))
variable {b4:Type}{T4:b4→Prop}
theorem ah6{m:Option (b0⊕(b1⊕(b2⊕(b3⊕b4))))}{K:b0⊕(b1⊕(b2⊕(b3⊕b4)))→Option R}(h:m.bind K=some r)(p0:∀ a,m=some (.inl a)→K (.inl a)=some r→T0 a)(p1:∀ a,m=some (.inr (.inl a))→K (.inr (.inl a))=some r→T1 a)(p2:∀ a,m=some (.inr (.inr (.inl a)))→K (.inr (.inr (.inl a)))=some r→T2 a)(p3:∀ a,m=some (.inr (.inr (.inr (.inl a))))→K (.inr (.inr (.inr (.inl a))))=some r→T3 a)(p4:∀ a,m=some (.inr (.inr (.inr (.inr a))))→K (.inr (.inr (.inr (.inr a))))=some r→T4 a):(∃ a,T0 a)∨(∃ a,T1 a)∨(∃ a,T2 a)∨(∃ a,T3 a)∨(∃ a,T4 a):=by
 obtain ⟨x,h2,h3⟩:=aj.1 h
 match x,h2,h3 with
 | .inl a,h2,h3=>exact .inl ⟨a,p0 a h2 h3⟩
 | .inr (.inl a),h2,h3=>exact .inr (.inl ⟨a,p1 a h2 h3⟩)
 | .inr (.inr (.inl a)),h2,h3=>exact .inr (.inr (.inl ⟨a,p2 a h2 h3⟩))
 | .inr (.inr (.inr (.inl a))),h2,h3=>exact .inr (.inr (.inr (.inl ⟨a,p3 a h2 h3⟩)))
 | .inr (.inr (.inr (.inr a))),h2,h3=>exact .inr (.inr (.inr (.inr (⟨a,p4 a h2 h3⟩))))
theorem lY{V:Type}{Y:R→V}{a:R}(h:some a=some r):Y a=Y r:=by rw [ah h]
theorem afA{α ε:Type}{l:bX}{S:α→St}{X:ε→bh×St}{v:α}{o:α⊕ε}(a:AT)(h:T)(he:T=cW G Ω0 E l.x (S v) a fun e s _=>Vi l.kf l.kb e s=Lh S X o):cG E l S X v o:=by
 obtain ⟨e,s,_,h1,h2⟩:=vP l.x (he▸h)
 cases o with
 | inl w=>
  cases e with
  | nrm=>
   have h3:s.bB l.kf l.kb=S w:=Sum.inl.inj h2
   show (run G Ω0 E l.x (S v)).bind (kept l)=some (S w)
   rw [h1,←h3];rfl
  | ret=>cases h2
  | ex id=>cases h2
 | inr x=>
  cases e with
  | nrm=>cases h2
  | ret=>
   have h3:(bh.ret,s)=X x:=Sum.inr.inj h2
   exact ⟨by rw [h1,h3],by rw [←h3];exact acY⟩
  | ex id=>
   have h3:(bh.ex id,s)=X x:=Sum.inr.inj h2
   exact ⟨by rw [h1,h3],by rw [←h3];exact afz _⟩
variable {c':List AV}
theorem cO{x:AV}(hk:k.dp<dp)(h:call G Ω0 E f ys (aq (boxes dp bx (aq hp k c)) k c)=some (.ret x,aq (boxes dp bx (aq hp k c)) k c')):call G Ω0 E f ys (boxes dp bx (aq hp k c))=some (.ret x,boxes dp bx (aq hp k c')):=
 dX (cD (au hk) (bP ..)) (cD (au hk) (bP ..)) h
variable {k0 k1:Key}{a b a' b':List AV}
theorem sw2(h0:k0.dp<dp)(h1:k1.dp<dp)(n01:k0≠k1):
  aq (aq (boxes dp bx (aq (aq hp k0 a) k1 b)) k0 a') k1 b'=boxes dp bx (aq (aq hp k0 a') k1 b'):=
 iJ (cD (au h0) (cJ (cC n01) (bP ..))) (cD (au h1) (bP ..))
variable {k2:Key}
theorem sw3(h0:k0.dp<dp)(h1:k1.dp<dp)(h2:k2.dp<dp)(n01:k0≠k1)(n02:k0≠k2)(n12:k1≠k2):
  aq (aq (aq (boxes dp bx (aq (aq (aq hp k0 a) k1 b) k2 c)) k0 a') k1 b') k2 c'=boxes dp bx (aq (aq (aq hp k0 a') k1 b') k2 c'):=
 iJ (iJ (cD (au h0) (cJ (cC n02) (cJ (cC n01) (bP ..)))) (cD (au h1) (cJ (cC n12) (bP ..)))) (cD (au h2) (bP ..))
theorem Vj{x:AV}(h0:k0.dp<dp)(h1:k1.dp<dp)(n01:k0≠k1)(h:call G Ω0 E f ys (aq (aq (boxes dp bx (aq (aq hp k0 a) k1 b)) k0 a) k1 b)=some (.ret x,aq (aq (boxes dp bx (aq (aq hp k0 a) k1 b)) k0 a') k1 b')):
  call G Ω0 E f ys (boxes dp bx (aq (aq hp k0 a) k1 b))=some (.ret x,boxes dp bx (aq (aq hp k0 a') k1 b')):=dX (sw2 h0 h1 n01) (sw2 h0 h1 n01) h
theorem lE{x:AV}(h0:k0.dp<dp)(h1:k1.dp<dp)(h2:k2.dp<dp)(n01:k0≠k1)(n02:k0≠k2)(n12:k1≠k2)(h:call G Ω0 E f ys (aq (aq (aq (boxes dp bx (aq (aq (aq hp k0 a) k1 b) k2 c)) k0 a) k1 b) k2 c)=some (.ret x,aq (aq (aq (boxes dp bx (aq (aq (aq hp k0 a) k1 b) k2 c)) k0 a') k1 b') k2 c')):
  call G Ω0 E f ys (boxes dp bx (aq (aq (aq hp k0 a) k1 b) k2 c))=some (.ret x,boxes dp bx (aq (aq (aq hp k0 a') k1 b') k2 c')):=dX (sw3 h0 h1 h2 n01 n02 n12) (sw3 h0 h1 h2 n01 n02 n12) h
theorem Ma(n01:k0≠k1):(aq (aq hp k0 a) k1 b) k0=some a:=(om n01).trans (a7 ..)
theorem dD(n01:k0≠k1)(n02:k0≠k2):(aq (aq (aq hp k0 a) k1 b) k2 c) k0=some a:=(om n02).trans (Ma n01)
abbrev Ou.dJ(p:bh×St):Ou:=.lp p.1 p.2
abbrev Ou.oe(p:bh×St):Ou:=.fr p.1 p.2
theorem ny{α ε:Type}{B:α→Option (α⊕ε)}(n:Nat)(f:Nat→α){x:ε}(hs:∀ k,k<n→B (f k)=some (.inl (f (k+1))))(he:B (f n)=some (.inr x)):lp B (f 0)=some x:=by
 have:∀ m k,k+m=n→lp B (f k)=some x:=by
  intro m
  induction m with
  | zero=>
    intro k hk;obtain rfl:k=n:=by omega
    exact gJ he
  | succ m ih=>intro k hk;rw [mh (hs k (by omega))];exact ih (k+1) (by omega)
 exact this n 0 (by omega)
theorem acZ{α ε:Type}{B:α→Option (α⊕ε)}(es:List β)(p:β→Bool)(f:Nat→α){x y:ε}(hs:∀ k (h:k<es.length),p es[k]=false→B (f k)=some (.inl (f (k+1))))(hx:∀ k (h:k<es.length),p es[k]=true→B (f k)=some (.inr x))(he:B (f es.length)=some (.inr y)):lp B (f 0)=some (if es.any p then x else y):=by
 have:∀ m k,k+m=es.length→lp B (f k)=some (if (es.drop k).any p then x else y):=by
  intro m
  induction m with
  | zero=>
   intro k hk
   obtain rfl:k=es.length:=by omega
   rw [Dz]
   exact gJ he
  | succ m ih=>
   intro k hk
   have C:k<es.length:=by omega
   rw [e6 C,List.any_cons]
   cases hp:p es[k] with
   | true=>exact gJ (hx k C hp)
   | false=>rw [mh (hs k C hp),ih (k+1) (by omega)];rfl
 exact this es.length 0 (by omega)
theorem kT{α ε:Type}{B:α→Option (α⊕ε)}(m:α→Nat)(Inv:α→Prop)(Q:ε→Prop)(step:∀ a,Inv a→(∃ x,B a=some (.inr x)∧Q x)∨∃ b,B a=some (.inl b)∧Inv b∧m b<m a):∀ a,Inv a→∃ x,lp B a=some x∧Q x:=by
 have:∀ n a,m a<n→Inv a→∃ x,lp B a=some x∧Q x:=by
  intro n
  induction n with
  | zero=>intro a h;omega
  | succ n ih=>
   intro a h hi
   rcases step a hi with ⟨x,h1,h2⟩ | ⟨b,h1,h2,h3⟩
   ·exact ⟨x,gJ h1,h2⟩
   ·rw [mh h1];exact ih b (by omega) h2
 exact fun a=>this (m a+1) a (gP _)
variable {t:TypeId}
theorem TO{n:Int}(h:0≤n∧n≤1000000):ri t [.n,.i .i64 n]=some (.o t []):=by
 simp [ri,h.1,h.2]
variable {g:HP}
theorem c2b{y:bA}(_:call G Ω0 E f ys (boxes dp bx hp)=some (y,boxes dp bx' g))(h:bx'.map Prod.fst=bx.map Prod.fst)(hn:Ba (bx.map Prod.fst)=true):fi dp (boxes dp bx' g) bx=bx':=NR h hn
theorem c2l{y:bA}(_:call G Ω0 E f ys (boxes dp bx hp)=some (y,boxes dp bx' g))(hz:aT dp g):(fun k:Key=>if k.dp<dp then boxes dp bx' g k else none)=g:=R1 hz
variable {x y:Bool}
theorem g1(h:x=y):(x==true)=(y==true):=av (fun z=>z==true) h
theorem g0(h:x=y):(x==false)=(y==false):=av (fun z=>z==false) h
theorem Bb{α:Type}{ts:List TypeId}{f:α→AV}(h:∀ x,(f x).off ts=true):∀ l:List α,AV.sJ ts (l.map f)=true
 | []=>rfl
 | x::l=>by simp only [eu,AV.sJ,h x,Bb h l,gN]
theorem TP(ts:List TypeId)(k:IntKind)(l:List Int):AV.sJ ts (l.map (AV.i k))=true:=Bb (fun _=>by simp only [AV.off]) l
theorem Mb(ts:List TypeId)(l:List Bool):AV.sJ ts (l.map AV.b)=true:=Bb (fun _=>by simp only [AV.off]) l
theorem TQ(ts:List TypeId)(l:List (List UInt8)):AV.sJ ts (l.map AV.s)=true:=Bb (fun _=>by simp only [AV.off]) l
noncomputable def ev{α:Type}(x:Nat→Option α):Option α:=open Classical in if h:∃ r,∃ n0,∀ n,n0≤n→x n=some r then some (Classical.choose h) else none
theorem u9{α:Type}{x:Nat→Option α}{r:α}(h:ev x=some r):∃ n,x n=some r:=by
 unfold ev at h
 split at h
 ·rename_i hex
  obtain ⟨n0,hn⟩:=Dj hex
  exact ⟨n0,by rw [hn n0 (aY _)];exact h⟩
 ·cases h
theorem Cm{α:Type}{x:Nat→Option α}{r:α}(n0:Nat)(h:∀ n,n0≤n→x n=some r):ev x=some r:=by
 unfold ev
 have hex:∃ r,∃ n0,∀ n,n0≤n→x n=some r:=⟨r,n0,h⟩
 rw [dif_pos hex]
 obtain ⟨n1,h1⟩:=Dj hex
 have:=h1 (max n0 n1) (Dl _ _)
 rw [h (max n0 n1) (Dk _ _)] at this
 exact this.symm
def P2(b:Bool)(n:Int):Option (List Bool):=if 0≤n∧n≤1000000 then some (List.replicate n.toNat b) else none
theorem VZ{u:TypeId}{b:Bool}{n:Int}{r:List Bool}(h:P2 b n=some r):uX t [.l u [.b b],.i .i64 n]=some (.l t (r.map AV.b)):=by
 unfold P2 at h
 split at h
 ·rename_i hn
  obtain rfl:=ah h
  simp only [uX,af hn,uR]
 ·cases h
variable {fn:bL}{Y:R→bA×HP}
theorem a8(hG:G f=some fn)(a:AT)(h:(∀ {a:R},some a=some r→Y a=Y r)→T)(he:T=PZ G Ω0 E fn ys hp a fun y h=>(bA.ret y,h)=Y r:=by kernel_rfl):call G Ω0 E f ys hp=some (Y r):=afw hG a (h lY) he
theorem IP(hG:G f=some fn)(a:AT)(h:(∀ {a:R},some a=some r→Y a=Y r)→T)(he:T=L2 G Ω0 E fn ys hp a fun y h=>(bA.new y,h)=Y r:=by kernel_rfl):call G Ω0 E f ys hp=some (Y r):=acX hG a (h lY) he
variable {st:St}
theorem Cn{c:AC}{Y:R→bh×St}(a:AT)(h:(∀ {a:R},some a=some r→Y a=Y r)→T)(he:T=cW G Ω0 E c st a fun e s _=>(e,s)=Y r:=by kernel_rfl):run G Ω0 E c st=some (Y r):=runT a (h lY) he
variable {kf kb:List Nat}
theorem Ht{gs:List dx}{Y:R→St}(a:AT)(h:(∀ {a:R},some a=some r→Y a=Y r)→T)(he:T=D0 G Ω0 E kf kb st gs a fun s _=>s=Y r:=by kernel_rfl):AF G Ω0 E kf kb gs st=some (Y r):=afx a (h lY) he
theorem R2{gs:List bR}{Y:R→St}(a:AT)(h:(∀ {a:R},some a=some r→Y a=Y r)→T)(he:T=D1 G Ω0 E kf kb st gs a fun s _=>s=Y r:=by kernel_rfl):DZ G Ω0 E kf kb gs st=some (Y r):=afy a (h lY) he
theorem cT{α ε:Type}{l:bX}{S:α→St}{X:ε→bh×St}{v:α}{o:α⊕ε}(a:AT)(h:(∀ {a:α⊕ε},some a=some o→Lh S X a=Lh S X o)→T)(he:T=cW G Ω0 E l.x (S v) a fun e s _=>Vi l.kf l.kb e s=Lh S X o:=by kernel_rfl):cG E l S X v o:=afA a (h lY) he
theorem bI{m:Option Q}{k:Q→Option R}{O T:Q→Prop}(h:m.bind k=some r)(l:∀ x,m=some x→O x)(h1:∀ x,k x=some r→T x):∃ x,O x∧T x:=bm h fun x e h=>⟨l x e,h1 x h⟩
theorem iy{m:Option (b0⊕b1)}{O:b0⊕b1→Prop}(h:m.bind K=some r)(l:∀ x,m=some x→O x)(p0:∀ a,K (.inl a)=some r→T0 a)(p1:∀ a,K (.inr a)=some r→T1 a):(∃ a,O (.inl a)∧T0 a)∨(∃ a,O (.inr a)∧T1 a):=ah3 h (fun a e h=>⟨l _ e,p0 a h⟩) (fun a e h=>⟨l _ e,p1 a h⟩)
theorem Vk{m:Option (b0⊕(b1⊕b2))}{K:b0⊕(b1⊕b2)→Option R}{O:b0⊕(b1⊕b2)→Prop}(h:m.bind K=some r)(l:∀ x,m=some x→O x)(p0:∀ a,K (.inl a)=some r→T0 a)(p1:∀ a,K (.inr (.inl a))=some r→T1 a)(p2:∀ a,K (.inr (.inr a))=some r→T2 a):(∃ a,O (.inl a)∧T0 a)∨(∃ a,O (.inr (.inl a))∧T1 a)∨(∃ a,O (.inr (.inr a))∧T2 a):=ah4 h (fun a e h=>⟨l _ e,p0 a h⟩) (fun a e h=>⟨l _ e,p1 a h⟩) (fun a e h=>⟨l _ e,p2 a h⟩)
theorem Vl{m:Option (b0⊕(b1⊕(b2⊕b3)))}{K:b0⊕(b1⊕(b2⊕b3))→Option R}{O:b0⊕(b1⊕(b2⊕b3))→Prop}(h:m.bind K=some r)(l:∀ x,m=some x→O x)(p0:∀ a,K (.inl a)=some r→T0 a)(p1:∀ a,K (.inr (.inl a))=some r→T1 a)(p2:∀ a,K (.inr (.inr (.inl a)))=some r→T2 a)(p3:∀ a,K (.inr (.inr (.inr a)))=some r→T3 a):(∃ a,O (.inl a)∧T0 a)∨(∃ a,O (.inr (.inl a))∧T1 a)∨(∃ a,O (.inr (.inr (.inl a)))∧T2 a)∨(∃ a,O (.inr (.inr (.inr a)))∧T3 a):=ah5 h (fun a e h=>⟨l _ e,p0 a h⟩) (fun a e h=>⟨l _ e,p1 a h⟩) (fun a e h=>⟨l _ e,p2 a h⟩) (fun a e h=>⟨l _ e,p3 a h⟩)
theorem aiQ{m:Option (b0⊕(b1⊕(b2⊕(b3⊕b4))))}{K:b0⊕(b1⊕(b2⊕(b3⊕b4)))→Option R}{O:b0⊕(b1⊕(b2⊕(b3⊕b4)))→Prop}(h:m.bind K=some r)(l:∀ x,m=some x→O x)(p0:∀ a,K (.inl a)=some r→T0 a)(p1:∀ a,K (.inr (.inl a))=some r→T1 a)(p2:∀ a,K (.inr (.inr (.inl a)))=some r→T2 a)(p3:∀ a,K (.inr (.inr (.inr (.inl a))))=some r→T3 a)(p4:∀ a,K (.inr (.inr (.inr (.inr a))))=some r→T4 a):(∃ a,O (.inl a)∧T0 a)∨(∃ a,O (.inr (.inl a))∧T1 a)∨(∃ a,O (.inr (.inr (.inl a)))∧T2 a)∨(∃ a,O (.inr (.inr (.inr (.inl a))))∧T3 a)∨(∃ a,O (.inr (.inr (.inr (.inr a))))∧T4 a):=ah6 h (fun a e h=>⟨l _ e,p0 a h⟩) (fun a e h=>⟨l _ e,p1 a h⟩) (fun a e h=>⟨l _ e,p2 a h⟩) (fun a e h=>⟨l _ e,p3 a h⟩) (fun a e h=>⟨l _ e,p4 a h⟩)
theorem im{α ε:Type}{B:α→Option (α⊕ε)}{l:bX}{S:α→St}{X:ε→bh×St}(hb:∀ v o,B v=some o→cG E l S X v o)(v:α)(x:ε)(h:lp B v=some x)(hk:∀ v,(S v).bB l.kf l.kb=S v:=by exact fun _=>rfl):rW G Ω0 E l (S v)=some (X x):=OT l S X hk hb h
theorem rI(n:Nat):(n:Int)=(n:Int):=rfl
theorem rN(n:Nat):n=n:=rfl
theorem okR(h:k.dp<dp)(ns:List Nat):(gZ dp ns (.p k 0)&&okB dp [] (.p k 0))=true:=by simp [gZ,okB,jF,AV.cU,AV.iE,AV.fG,aM h]
theorem jG(h:k.dp<dp)(ns:List Nat)(bs:List Nat)(j:Nat):(gZ dp ns (.p k j)&&okB dp bs (.p k j))=true:=by simp [gZ,okB,lL,jF,AV.cU,AV.iE,AV.fG,aM h]
theorem ac0(h:k.dp<dp)(ns:List Nat)(j:Nat):(gZ dp ns (.r (.c k j))&&okB dp [] (.r (.c k j)))=true:=by simp [gZ,okB,lL,jF,AV.cU,AV.iE,AV.fG,aM h]
theorem eW{y:bA}(b:call G Ω0 E f ys (boxes dp bx hp)=some (y,boxes dp bx' g))(hz:aT dp g)(k:T)(h1:bx'.map Prod.fst=bx.map Prod.fst:=by kernel_rfl)(h2:Ba (bx.map Prod.fst)=true:=by kernel_rfl):call G Ω0 E f ys (boxes dp bx hp)=some (y,boxes dp bx' g)∧fi dp (boxes dp bx' g) bx=bx'∧(fun k:Key=>if k.dp<dp then boxes dp bx' g k else none)=g∧T:=⟨b,c2b b h1 h2,c2l b hz,k⟩
abbrev eA(dp n:Nat)(fr:List (Nat×AV))(bx:List (Nat×List AV)):Bool:=fr.all (fun y=>y.2.cU ⟨dp,n⟩)&&bx.all (fun y=>AV.iE ⟨dp,n⟩ y.2)
theorem tN(dp:Nat)(ns bs:List Nat)(d j:Nat)(h:(ns.all fun x=>x !=d)=true:=by rfl):(gZ dp ns (.p ⟨dp,d⟩ j)&&okB dp bs (.p ⟨dp,d⟩ j))=true:=by
 simp only [gZ,okB,lL,jF,AV.cU,AV.fG,aL,cI,Bool.not_false,Bool.or_true,and_true,implies_true]
 intro x hx
 have:=cI.1 h x hx
 simp at this ⊢
 exact fun e=>this e.symm
abbrev xB(f:Bool→AT):AT:=.ex fun r=>ao (.v (.b r)) (f r)
abbrev xI(f:Int→AT):AT:=.ex fun r=>ao (.v (I r)) (f r)
abbrev xN(f:Nat→AT):AT:=.ex fun r=>ao (.n r) (f r)
abbrev oN(r:AT):AT:=.or (bt .nil) (bf r)
variable {p q:Prop}
theorem qO(H:q)(h:p):q∧Z0∧p:=⟨H,rfl,h⟩
theorem xn(h:p):true=true∧Z0∧p:=⟨rfl,rfl,h⟩
theorem R3(H:x=y)(h:p):(x==false)=(y==false)∧(x==false)=(y==false)∧Z0∧(x==false)=(y==false)∧p:=⟨g0 H,g0 H,rfl,g0 H,h⟩
theorem ev3(H:x=y)(h:p):(x==false)=(y==false)∧(x==false)=(y==false)∧(x==false)=(y==false)∧(x==false)=(y==false)∧x=y∧p:=⟨g0 H,g0 H,g0 H,g0 H,H,h⟩
theorem R4(H:x=y)(h:p):(x==true)=(y==true)∧(x==true)=(y==true)∧(x==true)=(y==true)∧p:=⟨g1 H,g1 H,g1 H,h⟩
theorem ev5(H:x=y)(h:p):(x==false)=(y==false)∧(x==false)=(y==false)∧Z0∧(x==false)=(y==false)∧x=y∧p:=⟨g0 H,g0 H,rfl,g0 H,H,h⟩
theorem OU(h:p):true=true∧false=false∧Z0∧true=true∧Z0∧Z0∧p:=⟨rfl,rfl,rfl,rfl,rfl,rfl,h⟩
theorem tm(H:x=y)(h:p):(x==true)=(y==true)∧(x==true)=(y==true)∧x=y∧p:=⟨g1 H,g1 H,H,h⟩
theorem wG(H:x=y)(h:p):(x==false)=(y==false)∧x=y∧p:=⟨g0 H,H,h⟩
theorem bE(h:p):true=true∧true=true∧p:=⟨rfl,rfl,h⟩
theorem ep(h:p):false=false∧true=true∧p:=⟨rfl,rfl,h⟩
theorem cm(H:x=y)(h:p):(x==false)=(y==false)∧(x==false)=(y==false)∧p:=⟨g0 H,g0 H,h⟩
theorem IQ(H:x=y)(h:p):(x==false)=(y==false)∧(x==false)=(y==false)∧false=false∧true=true∧p:=⟨g0 H,g0 H,rfl,rfl,h⟩
theorem TR(H:x=y)(h:p):(x==false)=(y==false)∧(x==false)=(y==false)∧(x==false)=(y==false)∧(x==false)=(y==false)∧(x==false)=(y==false)∧(x==false)=(y==false)∧(x==false)=(y==false)∧x=y∧true=true∧p:=⟨g0 H,g0 H,g0 H,g0 H,g0 H,g0 H,g0 H,H,rfl,h⟩
theorem TS(H:x=y)(h:p):(x==false)=(y==false)∧(x==false)=(y==false)∧(x==false)=(y==false)∧(x==false)=(y==false)∧(x==false)=(y==false)∧(x==false)=(y==false)∧(x==false)=(y==false)∧x=y∧(true==false)=false∧(true==false)=false∧(true==false)=false∧(true==false)=false∧(true==false)=false∧(true==false)=false∧(true==false)=false∧true=true∧true=true∧p:=⟨g0 H,g0 H,g0 H,g0 H,g0 H,g0 H,g0 H,H,rfl,rfl,rfl,rfl,rfl,rfl,rfl,rfl,rfl,h⟩
theorem IS(H:q)(h:p):q∧true=true∧true=true∧p:=⟨H,rfl,rfl,h⟩
theorem tO(h:p):true=true∧true=true∧true=true∧true=true∧true=true∧p:=⟨rfl,rfl,rfl,rfl,rfl,h⟩
theorem n4(h:p):true=true∧true=true∧true=true∧p:=⟨rfl,rfl,rfl,h⟩
theorem oo(h:p):true=true∧true=true∧true=true∧true=true∧p:=⟨rfl,rfl,rfl,rfl,h⟩
theorem IT(H:q)(h:p):q∧true=true∧true=true∧true=true∧true=true∧p:=⟨H,rfl,rfl,rfl,rfl,h⟩
theorem IU(H:q)(h:p):q∧true=true∧true=true∧true=true∧p:=⟨H,rfl,rfl,rfl,h⟩
theorem P3(H:x=y)(h:p):(x==true)=(y==true)∧true=true∧(x==true)=(y==true)∧true=true∧(x==true)=(y==true)∧p:=⟨g1 H,rfl,g1 H,rfl,g1 H,h⟩
theorem dE(H:x=y)(h:p):(x==true)=(y==true)∧(x==true)=(y==true)∧p:=⟨g1 H,g1 H,h⟩
theorem oq(h:p):false=false∧Z0∧true=true∧Z0∧p:=⟨rfl,rfl,rfl,rfl,h⟩
theorem rX(H:x=y)(h:p):(x==true)=(y==true)∧x=y∧p:=⟨g1 H,H,h⟩
theorem jl(H:x=y)(h:p):true=true∧(x==false)=(y==false)∧p:=⟨rfl,g0 H,h⟩
theorem kg(h:p):Z0∧Z0∧p:=⟨rfl,rfl,h⟩
theorem kh(H:x=y)(h:p):true=true∧(x==true)=(y==true)∧p:=⟨rfl,g1 H,h⟩
theorem ph(h:p):Z0∧true=true∧p:=⟨rfl,rfl,h⟩
theorem rY(H:q)(h:p):q∧true=true∧p:=⟨H,rfl,h⟩
abbrev ee(r:AT):AT:=bt<|bt r
abbrev fh(r:AT):AT:=bt<|bt<|bt r
abbrev nz(r:AT):AT:=bt<|bf r
abbrev tn(r:AT):AT:=bt<|bt<|bt<|bt<|bt r
abbrev xp(r:AT):AT:=bt<|bt<|bt<|bt r
abbrev D3(r:AT):AT:=bf<|bt r
abbrev Hu(r:AT):AT:=bf<|bf<|bf r
abbrev OV(r:AT):AT:=bt<|bt<|bt<|bt<|bf r
abbrev Vm(r:AT):AT:=bt<|bt<|bt<|bt<|bt<|bt r
abbrev bv9(r:AT):AT:=bf<|bf<|bf<|bf<|bt r
abbrev TT(r:AT):AT:=bt<|bt<|bt<|bt<|bt<|bt<|bf r
abbrev TU(r:AT):AT:=bf<|bf<|bf<|bt<|bt r
abbrev TV(r:AT):AT:=bf<|bf<|bf<|bf<|bf<|bf<|bf<|bt<|bt r
abbrev TW(r:AT):AT:=bf<|bf<|bf<|bf<|bf<|bf<|bf<|bt<|bf<|bf<|bf<|bf<|bf<|bf<|bf<|bt<|bt r
abbrev TX(r:AT):AT:=bf<|bf<|bf<|bf<|bf<|bf r
abbrev ac4(r:AT):AT:=bt<|bt<|bt<|bt<|bt<|bt<|bt<|bt<|bt<|bt r
theorem kt(k:Nat)(h:k<9223372036854775807):IntKind.i64.wrap ((k:Int)+1)=((k+1:Nat):Int):=(wrap64 (by omega) (by omega)).trans (by omega)
variable [Lp]
def xJ{β:Type}(φ:β→Option Bool)(es:List β)(k:Nat):Option (Nat⊕(Nat⊕(Nat×Bool))):=
 if (k:Int)<(es.length:Int) then
  (es[k]?).bind fun (y:β)=>
  (φ y).bind fun (r:Bool)=>
  if r=true then
   some (.inr (.inl k))
  else
   if IntKind.i64.wrap ((k:Int)+1)=((k+1:Nat):Int) then
    some (.inl (k+1))
   else none
 else
  some (.inr (.inr (k,decide ((k:Int)<(es.length:Int)))))
def Vn{β:Type}(p:β→Bool)(es:List β):Nat⊕(Nat×Bool):=match es.findIdx? p with
 | some k=>.inl k
 | none=>.inr (es.length,false)
theorem find_spec(φ:β→Option Bool)(p:β→Bool)(es:List β)(hl:es.length≤9223372036854775807)(h:∀ y∈es,φ y=some (p y)):lp (fun v=>xJ φ es v) 0=some (Vn p es):=by
 have:∀ m k,k+m=es.length→lp (fun v=>xJ φ es v) k=some (match (es.drop k).findIdx? p with
   | some j=>.inl (k+j)
   | none=>.inr (es.length,false)):=by
  intro m
  induction m with
  | zero=>
   intro k hk
   obtain rfl:k=es.length:=by omega
   rw [Dz]
   exact gJ (by simp [xJ])
  | succ m ih=>
   intro k hk
   have C:k<es.length:=by omega
   have hp:=h es[k] (cp C)
   rw [e6 C,List.findIdx?_cons]
   cases hq:p es[k] with
   | true=>exact gJ (by simp [xJ,C,hp,hq])
   | false=>
    rw [mh (w:=k+1) (by simp [xJ,C,hp,hq,kt k (by omega)]),ih (k+1) (by omega)]
    simp only [dq,cF]
    cases List.findIdx? p (List.drop (k+1) es) with
    | none=>rfl
    | some j=>simp only [jf];congr 2;omega
 have h0:=this es.length 0 (by omega)
 simp only [List.drop_zero,gO] at h0
 exact h0
theorem pj(φ:β→Option Bool)(p:β→Bool)(es:List β)(hl:es.length≤9223372036854775807)(h:∀ y∈es,φ y=some (p y)):
  (((lp (fun v=>xJ φ es v) 0).bind fun (x1:(Nat⊕(Nat×Bool)))=>match x1 with
  | .inl z=>some (z:Int)
  | .inr _=>some (-1)).bind fun (r1:Int)=>some (decide (0≤r1)))=some (es.any p):=by
 rw [find_spec φ p es hl h,ad]
 unfold Vn
 cases hf:es.findIdx? p with
 | none=>
  have:=List.findIdx?_eq_none_iff.1 hf
  have D:es.any p=false:=by
   rw [Bool.eq_false_iff]
   intro ha
   obtain ⟨x,hx,F⟩:=zB.1 ha
   rw [this x hx] at F;cases F
  rw [D];rfl
 | some k=>
  obtain ⟨h1,h2,_⟩:=List.findIdx?_eq_some_iff_getElem.1 hf
  have D:es.any p=true:=zB.2 ⟨_,cp h1,h2⟩
  rw [D]
  simp only [ad]
  rw [show decide ((0:Int)≤(k:Int))=true by simp]
end Go.Proofs.YtlmphbbhaeampaaGreat.A
