/- How the abstract run is reckoned: which definitions simp opens. -/
import Derived.Test.YtkkkkondjclcnaaGreatCode
import Derived.Test.YtkkkkondjclcnaaGreatPath
set_option linter.all false
namespace Go.Proofs.YtkkkkondjclcnaaGreat.A
open Go
abbrev E0:Env:=⟨0,false⟩
abbrev H0:HP:=fun _=>none
attribute [simp] ax aO nP St.cV St.ev St.aP ef dk put fQ ic execOp qW gj St.elems qV pick py sV AV.cl AV.nc vU sr run_ite bM dN eE Af Gu eg kept AV.pure AV.bk AV.copy AV.mE AV.one D2
 St.result St.qw St.xF St.oC St.Ii jL qu vS wz inBlock St.box St.aK AV.deep AV.cC AV.dB elemAt NU AV.ee aU St.iD St.ew AV.off AV.k7 AV.ji St.aZ St.rowAt St.putAt Pl.iJ consume eN oB putCells
 kd ej ei je view lE CO jK cj.app Ba iL effect sn
theorem vX(dp:Nat)(st:St){x:AV}(h:x.pure=true):st.iD dp x=some (x,[]):=by
 cases x<;>first | (simp only [St.iD,h,aq];done) | (simp [AV.pure] at h;done) | (simp only [St.iD];rw [ab (by simpa [AV.pure] using h)])
theorem xL(dp:Nat)(st:St):∀ {xs:List AV},AV.bk xs=true→st.ew dp xs=some (xs,[])
 | [],_=>rfl
 | x::xs,h=>by
  simp only [AV.bk,aA] at h
  simp only [St.ew,vX dp st h.1,xL dp st h.2,af,ea]
theorem QY{α β:Type}{x y:Option α}{f:α→Option β}(h:x=y):x.bind f=y.bind f:=by rw [h]
attribute [congr] QY
theorem Lq{G:qv}{Ω:du}{E:Env}{f:FuncId}{args:List AV}{hp:HP}{r:bm×HP}(n:Nat)(h:iM G (exec G Ω n) E f args hp=some r):call G Ω E f args hp=some r:=by
 obtain ⟨fn,h1,h2⟩:=ah.1 h
 obtain ⟨q,h3,h4⟩:=ah.1 h2
 exact ah.2 ⟨fn,h1,ah.2 ⟨q,nR n _ _ _ _ h3,h4⟩⟩
theorem dv{α:Type}(e:α→AV)(h:∀ a,(e a).pure=true)(l:List α):AV.bk (l.map e)=true:=
 jo fun x hx=>by
  obtain ⟨a,_,rfl⟩:=eH.1 hx
  exact h a
theorem Lr{l m:List AV}(h:AV.bk l=true)(h':AV.bk m=true):AV.bk (l++m)=true:=
 jo fun x hx=>(bU.1 hx).elim (ft h x) (ft h' x)
@[simp] theorem aki (l:List Int):AV.bk (l.map (AV.i .i64))=true:=dv _ (fun _=>rfl) l
@[simp] theorem akj (l:List Bool):AV.bk (l.map AV.b)=true:=dv _ (fun _=>rfl) l
theorem wrapN(n:Nat)(h:n<4611686018427387904):IntKind.i64.wrap (n:Int)=n:=wrap64 (by omega) (by omega)
theorem gZ(n:Nat)(h:n<4611686018427387904):IntKind.i64.wrap ((n:Int)+1)=(n:Int)+1:=wrap64 (by omega) (by omega)
theorem ajY{α:Type}(e:α→AV)(p:AV→Bool)(h:∀ a,p (e a)=true)(l:List α):(l.map e).all p=true:=by
 simp [yL,h]
abbrev I(n:Int):AV:=.i .i64 n
abbrev Z0:Prop:=(0:Nat)=0
abbrev T0:Prop:=true=true
def bc{α:Type}(t:TypeId)(e:α→AV)(l:List α):AV:=.l t (l.map e)
theorem aD{α:Type}(e:α→AV){l:List α}{j:Nat}{x:α}(h:l[j]? =some x):(l.map e)[j]? =some (e x):=by rw [gw,h];rfl
theorem oE{α:Type}(e:α→AV){l:List α}{j:Nat}{x:α}{v:AV}(h:l[j]? =some x)(hv:e x=v):(l.map e)[j]? =some v:=by rw [aD e h,hv]
theorem map_set{α:Type}(e:α→AV)(l:List α)(j:Nat)(x:α):(l.map e).set j (e x)=(l.set j x).map e:=(List.map_set ..).symm
theorem map_take{α:Type}(e:α→AV)(l:List α)(j:Nat):(l.map e).take j=(l.take j).map e:=(List.map_take ..).symm
theorem Ka{α:Type}(e:α→AV)(l:List α)(i j:Nat):((l.map e).take j).drop i=((l.take j).drop i).map e:=by rw [List.map_drop,List.map_take]
theorem aC{α:Type}(e:α→AV)(l:List α):((l.map e).length:Int)=((l.length:Nat):Int):=by rw [dC]
theorem ir{α:Type}(e:α→AV){n:Nat}(h:∀ a,(e a).nc=n)(l:List α):((l.map e).all fun x=>x.nc==n)=true:=by
 rw [yL]
 exact bH.2 fun x _=>cS.2 (h x)
theorem KV{n b:Nat}(h:n≤1000000000)(hb:b≤100000):n*b≤140737488355328:=bQ (Nat.mul_le_mul h hb) (by decide)
theorem KY{n:Nat}(h:n≤1000000000):n≤maxLen:=bQ h (by decide)
theorem la{α:Type}{e:α→AV}{l m:List α}{b:Nat}(h:l.length+m.length≤1000000000)(hb:b≤100000):((l.map e).length+(m.map e).length)*b≤140737488355328:=by
 rw [dC,dC];exact KV h hb
theorem lf{α:Type}{e:α→AV}{l m:List α}(h:l.length+m.length≤1000000000):(l.map e).length+(m.map e).length≤maxLen:=by
 rw [dC,dC];exact KY h
theorem nW(hp:HP)(k:Key)(a b:List AV):aF (aF hp k a) k b=aF hp k b:=by
 funext k';simp only [aF];split<;>rfl
theorem eX(hp:HP)(k:Key)(a:List AV):aF hp k a k=some a:=by simp [aF]
end Go.Proofs.YtkkkkondjclcnaaGreat.A
