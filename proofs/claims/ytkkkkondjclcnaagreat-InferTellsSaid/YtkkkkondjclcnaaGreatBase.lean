/- How the abstract run is reckoned: which definitions simp opens. -/
import Derived.Test.YtkkkkondjclcnaaGreatCode
import Derived.Test.YtkkkkondjclcnaaGreatPath
set_option linter.all false
namespace Go.Proofs.YtkkkkondjclcnaaGreat.A
open Go
abbrev E0:Env:=⟨0,false⟩
abbrev H0:HP:=fun _=>none
attribute [simp] ay aO nB St.cS St.ev St.aN ea di put fK gP execOp qZ gb St.elems qY pick pf sW AV.cl AV.nc vS sw run_ite bB du ef Av GA dF kept AV.pure AV.bk AV.copy AV.mC AV.one Ei
 St.result St.qj St.xK St.oj St.Ir jB qh vQ wz inBlock St.box St.aK AV.deep AV.cJ AV.eG elemAt N1 AV.fJ aS St.ic St.ep AV.off AV.kS AV.jf St.aX St.rowAt St.putAt Pl.jr consume eH oi putCells
 jY ee ed jc view lx C0 ja bZ.app Bq iF effect su
theorem vU(dp:Nat)(st:St){x:AV}(h:x.pure=true):st.ic dp x=some (x,[]):=by
 cases x<;>first | (simp only [St.ic,h,an];done) | (simp [AV.pure] at h;done) | (simp only [St.ic];rw [aa (by simpa [AV.pure] using h)])
theorem xS(dp:Nat)(st:St):∀ {xs:List AV},AV.bk xs=true→st.ep dp xs=some (xs,[])
 | [],_=>rfl
 | x::xs,h=>by
  simp only [AV.bk,aB] at h
  simp only [St.ep,vU dp st h.1,xS dp st h.2,ae,dX]
theorem Q9{α β:Type}{x y:Option α}{f:α→Option β}(h:x=y):x.bind f=y.bind f:=by rw [h]
attribute [congr] Q9
theorem Lz{G:qi}{Ω:dt}{E:Env}{f:FuncId}{args:List AV}{hp:HP}{r:bm×HP}(n:Nat)(h:iH G (exec G Ω n) E f args hp=some r):call G Ω E f args hp=some r:=by
 obtain ⟨fn,h1,h2⟩:=af.1 h
 obtain ⟨q,h3,h4⟩:=af.1 h2
 exact af.2 ⟨fn,h1,af.2 ⟨q,nD n _ _ _ _ h3,h4⟩⟩
theorem dv{α:Type}(e:α→AV)(h:∀ a,(e a).pure=true)(l:List α):AV.bk (l.map e)=true:=
 jk fun x hx=>by
  obtain ⟨a,_,rfl⟩:=gZ.1 hx
  exact h a
theorem LA{l m:List AV}(h:AV.bk l=true)(h':AV.bk m=true):AV.bk (l++m)=true:=
 jk fun x hx=>(bJ.1 hx).elim (fe h x) (fe h' x)
@[simp] theorem ajz (l:List Int):AV.bk (l.map (AV.i .i64))=true:=dv _ (fun _=>rfl) l
@[simp] theorem ajA (l:List Bool):AV.bk (l.map AV.b)=true:=dv _ (fun _=>rfl) l
theorem wrapN(n:Nat)(h:n<4611686018427387904):IntKind.i64.wrap (n:Int)=n:=wrap64 (by omega) (by omega)
theorem fq(n:Nat)(h:n<4611686018427387904):IntKind.i64.wrap ((n:Int)+1)=(n:Int)+1:=wrap64 (by omega) (by omega)
theorem ajc{α:Type}(e:α→AV)(p:AV→Bool)(h:∀ a,p (e a)=true)(l:List α):(l.map e).all p=true:=by
 simp [zc,h]
abbrev I(n:Int):AV:=.i .i64 n
abbrev Z0:Prop:=(0:Nat)=0
abbrev T0:Prop:=true=true
def eg{α:Type}(t:TypeId)(e:α→AV)(l:List α):AV:=.l t (l.map e)
theorem aD{α:Type}(e:α→AV){l:List α}{j:Nat}{x:α}(h:l[j]? =some x):(l.map e)[j]? =some (e x):=by rw [gh,h];rfl
theorem oq{α:Type}(e:α→AV){l:List α}{j:Nat}{x:α}{v:AV}(h:l[j]? =some x)(hv:e x=v):(l.map e)[j]? =some v:=by rw [aD e h,hv]
theorem map_set{α:Type}(e:α→AV)(l:List α)(j:Nat)(x:α):(l.map e).set j (e x)=(l.set j x).map e:=(List.map_set ..).symm
theorem map_take{α:Type}(e:α→AV)(l:List α)(j:Nat):(l.map e).take j=(l.take j).map e:=(List.map_take ..).symm
theorem Kl{α:Type}(e:α→AV)(l:List α)(i j:Nat):((l.map e).take j).drop i=((l.take j).drop i).map e:=by rw [List.map_drop,List.map_take]
theorem aC{α:Type}(e:α→AV)(l:List α):((l.map e).length:Int)=((l.length:Nat):Int):=by rw [fh]
theorem jF{α:Type}(e:α→AV){n:Nat}(h:∀ a,(e a).nc=n)(l:List α):((l.map e).all fun x=>x.nc==n)=true:=by
 rw [zc]
 exact bO.2 fun x _=>cR.2 (h x)
theorem K8{n b:Nat}(h:n≤1000000000)(hb:b≤100000):n*b≤140737488355328:=bU (Nat.mul_le_mul h hb) (by decide)
theorem K9{n:Nat}(h:n≤1000000000):n≤maxLen:=bU h (by decide)
theorem nr{α:Type}{e:α→AV}{l m:List α}{b:Nat}(h:l.length+m.length≤1000000000)(hb:b≤100000):((l.map e).length+(m.map e).length)*b≤140737488355328:=by
 rw [fh,fh];exact K8 h hb
theorem nu{α:Type}{e:α→AV}{l m:List α}(h:l.length+m.length≤1000000000):(l.map e).length+(m.map e).length≤maxLen:=by
 rw [fh,fh];exact K9 h
theorem nG(hp:HP)(k:Key)(a b:List AV):aG (aG hp k a) k b=aG hp k b:=by
 funext k';simp only [aG];split<;>rfl
theorem lI(hp:HP)(k:Key)(a:List AV):aG hp k a k=some a:=by simp [aG]
end Go.Proofs.YtkkkkondjclcnaaGreat.A
