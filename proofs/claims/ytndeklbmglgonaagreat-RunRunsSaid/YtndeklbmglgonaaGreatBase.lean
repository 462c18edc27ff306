/- How the abstract run is reckoned: which definitions simp opens. -/
import Derived.Test.YtndeklbmglgonaaGreatCode
import Derived.Test.YtndeklbmglgonaaGreatPath
set_option linter.unusedSectionVars false
set_option linter.unusedVariables false
set_option linter.unusedSimpArgs false
set_option linter.constructorNameAsVariable false
namespace Go.Proofs.YtndeklbmglgonaaGreat.A
open Go
abbrev E0:Env:=⟨0,false⟩
abbrev H0:HP:=fun _=>none
attribute [simp] aC aP iU St.ct St.ev St.bX jG cL put jx jF execOp sd fO St.elems lT pick oo px AV.cl AV.nc BS xy run_ite I9 Ja Jb Jc Jd Dj kept AV.pure AV.cq AV.copy AV.lS AV.one ze
 St.result St.oq St.uk St.kV St.Dg kW qU xt sD inBlock St.box St.aX AV.deep AV.aQ AV.aN elemAt HT AV.b6 fN St.lI St.eu AV.off AV.sC AV.bI St.bw St.rowAt St.putAt Pl.gi consume fk kU bS
 oJ eV eU jH view jy ND aR bT.app vo ij effect cJ
theorem Js{α β:Type}{x y:Option α}{f:α→Option β}(h:x=y):x.bind f=y.bind f:=by rw [h]
attribute [congr] Js
theorem dC{α:Type}(e:α→AV)(h:∀ a,(e a).pure=true)(l:List α):AV.cq (l.map e)=true:=
 kg fun x hx=>by
  obtain ⟨a,_,rfl⟩:=List.mem_map.1 hx
  exact h a
@[simp] theorem aaW (l:List Int):AV.cq (l.map (AV.i .i64))=true:=dC _ (fun _=>rfl) l
@[simp] theorem aaX (l:List Bool):AV.cq (l.map AV.b)=true:=dC _ (fun _=>rfl) l
abbrev I(n:Int):AV:=.i .i64 n
abbrev Z0:Prop:=(0:Nat)=0
abbrev T0:Prop:=true=true
def bM{α:Type}(t:TypeId)(e:α→AV)(l:List α):AV:=.l t (l.map e)
theorem ay{α:Type}(e:α→AV){l:List α}{j:Nat}{x:α}(h:l[j]? =some x):(l.map e)[j]? =some (e x):=by rw [List.getElem?_map,h];rfl
theorem cF{α:Type}(e:α→AV){l:List α}{j:Nat}{x:α}{v:AV}(h:l[j]? =some x)(hv:e x=v):(l.map e)[j]? =some v:=by rw [ay e h,hv]
theorem map_set{α:Type}(e:α→AV)(l:List α)(j:Nat)(x:α):(l.map e).set j (e x)=(l.set j x).map e:=(List.map_set ..).symm
theorem map_take{α:Type}(e:α→AV)(l:List α)(j:Nat):(l.map e).take j=(l.take j).map e:=(List.map_take ..).symm
theorem ER{α:Type}(e:α→AV)(l:List α)(i j:Nat):((l.map e).take j).drop i=((l.take j).drop i).map e:=by rw [List.map_drop,List.map_take]
theorem ax{α:Type}(e:α→AV)(l:List α):((l.map e).length:Int)=((l.length:Nat):Int):=by rw [List.length_map]
theorem dR{α:Type}(e:α→AV){n:Nat}(h:∀ a,(e a).nc=n)(l:List α):((l.map e).all fun x=>x.nc==n)=true:=by
 rw [List.all_map]
 exact List.all_eq_true.2 fun x _=>beq_iff_eq.2 (h x)
theorem BX{n b:Nat}(h:n≤1000000000)(hb:b≤100000):n*b≤140737488355328:=Nat.le_trans (Nat.mul_le_mul h hb) (by decide)
theorem BY{n:Nat}(h:n≤1000000000):n≤maxLen:=Nat.le_trans h (by decide)
theorem fl{α:Type}{e:α→AV}{l m:List α}{b:Nat}(h:l.length+m.length≤1000000000)(hb:b≤100000):((l.map e).length+(m.map e).length)*b≤140737488355328:=by
 rw [List.length_map,List.length_map];exact BX h hb
theorem fm{α:Type}{e:α→AV}{l m:List α}(h:l.length+m.length≤1000000000):(l.map e).length+(m.map e).length≤maxLen:=by
 rw [List.length_map,List.length_map];exact BY h
theorem aV(hp:HP)(k:Key)(a b:List AV):ad (ad hp k a) k b=ad hp k b:=by
 funext k';simp only [ad];split<;>rfl
theorem aq(hp:HP)(k:Key)(a:List AV):ad hp k a k=some a:=by simp [ad]
end Go.Proofs.YtndeklbmglgonaaGreat.A
