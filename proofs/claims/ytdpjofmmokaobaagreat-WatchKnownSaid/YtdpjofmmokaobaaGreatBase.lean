/- How the abstract run is reckoned: which definitions simp opens. -/
import Derived.Test.YtdpjofmmokaobaaGreatCode
import Derived.Test.YtdpjofmmokaobaaGreatPath
set_option linter.unusedSectionVars false
set_option linter.unusedVariables false
set_option linter.unusedSimpArgs false
set_option linter.constructorNameAsVariable false
namespace Go.Proofs.YtdpjofmmokaobaaGreat.A
open Go
abbrev E0:Env:=⟨0,false⟩
abbrev H0:HP:=fun _=>none
attribute [simp] ax ay iG St.bQ St.ev St.bq iI cp put j0 fL execOp sN eC St.elems py pick mX pQ AV.cl AV.nc m0 o7 run_ite vU Jd qt vV Je CH kept AV.pure AV.bK AV.copy AV.qo AV.one zz
 St.result St.o0 St.vt St.lG St.CD jR pZ yr me inBlock St.box St.aM AV.deep AV.aG AV.aI elemAt ya AV.bz fT St.kQ St.eo AV.off AV.pP AV.bJ St.a6 St.rowAt St.putAt Pl.ft consume dX lF putCells
 nP cG cF iJ view gP Hq aY bu.app nO gv effect eB
theorem JN{α β:Type}{x y:Option α}{f:α→Option β}(h:x=y):x.bind f=y.bind f:=by rw [h]
attribute [congr] JN
theorem E9{G:mY}{Ω:cD}{E:Env}{f:FuncId}{args:List AV}{hp:HP}{r:aX×HP}(n:Nat)(h:fM G (exec G Ω n) E f args hp=some r):call G Ω E f args hp=some r:=by
 obtain ⟨fn,h1,h2⟩:=Option.bind_eq_some_iff.1 h
 obtain ⟨q,h3,h4⟩:=Option.bind_eq_some_iff.1 h2
 exact Option.bind_eq_some_iff.2 ⟨fn,h1,Option.bind_eq_some_iff.2 ⟨q,kl n _ _ _ _ h3,h4⟩⟩
theorem cY{α:Type}(e:α→AV)(h:∀ a,(e a).pure=true)(l:List α):AV.bK (l.map e)=true:=
 jo fun x hx=>by
  obtain ⟨a,_,rfl⟩:=List.mem_map.1 hx
  exact h a
@[simp] theorem aap (l:List Int):AV.bK (l.map (AV.i .i64))=true:=cY _ (fun _=>rfl) l
@[simp] theorem aaq (l:List Bool):AV.bK (l.map AV.b)=true:=cY _ (fun _=>rfl) l
abbrev I(n:Int):AV:=.i .i64 n
abbrev Z0:Prop:=(0:Nat)=0
abbrev T0:Prop:=true=true
def bB{α:Type}(t:TypeId)(e:α→AV)(l:List α):AV:=.l t (l.map e)
theorem aD{α:Type}(e:α→AV){l:List α}{j:Nat}{x:α}(h:l[j]? =some x):(l.map e)[j]? =some (e x):=by rw [List.getElem?_map,h];rfl
theorem jr{α:Type}(e:α→AV){l:List α}{j:Nat}{x:α}{v:AV}(h:l[j]? =some x)(hv:e x=v):(l.map e)[j]? =some v:=by rw [aD e h,hv]
theorem map_set{α:Type}(e:α→AV)(l:List α)(j:Nat)(x:α):(l.map e).set j (e x)=(l.set j x).map e:=(List.map_set ..).symm
theorem map_take{α:Type}(e:α→AV)(l:List α)(j:Nat):(l.map e).take j=(l.take j).map e:=(List.map_take ..).symm
theorem Eg{α:Type}(e:α→AV)(l:List α)(i j:Nat):((l.map e).take j).drop i=((l.take j).drop i).map e:=by rw [List.map_drop,List.map_take]
theorem aL{α:Type}(e:α→AV)(l:List α):((l.map e).length:Int)=((l.length:Nat):Int):=by rw [List.length_map]
theorem gw{α:Type}(e:α→AV){n:Nat}(h:∀ a,(e a).nc=n)(l:List α):((l.map e).all fun x=>x.nc==n)=true:=by
 rw [List.all_map]
 exact List.all_eq_true.2 fun x _=>beq_iff_eq.2 (h x)
theorem Bx{n b:Nat}(h:n≤1000000000)(hb:b≤100000):n*b≤140737488355328:=Nat.le_trans (Nat.mul_le_mul h hb) (by decide)
theorem By{n:Nat}(h:n≤1000000000):n≤maxLen:=Nat.le_trans h (by decide)
theorem kO{α:Type}{e:α→AV}{l m:List α}{b:Nat}(h:l.length+m.length≤1000000000)(hb:b≤100000):((l.map e).length+(m.map e).length)*b≤140737488355328:=by
 rw [List.length_map,List.length_map];exact Bx h hb
theorem kP{α:Type}{e:α→AV}{l m:List α}(h:l.length+m.length≤1000000000):(l.map e).length+(m.map e).length≤maxLen:=by
 rw [List.length_map,List.length_map];exact By h
theorem bh(hp:HP)(k:Key)(a b:List AV):ad (ad hp k a) k b=ad hp k b:=by
 funext k';simp only [ad];split<;>rfl
theorem aN(hp:HP)(k:Key)(a:List AV):ad hp k a k=some a:=by simp [ad]
end Go.Proofs.YtdpjofmmokaobaaGreat.A
