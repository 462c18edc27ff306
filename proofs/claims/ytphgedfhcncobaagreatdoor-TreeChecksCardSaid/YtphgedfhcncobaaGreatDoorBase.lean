/- How the abstract run is reckoned: which definitions simp opens. -/
import Derived.Test.YtphgedfhcncobaaGreatDoorCode
import Derived.Test.YtphgedfhcncobaaGreatDoorPath
set_option linter.unusedSectionVars false
set_option linter.unusedVariables false
set_option linter.unusedSimpArgs false
set_option linter.constructorNameAsVariable false
namespace Go.Proofs.YtphgedfhcncobaaGreatDoor.A
open Go
abbrev E0:Env:=⟨0,false⟩
abbrev H0:HP:=fun _=>none
attribute [simp] ag an fU St.bA St.ev St.a7 fh bG put gD dZ execOp oX ef St.elems jy pick lG mE AV.cl AV.nc vv s5 run_ite DG DH DI DJ DK wO kept AV.pure AV.bB AV.copy AV.jw AV.one tP
 St.result St.lH St.qL St.iV St.wL iW oq sX pv inBlock St.box St.az AV.deep AV.bL AV.dL elemAt Ch AV.dk ed St.jo St.cS AV.off AV.pn AV.dA St.aN St.rowAt St.putAt Pl.eD consume db iU putCells
 lW bT bS fi view eP Hy vo aX.app mG eF effect pr
theorem DT{α β:Type}{x y:Option α}{f:α→Option β}(h:x=y):x.bind f=y.bind f:=by rw [h]
attribute [congr] DT
theorem eG{α:Type}(e:α→AV)(h:∀ a,(e a).pure=true)(l:List α):AV.bB (l.map e)=true:=
 ig fun x hx=>by
  obtain ⟨a,_,rfl⟩:=List.mem_map.1 hx
  exact h a
@[simp] theorem Ql (l:List Int):AV.bB (l.map (AV.i .i64))=true:=eG _ (fun _=>rfl) l
@[simp] theorem Qm (l:List Bool):AV.bB (l.map AV.b)=true:=eG _ (fun _=>rfl) l
abbrev I(n:Int):AV:=.i .i64 n
abbrev Z0:Prop:=(0:Nat)=0
abbrev T0:Prop:=true=true
theorem cT{α:Type}(e:α→AV){l:List α}{j:Nat}{x:α}(h:l[j]? =some x):(l.map e)[j]? =some (e x):=by rw [List.getElem?_map,h];rfl
theorem ej{α:Type}(e:α→AV){l:List α}{j:Nat}{x:α}{v:AV}(h:l[j]? =some x)(hv:e x=v):(l.map e)[j]? =some v:=by rw [cT e h,hv]
theorem aK{α:Type}(e:α→AV)(l:List α):((l.map e).length:Int)=((l.length:Nat):Int):=by rw [List.length_map]
theorem IT{α:Type}(e:α→AV){n:Nat}(h:∀ a,(e a).nc=n)(l:List α):((l.map e).all fun x=>x.nc==n)=true:=by
 rw [List.all_map]
 exact List.all_eq_true.2 fun x _=>beq_iff_eq.2 (h x)
theorem Ny{n b:Nat}(h:n≤1000000000)(hb:b≤100000):n*b≤140737488355328:=Nat.le_trans (Nat.mul_le_mul h hb) (by decide)
theorem Nz{n:Nat}(h:n≤1000000000):n≤maxLen:=Nat.le_trans h (by decide)
theorem NA{α:Type}{e:α→AV}{l m:List α}{b:Nat}(h:l.length+m.length≤1000000000)(hb:b≤100000):((l.map e).length+(m.map e).length)*b≤140737488355328:=by
 rw [List.length_map,List.length_map];exact Ny h hb
theorem NB{α:Type}{e:α→AV}{l m:List α}(h:l.length+m.length≤1000000000):(l.map e).length+(m.map e).length≤maxLen:=by
 rw [List.length_map,List.length_map];exact Nz h
theorem iC(hp:HP)(k:Key)(a b:List AV):aP (aP hp k a) k b=aP hp k b:=by
 funext k';simp only [aP];split<;>rfl
theorem aR(hp:HP)(k:Key)(a:List AV):aP hp k a k=some a:=by simp [aP]
end Go.Proofs.YtphgedfhcncobaaGreatDoor.A
