/- How the abstract run is reckoned: which definitions simp opens. -/
import Derived.Test.YtogbakbmphadfaaGreatDoorCode
import Derived.Test.YtogbakbmphadfaaGreatDoorPath
set_option linter.unusedSectionVars false
set_option linter.unusedVariables false
set_option linter.unusedSimpArgs false
set_option linter.constructorNameAsVariable false
namespace Go.Proofs.YtogbakbmphadfaaGreatDoor.A
open Go
abbrev E0:Env:=⟨0,false⟩
abbrev H0:HP:=fun _=>none
attribute [simp] an az hY St.b5 St.ev St.bw hZ cg put jw fu execOp rZ fy St.elems lK pick n9 pz AV.cl AV.nc Af w2 run_ite IV IW IX IY IZ Bx kept AV.pure AV.b7 AV.copy AV.lI AV.one ye
 St.result St.oa St.ur St.kM St.Bu kN q7 wX sG inBlock St.box St.aL AV.deep AV.bn AV.bY elemAt Hq AV.dB fx St.lA St.dY AV.off AV.sE AV.cG St.aT St.rowAt St.putAt Pl.fq consume eh kL putCells
 oy cN cM ib view gx NN cU bm.app pB fZ effect ez
theorem Jh{α β:Type}{x y:Option α}{f:α→Option β}(h:x=y):x.bind f=y.bind f:=by rw [h]
attribute [congr] Jh
theorem ga{α:Type}(e:α→AV)(h:∀ a,(e a).pure=true)(l:List α):AV.b7 (l.map e)=true:=
 jX fun x hx=>by
  obtain ⟨a,_,rfl⟩:=List.mem_map.1 hx
  exact h a
@[simp] theorem ZS (l:List Int):AV.b7 (l.map (AV.i .i64))=true:=ga _ (fun _=>rfl) l
@[simp] theorem ZT (l:List Bool):AV.b7 (l.map AV.b)=true:=ga _ (fun _=>rfl) l
theorem wrapN(n:Nat)(h:n<4611686018427387904):IntKind.i64.wrap (n:Int)=n:=wrap64 (by omega) (by omega)
abbrev I(n:Int):AV:=.i .i64 n
abbrev Z0:Prop:=(0:Nat)=0
abbrev T0:Prop:=true=true
theorem cj{α:Type}(e:α→AV){l:List α}{j:Nat}{x:α}(h:l[j]? =some x):(l.map e)[j]? =some (e x):=by rw [List.getElem?_map,h];rfl
theorem cX{α:Type}(e:α→AV){l:List α}{j:Nat}{x:α}{v:AV}(h:l[j]? =some x)(hv:e x=v):(l.map e)[j]? =some v:=by rw [cj e h,hv]
theorem aO{α:Type}(e:α→AV)(l:List α):((l.map e).length:Int)=((l.length:Nat):Int):=by rw [List.length_map]
theorem Am{α:Type}(e:α→AV){n:Nat}(h:∀ a,(e a).nc=n)(l:List α):((l.map e).all fun x=>x.nc==n)=true:=by
 rw [List.all_map]
 exact List.all_eq_true.2 fun x _=>beq_iff_eq.2 (h x)
theorem WQ{n b:Nat}(h:n≤1000000000)(hb:b≤100000):n*b≤140737488355328:=Nat.le_trans (Nat.mul_le_mul h hb) (by decide)
theorem WR{n:Nat}(h:n≤1000000000):n≤maxLen:=Nat.le_trans h (by decide)
theorem Ez{α:Type}{e:α→AV}{l m:List α}{b:Nat}(h:l.length+m.length≤1000000000)(hb:b≤100000):((l.map e).length+(m.map e).length)*b≤140737488355328:=by
 rw [List.length_map,List.length_map];exact WQ h hb
theorem EA{α:Type}{e:α→AV}{l m:List α}(h:l.length+m.length≤1000000000):(l.map e).length+(m.map e).length≤maxLen:=by
 rw [List.length_map,List.length_map];exact WR h
theorem ew(hp:HP)(k:Key)(a b:List AV):aB (aB hp k a) k b=aB hp k b:=by
 funext k';simp only [aB];split<;>rfl
theorem aM(hp:HP)(k:Key)(a:List AV):aB hp k a k=some a:=by simp [aB]
end Go.Proofs.YtogbakbmphadfaaGreatDoor.A
