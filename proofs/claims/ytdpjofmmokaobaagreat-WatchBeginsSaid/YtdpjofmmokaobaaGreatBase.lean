/- How the abstract run is reckoned: which definitions simp opens. -/
import Derived.Test.YtdpjofmmokaobaaGreatCode
import Derived.Test.YtdpjofmmokaobaaGreatPath
set_option linter.unusedSectionVars false
set_option linter.unusedVariables false
set_option linter.unusedSimpArgs false
set_option linter.constructorNameAsVariable false
namespace Go.Proofs.YtdpjofmmokaobaaGreat.A
open Go
abbrev E0:Env:=⟨0,false⟩
abbrev H0:HP:=fun _=>none
attribute [simp] ax aC iQ St.bT St.ev St.bw iS cB put kr fS execOp s8 gd St.elems pI pick nr pU AV.cl AV.nc nx pr run_ite wA JV qz wB JW Dp kept AV.pure AV.bS AV.copy AV.qx AV.one z6
 St.result St.pq St.vT St.l6 St.Dl kg qa yQ mJ inBlock St.box St.aX AV.deep AV.aI AV.aJ elemAt yv AV.bn gb St.lr St.ey AV.off AV.pT AV.bO St.bm St.rowAt St.putAt Pl.fQ consume ew l5 putCells
 n6 cR cQ iT view ic Ib a6 bB.app n5 gI effect eG
theorem Ku{α β:Type}{x y:Option α}{f:α→Option β}(h:x=y):x.bind f=y.bind f:=by rw [h]
attribute [congr] Ku
theorem FQ{G:nu}{Ω:cK}{E:Env}{f:FuncId}{args:List AV}{hp:HP}{r:aW×HP}(n:Nat)(h:fT G (exec G Ω n) E f args hp=some r):call G Ω E f args hp=some r:=by
 obtain ⟨fn,h1,h2⟩:=Option.bind_eq_some_iff.1 h
 obtain ⟨q,h3,h4⟩:=Option.bind_eq_some_iff.1 h2
 exact Option.bind_eq_some_iff.2 ⟨fn,h1,Option.bind_eq_some_iff.2 ⟨q,kA n _ _ _ _ h3,h4⟩⟩
theorem dh{α:Type}(e:α→AV)(h:∀ a,(e a).pure=true)(l:List α):AV.bS (l.map e)=true:=
 jB fun x hx=>by
  obtain ⟨a,_,rfl⟩:=List.mem_map.1 hx
  exact h a
@[simp] theorem aak (l:List Int):AV.bS (l.map (AV.i .i64))=true:=dh _ (fun _=>rfl) l
@[simp] theorem aal (l:List Bool):AV.bS (l.map AV.b)=true:=dh _ (fun _=>rfl) l
abbrev I(n:Int):AV:=.i .i64 n
abbrev Z0:Prop:=(0:Nat)=0
abbrev T0:Prop:=true=true
def bD{α:Type}(t:TypeId)(e:α→AV)(l:List α):AV:=.l t (l.map e)
theorem aD{α:Type}(e:α→AV){l:List α}{j:Nat}{x:α}(h:l[j]? =some x):(l.map e)[j]? =some (e x):=by rw [List.getElem?_map,h];rfl
theorem iy{α:Type}(e:α→AV){l:List α}{j:Nat}{x:α}{v:AV}(h:l[j]? =some x)(hv:e x=v):(l.map e)[j]? =some v:=by rw [aD e h,hv]
theorem map_set{α:Type}(e:α→AV)(l:List α)(j:Nat)(x:α):(l.map e).set j (e x)=(l.set j x).map e:=(List.map_set ..).symm
theorem map_take{α:Type}(e:α→AV)(l:List α)(j:Nat):(l.map e).take j=(l.take j).map e:=(List.map_take ..).symm
theorem yw{α:Type}(e:α→AV)(l:List α)(i j:Nat):((l.map e).take j).drop i=((l.take j).drop i).map e:=by rw [List.map_drop,List.map_take]
theorem aL{α:Type}(e:α→AV)(l:List α):((l.map e).length:Int)=((l.length:Nat):Int):=by rw [List.length_map]
theorem gi{α:Type}(e:α→AV){n:Nat}(h:∀ a,(e a).nc=n)(l:List α):((l.map e).all fun x=>x.nc==n)=true:=by
 rw [List.all_map]
 exact List.all_eq_true.2 fun x _=>beq_iff_eq.2 (h x)
theorem B4{n b:Nat}(h:n≤1000000000)(hb:b≤100000):n*b≤140737488355328:=Nat.le_trans (Nat.mul_le_mul h hb) (by decide)
theorem B5{n:Nat}(h:n≤1000000000):n≤maxLen:=Nat.le_trans h (by decide)
theorem lh{α:Type}{e:α→AV}{l m:List α}{b:Nat}(h:l.length+m.length≤1000000000)(hb:b≤100000):((l.map e).length+(m.map e).length)*b≤140737488355328:=by
 rw [List.length_map,List.length_map];exact B4 h hb
theorem lj{α:Type}{e:α→AV}{l m:List α}(h:l.length+m.length≤1000000000):(l.map e).length+(m.map e).length≤maxLen:=by
 rw [List.length_map,List.length_map];exact B5 h
theorem bh(hp:HP)(k:Key)(a b:List AV):ad (ad hp k a) k b=ad hp k b:=by
 funext k';simp only [ad];split<;>rfl
theorem aG(hp:HP)(k:Key)(a:List AV):ad hp k a k=some a:=by simp [ad]
end Go.Proofs.YtdpjofmmokaobaaGreat.A
