/- How the abstract run is reckoned: which definitions simp opens. -/
import Derived.Test.YtkkkkondjclcnaaCode
import Derived.Test.YtkkkkondjclcnaaPath
set_option linter.unusedSectionVars false
set_option linter.unusedVariables false
set_option linter.unusedSimpArgs false
set_option linter.constructorNameAsVariable false
namespace Go.Proofs.Ytkkkkondjclcnaa.A
open Go
abbrev E0:Env:=⟨0,false⟩
abbrev H0:HP:=fun _=>none
attribute [simp] af aq fV St.ba St.ev St.aD fW bA put iv eL execOp pa dJ St.elems nj pick kX nG AV.cl AV.nc px oc run_ite db gK jR ym Cc iw kept AV.pure AV.aO AV.copy AV.jA AV.one vY
 St.result St.mW St.sE St.jD St.zD iq nQ uW pR inBlock St.box St.au AV.deep AV.aW AV.bR elemAt Ed AV.bN bE St.eI St.cI AV.off AV.pQ AV.dj St.az St.rowAt St.putAt Pl.en consume dk jB putCells
 im bT bS fX view fA Ec oa aL.app lP fj effect ob
theorem sc(dp:Nat)(st:St){x:AV}(h:x.pure=true):st.eI dp x=some (x,[]):=by
 cases x<;>simp only [St.eI,h,if_true]<;>simp [AV.pure] at h
theorem va(dp:Nat)(st:St):∀ {xs:List AV},AV.aO xs=true→st.cI dp xs=some (xs,[])
 | [],_=>rfl
 | x::xs,h=>by
  simp only [AV.aO,Bool.and_eq_true] at h
  simp only [St.cI,sc dp st h.1,va dp st h.2,Option.bind_some,List.nil_append]
theorem Gi{α β:Type}{x y:Option α}{f:α→Option β}(h:x=y):x.bind f=y.bind f:=by rw [h]
attribute [congr] Gi
theorem Ck{G:kY}{Ω:bL}{E:Env}{f:FuncId}{args:List AV}{hp:HP}{r:aR×HP}(n:Nat)(h:eM G (exec G Ω n) E f args hp=some r):call G Ω E f args hp=some r:=by
 obtain ⟨fn,h1,h2⟩:=Option.bind_eq_some_iff.1 h
 obtain ⟨q,h3,h4⟩:=Option.bind_eq_some_iff.1 h2
 exact Option.bind_eq_some_iff.2 ⟨fn,h1,Option.bind_eq_some_iff.2 ⟨q,iF n _ _ _ _ h3,h4⟩⟩
theorem dq{α:Type}(e:α→AV)(h:∀ a,(e a).pure=true)(l:List α):AV.aO (l.map e)=true:=
 fI fun x hx=>by
  obtain ⟨a,_,rfl⟩:=List.mem_map.1 hx
  exact h a
theorem Cl{l m:List AV}(h:AV.aO l=true)(h':AV.aO m=true):AV.aO (l++m)=true:=
 fI fun x hx=>(List.mem_append.1 hx).elim (cU h x) (cU h' x)
@[simp] theorem Tv (l:List Int):AV.aO (l.map (AV.i .i64))=true:=dq _ (fun _=>rfl) l
@[simp] theorem Tw (l:List Bool):AV.aO (l.map AV.b)=true:=dq _ (fun _=>rfl) l
theorem og(n:Nat)(h:n<4611686018427387904):IntKind.i64.wrap ((n:Int)+1)=(n:Int)+1:=wrap64 (by omega) (by omega)
theorem Tb{α:Type}(e:α→AV)(p:AV→Bool)(h:∀ a,p (e a)=true)(l:List α):(l.map e).all p=true:=by
 simp [List.all_map,h]
abbrev I(n:Int):AV:=.i .i64 n
abbrev Z0:Prop:=(0:Nat)=0
abbrev T0:Prop:=true=true
def bM{α:Type}(t:TypeId)(e:α→AV)(l:List α):AV:=.l t (l.map e)
theorem aZ{α:Type}(e:α→AV){l:List α}{j:Nat}{x:α}(h:l[j]? =some x):(l.map e)[j]? =some (e x):=by rw [List.getElem?_map,h];rfl
theorem qR{α:Type}(e:α→AV){l:List α}{j:Nat}{x:α}{v:AV}(h:l[j]? =some x)(hv:e x=v):(l.map e)[j]? =some v:=by rw [aZ e h,hv]
theorem map_set{α:Type}(e:α→AV)(l:List α)(j:Nat)(x:α):(l.map e).set j (e x)=(l.set j x).map e:=(List.map_set ..).symm
theorem map_take{α:Type}(e:α→AV)(l:List α)(j:Nat):(l.map e).take j=(l.take j).map e:=(List.map_take ..).symm
theorem Bs{α:Type}(e:α→AV)(l:List α)(i j:Nat):((l.map e).take j).drop i=((l.take j).drop i).map e:=by rw [List.map_drop,List.map_take]
theorem ay{α:Type}(e:α→AV)(l:List α):((l.map e).length:Int)=((l.length:Nat):Int):=by rw [List.length_map]
theorem jg{α:Type}(e:α→AV){n:Nat}(h:∀ a,(e a).nc=n)(l:List α):((l.map e).all fun x=>x.nc==n)=true:=by
 rw [List.all_map]
 exact List.all_eq_true.2 fun x _=>beq_iff_eq.2 (h x)
theorem Fu{n b:Nat}(h:n≤1000000000)(hb:b≤100000):n*b≤140737488355328:=Nat.le_trans (Nat.mul_le_mul h hb) (by decide)
theorem Fv{n:Nat}(h:n≤1000000000):n≤maxLen:=Nat.le_trans h (by decide)
theorem np{α:Type}{e:α→AV}{l m:List α}{b:Nat}(h:l.length+m.length≤1000000000)(hb:b≤100000):((l.map e).length+(m.map e).length)*b≤140737488355328:=by
 rw [List.length_map,List.length_map];exact Fu h hb
theorem nq{α:Type}{e:α→AV}{l m:List α}(h:l.length+m.length≤1000000000):(l.map e).length+(m.map e).length≤maxLen:=by
 rw [List.length_map,List.length_map];exact Fv h
theorem jh(hp:HP)(k:Key)(a b:List AV):aj (aj hp k a) k b=aj hp k b:=by
 funext k';simp only [aj];split<;>rfl
theorem cY(hp:HP)(k:Key)(a:List AV):aj hp k a k=some a:=by simp [aj]
end Go.Proofs.Ytkkkkondjclcnaa.A
