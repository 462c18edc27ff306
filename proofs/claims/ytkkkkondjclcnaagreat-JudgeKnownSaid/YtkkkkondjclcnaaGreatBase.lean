/- How the abstract run is reckoned: which definitions simp opens. -/
import Derived.Test.YtkkkkondjclcnaaGreatCode
import Derived.Test.YtkkkkondjclcnaaGreatPath
set_option linter.unusedSectionVars false
set_option linter.unusedVariables false
set_option linter.unusedSimpArgs false
set_option linter.constructorNameAsVariable false
namespace Go.Proofs.YtkkkkondjclcnaaGreat.A
open Go
abbrev E0:Env:=⟨0,false⟩
abbrev H0:HP:=fun _=>none
attribute [simp] aj aq kK St.bR St.ev St.aH js bT put kQ gw execOp qP eH St.elems qO pick ob rh AV.cl AV.nc k9 l8 run_ite bU iC db tG GO ey kept AV.pure AV.aK AV.copy AV.kC AV.one A7
 St.result St.mY St.ub St.lJ St.zM fO pK zK nu inBlock St.box St.aC AV.deep AV.bb AV.bM elemAt zt AV.bP bk St.fL St.du AV.off AV.ua AV.fe St.aL St.rowAt St.putAt Pl.fK consume ea mM putCells
 kD cC cB jt view iR Sj k7 aX.app oV iB effect rL
theorem wJ(dp:Nat)(st:St){x:AV}(h:x.pure=true):st.fL dp x=some (x,[]):=by
 cases x<;>first | (simp only [St.fL,h,if_true];done) | (simp [AV.pure] at h;done) | (simp only [St.fL];rw [if_pos (by simpa [AV.pure] using h)])
theorem zY(dp:Nat)(st:St):∀ {xs:List AV},AV.aK xs=true→st.du dp xs=some (xs,[])
 | [],_=>rfl
 | x::xs,h=>by
  simp only [AV.aK,Bool.and_eq_true] at h
  simp only [St.du,wJ dp st h.1,zY dp st h.2,Option.bind_some,List.nil_append]
theorem MG{α β:Type}{x y:Option α}{f:α→Option β}(h:x=y):x.bind f=y.bind f:=by rw [h]
attribute [congr] MG
theorem Hf{G:oc}{Ω:cm}{E:Env}{f:FuncId}{args:List AV}{hp:HP}{r:aQ×HP}(n:Nat)(h:fP G (exec G Ω n) E f args hp=some r):call G Ω E f args hp=some r:=by
 obtain ⟨fn,h1,h2⟩:=Option.bind_eq_some_iff.1 h
 obtain ⟨q,h3,h4⟩:=Option.bind_eq_some_iff.1 h2
 exact Option.bind_eq_some_iff.2 ⟨fn,h1,Option.bind_eq_some_iff.2 ⟨q,gP n _ _ _ _ h3,h4⟩⟩
theorem cw{α:Type}(e:α→AV)(h:∀ a,(e a).pure=true)(l:List α):AV.aK (l.map e)=true:=
 ib fun x hx=>by
  obtain ⟨a,_,rfl⟩:=List.mem_map.1 hx
  exact h a
theorem zZ{l m:List AV}(h:AV.aK l=true)(h':AV.aK m=true):AV.aK (l++m)=true:=
 ib fun x hx=>(List.mem_append.1 hx).elim (cT h x) (cT h' x)
@[simp] theorem acG (l:List Int):AV.aK (l.map (AV.i .i64))=true:=cw _ (fun _=>rfl) l
@[simp] theorem acH (l:List Bool):AV.aK (l.map AV.b)=true:=cw _ (fun _=>rfl) l
theorem qA(n:Nat)(h:n<4611686018427387904):IntKind.i64.wrap ((n:Int)+1)=(n:Int)+1:=wrap64 (by omega) (by omega)
theorem acn{α:Type}(e:α→AV)(p:AV→Bool)(h:∀ a,p (e a)=true)(l:List α):(l.map e).all p=true:=by
 simp [List.all_map,h]
abbrev I(n:Int):AV:=.i .i64 n
abbrev Z0:Prop:=(0:Nat)=0
abbrev T0:Prop:=true=true
def cz{α:Type}(t:TypeId)(e:α→AV)(l:List α):AV:=.l t (l.map e)
theorem aU{α:Type}(e:α→AV){l:List α}{j:Nat}{x:α}(h:l[j]? =some x):(l.map e)[j]? =some (e x):=by rw [List.getElem?_map,h];rfl
theorem og{α:Type}(e:α→AV){l:List α}{j:Nat}{x:α}{v:AV}(h:l[j]? =some x)(hv:e x=v):(l.map e)[j]? =some v:=by rw [aU e h,hv]
theorem map_set{α:Type}(e:α→AV)(l:List α)(j:Nat)(x:α):(l.map e).set j (e x)=(l.set j x).map e:=(List.map_set ..).symm
theorem map_take{α:Type}(e:α→AV)(l:List α)(j:Nat):(l.map e).take j=(l.take j).map e:=(List.map_take ..).symm
theorem F3{α:Type}(e:α→AV)(l:List α)(i j:Nat):((l.map e).take j).drop i=((l.take j).drop i).map e:=by rw [List.map_drop,List.map_take]
theorem aG{α:Type}(e:α→AV)(l:List α):((l.map e).length:Int)=((l.length:Nat):Int):=by rw [List.length_map]
theorem fQ{α:Type}(e:α→AV){n:Nat}(h:∀ a,(e a).nc=n)(l:List α):((l.map e).all fun x=>x.nc==n)=true:=by
 rw [List.all_map]
 exact List.all_eq_true.2 fun x _=>beq_iff_eq.2 (h x)
theorem Ld{n b:Nat}(h:n≤1000000000)(hb:b≤100000):n*b≤140737488355328:=Nat.le_trans (Nat.mul_le_mul h hb) (by decide)
theorem Lf{n:Nat}(h:n≤1000000000):n≤maxLen:=Nat.le_trans h (by decide)
theorem kE{α:Type}{e:α→AV}{l m:List α}{b:Nat}(h:l.length+m.length≤1000000000)(hb:b≤100000):((l.map e).length+(m.map e).length)*b≤140737488355328:=by
 rw [List.length_map,List.length_map];exact Ld h hb
theorem kG{α:Type}{e:α→AV}{l m:List α}(h:l.length+m.length≤1000000000):(l.map e).length+(m.map e).length≤maxLen:=by
 rw [List.length_map,List.length_map];exact Lf h
theorem dI(hp:HP)(k:Key)(a b:List AV):ab (ab hp k a) k b=ab hp k b:=by
 funext k';simp only [ab];split<;>rfl
theorem cD(hp:HP)(k:Key)(a:List AV):ab hp k a k=some a:=by simp [ab]
end Go.Proofs.YtkkkkondjclcnaaGreat.A
