/- The abstract run without a bound on its length, and how it goes on: one equation for each command. -/
import Derived.Test.YtphgedfhcncobaaGreatDoorAbs2
set_option linter.unusedSectionVars false
set_option linter.unusedVariables false
set_option linter.unusedSimpArgs false
set_option linter.constructorNameAsVariable false
namespace Go.Proofs.YtphgedfhcncobaaGreatDoor.A
open Go
def aI{α:Type}(x y:Option α):Prop:=∀ r,x=some r→y=some r
theorem aI.refl{α:Type}(x:Option α):aI x x:=fun _ h=>h
theorem aI.bind{α β:Type}{x y:Option α}{f g:α→Option β}(h:aI x y)(hf:∀ a,aI (f a) (g a)):aI (x.bind f) (y.bind g):=by
 intro r hr
 obtain ⟨a,ha,hfa⟩:=Option.bind_eq_some_iff.1 hr
 exact Option.bind_eq_some_iff.2 ⟨a,h a ha,hf a r hfa⟩
theorem aI.ite{α:Type}{c:Prop}[Decidable c]{x y x' y':Option α}(h:aI x x')(h':aI y y'):aI (if c then x else y) (if c then x' else y'):=by
 split
 ·exact h
 ·exact h'
def sY(R R':Rec):Prop:=∀ E f args hp,aI (R E f args hp) (R' E f args hp)
abbrev vq:=Env→AC→St→Option (aE×St)
def FE(X X':vq):Prop:=∀ E c st,aI (X E c st) (X' E c st)
theorem mH{G:nC}{X X':vq}(h:FE X X'):sY (fj G X) (fj G X'):=fun _ _ _ _=>
 aI.bind (aI.refl _) fun _=>aI.bind (h _ _ _) fun _=>aI.refl _
theorem qM{R R':Rec}(h:sY R R'){Ω:bR}{E:Env}{st:St}{m:Nat}{f:FuncId}{args:List AV} :
  aI (ed R Ω E st m f args) (ed R' Ω E st m f args):=by
 unfold ed
 split
 ·exact aI.bind (aI.refl _) fun _=>aI.bind (h _ _ _ _) fun _=>aI.refl _
 ·exact aI.refl _
 ·exact aI.refl _
theorem sZ{R R':Rec}(h:sY R R'){Ω:bR}{E:Env}{st:St}{f:FuncId}{args:List AV} : aI (iz R Ω E st f args) (iz R' Ω E st f args):=
 aI.ite (qM h)<|aI.ite (aI.bind (h _ _ _ _) fun _=>aI.refl _) (aI.refl _)
theorem s0{R R':Rec}(h:sY R R'){E:Env}{st:St}{f:FuncId}{args:List AV} : aI (iA R E st f args) (iA R' E st f args):=
 aI.ite (aI.bind (h _ _ _ _) fun _=>aI.refl _) (aI.refl _)
theorem Ab{R R':Rec}(h:sY R R'){E:Env}{st:St}{d:Nat}{f:FuncId}{args:List AV} : aI (ra R E st d f args) (ra R' E st d f args):=
 aI.ite (aI.bind (h _ _ _ _) fun _=>aI.refl _) (aI.refl _)
theorem qN{R R':Rec}(h:sY R R'){Ω:bR}{E:Env}{st:St}{d:Option Nat}(o:jx) :
  aI (execOp R Ω E st d o) (execOp R' Ω E st d o):=by
 cases o with
 | ca m f args=>exact qM h
 | cf m x args=>
  simp only [execOp]
  split
  ·exact qM h
  ·exact aI.refl _
 | c2 f args=>exact sZ h
 | d2 x args=>
  simp only [execOp]
  split
  ·exact sZ h
  ·exact aI.refl _
 | cn f args=>exact aI.bind (aI.refl _) fun _=>Ab h
 | vi g f args=>
  refine aI.bind (aI.refl _) fun z=>?_
  split
  ·exact aI.ite (aI.bind (h _ _ _ _) fun _=>aI.refl _) (aI.refl _)
  ·exact aI.refl _
 | cw t f args=>exact aI.bind (aI.refl _) fun _=>aI.ite (aI.bind (aI.refl _) fun _=>aI.bind (h _ _ _ _) fun _=>aI.refl _) (aI.refl _)
 | ch f args sl dl ow=>exact aI.ite (aI.bind (h _ _ _ _) fun _=>aI.refl _) (aI.refl _)
 | c3 f args=>exact s0 h
 | d3 x args=>
  simp only [execOp]
  split
  ·exact s0 h
  ·exact aI.refl _
 | _=>exact aI.refl _
theorem vt{R R':Rec}(h:sY R R'){Ω:bR}{E:Env}{st:St}{g:bU} : aI (dZ R Ω E st g) (dZ R' Ω E st g):=by
 unfold dZ
 split
 ·exact aI.bind (qN h _) fun _=>aI.refl _
 ·exact aI.bind (aI.refl _) fun _=>aI.ite (aI.bind (qN h _) fun _=>aI.refl _) (aI.refl _)
theorem pw{R R':Rec}(h:sY R R'){Ω:bR}{E:Env} : ∀ (gs:List bU)(st:St),aI (gD R Ω E st gs) (gD R' Ω E st gs)
 | [],_=>aI.refl _
 | _::gs,_=>aI.bind (vt h) fun _=>pw h gs _
theorem vu{R R':Rec}(h:sY R R'){Ω:bR}{E:Env}{p:bh}{v:St} : aI (fi R Ω E p v) (fi R' Ω E p v):=
 aI.ite (aI.bind (qN h _) fun _=>aI.refl _) (aI.refl _)
theorem BI{R R':Rec}(h:sY R R'){Ω:bR}{E:Env}{st:St}{p:bh} : aI (bT R Ω E st p) (bT R' Ω E st p):=by
 unfold bT
 refine aI.ite (aI.bind ?_ fun _=>aI.refl _) (vt h)
 unfold bS
 split
 ·exact vu h
 ·exact aI.bind (aI.refl _) fun _=>aI.ite (vu h) (aI.refl _)
theorem rQ{R R':Rec}(h:sY R R'){Ω:bR}{E:Env} : ∀ (gs:List bh)(st:St),aI (lW R Ω E st gs) (lW R' Ω E st gs)
 | [],_=>aI.refl _
 | _::gs,_=>aI.bind (BI h) fun _=>rQ h gs _
theorem qh{k k':St→Option (aE×St)}(h:∀ st,aI (k st) (k' st))(r:aE×St):aI (pv k r) (pv k' r):=by
 unfold pv
 split
 ·exact h _
 ·exact aI.refl _
section
variable {G:nC}{Ω:bR}
theorem yK:∀ n,FE (exec G Ω n) (exec G Ω (n+1))
 | 0,_,_,_=>fun r hr=>by simp [exec] at hr
 | n+1,E,c,st=>by
  have ih:=yK n
  cases c with
  | sk=>exact aI.refl _
  | ex id=>exact aI.refl _
  | rt=>exact aI.refl _
  | rg pre ops kf kb=>exact aI.bind (aI.refl _) fun _=>aI.bind (pw (mH ih) _ _) fun _=>aI.refl _
  | dg pre mks ops kf kb=>exact aI.bind (aI.refl _) fun _=>aI.ite (aI.bind (rQ (mH ih) _ _) fun _=>aI.refl _) (aI.refl _)
  | sq x y=>exact aI.bind (ih _ _ _) fun _=>qh (fun _=>ih _ _ _) _
  | ite c x y=>exact aI.bind (aI.refl _) fun _=>aI.ite (ih _ _ _) (ih _ _ _)
  | bl id x=>exact aI.bind (ih _ _ _) fun _=>aI.refl _
  | lp x=>exact aI.bind (ih _ _ _) fun _=>qh (fun _=>ih _ _ _) _
  | kp kf kb x=>exact ih _ _ _
  | bad=>exact aI.refl _
theorem wM{n m:Nat}(h:n≤m):FE (exec G Ω n) (exec G Ω m):=by
 induction h with
 | refl=>exact fun _ _ _ _ h=>h
 | step _ ih=>exact fun E c st r hr=>yK _ E c st r (ih E c st r hr)
noncomputable def run(G:nC)(Ω:bR):vq:=fun E c st=>
 open Classical in if h:∃ n,(exec G Ω n E c st).isSome=true then exec G Ω (Classical.choose h) E c st else none
theorem l8{E:Env}{c:AC}{st:St}{r:aE×St} : run G Ω E c st=some r↔∃ n,exec G Ω n E c st=some r:=by
 constructor
 ·intro h
  unfold run at h
  split at h
  ·exact ⟨_,h⟩
  ·cases h
 ·rintro ⟨n,h⟩
  have hex:∃ n,(exec G Ω n E c st).isSome=true:=⟨n,by rw [h];rfl⟩
  unfold run
  rw [dif_pos hex]
  have hc:=Classical.choose_spec hex
  obtain ⟨r',hr'⟩:=Option.isSome_iff_exists.1 hc
  rw [hr']
  have h1:=wM (Nat.le_max_left n (Classical.choose hex)) E c st r h
  have h2:=wM (Nat.le_max_right n (Classical.choose hex)) E c st r' hr'
  rw [h1] at h2
  exact h2.symm
theorem jP(n:Nat):FE (exec G Ω n) (run G Ω):=fun _ _ _ _ h=>l8.2 ⟨n,h⟩
noncomputable def call(G:nC)(Ω:bR):Rec:=fj G (run G Ω)
def Fin{α:Type}(x:Option α)(y:Nat→Option α):Prop:=∀ r,x=some r→∃ n,∀ m,n≤m→y m=some r
theorem Fin.same{α:Type}(x:Option α):Fin x fun _=>x:=fun _ h=>⟨0,fun _ _=>h⟩
theorem Fin.bind{α β:Type}{x:Option α}{y:Nat→Option α}{f:α→Option β}{g:Nat→α→Option β}(h:Fin x y)(hf:∀ a,Fin (f a) fun n=>g n a) :
  Fin (x.bind f) fun n=>(y n).bind (g n):=by
 intro r hr
 obtain ⟨a,ha,hfa⟩:=Option.bind_eq_some_iff.1 hr
 obtain ⟨n,hn⟩:=h a ha
 obtain ⟨m,hm⟩:=hf a r hfa
 exact ⟨max n m,fun k hk=>Option.bind_eq_some_iff.2 ⟨a,hn k (by omega),hm k (by omega)⟩⟩
theorem Fin.ite{α:Type}{c:Prop}[Decidable c]{x x':Option α}{y y':Nat→Option α}(h:Fin x y)(h':Fin x' y'):Fin (if c then x else x') fun n=>if c then y n else y' n:=by
 split
 ·exact h
 ·exact h'
theorem j5(E:Env)(c:AC)(st:St):Fin (run G Ω E c st) fun n=>exec G Ω n E c st:=by
 intro r hr
 obtain ⟨n,hn⟩:=l8.1 hr
 exact ⟨n,fun m hm=>wM hm _ _ _ _ hn⟩
theorem fW(E:Env)(f:FuncId)(args:List AV)(hp:HP):Fin (call G Ω E f args hp) fun n=>fj G (exec G Ω n) E f args hp:=
 Fin.bind (Fin.same _) fun _=>Fin.bind (j5 _ _ _) fun _=>Fin.same _
theorem rR(E:Env)(st:St)(m:Nat)(f:FuncId)(args:List AV) :
  Fin (ed (call G Ω) Ω E st m f args) fun n=>ed (fj G (exec G Ω n)) Ω E st m f args:=by
 unfold ed
 split
 ·exact Fin.bind (Fin.same _) fun _=>Fin.bind (fW _ _ _ _) fun _=>Fin.same _
 ·exact Fin.same _
 ·exact Fin.same _
theorem uu(E:Env)(st:St)(f:FuncId)(args:List AV):Fin (iz (call G Ω) Ω E st f args) fun n=>iz (fj G (exec G Ω n)) Ω E st f args:=
 Fin.ite (rR _ _ _ _ _)<|Fin.ite (Fin.bind (fW _ _ _ _) fun _=>Fin.same _) (Fin.same _)
theorem rS(E:Env)(st:St)(d:Option Nat)(o:jx) :
  Fin (execOp (call G Ω) Ω E st d o) fun n=>execOp (fj G (exec G Ω n)) Ω E st d o:=by
 cases o with
 | ca m f args=>exact rR _ _ _ _ _
 | cf m x args=>
  simp only [execOp]
  split
  ·exact rR _ _ _ _ _
  ·exact Fin.same _
 | c2 f args=>exact uu _ _ _ _
 | d2 x args=>
  simp only [execOp]
  split
  ·exact uu _ _ _ _
  ·exact Fin.same _
 | c3 f args=>exact Fin.ite (Fin.bind (fW _ _ _ _) fun _=>Fin.same _) (Fin.same _)
 | d3 x args=>
  simp only [execOp]
  split
  ·exact Fin.ite (Fin.bind (fW _ _ _ _) fun _=>Fin.same _) (Fin.same _)
  ·exact Fin.same _
 | cn f args=>exact Fin.bind (Fin.same _) fun _=>Fin.ite (Fin.bind (fW _ _ _ _) fun _=>Fin.same _) (Fin.same _)
 | vi g f args=>
  refine Fin.bind (Fin.same _) fun z=>?_
  split
  ·exact Fin.ite (Fin.bind (fW _ _ _ _) fun _=>Fin.same _) (Fin.same _)
  ·exact Fin.same _
 | cw t f args=>exact Fin.bind (Fin.same _) fun _=>Fin.ite (Fin.bind (Fin.same _) fun _=>Fin.bind (fW _ _ _ _) fun _=>Fin.same _) (Fin.same _)
 | ch f args sl dl ow=>exact Fin.ite (Fin.bind (fW _ _ _ _) fun _=>Fin.same _) (Fin.same _)
 | _=>exact Fin.same _
theorem yL(E:Env)(st:St)(g:bU):Fin (dZ (call G Ω) Ω E st g) fun n=>dZ (fj G (exec G Ω n)) Ω E st g:=by
 unfold dZ
 split
 ·exact Fin.bind (rS _ _ _ _) fun _=>Fin.same _
 ·exact Fin.bind (Fin.same _) fun _=>Fin.ite (Fin.bind (rS _ _ _ _) fun _=>Fin.same _) (Fin.same _)
theorem uv(E:Env):∀ (gs:List bU)(st:St),Fin (gD (call G Ω) Ω E st gs) fun n=>gD (fj G (exec G Ω n)) Ω E st gs
 | [],_=>Fin.same _
 | _::gs,_=>Fin.bind (yL _ _ _) fun _=>uv E gs _
theorem yM(E:Env)(p:bh)(v:St):Fin (fi (call G Ω) Ω E p v) fun n=>fi (fj G (exec G Ω n)) Ω E p v:=
 Fin.ite (Fin.bind (rS _ _ _ _) fun _=>Fin.same _) (Fin.same _)
theorem CK(E:Env)(st:St)(p:bh):Fin (bT (call G Ω) Ω E st p) fun n=>bT (fj G (exec G Ω n)) Ω E st p:=by
 unfold bT
 refine Fin.ite (Fin.bind ?_ fun _=>Fin.same _) (yL _ _ _)
 unfold bS
 split
 ·exact yM _ _ _
 ·exact Fin.bind (Fin.same _) fun _=>Fin.ite (yM _ _ _) (Fin.same _)
theorem yN(E:Env):∀ (gs:List bh)(st:St),Fin (lW (call G Ω) Ω E st gs) fun n=>lW (fj G (exec G Ω n)) Ω E st gs
 | [],_=>Fin.same _
 | _::gs,_=>Fin.bind (CK _ _ _) fun _=>yN E gs _
theorem Ac{k:St→Option (aE×St)}{k':Nat→St→Option (aE×St)}(h:∀ st,Fin (k st) fun n=>k' n st)(r:aE×St) :
  Fin (pv k r) fun n=>pv (k' n) r:=by
 unfold pv
 split
 ·exact h _
 ·exact Fin.same _
theorem Hz{α:Type}{x y:Option α}(h:aI x y)(h':aI y x):x=y:=by
 cases x with
 | none=>cases y with
  | none=>rfl
  | some r=>exact (h' r rfl)
 | some r=>exact (h r rfl).symm
theorem px{E:Env}{c:AC}{st:St}{F:Option (aE×St)}{f:Nat→Option (aE×St)}(h:∀ n,exec G Ω (n+1) E c st=f n)
  (hle:∀ n,aI (f n) F) (hfin:Fin F f):run G Ω E c st=F:=by
 refine Hz (fun r hr=>?_) (fun r hr=>?_)
 ·obtain ⟨n,hn⟩:=l8.1 hr
  cases n with
  | zero=>simp [exec] at hn
  | succ n=>exact hle n r ((h n).symm.trans hn)
 ·obtain ⟨n,hn⟩:=hfin r hr
  exact l8.2 ⟨n+1,(h n).trans (hn n (Nat.le_refl _))⟩
variable (E:Env)(st:St)
theorem DG:run G Ω E .sk st=some (.nrm,st):=l8.2 ⟨1,rfl⟩
theorem DH(id:Nat):run G Ω E (.ex id) st=some (.ex id,st):=l8.2 ⟨1,rfl⟩
theorem DI:run G Ω E .rt st=some (.ret,st):=l8.2 ⟨1,rfl⟩
theorem vv(x y:AC):run G Ω E (.sq x y) st=(run G Ω E x st).bind (pv fun st1=>run G Ω E y st1):=
 px (fun _=>rfl) (fun n=>aI.bind (jP n _ _ _) fun _=>qh (fun _=>jP n _ _ _) _)
  (Fin.bind (j5 _ _ _) fun _=>Ac (fun _=>j5 _ _ _) _)
theorem vz(x:AC):run G Ω E (.lp x) st=(run G Ω E x st).bind (pv fun st1=>run G Ω E (.lp x) st1):=
 px (fun _=>rfl) (fun n=>aI.bind (jP n _ _ _) fun _=>qh (fun _=>jP n _ _ _) _)
  (Fin.bind (j5 _ _ _) fun _=>Ac (fun _=>j5 _ _ _) _)
theorem run_ite(c:aC)(x y:AC):run G Ω E (.ite c x y) st=(oq (st.ev c)).bind fun z=>if z=true then run G Ω E x st else run G Ω E y st:=
 px (fun _=>rfl) (fun n=>aI.bind (aI.refl _) fun _=>aI.ite (jP n _ _ _) (jP n _ _ _))
  (Fin.bind (Fin.same _) fun _=>Fin.ite (j5 _ _ _) (j5 _ _ _))
theorem s5(id:Nat)(x:AC):run G Ω E (.bl id x) st=(run G Ω E x st).bind (inBlock id):=
 px (fun _=>rfl) (fun n=>aI.bind (jP n _ _ _) fun _=>aI.refl _) (Fin.bind (j5 _ _ _) fun _=>Fin.same _)
theorem DJ(pre:List qf)(ops:List bU)(kf kb:List Nat):run G Ω E (.rg pre ops kf kb) st=
  (oX E st pre).bind fun st1=>(gD (call G Ω) Ω E st1 ops).bind fun st2=>some (.nrm,st2.a7 kf kb):=
 px (fun _=>rfl) (fun n=>aI.bind (aI.refl _) fun _=>aI.bind (pw (mH (jP n)) _ _) fun _=>aI.refl _)
  (Fin.bind (Fin.same _) fun _=>Fin.bind (uv _ _ _) fun _=>Fin.same _)
theorem DK(pre:List qf)(mks:List Nat)(ops:List bh)(kf kb:List Nat):run G Ω E (.dg pre mks ops kf kb) st=
  (oX E st pre).bind fun st1=>if (mks.all (pr E.dp st1)&&ops.all (vp E.dp st1))=true then (lW (call G Ω) Ω E st1 ops).bind fun st2=>some (.nrm,st2.a7 kf kb) else none:=
 px (fun _=>rfl) (fun n=>aI.bind (aI.refl _) fun _=>aI.ite (aI.bind (rQ (mH (jP n)) _ _) fun _=>aI.refl _) (aI.refl _))
  (Fin.bind (Fin.same _) fun _=>Fin.ite (Fin.bind (yN _ _ _) fun _=>Fin.same _) (Fin.same _))
theorem rb(kf kb:List Nat)(x:AC):run G Ω E (.kp kf kb x) st=run G Ω E x (st.a7 kf kb):=
 px (fun _=>rfl) (fun n=>jP n _ _ _) (j5 _ _ _)
theorem tS(f:FuncId)(args:List AV)(hp:HP):call G Ω E f args hp=(G f).bind fun fn=>(run G Ω E fn.code ⟨iW 0 args,[],hp⟩).bind fun r=>match r.1 with
  | .ex _=>none
  | _=>(r.2.end_ E fn.res).bind fun x=>some (x,r.2.hp):=rfl
end
structure bC where
 kf:List Nat
 kb:List Nat
 x:AC
def bC.lp(l:bC):AC:=.lp (.kp l.kf l.kb l.x)
noncomputable def wN(G:nC)(Ω:bR)(E:Env)(l:bC)(st:St):Option (aE×St):=run G Ω E l.lp st
theorem yO(fr:List (Nat×AV))(ks:List Nat)(k:Nat)(h:k∈ks):ag (fh fr ks) k=ag fr k:=by
 induction ks with
 | nil=>cases h
 | cons j ks ih=>
  simp only [fh,List.map_cons,ag]
  by_cases hj:j=k
  ·rw [if_pos hj,hj]
  ·rw [if_neg hj]
   exact ih ((List.mem_cons.1 h).resolve_left (fun e=>hj e.symm))
theorem qi(bx:List (Nat×List AV))(ks:List Nat)(k:Nat)(h:k∈ks):an (bG bx ks) k=an bx k:=by
 induction ks with
 | nil=>cases h
 | cons j ks ih=>
  simp only [bG]
  by_cases hj:j=k
  ·subst hj
   cases hb:an bx j with
   | some cs=>simp [an]
   | none=>
    simp only
    by_cases hk:j∈ks
    ·rw [ih hk,hb]
    ·clear ih h
     induction ks with
     | nil=>rfl
     | cons i ks ih2=>
      simp only [bG]
      have hi:i≠j:=fun e=>hk (by rw [e];exact List.mem_cons_self ..)
      have ih3:=ih2 fun hm=>hk (List.mem_cons_of_mem _ hm)
      cases an bx i with
      | some cs=>simp only [an,if_neg hi];exact ih3
      | none=>exact ih3
  ·have hk:=(List.mem_cons.1 h).resolve_left (fun e=>hj e.symm)
   cases hb:an bx j with
   | some cs=>simp only [an,if_neg hj];exact ih hk
   | none=>exact ih hk
theorem DL(st:St)(kf kb:List Nat):(st.a7 kf kb).a7 kf kb=st.a7 kf kb:=by
 have h1:fh (fh st.fr kf) kf=fh st.fr kf:=by
  show kf.map (fun k=>(k,ag (fh st.fr kf) k))=kf.map (fun k=>(k,ag st.fr k))
  exact List.map_congr_left fun k hk=>by rw [yO st.fr kf k hk]
 have h2:∀ ks,(∀ k∈ks,k∈kb)→bG (bG st.bx kb) ks=bG st.bx ks:=by
  intro ks hs
  induction ks with
  | nil=>rfl
  | cons j ks ih=>
   simp only [bG]
   rw [qi st.bx kb j (hs j (List.mem_cons_self ..)),ih fun k hk=>hs k (List.mem_cons_of_mem _ hk)]
 show (⟨fh (fh st.fr kf) kf,bG (bG st.bx kb) kb,st.hp⟩:St)=⟨fh st.fr kf,bG st.bx kb,st.hp⟩
 rw [h1,h2 kb fun _ h=>h]
theorem wO(G:nC)(Ω:bR)(E:Env)(l:bC)(st:St):run G Ω E l.lp st=wN G Ω E l (st.a7 l.kf l.kb):=by
 show run G Ω E (.lp (.kp l.kf l.kb l.x)) st=run G Ω E (.lp (.kp l.kf l.kb l.x)) (st.a7 l.kf l.kb)
 rw [vz,vz,rb,rb,DL]
def kept(l:bC)(r:aE×St):Option St:=
 match r.1 with
 | .nrm=>some (r.2.a7 l.kf l.kb)
 | _=>none
theorem DM{G:nC}{Ω:bR}{E:Env}{l:bC}{st st1:St}(h:(run G Ω E l.x (st.a7 l.kf l.kb)).bind (kept l)=some st1):wN G Ω E l st=wN G Ω E l st1:=by
 obtain ⟨r,h1,h2⟩:=Option.bind_eq_some_iff.1 h
 obtain ⟨e,s⟩:=r
 cases e<;>simp [kept] at h2
 subst h2
 show run G Ω E (.lp (.kp l.kf l.kb l.x)) st=_
 rw [vz,rb,h1,←wO]
 rfl
theorem EG{G:nC}{Ω:bR}{E:Env}{l:bC}{st:St}{r:aE×St}(h:run G Ω E l.x (st.a7 l.kf l.kb)=some r)(hr:r.1≠.nrm):wN G Ω E l st=some r:=by
 show run G Ω E (.lp (.kp l.kf l.kb l.x)) st=_
 rw [vz,rb,h]
 obtain ⟨e,s⟩:=r
 cases e with
 | nrm=>exact absurd rfl hr
 | _=>rfl
theorem wrap64{n:Int}(h1 : -9223372036854775808≤n)(h2:n≤9223372036854775807):IntKind.i64.wrap n=n:=by
 simp [IntKind.wrap,IntKind.bits,IntKind.signed];omega
end Go.Proofs.YtphgedfhcncobaaGreatDoor.A
