/- The abstract run without a bound on its length, and how it goes on: one equation for each command. -/
import Derived.Test.YtkkkkondjclcnaaAbs2
set_option linter.unusedSectionVars false
set_option linter.unusedVariables false
set_option linter.unusedSimpArgs false
set_option linter.constructorNameAsVariable false
namespace Go.Proofs.Ytkkkkondjclcnaa.A
open Go
def aC{α:Type}(x y:Option α):Prop:=∀ r,x=some r→y=some r
theorem aC.refl{α:Type}(x:Option α):aC x x:=fun _ h=>h
theorem aC.bind{α β:Type}{x y:Option α}{f g:α→Option β}(h:aC x y)(hf:∀ a,aC (f a) (g a)):aC (x.bind f) (y.bind g):=by
 intro r hr
 obtain ⟨a,ha,hfa⟩:=Option.bind_eq_some_iff.1 hr
 exact Option.bind_eq_some_iff.2 ⟨a,h a ha,hf a r hfa⟩
theorem aC.ite{α:Type}{c:Prop}[Decidable c]{x y x' y':Option α}(h:aC x x')(h':aC y y'):aC (if c then x else y) (if c then x' else y'):=by
 split
 ·exact h
 ·exact h'
def uY(R R':Rec):Prop:=∀ E f args hp,aC (R E f args hp) (R' E f args hp)
abbrev yi:=Env→AC→St→Option (aE×St)
def ID(X X':yi):Prop:=∀ E c st,aC (X E c st) (X' E c st)
theorem lQ{G:kY}{X X':yi}(h:ID X X'):uY (eM G X) (eM G X'):=fun _ _ _ _=>
 aC.bind (aC.refl _) fun _=>aC.bind (h _ _ _) fun _=>aC.refl _
theorem sF{R R':Rec}(h:uY R R'){Ω:bL}{E:Env}{st:St}{m:Nat}{f:FuncId}{args:List AV} :
  aC (bE R Ω E st m f args) (bE R' Ω E st m f args):=by
 unfold bE
 split
 ·exact aC.bind (aC.refl _) fun _=>aC.bind (h _ _ _ _) fun _=>aC.refl _
 ·exact aC.refl _
 ·exact aC.refl _
theorem uZ{R R':Rec}(h:uY R R'){Ω:bL}{E:Env}{st:St}{f:FuncId}{args:List AV} : aC (cm R Ω E st f args) (cm R' Ω E st f args):=
 aC.ite (sF h)<|aC.ite (aC.bind (h _ _ _ _) fun _=>aC.refl _) (aC.refl _)
theorem u0{R R':Rec}(h:uY R R'){E:Env}{st:St}{f:FuncId}{args:List AV} : aC (iu R E st f args) (iu R' E st f args):=
 aC.ite (aC.bind (h _ _ _ _) fun _=>aC.refl _) (aC.refl _)
theorem Ca{R R':Rec}(h:uY R R'){E:Env}{st:St}{d:Nat}{f:FuncId}{args:List AV} : aC (sT R E st d f args) (sT R' E st d f args):=
 aC.ite (aC.bind (h _ _ _ _) fun _=>aC.refl _) (aC.refl _)
theorem sG{R R':Rec}(h:uY R R'){Ω:bL}{E:Env}{st:St}{d:Option Nat}(o:kv) :
  aC (execOp R Ω E st d o) (execOp R' Ω E st d o):=by
 cases o with
 | ca m f args=>exact sF h
 | cf m x args=>
  simp only [execOp]
  split
  ·exact sF h
  ·exact aC.refl _
 | c2 f args=>exact uZ h
 | d2 x args=>
  simp only [execOp]
  split
  ·exact uZ h
  ·exact aC.refl _
 | cn f args=>exact aC.bind (aC.refl _) fun _=>Ca h
 | ck f args=>exact aC.bind (aC.refl _) fun _=>aC.ite (aC.bind (h _ _ _ _) fun _=>aC.refl _) (aC.refl _)
 | ch f args sl dl ow=>exact aC.ite (aC.bind (h _ _ _ _) fun _=>aC.refl _) (aC.refl _)
 | c3 f args=>exact u0 h
 | d3 x args=>
  simp only [execOp]
  split
  ·exact u0 h
  ·exact aC.refl _
 | _=>exact aC.refl _
theorem yj{R R':Rec}(h:uY R R'){Ω:bL}{E:Env}{st:St}{g:cV} : aC (eL R Ω E st g) (eL R' Ω E st g):=by
 unfold eL
 split
 ·exact aC.bind (sG h _) fun _=>aC.refl _
 ·exact aC.bind (aC.refl _) fun _=>aC.ite (aC.bind (sG h _) fun _=>aC.refl _) (aC.refl _)
theorem qN{R R':Rec}(h:uY R R'){Ω:bL}{E:Env} : ∀ (gs:List cV)(st:St),aC (iv R Ω E st gs) (iv R' Ω E st gs)
 | [],_=>aC.refl _
 | _::gs,_=>aC.bind (yj h) fun _=>qN h gs _
theorem yk{R R':Rec}(h:uY R R'){Ω:bL}{E:Env}{p:aY}{v:St} : aC (fX R Ω E p v) (fX R' Ω E p v):=
 aC.ite (aC.bind (sG h _) fun _=>aC.refl _) (aC.refl _)
theorem DN{R R':Rec}(h:uY R R'){Ω:bL}{E:Env}{st:St}{p:aY} : aC (bT R Ω E st p) (bT R' Ω E st p):=by
 unfold bT
 refine aC.ite (aC.bind ?_ fun _=>aC.refl _) (yj h)
 unfold bS
 split
 ·exact yk h
 ·exact aC.bind (aC.refl _) fun _=>aC.ite (yk h) (aC.refl _)
theorem tP{R R':Rec}(h:uY R R'){Ω:bL}{E:Env} : ∀ (gs:List aY)(st:St),aC (im R Ω E st gs) (im R' Ω E st gs)
 | [],_=>aC.refl _
 | _::gs,_=>aC.bind (DN h) fun _=>tP h gs _
theorem rZ{k k':St→Option (aE×St)}(h:∀ st,aC (k st) (k' st))(r:aE×St):aC (pR k r) (pR k' r):=by
 unfold pR
 split
 ·exact h _
 ·exact aC.refl _
section
variable {G:kY}{Ω:bL}
theorem sH{dp:Nat}{X X':AC→St→Option (aE×St)}(h:∀ c st,aC (X c st) (X' c st)){x:Nat}{y b:AC} : ∀ (ns:List Int)(st:St),aC (rounds dp X x y b ns st) (rounds dp X' x y b ns st)
 | [],_=>aC.refl _
 | n::ns,st=>by
  unfold rounds
  refine aC.ite (aC.bind (h _ _) fun q=>?_) (aC.refl _)
  split
  ·refine aC.bind (h _ _) fun r=>?_
   split
   ·exact sH h ns _
   ·exact aC.refl _
  ·exact aC.refl _
theorem AP:∀ n,ID (exec G Ω n) (exec G Ω (n+1))
 | 0,_,_,_=>fun r hr=>by simp [exec] at hr
 | n+1,E,c,st=>by
  have ih:=AP n
  cases c with
  | sk=>exact aC.refl _
  | ex id=>exact aC.refl _
  | rt=>exact aC.refl _
  | rg pre ops kf kb=>exact aC.bind (aC.refl _) fun _=>aC.bind (qN (lQ ih) _ _) fun _=>aC.refl _
  | dg pre mks ops kf kb=>exact aC.bind (aC.refl _) fun _=>aC.ite (aC.bind (tP (lQ ih) _ _) fun _=>aC.refl _) (aC.refl _)
  | sq x y=>exact aC.bind (ih _ _ _) fun _=>rZ (fun _=>ih _ _ _) _
  | ite c x y=>exact aC.bind (aC.refl _) fun _=>aC.ite (ih _ _ _) (ih _ _ _)
  | bl id x=>exact aC.bind (ih _ _ _) fun _=>aC.refl _
  | lp x=>exact aC.bind (ih _ _ _) fun _=>rZ (fun _=>ih _ _ _) _
  | kp kf kb x=>exact ih _ _ _
  | bad=>exact aC.refl _
  | ru g x y b=>exact aC.ite (aC.refl _) (aC.bind (aC.refl _) fun ns=>sH (fun c st=>ih _ c st) ns st)
theorem zE{n m:Nat}(h:n≤m):ID (exec G Ω n) (exec G Ω m):=by
 induction h with
 | refl=>exact fun _ _ _ _ h=>h
 | step _ ih=>exact fun E c st r hr=>AP _ E c st r (ih E c st r hr)
noncomputable def run(G:kY)(Ω:bL):yi:=fun E c st=>
 open Classical in if h:∃ n,(exec G Ω n E c st).isSome=true then exec G Ω (Classical.choose h) E c st else none
theorem nH{E:Env}{c:AC}{st:St}{r:aE×St} : run G Ω E c st=some r↔∃ n,exec G Ω n E c st=some r:=by
 constructor
 ·intro h
  unfold run at h
  split at h
  ·exact ⟨_,h⟩
  ·cases h
 ·rintro ⟨n,h⟩
  have hex:∃ n,(exec G Ω n E c st).isSome=true:=⟨n,by rw [h];rfl⟩
  unfold run
  rw [dif_pos hex]
  have hc:=Classical.choose_spec hex
  obtain ⟨r',hr'⟩:=Option.isSome_iff_exists.1 hc
  rw [hr']
  have h1:=zE (Nat.le_max_left n (Classical.choose hex)) E c st r h
  have h2:=zE (Nat.le_max_right n (Classical.choose hex)) E c st r' hr'
  rw [h1] at h2
  exact h2.symm
theorem iF(n:Nat):ID (exec G Ω n) (run G Ω):=fun _ _ _ _ h=>nH.2 ⟨n,h⟩
noncomputable def call(G:kY)(Ω:bL):Rec:=eM G (run G Ω)
def Fin{α:Type}(x:Option α)(y:Nat→Option α):Prop:=∀ r,x=some r→∃ n,∀ m,n≤m→y m=some r
theorem Fin.same{α:Type}(x:Option α):Fin x fun _=>x:=fun _ h=>⟨0,fun _ _=>h⟩
theorem Fin.bind{α β:Type}{x:Option α}{y:Nat→Option α}{f:α→Option β}{g:Nat→α→Option β}(h:Fin x y)(hf:∀ a,Fin (f a) fun n=>g n a) :
  Fin (x.bind f) fun n=>(y n).bind (g n):=by
 intro r hr
 obtain ⟨a,ha,hfa⟩:=Option.bind_eq_some_iff.1 hr
 obtain ⟨n,hn⟩:=h a ha
 obtain ⟨m,hm⟩:=hf a r hfa
 exact ⟨max n m,fun k hk=>Option.bind_eq_some_iff.2 ⟨a,hn k (by omega),hm k (by omega)⟩⟩
theorem Fin.ite{α:Type}{c:Prop}[Decidable c]{x x':Option α}{y y':Nat→Option α}(h:Fin x y)(h':Fin x' y'):Fin (if c then x else x') fun n=>if c then y n else y' n:=by
 split
 ·exact h
 ·exact h'
theorem je(E:Env)(c:AC)(st:St):Fin (run G Ω E c st) fun n=>exec G Ω n E c st:=by
 intro r hr
 obtain ⟨n,hn⟩:=nH.1 hr
 exact ⟨n,fun m hm=>zE hm _ _ _ _ hn⟩
theorem iV(E:Env)(f:FuncId)(args:List AV)(hp:HP):Fin (call G Ω E f args hp) fun n=>eM G (exec G Ω n) E f args hp:=
 Fin.bind (Fin.same _) fun _=>Fin.bind (je _ _ _) fun _=>Fin.same _
theorem tQ(E:Env)(st:St)(m:Nat)(f:FuncId)(args:List AV) :
  Fin (bE (call G Ω) Ω E st m f args) fun n=>bE (eM G (exec G Ω n)) Ω E st m f args:=by
 unfold bE
 split
 ·exact Fin.bind (Fin.same _) fun _=>Fin.bind (iV _ _ _ _) fun _=>Fin.same _
 ·exact Fin.same _
 ·exact Fin.same _
theorem wP(E:Env)(st:St)(f:FuncId)(args:List AV):Fin (cm (call G Ω) Ω E st f args) fun n=>cm (eM G (exec G Ω n)) Ω E st f args:=
 Fin.ite (tQ _ _ _ _ _)<|Fin.ite (Fin.bind (iV _ _ _ _) fun _=>Fin.same _) (Fin.same _)
theorem tR(E:Env)(st:St)(d:Option Nat)(o:kv) :
  Fin (execOp (call G Ω) Ω E st d o) fun n=>execOp (eM G (exec G Ω n)) Ω E st d o:=by
 cases o with
 | ca m f args=>exact tQ _ _ _ _ _
 | cf m x args=>
  simp only [execOp]
  split
  ·exact tQ _ _ _ _ _
  ·exact Fin.same _
 | c2 f args=>exact wP _ _ _ _
 | d2 x args=>
  simp only [execOp]
  split
  ·exact wP _ _ _ _
  ·exact Fin.same _
 | c3 f args=>exact Fin.ite (Fin.bind (iV _ _ _ _) fun _=>Fin.same _) (Fin.same _)
 | d3 x args=>
  simp only [execOp]
  split
  ·exact Fin.ite (Fin.bind (iV _ _ _ _) fun _=>Fin.same _) (Fin.same _)
  ·exact Fin.same _
 | cn f args=>exact Fin.bind (Fin.same _) fun _=>Fin.ite (Fin.bind (iV _ _ _ _) fun _=>Fin.same _) (Fin.same _)
 | ck f args=>exact Fin.bind (Fin.same _) fun _=>Fin.ite (Fin.bind (iV _ _ _ _) fun _=>Fin.same _) (Fin.same _)
 | ch f args sl dl ow=>exact Fin.ite (Fin.bind (iV _ _ _ _) fun _=>Fin.same _) (Fin.same _)
 | _=>exact Fin.same _
theorem AQ(E:Env)(st:St)(g:cV):Fin (eL (call G Ω) Ω E st g) fun n=>eL (eM G (exec G Ω n)) Ω E st g:=by
 unfold eL
 split
 ·exact Fin.bind (tR _ _ _ _) fun _=>Fin.same _
 ·exact Fin.bind (Fin.same _) fun _=>Fin.ite (Fin.bind (tR _ _ _ _) fun _=>Fin.same _) (Fin.same _)
theorem wQ(E:Env):∀ (gs:List cV)(st:St),Fin (iv (call G Ω) Ω E st gs) fun n=>iv (eM G (exec G Ω n)) Ω E st gs
 | [],_=>Fin.same _
 | _::gs,_=>Fin.bind (AQ _ _ _) fun _=>wQ E gs _
theorem AR(E:Env)(p:aY)(v:St):Fin (fX (call G Ω) Ω E p v) fun n=>fX (eM G (exec G Ω n)) Ω E p v:=
 Fin.ite (Fin.bind (tR _ _ _ _) fun _=>Fin.same _) (Fin.same _)
theorem Fg(E:Env)(st:St)(p:aY):Fin (bT (call G Ω) Ω E st p) fun n=>bT (eM G (exec G Ω n)) Ω E st p:=by
 unfold bT
 refine Fin.ite (Fin.bind ?_ fun _=>Fin.same _) (AQ _ _ _)
 unfold bS
 split
 ·exact AR _ _ _
 ·exact Fin.bind (Fin.same _) fun _=>Fin.ite (AR _ _ _) (Fin.same _)
theorem AS(E:Env):∀ (gs:List aY)(st:St),Fin (im (call G Ω) Ω E st gs) fun n=>im (eM G (exec G Ω n)) Ω E st gs
 | [],_=>Fin.same _
 | _::gs,_=>Fin.bind (Fg _ _ _) fun _=>AS E gs _
theorem Cb{k:St→Option (aE×St)}{k':Nat→St→Option (aE×St)}(h:∀ st,Fin (k st) fun n=>k' n st)(r:aE×St) :
  Fin (pR k r) fun n=>pR (k' n) r:=by
 unfold pR
 split
 ·exact h _
 ·exact Fin.same _
theorem KR{α:Type}{x y:Option α}(h:aC x y)(h':aC y x):x=y:=by
 cases x with
 | none=>cases y with
  | none=>rfl
  | some r=>exact (h' r rfl)
 | some r=>exact (h r rfl).symm
theorem pw{E:Env}{c:AC}{st:St}{F:Option (aE×St)}{f:Nat→Option (aE×St)}(h:∀ n,exec G Ω (n+1) E c st=f n)
  (hle:∀ n,aC (f n) F) (hfin:Fin F f):run G Ω E c st=F:=by
 refine KR (fun r hr=>?_) (fun r hr=>?_)
 ·obtain ⟨n,hn⟩:=nH.1 hr
  cases n with
  | zero=>simp [exec] at hn
  | succ n=>exact hle n r ((h n).symm.trans hn)
 ·obtain ⟨n,hn⟩:=hfin r hr
  exact nH.2 ⟨n+1,(h n).trans (hn n (Nat.le_refl _))⟩
variable (E:Env)(st:St)
theorem db:run G Ω E .sk st=some (.nrm,st):=nH.2 ⟨1,rfl⟩
theorem gK(id:Nat):run G Ω E (.ex id) st=some (.ex id,st):=nH.2 ⟨1,rfl⟩
theorem jR:run G Ω E .rt st=some (.ret,st):=nH.2 ⟨1,rfl⟩
theorem px(x y:AC):run G Ω E (.sq x y) st=(run G Ω E x st).bind (pR fun st1=>run G Ω E y st1):=
 pw (fun _=>rfl) (fun n=>aC.bind (iF n _ _ _) fun _=>rZ (fun _=>iF n _ _ _) _)
  (Fin.bind (je _ _ _) fun _=>Cb (fun _=>je _ _ _) _)
theorem yl(x:AC):run G Ω E (.lp x) st=(run G Ω E x st).bind (pR fun st1=>run G Ω E (.lp x) st1):=
 pw (fun _=>rfl) (fun n=>aC.bind (iF n _ _ _) fun _=>rZ (fun _=>iF n _ _ _) _)
  (Fin.bind (je _ _ _) fun _=>Cb (fun _=>je _ _ _) _)
theorem run_ite(c:aA)(x y:AC):run G Ω E (.ite c x y) st=(nQ (st.ev c)).bind fun z=>if z=true then run G Ω E x st else run G Ω E y st:=
 pw (fun _=>rfl) (fun n=>aC.bind (aC.refl _) fun _=>aC.ite (iF n _ _ _) (iF n _ _ _))
  (Fin.bind (Fin.same _) fun _=>Fin.ite (je _ _ _) (je _ _ _))
theorem oc(id:Nat)(x:AC):run G Ω E (.bl id x) st=(run G Ω E x st).bind (inBlock id):=
 pw (fun _=>rfl) (fun n=>aC.bind (iF n _ _ _) fun _=>aC.refl _) (Fin.bind (je _ _ _) fun _=>Fin.same _)
theorem ym(pre:List qJ)(ops:List cV)(kf kb:List Nat):run G Ω E (.rg pre ops kf kb) st=
  (pa E st pre).bind fun st1=>(iv (call G Ω) Ω E st1 ops).bind fun st2=>some (.nrm,st2.aD kf kb):=
 pw (fun _=>rfl) (fun n=>aC.bind (aC.refl _) fun _=>aC.bind (qN (lQ (iF n)) _ _) fun _=>aC.refl _)
  (Fin.bind (Fin.same _) fun _=>Fin.bind (wQ _ _ _) fun _=>Fin.same _)
theorem Cc(pre:List qJ)(mks:List Nat)(ops:List aY)(kf kb:List Nat):run G Ω E (.dg pre mks ops kf kb) st=
  (pa E st pre).bind fun st1=>if (mks.all (ob E.dp st1)&&ops.all (kx E.dp st1))=true then (im (call G Ω) Ω E st1 ops).bind fun st2=>some (.nrm,st2.aD kf kb) else none:=
 pw (fun _=>rfl) (fun n=>aC.bind (aC.refl _) fun _=>aC.ite (aC.bind (tP (lQ (iF n)) _ _) fun _=>aC.refl _) (aC.refl _))
  (Fin.bind (Fin.same _) fun _=>Fin.ite (Fin.bind (AS _ _ _) fun _=>Fin.same _) (Fin.same _))
theorem iG(kf kb:List Nat)(x:AC):run G Ω E (.kp kf kb x) st=run G Ω E x (st.aD kf kb):=
 pw (fun _=>rfl) (fun n=>iF n _ _ _) (je _ _ _)
theorem nS(f:FuncId)(args:List AV)(hp:HP):call G Ω E f args hp=(G f).bind fun fn=>(run G Ω E fn.code ⟨iq 0 args,[],hp⟩).bind fun r=>match r.1 with
  | .ex _=>none
  | _=>(r.2.end_ E fn.res).bind fun x=>some (x,r.2.hp):=rfl
end
structure bm where
 kf:List Nat
 kb:List Nat
 x:AC
def bm.lp(l:bm):AC:=.lp (.kp l.kf l.kb l.x)
noncomputable def mI(G:kY)(Ω:bL)(E:Env)(l:bm)(st:St):Option (aE×St):=run G Ω E l.lp st
theorem AU(fr:List (Nat×AV))(ks:List Nat)(k:Nat)(h:k∈ks):af (fW fr ks) k=af fr k:=by
 induction ks with
 | nil=>cases h
 | cons j ks ih=>
  simp only [fW,List.map_cons,af]
  by_cases hj:j=k
  ·rw [if_pos hj,hj]
  ·rw [if_neg hj]
   exact ih ((List.mem_cons.1 h).resolve_left (fun e=>hj e.symm))
theorem sa(bx:List (Nat×List AV))(ks:List Nat)(k:Nat)(h:k∈ks):aq (bA bx ks) k=aq bx k:=by
 induction ks with
 | nil=>cases h
 | cons j ks ih=>
  simp only [bA]
  by_cases hj:j=k
  ·subst hj
   cases hb:aq bx j with
   | some cs=>simp [aq]
   | none=>
    simp only
    by_cases hk:j∈ks
    ·rw [ih hk,hb]
    ·clear ih h
     induction ks with
     | nil=>rfl
     | cons i ks ih2=>
      simp only [bA]
      have hi:i≠j:=fun e=>hk (by rw [e];exact List.mem_cons_self ..)
      have ih3:=ih2 fun hm=>hk (List.mem_cons_of_mem _ hm)
      cases aq bx i with
      | some cs=>simp only [aq,if_neg hi];exact ih3
      | none=>exact ih3
  ·have hk:=(List.mem_cons.1 h).resolve_left (fun e=>hj e.symm)
   cases hb:aq bx j with
   | some cs=>simp only [aq,if_neg hj];exact ih hk
   | none=>exact ih hk
theorem F8(st:St)(kf kb:List Nat):(st.aD kf kb).aD kf kb=st.aD kf kb:=by
 have h1:fW (fW st.fr kf) kf=fW st.fr kf:=by
  show kf.map (fun k=>(k,af (fW st.fr kf) k))=kf.map (fun k=>(k,af st.fr k))
  exact List.map_congr_left fun k hk=>by rw [AU st.fr kf k hk]
 have h2:∀ ks,(∀ k∈ks,k∈kb)→bA (bA st.bx kb) ks=bA st.bx ks:=by
  intro ks hs
  induction ks with
  | nil=>rfl
  | cons j ks ih=>
   simp only [bA]
   rw [sa st.bx kb j (hs j (List.mem_cons_self ..)),ih fun k hk=>hs k (List.mem_cons_of_mem _ hk)]
 show (⟨fW (fW st.fr kf) kf,bA (bA st.bx kb) kb,st.hp⟩:St)=⟨fW st.fr kf,bA st.bx kb,st.hp⟩
 rw [h1,h2 kb fun _ h=>h]
theorem iw(G:kY)(Ω:bL)(E:Env)(l:bm)(st:St):run G Ω E l.lp st=mI G Ω E l (st.aD l.kf l.kb):=by
 show run G Ω E (.lp (.kp l.kf l.kb l.x)) st=run G Ω E (.lp (.kp l.kf l.kb l.x)) (st.aD l.kf l.kb)
 rw [yl,yl,iG,iG,F8]
def kept(l:bm)(r:aE×St):Option St:=
 match r.1 with
 | .nrm=>some (r.2.aD l.kf l.kb)
 | _=>none
theorem gq{G:kY}{Ω:bL}{E:Env}{l:bm}{st st1:St}(h:(run G Ω E l.x (st.aD l.kf l.kb)).bind (kept l)=some st1):mI G Ω E l st=mI G Ω E l st1:=by
 obtain ⟨r,h1,h2⟩:=Option.bind_eq_some_iff.1 h
 obtain ⟨e,s⟩:=r
 cases e<;>simp [kept] at h2
 subst h2
 show run G Ω E (.lp (.kp l.kf l.kb l.x)) st=_
 rw [yl,iG,h1,←iw]
 rfl
theorem iW{G:kY}{Ω:bL}{E:Env}{l:bm}{st:St}{r:aE×St}(h:run G Ω E l.x (st.aD l.kf l.kb)=some r)(hr:r.1≠.nrm):mI G Ω E l st=some r:=by
 show run G Ω E (.lp (.kp l.kf l.kb l.x)) st=_
 rw [yl,iG,h]
 obtain ⟨e,s⟩:=r
 cases e with
 | nrm=>exact absurd rfl hr
 | _=>rfl
theorem wrap64{n:Int}(h1 : -9223372036854775808≤n)(h2:n≤9223372036854775807):IntKind.i64.wrap n=n:=by
 simp [IntKind.wrap,IntKind.bits,IntKind.signed];omega
end Go.Proofs.Ytkkkkondjclcnaa.A
