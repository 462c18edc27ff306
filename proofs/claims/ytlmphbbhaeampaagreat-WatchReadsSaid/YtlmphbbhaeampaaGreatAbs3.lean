/- The abstract run without a bound on its length, and how it goes on: one equation for each command. -/
import Derived.Test.YtlmphbbhaeampaaGreatAbs2
set_option linter.all false
namespace Go.Proofs.YtlmphbbhaeampaaGreat.A
open Go
def bD{α:Type}(x y:Option α):Prop:=∀ r,x=some r→y=some r
variable {α:Type}
theorem bD.refl(x:Option α):bD x x:=fun _ h=>h
variable {β:Type}{x y:Option α}
theorem bD.bind{f g:α→Option β}(h:bD x y)(hf:∀ a,bD (f a) (g a)):bD (x.bind f) (y.bind g):=by
 intro r hr
 obtain ⟨a,ha,u⟩:=aj.1 hr
 exact aj.2 ⟨a,h a ha,hf a r u⟩
variable {c:Prop}{x':Option α}
theorem bD.ite[Decidable c]{y':Option α}(h:bD x x')(h':bD y y'):bD (if c then x else y) (if c then x' else y'):=by
 split
 ·exact h
 ·exact h'
def DH(R R':Rec):Prop:=∀ E f args hp,bD (R E f args hp) (R' E f args hp)
abbrev aU:=Env→AC→St→Option (bh×St)
def UW(X X':aU):Prop:=∀ E c st,bD (X E c st) (X' E c st)
theorem rh{G:qG}{X X':aU}(h:UW X X'):DH (jM G X) (jM G X'):=fun _ _ _ _=>
 bD.bind (bD.refl _) fun _=>bD.bind (h _ _ _) fun _=>bD.refl _
variable {R R':Rec}{m:Nat}{f:FuncId}{args:List AV}
theorem As(h:DH R R'){Ω:dK}{E:Env}{st:St}:
  bD (dj R Ω E st m f args) (dj R' Ω E st m f args):=by
 unfold dj
 split
 ·exact bD.bind (bD.refl _) fun _=>bD.bind (h _ _ _ _) fun _=>bD.refl _
 ·exact bD.refl _
 ·exact bD.refl _
theorem yh(h:DH R R'){Ω:dK}{E:Env}{st:St}: bD (dz R Ω E st f args) (dz R' Ω E st f args):=
 bD.ite (As h)<|bD.ite (bD.bind (h _ _ _ _) fun _=>bD.refl _) (bD.refl _)
theorem DI(h:DH R R'){E:Env}{st:St}: bD (kd R E st f args) (kd R' E st f args):=
 bD.ite (bD.bind (h _ _ _ _) fun _=>bD.refl _) (bD.refl _)
theorem Lr(h:DH R R'){E:Env}{st:St}{d:Nat}: bD (AY R E st d f args) (AY R' E st d f args):=
 bD.ite (bD.bind (h _ _ _ _) fun _=>bD.refl _) (bD.refl _)
theorem Au(h:DH R R'){Ω:dK}{E:Env}{st:St}{d:Option Nat}(o:pC):
  bD (execOp R Ω E st d o) (execOp R' Ω E st d o):=by
 cases o with
 | ca m f args=>exact As h
 | cf m x args=>
  simp only [execOp]
  split
  ·exact bD.ite (As h) (bD.refl _)
  ·exact bD.refl _
 | c2 f args=>exact yh h
 | d2 x args=>
  simp only [execOp]
  split
  ·exact bD.ite (yh h) (yh h)
  ·exact bD.refl _
 | cn f args=>exact bD.bind (bD.refl _) fun _=>Lr h
 | ck f args=>exact bD.bind (bD.refl _) fun _=>bD.ite (bD.bind (h _ _ _ _) fun _=>bD.refl _) (bD.refl _)
 | c3 f args=>exact DI h
 | d3 x args=>
  simp only [execOp]
  split
  ·exact bD.ite (DI h) (bD.refl _)
  ·exact bD.refl _
 | _=>exact bD.refl _
theorem GU(h:DH R R'){Ω:dK}{E:Env}{st:St}{g:dx}: bD (ix R Ω E st g) (ix R' Ω E st g):=by
 unfold ix
 split
 ·exact bD.bind (Au h _) fun _=>bD.refl _
 ·exact bD.bind (bD.refl _) fun _=>bD.ite (bD.bind (Au h _) fun _=>bD.refl _) (bD.refl _)
theorem yj{R R':Rec}(h:DH R R'){Ω:dK}{E:Env} : ∀ (gs:List dx)(st:St),bD (iL R Ω E st gs) (iL R' Ω E st gs)
 | [],_=>bD.refl _
 | _::gs,_=>bD.bind (GU h) fun _=>yj h gs _
variable {p:bR}
theorem GV(h:DH R R'){Ω:dK}{E:Env}{v:St}: bD (jL R Ω E p v) (jL R' Ω E p v):=
 bD.ite (bD.bind (Au h _) fun _=>bD.refl _) (bD.refl _)
theorem NG(h:DH R R'){Ω:dK}{E:Env}{st:St}: bD (eH R Ω E st p) (eH R' Ω E st p):=by
 unfold eH
 refine bD.ite (bD.bind ?_ fun _=>bD.refl _) (GU h)
 unfold eG
 split
 ·exact GV h
 ·exact bD.bind (bD.refl _) fun _=>bD.ite (GV h) (bD.refl _)
theorem BW{R R':Rec}(h:DH R R'){Ω:dK}{E:Env} : ∀ (gs:List bR)(st:St),bD (kM R Ω E st gs) (kM R' Ω E st gs)
 | [],_=>bD.refl _
 | _::gs,_=>bD.bind (NG h) fun _=>BW h gs _
variable {k:St→Option (bh×St)}
theorem zO{k':St→Option (bh×St)}(h:∀ st,bD (k st) (k' st))(r:bh×St):bD (pU k r) (pU k' r):=by
 unfold pU
 split
 ·exact h _
 ·exact bD.refl _
section
variable {G:qG}{Ω:dK}
theorem Av{dp:Nat}{X X':AC→St→Option (bh×St)}(h:∀ c st,bD (X c st) (X' c st)){x:Nat}{y b:AC} : ∀ (ns:List Int)(st:St),bD (rounds dp X x y b ns st) (rounds dp X' x y b ns st)
 | [],_=>bD.refl _
 | n::ns,st=>by
  unfold rounds
  refine bD.ite (bD.bind (h _ _) fun q=>?_) (bD.refl _)
  split
  ·refine bD.bind (h _ _) fun r=>?_
   split
   ·exact Av h ns _
   ·exact bD.refl _
  ·exact bD.refl _
theorem JM:∀ n,UW (exec G Ω n) (exec G Ω (n+1))
 | 0,_,_,_=>fun r hr=>by simp [exec] at hr
 | n+1,E,c,st=>by
  have ih:=JM n
  cases c with
  | sk=>exact bD.refl _
  | ex id=>exact bD.refl _
  | rt=>exact bD.refl _
  | rg pre ops kf kb=>exact bD.bind (bD.refl _) fun _=>bD.bind (yj (rh ih) _ _) fun _=>bD.refl _
  | dg pre mks ops kf kb=>exact bD.bind (bD.refl _) fun _=>bD.ite (bD.bind (BW (rh ih) _ _) fun _=>bD.refl _) (bD.refl _)
  | sq x y=>exact bD.bind (ih _ _ _) fun _=>zO (fun _=>ih _ _ _) _
  | ite c x y=>exact bD.bind (bD.refl _) fun _=>bD.ite (ih _ _ _) (ih _ _ _)
  | bl id x=>exact bD.bind (ih _ _ _) fun _=>bD.refl _
  | lp x=>exact bD.bind (ih _ _ _) fun _=>zO (fun _=>ih _ _ _) _
  | kp kf kb x=>exact ih _ _ _
  | bad=>exact bD.refl _
  | ru g x y b=>exact bD.ite (bD.refl _) (bD.bind (bD.refl _) fun ns=>Av (fun c st=>ih _ c st) ns st)
theorem Iy{n:Nat}(h:n≤m):UW (exec G Ω n) (exec G Ω m):=by
 induction h with
 | refl=>exact fun _ _ _ _ h=>h
 | step _ ih=>exact fun E c st r hr=>JM _ E c st r (ih E c st r hr)
noncomputable def run(G:qG)(Ω:dK):aU:=fun E c st=>
 open Classical in if h:∃ n,(exec G Ω n E c st).isSome=true then exec G Ω (Classical.choose h) E c st else none
theorem sV{E:Env}{c:AC}{st:St}{r:bh×St} : run G Ω E c st=some r↔∃ n,exec G Ω n E c st=some r:=by
 constructor
 ·intro h
  unfold run at h
  split at h
  ·exact ⟨_,h⟩
  ·cases h
 ·rintro ⟨n,h⟩
  have hex:∃ n,(exec G Ω n E c st).isSome=true:=⟨n,by rw [h];rfl⟩
  unfold run
  rw [dif_pos hex]
  have hc:=Dj hex
  obtain ⟨r',w⟩:=je.1 hc
  rw [w]
  have h1:=Iy (Dk n (Classical.choose hex)) E c st r h
  have h2:=Iy (Dl n (Classical.choose hex)) E c st r' w
  rw [h1] at h2
  exact h2.symm
theorem np(n:Nat):UW (exec G Ω n) (run G Ω):=fun _ _ _ _ h=>sV.2 ⟨n,h⟩
noncomputable def call(G:qG)(Ω:dK):Rec:=jM G (run G Ω)
def Fin{α:Type}(x:Option α)(y:Nat→Option α):Prop:=∀ r,x=some r→∃ n,∀ m,n≤m→y m=some r
theorem Fin.same(x:Option α):Fin x fun _=>x:=fun _ h=>⟨0,fun _ _=>h⟩
theorem Fin.bind{y:Nat→Option α}{f:α→Option β}{g:Nat→α→Option β}(h:Fin x y)(hf:∀ a,Fin (f a) fun n=>g n a):
  Fin (x.bind f) fun n=>(y n).bind (g n):=by
 intro r hr
 obtain ⟨a,ha,u⟩:=aj.1 hr
 obtain ⟨n,hn⟩:=h a ha
 obtain ⟨m,hm⟩:=hf a r u
 exact ⟨max n m,fun k hk=>aj.2 ⟨a,hn k (by omega),hm k (by omega)⟩⟩
theorem Fin.ite[Decidable c]{y y':Nat→Option α}(h:Fin x y)(h':Fin x' y'):Fin (if c then x else x') fun n=>if c then y n else y' n:=by
 split
 ·exact h
 ·exact h'
theorem oi(E:Env)(c:AC)(st:St):Fin (run G Ω E c st) fun n=>exec G Ω n E c st:=by
 intro r hr
 obtain ⟨n,hn⟩:=sV.1 hr
 exact ⟨n,fun m hm=>Iy hm _ _ _ _ hn⟩
theorem pf(E:Env)(f:FuncId)(args:List AV)(hp:HP):Fin (call G Ω E f args hp) fun n=>jM G (exec G Ω n) E f args hp:=
 Fin.bind (Fin.same _) fun _=>Fin.bind (oi _ _ _) fun _=>Fin.same _
theorem BX(E:Env)(st:St)(m:Nat)(f:FuncId)(args:List AV) :
  Fin (dj (call G Ω) Ω E st m f args) fun n=>dj (jM G (exec G Ω n)) Ω E st m f args:=by
 unfold dj
 split
 ·exact Fin.bind (Fin.same _) fun _=>Fin.bind (pf _ _ _ _) fun _=>Fin.same _
 ·exact Fin.same _
 ·exact Fin.same _
theorem Aw(E:Env)(st:St)(f:FuncId)(args:List AV):Fin (dz (call G Ω) Ω E st f args) fun n=>dz (jM G (exec G Ω n)) Ω E st f args:=
 Fin.ite (BX _ _ _ _ _)<|Fin.ite (Fin.bind (pf _ _ _ _) fun _=>Fin.same _) (Fin.same _)
theorem BY(E:Env)(st:St)(d:Option Nat)(o:pC) :
  Fin (execOp (call G Ω) Ω E st d o) fun n=>execOp (jM G (exec G Ω n)) Ω E st d o:=by
 cases o with
 | ca m f args=>exact BX _ _ _ _ _
 | cf m x args=>
  simp only [execOp]
  split
  ·exact Fin.ite (BX _ _ _ _ _) (Fin.same _)
  ·exact Fin.same _
 | c2 f args=>exact Aw _ _ _ _
 | d2 x args=>
  simp only [execOp]
  split
  ·exact Fin.ite (Aw _ _ _ _) (Aw _ _ _ _)
  ·exact Fin.same _
 | c3 f args=>exact Fin.ite (Fin.bind (pf _ _ _ _) fun _=>Fin.same _) (Fin.same _)
 | d3 x args=>
  simp only [execOp]
  split
  ·exact Fin.ite (Fin.ite (Fin.bind (pf _ _ _ _) fun _=>Fin.same _) (Fin.same _)) (Fin.same _)
  ·exact Fin.same _
 | cn f args=>exact Fin.bind (Fin.same _) fun _=>Fin.ite (Fin.bind (pf _ _ _ _) fun _=>Fin.same _) (Fin.same _)
 | ck f args=>exact Fin.bind (Fin.same _) fun _=>Fin.ite (Fin.bind (pf _ _ _ _) fun _=>Fin.same _) (Fin.same _)
 | _=>exact Fin.same _
theorem JN(E:Env)(st:St)(g:dx):Fin (ix (call G Ω) Ω E st g) fun n=>ix (jM G (exec G Ω n)) Ω E st g:=by
 unfold ix
 split
 ·exact Fin.bind (BY _ _ _ _) fun _=>Fin.same _
 ·exact Fin.bind (Fin.same _) fun _=>Fin.ite (Fin.bind (BY _ _ _ _) fun _=>Fin.same _) (Fin.same _)
theorem Fx(E:Env):∀ (gs:List dx)(st:St),Fin (iL (call G Ω) Ω E st gs) fun n=>iL (jM G (exec G Ω n)) Ω E st gs
 | [],_=>Fin.same _
 | _::gs,_=>Fin.bind (JN _ _ _) fun _=>Fx E gs _
theorem JO(E:Env)(p:bR)(v:St):Fin (jL (call G Ω) Ω E p v) fun n=>jL (jM G (exec G Ω n)) Ω E p v:=
 Fin.ite (Fin.bind (BY _ _ _ _) fun _=>Fin.same _) (Fin.same _)
theorem PF(E:Env)(st:St)(p:bR):Fin (eH (call G Ω) Ω E st p) fun n=>eH (jM G (exec G Ω n)) Ω E st p:=by
 unfold eH
 refine Fin.ite (Fin.bind ?_ fun _=>Fin.same _) (JN _ _ _)
 unfold eG
 split
 ·exact JO _ _ _
 ·exact Fin.bind (Fin.same _) fun _=>Fin.ite (JO _ _ _) (Fin.same _)
theorem JP(E:Env):∀ (gs:List bR)(st:St),Fin (kM (call G Ω) Ω E st gs) fun n=>kM (jM G (exec G Ω n)) Ω E st gs
 | [],_=>Fin.same _
 | _::gs,_=>Fin.bind (PF _ _ _) fun _=>JP E gs _
theorem Ls{k':Nat→St→Option (bh×St)}(h:∀ st,Fin (k st) fun n=>k' n st)(r:bh×St):
  Fin (pU k r) fun n=>pU (k' n) r:=by
 unfold pU
 split
 ·exact h _
 ·exact Fin.same _
theorem WT(h:bD x y)(h':bD y x):x=y:=by
 cases x with
 | none=>cases y with
  | none=>rfl
  | some r=>exact (h' r rfl)
 | some r=>exact (h r rfl).symm
theorem wB{E:Env}{c:AC}{st:St}{F:Option (bh×St)}{f:Nat→Option (bh×St)}(h:∀ n,exec G Ω (n+1) E c st=f n)
  (hle:∀ n,bD (f n) F) (t:Fin F f):run G Ω E c st=F:=by
 refine WT (fun r hr=>?_) (fun r hr=>?_)
 ·obtain ⟨n,hn⟩:=sV.1 hr
  cases n with
  | zero=>simp [exec] at hn
  | succ n=>exact hle n r ((h n).symm.trans hn)
 ·obtain ⟨n,hn⟩:=t r hr
  exact sV.2 ⟨n+1,(h n).trans (hn n (aY _))⟩
variable (E:Env)(st:St)
theorem eo:run G Ω E .sk st=some (.nrm,st):=sV.2 ⟨1,rfl⟩
theorem mw(id:Nat):run G Ω E (.ex id) st=some (.ex id,st):=sV.2 ⟨1,rfl⟩
theorem iN:run G Ω E .rt st=some (.ret,st):=sV.2 ⟨1,rfl⟩
theorem nq(x y:AC):run G Ω E (.sq x y) st=(run G Ω E x st).bind (pU fun st1=>run G Ω E y st1):=
 wB (fun _=>rfl) (fun n=>bD.bind (np n _ _ _) fun _=>zO (fun _=>np n _ _ _) _)
  (Fin.bind (oi _ _ _) fun _=>Ls (fun _=>oi _ _ _) _)
theorem GW(x:AC):run G Ω E (.lp x) st=(run G Ω E x st).bind (pU fun st1=>run G Ω E (.lp x) st1):=
 wB (fun _=>rfl) (fun n=>bD.bind (np n _ _ _) fun _=>zO (fun _=>np n _ _ _) _)
  (Fin.bind (oi _ _ _) fun _=>Ls (fun _=>oi _ _ _) _)
theorem run_ite(c:bz)(x y:AC):run G Ω E (.ite c x y) st=(pB (st.ev c)).bind fun z=>if z=true then run G Ω E x st else run G Ω E y st:=
 wB (fun _=>rfl) (fun n=>bD.bind (bD.refl _) fun _=>bD.ite (np n _ _ _) (np n _ _ _))
  (Fin.bind (Fin.same _) fun _=>Fin.ite (oi _ _ _) (oi _ _ _))
theorem qI(id:Nat)(x:AC):run G Ω E (.bl id x) st=(run G Ω E x st).bind (inBlock id):=
 wB (fun _=>rfl) (fun n=>bD.bind (np n _ _ _) fun _=>bD.refl _) (Fin.bind (oi _ _ _) fun _=>Fin.same _)
theorem yk(pre:List wy)(ops:List dx)(kf kb:List Nat):run G Ω E (.rg pre ops kf kb) st=
  (sw E st pre).bind fun st1=>(iL (call G Ω) Ω E st1 ops).bind fun st2=>some (.nrm,st2.bB kf kb):=
 wB (fun _=>rfl) (fun n=>bD.bind (bD.refl _) fun _=>bD.bind (yj (rh (np n)) _ _) fun _=>bD.refl _)
  (Fin.bind (Fin.same _) fun _=>Fin.bind (Fx _ _ _) fun _=>Fin.same _)
theorem GX(pre:List wy)(mks:List Nat)(ops:List bR)(kf kb:List Nat):run G Ω E (.dg pre mks ops kf kb) st=
  (sw E st pre).bind fun st1=>if (mks.all (jg E.dp st1)&&ops.all (lM E.dp st1))=true then (kM (call G Ω) Ω E st1 ops).bind fun st2=>some (.nrm,st2.bB kf kb) else none:=
 wB (fun _=>rfl) (fun n=>bD.bind (bD.refl _) fun _=>bD.ite (bD.bind (BW (rh (np n)) _ _) fun _=>bD.refl _) (bD.refl _))
  (Fin.bind (Fin.same _) fun _=>Fin.ite (Fin.bind (JP _ _ _) fun _=>Fin.same _) (Fin.same _))
theorem kC(kf kb:List Nat)(x:AC):run G Ω E (.kp kf kb x) st=run G Ω E x (st.bB kf kb):=
 wB (fun _=>rfl) (fun n=>np n _ _ _) (oi _ _ _)
theorem pP(f:FuncId)(args:List AV)(hp:HP):call G Ω E f args hp=(G f).bind fun fn=>(run G Ω E fn.code ⟨kq 0 args,[],hp⟩).bind fun r=>match r.1 with
  | .ex _=>none
  | _=>(r.2.end_ E fn.res).bind fun x=>some (x,r.2.hp):=rfl
end
structure bX where
 kf:List Nat
 kb:List Nat
 x:AC
def bX.lp(l:bX):AC:=.lp (.kp l.kf l.kb l.x)
noncomputable def rW(G:qG)(Ω:dK)(E:Env)(l:bX)(st:St):Option (bh×St):=run G Ω E l.lp st
theorem QB(fr:List (Nat×AV))(ks:List Nat)(k:Nat)(h:k∈ks):az (eD fr ks) k=az fr k:=by
 induction ks with
 | nil=>cases h
 | cons j ks ih=>
  simp only [eD,eu,az]
  by_cases hj:j=k
  ·rw [af hj,hj]
  ·rw [ab hj]
   exact ih ((dh.1 h).resolve_left (fun e=>hj e.symm))
theorem QC(bx:List (Nat×List AV))(ks:List Nat)(k:Nat)(h:k∈ks):aZ (dF bx ks) k=aZ bx k:=by
 induction ks with
 | nil=>cases h
 | cons j ks ih=>
  simp only [dF]
  by_cases hj:j=k
  ·subst hj
   cases hb:aZ bx j with
   | some cs=>simp [aZ]
   | none=>
    simp only
    by_cases hk:j∈ks
    ·rw [ih hk,hb]
    ·clear ih h
     induction ks with
     | nil=>rfl
     | cons i ks ih2=>
      simp only [dF]
      have hi:i≠j:=fun e=>hk (by rw [e];exact List.mem_cons_self ..)
      have ih3:=ih2 fun hm=>hk (zz _ hm)
      cases aZ bx i with
      | some cs=>simp only [aZ,ab hi];exact ih3
      | none=>exact ih3
  ·have hk:=(dh.1 h).resolve_left (fun e=>hj e.symm)
   cases hb:aZ bx j with
   | some cs=>simp only [aZ,ab hj];exact ih hk
   | none=>exact ih hk
theorem QD(st:St)(kf kb:List Nat):(st.bB kf kb).bB kf kb=st.bB kf kb:=by
 have h1:eD (eD st.fr kf) kf=eD st.fr kf:=by
  show kf.map (fun k=>(k,az (eD st.fr kf) k))=kf.map (fun k=>(k,az st.fr k))
  exact sK fun k hk=>by rw [QB st.fr kf k hk]
 have h2:∀ ks,(∀ k∈ks,k∈kb)→dF (dF st.bx kb) ks=dF st.bx ks:=by
  intro ks hs
  induction ks with
  | nil=>rfl
  | cons j ks ih=>
   simp only [dF]
   rw [QC st.bx kb j (hs j (List.mem_cons_self ..)),ih fun k hk=>hs k (zz _ hk)]
 show (⟨eD (eD st.fr kf) kf,dF (dF st.bx kb) kb,st.hp⟩:St)=⟨eD st.fr kf,dF st.bx kb,st.hp⟩
 rw [h1,h2 kb fun _ h=>h]
theorem mg(G:qG)(Ω:dK)(E:Env)(l:bX)(st:St):run G Ω E l.lp st=rW G Ω E l (st.bB l.kf l.kb):=by
 show run G Ω E (.lp (.kp l.kf l.kb l.x)) st=run G Ω E (.lp (.kp l.kf l.kb l.x)) (st.bB l.kf l.kb)
 rw [GW,GW,kC,kC,QD]
def kept(l:bX)(r:bh×St):Option St:=
 match r.1 with
 | .nrm=>some (r.2.bB l.kf l.kb)
 | _=>none
variable {l:bX}
theorem nr{G:qG}{Ω:dK}{E:Env}{st st1:St}(h:(run G Ω E l.x (st.bB l.kf l.kb)).bind (kept l)=some st1):rW G Ω E l st=rW G Ω E l st1:=by
 obtain ⟨r,h1,h2⟩:=aj.1 h
 obtain ⟨e,s⟩:=r
 cases e<;>simp [kept] at h2
 subst h2
 show run G Ω E (.lp (.kp l.kf l.kb l.x)) st=_
 rw [GW,kC,h1,←mg]
 rfl
variable {r:bh×St}
theorem nY{G:qG}{Ω:dK}{E:Env}{st:St}(h:run G Ω E l.x (st.bB l.kf l.kb)=some r)(hr:r.1≠.nrm):rW G Ω E l st=some r:=by
 show run G Ω E (.lp (.kp l.kf l.kb l.x)) st=_
 rw [GW,kC,h]
 obtain ⟨e,s⟩:=r
 cases e with
 | nrm=>exact absurd rfl hr
 | _=>rfl
theorem wrap64{n:Int}(h1 : -9223372036854775808≤n)(h2:n≤9223372036854775807):IntKind.i64.wrap n=n:=by
 simp [IntKind.wrap,IntKind.bits,IntKind.signed];omega
end Go.Proofs.YtlmphbbhaeampaaGreat.A
