/- The abstract run without a bound on its length, and how it goes on: one equation for each command. -/
import Derived.Test.YtogbakbmphadfaaGreatDoorAbs2
set_option linter.unusedSectionVars false
set_option linter.unusedVariables false
set_option linter.unusedSimpArgs false
set_option linter.constructorNameAsVariable false
namespace Go.Proofs.YtogbakbmphadfaaGreatDoor.A
open Go
def a6{α:Type}(x y:Option α):Prop:=∀ r,x=some r→y=some r
theorem a6.refl{α:Type}(x:Option α):a6 x x:=fun _ h=>h
theorem a6.bind{α β:Type}{x y:Option α}{f g:α→Option β}(h:a6 x y)(hf:∀ a,a6 (f a) (g a)):a6 (x.bind f) (y.bind g):=by
 intro r hr
 obtain ⟨a,ha,hfa⟩:=Option.bind_eq_some_iff.1 hr
 exact Option.bind_eq_some_iff.2 ⟨a,h a ha,hf a r hfa⟩
theorem a6.ite{α:Type}{c:Prop}[Decidable c]{x y x' y':Option α}(h:a6 x x')(h':a6 y y'):a6 (if c then x else y) (if c then x' else y'):=by
 split
 ·exact h
 ·exact h'
def wY(R R':Rec):Prop:=∀ E f args hp,a6 (R E f args hp) (R' E f args hp)
abbrev Ac:=Env→AC→St→Option (aK×St)
def LC(X X':Ac):Prop:=∀ E c st,a6 (X E c st) (X' E c st)
theorem pC{G:qn}{X X':Ac}(h:LC X X'):wY (ic G X) (ic G X'):=fun _ _ _ _=>
 a6.bind (a6.refl _) fun _=>a6.bind (h _ _ _) fun _=>a6.refl _
theorem uv{R R':Rec}(h:wY R R'){Ω:cI}{E:Env}{st:St}{m:Nat}{f:FuncId}{args:List AV} :
  a6 (fx R Ω E st m f args) (fx R' Ω E st m f args):=by
 unfold fx
 split
 ·exact a6.bind (a6.refl _) fun _=>a6.bind (h _ _ _ _) fun _=>a6.refl _
 ·exact a6.refl _
 ·exact a6.refl _
theorem wZ{R R':Rec}(h:wY R R'){Ω:cI}{E:Env}{st:St}{f:FuncId}{args:List AV} : a6 (kg R Ω E st f args) (kg R' Ω E st f args):=
 a6.ite (uv h)<|a6.ite (a6.bind (h _ _ _ _) fun _=>a6.refl _) (a6.refl _)
theorem w0{R R':Rec}(h:wY R R'){E:Env}{st:St}{f:FuncId}{args:List AV} : a6 (kh R E st f args) (kh R' E st f args):=
 a6.ite (a6.bind (h _ _ _ _) fun _=>a6.refl _) (a6.refl _)
theorem EL{R R':Rec}(h:wY R R'){E:Env}{st:St}{d:Nat}{f:FuncId}{args:List AV} : a6 (uZ R E st d f args) (uZ R' E st d f args):=
 a6.ite (a6.bind (h _ _ _ _) fun _=>a6.refl _) (a6.refl _)
theorem uw{R R':Rec}(h:wY R R'){Ω:cI}{E:Env}{st:St}{d:Option Nat}(o:lJ) :
  a6 (execOp R Ω E st d o) (execOp R' Ω E st d o):=by
 cases o with
 | ca m f args=>exact uv h
 | cf m x args=>
  simp only [execOp]
  split
  ·exact uv h
  ·exact a6.refl _
 | c2 f args=>exact wZ h
 | d2 x args=>
  simp only [execOp]
  split
  ·exact wZ h
  ·exact a6.refl _
 | cn f args=>exact a6.bind (a6.refl _) fun _=>EL h
 | vi g f args=>
  refine a6.bind (a6.refl _) fun z=>?_
  split
  ·exact a6.ite (a6.bind (h _ _ _ _) fun _=>a6.refl _) (a6.refl _)
  ·exact a6.refl _
 | cw t f args=>exact a6.bind (a6.refl _) fun _=>a6.ite (a6.bind (a6.refl _) fun _=>a6.bind (h _ _ _ _) fun _=>a6.refl _) (a6.refl _)
 | ch f args sl dl ow=>exact a6.ite (a6.bind (h _ _ _ _) fun _=>a6.refl _) (a6.refl _)
 | c3 f args=>exact w0 h
 | d3 x args=>
  simp only [execOp]
  split
  ·exact w0 h
  ·exact a6.refl _
 | _=>exact a6.refl _
theorem Ad{R R':Rec}(h:wY R R'){Ω:cI}{E:Env}{st:St}{g:cL} : a6 (fu R Ω E st g) (fu R' Ω E st g):=by
 unfold fu
 split
 ·exact a6.bind (uw h _) fun _=>a6.refl _
 ·exact a6.bind (a6.refl _) fun _=>a6.ite (a6.bind (uw h _) fun _=>a6.refl _) (a6.refl _)
theorem sH{R R':Rec}(h:wY R R'){Ω:cI}{E:Env} : ∀ (gs:List cL)(st:St),a6 (jw R Ω E st gs) (jw R' Ω E st gs)
 | [],_=>a6.refl _
 | _::gs,_=>a6.bind (Ad h) fun _=>sH h gs _
theorem Ae{R R':Rec}(h:wY R R'){Ω:cI}{E:Env}{p:bI}{v:St} : a6 (ib R Ω E p v) (ib R' Ω E p v):=
 a6.ite (a6.bind (uw h _) fun _=>a6.refl _) (a6.refl _)
theorem GI{R R':Rec}(h:wY R R'){Ω:cI}{E:Env}{st:St}{p:bI} : a6 (cN R Ω E st p) (cN R' Ω E st p):=by
 unfold cN
 refine a6.ite (a6.bind ?_ fun _=>a6.refl _) (Ad h)
 unfold cM
 split
 ·exact Ae h
 ·exact a6.bind (a6.refl _) fun _=>a6.ite (Ae h) (a6.refl _)
theorem vF{R R':Rec}(h:wY R R'){Ω:cI}{E:Env} : ∀ (gs:List bI)(st:St),a6 (oy R Ω E st gs) (oy R' Ω E st gs)
 | [],_=>a6.refl _
 | _::gs,_=>a6.bind (GI h) fun _=>vF h gs _
theorem tO{k k':St→Option (aK×St)}(h:∀ st,a6 (k st) (k' st))(r:aK×St):a6 (sG k r) (sG k' r):=by
 unfold sG
 split
 ·exact h _
 ·exact a6.refl _
section
variable {G:qn}{Ω:cI}
theorem Di:∀ n,LC (exec G Ω n) (exec G Ω (n+1))
 | 0,_,_,_=>fun r hr=>by simp [exec] at hr
 | n+1,E,c,st=>by
  have ih:=Di n
  cases c with
  | sk=>exact a6.refl _
  | ex id=>exact a6.refl _
  | rt=>exact a6.refl _
  | rg pre ops kf kb=>exact a6.bind (a6.refl _) fun _=>a6.bind (sH (pC ih) _ _) fun _=>a6.refl _
  | dg pre mks ops kf kb=>exact a6.bind (a6.refl _) fun _=>a6.ite (a6.bind (vF (pC ih) _ _) fun _=>a6.refl _) (a6.refl _)
  | sq x y=>exact a6.bind (ih _ _ _) fun _=>tO (fun _=>ih _ _ _) _
  | ite c x y=>exact a6.bind (a6.refl _) fun _=>a6.ite (ih _ _ _) (ih _ _ _)
  | bl id x=>exact a6.bind (ih _ _ _) fun _=>a6.refl _
  | lp x=>exact a6.bind (ih _ _ _) fun _=>tO (fun _=>ih _ _ _) _
  | kp kf kb x=>exact ih _ _ _
  | bad=>exact a6.refl _
theorem Bv{n m:Nat}(h:n≤m):LC (exec G Ω n) (exec G Ω m):=by
 induction h with
 | refl=>exact fun _ _ _ _ h=>h
 | step _ ih=>exact fun E c st r hr=>Di _ E c st r (ih E c st r hr)
noncomputable def run(G:qn)(Ω:cI):Ac:=fun E c st=>
 open Classical in if h:∃ n,(exec G Ω n E c st).isSome=true then exec G Ω (Classical.choose h) E c st else none
theorem oK{E:Env}{c:AC}{st:St}{r:aK×St} : run G Ω E c st=some r↔∃ n,exec G Ω n E c st=some r:=by
 constructor
 ·intro h
  unfold run at h
  split at h
  ·exact ⟨_,h⟩
  ·cases h
 ·rintro ⟨n,h⟩
  have hex:∃ n,(exec G Ω n E c st).isSome=true:=⟨n,by rw [h];rfl⟩
  unfold run
  rw [dif_pos hex]
  have hc:=Classical.choose_spec hex
  obtain ⟨r',hr'⟩:=Option.isSome_iff_exists.1 hc
  rw [hr']
  have h1:=Bv (Nat.le_max_left n (Classical.choose hex)) E c st r h
  have h2:=Bv (Nat.le_max_right n (Classical.choose hex)) E c st r' hr'
  rw [h1] at h2
  exact h2.symm
theorem l8(n:Nat):LC (exec G Ω n) (run G Ω):=fun _ _ _ _ h=>oK.2 ⟨n,h⟩
noncomputable def call(G:qn)(Ω:cI):Rec:=ic G (run G Ω)
def Fin{α:Type}(x:Option α)(y:Nat→Option α):Prop:=∀ r,x=some r→∃ n,∀ m,n≤m→y m=some r
theorem Fin.same{α:Type}(x:Option α):Fin x fun _=>x:=fun _ h=>⟨0,fun _ _=>h⟩
theorem Fin.bind{α β:Type}{x:Option α}{y:Nat→Option α}{f:α→Option β}{g:Nat→α→Option β}(h:Fin x y)(hf:∀ a,Fin (f a) fun n=>g n a) :
  Fin (x.bind f) fun n=>(y n).bind (g n):=by
 intro r hr
 obtain ⟨a,ha,hfa⟩:=Option.bind_eq_some_iff.1 hr
 obtain ⟨n,hn⟩:=h a ha
 obtain ⟨m,hm⟩:=hf a r hfa
 exact ⟨max n m,fun k hk=>Option.bind_eq_some_iff.2 ⟨a,hn k (by omega),hm k (by omega)⟩⟩
theorem Fin.ite{α:Type}{c:Prop}[Decidable c]{x x':Option α}{y y':Nat→Option α}(h:Fin x y)(h':Fin x' y'):Fin (if c then x else x') fun n=>if c then y n else y' n:=by
 split
 ·exact h
 ·exact h'
theorem mw(E:Env)(c:AC)(st:St):Fin (run G Ω E c st) fun n=>exec G Ω n E c st:=by
 intro r hr
 obtain ⟨n,hn⟩:=oK.1 hr
 exact ⟨n,fun m hm=>Bv hm _ _ _ _ hn⟩
theorem iS(E:Env)(f:FuncId)(args:List AV)(hp:HP):Fin (call G Ω E f args hp) fun n=>ic G (exec G Ω n) E f args hp:=
 Fin.bind (Fin.same _) fun _=>Fin.bind (mw _ _ _) fun _=>Fin.same _
theorem vG(E:Env)(st:St)(m:Nat)(f:FuncId)(args:List AV) :
  Fin (fx (call G Ω) Ω E st m f args) fun n=>fx (ic G (exec G Ω n)) Ω E st m f args:=by
 unfold fx
 split
 ·exact Fin.bind (Fin.same _) fun _=>Fin.bind (iS _ _ _ _) fun _=>Fin.same _
 ·exact Fin.same _
 ·exact Fin.same _
theorem yN(E:Env)(st:St)(f:FuncId)(args:List AV):Fin (kg (call G Ω) Ω E st f args) fun n=>kg (ic G (exec G Ω n)) Ω E st f args:=
 Fin.ite (vG _ _ _ _ _)<|Fin.ite (Fin.bind (iS _ _ _ _) fun _=>Fin.same _) (Fin.same _)
theorem vH(E:Env)(st:St)(d:Option Nat)(o:lJ) :
  Fin (execOp (call G Ω) Ω E st d o) fun n=>execOp (ic G (exec G Ω n)) Ω E st d o:=by
 cases o with
 | ca m f args=>exact vG _ _ _ _ _
 | cf m x args=>
  simp only [execOp]
  split
  ·exact vG _ _ _ _ _
  ·exact Fin.same _
 | c2 f args=>exact yN _ _ _ _
 | d2 x args=>
  simp only [execOp]
  split
  ·exact yN _ _ _ _
  ·exact Fin.same _
 | c3 f args=>exact Fin.ite (Fin.bind (iS _ _ _ _) fun _=>Fin.same _) (Fin.same _)
 | d3 x args=>
  simp only [execOp]
  split
  ·exact Fin.ite (Fin.bind (iS _ _ _ _) fun _=>Fin.same _) (Fin.same _)
  ·exact Fin.same _
 | cn f args=>exact Fin.bind (Fin.same _) fun _=>Fin.ite (Fin.bind (iS _ _ _ _) fun _=>Fin.same _) (Fin.same _)
 | vi g f args=>
  refine Fin.bind (Fin.same _) fun z=>?_
  split
  ·exact Fin.ite (Fin.bind (iS _ _ _ _) fun _=>Fin.same _) (Fin.same _)
  ·exact Fin.same _
 | cw t f args=>exact Fin.bind (Fin.same _) fun _=>Fin.ite (Fin.bind (Fin.same _) fun _=>Fin.bind (iS _ _ _ _) fun _=>Fin.same _) (Fin.same _)
 | ch f args sl dl ow=>exact Fin.ite (Fin.bind (iS _ _ _ _) fun _=>Fin.same _) (Fin.same _)
 | _=>exact Fin.same _
theorem Dj(E:Env)(st:St)(g:cL):Fin (fu (call G Ω) Ω E st g) fun n=>fu (ic G (exec G Ω n)) Ω E st g:=by
 unfold fu
 split
 ·exact Fin.bind (vH _ _ _ _) fun _=>Fin.same _
 ·exact Fin.bind (Fin.same _) fun _=>Fin.ite (Fin.bind (vH _ _ _ _) fun _=>Fin.same _) (Fin.same _)
theorem yO(E:Env):∀ (gs:List cL)(st:St),Fin (jw (call G Ω) Ω E st gs) fun n=>jw (ic G (exec G Ω n)) Ω E st gs
 | [],_=>Fin.same _
 | _::gs,_=>Fin.bind (Dj _ _ _) fun _=>yO E gs _
theorem Dk(E:Env)(p:bI)(v:St):Fin (ib (call G Ω) Ω E p v) fun n=>ib (ic G (exec G Ω n)) Ω E p v:=
 Fin.ite (Fin.bind (vH _ _ _ _) fun _=>Fin.same _) (Fin.same _)
theorem HV(E:Env)(st:St)(p:bI):Fin (cN (call G Ω) Ω E st p) fun n=>cN (ic G (exec G Ω n)) Ω E st p:=by
 unfold cN
 refine Fin.ite (Fin.bind ?_ fun _=>Fin.same _) (Dj _ _ _)
 unfold cM
 split
 ·exact Dk _ _ _
 ·exact Fin.bind (Fin.same _) fun _=>Fin.ite (Dk _ _ _) (Fin.same _)
theorem Dl(E:Env):∀ (gs:List bI)(st:St),Fin (oy (call G Ω) Ω E st gs) fun n=>oy (ic G (exec G Ω n)) Ω E st gs
 | [],_=>Fin.same _
 | _::gs,_=>Fin.bind (HV _ _ _) fun _=>Dl E gs _
theorem EM{k:St→Option (aK×St)}{k':Nat→St→Option (aK×St)}(h:∀ st,Fin (k st) fun n=>k' n st)(r:aK×St) :
  Fin (sG k r) fun n=>sG (k' n) r:=by
 unfold sG
 split
 ·exact h _
 ·exact Fin.same _
theorem NO{α:Type}{x y:Option α}(h:a6 x y)(h':a6 y x):x=y:=by
 cases x with
 | none=>cases y with
  | none=>rfl
  | some r=>exact (h' r rfl)
 | some r=>exact (h r rfl).symm
theorem sI{E:Env}{c:AC}{st:St}{F:Option (aK×St)}{f:Nat→Option (aK×St)}(h:∀ n,exec G Ω (n+1) E c st=f n)
  (hle:∀ n,a6 (f n) F) (hfin:Fin F f):run G Ω E c st=F:=by
 refine NO (fun r hr=>?_) (fun r hr=>?_)
 ·obtain ⟨n,hn⟩:=oK.1 hr
  cases n with
  | zero=>simp [exec] at hn
  | succ n=>exact hle n r ((h n).symm.trans hn)
 ·obtain ⟨n,hn⟩:=hfin r hr
  exact oK.2 ⟨n+1,(h n).trans (hn n (Nat.le_refl _))⟩
variable (E:Env)(st:St)
theorem IV:run G Ω E .sk st=some (.nrm,st):=oK.2 ⟨1,rfl⟩
theorem IW(id:Nat):run G Ω E (.ex id) st=some (.ex id,st):=oK.2 ⟨1,rfl⟩
theorem IX:run G Ω E .rt st=some (.ret,st):=oK.2 ⟨1,rfl⟩
theorem Af(x y:AC):run G Ω E (.sq x y) st=(run G Ω E x st).bind (sG fun st1=>run G Ω E y st1):=
 sI (fun _=>rfl) (fun n=>a6.bind (l8 n _ _ _) fun _=>tO (fun _=>l8 n _ _ _) _)
  (Fin.bind (mw _ _ _) fun _=>EM (fun _=>mw _ _ _) _)
theorem Ag(x:AC):run G Ω E (.lp x) st=(run G Ω E x st).bind (sG fun st1=>run G Ω E (.lp x) st1):=
 sI (fun _=>rfl) (fun n=>a6.bind (l8 n _ _ _) fun _=>tO (fun _=>l8 n _ _ _) _)
  (Fin.bind (mw _ _ _) fun _=>EM (fun _=>mw _ _ _) _)
theorem run_ite(c:aP)(x y:AC):run G Ω E (.ite c x y) st=(q7 (st.ev c)).bind fun z=>if z=true then run G Ω E x st else run G Ω E y st:=
 sI (fun _=>rfl) (fun n=>a6.bind (a6.refl _) fun _=>a6.ite (l8 n _ _ _) (l8 n _ _ _))
  (Fin.bind (Fin.same _) fun _=>Fin.ite (mw _ _ _) (mw _ _ _))
theorem w2(id:Nat)(x:AC):run G Ω E (.bl id x) st=(run G Ω E x st).bind (inBlock id):=
 sI (fun _=>rfl) (fun n=>a6.bind (l8 n _ _ _) fun _=>a6.refl _) (Fin.bind (mw _ _ _) fun _=>Fin.same _)
theorem IY(pre:List tN)(ops:List cL)(kf kb:List Nat):run G Ω E (.rg pre ops kf kb) st=
  (rZ E st pre).bind fun st1=>(jw (call G Ω) Ω E st1 ops).bind fun st2=>some (.nrm,st2.bw kf kb):=
 sI (fun _=>rfl) (fun n=>a6.bind (a6.refl _) fun _=>a6.bind (sH (pC (l8 n)) _ _) fun _=>a6.refl _)
  (Fin.bind (Fin.same _) fun _=>Fin.bind (yO _ _ _) fun _=>Fin.same _)
theorem IZ(pre:List tN)(mks:List Nat)(ops:List bI)(kf kb:List Nat):run G Ω E (.dg pre mks ops kf kb) st=
  (rZ E st pre).bind fun st1=>if (mks.all (ez E.dp st1)&&ops.all (Ab E.dp st1))=true then (oy (call G Ω) Ω E st1 ops).bind fun st2=>some (.nrm,st2.bw kf kb) else none:=
 sI (fun _=>rfl) (fun n=>a6.bind (a6.refl _) fun _=>a6.ite (a6.bind (vF (pC (l8 n)) _ _) fun _=>a6.refl _) (a6.refl _))
  (Fin.bind (Fin.same _) fun _=>Fin.ite (Fin.bind (Dl _ _ _) fun _=>Fin.same _) (Fin.same _))
theorem u0(kf kb:List Nat)(x:AC):run G Ω E (.kp kf kb x) st=run G Ω E x (st.bw kf kb):=
 sI (fun _=>rfl) (fun n=>l8 n _ _ _) (mw _ _ _)
theorem yh(f:FuncId)(args:List AV)(hp:HP):call G Ω E f args hp=(G f).bind fun fn=>(run G Ω E fn.code ⟨kN 0 args,[],hp⟩).bind fun r=>match r.1 with
  | .ex _=>none
  | _=>(r.2.end_ E fn.res).bind fun x=>some (x,r.2.hp):=rfl
end
structure bq where
 kf:List Nat
 kb:List Nat
 x:AC
def bq.lp(l:bq):AC:=.lp (.kp l.kf l.kb l.x)
noncomputable def Bw(G:qn)(Ω:cI)(E:Env)(l:bq)(st:St):Option (aK×St):=run G Ω E l.lp st
theorem Dm(fr:List (Nat×AV))(ks:List Nat)(k:Nat)(h:k∈ks):an (hZ fr ks) k=an fr k:=by
 induction ks with
 | nil=>cases h
 | cons j ks ih=>
  simp only [hZ,List.map_cons,an]
  by_cases hj:j=k
  ·rw [if_pos hj,hj]
  ·rw [if_neg hj]
   exact ih ((List.mem_cons.1 h).resolve_left (fun e=>hj e.symm))
theorem tP(bx:List (Nat×List AV))(ks:List Nat)(k:Nat)(h:k∈ks):az (cg bx ks) k=az bx k:=by
 induction ks with
 | nil=>cases h
 | cons j ks ih=>
  simp only [cg]
  by_cases hj:j=k
  ·subst hj
   cases hb:az bx j with
   | some cs=>simp [az]
   | none=>
    simp only
    by_cases hk:j∈ks
    ·rw [ih hk,hb]
    ·clear ih h
     induction ks with
     | nil=>rfl
     | cons i ks ih2=>
      simp only [cg]
      have hi:i≠j:=fun e=>hk (by rw [e];exact List.mem_cons_self ..)
      have ih3:=ih2 fun hm=>hk (List.mem_cons_of_mem _ hm)
      cases az bx i with
      | some cs=>simp only [az,if_neg hi];exact ih3
      | none=>exact ih3
  ·have hk:=(List.mem_cons.1 h).resolve_left (fun e=>hj e.symm)
   cases hb:az bx j with
   | some cs=>simp only [az,if_neg hj];exact ih hk
   | none=>exact ih hk
theorem I0(st:St)(kf kb:List Nat):(st.bw kf kb).bw kf kb=st.bw kf kb:=by
 have h1:hZ (hZ st.fr kf) kf=hZ st.fr kf:=by
  show kf.map (fun k=>(k,an (hZ st.fr kf) k))=kf.map (fun k=>(k,an st.fr k))
  exact List.map_congr_left fun k hk=>by rw [Dm st.fr kf k hk]
 have h2:∀ ks,(∀ k∈ks,k∈kb)→cg (cg st.bx kb) ks=cg st.bx ks:=by
  intro ks hs
  induction ks with
  | nil=>rfl
  | cons j ks ih=>
   simp only [cg]
   rw [tP st.bx kb j (hs j (List.mem_cons_self ..)),ih fun k hk=>hs k (List.mem_cons_of_mem _ hk)]
 show (⟨hZ (hZ st.fr kf) kf,cg (cg st.bx kb) kb,st.hp⟩:St)=⟨hZ st.fr kf,cg st.bx kb,st.hp⟩
 rw [h1,h2 kb fun _ h=>h]
theorem Bx(G:qn)(Ω:cI)(E:Env)(l:bq)(st:St):run G Ω E l.lp st=Bw G Ω E l (st.bw l.kf l.kb):=by
 show run G Ω E (.lp (.kp l.kf l.kb l.x)) st=run G Ω E (.lp (.kp l.kf l.kb l.x)) (st.bw l.kf l.kb)
 rw [Ag,Ag,u0,u0,I0]
def kept(l:bq)(r:aK×St):Option St:=
 match r.1 with
 | .nrm=>some (r.2.bw l.kf l.kb)
 | _=>none
theorem I1{G:qn}{Ω:cI}{E:Env}{l:bq}{st st1:St}(h:(run G Ω E l.x (st.bw l.kf l.kb)).bind (kept l)=some st1):Bw G Ω E l st=Bw G Ω E l st1:=by
 obtain ⟨r,h1,h2⟩:=Option.bind_eq_some_iff.1 h
 obtain ⟨e,s⟩:=r
 cases e<;>simp [kept] at h2
 subst h2
 show run G Ω E (.lp (.kp l.kf l.kb l.x)) st=_
 rw [Ag,u0,h1,←Bx]
 rfl
theorem J9{G:qn}{Ω:cI}{E:Env}{l:bq}{st:St}{r:aK×St}(h:run G Ω E l.x (st.bw l.kf l.kb)=some r)(hr:r.1≠.nrm):Bw G Ω E l st=some r:=by
 show run G Ω E (.lp (.kp l.kf l.kb l.x)) st=_
 rw [Ag,u0,h]
 obtain ⟨e,s⟩:=r
 cases e with
 | nrm=>exact absurd rfl hr
 | _=>rfl
theorem wrap64{n:Int}(h1 : -9223372036854775808≤n)(h2:n≤9223372036854775807):IntKind.i64.wrap n=n:=by
 simp [IntKind.wrap,IntKind.bits,IntKind.signed];omega
end Go.Proofs.YtogbakbmphadfaaGreatDoor.A
