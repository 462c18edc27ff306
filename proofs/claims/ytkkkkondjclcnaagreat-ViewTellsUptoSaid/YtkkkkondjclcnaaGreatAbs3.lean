/- The abstract run without a bound on its length, and how it goes on: one equation for each command. -/
import Derived.Test.YtkkkkondjclcnaaGreatAbs2
set_option linter.all false
namespace Go.Proofs.YtkkkkondjclcnaaGreat.A
open Go
def bb{α:Type}(x y:Option α):Prop:=∀ r,x=some r→y=some r
theorem bb.refl{α:Type}(x:Option α):bb x x:=fun _ h=>h
theorem bb.bind{α β:Type}{x y:Option α}{f g:α→Option β}(h:bb x y)(hf:∀ a,bb (f a) (g a)):bb (x.bind f) (y.bind g):=by
 intro r hr
 obtain ⟨a,ha,hfa⟩:=ah.1 hr
 exact ah.2 ⟨a,h a ha,hf a r hfa⟩
theorem bb.ite{α:Type}{c:Prop}[Decidable c]{x y x' y':Option α}(h:bb x x')(h':bb y y'):bb (if c then x else y) (if c then x' else y'):=by
 split
 ·exact h
 ·exact h'
def CP(R R':Rec):Prop:=∀ E f args hp,bb (R E f args hp) (R' E f args hp)
abbrev ER:=Env→AC→St→Option (aI×St)
def Un(X X':ER):Prop:=∀ E c st,bb (X E c st) (X' E c st)
theorem tT{G:qv}{X X':ER}(h:Un X X'):CP (iM G X) (iM G X'):=fun _ _ _ _=>
 bb.bind (bb.refl _) fun _=>bb.bind (h _ _ _) fun _=>bb.refl _
theorem zQ{R R':Rec}(h:CP R R'){Ω:du}{E:Env}{st:St}{m:Nat}{f:FuncId}{args:List AV} :
  bb (aU R Ω E st m f args) (aU R' Ω E st m f args):=by
 unfold aU
 split
 ·exact bb.bind (bb.refl _) fun _=>bb.bind (h _ _ _ _) fun _=>bb.refl _
 ·exact bb.refl _
 ·exact bb.refl _
theorem xH{R R':Rec}(h:CP R R'){Ω:du}{E:Env}{st:St}{f:FuncId}{args:List AV} : bb (dH R Ω E st f args) (dH R' Ω E st f args):=
 bb.ite (zQ h)<|bb.ite (bb.bind (h _ _ _ _) fun _=>bb.refl _) (bb.refl _)
theorem CQ{R R':Rec}(h:CP R R'){E:Env}{st:St}{f:FuncId}{args:List AV} : bb (jx R E st f args) (jx R' E st f args):=
 bb.ite (bb.bind (h _ _ _ _) fun _=>bb.refl _) (bb.refl _)
theorem Lc{R R':Rec}(h:CP R R'){E:Env}{st:St}{d:Nat}{f:FuncId}{args:List AV} : bb (Ae R E st d f args) (Ae R' E st d f args):=
 bb.ite (bb.bind (h _ _ _ _) fun _=>bb.refl _) (bb.refl _)
theorem zR{R R':Rec}(h:CP R R'){Ω:du}{E:Env}{st:St}{d:Option Nat}(o:oV) :
  bb (execOp R Ω E st d o) (execOp R' Ω E st d o):=by
 cases o with
 | ca m f args=>exact zQ h
 | cf m x args=>
  simp only [execOp]
  split
  ·exact bb.ite (zQ h) (bb.refl _)
  ·exact bb.refl _
 | c2 f args=>exact xH h
 | d2 x args=>
  simp only [execOp]
  split
  ·exact bb.ite (xH h) (xH h)
  ·exact bb.refl _
 | cn f args=>exact bb.bind (bb.refl _) fun _=>Lc h
 | cm t f args x=>exact bb.bind (bb.refl _) fun _=>bb.ite (bb.bind (bb.refl _) fun _=>bb.bind (h _ _ _ _) fun _=>bb.refl _) (bb.refl _)
 | c3 f args=>exact CQ h
 | d3 x args=>
  simp only [execOp]
  split
  ·exact bb.ite (CQ h) (bb.refl _)
  ·exact bb.refl _
 | _=>exact bb.refl _
theorem Gr{R R':Rec}(h:CP R R'){Ω:du}{E:Env}{st:St}{g:cN} : bb (ic R Ω E st g) (ic R' Ω E st g):=by
 unfold ic
 split
 ·exact bb.bind (zR h _) fun _=>bb.refl _
 ·exact bb.bind (bb.refl _) fun _=>bb.ite (bb.bind (zR h _) fun _=>bb.refl _) (bb.refl _)
theorem xJ{R R':Rec}(h:CP R R'){Ω:du}{E:Env} : ∀ (gs:List cN)(st:St),bb (fQ R Ω E st gs) (fQ R' Ω E st gs)
 | [],_=>bb.refl _
 | _::gs,_=>bb.bind (Gr h) fun _=>xJ h gs _
theorem Gs{R R':Rec}(h:CP R R'){Ω:du}{E:Env}{p:cp}{v:St} : bb (je R Ω E p v) (je R' Ω E p v):=
 bb.ite (bb.bind (zR h _) fun _=>bb.refl _) (bb.refl _)
theorem Nd{R R':Rec}(h:CP R R'){Ω:du}{E:Env}{st:St}{p:cp} : bb (ej R Ω E st p) (ej R' Ω E st p):=by
 unfold ej
 refine bb.ite (bb.bind ?_ fun _=>bb.refl _) (Gr h)
 unfold ei
 split
 ·exact Gs h
 ·exact bb.bind (bb.refl _) fun _=>bb.ite (Gs h) (bb.refl _)
theorem Bb{R R':Rec}(h:CP R R'){Ω:du}{E:Env} : ∀ (gs:List cp)(st:St),bb (kd R Ω E st gs) (kd R' Ω E st gs)
 | [],_=>bb.refl _
 | _::gs,_=>bb.bind (Nd h) fun _=>Bb h gs _
theorem zi{k k':St→Option (aI×St)}(h:∀ st,bb (k st) (k' st))(r:aI×St):bb (wz k r) (wz k' r):=by
 unfold wz
 split
 ·exact h _
 ·exact bb.refl _
section
variable {G:qv}{Ω:du}
theorem zS{dp:Nat}{X X':AC→St→Option (aI×St)}(h:∀ c st,bb (X c st) (X' c st)){x:Nat}{y b:AC} : ∀ (ns:List Int)(st:St),bb (rounds dp X x y b ns st) (rounds dp X' x y b ns st)
 | [],_=>bb.refl _
 | n::ns,st=>by
  unfold rounds
  refine bb.ite (bb.bind (h _ _) fun q=>?_) (bb.refl _)
  split
  ·refine bb.bind (h _ _) fun r=>?_
   split
   ·exact zS h ns _
   ·exact bb.refl _
  ·exact bb.refl _
theorem Ju:∀ n,Un (exec G Ω n) (exec G Ω (n+1))
 | 0,_,_,_=>fun r hr=>by simp [exec] at hr
 | n+1,E,c,st=>by
  have ih:=Ju n
  cases c with
  | sk=>exact bb.refl _
  | ex id=>exact bb.refl _
  | rt=>exact bb.refl _
  | rg pre ops kf kb=>exact bb.bind (bb.refl _) fun _=>bb.bind (xJ (tT ih) _ _) fun _=>bb.refl _
  | dg pre mks ops kf kb=>exact bb.bind (bb.refl _) fun _=>bb.ite (bb.bind (Bb (tT ih) _ _) fun _=>bb.refl _) (bb.refl _)
  | sq x y=>exact bb.bind (ih _ _ _) fun _=>zi (fun _=>ih _ _ _) _
  | ite c x y=>exact bb.bind (bb.refl _) fun _=>bb.ite (ih _ _ _) (ih _ _ _)
  | bl id x=>exact bb.bind (ih _ _ _) fun _=>bb.refl _
  | lp x=>exact bb.bind (ih _ _ _) fun _=>zi (fun _=>ih _ _ _) _
  | kp kf kb x=>exact ih _ _ _
  | bad=>exact bb.refl _
  | ru g x y b=>exact bb.ite (bb.refl _) (bb.bind (bb.refl _) fun ns=>zS (fun c st=>ih _ c st) ns st)
theorem Ij{n m:Nat}(h:n≤m):Un (exec G Ω n) (exec G Ω m):=by
 induction h with
 | refl=>exact fun _ _ _ _ h=>h
 | step _ ih=>exact fun E c st r hr=>Ju _ E c st r (ih E c st r hr)
noncomputable def run(G:qv)(Ω:du):ER:=fun E c st=>
 open Classical in if h:∃ n,(exec G Ω n E c st).isSome=true then exec G Ω (Classical.choose h) E c st else none
theorem sW{E:Env}{c:AC}{st:St}{r:aI×St} : run G Ω E c st=some r↔∃ n,exec G Ω n E c st=some r:=by
 constructor
 ·intro h
  unfold run at h
  split at h
  ·exact ⟨_,h⟩
  ·cases h
 ·rintro ⟨n,h⟩
  have hex:∃ n,(exec G Ω n E c st).isSome=true:=⟨n,by rw [h];rfl⟩
  unfold run
  rw [dif_pos hex]
  have hc:=Cq hex
  obtain ⟨r',hr'⟩:=gq.1 hc
  rw [hr']
  have h1:=Ij (Cr n (Classical.choose hex)) E c st r h
  have h2:=Ij (Ct n (Classical.choose hex)) E c st r' hr'
  rw [h1] at h2
  exact h2.symm
theorem nR(n:Nat):Un (exec G Ω n) (run G Ω):=fun _ _ _ _ h=>sW.2 ⟨n,h⟩
noncomputable def call(G:qv)(Ω:du):Rec:=iM G (run G Ω)
def Fin{α:Type}(x:Option α)(y:Nat→Option α):Prop:=∀ r,x=some r→∃ n,∀ m,n≤m→y m=some r
theorem Fin.same{α:Type}(x:Option α):Fin x fun _=>x:=fun _ h=>⟨0,fun _ _=>h⟩
theorem Fin.bind{α β:Type}{x:Option α}{y:Nat→Option α}{f:α→Option β}{g:Nat→α→Option β}(h:Fin x y)(hf:∀ a,Fin (f a) fun n=>g n a) :
  Fin (x.bind f) fun n=>(y n).bind (g n):=by
 intro r hr
 obtain ⟨a,ha,hfa⟩:=ah.1 hr
 obtain ⟨n,hn⟩:=h a ha
 obtain ⟨m,hm⟩:=hf a r hfa
 exact ⟨max n m,fun k hk=>ah.2 ⟨a,hn k (by omega),hm k (by omega)⟩⟩
theorem Fin.ite{α:Type}{c:Prop}[Decidable c]{x x':Option α}{y y':Nat→Option α}(h:Fin x y)(h':Fin x' y'):Fin (if c then x else x') fun n=>if c then y n else y' n:=by
 split
 ·exact h
 ·exact h'
theorem nS(E:Env)(c:AC)(st:St):Fin (run G Ω E c st) fun n=>exec G Ω n E c st:=by
 intro r hr
 obtain ⟨n,hn⟩:=sW.1 hr
 exact ⟨n,fun m hm=>Ij hm _ _ _ _ hn⟩
theorem nr(E:Env)(f:FuncId)(args:List AV)(hp:HP):Fin (call G Ω E f args hp) fun n=>iM G (exec G Ω n) E f args hp:=
 Fin.bind (Fin.same _) fun _=>Fin.bind (nS _ _ _) fun _=>Fin.same _
theorem Bc(E:Env)(st:St)(m:Nat)(f:FuncId)(args:List AV) :
  Fin (aU (call G Ω) Ω E st m f args) fun n=>aU (iM G (exec G Ω n)) Ω E st m f args:=by
 unfold aU
 split
 ·exact Fin.bind (Fin.same _) fun _=>Fin.bind (nr _ _ _ _) fun _=>Fin.same _
 ·exact Fin.same _
 ·exact Fin.same _
theorem zT(E:Env)(st:St)(f:FuncId)(args:List AV):Fin (dH (call G Ω) Ω E st f args) fun n=>dH (iM G (exec G Ω n)) Ω E st f args:=
 Fin.ite (Bc _ _ _ _ _)<|Fin.ite (Fin.bind (nr _ _ _ _) fun _=>Fin.same _) (Fin.same _)
theorem Bd(E:Env)(st:St)(d:Option Nat)(o:oV) :
  Fin (execOp (call G Ω) Ω E st d o) fun n=>execOp (iM G (exec G Ω n)) Ω E st d o:=by
 cases o with
 | ca m f args=>exact Bc _ _ _ _ _
 | cf m x args=>
  simp only [execOp]
  split
  ·exact Fin.ite (Bc _ _ _ _ _) (Fin.same _)
  ·exact Fin.same _
 | c2 f args=>exact zT _ _ _ _
 | d2 x args=>
  simp only [execOp]
  split
  ·exact Fin.ite (zT _ _ _ _) (zT _ _ _ _)
  ·exact Fin.same _
 | c3 f args=>exact Fin.ite (Fin.bind (nr _ _ _ _) fun _=>Fin.same _) (Fin.same _)
 | d3 x args=>
  simp only [execOp]
  split
  ·exact Fin.ite (Fin.ite (Fin.bind (nr _ _ _ _) fun _=>Fin.same _) (Fin.same _)) (Fin.same _)
  ·exact Fin.same _
 | cn f args=>exact Fin.bind (Fin.same _) fun _=>Fin.ite (Fin.bind (nr _ _ _ _) fun _=>Fin.same _) (Fin.same _)
 | cm t f args x=>exact Fin.bind (Fin.same _) fun _=>Fin.ite (Fin.bind (Fin.same _) fun _=>Fin.bind (nr _ _ _ _) fun _=>Fin.same _) (Fin.same _)
 | _=>exact Fin.same _
theorem Jv(E:Env)(st:St)(g:cN):Fin (ic (call G Ω) Ω E st g) fun n=>ic (iM G (exec G Ω n)) Ω E st g:=by
 unfold ic
 split
 ·exact Fin.bind (Bd _ _ _ _) fun _=>Fin.same _
 ·exact Fin.bind (Fin.same _) fun _=>Fin.ite (Fin.bind (Bd _ _ _ _) fun _=>Fin.same _) (Fin.same _)
theorem ES(E:Env):∀ (gs:List cN)(st:St),Fin (fQ (call G Ω) Ω E st gs) fun n=>fQ (iM G (exec G Ω n)) Ω E st gs
 | [],_=>Fin.same _
 | _::gs,_=>Fin.bind (Jv _ _ _) fun _=>ES E gs _
theorem Jw(E:Env)(p:cp)(v:St):Fin (je (call G Ω) Ω E p v) fun n=>je (iM G (exec G Ω n)) Ω E p v:=
 Fin.ite (Fin.bind (Bd _ _ _ _) fun _=>Fin.same _) (Fin.same _)
theorem O2(E:Env)(st:St)(p:cp):Fin (ej (call G Ω) Ω E st p) fun n=>ej (iM G (exec G Ω n)) Ω E st p:=by
 unfold ej
 refine Fin.ite (Fin.bind ?_ fun _=>Fin.same _) (Jv _ _ _)
 unfold ei
 split
 ·exact Jw _ _ _
 ·exact Fin.bind (Fin.same _) fun _=>Fin.ite (Jw _ _ _) (Fin.same _)
theorem Jy(E:Env):∀ (gs:List cp)(st:St),Fin (kd (call G Ω) Ω E st gs) fun n=>kd (iM G (exec G Ω n)) Ω E st gs
 | [],_=>Fin.same _
 | _::gs,_=>Fin.bind (O2 _ _ _) fun _=>Jy E gs _
theorem Ld{k:St→Option (aI×St)}{k':Nat→St→Option (aI×St)}(h:∀ st,Fin (k st) fun n=>k' n st)(r:aI×St) :
  Fin (wz k r) fun n=>wz (k' n) r:=by
 unfold wz
 split
 ·exact h _
 ·exact Fin.same _
theorem Xw{α:Type}{x y:Option α}(h:bb x y)(h':bb y x):x=y:=by
 cases x with
 | none=>cases y with
  | none=>rfl
  | some r=>exact (h' r rfl)
 | some r=>exact (h r rfl).symm
theorem vT{E:Env}{c:AC}{st:St}{F:Option (aI×St)}{f:Nat→Option (aI×St)}(h:∀ n,exec G Ω (n+1) E c st=f n)
  (hle:∀ n,bb (f n) F) (hfin:Fin F f):run G Ω E c st=F:=by
 refine Xw (fun r hr=>?_) (fun r hr=>?_)
 ·obtain ⟨n,hn⟩:=sW.1 hr
  cases n with
  | zero=>simp [exec] at hn
  | succ n=>exact hle n r ((h n).symm.trans hn)
 ·obtain ⟨n,hn⟩:=hfin r hr
  exact sW.2 ⟨n+1,(h n).trans (hn n (aS _))⟩
variable (E:Env)(st:St)
theorem bM:run G Ω E .sk st=some (.nrm,st):=sW.2 ⟨1,rfl⟩
theorem dN(id:Nat):run G Ω E (.ex id) st=some (.ex id,st):=sW.2 ⟨1,rfl⟩
theorem eE:run G Ω E .rt st=some (.ret,st):=sW.2 ⟨1,rfl⟩
theorem vU(x y:AC):run G Ω E (.sq x y) st=(run G Ω E x st).bind (wz fun st1=>run G Ω E y st1):=
 vT (fun _=>rfl) (fun n=>bb.bind (nR n _ _ _) fun _=>zi (fun _=>nR n _ _ _) _)
  (Fin.bind (nS _ _ _) fun _=>Ld (fun _=>nS _ _ _) _)
theorem Gt(x:AC):run G Ω E (.lp x) st=(run G Ω E x st).bind (wz fun st1=>run G Ω E (.lp x) st1):=
 vT (fun _=>rfl) (fun n=>bb.bind (nR n _ _ _) fun _=>zi (fun _=>nR n _ _ _) _)
  (Fin.bind (nS _ _ _) fun _=>Ld (fun _=>nS _ _ _) _)
theorem run_ite(c:ba)(x y:AC):run G Ω E (.ite c x y) st=(qu (st.ev c)).bind fun z=>if z=true then run G Ω E x st else run G Ω E y st:=
 vT (fun _=>rfl) (fun n=>bb.bind (bb.refl _) fun _=>bb.ite (nR n _ _ _) (nR n _ _ _))
  (Fin.bind (Fin.same _) fun _=>Fin.ite (nS _ _ _) (nS _ _ _))
theorem sr(id:Nat)(x:AC):run G Ω E (.bl id x) st=(run G Ω E x st).bind (inBlock id):=
 vT (fun _=>rfl) (fun n=>bb.bind (nR n _ _ _) fun _=>bb.refl _) (Fin.bind (nS _ _ _) fun _=>Fin.same _)
theorem Af(pre:List uD)(ops:List cN)(kf kb:List Nat):run G Ω E (.rg pre ops kf kb) st=
  (qW E st pre).bind fun st1=>(fQ (call G Ω) Ω E st1 ops).bind fun st2=>some (.nrm,st2.aP kf kb):=
 vT (fun _=>rfl) (fun n=>bb.bind (bb.refl _) fun _=>bb.bind (xJ (tT (nR n)) _ _) fun _=>bb.refl _)
  (Fin.bind (Fin.same _) fun _=>Fin.bind (ES _ _ _) fun _=>Fin.same _)
theorem Gu(pre:List uD)(mks:List Nat)(ops:List cp)(kf kb:List Nat):run G Ω E (.dg pre mks ops kf kb) st=
  (qW E st pre).bind fun st1=>if (mks.all (sn E.dp st1)&&ops.all (jf E.dp st1))=true then (kd (call G Ω) Ω E st1 ops).bind fun st2=>some (.nrm,st2.aP kf kb) else none:=
 vT (fun _=>rfl) (fun n=>bb.bind (bb.refl _) fun _=>bb.ite (bb.bind (Bb (tT (nR n)) _ _) fun _=>bb.refl _) (bb.refl _))
  (Fin.bind (Fin.same _) fun _=>Fin.ite (Fin.bind (Jy _ _ _) fun _=>Fin.same _) (Fin.same _))
theorem kN(kf kb:List Nat)(x:AC):run G Ω E (.kp kf kb x) st=run G Ω E x (st.aP kf kb):=
 vT (fun _=>rfl) (fun n=>nR n _ _ _) (nS _ _ _)
theorem tK(f:FuncId)(args:List AV)(hp:HP):call G Ω E f args hp=(G f).bind fun fn=>(run G Ω E fn.code ⟨jL 0 args,[],hp⟩).bind fun r=>match r.1 with
  | .ex _=>none
  | _=>(r.2.end_ E fn.res).bind fun x=>some (x,r.2.hp):=rfl
end
structure aY where
 kf:List Nat
 kb:List Nat
 x:AC
def aY.lp(l:aY):AC:=.lp (.kp l.kf l.kb l.x)
noncomputable def gY(G:qv)(Ω:du)(E:Env)(l:aY)(st:St):Option (aI×St):=run G Ω E l.lp st
theorem Qf(fr:List (Nat×AV))(ks:List Nat)(k:Nat)(h:k∈ks):ax (ef fr ks) k=ax fr k:=by
 induction ks with
 | nil=>cases h
 | cons j ks ih=>
  simp only [ef,bZ,ax]
  by_cases hj:j=k
  ·rw [ab hj,hj]
  ·rw [ad hj]
   exact ih ((cR.1 h).resolve_left (fun e=>hj e.symm))
theorem Qg(bx:List (Nat×List AV))(ks:List Nat)(k:Nat)(h:k∈ks):aO (dk bx ks) k=aO bx k:=by
 induction ks with
 | nil=>cases h
 | cons j ks ih=>
  simp only [dk]
  by_cases hj:j=k
  ·subst hj
   cases hb:aO bx j with
   | some cs=>simp [aO]
   | none=>
    simp only
    by_cases hk:j∈ks
    ·rw [ih hk,hb]
    ·clear ih h
     induction ks with
     | nil=>rfl
     | cons i ks ih2=>
      simp only [dk]
      have hi:i≠j:=fun e=>hk (by rw [e];exact List.mem_cons_self ..)
      have ih3:=ih2 fun hm=>hk (vD _ hm)
      cases aO bx i with
      | some cs=>simp only [aO,ad hi];exact ih3
      | none=>exact ih3
  ·have hk:=(cR.1 h).resolve_left (fun e=>hj e.symm)
   cases hb:aO bx j with
   | some cs=>simp only [aO,ad hj];exact ih hk
   | none=>exact ih hk
theorem Qh(st:St)(kf kb:List Nat):(st.aP kf kb).aP kf kb=st.aP kf kb:=by
 have h1:ef (ef st.fr kf) kf=ef st.fr kf:=by
  show kf.map (fun k=>(k,ax (ef st.fr kf) k))=kf.map (fun k=>(k,ax st.fr k))
  exact qi fun k hk=>by rw [Qf st.fr kf k hk]
 have h2:∀ ks,(∀ k∈ks,k∈kb)→dk (dk st.bx kb) ks=dk st.bx ks:=by
  intro ks hs
  induction ks with
  | nil=>rfl
  | cons j ks ih=>
   simp only [dk]
   rw [Qg st.bx kb j (hs j (List.mem_cons_self ..)),ih fun k hk=>hs k (vD _ hk)]
 show (⟨ef (ef st.fr kf) kf,dk (dk st.bx kb) kb,st.hp⟩:St)=⟨ef st.fr kf,dk st.bx kb,st.hp⟩
 rw [h1,h2 kb fun _ h=>h]
theorem eg(G:qv)(Ω:du)(E:Env)(l:aY)(st:St):run G Ω E l.lp st=gY G Ω E l (st.aP l.kf l.kb):=by
 show run G Ω E (.lp (.kp l.kf l.kb l.x)) st=run G Ω E (.lp (.kp l.kf l.kb l.x)) (st.aP l.kf l.kb)
 rw [Gt,Gt,kN,kN,Qh]
def kept(l:aY)(r:aI×St):Option St:=
 match r.1 with
 | .nrm=>some (r.2.aP l.kf l.kb)
 | _=>none
theorem c8{G:qv}{Ω:du}{E:Env}{l:aY}{st st1:St}(h:(run G Ω E l.x (st.aP l.kf l.kb)).bind (kept l)=some st1):gY G Ω E l st=gY G Ω E l st1:=by
 obtain ⟨r,h1,h2⟩:=ah.1 h
 obtain ⟨e,s⟩:=r
 cases e<;>simp [kept] at h2
 subst h2
 show run G Ω E (.lp (.kp l.kf l.kb l.x)) st=_
 rw [Gt,kN,h1,←eg]
 rfl
theorem di{G:qv}{Ω:du}{E:Env}{l:aY}{st:St}{r:aI×St}(h:run G Ω E l.x (st.aP l.kf l.kb)=some r)(hr:r.1≠.nrm):gY G Ω E l st=some r:=by
 show run G Ω E (.lp (.kp l.kf l.kb l.x)) st=_
 rw [Gt,kN,h]
 obtain ⟨e,s⟩:=r
 cases e with
 | nrm=>exact absurd rfl hr
 | _=>rfl
theorem wrap64{n:Int}(h1 : -9223372036854775808≤n)(h2:n≤9223372036854775807):IntKind.i64.wrap n=n:=by
 simp [IntKind.wrap,IntKind.bits,IntKind.signed];omega
end Go.Proofs.YtkkkkondjclcnaaGreat.A
