/- The abstract run without a bound on its length, and how it goes on: one equation for each command. -/
import Derived.Test.YtkkkkondjclcnaaGreatAbs2
set_option linter.unusedSectionVars false
set_option linter.unusedVariables false
set_option linter.unusedSimpArgs false
set_option linter.constructorNameAsVariable false
namespace Go.Proofs.YtkkkkondjclcnaaGreat.A
open Go
def aM{α:Type}(x y:Option α):Prop:=∀ r,x=some r→y=some r
theorem aM.refl{α:Type}(x:Option α):aM x x:=fun _ h=>h
theorem aM.bind{α β:Type}{x y:Option α}{f g:α→Option β}(h:aM x y)(hf:∀ a,aM (f a) (g a)):aM (x.bind f) (y.bind g):=by
 intro r hr
 obtain ⟨a,ha,hfa⟩:=Option.bind_eq_some_iff.1 hr
 exact Option.bind_eq_some_iff.2 ⟨a,h a ha,hf a r hfa⟩
theorem aM.ite{α:Type}{c:Prop}[Decidable c]{x y x' y':Option α}(h:aM x x')(h':aM y y'):aM (if c then x else y) (if c then x' else y'):=by
 split
 ·exact h
 ·exact h'
def BI(R R':Rec):Prop:=∀ E f args hp,aM (R E f args hp) (R' E f args hp)
abbrev BJ:=Env→AC→St→Option (aI×St)
def Qh(X X':BJ):Prop:=∀ E c st,aM (X E c st) (X' E c st)
theorem iu{G:oc}{X X':BJ}(h:Qh X X'):BI (fP G X) (fP G X'):=fun _ _ _ _=>
 aM.bind (aM.refl _) fun _=>aM.bind (h _ _ _) fun _=>aM.refl _
theorem td{R R':Rec}(h:BI R R'){Ω:cm}{E:Env}{st:St}{m:Nat}{f:FuncId}{args:List AV} :
  aM (bk R Ω E st m f args) (bk R' Ω E st m f args):=by
 unfold bk
 split
 ·exact aM.bind (aM.refl _) fun _=>aM.bind (h _ _ _ _) fun _=>aM.refl _
 ·exact aM.refl _
 ·exact aM.refl _
theorem vk{R R':Rec}(h:BI R R'){Ω:cm}{E:Env}{st:St}{f:FuncId}{args:List AV} : aM (bj R Ω E st f args) (bj R' Ω E st f args):=
 aM.ite (td h)<|aM.ite (aM.bind (h _ _ _ _) fun _=>aM.refl _) (aM.refl _)
theorem zP{R R':Rec}(h:BI R R'){E:Env}{st:St}{f:FuncId}{args:List AV} : aM (ie R E st f args) (ie R' E st f args):=
 aM.ite (aM.bind (h _ _ _ _) fun _=>aM.refl _) (aM.refl _)
theorem xh{R R':Rec}(h:BI R R'){Ω:cm}{E:Env}{st:St}{d:Option Nat}(o:nH) :
  aM (execOp R Ω E st d o) (execOp R' Ω E st d o):=by
 cases o with
 | ca m f args=>exact td h
 | cf m x args=>
  simp only [execOp]
  split
  ·exact aM.ite (td h) (aM.refl _)
  ·exact aM.refl _
 | c2 f args=>exact vk h
 | d2 x args=>
  simp only [execOp]
  split
  ·exact aM.ite (vk h) (vk h)
  ·exact aM.refl _
 | ck f args=>exact aM.bind (aM.refl _) fun _=>aM.ite (aM.bind (h _ _ _ _) fun _=>aM.refl _) (aM.refl _)
 | co nd f args=>
  refine aM.ite (aM.bind (h _ _ _ _) fun r=>?_) (aM.refl _)
  split
  ·exact aM.refl _
  ·exact td h
  ·exact aM.refl _
 | ch f args sl dl ow=>exact aM.ite (aM.bind (h _ _ _ _) fun _=>aM.refl _) (aM.refl _)
 | c3 f args=>exact zP h
 | d3 x args=>
  simp only [execOp]
  split
  ·exact aM.ite (zP h) (aM.refl _)
  ·exact aM.refl _
 | _=>exact aM.refl _
theorem CO{R R':Rec}(h:BI R R'){Ω:cm}{E:Env}{st:St}{g:dL} : aM (gw R Ω E st g) (gw R' Ω E st g):=by
 unfold gw
 split
 ·exact aM.bind (xh h _) fun _=>aM.refl _
 ·exact aM.bind (aM.refl _) fun _=>aM.ite (aM.bind (xh h _) fun _=>aM.refl _) (aM.refl _)
theorem vm{R R':Rec}(h:BI R R'){Ω:cm}{E:Env} : ∀ (gs:List dL)(st:St),aM (kQ R Ω E st gs) (kQ R' Ω E st gs)
 | [],_=>aM.refl _
 | _::gs,_=>aM.bind (CO h) fun _=>vm h gs _
theorem CP{R R':Rec}(h:BI R R'){Ω:cm}{E:Env}{p:bw}{v:St} : aM (jt R Ω E p v) (jt R' Ω E p v):=
 aM.ite (aM.bind (xh h _) fun _=>aM.refl _) (aM.refl _)
theorem I4{R R':Rec}(h:BI R R'){Ω:cm}{E:Env}{st:St}{p:bw} : aM (cC R Ω E st p) (cC R' Ω E st p):=by
 unfold cC
 refine aM.ite (aM.bind ?_ fun _=>aM.refl _) (CO h)
 unfold cB
 split
 ·exact CP h
 ·exact aM.bind (aM.refl _) fun _=>aM.ite (CP h) (aM.refl _)
theorem yB{R R':Rec}(h:BI R R'){Ω:cm}{E:Env} : ∀ (gs:List bw)(st:St),aM (kD R Ω E st gs) (kD R' Ω E st gs)
 | [],_=>aM.refl _
 | _::gs,_=>aM.bind (I4 h) fun _=>yB h gs _
theorem wE{k k':St→Option (aI×St)}(h:∀ st,aM (k st) (k' st))(r:aI×St):aM (nu k r) (nu k' r):=by
 unfold nu
 split
 ·exact h _
 ·exact aM.refl _
section
variable {G:oc}{Ω:cm}
theorem xi{dp:Nat}{X X':AC→St→Option (aI×St)}(h:∀ c st,aM (X c st) (X' c st)){x:Nat}{y b:AC} : ∀ (ns:List Int)(st:St),aM (rounds dp X x y b ns st) (rounds dp X' x y b ns st)
 | [],_=>aM.refl _
 | n::ns,st=>by
  unfold rounds
  refine aM.ite (aM.bind (h _ _) fun q=>?_) (aM.refl _)
  split
  ·refine aM.bind (h _ _) fun r=>?_
   split
   ·exact xi h ns _
   ·exact aM.refl _
  ·exact aM.refl _
theorem Fb:∀ n,Qh (exec G Ω n) (exec G Ω (n+1))
 | 0,_,_,_=>fun r hr=>by simp [exec] at hr
 | n+1,E,c,st=>by
  have ih:=Fb n
  cases c with
  | sk=>exact aM.refl _
  | ex id=>exact aM.refl _
  | rt=>exact aM.refl _
  | rg pre ops kf kb=>exact aM.bind (aM.refl _) fun _=>aM.bind (vm (iu ih) _ _) fun _=>aM.refl _
  | dg pre mks ops kf kb=>exact aM.bind (aM.refl _) fun _=>aM.ite (aM.bind (yB (iu ih) _ _) fun _=>aM.refl _) (aM.refl _)
  | sq x y=>exact aM.bind (ih _ _ _) fun _=>wE (fun _=>ih _ _ _) _
  | ite c x y=>exact aM.bind (aM.refl _) fun _=>aM.ite (ih _ _ _) (ih _ _ _)
  | bl id x=>exact aM.bind (ih _ _ _) fun _=>aM.refl _
  | lp x=>exact aM.bind (ih _ _ _) fun _=>wE (fun _=>ih _ _ _) _
  | kp kf kb x=>exact ih _ _ _
  | bad=>exact aM.refl _
  | ru g x y b=>exact aM.ite (aM.refl _) (aM.bind (aM.refl _) fun ns=>xi (fun c st=>ih _ c st) ns st)
theorem D8{n m:Nat}(h:n≤m):Qh (exec G Ω n) (exec G Ω m):=by
 induction h with
 | refl=>exact fun _ _ _ _ h=>h
 | step _ ih=>exact fun E c st r hr=>Fb _ E c st r (ih E c st r hr)
noncomputable def run(G:oc)(Ω:cm):BJ:=fun E c st=>
 open Classical in if h:∃ n,(exec G Ω n E c st).isSome=true then exec G Ω (Classical.choose h) E c st else none
theorem ri{E:Env}{c:AC}{st:St}{r:aI×St} : run G Ω E c st=some r↔∃ n,exec G Ω n E c st=some r:=by
 constructor
 ·intro h
  unfold run at h
  split at h
  ·exact ⟨_,h⟩
  ·cases h
 ·rintro ⟨n,h⟩
  have hex:∃ n,(exec G Ω n E c st).isSome=true:=⟨n,by rw [h];rfl⟩
  unfold run
  rw [dif_pos hex]
  have hc:=Classical.choose_spec hex
  obtain ⟨r',hr'⟩:=Option.isSome_iff_exists.1 hc
  rw [hr']
  have h1:=D8 (Nat.le_max_left n (Classical.choose hex)) E c st r h
  have h2:=D8 (Nat.le_max_right n (Classical.choose hex)) E c st r' hr'
  rw [h1] at h2
  exact h2.symm
theorem gP(n:Nat):Qh (exec G Ω n) (run G Ω):=fun _ _ _ _ h=>ri.2 ⟨n,h⟩
noncomputable def call(G:oc)(Ω:cm):Rec:=fP G (run G Ω)
def Fin{α:Type}(x:Option α)(y:Nat→Option α):Prop:=∀ r,x=some r→∃ n,∀ m,n≤m→y m=some r
theorem Fin.same{α:Type}(x:Option α):Fin x fun _=>x:=fun _ h=>⟨0,fun _ _=>h⟩
theorem Fin.bind{α β:Type}{x:Option α}{y:Nat→Option α}{f:α→Option β}{g:Nat→α→Option β}(h:Fin x y)(hf:∀ a,Fin (f a) fun n=>g n a) :
  Fin (x.bind f) fun n=>(y n).bind (g n):=by
 intro r hr
 obtain ⟨a,ha,hfa⟩:=Option.bind_eq_some_iff.1 hr
 obtain ⟨n,hn⟩:=h a ha
 obtain ⟨m,hm⟩:=hf a r hfa
 exact ⟨max n m,fun k hk=>Option.bind_eq_some_iff.2 ⟨a,hn k (by omega),hm k (by omega)⟩⟩
theorem Fin.ite{α:Type}{c:Prop}[Decidable c]{x x':Option α}{y y':Nat→Option α}(h:Fin x y)(h':Fin x' y'):Fin (if c then x else x') fun n=>if c then y n else y' n:=by
 split
 ·exact h
 ·exact h'
theorem lZ(E:Env)(c:AC)(st:St):Fin (run G Ω E c st) fun n=>exec G Ω n E c st:=by
 intro r hr
 obtain ⟨n,hn⟩:=ri.1 hr
 exact ⟨n,fun m hm=>D8 hm _ _ _ _ hn⟩
theorem jX(E:Env)(f:FuncId)(args:List AV)(hp:HP):Fin (call G Ω E f args hp) fun n=>fP G (exec G Ω n) E f args hp:=
 Fin.bind (Fin.same _) fun _=>Fin.bind (lZ _ _ _) fun _=>Fin.same _
theorem uG(E:Env)(st:St)(m:Nat)(f:FuncId)(args:List AV) :
  Fin (bk (call G Ω) Ω E st m f args) fun n=>bk (fP G (exec G Ω n)) Ω E st m f args:=by
 unfold bk
 split
 ·exact Fin.bind (Fin.same _) fun _=>Fin.bind (jX _ _ _ _) fun _=>Fin.same _
 ·exact Fin.same _
 ·exact Fin.same _
theorem xj(E:Env)(st:St)(f:FuncId)(args:List AV):Fin (bj (call G Ω) Ω E st f args) fun n=>bj (fP G (exec G Ω n)) Ω E st f args:=
 Fin.ite (uG _ _ _ _ _)<|Fin.ite (Fin.bind (jX _ _ _ _) fun _=>Fin.same _) (Fin.same _)
theorem yC(E:Env)(st:St)(d:Option Nat)(o:nH) :
  Fin (execOp (call G Ω) Ω E st d o) fun n=>execOp (fP G (exec G Ω n)) Ω E st d o:=by
 cases o with
 | ca m f args=>exact uG _ _ _ _ _
 | cf m x args=>
  simp only [execOp]
  split
  ·exact Fin.ite (uG _ _ _ _ _) (Fin.same _)
  ·exact Fin.same _
 | c2 f args=>exact xj _ _ _ _
 | d2 x args=>
  simp only [execOp]
  split
  ·exact Fin.ite (xj _ _ _ _) (xj _ _ _ _)
  ·exact Fin.same _
 | c3 f args=>exact Fin.ite (Fin.bind (jX _ _ _ _) fun _=>Fin.same _) (Fin.same _)
 | d3 x args=>
  simp only [execOp]
  split
  ·exact Fin.ite (Fin.ite (Fin.bind (jX _ _ _ _) fun _=>Fin.same _) (Fin.same _)) (Fin.same _)
  ·exact Fin.same _
 | ck f args=>exact Fin.bind (Fin.same _) fun _=>Fin.ite (Fin.bind (jX _ _ _ _) fun _=>Fin.same _) (Fin.same _)
 | co nd f args=>
  refine Fin.ite (Fin.bind (jX _ _ _ _) fun r=>?_) (Fin.same _)
  split
  ·exact Fin.same _
  ·exact uG _ _ _ _ _
  ·exact Fin.same _
 | ch f args sl dl ow=>exact Fin.ite (Fin.bind (jX _ _ _ _) fun _=>Fin.same _) (Fin.same _)
 | _=>exact Fin.same _
theorem Fc(E:Env)(st:St)(g:dL):Fin (gw (call G Ω) Ω E st g) fun n=>gw (fP G (exec G Ω n)) Ω E st g:=by
 unfold gw
 split
 ·exact Fin.bind (yC _ _ _ _) fun _=>Fin.same _
 ·exact Fin.bind (Fin.same _) fun _=>Fin.ite (Fin.bind (yC _ _ _ _) fun _=>Fin.same _) (Fin.same _)
theorem BK(E:Env):∀ (gs:List dL)(st:St),Fin (kQ (call G Ω) Ω E st gs) fun n=>kQ (fP G (exec G Ω n)) Ω E st gs
 | [],_=>Fin.same _
 | _::gs,_=>Fin.bind (Fc _ _ _) fun _=>BK E gs _
theorem Fe(E:Env)(p:bw)(v:St):Fin (jt (call G Ω) Ω E p v) fun n=>jt (fP G (exec G Ω n)) Ω E p v:=
 Fin.ite (Fin.bind (yC _ _ _ _) fun _=>Fin.same _) (Fin.same _)
theorem KV(E:Env)(st:St)(p:bw):Fin (cC (call G Ω) Ω E st p) fun n=>cC (fP G (exec G Ω n)) Ω E st p:=by
 unfold cC
 refine Fin.ite (Fin.bind ?_ fun _=>Fin.same _) (Fc _ _ _)
 unfold cB
 split
 ·exact Fe _ _ _
 ·exact Fin.bind (Fin.same _) fun _=>Fin.ite (Fe _ _ _) (Fin.same _)
theorem Ff(E:Env):∀ (gs:List bw)(st:St),Fin (kD (call G Ω) Ω E st gs) fun n=>kD (fP G (exec G Ω n)) Ω E st gs
 | [],_=>Fin.same _
 | _::gs,_=>Fin.bind (KV _ _ _) fun _=>Ff E gs _
theorem GN{k:St→Option (aI×St)}{k':Nat→St→Option (aI×St)}(h:∀ st,Fin (k st) fun n=>k' n st)(r:aI×St) :
  Fin (nu k r) fun n=>nu (k' n) r:=by
 unfold nu
 split
 ·exact h _
 ·exact Fin.same _
theorem Sk{α:Type}{x y:Option α}(h:aM x y)(h':aM y x):x=y:=by
 cases x with
 | none=>cases y with
  | none=>rfl
  | some r=>exact (h' r rfl)
 | some r=>exact (h r rfl).symm
theorem tF{E:Env}{c:AC}{st:St}{F:Option (aI×St)}{f:Nat→Option (aI×St)}(h:∀ n,exec G Ω (n+1) E c st=f n)
  (hle:∀ n,aM (f n) F) (hfin:Fin F f):run G Ω E c st=F:=by
 refine Sk (fun r hr=>?_) (fun r hr=>?_)
 ·obtain ⟨n,hn⟩:=ri.1 hr
  cases n with
  | zero=>simp [exec] at hn
  | succ n=>exact hle n r ((h n).symm.trans hn)
 ·obtain ⟨n,hn⟩:=hfin r hr
  exact ri.2 ⟨n+1,(h n).trans (hn n (Nat.le_refl _))⟩
variable (E:Env)(st:St)
theorem bU:run G Ω E .sk st=some (.nrm,st):=ri.2 ⟨1,rfl⟩
theorem iC(id:Nat):run G Ω E (.ex id) st=some (.ex id,st):=ri.2 ⟨1,rfl⟩
theorem db:run G Ω E .rt st=some (.ret,st):=ri.2 ⟨1,rfl⟩
theorem k9(x y:AC):run G Ω E (.sq x y) st=(run G Ω E x st).bind (nu fun st1=>run G Ω E y st1):=
 tF (fun _=>rfl) (fun n=>aM.bind (gP n _ _ _) fun _=>wE (fun _=>gP n _ _ _) _)
  (Fin.bind (lZ _ _ _) fun _=>GN (fun _=>lZ _ _ _) _)
theorem CQ(x:AC):run G Ω E (.lp x) st=(run G Ω E x st).bind (nu fun st1=>run G Ω E (.lp x) st1):=
 tF (fun _=>rfl) (fun n=>aM.bind (gP n _ _ _) fun _=>wE (fun _=>gP n _ _ _) _)
  (Fin.bind (lZ _ _ _) fun _=>GN (fun _=>lZ _ _ _) _)
theorem run_ite(c:aO)(x y:AC):run G Ω E (.ite c x y) st=(pK (st.ev c)).bind fun z=>if z=true then run G Ω E x st else run G Ω E y st:=
 tF (fun _=>rfl) (fun n=>aM.bind (aM.refl _) fun _=>aM.ite (gP n _ _ _) (gP n _ _ _))
  (Fin.bind (Fin.same _) fun _=>Fin.ite (lZ _ _ _) (lZ _ _ _))
theorem l8(id:Nat)(x:AC):run G Ω E (.bl id x) st=(run G Ω E x st).bind (inBlock id):=
 tF (fun _=>rfl) (fun n=>aM.bind (gP n _ _ _) fun _=>aM.refl _) (Fin.bind (lZ _ _ _) fun _=>Fin.same _)
theorem tG(pre:List uy)(ops:List dL)(kf kb:List Nat):run G Ω E (.rg pre ops kf kb) st=
  (qP E st pre).bind fun st1=>(kQ (call G Ω) Ω E st1 ops).bind fun st2=>some (.nrm,st2.aH kf kb):=
 tF (fun _=>rfl) (fun n=>aM.bind (aM.refl _) fun _=>aM.bind (vm (iu (gP n)) _ _) fun _=>aM.refl _)
  (Fin.bind (Fin.same _) fun _=>Fin.bind (BK _ _ _) fun _=>Fin.same _)
theorem GO(pre:List uy)(mks:List Nat)(ops:List bw)(kf kb:List Nat):run G Ω E (.dg pre mks ops kf kb) st=
  (qP E st pre).bind fun st1=>if (mks.all (rL E.dp st1)&&ops.all (iS E.dp st1))=true then (kD (call G Ω) Ω E st1 ops).bind fun st2=>some (.nrm,st2.aH kf kb) else none:=
 tF (fun _=>rfl) (fun n=>aM.bind (aM.refl _) fun _=>aM.ite (aM.bind (yB (iu (gP n)) _ _) fun _=>aM.refl _) (aM.refl _))
  (Fin.bind (Fin.same _) fun _=>Fin.ite (Fin.bind (Ff _ _ _) fun _=>Fin.same _) (Fin.same _))
theorem iD(kf kb:List Nat)(x:AC):run G Ω E (.kp kf kb x) st=run G Ω E x (st.aH kf kb):=
 tF (fun _=>rfl) (fun n=>gP n _ _ _) (lZ _ _ _)
theorem np(f:FuncId)(args:List AV)(hp:HP):call G Ω E f args hp=(G f).bind fun fn=>(run G Ω E fn.code ⟨fO 0 args,[],hp⟩).bind fun r=>match r.1 with
  | .ex _=>none
  | _=>(r.2.end_ E fn.res).bind fun x=>some (x,r.2.hp):=rfl
end
structure bm where
 kf:List Nat
 kb:List Nat
 x:AC
def bm.lp(l:bm):AC:=.lp (.kp l.kf l.kb l.x)
noncomputable def ju(G:oc)(Ω:cm)(E:Env)(l:bm)(st:St):Option (aI×St):=run G Ω E l.lp st
theorem Fg(fr:List (Nat×AV))(ks:List Nat)(k:Nat)(h:k∈ks):aj (js fr ks) k=aj fr k:=by
 induction ks with
 | nil=>cases h
 | cons j ks ih=>
  simp only [js,List.map_cons,aj]
  by_cases hj:j=k
  ·rw [if_pos hj,hj]
  ·rw [if_neg hj]
   exact ih ((List.mem_cons.1 h).resolve_left (fun e=>hj e.symm))
theorem wF(bx:List (Nat×List AV))(ks:List Nat)(k:Nat)(h:k∈ks):aq (bT bx ks) k=aq bx k:=by
 induction ks with
 | nil=>cases h
 | cons j ks ih=>
  simp only [bT]
  by_cases hj:j=k
  ·subst hj
   cases hb:aq bx j with
   | some cs=>simp [aq]
   | none=>
    simp only
    by_cases hk:j∈ks
    ·rw [ih hk,hb]
    ·clear ih h
     induction ks with
     | nil=>rfl
     | cons i ks ih2=>
      simp only [bT]
      have hi:i≠j:=fun e=>hk (by rw [e];exact List.mem_cons_self ..)
      have ih3:=ih2 fun hm=>hk (List.mem_cons_of_mem _ hm)
      cases aq bx i with
      | some cs=>simp only [aq,if_neg hi];exact ih3
      | none=>exact ih3
  ·have hk:=(List.mem_cons.1 h).resolve_left (fun e=>hj e.symm)
   cases hb:aq bx j with
   | some cs=>simp only [aq,if_neg hj];exact ih hk
   | none=>exact ih hk
theorem L4(st:St)(kf kb:List Nat):(st.aH kf kb).aH kf kb=st.aH kf kb:=by
 have h1:js (js st.fr kf) kf=js st.fr kf:=by
  show kf.map (fun k=>(k,aj (js st.fr kf) k))=kf.map (fun k=>(k,aj st.fr k))
  exact List.map_congr_left fun k hk=>by rw [Fg st.fr kf k hk]
 have h2:∀ ks,(∀ k∈ks,k∈kb)→bT (bT st.bx kb) ks=bT st.bx ks:=by
  intro ks hs
  induction ks with
  | nil=>rfl
  | cons j ks ih=>
   simp only [bT]
   rw [wF st.bx kb j (hs j (List.mem_cons_self ..)),ih fun k hk=>hs k (List.mem_cons_of_mem _ hk)]
 show (⟨js (js st.fr kf) kf,bT (bT st.bx kb) kb,st.hp⟩:St)=⟨js st.fr kf,bT st.bx kb,st.hp⟩
 rw [h1,h2 kb fun _ h=>h]
theorem ey(G:oc)(Ω:cm)(E:Env)(l:bm)(st:St):run G Ω E l.lp st=ju G Ω E l (st.aH l.kf l.kb):=by
 show run G Ω E (.lp (.kp l.kf l.kb l.x)) st=run G Ω E (.lp (.kp l.kf l.kb l.x)) (st.aH l.kf l.kb)
 rw [CQ,CQ,iD,iD,L4]
def kept(l:bm)(r:aI×St):Option St:=
 match r.1 with
 | .nrm=>some (r.2.aH l.kf l.kb)
 | _=>none
theorem iE{G:oc}{Ω:cm}{E:Env}{l:bm}{st st1:St}(h:(run G Ω E l.x (st.aH l.kf l.kb)).bind (kept l)=some st1):ju G Ω E l st=ju G Ω E l st1:=by
 obtain ⟨r,h1,h2⟩:=Option.bind_eq_some_iff.1 h
 obtain ⟨e,s⟩:=r
 cases e<;>simp [kept] at h2
 subst h2
 show run G Ω E (.lp (.kp l.kf l.kb l.x)) st=_
 rw [CQ,iD,h1,←ey]
 rfl
theorem ig{G:oc}{Ω:cm}{E:Env}{l:bm}{st:St}{r:aI×St}(h:run G Ω E l.x (st.aH l.kf l.kb)=some r)(hr:r.1≠.nrm):ju G Ω E l st=some r:=by
 show run G Ω E (.lp (.kp l.kf l.kb l.x)) st=_
 rw [CQ,iD,h]
 obtain ⟨e,s⟩:=r
 cases e with
 | nrm=>exact absurd rfl hr
 | _=>rfl
theorem wrap64{n:Int}(h1 : -9223372036854775808≤n)(h2:n≤9223372036854775807):IntKind.i64.wrap n=n:=by
 simp [IntKind.wrap,IntKind.bits,IntKind.signed];omega
end Go.Proofs.YtkkkkondjclcnaaGreat.A
