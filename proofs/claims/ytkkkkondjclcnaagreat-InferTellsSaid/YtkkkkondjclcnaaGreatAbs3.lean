/- The abstract run without a bound on its length, and how it goes on: one equation for each command. -/
import Derived.Test.YtkkkkondjclcnaaGreatAbs2
set_option linter.all false
namespace Go.Proofs.YtkkkkondjclcnaaGreat.A
open Go
def bh{α:Type}(x y:Option α):Prop:=∀ r,x=some r→y=some r
theorem bh.refl{α:Type}(x:Option α):bh x x:=fun _ h=>h
theorem bh.bind{α β:Type}{x y:Option α}{f g:α→Option β}(h:bh x y)(hf:∀ a,bh (f a) (g a)):bh (x.bind f) (y.bind g):=by
 intro r hr
 obtain ⟨a,ha,hfa⟩:=af.1 hr
 exact af.2 ⟨a,h a ha,hf a r hfa⟩
theorem bh.ite{α:Type}{c:Prop}[Decidable c]{x y x' y':Option α}(h:bh x x')(h':bh y y'):bh (if c then x else y) (if c then x' else y'):=by
 split
 ·exact h
 ·exact h'
def E9(R R':Rec):Prop:=∀ E f args hp,bh (R E f args hp) (R' E f args hp)
abbrev Fa:=Env→AC→St→Option (aH×St)
def Uo(X X':Fa):Prop:=∀ E c st,bh (X E c st) (X' E c st)
theorem tY{G:qi}{X X':Fa}(h:Uo X X'):E9 (iH G X) (iH G X'):=fun _ _ _ _=>
 bh.bind (bh.refl _) fun _=>bh.bind (h _ _ _) fun _=>bh.refl _
theorem Ae{R R':Rec}(h:E9 R R'){Ω:dt}{E:Env}{st:St}{m:Nat}{f:FuncId}{args:List AV} :
  bh (aS R Ω E st m f args) (aS R' Ω E st m f args):=by
 unfold aS
 split
 ·exact bh.bind (bh.refl _) fun _=>bh.bind (h _ _ _ _) fun _=>bh.refl _
 ·exact bh.refl _
 ·exact bh.refl _
theorem xO{R R':Rec}(h:E9 R R'){Ω:dt}{E:Env}{st:St}{f:FuncId}{args:List AV} : bh (dq R Ω E st f args) (dq R' Ω E st f args):=
 bh.ite (Ae h)<|bh.ite (bh.bind (h _ _ _ _) fun _=>bh.refl _) (bh.refl _)
theorem C2{R R':Rec}(h:E9 R R'){E:Env}{st:St}{f:FuncId}{args:List AV} : bh (js R E st f args) (js R' E st f args):=
 bh.ite (bh.bind (h _ _ _ _) fun _=>bh.refl _) (bh.refl _)
theorem Af{R R':Rec}(h:E9 R R'){Ω:dt}{E:Env}{st:St}{d:Option Nat}(o:oG) :
  bh (execOp R Ω E st d o) (execOp R' Ω E st d o):=by
 cases o with
 | ca m f args=>exact Ae h
 | cf m x args=>
  simp only [execOp]
  split
  ·exact bh.ite (Ae h) (bh.refl _)
  ·exact bh.refl _
 | c2 f args=>exact xO h
 | d2 x args=>
  simp only [execOp]
  split
  ·exact bh.ite (xO h) (xO h)
  ·exact bh.refl _
 | cm t f args x=>exact bh.bind (bh.refl _) fun _=>bh.ite (bh.bind (bh.refl _) fun _=>bh.bind (h _ _ _ _) fun _=>bh.refl _) (bh.refl _)
 | c3 f args=>exact C2 h
 | d3 x args=>
  simp only [execOp]
  split
  ·exact bh.ite (C2 h) (bh.refl _)
  ·exact bh.refl _
 | _=>exact bh.refl _
theorem Gx{R R':Rec}(h:E9 R R'){Ω:dt}{E:Env}{st:St}{g:cF} : bh (gP R Ω E st g) (gP R' Ω E st g):=by
 unfold gP
 split
 ·exact bh.bind (Af h _) fun _=>bh.refl _
 ·exact bh.bind (bh.refl _) fun _=>bh.ite (bh.bind (Af h _) fun _=>bh.refl _) (bh.refl _)
theorem xP{R R':Rec}(h:E9 R R'){Ω:dt}{E:Env} : ∀ (gs:List cF)(st:St),bh (fK R Ω E st gs) (fK R' Ω E st gs)
 | [],_=>bh.refl _
 | _::gs,_=>bh.bind (Gx h) fun _=>xP h gs _
theorem Gy{R R':Rec}(h:E9 R R'){Ω:dt}{E:Env}{p:b6}{v:St} : bh (jc R Ω E p v) (jc R' Ω E p v):=
 bh.ite (bh.bind (Af h _) fun _=>bh.refl _) (bh.refl _)
theorem No{R R':Rec}(h:E9 R R'){Ω:dt}{E:Env}{st:St}{p:b6} : bh (ee R Ω E st p) (ee R' Ω E st p):=by
 unfold ee
 refine bh.ite (bh.bind ?_ fun _=>bh.refl _) (Gx h)
 unfold ed
 split
 ·exact Gy h
 ·exact bh.bind (bh.refl _) fun _=>bh.ite (Gy h) (bh.refl _)
theorem Br{R R':Rec}(h:E9 R R'){Ω:dt}{E:Env} : ∀ (gs:List b6)(st:St),bh (jY R Ω E st gs) (jY R' Ω E st gs)
 | [],_=>bh.refl _
 | _::gs,_=>bh.bind (No h) fun _=>Br h gs _
theorem zA{k k':St→Option (aH×St)}(h:∀ st,bh (k st) (k' st))(r:aH×St):bh (wz k r) (wz k' r):=by
 unfold wz
 split
 ·exact h _
 ·exact bh.refl _
section
variable {G:qi}{Ω:dt}
theorem Ag{dp:Nat}{X X':AC→St→Option (aH×St)}(h:∀ c st,bh (X c st) (X' c st)){x:Nat}{y b:AC} : ∀ (ns:List Int)(st:St),bh (rounds dp X x y b ns st) (rounds dp X' x y b ns st)
 | [],_=>bh.refl _
 | n::ns,st=>by
  unfold rounds
  refine bh.ite (bh.bind (h _ _) fun q=>?_) (bh.refl _)
  split
  ·refine bh.bind (h _ _) fun r=>?_
   split
   ·exact Ag h ns _
   ·exact bh.refl _
  ·exact bh.refl _
theorem JF:∀ n,Uo (exec G Ω n) (exec G Ω (n+1))
 | 0,_,_,_=>fun r hr=>by simp [exec] at hr
 | n+1,E,c,st=>by
  have ih:=JF n
  cases c with
  | sk=>exact bh.refl _
  | ex id=>exact bh.refl _
  | rt=>exact bh.refl _
  | rg pre ops kf kb=>exact bh.bind (bh.refl _) fun _=>bh.bind (xP (tY ih) _ _) fun _=>bh.refl _
  | dg pre mks ops kf kb=>exact bh.bind (bh.refl _) fun _=>bh.ite (bh.bind (Br (tY ih) _ _) fun _=>bh.refl _) (bh.refl _)
  | sq x y=>exact bh.bind (ih _ _ _) fun _=>zA (fun _=>ih _ _ _) _
  | ite c x y=>exact bh.bind (bh.refl _) fun _=>bh.ite (ih _ _ _) (ih _ _ _)
  | bl id x=>exact bh.bind (ih _ _ _) fun _=>bh.refl _
  | lp x=>exact bh.bind (ih _ _ _) fun _=>zA (fun _=>ih _ _ _) _
  | kp kf kb x=>exact ih _ _ _
  | bad=>exact bh.refl _
  | ru g x y b=>exact bh.ite (bh.refl _) (bh.bind (bh.refl _) fun ns=>Ag (fun c st=>ih _ c st) ns st)
theorem Is{n m:Nat}(h:n≤m):Uo (exec G Ω n) (exec G Ω m):=by
 induction h with
 | refl=>exact fun _ _ _ _ h=>h
 | step _ ih=>exact fun E c st r hr=>JF _ E c st r (ih E c st r hr)
noncomputable def run(G:qi)(Ω:dt):Fa:=fun E c st=>
 open Classical in if h:∃ n,(exec G Ω n E c st).isSome=true then exec G Ω (Classical.choose h) E c st else none
theorem sX{E:Env}{c:AC}{st:St}{r:aH×St} : run G Ω E c st=some r↔∃ n,exec G Ω n E c st=some r:=by
 constructor
 ·intro h
  unfold run at h
  split at h
  ·exact ⟨_,h⟩
  ·cases h
 ·rintro ⟨n,h⟩
  have hex:∃ n,(exec G Ω n E c st).isSome=true:=⟨n,by rw [h];rfl⟩
  unfold run
  rw [dif_pos hex]
  have hc:=CE hex
  obtain ⟨r',hr'⟩:=gd.1 hc
  rw [hr']
  have h1:=Is (CF n (Classical.choose hex)) E c st r h
  have h2:=Is (CH n (Classical.choose hex)) E c st r' hr'
  rw [h1] at h2
  exact h2.symm
theorem nD(n:Nat):Uo (exec G Ω n) (run G Ω):=fun _ _ _ _ h=>sX.2 ⟨n,h⟩
noncomputable def call(G:qi)(Ω:dt):Rec:=iH G (run G Ω)
def Fin{α:Type}(x:Option α)(y:Nat→Option α):Prop:=∀ r,x=some r→∃ n,∀ m,n≤m→y m=some r
theorem Fin.same{α:Type}(x:Option α):Fin x fun _=>x:=fun _ h=>⟨0,fun _ _=>h⟩
theorem Fin.bind{α β:Type}{x:Option α}{y:Nat→Option α}{f:α→Option β}{g:Nat→α→Option β}(h:Fin x y)(hf:∀ a,Fin (f a) fun n=>g n a) :
  Fin (x.bind f) fun n=>(y n).bind (g n):=by
 intro r hr
 obtain ⟨a,ha,hfa⟩:=af.1 hr
 obtain ⟨n,hn⟩:=h a ha
 obtain ⟨m,hm⟩:=hf a r hfa
 exact ⟨max n m,fun k hk=>af.2 ⟨a,hn k (by omega),hm k (by omega)⟩⟩
theorem Fin.ite{α:Type}{c:Prop}[Decidable c]{x x':Option α}{y y':Nat→Option α}(h:Fin x y)(h':Fin x' y'):Fin (if c then x else x') fun n=>if c then y n else y' n:=by
 split
 ·exact h
 ·exact h'
theorem nE(E:Env)(c:AC)(st:St):Fin (run G Ω E c st) fun n=>exec G Ω n E c st:=by
 intro r hr
 obtain ⟨n,hn⟩:=sX.1 hr
 exact ⟨n,fun m hm=>Is hm _ _ _ _ hn⟩
theorem om(E:Env)(f:FuncId)(args:List AV)(hp:HP):Fin (call G Ω E f args hp) fun n=>iH G (exec G Ω n) E f args hp:=
 Fin.bind (Fin.same _) fun _=>Fin.bind (nE _ _ _) fun _=>Fin.same _
theorem Bs(E:Env)(st:St)(m:Nat)(f:FuncId)(args:List AV) :
  Fin (aS (call G Ω) Ω E st m f args) fun n=>aS (iH G (exec G Ω n)) Ω E st m f args:=by
 unfold aS
 split
 ·exact Fin.bind (Fin.same _) fun _=>Fin.bind (om _ _ _ _) fun _=>Fin.same _
 ·exact Fin.same _
 ·exact Fin.same _
theorem Ah(E:Env)(st:St)(f:FuncId)(args:List AV):Fin (dq (call G Ω) Ω E st f args) fun n=>dq (iH G (exec G Ω n)) Ω E st f args:=
 Fin.ite (Bs _ _ _ _ _)<|Fin.ite (Fin.bind (om _ _ _ _) fun _=>Fin.same _) (Fin.same _)
theorem Bt(E:Env)(st:St)(d:Option Nat)(o:oG) :
  Fin (execOp (call G Ω) Ω E st d o) fun n=>execOp (iH G (exec G Ω n)) Ω E st d o:=by
 cases o with
 | ca m f args=>exact Bs _ _ _ _ _
 | cf m x args=>
  simp only [execOp]
  split
  ·exact Fin.ite (Bs _ _ _ _ _) (Fin.same _)
  ·exact Fin.same _
 | c2 f args=>exact Ah _ _ _ _
 | d2 x args=>
  simp only [execOp]
  split
  ·exact Fin.ite (Ah _ _ _ _) (Ah _ _ _ _)
  ·exact Fin.same _
 | c3 f args=>exact Fin.ite (Fin.bind (om _ _ _ _) fun _=>Fin.same _) (Fin.same _)
 | d3 x args=>
  simp only [execOp]
  split
  ·exact Fin.ite (Fin.ite (Fin.bind (om _ _ _ _) fun _=>Fin.same _) (Fin.same _)) (Fin.same _)
  ·exact Fin.same _
 | cm t f args x=>exact Fin.bind (Fin.same _) fun _=>Fin.ite (Fin.bind (Fin.same _) fun _=>Fin.bind (om _ _ _ _) fun _=>Fin.same _) (Fin.same _)
 | _=>exact Fin.same _
theorem JG(E:Env)(st:St)(g:cF):Fin (gP (call G Ω) Ω E st g) fun n=>gP (iH G (exec G Ω n)) Ω E st g:=by
 unfold gP
 split
 ·exact Fin.bind (Bt _ _ _ _) fun _=>Fin.same _
 ·exact Fin.bind (Fin.same _) fun _=>Fin.ite (Fin.bind (Bt _ _ _ _) fun _=>Fin.same _) (Fin.same _)
theorem Fb(E:Env):∀ (gs:List cF)(st:St),Fin (fK (call G Ω) Ω E st gs) fun n=>fK (iH G (exec G Ω n)) Ω E st gs
 | [],_=>Fin.same _
 | _::gs,_=>Fin.bind (JG _ _ _) fun _=>Fb E gs _
theorem JH(E:Env)(p:b6)(v:St):Fin (jc (call G Ω) Ω E p v) fun n=>jc (iH G (exec G Ω n)) Ω E p v:=
 Fin.ite (Fin.bind (Bt _ _ _ _) fun _=>Fin.same _) (Fin.same _)
theorem Pa(E:Env)(st:St)(p:b6):Fin (ee (call G Ω) Ω E st p) fun n=>ee (iH G (exec G Ω n)) Ω E st p:=by
 unfold ee
 refine Fin.ite (Fin.bind ?_ fun _=>Fin.same _) (JG _ _ _)
 unfold ed
 split
 ·exact JH _ _ _
 ·exact Fin.bind (Fin.same _) fun _=>Fin.ite (JH _ _ _) (Fin.same _)
theorem JI(E:Env):∀ (gs:List b6)(st:St),Fin (jY (call G Ω) Ω E st gs) fun n=>jY (iH G (exec G Ω n)) Ω E st gs
 | [],_=>Fin.same _
 | _::gs,_=>Fin.bind (Pa _ _ _) fun _=>JI E gs _
theorem Lo{k:St→Option (aH×St)}{k':Nat→St→Option (aH×St)}(h:∀ st,Fin (k st) fun n=>k' n st)(r:aH×St) :
  Fin (wz k r) fun n=>wz (k' n) r:=by
 unfold wz
 split
 ·exact h _
 ·exact Fin.same _
theorem Xo{α:Type}{x y:Option α}(h:bh x y)(h':bh y x):x=y:=by
 cases x with
 | none=>cases y with
  | none=>rfl
  | some r=>exact (h' r rfl)
 | some r=>exact (h r rfl).symm
theorem vR{E:Env}{c:AC}{st:St}{F:Option (aH×St)}{f:Nat→Option (aH×St)}(h:∀ n,exec G Ω (n+1) E c st=f n)
  (hle:∀ n,bh (f n) F) (hfin:Fin F f):run G Ω E c st=F:=by
 refine Xo (fun r hr=>?_) (fun r hr=>?_)
 ·obtain ⟨n,hn⟩:=sX.1 hr
  cases n with
  | zero=>simp [exec] at hn
  | succ n=>exact hle n r ((h n).symm.trans hn)
 ·obtain ⟨n,hn⟩:=hfin r hr
  exact sX.2 ⟨n+1,(h n).trans (hn n (aT _))⟩
variable (E:Env)(st:St)
theorem bB:run G Ω E .sk st=some (.nrm,st):=sX.2 ⟨1,rfl⟩
theorem du(id:Nat):run G Ω E (.ex id) st=some (.ex id,st):=sX.2 ⟨1,rfl⟩
theorem ef:run G Ω E .rt st=some (.ret,st):=sX.2 ⟨1,rfl⟩
theorem vS(x y:AC):run G Ω E (.sq x y) st=(run G Ω E x st).bind (wz fun st1=>run G Ω E y st1):=
 vR (fun _=>rfl) (fun n=>bh.bind (nD n _ _ _) fun _=>zA (fun _=>nD n _ _ _) _)
  (Fin.bind (nE _ _ _) fun _=>Lo (fun _=>nE _ _ _) _)
theorem Gz(x:AC):run G Ω E (.lp x) st=(run G Ω E x st).bind (wz fun st1=>run G Ω E (.lp x) st1):=
 vR (fun _=>rfl) (fun n=>bh.bind (nD n _ _ _) fun _=>zA (fun _=>nD n _ _ _) _)
  (Fin.bind (nE _ _ _) fun _=>Lo (fun _=>nE _ _ _) _)
theorem run_ite(c:ba)(x y:AC):run G Ω E (.ite c x y) st=(qh (st.ev c)).bind fun z=>if z=true then run G Ω E x st else run G Ω E y st:=
 vR (fun _=>rfl) (fun n=>bh.bind (bh.refl _) fun _=>bh.ite (nD n _ _ _) (nD n _ _ _))
  (Fin.bind (Fin.same _) fun _=>Fin.ite (nE _ _ _) (nE _ _ _))
theorem sw(id:Nat)(x:AC):run G Ω E (.bl id x) st=(run G Ω E x st).bind (inBlock id):=
 vR (fun _=>rfl) (fun n=>bh.bind (nD n _ _ _) fun _=>bh.refl _) (Fin.bind (nE _ _ _) fun _=>Fin.same _)
theorem Av(pre:List uF)(ops:List cF)(kf kb:List Nat):run G Ω E (.rg pre ops kf kb) st=
  (qZ E st pre).bind fun st1=>(fK (call G Ω) Ω E st1 ops).bind fun st2=>some (.nrm,st2.aN kf kb):=
 vR (fun _=>rfl) (fun n=>bh.bind (bh.refl _) fun _=>bh.bind (xP (tY (nD n)) _ _) fun _=>bh.refl _)
  (Fin.bind (Fin.same _) fun _=>Fin.bind (Fb _ _ _) fun _=>Fin.same _)
theorem GA(pre:List uF)(mks:List Nat)(ops:List b6)(kf kb:List Nat):run G Ω E (.dg pre mks ops kf kb) st=
  (qZ E st pre).bind fun st1=>if (mks.all (su E.dp st1)&&ops.all (iG E.dp st1))=true then (jY (call G Ω) Ω E st1 ops).bind fun st2=>some (.nrm,st2.aN kf kb) else none:=
 vR (fun _=>rfl) (fun n=>bh.bind (bh.refl _) fun _=>bh.ite (bh.bind (Br (tY (nD n)) _ _) fun _=>bh.refl _) (bh.refl _))
  (Fin.bind (Fin.same _) fun _=>Fin.ite (Fin.bind (JI _ _ _) fun _=>Fin.same _) (Fin.same _))
theorem jE(kf kb:List Nat)(x:AC):run G Ω E (.kp kf kb x) st=run G Ω E x (st.aN kf kb):=
 vR (fun _=>rfl) (fun n=>nD n _ _ _) (nE _ _ _)
theorem tL(f:FuncId)(args:List AV)(hp:HP):call G Ω E f args hp=(G f).bind fun fn=>(run G Ω E fn.code ⟨jB 0 args,[],hp⟩).bind fun r=>match r.1 with
  | .ex _=>none
  | _=>(r.2.end_ E fn.res).bind fun x=>some (x,r.2.hp):=rfl
end
structure aY where
 kf:List Nat
 kb:List Nat
 x:AC
def aY.lp(l:aY):AC:=.lp (.kp l.kf l.kb l.x)
noncomputable def fL(G:qi)(Ω:dt)(E:Env)(l:aY)(st:St):Option (aH×St):=run G Ω E l.lp st
theorem Qp(fr:List (Nat×AV))(ks:List Nat)(k:Nat)(h:k∈ks):ay (ea fr ks) k=ay fr k:=by
 induction ks with
 | nil=>cases h
 | cons j ks ih=>
  simp only [ea,cq,ay]
  by_cases hj:j=k
  ·rw [aa hj,hj]
  ·rw [ab hj]
   exact ih ((cQ.1 h).resolve_left (fun e=>hj e.symm))
theorem Qq(bx:List (Nat×List AV))(ks:List Nat)(k:Nat)(h:k∈ks):aO (di bx ks) k=aO bx k:=by
 induction ks with
 | nil=>cases h
 | cons j ks ih=>
  simp only [di]
  by_cases hj:j=k
  ·subst hj
   cases hb:aO bx j with
   | some cs=>simp [aO]
   | none=>
    simp only
    by_cases hk:j∈ks
    ·rw [ih hk,hb]
    ·clear ih h
     induction ks with
     | nil=>rfl
     | cons i ks ih2=>
      simp only [di]
      have hi:i≠j:=fun e=>hk (by rw [e];exact List.mem_cons_self ..)
      have ih3:=ih2 fun hm=>hk (vy _ hm)
      cases aO bx i with
      | some cs=>simp only [aO,ab hi];exact ih3
      | none=>exact ih3
  ·have hk:=(cQ.1 h).resolve_left (fun e=>hj e.symm)
   cases hb:aO bx j with
   | some cs=>simp only [aO,ab hj];exact ih hk
   | none=>exact ih hk
theorem Qr(st:St)(kf kb:List Nat):(st.aN kf kb).aN kf kb=st.aN kf kb:=by
 have h1:ea (ea st.fr kf) kf=ea st.fr kf:=by
  show kf.map (fun k=>(k,ay (ea st.fr kf) k))=kf.map (fun k=>(k,ay st.fr k))
  exact sT fun k hk=>by rw [Qp st.fr kf k hk]
 have h2:∀ ks,(∀ k∈ks,k∈kb)→di (di st.bx kb) ks=di st.bx ks:=by
  intro ks hs
  induction ks with
  | nil=>rfl
  | cons j ks ih=>
   simp only [di]
   rw [Qq st.bx kb j (hs j (List.mem_cons_self ..)),ih fun k hk=>hs k (vy _ hk)]
 show (⟨ea (ea st.fr kf) kf,di (di st.bx kb) kb,st.hp⟩:St)=⟨ea st.fr kf,di st.bx kb,st.hp⟩
 rw [h1,h2 kb fun _ h=>h]
theorem dF(G:qi)(Ω:dt)(E:Env)(l:aY)(st:St):run G Ω E l.lp st=fL G Ω E l (st.aN l.kf l.kb):=by
 show run G Ω E (.lp (.kp l.kf l.kb l.x)) st=run G Ω E (.lp (.kp l.kf l.kb l.x)) (st.aN l.kf l.kb)
 rw [Gz,Gz,jE,jE,Qr]
def kept(l:aY)(r:aH×St):Option St:=
 match r.1 with
 | .nrm=>some (r.2.aN l.kf l.kb)
 | _=>none
theorem cP{G:qi}{Ω:dt}{E:Env}{l:aY}{st st1:St}(h:(run G Ω E l.x (st.aN l.kf l.kb)).bind (kept l)=some st1):fL G Ω E l st=fL G Ω E l st1:=by
 obtain ⟨r,h1,h2⟩:=af.1 h
 obtain ⟨e,s⟩:=r
 cases e<;>simp [kept] at h2
 subst h2
 show run G Ω E (.lp (.kp l.kf l.kb l.x)) st=_
 rw [Gz,jE,h1,←dF]
 rfl
theorem cT{G:qi}{Ω:dt}{E:Env}{l:aY}{st:St}{r:aH×St}(h:run G Ω E l.x (st.aN l.kf l.kb)=some r)(hr:r.1≠.nrm):fL G Ω E l st=some r:=by
 show run G Ω E (.lp (.kp l.kf l.kb l.x)) st=_
 rw [Gz,jE,h]
 obtain ⟨e,s⟩:=r
 cases e with
 | nrm=>exact absurd rfl hr
 | _=>rfl
theorem wrap64{n:Int}(h1 : -9223372036854775808≤n)(h2:n≤9223372036854775807):IntKind.i64.wrap n=n:=by
 simp [IntKind.wrap,IntKind.bits,IntKind.signed];omega
end Go.Proofs.YtkkkkondjclcnaaGreat.A
