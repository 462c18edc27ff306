/- The abstract run without a bound on its length, and how it goes on: one equation for each command. -/
import Derived.Test.YtdpjofmmokaobaaGreatAbs2
set_option linter.unusedSectionVars false
set_option linter.unusedVariables false
set_option linter.unusedSimpArgs false
set_option linter.constructorNameAsVariable false
namespace Go.Proofs.YtdpjofmmokaobaaGreat.A
open Go
def aJ{α:Type}(x y:Option α):Prop:=∀ r,x=some r→y=some r
theorem aJ.refl{α:Type}(x:Option α):aJ x x:=fun _ h=>h
theorem aJ.bind{α β:Type}{x y:Option α}{f g:α→Option β}(h:aJ x y)(hf:∀ a,aJ (f a) (g a)):aJ (x.bind f) (y.bind g):=by
 intro r hr
 obtain ⟨a,ha,hfa⟩:=Option.bind_eq_some_iff.1 hr
 exact Option.bind_eq_some_iff.2 ⟨a,h a ha,hf a r hfa⟩
theorem aJ.ite{α:Type}{c:Prop}[Decidable c]{x y x' y':Option α}(h:aJ x x')(h':aJ y y'):aJ (if c then x else y) (if c then x' else y'):=by
 split
 ·exact h
 ·exact h'
def yt(R R':Rec):Prop:=∀ E f args hp,aJ (R E f args hp) (R' E f args hp)
abbrev aK:=Env→AC→St→Option (aQ×St)
def MK(X X':aK):Prop:=∀ E c st,aJ (X E c st) (X' E c st)
theorem nQ{G:mY}{X X':aK}(h:MK X X'):yt (fM G X) (fM G X'):=fun _ _ _ _=>
 aJ.bind (aJ.refl _) fun _=>aJ.bind (h _ _ _) fun _=>aJ.refl _
theorem vu{R R':Rec}(h:yt R R'){Ω:cD}{E:Env}{st:St}{m:Nat}{f:FuncId}{args:List AV} :
  aJ (fT R Ω E st m f args) (fT R' Ω E st m f args):=by
 unfold fT
 split
 ·exact aJ.bind (aJ.refl _) fun _=>aJ.bind (h _ _ _ _) fun _=>aJ.refl _
 ·exact aJ.refl _
 ·exact aJ.refl _
theorem yu{R R':Rec}(h:yt R R'){Ω:cD}{E:Env}{st:St}{f:FuncId}{args:List AV} : aJ (jg R Ω E st f args) (jg R' Ω E st f args):=
 aJ.ite (vu h)<|aJ.ite (aJ.bind (h _ _ _ _) fun _=>aJ.refl _) (aJ.refl _)
theorem EX{R R':Rec}(h:yt R R'){E:Env}{st:St}{f:FuncId}{args:List AV} : aJ (p6 R E st f args) (p6 R' E st f args):=
 aJ.ite (aJ.bind (h _ _ _ _) fun _=>aJ.refl _) (aJ.refl _)
theorem EY{R R':Rec}(h:yt R R'){E:Env}{st:St}{d:Nat}{f:FuncId}{args:List AV} : aJ (vS R E st d f args) (vS R' E st d f args):=
 aJ.ite (aJ.bind (h _ _ _ _) fun _=>aJ.refl _) (aJ.refl _)
theorem vv{R R':Rec}(h:yt R R'){Ω:cD}{E:Env}{st:St}{d:Option Nat}(o:mr) :
  aJ (execOp R Ω E st d o) (execOp R' Ω E st d o):=by
 cases o with
 | ca m f args=>exact vu h
 | cf m x args=>
  simp only [execOp]
  split
  ·exact vu h
  ·exact aJ.refl _
 | c2 f args=>exact yu h
 | d2 x args=>
  simp only [execOp]
  split
  ·exact yu h
  ·exact aJ.refl _
 | cn f args=>exact aJ.bind (aJ.refl _) fun _=>EY h
 | ck f args=>exact aJ.bind (aJ.refl _) fun _=>aJ.ite (aJ.bind (h _ _ _ _) fun _=>aJ.refl _) (aJ.refl _)
 | ch f args sl dl ow=>exact aJ.ite (aJ.bind (h _ _ _ _) fun _=>aJ.refl _) (aJ.refl _)
 | c3 f args=>exact EX h
 | _=>exact aJ.refl _
theorem Bq{R R':Rec}(h:yt R R'){Ω:cD}{E:Env}{st:St}{g:dQ} : aJ (fL R Ω E st g) (fL R' Ω E st g):=by
 unfold fL
 split
 ·exact aJ.bind (vv h _) fun _=>aJ.refl _
 ·exact aJ.bind (aJ.refl _) fun _=>aJ.ite (aJ.bind (vv h _) fun _=>aJ.refl _) (aJ.refl _)
theorem tz{R R':Rec}(h:yt R R'){Ω:cD}{E:Env} : ∀ (gs:List dQ)(st:St),aJ (j0 R Ω E st gs) (j0 R' Ω E st gs)
 | [],_=>aJ.refl _
 | _::gs,_=>aJ.bind (Bq h) fun _=>tz h gs _
theorem Br{R R':Rec}(h:yt R R'){Ω:cD}{E:Env}{p:bM}{v:St} : aJ (iJ R Ω E p v) (iJ R' Ω E p v):=
 aJ.ite (aJ.bind (vv h _) fun _=>aJ.refl _) (aJ.refl _)
theorem GN{R R':Rec}(h:yt R R'){Ω:cD}{E:Env}{st:St}{p:bM} : aJ (cG R Ω E st p) (cG R' Ω E st p):=by
 unfold cG
 refine aJ.ite (aJ.bind ?_ fun _=>aJ.refl _) (Bq h)
 unfold cF
 split
 ·exact Br h
 ·exact aJ.bind (aJ.refl _) fun _=>aJ.ite (Br h) (aJ.refl _)
theorem wW{R R':Rec}(h:yt R R'){Ω:cD}{E:Env} : ∀ (gs:List bM)(st:St),aJ (nP R Ω E st gs) (nP R' Ω E st gs)
 | [],_=>aJ.refl _
 | _::gs,_=>aJ.bind (GN h) fun _=>wW h gs _
theorem u6{k k':St→Option (aQ×St)}(h:∀ st,aJ (k st) (k' st))(r:aQ×St):aJ (me k r) (me k' r):=by
 unfold me
 split
 ·exact h _
 ·exact aJ.refl _
section
variable {G:mY}{Ω:cD}
theorem vz{dp:Nat}{X X':AC→St→Option (aQ×St)}(h:∀ c st,aJ (X c st) (X' c st)){x:Nat}{y b:AC} : ∀ (ns:List Int)(st:St),aJ (rounds dp X x y b ns st) (rounds dp X' x y b ns st)
 | [],_=>aJ.refl _
 | n::ns,st=>by
  unfold rounds
  refine aJ.ite (aJ.bind (h _ _) fun q=>?_) (aJ.refl _)
  split
  ·refine aJ.bind (h _ _) fun r=>?_
   split
   ·exact vz h ns _
   ·exact aJ.refl _
  ·exact aJ.refl _
theorem DP:∀ n,MK (exec G Ω n) (exec G Ω (n+1))
 | 0,_,_,_=>fun r hr=>by simp [exec] at hr
 | n+1,E,c,st=>by
  have ih:=DP n
  cases c with
  | sk=>exact aJ.refl _
  | ex id=>exact aJ.refl _
  | rt=>exact aJ.refl _
  | rg pre ops kf kb=>exact aJ.bind (aJ.refl _) fun _=>aJ.bind (tz (nQ ih) _ _) fun _=>aJ.refl _
  | dg pre mks ops kf kb=>exact aJ.bind (aJ.refl _) fun _=>aJ.ite (aJ.bind (wW (nQ ih) _ _) fun _=>aJ.refl _) (aJ.refl _)
  | sq x y=>exact aJ.bind (ih _ _ _) fun _=>u6 (fun _=>ih _ _ _) _
  | ite c x y=>exact aJ.bind (aJ.refl _) fun _=>aJ.ite (ih _ _ _) (ih _ _ _)
  | bl id x=>exact aJ.bind (ih _ _ _) fun _=>aJ.refl _
  | lp x=>exact aJ.bind (ih _ _ _) fun _=>u6 (fun _=>ih _ _ _) _
  | kp kf kb x=>exact ih _ _ _
  | bad=>exact aJ.refl _
  | ru g x y b=>exact aJ.ite (aJ.refl _) (aJ.bind (aJ.refl _) fun ns=>vz (fun c st=>ih _ c st) ns st)
theorem CE{n m:Nat}(h:n≤m):MK (exec G Ω n) (exec G Ω m):=by
 induction h with
 | refl=>exact fun _ _ _ _ h=>h
 | step _ ih=>exact fun E c st r hr=>DP _ E c st r (ih E c st r hr)
noncomputable def run(G:mY)(Ω:cD):aK:=fun E c st=>
 open Classical in if h:∃ n,(exec G Ω n E c st).isSome=true then exec G Ω (Classical.choose h) E c st else none
theorem pR{E:Env}{c:AC}{st:St}{r:aQ×St} : run G Ω E c st=some r↔∃ n,exec G Ω n E c st=some r:=by
 constructor
 ·intro h
  unfold run at h
  split at h
  ·exact ⟨_,h⟩
  ·cases h
 ·rintro ⟨n,h⟩
  have hex:∃ n,(exec G Ω n E c st).isSome=true:=⟨n,by rw [h];rfl⟩
  unfold run
  rw [dif_pos hex]
  have hc:=Classical.choose_spec hex
  obtain ⟨r',hr'⟩:=Option.isSome_iff_exists.1 hc
  rw [hr']
  have h1:=CE (Nat.le_max_left n (Classical.choose hex)) E c st r h
  have h2:=CE (Nat.le_max_right n (Classical.choose hex)) E c st r' hr'
  rw [h1] at h2
  exact h2.symm
theorem kl(n:Nat):MK (exec G Ω n) (run G Ω):=fun _ _ _ _ h=>pR.2 ⟨n,h⟩
noncomputable def call(G:mY)(Ω:cD):Rec:=fM G (run G Ω)
def Fin{α:Type}(x:Option α)(y:Nat→Option α):Prop:=∀ r,x=some r→∃ n,∀ m,n≤m→y m=some r
theorem Fin.same{α:Type}(x:Option α):Fin x fun _=>x:=fun _ h=>⟨0,fun _ _=>h⟩
theorem Fin.bind{α β:Type}{x:Option α}{y:Nat→Option α}{f:α→Option β}{g:Nat→α→Option β}(h:Fin x y)(hf:∀ a,Fin (f a) fun n=>g n a) :
  Fin (x.bind f) fun n=>(y n).bind (g n):=by
 intro r hr
 obtain ⟨a,ha,hfa⟩:=Option.bind_eq_some_iff.1 hr
 obtain ⟨n,hn⟩:=h a ha
 obtain ⟨m,hm⟩:=hf a r hfa
 exact ⟨max n m,fun k hk=>Option.bind_eq_some_iff.2 ⟨a,hn k (by omega),hm k (by omega)⟩⟩
theorem Fin.ite{α:Type}{c:Prop}[Decidable c]{x x':Option α}{y y':Nat→Option α}(h:Fin x y)(h':Fin x' y'):Fin (if c then x else x') fun n=>if c then y n else y' n:=by
 split
 ·exact h
 ·exact h'
theorem kR(E:Env)(c:AC)(st:St):Fin (run G Ω E c st) fun n=>exec G Ω n E c st:=by
 intro r hr
 obtain ⟨n,hn⟩:=pR.1 hr
 exact ⟨n,fun m hm=>CE hm _ _ _ _ hn⟩
theorem lH(E:Env)(f:FuncId)(args:List AV)(hp:HP):Fin (call G Ω E f args hp) fun n=>fM G (exec G Ω n) E f args hp:=
 Fin.bind (Fin.same _) fun _=>Fin.bind (kR _ _ _) fun _=>Fin.same _
theorem wX(E:Env)(st:St)(m:Nat)(f:FuncId)(args:List AV) :
  Fin (fT (call G Ω) Ω E st m f args) fun n=>fT (fM G (exec G Ω n)) Ω E st m f args:=by
 unfold fT
 split
 ·exact Fin.bind (Fin.same _) fun _=>Fin.bind (lH _ _ _ _) fun _=>Fin.same _
 ·exact Fin.same _
 ·exact Fin.same _
theorem Af(E:Env)(st:St)(f:FuncId)(args:List AV):Fin (jg (call G Ω) Ω E st f args) fun n=>jg (fM G (exec G Ω n)) Ω E st f args:=
 Fin.ite (wX _ _ _ _ _)<|Fin.ite (Fin.bind (lH _ _ _ _) fun _=>Fin.same _) (Fin.same _)
theorem wY(E:Env)(st:St)(d:Option Nat)(o:mr) :
  Fin (execOp (call G Ω) Ω E st d o) fun n=>execOp (fM G (exec G Ω n)) Ω E st d o:=by
 cases o with
 | ca m f args=>exact wX _ _ _ _ _
 | cf m x args=>
  simp only [execOp]
  split
  ·exact wX _ _ _ _ _
  ·exact Fin.same _
 | c2 f args=>exact Af _ _ _ _
 | d2 x args=>
  simp only [execOp]
  split
  ·exact Af _ _ _ _
  ·exact Fin.same _
 | c3 f args=>exact Fin.ite (Fin.bind (lH _ _ _ _) fun _=>Fin.same _) (Fin.same _)
 | cn f args=>exact Fin.bind (Fin.same _) fun _=>Fin.ite (Fin.bind (lH _ _ _ _) fun _=>Fin.same _) (Fin.same _)
 | ck f args=>exact Fin.bind (Fin.same _) fun _=>Fin.ite (Fin.bind (lH _ _ _ _) fun _=>Fin.same _) (Fin.same _)
 | ch f args sl dl ow=>exact Fin.ite (Fin.bind (lH _ _ _ _) fun _=>Fin.same _) (Fin.same _)
 | _=>exact Fin.same _
theorem DQ(E:Env)(st:St)(g:dQ):Fin (fL (call G Ω) Ω E st g) fun n=>fL (fM G (exec G Ω n)) Ω E st g:=by
 unfold fL
 split
 ·exact Fin.bind (wY _ _ _ _) fun _=>Fin.same _
 ·exact Fin.bind (Fin.same _) fun _=>Fin.ite (Fin.bind (wY _ _ _ _) fun _=>Fin.same _) (Fin.same _)
theorem Ag(E:Env):∀ (gs:List dQ)(st:St),Fin (j0 (call G Ω) Ω E st gs) fun n=>j0 (fM G (exec G Ω n)) Ω E st gs
 | [],_=>Fin.same _
 | _::gs,_=>Fin.bind (DQ _ _ _) fun _=>Ag E gs _
theorem DR(E:Env)(p:bM)(v:St):Fin (iJ (call G Ω) Ω E p v) fun n=>iJ (fM G (exec G Ω n)) Ω E p v:=
 Fin.ite (Fin.bind (wY _ _ _ _) fun _=>Fin.same _) (Fin.same _)
theorem Io(E:Env)(st:St)(p:bM):Fin (cG (call G Ω) Ω E st p) fun n=>cG (fM G (exec G Ω n)) Ω E st p:=by
 unfold cG
 refine Fin.ite (Fin.bind ?_ fun _=>Fin.same _) (DQ _ _ _)
 unfold cF
 split
 ·exact DR _ _ _
 ·exact Fin.bind (Fin.same _) fun _=>Fin.ite (DR _ _ _) (Fin.same _)
theorem DS(E:Env):∀ (gs:List bM)(st:St),Fin (nP (call G Ω) Ω E st gs) fun n=>nP (fM G (exec G Ω n)) Ω E st gs
 | [],_=>Fin.same _
 | _::gs,_=>Fin.bind (Io _ _ _) fun _=>DS E gs _
theorem EZ{k:St→Option (aQ×St)}{k':Nat→St→Option (aQ×St)}(h:∀ st,Fin (k st) fun n=>k' n st)(r:aQ×St) :
  Fin (me k r) fun n=>me (k' n) r:=by
 unfold me
 split
 ·exact h _
 ·exact Fin.same _
theorem OP{α:Type}{x y:Option α}(h:aJ x y)(h':aJ y x):x=y:=by
 cases x with
 | none=>cases y with
  | none=>rfl
  | some r=>exact (h' r rfl)
 | some r=>exact (h r rfl).symm
theorem rT{E:Env}{c:AC}{st:St}{F:Option (aQ×St)}{f:Nat→Option (aQ×St)}(h:∀ n,exec G Ω (n+1) E c st=f n)
  (hle:∀ n,aJ (f n) F) (hfin:Fin F f):run G Ω E c st=F:=by
 refine OP (fun r hr=>?_) (fun r hr=>?_)
 ·obtain ⟨n,hn⟩:=pR.1 hr
  cases n with
  | zero=>simp [exec] at hn
  | succ n=>exact hle n r ((h n).symm.trans hn)
 ·obtain ⟨n,hn⟩:=hfin r hr
  exact pR.2 ⟨n+1,(h n).trans (hn n (Nat.le_refl _))⟩
variable (E:Env)(st:St)
theorem vU:run G Ω E .sk st=some (.nrm,st):=pR.2 ⟨1,rfl⟩
theorem Jd(id:Nat):run G Ω E (.ex id) st=some (.ex id,st):=pR.2 ⟨1,rfl⟩
theorem qt:run G Ω E .rt st=some (.ret,st):=pR.2 ⟨1,rfl⟩
theorem m0(x y:AC):run G Ω E (.sq x y) st=(run G Ω E x st).bind (me fun st1=>run G Ω E y st1):=
 rT (fun _=>rfl) (fun n=>aJ.bind (kl n _ _ _) fun _=>u6 (fun _=>kl n _ _ _) _)
  (Fin.bind (kR _ _ _) fun _=>EZ (fun _=>kR _ _ _) _)
theorem Bs(x:AC):run G Ω E (.lp x) st=(run G Ω E x st).bind (me fun st1=>run G Ω E (.lp x) st1):=
 rT (fun _=>rfl) (fun n=>aJ.bind (kl n _ _ _) fun _=>u6 (fun _=>kl n _ _ _) _)
  (Fin.bind (kR _ _ _) fun _=>EZ (fun _=>kR _ _ _) _)
theorem run_ite(c:a8)(x y:AC):run G Ω E (.ite c x y) st=(pZ (st.ev c)).bind fun z=>if z=true then run G Ω E x st else run G Ω E y st:=
 rT (fun _=>rfl) (fun n=>aJ.bind (aJ.refl _) fun _=>aJ.ite (kl n _ _ _) (kl n _ _ _))
  (Fin.bind (Fin.same _) fun _=>Fin.ite (kR _ _ _) (kR _ _ _))
theorem o7(id:Nat)(x:AC):run G Ω E (.bl id x) st=(run G Ω E x st).bind (inBlock id):=
 rT (fun _=>rfl) (fun n=>aJ.bind (kl n _ _ _) fun _=>aJ.refl _) (Fin.bind (kR _ _ _) fun _=>Fin.same _)
theorem vV(pre:List u4)(ops:List dQ)(kf kb:List Nat):run G Ω E (.rg pre ops kf kb) st=
  (sN E st pre).bind fun st1=>(j0 (call G Ω) Ω E st1 ops).bind fun st2=>some (.nrm,st2.bq kf kb):=
 rT (fun _=>rfl) (fun n=>aJ.bind (aJ.refl _) fun _=>aJ.bind (tz (nQ (kl n)) _ _) fun _=>aJ.refl _)
  (Fin.bind (Fin.same _) fun _=>Fin.bind (Ag _ _ _) fun _=>Fin.same _)
theorem Je(pre:List u4)(mks:List Nat)(ops:List bM)(kf kb:List Nat):run G Ω E (.dg pre mks ops kf kb) st=
  (sN E st pre).bind fun st1=>if (mks.all (eB E.dp st1)&&ops.all (rA E.dp st1))=true then (nP (call G Ω) Ω E st1 ops).bind fun st2=>some (.nrm,st2.bq kf kb) else none:=
 rT (fun _=>rfl) (fun n=>aJ.bind (aJ.refl _) fun _=>aJ.ite (aJ.bind (wW (nQ (kl n)) _ _) fun _=>aJ.refl _) (aJ.refl _))
  (Fin.bind (Fin.same _) fun _=>Fin.ite (Fin.bind (DS _ _ _) fun _=>Fin.same _) (Fin.same _))
theorem o8(kf kb:List Nat)(x:AC):run G Ω E (.kp kf kb x) st=run G Ω E x (st.bq kf kb):=
 rT (fun _=>rfl) (fun n=>kl n _ _ _) (kR _ _ _)
theorem qY(f:FuncId)(args:List AV)(hp:HP):call G Ω E f args hp=(G f).bind fun fn=>(run G Ω E fn.code ⟨jR 0 args,[],hp⟩).bind fun r=>match r.1 with
  | .ex _=>none
  | _=>(r.2.end_ E fn.res).bind fun x=>some (x,r.2.hp):=rfl
end
structure bR where
 kf:List Nat
 kb:List Nat
 x:AC
def bR.lp(l:bR):AC:=.lp (.kp l.kf l.kb l.x)
noncomputable def CF(G:mY)(Ω:cD)(E:Env)(l:bR)(st:St):Option (aQ×St):=run G Ω E l.lp st
theorem DT(fr:List (Nat×AV))(ks:List Nat)(k:Nat)(h:k∈ks):ax (iI fr ks) k=ax fr k:=by
 induction ks with
 | nil=>cases h
 | cons j ks ih=>
  simp only [iI,List.map_cons,ax]
  by_cases hj:j=k
  ·rw [if_pos hj,hj]
  ·rw [if_neg hj]
   exact ih ((List.mem_cons.1 h).resolve_left (fun e=>hj e.symm))
theorem u7(bx:List (Nat×List AV))(ks:List Nat)(k:Nat)(h:k∈ks):ay (cp bx ks) k=ay bx k:=by
 induction ks with
 | nil=>cases h
 | cons j ks ih=>
  simp only [cp]
  by_cases hj:j=k
  ·subst hj
   cases hb:ay bx j with
   | some cs=>simp [ay]
   | none=>
    simp only
    by_cases hk:j∈ks
    ·rw [ih hk,hb]
    ·clear ih h
     induction ks with
     | nil=>rfl
     | cons i ks ih2=>
      simp only [cp]
      have hi:i≠j:=fun e=>hk (by rw [e];exact List.mem_cons_self ..)
      have ih3:=ih2 fun hm=>hk (List.mem_cons_of_mem _ hm)
      cases ay bx i with
      | some cs=>simp only [ay,if_neg hi];exact ih3
      | none=>exact ih3
  ·have hk:=(List.mem_cons.1 h).resolve_left (fun e=>hj e.symm)
   cases hb:ay bx j with
   | some cs=>simp only [ay,if_neg hj];exact ih hk
   | none=>exact ih hk
theorem Jf(st:St)(kf kb:List Nat):(st.bq kf kb).bq kf kb=st.bq kf kb:=by
 have h1:iI (iI st.fr kf) kf=iI st.fr kf:=by
  show kf.map (fun k=>(k,ax (iI st.fr kf) k))=kf.map (fun k=>(k,ax st.fr k))
  exact List.map_congr_left fun k hk=>by rw [DT st.fr kf k hk]
 have h2:∀ ks,(∀ k∈ks,k∈kb)→cp (cp st.bx kb) ks=cp st.bx ks:=by
  intro ks hs
  induction ks with
  | nil=>rfl
  | cons j ks ih=>
   simp only [cp]
   rw [u7 st.bx kb j (hs j (List.mem_cons_self ..)),ih fun k hk=>hs k (List.mem_cons_of_mem _ hk)]
 show (⟨iI (iI st.fr kf) kf,cp (cp st.bx kb) kb,st.hp⟩:St)=⟨iI st.fr kf,cp st.bx kb,st.hp⟩
 rw [h1,h2 kb fun _ h=>h]
theorem CH(G:mY)(Ω:cD)(E:Env)(l:bR)(st:St):run G Ω E l.lp st=CF G Ω E l (st.bq l.kf l.kb):=by
 show run G Ω E (.lp (.kp l.kf l.kb l.x)) st=run G Ω E (.lp (.kp l.kf l.kb l.x)) (st.bq l.kf l.kb)
 rw [Bs,Bs,o8,o8,Jf]
def kept(l:bR)(r:aQ×St):Option St:=
 match r.1 with
 | .nrm=>some (r.2.bq l.kf l.kb)
 | _=>none
theorem Jg{G:mY}{Ω:cD}{E:Env}{l:bR}{st st1:St}(h:(run G Ω E l.x (st.bq l.kf l.kb)).bind (kept l)=some st1):CF G Ω E l st=CF G Ω E l st1:=by
 obtain ⟨r,h1,h2⟩:=Option.bind_eq_some_iff.1 h
 obtain ⟨e,s⟩:=r
 cases e<;>simp [kept] at h2
 subst h2
 show run G Ω E (.lp (.kp l.kf l.kb l.x)) st=_
 rw [Bs,o8,h1,←CH]
 rfl
theorem KI{G:mY}{Ω:cD}{E:Env}{l:bR}{st:St}{r:aQ×St}(h:run G Ω E l.x (st.bq l.kf l.kb)=some r)(hr:r.1≠.nrm):CF G Ω E l st=some r:=by
 show run G Ω E (.lp (.kp l.kf l.kb l.x)) st=_
 rw [Bs,o8,h]
 obtain ⟨e,s⟩:=r
 cases e with
 | nrm=>exact absurd rfl hr
 | _=>rfl
theorem wrap64{n:Int}(h1 : -9223372036854775808≤n)(h2:n≤9223372036854775807):IntKind.i64.wrap n=n:=by
 simp [IntKind.wrap,IntKind.bits,IntKind.signed];omega
end Go.Proofs.YtdpjofmmokaobaaGreat.A
