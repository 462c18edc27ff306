/- The abstract run without a bound on its length, and how it goes on: one equation for each command. -/
import Derived.Test.YtdpjofmmokaobaaGreatAbs2
set_option linter.unusedSectionVars false
set_option linter.unusedVariables false
set_option linter.unusedSimpArgs false
set_option linter.constructorNameAsVariable false
namespace Go.Proofs.YtdpjofmmokaobaaGreat.A
open Go
def aM{α:Type}(x y:Option α):Prop:=∀ r,x=some r→y=some r
theorem aM.refl{α:Type}(x:Option α):aM x x:=fun _ h=>h
theorem aM.bind{α β:Type}{x y:Option α}{f g:α→Option β}(h:aM x y)(hf:∀ a,aM (f a) (g a)):aM (x.bind f) (y.bind g):=by
 intro r hr
 obtain ⟨a,ha,hfa⟩:=Option.bind_eq_some_iff.1 hr
 exact Option.bind_eq_some_iff.2 ⟨a,h a ha,hf a r hfa⟩
theorem aM.ite{α:Type}{c:Prop}[Decidable c]{x y x' y':Option α}(h:aM x x')(h':aM y y'):aM (if c then x else y) (if c then x' else y'):=by
 split
 ·exact h
 ·exact h'
def yR(R R':Rec):Prop:=∀ E f args hp,aM (R E f args hp) (R' E f args hp)
abbrev aA:=Env→AC→St→Option (aR×St)
def ND(X X':aA):Prop:=∀ E c st,aM (X E c st) (X' E c st)
theorem n7{G:nu}{X X':aA}(h:ND X X'):yR (fT G X) (fT G X'):=fun _ _ _ _=>
 aM.bind (aM.refl _) fun _=>aM.bind (h _ _ _) fun _=>aM.refl _
theorem vU{R R':Rec}(h:yR R R'){Ω:cK}{E:Env}{st:St}{m:Nat}{f:FuncId}{args:List AV} :
  aM (gb R Ω E st m f args) (gb R' Ω E st m f args):=by
 unfold gb
 split
 ·exact aM.bind (aM.refl _) fun _=>aM.bind (h _ _ _ _) fun _=>aM.refl _
 ·exact aM.refl _
 ·exact aM.refl _
theorem yS{R R':Rec}(h:yR R R'){Ω:cK}{E:Env}{st:St}{f:FuncId}{args:List AV} : aM (jv R Ω E st f args) (jv R' Ω E st f args):=
 aM.ite (vU h)<|aM.ite (aM.bind (h _ _ _ _) fun _=>aM.refl _) (aM.refl _)
theorem FF{R R':Rec}(h:yR R R'){E:Env}{st:St}{f:FuncId}{args:List AV} : aM (qb R E st f args) (qb R' E st f args):=
 aM.ite (aM.bind (h _ _ _ _) fun _=>aM.refl _) (aM.refl _)
theorem FG{R R':Rec}(h:yR R R'){E:Env}{st:St}{d:Nat}{f:FuncId}{args:List AV} : aM (wy R E st d f args) (wy R' E st d f args):=
 aM.ite (aM.bind (h _ _ _ _) fun _=>aM.refl _) (aM.refl _)
theorem vV{R R':Rec}(h:yR R R'){Ω:cK}{E:Env}{st:St}{d:Option Nat}(o:mS) :
  aM (execOp R Ω E st d o) (execOp R' Ω E st d o):=by
 cases o with
 | ca m f args=>exact vU h
 | cf m x args=>
  simp only [execOp]
  split
  ·exact vU h
  ·exact aM.refl _
 | c2 f args=>exact yS h
 | d2 x args=>
  simp only [execOp]
  split
  ·exact yS h
  ·exact aM.refl _
 | cn f args=>exact aM.bind (aM.refl _) fun _=>FG h
 | ck f args=>exact aM.bind (aM.refl _) fun _=>aM.ite (aM.bind (h _ _ _ _) fun _=>aM.refl _) (aM.refl _)
 | ch f args sl dl ow=>exact aM.ite (aM.bind (h _ _ _ _) fun _=>aM.refl _) (aM.refl _)
 | c3 f args=>exact FF h
 | _=>exact aM.refl _
theorem BV{R R':Rec}(h:yR R R'){Ω:cK}{E:Env}{st:St}{g:dM} : aM (fS R Ω E st g) (fS R' Ω E st g):=by
 unfold fS
 split
 ·exact aM.bind (vV h _) fun _=>aM.refl _
 ·exact aM.bind (aM.refl _) fun _=>aM.ite (aM.bind (vV h _) fun _=>aM.refl _) (aM.refl _)
theorem tQ{R R':Rec}(h:yR R R'){Ω:cK}{E:Env} : ∀ (gs:List dM)(st:St),aM (kr R Ω E st gs) (kr R' Ω E st gs)
 | [],_=>aM.refl _
 | _::gs,_=>aM.bind (BV h) fun _=>tQ h gs _
theorem BW{R R':Rec}(h:yR R R'){Ω:cK}{E:Env}{p:bQ}{v:St} : aM (iT R Ω E p v) (iT R' Ω E p v):=
 aM.ite (aM.bind (vV h _) fun _=>aM.refl _) (aM.refl _)
theorem Hu{R R':Rec}(h:yR R R'){Ω:cK}{E:Env}{st:St}{p:bQ} : aM (cR R Ω E st p) (cR R' Ω E st p):=by
 unfold cR
 refine aM.ite (aM.bind ?_ fun _=>aM.refl _) (BV h)
 unfold cQ
 split
 ·exact BW h
 ·exact aM.bind (aM.refl _) fun _=>aM.ite (BW h) (aM.refl _)
theorem xq{R R':Rec}(h:yR R R'){Ω:cK}{E:Env} : ∀ (gs:List bQ)(st:St),aM (n6 R Ω E st gs) (n6 R' Ω E st gs)
 | [],_=>aM.refl _
 | _::gs,_=>aM.bind (Hu h) fun _=>xq h gs _
theorem vv{k k':St→Option (aR×St)}(h:∀ st,aM (k st) (k' st))(r:aR×St):aM (mJ k r) (mJ k' r):=by
 unfold mJ
 split
 ·exact h _
 ·exact aM.refl _
section
variable {G:nu}{Ω:cK}
theorem vW{dp:Nat}{X X':AC→St→Option (aR×St)}(h:∀ c st,aM (X c st) (X' c st)){x:Nat}{y b:AC} : ∀ (ns:List Int)(st:St),aM (rounds dp X x y b ns st) (rounds dp X' x y b ns st)
 | [],_=>aM.refl _
 | n::ns,st=>by
  unfold rounds
  refine aM.ite (aM.bind (h _ _) fun q=>?_) (aM.refl _)
  split
  ·refine aM.bind (h _ _) fun r=>?_
   split
   ·exact vW h ns _
   ·exact aM.refl _
  ·exact aM.refl _
theorem Ez:∀ n,ND (exec G Ω n) (exec G Ω (n+1))
 | 0,_,_,_=>fun r hr=>by simp [exec] at hr
 | n+1,E,c,st=>by
  have ih:=Ez n
  cases c with
  | sk=>exact aM.refl _
  | ex id=>exact aM.refl _
  | rt=>exact aM.refl _
  | rg pre ops kf kb=>exact aM.bind (aM.refl _) fun _=>aM.bind (tQ (n7 ih) _ _) fun _=>aM.refl _
  | dg pre mks ops kf kb=>exact aM.bind (aM.refl _) fun _=>aM.ite (aM.bind (xq (n7 ih) _ _) fun _=>aM.refl _) (aM.refl _)
  | sq x y=>exact aM.bind (ih _ _ _) fun _=>vv (fun _=>ih _ _ _) _
  | ite c x y=>exact aM.bind (aM.refl _) fun _=>aM.ite (ih _ _ _) (ih _ _ _)
  | bl id x=>exact aM.bind (ih _ _ _) fun _=>aM.refl _
  | lp x=>exact aM.bind (ih _ _ _) fun _=>vv (fun _=>ih _ _ _) _
  | kp kf kb x=>exact ih _ _ _
  | bad=>exact aM.refl _
  | ru g x y b=>exact aM.ite (aM.refl _) (aM.bind (aM.refl _) fun ns=>vW (fun c st=>ih _ c st) ns st)
theorem Dm{n m:Nat}(h:n≤m):ND (exec G Ω n) (exec G Ω m):=by
 induction h with
 | refl=>exact fun _ _ _ _ h=>h
 | step _ ih=>exact fun E c st r hr=>Ez _ E c st r (ih E c st r hr)
noncomputable def run(G:nu)(Ω:cK):aA:=fun E c st=>
 open Classical in if h:∃ n,(exec G Ω n E c st).isSome=true then exec G Ω (Classical.choose h) E c st else none
theorem pV{E:Env}{c:AC}{st:St}{r:aR×St} : run G Ω E c st=some r↔∃ n,exec G Ω n E c st=some r:=by
 constructor
 ·intro h
  unfold run at h
  split at h
  ·exact ⟨_,h⟩
  ·cases h
 ·rintro ⟨n,h⟩
  have hex:∃ n,(exec G Ω n E c st).isSome=true:=⟨n,by rw [h];rfl⟩
  unfold run
  rw [dif_pos hex]
  have hc:=Classical.choose_spec hex
  obtain ⟨r',hr'⟩:=Option.isSome_iff_exists.1 hc
  rw [hr']
  have h1:=Dm (Nat.le_max_left n (Classical.choose hex)) E c st r h
  have h2:=Dm (Nat.le_max_right n (Classical.choose hex)) E c st r' hr'
  rw [h1] at h2
  exact h2.symm
theorem kA(n:Nat):ND (exec G Ω n) (run G Ω):=fun _ _ _ _ h=>pV.2 ⟨n,h⟩
noncomputable def call(G:nu)(Ω:cK):Rec:=fT G (run G Ω)
def Fin{α:Type}(x:Option α)(y:Nat→Option α):Prop:=∀ r,x=some r→∃ n,∀ m,n≤m→y m=some r
theorem Fin.same{α:Type}(x:Option α):Fin x fun _=>x:=fun _ h=>⟨0,fun _ _=>h⟩
theorem Fin.bind{α β:Type}{x:Option α}{y:Nat→Option α}{f:α→Option β}{g:Nat→α→Option β}(h:Fin x y)(hf:∀ a,Fin (f a) fun n=>g n a) :
  Fin (x.bind f) fun n=>(y n).bind (g n):=by
 intro r hr
 obtain ⟨a,ha,hfa⟩:=Option.bind_eq_some_iff.1 hr
 obtain ⟨n,hn⟩:=h a ha
 obtain ⟨m,hm⟩:=hf a r hfa
 exact ⟨max n m,fun k hk=>Option.bind_eq_some_iff.2 ⟨a,hn k (by omega),hm k (by omega)⟩⟩
theorem Fin.ite{α:Type}{c:Prop}[Decidable c]{x x':Option α}{y y':Nat→Option α}(h:Fin x y)(h':Fin x' y'):Fin (if c then x else x') fun n=>if c then y n else y' n:=by
 split
 ·exact h
 ·exact h'
theorem lu(E:Env)(c:AC)(st:St):Fin (run G Ω E c st) fun n=>exec G Ω n E c st:=by
 intro r hr
 obtain ⟨n,hn⟩:=pV.1 hr
 exact ⟨n,fun m hm=>Dm hm _ _ _ _ hn⟩
theorem l7(E:Env)(f:FuncId)(args:List AV)(hp:HP):Fin (call G Ω E f args hp) fun n=>fT G (exec G Ω n) E f args hp:=
 Fin.bind (Fin.same _) fun _=>Fin.bind (lu _ _ _) fun _=>Fin.same _
theorem xr(E:Env)(st:St)(m:Nat)(f:FuncId)(args:List AV) :
  Fin (gb (call G Ω) Ω E st m f args) fun n=>gb (fT G (exec G Ω n)) Ω E st m f args:=by
 unfold gb
 split
 ·exact Fin.bind (Fin.same _) fun _=>Fin.bind (l7 _ _ _ _) fun _=>Fin.same _
 ·exact Fin.same _
 ·exact Fin.same _
theorem AL(E:Env)(st:St)(f:FuncId)(args:List AV):Fin (jv (call G Ω) Ω E st f args) fun n=>jv (fT G (exec G Ω n)) Ω E st f args:=
 Fin.ite (xr _ _ _ _ _)<|Fin.ite (Fin.bind (l7 _ _ _ _) fun _=>Fin.same _) (Fin.same _)
theorem xt(E:Env)(st:St)(d:Option Nat)(o:mS) :
  Fin (execOp (call G Ω) Ω E st d o) fun n=>execOp (fT G (exec G Ω n)) Ω E st d o:=by
 cases o with
 | ca m f args=>exact xr _ _ _ _ _
 | cf m x args=>
  simp only [execOp]
  split
  ·exact xr _ _ _ _ _
  ·exact Fin.same _
 | c2 f args=>exact AL _ _ _ _
 | d2 x args=>
  simp only [execOp]
  split
  ·exact AL _ _ _ _
  ·exact Fin.same _
 | c3 f args=>exact Fin.ite (Fin.bind (l7 _ _ _ _) fun _=>Fin.same _) (Fin.same _)
 | cn f args=>exact Fin.bind (Fin.same _) fun _=>Fin.ite (Fin.bind (l7 _ _ _ _) fun _=>Fin.same _) (Fin.same _)
 | ck f args=>exact Fin.bind (Fin.same _) fun _=>Fin.ite (Fin.bind (l7 _ _ _ _) fun _=>Fin.same _) (Fin.same _)
 | ch f args sl dl ow=>exact Fin.ite (Fin.bind (l7 _ _ _ _) fun _=>Fin.same _) (Fin.same _)
 | _=>exact Fin.same _
theorem EA(E:Env)(st:St)(g:dM):Fin (fS (call G Ω) Ω E st g) fun n=>fS (fT G (exec G Ω n)) Ω E st g:=by
 unfold fS
 split
 ·exact Fin.bind (xt _ _ _ _) fun _=>Fin.same _
 ·exact Fin.bind (Fin.same _) fun _=>Fin.ite (Fin.bind (xt _ _ _ _) fun _=>Fin.same _) (Fin.same _)
theorem AM(E:Env):∀ (gs:List dM)(st:St),Fin (kr (call G Ω) Ω E st gs) fun n=>kr (fT G (exec G Ω n)) Ω E st gs
 | [],_=>Fin.same _
 | _::gs,_=>Fin.bind (EA _ _ _) fun _=>AM E gs _
theorem EB(E:Env)(p:bQ)(v:St):Fin (iT (call G Ω) Ω E p v) fun n=>iT (fT G (exec G Ω n)) Ω E p v:=
 Fin.ite (Fin.bind (xt _ _ _ _) fun _=>Fin.same _) (Fin.same _)
theorem I4(E:Env)(st:St)(p:bQ):Fin (cR (call G Ω) Ω E st p) fun n=>cR (fT G (exec G Ω n)) Ω E st p:=by
 unfold cR
 refine Fin.ite (Fin.bind ?_ fun _=>Fin.same _) (EA _ _ _)
 unfold cQ
 split
 ·exact EB _ _ _
 ·exact Fin.bind (Fin.same _) fun _=>Fin.ite (EB _ _ _) (Fin.same _)
theorem EC(E:Env):∀ (gs:List bQ)(st:St),Fin (n6 (call G Ω) Ω E st gs) fun n=>n6 (fT G (exec G Ω n)) Ω E st gs
 | [],_=>Fin.same _
 | _::gs,_=>Fin.bind (I4 _ _ _) fun _=>EC E gs _
theorem FH{k:St→Option (aR×St)}{k':Nat→St→Option (aR×St)}(h:∀ st,Fin (k st) fun n=>k' n st)(r:aR×St) :
  Fin (mJ k r) fun n=>mJ (k' n) r:=by
 unfold mJ
 split
 ·exact h _
 ·exact Fin.same _
theorem PN{α:Type}{x y:Option α}(h:aM x y)(h':aM y x):x=y:=by
 cases x with
 | none=>cases y with
  | none=>rfl
  | some r=>exact (h' r rfl)
 | some r=>exact (h r rfl).symm
theorem sc{E:Env}{c:AC}{st:St}{F:Option (aR×St)}{f:Nat→Option (aR×St)}(h:∀ n,exec G Ω (n+1) E c st=f n)
  (hle:∀ n,aM (f n) F) (hfin:Fin F f):run G Ω E c st=F:=by
 refine PN (fun r hr=>?_) (fun r hr=>?_)
 ·obtain ⟨n,hn⟩:=pV.1 hr
  cases n with
  | zero=>simp [exec] at hn
  | succ n=>exact hle n r ((h n).symm.trans hn)
 ·obtain ⟨n,hn⟩:=hfin r hr
  exact pV.2 ⟨n+1,(h n).trans (hn n (Nat.le_refl _))⟩
variable (E:Env)(st:St)
theorem wA:run G Ω E .sk st=some (.nrm,st):=pV.2 ⟨1,rfl⟩
theorem JV(id:Nat):run G Ω E (.ex id) st=some (.ex id,st):=pV.2 ⟨1,rfl⟩
theorem qz:run G Ω E .rt st=some (.ret,st):=pV.2 ⟨1,rfl⟩
theorem nx(x y:AC):run G Ω E (.sq x y) st=(run G Ω E x st).bind (mJ fun st1=>run G Ω E y st1):=
 sc (fun _=>rfl) (fun n=>aM.bind (kA n _ _ _) fun _=>vv (fun _=>kA n _ _ _) _)
  (Fin.bind (lu _ _ _) fun _=>FH (fun _=>lu _ _ _) _)
theorem BX(x:AC):run G Ω E (.lp x) st=(run G Ω E x st).bind (mJ fun st1=>run G Ω E (.lp x) st1):=
 sc (fun _=>rfl) (fun n=>aM.bind (kA n _ _ _) fun _=>vv (fun _=>kA n _ _ _) _)
  (Fin.bind (lu _ _ _) fun _=>FH (fun _=>lu _ _ _) _)
theorem run_ite(c:bj)(x y:AC):run G Ω E (.ite c x y) st=(qa (st.ev c)).bind fun z=>if z=true then run G Ω E x st else run G Ω E y st:=
 sc (fun _=>rfl) (fun n=>aM.bind (aM.refl _) fun _=>aM.ite (kA n _ _ _) (kA n _ _ _))
  (Fin.bind (Fin.same _) fun _=>Fin.ite (lu _ _ _) (lu _ _ _))
theorem pr(id:Nat)(x:AC):run G Ω E (.bl id x) st=(run G Ω E x st).bind (inBlock id):=
 sc (fun _=>rfl) (fun n=>aM.bind (kA n _ _ _) fun _=>aM.refl _) (Fin.bind (lu _ _ _) fun _=>Fin.same _)
theorem wB(pre:List vt)(ops:List dM)(kf kb:List Nat):run G Ω E (.rg pre ops kf kb) st=
  (s8 E st pre).bind fun st1=>(kr (call G Ω) Ω E st1 ops).bind fun st2=>some (.nrm,st2.bw kf kb):=
 sc (fun _=>rfl) (fun n=>aM.bind (aM.refl _) fun _=>aM.bind (tQ (n7 (kA n)) _ _) fun _=>aM.refl _)
  (Fin.bind (Fin.same _) fun _=>Fin.bind (AM _ _ _) fun _=>Fin.same _)
theorem JW(pre:List vt)(mks:List Nat)(ops:List bQ)(kf kb:List Nat):run G Ω E (.dg pre mks ops kf kb) st=
  (s8 E st pre).bind fun st1=>if (mks.all (eG E.dp st1)&&ops.all (rJ E.dp st1))=true then (n6 (call G Ω) Ω E st1 ops).bind fun st2=>some (.nrm,st2.bw kf kb) else none:=
 sc (fun _=>rfl) (fun n=>aM.bind (aM.refl _) fun _=>aM.ite (aM.bind (xq (n7 (kA n)) _ _) fun _=>aM.refl _) (aM.refl _))
  (Fin.bind (Fin.same _) fun _=>Fin.ite (Fin.bind (EC _ _ _) fun _=>Fin.same _) (Fin.same _))
theorem pv(kf kb:List Nat)(x:AC):run G Ω E (.kp kf kb x) st=run G Ω E x (st.bw kf kb):=
 sc (fun _=>rfl) (fun n=>kA n _ _ _) (lu _ _ _)
theorem rf(f:FuncId)(args:List AV)(hp:HP):call G Ω E f args hp=(G f).bind fun fn=>(run G Ω E fn.code ⟨kg 0 args,[],hp⟩).bind fun r=>match r.1 with
  | .ex _=>none
  | _=>(r.2.end_ E fn.res).bind fun x=>some (x,r.2.hp):=rfl
end
structure bY where
 kf:List Nat
 kb:List Nat
 x:AC
def bY.lp(l:bY):AC:=.lp (.kp l.kf l.kb l.x)
noncomputable def Dn(G:nu)(Ω:cK)(E:Env)(l:bY)(st:St):Option (aR×St):=run G Ω E l.lp st
theorem ED(fr:List (Nat×AV))(ks:List Nat)(k:Nat)(h:k∈ks):ax (iS fr ks) k=ax fr k:=by
 induction ks with
 | nil=>cases h
 | cons j ks ih=>
  simp only [iS,List.map_cons,ax]
  by_cases hj:j=k
  ·rw [if_pos hj,hj]
  ·rw [if_neg hj]
   exact ih ((List.mem_cons.1 h).resolve_left (fun e=>hj e.symm))
theorem vz(bx:List (Nat×List AV))(ks:List Nat)(k:Nat)(h:k∈ks):aC (cB bx ks) k=aC bx k:=by
 induction ks with
 | nil=>cases h
 | cons j ks ih=>
  simp only [cB]
  by_cases hj:j=k
  ·subst hj
   cases hb:aC bx j with
   | some cs=>simp [aC]
   | none=>
    simp only
    by_cases hk:j∈ks
    ·rw [ih hk,hb]
    ·clear ih h
     induction ks with
     | nil=>rfl
     | cons i ks ih2=>
      simp only [cB]
      have hi:i≠j:=fun e=>hk (by rw [e];exact List.mem_cons_self ..)
      have ih3:=ih2 fun hm=>hk (List.mem_cons_of_mem _ hm)
      cases aC bx i with
      | some cs=>simp only [aC,if_neg hi];exact ih3
      | none=>exact ih3
  ·have hk:=(List.mem_cons.1 h).resolve_left (fun e=>hj e.symm)
   cases hb:aC bx j with
   | some cs=>simp only [aC,if_neg hj];exact ih hk
   | none=>exact ih hk
theorem JX(st:St)(kf kb:List Nat):(st.bw kf kb).bw kf kb=st.bw kf kb:=by
 have h1:iS (iS st.fr kf) kf=iS st.fr kf:=by
  show kf.map (fun k=>(k,ax (iS st.fr kf) k))=kf.map (fun k=>(k,ax st.fr k))
  exact List.map_congr_left fun k hk=>by rw [ED st.fr kf k hk]
 have h2:∀ ks,(∀ k∈ks,k∈kb)→cB (cB st.bx kb) ks=cB st.bx ks:=by
  intro ks hs
  induction ks with
  | nil=>rfl
  | cons j ks ih=>
   simp only [cB]
   rw [vz st.bx kb j (hs j (List.mem_cons_self ..)),ih fun k hk=>hs k (List.mem_cons_of_mem _ hk)]
 show (⟨iS (iS st.fr kf) kf,cB (cB st.bx kb) kb,st.hp⟩:St)=⟨iS st.fr kf,cB st.bx kb,st.hp⟩
 rw [h1,h2 kb fun _ h=>h]
theorem Dp(G:nu)(Ω:cK)(E:Env)(l:bY)(st:St):run G Ω E l.lp st=Dn G Ω E l (st.bw l.kf l.kb):=by
 show run G Ω E (.lp (.kp l.kf l.kb l.x)) st=run G Ω E (.lp (.kp l.kf l.kb l.x)) (st.bw l.kf l.kb)
 rw [BX,BX,pv,pv,JX]
def kept(l:bY)(r:aR×St):Option St:=
 match r.1 with
 | .nrm=>some (r.2.bw l.kf l.kb)
 | _=>none
theorem JY{G:nu}{Ω:cK}{E:Env}{l:bY}{st st1:St}(h:(run G Ω E l.x (st.bw l.kf l.kb)).bind (kept l)=some st1):Dn G Ω E l st=Dn G Ω E l st1:=by
 obtain ⟨r,h1,h2⟩:=Option.bind_eq_some_iff.1 h
 obtain ⟨e,s⟩:=r
 cases e<;>simp [kept] at h2
 subst h2
 show run G Ω E (.lp (.kp l.kf l.kb l.x)) st=_
 rw [BX,pv,h1,←Dp]
 rfl
theorem Lz{G:nu}{Ω:cK}{E:Env}{l:bY}{st:St}{r:aR×St}(h:run G Ω E l.x (st.bw l.kf l.kb)=some r)(hr:r.1≠.nrm):Dn G Ω E l st=some r:=by
 show run G Ω E (.lp (.kp l.kf l.kb l.x)) st=_
 rw [BX,pv,h]
 obtain ⟨e,s⟩:=r
 cases e with
 | nrm=>exact absurd rfl hr
 | _=>rfl
theorem wrap64{n:Int}(h1 : -9223372036854775808≤n)(h2:n≤9223372036854775807):IntKind.i64.wrap n=n:=by
 simp [IntKind.wrap,IntKind.bits,IntKind.signed];omega
end Go.Proofs.YtdpjofmmokaobaaGreat.A
