/- The abstract run without a bound on its length, and how it goes on: one equation for each command. -/
import Derived.Test.YtndeklbmglgonaaGreatAbs2
set_option linter.unusedSectionVars false
set_option linter.unusedVariables false
set_option linter.unusedSimpArgs false
set_option linter.constructorNameAsVariable false
namespace Go.Proofs.YtndeklbmglgonaaGreat.A
open Go
def br{α:Type}(x y:Option α):Prop:=∀ r,x=some r→y=some r
theorem br.refl{α:Type}(x:Option α):br x x:=fun _ h=>h
theorem br.bind{α β:Type}{x y:Option α}{f g:α→Option β}(h:br x y)(hf:∀ a,br (f a) (g a)):br (x.bind f) (y.bind g):=by
 intro r hr
 obtain ⟨a,ha,hfa⟩:=Option.bind_eq_some_iff.1 hr
 exact Option.bind_eq_some_iff.2 ⟨a,h a ha,hf a r hfa⟩
theorem br.ite{α:Type}{c:Prop}[Decidable c]{x y x' y':Option α}(h:br x x')(h':br y y'):br (if c then x else y) (if c then x' else y'):=by
 split
 ·exact h
 ·exact h'
def xu(R R':Rec):Prop:=∀ E f args hp,br (R E f args hp) (R' E f args hp)
abbrev aE:=Env→AC→St→Option (aJ×St)
def Ll(X X':aE):Prop:=∀ E c st,br (X E c st) (X' E c st)
theorem pA{G:p8}{X X':aE}(h:Ll X X'):xu (ik G X) (ik G X'):=fun _ _ _ _=>
 br.bind (br.refl _) fun _=>br.bind (h _ _ _) fun _=>br.refl _
theorem um{R R':Rec}(h:xu R R'){Ω:cP}{E:Env}{st:St}{m:Nat}{f:FuncId}{args:List AV} :
  br (fN R Ω E st m f args) (fN R' Ω E st m f args):=by
 unfold fN
 split
 ·exact br.bind (br.refl _) fun _=>br.bind (h _ _ _ _) fun _=>br.refl _
 ·exact br.refl _
 ·exact br.refl _
theorem xv{R R':Rec}(h:xu R R'){Ω:cP}{E:Env}{st:St}{f:FuncId}{args:List AV} : br (kB R Ω E st f args) (kB R' Ω E st f args):=
 br.ite (um h)<|br.ite (br.bind (h _ _ _ _) fun _=>br.refl _) (br.refl _)
theorem xx{R R':Rec}(h:xu R R'){E:Env}{st:St}{f:FuncId}{args:List AV} : br (kC R E st f args) (kC R' E st f args):=
 br.ite (br.bind (h _ _ _ _) fun _=>br.refl _) (br.refl _)
theorem Fo{R R':Rec}(h:xu R R'){E:Env}{st:St}{d:Nat}{f:FuncId}{args:List AV} : br (uK R E st d f args) (uK R' E st d f args):=
 br.ite (br.bind (h _ _ _ _) fun _=>br.refl _) (br.refl _)
theorem uo{R R':Rec}(h:xu R R'){Ω:cP}{E:Env}{st:St}{d:Option Nat}(o:pe) :
  br (execOp R Ω E st d o) (execOp R' Ω E st d o):=by
 cases o with
 | ca m f args=>exact um h
 | cf m x args=>
  simp only [execOp]
  split
  ·exact um h
  ·exact br.refl _
 | c2 f args=>exact xv h
 | d2 x args=>
  simp only [execOp]
  split
  ·exact xv h
  ·exact br.refl _
 | cn f args=>exact br.bind (br.refl _) fun _=>Fo h
 | vi g f args=>
  refine br.bind (br.refl _) fun z=>?_
  split
  ·exact br.ite (br.bind (h _ _ _ _) fun _=>br.refl _) (br.refl _)
  ·exact br.refl _
 | cw t f args=>exact br.bind (br.refl _) fun _=>br.ite (br.bind (br.refl _) fun _=>br.bind (h _ _ _ _) fun _=>br.refl _) (br.refl _)
 | c3 f args=>exact xx h
 | d3 x args=>
  simp only [execOp]
  split
  ·exact xx h
  ·exact br.refl _
 | _=>exact br.refl _
theorem BQ{R R':Rec}(h:xu R R'){Ω:cP}{E:Env}{st:St}{g:cK} : br (jF R Ω E st g) (jF R' Ω E st g):=by
 unfold jF
 split
 ·exact br.bind (uo h _) fun _=>br.refl _
 ·exact br.bind (br.refl _) fun _=>br.ite (br.bind (uo h _) fun _=>br.refl _) (br.refl _)
theorem sE{R R':Rec}(h:xu R R'){Ω:cP}{E:Env} : ∀ (gs:List cK)(st:St),br (jx R Ω E st gs) (jx R' Ω E st gs)
 | [],_=>br.refl _
 | _::gs,_=>br.bind (BQ h) fun _=>sE h gs _
theorem BR{R R':Rec}(h:xu R R'){Ω:cP}{E:Env}{p:cp}{v:St} : br (jH R Ω E p v) (jH R' Ω E p v):=
 br.ite (br.bind (uo h _) fun _=>br.refl _) (br.refl _)
theorem G2{R R':Rec}(h:xu R R'){Ω:cP}{E:Env}{st:St}{p:cp} : br (eV R Ω E st p) (eV R' Ω E st p):=by
 unfold eV
 refine br.ite (br.bind ?_ fun _=>br.refl _) (BQ h)
 unfold eU
 split
 ·exact BR h
 ·exact br.bind (br.refl _) fun _=>br.ite (BR h) (br.refl _)
theorem vp{R R':Rec}(h:xu R R'){Ω:cP}{E:Env} : ∀ (gs:List cp)(st:St),br (oJ R Ω E st gs) (oJ R' Ω E st gs)
 | [],_=>br.refl _
 | _::gs,_=>br.bind (G2 h) fun _=>vp h gs _
theorem tP{k k':St→Option (aJ×St)}(h:∀ st,br (k st) (k' st))(r:aJ×St):br (sD k r) (sD k' r):=by
 unfold sD
 split
 ·exact h _
 ·exact br.refl _
section
variable {G:p8}{Ω:cP}
theorem Es:∀ n,Ll (exec G Ω n) (exec G Ω (n+1))
 | 0,_,_,_=>fun r hr=>by simp [exec] at hr
 | n+1,E,c,st=>by
  have ih:=Es n
  cases c with
  | sk=>exact br.refl _
  | ex id=>exact br.refl _
  | rt=>exact br.refl _
  | rg pre ops kf kb=>exact br.bind (br.refl _) fun _=>br.bind (sE (pA ih) _ _) fun _=>br.refl _
  | dg pre mks ops kf kb=>exact br.bind (br.refl _) fun _=>br.ite (br.bind (vp (pA ih) _ _) fun _=>br.refl _) (br.refl _)
  | sq x y=>exact br.bind (ih _ _ _) fun _=>tP (fun _=>ih _ _ _) _
  | ite c x y=>exact br.bind (br.refl _) fun _=>br.ite (ih _ _ _) (ih _ _ _)
  | bl id x=>exact br.bind (ih _ _ _) fun _=>br.refl _
  | lp x=>exact br.bind (ih _ _ _) fun _=>tP (fun _=>ih _ _ _) _
  | kp kf kb x=>exact ih _ _ _
  | bad=>exact br.refl _
theorem Dh{n m:Nat}(h:n≤m):Ll (exec G Ω n) (exec G Ω m):=by
 induction h with
 | refl=>exact fun _ _ _ _ h=>h
 | step _ ih=>exact fun E c st r hr=>Es _ E c st r (ih E c st r hr)
noncomputable def run(G:p8)(Ω:cP):aE:=fun E c st=>
 open Classical in if h:∃ n,(exec G Ω n E c st).isSome=true then exec G Ω (Classical.choose h) E c st else none
theorem oX{E:Env}{c:AC}{st:St}{r:aJ×St} : run G Ω E c st=some r↔∃ n,exec G Ω n E c st=some r:=by
 constructor
 ·intro h
  unfold run at h
  split at h
  ·exact ⟨_,h⟩
  ·cases h
 ·rintro ⟨n,h⟩
  have hex:∃ n,(exec G Ω n E c st).isSome=true:=⟨n,by rw [h];rfl⟩
  unfold run
  rw [dif_pos hex]
  have hc:=Classical.choose_spec hex
  obtain ⟨r',hr'⟩:=Option.isSome_iff_exists.1 hc
  rw [hr']
  have h1:=Dh (Nat.le_max_left n (Classical.choose hex)) E c st r h
  have h2:=Dh (Nat.le_max_right n (Classical.choose hex)) E c st r' hr'
  rw [h1] at h2
  exact h2.symm
theorem mq(n:Nat):Ll (exec G Ω n) (run G Ω):=fun _ _ _ _ h=>oX.2 ⟨n,h⟩
noncomputable def call(G:p8)(Ω:cP):Rec:=ik G (run G Ω)
def Fin{α:Type}(x:Option α)(y:Nat→Option α):Prop:=∀ r,x=some r→∃ n,∀ m,n≤m→y m=some r
theorem Fin.same{α:Type}(x:Option α):Fin x fun _=>x:=fun _ h=>⟨0,fun _ _=>h⟩
theorem Fin.bind{α β:Type}{x:Option α}{y:Nat→Option α}{f:α→Option β}{g:Nat→α→Option β}(h:Fin x y)(hf:∀ a,Fin (f a) fun n=>g n a) :
  Fin (x.bind f) fun n=>(y n).bind (g n):=by
 intro r hr
 obtain ⟨a,ha,hfa⟩:=Option.bind_eq_some_iff.1 hr
 obtain ⟨n,hn⟩:=h a ha
 obtain ⟨m,hm⟩:=hf a r hfa
 exact ⟨max n m,fun k hk=>Option.bind_eq_some_iff.2 ⟨a,hn k (by omega),hm k (by omega)⟩⟩
theorem Fin.ite{α:Type}{c:Prop}[Decidable c]{x x':Option α}{y y':Nat→Option α}(h:Fin x y)(h':Fin x' y'):Fin (if c then x else x') fun n=>if c then y n else y' n:=by
 split
 ·exact h
 ·exact h'
theorem m0(E:Env)(c:AC)(st:St):Fin (run G Ω E c st) fun n=>exec G Ω n E c st:=by
 intro r hr
 obtain ⟨n,hn⟩:=oX.1 hr
 exact ⟨n,fun m hm=>Dh hm _ _ _ _ hn⟩
theorem kj(E:Env)(f:FuncId)(args:List AV)(hp:HP):Fin (call G Ω E f args hp) fun n=>ik G (exec G Ω n) E f args hp:=
 Fin.bind (Fin.same _) fun _=>Fin.bind (m0 _ _ _) fun _=>Fin.same _
theorem vq(E:Env)(st:St)(m:Nat)(f:FuncId)(args:List AV) :
  Fin (fN (call G Ω) Ω E st m f args) fun n=>fN (ik G (exec G Ω n)) Ω E st m f args:=by
 unfold fN
 split
 ·exact Fin.bind (Fin.same _) fun _=>Fin.bind (kj _ _ _ _) fun _=>Fin.same _
 ·exact Fin.same _
 ·exact Fin.same _
theorem Am(E:Env)(st:St)(f:FuncId)(args:List AV):Fin (kB (call G Ω) Ω E st f args) fun n=>kB (ik G (exec G Ω n)) Ω E st f args:=
 Fin.ite (vq _ _ _ _ _)<|Fin.ite (Fin.bind (kj _ _ _ _) fun _=>Fin.same _) (Fin.same _)
theorem vt(E:Env)(st:St)(d:Option Nat)(o:pe) :
  Fin (execOp (call G Ω) Ω E st d o) fun n=>execOp (ik G (exec G Ω n)) Ω E st d o:=by
 cases o with
 | ca m f args=>exact vq _ _ _ _ _
 | cf m x args=>
  simp only [execOp]
  split
  ·exact vq _ _ _ _ _
  ·exact Fin.same _
 | c2 f args=>exact Am _ _ _ _
 | d2 x args=>
  simp only [execOp]
  split
  ·exact Am _ _ _ _
  ·exact Fin.same _
 | c3 f args=>exact Fin.ite (Fin.bind (kj _ _ _ _) fun _=>Fin.same _) (Fin.same _)
 | d3 x args=>
  simp only [execOp]
  split
  ·exact Fin.ite (Fin.bind (kj _ _ _ _) fun _=>Fin.same _) (Fin.same _)
  ·exact Fin.same _
 | cn f args=>exact Fin.bind (Fin.same _) fun _=>Fin.ite (Fin.bind (kj _ _ _ _) fun _=>Fin.same _) (Fin.same _)
 | vi g f args=>
  refine Fin.bind (Fin.same _) fun z=>?_
  split
  ·exact Fin.ite (Fin.bind (kj _ _ _ _) fun _=>Fin.same _) (Fin.same _)
  ·exact Fin.same _
 | cw t f args=>exact Fin.bind (Fin.same _) fun _=>Fin.ite (Fin.bind (Fin.same _) fun _=>Fin.bind (kj _ _ _ _) fun _=>Fin.same _) (Fin.same _)
 | _=>exact Fin.same _
theorem Et(E:Env)(st:St)(g:cK):Fin (jF (call G Ω) Ω E st g) fun n=>jF (ik G (exec G Ω n)) Ω E st g:=by
 unfold jF
 split
 ·exact Fin.bind (vt _ _ _ _) fun _=>Fin.same _
 ·exact Fin.bind (Fin.same _) fun _=>Fin.ite (Fin.bind (vt _ _ _ _) fun _=>Fin.same _) (Fin.same _)
theorem An(E:Env):∀ (gs:List cK)(st:St),Fin (jx (call G Ω) Ω E st gs) fun n=>jx (ik G (exec G Ω n)) Ω E st gs
 | [],_=>Fin.same _
 | _::gs,_=>Fin.bind (Et _ _ _) fun _=>An E gs _
theorem Eu(E:Env)(p:cp)(v:St):Fin (jH (call G Ω) Ω E p v) fun n=>jH (ik G (exec G Ω n)) Ω E p v:=
 Fin.ite (Fin.bind (vt _ _ _ _) fun _=>Fin.same _) (Fin.same _)
theorem Iw(E:Env)(st:St)(p:cp):Fin (eV (call G Ω) Ω E st p) fun n=>eV (ik G (exec G Ω n)) Ω E st p:=by
 unfold eV
 refine Fin.ite (Fin.bind ?_ fun _=>Fin.same _) (Et _ _ _)
 unfold eU
 split
 ·exact Eu _ _ _
 ·exact Fin.bind (Fin.same _) fun _=>Fin.ite (Eu _ _ _) (Fin.same _)
theorem Ev(E:Env):∀ (gs:List cp)(st:St),Fin (oJ (call G Ω) Ω E st gs) fun n=>oJ (ik G (exec G Ω n)) Ω E st gs
 | [],_=>Fin.same _
 | _::gs,_=>Fin.bind (Iw _ _ _) fun _=>Ev E gs _
theorem Fp{k:St→Option (aJ×St)}{k':Nat→St→Option (aJ×St)}(h:∀ st,Fin (k st) fun n=>k' n st)(r:aJ×St) :
  Fin (sD k r) fun n=>sD (k' n) r:=by
 unfold sD
 split
 ·exact h _
 ·exact Fin.same _
theorem NF{α:Type}{x y:Option α}(h:br x y)(h':br y x):x=y:=by
 cases x with
 | none=>cases y with
  | none=>rfl
  | some r=>exact (h' r rfl)
 | some r=>exact (h r rfl).symm
theorem sF{E:Env}{c:AC}{st:St}{F:Option (aJ×St)}{f:Nat→Option (aJ×St)}(h:∀ n,exec G Ω (n+1) E c st=f n)
  (hle:∀ n,br (f n) F) (hfin:Fin F f):run G Ω E c st=F:=by
 refine NF (fun r hr=>?_) (fun r hr=>?_)
 ·obtain ⟨n,hn⟩:=oX.1 hr
  cases n with
  | zero=>simp [exec] at hn
  | succ n=>exact hle n r ((h n).symm.trans hn)
 ·obtain ⟨n,hn⟩:=hfin r hr
  exact oX.2 ⟨n+1,(h n).trans (hn n (Nat.le_refl _))⟩
variable (E:Env)(st:St)
theorem I9:run G Ω E .sk st=some (.nrm,st):=oX.2 ⟨1,rfl⟩
theorem Ja(id:Nat):run G Ω E (.ex id) st=some (.ex id,st):=oX.2 ⟨1,rfl⟩
theorem Jb:run G Ω E .rt st=some (.ret,st):=oX.2 ⟨1,rfl⟩
theorem BS(x y:AC):run G Ω E (.sq x y) st=(run G Ω E x st).bind (sD fun st1=>run G Ω E y st1):=
 sF (fun _=>rfl) (fun n=>br.bind (mq n _ _ _) fun _=>tP (fun _=>mq n _ _ _) _)
  (Fin.bind (m0 _ _ _) fun _=>Fp (fun _=>m0 _ _ _) _)
theorem BT(x:AC):run G Ω E (.lp x) st=(run G Ω E x st).bind (sD fun st1=>run G Ω E (.lp x) st1):=
 sF (fun _=>rfl) (fun n=>br.bind (mq n _ _ _) fun _=>tP (fun _=>mq n _ _ _) _)
  (Fin.bind (m0 _ _ _) fun _=>Fp (fun _=>m0 _ _ _) _)
theorem run_ite(c:bp)(x y:AC):run G Ω E (.ite c x y) st=(qU (st.ev c)).bind fun z=>if z=true then run G Ω E x st else run G Ω E y st:=
 sF (fun _=>rfl) (fun n=>br.bind (br.refl _) fun _=>br.ite (mq n _ _ _) (mq n _ _ _))
  (Fin.bind (Fin.same _) fun _=>Fin.ite (m0 _ _ _) (m0 _ _ _))
theorem xy(id:Nat)(x:AC):run G Ω E (.bl id x) st=(run G Ω E x st).bind (inBlock id):=
 sF (fun _=>rfl) (fun n=>br.bind (mq n _ _ _) fun _=>br.refl _) (Fin.bind (m0 _ _ _) fun _=>Fin.same _)
theorem Jc(pre:List tO)(ops:List cK)(kf kb:List Nat):run G Ω E (.rg pre ops kf kb) st=
  (sd E st pre).bind fun st1=>(jx (call G Ω) Ω E st1 ops).bind fun st2=>some (.nrm,st2.bX kf kb):=
 sF (fun _=>rfl) (fun n=>br.bind (br.refl _) fun _=>br.bind (sE (pA (mq n)) _ _) fun _=>br.refl _)
  (Fin.bind (Fin.same _) fun _=>Fin.bind (An _ _ _) fun _=>Fin.same _)
theorem Jd(pre:List tO)(mks:List Nat)(ops:List cp)(kf kb:List Nat):run G Ω E (.dg pre mks ops kf kb) st=
  (sd E st pre).bind fun st1=>if (mks.all (cJ E.dp st1)&&ops.all (BP E.dp st1))=true then (oJ (call G Ω) Ω E st1 ops).bind fun st2=>some (.nrm,st2.bX kf kb) else none:=
 sF (fun _=>rfl) (fun n=>br.bind (br.refl _) fun _=>br.ite (br.bind (vp (pA (mq n)) _ _) fun _=>br.refl _) (br.refl _))
  (Fin.bind (Fin.same _) fun _=>Fin.ite (Fin.bind (Ev _ _ _) fun _=>Fin.same _) (Fin.same _))
theorem uL(kf kb:List Nat)(x:AC):run G Ω E (.kp kf kb x) st=run G Ω E x (st.bX kf kb):=
 sF (fun _=>rfl) (fun n=>mq n _ _ _) (m0 _ _ _)
theorem zg(f:FuncId)(args:List AV)(hp:HP):call G Ω E f args hp=(G f).bind fun fn=>(run G Ω E fn.code ⟨kW 0 args,[],hp⟩).bind fun r=>match r.1 with
  | .ex _=>none
  | _=>(r.2.end_ E fn.res).bind fun x=>some (x,r.2.hp):=rfl
end
structure bq where
 kf:List Nat
 kb:List Nat
 x:AC
def bq.lp(l:bq):AC:=.lp (.kp l.kf l.kb l.x)
noncomputable def Di(G:p8)(Ω:cP)(E:Env)(l:bq)(st:St):Option (aJ×St):=run G Ω E l.lp st
theorem Je(fr:List (Nat×AV))(ks:List Nat)(k:Nat)(h:k∈ks):aC (jG fr ks) k=aC fr k:=by
 induction ks with
 | nil=>cases h
 | cons j ks ih=>
  simp only [jG,List.map_cons,aC]
  by_cases hj:j=k
  ·rw [if_pos hj,hj]
  ·rw [if_neg hj]
   exact ih ((List.mem_cons.1 h).resolve_left (fun e=>hj e.symm))
theorem Jf(bx:List (Nat×List AV))(ks:List Nat)(k:Nat)(h:k∈ks):aP (cL bx ks) k=aP bx k:=by
 induction ks with
 | nil=>cases h
 | cons j ks ih=>
  simp only [cL]
  by_cases hj:j=k
  ·subst hj
   cases hb:aP bx j with
   | some cs=>simp [aP]
   | none=>
    simp only
    by_cases hk:j∈ks
    ·rw [ih hk,hb]
    ·clear ih h
     induction ks with
     | nil=>rfl
     | cons i ks ih2=>
      simp only [cL]
      have hi:i≠j:=fun e=>hk (by rw [e];exact List.mem_cons_self ..)
      have ih3:=ih2 fun hm=>hk (List.mem_cons_of_mem _ hm)
      cases aP bx i with
      | some cs=>simp only [aP,if_neg hi];exact ih3
      | none=>exact ih3
  ·have hk:=(List.mem_cons.1 h).resolve_left (fun e=>hj e.symm)
   cases hb:aP bx j with
   | some cs=>simp only [aP,if_neg hj];exact ih hk
   | none=>exact ih hk
theorem Jg(st:St)(kf kb:List Nat):(st.bX kf kb).bX kf kb=st.bX kf kb:=by
 have h1:jG (jG st.fr kf) kf=jG st.fr kf:=by
  show kf.map (fun k=>(k,aC (jG st.fr kf) k))=kf.map (fun k=>(k,aC st.fr k))
  exact List.map_congr_left fun k hk=>by rw [Je st.fr kf k hk]
 have h2:∀ ks,(∀ k∈ks,k∈kb)→cL (cL st.bx kb) ks=cL st.bx ks:=by
  intro ks hs
  induction ks with
  | nil=>rfl
  | cons j ks ih=>
   simp only [cL]
   rw [Jf st.bx kb j (hs j (List.mem_cons_self ..)),ih fun k hk=>hs k (List.mem_cons_of_mem _ hk)]
 show (⟨jG (jG st.fr kf) kf,cL (cL st.bx kb) kb,st.hp⟩:St)=⟨jG st.fr kf,cL st.bx kb,st.hp⟩
 rw [h1,h2 kb fun _ h=>h]
theorem Dj(G:p8)(Ω:cP)(E:Env)(l:bq)(st:St):run G Ω E l.lp st=Di G Ω E l (st.bX l.kf l.kb):=by
 show run G Ω E (.lp (.kp l.kf l.kb l.x)) st=run G Ω E (.lp (.kp l.kf l.kb l.x)) (st.bX l.kf l.kb)
 rw [BT,BT,uL,uL,Jg]
def kept(l:bq)(r:aJ×St):Option St:=
 match r.1 with
 | .nrm=>some (r.2.bX l.kf l.kb)
 | _=>none
theorem Jh{G:p8}{Ω:cP}{E:Env}{l:bq}{st st1:St}(h:(run G Ω E l.x (st.bX l.kf l.kb)).bind (kept l)=some st1):Di G Ω E l st=Di G Ω E l st1:=by
 obtain ⟨r,h1,h2⟩:=Option.bind_eq_some_iff.1 h
 obtain ⟨e,s⟩:=r
 cases e<;>simp [kept] at h2
 subst h2
 show run G Ω E (.lp (.kp l.kf l.kb l.x)) st=_
 rw [BT,uL,h1,←Dj]
 rfl
theorem Ka{G:p8}{Ω:cP}{E:Env}{l:bq}{st:St}{r:aJ×St}(h:run G Ω E l.x (st.bX l.kf l.kb)=some r)(hr:r.1≠.nrm):Di G Ω E l st=some r:=by
 show run G Ω E (.lp (.kp l.kf l.kb l.x)) st=_
 rw [BT,uL,h]
 obtain ⟨e,s⟩:=r
 cases e with
 | nrm=>exact absurd rfl hr
 | _=>rfl
theorem wrap64{n:Int}(h1 : -9223372036854775808≤n)(h2:n≤9223372036854775807):IntKind.i64.wrap n=n:=by
 simp [IntKind.wrap,IntKind.bits,IntKind.signed];omega
end Go.Proofs.YtndeklbmglgonaaGreat.A
