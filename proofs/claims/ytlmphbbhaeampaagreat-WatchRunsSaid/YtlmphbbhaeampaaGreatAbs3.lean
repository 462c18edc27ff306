/- The abstract run without a bound on its length, and how it goes on: one equation for each command. -/
import Derived.Test.YtlmphbbhaeampaaGreatAbs2
set_option linter.all false
namespace Go.Proofs.YtlmphbbhaeampaaGreat.A
open Go
def cu{α:Type}(x y:Option α):Prop:=∀ r,x=some r→y=some r
variable {α:Type}
theorem cu.refl(x:Option α):cu x x:=fun _ h=>h
variable {β:Type}{x y:Option α}
theorem cu.bind{f g:α→Option β}(h:cu x y)(hf:∀ a,cu (f a) (g a)):cu (x.bind f) (y.bind g):=by
 intro r hr
 obtain ⟨a,ha,u⟩:=au.1 hr
 exact au.2 ⟨a,h a ha,hf a r u⟩
variable {c:Prop}{x':Option α}
theorem cu.ite[Decidable c]{y':Option α}(h:cu x x')(h':cu y y'):cu (if c then x else y) (if c then x' else y'):=by
 split
 ·exact h
 ·exact h'
def IB(R R':Rec):Prop:=∀ E f args hp,cu (R E f args hp) (R' E f args hp)
abbrev bz:=Env→AC→St→Option (bc×St)
def X5(X X':bz):Prop:=∀ E c st,cu (X E c st) (X' E c st)
theorem vR{G:sd}{X X':bz}(h:X5 X X'):IB (kt G X) (kt G X'):=fun _ _ _ _=>
 cu.bind (cu.refl _) fun _=>cu.bind (h _ _ _) fun _=>cu.refl _
variable {R R':Rec}{m:Nat}{f:FuncId}{args:List AV}
theorem CZ(h:IB R R'){Ω:ej}{E:Env}{st:St}:
  cu (cK R Ω E st m f args) (cK R' Ω E st m f args):=by
 unfold cK
 split
 ·exact cu.bind (cu.refl _) fun _=>cu.bind (h _ _ _ _) fun _=>cu.refl _
 ·exact cu.refl _
 ·exact cu.refl _
theorem AR(h:IB R R'){Ω:ej}{E:Env}{st:St}: cu (jo R Ω E st f args) (jo R' Ω E st f args):=
 cu.ite (CZ h)<|cu.ite (cu.bind (h _ _ _ _) fun _=>cu.refl _) (cu.refl _)
theorem OW(h:IB R R'){E:Env}{st:St}: cu (pb R E st f args) (pb R' E st f args):=
 cu.ite (cu.bind (h _ _ _ _) fun _=>cu.refl _) (cu.refl _)
theorem C0(h:IB R R'){Ω:ej}{E:Env}{st:St}{d:Option Nat}(o:qI):
  cu (execOp R Ω E st d o) (execOp R' Ω E st d o):=by
 cases o with
 | ca m f args=>exact CZ h
 | cf m x args=>
  simp only [execOp]
  split
  ·exact cu.ite (CZ h) (cu.refl _)
  ·exact cu.refl _
 | c2 f args=>exact AR h
 | d2 x args=>
  simp only [execOp]
  split
  ·exact cu.ite (AR h) (AR h)
  ·exact cu.refl _
 | ck f args=>exact cu.bind (cu.refl _) fun _=>cu.ite (cu.bind (h _ _ _ _) fun _=>cu.refl _) (cu.refl _)
 | c3 f args=>exact OW h
 | _=>exact cu.refl _
theorem J9(h:IB R R'){Ω:ej}{E:Env}{st:St}{g:dE}: cu (iX R Ω E st g) (iX R' Ω E st g):=by
 unfold iX
 split
 ·exact cu.bind (C0 h _) fun _=>cu.refl _
 ·exact cu.bind (cu.refl _) fun _=>cu.ite (cu.bind (C0 h _) fun _=>cu.refl _) (cu.refl _)
theorem AS{R R':Rec}(h:IB R R'){Ω:ej}{E:Env} : ∀ (gs:List dE)(st:St),cu (ib R Ω E st gs) (ib R' Ω E st gs)
 | [],_=>cu.refl _
 | _::gs,_=>cu.bind (J9 h) fun _=>AS h gs _
variable {p:cz}
theorem Ka(h:IB R R'){Ω:ej}{E:Env}{v:St}: cu (kr R Ω E p v) (kr R' Ω E p v):=
 cu.ite (cu.bind (C0 h _) fun _=>cu.refl _) (cu.refl _)
theorem Rd(h:IB R R'){Ω:ej}{E:Env}{st:St}: cu (e7 R Ω E st p) (e7 R' Ω E st p):=by
 unfold e7
 refine cu.ite (cu.bind ?_ fun _=>cu.refl _) (J9 h)
 unfold eZ
 split
 ·exact Ka h
 ·exact cu.bind (cu.refl _) fun _=>cu.ite (Ka h) (cu.refl _)
theorem Er{R R':Rec}(h:IB R R'){Ω:ej}{E:Env} : ∀ (gs:List cz)(st:St),cu (lB R Ω E st gs) (lB R' Ω E st gs)
 | [],_=>cu.refl _
 | _::gs,_=>cu.bind (Rd h) fun _=>Er h gs _
variable {k:St→Option (bc×St)}
theorem Ci{k':St→Option (bc×St)}(h:∀ st,cu (k st) (k' st))(r:bc×St):cu (qZ k r) (qZ k' r):=by
 unfold qZ
 split
 ·exact h _
 ·exact cu.refl _
section
variable {G:sd}{Ω:ej}
theorem C2{dp:Nat}{X X':AC→St→Option (bc×St)}(h:∀ c st,cu (X c st) (X' c st)){x:Nat}{y b:AC} : ∀ (ns:List Int)(st:St),cu (rounds dp X x y b ns st) (rounds dp X' x y b ns st)
 | [],_=>cu.refl _
 | n::ns,st=>by
  unfold rounds
  refine cu.ite (cu.bind (h _ _) fun q=>?_) (cu.refl _)
  split
  ·refine cu.bind (h _ _) fun r=>?_
   split
   ·exact C2 h ns _
   ·exact cu.refl _
  ·exact cu.refl _
theorem Ns:∀ n,X5 (exec G Ω n) (exec G Ω (n+1))
 | 0,_,_,_=>fun r hr=>by simp [exec] at hr
 | n+1,E,c,st=>by
  have ih:=Ns n
  cases c with
  | sk=>exact cu.refl _
  | ex id=>exact cu.refl _
  | rt=>exact cu.refl _
  | rg pre ops kf kb=>exact cu.bind (cu.refl _) fun _=>cu.bind (AS (vR ih) _ _) fun _=>cu.refl _
  | dg pre mks ops kf kb=>exact cu.bind (cu.refl _) fun _=>cu.ite (cu.bind (Er (vR ih) _ _) fun _=>cu.refl _) (cu.refl _)
  | sq x y=>exact cu.bind (ih _ _ _) fun _=>Ci (fun _=>ih _ _ _) _
  | ite c x y=>exact cu.bind (cu.refl _) fun _=>cu.ite (ih _ _ _) (ih _ _ _)
  | bl id x=>exact cu.bind (ih _ _ _) fun _=>cu.refl _
  | lp x=>exact cu.bind (ih _ _ _) fun _=>Ci (fun _=>ih _ _ _) _
  | kp kf kb x=>exact ih _ _ _
  | bad=>exact cu.refl _
  | ru g x y b=>exact cu.ite (cu.refl _) (cu.bind (cu.refl _) fun ns=>C2 (fun c st=>ih _ c st) ns st)
theorem LY{n:Nat}(h:n≤m):X5 (exec G Ω n) (exec G Ω m):=by
 induction h with
 | refl=>exact fun _ _ _ _ h=>h
 | step _ ih=>exact fun E c st r hr=>Ns _ E c st r (ih E c st r hr)
noncomputable def run(G:sd)(Ω:ej):bz:=fun E c st=>
 open Classical in if h:∃ n,(exec G Ω n E c st).isSome=true then exec G Ω (Classical.choose h) E c st else none
theorem u7{E:Env}{c:AC}{st:St}{r:bc×St} : run G Ω E c st=some r↔∃ n,exec G Ω n E c st=some r:=by
 constructor
 ·intro h
  unfold run at h
  split at h
  ·exact ⟨_,h⟩
  ·cases h
 ·rintro ⟨n,h⟩
  have hex:∃ n,(exec G Ω n E c st).isSome=true:=⟨n,by rw [h];rfl⟩
  unfold run
  rw [dif_pos hex]
  have hc:=F1 hex
  obtain ⟨r',w⟩:=jK.1 hc
  rw [w]
  have h1:=LY (F2 n (Classical.choose hex)) E c st r h
  have h2:=LY (F3 n (Classical.choose hex)) E c st r' w
  rw [h1] at h2
  exact h2.symm
theorem pc(n:Nat):X5 (exec G Ω n) (run G Ω):=fun _ _ _ _ h=>u7.2 ⟨n,h⟩
noncomputable def call(G:sd)(Ω:ej):Rec:=kt G (run G Ω)
def Fin{α:Type}(x:Option α)(y:Nat→Option α):Prop:=∀ r,x=some r→∃ n,∀ m,n≤m→y m=some r
theorem Fin.same(x:Option α):Fin x fun _=>x:=fun _ h=>⟨0,fun _ _=>h⟩
theorem Fin.bind{y:Nat→Option α}{f:α→Option β}{g:Nat→α→Option β}(h:Fin x y)(hf:∀ a,Fin (f a) fun n=>g n a):
  Fin (x.bind f) fun n=>(y n).bind (g n):=by
 intro r hr
 obtain ⟨a,ha,u⟩:=au.1 hr
 obtain ⟨n,hn⟩:=h a ha
 obtain ⟨m,hm⟩:=hf a r u
 exact ⟨max n m,fun k hk=>au.2 ⟨a,hn k (by omega),hm k (by omega)⟩⟩
theorem Fin.ite[Decidable c]{y y':Nat→Option α}(h:Fin x y)(h':Fin x' y'):Fin (if c then x else x') fun n=>if c then y n else y' n:=by
 split
 ·exact h
 ·exact h'
theorem pd(E:Env)(c:AC)(st:St):Fin (run G Ω E c st) fun n=>exec G Ω n E c st:=by
 intro r hr
 obtain ⟨n,hn⟩:=u7.1 hr
 exact ⟨n,fun m hm=>LY hm _ _ _ _ hn⟩
theorem u9(E:Env)(f:FuncId)(args:List AV)(hp:HP):Fin (call G Ω E f args hp) fun n=>kt G (exec G Ω n) E f args hp:=
 Fin.bind (Fin.same _) fun _=>Fin.bind (pd _ _ _) fun _=>Fin.same _
theorem Es(E:Env)(st:St)(m:Nat)(f:FuncId)(args:List AV) :
  Fin (cK (call G Ω) Ω E st m f args) fun n=>cK (kt G (exec G Ω n)) Ω E st m f args:=by
 unfold cK
 split
 ·exact Fin.bind (Fin.same _) fun _=>Fin.bind (u9 _ _ _ _) fun _=>Fin.same _
 ·exact Fin.same _
 ·exact Fin.same _
theorem C4(E:Env)(st:St)(f:FuncId)(args:List AV):Fin (jo (call G Ω) Ω E st f args) fun n=>jo (kt G (exec G Ω n)) Ω E st f args:=
 Fin.ite (Es _ _ _ _ _)<|Fin.ite (Fin.bind (u9 _ _ _ _) fun _=>Fin.same _) (Fin.same _)
theorem Et(E:Env)(st:St)(d:Option Nat)(o:qI) :
  Fin (execOp (call G Ω) Ω E st d o) fun n=>execOp (kt G (exec G Ω n)) Ω E st d o:=by
 cases o with
 | ca m f args=>exact Es _ _ _ _ _
 | cf m x args=>
  simp only [execOp]
  split
  ·exact Fin.ite (Es _ _ _ _ _) (Fin.same _)
  ·exact Fin.same _
 | c2 f args=>exact C4 _ _ _ _
 | d2 x args=>
  simp only [execOp]
  split
  ·exact Fin.ite (C4 _ _ _ _) (C4 _ _ _ _)
  ·exact Fin.same _
 | c3 f args=>exact Fin.ite (Fin.bind (u9 _ _ _ _) fun _=>Fin.same _) (Fin.same _)
 | ck f args=>exact Fin.bind (Fin.same _) fun _=>Fin.ite (Fin.bind (u9 _ _ _ _) fun _=>Fin.same _) (Fin.same _)
 | _=>exact Fin.same _
theorem Nt(E:Env)(st:St)(g:dE):Fin (iX (call G Ω) Ω E st g) fun n=>iX (kt G (exec G Ω n)) Ω E st g:=by
 unfold iX
 split
 ·exact Fin.bind (Et _ _ _ _) fun _=>Fin.same _
 ·exact Fin.bind (Fin.same _) fun _=>Fin.ite (Fin.bind (Et _ _ _ _) fun _=>Fin.same _) (Fin.same _)
theorem IC(E:Env):∀ (gs:List dE)(st:St),Fin (ib (call G Ω) Ω E st gs) fun n=>ib (kt G (exec G Ω n)) Ω E st gs
 | [],_=>Fin.same _
 | _::gs,_=>Fin.bind (Nt _ _ _) fun _=>IC E gs _
theorem Nu(E:Env)(p:cz)(v:St):Fin (kr (call G Ω) Ω E p v) fun n=>kr (kt G (exec G Ω n)) Ω E p v:=
 Fin.ite (Fin.bind (Et _ _ _ _) fun _=>Fin.same _) (Fin.same _)
theorem Ta(E:Env)(st:St)(p:cz):Fin (e7 (call G Ω) Ω E st p) fun n=>e7 (kt G (exec G Ω n)) Ω E st p:=by
 unfold e7
 refine Fin.ite (Fin.bind ?_ fun _=>Fin.same _) (Nt _ _ _)
 unfold eZ
 split
 ·exact Nu _ _ _
 ·exact Fin.bind (Fin.same _) fun _=>Fin.ite (Nu _ _ _) (Fin.same _)
theorem Nv(E:Env):∀ (gs:List cz)(st:St),Fin (lB (call G Ω) Ω E st gs) fun n=>lB (kt G (exec G Ω n)) Ω E st gs
 | [],_=>Fin.same _
 | _::gs,_=>Fin.bind (Ta _ _ _) fun _=>Nv E gs _
theorem OX{k':Nat→St→Option (bc×St)}(h:∀ st,Fin (k st) fun n=>k' n st)(r:bc×St):
  Fin (qZ k r) fun n=>qZ (k' n) r:=by
 unfold qZ
 split
 ·exact h _
 ·exact Fin.same _
theorem aaK(h:cu x y)(h':cu y x):x=y:=by
 cases x with
 | none=>cases y with
  | none=>rfl
  | some r=>exact (h' r rfl)
 | some r=>exact (h r rfl).symm
theorem zc{E:Env}{c:AC}{st:St}{F:Option (bc×St)}{f:Nat→Option (bc×St)}(h:∀ n,exec G Ω (n+1) E c st=f n)
  (hle:∀ n,cu (f n) F) (t:Fin F f):run G Ω E c st=F:=by
 refine aaK (fun r hr=>?_) (fun r hr=>?_)
 ·obtain ⟨n,hn⟩:=u7.1 hr
  cases n with
  | zero=>simp [exec] at hn
  | succ n=>exact hle n r ((h n).symm.trans hn)
 ·obtain ⟨n,hn⟩:=t r hr
  exact u7.2 ⟨n+1,(h n).trans (hn n (bG _))⟩
variable (E:Env)(st:St)
theorem lf:run G Ω E .sk st=some (.nrm,st):=u7.2 ⟨1,rfl⟩
theorem sf(id:Nat):run G Ω E (.ex id) st=some (.ex id,st):=u7.2 ⟨1,rfl⟩
theorem kA:run G Ω E .rt st=some (.ret,st):=u7.2 ⟨1,rfl⟩
theorem ob(x y:AC):run G Ω E (.sq x y) st=(run G Ω E x st).bind (qZ fun st1=>run G Ω E y st1):=
 zc (fun _=>rfl) (fun n=>cu.bind (pc n _ _ _) fun _=>Ci (fun _=>pc n _ _ _) _)
  (Fin.bind (pd _ _ _) fun _=>OX (fun _=>pd _ _ _) _)
theorem Kb(x:AC):run G Ω E (.lp x) st=(run G Ω E x st).bind (qZ fun st1=>run G Ω E (.lp x) st1):=
 zc (fun _=>rfl) (fun n=>cu.bind (pc n _ _ _) fun _=>Ci (fun _=>pc n _ _ _) _)
  (Fin.bind (pd _ _ _) fun _=>OX (fun _=>pd _ _ _) _)
theorem run_ite(c:bY)(x y:AC):run G Ω E (.ite c x y) st=(qH (st.ev c)).bind fun z=>if z=true then run G Ω E x st else run G Ω E y st:=
 zc (fun _=>rfl) (fun n=>cu.bind (cu.refl _) fun _=>cu.ite (pc n _ _ _) (pc n _ _ _))
  (Fin.bind (Fin.same _) fun _=>Fin.ite (pd _ _ _) (pd _ _ _))
theorem sg(id:Nat)(x:AC):run G Ω E (.bl id x) st=(run G Ω E x st).bind (inBlock id):=
 zc (fun _=>rfl) (fun n=>cu.bind (pc n _ _ _) fun _=>cu.refl _) (Fin.bind (pd _ _ _) fun _=>Fin.same _)
theorem zd(pre:List wS)(ops:List dE)(kf kb:List Nat):run G Ω E (.rg pre ops kf kb) st=
  (sW E st pre).bind fun st1=>(ib (call G Ω) Ω E st1 ops).bind fun st2=>some (.nrm,st2.cn kf kb):=
 zc (fun _=>rfl) (fun n=>cu.bind (cu.refl _) fun _=>cu.bind (AS (vR (pc n)) _ _) fun _=>cu.refl _)
  (Fin.bind (Fin.same _) fun _=>Fin.bind (IC _ _ _) fun _=>Fin.same _)
theorem Kc(pre:List wS)(mks:List Nat)(ops:List cz)(kf kb:List Nat):run G Ω E (.dg pre mks ops kf kb) st=
  (sW E st pre).bind fun st1=>if (mks.all (ee E.dp st1)&&ops.all (n9 E.dp st1))=true then (lB (call G Ω) Ω E st1 ops).bind fun st2=>some (.nrm,st2.cn kf kb) else none:=
 zc (fun _=>rfl) (fun n=>cu.bind (cu.refl _) fun _=>cu.ite (cu.bind (Er (vR (pc n)) _ _) fun _=>cu.refl _) (cu.refl _))
  (Fin.bind (Fin.same _) fun _=>Fin.ite (Fin.bind (Nv _ _ _) fun _=>Fin.same _) (Fin.same _))
theorem sh(kf kb:List Nat)(x:AC):run G Ω E (.kp kf kb x) st=run G Ω E x (st.cn kf kb):=
 zc (fun _=>rfl) (fun n=>pc n _ _ _) (pd _ _ _)
theorem vz(f:FuncId)(args:List AV)(hp:HP):call G Ω E f args hp=(G f).bind fun fn=>(run G Ω E fn.code ⟨lC 0 args,[],hp⟩).bind fun r=>match r.1 with
  | .ex _=>none
  | _=>(r.2.end_ E fn.res).bind fun x=>some (x,r.2.hp):=rfl
end
structure bO where
 kf:List Nat
 kb:List Nat
 x:AC
def bO.lp(l:bO):AC:=.lp (.kp l.kf l.kb l.x)
noncomputable def va(G:sd)(Ω:ej)(E:Env)(l:bO)(st:St):Option (bc×St):=run G Ω E l.lp st
theorem Uq(fr:List (Nat×AV))(ks:List Nat)(k:Nat)(h:k∈ks):aQ (eW fr ks) k=aQ fr k:=by
 induction ks with
 | nil=>cases h
 | cons j ks ih=>
  simp only [eW,je,aQ]
  by_cases hj:j=k
  ·rw [af hj,hj]
  ·rw [ah hj]
   exact ih ((eA.1 h).resolve_left (fun e=>hj e.symm))
theorem Ur(bx:List (Nat×List AV))(ks:List Nat)(k:Nat)(h:k∈ks):bH (ep bx ks) k=bH bx k:=by
 induction ks with
 | nil=>cases h
 | cons j ks ih=>
  simp only [ep]
  by_cases hj:j=k
  ·subst hj
   cases hb:bH bx j with
   | some cs=>simp [bH]
   | none=>
    simp only
    by_cases hk:j∈ks
    ·rw [ih hk,hb]
    ·clear ih h
     induction ks with
     | nil=>rfl
     | cons i ks ih2=>
      simp only [ep]
      have hi:i≠j:=fun e=>hk (by rw [e];exact List.mem_cons_self ..)
      have ih3:=ih2 fun hm=>hk (BY _ hm)
      cases bH bx i with
      | some cs=>simp only [bH,ah hi];exact ih3
      | none=>exact ih3
  ·have hk:=(eA.1 h).resolve_left (fun e=>hj e.symm)
   cases hb:bH bx j with
   | some cs=>simp only [bH,ah hj];exact ih hk
   | none=>exact ih hk
theorem Us(st:St)(kf kb:List Nat):(st.cn kf kb).cn kf kb=st.cn kf kb:=by
 have h1:eW (eW st.fr kf) kf=eW st.fr kf:=by
  show kf.map (fun k=>(k,aQ (eW st.fr kf) k))=kf.map (fun k=>(k,aQ st.fr k))
  exact xe fun k hk=>by rw [Uq st.fr kf k hk]
 have h2:∀ ks,(∀ k∈ks,k∈kb)→ep (ep st.bx kb) ks=ep st.bx ks:=by
  intro ks hs
  induction ks with
  | nil=>rfl
  | cons j ks ih=>
   simp only [ep]
   rw [Ur st.bx kb j (hs j (List.mem_cons_self ..)),ih fun k hk=>hs k (BY _ hk)]
 show (⟨eW (eW st.fr kf) kf,ep (ep st.bx kb) kb,st.hp⟩:St)=⟨eW st.fr kf,ep st.bx kb,st.hp⟩
 rw [h1,h2 kb fun _ h=>h]
theorem pf(G:sd)(Ω:ej)(E:Env)(l:bO)(st:St):run G Ω E l.lp st=va G Ω E l (st.cn l.kf l.kb):=by
 show run G Ω E (.lp (.kp l.kf l.kb l.x)) st=run G Ω E (.lp (.kp l.kf l.kb l.x)) (st.cn l.kf l.kb)
 rw [Kb,Kb,sh,sh,Us]
def kept(l:bO)(r:bc×St):Option St:=
 match r.1 with
 | .nrm=>some (r.2.cn l.kf l.kb)
 | _=>none
variable {l:bO}
theorem pT{G:sd}{Ω:ej}{E:Env}{st st1:St}(h:(run G Ω E l.x (st.cn l.kf l.kb)).bind (kept l)=some st1):va G Ω E l st=va G Ω E l st1:=by
 obtain ⟨r,h1,h2⟩:=au.1 h
 obtain ⟨e,s⟩:=r
 cases e<;>simp [kept] at h2
 subst h2
 show run G Ω E (.lp (.kp l.kf l.kb l.x)) st=_
 rw [Kb,sh,h1,←pf]
 rfl
variable {r:bc×St}
theorem m9{G:sd}{Ω:ej}{E:Env}{st:St}(h:run G Ω E l.x (st.cn l.kf l.kb)=some r)(hr:r.1≠.nrm):va G Ω E l st=some r:=by
 show run G Ω E (.lp (.kp l.kf l.kb l.x)) st=_
 rw [Kb,sh,h]
 obtain ⟨e,s⟩:=r
 cases e with
 | nrm=>exact absurd rfl hr
 | _=>rfl
theorem wrap64{n:Int}(h1 : -9223372036854775808≤n)(h2:n≤9223372036854775807):IntKind.i64.wrap n=n:=by
 simp [IntKind.wrap,IntKind.bits,IntKind.signed];omega
end Go.Proofs.YtlmphbbhaeampaaGreat.A
