/- The abstract run without a bound on its length, and how it goes on: one equation for each command. -/
import Derived.Test.YtkkkkondjclcnaaGreatAbs2
set_option linter.all false
namespace Go.Proofs.YtkkkkondjclcnaaGreat.A
open Go
def bk{α:Type}(x y:Option α):Prop:=∀ r,x=some r→y=some r
variable {α:Type}
theorem bk.refl(x:Option α):bk x x:=fun _ h=>h
variable {β:Type}{x y:Option α}
theorem bk.bind{f g:α→Option β}(h:bk x y)(hf:∀ a,bk (f a) (g a)):bk (x.bind f) (y.bind g):=by
 intro r hr
 obtain ⟨a,ha,w⟩:=ah.1 hr
 exact ah.2 ⟨a,h a ha,hf a r w⟩
variable {c:Prop}{x':Option α}
theorem bk.ite[Decidable c]{y':Option α}(h:bk x x')(h':bk y y'):bk (if c then x else y) (if c then x' else y'):=by
 split
 ·exact h
 ·exact h'
def HQ(R R':Rec):Prop:=∀ E f args hp,bk (R E f args hp) (R' E f args hp)
abbrev HR:=Env→AC→St→Option (aN×St)
def Xq(X X':HR):Prop:=∀ E c st,bk (X E c st) (X' E c st)
theorem nZ{G:sb}{X X':HR}(h:Xq X X'):HQ (jP G X) (jP G X'):=fun _ _ _ _=>
 bk.bind (bk.refl _) fun _=>bk.bind (h _ _ _) fun _=>bk.refl _
variable {R R':Rec}{m:Nat}{f:FuncId}{args:List AV}
theorem Cr(h:HQ R R'){Ω:ef}{E:Env}{st:St}:
  bk (aF R Ω E st m f args) (aF R' Ω E st m f args):=by
 unfold aF
 split
 ·exact bk.bind (bk.refl _) fun _=>bk.bind (h _ _ _ _) fun _=>bk.refl _
 ·exact bk.refl _
 ·exact bk.refl _
theorem AA(h:HQ R R'){Ω:ef}{E:Env}{st:St}: bk (bC R Ω E st f args) (bC R' Ω E st f args):=
 bk.ite (Cr h)<|bk.ite (bk.bind (h _ _ _ _) fun _=>bk.refl _) (bk.refl _)
theorem FE(h:HQ R R'){E:Env}{st:St}: bk (iU R E st f args) (iU R' E st f args):=
 bk.ite (bk.bind (h _ _ _ _) fun _=>bk.refl _) (bk.refl _)
theorem Ct(h:HQ R R'){Ω:ef}{E:Env}{st:St}{d:Option Nat}(o:nY):
  bk (execOp R Ω E st d o) (execOp R' Ω E st d o):=by
 cases o with
 | ca m f args=>exact Cr h
 | cf m x args=>
  simp only [execOp]
  split
  ·exact bk.ite (Cr h) (bk.refl _)
  ·exact bk.refl _
 | c2 f args=>exact AA h
 | d2 x args=>
  simp only [execOp]
  split
  ·exact bk.ite (AA h) (AA h)
  ·exact bk.refl _
 | cm t f args x=>exact bk.bind (bk.refl _) fun _=>bk.ite (bk.bind (bk.refl _) fun _=>bk.bind (h _ _ _ _) fun _=>bk.refl _) (bk.refl _)
 | ck f args=>exact bk.bind (bk.refl _) fun _=>bk.ite (bk.bind (h _ _ _ _) fun _=>bk.refl _) (bk.refl _)
 | ch f args sl dl ow=>exact bk.ite (bk.bind (h _ _ _ _) fun _=>bk.refl _) (bk.refl _)
 | c3 f args=>exact FE h
 | d3 x args=>
  simp only [execOp]
  split
  ·exact bk.ite (FE h) (bk.refl _)
  ·exact bk.refl _
 | _=>exact bk.refl _
theorem Jk(h:HQ R R'){Ω:ef}{E:Env}{st:St}{g:de}: bk (fS R Ω E st g) (fS R' Ω E st g):=by
 unfold fS
 split
 ·exact bk.bind (Ct h _) fun _=>bk.refl _
 ·exact bk.bind (bk.refl _) fun _=>bk.ite (bk.bind (Ct h _) fun _=>bk.refl _) (bk.refl _)
theorem AB{R R':Rec}(h:HQ R R'){Ω:ef}{E:Env} : ∀ (gs:List de)(st:St),bk (iq R Ω E st gs) (iq R' Ω E st gs)
 | [],_=>bk.refl _
 | _::gs,_=>bk.bind (Jk h) fun _=>AB h gs _
variable {p:br}
theorem Jl(h:HQ R R'){Ω:ef}{E:Env}{v:St}: bk (jx R Ω E p v) (jx R' Ω E p v):=
 bk.ite (bk.bind (Ct h _) fun _=>bk.refl _) (bk.refl _)
theorem Qu(h:HQ R R'){Ω:ef}{E:Env}{st:St}: bk (dF R Ω E st p) (dF R' Ω E st p):=by
 unfold dF
 refine bk.ite (bk.bind ?_ fun _=>bk.refl _) (Jk h)
 unfold dy
 split
 ·exact Jl h
 ·exact bk.bind (bk.refl _) fun _=>bk.ite (Jl h) (bk.refl _)
theorem D2{R R':Rec}(h:HQ R R'){Ω:ef}{E:Env} : ∀ (gs:List br)(st:St),bk (lC R Ω E st gs) (lC R' Ω E st gs)
 | [],_=>bk.refl _
 | _::gs,_=>bk.bind (Qu h) fun _=>D2 h gs _
variable {k:St→Option (aN×St)}
theorem BN{k':St→Option (aN×St)}(h:∀ st,bk (k st) (k' st))(r:aN×St):bk (qZ k r) (qZ k' r):=by
 unfold qZ
 split
 ·exact h _
 ·exact bk.refl _
section
variable {G:sb}{Ω:ef}
theorem Cu{dp:Nat}{X X':AC→St→Option (aN×St)}(h:∀ c st,bk (X c st) (X' c st)){x:Nat}{y b:AC} : ∀ (ns:List Int)(st:St),bk (rounds dp X x y b ns st) (rounds dp X' x y b ns st)
 | [],_=>bk.refl _
 | n::ns,st=>by
  unfold rounds
  refine bk.ite (bk.bind (h _ _) fun q=>?_) (bk.refl _)
  split
  ·refine bk.bind (h _ _) fun r=>?_
   split
   ·exact Cu h ns _
   ·exact bk.refl _
  ·exact bk.refl _
theorem Mj:∀ n,Xq (exec G Ω n) (exec G Ω (n+1))
 | 0,_,_,_=>fun r hr=>by simp [exec] at hr
 | n+1,E,c,st=>by
  have ih:=Mj n
  cases c with
  | sk=>exact bk.refl _
  | ex id=>exact bk.refl _
  | rt=>exact bk.refl _
  | rg pre ops kf kb=>exact bk.bind (bk.refl _) fun _=>bk.bind (AB (nZ ih) _ _) fun _=>bk.refl _
  | dg pre mks ops kf kb=>exact bk.bind (bk.refl _) fun _=>bk.ite (bk.bind (D2 (nZ ih) _ _) fun _=>bk.refl _) (bk.refl _)
  | sq x y=>exact bk.bind (ih _ _ _) fun _=>BN (fun _=>ih _ _ _) _
  | ite c x y=>exact bk.bind (bk.refl _) fun _=>bk.ite (ih _ _ _) (ih _ _ _)
  | bl id x=>exact bk.bind (ih _ _ _) fun _=>bk.refl _
  | lp x=>exact bk.bind (ih _ _ _) fun _=>BN (fun _=>ih _ _ _) _
  | kp kf kb x=>exact ih _ _ _
  | bad=>exact bk.refl _
  | ru g x y b=>exact bk.ite (bk.refl _) (bk.bind (bk.refl _) fun ns=>Cu (fun c st=>ih _ c st) ns st)
theorem K2{n:Nat}(h:n≤m):Xq (exec G Ω n) (exec G Ω m):=by
 induction h with
 | refl=>exact fun _ _ _ _ h=>h
 | step _ ih=>exact fun E c st r hr=>Mj _ E c st r (ih E c st r hr)
noncomputable def run(G:sb)(Ω:ef):HR:=fun E c st=>
 open Classical in if h:∃ n,(exec G Ω n E c st).isSome=true then exec G Ω (Classical.choose h) E c st else none
theorem va{E:Env}{c:AC}{st:St}{r:aN×St} : run G Ω E c st=some r↔∃ n,exec G Ω n E c st=some r:=by
 constructor
 ·intro h
  unfold run at h
  split at h
  ·exact ⟨_,h⟩
  ·cases h
 ·rintro ⟨n,h⟩
  have hex:∃ n,(exec G Ω n E c st).isSome=true:=⟨n,by rw [h];rfl⟩
  unfold run
  rw [dif_pos hex]
  have hc:=Fi hex
  obtain ⟨r',B⟩:=jJ.1 hc
  rw [B]
  have h1:=K2 (Fj n (Classical.choose hex)) E c st r h
  have h2:=K2 (Fk n (Classical.choose hex)) E c st r' B
  rw [h1] at h2
  exact h2.symm
theorem lR(n:Nat):Xq (exec G Ω n) (run G Ω):=fun _ _ _ _ h=>va.2 ⟨n,h⟩
noncomputable def call(G:sb)(Ω:ef):Rec:=jP G (run G Ω)
def Fin{α:Type}(x:Option α)(y:Nat→Option α):Prop:=∀ r,x=some r→∃ n,∀ m,n≤m→y m=some r
theorem Fin.same(x:Option α):Fin x fun _=>x:=fun _ h=>⟨0,fun _ _=>h⟩
theorem Fin.bind{y:Nat→Option α}{f:α→Option β}{g:Nat→α→Option β}(h:Fin x y)(hf:∀ a,Fin (f a) fun n=>g n a):
  Fin (x.bind f) fun n=>(y n).bind (g n):=by
 intro r hr
 obtain ⟨a,ha,w⟩:=ah.1 hr
 obtain ⟨n,hn⟩:=h a ha
 obtain ⟨m,hm⟩:=hf a r w
 exact ⟨max n m,fun k hk=>ah.2 ⟨a,hn k (by omega),hm k (by omega)⟩⟩
theorem Fin.ite[Decidable c]{y y':Nat→Option α}(h:Fin x y)(h':Fin x' y'):Fin (if c then x else x') fun n=>if c then y n else y' n:=by
 split
 ·exact h
 ·exact h'
theorem oW(E:Env)(c:AC)(st:St):Fin (run G Ω E c st) fun n=>exec G Ω n E c st:=by
 intro r hr
 obtain ⟨n,hn⟩:=va.1 hr
 exact ⟨n,fun m hm=>K2 hm _ _ _ _ hn⟩
theorem mX(E:Env)(f:FuncId)(args:List AV)(hp:HP):Fin (call G Ω E f args hp) fun n=>jP G (exec G Ω n) E f args hp:=
 Fin.bind (Fin.same _) fun _=>Fin.bind (oW _ _ _) fun _=>Fin.same _
theorem D3(E:Env)(st:St)(m:Nat)(f:FuncId)(args:List AV) :
  Fin (aF (call G Ω) Ω E st m f args) fun n=>aF (jP G (exec G Ω n)) Ω E st m f args:=by
 unfold aF
 split
 ·exact Fin.bind (Fin.same _) fun _=>Fin.bind (mX _ _ _ _) fun _=>Fin.same _
 ·exact Fin.same _
 ·exact Fin.same _
theorem Cv(E:Env)(st:St)(f:FuncId)(args:List AV):Fin (bC (call G Ω) Ω E st f args) fun n=>bC (jP G (exec G Ω n)) Ω E st f args:=
 Fin.ite (D3 _ _ _ _ _)<|Fin.ite (Fin.bind (mX _ _ _ _) fun _=>Fin.same _) (Fin.same _)
theorem D4(E:Env)(st:St)(d:Option Nat)(o:nY) :
  Fin (execOp (call G Ω) Ω E st d o) fun n=>execOp (jP G (exec G Ω n)) Ω E st d o:=by
 cases o with
 | ca m f args=>exact D3 _ _ _ _ _
 | cf m x args=>
  simp only [execOp]
  split
  ·exact Fin.ite (D3 _ _ _ _ _) (Fin.same _)
  ·exact Fin.same _
 | c2 f args=>exact Cv _ _ _ _
 | d2 x args=>
  simp only [execOp]
  split
  ·exact Fin.ite (Cv _ _ _ _) (Cv _ _ _ _)
  ·exact Fin.same _
 | c3 f args=>exact Fin.ite (Fin.bind (mX _ _ _ _) fun _=>Fin.same _) (Fin.same _)
 | d3 x args=>
  simp only [execOp]
  split
  ·exact Fin.ite (Fin.ite (Fin.bind (mX _ _ _ _) fun _=>Fin.same _) (Fin.same _)) (Fin.same _)
  ·exact Fin.same _
 | cm t f args x=>exact Fin.bind (Fin.same _) fun _=>Fin.ite (Fin.bind (Fin.same _) fun _=>Fin.bind (mX _ _ _ _) fun _=>Fin.same _) (Fin.same _)
 | ck f args=>exact Fin.bind (Fin.same _) fun _=>Fin.ite (Fin.bind (mX _ _ _ _) fun _=>Fin.same _) (Fin.same _)
 | ch f args sl dl ow=>exact Fin.ite (Fin.bind (mX _ _ _ _) fun _=>Fin.same _) (Fin.same _)
 | _=>exact Fin.same _
theorem Mk(E:Env)(st:St)(g:de):Fin (fS (call G Ω) Ω E st g) fun n=>fS (jP G (exec G Ω n)) Ω E st g:=by
 unfold fS
 split
 ·exact Fin.bind (D4 _ _ _ _) fun _=>Fin.same _
 ·exact Fin.bind (Fin.same _) fun _=>Fin.ite (Fin.bind (D4 _ _ _ _) fun _=>Fin.same _) (Fin.same _)
theorem HS(E:Env):∀ (gs:List de)(st:St),Fin (iq (call G Ω) Ω E st gs) fun n=>iq (jP G (exec G Ω n)) Ω E st gs
 | [],_=>Fin.same _
 | _::gs,_=>Fin.bind (Mk _ _ _) fun _=>HS E gs _
theorem Ml(E:Env)(p:br)(v:St):Fin (jx (call G Ω) Ω E p v) fun n=>jx (jP G (exec G Ω n)) Ω E p v:=
 Fin.ite (Fin.bind (D4 _ _ _ _) fun _=>Fin.same _) (Fin.same _)
theorem SA(E:Env)(st:St)(p:br):Fin (dF (call G Ω) Ω E st p) fun n=>dF (jP G (exec G Ω n)) Ω E st p:=by
 unfold dF
 refine Fin.ite (Fin.bind ?_ fun _=>Fin.same _) (Mk _ _ _)
 unfold dy
 split
 ·exact Ml _ _ _
 ·exact Fin.bind (Fin.same _) fun _=>Fin.ite (Ml _ _ _) (Fin.same _)
theorem Mm(E:Env):∀ (gs:List br)(st:St),Fin (lC (call G Ω) Ω E st gs) fun n=>lC (jP G (exec G Ω n)) Ω E st gs
 | [],_=>Fin.same _
 | _::gs,_=>Fin.bind (SA _ _ _) fun _=>Mm E gs _
theorem Oa{k':Nat→St→Option (aN×St)}(h:∀ st,Fin (k st) fun n=>k' n st)(r:aN×St):
  Fin (qZ k r) fun n=>qZ (k' n) r:=by
 unfold qZ
 split
 ·exact h _
 ·exact Fin.same _
theorem aat(h:bk x y)(h':bk y x):x=y:=by
 cases x with
 | none=>cases y with
  | none=>rfl
  | some r=>exact (h' r rfl)
 | some r=>exact (h r rfl).symm
theorem yz{E:Env}{c:AC}{st:St}{F:Option (aN×St)}{f:Nat→Option (aN×St)}(h:∀ n,exec G Ω (n+1) E c st=f n)
  (hle:∀ n,bk (f n) F) (u:Fin F f):run G Ω E c st=F:=by
 refine aat (fun r hr=>?_) (fun r hr=>?_)
 ·obtain ⟨n,hn⟩:=va.1 hr
  cases n with
  | zero=>simp [exec] at hn
  | succ n=>exact hle n r ((h n).symm.trans hn)
 ·obtain ⟨n,hn⟩:=u r hr
  exact va.2 ⟨n+1,(h n).trans (hn n (aV _))⟩
variable (E:Env)(st:St)
theorem bh:run G Ω E .sk st=some (.nrm,st):=va.2 ⟨1,rfl⟩
theorem dR(id:Nat):run G Ω E (.ex id) st=some (.ex id,st):=va.2 ⟨1,rfl⟩
theorem cQ:run G Ω E .rt st=some (.ret,st):=va.2 ⟨1,rfl⟩
theorem n3(x y:AC):run G Ω E (.sq x y) st=(run G Ω E x st).bind (qZ fun st1=>run G Ω E y st1):=
 yz (fun _=>rfl) (fun n=>bk.bind (lR n _ _ _) fun _=>BN (fun _=>lR n _ _ _) _)
  (Fin.bind (oW _ _ _) fun _=>Oa (fun _=>oW _ _ _) _)
theorem Jm(x:AC):run G Ω E (.lp x) st=(run G Ω E x st).bind (qZ fun st1=>run G Ω E (.lp x) st1):=
 yz (fun _=>rfl) (fun n=>bk.bind (lR n _ _ _) fun _=>BN (fun _=>lR n _ _ _) _)
  (Fin.bind (oW _ _ _) fun _=>Oa (fun _=>oW _ _ _) _)
theorem run_ite(c:aY)(x y:AC):run G Ω E (.ite c x y) st=(qA (st.ev c)).bind fun z=>if z=true then run G Ω E x st else run G Ω E y st:=
 yz (fun _=>rfl) (fun n=>bk.bind (bk.refl _) fun _=>bk.ite (lR n _ _ _) (lR n _ _ _))
  (Fin.bind (Fin.same _) fun _=>Fin.ite (oW _ _ _) (oW _ _ _))
theorem n4(id:Nat)(x:AC):run G Ω E (.bl id x) st=(run G Ω E x st).bind (inBlock id):=
 yz (fun _=>rfl) (fun n=>bk.bind (lR n _ _ _) fun _=>bk.refl _) (Fin.bind (oW _ _ _) fun _=>Fin.same _)
theorem yA(pre:List wM)(ops:List de)(kf kb:List Nat):run G Ω E (.rg pre ops kf kb) st=
  (sZ E st pre).bind fun st1=>(iq (call G Ω) Ω E st1 ops).bind fun st2=>some (.nrm,st2.aG kf kb):=
 yz (fun _=>rfl) (fun n=>bk.bind (bk.refl _) fun _=>bk.bind (AB (nZ (lR n)) _ _) fun _=>bk.refl _)
  (Fin.bind (Fin.same _) fun _=>Fin.bind (HS _ _ _) fun _=>Fin.same _)
theorem Jn(pre:List wM)(mks:List Nat)(ops:List br)(kf kb:List Nat):run G Ω E (.dg pre mks ops kf kb) st=
  (sZ E st pre).bind fun st1=>if (mks.all (um E.dp st1)&&ops.all (fT E.dp st1))=true then (lC (call G Ω) Ω E st1 ops).bind fun st2=>some (.nrm,st2.aG kf kb) else none:=
 yz (fun _=>rfl) (fun n=>bk.bind (bk.refl _) fun _=>bk.ite (bk.bind (D2 (nZ (lR n)) _ _) fun _=>bk.refl _) (bk.refl _))
  (Fin.bind (Fin.same _) fun _=>Fin.ite (Fin.bind (Mm _ _ _) fun _=>Fin.same _) (Fin.same _))
theorem jq(kf kb:List Nat)(x:AC):run G Ω E (.kp kf kb x) st=run G Ω E x (st.aG kf kb):=
 yz (fun _=>rfl) (fun n=>lR n _ _ _) (oW _ _ _)
theorem qR(f:FuncId)(args:List AV)(hp:HP):call G Ω E f args hp=(G f).bind fun fn=>(run G Ω E fn.code ⟨jy 0 args,[],hp⟩).bind fun r=>match r.1 with
  | .ex _=>none
  | _=>(r.2.end_ E fn.res).bind fun x=>some (x,r.2.hp):=rfl
end
structure bb where
 kf:List Nat
 kb:List Nat
 x:AC
def bb.lp(l:bb):AC:=.lp (.kp l.kf l.kb l.x)
noncomputable def fH(G:sb)(Ω:ef)(E:Env)(l:bb)(st:St):Option (aN×St):=run G Ω E l.lp st
theorem Mn(fr:List (Nat×AV))(ks:List Nat)(k:Nat)(h:k∈ks):au (eE fr ks) k=au fr k:=by
 induction ks with
 | nil=>cases h
 | cons j ks ih=>
  simp only [eE,fj,au]
  by_cases hj:j=k
  ·rw [ab hj,hj]
  ·rw [aa hj]
   exact ih ((eX.1 h).resolve_left (fun e=>hj e.symm))
theorem FF(bx:List (Nat×List AV))(ks:List Nat)(k:Nat)(h:k∈ks):aE (du bx ks) k=aE bx k:=by
 induction ks with
 | nil=>cases h
 | cons j ks ih=>
  simp only [du]
  by_cases hj:j=k
  ·subst hj
   cases hb:aE bx j with
   | some cs=>simp [aE]
   | none=>
    simp only
    by_cases hk:j∈ks
    ·rw [ih hk,hb]
    ·clear ih h
     induction ks with
     | nil=>rfl
     | cons i ks ih2=>
      simp only [du]
      have hi:i≠j:=fun e=>hk (by rw [e];exact List.mem_cons_self ..)
      have ih3:=ih2 fun hm=>hk (Fl _ hm)
      cases aE bx i with
      | some cs=>simp only [aE,aa hi];exact ih3
      | none=>exact ih3
  ·have hk:=(eX.1 h).resolve_left (fun e=>hj e.symm)
   cases hb:aE bx j with
   | some cs=>simp only [aE,aa hj];exact ih hk
   | none=>exact ih hk
theorem TK(st:St)(kf kb:List Nat):(st.aG kf kb).aG kf kb=st.aG kf kb:=by
 have h1:eE (eE st.fr kf) kf=eE st.fr kf:=by
  show kf.map (fun k=>(k,au (eE st.fr kf) k))=kf.map (fun k=>(k,au st.fr k))
  exact rU fun k hk=>by rw [Mn st.fr kf k hk]
 have h2:∀ ks,(∀ k∈ks,k∈kb)→du (du st.bx kb) ks=du st.bx ks:=by
  intro ks hs
  induction ks with
  | nil=>rfl
  | cons j ks ih=>
   simp only [du]
   rw [FF st.bx kb j (hs j (List.mem_cons_self ..)),ih fun k hk=>hs k (Fl _ hk)]
 show (⟨eE (eE st.fr kf) kf,du (du st.bx kb) kb,st.hp⟩:St)=⟨eE st.fr kf,du st.bx kb,st.hp⟩
 rw [h1,h2 kb fun _ h=>h]
theorem dL(G:sb)(Ω:ef)(E:Env)(l:bb)(st:St):run G Ω E l.lp st=fH G Ω E l (st.aG l.kf l.kb):=by
 show run G Ω E (.lp (.kp l.kf l.kb l.x)) st=run G Ω E (.lp (.kp l.kf l.kb l.x)) (st.aG l.kf l.kb)
 rw [Jm,Jm,jq,jq,TK]
def kept(l:bb)(r:aN×St):Option St:=
 match r.1 with
 | .nrm=>some (r.2.aG l.kf l.kb)
 | _=>none
variable {l:bb}
theorem dz{G:sb}{Ω:ef}{E:Env}{st st1:St}(h:(run G Ω E l.x (st.aG l.kf l.kb)).bind (kept l)=some st1):fH G Ω E l st=fH G Ω E l st1:=by
 obtain ⟨r,h1,h2⟩:=ah.1 h
 obtain ⟨e,s⟩:=r
 cases e<;>simp [kept] at h2
 subst h2
 show run G Ω E (.lp (.kp l.kf l.kb l.x)) st=_
 rw [Jm,jq,h1,←dL]
 rfl
variable {r:aN×St}
theorem dD{G:sb}{Ω:ef}{E:Env}{st:St}(h:run G Ω E l.x (st.aG l.kf l.kb)=some r)(hr:r.1≠.nrm):fH G Ω E l st=some r:=by
 show run G Ω E (.lp (.kp l.kf l.kb l.x)) st=_
 rw [Jm,jq,h]
 obtain ⟨e,s⟩:=r
 cases e with
 | nrm=>exact absurd rfl hr
 | _=>rfl
theorem wrap64{n:Int}(h1 : -9223372036854775808≤n)(h2:n≤9223372036854775807):IntKind.i64.wrap n=n:=by
 simp [IntKind.wrap,IntKind.bits,IntKind.signed];omega
end Go.Proofs.YtkkkkondjclcnaaGreat.A
