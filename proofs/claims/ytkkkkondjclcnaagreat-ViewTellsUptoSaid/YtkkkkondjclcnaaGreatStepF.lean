/- Steps of an abstract run, one after the other; loops that count; regions cut in parts: what is not looked at again is forgotten between them. -/
import Derived.Test.YtkkkkondjclcnaaGreatLift
import Derived.Test.YtkkkkondjclcnaaGreatBase
import Derived.Test.YtkkkkondjclcnaaGreatAbsH
set_option linter.all false
set_option maxRecDepth 100000
namespace Go.Proofs.YtkkkkondjclcnaaGreat.A
open Go
variable [Lp]
theorem cw{E:Env}{f:FuncId}{args:List AV}{r:AV}(h:call G Ω0 ⟨0,false⟩ f args (fun _=>none)=some (.ret r,fun _=>none))(hp:AV.bk args=true)(hr:r.pure=true)(st:St) :
  aU (call G Ω0) Ω0 E st 0 f args=some (r,st):=by
 unfold aU
 simp only [xL _ _ hp,af,h,hr]
 rfl
section
variable {E:Env}{x y:AC}{st st1:St}{r:Option (aI×St)}
theorem ak(h1:run G Ω0 E x st=some (.nrm,st1))(h2:run G Ω0 E y st1=r):run G Ω0 E (.sq x y) st=r:=by rw [vU,h1];exact h2
theorem Dd(h1:run G Ω0 E x st=some (.ret,st1)):run G Ω0 E (.sq x y) st=some (.ret,st1):=by rw [vU,h1];rfl
theorem iQ{id:Nat}(h1:run G Ω0 E x st=some (.ex id,st1)):run G Ω0 E (.sq x y) st=some (.ex id,st1):=by rw [vU,h1];rfl
theorem cX{c:ba}(h:qu (st.ev c)=some true)(h2:run G Ω0 E x st=r):run G Ω0 E (.ite c x y) st=r:=by rw [run_ite,h];exact h2
theorem cg{c:ba}(h:qu (st.ev c)=some false)(h2:run G Ω0 E y st=r):run G Ω0 E (.ite c x y) st=r:=by rw [run_ite,h];exact h2
theorem eY{id:Nat}(h1:run G Ω0 E x st=some (.nrm,st1)):run G Ω0 E (.bl id x) st=some (.nrm,st1):=by rw [sr,h1];rfl
theorem Fu{id:Nat}(h1:run G Ω0 E x st=some (.ret,st1)):run G Ω0 E (.bl id x) st=some (.ret,st1):=by rw [sr,h1];rfl
theorem ny{id:Nat}(h1:run G Ω0 E x st=some (.ex id,st1)):run G Ω0 E (.bl id x) st=some (.nrm,st1):=by rw [sr,h1];simp only [af,inBlock,aq]
theorem dU{kf kb:List Nat}(h:run G Ω0 E x (st.aP kf kb)=r):run G Ω0 E (.kp kf kb x) st=r:=by rw [kN];exact h
theorem De{s1 s2:St} : ∀ (n:Nat){ops:List cp}{s:St},kd (call G Ω0) Ω0 E s (ops.take n)=some s1→kd (call G Ω0) Ω0 E s1 (ops.drop n)=some s2→kd (call G Ω0) Ω0 E s ops=some s2
 | 0,ops,s,h1,h2=>by obtain rfl:=aa h1;exact h2
 | n+1,[],s,h1,h2=>by obtain rfl:=aa h1;exact h2
 | n+1,p::ps,s,h1,h2=>by
  obtain ⟨s3,h3,h4⟩:=ah.1 h1
  exact ah.2 ⟨s3,h3,De n h4 h2⟩
theorem eZ(n:Nat){pre:List uD}{mks:List Nat}{ops:List cp}{kf kb:List Nat}{st st1 s1 s2 s3:St}(h0:qW E st pre=some st1)(hm:(mks.all (sn E.dp st1)&&ops.all (jf E.dp st1))=true)(h1:kd (call G Ω0) Ω0 E st1 (ops.take n)=some s1)(h2:kd (call G Ω0) Ω0 E s1 (ops.drop n)=some s2)(h3:s2.aP kf kb=s3) :
  run G Ω0 E (.dg pre mks ops kf kb) st=some (.nrm,s3):=by
 rw [Gu,h0,af,ab hm,De n h1 h2,af,h3]
theorem fD{f:FuncId}{fn:bE}{args:List AV}{hp hp':HP}{z:bm}(hG:G f=some fn)(h:run G Ω0 E fn.code ⟨jL 0 args,[],hp⟩=some (.ret,st))(he:st.end_ E fn.res=some z)(hh:st.hp=hp'):call G Ω0 E f args hp=some (z,hp'):=by
 rw [tK,hG,af,h];simp only [af,he,hh]
theorem LU{f:FuncId}{fn:bE}{args:List AV}{hp hp':HP}{z:bm}(hG:G f=some fn)(h:run G Ω0 E fn.code ⟨jL 0 args,[],hp⟩=some (.nrm,st))(he:st.end_ E fn.res=some z)(hh:st.hp=hp'):call G Ω0 E f args hp=some (z,hp'):=by
 rw [tK,hG,af,h];simp only [af,he,hh]
end
theorem v8{E:Env}{s1 s2:St} : ∀ (n:Nat){ops:List cN}{s:St},fQ (call G Ω0) Ω0 E s (ops.take n)=some s1→fQ (call G Ω0) Ω0 E s1 (ops.drop n)=some s2→fQ (call G Ω0) Ω0 E s ops=some s2
 | 0,ops,s,h1,h2=>by obtain rfl:=aa h1;exact h2
 | n+1,[],s,h1,h2=>by obtain rfl:=aa h1;exact h2
 | n+1,p::ps,s,h1,h2=>by
  obtain ⟨s3,h3,h4⟩:=ah.1 h1
  exact ah.2 ⟨s3,h3,v8 n h4 h2⟩
theorem ab6{E:Env}(n:Nat){pre:List uD}{ops:List cN}{kf kb:List Nat}{st st1 s1 s2 s3:St}(h0:qW E st pre=some st1)(h1:fQ (call G Ω0) Ω0 E st1 (ops.take n)=some s1)(h2:fQ (call G Ω0) Ω0 E s1 (ops.drop n)=some s2)(h3:s2.aP kf kb=s3) :
  run G Ω0 E (.rg pre ops kf kb) st=some (.nrm,s3):=by
 rw [Af,h0,af,v8 n h1 h2,af,h3]
theorem Rg{E:Env}{c:aY}(S:Nat→St)(n:Nat){e:Nat}{z:St}(hk:∀ k,(S k).aP c.kf c.kb=S k)(hs:∀ k,k<n→run G Ω0 E c.x (S k)=some (.nrm,S (k+1)))(he:run G Ω0 E c.x (S n)=some (.ex e,z)):gY G Ω0 E c (S 0)=some (.ex e,z):=by
 have:∀ m k,k+m=n→gY G Ω0 E c (S k)=some (.ex e,z):=by
  intro m
  induction m with
  | zero=>
    intro k hm;obtain rfl:k=n:=by omega
    exact di (by rw [hk];exact he) (by simp)
  | succ m ih=>
   intro k hm
   rw [c8 (st1:=S (k+1))]
   ·exact ih (k+1) (by omega)
   ·rw [hk]
    show (run G Ω0 E c.x (S k)).bind _=_
    rw [hs k (by omega)]
    exact an some (hk (k+1))
 exact this n 0 (by omega)
theorem Ws{E:Env}{c:aY}(S:Nat→St)(n:Nat)(p:Nat→Bool){x y:aI×St}(hk:∀ k,(S k).aP c.kf c.kb=S k)(hx:x.1≠.nrm)(hy:y.1≠.nrm)
  (hs:∀ k,k<n→p k=false→run G Ω0 E c.x (S k)=some (.nrm,S (k+1))) (hf:∀ k,k<n→p k=true→run G Ω0 E c.x (S k)=some x) (he:run G Ω0 E c.x (S n)=some y):gY G Ω0 E c (S 0)=some (if (List.range n).any p=true then x else y):=by
 have:∀ m k,k+m=n→(∀ j,j<k→p j=false)→gY G Ω0 E c (S k)=some (if (List.range n).any p=true then x else y):=by
  intro m
  induction m with
  | zero=>
   intro k hm hp
   obtain rfl:k=n:=by omega
   rw [ad (by simp only [lN,yY,not_exists,not_and];exact fun j hj=>by rw [hp j hj];simp)]
   exact di (by rw [hk];exact he) (by exact hy)
  | succ m ih=>
   intro k hm hp
   cases hq:p k with
   | true=>
    rw [ab (lN.2 ⟨k,yY.2 (by omega),hq⟩)]
    exact di (by rw [hk];exact hf k (by omega) hq) (by exact hx)
   | false=>
    rw [c8 (st1:=S (k+1))]
    ·exact ih (k+1) (by omega) fun j hj=>by
      by_cases hjk:j=k
      ·rw [hjk];exact hq
      ·exact hp j (by omega)
    ·rw [hk]
     show (run G Ω0 E c.x (S k)).bind _=_
     rw [hs k (by omega) hq]
     exact an some (hk (k+1))
 exact this n 0 (by omega) fun j hj=>absurd hj (by omega)
structure Sub(v s:St):Prop where
 fr:∀ d,ax v.fr d= .u∨ax v.fr d=ax s.fr d
 bx:v.bx=s.bx
 hp:v.hp=s.hp
section
variable {v s v':St}{E:Env}
abbrev b0:bJ:=⟨0,fun _=>true⟩
theorem Sub.le(h:Sub v s)(dp:Nat):Le dp v s:=⟨h.fr,fun k cs hb=>by simp only [St.box,h.bx,h.hp] at hb ⊢;exact hb⟩
theorem Sub.ev(h:Sub v s){x:ba}(hx:v.ev x≠.u):s.ev x=v.ev x:=haveI:=b0;Le.ev (E:=⟨0,false⟩) (h.le 0) rfl hx
theorem Sub.evs(h:Sub v s){xs:List ba}(hx:∀ x∈xs,v.ev x≠.u):xs.map s.ev=xs.map v.ev:=haveI:=b0;Le.map (E:=⟨0,false⟩) (h.le 0) hx
def calm(v:St):oV→Bool
 | .as x=>(v.ev x).copy
 | .mv x=>!CO (v.ev x)
 | .c3 _ _=>true
 | o=>qk o
theorem LV{d:Option Nat}{o:oV}{r:AV×St}(h:Sub v s)(hc:calm v o=true)(he:execOp (call G Ω0) Ω0 E v d o=some r):r.2=v∧execOp (call G Ω0) Ω0 E s d o=some (r.1,s):=by
 haveI:=b0
 have hL:=h.le E.dp
 cases o with
 | as x=>
  have hcp:(v.ev x).copy=true:=hc
  have hx:=h.ev (v7 hcp)
  cases x with
  | c y=>
   simp only [execOp] at he ⊢
   split at he
   ·rename_i hp
    obtain rfl:=aa he
    exact ⟨rfl,ab hp⟩
   ·cases he
  | t n=>
   have hx:ax s.fr n=ax v.fr n:=hx
   have hcp:(ax v.fr n).copy=true:=hcp
   simp only [execOp] at he ⊢
   rw [hx]
   cases hf:ax v.fr n<;>rw [hf] at he hcp<;>simp only [AV.copy,bB] at hcp<;>simp only [AV.copy,vJ,aq] at he ⊢<;>first | (obtain rfl:=aa he;exact ⟨rfl,rfl⟩) | (simp only [hcp,vJ,aq] at he ⊢;obtain rfl:=aa he;exact ⟨rfl,rfl⟩)
 | c3 f args=>
  simp only [execOp] at he ⊢
  unfold jx at he ⊢
  split at he
  ·rename_i hp
   simp only [aA] at hp
   have ha:args.map s.ev=args.map v.ev:=h.evs fun x hx=>v7 (bH.1 hp.1 _ (ox hx))
   have hb:(fun k=>s.box E.dp k)=fun k=>v.box E.dp k:=by funext k;simp only [St.box,h.bx,h.hp]
   obtain ⟨⟨q,hq⟩,h1,h2⟩:=ah.1 he
   rw [ha,←h.bx,ab (by simp only [aA];exact hp),hb,h1]
   simp only [af] at h2 ⊢
   cases q with
   | ret x=>
    simp only at h2 ⊢
    split at h2
    ·rename_i hx
     obtain rfl:=aa h2
     exact ⟨rfl,ab hx⟩
    ·cases h2
   | _=>cases h2
  ·cases he
 | mv x=>exact K4 hL rfl hc he
 | st _ _ _=>cases hc
 | ap _ _ _ _ _=>cases hc
 | _=>exact K4 hL hc rfl he
def LX(v:St)(g:cN):Bool:=
 match g.g with
 | none=>calm v g.o
 | some (j,w)=>!(vS (ax v.fr j) w==some true)||calm v g.o
noncomputable def xq(E:Env):St→List cN→Option St
 | v,[]=>some v
 | v,g::gs=>if LX v g=true then (ic (call G Ω0) Ω0 E v g).bind fun v'=>xq E v' gs else none
theorem Sub.put(h:Sub v s)(d:Option Nat)(x:AV):Sub (put v d x) (put s d x):=by
 cases d with
 | none=>exact h
 | some d=>
  refine ⟨fun k=>?_,h.bx,h.hp⟩
  show ax ((d,x)::v.fr) k= .u∨ax ((d,x)::v.fr) k=ax ((d,x)::s.fr) k
  unfold ax
  by_cases e:d=k
  ·rw [ab e,ab e];exact .inr rfl
  ·rw [ad e,ad e];exact h.fr k
theorem VT{g:cN}(h:Sub v s)(hc:LX v g=true)(he:ic (call G Ω0) Ω0 E v g=some v'):∃ s',ic (call G Ω0) Ω0 E s g=some s'∧Sub v' s':=by
 have run:calm v g.o=true→∀ w,(execOp (call G Ω0) Ω0 E v g.d g.o).bind (fun r=>some (A.put r.2 g.d (eN g.fz r.1)))=some w→∃ s',(execOp (call G Ω0) Ω0 E s g.d g.o).bind (fun r=>some (A.put r.2 g.d (eN g.fz r.1)))=some s'∧Sub w s':=by
  intro hcm w hw
  obtain ⟨r,h1,h2⟩:=ah.1 hw
  obtain ⟨h3,h4⟩:=LV h hcm h1
  obtain rfl:=aa h2
  rw [h4,h3]
  exact ⟨_,rfl,h.put _ _⟩
 unfold ic at he ⊢
 unfold LX at hc
 cases hg:g.g with
 | none=>rw [hg] at he hc;exact run hc _ he
 | some q=>
  obtain ⟨j,w⟩:=q
  rw [hg] at he hc
  simp only at he hc ⊢
  obtain ⟨y,h1,h2⟩:=ah.1 he
  have hj:ax s.fr j=ax v.fr j:=by
   rcases h.fr j with e | e
   ·rw [e] at h1;cases h1
   ·exact e.symm
  rw [hj,h1]
  simp only [af]
  cases y with
  | true=>
   rw [ab rfl] at h2 ⊢
   refine run ?_ _ h2
   rw [h1] at hc
   simpa using hc
  | false=>
   rw [ad (by simp)] at h2 ⊢
   obtain rfl:=aa h2
   exact ⟨_,rfl,h.put _ _⟩
theorem IE:∀ {gs:List cN}{v s v':St},Sub v s→xq E v gs=some v'→∃ s',fQ (call G Ω0) Ω0 E s gs=some s'∧Sub v' s'
 | [],v,s,v',h,he=>by
  obtain rfl:=aa he
  exact ⟨s,rfl,h⟩
 | g::gs,v,s,v',h,he=>by
  unfold xq at he
  split at he
  ·rename_i hc
   obtain ⟨v1,h1,h2⟩:=ah.1 he
   obtain ⟨s1,h3,h4⟩:=VT h hc h1
   obtain ⟨s2,h5,h6⟩:=IE h4 h2
   exact ⟨s2,ah.2 ⟨s1,h3,h5⟩,h6⟩
  ·cases he
theorem PC{fr:List (Nat×AV)}{ks:List Nat}(d:Nat):ax (ef fr ks) d= .u∨ax (ef fr ks) d=ax fr d:=by
 induction ks with
 | nil=>exact .inl rfl
 | cons k ks ih=>
  show ax ((k,ax fr k)::ef fr ks) d= .u∨ax ((k,ax fr k)::ef fr ks) d=ax fr d
  rw [ax]
  by_cases e:k=d
  ·subst e;rw [ab rfl];exact .inr rfl
  ·rw [ad e];exact ih
theorem LY(s:St)(ks:List Nat):Sub ⟨ef s.fr ks,s.bx,s.hp⟩ s:=⟨fun d=>PC d,rfl,rfl⟩
theorem Sub.trans{a b c:St}(h:Sub a b)(h':Sub b c):Sub a c:=⟨fun d=>by
 rcases h.fr d with e | e
 ·exact .inl e
 ·rw [e];exact h'.fr d,h.bx.trans h'.bx,h.hp.trans h'.hp⟩
theorem JL{kf kb:List Nat}(h:Sub v s)(hu:(ef v.fr kf).all (fun x=>!CO x.2)=true):s.aP kf kb=v.aP kf kb:=by
 unfold St.aP
 rw [←h.bx,←h.hp]
 have:ef s.fr kf=ef v.fr kf:=by
  unfold ef at hu ⊢
  refine qi fun k hk=>?_
  have h1:=bH.1 hu (k,ax v.fr k) (ox (f:=fun k=>(k,ax v.fr k)) hk)
  rcases h.fr k with e | e
  ·rw [e] at h1;cases h1
  ·rw [e]
 rw [this]
def Fw(E:Env)(v:St)(gs:List cN)(kf kb:List Nat)(z:St):Prop:=∀ s,Sub v s→∃ s',fQ (call G Ω0) Ω0 E s gs=some s'∧s'.aP kf kb=z
theorem qC{gs:List cN}{kf kb:List Nat}{z v1:St}(n:Nat)(ks:List Nat)(h12:∃ s1,xq E v (gs.take n)=some s1∧(⟨ef s1.fr ks,s1.bx,s1.hp⟩:St)=v1)(h3:Fw E v1 (gs.drop n) kf kb z):Fw E v gs kf kb z:=by
 intro s hs
 obtain ⟨s1,h1,h2⟩:=h12
 obtain ⟨s2,h4,h5⟩:=IE hs h1
 obtain ⟨s3,h6,h7⟩:=h3 s2 ((h2▸LY s1 ks).trans h5)
 refine ⟨s3,?_,h7⟩
 exact v8 n h4 h6
theorem LZ{gs:List cN}{kf kb:List Nat}{z:St}(h12:∃ s1,xq E v gs=some s1∧s1.aP kf kb=z)(h3:z.fr.all (fun x=>!CO x.2)=true):Fw E v gs kf kb z:=by
 intro s hs
 obtain ⟨s1,h1,h2⟩:=h12
 obtain ⟨s2,h4,h5⟩:=IE hs h1
 subst h2
 exact ⟨s2,h4,JL h5 h3⟩
theorem PD{pre:List uD}{gs:List cN}{kf kb:List Nat}{st st1 z:St}(h0:qW E st pre=some st1)(h:Fw E st1 gs kf kb z):run G Ω0 E (.rg pre gs kf kb) st=some (.nrm,z):=by
 obtain ⟨s,h1,h2⟩:=h st1 ⟨fun _=>.inr rfl,rfl,rfl⟩
 rw [Af,h0,af,h1,af,h2]
def Rh(v:St)(p:cp):Bool:=
 if p.lt=true then p.cs.isEmpty&&(match p.p.g with
  | none=>calm (view p v) p.p.o
  | some (j,w)=>!(vS (ax v.fr j) w==some true)||calm (view p v) p.p.o)
 else LX v p.p
noncomputable def ua(E:Env):St→List cp→Option St
 | v,[]=>some v
 | v,p::ps=>if Rh v p=true then (ej (call G Ω0) Ω0 E v p).bind fun v'=>ua E v' ps else none
theorem Sub.view(h:Sub v s)(p:cp):Sub (view p v) (view p s):=by
 refine ⟨fun d=>?_,?_,?_⟩
 ·show ax (ef v.fr p.vw) d= .u∨ax (ef v.fr p.vw) d=ax (ef s.fr p.vw) d
  induction p.vw with
  | nil=>exact .inl rfl
  | cons k ks ih=>
   show ax ((k,ax v.fr k)::ef v.fr ks) d= .u∨ax ((k,ax v.fr k)::ef v.fr ks) d=ax ((k,ax s.fr k)::ef s.fr ks) d
   rw [ax,ax]
   by_cases e:k=d
   ·rw [ab e,ab e];exact h.fr k
   ·rw [ad e,ad e];exact ih
 ·show dk v.bx _=dk s.bx _
  rw [h.bx]
 ·show (if p.vh=true then v.hp else _)=if p.vh=true then s.hp else _
  rw [h.hp]
theorem Sub.calm(h:Sub v s){o:oV}(hc:calm v o=true):A.calm s o=true:=by
 haveI:=b0
 cases o with
 | as x=>have h1:(v.ev x).copy=true:=hc;show (s.ev x).copy=true;rw [h.ev (v7 h1)];exact h1
 | mv x=>
  have h1:(!CO (v.ev x))=true:=hc
  show (!CO (s.ev x))=true
  rw [h.ev (fun e=>by rw [e] at h1;cases h1)];exact h1
 | _=>exact hc
theorem GZ{p:cp}{v:St}(hc:calm v p.p.o=true)(hcs:p.cs=[]):lE v p.p.o=true∧eG E.dp p v=true∧∀ r,effect p r=⟨iL p.p.d (eN p.p.fz r.1),[],[],none⟩:=by
 obtain ⟨⟨d,o,g,fz⟩,lt,vw,vb,vh,cs,nk,nb⟩:=p
 simp only at hc hcs
 subst hcs
 cases o<;>first | (cases hc;done) | exact ⟨by first | exact hc | rfl,rfl,fun r=>by simp [effect]⟩
theorem L0{p:cp}{q:cj}(h:Sub v s)(hc:calm (view p v) p.p.o=true)(hcs:p.cs=[])(he:je (call G Ω0) Ω0 E p (view p v)=some q):je (call G Ω0) Ω0 E p (view p s)=some q∧∃ x,q=⟨iL p.p.d x,[],[],none⟩:=by
 have hw:=h.view p
 obtain ⟨a1,a2,a3⟩:=GZ (E:=E) (hw.calm hc) hcs
 unfold je at he ⊢
 split at he
 ·obtain ⟨r,h1,h2⟩:=ah.1 he
  obtain ⟨h3,h4⟩:=LV hw hc h1
  rw [ab (by simp only [a1,a2];rfl),h4]
  simp only [af]
  split at h2
  ·rename_i hok
   obtain rfl:=aa h2
   rw [ab hok,a3,a3]
   exact ⟨rfl,_,rfl⟩
  ·cases h2
 ·cases he
theorem Sub.app(h:Sub v s)(d:Option Nat)(x:AV):Sub ((⟨iL d x,[],[],none⟩:cj).app v) ((⟨iL d x,[],[],none⟩:cj).app s):=by
 cases d with
 | none=>exact ⟨h.fr,h.bx,h.hp⟩
 | some d=>exact h.put (some d) x
theorem ahF{p:cp}(h:Sub v s)(hc:Rh v p=true)(he:ej (call G Ω0) Ω0 E v p=some v'):∃ s',ej (call G Ω0) Ω0 E s p=some s'∧Sub v' s':=by
 unfold Rh at hc
 unfold ej at he ⊢
 cases hl:p.lt with
 | false=>
  rw [hl,ad (by simp)] at hc he
  rw [ad (by simp)]
  exact VT h hc he
 | true=>
  rw [hl,ab rfl] at hc he
  rw [ab rfl]
  obtain ⟨q,h1,h2⟩:=ah.1 he
  obtain rfl:=aa h2
  simp only [aA,yW] at hc
  obtain ⟨hcs,hc⟩:=hc
  have fin:∀ x,q=⟨iL p.p.d x,[],[],none⟩→ei (call G Ω0) Ω0 E p s=some q→∃ s',(ei (call G Ω0) Ω0 E p s).bind (fun q=>some (q.app s))=some s'∧Sub (q.app v) s':=by
   rintro x rfl hp
   rw [hp]
   exact ⟨_,rfl,h.app _ _⟩
  unfold ei at h1
  cases hg:p.p.g with
  | none=>
   rw [hg] at h1 hc
   obtain ⟨g1,x,g2⟩:=L0 h hc hcs h1
   refine fin x g2 ?_
   unfold ei
   rw [hg];exact g1
  | some w=>
   obtain ⟨j,w⟩:=w
   rw [hg] at h1 hc
   simp only at h1 hc
   obtain ⟨y,h3,h4⟩:=ah.1 h1
   have hj:ax s.fr j=ax v.fr j:=by
    rcases h.fr j with e | e
    ·rw [e] at h3;cases h3
    ·exact e.symm
   cases y with
   | true=>
    rw [ab rfl] at h4
    rw [h3] at hc
    obtain ⟨g1,x,g2⟩:=L0 h (by simpa using hc) hcs h4
    refine fin x g2 ?_
    unfold ei
    rw [hg]
    simp only [hj,h3,af,aq]
    exact g1
   | false=>
    rw [ad (by simp)] at h4
    obtain rfl:=aa h4
    refine fin .sk rfl ?_
    unfold ei
    rw [hg]
    simp only [hj,h3,af,bB,aM]
theorem L1:∀ {gs:List cp}{v s v':St},Sub v s→ua E v gs=some v'→∃ s',kd (call G Ω0) Ω0 E s gs=some s'∧Sub v' s'
 | [],v,s,v',h,he=>by
  obtain rfl:=aa he
  exact ⟨s,rfl,h⟩
 | g::gs,v,s,v',h,he=>by
  unfold ua at he
  split at he
  ·rename_i hc
   obtain ⟨v1,h1,h2⟩:=ah.1 he
   obtain ⟨s1,h3,h4⟩:=ahF h hc h1
   obtain ⟨s2,h5,h6⟩:=L1 h4 h2
   exact ⟨s2,ah.2 ⟨s1,h3,h5⟩,h6⟩
  ·cases he
def VU(E:Env)(v:St)(gs:List cp)(kf kb:List Nat)(z:St):Prop:=∀ s,Sub v s→∃ s',kd (call G Ω0) Ω0 E s gs=some s'∧s'.aP kf kb=z
theorem ab7{gs:List cp}{kf kb:List Nat}{z v1:St}(n:Nat)(ks:List Nat)(h12:∃ s1,ua E v (gs.take n)=some s1∧(⟨ef s1.fr ks,s1.bx,s1.hp⟩:St)=v1)(h3:VU E v1 (gs.drop n) kf kb z):VU E v gs kf kb z:=by
 intro s hs
 obtain ⟨s1,h1,h2⟩:=h12
 obtain ⟨s2,h4,h5⟩:=L1 hs h1
 obtain ⟨s3,h6,h7⟩:=h3 s2 ((h2▸LY s1 ks).trans h5)
 exact ⟨s3,De n h4 h6,h7⟩
theorem L2{gs:List cp}{kf kb:List Nat}{z:St}(h12:∃ s1,ua E v gs=some s1∧s1.aP kf kb=z)(h3:z.fr.all (fun x=>!CO x.2)=true):VU E v gs kf kb z:=by
 intro s hs
 obtain ⟨s1,h1,h2⟩:=h12
 obtain ⟨s2,h4,h5⟩:=L1 hs h1
 subst h2
 exact ⟨s2,h4,JL h5 h3⟩
theorem PE{pre:List uD}{mks:List Nat}{gs:List cp}{kf kb:List Nat}{st st1 z:St}(h0:qW E st pre=some st1)(hm:(mks.all (sn E.dp st1)&&gs.all (jf E.dp st1))=true)(h:VU E st1 gs kf kb z):run G Ω0 E (.dg pre mks gs kf kb) st=some (.nrm,z):=by
 obtain ⟨s,h1,h2⟩:=h st1 ⟨fun _=>.inr rfl,rfl,rfl⟩
 rw [Gu,h0,af,ab hm,h1,af,h2]
end
def plain:AV→Bool
 | .u=>false
 | .o _ _=>false
 | _=>true
noncomputable def G0(E:Env)(v:St):oV→Option AV
 | .mv x=>if plain (v.ev x)=true then some (v.ev x) else none
 | .as x=>if (v.ev x).pure=true then some (v.ev x) else none
 | .no x=>match v.ev x with
  | .b y=>some (.b !y)
  | _=>none
 | .fa off x=>match v.ev x with
  | .p q o=>some (.p q (o+off))
  | .e y o=>some (.e y (o+off))
  | _=>none
 | .nc x=>match v.ev x with
  | .p q o=>some (.p q o)
  | _=>none
 | .ld m x=>match v.ev x with
  | .p q o=>(v.box E.dp q).bind fun cs=>(pick m o cs).bind fun y=>if y.pure=true then some y else none
  | .e z o=>pick m o z.cl
  | _=>none
 | .bo op bl a b=>py op bl (v.ev a) (v.ev b)
 | .pk c a b=>match v.ev c with
  | .b true=>if (v.ev a).copy=true then some (v.ev a) else none
  | .b false=>if (v.ev b).copy=true then some (v.ev b) else none
  | _=>none
 | .ln false x=>match v.ev x with
  | .l _ es=>some (I es.length)
  | _=>none
 | .ex x i=>match v.ev x with
  | .tp vs=>vs[i]?
  | _=>none
 | .ia sz none x i=>match v.ev x with
  | .l _ es=>(qV (v.ev i)).bind fun j=>(es[j]?).bind fun e=>if e.nc=sz then some (.e e 0) else none
  | _=>none
 | .ca 0 f xs=>(aU (call G Ω0) Ω0 E v 0 f (xs.map v.ev)).map (·.1)
 | .c3 f xs=>(jx (call G Ω0) E v f (xs.map v.ev)).map (·.1)
 | _=>none
section
variable {E:Env}{v:St}{d:Option Nat}{o:oV}{y:AV}
theorem L3(h:G0 E v o=some y):calm v o=true∧execOp (call G Ω0) Ω0 E v d o=some (y,v):=by
 unfold G0 at h
 split at h
 ·rename_i x
  split at h
  ·rename_i hp
   obtain rfl:=aa h
   unfold calm
   simp only [execOp]
   cases he:v.ev x<;>rw [he] at hp<;>first | (cases hp;done) | exact ⟨rfl,rfl⟩
  ·cases h
 ·rename_i x
  split at h
  ·rename_i hy
   obtain rfl:=aa h
   have hc:=dG _ hy
   refine ⟨hc,?_⟩
   cases x with
   | c z=>simp only [execOp];exact ab hy
   | t n=>
    have hy:(ax v.fr n).pure=true:=hy
    have hc:(ax v.fr n).copy=true:=hc
    show execOp _ _ _ _ _ _=some (ax v.fr n,v)
    simp only [execOp]
    cases he:ax v.fr n<;>rw [he] at hy hc<;>first | (cases hy;done) | (simp only [hc,vJ,aq])
  ·cases h
 ·split at h
  ·rename_i he
   obtain rfl:=aa h
   exact ⟨rfl,by simp only [execOp,he];rfl⟩
  ·cases h
 ·split at h
  ·rename_i he
   obtain rfl:=aa h
   exact ⟨rfl,by simp only [execOp,he]⟩
  ·rename_i he
   obtain rfl:=aa h
   exact ⟨rfl,by simp only [execOp,he]⟩
  ·cases h
 ·split at h
  ·rename_i he
   obtain rfl:=aa h
   exact ⟨rfl,by simp only [execOp,he]⟩
  ·cases h
 ·split at h
  ·rename_i he
   obtain ⟨cs,h1,h2⟩:=ah.1 h
   obtain ⟨z,h3,h4⟩:=ah.1 h2
   split at h4
   ·rename_i hz
    obtain rfl:=aa h4
    refine ⟨rfl,?_⟩
    have hc:=dG _ hz
    simp only [execOp,he,h1,h3,af]
    cases z<;>first | (cases hz;done) | exact ab hc
   ·cases h4
  ·rename_i he
   exact ⟨rfl,by simp only [execOp,he,h,af]⟩
  ·cases h
 ·exact ⟨rfl,by simp only [execOp,h,af]⟩
 ·split at h
  ·rename_i he
   split at h
   ·rename_i hy
    obtain rfl:=aa h
    exact ⟨rfl,by simp only [execOp,he,qu,af,aq];exact ab hy⟩
   ·cases h
  ·rename_i he
   split at h
   ·rename_i hy
    obtain rfl:=aa h
    refine ⟨rfl,?_⟩
    simp only [execOp,he,qu,af,bB,aM]
    exact ab hy
   ·cases h
  ·cases h
 ·split at h
  ·rename_i he
   obtain rfl:=aa h
   exact ⟨rfl,by simp only [execOp,he];rfl⟩
  ·cases h
 ·split at h
  ·rename_i he
   exact ⟨rfl,by simp only [execOp,he,h,af]⟩
  ·cases h
 ·split at h
  ·rename_i he
   obtain ⟨j,h1,h2⟩:=ah.1 h
   obtain ⟨e,h3,h4⟩:=ah.1 h2
   split at h4
   ·rename_i hs
    obtain rfl:=aa h4
    exact ⟨rfl,by simp only [execOp,he,h1,af,h3,elemAt,hs,aq]⟩
   ·cases h4
  ·cases h
 ·rename_i f xs
  obtain ⟨r,h1,rfl⟩:=c9.1 h
  have hq:qk (.ca 0 f xs)=true:=rfl
  haveI:=b0
  have h2:=(K4 (d:=d) (⟨fun _=>.inr rfl,fun _ _ hb=>hb⟩:Le E.dp v v) hq rfl (show execOp (call G Ω0) Ω0 E v d (.ca 0 f xs)=some r from h1)).1
  exact ⟨rfl,h1.trans (by rw [←h2])⟩
 ·rename_i f xs
  obtain ⟨r,h1,rfl⟩:=c9.1 h
  have h2:=(LV (d:=d) (⟨fun _=>.inr rfl,rfl,rfl⟩:Sub v v) rfl (show execOp (call G Ω0) Ω0 E v d (.c3 f xs)=some r from h1)).1
  exact ⟨rfl,h1.trans (by rw [←h2])⟩
 ·cases h
noncomputable def Oe(E:Env)(v:St)(g:cN):Option St:=
 match g.d with
 | none=>none
 | some e=>match g.g with
  | none=>(G0 E v g.o).bind fun y=>some ⟨(e,eN g.fz y)::v.fr,v.bx,v.hp⟩
  | some (j,w)=>(vS (ax v.fr j) w).bind fun b=>if b=true then (G0 E v g.o).bind fun y=>some ⟨(e,eN g.fz y)::v.fr,v.bx,v.hp⟩ else some ⟨(e,.sk)::v.fr,v.bx,v.hp⟩
theorem Ri{v v1:St}{g:cN}(h:Oe E v g=some v1):LX v g=true∧ic (call G Ω0) Ω0 E v g=some v1:=by
 obtain ⟨d,o,g,fz⟩:=g
 unfold Oe at h
 cases d with
 | none=>cases h
 | some e=>
  cases g with
  | none=>
   obtain ⟨y,h1,h2⟩:=ah.1 h
   obtain rfl:=aa h2
   obtain ⟨h3,h4⟩:=L3 (d:=some e) h1
   exact ⟨h3,by simp only [ic];rw [h4];rfl⟩
  | some q=>
   obtain ⟨j,w⟩:=q
   obtain ⟨b,h0,h⟩:=ah.1 h
   simp only at h0 h
   cases b with
   | true=>
    rw [ab rfl] at h
    obtain ⟨y,h1,h2⟩:=ah.1 h
    obtain rfl:=aa h2
    obtain ⟨h3,h4⟩:=L3 (d:=some e) h1
    exact ⟨by simp only [LX,h3,vK],by simp only [ic,h0,af,aq];rw [h4];rfl⟩
   | false=>
    rw [ad (by simp)] at h
    obtain rfl:=aa h
    exact ⟨by simp only [LX,h0];rfl,by simp only [ic,h0,af];rfl⟩
variable {Q:St→Prop}
theorem s0{v v1:St}{g:cN}{gs:List cN}(h:Oe E v g=some v1)(h2:∃ s1,xq E v1 gs=some s1∧Q s1):∃ s1,xq E v (g::gs)=some s1∧Q s1:=by
 obtain ⟨s1,h3,h4⟩:=h2
 obtain ⟨h5,h6⟩:=Ri h
 refine ⟨s1,?_,h4⟩
 unfold xq
 rw [ab h5,h6];exact h3
theorem s7(h:Q v):∃ s1,xq E v []=some s1∧Q s1:=⟨v,rfl,h⟩
noncomputable def Rj(E:Env)(v:St)(p:cp):Option St:=
 if p.lt=true then (match p.p.d with
  | none=>none
  | some e=>match p.p.g with
   | none=>(G0 E (view p v) p.p.o).bind fun y=>if (jK E.dp p.nk y&&okB E.dp p.nb y&&p.cs.isEmpty)=true then some ⟨(e,eN p.p.fz y)::v.fr,v.bx,v.hp⟩ else none
   | some (j,w)=>(vS (ax v.fr j) w).bind fun b=>if b=true then (G0 E (view p v) p.p.o).bind fun y=>if (jK E.dp p.nk y&&okB E.dp p.nb y&&p.cs.isEmpty)=true then some ⟨(e,eN p.p.fz y)::v.fr,v.bx,v.hp⟩ else none else if p.cs.isEmpty=true then some ⟨(e,.sk)::v.fr,v.bx,v.hp⟩ else none)
 else Oe E v p.p
theorem Of{v:St}{p:cp}{e:Nat}(hd:p.p.d=some e)(h:G0 E (view p v) p.p.o=some y)(hr:(jK E.dp p.nk y&&okB E.dp p.nb y&&p.cs.isEmpty)=true):calm (view p v) p.p.o=true∧je (call G Ω0) Ω0 E p (view p v)=some ⟨[(e,eN p.p.fz y)],[],[],none⟩:=by
 simp only [aA,yW] at hr
 obtain ⟨h3,h4⟩:=L3 (d:=p.p.d) h
 obtain ⟨a1,a2,a3⟩:=GZ (E:=E) h3 hr.2
 refine ⟨h3,?_⟩
 unfold je
 rw [ab (by simp only [a1,a2];rfl),h4]
 simp only [af]
 rw [ab (by simp only [hr.1.1,hr.1.2];rfl),a3,hd];rfl
theorem ab8{v v1:St}{p:cp}(h:Rj E v p=some v1):Rh v p=true∧ej (call G Ω0) Ω0 E v p=some v1:=by
 unfold Rj at h
 unfold Rh ej
 cases hl:p.lt with
 | false=>
  rw [hl,ad (by simp)] at h
  rw [ad (by simp),ad (by simp)]
  exact Ri h
 | true=>
  rw [hl,ab rfl] at h
  rw [ab rfl,ab rfl]
  unfold ei
  split at h
  ·cases h
  ·rename_i e he
   split at h
   ·rename_i hg
    obtain ⟨y,h1,h2⟩:=ah.1 h
    split at h2
    ·rename_i hr
     obtain rfl:=aa h2
     obtain ⟨c1,c2⟩:=Of he h1 hr
     simp only [aA] at hr
     rw [hg]
     simp only [hr.2,c1,c2,jr,af]
     exact ⟨trivial,rfl⟩
    ·cases h2
   ·rename_i j w hg
    obtain ⟨b,h0,h⟩:=ah.1 h
    rw [hg]
    simp only [h0,af]
    cases b with
    | true=>
     rw [ab rfl] at h
     obtain ⟨y,h1,h2⟩:=ah.1 h
     split at h2
     ·rename_i hr
      obtain rfl:=aa h2
      obtain ⟨c1,c2⟩:=Of he h1 hr
      simp only [aA] at hr
      simp only [hr.2,c1,c2,aq,vK,jr,af]
      exact ⟨trivial,rfl⟩
     ·cases h2
    | false=>
     rw [ad (by simp)] at h
     split at h
     ·rename_i hr
      obtain rfl:=aa h
      refine ⟨by rw [hr];rfl,?_⟩
      simp only [bB,aM,af,he]
      rfl
     ·cases h
theorem yb{v v1:St}{p:cp}{ps:List cp}(h:Rj E v p=some v1)(h2:∃ s1,ua E v1 ps=some s1∧Q s1):∃ s1,ua E v (p::ps)=some s1∧Q s1:=by
 obtain ⟨s1,h3,h4⟩:=h2
 obtain ⟨h5,h6⟩:=ab8 h
 refine ⟨s1,?_,h4⟩
 unfold ua
 rw [ab h5,h6];exact h3
theorem yc(h:Q v):∃ s1,ua E v []=some s1∧Q s1:=⟨v,rfl,h⟩
end
section
variable {E:Env}{x y:AC}{st st1:St}{P:aI×St→Prop}
def Nx(E:Env)(x:AC)(st:St)(P:aI×St→Prop):Prop:=∃ q,run G Ω0 E x st=some q∧P q
theorem cD(h:run G Ω0 E x st=some (.nrm,st1))(hp:P (.nrm,st1)):Nx E x st P:=⟨_,h,hp⟩
theorem bw(h:Nx E x st fun q=>match q.1 with
  | .nrm=>Nx E y q.2 P
  | _=>P q):Nx E (.sq x y) st P:=by
 obtain ⟨⟨e,s⟩,h1,h2⟩:=h
 cases e with
 | nrm=>
  obtain ⟨q,h3,h4⟩:=h2
  exact ⟨q,ak h1 h3,h4⟩
 | ret=>exact ⟨_,Dd h1,h2⟩
 | ex i=>exact ⟨_,iQ h1,h2⟩
theorem zw{i:Nat}(h:Nx E x st fun q=>match q.1 with
  | .ex j=>if j=i then P (.nrm,q.2) else P q
  | _=>P q):Nx E (.bl i x) st P:=by
 obtain ⟨⟨e,s⟩,h1,h2⟩:=h
 unfold Nx
 rw [sr,h1]
 cases e with
 | nrm=>exact ⟨_,rfl,h2⟩
 | ret=>exact ⟨_,rfl,h2⟩
 | ex j=>
  simp only [af,inBlock]
  simp only at h2
  by_cases e:j=i
  ·rw [ab e] at h2 ⊢;exact ⟨_,rfl,h2⟩
  ·rw [ad e] at h2 ⊢;exact ⟨_,rfl,h2⟩
theorem iR{c:ba}(b:Bool)(h:qu (st.ev c)=some b)(ht:b=true→Nx E x st P)(hf:b=false→Nx E y st P):Nx E (.ite c x y) st P:=by
 cases b with
 | true=>obtain ⟨q,h1,h2⟩:=ht rfl;exact ⟨q,cX h h1,h2⟩
 | false=>obtain ⟨q,h1,h2⟩:=hf rfl;exact ⟨q,cg h h1,h2⟩
theorem oG{kf kb:List Nat}(h:Nx E x (st.aP kf kb) P):Nx E (.kp kf kb x) st P:=by
 obtain ⟨q,h1,h2⟩:=h
 exact ⟨q,dU h1,h2⟩
theorem mN(h:P (.nrm,st)):Nx E .sk st P:=⟨_,bM _ _,h⟩
theorem nI(h:P (.ret,st)):Nx E .rt st P:=⟨_,eE _ _,h⟩
theorem PF{c:aY}{q:aI×St}(h:gY G Ω0 E c (st.aP c.kf c.kb)=some q)(hp:P q):Nx E c.lp st P:=⟨q,by rw [eg];exact h,hp⟩
theorem IF{f:FuncId}{fn:bE}{args:List AV}{hp hp':HP}{z:bm}{st:St}(hG:G f=some fn)(h:Nx E fn.code ⟨jL 0 args,[],hp⟩ fun q=>q=(.ret,st))(he:st.end_ E fn.res=some z)(hh:st.hp=hp'):call G Ω0 E f args hp=some (z,hp'):=by
 obtain ⟨q,h1,rfl⟩:=h
 exact fD hG h1 he hh
theorem L4{q:aI×St}(h:Nx E x st fun r=>r=q):run G Ω0 E x st=some q:=by
 obtain ⟨_,h1,rfl⟩:=h
 exact h1
end
end Go.Proofs.YtkkkkondjclcnaaGreat.A
