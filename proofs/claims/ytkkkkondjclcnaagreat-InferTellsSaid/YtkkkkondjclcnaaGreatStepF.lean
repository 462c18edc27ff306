/- Steps of an abstract run, one after the other; loops that count; regions cut in parts: what is not looked at again is forgotten between them. -/
import Derived.Test.YtkkkkondjclcnaaGreatLift
import Derived.Test.YtkkkkondjclcnaaGreatBase
import Derived.Test.YtkkkkondjclcnaaGreatAbsH
set_option linter.all false
set_option maxRecDepth 100000
namespace Go.Proofs.YtkkkkondjclcnaaGreat.A
open Go
variable [Lp]
theorem bM{E:Env}{f:FuncId}{args:List AV}{r:AV}(h:call G Ω0 ⟨0,false⟩ f args (fun _=>none)=some (.ret r,fun _=>none))(hp:AV.bk args=true)(hr:r.pure=true)(st:St) :
  aS (call G Ω0) Ω0 E st 0 f args=some (r,st):=by
 unfold aS
 simp only [xS _ _ hp,ae,h,hr]
 rfl
section
variable {E:Env}{x y:AC}{st st1:St}{r:Option (aH×St)}
theorem aj(h1:run G Ω0 E x st=some (.nrm,st1))(h2:run G Ω0 E y st1=r):run G Ω0 E (.sq x y) st=r:=by rw [vS,h1];exact h2
theorem BM(h1:run G Ω0 E x st=some (.ret,st1)):run G Ω0 E (.sq x y) st=some (.ret,st1):=by rw [vS,h1];rfl
theorem ig{id:Nat}(h1:run G Ω0 E x st=some (.ex id,st1)):run G Ω0 E (.sq x y) st=some (.ex id,st1):=by rw [vS,h1];rfl
theorem cL{c:ba}(h:qh (st.ev c)=some true)(h2:run G Ω0 E x st=r):run G Ω0 E (.ite c x y) st=r:=by rw [run_ite,h];exact h2
theorem bQ{c:ba}(h:qh (st.ev c)=some false)(h2:run G Ω0 E y st=r):run G Ω0 E (.ite c x y) st=r:=by rw [run_ite,h];exact h2
theorem eE{id:Nat}(h1:run G Ω0 E x st=some (.nrm,st1)):run G Ω0 E (.bl id x) st=some (.nrm,st1):=by rw [sw,h1];rfl
theorem FM{id:Nat}(h1:run G Ω0 E x st=some (.ret,st1)):run G Ω0 E (.bl id x) st=some (.ret,st1):=by rw [sw,h1];rfl
theorem lN{id:Nat}(h1:run G Ω0 E x st=some (.ex id,st1)):run G Ω0 E (.bl id x) st=some (.nrm,st1):=by rw [sw,h1];simp only [ae,inBlock,an]
theorem dz{kf kb:List Nat}(h:run G Ω0 E x (st.aN kf kb)=r):run G Ω0 E (.kp kf kb x) st=r:=by rw [jE];exact h
theorem Du{s1 s2:St} : ∀ (n:Nat){ops:List b6}{s:St},jY (call G Ω0) Ω0 E s (ops.take n)=some s1→jY (call G Ω0) Ω0 E s1 (ops.drop n)=some s2→jY (call G Ω0) Ω0 E s ops=some s2
 | 0,ops,s,h1,h2=>by obtain rfl:=ad h1;exact h2
 | n+1,[],s,h1,h2=>by obtain rfl:=ad h1;exact h2
 | n+1,p::ps,s,h1,h2=>by
  obtain ⟨s3,h3,h4⟩:=af.1 h1
  exact af.2 ⟨s3,h3,Du n h4 h2⟩
theorem dO(n:Nat){pre:List uF}{mks:List Nat}{ops:List b6}{kf kb:List Nat}{st st1 s1 s2 s3:St}(h0:qZ E st pre=some st1)(hm:(mks.all (su E.dp st1)&&ops.all (iG E.dp st1))=true)(h1:jY (call G Ω0) Ω0 E st1 (ops.take n)=some s1)(h2:jY (call G Ω0) Ω0 E s1 (ops.drop n)=some s2)(h3:s2.aN kf kb=s3) :
  run G Ω0 E (.dg pre mks ops kf kb) st=some (.nrm,s3):=by
 rw [GA,h0,ae,aa hm,Du n h1 h2,ae,h3]
theorem eK{f:FuncId}{fn:bE}{args:List AV}{hp hp':HP}{z:bm}(hG:G f=some fn)(h:run G Ω0 E fn.code ⟨jB 0 args,[],hp⟩=some (.ret,st))(he:st.end_ E fn.res=some z)(hh:st.hp=hp'):call G Ω0 E f args hp=some (z,hp'):=by
 rw [tL,hG,ae,h];simp only [ae,he,hh]
theorem Ha{f:FuncId}{fn:bE}{args:List AV}{hp hp':HP}{z:bm}(hG:G f=some fn)(h:run G Ω0 E fn.code ⟨jB 0 args,[],hp⟩=some (.nrm,st))(he:st.end_ E fn.res=some z)(hh:st.hp=hp'):call G Ω0 E f args hp=some (z,hp'):=by
 rw [tL,hG,ae,h];simp only [ae,he,hh]
end
theorem vZ{E:Env}{s1 s2:St} : ∀ (n:Nat){ops:List cF}{s:St},fK (call G Ω0) Ω0 E s (ops.take n)=some s1→fK (call G Ω0) Ω0 E s1 (ops.drop n)=some s2→fK (call G Ω0) Ω0 E s ops=some s2
 | 0,ops,s,h1,h2=>by obtain rfl:=ad h1;exact h2
 | n+1,[],s,h1,h2=>by obtain rfl:=ad h1;exact h2
 | n+1,p::ps,s,h1,h2=>by
  obtain ⟨s3,h3,h4⟩:=af.1 h1
  exact af.2 ⟨s3,h3,vZ n h4 h2⟩
theorem abL{E:Env}(n:Nat){pre:List uF}{ops:List cF}{kf kb:List Nat}{st st1 s1 s2 s3:St}(h0:qZ E st pre=some st1)(h1:fK (call G Ω0) Ω0 E st1 (ops.take n)=some s1)(h2:fK (call G Ω0) Ω0 E s1 (ops.drop n)=some s2)(h3:s2.aN kf kb=s3) :
  run G Ω0 E (.rg pre ops kf kb) st=some (.nrm,s3):=by
 rw [Av,h0,ae,vZ n h1 h2,ae,h3]
theorem Rs{E:Env}{c:aY}(S:Nat→St)(n:Nat){e:Nat}{z:St}(hk:∀ k,(S k).aN c.kf c.kb=S k)(hs:∀ k,k<n→run G Ω0 E c.x (S k)=some (.nrm,S (k+1)))(he:run G Ω0 E c.x (S n)=some (.ex e,z)):fL G Ω0 E c (S 0)=some (.ex e,z):=by
 have:∀ m k,k+m=n→fL G Ω0 E c (S k)=some (.ex e,z):=by
  intro m
  induction m with
  | zero=>
    intro k hm;obtain rfl:k=n:=by omega
    exact cT (by rw [hk];exact he) (by simp)
  | succ m ih=>
   intro k hm
   rw [cP (st1:=S (k+1))]
   ·exact ih (k+1) (by omega)
   ·rw [hk]
    show (run G Ω0 E c.x (S k)).bind _=_
    rw [hs k (by omega)]
    exact ak some (hk (k+1))
 exact this n 0 (by omega)
theorem Wl{E:Env}{c:aY}(S:Nat→St)(n:Nat)(p:Nat→Bool){x y:aH×St}(hk:∀ k,(S k).aN c.kf c.kb=S k)(hx:x.1≠.nrm)(hy:y.1≠.nrm)
  (hs:∀ k,k<n→p k=false→run G Ω0 E c.x (S k)=some (.nrm,S (k+1))) (hf:∀ k,k<n→p k=true→run G Ω0 E c.x (S k)=some x) (he:run G Ω0 E c.x (S n)=some y):fL G Ω0 E c (S 0)=some (if (List.range n).any p=true then x else y):=by
 have:∀ m k,k+m=n→(∀ j,j<k→p j=false)→fL G Ω0 E c (S k)=some (if (List.range n).any p=true then x else y):=by
  intro m
  induction m with
  | zero=>
   intro k hm hp
   obtain rfl:k=n:=by omega
   rw [ab (by simp only [lD,zp,not_exists,not_and];exact fun j hj=>by rw [hp j hj];simp)]
   exact cT (by rw [hk];exact he) (by exact hy)
  | succ m ih=>
   intro k hm hp
   cases hq:p k with
   | true=>
    rw [aa (lD.2 ⟨k,zp.2 (by omega),hq⟩)]
    exact cT (by rw [hk];exact hf k (by omega) hq) (by exact hx)
   | false=>
    rw [cP (st1:=S (k+1))]
    ·exact ih (k+1) (by omega) fun j hj=>by
      by_cases hjk:j=k
      ·rw [hjk];exact hq
      ·exact hp j (by omega)
    ·rw [hk]
     show (run G Ω0 E c.x (S k)).bind _=_
     rw [hs k (by omega) hq]
     exact ak some (hk (k+1))
 exact this n 0 (by omega) fun j hj=>absurd hj (by omega)
structure Sub(v s:St):Prop where
 fr:∀ d,ay v.fr d= .u∨ay v.fr d=ay s.fr d
 bx:v.bx=s.bx
 hp:v.hp=s.hp
section
variable {v s v':St}{E:Env}
abbrev b0:bI:=⟨0,fun _=>true⟩
theorem Sub.le(h:Sub v s)(dp:Nat):Le dp v s:=⟨h.fr,fun k cs hb=>by simp only [St.box,h.bx,h.hp] at hb ⊢;exact hb⟩
theorem Sub.ev(h:Sub v s){x:ba}(hx:v.ev x≠.u):s.ev x=v.ev x:=haveI:=b0;Le.ev (E:=⟨0,false⟩) (h.le 0) rfl hx
theorem Sub.evs(h:Sub v s){xs:List ba}(hx:∀ x∈xs,v.ev x≠.u):xs.map s.ev=xs.map v.ev:=haveI:=b0;Le.map (E:=⟨0,false⟩) (h.le 0) hx
def calm(v:St):oG→Bool
 | .as x=>(v.ev x).copy
 | .mv x=>!C0 (v.ev x)
 | .c3 _ _=>true
 | o=>qk o
theorem L6{d:Option Nat}{o:oG}{r:AV×St}(h:Sub v s)(hc:calm v o=true)(he:execOp (call G Ω0) Ω0 E v d o=some r):r.2=v∧execOp (call G Ω0) Ω0 E s d o=some (r.1,s):=by
 haveI:=b0
 have hL:=h.le E.dp
 cases o with
 | as x=>
  have hcp:(v.ev x).copy=true:=hc
  have hx:=h.ev (vY hcp)
  cases x with
  | c y=>
   simp only [execOp] at he ⊢
   split at he
   ·rename_i hp
    obtain rfl:=ad he
    exact ⟨rfl,aa hp⟩
   ·cases he
  | t n=>
   have hx:ay s.fr n=ay v.fr n:=hx
   have hcp:(ay v.fr n).copy=true:=hcp
   simp only [execOp] at he ⊢
   rw [hx]
   cases hf:ay v.fr n<;>rw [hf] at he hcp<;>simp only [AV.copy,bn] at hcp<;>simp only [AV.copy,vF,an] at he ⊢<;>first | (obtain rfl:=ad he;exact ⟨rfl,rfl⟩) | (simp only [hcp,vF,an] at he ⊢;obtain rfl:=ad he;exact ⟨rfl,rfl⟩)
 | c3 f args=>
  simp only [execOp] at he ⊢
  unfold js at he ⊢
  split at he
  ·rename_i hp
   simp only [aB] at hp
   have ha:args.map s.ev=args.map v.ev:=h.evs fun x hx=>vY (bO.1 hp.1 _ (oe hx))
   have hb:(fun k=>s.box E.dp k)=fun k=>v.box E.dp k:=by funext k;simp only [St.box,h.bx,h.hp]
   obtain ⟨⟨q,hq⟩,h1,h2⟩:=af.1 he
   rw [ha,←h.bx,aa (by simp only [aB];exact hp),hb,h1]
   simp only [ae] at h2 ⊢
   cases q with
   | ret x=>
    simp only at h2 ⊢
    split at h2
    ·rename_i hx
     obtain rfl:=ad h2
     exact ⟨rfl,aa hx⟩
    ·cases h2
   | _=>cases h2
  ·cases he
 | mv x=>exact Lg hL rfl hc he
 | st _ _ _=>cases hc
 | ap _ _ _ _ _=>cases hc
 | _=>exact Lg hL hc rfl he
def L7(v:St)(g:cF):Bool:=
 match g.g with
 | none=>calm v g.o
 | some (j,w)=>!(vQ (ay v.fr j) w==some true)||calm v g.o
noncomputable def xq(E:Env):St→List cF→Option St
 | v,[]=>some v
 | v,g::gs=>if L7 v g=true then (gP (call G Ω0) Ω0 E v g).bind fun v'=>xq E v' gs else none
theorem Sub.put(h:Sub v s)(d:Option Nat)(x:AV):Sub (put v d x) (put s d x):=by
 cases d with
 | none=>exact h
 | some d=>
  refine ⟨fun k=>?_,h.bx,h.hp⟩
  show ay ((d,x)::v.fr) k= .u∨ay ((d,x)::v.fr) k=ay ((d,x)::s.fr) k
  unfold ay
  by_cases e:d=k
  ·rw [aa e,aa e];exact .inr rfl
  ·rw [ab e,ab e];exact h.fr k
theorem VM{g:cF}(h:Sub v s)(hc:L7 v g=true)(he:gP (call G Ω0) Ω0 E v g=some v'):∃ s',gP (call G Ω0) Ω0 E s g=some s'∧Sub v' s':=by
 have run:calm v g.o=true→∀ w,(execOp (call G Ω0) Ω0 E v g.d g.o).bind (fun r=>some (A.put r.2 g.d (eH g.fz r.1)))=some w→∃ s',(execOp (call G Ω0) Ω0 E s g.d g.o).bind (fun r=>some (A.put r.2 g.d (eH g.fz r.1)))=some s'∧Sub w s':=by
  intro hcm w hw
  obtain ⟨r,h1,h2⟩:=af.1 hw
  obtain ⟨h3,h4⟩:=L6 h hcm h1
  obtain rfl:=ad h2
  rw [h4,h3]
  exact ⟨_,rfl,h.put _ _⟩
 unfold gP at he ⊢
 unfold L7 at hc
 cases hg:g.g with
 | none=>rw [hg] at he hc;exact run hc _ he
 | some q=>
  obtain ⟨j,w⟩:=q
  rw [hg] at he hc
  simp only at he hc ⊢
  obtain ⟨y,h1,h2⟩:=af.1 he
  have hj:ay s.fr j=ay v.fr j:=by
   rcases h.fr j with e | e
   ·rw [e] at h1;cases h1
   ·exact e.symm
  rw [hj,h1]
  simp only [ae]
  cases y with
  | true=>
   rw [aa rfl] at h2 ⊢
   refine run ?_ _ h2
   rw [h1] at hc
   simpa using hc
  | false=>
   rw [ab (by simp)] at h2 ⊢
   obtain rfl:=ad h2
   exact ⟨_,rfl,h.put _ _⟩
theorem IP:∀ {gs:List cF}{v s v':St},Sub v s→xq E v gs=some v'→∃ s',fK (call G Ω0) Ω0 E s gs=some s'∧Sub v' s'
 | [],v,s,v',h,he=>by
  obtain rfl:=ad he
  exact ⟨s,rfl,h⟩
 | g::gs,v,s,v',h,he=>by
  unfold xq at he
  split at he
  ·rename_i hc
   obtain ⟨v1,h1,h2⟩:=af.1 he
   obtain ⟨s1,h3,h4⟩:=VM h hc h1
   obtain ⟨s2,h5,h6⟩:=IP h4 h2
   exact ⟨s2,af.2 ⟨s1,h3,h5⟩,h6⟩
  ·cases he
theorem PL{fr:List (Nat×AV)}{ks:List Nat}(d:Nat):ay (ea fr ks) d= .u∨ay (ea fr ks) d=ay fr d:=by
 induction ks with
 | nil=>exact .inl rfl
 | cons k ks ih=>
  show ay ((k,ay fr k)::ea fr ks) d= .u∨ay ((k,ay fr k)::ea fr ks) d=ay fr d
  rw [ay]
  by_cases e:k=d
  ·subst e;rw [aa rfl];exact .inr rfl
  ·rw [ab e];exact ih
theorem L8(s:St)(ks:List Nat):Sub ⟨ea s.fr ks,s.bx,s.hp⟩ s:=⟨fun d=>PL d,rfl,rfl⟩
theorem Sub.trans{a b c:St}(h:Sub a b)(h':Sub b c):Sub a c:=⟨fun d=>by
 rcases h.fr d with e | e
 ·exact .inl e
 ·rw [e];exact h'.fr d,h.bx.trans h'.bx,h.hp.trans h'.hp⟩
theorem JW{kf kb:List Nat}(h:Sub v s)(hu:(ea v.fr kf).all (fun x=>!C0 x.2)=true):s.aN kf kb=v.aN kf kb:=by
 unfold St.aN
 rw [←h.bx,←h.hp]
 have:ea s.fr kf=ea v.fr kf:=by
  unfold ea at hu ⊢
  refine sT fun k hk=>?_
  have h1:=bO.1 hu (k,ay v.fr k) (oe (f:=fun k=>(k,ay v.fr k)) hk)
  rcases h.fr k with e | e
  ·rw [e] at h1;cases h1
  ·rw [e]
 rw [this]
def Fw(E:Env)(v:St)(gs:List cF)(kf kb:List Nat)(z:St):Prop:=∀ s,Sub v s→∃ s',fK (call G Ω0) Ω0 E s gs=some s'∧s'.aN kf kb=z
theorem qy{gs:List cF}{kf kb:List Nat}{z v1:St}(n:Nat)(ks:List Nat)(h12:∃ s1,xq E v (gs.take n)=some s1∧(⟨ea s1.fr ks,s1.bx,s1.hp⟩:St)=v1)(h3:Fw E v1 (gs.drop n) kf kb z):Fw E v gs kf kb z:=by
 intro s hs
 obtain ⟨s1,h1,h2⟩:=h12
 obtain ⟨s2,h4,h5⟩:=IP hs h1
 obtain ⟨s3,h6,h7⟩:=h3 s2 ((h2▸L8 s1 ks).trans h5)
 refine ⟨s3,?_,h7⟩
 exact vZ n h4 h6
theorem L9{gs:List cF}{kf kb:List Nat}{z:St}(h12:∃ s1,xq E v gs=some s1∧s1.aN kf kb=z)(h3:z.fr.all (fun x=>!C0 x.2)=true):Fw E v gs kf kb z:=by
 intro s hs
 obtain ⟨s1,h1,h2⟩:=h12
 obtain ⟨s2,h4,h5⟩:=IP hs h1
 subst h2
 exact ⟨s2,h4,JW h5 h3⟩
theorem PM{pre:List uF}{gs:List cF}{kf kb:List Nat}{st st1 z:St}(h0:qZ E st pre=some st1)(h:Fw E st1 gs kf kb z):run G Ω0 E (.rg pre gs kf kb) st=some (.nrm,z):=by
 obtain ⟨s,h1,h2⟩:=h st1 ⟨fun _=>.inr rfl,rfl,rfl⟩
 rw [Av,h0,ae,h1,ae,h2]
def Rt(v:St)(p:b6):Bool:=
 if p.lt=true then p.cs.isEmpty&&(match p.p.g with
  | none=>calm (view p v) p.p.o
  | some (j,w)=>!(vQ (ay v.fr j) w==some true)||calm (view p v) p.p.o)
 else L7 v p.p
noncomputable def uf(E:Env):St→List b6→Option St
 | v,[]=>some v
 | v,p::ps=>if Rt v p=true then (ee (call G Ω0) Ω0 E v p).bind fun v'=>uf E v' ps else none
theorem Sub.view(h:Sub v s)(p:b6):Sub (view p v) (view p s):=by
 refine ⟨fun d=>?_,?_,?_⟩
 ·show ay (ea v.fr p.vw) d= .u∨ay (ea v.fr p.vw) d=ay (ea s.fr p.vw) d
  induction p.vw with
  | nil=>exact .inl rfl
  | cons k ks ih=>
   show ay ((k,ay v.fr k)::ea v.fr ks) d= .u∨ay ((k,ay v.fr k)::ea v.fr ks) d=ay ((k,ay s.fr k)::ea s.fr ks) d
   rw [ay,ay]
   by_cases e:k=d
   ·rw [aa e,aa e];exact h.fr k
   ·rw [ab e,ab e];exact ih
 ·show di v.bx _=di s.bx _
  rw [h.bx]
 ·show (if p.vh=true then v.hp else _)=if p.vh=true then s.hp else _
  rw [h.hp]
theorem Sub.calm(h:Sub v s){o:oG}(hc:calm v o=true):A.calm s o=true:=by
 haveI:=b0
 cases o with
 | as x=>have h1:(v.ev x).copy=true:=hc;show (s.ev x).copy=true;rw [h.ev (vY h1)];exact h1
 | mv x=>
  have h1:(!C0 (v.ev x))=true:=hc
  show (!C0 (s.ev x))=true
  rw [h.ev (fun e=>by rw [e] at h1;cases h1)];exact h1
 | _=>exact hc
theorem Hb{p:b6}{v:St}(hc:calm v p.p.o=true)(hcs:p.cs=[]):lx v p.p.o=true∧er E.dp p v=true∧∀ r,effect p r=⟨iF p.p.d (eH p.p.fz r.1),[],[],none⟩:=by
 obtain ⟨⟨d,o,g,fz⟩,lt,vw,vb,vh,cs,nk,nb⟩:=p
 simp only at hc hcs
 subst hcs
 cases o<;>first | (cases hc;done) | exact ⟨by first | exact hc | rfl,rfl,fun r=>by simp [effect]⟩
theorem Ma{p:b6}{q:bZ}(h:Sub v s)(hc:calm (view p v) p.p.o=true)(hcs:p.cs=[])(he:jc (call G Ω0) Ω0 E p (view p v)=some q):jc (call G Ω0) Ω0 E p (view p s)=some q∧∃ x,q=⟨iF p.p.d x,[],[],none⟩:=by
 have hw:=h.view p
 obtain ⟨a1,a2,a3⟩:=Hb (E:=E) (hw.calm hc) hcs
 unfold jc at he ⊢
 split at he
 ·obtain ⟨r,h1,h2⟩:=af.1 he
  obtain ⟨h3,h4⟩:=L6 hw hc h1
  rw [aa (by simp only [a1,a2];rfl),h4]
  simp only [ae]
  split at h2
  ·rename_i hok
   obtain rfl:=ad h2
   rw [aa hok,a3,a3]
   exact ⟨rfl,_,rfl⟩
  ·cases h2
 ·cases he
theorem Sub.app(h:Sub v s)(d:Option Nat)(x:AV):Sub ((⟨iF d x,[],[],none⟩:bZ).app v) ((⟨iF d x,[],[],none⟩:bZ).app s):=by
 cases d with
 | none=>exact ⟨h.fr,h.bx,h.hp⟩
 | some d=>exact h.put (some d) x
theorem agV{p:b6}(h:Sub v s)(hc:Rt v p=true)(he:ee (call G Ω0) Ω0 E v p=some v'):∃ s',ee (call G Ω0) Ω0 E s p=some s'∧Sub v' s':=by
 unfold Rt at hc
 unfold ee at he ⊢
 cases hl:p.lt with
 | false=>
  rw [hl,ab (by simp)] at hc he
  rw [ab (by simp)]
  exact VM h hc he
 | true=>
  rw [hl,aa rfl] at hc he
  rw [aa rfl]
  obtain ⟨q,h1,h2⟩:=af.1 he
  obtain rfl:=ad h2
  simp only [aB,zn] at hc
  obtain ⟨hcs,hc⟩:=hc
  have fin:∀ x,q=⟨iF p.p.d x,[],[],none⟩→ed (call G Ω0) Ω0 E p s=some q→∃ s',(ed (call G Ω0) Ω0 E p s).bind (fun q=>some (q.app s))=some s'∧Sub (q.app v) s':=by
   rintro x rfl hp
   rw [hp]
   exact ⟨_,rfl,h.app _ _⟩
  unfold ed at h1
  cases hg:p.p.g with
  | none=>
   rw [hg] at h1 hc
   obtain ⟨g1,x,g2⟩:=Ma h hc hcs h1
   refine fin x g2 ?_
   unfold ed
   rw [hg];exact g1
  | some w=>
   obtain ⟨j,w⟩:=w
   rw [hg] at h1 hc
   simp only at h1 hc
   obtain ⟨y,h3,h4⟩:=af.1 h1
   have hj:ay s.fr j=ay v.fr j:=by
    rcases h.fr j with e | e
    ·rw [e] at h3;cases h3
    ·exact e.symm
   cases y with
   | true=>
    rw [aa rfl] at h4
    rw [h3] at hc
    obtain ⟨g1,x,g2⟩:=Ma h (by simpa using hc) hcs h4
    refine fin x g2 ?_
    unfold ed
    rw [hg]
    simp only [hj,h3,ae,an]
    exact g1
   | false=>
    rw [ab (by simp)] at h4
    obtain rfl:=ad h4
    refine fin .sk rfl ?_
    unfold ed
    rw [hg]
    simp only [hj,h3,ae,bn,aI]
theorem Mb:∀ {gs:List b6}{v s v':St},Sub v s→uf E v gs=some v'→∃ s',jY (call G Ω0) Ω0 E s gs=some s'∧Sub v' s'
 | [],v,s,v',h,he=>by
  obtain rfl:=ad he
  exact ⟨s,rfl,h⟩
 | g::gs,v,s,v',h,he=>by
  unfold uf at he
  split at he
  ·rename_i hc
   obtain ⟨v1,h1,h2⟩:=af.1 he
   obtain ⟨s1,h3,h4⟩:=agV h hc h1
   obtain ⟨s2,h5,h6⟩:=Mb h4 h2
   exact ⟨s2,af.2 ⟨s1,h3,h5⟩,h6⟩
  ·cases he
def VN(E:Env)(v:St)(gs:List b6)(kf kb:List Nat)(z:St):Prop:=∀ s,Sub v s→∃ s',jY (call G Ω0) Ω0 E s gs=some s'∧s'.aN kf kb=z
theorem abM{gs:List b6}{kf kb:List Nat}{z v1:St}(n:Nat)(ks:List Nat)(h12:∃ s1,uf E v (gs.take n)=some s1∧(⟨ea s1.fr ks,s1.bx,s1.hp⟩:St)=v1)(h3:VN E v1 (gs.drop n) kf kb z):VN E v gs kf kb z:=by
 intro s hs
 obtain ⟨s1,h1,h2⟩:=h12
 obtain ⟨s2,h4,h5⟩:=Mb hs h1
 obtain ⟨s3,h6,h7⟩:=h3 s2 ((h2▸L8 s1 ks).trans h5)
 exact ⟨s3,Du n h4 h6,h7⟩
theorem Mc{gs:List b6}{kf kb:List Nat}{z:St}(h12:∃ s1,uf E v gs=some s1∧s1.aN kf kb=z)(h3:z.fr.all (fun x=>!C0 x.2)=true):VN E v gs kf kb z:=by
 intro s hs
 obtain ⟨s1,h1,h2⟩:=h12
 obtain ⟨s2,h4,h5⟩:=Mb hs h1
 subst h2
 exact ⟨s2,h4,JW h5 h3⟩
theorem PN{pre:List uF}{mks:List Nat}{gs:List b6}{kf kb:List Nat}{st st1 z:St}(h0:qZ E st pre=some st1)(hm:(mks.all (su E.dp st1)&&gs.all (iG E.dp st1))=true)(h:VN E st1 gs kf kb z):run G Ω0 E (.dg pre mks gs kf kb) st=some (.nrm,z):=by
 obtain ⟨s,h1,h2⟩:=h st1 ⟨fun _=>.inr rfl,rfl,rfl⟩
 rw [GA,h0,ae,aa hm,h1,ae,h2]
end
def plain:AV→Bool
 | .u=>false
 | .o _ _=>false
 | _=>true
noncomputable def Hc(E:Env)(v:St):oG→Option AV
 | .mv x=>if plain (v.ev x)=true then some (v.ev x) else none
 | .as x=>if (v.ev x).pure=true then some (v.ev x) else none
 | .no x=>match v.ev x with
  | .b y=>some (.b !y)
  | _=>none
 | .fa off x=>match v.ev x with
  | .p q o=>some (.p q (o+off))
  | .e y o=>some (.e y (o+off))
  | _=>none
 | .nc x=>match v.ev x with
  | .p q o=>some (.p q o)
  | _=>none
 | .ld m x=>match v.ev x with
  | .p q o=>(v.box E.dp q).bind fun cs=>(pick m o cs).bind fun y=>if y.pure=true then some y else none
  | .e z o=>pick m o z.cl
  | _=>none
 | .bo op bl a b=>pf op bl (v.ev a) (v.ev b)
 | .pk c a b=>match v.ev c with
  | .b true=>if (v.ev a).copy=true then some (v.ev a) else none
  | .b false=>if (v.ev b).copy=true then some (v.ev b) else none
  | _=>none
 | .ln false x=>match v.ev x with
  | .l _ es=>some (I es.length)
  | _=>none
 | .ex x i=>match v.ev x with
  | .tp vs=>vs[i]?
  | _=>none
 | .ia sz none x i=>match v.ev x with
  | .l _ es=>(qY (v.ev i)).bind fun j=>(es[j]?).bind fun e=>if e.nc=sz then some (.e e 0) else none
  | _=>none
 | .ca 0 f xs=>(aS (call G Ω0) Ω0 E v 0 f (xs.map v.ev)).map (·.1)
 | .c3 f xs=>(js (call G Ω0) E v f (xs.map v.ev)).map (·.1)
 | _=>none
section
variable {E:Env}{v:St}{d:Option Nat}{o:oG}{y:AV}
theorem Md(h:Hc E v o=some y):calm v o=true∧execOp (call G Ω0) Ω0 E v d o=some (y,v):=by
 unfold Hc at h
 split at h
 ·rename_i x
  split at h
  ·rename_i hp
   obtain rfl:=ad h
   unfold calm
   simp only [execOp]
   cases he:v.ev x<;>rw [he] at hp<;>first | (cases hp;done) | exact ⟨rfl,rfl⟩
  ·cases h
 ·rename_i x
  split at h
  ·rename_i hy
   obtain rfl:=ad h
   have hc:=dE _ hy
   refine ⟨hc,?_⟩
   cases x with
   | c z=>simp only [execOp];exact aa hy
   | t n=>
    have hy:(ay v.fr n).pure=true:=hy
    have hc:(ay v.fr n).copy=true:=hc
    show execOp _ _ _ _ _ _=some (ay v.fr n,v)
    simp only [execOp]
    cases he:ay v.fr n<;>rw [he] at hy hc<;>first | (cases hy;done) | (simp only [hc,vF,an])
  ·cases h
 ·split at h
  ·rename_i he
   obtain rfl:=ad h
   exact ⟨rfl,by simp only [execOp,he];rfl⟩
  ·cases h
 ·split at h
  ·rename_i he
   obtain rfl:=ad h
   exact ⟨rfl,by simp only [execOp,he]⟩
  ·rename_i he
   obtain rfl:=ad h
   exact ⟨rfl,by simp only [execOp,he]⟩
  ·cases h
 ·split at h
  ·rename_i he
   obtain rfl:=ad h
   exact ⟨rfl,by simp only [execOp,he]⟩
  ·cases h
 ·split at h
  ·rename_i he
   obtain ⟨cs,h1,h2⟩:=af.1 h
   obtain ⟨z,h3,h4⟩:=af.1 h2
   split at h4
   ·rename_i hz
    obtain rfl:=ad h4
    refine ⟨rfl,?_⟩
    have hc:=dE _ hz
    simp only [execOp,he,h1,h3,ae]
    cases z<;>first | (cases hz;done) | exact aa hc
   ·cases h4
  ·rename_i he
   exact ⟨rfl,by simp only [execOp,he,h,ae]⟩
  ·cases h
 ·exact ⟨rfl,by simp only [execOp,h,ae]⟩
 ·split at h
  ·rename_i he
   split at h
   ·rename_i hy
    obtain rfl:=ad h
    exact ⟨rfl,by simp only [execOp,he,qh,ae,an];exact aa hy⟩
   ·cases h
  ·rename_i he
   split at h
   ·rename_i hy
    obtain rfl:=ad h
    refine ⟨rfl,?_⟩
    simp only [execOp,he,qh,ae,bn,aI]
    exact aa hy
   ·cases h
  ·cases h
 ·split at h
  ·rename_i he
   obtain rfl:=ad h
   exact ⟨rfl,by simp only [execOp,he];rfl⟩
  ·cases h
 ·split at h
  ·rename_i he
   exact ⟨rfl,by simp only [execOp,he,h,ae]⟩
  ·cases h
 ·split at h
  ·rename_i he
   obtain ⟨j,h1,h2⟩:=af.1 h
   obtain ⟨e,h3,h4⟩:=af.1 h2
   split at h4
   ·rename_i hs
    obtain rfl:=ad h4
    exact ⟨rfl,by simp only [execOp,he,h1,ae,h3,elemAt,hs,an]⟩
   ·cases h4
  ·cases h
 ·rename_i f xs
  obtain ⟨r,h1,rfl⟩:=dN.1 h
  have hq:qk (.ca 0 f xs)=true:=rfl
  haveI:=b0
  have h2:=(Lg (d:=d) (⟨fun _=>.inr rfl,fun _ _ hb=>hb⟩:Le E.dp v v) hq rfl (show execOp (call G Ω0) Ω0 E v d (.ca 0 f xs)=some r from h1)).1
  exact ⟨rfl,h1.trans (by rw [←h2])⟩
 ·rename_i f xs
  obtain ⟨r,h1,rfl⟩:=dN.1 h
  have h2:=(L6 (d:=d) (⟨fun _=>.inr rfl,rfl,rfl⟩:Sub v v) rfl (show execOp (call G Ω0) Ω0 E v d (.c3 f xs)=some r from h1)).1
  exact ⟨rfl,h1.trans (by rw [←h2])⟩
 ·cases h
noncomputable def Ok(E:Env)(v:St)(g:cF):Option St:=
 match g.d with
 | none=>none
 | some e=>match g.g with
  | none=>(Hc E v g.o).bind fun y=>some ⟨(e,eH g.fz y)::v.fr,v.bx,v.hp⟩
  | some (j,w)=>(vQ (ay v.fr j) w).bind fun b=>if b=true then (Hc E v g.o).bind fun y=>some ⟨(e,eH g.fz y)::v.fr,v.bx,v.hp⟩ else some ⟨(e,.sk)::v.fr,v.bx,v.hp⟩
theorem Ru{v v1:St}{g:cF}(h:Ok E v g=some v1):L7 v g=true∧gP (call G Ω0) Ω0 E v g=some v1:=by
 obtain ⟨d,o,g,fz⟩:=g
 unfold Ok at h
 cases d with
 | none=>cases h
 | some e=>
  cases g with
  | none=>
   obtain ⟨y,h1,h2⟩:=af.1 h
   obtain rfl:=ad h2
   obtain ⟨h3,h4⟩:=Md (d:=some e) h1
   exact ⟨h3,by simp only [gP];rw [h4];rfl⟩
  | some q=>
   obtain ⟨j,w⟩:=q
   obtain ⟨b,h0,h⟩:=af.1 h
   simp only at h0 h
   cases b with
   | true=>
    rw [aa rfl] at h
    obtain ⟨y,h1,h2⟩:=af.1 h
    obtain rfl:=ad h2
    obtain ⟨h3,h4⟩:=Md (d:=some e) h1
    exact ⟨by simp only [L7,h3,vG],by simp only [gP,h0,ae,an];rw [h4];rfl⟩
   | false=>
    rw [ab (by simp)] at h
    obtain rfl:=ad h
    exact ⟨by simp only [L7,h0];rfl,by simp only [gP,h0,ae];rfl⟩
variable {Q:St→Prop}
theorem s9{v v1:St}{g:cF}{gs:List cF}(h:Ok E v g=some v1)(h2:∃ s1,xq E v1 gs=some s1∧Q s1):∃ s1,xq E v (g::gs)=some s1∧Q s1:=by
 obtain ⟨s1,h3,h4⟩:=h2
 obtain ⟨h5,h6⟩:=Ru h
 refine ⟨s1,?_,h4⟩
 unfold xq
 rw [aa h5,h6];exact h3
theorem ta(h:Q v):∃ s1,xq E v []=some s1∧Q s1:=⟨v,rfl,h⟩
noncomputable def Rv(E:Env)(v:St)(p:b6):Option St:=
 if p.lt=true then (match p.p.d with
  | none=>none
  | some e=>match p.p.g with
   | none=>(Hc E (view p v) p.p.o).bind fun y=>if (ja E.dp p.nk y&&okB E.dp p.nb y&&p.cs.isEmpty)=true then some ⟨(e,eH p.p.fz y)::v.fr,v.bx,v.hp⟩ else none
   | some (j,w)=>(vQ (ay v.fr j) w).bind fun b=>if b=true then (Hc E (view p v) p.p.o).bind fun y=>if (ja E.dp p.nk y&&okB E.dp p.nb y&&p.cs.isEmpty)=true then some ⟨(e,eH p.p.fz y)::v.fr,v.bx,v.hp⟩ else none else if p.cs.isEmpty=true then some ⟨(e,.sk)::v.fr,v.bx,v.hp⟩ else none)
 else Ok E v p.p
theorem Ol{v:St}{p:b6}{e:Nat}(hd:p.p.d=some e)(h:Hc E (view p v) p.p.o=some y)(hr:(ja E.dp p.nk y&&okB E.dp p.nb y&&p.cs.isEmpty)=true):calm (view p v) p.p.o=true∧jc (call G Ω0) Ω0 E p (view p v)=some ⟨[(e,eH p.p.fz y)],[],[],none⟩:=by
 simp only [aB,zn] at hr
 obtain ⟨h3,h4⟩:=Md (d:=p.p.d) h
 obtain ⟨a1,a2,a3⟩:=Hb (E:=E) h3 hr.2
 refine ⟨h3,?_⟩
 unfold jc
 rw [aa (by simp only [a1,a2];rfl),h4]
 simp only [ae]
 rw [aa (by simp only [hr.1.1,hr.1.2];rfl),a3,hd];rfl
theorem abN{v v1:St}{p:b6}(h:Rv E v p=some v1):Rt v p=true∧ee (call G Ω0) Ω0 E v p=some v1:=by
 unfold Rv at h
 unfold Rt ee
 cases hl:p.lt with
 | false=>
  rw [hl,ab (by simp)] at h
  rw [ab (by simp),ab (by simp)]
  exact Ru h
 | true=>
  rw [hl,aa rfl] at h
  rw [aa rfl,aa rfl]
  unfold ed
  split at h
  ·cases h
  ·rename_i e he
   split at h
   ·rename_i hg
    obtain ⟨y,h1,h2⟩:=af.1 h
    split at h2
    ·rename_i hr
     obtain rfl:=ad h2
     obtain ⟨c1,c2⟩:=Ol he h1 hr
     simp only [aB] at hr
     rw [hg]
     simp only [hr.2,c1,c2,gY,ae]
     exact ⟨trivial,rfl⟩
    ·cases h2
   ·rename_i j w hg
    obtain ⟨b,h0,h⟩:=af.1 h
    rw [hg]
    simp only [h0,ae]
    cases b with
    | true=>
     rw [aa rfl] at h
     obtain ⟨y,h1,h2⟩:=af.1 h
     split at h2
     ·rename_i hr
      obtain rfl:=ad h2
      obtain ⟨c1,c2⟩:=Ol he h1 hr
      simp only [aB] at hr
      simp only [hr.2,c1,c2,an,vG,gY,ae]
      exact ⟨trivial,rfl⟩
     ·cases h2
    | false=>
     rw [ab (by simp)] at h
     split at h
     ·rename_i hr
      obtain rfl:=ad h
      refine ⟨by rw [hr];rfl,?_⟩
      simp only [bn,aI,ae,he]
      rfl
     ·cases h
theorem yj{v v1:St}{p:b6}{ps:List b6}(h:Rv E v p=some v1)(h2:∃ s1,uf E v1 ps=some s1∧Q s1):∃ s1,uf E v (p::ps)=some s1∧Q s1:=by
 obtain ⟨s1,h3,h4⟩:=h2
 obtain ⟨h5,h6⟩:=abN h
 refine ⟨s1,?_,h4⟩
 unfold uf
 rw [aa h5,h6];exact h3
theorem yk(h:Q v):∃ s1,uf E v []=some s1∧Q s1:=⟨v,rfl,h⟩
end
section
variable {E:Env}{x y:AC}{st st1:St}{P:aH×St→Prop}
def Nx(E:Env)(x:AC)(st:St)(P:aH×St→Prop):Prop:=∃ q,run G Ω0 E x st=some q∧P q
theorem cy(h:run G Ω0 E x st=some (.nrm,st1))(hp:P (.nrm,st1)):Nx E x st P:=⟨_,h,hp⟩
theorem bq(h:Nx E x st fun q=>match q.1 with
  | .nrm=>Nx E y q.2 P
  | _=>P q):Nx E (.sq x y) st P:=by
 obtain ⟨⟨e,s⟩,h1,h2⟩:=h
 cases e with
 | nrm=>
  obtain ⟨q,h3,h4⟩:=h2
  exact ⟨q,aj h1 h3,h4⟩
 | ret=>exact ⟨_,BM h1,h2⟩
 | ex i=>exact ⟨_,ig h1,h2⟩
theorem zL{i:Nat}(h:Nx E x st fun q=>match q.1 with
  | .ex j=>if j=i then P (.nrm,q.2) else P q
  | _=>P q):Nx E (.bl i x) st P:=by
 obtain ⟨⟨e,s⟩,h1,h2⟩:=h
 unfold Nx
 rw [sw,h1]
 cases e with
 | nrm=>exact ⟨_,rfl,h2⟩
 | ret=>exact ⟨_,rfl,h2⟩
 | ex j=>
  simp only [ae,inBlock]
  simp only at h2
  by_cases e:j=i
  ·rw [aa e] at h2 ⊢;exact ⟨_,rfl,h2⟩
  ·rw [ab e] at h2 ⊢;exact ⟨_,rfl,h2⟩
theorem iL{c:ba}(b:Bool)(h:qh (st.ev c)=some b)(ht:b=true→Nx E x st P)(hf:b=false→Nx E y st P):Nx E (.ite c x y) st P:=by
 cases b with
 | true=>obtain ⟨q,h1,h2⟩:=ht rfl;exact ⟨q,cL h h1,h2⟩
 | false=>obtain ⟨q,h1,h2⟩:=hf rfl;exact ⟨q,bQ h h1,h2⟩
theorem ov{kf kb:List Nat}(h:Nx E x (st.aN kf kb) P):Nx E (.kp kf kb x) st P:=by
 obtain ⟨q,h1,h2⟩:=h
 exact ⟨q,dz h1,h2⟩
theorem mH(h:P (.nrm,st)):Nx E .sk st P:=⟨_,bB _ _,h⟩
theorem nv(h:P (.ret,st)):Nx E .rt st P:=⟨_,ef _ _,h⟩
theorem PO{c:aY}{q:aH×St}(h:fL G Ω0 E c (st.aN c.kf c.kb)=some q)(hp:P q):Nx E c.lp st P:=⟨q,by rw [dF];exact h,hp⟩
theorem IQ{f:FuncId}{fn:bE}{args:List AV}{hp hp':HP}{z:bm}{st:St}(hG:G f=some fn)(h:Nx E fn.code ⟨jB 0 args,[],hp⟩ fun q=>q=(.ret,st))(he:st.end_ E fn.res=some z)(hh:st.hp=hp'):call G Ω0 E f args hp=some (z,hp'):=by
 obtain ⟨q,h1,rfl⟩:=h
 exact eK hG h1 he hh
theorem Me{q:aH×St}(h:Nx E x st fun r=>r=q):run G Ω0 E x st=some q:=by
 obtain ⟨_,h1,rfl⟩:=h
 exact h1
end
end Go.Proofs.YtkkkkondjclcnaaGreat.A
