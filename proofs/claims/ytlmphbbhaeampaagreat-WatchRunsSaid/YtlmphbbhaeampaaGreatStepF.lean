/- Steps of an abstract run, one after the other; loops that count; regions cut in parts: what is not looked at again is forgotten between them. -/
import Derived.Test.YtlmphbbhaeampaaGreatBase
import Derived.Test.YtlmphbbhaeampaaGreatAbsH
set_option linter.all false
set_option maxRecDepth 100000
namespace Go.Proofs.YtlmphbbhaeampaaGreat.A
open Go
variable [Lp]
variable {args:List AV}
theorem kO{E:Env}{f:FuncId}{r:AV}(h:call G Ω0 ⟨0,false⟩ f args (fun _=>none)=some (.ret r,fun _=>none))(hp:AV.cG args=true)(hr:r.pure=true)(st:St):
  cK (call G Ω0) Ω0 E st 0 f args=some (r,st):=by
 unfold cK
 simp only [GD _ _ hp,ab,h,hr]
 rfl
section
variable {E:Env}{x y:AC}{st st1:St}{r:Option (bc×St)}
theorem df(h1:run G Ω0 E x st=some (.nrm,st1))(h2:run G Ω0 E y st1=r):run G Ω0 E (.sq x y) st=r:=by rw [ob,h1];exact h2
theorem PU(h1:run G Ω0 E x st=some (.ret,st1)):run G Ω0 E (.sq x y) st=some (.ret,st1):=by rw [ob,h1];rfl
theorem Dd{id:Nat}(h1:run G Ω0 E x st=some (.ex id,st1)):run G Ω0 E (.sq x y) st=some (.ex id,st1):=by rw [ob,h1];rfl
theorem Ba{c:bY}(h:qH (st.ev c)=some true)(h2:run G Ω0 E x st=r):run G Ω0 E (.ite c x y) st=r:=by rw [run_ite,h];exact h2
theorem xV{c:bY}(h:qH (st.ev c)=some false)(h2:run G Ω0 E y st=r):run G Ω0 E (.ite c x y) st=r:=by rw [run_ite,h];exact h2
theorem Mr{id:Nat}(h1:run G Ω0 E x st=some (.nrm,st1)):run G Ω0 E (.bl id x) st=some (.nrm,st1):=by rw [sg,h1];rfl
theorem TS{id:Nat}(h1:run G Ω0 E x st=some (.ret,st1)):run G Ω0 E (.bl id x) st=some (.ret,st1):=by rw [sg,h1];rfl
theorem PV{id:Nat}(h1:run G Ω0 E x st=some (.ex id,st1)):run G Ω0 E (.bl id x) st=some (.nrm,st1):=by rw [sg,h1];simp only [ab,inBlock,aH]
theorem GG{kf kb:List Nat}(h:run G Ω0 E x (st.cn kf kb)=r):run G Ω0 E (.kp kf kb x) st=r:=by rw [sh];exact h
theorem GH{s1 s2:St} : ∀ (n:Nat){ops:List cz}{s:St},lB (call G Ω0) Ω0 E s (ops.take n)=some s1→lB (call G Ω0) Ω0 E s1 (ops.drop n)=some s2→lB (call G Ω0) Ω0 E s ops=some s2
 | 0,ops,s,h1,h2=>by obtain rfl:=aq h1;exact h2
 | n+1,[],s,h1,h2=>by obtain rfl:=aq h1;exact h2
 | n+1,p::ps,s,h1,h2=>by
  obtain ⟨s3,h3,h4⟩:=au.1 h1
  exact au.2 ⟨s3,h3,GH n h4 h2⟩
theorem Xu(n:Nat){pre:List wS}{mks:List Nat}{ops:List cz}{kf kb:List Nat}{st st1 s1 s2 s3:St}(h0:sW E st pre=some st1)(hm:(mks.all (ee E.dp st1)&&ops.all (n9 E.dp st1))=true)(h1:lB (call G Ω0) Ω0 E st1 (ops.take n)=some s1)(h2:lB (call G Ω0) Ω0 E s1 (ops.drop n)=some s2)(h3:s2.cn kf kb=s3) :
  run G Ω0 E (.dg pre mks ops kf kb) st=some (.nrm,s3):=by
 rw [Kc,h0,ab,af hm,GH n h1 h2,ab,h3]
theorem wj{f:FuncId}{fn:bU}{hp H:HP}{z:bC}(hG:G f=some fn)(h:run G Ω0 E fn.code ⟨lC 0 args,[],hp⟩=some (.ret,st))(he:st.end_ E fn.res=some z)(hh:st.hp=H):call G Ω0 E f args hp=some (z,H):=by
 rw [vz,hG,ab,h];simp only [ab,he,hh]
end
theorem zj{E:Env}{s1 s2:St} : ∀ (n:Nat){ops:List dE}{s:St},ib (call G Ω0) Ω0 E s (ops.take n)=some s1→ib (call G Ω0) Ω0 E s1 (ops.drop n)=some s2→ib (call G Ω0) Ω0 E s ops=some s2
 | 0,ops,s,h1,h2=>by obtain rfl:=aq h1;exact h2
 | n+1,[],s,h1,h2=>by obtain rfl:=aq h1;exact h2
 | n+1,p::ps,s,h1,h2=>by
  obtain ⟨s3,h3,h4⟩:=au.1 h1
  exact au.2 ⟨s3,h3,zj n h4 h2⟩
variable {pre:List wS}{kf kb:List Nat}{s1 s2 s3:St}
theorem ah2{E:Env}(n:Nat){ops:List dE}{st st1:St}(h0:sW E st pre=some st1)(h1:ib (call G Ω0) Ω0 E st1 (ops.take n)=some s1)(h2:ib (call G Ω0) Ω0 E s1 (ops.drop n)=some s2)(h3:s2.cn kf kb=s3):
  run G Ω0 E (.rg pre ops kf kb) st=some (.nrm,s3):=by
 rw [zd,h0,ab,zj n h1 h2,ab,h3]
variable {e:Nat}{z:St}
theorem VQ{E:Env}{c:bO}(S:Nat→St)(n:Nat)(hk:∀ k,(S k).cn c.kf c.kb=S k)(hs:∀ k,k<n→run G Ω0 E c.x (S k)=some (.nrm,S (k+1)))(he:run G Ω0 E c.x (S n)=some (.ex e,z)):va G Ω0 E c (S 0)=some (.ex e,z):=by
 have:∀ m k,k+m=n→va G Ω0 E c (S k)=some (.ex e,z):=by
  intro m
  induction m with
  | zero=>
    intro k hm;obtain rfl:k=n:=by omega
    exact m9 (by rw [hk];exact he) (by simp)
  | succ m ih=>
   intro k hm
   rw [pT (st1:=S (k+1))]
   ·exact ih (k+1) (by omega)
   ·rw [hk]
    show (run G Ω0 E c.x (S k)).bind _=_
    rw [hs k (by omega)]
    exact az some (hk (k+1))
 exact this n 0 (by omega)
theorem ZZ{E:Env}{c:bO}(S:Nat→St)(n:Nat)(p:Nat→Bool){x y:bc×St}(hk:∀ k,(S k).cn c.kf c.kb=S k)(hx:x.1≠.nrm)(hy:y.1≠.nrm)
  (hs:∀ k,k<n→p k=false→run G Ω0 E c.x (S k)=some (.nrm,S (k+1))) (hf:∀ k,k<n→p k=true→run G Ω0 E c.x (S k)=some x) (he:run G Ω0 E c.x (S n)=some y):va G Ω0 E c (S 0)=some (if (List.range n).any p=true then x else y):=by
 have:∀ m k,k+m=n→(∀ j,j<k→p j=false)→va G Ω0 E c (S k)=some (if (List.range n).any p=true then x else y):=by
  intro m
  induction m with
  | zero=>
   intro k hm hp
   obtain rfl:k=n:=by omega
   rw [ah (by simp only [xh,List.mem_range,not_exists,not_and];exact fun j hj=>by rw [hp j hj];simp)]
   exact m9 (by rw [hk];exact he) (by exact hy)
  | succ m ih=>
   intro k hm hp
   cases hq:p k with
   | true=>
    rw [af (xh.2 ⟨k,List.mem_range.2 (by omega),hq⟩)]
    exact m9 (by rw [hk];exact hf k (by omega) hq) (by exact hx)
   | false=>
    rw [pT (st1:=S (k+1))]
    ·exact ih (k+1) (by omega) fun j hj=>by
      by_cases L:j=k
      ·rw [L];exact hq
      ·exact hp j (by omega)
    ·rw [hk]
     show (run G Ω0 E c.x (S k)).bind _=_
     rw [hs k (by omega) hq]
     exact az some (hk (k+1))
 exact this n 0 (by omega) fun j hj=>absurd hj (by omega)
structure Sub(v s:St):Prop where
 fr:∀ d,aQ v.fr d= .u∨aQ v.fr d=aQ s.fr d
 bx:v.bx=s.bx
 hp:v.hp=s.hp
section
variable {v s v':St}{E:Env}
abbrev b0:cN:=⟨0,fun _=>true⟩
theorem Sub.le(h:Sub v s)(dp:Nat):Le dp v s:=⟨h.fr,fun k cs hb=>by simp only [St.box,h.bx,h.hp] at hb ⊢;exact hb⟩
theorem Sub.ev(h:Sub v s){x:bY}(hx:v.ev x≠.u):s.ev x=v.ev x:=haveI:=b0;Le.ev (E:=⟨0,false⟩) (h.le 0) rfl hx
theorem Sub.Bb(h:Sub v s){xs:List bY}(hx:∀ x∈xs,v.ev x≠.u):xs.map s.ev=xs.map v.ev:=haveI:=b0;Le.map (E:=⟨0,false⟩) (h.le 0) hx
def calm(v:St):qI→Bool
 | .as x=>(v.ev x).copy
 | .mv x=>!Cg (v.ev x)
 | .c3 _ _=>true
 | o=>qk o
theorem PW{d:Option Nat}{o:qI}{r:AV×St}(h:Sub v s)(hc:calm v o=true)(he:execOp (call G Ω0) Ω0 E v d o=some r):r.2=v∧execOp (call G Ω0) Ω0 E s d o=some (r.1,s):=by
 haveI:=b0
 have hL:=h.le E.dp
 cases o with
 | as x=>
  have F:(v.ev x).copy=true:=hc
  have hx:=h.ev (zi F)
  cases x with
  | c y=>
   simp only [execOp] at he ⊢
   split at he
   ·rename_i hp
    obtain rfl:=aq he
    exact ⟨rfl,af hp⟩
   ·cases he
  | t n=>
   have hx:aQ s.fr n=aQ v.fr n:=hx
   have F:(aQ v.fr n).copy=true:=F
   simp only [execOp] at he ⊢
   rw [hx]
   cases hf:aQ v.fr n<;>rw [hf] at he F<;>simp only [AV.copy,dy] at F<;>simp only [AV.copy,B9,aH] at he ⊢<;>first | (obtain rfl:=aq he;exact ⟨rfl,rfl⟩) | (simp only [F,B9,aH] at he ⊢;obtain rfl:=aq he;exact ⟨rfl,rfl⟩)
 | c3 f args=>
  simp only [execOp] at he ⊢
  unfold pb at he ⊢
  split at he
  ·rename_i hp
   simp only [aY] at hp
   have ha:args.map s.ev=args.map v.ev:=h.Bb fun x hx=>zi (dz.1 hp.1 _ (B4 hx))
   have hb:(fun k=>s.box E.dp k)=fun k=>v.box E.dp k:=by funext k;simp only [St.box,h.bx,h.hp]
   obtain ⟨⟨q,hq⟩,h1,h2⟩:=au.1 he
   rw [ha,←h.bx,af (by simp only [aY];exact hp),hb,h1]
   simp only [ab] at h2 ⊢
   cases q with
   | ret x=>
    simp only at h2 ⊢
    split at h2
    ·rename_i hx
     obtain rfl:=aq h2
     exact ⟨rfl,af hx⟩
    ·cases h2
   | _=>cases h2
  ·cases he
 | mv x=>exact OR hL rfl hc he
 | st _ _ _=>cases hc
 | ap _ _ _ _ _=>cases hc
 | _=>exact OR hL hc rfl he
def PX(v:St)(g:dE):Bool:=
 match g.g with
 | none=>calm v g.o
 | some (j,w)=>!(zb (aQ v.fr j) w==some true)||calm v g.o
noncomputable def Ap(E:Env):St→List dE→Option St
 | v,[]=>some v
 | v,g::gs=>if PX v g=true then (iX (call G Ω0) Ω0 E v g).bind fun v'=>Ap E v' gs else none
theorem Sub.put(h:Sub v s)(d:Option Nat)(x:AV):Sub (put v d x) (put s d x):=by
 cases d with
 | none=>exact h
 | some d=>
  refine ⟨fun k=>?_,h.bx,h.hp⟩
  show aQ ((d,x)::v.fr) k= .u∨aQ ((d,x)::v.fr) k=aQ ((d,x)::s.fr) k
  unfold aQ
  by_cases e:d=k
  ·rw [af e,af e];exact .inr rfl
  ·rw [ah e,ah e];exact h.fr k
theorem Zm{g:dE}(h:Sub v s)(hc:PX v g=true)(he:iX (call G Ω0) Ω0 E v g=some v'):∃ s',iX (call G Ω0) Ω0 E s g=some s'∧Sub v' s':=by
 have run:calm v g.o=true→∀ w,(execOp (call G Ω0) Ω0 E v g.d g.o).bind (fun r=>some (A.put r.2 g.d (fM g.fz r.1)))=some w→∃ s',(execOp (call G Ω0) Ω0 E s g.d g.o).bind (fun r=>some (A.put r.2 g.d (fM g.fz r.1)))=some s'∧Sub w s':=by
  intro M w hw
  obtain ⟨r,h1,h2⟩:=au.1 hw
  obtain ⟨h3,h4⟩:=PW h M h1
  obtain rfl:=aq h2
  rw [h4,h3]
  exact ⟨_,rfl,h.put _ _⟩
 unfold iX at he ⊢
 unfold PX at hc
 cases hg:g.g with
 | none=>rw [hg] at he hc;exact run hc _ he
 | some q=>
  obtain ⟨j,w⟩:=q
  rw [hg] at he hc
  simp only at he hc ⊢
  obtain ⟨y,h1,h2⟩:=au.1 he
  have hj:aQ s.fr j=aQ v.fr j:=by
   rcases h.fr j with e | e
   ·rw [e] at h1;cases h1
   ·exact e.symm
  rw [hj,h1]
  simp only [ab]
  cases y with
  | true=>
   rw [af rfl] at h2 ⊢
   refine run ?_ _ h2
   rw [h1] at hc
   simpa using hc
  | false=>
   rw [ah (by simp)] at h2 ⊢
   obtain rfl:=aq h2
   exact ⟨_,rfl,h.put _ _⟩
theorem Ms:∀ {gs:List dE}{v s v':St},Sub v s→Ap E v gs=some v'→∃ s',ib (call G Ω0) Ω0 E s gs=some s'∧Sub v' s'
 | [],v,s,v',h,he=>by
  obtain rfl:=aq he
  exact ⟨s,rfl,h⟩
 | g::gs,v,s,v',h,he=>by
  unfold Ap at he
  split at he
  ·rename_i hc
   obtain ⟨v1,h1,h2⟩:=au.1 he
   obtain ⟨s1,h3,h4⟩:=Zm h hc h1
   obtain ⟨s2,h5,h6⟩:=Ms h4 h2
   exact ⟨s2,au.2 ⟨s1,h3,h5⟩,h6⟩
  ·cases he
theorem TT{fr:List (Nat×AV)}{ks:List Nat}(d:Nat):aQ (eW fr ks) d= .u∨aQ (eW fr ks) d=aQ fr d:=by
 induction ks with
 | nil=>exact .inl rfl
 | cons k ks ih=>
  show aQ ((k,aQ fr k)::eW fr ks) d= .u∨aQ ((k,aQ fr k)::eW fr ks) d=aQ fr d
  rw [aQ]
  by_cases e:k=d
  ·subst e;rw [af rfl];exact .inr rfl
  ·rw [ah e];exact ih
theorem PY(s:St)(ks:List Nat):Sub ⟨eW s.fr ks,s.bx,s.hp⟩ s:=⟨fun d=>TT d,rfl,rfl⟩
theorem Sub.trans{a b c:St}(h:Sub a b)(h':Sub b c):Sub a c:=⟨fun d=>by
 rcases h.fr d with e | e
 ·exact .inl e
 ·rw [e];exact h'.fr d,h.bx.trans h'.bx,h.hp.trans h'.hp⟩
theorem NO(h:Sub v s)(hu:(eW v.fr kf).all (fun x=>!Cg x.2)=true):s.cn kf kb=v.cn kf kb:=by
 unfold St.cn
 rw [←h.bx,←h.hp]
 have:eW s.fr kf=eW v.fr kf:=by
  unfold eW at hu ⊢
  refine xe fun k hk=>?_
  have h1:=dz.1 hu (k,aQ v.fr k) (B4 (f:=fun k=>(k,aQ v.fr k)) hk)
  rcases h.fr k with e | e
  ·rw [e] at h1;cases h1
  ·rw [e]
 rw [this]
def Fw(E:Env)(v:St)(gs:List dE)(kf kb:List Nat)(z:St):Prop:=∀ s,Sub v s→∃ s',ib (call G Ω0) Ω0 E s gs=some s'∧s'.cn kf kb=z
theorem so{gs:List dE}{v1:St}(n:Nat)(ks:List Nat)(D:∃ s1,Ap E v (gs.take n)=some s1∧(⟨eW s1.fr ks,s1.bx,s1.hp⟩:St)=v1)(h3:Fw E v1 (gs.drop n) kf kb z):Fw E v gs kf kb z:=by
 intro s hs
 obtain ⟨s1,h1,h2⟩:=D
 obtain ⟨s2,h4,h5⟩:=Ms hs h1
 obtain ⟨s3,h6,h7⟩:=h3 s2 ((h2▸PY s1 ks).trans h5)
 refine ⟨s3,?_,h7⟩
 exact zj n h4 h6
theorem PZ{gs:List dE}(D:∃ s1,Ap E v gs=some s1∧s1.cn kf kb=z)(h3:z.fr.all (fun x=>!Cg x.2)=true):Fw E v gs kf kb z:=by
 intro s hs
 obtain ⟨s1,h1,h2⟩:=D
 obtain ⟨s2,h4,h5⟩:=Ms hs h1
 subst h2
 exact ⟨s2,h4,NO h5 h3⟩
theorem TU{gs:List dE}{st st1:St}(h0:sW E st pre=some st1)(h:Fw E st1 gs kf kb z):run G Ω0 E (.rg pre gs kf kb) st=some (.nrm,z):=by
 obtain ⟨s,h1,h2⟩:=h st1 ⟨fun _=>.inr rfl,rfl,rfl⟩
 rw [zd,h0,ab,h1,ab,h2]
def VS(v:St)(p:cz):Bool:=
 if p.lt=true then p.cs.isEmpty&&(match p.p.g with
  | none=>calm (view p v) p.p.o
  | some (j,w)=>!(zb (aQ v.fr j) w==some true)||calm (view p v) p.p.o)
 else PX v p.p
noncomputable def wk(E:Env):St→List cz→Option St
 | v,[]=>some v
 | v,p::ps=>if VS v p=true then (e7 (call G Ω0) Ω0 E v p).bind fun v'=>wk E v' ps else none
theorem Sub.view(h:Sub v s)(p:cz):Sub (view p v) (view p s):=by
 refine ⟨fun d=>?_,?_,?_⟩
 ·show aQ (eW v.fr p.vw) d= .u∨aQ (eW v.fr p.vw) d=aQ (eW s.fr p.vw) d
  induction p.vw with
  | nil=>exact .inl rfl
  | cons k ks ih=>
   show aQ ((k,aQ v.fr k)::eW v.fr ks) d= .u∨aQ ((k,aQ v.fr k)::eW v.fr ks) d=aQ ((k,aQ s.fr k)::eW s.fr ks) d
   rw [aQ,aQ]
   by_cases e:k=d
   ·rw [af e,af e];exact h.fr k
   ·rw [ah e,ah e];exact ih
 ·show ep v.bx _=ep s.bx _
  rw [h.bx]
 ·show (if p.vh=true then v.hp else _)=if p.vh=true then s.hp else _
  rw [h.hp]
theorem Sub.calm(h:Sub v s){o:qI}(hc:calm v o=true):A.calm s o=true:=by
 haveI:=b0
 cases o with
 | as x=>have h1:(v.ev x).copy=true:=hc;show (s.ev x).copy=true;rw [h.ev (zi h1)];exact h1
 | mv x=>
  have h1:(!Cg (v.ev x))=true:=hc
  show (!Cg (s.ev x))=true
  rw [h.ev (fun e=>by rw [e] at h1;cases h1)];exact h1
 | _=>exact hc
theorem KH{p:cz}{v:St}(hc:calm v p.p.o=true)(C:p.cs=[]):mY v p.p.o=true∧jq E.dp p v=true∧∀ r,effect p r=⟨kM p.p.d (fM p.p.fz r.1),[],[],none⟩:=by
 obtain ⟨⟨d,o,g,fz⟩,lt,vw,vb,vh,cs,nk,nb⟩:=p
 simp only at hc C
 subst C
 cases o<;>first | (cases hc;done) | exact ⟨by first | exact hc | rfl,rfl,fun r=>by simp [effect]⟩
theorem P0{p:cz}{q:cR}(h:Sub v s)(hc:calm (view p v) p.p.o=true)(C:p.cs=[])(he:kr (call G Ω0) Ω0 E p (view p v)=some q):kr (call G Ω0) Ω0 E p (view p s)=some q∧∃ x,q=⟨kM p.p.d x,[],[],none⟩:=by
 have hw:=h.view p
 obtain ⟨a1,a2,a3⟩:=KH (E:=E) (hw.calm hc) C
 unfold kr at he ⊢
 split at he
 ·obtain ⟨r,h1,h2⟩:=au.1 he
  obtain ⟨h3,h4⟩:=PW hw hc h1
  rw [af (by simp only [a1,a2];rfl),h4]
  simp only [ab]
  split at h2
  ·rename_i K
   obtain rfl:=aq h2
   rw [af K,a3,a3]
   exact ⟨rfl,_,rfl⟩
  ·cases h2
 ·cases he
theorem Sub.app(h:Sub v s)(d:Option Nat)(x:AV):Sub ((⟨kM d x,[],[],none⟩:cR).app v) ((⟨kM d x,[],[],none⟩:cR).app s):=by
 cases d with
 | none=>exact ⟨h.fr,h.bx,h.hp⟩
 | some d=>exact h.put (some d) x
theorem amv{p:cz}(h:Sub v s)(hc:VS v p=true)(he:e7 (call G Ω0) Ω0 E v p=some v'):∃ s',e7 (call G Ω0) Ω0 E s p=some s'∧Sub v' s':=by
 unfold VS at hc
 unfold e7 at he ⊢
 cases hl:p.lt with
 | false=>
  rw [hl,ah (by simp)] at hc he
  rw [ah (by simp)]
  exact Zm h hc he
 | true=>
  rw [hl,af rfl] at hc he
  rw [af rfl]
  obtain ⟨q,h1,h2⟩:=au.1 he
  obtain rfl:=aq h2
  simp only [aY,List.isEmpty_iff] at hc
  obtain ⟨C,hc⟩:=hc
  have fin:∀ x,q=⟨kM p.p.d x,[],[],none⟩→eZ (call G Ω0) Ω0 E p s=some q→∃ s',(eZ (call G Ω0) Ω0 E p s).bind (fun q=>some (q.app s))=some s'∧Sub (q.app v) s':=by
   rintro x rfl hp
   rw [hp]
   exact ⟨_,rfl,h.app _ _⟩
  unfold eZ at h1
  cases hg:p.p.g with
  | none=>
   rw [hg] at h1 hc
   obtain ⟨g1,x,g2⟩:=P0 h hc C h1
   refine fin x g2 ?_
   unfold eZ
   rw [hg];exact g1
  | some w=>
   obtain ⟨j,w⟩:=w
   rw [hg] at h1 hc
   simp only at h1 hc
   obtain ⟨y,h3,h4⟩:=au.1 h1
   have hj:aQ s.fr j=aQ v.fr j:=by
    rcases h.fr j with e | e
    ·rw [e] at h3;cases h3
    ·exact e.symm
   cases y with
   | true=>
    rw [af rfl] at h4
    rw [h3] at hc
    obtain ⟨g1,x,g2⟩:=P0 h (by simpa using hc) C h4
    refine fin x g2 ?_
    unfold eZ
    rw [hg]
    simp only [hj,h3,ab,aH]
    exact g1
   | false=>
    rw [ah (by simp)] at h4
    obtain rfl:=aq h4
    refine fin .sk rfl ?_
    unfold eZ
    rw [hg]
    simp only [hj,h3,ab,dy,cH]
theorem P1:∀ {gs:List cz}{v s v':St},Sub v s→wk E v gs=some v'→∃ s',lB (call G Ω0) Ω0 E s gs=some s'∧Sub v' s'
 | [],v,s,v',h,he=>by
  obtain rfl:=aq he
  exact ⟨s,rfl,h⟩
 | g::gs,v,s,v',h,he=>by
  unfold wk at he
  split at he
  ·rename_i hc
   obtain ⟨v1,h1,h2⟩:=au.1 he
   obtain ⟨s1,h3,h4⟩:=amv h hc h1
   obtain ⟨s2,h5,h6⟩:=P1 h4 h2
   exact ⟨s2,au.2 ⟨s1,h3,h5⟩,h6⟩
  ·cases he
def Zn(E:Env)(v:St)(gs:List cz)(kf kb:List Nat)(z:St):Prop:=∀ s,Sub v s→∃ s',lB (call G Ω0) Ω0 E s gs=some s'∧s'.cn kf kb=z
theorem ah3{gs:List cz}{v1:St}(n:Nat)(ks:List Nat)(D:∃ s1,wk E v (gs.take n)=some s1∧(⟨eW s1.fr ks,s1.bx,s1.hp⟩:St)=v1)(h3:Zn E v1 (gs.drop n) kf kb z):Zn E v gs kf kb z:=by
 intro s hs
 obtain ⟨s1,h1,h2⟩:=D
 obtain ⟨s2,h4,h5⟩:=P1 hs h1
 obtain ⟨s3,h6,h7⟩:=h3 s2 ((h2▸PY s1 ks).trans h5)
 exact ⟨s3,GH n h4 h6,h7⟩
theorem P2{gs:List cz}(D:∃ s1,wk E v gs=some s1∧s1.cn kf kb=z)(h3:z.fr.all (fun x=>!Cg x.2)=true):Zn E v gs kf kb z:=by
 intro s hs
 obtain ⟨s1,h1,h2⟩:=D
 obtain ⟨s2,h4,h5⟩:=P1 hs h1
 subst h2
 exact ⟨s2,h4,NO h5 h3⟩
theorem TV{mks:List Nat}{gs:List cz}{st st1:St}(h0:sW E st pre=some st1)(hm:(mks.all (ee E.dp st1)&&gs.all (n9 E.dp st1))=true)(h:Zn E st1 gs kf kb z):run G Ω0 E (.dg pre mks gs kf kb) st=some (.nrm,z):=by
 obtain ⟨s,h1,h2⟩:=h st1 ⟨fun _=>.inr rfl,rfl,rfl⟩
 rw [Kc,h0,ab,af hm,h1,ab,h2]
end
def plain:AV→Bool
 | .u=>false
 | .o _ _=>false
 | _=>true
noncomputable def KI(E:Env)(v:St):qI→Option AV
 | .mv x=>if plain (v.ev x)=true then some (v.ev x) else none
 | .as x=>if (v.ev x).pure=true then some (v.ev x) else none
 | .no x=>match v.ev x with
  | .b y=>some (.b !y)
  | _=>none
 | .fa off x=>match v.ev x with
  | .p q o=>some (.p q (o+off))
  | .e y o=>some (.e y (o+off))
  | _=>none
 | .nc x=>match v.ev x with
  | .p q o=>some (.p q o)
  | _=>none
 | .ld m x=>match v.ev x with
  | .p q o=>(v.box E.dp q).bind fun cs=>(pick m o cs).bind fun y=>if y.pure=true then some y else none
  | .e z o=>pick m o z.cl
  | _=>none
 | .bo op bl a b=>rp op bl (v.ev a) (v.ev b)
 | .pk c a b=>match v.ev c with
  | .b true=>if (v.ev a).copy=true then some (v.ev a) else none
  | .b false=>if (v.ev b).copy=true then some (v.ev b) else none
  | _=>none
 | .ln false x=>match v.ev x with
  | .l _ es=>some (I es.length)
  | _=>none
 | .ex x i=>match v.ev x with
  | .tp vs=>vs[i]?
  | _=>none
 | .ia sz none x i=>match v.ev x with
  | .l _ es=>(sV (v.ev i)).bind fun j=>(es[j]?).bind fun e=>if e.nc=sz then some (.e e 0) else none
  | _=>none
 | .ca 0 f xs=>(cK (call G Ω0) Ω0 E v 0 f (xs.map v.ev)).map (·.1)
 | .c3 f xs=>(pb (call G Ω0) E v f (xs.map v.ev)).map (·.1)
 | _=>none
section
variable {E:Env}{v:St}{d:Option Nat}{o:qI}{y:AV}
theorem P3(h:KI E v o=some y):calm v o=true∧execOp (call G Ω0) Ω0 E v d o=some (y,v):=by
 unfold KI at h
 split at h
 ·rename_i x
  split at h
  ·rename_i hp
   obtain rfl:=aq h
   unfold calm
   simp only [execOp]
   cases he:v.ev x<;>rw [he] at hp<;>first | (cases hp;done) | exact ⟨rfl,rfl⟩
  ·cases h
 ·rename_i x
  split at h
  ·rename_i hy
   obtain rfl:=aq h
   have hc:=er _ hy
   refine ⟨hc,?_⟩
   cases x with
   | c z=>simp only [execOp];exact af hy
   | t n=>
    have hy:(aQ v.fr n).pure=true:=hy
    have hc:(aQ v.fr n).copy=true:=hc
    show execOp _ _ _ _ _ _=some (aQ v.fr n,v)
    simp only [execOp]
    cases he:aQ v.fr n<;>rw [he] at hy hc<;>first | (cases hy;done) | (simp only [hc,B9,aH])
  ·cases h
 ·split at h
  ·rename_i he
   obtain rfl:=aq h
   exact ⟨rfl,by simp only [execOp,he];rfl⟩
  ·cases h
 ·split at h
  ·rename_i he
   obtain rfl:=aq h
   exact ⟨rfl,by simp only [execOp,he]⟩
  ·rename_i he
   obtain rfl:=aq h
   exact ⟨rfl,by simp only [execOp,he]⟩
  ·cases h
 ·split at h
  ·rename_i he
   obtain rfl:=aq h
   exact ⟨rfl,by simp only [execOp,he]⟩
  ·cases h
 ·split at h
  ·rename_i he
   obtain ⟨cs,h1,h2⟩:=au.1 h
   obtain ⟨z,h3,h4⟩:=au.1 h2
   split at h4
   ·rename_i hz
    obtain rfl:=aq h4
    refine ⟨rfl,?_⟩
    have hc:=er _ hz
    simp only [execOp,he,h1,h3,ab]
    cases z<;>first | (cases hz;done) | exact af hc
   ·cases h4
  ·rename_i he
   exact ⟨rfl,by simp only [execOp,he,h,ab]⟩
  ·cases h
 ·exact ⟨rfl,by simp only [execOp,h,ab]⟩
 ·split at h
  ·rename_i he
   split at h
   ·rename_i hy
    obtain rfl:=aq h
    exact ⟨rfl,by simp only [execOp,he,qH,ab,aH];exact af hy⟩
   ·cases h
  ·rename_i he
   split at h
   ·rename_i hy
    obtain rfl:=aq h
    refine ⟨rfl,?_⟩
    simp only [execOp,he,qH,ab,dy,cH]
    exact af hy
   ·cases h
  ·cases h
 ·split at h
  ·rename_i he
   obtain rfl:=aq h
   exact ⟨rfl,by simp only [execOp,he];rfl⟩
  ·cases h
 ·split at h
  ·rename_i he
   exact ⟨rfl,by simp only [execOp,he,h,ab]⟩
  ·cases h
 ·split at h
  ·rename_i he
   obtain ⟨j,h1,h2⟩:=au.1 h
   obtain ⟨e,h3,h4⟩:=au.1 h2
   split at h4
   ·rename_i hs
    obtain rfl:=aq h4
    exact ⟨rfl,by simp only [execOp,he,h1,ab,h3,elemAt,hs,aH]⟩
   ·cases h4
  ·cases h
 ·rename_i f xs
  obtain ⟨r,h1,rfl⟩:=fi.1 h
  have hq:qk (.ca 0 f xs)=true:=rfl
  haveI:=b0
  have h2:=(OR (d:=d) (⟨fun _=>.inr rfl,fun _ _ hb=>hb⟩:Le E.dp v v) hq rfl (show execOp (call G Ω0) Ω0 E v d (.ca 0 f xs)=some r from h1)).1
  exact ⟨rfl,h1.trans (by rw [←h2])⟩
 ·rename_i f xs
  obtain ⟨r,h1,rfl⟩:=fi.1 h
  have h2:=(PW (d:=d) (⟨fun _=>.inr rfl,rfl,rfl⟩:Sub v v) rfl (show execOp (call G Ω0) Ω0 E v d (.c3 f xs)=some r from h1)).1
  exact ⟨rfl,h1.trans (by rw [←h2])⟩
 ·cases h
noncomputable def SF(E:Env)(v:St)(g:dE):Option St:=
 match g.d with
 | none=>none
 | some e=>match g.g with
  | none=>(KI E v g.o).bind fun y=>some ⟨(e,fM g.fz y)::v.fr,v.bx,v.hp⟩
  | some (j,w)=>(zb (aQ v.fr j) w).bind fun b=>if b=true then (KI E v g.o).bind fun y=>some ⟨(e,fM g.fz y)::v.fr,v.bx,v.hp⟩ else some ⟨(e,.sk)::v.fr,v.bx,v.hp⟩
theorem VT{v v1:St}{g:dE}(h:SF E v g=some v1):PX v g=true∧iX (call G Ω0) Ω0 E v g=some v1:=by
 obtain ⟨d,o,g,fz⟩:=g
 unfold SF at h
 cases d with
 | none=>cases h
 | some e=>
  cases g with
  | none=>
   obtain ⟨y,h1,h2⟩:=au.1 h
   obtain rfl:=aq h2
   obtain ⟨h3,h4⟩:=P3 (d:=some e) h1
   exact ⟨h3,by simp only [iX];rw [h4];rfl⟩
  | some q=>
   obtain ⟨j,w⟩:=q
   obtain ⟨b,h0,h⟩:=au.1 h
   simp only at h0 h
   cases b with
   | true=>
    rw [af rfl] at h
    obtain ⟨y,h1,h2⟩:=au.1 h
    obtain rfl:=aq h2
    obtain ⟨h3,h4⟩:=P3 (d:=some e) h1
    exact ⟨by simp only [PX,h3,B8],by simp only [iX,h0,ab,aH];rw [h4];rfl⟩
   | false=>
    rw [ah (by simp)] at h
    obtain rfl:=aq h
    exact ⟨by simp only [PX,h0];rfl,by simp only [iX,h0,ab];rfl⟩
variable {Q:St→Prop}
theorem ve{v v1:St}{g:dE}{gs:List dE}(h:SF E v g=some v1)(h2:∃ s1,Ap E v1 gs=some s1∧Q s1):∃ s1,Ap E v (g::gs)=some s1∧Q s1:=by
 obtain ⟨s1,h3,h4⟩:=h2
 obtain ⟨h5,h6⟩:=VT h
 refine ⟨s1,?_,h4⟩
 unfold Ap
 rw [af h5,h6];exact h3
theorem vf(h:Q v):∃ s1,Ap E v []=some s1∧Q s1:=⟨v,rfl,h⟩
noncomputable def VU(E:Env)(v:St)(p:cz):Option St:=
 if p.lt=true then (match p.p.d with
  | none=>none
  | some e=>match p.p.g with
   | none=>(KI E (view p v) p.p.o).bind fun y=>if (iY E.dp p.nk y&&okB E.dp p.nb y&&p.cs.isEmpty)=true then some ⟨(e,fM p.p.fz y)::v.fr,v.bx,v.hp⟩ else none
   | some (j,w)=>(zb (aQ v.fr j) w).bind fun b=>if b=true then (KI E (view p v) p.p.o).bind fun y=>if (iY E.dp p.nk y&&okB E.dp p.nb y&&p.cs.isEmpty)=true then some ⟨(e,fM p.p.fz y)::v.fr,v.bx,v.hp⟩ else none else if p.cs.isEmpty=true then some ⟨(e,.sk)::v.fr,v.bx,v.hp⟩ else none)
 else SF E v p.p
theorem SG{v:St}{p:cz}(hd:p.p.d=some e)(h:KI E (view p v) p.p.o=some y)(hr:(iY E.dp p.nk y&&okB E.dp p.nb y&&p.cs.isEmpty)=true):calm (view p v) p.p.o=true∧kr (call G Ω0) Ω0 E p (view p v)=some ⟨[(e,fM p.p.fz y)],[],[],none⟩:=by
 simp only [aY,List.isEmpty_iff] at hr
 obtain ⟨h3,h4⟩:=P3 (d:=p.p.d) h
 obtain ⟨a1,a2,a3⟩:=KH (E:=E) h3 hr.2
 refine ⟨h3,?_⟩
 unfold kr
 rw [af (by simp only [a1,a2];rfl),h4]
 simp only [ab]
 rw [af (by simp only [hr.1.1,hr.1.2];rfl),a3,hd];rfl
theorem ah4{v v1:St}{p:cz}(h:VU E v p=some v1):VS v p=true∧e7 (call G Ω0) Ω0 E v p=some v1:=by
 unfold VU at h
 unfold VS e7
 cases hl:p.lt with
 | false=>
  rw [hl,ah (by simp)] at h
  rw [ah (by simp),ah (by simp)]
  exact VT h
 | true=>
  rw [hl,af rfl] at h
  rw [af rfl,af rfl]
  unfold eZ
  split at h
  ·cases h
  ·rename_i e he
   split at h
   ·rename_i hg
    obtain ⟨y,h1,h2⟩:=au.1 h
    split at h2
    ·rename_i hr
     obtain rfl:=aq h2
     obtain ⟨c1,c2⟩:=SG he h1 hr
     simp only [aY] at hr
     rw [hg]
     simp only [hr.2,c1,c2,xg,ab]
     exact ⟨trivial,rfl⟩
    ·cases h2
   ·rename_i j w hg
    obtain ⟨b,h0,h⟩:=au.1 h
    rw [hg]
    simp only [h0,ab]
    cases b with
    | true=>
     rw [af rfl] at h
     obtain ⟨y,h1,h2⟩:=au.1 h
     split at h2
     ·rename_i hr
      obtain rfl:=aq h2
      obtain ⟨c1,c2⟩:=SG he h1 hr
      simp only [aY] at hr
      simp only [hr.2,c1,c2,aH,B8,xg,ab]
      exact ⟨trivial,rfl⟩
     ·cases h2
    | false=>
     rw [ah (by simp)] at h
     split at h
     ·rename_i hr
      obtain rfl:=aq h
      refine ⟨by rw [hr];rfl,?_⟩
      simp only [dy,cH,ab,he]
      rfl
     ·cases h
theorem Bc{v v1:St}{p:cz}{ps:List cz}(h:VU E v p=some v1)(h2:∃ s1,wk E v1 ps=some s1∧Q s1):∃ s1,wk E v (p::ps)=some s1∧Q s1:=by
 obtain ⟨s1,h3,h4⟩:=h2
 obtain ⟨h5,h6⟩:=ah4 h
 refine ⟨s1,?_,h4⟩
 unfold wk
 rw [af h5,h6];exact h3
theorem Bd(h:Q v):∃ s1,wk E v []=some s1∧Q s1:=⟨v,rfl,h⟩
end
section
variable {E:Env}{x y:AC}{st st1:St}{P:bc×St→Prop}
def Nx(E:Env)(x:AC)(st:St)(P:bc×St→Prop):Prop:=∃ q,run G Ω0 E x st=some q∧P q
theorem dw(h:run G Ω0 E x st=some (.nrm,st1))(hp:P (.nrm,st1)):Nx E x st P:=⟨_,h,hp⟩
theorem cC(h:Nx E x st fun q=>match q.1 with
  | .nrm=>Nx E y q.2 P
  | _=>P q):Nx E (.sq x y) st P:=by
 obtain ⟨⟨e,s⟩,h1,h2⟩:=h
 cases e with
 | nrm=>
  obtain ⟨q,h3,h4⟩:=h2
  exact ⟨q,df h1 h3,h4⟩
 | ret=>exact ⟨_,PU h1,h2⟩
 | ex i=>exact ⟨_,Dd h1,h2⟩
theorem Cy{i:Nat}(h:Nx E x st fun q=>match q.1 with
  | .ex j=>if j=i then P (.nrm,q.2) else P q
  | _=>P q):Nx E (.bl i x) st P:=by
 obtain ⟨⟨e,s⟩,h1,h2⟩:=h
 unfold Nx
 rw [sg,h1]
 cases e with
 | nrm=>exact ⟨_,rfl,h2⟩
 | ret=>exact ⟨_,rfl,h2⟩
 | ex j=>
  simp only [ab,inBlock]
  simp only at h2
  by_cases e:j=i
  ·rw [af e] at h2 ⊢;exact ⟨_,rfl,h2⟩
  ·rw [ah e] at h2 ⊢;exact ⟨_,rfl,h2⟩
theorem jT{c:bY}(b:Bool)(h:qH (st.ev c)=some b)(ht:b=true→Nx E x st P)(hf:b=false→Nx E y st P):Nx E (.ite c x y) st P:=by
 cases b with
 | true=>obtain ⟨q,h1,h2⟩:=ht rfl;exact ⟨q,Ba h h1,h2⟩
 | false=>obtain ⟨q,h1,h2⟩:=hf rfl;exact ⟨q,xV h h1,h2⟩
theorem qj(h:Nx E x (st.cn kf kb) P):Nx E (.kp kf kb x) st P:=by
 obtain ⟨q,h1,h2⟩:=h
 exact ⟨q,GG h1,h2⟩
theorem om(h:P (.nrm,st)):Nx E .sk st P:=⟨_,lf _ _,h⟩
theorem o8(h:P (.ret,st)):Nx E .rt st P:=⟨_,kA _ _,h⟩
theorem TW{c:bO}{q:bc×St}(h:va G Ω0 E c (st.cn c.kf c.kb)=some q)(hp:P q):Nx E c.lp st P:=⟨q,by rw [pf];exact h,hp⟩
theorem Mt{f:FuncId}{fn:bU}{hp H:HP}{z:bC}{st:St}(hG:G f=some fn)(h:Nx E fn.code ⟨lC 0 args,[],hp⟩ fun q=>q=(.ret,st))(he:st.end_ E fn.res=some z)(hh:st.hp=H):call G Ω0 E f args hp=some (z,H):=by
 obtain ⟨q,h1,rfl⟩:=h
 exact wj hG h1 he hh
theorem P4{q:bc×St}(h:Nx E x st fun r=>r=q):run G Ω0 E x st=some q:=by
 obtain ⟨_,h1,rfl⟩:=h
 exact h1
end
variable [Lp]
attribute [local simp] gp execOp okB iY jq n9 Dy pa kL mq St.end_ St.oa List.filter
noncomputable def ixF{β:Type}(φ:β→Option Bool)(es:List β):Option Int:=(lp (fun v=>Ao φ es v) 0).bind fun (x1:(Nat⊕(Nat×Bool)))=>match x1 with
 | .inl z=>some (z:Int)
 | .inr _=>some (-1)
noncomputable def IJ{β:Type}(φ:β→Option Bool)(es:List β):Option Bool:=(ixF φ es).bind fun (r1:Int)=>some (decide (0≤r1))
def VW(n:Nat)(ld:Option Nat):bO:=⟨[0,1,7,8],[],(.sq (.rg [] [gp 9 (.bo .lss false (.t 8) (.t 7))] [0,1,7,8,9] []) (.sq (.ite (.t 9) .sk (.ex 0)) (.kp [0,1,7,8] []
 (.sq (.bl 1 (.sq (.rg [] [gp 10 (.mv (.t 8)),gp 5 (.as (.t 10))] [0,1,5,7,8] []) (.sq (.rg [] [gp 11 (.mv (.t 1)),gp 12 (.mv (.t 0)),gp 13 (.mv (.t 5)),gp 14 (.ia n none (.t 12) (.t 13)),gp 15 (.ld ld (.t 14)),gp 16 (.d2 (.t 11) [(.t 15)])] [0,1,5,7,8,16] [])
  (.ite (.t 16) (.sq (.rg [] [gp 17 (.mv (.t 5)),gp 4 (.as (.t 17))] [4] []) .rt) .sk)))) (.rg [] [gp 18 (.bo .add false (.t 8) (.c (.i .i64 1))),gp 8 (.mv (.t 18))] [0,1,7,8] [])))))⟩
def Zo(n:Nat)(ld:Option Nat):bU:=⟨(.sq (.rg [] [gp 4 (.as (.c (.i .i64 0)))] [0,1] []) (.sq (.sq (.rg [] [gp 6 (.mv (.t 0)),gp 7 (.ln false (.t 6)),gp 8 (.mv (.c (.i .i64 0)))] [0,1,7,8] []) (.bl 0 (VW n ld).lp)) (.sq (.rg [] [gp 4 (.as (.c (.i .i64 (-1))))] [4] []) .rt))),[.t 4]⟩
theorem NQ{x:AV}(h:x.pure=true):x.Eo=true:=by cases x<;>first | rfl | exact h
theorem KJ:∀ {cs:List AV},AV.cG cs=true→cs.all AV.Eo=true
 | [],_=>rfl
 | c::cs,h=>by
  simp only [AV.cG,aY] at h
  rw [List.all_cons,NQ h.1,KJ h.2];rfl
def apj(n:Nat)(ld:Option Nat)(x:AV):Prop:=x.pure=true∧match ld with
 | some k=>k=n∧∃ cs,x= .a cs∧cs.length=n
 | none=>n=1∧(x.cl=[x]∧x.one=true)
section
variable {β:Type}{f g:FuncId}{n:Nat}{ld:Option Nat}{t:TypeId}{enc:β→AV}{B:List AV}{φ:β→Option Bool}
abbrev VX(t:TypeId)(enc:β→AV)(g:FuncId)(B:List AV)(es:List β)(k:Nat):St:=⟨[(0,.l t (es.map enc)),(1,.f g B),(7,I es.length),(8,I k)],[],H0⟩
abbrev xIx(t:TypeId)(enc:β→AV)(g:FuncId)(B:List AV)(es:List β)(x:Nat⊕(Nat×Bool)):bc×St:=match x with
 | .inl z=>(.ret,⟨[(4,I z)],[],H0⟩)
 | .inr (z1,z2)=>(.ex 0,⟨[(0,.l t (es.map enc)),(1,.f g B),(7,I es.length),(8,I z1),(9,.b z2)],[],H0⟩)
variable (hg:g<1000000)(he:∀ y,apj n ld (enc y))(hc:AV.cG B=true)(hf:∀ y r,φ y=some r→call G Ω0 E0 g (enc y::B) H0=some (.ret (.b r),H0))
include hg he hc hf
set_option maxHeartbeats 8000000 in
theorem ah6{es:List β}{k:Nat}(hk:k<es.length){b:Bool}(hb:φ es[k]=some b) :
  run G Ω0 E0 (.rg [] [gp 11 (.mv (.t 1)),gp 12 (.mv (.t 0)),gp 13 (.mv (.t 5)),gp 14 (.ia n none (.t 12) (.t 13)),gp 15 (.ld ld (.t 14)),gp 16 (.d2 (.t 11) [(.t 15)])] [0,1,5,7,8,16] []) ⟨[(0,.l t (es.map enc)),(1,.f g B),(5,I k),(7,I es.length),(8,I k)],[],H0⟩=
   some (.nrm,⟨[(0,.l t (es.map enc)),(1,.f g B),(5,I k),(7,I es.length),(8,I k),(16,.b b)],[],H0⟩):=by
 obtain ⟨h1,h2⟩:=he es[k]
 have hA:=kO (E:=E0) (hf _ _ hb) (by simp [AV.cG,h1,hc]) (by simp)
 have h5:=NQ h1
 have h6:=eq_true (dz.1 (KJ hc))
 have hx:(es.map enc)[k]? =some (enc es[k]):=by simp [hk]
 generalize enc es[k]=x at *
 cases ld with
 | none=>
  obtain ⟨rfl,h3,h4⟩:=h2
  simp only [AV.cl] at h3
  simp [-cK,-List.getElem?_map,hx,h3,jo,h5,h6,hA,hg]
 | some q=>
  obtain ⟨rfl,cs,rfl,h3⟩:=h2
  have h7:cs.take q=cs:=iC (by omega)
  simp [-cK,-List.getElem?_map,hx,jo,h5,h6,hA,hg,h3,h7]
theorem Z1{es:List β}{k:Nat}{o:Nat⊕(Nat⊕(Nat×Bool))}(ho:Ao φ es k=some o):bQ E0 (VW n ld) (VX t enc g B es) (xIx t enc g B es) k o:=by
 unfold Ao at ho
 by_cases hk:(k:Int)<(es.length:Int)
 ·rw [af hk] at ho
  have J:k<es.length:=by omega
  rw [bu J,ab] at ho
  obtain ⟨b,hb,ho⟩:=au.1 ho
  have hA:=ah6 (t:=t) hg he hc hf J hb
  cases b with
  | true=>
   obtain rfl:=aq ho
   refine ⟨?_,by simp⟩
   apply df (by simp [J];rfl)
   apply df
   ·apply Ba (by simp)
    exact lf _ _
   apply GG
   apply PU
   apply TS
   apply df (by simp;rfl)
   apply df hA
   apply Ba (by simp)
   apply df (by simp;rfl)
   exact kA _ _
  | false=>
   rw [ah (by simp)] at ho
   split at ho
   ·rename_i hw
    obtain rfl:=aq ho
    have hr:run G Ω0 E0 (VW n ld).x (VX t enc g B es k)=some (.nrm,VX t enc g B es (k+1)):=by
     apply df (by simp [J];rfl)
     apply df
     ·apply Ba (by simp)
      exact lf _ _
     apply GG
     apply df
     ·apply Mr
      apply df (by simp;rfl)
      apply df hA
      apply xV (by simp)
      exact lf _ _
     simp [hw]
    show (run G Ω0 E0 (VW n ld).x (VX t enc g B es k)).bind _=_
    rw [hr];rfl
   ·cases ho
 ·rw [ah hk] at ho
  obtain rfl:=aq ho
  refine ⟨?_,by simp⟩
  apply df (st1:=⟨[(0,.l t (es.map enc)),(1,.f g B),(7,I es.length),(8,I k),(9,.b (decide ((k:Int)<(es.length:Int))))],[],H0⟩) (by simp)
  apply Dd
  apply xV (by simp;omega)
  exact sf _ _ _
theorem Z2{es:List β}{r:Int}(hG:G f=some (Zo n ld))(h:ixF φ es=some r):call G Ω0 E0 f [.l t (es.map enc),.f g B] H0=some (.ret (I r),H0):=by
 obtain ⟨x,hx,h⟩:=au.1 h
 have hL:=Sv (VW n ld) (VX t enc g B es) (xIx t enc g B es) (fun _=>rfl) (fun k o ho=>Z1 (t:=t) hg he hc hf ho) hx
 rcases x with z | z
 ·obtain rfl:=aq h
  apply wj hG
  ·apply df (by simp;rfl)
   apply PU
   apply df (by simp;rfl)
   apply TS
   rw [pf]
   exact hL
  ·simp [Zo]
  ·rfl
 ·obtain rfl:=aq h
  apply wj hG
  ·apply df (by simp;rfl)
   apply df
   ·apply df (by simp;rfl)
    apply PV
    rw [pf]
    exact hL
   apply df (by simp;rfl)
   exact kA _ _
  ·simp [Zo]
  ·rfl
def anC(i:FuncId):bU:=⟨(.sq (.rg [] [gp 4 (.as (.c (.b false)))] [0,1] []) (.sq (.rg [] [gp 5 (.mv (.t 0)),gp 6 (.mv (.t 1)),gp 7 (.c2 i [(.t 5),(.t 6)]),gp 8 (.bo .geq false (.t 7) (.c (.i .i64 0))),gp 4 (.as (.t 8))] [4] []) .rt)),[.t 4]⟩
theorem tj{i:FuncId}{es:List β}{r:Bool}(hG:G i=some (anC f))(hF:G f=some (Zo n ld))(h:IJ φ es=some r):call G Ω0 E0 i [.l t (es.map enc),.f g B] H0=some (.ret (.b r),H0):=by
 obtain ⟨x,hx,h⟩:=au.1 h
 obtain rfl:=aq h
 have hp:AV.cG [.l t (es.map enc),.f g B]=true:=by
  simp [AV.cG,AV.pure,hc]
 have hA:=kO (E:=E0) (Z2 (t:=t) hg he hc hf hF hx) hp (by simp)
 apply wj hG
 ·apply df (by simp;rfl)
  apply df (by simp [-cK,jo,hA,AV.Eo,hc];rfl)
  exact kA _ _
 ·simp [anC]
 ·rfl
end
end Go.Proofs.YtlmphbbhaeampaaGreat.A
