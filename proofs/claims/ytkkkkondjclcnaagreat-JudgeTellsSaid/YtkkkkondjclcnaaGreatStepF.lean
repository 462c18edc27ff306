/- Steps of an abstract run, one after the other; loops that count; regions cut in parts: what is not looked at again is forgotten between them. -/
import Derived.Test.YtkkkkondjclcnaaGreatBase
import Derived.Test.YtkkkkondjclcnaaGreatAbsH
set_option linter.all false
set_option maxRecDepth 100000
namespace Go.Proofs.YtkkkkondjclcnaaGreat.A
open Go
variable [Lp]
variable {args:List AV}
theorem aZ{E:Env}{f:FuncId}{r:AV}(h:call G Ω0 ⟨0,false⟩ f args (fun _=>none)=some (.ret r,fun _=>none))(hp:AV.aX args=true)(hr:r.pure=true)(st:St):
  aF (call G Ω0) Ω0 E st 0 f args=some (r,st):=by
 unfold aF
 simp only [AE _ _ hp,ad,h,hr]
 rfl
section
variable {E:Env}{x y:AC}{st st1:St}{r:Option (aN×St)}
theorem aj(h1:run G Ω0 E x st=some (.nrm,st1))(h2:run G Ω0 E y st1=r):run G Ω0 E (.sq x y) st=r:=by rw [n3,h1];exact h2
theorem xp(h1:run G Ω0 E x st=some (.ret,st1)):run G Ω0 E (.sq x y) st=some (.ret,st1):=by rw [n3,h1];rfl
theorem iu{id:Nat}(h1:run G Ω0 E x st=some (.ex id,st1)):run G Ω0 E (.sq x y) st=some (.ex id,st1):=by rw [n3,h1];rfl
theorem bT{c:aY}(h:qA (st.ev c)=some true)(h2:run G Ω0 E x st=r):run G Ω0 E (.ite c x y) st=r:=by rw [run_ite,h];exact h2
theorem ba{c:aY}(h:qA (st.ev c)=some false)(h2:run G Ω0 E y st=r):run G Ω0 E (.ite c x y) st=r:=by rw [run_ite,h];exact h2
theorem dI{id:Nat}(h1:run G Ω0 E x st=some (.nrm,st1)):run G Ω0 E (.bl id x) st=some (.nrm,st1):=by rw [n4,h1];rfl
theorem AW{id:Nat}(h1:run G Ω0 E x st=some (.ret,st1)):run G Ω0 E (.bl id x) st=some (.ret,st1):=by rw [n4,h1];rfl
theorem lu{id:Nat}(h1:run G Ω0 E x st=some (.ex id,st1)):run G Ω0 E (.bl id x) st=some (.nrm,st1):=by rw [n4,h1];simp only [ad,inBlock,az]
theorem di{kf kb:List Nat}(h:run G Ω0 E x (st.aG kf kb)=r):run G Ω0 E (.kp kf kb x) st=r:=by rw [jq];exact h
theorem iQ{s1 s2:St} : ∀ (n:Nat){ops:List br}{s:St},lC (call G Ω0) Ω0 E s (ops.take n)=some s1→lC (call G Ω0) Ω0 E s1 (ops.drop n)=some s2→lC (call G Ω0) Ω0 E s ops=some s2
 | 0,ops,s,h1,h2=>by obtain rfl:=af h1;exact h2
 | n+1,[],s,h1,h2=>by obtain rfl:=af h1;exact h2
 | n+1,p::ps,s,h1,h2=>by
  obtain ⟨s3,h3,h4⟩:=ah.1 h1
  exact ah.2 ⟨s3,h3,iQ n h4 h2⟩
theorem dM(n:Nat){pre:List wM}{mks:List Nat}{ops:List br}{kf kb:List Nat}{st st1 s1 s2 s3:St}(h0:sZ E st pre=some st1)(hm:(mks.all (um E.dp st1)&&ops.all (fT E.dp st1))=true)(h1:lC (call G Ω0) Ω0 E st1 (ops.take n)=some s1)(h2:lC (call G Ω0) Ω0 E s1 (ops.drop n)=some s2)(h3:s2.aG kf kb=s3) :
  run G Ω0 E (.dg pre mks ops kf kb) st=some (.nrm,s3):=by
 rw [Jn,h0,ad,ab hm,iQ n h1 h2,ad,h3]
theorem dS{f:FuncId}{fn:bE}{hp hp':HP}{z:bH}(hG:G f=some fn)(h:run G Ω0 E fn.code ⟨jy 0 args,[],hp⟩=some (.ret,st))(he:st.end_ E fn.res=some z)(hh:st.hp=hp'):call G Ω0 E f args hp=some (z,hp'):=by
 rw [qR,hG,ad,h];simp only [ad,he,hh]
theorem m9{f:FuncId}{fn:bE}{hp hp':HP}{z:bH}(hG:G f=some fn)(h:run G Ω0 E fn.code ⟨jy 0 args,[],hp⟩=some (.nrm,st))(he:st.end_ E fn.res=some z)(hh:st.hp=hp'):call G Ω0 E f args hp=some (z,hp'):=by
 rw [qR,hG,ad,h];simp only [ad,he,hh]
end
theorem yL{E:Env}{s1 s2:St} : ∀ (n:Nat){ops:List de}{s:St},iq (call G Ω0) Ω0 E s (ops.take n)=some s1→iq (call G Ω0) Ω0 E s1 (ops.drop n)=some s2→iq (call G Ω0) Ω0 E s ops=some s2
 | 0,ops,s,h1,h2=>by obtain rfl:=af h1;exact h2
 | n+1,[],s,h1,h2=>by obtain rfl:=af h1;exact h2
 | n+1,p::ps,s,h1,h2=>by
  obtain ⟨s3,h3,h4⟩:=ah.1 h1
  exact ah.2 ⟨s3,h3,yL n h4 h2⟩
variable {pre:List wM}{kf kb:List Nat}{s1 s2 s3:St}
theorem afM{E:Env}(n:Nat){ops:List de}{st st1:St}(h0:sZ E st pre=some st1)(h1:iq (call G Ω0) Ω0 E st1 (ops.take n)=some s1)(h2:iq (call G Ω0) Ω0 E s1 (ops.drop n)=some s2)(h3:s2.aG kf kb=s3):
  run G Ω0 E (.rg pre ops kf kb) st=some (.nrm,s3):=by
 rw [yA,h0,ad,yL n h1 h2,ad,h3]
variable {e:Nat}{z:St}
theorem Dc{E:Env}{c:bb}(S:Nat→St)(n:Nat)(hk:∀ k,(S k).aG c.kf c.kb=S k)(hs:∀ k,k<n→run G Ω0 E c.x (S k)=some (.nrm,S (k+1)))(he:run G Ω0 E c.x (S n)=some (.ex e,z)):fH G Ω0 E c (S 0)=some (.ex e,z):=by
 have:∀ m k,k+m=n→fH G Ω0 E c (S k)=some (.ex e,z):=by
  intro m
  induction m with
  | zero=>
    intro k hm;obtain rfl:k=n:=by omega
    exact dD (by rw [hk];exact he) (by simp)
  | succ m ih=>
   intro k hm
   rw [dz (st1:=S (k+1))]
   ·exact ih (k+1) (by omega)
   ·rw [hk]
    show (run G Ω0 E c.x (S k)).bind _=_
    rw [hs k (by omega)]
    exact an some (hk (k+1))
 exact this n 0 (by omega)
theorem Zo{E:Env}{c:bb}(S:Nat→St)(n:Nat)(p:Nat→Bool){x y:aN×St}(hk:∀ k,(S k).aG c.kf c.kb=S k)(hx:x.1≠.nrm)(hy:y.1≠.nrm)
  (hs:∀ k,k<n→p k=false→run G Ω0 E c.x (S k)=some (.nrm,S (k+1))) (hf:∀ k,k<n→p k=true→run G Ω0 E c.x (S k)=some x) (he:run G Ω0 E c.x (S n)=some y):fH G Ω0 E c (S 0)=some (if (List.range n).any p=true then x else y):=by
 have:∀ m k,k+m=n→(∀ j,j<k→p j=false)→fH G Ω0 E c (S k)=some (if (List.range n).any p=true then x else y):=by
  intro m
  induction m with
  | zero=>
   intro k hm hp
   obtain rfl:k=n:=by omega
   rw [aa (by simp only [jK,yt,not_exists,not_and];exact fun j hj=>by rw [hp j hj];simp)]
   exact dD (by rw [hk];exact he) (by exact hy)
  | succ m ih=>
   intro k hm hp
   cases hq:p k with
   | true=>
    rw [ab (jK.2 ⟨k,yt.2 (by omega),hq⟩)]
    exact dD (by rw [hk];exact hf k (by omega) hq) (by exact hx)
   | false=>
    rw [dz (st1:=S (k+1))]
    ·exact ih (k+1) (by omega) fun j hj=>by
      by_cases K:j=k
      ·rw [K];exact hq
      ·exact hp j (by omega)
    ·rw [hk]
     show (run G Ω0 E c.x (S k)).bind _=_
     rw [hs k (by omega) hq]
     exact an some (hk (k+1))
 exact this n 0 (by omega) fun j hj=>absurd hj (by omega)
structure Sub(v s:St):Prop where
 fr:∀ d,au v.fr d= .u∨au v.fr d=au s.fr d
 bx:v.bx=s.bx
 hp:v.hp=s.hp
section
variable {v s v':St}{E:Env}
abbrev b0:bM:=⟨0,fun _=>true⟩
theorem Sub.le(h:Sub v s)(dp:Nat):Le dp v s:=⟨h.fr,fun k cs hb=>by simp only [St.box,h.bx,h.hp] at hb ⊢;exact hb⟩
theorem Sub.ev(h:Sub v s){x:aY}(hx:v.ev x≠.u):s.ev x=v.ev x:=haveI:=b0;Le.ev (E:=⟨0,false⟩) (h.le 0) rfl hx
theorem Sub.evs(h:Sub v s){xs:List aY}(hx:∀ x∈xs,v.ev x≠.u):xs.map s.ev=xs.map v.ev:=haveI:=b0;Le.map (E:=⟨0,false⟩) (h.le 0) hx
def calm(v:St):nY→Bool
 | .as x=>(v.ev x).copy
 | .mv x=>!EL (v.ev x)
 | .c3 _ _=>true
 | o=>qk o
theorem OU{d:Option Nat}{o:nY}{r:AV×St}(h:Sub v s)(hc:calm v o=true)(he:execOp (call G Ω0) Ω0 E v d o=some r):r.2=v∧execOp (call G Ω0) Ω0 E s d o=some (r.1,s):=by
 haveI:=b0
 have hL:=h.le E.dp
 cases o with
 | as x=>
  have F:(v.ev x).copy=true:=hc
  have hx:=h.ev (yK F)
  cases x with
  | c y=>
   simp only [execOp] at he ⊢
   split at he
   ·rename_i hp
    obtain rfl:=af he
    exact ⟨rfl,ab hp⟩
   ·cases he
  | t n=>
   have hx:au s.fr n=au v.fr n:=hx
   have F:(au v.fr n).copy=true:=F
   simp only [execOp] at he ⊢
   rw [hx]
   cases hf:au v.fr n<;>rw [hf] at he F<;>simp only [AV.copy,bU] at F<;>simp only [AV.copy,BK,az] at he ⊢<;>first | (obtain rfl:=af he;exact ⟨rfl,rfl⟩) | (simp only [F,BK,az] at he ⊢;obtain rfl:=af he;exact ⟨rfl,rfl⟩)
 | c3 f args=>
  simp only [execOp] at he ⊢
  unfold iU at he ⊢
  split at he
  ·rename_i hp
   simp only [aC] at hp
   have ha:args.map s.ev=args.map v.ev:=h.evs fun x hx=>yK (cJ.1 hp.1 _ (yp hx))
   have hb:(fun k=>s.box E.dp k)=fun k=>v.box E.dp k:=by funext k;simp only [St.box,h.bx,h.hp]
   obtain ⟨⟨q,hq⟩,h1,h2⟩:=ah.1 he
   rw [ha,←h.bx,ab (by simp only [aC];exact hp),hb,h1]
   simp only [ad] at h2 ⊢
   cases q with
   | ret x=>
    simp only at h2 ⊢
    split at h2
    ·rename_i hx
     obtain rfl:=af h2
     exact ⟨rfl,ab hx⟩
    ·cases h2
   | _=>cases h2
  ·cases he
 | mv x=>exact N2 hL rfl hc he
 | st _ _ _=>cases hc
 | ap _ _ _ _ _=>cases hc
 | _=>exact N2 hL hc rfl he
def OV(v:St)(g:de):Bool:=
 match g.g with
 | none=>calm v g.o
 | some (j,w)=>!(wN (au v.fr j) w==some true)||calm v g.o
noncomputable def zW(E:Env):St→List de→Option St
 | v,[]=>some v
 | v,g::gs=>if OV v g=true then (fS (call G Ω0) Ω0 E v g).bind fun v'=>zW E v' gs else none
theorem Sub.put(h:Sub v s)(d:Option Nat)(x:AV):Sub (put v d x) (put s d x):=by
 cases d with
 | none=>exact h
 | some d=>
  refine ⟨fun k=>?_,h.bx,h.hp⟩
  show au ((d,x)::v.fr) k= .u∨au ((d,x)::v.fr) k=au ((d,x)::s.fr) k
  unfold au
  by_cases e:d=k
  ·rw [ab e,ab e];exact .inr rfl
  ·rw [aa e,aa e];exact h.fr k
theorem YP{g:de}(h:Sub v s)(hc:OV v g=true)(he:fS (call G Ω0) Ω0 E v g=some v'):∃ s',fS (call G Ω0) Ω0 E s g=some s'∧Sub v' s':=by
 have run:calm v g.o=true→∀ w,(execOp (call G Ω0) Ω0 E v g.d g.o).bind (fun r=>some (A.put r.2 g.d (eV g.fz r.1)))=some w→∃ s',(execOp (call G Ω0) Ω0 E s g.d g.o).bind (fun r=>some (A.put r.2 g.d (eV g.fz r.1)))=some s'∧Sub w s':=by
  intro L w hw
  obtain ⟨r,h1,h2⟩:=ah.1 hw
  obtain ⟨h3,h4⟩:=OU h L h1
  obtain rfl:=af h2
  rw [h4,h3]
  exact ⟨_,rfl,h.put _ _⟩
 unfold fS at he ⊢
 unfold OV at hc
 cases hg:g.g with
 | none=>rw [hg] at he hc;exact run hc _ he
 | some q=>
  obtain ⟨j,w⟩:=q
  rw [hg] at he hc
  simp only at he hc ⊢
  obtain ⟨y,h1,h2⟩:=ah.1 he
  have hj:au s.fr j=au v.fr j:=by
   rcases h.fr j with e | e
   ·rw [e] at h1;cases h1
   ·exact e.symm
  rw [hj,h1]
  simp only [ad]
  cases y with
  | true=>
   rw [ab rfl] at h2 ⊢
   refine run ?_ _ h2
   rw [h1] at hc
   simpa using hc
  | false=>
   rw [aa (by simp)] at h2 ⊢
   obtain rfl:=af h2
   exact ⟨_,rfl,h.put _ _⟩
theorem Lm:∀ {gs:List de}{v s v':St},Sub v s→zW E v gs=some v'→∃ s',iq (call G Ω0) Ω0 E s gs=some s'∧Sub v' s'
 | [],v,s,v',h,he=>by
  obtain rfl:=af he
  exact ⟨s,rfl,h⟩
 | g::gs,v,s,v',h,he=>by
  unfold zW at he
  split at he
  ·rename_i hc
   obtain ⟨v1,h1,h2⟩:=ah.1 he
   obtain ⟨s1,h3,h4⟩:=YP h hc h1
   obtain ⟨s2,h5,h6⟩:=Lm h4 h2
   exact ⟨s2,ah.2 ⟨s1,h3,h5⟩,h6⟩
  ·cases he
theorem S7{fr:List (Nat×AV)}{ks:List Nat}(d:Nat):au (eE fr ks) d= .u∨au (eE fr ks) d=au fr d:=by
 induction ks with
 | nil=>exact .inl rfl
 | cons k ks ih=>
  show au ((k,au fr k)::eE fr ks) d= .u∨au ((k,au fr k)::eE fr ks) d=au fr d
  rw [au]
  by_cases e:k=d
  ·subst e;rw [ab rfl];exact .inr rfl
  ·rw [aa e];exact ih
theorem OW(s:St)(ks:List Nat):Sub ⟨eE s.fr ks,s.bx,s.hp⟩ s:=⟨fun d=>S7 d,rfl,rfl⟩
theorem Sub.trans{a b c:St}(h:Sub a b)(h':Sub b c):Sub a c:=⟨fun d=>by
 rcases h.fr d with e | e
 ·exact .inl e
 ·rw [e];exact h'.fr d,h.bx.trans h'.bx,h.hp.trans h'.hp⟩
theorem MD(h:Sub v s)(hu:(eE v.fr kf).all (fun x=>!EL x.2)=true):s.aG kf kb=v.aG kf kb:=by
 unfold St.aG
 rw [←h.bx,←h.hp]
 have:eE s.fr kf=eE v.fr kf:=by
  unfold eE at hu ⊢
  refine rU fun k hk=>?_
  have h1:=cJ.1 hu (k,au v.fr k) (yp (f:=fun k=>(k,au v.fr k)) hk)
  rcases h.fr k with e | e
  ·rw [e] at h1;cases h1
  ·rw [e]
 rw [this]
def Fw(E:Env)(v:St)(gs:List de)(kf kb:List Nat)(z:St):Prop:=∀ s,Sub v s→∃ s',iq (call G Ω0) Ω0 E s gs=some s'∧s'.aG kf kb=z
theorem qG{gs:List de}{v1:St}(n:Nat)(ks:List Nat)(D:∃ s1,zW E v (gs.take n)=some s1∧(⟨eE s1.fr ks,s1.bx,s1.hp⟩:St)=v1)(h3:Fw E v1 (gs.drop n) kf kb z):Fw E v gs kf kb z:=by
 intro s hs
 obtain ⟨s1,h1,h2⟩:=D
 obtain ⟨s2,h4,h5⟩:=Lm hs h1
 obtain ⟨s3,h6,h7⟩:=h3 s2 ((h2▸OW s1 ks).trans h5)
 refine ⟨s3,?_,h7⟩
 exact yL n h4 h6
theorem Dd{gs:List de}(D:∃ s1,zW E v gs=some s1∧s1.aG kf kb=z)(h3:z.fr.all (fun x=>!EL x.2)=true):Fw E v gs kf kb z:=by
 intro s hs
 obtain ⟨s1,h1,h2⟩:=D
 obtain ⟨s2,h4,h5⟩:=Lm hs h1
 subst h2
 exact ⟨s2,h4,MD h5 h3⟩
theorem G8{gs:List de}{st st1:St}(h0:sZ E st pre=some st1)(h:Fw E st1 gs kf kb z):run G Ω0 E (.rg pre gs kf kb) st=some (.nrm,z):=by
 obtain ⟨s,h1,h2⟩:=h st1 ⟨fun _=>.inr rfl,rfl,rfl⟩
 rw [yA,h0,ad,h1,ad,h2]
def US(v:St)(p:br):Bool:=
 if p.lt=true then p.cs.isEmpty&&(match p.p.g with
  | none=>calm (view p v) p.p.o
  | some (j,w)=>!(wN (au v.fr j) w==some true)||calm (view p v) p.p.o)
 else OV v p.p
noncomputable def wi(E:Env):St→List br→Option St
 | v,[]=>some v
 | v,p::ps=>if US v p=true then (dF (call G Ω0) Ω0 E v p).bind fun v'=>wi E v' ps else none
theorem Sub.view(h:Sub v s)(p:br):Sub (view p v) (view p s):=by
 refine ⟨fun d=>?_,?_,?_⟩
 ·show au (eE v.fr p.vw) d= .u∨au (eE v.fr p.vw) d=au (eE s.fr p.vw) d
  induction p.vw with
  | nil=>exact .inl rfl
  | cons k ks ih=>
   show au ((k,au v.fr k)::eE v.fr ks) d= .u∨au ((k,au v.fr k)::eE v.fr ks) d=au ((k,au s.fr k)::eE s.fr ks) d
   rw [au,au]
   by_cases e:k=d
   ·rw [ab e,ab e];exact h.fr k
   ·rw [aa e,aa e];exact ih
 ·show du v.bx _=du s.bx _
  rw [h.bx]
 ·show (if p.vh=true then v.hp else _)=if p.vh=true then s.hp else _
  rw [h.hp]
theorem Sub.calm(h:Sub v s){o:nY}(hc:calm v o=true):A.calm s o=true:=by
 haveI:=b0
 cases o with
 | as x=>have h1:(v.ev x).copy=true:=hc;show (s.ev x).copy=true;rw [h.ev (yK h1)];exact h1
 | mv x=>
  have h1:(!EL (v.ev x))=true:=hc
  show (!EL (s.ev x))=true
  rw [h.ev (fun e=>by rw [e] at h1;cases h1)];exact h1
 | _=>exact hc
theorem JP{p:br}{v:St}(hc:calm v p.p.o=true)(C:p.cs=[]):kR v p.p.o=true∧df E.dp p v=true∧∀ r,effect p r=⟨jO p.p.d (eV p.p.fz r.1),[],[],none⟩:=by
 obtain ⟨⟨d,o,g,fz⟩,lt,vw,vb,vh,cs,nk,nb⟩:=p
 simp only at hc C
 subst C
 cases o<;>first | (cases hc;done) | exact ⟨by first | exact hc | rfl,rfl,fun r=>by simp [effect]⟩
theorem OX{p:br}{q:bL}(h:Sub v s)(hc:calm (view p v) p.p.o=true)(C:p.cs=[])(he:jx (call G Ω0) Ω0 E p (view p v)=some q):jx (call G Ω0) Ω0 E p (view p s)=some q∧∃ x,q=⟨jO p.p.d x,[],[],none⟩:=by
 have hw:=h.view p
 obtain ⟨a1,a2,a3⟩:=JP (E:=E) (hw.calm hc) C
 unfold jx at he ⊢
 split at he
 ·obtain ⟨r,h1,h2⟩:=ah.1 he
  obtain ⟨h3,h4⟩:=OU hw hc h1
  rw [ab (by simp only [a1,a2];rfl),h4]
  simp only [ad]
  split at h2
  ·rename_i J
   obtain rfl:=af h2
   rw [ab J,a3,a3]
   exact ⟨rfl,_,rfl⟩
  ·cases h2
 ·cases he
theorem Sub.app(h:Sub v s)(d:Option Nat)(x:AV):Sub ((⟨jO d x,[],[],none⟩:bL).app v) ((⟨jO d x,[],[],none⟩:bL).app s):=by
 cases d with
 | none=>exact ⟨h.fr,h.bx,h.hp⟩
 | some d=>exact h.put (some d) x
theorem akl{p:br}(h:Sub v s)(hc:US v p=true)(he:dF (call G Ω0) Ω0 E v p=some v'):∃ s',dF (call G Ω0) Ω0 E s p=some s'∧Sub v' s':=by
 unfold US at hc
 unfold dF at he ⊢
 cases hl:p.lt with
 | false=>
  rw [hl,aa (by simp)] at hc he
  rw [aa (by simp)]
  exact YP h hc he
 | true=>
  rw [hl,ab rfl] at hc he
  rw [ab rfl]
  obtain ⟨q,h1,h2⟩:=ah.1 he
  obtain rfl:=af h2
  simp only [aC,List.isEmpty_iff] at hc
  obtain ⟨C,hc⟩:=hc
  have fin:∀ x,q=⟨jO p.p.d x,[],[],none⟩→dy (call G Ω0) Ω0 E p s=some q→∃ s',(dy (call G Ω0) Ω0 E p s).bind (fun q=>some (q.app s))=some s'∧Sub (q.app v) s':=by
   rintro x rfl hp
   rw [hp]
   exact ⟨_,rfl,h.app _ _⟩
  unfold dy at h1
  cases hg:p.p.g with
  | none=>
   rw [hg] at h1 hc
   obtain ⟨g1,x,g2⟩:=OX h hc C h1
   refine fin x g2 ?_
   unfold dy
   rw [hg];exact g1
  | some w=>
   obtain ⟨j,w⟩:=w
   rw [hg] at h1 hc
   simp only at h1 hc
   obtain ⟨y,h3,h4⟩:=ah.1 h1
   have hj:au s.fr j=au v.fr j:=by
    rcases h.fr j with e | e
    ·rw [e] at h3;cases h3
    ·exact e.symm
   cases y with
   | true=>
    rw [ab rfl] at h4
    rw [h3] at hc
    obtain ⟨g1,x,g2⟩:=OX h (by simpa using hc) C h4
    refine fin x g2 ?_
    unfold dy
    rw [hg]
    simp only [hj,h3,ad,az]
    exact g1
   | false=>
    rw [aa (by simp)] at h4
    obtain rfl:=af h4
    refine fin .sk rfl ?_
    unfold dy
    rw [hg]
    simp only [hj,h3,ad,bU,bB]
theorem OY:∀ {gs:List br}{v s v':St},Sub v s→wi E v gs=some v'→∃ s',lC (call G Ω0) Ω0 E s gs=some s'∧Sub v' s'
 | [],v,s,v',h,he=>by
  obtain rfl:=af he
  exact ⟨s,rfl,h⟩
 | g::gs,v,s,v',h,he=>by
  unfold wi at he
  split at he
  ·rename_i hc
   obtain ⟨v1,h1,h2⟩:=ah.1 he
   obtain ⟨s1,h3,h4⟩:=akl h hc h1
   obtain ⟨s2,h5,h6⟩:=OY h4 h2
   exact ⟨s2,ah.2 ⟨s1,h3,h5⟩,h6⟩
  ·cases he
def YQ(E:Env)(v:St)(gs:List br)(kf kb:List Nat)(z:St):Prop:=∀ s,Sub v s→∃ s',lC (call G Ω0) Ω0 E s gs=some s'∧s'.aG kf kb=z
theorem afN{gs:List br}{v1:St}(n:Nat)(ks:List Nat)(D:∃ s1,wi E v (gs.take n)=some s1∧(⟨eE s1.fr ks,s1.bx,s1.hp⟩:St)=v1)(h3:YQ E v1 (gs.drop n) kf kb z):YQ E v gs kf kb z:=by
 intro s hs
 obtain ⟨s1,h1,h2⟩:=D
 obtain ⟨s2,h4,h5⟩:=OY hs h1
 obtain ⟨s3,h6,h7⟩:=h3 s2 ((h2▸OW s1 ks).trans h5)
 exact ⟨s3,iQ n h4 h6,h7⟩
theorem De{gs:List br}(D:∃ s1,wi E v gs=some s1∧s1.aG kf kb=z)(h3:z.fr.all (fun x=>!EL x.2)=true):YQ E v gs kf kb z:=by
 intro s hs
 obtain ⟨s1,h1,h2⟩:=D
 obtain ⟨s2,h4,h5⟩:=OY hs h1
 subst h2
 exact ⟨s2,h4,MD h5 h3⟩
theorem N3{mks:List Nat}{gs:List br}{st st1:St}(h0:sZ E st pre=some st1)(hm:(mks.all (um E.dp st1)&&gs.all (fT E.dp st1))=true)(h:YQ E st1 gs kf kb z):run G Ω0 E (.dg pre mks gs kf kb) st=some (.nrm,z):=by
 obtain ⟨s,h1,h2⟩:=h st1 ⟨fun _=>.inr rfl,rfl,rfl⟩
 rw [Jn,h0,ad,ab hm,h1,ad,h2]
end
def plain:AV→Bool
 | .u=>false
 | .o _ _=>false
 | _=>true
noncomputable def HW(E:Env)(v:St):nY→Option AV
 | .mv x=>if plain (v.ev x)=true then some (v.ev x) else none
 | .as x=>if (v.ev x).pure=true then some (v.ev x) else none
 | .no x=>match v.ev x with
  | .b y=>some (.b !y)
  | _=>none
 | .fa off x=>match v.ev x with
  | .p q o=>some (.p q (o+off))
  | .e y o=>some (.e y (o+off))
  | _=>none
 | .nc x=>match v.ev x with
  | .p q o=>some (.p q o)
  | _=>none
 | .ld m x=>match v.ev x with
  | .p q o=>(v.box E.dp q).bind fun cs=>(pick m o cs).bind fun y=>if y.pure=true then some y else none
  | .e z o=>pick m o z.cl
  | _=>none
 | .bo op bl a b=>rn op bl (v.ev a) (v.ev b)
 | .pk c a b=>match v.ev c with
  | .b true=>if (v.ev a).copy=true then some (v.ev a) else none
  | .b false=>if (v.ev b).copy=true then some (v.ev b) else none
  | _=>none
 | .ln false x=>match v.ev x with
  | .l _ es=>some (I es.length)
  | _=>none
 | .ex x i=>match v.ev x with
  | .tp vs=>vs[i]?
  | _=>none
 | .ia sz none x i=>match v.ev x with
  | .l _ es=>(sX (v.ev i)).bind fun j=>(es[j]?).bind fun e=>if e.nc=sz then some (.e e 0) else none
  | _=>none
 | .ca 0 f xs=>(aF (call G Ω0) Ω0 E v 0 f (xs.map v.ev)).map (·.1)
 | .c3 f xs=>(iU (call G Ω0) E v f (xs.map v.ev)).map (·.1)
 | _=>none
section
variable {E:Env}{v:St}{d:Option Nat}{o:nY}{y:AV}
theorem OZ(h:HW E v o=some y):calm v o=true∧execOp (call G Ω0) Ω0 E v d o=some (y,v):=by
 unfold HW at h
 split at h
 ·rename_i x
  split at h
  ·rename_i hp
   obtain rfl:=af h
   unfold calm
   simp only [execOp]
   cases he:v.ev x<;>rw [he] at hp<;>first | (cases hp;done) | exact ⟨rfl,rfl⟩
  ·cases h
 ·rename_i x
  split at h
  ·rename_i hy
   obtain rfl:=af h
   have hc:=ed _ hy
   refine ⟨hc,?_⟩
   cases x with
   | c z=>simp only [execOp];exact ab hy
   | t n=>
    have hy:(au v.fr n).pure=true:=hy
    have hc:(au v.fr n).copy=true:=hc
    show execOp _ _ _ _ _ _=some (au v.fr n,v)
    simp only [execOp]
    cases he:au v.fr n<;>rw [he] at hy hc<;>first | (cases hy;done) | (simp only [hc,BK,az])
  ·cases h
 ·split at h
  ·rename_i he
   obtain rfl:=af h
   exact ⟨rfl,by simp only [execOp,he];rfl⟩
  ·cases h
 ·split at h
  ·rename_i he
   obtain rfl:=af h
   exact ⟨rfl,by simp only [execOp,he]⟩
  ·rename_i he
   obtain rfl:=af h
   exact ⟨rfl,by simp only [execOp,he]⟩
  ·cases h
 ·split at h
  ·rename_i he
   obtain rfl:=af h
   exact ⟨rfl,by simp only [execOp,he]⟩
  ·cases h
 ·split at h
  ·rename_i he
   obtain ⟨cs,h1,h2⟩:=ah.1 h
   obtain ⟨z,h3,h4⟩:=ah.1 h2
   split at h4
   ·rename_i hz
    obtain rfl:=af h4
    refine ⟨rfl,?_⟩
    have hc:=ed _ hz
    simp only [execOp,he,h1,h3,ad]
    cases z<;>first | (cases hz;done) | exact ab hc
   ·cases h4
  ·rename_i he
   exact ⟨rfl,by simp only [execOp,he,h,ad]⟩
  ·cases h
 ·exact ⟨rfl,by simp only [execOp,h,ad]⟩
 ·split at h
  ·rename_i he
   split at h
   ·rename_i hy
    obtain rfl:=af h
    exact ⟨rfl,by simp only [execOp,he,qA,ad,az];exact ab hy⟩
   ·cases h
  ·rename_i he
   split at h
   ·rename_i hy
    obtain rfl:=af h
    refine ⟨rfl,?_⟩
    simp only [execOp,he,qA,ad,bU,bB]
    exact ab hy
   ·cases h
  ·cases h
 ·split at h
  ·rename_i he
   obtain rfl:=af h
   exact ⟨rfl,by simp only [execOp,he];rfl⟩
  ·cases h
 ·split at h
  ·rename_i he
   exact ⟨rfl,by simp only [execOp,he,h,ad]⟩
  ·cases h
 ·split at h
  ·rename_i he
   obtain ⟨j,h1,h2⟩:=ah.1 h
   obtain ⟨e,h3,h4⟩:=ah.1 h2
   split at h4
   ·rename_i hs
    obtain rfl:=af h4
    exact ⟨rfl,by simp only [execOp,he,h1,ad,h3,elemAt,hs,az]⟩
   ·cases h4
  ·cases h
 ·rename_i f xs
  obtain ⟨r,h1,rfl⟩:=db.1 h
  have hq:qk (.ca 0 f xs)=true:=rfl
  haveI:=b0
  have h2:=(N2 (d:=d) (⟨fun _=>.inr rfl,fun _ _ hb=>hb⟩:Le E.dp v v) hq rfl (show execOp (call G Ω0) Ω0 E v d (.ca 0 f xs)=some r from h1)).1
  exact ⟨rfl,h1.trans (by rw [←h2])⟩
 ·rename_i f xs
  obtain ⟨r,h1,rfl⟩:=db.1 h
  have h2:=(OU (d:=d) (⟨fun _=>.inr rfl,rfl,rfl⟩:Sub v v) rfl (show execOp (call G Ω0) Ω0 E v d (.c3 f xs)=some r from h1)).1
  exact ⟨rfl,h1.trans (by rw [←h2])⟩
 ·cases h
noncomputable def O0(E:Env)(v:St)(g:de):Option St:=
 match g.d with
 | none=>none
 | some e=>match g.g with
  | none=>(HW E v g.o).bind fun y=>some ⟨(e,eV g.fz y)::v.fr,v.bx,v.hp⟩
  | some (j,w)=>(wN (au v.fr j) w).bind fun b=>if b=true then (HW E v g.o).bind fun y=>some ⟨(e,eV g.fz y)::v.fr,v.bx,v.hp⟩ else some ⟨(e,.sk)::v.fr,v.bx,v.hp⟩
theorem UT{v v1:St}{g:de}(h:O0 E v g=some v1):OV v g=true∧fS (call G Ω0) Ω0 E v g=some v1:=by
 obtain ⟨d,o,g,fz⟩:=g
 unfold O0 at h
 cases d with
 | none=>cases h
 | some e=>
  cases g with
  | none=>
   obtain ⟨y,h1,h2⟩:=ah.1 h
   obtain rfl:=af h2
   obtain ⟨h3,h4⟩:=OZ (d:=some e) h1
   exact ⟨h3,by simp only [fS];rw [h4];rfl⟩
  | some q=>
   obtain ⟨j,w⟩:=q
   obtain ⟨b,h0,h⟩:=ah.1 h
   simp only at h0 h
   cases b with
   | true=>
    rw [ab rfl] at h
    obtain ⟨y,h1,h2⟩:=ah.1 h
    obtain rfl:=af h2
    obtain ⟨h3,h4⟩:=OZ (d:=some e) h1
    exact ⟨by simp only [OV,h3,BL],by simp only [fS,h0,ad,az];rw [h4];rfl⟩
   | false=>
    rw [aa (by simp)] at h
    obtain rfl:=af h
    exact ⟨by simp only [OV,h0];rfl,by simp only [fS,h0,ad];rfl⟩
variable {Q:St→Prop}
theorem qc{v v1:St}{g:de}{gs:List de}(h:O0 E v g=some v1)(h2:∃ s1,zW E v1 gs=some s1∧Q s1):∃ s1,zW E v (g::gs)=some s1∧Q s1:=by
 obtain ⟨s1,h3,h4⟩:=h2
 obtain ⟨h5,h6⟩:=UT h
 refine ⟨s1,?_,h4⟩
 unfold zW
 rw [ab h5,h6];exact h3
theorem qf(h:Q v):∃ s1,zW E v []=some s1∧Q s1:=⟨v,rfl,h⟩
noncomputable def RE(E:Env)(v:St)(p:br):Option St:=
 if p.lt=true then (match p.p.d with
  | none=>none
  | some e=>match p.p.g with
   | none=>(HW E (view p v) p.p.o).bind fun y=>if (gv E.dp p.nk y&&okB E.dp p.nb y&&p.cs.isEmpty)=true then some ⟨(e,eV p.p.fz y)::v.fr,v.bx,v.hp⟩ else none
   | some (j,w)=>(wN (au v.fr j) w).bind fun b=>if b=true then (HW E (view p v) p.p.o).bind fun y=>if (gv E.dp p.nk y&&okB E.dp p.nb y&&p.cs.isEmpty)=true then some ⟨(e,eV p.p.fz y)::v.fr,v.bx,v.hp⟩ else none else if p.cs.isEmpty=true then some ⟨(e,.sk)::v.fr,v.bx,v.hp⟩ else none)
 else O0 E v p.p
theorem RF{v:St}{p:br}(hd:p.p.d=some e)(h:HW E (view p v) p.p.o=some y)(hr:(gv E.dp p.nk y&&okB E.dp p.nb y&&p.cs.isEmpty)=true):calm (view p v) p.p.o=true∧jx (call G Ω0) Ω0 E p (view p v)=some ⟨[(e,eV p.p.fz y)],[],[],none⟩:=by
 simp only [aC,List.isEmpty_iff] at hr
 obtain ⟨h3,h4⟩:=OZ (d:=p.p.d) h
 obtain ⟨a1,a2,a3⟩:=JP (E:=E) h3 hr.2
 refine ⟨h3,?_⟩
 unfold jx
 rw [ab (by simp only [a1,a2];rfl),h4]
 simp only [ad]
 rw [ab (by simp only [hr.1.1,hr.1.2];rfl),a3,hd];rfl
theorem afO{v v1:St}{p:br}(h:RE E v p=some v1):US v p=true∧dF (call G Ω0) Ω0 E v p=some v1:=by
 unfold RE at h
 unfold US dF
 cases hl:p.lt with
 | false=>
  rw [hl,aa (by simp)] at h
  rw [aa (by simp),aa (by simp)]
  exact UT h
 | true=>
  rw [hl,ab rfl] at h
  rw [ab rfl,ab rfl]
  unfold dy
  split at h
  ·cases h
  ·rename_i e he
   split at h
   ·rename_i hg
    obtain ⟨y,h1,h2⟩:=ah.1 h
    split at h2
    ·rename_i hr
     obtain rfl:=af h2
     obtain ⟨c1,c2⟩:=RF he h1 hr
     simp only [aC] at hr
     rw [hg]
     simp only [hr.2,c1,c2,mQ,ad]
     exact ⟨trivial,rfl⟩
    ·cases h2
   ·rename_i j w hg
    obtain ⟨b,h0,h⟩:=ah.1 h
    rw [hg]
    simp only [h0,ad]
    cases b with
    | true=>
     rw [ab rfl] at h
     obtain ⟨y,h1,h2⟩:=ah.1 h
     split at h2
     ·rename_i hr
      obtain rfl:=af h2
      obtain ⟨c1,c2⟩:=RF he h1 hr
      simp only [aC] at hr
      simp only [hr.2,c1,c2,az,BL,mQ,ad]
      exact ⟨trivial,rfl⟩
     ·cases h2
    | false=>
     rw [aa (by simp)] at h
     split at h
     ·rename_i hr
      obtain rfl:=af h
      refine ⟨by rw [hr];rfl,?_⟩
      simp only [bU,bB,ad,he]
      rfl
     ·cases h
theorem wk{v v1:St}{p:br}{ps:List br}(h:RE E v p=some v1)(h2:∃ s1,wi E v1 ps=some s1∧Q s1):∃ s1,wi E v (p::ps)=some s1∧Q s1:=by
 obtain ⟨s1,h3,h4⟩:=h2
 obtain ⟨h5,h6⟩:=afO h
 refine ⟨s1,?_,h4⟩
 unfold wi
 rw [ab h5,h6];exact h3
theorem wm(h:Q v):∃ s1,wi E v []=some s1∧Q s1:=⟨v,rfl,h⟩
end
section
variable {E:Env}{x y:AC}{st st1:St}{P:aN×St→Prop}
def Nx(E:Env)(x:AC)(st:St)(P:aN×St→Prop):Prop:=∃ q,run G Ω0 E x st=some q∧P q
theorem cR(h:run G Ω0 E x st=some (.nrm,st1))(hp:P (.nrm,st1)):Nx E x st P:=⟨_,h,hp⟩
theorem bI(h:Nx E x st fun q=>match q.1 with
  | .nrm=>Nx E y q.2 P
  | _=>P q):Nx E (.sq x y) st P:=by
 obtain ⟨⟨e,s⟩,h1,h2⟩:=h
 cases e with
 | nrm=>
  obtain ⟨q,h3,h4⟩:=h2
  exact ⟨q,aj h1 h3,h4⟩
 | ret=>exact ⟨_,xp h1,h2⟩
 | ex i=>exact ⟨_,iu h1,h2⟩
theorem B0{i:Nat}(h:Nx E x st fun q=>match q.1 with
  | .ex j=>if j=i then P (.nrm,q.2) else P q
  | _=>P q):Nx E (.bl i x) st P:=by
 obtain ⟨⟨e,s⟩,h1,h2⟩:=h
 unfold Nx
 rw [n4,h1]
 cases e with
 | nrm=>exact ⟨_,rfl,h2⟩
 | ret=>exact ⟨_,rfl,h2⟩
 | ex j=>
  simp only [ad,inBlock]
  simp only at h2
  by_cases e:j=i
  ·rw [ab e] at h2 ⊢;exact ⟨_,rfl,h2⟩
  ·rw [aa e] at h2 ⊢;exact ⟨_,rfl,h2⟩
theorem jW{c:aY}(b:Bool)(h:qA (st.ev c)=some b)(ht:b=true→Nx E x st P)(hf:b=false→Nx E y st P):Nx E (.ite c x y) st P:=by
 cases b with
 | true=>obtain ⟨q,h1,h2⟩:=ht rfl;exact ⟨q,bT h h1,h2⟩
 | false=>obtain ⟨q,h1,h2⟩:=hf rfl;exact ⟨q,ba h h1,h2⟩
theorem qh(h:Nx E x (st.aG kf kb) P):Nx E (.kp kf kb x) st P:=by
 obtain ⟨q,h1,h2⟩:=h
 exact ⟨q,di h1,h2⟩
theorem ob(h:P (.nrm,st)):Nx E .sk st P:=⟨_,bh _ _,h⟩
theorem oP(h:P (.ret,st)):Nx E .rt st P:=⟨_,cQ _ _,h⟩
theorem S8{c:bb}{q:aN×St}(h:fH G Ω0 E c (st.aG c.kf c.kb)=some q)(hp:P q):Nx E c.lp st P:=⟨q,by rw [dL];exact h,hp⟩
theorem Ln{f:FuncId}{fn:bE}{hp hp':HP}{z:bH}{st:St}(hG:G f=some fn)(h:Nx E fn.code ⟨jy 0 args,[],hp⟩ fun q=>q=(.ret,st))(he:st.end_ E fn.res=some z)(hh:st.hp=hp'):call G Ω0 E f args hp=some (z,hp'):=by
 obtain ⟨q,h1,rfl⟩:=h
 exact dS hG h1 he hh
theorem O1{q:aN×St}(h:Nx E x st fun r=>r=q):run G Ω0 E x st=some q:=by
 obtain ⟨_,h1,rfl⟩:=h
 exact h1
end
variable [Lp]
attribute [local simp] gp execOp okB gv df fT pJ iZ ir ft St.end_ St.fU List.filter
noncomputable def ixF{β:Type}(φ:β→Option Bool)(es:List β):Option Int:=(lp (fun v=>zO φ es v) 0).bind fun (x1:(Nat⊕(Nat×Bool)))=>match x1 with
 | .inl z=>some (z:Int)
 | .inr _=>some (-1)
noncomputable def O2{β:Type}(φ:β→Option Bool)(es:List β):Option Bool:=(ixF φ es).bind fun (r1:Int)=>some (decide (0≤r1))
def UW(n:Nat)(ld:Option Nat):bb:=⟨[0,1,7,8],[],(.sq (.rg [] [gp 9 (.bo .lss false (.t 8) (.t 7))] [0,1,7,8,9] []) (.sq (.ite (.t 9) .sk (.ex 0)) (.kp [0,1,7,8] []
 (.sq (.bl 1 (.sq (.rg [] [gp 10 (.mv (.t 8)),gp 5 (.as (.t 10))] [0,1,5,7,8] []) (.sq (.rg [] [gp 11 (.mv (.t 1)),gp 12 (.mv (.t 0)),gp 13 (.mv (.t 5)),gp 14 (.ia n none (.t 12) (.t 13)),gp 15 (.ld ld (.t 14)),gp 16 (.d2 (.t 11) [(.t 15)])] [0,1,5,7,8,16] [])
  (.ite (.t 16) (.sq (.rg [] [gp 17 (.mv (.t 5)),gp 4 (.as (.t 17))] [4] []) .rt) .sk)))) (.rg [] [gp 18 (.bo .add false (.t 8) (.c (.i .i64 1))),gp 8 (.mv (.t 18))] [0,1,7,8] [])))))⟩
def YR(n:Nat)(ld:Option Nat):bE:=⟨(.sq (.rg [] [gp 4 (.as (.c (.i .i64 0)))] [0,1] []) (.sq (.sq (.rg [] [gp 6 (.mv (.t 0)),gp 7 (.ln false (.t 6)),gp 8 (.mv (.c (.i .i64 0)))] [0,1,7,8] []) (.bl 0 (UW n ld).lp)) (.sq (.rg [] [gp 4 (.as (.c (.i .i64 (-1))))] [4] []) .rt))),[.t 4]⟩
theorem MF{x:AV}(h:x.pure=true):x.cL=true:=by cases x<;>first | rfl | exact h
theorem JQ:∀ {cs:List AV},AV.aX cs=true→cs.all AV.cL=true
 | [],_=>rfl
 | c::cs,h=>by
  simp only [AV.aX,aC] at h
  rw [vu,MF h.1,JQ h.2];rfl
def amJ(n:Nat)(ld:Option Nat)(x:AV):Prop:=x.pure=true∧match ld with
 | some k=>k=n∧∃ cs,x= .a cs∧cs.length=n
 | none=>n=1∧(x.cl=[x]∧x.one=true)
section
variable {β:Type}{f g:FuncId}{n:Nat}{ld:Option Nat}{t:TypeId}{enc:β→AV}{B:List AV}{φ:β→Option Bool}
abbrev wq(t:TypeId)(enc:β→AV)(g:FuncId)(B:List AV)(es:List β)(k:Nat):St:=⟨[(0,.l t (es.map enc)),(1,.f g B),(7,I es.length),(8,I k)],[],H0⟩
abbrev xIx(t:TypeId)(enc:β→AV)(g:FuncId)(B:List AV)(es:List β)(x:Nat⊕(Nat×Bool)):aN×St:=match x with
 | .inl z=>(.ret,⟨[(4,I z)],[],H0⟩)
 | .inr (z1,z2)=>(.ex 0,⟨[(0,.l t (es.map enc)),(1,.f g B),(7,I es.length),(8,I z1),(9,.b z2)],[],H0⟩)
variable (hg:g<1000000)(he:∀ y,amJ n ld (enc y))(hc:AV.aX B=true)(hf:∀ y r,φ y=some r→call G Ω0 E0 g (enc y::B) H0=some (.ret (.b r),H0))
include hg he hc hf
set_option maxHeartbeats 8000000 in
theorem afQ{es:List β}{k:Nat}(hk:k<es.length){b:Bool}(hb:φ es[k]=some b) :
  run G Ω0 E0 (.rg [] [gp 11 (.mv (.t 1)),gp 12 (.mv (.t 0)),gp 13 (.mv (.t 5)),gp 14 (.ia n none (.t 12) (.t 13)),gp 15 (.ld ld (.t 14)),gp 16 (.d2 (.t 11) [(.t 15)])] [0,1,5,7,8,16] []) ⟨[(0,.l t (es.map enc)),(1,.f g B),(5,I k),(7,I es.length),(8,I k)],[],H0⟩=
   some (.nrm,⟨[(0,.l t (es.map enc)),(1,.f g B),(5,I k),(7,I es.length),(8,I k),(16,.b b)],[],H0⟩):=by
 obtain ⟨h1,h2⟩:=he es[k]
 have hA:=aZ (E:=E0) (hf _ _ hb) (by simp [AV.aX,h1,hc]) (by simp)
 have h5:=MF h1
 have h6:=eq_true (cJ.1 (JQ hc))
 have hx:(es.map enc)[k]? =some (enc es[k]):=by simp [hk]
 generalize enc es[k]=x at *
 cases ld with
 | none=>
  obtain ⟨rfl,h3,h4⟩:=h2
  simp only [AV.cl] at h3
  simp [-aF,-List.getElem?_map,hx,h3,bC,h5,h6,hA,hg]
 | some q=>
  obtain ⟨rfl,cs,rfl,h3⟩:=h2
  have h7:cs.take q=cs:=jL (by omega)
  simp [-aF,-List.getElem?_map,hx,bC,h5,h6,hA,hg,h3,h7]
theorem Zp{es:List β}{k:Nat}{o:Nat⊕(Nat⊕(Nat×Bool))}(ho:zO φ es k=some o):bO E0 (UW n ld) (wq t enc g B es) (xIx t enc g B es) k o:=by
 unfold zO at ho
 by_cases hk:(k:Int)<(es.length:Int)
 ·rw [ab hk] at ho
  have H:k<es.length:=by omega
  rw [aP H,ad] at ho
  obtain ⟨b,hb,ho⟩:=ah.1 ho
  have hA:=afQ (t:=t) hg he hc hf H hb
  cases b with
  | true=>
   obtain rfl:=af ho
   refine ⟨?_,by simp⟩
   apply aj (by simp [H];rfl)
   apply aj
   ·apply bT (by simp)
    exact bh _ _
   apply di
   apply xp
   apply AW
   apply aj (by simp;rfl)
   apply aj hA
   apply bT (by simp)
   apply aj (by simp;rfl)
   exact cQ _ _
  | false=>
   rw [aa (by simp)] at ho
   split at ho
   ·rename_i hw
    obtain rfl:=af ho
    have hr:run G Ω0 E0 (UW n ld).x (wq t enc g B es k)=some (.nrm,wq t enc g B es (k+1)):=by
     apply aj (by simp [H];rfl)
     apply aj
     ·apply bT (by simp)
      exact bh _ _
     apply di
     apply aj
     ·apply dI
      apply aj (by simp;rfl)
      apply aj hA
      apply ba (by simp)
      exact bh _ _
     simp [hw]
    show (run G Ω0 E0 (UW n ld).x (wq t enc g B es k)).bind _=_
    rw [hr];rfl
   ·cases ho
 ·rw [aa hk] at ho
  obtain rfl:=af ho
  refine ⟨?_,by simp⟩
  apply aj (st1:=⟨[(0,.l t (es.map enc)),(1,.f g B),(7,I es.length),(8,I k),(9,.b (decide ((k:Int)<(es.length:Int))))],[],H0⟩) (by simp)
  apply iu
  apply ba (by simp;omega)
  exact dR _ _ _
theorem Zq{es:List β}{r:Int}(hG:G f=some (YR n ld))(h:ixF φ es=some r):call G Ω0 E0 f [.l t (es.map enc),.f g B] H0=some (.ret (I r),H0):=by
 obtain ⟨x,hx,h⟩:=ah.1 h
 have hL:=Ro (UW n ld) (wq t enc g B es) (xIx t enc g B es) (fun _=>rfl) (fun k o ho=>Zp (t:=t) hg he hc hf ho) hx
 rcases x with z | z
 ·obtain rfl:=af h
  apply dS hG
  ·apply aj (by simp;rfl)
   apply xp
   apply aj (by simp;rfl)
   apply AW
   rw [dL]
   exact hL
  ·simp [YR]
  ·rfl
 ·obtain rfl:=af h
  apply dS hG
  ·apply aj (by simp;rfl)
   apply aj
   ·apply aj (by simp;rfl)
    apply lu
    rw [dL]
    exact hL
   apply aj (by simp;rfl)
   exact cQ _ _
  ·simp [YR]
  ·rfl
def anC(i:FuncId):bE:=⟨(.sq (.rg [] [gp 4 (.as (.c (.b false)))] [0,1] []) (.sq (.rg [] [gp 5 (.mv (.t 0)),gp 6 (.mv (.t 1)),gp 7 (.c2 i [(.t 5),(.t 6)]),gp 8 (.bo .geq false (.t 7) (.c (.i .i64 0))),gp 4 (.as (.t 8))] [4] []) .rt)),[.t 4]⟩
theorem Ar{i:FuncId}{es:List β}{r:Bool}(hG:G i=some (anC f))(hF:G f=some (YR n ld))(h:O2 φ es=some r):call G Ω0 E0 i [.l t (es.map enc),.f g B] H0=some (.ret (.b r),H0):=by
 obtain ⟨x,hx,h⟩:=ah.1 h
 obtain rfl:=af h
 have hp:AV.aX [.l t (es.map enc),.f g B]=true:=by
  simp [AV.aX,AV.pure,hc]
 have hA:=aZ (E:=E0) (Zq (t:=t) hg he hc hf hF hx) hp (by simp)
 apply dS hG
 ·apply aj (by simp;rfl)
  apply aj (by simp [-aF,bC,hA,AV.cL,hc];rfl)
  exact cQ _ _
 ·simp [anC]
 ·rfl
end
end Go.Proofs.YtkkkkondjclcnaaGreat.A
