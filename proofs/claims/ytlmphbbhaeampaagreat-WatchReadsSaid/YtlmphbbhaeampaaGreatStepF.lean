/- Steps of an abstract run, one after the other; loops that count; regions cut in parts: what is not looked at again is forgotten between them. -/
import Derived.Test.YtlmphbbhaeampaaGreatBase
import Derived.Test.YtlmphbbhaeampaaGreatAbsH
set_option linter.all false
set_option maxRecDepth 100000
namespace Go.Proofs.YtlmphbbhaeampaaGreat.A
open Go
variable [Lp]
variable {args:List AV}
theorem mi{E:Env}{f:FuncId}{r:AV}(h:call G Ω0 ⟨0,false⟩ f args (fun _=>none)=some (.ret r,fun _=>none))(hp:AV.bJ args=true)(hr:r.pure=true)(st:St):
  dj (call G Ω0) Ω0 E st 0 f args=some (r,st):=by
 unfold dj
 simp only [D2 _ _ hp,ad,h,hr]
 rfl
section
variable {E:Env}{x y:AC}{st st1:St}{r:Option (bh×St)}
theorem aN(h1:run G Ω0 E x st=some (.nrm,st1))(h2:run G Ω0 E y st1=r):run G Ω0 E (.sq x y) st=r:=by rw [nq,h1];exact h2
theorem D5(h1:run G Ω0 E x st=some (.ret,st1)):run G Ω0 E (.sq x y) st=some (.ret,st1):=by rw [nq,h1];rfl
theorem tT{id:Nat}(h1:run G Ω0 E x st=some (.ex id,st1)):run G Ω0 E (.sq x y) st=some (.ex id,st1):=by rw [nq,h1];rfl
theorem jH{c:bz}(h:pB (st.ev c)=some true)(h2:run G Ω0 E x st=r):run G Ω0 E (.ite c x y) st=r:=by rw [run_ite,h];exact h2
theorem gv{c:bz}(h:pB (st.ev c)=some false)(h2:run G Ω0 E y st=r):run G Ω0 E (.ite c x y) st=r:=by rw [run_ite,h];exact h2
theorem tU{id:Nat}(h1:run G Ω0 E x st=some (.nrm,st1)):run G Ω0 E (.bl id x) st=some (.nrm,st1):=by rw [qI,h1];rfl
theorem Gd{id:Nat}(h1:run G Ω0 E x st=some (.ret,st1)):run G Ω0 E (.bl id x) st=some (.ret,st1):=by rw [qI,h1];rfl
theorem Cp{id:Nat}(h1:run G Ω0 E x st=some (.ex id,st1)):run G Ω0 E (.bl id x) st=some (.nrm,st1):=by rw [qI,h1];simp only [ad,inBlock,aA]
theorem pW{kf kb:List Nat}(h:run G Ω0 E x (st.bB kf kb)=r):run G Ω0 E (.kp kf kb x) st=r:=by rw [kC];exact h
theorem D6{s1 s2:St} : ∀ (n:Nat){ops:List bR}{s:St},kM (call G Ω0) Ω0 E s (ops.take n)=some s1→kM (call G Ω0) Ω0 E s1 (ops.drop n)=some s2→kM (call G Ω0) Ω0 E s ops=some s2
 | 0,ops,s,h1,h2=>by obtain rfl:=ah h1;exact h2
 | n+1,[],s,h1,h2=>by obtain rfl:=ah h1;exact h2
 | n+1,p::ps,s,h1,h2=>by
  obtain ⟨s3,h3,h4⟩:=aj.1 h1
  exact aj.2 ⟨s3,h3,D6 n h4 h2⟩
theorem Cq(n:Nat){pre:List wy}{mks:List Nat}{ops:List bR}{kf kb:List Nat}{st st1 s1 s2 s3:St}(h0:sw E st pre=some st1)(hm:(mks.all (jg E.dp st1)&&ops.all (lM E.dp st1))=true)(h1:kM (call G Ω0) Ω0 E st1 (ops.take n)=some s1)(h2:kM (call G Ω0) Ω0 E s1 (ops.drop n)=some s2)(h3:s2.bB kf kb=s3) :
  run G Ω0 E (.dg pre mks ops kf kb) st=some (.nrm,s3):=by
 rw [GX,h0,ad,af hm,D6 n h1 h2,ad,h3]
theorem qQ{f:FuncId}{fn:bL}{hp C:HP}{z:bA}(hG:G f=some fn)(h:run G Ω0 E fn.code ⟨kq 0 args,[],hp⟩=some (.ret,st))(he:st.end_ E fn.res=some z)(hh:st.hp=C):call G Ω0 E f args hp=some (z,C):=by
 rw [pP,hG,ad,h];simp only [ad,he,hh]
theorem Ml{f:FuncId}{fn:bL}{hp C:HP}{z:bA}(hG:G f=some fn)(h:run G Ω0 E fn.code ⟨kq 0 args,[],hp⟩=some (.nrm,st))(he:st.end_ E fn.res=some z)(hh:st.hp=C):call G Ω0 E f args hp=some (z,C):=by
 rw [pP,hG,ad,h];simp only [ad,he,hh]
end
theorem J9{E:Env}{s1 s2:St} : ∀ (n:Nat){ops:List dx}{s:St},iL (call G Ω0) Ω0 E s (ops.take n)=some s1→iL (call G Ω0) Ω0 E s1 (ops.drop n)=some s2→iL (call G Ω0) Ω0 E s ops=some s2
 | 0,ops,s,h1,h2=>by obtain rfl:=ah h1;exact h2
 | n+1,[],s,h1,h2=>by obtain rfl:=ah h1;exact h2
 | n+1,p::ps,s,h1,h2=>by
  obtain ⟨s3,h3,h4⟩:=aj.1 h1
  exact aj.2 ⟨s3,h3,J9 n h4 h2⟩
structure Sub(v s:St):Prop where
 fr:∀ d,az v.fr d= .u∨az v.fr d=az s.fr d
 bx:v.bx=s.bx
 hp:v.hp=s.hp
section
variable {v s v':St}{E:Env}
abbrev b0:cj:=⟨0,fun _=>true⟩
theorem Sub.le(h:Sub v s)(dp:Nat):Le dp v s:=⟨h.fr,fun k cs hb=>by simp only [St.box,h.bx,h.hp] at hb ⊢;exact hb⟩
theorem Sub.ev(h:Sub v s){x:bz}(hx:v.ev x≠.u):s.ev x=v.ev x:=haveI:=b0;Le.ev (E:=⟨0,false⟩) (h.le 0) rfl hx
theorem Sub.z8(h:Sub v s){xs:List bz}(hx:∀ x∈xs,v.ev x≠.u):xs.map s.ev=xs.map v.ev:=haveI:=b0;Le.map (E:=⟨0,false⟩) (h.le 0) hx
def calm(v:St):pC→Bool
 | .as x=>(v.ev x).copy
 | .mv x=>!A0 (v.ev x)
 | .c3 _ _=>true
 | o=>qk o
theorem Mm{d:Option Nat}{o:pC}{r:AV×St}(h:Sub v s)(hc:calm v o=true)(he:execOp (call G Ω0) Ω0 E v d o=some r):r.2=v∧execOp (call G Ω0) Ω0 E s d o=some (r.1,s):=by
 haveI:=b0
 have hL:=h.le E.dp
 cases o with
 | as x=>
  have H:(v.ev x).copy=true:=hc
  have hx:=h.ev (wF H)
  cases x with
  | c y=>
   simp only [execOp] at he ⊢
   split at he
   ·rename_i hp
    obtain rfl:=ah he
    exact ⟨rfl,af hp⟩
   ·cases he
  | t n=>
   have hx:az s.fr n=az v.fr n:=hx
   have H:(az v.fr n).copy=true:=H
   simp only [execOp] at he ⊢
   rw [hx]
   cases hf:az v.fr n<;>rw [hf] at he H<;>simp only [AV.copy,dq] at H<;>simp only [AV.copy,Bool.true_or,aA] at he ⊢<;>first | (obtain rfl:=ah he;exact ⟨rfl,rfl⟩) | (simp only [H,Bool.true_or,aA] at he ⊢;obtain rfl:=ah he;exact ⟨rfl,rfl⟩)
 | c3 f args=>
  simp only [execOp] at he ⊢
  unfold kd at he ⊢
  split at he
  ·rename_i hp
   simp only [aL] at hp
   have ha:args.map s.ev=args.map v.ev:=h.z8 fun x hx=>wF (cI.1 hp.1 _ (wk hx))
   have hb:(fun k=>s.box E.dp k)=fun k=>v.box E.dp k:=by funext k;simp only [St.box,h.bx,h.hp]
   obtain ⟨⟨q,hq⟩,h1,h2⟩:=aj.1 he
   rw [ha,←h.bx,af (by simp only [aL];exact hp),hb,h1]
   simp only [ad] at h2 ⊢
   cases q with
   | ret x=>
    simp only at h2 ⊢
    split at h2
    ·rename_i hx
     obtain rfl:=ah h2
     exact ⟨rfl,af hx⟩
    ·cases h2
   | _=>cases h2
  ·cases he
 | mv x=>exact Lg hL rfl hc he
 | st _ _ _=>cases hc
 | ap _ _ _ _ _=>cases hc
 | _=>exact Lg hL hc rfl he
def Mn(v:St)(g:dx):Bool:=
 match g.g with
 | none=>calm v g.o
 | some (j,w)=>!(xm (az v.fr j) w==some true)||calm v g.o
noncomputable def xK(E:Env):St→List dx→Option St
 | v,[]=>some v
 | v,g::gs=>if Mn v g=true then (ix (call G Ω0) Ω0 E v g).bind fun v'=>xK E v' gs else none
theorem Sub.put(h:Sub v s)(d:Option Nat)(x:AV):Sub (put v d x) (put s d x):=by
 cases d with
 | none=>exact h
 | some d=>
  refine ⟨fun k=>?_,h.bx,h.hp⟩
  show az ((d,x)::v.fr) k= .u∨az ((d,x)::v.fr) k=az ((d,x)::s.fr) k
  unfold az
  by_cases e:d=k
  ·rw [af e,af e];exact .inr rfl
  ·rw [ab e,ab e];exact h.fr k
theorem Vq{g:dx}(h:Sub v s)(hc:Mn v g=true)(he:ix (call G Ω0) Ω0 E v g=some v'):∃ s',ix (call G Ω0) Ω0 E s g=some s'∧Sub v' s':=by
 have run:calm v g.o=true→∀ w,(execOp (call G Ω0) Ω0 E v g.d g.o).bind (fun r=>some (A.put r.2 g.d (fg g.fz r.1)))=some w→∃ s',(execOp (call G Ω0) Ω0 E s g.d g.o).bind (fun r=>some (A.put r.2 g.d (fg g.fz r.1)))=some s'∧Sub w s':=by
  intro L w hw
  obtain ⟨r,h1,h2⟩:=aj.1 hw
  obtain ⟨h3,h4⟩:=Mm h L h1
  obtain rfl:=ah h2
  rw [h4,h3]
  exact ⟨_,rfl,h.put _ _⟩
 unfold ix at he ⊢
 unfold Mn at hc
 cases hg:g.g with
 | none=>rw [hg] at he hc;exact run hc _ he
 | some q=>
  obtain ⟨j,w⟩:=q
  rw [hg] at he hc
  simp only at he hc ⊢
  obtain ⟨y,h1,h2⟩:=aj.1 he
  have hj:az s.fr j=az v.fr j:=by
   rcases h.fr j with e | e
   ·rw [e] at h1;cases h1
   ·exact e.symm
  rw [hj,h1]
  simp only [ad]
  cases y with
  | true=>
   rw [af rfl] at h2 ⊢
   refine run ?_ _ h2
   rw [h1] at hc
   simpa using hc
  | false=>
   rw [ab (by simp)] at h2 ⊢
   obtain rfl:=ah h2
   exact ⟨_,rfl,h.put _ _⟩
theorem IX:∀ {gs:List dx}{v s v':St},Sub v s→xK E v gs=some v'→∃ s',iL (call G Ω0) Ω0 E s gs=some s'∧Sub v' s'
 | [],v,s,v',h,he=>by
  obtain rfl:=ah he
  exact ⟨s,rfl,h⟩
 | g::gs,v,s,v',h,he=>by
  unfold xK at he
  split at he
  ·rename_i hc
   obtain ⟨v1,h1,h2⟩:=aj.1 he
   obtain ⟨s1,h3,h4⟩:=Vq h hc h1
   obtain ⟨s2,h5,h6⟩:=IX h4 h2
   exact ⟨s2,aj.2 ⟨s1,h3,h5⟩,h6⟩
  ·cases he
theorem P8{fr:List (Nat×AV)}{ks:List Nat}(d:Nat):az (eD fr ks) d= .u∨az (eD fr ks) d=az fr d:=by
 induction ks with
 | nil=>exact .inl rfl
 | cons k ks ih=>
  show az ((k,az fr k)::eD fr ks) d= .u∨az ((k,az fr k)::eD fr ks) d=az fr d
  rw [az]
  by_cases e:k=d
  ·subst e;rw [af rfl];exact .inr rfl
  ·rw [ab e];exact ih
theorem Mo(s:St)(ks:List Nat):Sub ⟨eD s.fr ks,s.bx,s.hp⟩ s:=⟨fun d=>P8 d,rfl,rfl⟩
theorem Sub.trans{a b c:St}(h:Sub a b)(h':Sub b c):Sub a c:=⟨fun d=>by
 rcases h.fr d with e | e
 ·exact .inl e
 ·rw [e];exact h'.fr d,h.bx.trans h'.bx,h.hp.trans h'.hp⟩
theorem Ka{kf kb:List Nat}(h:Sub v s)(hu:(eD v.fr kf).all (fun x=>!A0 x.2)=true):s.bB kf kb=v.bB kf kb:=by
 unfold St.bB
 rw [←h.bx,←h.hp]
 have:eD s.fr kf=eD v.fr kf:=by
  unfold eD at hu ⊢
  refine sK fun k hk=>?_
  have h1:=cI.1 hu (k,az v.fr k) (wk (f:=fun k=>(k,az v.fr k)) hk)
  rcases h.fr k with e | e
  ·rw [e] at h1;cases h1
  ·rw [e]
 rw [this]
def Fw(E:Env)(v:St)(gs:List dx)(kf kb:List Nat)(z:St):Prop:=∀ s,Sub v s→∃ s',iL (call G Ω0) Ω0 E s gs=some s'∧s'.bB kf kb=z
theorem D7{gs:List dx}{kf kb:List Nat}{z v1:St}(n:Nat)(ks:List Nat)(F:∃ s1,xK E v (gs.take n)=some s1∧(⟨eD s1.fr ks,s1.bx,s1.hp⟩:St)=v1)(h3:Fw E v1 (gs.drop n) kf kb z):Fw E v gs kf kb z:=by
 intro s hs
 obtain ⟨s1,h1,h2⟩:=F
 obtain ⟨s2,h4,h5⟩:=IX hs h1
 obtain ⟨s3,h6,h7⟩:=h3 s2 ((h2▸Mo s1 ks).trans h5)
 refine ⟨s3,?_,h7⟩
 exact J9 n h4 h6
theorem adl{gs:List dx}{kf kb:List Nat}{z:St}(F:∃ s1,xK E v gs=some s1∧s1.bB kf kb=z)(h3:z.fr.all (fun x=>!A0 x.2)=true):Fw E v gs kf kb z:=by
 intro s hs
 obtain ⟨s1,h1,h2⟩:=F
 obtain ⟨s2,h4,h5⟩:=IX hs h1
 subst h2
 exact ⟨s2,h4,Ka h5 h3⟩
theorem afH{pre:List wy}{gs:List dx}{kf kb:List Nat}{st st1 z:St}(h0:sw E st pre=some st1)(h:Fw E st1 gs kf kb z):run G Ω0 E (.rg pre gs kf kb) st=some (.nrm,z):=by
 obtain ⟨s,h1,h2⟩:=h st1 ⟨fun _=>.inr rfl,rfl,rfl⟩
 rw [yk,h0,ad,h1,ad,h2]
def R8(v:St)(p:bR):Bool:=
 if p.lt=true then p.cs.isEmpty&&(match p.p.g with
  | none=>calm (view p v) p.p.o
  | some (j,w)=>!(xm (az v.fr j) w==some true)||calm (view p v) p.p.o)
 else Mn v p.p
noncomputable def tV(E:Env):St→List bR→Option St
 | v,[]=>some v
 | v,p::ps=>if R8 v p=true then (eH (call G Ω0) Ω0 E v p).bind fun v'=>tV E v' ps else none
theorem Sub.view(h:Sub v s)(p:bR):Sub (view p v) (view p s):=by
 refine ⟨fun d=>?_,?_,?_⟩
 ·show az (eD v.fr p.vw) d= .u∨az (eD v.fr p.vw) d=az (eD s.fr p.vw) d
  induction p.vw with
  | nil=>exact .inl rfl
  | cons k ks ih=>
   show az ((k,az v.fr k)::eD v.fr ks) d= .u∨az ((k,az v.fr k)::eD v.fr ks) d=az ((k,az s.fr k)::eD s.fr ks) d
   rw [az,az]
   by_cases e:k=d
   ·rw [af e,af e];exact h.fr k
   ·rw [ab e,ab e];exact ih
 ·show dF v.bx _=dF s.bx _
  rw [h.bx]
 ·show (if p.vh=true then v.hp else _)=if p.vh=true then s.hp else _
  rw [h.hp]
theorem Sub.calm(h:Sub v s){o:pC}(hc:calm v o=true):A.calm s o=true:=by
 haveI:=b0
 cases o with
 | as x=>have h1:(v.ev x).copy=true:=hc;show (s.ev x).copy=true;rw [h.ev (wF h1)];exact h1
 | mv x=>
  have h1:(!A0 (v.ev x))=true:=hc
  show (!A0 (s.ev x))=true
  rw [h.ev (fun e=>by rw [e] at h1;cases h1)];exact h1
 | _=>exact hc
theorem HC{p:bR}{v:St}(hc:calm v p.p.o=true)(D:p.cs=[]):me v p.p.o=true∧gj E.dp p v=true∧∀ r,effect p r=⟨ke p.p.d (fg p.p.fz r.1),[],[],none⟩:=by
 obtain ⟨⟨d,o,g,fz⟩,lt,vw,vb,vh,cs,nk,nb⟩:=p
 simp only at hc D
 subst D
 cases o<;>first | (cases hc;done) | exact ⟨by first | exact hc | rfl,rfl,fun r=>by simp [effect]⟩
theorem Mp{p:bR}{q:cq}(h:Sub v s)(hc:calm (view p v) p.p.o=true)(D:p.cs=[])(he:jL (call G Ω0) Ω0 E p (view p v)=some q):jL (call G Ω0) Ω0 E p (view p s)=some q∧∃ x,q=⟨ke p.p.d x,[],[],none⟩:=by
 have hw:=h.view p
 obtain ⟨a1,a2,a3⟩:=HC (E:=E) (hw.calm hc) D
 unfold jL at he ⊢
 split at he
 ·obtain ⟨r,h1,h2⟩:=aj.1 he
  obtain ⟨h3,h4⟩:=Mm hw hc h1
  rw [af (by simp only [a1,a2];rfl),h4]
  simp only [ad]
  split at h2
  ·rename_i K
   obtain rfl:=ah h2
   rw [af K,a3,a3]
   exact ⟨rfl,_,rfl⟩
  ·cases h2
 ·cases he
theorem Sub.app(h:Sub v s)(d:Option Nat)(x:AV):Sub ((⟨ke d x,[],[],none⟩:cq).app v) ((⟨ke d x,[],[],none⟩:cq).app s):=by
 cases d with
 | none=>exact ⟨h.fr,h.bx,h.hp⟩
 | some d=>exact h.put (some d) x
theorem afI{p:bR}(h:Sub v s)(hc:R8 v p=true)(he:eH (call G Ω0) Ω0 E v p=some v'):∃ s',eH (call G Ω0) Ω0 E s p=some s'∧Sub v' s':=by
 unfold R8 at hc
 unfold eH at he ⊢
 cases hl:p.lt with
 | false=>
  rw [hl,ab (by simp)] at hc he
  rw [ab (by simp)]
  exact Vq h hc he
 | true=>
  rw [hl,af rfl] at hc he
  rw [af rfl]
  obtain ⟨q,h1,h2⟩:=aj.1 he
  obtain rfl:=ah h2
  simp only [aL,List.isEmpty_iff] at hc
  obtain ⟨D,hc⟩:=hc
  have fin:∀ x,q=⟨ke p.p.d x,[],[],none⟩→eG (call G Ω0) Ω0 E p s=some q→∃ s',(eG (call G Ω0) Ω0 E p s).bind (fun q=>some (q.app s))=some s'∧Sub (q.app v) s':=by
   rintro x rfl hp
   rw [hp]
   exact ⟨_,rfl,h.app _ _⟩
  unfold eG at h1
  cases hg:p.p.g with
  | none=>
   rw [hg] at h1 hc
   obtain ⟨g1,x,g2⟩:=Mp h hc D h1
   refine fin x g2 ?_
   unfold eG
   rw [hg];exact g1
  | some w=>
   obtain ⟨j,w⟩:=w
   rw [hg] at h1 hc
   simp only at h1 hc
   obtain ⟨y,h3,h4⟩:=aj.1 h1
   have hj:az s.fr j=az v.fr j:=by
    rcases h.fr j with e | e
    ·rw [e] at h3;cases h3
    ·exact e.symm
   cases y with
   | true=>
    rw [af rfl] at h4
    rw [h3] at hc
    obtain ⟨g1,x,g2⟩:=Mp h (by simpa using hc) D h4
    refine fin x g2 ?_
    unfold eG
    rw [hg]
    simp only [hj,h3,ad,aA]
    exact g1
   | false=>
    rw [ab (by simp)] at h4
    obtain rfl:=ah h4
    refine fin .sk rfl ?_
    unfold eG
    rw [hg]
    simp only [hj,h3,ad,dq,cF]
theorem Mq:∀ {gs:List bR}{v s v':St},Sub v s→tV E v gs=some v'→∃ s',kM (call G Ω0) Ω0 E s gs=some s'∧Sub v' s'
 | [],v,s,v',h,he=>by
  obtain rfl:=ah he
  exact ⟨s,rfl,h⟩
 | g::gs,v,s,v',h,he=>by
  unfold tV at he
  split at he
  ·rename_i hc
   obtain ⟨v1,h1,h2⟩:=aj.1 he
   obtain ⟨s1,h3,h4⟩:=afI h hc h1
   obtain ⟨s2,h5,h6⟩:=Mq h4 h2
   exact ⟨s2,aj.2 ⟨s1,h3,h5⟩,h6⟩
  ·cases he
def Vr(E:Env)(v:St)(gs:List bR)(kf kb:List Nat)(z:St):Prop:=∀ s,Sub v s→∃ s',kM (call G Ω0) Ω0 E s gs=some s'∧s'.bB kf kb=z
theorem adm{gs:List bR}{kf kb:List Nat}{z v1:St}(n:Nat)(ks:List Nat)(F:∃ s1,tV E v (gs.take n)=some s1∧(⟨eD s1.fr ks,s1.bx,s1.hp⟩:St)=v1)(h3:Vr E v1 (gs.drop n) kf kb z):Vr E v gs kf kb z:=by
 intro s hs
 obtain ⟨s1,h1,h2⟩:=F
 obtain ⟨s2,h4,h5⟩:=Mq hs h1
 obtain ⟨s3,h6,h7⟩:=h3 s2 ((h2▸Mo s1 ks).trans h5)
 exact ⟨s3,D6 n h4 h6,h7⟩
theorem R9{gs:List bR}{kf kb:List Nat}{z:St}(F:∃ s1,tV E v gs=some s1∧s1.bB kf kb=z)(h3:z.fr.all (fun x=>!A0 x.2)=true):Vr E v gs kf kb z:=by
 intro s hs
 obtain ⟨s1,h1,h2⟩:=F
 obtain ⟨s2,h4,h5⟩:=Mq hs h1
 subst h2
 exact ⟨s2,h4,Ka h5 h3⟩
theorem Vs{pre:List wy}{mks:List Nat}{gs:List bR}{kf kb:List Nat}{st st1 z:St}(h0:sw E st pre=some st1)(hm:(mks.all (jg E.dp st1)&&gs.all (lM E.dp st1))=true)(h:Vr E st1 gs kf kb z):run G Ω0 E (.dg pre mks gs kf kb) st=some (.nrm,z):=by
 obtain ⟨s,h1,h2⟩:=h st1 ⟨fun _=>.inr rfl,rfl,rfl⟩
 rw [GX,h0,ad,af hm,h1,ad,h2]
end
def plain:AV→Bool
 | .u=>false
 | .o _ _=>false
 | _=>true
noncomputable def Kb(E:Env)(v:St):pC→Option AV
 | .mv x=>if plain (v.ev x)=true then some (v.ev x) else none
 | .as x=>if (v.ev x).pure=true then some (v.ev x) else none
 | .no x=>match v.ev x with
  | .b y=>some (.b !y)
  | _=>none
 | .fa off x=>match v.ev x with
  | .p q o=>some (.p q (o+off))
  | .e y o=>some (.e y (o+off))
  | _=>none
 | .nc x=>match v.ev x with
  | .p q o=>some (.p q o)
  | _=>none
 | .ld m x=>match v.ev x with
  | .p q o=>(v.box E.dp q).bind fun cs=>(pick m o cs).bind fun y=>if y.pure=true then some y else none
  | .e z o=>pick m o z.cl
  | _=>none
 | .bo op bl a b=>qb op bl (v.ev a) (v.ev b)
 | .pk c a b=>match v.ev c with
  | .b true=>if (v.ev a).copy=true then some (v.ev a) else none
  | .b false=>if (v.ev b).copy=true then some (v.ev b) else none
  | _=>none
 | .ln false x=>match v.ev x with
  | .l _ es=>some (I es.length)
  | _=>none
 | .ex x i=>match v.ev x with
  | .tp vs=>vs[i]?
  | _=>none
 | .ia sz none x i=>match v.ev x with
  | .l _ es=>(rf (v.ev i)).bind fun j=>(es[j]?).bind fun e=>if e.nc=sz then some (.e e 0) else none
  | _=>none
 | .ca 0 f xs=>(dj (call G Ω0) Ω0 E v 0 f (xs.map v.ev)).map (·.1)
 | .c3 f xs=>(kd (call G Ω0) E v f (xs.map v.ev)).map (·.1)
 | _=>none
section
variable {E:Env}{v:St}{d:Option Nat}{o:pC}{y:AV}
theorem Mr(h:Kb E v o=some y):calm v o=true∧execOp (call G Ω0) Ω0 E v d o=some (y,v):=by
 unfold Kb at h
 split at h
 ·rename_i x
  split at h
  ·rename_i hp
   obtain rfl:=ah h
   unfold calm
   simp only [execOp]
   cases he:v.ev x<;>rw [he] at hp<;>first | (cases hp;done) | exact ⟨rfl,rfl⟩
  ·cases h
 ·rename_i x
  split at h
  ·rename_i hy
   obtain rfl:=ah h
   have hc:=dO _ hy
   refine ⟨hc,?_⟩
   cases x with
   | c z=>simp only [execOp];exact af hy
   | t n=>
    have hy:(az v.fr n).pure=true:=hy
    have hc:(az v.fr n).copy=true:=hc
    show execOp _ _ _ _ _ _=some (az v.fr n,v)
    simp only [execOp]
    cases he:az v.fr n<;>rw [he] at hy hc<;>first | (cases hy;done) | (simp only [hc,Bool.true_or,aA])
  ·cases h
 ·split at h
  ·rename_i he
   obtain rfl:=ah h
   exact ⟨rfl,by simp only [execOp,he];rfl⟩
  ·cases h
 ·split at h
  ·rename_i he
   obtain rfl:=ah h
   exact ⟨rfl,by simp only [execOp,he]⟩
  ·rename_i he
   obtain rfl:=ah h
   exact ⟨rfl,by simp only [execOp,he]⟩
  ·cases h
 ·split at h
  ·rename_i he
   obtain rfl:=ah h
   exact ⟨rfl,by simp only [execOp,he]⟩
  ·cases h
 ·split at h
  ·rename_i he
   obtain ⟨cs,h1,h2⟩:=aj.1 h
   obtain ⟨z,h3,h4⟩:=aj.1 h2
   split at h4
   ·rename_i hz
    obtain rfl:=ah h4
    refine ⟨rfl,?_⟩
    have hc:=dO _ hz
    simp only [execOp,he,h1,h3,ad]
    cases z<;>first | (cases hz;done) | exact af hc
   ·cases h4
  ·rename_i he
   exact ⟨rfl,by simp only [execOp,he,h,ad]⟩
  ·cases h
 ·exact ⟨rfl,by simp only [execOp,h,ad]⟩
 ·split at h
  ·rename_i he
   split at h
   ·rename_i hy
    obtain rfl:=ah h
    exact ⟨rfl,by simp only [execOp,he,pB,ad,aA];exact af hy⟩
   ·cases h
  ·rename_i he
   split at h
   ·rename_i hy
    obtain rfl:=ah h
    refine ⟨rfl,?_⟩
    simp only [execOp,he,pB,ad,dq,cF]
    exact af hy
   ·cases h
  ·cases h
 ·split at h
  ·rename_i he
   obtain rfl:=ah h
   exact ⟨rfl,by simp only [execOp,he];rfl⟩
  ·cases h
 ·split at h
  ·rename_i he
   exact ⟨rfl,by simp only [execOp,he,h,ad]⟩
  ·cases h
 ·split at h
  ·rename_i he
   obtain ⟨j,h1,h2⟩:=aj.1 h
   obtain ⟨e,h3,h4⟩:=aj.1 h2
   split at h4
   ·rename_i hs
    obtain rfl:=ah h4
    exact ⟨rfl,by simp only [execOp,he,h1,ad,h3,elemAt,hs,aA]⟩
   ·cases h4
  ·cases h
 ·rename_i f xs
  obtain ⟨r,h1,rfl⟩:=ew.1 h
  have hq:qk (.ca 0 f xs)=true:=rfl
  haveI:=b0
  have h2:=(Lg (d:=d) (⟨fun _=>.inr rfl,fun _ _ hb=>hb⟩:Le E.dp v v) hq rfl (show execOp (call G Ω0) Ω0 E v d (.ca 0 f xs)=some r from h1)).1
  exact ⟨rfl,h1.trans (by rw [←h2])⟩
 ·rename_i f xs
  obtain ⟨r,h1,rfl⟩:=ew.1 h
  have h2:=(Mm (d:=d) (⟨fun _=>.inr rfl,rfl,rfl⟩:Sub v v) rfl (show execOp (call G Ω0) Ω0 E v d (.c3 f xs)=some r from h1)).1
  exact ⟨rfl,h1.trans (by rw [←h2])⟩
 ·cases h
noncomputable def Sa(E:Env)(v:St)(g:dx):Option St:=
 match g.d with
 | none=>none
 | some e=>match g.g with
  | none=>(Kb E v g.o).bind fun y=>some ⟨(e,fg g.fz y)::v.fr,v.bx,v.hp⟩
  | some (j,w)=>(xm (az v.fr j) w).bind fun b=>if b=true then (Kb E v g.o).bind fun y=>some ⟨(e,fg g.fz y)::v.fr,v.bx,v.hp⟩ else some ⟨(e,.sk)::v.fr,v.bx,v.hp⟩
theorem Sb{v v1:St}{g:dx}(h:Sa E v g=some v1):Mn v g=true∧ix (call G Ω0) Ω0 E v g=some v1:=by
 obtain ⟨d,o,g,fz⟩:=g
 unfold Sa at h
 cases d with
 | none=>cases h
 | some e=>
  cases g with
  | none=>
   obtain ⟨y,h1,h2⟩:=aj.1 h
   obtain rfl:=ah h2
   obtain ⟨h3,h4⟩:=Mr (d:=some e) h1
   exact ⟨h3,by simp only [ix];rw [h4];rfl⟩
  | some q=>
   obtain ⟨j,w⟩:=q
   obtain ⟨b,h0,h⟩:=aj.1 h
   simp only at h0 h
   cases b with
   | true=>
    rw [af rfl] at h
    obtain ⟨y,h1,h2⟩:=aj.1 h
    obtain rfl:=ah h2
    obtain ⟨h3,h4⟩:=Mr (d:=some e) h1
    exact ⟨by simp only [Mn,h3,Bool.or_true],by simp only [ix,h0,ad,aA];rw [h4];rfl⟩
   | false=>
    rw [ab (by simp)] at h
    obtain rfl:=ah h
    exact ⟨by simp only [Mn,h0];rfl,by simp only [ix,h0,ad];rfl⟩
variable {Q:St→Prop}
theorem IY{v v1:St}{g:dx}{gs:List dx}(h:Sa E v g=some v1)(h2:∃ s1,xK E v1 gs=some s1∧Q s1):∃ s1,xK E v (g::gs)=some s1∧Q s1:=by
 obtain ⟨s1,h3,h4⟩:=h2
 obtain ⟨h5,h6⟩:=Sb h
 refine ⟨s1,?_,h4⟩
 unfold xK
 rw [af h5,h6];exact h3
theorem IZ(h:Q v):∃ s1,xK E v []=some s1∧Q s1:=⟨v,rfl,h⟩
noncomputable def Vt(E:Env)(v:St)(p:bR):Option St:=
 if p.lt=true then (match p.p.d with
  | none=>none
  | some e=>match p.p.g with
   | none=>(Kb E (view p v) p.p.o).bind fun y=>if (gZ E.dp p.nk y&&okB E.dp p.nb y&&p.cs.isEmpty)=true then some ⟨(e,fg p.p.fz y)::v.fr,v.bx,v.hp⟩ else none
   | some (j,w)=>(xm (az v.fr j) w).bind fun b=>if b=true then (Kb E (view p v) p.p.o).bind fun y=>if (gZ E.dp p.nk y&&okB E.dp p.nb y&&p.cs.isEmpty)=true then some ⟨(e,fg p.p.fz y)::v.fr,v.bx,v.hp⟩ else none else if p.cs.isEmpty=true then some ⟨(e,.sk)::v.fr,v.bx,v.hp⟩ else none)
 else Sa E v p.p
theorem O6{v:St}{p:bR}{e:Nat}(hd:p.p.d=some e)(h:Kb E (view p v) p.p.o=some y)(hr:(gZ E.dp p.nk y&&okB E.dp p.nb y&&p.cs.isEmpty)=true):calm (view p v) p.p.o=true∧jL (call G Ω0) Ω0 E p (view p v)=some ⟨[(e,fg p.p.fz y)],[],[],none⟩:=by
 simp only [aL,List.isEmpty_iff] at hr
 obtain ⟨h3,h4⟩:=Mr (d:=p.p.d) h
 obtain ⟨a1,a2,a3⟩:=HC (E:=E) h3 hr.2
 refine ⟨h3,?_⟩
 unfold jL
 rw [af (by simp only [a1,a2];rfl),h4]
 simp only [ad]
 rw [af (by simp only [hr.1.1,hr.1.2];rfl),a3,hd];rfl
theorem adn{v v1:St}{p:bR}(h:Vt E v p=some v1):R8 v p=true∧eH (call G Ω0) Ω0 E v p=some v1:=by
 unfold Vt at h
 unfold R8 eH
 cases hl:p.lt with
 | false=>
  rw [hl,ab (by simp)] at h
  rw [ab (by simp),ab (by simp)]
  exact Sb h
 | true=>
  rw [hl,af rfl] at h
  rw [af rfl,af rfl]
  unfold eG
  split at h
  ·cases h
  ·rename_i e he
   split at h
   ·rename_i hg
    obtain ⟨y,h1,h2⟩:=aj.1 h
    split at h2
    ·rename_i hr
     obtain rfl:=ah h2
     obtain ⟨c1,c2⟩:=O6 he h1 hr
     simp only [aL] at hr
     rw [hg]
     simp only [hr.2,c1,c2,sL,ad]
     exact ⟨trivial,rfl⟩
    ·cases h2
   ·rename_i j w hg
    obtain ⟨b,h0,h⟩:=aj.1 h
    rw [hg]
    simp only [h0,ad]
    cases b with
    | true=>
     rw [af rfl] at h
     obtain ⟨y,h1,h2⟩:=aj.1 h
     split at h2
     ·rename_i hr
      obtain rfl:=ah h2
      obtain ⟨c1,c2⟩:=O6 he h1 hr
      simp only [aL] at hr
      simp only [hr.2,c1,c2,aA,Bool.or_true,sL,ad]
      exact ⟨trivial,rfl⟩
     ·cases h2
    | false=>
     rw [ab (by simp)] at h
     split at h
     ·rename_i hr
      obtain rfl:=ah h
      refine ⟨by rw [hr];rfl,?_⟩
      simp only [dq,cF,ad,he]
      rfl
     ·cases h
theorem Cr{v v1:St}{p:bR}{ps:List bR}(h:Vt E v p=some v1)(h2:∃ s1,tV E v1 ps=some s1∧Q s1):∃ s1,tV E v (p::ps)=some s1∧Q s1:=by
 obtain ⟨s1,h3,h4⟩:=h2
 obtain ⟨h5,h6⟩:=adn h
 refine ⟨s1,?_,h4⟩
 unfold tV
 rw [af h5,h6];exact h3
theorem Cs(h:Q v):∃ s1,tV E v []=some s1∧Q s1:=⟨v,rfl,h⟩
end
section
variable {E:Env}{x y:AC}{st st1:St}{P:bh×St→Prop}
def Nx(E:Env)(x:AC)(st:St)(P:bh×St→Prop):Prop:=∃ q,run G Ω0 E x st=some q∧P q
theorem iq(h:run G Ω0 E x st=some (.nrm,st1))(hp:P (.nrm,st1)):Nx E x st P:=⟨_,h,hp⟩
theorem dQ(h:Nx E x st fun q=>match q.1 with
  | .nrm=>Nx E y q.2 P
  | _=>P q):Nx E (.sq x y) st P:=by
 obtain ⟨⟨e,s⟩,h1,h2⟩:=h
 cases e with
 | nrm=>
  obtain ⟨q,h3,h4⟩:=h2
  exact ⟨q,aN h1 h3,h4⟩
 | ret=>exact ⟨_,D5 h1,h2⟩
 | ex i=>exact ⟨_,tT h1,h2⟩
theorem Lk{i:Nat}(h:Nx E x st fun q=>match q.1 with
  | .ex j=>if j=i then P (.nrm,q.2) else P q
  | _=>P q):Nx E (.bl i x) st P:=by
 obtain ⟨⟨e,s⟩,h1,h2⟩:=h
 unfold Nx
 rw [qI,h1]
 cases e with
 | nrm=>exact ⟨_,rfl,h2⟩
 | ret=>exact ⟨_,rfl,h2⟩
 | ex j=>
  simp only [ad,inBlock]
  simp only at h2
  by_cases e:j=i
  ·rw [af e] at h2 ⊢;exact ⟨_,rfl,h2⟩
  ·rw [ab e] at h2 ⊢;exact ⟨_,rfl,h2⟩
theorem vQ{c:bz}(b:Bool)(h:pB (st.ev c)=some b)(ht:b=true→Nx E x st P)(hf:b=false→Nx E y st P):Nx E (.ite c x y) st P:=by
 cases b with
 | true=>obtain ⟨q,h1,h2⟩:=ht rfl;exact ⟨q,jH h h1,h2⟩
 | false=>obtain ⟨q,h1,h2⟩:=hf rfl;exact ⟨q,gv h h1,h2⟩
theorem HD{kf kb:List Nat}(h:Nx E x (st.bB kf kb) P):Nx E (.kp kf kb x) st P:=by
 obtain ⟨q,h1,h2⟩:=h
 exact ⟨q,pW h1,h2⟩
theorem Ct(h:P (.nrm,st)):Nx E .sk st P:=⟨_,eo _ _,h⟩
theorem vR(h:P (.ret,st)):Nx E .rt st P:=⟨_,iN _ _,h⟩
theorem afJ{c:bX}{q:bh×St}(h:rW G Ω0 E c (st.bB c.kf c.kb)=some q)(hp:P q):Nx E c.lp st P:=⟨q,by rw [mg];exact h,hp⟩
theorem O7{f:FuncId}{fn:bL}{hp C:HP}{z:bA}{st:St}(hG:G f=some fn)(h:Nx E fn.code ⟨kq 0 args,[],hp⟩ fun q=>q=(.ret,st))(he:st.end_ E fn.res=some z)(hh:st.hp=C):call G Ω0 E f args hp=some (z,C):=by
 obtain ⟨q,h1,rfl⟩:=h
 exact qQ hG h1 he hh
theorem Sc{q:bh×St}(h:Nx E x st fun r=>r=q):run G Ω0 E x st=some q:=by
 obtain ⟨_,h1,rfl⟩:=h
 exact h1
end
variable [Lp]
attribute [local simp] gp execOp okB gZ gj lM yg lL jF jK St.end_ St.mN List.filter
noncomputable def ixF{β:Type}(φ:β→Option Bool)(es:List β):Option Int:=(lp (fun v=>xJ φ es v) 0).bind fun (x1:(Nat⊕(Nat×Bool)))=>match x1 with
 | .inl z=>some (z:Int)
 | .inr _=>some (-1)
noncomputable def FF{β:Type}(φ:β→Option Bool)(es:List β):Option Bool:=(ixF φ es).bind fun (r1:Int)=>some (decide (0≤r1))
def Sf(n:Nat)(ld:Option Nat):bX:=⟨[0,1,7,8],[],(.sq (.rg [] [gp 9 (.bo .lss false (.t 8) (.t 7))] [0,1,7,8,9] []) (.sq (.ite (.t 9) .sk (.ex 0)) (.kp [0,1,7,8] []
 (.sq (.bl 1 (.sq (.rg [] [gp 10 (.mv (.t 8)),gp 5 (.as (.t 10))] [0,1,5,7,8] []) (.sq (.rg [] [gp 11 (.mv (.t 1)),gp 12 (.mv (.t 0)),gp 13 (.mv (.t 5)),gp 14 (.ia n none (.t 12) (.t 13)),gp 15 (.ld ld (.t 14)),gp 16 (.d2 (.t 11) [(.t 15)])] [0,1,5,7,8,16] [])
  (.ite (.t 16) (.sq (.rg [] [gp 17 (.mv (.t 5)),gp 4 (.as (.t 17))] [4] []) .rt) .sk)))) (.rg [] [gp 18 (.bo .add false (.t 8) (.c (.i .i64 1))),gp 8 (.mv (.t 18))] [0,1,7,8] [])))))⟩
def Vu(n:Nat)(ld:Option Nat):bL:=⟨(.sq (.rg [] [gp 4 (.as (.c (.i .i64 0)))] [0,1] []) (.sq (.sq (.rg [] [gp 6 (.mv (.t 0)),gp 7 (.ln false (.t 6)),gp 8 (.mv (.c (.i .i64 0)))] [0,1,7,8] []) (.bl 0 (Sf n ld).lp)) (.sq (.rg [] [gp 4 (.as (.c (.i .i64 (-1))))] [4] []) .rt))),[.t 4]⟩
theorem Kd{x:AV}(h:x.pure=true):x.jJ=true:=by cases x<;>first | rfl | exact h
theorem HE:∀ {cs:List AV},AV.bJ cs=true→cs.all AV.jJ=true
 | [],_=>rfl
 | c::cs,h=>by
  simp only [AV.bJ,aL] at h
  rw [wj,Kd h.1,HE h.2];rfl
def ah7(n:Nat)(ld:Option Nat)(x:AV):Prop:=x.pure=true∧match ld with
 | some k=>k=n∧∃ cs,x= .a cs∧cs.length=n
 | none=>n=1∧(x.cl=[x]∧x.one=true)
section
variable {β:Type}{f g:FuncId}{n:Nat}{ld:Option Nat}{t:TypeId}{enc:β→AV}{B:List AV}{φ:β→Option Bool}
abbrev Sg(t:TypeId)(enc:β→AV)(g:FuncId)(B:List AV)(es:List β)(k:Nat):St:=⟨[(0,.l t (es.map enc)),(1,.f g B),(7,I es.length),(8,I k)],[],H0⟩
abbrev xIx(t:TypeId)(enc:β→AV)(g:FuncId)(B:List AV)(es:List β)(x:Nat⊕(Nat×Bool)):bh×St:=match x with
 | .inl z=>(.ret,⟨[(4,I z)],[],H0⟩)
 | .inr (z1,z2)=>(.ex 0,⟨[(0,.l t (es.map enc)),(1,.f g B),(7,I es.length),(8,I z1),(9,.b z2)],[],H0⟩)
variable (hg:g<1000000)(he:∀ y,ah7 n ld (enc y))(hc:AV.bJ B=true)(hf:∀ y r,φ y=some r→call G Ω0 E0 g (enc y::B) H0=some (.ret (.b r),H0))
include hg he hc hf
set_option maxHeartbeats 8000000 in
theorem adp{es:List β}{k:Nat}(hk:k<es.length){b:Bool}(hb:φ es[k]=some b) :
  run G Ω0 E0 (.rg [] [gp 11 (.mv (.t 1)),gp 12 (.mv (.t 0)),gp 13 (.mv (.t 5)),gp 14 (.ia n none (.t 12) (.t 13)),gp 15 (.ld ld (.t 14)),gp 16 (.d2 (.t 11) [(.t 15)])] [0,1,5,7,8,16] []) ⟨[(0,.l t (es.map enc)),(1,.f g B),(5,I k),(7,I es.length),(8,I k)],[],H0⟩=
   some (.nrm,⟨[(0,.l t (es.map enc)),(1,.f g B),(5,I k),(7,I es.length),(8,I k),(16,.b b)],[],H0⟩):=by
 obtain ⟨h1,h2⟩:=he es[k]
 have hA:=mi (E:=E0) (hf _ _ hb) (by simp [AV.bJ,h1,hc]) (by simp)
 have h5:=Kd h1
 have h6:=eq_true (cI.1 (HE hc))
 have hx:(es.map enc)[k]? =some (enc es[k]):=by simp [hk]
 generalize enc es[k]=x at *
 cases ld with
 | none=>
  obtain ⟨rfl,h3,h4⟩:=h2
  simp only [AV.cl] at h3
  simp [-dj,-List.getElem?_map,hx,h3,dz,h5,h6,hA,hg]
 | some q=>
  obtain ⟨rfl,cs,rfl,h3⟩:=h2
  have h7:cs.take q=cs:=pb (by omega)
  simp [-dj,-List.getElem?_map,hx,dz,h5,h6,hA,hg,h3,h7]
theorem V4{es:List β}{k:Nat}{o:Nat⊕(Nat⊕(Nat×Bool))}(ho:xJ φ es k=some o):cG E0 (Sf n ld) (Sg t enc g B es) (xIx t enc g B es) k o:=by
 unfold xJ at ho
 by_cases hk:(k:Int)<(es.length:Int)
 ·rw [af hk] at ho
  have J:k<es.length:=by omega
  rw [aV J,ad] at ho
  obtain ⟨b,hb,ho⟩:=aj.1 ho
  have hA:=adp (t:=t) hg he hc hf J hb
  cases b with
  | true=>
   obtain rfl:=ah ho
   refine ⟨?_,by simp⟩
   apply aN (by simp [J];rfl)
   apply aN
   ·apply jH (by simp)
    exact eo _ _
   apply pW
   apply D5
   apply Gd
   apply aN (by simp;rfl)
   apply aN hA
   apply jH (by simp)
   apply aN (by simp;rfl)
   exact iN _ _
  | false=>
   rw [ab (by simp)] at ho
   split at ho
   ·rename_i hw
    obtain rfl:=ah ho
    have hr:run G Ω0 E0 (Sf n ld).x (Sg t enc g B es k)=some (.nrm,Sg t enc g B es (k+1)):=by
     apply aN (by simp [J];rfl)
     apply aN
     ·apply jH (by simp)
      exact eo _ _
     apply pW
     apply aN
     ·apply tU
      apply aN (by simp;rfl)
      apply aN hA
      apply gv (by simp)
      exact eo _ _
     simp [hw]
    show (run G Ω0 E0 (Sf n ld).x (Sg t enc g B es k)).bind _=_
    rw [hr];rfl
   ·cases ho
 ·rw [ab hk] at ho
  obtain rfl:=ah ho
  refine ⟨?_,by simp⟩
  apply aN (st1:=⟨[(0,.l t (es.map enc)),(1,.f g B),(7,I es.length),(8,I k),(9,.b (decide ((k:Int)<(es.length:Int))))],[],H0⟩) (by simp)
  apply tT
  apply gv (by simp;omega)
  exact mw _ _ _
theorem V5{es:List β}{r:Int}(hG:G f=some (Vu n ld))(h:ixF φ es=some r):call G Ω0 E0 f [.l t (es.map enc),.f g B] H0=some (.ret (I r),H0):=by
 obtain ⟨x,hx,h⟩:=aj.1 h
 have hL:=OT (Sf n ld) (Sg t enc g B es) (xIx t enc g B es) (fun _=>rfl) (fun k o ho=>V4 (t:=t) hg he hc hf ho) hx
 rcases x with z | z
 ·obtain rfl:=ah h
  apply qQ hG
  ·apply aN (by simp;rfl)
   apply D5
   apply aN (by simp;rfl)
   apply Gd
   rw [mg]
   exact hL
  ·simp [Vu]
  ·rfl
 ·obtain rfl:=ah h
  apply qQ hG
  ·apply aN (by simp;rfl)
   apply aN
   ·apply aN (by simp;rfl)
    apply Cp
    rw [mg]
    exact hL
   apply aN (by simp;rfl)
   exact iN _ _
  ·simp [Vu]
  ·rfl
def anC(i:FuncId):bL:=⟨(.sq (.rg [] [gp 4 (.as (.c (.b false)))] [0,1] []) (.sq (.rg [] [gp 5 (.mv (.t 0)),gp 6 (.mv (.t 1)),gp 7 (.c2 i [(.t 5),(.t 6)]),gp 8 (.bo .geq false (.t 7) (.c (.i .i64 0))),gp 4 (.as (.t 8))] [4] []) .rt)),[.t 4]⟩
theorem rz{i:FuncId}{es:List β}{r:Bool}(hG:G i=some (anC f))(hF:G f=some (Vu n ld))(h:FF φ es=some r):call G Ω0 E0 i [.l t (es.map enc),.f g B] H0=some (.ret (.b r),H0):=by
 obtain ⟨x,hx,h⟩:=aj.1 h
 obtain rfl:=ah h
 have hp:AV.bJ [.l t (es.map enc),.f g B]=true:=by
  simp [AV.bJ,AV.pure,hc]
 have hA:=mi (E:=E0) (V5 (t:=t) hg he hc hf hF hx) hp (by simp)
 apply qQ hG
 ·apply aN (by simp;rfl)
  apply aN (by simp [-dj,dz,hA,AV.jJ,hc];rfl)
  exact iN _ _
 ·simp [anC]
 ·rfl
end
end Go.Proofs.YtlmphbbhaeampaaGreat.A
