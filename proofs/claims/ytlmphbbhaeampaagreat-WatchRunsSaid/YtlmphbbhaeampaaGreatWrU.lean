/- The document's watching machine: its tasks are what is still to be done. -/
import Derived.Test.YtlmphbbhaeampaaGreatWrS
import Derived.Test.YtlmphbbhaeampaaGreatRunU
import Derived.Test.YtlmphbbhaeampaaGreatRLv
import Derived.Test.YtlmphbbhaeampaaGreatFL
set_option linter.all false
namespace Go.Proofs.YtlmphbbhaeampaaGreat.A
open Go
inductive Rel:List rD→List Task→Prop where
 | nil:Rel [] []
 | back {n:Nat} {K ts t} : t.Kind=3→t.Places=(n:Int)→Rel K ts→Rel (.back n::K) (t::ts)
 | leave {s a K ts t} : t.Kind=2→t.S=s→t.At=a→Rel K ts→Rel (.leave s a::K) (t::ts)
 | again {s a K ts t} : t.Kind=1→t.S=s→t.At=a→Rel K ts→Rel (.again s a::K) (t::ts)
 | done {a K ts} : Rel K ts→Rel (.run [] a::K) ts
 | stmt {s l a K ts t} : t.Kind=0→t.At=a→t.S=s→Rel (.run l (a+fD s)::K) ts→Rel (.run (s::l) a::K) (t::ts)
variable [Lp]
theorem N2{K:List rD}{ts:List Task}(h:Rel K ts):∀ (l:List Stmt)(a:Int),Rel (.run l a::K) (ez l a++ts)
 | [],a=>.done h
 | s::l,a=>.stmt rfl rfl rfl (N2 h l _)
theorem S0{X:Ctx}{q:RunT×List Level×List Level} : ∀ {K:List rD}{ts:List Task},Rel K ts→ts=[]→dm X (K,q) ([],q)
 | _,_,.nil,_=>.refl _ _
 | _,_,.done h,e=>(dm.one rfl).trans (S0 h e)
def Head(K:List rD)(t:Task)(ts:List Task):Prop:=
 (∃ (n:Nat)(K':List rD),K= .back n::K'∧t.Kind=3∧t.Places=(n:Int)∧Rel K' ts)∨
 (∃ s K',K= .leave s t.At::K'∧t.Kind=2∧t.S=s∧Rel K' ts)∨
 (∃ s K',K= .again s t.At::K'∧t.Kind=1∧t.S=s∧Rel K' ts)∨
 (∃ s l K',K= .run (s::l) t.At::K'∧t.Kind=0∧t.S=s∧Rel (.run l (t.At+fD s)::K') ts)
theorem Q1{X:Ctx}{q:RunT×List Level×List Level}{t:Task}{ts:List Task} : ∀ {K:List rD}{us:List Task},Rel K us→us=t::ts→∃ K',dm X (K,q) (K',q)∧Head K' t ts
 | _,_,.back h1 h2 h3,e=>by
  obtain ⟨rfl,rfl⟩:=kK e
  exact ⟨_,.refl _ _,.inl ⟨_,_,rfl,h1,h2,h3⟩⟩
 | _,_,.leave h1 h2 h3 h4,e=>by
  obtain ⟨rfl,rfl⟩:=kK e
  subst h3
  exact ⟨_,.refl _ _,.inr (.inl ⟨_,_,rfl,h1,h2,h4⟩)⟩
 | _,_,.again h1 h2 h3 h4,e=>by
  obtain ⟨rfl,rfl⟩:=kK e
  subst h3
  exact ⟨_,.refl _ _,.inr (.inr (.inl ⟨_,_,rfl,h1,h2,h4⟩))⟩
 | _,_,.done h,e=>by
  obtain ⟨K',g,hh⟩:=Q1 (X:=X) (q:=q) h e
  exact ⟨K',(dm.one rfl).trans g,hh⟩
 | _,_,.stmt h1 h2 h3 h4,e=>by
  obtain ⟨rfl,rfl⟩:=kK e
  subst h2
  exact ⟨_,.refl _ _,.inr (.inr (.inr ⟨_,_,_,rfl,h1,h3,h4⟩))⟩
def TOK(X:Ctx)(t:Task):Prop:=
 t.Kind=3∨(t.Kind=2∧∃ i:Nat,i≤X.p.Funcs.length∧cV X.p i t.S=0∧t.S.Kind=2)∨
 ((t.Kind=0∨(t.Kind=1∧t.S.Kind=8))∧∃ i:Nat,i≤X.p.Funcs.length∧vi (cV X.p i) t.S=0∧fD t.S≤50∧0≤t.At∧t.At+fD t.S≤200)
theorem N3{X:Ctx}{i:Nat}(hi:i≤X.p.Funcs.length):∀ (l:List Stmt)(a:Int),eU (cV X.p i) l=0→bR l≤50→0≤a→a+bR l≤200→∀ t∈ez l a,TOK X t
 | [],a,_,_,_,_,t,ht=>by simp [ez] at ht
 | s::l,a,h1,h2,h3,h4,t,ht=>by
  rw [bR] at h2 h4
  have hs:=Jv h1 s (by simp)
  have hl:eU (cV X.p i) l=0:=by rw [eU,ah (by simp [hs])] at h1;exact h1
  rw [ez] at ht
  rcases eA.1 ht with rfl | ht
  ·exact .inr (.inr ⟨.inl rfl,i,hi,hs,by simp only;omega,h3,by simp only;omega⟩)
  ·exact N3 hi l (a+fD s) hl (by omega) (by omega) (by omega) t ht
def zA:Nat→List Task→Prop
 | _,[]=>True
 | n,t::ts=>if t.Kind=3 then (1≤t.Places∧t.Places≤(n:Int))∧zA t.Places.toNat ts else zA n ts
theorem zA.mono:∀ {ts:List Task}{n n':Nat},zA n ts→n≤n'→zA n' ts
 | [],_,_,_,_=>trivial
 | t::ts,n,n',h,hn=>by
  unfold zA at h ⊢
  split at h
  ·rename_i hk
   rw [af hk]
   exact ⟨⟨h.1.1,by have:=h.1.2;omega⟩,h.2⟩
  ·rename_i hk
   rw [ah hk]
   exact zA.mono h hn
variable {n:Nat}
theorem zA.tasks{ts:List Task}(h:zA n ts):∀ (l:List Stmt)(a:Int),zA n (ez l a++ts)
 | [],_=>h
 | s::l,a=>by
  rw [ez,fk]
  unfold zA
  rw [ah (show ¬(0:Int)=3 by decide)]
  exact zA.tasks h l _
variable [Lp]
section
variable {X:Ctx}(hL:nz X.p){r:RunT}{ts:List Task}{vs pl:List Level}(hw:WW X.p vs pl)
include hw
theorem Q2:iH (mR X r ts vs pl)=some (CI X.p pl):=by
 have h1:=hw.ne
 have h2:=hw.few
 unfold iH mR
 dsimp only
 rw [af (fG (by omega) (by omega)),cb (by omega),ab,bu (by omega),ab]
 grind [CI]
include hL
theorem S1{e:ay}(he:eP X.p e=0):iv (mR X r ts vs pl) e=some (fJ X.p vs pl e):=by
 have hp:=Q2 hw (r:=r) (ts:=ts)
 unfold iv
 rw [hp,ab]
 show (n8 X.p vs e).bind _=_
 rw [Wx hL hw.rows he,ab,BJ hL.small hw.NY (Qx hL hw.rows he).2,ab]
 rfl
theorem XQ{n:Int}(h0:0≤n)(h1:n<X.p.Vars.length){l:Level}(hl:dH (MM X.p) l):jv (mR X r ts vs pl) n l=some (Bo X.p vs pl n l):=by
 have hp:=Q2 hw (r:=r) (ts:=ts)
 have hv:=Uc hL hw h0 h1
 have d:n.toNat<vs.length:=by rw [hw.rows.vl];omega
 have hd:vs.getD n.toNat (jl (MM X.p))=vs[n.toNat]:=by grind
 unfold jv Bo
 rw [cb h0,ab]
 show (X.p.Vars[n.toNat]?).bind _=_
 rw [hv.1,ab,hp,ab]
 show (vs[n.toNat]?).bind _=_
 rw [bu d,ab,CV hL.small hw.NY (hw.rows.vs _ (cg d)),ab,hd]
 cases nx (MM X.p) (CI X.p pl) vs[n.toNat] with
 | false=>rfl
 | true=>
  rw [af rfl]
  cases hk:(iu X.p n).Known with
  | false=>rfl
  | true=>
   rw [af rfl]
   show (iW X.p.ak _).bind _=_
   rw [CU _ hL.eV _ hv.2,ab,CV hL.small hl (kY _ _),ab]
   simp
theorem ais{s:Stmt}(hv:0≤s.Var∧s.Var<X.p.Vars.length){l:Level}(hl:dH (MM X.p) l) :
  et (mR X r ts vs pl) s l.Readers l.Writers=some (match rj X.p vs pl s.Var l with | some us=>.inl us | none=>.inr ()):=by
 have hm:=XQ hL hw (r:=r) (ts:=ts) hv.1 hv.2 hl
 unfold et rj
 rw [hm,ab]
 cases Bo X.p vs pl s.Var l with
 | false=>rfl
 | true=>
  rw [af rfl,af rfl,cb hv.1,ab]
  show (vs[s.Var.toNat]?).bind _=_
  rw [bu (by rw [hw.rows.vl];omega),ab]
  rfl
theorem LM{s:Stmt}(hv:0≤s.Var∧s.Var<X.p.Vars.length){l:Level}(hl:dH (MM X.p) l) :
  ((et (mR X r ts vs pl) s l.Readers l.Writers).bind fun (x:((List Level)⊕Unit))=>match x with
  | .inl y=>some (true,(⟨(mR X r ts vs pl).P,(mR X r ts vs pl).Ins,(mR X r ts vs pl).Fuel,(mR X r ts vs pl).R,(mR X r ts vs pl).Tasks,(),y,(mR X r ts vs pl).Places⟩:Machine))
  | .inr _=>some (false,mR X r ts vs pl))=some (match rj X.p vs pl s.Var l with | some us=>(true,mR X r ts us pl) | none=>(false,mR X r ts vs pl)):=by
 rw [ais hL hw hv hl,ab]
 cases rj X.p vs pl s.Var l<;>rfl
theorem XR{i:Int}{s:Stmt}(hs:cV X.p i s=0)(hk:s.Kind≠2∧s.Kind<7) :
  nN (mR X r ts vs pl) s=some (match pG X.p vs pl s with | some us=>(true,mR X r ts us pl) | none=>(false,mR X r ts vs pl)):=by
 obtain ⟨o1,o2,o3,o4,o5,o6⟩:=lM hs
 have hp:=Q2 hw (r:=r) (ts:=ts)
 unfold nN pG
 by_cases k1:s.Kind=1
 ·have v1:=o2 (by rw [k1];rfl)
  have he:=o5 (by rw [k1];rfl)
  grind [S1,LM,fE]
 rw [ah (by simp [k1]),ah k1]
 by_cases k3:s.Kind=3
 ·have v1:=o2 (by rw [k3];rfl)
  have v2:=o3 (by rw [k3];rfl)
  have e3:fL X.p i s.Kind=X.p.Ins.length:=by rw [k3];rfl
  rw [e3] at v2
  have j:s.Other.toNat<X.p.Ins.length:=by omega
  have hd:Bp X.p X.p.Ins s.Other=iQ X.p.ak X.p.Ins[s.Other.toNat]:=by unfold Bp;grind
  have s2:=kY X.p.ak X.p.Ins[s.Other.toNat]
  rw [af (by simp [k3]),af k3,cb v2.1,ab]
  show (X.p.Ins[s.Other.toNat]?).bind _=_
  rw [bu j,ab]
  show (iW X.p.ak _).bind _=_
  rw [CU _ hL.eV _ (hL.ins _ (cg j)),ab,hp,ab,CV hL.small hw.NY s2,ab,hd]
  cases nx (MM X.p) (CI X.p pl) (iQ X.p.ak X.p.Ins[s.Other.toNat]) with
  | false=>rfl
  | true=>
   rw [af rfl,af rfl,ab,BJ hL.small s2 hw.NY,ab,Uo]
   grind [LM,tF]
 rw [ah (by simp [k3]),ah k3]
 have he:=o5 (by simp [gG,hk.1,k3])
 by_cases k4:s.Kind=4
 ·have v2:=o3 (by rw [k4];rfl)
  have e3:fL X.p i s.Kind=X.p.Outs.length:=by rw [k4];rfl
  rw [e3] at v2
  have j:s.Other.toNat<X.p.Outs.length:=by omega
  have hd:Bp X.p X.p.Outs s.Other=iQ X.p.ak X.p.Outs[s.Other.toNat]:=by unfold Bp;grind
  have s2:=kY X.p.ak X.p.Outs[s.Other.toNat]
  rw [af (by simp [k4]),af k4,S1 hL hw he,ab,cb v2.1,ab]
  show (X.p.Outs[s.Other.toNat]?).bind _=_
  rw [bu j,ab]
  show (iW X.p.ak _).bind _=_
  rw [CU _ hL.eV _ (hL.outs _ (cg j)),ab,CV hL.small (fE _ _ _) s2,ab,hd]
  grind
 rw [ah (by simp [k4]),ah k4]
 have v1:=o2 (by simp [fI,k4];omega)
 have hg:=Uc hL hw v1.1 v1.2
 have aS:sN (mR X r ts vs pl).P s=some (tG X.p s):=aap hL v1 he
 have a5:sO (mR X r ts vs pl).P s=some (tH X.p s):=aaq hL v1 he
 rw [cb v1.1,ab]
 show (X.p.Vars[s.Var.toNat]?).bind _=_
 rw [hg.1,ab]
 cases bh:(iu X.p s.Var).Known with
 | false=>simp
 | true=>
  rw [af rfl,aS,ab]
  cases tG X.p s with
  | true=>simp
  | false=>
   rw [ah (by simp),a5,ab]
   cases tH X.p s with
   | true=>simp
   | false=>
    have s1:=kY X.p.ak (iu X.p s.Var).Label
    have s2:=fE (p:=X.p) vs pl s.Expr
    rw [ah (by simp),S1 hL hw he,ab]
    show (iW X.p.ak _).bind _=_
    rw [CU _ hL.eV _ hg.2,ab]
    simp only [true_and,and_self,aH]
    unfold MW
    by_cases k5:s.Kind=5
    ·rw [af (by simp [k5]),af k5]
     exact LM hL hw v1 (l:=⟨(iQ X.p.ak (iu X.p s.Var).Label).Readers,(fJ X.p vs pl s.Expr).Writers⟩) ⟨s1.1,s2.2⟩
    ·rw [ah (by simp [k5]),ah k5]
     exact LM hL hw v1 (l:=⟨(fJ X.p vs pl s.Expr).Readers,(iQ X.p.ak (iu X.p s.Var).Label).Writers⟩) ⟨s2.1,s1.2⟩
omit hL
theorem XS(a:Int):kG (mR X r ts vs pl) a=some (mR X (qz r a) ts vs pl):=rfl
include hL
theorem Zv{k:Int}(h:Valid X k r){e:ay}(he:eP X.p e=0):gT (mR X r ts vs pl) e=some ((c9 r.Vars e !=0),mR X r ts vs (pl++[fJ X.p vs pl e])):=by
 have hf:=hw.few
 grind [gT,S1,mR,OU]
end
variable {i:Nat}{s:Stmt}
theorem amH{X:Ctx}(hX:uB X)(hL:nz X.p)(hi:i≤X.p.Funcs.length)(hs:cV X.p i s=0)(hk:s.Kind=2){r:RunT}(h:Valid X 0 r){t:Task}(ht:t.S=s){ts:List Task}{vs pl:List Level}(hw:WW X.p vs pl):
  qD (mR X r ts vs pl) t=some (match rj X.p vs pl s.Var (fJ X.p vs pl (cY X s).Result) with | some us=>mR X (wy X s r) ts us pl | none=>mR X (qz r t.At) ts vs pl):=by
 subst ht
 obtain ⟨c1,c2,c3,c4,c5,_⟩:=called hX hi hs hk
 obtain ⟨f1,f2,f3,f4⟩:=EX c4
 obtain ⟨o1,o2,o3,o4,o5,o6⟩:=lM hs
 have v1:=o2 (by rw [hk];rfl)
 have hv:=h.vars
 have hm:=XQ hL hw (r:=r) (ts:=ts) v1.1 v1.2 (fE vs pl (cY X t.S).Result)
 unfold qD rj
 rw [cb c1,ab]
 show (X.p.Funcs[t.S.Other.toNat]?).bind _=_
 rw [c3,ab,S1 hL hw f4,ab,hm,ab]
 cases Bo X.p vs pl t.S.Var (fJ X.p vs pl (cY X t.S).Result) with
 | false=>
  grind [XS]
 | true=>
  simp only [aH]
  rw [cb v1.1,ab]
  show (vs[t.S.Var.toNat]?).bind _=_
  rw [bu (by rw [hw.rows.vl];omega),ab]
  show (jH _ r.Vars).bind _=_
  rw [(OU h f4).1,ab]
  show (r.Vars[t.S.Var.toNat]?).bind _=_
  rw [getD_some v1.1 (by omega),ab]
  rfl
theorem amI{X:Ctx}(hX:uB X)(hL:nz X.p)(hi:i≤X.p.Funcs.length)(hs:cV X.p i s=0)(hk:s.Kind=2){r:RunT}(h:Valid X 1 r)(tk ta tp:Int){ts:List Task}{vs pl:List Level}(hw:WW X.p vs pl)(W:ts.length≤10000000):
  qE (mR X r ts vs pl) ⟨tk,ta,s,tp⟩=some (match uz X vs pl s with | some us=>mR X (nv X s r) (ts++[⟨2,ta,s,0⟩]++(ez (cY X s).Body (nth X.first s.Other)).reverse) us pl | none=>mR X (qz r ta) ts vs pl):=by
 obtain ⟨c1,c2,c3,c4,c5,c6,c7⟩:=called hX hi hs hk
 obtain ⟨f1,f2,f3,f4⟩:=EX c4
 obtain ⟨o1,o2,o3,o4,o5,o6⟩:=lM hs
 unfold qE uz
 dsimp only
 rw [cb c1,ab]
 show (X.p.Funcs[s.Other.toNat]?).bind _=_
 rw [c3,ab]
 obtain ⟨x,hx,hQ⟩:=eX (B:=fun v=>oJ (mR X r ts vs pl) ⟨tk,ta,s,tp⟩ (cY X s) v.1 v.2.1 v.2.2) (fun v=>s.Args.length - v.2.2)
  (fun v=>v.2.2≤s.Args.length∧v.1=(s.Args.take v.2.2).map (c9 r.Vars)∧v.2.1=(s.Args.take v.2.2).map (fJ X.p vs pl)∧ox X.p vs pl (cY X s).Params s.Args=ox X.p vs pl ((cY X s).Params.drop v.2.2) (s.Args.drop v.2.2))
  (fun x=>if ox X.p vs pl (cY X s).Params s.Args=true then ∃ k b,x= .inr (s.Args.map (c9 r.Vars),s.Args.map (fJ X.p vs pl),k,b) else x= .inl (mR X (qz r ta) ts vs pl)) (by
   rintro ⟨l,m,k⟩ ⟨ap,hv,hl,hm⟩
   simp only at ap hv hl hm ⊢
   unfold oJ
   by_cases j:k<s.Args.length
   ·have d:k<(cY X s).Params.length:=by omega
    have hp:=f2 _ (cg d)
    have aC:m.length=k:=by grind
    have aY:l.length=k:=by grind
    have H:(m++[fJ X.p vs pl s.Args[k]])[k]? =some (fJ X.p vs pl s.Args[k]):=by grind
    have am:=XQ hL hw (r:=r) (ts:=ts) hp.1 hp.2 (fE vs pl s.Args[k])
    have aV:=S1 hL hw (r:=r) (ts:=ts) (o6 _ (cg j))
    have ad:jH s.Args[k] (mR X r ts vs pl).R.Vars=some (c9 r.Vars s.Args[k]):=(OU h (o6 _ (cg j))).1
    rw [dU j,dU d,ox] at hm
    rw [af (show (k:Int)<((cY X s).Params.length:Int) by omega)]
    dsimp only
    rw [bu j,ab,ad,ab,af (by grind),aV,ab,af (by grind),bu d,ab,H,ab,am,ab]
    cases hb:Bo X.p vs pl (cY X s).Params[k] (fJ X.p vs pl s.Args[k]) with
    | false=>
     rw [hb,Bool.false_and] at hm
     exact .inl ⟨_,rfl,by rw [hm];rfl⟩
    | true=>
     rw [hb,xg] at hm
     rw [af rfl,af (eQ (by omega))]
     grind [take_one]
   ·rw [ah (show ¬(k:Int)<((cY X s).Params.length:Int) by omega)]
    rw [jg (show s.Args.length≤k by omega)] at hm
    have ht:ox X.p vs pl ((cY X s).Params.drop k) []=true:=by cases (cY X s).Params.drop k<;>rfl
    simp_all [iC]) ([],[],0) (by grind)
 rw [hx,ab]
 cases aW:ox X.p vs pl (cY X s).Params s.Args with
 | false=>
  grind
 | true=>
  rw [aW,af rfl] at hQ
  obtain ⟨k1,k2,rfl⟩:=hQ
  simp only [aH]
  have be:(s.Args.map (c9 r.Vars)).length=(cY X s).Params.length:=by grind
  have aC:(s.Args.map (fJ X.p vs pl)).length=(cY X s).Params.length:=by grind
  have aO:=hw.rows.vl
  unfold nv
  generalize s.Args.map (c9 r.Vars)=vals at *
  generalize s.Args.map (fJ X.p vs pl)=ls at *
  obtain ⟨x,aN,aK⟩:=eX (B:=fun v=>lz (cY X s) (vals,ls,k1,k2) v.1 v.2.1 v.2.2) (fun v=>(cY X s).Params.length - v.1)
   (fun v=>v.1≤(cY X s).Params.length∧v.2.1.length=X.p.Vars.length∧v.2.2.length=X.p.Vars.length∧ud r.Vars (cY X s).Params vals=ud v.2.1 ((cY X s).Params.drop v.1) (vals.drop v.1)∧qA vs (cY X s).Params ls=qA v.2.2 ((cY X s).Params.drop v.1) (ls.drop v.1))
   (fun x=>x.2.2.1=ud r.Vars (cY X s).Params vals∧x.2.2.2=qA vs (cY X s).Params ls) (by
    rintro ⟨k,vv,us⟩ ⟨ap,a4,aQ,he,aF⟩
    simp only at ap a4 aQ he aF ⊢
    unfold lz
    by_cases j:k<(cY X s).Params.length
    ·have d:k<vals.length:=by omega
     have N:k<ls.length:=by omega
     rw [dU j,dU d,ud] at he
     rw [dU j,dU N,qA] at aF
     have hp:=f2 _ (cg j)
     rw [af (show (k:Int)<((cY X s).Params.length:Int) by omega),bu j,ab]
     simp only
     rw [bu d,ab,cb hp.1,ab,bu (by omega),ab,bu N,ab,bu (by omega),ab,af (eQ (by omega))]
     grind
    ·rw [ah (show ¬(k:Int)<((cY X s).Params.length:Int) by omega)]
     grind [QC,NZ]) (0,r.Vars,vs) ⟨du _,h.vars,aO,rfl,rfl⟩
  have ac:lp (fun v=>lz (cY X s) (vals,ls,k1,k2) v.1 v.2.1 v.2.2) (0,(mR X r ts vs pl).R.Vars,(mR X r ts vs pl).bW)=some x:=aN
  rw [ac,ab]
  obtain ⟨_,g2,g3⟩:=By hX (k:=s.Other) c1 (by omega)
  have ar:oY (mR X r ts vs pl).P s.Other=some (nth X.first s.Other):=LJ hX c1 (by omega)
  rw [af (by grind [mR]),ar,ab,aK.1,aK.2,H6 c6 g2 (by omega) (by grind [mR])]
  rfl
variable [Lp]
theorem ait{X:Ctx}(hX:uB X)(hL:nz X.p){i:Int}(hs:cV X.p i s=0)(hk:s.Kind≠2∧s.Kind<7){r:RunT}(h:Valid X 1 r)(tk ta tp:Int){ts:List Task}{vs pl:List Level}(hw:WW X.p vs pl):
  dV (mR X r ts vs pl) ⟨tk,ta,s,tp⟩=some (match pG X.p vs pl s with | some us=>mR X (vE X s ta r) ts us pl | none=>mR X (qz r ta) ts vs pl):=by
 obtain ⟨o1,o2,o3,o4,o5,o6⟩:=lM hs
 have hf:=hX.fuel
 have ai:=h.steps
 have hlen:=h.vars
 have bj:((r.Events.length:Int)+1≤2000):=by have:=h.Bb;omega
 have ba:=XR hL hw (r:=r) (ts:=ts) hs hk
 unfold dV
 dsimp only
 rw [ah (show ¬(s.Kind==2)=true by simp [hk.1]),ah (show ¬(s.Kind==7)=true by simp;omega),ah (show ¬(s.Kind==8)=true by simp;omega),ba,ab]
 cases aI:pG X.p vs pl s with
 | none=>rfl
 | some us=>
 simp only [aH]
 unfold vE
 have d4:∀ (w:Int)(tks:List Int),(s.Kind≠4→0≤s.Var∧s.Var<X.p.Vars.length)→∃ z,fN ⟨tk,ta,s,tp⟩ (true,mR X r ts us pl) w tks=some z∧
   (match z with
    | .inl y=>(⟨X.p,X.ins,X.fuel,(⟨y.1,y.2.1,y.2.2,r.Steps,r.End,r.Stop⟩:RunT),ts,(),us,pl⟩:Machine)
    | .inr y=>⟨X.p,X.ins,X.fuel,(⟨r.Events,y.2.1,y.2.2,r.Steps,r.End,r.Stop⟩:RunT),ts,(),us,pl⟩)=
   mR X (if s.Kind=4 then ⟨r.Events++[⟨1,ta,s.Other,w⟩],r.Vars,tks,r.Steps,r.End,r.Stop⟩ else if s.Kind=5 then ⟨r.Events++[⟨2,ta,s.Var,w⟩],r.Vars.set s.Var.toNat w,tks,r.Steps,r.End,r.Stop⟩ else if s.Kind=6 then ⟨r.Events++[⟨3,ta,s.Var,w⟩],r.Vars.set s.Var.toNat w,tks,r.Steps,r.End,r.Stop⟩ else ⟨r.Events,r.Vars.set s.Var.toNat w,tks,r.Steps,r.End,r.Stop⟩) ts us pl:=by
  intro w tks hv
  unfold fN mR
  dsimp only
  by_cases k4:s.Kind=4
  ·rw [ah (show ¬(s.Kind !=4)=true by simp [k4])]
   unfold mo
   simp only [xz]
   rw [af (show (s.Kind==4)=true by simp [k4]),af (show r.Events.length+1≤1000000000 by omega),ab,af k4]
   grind
  ·have v1:=hv k4
   rw [af (show (s.Kind !=4)=true by simp [k4]),cb v1.1,ab,getD_some v1.1 (by omega),ab,ah k4]
   unfold mo
   simp only [xz]
   rw [ah (show ¬(s.Kind==4)=true by simp [k4])]
   by_cases k5:s.Kind=5
   ·rw [af (show (s.Kind==5)=true by simp [k5]),af (show r.Events.length+1≤1000000000 by omega),ab,af k5]
    grind
   rw [ah (show ¬(s.Kind==5)=true by simp [k5]),ah k5]
   by_cases k6:s.Kind=6
   ·rw [af (show (s.Kind==6)=true by simp [k6]),af (show r.Events.length+1≤1000000000 by omega),ab,af k6]
    grind
   simp_all
 by_cases k3:s.Kind=3
 ·have v1:=o2 (by rw [k3];rfl)
  have v2:=o3 (by rw [k3];rfl)
  have e3:fL X.p i s.Kind=X.p.Ins.length:=by rw [k3];rfl
  rw [e3] at v2
  have hi:=hX.ins
  have ht:=h.taken
  obtain ⟨n1,n2⟩:=hX.nums _ (QB (l:=X.ins) v2.1 (by omega))
  have n3:=h.tks _ (MY (l:=r.Taken) v2.1 (by omega))
  have d3:∀ w,kj ⟨tk,ta,s,tp⟩ (true,mR X r ts us pl) w=some (w,r.Taken.set s.Other.toNat (nth r.Taken s.Other+1)):=by
   grind [kj,mR,cb,getD_some,fG]
  have fin:∀ w,((kj ⟨tk,ta,s,tp⟩ (true,mR X r ts us pl) w).bind fun (x:Int×List Int)=>(fN ⟨tk,ta,s,tp⟩ (true,mR X r ts us pl) x.1 x.2).bind fun (x:((List Event)×(List Int)×(List Int))⊕(Int×(List Int)×(List Int)))=>match x with
    | .inl y=>some (⟨X.p,X.ins,X.fuel,(⟨y.1,y.2.1,y.2.2,r.Steps,r.End,r.Stop⟩:RunT),ts,(),us,pl⟩:Machine)
    | .inr y=>some ⟨X.p,X.ins,X.fuel,(⟨r.Events,y.2.1,y.2.2,r.Steps,r.End,r.Stop⟩:RunT),ts,(),us,pl⟩)=some (mR X ⟨r.Events,r.Vars.set s.Var.toNat w,r.Taken.set s.Other.toNat (nth r.Taken s.Other+1),r.Steps,r.End,r.Stop⟩ ts us pl):=by
   intro w
   obtain ⟨z,hz,aL⟩:=d4 w (r.Taken.set s.Other.toNat (nth r.Taken s.Other+1)) fun _=>v1
   grind
  rw [af (show (s.Kind==3)=true by simp [k3]),af k3,cb v2.1,ab]
  show (X.ins[s.Other.toNat]?).bind _=_
  rw [G4 v2.1 (by omega),ab]
  show (r.Taken[s.Other.toNat]?).bind _=_
  rw [getD_some v2.1 (by omega),ab]
  by_cases j:nth r.Taken s.Other<((GO X.ins s.Other).length:Int)
  ·rw [af j,cb n3.1,ab,getD_some n3.1 j,ab]
   exact fin _
  ·have e0:nth (GO X.ins s.Other) (nth r.Taken s.Other)=0:=by
    grind [nth]
   rw [ah j,e0]
   exact fin _
 ·have he:=o5 (by simp [gG,hk.1,k3])
  obtain ⟨q1,q2⟩:=OU h he
  obtain ⟨z,hz,aL⟩:=d4 (c9 r.Vars s.Expr) r.Taken (by grind [fI])
  rw [ah (show ¬(s.Kind==3)=true by simp [k3]),ah k3]
  show (jH s.Expr r.Vars).bind _=_
  rw [q1,ab]
  show (fN ⟨tk,ta,s,tp⟩ (true,mR X r ts us pl) (c9 r.Vars s.Expr) r.Taken).bind _=_
  rw [hz,ab]
  have a7:(if s.Kind=4 then ⟨r.Events++[⟨1,ta,s.Other,c9 r.Vars s.Expr⟩],r.Vars,r.Taken,r.Steps,r.End,r.Stop⟩ else if s.Kind=5 then ⟨r.Events++[⟨2,ta,s.Var,c9 r.Vars s.Expr⟩],r.Vars.set s.Var.toNat (c9 r.Vars s.Expr),r.Taken,r.Steps,r.End,r.Stop⟩ else if s.Kind=6 then ⟨r.Events++[⟨3,ta,s.Var,c9 r.Vars s.Expr⟩],r.Vars.set s.Var.toNat (c9 r.Vars s.Expr),r.Taken,r.Steps,r.End,r.Stop⟩ else ⟨r.Events,r.Vars.set s.Var.toNat (c9 r.Vars s.Expr),r.Taken,r.Steps,r.End,r.Stop⟩:RunT)=(if s.Kind=4 then r.ev ⟨1,ta,s.Other,c9 r.Vars s.Expr⟩ else if s.Kind=5 then (r.set s.Var (c9 r.Vars s.Expr)).ev ⟨2,ta,s.Var,c9 r.Vars s.Expr⟩ else if s.Kind=6 then (r.set s.Var (c9 r.Vars s.Expr)).ev ⟨3,ta,s.Var,c9 r.Vars s.Expr⟩ else r.set s.Var (c9 r.Vars s.Expr)):=by
   by_cases k4:s.Kind=4
   ·rw [af k4,af k4];rfl
   rw [ah k4,ah k4]
   by_cases k5:s.Kind=5
   ·rw [af k5,af k5];rfl
   rw [ah k5,ah k5]
   by_cases k6:s.Kind=6
   ·rw [af k6,af k6];rfl
   rw [ah k6,ah k6];rfl
  grind [mR]
structure pN(X:Ctx)(K:List rD)(ts:List Task)(r:RunT)(vs pl:List Level):Prop where
 rel:Rel K ts
 tok:∀ t∈ts,TOK X t
 plt:zA pl.length ts
 ww:WW X.p vs pl
 few:(pl.length:Int)≤r.Steps+1
 v:Valid X 0 r
def Led(X:Ctx)(c:jD)(ts:List Task)(m:Nat):Prop:=(c.2.1.End=0∧pN X c.1 ts c.2.1 c.2.2.1 c.2.2.2∧ts.length≤m)∨(c.2.1.End≠0∧c.1=[])
variable {K:List rD}
theorem pN.push{X:Ctx}{ts:List Task}{r:RunT}{vs pl:List Level}(h:pN X K ts r vs pl)(hi:i≤X.p.Funcs.length){l:List Stmt}{a:Int}(hl:eU (cV X.p i) l=0)(hc:bR l≤50)(h0:0≤a)(h2:a+bR l≤200):pN X (.run l a::K) (ez l a++ts) r vs pl:=
 ⟨N2 h.rel l a,fun t ht=>(iA.1 ht).elim (N3 hi l a hl hc h0 h2 t) (h.tok t),h.plt.tasks l a,h.ww,h.few,h.v⟩
variable {ta tp:Int}
theorem Zw{X:Ctx}(hL:nz X.p)(hi:i≤X.p.Funcs.length)(he:vi (cV X.p i) s=0)(k8:s.Kind=8)(hc:fD s≤50){tk:Int}(h0:0≤ta)(U:ta+fD s≤200){r:RunT}(ai:r.Steps≤2000){us:List Task}{vs pl:List Level}(hp:(pl.length:Int)≤r.Steps)(h:pN X K us r vs pl)(bf:us.length≤2000000)(zs:List Task):
  ∃ ts2,((iI (mR X r zs vs pl) ⟨tk,ta,s,tp⟩ us.reverse).bind fun (x:Machine⊕(Bool×Machine))=>match x with
    | .inl y=>some y
    | .inr y=>some y.2)=some (mR X r ts2.reverse vs (pl++[fJ X.p vs pl s.Expr]))∧pN X (lookW X s ta K r vs pl).1 ts2 r vs (pl++[fJ X.p vs pl s.Expr])∧ts2.length≤us.length+51:=by
 obtain ⟨hs,ag,aE⟩:=ET he
 obtain ⟨o1,o2,o3,o4,o5,o6⟩:=lM hs
 have hx:=o5 (by rw [k8];rfl)
 have a9:=sB s
 have a3:=jU s.Then
 have I:=h.few
 have Z:=Zv hL h.ww (ts:=us.reverse) h.v hx
 have h':pN X K us r vs (pl++[fJ X.p vs pl s.Expr]):=⟨h.rel,h.tok,h.plt.mono (by simp),h.ww.push (fE _ _ _) (by omega),by grind,h.v⟩
 have an:gT (⟨(mR X r zs vs pl).P,(mR X r zs vs pl).Ins,(mR X r zs vs pl).Fuel,(mR X r zs vs pl).R,us.reverse,(),(mR X r zs vs pl).bW,(mR X r zs vs pl).Places⟩:Machine) s.Expr=_:=Z
 unfold lookW
 by_cases hv:c9 r.Vars s.Expr=0
 ·grind [iI]
 ·have h2:pN X (.again s ta::K) (⟨1,ta,s,0⟩::us) r vs (pl++[fJ X.p vs pl s.Expr]):=⟨.again rfl rfl rfl h'.rel,fun t ht=>by
   rcases eA.1 ht with rfl | ht
   ·exact .inr ((by grind))
   ·exact h.tok t ht,by unfold zA;rw [ah (show ¬(1:Int)=3 by decide)];exact h'.plt,h'.ww,h'.few,h'.v⟩
  have Y:=H6 (m:=⟨X.p,X.ins,X.fuel,r,us.reverse++[⟨1,ta,s,0⟩],(),vs,pl++[fJ X.p vs pl s.Expr]⟩) (l:=s.Then) (a:=ta+1) (by omega) (by omega) (by omega) (by simp;omega)
  have hd:iI (mR X r zs vs pl) ⟨tk,ta,s,tp⟩ us.reverse=some (.inl (mR X r (ez s.Then (ta+1)++⟨1,ta,s,0⟩::us).reverse vs (pl++[fJ X.p vs pl s.Expr]))):=by
   unfold iI
   rw [an,ab,af (show (c9 r.Vars s.Expr !=0)=true by simp [hv])]
   split
   rotate_left
   ·rename_i hn
    exact absurd (show us.reverse.length+1≤1000000000 by simp;omega) hn
   rw [af (show IntKind.i64.wrap (ta+1)=ta+1 from fG (by omega) (by omega))]
   show (fF ⟨X.p,X.ins,X.fuel,r,us.reverse++[⟨1,ta,s,0⟩],(),vs,pl++[fJ X.p vs pl s.Expr]⟩ s.Then (ta+1)).bind _=_
   rw [Y,ab]
   simp [mR]
  rw [hd,ab,af hv]
  exact ⟨_,rfl,h2.push hi ag (by omega) (by omega) (by omega),by simp [p6];omega⟩
theorem pN.place{X:Ctx}{ts:List Task}{r:RunT}{vs pl:List Level}(h:pN X K ts r vs pl)(s:Stmt):pN X (.back pl.length::K) (⟨3,0,s,(pl.length:Int)⟩::ts) r vs pl:=
 ⟨.back rfl rfl h.rel,fun t ht=>by
  rcases eA.1 ht with rfl | ht
  ·exact .inl rfl
  ·exact h.tok t ht,by
  have:=h.ww.ne
  unfold zA
  rw [af rfl]
  exact ⟨by grind,by simpa using h.plt⟩,h.ww,h.few,h.v⟩
theorem doR{X:Ctx}(hX:uB X)(hL:nz X.p)(hi:i≤X.p.Funcs.length)(he:vi (cV X.p i) s=0)(hc:fD s≤50)(h0:0≤ta)(U:ta+fD s≤200){r:RunT}(h:Valid X 1 r){l:List Stmt}{ts:List Task}{vs pl:List Level}(hp:(pl.length:Int)≤r.Steps)(hT:pN X (.run l (ta+fD s)::K) ts r vs pl)(W:ts.length≤1000000):
  ∃ ts2,dV (mR X r ts.reverse vs pl) ⟨0,ta,s,tp⟩=some (mR X (jG X s ta l K r vs pl).2.1 ts2.reverse (jG X s ta l K r vs pl).2.2.1 (jG X s ta l K r vs pl).2.2.2)∧Led X (jG X s ta l K r vs pl) ts2 (ts.length+53):=by
 obtain ⟨hs,ag,aE⟩:=ET he
 obtain ⟨o1,o2,o3,o4,o5,o6⟩:=lM hs
 have a9:=sB s
 have a3:=jU s.Then
 have a0:=jU s.Else
 have aq:=hX.fuel
 have ai:=h.steps
 by_cases k2:s.Kind=2
 ·obtain ⟨c1,c2,c3,c4,c5,c6,c7⟩:=called hX hi hs k2
  obtain ⟨f1,f2,f3,f4⟩:=EX c4
  obtain ⟨_,g2,g3⟩:=By hX (k:=s.Other) c1 (by omega)
  have aC:=jU (cY X s).Body
  have aD:=(QD hX hi hs k2 h).2
  have T:=amI hX hL hi hs k2 h 0 ta tp (ts:=ts.reverse) hT.ww (by simp;omega)
  unfold jG dV
  rw [af k2,af (show ((⟨0,ta,s,tp⟩:Task).S.Kind==2)=true by simp [k2]),T,ab]
  cases au:uz X vs pl s with
  | none=>exact ⟨ts,rfl,.inr ⟨by show (3:Int)≠0;decide,rfl⟩⟩
  | some us=>
   have hb:pN X (.leave s ta::.run l (ta+fD s)::K) (⟨2,ta,s,0⟩::ts) (nv X s r) us pl:=⟨.leave rfl rfl rfl hT.rel,fun t ht=>by
    rcases eA.1 ht with rfl | ht
    ·exact .inr (.inl ⟨rfl,i,hi,hs,k2⟩)
    ·exact hT.tok t ht,by unfold zA;rw [ah (show ¬(2:Int)=3 by decide)];exact hT.plt,hT.ww.enter au,hT.few,aD.less⟩
   exact ⟨ez (cY X s).Body (nth X.first s.Other)++⟨2,ta,s,0⟩::ts,by simp,.inl ⟨aD.en,hb.push (i:=s.Other.toNat) (by omega) f3 c6 g2 (by omega),by simp [p6];omega⟩⟩
 by_cases k7:s.Kind=7
 ·have hx:=o5 (by rw [k7];rfl)
  have I:=hT.few
  have E:=hT.place ⟨0,0,0,⟨0,0,[]⟩,[],[],[]⟩
  have Z:=Zv hL hT.ww (ts:=ts.reverse++[⟨3,0,⟨0,0,0,⟨0,0,[]⟩,[],[],[]⟩,(pl.length:Int)⟩]) h hx
  have aA:pN X (.back pl.length::.run l (ta+fD s)::K) (⟨3,0,⟨0,0,0,⟨0,0,[]⟩,[],[],[]⟩,(pl.length:Int)⟩::ts) r vs (pl++[fJ X.p vs pl s.Expr]):=⟨E.rel,E.tok,E.plt.mono (by simp),E.ww.push (fE _ _ _) (by omega),by grind,E.v⟩
  have Y:=fun (l:List Stmt)(a:Int) h1 h2 h3=>H6 (m:=mR X r (ts.reverse++[⟨3,0,⟨0,0,0,⟨0,0,[]⟩,[],[],[]⟩,(pl.length:Int)⟩]) vs (pl++[fJ X.p vs pl s.Expr])) (l:=l) (a:=a) h1 h2 h3 (by simp [mR];omega)
  unfold jG
  rw [ah k2,af k7]
  by_cases hv:c9 r.Vars s.Expr=0
  ·have hd:dV (mR X r ts.reverse vs pl) ⟨0,ta,s,tp⟩=some (mR X r (ez s.Else (ta+1+bR s.Then)++⟨3,0,⟨0,0,0,⟨0,0,[]⟩,[],[],[]⟩,(pl.length:Int)⟩::ts).reverse vs (pl++[fJ X.p vs pl s.Expr])):=by
    unfold dV
    rw [ah (show ¬((⟨0,ta,s,tp⟩:Task).S.Kind==2)=true by simp [k2]),af (show ((⟨0,ta,s,tp⟩:Task).S.Kind==7)=true by simp [k7])]
    split
    rotate_left
    ·rename_i hn
     exact absurd (show ts.reverse.length+1≤1000000000 by simp;omega) hn
    show (gT (mR X r (ts.reverse++[⟨3,0,⟨0,0,0,⟨0,0,[]⟩,[],[],[]⟩,(pl.length:Int)⟩]) vs pl) s.Expr).bind _=_
    rw [Z,ab,ah (show ¬(c9 r.Vars s.Expr !=0)=true by simp [hv]),af (show IntKind.i64.wrap (ta+1)=ta+1 from fG (by omega) (by omega)),Ff (l:=s.Then) (by omega),ab,af (show IntKind.i64.wrap (ta+1+(bR s.Then:Int))=ta+1+(bR s.Then:Int) from fG (by omega) (by omega)),Y s.Else (ta+1+bR s.Then) (by omega) (by omega) (by omega),ab]
    simp [mR]
   rw [hd,ah (fun h=>h hv),ah (fun h=>h hv)]
   exact ⟨_,rfl,.inl ⟨h.en,aA.push hi aE (by omega) (by omega) (by omega),by simp [p6];omega⟩⟩
  ·have hd:dV (mR X r ts.reverse vs pl) ⟨0,ta,s,tp⟩=some (mR X r (ez s.Then (ta+1)++⟨3,0,⟨0,0,0,⟨0,0,[]⟩,[],[],[]⟩,(pl.length:Int)⟩::ts).reverse vs (pl++[fJ X.p vs pl s.Expr])):=by
    unfold dV
    rw [ah (show ¬((⟨0,ta,s,tp⟩:Task).S.Kind==2)=true by simp [k2]),af (show ((⟨0,ta,s,tp⟩:Task).S.Kind==7)=true by simp [k7])]
    split
    rotate_left
    ·rename_i hn
     exact absurd (show ts.reverse.length+1≤1000000000 by simp;omega) hn
    show (gT (mR X r (ts.reverse++[⟨3,0,⟨0,0,0,⟨0,0,[]⟩,[],[],[]⟩,(pl.length:Int)⟩]) vs pl) s.Expr).bind _=_
    rw [Z,ab,af (show (c9 r.Vars s.Expr !=0)=true by simp [hv]),af (show IntKind.i64.wrap (ta+1)=ta+1 from fG (by omega) (by omega)),Y s.Then (ta+1) (by omega) (by omega) (by omega),ab]
    simp [mR]
   rw [hd,af hv,af hv]
   exact ⟨_,rfl,.inl ⟨h.en,aA.push hi ag (by omega) (by omega) (by omega),by simp [p6];omega⟩⟩
 by_cases k8:s.Kind=8
 ·have a6:jG X s ta l K r vs pl=lookW X s ta (.back pl.length::.run l (ta+fD s)::K) r vs pl:=by grind [jG]
  rw [a6]
  have E:=hT.place ⟨0,0,0,⟨0,0,[]⟩,[],[],[]⟩
  obtain ⟨ts2,e1,e2,e3⟩:=Zw (tk:=0) (tp:=tp) hL hi he k8 hc h0 U (by omega) hp E (by simp;omega) ts.reverse
  rw [List.reverse_cons] at e1
  refine ⟨ts2,?_,.inl ⟨h.en,e2,by simp at e3;omega⟩⟩
  unfold dV
  rw [ah (show ¬((⟨0,ta,s,tp⟩:Task).S.Kind==2)=true by simp [k2]),ah (show ¬((⟨0,ta,s,tp⟩:Task).S.Kind==7)=true by simp [k7]),af (show ((⟨0,ta,s,tp⟩:Task).S.Kind==8)=true by simp [k8]),af (show ((⟨0,ta,s,tp⟩:Task).Kind==0)=true from rfl),af (show (mR X r ts.reverse vs pl).Tasks.length+_≤1000000000 by simp [mR];omega)]
  exact e1
 ·have hk:s.Kind≠2∧s.Kind<7:=⟨k2,by omega⟩
  rw [ait hX hL hs hk h 0 ta tp hT.ww]
  unfold jG
  rw [ah k2,ah k7,ah k8]
  cases aI:pG X.p vs pl s with
  | none=>exact ⟨ts,rfl,.inr ⟨by show (3:Int)≠0;decide,rfl⟩⟩
  | some us=>
   have hd:=(Zs hX hs hk h ta).2
   have bk:(vE X s ta r).Steps=r.Steps:=by
    have:=(HW X s ta [] [] r).2.1
    grind [IK]
   exact ⟨ts,rfl,.inl ⟨hd.en,⟨hT.rel,hT.tok,hT.plt,hT.ww.ahead aI,by grind,hd⟩,by omega⟩⟩
variable [Lp]
def XT(X:Ctx)(c0:jD)(m:Machine):Prop:=∃ K r ts vs pl,m=mR X r ts.reverse vs pl∧dm X c0 (K,r,vs,pl)∧
 ((r.End=0∧pN X K ts r vs pl∧(ts.length:Int)+60*(X.fuel - r.Steps)≤130000)∨(r.End≠0∧K=[]))
def S2(X:Ctx)(m:Machine):Nat:=if m.R.End=0 then (1+(m.Tasks.length:Int)+60*(X.fuel - m.R.Steps)).toNat else 0
theorem aiu{X:Ctx}{r:RunT}{ts:List Task}{vs pl:List Level}{n:Int}(h0:0<n)(h:r.End=0→1+(ts.length:Int)+60*(X.fuel - r.Steps)<n):S2 X (mR X r ts.reverse vs pl)<n.toNat:=by
 grind [S2,mR]
theorem amJ{X:Ctx}(hX:uB X)(hL:nz X.p){c0:jD}{m:Machine}(h:XT X c0 m):∃ x:Bool×Machine,lp (fun v=>uG X.fuel v) m=some x∧∃ r ts vs pl,x.2=mR X r ts vs pl∧dm X c0 ([],r,vs,pl):=by
 refine eX (S2 X) (XT X c0) (fun x:Bool×Machine=>∃ r ts vs pl,x.2=mR X r ts vs pl∧dm X c0 ([],r,vs,pl)) ?_ m h
 rintro m ⟨K,r,ts,vs,pl,rfl,hG,hi⟩
 have aq:=hX.fuel
 unfold uG BH
 rcases hi with ⟨h0,hT,hb⟩ | ⟨h2,rfl⟩
 rotate_left
 ·grind [mR]
 have e:(r.End==0)=true:=by simp [h0]
 simp only [mR,e]
 cases ts with
 | nil=>
  refine .inl ⟨(false,mR X r [] vs pl),?_,r,[],vs,pl,rfl,hG.trans (S0 hT.rel rfl)⟩
  simp [mR]
 | cons t ts=>
  have hv:=hT.v
  have ai:=hv.steps
  have hlen:((t::ts).reverse.length:Int)=(ts.length:Int)+1:=by simp
  have a0:(ts.length:Int)+1+60*(X.fuel - r.Steps)≤130000:=by simpa using hb
  have aR:(t::ts).reverse.take ts.length=ts.reverse:=by
   grind
  have H:(t::ts).reverse[ts.length]? =some t:=by
   grind
  have Q:(t::ts).reverse.length=ts.length+1:=by simp
  simp only [hlen,show (ts.length:Int)+1 - 1=(ts.length:Int) by omega]
  rw [af (show (0:Int)<(ts.length:Int)+1 by omega),ab,af rfl,af (fG (by omega) (by omega)),Jd,ab,H,ab]
  simp only [Q,aR]
  rw [af (show ts.length≤ts.length+1 by omega)]
  obtain ⟨K',g1,hd⟩:=Q1 (X:=X) (q:=(r,vs,pl)) hT.rel rfl
  have L:=hG.trans g1
  have ht:=hT.tok t (by simp)
  have aa:∀ u∈ts,TOK X u:=fun u hu=>hT.tok u (by simp [hu])
  have aX:S2 X ⟨X.p,X.ins,X.fuel,r,(t::ts).reverse,(),vs,pl⟩=(2+(ts.length:Int)+60*(X.fuel - r.Steps)).toNat:=by
   grind [S2]
  rw [aX]
  have o:=hT.plt
  unfold zA at o
  have fin:∀ {m':Machine}{K1:List rD}{r1:RunT}{ts1:List Task}{vs1 pl1:List Level},m'=mR X r1 ts1.reverse vs1 pl1→dm X c0 (K1,r1,vs1,pl1)→((r1.End=0∧pN X K1 ts1 r1 vs1 pl1∧(ts1.length:Int)+60*(X.fuel - r1.Steps)≤(ts.length:Int)+60*(X.fuel - r.Steps))∨(r1.End≠0∧K1=[]))→XT X c0 m'∧S2 X m'<(2+(ts.length:Int)+60*(X.fuel - r.Steps)).toNat:=by
   rintro m' K1 r1 ts1 vs1 pl1 rfl hg h1
   refine ⟨⟨K1,r1,ts1,vs1,pl1,rfl,hg,by grind⟩,aiu (by omega) fun h2=>?_⟩
   grind
  rcases hd with ⟨n,K2,rfl,k3,al,hR⟩ | ⟨s,K2,rfl,k2,W,hR⟩ | C
  ·rw [af k3] at o
   have hp1:=o.1
   rw [al] at hp1
   have e2:((n:Nat):Int).toNat=n:=Int.toNat_natCast n
   rw [al,e2] at o
   rw [af (show (t.Kind==3)=true by simp [k3]),al,cb (by omega),ab,e2,af (show n≤pl.length by omega)]
   have O:(pl.take n).length=n:=by grind
   have I:=hT.few
   have M:=hT.ww
   have h1:pN X K2 ts r vs (pl.take n):=⟨hR,aa,by grind,⟨M.rows,by omega,by grind,fun x hx=>M.psz x (oL hx)⟩,by rw [O];omega,hv⟩
   obtain ⟨f1,f2⟩:=fin (m':=mR X r ts.reverse vs (pl.take n)) rfl (L.trans (dm.one rfl)) (.inl ⟨h0,h1,oP _⟩)
   exact .inr ⟨_,rfl,f1,f2⟩
  ·have k3:¬t.Kind=3:=by omega
   rw [ah k3] at o
   rw [ah (show ¬(t.Kind==3)=true by simp [k3]),af (show (t.Kind==2)=true by simp [k2])]
   obtain ⟨i,hi,hs,hk⟩:∃ i:Nat,i≤X.p.Funcs.length∧cV X.p i t.S=0∧t.S.Kind=2:=by
    rcases ht with h | ⟨_,h⟩ | ⟨h | h,_⟩
    ·omega
    ·exact h
    ·omega
    ·omega
   rw [W] at hs hk
   have aG:=amH hX hL hi hs hk hv W (ts:=ts.reverse) hT.ww
   have ax:=(QE hX hi hs hk hv).2
   unfold mR at aG
   rw [aG,ab]
   cases aj:rj X.p vs pl s.Var (fJ X.p vs pl (cY X s).Result) with
   | none=>
    obtain ⟨f1,f2⟩:=fin (m':=mR X (qz r t.At) ts.reverse vs pl) (K1:=[]) rfl (L.trans (dm.one (by simp only [mF,DZ,aj]))) (.inr ⟨by show (3:Int)≠0;decide,rfl⟩)
    exact .inr ⟨_,rfl,f1,f2⟩
   | some us=>
    obtain ⟨f1,f2⟩:=fin (m':=mR X (wy X s r) ts.reverse us pl) (K1:=K2) rfl (L.trans (dm.one (by simp only [mF,DZ,aj]))) (.inl ⟨ax.en,⟨hR,aa,o,hT.ww.put (fE _ _ _) aj,hT.few,ax⟩,oP _⟩)
    exact .inr ⟨_,rfl,f1,f2⟩
  have ao:t.Kind=0∨t.Kind=1:=by
   grind
  have k3:¬t.Kind=3:=by omega
  have k2:¬t.Kind=2:=by omega
  rw [ah k3] at o
  rw [ah (show ¬(t.Kind==3)=true by simp [k3]),ah (show ¬(t.Kind==2)=true by simp [k2])]
  obtain ⟨i,hi,he,hc,aw,av⟩:∃ i:Nat,i≤X.p.Funcs.length∧vi (cV X.p i) t.S=0∧fD t.S≤50∧0≤t.At∧t.At+fD t.S≤200:=by
   rcases ht with h | ⟨h,_⟩ | ⟨_,h⟩
   ·omega
   ·omega
   ·exact h
  have k18:t.Kind=1→t.S.Kind=8:=fun h1=>by
   rcases ht with h | ⟨h,_⟩ | ⟨h | h,_⟩
   ·omega
   ·omega
   ·omega
   ·exact h.2
  by_cases hf:r.Steps=X.fuel
  ·rw [af (show (r.Steps==X.fuel)=true by simp [hf])]
   have F:dm X (K',r,vs,pl) ([],r.out,vs,pl):=by
    grind [dm.one,mF]
   obtain ⟨f1,f2⟩:=fin (m':=mR X r.out ts.reverse vs pl) (K1:=[]) rfl (L.trans F) (.inr ⟨by show (2:Int)≠0;decide,rfl⟩)
   exact .inr ⟨_,rfl,f1,f2⟩
  rw [ah (show ¬(r.Steps==X.fuel)=true by simp [hf]),af (fG (by omega) (by omega))]
  have V:=hv.tick hf
  have I:=hT.few
  have D:r.tick.Steps=r.Steps+1:=rfl
  obtain ⟨tk,ta,s',tp⟩:=t
  simp only at C he hc aw av k3 k2 ao k18 o
  rcases C with ⟨s,K2,rfl,k1,rfl,hR⟩ | ⟨s,l,K2,rfl,k0,rfl,hR⟩
  ·have k8:=k18 k1
   have ae:pN X K2 ts r.tick vs pl:=⟨hR,aa,o,hT.ww,by rw [D];omega,V.less⟩
   obtain ⟨ts2,e1,e2,e3⟩:=Zw (tk:=tk) (tp:=tp) hL hi he k8 hc aw av (by rw [D];omega) (by rw [D];omega) ae (by omega) ts.reverse
   have a8:dV (mR X r.tick ts.reverse vs pl) ⟨tk,ta,s',tp⟩=some (mR X r.tick ts2.reverse vs (pl++[fJ X.p vs pl s'.Expr])):=by
    unfold dV
    rw [ah (show ¬((⟨tk,ta,s',tp⟩:Task).S.Kind==2)=true by simp [k8]),ah (show ¬((⟨tk,ta,s',tp⟩:Task).S.Kind==7)=true by simp [k8]),af (show ((⟨tk,ta,s',tp⟩:Task).S.Kind==8)=true by simp [k8]),ah (show ¬((⟨tk,ta,s',tp⟩:Task).Kind==0)=true by simp [k1])]
    exact e1
   have J:dV ⟨X.p,X.ins,X.fuel,⟨r.Events,r.Vars,r.Taken,r.Steps+1,r.End,r.Stop⟩,ts.reverse,(),vs,pl⟩ ⟨tk,ta,s',tp⟩=_:=a8
   rw [J,ab]
   obtain ⟨f1,f2⟩:=fin (m':=mR X r.tick ts2.reverse vs (pl++[fJ X.p vs pl s'.Expr])) (K1:=(lookW X s' ta K2 r.tick vs pl).1) rfl (L.trans (dm.one (by simp only [mF];rw [ah hf];rfl))) (.inl ⟨V.en,e2,by rw [D];omega⟩)
   grind
  ·have ae:pN X (.run l (ta+fD s')::K2) ts r.tick vs pl:=⟨hR,aa,o,hT.ww,by rw [D];omega,V.less⟩
   obtain ⟨ts2,e1,e2⟩:=doR (tp:=tp) hX hL hi he hc aw av V (by rw [D];omega) ae (by omega)
   subst k0
   have J:dV ⟨X.p,X.ins,X.fuel,⟨r.Events,r.Vars,r.Taken,r.Steps+1,r.End,r.Stop⟩,ts.reverse,(),vs,pl⟩ ⟨0,ta,s',tp⟩=_:=e1
   rw [J,ab]
   have F:dm X c0 (jG X s' ta l K2 r.tick vs pl):=L.trans ((by grind [dm.one,mF]))
   obtain ⟨f1,f2⟩:=fin (m':=mR X (jG X s' ta l K2 r.tick vs pl).2.1 ts2.reverse (jG X s' ta l K2 r.tick vs pl).2.2.1 (jG X s' ta l K2 r.tick vs pl).2.2.2) (K1:=(jG X s' ta l K2 r.tick vs pl).1) rfl F (by
    rcases e2 with ⟨d1,d2,d3⟩ | ⟨d1,d2⟩
    ·refine .inl ⟨d1,d2,?_⟩
     have:(jG X s' ta l K2 r.tick vs pl).2.1.Steps=r.Steps+1:=by
      rw [←D]
      unfold jG at d1 ⊢
      by_cases q2:s'.Kind=2
      ·rw [af q2] at d1 ⊢
       cases hq:uz X vs pl s' with
       | none=>rfl
       | some us=>rfl
      rw [ah q2] at d1 ⊢
      by_cases q7:s'.Kind=7
      ·rw [af q7]
      rw [ah q7] at d1 ⊢
      by_cases q8:s'.Kind=8
      ·rw [af q8];rfl
      rw [ah q8] at d1 ⊢
      cases hq:pG X.p vs pl s' with
      | none=>rfl
      | some us=>
       have:=(HW X s' ta [] [] r.tick).2.1
       grind [IK]
     omega
    grind)
   grind
theorem Wy{p:Program}{ins:List (List Int)}{fuel:Int}(h:nE p ins fuel=0):∃ r vs,CT p ins fuel=some (r,vs)∧D0 (lR p ins fuel) (Eb p) r vs:=by
 have hX:=QF h
 have hL:nz p:=Qp (G8 h)
 have G:Zp p:=hX.ok
 have aq:0≤fuel∧fuel≤2000:=hX.fuel
 have b1:=G.vars
 have b2:=G.ins
 have aZ:ly p.ak=some (jl (MM p)):=LL _ hL.eV
 unfold CT
 rw [af (by omega),af (by omega)]
 have aB:=me (B:=fun v=>uE p v.1 v.2) p.Vars.length (fun k=>(k,List.replicate k (jl (MM p)))) (x:=(p.Vars.length,false,List.replicate p.Vars.length (jl (MM p)))) ((by grind [uE,eQ,List.replicate_succ'])) (by
  grind [uE])
 simp only [List.replicate_zero] at aB
 obtain ⟨g1,g2,g3⟩:=By hX (k:=(p.Funcs.length:Int)) (by omega) (oP _)
 have ar:oY p (p.Funcs.length:Int)=some (nth (eN 0 p.Funcs) p.Funcs.length):=LJ hX (by omega) (oP _)
 have g2':0≤nth (eN 0 p.Funcs) p.Funcs.length:=g2
 have g3':nth (eN 0 p.Funcs) p.Funcs.length≤50:=g3
 have bg:=jU p.Main
 rw [aB,ab,aZ,ab,af (by simp),ar,ab,H6 G.main.1 g2' (by omega) (by simp),ab]
 have hv:Valid (lR p ins fuel) 0 (init p):=⟨by simp [init,lR],fun x hx=>by rw [u4 hx];rfl,by simp [init,lR],by grind [init],by simp only [init];exact ⟨by decide,aq.1⟩,by simp [init],rfl⟩
 have bb:pN (lR p ins fuel) [] [] (init p) (List.replicate p.Vars.length (jl (MM p))) [jl (MM p)]:=⟨.nil,by simp,trivial,SU,by simp [init],hv⟩
 have aJ:=bb.push (i:=p.Funcs.length) (bG _) (l:=p.Main) (a:=nth (eN 0 p.Funcs) p.Funcs.length) G.mains G.main.1 g2' (by have:=G.main.1;omega)
 rw [Gb] at aJ
 obtain ⟨y,hy,r,ts,vs,pl,e1,hG⟩:=amJ hX hL (c0:=Eb p) (m:=⟨p,ins,fuel,init p,[]++(ez p.Main (nth (eN 0 p.Funcs) p.Funcs.length)).reverse,(),List.replicate p.Vars.length (jl (MM p)),[]++[jl (MM p)]⟩)
  ⟨_,init p,ez p.Main (nth (eN 0 p.Funcs) p.Funcs.length),_,_,rfl,dm.refl _ _,.inl ⟨rfl,aJ,by rw [p6];show (p.Main.length:Int)+60*(fuel - 0)≤130000;have:=G.main.1;omega⟩⟩
 have aM:lp (fun v=>uG fuel v) ⟨p,ins,fuel,⟨[],List.replicate p.Vars.length 0,List.replicate p.Ins.length 0,0,0,0⟩,[]++(ez p.Main (nth (eN 0 p.Funcs) p.Funcs.length)).reverse,(),List.replicate p.Vars.length (jl (MM p)),[]++[jl (MM p)]⟩=some y:=hy
 rw [aM,ab,e1]
 unfold wL
 by_cases h0:r.End=0
 ·rw [af (show ((mR (lR p ins fuel) r ts vs pl).R.End==0)=true by simp [mR,h0]),ab]
  exact ⟨_,_,rfl,r,pl,hG,by unfold HY;rw [af h0];rfl⟩
 ·rw [ah (show ¬((mR (lR p ins fuel) r ts vs pl).R.End==0)=true by simp [mR,h0]),ab]
  exact ⟨_,_,rfl,r,pl,hG,by unfold HY;rw [ah h0];rfl⟩
def wP(X:Ctx)(v t:Nat)(r:RunT):Prop:=r.Vars.length=v∧r.Taken.length=t∧(r.Events.length:Int)≤r.Steps∧r.Steps≤X.fuel
theorem aar(X:Ctx)(s:Stmt)(a:Int)(r:RunT):(vE X s a r).Vars.length=r.Vars.length∧(vE X s a r).Taken.length=r.Taken.length∧(vE X s a r).Events.length≤r.Events.length+1∧(vE X s a r).Steps=r.Steps:=by
 grind [vE,RunT.set,RunT.ke,RunT.ev]
variable {v t:Nat}{c:jD}
theorem wP.step{X:Ctx}(h:wP X v t c.2.1):wP X v t (mF X c).2.1:=by
 obtain ⟨K,r,vs,pl⟩:=c
 obtain ⟨h1,h2,h3,h4⟩:=h
 match K with
 | []=>exact ⟨h1,h2,h3,h4⟩
 | .back n::K=>exact ⟨h1,h2,h3,h4⟩
 | .leave s a::K=>
  simp only [mF,DZ]
  split
  ·exact ⟨by grind [wy,RunT.set,RunT.ke],h2,h3,h4⟩
  ·exact ⟨h1,h2,h3,h4⟩
 | .run [] a::K=>exact ⟨h1,h2,h3,h4⟩
 | .again s a::K=>
  simp only [mF]
  split
  ·exact ⟨h1,h2,h3,h4⟩
  ·rename_i hf
   have bd:(r.Events.length:Int)≤r.Steps:=h3
   have bc:r.Steps≤X.fuel:=h4
   exact ⟨h1,h2,by grind [lookW,RunT.tick],by grind [lookW,RunT.tick]⟩
 | .run (s::l) a::K=>
  simp only [mF]
  split
  ·exact ⟨h1,h2,h3,h4⟩
  ·rename_i hf
   have bd:(r.Events.length:Int)≤r.Steps:=h3
   have bc:r.Steps≤X.fuel:=h4
   have ht:wP X v t r.tick:=⟨h1,h2,by grind [RunT.tick],by grind [RunT.tick]⟩
   unfold jG
   split
   ·split
    ·exact ⟨by simp only [nv,RunT.ke,JG];exact h1,ht.2.1,ht.2.2.1,ht.2.2.2⟩
    ·exact ⟨h1,ht.2.1,ht.2.2.1,ht.2.2.2⟩
   split
   ·exact ht
   split
   ·exact ht
   split
   ·obtain ⟨d1,d2,d3,d4⟩:=aar X s a r.tick
    have e3:(r.tick.Events.length:Int)=r.Events.length:=rfl
    have e4:r.tick.Steps=r.Steps+1:=rfl
    exact ⟨d1.trans h1,d2.trans h2,by simp only;omega,by simp only;omega⟩
   ·exact ⟨h1,ht.2.1,ht.2.2.1,ht.2.2.2⟩
theorem wP.iter{X:Ctx}: ∀ (n:Nat){c:jD},wP X v t c.2.1→wP X v t (EY X n c).2.1
 | 0,c,h=>h
 | n+1,c,h=>wP.iter n h.step
theorem RY{X:Ctx}{r:RunT}{vs:List Level}(h:D0 X c r vs)(hk:wP X v t c.2.1):wP X v t r:=by
 obtain ⟨q,pl,⟨n,hn⟩,rfl⟩:=h
 have:=wP.iter n hk
 rw [hn] at this
 unfold HY
 split
 ·exact this
 ·exact this
variable [Lp]
theorem LQ{a:List Event}(h:a.length≤9223372036854775807):tT a a=some true:=by
 unfold tT
 rw [ah (by simp)]
 have:=me (B:=fun v=>nH a a v) a.length (fun k=>k) (x:=.inr (a.length,false)) ((by grind [nH,eQ])) (by
  grind [nH])
 rw [this];rfl
theorem OJ{a:List Int}(h:a.length≤9223372036854775807):sS a a=some true:=by
 unfold sS
 rw [ah (by simp)]
 have:=me (B:=fun v=>pO a a v) a.length (fun k=>k) (x:=.inr (a.length,false)) ((by grind [pO,eQ])) (by
  grind [pO])
 rw [this];rfl
theorem HB{r:RunT}(h1:r.Events.length≤9223372036854775807)(h2:r.Vars.length≤9223372036854775807)(h3:r.Taken.length≤9223372036854775807):yT r r=some true:=by
 grind [yT,yD,m7,LQ,OJ]
theorem El{a:List Bool}(h:a.length≤9223372036854775807):qW a a=some true:=by
 unfold qW
 rw [ah (by simp)]
 have:=me (B:=fun v=>oK a a v) a.length (fun k=>k) (x:=.inr (a.length,false)) ((by grind [oK,eQ])) (by
  grind [oK])
 rw [this];rfl
theorem CX(hn:n≤1000000){a:List Level}(h:a.length≤1000000)(hs:∀ l∈a,dH n l):tU a a=some true:=by
 unfold tU
 rw [ah (by simp)]
 have hl:∀ l∈a,uV l l=some true:=fun l hl=>by
  have:=hs l hl
  unfold uV
  rw [El (by rw [this.1];omega),El (by rw [this.2];omega)]
  rfl
 have:=me (B:=fun v=>nI a a v) a.length (fun k=>k) (x:=.inr (a.length,false)) ((by grind [nI,eQ])) (by
  grind [nI])
 rw [this];rfl
theorem OK(p:Program)(ins:List (List Int))(fuel:Int)(hp:∀ f∈p.Funcs,f.Params.length≤9223372036854775807):z8 p ins fuel=some true:=by
 unfold z8 qF HA wN
 have hb:yA=some true:=rfl
 obtain ⟨a1,a2⟩:=Wi (ins:=ins) (fuel:=fuel) hp
 rw [RW hp,hb]
 by_cases hx:nE p ins fuel=0
 ·obtain ⟨r,vs,hr,⟨pl,M⟩,az⟩:=a2 hx
  obtain ⟨r',vs',aU,aT⟩:=Wy hx
  obtain ⟨rfl,rfl⟩:=az.eq aT
  have hX:=QF hx
  have hL:nz p:=Qp (G8 hx)
  have hf:0≤fuel∧fuel≤2000:=hX.fuel
  have aP:p.Vars.length≤16:=hX.ok.vars
  have bi:p.Ins.length≤5:=hX.ok.ins
  obtain ⟨c1,c2,c3,c4⟩:=RY az (v:=p.Vars.length) (t:=p.Ins.length) ⟨by simp [Eb,init],by simp [Eb,init],by simp [Eb,init],hf.1⟩
  have c4':r.Steps≤fuel:=c4
  rw [hr,aU,hx]
  simp only [ab,aH,bne_self_eq_false,dy,cH,xG]
  have hs:=CX hL.small (by have:=M.rows.vl;omega) M.rows.vs
  rw [HB (r:=r) (by omega) (by omega) (by omega)]
  grind
 ·rw [a1 hx]
  have e1:(nE p ins fuel==0)=false:=by simp [hx]
  have e2:(nE p ins fuel !=0)=true:=by simp [hx]
  simp only [ab,e1,e2,dy,cH,aH,xG]
  have hs:=CX (n:=0) (by omega) (a:=[]) (by simp) (by simp)
  grind [HB]
end Go.Proofs.YtlmphbbhaeampaaGreat.A
