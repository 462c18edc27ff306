/- Watched runs, step by step, as plain mathematics. -/
import Derived.Test.YtlmphbbhaeampaaGreatRunS
import Derived.Test.YtlmphbbhaeampaaGreatSpkS
import Derived.Test.YtlmphbbhaeampaaGreatRunP
set_option linter.all false
namespace Go.Proofs.YtlmphbbhaeampaaGreat.A
open Go
inductive rD where
 | run (l:List Stmt) (a:Int)
 | leave (s:Stmt) (a:Int)
 | again (s:Stmt) (a:Int)
 | back (n:Nat)
abbrev jD:=List rD×RunT×List Level×List Level
def qz(r:RunT)(a:Int):RunT:=⟨r.Events,r.Vars,r.Taken,r.Steps,3,a⟩
section
variable (p:Program)(vs pl:List Level)
def CI:Level:=pl.getLastD (jl (MM p))
def fJ(e:ay):Level:=o9 (MM p) (CI p pl) (Zr (MM p) vs e)
def Bo(n:Int)(l:Level):Bool:=nx (MM p) (CI p pl) (vs.getD n.toNat (jl (MM p)))&&(!(iu p n).Known||nx (MM p) l (iQ p.ak (iu p n).Label))
def rj(n:Int)(l:Level):Option (List Level):=if Bo p vs pl n l=true then some (vs.set n.toNat l) else none
def Bp(l:List Label)(n:Int):Level:=iQ p.ak (l.getD n.toNat ⟨[],[]⟩)
def MW(s:Stmt):Level:=
 if s.Kind=5 then ⟨(iQ p.ak (iu p s.Var).Label).Readers,(fJ p vs pl s.Expr).Writers⟩ else ⟨(fJ p vs pl s.Expr).Readers,(iQ p.ak (iu p s.Var).Label).Writers⟩
def pG(s:Stmt):Option (List Level):=
 if s.Kind=1 then rj p vs pl s.Var (fJ p vs pl s.Expr)
 else if s.Kind=3 then (if nx (MM p) (CI p pl) (Bp p p.Ins s.Other)=true then rj p vs pl s.Var (o9 (MM p) (CI p pl) (Bp p p.Ins s.Other)) else none)
 else if s.Kind=4 then (if nx (MM p) (fJ p vs pl s.Expr) (Bp p p.Outs s.Other)=true then some vs else none)
 else if (iu p s.Var).Known=true∧tG p s=false∧tH p s=false then rj p vs pl s.Var (MW p vs pl s) else none
def ox:List Int→List ay→Bool
 | n::ps,e::es=>Bo p vs pl n (fJ p vs pl e)&&ox ps es
 | _,_=>true
end
def qA:List Level→List Int→List Level→List Level
 | vs,n::ps,x::xs=>qA (vs.set n.toNat x) ps xs
 | vs,_,_=>vs
def uz(X:Ctx)(vs pl:List Level)(s:Stmt):Option (List Level):=
 if ox X.p vs pl (cY X s).Params s.Args=true then some (qA vs (cY X s).Params (s.Args.map (fJ X.p vs pl))) else none
def lookW(X:Ctx)(s:Stmt)(a:Int)(K:List rD)(r:RunT)(vs pl:List Level):jD:=
 (if c9 r.Vars s.Expr≠0 then .run s.Then (a+1)::.again s a::K else K,r,vs,pl++[fJ X.p vs pl s.Expr])
def jG(X:Ctx)(s:Stmt)(a:Int)(l:List Stmt)(K:List rD)(r:RunT)(vs pl:List Level):jD:=
 if s.Kind=2 then (match uz X vs pl s with
  | some us=>(.run (cY X s).Body (nth X.first s.Other)::.leave s a::.run l (a+fD s)::K,nv X s r,us,pl)
  | none=>([],qz r a,vs,pl))
 else if s.Kind=7 then (.run (if c9 r.Vars s.Expr≠0 then s.Then else s.Else) (if c9 r.Vars s.Expr≠0 then a+1 else a+1+bR s.Then)::.back pl.length::.run l (a+fD s)::K,r,vs,pl++[fJ X.p vs pl s.Expr])
 else if s.Kind=8 then lookW X s a (.back pl.length::.run l (a+fD s)::K) r vs pl
 else (match pG X.p vs pl s with
  | some us=>(.run l (a+fD s)::K,vE X s a r,us,pl)
  | none=>([],qz r a,vs,pl))
def DZ(X:Ctx)(s:Stmt)(a:Int)(K:List rD)(r:RunT)(vs pl:List Level):jD:=
 match rj X.p vs pl s.Var (fJ X.p vs pl (cY X s).Result) with
  | some us=>(K,wy X s r,us,pl)
  | none=>([],qz r a,vs,pl)
def mF(X:Ctx):jD→jD
 | ([],q)=>([],q)
 | (.back n::K,r,vs,pl)=>(K,r,vs,pl.take n)
 | (.leave s a::K,r,vs,pl)=>DZ X s a K r vs pl
 | (.run [] _::K,q)=>(K,q)
 | (.again s a::K,r,vs,pl)=>if r.Steps=X.fuel then ([],r.out,vs,pl) else lookW X s a K r.tick vs pl
 | (.run (s::l) a::K,r,vs,pl)=>if r.Steps=X.fuel then ([],r.out,vs,pl) else jG X s a l K r.tick vs pl
def EY(X:Ctx):Nat→jD→jD
 | 0,c=>c
 | n+1,c=>EY X n (mF X c)
theorem CJ(X:Ctx):∀ (n m:Nat)(c:jD),EY X (n+m) c=EY X m (EY X n c)
 | 0,m,c=>by rw [jL];rfl
 | n+1,m,c=>by rw [show n+1+m=(n+m)+1 by omega];exact CJ X n m (mF X c)
theorem GW(X:Ctx)(q:RunT×List Level×List Level):∀ n,EY X n ([],q)=([],q)
 | 0=>rfl
 | n+1=>GW X q n
def dm(X:Ctx)(c d:jD):Prop:=∃ n,EY X n c=d
theorem dm.refl(X:Ctx)(c:jD):dm X c c:=⟨0,rfl⟩
variable {X:Ctx}{c:jD}
theorem dm.trans{d e:jD}: dm X c d→dm X d e→dm X c e
 | ⟨n,h⟩,⟨m,h'⟩=>⟨n+m,by rw [CJ,h,h']⟩
theorem dm.one{d:jD}(h:mF X c=d):dm X c d:=⟨1,h⟩
theorem dm.Bi{q s:RunT×List Level×List Level}: dm X c ([],q)→dm X c ([],s)→q=s
 | ⟨n,h⟩,⟨m,h'⟩=>by
  rcases Nat.le_total n m with hm | hm
  ·grind [Nat.exists_eq_add_of_le,CJ,GW]
  grind [Nat.exists_eq_add_of_le,CJ,GW]
def HY(r:RunT):RunT:=if r.End=0 then ⟨r.Events,r.Vars,r.Taken,r.Steps,1,r.Stop⟩ else r
def D0(X:Ctx)(c:jD)(r:RunT)(vs:List Level):Prop:=∃ q pl,dm X c ([],q,vs,pl)∧r=HY q
variable {r:RunT}{us:List Level}
theorem D0.eq{s:RunT}{vs:List Level}: D0 X c r vs→D0 X c s us→r=s∧vs=us
 | ⟨q,pl,h,e⟩,⟨q',pl',h',e'⟩=>by
  have:=h.Bi h'
  grind
structure WW(p:Program)(vs pl:List Level):Prop where
 rows:K9 p vs (List.replicate p.Funcs.length (jl (MM p)))
 ne:0<pl.length
 few:pl.length≤3000
 psz:∀ l∈pl,dH (MM p) l
variable [Lp]
theorem WW.NY{p:Program}{vs pl:List Level}(h:WW p vs pl):dH (MM p) (CI p pl):=by
 unfold CI
 cases pl with
 | nil=>exact vG _
 | cons x l=>
  rw [List.getLastD_eq_getLast?,List.getLast?_eq_some_getLast (by simp),xn]
  exact h.psz _ (List.getLast_mem _)
variable {l:Level}
theorem WW.set{p:Program}{vs pl:List Level}(h:WW p vs pl)(n:Nat)(hl:dH (MM p) l):WW p (vs.set n l) pl:=
 ⟨⟨by rw [yV];exact h.rows.vl,h.rows.fl,fun x hx=>(lX hx).elim (h.rows.vs x) fun e=>e▸hl,h.rows.fs⟩,h.ne,h.few,h.psz⟩
theorem WW.push{p:Program}{vs pl:List Level}(h:WW p vs pl)(hl:dH (MM p) l)(hf:pl.length+1≤3000):WW p vs (pl++[l]):=
 ⟨h.rows,by simp,by simp;omega,fun x hx=>(iA.1 hx).elim (h.psz x) (by grind)⟩
theorem WW.put{p:Program}{vs pl:List Level}(h:WW p vs pl){n:Int}(hl:dH (MM p) l)(hs:rj p vs pl n l=some us):WW p us pl:=by
 unfold rj at hs
 split at hs
 ·obtain rfl:=aq hs
  exact h.set _ hl
 ·cases hs
theorem fE{p:Program}(vs pl:List Level)(e:ay):dH (MM p) (fJ p vs pl e):=tF _ _ _
theorem Wa{p:Program}(vs pl:List Level)(s:Stmt):dH (MM p) (MW p vs pl s):=by
 have h1:=kY p.ak (iu p s.Var).Label
 have h2:=fE (p:=p) vs pl s.Expr
 unfold MW
 split
 ·exact ⟨h1.1,h2.2⟩
 ·exact ⟨h2.1,h1.2⟩
variable {s:Stmt}
theorem WW.ahead{p:Program}{vs pl:List Level}(h:WW p vs pl)(hs:pG p vs pl s=some us):WW p us pl:=by
 unfold pG at hs
 split at hs
 ·exact h.put (fE _ _ _) hs
 split at hs
 ·split at hs
  ·exact h.put (tF _ _ _) hs
  ·cases hs
 split at hs
 ·grind
 split at hs
 ·exact h.put (Wa _ _ _) hs
 ·cases hs
theorem WW.qA{p:Program}{pl:List Level} : ∀ (ps:List Int)(xs vs:List Level),WW p vs pl→(∀ x∈xs,dH (MM p) x)→WW p (qA vs ps xs) pl
 | [],xs,vs,h,_=>by cases xs<;>exact h
 | _::_,[],vs,h,_=>h
 | n::ps,x::xs,vs,h,hx=>WW.qA ps xs _ (h.set _ (hx x (by simp))) fun y hy=>hx y (by simp [hy])
theorem WW.enter{vs pl:List Level}(h:WW X.p vs pl)(hs:uz X vs pl s=some us):WW X.p us pl:=by
 unfold uz at hs
 split at hs
 ·obtain rfl:=aq hs
  exact h.qA _ _ _ (by grind [fE])
 ·cases hs
variable [Lp]
def eE(p:Program)(vars places:List Level):aI:=⟨(),p,vars,places,()⟩
theorem CN(p:Program)(vars places:List Level):(eE p vars places).p=p:=rfl
theorem E5(p:Program)(vars places:List Level):(eE p vars places).vars=vars:=rfl
theorem E6(p:Program)(vars places:List Level):(eE p vars places).places=places:=rfl
section
variable {p:Program}(h:nz p){vs pl:List Level}(hw:WW p vs pl)(c1:Runner)(c2:aW)
include hw
theorem G7:ft (eE p vs pl) c1 c2=some (CI p pl):=by
 have h1:=hw.ne
 have h2:=hw.few
 have ac:IntKind.i64.wrap (((eE p vs pl).places.length:Int) - 1)=((eE p vs pl).places.length:Int) - 1:=by grind [fG,E6]
 have ad:cU (((eE p vs pl).places.length:Int) - 1)=some (pl.length - 1):=by
  grind [E6,cb]
 grind [ft,E6,CI]
include h
theorem Ea{e:ay}(he:eP p e=0):eR (eE p vs pl) c1 c2 e=some (fJ p vs pl e):=by
 obtain ⟨h2,s2⟩:=Qx h hw.rows he
 unfold eR
 rw [G7 hw,ab,CN,E5,h2,ab,K6 h.small hw.NY s2,ab]
 rfl
theorem Uc{n:Int}(h0:0≤n)(h1:n<p.Vars.length):p.Vars[n.toNat]? =some (iu p n)∧fw p.ak.Many (iu p n).Label=0:=by
 have:=AL h h0 (by omega)
 unfold CH at this
 rw [cb h0,ab] at this
 exact ⟨this.1,h.vars _ this.2⟩
theorem SS{n:Int}(h0:0≤n)(h1:n<p.Vars.length)(hl:dH (MM p) l):kC (eE p vs pl) c1 c2 n l=some (Bo p vs pl n l):=by
 have hv:=Uc h hw h0 h1
 have o:n.toNat<vs.length:=by rw [hw.rows.vl];omega
 have hd:vs.getD n.toNat (jl (MM p))=vs[n.toNat]:=by grind
 unfold kC Bo
 rw [G7 hw,ab,cb h0,ab,E5,CN,bu o,ab,HX h.small hw.NY (hw.rows.vs _ (cg o)),ab,hd]
 cases nx (MM p) (CI p pl) vs[n.toNat] with
 | false=>rfl
 | true=>
  rw [af rfl,hv.1,ab]
  cases hk:(iu p n).Known with
  | false=>rfl
  | true=>
   rw [af rfl,Ua _ h.eV _ hv.2,ab,HX h.small hl (kY _ _),ab]
   simp
theorem H3{n:Int}(h0:0≤n)(h1:n<p.Vars.length)(hl:dH (MM p) l):
  fV (eE p vs pl) c1 c2 n l=some (match rj p vs pl n l with | some us=>(true,eE p us pl) | none=>(false,eE p vs pl)):=by
 unfold fV rj
 rw [SS h hw c1 c2 h0 h1 hl,ab]
 cases Bo p vs pl n l with
 | false=>rfl
 | true=>
  rw [af rfl,af rfl,cb h0,ab,E5,bu (by rw [hw.rows.vl];omega),ab]
  rfl
theorem QG{e:ay}(he:eP p e=0)(hf:pl.length+1≤3000):jY (eE p vs pl) c1 c2 e=some (eE p vs (pl++[fJ p vs pl e])):=by
 unfold jY
 rw [Ea h hw c1 c2 he,ab,af (by grind [E6])]
 rfl
end
section
variable {p:Program}(h:nz p){vs pl:List Level}(hw:WW p vs pl)(c1:Runner)
include hw h
theorem Ud(hv:0≤s.Var∧s.Var<p.Vars.length)(he:eP p s.Expr=0):
  k9 (eE p vs pl) c1 (jd p) s=some (match if (iu p s.Var).Known=true∧tG p s=false∧tH p s=false then rj p vs pl s.Var (MW p vs pl s) else none with | some us=>(true,eE p us pl) | none=>(false,eE p vs pl)):=by
 have hg:=Uc h hw hv.1 hv.2
 have d1:∀ (r w:List Bool),r.length=MM p→w.length=MM p→gd (eE p vs pl) c1 (jd p) s r w=some (match rj p vs pl s.Var ⟨r,w⟩ with | some us=>(true,eE p us pl) | none=>(false,eE p vs pl)):=fun r w h1 h2=>by
  unfold gd
  rw [H3 h hw c1 (jd p) hv.1 hv.2 (l:=⟨r,w⟩) ⟨h1,h2⟩,ab]
 unfold k9
 rw [cb hv.1,ab,CN,hg.1,ab]
 cases hk:(iu p s.Var).Known with
 | false=>simp
 | true=>
  rw [af rfl,V8 h hv he,ab]
  cases tG p s with
  | true=>simp
  | false=>
   rw [ah (by simp),V9 h hv he,ab]
   cases tH p s with
   | true=>simp
   | false=>
    have s1:=kY p.ak (iu p s.Var).Label
    have s2:=fE (p:=p) vs pl s.Expr
    rw [ah (by simp),Ua _ h.eV _ hg.2,ab,Ea h hw c1 (jd p) he,ab]
    unfold MW
    by_cases k5:s.Kind=5
    ·rw [af (by simp [k5]),d1 _ _ s1.1 s2.2,ab]
     simp [k5]
    ·rw [ah (by simp [k5]),d1 _ _ s2.1 s1.2,ab]
     simp [k5]
theorem Wd{i:Int}(hs:cV p i s=0)(hk:s.Kind≠2∧s.Kind<7):
  lO (eE p vs pl) c1 (jd p) s=some (match pG p vs pl s with | some us=>(true,eE p us pl) | none=>(false,eE p vs pl)):=by
 obtain ⟨o1,o2,o3,o4,o5,o6⟩:=lM hs
 unfold lO pG
 by_cases k1:s.Kind=1
 ·have v1:=o2 (by rw [k1];rfl)
  have he:=o5 (by rw [k1];rfl)
  grind [Ea,H3,fE]
 rw [ah (by simp [k1]),ah k1]
 by_cases k3:s.Kind=3
 ·have v1:=o2 (by rw [k3];rfl)
  have v2:=o3 (by rw [k3];rfl)
  have e3:fL p i s.Kind=p.Ins.length:=by rw [k3];rfl
  rw [e3] at v2
  have t:s.Other.toNat<p.Ins.length:=by omega
  have hd:Bp p p.Ins s.Other=iQ p.ak p.Ins[s.Other.toNat]:=by unfold Bp;grind
  have s2:=kY p.ak p.Ins[s.Other.toNat]
  rw [af (by simp [k3]),af k3,cb v2.1,ab,CN,bu t,ab,Ua _ h.eV _ (h.ins _ (cg t)),ab,G7 hw,ab,HX h.small hw.NY s2,ab,hd]
  cases nx (MM p) (CI p pl) (iQ p.ak p.Ins[s.Other.toNat]) with
  | false=>rfl
  | true=>
   rw [af rfl,af rfl,ab,K6 h.small hw.NY s2,ab,H3 h hw c1 (jd p) v1.1 v1.2 (tF _ _ _),ab]
 rw [ah (by simp [k3]),ah k3]
 have he:=o5 (by simp [gG,hk.1,k3])
 by_cases k4:s.Kind=4
 ·have v2:=o3 (by rw [k4];rfl)
  have e3:fL p i s.Kind=p.Outs.length:=by rw [k4];rfl
  rw [e3] at v2
  have t:s.Other.toNat<p.Outs.length:=by omega
  have hd:Bp p p.Outs s.Other=iQ p.ak p.Outs[s.Other.toNat]:=by unfold Bp;grind
  have s2:=kY p.ak p.Outs[s.Other.toNat]
  rw [af (by simp [k4]),af k4,Ea h hw c1 (jd p) he,ab,cb v2.1,ab,CN,bu t,ab,Ua _ h.eV _ (h.outs _ (cg t)),ab,HX h.small (fE _ _ _) s2,ab,hd]
  grind
 grind [fI,Ud]
end
theorem NZ(vs xs:List Level):qA vs [] xs=vs:=by cases xs<;>rfl
theorem We(hX:uB X)(h:nz X.p){vs pl:List Level}(hw:WW X.p vs pl)(c1:Runner){i:Nat}(hi:i≤X.p.Funcs.length)(hs:cV X.p i s=0)(hk:s.Kind=2):
  lN (eE X.p vs pl) c1 (jd X.p) s=some (match uz X vs pl s with | some us=>(true,eE X.p us pl) | none=>(false,eE X.p vs pl)):=by
 obtain ⟨q1,q2,q3,q4,q5,_⟩:=called hX hi hs hk
 obtain ⟨f1,f2,f3,f4⟩:=EX q4
 obtain ⟨o1,o2,o3,o4,o5,o6⟩:=lM hs
 unfold lN uz
 rw [cb q1,ab,CN,q3,ab]
 obtain ⟨x,hx,hQ⟩:=eX (B:=fun v=>kv (eE X.p vs pl) c1 (jd X.p) s (cY X s) v.1 v.2) (fun v=>s.Args.length - v.2)
  (fun v=>v.2≤s.Args.length∧v.1=(s.Args.take v.2).map (fJ X.p vs pl)∧ox X.p vs pl (cY X s).Params s.Args=ox X.p vs pl ((cY X s).Params.drop v.2) (s.Args.drop v.2))
  (fun x=>if ox X.p vs pl (cY X s).Params s.Args=true then ∃ k b,x= .inr (s.Args.map (fJ X.p vs pl),k,b) else x= .inl ()) (by
   rintro ⟨l,k⟩ ⟨V,hl,hm⟩
   simp only at V hl hm ⊢
   unfold kv
   by_cases t:k<s.Args.length
   ·have o:k<(cY X s).Params.length:=by omega
    have hp:=f2 _ (cg o)
    have U:l.length=k:=by grind
    have M:(l++[fJ X.p vs pl s.Args[k]])[k]? =some (fJ X.p vs pl s.Args[k]):=by grind
    rw [dU t,dU o,ox] at hm
    rw [af (by omega),bu t,ab,Ea h hw c1 (jd X.p) (o6 _ (cg t)),ab,af (by grind),bu o,ab,M,ab,SS h hw c1 (jd X.p) hp.1 hp.2 (fE _ _ _),ab]
    cases hb:Bo X.p vs pl (cY X s).Params[k] (fJ X.p vs pl s.Args[k]) with
    | false=>
     grind
    | true=>
     rw [hb,xg] at hm
     rw [af rfl,af (eQ (by omega))]
     grind [sE]
   ·rw [ah (by omega)]
    rw [jg (show s.Args.length≤k by omega)] at hm
    have ht:ox X.p vs pl ((cY X s).Params.drop k) []=true:=by cases (cY X s).Params.drop k<;>rfl
    simp_all [iC]) ([],0) ⟨du _,rfl,rfl⟩
 rw [hx,ab]
 cases T:ox X.p vs pl (cY X s).Params s.Args with
 | false=>
  grind
 | true=>
  rw [T,af rfl] at hQ
  obtain ⟨k,b,rfl⟩:=hQ
  simp only [aH]
  generalize ae:s.Args.map (fJ X.p vs pl)=ls
  have U:ls.length=(cY X s).Params.length:=by grind
  obtain ⟨x,Q,Y⟩:=eX (B:=fun v=>kx (cY X s) (ls,k,b) v.1 v.2) (fun v=>(cY X s).Params.length - v.1)
   (fun v=>v.1≤(cY X s).Params.length∧v.2.length=X.p.Vars.length∧qA vs (cY X s).Params ls=qA v.2 ((cY X s).Params.drop v.1) (ls.drop v.1)) (fun x=>x.2.2=qA vs (cY X s).Params ls) (by
    rintro ⟨j,us⟩ ⟨hj,hv,he⟩
    simp only at hj hv he ⊢
    unfold kx
    by_cases t:j<(cY X s).Params.length
    ·have o:j<ls.length:=by omega
     have hp:=f2 _ (cg t)
     rw [dU t,dU o,qA] at he
     rw [af (by omega),bu t,ab]
     simp only
     rw [bu o,ab,cb hp.1,ab,bu (by omega),ab,af (eQ (by omega))]
     grind
    simp_all [jg,NZ]) (0,vs) ⟨du _,hw.rows.vl,rfl⟩
  rw [E5,Q,ab,Y]
  rfl
variable [Lp]
noncomputable abbrev NW(n:Nat):=bN n
theorem E7(X:Ctx)(w:aI)(r:RunT)(c2:aW)(a:Int):ix w (mk X r) c2 a=some (false,mk X (qz r a)):=rfl
def oW(X:Ctx)(c:List rD→jD)(d:List rD→jD)(b:Bool)(r':RunT)(vs':List Level):Prop:=
 (b=true→Valid X 0 r'∧∀ K,dm X (c K) (d K))∧(b=false→r'.End≠0∧∃ q,∀ K,dm X (c K) ([],r',vs',q))
variable {d:List rD→jD}{b:Bool}{r':RunT}{vs':List Level}
theorem oW.back{c c':List rD→jD}(h:∀ K,dm X (c K) (c' K))(hf:oW X c' d b r' vs'):oW X c d b r' vs':=
 ⟨fun hb=>⟨(hf.1 hb).1,fun K=>(h K).trans ((hf.1 hb).2 K)⟩,fun hb=>⟨(hf.2 hb).1,(hf.2 hb).2.imp fun q hq K=>(h K).trans (hq K)⟩⟩
theorem oW.bad{c:List rD→jD}(h0:r'.End≠0)(q:List Level)(h:∀ K,dm X (c K) ([],r',vs',q)):oW X c d false r' vs':=
 ⟨fun hb=>(by cases hb),fun _=>⟨h0,q,h⟩⟩
theorem oW.Ue{c:List rD→jD}(hv:Valid X 0 r')(h:∀ K,dm X (c K) (d K)):oW X c d true r' vs':=
 ⟨fun _=>⟨hv,h⟩,fun hb=>(by cases hb)⟩
def Uf(X:Ctx)(n:Nat):Prop:=∀ (i:Nat)(l:List Stmt),i≤X.p.Funcs.length→3*ed l+100*i+1≤n→eU (cV X.p i) l=0→bR l≤50→ed l≤6→∀ (r:RunT)(a:Int)(vs pl:List Level),Valid X 0 r→0≤a→a+bR l≤200→WW X.p vs pl→(pl.length:Int)≤r.Steps+1→
 ∃ b vs' r',(NW n).f_watch_watcher_all (eE X.p vs pl) (mk X r) (jd X.p) l a=some (b,eE X.p vs' pl,mk X r')∧WW X.p vs' pl∧r.Steps≤r'.Steps∧oW X (fun K=>(.run l a::K,r,vs,pl)) (fun K=>(K,r',vs',pl)) b r' vs'
def XL(X:Ctx)(n:Nat):Prop:=∀ (i:Nat)(s:Stmt),i≤X.p.Funcs.length→3*dep s+100*i≤n→vi (cV X.p i) s=0→fD s≤50→dep s≤6→∀ (r:RunT)(a:Int)(vs pl:List Level),Valid X 0 r→0≤a→a+fD s≤200→WW X.p vs pl→(pl.length:Int)≤r.Steps+1→
 ∃ b vs' r',(NW n).f_watch_watcher_one (eE X.p vs pl) (mk X r) (jd X.p) s a=some (b,eE X.p vs' pl,mk X r')∧WW X.p vs' pl∧r.Steps≤r'.Steps∧∀ l,oW X (fun K=>(.run (s::l) a::K,r,vs,pl)) (fun K=>(.run l (a+fD s)::K,r',vs',pl)) b r' vs'
def QH(X:Ctx)(n:Nat):Prop:=∀ (i:Nat)(s:Stmt),i≤X.p.Funcs.length→3*dep s+100*i≤n+1→vi (cV X.p i) s=0→fD s≤50→dep s≤6→7≤s.Kind→∀ (r:RunT)(a:Int)(vs pl:List Level),Valid X 1 r→0≤a→a+fD s≤200→WW X.p vs pl→(pl.length:Int)≤r.Steps→
 ∃ b vs' ex r',(NW n).f_watch_watcher_inner (eE X.p vs pl) (mk X r) (jd X.p) s a=some (b,eE X.p vs' (pl++ex),mk X r')∧WW X.p vs' (pl++ex)∧r.Steps≤r'.Steps∧∀ l,oW X (fun K=>jG X s a l K r vs pl) (fun K=>(.back pl.length::.run l (a+fD s)::K,r',vs',pl++ex)) b r' vs'
def Ug(X:Ctx)(n:Nat):Prop:=∀ (i:Nat)(s:Stmt),i≤X.p.Funcs.length→100*i≤n→cV X.p i s=0→s.Kind=2→∀ (r:RunT)(a:Int)(vs pl:List Level),Valid X 1 r→WW X.p vs pl→(pl.length:Int)≤r.Steps+1→
 ∃ b vs' r',(NW n).f_watch_watcher_call (eE X.p vs pl) (mk X r) (jd X.p) s a=some (b,eE X.p vs' pl,mk X r')∧WW X.p vs' pl∧r.Steps≤r'.Steps∧∀ l,oW X (fun K=>jG X s a l K r vs pl) (fun K=>(.run l (a+fD s)::K,r',vs',pl)) b r' vs'
variable {n:Nat}
theorem Wf(hX:uB X)(h1:XL X n):Uf X (n+1):=by
 intro i l hi hn u hc hd r a vs pl hv ha O hw F
 show ∃ b vs' r',mK (NW n) (eE X.p vs pl) (mk X r) (jd X.p) l a=some (b,eE X.p vs' pl,mk X r')∧_
 unfold mK
 have hlen:=jU l
 obtain ⟨x,hx,hQ⟩:=eX (B:=fun v=>lP (NW n) (jd X.p) l v.1 v.2.1 v.2.2.1 v.2.2.2) (fun v=>l.length - v.2.2.2)
  (fun v=>v.2.2.2≤l.length∧∃ vs1 r1,v.1=eE X.p vs1 pl∧v.2.1=mk X r1∧WW X.p vs1 pl∧Valid X 0 r1∧r.Steps≤r1.Steps∧a≤v.2.2.1∧v.2.2.1+bR (l.drop v.2.2.2)=a+bR l∧∀ K,dm X (.run l a::K,r,vs,pl) (.run (l.drop v.2.2.2) v.2.2.1::K,r1,vs1,pl))
  (fun x=>∃ vs1 r1,WW X.p vs1 pl∧r.Steps≤r1.Steps∧((x= .inl (eE X.p vs1 pl,mk X r1)∧oW X (fun K=>(.run l a::K,r,vs,pl)) (fun K=>(K,r1,vs1,pl)) false r1 vs1)∨(∃ b c,x= .inr (b,c,false,eE X.p vs1 pl,mk X r1)∧oW X (fun K=>(.run l a::K,r,vs,pl)) (fun K=>(K,r1,vs1,pl)) true r1 vs1))) (by
   rintro ⟨w,c,b,k⟩ ⟨hk,vs1,r1,rfl,rfl,w1,v1,v2,v3,v4,v5⟩
   simp only at hk v3 v4 v5 ⊢
   unfold lP
   by_cases t:k<l.length
   ·have hm:=cg t
    have g1:=vj hm
    have g2:=ye hm
    have L:=Jv u _ hm
    rw [dU t,bR] at v4
    rw [dU t] at v5
    rw [af (by omega),bu t,ab]
    generalize l[k]=s at *
    have g3:=sB s
    have g4:=sC s
    obtain ⟨bb,vs2,r2,e1,e4,e5,e2⟩:=h1 i s hi (by omega) L (by omega) (by omega) r1 b vs1 pl v1 (by omega) (by omega) w1 (by omega)
    have e2:=(e2 (l.drop (k+1))).back v5
    rw [e1,ab]
    cases bb with
    | false=>exact .inl ⟨_,rfl,vs2,r2,e4,by omega,.inl ⟨rfl,.bad (e2.2 rfl).1 _ (e2.2 rfl).2.choose_spec⟩⟩
    | true=>
     obtain ⟨t1,t2⟩:=e2.1 rfl
     simp only [aH]
     rw [HZ (by omega) (by omega),ab,af (fG (by omega) (by omega)),HZ (by omega) (by omega),ab,af (fG (by omega) (by omega)),af (fG (by omega) (by omega)),af (eQ (by omega))]
     have ec:b+(1+(bR s.Then:Int)+(bR s.Else:Int))=b+(fD s:Int):=by omega
     rw [ec]
     exact .inr ⟨_,rfl,by grind,by simp only;omega⟩
   ·rw [ah (by omega)]
    have W:l.drop k=[]:=jg (by omega)
    rw [W] at v5
    exact .inl ⟨_,rfl,vs1,r1,w1,v2,.inr ⟨b,k,by grind,.Ue v1 fun K=>(v5 K).trans (dm.one rfl)⟩⟩) (eE X.p vs pl,mk X r,a,0) (by grind [dm.refl])
 grind
theorem Uh(hX:uB X)(hL:nz X.p)(h1:Uf X n):Ug X (n+1):=by
 intro i s hi hn u hk r a vs pl hv hw F
 show ∃ b vs' r',lQ (NW n) (eE X.p vs pl) (mk X r) (jd X.p) s a=some (b,eE X.p vs' pl,mk X r')∧_
 unfold lQ
 obtain ⟨c1,c2,c3,c4,c5,c6,c7⟩:=called hX hi u hk
 obtain ⟨f1,f2,f3,f4⟩:=EX c4
 obtain ⟨o1,o2,o3,o4,o5,o6⟩:=lM u
 have v1:=o2 (by rw [hk];rfl)
 rw [We hX hL hw (mk X r) hi u hk,ab]
 cases he:uz X vs pl s with
 | none=>
  have z:∀ l K,jG X s a l K r vs pl=([],qz r a,vs,pl):=by grind [jG]
  simp only [dy,cH]
  rw [E7,ab]
  exact ⟨false,vs,qz r a,rfl,hw,oP _,fun l=>.bad (by show (3:Int)≠0;decide) pl (by grind [dm.refl])⟩
 | some us=>
  have z:∀ l K,jG X s a l K r vs pl=(.run (cY X s).Body (nth X.first s.Other)::.leave s a::.run l (a+fD s)::K,nv X s r,us,pl):=by grind [jG]
  obtain ⟨e1,e2⟩:=QD hX hi u hk hv
  obtain ⟨g1,g2,g3⟩:=By hX c1 (by omega)
  have hF:gN (mk X (nv X s r)) s.Other=some (nth X.first s.Other):=by
   grind [gN,cb,mk]
  simp only [aH]
  rw [e1,ab,cb c1,ab,CN,c3,ab,hF,ab]
  have D:(nv X s r).Steps=r.Steps:=rfl
  obtain ⟨bb,vs2,r2,t1,t4,t2,t3⟩:=h1 s.Other.toNat (cY X s).Body (by omega) (by omega) f3 c6 c7 (nv X s r) (nth X.first s.Other) us pl e2.less g2 (by omega) (hw.enter he) (by grind)
  rw [D] at t2
  rw [t1,ab]
  cases bb with
  | false=>exact ⟨false,vs2,r2,rfl,t4,t2,fun l=>.bad (t3.2 rfl).1 _ fun K=>by show dm X (jG X s a l K r vs pl) _;rw [z];exact (t3.2 rfl).2.choose_spec _⟩
  | true=>
   obtain ⟨u1,u3⟩:=t3.1 rfl
   obtain ⟨l1,l2⟩:=QE hX hi u hk u1
   rw [af rfl,Ea hL t4 (mk X r2) (jd X.p) f4,ab,H3 hL t4 (mk X r2) (jd X.p) v1.1 v1.2 (fE _ _ _),ab]
   cases hs:rj X.p vs2 pl s.Var (fJ X.p vs2 pl (cY X s).Result) with
   | none=>
    simp only [dy,cH]
    rw [E7,ab]
    exact ⟨false,vs2,qz r2 a,rfl,t4,t2,fun l=>.bad (by show (3:Int)≠0;decide) pl fun K=>by show dm X (jG X s a l K r vs pl) _;rw [z];exact (u3 _).trans (dm.one (by simp only [mF,DZ,hs]))⟩
   | some us2=>
    simp only [aH]
    rw [l1,ab]
    exact ⟨true,us2,wy X s r2,rfl,t4.put (fE _ _ _) hs,t2,fun l=>.Ue l2 fun K=>by show dm X (jG X s a l K r vs pl) _;rw [z];exact (u3 _).trans (dm.one (by simp only [mF,DZ,hs]))⟩
theorem RK(hX:uB X)(hL:nz X.p)(h1:Uf X n):QH X (n+1):=by
 intro i s hi hn u hc hd hk r a vs pl hv ha O hw F
 obtain ⟨s1,s2,s3⟩:=ET u
 obtain ⟨o1,o2,o3,o4,o5,o6⟩:=lM s1
 have he:=o5 (by simp [gG];omega)
 have g3:=sB s
 have g4:=sC s
 have ag:=hX.fuel
 have S:=hv.steps
 show ∃ b vs' ex r',la (NW n) (eE X.p vs pl) (mk X r) (jd X.p) s a=some (b,eE X.p vs' (pl++ex),mk X r')∧_
 unfold la
 have H:=hw.push (l:=fJ X.p vs pl s.Expr) (fE _ _ _) (by omega)
 have E:((pl++[fJ X.p vs pl s.Expr]).length:Int)≤r.Steps+1:=by grind
 rw [QG hL hw (mk X r) (jd X.p) he (by omega),ab]
 by_cases k7:s.Kind=7
 ·rw [af (by simp [k7])]
  unfold ug
  rw [SQ hv he,ab]
  have z:∀ l K,jG X s a l K r vs pl=(.run (if c9 r.Vars s.Expr≠0 then s.Then else s.Else) (if c9 r.Vars s.Expr≠0 then a+1 else a+1+bR s.Then)::.back pl.length::.run l (a+fD s)::K,r,vs,pl++[fJ X.p vs pl s.Expr]):=by grind [jG]
  by_cases h0:c9 r.Vars s.Expr=0
  ·rw [ah (by simp [h0]),af (fG (by omega) (by omega)),HZ (by omega) (by omega),ab,af (fG (by omega) (by omega)),ab]
   obtain ⟨bb,vs2,r2,t1,t4,t2,t3⟩:=h1 i s.Else hi (by omega) s3 (by omega) (by omega) r (a+1+bR s.Then) vs _ hv.less (by omega) (by omega) H E
   simp only
   rw [t1,ab]
   refine ⟨bb,vs2,_,r2,rfl,t4,t2,fun l=>⟨fun hb=>⟨(t3.1 hb).1,fun K=>?_⟩,fun hb=>⟨(t3.2 hb).1,(t3.2 hb).2.choose,fun K=>?_⟩⟩⟩
   ·show dm X (jG X s a l K r vs pl) _
    rw [z,ah (by simp [h0]),ah (by simp [h0])];exact (t3.1 hb).2 _
   grind
  ·rw [af (by simp [h0]),af (fG (by omega) (by omega)),ab]
   obtain ⟨bb,vs2,r2,t1,t4,t2,t3⟩:=h1 i s.Then hi (by omega) s2 (by omega) (by omega) r (a+1) vs _ hv.less (by omega) (by omega) H E
   simp only
   rw [t1,ab]
   refine ⟨bb,vs2,_,r2,rfl,t4,t2,fun l=>⟨fun hb=>⟨(t3.1 hb).1,fun K=>?_⟩,fun hb=>⟨(t3.2 hb).1,(t3.2 hb).2.choose,fun K=>?_⟩⟩⟩
   ·show dm X (jG X s a l K r vs pl) _
    rw [z,af h0,af h0];exact (t3.1 hb).2 _
   grind
 ·rw [ah (by simp [k7])]
  have k8:s.Kind=8:=by omega
  have z:∀ l K,jG X s a l K r vs pl=lookW X s a (.back pl.length::.run l (a+fD s)::K) r vs pl:=by grind [jG]
  let Z (l:List Stmt) (q:RunT) (us ex:List Level) (K:List rD):jD:=(if c9 q.Vars s.Expr≠0 then .run s.Then (a+1)::.again s a::.back pl.length::.run l (a+fD s)::K else .back pl.length::.run l (a+fD s)::K,q,us,pl++ex)
  obtain ⟨x,hx,hQ⟩:=eX (B:=fun v=>ky (NW n) (jd X.p) s a v.1 v.2) (fun v=>(v.2.fuel - v.2.bz.Steps).toNat)
   (fun v=>∃ vs1 ex q,v=(eE X.p vs1 (pl++ex),mk X q)∧WW X.p vs1 (pl++ex)∧((pl++ex).length:Int)≤q.Steps+1∧Valid X 1 q∧r.Steps≤q.Steps∧∀ l K,dm X (jG X s a l K r vs pl) (Z l q vs1 ex K))
   (fun x=>∃ vs1 ex q,WW X.p vs1 (pl++ex)∧r.Steps≤q.Steps∧((x= .inl (eE X.p vs1 (pl++ex),mk X q)∧∀ l,oW X (fun K=>jG X s a l K r vs pl) (fun K=>(.back pl.length::.run l (a+fD s)::K,q,vs1,pl++ex)) false q vs1)∨(∃ b,x= .inr (b,eE X.p vs1 (pl++ex),mk X q)∧∀ l,oW X (fun K=>jG X s a l K r vs pl) (fun K=>(.back pl.length::.run l (a+fD s)::K,q,vs1,pl++ex)) true q vs1))) (by
    rintro v ⟨vs1,ex,q,rfl,w1,w2,v1,v2,v3⟩
    simp only
    unfold ky
    rw [SQ v1 he,ab]
    by_cases h0:c9 q.Vars s.Expr=0
    ·rw [ah (by simp [h0])]
     refine .inl ⟨_,rfl,vs1,ex,q,w1,v2,.inr ⟨_,rfl,fun l=>.Ue v1.less fun K=>?_⟩⟩
     grind
    ·rw [af (by simp [h0]),af (fG (by omega) (by omega))]
     obtain ⟨bb,vs2,r2,t1,t4,t2,t3⟩:=h1 i s.Then hi (by omega) s2 (by omega) (by omega) q (a+1) vs1 _ v1.less (by omega) (by omega) w1 w2
     rw [t1,ab]
     have I:∀ l K,dm X (jG X s a l K r vs pl) (.run s.Then (a+1)::.again s a::.back pl.length::.run l (a+fD s)::K,q,vs1,pl++ex):=by grind
     cases bb with
     | false=>exact .inl ⟨_,rfl,vs2,ex,r2,t4,by omega,.inl ⟨rfl,fun l=>.bad (t3.2 rfl).1 _ fun K=>(I l K).trans ((t3.2 rfl).2.choose_spec _)⟩⟩
     | true=>
      obtain ⟨u1,u3⟩:=t3.1 rfl
      simp only [aH]
      rw [SO hX u1,ab]
      by_cases hf:r2.Steps=X.fuel
      ·rw [af hf]
       simp only [dy,cH]
       refine .inl ⟨_,rfl,vs2,ex,r2.out,t4,by show r.Steps≤r2.Steps;omega,.inl ⟨rfl,fun l=>.bad (by show (2:Int)≠0;decide) (pl++ex) fun K=>((I l K).trans (u3 _)).trans (dm.one ?_)⟩⟩
       grind [mF]
      ·rw [ah hf]
       simp only [aH]
       have S:=u1.steps
       have hq:=v1.steps
       rw [QG hL t4 (mk X r2.tick) (jd X.p) he (by omega),ab]
       refine .inr ⟨_,rfl,⟨vs2,ex++[fJ X.p vs2 (pl++ex) s.Expr],r2.tick,by grind,by rw [←rY];exact t4.push (fE _ _ _) (by omega),by grind [RunT.tick],u1.tick hf,by grind [RunT.tick],fun l K=>((I l K).trans (u3 _)).trans (dm.one ?_)⟩,?_⟩
       ·grind [mF,lookW]
       grind [mk,RunT.tick]) (eE X.p vs (pl++[fJ X.p vs pl s.Expr]),mk X r) ⟨vs,_,r,rfl,H,E,hv,oP _,fun l K=>by rw [z];exact dm.refl _ _⟩
  rw [hx,ab]
  obtain ⟨vs1,ex,q,w1,q0,⟨rfl,q1⟩ | ⟨b,rfl,q1⟩⟩:=hQ
  ·exact ⟨false,vs1,ex,q,rfl,w1,q0,q1⟩
  ·exact ⟨true,vs1,ex,q,rfl,w1,q0,q1⟩
theorem Wg(hX:uB X)(hL:nz X.p)(h1:Ug X n)(h2:QH X n):XL X (n+1):=by
 intro i s hi hn u hc hd r a vs pl hv ha O hw F
 obtain ⟨s1,s2,s3⟩:=ET u
 have g4:=sC s
 show ∃ b vs' r',mL (NW n) (eE X.p vs pl) (mk X r) (jd X.p) s a=some (b,eE X.p vs' pl,mk X r')∧_
 unfold mL
 rw [SO hX hv,ab]
 by_cases hf:r.Steps=X.fuel
 ·rw [af hf]
  simp only [dy,cH]
  exact ⟨false,vs,r.out,rfl,hw,oP _,fun l=>.bad (by show (2:Int)≠0;decide) pl (by grind [dm.one,mF])⟩
 ·rw [ah hf]
  simp only [aH]
  have ht:=hv.tick hf
  have z:∀ l K,dm X (.run (s::l) a::K,r,vs,pl) (jG X s a l K r.tick vs pl):=by grind [dm.one,mF]
  have hle:r.tick.Steps=r.Steps+1:=rfl
  by_cases k2:s.Kind=2
  ·rw [af (by simp [k2])]
   obtain ⟨bb,vs2,r2,t1,t4,t2,t3⟩:=h1 i s hi (by omega) s1 k2 r.tick a vs pl ht hw (by omega)
   rw [t1,ab]
   exact ⟨bb,vs2,r2,rfl,t4,by omega,fun l=>(t3 l).back (z l)⟩
  ·rw [ah (by simp [k2])]
   by_cases k7:7≤s.Kind
   ·rw [af k7]
    obtain ⟨bb,vs2,ex,r2,t1,t4,t2,t3⟩:=h2 i s hi (by omega) u hc hd k7 r.tick a vs pl ht ha O hw (by omega)
    rw [t1,ab]
    rw [af (show (eE X.p vs pl).places.length≤(eE X.p vs2 (pl++ex)).places.length by grind [E6])]
    have R:(⟨(),(eE X.p vs2 (pl++ex)).p,(eE X.p vs2 (pl++ex)).vars,(eE X.p vs2 (pl++ex)).places.take (eE X.p vs pl).places.length,()⟩:aI)=eE X.p vs2 pl:=by
     rw [CN,E5,E6,E6,List.take_left];rfl
    refine ⟨bb,vs2,r2,by rw [←R],⟨t4.rows,hw.ne,hw.few,hw.psz⟩,by omega,fun l=>?_⟩
    have h3:=(t3 l).back (z l)
    refine ⟨fun hb=>⟨(h3.1 hb).1,fun K=>((h3.1 hb).2 K).trans (dm.one ?_)⟩,h3.2⟩
    grind [mF]
   ·rw [ah k7]
    rw [Wd hL hw (mk X r.tick) s1 ⟨k2,by omega⟩,ab]
    have G:∀ l K,jG X s a l K r.tick vs pl=(match pG X.p vs pl s with | some us=>(.run l (a+fD s)::K,vE X s a r.tick,us,pl) | none=>([],qz r.tick a,vs,pl)):=by grind [jG]
    cases N:pG X.p vs pl s with
    | none=>
     simp only [N] at G
     simp only [dy,cH]
     rw [E7,ab]
     exact ⟨false,vs,qz r.tick a,rfl,hw,by show r.Steps≤r.Steps+1;omega,fun l=>.bad (by show (3:Int)≠0;decide) pl (by grind)⟩
    | some us=>
     simp only [N] at G
     simp only [aH]
     obtain ⟨q1,q2⟩:=Zs hX s1 ⟨k2,by omega⟩ ht a
     rw [q1,ab]
     have ai:(vE X s a r.tick).Steps=r.tick.Steps:=by
      have:=(HW X s a [] [] r.tick).2.1
      grind [IK]
     exact ⟨true,us,vE X s a r.tick,rfl,hw.ahead N,by omega,fun l=>.Ue q2 (by grind)⟩
theorem aag(hX:uB X)(hL:nz X.p):∀ n,Uf X n∧XL X n∧QH X n∧Ug X n:=by
 intro n
 induction n with
 | zero=>
  refine ⟨fun i l _ h=>by omega,fun i s _ h=>?_,fun i s _ h=>?_,fun i s hi h u hk=>?_⟩
  ·have:=sC s;omega
  ·have:=sC s;omega
  ·have:=(called hX hi u hk).2.1;omega
 | succ n ih=>grind [Wf,Wg,RK,Uh]
variable [Lp]
theorem oW.eq{c:List rD→jD}{d:RunT→List Level→List rD→jD}{b':Bool}{vs:List Level}(hd:∀ r vs,∃ q,d r vs []=([],r,vs,q))(h:oW X c (d r vs) b r vs)(h':oW X c (d r' vs') b' r' vs'):b=b'∧r=r'∧vs=vs':=by
 have g:∀ {b r vs},oW X c (d r vs) b r vs→(∃ q,dm X (c []) ([],r,vs,q))∧(b=true↔r.End=0):=by
  intro b r vs h
  cases b with
  | false=>exact ⟨(h.2 rfl).2.imp fun q hq=>hq [],⟨fun h=>(by cases h),fun h0=>absurd h0 (h.2 rfl).1⟩⟩
  | true=>
   obtain ⟨q,hq⟩:=hd r vs
   have:=(h.1 rfl).2 []
   rw [hq] at this
   exact ⟨⟨q,this⟩,⟨fun _=>(h.1 rfl).1.en,fun _=>rfl⟩⟩
 obtain ⟨⟨q,h1⟩,h2⟩:=g h
 obtain ⟨⟨q',aa⟩,aj⟩:=g h'
 have:=h1.Bi aa
 grind
theorem aah(hX:uB X)(hL:nz X.p){a:Int}{vs pl:List Level}(hv:Valid X 0 r)(h0:0≤a)(h:a≤50)(hw:WW X.p vs pl)(F:(pl.length:Int)≤r.Steps+1):
  ∃ b vs' r',nL (eE X.p vs pl) (mk X r) (jd X.p) X.p.Main a=some (b,eE X.p vs' pl,mk X r')∧WW X.p vs' pl∧oW X (fun K=>(.run X.p.Main a::K,r,vs,pl)) (fun K=>(K,r',vs',pl)) b r' vs':=by
 have hm:=hX.ok.main
 have go:=fun n (hn:3*6+100*X.p.Funcs.length+1≤n)=>(aag hX hL n).1 X.p.Funcs.length X.p.Main (bG _) (by omega) hX.ok.mains hm.1 hm.2 r a vs pl hv h0 (by omega) hw F
 obtain ⟨b,vs',r',e1,e2,_,e4⟩:=go _ (bG _)
 refine ⟨b,vs',r',uH (3*6+100*X.p.Funcs.length+1) fun n hn=>?_,e2,e4⟩
 obtain ⟨b2,vs2,r2,d1,_,_,d4⟩:=go n hn
 obtain ⟨rfl,rfl,rfl⟩:=oW.eq (d:=fun r vs K=>(K,r,vs,pl)) (fun r vs=>⟨pl,rfl⟩) e4 d4
 exact d1
theorem Zt{x:List Bool}(h:x.length=n):(List.range n).map (fun k=>on x k)=x:=by
 apply F7
 grind [jW]
theorem join_self(h:dH n l):o9 n l l=l:=by
 unfold o9 qy wz
 simp only [kH,Bool.or_self]
 rw [Zt h.1,Zt h.2]
theorem aif{p:Program}(h:nz p)(hl:dH (MM p) l):yK l=some l:=by
 unfold yK
 rw [K6 h.small hl hl,ab,join_self hl]
theorem QI{p:Program}(h:nz p){vs pl:List Level}(hw:WW p vs pl)(hv:p.Vars.length≤16)(r8:aW)(b:Bool)(r:Runner)(e:Int):nD (b,eE p vs pl,r) e=some (vs,e):=by
 have hl:=hw.rows.vl
 unfold nD
 have:=me (B:=fun v=>oB (b,eE p vs pl,r) v.1 v.2) vs.length (fun k=>(vs.take k,k)) (x:=(vs,vs.length,false)) (fun k hk=>by
  unfold oB
  simp only [E5]
  rw [af (by omega),bu hk,ab,aif h (hw.rows.vs _ (cg hk)),ab,af (by grind),af (eQ (by omega)),sE hk]) (by
  grind [oB,E5])
 grind
theorem Wh{p:Program}(h:nz p):yL p=some (jd p):=by
 unfold yL
 rw [Zq _ h.eV,ab];rfl
theorem SU{p:Program} : WW p (List.replicate p.Vars.length (jl (MM p))) [jl (MM p)]:=
 ⟨⟨by simp,by simp,by grind [vG],by grind [vG]⟩,by simp,by simp,by grind [vG]⟩
def Eb(p:Program):jD:=([.run p.Main (nth (eN 0 p.Funcs) p.Funcs.length)],init p,List.replicate p.Vars.length (jl (MM p)),[jl (MM p)])
variable {ins:List (List Int)}{fuel:Int}
theorem G8{p:Program}(h:nE p ins fuel=0):jV p=0:=by
 grind [nE]
theorem Wi{p:Program}(hp:∀ f∈p.Funcs,f.Params.length≤9223372036854775807):
  (nE p ins fuel≠0→qU p ins fuel=some (⟨[],[],[],0,0,0⟩,[],nE p ins fuel))∧(nE p ins fuel=0→∃ r vs,qU p ins fuel=some (r,vs,0)∧(∃ pl,WW p vs pl)∧D0 (lR p ins fuel) (Eb p) r vs):=by
 unfold qU
 rw [XK hp,ab]
 refine ⟨fun h=>?_,fun h=>?_⟩
 ·grind
 ·rw [ah (by simp [h])]
  have hX:=QF h
  have hL:nz p:=Qp (G8 h)
  have J:=hX.ok.vars
  have C:p.Vars.length≤16:=J
  rw [aie hX,ab,GV hL,ab,Wh hL,ab]
  obtain ⟨g1,g2,g3⟩:=By hX (k:=p.Funcs.length) (by omega) (oP _)
  have hv:Valid (lR p ins fuel) 0 (init p):=⟨by simp [init,lR],fun x hx=>by rw [u4 hx];rfl,by simp [init,lR],by grind [init],by have:=hX.fuel;simp only [init];omega,by simp [init],rfl⟩
  have P:=me (B:=fun v=>oA p v.1 v.2) p.Vars.length (fun k=>(k,List.replicate k (jl (MM p)))) (x:=(p.Vars.length,false,List.replicate p.Vars.length (jl (MM p)))) ((by grind [oA,GV,eQ,List.replicate_succ'])) (by
   grind [oA])
  simp only [List.replicate_zero] at P
  have hF:gN (mk (lR p ins fuel) (init p)) (p.Funcs.length:Int)=some (nth (lR p ins fuel).first (p.Funcs.length:Int)):=by
   grind [gN,cb,mk]
  rw [P,ab,hF,ab]
  obtain ⟨b,vs,r',e1,e2,e3⟩:=aah (X:=lR p ins fuel) hX hL hv g2 g3 SU (by show (1:Int)≤0+1;omega)
  have e1':nL (⟨(),p,List.replicate p.Vars.length (jl (MM p)),[jl (MM p)],()⟩:aI) (mk (lR p ins fuel) (init p)) (jd p) p.Main (nth (lR p ins fuel).first (p.Funcs.length:Int))=some (b,eE p vs [jl (MM p)],mk (lR p ins fuel) r'):=e1
  rw [e1',ab]
  have e2':WW p vs [jl (MM p)]:=e2
  cases b with
  | true=>
   obtain ⟨u1,u2⟩:=e3.1 rfl
   rw [af rfl,QI hL e2' C (jd p),ab]
   exact ⟨_,_,rfl,⟨_,e2'⟩,r',_,u2 [],by unfold HY;rw [af u1.en];rfl⟩
  | false=>
   rw [ah (by simp),QI hL e2' C (jd p),ab]
   obtain ⟨u1,q,u2⟩:=e3.2 rfl
   exact ⟨r',_,rfl,⟨_,e2'⟩,r',q,u2 [],by grind [HY]⟩
end Go.Proofs.YtlmphbbhaeampaaGreat.A
