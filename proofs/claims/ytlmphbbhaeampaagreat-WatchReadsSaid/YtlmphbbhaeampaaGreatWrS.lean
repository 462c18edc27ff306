/- Watched runs, step by step, as plain mathematics. -/
import Derived.Test.YtlmphbbhaeampaaGreatRunS
import Derived.Test.YtlmphbbhaeampaaGreatSpkS
import Derived.Test.YtlmphbbhaeampaaGreatRunP
set_option linter.all false
namespace Go.Proofs.YtlmphbbhaeampaaGreat.A
open Go
inductive jr where
 | run (l:List Stmt) (a:Int)
 | leave (s:Stmt) (a:Int)
 | again (s:Stmt) (a:Int)
 | back (n:Nat)
abbrev eC:=List jr×RunT×List Level×List Level
def xT(r:RunT)(a:Int):RunT:=⟨r.Events,r.Vars,r.Taken,r.Steps,3,a⟩
section
variable (p:Program)(vs pl:List Level)
def mR:Level:=pl.getLastD (fc (MM p))
def fX(e:aK):Level:=eF (MM p) (mR p pl) (rS (MM p) vs e)
def AQ(n:Int)(l:Level):Bool:=iu (MM p) (mR p pl) (vs.getD n.toNat (fc (MM p)))&&(!(eB p n).Known||iu (MM p) l (dm p.an (eB p n).Label))
def ob(n:Int)(l:Level):Option (List Level):=if AQ p vs pl n l=true then some (vs.set n.toNat l) else none
def js(l:List Label)(n:Int):Level:=dm p.an (l.getD n.toNat ⟨[],[]⟩)
def vB(s:Stmt):Level:=
 if s.Kind=5 then ⟨(dm p.an (eB p s.Var).Label).Readers,(fX p vs pl s.Expr).Writers⟩ else ⟨(fX p vs pl s.Expr).Readers,(dm p.an (eB p s.Var).Label).Writers⟩
def jW(s:Stmt):Option (List Level):=
 if s.Kind=1 then ob p vs pl s.Var (fX p vs pl s.Expr)
 else if s.Kind=3 then (if iu (MM p) (mR p pl) (js p p.Ins s.Other)=true then ob p vs pl s.Var (eF (MM p) (mR p pl) (js p p.Ins s.Other)) else none)
 else if s.Kind=4 then (if iu (MM p) (fX p vs pl s.Expr) (js p p.Outs s.Other)=true then some vs else none)
 else if (eB p s.Var).Known=true∧BA p s=false∧BB p s=false then ob p vs pl s.Var (vB p vs pl s) else none
def lH:List Int→List aK→Bool
 | n::ps,e::es=>AQ p vs pl n (fX p vs pl e)&&lH ps es
 | _,_=>true
end
def k9:List Level→List Int→List Level→List Level
 | vs,n::ps,x::xs=>k9 (vs.set n.toNat x) ps xs
 | vs,_,_=>vs
def lI(X:Ctx)(vs pl:List Level)(s:Stmt):Option (List Level):=
 if lH X.p vs pl (dw X s).Params s.Args=true then some (k9 vs (dw X s).Params (s.Args.map (fX X.p vs pl))) else none
def lookW(X:Ctx)(s:Stmt)(a:Int)(K:List jr)(r:RunT)(vs pl:List Level):eC:=
 (if cM r.Vars s.Expr≠0 then .run s.Then (a+1)::.again s a::K else K,r,vs,pl++[fX X.p vs pl s.Expr])
def mH(X:Ctx)(s:Stmt)(a:Int)(l:List Stmt)(K:List jr)(r:RunT)(vs pl:List Level):eC:=
 if s.Kind=2 then (match lI X vs pl s with
  | some us=>(.run (dw X s).Body (nth X.first s.Other)::.leave s a::.run l (a+gh s)::K,kH X s r,us,pl)
  | none=>([],xT r a,vs,pl))
 else if s.Kind=7 then (.run (if cM r.Vars s.Expr≠0 then s.Then else s.Else) (if cM r.Vars s.Expr≠0 then a+1 else a+1+cP s.Then)::.back pl.length::.run l (a+gh s)::K,r,vs,pl++[fX X.p vs pl s.Expr])
 else if s.Kind=8 then lookW X s a (.back pl.length::.run l (a+gh s)::K) r vs pl
 else (match jW X.p vs pl s with
  | some us=>(.run l (a+gh s)::K,mb X s a r,us,pl)
  | none=>([],xT r a,vs,pl))
def qY(X:Ctx)(s:Stmt)(a:Int)(K:List jr)(r:RunT)(vs pl:List Level):eC:=
 match ob X.p vs pl s.Var (fX X.p vs pl (dw X s).Result) with
  | some us=>(K,qX X s r,us,pl)
  | none=>([],xT r a,vs,pl)
def fj(X:Ctx):eC→eC
 | ([],q)=>([],q)
 | (.back n::K,r,vs,pl)=>(K,r,vs,pl.take n)
 | (.leave s a::K,r,vs,pl)=>qY X s a K r vs pl
 | (.run [] _::K,q)=>(K,q)
 | (.again s a::K,r,vs,pl)=>if r.Steps=X.fuel then ([],r.out,vs,pl) else lookW X s a K r.tick vs pl
 | (.run (s::l) a::K,r,vs,pl)=>if r.Steps=X.fuel then ([],r.out,vs,pl) else mH X s a l K r.tick vs pl
def la(X:Ctx):Nat→eC→eC
 | 0,c=>c
 | n+1,c=>la X n (fj X c)
theorem Ag(X:Ctx):∀ (n m:Nat)(c:eC),la X (n+m) c=la X m (la X n c)
 | 0,m,c=>by rw [gO];rfl
 | n+1,m,c=>by rw [show n+1+m=(n+m)+1 by omega];exact Ag X n m (fj X c)
theorem wK(X:Ctx)(q:RunT×List Level×List Level):∀ n,la X n ([],q)=([],q)
 | 0=>rfl
 | n+1=>wK X q n
def dR(X:Ctx)(c d:eC):Prop:=∃ n,la X n c=d
theorem dR.refl(X:Ctx)(c:eC):dR X c c:=⟨0,rfl⟩
variable {X:Ctx}{c:eC}
theorem dR.trans{d e:eC}: dR X c d→dR X d e→dR X c e
 | ⟨n,h⟩,⟨m,h'⟩=>⟨n+m,by rw [Ag,h,h']⟩
theorem dR.one{d:eC}(h:fj X c=d):dR X c d:=⟨1,h⟩
theorem dR.yO{q s:RunT×List Level×List Level}: dR X c ([],q)→dR X c ([],s)→q=s
 | ⟨n,h⟩,⟨m,h'⟩=>by
  rcases Nat.le_total n m with hm | hm
  ·grind [Nat.exists_eq_add_of_le,Ag,wK]
  grind [Nat.exists_eq_add_of_le,Ag,wK]
def Ah(r:RunT):RunT:=if r.End=0 then ⟨r.Events,r.Vars,r.Taken,r.Steps,1,r.Stop⟩ else r
def ub(X:Ctx)(c:eC)(r:RunT)(vs:List Level):Prop:=∃ q pl,dR X c ([],q,vs,pl)∧r=Ah q
variable {r:RunT}{us:List Level}
theorem ub.eq{s:RunT}{vs:List Level}: ub X c r vs→ub X c s us→r=s∧vs=us
 | ⟨q,pl,h,e⟩,⟨q',pl',h',e'⟩=>by
  have:=h.yO h'
  grind
structure WW(p:Program)(vs pl:List Level):Prop where
 rows:lG p vs (List.replicate p.Funcs.length (fc (MM p)))
 ne:0<pl.length
 few:pl.length≤3000
 psz:∀ l∈pl,cN (MM p) l
variable [Lp]
theorem WW.Vy{p:Program}{vs pl:List Level}(h:WW p vs pl):cN (MM p) (mR p pl):=by
 unfold mR
 cases pl with
 | nil=>exact nK _
 | cons x l=>
  rw [DC,JL (by simp),lr]
  exact h.psz _ (List.getLast_mem _)
variable {l:Level}
theorem WW.set{p:Program}{vs pl:List Level}(h:WW p vs pl)(n:Nat)(hl:cN (MM p) l):WW p (vs.set n l) pl:=
 ⟨⟨by rw [pc];exact h.rows.vl,h.rows.fl,fun x hx=>(ka hx).elim (h.rows.vs x) fun e=>e▸hl,h.rows.fs⟩,h.ne,h.few,h.psz⟩
theorem WW.push{p:Program}{vs pl:List Level}(h:WW p vs pl)(hl:cN (MM p) l)(hf:pl.length+1≤3000):WW p vs (pl++[l]):=
 ⟨h.rows,by simp,by simp;omega,fun x hx=>(eh.1 hx).elim (h.psz x) (by grind)⟩
theorem WW.put{p:Program}{vs pl:List Level}(h:WW p vs pl){n:Int}(hl:cN (MM p) l)(hs:ob p vs pl n l=some us):WW p us pl:=by
 unfold ob at hs
 split at hs
 ·obtain rfl:=ah hs
  exact h.set _ hl
 ·cases hs
theorem mI{p:Program}(vs pl:List Level)(e:aK):cN (MM p) (fX p vs pl e):=fx _ _ _
theorem Sy{p:Program}(vs pl:List Level)(s:Stmt):cN (MM p) (vB p vs pl s):=by
 have h1:=jc p.an (eB p s.Var).Label
 have h2:=mI (p:=p) vs pl s.Expr
 unfold vB
 split
 ·exact ⟨h1.1,h2.2⟩
 ·exact ⟨h2.1,h1.2⟩
variable {s:Stmt}
theorem WW.ahead{p:Program}{vs pl:List Level}(h:WW p vs pl)(hs:jW p vs pl s=some us):WW p us pl:=by
 unfold jW at hs
 split at hs
 ·exact h.put (mI _ _ _) hs
 split at hs
 ·split at hs
  ·exact h.put (fx _ _ _) hs
  ·cases hs
 split at hs
 ·grind
 split at hs
 ·exact h.put (Sy _ _ _) hs
 ·cases hs
theorem WW.k9{p:Program}{pl:List Level} : ∀ (ps:List Int)(xs vs:List Level),WW p vs pl→(∀ x∈xs,cN (MM p) x)→WW p (k9 vs ps xs) pl
 | [],xs,vs,h,_=>by cases xs<;>exact h
 | _::_,[],vs,h,_=>h
 | n::ps,x::xs,vs,h,hx=>WW.k9 ps xs _ (h.set _ (hx x (by simp))) fun y hy=>hx y (by simp [hy])
theorem WW.enter{vs pl:List Level}(h:WW X.p vs pl)(hs:lI X vs pl s=some us):WW X.p us pl:=by
 unfold lI at hs
 split at hs
 ·obtain rfl:=ah hs
  exact h.k9 _ _ _ (by grind [mI])
 ·cases hs
variable [Lp]
def dU(p:Program)(vars places:List Level):ax:=⟨(),p,vars,places,()⟩
theorem An(p:Program)(vars places:List Level):(dU p vars places).p=p:=rfl
theorem CM(p:Program)(vars places:List Level):(dU p vars places).vars=vars:=rfl
theorem CN(p:Program)(vars places:List Level):(dU p vars places).places=places:=rfl
section
variable {p:Program}(h:nJ p){vs pl:List Level}(hw:WW p vs pl)(c1:Runner)(c2:aH)
include hw
theorem Es:eR (dU p vs pl) c1 c2=some (mR p pl):=by
 have h1:=hw.ne
 have h2:=hw.few
 have ai:IntKind.i64.wrap (((dU p vs pl).places.length:Int) - 1)=((dU p vs pl).places.length:Int) - 1:=by grind [qm,CN]
 have aj:cV (((dU p vs pl).places.length:Int) - 1)=some (pl.length - 1):=by
  grind [CN,cA]
 grind [eR,CN,mR]
include h
theorem BM{e:aK}(he:fK p e=0):et (dU p vs pl) c1 c2 e=some (fX p vs pl e):=by
 obtain ⟨h2,s2⟩:=MW h hw.rows he
 unfold et
 rw [Es hw,ad,An,CM,h2,ad,ua h.small hw.Vy s2,ad]
 rfl
theorem adz{n:Int}(h0:0≤n)(h1:n<p.Vars.length):p.Vars[n.toNat]? =some (eB p n)∧kx p.an.Many (eB p n).Label=0:=by
 have:=BC h h0 (by omega)
 unfold CE at this
 rw [cA h0,ad] at this
 exact ⟨this.1,h.vars _ this.2⟩
theorem Pn{n:Int}(h0:0≤n)(h1:n<p.Vars.length)(hl:cN (MM p) l):jX (dU p vs pl) c1 c2 n l=some (AQ p vs pl n l):=by
 have hv:=adz h hw h0 h1
 have o:n.toNat<vs.length:=by rw [hw.rows.vl];omega
 have hd:vs.getD n.toNat (fc (MM p))=vs[n.toNat]:=by grind
 unfold jX AQ
 rw [Es hw,ad,cA h0,ad,CM,An,aV o,ad,ye h.small hw.Vy (hw.rows.vs _ (cp o)),ad,hd]
 cases iu (MM p) (mR p pl) vs[n.toNat] with
 | false=>rfl
 | true=>
  rw [af rfl,hv.1,ad]
  cases hk:(eB p n).Known with
  | false=>rfl
  | true=>
   rw [af rfl,Gp _ h.eU _ hv.2,ad,ye h.small hl (jc _ _),ad]
   simp
theorem E5{n:Int}(h0:0≤n)(h1:n<p.Vars.length)(hl:cN (MM p) l):
  fu (dU p vs pl) c1 c2 n l=some (match ob p vs pl n l with | some us=>(true,dU p us pl) | none=>(false,dU p vs pl)):=by
 unfold fu ob
 rw [Pn h hw c1 c2 h0 h1 hl,ad]
 cases AQ p vs pl n l with
 | false=>rfl
 | true=>
  rw [af rfl,af rfl,cA h0,ad,CM,aV (by rw [hw.rows.vl];omega),ad]
  rfl
theorem M6{e:aK}(he:fK p e=0)(hf:pl.length+1≤3000):ju (dU p vs pl) c1 c2 e=some (dU p vs (pl++[fX p vs pl e])):=by
 unfold ju
 rw [BM h hw c1 c2 he,ad,af (by grind [CN])]
 rfl
end
section
variable {p:Program}(h:nJ p){vs pl:List Level}(hw:WW p vs pl)(c1:Runner)
include hw h
theorem Qn(hv:0≤s.Var∧s.Var<p.Vars.length)(he:fK p s.Expr=0):
  kA (dU p vs pl) c1 (iD p) s=some (match if (eB p s.Var).Known=true∧BA p s=false∧BB p s=false then ob p vs pl s.Var (vB p vs pl s) else none with | some us=>(true,dU p us pl) | none=>(false,dU p vs pl)):=by
 have hg:=adz h hw hv.1 hv.2
 have d1:∀ (r w:List Bool),r.length=MM p→w.length=MM p→fA (dU p vs pl) c1 (iD p) s r w=some (match ob p vs pl s.Var ⟨r,w⟩ with | some us=>(true,dU p us pl) | none=>(false,dU p vs pl)):=fun r w h1 h2=>by
  unfold fA
  rw [E5 h hw c1 (iD p) hv.1 hv.2 (l:=⟨r,w⟩) ⟨h1,h2⟩,ad]
 unfold kA
 rw [cA hv.1,ad,An,hg.1,ad]
 cases hk:(eB p s.Var).Known with
 | false=>simp
 | true=>
  rw [af rfl,Sw h hv he,ad]
  cases BA p s with
  | true=>simp
  | false=>
   rw [ab (by simp),Sx h hv he,ad]
   cases BB p s with
   | true=>simp
   | false=>
    have s1:=jc p.an (eB p s.Var).Label
    have s2:=mI (p:=p) vs pl s.Expr
    rw [ab (by simp),Gp _ h.eU _ hg.2,ad,BM h hw c1 (iD p) he,ad]
    unfold vB
    by_cases k5:s.Kind=5
    ·rw [af (by simp [k5]),d1 _ _ s1.1 s2.2,ad]
     simp [k5]
    ·rw [ab (by simp [k5]),d1 _ _ s2.1 s1.2,ad]
     simp [k5]
theorem SA{i:Int}(hs:dc p i s=0)(hk:s.Kind≠2∧s.Kind<7):
  lg (dU p vs pl) c1 (iD p) s=some (match jW p vs pl s with | some us=>(true,dU p us pl) | none=>(false,dU p vs pl)):=by
 obtain ⟨o1,o2,o3,o4,o5,o6⟩:=oL hs
 unfold lg jW
 by_cases k1:s.Kind=1
 ·have v1:=o2 (by rw [k1];rfl)
  have he:=o5 (by rw [k1];rfl)
  grind [BM,E5,mI]
 rw [ab (by simp [k1]),ab k1]
 by_cases k3:s.Kind=3
 ·have v1:=o2 (by rw [k3];rfl)
  have v2:=o3 (by rw [k3];rfl)
  have e3:ij p i s.Kind=p.Ins.length:=by rw [k3];rfl
  rw [e3] at v2
  have u:s.Other.toNat<p.Ins.length:=by omega
  have hd:js p p.Ins s.Other=dm p.an p.Ins[s.Other.toNat]:=by unfold js;grind
  have s2:=jc p.an p.Ins[s.Other.toNat]
  rw [af (by simp [k3]),af k3,cA v2.1,ad,An,aV u,ad,Gp _ h.eU _ (h.ins _ (cp u)),ad,Es hw,ad,ye h.small hw.Vy s2,ad,hd]
  cases iu (MM p) (mR p pl) (dm p.an p.Ins[s.Other.toNat]) with
  | false=>rfl
  | true=>
   rw [af rfl,af rfl,ad,ua h.small hw.Vy s2,ad,E5 h hw c1 (iD p) v1.1 v1.2 (fx _ _ _),ad]
 rw [ab (by simp [k3]),ab k3]
 have he:=o5 (by simp [jI,hk.1,k3])
 by_cases k4:s.Kind=4
 ·have v2:=o3 (by rw [k4];rfl)
  have e3:ij p i s.Kind=p.Outs.length:=by rw [k4];rfl
  rw [e3] at v2
  have u:s.Other.toNat<p.Outs.length:=by omega
  have hd:js p p.Outs s.Other=dm p.an p.Outs[s.Other.toNat]:=by unfold js;grind
  have s2:=jc p.an p.Outs[s.Other.toNat]
  rw [af (by simp [k4]),af k4,BM h hw c1 (iD p) he,ad,cA v2.1,ad,An,aV u,ad,Gp _ h.eU _ (h.outs _ (cp u)),ad,ye h.small (mI _ _ _) s2,ad,hd]
  grind
 grind [ir,Qn]
end
theorem SB(vs xs:List Level):k9 vs [] xs=vs:=by cases xs<;>rfl
theorem SC(hX:tA X)(h:nJ X.p){vs pl:List Level}(hw:WW X.p vs pl)(c1:Runner){i:Nat}(hi:i≤X.p.Funcs.length)(hs:dc X.p i s=0)(hk:s.Kind=2):
  lf (dU X.p vs pl) c1 (iD X.p) s=some (match lI X vs pl s with | some us=>(true,dU X.p us pl) | none=>(false,dU X.p vs pl)):=by
 obtain ⟨q1,q2,q3,q4,q5,_⟩:=called hX hi hs hk
 obtain ⟨f1,f2,f3,f4⟩:=CD q4
 obtain ⟨o1,o2,o3,o4,o5,o6⟩:=oL hs
 unfold lf lI
 rw [cA q1,ad,An,q3,ad]
 obtain ⟨x,hx,hQ⟩:=kT (B:=fun v=>jR (dU X.p vs pl) c1 (iD X.p) s (dw X s) v.1 v.2) (fun v=>s.Args.length - v.2)
  (fun v=>v.2≤s.Args.length∧v.1=(s.Args.take v.2).map (fX X.p vs pl)∧lH X.p vs pl (dw X s).Params s.Args=lH X.p vs pl ((dw X s).Params.drop v.2) (s.Args.drop v.2))
  (fun x=>if lH X.p vs pl (dw X s).Params s.Args=true then ∃ k b,x= .inr (s.Args.map (fX X.p vs pl),k,b) else x= .inl ()) (by
   rintro ⟨l,k⟩ ⟨W,hl,hm⟩
   simp only at W hl hm ⊢
   unfold jR
   by_cases u:k<s.Args.length
   ·have o:k<(dw X s).Params.length:=by omega
    have hp:=f2 _ (cp o)
    have V:l.length=k:=by grind
    have N:(l++[fX X.p vs pl s.Args[k]])[k]? =some (fX X.p vs pl s.Args[k]):=by grind
    rw [e6 u,e6 o,lH] at hm
    rw [af (by omega),aV u,ad,BM h hw c1 (iD X.p) (o6 _ (cp u)),ad,af (by grind),aV o,ad,N,ad,Pn h hw c1 (iD X.p) hp.1 hp.2 (mI _ _ _),ad]
    cases hb:AQ X.p vs pl (dw X s).Params[k] (fX X.p vs pl s.Args[k]) with
    | false=>
     grind
    | true=>
     rw [hb,sL] at hm
     rw [af rfl,af (oK (by omega))]
     grind [oZ]
   ·rw [ab (by omega)]
    rw [mr (show s.Args.length≤k by omega)] at hm
    have ht:lH X.p vs pl ((dw X s).Params.drop k) []=true:=by cases (dw X s).Params.drop k<;>rfl
    simp_all [pb]) ([],0) ⟨dy _,rfl,rfl⟩
 rw [hx,ad]
 cases U:lH X.p vs pl (dw X s).Params s.Args with
 | false=>
  grind
 | true=>
  rw [U,af rfl] at hQ
  obtain ⟨k,b,rfl⟩:=hQ
  simp only [aA]
  generalize ak:s.Args.map (fX X.p vs pl)=ls
  have V:ls.length=(dw X s).Params.length:=by grind
  obtain ⟨x,R,aa⟩:=kT (B:=fun v=>jS (dw X s) (ls,k,b) v.1 v.2) (fun v=>(dw X s).Params.length - v.1)
   (fun v=>v.1≤(dw X s).Params.length∧v.2.length=X.p.Vars.length∧k9 vs (dw X s).Params ls=k9 v.2 ((dw X s).Params.drop v.1) (ls.drop v.1)) (fun x=>x.2.2=k9 vs (dw X s).Params ls) (by
    rintro ⟨j,us⟩ ⟨hj,hv,he⟩
    simp only at hj hv he ⊢
    unfold jS
    by_cases u:j<(dw X s).Params.length
    ·have o:j<ls.length:=by omega
     have hp:=f2 _ (cp u)
     rw [e6 u,e6 o,k9] at he
     rw [af (by omega),aV u,ad]
     simp only
     rw [aV o,ad,cA hp.1,ad,aV (by omega),ad,af (oK (by omega))]
     grind
    simp_all [mr,SB]) (0,vs) ⟨dy _,hw.rows.vl,rfl⟩
  rw [CM,R,ad,aa]
  rfl
variable [Lp]
noncomputable abbrev NW(n:Nat):=br n
theorem CO(X:Ctx)(w:ax)(r:RunT)(c2:aH)(a:Int):gK w (mk X r) c2 a=some (false,mk X (xT r a)):=rfl
def od(X:Ctx)(c:List jr→eC)(d:List jr→eC)(b:Bool)(r':RunT)(vs':List Level):Prop:=
 (b=true→Valid X 0 r'∧∀ K,dR X (c K) (d K))∧(b=false→r'.End≠0∧∃ q,∀ K,dR X (c K) ([],r',vs',q))
variable {d:List jr→eC}{b:Bool}{r':RunT}{vs':List Level}
theorem od.back{c c':List jr→eC}(h:∀ K,dR X (c K) (c' K))(hf:od X c' d b r' vs'):od X c d b r' vs':=
 ⟨fun hb=>⟨(hf.1 hb).1,fun K=>(h K).trans ((hf.1 hb).2 K)⟩,fun hb=>⟨(hf.2 hb).1,(hf.2 hb).2.imp fun q hq K=>(h K).trans (hq K)⟩⟩
theorem od.bad{c:List jr→eC}(h0:r'.End≠0)(q:List Level)(h:∀ K,dR X (c K) ([],r',vs',q)):od X c d false r' vs':=
 ⟨fun hb=>(by cases hb),fun _=>⟨h0,q,h⟩⟩
theorem od.Qo{c:List jr→eC}(hv:Valid X 0 r')(h:∀ K,dR X (c K) (d K)):od X c d true r' vs':=
 ⟨fun _=>⟨hv,h⟩,fun hb=>(by cases hb)⟩
def Qp(X:Ctx)(n:Nat):Prop:=∀ (i:Nat)(l:List Stmt),i≤X.p.Funcs.length→3*lA l+100*i+1≤n→fF (dc X.p i) l=0→cP l≤50→lA l≤6→∀ (r:RunT)(a:Int)(vs pl:List Level),Valid X 0 r→0≤a→a+cP l≤200→WW X.p vs pl→(pl.length:Int)≤r.Steps+1→
 ∃ b vs' r',(NW n).f_watch_watcher_all (dU X.p vs pl) (mk X r) (iD X.p) l a=some (b,dU X.p vs' pl,mk X r')∧WW X.p vs' pl∧r.Steps≤r'.Steps∧od X (fun K=>(.run l a::K,r,vs,pl)) (fun K=>(K,r',vs',pl)) b r' vs'
def Uv(X:Ctx)(n:Nat):Prop:=∀ (i:Nat)(s:Stmt),i≤X.p.Funcs.length→3*dep s+100*i≤n→xf (dc X.p i) s=0→gh s≤50→dep s≤6→∀ (r:RunT)(a:Int)(vs pl:List Level),Valid X 0 r→0≤a→a+gh s≤200→WW X.p vs pl→(pl.length:Int)≤r.Steps+1→
 ∃ b vs' r',(NW n).f_watch_watcher_one (dU X.p vs pl) (mk X r) (iD X.p) s a=some (b,dU X.p vs' pl,mk X r')∧WW X.p vs' pl∧r.Steps≤r'.Steps∧∀ l,od X (fun K=>(.run (s::l) a::K,r,vs,pl)) (fun K=>(.run l (a+gh s)::K,r',vs',pl)) b r' vs'
def M7(X:Ctx)(n:Nat):Prop:=∀ (i:Nat)(s:Stmt),i≤X.p.Funcs.length→3*dep s+100*i≤n+1→xf (dc X.p i) s=0→gh s≤50→dep s≤6→7≤s.Kind→∀ (r:RunT)(a:Int)(vs pl:List Level),Valid X 1 r→0≤a→a+gh s≤200→WW X.p vs pl→(pl.length:Int)≤r.Steps→
 ∃ b vs' ex r',(NW n).f_watch_watcher_inner (dU X.p vs pl) (mk X r) (iD X.p) s a=some (b,dU X.p vs' (pl++ex),mk X r')∧WW X.p vs' (pl++ex)∧r.Steps≤r'.Steps∧∀ l,od X (fun K=>mH X s a l K r vs pl) (fun K=>(.back pl.length::.run l (a+gh s)::K,r',vs',pl++ex)) b r' vs'
def Qq(X:Ctx)(n:Nat):Prop:=∀ (i:Nat)(s:Stmt),i≤X.p.Funcs.length→100*i≤n→dc X.p i s=0→s.Kind=2→∀ (r:RunT)(a:Int)(vs pl:List Level),Valid X 1 r→WW X.p vs pl→(pl.length:Int)≤r.Steps+1→
 ∃ b vs' r',(NW n).f_watch_watcher_call (dU X.p vs pl) (mk X r) (iD X.p) s a=some (b,dU X.p vs' pl,mk X r')∧WW X.p vs' pl∧r.Steps≤r'.Steps∧∀ l,od X (fun K=>mH X s a l K r vs pl) (fun K=>(.run l (a+gh s)::K,r',vs',pl)) b r' vs'
variable {n:Nat}
theorem SD(hX:tA X)(h1:Uv X n):Qp X (n+1):=by
 intro i l hi hn z hc hd r a vs pl hv ha P hw G
 show ∃ b vs' r',l7 (NW n) (dU X.p vs pl) (mk X r) (iD X.p) l a=some (b,dU X.p vs' pl,mk X r')∧_
 unfold l7
 have hlen:=qW l
 obtain ⟨x,hx,hQ⟩:=kT (B:=fun v=>lh (NW n) (iD X.p) l v.1 v.2.1 v.2.2.1 v.2.2.2) (fun v=>l.length - v.2.2.2)
  (fun v=>v.2.2.2≤l.length∧∃ vs1 r1,v.1=dU X.p vs1 pl∧v.2.1=mk X r1∧WW X.p vs1 pl∧Valid X 0 r1∧r.Steps≤r1.Steps∧a≤v.2.2.1∧v.2.2.1+cP (l.drop v.2.2.2)=a+cP l∧∀ K,dR X (.run l a::K,r,vs,pl) (.run (l.drop v.2.2.2) v.2.2.1::K,r1,vs1,pl))
  (fun x=>∃ vs1 r1,WW X.p vs1 pl∧r.Steps≤r1.Steps∧((x= .inl (dU X.p vs1 pl,mk X r1)∧od X (fun K=>(.run l a::K,r,vs,pl)) (fun K=>(K,r1,vs1,pl)) false r1 vs1)∨(∃ b c,x= .inr (b,c,false,dU X.p vs1 pl,mk X r1)∧od X (fun K=>(.run l a::K,r,vs,pl)) (fun K=>(K,r1,vs1,pl)) true r1 vs1))) (by
   rintro ⟨w,c,b,k⟩ ⟨hk,vs1,r1,rfl,rfl,w1,v1,v2,v3,v4,v5⟩
   simp only at hk v3 v4 v5 ⊢
   unfold lh
   by_cases u:k<l.length
   ·have hm:=cp u
    have g1:=Cy hm
    have g2:=Cz hm
    have M:=CB z _ hm
    rw [e6 u,cP] at v4
    rw [e6 u] at v5
    rw [af (by omega),aV u,ad]
    generalize l[k]=s at *
    have g3:=yK s
    have g4:=yL s
    obtain ⟨bb,vs2,r2,e1,e4,e5,e2⟩:=h1 i s hi (by omega) M (by omega) (by omega) r1 b vs1 pl v1 (by omega) (by omega) w1 (by omega)
    have e2:=(e2 (l.drop (k+1))).back v5
    rw [e1,ad]
    cases bb with
    | false=>exact .inl ⟨_,rfl,vs2,r2,e4,by omega,.inl ⟨rfl,.bad (e2.2 rfl).1 _ (e2.2 rfl).2.choose_spec⟩⟩
    | true=>
     obtain ⟨t1,t2⟩:=e2.1 rfl
     simp only [aA]
     rw [E3 (by omega) (by omega),ad,af (qm (by omega) (by omega)),E3 (by omega) (by omega),ad,af (qm (by omega) (by omega)),af (qm (by omega) (by omega)),af (oK (by omega))]
     have ec:b+(1+(cP s.Then:Int)+(cP s.Else:Int))=b+(gh s:Int):=by omega
     rw [ec]
     exact .inr ⟨_,rfl,by grind,by simp only;omega⟩
   ·rw [ab (by omega)]
    have Y:l.drop k=[]:=mr (by omega)
    rw [Y] at v5
    exact .inl ⟨_,rfl,vs1,r1,w1,v2,.inr ⟨b,k,by grind,.Qo v1 fun K=>(v5 K).trans (dR.one rfl)⟩⟩) (dU X.p vs pl,mk X r,a,0) (by grind [dR.refl])
 grind
theorem Qr(hX:tA X)(hL:nJ X.p)(h1:Qp X n):Qq X (n+1):=by
 intro i s hi hn z hk r a vs pl hv hw G
 show ∃ b vs' r',lj (NW n) (dU X.p vs pl) (mk X r) (iD X.p) s a=some (b,dU X.p vs' pl,mk X r')∧_
 unfold lj
 obtain ⟨c1,c2,c3,c4,c5,c6,c7⟩:=called hX hi z hk
 obtain ⟨f1,f2,f3,f4⟩:=CD c4
 obtain ⟨o1,o2,o3,o4,o5,o6⟩:=oL z
 have v1:=o2 (by rw [hk];rfl)
 rw [SC hX hL hw (mk X r) hi z hk,ad]
 cases he:lI X vs pl s with
 | none=>
  have C:∀ l K,mH X s a l K r vs pl=([],xT r a,vs,pl):=by grind [mH]
  simp only [dq,cF]
  rw [CO,ad]
  exact ⟨false,vs,xT r a,rfl,hw,uL _,fun l=>.bad (by show (3:Int)≠0;decide) pl (by grind [dR.refl])⟩
 | some us=>
  have C:∀ l K,mH X s a l K r vs pl=(.run (dw X s).Body (nth X.first s.Other)::.leave s a::.run l (a+gh s)::K,kH X s r,us,pl):=by grind [mH]
  obtain ⟨e1,e2⟩:=Ul hX hi z hk hv
  obtain ⟨g1,g2,g3⟩:=M0 hX c1 (by omega)
  have hF:fZ (mk X (kH X s r)) s.Other=some (nth X.first s.Other):=by
   grind [fZ,cA,mk]
  simp only [aA]
  rw [e1,ad,cA c1,ad,An,c3,ad,hF,ad]
  have E:(kH X s r).Steps=r.Steps:=rfl
  obtain ⟨bb,vs2,r2,t1,t4,t2,t3⟩:=h1 s.Other.toNat (dw X s).Body (by omega) (by omega) f3 c6 c7 (kH X s r) (nth X.first s.Other) us pl e2.less g2 (by omega) (hw.enter he) (by grind)
  rw [E] at t2
  rw [t1,ad]
  cases bb with
  | false=>exact ⟨false,vs2,r2,rfl,t4,t2,fun l=>.bad (t3.2 rfl).1 _ fun K=>by show dR X (mH X s a l K r vs pl) _;rw [C];exact (t3.2 rfl).2.choose_spec _⟩
  | true=>
   obtain ⟨u1,u3⟩:=t3.1 rfl
   obtain ⟨l1,l2⟩:=Um hX hi z hk u1
   rw [af rfl,BM hL t4 (mk X r2) (iD X.p) f4,ad,E5 hL t4 (mk X r2) (iD X.p) v1.1 v1.2 (mI _ _ _),ad]
   cases hs:ob X.p vs2 pl s.Var (fX X.p vs2 pl (dw X s).Result) with
   | none=>
    simp only [dq,cF]
    rw [CO,ad]
    exact ⟨false,vs2,xT r2 a,rfl,t4,t2,fun l=>.bad (by show (3:Int)≠0;decide) pl fun K=>by show dR X (mH X s a l K r vs pl) _;rw [C];exact (u3 _).trans (dR.one (by simp only [fj,qY,hs]))⟩
   | some us2=>
    simp only [aA]
    rw [l1,ad]
    exact ⟨true,us2,qX X s r2,rfl,t4.put (mI _ _ _) hs,t2,fun l=>.Qo l2 fun K=>by show dR X (mH X s a l K r vs pl) _;rw [C];exact (u3 _).trans (dR.one (by simp only [fj,qY,hs]))⟩
theorem Oa(hX:tA X)(hL:nJ X.p)(h1:Qp X n):M7 X (n+1):=by
 intro i s hi hn z hc hd hk r a vs pl hv ha P hw G
 obtain ⟨s1,s2,s3⟩:=yN z
 obtain ⟨o1,o2,o3,o4,o5,o6⟩:=oL s1
 have he:=o5 (by simp [jI];omega)
 have g3:=yK s
 have g4:=yL s
 have al:=hX.fuel
 have T:=hv.steps
 show ∃ b vs' ex r',kB (NW n) (dU X.p vs pl) (mk X r) (iD X.p) s a=some (b,dU X.p vs' (pl++ex),mk X r')∧_
 unfold kB
 have I:=hw.push (l:=fX X.p vs pl s.Expr) (mI _ _ _) (by omega)
 have F:((pl++[fX X.p vs pl s.Expr]).length:Int)≤r.Steps+1:=by grind
 rw [M6 hL hw (mk X r) (iD X.p) he (by omega),ad]
 by_cases k7:s.Kind=7
 ·rw [af (by simp [k7])]
  unfold sb
  rw [Pj hv he,ad]
  have C:∀ l K,mH X s a l K r vs pl=(.run (if cM r.Vars s.Expr≠0 then s.Then else s.Else) (if cM r.Vars s.Expr≠0 then a+1 else a+1+cP s.Then)::.back pl.length::.run l (a+gh s)::K,r,vs,pl++[fX X.p vs pl s.Expr]):=by grind [mH]
  by_cases h0:cM r.Vars s.Expr=0
  ·rw [ab (by simp [h0]),af (qm (by omega) (by omega)),E3 (by omega) (by omega),ad,af (qm (by omega) (by omega)),ad]
   obtain ⟨bb,vs2,r2,t1,t4,t2,t3⟩:=h1 i s.Else hi (by omega) s3 (by omega) (by omega) r (a+1+cP s.Then) vs _ hv.less (by omega) (by omega) I F
   simp only
   rw [t1,ad]
   refine ⟨bb,vs2,_,r2,rfl,t4,t2,fun l=>⟨fun hb=>⟨(t3.1 hb).1,fun K=>?_⟩,fun hb=>⟨(t3.2 hb).1,(t3.2 hb).2.choose,fun K=>?_⟩⟩⟩
   ·show dR X (mH X s a l K r vs pl) _
    rw [C,ab (by simp [h0]),ab (by simp [h0])];exact (t3.1 hb).2 _
   grind
  ·rw [af (by simp [h0]),af (qm (by omega) (by omega)),ad]
   obtain ⟨bb,vs2,r2,t1,t4,t2,t3⟩:=h1 i s.Then hi (by omega) s2 (by omega) (by omega) r (a+1) vs _ hv.less (by omega) (by omega) I F
   simp only
   rw [t1,ad]
   refine ⟨bb,vs2,_,r2,rfl,t4,t2,fun l=>⟨fun hb=>⟨(t3.1 hb).1,fun K=>?_⟩,fun hb=>⟨(t3.2 hb).1,(t3.2 hb).2.choose,fun K=>?_⟩⟩⟩
   ·show dR X (mH X s a l K r vs pl) _
    rw [C,af h0,af h0];exact (t3.1 hb).2 _
   grind
 ·rw [ab (by simp [k7])]
  have k8:s.Kind=8:=by omega
  have C:∀ l K,mH X s a l K r vs pl=lookW X s a (.back pl.length::.run l (a+gh s)::K) r vs pl:=by grind [mH]
  let Z (l:List Stmt) (q:RunT) (us ex:List Level) (K:List jr):eC:=(if cM q.Vars s.Expr≠0 then .run s.Then (a+1)::.again s a::.back pl.length::.run l (a+gh s)::K else .back pl.length::.run l (a+gh s)::K,q,us,pl++ex)
  obtain ⟨x,hx,hQ⟩:=kT (B:=fun v=>jT (NW n) (iD X.p) s a v.1 v.2) (fun v=>(v.2.fuel - v.2.aU.Steps).toNat)
   (fun v=>∃ vs1 ex q,v=(dU X.p vs1 (pl++ex),mk X q)∧WW X.p vs1 (pl++ex)∧((pl++ex).length:Int)≤q.Steps+1∧Valid X 1 q∧r.Steps≤q.Steps∧∀ l K,dR X (mH X s a l K r vs pl) (Z l q vs1 ex K))
   (fun x=>∃ vs1 ex q,WW X.p vs1 (pl++ex)∧r.Steps≤q.Steps∧((x= .inl (dU X.p vs1 (pl++ex),mk X q)∧∀ l,od X (fun K=>mH X s a l K r vs pl) (fun K=>(.back pl.length::.run l (a+gh s)::K,q,vs1,pl++ex)) false q vs1)∨(∃ b,x= .inr (b,dU X.p vs1 (pl++ex),mk X q)∧∀ l,od X (fun K=>mH X s a l K r vs pl) (fun K=>(.back pl.length::.run l (a+gh s)::K,q,vs1,pl++ex)) true q vs1))) (by
    rintro v ⟨vs1,ex,q,rfl,w1,w2,v1,v2,v3⟩
    simp only
    unfold jT
    rw [Pj v1 he,ad]
    by_cases h0:cM q.Vars s.Expr=0
    ·rw [ab (by simp [h0])]
     refine .inl ⟨_,rfl,vs1,ex,q,w1,v2,.inr ⟨_,rfl,fun l=>.Qo v1.less fun K=>?_⟩⟩
     grind
    ·rw [af (by simp [h0]),af (qm (by omega) (by omega))]
     obtain ⟨bb,vs2,r2,t1,t4,t2,t3⟩:=h1 i s.Then hi (by omega) s2 (by omega) (by omega) q (a+1) vs1 _ v1.less (by omega) (by omega) w1 w2
     rw [t1,ad]
     have J:∀ l K,dR X (mH X s a l K r vs pl) (.run s.Then (a+1)::.again s a::.back pl.length::.run l (a+gh s)::K,q,vs1,pl++ex):=by grind
     cases bb with
     | false=>exact .inl ⟨_,rfl,vs2,ex,r2,t4,by omega,.inl ⟨rfl,fun l=>.bad (t3.2 rfl).1 _ fun K=>(J l K).trans ((t3.2 rfl).2.choose_spec _)⟩⟩
     | true=>
      obtain ⟨u1,u3⟩:=t3.1 rfl
      simp only [aA]
      rw [Pf hX u1,ad]
      by_cases hf:r2.Steps=X.fuel
      ·rw [af hf]
       simp only [dq,cF]
       refine .inl ⟨_,rfl,vs2,ex,r2.out,t4,by show r.Steps≤r2.Steps;omega,.inl ⟨rfl,fun l=>.bad (by show (2:Int)≠0;decide) (pl++ex) fun K=>((J l K).trans (u3 _)).trans (dR.one ?_)⟩⟩
       grind [fj]
      ·rw [ab hf]
       simp only [aA]
       have T:=u1.steps
       have hq:=v1.steps
       rw [M6 hL t4 (mk X r2.tick) (iD X.p) he (by omega),ad]
       refine .inr ⟨_,rfl,⟨vs2,ex++[fX X.p vs2 (pl++ex) s.Expr],r2.tick,by grind,by rw [←o7];exact t4.push (mI _ _ _) (by omega),by grind [RunT.tick],u1.tick hf,by grind [RunT.tick],fun l K=>((J l K).trans (u3 _)).trans (dR.one ?_)⟩,?_⟩
       ·grind [fj,lookW]
       grind [mk,RunT.tick]) (dU X.p vs (pl++[fX X.p vs pl s.Expr]),mk X r) ⟨vs,_,r,rfl,I,F,hv,uL _,fun l K=>by rw [C];exact dR.refl _ _⟩
  rw [hx,ad]
  obtain ⟨vs1,ex,q,w1,q0,⟨rfl,q1⟩ | ⟨b,rfl,q1⟩⟩:=hQ
  ·exact ⟨false,vs1,ex,q,rfl,w1,q0,q1⟩
  ·exact ⟨true,vs1,ex,q,rfl,w1,q0,q1⟩
theorem SE(hX:tA X)(hL:nJ X.p)(h1:Qq X n)(h2:M7 X n):Uv X (n+1):=by
 intro i s hi hn z hc hd r a vs pl hv ha P hw G
 obtain ⟨s1,s2,s3⟩:=yN z
 have g4:=yL s
 show ∃ b vs' r',l8 (NW n) (dU X.p vs pl) (mk X r) (iD X.p) s a=some (b,dU X.p vs' pl,mk X r')∧_
 unfold l8
 rw [Pf hX hv,ad]
 by_cases hf:r.Steps=X.fuel
 ·rw [af hf]
  simp only [dq,cF]
  exact ⟨false,vs,r.out,rfl,hw,uL _,fun l=>.bad (by show (2:Int)≠0;decide) pl (by grind [dR.one,fj])⟩
 ·rw [ab hf]
  simp only [aA]
  have ht:=hv.tick hf
  have C:∀ l K,dR X (.run (s::l) a::K,r,vs,pl) (mH X s a l K r.tick vs pl):=by grind [dR.one,fj]
  have hle:r.tick.Steps=r.Steps+1:=rfl
  by_cases k2:s.Kind=2
  ·rw [af (by simp [k2])]
   obtain ⟨bb,vs2,r2,t1,t4,t2,t3⟩:=h1 i s hi (by omega) s1 k2 r.tick a vs pl ht hw (by omega)
   rw [t1,ad]
   exact ⟨bb,vs2,r2,rfl,t4,by omega,fun l=>(t3 l).back (C l)⟩
  ·rw [ab (by simp [k2])]
   by_cases k7:7≤s.Kind
   ·rw [af k7]
    obtain ⟨bb,vs2,ex,r2,t1,t4,t2,t3⟩:=h2 i s hi (by omega) z hc hd k7 r.tick a vs pl ht ha P hw (by omega)
    rw [t1,ad]
    rw [af (show (dU X.p vs pl).places.length≤(dU X.p vs2 (pl++ex)).places.length by grind [CN])]
    have S:(⟨(),(dU X.p vs2 (pl++ex)).p,(dU X.p vs2 (pl++ex)).vars,(dU X.p vs2 (pl++ex)).places.take (dU X.p vs pl).places.length,()⟩:ax)=dU X.p vs2 pl:=by
     rw [An,CM,CN,CN,List.take_left];rfl
    refine ⟨bb,vs2,r2,by rw [←S],⟨t4.rows,hw.ne,hw.few,hw.psz⟩,by omega,fun l=>?_⟩
    have h3:=(t3 l).back (C l)
    refine ⟨fun hb=>⟨(h3.1 hb).1,fun K=>((h3.1 hb).2 K).trans (dR.one ?_)⟩,h3.2⟩
    grind [fj]
   ·rw [ab k7]
    rw [SA hL hw (mk X r.tick) s1 ⟨k2,by omega⟩,ad]
    have H:∀ l K,mH X s a l K r.tick vs pl=(match jW X.p vs pl s with | some us=>(.run l (a+gh s)::K,mb X s a r.tick,us,pl) | none=>([],xT r.tick a,vs,pl)):=by grind [mH]
    cases O:jW X.p vs pl s with
    | none=>
     simp only [O] at H
     simp only [dq,cF]
     rw [CO,ad]
     exact ⟨false,vs,xT r.tick a,rfl,hw,by show r.Steps≤r.Steps+1;omega,fun l=>.bad (by show (3:Int)≠0;decide) pl (by grind)⟩
    | some us=>
     simp only [O] at H
     simp only [aA]
     obtain ⟨q1,q2⟩:=afQ hX s1 ⟨k2,by omega⟩ ht a
     rw [q1,ad]
     have am:(mb X s a r.tick).Steps=r.tick.Steps:=by
      have:=(Pb X s a [] [] r.tick).2.1
      grind [Ke]
     exact ⟨true,us,mb X s a r.tick,rfl,hw.ahead O,by omega,fun l=>.Qo q2 (by grind)⟩
theorem Wm(hX:tA X)(hL:nJ X.p):∀ n,Qp X n∧Uv X n∧M7 X n∧Qq X n:=by
 intro n
 induction n with
 | zero=>
  refine ⟨fun i l _ h=>by omega,fun i s _ h=>?_,fun i s _ h=>?_,fun i s hi h z hk=>?_⟩
  ·have:=yL s;omega
  ·have:=yL s;omega
  ·have:=(called hX hi z hk).2.1;omega
 | succ n ih=>grind [SD,SE,Oa,Qr]
variable [Lp]
theorem od.eq{c:List jr→eC}{d:RunT→List Level→List jr→eC}{b':Bool}{vs:List Level}(hd:∀ r vs,∃ q,d r vs []=([],r,vs,q))(h:od X c (d r vs) b r vs)(h':od X c (d r' vs') b' r' vs'):b=b'∧r=r'∧vs=vs':=by
 have g:∀ {b r vs},od X c (d r vs) b r vs→(∃ q,dR X (c []) ([],r,vs,q))∧(b=true↔r.End=0):=by
  intro b r vs h
  cases b with
  | false=>exact ⟨(h.2 rfl).2.imp fun q hq=>hq [],⟨fun h=>(by cases h),fun h0=>absurd h0 (h.2 rfl).1⟩⟩
  | true=>
   obtain ⟨q,hq⟩:=hd r vs
   have:=(h.1 rfl).2 []
   rw [hq] at this
   exact ⟨⟨q,this⟩,⟨fun _=>(h.1 rfl).1.en,fun _=>rfl⟩⟩
 obtain ⟨⟨q,h1⟩,h2⟩:=g h
 obtain ⟨⟨q',ag⟩,ao⟩:=g h'
 have:=h1.yO ag
 grind
theorem Wn(hX:tA X)(hL:nJ X.p){a:Int}{vs pl:List Level}(hv:Valid X 0 r)(h0:0≤a)(h:a≤50)(hw:WW X.p vs pl)(G:(pl.length:Int)≤r.Steps+1):
  ∃ b vs' r',mQ (dU X.p vs pl) (mk X r) (iD X.p) X.p.Main a=some (b,dU X.p vs' pl,mk X r')∧WW X.p vs' pl∧od X (fun K=>(.run X.p.Main a::K,r,vs,pl)) (fun K=>(K,r',vs',pl)) b r' vs':=by
 have hm:=hX.ok.main
 have go:=fun n (hn:3*6+100*X.p.Funcs.length+1≤n)=>(Wm hX hL n).1 X.p.Funcs.length X.p.Main (aY _) (by omega) hX.ok.mains hm.1 hm.2 r a vs pl hv h0 (by omega) hw G
 obtain ⟨b,vs',r',e1,e2,_,e4⟩:=go _ (aY _)
 refine ⟨b,vs',r',Cm (3*6+100*X.p.Funcs.length+1) fun n hn=>?_,e2,e4⟩
 obtain ⟨b2,vs2,r2,d1,_,_,d4⟩:=go n hn
 obtain ⟨rfl,rfl,rfl⟩:=od.eq (d:=fun r vs K=>(K,r,vs,pl)) (fun r vs=>⟨pl,rfl⟩) e4 d4
 exact d1
theorem Vz{x:List Bool}(h:x.length=n):(List.range n).map (fun k=>on x k)=x:=by
 apply Dr
 grind [pK]
theorem join_self(h:cN n l):eF n l l=l:=by
 unfold eF xg C5
 simp only [gN,Bool.or_self]
 rw [Vz h.1,Vz h.2]
theorem adA{p:Program}(h:nJ p)(hl:cN (MM p) l):vU l=some l:=by
 unfold vU
 rw [ua h.small hl hl,ad,join_self hl]
theorem M8{p:Program}(h:nJ p){vs pl:List Level}(hw:WW p vs pl)(hv:p.Vars.length≤16)(r8:aH)(b:Bool)(r:Runner)(e:Int):mM (b,dU p vs pl,r) e=some (vs,e):=by
 have hl:=hw.rows.vl
 unfold mM
 have:=ny (B:=fun v=>nO (b,dU p vs pl,r) v.1 v.2) vs.length (fun k=>(vs.take k,k)) (x:=(vs,vs.length,false)) (fun k hk=>by
  unfold nO
  simp only [CM]
  rw [af (by omega),aV hk,ad,adA h (hw.rows.vs _ (cp hk)),ad,af (by grind),af (oK (by omega)),oZ hk]) (by
  grind [nO,CM])
 grind
theorem SF{p:Program}(h:nJ p):vV p=some (iD p):=by
 unfold vV
 rw [Vx _ h.eU,ad];rfl
theorem Wo{p:Program} : WW p (List.replicate p.Vars.length (fc (MM p))) [fc (MM p)]:=
 ⟨⟨by simp,by simp,by grind [nK],by grind [nK]⟩,by simp,by simp,by grind [nK]⟩
def q8(p:Program):eC:=([.run p.Main (nth (lk 0 p.Funcs) p.Funcs.length)],init p,List.replicate p.Vars.length (fc (MM p)),[fc (MM p)])
variable {ins:List (List Int)}{fuel:Int}
theorem Kr{p:Program}(h:q7 p ins fuel=0):nI p=0:=by
 grind [q7]
theorem Ks{p:Program}(hp:∀ f∈p.Funcs,f.Params.length≤9223372036854775807):
  (q7 p ins fuel≠0→m9 p ins fuel=some (⟨[],[],[],0,0,0⟩,[],q7 p ins fuel))∧(q7 p ins fuel=0→∃ r vs,m9 p ins fuel=some (r,vs,0)∧(∃ pl,WW p vs pl)∧ub (jv p ins fuel) (q8 p) r vs):=by
 unfold m9
 rw [Un hp,ad]
 refine ⟨fun h=>?_,fun h=>?_⟩
 ·grind
 ·rw [ab (by simp [h])]
  have hX:=M1 h
  have hL:nJ p:=Ss (Kr h)
  have L:=hX.ok.vars
  have D:p.Vars.length≤16:=L
  rw [adx hX,ad,tu hL,ad,SF hL,ad]
  obtain ⟨g1,g2,g3⟩:=M0 hX (k:=p.Funcs.length) (by omega) (uL _)
  have hv:Valid (jv p ins fuel) 0 (init p):=⟨by simp [init,jv],fun x hx=>by rw [uS hx];rfl,by simp [init,jv],by grind [init],by have:=hX.fuel;simp only [init];omega,by simp [init],rfl⟩
  have Q:=ny (B:=fun v=>nN p v.1 v.2) p.Vars.length (fun k=>(k,List.replicate k (fc (MM p)))) (x:=(p.Vars.length,false,List.replicate p.Vars.length (fc (MM p)))) ((by grind [nN,tu,oK,List.replicate_succ'])) (by
   grind [nN])
  simp only [List.replicate_zero] at Q
  have hF:fZ (mk (jv p ins fuel) (init p)) (p.Funcs.length:Int)=some (nth (jv p ins fuel).first (p.Funcs.length:Int)):=by
   grind [fZ,cA,mk]
  rw [Q,ad,hF,ad]
  obtain ⟨b,vs,r',e1,e2,e3⟩:=Wn (X:=jv p ins fuel) hX hL hv g2 g3 Wo (by show (1:Int)≤0+1;omega)
  have e1':mQ (⟨(),p,List.replicate p.Vars.length (fc (MM p)),[fc (MM p)],()⟩:ax) (mk (jv p ins fuel) (init p)) (iD p) p.Main (nth (jv p ins fuel).first (p.Funcs.length:Int))=some (b,dU p vs [fc (MM p)],mk (jv p ins fuel) r'):=e1
  rw [e1',ad]
  have e2':WW p vs [fc (MM p)]:=e2
  cases b with
  | true=>
   obtain ⟨u1,u2⟩:=e3.1 rfl
   rw [af rfl,M8 hL e2' D (iD p),ad]
   exact ⟨_,_,rfl,⟨_,e2'⟩,r',_,u2 [],by unfold Ah;rw [af u1.en];rfl⟩
  | false=>
   rw [ab (by simp),M8 hL e2' D (iD p),ad]
   obtain ⟨u1,q,u2⟩:=e3.2 rfl
   exact ⟨r',_,rfl,⟨_,e2'⟩,r',q,u2 [],by grind [Ah]⟩
def uk(X:Ctx)(v t:Nat)(r:RunT):Prop:=r.Vars.length=v∧r.Taken.length=t∧(r.Events.length:Int)≤r.Steps∧r.Steps≤X.fuel
theorem Wp(X:Ctx)(s:Stmt)(a:Int)(r:RunT):(mb X s a r).Vars.length=r.Vars.length∧(mb X s a r).Taken.length=r.Taken.length∧(mb X s a r).Events.length≤r.Events.length+1∧(mb X s a r).Steps=r.Steps:=by
 grind [mb,RunT.set,RunT.du,RunT.ev]
variable {v t:Nat}
theorem uk.step(h:uk X v t c.2.1):uk X v t (fj X c).2.1:=by
 obtain ⟨K,r,vs,pl⟩:=c
 obtain ⟨h1,h2,h3,h4⟩:=h
 match K with
 | []=>exact ⟨h1,h2,h3,h4⟩
 | .back n::K=>exact ⟨h1,h2,h3,h4⟩
 | .leave s a::K=>
  simp only [fj,qY]
  split
  ·exact ⟨by grind [qX,RunT.set,RunT.du],h2,h3,h4⟩
  ·exact ⟨h1,h2,h3,h4⟩
 | .run [] a::K=>exact ⟨h1,h2,h3,h4⟩
 | .again s a::K=>
  simp only [fj]
  split
  ·exact ⟨h1,h2,h3,h4⟩
  ·rename_i hf
   have ae:(r.Events.length:Int)≤r.Steps:=h3
   have ac:r.Steps≤X.fuel:=h4
   exact ⟨h1,h2,by grind [lookW,RunT.tick],by grind [lookW,RunT.tick]⟩
 | .run (s::l) a::K=>
  simp only [fj]
  split
  ·exact ⟨h1,h2,h3,h4⟩
  ·rename_i hf
   have ae:(r.Events.length:Int)≤r.Steps:=h3
   have ac:r.Steps≤X.fuel:=h4
   have ht:uk X v t r.tick:=⟨h1,h2,by grind [RunT.tick],by grind [RunT.tick]⟩
   unfold mH
   split
   ·split
    ·exact ⟨by simp only [kH,RunT.du,Gw];exact h1,ht.2.1,ht.2.2.1,ht.2.2.2⟩
    ·exact ⟨h1,ht.2.1,ht.2.2.1,ht.2.2.2⟩
   split
   ·exact ht
   split
   ·exact ht
   split
   ·obtain ⟨d1,d2,d3,d4⟩:=Wp X s a r.tick
    have e3:(r.tick.Events.length:Int)=r.Events.length:=rfl
    have e4:r.tick.Steps=r.Steps+1:=rfl
    exact ⟨d1.trans h1,d2.trans h2,by simp only;omega,by simp only;omega⟩
   ·exact ⟨h1,ht.2.1,ht.2.2.1,ht.2.2.2⟩
theorem uk.iter: ∀ (n:Nat){c:eC},uk X v t c.2.1→uk X v t (la X n c).2.1
 | 0,c,h=>h
 | n+1,c,h=>uk.iter n h.step
theorem Oc{vs:List Level}(h:ub X c r vs)(hk:uk X v t c.2.1):uk X v t r:=by
 obtain ⟨q,pl,⟨n,hn⟩,rfl⟩:=h
 have:=uk.iter n hk
 rw [hn] at this
 unfold Ah
 split
 ·exact this
 ·exact this
end Go.Proofs.YtlmphbbhaeampaaGreat.A
