/- Levels in order; how much they hold; flows of commands that are right. -/
import Derived.Test.YtkkkkondjclcnaaGreatOkS
import Derived.Test.YtkkkkondjclcnaaGreatRawF
set_option linter.all false
namespace Go.Proofs.YtkkkkondjclcnaaGreat.A
open Go
abbrev jZ(n:Nat)(l m:Level):Prop:=jY n l m=true
variable {l m:Level}
theorem le_iff{n:Nat}: jZ n l m↔∀ k,k<n→(on m.Readers k=true→on l.Readers k=true)∧(on l.Writers k=true→on m.Writers k=true):=by
 grind [jY,wy]
variable {k:Nat}
theorem Ve{n:Nat}(f:Nat→Bool)(hk:k<n):on ((List.range n).map f) k=f k:=by
 grind [on]
variable {x y:List Bool}
theorem Kd{n:Nat}(hk:k<n):on (qx n x y) k=(on x k&&on y k):=Ve _ hk
theorem Ke{n:Nat}(hk:k<n):on (wz n x y) k=(on x k||on y k):=Ve _ hk
theorem le_refl(n:Nat)(l:Level):jZ n l l:=le_iff.2 fun _ _=>⟨id,id⟩
variable {a b c:Level}
theorem le_trans{n:Nat}(h:jZ n a b)(h':jZ n b c):jZ n a c:=
 by grind [le_iff]
theorem RR(n:Nat)(a b:Level):jZ n a (cU n a b):=
 by grind [le_iff,cU,Kd,Ke]
theorem WO(n:Nat)(a b:Level):jZ n b (cU n a b):=
 by grind [le_iff,cU,Kd,Ke]
theorem join_le{n:Nat}(h:jZ n a c)(h':jZ n b c):jZ n (cU n a b) c:=
 by grind [le_iff,cU,Kd,Ke]
theorem join_mono{n:Nat}{d:Level}(h:jZ n a c)(h':jZ n b d):jZ n (cU n a b) (cU n c d):=by grind [join_le,le_trans,RR,WO]
theorem bot_le(n:Nat)(l:Level):jZ n (fA n) l:=
 by grind [le_iff,fA,on]
def bit(l:Level)(k:Nat):Nat:=(if on l.Readers k=true then 0 else 1)+(if on l.Writers k=true then 1 else 0)
def wt:Nat→Level→Nat
 | 0,_=>0
 | n+1,l=>wt n l+bit l n
theorem afU(h:(on m.Readers k=true→on l.Readers k=true)∧(on l.Writers k=true→on m.Writers k=true)):bit l k≤bit m k:=by
 grind [bit]
theorem afV(n:Nat)(l:Level):wt n l≤2*n:=by
 induction n with
 | zero=>simp [wt]
 | succ n ih=>
  grind [bit,wt]
theorem RS{l m:Level} : ∀ {n:Nat},(∀ k,k<n→bit l k≤bit m k)→wt n l≤wt n m
 | 0,_=>aV _
 | n+1,h=>by
  have:=RS (n:=n) fun k hk=>h k (by omega)
  grind [wt]
theorem YT{l m:Level} : ∀ {n:Nat}{j:Nat},(∀ k,k<n→bit l k≤bit m k)→j<n→bit l j<bit m j→wt n l<wt n m
 | n+1,j,h,hj,hb=>by
  have h1:=RS (n:=n) fun k hk=>h k (by omega)
  have h2:=h n (by omega)
  rw [wt,wt]
  by_cases he:j=n
  ·subst he;omega
  ·have:=YT (n:=n) (fun k hk=>h k (by omega)) (show j<n by omega) hb
   omega
variable {t:Level}
theorem RT{n:Nat}{f:Level}(h:jY n f t=false):wt n t<wt n (cU n t f):=by
 have hle:=le_iff.1 (RR n t f)
 have:¬jZ n f t:=by grind
 rw [le_iff] at this
 simp only [Classical.not_forall] at this
 obtain ⟨k,hk,hn⟩:=this
 refine YT (fun k hk=>afU (hle k hk)) hk ?_
 grind [Kd,Ke,bit,cU]
def Kf(n:Nat)(V:List Level):Nat:=(V.map (wt n)).sum
theorem Gj(n:Nat):∀ V:List Level,Kf n V≤2*n*V.length
 | []=>by simp [Kf]
 | l::V=>by
  have:=Gj n V
  grind [afV,Kf,Nat.mul_add]
theorem LQ(n:Nat)(u:Level):∀ {V:List Level}{j:Nat}{t:Level},V[j]? =some t→Kf n (V.set j u)+wt n t=Kf n V+wt n u
 | [],j,t,h=>by simp at h
 | l::V,0,t,h=>by
  grind [Kf]
 | l::V,j+1,t,h=>by
  have:=LQ n u (V:=V) (j:=j) (t:=t) (by simpa using h)
  grind [Kf]
def wB(n:Nat)(V W:List Level):Prop:=V.length=W.length∧∀ (i:Nat)(a b:Level),V[i]? =some a→W[i]? =some b→jZ n a b
theorem Es(n:Nat)(V:List Level):wB n V V:=⟨rfl,by grind [le_refl]⟩
variable {j:Nat}{u:Level}
theorem RU{n:Nat}{V W:List Level}(h:wB n V W)(hu:∀ b,W[j]? =some b→jZ n u b):wB n (V.set j u) W:=⟨by rw [vA];exact h.1,fun i a b ha hb=>by
 rw [uX] at ha
 split at ha
 ·grind
 ·exact h.2 i a b ha hb⟩
def Kg(n:Nat)(V:List Level):List Int→Level→Level
 | [],v=>v
 | k::ns,v=>Kg n V ns (cU n v (V.getD k.toNat (fA n)))
def iH(n:Nat)(V:List Level)(e:aB):Level:=Kg n V (mj e) (fA n)
theorem MR{n:Nat}{V W:List Level}(h:wB n V W)(k:Nat):jZ n (V.getD k (fA n)) (W.getD k (fA n)):=by
 rw [lM,lM]
 by_cases hk:k<V.length
 ·have X:k<W.length:=by rw [←h.1];exact hk
  rw [aP hk,aP X]
  exact h.2 k _ _ (aP hk) (aP X)
 grind [bot_le]
theorem Ps{n:Nat}{V W:List Level}(h:wB n V W):∀ (ns:List Int)(v w:Level),jZ n v w→jZ n (Kg n V ns v) (Kg n W ns w)
 | [],v,w,hv=>hv
 | k::ns,v,w,hv=>Ps h ns _ _ (join_mono hv (MR h k.toNat))
theorem vf{n:Nat}{V W:List Level}(h:wB n V W)(e:aB):jZ n (iH n V e) (iH n W e):=Ps h _ _ _ (le_refl n _)
variable [Lp]
theorem go_eq{p:Program}(h:nA p){vars:List Level}(hs:∀ l∈vars,bw (MM p) l):∀ (ns:List Int)(v:Level),bw (MM p) v→(∀ n∈ns,0≤n∧n.toNat<vars.length)→Dw vars ns v=some (Kg (MM p) vars ns v)∧bw (MM p) (Kg (MM p) vars ns v)
 | [],v,hv,_=>⟨rfl,hv⟩
 | n::ns,v,hv,hn=>by
  obtain ⟨h0,h1⟩:=hn n (by simp)
  have hd:vars.getD n.toNat (fA (MM p))=vars[n.toNat]:=by grind
  rw [Dw,cX h0,ad,aP h1,ad,sC h.small hv (hs _ (bN h1)),ad,Kg,hd]
  exact go_eq h hs ns _ (dX _ _ _) fun m hm=>hn m (by simp [hm])
structure eS(p:Program)(V F:List Level):Prop where
 vl:V.length=p.Vars.length
 fl:F.length=p.Funcs.length
 vs:∀ l∈V,bw (MM p) l
 fs:∀ l∈F,bw (MM p) l
variable {F:List Level}{e:aB}
theorem xG{p:Program}(h:nA p){V:List Level}(hV:eS p V F)(he:fL p e=0):jg p V e=some (iH (MM p) V e)∧bw (MM p) (iH (MM p) V e):=by
 have:=go_eq h hV.vs (mj e) _ (mz (MM p)) fun n hn=>by rw [hV.vl];exact Pq he n hn
 refine ⟨?_,this.2⟩
 unfold jg
 rw [yR h,ad]
 exact this.1
variable {pl:Level}
theorem of_eq{p:Program}(h:nA p){V:List Level}(hV:eS p V F)(he:fL p e=0)(C:bw (MM p) pl):pB p V pl e=some (cU (MM p) pl (iH (MM p) V e)):=by
 obtain ⟨h1,h2⟩:=xG h hV he
 unfold pB
 rw [h1,ad,sC h.small C h2]
def LeF(n:Nat)(f g:dq):Prop:=jZ n f.Level g.Level∧f.To=g.To∧f.Func=g.Func
def sE(p:Program)(f:dq):Prop:=bw (MM p) f.Level∧0≤f.To∧(if f.Func=true then f.To.toNat<p.Funcs.length else f.To.toNat<p.Vars.length)
inductive F2(n:Nat):List dq→List dq→Prop where
 | nil:F2 n [] []
 | cons {f g:dq} {r q:List dq} (h:LeF n f g) (t:F2 n r q):F2 n (f::r) (g::q)
theorem F2.append{n:Nat}{a b c d:List dq}(h:F2 n a b)(h':F2 n c d):F2 n (a++c) (b++d):=by
 induction h with
 | nil=>exact h'
 | cons h _ ih=>exact .cons h ih
theorem RW{p:Program}(h:nA p){V F W E:List Level}(hV:eS p V F)(hW:eS p W E)(hle:wB (MM p) V W){pl ql:Level}(C:bw (MM p) pl)(G:bw (MM p) ql)(D:jZ (MM p) pl ql){ps:List Int}(U:∀ n∈ps,0≤n∧n<p.Vars.length) :
  ∀ (es:List aB)(i:Nat)(o o':List dq),(∀ e∈es,fL p e=0)→i+es.length≤ps.length→(∀ f∈o,sE p f)→F2 (MM p) o o'→
   ∃ r r',qO p V pl ps es i o=some r∧qO p W ql ps es i o'=some r'∧F2 (MM p) r r'∧(∀ f∈r,sE p f)∧r.length=o.length+es.length
 | [],i,o,o',_,_,ho,h2=>⟨o,o',rfl,rfl,h2,ho,rfl⟩
 | e::es,i,o,o',he,hi,ho,h2=>by
  have Q:i<ps.length:=by grind
  have hn:=U _ (bN Q)
  have hs:=dX (MM p) pl (iH (MM p) V e)
  rw [qO,of_eq h hV (he e (by simp)) C,ad,aP Q,ad,qO,of_eq h hW (he e (by simp)) G,ad,aP Q,ad]
  obtain ⟨r,r',a1,a2,a3,a4,a5⟩:=RW h hV hW hle C G D U es (i+1) (o++[⟨cU (MM p) pl (iH (MM p) V e),ps[i],false⟩]) (o'++[⟨cU (MM p) ql (iH (MM p) W e),ps[i],false⟩]) (fun x hx=>he x (by simp [hx])) (by grind)
   (fun f hf=>by
    rcases dk.1 hf with hf | hf
    ·exact ho f hf
    ·obtain rfl:=jj.1 hf
     exact ⟨hs,hn.1,by simp;omega⟩) (h2.append (.cons ⟨join_mono D (vf hle e),rfl,rfl⟩ .nil))
  grind
variable {ql:Level}
theorem xH{p:Program}(h:nA p)(ho:Dt p){i:Nat}(hi:i≤p.Funcs.length){V W E:List Level}(hV:eS p V F)(hW:eS p W E)(hle:wB (MM p) V W)(C:bw (MM p) pl)(G:bw (MM p) ql)(D:jZ (MM p) pl ql){s:Stmt}(hs:bW p i s=0):
  s.Args.length≤4∧∃ r r',nN p V s pl=some r∧nN p W s ql=some r'∧F2 (MM p) r r'∧(∀ f∈r,sE p f)∧r.length≤10:=by
 obtain ⟨g1,g2,g3,g4,g5,g6⟩:=vK hs
 have one:∀ {x y:Level},bw (MM p) x→jZ (MM p) x y→fv s.Kind=true→F2 (MM p) [⟨x,s.Var,false⟩] [⟨y,s.Var,false⟩]∧(∀ f∈([⟨x,s.Var,false⟩]:List dq),sE p f)∧([⟨x,s.Var,false⟩]:List dq).length≤10:=fun hx af hv=>by
  have:=g2 hv
  exact ⟨.cons ⟨af,rfl,rfl⟩ .nil,fun f hf=>by obtain rfl:=jj.1 hf;exact ⟨hx,this.1,by simp;omega⟩,by simp⟩
 have noA:s.Kind≠2→s.Args.length≤4:=by grind [bW]
 unfold nN
 by_cases h1:s.Kind=1
 ·grind [eP,of_eq,dX,join_mono,vf,fv]
 rw [aa h1,aa h1]
 by_cases h2:s.Kind=2
 ·rw [ab h2,ab h2]
  obtain ⟨o1,o2⟩:=g3 (by simp [iv,h2])
  have o3:s.Other<i:=by grind [fD]
  have o4:s.Other.toNat<p.Funcs.length:=by omega
  have H:=ho.fns _ o4
  obtain ⟨f1,f2,_,f4⟩:=G9 H
  have am:s.Args.length=(p.Funcs[s.Other.toNat]).Params.length:=by
   grind [Gb]
  rw [cX o1,ad,ad,aP o4,ad,ad]
  obtain ⟨r,r',a1,a2,a3,a4,a5⟩:=RW h hV hW hle C G D f2 s.Args 0 [] [] g6 (by omega) (fun _ h=>absurd h (by simp)) .nil
  rw [a1,a2,ad,ad,of_eq h hV f4 C,of_eq h hW f4 G,ad,ad]
  have hv:=g2 (by simp [fv,h2])
  refine ⟨by omega,_,_,rfl,rfl,a3.append (.cons ⟨join_mono D (vf hle _),rfl,rfl⟩ (.cons ⟨D,rfl,rfl⟩ .nil)),fun f hf=>?_,?_⟩
  ·rcases dk.1 hf with hf | hf
   ·exact a4 f hf
   ·rcases eX.1 hf with rfl | hf
    ·exact ⟨dX _ _ _,hv.1,by simp;omega⟩
    ·obtain rfl:=jj.1 hf
     exact ⟨C,o1,by simp;omega⟩
  grind
 rw [aa h2,aa h2]
 by_cases h3:s.Kind=3
 ·rw [ab h3,ab h3]
  obtain ⟨o1,o2⟩:=g3 (by simp [iv,h3])
  have o3:s.Other<p.Ins.length:=by grind [fD]
  have o4:s.Other.toNat<p.Ins.length:=by omega
  have I:=h.ins _ (bN o4)
  have M:=oH p.ak (p.Ins[s.Other.toNat])
  rw [cX o1,ad,ad,aP o4,ad,ad,Pm p.ak h.dT _ I,ad,ad,sC h.small C M,sC h.small G M,ad,ad]
  grind [dX,join_mono,le_refl,fv]
 rw [aa h3,aa h3]
 by_cases h5:s.Kind=5
 ·rw [ab h5,ab h5]
  have he:=g5 (by simp [eP,h5])
  rw [of_eq h hV he C,of_eq h hW he G]
  have hj:=dX (MM p) pl (iH (MM p) V s.Expr)
  have hm:=le_iff.1 (join_mono D (vf hle s.Expr))
  obtain ⟨a1,a2,a3⟩:=one (x:=⟨pl.Readers,(cU (MM p) pl (iH (MM p) V s.Expr)).Writers⟩) (y:=⟨ql.Readers,(cU (MM p) ql (iH (MM p) W s.Expr)).Writers⟩) ⟨C.1,hj.2⟩ ((by grind [le_iff])) (by simp [fv,h5])
  grind
 rw [aa h5,aa h5]
 by_cases h6:s.Kind=6
 ·rw [ab h6,ab h6]
  have he:=g5 (by simp [eP,h6])
  rw [of_eq h hV he C,of_eq h hW he G]
  have hj:=dX (MM p) pl (iH (MM p) V s.Expr)
  have hm:=le_iff.1 (join_mono D (vf hle s.Expr))
  obtain ⟨a1,a2,a3⟩:=one (x:=⟨(cU (MM p) pl (iH (MM p) V s.Expr)).Readers,pl.Writers⟩) (y:=⟨(cU (MM p) ql (iH (MM p) W s.Expr)).Readers,ql.Writers⟩) ⟨hj.1,C.2⟩ ((by grind [le_iff])) (by simp [fv,h6])
  grind
 rw [aa h6,aa h6]
 exact ⟨noA (by omega),_,_,rfl,rfl,.nil,fun _ h=>(by cases h),by simp⟩
def CL(p:Program)(n:Nat)(V F:List Level)(f:dq):Prop:=
 if f.Func=true then ∀ t,F[f.To.toNat]? =some t→jZ n f.Level t
 else ∀ v t,p.Vars[f.To.toNat]? =some v→v.Known=false→V[f.To.toNat]? =some t→jZ n f.Level t
section
variable (n:Nat)(V:List Level)(T:Stmt→Level→Prop)
mutual
def Et:Stmt→Level→Prop
 | ⟨k,v,o,e,args,th,el⟩,pl=>T ⟨k,v,o,e,args,th,el⟩ pl∧(7≤k→ri th (cU n pl (iH n V e))∧ri el (cU n pl (iH n V e)))
def ri:List Stmt→Level→Prop
 | [],_=>True
 | x::r,pl=>Et x pl∧ri r pl
end
theorem LR(s:Stmt)(pl:Level):Et n V T s pl↔T s pl∧(7≤s.Kind→ri n V T s.Then (cU n pl (iH n V s.Expr))∧ri n V T s.Else (cU n pl (iH n V s.Expr))):=by
 cases s;rw [Et]
def IL(F:List Level):List Func→Nat→Prop
 | [],_=>True
 | f::r,i=>(∀ q,F[i]? =some q→ri n V T f.Body q)∧IL F r (i+1)
def xJ(p:Program)(F:List Level):Prop:=IL n V T F p.Funcs 0∧ri n V T p.Main (fA n)
end
variable [Lp]
def asks(p:Program)(V F:List Level)(st:Stmt)(pl:Level):Prop:=∀ fs,nN p V st pl=some fs→∀ f∈fs,CL p (MM p) V F f
structure rJ(p:Program)(W E:List Level)(s:bX):Prop where
 ok:eS p s.V s.F
 v:wB (MM p) s.V W
 f:wB (MM p) s.F E
def mu(p:Program)(s:bX):Nat:=Kf (MM p) s.V+Kf (MM p) s.F
structure Grow(p:Program)(s t:bX):Prop where
 mu:mu p s≤mu p t
 ch:t.ch=true→s.ch=true∨A.mu p s<A.mu p t
 up:s.ch=true→t.ch=true
 kn:∀ (i:Nat)(v:Var),p.Vars[i]? =some v→v.Known=true→t.V[i]? =s.V[i]?
theorem Grow.refl(p:Program)(s:bX):Grow p s s:=⟨aV _,fun h=>.inl h,fun h=>h,fun _ _ _ _=>rfl⟩
variable {s:bX}
theorem Grow.trans{p:Program}{t u:bX}(h:Grow p s t)(h':Grow p t u):Grow p s u:=
 ⟨bS h.mu h'.mu,fun hu=>(h'.ch hu).elim (fun ht=>(h.ch ht).imp id fun P=>ea P h'.mu) fun P=>.inr (Nat.lt_of_le_of_lt h.mu P),fun hs=>h'.up (h.up hs),fun i v hv hk=>(h'.kn i v hv hk).trans (h.kn i v hv hk)⟩
theorem DB{n:Nat}{V:List Level}{i:Nat}(h:∀ l∈V,bw n l)(ht:V[i]? =some t):bw n t:=h t (bg ht)
theorem Eu{V:List Level}(h:l∈V.set j u):l∈V∨l=u:=(mU h)
theorem ZE{p:Program}(h:nA p){W E:List Level}(hb:rJ p W E s){f g:dq}(hf:sE p f)(R:LeF (MM p) f g)(hg:CL p (MM p) W E g):
  ∃ t,sD p s f=some t∧rJ p W E t∧Grow p s t∧(t.ch=false→t=s∧CL p (MM p) s.V s.F f):=by
 obtain ⟨h1,h2,h3⟩:=hf
 obtain ⟨l1,l2,l3⟩:=R
 unfold sD
 rw [cX h2,ad]
 unfold CL at hg
 cases H:f.Func with
 | true=>
  rw [ab rfl]
  rw [H,ab rfl] at h3
  rw [←l3,H,ab rfl,←l2] at hg
  have hi:f.To.toNat<s.F.length:=by rw [hb.ok.fl];exact h3
  have ht:=aP hi
  generalize s.F[f.To.toNat]=t at ht
  have K:=DB hb.ok.fs ht
  rw [ht,ad,vL h.small h1 K,ad]
  cases hu:jY (MM p) f.Level t with
  | true=>
   rw [ab rfl]
   exact ⟨s,rfl,hb,.refl p s,by grind [CL]⟩
  | false=>
   rw [aa (by simp),sC h.small K h1,ad]
   have hw:=LQ (MM p) (cU (MM p) t f.Level) ht
   have hj:=RT hu
   refine ⟨_,rfl,⟨⟨hb.ok.vl,by simp [hb.ok.fl],hb.ok.vs,fun l hl=>(Eu hl).elim (hb.ok.fs l) fun e=>by rw [e];exact dX _ _ _⟩,hb.v,RU hb.f fun b O=>join_le (hb.f.2 _ _ _ ht O) (le_trans l1 (hg b O))⟩,⟨by simp only [mu];omega,fun _=>.inr (by simp only [mu];omega),fun _=>rfl,fun _ _ _ _=>rfl⟩,fun hc=>by cases hc⟩
 | false=>
  rw [aa (by simp)]
  rw [H,aa (by simp)] at h3
  rw [←l3,H,aa (by simp),←l2] at hg
  have hv:=aP h3
  generalize p.Vars[f.To.toNat]=v at hv
  rw [hv,ad]
  cases hk:v.Known with
  | true=>
   rw [ab rfl]
   exact ⟨s,rfl,hb,.refl p s,by grind [CL]⟩
  | false=>
   rw [aa (by simp)]
   have hi:f.To.toNat<s.V.length:=by rw [hb.ok.vl];exact h3
   have ht:=aP hi
   generalize s.V[f.To.toNat]=t at ht
   have K:=DB hb.ok.vs ht
   rw [ht,ad,vL h.small h1 K,ad]
   cases hu:jY (MM p) f.Level t with
   | true=>
    rw [ab rfl]
    exact ⟨s,rfl,hb,.refl p s,by grind [CL]⟩
   | false=>
    rw [aa (by simp),sC h.small K h1,ad]
    have hw:=LQ (MM p) (cU (MM p) t f.Level) ht
    have hj:=RT hu
    refine ⟨_,rfl,⟨⟨by simp [hb.ok.vl],hb.ok.fl,fun l hl=>(Eu hl).elim (hb.ok.vs l) fun e=>by rw [e];exact dX _ _ _,hb.ok.fs⟩,RU hb.v fun b O=>join_le (hb.v.2 _ _ _ ht O) (le_trans l1 (hg v b hv hk O)),hb.f⟩,⟨by simp only [mu];omega,fun _=>.inr (by simp only [mu];omega),fun _=>rfl,fun i v' ao aq=>?_⟩,fun hc=>by cases hc⟩
    grind
theorem Pt{p:Program}(h:nA p){W E:List Level} : ∀ {fs gs:List dq}{s:bX},F2 (MM p) fs gs→rJ p W E s→(∀ f∈fs,sE p f)→(∀ g∈gs,CL p (MM p) W E g)→
  ∃ t,xE p fs s=some t∧rJ p W E t∧Grow p s t∧(t.ch=false→t=s∧∀ f∈fs,CL p (MM p) s.V s.F f)
 | _,_,s,.nil,hb,_,_=>⟨s,rfl,hb,.refl p s,by grind⟩
 | _,_,s,.cons (f:=f) (g:=g) (r:=r) (q:=q) R ht,hb,hf,hg=>by
  obtain ⟨t,t1,t2,t3,t4⟩:=ZE h hb (hf f (by simp)) R (hg g (by simp))
  obtain ⟨u,u1,u2,u3,u4⟩:=Pt h ht t2 (fun x hx=>hf x (by simp [hx])) fun x hx=>hg x (by simp [hx])
  refine ⟨u,by grind [xE],u2,t3.trans u3,fun hc=>?_⟩
  grind
section
variable {p:Program}(h:nA p)(ho:Dt p){W E:List Level}(hW:eS p W E){i:Nat}(hi:i≤p.Funcs.length)
include h ho hW hi
theorem Pu{st:Stmt}{a:Nat}(hs:bW p i st=0)(hb:rJ p W E s)(C:bw (MM p) pl)(G:bw (MM p) ql)(D:jZ (MM p) pl ql)(hT:asks p W E st ql):
  ∃ t,tE p a st pl s=some t∧rJ p W E t∧Grow p s t∧(t.ch=false→t=s∧asks p s.V s.F st pl):=by
 obtain ⟨_,r,r',a1,a2,a3,a4,a5⟩:=xH h ho hi hb.ok hW hb.v C G D hs
 obtain ⟨t,t1,t2,t3,t4⟩:=Pt h a3 hb a4 (hT r' a2)
 refine ⟨t,by grind [tE],t2,t3,fun hc=>⟨(t4 hc).1,fun fs ar=>?_⟩⟩
 grind
mutual
theorem ZF:∀ (st:Stmt)(a:Nat)(pl ql:Level)(s:bX),xz (bW p i) st=0→qM st≤50→a+qM st≤1000→rJ p W E s→bw (MM p) pl→bw (MM p) ql→jZ (MM p) pl ql→Et (MM p) W (asks p W E) st ql→
  ∃ t,Ha p bX.V (tE p) st a pl s=some (a+qM st,t)∧rJ p W E t∧Grow p s t∧(t.ch=false→t=s∧Et (MM p) s.V (asks p s.V s.F) st pl)
 | ⟨k,v,o,e,args,th,el⟩,a,pl,ql,s,he,hc,ha,hb,C,G,D,hT=>by
  obtain ⟨e1,e2,e3⟩:=Em he
  obtain ⟨T1,T2⟩:=(LR _ _ _ _ _).1 hT
  have hlen:=(xH h ho hi hb.ok hW hb.v C G D e1).1
  have J:=A0 ⟨k,v,o,e,args,th,el⟩
  have l1:=ib th
  have l2:=ib el
  simp only at hlen J e2 e3
  obtain ⟨t,t1,t2,t3,t4⟩:=Pu h ho hW hi (a:=a) e1 hb C G D T1
  rw [IK,ab ⟨by omega,by simp only;omega,by simp only;omega,by simp only;omega⟩,t1,ad]
  by_cases h7:7≤k
  ·rw [ab h7]
   obtain ⟨T3,T4⟩:=T2 h7
   have hex:=(vK e1).2.2.2.2.1 (by grind [eP])
   simp only at hex
   have hq:=of_eq h t2.ok hex C
   have M:=dX (MM p) pl (iH (MM p) t.V e)
   have L:=dX (MM p) ql (iH (MM p) W e)
   have hle:=join_mono D (vf t2.v e)
   simp only
   rw [hq,ad]
   obtain ⟨u,u1,u2,u3,u4⟩:=DC th (a+1) _ _ t e2 (by omega) (by omega) t2 M L hle T3
   obtain ⟨w,w1,w2,w3,w4⟩:=DC el (a+1+bn th) _ _ u e3 (by omega) (by omega) u2 M L hle T4
   rw [u1,ad,w1]
   refine ⟨w,by rw [J];congr 2;omega,w2,(t3.trans u3).trans w3,fun hc=>?_⟩
   grind [LR]
  ·rw [aa h7]
   have ap:k<7:=by omega
   have z:th.length=0∧el.length=0:=by
    grind [bW]
   have z1:th=[]:=Fz.1 z.1
   have z2:el=[]:=Fz.1 z.2
   subst z1 z2
   refine ⟨t,by rw [J];simp [bn],t2,t3,fun hc=>?_⟩
   obtain ⟨rfl,c3⟩:=t4 hc
   exact ⟨rfl,(LR _ _ _ _ _).2 ⟨c3,fun hh=>absurd hh h7⟩⟩
theorem DC:∀ (l:List Stmt)(a:Nat)(pl ql:Level)(s:bX),eg (bW p i) l=0→bn l≤50→a+bn l≤1000→rJ p W E s→bw (MM p) pl→bw (MM p) ql→jZ (MM p) pl ql→ri (MM p) W (asks p W E) l ql→
  ∃ t,ml p bX.V (tE p) l a pl s=some (a+bn l,t)∧rJ p W E t∧Grow p s t∧(t.ch=false→t=s∧ri (MM p) s.V (asks p s.V s.F) l pl)
 | [],a,pl,ql,s,he,hc,ha,hb,C,G,D,hT=>⟨s,by rw [ml,bn];rfl,hb,.refl p s,by grind [ri]⟩
 | x::r,a,pl,ql,s,he,hc,ha,hb,C,G,D,hT=>by
  rw [bn] at hc ha
  rw [ri] at hT
  have aj:=A2 he x (by simp)
  have ai:eg (bW p i) r=0:=by
   grind [eg]
  obtain ⟨t,t1,t2,t3,t4⟩:=ZF x a pl ql s aj (by omega) (by omega) hb C G D hT.1
  obtain ⟨u,u1,u2,u3,u4⟩:=DC r (a+qM x) pl ql t ai (by omega) (by omega) t2 C G D hT.2
  refine ⟨u,by grind [ml,bn],u2,t3.trans u3,fun hc=>?_⟩
  grind [ri]
end
end
variable [Lp]
abbrev jG(l:List Func):Nat:=(l.map fun f=>bn f.Body).sum
section
variable {p:Program}(h:nA p)(ho:Dt p)
include h ho
theorem Hk{rest:List Func}{f:Func}{i:Nat}(hd:p.Funcs.drop i=f::rest):p.Funcs[i]? =some f∧p.Funcs.drop (i+1)=rest∧i<p.Funcs.length∧uu p i f=0:=by
 have hg:p.Funcs[i]? =some f:=by
  have:=an (fun l=>l[0]?) hd
  simpa using this
 have ac:p.Funcs.drop (i+1)=rest:=by
  have:=an List.tail hd
  simpa using this
 have hi:=(eb.1 hg).1
 have:=ho.fns i hi
 grind
theorem RX{W E:List Level}(hW:eS p W E):∀ (rest:List Func)(i a:Nat)(s:bX),p.Funcs.drop i=rest→jG rest≤50→a+jG rest≤1000→rJ p W E s→IL (MM p) W (asks p W E) E rest i→
  ∃ t,Ac p bX.V bX.F (tE p) rest i a s=some (a+jG rest,t)∧rJ p W E t∧Grow p s t∧(t.ch=false→t=s∧IL (MM p) s.V (asks p s.V s.F) s.F rest i)
 | [],i,a,s,hd,hs,ha,hb,hT=>⟨s,rfl,hb,.refl p s,fun _=>⟨rfl,trivial⟩⟩
 | f::rest,i,a,s,hd,hs,ha,hb,hT=>by
  obtain ⟨hg,ac,hi,H⟩:=Hk h ho hd
  obtain ⟨_,_,f3,_⟩:=G9 H
  have N:jG (f::rest)=bn f.Body+jG rest:=by simp [jG]
  rw [N] at hs ha
  have hl:=ib f.Body
  have Y:i<s.F.length:=by rw [hb.ok.fl];exact hi
  have Z:i<E.length:=by rw [hW.fl];exact hi
  have hq:=aP Y
  have S:=aP Z
  rw [Ac,ab (by omega),hq,ad]
  obtain ⟨t,t1,t2,t3,t4⟩:=DC h ho hW (by omega) f.Body a _ _ s f3 (by omega) (by omega) hb (hb.ok.fs _ (bN Y)) (hW.fs _ (bN Z)) (hb.f.2 i _ _ hq S) (hT.1 _ S)
  obtain ⟨u,u1,u2,u3,u4⟩:=RX hW rest (i+1) (a+bn f.Body) t ac (by omega) (by omega) t2 hT.2
  refine ⟨u,by grind,u2,t3.trans u3,fun hc=>?_⟩
  obtain ⟨rfl,c1⟩:=u4 hc
  obtain ⟨rfl,c2⟩:=t4 hc
  exact ⟨rfl,by grind,c1⟩
theorem ZG{W E:List Level}(hW:eS p W E)(hb:rJ p W E s)(hT:xJ (MM p) W (asks p W E) p E):
  ∃ a t,A5 p bX.V bX.F (tE p) s=some (a,t)∧rJ p W E t∧Grow p s t∧(t.ch=false→t=s∧xJ (MM p) s.V (asks p s.V s.F) p s.F):=by
 have N:=ho.sum
 have hf:=ho.funcs
 have hm:=ho.main
 have hl:=ib p.Main
 obtain ⟨t,t1,t2,t3,t4⟩:=RX h ho hW p.Funcs 0 0 s rfl (show jG p.Funcs≤50 by grind) (show 0+jG p.Funcs≤1000 by grind) hb hT.1
 obtain ⟨u,u1,u2,u3,u4⟩:=DC h ho hW (aV _) p.Main (0+jG p.Funcs) (fA (MM p)) (fA (MM p)) t ho.mains (by omega) (by grind) t2 (mz _) (mz _) (le_refl _ _) hT.2
 refine ⟨_,u,by unfold A5;rw [ab (by omega),t1,ad,yR h,ad,u1],u2,t3.trans u3,fun hc=>?_⟩
 obtain ⟨rfl,c1⟩:=u4 hc
 obtain ⟨rfl,c2⟩:=t4 hc
 exact ⟨rfl,c2,c1⟩
def oR(p:Program):List Level:=p.Vars.map fun v=>if v.Known=true then fg p.ak v.Label else fA (MM p)
def uL(p:Program):List Level:=p.Funcs.map fun _=>fA (MM p)
theorem IM:∀ (l:List Var)(o:List Level),(∀ v∈l,v∈p.Vars)→Hf p l o=some (o++l.map fun v=>if v.Known=true then fg p.ak v.Label else fA (MM p))
 | [],o,_=>by simp [Hf]
 | v::r,o,hv=>by
  have I:=h.vars v (hv v (by simp))
  rw [Hf,yR h,ad]
  cases hk:v.Known with
  | true=>
   rw [ab rfl,Pm p.ak h.dT _ I,ad,IM r _ fun w hw=>hv w (by simp [hw])]
   simp [hk]
  | false=>
   rw [aa (by simp),ad,IM r _ fun w hw=>hv w (by simp [hw])]
   simp [hk]
theorem Pv:∀ (l:List Func)(o:List Level),Hg p l o=some (o++l.map fun _=>fA (MM p))
 | [],o=>by simp [Hg]
 | v::r,o=>by
  rw [Hg,yR h,ad,Pv r]
  simp
theorem YU:eS p (oR p) (uL p):=by
 refine ⟨by simp [oR],by simp [uL],fun l hl=>?_,fun l hl=>?_⟩
 ·obtain ⟨v,_,rfl⟩:=iJ.1 hl
  grind [oH,mz]
 ·obtain ⟨v,_,rfl⟩:=iJ.1 hl
  exact mz _
theorem Vf{W E:List Level}(hW:eS p W E)(hK:∀ (i:Nat)(v:Var)(b:Level),p.Vars[i]? =some v→v.Known=true→W[i]? =some b→jZ (MM p) (fg p.ak v.Label) b)(hT:xJ (MM p) W (asks p W E) p E) :
  ∃ m,mA p=some m∧eS p m.Vars m.Funcs∧xJ (MM p) m.Vars (asks p m.Vars m.Funcs) p m.Funcs∧wB (MM p) m.Vars W∧wB (MM p) m.Funcs E∧∀ (i:Nat)(v:Var),p.Vars[i]? =some v→v.Known=true→m.Vars[i]? =some (fg p.ak v.Label):=by
 have ag:=ho.vars
 have au:=ho.funcs
 have b0:rJ p W E ⟨oR p,uL p,true⟩:=by
  refine ⟨YU h ho,⟨by rw [hW.vl];simp [oR],fun i a b ha hb=>?_⟩,⟨by rw [hW.fl];simp [uL],fun i a b ha hb=>?_⟩⟩
  ·grind [oR,bot_le]
  grind [uL,bot_le]
 have k0:∀ (i:Nat)(v:Var),p.Vars[i]? =some v→v.Known=true→(oR p)[i]? =some (fg p.ak v.Label):=by grind [oR]
 obtain ⟨s,hs,hQ⟩:=kA (B:=Er p) (fun s=>2*(2*MM p*(p.Vars.length+p.Funcs.length) - mu p s)+(if s.ch=true then 1 else 0))
  (fun s=>rJ p W E s∧(∀ (i:Nat)(v:Var),p.Vars[i]? =some v→v.Known=true→s.V[i]? =some (fg p.ak v.Label))∧(s.ch=false→xJ (MM p) s.V (asks p s.V s.F) p s.F))
  (fun s=>rJ p W E s∧(∀ (i:Nat)(v:Var),p.Vars[i]? =some v→v.Known=true→s.V[i]? =some (fg p.ak v.Label))∧xJ (MM p) s.V (asks p s.V s.F) p s.F) (by
   rintro s ⟨hb,ah,am⟩
   unfold Er
   cases hc:s.ch with
   | false=>
    grind
   | true=>
    rw [ab rfl]
    have al:rJ p W E ⟨s.V,s.F,false⟩:=⟨hb.ok,hb.v,hb.f⟩
    obtain ⟨a,t,t1,t2,t3,t4⟩:=ZG h ho hW al hT
    refine .inr ⟨t,by rw [t1];rfl,⟨t2,fun i v hv hk=>(t3.kn i v hv hk).trans (ah i v hv hk),fun ae=>?_⟩,?_⟩
    ·grind
    ·have m1:mu p ⟨s.V,s.F,false⟩=mu p s:=rfl
     have m2:=t3.mu
     have m3:mu p t≤2*MM p*(p.Vars.length+p.Funcs.length):=by
      have q1:=Gj (MM p) t.V
      have q2:=Gj (MM p) t.F
      rw [t2.ok.vl] at q1
      rw [t2.ok.fl] at q2
      grind [mu]
     cases ae:t.ch with
     | false=>grind
     | true=>
      have:=t3.ch ae
      grind) ⟨oR p,uL p,true⟩ (by grind)
 refine ⟨⟨s.V,s.F⟩,?_,hQ.1.ok,hQ.2.2,hQ.1.v,hQ.1.f,hQ.2.1⟩
 unfold mA
 have e1:=IM h ho p.Vars [] fun v hv=>hv
 have e2:=Pv h ho p.Funcs []
 rw [dZ] at e1 e2
 rw [ab (by omega),e1,ad,e2,ad]
 show (lp (Er p) ⟨oR p,uL p,true⟩).bind _=_
 rw [hs];rfl
end
variable [Lp]
mutual
theorem WR{n:Nat}{V:List Level}{T:Stmt→Level→Prop}(hT:∀ s pl,T s pl):∀ (s:Stmt)(pl:Level),Et n V T s pl
 | ⟨k,v,o,e,args,th,el⟩,pl=>by rw [Et];exact ⟨hT _ _,fun _=>⟨A8 hT th _,A8 hT el _⟩⟩
theorem A8{n:Nat}{V:List Level}{T:Stmt→Level→Prop}(hT:∀ s pl,T s pl):∀ (l:List Stmt)(pl:Level),ri n V T l pl
 | [],pl=>by rw [ri];trivial
 | x::r,pl=>by rw [ri];exact ⟨WR hT x pl,A8 hT r pl⟩
end
theorem Py{n:Nat}{V:List Level}{T:Stmt→Level→Prop}(hT:∀ s pl,T s pl)(F:List Level):∀ (l:List Func)(i:Nat),IL n V T F l i
 | [],_=>trivial
 | f::r,i=>⟨fun q _=>A8 hT f.Body q,Py hT F r (i+1)⟩
def Gl(n:Nat):Level:=⟨List.replicate n false,List.replicate n true⟩
theorem le_top(n:Nat)(l:Level):jZ n l (Gl n):=
 by grind [le_iff,Gl,on]
theorem ZJ{p:Program}(h:nA p)(ho:Dt p):∃ m,mA p=some m∧eS p m.Vars m.Funcs∧xJ (MM p) m.Vars (asks p m.Vars m.Funcs) p m.Funcs∧∀ (i:Nat)(v:Var),p.Vars[i]? =some v→v.Known=true→m.Vars[i]? =some (fg p.ak v.Label):=by
 have hs:bw (MM p) (Gl (MM p)):=by simp [bw,Gl]
 have hT:∀ s pl,asks p (List.replicate p.Vars.length (Gl (MM p))) (List.replicate p.Funcs.length (Gl (MM p))) s pl:=fun s pl fs _ f _=>by
  grind [CL,le_top]
 obtain ⟨m,m1,m2,m3,_,_,m6⟩:=Vf h ho (W:=List.replicate p.Vars.length (Gl (MM p))) (E:=List.replicate p.Funcs.length (Gl (MM p))) ⟨by simp,by simp,by grind,by grind⟩
  ((by grind [le_top])) ⟨Py hT _ _ _,A8 hT _ _⟩
 grind
end Go.Proofs.YtkkkkondjclcnaaGreat.A
