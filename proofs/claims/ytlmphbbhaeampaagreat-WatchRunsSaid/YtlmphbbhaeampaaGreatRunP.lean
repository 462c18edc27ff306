/- Runs: the program's functions for one command, as plain mathematics. -/
import Derived.Test.YtlmphbbhaeampaaGreatRunS
import Derived.Test.YtlmphbbhaeampaaGreatOkS
import Derived.Test.YtlmphbbhaeampaaGreatFW
set_option linter.all false
namespace Go.Proofs.YtlmphbbhaeampaaGreat.A
open Go
def eN:Int→List Func→List Int
 | n,[]=>[n]
 | n,f::r=>n::eN (n+bR f.Body) r
structure uB(X:Ctx):Prop where
 ok:Zp X.p
 fuel:0≤X.fuel∧X.fuel≤2000
 ins:X.ins.length=X.p.Ins.length
 nums:∀ l∈X.ins,l.length≤100∧∀ x∈l,fT x=true
 first:X.first=eN 0 X.p.Funcs
structure Valid(X:Ctx)(k:Int)(r:RunT):Prop where
 vars:r.Vars.length=X.p.Vars.length
 nums:∀ x∈r.Vars,fT x=true
 taken:r.Taken.length=X.p.Ins.length
 tks:∀ t∈r.Taken,0≤t∧t+k≤r.Steps
 steps:0≤r.Steps∧r.Steps≤X.fuel
 Bb:(r.Events.length:Int)+k≤r.Steps
 en:r.End=0
variable {X:Ctx}{r:RunT}
theorem Valid.less(h:Valid X 1 r):Valid X 0 r:=⟨h.vars,h.nums,h.taken,fun t ht=>by have:=h.tks t ht;omega,h.steps,by have:=h.Bb;omega,h.en⟩
theorem Valid.tick(h:Valid X 0 r)(hf:r.Steps≠X.fuel):Valid X 1 r.tick:=
 ⟨h.vars,h.nums,h.taken,fun t ht=>by have:=h.tks t ht;grind [RunT.tick],by have:=h.steps;grind [RunT.tick],by have:=h.Bb;grind [RunT.tick],h.en⟩
variable {l:List Int}{x:Int}
theorem mem_set{k:Nat}{y:Int}(h:y∈l.set k x):y∈l∨y=x:=lX h
variable {k:Int}
theorem Valid.ke(h:Valid X k r){vs:List Int}(h1:vs.length=X.p.Vars.length)(h2:∀ x∈vs,fT x=true):Valid X k (r.ke vs):=⟨h1,h2,h.taken,h.tks,h.steps,h.Bb,h.en⟩
theorem Valid.set(h:Valid X k r)(n:Int)(hx:fT x=true):Valid X k (r.set n x):=
 h.ke (by rw [yV];exact h.vars) fun y hy=>(mem_set hy).elim (h.nums y) fun e=>e▸hx
theorem Valid.ev(h:Valid X 1 r)(e:Event):Valid X 0 (r.ev e):=
 ⟨h.vars,h.nums,h.taken,fun t ht=>by have:=h.tks t ht;grind [RunT.ev],h.steps,by have:=h.Bb;grind [RunT.ev],h.en⟩
variable [Lp]
def mk(X:Ctx)(r:RunT):Runner:=⟨X.p,X.ins,X.fuel,X.first,r⟩
variable {e:ay}
theorem G3(h:Valid X k r)(he:eP X.p e=0):oS e r.Vars=some (c9 r.Vars e)∧fT (c9 r.Vars e)=true:=by
 have h1:=sD he
 rw [←h.vars] at h1
 exact ⟨XB h.nums h1,AK h.nums _ e (bG _) h1⟩
theorem manyN(n:Nat):∀ (l:List Stmt)(d c:Int),ed l+1≤n→bR l≤50→1≤d→d+ed l≤100→0≤c→c+bR l≤1000→(fq n).f_scope_Walk__run_Many_1 l d c=some (true,c+bR l):=by
 induction n with
 | zero=>grind
 | succ n ih=>
  intro l d c h1 h2 h3 h4 h5 h6
  show jA (fq n) l d c=_
  unfold jA
  have hlen:=jU l
  obtain ⟨x,hx,hQ⟩:=eX (B:=fun v=>jc (fq n) l d v.1 v.2) (fun v=>l.length - v.1)
   (fun v=>v.1≤l.length∧c+bR l=v.2+bR (l.drop v.1)∧0≤v.2)
   (fun x=>∃ a b,x= .inr (a,b,c+(bR l:Int))) (by
    rintro ⟨k,m⟩ ⟨hk,he,hm⟩
    simp only at hk he hm ⊢
    unfold jc Bq
    by_cases g:k<l.length
    ·rw [dU g,bR,sB] at he
     have u:=cg g
     have g1:=vj u
     have g2:=ye u
     rw [af (by omega),bu g,ab,af (fG (by omega) (by omega)),ab]
     generalize l[k]=s at *
     have g3:=sB s
     have g4:=sC s
     simp only [aH]
     rw [af (fG (by omega) (by omega)),ih _ _ _ (by omega) (by omega) (by omega) (by omega) (by omega) (by omega),ab]
     simp only [aH]
     rw [ih _ _ _ (by omega) (by omega) (by omega) (by omega) (by omega) (by omega),ab]
     simp only [aH]
     rw [af (eQ (by omega))]
     grind
    ·rw [jg (by omega),bR] at he
     simp_all) (0,c) ⟨du _,rfl,h5⟩
  grind
theorem HZ{l:List Stmt}(h1:bR l≤50)(h2:ed l≤6):qB l=some (bR l:Int):=by
 unfold qB
 have:nC l 1 0=some (true,0+(bR l:Int)):=uH 8 (by grind [manyN])
 rw [this];simp
theorem SO(hX:uB X)(h:Valid X 0 r):mj (mk X r)=some (if r.Steps=X.fuel then (false,mk X r.out) else (true,mk X r.tick)):=by
 unfold mj
 have hs:=h.steps
 have hf:=hX.fuel
 by_cases he:r.Steps=X.fuel
 ·rw [af (by simp [mk,he]),af he];rfl
 ·rw [ah (by simp [mk,he]),af ((by grind [fG,mk])),ah he];rfl
theorem getD_some(h0:0≤k)(h:k<l.length):l[k.toNat]? =some (nth l k):=by
 grind [nth]
theorem G4{l:List (List Int)}(h0:0≤k)(h:k<l.length):l[k.toNat]? =some (GO l k):=by
 grind [GO]
theorem MY(h0:0≤k)(h:k<l.length):nth l k∈l:=cm (getD_some h0 h)
theorem QB{l:List (List Int)}(h0:0≤k)(h:k<l.length):GO l k∈l:=cm (G4 h0 h)
variable {s:Stmt}
theorem Zs(hX:uB X){i:Int}(hs:cV X.p i s=0)(hk:s.Kind≠2∧s.Kind<7)(h:Valid X 1 r)(a:Int):
  rH (mk X r) s a=some (mk X (vE X s a r))∧Valid X 0 (vE X s a r):=by
 obtain ⟨o1,o2,o3,o4,o5,o6⟩:=lM hs
 have hf:=hX.fuel
 have I:=h.steps
 have hlen:=h.vars
 unfold rH vE
 by_cases k3:s.Kind=3
 ·have v1:=o2 (by rw [k3];rfl)
  have v2:=o3 (by rw [k3];rfl)
  have e3:fL X.p i s.Kind=X.p.Ins.length:=by rw [k3];rfl
  rw [e3] at v2
  have hi:=hX.ins
  have ht:=h.taken
  rw [af (by simp [k3]),af k3,cb v2.1,ab]
  simp only [mk]
  rw [G4 v2.1 (by omega),ab,getD_some v2.1 (by omega),ab]
  obtain ⟨n1,n2⟩:=hX.nums _ (QB (l:=X.ins) v2.1 (by omega))
  have n3:=h.tks _ (MY (l:=r.Taken) v2.1 (by omega))
  have d0:∀ w,lq ⟨X.p,X.ins,X.fuel,X.first,r⟩ s w=some (r.Vars.set s.Var.toNat w,r.Taken.set s.Other.toNat (nth r.Taken s.Other+1)):=by
   intro w
   unfold lq
   grind [cb,getD_some,fG]
  have fin:∀ w,fT w=true→Valid X 0 ⟨r.Events,r.Vars.set s.Var.toNat w,r.Taken.set s.Other.toNat (nth r.Taken s.Other+1),r.Steps,r.End,r.Stop⟩:=fun w hw=>
   ⟨by grind,fun y hy=>(mem_set hy).elim (h.nums y) fun e=>e▸hw,by grind,fun y hy=>(mem_set hy).elim (fun hm=>by have:=h.tks y hm;simp only;omega) (by grind),I,by have:=h.Bb;simp only;omega,h.en⟩
  by_cases g:nth r.Taken s.Other<((GO X.ins s.Other).length:Int)
  ·grind [cb,getD_some]
  ·have e0:nth (GO X.ins s.Other) (nth r.Taken s.Other)=0:=by
    grind [nth]
   rw [ah g,d0,ab,e0]
   exact ⟨rfl,fin _ rfl⟩
 ·rw [ah (by simp [k3]),ah k3]
  have he:=o5 (by simp [gG,hk.1,k3])
  obtain ⟨q1,q2⟩:=G3 h he
  simp only [mk]
  rw [q1,ab]
  have L:((r.Events.length:Int)+1≤2000):=by have:=h.Bb;omega
  by_cases k4:s.Kind=4
  ·rw [ah (by simp [k4]),af k4]
   unfold lr iR
   rw [af (by simp [k4])]
   simp only [xz]
   rw [af (by omega)]
   exact ⟨rfl,h.ev _⟩
  ·have v1:=o2 (by simp [fI,k4];omega)
   rw [af (by simp [k4]),ah k4,cb v1.1,ab,getD_some v1.1 (by omega),ab]
   unfold lr iR
   rw [ah (by simp [k4])]
   simp only [xz]
   have C:=h.set s.Var q2
   by_cases k5:s.Kind=5
   ·rw [af (by simp [k5]),af k5,af (by omega)]
    exact ⟨rfl,C.ev _⟩
   ·rw [ah (by simp [k5]),ah k5]
    by_cases k6:s.Kind=6
    ·rw [af (by simp [k6]),af k6,af (by omega)]
     exact ⟨rfl,C.ev _⟩
    ·rw [ah (by simp [k6]),ah k6]
     exact ⟨rfl,C.less⟩
variable [Lp]
theorem XJ(h:s.Other.toNat<X.p.Funcs.length):X.p.Funcs[s.Other.toNat]? =some (cY X s):=by
 grind [cY]
variable {i:Nat}
theorem called(hX:uB X)(hi:i≤X.p.Funcs.length)(hs:cV X.p i s=0)(hk:s.Kind=2):
  0≤s.Other∧s.Other.toNat<i∧X.p.Funcs[s.Other.toNat]? =some (cY X s)∧uy X.p s.Other.toNat (cY X s)=0∧s.Args.length=(cY X s).Params.length∧bR (cY X s).Body≤50∧ed (cY X s).Body≤6:=by
 obtain ⟨o1,o2,o3,o4,o5,o6⟩:=lM hs
 have v2:=o3 (by rw [hk];rfl)
 have e3:fL X.p i s.Kind=i:=by rw [hk];rfl
 rw [e3] at v2
 have g:s.Other.toNat<X.p.Funcs.length:=by omega
 have hg:=XJ (X:=X) (s:=s) g
 have he:X.p.Funcs[s.Other.toNat]=cY X s:=by grind
 have h1:=hX.ok.fns _ g
 rw [he] at h1
 have h2:=hX.ok.few _ (cm hg)
 grind [GN]
theorem QC(vs xs:List Int):ud vs [] xs=vs:=by cases xs<;>rfl
theorem SP{v:Nat} : ∀ (ps xs vs:List Int),ps.length=xs.length→vs.length=v→(∀ n∈ps,0≤n∧n<v)→(∀ x∈xs,fT x=true)→(∀ x∈vs,fT x=true)→(ud vs ps xs).length=v∧∀ x∈ud vs ps xs,fT x=true
 | [],[],vs,_,hv,_,_,hn=>⟨hv,hn⟩
 | n::ps,x::xs,vs,hl,hv,hp,hx,hn=>by
  rw [ud]
  exact SP ps xs (vs.set n.toNat x) (by simpa using hl) (by grind) (fun m hm=>hp m (by simp [hm])) (fun y hy=>hx y (by simp [hy])) (by grind)
 | [],_::_,_,hl,_,_,_,_=>by cases hl
 | _::_,[],_,hl,_,_,_,_=>by cases hl
theorem QD(hX:uB X)(hi:i≤X.p.Funcs.length)(hs:cV X.p i s=0)(hk:s.Kind=2)(h:Valid X 1 r):
  oy (mk X r) s=some (mk X (nv X s r))∧Valid X 1 (nv X s r):=by
 obtain ⟨c1,c2,c3,c4,c5,_⟩:=called hX hi hs hk
 obtain ⟨f1,f2,f3,f4⟩:=EX c4
 obtain ⟨o1,o2,o3,o4,o5,o6⟩:=lM hs
 unfold oy
 obtain ⟨x,hx,hQ⟩:=eX (B:=fun v=>mH (mk X r) s v.1 v.2) (fun v=>s.Args.length - v.2) (fun v=>v.2≤s.Args.length∧v.1=(s.Args.take v.2).map (c9 r.Vars))
  (fun x=>x.1=s.Args.map (c9 r.Vars)) (by
   rintro ⟨l,k⟩ ⟨D,he⟩
   simp only at D he ⊢
   unfold mH
   by_cases g:k<s.Args.length
   ·rw [af (by omega),bu g,ab]
    obtain ⟨q1,q2⟩:=G3 h (o6 _ (cg g))
    simp only [mk]
    rw [q1,ab,af (by grind),af (eQ (by omega))]
    grind [List.take_add_one]
   simp_all [iC]) ([],0) ⟨du _,by simp⟩
 rw [hx,ab,cb c1,ab]
 simp only [mk]
 rw [c3,ab]
 obtain ⟨l,k1,k2⟩:=x
 simp only at hQ
 subst hQ
 have H:(s.Args.map (c9 r.Vars)).length=(cY X s).Params.length:=by grind
 have G:∀ y∈s.Args.map (c9 r.Vars),fT y=true:=by
  intro y hy
  obtain ⟨e,he,rfl⟩:=oO.1 hy
  exact (G3 h (o6 e he)).2
 have o:=SP (v:=X.p.Vars.length) _ _ r.Vars H.symm h.vars f2 G h.nums
 unfold nv
 generalize s.Args.map (c9 r.Vars)=vals at *
 obtain ⟨x,F,J⟩:=eX (B:=fun v=>mI (vals,k1,k2) (cY X s) v.1 v.2) (fun v=>(cY X s).Params.length - v.1)
  (fun v=>v.1≤(cY X s).Params.length∧v.2.length=X.p.Vars.length∧ud r.Vars (cY X s).Params vals=ud v.2 ((cY X s).Params.drop v.1) (vals.drop v.1))
  (fun x=>x.2.2=ud r.Vars (cY X s).Params vals) (by
   rintro ⟨k,vs⟩ ⟨D,E,he⟩
   simp only at D E he ⊢
   unfold mI
   by_cases g:k<(cY X s).Params.length
   ·have z:k<vals.length:=by omega
    rw [dU g,dU z,ud] at he
    have hp:=f2 _ (cg g)
    rw [af (by omega),bu g,ab]
    simp only
    rw [bu z,ab,cb hp.1,ab,bu (by omega),ab,af (eQ (by omega))]
    grind
   simp_all [jg,QC]) (0,r.Vars) ⟨du _,h.vars,rfl⟩
 rw [F,ab,J]
 exact ⟨rfl,h.ke o.1 o.2⟩
theorem QE(hX:uB X)(hi:i≤X.p.Funcs.length)(hs:cV X.p i s=0)(hk:s.Kind=2)(h:Valid X 0 r):
  oz (mk X r) s=some (mk X (wy X s r))∧Valid X 0 (wy X s r):=by
 obtain ⟨c1,c2,c3,c4,c5,_⟩:=called hX hi hs hk
 obtain ⟨f1,f2,f3,f4⟩:=EX c4
 obtain ⟨o1,o2,o3,o4,o5,o6⟩:=lM hs
 have v1:=o2 (by rw [hk];rfl)
 obtain ⟨q1,q2⟩:=G3 h f4
 have hv:=h.vars
 unfold oz
 rw [cb c1,ab]
 simp only [mk]
 rw [c3,ab,q1,ab,cb v1.1,ab,getD_some v1.1 (by omega),ab]
 exact ⟨rfl,h.set s.Var q2⟩
theorem Lg:∀ (l:List Func)(n:Int),(eN n l).length=l.length+1
 | [],n=>rfl
 | f::r,n=>by rw [eN,fj,Lg r,fj]
theorem G6:∀ (l:List Func)(n:Int),0≤n→(n+((l.map fun f=>bR f.Body).sum:Nat)≤50)→∀ x∈eN n l,0≤x∧x≤50
 | [],n,h0,h,x,hx=>by
  grind [eN]
 | f::r,n,h0,h,x,hx=>by
  rw [eN] at hx
  rw [je,List.sum_cons] at h
  rcases eA.1 hx with rfl | hx
  ·omega
  ·exact G6 r _ (by omega) (by omega) x hx
theorem By(hX:uB X)(h0:0≤k)(h:k≤X.p.Funcs.length):X.first[k.toNat]? =some (nth X.first k)∧0≤nth X.first k∧nth X.first k≤50:=by
 have hl:X.first.length=X.p.Funcs.length+1:=by rw [hX.first,Lg]
 have hm:=MY (l:=X.first) h0 (by omega)
 refine ⟨getD_some h0 (by omega),?_⟩
 have hs:=hX.ok.sum
 rw [hX.first] at hm ⊢
 exact G6 X.p.Funcs 0 (by decide) (by omega) _ hm
theorem SQ(h:Valid X k r)(he:eP X.p e=0):ml (mk X r) e=some (c9 r.Vars e !=0):=by
 grind [ml,mk,G3]
def nE(p:Program)(ins:List (List Int))(fuel:Int):Int:=
 if jV p≠0 then jV p
 else if ins.length≠p.Ins.length then 1
 else if ins.any (fun l=>decide (100<(l.length:Int))) then 2
 else if ins.any (fun l=>l.any fun n=>!fT n) then 3
 else if fuel<0∨2000<fuel then 3 else 0
def lR(p:Program)(ins:List (List Int))(fuel:Int):Ctx:=⟨p,ins,fuel,eN 0 p.Funcs⟩
def init(p:Program):RunT:=⟨[],List.replicate p.Vars.length 0,List.replicate p.Ins.length 0,0,0,0⟩
structure Kept(v t:Nat)(r:RunT):Prop where
 vars:r.Vars.length=v
 taken:r.Taken.length=t
 nn:∀ x∈r.Taken,0≤x
 Bb:(r.Events.length:Int)≤r.Steps
theorem JG:∀ (ps xs vs:List Int),(ud vs ps xs).length=vs.length
 | n::ps,x::xs,vs=>by rw [ud,JG ps xs,yV]
 | [],xs,vs=>by cases xs<;>rfl
 | _::_,[],vs=>rfl
variable {v t:Nat}
theorem Kept.tick(h:Kept v t r):Kept v t r.tick∧(r.tick.Events.length:Int)+1≤r.tick.Steps:=
 ⟨⟨h.vars,h.taken,h.nn,by have:=h.Bb;grind [RunT.tick]⟩,by have:=h.Bb;grind [RunT.tick]⟩
theorem aid(h:∀ x∈l,0≤x)(k:Int):0≤nth l k:=by
 unfold nth
 rw [xA]
 cases hk:l[k.toNat]? with
 | none=>grind
 | some x=>exact h x (cm hk)
variable {c:wW}
theorem Kept.step(h:Kept v t c.2):Kept v t (CF X c).2:=by
 obtain ⟨ts,r⟩:=c
 match ts with
 | []=>exact h
 | .leave s::K=>exact ⟨by simp only [CF,wy,RunT.set,RunT.ke,yV];exact h.vars,h.taken,h.nn,h.Bb⟩
 | .run [] _::K=>exact h
 | .run (s::l) a::K=>
  simp only [CF]
  split
  ·exact ⟨h.vars,h.taken,h.nn,h.Bb⟩
  ·obtain ⟨⟨k1,k2,k3,k4⟩,k5⟩:=Kept.tick h
   generalize r.tick=q at *
   unfold IK
   split
   ·exact ⟨by grind [nv,RunT.ke,JG],k2,k3,k4⟩
   split
   ·exact ⟨k1,k2,k3,k4⟩
   split
   ·split
    ·exact ⟨k1,k2,k3,k4⟩
    ·exact ⟨k1,k2,k3,k4⟩
   unfold vE
   have hs:∀ (n x:Int),((q.set n x).Vars.length=v):=by grind [RunT.set,RunT.ke]
   split
   ·exact ⟨by grind,by grind,fun y hy=>(mem_set hy).elim (k3 y) fun e=>by have:=aid k3 s.Other;omega,k4⟩
   split
   ·exact ⟨k1,k2,k3,by grind [RunT.ev]⟩
   split
   ·exact ⟨hs _ _,k2,k3,by grind [RunT.ev,RunT.set,RunT.ke]⟩
   split
   ·exact ⟨hs _ _,k2,k3,by grind [RunT.ev,RunT.set,RunT.ke]⟩
   ·exact ⟨hs _ _,k2,k3,k4⟩
theorem Kept.iter: ∀ (n:Nat){c:wW},Kept v t c.2→Kept v t (iter X n c).2
 | 0,c,h=>h
 | n+1,c,h=>Kept.iter n h.step
theorem JH{X:Ctx} : ∀ (n:Nat){c:wW},c.2.Steps≤X.fuel→(A.iter X n c).2.Steps≤X.fuel
 | 0,c,h=>h
 | n+1,c,h=>JH n (T5 h)
theorem Comes.kept(h:Comes X c r)(hk:Kept v t c.2)(hs:c.2.Steps≤X.fuel):Kept v t r∧r.Steps≤X.fuel∧(r.End=1∨r.End=2):=by
 rcases h with ⟨q,⟨n,g1⟩,g2,rfl⟩ | ⟨⟨n,g1⟩,g2⟩
 ·have h1:=Kept.iter (X:=X) n hk
  have h2:=JH (X:=X) n hs
  rw [g1] at h1 h2
  exact ⟨⟨h1.vars,h1.taken,h1.nn,h1.Bb⟩,h2,.inl rfl⟩
 ·have h1:=Kept.iter (X:=X) n hk
  have h2:=JH (X:=X) n hs
  grind
theorem Comes.eq{s:RunT}(h:Comes X c r)(h':Comes X c s):r=s:=by
 rcases h with ⟨q,g1,g2,rfl⟩ | ⟨g1,g2⟩<;>rcases h' with ⟨q',k1,k2,rfl⟩ | ⟨k1,k2⟩
 ·obtain rfl:=g1.Bi k1;rfl
 ·obtain rfl:=g1.Bi k1;grind
 ·obtain rfl:=g1.Bi k1;grind
 ·exact g1.Bi k1
variable [Lp]
variable {p:Program}{ins:List (List Int)}{fuel:Int}
theorem XK(hp:∀ f∈p.Funcs,f.Params.length≤9223372036854775807):yO p ins fuel=some (nE p ins fuel):=by
 unfold yO nE
 rw [XE hp,ab]
 by_cases h1:jV p=0
 rotate_left
 ·grind
 rw [ah (show ¬(jV p !=0)=true by simp [h1]),ah (show ¬jV p≠0 from fun h=>h h1)]
 have j:=Di h1
 have hi:=j.ins
 by_cases h2:ins.length=p.Ins.length
 rotate_left
 ·grind
 rw [ah (by simp [h2]),ah (show ¬ins.length≠p.Ins.length from fun h=>h h2)]
 have c1:iF ins=some (ins.any (fun l=>decide (100<(l.length:Int)))):=qh zU _ ins (by omega) (fun y _=>rfl)
 rw [c1,ab]
 cases h3:ins.any (fun l=>decide (100<(l.length:Int))) with
 | true=>rfl
 | false=>
  have hl:∀ l∈ins,l.length≤100:=by grind
  simp only [dy,cH]
  have c2:iG ins=some (ins.any fun l=>l.any fun n=>!fT n):=qh uP _ ins (by omega) (fun y hy=>by
   unfold uP
   have E:=hl y hy
   have c3:gK y=some (y.any fun n=>!fT n):=qh rE _ y (by omega) ((by grind [rE,V1]))
   rw [c3];rfl)
  grind
theorem QF(h:nE p ins fuel=0):uB (lR p ins fuel):=by
 unfold nE at h
 by_cases h1:jV p=0
 rotate_left
 ·grind
 rw [ah (show ¬jV p≠0 from fun h=>h h1)] at h
 by_cases h2:ins.length=p.Ins.length
 rotate_left
 ·grind
 rw [ah (show ¬ins.length≠p.Ins.length from fun h=>h h2)] at h
 cases h3:ins.any (fun l=>decide (100<(l.length:Int))) with
 | true=>grind
 | false=>
  rw [h3,ah (by decide)] at h
  cases h4:ins.any (fun l=>l.any fun n=>!fT n) with
  | true=>grind
  | false=>
   rw [h4,ah (by decide)] at h
   by_cases h5:fuel<0∨2000<fuel
   ·grind
   ·refine ⟨Di h1,by show 0≤fuel∧fuel≤2000;omega,h2,fun l hl=>⟨?_,fun x hx=>?_⟩,rfl⟩
    ·have:=List.any_eq_false.1 h3 l hl
     grind
    ·have:=List.any_eq_false.1 h4 l hl
     grind
theorem aie(hX:uB (lR p ins fuel)):CK p ins fuel=some (mk (lR p ins fuel) (init p)):=by
 have j:Zp p:=hX.ok
 have h1:=j.vars
 have h2:=j.ins
 have h3:=j.funcs
 have h4:=j.sum
 unfold CK
 rw [af (by omega),af (by omega)]
 obtain ⟨x,hx,hQ⟩:=eX (B:=fun v=>yP p v.1 v.2.1 v.2.2) (fun v=>p.Funcs.length - v.2.1)
  (fun v=>v.2.1≤p.Funcs.length∧eN 0 p.Funcs=v.2.2++eN v.1 (p.Funcs.drop v.2.1)∧0≤v.1∧v.1+((p.Funcs.drop v.2.1).map fun f=>bR f.Body).sum≤50∧v.2.2.length=v.2.1)
  (fun x=>eN 0 p.Funcs=x.2.2.2++[x.1]∧x.2.2.2.length≤5) (by
   rintro ⟨n,k,l⟩ ⟨hk,he,hn,hs,hl⟩
   simp only at hk he hn hs hl ⊢
   unfold yP
   by_cases g:k<p.Funcs.length
   ·rw [dU g,eN] at he
    rw [dU g,je,List.sum_cons] at hs
    have hf:=j.few _ (cg g)
    rw [af (by omega),bu g,ab,af (by grind),HZ hf.1 hf.2,ab,af (fG (by omega) (by omega)),af (eQ (by omega))]
    grind
   ·rw [jg (by omega),eN] at he
    rw [ah (by omega)]
    grind) (0,0,[]) (by grind)
 rw [hx,ab,af (by grind),←hQ.1]
 rfl
end Go.Proofs.YtlmphbbhaeampaaGreat.A
