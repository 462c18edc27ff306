/- Runs: the program's functions for one command, as plain mathematics. -/
import Derived.Test.YtlmphbbhaeampaaGreatRunS
import Derived.Test.YtlmphbbhaeampaaGreatOkS
import Derived.Test.YtlmphbbhaeampaaGreatFW
set_option linter.all false
namespace Go.Proofs.YtlmphbbhaeampaaGreat.A
open Go
def lk:Int→List Func→List Int
 | n,[]=>[n]
 | n,f::r=>n::lk (n+cP f.Body) r
structure tA(X:Ctx):Prop where
 ok:FG X.p
 fuel:0≤X.fuel∧X.fuel≤2000
 ins:X.ins.length=X.p.Ins.length
 nums:∀ l∈X.ins,l.length≤100∧∀ x∈l,jo x=true
 first:X.first=lk 0 X.p.Funcs
structure Valid(X:Ctx)(k:Int)(r:RunT):Prop where
 vars:r.Vars.length=X.p.Vars.length
 nums:∀ x∈r.Vars,jo x=true
 taken:r.Taken.length=X.p.Ins.length
 tks:∀ t∈r.Taken,0≤t∧t+k≤r.Steps
 steps:0≤r.Steps∧r.Steps≤X.fuel
 z8:(r.Events.length:Int)+k≤r.Steps
 en:r.End=0
variable {X:Ctx}{r:RunT}
theorem Valid.less(h:Valid X 1 r):Valid X 0 r:=⟨h.vars,h.nums,h.taken,fun t ht=>by have:=h.tks t ht;omega,h.steps,by have:=h.z8;omega,h.en⟩
theorem Valid.tick(h:Valid X 0 r)(hf:r.Steps≠X.fuel):Valid X 1 r.tick:=
 ⟨h.vars,h.nums,h.taken,fun t ht=>by have:=h.tks t ht;grind [RunT.tick],by have:=h.steps;grind [RunT.tick],by have:=h.z8;grind [RunT.tick],h.en⟩
variable {l:List Int}{x:Int}
theorem mem_set{k:Nat}{y:Int}(h:y∈l.set k x):y∈l∨y=x:=ka h
variable {k:Int}
theorem Valid.du(h:Valid X k r){vs:List Int}(h1:vs.length=X.p.Vars.length)(h2:∀ x∈vs,jo x=true):Valid X k (r.du vs):=⟨h1,h2,h.taken,h.tks,h.steps,h.z8,h.en⟩
theorem Valid.set(h:Valid X k r)(n:Int)(hx:jo x=true):Valid X k (r.set n x):=
 h.du (by rw [pc];exact h.vars) fun y hy=>(mem_set hy).elim (h.nums y) fun e=>e▸hx
theorem Valid.ev(h:Valid X 1 r)(e:Event):Valid X 0 (r.ev e):=
 ⟨h.vars,h.nums,h.taken,fun t ht=>by have:=h.tks t ht;grind [RunT.ev],h.steps,by have:=h.z8;grind [RunT.ev],h.en⟩
variable [Lp]
def mk(X:Ctx)(r:RunT):Runner:=⟨X.p,X.ins,X.fuel,X.first,r⟩
variable {e:aK}
theorem Eo(h:Valid X k r)(he:fK X.p e=0):n7 e r.Vars=some (cM r.Vars e)∧jo (cM r.Vars e)=true:=by
 have h1:=MJ he
 rw [←h.vars] at h1
 exact ⟨Uc h.nums h1,IV h.nums _ e (aY _) h1⟩
theorem manyN(n:Nat):∀ (l:List Stmt)(d c:Int),lA l+1≤n→cP l≤50→1≤d→d+lA l≤100→0≤c→c+cP l≤1000→(eQ n).f_scope_Walk__run_Many_1 l d c=some (true,c+cP l):=by
 induction n with
 | zero=>grind
 | succ n ih=>
  intro l d c h1 h2 h3 h4 h5 h6
  show iX (eQ n) l d c=_
  unfold iX
  have hlen:=qW l
  obtain ⟨x,hx,hQ⟩:=kT (B:=fun v=>iC (eQ n) l d v.1 v.2) (fun v=>l.length - v.1)
   (fun v=>v.1≤l.length∧c+cP l=v.2+cP (l.drop v.1)∧0≤v.2)
   (fun x=>∃ a b,x= .inr (a,b,c+(cP l:Int))) (by
    rintro ⟨k,m⟩ ⟨hk,he,hm⟩
    simp only at hk he hm ⊢
    unfold iC yV
    by_cases g:k<l.length
    ·rw [e6 g,cP,yK] at he
     have u:=cp g
     have g1:=Cy u
     have g2:=Cz u
     rw [af (by omega),aV g,ad,af (qm (by omega) (by omega)),ad]
     generalize l[k]=s at *
     have g3:=yK s
     have g4:=yL s
     simp only [aA]
     rw [af (qm (by omega) (by omega)),ih _ _ _ (by omega) (by omega) (by omega) (by omega) (by omega) (by omega),ad]
     simp only [aA]
     rw [ih _ _ _ (by omega) (by omega) (by omega) (by omega) (by omega) (by omega),ad]
     simp only [aA]
     rw [af (oK (by omega))]
     grind
    ·rw [mr (by omega),cP] at he
     simp_all) (0,c) ⟨dy _,rfl,h5⟩
  grind
theorem E3{l:List Stmt}(h1:cP l≤50)(h2:lA l≤6):px l=some (cP l:Int):=by
 unfold px
 have:mL l 1 0=some (true,0+(cP l:Int)):=Cm 8 (by grind [manyN])
 rw [this];simp
theorem Pf(hX:tA X)(h:Valid X 0 r):lJ (mk X r)=some (if r.Steps=X.fuel then (false,mk X r.out) else (true,mk X r.tick)):=by
 unfold lJ
 have hs:=h.steps
 have hf:=hX.fuel
 by_cases he:r.Steps=X.fuel
 ·rw [af (by simp [mk,he]),af he];rfl
 ·rw [ab (by simp [mk,he]),af ((by grind [qm,mk])),ab he];rfl
theorem getD_some(h0:0≤k)(h:k<l.length):l[k.toNat]? =some (nth l k):=by
 grind [nth]
theorem Kk{l:List (List Int)}(h0:0≤k)(h:k<l.length):l[k.toNat]? =some (vp l k):=by
 grind [vp]
theorem Pg(h0:0≤k)(h:k<l.length):nth l k∈l:=bu (getD_some h0 h)
theorem Ui{l:List (List Int)}(h0:0≤k)(h:k<l.length):vp l k∈l:=bu (Kk h0 h)
variable {s:Stmt}
theorem afQ(hX:tA X){i:Int}(hs:dc X.p i s=0)(hk:s.Kind≠2∧s.Kind<7)(h:Valid X 1 r)(a:Int):
  qp (mk X r) s a=some (mk X (mb X s a r))∧Valid X 0 (mb X s a r):=by
 obtain ⟨o1,o2,o3,o4,o5,o6⟩:=oL hs
 have hf:=hX.fuel
 have I:=h.steps
 have hlen:=h.vars
 unfold qp mb
 by_cases k3:s.Kind=3
 ·have v1:=o2 (by rw [k3];rfl)
  have v2:=o3 (by rw [k3];rfl)
  have e3:ij X.p i s.Kind=X.p.Ins.length:=by rw [k3];rfl
  rw [e3] at v2
  have hi:=hX.ins
  have ht:=h.taken
  rw [af (by simp [k3]),af k3,cA v2.1,ad]
  simp only [mk]
  rw [Kk v2.1 (by omega),ad,getD_some v2.1 (by omega),ad]
  obtain ⟨n1,n2⟩:=hX.nums _ (Ui (l:=X.ins) v2.1 (by omega))
  have n3:=h.tks _ (Pg (l:=r.Taken) v2.1 (by omega))
  have d0:∀ w,kJ ⟨X.p,X.ins,X.fuel,X.first,r⟩ s w=some (r.Vars.set s.Var.toNat w,r.Taken.set s.Other.toNat (nth r.Taken s.Other+1)):=by
   intro w
   unfold kJ
   grind [cA,getD_some,qm]
  have fin:∀ w,jo w=true→Valid X 0 ⟨r.Events,r.Vars.set s.Var.toNat w,r.Taken.set s.Other.toNat (nth r.Taken s.Other+1),r.Steps,r.End,r.Stop⟩:=fun w hw=>
   ⟨by grind,fun y hy=>(mem_set hy).elim (h.nums y) fun e=>e▸hw,by grind,fun y hy=>(mem_set hy).elim (fun hm=>by have:=h.tks y hm;simp only;omega) (by grind),I,by have:=h.z8;simp only;omega,h.en⟩
  by_cases g:nth r.Taken s.Other<((vp X.ins s.Other).length:Int)
  ·grind [cA,getD_some]
  ·have e0:nth (vp X.ins s.Other) (nth r.Taken s.Other)=0:=by
    grind [nth]
   rw [ab g,d0,ad,e0]
   exact ⟨rfl,fin _ rfl⟩
 ·rw [ab (by simp [k3]),ab k3]
  have he:=o5 (by simp [jI,hk.1,k3])
  obtain ⟨q1,q2⟩:=Eo h he
  simp only [mk]
  rw [q1,ad]
  have L:((r.Events.length:Int)+1≤2000):=by have:=h.z8;omega
  by_cases k4:s.Kind=4
  ·rw [ab (by simp [k4]),af k4]
   unfold kK il
   rw [af (by simp [k4])]
   simp only [wq]
   rw [af (by omega)]
   exact ⟨rfl,h.ev _⟩
  ·have v1:=o2 (by simp [ir,k4];omega)
   rw [af (by simp [k4]),ab k4,cA v1.1,ad,getD_some v1.1 (by omega),ad]
   unfold kK il
   rw [ab (by simp [k4])]
   simp only [wq]
   have C:=h.set s.Var q2
   by_cases k5:s.Kind=5
   ·rw [af (by simp [k5]),af k5,af (by omega)]
    exact ⟨rfl,C.ev _⟩
   ·rw [ab (by simp [k5]),ab k5]
    by_cases k6:s.Kind=6
    ·rw [af (by simp [k6]),af k6,af (by omega)]
     exact ⟨rfl,C.ev _⟩
    ·rw [ab (by simp [k6]),ab k6]
     exact ⟨rfl,C.less⟩
variable [Lp]
theorem Uj(h:s.Other.toNat<X.p.Funcs.length):X.p.Funcs[s.Other.toNat]? =some (dw X s):=by
 grind [dw]
variable {i:Nat}
theorem called(hX:tA X)(hi:i≤X.p.Funcs.length)(hs:dc X.p i s=0)(hk:s.Kind=2):
  0≤s.Other∧s.Other.toNat<i∧X.p.Funcs[s.Other.toNat]? =some (dw X s)∧C2 X.p s.Other.toNat (dw X s)=0∧s.Args.length=(dw X s).Params.length∧cP (dw X s).Body≤50∧lA (dw X s).Body≤6:=by
 obtain ⟨o1,o2,o3,o4,o5,o6⟩:=oL hs
 have v2:=o3 (by rw [hk];rfl)
 have e3:ij X.p i s.Kind=i:=by rw [hk];rfl
 rw [e3] at v2
 have g:s.Other.toNat<X.p.Funcs.length:=by omega
 have hg:=Uj (X:=X) (s:=s) g
 have he:X.p.Funcs[s.Other.toNat]=dw X s:=by grind
 have h1:=hX.ok.fns _ g
 rw [he] at h1
 have h2:=hX.ok.few _ (bu hg)
 grind [Bu]
theorem Uk(vs xs:List Int):oJ vs [] xs=vs:=by cases xs<;>rfl
theorem Ph{v:Nat} : ∀ (ps xs vs:List Int),ps.length=xs.length→vs.length=v→(∀ n∈ps,0≤n∧n<v)→(∀ x∈xs,jo x=true)→(∀ x∈vs,jo x=true)→(oJ vs ps xs).length=v∧∀ x∈oJ vs ps xs,jo x=true
 | [],[],vs,_,hv,_,_,hn=>⟨hv,hn⟩
 | n::ps,x::xs,vs,hl,hv,hp,hx,hn=>by
  rw [oJ]
  exact Ph ps xs (vs.set n.toNat x) (by simpa using hl) (by grind) (fun m hm=>hp m (by simp [hm])) (fun y hy=>hx y (by simp [hy])) (by grind)
 | [],_::_,_,hl,_,_,_,_=>by cases hl
 | _::_,[],_,hl,_,_,_,_=>by cases hl
theorem Ul(hX:tA X)(hi:i≤X.p.Funcs.length)(hs:dc X.p i s=0)(hk:s.Kind=2)(h:Valid X 1 r):
  nL (mk X r) s=some (mk X (kH X s r))∧Valid X 1 (kH X s r):=by
 obtain ⟨c1,c2,c3,c4,c5,_⟩:=called hX hi hs hk
 obtain ⟨f1,f2,f3,f4⟩:=CD c4
 obtain ⟨o1,o2,o3,o4,o5,o6⟩:=oL hs
 unfold nL
 obtain ⟨x,hx,hQ⟩:=kT (B:=fun v=>lX (mk X r) s v.1 v.2) (fun v=>s.Args.length - v.2) (fun v=>v.2≤s.Args.length∧v.1=(s.Args.take v.2).map (cM r.Vars))
  (fun x=>x.1=s.Args.map (cM r.Vars)) (by
   rintro ⟨l,k⟩ ⟨D,he⟩
   simp only at D he ⊢
   unfold lX
   by_cases g:k<s.Args.length
   ·rw [af (by omega),aV g,ad]
    obtain ⟨q1,q2⟩:=Eo h (o6 _ (cp g))
    simp only [mk]
    rw [q1,ad,af (by grind),af (oK (by omega))]
    grind [List.take_add_one]
   simp_all [pb]) ([],0) ⟨dy _,by simp⟩
 rw [hx,ad,cA c1,ad]
 simp only [mk]
 rw [c3,ad]
 obtain ⟨l,k1,k2⟩:=x
 simp only at hQ
 subst hQ
 have H:(s.Args.map (cM r.Vars)).length=(dw X s).Params.length:=by grind
 have G:∀ y∈s.Args.map (cM r.Vars),jo y=true:=by
  intro y hy
  obtain ⟨e,he,rfl⟩:=iG.1 hy
  exact (Eo h (o6 e he)).2
 have o:=Ph (v:=X.p.Vars.length) _ _ r.Vars H.symm h.vars f2 G h.nums
 unfold kH
 generalize s.Args.map (cM r.Vars)=vals at *
 obtain ⟨x,F,J⟩:=kT (B:=fun v=>lZ (vals,k1,k2) (dw X s) v.1 v.2) (fun v=>(dw X s).Params.length - v.1)
  (fun v=>v.1≤(dw X s).Params.length∧v.2.length=X.p.Vars.length∧oJ r.Vars (dw X s).Params vals=oJ v.2 ((dw X s).Params.drop v.1) (vals.drop v.1))
  (fun x=>x.2.2=oJ r.Vars (dw X s).Params vals) (by
   rintro ⟨k,vs⟩ ⟨D,E,he⟩
   simp only at D E he ⊢
   unfold lZ
   by_cases g:k<(dw X s).Params.length
   ·have z:k<vals.length:=by omega
    rw [e6 g,e6 z,oJ] at he
    have hp:=f2 _ (cp g)
    rw [af (by omega),aV g,ad]
    simp only
    rw [aV z,ad,cA hp.1,ad,aV (by omega),ad,af (oK (by omega))]
    grind
   simp_all [mr,Uk]) (0,r.Vars) ⟨dy _,h.vars,rfl⟩
 rw [F,ad,J]
 exact ⟨rfl,h.du o.1 o.2⟩
theorem Um(hX:tA X)(hi:i≤X.p.Funcs.length)(hs:dc X.p i s=0)(hk:s.Kind=2)(h:Valid X 0 r):
  nM (mk X r) s=some (mk X (qX X s r))∧Valid X 0 (qX X s r):=by
 obtain ⟨c1,c2,c3,c4,c5,_⟩:=called hX hi hs hk
 obtain ⟨f1,f2,f3,f4⟩:=CD c4
 obtain ⟨o1,o2,o3,o4,o5,o6⟩:=oL hs
 have v1:=o2 (by rw [hk];rfl)
 obtain ⟨q1,q2⟩:=Eo h f4
 have hv:=h.vars
 unfold nM
 rw [cA c1,ad]
 simp only [mk]
 rw [c3,ad,q1,ad,cA v1.1,ad,getD_some v1.1 (by omega),ad]
 exact ⟨rfl,h.set s.Var q2⟩
theorem Ic:∀ (l:List Func)(n:Int),(lk n l).length=l.length+1
 | [],n=>rfl
 | f::r,n=>by rw [lk,eM,Ic r,eM]
theorem Ep:∀ (l:List Func)(n:Int),0≤n→(n+((l.map fun f=>cP f.Body).sum:Nat)≤50)→∀ x∈lk n l,0≤x∧x≤50
 | [],n,h0,h,x,hx=>by
  grind [lk]
 | f::r,n,h0,h,x,hx=>by
  rw [lk] at hx
  rw [eu,List.sum_cons] at h
  rcases dh.1 hx with rfl | hx
  ·omega
  ·exact Ep r _ (by omega) (by omega) x hx
theorem M0(hX:tA X)(h0:0≤k)(h:k≤X.p.Funcs.length):X.first[k.toNat]? =some (nth X.first k)∧0≤nth X.first k∧nth X.first k≤50:=by
 have hl:X.first.length=X.p.Funcs.length+1:=by rw [hX.first,Ic]
 have hm:=Pg (l:=X.first) h0 (by omega)
 refine ⟨getD_some h0 (by omega),?_⟩
 have hs:=hX.ok.sum
 rw [hX.first] at hm ⊢
 exact Ep X.p.Funcs 0 (by decide) (by omega) _ hm
theorem Pj(h:Valid X k r)(he:fK X.p e=0):lK (mk X r) e=some (cM r.Vars e !=0):=by
 grind [lK,mk,Eo]
def q7(p:Program)(ins:List (List Int))(fuel:Int):Int:=
 if nI p≠0 then nI p
 else if ins.length≠p.Ins.length then 1
 else if ins.any (fun l=>decide (100<(l.length:Int))) then 2
 else if ins.any (fun l=>l.any fun n=>!jo n) then 3
 else if fuel<0∨2000<fuel then 3 else 0
def jv(p:Program)(ins:List (List Int))(fuel:Int):Ctx:=⟨p,ins,fuel,lk 0 p.Funcs⟩
def init(p:Program):RunT:=⟨[],List.replicate p.Vars.length 0,List.replicate p.Ins.length 0,0,0,0⟩
structure Kept(v t:Nat)(r:RunT):Prop where
 vars:r.Vars.length=v
 taken:r.Taken.length=t
 nn:∀ x∈r.Taken,0≤x
 z8:(r.Events.length:Int)≤r.Steps
theorem Gw:∀ (ps xs vs:List Int),(oJ vs ps xs).length=vs.length
 | n::ps,x::xs,vs=>by rw [oJ,Gw ps xs,pc]
 | [],xs,vs=>by cases xs<;>rfl
 | _::_,[],vs=>rfl
variable {v t:Nat}
theorem Kept.tick(h:Kept v t r):Kept v t r.tick∧(r.tick.Events.length:Int)+1≤r.tick.Steps:=
 ⟨⟨h.vars,h.taken,h.nn,by have:=h.z8;grind [RunT.tick]⟩,by have:=h.z8;grind [RunT.tick]⟩
theorem adw(h:∀ x∈l,0≤x)(k:Int):0≤nth l k:=by
 unfold nth
 rw [fM]
 cases hk:l[k.toNat]? with
 | none=>grind
 | some x=>exact h x (bu hk)
variable {c:ux}
theorem Kept.step(h:Kept v t c.2):Kept v t (Af X c).2:=by
 obtain ⟨ts,r⟩:=c
 match ts with
 | []=>exact h
 | .leave s::K=>exact ⟨by simp only [Af,qX,RunT.set,RunT.du,pc];exact h.vars,h.taken,h.nn,h.z8⟩
 | .run [] _::K=>exact h
 | .run (s::l) a::K=>
  simp only [Af]
  split
  ·exact ⟨h.vars,h.taken,h.nn,h.z8⟩
  ·obtain ⟨⟨k1,k2,k3,k4⟩,k5⟩:=Kept.tick h
   generalize r.tick=q at *
   unfold Ke
   split
   ·exact ⟨by grind [kH,RunT.du,Gw],k2,k3,k4⟩
   split
   ·exact ⟨k1,k2,k3,k4⟩
   split
   ·split
    ·exact ⟨k1,k2,k3,k4⟩
    ·exact ⟨k1,k2,k3,k4⟩
   unfold mb
   have hs:∀ (n x:Int),((q.set n x).Vars.length=v):=by grind [RunT.set,RunT.du]
   split
   ·exact ⟨by grind,by grind,fun y hy=>(mem_set hy).elim (k3 y) fun e=>by have:=adw k3 s.Other;omega,k4⟩
   split
   ·exact ⟨k1,k2,k3,by grind [RunT.ev]⟩
   split
   ·exact ⟨hs _ _,k2,k3,by grind [RunT.ev,RunT.set,RunT.du]⟩
   split
   ·exact ⟨hs _ _,k2,k3,by grind [RunT.ev,RunT.set,RunT.du]⟩
   ·exact ⟨hs _ _,k2,k3,k4⟩
theorem Kept.iter: ∀ (n:Nat){c:ux},Kept v t c.2→Kept v t (iter X n c).2
 | 0,c,h=>h
 | n+1,c,h=>Kept.iter n h.step
theorem Gx{X:Ctx} : ∀ (n:Nat){c:ux},c.2.Steps≤X.fuel→(A.iter X n c).2.Steps≤X.fuel
 | 0,c,h=>h
 | n+1,c,h=>Gx n (Qc h)
theorem Comes.kept(h:Comes X c r)(hk:Kept v t c.2)(hs:c.2.Steps≤X.fuel):Kept v t r∧r.Steps≤X.fuel∧(r.End=1∨r.End=2):=by
 rcases h with ⟨q,⟨n,g1⟩,g2,rfl⟩ | ⟨⟨n,g1⟩,g2⟩
 ·have h1:=Kept.iter (X:=X) n hk
  have h2:=Gx (X:=X) n hs
  rw [g1] at h1 h2
  exact ⟨⟨h1.vars,h1.taken,h1.nn,h1.z8⟩,h2,.inl rfl⟩
 ·have h1:=Kept.iter (X:=X) n hk
  have h2:=Gx (X:=X) n hs
  grind
theorem Comes.eq{s:RunT}(h:Comes X c r)(h':Comes X c s):r=s:=by
 rcases h with ⟨q,g1,g2,rfl⟩ | ⟨g1,g2⟩<;>rcases h' with ⟨q',k1,k2,rfl⟩ | ⟨k1,k2⟩
 ·obtain rfl:=g1.yO k1;rfl
 ·obtain rfl:=g1.yO k1;grind
 ·obtain rfl:=g1.yO k1;grind
 ·exact g1.yO k1
variable [Lp]
variable {p:Program}{ins:List (List Int)}{fuel:Int}
theorem Un(hp:∀ f∈p.Funcs,f.Params.length≤9223372036854775807):vZ p ins fuel=some (q7 p ins fuel):=by
 unfold vZ q7
 rw [MI hp,ad]
 by_cases h1:nI p=0
 rotate_left
 ·grind
 rw [ab (show ¬(nI p !=0)=true by simp [h1]),ab (show ¬nI p≠0 from fun h=>h h1)]
 have j:=FH h1
 have hi:=j.ins
 by_cases h2:ins.length=p.Ins.length
 rotate_left
 ·grind
 rw [ab (by simp [h2]),ab (show ¬ins.length≠p.Ins.length from fun h=>h h2)]
 have c1:gT ins=some (ins.any (fun l=>decide (100<(l.length:Int)))):=pj xh _ ins (by omega) (fun y _=>rfl)
 rw [c1,ad]
 cases h3:ins.any (fun l=>decide (100<(l.length:Int))) with
 | true=>rfl
 | false=>
  have hl:∀ l∈ins,l.length≤100:=by grind
  simp only [dq,cF]
  have c2:gY ins=some (ins.any fun l=>l.any fun n=>!jo n):=pj sD _ ins (by omega) (fun y hy=>by
   unfold sD
   have E:=hl y hy
   have c3:fY y=some (y.any fun n=>!jo n):=pj qn _ y (by omega) ((by grind [qn,Sk]))
   rw [c3];rfl)
  grind
theorem M1(h:q7 p ins fuel=0):tA (jv p ins fuel):=by
 unfold q7 at h
 by_cases h1:nI p=0
 rotate_left
 ·grind
 rw [ab (show ¬nI p≠0 from fun h=>h h1)] at h
 by_cases h2:ins.length=p.Ins.length
 rotate_left
 ·grind
 rw [ab (show ¬ins.length≠p.Ins.length from fun h=>h h2)] at h
 cases h3:ins.any (fun l=>decide (100<(l.length:Int))) with
 | true=>grind
 | false=>
  rw [h3,ab (by decide)] at h
  cases h4:ins.any (fun l=>l.any fun n=>!jo n) with
  | true=>grind
  | false=>
   rw [h4,ab (by decide)] at h
   by_cases h5:fuel<0∨2000<fuel
   ·grind
   ·refine ⟨FH h1,by show 0≤fuel∧fuel≤2000;omega,h2,fun l hl=>⟨?_,fun x hx=>?_⟩,rfl⟩
    ·have:=List.any_eq_false.1 h3 l hl
     grind
    ·have:=List.any_eq_false.1 h4 l hl
     grind
theorem adx(hX:tA (jv p ins fuel)):Ai p ins fuel=some (mk (jv p ins fuel) (init p)):=by
 have j:FG p:=hX.ok
 have h1:=j.vars
 have h2:=j.ins
 have h3:=j.funcs
 have h4:=j.sum
 unfold Ai
 rw [af (by omega),af (by omega)]
 obtain ⟨x,hx,hQ⟩:=kT (B:=fun v=>v7 p v.1 v.2.1 v.2.2) (fun v=>p.Funcs.length - v.2.1)
  (fun v=>v.2.1≤p.Funcs.length∧lk 0 p.Funcs=v.2.2++lk v.1 (p.Funcs.drop v.2.1)∧0≤v.1∧v.1+((p.Funcs.drop v.2.1).map fun f=>cP f.Body).sum≤50∧v.2.2.length=v.2.1)
  (fun x=>lk 0 p.Funcs=x.2.2.2++[x.1]∧x.2.2.2.length≤5) (by
   rintro ⟨n,k,l⟩ ⟨hk,he,hn,hs,hl⟩
   simp only at hk he hn hs hl ⊢
   unfold v7
   by_cases g:k<p.Funcs.length
   ·rw [e6 g,lk] at he
    rw [e6 g,eu,List.sum_cons] at hs
    have hf:=j.few _ (cp g)
    rw [af (by omega),aV g,ad,af (by grind),E3 hf.1 hf.2,ad,af (qm (by omega) (by omega)),af (oK (by omega))]
    grind
   ·rw [mr (by omega),lk] at he
    rw [ab (by omega)]
    grind) (0,0,[]) (by grind)
 rw [hx,ad,af (by grind),←hQ.1]
 rfl
end Go.Proofs.YtlmphbbhaeampaaGreat.A
