/- Runs: the program's functions for one command, as plain mathematics. -/
import Derived.Test.YtdpjofmmokaobaaGreatRunS
import Derived.Test.YtdpjofmmokaobaaGreatScopeP
set_option linter.unusedSectionVars false
set_option linter.unusedVariables false
set_option linter.unusedSimpArgs false
set_option linter.constructorNameAsVariable false
namespace Go.Proofs.YtdpjofmmokaobaaGreat.A
open Go
theorem oA[Lp]{p:Program}{i:Int}{s:Stmt}(h:cC p i s=0):(1≤s.Kind∧s.Kind≤8)∧(jj s.Kind=true→0≤s.Var∧s.Var<p.Vars.length)∧(iA s.Kind=true→0≤s.Other∧s.Other<il p i s.Kind)∧(s.Kind=2→s.Args.length=wW p s.Other)∧(fR s.Kind=true→da p s.Expr=0)∧(∀ e∈s.Args,da p e=0):=by
 unfold cC at h
 by_cases h1:s.Kind<1∨8<s.Kind
 ·rw [if_pos h1] at h;exact absurd h (by decide)
 rw [if_neg h1] at h
 by_cases h2:(jj s.Kind=true∧(s.Var<0∨(p.Vars.length:Int)≤s.Var))∨(iA s.Kind=true∧(s.Other<0∨il p i s.Kind≤s.Other))
 ·rw [if_pos h2] at h;exact absurd h (by decide)
 rw [if_neg h2] at h
 split at h
 ·exact absurd h (by decide)
 by_cases h4:s.Kind=2∧s.Args.length≠wW p s.Other
 ·rw [if_pos h4] at h;exact absurd h (by decide)
 rw [if_neg h4] at h
 by_cases h5:fR s.Kind=true∧cC.da p s.Expr≠0
 ·rw [if_pos h5] at h;exact absurd h h5.2
 rw [if_neg h5] at h
 have g1:∀ hv:jj s.Kind=true,¬(s.Var<0∨(p.Vars.length:Int)≤s.Var):=fun hv hh=>h2 (.inl ⟨hv,hh⟩)
 have g2:∀ hv:iA s.Kind=true,¬(s.Other<0∨il p i s.Kind≤s.Other):=fun hv hh=>h2 (.inr ⟨hv,hh⟩)
 exact ⟨by omega,fun hv=>by have:=g1 hv;omega,fun hv=>by have:=g2 hv;omega,fun k=>Decidable.not_not.1 fun hn=>h4 ⟨k,hn⟩,fun he=>Decidable.not_not.1 fun hn=>h5 ⟨he,hn⟩,mB h⟩
theorem Gu{p:Program}{e:aE}(h:da p e=0):∀ x∈ko e,fF p.Vars.length x=0:=by
 unfold da cC.da at h
 split at h
 ·exact absurd h (by decide)
 ·exact Ir h
theorem CI{p:Program}{i:Int}{f:Func}(h:zn p i f=0):f.Params.length≤4∧(∀ n∈f.Params,0≤n∧n<p.Vars.length)∧ed (cC p i) f.Body=0∧da p f.Result=0:=by
 unfold zn at h
 split at h
 ·exact absurd h (by decide)
 split at h
 ·rename_i h1;exact absurd h h1
 split at h
 ·rename_i h1;exact absurd h h1
 rename_i h1 h2 h3
 exact ⟨by omega,Iu (Decidable.not_not.1 h2),Decidable.not_not.1 h3,h⟩
def iq:Int→List Func→List Int
 | n,[]=>[n]
 | n,f::r=>n::iq (n+cp f.Body) r
structure pD(X:Ctx):Prop where
 ok:S2 X.p
 fuel:0≤X.fuel∧X.fuel≤2000
 ins:X.ins.length=X.p.Ins.length
 nums:∀ l∈X.ins,l.length≤100∧∀ x∈l,fk x=true
 first:X.first=iq 0 X.p.Funcs
structure Valid(X:Ctx)(k:Int)(r:RunT):Prop where
 vars:r.Vars.length=X.p.Vars.length
 nums:∀ x∈r.Vars,fk x=true
 taken:r.Taken.length=X.p.Ins.length
 tks:∀ t∈r.Taken,0≤t∧t+k≤r.Steps
 steps:0≤r.Steps∧r.Steps≤X.fuel
 evs:(r.Events.length:Int)+k≤r.Steps
 en:r.End=0
theorem Valid.less{X:Ctx}{r:RunT}(h:Valid X 1 r):Valid X 0 r:=⟨h.vars,h.nums,h.taken,fun t ht=>by have:=h.tks t ht;omega,h.steps,by have:=h.evs;omega,h.en⟩
theorem Valid.tick{X:Ctx}{r:RunT}(h:Valid X 0 r)(hf:r.Steps≠X.fuel):Valid X 1 r.tick:=
 ⟨h.vars,h.nums,h.taken,fun t ht=>by have:=h.tks t ht;simp only [RunT.tick];omega,by have:=h.steps;simp only [RunT.tick];omega,by have:=h.evs;simp only [RunT.tick];omega,h.en⟩
theorem mem_set{l:List Int}{k:Nat}{x y:Int}(h:y∈l.set k x):y∈l∨y=x:=List.mem_or_eq_of_mem_set h
theorem Valid.im{X:Ctx}{k:Int}{r:RunT}(h:Valid X k r){vs:List Int}(h1:vs.length=X.p.Vars.length)(h2:∀ x∈vs,fk x=true):Valid X k (r.im vs):=⟨h1,h2,h.taken,h.tks,h.steps,h.evs,h.en⟩
theorem Valid.set{X:Ctx}{k:Int}{r:RunT}(h:Valid X k r)(n:Int){x:Int}(hx:fk x=true):Valid X k (r.set n x):=
 h.im (by rw [List.length_set];exact h.vars) fun y hy=>(mem_set hy).elim (h.nums y) fun e=>e▸hx
theorem Valid.ev{X:Ctx}{r:RunT}(h:Valid X 1 r)(e:Event):Valid X 0 (r.ev e):=
 ⟨h.vars,h.nums,h.taken,fun t ht=>by have:=h.tks t ht;simp only [RunT.ev];omega,h.steps,by have:=h.evs;simp only [RunT.ev,List.length_append,List.length_singleton];omega,h.en⟩
variable [Lp]
def mk(X:Ctx)(r:RunT):Runner:=⟨X.p,X.ins,X.fuel,X.first,r⟩
theorem zo{X:Ctx}{k:Int}{r:RunT}(h:Valid X k r){e:aE}(he:da X.p e=0):k9 e r.Vars=some (dt r.Vars e)∧fk (dt r.Vars e)=true:=by
 have h1:=Gu he
 rw [←h.vars] at h1
 exact ⟨MY h.nums h1,DA h.nums _ e (Nat.le_refl _) h1⟩
theorem manyN(n:Nat):∀ (l:List Stmt)(d c:Int),gu l+1≤n→cp l≤50→1≤d→d+gu l≤100→0≤c→c+cp l≤1000→(dA n).f_scope_Walk__run_Many_1 l d c=some (true,c+cp l):=by
 induction n with
 | zero=>intro l d c h;omega
 | succ n ih=>
  intro l d c h1 h2 h3 h4 h5 h6
  show fA (dA n) l d c=_
  unfold fA
  have hlen:=uw l
  obtain ⟨x,hx,hQ⟩:=fU (B:=fun v=>fe (dA n) l d v.1 v.2) (fun v=>l.length - v.1)
   (fun v=>v.1≤l.length∧c+cp l=v.2+cp (l.drop v.1)∧0≤v.2)
   (fun x=>∃ a b,x= .inr (a,b,c+(cp l:Int))) (by
    rintro ⟨k,m⟩ ⟨hk,he,hm⟩
    simp only at hk he hm ⊢
    unfold fe um
    by_cases hlt:k<l.length
    ·rw [List.drop_eq_getElem_cons hlt,cp,sE] at he
     have hmem:=List.getElem_mem hlt
     have g1:=ux hmem
     have g2:=uy hmem
     rw [if_pos (by omega),List.getElem?_eq_getElem hlt,Option.bind_some,if_pos (jQ (by omega) (by omega)),Option.bind_some]
     generalize l[k]=s at *
     have g3:=sE s
     have g4:=mC s
     simp only [if_true]
     rw [if_pos (jQ (by omega) (by omega)),ih _ _ _ (by omega) (by omega) (by omega) (by omega) (by omega) (by omega),Option.bind_some]
     simp only [if_true]
     rw [ih _ _ _ (by omega) (by omega) (by omega) (by omega) (by omega) (by omega),Option.bind_some]
     simp only [if_true]
     rw [if_pos (jR (by omega))]
     exact .inr ⟨_,rfl,⟨by simp only;omega,by simp only;omega,by simp only;omega⟩,by simp only;omega⟩
    ·rw [List.drop_eq_nil_of_le (by omega),cp] at he
     rw [if_neg (by omega)]
     exact .inl ⟨_,rfl,_,_,by rw [show m=c+(cp l:Int) by omega]⟩) (0,c) ⟨Nat.zero_le _,rfl,h5⟩
  obtain ⟨a,b,rfl⟩:=hQ
  rw [hx];rfl
theorem rz{l:List Stmt}(h1:cp l≤50)(h2:gu l≤6):je l=some (cp l:Int):=by
 unfold je
 have:jO l 1 0=some (true,0+(cp l:Int)):=vB 8 fun n hn=>manyN n l 1 0 (by omega) h1 (by decide) (by omega) (by decide) (by omega)
 rw [this];simp
theorem Ad{X:Ctx}{r:RunT}(hX:pD X)(h:Valid X 0 r):eQ (mk X r)=some (if r.Steps=X.fuel then (false,mk X r.out) else (true,mk X r.tick)):=by
 unfold eQ
 have hs:=h.steps
 have hf:=hX.fuel
 by_cases he:r.Steps=X.fuel
 ·rw [if_pos (by simp [mk,he]),if_pos he];rfl
 ·rw [if_neg (by simp [mk,he]),if_pos (jQ (by simp only [mk];omega) (by simp only [mk];omega)),if_neg he];rfl
theorem getD_some{l:List Int}{k:Int}(h0:0≤k)(h:k<l.length):l[k.toNat]? =some (nth l k):=by
 unfold nth
 rw [List.getD_eq_getElem?_getD,List.getElem?_eq_getElem (by omega)];rfl
theorem EK{l:List (List Int)}{k:Int}(h0:0≤k)(h:k<l.length):l[k.toNat]? =some (Bu l k):=by
 unfold Bu
 rw [List.getD_eq_getElem?_getD,List.getElem?_eq_getElem (by omega)];rfl
theorem DW{l:List Int}{k:Int}(h0:0≤k)(h:k<l.length):nth l k∈l:=List.mem_of_getElem? (getD_some h0 h)
theorem M4{l:List (List Int)}{k:Int}(h0:0≤k)(h:k<l.length):Bu l k∈l:=List.mem_of_getElem? (EK h0 h)
theorem Oe{X:Ctx}(hX:pD X){i:Int}{s:Stmt}(hs:cC X.p i s=0)(hk:s.Kind≠2∧s.Kind<7){r:RunT}(h:Valid X 1 r)(a:Int) :
  kK (mk X r) s a=some (mk X (AQ X s a r))∧Valid X 0 (AQ X s a r):=by
 obtain ⟨o1,o2,o3,o4,o5,o6⟩:=oA hs
 have hf:=hX.fuel
 have hst:=h.steps
 have hlen:=h.vars
 unfold kK AQ
 by_cases k3:s.Kind=3
 ·have v1:=o2 (by rw [k3];rfl)
  have v2:=o3 (by rw [k3];rfl)
  have e3:il X.p i s.Kind=X.p.Ins.length:=by rw [k3];rfl
  rw [e3] at v2
  have hi:=hX.ins
  have ht:=h.taken
  rw [if_pos (by simp [k3]),if_pos k3,cj v2.1,Option.bind_some]
  simp only [mk]
  rw [EK v2.1 (by omega),Option.bind_some,getD_some v2.1 (by omega),Option.bind_some]
  obtain ⟨n1,n2⟩:=hX.nums _ (M4 (l:=X.ins) v2.1 (by omega))
  have n3:=h.tks _ (DW (l:=r.Taken) v2.1 (by omega))
  have d0:∀ w,gR ⟨X.p,X.ins,X.fuel,X.first,r⟩ s w=some (r.Vars.set s.Var.toNat w,r.Taken.set s.Other.toNat (nth r.Taken s.Other+1)):=by
   intro w
   unfold gR
   rw [cj v2.1,Option.bind_some]
   simp only
   rw [getD_some v2.1 (by omega),Option.bind_some,if_pos (jQ (by omega) (by omega)),cj v1.1,Option.bind_some,getD_some v1.1 (by omega),Option.bind_some]
  have fin:∀ w,fk w=true→Valid X 0 ⟨r.Events,r.Vars.set s.Var.toNat w,r.Taken.set s.Other.toNat (nth r.Taken s.Other+1),r.Steps,r.End,r.Stop⟩:=fun w hw=>
   ⟨by simp only [List.length_set];exact hlen,fun y hy=>(mem_set hy).elim (h.nums y) fun e=>e▸hw,by simp only [List.length_set];exact ht,fun y hy=>(mem_set hy).elim (fun hm=>by have:=h.tks y hm;simp only;omega) fun e=>by subst e;simp only;omega,hst,by have:=h.evs;simp only;omega,h.en⟩
  by_cases hlt:nth r.Taken s.Other<((Bu X.ins s.Other).length:Int)
  ·rw [if_pos hlt,cj n3.1,Option.bind_some,getD_some n3.1 hlt,Option.bind_some,d0,Option.bind_some]
   exact ⟨rfl,fin _ (n2 _ (DW n3.1 hlt))⟩
  ·have e0:nth (Bu X.ins s.Other) (nth r.Taken s.Other)=0:=by
    unfold nth at hlt ⊢
    rw [List.getD_eq_getElem?_getD (l:=Bu X.ins s.Other),List.getElem?_eq_none (by omega)];rfl
   rw [if_neg hlt,d0,Option.bind_some,e0]
   exact ⟨rfl,fin _ rfl⟩
 ·rw [if_neg (by simp [k3]),if_neg k3]
  have he:=o5 (by simp [fR,hk.1,k3])
  obtain ⟨q1,q2⟩:=zo h he
  simp only [mk]
  rw [q1,Option.bind_some]
  have hev:((r.Events.length:Int)+1≤2000):=by have:=h.evs;omega
  by_cases k4:s.Kind=4
  ·rw [if_neg (by simp [k4]),if_pos k4]
   unfold gT eX
   rw [if_pos (by simp [k4])]
   simp only [List.length_singleton]
   rw [if_pos (by omega)]
   exact ⟨rfl,h.ev _⟩
  ·have v1:=o2 (by simp [jj,k4];omega)
   rw [if_pos (by simp [k4]),if_neg k4,cj v1.1,Option.bind_some,getD_some v1.1 (by omega),Option.bind_some]
   unfold gT eX
   rw [if_neg (by simp [k4])]
   simp only [List.length_singleton]
   have hs':=h.set s.Var q2
   by_cases k5:s.Kind=5
   ·rw [if_pos (by simp [k5]),if_pos k5,if_pos (by omega)]
    exact ⟨rfl,hs'.ev _⟩
   ·rw [if_neg (by simp [k5]),if_neg k5]
    by_cases k6:s.Kind=6
    ·rw [if_pos (by simp [k6]),if_pos k6,if_pos (by omega)]
     exact ⟨rfl,hs'.ev _⟩
    ·rw [if_neg (by simp [k6]),if_neg k6]
     exact ⟨rfl,hs'.less⟩
variable [Lp]
theorem M5{X:Ctx}{s:Stmt}(h:s.Other.toNat<X.p.Funcs.length):X.p.Funcs[s.Other.toNat]? =some (fl X s):=by
 unfold fl
 rw [List.getElem?_eq_getElem h];rfl
theorem called{X:Ctx}(hX:pD X){i:Nat}(hi:i≤X.p.Funcs.length){s:Stmt}(hs:cC X.p i s=0)(hk:s.Kind=2) :
  0≤s.Other∧s.Other.toNat<i∧X.p.Funcs[s.Other.toNat]? =some (fl X s)∧zn X.p s.Other.toNat (fl X s)=0∧s.Args.length=(fl X s).Params.length∧cp (fl X s).Body≤50∧gu (fl X s).Body≤6:=by
 obtain ⟨o1,o2,o3,o4,o5,o6⟩:=oA hs
 have v2:=o3 (by rw [hk];rfl)
 have e3:il X.p i s.Kind=i:=by rw [hk];rfl
 rw [e3] at v2
 have hlt:s.Other.toNat<X.p.Funcs.length:=by omega
 have hg:=M5 (X:=X) (s:=s) hlt
 have he:X.p.Funcs[s.Other.toNat]=fl X s:=Option.some.inj ((List.getElem?_eq_getElem hlt).symm.trans hg)
 have h1:=hX.ok.fns _ hlt
 rw [he] at h1
 have h2:=hX.ok.few _ (List.mem_of_getElem? hg)
 refine ⟨v2.1,by omega,hg,h1,?_,h2.1,h2.2⟩
 rw [o4 hk]
 unfold wW
 rw [hg];rfl
theorem M6(vs xs:List Int):sV vs [] xs=vs:=by cases xs<;>rfl
theorem Iv{v:Nat} : ∀ (ps xs vs:List Int),ps.length=xs.length→vs.length=v→(∀ n∈ps,0≤n∧n<v)→(∀ x∈xs,fk x=true)→(∀ x∈vs,fk x=true)→(sV vs ps xs).length=v∧∀ x∈sV vs ps xs,fk x=true
 | [],[],vs,_,hv,_,_,hn=>⟨hv,hn⟩
 | n::ps,x::xs,vs,hl,hv,hp,hx,hn=>by
  rw [sV]
  exact Iv ps xs (vs.set n.toNat x) (by simpa using hl) (by rw [List.length_set];exact hv) (fun m hm=>hp m (by simp [hm])) (fun y hy=>hx y (by simp [hy])) fun y hy=>(mem_set hy).elim (hn y) fun e=>e▸hx x (by simp)
 | [],_::_,_,hl,_,_,_,_=>by cases hl
 | _::_,[],_,hl,_,_,_,_=>by cases hl
theorem Gv{X:Ctx}(hX:pD X){i:Nat}(hi:i≤X.p.Funcs.length){s:Stmt}(hs:cC X.p i s=0)(hk:s.Kind=2){r:RunT}(h:Valid X 1 r) :
  gO (mk X r) s=some (mk X (mD X s r))∧Valid X 1 (mD X s r):=by
 obtain ⟨c1,c2,c3,c4,c5,_⟩:=called hX hi hs hk
 obtain ⟨f1,f2,f3,f4⟩:=CI c4
 obtain ⟨o1,o2,o3,o4,o5,o6⟩:=oA hs
 unfold gO
 obtain ⟨x,hx,hQ⟩:=fU (B:=fun v=>jg (mk X r) s v.1 v.2) (fun v=>s.Args.length - v.2) (fun v=>v.2≤s.Args.length∧v.1=(s.Args.take v.2).map (dt r.Vars))
  (fun x=>x.1=s.Args.map (dt r.Vars)) (by
   rintro ⟨l,k⟩ ⟨hk',he⟩
   simp only at hk' he ⊢
   unfold jg
   by_cases hlt:k<s.Args.length
   ·rw [if_pos (by omega),List.getElem?_eq_getElem hlt,Option.bind_some]
    obtain ⟨q1,q2⟩:=zo h (o6 _ (List.getElem_mem hlt))
    simp only [mk]
    rw [q1,Option.bind_some,if_pos (by rw [he,List.length_map,List.length_take];simp only [List.length_singleton];omega),if_pos (jR (by omega))]
    refine .inr ⟨_,rfl,⟨by simp only;omega,?_⟩,by simp only;omega⟩
    simp only
    rw [he,List.take_add_one,List.getElem?_eq_getElem hlt,List.map_append];rfl
   ·rw [if_neg (by omega)]
    rw [List.take_of_length_le (by omega)] at he
    exact .inl ⟨_,rfl,he⟩) ([],0) ⟨Nat.zero_le _,by simp⟩
 rw [hx,Option.bind_some,cj c1,Option.bind_some]
 simp only [mk]
 rw [c3,Option.bind_some]
 obtain ⟨l,k1,k2⟩:=x
 simp only at hQ
 subst hQ
 have hvl:(s.Args.map (dt r.Vars)).length=(fl X s).Params.length:=by rw [List.length_map,c5]
 have hvn:∀ y∈s.Args.map (dt r.Vars),fk y=true:=by
  intro y hy
  obtain ⟨e,he,rfl⟩:=List.mem_map.1 hy
  exact (zo h (o6 e he)).2
 have hset:=Iv (v:=X.p.Vars.length) _ _ r.Vars hvl.symm h.vars f2 hvn h.nums
 unfold mD
 generalize s.Args.map (dt r.Vars)=vals at *
 obtain ⟨x,hx2,hQ2⟩:=fU (B:=fun v=>jh ⟨X.p,X.ins,X.fuel,X.first,r⟩ (vals,k1,k2) (fl X s) v.1 v.2) (fun v=>(fl X s).Params.length - v.1)
  (fun v=>v.1≤(fl X s).Params.length∧v.2.length=X.p.Vars.length∧sV r.Vars (fl X s).Params vals=sV v.2 ((fl X s).Params.drop v.1) (vals.drop v.1))
  (fun x=>x.2.2=sV r.Vars (fl X s).Params vals) (by
   rintro ⟨k,vs⟩ ⟨hk',hl',he⟩
   simp only at hk' hl' he ⊢
   unfold jh
   by_cases hlt:k<(fl X s).Params.length
   ·have hlt2:k<vals.length:=by omega
    rw [List.drop_eq_getElem_cons hlt,List.drop_eq_getElem_cons hlt2,sV] at he
    have hp:=f2 _ (List.getElem_mem hlt)
    rw [if_pos (by omega),List.getElem?_eq_getElem hlt,Option.bind_some]
    simp only
    rw [List.getElem?_eq_getElem hlt2,Option.bind_some,cj hp.1,Option.bind_some,List.getElem?_eq_getElem (by omega),Option.bind_some,if_pos (jR (by omega))]
    exact .inr ⟨_,rfl,⟨by simp only;omega,by simp only [List.length_set];exact hl',he⟩,by simp only;omega⟩
   ·rw [if_neg (by omega)]
    rw [List.drop_eq_nil_of_le (by omega),M6] at he
    exact .inl ⟨_,rfl,he.symm⟩) (0,r.Vars) ⟨Nat.zero_le _,h.vars,rfl⟩
 rw [hx2,Option.bind_some,hQ2]
 exact ⟨rfl,h.im hset.1 hset.2⟩
theorem Gw{X:Ctx}(hX:pD X){i:Nat}(hi:i≤X.p.Funcs.length){s:Stmt}(hs:cC X.p i s=0)(hk:s.Kind=2){r:RunT}(h:Valid X 0 r) :
  gP (mk X r) s=some (mk X (uA X s r))∧Valid X 0 (uA X s r):=by
 obtain ⟨c1,c2,c3,c4,c5,_⟩:=called hX hi hs hk
 obtain ⟨f1,f2,f3,f4⟩:=CI c4
 obtain ⟨o1,o2,o3,o4,o5,o6⟩:=oA hs
 have v1:=o2 (by rw [hk];rfl)
 obtain ⟨q1,q2⟩:=zo h f4
 have hv:=h.vars
 unfold gP
 rw [cj c1,Option.bind_some]
 simp only [mk]
 rw [c3,Option.bind_some,q1,Option.bind_some,cj v1.1,Option.bind_some,getD_some v1.1 (by omega),Option.bind_some]
 exact ⟨rfl,h.set s.Var q2⟩
theorem CJ:∀ (l:List Func)(n:Int),(iq n l).length=l.length+1
 | [],n=>rfl
 | f::r,n=>by rw [iq,List.length_cons,CJ r,List.length_cons]
theorem zp:∀ (l:List Func)(n:Int),0≤n→(n+((l.map fun f=>cp f.Body).sum:Nat)≤50)→∀ x∈iq n l,0≤x∧x≤50
 | [],n,h0,h,x,hx=>by
  obtain rfl:x=n:=by simpa [iq] using hx
  simp at h;omega
 | f::r,n,h0,h,x,hx=>by
  rw [iq] at hx
  rw [List.map_cons,List.sum_cons] at h
  rcases List.mem_cons.1 hx with rfl | hx
  ·omega
  ·exact zp r _ (by omega) (by omega) x hx
theorem xT{X:Ctx}(hX:pD X){k:Int}(h0:0≤k)(h:k≤X.p.Funcs.length):X.first[k.toNat]? =some (nth X.first k)∧0≤nth X.first k∧nth X.first k≤50:=by
 have hl:X.first.length=X.p.Funcs.length+1:=by rw [hX.first,CJ]
 have hm:=DW (l:=X.first) h0 (by omega)
 refine ⟨getD_some h0 (by omega),?_⟩
 have hs:=hX.ok.sum
 rw [hX.first] at hm ⊢
 exact zp X.p.Funcs 0 (by decide) (by omega) _ hm
noncomputable abbrev NR(n:Nat):=aY n
def Fz(X:Ctx)(n:Nat):Prop:=∀ (i:Nat)(l:List Stmt),i≤X.p.Funcs.length→3*gu l+100*i+1≤n→ed (cC X.p i) l=0→cp l≤50→gu l≤6→∀ (r:RunT)(a:Int),Valid X 0 r→0≤a→a+cp l≤200→
 ∃ b r',(NR n).f_run_Runner_all (mk X r) l a=some (b,mk X r')∧(b=true→Valid X 0 r'∧r.Steps≤r'.Steps∧∀ K,bW X (.run l a::K,r) (K,r'))∧(b=false→r'.End=2∧∀ K,bW X (.run l a::K,r) ([],r'))
def Ju(X:Ctx)(n:Nat):Prop:=∀ (i:Nat)(s:Stmt),i≤X.p.Funcs.length→3*dep s+100*i≤n→uv (cC X.p i) s=0→gw s≤50→dep s≤6→∀ (r:RunT)(a:Int),Valid X 0 r→0≤a→a+gw s≤200→
 ∃ b r',(NR n).f_run_Runner_one (mk X r) s a=some (b,mk X r')∧(b=true→Valid X 0 r'∧r.Steps≤r'.Steps∧∀ l K,bW X (.run (s::l) a::K,r) (.run l (a+gw s)::K,r'))∧(b=false→r'.End=2∧∀ l K,bW X (.run (s::l) a::K,r) ([],r'))
def DX(X:Ctx)(n:Nat):Prop:=∀ (i:Nat)(s:Stmt),i≤X.p.Funcs.length→3*dep s+100*i≤n+1→uv (cC X.p i) s=0→gw s≤50→dep s≤6→7≤s.Kind→∀ (r:RunT)(a:Int),Valid X 1 r→0≤a→a+gw s≤200→
 ∃ b r',(NR n).f_run_Runner_inner (mk X r) s a=some (b,mk X r')∧(b=true→Valid X 0 r'∧r.Steps≤r'.Steps∧∀ l K,bW X (eV X s a l K r) (.run l (a+gw s)::K,r'))∧(b=false→r'.End=2∧∀ l K,bW X (eV X s a l K r) ([],r'))
def DY(X:Ctx)(n:Nat):Prop:=∀ (i:Nat)(s:Stmt),i≤X.p.Funcs.length→100*i≤n→cC X.p i s=0→s.Kind=2→∀ (r:RunT)(a:Int),Valid X 1 r→
 ∃ b r',(NR n).f_run_Runner_call (mk X r) s=some (b,mk X r')∧(b=true→Valid X 0 r'∧r.Steps≤r'.Steps∧∀ l K,bW X (eV X s a l K r) (.run l (a+gw s)::K,r'))∧(b=false→r'.End=2∧∀ l K,bW X (eV X s a l K r) ([],r'))
theorem M7{X:Ctx}(hX:pD X){n:Nat}(h1:Ju X n):Fz X (n+1):=by
 intro i l hi hn hok hc hd r a hv ha hac
 show ∃ b r',ll (NR n) (mk X r) l a=some (b,mk X r')∧_
 unfold ll
 have hlen:=uw l
 obtain ⟨x,hx,hQ⟩:=fU (B:=fun v=>kL (NR n) l v.1 v.2.1 v.2.2) (fun v=>l.length - v.2.2)
  (fun v=>v.2.2≤l.length∧∃ r1,v.1=mk X r1∧Valid X 0 r1∧r.Steps≤r1.Steps∧a≤v.2.1∧v.2.1+cp (l.drop v.2.2)=a+cp l∧∀ K,bW X (.run l a::K,r) (.run (l.drop v.2.2) v.2.1::K,r1))
  (fun x=>(∃ r1,x= .inl (mk X r1)∧r1.End=2∧∀ K,bW X (.run l a::K,r) ([],r1))∨(∃ b c r1,x= .inr (b,c,false,mk X r1)∧Valid X 0 r1∧r.Steps≤r1.Steps∧∀ K,bW X (.run l a::K,r) (K,r1))) (by
   rintro ⟨c,b,k⟩ ⟨hk,r1,rfl,v1,v2,v3,v4,v5⟩
   simp only at hk v3 v4 v5 ⊢
   unfold kL
   by_cases hlt:k<l.length
   ·have hm:=List.getElem_mem hlt
    have g1:=ux hm
    have g2:=uy hm
    have hoks:=Bs hok _ hm
    rw [List.drop_eq_getElem_cons hlt,cp] at v4
    rw [List.drop_eq_getElem_cons hlt] at v5
    rw [if_pos (by omega),List.getElem?_eq_getElem hlt,Option.bind_some]
    generalize l[k]=s at *
    have g3:=sE s
    have g4:=mC s
    obtain ⟨bb,r2,e1,e2,e3⟩:=h1 i s hi (by omega) hoks (by omega) (by omega) r1 b v1 (by omega) (by omega)
    rw [e1,Option.bind_some]
    cases bb with
    | false=>
     obtain ⟨t1,t2⟩:=e3 rfl
     exact .inl ⟨_,rfl,.inl ⟨r2,rfl,t1,fun K=>(v5 K).trans (t2 _ K)⟩⟩
    | true=>
     obtain ⟨t1,t2,t3⟩:=e2 rfl
     simp only [if_true]
     rw [rz (by omega) (by omega),Option.bind_some,if_pos (jQ (by omega) (by omega)),rz (by omega) (by omega),Option.bind_some,if_pos (jQ (by omega) (by omega)),if_pos (jQ (by omega) (by omega)),if_pos (jR (by omega))]
     have ec:b+(1+(cp s.Then:Int)+(cp s.Else:Int))=b+(gw s:Int):=by omega
     rw [ec]
     exact .inr ⟨_,rfl,⟨by simp only;omega,r2,rfl,t1,by omega,by simp only;omega,by simp only;omega,fun K=>(v5 K).trans (t3 _ K)⟩,by simp only;omega⟩
   ·rw [if_neg (by omega)]
    have hdr:l.drop k=[]:=List.drop_eq_nil_of_le (by omega)
    rw [hdr] at v5
    exact .inl ⟨_,rfl,.inr ⟨b,k,r1,by rw [decide_eq_false (show ¬(k:Int)<(l.length:Int) by omega)],v1,v2,fun K=>(v5 K).trans (bW.one rfl)⟩⟩) (mk X r,a,0) ⟨Nat.zero_le _,r,rfl,hv,Int.le_refl _,Int.le_refl _,rfl,fun K=>bW.refl _ _⟩
 rw [hx,Option.bind_some]
 rcases hQ with ⟨r1,rfl,q1,q2⟩ | ⟨b,c,r1,rfl,q1,q2,q3⟩
 ·exact ⟨false,r1,rfl,fun h=>(by cases h),fun _=>⟨q1,q2⟩⟩
 ·exact ⟨true,r1,rfl,fun _=>⟨q1,q2,q3⟩,fun h=>by cases h⟩
theorem KI{X:Ctx}(hX:pD X){n:Nat}(h1:Fz X n):DY X (n+1):=by
 intro i s hi hn hok hk r a hv
 show ∃ b r',kM (NR n) (mk X r) s=some (b,mk X r')∧_
 unfold kM
 obtain ⟨c1,c2,c3,c4,c5,c6,c7⟩:=called hX hi hok hk
 obtain ⟨f1,f2,f3,f4⟩:=CI c4
 obtain ⟨e1,e2⟩:=Gv hX hi hok hk hv
 obtain ⟨g1,g2,g3⟩:=xT hX c1 (by omega)
 rw [e1,Option.bind_some,cj c1,Option.bind_some]
 simp only [mk]
 rw [c3,Option.bind_some,g1,Option.bind_some]
 obtain ⟨bb,r2,t1,t2,t3⟩:=h1 s.Other.toNat (fl X s).Body (by omega) (by omega) f3 c6 c7 (mD X s r) (nth X.first s.Other) e2.less g2 (by omega)
 simp only [mk] at t1
 rw [t1,Option.bind_some]
 have hgo:∀ l K,eV X s a l K r=(.run (fl X s).Body (nth X.first s.Other)::.leave s::.run l (a+gw s)::K,mD X s r):=fun l K=>by unfold eV;rw [if_pos hk]
 cases bb with
 | false=>
  obtain ⟨u1,u2⟩:=t3 rfl
  exact ⟨false,r2,rfl,fun h=>(by cases h),fun _=>⟨u1,fun l K=>by rw [hgo];exact u2 _⟩⟩
 | true=>
  obtain ⟨u1,u2,u3⟩:=t2 rfl
  obtain ⟨l1,l2⟩:=Gw hX hi hok hk u1
  simp only [mk] at l1
  simp only [if_true]
  rw [l1,Option.bind_some]
  exact ⟨true,uA X s r2,rfl,fun _=>⟨l2,u2,fun l K=>by rw [hgo];exact (u3 _).trans (bW.one rfl)⟩,fun h=>by cases h⟩
theorem Ae{X:Ctx}{k:Int}{r:RunT}(h:Valid X k r){e:aE}(he:da X.p e=0):fN (mk X r) e=some (dt r.Vars e !=0):=by
 unfold fN
 simp only [mk]
 rw [(zo h he).1];rfl
theorem Jv{X:Ctx}(hX:pD X){n:Nat}(h1:Fz X n):DX X (n+1):=by
 intro i s hi hn hok hc hd hk r a hv ha hac
 obtain ⟨s1,s2,s3⟩:=xR hok
 obtain ⟨o1,o2,o3,o4,o5,o6⟩:=oA s1
 have he:=o5 (by simp [fR];omega)
 have g3:=sE s
 have g4:=mC s
 show ∃ b r',kj (NR n) (mk X r) s a=some (b,mk X r')∧_
 unfold kj
 by_cases k7:s.Kind=7
 ·rw [if_pos (by simp [k7])]
  unfold iM
  rw [Ae hv he,Option.bind_some]
  have hgo:∀ l K,eV X s a l K r=(.run (if dt r.Vars s.Expr≠0 then s.Then else s.Else) (if dt r.Vars s.Expr≠0 then a+1 else a+1+cp s.Then)::.run l (a+gw s)::K,r):=fun l K=>by
   unfold eV
   rw [if_neg (by omega),if_pos k7]
  by_cases h0:dt r.Vars s.Expr=0
  ·rw [if_neg (by simp [h0]),if_pos (jQ (by omega) (by omega)),rz (by omega) (by omega),Option.bind_some,if_pos (jQ (by omega) (by omega)),Option.bind_some]
   obtain ⟨bb,r2,t1,t2,t3⟩:=h1 i s.Else hi (by omega) s3 (by omega) (by omega) r (a+1+cp s.Then) hv.less (by omega) (by omega)
   simp only
   rw [t1,Option.bind_some]
   refine ⟨bb,r2,rfl,fun hb=>?_,fun hb=>?_⟩
   ·obtain ⟨u1,u2,u3⟩:=t2 hb
    exact ⟨u1,u2,fun l K=>by rw [hgo,if_neg (by simp [h0]),if_neg (by simp [h0])];exact u3 _⟩
   ·obtain ⟨u1,u2⟩:=t3 hb
    exact ⟨u1,fun l K=>by rw [hgo,if_neg (by simp [h0]),if_neg (by simp [h0])];exact u2 _⟩
  ·rw [if_pos (by simp [h0]),if_pos (jQ (by omega) (by omega)),Option.bind_some]
   obtain ⟨bb,r2,t1,t2,t3⟩:=h1 i s.Then hi (by omega) s2 (by omega) (by omega) r (a+1) hv.less (by omega) (by omega)
   simp only
   rw [t1,Option.bind_some]
   refine ⟨bb,r2,rfl,fun hb=>?_,fun hb=>?_⟩
   ·obtain ⟨u1,u2,u3⟩:=t2 hb
    exact ⟨u1,u2,fun l K=>by rw [hgo,if_pos h0,if_pos h0];exact u3 _⟩
   ·obtain ⟨u1,u2⟩:=t3 hb
    exact ⟨u1,fun l K=>by rw [hgo,if_pos h0,if_pos h0];exact u2 _⟩
 ·rw [if_neg (by simp [k7])]
  have k8:s.Kind=8:=by omega
  have hgo:∀ l K (q:RunT),eV X s a l K q=if dt q.Vars s.Expr≠0 then (.run s.Then (a+1)::.run (s::l) a::K,q) else (.run l (a+gw s)::K,q):=fun l K q=>by
   unfold eV
   rw [if_neg (by omega),if_neg k7,if_pos k8]
  obtain ⟨x,hx,hQ⟩:=fU (B:=fun v=>ji (NR n) s a v) (fun v=>(v.fuel - v.aA.Steps).toNat)
   (fun v=>∃ q,v=mk X q∧Valid X 1 q∧r.Steps≤q.Steps∧∀ l K,bW X (eV X s a l K r) (eV X s a l K q))
   (fun x=>(∃ q,x= .inl (mk X q)∧q.End=2∧∀ l K,bW X (eV X s a l K r) ([],q))∨(∃ b q,x= .inr (b,mk X q)∧Valid X 0 q∧r.Steps≤q.Steps∧∀ l K,bW X (eV X s a l K r) (.run l (a+gw s)::K,q))) (by
    rintro v ⟨q,rfl,v1,v2,v3⟩
    unfold ji
    rw [Ae v1 he,Option.bind_some]
    by_cases h0:dt q.Vars s.Expr=0
    ·rw [if_neg (by simp [h0])]
     refine .inl ⟨_,rfl,.inr ⟨_,q,rfl,v1.less,v2,fun l K=>?_⟩⟩
     have:=v3 l K
     rw [hgo l K q,if_neg (by simp [h0])] at this
     exact this
    ·rw [if_pos (by simp [h0]),if_pos (jQ (by omega) (by omega))]
     obtain ⟨bb,r2,t1,t2,t3⟩:=h1 i s.Then hi (by omega) s2 (by omega) (by omega) q (a+1) v1.less (by omega) (by omega)
     rw [t1,Option.bind_some]
     have hv3:∀ l K,bW X (eV X s a l K r) (.run s.Then (a+1)::.run (s::l) a::K,q):=fun l K=>by
      have:=v3 l K
      rw [hgo l K q,if_pos h0] at this
      exact this
     cases bb with
     | false=>
      obtain ⟨u1,u2⟩:=t3 rfl
      exact .inl ⟨_,rfl,.inl ⟨r2,rfl,u1,fun l K=>(hv3 l K).trans (u2 _)⟩⟩
     | true=>
      obtain ⟨u1,u2,u3⟩:=t2 rfl
      simp only [if_true]
      rw [Ad hX u1,Option.bind_some]
      by_cases hf:r2.Steps=X.fuel
      ·rw [if_pos hf]
       simp only [Bool.false_eq_true,if_false]
       refine .inl ⟨_,rfl,.inl ⟨r2.out,rfl,rfl,fun l K=>((hv3 l K).trans (u3 _)).trans (bW.one ?_)⟩⟩
       simp only [fg,if_pos hf]
      ·rw [if_neg hf]
       simp only [if_true]
       have hst:=u1.steps
       have hq:=v1.steps
       refine .inr ⟨_,rfl,⟨r2.tick,rfl,u1.tick hf,by simp only [RunT.tick];omega,fun l K=>((hv3 l K).trans (u3 _)).trans (bW.one ?_)⟩,?_⟩
       ·simp only [fg,if_neg hf]
       ·simp only [mk,RunT.tick];omega) (mk X r) ⟨r,rfl,hv,Int.le_refl _,fun l K=>bW.refl _ _⟩
  rw [hx,Option.bind_some]
  rcases hQ with ⟨q,rfl,q1,q2⟩ | ⟨b,q,rfl,q1,q2,q3⟩
  ·exact ⟨false,q,rfl,fun h=>(by cases h),fun _=>⟨q1,q2⟩⟩
  ·exact ⟨true,q,rfl,fun _=>⟨q1,q2,q3⟩,fun h=>by cases h⟩
theorem M8{X:Ctx}(hX:pD X){n:Nat}(h1:DY X n)(h2:DX X n):Ju X (n+1):=by
 intro i s hi hn hok hc hd r a hv ha hac
 obtain ⟨s1,s2,s3⟩:=xR hok
 have g4:=mC s
 show ∃ b r',lq (NR n) (mk X r) s a=some (b,mk X r')∧_
 unfold lq
 rw [Ad hX hv,Option.bind_some]
 by_cases hf:r.Steps=X.fuel
 ·rw [if_pos hf]
  simp only [Bool.false_eq_true,if_false]
  exact ⟨false,r.out,rfl,fun h=>(by cases h),fun _=>⟨rfl,fun l K=>bW.one (by simp only [fg,if_pos hf])⟩⟩
 ·rw [if_neg hf]
  simp only [if_true]
  have ht:=hv.tick hf
  have hgo:∀ l K,bW X (.run (s::l) a::K,r) (eV X s a l K r.tick):=fun l K=>bW.one (by simp only [fg,if_neg hf])
  have hle:r.Steps≤r.tick.Steps:=by simp only [RunT.tick];omega
  by_cases k2:s.Kind=2
  ·rw [if_pos (by simp [k2])]
   obtain ⟨bb,r2,t1,t2,t3⟩:=h1 i s hi (by omega) s1 k2 r.tick a ht
   rw [t1,Option.bind_some]
   refine ⟨bb,r2,rfl,fun hb=>?_,fun hb=>?_⟩
   ·obtain ⟨u1,u2,u3⟩:=t2 hb
    exact ⟨u1,by omega,fun l K=>(hgo l K).trans (u3 l K)⟩
   ·obtain ⟨u1,u2⟩:=t3 hb
    exact ⟨u1,fun l K=>(hgo l K).trans (u2 l K)⟩
  ·rw [if_neg (by simp [k2])]
   by_cases k7:7≤s.Kind
   ·rw [if_pos k7]
    obtain ⟨bb,r2,t1,t2,t3⟩:=h2 i s hi (by omega) hok hc hd k7 r.tick a ht ha hac
    rw [t1,Option.bind_some]
    refine ⟨bb,r2,rfl,fun hb=>?_,fun hb=>?_⟩
    ·obtain ⟨u1,u2,u3⟩:=t2 hb
     exact ⟨u1,by omega,fun l K=>(hgo l K).trans (u3 l K)⟩
    ·obtain ⟨u1,u2⟩:=t3 hb
     exact ⟨u1,fun l K=>(hgo l K).trans (u2 l K)⟩
   ·rw [if_neg k7]
    obtain ⟨q1,q2⟩:=Oe hX s1 ⟨k2,by omega⟩ ht a
    rw [q1,Option.bind_some]
    refine ⟨true,AQ X s a r.tick,rfl,fun _=>⟨q2,?_,fun l K=>?_⟩,fun h=>by cases h⟩
    ·have:=(oz X s a [] [] r.tick).2.1
     unfold eV at this
     rw [if_neg k2,if_neg (by omega),if_neg (by omega)] at this
     simp only at this
     omega
    ·have:=hgo l K
     unfold eV at this
     rw [if_neg k2,if_neg (by omega),if_neg (by omega)] at this
     exact this
theorem S4{X:Ctx}(hX:pD X):∀ n,Fz X n∧Ju X n∧DX X n∧DY X n:=by
 intro n
 induction n with
 | zero=>
  refine ⟨fun i l _ h=>by omega,fun i s _ h=>?_,fun i s _ h=>?_,fun i s hi h hok hk=>?_⟩
  ·have:=mC s;omega
  ·have:=mC s;omega
  ·have:=(called hX hi hok hk).2.1;omega
 | succ n ih=>exact ⟨M7 hX ih.2.1,M8 hX ih.2.2.2 ih.2.2.1,Jv hX ih.1,KI hX ih.1⟩
theorem S6{X:Ctx}(hX:pD X){r:RunT}{a:Int}(hv:Valid X 0 r)(h0:0≤a)(h:a≤50):∃ b r',mh (mk X r) X.p.Main a=some (b,mk X r')∧(b=true→Valid X 0 r'∧∀ K,bW X (.run X.p.Main a::K,r) (K,r'))∧(b=false→r'.End=2∧∀ K,bW X (.run X.p.Main a::K,r) ([],r')):=by
 have hm:=hX.ok.main
 have hn:∀ n,3*6+100*X.p.Funcs.length+1≤n→∃ b r',(NR n).f_run_Runner_all (mk X r) X.p.Main a=some (b,mk X r')∧(b=true→Valid X 0 r'∧∀ K,bW X (.run X.p.Main a::K,r) (K,r'))∧(b=false→r'.End=2∧∀ K,bW X (.run X.p.Main a::K,r) ([],r')):=fun n hn=>by
  obtain ⟨b,r',e1,e2,e3⟩:=(S4 hX n).1 X.p.Funcs.length X.p.Main (Nat.le_refl _) (by omega) hX.ok.mains hm.1 hm.2 r a hv h0 (by omega)
  exact ⟨b,r',e1,fun hb=>⟨(e2 hb).1,(e2 hb).2.2⟩,e3⟩
 obtain ⟨b,r',e1,e2,e3⟩:=hn _ (Nat.le_refl _)
 refine ⟨b,r',?_,e2,e3⟩
 refine vB (3*6+100*X.p.Funcs.length+1) fun n hge=>?_
 obtain ⟨b',r2,f1,f2,f3⟩:=hn n hge
 rw [f1]
 cases b with
 | true=>
  have g1:=(e2 rfl).2 []
  cases b' with
  | true=>rw [((f2 rfl).2 []).sF g1]
  | false=>
   have:=((f3 rfl).2 []).sF g1
   have h1:=(f3 rfl).1
   rw [this,(e2 rfl).1.en] at h1
   exact absurd h1 (by decide)
 | false=>
  have g1:=(e3 rfl).2 []
  cases b' with
  | true=>
   have:=((f2 rfl).2 []).sF g1
   have h1:=(e3 rfl).1
   rw [←this,(f2 rfl).1.en] at h1
   exact absurd h1 (by decide)
  | false=>rw [((f3 rfl).2 []).sF g1]
def lP(p:Program)(ins:List (List Int))(fuel:Int):Int:=
 if iN p≠0 then iN p
 else if ins.length≠p.Ins.length then 1
 else if ins.any (fun l=>decide (100<(l.length:Int))) then 2
 else if ins.any (fun l=>l.any fun n=>!fk n) then 3
 else if fuel<0∨2000<fuel then 3 else 0
def eh(p:Program)(ins:List (List Int))(fuel:Int):Ctx:=⟨p,ins,fuel,iq 0 p.Funcs⟩
def init(p:Program):RunT:=⟨[],List.replicate p.Vars.length 0,List.replicate p.Ins.length 0,0,0,0⟩
def Gx(p:Program):js:=([.run p.Main (nth (iq 0 p.Funcs) p.Funcs.length)],init p)
structure Kept(v t:Nat)(r:RunT):Prop where
 vars:r.Vars.length=v
 taken:r.Taken.length=t
 nn:∀ x∈r.Taken,0≤x
 evs:(r.Events.length:Int)≤r.Steps
theorem Gy:∀ (ps xs vs:List Int),(sV vs ps xs).length=vs.length
 | n::ps,x::xs,vs=>by rw [sV,Gy ps xs,List.length_set]
 | [],xs,vs=>by cases xs<;>rfl
 | _::_,[],vs=>rfl
theorem Kept.tick{v t:Nat}{r:RunT}(h:Kept v t r):Kept v t r.tick∧(r.tick.Events.length:Int)+1≤r.tick.Steps:=
 ⟨⟨h.vars,h.taken,h.nn,by have:=h.evs;simp only [RunT.tick];omega⟩,by have:=h.evs;simp only [RunT.tick];omega⟩
theorem S7{l:List Int}(h:∀ x∈l,0≤x)(k:Int):0≤nth l k:=by
 unfold nth
 rw [List.getD_eq_getElem?_getD]
 cases hk:l[k.toNat]? with
 | none=>exact Int.le_refl _
 | some x=>exact h x (List.mem_of_getElem? hk)
theorem Kept.step{X:Ctx}{v t:Nat}{c:js}(h:Kept v t c.2):Kept v t (fg X c).2:=by
 obtain ⟨ts,r⟩:=c
 match ts with
 | []=>exact h
 | .leave s::K=>exact ⟨by simp only [fg,uA,RunT.set,RunT.im,List.length_set];exact h.vars,h.taken,h.nn,h.evs⟩
 | .run [] _::K=>exact h
 | .run (s::l) a::K=>
  simp only [fg]
  split
  ·exact ⟨h.vars,h.taken,h.nn,h.evs⟩
  ·obtain ⟨⟨k1,k2,k3,k4⟩,k5⟩:=Kept.tick h
   generalize r.tick=q at *
   unfold eV
   split
   ·exact ⟨by simp only [mD,RunT.im,Gy];exact k1,k2,k3,k4⟩
   split
   ·exact ⟨k1,k2,k3,k4⟩
   split
   ·split
    ·exact ⟨k1,k2,k3,k4⟩
    ·exact ⟨k1,k2,k3,k4⟩
   unfold AQ
   have hs:∀ (n x:Int),((q.set n x).Vars.length=v):=fun n x=>by simp only [RunT.set,RunT.im,List.length_set];exact k1
   split
   ·exact ⟨by simp only [List.length_set];exact k1,by simp only [List.length_set];exact k2,fun y hy=>(mem_set hy).elim (k3 y) fun e=>by have:=S7 k3 s.Other;omega,k4⟩
   split
   ·exact ⟨k1,k2,k3,by simp only [RunT.ev,List.length_append,List.length_singleton];omega⟩
   split
   ·exact ⟨hs _ _,k2,k3,by simp only [RunT.ev,RunT.set,RunT.im,List.length_append,List.length_singleton];omega⟩
   split
   ·exact ⟨hs _ _,k2,k3,by simp only [RunT.ev,RunT.set,RunT.im,List.length_append,List.length_singleton];omega⟩
   ·exact ⟨hs _ _,k2,k3,k4⟩
theorem Kept.iter{X:Ctx}{v t:Nat} : ∀ (n:Nat){c:js},Kept v t c.2→Kept v t (iter X n c).2
 | 0,c,h=>h
 | n+1,c,h=>Kept.iter n h.step
theorem KJ(p:Program):Kept p.Vars.length p.Ins.length (init p):=⟨by simp [init],by simp [init],fun x hx=>by have:=List.eq_of_mem_replicate hx;omega,by simp [init]⟩
theorem Bw{X:Ctx} : ∀ (n:Nat){c:js},c.2.Steps≤X.fuel→(A.iter X n c).2.Steps≤X.fuel
 | 0,c,h=>h
 | n+1,c,h=>Bw n (Js h)
theorem Comes.kept{X:Ctx}{c:js}{r:RunT}{v t:Nat}(h:Comes X c r)(hk:Kept v t c.2)(hs:c.2.Steps≤X.fuel):Kept v t r∧r.Steps≤X.fuel∧(r.End=1∨r.End=2):=by
 rcases h with ⟨q,⟨n,g1⟩,g2,rfl⟩ | ⟨⟨n,g1⟩,g2⟩
 ·have h1:=Kept.iter (X:=X) n hk
  have h2:=Bw (X:=X) n hs
  rw [g1] at h1 h2
  exact ⟨⟨h1.vars,h1.taken,h1.nn,h1.evs⟩,h2,.inl rfl⟩
 ·have h1:=Kept.iter (X:=X) n hk
  have h2:=Bw (X:=X) n hs
  rw [g1] at h1 h2
  exact ⟨h1,h2,.inr g2⟩
theorem Comes.eq{X:Ctx}{c:js}{r s:RunT}(h:Comes X c r)(h':Comes X c s):r=s:=by
 rcases h with ⟨q,g1,g2,rfl⟩ | ⟨g1,g2⟩<;>rcases h' with ⟨q',k1,k2,rfl⟩ | ⟨k1,k2⟩
 ·obtain rfl:=g1.sF k1;rfl
 ·obtain rfl:=g1.sF k1;rw [g2] at k2;exact absurd k2 (by decide)
 ·obtain rfl:=g1.sF k1;rw [g2] at k2;exact absurd k2 (by decide)
 ·exact g1.sF k1
variable [Lp]
theorem Gz{p:Program}{ins:List (List Int)}{fuel:Int}(hp:∀ f∈p.Funcs,f.Params.length≤9223372036854775807):pC p ins fuel=some (lP p ins fuel):=by
 unfold pC lP
 rw [M3 hp,Option.bind_some]
 by_cases h1:iN p=0
 rotate_left
 ·rw [if_pos (show (iN p !=0)=true by simp [h1]),if_pos h1]
 rw [if_neg (show ¬(iN p !=0)=true by simp [h1]),if_neg (show ¬iN p≠0 from fun h=>h h1)]
 have hok:=AP h1
 have hi:=hok.ins
 by_cases h2:ins.length=p.Ins.length
 rotate_left
 ·rw [if_pos (by simp;omega),if_pos h2]
 rw [if_neg (by simp [h2]),if_neg (show ¬ins.length≠p.Ins.length from fun h=>h h2)]
 have c1:eO ins=some (ins.any (fun l=>decide (100<(l.length:Int)))):=l9 sS _ ins (by omega) (fun y _=>rfl)
 rw [c1,Option.bind_some]
 cases h3:ins.any (fun l=>decide (100<(l.length:Int))) with
 | true=>rfl
 | false=>
  have hl:∀ l∈ins,l.length≤100:=fun l hl=>by
   have:=List.any_eq_false.1 h3 l hl
   simp at this;omega
  simp only [Bool.false_eq_true,if_false]
  have c2:eP ins=some (ins.any fun l=>l.any fun n=>!fk n):=l9 pP _ ins (by omega) (fun y hy=>by
   unfold pP
   have hl':=hl y hy
   have c3:er y=some (y.any fun n=>!fk n):=l9 mX _ y (by omega) (fun z _=>by unfold mX;rw [KE];rfl)
   rw [c3];rfl)
  rw [c2,Option.bind_some]
  cases h4:ins.any (fun l=>l.any fun n=>!fk n) with
  | true=>rfl
  | false=>
   simp only [Bool.false_eq_true,if_false]
   by_cases h5:fuel<0
   ·rw [if_pos h5,if_pos (.inl h5)]
   ·by_cases h6:2000<fuel
    ·rw [if_neg h5,if_pos h6,if_pos (.inr h6)]
    ·rw [if_neg h5,if_neg h6,if_neg (by omega)]
theorem GA{p:Program}{ins:List (List Int)}{fuel:Int}(h:lP p ins fuel=0):pD (eh p ins fuel):=by
 unfold lP at h
 by_cases h1:iN p=0
 rotate_left
 ·rw [if_pos h1] at h;exact absurd h h1
 rw [if_neg (show ¬iN p≠0 from fun h=>h h1)] at h
 by_cases h2:ins.length=p.Ins.length
 rotate_left
 ·rw [if_pos h2] at h;exact absurd h (by decide)
 rw [if_neg (show ¬ins.length≠p.Ins.length from fun h=>h h2)] at h
 cases h3:ins.any (fun l=>decide (100<(l.length:Int))) with
 | true=>rw [h3,if_pos rfl] at h;exact absurd h (by decide)
 | false=>
  rw [h3,if_neg (by decide)] at h
  cases h4:ins.any (fun l=>l.any fun n=>!fk n) with
  | true=>rw [h4,if_pos rfl] at h;exact absurd h (by decide)
  | false=>
   rw [h4,if_neg (by decide)] at h
   by_cases h5:fuel<0∨2000<fuel
   ·rw [if_pos h5] at h;exact absurd h (by decide)
   ·refine ⟨AP h1,by show 0≤fuel∧fuel≤2000;omega,h2,fun l hl=>⟨?_,fun x hx=>?_⟩,rfl⟩
    ·have:=List.any_eq_false.1 h3 l hl
     simp at this;omega
    ·have:=List.any_eq_false.1 h4 l hl
     cases hn:fk x with
     | true=>rfl
     | false=>exact absurd (List.any_eq_true.2 ⟨x,hx,by simp [hn]⟩) this
theorem KK{p:Program}{ins:List (List Int)}{fuel:Int}(hX:pD (eh p ins fuel)):sw p ins fuel=some (mk (eh p ins fuel) (init p)):=by
 have hok:S2 p:=hX.ok
 have h1:=hok.vars
 have h2:=hok.ins
 have h3:=hok.funcs
 have h4:=hok.sum
 unfold sw
 rw [if_pos (by omega),if_pos (by omega)]
 obtain ⟨x,hx,hQ⟩:=fU (B:=fun v=>rQ p ins fuel v.1 v.2.1 v.2.2) (fun v=>p.Funcs.length - v.2.1)
  (fun v=>v.2.1≤p.Funcs.length∧iq 0 p.Funcs=v.2.2++iq v.1 (p.Funcs.drop v.2.1)∧0≤v.1∧v.1+((p.Funcs.drop v.2.1).map fun f=>cp f.Body).sum≤50∧v.2.2.length=v.2.1)
  (fun x=>iq 0 p.Funcs=x.2.2.2++[x.1]∧x.2.2.2.length≤5) (by
   rintro ⟨n,k,l⟩ ⟨hk,he,hn,hs,hl⟩
   simp only at hk he hn hs hl ⊢
   unfold rQ
   by_cases hlt:k<p.Funcs.length
   ·rw [List.drop_eq_getElem_cons hlt,iq] at he
    rw [List.drop_eq_getElem_cons hlt,List.map_cons,List.sum_cons] at hs
    have hf:=hok.few _ (List.getElem_mem hlt)
    rw [if_pos (by omega),List.getElem?_eq_getElem hlt,Option.bind_some,if_pos (by simp only [List.length_singleton];omega),rz hf.1 hf.2,Option.bind_some,if_pos (jQ (by omega) (by omega)),if_pos (jR (by omega))]
    exact .inr ⟨_,rfl,⟨by simp only;omega,by simp only;rw [List.append_assoc];exact he,by simp only;omega,by simp only;omega,by simp only [List.length_append,List.length_singleton];omega⟩,by simp only;omega⟩
   ·rw [List.drop_eq_nil_of_le (by omega),iq] at he
    rw [if_neg (by omega)]
    exact .inl ⟨_,rfl,he,by simp only;omega⟩) (0,0,[]) ⟨Nat.zero_le _,rfl,by decide,by simp only [List.drop_zero];omega,rfl⟩
 rw [hx,Option.bind_some,if_pos (by simp only [List.length_singleton];omega),←hQ.1]
 rfl
theorem S8{p:Program}{ins:List (List Int)}{fuel:Int}(hp:∀ f∈p.Funcs,f.Params.length≤9223372036854775807) :
  (lP p ins fuel≠0→sC p ins fuel=some (⟨[],[],[],0,0,0⟩,lP p ins fuel))∧(lP p ins fuel=0→∃ r,sC p ins fuel=some (r,0)∧Comes (eh p ins fuel) (Gx p) r):=by
 unfold sC
 rw [Gz hp,Option.bind_some]
 refine ⟨fun h=>?_,fun h=>?_⟩
 ·rw [if_pos (by simp [h])]
 ·rw [if_neg (by simp [h])]
  have hX:=GA h
  rw [KK hX,Option.bind_some]
  obtain ⟨g1,g2,g3⟩:=xT hX (k:=p.Funcs.length) (by omega) (Int.le_refl _)
  have hv:Valid (eh p ins fuel) 0 (init p):=⟨by simp [init,eh],fun x hx=>by rw [List.eq_of_mem_replicate hx];rfl,by simp [init,eh],fun t ht=>by rw [List.eq_of_mem_replicate ht];simp [init],by have:=hX.fuel;simp only [init];omega,by simp [init],rfl⟩
  obtain ⟨b,r',e1,e2,e3⟩:=S6 hX hv g2 g3
  unfold qL kN
  simp only [mk] at e1 ⊢
  rw [Int.toNat_natCast] at g1
  have g1':(eh p ins fuel).first[(eh p ins fuel).p.Funcs.length]? =some (nth (eh p ins fuel).first (p.Funcs.length:Int)):=g1
  rw [g1',Option.bind_some]
  have e1':mh ⟨(eh p ins fuel).p,(eh p ins fuel).ins,(eh p ins fuel).fuel,(eh p ins fuel).first,init p⟩ (eh p ins fuel).p.Main (nth (eh p ins fuel).first (p.Funcs.length:Int))=_:=e1
  rw [e1',Option.bind_some]
  cases b with
  | true=>
   obtain ⟨u1,u2⟩:=e2 rfl
   simp only [if_true,Option.bind_some]
   exact ⟨_,rfl,.inl ⟨r',u2 [],u1.en,rfl⟩⟩
  | false=>
   obtain ⟨u1,u2⟩:=e3 rfl
   simp only [Bool.false_eq_true,if_false,Option.bind_some]
   exact ⟨_,rfl,.inr ⟨u2 [],u1⟩⟩
end Go.Proofs.YtdpjofmmokaobaaGreat.A
