/- Runs: the program's functions for one command, as plain mathematics. -/
import Derived.Test.YtdpjofmmokaobaaGreatRunS
import Derived.Test.YtdpjofmmokaobaaGreatScopeP
set_option linter.unusedSectionVars false
set_option linter.unusedVariables false
set_option linter.unusedSimpArgs false
set_option linter.constructorNameAsVariable false
namespace Go.Proofs.YtdpjofmmokaobaaGreat.A
open Go
theorem qc[Lp]{p:Program}{i:Int}{s:Stmt}(h:cC p i s=0):(1≤s.Kind∧s.Kind≤8)∧(iU s.Kind=true→0≤s.Var∧s.Var<p.Vars.length)∧(iq s.Kind=true→0≤s.Other∧s.Other<gZ p i s.Kind)∧(s.Kind=2→s.Args.length=wy p s.Other)∧(gd s.Kind=true→cN p s.Expr=0)∧(∀ e∈s.Args,cN p e=0):=by
 unfold cC at h
 by_cases h1:s.Kind<1∨8<s.Kind
 ·rw [if_pos h1] at h;exact absurd h (by decide)
 rw [if_neg h1] at h
 by_cases h2:(iU s.Kind=true∧(s.Var<0∨(p.Vars.length:Int)≤s.Var))∨(iq s.Kind=true∧(s.Other<0∨gZ p i s.Kind≤s.Other))
 ·rw [if_pos h2] at h;exact absurd h (by decide)
 rw [if_neg h2] at h
 split at h
 ·exact absurd h (by decide)
 by_cases h4:s.Kind=2∧s.Args.length≠wy p s.Other
 ·rw [if_pos h4] at h;exact absurd h (by decide)
 rw [if_neg h4] at h
 by_cases h5:gd s.Kind=true∧cC.cN p s.Expr≠0
 ·rw [if_pos h5] at h;exact absurd h h5.2
 rw [if_neg h5] at h
 have g1:∀ hv:iU s.Kind=true,¬(s.Var<0∨(p.Vars.length:Int)≤s.Var):=fun hv hh=>h2 (.inl ⟨hv,hh⟩)
 have g2:∀ hv:iq s.Kind=true,¬(s.Other<0∨gZ p i s.Kind≤s.Other):=fun hv hh=>h2 (.inr ⟨hv,hh⟩)
 exact ⟨by omega,fun hv=>by have:=g1 hv;omega,fun hv=>by have:=g2 hv;omega,fun k=>Decidable.not_not.1 fun hn=>h4 ⟨k,hn⟩,fun he=>Decidable.not_not.1 fun hn=>h5 ⟨he,hn⟩,l5 h⟩
theorem FO{p:Program}{e:aC}(h:cN p e=0):∀ x∈jX e,fy p.Vars.length x=0:=by
 unfold cN cC.cN at h
 split at h
 ·exact absurd h (by decide)
 ·exact HE h
theorem ER{p:Program}{i:Int}{f:Func}(h:yM p i f=0):f.Params.length≤4∧(∀ n∈f.Params,0≤n∧n<p.Vars.length)∧eg (cC p i) f.Body=0∧cN p f.Result=0:=by
 unfold yM at h
 split at h
 ·exact absurd h (by decide)
 split at h
 ·rename_i h1;exact absurd h h1
 split at h
 ·rename_i h1;exact absurd h h1
 rename_i h1 h2 h3
 exact ⟨by omega,HH (Decidable.not_not.1 h2),Decidable.not_not.1 h3,h⟩
def hO:Int→List Func→List Int
 | n,[]=>[n]
 | n,f::r=>n::hO (n+cw f.Body) r
structure tZ(X:Ctx):Prop where
 ok:R8 X.p
 fuel:0≤X.fuel∧X.fuel≤2000
 ins:X.ins.length=X.p.Ins.length
 nums:∀ l∈X.ins,l.length≤100∧∀ x∈l,fc x=true
 first:X.first=hO 0 X.p.Funcs
structure Valid(X:Ctx)(k:Int)(r:RunT):Prop where
 vars:r.Vars.length=X.p.Vars.length
 nums:∀ x∈r.Vars,fc x=true
 taken:r.Taken.length=X.p.Ins.length
 tks:∀ t∈r.Taken,0≤t∧t+k≤r.Steps
 steps:0≤r.Steps∧r.Steps≤X.fuel
 evs:(r.Events.length:Int)+k≤r.Steps
 en:r.End=0
theorem Valid.less{X:Ctx}{r:RunT}(h:Valid X 1 r):Valid X 0 r:=⟨h.vars,h.nums,h.taken,fun t ht=>by have:=h.tks t ht;omega,h.steps,by have:=h.evs;omega,h.en⟩
theorem Valid.tick{X:Ctx}{r:RunT}(h:Valid X 0 r)(hf:r.Steps≠X.fuel):Valid X 1 r.tick:=
 ⟨h.vars,h.nums,h.taken,fun t ht=>by have:=h.tks t ht;simp only [RunT.tick];omega,by have:=h.steps;simp only [RunT.tick];omega,by have:=h.evs;simp only [RunT.tick];omega,h.en⟩
theorem mem_set{l:List Int}{k:Nat}{x y:Int}(h:y∈l.set k x):y∈l∨y=x:=List.mem_or_eq_of_mem_set h
theorem Valid.jj{X:Ctx}{k:Int}{r:RunT}(h:Valid X k r){vs:List Int}(h1:vs.length=X.p.Vars.length)(h2:∀ x∈vs,fc x=true):Valid X k (r.jj vs):=⟨h1,h2,h.taken,h.tks,h.steps,h.evs,h.en⟩
theorem Valid.set{X:Ctx}{k:Int}{r:RunT}(h:Valid X k r)(n:Int){x:Int}(hx:fc x=true):Valid X k (r.set n x):=
 h.jj (by rw [List.length_set];exact h.vars) fun y hy=>(mem_set hy).elim (h.nums y) fun e=>e▸hx
theorem Valid.ev{X:Ctx}{r:RunT}(h:Valid X 1 r)(e:Event):Valid X 0 (r.ev e):=
 ⟨h.vars,h.nums,h.taken,fun t ht=>by have:=h.tks t ht;simp only [RunT.ev];omega,h.steps,by have:=h.evs;simp only [RunT.ev,List.length_append,List.length_singleton];omega,h.en⟩
variable [Lp]
def mk(X:Ctx)(r:RunT):Runner:=⟨X.p,X.ins,X.fuel,X.first,r⟩
theorem yO{X:Ctx}{k:Int}{r:RunT}(h:Valid X k r){e:aC}(he:cN X.p e=0):kK e r.Vars=some (dL r.Vars e)∧fc (dL r.Vars e)=true:=by
 have h1:=FO he
 rw [←h.vars] at h1
 exact ⟨L7 h.nums h1,CS h.nums _ e (Nat.le_refl _) h1⟩
theorem manyN(n:Nat):∀ (l:List Stmt)(d c:Int),im l+1≤n→cw l≤50→1≤d→d+im l≤100→0≤c→c+cw l≤1000→(dm n).f_scope_Walk__run_Many_1 l d c=some (true,c+cw l):=by
 induction n with
 | zero=>intro l d c h;omega
 | succ n ih=>
  intro l d c h1 h2 h3 h4 h5 h6
  show fp (dm n) l d c=_
  unfold fp
  have hlen:=xt l
  obtain ⟨x,hx,hQ⟩:=gR (B:=fun v=>eZ (dm n) l d v.1 v.2) (fun v=>l.length - v.1)
   (fun v=>v.1≤l.length∧c+cw l=v.2+cw (l.drop v.1)∧0≤v.2)
   (fun x=>∃ a b,x= .inr (a,b,c+(cw l:Int))) (by
    rintro ⟨k,m⟩ ⟨hk,he,hm⟩
    simp only at hk he hm ⊢
    unfold eZ tT
    by_cases hlt:k<l.length
    ·rw [List.drop_eq_getElem_cons hlt,cw,wx] at he
     have hmem:=List.getElem_mem hlt
     have g1:=xu hmem
     have g2:=xv hmem
     rw [if_pos (by omega),List.getElem?_eq_getElem hlt,Option.bind_some,if_pos (mE (by omega) (by omega)),Option.bind_some]
     generalize l[k]=s at *
     have g3:=wx s
     have g4:=tX s
     simp only [if_true]
     rw [if_pos (mE (by omega) (by omega)),ih _ _ _ (by omega) (by omega) (by omega) (by omega) (by omega) (by omega),Option.bind_some]
     simp only [if_true]
     rw [ih _ _ _ (by omega) (by omega) (by omega) (by omega) (by omega) (by omega),Option.bind_some]
     simp only [if_true]
     rw [if_pos (jZ (by omega))]
     exact .inr ⟨_,rfl,⟨by simp only;omega,by simp only;omega,by simp only;omega⟩,by simp only;omega⟩
    ·rw [List.drop_eq_nil_of_le (by omega),cw] at he
     rw [if_neg (by omega)]
     exact .inl ⟨_,rfl,_,_,by rw [show m=c+(cw l:Int) by omega]⟩) (0,c) ⟨Nat.zero_le _,rfl,h5⟩
  obtain ⟨a,b,rfl⟩:=hQ
  rw [hx];rfl
theorem zF{l:List Stmt}(h1:cw l≤50)(h2:im l≤6):lO l=some (cw l:Int):=by
 unfold lO
 have:jE l 1 0=some (true,0+(cw l:Int)):=xd 8 fun n hn=>manyN n l 1 0 (by omega) h1 (by decide) (by omega) (by decide) (by omega)
 rw [this];simp
theorem HI{X:Ctx}{r:RunT}(hX:tZ X)(h:Valid X 0 r):iC (mk X r)=some (if r.Steps=X.fuel then (false,mk X r.out) else (true,mk X r.tick)):=by
 unfold iC
 have hs:=h.steps
 have hf:=hX.fuel
 by_cases he:r.Steps=X.fuel
 ·rw [if_pos (by simp [mk,he]),if_pos he];rfl
 ·rw [if_neg (by simp [mk,he]),if_pos (mE (by simp only [mk];omega) (by simp only [mk];omega)),if_neg he];rfl
theorem getD_some{l:List Int}{k:Int}(h0:0≤k)(h:k<l.length):l[k.toNat]? =some (nth l k):=by
 unfold nth
 rw [List.getD_eq_getElem?_getD,List.getElem?_eq_getElem (by omega)];rfl
theorem D0{l:List (List Int)}{k:Int}(h0:0≤k)(h:k<l.length):l[k.toNat]? =some (AU l k):=by
 unfold AU
 rw [List.getD_eq_getElem?_getD,List.getElem?_eq_getElem (by omega)];rfl
theorem Dj{l:List Int}{k:Int}(h0:0≤k)(h:k<l.length):nth l k∈l:=List.mem_of_getElem? (getD_some h0 h)
theorem Mc{l:List (List Int)}{k:Int}(h0:0≤k)(h:k<l.length):AU l k∈l:=List.mem_of_getElem? (D0 h0 h)
theorem W3{X:Ctx}(hX:tZ X){i:Int}{s:Stmt}(hs:cC X.p i s=0)(hk:s.Kind≠2∧s.Kind<7){r:RunT}(h:Valid X 1 r)(a:Int) :
  mB (mk X r) s a=some (mk X (B7 X s a r))∧Valid X 0 (B7 X s a r):=by
 obtain ⟨o1,o2,o3,o4,o5,o6⟩:=qc hs
 have hf:=hX.fuel
 have hst:=h.steps
 have hlen:=h.vars
 unfold mB B7
 by_cases k3:s.Kind=3
 ·have v1:=o2 (by rw [k3];rfl)
  have v2:=o3 (by rw [k3];rfl)
  have e3:gZ X.p i s.Kind=X.p.Ins.length:=by rw [k3];rfl
  rw [e3] at v2
  have hi:=hX.ins
  have ht:=h.taken
  rw [if_pos (by simp [k3]),if_pos k3,b8 v2.1,Option.bind_some]
  simp only [mk]
  rw [D0 v2.1 (by omega),Option.bind_some,getD_some v2.1 (by omega),Option.bind_some]
  obtain ⟨n1,n2⟩:=hX.nums _ (Mc (l:=X.ins) v2.1 (by omega))
  have n3:=h.tks _ (Dj (l:=r.Taken) v2.1 (by omega))
  have d0:∀ w,gD ⟨X.p,X.ins,X.fuel,X.first,r⟩ s w=some (r.Vars.set s.Var.toNat w,r.Taken.set s.Other.toNat (nth r.Taken s.Other+1)):=by
   intro w
   unfold gD
   rw [b8 v2.1,Option.bind_some]
   simp only
   rw [getD_some v2.1 (by omega),Option.bind_some,if_pos (mE (by omega) (by omega)),b8 v1.1,Option.bind_some,getD_some v1.1 (by omega),Option.bind_some]
  have fin:∀ w,fc w=true→Valid X 0 ⟨r.Events,r.Vars.set s.Var.toNat w,r.Taken.set s.Other.toNat (nth r.Taken s.Other+1),r.Steps,r.End,r.Stop⟩:=fun w hw=>
   ⟨by simp only [List.length_set];exact hlen,fun y hy=>(mem_set hy).elim (h.nums y) fun e=>e▸hw,by simp only [List.length_set];exact ht,fun y hy=>(mem_set hy).elim (fun hm=>by have:=h.tks y hm;simp only;omega) fun e=>by subst e;simp only;omega,hst,by have:=h.evs;simp only;omega,h.en⟩
  by_cases hlt:nth r.Taken s.Other<((AU X.ins s.Other).length:Int)
  ·rw [if_pos hlt,b8 n3.1,Option.bind_some,getD_some n3.1 hlt,Option.bind_some,d0,Option.bind_some]
   exact ⟨rfl,fin _ (n2 _ (Dj n3.1 hlt))⟩
  ·have e0:nth (AU X.ins s.Other) (nth r.Taken s.Other)=0:=by
    unfold nth at hlt ⊢
    rw [List.getD_eq_getElem?_getD (l:=AU X.ins s.Other),List.getElem?_eq_none (by omega)];rfl
   rw [if_neg hlt,d0,Option.bind_some,e0]
   exact ⟨rfl,fin _ rfl⟩
 ·rw [if_neg (by simp [k3]),if_neg k3]
  have he:=o5 (by simp [gd,hk.1,k3])
  obtain ⟨q1,q2⟩:=yO h he
  simp only [mk]
  rw [q1,Option.bind_some]
  have hev:((r.Events.length:Int)+1≤2000):=by have:=h.evs;omega
  by_cases k4:s.Kind=4
  ·rw [if_neg (by simp [k4]),if_pos k4]
   unfold gE eR
   rw [if_pos (by simp [k4])]
   simp only [List.length_singleton]
   rw [if_pos (by omega)]
   exact ⟨rfl,h.ev _⟩
  ·have v1:=o2 (by simp [iU,k4];omega)
   rw [if_pos (by simp [k4]),if_neg k4,b8 v1.1,Option.bind_some,getD_some v1.1 (by omega),Option.bind_some]
   unfold gE eR
   rw [if_neg (by simp [k4])]
   simp only [List.length_singleton]
   have hs':=h.set s.Var q2
   by_cases k5:s.Kind=5
   ·rw [if_pos (by simp [k5]),if_pos k5,if_pos (by omega)]
    exact ⟨rfl,hs'.ev _⟩
   ·rw [if_neg (by simp [k5]),if_neg k5]
    by_cases k6:s.Kind=6
    ·rw [if_pos (by simp [k6]),if_pos k6,if_pos (by omega)]
     exact ⟨rfl,hs'.ev _⟩
    ·rw [if_neg (by simp [k6]),if_neg k6]
     exact ⟨rfl,hs'.less⟩
variable [Lp]
theorem Md{X:Ctx}{s:Stmt}(h:s.Other.toNat<X.p.Funcs.length):X.p.Funcs[s.Other.toNat]? =some (fC X s):=by
 unfold fC
 rw [List.getElem?_eq_getElem h];rfl
theorem called{X:Ctx}(hX:tZ X){i:Nat}(hi:i≤X.p.Funcs.length){s:Stmt}(hs:cC X.p i s=0)(hk:s.Kind=2) :
  0≤s.Other∧s.Other.toNat<i∧X.p.Funcs[s.Other.toNat]? =some (fC X s)∧yM X.p s.Other.toNat (fC X s)=0∧s.Args.length=(fC X s).Params.length∧cw (fC X s).Body≤50∧im (fC X s).Body≤6:=by
 obtain ⟨o1,o2,o3,o4,o5,o6⟩:=qc hs
 have v2:=o3 (by rw [hk];rfl)
 have e3:gZ X.p i s.Kind=i:=by rw [hk];rfl
 rw [e3] at v2
 have hlt:s.Other.toNat<X.p.Funcs.length:=by omega
 have hg:=Md (X:=X) (s:=s) hlt
 have he:X.p.Funcs[s.Other.toNat]=fC X s:=Option.some.inj ((List.getElem?_eq_getElem hlt).symm.trans hg)
 have h1:=hX.ok.fns _ hlt
 rw [he] at h1
 have h2:=hX.ok.few _ (List.mem_of_getElem? hg)
 refine ⟨v2.1,by omega,hg,h1,?_,h2.1,h2.2⟩
 rw [o4 hk]
 unfold wy
 rw [hg];rfl
theorem Me(vs xs:List Int):sG vs [] xs=vs:=by cases xs<;>rfl
theorem HJ{v:Nat} : ∀ (ps xs vs:List Int),ps.length=xs.length→vs.length=v→(∀ n∈ps,0≤n∧n<v)→(∀ x∈xs,fc x=true)→(∀ x∈vs,fc x=true)→(sG vs ps xs).length=v∧∀ x∈sG vs ps xs,fc x=true
 | [],[],vs,_,hv,_,_,hn=>⟨hv,hn⟩
 | n::ps,x::xs,vs,hl,hv,hp,hx,hn=>by
  rw [sG]
  exact HJ ps xs (vs.set n.toNat x) (by simpa using hl) (by rw [List.length_set];exact hv) (fun m hm=>hp m (by simp [hm])) (fun y hy=>hx y (by simp [hy])) fun y hy=>(mem_set hy).elim (hn y) fun e=>e▸hx x (by simp)
 | [],_::_,_,hl,_,_,_,_=>by cases hl
 | _::_,[],_,hl,_,_,_,_=>by cases hl
theorem Mf{X:Ctx}(hX:tZ X){i:Nat}(hi:i≤X.p.Funcs.length){s:Stmt}(hs:cC X.p i s=0)(hk:s.Kind=2){r:RunT}(h:Valid X 1 r) :
  ku (mk X r) s=some (mk X (ph X s r))∧Valid X 1 (ph X s r):=by
 obtain ⟨c1,c2,c3,c4,c5,_⟩:=called hX hi hs hk
 obtain ⟨f1,f2,f3,f4⟩:=ER c4
 obtain ⟨o1,o2,o3,o4,o5,o6⟩:=qc hs
 unfold ku
 obtain ⟨x,hx,hQ⟩:=gR (B:=fun v=>iS (mk X r) s v.1 v.2) (fun v=>s.Args.length - v.2) (fun v=>v.2≤s.Args.length∧v.1=(s.Args.take v.2).map (dL r.Vars))
  (fun x=>x.1=s.Args.map (dL r.Vars)) (by
   rintro ⟨l,k⟩ ⟨hk',he⟩
   simp only at hk' he ⊢
   unfold iS
   by_cases hlt:k<s.Args.length
   ·rw [if_pos (by omega),List.getElem?_eq_getElem hlt,Option.bind_some]
    obtain ⟨q1,q2⟩:=yO h (o6 _ (List.getElem_mem hlt))
    simp only [mk]
    rw [q1,Option.bind_some,if_pos (by rw [he,List.length_map,List.length_take];simp only [List.length_singleton];omega),if_pos (jZ (by omega))]
    refine .inr ⟨_,rfl,⟨by simp only;omega,?_⟩,by simp only;omega⟩
    simp only
    rw [he,List.take_add_one,List.getElem?_eq_getElem hlt,List.map_append];rfl
   ·rw [if_neg (by omega)]
    rw [List.take_of_length_le (by omega)] at he
    exact .inl ⟨_,rfl,he⟩) ([],0) ⟨Nat.zero_le _,by simp⟩
 rw [hx,Option.bind_some,b8 c1,Option.bind_some]
 simp only [mk]
 rw [c3,Option.bind_some]
 obtain ⟨l,k1,k2⟩:=x
 simp only at hQ
 subst hQ
 have hvl:(s.Args.map (dL r.Vars)).length=(fC X s).Params.length:=by rw [List.length_map,c5]
 have hvn:∀ y∈s.Args.map (dL r.Vars),fc y=true:=by
  intro y hy
  obtain ⟨e,he,rfl⟩:=List.mem_map.1 hy
  exact (yO h (o6 e he)).2
 have hset:=HJ (v:=X.p.Vars.length) _ _ r.Vars hvl.symm h.vars f2 hvn h.nums
 unfold ph
 generalize s.Args.map (dL r.Vars)=vals at *
 obtain ⟨x,hx2,hQ2⟩:=gR (B:=fun v=>iT ⟨X.p,X.ins,X.fuel,X.first,r⟩ (vals,k1,k2) (fC X s) v.1 v.2) (fun v=>(fC X s).Params.length - v.1)
  (fun v=>v.1≤(fC X s).Params.length∧v.2.length=X.p.Vars.length∧sG r.Vars (fC X s).Params vals=sG v.2 ((fC X s).Params.drop v.1) (vals.drop v.1))
  (fun x=>x.2.2=sG r.Vars (fC X s).Params vals) (by
   rintro ⟨k,vs⟩ ⟨hk',hl',he⟩
   simp only at hk' hl' he ⊢
   unfold iT
   by_cases hlt:k<(fC X s).Params.length
   ·have hlt2:k<vals.length:=by omega
    rw [List.drop_eq_getElem_cons hlt,List.drop_eq_getElem_cons hlt2,sG] at he
    have hp:=f2 _ (List.getElem_mem hlt)
    rw [if_pos (by omega),List.getElem?_eq_getElem hlt,Option.bind_some]
    simp only
    rw [List.getElem?_eq_getElem hlt2,Option.bind_some,b8 hp.1,Option.bind_some,List.getElem?_eq_getElem (by omega),Option.bind_some,if_pos (jZ (by omega))]
    exact .inr ⟨_,rfl,⟨by simp only;omega,by simp only [List.length_set];exact hl',he⟩,by simp only;omega⟩
   ·rw [if_neg (by omega)]
    rw [List.drop_eq_nil_of_le (by omega),Me] at he
    exact .inl ⟨_,rfl,he.symm⟩) (0,r.Vars) ⟨Nat.zero_le _,h.vars,rfl⟩
 rw [hx2,Option.bind_some,hQ2]
 exact ⟨rfl,h.jj hset.1 hset.2⟩
theorem Mg{X:Ctx}(hX:tZ X){i:Nat}(hi:i≤X.p.Funcs.length){s:Stmt}(hs:cC X.p i s=0)(hk:s.Kind=2){r:RunT}(h:Valid X 0 r) :
  kv (mk X r) s=some (mk X (yN X s r))∧Valid X 0 (yN X s r):=by
 obtain ⟨c1,c2,c3,c4,c5,_⟩:=called hX hi hs hk
 obtain ⟨f1,f2,f3,f4⟩:=ER c4
 obtain ⟨o1,o2,o3,o4,o5,o6⟩:=qc hs
 have v1:=o2 (by rw [hk];rfl)
 obtain ⟨q1,q2⟩:=yO h f4
 have hv:=h.vars
 unfold kv
 rw [b8 c1,Option.bind_some]
 simp only [mk]
 rw [c3,Option.bind_some,q1,Option.bind_some,b8 v1.1,Option.bind_some,getD_some v1.1 (by omega),Option.bind_some]
 exact ⟨rfl,h.set s.Var q2⟩
theorem B8:∀ (l:List Func)(n:Int),(hO n l).length=l.length+1
 | [],n=>rfl
 | f::r,n=>by rw [hO,List.length_cons,B8 r,List.length_cons]
theorem yP:∀ (l:List Func)(n:Int),0≤n→(n+((l.map fun f=>cw f.Body).sum:Nat)≤50)→∀ x∈hO n l,0≤x∧x≤50
 | [],n,h0,h,x,hx=>by
  obtain rfl:x=n:=by simpa [hO] using hx
  simp at h;omega
 | f::r,n,h0,h,x,hx=>by
  rw [hO] at hx
  rw [List.map_cons,List.sum_cons] at h
  rcases List.mem_cons.1 hx with rfl | hx
  ·omega
  ·exact yP r _ (by omega) (by omega) x hx
theorem FP{X:Ctx}(hX:tZ X){k:Int}(h0:0≤k)(h:k≤X.p.Funcs.length):X.first[k.toNat]? =some (nth X.first k)∧0≤nth X.first k∧nth X.first k≤50:=by
 have hl:X.first.length=X.p.Funcs.length+1:=by rw [hX.first,B8]
 have hm:=Dj (l:=X.first) h0 (by omega)
 refine ⟨getD_some h0 (by omega),?_⟩
 have hs:=hX.ok.sum
 rw [hX.first] at hm ⊢
 exact yP X.p.Funcs 0 (by decide) (by omega) _ hm
theorem HK{X:Ctx}{k:Int}{r:RunT}(h:Valid X k r){e:aC}(he:cN X.p e=0):iD (mk X r) e=some (dL r.Vars e !=0):=by
 unfold iD
 simp only [mk]
 rw [(yO h he).1];rfl
def pj(p:Program)(ins:List (List Int))(fuel:Int):Int:=
 if fV p≠0 then fV p
 else if ins.length≠p.Ins.length then 1
 else if ins.any (fun l=>decide (100<(l.length:Int))) then 2
 else if ins.any (fun l=>l.any fun n=>!fc n) then 3
 else if fuel<0∨2000<fuel then 3 else 0
def mF(p:Program)(ins:List (List Int))(fuel:Int):Ctx:=⟨p,ins,fuel,hO 0 p.Funcs⟩
def init(p:Program):RunT:=⟨[],List.replicate p.Vars.length 0,List.replicate p.Ins.length 0,0,0,0⟩
def Sa(p:Program):mD:=([.run p.Main (nth (hO 0 p.Funcs) p.Funcs.length)],init p)
structure Kept(v t:Nat)(r:RunT):Prop where
 vars:r.Vars.length=v
 taken:r.Taken.length=t
 nn:∀ x∈r.Taken,0≤x
 evs:(r.Events.length:Int)≤r.Steps
theorem FQ:∀ (ps xs vs:List Int),(sG vs ps xs).length=vs.length
 | n::ps,x::xs,vs=>by rw [sG,FQ ps xs,List.length_set]
 | [],xs,vs=>by cases xs<;>rfl
 | _::_,[],vs=>rfl
theorem Kept.tick{v t:Nat}{r:RunT}(h:Kept v t r):Kept v t r.tick∧(r.tick.Events.length:Int)+1≤r.tick.Steps:=
 ⟨⟨h.vars,h.taken,h.nn,by have:=h.evs;simp only [RunT.tick];omega⟩,by have:=h.evs;simp only [RunT.tick];omega⟩
theorem Sb{l:List Int}(h:∀ x∈l,0≤x)(k:Int):0≤nth l k:=by
 unfold nth
 rw [List.getD_eq_getElem?_getD]
 cases hk:l[k.toNat]? with
 | none=>exact Int.le_refl _
 | some x=>exact h x (List.mem_of_getElem? hk)
theorem Kept.step{X:Ctx}{v t:Nat}{c:mD}(h:Kept v t c.2):Kept v t (pH X c).2:=by
 obtain ⟨ts,r⟩:=c
 match ts with
 | []=>exact h
 | .leave s::K=>exact ⟨by simp only [pH,yN,RunT.set,RunT.jj,List.length_set];exact h.vars,h.taken,h.nn,h.evs⟩
 | .run [] _::K=>exact h
 | .run (s::l) a::K=>
  simp only [pH]
  split
  ·exact ⟨h.vars,h.taken,h.nn,h.evs⟩
  ·obtain ⟨⟨k1,k2,k3,k4⟩,k5⟩:=Kept.tick h
   generalize r.tick=q at *
   unfold lC
   split
   ·exact ⟨by simp only [ph,RunT.jj,FQ];exact k1,k2,k3,k4⟩
   split
   ·exact ⟨k1,k2,k3,k4⟩
   split
   ·split
    ·exact ⟨k1,k2,k3,k4⟩
    ·exact ⟨k1,k2,k3,k4⟩
   unfold B7
   have hs:∀ (n x:Int),((q.set n x).Vars.length=v):=fun n x=>by simp only [RunT.set,RunT.jj,List.length_set];exact k1
   split
   ·exact ⟨by simp only [List.length_set];exact k1,by simp only [List.length_set];exact k2,fun y hy=>(mem_set hy).elim (k3 y) fun e=>by have:=Sb k3 s.Other;omega,k4⟩
   split
   ·exact ⟨k1,k2,k3,by simp only [RunT.ev,List.length_append,List.length_singleton];omega⟩
   split
   ·exact ⟨hs _ _,k2,k3,by simp only [RunT.ev,RunT.set,RunT.jj,List.length_append,List.length_singleton];omega⟩
   split
   ·exact ⟨hs _ _,k2,k3,by simp only [RunT.ev,RunT.set,RunT.jj,List.length_append,List.length_singleton];omega⟩
   ·exact ⟨hs _ _,k2,k3,k4⟩
theorem Kept.iter{X:Ctx}{v t:Nat} : ∀ (n:Nat){c:mD},Kept v t c.2→Kept v t (iter X n c).2
 | 0,c,h=>h
 | n+1,c,h=>Kept.iter n h.step
theorem AX{X:Ctx} : ∀ (n:Nat){c:mD},c.2.Steps≤X.fuel→(A.iter X n c).2.Steps≤X.fuel
 | 0,c,h=>h
 | n+1,c,h=>AX n (IL h)
theorem Comes.kept{X:Ctx}{c:mD}{r:RunT}{v t:Nat}(h:Comes X c r)(hk:Kept v t c.2)(hs:c.2.Steps≤X.fuel):Kept v t r∧r.Steps≤X.fuel∧(r.End=1∨r.End=2):=by
 rcases h with ⟨q,⟨n,g1⟩,g2,rfl⟩ | ⟨⟨n,g1⟩,g2⟩
 ·have h1:=Kept.iter (X:=X) n hk
  have h2:=AX (X:=X) n hs
  rw [g1] at h1 h2
  exact ⟨⟨h1.vars,h1.taken,h1.nn,h1.evs⟩,h2,.inl rfl⟩
 ·have h1:=Kept.iter (X:=X) n hk
  have h2:=AX (X:=X) n hs
  rw [g1] at h1 h2
  exact ⟨h1,h2,.inr g2⟩
variable [Lp]
theorem Mh{p:Program}{ins:List (List Int)}{fuel:Int}(hp:∀ f∈p.Funcs,f.Params.length≤9223372036854775807):rG p ins fuel=some (pj p ins fuel):=by
 unfold rG pj
 rw [Mb hp,Option.bind_some]
 by_cases h1:fV p=0
 rotate_left
 ·rw [if_pos (show (fV p !=0)=true by simp [h1]),if_pos h1]
 rw [if_neg (show ¬(fV p !=0)=true by simp [h1]),if_neg (show ¬fV p≠0 from fun h=>h h1)]
 have hok:=Ak h1
 have hi:=hok.ins
 by_cases h2:ins.length=p.Ins.length
 rotate_left
 ·rw [if_pos (by simp;omega),if_pos h2]
 rw [if_neg (by simp [h2]),if_neg (show ¬ins.length≠p.Ins.length from fun h=>h h2)]
 have c1:eJ ins=some (ins.any (fun l=>decide (100<(l.length:Int)))):=kH sD _ ins (by omega) (fun y _=>rfl)
 rw [c1,Option.bind_some]
 cases h3:ins.any (fun l=>decide (100<(l.length:Int))) with
 | true=>rfl
 | false=>
  have hl:∀ l∈ins,l.length≤100:=fun l hl=>by
   have:=List.any_eq_false.1 h3 l hl
   simp at this;omega
  simp only [Bool.false_eq_true,if_false]
  have c2:eK ins=some (ins.any fun l=>l.any fun n=>!fc n):=kH pF _ ins (by omega) (fun y hy=>by
   unfold pF
   have hl':=hl y hy
   have c3:ef y=some (y.any fun n=>!fc n):=kH mz _ y (by omega) (fun z _=>by unfold mz;rw [JV];rfl)
   rw [c3];rfl)
  rw [c2,Option.bind_some]
  cases h4:ins.any (fun l=>l.any fun n=>!fc n) with
  | true=>rfl
  | false=>
   simp only [Bool.false_eq_true,if_false]
   by_cases h5:fuel<0
   ·rw [if_pos h5,if_pos (.inl h5)]
   ·by_cases h6:2000<fuel
    ·rw [if_neg h5,if_pos h6,if_pos (.inr h6)]
    ·rw [if_neg h5,if_neg h6,if_neg (by omega)]
theorem JZ{p:Program}{ins:List (List Int)}{fuel:Int}(h:pj p ins fuel=0):tZ (mF p ins fuel):=by
 unfold pj at h
 by_cases h1:fV p=0
 rotate_left
 ·rw [if_pos h1] at h;exact absurd h h1
 rw [if_neg (show ¬fV p≠0 from fun h=>h h1)] at h
 by_cases h2:ins.length=p.Ins.length
 rotate_left
 ·rw [if_pos h2] at h;exact absurd h (by decide)
 rw [if_neg (show ¬ins.length≠p.Ins.length from fun h=>h h2)] at h
 cases h3:ins.any (fun l=>decide (100<(l.length:Int))) with
 | true=>rw [h3,if_pos rfl] at h;exact absurd h (by decide)
 | false=>
  rw [h3,if_neg (by decide)] at h
  cases h4:ins.any (fun l=>l.any fun n=>!fc n) with
  | true=>rw [h4,if_pos rfl] at h;exact absurd h (by decide)
  | false=>
   rw [h4,if_neg (by decide)] at h
   by_cases h5:fuel<0∨2000<fuel
   ·rw [if_pos h5] at h;exact absurd h (by decide)
   ·refine ⟨Ak h1,by show 0≤fuel∧fuel≤2000;omega,h2,fun l hl=>⟨?_,fun x hx=>?_⟩,rfl⟩
    ·have:=List.any_eq_false.1 h3 l hl
     simp at this;omega
    ·have:=List.any_eq_false.1 h4 l hl
     cases hn:fc x with
     | true=>rfl
     | false=>exact absurd (List.any_eq_true.2 ⟨x,hx,by simp [hn]⟩) this
theorem Sc{p:Program}{ins:List (List Int)}{fuel:Int}(hX:tZ (mF p ins fuel)):ve p ins fuel=some (mk (mF p ins fuel) (init p)):=by
 have hok:R8 p:=hX.ok
 have h1:=hok.vars
 have h2:=hok.ins
 have h3:=hok.funcs
 have h4:=hok.sum
 unfold ve
 rw [if_pos (by omega),if_pos (by omega)]
 obtain ⟨x,hx,hQ⟩:=gR (B:=fun v=>rH p ins fuel v.1 v.2.1 v.2.2) (fun v=>p.Funcs.length - v.2.1)
  (fun v=>v.2.1≤p.Funcs.length∧hO 0 p.Funcs=v.2.2++hO v.1 (p.Funcs.drop v.2.1)∧0≤v.1∧v.1+((p.Funcs.drop v.2.1).map fun f=>cw f.Body).sum≤50∧v.2.2.length=v.2.1)
  (fun x=>hO 0 p.Funcs=x.2.2.2++[x.1]∧x.2.2.2.length≤5) (by
   rintro ⟨n,k,l⟩ ⟨hk,he,hn,hs,hl⟩
   simp only at hk he hn hs hl ⊢
   unfold rH
   by_cases hlt:k<p.Funcs.length
   ·rw [List.drop_eq_getElem_cons hlt,hO] at he
    rw [List.drop_eq_getElem_cons hlt,List.map_cons,List.sum_cons] at hs
    have hf:=hok.few _ (List.getElem_mem hlt)
    rw [if_pos (by omega),List.getElem?_eq_getElem hlt,Option.bind_some,if_pos (by simp only [List.length_singleton];omega),zF hf.1 hf.2,Option.bind_some,if_pos (mE (by omega) (by omega)),if_pos (jZ (by omega))]
    exact .inr ⟨_,rfl,⟨by simp only;omega,by simp only;rw [List.append_assoc];exact he,by simp only;omega,by simp only;omega,by simp only [List.length_append,List.length_singleton];omega⟩,by simp only;omega⟩
   ·rw [List.drop_eq_nil_of_le (by omega),hO] at he
    rw [if_neg (by omega)]
    exact .inl ⟨_,rfl,he,by simp only;omega⟩) (0,0,[]) ⟨Nat.zero_le _,rfl,by decide,by simp only [List.drop_zero];omega,rfl⟩
 rw [hx,Option.bind_some,if_pos (by simp only [List.length_singleton];omega),←hQ.1]
 rfl
end Go.Proofs.YtdpjofmmokaobaaGreat.A
