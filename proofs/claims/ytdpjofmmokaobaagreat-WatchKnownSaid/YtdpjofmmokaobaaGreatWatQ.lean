/- Watched runs: before a command; at a call. -/
import Derived.Test.YtdpjofmmokaobaaGreatWatP
set_option linter.unusedSectionVars false
set_option linter.unusedVariables false
set_option linter.unusedSimpArgs false
set_option linter.constructorNameAsVariable false
namespace Go.Proofs.YtdpjofmmokaobaaGreat.A
open Go
variable [Lp]
theorem zJ(p:Program)(vars places:List Level):(cE p vars places).p=p:=rfl
theorem ES(p:Program)(vars places:List Level):(cE p vars places).vars=vars:=rfl
theorem ET(p:Program)(vars places:List Level):(cE p vars places).places=places:=rfl
section
variable {p:Program}(h:nG p){vars places:List Level}(hw:WV p vars places)(c1:Runner)
include hw h
theorem IU{s:Stmt}(hv:0≤s.Var∧s.Var<p.Vars.length)(he:cN p s.Expr=0):∃ b vars',gm (cE p vars places) c1 (dJ p) s=some (b,cE p vars' places)∧WV p vars' places:=by
 have hlt:s.Var.toNat<p.Vars.length:=by omega
 have d1:∀ (r w:List Bool),r.length=MM p→w.length=MM p→∃ b vars',dR (cE p vars places) c1 (dJ p) s r w=some (b,cE p vars' places)∧WV p vars' places:=fun r w h1 h2=>by
  obtain ⟨b,v',g1,g2⟩:=zI h hw c1 (dJ p) hv.1 hv.2 (l:=⟨r,w⟩) ⟨h1,h2⟩
  unfold dR
  rw [g1,Option.bind_some]
  exact ⟨b,v',rfl,g2⟩
 unfold gm
 rw [b8 hv.1,Option.bind_some,zJ,List.getElem?_eq_getElem hlt,Option.bind_some]
 split
 ·obtain ⟨b1,e1⟩:=IS h hv he
  obtain ⟨b2,e2⟩:=IT h hv he
  rw [e1,Option.bind_some]
  split
  ·exact ⟨_,_,rfl,hw⟩
  rw [e2,Option.bind_some]
  split
  ·exact ⟨_,_,rfl,hw⟩
  have hl:=h.vars _ (List.getElem_mem hlt)
  have s1:=pw p.af p.Vars[s.Var.toNat].Label
  obtain ⟨l2,g2,s2⟩:=wL h hw c1 (dJ p) he
  rw [F4 _ h.gh _ hl,Option.bind_some,g2,Option.bind_some]
  split
  ·obtain ⟨b,v',g3,g4⟩:=d1 _ _ s1.1 s2.2
   rw [g3,Option.bind_some]
   exact ⟨b,v',rfl,g4⟩
  ·obtain ⟨b,v',g3,g4⟩:=d1 _ _ s2.1 s1.2
   rw [g3,Option.bind_some]
   exact ⟨b,v',rfl,g4⟩
 ·exact ⟨_,_,rfl,hw⟩
theorem J7{i:Int}{s:Stmt}(hs:cC p i s=0)(hk:s.Kind≠2∧s.Kind<7):∃ b vars',ic (cE p vars places) c1 (dJ p) s=some (b,cE p vars' places)∧WV p vars' places:=by
 obtain ⟨o1,o2,o3,o4,o5,o6⟩:=qc hs
 unfold ic
 by_cases k1:s.Kind=1
 ·have v1:=o2 (by rw [k1];rfl)
  have he:=o5 (by rw [k1];rfl)
  obtain ⟨l,g1,s1⟩:=wL h hw c1 (dJ p) he
  obtain ⟨b,v',g3,g4⟩:=zI h hw c1 (dJ p) v1.1 v1.2 s1
  rw [if_pos (by simp [k1]),g1,Option.bind_some,g3,Option.bind_some]
  exact ⟨b,v',rfl,g4⟩
 rw [if_neg (by simp [k1])]
 by_cases k3:s.Kind=3
 ·have v1:=o2 (by rw [k3];rfl)
  have v2:=o3 (by rw [k3];rfl)
  have e3:gZ p i s.Kind=p.Ins.length:=by rw [k3];rfl
  rw [e3] at v2
  have hlt:s.Other.toNat<p.Ins.length:=by omega
  obtain ⟨l,g1,s1⟩:=zc hw c1 (dJ p)
  have s2:=pw p.af p.Ins[s.Other.toNat]
  rw [if_pos (by simp [k3]),b8 v2.1,Option.bind_some,zJ,List.getElem?_eq_getElem hlt,Option.bind_some,F4 _ h.gh _ (h.ins _ (List.getElem_mem hlt)),Option.bind_some,g1,Option.bind_some,wK h.small s1 s2,Option.bind_some]
  split
  ·obtain ⟨b,v',g3,g4⟩:=zI h hw c1 (dJ p) v1.1 v1.2 (xz (MM p) l (lx p.af p.Ins[s.Other.toNat]))
   rw [Option.bind_some,Ck h.small s1 s2,Option.bind_some,g3,Option.bind_some]
   exact ⟨b,v',rfl,g4⟩
  ·exact ⟨_,_,rfl,hw⟩
 rw [if_neg (by simp [k3])]
 have he:=o5 (by simp [gd,hk.1,k3])
 by_cases k4:s.Kind=4
 ·have v2:=o3 (by rw [k4];rfl)
  have e3:gZ p i s.Kind=p.Outs.length:=by rw [k4];rfl
  rw [e3] at v2
  have hlt:s.Other.toNat<p.Outs.length:=by omega
  obtain ⟨l,g1,s1⟩:=wL h hw c1 (dJ p) he
  have s2:=pw p.af p.Outs[s.Other.toNat]
  rw [if_pos (by simp [k4]),g1,Option.bind_some,b8 v2.1,Option.bind_some,zJ,List.getElem?_eq_getElem hlt,Option.bind_some,F4 _ h.gh _ (h.outs _ (List.getElem_mem hlt)),Option.bind_some,wK h.small s1 s2,Option.bind_some]
  exact ⟨_,_,rfl,hw⟩
 rw [if_neg (by simp [k4])]
 have v1:=o2 (by simp [iU,k4];omega)
 obtain ⟨b,v',g3,g4⟩:=IU h hw c1 v1 he
 rw [g3,Option.bind_some]
 exact ⟨b,v',rfl,g4⟩
end
theorem J8{X:Ctx}(hX:tZ X)(h:nG X.p){vars places:List Level}(hw:WV X.p vars places)(c1:Runner){i:Nat}(hi:i≤X.p.Funcs.length){s:Stmt}(hs:cC X.p i s=0)(hk:s.Kind=2) :
  ∃ b vars',ib (cE X.p vars places) c1 (dJ X.p) s=some (b,cE X.p vars' places)∧WV X.p vars' places:=by
 obtain ⟨q1,q2,q3,q4,q5,_⟩:=called hX hi hs hk
 obtain ⟨f1,f2,f3,f4⟩:=ER q4
 obtain ⟨o1,o2,o3,o4,o5,o6⟩:=qc hs
 unfold ib
 rw [b8 q1,Option.bind_some,zJ,q3,Option.bind_some]
 obtain ⟨x,hx,hQ⟩:=gR (B:=fun v=>fQ (cE X.p vars places) c1 (dJ X.p) s (fC X s) v.1 v.2) (fun v=>s.Args.length - v.2)
  (fun v=>v.2≤s.Args.length∧v.1.length=v.2∧(∀ l∈v.1,dv (MM X.p) l)∧∀ (j:Nat)(n:Int)(l:Level),(fC X s).Params[j]? =some n→v.1[j]? =some l→∀ y,X.p.Vars[n.toNat]? =some y→y.Known=true→pv (MM X.p) l (lx X.p.af y.Label)=true)
  (fun x=>x= .inl ()∨∃ l k b,x= .inr (l,k,b)∧l.length=s.Args.length∧(∀ x∈l,dv (MM X.p) x)∧∀ (j:Nat)(n:Int)(x:Level),(fC X s).Params[j]? =some n→l[j]? =some x→∀ y,X.p.Vars[n.toNat]? =some y→y.Known=true→pv (MM X.p) x (lx X.p.af y.Label)=true) (by
   rintro ⟨l,k⟩ ⟨hk',hl,hsz,hkn⟩
   simp only at hk' hl hsz hkn ⊢
   unfold fQ
   by_cases hlt:k<s.Args.length
   ·have hlt2:k<(fC X s).Params.length:=by omega
    obtain ⟨l1,g1,s1⟩:=wL h hw c1 (dJ X.p) (o6 _ (List.getElem_mem hlt))
    have hp:=f2 _ (List.getElem_mem hlt2)
    obtain ⟨b,g2,g3⟩:=HO h hw c1 (dJ X.p) hp.1 hp.2 s1
    have hget:(l++[l1])[k]? =some l1:=by rw [←hl,List.getElem?_append_right (Nat.le_refl _),Nat.sub_self];rfl
    rw [if_pos (by omega),List.getElem?_eq_getElem hlt,Option.bind_some,g1,Option.bind_some,if_pos (by simp only [List.length_singleton];omega),List.getElem?_eq_getElem hlt2,Option.bind_some,hget,Option.bind_some,g2,Option.bind_some]
    cases b with
    | false=>exact .inl ⟨_,rfl,.inl rfl⟩
    | true=>
     rw [if_pos rfl,if_pos (jZ (by omega))]
     refine .inr ⟨_,rfl,⟨by simp only;omega,by simp only [List.length_append,List.length_singleton];omega,fun x hx=>(List.mem_append.1 hx).elim (hsz x) fun e=>by rw [List.mem_singleton.1 e];exact s1,fun j n x hj hx=>?_⟩,by simp only;omega⟩
     by_cases hjk:j<k
     ·simp only at hx
      rw [List.getElem?_append_left (by omega)] at hx
      exact hkn j n x hj hx
     ·simp only at hx
      by_cases hjk2:j=k
      ·subst hjk2
       rw [hget] at hx
       obtain rfl:=Option.some.inj hx
       rw [List.getElem?_eq_getElem hlt2] at hj
       obtain rfl:=Option.some.inj hj
       exact g3 rfl
      ·rw [List.getElem?_eq_none (by simp only [List.length_append,List.length_singleton];omega)] at hx
       cases hx
   ·rw [if_neg (by omega)]
    exact .inl ⟨_,rfl,.inr ⟨_,_,_,rfl,by omega,hsz,hkn⟩⟩) ([],0) ⟨Nat.zero_le _,rfl,fun l hl=>(by cases hl),fun j n l _ hl=>(by cases hl)⟩
 rw [hx,Option.bind_some]
 rcases hQ with rfl | ⟨l,k,b,rfl,hl,hsz,hkn⟩
 ·exact ⟨_,_,rfl,hw⟩
 simp only
 obtain ⟨x,hx2,hQ2⟩:=gR (B:=fun v=>fR (cE X.p vars places) c1 (dJ X.p) (fC X s) (l,k,b) v.1 v.2) (fun v=>(fC X s).Params.length - v.1)
  (fun v=>v.1≤(fC X s).Params.length∧WV X.p v.2 places) (fun x=>WV X.p x.2.2 places) (by
   rintro ⟨j,vs⟩ ⟨hj,hv⟩
   simp only at hj hv ⊢
   unfold fR
   by_cases hlt:j<(fC X s).Params.length
   ·have hlt2:j<l.length:=by omega
    have hp:=f2 _ (List.getElem_mem hlt)
    have hvl:=hv.len
    rw [if_pos (by omega),List.getElem?_eq_getElem hlt,Option.bind_some]
    simp only
    rw [List.getElem?_eq_getElem hlt2,Option.bind_some,b8 hp.1,Option.bind_some,List.getElem?_eq_getElem (by omega),Option.bind_some,if_pos (jZ (by omega))]
    exact .inr ⟨_,rfl,⟨by simp only;omega,hv.put (hsz _ (List.getElem_mem hlt2)) (hkn j _ _ (List.getElem?_eq_getElem hlt) (List.getElem?_eq_getElem hlt2))⟩,by simp only;omega⟩
   ·rw [if_neg (by omega)]
    exact .inl ⟨_,rfl,hv⟩) (0,vars) ⟨Nat.zero_le _,hw⟩
 rw [ES,hx2,Option.bind_some]
 exact ⟨_,_,rfl,hQ2⟩
end Go.Proofs.YtdpjofmmokaobaaGreat.A
