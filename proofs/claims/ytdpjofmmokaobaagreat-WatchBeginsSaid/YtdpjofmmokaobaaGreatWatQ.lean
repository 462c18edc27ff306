/- Watched runs: before a command; at a call. -/
import Derived.Test.YtdpjofmmokaobaaGreatWatP
set_option linter.unusedSectionVars false
set_option linter.unusedVariables false
set_option linter.unusedSimpArgs false
namespace Go.Proofs.YtdpjofmmokaobaaGreat.A
open Go
variable [Lp]
theorem Aj(p:Program)(vars places:List Level):(cP p vars places).p=p:=rfl
theorem FA(p:Program)(vars places:List Level):(cP p vars places).vars=vars:=rfl
theorem FB(p:Program)(vars places:List Level):(cP p vars places).places=places:=rfl
section
variable {p:Program}(h:oR p){vars places:List Level}(hw:WV p vars places)(c1:Runner)
include hw h
theorem JD{s:Stmt}(hv:0≤s.Var∧s.Var<p.Vars.length)(he:da p s.Expr=0):∃ b vars',gD (cP p vars places) c1 (dQ p) s=some (b,cP p vars' places)∧WV p vars' places:=by
 have hlt:s.Var.toNat<p.Vars.length:=by omega
 have d1:∀ (r w:List Bool),r.length=MM p→w.length=MM p→∃ b vars',dX (cP p vars places) c1 (dQ p) s r w=some (b,cP p vars' places)∧WV p vars' places:=fun r w h1 h2=>by
  obtain ⟨b,v',g1,g2⟩:=Ai h hw c1 (dQ p) hv.1 hv.2 (l:=⟨r,w⟩) ⟨h1,h2⟩
  unfold dX
  rw [g1,Option.bind_some]
  exact ⟨b,v',rfl,g2⟩
 unfold gD
 rw [cj hv.1,Option.bind_some,Aj,List.getElem?_eq_getElem hlt,Option.bind_some]
 split
 ·obtain ⟨b1,e1⟩:=JB h hv he
  obtain ⟨b2,e2⟩:=JC h hv he
  rw [e1,Option.bind_some]
  split
  ·exact ⟨_,_,rfl,hw⟩
  rw [e2,Option.bind_some]
  split
  ·exact ⟨_,_,rfl,hw⟩
  have hl:=h.vars _ (List.getElem_mem hlt)
  have s1:=rV p.ah p.Vars[s.Var.toNat].Label
  obtain ⟨l2,g2,s2⟩:=xh h hw c1 (dQ p) he
  rw [JA _ h.iB _ hl,Option.bind_some,g2,Option.bind_some]
  split
  ·obtain ⟨b,v',g3,g4⟩:=d1 _ _ s1.1 s2.2
   rw [g3,Option.bind_some]
   exact ⟨b,v',rfl,g4⟩
  ·obtain ⟨b,v',g3,g4⟩:=d1 _ _ s2.1 s1.2
   rw [g3,Option.bind_some]
   exact ⟨b,v',rfl,g4⟩
 ·exact ⟨_,_,rfl,hw⟩
theorem KQ{i:Int}{s:Stmt}(hs:cC p i s=0)(hk:s.Kind≠2∧s.Kind<7):∃ b vars',iu (cP p vars places) c1 (dQ p) s=some (b,cP p vars' places)∧WV p vars' places:=by
 obtain ⟨o1,o2,o3,o4,o5,o6⟩:=oA hs
 unfold iu
 by_cases k1:s.Kind=1
 ·have v1:=o2 (by rw [k1];rfl)
  have he:=o5 (by rw [k1];rfl)
  obtain ⟨l,g1,s1⟩:=xh h hw c1 (dQ p) he
  obtain ⟨b,v',g3,g4⟩:=Ai h hw c1 (dQ p) v1.1 v1.2 s1
  rw [if_pos (by simp [k1]),g1,Option.bind_some,g3,Option.bind_some]
  exact ⟨b,v',rfl,g4⟩
 rw [if_neg (by simp [k1])]
 by_cases k3:s.Kind=3
 ·have v1:=o2 (by rw [k3];rfl)
  have v2:=o3 (by rw [k3];rfl)
  have e3:il p i s.Kind=p.Ins.length:=by rw [k3];rfl
  rw [e3] at v2
  have hlt:s.Other.toNat<p.Ins.length:=by omega
  obtain ⟨l,g1,s1⟩:=zF hw c1 (dQ p)
  have s2:=rV p.ah p.Ins[s.Other.toNat]
  rw [if_pos (by simp [k3]),cj v2.1,Option.bind_some,Aj,List.getElem?_eq_getElem hlt,Option.bind_some,JA _ h.iB _ (h.ins _ (List.getElem_mem hlt)),Option.bind_some,g1,Option.bind_some,Ah h.small s1 s2,Option.bind_some]
  split
  ·obtain ⟨b,v',g3,g4⟩:=Ai h hw c1 (dQ p) v1.1 v1.2 (xX (MM p) l (mH p.ah p.Ins[s.Other.toNat]))
   rw [Option.bind_some,CV h.small s1 s2,Option.bind_some,g3,Option.bind_some]
   exact ⟨b,v',rfl,g4⟩
  ·exact ⟨_,_,rfl,hw⟩
 rw [if_neg (by simp [k3])]
 have he:=o5 (by simp [fR,hk.1,k3])
 by_cases k4:s.Kind=4
 ·have v2:=o3 (by rw [k4];rfl)
  have e3:il p i s.Kind=p.Outs.length:=by rw [k4];rfl
  rw [e3] at v2
  have hlt:s.Other.toNat<p.Outs.length:=by omega
  obtain ⟨l,g1,s1⟩:=xh h hw c1 (dQ p) he
  have s2:=rV p.ah p.Outs[s.Other.toNat]
  rw [if_pos (by simp [k4]),g1,Option.bind_some,cj v2.1,Option.bind_some,Aj,List.getElem?_eq_getElem hlt,Option.bind_some,JA _ h.iB _ (h.outs _ (List.getElem_mem hlt)),Option.bind_some,Ah h.small s1 s2,Option.bind_some]
  exact ⟨_,_,rfl,hw⟩
 rw [if_neg (by simp [k4])]
 have v1:=o2 (by simp [jj,k4];omega)
 obtain ⟨b,v',g3,g4⟩:=JD h hw c1 v1 he
 rw [g3,Option.bind_some]
 exact ⟨b,v',rfl,g4⟩
end
theorem KR{X:Ctx}(hX:pD X)(h:oR X.p){vars places:List Level}(hw:WV X.p vars places)(c1:Runner){i:Nat}(hi:i≤X.p.Funcs.length){s:Stmt}(hs:cC X.p i s=0)(hk:s.Kind=2) :
  ∃ b vars',ir (cP X.p vars places) c1 (dQ X.p) s=some (b,cP X.p vars' places)∧WV X.p vars' places:=by
 obtain ⟨q1,q2,q3,q4,q5,_⟩:=called hX hi hs hk
 obtain ⟨f1,f2,f3,f4⟩:=CI q4
 obtain ⟨o1,o2,o3,o4,o5,o6⟩:=oA hs
 unfold ir
 rw [cj q1,Option.bind_some,Aj,q3,Option.bind_some]
 obtain ⟨x,hx,hQ⟩:=fU (B:=fun v=>fY (cP X.p vars places) c1 (dQ X.p) s (fl X s) v.1 v.2) (fun v=>s.Args.length - v.2)
  (fun v=>v.2≤s.Args.length∧v.1.length=v.2∧(∀ l∈v.1,dY (MM X.p) l)∧∀ (j:Nat)(n:Int)(l:Level),(fl X s).Params[j]? =some n→v.1[j]? =some l→∀ y,X.p.Vars[n.toNat]? =some y→y.Known=true→qN (MM X.p) l (mH X.p.ah y.Label)=true)
  (fun x=>x= .inl ()∨∃ l k b,x= .inr (l,k,b)∧l.length=s.Args.length∧(∀ x∈l,dY (MM X.p) x)∧∀ (j:Nat)(n:Int)(x:Level),(fl X s).Params[j]? =some n→l[j]? =some x→∀ y,X.p.Vars[n.toNat]? =some y→y.Known=true→qN (MM X.p) x (mH X.p.ah y.Label)=true) (by
   rintro ⟨l,k⟩ ⟨hk',hl,hsz,hkn⟩
   simp only at hk' hl hsz hkn ⊢
   unfold fY
   by_cases hlt:k<s.Args.length
   ·have hlt2:k<(fl X s).Params.length:=by omega
    obtain ⟨l1,g1,s1⟩:=xh h hw c1 (dQ X.p) (o6 _ (List.getElem_mem hlt))
    have hp:=f2 _ (List.getElem_mem hlt2)
    obtain ⟨b,g2,g3⟩:=Iz h hw c1 (dQ X.p) hp.1 hp.2 s1
    have hget:(l++[l1])[k]? =some l1:=by rw [←hl,List.getElem?_append_right (Nat.le_refl _),Nat.sub_self];rfl
    rw [if_pos (by omega),List.getElem?_eq_getElem hlt,Option.bind_some,g1,Option.bind_some,if_pos (by simp only [List.length_singleton];omega),List.getElem?_eq_getElem hlt2,Option.bind_some,hget,Option.bind_some,g2,Option.bind_some]
    cases b with
    | false=>exact .inl ⟨_,rfl,.inl rfl⟩
    | true=>
     rw [if_pos rfl,if_pos (jR (by omega))]
     refine .inr ⟨_,rfl,⟨by simp only;omega,by simp only [List.length_append,List.length_singleton];omega,fun x hx=>(List.mem_append.1 hx).elim (hsz x) fun e=>by rw [List.mem_singleton.1 e];exact s1,fun j n x hj hx=>?_⟩,by simp only;omega⟩
     by_cases hjk:j<k
     ·simp only at hx
      rw [List.getElem?_append_left (by omega)] at hx
      exact hkn j n x hj hx
     ·simp only at hx
      by_cases hjk2:j=k
      ·subst hjk2
       rw [hget] at hx
       obtain rfl:=Option.some.inj hx
       rw [List.getElem?_eq_getElem hlt2] at hj
       obtain rfl:=Option.some.inj hj
       exact g3 rfl
      ·rw [List.getElem?_eq_none (by simp only [List.length_append,List.length_singleton];omega)] at hx
       cases hx
   ·rw [if_neg (by omega)]
    exact .inl ⟨_,rfl,.inr ⟨_,_,_,rfl,by omega,hsz,hkn⟩⟩) ([],0) ⟨Nat.zero_le _,rfl,fun l hl=>(by cases hl),fun j n l _ hl=>(by cases hl)⟩
 rw [hx,Option.bind_some]
 rcases hQ with rfl | ⟨l,k,b,rfl,hl,hsz,hkn⟩
 ·exact ⟨_,_,rfl,hw⟩
 simp only
 obtain ⟨x,hx2,hQ2⟩:=fU (B:=fun v=>fZ (cP X.p vars places) c1 (dQ X.p) (fl X s) (l,k,b) v.1 v.2) (fun v=>(fl X s).Params.length - v.1)
  (fun v=>v.1≤(fl X s).Params.length∧WV X.p v.2 places) (fun x=>WV X.p x.2.2 places) (by
   rintro ⟨j,vs⟩ ⟨hj,hv⟩
   simp only at hj hv ⊢
   unfold fZ
   by_cases hlt:j<(fl X s).Params.length
   ·have hlt2:j<l.length:=by omega
    have hp:=f2 _ (List.getElem_mem hlt)
    have hvl:=hv.len
    rw [if_pos (by omega),List.getElem?_eq_getElem hlt,Option.bind_some]
    simp only
    rw [List.getElem?_eq_getElem hlt2,Option.bind_some,cj hp.1,Option.bind_some,List.getElem?_eq_getElem (by omega),Option.bind_some,if_pos (jR (by omega))]
    exact .inr ⟨_,rfl,⟨by simp only;omega,hv.put (hsz _ (List.getElem_mem hlt2)) (hkn j _ _ (List.getElem?_eq_getElem hlt) (List.getElem?_eq_getElem hlt2))⟩,by simp only;omega⟩
   ·rw [if_neg (by omega)]
    exact .inl ⟨_,rfl,hv⟩) (0,vars) ⟨Nat.zero_le _,hw⟩
 rw [FA,hx2,Option.bind_some]
 exact ⟨_,_,rfl,hQ2⟩
end Go.Proofs.YtdpjofmmokaobaaGreat.A
