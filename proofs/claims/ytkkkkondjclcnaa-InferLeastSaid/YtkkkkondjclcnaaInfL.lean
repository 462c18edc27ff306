/- What is inferred fits, and flows to whatever fits. -/
import Derived.Test.YtkkkkondjclcnaaInfP
import Derived.Test.YtkkkkondjclcnaaFL
set_option linter.unusedSectionVars false
set_option linter.unusedVariables false
set_option linter.unusedSimpArgs false
set_option linter.constructorNameAsVariable false
namespace Go.Proofs.Ytkkkkondjclcnaa.A
open Go
variable [Lp]
theorem AA(p:Program)(l:aT)(hp:∀ f∈p.Funcs,f.Params.length≤9223372036854775807):o6 p l=some true:=by
 unfold o6 p5
 have hb:oQ=some true:=rfl
 have hb2:oR=some true:=rfl
 rw [CQ hp,hb,hb2,Option.bind_some]
 by_cases hc:jY p=0
 rotate_left
 ·rw [if_pos (by simpa using hc)]
  simp [hc]
 have h:=CU hc
 have ho:=sN hc
 have hv16:=ho.vars
 have hf5:=ho.funcs
 rw [if_neg (by simp [hc])]
 obtain ⟨m,m1,m2,m3,m4⟩:=Ko h ho
 obtain ⟨b,e,f1,f2,f3⟩:=EL hp hc m
 obtain ⟨b',e',g1,g2,g3⟩:=EL hp hc l
 have he:e=0:=f2.2 m2
 have hbt:b=true:=(f3 he).2 ⟨fun j v q hv hk hq=>by rw [m4 j v hv hk] at hq;cases hq;exact ⟨le_refl _ _,le_refl _ _⟩,m3⟩
 subst he hbt
 rw [m1]
 simp only [Option.bind_some,if_true,bne_self_eq_false,Bool.false_eq_true,if_false,f1,g1]
 by_cases h1:e'=0
 rotate_left
 ·rw [if_pos (by simpa using h1)]
 rw [if_neg (by simp [h1])]
 cases hb':b' with
 | false=>rw [if_neg (by simp)]
 | true=>
  rw [if_pos rfl]
  have hR:=g2.1 h1
  have hF:=(g3 h1).1 hb'
  obtain ⟨m',n1,n2,_,n4,n5,_⟩:=GQ h ho hR (fun i v q hv hk hq=>(hF.1 i v q hv hk hq).2) hF.2
  rw [m1] at n1;cases n1
  have hlv:m.Vars.length=p.Vars.length:=m2.vl
  have hlf:m.Funcs.length=p.Funcs.length:=m2.fl
  have hlv2:l.Vars.length=p.Vars.length:=hR.vl
  have hlf2:l.Funcs.length=p.Funcs.length:=hR.fl
  rw [if_pos (by simp;omega),if_pos (by simp;omega),if_pos (by simp;omega),if_pos (by simp;omega)]
  have hle:∀ (i:Nat)(a c:Level),(([]++m.Vars)++m.Funcs)[i]? =some a→(([]++l.Vars)++l.Funcs)[i]? =some c→ee (MM p) a c∧br (MM p) a∧br (MM p) c:=by
   intro i a c ha hcc
   rw [List.nil_append] at ha hcc
   by_cases hi:i<p.Vars.length
   ·rw [List.getElem?_append_left (by omega)] at ha hcc
    exact ⟨n4.2 i a c ha hcc,oA m2.vs ha,oA hR.vs hcc⟩
   ·rw [List.getElem?_append_right (by omega)] at ha hcc
    rw [hlv] at ha
    rw [hlv2] at hcc
    exact ⟨n5.2 _ a c ha hcc,oA m2.fs ha,oA hR.fs hcc⟩
  have hlen:(([]++m.Vars)++m.Funcs).length=p.Vars.length+p.Funcs.length:=by simp;omega
  have hlen2:(([]++l.Vars)++l.Funcs).length=p.Vars.length+p.Funcs.length:=by simp;omega
  have:=sX (B:=fun v=>ic p l (m,0) v) (p.Vars.length+p.Funcs.length) (fun k=>k) (x:=(p.Vars.length+p.Funcs.length,false)) (fun k hk=>by
   unfold ic
   have q1:=List.getElem?_eq_getElem (show k<(([]++m.Vars)++m.Funcs).length by omega)
   have q2:=List.getElem?_eq_getElem (show k<(([]++l.Vars)++l.Funcs).length by omega)
   obtain ⟨r1,r2,r3⟩:=hle k _ _ q1 q2
   have hr:ou p.aa [(([]++m.Vars)++m.Funcs)[k],(([]++l.Vars)++l.Funcs)[k]]=0:=by
    have hm:=tk h.jv
    unfold ou
    rw [if_neg (by simp [h.jv]),if_neg]
    simp only [List.any_cons,List.any_nil,Bool.or_false,Bool.or_eq_true,Bool.not_eq_true',eA,decide_eq_false_iff_not]
    unfold br MM at r2 r3
    omega
   simp only
   rw [if_pos (by rw [hlen];omega),q1,q2,Option.bind_some,Option.bind_some,Ki,Option.bind_some,if_pos hr]
   simp only
   rw [if_neg (by simp),if_pos r1,if_pos (pZ (by omega))]) (by
   unfold ic
   simp only
   rw [if_neg (by rw [hlen];omega)]
   rw [hlen]
   exact congrArg (fun z=>some (Sum.inr (p.Vars.length+p.Funcs.length,z))) (decide_eq_false (Int.lt_irrefl _)))
  rw [this];rfl
end Go.Proofs.Ytkkkkondjclcnaa.A
