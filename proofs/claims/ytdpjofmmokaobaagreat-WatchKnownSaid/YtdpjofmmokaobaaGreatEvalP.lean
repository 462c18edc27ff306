/- Expressions: the program's functions answer as plain mathematics says. -/
import Derived.Test.YtdpjofmmokaobaaGreatEvalS
import Derived.Test.YtdpjofmmokaobaaGreatFE
set_option linter.unusedSectionVars false
set_option linter.unusedVariables false
set_option linter.unusedSimpArgs false
set_option linter.constructorNameAsVariable false
namespace Go.Proofs.YtdpjofmmokaobaaGreat.A
open Go
variable [Lp]
def L4{β γ:Type} : (Int×β)⊕(Int×γ)→Int
 | .inl p=>p.1
 | .inr p=>p.1
theorem mE{n:Int}(h1 : -9223372036854775808≤n)(h2:n≤9223372036854775807):IntKind.i64.wrap n=n:=wrap64 (by omega) (by omega)
theorem jZ{k:Nat}(h:k<9223372036854775807):IntKind.i64.wrap ((k:Int)+1)=((k+1:Nat):Int):=pA k h
theorem R9(n:Nat):∀ (e:aC)(m:Int),sz e≤n→0≤m→m≤15→(kU n).f_scope_size e m=some (min (sz e:Int) (m+1)):=by
 induction n with
 | zero=>intro e m h;have:=v7 e;omega
 | succ n ih=>
  intro e m h hm hm15
  show pB (kU n) e m=_
  unfold pB
  have he:=EP e
  obtain ⟨x,hx,hQ⟩:=gR (B:=fun v=>nT (kU n) e m v.1 v.2) (fun v=>e.Args.length - v.2)
   (fun v=>v.2≤e.Args.length∧v.1=min (1+(qb (e.Args.take v.2):Int)) (m+1)∧(v.2:Int)<v.1+1) (fun x=>L4 x=min (sz e:Int) (m+1)) (by
    rintro ⟨v,k⟩ ⟨hk,hv,hkv⟩
    simp only at hk hv hkv ⊢
    have ht:=L0 e.Args k
    unfold nT
    by_cases hlt:k<e.Args.length
    ·rw [if_pos (by omega),List.getElem?_eq_getElem hlt,Option.bind_some]
     by_cases hmv:m<v
     ·rw [if_pos hmv]
      exact .inl ⟨_,rfl,by simp only [L4];omega⟩
     ·rw [if_neg hmv,if_pos (mE (by omega) (by omega)),ih _ _ (by have:=yC hlt;omega) (by omega) (by omega),Option.bind_some]
      have hs:=Eh hlt
      have hp:=v7 e.Args[k]
      rw [if_pos (mE (by omega) (by omega)),if_pos (jZ (by omega))]
      exact .inr ⟨_,rfl,⟨by simp only;omega,by simp only;omega,by simp only;omega⟩,by simp only;omega⟩
    ·rw [if_neg (by omega)]
     have hl:e.Args.take k=e.Args:=List.take_of_length_le (by omega)
     rw [hl] at hv
     exact .inl ⟨_,rfl,by simp only [L4];omega⟩) (1,0) ⟨Nat.zero_le _,by simp [qb];omega,by simp⟩
  rw [hx,Option.bind_some]
  rcases x with ⟨a,b,c,d⟩ | ⟨a,b,c⟩
  ·exact congrArg some hQ
  ·exact congrArg some hQ
theorem NV{e:aC}{m:Int}(h0:0≤m)(h:m≤15):tI e m=some (min (sz e:Int) (m+1)):=
 xd (sz e) fun n hn=>R9 n e m hn h0 h
theorem NX(e:aC)(v:Int):qy e v=some (fy v e):=by
 have j1:∀ w:Nat,w=(if 2<e.Kind then 2 else 0)→mu e v w=some (decide ((e.Kind=1∧(e.N < -9999999∨9999999<e.N))∨(2<e.Kind∧e.N≠0))):=by
  intro w hw
  unfold mu eO
  by_cases h2:2<e.Kind
  ·rw [if_pos h2] at hw
   subst hw
   have h1:¬e.Kind=1:=by omega
   by_cases hn:e.N=0<;>simp [h1,h2,hn]
  ·rw [if_neg h2] at hw
   subst hw
   by_cases h1:e.Kind=1
   ·by_cases h3:e.N < -9999999
    ·simp [h1,h3]
    ·by_cases h4:9999999<e.N<;>simp [h1,h3,h4]
   ·simp [h1,h2]
 have d1:∀ w:Nat,w=(if 2<e.Kind then 2 else 0)→¬(e.Kind<1∨7<e.Kind)→((kn e v w).bind fun (x4:(Unit⊕(Unit⊕(Unit⊕Unit))))=>match x4 with
   | .inl ()=>some (1:Int)
   | .inr (.inl ())=>some 3
   | .inr (.inr (.inl ()))=>some 5
   | .inr (.inr (.inr ()))=>some 0)=some (fy v e):=by
  intro w hw hk
  unfold kn fy
  rw [if_neg hk,←hw]
  by_cases hl:e.Args.length=w
  ·rw [j1 w hw,if_neg (show ¬((e.Args.length:Int) !=(w:Int))=true by simp [hl]),if_neg (show ¬e.Args.length≠w from fun h=>h hl),Option.bind_some]
   by_cases hc:(e.Kind=1∧(e.N < -9999999∨9999999<e.N))∨(2<e.Kind∧e.N≠0)
   ·rw [if_pos hc,decide_eq_true hc];rfl
   ·rw [if_neg hc,decide_eq_false hc,if_neg (by decide)]
    by_cases h2:e.Kind=2
    ·by_cases h3:e.N<0
     ·simp [h2,h3]
     ·by_cases h4:v≤e.N<;>simp [h2,h3,h4]
    ·simp [h2]
  ·rw [if_pos (show ((e.Args.length:Int) !=(w:Int))=true by simp;omega),if_pos (show e.Args.length≠w from hl)];rfl
 unfold qy
 by_cases h1:e.Kind<1
 ·rw [if_pos h1];simp [fy,h1]
 rw [if_neg h1]
 by_cases h7:7<e.Kind
 ·rw [if_pos h7];simp [fy,h7]
 rw [if_neg h7]
 by_cases h2:2<e.Kind
 ·rw [if_pos h2]
  exact d1 2 (by rw [if_pos h2]) (by omega)
 ·rw [if_neg h2]
  exact d1 0 (by rw [if_neg h2]) (by omega)
theorem JU(v:Int)(e:aC):kJ v (jX e)=if fy v e≠0 then fy v e else kJ v (eX e.Args):=by rw [tj,kJ]
theorem NY(v:Int)(n:Nat):∀ (e:aC),sz e≤n→sz e≤15→(ka n).f_scope_parts e v=some (kJ v (jX e)):=by
 induction n with
 | zero=>intro e h;have:=v7 e;omega
 | succ n ih=>
  intro e h h15
  show nU (ka n) e v=_
  unfold nU
  rw [NX,Option.bind_some,JU]
  have he:=EP e
  have hlen:=HD e.Args
  by_cases hp:fy v e=0
  ·rw [if_neg (by simp [hp]),if_neg (by simp [hp])]
   obtain ⟨x,hx,hQ⟩:=gR (B:=fun k=>mw (ka n) e v k) (fun k=>e.Args.length - k)
    (fun k=>k≤e.Args.length∧kJ v (eX (e.Args.take k))=0) (fun x=>(match x with
     | .inl y=>y
     | .inr _=>0)=kJ v (eX e.Args)) (by
     rintro k ⟨hk,hv⟩
     unfold mw
     by_cases hlt:k<e.Args.length
     ·rw [if_pos (by omega),List.getElem?_eq_getElem hlt,Option.bind_some,ih _ (by have:=yC hlt;omega) (by have:=yC hlt;omega),Option.bind_some]
      have hs:=BE hlt
      have hf:=vA v (eX (e.Args.take k)) (jX e.Args[k])
      rw [←hs,if_neg (by simp [hv])] at hf
      by_cases h0:kJ v (jX e.Args[k])=0
      ·rw [if_neg (by simp [h0]),if_pos (jZ (by omega))]
       exact .inr ⟨_,rfl,⟨by omega,by rw [hf,h0]⟩,by omega⟩
      ·rw [if_pos (by simp [h0])]
       refine .inl ⟨_,rfl,?_⟩
       have hd:eX e.Args=eX (e.Args.take (k+1))++eX (e.Args.drop (k+1)):=by rw [←tF,List.take_append_drop]
       rw [hd,vA,hf,if_pos h0]
     ·rw [if_neg (by omega)]
      have hl:e.Args.take k=e.Args:=List.take_of_length_le (by omega)
      rw [hl] at hv
      exact .inl ⟨_,rfl,hv.symm⟩) 0 ⟨Nat.zero_le _,by simp [eX,kJ]⟩
   rw [hx,Option.bind_some]
   rcases x with a | ⟨a,b⟩
   ·exact congrArg some hQ
   ·exact congrArg some hQ
  ·rw [if_pos (by simp [hp]),if_pos hp]
theorem L5{e:aC}{v:Int}(h:sz e≤15):sA e v=some (kJ v (jX e)):=xd (sz e) fun n hn=>NY v n e hn h
def Nf(v:Int)(e:aC):Int:=if 15<sz e then 2 else kJ v (jX e)
theorem NZ(e:aC)(v:Int):jt e v=some (Nf v e):=by
 unfold jt Nf
 rw [NV (by decide) (by decide),Option.bind_some]
 by_cases h:15<sz e
 ·rw [if_pos (by omega),if_pos h]
 ·rw [if_neg (by omega),if_neg h,L5 (by omega)];rfl
theorem JV(n:Int):qB n=some (fc n):=by
 unfold qB fc
 by_cases h : -2147483648≤n<;>simp [h]
theorem L6(b:Bool):rC b=some (if b=true then 1 else 0):=by cases b<;>rfl
theorem FK{n:Int} : fc n=true↔-2147483648≤n∧n≤2147483647:=by simp [fc]
theorem N0{a b:Int}(ha:fc a=true)(hb:fc b=true) : -4611686018427387904≤a*b∧a*b≤4611686018427387904:=by
 rw [FK] at ha hb
 have h:(a*b).natAbs≤2147483648*2147483648:=by
  rw [Int.natAbs_mul]
  exact Nat.mul_le_mul (by omega) (by omega)
 omega
theorem FL{e:aC}{k:Nat}(hk:k<e.Args.length){x:aC}(hx:x∈jX e.Args[k]):x∈jX e:=by
 rw [tj]
 exact List.mem_cons_of_mem _ (DZ (List.getElem_mem hk) hx)
theorem N1{vs:List Int}(hv:∀ x∈vs,fc x=true)(n:Nat):∀ (e:aC),sz e≤n→(∀ x∈jX e,fy vs.length x=0)→(o9 n).f_run_Value e vs=some (dL vs e):=by
 induction n with
 | zero=>intro e h;have:=v7 e;omega
 | succ n ih=>
  intro e h hok
  show qA (o9 n) e vs=_
  unfold qA fg
  have hp:fy vs.length e=0:=hok e (by rw [tj];simp)
  obtain ⟨p1,p2,p3,p4,p5⟩:=AB hp
  rw [HB,Fm]
  unfold Nc
  by_cases k1:e.Kind=1
  ·rw [if_pos (by simp [k1]),if_pos k1]
  rw [if_neg (by simp [k1]),if_neg k1]
  by_cases k2:e.Kind=2
  ·have h3:=p5 k2
   have h4:e.N.toNat<vs.length:=by omega
   rw [if_pos (by simp [k2]),if_pos k2,b8 h3.1,Option.bind_some,List.getElem?_eq_getElem h4,List.getD_eq_getElem?_getD,List.getElem?_eq_getElem h4];rfl
  rw [if_neg (by simp [k2]),if_neg k2]
  have hl:e.Args.length=2:=by rw [p2,if_pos (by omega)]
  have h0:0<e.Args.length:=by omega
  have h1:1<e.Args.length:=by omega
  have g0:=yC h0
  have g1:=yC h1
  have q0:∀ x∈jX e.Args[0],fy vs.length x=0:=fun x hx=>hok x (FL h0 hx)
  have q1:∀ x∈jX e.Args[1],fy vs.length x=0:=fun x hx=>hok x (FL h1 hx)
  have n0:=CS hv _ e.Args[0] (Nat.le_refl _) q0
  have n1:=CS hv _ e.Args[1] (Nat.le_refl _) q1
  rw [List.getElem?_eq_getElem h0,Option.bind_some,ih _ (by omega) q0,Option.bind_some,List.getElem?_eq_getElem h1,Option.bind_some,ih _ (by omega) q1,Option.bind_some]
  have e0:(e.Args.map (dL vs)).getD 0 0=dL vs e.Args[0]:=by rw [List.getD_eq_getElem?_getD,List.getElem?_map,List.getElem?_eq_getElem h0];rfl
  have e1:(e.Args.map (dL vs)).getD 1 0=dL vs e.Args[1]:=by rw [List.getD_eq_getElem?_getD,List.getElem?_map,List.getElem?_eq_getElem h1];rfl
  rw [e0,e1]
  generalize dL vs e.Args[0]=a at *
  generalize dL vs e.Args[1]=b at *
  have hm:=N0 n0 n1
  rw [FK] at n0 n1
  have hww:∀ w,IntKind.i64.wrap (IntKind.i32.wrap w)=HA w:=fun w=>L1 (zE w)
  simp only [Option.bind_some,L6,hww]
  by_cases k3:e.Kind=3
  ·rw [if_pos (by simp [k3]),if_pos k3,if_pos (mE (by omega) (by omega))]
  rw [if_neg (by simp [k3]),if_neg k3]
  by_cases k4:e.Kind=4
  ·rw [if_pos (by simp [k4]),if_pos k4,if_pos (mE (by omega) (by omega))]
  rw [if_neg (by simp [k4]),if_neg k4]
  by_cases k5:e.Kind=5
  ·rw [if_pos (by simp [k5]),if_pos k5,if_pos (mE (by omega) (by omega))]
  rw [if_neg (by simp [k5]),if_neg k5]
  by_cases k6:e.Kind=6
  ·rw [if_pos (by simp [k6]),if_pos k6]
   by_cases hab:a<b
   ·simp only [hab,decide_true,if_true];rfl
   ·simp only [hab,decide_false,if_false];rfl
  rw [if_neg (by simp [k6]),if_neg k6]
  have k7:e.Kind=7:=by omega
  rw [if_pos (by simp [k7]),if_pos k7]
  by_cases hab:a=b
  ·simp only [hab,beq_self_eq_true,if_true];rfl
  ·have:(a==b)=false:=by simp [hab]
   simp only [hab,this,if_false];rfl
theorem L7{vs:List Int}{e:aC}(hv:∀ x∈vs,fc x=true)(hok:∀ x∈jX e,fy vs.length x=0):kK e vs=some (dL vs e):=
 xd (sz e) fun n hn=>N1 hv n e hn hok
end Go.Proofs.YtdpjofmmokaobaaGreat.A
