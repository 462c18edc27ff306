/- Expressions: the program's functions answer as plain mathematics says. -/
import Derived.Test.YtdpjofmmokaobaaGreatEvalS
import Derived.Test.YtdpjofmmokaobaaGreatFE
set_option linter.unusedSectionVars false
set_option linter.unusedVariables false
set_option linter.unusedSimpArgs false
namespace Go.Proofs.YtdpjofmmokaobaaGreat.A
open Go
variable [Lp]
def MV{β γ:Type} : (Int×β)⊕(Int×γ)→Int
 | .inl p=>p.1
 | .inr p=>p.1
theorem jQ{n:Int}(h1 : -9223372036854775808≤n)(h2:n≤9223372036854775807):IntKind.i64.wrap n=n:=wrap64 (by omega) (by omega)
theorem jR{k:Nat}(h:k<9223372036854775807):IntKind.i64.wrap ((k:Int)+1)=((k+1:Nat):Int):=pK k h
theorem S3(n:Nat):∀ (e:aE)(m:Int),sz e≤n→0≤m→m≤15→(lB n).f_scope_size e m=some (min (sz e:Int) (m+1)):=by
 induction n with
 | zero=>intro e m h;have:=wG e;omega
 | succ n ih=>
  intro e m h hm hm15
  show pL (lB n) e m=_
  unfold pL
  have he:=Fy e
  obtain ⟨x,hx,hQ⟩:=fU (B:=fun v=>oa (lB n) e m v.1 v.2) (fun v=>e.Args.length - v.2)
   (fun v=>v.2≤e.Args.length∧v.1=min (1+(qj (e.Args.take v.2):Int)) (m+1)∧(v.2:Int)<v.1+1) (fun x=>MV x=min (sz e:Int) (m+1)) (by
    rintro ⟨v,k⟩ ⟨hk,hv,hkv⟩
    simp only at hk hv hkv ⊢
    have ht:=MR e.Args k
    unfold oa
    by_cases hlt:k<e.Args.length
    ·rw [if_pos (by omega),List.getElem?_eq_getElem hlt,Option.bind_some]
     by_cases hmv:m<v
     ·rw [if_pos hmv]
      exact .inl ⟨_,rfl,by simp only [MV];omega⟩
     ·rw [if_neg hmv,if_pos (jQ (by omega) (by omega)),ih _ _ (by have:=yZ hlt;omega) (by omega) (by omega),Option.bind_some]
      have hs:=E2 hlt
      have hp:=wG e.Args[k]
      rw [if_pos (jQ (by omega) (by omega)),if_pos (jR (by omega))]
      exact .inr ⟨_,rfl,⟨by simp only;omega,by simp only;omega,by simp only;omega⟩,by simp only;omega⟩
    ·rw [if_neg (by omega)]
     have hl:e.Args.take k=e.Args:=List.take_of_length_le (by omega)
     rw [hl] at hv
     exact .inl ⟨_,rfl,by simp only [MV];omega⟩) (1,0) ⟨Nat.zero_le _,by simp [qj];omega,by simp⟩
  rw [hx,Option.bind_some]
  rcases x with ⟨a,b,c,d⟩ | ⟨a,b,c⟩
  ·exact congrArg some hQ
  ·exact congrArg some hQ
theorem OX{e:aE}{m:Int}(h0:0≤m)(h:m≤15):ua e m=some (min (sz e:Int) (m+1)):=
 vB (sz e) fun n hn=>S3 n e m hn h0 h
theorem OY(e:aE)(v:Int):qF e v=some (fF v e):=by
 have j1:∀ w:Nat,w=(if 2<e.Kind then 2 else 0)→mT e v w=some (decide ((e.Kind=1∧(e.N < -9999999∨9999999<e.N))∨(2<e.Kind∧e.N≠0))):=by
  intro w hw
  unfold mT eT
  by_cases h2:2<e.Kind
  ·rw [if_pos h2] at hw
   subst hw
   have h1:¬e.Kind=1:=by omega
   by_cases hn:e.N=0<;>simp [h1,h2,hn]
  ·rw [if_neg h2] at hw
   subst hw
   by_cases h1:e.Kind=1
   ·by_cases h3:e.N < -9999999
    ·simp [h1,h3]
    ·by_cases h4:9999999<e.N<;>simp [h1,h3,h4]
   ·simp [h1,h2]
 have d1:∀ w:Nat,w=(if 2<e.Kind then 2 else 0)→¬(e.Kind<1∨7<e.Kind)→((kE e v w).bind fun (x4:(Unit⊕(Unit⊕(Unit⊕Unit))))=>match x4 with
   | .inl ()=>some (1:Int)
   | .inr (.inl ())=>some 3
   | .inr (.inr (.inl ()))=>some 5
   | .inr (.inr (.inr ()))=>some 0)=some (fF v e):=by
  intro w hw hk
  unfold kE fF
  rw [if_neg hk,←hw]
  by_cases hl:e.Args.length=w
  ·rw [j1 w hw,if_neg (show ¬((e.Args.length:Int) !=(w:Int))=true by simp [hl]),if_neg (show ¬e.Args.length≠w from fun h=>h hl),Option.bind_some]
   by_cases hc:(e.Kind=1∧(e.N < -9999999∨9999999<e.N))∨(2<e.Kind∧e.N≠0)
   ·rw [if_pos hc,decide_eq_true hc];rfl
   ·rw [if_neg hc,decide_eq_false hc,if_neg (by decide)]
    by_cases h2:e.Kind=2
    ·by_cases h3:e.N<0
     ·simp [h2,h3]
     ·by_cases h4:v≤e.N<;>simp [h2,h3,h4]
    ·simp [h2]
  ·rw [if_pos (show ((e.Args.length:Int) !=(w:Int))=true by simp;omega),if_pos (show e.Args.length≠w from hl)];rfl
 unfold qF
 by_cases h1:e.Kind<1
 ·rw [if_pos h1];simp [fF,h1]
 rw [if_neg h1]
 by_cases h7:7<e.Kind
 ·rw [if_pos h7];simp [fF,h7]
 rw [if_neg h7]
 by_cases h2:2<e.Kind
 ·rw [if_pos h2]
  exact d1 2 (by rw [if_pos h2]) (by omega)
 ·rw [if_neg h2]
  exact d1 0 (by rw [if_neg h2]) (by omega)
theorem KD(v:Int)(e:aE):kZ v (ko e)=if fF v e≠0 then fF v e else kZ v (e9 e.Args):=by rw [tJ,kZ]
theorem OZ(v:Int)(n:Nat):∀ (e:aE),sz e≤n→sz e≤15→(kt n).f_scope_parts e v=some (kZ v (ko e)):=by
 induction n with
 | zero=>intro e h;have:=wG e;omega
 | succ n ih=>
  intro e h h15
  show ob (kt n) e v=_
  unfold ob
  rw [OY,Option.bind_some,KD]
  have he:=Fy e
  have hlen:=Iq e.Args
  by_cases hp:fF v e=0
  ·rw [if_neg (by simp [hp]),if_neg (by simp [hp])]
   obtain ⟨x,hx,hQ⟩:=fU (B:=fun k=>mU (kt n) e v k) (fun k=>e.Args.length - k)
    (fun k=>k≤e.Args.length∧kZ v (e9 (e.Args.take k))=0) (fun x=>(match x with
     | .inl y=>y
     | .inr _=>0)=kZ v (e9 e.Args)) (by
     rintro k ⟨hk,hv⟩
     unfold mU
     by_cases hlt:k<e.Args.length
     ·rw [if_pos (by omega),List.getElem?_eq_getElem hlt,Option.bind_some,ih _ (by have:=yZ hlt;omega) (by have:=yZ hlt;omega),Option.bind_some]
      have hs:=Cc hlt
      have hf:=vX v (e9 (e.Args.take k)) (ko e.Args[k])
      rw [←hs,if_neg (by simp [hv])] at hf
      by_cases h0:kZ v (ko e.Args[k])=0
      ·rw [if_neg (by simp [h0]),if_pos (jR (by omega))]
       exact .inr ⟨_,rfl,⟨by omega,by rw [hf,h0]⟩,by omega⟩
      ·rw [if_pos (by simp [h0])]
       refine .inl ⟨_,rfl,?_⟩
       have hd:e9 e.Args=e9 (e.Args.take (k+1))++e9 (e.Args.drop (k+1)):=by rw [←tW,List.take_append_drop]
       rw [hd,vX,hf,if_pos h0]
     ·rw [if_neg (by omega)]
      have hl:e.Args.take k=e.Args:=List.take_of_length_le (by omega)
      rw [hl] at hv
      exact .inl ⟨_,rfl,hv.symm⟩) 0 ⟨Nat.zero_le _,by simp [e9,kZ]⟩
   rw [hx,Option.bind_some]
   rcases x with a | ⟨a,b⟩
   ·exact congrArg some hQ
   ·exact congrArg some hQ
  ·rw [if_pos (by simp [hp]),if_pos hp]
theorem MW{e:aE}{v:Int}(h:sz e≤15):sP e v=some (kZ v (ko e)):=vB (sz e) fun n hn=>OZ v n e hn h
def Oc(v:Int)(e:aE):Int:=if 15<sz e then 2 else kZ v (ko e)
theorem O0(e:aE)(v:Int):jD e v=some (Oc v e):=by
 unfold jD Oc
 rw [OX (by decide) (by decide),Option.bind_some]
 by_cases h:15<sz e
 ·rw [if_pos (by omega),if_pos h]
 ·rw [if_neg (by omega),if_neg h,MW (by omega)];rfl
theorem KE(n:Int):qI n=some (fk n):=by
 unfold qI fk
 by_cases h : -2147483648≤n<;>simp [h]
theorem MX(b:Bool):rL b=some (if b=true then 1 else 0):=by cases b<;>rfl
theorem Gq{n:Int} : fk n=true↔-2147483648≤n∧n≤2147483647:=by simp [fk]
theorem O1{a b:Int}(ha:fk a=true)(hb:fk b=true) : -4611686018427387904≤a*b∧a*b≤4611686018427387904:=by
 rw [Gq] at ha hb
 have h:(a*b).natAbs≤2147483648*2147483648:=by
  rw [Int.natAbs_mul]
  exact Nat.mul_le_mul (by omega) (by omega)
 omega
theorem Gr{e:aE}{k:Nat}(hk:k<e.Args.length){x:aE}(hx:x∈ko e.Args[k]):x∈ko e:=by
 rw [tJ]
 exact List.mem_cons_of_mem _ (EJ (List.getElem_mem hk) hx)
theorem O2{vs:List Int}(hv:∀ x∈vs,fk x=true)(n:Nat):∀ (e:aE),sz e≤n→(∀ x∈ko e,fF vs.length x=0)→(pw n).f_run_Value e vs=some (dt vs e):=by
 induction n with
 | zero=>intro e h;have:=wG e;omega
 | succ n ih=>
  intro e h hok
  show qH (pw n) e vs=_
  unfold qH fp
  have hp:fF vs.length e=0:=hok e (by rw [tJ];simp)
  obtain ⟨p1,p2,p3,p4,p5⟩:=Ba hp
  rw [Io,F6]
  unfold Oa
  by_cases k1:e.Kind=1
  ·rw [if_pos (by simp [k1]),if_pos k1]
  rw [if_neg (by simp [k1]),if_neg k1]
  by_cases k2:e.Kind=2
  ·have h3:=p5 k2
   have h4:e.N.toNat<vs.length:=by omega
   rw [if_pos (by simp [k2]),if_pos k2,cj h3.1,Option.bind_some,List.getElem?_eq_getElem h4,List.getD_eq_getElem?_getD,List.getElem?_eq_getElem h4];rfl
  rw [if_neg (by simp [k2]),if_neg k2]
  have hl:e.Args.length=2:=by rw [p2,if_pos (by omega)]
  have h0:0<e.Args.length:=by omega
  have h1:1<e.Args.length:=by omega
  have g0:=yZ h0
  have g1:=yZ h1
  have q0:∀ x∈ko e.Args[0],fF vs.length x=0:=fun x hx=>hok x (Gr h0 hx)
  have q1:∀ x∈ko e.Args[1],fF vs.length x=0:=fun x hx=>hok x (Gr h1 hx)
  have n0:=DA hv _ e.Args[0] (Nat.le_refl _) q0
  have n1:=DA hv _ e.Args[1] (Nat.le_refl _) q1
  rw [List.getElem?_eq_getElem h0,Option.bind_some,ih _ (by omega) q0,Option.bind_some,List.getElem?_eq_getElem h1,Option.bind_some,ih _ (by omega) q1,Option.bind_some]
  have e0:(e.Args.map (dt vs)).getD 0 0=dt vs e.Args[0]:=by rw [List.getD_eq_getElem?_getD,List.getElem?_map,List.getElem?_eq_getElem h0];rfl
  have e1:(e.Args.map (dt vs)).getD 1 0=dt vs e.Args[1]:=by rw [List.getD_eq_getElem?_getD,List.getElem?_map,List.getElem?_eq_getElem h1];rfl
  rw [e0,e1]
  generalize dt vs e.Args[0]=a at *
  generalize dt vs e.Args[1]=b at *
  have hm:=O1 n0 n1
  rw [Gq] at n0 n1
  have hww:∀ w,IntKind.i64.wrap (IntKind.i32.wrap w)=Im w:=fun w=>MS (Ac w)
  simp only [Option.bind_some,MX,hww]
  by_cases k3:e.Kind=3
  ·rw [if_pos (by simp [k3]),if_pos k3,if_pos (jQ (by omega) (by omega))]
  rw [if_neg (by simp [k3]),if_neg k3]
  by_cases k4:e.Kind=4
  ·rw [if_pos (by simp [k4]),if_pos k4,if_pos (jQ (by omega) (by omega))]
  rw [if_neg (by simp [k4]),if_neg k4]
  by_cases k5:e.Kind=5
  ·rw [if_pos (by simp [k5]),if_pos k5,if_pos (jQ (by omega) (by omega))]
  rw [if_neg (by simp [k5]),if_neg k5]
  by_cases k6:e.Kind=6
  ·rw [if_pos (by simp [k6]),if_pos k6]
   by_cases hab:a<b
   ·simp only [hab,decide_true,if_true];rfl
   ·simp only [hab,decide_false,if_false];rfl
  rw [if_neg (by simp [k6]),if_neg k6]
  have k7:e.Kind=7:=by omega
  rw [if_pos (by simp [k7]),if_pos k7]
  by_cases hab:a=b
  ·simp only [hab,beq_self_eq_true,if_true];rfl
  ·have:(a==b)=false:=by simp [hab]
   simp only [hab,this,if_false];rfl
theorem MY{vs:List Int}{e:aE}(hv:∀ x∈vs,fk x=true)(hok:∀ x∈ko e,fF vs.length x=0):k9 e vs=some (dt vs e):=
 vB (sz e) fun n hn=>O2 hv n e hn hok
end Go.Proofs.YtdpjofmmokaobaaGreat.A
