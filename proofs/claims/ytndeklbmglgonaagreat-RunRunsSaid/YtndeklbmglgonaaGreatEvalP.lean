/- Expressions: the program's functions answer as plain mathematics says. -/
import Derived.Test.YtndeklbmglgonaaGreatEvalS
import Derived.Test.YtndeklbmglgonaaGreatFE
set_option linter.unusedSectionVars false
set_option linter.unusedVariables false
set_option linter.unusedSimpArgs false
set_option linter.constructorNameAsVariable false
namespace Go.Proofs.YtndeklbmglgonaaGreat.A
open Go
variable [Lp]
def KG{β γ:Type} : (Int×β)⊕(Int×γ)→Int
 | .inl p=>p.1
 | .inr p=>p.1
theorem dq{n:Int}(h1 : -9223372036854775808≤n)(h2:n≤9223372036854775807):IntKind.i64.wrap n=n:=wrap64 (by omega) (by omega)
theorem dz{k:Nat}(h:k<9223372036854775807):IntKind.i64.wrap ((k:Int)+1)=((k+1:Nat):Int):=sg k h
theorem Qy(n:Nat):∀ (e:ag)(m:Int),sz e≤n→0≤m→m≤15→(kD n).f_scope_size e m=some (min (sz e:Int) (m+1)):=by
 induction n with
 | zero=>intro e m h;have:=ou e;omega
 | succ n ih=>
  intro e m h hm hm15
  show oK (kD n) e m=_
  unfold oK
  have he:=zk e
  obtain ⟨x,hx,hQ⟩:=de (B:=fun v=>m8 (kD n) e m v.1 v.2) (fun v=>e.Args.length - v.2)
   (fun v=>v.2≤e.Args.length∧v.1=min (1+(lA (e.Args.take v.2):Int)) (m+1)∧(v.2:Int)<v.1+1) (fun x=>KG x=min (sz e:Int) (m+1)) (by
    rintro ⟨v,k⟩ ⟨hk,hv,hkv⟩
    simp only at hk hv hkv ⊢
    have ht:=vC e.Args k
    unfold m8
    by_cases hlt:k<e.Args.length
    ·rw [if_pos (by omega),List.getElem?_eq_getElem hlt,Option.bind_some]
     by_cases hmv:m<v
     ·rw [if_pos hmv]
      exact .inl ⟨_,rfl,by simp only [KG];omega⟩
     ·rw [if_neg hmv,if_pos (dq (by omega) (by omega)),ih _ _ (by have:=ov hlt;omega) (by omega) (by omega),Option.bind_some]
      have hs:=rz hlt
      have hp:=ou e.Args[k]
      rw [if_pos (dq (by omega) (by omega)),if_pos (dz (by omega))]
      exact .inr ⟨_,rfl,⟨by simp only;omega,by simp only;omega,by simp only;omega⟩,by simp only;omega⟩
    ·rw [if_neg (by omega)]
     have hl:e.Args.take k=e.Args:=List.take_of_length_le (by omega)
     rw [hl] at hv
     exact .inl ⟨_,rfl,by simp only [KG];omega⟩) (1,0) ⟨Nat.zero_le _,by simp [lA];omega,by simp⟩
  rw [hx,Option.bind_some]
  rcases x with ⟨a,b,c,d⟩ | ⟨a,b,c⟩
  ·exact congrArg some hQ
  ·exact congrArg some hQ
theorem MW{e:ag}{m:Int}(h0:0≤m)(h:m≤15):sO e m=some (min (sz e:Int) (m+1)):=
 m7 (sz e) fun n hn=>Qy n e m hn h0 h
theorem MX(e:ag)(v:Int):pE e v=some (df v e):=by
 have j1:∀ w:Nat,w=(if 2<e.Kind then 2 else 0)→lU e v w=some (decide ((e.Kind=1∧(e.N < -9999999∨9999999<e.N))∨(2<e.Kind∧e.N≠0))):=by
  intro w hw
  unfold lU eP
  by_cases h2:2<e.Kind
  ·rw [if_pos h2] at hw
   subst hw
   have h1:¬e.Kind=1:=by omega
   by_cases hn:e.N=0<;>simp [h1,h2,hn]
  ·rw [if_neg h2] at hw
   subst hw
   by_cases h1:e.Kind=1
   ·by_cases h3:e.N < -9999999
    ·simp [h1,h3]
    ·by_cases h4:9999999<e.N<;>simp [h1,h3,h4]
   ·simp [h1,h2]
 have d1:∀ w:Nat,w=(if 2<e.Kind then 2 else 0)→¬(e.Kind<1∨7<e.Kind)→((jJ e v w).bind fun (x4:(Unit⊕(Unit⊕(Unit⊕Unit))))=>match x4 with
   | .inl ()=>some (1:Int)
   | .inr (.inl ())=>some 3
   | .inr (.inr (.inl ()))=>some 5
   | .inr (.inr (.inr ()))=>some 0)=some (df v e):=by
  intro w hw hk
  unfold jJ df
  rw [if_neg hk,←hw]
  by_cases hl:e.Args.length=w
  ·rw [j1 w hw,if_neg (show ¬((e.Args.length:Int) !=(w:Int))=true by simp [hl]),if_neg (show ¬e.Args.length≠w from fun h=>h hl),Option.bind_some]
   by_cases hc:(e.Kind=1∧(e.N < -9999999∨9999999<e.N))∨(2<e.Kind∧e.N≠0)
   ·rw [if_pos hc,decide_eq_true hc];rfl
   ·rw [if_neg hc,decide_eq_false hc,if_neg (by decide)]
    by_cases h2:e.Kind=2
    ·by_cases h3:e.N<0
     ·simp [h2,h3]
     ·by_cases h4:v≤e.N<;>simp [h2,h3,h4]
    ·simp [h2]
  ·rw [if_pos (show ((e.Args.length:Int) !=(w:Int))=true by simp;omega),if_pos (show e.Args.length≠w from hl)];rfl
 unfold pE
 by_cases h1:e.Kind<1
 ·rw [if_pos h1];simp [df,h1]
 rw [if_neg h1]
 by_cases h7:7<e.Kind
 ·rw [if_pos h7];simp [df,h7]
 rw [if_neg h7]
 by_cases h2:2<e.Kind
 ·rw [if_pos h2]
  exact d1 2 (by rw [if_pos h2]) (by omega)
 ·rw [if_neg h2]
  exact d1 0 (by rw [if_neg h2]) (by omega)
theorem JD(v:Int)(e:ag):gj v (fi e)=if df v e≠0 then df v e else gj v (ez e.Args):=by rw [sv,gj]
theorem MY(v:Int)(n:Nat):∀ (e:ag),sz e≤n→sz e≤15→(jA n).f_scope_parts e v=some (gj v (fi e)):=by
 induction n with
 | zero=>intro e h;have:=ou e;omega
 | succ n ih=>
  intro e h h15
  show m9 (jA n) e v=_
  unfold m9
  rw [MX,Option.bind_some,JD]
  have he:=zk e
  have hlen:=Dw e.Args
  by_cases hp:df v e=0
  ·rw [if_neg (by simp [hp]),if_neg (by simp [hp])]
   obtain ⟨x,hx,hQ⟩:=de (B:=fun k=>lV (jA n) e v k) (fun k=>e.Args.length - k)
    (fun k=>k≤e.Args.length∧gj v (ez (e.Args.take k))=0) (fun x=>(match x with
     | .inl y=>y
     | .inr _=>0)=gj v (ez e.Args)) (by
     rintro k ⟨hk,hv⟩
     unfold lV
     by_cases hlt:k<e.Args.length
     ·rw [if_pos (by omega),List.getElem?_eq_getElem hlt,Option.bind_some,ih _ (by have:=ov hlt;omega) (by have:=ov hlt;omega),Option.bind_some]
      have hs:=tR hlt
      have hf:=uq v (ez (e.Args.take k)) (fi e.Args[k])
      rw [←hs,if_neg (by simp [hv])] at hf
      by_cases h0:gj v (fi e.Args[k])=0
      ·rw [if_neg (by simp [h0]),if_pos (dz (by omega))]
       exact .inr ⟨_,rfl,⟨by omega,by rw [hf,h0]⟩,by omega⟩
      ·rw [if_pos (by simp [h0])]
       refine .inl ⟨_,rfl,?_⟩
       have hd:ez e.Args=ez (e.Args.take (k+1))++ez (e.Args.drop (k+1)):=by rw [←sK,List.take_append_drop]
       rw [hd,uq,hf,if_pos h0]
     ·rw [if_neg (by omega)]
      have hl:e.Args.take k=e.Args:=List.take_of_length_le (by omega)
      rw [hl] at hv
      exact .inl ⟨_,rfl,hv.symm⟩) 0 ⟨Nat.zero_le _,by simp [ez,gj]⟩
   rw [hx,Option.bind_some]
   rcases x with a | ⟨a,b⟩
   ·exact congrArg some hQ
   ·exact congrArg some hQ
  ·rw [if_pos (by simp [hp]),if_pos hp]
theorem KH{e:ag}{v:Int}(h:sz e≤15):rD e v=some (gj v (fi e)):=m7 (sz e) fun n hn=>MY v n e hn h
def zn(v:Int)(e:ag):Int:=if 15<sz e then 2 else gj v (fi e)
theorem MZ(e:ag)(v:Int):iV e v=some (zn v e):=by
 unfold iV zn
 rw [MW (by decide) (by decide),Option.bind_some]
 by_cases h:15<sz e
 ·rw [if_pos (by omega),if_pos h]
 ·rw [if_neg (by omega),if_neg h,KH (by omega)];rfl
theorem JE(n:Int):pH n=some (dk n):=by
 unfold pH dk
 by_cases h : -2147483648≤n<;>simp [h]
theorem KI(b:Bool):qH b=some (if b=true then 1 else 0):=by cases b<;>rfl
theorem A9{n:Int} : dk n=true↔-2147483648≤n∧n≤2147483647:=by simp [dk]
theorem H6{a b:Int}(ha:dk a=true)(hb:dk b=true) : -4611686018427387904≤a*b∧a*b≤4611686018427387904:=by
 rw [A9] at ha hb
 have h:(a*b).natAbs≤2147483648*2147483648:=by
  rw [Int.natAbs_mul]
  exact Nat.mul_le_mul (by omega) (by omega)
 omega
theorem vT{e:ag}{k:Nat}(hk:k<e.Args.length){x:ag}(hx:x∈fi e.Args[k]):x∈fi e:=by
 rw [sv]
 exact List.mem_cons_of_mem _ (Ez (List.getElem_mem hk) hx)
theorem M0{vs:List Int}(hv:∀ x∈vs,dk x=true)(n:Nat):∀ (e:ag),sz e≤n→(∀ x∈fi e,df vs.length x=0)→(ox n).f_run_Value e vs=some (bK vs e):=by
 induction n with
 | zero=>intro e h;have:=ou e;omega
 | succ n ih=>
  intro e h hok
  show pG (ox n) e vs=_
  unfold pG e8
  have hp:df vs.length e=0:=hok e (by rw [sv];simp)
  obtain ⟨p1,p2,p3,p4,p5⟩:=AM hp
  rw [Dv,AK]
  unfold Jy
  by_cases k1:e.Kind=1
  ·rw [if_pos (by simp [k1]),if_pos k1]
  rw [if_neg (by simp [k1]),if_neg k1]
  by_cases k2:e.Kind=2
  ·have h3:=p5 k2
   have h4:e.N.toNat<vs.length:=by omega
   rw [if_pos (by simp [k2]),if_pos k2,cQ h3.1,Option.bind_some,List.getElem?_eq_getElem h4,List.getD_eq_getElem?_getD,List.getElem?_eq_getElem h4];rfl
  rw [if_neg (by simp [k2]),if_neg k2]
  have hl:e.Args.length=2:=by rw [p2,if_pos (by omega)]
  have h0:0<e.Args.length:=by omega
  have h1:1<e.Args.length:=by omega
  have g0:=ov h0
  have g1:=ov h1
  have q0:∀ x∈fi e.Args[0],df vs.length x=0:=fun x hx=>hok x (vT h0 hx)
  have q1:∀ x∈fi e.Args[1],df vs.length x=0:=fun x hx=>hok x (vT h1 hx)
  have n0:=sA hv _ e.Args[0] (Nat.le_refl _) q0
  have n1:=sA hv _ e.Args[1] (Nat.le_refl _) q1
  rw [List.getElem?_eq_getElem h0,Option.bind_some,ih _ (by omega) q0,Option.bind_some,List.getElem?_eq_getElem h1,Option.bind_some,ih _ (by omega) q1,Option.bind_some]
  have e0:(e.Args.map (bK vs)).getD 0 0=bK vs e.Args[0]:=by rw [List.getD_eq_getElem?_getD,List.getElem?_map,List.getElem?_eq_getElem h0];rfl
  have e1:(e.Args.map (bK vs)).getD 1 0=bK vs e.Args[1]:=by rw [List.getD_eq_getElem?_getD,List.getElem?_map,List.getElem?_eq_getElem h1];rfl
  rw [e0,e1]
  generalize bK vs e.Args[0]=a at *
  generalize bK vs e.Args[1]=b at *
  have hm:=H6 n0 n1
  rw [A9] at n0 n1
  have hww:∀ w,IntKind.i64.wrap (IntKind.i32.wrap w)=xL w:=fun w=>KE (zl w)
  simp only [Option.bind_some,KI,hww]
  by_cases k3:e.Kind=3
  ·rw [if_pos (by simp [k3]),if_pos k3,if_pos (dq (by omega) (by omega))]
  rw [if_neg (by simp [k3]),if_neg k3]
  by_cases k4:e.Kind=4
  ·rw [if_pos (by simp [k4]),if_pos k4,if_pos (dq (by omega) (by omega))]
  rw [if_neg (by simp [k4]),if_neg k4]
  by_cases k5:e.Kind=5
  ·rw [if_pos (by simp [k5]),if_pos k5,if_pos (dq (by omega) (by omega))]
  rw [if_neg (by simp [k5]),if_neg k5]
  by_cases k6:e.Kind=6
  ·rw [if_pos (by simp [k6]),if_pos k6]
   by_cases hab:a<b
   ·simp only [hab,decide_true,if_true];rfl
   ·simp only [hab,decide_false,if_false];rfl
  rw [if_neg (by simp [k6]),if_neg k6]
  have k7:e.Kind=7:=by omega
  rw [if_pos (by simp [k7]),if_pos k7]
  by_cases hab:a=b
  ·simp only [hab,beq_self_eq_true,if_true];rfl
  ·have:(a==b)=false:=by simp [hab]
   simp only [hab,this,if_false];rfl
theorem KJ{vs:List Int}{e:ag}(hv:∀ x∈vs,dk x=true)(hok:∀ x∈fi e,df vs.length x=0):km e vs=some (bK vs e):=
 m7 (sz e) fun n hn=>M0 hv n e hn hok
end Go.Proofs.YtndeklbmglgonaaGreat.A
