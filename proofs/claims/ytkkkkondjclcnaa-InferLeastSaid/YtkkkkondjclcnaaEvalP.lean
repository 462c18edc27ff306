/- Expressions: the program's functions answer as plain mathematics says. -/
import Derived.Test.YtkkkkondjclcnaaEvalS
import Derived.Test.YtkkkkondjclcnaaFE
set_option linter.unusedSectionVars false
set_option linter.unusedVariables false
set_option linter.unusedSimpArgs false
set_option linter.constructorNameAsVariable false
namespace Go.Proofs.Ytkkkkondjclcnaa.A
open Go
variable [Lp]
def HQ{β γ:Type} : (Int×β)⊕(Int×γ)→Int
 | .inl p=>p.1
 | .inr p=>p.1
theorem A0{n:Int}(h1 : -9223372036854775808≤n)(h2:n≤9223372036854775807):IntKind.i64.wrap n=n:=wrap64 (by omega) (by omega)
theorem pZ{k:Nat}(h:k<9223372036854775807):IntKind.i64.wrap ((k:Int)+1)=((k+1:Nat):Int):=pc k h
theorem Mx(n:Nat):∀ (e:aw)(m:Int),sz e≤n→0≤m→m≤15→(js n).f_scope_size e m=some (min (sz e:Int) (m+1)):=by
 induction n with
 | zero=>intro e m h;have:=yB e;omega
 | succ n ih=>
  intro e m h hm hm15
  show nv (js n) e m=_
  unfold nv
  have he:=B0 e
  obtain ⟨x,hx,hQ⟩:=oh (B:=fun v=>l9 (js n) e m v.1 v.2) (fun v=>e.Args.length - v.2)
   (fun v=>v.2≤e.Args.length∧v.1=min (1+(nW (e.Args.take v.2):Int)) (m+1)∧(v.2:Int)<v.1+1) (fun x=>HQ x=min (sz e:Int) (m+1)) (by
    rintro ⟨v,k⟩ ⟨hk,hv,hkv⟩
    simp only at hk hv hkv ⊢
    have ht:=HL e.Args k
    unfold l9
    by_cases hlt:k<e.Args.length
    ·rw [if_pos (by omega),List.getElem?_eq_getElem hlt,Option.bind_some]
     by_cases hmv:m<v
     ·rw [if_pos hmv]
      exact .inl ⟨_,rfl,by simp only [HQ];omega⟩
     ·rw [if_neg hmv,if_pos (A0 (by omega) (by omega)),ih _ _ (by have:=Cr hlt;omega) (by omega) (by omega),Option.bind_some]
      have hs:=Bt hlt
      have hp:=yB e.Args[k]
      rw [if_pos (A0 (by omega) (by omega)),if_pos (pZ (by omega))]
      exact .inr ⟨_,rfl,⟨by simp only;omega,by simp only;omega,by simp only;omega⟩,by simp only;omega⟩
    ·rw [if_neg (by omega)]
     have hl:e.Args.take k=e.Args:=List.take_of_length_le (by omega)
     rw [hl] at hv
     exact .inl ⟨_,rfl,by simp only [HQ];omega⟩) (1,0) ⟨Nat.zero_le _,by simp [nW];omega,by simp⟩
  rw [hx,Option.bind_some]
  rcases x with ⟨a,b,c,d⟩ | ⟨a,b,c⟩
  ·exact congrArg some hQ
  ·exact congrArg some hQ
theorem J7{e:aw}{m:Int}(h0:0≤m)(h:m≤15):qX e m=some (min (sz e:Int) (m+1)):=
 BZ (sz e) fun n hn=>Mx n e m hn h0 h
theorem J8(e:aw)(v:Int):oo e v=some (ja v e):=by
 have j1:∀ w:Nat,w=(if 2<e.Kind then 2 else 0)→kA e v w=some (decide ((e.Kind=1∧(e.N < -9999999∨9999999<e.N))∨(2<e.Kind∧e.N≠0))):=by
  intro w hw
  unfold kA dQ
  by_cases h2:2<e.Kind
  ·rw [if_pos h2] at hw
   subst hw
   have h1:¬e.Kind=1:=by omega
   by_cases hn:e.N=0<;>simp [h1,h2,hn]
  ·rw [if_neg h2] at hw
   subst hw
   by_cases h1:e.Kind=1
   ·by_cases h3:e.N < -9999999
    ·simp [h1,h3]
    ·by_cases h4:9999999<e.N<;>simp [h1,h3,h4]
   ·simp [h1,h2]
 have d1:∀ w:Nat,w=(if 2<e.Kind then 2 else 0)→¬(e.Kind<1∨7<e.Kind)→((iK e v w).bind fun (x4:(Unit⊕(Unit⊕(Unit⊕Unit))))=>match x4 with
   | .inl ()=>some (1:Int)
   | .inr (.inl ())=>some 3
   | .inr (.inr (.inl ()))=>some 5
   | .inr (.inr (.inr ()))=>some 0)=some (ja v e):=by
  intro w hw hk
  unfold iK ja
  rw [if_neg hk,←hw]
  by_cases hl:e.Args.length=w
  ·rw [j1 w hw,if_neg (show ¬((e.Args.length:Int) !=(w:Int))=true by simp [hl]),if_neg (show ¬e.Args.length≠w from fun h=>h hl),Option.bind_some]
   by_cases hc:(e.Kind=1∧(e.N < -9999999∨9999999<e.N))∨(2<e.Kind∧e.N≠0)
   ·rw [if_pos hc,decide_eq_true hc];rfl
   ·rw [if_neg hc,decide_eq_false hc,if_neg (by decide)]
    by_cases h2:e.Kind=2
    ·by_cases h3:e.N<0
     ·simp [h2,h3]
     ·by_cases h4:v≤e.N<;>simp [h2,h3,h4]
    ·simp [h2]
  ·rw [if_pos (show ((e.Args.length:Int) !=(w:Int))=true by simp;omega),if_pos (show e.Args.length≠w from hl)];rfl
 unfold oo
 by_cases h1:e.Kind<1
 ·rw [if_pos h1];simp [ja,h1]
 rw [if_neg h1]
 by_cases h7:7<e.Kind
 ·rw [if_pos h7];simp [ja,h7]
 rw [if_neg h7]
 by_cases h2:2<e.Kind
 ·rw [if_pos h2]
  exact d1 2 (by rw [if_pos h2]) (by omega)
 ·rw [if_neg h2]
  exact d1 0 (by rw [if_neg h2]) (by omega)
theorem Gr(v:Int)(e:aw):iX v (oj e)=if ja v e≠0 then ja v e else iX v (ew e.Args):=by rw [zO,iX]
theorem J9(v:Int)(n:Nat):∀ (e:aw),sz e≤n→sz e≤15→(ix n).f_scope_parts e v=some (iX v (oj e)):=by
 induction n with
 | zero=>intro e h;have:=yB e;omega
 | succ n ih=>
  intro e h h15
  show ma (ix n) e v=_
  unfold ma
  rw [J8,Option.bind_some,Gr]
  have he:=B0 e
  have hlen:=Em e.Args
  by_cases hp:ja v e=0
  ·rw [if_neg (by simp [hp]),if_neg (by simp [hp])]
   obtain ⟨x,hx,hQ⟩:=oh (B:=fun k=>kB (ix n) e v k) (fun k=>e.Args.length - k)
    (fun k=>k≤e.Args.length∧iX v (ew (e.Args.take k))=0) (fun x=>(match x with
     | .inl y=>y
     | .inr _=>0)=iX v (ew e.Args)) (by
     rintro k ⟨hk,hv⟩
     unfold kB
     by_cases hlt:k<e.Args.length
     ·rw [if_pos (by omega),List.getElem?_eq_getElem hlt,Option.bind_some,ih _ (by have:=Cr hlt;omega) (by have:=Cr hlt;omega),Option.bind_some]
      have hs:=yC hlt
      have hf:=sJ v (ew (e.Args.take k)) (oj e.Args[k])
      rw [←hs,if_neg (by simp [hv])] at hf
      by_cases h0:iX v (oj e.Args[k])=0
      ·rw [if_neg (by simp [h0]),if_pos (pZ (by omega))]
       exact .inr ⟨_,rfl,⟨by omega,by rw [hf,h0]⟩,by omega⟩
      ·rw [if_pos (by simp [h0])]
       refine .inl ⟨_,rfl,?_⟩
       have hd:ew e.Args=ew (e.Args.take (k+1))++ew (e.Args.drop (k+1)):=by rw [←qT,List.take_append_drop]
       rw [hd,sJ,hf,if_pos h0]
     ·rw [if_neg (by omega)]
      have hl:e.Args.take k=e.Args:=List.take_of_length_le (by omega)
      rw [hl] at hv
      exact .inl ⟨_,rfl,hv.symm⟩) 0 ⟨Nat.zero_le _,by simp [ew,iX]⟩
   rw [hx,Option.bind_some]
   rcases x with a | ⟨a,b⟩
   ·exact congrArg some hQ
   ·exact congrArg some hQ
  ·rw [if_pos (by simp [hp]),if_pos hp]
theorem HR{e:aw}{v:Int}(h:sz e≤15):pW e v=some (iX v (oj e)):=BZ (sz e) fun n hn=>J9 v n e hn h
def Jy(v:Int)(e:aw):Int:=if 15<sz e then 2 else iX v (oj e)
theorem Ka(e:aw)(v:Int):gR e v=some (Jy v e):=by
 unfold gR Jy
 rw [J7 (by decide) (by decide),Option.bind_some]
 by_cases h:15<sz e
 ·rw [if_pos (by omega),if_pos h]
 ·rw [if_neg (by omega),if_neg h,HR (by omega)];rfl
end Go.Proofs.Ytkkkkondjclcnaa.A
