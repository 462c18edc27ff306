/- Watched runs: what is known never has a level that does not flow to its label's. -/
import Derived.Test.YtdpjofmmokaobaaGreatWatS
import Derived.Test.YtdpjofmmokaobaaGreatFL
set_option linter.unusedSectionVars false
set_option linter.unusedVariables false
set_option linter.unusedSimpArgs false
set_option linter.constructorNameAsVariable false
namespace Go.Proofs.YtdpjofmmokaobaaGreat.A
open Go
variable [Lp]
theorem Sj{a:af}(h:de a=0){l m:Level}(hl:dv a.Many.toNat l)(hm:dv a.Many.toNat m):qH a [l,m]=0:=by
 obtain ⟨m1,m2,m3⟩:=wJ h
 have s1:ma a l=true:=by unfold ma;exact decide_eq_true ⟨by rw [hl.1];exact m3,by rw [hl.2];exact m3⟩
 have s2:ma a m=true:=by unfold ma;exact decide_eq_true ⟨by rw [hm.1];exact m3,by rw [hm.2];exact m3⟩
 unfold qH
 rw [if_neg (by simp [h])]
 simp [s1,s2]
theorem DB(p:Program)(ins:List (List Int))(fuel:Int)(hp:∀ f∈p.Funcs,f.Params.length≤9223372036854775807):rr p ins fuel=some true:=by
 unfold rr
 have hb:q9=some true:=rfl
 have hb2:ra=some true:=rfl
 obtain ⟨a1,a2⟩:=Mm (ins:=ins) (fuel:=fuel) hp
 by_cases hx:pj p ins fuel=0
 rotate_left
 ·rw [a1 hx,hb,hb2]
  simp [hx]
 obtain ⟨r,vs,e1,⟨pl,hw⟩,_⟩:=a2 hx
 have hX:=JZ hx
 have hok:fV p=0:=by
  unfold pj at hx
  by_cases h1:fV p=0
  ·exact h1
  ·rw [if_pos h1] at hx;exact absurd hx h1
 have hL:nG p:=J6 hok
 have hv16:p.Vars.length≤16:=hX.ok.vars
 have hlen:=hw.len
 rw [e1,hb,hb2]
 simp only [Option.bind_some,if_true,bne_self_eq_false,Bool.false_eq_true,if_false]
 rw [if_neg (by simp [hlen])]
 have:=rV (B:=fun v=>jM p (r,vs,0) v) vs.length (fun k=>k) (x:=(vs.length,false)) (fun k hk=>by
  have hk2:k<p.Vars.length:=by omega
  unfold jM
  rw [if_pos (show ((k:Nat):Int)<(((r,vs,(0:Int)):RunT×List Level×Int).2.1.length:Int) by show (k:Int)<(vs.length:Int);omega),List.getElem?_eq_getElem hk2,Option.bind_some]
  split
  ·rename_i hkn
   have hlab:=hL.vars _ (List.getElem_mem hk2)
   have hle:sg p.af p.Vars[k].Label=0:=by
    unfold sg
    rw [if_neg (by simp [hL.gh])];exact hlab
   have s1:=hw.sz _ (List.getElem_mem hk)
   have s2:=pw p.af p.Vars[k].Label
   have hu:=hw.known k _ _ (List.getElem?_eq_getElem hk2) hkn (List.getElem?_eq_getElem hk)
   rw [N7,Option.bind_some,if_pos hle]
   simp only
   rw [List.getElem?_eq_getElem hk,Option.bind_some,Ob,Option.bind_some,if_pos (Sj hL.gh s1 s2)]
   simp only
   rw [if_neg (by simp),if_neg (by simp),if_pos hu,if_pos (jZ (by omega))]
  ·rw [if_pos (jZ (by omega))]) (by
  unfold jM
  simp only
  rw [if_neg (by omega)]
  exact congrArg (fun z=>some (Sum.inr (vs.length,z))) (decide_eq_false (Int.lt_irrefl _)))
 rw [this];rfl
end Go.Proofs.YtdpjofmmokaobaaGreat.A
