/- Runs: the document's comparing of runs, of equal ones. -/
import Derived.Test.YtdpjofmmokaobaaGreatRunP
import Derived.Test.YtdpjofmmokaobaaGreatB
set_option linter.unusedSectionVars false
set_option linter.unusedVariables false
set_option linter.unusedSimpArgs false
namespace Go.Proofs.YtdpjofmmokaobaaGreat.A
open Go
variable [Lp]
theorem vI{a:List Event}(h:a.length≤9223372036854775807):lR a a=some true:=by
 unfold lR
 rw [if_neg (by simp)]
 have:=qC (B:=fun v=>jX a a v) a.length (fun k=>k) (x:=.inr (a.length,false)) (fun k hk=>by
  unfold jX
  rw [if_pos (by omega),List.getElem?_eq_getElem hk,Option.bind_some,Option.bind_some,if_pos (by simp),if_pos (jR (by omega))]) (by
  unfold jX
  rw [if_neg (by omega),decide_eq_false (by omega)])
 rw [this];rfl
theorem yA{a:List Int}(h:a.length≤9223372036854775807):nT a a=some true:=by
 unfold nT
 rw [if_neg (by simp)]
 have:=qC (B:=fun v=>lS a a v) a.length (fun k=>k) (x:=.inr (a.length,false)) (fun k hk=>by
  unfold lS
  rw [if_pos (by omega),List.getElem?_eq_getElem hk,Option.bind_some,Option.bind_some,if_neg (by simp),if_pos (jR (by omega))]) (by
  unfold lS
  rw [if_neg (by omega),decide_eq_false (by omega)])
 rw [this];rfl
theorem GR{r:RunT}(h1:r.Events.length≤9223372036854775807)(h2:r.Vars.length≤9223372036854775807)(h3:r.Taken.length≤9223372036854775807):rW r r=some true:=by
 unfold rW rE jA
 rw [vI h1,yA h2,yA h3]
 simp
theorem HU{p:Program}{ins:List (List Int)}{fuel:Int}(h:lP p ins fuel=0){r:RunT}(hr:Comes (eh p ins fuel) (Gx p) r):Kept p.Vars.length p.Ins.length r∧r.Events.length≤2000∧p.Vars.length≤16∧p.Ins.length≤5∧(r.End=1∨r.End=2):=by
 have hX:=GA h
 have hf:=hX.fuel
 obtain ⟨k1,k2,k3⟩:=hr.kept (KJ p) (by show (0:Int)≤_;omega)
 have:=k1.evs
 exact ⟨k1,by omega,hX.ok.vars,hX.ok.ins,k3⟩
end Go.Proofs.YtdpjofmmokaobaaGreat.A
