/- Runs: the document's comparing of runs, of equal ones. -/
import Derived.Test.YtndeklbmglgonaaGreatRunP
import Derived.Test.YtndeklbmglgonaaGreatB
set_option linter.unusedSectionVars false
set_option linter.unusedVariables false
set_option linter.unusedSimpArgs false
set_option linter.constructorNameAsVariable false
namespace Go.Proofs.YtndeklbmglgonaaGreat.A
open Go
variable [Lp]
theorem C4{a:List Event}(h:a.length≤9223372036854775807):nL a a=some true:=by
 unfold nL
 rw [if_neg (by simp)]
 have:=Jw (B:=fun v=>jl a a v) a.length (fun k=>k) (x:=.inr (a.length,false)) (fun k hk=>by
  unfold jl
  rw [if_pos (by omega),List.getElem?_eq_getElem hk,Option.bind_some,Option.bind_some,if_pos (by simp),if_pos (dz (by omega))]) (by
  unfold jl
  rw [if_neg (by omega),decide_eq_false (by omega)])
 rw [this];rfl
theorem wI{a:List Int}(h:a.length≤9223372036854775807):mV a a=some true:=by
 unfold mV
 rw [if_neg (by simp)]
 have:=Jw (B:=fun v=>kL a a v) a.length (fun k=>k) (x:=.inr (a.length,false)) (fun k hk=>by
  unfold kL
  rw [if_pos (by omega),List.getElem?_eq_getElem hk,Option.bind_some,Option.bind_some,if_neg (by simp),if_pos (dz (by omega))]) (by
  unfold kL
  rw [if_neg (by omega),decide_eq_false (by omega)])
 rw [this];rfl
theorem yS{r:RunT}(h1:r.Events.length≤9223372036854775807)(h2:r.Vars.length≤9223372036854775807)(h3:r.Taken.length≤9223372036854775807):qQ r r=some true:=by
 unfold qQ qz iR
 rw [C4 h1,wI h2,wI h3]
 simp
theorem HA{p:Program}{ins:List (List Int)}{fuel:Int}(h:jR p ins fuel=0){r:RunT}(hr:Comes (gd p ins fuel) (CB p) r):Kept p.Vars.length p.Ins.length r∧r.Events.length≤2000∧p.Vars.length≤16∧p.Ins.length≤5∧(r.End=1∨r.End=2):=by
 have hX:=Gc h
 have hf:=hX.fuel
 obtain ⟨k1,k2,k3⟩:=hr.kept (JJ p) (by show (0:Int)≤_;omega)
 have:=k1.evs
 exact ⟨k1,by omega,hX.ok.vars,hX.ok.ins,k3⟩
end Go.Proofs.YtndeklbmglgonaaGreat.A
