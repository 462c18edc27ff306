/- ShowSame's function, whatever two trees it is handed. -/
import Derived.Test.YtkmmjfjikmeidaaGreatDoorShowP
import Derived.Test.YtkmmjfjikmeidaaGreatDoorFL
import Derived.Test.YtkmmjfjikmeidaaGreatDoorDec
set_option linter.unusedSectionVars false
set_option linter.unusedVariables false
set_option linter.unusedSimpArgs false
namespace Go.Proofs.YtkmmjfjikmeidaaGreatDoor.A
open Go
theorem lnE : ∀ {x : TreeExpr}, V_TreeExpr x → LnE x
  | _, .mk x _ _ _ _ h g => .mk x h fun y hy => lnE (g y hy)
theorem lnS : ∀ {x : TreeStmt}, V_TreeStmt x → LnS x
  | _, .mk x _ _ _ _ e a t gt l gl => .mk x (lnE e) a.1 (fun y hy => lnE (a.2 y hy)) t (fun y hy => lnS (gt y hy)) l (fun y hy => lnS (gl y hy))
theorem lnD {x : TreeDecl} (h : V_TreeDecl x) : LnD x := by
  obtain ⟨_, _, _, _, _, h1, h2, h3, h4⟩ := h
  exact ⟨h1.1, fun p hp => (h1.2 p hp).2.2.2.1, h2.1, h3.1, fun y hy => lnS (h3.2 y hy), lnE h4⟩
theorem lnT {x : Tree} (h : V_Tree x) : LnT x := ⟨h.1.1, fun d hd => lnD (h.1.2 d hd), h.2.1, fun s hs => lnS (h.2.2 s hs)⟩
variable [Lp]
theorem showSame_is (t u : Tree) (h : LnT t) : F_L_ShowSame t u = some true := by
  unfold F_L_ShowSame F_L_showBegun
  simp only [Option.bind_some, if_true, Same_is _ _ h, SameTree_is _ _ h, seT_refl, beq_self_eq_true]
end Go.Proofs.YtkmmjfjikmeidaaGreatDoor.A
