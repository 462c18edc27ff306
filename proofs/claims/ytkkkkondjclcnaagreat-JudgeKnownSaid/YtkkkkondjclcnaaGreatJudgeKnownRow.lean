/- JudgeKnown: the row of the law, from what its abstract run says. -/
import Derived.Test.YtkkkkondjclcnaaGreatTabB
import Derived.Test.YtkkkkondjclcnaaGreatDec
set_option linter.unusedSectionVars false
set_option linter.unusedVariables false
set_option linter.unusedSimpArgs false
namespace Go.Proofs.YtkkkkondjclcnaaGreat.A
open Go Go.Proofs Go.ChangeShapes Go.WideShapes Go.ChangeAt Go.RowKit
theorem acF:ownKnob Tryz.prog.godebug=none:=by kernel_rfl
def S6:List TypeId:=[31,24,25,26,27,28,29,3,22,81,83,101,92,166,79,4,37,35,138]
set_option maxRecDepth 100000 in
theorem Sa(hc:∀ ys,nU ys→call G Ω0 ⟨0,false⟩ 6 ys (fun _=>none)=some (.ret (.b true),fun _=>none))(os:Os)(started:os.Started)(H:Type)(enc:TypeId×Value→H) :
  ReturnsInHanded {} Tryz.checked os 6 .any (Rows.judgeKnownSpec.pre6 enc Tryz.prog Tryz.f6 Rows.judgeKnownRow.domain false) (Rows.judgeKnownSpec.post enc Tryz.prog Tryz.f6 false true false false):=by
 refine returnsInHanded_of_change (C:=Tryz.checked) acF started (by kernel_rfl) Tryz.func6
  (ChangeSpec.witness6 (enc:=enc) (C:=Tryz.checked) false ⟨#[],#[.agg #[.int .i64 0,.slice none 0 0,.slice none 0 0,.slice none 0 0,.slice none 0 0,.slice none 0 0,.slice none 0 0,.slice none 0 0]],[]⟩ 8 (by kernel_rfl) (by kernel_rfl) (by kernel_rfl) (by kernel_rfl)) ?_
 intro W base args ds gs before hval hW _ _
 exact JK (P:=Tryz.prog) (R:=call G Ω0) (fn:=Tryz.f6) (S:=S6) (tb:=4) (Good:=fun _=>nU) (by kernel_rfl) (fun B=>@sound B) rfl (by kernel_rfl) Tryz.underlying4
  (fun ds h=>by
   have hl:ds.length=1:=by rw [h];rw [Tryz.params6];rfl
   match ds,hl with
   | [d0],_=>rfl)
  (by rw [Tryz.params6];exact fun t ht=>by have:=(List.all_eq_true.1 (show ([31]:List TypeId).all (fun t=>S6.contains t)=true by kernel_rfl)) t ht;simpa using this)
  (by rw [Tryz.params6];exact D6) (fun _=>hc) W base args ds gs before hval hW (fun q hq=>by cases hq)
theorem E9(hc:∀ ys,nU ys→call G Ω0 ⟨0,false⟩ 6 ys (fun _=>none)=some (.ret (.b true),fun _=>none)):Rows.JudgeKnownSaid:=
 OpenClaim.holds_of_wide 6 Tryz.f6 rfl rfl rfl rfl rfl rfl rfl ⟨rfl,rfl,rfl,rfl,rfl⟩ rfl rfl rfl rfl rfl (by kernel_rfl) Tryz.func6 (by kernel_rfl)
  (of_decide_eq_true (by kernel_rfl)) (by unfold Func.isWrapper;first | (rw [if_pos (by decide +kernel)];kernel_rfl) | (rw [if_neg (by decide +kernel)];exact ⟨rfl,rfl⟩))
  (fun os started H enc _=>Sa hc os started H enc)
end Go.Proofs.YtkkkkondjclcnaaGreat.A
