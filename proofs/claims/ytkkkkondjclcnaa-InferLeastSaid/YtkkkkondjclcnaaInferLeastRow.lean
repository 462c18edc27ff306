/- InferLeast: the row of the law, from what its abstract run says. -/
import Derived.Test.YtkkkkondjclcnaaTab
import Derived.Test.YtkkkkondjclcnaaDec
set_option linter.unusedSectionVars false
set_option linter.unusedVariables false
set_option linter.unusedSimpArgs false
namespace Go.Proofs.Ytkkkkondjclcnaa.A
open Go Go.Proofs Go.ChangeShapes Go.WideShapes Go.ChangeAt Go.RowKit
theorem Tu:ownKnob Try.prog.godebug=none:=by kernel_rfl
def S3:List TypeId:=[31,34,24,25,26,27,28,29,32,3,22,60,67,85,74,44,93,58,4,53,51,42,95]
set_option maxRecDepth 100000 in
theorem KL(hc:∀ ys,kK ys→call G Ω0 ⟨0,false⟩ 3 ys (fun _=>none)=some (.ret (.b true),fun _=>none))(os:Os)(started:os.Started)(H:Type)(enc:TypeId×Value→H) :
  ReturnsInHanded {} Try.checked os 3 .any (Rows.inferLeastSpec.pre6 enc Try.prog Try.f3 Rows.inferLeastRow.domain false) (Rows.inferLeastSpec.post enc Try.prog Try.f3 false true false false):=by
 refine returnsInHanded_of_change (C:=Try.checked) Tu started (by kernel_rfl) Try.func3
  (ChangeSpec.witness6 (enc:=enc) (C:=Try.checked) false ⟨#[],#[.agg #[.int .i64 0,.slice none 0 0,.slice none 0 0,.slice none 0 0,.slice none 0 0,.slice none 0 0,.slice none 0 0,.slice none 0 0],.agg #[.slice none 0 0,.slice none 0 0]],[]⟩ 8 (by kernel_rfl) (by kernel_rfl) (by kernel_rfl) (by kernel_rfl)) ?_
 intro W base args ds gs before hval hW _ _
 exact Eb (P:=Try.prog) (R:=call G Ω0) (fn:=Try.f3) (S:=S3) (tb:=4) (Good:=fun _=>kK) (by kernel_rfl) (fun B=>@sound B) rfl (by kernel_rfl) Try.underlying4
  (fun ds h=>by
   have hl:ds.length=2:=by rw [h];rw [Try.params3];rfl
   match ds,hl with
   | [d0,d1],_=>rfl)
  (by rw [Try.params3];exact fun t ht=>by have:=(List.all_eq_true.1 (show ([31,34]:List TypeId).all (fun t=>S3.contains t)=true by kernel_rfl)) t ht;simpa using this)
  (by rw [Try.params3];exact zA) (fun _=>hc) W base args ds gs before hval hW (fun q hq=>by cases hq)
theorem AN(hc:∀ ys,kK ys→call G Ω0 ⟨0,false⟩ 3 ys (fun _=>none)=some (.ret (.b true),fun _=>none)):Rows.InferLeastSaid:=
 OpenClaim.holds_of_wide 3 Try.f3 rfl rfl rfl rfl rfl rfl rfl ⟨rfl,rfl,rfl,rfl,rfl⟩ rfl rfl rfl rfl rfl (by kernel_rfl) Try.func3 (by kernel_rfl)
  (of_decide_eq_true (by kernel_rfl)) (by unfold Func.isWrapper;first | (rw [if_pos (by decide +kernel)];kernel_rfl) | (rw [if_neg (by decide +kernel)];exact ⟨rfl,rfl⟩))
  (fun os started H enc _=>KL hc os started H enc)
end Go.Proofs.Ytkkkkondjclcnaa.A
