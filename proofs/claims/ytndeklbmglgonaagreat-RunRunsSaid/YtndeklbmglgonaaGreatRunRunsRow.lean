/- RunRuns: the row of the law, from what its abstract run says. -/
import Derived.Test.YtndeklbmglgonaaGreatTab
import Derived.Test.YtndeklbmglgonaaGreatDec
set_option linter.unusedSectionVars false
set_option linter.unusedVariables false
set_option linter.unusedSimpArgs false
namespace Go.Proofs.YtndeklbmglgonaaGreat.A
open Go Go.Proofs Go.ChangeShapes Go.WideShapes Go.ChangeAt Go.RowKit
theorem aaV:ownKnob Tryz.prog.godebug=none:=by kernel_rfl
def S3:List TypeId:=[31,32,3,24,25,26,27,28,29,22,89,91,82,65,115,87,4,63,61,134]
set_option maxRecDepth 100000 in
theorem Nw(hc:∀ ys,p6 ys→call G Ω0 ⟨0,false⟩ 3 ys (fun _=>none)=some (.ret (.b true),fun _=>none))(os:Os)(started:os.Started)(H:Type)(enc:TypeId×Value→H) :
  ReturnsInHanded {} Tryz.checked os 3 .any (Rows.runRunsSpec.pre6 enc Tryz.prog Tryz.f3 Rows.runRunsRow.domain false) (Rows.runRunsSpec.post enc Tryz.prog Tryz.f3 false true false false):=by
 refine returnsInHanded_of_change (C:=Tryz.checked) aaV started (by kernel_rfl) Tryz.func3
  (ChangeSpec.witness6 (enc:=enc) (C:=Tryz.checked) false ⟨#[],#[.agg #[.int .i64 0,.slice none 0 0,.slice none 0 0,.slice none 0 0,.slice none 0 0,.slice none 0 0,.slice none 0 0,.slice none 0 0],.slice none 0 0,.int .i64 0],[]⟩ 8 (by kernel_rfl) (by kernel_rfl) (by kernel_rfl) (by kernel_rfl)) ?_
 intro W base args ds gs before hval hW _ _
 exact HO (P:=Tryz.prog) (R:=call G Ω0) (fn:=Tryz.f3) (S:=S3) (tb:=4) (Good:=fun _=>p6) (by kernel_rfl) (fun B=>@sound B) rfl (by kernel_rfl) Tryz.underlying4
  (fun ds h=>by
   have hl:ds.length=3:=by rw [h];rw [Tryz.params3];rfl
   match ds,hl with
   | [d0,d1,d2],_=>rfl)
  (by rw [Tryz.params3];exact fun t ht=>by have:=(List.all_eq_true.1 (show ([31,32,3]:List TypeId).all (fun t=>S3.contains t)=true by kernel_rfl)) t ht;simpa using this)
  (by rw [Tryz.params3];exact G1) (fun _=>hc) W base args ds gs before hval hW
theorem HQ(hc:∀ ys,p6 ys→call G Ω0 ⟨0,false⟩ 3 ys (fun _=>none)=some (.ret (.b true),fun _=>none)):Rows.RunRunsSaid:=
 OpenClaim.holds_of_wide 3 Tryz.f3 rfl rfl rfl rfl rfl rfl rfl ⟨rfl,rfl,rfl,rfl,rfl⟩ rfl rfl rfl rfl rfl (by kernel_rfl) Tryz.func3 (by kernel_rfl)
  (of_decide_eq_true (by kernel_rfl)) (by unfold Func.isWrapper;first | (rw [if_pos (by decide +kernel)];kernel_rfl) | (rw [if_neg (by decide +kernel)];exact ⟨rfl,rfl⟩))
  (fun os started H enc _=>Nw hc os started H enc)
end Go.Proofs.YtndeklbmglgonaaGreat.A
