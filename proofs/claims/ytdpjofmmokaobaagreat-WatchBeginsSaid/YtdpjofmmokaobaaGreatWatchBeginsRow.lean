/- WatchBegins: the row of the law, from what its abstract run says. -/
import Derived.Test.YtdpjofmmokaobaaGreatTab
import Derived.Test.YtdpjofmmokaobaaGreatDec
set_option linter.unusedSectionVars false
set_option linter.unusedVariables false
set_option linter.unusedSimpArgs false
namespace Go.Proofs.YtdpjofmmokaobaaGreat.A
open Go Go.Proofs Go.ChangeShapes Go.WideShapes Go.ChangeAt Go.RowKit
theorem aaj:ownKnob Tryz.prog.godebug=none:=by kernel_rfl
def S5:List TypeId:=[31,32,3,24,25,26,27,28,29,22,49,51,112,88,136,47,4,86,84,134]
set_option maxRecDepth 100000 in
theorem PF(hc:∀ ys,mo ys→call G Ω0 ⟨0,false⟩ 5 ys (fun _=>none)=some (.ret (.b true),fun _=>none))(os:Os)(started:os.Started)(H:Type)(enc:TypeId×Value→H) :
  ReturnsInHanded {} Tryz.checked os 5 .any (Rows.watchBeginsSpec.pre6 enc Tryz.prog Tryz.f5 Rows.watchBeginsRow.domain false) (Rows.watchBeginsSpec.post enc Tryz.prog Tryz.f5 false true false false):=by
 refine returnsInHanded_of_change (C:=Tryz.checked) aaj started (by kernel_rfl) Tryz.func5
  (ChangeSpec.witness6 (enc:=enc) (C:=Tryz.checked) false ⟨#[],#[.agg #[.int .i64 0,.slice none 0 0,.slice none 0 0,.slice none 0 0,.slice none 0 0,.slice none 0 0,.slice none 0 0,.slice none 0 0],.slice none 0 0,.int .i64 0],[]⟩ 8 (by kernel_rfl) (by kernel_rfl) (by kernel_rfl) (by kernel_rfl)) ?_
 intro W base args ds gs before hval hW _ _
 exact Ia (P:=Tryz.prog) (R:=call G Ω0) (fn:=Tryz.f5) (S:=S5) (tb:=4) (Good:=fun _=>mo) (by kernel_rfl) (fun B=>@sound B) rfl (by kernel_rfl) Tryz.underlying4
  (fun ds h=>by
   have hl:ds.length=3:=by rw [h];rw [Tryz.params5];rfl
   match ds,hl with
   | [d0,d1,d2],_=>rfl)
  (by rw [Tryz.params5];exact fun t ht=>by have:=(List.all_eq_true.1 (show ([31,32,3]:List TypeId).all (fun t=>S5.contains t)=true by kernel_rfl)) t ht;simpa using this)
  (by rw [Tryz.params5];exact BT) (fun _=>hc) W base args ds gs before hval hW (fun q hq=>by cases hq)
theorem Di(hc:∀ ys,mo ys→call G Ω0 ⟨0,false⟩ 5 ys (fun _=>none)=some (.ret (.b true),fun _=>none)):Rows.WatchBeginsSaid:=
 OpenClaim.holds_of_wide 5 Tryz.f5 rfl rfl rfl rfl rfl rfl rfl ⟨rfl,rfl,rfl,rfl,rfl⟩ rfl rfl rfl rfl rfl (by kernel_rfl) Tryz.func5 (by kernel_rfl)
  (of_decide_eq_true (by kernel_rfl)) (by unfold Func.isWrapper;first | (rw [if_pos (by decide +kernel)];kernel_rfl) | (rw [if_neg (by decide +kernel)];exact ⟨rfl,rfl⟩))
  (fun os started H enc _=>PF hc os started H enc)
end Go.Proofs.YtdpjofmmokaobaaGreat.A
