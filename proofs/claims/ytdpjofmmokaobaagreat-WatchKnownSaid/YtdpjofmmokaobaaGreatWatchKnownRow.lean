/- WatchKnown: the row of the law, from what its abstract run says. -/
import Derived.Test.YtdpjofmmokaobaaGreatTab
import Derived.Test.YtdpjofmmokaobaaGreatDec
set_option linter.unusedSectionVars false
set_option linter.unusedVariables false
set_option linter.unusedSimpArgs false
namespace Go.Proofs.YtdpjofmmokaobaaGreat.A
open Go Go.Proofs Go.ChangeShapes Go.WideShapes Go.ChangeAt Go.RowKit
theorem aao:ownKnob Tryz.prog.godebug=none:=by kernel_rfl
def S4:List TypeId:=[31,32,3,24,25,26,27,28,29,22,49,51,112,88,136,47,4,86,84,134]
set_option maxRecDepth 100000 in
theorem OH(hc:∀ ys,mJ ys→call G Ω0 ⟨0,false⟩ 4 ys (fun _=>none)=some (.ret (.b true),fun _=>none))(os:Os)(started:os.Started)(H:Type)(enc:TypeId×Value→H) :
  ReturnsInHanded {} Tryz.checked os 4 .any (Rows.watchKnownSpec.pre6 enc Tryz.prog Tryz.f4 Rows.watchKnownRow.domain false) (Rows.watchKnownSpec.post enc Tryz.prog Tryz.f4 false true false false):=by
 refine returnsInHanded_of_change (C:=Tryz.checked) aao started (by kernel_rfl) Tryz.func4
  (ChangeSpec.witness6 (enc:=enc) (C:=Tryz.checked) false ⟨#[],#[.agg #[.int .i64 0,.slice none 0 0,.slice none 0 0,.slice none 0 0,.slice none 0 0,.slice none 0 0,.slice none 0 0,.slice none 0 0],.slice none 0 0,.int .i64 0],[]⟩ 8 (by kernel_rfl) (by kernel_rfl) (by kernel_rfl) (by kernel_rfl)) ?_
 intro W base args ds gs before hval hW _ _
 exact Hp (P:=Tryz.prog) (R:=call G Ω0) (fn:=Tryz.f4) (S:=S4) (tb:=4) (Good:=fun _=>mJ) (by kernel_rfl) (fun B=>@sound B) rfl (by kernel_rfl) Tryz.underlying4
  (fun ds h=>by
   have hl:ds.length=3:=by rw [h];rw [Tryz.params4];rfl
   match ds,hl with
   | [d0,d1,d2],_=>rfl)
  (by rw [Tryz.params4];exact fun t ht=>by have:=(List.all_eq_true.1 (show ([31,32,3]:List TypeId).all (fun t=>S4.contains t)=true by kernel_rfl)) t ht;simpa using this)
  (by rw [Tryz.params4];exact Cz) (fun _=>hc) W base args ds gs before hval hW (fun q hq=>by cases hq)
theorem DM(hc:∀ ys,mJ ys→call G Ω0 ⟨0,false⟩ 4 ys (fun _=>none)=some (.ret (.b true),fun _=>none)):Rows.WatchKnownSaid:=
 OpenClaim.holds_of_wide 4 Tryz.f4 rfl rfl rfl rfl rfl rfl rfl ⟨rfl,rfl,rfl,rfl,rfl⟩ rfl rfl rfl rfl rfl (by kernel_rfl) Tryz.func4 (by kernel_rfl)
  (of_decide_eq_true (by kernel_rfl)) (by unfold Func.isWrapper;first | (rw [if_pos (by decide +kernel)];kernel_rfl) | (rw [if_neg (by decide +kernel)];exact ⟨rfl,rfl⟩))
  (fun os started H enc _=>OH hc os started H enc)
end Go.Proofs.YtdpjofmmokaobaaGreat.A
