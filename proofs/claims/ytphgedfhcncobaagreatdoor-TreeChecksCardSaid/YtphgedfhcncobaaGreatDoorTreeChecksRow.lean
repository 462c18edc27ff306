/- TreeChecks: the row of the law, from what its abstract run says. -/
import Derived.Test.YtphgedfhcncobaaGreatDoorTab
import Derived.Test.YtphgedfhcncobaaGreatDoorDec
import Derived.Test.YtphgedfhcncobaaGreatDoorTie
import Derived.Test.YtphgedfhcncobaaGreatDoorCards
import Derived.LaidMore
import Derived.Stop.Joined
import Derived.SevenTiedAt
set_option linter.unusedSectionVars false
set_option linter.unusedVariables false
set_option linter.unusedSimpArgs false
namespace Go.Proofs.YtphgedfhcncobaaGreatDoor.A
open Go Go.Proofs Go.ChangeShapes Go.WideShapes Go.ChangeAt Go.RowKit
theorem Qk:ownKnob Tryz.prog.godebug=none:=by kernel_rfl
def S3:List TypeId:=[25,22,23,41,36,3,9,4,38,39,34,32,56]
theorem Pf(os:Os)(args:Array Value):laidMetH Tryz.prog Rows.treeChecksRow.laid ((World.doorLaid Tryz.prog 400 os).forCall (fun _ _=>0) ⟨#[],args,[]⟩).memory:=
 laidMetH_of_parts3 (fuel:=8) (laidMet_of_run' 8 (by kernel_rfl) (by kernel_rfl)) (by kernel_rfl) (by kernel_rfl)
set_option maxRecDepth 100000 in
theorem Hs(hc:∀ ys,jI ys→call G Ω0 ⟨0,false⟩ 3 ys (fun _=>none)=some (.ret (.b true),fun _=>none))(os:Os)(started:os.Started)(H:Type)(enc:TypeId×Value→H) :
  ReturnsInHanded {} Tryz.checked os 3 .any (fun w args=>(Rows.treeChecksSpec.pre enc Tryz.prog Tryz.f3 [] false w args∧laidMetH Tryz.prog Rows.treeChecksRow.laid w)∧sizedMet enc Tryz.prog Tryz.f3 (OpenSpec.ofChange Rows.treeChecksSpec) false w args) (Rows.treeChecksSpec.post enc Tryz.prog Tryz.f3 false true false false):=by
 refine returnsInHanded_of_change_and (C:=Tryz.checked) (X:=fun w _=>laidMetH Tryz.prog Rows.treeChecksRow.laid w) (fun _ _ _ hh h=>h.of_heap hh) Qk started (by kernel_rfl) Tryz.func3
  (ChangeSpec.witness_shaped (enc:=enc) (C:=Tryz.checked) (os:=os) (X:=fun w _=>laidMetH Tryz.prog Rows.treeChecksRow.laid w) false (World.doorLaid Tryz.prog 400 os) #[.agg #[.slice none 0 0,.slice none 0 0]] 8 rfl (World.shaped_of_RefB (by kernel_rfl) (by kernel_rfl)) (by kernel_rfl) (by kernel_rfl) (by kernel_rfl) (Pf os _)) ?_
 intro W base args ds gs before hval hW _ _ _ _
 exact Ce (P:=Tryz.prog) (R:=call G Ω0) (fn:=Tryz.f3) (S:=S3) (tb:=4) (Good:=fun _=>jI) (by kernel_rfl) (fun B=>@sound B) rfl (by kernel_rfl) Tryz.underlying4
  (fun ds h=>by
   have hl:ds.length=1:=by rw [h];rw [Tryz.params3];rfl
   match ds,hl with
   | [d0],_=>rfl)
  (by rw [Tryz.params3];exact fun t ht=>by have:=(List.all_eq_true.1 (show ([25]:List TypeId).all (fun t=>S3.contains t)=true by kernel_rfl)) t ht;simpa using this)
  (by rw [Tryz.params3];exact wG) (fun _=>hc) W base args ds gs before hval hW
theorem yI(hc:∀ ys,jI ys→call G Ω0 ⟨0,false⟩ 3 ys (fun _=>none)=some (.ret (.b true),fun _=>none)):Rows.TreeChecksSaid:=
 OpenClaim.holds_of_wide 3 Tryz.f3 rfl rfl rfl rfl rfl rfl rfl ⟨rfl,rfl,rfl,rfl,rfl⟩ rfl rfl rfl rfl rfl (by kernel_rfl) Tryz.func3 (by kernel_rfl)
  (of_decide_eq_true (by kernel_rfl)) (by unfold Func.isWrapper;first | (rw [if_pos (by decide +kernel)];kernel_rfl) | (rw [if_neg (by decide +kernel)];exact ⟨rfl,rfl⟩))
  (fun os started H enc _=>Hs hc os started H enc)
theorem wH(h:Rows.TreeChecksSaid):Rows.TreeChecksCardSaid:=
 Claim7.holds_tied_plain_at .later Rows.treeChecksCard.alts Rows.treeChecksCard.laidKinds Rows.treeChecksCard.laidTests Rows.treeChecksCard.stood.harness Rows.treeChecksCard.stood.looks
  h (fun _ h=>by cases h) (by kernel_rfl) (fun _ h=>by cases h) treeChecks_row_tie rfl ⟨rfl,rfl⟩ (by kernel_rfl) rfl
  (fun f fn hf hfn=>by
   obtain rfl:f=3:=Option.some.inj ((show Tryz.prog.funcNamed "veilwork/veilworklaw.TreeChecks" =some 3 by kernel_rfl).symm.trans hf)|>.symm
   obtain rfl:fn=Tryz.f3:=(Option.some.inj (Tryz.func3.symm.trans hfn)).symm
   exact ⟨by kernel_rfl,fun j t ht=>by
    rw [Tryz.params3] at ht
    have hm:t∈([25]:List TypeId):=by simpa using Array.mem_of_getElem? ht
    have hall:(([25]:List TypeId).all fun u=>!Tryz.prog.wantsStandIn u)=true:=by kernel_rfl
    exact (show Tryz.prog.wantsStandIn t=false by simpa using List.all_eq_true.1 hall t hm)⟩)
  (by kernel_rfl)
end Go.Proofs.YtphgedfhcncobaaGreatDoor.A
