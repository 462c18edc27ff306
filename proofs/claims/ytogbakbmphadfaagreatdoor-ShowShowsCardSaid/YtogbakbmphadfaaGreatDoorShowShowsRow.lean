/- ShowShows: the row of the law, from what its abstract run says. -/
import Derived.Test.YtogbakbmphadfaaGreatDoorTab
import Derived.Test.YtogbakbmphadfaaGreatDoorDec
import Derived.Test.YtogbakbmphadfaaGreatDoorTie
import Derived.Test.YtogbakbmphadfaaGreatDoorCards
import Derived.LaidMore
import Derived.Stop.Joined
import Derived.SevenTiedAt
import Derived.Lib.LaidTab
import Derived.LaidSub
import Derived.MakeChecks
set_option linter.unusedSectionVars false
set_option linter.unusedVariables false
set_option linter.unusedSimpArgs false
namespace Go.Proofs.YtogbakbmphadfaaGreatDoor.A
open Go Go.Proofs Go.ChangeShapes Go.WideShapes Go.ChangeAt Go.RowKit
theorem ZQ:ownKnob Tryz.prog.godebug=none:=by kernel_rfl
def S3:List TypeId:=[25,22,23,46,68,3,9,4,40,41,44,42,74]
theorem Yt(os:Os)(args:Array Value):laidMetH Tryz.prog Rows.showShowsRow.laid ((World.doorLaid Tryz.prog 400 os).forCall (fun _ _=>0) ⟨#[],args,[]⟩).memory:=
 laidMetH_of_parts3 (fuel:=8) (laidMet_of_run' 8 (by kernel_rfl) (by kernel_rfl)) (by kernel_rfl) (by kernel_rfl)
theorem ZR{W:World}(h:laidMetH Tryz.prog Rows.showShowsRow.laid W):xK W fun b=>b<W.heap.size:=by
 have h1:=h.filter fun x=>x.1== "internal/strconv.uint64pow10"
 rw [show (Rows.showShowsRow.laid.filter fun x=>x.1== "internal/strconv.uint64pow10")=[("internal/strconv.uint64pow10",Lib.tabData .u64 Lib.pow10Tab)] by kernel_rfl,Go.MakeChecks.laidMetH_plain _ _ _ (by kernel_rfl)] at h1
 have h3:=Lib.tabIs_of_head (g:=1) (t:=161) (e:=139) (n:=20) (by kernel_rfl) (by kernel_rfl) (by kernel_rfl) (by kernel_rfl) (by kernel_rfl) (by kernel_rfl) h1
 unfold Lib.TabIs World.var? at h3
 rw [show Tryz.prog.globalNamed "internal/strconv.uint64pow10" =some 1 by kernel_rfl] at h3
 simp only [Option.bind_some] at h3
 split at h3
 ·rename_i cs T fz hh
  obtain rfl:=Option.some.inj h3
  intro q hq
  obtain rfl:=List.mem_singleton.1 hq
  exact ⟨(Array.getElem?_eq_some_iff.1 hh).1,T,fz,hh⟩
 ·cases h3
set_option maxRecDepth 100000 in
theorem NH(hc:∀ ys,nB ys→call G Ω0 ⟨0,false⟩ 3 ys (fun _=>none)=some (.ret (.b true),fun _=>none))(os:Os)(started:os.Started)(H:Type)(enc:TypeId×Value→H) :
  ReturnsInHanded {} Tryz.checked os 3 .any (fun w args=>(Rows.showShowsSpec.pre enc Tryz.prog Tryz.f3 [] false w args∧laidMetH Tryz.prog Rows.showShowsRow.laid w)∧sizedMet enc Tryz.prog Tryz.f3 (OpenSpec.ofChange Rows.showShowsSpec) false w args) (Rows.showShowsSpec.post enc Tryz.prog Tryz.f3 false true false false):=by
 refine returnsInHanded_of_change_and (C:=Tryz.checked) (X:=fun w _=>laidMetH Tryz.prog Rows.showShowsRow.laid w) (fun _ _ _ hh h=>h.of_heap hh) ZQ started (by kernel_rfl) Tryz.func3
  (ChangeSpec.witness_shaped (enc:=enc) (C:=Tryz.checked) (os:=os) (X:=fun w _=>laidMetH Tryz.prog Rows.showShowsRow.laid w) false (World.doorLaid Tryz.prog 400 os) #[.agg #[.slice none 0 0,.slice none 0 0]] 8 rfl (World.shaped_of_RefB (by kernel_rfl) (by kernel_rfl)) (by kernel_rfl) (by kernel_rfl) (by kernel_rfl) (Yt os _)) ?_
 intro W base args ds gs before hval hW _ _ x3 _
 exact Hn (P:=Tryz.prog) (R:=call G Ω0) (fn:=Tryz.f3) (S:=S3) (tb:=4) (Good:=fun _=>nB) (by kernel_rfl) (fun B=>@sound B) rfl (by kernel_rfl) Tryz.underlying4
  (fun ds h=>by
   have hl:ds.length=1:=by rw [h];rw [Tryz.params3];rfl
   match ds,hl with
   | [d0],_=>rfl)
  (by rw [Tryz.params3];exact fun t ht=>by have:=(List.all_eq_true.1 (show ([25]:List TypeId).all (fun t=>S3.contains t)=true by kernel_rfl)) t ht;simpa using this)
  (by rw [Tryz.params3];exact Df) (fun _=>hc) W base args ds gs before hval hW (ZR x3)
theorem Ey(hc:∀ ys,nB ys→call G Ω0 ⟨0,false⟩ 3 ys (fun _=>none)=some (.ret (.b true),fun _=>none)):Rows.ShowShowsSaid:=
 OpenClaim.holds_of_wide 3 Tryz.f3 rfl rfl rfl rfl rfl rfl rfl ⟨rfl,rfl,rfl,rfl,rfl⟩ rfl rfl rfl rfl rfl (by kernel_rfl) Tryz.func3 (by kernel_rfl)
  (of_decide_eq_true (by kernel_rfl)) (by unfold Func.isWrapper;first | (rw [if_pos (by decide +kernel)];kernel_rfl) | (rw [if_neg (by decide +kernel)];exact ⟨rfl,rfl⟩))
  (fun os started H enc _=>NH hc os started H enc)
theorem Dg(h:Rows.ShowShowsSaid):Rows.ShowShowsCardSaid:=
 Claim7.holds_tied_plain_at .later Rows.showShowsCard.alts Rows.showShowsCard.laidKinds Rows.showShowsCard.laidTests Rows.showShowsCard.stood.harness Rows.showShowsCard.stood.looks
  h (fun _ h=>by cases h) (by kernel_rfl) (fun _ h=>by cases h) showShows_row_tie rfl ⟨rfl,rfl⟩ (by kernel_rfl) rfl
  (fun f fn hf hfn=>by
   obtain rfl:f=3:=Option.some.inj ((show Tryz.prog.funcNamed "veilwork/veilworklaw.ShowShows" =some 3 by kernel_rfl).symm.trans hf)|>.symm
   obtain rfl:fn=Tryz.f3:=(Option.some.inj (Tryz.func3.symm.trans hfn)).symm
   exact ⟨by kernel_rfl,fun j t ht=>by
    rw [Tryz.params3] at ht
    have hm:t∈([25]:List TypeId):=by simpa using Array.mem_of_getElem? ht
    have hall:(([25]:List TypeId).all fun u=>!Tryz.prog.wantsStandIn u)=true:=by kernel_rfl
    exact (show Tryz.prog.wantsStandIn t=false by simpa using List.all_eq_true.1 hall t hm)⟩)
  (by kernel_rfl)
end Go.Proofs.YtogbakbmphadfaaGreatDoor.A
