/- What a strings.Builder's String answers, where the builder lies in a box; and what the table says of it. -/
import Derived.Test.YtogbakbmphadfaaGreatDoorAbsG
import Derived.Test.YtogbakbmphadfaaGreatDoorAbsO
import Derived.Test.YtogbakbmphadfaaGreatDoorProg
import Derived.Lib.UnsafeStr
import Derived.Below
import Derived.Tactics
import Derived.Tactics2
import Derived.Shelf.RegionOpenPlain
set_option linter.constructorNameAsVariable false
set_option linter.unusedSectionVars false
set_option linter.unusedVariables false
set_option linter.unusedSimpArgs false
namespace Go.Proofs.YtogbakbmphadfaaGreatDoor.A
open Go Go.Proofs Go.RowKit
theorem DM{w:World}{b off:Nat}{vs:Array Value}{T:TypeId}{fz:Nat×Nat}(h:w.heap[b]? =some (.cells vs T fz)):w.cell? ⟨b,off,none⟩=vs[off]? :=by simp [World.cell?,h]
set_option maxHeartbeats 1000000 in
set_option maxRecDepth 100000 in
theorem ZI(w:World)(b off:Nat)(vs:Array Value)(T:TypeId)(g cap:Nat)(cs:Array Value)(l:List UInt8)(hb:w.heap[b]? =some (.cells vs T (0,0)))(hlt:off+1<vs.size)(hv:vs.getD (off+1) undef= .slice (some ⟨g,0,none⟩) l.length cap)
  (hg:w.heap[g]? =some (.cells cs 5 (0,0))) (hc:l.length≤cap) (hm:cap≤maxLen) (hs:cs.size=cap) (h0:l≠[]) (hl:∀ (j:Nat)(c:UInt8),l[j]? =some c→cs[j]? =some (.int .u8 c.toNat)) :
  Calls Tryz.prog 12 #[.pointer (some ⟨b,off,none⟩)] w fun e w'=>e= .returned (.string ⟨l.toArray⟩)∧w'.heap.size=w.heap.size∧(∀ x,x≠g→w'.heap[x]? =w.heap[x]?)∧w'.os=w.os∧w'.output=w.output:=by
 have hl0:l.length≠0:=by simpa using h0
 have c1:w.drew.cell? ⟨b,off+1,none⟩=some (.slice (some ⟨g,0,none⟩) l.length cap):=by
  have hbd:w.drew.heap[b]? =some (.cells vs T (0,0)):=hb
  rw [DM hbd,←hv]
  simp [Array.getD_eq_getD_getElem?,hlt]
 have hSD:(Builtin.unsafeSliceData_ #[35] 70 #[.slice (some ⟨g,0,none⟩) l.length cap]).run Tryz.prog w.drew= .ok (.pointer (some ⟨g,0,none⟩)) w.drew:=
  Lib.run_unsafeSliceData_row _ _ _ _ _ _ (by omega)
 have hUS:(Builtin.unsafeString_ #[70,3] 9 #[.pointer (some ⟨g,0,none⟩),.int .i64 l.length]).run Tryz.prog w.drew= .ok (.string ⟨l.toArray⟩) (w.drew.freeze ⟨g,0,none⟩ l.length):=by
  refine Lib.run_unsafeString_row w.drew 70 3 9 5 (by kernel_rfl) (by kernel_rfl) g cs.size (by have hg':w.drew.heap[g]? =some (.cells cs 5 (0,0)):=hg;simp [World.shape?,hg']) l h0 (by omega) (by unfold maxLen at hm;omega) ?_
  intro j x hx
  have hg':w.drew.heap[g]? =some (.cells cs 5 (0,0)):=hg
  rw [Addr.add_lit,DM hg',Nat.zero_add]
  exact hl j x hx
 have hfin:∀ x,x≠g→(w.drew.freeze ⟨g,0,none⟩ l.length).heap[x]? =w.heap[x]? :=fun x hx=>by
  unfold World.freeze
  rw [if_neg hl0]
  simp only [Array.getElem?_modify]
  rw [if_neg (fun e=>hx e.symm)]
  rfl
 have hsz:(w.drew.freeze ⟨g,0,none⟩ l.length).heap.size=w.heap.size:=by
  unfold World.freeze
  rw [if_neg hl0]
  simp
 have hio:(w.drew.freeze ⟨g,0,none⟩ l.length).os=w.os∧(w.drew.freeze ⟨g,0,none⟩ l.length).output=w.output:=by
  unfold World.freeze
  rw [if_neg hl0]
  exact ⟨rfl,rfl⟩
 have mixed:Tryz.prog.follows .mixedOrders=true:=by kernel_rfl
 go_enter Tryz.func12,Tryz.ntmps12
 go_wp2
 go_region_o
 all_goals (go_wp2;go_ret;exact ⟨rfl,hsz,hfin,hio⟩)
variable [bJ]
theorem W8{t:TypeId}(h:xb 5 [.u,.u,.i .i64 t]=some (.s [])):MF Tryz.prog 12 t:=by
 obtain rfl:t=5:=by
  simp only [xb] at h
  split at h
  ·rename_i e;exact Int.ofNat.inj e
  ·cases h
 exact ⟨⟨Tryz.f12,Tryz.func12,by kernel_rfl,by kernel_rfl⟩,fun w b off vs T g cap cs l hb hlt hv hg hc hm hs h0 hl=>ZI w b off vs T g cap cs l hb hlt hv hg hc hm hs h0 hl⟩
theorem Rt{u:TypeId}{y:AV}(h:xb u [y]=some .u):False:=by
 unfold xb at h
 split at h
 ·rename_i e;simp at e
 ·cases h
theorem Lt{u:TypeId}{g:FuncId}{n:Int}(h:xb u [.u,.i .i64 g]=some (.i .i64 n)):False:=by cases h
theorem HS{u:TypeId}{ys:List AV}{x:AV}(h:xb u ys=some x)(hy:∀ y∈ys,y.pure=true):False:=by
 unfold xb at h
 split at h
 ·have:=hy .u (by simp)
  cases this
 ·cases h
end Go.Proofs.YtogbakbmphadfaaGreatDoor.A
