/- slices.Repeat of one bool: what it answers. -/
import Derived.RangeFuncNested
import Derived.RangeFuncBound
import Derived.RangeFuncCalls
import Derived.RangeFuncLeaves
import Derived.Shelf.Abstract
import Derived.LoopTactic
import Derived.Tactics2
import Derived.RegionTactic
import Derived.WalkKit
import Derived.OwnWalkIn
import Derived.TacticsInMore
import Derived.LoopNIn
import Derived.LoopIn
import Derived.Test.YtkkkkondjclcnaaAbsG
import Derived.Test.YtkkkkondjclcnaaAbsO
import Derived.Test.YtkkkkondjclcnaaProg
import Derived.Test.YtkkkkondjclcnaaShelf
set_option linter.unusedVariables false
set_option linter.unusedSimpArgs false
set_option linter.unusedSectionVars false
set_option linter.constructorNameAsVariable false
namespace Go.Proofs.Ytkkkkondjclcnaa.A
open Go Go.Proofs Go.RowKit Go.Shelf
attribute [local go_sem] Oper.semAt_some
variable [aP]
theorem KH:∃ i,Try.prog.info? 4=some i∧i.zero=some (.bool false)∧i.size=1∧i.bytes=1:=by
 have h1:(Try.prog.info? 4).map (·.size)=some 1:=by kernel_rfl
 have h2:(Try.prog.info? 4).bind (·.zero)=some (.bool false):=by kernel_rfl
 have h3:(Try.prog.info? 4).map (·.bytes)=some 1:=by kernel_rfl
 cases h:Try.prog.info? 4 with
 | none=>rw [h] at h1;cases h1
 | some i=>
  rw [h] at h1 h2 h3
  exact ⟨i,rfl,by simpa using h2,by simpa using h1,by simpa using h3⟩
def vW(b:Bool)(g j n:Nat)(w:World):Prop:=∃ cs:Array Value,w.heap[g]? =some (.cells cs 4 (0,0))∧cs.size=n∧∀ i,i<j→cs[i]? =some (.bool b)
set_option maxRecDepth 100000 in
set_option maxHeartbeats 4000000 in
theorem Hn{g o cap n m:Nat}{b:Bool}{w:World}(hn:n≤1000000)(hc:w.cell? ⟨g,o,none⟩=some (.bool b))(hg:g<w.heap.size) :
  Calls Try.prog 66 #[.slice (some ⟨g,o,none⟩) 1 cap,.int .i64 n] w fun e w'=>
   e= .returned (.slice (some ⟨w.heap.size,0,none⟩) n n)∧w'.heap[w.heap.size]? =some (.cells (Array.replicate n (.bool b)) 4 (0,0))∧w'.heap.size=w.heap.size+1∧Below w.heap.size w w':=by
 have hM:Calls Try.prog 81 #[.int .u64 1,.int .u64 n] w fun e w'=>e= .returned (.tuple #[.int .u64 0,.int .u64 n])∧w'=w:=by
  have:=Try.bits_Mul 1 n (by omega) (by omega) w
  rw [show 1*n / 18446744073709551616=0 by omega,show 1*n % 18446744073709551616=n by omega] at this
  exact this
 have hd1:decide ((9223372036854775807:Int)<n)=false:=by simp;omega
 have hd2:¬((9223372036854775807:Int)<n):=by omega
 obtain ⟨ti,hi,hz,hs,hby⟩:=KH
 have hu:Try.prog.underlying 42=some (.slice 4):=Try.underlying42
 have hmk:(Instr.makeSlice 42 (.int .i64 n) (.int .i64 n)).run Try.prog w= .ok (.slice (some ⟨w.heap.size,0,none⟩) n n) (w.alloc (.cells (madeCells #[.bool false] n) 4)):=by
  have:=run_make (P:=Try.prog) w 42 4 ti (.bool false) hu hi hz .i64 .i64 n n (by omega) (Int.le_refl _) (by rw [hby];omega) (by omega)
  simpa [hs,Value.cells] using this
 have hcp:∀ (W:World)(j k dLen dCap sLen sCap:Nat)(a:Addr),vW b w.heap.size j n W→j+k≤n→Nat.min sLen dLen=k→(∀ i,i<k→W.cell? (a.add i)=some (.bool b))→
   ∃ W',(Builtin.copy_ #[42,42] 3 #[.slice (some ⟨w.heap.size,j,none⟩) dLen dCap,.slice (some a) sLen sCap]).run Try.prog W= .ok (.int .i64 k) W'∧vW b w.heap.size (j+k) n W'∧W'.heap.size=W.heap.size∧Below w.heap.size W W':=fun W j k dLen dCap sLen sCap a hf h2 hk h3=>by
  obtain ⟨cur,h1,hsz,hfl⟩:=hf
  have:=run_copy_row (P:=Try.prog) W 42 42 3 4 w.heap.size j dLen dCap a sLen sCap cur 4 (List.replicate k (.bool b)) hu (by rw [hi];simp [hs]) h1 (by simpa using hk.symm) (fun i v hj=>by
   rw [List.getElem?_replicate] at hj
   split at hj
   ·obtain rfl:=Option.some.inj hj
    exact h3 i (by assumption)
   ·cases hj) (by simp;omega) (fun v hv=>by rw [List.eq_of_mem_replicate hv];rfl)
  refine ⟨_,by simpa [goInt] using this,⟨_,setRow_heap _ _ _ _ _ _ h1,by simp;omega,fun i hi0=>?_⟩,by simp,⟨rfl,rfl,rfl,by simp,fun k hk=>setRow_other _ _ _ _ (by omega)⟩⟩
  have hm:min j cur.size=j:=by omega
  by_cases hij:i<j
  ·rw [←hfl i hij,List.getElem?_toArray,List.getElem?_append_left (by simp;omega),List.getElem?_take_of_lt hij,Array.getElem?_toList]
  ·rw [List.getElem?_toArray,List.getElem?_append_right (by simp;omega),List.getElem?_append_left (by simp;omega),List.getElem?_replicate,if_pos (by simp;omega)]
 have hf0:vW b w.heap.size 0 n (w.alloc (.cells (madeCells #[.bool false] n) 4)):=⟨madeCells #[.bool false] n,World.alloc_heap_new _ _,by simp [madeCells],fun i hi=>absurd hi (Nat.not_lt_zero _)⟩
 obtain ⟨k0,hk0,hk1,hk2⟩:∃ k0,Nat.min 1 n=k0∧k0≤n∧(0<n→0<k0):=⟨_,rfl,Nat.min_le_right _ _,fun h=>by show 0<min 1 n;omega⟩
 obtain ⟨W1,hW1,hf1,hsz1,hB1⟩:=hcp _ 0 k0 n n 1 cap ⟨g,o,none⟩ hf0 (by omega) hk0 (fun i hi=>by
  have:Nat.min 1 n≤1:=Nat.min_le_left _ _
  obtain rfl:i=0:=by omega
  have ha:(⟨g,o,none⟩:Addr).add 0=⟨g,o,none⟩:=by unfold Addr.add;simp
  rw [ha]
  exact (World.cell?_of_block (w:=w) (Below.heap_alloc _ _ _ hg)).trans hc)
 refine calls_of_wp Try.func66 rfl ?_
 simp only [Try.ntmps66,List.size_toArray,List.length_cons,List.length_nil,Nat.reduceAdd,Nat.reduceSub,Array.replicate_succ,Array.replicate_zero,List.push_toArray,List.append_toArray,List.nil_append,List.cons_append]
 go_wp2_with (go_at_call 81;refine hM.mono ?_;clear hM;rintro _ w1 ⟨rfl,hw⟩;have hw2:=hw.symm;subst hw2)
 go_loopw [8] (fun p wr=>∃ j:Nat,p= .int .i64 j∧j≤n∧(0<n→0<j)∧vW b w.heap.size j n wr∧wr.heap.size=w.heap.size+1∧Below w.heap.size w wr) (fun p wr=>n - (intOf p).toNat)
 case atStart=>exact ⟨k0,rfl,hk1,hk2,by simpa using hf1,by simpa using hsz1,((Below.refl _ w).alloc (Nat.le_refl _) _).trans hB1⟩
 case round=>
  obtain ⟨j,rfl,hjn,hj0,hfj,hszj,hBj⟩:=hrel
  by_cases hlt:j<n
  ·have hfj':vW b w.heap.size j n wr.drew:=hfj
   obtain ⟨W2,hW2,hf2,hsz2,hB2⟩:=hcp wr.drew j (Nat.min j (n - j)) (n - j) (n - j) j n ⟨w.heap.size,0,none⟩ hfj' (by have:Nat.min j (n - j)≤n - j:=Nat.min_le_right _ _;omega) rfl (fun i hi=>by
    obtain ⟨cs,h1,h2,h3⟩:=hfj'
    have:Nat.min j (n - j)≤j:=Nat.min_le_left _ _
    have h4:=h3 i (by omega)
    have ha:(⟨w.heap.size,0,none⟩:Addr).add i=⟨w.heap.size,i,none⟩:=by unfold Addr.add;split<;>simp_all
    rw [ha]
    simpa [World.cell?,h1] using h4)
   obtain ⟨q,hq⟩:∃ q,Nat.min j (n - j)=q:=⟨_,rfl⟩
   have hq1:q≤n - j∧0<q:=by
    have h1:Nat.min j (n - j)≤n - j:=Nat.min_le_right _ _
    have h2:0<j:=hj0 (by omega)
    have h3:0<min j (n - j):=by omega
    exact ⟨hq▸h1,hq▸h3⟩
   rw [hq] at hW2 hf2
   go_wp2
   have hne:¬n=j:=by omega
   have hI1:(0:Int)≤j:=by omega
   have hI2:(j:Int)≤n:=by omega
   clear hcp hmk hi hz hs hby hW1 hf1 hsz1 hB1 hf0
   go_region
   go_wp2
   refine ⟨⟨j+q,by simp,by omega,fun _=>by omega,hf2,by rw [hsz2];exact hszj,hBj.trans (Below.trans (b:=wr.drew) ⟨rfl,rfl,rfl,Nat.le_refl _,fun _ _=>rfl⟩ hB2)⟩,?_⟩
   simp only [intOf]
   omega
  ·obtain rfl:j=n:=by omega
   go_wp2
   obtain ⟨cs,h1,h2,h3⟩:=hfj
   refine ⟨rfl,_,results_tmp rfl _ _ _,rfl,?_,hszj,hBj⟩
   have:cs=Array.replicate j (.bool b):=by
    apply Array.ext (by simp [h2])
    intro i hi1 hi2
    have:=h3 i (by omega)
    simpa [Array.getElem?_eq_getElem hi1] using this
   rw [←this]
   exact h1
theorem QY{ys:List AV}{x:AV}(h:oK 4 ys=some x):zr Try.prog 66 ys x:=by
 unfold oK at h
 split at h
 ·rename_i t b n
  split at h
  ·rename_i hn
   obtain rfl:=Option.some.inj h
   refine ⟨⟨Try.f66,Try.func66,rfl,by decide⟩,fun w I κ cargs hn0 hI hs ha=>?_⟩
   have h0:=ha 0 _ rfl
   have h1:=ha 1 _ rfl
   obtain ⟨v0,v1,rfl⟩:∃ v0 v1,cargs=#[v0,v1]:=by
    have hs2:cargs.size=2:=hs
    exact ⟨cargs.getD 0 undef,cargs.getD 1 undef,by
     apply Array.ext (by simpa using hs2)
     intro i h1 h2
     have:i=0∨i=1:=by omega
     rcases this with rfl | rfl<;>simp [Array.getD,h1]⟩
   have h0:VR w I κ (.l t [.b b]) v0:=h0
   have h1:VR w I κ (.i .i64 n) v1:=h1
   cases h1
   generalize hes:[AV.b b]=es at h0
   cases h0 with
   | lnil=>cases hes
   | l _ _ g o cap cs T fz sz hIg hh ht hsz hnc hsize hp h1 hcap hmax hcell=>
    subst hes
    obtain rfl:(1:Nat)=sz:=hnc (.b b) (by simp)
    have hb:cs.getD (o+0*1+0) undef= .bool b:=(hcell 0 (.b b) 0 (.b b) rfl rfl).pj
    have hlt:o<cs.size:=by simp at hsize;omega
    have hc:w.cell? ⟨g,o,none⟩=some (.bool b):=by
     simp only [Nat.zero_mul,Nat.add_zero,Array.getD,hlt,dite_true] at hb
     unfold World.cell?
     simp only [hh]
     simpa [hlt] using hb
    obtain ⟨k,rfl⟩:∃ k:Nat,n=k:=⟨n.toNat,by omega⟩
    refine (Hn (n:=k) (m:=0) (cap:=cap) (by omega) hc (hI g hIg)).mono ?_
    rintro e w' ⟨rfl,h2,h3,hB⟩
    refine ⟨_,fun b=>I b∨b=w.heap.size,rfl,?_,hB.size,fun b hb=>hB.block b hb,fun b hb=>.inl hb,fun b hb=>hb.imp id fun e=>Nat.le_of_eq e.symm,fun b hb=>by rcases hb with hb | rfl;exact Nat.lt_of_lt_of_le (hI b hb) hB.size;omega,hB.os,hB.output⟩
    rw [Int.toNat_natCast]
    rcases Nat.eq_zero_or_pos k with rfl | hk
    ·exact .lnil _ _ _
    ·have:=VR.l (κ:=κ) (I:=fun b=>I b∨b=w.heap.size) 4 (List.replicate k (.b b)) w.heap.size 0 k (Array.replicate k (.bool b)) 4 (0,0) 1 (.inr rfl) h2 (fun _=>⟨fun _=>⟨rfl,rfl⟩,fun h=>absurd h (Nat.not_lt.2 hn0.1)⟩) (by omega)
      (fun e he=>by rw [List.eq_of_mem_replicate he];rfl) (by simp) (fun e he=>by rw [List.eq_of_mem_replicate he];rfl) (fun e he c hc=>by rw [List.eq_of_mem_replicate he] at hc;simp only [AV.cl,List.mem_singleton] at hc;subst hc;rfl) (by simp) (Nat.le_trans (show k≤1000000 by omega) (by decide)) (fun j e m c he hc=>by
       have he2:=List.eq_of_mem_replicate (List.mem_of_getElem? he)
       subst he2
       have hj:j<k:=by simpa using (List.getElem?_eq_some_iff.1 he).1
       match m,hc with
       | 0,hc=>
         obtain rfl:=Option.some.inj hc
         have hr:(Array.replicate k (Value.bool b)).getD (0+j*1+0) undef= .bool b:=by
          rw [Array.getD_eq_getD_getElem?,Nat.zero_add,Nat.mul_one,Nat.add_zero,Array.getElem?_replicate,if_pos hj]
          rfl
         rw [hr]
         exact .b b)
     rwa [List.length_replicate] at this
  ·cases h
 ·cases h
end Go.Proofs.Ytkkkkondjclcnaa.A
