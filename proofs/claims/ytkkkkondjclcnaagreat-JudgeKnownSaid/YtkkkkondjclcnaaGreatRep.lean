/- slices.Repeat of one bool: what it answers. -/
import Derived.RangeFuncNested
import Derived.RangeFuncBound
import Derived.RangeFuncCalls
import Derived.RangeFuncLeaves
import Derived.Shelf.Abstract
import Derived.LoopTactic
import Derived.Tactics2
import Derived.RegionTactic
import Derived.WalkKit
import Derived.OwnWalkIn
import Derived.TacticsInMore
import Derived.LoopNIn
import Derived.LoopIn
import Derived.Test.YtkkkkondjclcnaaGreatAbsG
import Derived.Test.YtkkkkondjclcnaaGreatAbsO
import Derived.Test.YtkkkkondjclcnaaGreatProg
import Derived.Test.YtkkkkondjclcnaaGreatShelf
set_option linter.unusedVariables false
set_option linter.unusedSimpArgs false
set_option linter.unusedSectionVars false
set_option linter.constructorNameAsVariable false
namespace Go.Proofs.YtkkkkondjclcnaaGreat.A
open Go Go.Proofs Go.RowKit Go.Shelf
attribute [local go_sem] Oper.semAt_some
variable [aY]
theorem R4:∃ i,Tryz.prog.info? 4=some i∧i.zero=some (.bool false)∧i.size=1∧i.bytes=1:=by
 have h1:(Tryz.prog.info? 4).map (·.size)=some 1:=by kernel_rfl
 have h2:(Tryz.prog.info? 4).bind (·.zero)=some (.bool false):=by kernel_rfl
 have h3:(Tryz.prog.info? 4).map (·.bytes)=some 1:=by kernel_rfl
 cases h:Tryz.prog.info? 4 with
 | none=>rw [h] at h1;cases h1
 | some i=>
  rw [h] at h1 h2 h3
  exact ⟨i,rfl,by simpa using h2,by simpa using h1,by simpa using h3⟩
def A5(b:Bool)(g j n:Nat)(w:World):Prop:=∃ cs:Array Value,w.heap[g]? =some (.cells cs 4 (0,0))∧cs.size=n∧∀ i,i<j→cs[i]? =some (.bool b)
set_option maxRecDepth 100000 in
set_option maxHeartbeats 4000000 in
theorem N2{g o cap n m:Nat}{b:Bool}{w:World}(hn:n≤1000000)(hc:w.cell? ⟨g,o,none⟩=some (.bool b))(hg:g<w.heap.size) :
  Calls Tryz.prog 141 #[.slice (some ⟨g,o,none⟩) 1 cap,.int .i64 n] w fun e w'=>
   e= .returned (.slice (some ⟨w.heap.size,0,none⟩) n n)∧w'.heap[w.heap.size]? =some (.cells (Array.replicate n (.bool b)) 4 (0,0))∧w'.heap.size=w.heap.size+1∧Below w.heap.size w w':=by
 have hM:Calls Tryz.prog 160 #[.int .u64 1,.int .u64 n] w fun e w'=>e= .returned (.tuple #[.int .u64 0,.int .u64 n])∧w'=w:=by
  have:=Tryz.bits_Mul 1 n (by omega) (by omega) w
  rw [show 1*n / 18446744073709551616=0 by omega,show 1*n % 18446744073709551616=n by omega] at this
  exact this
 have hd1:decide ((9223372036854775807:Int)<n)=false:=by simp;omega
 have hd2:¬((9223372036854775807:Int)<n):=by omega
 obtain ⟨ti,hi,hz,hs,hby⟩:=R4
 have hu:Tryz.prog.underlying 43=some (.slice 4):=Tryz.underlying43
 have hmk:(Instr.makeSlice 43 (.int .i64 n) (.int .i64 n)).run Tryz.prog w= .ok (.slice (some ⟨w.heap.size,0,none⟩) n n) (w.alloc (.cells (madeCells #[.bool false] n) 4)):=by
  have:=run_make (P:=Tryz.prog) w 43 4 ti (.bool false) hu hi hz .i64 .i64 n n (by omega) (Int.le_refl _) (by rw [hby];omega) (by omega)
  simpa [hs,Value.cells] using this
 have hcp:∀ (W:World)(j k dLen dCap sLen sCap:Nat)(a:Addr),A5 b w.heap.size j n W→j+k≤n→Nat.min sLen dLen=k→(∀ i,i<k→W.cell? (a.add i)=some (.bool b))→
   ∃ W',(Builtin.copy_ #[43,43] 3 #[.slice (some ⟨w.heap.size,j,none⟩) dLen dCap,.slice (some a) sLen sCap]).run Tryz.prog W= .ok (.int .i64 k) W'∧A5 b w.heap.size (j+k) n W'∧W'.heap.size=W.heap.size∧Below w.heap.size W W':=fun W j k dLen dCap sLen sCap a hf h2 hk h3=>by
  obtain ⟨cur,h1,hsz,hfl⟩:=hf
  have:=run_copy_row (P:=Tryz.prog) W 43 43 3 4 w.heap.size j dLen dCap a sLen sCap cur 4 (List.replicate k (.bool b)) hu (by rw [hi];simp [hs]) h1 (by simpa using hk.symm) (fun i v hj=>by
   rw [List.getElem?_replicate] at hj
   split at hj
   ·obtain rfl:=Option.some.inj hj
    exact h3 i (by assumption)
   ·cases hj) (by simp;omega) (fun v hv=>by rw [List.eq_of_mem_replicate hv];rfl)
  refine ⟨_,by simpa [goInt] using this,⟨_,setRow_heap _ _ _ _ _ _ h1,by simp;omega,fun i hi0=>?_⟩,by simp,⟨rfl,rfl,rfl,by simp,fun k hk=>setRow_other _ _ _ _ (by omega)⟩⟩
  have hm:min j cur.size=j:=by omega
  by_cases hij:i<j
  ·rw [←hfl i hij,List.getElem?_toArray,List.getElem?_append_left (by simp;omega),List.getElem?_take_of_lt hij,Array.getElem?_toList]
  ·rw [List.getElem?_toArray,List.getElem?_append_right (by simp;omega),List.getElem?_append_left (by simp;omega),List.getElem?_replicate,if_pos (by simp;omega)]
 have hf0:A5 b w.heap.size 0 n (w.alloc (.cells (madeCells #[.bool false] n) 4)):=⟨madeCells #[.bool false] n,World.alloc_heap_new _ _,by simp [madeCells],fun i hi=>absurd hi (Nat.not_lt_zero _)⟩
 obtain ⟨k0,hk0,hk1,hk2⟩:∃ k0,Nat.min 1 n=k0∧k0≤n∧(0<n→0<k0):=⟨_,rfl,Nat.min_le_right _ _,fun h=>by show 0<min 1 n;omega⟩
 obtain ⟨W1,hW1,hf1,hsz1,hB1⟩:=hcp _ 0 k0 n n 1 cap ⟨g,o,none⟩ hf0 (by omega) hk0 (fun i hi=>by
  have:Nat.min 1 n≤1:=Nat.min_le_left _ _
  obtain rfl:i=0:=by omega
  have ha:(⟨g,o,none⟩:Addr).add 0=⟨g,o,none⟩:=by unfold Addr.add;simp
  rw [ha]
  exact (World.cell?_of_block (w:=w) (Below.heap_alloc _ _ _ hg)).trans hc)
 refine calls_of_wp Tryz.func141 rfl ?_
 simp only [Tryz.ntmps141,List.size_toArray,List.length_cons,List.length_nil,Nat.reduceAdd,Nat.reduceSub,Array.replicate_succ,Array.replicate_zero,List.push_toArray,List.append_toArray,List.nil_append,List.cons_append]
 go_wp2_with (go_at_call 160;refine hM.mono ?_;clear hM;rintro _ w1 ⟨rfl,hw⟩;have hw2:=hw.symm;subst hw2)
 go_loopw [8] (fun p wr=>∃ j:Nat,p= .int .i64 j∧j≤n∧(0<n→0<j)∧A5 b w.heap.size j n wr∧wr.heap.size=w.heap.size+1∧Below w.heap.size w wr) (fun p wr=>n - (intOf p).toNat)
 case atStart=>exact ⟨k0,rfl,hk1,hk2,by simpa using hf1,by simpa using hsz1,((Below.refl _ w).alloc (Nat.le_refl _) _).trans hB1⟩
 case round=>
  obtain ⟨j,rfl,hjn,hj0,hfj,hszj,hBj⟩:=hrel
  by_cases hlt:j<n
  ·have hfj':A5 b w.heap.size j n wr.drew:=hfj
   obtain ⟨W2,hW2,hf2,hsz2,hB2⟩:=hcp wr.drew j (Nat.min j (n - j)) (n - j) (n - j) j n ⟨w.heap.size,0,none⟩ hfj' (by have:Nat.min j (n - j)≤n - j:=Nat.min_le_right _ _;omega) rfl (fun i hi=>by
    obtain ⟨cs,h1,h2,h3⟩:=hfj'
    have:Nat.min j (n - j)≤j:=Nat.min_le_left _ _
    have h4:=h3 i (by omega)
    have ha:(⟨w.heap.size,0,none⟩:Addr).add i=⟨w.heap.size,i,none⟩:=by unfold Addr.add;split<;>simp_all
    rw [ha]
    simpa [World.cell?,h1] using h4)
   obtain ⟨q,hq⟩:∃ q,Nat.min j (n - j)=q:=⟨_,rfl⟩
   have hq1:q≤n - j∧0<q:=by
    have h1:Nat.min j (n - j)≤n - j:=Nat.min_le_right _ _
    have h2:0<j:=hj0 (by omega)
    have h3:0<min j (n - j):=by omega
    exact ⟨hq▸h1,hq▸h3⟩
   rw [hq] at hW2 hf2
   go_wp2
   have hne:¬n=j:=by omega
   have hI1:(0:Int)≤j:=by omega
   have hI2:(j:Int)≤n:=by omega
   clear hcp hmk hi hz hs hby hW1 hf1 hsz1 hB1 hf0
   go_region
   go_wp2
   refine ⟨⟨j+q,by simp,by omega,fun _=>by omega,hf2,by rw [hsz2];exact hszj,hBj.trans (Below.trans (b:=wr.drew) ⟨rfl,rfl,rfl,Nat.le_refl _,fun _ _=>rfl⟩ hB2)⟩,?_⟩
   simp only [intOf]
   omega
  ·obtain rfl:j=n:=by omega
   go_wp2
   obtain ⟨cs,h1,h2,h3⟩:=hfj
   refine ⟨rfl,_,results_tmp rfl _ _ _,rfl,?_,hszj,hBj⟩
   have:cs=Array.replicate j (.bool b):=by
    apply Array.ext (by simp [h2])
    intro i hi1 hi2
    have:=h3 i (by omega)
    simpa [Array.getElem?_eq_getElem hi1] using this
   rw [←this]
   exact h1
theorem Q7{ys:List AV}{x:AV}(h:rP 4 ys=some x):lH Tryz.prog 141 ys x:=by
 unfold rP at h
 split at h
 ·rename_i t b n
  split at h
  ·rename_i hn
   obtain rfl:=Option.some.inj h
   refine ⟨⟨Tryz.f141,Tryz.func141,rfl,by decide⟩,fun w I κ cargs hn0 hI hs ha=>?_⟩
   have h0:=ha 0 _ rfl
   have h1:=ha 1 _ rfl
   obtain ⟨v0,v1,rfl⟩:∃ v0 v1,cargs=#[v0,v1]:=by
    have hs2:cargs.size=2:=hs
    exact ⟨cargs.getD 0 undef,cargs.getD 1 undef,by
     apply Array.ext (by simpa using hs2)
     intro i h1 h2
     have:i=0∨i=1:=by omega
     rcases this with rfl | rfl<;>simp [Array.getD,h1]⟩
   have h0:VR w I κ (.l t [.b b]) v0:=h0
   have h1:VR w I κ (.i .i64 n) v1:=h1
   cases h1
   generalize hes:[AV.b b]=es at h0
   cases h0 with
   | lnil=>cases hes
   | l _ _ g o cap cs T fz sz hIg hh ht hsz hnc hsize hp h1 hcap hmax hcell=>
    subst hes
    obtain rfl:(1:Nat)=sz:=hnc (.b b) (by simp)
    have hb:cs.getD (o+0*1+0) undef= .bool b:=(hcell 0 (.b b) 0 (.b b) rfl rfl).rf
    have hlt:o<cs.size:=by simp at hsize;omega
    have hc:w.cell? ⟨g,o,none⟩=some (.bool b):=by
     simp only [Nat.zero_mul,Nat.add_zero,Array.getD,hlt,dite_true] at hb
     unfold World.cell?
     simp only [hh]
     simpa [hlt] using hb
    obtain ⟨k,rfl⟩:∃ k:Nat,n=k:=⟨n.toNat,by omega⟩
    refine (N2 (n:=k) (m:=0) (cap:=cap) (by omega) hc (hI g hIg)).mono ?_
    rintro e w' ⟨rfl,h2,h3,hB⟩
    refine ⟨_,fun b=>I b∨b=w.heap.size,rfl,?_,hB.size,fun b hb=>hB.block b hb,fun b hb=>.inl hb,fun b hb=>hb.imp id fun e=>Nat.le_of_eq e.symm,fun b hb=>by rcases hb with hb | rfl;exact Nat.lt_of_lt_of_le (hI b hb) hB.size;omega,hB.os,hB.output⟩
    rw [Int.toNat_natCast]
    rcases Nat.eq_zero_or_pos k with rfl | hk
    ·exact .lnil _ _ _
    ·have:=VR.l (κ:=κ) (I:=fun b=>I b∨b=w.heap.size) 4 (List.replicate k (.b b)) w.heap.size 0 k (Array.replicate k (.bool b)) 4 (0,0) 1 (.inr rfl) h2 (fun _=>⟨fun _=>⟨rfl,rfl⟩,fun h=>absurd h (Nat.not_lt.2 hn0.1)⟩) (by omega)
      (fun e he=>by rw [List.eq_of_mem_replicate he];rfl) (by simp) (fun e he=>by rw [List.eq_of_mem_replicate he];rfl) (fun e he c hc=>by rw [List.eq_of_mem_replicate he] at hc;simp only [AV.cl,List.mem_singleton] at hc;subst hc;rfl) (by simp) (Nat.le_trans (show k≤1000000 by omega) (by decide)) (fun j e m c he hc=>by
       have he2:=List.eq_of_mem_replicate (List.mem_of_getElem? he)
       subst he2
       have hj:j<k:=by simpa using (List.getElem?_eq_some_iff.1 he).1
       match m,hc with
       | 0,hc=>
         obtain rfl:=Option.some.inj hc
         have hr:(Array.replicate k (Value.bool b)).getD (0+j*1+0) undef= .bool b:=by
          rw [Array.getD_eq_getD_getElem?,Nat.zero_add,Nat.mul_one,Nat.add_zero,Array.getElem?_replicate,if_pos hj]
          rfl
         rw [hr]
         exact .b b)
     rwa [List.length_replicate] at this
  ·cases h
 ·cases h
end Go.Proofs.YtkkkkondjclcnaaGreat.A
namespace Go.Proofs.YtkkkkondjclcnaaGreat.A
open Go Go.Proofs Go.RowKit Go.Shelf
variable [aY]
theorem KP{ys:List AV}{x:AV}(h:mZ 3 ys=some x):lH Tryz.prog 67 ys x:=by
 unfold mZ at h
 split at h
 ·rename_i t es
  obtain ⟨ns,hns,h⟩:=Option.bind_eq_some_iff.1 h
  split at h
  ·rename_i hlen
   obtain rfl:=Option.some.inj h
   obtain rfl:=CS hns
   refine ⟨⟨Tryz.f67,Tryz.func67,rfl,by decide⟩,fun w I κ cargs hn0 hI hs ha=>?_⟩
   have h0:=ha 0 _ rfl
   obtain ⟨v0,rfl⟩:∃ v0,cargs=#[v0]:=by
    have hs2:cargs.size=1:=hs
    exact ⟨cargs.getD 0 undef,by
     apply Array.ext (by simpa using hs2)
     intro i h1 h2
     obtain rfl:i=0:=by omega
     simp [Array.getD,h1]⟩
   have h0:VR w I κ (.l t (ns.map (AV.i .i64))) v0:=h0
   have hin:∀ (v':Value)(w':World),w'.ownsRow w.heap.size 3 1 v' ns.length (ns.map (Value.int .i64))→Below w.heap.size w w'→
     ∃ v I',Ending.returned v'= .returned v∧VR w' I' κ (.l 3 (ns.map (AV.i .i64))) v∧w.heap.size≤w'.heap.size∧(∀ b,b<w.heap.size→w'.heap[b]? =w.heap[b]?)∧(∀ b,I b→I' b)∧(∀ b,I' b→I b∨w.heap.size≤b)∧(∀ b,I' b→b<w'.heap.size)∧w'.os=w.os∧w'.output=w.output:=fun v' w' ho hB=>by
    refine ⟨v',fun b=>I b∨(w.heap.size≤b∧b<w'.heap.size),rfl,?_,hB.size,fun b hb=>hB.block b hb,fun b hb=>.inl hb,fun b hb=>hb.imp id fun e=>e.1,fun b hb=>by rcases hb with hb | hb;exact Nat.lt_of_lt_of_le (hI b hb) hB.size;exact hb.2,hB.os,hB.output⟩
    obtain ⟨_,⟨rfl,h0⟩ | ⟨g,cap,cur,rfl,hg,hh,hc1,hc2,hsz,htk⟩⟩:=ho
    ·rw [List.eq_nil_of_length_eq_zero h0]
     exact .lnil _ _ _
    ·have hgl:g<w'.heap.size:=(Array.getElem?_eq_some_iff.1 hh).1
     have:=VR.l (w:=w') (κ:=κ) (I:=fun b=>I b∨(w.heap.size≤b∧b<w'.heap.size)) 3 (ns.map (AV.i .i64)) g 0 cap cur 3 (0,0) 1 (.inr ⟨hg,hgl⟩) hh (fun _=>⟨fun _=>⟨rfl,rfl⟩,fun h=>absurd h (by have:=hn0.1;omega)⟩) (by omega)
      (fun e he=>by obtain ⟨n,_,rfl⟩:=List.mem_map.1 he;rfl) (by simp only [List.length_map];omega) (fun e he=>by obtain ⟨n,_,rfl⟩:=List.mem_map.1 he;rfl) (fun e he c hc=>by obtain ⟨n,_,rfl⟩:=List.mem_map.1 he;simp only [AV.cl,List.mem_singleton] at hc;subst hc;rfl) (by simpa using hc1) hc2 (fun j e m c he hc=>by
       rw [List.getElem?_map] at he
       obtain ⟨n,hn,rfl⟩:=Option.map_eq_some_iff.1 he
       match m,hc with
       | 0,hc=>
        obtain rfl:=Option.some.inj hc
        have hj:j<ns.length:=(List.getElem?_eq_some_iff.1 hn).1
        have h3:(cur.toList.take (ns.length*1))[j]? =some (.int .i64 n):=by rw [htk,List.getElem?_map,hn];rfl
        rw [List.getElem?_take_of_lt (by omega),Array.getElem?_toList] at h3
        have hr:cur.getD (0+j*1+0) undef= .int .i64 n:=by rw [Array.getD_eq_getD_getElem?,Nat.zero_add,Nat.mul_one,Nat.add_zero,h3];rfl
        rw [hr]
        exact .i _ _)
     rwa [List.length_map] at this
   generalize hes:ns.map (AV.i .i64)=es at h0
   cases h0 with
   | lnil _ A cap=>
    have hn0':ns=[]:=List.map_eq_nil_iff.1 hes
    subst hn0'
    cases A with
    | none=>
     refine (Tryz.slices_Clone_int_nil 0 cap w).mono ?_
     rintro e w' ⟨rfl,rfl⟩
     exact hin _ _ ⟨rfl,.inl ⟨rfl,rfl⟩⟩ (Below.refl _ _)
    | some a=>
     refine (Tryz.slices_Clone_int_zero a cap w).mono ?_
     rintro e w' ⟨v',rfl,ho,_,hB⟩
     exact hin _ _ ho hB
   | l _ _ g o cap cs T fz sz hIg hh ht hsz hnc hsize hp h1 hcap hmax hcell=>
    subst hes
    rw [List.length_map]
    refine (Tryz.slices_Clone_int g o ns.length cap ns w (Nat.le_refl _) (by omega) (fun j hj=>?_)).mono ?_
    ·have he:(ns.map (AV.i .i64))[j]? =some (.i .i64 (ns.getD j 0)):=by rw [List.getElem?_map];simp [List.getD,List.getElem?_eq_getElem hj]
     obtain rfl:(1:Nat)=sz:=hnc _ (List.mem_of_getElem? he)
     have hb:=hcell j _ 0 _ he rfl
     simp only [List.length_map] at hsize
     have hlt:o+j<cs.size:=by omega
     rw [Array.getD_eq_getD_getElem?,Nat.mul_one,Nat.add_zero,Array.getElem?_eq_getElem hlt] at hb
     unfold World.cell?
     simp only [hh,Array.getElem?_eq_getElem hlt]
     simp only [Option.getD_some] at hb
     rw [hb.ix]
     rfl
    ·rintro e w' ⟨v',rfl,ho,_,hB⟩
     rw [List.take_length] at ho
     exact hin _ _ ho hB
  ·cases h
 ·cases h
end Go.Proofs.YtkkkkondjclcnaaGreat.A
namespace Go.Proofs.YtkkkkondjclcnaaGreat.A
open Go Go.Proofs Go.RowKit Go.Shelf
attribute [local go_sem] Oper.semAt_some
variable [aY]
def dF:Value:=.slice none 0 0
def Qa(n:Nat):Value:=.agg #[.int .i64 2,.slice none 0 0,.slice none 0 0,.slice (some ⟨n+1+1,0,none⟩) 1 1,.slice (some ⟨n+1+1+1,0,none⟩) 1 1,.slice (some ⟨n+1+1+1+1,0,none⟩) 1 1,.slice none 0 0,.slice (some ⟨n+1+1+1+1+1,0,none⟩) 2 2]
theorem eight(w:World)(b0 b1 b2 b3 b4 b5 b6 b7:Obj):Below w.heap.size w ((((((((w.alloc b0).alloc b1).alloc b2).alloc b3).alloc b4).alloc b5).alloc b6).alloc b7)∧
  ((((((((w.alloc b0).alloc b1).alloc b2).alloc b3).alloc b4).alloc b5).alloc b6).alloc b7).heap.size=w.heap.size+8∧
  ((((((((w.alloc b0).alloc b1).alloc b2).alloc b3).alloc b4).alloc b5).alloc b6).alloc b7).heap[w.heap.size+2]? =some b2∧
  ((((((((w.alloc b0).alloc b1).alloc b2).alloc b3).alloc b4).alloc b5).alloc b6).alloc b7).heap[w.heap.size+3]? =some b3∧
  ((((((((w.alloc b0).alloc b1).alloc b2).alloc b3).alloc b4).alloc b5).alloc b6).alloc b7).heap[w.heap.size+4]? =some b4∧
  ((((((((w.alloc b0).alloc b1).alloc b2).alloc b3).alloc b4).alloc b5).alloc b6).alloc b7).heap[w.heap.size+5]? =some b5∧
  ((((((((w.alloc b0).alloc b1).alloc b2).alloc b3).alloc b4).alloc b5).alloc b6).alloc b7).heap[w.heap.size+7]? =some b7:=by
 refine ⟨?_,by simp only [World.alloc,Array.size_push],?_,?_,?_,?_,?_⟩
 ·repeat (first | exact Below.refl _ _ | refine Below.alloc ?_ (by first | exact Nat.le_refl _ | (simp only [World.alloc,Array.size_push];omega)) _)
 ·simp only [World.alloc,Array.getElem?_push,Array.size_push]
  rw [if_neg,if_neg,if_neg,if_neg,if_neg,if_pos trivial]<;>omega
 ·simp only [World.alloc,Array.getElem?_push,Array.size_push]
  rw [if_neg,if_neg,if_neg,if_neg,if_pos trivial]<;>omega
 ·simp only [World.alloc,Array.getElem?_push,Array.size_push]
  rw [if_neg,if_neg,if_neg,if_pos trivial]<;>omega
 ·simp only [World.alloc,Array.getElem?_push,Array.size_push]
  rw [if_neg,if_neg,if_pos trivial]<;>omega
 ·simp only [World.alloc,Array.getElem?_push,Array.size_push]
  rw [if_pos trivial]
set_option maxRecDepth 100000 in
set_option maxHeartbeats 4000000 in
theorem Wk{w:World} : Calls Tryz.prog 72 #[] w fun e w'=>e= .returned (Qa w.heap.size)∧Below w.heap.size w w'∧w'.heap.size=w.heap.size+8∧
  w'.heap[w.heap.size+2]? =some (.cells #[.slice (some ⟨w.heap.size+7,0,none⟩) 1 1,dF] 81 (0,0))∧w'.heap[w.heap.size+3]? =some (.cells #[dF,dF] 81 (0,0))∧
  w'.heap[w.heap.size+4]? =some (.cells #[.bool false,dF,dF] 83 (0,0))∧
  w'.heap[w.heap.size+5]? =some (.cells #[.int .i64 3,.int .i64 0,.int .i64 0,.int .i64 0,.int .i64 0,dF,dF,dF,dF,.int .i64 4,.int .i64 0,.int .i64 0,.int .i64 2,.int .i64 0,dF,dF,dF,dF] 92 (0,0))∧
  w'.heap[w.heap.size+7]? =some (.cells #[.int .i64 0,dF] 138 (0,0)):=by
 refine calls_of_wp Tryz.func72 rfl ?_
 simp only [Tryz.ntmps72,List.size_toArray,List.length_cons,List.length_nil,Nat.reduceAdd,Nat.reduceSub,Array.replicate_succ,Array.replicate_zero,List.push_toArray,List.append_toArray,List.nil_append,List.cons_append]
 go_wp2
 refine bodyPost_ret (v:=.agg #[.int .i64 1,.slice none 0 0,.slice none 0 0,.slice (some ⟨w.heap.size+1+1,0,none⟩) 1 1,.slice (some ⟨w.heap.size+1+1+1,0,none⟩) 1 1,.slice (some ⟨w.heap.size+1+1+1+1,0,none⟩) 1 1,.slice none 0 0,.slice (some ⟨w.heap.size+1+1+1+1+1,0,none⟩) 2 2]) (by simp [results,Tryz.results62,go_sem]) rfl ?_
 go_wp2
 refine bodyPost_ret (v:=Qa w.heap.size) (by simp [results,Tryz.results72,go_sem,Qa]) rfl ?_
 obtain ⟨h1,h2,h3,h4,h5,h6,h7⟩:=eight w _ _ _ _ _ _ _ _
 exact ⟨rfl,h1,h2,h3,h4,h5,h6,h7⟩
theorem xz{w:World}{I:Nat→Prop}{κ:Key→Nat}{t:TypeId}{es:List AV}{g n sz:Nat}{cs:Array Value}(hI:I g)(hh:w.heap[g]? =some (.cells cs t (0,0)))(hg:aY.n0≤g)
  (hn:es.length=n) (h0:0<n) (hm:n≤maxLen) (hsz:0<sz) (hsize:n*sz=cs.size) (hnc:(es.all fun e=>decide (e.nc=sz)&&e.pure&&e.cl.all (·.one))=true)
  (hc:∀ (j:Nat)(e:AV)(m:Nat)(c:AV),es[j]? =some e→e.cl[m]? =some c→VR w I κ c (cs.getD (0+j*sz+m) undef)):VR w I κ (.l t es) (.slice (some ⟨g,0,none⟩) n n):=by
 subst hn
 simp only [List.all_eq_true,Bool.and_eq_true,decide_eq_true_eq] at hnc
 exact .l t es g 0 es.length cs t (0,0) sz hI hh (fun _=>⟨fun _=>⟨rfl,rfl⟩,fun h=>absurd h (Nat.not_lt.2 hg)⟩) hsz (fun e he=>(hnc e he).1.1) (by omega) (fun e he=>(hnc e he).1.2)
  (fun e he c hc=>(hnc e he).2 c hc) (Nat.le_refl _) hm hc
set_option maxHeartbeats 1000000 in
theorem LZ{ys:List AV}{x:AV}(h:xk 166 3 81 138 83 101 92 37 ys=some x):lH Tryz.prog 72 ys x:=by
 unfold xk at h
 split at h
 ·obtain rfl:=Option.some.inj h
  refine ⟨⟨Tryz.f72,Tryz.func72,rfl,by decide⟩,fun w I κ cargs hn0 hI hs ha=>?_⟩
  obtain rfl:cargs=#[]:=Array.eq_empty_of_size_eq_zero hs
  refine Wk.mono ?_
  rintro e w' ⟨rfl,hB,hsz,h2,h3,h4,h5,h7⟩
  have hn:=hn0.1
  generalize hI':(fun b=>I b∨(w.heap.size≤b∧b<w.heap.size+8))=I'
  have hI2:∀ b,w.heap.size≤b→b<w.heap.size+8→I' b:=fun b h1 h2=>by rw [←hI'];exact .inr ⟨h1,h2⟩
  have r7:VR w' I' κ (.l 138 [.a [.i .i64 0,.l 3 []]]) (.slice (some ⟨w.heap.size+7,0,none⟩) 1 1):=by
   refine xz (hI2 _ (by omega) (by omega)) h7 (by omega) rfl (by decide) (by decide) (sz:=2) (by decide) rfl (by decide) (fun j e m c he hc=>?_)
   match j,he with
   | 0,he=>
    obtain rfl:=Option.some.inj he
    match m,hc with
    | 0,hc=>obtain rfl:=Option.some.inj hc;exact .i _ _
    | 1,hc=>obtain rfl:=Option.some.inj hc;exact .lnil _ _ _
  have r2:VR w' I' κ (.l 81 [.a [.l 138 [.a [.i .i64 0,.l 3 []]],.l 138 []]]) (.slice (some ⟨w.heap.size+1+1,0,none⟩) 1 1):=by
   refine xz (hI2 _ (by omega) (by omega)) h2 (by omega) rfl (by decide) (by decide) (sz:=2) (by decide) rfl (by decide) (fun j e m c he hc=>?_)
   match j,he with
   | 0,he=>
    obtain rfl:=Option.some.inj he
    match m,hc with
    | 0,hc=>obtain rfl:=Option.some.inj hc;exact r7
    | 1,hc=>obtain rfl:=Option.some.inj hc;exact .lnil _ _ _
  have r3:VR w' I' κ (.l 81 [.a [.l 138 [],.l 138 []]]) (.slice (some ⟨w.heap.size+1+1+1,0,none⟩) 1 1):=by
   refine xz (hI2 _ (by omega) (by omega)) h3 (by omega) rfl (by decide) (by decide) (sz:=2) (by decide) rfl (by decide) (fun j e m c he hc=>?_)
   match j,he with
   | 0,he=>
    obtain rfl:=Option.some.inj he
    match m,hc with
    | 0,hc=>obtain rfl:=Option.some.inj hc;exact .lnil _ _ _
    | 1,hc=>obtain rfl:=Option.some.inj hc;exact .lnil _ _ _
  have r4:VR w' I' κ (.l 83 [.a [.b false,.l 138 [],.l 138 []]]) (.slice (some ⟨w.heap.size+1+1+1+1,0,none⟩) 1 1):=by
   refine xz (hI2 _ (by omega) (by omega)) h4 (by omega) rfl (by decide) (by decide) (sz:=3) (by decide) rfl (by decide) (fun j e m c he hc=>?_)
   match j,he with
   | 0,he=>
    obtain rfl:=Option.some.inj he
    match m,hc with
    | 0,hc=>obtain rfl:=Option.some.inj hc;exact .b _
    | 1,hc=>obtain rfl:=Option.some.inj hc;exact .lnil _ _ _
    | 2,hc=>obtain rfl:=Option.some.inj hc;exact .lnil _ _ _
  refine ⟨_,I',rfl,?_,hB.size,fun b hb=>hB.block b hb,fun b hb=>by rw [←hI'];exact .inl hb,fun b hb=>by rw [←hI'] at hb;exact hb.imp id fun e=>e.1,fun b hb=>by
   rw [←hI'] at hb
   rcases hb with hb | hb
   ·exact Nat.lt_of_lt_of_le (hI b hb) hB.size
   ·omega,hB.os,hB.output⟩
  refine .a _ _ rfl (by decide) (fun m c hc=>?_)
  match m,hc with
  | 0,hc=>obtain rfl:=Option.some.inj hc;exact .i _ _
  | 1,hc=>obtain rfl:=Option.some.inj hc;exact .lnil _ _ _
  | 2,hc=>obtain rfl:=Option.some.inj hc;exact .lnil _ _ _
  | 3,hc=>obtain rfl:=Option.some.inj hc;exact r2
  | 4,hc=>obtain rfl:=Option.some.inj hc;exact r3
  | 5,hc=>obtain rfl:=Option.some.inj hc;exact r4
  | 6,hc=>obtain rfl:=Option.some.inj hc;exact .lnil _ _ _
  | 7,hc=>
   obtain rfl:=Option.some.inj hc
   refine xz (hI2 _ (by omega) (by omega)) h5 (by omega) rfl (by decide) (by decide) (sz:=9) (by decide) rfl (by decide) (fun j e m c he hc=>?_)
   match j,he with
   | 0,he=>
    obtain rfl:=Option.some.inj he
    match m,hc with
    | 0,hc=>obtain rfl:=Option.some.inj hc;exact .i _ _
    | 1,hc=>obtain rfl:=Option.some.inj hc;exact .i _ _
    | 2,hc=>obtain rfl:=Option.some.inj hc;exact .i _ _
    | 3,hc=>obtain rfl:=Option.some.inj hc;exact .i _ _
    | 4,hc=>obtain rfl:=Option.some.inj hc;exact .i _ _
    | 5,hc=>obtain rfl:=Option.some.inj hc;exact .lnil _ _ _
    | 6,hc=>obtain rfl:=Option.some.inj hc;exact .lnil _ _ _
    | 7,hc=>obtain rfl:=Option.some.inj hc;exact .lnil _ _ _
    | 8,hc=>obtain rfl:=Option.some.inj hc;exact .lnil _ _ _
   | 1,he=>
    obtain rfl:=Option.some.inj he
    match m,hc with
    | 0,hc=>obtain rfl:=Option.some.inj hc;exact .i _ _
    | 1,hc=>obtain rfl:=Option.some.inj hc;exact .i _ _
    | 2,hc=>obtain rfl:=Option.some.inj hc;exact .i _ _
    | 3,hc=>obtain rfl:=Option.some.inj hc;exact .i _ _
    | 4,hc=>obtain rfl:=Option.some.inj hc;exact .i _ _
    | 5,hc=>obtain rfl:=Option.some.inj hc;exact .lnil _ _ _
    | 6,hc=>obtain rfl:=Option.some.inj hc;exact .lnil _ _ _
    | 7,hc=>obtain rfl:=Option.some.inj hc;exact .lnil _ _ _
    | 8,hc=>obtain rfl:=Option.some.inj hc;exact .lnil _ _ _
 ·cases h
end Go.Proofs.YtkkkkondjclcnaaGreat.A
