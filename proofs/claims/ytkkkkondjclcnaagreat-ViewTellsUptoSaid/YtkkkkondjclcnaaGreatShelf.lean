/- Contracts of the library, laid by program. -/
import Derived.Shelf.Bits.Mul64
import Derived.Ground.Names2Prog
import Derived.Shelf.Slices.Clone
import Derived.Test.YtkkkkondjclcnaaGreatProg
import Derived.RangeFuncNested
import Derived.RangeFuncBound
import Derived.RangeFuncCalls
import Derived.RangeFuncLeaves
import Derived.Shelf.Abstract
import Derived.LoopTactic
import Derived.Tactics2
import Derived.RegionTactic
import Derived.WalkKit
import Derived.OwnWalkIn
import Derived.TacticsInMore
import Derived.LoopNIn
import Derived.LoopIn
import Derived.Test.YtkkkkondjclcnaaGreatAbsG
import Derived.Test.YtkkkkondjclcnaaGreatAbsO
import Derived.ProofKit
import Derived.Laws.Append
import Derived.Test.YtkkkkondjclcnaaGreatOrcOK
set_option linter.all false
namespace Go.Sort
end Go.Sort
set_option maxRecDepth 100000
namespace Go.Proofs
open Go.Shelf Go.Sort
open Go.RowKit
def Tryz.NQ:Go.Shelf.Ren:=⟨fun | 212=>160 | 263=>168 | 264=>169 | n=>n,fun | 46=>208 | 51=>215 | 146=>216 | 53=>218 | 148=>219 | n=>n,fun | n=>n⟩
theorem Tryz.Xe:Go.Proofs.Lays.n212 Tryz.prog Tryz.NQ:={
 mixed:=by kernel_rfl
 f212:=Tryz.func160.trans (congrArg some (by kernel_rfl))
 f263:=Tryz.func168.trans (congrArg some (by kernel_rfl))
 f264:=Tryz.func169.trans (congrArg some (by kernel_rfl))
 t46:=Tryz.underlying208
 a46:=Tryz.isAgg208
 z46:=Tryz.sizeOf208
 v46:=Tryz.zeroValue208
 t51:=Tryz.underlying215
 a51:=Tryz.isAgg215
 z51:=Tryz.sizeOf215
 v51:=Tryz.zeroValue215
 t53:=Tryz.underlying218
 a53:=Tryz.isAgg218
 z53:=Tryz.sizeOf218
 v53:=Tryz.zeroValue218
 t146:=Tryz.underlying216
 a146:=Tryz.isAgg216
 z146:=Tryz.sizeOf216
 v146:=Tryz.zeroValue216
 t148:=Tryz.underlying219
 a148:=Tryz.isAgg219
 z148:=Tryz.sizeOf219
 v148:=Tryz.zeroValue219}
theorem Tryz.bits_Mul(x y:Nat)(hx:x<18446744073709551616)(hy:y<18446744073709551616)(w:World) :
  Calls Tryz.prog 160 #[.int .u64 x,.int .u64 y] w fun e w'=>e= .returned (.tuple #[.int .u64 ((x*y / 18446744073709551616:Nat):Int),.int .u64 ((x*y % 18446744073709551616:Nat):Int)])∧w'=w:=Any.bits_Mul Tryz.Xe x y hx hy w
def Tryz.KI:Go.Shelf.Ren:=⟨fun | 15=>67 | n=>n,fun | 22=>25 | 3=>3 | 4=>4 | n=>n,fun | n=>n⟩
theorem Tryz.D0:Go.Proofs.Lays2.n15 Tryz.prog Tryz.KI:={
 mixed:=by kernel_rfl
 f15:=Tryz.func67.trans (congrArg some (by kernel_rfl))
 t3:=Tryz.underlying3
 a3:=Tryz.isAgg3
 z3:=Tryz.sizeOf3
 v3:=Tryz.zeroValue3
 t4:=Tryz.underlying4
 a4:=Tryz.isAgg4
 z4:=Tryz.sizeOf4
 v4:=Tryz.zeroValue4
 t22:=Tryz.underlying25
 a22:=Tryz.isAgg25
 z22:=Tryz.sizeOf25
 v22:=Tryz.zeroValue25
 i3:=by kernel_rfl}
theorem Tryz.slices_Clone_int(b off n c:Nat)(zs:List Int)(w:World)(hz:n≤zs.length)(hbig:n*8≤140737488355328)(hc:∀ j,j<zs.length→w.cell? ⟨b,off+j,none⟩=some (.int .i64 (zs.getD j 0))) :
  Calls Tryz.prog 67 #[.slice (some ⟨b,off,none⟩) n c] w fun e w'=>∃ v',e= .returned v'∧w'.ownsRow w.heap.size 3 1 v' n ((zs.take n).map (Value.int .i64))∧v'≠.slice none 0 0∧Below w.heap.size w w':=Any.slices_Clone_int Tryz.D0 b off n c zs w hz hbig hc
theorem Tryz.slices_Clone_int_nil(n c:Nat)(w:World) :
  Calls Tryz.prog 67 #[.slice none n c] w fun e w'=>e= .returned (.slice none 0 0)∧w'=w:=Any.slices_Clone_int_nil Tryz.D0 n c w
theorem Tryz.slices_Clone_int_zero(a:Addr)(c:Nat)(w:World) :
  Calls Tryz.prog 67 #[.slice (some a) 0 c] w fun e w'=>∃ v',e= .returned v'∧w'.ownsRow w.heap.size 3 1 v' 0 []∧v'≠.slice none 0 0∧Below w.heap.size w w':=Any.slices_Clone_int_zero Tryz.D0 a c w
end Go.Proofs
namespace Go.Proofs.YtkkkkondjclcnaaGreat.A
open Go Go.Proofs Go.RowKit Go.Shelf
attribute [local go_sem] Oper.semAt_some
variable [bJ]
theorem Xf:∃ i,Tryz.prog.info? 4=some i∧i.zero=some (.bool false)∧i.size=1∧i.bytes=1:=by
 have h1:(Tryz.prog.info? 4).map (·.size)=some 1:=by kernel_rfl
 have h2:(Tryz.prog.info? 4).bind (·.zero)=some (.bool false):=by kernel_rfl
 have h3:(Tryz.prog.info? 4).map (·.bytes)=some 1:=by kernel_rfl
 cases h:Tryz.prog.info? 4 with
 | none=>rw [h] at h1;cases h1
 | some i=>
  rw [h] at h1 h2 h3
  exact ⟨i,rfl,by simpa using h2,by simpa using h1,by simpa using h3⟩
def D1(b:Bool)(g j n:Nat)(w:World):Prop:=∃ cs:Array Value,w.heap[g]? =some (.cells cs 4 (0,0))∧cs.size=n∧∀ i,i<j→cs[i]? =some (.bool b)
set_option maxRecDepth 100000 in
set_option maxHeartbeats 4000000 in
theorem Sk{g o cap n m:Nat}{b:Bool}{w:World}(hn:n≤1000000)(hc:w.cell? ⟨g,o,none⟩=some (.bool b))(hg:g<w.heap.size) :
  Calls Tryz.prog 141 #[.slice (some ⟨g,o,none⟩) 1 cap,.int .i64 n] w fun e w'=>
   e= .returned (.slice (some ⟨w.heap.size,0,none⟩) n n)∧w'.heap[w.heap.size]? =some (.cells (Array.replicate n (.bool b)) 4 (0,0))∧w'.heap.size=w.heap.size+1∧Below w.heap.size w w':=by
 have hM:Calls Tryz.prog 160 #[.int .u64 1,.int .u64 n] w fun e w'=>e= .returned (.tuple #[.int .u64 0,.int .u64 n])∧w'=w:=by
  have:=Tryz.bits_Mul 1 n (by omega) (by omega) w
  rw [show 1*n / 18446744073709551616=0 by omega,show 1*n % 18446744073709551616=n by omega] at this
  exact this
 have hd1:decide ((9223372036854775807:Int)<n)=false:=by simp;omega
 have hd2:¬((9223372036854775807:Int)<n):=by omega
 obtain ⟨ti,hi,hz,hs,hby⟩:=Xf
 have hu:Tryz.prog.underlying 43=some (.slice 4):=Tryz.underlying43
 have hmk:(Instr.makeSlice 43 (.int .i64 n) (.int .i64 n)).run Tryz.prog w= .ok (.slice (some ⟨w.heap.size,0,none⟩) n n) (w.alloc (.cells (madeCells #[.bool false] n) 4)):=by
  have:=run_make (P:=Tryz.prog) w 43 4 ti (.bool false) hu hi hz .i64 .i64 n n (by omega) (yU _) (by rw [hby];omega) (by omega)
  simpa [hs,Value.cells] using this
 have hcp:∀ (W:World)(j k dLen dCap sLen sCap:Nat)(a:Addr),D1 b w.heap.size j n W→j+k≤n→Nat.min sLen dLen=k→(∀ i,i<k→W.cell? (a.add i)=some (.bool b))→
   ∃ W',(Builtin.copy_ #[43,43] 3 #[.slice (some ⟨w.heap.size,j,none⟩) dLen dCap,.slice (some a) sLen sCap]).run Tryz.prog W= .ok (.int .i64 k) W'∧D1 b w.heap.size (j+k) n W'∧W'.heap.size=W.heap.size∧Below w.heap.size W W':=fun W j k dLen dCap sLen sCap a hf h2 hk h3=>by
  obtain ⟨cur,h1,hsz,hfl⟩:=hf
  have:=run_copy_row (P:=Tryz.prog) W 43 43 3 4 w.heap.size j dLen dCap a sLen sCap cur 4 (List.replicate k (.bool b)) hu (by rw [hi];simp [hs]) h1 (by simpa using hk.symm) (fun i v hj=>by
   rw [kA] at hj
   split at hj
   ·obtain rfl:=aa hj
    exact h3 i (by assumption)
   ·cases hj) (by simp;omega) (fun v hv=>by rw [vQ hv];rfl)
  refine ⟨_,by simpa [goInt] using this,⟨_,setRow_heap _ _ _ _ _ _ h1,by simp;omega,fun i hi0=>?_⟩,by simp,⟨rfl,rfl,rfl,by simp,fun k hk=>setRow_other _ _ _ _ (by omega)⟩⟩
  have hm:min j cur.size=j:=by omega
  by_cases hij:i<j
  ·rw [←hfl i hij,yR,oz (by simp;omega),CL hij,vG]
  ·rw [yR,tF (by simp;omega),oz (by simp;omega),kA,ab (by simp;omega)]
 have hf0:D1 b w.heap.size 0 n (w.alloc (.cells (madeCells #[.bool false] n) 4)):=⟨madeCells #[.bool false] n,World.alloc_heap_new _ _,by simp [madeCells],fun i hi=>absurd hi (Nat.not_lt_zero _)⟩
 obtain ⟨k0,hk0,hk1,hk2⟩:∃ k0,Nat.min 1 n=k0∧k0≤n∧(0<n→0<k0):=⟨_,rfl,CM _ _,fun h=>by show 0<min 1 n;omega⟩
 obtain ⟨W1,hW1,hf1,hsz1,hB1⟩:=hcp _ 0 k0 n n 1 cap ⟨g,o,none⟩ hf0 (by omega) hk0 (fun i hi=>by
  have:Nat.min 1 n≤1:=Nat.min_le_left _ _
  obtain rfl:i=0:=by omega
  have ha:(⟨g,o,none⟩:Addr).add 0=⟨g,o,none⟩:=by unfold Addr.add;simp
  rw [ha]
  exact (World.cell?_of_block (w:=w) (Below.heap_alloc _ _ _ hg)).trans hc)
 refine calls_of_wp Tryz.func141 rfl ?_
 simp only [Tryz.ntmps141,qf,bu,ig,Nat.reduceAdd,Nat.reduceSub,ze,zf,zg,zh,ea,eu]
 go_wp2_with (go_at_call 160;refine hM.mono ?_;clear hM;rintro _ w1 ⟨rfl,hw⟩;have hw2:=hw.symm;subst hw2)
 go_loopw [8] (fun p wr=>∃ j:Nat,p= .int .i64 j∧j≤n∧(0<n→0<j)∧D1 b w.heap.size j n wr∧wr.heap.size=w.heap.size+1∧Below w.heap.size w wr) (fun p wr=>n - (intOf p).toNat)
 case atStart=>exact ⟨k0,rfl,hk1,hk2,by simpa using hf1,by simpa using hsz1,((Below.refl _ w).alloc (aS _) _).trans hB1⟩
 case round=>
  obtain ⟨j,rfl,hjn,hj0,hfj,hszj,hBj⟩:=hrel
  by_cases hlt:j<n
  ·have hfj':D1 b w.heap.size j n wr.drew:=hfj
   obtain ⟨W2,hW2,hf2,hsz2,hB2⟩:=hcp wr.drew j (Nat.min j (n - j)) (n - j) (n - j) j n ⟨w.heap.size,0,none⟩ hfj' (by have:Nat.min j (n - j)≤n - j:=CM _ _;omega) rfl (fun i hi=>by
    obtain ⟨cs,h1,h2,h3⟩:=hfj'
    have:Nat.min j (n - j)≤j:=Nat.min_le_left _ _
    have h4:=h3 i (by omega)
    have ha:(⟨w.heap.size,0,none⟩:Addr).add i=⟨w.heap.size,i,none⟩:=by unfold Addr.add;split<;>simp_all
    rw [ha]
    simpa [World.cell?,h1] using h4)
   obtain ⟨q,hq⟩:∃ q,Nat.min j (n - j)=q:=⟨_,rfl⟩
   have hq1:q≤n - j∧0<q:=by
    have h1:Nat.min j (n - j)≤n - j:=CM _ _
    have h2:0<j:=hj0 (by omega)
    have h3:0<min j (n - j):=by omega
    exact ⟨hq▸h1,hq▸h3⟩
   rw [hq] at hW2 hf2
   go_wp2
   have hne:¬n=j:=by omega
   have hI1:(0:Int)≤j:=by omega
   have hI2:(j:Int)≤n:=by omega
   clear hcp hmk hi hz hs hby hW1 hf1 hsz1 hB1 hf0
   go_region
   go_wp2
   refine ⟨⟨j+q,by simp,by omega,fun _=>by omega,hf2,by rw [hsz2];exact hszj,hBj.trans (Below.trans (b:=wr.drew) ⟨rfl,rfl,rfl,aS _,fun _ _=>rfl⟩ hB2)⟩,?_⟩
   simp only [intOf]
   omega
  ·obtain rfl:j=n:=by omega
   go_wp2
   obtain ⟨cs,h1,h2,h3⟩:=hfj
   refine ⟨rfl,_,results_tmp rfl _ _ _,rfl,?_,hszj,hBj⟩
   have:cs=Array.replicate j (.bool b):=by
    apply tJ (by simp [h2])
    intro i hi1 hi2
    have:=h3 i (by omega)
    simpa [ku hi1] using this
   rw [←this]
   exact h1
theorem ah0{ys:List AV}{x:AV}(h:uO 4 ys=some x):Aw Tryz.prog 141 ys x:=by
 unfold uO at h
 split at h
 ·rename_i t b n
  split at h
  ·rename_i hn
   obtain rfl:=aa h
   refine ⟨⟨Tryz.f141,Tryz.func141,rfl,by decide⟩,fun w I κ cargs hn0 hI hs ha=>?_⟩
   have h0:=ha 0 _ rfl
   have h1:=ha 1 _ rfl
   obtain ⟨v0,v1,rfl⟩:∃ v0 v1,cargs=#[v0,v1]:=by
    have hs2:cargs.size=2:=hs
    exact ⟨cargs.getD 0 undef,cargs.getD 1 undef,by
     apply tJ (by simpa using hs2)
     intro i h1 h2
     have:i=0∨i=1:=by omega
     rcases this with rfl | rfl<;>simp [Array.getD,h1]⟩
   have h0:VR w I κ (.l t [.b b]) v0:=h0
   have h1:VR w I κ (.i .i64 n) v1:=h1
   cases h1
   generalize hes:[AV.b b]=es at h0
   cases h0 with
   | lnil=>cases hes
   | l _ _ g o cap cs T fz sz hIg hh ht hsz hnc hsize hp h1 hcap hmax hcell=>
    subst hes
    obtain rfl:(1:Nat)=sz:=hnc (.b b) (by simp)
    have hb:cs.getD (o+0*1+0) undef= .bool b:=(hcell 0 (.b b) 0 (.b b) rfl rfl).vz
    have hlt:o<cs.size:=by simp at hsize;omega
    have hc:w.cell? ⟨g,o,none⟩=some (.bool b):=by
     simp only [yS,lR,Array.getD,hlt,dite_true] at hb
     unfold World.cell?
     simp only [hh]
     simpa [hlt] using hb
    obtain ⟨k,rfl⟩:∃ k:Nat,n=k:=⟨n.toNat,by omega⟩
    refine (Sk (n:=k) (m:=0) (cap:=cap) (by omega) hc (hI g hIg)).mono ?_
    rintro e w' ⟨rfl,h2,h3,hB⟩
    refine ⟨_,fun b=>I b∨b=w.heap.size,rfl,?_,hB.size,fun b hb=>hB.block b hb,fun b hb=>.inl hb,fun b hb=>hb.imp id fun e=>tE e.symm,fun b hb=>by rcases hb with hb | rfl;exact eb (hI b hb) hB.size;omega,hB.os,hB.output⟩
    rw [Int.toNat_natCast]
    rcases tI k with rfl | hk
    ·exact .lnil _ _ _
    ·have:=VR.l (κ:=κ) (I:=fun b=>I b∨b=w.heap.size) 4 (List.replicate k (.b b)) w.heap.size 0 k (Array.replicate k (.bool b)) 4 (0,0) 1 (.inr rfl) h2 (fun _=>⟨fun _=>⟨rfl,rfl⟩,fun h=>absurd h (lQ.2 hn0.1)⟩) (by omega)
      (fun e he=>by rw [vQ he];rfl) (by simp) (fun e he=>by rw [vQ he];rfl) (fun e he c hc=>by rw [vQ he] at hc;simp only [AV.cl,fw] at hc;subst hc;rfl) (by simp) (bQ (show k≤1000000 by omega) (by decide)) (fun j e m c he hc=>by
       have he2:=vQ (aL he)
       subst he2
       have hj:j<k:=by simpa using (dh.1 he).1
       match m,hc with
       | 0,hc=>
         obtain rfl:=aa hc
         have hr:(Array.replicate k (Value.bool b)).getD (0+j*1+0) undef= .bool b:=by
          rw [bn,eU,Nat.mul_one,lR,Array.getElem?_replicate,ab hj]
          rfl
         rw [hr]
         exact .b b)
     rwa [CB] at this
  ·cases h
 ·cases h
end Go.Proofs.YtkkkkondjclcnaaGreat.A
namespace Go.Proofs.YtkkkkondjclcnaaGreat.A
open Go Go.Proofs
def ah2(P:Program)(t:TypeId)(w:World)(e:Ending)(w':World):Prop:=
 ∃ v,e= .returned v∧(v= .slice none 0 0∨∃ g cap cs,v= .slice (some ⟨g,0,none⟩) 0 cap∧w.heap.size≤g∧w'.heap[g]? =some (.cells cs t (0,0))∧cap≤maxLen∧cs.size=cap*P.cellsOf t)∧
   w.heap.size≤w'.heap.size∧(∀ b,b<w.heap.size→w'.heap[b]? =w.heap[b]?)∧w'.os=w.os∧w'.output=w.output
theorem NR(n:Int)(h0:0≤n)(h1:n≤1000000)(w:World):Calls Tryz.prog 155 #[.slice none 0 0,.int .i64 n] w (ah2 Tryz.prog 81 w):=by
 go_enter Tryz.func155,Tryz.ntmps155
 go_wp2
 ·exfalso
  have h:281474976710656<n*(Tryz.t81.bytes:Int):=by assumption
  have hb:Tryz.t81.bytes=48:=rfl
  rw [hb] at h;omega
 ·exfalso
  have h:281474976710656<n*(Tryz.t81.bytes:Int):=by assumption
  have hb:Tryz.t81.bytes=48:=rfl
  rw [hb] at h;omega
 ·exfalso
  have h:281474976710656<Builtin.nextslicecap n.toNat 0*Tryz.t81.bytes:=by assumption
  have hb:Tryz.t81.bytes=48:=rfl
  rw [nextslicecap_zero (by omega),hb] at h;omega
 ·go_ret
  have hge:=grownCap_ge w n.toNat 0 81
  have hm:=grownCap_le_maxLen w n.toNat 0 81 (by simp [maxLen];omega)
  unfold grownCap at hge hm
  refine ⟨_,rfl,.inr ⟨w.heap.size,_,_,rfl,aS _,heap_alloc_new w _,hm,?_⟩,?_,?_,rfl,rfl⟩
  ·have hc:Tryz.prog.cellsOf 81=2:=by kernel_rfl
   rw [Array.size_append,size_zeroCells,size_zeroCells,hc,←da]
   show _*2=_*2
   congr 1
   omega
  ·show _≤(w.alloc _).heap.size
   simp
  ·intro b hb;exact heap_alloc_old w _ hb
 ·go_ret
  exact ⟨_,rfl,.inl rfl,aS _,fun _ _=>rfl,rfl,rfl⟩
theorem Xh[bJ]{ys:List AV}{t:TypeId}(h:qX 81 ys=some (.o t [])):VO Tryz.prog 155 ys t:=by
 unfold qX at h
 split at h
 ·split at h
  ·rename_i n hn
   obtain rfl:81=t:=by
    have:=aa h
    injection this
   refine ⟨⟨_,Tryz.func155,by kernel_rfl,by kernel_rfl⟩,(by have h9:Tryz.prog.cellsOf 81=2:=(by kernel_rfl);omega),fun w I κ cargs _ _ hs ha=>?_⟩
   have h0:=ha 0 _ rfl
   have h1:=ha 1 _ rfl
   have hc:=Sh hs undef
   generalize cargs.getD 0 undef=v0 at *
   generalize cargs.getD 1 undef=v1 at *
   subst hc
   cases h0
   cases h1
   exact (NR n hn.1 hn.2 w).mono fun e w' h=>h
  ·cases h
 ·cases h
end Go.Proofs.YtkkkkondjclcnaaGreat.A
