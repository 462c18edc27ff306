/- Contracts of the library, laid by program. -/
import Derived.Shelf.Bits.Mul64
import Derived.Ground.Names2Prog
import Derived.Shelf.Slices.Clone
import Derived.Test.YtkkkkondjclcnaaGreatProg
import Derived.RangeFuncNested
import Derived.RangeFuncBound
import Derived.RangeFuncCalls
import Derived.RangeFuncLeaves
import Derived.Shelf.Abstract
import Derived.LoopTactic
import Derived.Tactics2
import Derived.RegionTactic
import Derived.WalkKit
import Derived.OwnWalkIn
import Derived.TacticsInMore
import Derived.LoopNIn
import Derived.LoopIn
import Derived.Test.YtkkkkondjclcnaaGreatAbsG
import Derived.Test.YtkkkkondjclcnaaGreatAbsO
import Derived.ProofKit
import Derived.Laws.Append
import Derived.Test.YtkkkkondjclcnaaGreatAbsJ
set_option linter.all false
namespace Go.Sort
end Go.Sort
set_option maxRecDepth 100000
namespace Go.Proofs
open Go.Shelf Go.Sort
open Go.RowKit
def Tryz.Q8:Go.Shelf.Ren:=⟨fun | 212=>160 | 263=>168 | 264=>169 | n=>n,fun | 46=>208 | 51=>215 | 146=>216 | 53=>218 | 148=>219 | n=>n,fun | n=>n⟩
theorem Tryz.aae:Go.Proofs.Lays.n212 Tryz.prog Tryz.Q8:={
 mixed:=by kernel_rfl
 f212:=Tryz.func160.trans (congrArg some (by kernel_rfl))
 f263:=Tryz.func168.trans (congrArg some (by kernel_rfl))
 f264:=Tryz.func169.trans (congrArg some (by kernel_rfl))
 t46:=Tryz.underlying208
 a46:=Tryz.isAgg208
 z46:=Tryz.sizeOf208
 v46:=Tryz.zeroValue208
 t51:=Tryz.underlying215
 a51:=Tryz.isAgg215
 z51:=Tryz.sizeOf215
 v51:=Tryz.zeroValue215
 t53:=Tryz.underlying218
 a53:=Tryz.isAgg218
 z53:=Tryz.sizeOf218
 v53:=Tryz.zeroValue218
 t146:=Tryz.underlying216
 a146:=Tryz.isAgg216
 z146:=Tryz.sizeOf216
 v146:=Tryz.zeroValue216
 t148:=Tryz.underlying219
 a148:=Tryz.isAgg219
 z148:=Tryz.sizeOf219
 v148:=Tryz.zeroValue219}
theorem Tryz.bits_Mul(x y:Nat)(hx:x<18446744073709551616)(hy:y<18446744073709551616)(w:World) :
  Calls Tryz.prog 160 #[.int .u64 x,.int .u64 y] w fun e w'=>e= .returned (.tuple #[.int .u64 ((x*y / 18446744073709551616:Nat):Int),.int .u64 ((x*y % 18446744073709551616:Nat):Int)])∧w'=w:=Any.bits_Mul Tryz.aae x y hx hy w
end Go.Proofs
namespace Go.Proofs.YtkkkkondjclcnaaGreat.A
open Go Go.Proofs Go.RowKit Go.Shelf
attribute [local go_sem] Oper.semAt_some
variable [bM]
theorem aaf:∃ i,Tryz.prog.info? 4=some i∧i.zero=some (.bool false)∧i.size=1∧i.bytes=1:=by
 have h1:(Tryz.prog.info? 4).map (·.size)=some 1:=by kernel_rfl
 have h2:(Tryz.prog.info? 4).bind (·.zero)=some (.bool false):=by kernel_rfl
 have h3:(Tryz.prog.info? 4).map (·.bytes)=some 1:=by kernel_rfl
 cases h:Tryz.prog.info? 4 with
 | none=>rw [h] at h1;cases h1
 | some i=>
  rw [h] at h1 h2 h3
  exact ⟨i,rfl,by simpa using h2,by simpa using h1,by simpa using h3⟩
def GS(b:Bool)(g j n:Nat)(w:World):Prop:=∃ cs:Array Value,w.heap[g]? =some (.cells cs 4 (0,0))∧cs.size=n∧∀ i,i<j→cs[i]? =some (.bool b)
set_option maxHeartbeats 4000000 in
theorem VX{g o cap n m:Nat}{b:Bool}{w:World}(hn:n≤1000000)(hc:w.cell? ⟨g,o,none⟩=some (.bool b))(hg:g<w.heap.size) :
  Calls Tryz.prog 141 #[.slice (some ⟨g,o,none⟩) 1 cap,.int .i64 n] w fun e w'=>
   e= .returned (.slice (some ⟨w.heap.size,0,none⟩) n n)∧w'.heap[w.heap.size]? =some (.cells (Array.replicate n (.bool b)) 4 (0,0))∧w'.heap.size=w.heap.size+1∧Below w.heap.size w w':=by
 have hM:Calls Tryz.prog 160 #[.int .u64 1,.int .u64 n] w fun e w'=>e= .returned (.tuple #[.int .u64 0,.int .u64 n])∧w'=w:=by
  have:=Tryz.bits_Mul 1 n (by omega) (by omega) w
  rw [show 1*n / 18446744073709551616=0 by omega,show 1*n % 18446744073709551616=n by omega] at this
  exact this
 have av:decide ((9223372036854775807:Int)<n)=false:=by simp;omega
 have au:¬((9223372036854775807:Int)<n):=by omega
 obtain ⟨ti,hi,hz,hs,L⟩:=aaf
 have hu:Tryz.prog.underlying 43=some (.slice 4):=Tryz.underlying43
 have V:(Instr.makeSlice 43 (.int .i64 n) (.int .i64 n)).run Tryz.prog w= .ok (.slice (some ⟨w.heap.size,0,none⟩) n n) (w.alloc (.cells (madeCells #[.bool false] n) 4)):=by
  have:=run_make (P:=Tryz.prog) w 43 4 ti (.bool false) hu hi hz .i64 .i64 n n (by omega) (Int.le_refl _) (by rw [L];omega) (by omega)
  simpa [hs,Value.cells] using this
 have D:∀ (W:World)(j k dLen dCap sLen sCap:Nat)(a:Addr),GS b w.heap.size j n W→j+k≤n→Nat.min sLen dLen=k→(∀ i,i<k→W.cell? (a.add i)=some (.bool b))→
   ∃ W',(Builtin.copy_ #[43,43] 3 #[.slice (some ⟨w.heap.size,j,none⟩) dLen dCap,.slice (some a) sLen sCap]).run Tryz.prog W= .ok (.int .i64 k) W'∧GS b w.heap.size (j+k) n W'∧W'.heap.size=W.heap.size∧Below w.heap.size W W':=fun W j k dLen dCap sLen sCap a hf h2 hk h3=>by
  obtain ⟨cur,h1,Q,ag⟩:=hf
  have:=run_copy_row (P:=Tryz.prog) W 43 43 3 4 w.heap.size j dLen dCap a sLen sCap cur 4 (List.replicate k (.bool b)) hu (by rw [hi];simp [hs]) h1 (by simpa using hk.symm) (fun i v hj=>by
   rw [List.getElem?_replicate] at hj
   split at hj
   ·obtain rfl:=af hj
    exact h3 i (by assumption)
   ·cases hj) (by simp;omega) (fun v hv=>by rw [yw hv];rfl)
  refine ⟨_,by simpa [goInt] using this,⟨_,setRow_heap _ _ _ _ _ _ h1,by simp;omega,fun i ar=>?_⟩,by simp,⟨rfl,rfl,rfl,by simp,fun k hk=>setRow_other _ _ _ _ (by omega)⟩⟩
  have hm:min j cur.size=j:=by omega
  by_cases E:i<j
  ·rw [←ag i E,BG,uZ (by simp;omega),List.getElem?_take_of_lt E,Array.getElem?_toList]
  ·rw [BG,vz (by simp;omega),uZ (by simp;omega),List.getElem?_replicate,ab (by simp;omega)]
 have J:GS b w.heap.size 0 n (w.alloc (.cells (madeCells #[.bool false] n) 4)):=⟨madeCells #[.bool false] n,World.alloc_heap_new _ _,by simp [madeCells],fun i hi=>absurd hi (Nat.not_lt_zero _)⟩
 obtain ⟨k0,aa,Z,Y⟩:∃ k0,Nat.min 1 n=k0∧k0≤n∧(0<n→0<k0):=⟨_,rfl,FB _ _,fun h=>by show 0<min 1 n;omega⟩
 obtain ⟨W1,ak,H,r,N⟩:=D _ 0 k0 n n 1 cap ⟨g,o,none⟩ J (by omega) aa (fun i hi=>by
  have:Nat.min 1 n≤1:=Nat.min_le_left _ _
  obtain rfl:i=0:=by omega
  have ha:(⟨g,o,none⟩:Addr).add 0=⟨g,o,none⟩:=by unfold Addr.add;simp
  rw [ha]
  exact (World.cell?_of_block (w:=w) (Below.heap_alloc _ _ _ hg)).trans hc)
 refine calls_of_wp Tryz.func141 rfl ?_
 simp only [Tryz.ntmps141,rX,cC,jk,Nat.reduceAdd,Nat.reduceSub,vD,vE,vG,vH,dZ,eJ]
 go_wp2_with (go_at_call 160;refine hM.mono ?_;clear hM;rintro _ w1 ⟨rfl,hw⟩;have O:=hw.symm;subst O)
 go_loopw [8] (fun p wr=>∃ j:Nat,p= .int .i64 j∧j≤n∧(0<n→0<j)∧GS b w.heap.size j n wr∧wr.heap.size=w.heap.size+1∧Below w.heap.size w wr) (fun p wr=>n - (intOf p).toNat)
 case atStart=>exact ⟨k0,rfl,Z,Y,by simpa using H,by simpa using r,((Below.refl _ w).alloc (aV _) _).trans N⟩
 case round=>
  obtain ⟨j,rfl,ap,ac,F,f,M⟩:=hrel
  by_cases C:j<n
  ·have u:GS b w.heap.size j n wr.drew:=F
   obtain ⟨W2,aj,G,B,am⟩:=D wr.drew j (Nat.min j (n - j)) (n - j) (n - j) j n ⟨w.heap.size,0,none⟩ u (by have:Nat.min j (n - j)≤n - j:=FB _ _;omega) rfl (fun i hi=>by
    obtain ⟨cs,h1,h2,h3⟩:=u
    have:Nat.min j (n - j)≤j:=Nat.min_le_left _ _
    have h4:=h3 i (by omega)
    have ha:(⟨w.heap.size,0,none⟩:Addr).add i=⟨w.heap.size,i,none⟩:=by unfold Addr.add;split<;>simp_all
    rw [ha]
    simpa [World.cell?,h1] using h4)
   obtain ⟨q,hq⟩:∃ q,Nat.min j (n - j)=q:=⟨_,rfl⟩
   have an:q≤n - j∧0<q:=by
    have h1:Nat.min j (n - j)≤n - j:=FB _ _
    have h2:0<j:=ac (by omega)
    have h3:0<min j (n - j):=by omega
    exact ⟨hq▸h1,hq▸h3⟩
   rw [hq] at aj G
   go_wp2
   have ao:¬n=j:=by omega
   have ax:(0:Int)≤j:=by omega
   have aw:(j:Int)≤n:=by omega
   clear D V hi hz hs L ak H r N J
   go_region
   go_wp2
   refine ⟨⟨j+q,by simp,by omega,fun _=>by omega,G,by rw [B];exact f,M.trans (Below.trans (b:=wr.drew) ⟨rfl,rfl,rfl,aV _,fun _ _=>rfl⟩ am)⟩,?_⟩
   simp only [intOf]
   omega
  ·obtain rfl:j=n:=by omega
   go_wp2
   obtain ⟨cs,h1,h2,h3⟩:=F
   refine ⟨rfl,_,results_tmp rfl _ _ _,rfl,?_,f,M⟩
   have:cs=Array.replicate j (.bool b):=by
    apply yv (by simp [h2])
    intro i ad aq
    have:=h3 i (by omega)
    simpa [kP ad] using this
   rw [←this]
   exact h1
theorem Y4{ys:List AV}{x:AV}(h:vW 4 ys=some x):pa Tryz.prog 141 ys x:=by
 unfold vW at h
 split at h
 ·rename_i t b n
  split at h
  ·rename_i hn
   obtain rfl:=af h
   refine ⟨⟨Tryz.f141,Tryz.func141,rfl,by decide⟩,fun w I κ d U hI hs ha=>?_⟩
   have h0:=ha 0 _ rfl
   have h1:=ha 1 _ rfl
   obtain ⟨v0,v1,rfl⟩:∃ v0 v1,d=#[v0,v1]:=by
    have R:d.size=2:=hs
    exact ⟨d.getD 0 undef,d.getD 1 undef,by
     apply yv (by simpa using R)
     intro i h1 h2
     have:i=0∨i=1:=by omega
     rcases this with rfl | rfl<;>simp [Array.getD,h1]⟩
   have h0:VR w I κ (.l t [.b b]) v0:=h0
   have h1:VR w I κ (.i .i64 n) v1:=h1
   cases h1
   generalize K:[AV.b b]=es at h0
   cases h0 with
   | lnil=>cases K
   | l _ _ g o cap cs T fz sz al hh ht Q S s hp h1 ai X z=>
    subst K
    obtain rfl:(1:Nat)=sz:=S (.b b) (by simp)
    have hb:cs.getD (o+0*1+0) undef= .bool b:=(z 0 (.b b) 0 (.b b) rfl rfl).rE
    have C:o<cs.size:=by simp at s;omega
    have hc:w.cell? ⟨g,o,none⟩=some (.bool b):=by
     simp only [BH,oC,Array.getD,C,dite_true] at hb
     unfold World.cell?
     simp only [hh]
     simpa [C] using hb
    obtain ⟨k,rfl⟩:∃ k:Nat,n=k:=⟨n.toNat,by omega⟩
    refine (VX (n:=k) (m:=0) (cap:=cap) (by omega) hc (hI g al)).mono ?_
    rintro e w' ⟨rfl,h2,h3,hB⟩
    refine ⟨_,fun b=>I b∨b=w.heap.size,rfl,?_,hB.size,fun b hb=>hB.block b hb,fun b hb=>.inl hb,fun b hb=>hb.imp id fun e=>vt e.symm,fun b hb=>by rcases hb with hb | rfl;exact ea (hI b hb) hB.size;omega,hB.os,hB.output⟩
    rw [Int.toNat_natCast]
    rcases Nat.eq_zero_or_pos k with rfl | hk
    ·exact .lnil _ _ _
    ·have:=VR.l (κ:=κ) (I:=fun b=>I b∨b=w.heap.size) 4 (List.replicate k (.b b)) w.heap.size 0 k (Array.replicate k (.bool b)) 4 (0,0) 1 (.inr rfl) h2 (fun _=>⟨fun _=>⟨rfl,rfl⟩,fun h=>absurd h (oB.2 U.1)⟩) (by omega)
      (fun e he=>by rw [yw he];rfl) (by simp) (fun e he=>by rw [yw he];rfl) (fun e he c hc=>by rw [yw he] at hc;simp only [AV.cl,jj] at hc;subst hc;rfl) (by simp) (bS (show k≤1000000 by omega) (by decide)) (fun j e m c he hc=>by
       have ah:=yw (bg he)
       subst ah
       have hj:j<k:=by simpa using (eb.1 he).1
       match m,hc with
       | 0,hc=>
         obtain rfl:=af hc
         have hr:(Array.replicate k (Value.bool b)).getD (0+j*1+0) undef= .bool b:=by
          rw [dK,gh,Nat.mul_one,oC,Array.getElem?_replicate,ab hj]
          rfl
         rw [hr]
         exact .b b)
     rwa [Fv] at this
  ·cases h
 ·cases h
end Go.Proofs.YtkkkkondjclcnaaGreat.A
namespace Go.Proofs.YtkkkkondjclcnaaGreat.A
open Go Go.Proofs
def akL(P:Program)(t:TypeId)(w:World)(e:Ending)(w':World):Prop:=
 ∃ v,e= .returned v∧(v= .slice none 0 0∨∃ g cap cs,v= .slice (some ⟨g,0,none⟩) 0 cap∧w.heap.size≤g∧w'.heap[g]? =some (.cells cs t (0,0))∧cap≤maxLen∧cs.size=cap*P.cellsOf t)∧
   w.heap.size≤w'.heap.size∧(∀ b,b<w.heap.size→w'.heap[b]? =w.heap[b]?)∧w'.os=w.os∧w'.output=w.output
theorem Q9(n:Int)(h0:0≤n)(h1:n≤1000000)(w:World):Calls Tryz.prog 155 #[.slice none 0 0,.int .i64 n] w (akL Tryz.prog 81 w):=by
 go_enter Tryz.func155,Tryz.ntmps155
 go_wp2
 ·exfalso
  have h:281474976710656<n*(Tryz.t81.bytes:Int):=by assumption
  have hb:Tryz.t81.bytes=48:=rfl
  rw [hb] at h;omega
 ·exfalso
  have h:281474976710656<n*(Tryz.t81.bytes:Int):=by assumption
  have hb:Tryz.t81.bytes=48:=rfl
  rw [hb] at h;omega
 ·exfalso
  have h:281474976710656<Builtin.nextslicecap n.toNat 0*Tryz.t81.bytes:=by assumption
  have hb:Tryz.t81.bytes=48:=rfl
  rw [nextslicecap_zero (by omega),hb] at h;omega
 ·go_ret
  have ae:=grownCap_ge w n.toNat 0 81
  have hm:=grownCap_le_maxLen w n.toNat 0 81 (by simp [maxLen];omega)
  unfold grownCap at ae hm
  refine ⟨_,rfl,.inr ⟨w.heap.size,_,_,rfl,aV _,heap_alloc_new w _,hm,?_⟩,?_,?_,rfl,rfl⟩
  ·have hc:Tryz.prog.cellsOf 81=2:=by kernel_rfl
   rw [Array.size_append,size_zeroCells,size_zeroCells,hc,←fF]
   show _*2=_*2
   congr 1
   omega
  ·show _≤(w.alloc _).heap.size
   simp
  ·intro b hb;exact heap_alloc_old w _ hb
 ·go_ret
  exact ⟨_,rfl,.inl rfl,aV _,fun _ _=>rfl,rfl,rfl⟩
theorem Sv[bM]{ys:List AV}{t:TypeId}(h:rq 81 ys=some (.o t [])):YK Tryz.prog 155 ys t:=by
 unfold rq at h
 split at h
 ·split at h
  ·rename_i n hn
   obtain rfl:81=t:=by
    have:=af h
    injection this
   refine ⟨⟨_,Tryz.func155,by kernel_rfl,by kernel_rfl⟩,(by have h9:Tryz.prog.cellsOf 81=2:=(by kernel_rfl);omega),fun w I κ d _ _ hs ha=>?_⟩
   have h0:=ha 0 _ rfl
   have h1:=ha 1 _ rfl
   have hc:=VU hs undef
   generalize d.getD 0 undef=v0 at *
   generalize d.getD 1 undef=v1 at *
   subst hc
   cases h0
   cases h1
   exact (Q9 n hn.1 hn.2 w).mono fun e w' h=>h
  ·cases h
 ·cases h
end Go.Proofs.YtkkkkondjclcnaaGreat.A
