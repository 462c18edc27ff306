/- Contracts of the library, laid by program. -/
import Derived.Shelf.Bits.Mul64
import Derived.Ground.Names2Prog
import Derived.Shelf.Slices.Clone
import Derived.Test.YtlmphbbhaeampaaGreatProg
import Derived.RangeFuncNested
import Derived.RangeFuncBound
import Derived.RangeFuncCalls
import Derived.RangeFuncLeaves
import Derived.Shelf.Abstract
import Derived.LoopTactic
import Derived.Tactics2
import Derived.RegionTactic
import Derived.WalkKit
import Derived.OwnWalkIn
import Derived.TacticsInMore
import Derived.LoopNIn
import Derived.LoopIn
import Derived.Test.YtlmphbbhaeampaaGreatAbsG
import Derived.Test.YtlmphbbhaeampaaGreatAbsO
import Derived.ProofKit
import Derived.Laws.Append
import Derived.Test.YtlmphbbhaeampaaGreatAbsJ
set_option linter.all false
namespace Go.Sort
end Go.Sort
set_option maxRecDepth 100000
namespace Go.Proofs
open Go.Shelf Go.Sort
open Go.RowKit
def Tryz.RZ:Go.Shelf.Ren:=⟨fun | 212=>148 | 263=>188 | 264=>189 | n=>n,fun | 46=>219 | 51=>241 | 146=>242 | 53=>244 | 148=>245 | n=>n,fun | n=>n⟩
theorem Tryz.aau:Go.Proofs.Lays.n212 Tryz.prog Tryz.RZ:={
 mixed:=by kernel_rfl
 f212:=Tryz.func148.trans (congrArg some (by kernel_rfl))
 f263:=Tryz.func188.trans (congrArg some (by kernel_rfl))
 f264:=Tryz.func189.trans (congrArg some (by kernel_rfl))
 t46:=Tryz.underlying219
 a46:=Tryz.isAgg219
 z46:=Tryz.sizeOf219
 v46:=Tryz.zeroValue219
 t51:=Tryz.underlying241
 a51:=Tryz.isAgg241
 z51:=Tryz.sizeOf241
 v51:=Tryz.zeroValue241
 t53:=Tryz.underlying244
 a53:=Tryz.isAgg244
 z53:=Tryz.sizeOf244
 v53:=Tryz.zeroValue244
 t146:=Tryz.underlying242
 a146:=Tryz.isAgg242
 z146:=Tryz.sizeOf242
 v146:=Tryz.zeroValue242
 t148:=Tryz.underlying245
 a148:=Tryz.isAgg245
 z148:=Tryz.sizeOf245
 v148:=Tryz.zeroValue245}
theorem Tryz.bits_Mul(x y:Nat)(hx:x<18446744073709551616)(hy:y<18446744073709551616)(w:World) :
  Calls Tryz.prog 148 #[.int .u64 x,.int .u64 y] w fun e w'=>e= .returned (.tuple #[.int .u64 ((x*y / 18446744073709551616:Nat):Int),.int .u64 ((x*y % 18446744073709551616:Nat):Int)])∧w'=w:=Any.bits_Mul Tryz.aau x y hx hy w
end Go.Proofs
namespace Go.Proofs.YtlmphbbhaeampaaGreat.A
open Go Go.Proofs Go.RowKit Go.Shelf
attribute [local go_sem] Oper.semAt_some
variable [cN]
theorem aav:∃ i,Tryz.prog.info? 4=some i∧i.zero=some (.bool false)∧i.size=1∧i.bytes=1:=by
 have h1:(Tryz.prog.info? 4).map (·.size)=some 1:=by kernel_rfl
 have h2:(Tryz.prog.info? 4).bind (·.zero)=some (.bool false):=by kernel_rfl
 have h3:(Tryz.prog.info? 4).map (·.bytes)=some 1:=by kernel_rfl
 cases h:Tryz.prog.info? 4 with
 | none=>rw [h] at h1;cases h1
 | some i=>
  rw [h] at h1 h2 h3
  exact ⟨i,rfl,by simpa using h2,by simpa using h1,by simpa using h3⟩
def HE(b:Bool)(g j n:Nat)(w:World):Prop:=∃ cs:Array Value,w.heap[g]? =some (.cells cs 4 (0,0))∧cs.size=n∧∀ i,i<j→cs[i]? =some (.bool b)
set_option maxHeartbeats 4000000 in
theorem WD{g o cap n m:Nat}{b:Bool}{w:World}(hn:n≤1000000)(hc:w.cell? ⟨g,o,none⟩=some (.bool b))(hg:g<w.heap.size) :
  Calls Tryz.prog 112 #[.slice (some ⟨g,o,none⟩) 1 cap,.int .i64 n] w fun e w'=>
   e= .returned (.slice (some ⟨w.heap.size,0,none⟩) n n)∧w'.heap[w.heap.size]? =some (.cells (Array.replicate n (.bool b)) 4 (0,0))∧w'.heap.size=w.heap.size+1∧Below w.heap.size w w':=by
 have hM:Calls Tryz.prog 148 #[.int .u64 1,.int .u64 n] w fun e w'=>e= .returned (.tuple #[.int .u64 0,.int .u64 n])∧w'=w:=by
  have:=Tryz.bits_Mul 1 n (by omega) (by omega) w
  rw [show 1*n / 18446744073709551616=0 by omega,show 1*n % 18446744073709551616=n by omega] at this
  exact this
 have av:decide ((9223372036854775807:Int)<n)=false:=by simp;omega
 have au:¬((9223372036854775807:Int)<n):=by omega
 obtain ⟨ti,hi,hz,hs,L⟩:=aav
 have hu:Tryz.prog.underlying 32=some (.slice 4):=Tryz.underlying32
 have V:(Instr.makeSlice 32 (.int .i64 n) (.int .i64 n)).run Tryz.prog w= .ok (.slice (some ⟨w.heap.size,0,none⟩) n n) (w.alloc (.cells (madeCells #[.bool false] n) 4)):=by
  have:=run_make (P:=Tryz.prog) w 32 4 ti (.bool false) hu hi hz .i64 .i64 n n (by omega) (oP _) (by rw [L];omega) (by omega)
  simpa [hs,Value.cells] using this
 have D:∀ (W:World)(j k dLen dCap sLen sCap:Nat)(a:Addr),HE b w.heap.size j n W→j+k≤n→Nat.min sLen dLen=k→(∀ i,i<k→W.cell? (a.add i)=some (.bool b))→
   ∃ W',(Builtin.copy_ #[32,32] 3 #[.slice (some ⟨w.heap.size,j,none⟩) dLen dCap,.slice (some a) sLen sCap]).run Tryz.prog W= .ok (.int .i64 k) W'∧HE b w.heap.size (j+k) n W'∧W'.heap.size=W.heap.size∧Below w.heap.size W W':=fun W j k dLen dCap sLen sCap a hf h2 hk h3=>by
  obtain ⟨cur,h1,Q,ae⟩:=hf
  have:=run_copy_row (P:=Tryz.prog) W 32 32 3 4 w.heap.size j dLen dCap a sLen sCap cur 4 (List.replicate k (.bool b)) hu (by rw [hi];simp [hs]) h1 (by simpa using hk.symm) (fun i v hj=>by
   rw [List.getElem?_replicate] at hj
   split at hj
   ·obtain rfl:=aq hj
    exact h3 i (by assumption)
   ·cases hj) (by simp;omega) (fun v hv=>by rw [u4 hv];rfl)
  refine ⟨_,by simpa [goInt] using this,⟨_,setRow_heap _ _ _ _ _ _ h1,by simp;omega,fun i ar=>?_⟩,by simp,⟨rfl,rfl,rfl,by simp,fun k hk=>setRow_other _ _ _ _ (by omega)⟩⟩
  have hm:min j cur.size=j:=by omega
  by_cases E:i<j
  ·rw [←ae i E,B3,xx (by simp;omega),List.getElem?_take_of_lt E,Array.getElem?_toList]
  ·rw [B3,yU (by simp;omega),xx (by simp;omega),List.getElem?_replicate,af (by simp;omega)]
 have J:HE b w.heap.size 0 n (w.alloc (.cells (madeCells #[.bool false] n) 4)):=⟨madeCells #[.bool false] n,World.alloc_heap_new _ _,by simp [madeCells],fun i hi=>absurd hi (Nat.not_lt_zero _)⟩
 obtain ⟨k0,aa,Z,Y⟩:∃ k0,Nat.min 1 n=k0∧k0≤n∧(0<n→0<k0):=⟨_,rfl,Gf _ _,fun h=>by show 0<min 1 n;omega⟩
 obtain ⟨W1,aj,H,r,N⟩:=D _ 0 k0 n n 1 cap ⟨g,o,none⟩ J (by omega) aa (fun i hi=>by
  have:Nat.min 1 n≤1:=Nat.min_le_left _ _
  obtain rfl:i=0:=by omega
  have ha:(⟨g,o,none⟩:Addr).add 0=⟨g,o,none⟩:=by unfold Addr.add;simp
  rw [ha]
  exact (World.cell?_of_block (w:=w) (Below.heap_alloc _ _ _ hg)).trans hc)
 refine calls_of_wp Tryz.func112 rfl ?_
 simp only [Tryz.ntmps112,xw,fj,uY,Nat.reduceAdd,Nat.reduceSub,Cc,Cd,Ce,Cf,gw,fk]
 go_wp2_with (go_at_call 148;refine hM.mono ?_;clear hM;rintro _ w1 ⟨rfl,hw⟩;have O:=hw.symm;subst O)
 go_loopw [8] (fun p wr=>∃ j:Nat,p= .int .i64 j∧j≤n∧(0<n→0<j)∧HE b w.heap.size j n wr∧wr.heap.size=w.heap.size+1∧Below w.heap.size w wr) (fun p wr=>n - (intOf p).toNat)
 case atStart=>exact ⟨k0,rfl,Z,Y,by simpa using H,by simpa using r,((Below.refl _ w).alloc (bG _) _).trans N⟩
 case round=>
  obtain ⟨j,rfl,ao,ab,F,f,M⟩:=hrel
  by_cases C:j<n
  ·have u:HE b w.heap.size j n wr.drew:=F
   obtain ⟨W2,ai,G,B,al⟩:=D wr.drew j (Nat.min j (n - j)) (n - j) (n - j) j n ⟨w.heap.size,0,none⟩ u (by have:Nat.min j (n - j)≤n - j:=Gf _ _;omega) rfl (fun i hi=>by
    obtain ⟨cs,h1,h2,h3⟩:=u
    have:Nat.min j (n - j)≤j:=Nat.min_le_left _ _
    have h4:=h3 i (by omega)
    have ha:(⟨w.heap.size,0,none⟩:Addr).add i=⟨w.heap.size,i,none⟩:=by unfold Addr.add;split<;>simp_all
    rw [ha]
    simpa [World.cell?,h1] using h4)
   obtain ⟨q,hq⟩:∃ q,Nat.min j (n - j)=q:=⟨_,rfl⟩
   have am:q≤n - j∧0<q:=by
    have h1:Nat.min j (n - j)≤n - j:=Gf _ _
    have h2:0<j:=ab (by omega)
    have h3:0<min j (n - j):=by omega
    exact ⟨hq▸h1,hq▸h3⟩
   rw [hq] at ai G
   go_wp2
   have an:¬n=j:=by omega
   have ax:(0:Int)≤j:=by omega
   have aw:(j:Int)≤n:=by omega
   clear D V hi hz hs L aj H r N J
   go_region
   go_wp2
   refine ⟨⟨j+q,by simp,by omega,fun _=>by omega,G,by rw [B];exact f,M.trans (Below.trans (b:=wr.drew) ⟨rfl,rfl,rfl,bG _,fun _ _=>rfl⟩ al)⟩,?_⟩
   simp only [intOf]
   omega
  ·obtain rfl:j=n:=by omega
   go_wp2
   obtain ⟨cs,h1,h2,h3⟩:=F
   refine ⟨rfl,_,results_tmp rfl _ _ _,rfl,?_,f,M⟩
   have:cs=Array.replicate j (.bool b):=by
    apply yY (by simp [h2])
    intro i ac ap
    have:=h3 i (by omega)
    simpa [p9 ac] using this
   rw [←this]
   exact h1
theorem amK{ys:List AV}{x:AV}(h:xK 4 ys=some x):Gt Tryz.prog 112 ys x:=by
 unfold xK at h
 split at h
 ·rename_i t b n
  split at h
  ·rename_i hn
   obtain rfl:=aq h
   refine ⟨⟨Tryz.f112,Tryz.func112,rfl,by decide⟩,fun w I κ d U hI hs ha=>?_⟩
   have h0:=ha 0 _ rfl
   have h1:=ha 1 _ rfl
   obtain ⟨v0,v1,rfl⟩:∃ v0 v1,d=#[v0,v1]:=by
    have R:d.size=2:=hs
    exact ⟨d.getD 0 undef,d.getD 1 undef,by
     apply yY (by simpa using R)
     intro i h1 h2
     have:i=0∨i=1:=by omega
     rcases this with rfl | rfl<;>simp [Array.getD,h1]⟩
   have h0:VR w I κ (.l t [.b b]) v0:=h0
   have h1:VR w I κ (.i .i64 n) v1:=h1
   cases h1
   generalize K:[AV.b b]=es at h0
   cases h0 with
   | lnil=>cases K
   | l _ _ g o cap cs T fz sz ak hh ht Q S s hp h1 ah X z=>
    subst K
    obtain rfl:(1:Nat)=sz:=S (.b b) (by simp)
    have hb:cs.getD (o+0*1+0) undef= .bool b:=(z 0 (.b b) 0 (.b b) rfl rfl).yG
    have C:o<cs.size:=by simp at s;omega
    have hc:w.cell? ⟨g,o,none⟩=some (.bool b):=by
     simp only [Nat.zero_mul,p8,Array.getD,C,dite_true] at hb
     unfold World.cell?
     simp only [hh]
     simpa [C] using hb
    obtain ⟨k,rfl⟩:∃ k:Nat,n=k:=⟨n.toNat,by omega⟩
    refine (WD (n:=k) (m:=0) (cap:=cap) (by omega) hc (hI g ak)).mono ?_
    rintro e w' ⟨rfl,h2,h3,hB⟩
    refine ⟨_,fun b=>I b∨b=w.heap.size,rfl,?_,hB.size,fun b hb=>hB.block b hb,fun b hb=>.inl hb,fun b hb=>hb.imp id fun e=>xt e.symm,fun b hb=>by rcases hb with hb | rfl;exact fO (hI b hb) hB.size;omega,hB.os,hB.output⟩
    rw [Int.toNat_natCast]
    rcases Nat.eq_zero_or_pos k with rfl | hk
    ·exact .lnil _ _ _
    ·have:=VR.l (κ:=κ) (I:=fun b=>I b∨b=w.heap.size) 4 (List.replicate k (.b b)) w.heap.size 0 k (Array.replicate k (.bool b)) 4 (0,0) 1 (.inr rfl) h2 (fun _=>⟨fun _=>⟨rfl,rfl⟩,fun h=>absurd h (rX.2 U.1)⟩) (by omega)
      (fun e he=>by rw [u4 he];rfl) (by simp) (fun e he=>by rw [u4 he];rfl) (fun e he c hc=>by rw [u4 he] at hc;simp only [AV.cl,oM] at hc;subst hc;rfl) (by simp) (eC (show k≤1000000 by omega) (by decide)) (fun j e m c he hc=>by
       have ag:=u4 (cm he)
       subst ag
       have hj:j<k:=by simpa using (AN.1 he).1
       match m,hc with
       | 0,hc=>
         obtain rfl:=aq hc
         have hr:(Array.replicate k (Value.bool b)).getD (0+j*1+0) undef= .bool b:=by
          rw [iy,jL,Nat.mul_one,p8,Array.getElem?_replicate,af hj]
          rfl
         rw [hr]
         exact .b b)
     rwa [Ga] at this
  ·cases h
 ·cases h
end Go.Proofs.YtlmphbbhaeampaaGreat.A
namespace Go.Proofs.YtlmphbbhaeampaaGreat.A
open Go Go.Proofs
def amM(P:Program)(t:TypeId)(w:World)(e:Ending)(w':World):Prop:=
 ∃ v,e= .returned v∧(v= .slice none 0 0∨∃ g cap cs,v= .slice (some ⟨g,0,none⟩) 0 cap∧w.heap.size≤g∧w'.heap[g]? =some (.cells cs t (0,0))∧cap≤maxLen∧cs.size=cap*P.cellsOf t)∧
   w.heap.size≤w'.heap.size∧(∀ b,b<w.heap.size→w'.heap[b]? =w.heap[b]?)∧w'.os=w.os∧w'.output=w.output
theorem R0(n:Int)(h0:0≤n)(h1:n≤1000000)(w:World):Calls Tryz.prog 204 #[.slice none 0 0,.int .i64 n] w (amM Tryz.prog 83 w):=by
 go_enter Tryz.func204,Tryz.ntmps204
 go_wp2
 ·exfalso
  have h:281474976710656<n*(Tryz.t83.bytes:Int):=by assumption
  have hb:Tryz.t83.bytes=48:=rfl
  rw [hb] at h;omega
 ·exfalso
  have h:281474976710656<n*(Tryz.t83.bytes:Int):=by assumption
  have hb:Tryz.t83.bytes=48:=rfl
  rw [hb] at h;omega
 ·exfalso
  have h:281474976710656<Builtin.nextslicecap n.toNat 0*Tryz.t83.bytes:=by assumption
  have hb:Tryz.t83.bytes=48:=rfl
  rw [nextslicecap_zero (by omega),hb] at h;omega
 ·go_ret
  have ad:=grownCap_ge w n.toNat 0 83
  have hm:=grownCap_le_maxLen w n.toNat 0 83 (by simp [maxLen];omega)
  unfold grownCap at ad hm
  refine ⟨_,rfl,.inr ⟨w.heap.size,_,_,rfl,bG _,heap_alloc_new w _,hm,?_⟩,?_,?_,rfl,rfl⟩
  ·have hc:Tryz.prog.cellsOf 83=2:=by kernel_rfl
   rw [Array.size_append,size_zeroCells,size_zeroCells,hc,←fQ]
   show _*2=_*2
   congr 1
   omega
  ·show _≤(w.alloc _).heap.size
   simp
  ·intro b hb;exact heap_alloc_old w _ hb
 ·go_ret
  exact ⟨_,rfl,.inl rfl,bG _,fun _ _=>rfl,rfl,rfl⟩
theorem aaw[cN]{ys:List AV}{t:TypeId}(h:sX 83 ys=some (.o t [])):Y6 Tryz.prog 204 ys t:=by
 unfold sX at h
 split at h
 ·split at h
  ·rename_i n hn
   obtain rfl:83=t:=by
    have:=aq h
    injection this
   refine ⟨⟨_,Tryz.func204,by kernel_rfl,by kernel_rfl⟩,(by have h9:Tryz.prog.cellsOf 83=2:=(by kernel_rfl);omega),fun w I κ d _ _ hs ha=>?_⟩
   have h0:=ha 0 _ rfl
   have h1:=ha 1 _ rfl
   have hc:=WA hs undef
   generalize d.getD 0 undef=v0 at *
   generalize d.getD 1 undef=v1 at *
   subst hc
   cases h0
   cases h1
   exact (R0 n hn.1 hn.2 w).mono fun e w' h=>h
  ·cases h
 ·cases h
end Go.Proofs.YtlmphbbhaeampaaGreat.A
