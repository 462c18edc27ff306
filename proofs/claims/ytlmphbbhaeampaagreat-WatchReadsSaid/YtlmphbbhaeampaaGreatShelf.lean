/- Contracts of the library, laid by program. -/
import Derived.Shelf.Bits.Mul64
import Derived.Ground.Names2Prog
import Derived.Shelf.Slices.Clone
import Derived.Test.YtlmphbbhaeampaaGreatProg
import Derived.RangeFuncNested
import Derived.RangeFuncBound
import Derived.RangeFuncCalls
import Derived.RangeFuncLeaves
import Derived.Shelf.Abstract
import Derived.LoopTactic
import Derived.Tactics2
import Derived.RegionTactic
import Derived.WalkKit
import Derived.OwnWalkIn
import Derived.TacticsInMore
import Derived.LoopNIn
import Derived.LoopIn
import Derived.Test.YtlmphbbhaeampaaGreatAbsG
import Derived.Test.YtlmphbbhaeampaaGreatAbsO
import Derived.ProofKit
import Derived.Laws.Append
import Derived.Test.YtlmphbbhaeampaaGreatAbsJ
set_option linter.all false
namespace Go.Sort
end Go.Sort
set_option maxRecDepth 100000
namespace Go.Proofs
open Go.Shelf Go.Sort
open Go.RowKit
def Tryz.Ol:Go.Shelf.Ren:=⟨fun | 212=>148 | 263=>188 | 264=>189 | n=>n,fun | 46=>219 | 51=>241 | 146=>242 | 53=>244 | 148=>245 | n=>n,fun | n=>n⟩
theorem Tryz.WA:Go.Proofs.Lays.n212 Tryz.prog Tryz.Ol:={
 mixed:=by kernel_rfl
 f212:=Tryz.func148.trans (congrArg some (by kernel_rfl))
 f263:=Tryz.func188.trans (congrArg some (by kernel_rfl))
 f264:=Tryz.func189.trans (congrArg some (by kernel_rfl))
 t46:=Tryz.underlying219
 a46:=Tryz.isAgg219
 z46:=Tryz.sizeOf219
 v46:=Tryz.zeroValue219
 t51:=Tryz.underlying241
 a51:=Tryz.isAgg241
 z51:=Tryz.sizeOf241
 v51:=Tryz.zeroValue241
 t53:=Tryz.underlying244
 a53:=Tryz.isAgg244
 z53:=Tryz.sizeOf244
 v53:=Tryz.zeroValue244
 t146:=Tryz.underlying242
 a146:=Tryz.isAgg242
 z146:=Tryz.sizeOf242
 v146:=Tryz.zeroValue242
 t148:=Tryz.underlying245
 a148:=Tryz.isAgg245
 z148:=Tryz.sizeOf245
 v148:=Tryz.zeroValue245}
theorem Tryz.bits_Mul(x y:Nat)(hx:x<18446744073709551616)(hy:y<18446744073709551616)(w:World) :
  Calls Tryz.prog 148 #[.int .u64 x,.int .u64 y] w fun e w'=>e= .returned (.tuple #[.int .u64 ((x*y / 18446744073709551616:Nat):Int),.int .u64 ((x*y % 18446744073709551616:Nat):Int)])∧w'=w:=Any.bits_Mul Tryz.WA x y hx hy w
def Tryz.La:Go.Shelf.Ren:=⟨fun | 15=>36 | n=>n,fun | 22=>25 | 3=>3 | 4=>4 | n=>n,fun | n=>n⟩
theorem Tryz.EH:Go.Proofs.Lays2.n15 Tryz.prog Tryz.La:={
 mixed:=by kernel_rfl
 f15:=Tryz.func36.trans (congrArg some (by kernel_rfl))
 t3:=Tryz.underlying3
 a3:=Tryz.isAgg3
 z3:=Tryz.sizeOf3
 v3:=Tryz.zeroValue3
 t4:=Tryz.underlying4
 a4:=Tryz.isAgg4
 z4:=Tryz.sizeOf4
 v4:=Tryz.zeroValue4
 t22:=Tryz.underlying25
 a22:=Tryz.isAgg25
 z22:=Tryz.sizeOf25
 v22:=Tryz.zeroValue25
 i3:=by kernel_rfl}
theorem Tryz.slices_Clone_int(b off n c:Nat)(zs:List Int)(w:World)(hz:n≤zs.length)(O:n*8≤140737488355328)(hc:∀ j,j<zs.length→w.cell? ⟨b,off+j,none⟩=some (.int .i64 (zs.getD j 0))) :
  Calls Tryz.prog 36 #[.slice (some ⟨b,off,none⟩) n c] w fun e w'=>∃ v',e= .returned v'∧w'.ownsRow w.heap.size 3 1 v' n ((zs.take n).map (Value.int .i64))∧v'≠.slice none 0 0∧Below w.heap.size w w':=Any.slices_Clone_int Tryz.EH b off n c zs w hz O hc
theorem Tryz.slices_Clone_int_nil(n c:Nat)(w:World) :
  Calls Tryz.prog 36 #[.slice none n c] w fun e w'=>e= .returned (.slice none 0 0)∧w'=w:=Any.slices_Clone_int_nil Tryz.EH n c w
theorem Tryz.slices_Clone_int_zero(a:Addr)(c:Nat)(w:World) :
  Calls Tryz.prog 36 #[.slice (some a) 0 c] w fun e w'=>∃ v',e= .returned v'∧w'.ownsRow w.heap.size 3 1 v' 0 []∧v'≠.slice none 0 0∧Below w.heap.size w w':=Any.slices_Clone_int_zero Tryz.EH a c w
end Go.Proofs
namespace Go.Proofs.YtlmphbbhaeampaaGreat.A
open Go Go.Proofs Go.RowKit Go.Shelf
attribute [local go_sem] Oper.semAt_some
variable [cj]
theorem WB:∃ i,Tryz.prog.info? 4=some i∧i.zero=some (.bool false)∧i.size=1∧i.bytes=1:=by
 have h1:(Tryz.prog.info? 4).map (·.size)=some 1:=by kernel_rfl
 have h2:(Tryz.prog.info? 4).bind (·.zero)=some (.bool false):=by kernel_rfl
 have h3:(Tryz.prog.info? 4).map (·.bytes)=some 1:=by kernel_rfl
 cases h:Tryz.prog.info? 4 with
 | none=>rw [h] at h1;cases h1
 | some i=>
  rw [h] at h1 h2 h3
  exact ⟨i,rfl,by simpa using h2,by simpa using h1,by simpa using h3⟩
def EI(b:Bool)(g j n:Nat)(w:World):Prop:=∃ cs:Array Value,w.heap[g]? =some (.cells cs 4 (0,0))∧cs.size=n∧∀ i,i<j→cs[i]? =some (.bool b)
set_option maxHeartbeats 4000000 in
theorem S8{g o cap n m:Nat}{b:Bool}{w:World}(hn:n≤1000000)(hc:w.cell? ⟨g,o,none⟩=some (.bool b))(hg:g<w.heap.size) :
  Calls Tryz.prog 112 #[.slice (some ⟨g,o,none⟩) 1 cap,.int .i64 n] w fun e w'=>
   e= .returned (.slice (some ⟨w.heap.size,0,none⟩) n n)∧w'.heap[w.heap.size]? =some (.cells (Array.replicate n (.bool b)) 4 (0,0))∧w'.heap.size=w.heap.size+1∧Below w.heap.size w w':=by
 have hM:Calls Tryz.prog 148 #[.int .u64 1,.int .u64 n] w fun e w'=>e= .returned (.tuple #[.int .u64 0,.int .u64 n])∧w'=w:=by
  have:=Tryz.bits_Mul 1 n (by omega) (by omega) w
  rw [show 1*n / 18446744073709551616=0 by omega,show 1*n % 18446744073709551616=n by omega] at this
  exact this
 have aE:decide ((9223372036854775807:Int)<n)=false:=by simp;omega
 have aD:¬((9223372036854775807:Int)<n):=by omega
 obtain ⟨ti,hi,hz,hs,X⟩:=WB
 have hu:Tryz.prog.underlying 32=some (.slice 4):=Tryz.underlying32
 have ae:(Instr.makeSlice 32 (.int .i64 n) (.int .i64 n)).run Tryz.prog w= .ok (.slice (some ⟨w.heap.size,0,none⟩) n n) (w.alloc (.cells (madeCells #[.bool false] n) 4)):=by
  have:=run_make (P:=Tryz.prog) w 32 4 ti (.bool false) hu hi hz .i64 .i64 n n (by omega) (uL _) (by rw [X];omega) (by omega)
  simpa [hs,Value.cells] using this
 have M:∀ (W:World)(j k dLen dCap sLen sCap:Nat)(a:Addr),EI b w.heap.size j n W→j+k≤n→Nat.min sLen dLen=k→(∀ i,i<k→W.cell? (a.add i)=some (.bool b))→
   ∃ W',(Builtin.copy_ #[32,32] 3 #[.slice (some ⟨w.heap.size,j,none⟩) dLen dCap,.slice (some a) sLen sCap]).run Tryz.prog W= .ok (.int .i64 k) W'∧EI b w.heap.size (j+k) n W'∧W'.heap.size=W.heap.size∧Below w.heap.size W W':=fun W j k dLen dCap sLen sCap a hf h2 hk h3=>by
  obtain ⟨cur,h1,E,ap⟩:=hf
  have:=run_copy_row (P:=Tryz.prog) W 32 32 3 4 w.heap.size j dLen dCap a sLen sCap cur 4 (List.replicate k (.bool b)) hu (by rw [hi];simp [hs]) h1 (by simpa using hk.symm) (fun i v hj=>by
   rw [uT] at hj
   split at hj
   ·obtain rfl:=ah hj
    exact h3 i (by assumption)
   ·cases hj) (by simp;omega) (fun v hv=>by rw [uS hv];rfl)
  refine ⟨_,by simpa [goInt] using this,⟨_,setRow_heap _ _ _ _ _ _ h1,by simp;omega,fun i aC=>?_⟩,by simp,⟨rfl,rfl,rfl,by simp,fun k hk=>setRow_other _ _ _ _ (by omega)⟩⟩
  have hm:min j cur.size=j:=by omega
  by_cases Q:i<j
  ·rw [←ap i Q,zC,nW (by simp;omega),List.getElem?_take_of_lt Q,Array.getElem?_toList]
  ·rw [zC,wo (by simp;omega),nW (by simp;omega),uT,af (by simp;omega)]
 have V:EI b w.heap.size 0 n (w.alloc (.cells (madeCells #[.bool false] n) 4)):=⟨madeCells #[.bool false] n,World.alloc_heap_new _ _,by simp [madeCells],fun i hi=>absurd hi (Nat.not_lt_zero _)⟩
 obtain ⟨k0,ak,ai,ag⟩:∃ k0,Nat.min 1 n=k0∧k0≤n∧(0<n→0<k0):=⟨_,rfl,DF _ _,fun h=>by show 0<min 1 n;omega⟩
 obtain ⟨W1,aw,U,z,aa⟩:=M _ 0 k0 n n 1 cap ⟨g,o,none⟩ V (by omega) ak (fun i hi=>by
  have:Nat.min 1 n≤1:=Nat.min_le_left _ _
  obtain rfl:i=0:=by omega
  have ha:(⟨g,o,none⟩:Addr).add 0=⟨g,o,none⟩:=by unfold Addr.add;simp
  rw [ha]
  exact (World.cell?_of_block (w:=w) (Below.heap_alloc _ _ _ hg)).trans hc)
 refine calls_of_wp Tryz.func112 rfl ?_
 simp only [Tryz.ntmps112,uN,eM,qE,Nat.reduceAdd,Nat.reduceSub,zJ,zK,zL,zM,eN,eZ]
 go_wp2_with (go_at_call 148;refine hM.mono ?_;clear hM;rintro _ w1 ⟨rfl,hw⟩;have ab:=hw.symm;subst ab)
 go_loopw [8] (fun p wr=>∃ j:Nat,p= .int .i64 j∧j≤n∧(0<n→0<j)∧EI b w.heap.size j n wr∧wr.heap.size=w.heap.size+1∧Below w.heap.size w wr) (fun p wr=>n - (intOf p).toNat)
 case atStart=>exact ⟨k0,rfl,ai,ag,by simpa using U,by simpa using z,((Below.refl _ w).alloc (aY _) _).trans aa⟩
 case round=>
  obtain ⟨j,rfl,aA,al,R,u,Z⟩:=hrel
  by_cases s:j<n
  ·have B:EI b w.heap.size j n wr.drew:=R
   obtain ⟨W2,av,S,D,ax⟩:=M wr.drew j (Nat.min j (n - j)) (n - j) (n - j) j n ⟨w.heap.size,0,none⟩ B (by have:Nat.min j (n - j)≤n - j:=DF _ _;omega) rfl (fun i hi=>by
    obtain ⟨cs,h1,h2,h3⟩:=B
    have:Nat.min j (n - j)≤j:=Nat.min_le_left _ _
    have h4:=h3 i (by omega)
    have ha:(⟨w.heap.size,0,none⟩:Addr).add i=⟨w.heap.size,i,none⟩:=by unfold Addr.add;split<;>simp_all
    rw [ha]
    simpa [World.cell?,h1] using h4)
   obtain ⟨q,hq⟩:∃ q,Nat.min j (n - j)=q:=⟨_,rfl⟩
   have ay:q≤n - j∧0<q:=by
    have h1:Nat.min j (n - j)≤n - j:=DF _ _
    have h2:0<j:=al (by omega)
    have h3:0<min j (n - j):=by omega
    exact ⟨hq▸h1,hq▸h3⟩
   rw [hq] at av S
   go_wp2
   have az:¬n=j:=by omega
   have aG:(0:Int)≤j:=by omega
   have aF:(j:Int)≤n:=by omega
   clear M ae hi hz hs X aw U z aa V
   go_region
   go_wp2
   refine ⟨⟨j+q,by simp,by omega,fun _=>by omega,S,by rw [D];exact u,Z.trans (Below.trans (b:=wr.drew) ⟨rfl,rfl,rfl,aY _,fun _ _=>rfl⟩ ax)⟩,?_⟩
   simp only [intOf]
   omega
  ·obtain rfl:j=n:=by omega
   go_wp2
   obtain ⟨cs,h1,h2,h3⟩:=R
   refine ⟨rfl,_,results_tmp rfl _ _ _,rfl,?_,u,Z⟩
   have:cs=Array.replicate j (.bool b):=by
    apply uU (by simp [h2])
    intro i am aB
    have:=h3 i (by omega)
    simpa [mq am] using this
   rw [←this]
   exact h1
theorem afV{ys:List AV}{x:AV}(h:uX 4 ys=some x):A8 Tryz.prog 112 ys x:=by
 unfold uX at h
 split at h
 ·rename_i t b n
  split at h
  ·rename_i hn
   obtain rfl:=ah h
   refine ⟨⟨Tryz.f112,Tryz.func112,rfl,by decide⟩,fun w I κ d J hI hs ha=>?_⟩
   have h0:=ha 0 _ rfl
   have h1:=ha 1 _ rfl
   obtain ⟨v0,v1,rfl⟩:∃ v0 v1,d=#[v0,v1]:=by
    have F:d.size=2:=hs
    exact ⟨d.getD 0 undef,d.getD 1 undef,by
     apply uU (by simpa using F)
     intro i h1 h2
     have:i=0∨i=1:=by omega
     rcases this with rfl | rfl<;>simp [Array.getD,h1]⟩
   have h0:VR w I κ (.l t [.b b]) v0:=h0
   have h1:VR w I κ (.i .i64 n) v1:=h1
   cases h1
   generalize C:[AV.b b]=es at h0
   cases h0 with
   | lnil=>cases C
   | l _ _ g o cap cs T fz sz Y hh ht E G f hp h1 N K r=>
    subst C
    obtain rfl:(1:Nat)=sz:=G (.b b) (by simp)
    have hb:cs.getD (o+0*1+0) undef= .bool b:=(r 0 (.b b) 0 (.b b) rfl rfl).vN
    have s:o<cs.size:=by simp at f;omega
    have hc:w.cell? ⟨g,o,none⟩=some (.bool b):=by
     simp only [Nat.zero_mul,mo,Array.getD,s,dite_true] at hb
     unfold World.cell?
     simp only [hh]
     simpa [s] using hb
    obtain ⟨k,rfl⟩:∃ k:Nat,n=k:=⟨n.toNat,by omega⟩
    refine (S8 (n:=k) (m:=0) (cap:=cap) (by omega) hc (hI g Y)).mono ?_
    rintro e w' ⟨rfl,h2,h3,hB⟩
    refine ⟨_,fun b=>I b∨b=w.heap.size,rfl,?_,hB.size,fun b hb=>hB.block b hb,fun b hb=>.inl hb,fun b hb=>hb.imp id fun e=>uI e.symm,fun b hb=>by rcases hb with hb | rfl;exact eK (hI b hb) hB.size;omega,hB.os,hB.output⟩
    rw [Int.toNat_natCast]
    rcases Nat.eq_zero_or_pos k with rfl | hk
    ·exact .lnil _ _ _
    ·have:=VR.l (κ:=κ) (I:=fun b=>I b∨b=w.heap.size) 4 (List.replicate k (.b b)) w.heap.size 0 k (Array.replicate k (.bool b)) 4 (0,0) 1 (.inr rfl) h2 (fun _=>⟨fun _=>⟨rfl,rfl⟩,fun h=>absurd h (nR.2 J.1)⟩) (by omega)
      (fun e he=>by rw [uS he];rfl) (by simp) (fun e he=>by rw [uS he];rfl) (fun e he c hc=>by rw [uS he] at hc;simp only [AV.cl,dS] at hc;subst hc;rfl) (by simp) (di (show k≤1000000 by omega) (by decide)) (fun j e m c he hc=>by
       have aq:=uS (bu he)
       subst aq
       have hj:j<k:=by simpa using (j8.1 he).1
       match m,hc with
       | 0,hc=>
         obtain rfl:=ah hc
         have hr:(Array.replicate k (Value.bool b)).getD (0+j*1+0) undef= .bool b:=by
          rw [eL,gO,Nat.mul_one,mo,Array.getElem?_replicate,af hj]
          rfl
         rw [hr]
         exact .b b)
     rwa [Dv] at this
  ·cases h
 ·cases h
end Go.Proofs.YtlmphbbhaeampaaGreat.A
namespace Go.Proofs.YtlmphbbhaeampaaGreat.A
open Go Go.Proofs Go.RowKit Go.Shelf
variable [cj]
theorem WC{ys:List AV}{x:AV}(h:qJ 3 ys=some x):A8 Tryz.prog 36 ys x:=by
 unfold qJ at h
 split at h
 ·rename_i t es
  obtain ⟨ns,ad,h⟩:=aj.1 h
  split at h
  ·rename_i hlen
   obtain rfl:=ah h
   obtain rfl:=GY ad
   refine ⟨⟨Tryz.f36,Tryz.func36,rfl,by decide⟩,fun w I κ d J hI hs ha=>?_⟩
   have h0:=ha 0 _ rfl
   obtain ⟨v0,rfl⟩:∃ v0,d=#[v0]:=by
    have F:d.size=1:=hs
    exact ⟨d.getD 0 undef,by
     apply uU (by simpa using F)
     intro i h1 h2
     obtain rfl:i=0:=by omega
     simp [Array.getD,h1]⟩
   have h0:VR w I κ (.l t (ns.map (AV.i .i64))) v0:=h0
   have L:∀ (v':Value)(w':World),w'.ownsRow w.heap.size 3 1 v' ns.length (ns.map (Value.int .i64))→Below w.heap.size w w'→
     ∃ v I',Ending.returned v'= .returned v∧VR w' I' κ (.l 3 (ns.map (AV.i .i64))) v∧w.heap.size≤w'.heap.size∧(∀ b,b<w.heap.size→w'.heap[b]? =w.heap[b]?)∧(∀ b,I b→I' b)∧(∀ b,I' b→I b∨w.heap.size≤b)∧(∀ b,I' b→b<w'.heap.size)∧w'.os=w.os∧w'.output=w.output:=fun v' w' ho hB=>by
    refine ⟨v',fun b=>I b∨(w.heap.size≤b∧b<w'.heap.size),rfl,?_,hB.size,fun b hb=>hB.block b hb,fun b hb=>.inl hb,fun b hb=>hb.imp id fun e=>e.1,fun b hb=>by rcases hb with hb | hb;exact eK (hI b hb) hB.size;exact hb.2,hB.os,hB.output⟩
    obtain ⟨_,⟨rfl,h0⟩ | ⟨g,cap,cur,rfl,hg,hh,au,ar,E,ac⟩⟩:=ho
    ·rw [wm h0]
     exact .lnil _ _ _
    ·have an:g<w'.heap.size:=(sP.1 hh).1
     have:=VR.l (w:=w') (κ:=κ) (I:=fun b=>I b∨(w.heap.size≤b∧b<w'.heap.size)) 3 (ns.map (AV.i .i64)) g 0 cap cur 3 (0,0) 1 (.inr ⟨hg,an⟩) hh (fun _=>⟨fun _=>⟨rfl,rfl⟩,fun h=>absurd h (by have:=J.1;omega)⟩) (by omega)
      (fun e he=>by obtain ⟨n,_,rfl⟩:=iG.1 he;rfl) (by simp only [iH];omega) (fun e he=>by obtain ⟨n,_,rfl⟩:=iG.1 he;rfl) (fun e he c hc=>by obtain ⟨n,_,rfl⟩:=iG.1 he;simp only [AV.cl,dS] at hc;subst hc;rfl) (by simpa using au) ar (fun j e m c he hc=>by
       rw [nT] at he
       obtain ⟨n,hn,rfl⟩:=ew.1 he
       match m,hc with
       | 0,hc=>
        obtain rfl:=ah hc
        have hj:j<ns.length:=(j8.1 hn).1
        have h3:(cur.toList.take (ns.length*1))[j]? =some (.int .i64 n):=by rw [ac,nT,hn];rfl
        rw [List.getElem?_take_of_lt (by omega),Array.getElem?_toList] at h3
        have hr:cur.getD (0+j*1+0) undef= .int .i64 n:=by rw [eL,gO,Nat.mul_one,mo,h3];rfl
        rw [hr]
        exact .i _ _)
     rwa [iH] at this
   generalize C:ns.map (AV.i .i64)=es at h0
   cases h0 with
   | lnil _ A cap=>
    have H:ns=[]:=List.map_eq_nil_iff.1 C
    subst H
    cases A with
    | none=>
     refine (Tryz.slices_Clone_int_nil 0 cap w).mono ?_
     rintro e w' ⟨rfl,rfl⟩
     exact L _ _ ⟨rfl,.inl ⟨rfl,rfl⟩⟩ (Below.refl _ _)
    | some a=>
     refine (Tryz.slices_Clone_int_zero a cap w).mono ?_
     rintro e w' ⟨v',rfl,ho,_,hB⟩
     exact L _ _ ho hB
   | l _ _ g o cap cs T fz sz Y hh ht E G f hp h1 N K r=>
    subst C
    rw [iH]
    refine (Tryz.slices_Clone_int g o ns.length cap ns w (aY _) (by omega) (fun j hj=>?_)).mono ?_
    ·have he:(ns.map (AV.i .i64))[j]? =some (.i .i64 (ns.getD j 0)):=by rw [nT];simp [List.getD,aV hj]
     obtain rfl:(1:Nat)=sz:=G _ (bu he)
     have hb:=r j _ 0 _ he rfl
     simp only [iH] at f
     have s:o+j<cs.size:=by omega
     rw [eL,Nat.mul_one,mo,mq s] at hb
     unfold World.cell?
     simp only [hh,mq s]
     simp only [lr] at hb
     rw [hb.mO]
     rfl
    ·rintro e w' ⟨v',rfl,ho,_,hB⟩
     rw [List.take_length] at ho
     exact L _ _ ho hB
  ·cases h
 ·cases h
end Go.Proofs.YtlmphbbhaeampaaGreat.A
namespace Go.Proofs.YtlmphbbhaeampaaGreat.A
open Go Go.Proofs
def afX(P:Program)(t:TypeId)(w:World)(e:Ending)(w':World):Prop:=
 ∃ v,e= .returned v∧(v= .slice none 0 0∨∃ g cap cs,v= .slice (some ⟨g,0,none⟩) 0 cap∧w.heap.size≤g∧w'.heap[g]? =some (.cells cs t (0,0))∧cap≤maxLen∧cs.size=cap*P.cellsOf t)∧
   w.heap.size≤w'.heap.size∧(∀ b,b<w.heap.size→w'.heap[b]? =w.heap[b]?)∧w'.os=w.os∧w'.output=w.output
theorem Om(n:Int)(h0:0≤n)(h1:n≤1000000)(w:World):Calls Tryz.prog 204 #[.slice none 0 0,.int .i64 n] w (afX Tryz.prog 83 w):=by
 go_enter Tryz.func204,Tryz.ntmps204
 go_wp2
 ·exfalso
  have h:281474976710656<n*(Tryz.t83.bytes:Int):=by assumption
  have hb:Tryz.t83.bytes=48:=rfl
  rw [hb] at h;omega
 ·exfalso
  have h:281474976710656<n*(Tryz.t83.bytes:Int):=by assumption
  have hb:Tryz.t83.bytes=48:=rfl
  rw [hb] at h;omega
 ·exfalso
  have h:281474976710656<Builtin.nextslicecap n.toNat 0*Tryz.t83.bytes:=by assumption
  have hb:Tryz.t83.bytes=48:=rfl
  rw [nextslicecap_zero (by omega),hb] at h;omega
 ·go_ret
  have ao:=grownCap_ge w n.toNat 0 83
  have hm:=grownCap_le_maxLen w n.toNat 0 83 (by simp [maxLen];omega)
  unfold grownCap at ao hm
  refine ⟨_,rfl,.inr ⟨w.heap.size,_,_,rfl,aY _,heap_alloc_new w _,hm,?_⟩,?_,?_,rfl,rfl⟩
  ·have hc:Tryz.prog.cellsOf 83=2:=by kernel_rfl
   rw [Array.size_append,size_zeroCells,size_zeroCells,hc,←eY]
   show _*2=_*2
   congr 1
   omega
  ·show _≤(w.alloc _).heap.size
   simp
  ·intro b hb;exact heap_alloc_old w _ hb
 ·go_ret
  exact ⟨_,rfl,.inl rfl,aY _,fun _ _=>rfl,rfl,rfl⟩
theorem WD[cj]{ys:List AV}{t:TypeId}(h:ri 83 ys=some (.o t [])):Vb Tryz.prog 204 ys t:=by
 unfold ri at h
 split at h
 ·split at h
  ·rename_i n hn
   obtain rfl:83=t:=by
    have:=ah h
    injection this
   refine ⟨⟨_,Tryz.func204,by kernel_rfl,by kernel_rfl⟩,(by have h9:Tryz.prog.cellsOf 83=2:=(by kernel_rfl);omega),fun w I κ d _ _ hs ha=>?_⟩
   have h0:=ha 0 _ rfl
   have h1:=ha 1 _ rfl
   have hc:=S4 hs undef
   generalize d.getD 0 undef=v0 at *
   generalize d.getD 1 undef=v1 at *
   subst hc
   cases h0
   cases h1
   exact (Om n hn.1 hn.2 w).mono fun e w' h=>h
  ·cases h
 ·cases h
end Go.Proofs.YtlmphbbhaeampaaGreat.A
