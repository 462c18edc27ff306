/- The library's contracts, as calls that change nothing. -/
import Derived.Test.YtkkkkondjclcnaaGreatAbsG
import Derived.Test.YtkkkkondjclcnaaGreatAbsO
import Derived.Below
import Derived.Lib.AtoiErrMem
import Derived.Lib.AppendIntMem
import Derived.Lib.LaidTab
import Derived.RangeFuncNested
import Derived.RangeFuncBound
import Derived.RangeFuncCalls
import Derived.RangeFuncLeaves
import Derived.Shelf.Abstract
import Derived.WalkKit
import Derived.OwnWalkIn
import Derived.TacticsInMore
import Derived.LoopNIn
import Derived.LoopIn
import Derived.Test.YtkkkkondjclcnaaGreatProg
set_option linter.all false
namespace Go.Proofs.YtkkkkondjclcnaaGreat.A
open Go Go.RowKit
variable [bJ]
theorem Sh{α:Type}{a:Array α}(h:a.size=2)(d:α):a=#[a.getD 0 d,a.getD 1 d]:=by
 apply tJ (by simpa using h)
 intro i h1 h2
 have:i=0∨i=1:=by omega
 rcases this with rfl | rfl<;>simp [Array.getD,h1]
theorem Uf{u:TypeId}{ys:List AV}{x:AV}(h:qX u ys=some x)(hp:x.pure=true):False:=by
 unfold qX at h
 split at h
 ·split at h
  ·obtain rfl:=aa h
   cases hp
  ·cases h
 ·cases h
end Go.Proofs.YtkkkkondjclcnaaGreat.A
namespace Go.Proofs.YtkkkkondjclcnaaGreat.A
open Go Go.Proofs Go.RowKit Go.Shelf
theorem Ia{α:Type}{l:List (List α)}{j:Nat}{a:List α}(h:l[j]? =some a):l.flatten=(l.take j).flatten++(a++(l.drop (j+1)).flatten):=by
 induction l generalizing j with
 | nil=>simp at h
 | cons x l ih=>
  cases j with
  | zero=>simp at h;simp [h]
  | succ j=>simp at h;simp [ih h]
theorem DY{α:Type}{l:List (List α)}{j:Nat}{a:List α}(h:l[j]? =some a):(l.take (j+1)).flatten=(l.take j).flatten++a:=by
 rw [p9,h]
 simp
theorem DZ{x:AV}{ms:List Int}(h:tU x=some ms):∃ k n t args r,x= .a [.i .i64 k,.i .i64 n,.l t args]∧xi args=some r∧ms=if k=2 then n::r else r:=by
 unfold tU at h
 split at h
 ·rename_i k n t args
  obtain ⟨r,h1,rfl⟩:=c9.1 h
  exact ⟨k,n,t,args,r,rfl,h1,rfl⟩
 ·cases h
theorem E6:∀ {args:List AV}{r:List Int},xi args=some r→∃ mss:List (List Int),mss.length=args.length∧r=mss.flatten∧∀ (j:Nat)(e:AV),args[j]? =some e→∃ ms:List Int,mss[j]? =some ms∧tU e=some ms
 | [],r,h=>by
  simp only [xi,ju] at h
  subst h
  exact ⟨[],rfl,rfl,fun j e h=>by simp at h⟩
 | x::l,r,h=>by
  simp only [xi] at h
  obtain ⟨a,h1,h2⟩:=ah.1 h
  obtain ⟨b,h3,rfl⟩:=c9.1 h2
  obtain ⟨mss,h4,rfl,h6⟩:=E6 h3
  refine ⟨a::mss,by simp [h4],by simp,fun j e hj=>?_⟩
  cases j with
  | zero=>
    obtain rfl:x=e:=by simpa using hj
    exact ⟨a,rfl,h1⟩
  | succ j=>simpa using h6 j e (by simpa using hj)
variable [bJ]
theorem Si{w:World}{I:Nat→Prop}{κ:Key→Nat}{k n:Int}{t:TypeId}{args:List AV}{v:Value}(hv:VR w I κ (.a [.i .i64 k,.i .i64 n,.l t args]) v) :
  ∃ sv,v= .agg #[.int .i64 k,.int .i64 n,sv]∧VR w I κ (.l t args) sv:=by
 cases hv with
 | a _ vs hl h1 hc=>
  have e0:=hc 0 _ rfl
  have e1:=hc 1 _ rfl
  have e2:=hc 2 _ rfl
  refine ⟨vs.getD 2 undef,?_,e2⟩
  congr 1
  apply tJ (by simpa using hl.symm)
  intro i hi1 hi2
  have hi:i=0∨i=1∨i=2:=by simp at hi2;omega
  rcases hi with rfl | rfl | rfl
  ·have:=e0.mK;simpa [Array.getD,hi1] using this
  ·have:=e1.mK;simpa [Array.getD,hi1] using this
  ·simp [Array.getD,hi1]
theorem M4{w:World}{I:Nat→Prop}{κ:Key→Nat}{t:TypeId}{args:List AV}{sv:Value}(h:VR w I κ (.l t args) sv):∃ A m cap,sv= .slice A m cap:=by
 cases h<;>exact ⟨_,_,_,rfl⟩
theorem partAt{w:World}{I:Nat→Prop}{κ:Key→Nat}{t:TypeId}{args:List AV}{sv:Value}(h:VR w I κ (.l t args) sv)(hu:∀ e∈args,∃ ms,tU e=some ms) :
  ∃ A cap,sv= .slice A args.length cap∧args.length≤9223372036854775807∧∀ (j:Nat)(e:AV),args[j]? =some e→∃ g o k n A' m cap',A=some ⟨g,o,none⟩∧I g∧VR w I κ e (.agg #[.int .i64 k,.int .i64 n,.slice A' m cap'])∧
   w.cell? ⟨g,o+j*3,none⟩=some (.int .i64 k)∧w.cell? ⟨g,o+j*3+1,none⟩=some (.int .i64 n)∧w.cell? ⟨g,o+j*3+2,none⟩=some (.slice A' m cap'):=by
 cases h with
 | lnil t' A cap=>
  exact ⟨A,cap,rfl,by simp,fun j e h=>by simp at h⟩
 | l t' _ g o cap cs T fz sz hIg hh ht hsz hnc hsize hp h1 hcap hmax hcell=>
  refine ⟨some ⟨g,o,none⟩,cap,rfl,bQ hcap (bQ hmax (by decide)),fun j e he=>?_⟩
  obtain ⟨ms,hms⟩:=hu e (aL he)
  obtain ⟨k,n,t2,args2,r,rfl,_,_⟩:=DZ hms
  have hlt:j<args.length:=by
   obtain ⟨h,_⟩:=dh.1 he;exact h
  obtain rfl:sz=3:=by have:=hnc _ (aL he);simpa [AV.nc,AV.cl] using this.symm
  have hm:∀ m,m<3→w.cell? ⟨g,o+j*3+m,none⟩=some (cs.getD (o+j*3+m) undef):=fun m hm=>by
   have hb:o+j*3+m<cs.size:=by
    have:(j+1)*3≤args.length*3:=fv 3 hlt
    omega
   unfold World.cell?
   simp only [hh]
   simp [Array.getD,hb]
  have hc:=fun m c hmc=>hcell j _ m c he hmc
  have e0:=(hc 0 _ rfl).mK
  have e1:=(hc 1 _ rfl).mK
  have e2:=hc 2 _ rfl
  obtain ⟨A',m',cap',e3⟩:=M4 e2
  have g0:=hm 0 (by omega)
  have g1:=hm 1 (by omega)
  have g2:=hm 2 (by omega)
  rw [e0] at g0
  rw [e1] at g1
  rw [e3] at e2 g2
  refine ⟨g,o,_,_,_,_,_,rfl,hIg,?_,g0,g1,g2⟩
  refine VR.a _ _ rfl (fun c hcm=>h1 _ (aL he) c hcm) fun m c hmc=>?_
  match m,hmc with
  | 0,hmc=>have:=hc 0 c hmc;rw [e0] at this;simpa using this
  | 1,hmc=>have:=hc 1 c hmc;rw [e1] at this;simpa using this
  | 2,hmc=>have:=hc 2 c hmc;rw [e3] at this;simpa using this
attribute [local go_sem] Oper.semAt_some
def V2(I:Nat→Prop)(ns:List Int)(J:(Nat→Prop)→List Int→World→Prop)(Jx:List Int→World→Prop)(W:World)(to:List Int)(e:Ending)(W':World):Prop:=
 (e= .returned (.bool true)∧∃ T',J T' to W'∧(∀ b,I b→W'.heap[b]? =W.heap[b]?)∧W.heap.size≤W'.heap.size)∨
 (e= .returned (.bool false)∧∃ p n r,ns=p++n::r∧Jx (p++[n]) W')
set_option maxRecDepth 100000 in
set_option maxHeartbeats 4000000 in
theorem OX{w:World}{I:Nat→Prop}{κ:Key→Nat}{l:Nat}{ns:List Int}{J:(Nat→Prop)→List Int→World→Prop}{Jx:List Int→World→Prop}(hIw:∀ b,I b→b<w.heap.size)
  (hJ:∀ T pre W W',J T pre W→Below W.heap.size W W'→J (fun b=>T b∨(W.heap.size≤b∧b<W'.heap.size)) pre W')
  (hY:∀ T pre n rest W1 m,ns=pre++n::rest→J T pre W1→YieldAt Fence.wide m Tryz.prog l #[.int .i64 n] W1 fun e W2=>
   (e= .returned (.bool true)∧J T (pre++[n]) W2∧(∀ b,T b→W2.heap[b]? =W1.heap[b]?)∧(∀ b,I b→W2.heap[b]? =W1.heap[b]?)∧W1.heap.size≤W2.heap.size)∨(e= .returned (.bool false)∧Jx (pre++[n]) W2)) :
  ∀ (N:Nat)(x:AV),SizeOf.sizeOf x<N→∀ (ms:List Int),tU x=some ms→∀ (pre rest:List Int),ns=pre++(ms++rest)→∀ (v:Value)(T:Nat→Prop)(W:World)(m:Nat),VR w I κ x v→w.heap.size≤W.heap.size→(∀ b,I b→W.heap[b]? =w.heap[b]?)→J T pre W→
   CallsIn Fence.wide m Tryz.prog 147 #[v,.func (.yield l) #[] #[]] W (V2 I ns J Jx W (pre++ms))
 | 0,x,hN,ms,hu=>absurd hN (Nat.not_lt_zero _)
 | N+1,x,hN,ms,hu=>by
  intro pre rest hns v T W m hv hsz hI hj
  obtain ⟨k,n,t,args,r,rfl,hr,rfl⟩:=DZ hu
  obtain ⟨mss,hml,rfl,hmss⟩:=E6 hr
  have hrec:∀ (j:Nat)(e:AV),args[j]? =some e→∀ ms,tU e=some ms→∀ (pre rest:List Int),ns=pre++(ms++rest)→∀ (v:Value)(T:Nat→Prop)(W:World)(m:Nat),VR w I κ e v→w.heap.size≤W.heap.size→(∀ b,I b→W.heap[b]? =w.heap[b]?)→J T pre W→
   CallsIn Fence.wide m Tryz.prog 147 #[v,.func (.yield l) #[] #[]] W (V2 I ns J Jx W (pre++ms)):=fun j e he ms hms=>OX hIw hJ hY N e (by
    have:=List.sizeOf_lt_of_mem (aL he)
    simp at hN
    omega) ms hms
  obtain ⟨sv,rfl,hsv⟩:=Si hv
  obtain ⟨A,cap,rfl,hlen,hpart⟩:=partAt hsv fun e he=>by
   obtain ⟨j,hj⟩:=List.getElem?_of_mem he
   obtain ⟨ms,_,h⟩:=hmss j e hj
   exact ⟨ms,h⟩
  clear hsv hu hr hv
  refine callsIn_of_wp Tryz.func147 rfl trivial ?_ rfl
  simp only [Tryz.ntmps147,qf,bu,ig,Nat.reduceAdd,Nat.reduceSub,ze,zf,zg,zh,ea,eu]
  have hj0:=fun W0=>hJ T pre W W0 hj
  by_cases hk:k=2
  ·subst hk
   simp only [ab trivial,eu] at hns ⊢
   have hb0:Below W.heap.size W (W.alloc (Obj.cells #[.int .i64 2,.int .i64 n,.slice A args.length cap] 37)):=(Below.refl _ W).alloc (aS _) _
   obtain ⟨fn,tmps,assign,body,hy,hR⟩:=hY _ pre n (mss.flatten++rest) _ (m - 1) hns (hj0 _ hb0)
   gi_wp2
   refine ⟨fun h=>(by cases h),hR.mono ?_⟩
   rintro e W2 (⟨rfl,hj2,hT2,hI2,hsz2⟩ | ⟨rfl,hx2⟩)
   ·have c2:W2.cell? ⟨W.heap.size,2,none⟩=some (.slice A args.length cap):=(World.cell?_of_block (a:=⟨W.heap.size,2,none⟩) (hT2 W.heap.size (Or.inr ⟨aS _,by simp⟩))).trans (by simp)
    have hsz2':W.heap.size≤W2.heap.size:=bQ hb0.size hsz2
    have hIc:∀ b,I b→W2.heap[b]? =w.heap[b]? :=fun b hb=>(hI2 b hb).trans ((hb0.block b (by have:=hIw b hb;omega)).trans (hI b hb))
    clear hT2 hy hR hb0
    gi_wp2
    gi_loopw [20] (fun p wr=>∃ (j:Nat)(T':Nat→Prop),p= .int .i64 j∧j≤args.length∧J T' (pre++[n]++(mss.take j).flatten) wr∧(∀ b,I b→wr.heap[b]? =W2.heap[b]?)∧W2.heap.size≤wr.heap.size) (fun p wr=>args.length - (intOf p).toNat)
    case atStart=>
     refine ⟨0,_,rfl,by omega,by simpa using hj2,fun b hb=>rfl,aS _⟩
    case round=>
     obtain ⟨j,T',rfl,hjl,hjj,hI',hsz'⟩:=hrel
     by_cases hlt:j<args.length
     ·obtain ⟨e,he⟩:∃ e,args[j]? =some e:=⟨_,aB hlt⟩
      obtain ⟨g,o,k',n',A',m',cap',rfl,hIg,hve,c0,c1,c2⟩:=hpart j e he
      have hcell:∀ (off:Nat)(u:Value),w.cell? ⟨g,off,none⟩=some u→wr.cell? ⟨g,off,none⟩=some u:=fun off u h=>by
       rw [←h]
       exact World.cell?_of_block (w:=w) ((hI' g hIg).trans (hIc g hIg))
      have d0:=hcell _ _ c0
      have d1:=hcell _ _ c1
      have d2:=hcell _ _ c2
      clear c0 c1 c2 hcell
      gi_wp2
      refine ⟨trivial,fun h=>(by cases h),?_⟩
      obtain ⟨ms,hms1,hms2⟩:=hmss j e he
      have hdr:=Ia hms1
      have hb1:Below wr.heap.size wr (wr.alloc (Obj.cells #[.int .i64 k',.int .i64 n',.slice A' m' cap'] 37)):=(Below.refl _ wr).alloc (aS _) _
      refine (hrec j e he ms hms2 (pre++[n]++(mss.take j).flatten) ((mss.drop (j+1)).flatten++rest) (by rw [hns,hdr];simp) _ _ _ _ hve (by simp;omega) (fun b hb=>?_) (hJ _ _ _ _ hjj hb1)).mono ?_
      ·have:=hIw b hb
       exact (hb1.block b (by omega)).trans ((hI' b hb).trans (hIc b hb))
      ·rintro e1 w1 (⟨rfl,T1,hj1,hI1,hsz1⟩ | ⟨rfl,p,n1,r1,hns1,hx1⟩)
       ·gi_wp2
        refine ⟨⟨j+1,T1,rfl,by omega,?_,fun b hb=>?_,?_⟩,?_⟩
        ·rw [DY hms1,←lO];exact hj1
        ·have:=hIw b hb
         exact (hI1 b hb).trans ((hb1.block b (by omega)).trans (hI' b hb))
        ·exact bQ hsz' (bQ hb1.size hsz1)
        ·simp only [intOf];omega
       ·gi_wp2
        exact ⟨rfl,_,results_tmp rfl _ _ _,Or.inr ⟨rfl,p,n1,r1,hns1,hx1⟩⟩
     ·obtain rfl:j=args.length:=by omega
      gi_wp2
      rw [lU (by omega)] at hjj
      exact ⟨rfl,_,results_tmp rfl _ _ _,Or.inl ⟨rfl,T',by simpa using hjj,fun b hb=>(hI' b hb).trans ((hIc b hb).trans (hI b hb).symm),bQ hsz2' hsz'⟩⟩
   ·gi_wp2
    exact ⟨rfl,_,results_tmp rfl _ _ _,Or.inr ⟨rfl,pre,n,mss.flatten++rest,hns,hx2⟩⟩
  ·simp only [ad hk] at hns ⊢
   gi_wp2
   repeat (refine ⟨fun _ h=>(by cases h),?_⟩;gi_wp2)
   have hb0:Below W.heap.size W (W.alloc (Obj.cells #[.int .i64 k,.int .i64 n,.slice A args.length cap] 37)):=(Below.refl _ W).alloc (aS _) _
   gi_loopw [20] (fun p wr=>∃ (j:Nat)(T':Nat→Prop),p= .int .i64 j∧j≤args.length∧J T' (pre++(mss.take j).flatten) wr∧(∀ b,I b→wr.heap[b]? =W.heap[b]?)∧W.heap.size≤wr.heap.size) (fun p wr=>args.length - (intOf p).toNat)
   case atStart=>
    refine ⟨0,_,rfl,by omega,by simpa using hj0 _ ((Below.refl _ W).alloc (aS _) _),fun b hb=>?_,?_⟩
    ·have:=hIw b hb
     exact hb0.block b (by omega)
    ·exact hb0.size
   case round=>
    obtain ⟨j,T',rfl,hjl,hjj,hI',hsz'⟩:=hrel
    by_cases hlt:j<args.length
    ·obtain ⟨e,he⟩:∃ e,args[j]? =some e:=⟨_,aB hlt⟩
     obtain ⟨g,o,k',n',A',m',cap',rfl,hIg,hve,c0,c1,c2⟩:=hpart j e he
     have hcell:∀ (off:Nat)(u:Value),w.cell? ⟨g,off,none⟩=some u→wr.cell? ⟨g,off,none⟩=some u:=fun off u h=>by
      rw [←h]
      exact World.cell?_of_block (w:=w) ((hI' g hIg).trans (hI g hIg))
     have d0:=hcell _ _ c0
     have d1:=hcell _ _ c1
     have d2:=hcell _ _ c2
     clear c0 c1 c2 hcell
     gi_wp2
     refine ⟨trivial,fun h=>(by cases h),?_⟩
     obtain ⟨ms,hms1,hms2⟩:=hmss j e he
     have hdr:=Ia hms1
     have hb1:Below wr.heap.size wr (wr.alloc (Obj.cells #[.int .i64 k',.int .i64 n',.slice A' m' cap'] 37)):=(Below.refl _ wr).alloc (aS _) _
     refine (hrec j e he ms hms2 (pre++(mss.take j).flatten) ((mss.drop (j+1)).flatten++rest) (by rw [hns,hdr];simp) _ _ _ _ hve (by simp;omega) (fun b hb=>?_) (hJ _ _ _ _ hjj hb1)).mono ?_
     ·have:=hIw b hb
      exact (hb1.block b (by omega)).trans ((hI' b hb).trans (hI b hb))
     ·rintro e1 w1 (⟨rfl,T1,hj1,hI1,hsz1⟩ | ⟨rfl,p,n1,r1,hns1,hx1⟩)
      ·gi_wp2
       refine ⟨⟨j+1,T1,rfl,by omega,?_,fun b hb=>?_,?_⟩,?_⟩
       ·rw [DY hms1,←lO];exact hj1
       ·have:=hIw b hb
        exact (hI1 b hb).trans ((hb1.block b (by omega)).trans (hI' b hb))
       ·exact bQ hsz' (bQ hb1.size hsz1)
       ·simp only [intOf];omega
      ·gi_wp2
       exact ⟨rfl,_,results_tmp rfl _ _ _,Or.inr ⟨rfl,p,n1,r1,hns1,hx1⟩⟩
    ·obtain rfl:j=args.length:=by omega
     gi_wp2
     rw [lU (by omega)] at hjj
     exact ⟨rfl,_,results_tmp rfl _ _ _,Or.inl ⟨rfl,T',hjj,hI',hsz'⟩⟩
set_option maxRecDepth 100000 in
theorem Sj{x:AV}{ns:List Int}(h:tU x=some ns):LQ Tryz.prog 146 (.e x 0) ns:=by
 intro w I κ v hn hIw hv
 obtain ⟨k,n,t,args,r,rfl,h1,h2⟩:=DZ h
 obtain ⟨vs,rfl,hl,hc⟩:=hv.K1 (by decide)
 ·have hc0:=hc 0 _ rfl
  obtain ⟨v0,rfl⟩:∃ v0,vs=#[v0]:=by
   have:vs.size=1:=by simpa using hl.symm
   refine ⟨vs[0],?_⟩
   apply tJ (by simpa using this)
   intro i hi1 hi2
   have hi:i=0:=by simp at hi2;omega
   subst hi
   rfl
  simp only [Array.getD,qf,bu,ig,eU,Nat.lt_add_one,dite_true] at hc0
  generalize hx:AV.a [.i .i64 k,.i .i64 n,.l t args]=x at *
  cases hc0 with
  | e _ _ g o cs T0 fz hIg hh hp hsize hone hcc=>
   subst hx
   have e0:=(hcc 0 _ rfl).mK
   have e1:=(hcc 1 _ rfl).mK
   have e2:=hcc 2 _ rfl
   obtain ⟨A',m',cap',e3⟩:=M4 e2
   have hm:∀ j,j<3→w.cell? ⟨g,o+j,none⟩=some (cs.getD (o+j) undef):=fun j hj=>by
    have hb:o+j<cs.size:=by
     have:o+3≤cs.size:=by simpa [AV.nc,AV.cl] using hsize
     omega
    unfold World.cell?
    simp only [hh]
    simp [Array.getD,hb]
   have g0:=hm 0 (by omega)
   have g1:=hm 1 (by omega)
   have g2:=hm 2 (by omega)
   rw [e0] at g0
   rw [e1] at g1
   rw [e3] at g2
   have hv:VR w I κ (.a [.i .i64 k,.i .i64 n,.l t args]) (.agg #[.int .i64 k,.int .i64 n,.slice A' m' cap']):=by
    refine VR.a _ _ rfl hone fun m c hmc=>?_
    match m,hmc with
    | 0,hmc=>have:=hcc 0 c hmc;rw [e0] at this;simpa using this
    | 1,hmc=>have:=hcc 1 c hmc;rw [e1] at this;simpa using this
    | 2,hmc=>have:=hcc 2 c hmc;rw [e3] at this;simpa using this
   refine ⟨146,_,rfl,fun args w=>?_,fun l m J Jx T W hsz hI' hJ hY hj=>?_⟩
   ·exact fC (f:=146) ⟨Tryz.f146,Tryz.func146,rfl,by decide⟩ args w
   ·have hw:∀ (off:Nat)(u:Value),w.cell? ⟨g,off,none⟩=some u→W.cell? ⟨g,off,none⟩=some u:=fun off u h=>by
     rw [←h]
     exact World.cell?_of_block (w:=w) (hI' g hIg)
    have d0:=hw _ _ g0
    have d1:=hw _ _ g1
    have d2:=hw _ _ g2
    simp only [lR] at d0
    clear g0 g1 g2 hm hcc e0 e1 e2 e3 hw hh hc hl
    have hpp:=OX (I:=I) hIw hJ hY (SizeOf.sizeOf (AV.a [.i .i64 k,.i .i64 n,.l t args])+1) _ (nm _) ns h [] [] (by simp) _ T W (m - 1) hv hsz hI' hj
    refine callsIn_of_wp Tryz.func146 rfl trivial ?_ rfl
    simp only [Tryz.ntmps146,qf,bu,ig,Nat.reduceAdd,Nat.reduceSub,ze,zf,zg,zh,ea,eu]
    simp only [lR]
    gi_wp2
    refine ⟨trivial,fun h=>(by cases h),?_⟩
    refine hpp.mono ?_
    rintro e1 w1 (⟨rfl,T1,hj1,hI1,hsz1⟩ | ⟨rfl,p,n1,r1,hns1,hx1⟩)
    ·gi_wp2
     go_end0
     exact ⟨⟨_,rfl⟩,Or.inl ⟨_,by simpa using hj1⟩⟩
    ·gi_wp2
     go_end0
     exact ⟨⟨_,rfl⟩,Or.inr ⟨p,n1,r1,hns1,by simpa using hx1⟩⟩
theorem akf{c:AV}{es:List AV}{ns:List Int}(h:Ag [.u,c]=some (.l 0 es))(hn:so es=some ns):LQ Tryz.prog 146 c ns:=by
 unfold Ag at h
 split at h
 ·rename_i x heq
  obtain ⟨ms,h1,h2⟩:=c9.1 h
  simp only [Cu,true_and,and_true] at heq
  subst heq
  obtain rfl:ms.map (AV.i .i64)=es:=by simpa using h2
  rw [Bf] at hn
  obtain rfl:=aa hn
  exact Sj h1
 ·cases h
end Go.Proofs.YtkkkkondjclcnaaGreat.A
