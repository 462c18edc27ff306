/- Code and functions: what the abstract run says of a function, a call of it does. -/
import Derived.Test.YtlmphbbhaeampaaGreatAbsQ
import Derived.Test.YtlmphbbhaeampaaGreatAbsG
import Derived.Test.YtlmphbbhaeampaaGreatAbsO
import Derived.Below
import Derived.Lib.AtoiErrMem
import Derived.Lib.AppendIntMem
import Derived.Lib.LaidTab
import Derived.RangeFuncNested
import Derived.RangeFuncBound
import Derived.RangeFuncCalls
import Derived.RangeFuncLeaves
import Derived.Shelf.Abstract
import Derived.WalkKit
import Derived.OwnWalkIn
import Derived.TacticsInMore
import Derived.LoopNIn
import Derived.LoopIn
import Derived.Test.YtlmphbbhaeampaaGreatProg
set_option linter.all false
set_option maxRecDepth 100000
namespace Go.Proofs.YtlmphbbhaeampaaGreat.A
open Go
variable [cj]
variable {P:Program}{G:qG}{Ω:dK}
theorem Wy(hΩ:iT P Ω){n:Nat}(ih:J4 P (exec G Ω n))(ihL:L0 P (exec G Ω n))(aR:∀ k,k≤n→my P (jM G (exec G Ω k))):J4 P (exec G Ω (n+1))∧L0 P (exec G Ω (n+1)):=by
  have hR:=aR n (aY _)
  have ae:L0 P (exec G Ω (n+1)):=by
   intro E ac st r c nt C a w σ Q hP hE L he hl hc hQ
   simp only [exec] at he
   obtain ⟨q,hq,D⟩:=aj.1 he
   refine LW.round (ih E ac st q c nt C a w σ _ hP hE L hq hl hc fun a' w' σ' hs K=>?_)
   obtain ⟨qe,qs⟩:=q
   cases qe with
   | nrm=>exact ihL E ac qs r c nt C a' w' σ' Q hP hE L D hl K fun a'' w'' σ'' aC al=>hQ a'' w'' σ'' (hs.trans aC) al
   | ex id=>
    obtain rfl:=ah D
    exact hQ a' w' σ' hs K
   | ret=>
    obtain rfl:=ah D
    exact hQ a' w' σ' hs K
  refine ⟨?_,ae⟩
  intro E ac st r c nt C a w σ Q hP hE L he hl hc hQ
  cases ac with
  | sk=>
   obtain rfl:=ah he
   rcases OH hl with rfl | ⟨l,rfl⟩
   ·exact wp_skip (hQ a w σ (.refl _ _ _) hc)
   ·exact wp_label (hQ a w σ (.refl _ _ _) hc)
  | rg pre gs kf kb=>
   obtain ⟨id,ops,F,U⟩:=OI hl
   clear hl
   subst F
   have hl:=U
   simp only [exec] at he
   subst hP;subst hE
   obtain ⟨st1,h1,D⟩:=aj.1 he
   obtain ⟨st2,h2,aH⟩:=aj.1 D
   obtain rfl:=ah aH
   obtain ⟨σ1,aB,aK⟩:=hc.pre pre h1
   exact aK.region hR hΩ L hl h2 fun a' w' σ' hs K=>hQ a' w' σ' (aB.trans hs) (K.bB kf kb)
  | dg pre mks gs kf kb=>
   obtain ⟨id,ops,F,U⟩:=OJ hl
   clear hl
   subst F
   have hl:=U
   simp only [exec] at he
   subst hP;subst hE
   obtain ⟨st1,h1,D⟩:=aj.1 he
   split at D
   ·rename_i hm
    obtain ⟨st2,h2,aH⟩:=aj.1 D
    obtain rfl:=ah aH
    obtain ⟨σ1,aB,aK⟩:=hc.pre pre h1
    exact aK.drawn hR hΩ L hl hm h2 fun a' w' σ' hs K=>hQ a' w' σ' (aB.trans hs) (K.bB kf kb)
   ·cases D
  | sq x y=>
   obtain ⟨c1,c2,F,U⟩:=OK hl
   clear hl
   subst F
   have hl:=U
   simp only [exec] at he
   obtain ⟨q,hq,D⟩:=aj.1 he
   refine wp_seq (ih E x st q c1 nt C a w σ _ hP hE L hq hl.1 hc fun a' w' σ' hs K=>?_)
   obtain ⟨qe,qs⟩:=q
   cases qe with
   | nrm=>exact ih E y qs r c2 nt C a' w' σ' Q hP hE L D hl.2 K fun a'' w'' σ'' aC al=>hQ a'' w'' σ'' (hs.trans aC) al
   | ex id=>
    obtain rfl:=ah D
    exact hQ a' w' σ' hs K
   | ret=>
    obtain rfl:=ah D
    exact hQ a' w' σ' hs K
  | ite cc x y=>
   obtain ⟨cd,c1,c2,F,U⟩:=LZ hl
   clear hl
   subst F
   have hl:=U
   simp only [exec] at he
   obtain ⟨z,hz,D⟩:=aj.1 he
   have aM:st.ev cc= .b z:=by
    cases F:st.ev cc<;>rw [F] at hz<;>simp [pB] at hz
    rw [hz]
   have a2:a.eval cd= .bool z:=by
    have:=hc.ta hl.1.1 (by rw [aM];rfl)
    rw [aM] at this
    exact this.vN
   refine wp_cond a2 ?_
   cases z with
   | true=>exact ih E x st r c1 nt C a w σ Q hP hE L (by simpa using D) hl.1.2 hc hQ
   | false=>exact ih E y st r c2 nt C a w σ Q hP hE L (by simpa using D) hl.2 hc hQ
  | bl id x=>
   obtain ⟨c1,F,U⟩:=OL hl
   clear hl
   subst F
   have hl:=U
   simp only [exec] at he
   obtain ⟨q,hq,D⟩:=aj.1 he
   refine wp_block (ih E x st q c1 nt C a w σ _ hP hE L hq hl hc fun a' w' σ' hs K=>?_)
   obtain ⟨qe,qs⟩:=q
   cases qe with
   | nrm=>
    obtain rfl:=ah D
    exact hQ a' w' σ' hs K
   | ret=>
    obtain rfl:=ah D
    exact hQ a' w' σ' hs K
   | ex id=>
    simp only [inBlock] at D
    simp only [tL,Exit.inBlock]
    split at D
    ·rename_i hid
     obtain rfl:=ah D
     rw [af hid]
     exact hQ a' w' σ' hs K
    ·rename_i hid
     obtain rfl:=ah D
     rw [ab hid]
     exact hQ a' w' σ' hs K
  | lp x=>
   obtain ⟨c1,F,U⟩:=OM hl
   clear hl
   subst F
   have hl:=U
   exact (ae E x st r _ nt C a w σ Q hP hE L he hl hc hQ).loop
  | ex id=>
   obtain rfl:=ON hl
   obtain rfl:=ah he
   exact wp_exit (hQ a w σ (.refl _ _ _) hc)
  | kp kf kb x=>exact ih E x (st.bB kf kb) r c nt C a w σ Q hP hE L he (OP hl) (hc.bB kf kb) hQ
  | bad=>cases he
  | ru g' x y' b'=>
   obtain ⟨g,y,b,rfl,h1,h2,h3,h4,h5,h6⟩:=VV hl
   simp only [exec] at he
   split at he
   ·cases he
   ·rename_i aT
    obtain ⟨ns,a0,D⟩:=aj.1 he
    subst hE
    exact TI hΩ aR (aY _) hP (by simpa using aT) L h2 a0 D h1 h3 h4 h5 h6 hc hQ
  | rt=>
   obtain rfl:=OO hl
   obtain rfl:=ah he
   exact wp_ret (hQ a w σ (.refl _ _ _) hc)
theorem GM(hT:zY P G)(hΩ:∀ B:cj,@iT B P Ω):∀ (n k:Nat),k≤n→∀ B:cj,@J4 B P (exec G Ω k)∧@L0 B P (exec G Ω k)
 | 0,k,hk,B=>by
  obtain rfl:k=0:=by omega
  exact ⟨fun E ac st r c nt C a w σ Q _ _ _ he=>by simp [exec] at he,fun E ac st r c nt C a w σ Q _ _ _ he=>by simp [exec] at he⟩
 | n+1,k,hk,B=>by
  by_cases h:k≤n
  ·exact GM hT hΩ n k h B
  ·obtain rfl:k=n+1:=by omega
   have ih:=GM hT hΩ n
   exact @Wy B P G Ω (hΩ B) n (ih n (aY _) B).1 (ih n (aY _) B).2 fun k hk B'=>@Ci B' P G _ hT (ih k hk B').1
theorem JH(hT:zY P G)(hΩ:∀ B:cj,@iT B P Ω)(n:Nat)(B:cj) : @J4 B P (exec G Ω n)∧@L0 B P (exec G Ω n):=GM hT hΩ n n (aY _) B
theorem Wz(hT:zY P G)(hΩ:∀ B:cj,@iT B P Ω):kS P (call G Ω):=by
 refine ⟨fun dp f ys hp x ar he hyp=>?_,fun dp f ys hp cs ar he hyp=>?_,fun dp f ys hp x ar he hyp=>?_⟩
 ·obtain ⟨n,hn⟩:=pf (G:=G) (Ω:=Ω) ⟨dp,false⟩ f ys hp _ he
  exact (Ci hT (JH hT hΩ n _).1).ret dp f ys hp x ar (hn n (aY _)) hyp
 ·obtain ⟨n,hn⟩:=pf (G:=G) (Ω:=Ω) ⟨dp,false⟩ f ys hp _ he
  exact (Ci hT (JH hT hΩ n _).1).new dp f ys hp cs ar (hn n (aY _)) hyp
 ·obtain ⟨n,hn⟩:=pf (G:=G) (Ω:=Ω) ⟨dp,true⟩ f ys hp _ he
  exact (Ci hT (JH hT hΩ n _).1).ro dp f ys hp x ar (hn n (aY _)) hyp
end Go.Proofs.YtlmphbbhaeampaaGreat.A
namespace Go.Proofs.YtlmphbbhaeampaaGreat.A
open Go Go.RowKit
variable [cj]
theorem S4{α:Type}{a:Array α}(h:a.size=2)(d:α):a=#[a.getD 0 d,a.getD 1 d]:=by
 apply uU (by simpa using h)
 intro i h1 h2
 have:i=0∨i=1:=by omega
 rcases this with rfl | rfl<;>simp [Array.getD,h1]
theorem UM{u:TypeId}{ys:List AV}{x:AV}(h:ri u ys=some x)(hp:x.pure=true):False:=by
 unfold ri at h
 split at h
 ·split at h
  ·obtain rfl:=ah h
   cases hp
  ·cases h
 ·cases h
end Go.Proofs.YtlmphbbhaeampaaGreat.A
namespace Go.Proofs.YtlmphbbhaeampaaGreat.A
open Go Go.Proofs Go.RowKit Go.Shelf
variable {α:Type}{l:List (List α)}{j:Nat}{a:List α}
theorem Is(h:l[j]? =some a):l.flatten=(l.take j).flatten++(a++(l.drop (j+1)).flatten):=by
 induction l generalizing j with
 | nil=>simp at h
 | cons x l ih=>
  cases j with
  | zero=>simp at h;simp [h]
  | succ j=>simp at h;simp [ih h]
theorem EF(h:l[j]? =some a):(l.take (j+1)).flatten=(l.take j).flatten++a:=by
 rw [DA,h]
 simp
variable {x:AV}
theorem EG{ms:List Int}(h:tG x=some ms):∃ k n t args r,x= .a [.i .i64 k,.i .i64 n,.l t args]∧xy args=some r∧ms=if k=2 then n::r else r:=by
 unfold tG at h
 split at h
 ·rename_i k n t args
  obtain ⟨r,h1,rfl⟩:=ew.1 h
  exact ⟨k,n,t,args,r,rfl,h1,rfl⟩
 ·cases h
theorem FL:∀ {args:List AV}{r:List Int},xy args=some r→∃ mss:List (List Int),mss.length=args.length∧r=mss.flatten∧∀ (j:Nat)(e:AV),args[j]? =some e→∃ ms:List Int,mss[j]? =some ms∧tG e=some ms
 | [],r,h=>by
  simp only [xy,mm] at h
  subst h
  exact ⟨[],rfl,rfl,fun j e h=>by simp at h⟩
 | x::l,r,h=>by
  simp only [xy] at h
  obtain ⟨a,h1,h2⟩:=aj.1 h
  obtain ⟨b,h3,rfl⟩:=ew.1 h2
  obtain ⟨mss,h4,rfl,h6⟩:=FL h3
  refine ⟨a::mss,by simp [h4],by simp,fun j e hj=>?_⟩
  cases j with
  | zero=>
    obtain rfl:x=e:=by simpa using hj
    exact ⟨a,rfl,h1⟩
  | succ j=>simpa using h6 j e (by simpa using hj)
variable [cj]
variable {w:World}{I:Nat→Prop}{κ:Key→Nat}{t:TypeId}{args:List AV}
theorem S5{k n:Int}{v:Value}(hv:VR w I κ (.a [.i .i64 k,.i .i64 n,.l t args]) v):
  ∃ sv,v= .agg #[.int .i64 k,.int .i64 n,sv]∧VR w I κ (.l t args) sv:=by
 cases hv with
 | a _ vs hl h1 hc=>
  have e0:=hc 0 _ rfl
  have e1:=hc 1 _ rfl
  have e2:=hc 2 _ rfl
  refine ⟨vs.getD 2 undef,?_,e2⟩
  congr 1
  apply uU (by simpa using hl.symm)
  intro i aw aG
  have hi:i=0∨i=1∨i=2:=by simp at aG;omega
  rcases hi with rfl | rfl | rfl
  ·have:=e0.mO;simpa [Array.getD,aw] using this
  ·have:=e1.mO;simpa [Array.getD,aw] using this
  ·simp [Array.getD,aw]
variable {sv:Value}
theorem Nw(h:VR w I κ (.l t args) sv):∃ A m cap,sv= .slice A m cap:=by
 cases h<;>exact ⟨_,_,_,rfl⟩
theorem partAt(h:VR w I κ (.l t args) sv)(hu:∀ e∈args,∃ ms,tG e=some ms):
  ∃ A cap,sv= .slice A args.length cap∧args.length≤9223372036854775807∧∀ (j:Nat)(e:AV),args[j]? =some e→∃ g o k n A' m cap',A=some ⟨g,o,none⟩∧I g∧VR w I κ e (.agg #[.int .i64 k,.int .i64 n,.slice A' m cap'])∧
   w.cell? ⟨g,o+j*3,none⟩=some (.int .i64 k)∧w.cell? ⟨g,o+j*3+1,none⟩=some (.int .i64 n)∧w.cell? ⟨g,o+j*3+2,none⟩=some (.slice A' m cap'):=by
 cases h with
 | lnil t' A cap=>
  exact ⟨A,cap,rfl,by simp,fun j e h=>by simp at h⟩
 | l t' _ g o cap cs T fz sz Z hh ht aA aW aa hp h1 aJ aF s=>
  refine ⟨some ⟨g,o,none⟩,cap,rfl,di aJ (di aF (by decide)),fun j e he=>?_⟩
  obtain ⟨ms,aE⟩:=hu e (bu he)
  obtain ⟨k,n,t2,args2,r,rfl,_,_⟩:=EG aE
  have au:j<args.length:=by
   obtain ⟨h,_⟩:=j8.1 he;exact h
  obtain rfl:sz=3:=by have:=aW _ (bu he);simpa [AV.nc,AV.cl] using this.symm
  have hm:∀ m,m<3→w.cell? ⟨g,o+j*3+m,none⟩=some (cs.getD (o+j*3+m) undef):=fun m hm=>by
   have hb:o+j*3+m<cs.size:=by
    have:(j+1)*3≤args.length*3:=fL 3 au
    omega
   unfold World.cell?
   simp only [hh]
   simp [Array.getD,hb]
  have hc:=fun m c H=>s j _ m c he H
  have e0:=(hc 0 _ rfl).mO
  have e1:=(hc 1 _ rfl).mO
  have e2:=hc 2 _ rfl
  obtain ⟨A',m',cap',e3⟩:=Nw e2
  have g0:=hm 0 (by omega)
  have g1:=hm 1 (by omega)
  have g2:=hm 2 (by omega)
  rw [e0] at g0
  rw [e1] at g1
  rw [e3] at e2 g2
  refine ⟨g,o,_,_,_,_,_,rfl,Z,?_,g0,g1,g2⟩
  refine VR.a _ _ rfl (fun c a1=>h1 _ (bu he) c a1) fun m c H=>?_
  match m,H with
  | 0,H=>have:=hc 0 c H;rw [e0] at this;simpa using this
  | 1,H=>have:=hc 1 c H;rw [e1] at this;simpa using this
  | 2,H=>have:=hc 2 c H;rw [e3] at this;simpa using this
attribute [local go_sem] Oper.semAt_some
def VC(I:Nat→Prop)(ns:List Int)(J:(Nat→Prop)→List Int→World→Prop)(Jx:List Int→World→Prop)(W:World)(to:List Int)(e:Ending)(W':World):Prop:=
 (e= .returned (.bool true)∧∃ T',J T' to W'∧(∀ b,I b→W'.heap[b]? =W.heap[b]?)∧W.heap.size≤W'.heap.size)∨
 (e= .returned (.bool false)∧∃ p n r,ns=p++n::r∧Jx (p++[n]) W')
set_option maxHeartbeats 4000000 in
theorem Pz{w:World}{I:Nat→Prop}{κ:Key→Nat}{l:Nat}{ns:List Int}{J:(Nat→Prop)→List Int→World→Prop}{Jx:List Int→World→Prop}(Y:∀ b,I b→b<w.heap.size)
  (hJ:∀ T pre W W',J T pre W→Below W.heap.size W W'→J (fun b=>T b∨(W.heap.size≤b∧b<W'.heap.size)) pre W')
  (hY:∀ T pre n rest W1 m,ns=pre++n::rest→J T pre W1→YieldAt Fence.wide m Tryz.prog l #[.int .i64 n] W1 fun e W2=>
   (e= .returned (.bool true)∧J T (pre++[n]) W2∧(∀ b,T b→W2.heap[b]? =W1.heap[b]?)∧(∀ b,I b→W2.heap[b]? =W1.heap[b]?)∧W1.heap.size≤W2.heap.size)∨(e= .returned (.bool false)∧Jx (pre++[n]) W2)) :
  ∀ (N:Nat)(x:AV),SizeOf.sizeOf x<N→∀ (ms:List Int),tG x=some ms→∀ (pre rest:List Int),ns=pre++(ms++rest)→∀ (v:Value)(T:Nat→Prop)(W:World)(m:Nat),VR w I κ x v→w.heap.size≤W.heap.size→(∀ b,I b→W.heap[b]? =w.heap[b]?)→J T pre W→
   CallsIn Fence.wide m Tryz.prog 231 #[v,.func (.yield l) #[] #[]] W (VC I ns J Jx W (pre++ms))
 | 0,x,hN,ms,hu=>absurd hN (Nat.not_lt_zero _)
 | N+1,x,hN,ms,hu=>by
  intro pre rest an v T W m hv aA hI hj
  obtain ⟨k,n,t,args,r,rfl,hr,rfl⟩:=EG hu
  obtain ⟨mss,a4,rfl,ag⟩:=FL hr
  have aq:∀ (j:Nat)(e:AV),args[j]? =some e→∀ ms,tG e=some ms→∀ (pre rest:List Int),ns=pre++(ms++rest)→∀ (v:Value)(T:Nat→Prop)(W:World)(m:Nat),VR w I κ e v→w.heap.size≤W.heap.size→(∀ b,I b→W.heap[b]? =w.heap[b]?)→J T pre W→
   CallsIn Fence.wide m Tryz.prog 231 #[v,.func (.yield l) #[] #[]] W (VC I ns J Jx W (pre++ms)):=fun j e he ms aE=>Pz Y hJ hY N e (by
    have:=List.sizeOf_lt_of_mem (bu he)
    simp at hN
    omega) ms aE
  obtain ⟨sv,rfl,aN⟩:=S5 hv
  obtain ⟨A,cap,rfl,hlen,ad⟩:=partAt aN fun e he=>by
   obtain ⟨j,hj⟩:=List.getElem?_of_mem he
   obtain ⟨ms,_,h⟩:=ag j e hj
   exact ⟨ms,h⟩
  clear aN hu hr hv
  refine callsIn_of_wp Tryz.func231 rfl trivial ?_ rfl
  simp only [Tryz.ntmps231,uN,eM,qE,Nat.reduceAdd,Nat.reduceSub,zJ,zK,zL,zM,eN,eZ]
  have aO:=fun W0=>hJ T pre W W0 hj
  by_cases hk:k=2
  ·subst hk
   simp only [af trivial,eZ] at an ⊢
   have am:Below W.heap.size W (W.alloc (Obj.cells #[.int .i64 2,.int .i64 n,.slice A args.length cap] 89)):=(Below.refl _ W).alloc (aY _) _
   obtain ⟨fn,tmps,assign,body,hy,hR⟩:=hY _ pre n (mss.flatten++rest) _ (m - 1) an (aO _ am)
   gi_wp2
   refine ⟨fun h=>(by cases h),hR.mono ?_⟩
   rintro e W2 (⟨rfl,aZ,aQ,a3,az⟩ | ⟨rfl,aS⟩)
   ·have c2:W2.cell? ⟨W.heap.size,2,none⟩=some (.slice A args.length cap):=(World.cell?_of_block (a:=⟨W.heap.size,2,none⟩) (aQ W.heap.size (Or.inr ⟨aY _,by simp⟩))).trans (by simp)
    have ap:W.heap.size≤W2.heap.size:=di am.size az
    have aL:∀ b,I b→W2.heap[b]? =w.heap[b]? :=fun b hb=>(a3 b hb).trans ((am.block b (by have:=Y b hb;omega)).trans (hI b hb))
    clear aQ hy hR am
    gi_wp2
    gi_loopw [20] (fun p wr=>∃ (j:Nat)(T':Nat→Prop),p= .int .i64 j∧j≤args.length∧J T' (pre++[n]++(mss.take j).flatten) wr∧(∀ b,I b→wr.heap[b]? =W2.heap[b]?)∧W2.heap.size≤wr.heap.size) (fun p wr=>args.length - (intOf p).toNat)
    case atStart=>
     refine ⟨0,_,rfl,by omega,by simpa using aZ,fun b hb=>rfl,aY _⟩
    case round=>
     obtain ⟨j,T',rfl,aX,ak,M,O⟩:=hrel
     by_cases au:j<args.length
     ·obtain ⟨e,he⟩:∃ e,args[j]? =some e:=⟨_,aV au⟩
      obtain ⟨g,o,k',n',A',m',cap',rfl,Z,ay,c0,c1,c2⟩:=ad j e he
      have s:∀ (off:Nat)(u:Value),w.cell? ⟨g,off,none⟩=some u→wr.cell? ⟨g,off,none⟩=some u:=fun off u h=>by
       rw [←h]
       exact World.cell?_of_block (w:=w) ((M g Z).trans (aL g Z))
      have d0:=s _ _ c0
      have d1:=s _ _ c1
      have d2:=s _ _ c2
      clear c0 c1 c2 s
      gi_wp2
      refine ⟨trivial,fun h=>(by cases h),?_⟩
      obtain ⟨ms,S,ai⟩:=ag j e he
      have aI:=Is S
      have X:Below wr.heap.size wr (wr.alloc (Obj.cells #[.int .i64 k',.int .i64 n',.slice A' m' cap'] 89)):=(Below.refl _ wr).alloc (aY _) _
      refine (aq j e he ms ai (pre++[n]++(mss.take j).flatten) ((mss.drop (j+1)).flatten++rest) (by rw [an,aI];simp) _ _ _ _ ay (by simp;omega) (fun b hb=>?_) (hJ _ _ _ _ ak X)).mono ?_
      ·have:=Y b hb
       exact (X.block b (by omega)).trans ((M b hb).trans (aL b hb))
      ·rintro e1 w1 (⟨rfl,T1,av,ax,V⟩ | ⟨rfl,p,n1,r1,R,ao⟩)
       ·gi_wp2
        refine ⟨⟨j+1,T1,rfl,by omega,?_,fun b hb=>?_,?_⟩,?_⟩
        ·rw [EF S,←o7];exact av
        ·have:=Y b hb
         exact (ax b hb).trans ((X.block b (by omega)).trans (M b hb))
        ·exact di O (di X.size V)
        ·simp only [intOf];omega
       ·gi_wp2
        exact ⟨rfl,_,results_tmp rfl _ _ _,Or.inr ⟨rfl,p,n1,r1,R,ao⟩⟩
     ·obtain rfl:j=args.length:=by omega
      gi_wp2
      rw [pb (by omega)] at ak
      exact ⟨rfl,_,results_tmp rfl _ _ _,Or.inl ⟨rfl,T',by simpa using ak,fun b hb=>(M b hb).trans ((aL b hb).trans (hI b hb).symm),di ap O⟩⟩
   ·gi_wp2
    exact ⟨rfl,_,results_tmp rfl _ _ _,Or.inr ⟨rfl,pre,n,mss.flatten++rest,an,aS⟩⟩
  ·simp only [ab hk] at an ⊢
   gi_wp2
   repeat (refine ⟨fun _ h=>(by cases h),?_⟩;gi_wp2)
   have am:Below W.heap.size W (W.alloc (Obj.cells #[.int .i64 k,.int .i64 n,.slice A args.length cap] 89)):=(Below.refl _ W).alloc (aY _) _
   gi_loopw [20] (fun p wr=>∃ (j:Nat)(T':Nat→Prop),p= .int .i64 j∧j≤args.length∧J T' (pre++(mss.take j).flatten) wr∧(∀ b,I b→wr.heap[b]? =W.heap[b]?)∧W.heap.size≤wr.heap.size) (fun p wr=>args.length - (intOf p).toNat)
   case atStart=>
    refine ⟨0,_,rfl,by omega,by simpa using aO _ ((Below.refl _ W).alloc (aY _) _),fun b hb=>?_,?_⟩
    ·have:=Y b hb
     exact am.block b (by omega)
    ·exact am.size
   case round=>
    obtain ⟨j,T',rfl,aX,ak,M,O⟩:=hrel
    by_cases au:j<args.length
    ·obtain ⟨e,he⟩:∃ e,args[j]? =some e:=⟨_,aV au⟩
     obtain ⟨g,o,k',n',A',m',cap',rfl,Z,ay,c0,c1,c2⟩:=ad j e he
     have s:∀ (off:Nat)(u:Value),w.cell? ⟨g,off,none⟩=some u→wr.cell? ⟨g,off,none⟩=some u:=fun off u h=>by
      rw [←h]
      exact World.cell?_of_block (w:=w) ((M g Z).trans (hI g Z))
     have d0:=s _ _ c0
     have d1:=s _ _ c1
     have d2:=s _ _ c2
     clear c0 c1 c2 s
     gi_wp2
     refine ⟨trivial,fun h=>(by cases h),?_⟩
     obtain ⟨ms,S,ai⟩:=ag j e he
     have aI:=Is S
     have X:Below wr.heap.size wr (wr.alloc (Obj.cells #[.int .i64 k',.int .i64 n',.slice A' m' cap'] 89)):=(Below.refl _ wr).alloc (aY _) _
     refine (aq j e he ms ai (pre++(mss.take j).flatten) ((mss.drop (j+1)).flatten++rest) (by rw [an,aI];simp) _ _ _ _ ay (by simp;omega) (fun b hb=>?_) (hJ _ _ _ _ ak X)).mono ?_
     ·have:=Y b hb
      exact (X.block b (by omega)).trans ((M b hb).trans (hI b hb))
     ·rintro e1 w1 (⟨rfl,T1,av,ax,V⟩ | ⟨rfl,p,n1,r1,R,ao⟩)
      ·gi_wp2
       refine ⟨⟨j+1,T1,rfl,by omega,?_,fun b hb=>?_,?_⟩,?_⟩
       ·rw [EF S,←o7];exact av
       ·have:=Y b hb
        exact (ax b hb).trans ((X.block b (by omega)).trans (M b hb))
       ·exact di O (di X.size V)
       ·simp only [intOf];omega
      ·gi_wp2
       exact ⟨rfl,_,results_tmp rfl _ _ _,Or.inr ⟨rfl,p,n1,r1,R,ao⟩⟩
    ·obtain rfl:j=args.length:=by omega
     gi_wp2
     rw [pb (by omega)] at ak
     exact ⟨rfl,_,results_tmp rfl _ _ _,Or.inl ⟨rfl,T',ak,M,O⟩⟩
variable {ns:List Int}
theorem S6(h:tG x=some ns):LO Tryz.prog 230 (.e x 0) ns:=by
 intro w I κ v hn Y hv
 obtain ⟨k,n,t,args,r,rfl,h1,h2⟩:=EG h
 obtain ⟨vs,rfl,hl,hc⟩:=hv.Lc (by decide)
 ·have aP:=hc 0 _ rfl
  obtain ⟨v0,rfl⟩:∃ v0,vs=#[v0]:=by
   have:vs.size=1:=by simpa using hl.symm
   refine ⟨vs[0],?_⟩
   apply uU (by simpa using this)
   intro i aw aG
   have hi:i=0:=by simp at aG;omega
   subst hi
   rfl
  simp only [Array.getD,uN,eM,qE,gO,Nat.lt_add_one,dite_true] at aP
  generalize hx:AV.a [.i .i64 k,.i .i64 n,.l t args]=x at *
  cases aP with
  | e _ _ g o cs T0 fz Z hh hp aa aD F=>
   subst hx
   have e0:=(F 0 _ rfl).mO
   have e1:=(F 1 _ rfl).mO
   have e2:=F 2 _ rfl
   obtain ⟨A',m',cap',e3⟩:=Nw e2
   have hm:∀ j,j<3→w.cell? ⟨g,o+j,none⟩=some (cs.getD (o+j) undef):=fun j hj=>by
    have hb:o+j<cs.size:=by
     have:o+3≤cs.size:=by simpa [AV.nc,AV.cl] using aa
     omega
    unfold World.cell?
    simp only [hh]
    simp [Array.getD,hb]
   have g0:=hm 0 (by omega)
   have g1:=hm 1 (by omega)
   have g2:=hm 2 (by omega)
   rw [e0] at g0
   rw [e1] at g1
   rw [e3] at g2
   have hv:VR w I κ (.a [.i .i64 k,.i .i64 n,.l t args]) (.agg #[.int .i64 k,.int .i64 n,.slice A' m' cap']):=by
    refine VR.a _ _ rfl aD fun m c H=>?_
    match m,H with
    | 0,H=>have:=F 0 c H;rw [e0] at this;simpa using this
    | 1,H=>have:=F 1 c H;rw [e1] at this;simpa using this
    | 2,H=>have:=F 2 c H;rw [e3] at this;simpa using this
   refine ⟨230,_,rfl,fun args w=>?_,fun l m J Jx T W aA M hJ hY hj=>?_⟩
   ·exact fO (f:=230) ⟨Tryz.f230,Tryz.func230,rfl,by decide⟩ args w
   ·have hw:∀ (off:Nat)(u:Value),w.cell? ⟨g,off,none⟩=some u→W.cell? ⟨g,off,none⟩=some u:=fun off u h=>by
     rw [←h]
     exact World.cell?_of_block (w:=w) (M g Z)
    have d0:=hw _ _ g0
    have d1:=hw _ _ g1
    have d2:=hw _ _ g2
    simp only [mo] at d0
    clear g0 g1 g2 hm F e0 e1 e2 e3 hw hh hc hl
    have aU:=Pz (I:=I) Y hJ hY (SizeOf.sizeOf (AV.a [.i .i64 k,.i .i64 n,.l t args])+1) _ (gP _) ns h [] [] (by simp) _ T W (m - 1) hv aA M hj
    refine callsIn_of_wp Tryz.func230 rfl trivial ?_ rfl
    simp only [Tryz.ntmps230,uN,eM,qE,Nat.reduceAdd,Nat.reduceSub,zJ,zK,zL,zM,eN,eZ]
    simp only [mo]
    gi_wp2
    refine ⟨trivial,fun h=>(by cases h),?_⟩
    refine aU.mono ?_
    rintro e1 w1 (⟨rfl,T1,av,ax,V⟩ | ⟨rfl,p,n1,r1,R,ao⟩)
    ·gi_wp2
     go_end0
     exact ⟨⟨_,rfl⟩,Or.inl ⟨_,by simpa using av⟩⟩
    ·gi_wp2
     go_end0
     exact ⟨⟨_,rfl⟩,Or.inr ⟨p,n1,r1,R,by simpa using ao⟩⟩
theorem ah9{c:AV}{es:List AV}(h:A1 [.u,c]=some (.l 0 es))(hn:sf es=some ns):LO Tryz.prog 230 c ns:=by
 unfold A1 at h
 split at h
 ·rename_i x heq
  obtain ⟨ms,h1,h2⟩:=ew.1 h
  simp only [Du,true_and,and_true] at heq
  subst heq
  obtain rfl:ms.map (AV.i .i64)=es:=by simpa using h2
  rw [GZ] at hn
  obtain rfl:=ah hn
  exact S6 h1
 ·cases h
end Go.Proofs.YtlmphbbhaeampaaGreat.A
