/- Code and functions: what the abstract run says of a function, a call of it does. -/
import Derived.Test.YtkkkkondjclcnaaGreatAbsQ
import Derived.Test.YtkkkkondjclcnaaGreatAbsG
import Derived.Test.YtkkkkondjclcnaaGreatAbsO
import Derived.Below
import Derived.Lib.AtoiErrMem
import Derived.Lib.AppendIntMem
import Derived.Lib.LaidTab
import Derived.RangeFuncNested
import Derived.RangeFuncBound
import Derived.RangeFuncCalls
import Derived.RangeFuncLeaves
import Derived.Shelf.Abstract
import Derived.WalkKit
import Derived.OwnWalkIn
import Derived.TacticsInMore
import Derived.LoopNIn
import Derived.LoopIn
import Derived.Test.YtkkkkondjclcnaaGreatProg
set_option linter.all false
set_option maxRecDepth 100000
namespace Go.Proofs.YtkkkkondjclcnaaGreat.A
open Go
variable [bM]
variable {P:Program}{G:sb}{Ω:ef}
theorem aad(hΩ:je P Ω){n:Nat}(ih:KO P (exec G Ω n))(ihL:Qk P (exec G Ω n))(aS:∀ k,k≤n→m8 P (jP G (exec G Ω k))):KO P (exec G Ω (n+1))∧Qk P (exec G Ω (n+1)):=by
  have hR:=aS n (aV _)
  have ag:Qk P (exec G Ω (n+1)):=by
   intro E ac st r c nt C a w σ Q hP hE L he hl hc hQ
   simp only [exec] at he
   obtain ⟨q,hq,D⟩:=ah.1 he
   refine LW.round (ih E ac st q c nt C a w σ _ hP hE L hq hl hc fun a' w' σ' hs K=>?_)
   obtain ⟨qe,qs⟩:=q
   cases qe with
   | nrm=>exact ihL E ac qs r c nt C a' w' σ' Q hP hE L D hl K fun a'' w'' σ'' aB al=>hQ a'' w'' σ'' (hs.trans aB) al
   | ex id=>
    obtain rfl:=af D
    exact hQ a' w' σ' hs K
   | ret=>
    obtain rfl:=af D
    exact hQ a' w' σ' hs K
  refine ⟨?_,ag⟩
  intro E ac st r c nt C a w σ Q hP hE L he hl hc hQ
  cases ac with
  | sk=>
   obtain rfl:=af he
   rcases Sf hl with rfl | ⟨l,rfl⟩
   ·exact wp_skip (hQ a w σ (.refl _ _ _) hc)
   ·exact wp_label (hQ a w σ (.refl _ _ _) hc)
  | rg pre gs kf kb=>
   obtain ⟨id,ops,F,U⟩:=Sg hl
   clear hl
   subst F
   have hl:=U
   simp only [exec] at he
   subst hP;subst hE
   obtain ⟨st1,h1,D⟩:=ah.1 he
   obtain ⟨st2,h2,aH⟩:=ah.1 D
   obtain rfl:=af aH
   obtain ⟨σ1,aA,aK⟩:=hc.pre pre h1
   exact aK.region hR hΩ L hl h2 fun a' w' σ' hs K=>hQ a' w' σ' (aA.trans hs) (K.aG kf kb)
  | dg pre mks gs kf kb=>
   obtain ⟨id,ops,F,U⟩:=Sh hl
   clear hl
   subst F
   have hl:=U
   simp only [exec] at he
   subst hP;subst hE
   obtain ⟨st1,h1,D⟩:=ah.1 he
   split at D
   ·rename_i hm
    obtain ⟨st2,h2,aH⟩:=ah.1 D
    obtain rfl:=af aH
    obtain ⟨σ1,aA,aK⟩:=hc.pre pre h1
    exact aK.drawn hR hΩ L hl hm h2 fun a' w' σ' hs K=>hQ a' w' σ' (aA.trans hs) (K.aG kf kb)
   ·cases D
  | sq x y=>
   obtain ⟨c1,c2,F,U⟩:=Si hl
   clear hl
   subst F
   have hl:=U
   simp only [exec] at he
   obtain ⟨q,hq,D⟩:=ah.1 he
   refine wp_seq (ih E x st q c1 nt C a w σ _ hP hE L hq hl.1 hc fun a' w' σ' hs K=>?_)
   obtain ⟨qe,qs⟩:=q
   cases qe with
   | nrm=>exact ih E y qs r c2 nt C a' w' σ' Q hP hE L D hl.2 K fun a'' w'' σ'' aB al=>hQ a'' w'' σ'' (hs.trans aB) al
   | ex id=>
    obtain rfl:=af D
    exact hQ a' w' σ' hs K
   | ret=>
    obtain rfl:=af D
    exact hQ a' w' σ' hs K
  | ite cc x y=>
   obtain ⟨cd,c1,c2,F,U⟩:=Qj hl
   clear hl
   subst F
   have hl:=U
   simp only [exec] at he
   obtain ⟨z,hz,D⟩:=ah.1 he
   have aM:st.ev cc= .b z:=by
    cases F:st.ev cc<;>rw [F] at hz<;>simp [qA] at hz
    rw [hz]
   have a2:a.eval cd= .bool z:=by
    have:=hc.wQ hl.1.1 (by rw [aM];rfl)
    rw [aM] at this
    exact this.rE
   refine wp_cond a2 ?_
   cases z with
   | true=>exact ih E x st r c1 nt C a w σ Q hP hE L (by simpa using D) hl.1.2 hc hQ
   | false=>exact ih E y st r c2 nt C a w σ Q hP hE L (by simpa using D) hl.2 hc hQ
  | bl id x=>
   obtain ⟨c1,F,U⟩:=Sj hl
   clear hl
   subst F
   have hl:=U
   simp only [exec] at he
   obtain ⟨q,hq,D⟩:=ah.1 he
   refine wp_block (ih E x st q c1 nt C a w σ _ hP hE L hq hl hc fun a' w' σ' hs K=>?_)
   obtain ⟨qe,qs⟩:=q
   cases qe with
   | nrm=>
    obtain rfl:=af D
    exact hQ a' w' σ' hs K
   | ret=>
    obtain rfl:=af D
    exact hQ a' w' σ' hs K
   | ex id=>
    simp only [inBlock] at D
    simp only [uz,Exit.inBlock]
    split at D
    ·rename_i hid
     obtain rfl:=af D
     rw [ab hid]
     exact hQ a' w' σ' hs K
    ·rename_i hid
     obtain rfl:=af D
     rw [aa hid]
     exact hQ a' w' σ' hs K
  | lp x=>
   obtain ⟨c1,F,U⟩:=Sk hl
   clear hl
   subst F
   have hl:=U
   exact (ag E x st r _ nt C a w σ Q hP hE L he hl hc hQ).loop
  | ex id=>
   obtain rfl:=Sl hl
   obtain rfl:=af he
   exact wp_exit (hQ a w σ (.refl _ _ _) hc)
  | kp kf kb x=>exact ih E x (st.aG kf kb) r c nt C a w σ Q hP hE L he (Sn hl) (hc.aG kf kb) hQ
  | bad=>cases he
  | ru g' x y' b'=>
   obtain ⟨g,y,b,rfl,h1,h2,h3,h4,h5,h6⟩:=aab hl
   simp only [exec] at he
   split at he
   ·cases he
   ·rename_i aU
    obtain ⟨ns,a0,D⟩:=ah.1 he
    subst hE
    exact Xi hΩ aS (aV _) hP (by simpa using aU) L h2 a0 D h1 h3 h4 h5 h6 hc hQ
  | rt=>
   obtain rfl:=Sm hl
   obtain rfl:=af he
   exact wp_ret (hQ a w σ (.refl _ _ _) hc)
theorem Jd(hT:Al P G)(hΩ:∀ B:bM,@je B P Ω):∀ (n k:Nat),k≤n→∀ B:bM,@KO B P (exec G Ω k)∧@Qk B P (exec G Ω k)
 | 0,k,hk,B=>by
  obtain rfl:k=0:=by omega
  exact ⟨fun E ac st r c nt C a w σ Q _ _ _ he=>by simp [exec] at he,fun E ac st r c nt C a w σ Q _ _ _ he=>by simp [exec] at he⟩
 | n+1,k,hk,B=>by
  by_cases h:k≤n
  ·exact Jd hT hΩ n k h B
  ·obtain rfl:k=n+1:=by omega
   have ih:=Jd hT hΩ n
   exact @aad B P G Ω (hΩ B) n (ih n (aV _) B).1 (ih n (aV _) B).2 fun k hk B'=>@Bs B' P G _ hT (ih k hk B').1
theorem Hs(hT:Al P G)(hΩ:∀ B:bM,@je B P Ω)(n:Nat)(B:bM) : @KO B P (exec G Ω n)∧@Qk B P (exec G Ω n):=Jd hT hΩ n n (aV _) B
theorem Ss(hT:Al P G)(hΩ:∀ B:bM,@je B P Ω):kC P (call G Ω):=by
 refine ⟨fun dp f ys hp x hp' he hyp=>?_,fun dp f ys hp cs hp' he hyp=>?_,fun dp f ys hp x hp' he hyp=>?_,fun dp f ys t es hp' t' a4 he hyp=>?_⟩
 ·obtain ⟨n,hn⟩:=mX (G:=G) (Ω:=Ω) ⟨dp,false⟩ f ys hp _ he
  exact (Bs hT (Hs hT hΩ n _).1).ret dp f ys hp x hp' (hn n (aV _)) hyp
 ·obtain ⟨n,hn⟩:=mX (G:=G) (Ω:=Ω) ⟨dp,false⟩ f ys hp _ he
  exact (Bs hT (Hs hT hΩ n _).1).new dp f ys hp cs hp' (hn n (aV _)) hyp
 ·obtain ⟨n,hn⟩:=mX (G:=G) (Ω:=Ω) ⟨dp,true⟩ f ys hp _ he
  exact (Bs hT (Hs hT hΩ n _).1).ro dp f ys hp x hp' (hn n (aV _)) hyp
 ·obtain ⟨n,hn⟩:=mX (G:=G) (Ω:=Ω) ⟨dp,false⟩ f (ys++[.o t es]) (fun _=>none) _ he
  exact (Bs hT (Hs hT hΩ n _).1).mov dp f ys t es hp' t' a4 (hn n (aV _)) hyp
end Go.Proofs.YtkkkkondjclcnaaGreat.A
namespace Go.Proofs.YtkkkkondjclcnaaGreat.A
open Go Go.RowKit
variable [bM]
theorem VU{α:Type}{a:Array α}(h:a.size=2)(d:α):a=#[a.getD 0 d,a.getD 1 d]:=by
 apply yv (by simpa using h)
 intro i h1 h2
 have:i=0∨i=1:=by omega
 rcases this with rfl | rfl<;>simp [Array.getD,h1]
theorem Ql{u:TypeId}{ys:List AV}{x:AV}(h:rq u ys=some x)(hp:x.pure=true):False:=by
 unfold rq at h
 split at h
 ·split at h
  ·obtain rfl:=af h
   cases hp
  ·cases h
 ·cases h
end Go.Proofs.YtkkkkondjclcnaaGreat.A
namespace Go.Proofs.YtkkkkondjclcnaaGreat.A
open Go Go.Proofs Go.RowKit Go.Shelf
variable {α:Type}{l:List (List α)}{j:Nat}{a:List α}
theorem KR(h:l[j]? =some a):l.flatten=(l.take j).flatten++(a++(l.drop (j+1)).flatten):=by
 induction l generalizing j with
 | nil=>simp at h
 | cons x l ih=>
  cases j with
  | zero=>simp at h;simp [h]
  | succ j=>simp at h;simp [ih h]
theorem GQ(h:l[j]? =some a):(l.take (j+1)).flatten=(l.take j).flatten++a:=by
 rw [BE,h]
 simp
variable {x:AV}
theorem GR{ms:List Int}(h:vV x=some ms):∃ k n t args r,x= .a [.i .i64 k,.i .i64 n,.l t args]∧zK args=some r∧ms=if k=2 then n::r else r:=by
 unfold vV at h
 split at h
 ·rename_i k n t args
  obtain ⟨r,h1,rfl⟩:=db.1 h
  exact ⟨k,n,t,args,r,rfl,h1,rfl⟩
 ·cases h
theorem Ih:∀ {args:List AV}{r:List Int},zK args=some r→∃ mss:List (List Int),mss.length=args.length∧r=mss.flatten∧∀ (j:Nat)(e:AV),args[j]? =some e→∃ ms:List Int,mss[j]? =some ms∧vV e=some ms
 | [],r,h=>by
  simp only [zK,oy] at h
  subst h
  exact ⟨[],rfl,rfl,fun j e h=>by simp at h⟩
 | x::l,r,h=>by
  simp only [zK] at h
  obtain ⟨a,h1,h2⟩:=ah.1 h
  obtain ⟨b,h3,rfl⟩:=db.1 h2
  obtain ⟨mss,h4,rfl,h6⟩:=Ih h3
  refine ⟨a::mss,by simp [h4],by simp,fun j e hj=>?_⟩
  cases j with
  | zero=>
    obtain rfl:x=e:=by simpa using hj
    exact ⟨a,rfl,h1⟩
  | succ j=>simpa using h6 j e (by simpa using hj)
variable [bM]
variable {w:World}{I:Nat→Prop}{κ:Key→Nat}{t:TypeId}{args:List AV}
theorem VV{k n:Int}{v:Value}(hv:VR w I κ (.a [.i .i64 k,.i .i64 n,.l t args]) v):
  ∃ sv,v= .agg #[.int .i64 k,.int .i64 n,sv]∧VR w I κ (.l t args) sv:=by
 cases hv with
 | a _ vs hl h1 hc=>
  have e0:=hc 0 _ rfl
  have e1:=hc 1 _ rfl
  have e2:=hc 2 _ rfl
  refine ⟨vs.getD 2 undef,?_,e2⟩
  congr 1
  apply yv (by simpa using hl.symm)
  intro i av aF
  have hi:i=0∨i=1∨i=2:=by simp at aF;omega
  rcases hi with rfl | rfl | rfl
  ·have:=e0.kB;simpa [Array.getD,av] using this
  ·have:=e1.kB;simpa [Array.getD,av] using this
  ·simp [Array.getD,av]
variable {sv:Value}
theorem Qm(h:VR w I κ (.l t args) sv):∃ A m cap,sv= .slice A m cap:=by
 cases h<;>exact ⟨_,_,_,rfl⟩
theorem partAt(h:VR w I κ (.l t args) sv)(hu:∀ e∈args,∃ ms,vV e=some ms):
  ∃ A cap,sv= .slice A args.length cap∧args.length≤9223372036854775807∧∀ (j:Nat)(e:AV),args[j]? =some e→∃ g o k n A' m cap',A=some ⟨g,o,none⟩∧I g∧VR w I κ e (.agg #[.int .i64 k,.int .i64 n,.slice A' m cap'])∧
   w.cell? ⟨g,o+j*3,none⟩=some (.int .i64 k)∧w.cell? ⟨g,o+j*3+1,none⟩=some (.int .i64 n)∧w.cell? ⟨g,o+j*3+2,none⟩=some (.slice A' m cap'):=by
 cases h with
 | lnil t' A cap=>
  exact ⟨A,cap,rfl,by simp,fun j e h=>by simp at h⟩
 | l t' _ g o cap cs T fz sz Z hh ht az aX ad hp h1 aJ aE s=>
  refine ⟨some ⟨g,o,none⟩,cap,rfl,bS aJ (bS aE (by decide)),fun j e he=>?_⟩
  obtain ⟨ms,aD⟩:=hu e (bg he)
  obtain ⟨k,n,t2,args2,r,rfl,_,_⟩:=GR aD
  have ar:j<args.length:=by
   obtain ⟨h,_⟩:=eb.1 he;exact h
  obtain rfl:sz=3:=by have:=aX _ (bg he);simpa [AV.nc,AV.cl] using this.symm
  have hm:∀ m,m<3→w.cell? ⟨g,o+j*3+m,none⟩=some (cs.getD (o+j*3+m) undef):=fun m hm=>by
   have hb:o+j*3+m<cs.size:=by
    have:(j+1)*3≤args.length*3:=gK 3 ar
    omega
   unfold World.cell?
   simp only [hh]
   simp [Array.getD,hb]
  have hc:=fun m c H=>s j _ m c he H
  have e0:=(hc 0 _ rfl).kB
  have e1:=(hc 1 _ rfl).kB
  have e2:=hc 2 _ rfl
  obtain ⟨A',m',cap',e3⟩:=Qm e2
  have g0:=hm 0 (by omega)
  have g1:=hm 1 (by omega)
  have g2:=hm 2 (by omega)
  rw [e0] at g0
  rw [e1] at g1
  rw [e3] at e2 g2
  refine ⟨g,o,_,_,_,_,_,rfl,Z,?_,g0,g1,g2⟩
  refine VR.a _ _ rfl (fun c a1=>h1 _ (bg he) c a1) fun m c H=>?_
  match m,H with
  | 0,H=>have:=hc 0 c H;rw [e0] at this;simpa using this
  | 1,H=>have:=hc 1 c H;rw [e1] at this;simpa using this
  | 2,H=>have:=hc 2 c H;rw [e3] at this;simpa using this
attribute [local go_sem] Oper.semAt_some
def Y3(I:Nat→Prop)(ns:List Int)(J:(Nat→Prop)→List Int→World→Prop)(Jx:List Int→World→Prop)(W:World)(to:List Int)(e:Ending)(W':World):Prop:=
 (e= .returned (.bool true)∧∃ T',J T' to W'∧(∀ b,I b→W'.heap[b]? =W.heap[b]?)∧W.heap.size≤W'.heap.size)∨
 (e= .returned (.bool false)∧∃ p n r,ns=p++n::r∧Jx (p++[n]) W')
set_option maxHeartbeats 4000000 in
theorem Su{w:World}{I:Nat→Prop}{κ:Key→Nat}{l:Nat}{ns:List Int}{J:(Nat→Prop)→List Int→World→Prop}{Jx:List Int→World→Prop}(Y:∀ b,I b→b<w.heap.size)
  (hJ:∀ T pre W W',J T pre W→Below W.heap.size W W'→J (fun b=>T b∨(W.heap.size≤b∧b<W'.heap.size)) pre W')
  (hY:∀ T pre n rest W1 m,ns=pre++n::rest→J T pre W1→YieldAt Fence.wide m Tryz.prog l #[.int .i64 n] W1 fun e W2=>
   (e= .returned (.bool true)∧J T (pre++[n]) W2∧(∀ b,T b→W2.heap[b]? =W1.heap[b]?)∧(∀ b,I b→W2.heap[b]? =W1.heap[b]?)∧W1.heap.size≤W2.heap.size)∨(e= .returned (.bool false)∧Jx (pre++[n]) W2)) :
  ∀ (N:Nat)(x:AV),SizeOf.sizeOf x<N→∀ (ms:List Int),vV x=some ms→∀ (pre rest:List Int),ns=pre++(ms++rest)→∀ (v:Value)(T:Nat→Prop)(W:World)(m:Nat),VR w I κ x v→w.heap.size≤W.heap.size→(∀ b,I b→W.heap[b]? =w.heap[b]?)→J T pre W→
   CallsIn Fence.wide m Tryz.prog 147 #[v,.func (.yield l) #[] #[]] W (Y3 I ns J Jx W (pre++ms))
 | 0,x,hN,ms,hu=>absurd hN (Nat.not_lt_zero _)
 | N+1,x,hN,ms,hu=>by
  intro pre rest an v T W m hv az hI hj
  obtain ⟨k,n,t,args,r,rfl,hr,rfl⟩:=GR hu
  obtain ⟨mss,a5,rfl,ai⟩:=Ih hr
  have aq:∀ (j:Nat)(e:AV),args[j]? =some e→∀ ms,vV e=some ms→∀ (pre rest:List Int),ns=pre++(ms++rest)→∀ (v:Value)(T:Nat→Prop)(W:World)(m:Nat),VR w I κ e v→w.heap.size≤W.heap.size→(∀ b,I b→W.heap[b]? =w.heap[b]?)→J T pre W→
   CallsIn Fence.wide m Tryz.prog 147 #[v,.func (.yield l) #[] #[]] W (Y3 I ns J Jx W (pre++ms)):=fun j e he ms aD=>Su Y hJ hY N e (by
    have:=List.sizeOf_lt_of_mem (bg he)
    simp at hN
    omega) ms aD
  obtain ⟨sv,rfl,aN⟩:=VV hv
  obtain ⟨A,cap,rfl,hlen,ae⟩:=partAt aN fun e he=>by
   obtain ⟨j,hj⟩:=List.getElem?_of_mem he
   obtain ⟨ms,_,h⟩:=ai j e hj
   exact ⟨ms,h⟩
  clear aN hu hr hv
  refine callsIn_of_wp Tryz.func147 rfl trivial ?_ rfl
  simp only [Tryz.ntmps147,rX,cC,jk,Nat.reduceAdd,Nat.reduceSub,vD,vE,vG,vH,dZ,eJ]
  have aO:=fun W0=>hJ T pre W W0 hj
  by_cases hk:k=2
  ·subst hk
   simp only [ab trivial,eJ] at an ⊢
   have am:Below W.heap.size W (W.alloc (Obj.cells #[.int .i64 2,.int .i64 n,.slice A args.length cap] 37)):=(Below.refl _ W).alloc (aV _) _
   obtain ⟨fn,tmps,assign,body,hy,hR⟩:=hY _ pre n (mss.flatten++rest) _ (m - 1) an (aO _ am)
   gi_wp2
   refine ⟨fun h=>(by cases h),hR.mono ?_⟩
   rintro e W2 (⟨rfl,aZ,aR,a3,ay⟩ | ⟨rfl,aT⟩)
   ·have c2:W2.cell? ⟨W.heap.size,2,none⟩=some (.slice A args.length cap):=(World.cell?_of_block (a:=⟨W.heap.size,2,none⟩) (aR W.heap.size (Or.inr ⟨aV _,by simp⟩))).trans (by simp)
    have ap:W.heap.size≤W2.heap.size:=bS am.size ay
    have aL:∀ b,I b→W2.heap[b]? =w.heap[b]? :=fun b hb=>(a3 b hb).trans ((am.block b (by have:=Y b hb;omega)).trans (hI b hb))
    clear aR hy hR am
    gi_wp2
    gi_loopw [20] (fun p wr=>∃ (j:Nat)(T':Nat→Prop),p= .int .i64 j∧j≤args.length∧J T' (pre++[n]++(mss.take j).flatten) wr∧(∀ b,I b→wr.heap[b]? =W2.heap[b]?)∧W2.heap.size≤wr.heap.size) (fun p wr=>args.length - (intOf p).toNat)
    case atStart=>
     refine ⟨0,_,rfl,by omega,by simpa using aZ,fun b hb=>rfl,aV _⟩
    case round=>
     obtain ⟨j,T',rfl,aY,ak,M,O⟩:=hrel
     by_cases ar:j<args.length
     ·obtain ⟨e,he⟩:∃ e,args[j]? =some e:=⟨_,aP ar⟩
      obtain ⟨g,o,k',n',A',m',cap',rfl,Z,ax,c0,c1,c2⟩:=ae j e he
      have s:∀ (off:Nat)(u:Value),w.cell? ⟨g,off,none⟩=some u→wr.cell? ⟨g,off,none⟩=some u:=fun off u h=>by
       rw [←h]
       exact World.cell?_of_block (w:=w) ((M g Z).trans (aL g Z))
      have d0:=s _ _ c0
      have d1:=s _ _ c1
      have d2:=s _ _ c2
      clear c0 c1 c2 s
      gi_wp2
      refine ⟨trivial,fun h=>(by cases h),?_⟩
      obtain ⟨ms,S,aj⟩:=ai j e he
      have aI:=KR S
      have X:Below wr.heap.size wr (wr.alloc (Obj.cells #[.int .i64 k',.int .i64 n',.slice A' m' cap'] 37)):=(Below.refl _ wr).alloc (aV _) _
      refine (aq j e he ms aj (pre++[n]++(mss.take j).flatten) ((mss.drop (j+1)).flatten++rest) (by rw [an,aI];simp) _ _ _ _ ax (by simp;omega) (fun b hb=>?_) (hJ _ _ _ _ ak X)).mono ?_
      ·have:=Y b hb
       exact (X.block b (by omega)).trans ((M b hb).trans (aL b hb))
      ·rintro e1 w1 (⟨rfl,T1,au,aw,V⟩ | ⟨rfl,p,n1,r1,R,ao⟩)
       ·gi_wp2
        refine ⟨⟨j+1,T1,rfl,by omega,?_,fun b hb=>?_,?_⟩,?_⟩
        ·rw [GQ S,←ox];exact au
        ·have:=Y b hb
         exact (aw b hb).trans ((X.block b (by omega)).trans (M b hb))
        ·exact bS O (bS X.size V)
        ·simp only [intOf];omega
       ·gi_wp2
        exact ⟨rfl,_,results_tmp rfl _ _ _,Or.inr ⟨rfl,p,n1,r1,R,ao⟩⟩
     ·obtain rfl:j=args.length:=by omega
      gi_wp2
      rw [jL (by omega)] at ak
      exact ⟨rfl,_,results_tmp rfl _ _ _,Or.inl ⟨rfl,T',by simpa using ak,fun b hb=>(M b hb).trans ((aL b hb).trans (hI b hb).symm),bS ap O⟩⟩
   ·gi_wp2
    exact ⟨rfl,_,results_tmp rfl _ _ _,Or.inr ⟨rfl,pre,n,mss.flatten++rest,an,aT⟩⟩
  ·simp only [aa hk] at an ⊢
   gi_wp2
   repeat (refine ⟨fun _ h=>(by cases h),?_⟩;gi_wp2)
   have am:Below W.heap.size W (W.alloc (Obj.cells #[.int .i64 k,.int .i64 n,.slice A args.length cap] 37)):=(Below.refl _ W).alloc (aV _) _
   gi_loopw [20] (fun p wr=>∃ (j:Nat)(T':Nat→Prop),p= .int .i64 j∧j≤args.length∧J T' (pre++(mss.take j).flatten) wr∧(∀ b,I b→wr.heap[b]? =W.heap[b]?)∧W.heap.size≤wr.heap.size) (fun p wr=>args.length - (intOf p).toNat)
   case atStart=>
    refine ⟨0,_,rfl,by omega,by simpa using aO _ ((Below.refl _ W).alloc (aV _) _),fun b hb=>?_,?_⟩
    ·have:=Y b hb
     exact am.block b (by omega)
    ·exact am.size
   case round=>
    obtain ⟨j,T',rfl,aY,ak,M,O⟩:=hrel
    by_cases ar:j<args.length
    ·obtain ⟨e,he⟩:∃ e,args[j]? =some e:=⟨_,aP ar⟩
     obtain ⟨g,o,k',n',A',m',cap',rfl,Z,ax,c0,c1,c2⟩:=ae j e he
     have s:∀ (off:Nat)(u:Value),w.cell? ⟨g,off,none⟩=some u→wr.cell? ⟨g,off,none⟩=some u:=fun off u h=>by
      rw [←h]
      exact World.cell?_of_block (w:=w) ((M g Z).trans (hI g Z))
     have d0:=s _ _ c0
     have d1:=s _ _ c1
     have d2:=s _ _ c2
     clear c0 c1 c2 s
     gi_wp2
     refine ⟨trivial,fun h=>(by cases h),?_⟩
     obtain ⟨ms,S,aj⟩:=ai j e he
     have aI:=KR S
     have X:Below wr.heap.size wr (wr.alloc (Obj.cells #[.int .i64 k',.int .i64 n',.slice A' m' cap'] 37)):=(Below.refl _ wr).alloc (aV _) _
     refine (aq j e he ms aj (pre++(mss.take j).flatten) ((mss.drop (j+1)).flatten++rest) (by rw [an,aI];simp) _ _ _ _ ax (by simp;omega) (fun b hb=>?_) (hJ _ _ _ _ ak X)).mono ?_
     ·have:=Y b hb
      exact (X.block b (by omega)).trans ((M b hb).trans (hI b hb))
     ·rintro e1 w1 (⟨rfl,T1,au,aw,V⟩ | ⟨rfl,p,n1,r1,R,ao⟩)
      ·gi_wp2
       refine ⟨⟨j+1,T1,rfl,by omega,?_,fun b hb=>?_,?_⟩,?_⟩
       ·rw [GQ S,←ox];exact au
       ·have:=Y b hb
        exact (aw b hb).trans ((X.block b (by omega)).trans (M b hb))
       ·exact bS O (bS X.size V)
       ·simp only [intOf];omega
      ·gi_wp2
       exact ⟨rfl,_,results_tmp rfl _ _ _,Or.inr ⟨rfl,p,n1,r1,R,ao⟩⟩
    ·obtain rfl:j=args.length:=by omega
     gi_wp2
     rw [jL (by omega)] at ak
     exact ⟨rfl,_,results_tmp rfl _ _ _,Or.inl ⟨rfl,T',ak,M,O⟩⟩
variable {ns:List Int}
theorem VW(h:vV x=some ns):OR Tryz.prog 146 (.e x 0) ns:=by
 intro w I κ v hn Y hv
 obtain ⟨k,n,t,args,r,rfl,h1,h2⟩:=GR h
 obtain ⟨vs,rfl,hl,hc⟩:=hv.NZ (by decide)
 ·have aQ:=hc 0 _ rfl
  obtain ⟨v0,rfl⟩:∃ v0,vs=#[v0]:=by
   have:vs.size=1:=by simpa using hl.symm
   refine ⟨vs[0],?_⟩
   apply yv (by simpa using this)
   intro i av aF
   have hi:i=0:=by simp at aF;omega
   subst hi
   rfl
  simp only [Array.getD,rX,cC,jk,gh,Nat.lt_add_one,dite_true] at aQ
  generalize hx:AV.a [.i .i64 k,.i .i64 n,.l t args]=x at *
  cases aQ with
  | e _ _ g o cs T0 fz Z hh hp ad aC F=>
   subst hx
   have e0:=(F 0 _ rfl).kB
   have e1:=(F 1 _ rfl).kB
   have e2:=F 2 _ rfl
   obtain ⟨A',m',cap',e3⟩:=Qm e2
   have hm:∀ j,j<3→w.cell? ⟨g,o+j,none⟩=some (cs.getD (o+j) undef):=fun j hj=>by
    have hb:o+j<cs.size:=by
     have:o+3≤cs.size:=by simpa [AV.nc,AV.cl] using ad
     omega
    unfold World.cell?
    simp only [hh]
    simp [Array.getD,hb]
   have g0:=hm 0 (by omega)
   have g1:=hm 1 (by omega)
   have g2:=hm 2 (by omega)
   rw [e0] at g0
   rw [e1] at g1
   rw [e3] at g2
   have hv:VR w I κ (.a [.i .i64 k,.i .i64 n,.l t args]) (.agg #[.int .i64 k,.int .i64 n,.slice A' m' cap']):=by
    refine VR.a _ _ rfl aC fun m c H=>?_
    match m,H with
    | 0,H=>have:=F 0 c H;rw [e0] at this;simpa using this
    | 1,H=>have:=F 1 c H;rw [e1] at this;simpa using this
    | 2,H=>have:=F 2 c H;rw [e3] at this;simpa using this
   refine ⟨146,_,rfl,fun args w=>?_,fun l m J Jx T W az M hJ hY hj=>?_⟩
   ·exact fO (f:=146) ⟨Tryz.f146,Tryz.func146,rfl,by decide⟩ args w
   ·have hw:∀ (off:Nat)(u:Value),w.cell? ⟨g,off,none⟩=some u→W.cell? ⟨g,off,none⟩=some u:=fun off u h=>by
     rw [←h]
     exact World.cell?_of_block (w:=w) (M g Z)
    have d0:=hw _ _ g0
    have d1:=hw _ _ g1
    have d2:=hw _ _ g2
    simp only [oC] at d0
    clear g0 g1 g2 hm F e0 e1 e2 e3 hw hh hc hl
    have aW:=Su (I:=I) Y hJ hY (SizeOf.sizeOf (AV.a [.i .i64 k,.i .i64 n,.l t args])+1) _ (mR _) ns h [] [] (by simp) _ T W (m - 1) hv az M hj
    refine callsIn_of_wp Tryz.func146 rfl trivial ?_ rfl
    simp only [Tryz.ntmps146,rX,cC,jk,Nat.reduceAdd,Nat.reduceSub,vD,vE,vG,vH,dZ,eJ]
    simp only [oC]
    gi_wp2
    refine ⟨trivial,fun h=>(by cases h),?_⟩
    refine aW.mono ?_
    rintro e1 w1 (⟨rfl,T1,au,aw,V⟩ | ⟨rfl,p,n1,r1,R,ao⟩)
    ·gi_wp2
     go_end0
     exact ⟨⟨_,rfl⟩,Or.inl ⟨_,by simpa using au⟩⟩
    ·gi_wp2
     go_end0
     exact ⟨⟨_,rfl⟩,Or.inr ⟨p,n1,r1,R,by simpa using ao⟩⟩
theorem agB{c:AV}{es:List AV}(h:BO [.u,c]=some (.l 0 es))(hn:Az es=some ns):OR Tryz.prog 146 c ns:=by
 unfold BO at h
 split at h
 ·rename_i x heq
  obtain ⟨ms,h1,h2⟩:=db.1 h
  simp only [Fm,true_and,and_true] at heq
  subst heq
  obtain rfl:ms.map (AV.i .i64)=es:=by simpa using h2
  rw [Jo] at hn
  obtain rfl:=af hn
  exact VW h1
 ·cases h
end Go.Proofs.YtkkkkondjclcnaaGreat.A
