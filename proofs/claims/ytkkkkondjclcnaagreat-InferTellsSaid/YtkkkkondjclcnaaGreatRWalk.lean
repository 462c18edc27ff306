/- The reference's functions of levels by simp: what they answer, told at once (short stand-ins for printed lifts). -/
import Derived.Test.YtkkkkondjclcnaaGreatWalkF
import Derived.Test.YtkkkkondjclcnaaGreatReachW
set_option linter.all false
set_option maxRecDepth 100000
namespace Go.Proofs.YtkkkkondjclcnaaGreat.A
open Go
variable [Lp]
attribute [local simp] gp execOp okB ja er iG tX mg jt iZ St.end_ St.jZ List.filter
abbrev P3(l:List Bool):AV:=.o 4 (l.map AV.b)
abbrev ab5:List AV:=[.l 4 [],.l 4 []]
def HN(l m:Level)(k:Nat):St:=⟨[(2,.p ⟨0,2⟩ 0),(3,.p ⟨0,3⟩ 0),(4,.p ⟨0,4⟩ 0),(5,.p ⟨0,5⟩ 0),(6,I k)],[(2,aJ l),(3,aJ m),(4,ab5),(5,[P3 (o7 k l.Readers m.Readers),P3 (uH k l.Writers m.Writers)])],H0⟩
set_option maxHeartbeats 8000000 in
theorem ag4{n:Nat}(hn:n≤1000000){l m:Level}(hl:bc n l)(hm:bc n m):call G Ω0 E0 60 [.a (aJ l),.a (aJ m)] H0=some (.ret (.a (aJ (cV n l m))),H0):=by
 obtain ⟨h1,h2⟩:=hl
 obtain ⟨h3,h4⟩:=hm
 have step:∀ k,k<n→run G Ω0 E0 Pf (HN l m k)=some (.nrm,HN l m (k+1)):=fun k hk=>by
  have hw:=fq k (by omega)
  have g1:=gN (row:=l.Readers) (k:=k) (by omega)
  have g2:=gN (row:=l.Writers) (k:=k) (by omega)
  have g3:=gN (row:=m.Readers) (k:=k) (by omega)
  have g4:=gN (row:=m.Writers) (k:=k) (by omega)
  have e1:o7 (k+1) l.Readers m.Readers=o7 k l.Readers m.Readers++[on l.Readers k&&on m.Readers k]:=by simp [o7,qf]
  have e2:uH (k+1) l.Writers m.Writers=uH k l.Writers m.Writers++[on l.Writers k||on m.Writers k]:=by simp [uH,qf]
  have n1:(o7 k l.Readers m.Readers).length=k:=by simp [o7]
  have n2:(uH k l.Writers m.Writers).length=k:=by simp [uH]
  have hm1:k+1≤maxLen:=bU (show k+1≤1000001 by omega) (by decide)
  have hm2:k≤140737488355327:=by omega
  have hlt:k<l.Readers.length:=by omega
  unfold HN
  rw [e1,e2]
  clear e1 e2
  generalize o7 k l.Readers m.Readers=A at n1 ⊢
  generalize uH k l.Writers m.Writers=B at n2 ⊢
  generalize on l.Readers k=b1 at g1 ⊢
  generalize on l.Writers k=b2 at g2 ⊢
  generalize on m.Readers k=b3 at g3 ⊢
  generalize on m.Writers k=b4 at g4 ⊢
  cases b1<;>cases b2<;>(
   apply aj
   ·apply aj (by simp [hlt];rfl)
    apply cL (by simp [hlt])
    exact bB _ _
   apply dz
   apply aj
   ·apply eE
    apply aj
    ·apply dO 8
     ·rfl
     ·simp
     ·simp [g1]
      rfl
     ·simp [g3,n1,hm1,hm2]
      rfl
     ·simp
      rfl
    apply dO 8
    ·rfl
    ·simp
    ·simp [g2]
     rfl
    ·simp [g4,n2,hm1,hm2]
     rfl
    ·simp
     rfl
   simp [hw])
 have fin:run G Ω0 E0 Pf (HN l m n)=some (.ex 0,⟨[(2,.p ⟨0,2⟩ 0),(3,.p ⟨0,3⟩ 0),(4,.p ⟨0,4⟩ 0),(5,.p ⟨0,5⟩ 0),(6,I n),(11,.b false)],(HN l m n).bx,H0⟩):=by
  apply ig
  refine aj (st1:=⟨[(2,.p ⟨0,2⟩ 0),(3,.p ⟨0,3⟩ 0),(4,.p ⟨0,4⟩ 0),(5,.p ⟨0,5⟩ 0),(6,I n),(11,.b false)],(HN l m n).bx,H0⟩) (by simp [HN,h1]) ?_
  apply bQ (by simp)
  exact du _ _ _
 have lp:=Rs (c:=Vs) (HN l m) n (fun k=>rfl) step fin
 apply eK G60
 ·apply aj (by simp;rfl)
  apply aj (by simp;rfl)
  apply aj
  ·apply aj (by simp;rfl)
   apply lN
   rw [dF]
   exact lp
  apply aj (by simp [HN];rfl)
  exact ef _ _
 ·simp [Vt,cV]
 ·rfl
def Fh(a:ah)(k:Nat):St:=⟨[(1,.p ⟨0,1⟩ 0),(2,.p ⟨0,2⟩ 0),(3,.p ⟨0,3⟩ 0),(4,I k)],[(1,[I a.Many,.l 166 (a.Grants.map aE)]),(2,ab5),(3,[P3 (List.replicate k true),P3 (List.replicate k false)])],H0⟩
set_option maxHeartbeats 8000000 in
theorem WN{a:ah}{n:Nat}(hn:n≤1000000)(ha:a.Many=(n:Int)):call G Ω0 E0 56 [.a [I a.Many,.l 166 (a.Grants.map aE)]] H0=some (.ret (.a (aJ ⟨List.replicate n true,List.replicate n false⟩)),H0):=by
 have step:∀ k,k<n→run G Ω0 E0 Pd (Fh a k)=some (.nrm,Fh a (k+1)):=fun k hk=>by
  have hw:=fq k (by omega)
  have hm1:k+1≤maxLen:=bU (show k+1≤1000001 by omega) (by decide)
  have hm2:k≤140737488355327:=by omega
  apply aj
  ·apply aj (by simp [Fh,ha];rfl)
   apply cL (by simp [hk])
   exact bB _ _
  apply dz
  apply aj
  ·apply eE
   apply aj (by simp [hm1,hm2];rfl)
   simp [hm1,hm2]
   rfl
  simp [Fh,hw,ha,List.replicate_succ']
 have fin:run G Ω0 E0 Pd (Fh a n)=some (.ex 0,⟨[(1,.p ⟨0,1⟩ 0),(2,.p ⟨0,2⟩ 0),(3,.p ⟨0,3⟩ 0),(4,I n),(8,.b false)],(Fh a n).bx,H0⟩):=by
  apply ig
  refine aj (st1:=⟨[(1,.p ⟨0,1⟩ 0),(2,.p ⟨0,2⟩ 0),(3,.p ⟨0,3⟩ 0),(4,I n),(8,.b false)],(Fh a n).bx,H0⟩) (by simp [Fh,ha]) ?_
  apply bQ (by simp)
  exact du _ _ _
 have lp:=Rs (c:=Vi) (Fh a) n (fun k=>rfl) step fin
 apply eK G56
 ·apply aj (by simp;rfl)
  apply aj (by simp;rfl)
  apply aj
  ·apply aj (by simp;rfl)
   apply lN
   rw [dF]
   exact lp
  apply aj (by simp [Fh];rfl)
  exact ef _ _
 ·simp [Vj]
 ·rfl
def HO(l m:Level)(k:Nat):St:=⟨[(2,.p ⟨0,2⟩ 0),(3,.p ⟨0,3⟩ 0),(5,I k)],[(2,aJ l),(3,aJ m)],H0⟩
set_option maxHeartbeats 8000000 in
theorem ab6{n:Nat}(hn:n≤1000000){l m:Level}(hl:bc n l)(hm:bc n m):call G Ω0 E0 59 [.a (aJ l),.a (aJ m)] H0=some (.ret (.b (jS n l m)),H0):=by
 obtain ⟨h1,h2⟩:=hl
 obtain ⟨h3,h4⟩:=hm
 have e:jS n l m=!(List.range n).any (fun k=>!((!on m.Readers k||on l.Readers k)&&(!on l.Writers k||on m.Writers k))):=by
  rw [Hu]
  unfold jS DD
  rw [lH]
  simp only [aB,bO]
  exact ⟨fun ⟨h1,h2⟩ x hx=>⟨h1 x hx,h2 x hx⟩,fun h=>⟨fun x hx=>(h x hx).1,fun x hx=>(h x hx).2⟩⟩
 have rd:∀ k,k<n→∀ q:Bool,(!((!on m.Readers k||on l.Readers k)&&(!on l.Writers k||on m.Writers k)))=q→run G Ω0 E0 Pe (HO l m k)=some (if q=true then (.ret,⟨[(4,.b false)],[],H0⟩) else (.nrm,HO l m (k+1))):=fun k hk q hq=>by
  have hw:=fq k (by omega)
  have g1:=gN (row:=l.Readers) (k:=k) (by omega)
  have g2:=gN (row:=l.Writers) (k:=k) (by omega)
  have g3:=gN (row:=m.Readers) (k:=k) (by omega)
  have g4:=gN (row:=m.Writers) (k:=k) (by omega)
  have hlt:k<l.Readers.length:=by omega
  generalize on l.Readers k=b1 at g1 hq
  generalize on l.Writers k=b2 at g2 hq
  generalize on m.Readers k=b3 at g3 hq
  generalize on m.Writers k=b4 at g4 hq
  subst hq
  cases b1<;>cases b2<;>cases b3<;>cases b4<;>(
   simp only [pT,Bool.not_false,vG,Bool.or_false,vF,jl,tB,Bool.and_false,gY,Bool.false_and,an,bn,aI]
   apply aj
   ·apply aj (by simp [HO,hlt];rfl)
    apply cL (by simp [hlt])
    exact bB _ _
   apply dz
   first
    | (apply aj;(focus (apply eE;apply aj (abL 8 rfl (by simp [g3];rfl) (vZ 8 (by simp [g1];rfl) (by simp [g2,g4];rfl)) (by simp;rfl));apply bQ (by simp;done);exact bB _ _));simp [HO,hw];done)
    | (apply BM;apply FM;apply aj (abL 8 rfl (by simp [g3];rfl) (vZ 8 (by simp [g1];rfl) (by simp [g2,g4];rfl)) (by simp;rfl));apply cL (by simp);apply aj (by simp;rfl);exact ef _ _))
 have fin:run G Ω0 E0 Pe (HO l m n)=some (.ex 0,⟨[(2,.p ⟨0,2⟩ 0),(3,.p ⟨0,3⟩ 0),(5,I n),(10,.b false)],(HO l m n).bx,H0⟩):=by
  apply ig
  refine aj (st1:=⟨[(2,.p ⟨0,2⟩ 0),(3,.p ⟨0,3⟩ 0),(5,I n),(10,.b false)],(HO l m n).bx,H0⟩) (by simp [HO,h1]) ?_
  apply bQ (by simp)
  exact du _ _ _
 have lp:=Wl (c:=Vr) (HO l m) n (fun k=>!((!on m.Readers k||on l.Readers k)&&(!on l.Writers k||on m.Writers k))) (x:=(.ret,⟨[(4,.b false)],[],H0⟩)) (fun k=>rfl) (by simp) (by simp) (fun k hk hq=>rd k hk false hq) (fun k hk hq=>rd k hk true hq) fin
 rw [e]
 cases hq:(List.range n).any (fun k=>!((!on m.Readers k||on l.Readers k)&&(!on l.Writers k||on m.Writers k))) with
 | true=>
  rw [hq,aa rfl] at lp
  apply eK G59
  ·apply aj (by simp;rfl)
   apply BM
   apply aj (by simp;rfl)
   apply FM
   rw [dF]
   exact lp
  ·simp [Qw]
  ·rfl
 | false=>
  rw [hq,ab (by simp)] at lp
  apply eK G59
  ·apply aj (by simp;rfl)
   apply aj
   ·apply aj (by simp;rfl)
    apply lN
    rw [dF]
    exact lp
   apply aj (by simp;rfl)
   exact ef _ _
  ·simp [Qw]
  ·rfl
open Classical in
noncomputable def dj(l m:Level):Option Level:=if l.Readers.length≤1000000∧bc l.Readers.length l∧bc l.Readers.length m then some (cV l.Readers.length l m) else none
theorem iU(l m r:Level)(h:dj l m=some r):call G Ω0 E0 60 [.a (aJ l),.a (aJ m)] H0=some (.ret (.a (aJ r)),H0):=by
 unfold dj at h
 split at h
 ·rename_i hc
  obtain rfl:=ad h
  exact ag4 hc.1 hc.2.1 hc.2.2
 ·cases h
open Classical in
noncomputable def fI(l m:Level):Option Bool:=if l.Readers.length≤1000000∧bc l.Readers.length l∧bc l.Readers.length m then some (jS l.Readers.length l m) else none
theorem lB(l m:Level)(r:Bool)(h:fI l m=some r):call G Ω0 E0 59 [.a (aJ l),.a (aJ m)] H0=some (.ret (.b r),H0):=by
 unfold fI at h
 split at h
 ·rename_i hc
  obtain rfl:=ad h
  exact ab6 hc.1 hc.2.1 hc.2.2
 ·cases h
noncomputable def fE(a:ah):Option Level:=if 0≤a.Many∧a.Many≤1000000 then some ⟨List.replicate a.Many.toNat true,List.replicate a.Many.toNat false⟩ else none
theorem mS(a:ah)(r:Level)(h:fE a=some r):call G Ω0 E0 56 [.a [I a.Many,.l 166 (a.Grants.map aE)]] H0=some (.ret (.a (aJ r)),H0):=by
 unfold fE at h
 split at h
 ·obtain rfl:=ad h
  exact WN (n:=a.Many.toNat) (by omega) (by omega)
 ·cases h
end Go.Proofs.YtkkkkondjclcnaaGreat.A
