/- The reference's functions of levels by simp: what they answer, told at once (short stand-ins for printed lifts). -/
import Derived.Test.YtkkkkondjclcnaaGreatWalkF
import Derived.Test.YtkkkkondjclcnaaGreatReachW
set_option linter.all false
set_option maxRecDepth 100000
namespace Go.Proofs.YtkkkkondjclcnaaGreat.A
open Go
variable [Lp]
attribute [local simp] gp execOp okB jK eG jf uE lV jR iK St.end_ St.k9 List.filter
abbrev PU(l:List Bool):AV:=.o 4 (l.map AV.b)
abbrev acu:List AV:=[.l 4 [],.l 4 []]
def HE(l m:Level)(k:Nat):St:=⟨[(2,.p ⟨0,2⟩ 0),(3,.p ⟨0,3⟩ 0),(4,.p ⟨0,4⟩ 0),(5,.p ⟨0,5⟩ 0),(6,I k)],[(2,aN l),(3,aN m),(4,acu),(5,[PU (pn k l.Readers m.Readers),PU (uH k l.Writers m.Writers)])],H0⟩
set_option maxHeartbeats 8000000 in
theorem ahP{n:Nat}(hn:n≤1000000){l m:Level}(hl:bA n l)(hm:bA n m):call G Ω0 E0 60 [.a (aN l),.a (aN m)] H0=some (.ret (.a (aN (cZ n l m))),H0):=by
 obtain ⟨h1,h2⟩:=hl
 obtain ⟨h3,h4⟩:=hm
 have step:∀ k,k<n→run G Ω0 E0 O9 (HE l m k)=some (.nrm,HE l m (k+1)):=fun k hk=>by
  have hw:=gZ k (by omega)
  have g1:=fJ (row:=l.Readers) (k:=k) (by omega)
  have g2:=fJ (row:=l.Writers) (k:=k) (by omega)
  have g3:=fJ (row:=m.Readers) (k:=k) (by omega)
  have g4:=fJ (row:=m.Writers) (k:=k) (by omega)
  have e1:pn (k+1) l.Readers m.Readers=pn k l.Readers m.Readers++[on l.Readers k&&on m.Readers k]:=by simp [pn,oA]
  have e2:uH (k+1) l.Writers m.Writers=uH k l.Writers m.Writers++[on l.Writers k||on m.Writers k]:=by simp [uH,oA]
  have n1:(pn k l.Readers m.Readers).length=k:=by simp [pn]
  have n2:(uH k l.Writers m.Writers).length=k:=by simp [uH]
  have hm1:k+1≤maxLen:=bQ (show k+1≤1000001 by omega) (by decide)
  have hm2:k≤140737488355327:=by omega
  have hlt:k<l.Readers.length:=by omega
  unfold HE
  rw [e1,e2]
  clear e1 e2
  generalize pn k l.Readers m.Readers=A at n1 ⊢
  generalize uH k l.Writers m.Writers=B at n2 ⊢
  generalize on l.Readers k=b1 at g1 ⊢
  generalize on l.Writers k=b2 at g2 ⊢
  generalize on m.Readers k=b3 at g3 ⊢
  generalize on m.Writers k=b4 at g4 ⊢
  cases b1<;>cases b2<;>(
   apply ak
   ·apply ak (by simp [hlt];rfl)
    apply cX (by simp [hlt])
    exact bM _ _
   apply dU
   apply ak
   ·apply eY
    apply ak
    ·apply eZ 8
     ·rfl
     ·simp
     ·simp [g1]
      rfl
     ·simp [g3,n1,hm1,hm2]
      rfl
     ·simp
      rfl
    apply eZ 8
    ·rfl
    ·simp
    ·simp [g2]
     rfl
    ·simp [g4,n2,hm1,hm2]
     rfl
    ·simp
     rfl
   simp [hw])
 have fin:run G Ω0 E0 O9 (HE l m n)=some (.ex 0,⟨[(2,.p ⟨0,2⟩ 0),(3,.p ⟨0,3⟩ 0),(4,.p ⟨0,4⟩ 0),(5,.p ⟨0,5⟩ 0),(6,I n),(11,.b false)],(HE l m n).bx,H0⟩):=by
  apply iQ
  refine ak (st1:=⟨[(2,.p ⟨0,2⟩ 0),(3,.p ⟨0,3⟩ 0),(4,.p ⟨0,4⟩ 0),(5,.p ⟨0,5⟩ 0),(6,I n),(11,.b false)],(HE l m n).bx,H0⟩) (by simp [HE,h1]) ?_
  apply cg (by simp)
  exact dN _ _ _
 have lp:=Rg (c:=Vs) (HE l m) n (fun k=>rfl) step fin
 apply fD G60
 ·apply ak (by simp;rfl)
  apply ak (by simp;rfl)
  apply ak
  ·apply ak (by simp;rfl)
   apply ny
   rw [eg]
   exact lp
  apply ak (by simp [HE];rfl)
  exact eE _ _
 ·simp [Vt,cZ]
 ·rfl
def EY(a:aj)(k:Nat):St:=⟨[(1,.p ⟨0,1⟩ 0),(2,.p ⟨0,2⟩ 0),(3,.p ⟨0,3⟩ 0),(4,I k)],[(1,[I a.Many,.l 166 (a.Grants.map aG)]),(2,acu),(3,[PU (List.replicate k true),PU (List.replicate k false)])],H0⟩
set_option maxHeartbeats 8000000 in
theorem WU{a:aj}{n:Nat}(hn:n≤1000000)(ha:a.Many=(n:Int)):call G Ω0 E0 56 [.a [I a.Many,.l 166 (a.Grants.map aG)]] H0=some (.ret (.a (aN ⟨List.replicate n true,List.replicate n false⟩)),H0):=by
 have step:∀ k,k<n→run G Ω0 E0 O7 (EY a k)=some (.nrm,EY a (k+1)):=fun k hk=>by
  have hw:=gZ k (by omega)
  have hm1:k+1≤maxLen:=bQ (show k+1≤1000001 by omega) (by decide)
  have hm2:k≤140737488355327:=by omega
  apply ak
  ·apply ak (by simp [EY,ha];rfl)
   apply cX (by simp [hk])
   exact bM _ _
  apply dU
  apply ak
  ·apply eY
   apply ak (by simp [hm1,hm2];rfl)
   simp [hm1,hm2]
   rfl
  simp [EY,hw,ha,List.replicate_succ']
 have fin:run G Ω0 E0 O7 (EY a n)=some (.ex 0,⟨[(1,.p ⟨0,1⟩ 0),(2,.p ⟨0,2⟩ 0),(3,.p ⟨0,3⟩ 0),(4,I n),(8,.b false)],(EY a n).bx,H0⟩):=by
  apply iQ
  refine ak (st1:=⟨[(1,.p ⟨0,1⟩ 0),(2,.p ⟨0,2⟩ 0),(3,.p ⟨0,3⟩ 0),(4,I n),(8,.b false)],(EY a n).bx,H0⟩) (by simp [EY,ha]) ?_
  apply cg (by simp)
  exact dN _ _ _
 have lp:=Rg (c:=Vi) (EY a) n (fun k=>rfl) step fin
 apply fD G56
 ·apply ak (by simp;rfl)
  apply ak (by simp;rfl)
  apply ak
  ·apply ak (by simp;rfl)
   apply ny
   rw [eg]
   exact lp
  apply ak (by simp [EY];rfl)
  exact eE _ _
 ·simp [Vj]
 ·rfl
def HF(l m:Level)(k:Nat):St:=⟨[(2,.p ⟨0,2⟩ 0),(3,.p ⟨0,3⟩ 0),(5,I k)],[(2,aN l),(3,aN m)],H0⟩
set_option maxHeartbeats 8000000 in
theorem acv{n:Nat}(hn:n≤1000000){l m:Level}(hl:bA n l)(hm:bA n m):call G Ω0 E0 59 [.a (aN l),.a (aN m)] H0=some (.ret (.b (o6 n l m)),H0):=by
 obtain ⟨h1,h2⟩:=hl
 obtain ⟨h3,h4⟩:=hm
 have e:o6 n l m=!(List.range n).any (fun k=>!((!on m.Readers k||on l.Readers k)&&(!on l.Writers k||on m.Writers k))):=by
  rw [Hm]
  unfold o6 Dm
  rw [oe]
  simp only [aA,bH]
  exact ⟨fun ⟨h1,h2⟩ x hx=>⟨h1 x hx,h2 x hx⟩,fun h=>⟨fun x hx=>(h x hx).1,fun x hx=>(h x hx).2⟩⟩
 have rd:∀ k,k<n→∀ q:Bool,(!((!on m.Readers k||on l.Readers k)&&(!on l.Writers k||on m.Writers k)))=q→run G Ω0 E0 O8 (HF l m k)=some (if q=true then (.ret,⟨[(4,.b false)],[],H0⟩) else (.nrm,HF l m (k+1))):=fun k hk q hq=>by
  have hw:=gZ k (by omega)
  have g1:=fJ (row:=l.Readers) (k:=k) (by omega)
  have g2:=fJ (row:=l.Writers) (k:=k) (by omega)
  have g3:=fJ (row:=m.Readers) (k:=k) (by omega)
  have g4:=fJ (row:=m.Writers) (k:=k) (by omega)
  have hlt:k<l.Readers.length:=by omega
  generalize on l.Readers k=b1 at g1 hq
  generalize on l.Writers k=b2 at g2 hq
  generalize on m.Readers k=b3 at g3 hq
  generalize on m.Writers k=b4 at g4 hq
  subst hq
  cases b1<;>cases b2<;>cases b3<;>cases b4<;>(
   simp only [ou,yJ,vK,Bool.or_false,vJ,js,tA,Bool.and_false,jr,Bool.false_and,aq,bB,aM]
   apply ak
   ·apply ak (by simp [HF,hlt];rfl)
    apply cX (by simp [hlt])
    exact bM _ _
   apply dU
   first
    | (apply ak;(focus (apply eY;apply ak (ab6 8 rfl (by simp [g3];rfl) (v8 8 (by simp [g1];rfl) (by simp [g2,g4];rfl)) (by simp;rfl));apply cg (by simp;done);exact bM _ _));simp [HF,hw];done)
    | (apply Dd;apply Fu;apply ak (ab6 8 rfl (by simp [g3];rfl) (v8 8 (by simp [g1];rfl) (by simp [g2,g4];rfl)) (by simp;rfl));apply cX (by simp);apply ak (by simp;rfl);exact eE _ _))
 have fin:run G Ω0 E0 O8 (HF l m n)=some (.ex 0,⟨[(2,.p ⟨0,2⟩ 0),(3,.p ⟨0,3⟩ 0),(5,I n),(10,.b false)],(HF l m n).bx,H0⟩):=by
  apply iQ
  refine ak (st1:=⟨[(2,.p ⟨0,2⟩ 0),(3,.p ⟨0,3⟩ 0),(5,I n),(10,.b false)],(HF l m n).bx,H0⟩) (by simp [HF,h1]) ?_
  apply cg (by simp)
  exact dN _ _ _
 have lp:=Ws (c:=Vr) (HF l m) n (fun k=>!((!on m.Readers k||on l.Readers k)&&(!on l.Writers k||on m.Writers k))) (x:=(.ret,⟨[(4,.b false)],[],H0⟩)) (fun k=>rfl) (by simp) (by simp) (fun k hk hq=>rd k hk false hq) (fun k hk hq=>rd k hk true hq) fin
 rw [e]
 cases hq:(List.range n).any (fun k=>!((!on m.Readers k||on l.Readers k)&&(!on l.Writers k||on m.Writers k))) with
 | true=>
  rw [hq,ab rfl] at lp
  apply fD G59
  ·apply ak (by simp;rfl)
   apply Dd
   apply ak (by simp;rfl)
   apply Fu
   rw [eg]
   exact lp
  ·simp [Qn]
  ·rfl
 | false=>
  rw [hq,ad (by simp)] at lp
  apply fD G59
  ·apply ak (by simp;rfl)
   apply ak
   ·apply ak (by simp;rfl)
    apply ny
    rw [eg]
    exact lp
   apply ak (by simp;rfl)
   exact eE _ _
  ·simp [Qn]
  ·rfl
open Classical in
noncomputable def dm(l m:Level):Option Level:=if l.Readers.length≤1000000∧bA l.Readers.length l∧bA l.Readers.length m then some (cZ l.Readers.length l m) else none
theorem iX(l m r:Level)(h:dm l m=some r):call G Ω0 E0 60 [.a (aN l),.a (aN m)] H0=some (.ret (.a (aN r)),H0):=by
 unfold dm at h
 split at h
 ·rename_i hc
  obtain rfl:=aa h
  exact ahP hc.1 hc.2.1 hc.2.2
 ·cases h
open Classical in
noncomputable def lD(l m:Level):Option Bool:=if l.Readers.length≤1000000∧bA l.Readers.length l∧bA l.Readers.length m then some (o6 l.Readers.length l m) else none
theorem A0(l m:Level)(r:Bool)(h:lD l m=some r):call G Ω0 E0 59 [.a (aN l),.a (aN m)] H0=some (.ret (.b r),H0):=by
 unfold lD at h
 split at h
 ·rename_i hc
  obtain rfl:=aa h
  exact acv hc.1 hc.2.1 hc.2.2
 ·cases h
noncomputable def fN(a:aj):Option Level:=if 0≤a.Many∧a.Many≤1000000 then some ⟨List.replicate a.Many.toNat true,List.replicate a.Many.toNat false⟩ else none
theorem m7(a:aj)(r:Level)(h:fN a=some r):call G Ω0 E0 56 [.a [I a.Many,.l 166 (a.Grants.map aG)]] H0=some (.ret (.a (aN r)),H0):=by
 unfold fN at h
 split at h
 ·obtain rfl:=aa h
  exact WU (n:=a.Many.toNat) (by omega) (by omega)
 ·cases h
end Go.Proofs.YtkkkkondjclcnaaGreat.A
