/- The reference's functions of levels by simp: what they answer, told at once (short stand-ins for printed lifts). -/
import Derived.Test.YtkkkkondjclcnaaGreatWalkF
import Derived.Test.YtkkkkondjclcnaaGreatReachW
set_option linter.all false
set_option maxRecDepth 100000
set_option maxHeartbeats 8000000
namespace Go.Proofs.YtkkkkondjclcnaaGreat.A
open Go
variable [Lp]
attribute [local simp] gp execOp okB gv df fT pJ iZ ir ft St.end_ St.fU List.filter
abbrev Tk(l:List Bool):AV:=.o 4 (l.map AV.b)
abbrev af4:List AV:=[.l 4 [],.l 4 []]
def Ks(l m:Level)(k:Nat):St:=⟨[(2,.p ⟨0,2⟩ 0),(3,.p ⟨0,3⟩ 0),(4,.p ⟨0,4⟩ 0),(5,.p ⟨0,5⟩ 0),(6,I k)],[(2,ax l),(3,ax m),(4,af4),(5,[Tk (qx k l.Readers m.Readers),Tk (wz k l.Writers m.Writers)])],H0⟩
variable {n:Nat}{l m:Level}
theorem akv(hn:n≤1000000)(hl:bw n l)(hm:bw n m):call G Ω0 E0 60 [.a (ax l),.a (ax m)] H0=some (.ret (.a (ax (cU n l m))),H0):=by
 obtain ⟨h1,h2⟩:=hl
 obtain ⟨h3,h4⟩:=hm
 have step:∀ k,k<n→run G Ω0 E0 SH (Ks l m k)=some (.nrm,Ks l m (k+1)):=fun k hk=>by
  have hw:=iF k (by omega)
  have g1:=ic (row:=l.Readers) (k:=k) (by omega)
  have g2:=ic (row:=l.Writers) (k:=k) (by omega)
  have g3:=ic (row:=m.Readers) (k:=k) (by omega)
  have g4:=ic (row:=m.Writers) (k:=k) (by omega)
  have e1:qx (k+1) l.Readers m.Readers=qx k l.Readers m.Readers++[on l.Readers k&&on m.Readers k]:=by simp [qx,vB]
  have e2:wz (k+1) l.Writers m.Writers=wz k l.Writers m.Writers++[on l.Writers k||on m.Writers k]:=by simp [wz,vB]
  have n1:(qx k l.Readers m.Readers).length=k:=by simp [qx]
  have n2:(wz k l.Writers m.Writers).length=k:=by simp [wz]
  have f:k+1≤maxLen:=bS (show k+1≤1000001 by omega) (by decide)
  have d:k≤140737488355327:=by omega
  have g:k<l.Readers.length:=by omega
  unfold Ks
  rw [e1,e2]
  clear e1 e2
  generalize qx k l.Readers m.Readers=A at n1 ⊢
  generalize wz k l.Writers m.Writers=B at n2 ⊢
  generalize on l.Readers k=b1 at g1 ⊢
  generalize on l.Writers k=b2 at g2 ⊢
  generalize on m.Readers k=b3 at g3 ⊢
  generalize on m.Writers k=b4 at g4 ⊢
  cases b1<;>cases b2<;>(
   apply aj
   ·apply aj (by simp [g];rfl)
    apply bT (by simp [g])
    exact bh _ _
   apply di
   apply aj
   ·apply dI
    apply aj
    ·apply dM 8
     ·rfl
     ·simp
     ·simp [g1]
      rfl
     ·simp [g3,n1,f,d]
      rfl
     ·simp
      rfl
    apply dM 8
    ·rfl
    ·simp
    ·simp [g2]
     rfl
    ·simp [g4,n2,f,d]
     rfl
    ·simp
     rfl
   simp [hw])
 have fin:run G Ω0 E0 SH (Ks l m n)=some (.ex 0,⟨[(2,.p ⟨0,2⟩ 0),(3,.p ⟨0,3⟩ 0),(4,.p ⟨0,4⟩ 0),(5,.p ⟨0,5⟩ 0),(6,I n),(11,.b false)],(Ks l m n).bx,H0⟩):=by
  apply iu
  refine aj (st1:=⟨[(2,.p ⟨0,2⟩ 0),(3,.p ⟨0,3⟩ 0),(4,.p ⟨0,4⟩ 0),(5,.p ⟨0,5⟩ 0),(6,I n),(11,.b false)],(Ks l m n).bx,H0⟩) (by simp [Ks,h1]) ?_
  apply ba (by simp)
  exact dR _ _ _
 have lp:=Dc (c:=Yq) (Ks l m) n (fun k=>rfl) step fin
 apply dS G60
 ·apply aj (by simp;rfl)
  apply aj (by simp;rfl)
  apply aj
  ·apply aj (by simp;rfl)
   apply lu
   rw [dL]
   exact lp
  apply aj (by simp [Ks];rfl)
  exact cQ _ _
 ·simp [c60,cU]
 ·rfl
def HZ(a:ak)(k:Nat):St:=⟨[(1,.p ⟨0,1⟩ 0),(2,.p ⟨0,2⟩ 0),(3,.p ⟨0,3⟩ 0),(4,I k)],[(1,[I a.Many,.l 166 (a.Grants.map ct)]),(2,af4),(3,[Tk (List.replicate k true),Tk (List.replicate k false)])],H0⟩
theorem ZO{a:ak}(hn:n≤1000000)(ha:a.Many=(n:Int)):call G Ω0 E0 56 [.a [I a.Many,.l 166 (a.Grants.map ct)]] H0=some (.ret (.a (ax ⟨List.replicate n true,List.replicate n false⟩)),H0):=by
 have step:∀ k,k<n→run G Ω0 E0 SF (HZ a k)=some (.nrm,HZ a (k+1)):=fun k hk=>by
  have hw:=iF k (by omega)
  have f:k+1≤maxLen:=bS (show k+1≤1000001 by omega) (by decide)
  have d:k≤140737488355327:=by omega
  apply aj
  ·apply aj (by simp [HZ,ha];rfl)
   apply bT (by simp [hk])
   exact bh _ _
  apply di
  apply aj
  ·apply dI
   apply aj (by simp [f,d];rfl)
   simp [f,d]
   rfl
  simp [HZ,hw,ha,List.replicate_succ']
 have fin:run G Ω0 E0 SF (HZ a n)=some (.ex 0,⟨[(1,.p ⟨0,1⟩ 0),(2,.p ⟨0,2⟩ 0),(3,.p ⟨0,3⟩ 0),(4,I n),(8,.b false)],(HZ a n).bx,H0⟩):=by
  apply iu
  refine aj (st1:=⟨[(1,.p ⟨0,1⟩ 0),(2,.p ⟨0,2⟩ 0),(3,.p ⟨0,3⟩ 0),(4,I n),(8,.b false)],(HZ a n).bx,H0⟩) (by simp [HZ,ha]) ?_
  apply ba (by simp)
  exact dR _ _ _
 have lp:=Dc (c:=Yi) (HZ a) n (fun k=>rfl) step fin
 apply dS G56
 ·apply aj (by simp;rfl)
  apply aj (by simp;rfl)
  apply aj
  ·apply aj (by simp;rfl)
   apply lu
   rw [dL]
   exact lp
  apply aj (by simp [HZ];rfl)
  exact cQ _ _
 ·simp [c56]
 ·rfl
def Kt(l m:Level)(k:Nat):St:=⟨[(2,.p ⟨0,2⟩ 0),(3,.p ⟨0,3⟩ 0),(5,I k)],[(2,ax l),(3,ax m)],H0⟩
theorem af5(hn:n≤1000000)(hl:bw n l)(hm:bw n m):call G Ω0 E0 59 [.a (ax l),.a (ax m)] H0=some (.ret (.b (jY n l m)),H0):=by
 obtain ⟨h1,h2⟩:=hl
 obtain ⟨h3,h4⟩:=hm
 have e:jY n l m=!(List.range n).any (fun k=>!((!on m.Readers k||on l.Readers k)&&(!on l.Writers k||on m.Writers k))):=by
  rw [J6]
  unfold jY wy
  rw [lN]
  simp only [aC,cJ]
  exact ⟨fun ⟨h1,h2⟩ x hx=>⟨h1 x hx,h2 x hx⟩,fun h=>⟨fun x hx=>(h x hx).1,fun x hx=>(h x hx).2⟩⟩
 have rd:∀ k,k<n→∀ q:Bool,(!((!on m.Readers k||on l.Readers k)&&(!on l.Writers k||on m.Writers k)))=q→run G Ω0 E0 SG (Kt l m k)=some (if q=true then (.ret,⟨[(4,.b false)],[],H0⟩) else (.nrm,Kt l m (k+1))):=fun k hk q hq=>by
  have hw:=iF k (by omega)
  have g1:=ic (row:=l.Readers) (k:=k) (by omega)
  have g2:=ic (row:=l.Writers) (k:=k) (by omega)
  have g3:=ic (row:=m.Readers) (k:=k) (by omega)
  have g4:=ic (row:=m.Writers) (k:=k) (by omega)
  have g:k<l.Readers.length:=by omega
  generalize on l.Readers k=b1 at g1 hq
  generalize on l.Writers k=b2 at g2 hq
  generalize on m.Readers k=b3 at g3 hq
  generalize on m.Writers k=b4 at g4 hq
  subst hq
  cases b1<;>cases b2<;>cases b3<;>cases b4<;>(
   simp only [uS,Bool.not_false,BL,Bool.or_false,BK,pS,uR,Bool.and_false,mQ,Bool.false_and,az,bU,bB]
   apply aj
   ·apply aj (by simp [Kt,g];rfl)
    apply bT (by simp [g])
    exact bh _ _
   apply di
   first
    | (apply aj;(focus (apply dI;apply aj (afM 8 rfl (by simp [g3];rfl) (yL 8 (by simp [g1];rfl) (by simp [g2,g4];rfl)) (by simp;rfl));apply ba (by simp;done);exact bh _ _));simp [Kt,hw];done)
    | (apply xp;apply AW;apply aj (afM 8 rfl (by simp [g3];rfl) (yL 8 (by simp [g1];rfl) (by simp [g2,g4];rfl)) (by simp;rfl));apply bT (by simp);apply aj (by simp;rfl);exact cQ _ _))
 have fin:run G Ω0 E0 SG (Kt l m n)=some (.ex 0,⟨[(2,.p ⟨0,2⟩ 0),(3,.p ⟨0,3⟩ 0),(5,I n),(10,.b false)],(Kt l m n).bx,H0⟩):=by
  apply iu
  refine aj (st1:=⟨[(2,.p ⟨0,2⟩ 0),(3,.p ⟨0,3⟩ 0),(5,I n),(10,.b false)],(Kt l m n).bx,H0⟩) (by simp [Kt,h1]) ?_
  apply ba (by simp)
  exact dR _ _ _
 have lp:=Zo (c:=Yo) (Kt l m) n (fun k=>!((!on m.Readers k||on l.Readers k)&&(!on l.Writers k||on m.Writers k))) (x:=(.ret,⟨[(4,.b false)],[],H0⟩)) (fun k=>rfl) (by simp) (by simp) (fun k hk hq=>rd k hk false hq) (fun k hk hq=>rd k hk true hq) fin
 rw [e]
 cases hq:(List.range n).any (fun k=>!((!on m.Readers k||on l.Readers k)&&(!on l.Writers k||on m.Writers k))) with
 | true=>
  rw [hq,ab rfl] at lp
  apply dS G59
  ·apply aj (by simp;rfl)
   apply xp
   apply aj (by simp;rfl)
   apply AW
   rw [dL]
   exact lp
  ·simp [Yp]
  ·rfl
 | false=>
  rw [hq,aa (by simp)] at lp
  apply dS G59
  ·apply aj (by simp;rfl)
   apply aj
   ·apply aj (by simp;rfl)
    apply lu
    rw [dL]
    exact lp
   apply aj (by simp;rfl)
   exact cQ _ _
  ·simp [Yp]
  ·rfl
open Classical in
noncomputable def dN(l m:Level):Option Level:=if l.Readers.length≤1000000∧bw l.Readers.length l∧bw l.Readers.length m then some (cU l.Readers.length l m) else none
theorem iM(l m r:Level)(h:dN l m=some r):call G Ω0 E0 60 [.a (ax l),.a (ax m)] H0=some (.ret (.a (ax r)),H0):=by
 unfold dN at h
 split at h
 ·rename_i hc
  obtain rfl:=af h
  exact akv hc.1 hc.2.1 hc.2.2
 ·cases h
open Classical in
noncomputable def fu(l m:Level):Option Bool:=if l.Readers.length≤1000000∧bw l.Readers.length l∧bw l.Readers.length m then some (jY l.Readers.length l m) else none
theorem mL(l m:Level)(r:Bool)(h:fu l m=some r):call G Ω0 E0 59 [.a (ax l),.a (ax m)] H0=some (.ret (.b r),H0):=by
 unfold fu at h
 split at h
 ·rename_i hc
  obtain rfl:=af h
  exact af5 hc.1 hc.2.1 hc.2.2
 ·cases h
noncomputable def fR(a:ak):Option Level:=if 0≤a.Many∧a.Many≤1000000 then some ⟨List.replicate a.Many.toNat true,List.replicate a.Many.toNat false⟩ else none
theorem lL(a:ak)(r:Level)(h:fR a=some r):call G Ω0 E0 56 [.a [I a.Many,.l 166 (a.Grants.map ct)]] H0=some (.ret (.a (ax r)),H0):=by
 unfold fR at h
 split at h
 ·obtain rfl:=af h
  exact ZO (n:=a.Many.toNat) (by omega) (by omega)
 ·cases h
end Go.Proofs.YtkkkkondjclcnaaGreat.A
