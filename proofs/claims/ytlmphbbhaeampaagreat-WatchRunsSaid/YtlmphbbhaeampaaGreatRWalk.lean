/- The reference's functions of levels by simp: what they answer, told at once (short stand-ins for printed lifts). -/
import Derived.Test.YtlmphbbhaeampaaGreatLevelF
import Derived.Test.YtlmphbbhaeampaaGreatStepF
import Derived.Test.YtlmphbbhaeampaaGreatReachW
set_option linter.all false
set_option maxRecDepth 100000
set_option maxHeartbeats 8000000
namespace Go.Proofs.YtlmphbbhaeampaaGreat.A
open Go
variable [Lp]
attribute [local simp] gp execOp okB iY jq n9 Dy pa kL mq St.end_ St.oa List.filter
abbrev Uk(l:List Bool):AV:=.o 4 (l.map AV.b)
abbrev aio:List AV:=[.l 4 [],.l 4 []]
def Ls(l m:Level)(k:Nat):St:=⟨[(2,.p ⟨0,2⟩ 0),(3,.p ⟨0,3⟩ 0),(4,.p ⟨0,4⟩ 0),(5,.p ⟨0,5⟩ 0),(6,I k)],[(2,dX l),(3,dX m),(4,aio),(5,[Uk (qy k l.Readers m.Readers),Uk (wz k l.Writers m.Writers)])],H0⟩
variable {n:Nat}{l m:Level}
theorem amF(hn:n≤1000000)(hl:dH n l)(hm:dH n m):call G Ω0 E0 98 [.a (dX l),.a (dX m)] H0=some (.ret (.a (dX (o9 n l m))),H0):=by
 obtain ⟨h1,h2⟩:=hl
 obtain ⟨h3,h4⟩:=hm
 have step:∀ k,k<n→run G Ω0 E0 Te (Ls l m k)=some (.nrm,Ls l m (k+1)):=fun k hk=>by
  have hw:=Ku k (by omega)
  have g1:=jW (row:=l.Readers) (k:=k) (by omega)
  have g2:=jW (row:=l.Writers) (k:=k) (by omega)
  have g3:=jW (row:=m.Readers) (k:=k) (by omega)
  have g4:=jW (row:=m.Writers) (k:=k) (by omega)
  have e1:qy (k+1) l.Readers m.Readers=qy k l.Readers m.Readers++[on l.Readers k&&on m.Readers k]:=by simp [qy,yW]
  have e2:wz (k+1) l.Writers m.Writers=wz k l.Writers m.Writers++[on l.Writers k||on m.Writers k]:=by simp [wz,yW]
  have n1:(qy k l.Readers m.Readers).length=k:=by simp [qy]
  have n2:(wz k l.Writers m.Writers).length=k:=by simp [wz]
  have f:k+1≤maxLen:=eC (show k+1≤1000001 by omega) (by decide)
  have d:k≤140737488355327:=by omega
  have g:k<l.Readers.length:=by omega
  unfold Ls
  rw [e1,e2]
  clear e1 e2
  generalize qy k l.Readers m.Readers=A at n1 ⊢
  generalize wz k l.Writers m.Writers=B at n2 ⊢
  generalize on l.Readers k=b1 at g1 ⊢
  generalize on l.Writers k=b2 at g2 ⊢
  generalize on m.Readers k=b3 at g3 ⊢
  generalize on m.Writers k=b4 at g4 ⊢
  cases b1<;>cases b2<;>(
   apply df
   ·apply df (by simp [g];rfl)
    apply Ba (by simp [g])
    exact lf _ _
   apply GG
   apply df
   ·apply Mr
    apply df
    ·apply Xu 8
     ·rfl
     ·simp
     ·simp [g1]
      rfl
     ·simp [g3,n1,f,d]
      rfl
     ·simp
      rfl
    apply Xu 8
    ·rfl
    ·simp
    ·simp [g2]
     rfl
    ·simp [g4,n2,f,d]
     rfl
    ·simp
     rfl
   simp [hw])
 have fin:run G Ω0 E0 Te (Ls l m n)=some (.ex 0,⟨[(2,.p ⟨0,2⟩ 0),(3,.p ⟨0,3⟩ 0),(4,.p ⟨0,4⟩ 0),(5,.p ⟨0,5⟩ 0),(6,I n),(11,.b false)],(Ls l m n).bx,H0⟩):=by
  apply Dd
  refine df (st1:=⟨[(2,.p ⟨0,2⟩ 0),(3,.p ⟨0,3⟩ 0),(4,.p ⟨0,4⟩ 0),(5,.p ⟨0,5⟩ 0),(6,I n),(11,.b false)],(Ls l m n).bx,H0⟩) (by simp [Ls,h1]) ?_
  apply xV (by simp)
  exact sf _ _ _
 have lp:=VQ (c:=Y2) (Ls l m) n (fun k=>rfl) step fin
 apply wj G98
 ·apply df (by simp;rfl)
  apply df (by simp;rfl)
  apply df
  ·apply df (by simp;rfl)
   apply PV
   rw [pf]
   exact lp
  apply df (by simp [Ls];rfl)
  exact kA _ _
 ·simp [c98,o9]
 ·rfl
def IP(a:ak)(k:Nat):St:=⟨[(1,.p ⟨0,1⟩ 0),(2,.p ⟨0,2⟩ 0),(3,.p ⟨0,3⟩ 0),(4,I k)],[(1,[I a.Many,.l 79 (a.Grants.map bT)]),(2,aio),(3,[Uk (List.replicate k true),Uk (List.replicate k false)])],H0⟩
theorem aam{a:ak}(hn:n≤1000000)(ha:a.Many=(n:Int)):call G Ω0 E0 71 [.a [I a.Many,.l 79 (a.Grants.map bT)]] H0=some (.ret (.a (dX ⟨List.replicate n true,List.replicate n false⟩)),H0):=by
 have step:∀ k,k<n→run G Ω0 E0 Tc (IP a k)=some (.nrm,IP a (k+1)):=fun k hk=>by
  have hw:=Ku k (by omega)
  have f:k+1≤maxLen:=eC (show k+1≤1000001 by omega) (by decide)
  have d:k≤140737488355327:=by omega
  apply df
  ·apply df (by simp [IP,ha];rfl)
   apply Ba (by simp [hk])
   exact lf _ _
  apply GG
  apply df
  ·apply Mr
   apply df (by simp [f,d];rfl)
   simp [f,d]
   rfl
  simp [IP,hw,ha,List.replicate_succ']
 have fin:run G Ω0 E0 Tc (IP a n)=some (.ex 0,⟨[(1,.p ⟨0,1⟩ 0),(2,.p ⟨0,2⟩ 0),(3,.p ⟨0,3⟩ 0),(4,I n),(8,.b false)],(IP a n).bx,H0⟩):=by
  apply Dd
  refine df (st1:=⟨[(1,.p ⟨0,1⟩ 0),(2,.p ⟨0,2⟩ 0),(3,.p ⟨0,3⟩ 0),(4,I n),(8,.b false)],(IP a n).bx,H0⟩) (by simp [IP,ha]) ?_
  apply xV (by simp)
  exact sf _ _ _
 have lp:=VQ (c:=YM) (IP a) n (fun k=>rfl) step fin
 apply wj G71
 ·apply df (by simp;rfl)
  apply df (by simp;rfl)
  apply df
  ·apply df (by simp;rfl)
   apply PV
   rw [pf]
   exact lp
  apply df (by simp [IP];rfl)
  exact kA _ _
 ·simp [c71]
 ·rfl
def Lt(l m:Level)(k:Nat):St:=⟨[(2,.p ⟨0,2⟩ 0),(3,.p ⟨0,3⟩ 0),(5,I k)],[(2,dX l),(3,dX m)],H0⟩
theorem aip(hn:n≤1000000)(hl:dH n l)(hm:dH n m):call G Ω0 E0 97 [.a (dX l),.a (dX m)] H0=some (.ret (.b (nx n l m)),H0):=by
 obtain ⟨h1,h2⟩:=hl
 obtain ⟨h3,h4⟩:=hm
 have e:nx n l m=!(List.range n).any (fun k=>!((!on m.Readers k||on l.Readers k)&&(!on l.Writers k||on m.Writers k))):=by
  rw [K5]
  unfold nx MU
  rw [xH]
  simp only [aY,dz]
  exact ⟨fun ⟨h1,h2⟩ x hx=>⟨h1 x hx,h2 x hx⟩,fun h=>⟨fun x hx=>(h x hx).1,fun x hx=>(h x hx).2⟩⟩
 have rd:∀ k,k<n→∀ q:Bool,(!((!on m.Readers k||on l.Readers k)&&(!on l.Writers k||on m.Writers k)))=q→run G Ω0 E0 Td (Lt l m k)=some (if q=true then (.ret,⟨[(4,.b false)],[],H0⟩) else (.nrm,Lt l m (k+1))):=fun k hk q hq=>by
  have hw:=Ku k (by omega)
  have g1:=jW (row:=l.Readers) (k:=k) (by omega)
  have g2:=jW (row:=l.Writers) (k:=k) (by omega)
  have g3:=jW (row:=m.Readers) (k:=k) (by omega)
  have g4:=jW (row:=m.Writers) (k:=k) (by omega)
  have g:k<l.Readers.length:=by omega
  generalize on l.Readers k=b1 at g1 hq
  generalize on l.Writers k=b2 at g2 hq
  generalize on m.Readers k=b3 at g3 hq
  generalize on m.Writers k=b4 at g4 hq
  subst hq
  cases b1<;>cases b2<;>cases b3<;>cases b4<;>(
   simp only [xq,Bool.not_false,B8,Bool.or_false,B9,uZ,Bool.and_true,Bool.and_false,xg,Bool.false_and,aH,dy,cH]
   apply df
   ·apply df (by simp [Lt,g];rfl)
    apply Ba (by simp [g])
    exact lf _ _
   apply GG
   first
    | (apply df;(focus (apply Mr;apply df (ah2 8 rfl (by simp [g3];rfl) (zj 8 (by simp [g1];rfl) (by simp [g2,g4];rfl)) (by simp;rfl));apply xV (by simp;done);exact lf _ _));simp [Lt,hw];done)
    | (apply PU;apply TS;apply df (ah2 8 rfl (by simp [g3];rfl) (zj 8 (by simp [g1];rfl) (by simp [g2,g4];rfl)) (by simp;rfl));apply Ba (by simp);apply df (by simp;rfl);exact kA _ _))
 have fin:run G Ω0 E0 Td (Lt l m n)=some (.ex 0,⟨[(2,.p ⟨0,2⟩ 0),(3,.p ⟨0,3⟩ 0),(5,I n),(10,.b false)],(Lt l m n).bx,H0⟩):=by
  apply Dd
  refine df (st1:=⟨[(2,.p ⟨0,2⟩ 0),(3,.p ⟨0,3⟩ 0),(5,I n),(10,.b false)],(Lt l m n).bx,H0⟩) (by simp [Lt,h1]) ?_
  apply xV (by simp)
  exact sf _ _ _
 have lp:=ZZ (c:=Y0) (Lt l m) n (fun k=>!((!on m.Readers k||on l.Readers k)&&(!on l.Writers k||on m.Writers k))) (x:=(.ret,⟨[(4,.b false)],[],H0⟩)) (fun k=>rfl) (by simp) (by simp) (fun k hk hq=>rd k hk false hq) (fun k hk hq=>rd k hk true hq) fin
 rw [e]
 cases hq:(List.range n).any (fun k=>!((!on m.Readers k||on l.Readers k)&&(!on l.Writers k||on m.Writers k))) with
 | true=>
  rw [hq,af rfl] at lp
  apply wj G97
  ·apply df (by simp;rfl)
   apply PU
   apply df (by simp;rfl)
   apply TS
   rw [pf]
   exact lp
  ·simp [Y1]
  ·rfl
 | false=>
  rw [hq,ah (by simp)] at lp
  apply wj G97
  ·apply df (by simp;rfl)
   apply df
   ·apply df (by simp;rfl)
    apply PV
    rw [pf]
    exact lp
   apply df (by simp;rfl)
   exact kA _ _
  ·simp [Y1]
  ·rfl
open Classical in
noncomputable def kS(l m:Level):Option Level:=if l.Readers.length≤1000000∧dH l.Readers.length l∧dH l.Readers.length m then some (o9 l.Readers.length l m) else none
theorem uj(l m r:Level)(h:kS l m=some r):call G Ω0 E0 98 [.a (dX l),.a (dX m)] H0=some (.ret (.a (dX r)),H0):=by
 unfold kS at h
 split at h
 ·rename_i hc
  obtain rfl:=aq h
  exact amF hc.1 hc.2.1 hc.2.2
 ·cases h
open Classical in
noncomputable def mX(l m:Level):Option Bool:=if l.Readers.length≤1000000∧dH l.Readers.length l∧dH l.Readers.length m then some (nx l.Readers.length l m) else none
theorem tO(l m:Level)(r:Bool)(h:mX l m=some r):call G Ω0 E0 97 [.a (dX l),.a (dX m)] H0=some (.ret (.b r),H0):=by
 unfold mX at h
 split at h
 ·rename_i hc
  obtain rfl:=aq h
  exact aip hc.1 hc.2.1 hc.2.2
 ·cases h
noncomputable def ly(a:ak):Option Level:=if 0≤a.Many∧a.Many≤1000000 then some ⟨List.replicate a.Many.toNat true,List.replicate a.Many.toNat false⟩ else none
theorem wH(a:ak)(r:Level)(h:ly a=some r):call G Ω0 E0 71 [.a [I a.Many,.l 79 (a.Grants.map bT)]] H0=some (.ret (.a (dX r)),H0):=by
 unfold ly at h
 split at h
 ·obtain rfl:=aq h
  exact aam (n:=a.Many.toNat) (by omega) (by omega)
 ·cases h
end Go.Proofs.YtlmphbbhaeampaaGreat.A
