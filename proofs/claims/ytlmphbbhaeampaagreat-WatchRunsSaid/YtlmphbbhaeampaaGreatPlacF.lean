/- The reference's levels of expressions, and its list of all commands with their places, as plain functions. -/
import Derived.Test.YtlmphbbhaeampaaGreatRWalk
import Derived.Test.YtlmphbbhaeampaaGreatFQ
set_option linter.all false
set_option maxRecDepth 100000
set_option maxHeartbeats 8000000
namespace Go.Proofs.YtlmphbbhaeampaaGreat.A
open Go
abbrev Zu(e:ay):List AV:=[(I e.Kind),(I e.N),(.l 89 (e.Args.map bw))]
variable [Lp]
attribute [local simp] gp execOp okB iY jq n9 Dy pa kL mq St.end_ St.oa Zz consume List.filter
noncomputable def BF(vars:List Level):List ay→Level→Option Level
 | [],v=>some v
 | x::r,v=>if x.Kind=2 then (cU x.N).bind fun j=>(vars[j]?).bind fun w=>(kS v w).bind fun q=>BF vars r q else BF vars r v
noncomputable def n8(p:Program)(vars:List Level)(e:ay):Option Level:=
 (ly p.ak).bind fun b=>(pJ e).bind fun l=>if l.length≤1000000 then BF vars l b else none
def BG(t:TypeId)(vars:List Level)(l:List ay)(v:Level)(k:Nat):St:=⟨[(1,.l t (vars.map aC)),(6,.p ⟨0,6⟩ 0),(7,.p ⟨0,7⟩ 0),(8,.l 89 (l.map bw)),(9,I k)],[(6,dX ⟨[],[]⟩),(7,dX v)],H0⟩
theorem Hl(t:TypeId)(vars:List Level)(l:List ay)(hl:l.length≤1000000):∀ (rest:List ay)(k:Nat)(v r:Level),l.drop k=rest→BF vars rest v=some r→
  ∃ z,va G Ω0 E0 UK (BG t vars l v k)=some (.ex 0,z)∧run G Ω0 E0 (.rg [] [gp 37 (.ld (some 2) (.t 7)),⟨none,.st 2 (.t 6) (.t 37),none,false⟩] [6] [6]) z=some (.nrm,⟨[(6,.p ⟨0,6⟩ 0)],[(6,dX r)],H0⟩)
 | [],k,v,r,hd,h=>by
  obtain rfl:=aq h
  have hk:¬((k:Int)<(l.length:Int)):=by
   have:=Ca.1 hd;omega
  apply Exists.intro
  apply And.intro
  ·refine m9 (r:=(.ex 0,?_)) ?_ (by simp)
   rotate_left
   ·show run G Ω0 _ DA (BG t vars l v k)=_
    apply Dd
    apply df (by simp [BG,hk];rfl)
    apply xV (by simp [hk])
    exact sf _ _ _
  ·simp
 | x::rest,k,v,r,hd,h=>by
  have f:k<l.length:=by
   have h1:=az List.length hd
   simp only [Cb,fj] at h1
   omega
  have hg:l[k]? =some x:=by
   have:=az (fun l=>l[0]?) hd
   simpa using this
  have d:l.drop (k+1)=rest:=by
   have:=az List.tail hd
   simpa using this
  have hk:((k:Int)<(l.length:Int)):=by omega
  have c:=Ku k (by omega)
  rw [BF] at h
  by_cases h2:x.Kind=2
  ·rw [af h2] at h
   obtain ⟨j,hj,h⟩:=au.1 h
   obtain ⟨w,hw,h⟩:=au.1 h
   obtain ⟨q,hq,h⟩:=au.1 h
   have hj:=xR hj
   have hJ:=kO (E:=E0) (uj v w q hq) (by simp) (by simp)
   obtain ⟨z,a1,a2⟩:=Hl t vars l hl rest (k+1) q r d h
   refine ⟨z,?_,a2⟩
   have hr:run G Ω0 E0 DA (BG t vars l v k)=some (.nrm,BG t vars l q (k+1)):=by
    apply df
    ·apply df (by simp [BG,hk];rfl)
     apply Ba (by simp [hk])
     exact lf _ _
    apply GG
    apply df
    ·apply Mr
     apply df (by simp [hg,di];rfl)
     apply Ba (by simp [h2])
     apply Xu 9
     ·rfl
     ·simp
     ·simp [hg,di,hj,hw,aC]
      rfl
     ·simp [-cK,hJ]
      rfl
     ·simp
      rfl
    simp [BG,c]
   rw [pT (st1:=BG t vars l q (k+1))]
   ·exact a1
   ·show (run G Ω0 _ DA (BG t vars l v k)).bind _=_
    rw [hr];rfl
  ·rw [ah h2] at h
   obtain ⟨z,a1,a2⟩:=Hl t vars l hl rest (k+1) v r d h
   refine ⟨z,?_,a2⟩
   have hr:run G Ω0 E0 DA (BG t vars l v k)=some (.nrm,BG t vars l v (k+1)):=by
    apply df
    ·apply df (by simp [BG,hk];rfl)
     apply Ba (by simp [hk])
     exact lf _ _
    apply GG
    apply df
    ·apply Mr
     apply df (by simp [hg,di];rfl)
     apply xV (by simp [h2])
     exact lf _ _
    simp [BG,c]
   rw [pT (st1:=BG t vars l v (k+1))]
   ·exact a1
   ·show (run G Ω0 _ DA (BG t vars l v k)).bind _=_
    rw [hr];rfl
theorem It(t:TypeId)(p:Program)(vars:List Level)(e:ay)(r:Level)(h:n8 p vars e=some r) :
  call G Ω0 E0 141 [.a (aL p),.l t (vars.map aC),.a (Zu e)] H0=some (.ret (.a (dX r)),H0):=by
 obtain ⟨b,hb,h⟩:=au.1 h
 obtain ⟨l,hl,h⟩:=au.1 h
 split at h
 ·rename_i hlen
  have hB:=kO (E:=E0) (wH p.ak b hb) (by simp) (by simp)
  have hP:=kO (E:=E0) (rK e l hl) (by simp) (by simp)
  obtain ⟨z,a1,a2⟩:=Hl t vars l hlen l 0 b r rfl h
  apply wj aoa
  ·apply df (by simp;rfl)
   apply df (by simp [-cK,hB];rfl)
   apply df (by simp [-cK,hP];rfl)
   apply df
   ·apply df (by simp;rfl)
    apply PV
    rw [pf]
    exact a1
   apply df a2
   exact kA _ _
  ·simp [WN]
  ·rfl
 ·cases h
abbrev OC(a0:Program)(a1:List Level)(a2:ay)(r:Level):Prop:=call G Ω0 E0 141 [.a (aL a0),.l 113 (a1.map aC),.a (Zu a2)] H0=some (.ret (.a (dX r)),H0)
theorem JQ(a0:Program)(a1:List Level)(a2:ay)(r:Level)(h:n8 a0 a1 a2=some r):OC a0 a1 a2 r:=It _ a0 a1 a2 r h
end Go.Proofs.YtlmphbbhaeampaaGreat.A
