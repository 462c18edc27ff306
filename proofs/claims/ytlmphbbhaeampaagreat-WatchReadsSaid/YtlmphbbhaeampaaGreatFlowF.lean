/- infer.Walker's flows as a plain function. -/
import Derived.Test.YtlmphbbhaeampaaGreatWalkF
set_option linter.all false
set_option maxRecDepth 100000
set_option maxHeartbeats 8000000
namespace Go.Proofs.YtlmphbbhaeampaaGreat.A
open Go
variable [Lp]
attribute [local simp] gp execOp okB gZ gj lM yg lL jF jK St.end_ St.mN kd List.filter
def sF(dp:Nat)(H:HP)(kw:Key)(s:Stmt)(place:Level)(f:Func)(k:Nat)(out:List eJ):St:=⟨[(4,.p ⟨dp,4⟩ 0),(5,.e (.a (bG place)) 0),(7,.f 214 [.e (.a (bG place)) 0,.p ⟨dp,3⟩ 0]),(8,.p ⟨dp,8⟩ 0),(9,.o 235 (out.map e9)),(37,.l 89 (s.Args.map bM)),(38,I s.Args.length),(39,I k)],[(3,[.p kw 0]),(4,ar s),(8,dB f)],H⟩
theorem Kt(dp:Nat)(H:HP)(kw:Key)(c:kw.dp<dp)(p:Program)(V:List Level)(s:Stmt)(place:Level)(f:Func)(hs:s.Args.length≤1000)
  (hc:∀ e l,oP p V place e=some l→call G Ω0 ⟨dp+1,true⟩ 214 [.a (rO e),.e (.a (bG place)) 0,.p ⟨dp,3⟩ 0] (fun k=>if k.dp=dp then if 3=k.d then some [.p kw 0] else none else H k)=some (.ret (.a (bG l)),fun k=>if k.dp=dp then if 3=k.d then some [.p kw 0] else none else H k)) :
  ∀ (rest:List aK)(k:Nat)(out res:List eJ),s.Args.drop k=rest→out.length=k→um p V place f.Params rest k out=some res→
   ∃ z,rW G Ω0 ⟨dp,false⟩ Hb (sF dp H kw s place f k out)=some (.ex 1,z)∧z.bB [4,5,7,8,9] [0,3,4,5,8]=(sF dp H kw s place f k res).bB [4,5,7,8,9] [0,3,4,5,8]
 | [],k,out,res,hd,ho,h=>by
  obtain rfl:=ah h
  have hk:¬((k:Int)<(s.Args.length:Int)):=by
   have:=sR.1 hd;omega
  refine ⟨_,nY (r:=(.ex 1,?_)) ?_ (by simp),?_⟩
  rotate_left
  ·show run G Ω0 _ Ha (sF dp H kw s place f k out)=_
   apply aN (by simp [sF,hk];rfl)
   apply tT
   apply gv (by simp [hk])
   exact mw _ _ _
  ·simp [sF]
 | e::rest,k,out,res,hd,ho,h=>by
  obtain ⟨l,hl,h⟩:=aj.1 h
  obtain ⟨n,hn,h⟩:=aj.1 h
  have w:k<s.Args.length:=by
   have h1:=av List.length hd
   simp only [zG,eM] at h1
   omega
  have hg:s.Args[k]? =some e:=by
   have:=av (fun l=>l[0]?) hd
   simpa using this
  have u:s.Args.drop (k+1)=rest:=by
   have:=av List.tail hd
   simpa using this
  have hw:=yx k (by omega)
  have e1:kw.dp≤dp:=by omega
  have e2:∀ d,¬kw=⟨dp,d⟩:=fun d=>aM c
  have hk:((k:Int)<(s.Args.length:Int)):=by omega
  have i:=hc e l hl
  have hm:k+1≤maxLen:=di (show k+1≤1001 by omega) (by decide)
  have hb:(k+1)*64≤140737488355328:=by omega
  have hr:run G Ω0 ⟨dp,false⟩ Ha (sF dp H kw s place f k out)=some (.nrm,sF dp H kw s place f (k+1) (out++[⟨l,n,false⟩])):=by
   apply aN (by simp [sF,hk];rfl)
   apply aN
   ·apply jH (by simp [hk])
    exact eo _ _
   apply pW
   apply aN
   ·apply tU
    apply aN (by simp [hg,fT,e1,e2];rfl)
    simp [i,e1,e2,hn,ho,hm,hb]
    rfl
   simp [hw,sF,e9]
  obtain ⟨z,hz,m⟩:=Kt dp H kw c p V s place f hs hc rest (k+1) _ res u (by simp [ho]) h
  refine ⟨z,?_,?_⟩
  ·rw [nr]
   exact hz
   rw [show (sF dp H kw s place f k out).bB Hb.kf Hb.kb=sF dp H kw s place f k out from rfl]
   show (run G Ω0 _ Ha _).bind _=_
   rw [hr];rfl
  ·rw [m];rfl
theorem Nc(p:Program)(V:List Level)(place:Level)(ps:List Int):∀ (rest:List aK)(k:Nat)(o r:List eJ),um p V place ps rest k o=some r→r.length=o.length+rest.length
 | [],k,o,r,h=>by obtain rfl:=ah h;rfl
 | e::rest,k,o,r,h=>by
  obtain ⟨l,_,h⟩:=aj.1 h
  obtain ⟨n,_,h⟩:=aj.1 h
  rw [Nc p V place ps rest _ _ _ h];simp;omega
theorem Qs(dp:Nat)(H:HP)(kw:Key)(c:kw.dp<dp)(p:Program)(x y fd:AV)(a:Int)(tl:List AV)(V:List Level)(hw:H kw=some (og p x y fd a tl))(s:Stmt)(place:Level)(hs:s.Args.length≤1000)
  (hc:∀ e l,oP p V place e=some l→call G Ω0 ⟨dp+1,true⟩ 214 [.a (rO e),.e (.a (bG place)) 0,.p ⟨dp,3⟩ 0] (fun k=>if k.dp=dp then if 3=k.d then some [.p kw 0] else none else H k)=some (.ret (.a (bG l)),fun k=>if k.dp=dp then if 3=k.d then some [.p kw 0] else none else H k))
  (h1:¬s.Kind=1) (h2:s.Kind=2) (j:Nat) (h5:s.Other=j) (f:Func) (h6:p.Funcs[j]? =some f) (out:List eJ) (h7:um p V place f.Params s.Args 0 []=some out) (l:Level) (h8:oP p V place f.Result=some l) :
  call G Ω0 ⟨dp,false⟩ 173 [.p kw 0,.a (ar s),.a (bG place)] H=some (.ret (.l 235 ((out++[(⟨l,s.Var,false⟩:eJ),⟨place,s.Other,true⟩]).map e9)),H):=by
 have e1:¬kw.dp=dp:=by omega
 have e2:∀ d,¬kw=⟨dp,d⟩:=fun d=>aM c
 have e3:kw.dp≤dp:=by omega
 have v:=hc _ _ h8
 have ho:out.length=s.Args.length:=by simpa using Nc _ _ _ _ _ _ _ _ h7
 have hm:out.length+2≤maxLen:=di (show out.length+2≤1002 by omega) (by decide)
 have hb:(out.length+2)*64≤140737488355328:=by omega
 obtain ⟨z,hz,m⟩:=Kt dp H kw c p V s place f hs hc s.Args 0 [] out rfl rfl h7
 apply qQ Iz
 ·apply aN (by simp [e1,e2,e3];rfl)
  apply aN (by simp;rfl)
  apply D5
  apply aN (by simp;rfl)
  apply Gd
  apply aN (by simp [h1];rfl)
  apply gv (by simp [*])
  apply aN (by simp [h2];rfl)
  apply jH (by simp [*])
  apply aN (by simp [hw,e1,e2,e3,h5,h6,cQ,EY c];rfl)
  apply aN (by simp;rfl)
  apply aN
  ·apply aN (by simp;rfl)
   apply Cp
   rw [mg]
   exact hz
  show run G Ω0 _ (.kp _ _ Rh) z=_
  rw [kC,m]
  apply aN (by simp [sF,v,e1,e2,e3,hm,hb,e9];rfl)
  exact iN _ _
 ·simp [DK,e9]
 ·rfl
theorem SH(dp:Nat)(H:HP)(kw:Key)(c:kw.dp<dp)(p:Program)(x y fd:AV)(a:Int)(tl:List AV)(V:List Level)(hw:H kw=some (og p x y fd a tl))(s:Stmt)(place:Level)
  (hc:∀ e l,oP p V place e=some l→call G Ω0 ⟨dp+1,true⟩ 214 [.a (rO e),.e (.a (bG place)) 0,.p ⟨dp,3⟩ 0] (fun k=>if k.dp=dp then if 3=k.d then some [.p kw 0] else none else H k)=some (.ret (.a (bG l)),fun k=>if k.dp=dp then if 3=k.d then some [.p kw 0] else none else H k))
  (h1:s.Kind=1) (l:Level) (hl:oP p V place s.Expr=some l) :
  call G Ω0 ⟨dp,false⟩ 173 [.p kw 0,.a (ar s),.a (bG place)] H=some (.ret (.l 235 (([⟨l,s.Var,false⟩]:List eJ).map e9)),H):=by
 have e1:¬kw.dp=dp:=by omega
 have e2:∀ d,¬kw=⟨dp,d⟩:=fun d=>aM c
 have e3:kw.dp≤dp:=by omega
 have i:=hc _ _ hl
 apply qQ Iz
 ·apply aN (by simp [e1,e2,e3];rfl)
  apply aN (by simp;rfl)
  apply D5
  apply aN (by simp;rfl)
  apply Gd
  apply aN (by simp [h1];rfl)
  apply jH (by simp [h1])
  apply aN (by simp [i,e9,e1,e2,e3];rfl)
  exact iN _ _
 ·simp [DK,e9]
 ·rfl
theorem SI(dp:Nat)(H:HP)(kw:Key)(c:kw.dp<dp)(p:Program)(x y fd:AV)(a:Int)(tl:List AV)(V:List Level)(hw:H kw=some (og p x y fd a tl))(s:Stmt)(place:Level)
  (h1:¬s.Kind=1) (h2:¬s.Kind=2) (h3:s.Kind=3) (j:Nat) (hj:s.Other=j) (b:Label) (hb:p.Ins[j]? =some b) (o l:Level) (ho:iB p.an b=some o) (hl:dL place o=some l) :
  call G Ω0 ⟨dp,false⟩ 173 [.p kw 0,.a (ar s),.a (bG place)] H=some (.ret (.l 235 (([⟨l,s.Var,false⟩]:List eJ).map e9)),H):=by
 have e1:¬kw.dp=dp:=by omega
 have e2:∀ d,¬kw=⟨dp,d⟩:=fun d=>aM c
 have e3:kw.dp≤dp:=by omega
 have hA:=lz p.an b o ho
 have hB:=ie place o l hl
 apply qQ Iz
 ·apply aN (by simp [e1,e2,e3];rfl)
  apply aN (by simp;rfl)
  apply D5
  apply aN (by simp;rfl)
  apply Gd
  apply aN (by simp [h1];rfl)
  apply gv (by simp [h1])
  apply aN (by simp [h2];rfl)
  apply gv (by simp [h2])
  apply aN (by simp [h3];rfl)
  apply jH (by simp [h3])
  apply aN
  ·apply Cq 11
   ·rfl
   ·simp
   ·simp [hw,e1,e2,e3,hb,aS]
    rfl
   ·simp [hj,hb,aS,hA,hB,e9]
    rfl
   ·simp
    rfl
  exact iN _ _
 ·simp [DK,e9]
 ·rfl
theorem SJ(dp:Nat)(H:HP)(kw:Key)(c:kw.dp<dp)(p:Program)(x y fd:AV)(a:Int)(tl:List AV)(V:List Level)(hw:H kw=some (og p x y fd a tl))(s:Stmt)(place:Level)
  (hc:∀ e l,oP p V place e=some l→call G Ω0 ⟨dp+1,true⟩ 214 [.a (rO e),.e (.a (bG place)) 0,.p ⟨dp,3⟩ 0] (fun k=>if k.dp=dp then if 3=k.d then some [.p kw 0] else none else H k)=some (.ret (.a (bG l)),fun k=>if k.dp=dp then if 3=k.d then some [.p kw 0] else none else H k))
  (h1:¬s.Kind=1) (h2:¬s.Kind=2) (h3:¬s.Kind=3) (h5:s.Kind=5) (l:Level) (hl:oP p V place s.Expr=some l) :
  call G Ω0 ⟨dp,false⟩ 173 [.p kw 0,.a (ar s),.a (bG place)] H=some (.ret (.l 235 (([⟨⟨place.Readers,l.Writers⟩,s.Var,false⟩]:List eJ).map e9)),H):=by
 have e1:¬kw.dp=dp:=by omega
 have e2:∀ d,¬kw=⟨dp,d⟩:=fun d=>aM c
 have e3:kw.dp≤dp:=by omega
 have i:=hc _ _ hl
 apply qQ Iz
 ·apply aN (by simp [e1,e2,e3];rfl)
  apply aN (by simp;rfl)
  apply D5
  apply aN (by simp;rfl)
  apply Gd
  apply aN (by simp [h1];rfl)
  apply gv (by simp [h1])
  apply aN (by simp [h2];rfl)
  apply gv (by simp [h2])
  apply aN (by simp [h3];rfl)
  apply gv (by simp [h3])
  apply aN (by simp [h5];rfl)
  apply jH (by simp [h5])
  apply aN (by simp [i,e9,e1,e2,e3];rfl)
  exact iN _ _
 ·simp [DK,e9]
 ·rfl
theorem SK(dp:Nat)(H:HP)(kw:Key)(c:kw.dp<dp)(p:Program)(x y fd:AV)(a:Int)(tl:List AV)(V:List Level)(hw:H kw=some (og p x y fd a tl))(s:Stmt)(place:Level)
  (hc:∀ e l,oP p V place e=some l→call G Ω0 ⟨dp+1,true⟩ 214 [.a (rO e),.e (.a (bG place)) 0,.p ⟨dp,3⟩ 0] (fun k=>if k.dp=dp then if 3=k.d then some [.p kw 0] else none else H k)=some (.ret (.a (bG l)),fun k=>if k.dp=dp then if 3=k.d then some [.p kw 0] else none else H k))
  (h1:¬s.Kind=1) (h2:¬s.Kind=2) (h3:¬s.Kind=3) (h5:¬s.Kind=5) (h6:s.Kind=6) (l:Level) (hl:oP p V place s.Expr=some l) :
  call G Ω0 ⟨dp,false⟩ 173 [.p kw 0,.a (ar s),.a (bG place)] H=some (.ret (.l 235 (([⟨⟨l.Readers,place.Writers⟩,s.Var,false⟩]:List eJ).map e9)),H):=by
 have e1:¬kw.dp=dp:=by omega
 have e2:∀ d,¬kw=⟨dp,d⟩:=fun d=>aM c
 have e3:kw.dp≤dp:=by omega
 have i:=hc _ _ hl
 apply qQ Iz
 ·apply aN (by simp [e1,e2,e3];rfl)
  apply aN (by simp;rfl)
  apply D5
  apply aN (by simp;rfl)
  apply Gd
  apply aN (by simp [h1];rfl)
  apply gv (by simp [h1])
  apply aN (by simp [h2];rfl)
  apply gv (by simp [h2])
  apply aN (by simp [h3];rfl)
  apply gv (by simp [h3])
  apply aN (by simp [h5];rfl)
  apply gv (by simp [h5])
  apply aN (by simp [h6];rfl)
  apply jH (by simp [h6])
  apply aN (by simp [i,e9,e1,e2,e3];rfl)
  exact iN _ _
 ·simp [DK,e9]
 ·rfl
theorem SL(dp:Nat)(H:HP)(kw:Key)(c:kw.dp<dp)(p:Program)(x y fd:AV)(a:Int)(tl:List AV)(V:List Level)(hw:H kw=some (og p x y fd a tl))(s:Stmt)(place:Level)
  (h1:¬s.Kind=1) (h2:¬s.Kind=2) (h3:¬s.Kind=3) (h5:¬s.Kind=5) (h6:¬s.Kind=6) :
  call G Ω0 ⟨dp,false⟩ 173 [.p kw 0,.a (ar s),.a (bG place)] H=some (.ret (.l 235 (([]:List eJ).map e9)),H):=by
 have e1:¬kw.dp=dp:=by omega
 have e2:∀ d,¬kw=⟨dp,d⟩:=fun d=>aM c
 have e3:kw.dp≤dp:=by omega
 apply qQ Iz
 ·apply aN (by simp [e1,e2,e3];rfl)
  apply aN (by simp;rfl)
  apply aN
  ·apply aN (by simp;rfl)
   apply tU
   apply aN (by simp [h1];rfl)
   apply gv (by simp [h1])
   apply aN (by simp [h2];rfl)
   apply gv (by simp [h2])
   apply aN (by simp [h3];rfl)
   apply gv (by simp [h3])
   apply aN (by simp [h5];rfl)
   apply gv (by simp [h5])
   apply aN (by simp [h6];rfl)
   apply gv (by simp [h6])
   exact eo _ _
  apply aN (by simp;rfl)
  exact iN _ _
 ·simp [DK,e9]
 ·rfl
theorem Qt(dp:Nat)(H:HP)(kw:Key)(c:kw.dp<dp)(p:Program)(x y f:AV)(a:Int)(tl:List AV)(V:List Level)(hw:H kw=some (og p x y f a tl))(hx:BN H x V)
  (s:Stmt) (place:Level) (r:List eJ) (hs:s.Args.length≤1000) (h:vE p V s place=some r) :
  call G Ω0 ⟨dp,false⟩ 173 [.p kw 0,.a (ar s),.a (bG place)] H=some (.ret (.l 235 (r.map e9)),H):=by
 have hd:dp<dp+1:=by omega
 have h0:0<dp:=by omega
 have e1:¬kw.dp=dp:=by omega
 have q:∀ H':HP,(∀ k:Key,k.dp=0→H' k=H k)→BN H' x V:=by
  intro H' h'
  cases hx with
  | l t=>exact .l t V
  | sp k _ h hk=>exact .sp k V (by rw [h' k (by rcases hk with rfl | rfl<;>rfl)];exact h) hk
 have hc:∀ e l,oP p V place e=some l→call G Ω0 ⟨dp+1,true⟩ 214 [.a (rO e),.e (.a (bG place)) 0,.p ⟨dp,3⟩ 0] (fun k=>if k.dp=dp then if 3=k.d then some [.p kw 0] else none else H k)=some (.ret (.a (bG l)),fun k=>if k.dp=dp then if 3=k.d then some [.p kw 0] else none else H k):=
  fun e l he=>Uz he (x:=x) (y:=y) (f:=f) (a:=a) (tl:=tl) (kw:=kw) (kc:=⟨dp,3⟩) hd (show kw.dp<dp+1 by omega) _ (by simp) (by simp only [ab e1];exact hw) (q _ fun k hk=>by simp only [hk,ab (au h0)])
 unfold vE at h
 by_cases h1:s.Kind=1
 ·rw [af h1] at h
  obtain ⟨l,h2,h3⟩:=aj.1 h
  obtain rfl:=ah h3
  exact SH dp H kw c p x y f a tl V hw s place hc h1 l h2
 rw [ab h1] at h
 by_cases h2:s.Kind=2
 ·rw [af h2] at h
  obtain ⟨j,h5,h⟩:=aj.1 h
  obtain ⟨g,h6,h⟩:=aj.1 h
  obtain ⟨out,h7,h⟩:=aj.1 h
  obtain ⟨l,h8,h⟩:=aj.1 h
  obtain rfl:=ah h
  exact Qs dp H kw c p x y f a tl V hw s place hs hc h1 h2 j (rr h5) g h6 out h7 l h8
 rw [ab h2] at h
 by_cases h3:s.Kind=3
 ·rw [af h3] at h
  obtain ⟨j,h5,h⟩:=aj.1 h
  obtain ⟨b,h6,h⟩:=aj.1 h
  obtain ⟨o,h7,h⟩:=aj.1 h
  obtain ⟨l,h8,h⟩:=aj.1 h
  obtain rfl:=ah h
  exact SI dp H kw c p x y f a tl V hw s place h1 h2 h3 j (rr h5) b h6 o l h7 h8
 rw [ab h3] at h
 by_cases h5:s.Kind=5
 ·rw [af h5] at h
  obtain ⟨l,h7,h8⟩:=aj.1 h
  obtain rfl:=ah h8
  exact SJ dp H kw c p x y f a tl V hw s place hc h1 h2 h3 h5 l h7
 rw [ab h5] at h
 by_cases h6:s.Kind=6
 ·rw [af h6] at h
  obtain ⟨l,h7,h8⟩:=aj.1 h
  obtain rfl:=ah h8
  exact SK dp H kw c p x y f a tl V hw s place hc h1 h2 h3 h5 h6 l h7
 rw [ab h6] at h
 obtain rfl:=ah h
 exact SL dp H kw c p x y f a tl V hw s place h1 h2 h3 h5 h6
end Go.Proofs.YtlmphbbhaeampaaGreat.A
