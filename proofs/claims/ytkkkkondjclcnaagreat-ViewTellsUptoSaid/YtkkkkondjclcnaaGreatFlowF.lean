/- infer.Walker's flows as a plain function. -/
import Derived.Test.YtkkkkondjclcnaaGreatWalkF
set_option linter.all false
set_option maxRecDepth 100000
namespace Go.Proofs.YtkkkkondjclcnaaGreat.A
open Go
variable [Lp]
attribute [local simp] gp execOp okB jK eG jf uE lV jR iK St.end_ St.k9 jx List.filter
def sN(dp:Nat)(H:HP)(kw:Key)(s:Stmt)(place:Level)(f:Func)(k:Nat)(out:List dL):St:=⟨[(4,.p ⟨dp,4⟩ 0),(5,.e (.a (aN place)) 0),(7,.f 108 [.e (.a (aN place)) 0,.p ⟨dp,3⟩ 0]),(8,.p ⟨dp,8⟩ 0),(9,.o 96 (out.map eL)),(37,.l 37 (s.Args.map aQ)),(38,I s.Args.length),(39,I k)],[(3,[.p kw 0]),(4,bN s),(8,dD f)],H⟩
set_option maxHeartbeats 8000000 in
theorem JR(dp:Nat)(H:HP)(kw:Key)(hkw:kw.dp<dp)(p:Program)(V:List Level)(s:Stmt)(place:Level)(f:Func)(hs:s.Args.length≤1000)
  (hc:∀ e l,oa p V place e=some l→call G Ω0 ⟨dp+1,true⟩ 108 [.a (oP e),.e (.a (aN place)) 0,.p ⟨dp,3⟩ 0] (fun k=>if k.dp=dp then if 3=k.d then some [.p kw 0] else none else H k)=some (.ret (.a (aN l)),fun k=>if k.dp=dp then if 3=k.d then some [.p kw 0] else none else H k)) :
  ∀ (rest:List az)(k:Nat)(out res:List dL),s.Args.drop k=rest→out.length=k→o8 p V place f.Params rest k out=some res→
   ∃ z,gY G Ω0 ⟨dp,false⟩ KP (sN dp H kw s place f k out)=some (.ex 1,z)∧z.aP [4,5,7,8,9] [0,3,4,5,8]=(sN dp H kw s place f k res).aP [4,5,7,8,9] [0,3,4,5,8]
 | [],k,out,res,hd,ho,h=>by
  obtain rfl:=aa h
  have hk:¬((k:Int)<(s.Args.length:Int)):=by
   have:=eW.1 hd;omega
  refine ⟨_,di (r:=(.ex 1,?_)) ?_ (by simp),?_⟩
  rotate_left
  ·show run G Ω0 _ KO (sN dp H kw s place f k out)=_
   apply ak (by simp [sN,hk];rfl)
   apply iQ
   apply cg (by simp [hk])
   exact dN _ _ _
  ·simp [sN]
 | e::rest,k,out,res,hd,ho,h=>by
  obtain ⟨l,hl,h⟩:=ah.1 h
  obtain ⟨n,hn,h⟩:=ah.1 h
  have hlt:k<s.Args.length:=by
   have h1:=an List.length hd
   simp only [gy,bu] at h1
   omega
  have hg:s.Args[k]? =some e:=by
   have:=an (fun l=>l[0]?) hd
   simpa using this
  have hd2:s.Args.drop (k+1)=rest:=by
   have:=an List.tail hd
   simpa using this
  have hw:=gZ k (by omega)
  have e1:kw.dp≤dp:=by omega
  have e2:∀ d,¬kw=⟨dp,d⟩:=fun d=>cP hkw
  have hk:((k:Int)<(s.Args.length:Int)):=by omega
  have hc1:=hc e l hl
  have hm:k+1≤maxLen:=bQ (show k+1≤1001 by omega) (by decide)
  have hb:(k+1)*64≤140737488355328:=by omega
  have hr:run G Ω0 ⟨dp,false⟩ KO (sN dp H kw s place f k out)=some (.nrm,sN dp H kw s place f (k+1) (out++[⟨l,n,false⟩])):=by
   apply ak (by simp [sN,hk];rfl)
   apply ak
   ·apply cX (by simp [hk])
    exact bM _ _
   apply dU
   apply ak
   ·apply eY
    apply ak (by simp [hg,dI,e1,e2];rfl)
    simp [hc1,e1,e2,hn,ho,hm,hb]
    rfl
   simp [hw,sN,eL]
  obtain ⟨z,hz,hz2⟩:=JR dp H kw hkw p V s place f hs hc rest (k+1) _ res hd2 (by simp [ho]) h
  refine ⟨z,?_,?_⟩
  ·rw [c8]
   exact hz
   rw [show (sN dp H kw s place f k out).aP KP.kf KP.kb=sN dp H kw s place f k out from rfl]
   show (run G Ω0 _ KO _).bind _=_
   rw [hr];rfl
  ·rw [hz2];rfl
theorem Mm(p:Program)(V:List Level)(place:Level)(ps:List Int):∀ (rest:List az)(k:Nat)(o r:List dL),o8 p V place ps rest k o=some r→r.length=o.length+rest.length
 | [],k,o,r,h=>by obtain rfl:=aa h;rfl
 | e::rest,k,o,r,h=>by
  obtain ⟨l,_,h⟩:=ah.1 h
  obtain ⟨n,_,h⟩:=ah.1 h
  rw [Mm p V place ps rest _ _ _ h];simp;omega
set_option maxHeartbeats 8000000 in
theorem PM(dp:Nat)(H:HP)(kw:Key)(hkw:kw.dp<dp)(p:Program)(x y fd:AV)(a:Int)(tl:List AV)(V:List Level)(hw:H kw=some (nK p x y fd a tl))(s:Stmt)(place:Level)(hs:s.Args.length≤1000)
  (hc:∀ e l,oa p V place e=some l→call G Ω0 ⟨dp+1,true⟩ 108 [.a (oP e),.e (.a (aN place)) 0,.p ⟨dp,3⟩ 0] (fun k=>if k.dp=dp then if 3=k.d then some [.p kw 0] else none else H k)=some (.ret (.a (aN l)),fun k=>if k.dp=dp then if 3=k.d then some [.p kw 0] else none else H k))
  (h1:¬s.Kind=1) (h2:s.Kind=2) (j:Nat) (h5:s.Other=j) (f:Func) (h6:p.Funcs[j]? =some f) (out:List dL) (h7:o8 p V place f.Params s.Args 0 []=some out) (l:Level) (h8:oa p V place f.Result=some l) :
  call G Ω0 ⟨dp,false⟩ 42 [.p kw 0,.a (bN s),.a (aN place)] H=some (.ret (.l 96 ((out++[(⟨l,s.Var,false⟩:dL),⟨place,s.Other,true⟩]).map eL)),H):=by
 have e1:¬kw.dp=dp:=by omega
 have e2:∀ d,¬kw=⟨dp,d⟩:=fun d=>cP hkw
 have e3:kw.dp≤dp:=by omega
 have hc8:=hc _ _ h8
 have ho:out.length=s.Args.length:=by simpa using Mm _ _ _ _ _ _ _ _ h7
 have hm:out.length+2≤maxLen:=bQ (show out.length+2≤1002 by omega) (by decide)
 have hb:(out.length+2)*64≤140737488355328:=by omega
 obtain ⟨z,hz,hz2⟩:=JR dp H kw hkw p V s place f hs hc s.Args 0 [] out rfl rfl h7
 apply fD NV
 ·apply ak (by simp [e1,e2,e3];rfl)
  apply ak (by simp;rfl)
  apply Dd
  apply ak (by simp;rfl)
  apply Fu
  apply ak (by simp [h1];rfl)
  apply cg (by simp [*])
  apply ak (by simp [h2];rfl)
  apply cX (by simp [*])
  apply ak (by simp [hw,e1,e2,e3,h5,h6,cA,N0 hkw];rfl)
  apply ak (by simp;rfl)
  apply ak
  ·apply ak (by simp;rfl)
   apply ny
   rw [eg]
   exact hz
  show run G Ω0 _ (.kp _ _ UZ) z=_
  rw [kN,hz2]
  apply ak (by simp [sN,hc8,e1,e2,e3,hm,hb,eL];rfl)
  exact eE _ _
 ·simp [Gz,eL]
 ·rfl
set_option maxHeartbeats 8000000 in
theorem Ru(dp:Nat)(H:HP)(kw:Key)(hkw:kw.dp<dp)(p:Program)(x y fd:AV)(a:Int)(tl:List AV)(V:List Level)(hw:H kw=some (nK p x y fd a tl))(s:Stmt)(place:Level)
  (hc:∀ e l,oa p V place e=some l→call G Ω0 ⟨dp+1,true⟩ 108 [.a (oP e),.e (.a (aN place)) 0,.p ⟨dp,3⟩ 0] (fun k=>if k.dp=dp then if 3=k.d then some [.p kw 0] else none else H k)=some (.ret (.a (aN l)),fun k=>if k.dp=dp then if 3=k.d then some [.p kw 0] else none else H k))
  (h1:s.Kind=1) (l:Level) (hl:oa p V place s.Expr=some l) :
  call G Ω0 ⟨dp,false⟩ 42 [.p kw 0,.a (bN s),.a (aN place)] H=some (.ret (.l 96 (([⟨l,s.Var,false⟩]:List dL).map eL)),H):=by
 have e1:¬kw.dp=dp:=by omega
 have e2:∀ d,¬kw=⟨dp,d⟩:=fun d=>cP hkw
 have e3:kw.dp≤dp:=by omega
 have hc1:=hc _ _ hl
 apply fD NV
 ·apply ak (by simp [e1,e2,e3];rfl)
  apply ak (by simp;rfl)
  apply Dd
  apply ak (by simp;rfl)
  apply Fu
  apply ak (by simp [h1];rfl)
  apply cX (by simp [h1])
  apply ak (by simp [hc1,eL,e1,e2,e3];rfl)
  exact eE _ _
 ·simp [Gz,eL]
 ·rfl
set_option maxHeartbeats 8000000 in
theorem Rv(dp:Nat)(H:HP)(kw:Key)(hkw:kw.dp<dp)(p:Program)(x y fd:AV)(a:Int)(tl:List AV)(V:List Level)(hw:H kw=some (nK p x y fd a tl))(s:Stmt)(place:Level)
  (h1:¬s.Kind=1) (h2:¬s.Kind=2) (h3:s.Kind=3) (j:Nat) (hj:s.Other=j) (b:Label) (hb:p.Ins[j]? =some b) (o l:Level) (ho:lx p.aj b=some o) (hl:ez place o=some l) :
  call G Ω0 ⟨dp,false⟩ 42 [.p kw 0,.a (bN s),.a (aN place)] H=some (.ret (.l 96 (([⟨l,s.Var,false⟩]:List dL).map eL)),H):=by
 have e1:¬kw.dp=dp:=by omega
 have e2:∀ d,¬kw=⟨dp,d⟩:=fun d=>cP hkw
 have e3:kw.dp≤dp:=by omega
 have hA:=sL p.aj b o ho
 have hB:=mR place o l hl
 apply fD NV
 ·apply ak (by simp [e1,e2,e3];rfl)
  apply ak (by simp;rfl)
  apply Dd
  apply ak (by simp;rfl)
  apply Fu
  apply ak (by simp [h1];rfl)
  apply cg (by simp [h1])
  apply ak (by simp [h2];rfl)
  apply cg (by simp [h2])
  apply ak (by simp [h3];rfl)
  apply cX (by simp [h3])
  apply ak
  ·apply eZ 11
   ·rfl
   ·simp
   ·simp [hw,e1,e2,e3,hb,ay]
    rfl
   ·simp [hj,hb,ay,hA,hB,eL]
    rfl
   ·simp
    rfl
  exact eE _ _
 ·simp [Gz,eL]
 ·rfl
set_option maxHeartbeats 8000000 in
theorem Rw(dp:Nat)(H:HP)(kw:Key)(hkw:kw.dp<dp)(p:Program)(x y fd:AV)(a:Int)(tl:List AV)(V:List Level)(hw:H kw=some (nK p x y fd a tl))(s:Stmt)(place:Level)
  (hc:∀ e l,oa p V place e=some l→call G Ω0 ⟨dp+1,true⟩ 108 [.a (oP e),.e (.a (aN place)) 0,.p ⟨dp,3⟩ 0] (fun k=>if k.dp=dp then if 3=k.d then some [.p kw 0] else none else H k)=some (.ret (.a (aN l)),fun k=>if k.dp=dp then if 3=k.d then some [.p kw 0] else none else H k))
  (h1:¬s.Kind=1) (h2:¬s.Kind=2) (h3:¬s.Kind=3) (h5:s.Kind=5) (l:Level) (hl:oa p V place s.Expr=some l) :
  call G Ω0 ⟨dp,false⟩ 42 [.p kw 0,.a (bN s),.a (aN place)] H=some (.ret (.l 96 (([⟨⟨place.Readers,l.Writers⟩,s.Var,false⟩]:List dL).map eL)),H):=by
 have e1:¬kw.dp=dp:=by omega
 have e2:∀ d,¬kw=⟨dp,d⟩:=fun d=>cP hkw
 have e3:kw.dp≤dp:=by omega
 have hc1:=hc _ _ hl
 apply fD NV
 ·apply ak (by simp [e1,e2,e3];rfl)
  apply ak (by simp;rfl)
  apply Dd
  apply ak (by simp;rfl)
  apply Fu
  apply ak (by simp [h1];rfl)
  apply cg (by simp [h1])
  apply ak (by simp [h2];rfl)
  apply cg (by simp [h2])
  apply ak (by simp [h3];rfl)
  apply cg (by simp [h3])
  apply ak (by simp [h5];rfl)
  apply cX (by simp [h5])
  apply ak (by simp [hc1,eL,e1,e2,e3];rfl)
  exact eE _ _
 ·simp [Gz,eL]
 ·rfl
set_option maxHeartbeats 8000000 in
theorem Rx(dp:Nat)(H:HP)(kw:Key)(hkw:kw.dp<dp)(p:Program)(x y fd:AV)(a:Int)(tl:List AV)(V:List Level)(hw:H kw=some (nK p x y fd a tl))(s:Stmt)(place:Level)
  (hc:∀ e l,oa p V place e=some l→call G Ω0 ⟨dp+1,true⟩ 108 [.a (oP e),.e (.a (aN place)) 0,.p ⟨dp,3⟩ 0] (fun k=>if k.dp=dp then if 3=k.d then some [.p kw 0] else none else H k)=some (.ret (.a (aN l)),fun k=>if k.dp=dp then if 3=k.d then some [.p kw 0] else none else H k))
  (h1:¬s.Kind=1) (h2:¬s.Kind=2) (h3:¬s.Kind=3) (h5:¬s.Kind=5) (h6:s.Kind=6) (l:Level) (hl:oa p V place s.Expr=some l) :
  call G Ω0 ⟨dp,false⟩ 42 [.p kw 0,.a (bN s),.a (aN place)] H=some (.ret (.l 96 (([⟨⟨l.Readers,place.Writers⟩,s.Var,false⟩]:List dL).map eL)),H):=by
 have e1:¬kw.dp=dp:=by omega
 have e2:∀ d,¬kw=⟨dp,d⟩:=fun d=>cP hkw
 have e3:kw.dp≤dp:=by omega
 have hc1:=hc _ _ hl
 apply fD NV
 ·apply ak (by simp [e1,e2,e3];rfl)
  apply ak (by simp;rfl)
  apply Dd
  apply ak (by simp;rfl)
  apply Fu
  apply ak (by simp [h1];rfl)
  apply cg (by simp [h1])
  apply ak (by simp [h2];rfl)
  apply cg (by simp [h2])
  apply ak (by simp [h3];rfl)
  apply cg (by simp [h3])
  apply ak (by simp [h5];rfl)
  apply cg (by simp [h5])
  apply ak (by simp [h6];rfl)
  apply cX (by simp [h6])
  apply ak (by simp [hc1,eL,e1,e2,e3];rfl)
  exact eE _ _
 ·simp [Gz,eL]
 ·rfl
set_option maxHeartbeats 8000000 in
theorem Ry(dp:Nat)(H:HP)(kw:Key)(hkw:kw.dp<dp)(p:Program)(x y fd:AV)(a:Int)(tl:List AV)(V:List Level)(hw:H kw=some (nK p x y fd a tl))(s:Stmt)(place:Level)
  (h1:¬s.Kind=1) (h2:¬s.Kind=2) (h3:¬s.Kind=3) (h5:¬s.Kind=5) (h6:¬s.Kind=6) :
  call G Ω0 ⟨dp,false⟩ 42 [.p kw 0,.a (bN s),.a (aN place)] H=some (.ret (.l 96 (([]:List dL).map eL)),H):=by
 have e1:¬kw.dp=dp:=by omega
 have e2:∀ d,¬kw=⟨dp,d⟩:=fun d=>cP hkw
 have e3:kw.dp≤dp:=by omega
 apply fD NV
 ·apply ak (by simp [e1,e2,e3];rfl)
  apply ak (by simp;rfl)
  apply ak
  ·apply ak (by simp;rfl)
   apply eY
   apply ak (by simp [h1];rfl)
   apply cg (by simp [h1])
   apply ak (by simp [h2];rfl)
   apply cg (by simp [h2])
   apply ak (by simp [h3];rfl)
   apply cg (by simp [h3])
   apply ak (by simp [h5];rfl)
   apply cg (by simp [h5])
   apply ak (by simp [h6];rfl)
   apply cg (by simp [h6])
   exact bM _ _
  apply ak (by simp;rfl)
  exact eE _ _
 ·simp [Gz,eL]
 ·rfl
theorem PN(dp:Nat)(H:HP)(kw:Key)(hkw:kw.dp<dp)(p:Program)(x y f:AV)(a:Int)(tl:List AV)(V:List Level)(hw:H kw=some (nK p x y f a tl))(hx:AO H x V)
  (s:Stmt) (place:Level) (r:List dL) (hs:s.Args.length≤1000) (h:rC p V s place=some r) :
  call G Ω0 ⟨dp,false⟩ 42 [.p kw 0,.a (bN s),.a (aN place)] H=some (.ret (.l 96 (r.map eL)),H):=by
 have hd:dp<dp+1:=by omega
 have h0:0<dp:=by omega
 have e1:¬kw.dp=dp:=by omega
 have hx':∀ H':HP,(∀ k:Key,k.dp=0→H' k=H k)→AO H' x V:=by
  intro H' h'
  cases hx with
  | l t=>exact .l t V
  | sp k _ h hk=>exact .sp k V (by rw [h' k (by rcases hk with rfl | rfl<;>rfl)];exact h) hk
 have hc:∀ e l,oa p V place e=some l→call G Ω0 ⟨dp+1,true⟩ 108 [.a (oP e),.e (.a (aN place)) 0,.p ⟨dp,3⟩ 0] (fun k=>if k.dp=dp then if 3=k.d then some [.p kw 0] else none else H k)=some (.ret (.a (aN l)),fun k=>if k.dp=dp then if 3=k.d then some [.p kw 0] else none else H k):=
  fun e l he=>TN he (x:=x) (y:=y) (f:=f) (a:=a) (tl:=tl) (kw:=kw) (kc:=⟨dp,3⟩) hd (show kw.dp<dp+1 by omega) _ (by simp) (by simp only [ad e1];exact hw) (hx' _ fun k hk=>by simp only [hk,ad (cT h0)])
 unfold rC at h
 by_cases h1:s.Kind=1
 ·rw [ab h1] at h
  obtain ⟨l,h2,h3⟩:=ah.1 h
  obtain rfl:=aa h3
  exact Ru dp H kw hkw p x y f a tl V hw s place hc h1 l h2
 rw [ad h1] at h
 by_cases h2:s.Kind=2
 ·rw [ab h2] at h
  obtain ⟨j,h5,h⟩:=ah.1 h
  obtain ⟨g,h6,h⟩:=ah.1 h
  obtain ⟨out,h7,h⟩:=ah.1 h
  obtain ⟨l,h8,h⟩:=ah.1 h
  obtain rfl:=aa h
  exact PM dp H kw hkw p x y f a tl V hw s place hs hc h1 h2 j (pb h5) g h6 out h7 l h8
 rw [ad h2] at h
 by_cases h3:s.Kind=3
 ·rw [ab h3] at h
  obtain ⟨j,h5,h⟩:=ah.1 h
  obtain ⟨b,h6,h⟩:=ah.1 h
  obtain ⟨o,h7,h⟩:=ah.1 h
  obtain ⟨l,h8,h⟩:=ah.1 h
  obtain rfl:=aa h
  exact Rv dp H kw hkw p x y f a tl V hw s place h1 h2 h3 j (pb h5) b h6 o l h7 h8
 rw [ad h3] at h
 by_cases h5:s.Kind=5
 ·rw [ab h5] at h
  obtain ⟨l,h7,h8⟩:=ah.1 h
  obtain rfl:=aa h8
  exact Rw dp H kw hkw p x y f a tl V hw s place hc h1 h2 h3 h5 l h7
 rw [ad h5] at h
 by_cases h6:s.Kind=6
 ·rw [ab h6] at h
  obtain ⟨l,h7,h8⟩:=ah.1 h
  obtain rfl:=aa h8
  exact Rx dp H kw hkw p x y f a tl V hw s place hc h1 h2 h3 h5 h6 l h7
 rw [ad h6] at h
 obtain rfl:=aa h
 exact Ry dp H kw hkw p x y f a tl V hw s place h1 h2 h3 h5 h6
end Go.Proofs.YtkkkkondjclcnaaGreat.A
