/- infer.Walker's flows as a plain function. -/
import Derived.Test.YtkkkkondjclcnaaGreatWalkF
set_option linter.all false
set_option maxRecDepth 100000
namespace Go.Proofs.YtkkkkondjclcnaaGreat.A
open Go
variable [Lp]
attribute [local simp] gp execOp okB ja er iG tX mg jt iZ St.end_ St.jZ js List.filter
def sK(dp:Nat)(H:HP)(kw:Key)(s:Stmt)(place:Level)(f:Func)(k:Nat)(out:List cY):St:=⟨[(4,.p ⟨dp,4⟩ 0),(5,.e (.a (aJ place)) 0),(7,.f 108 [.e (.a (aJ place)) 0,.p ⟨dp,3⟩ 0]),(8,.p ⟨dp,8⟩ 0),(9,.o 96 (out.map en)),(37,.l 37 (s.Args.map aL)),(38,I s.Args.length),(39,I k)],[(3,[.p kw 0]),(4,bC s),(8,dB f)],H⟩
set_option maxHeartbeats 8000000 in
theorem J2(dp:Nat)(H:HP)(kw:Key)(hkw:kw.dp<dp)(p:Program)(V:List Level)(s:Stmt)(place:Level)(f:Func)(hs:s.Args.length≤1000)
  (hc:∀ e l,nQ p V place e=some l→call G Ω0 ⟨dp+1,true⟩ 108 [.a (ny e),.e (.a (aJ place)) 0,.p ⟨dp,3⟩ 0] (fun k=>if k.dp=dp then if 3=k.d then some [.p kw 0] else none else H k)=some (.ret (.a (aJ l)),fun k=>if k.dp=dp then if 3=k.d then some [.p kw 0] else none else H k)) :
  ∀ (rest:List ax)(k:Nat)(out res:List cY),s.Args.drop k=rest→out.length=k→oT p V place f.Params rest k out=some res→
   ∃ z,fL G Ω0 ⟨dp,false⟩ K3 (sK dp H kw s place f k out)=some (.ex 1,z)∧z.aN [4,5,7,8,9] [0,3,4,5,8]=(sK dp H kw s place f k res).aN [4,5,7,8,9] [0,3,4,5,8]
 | [],k,out,res,hd,ho,h=>by
  obtain rfl:=ad h
  have hk:¬((k:Int)<(s.Args.length:Int)):=by
   have:=eo.1 hd;omega
  refine ⟨_,cT (r:=(.ex 1,?_)) ?_ (by simp),?_⟩
  rotate_left
  ·show run G Ω0 _ K2 (sK dp H kw s place f k out)=_
   apply aj (by simp [sK,hk];rfl)
   apply ig
   apply bQ (by simp [hk])
   exact du _ _ _
  ·simp [sK]
 | e::rest,k,out,res,hd,ho,h=>by
  obtain ⟨l,hl,h⟩:=af.1 h
  obtain ⟨n,hn,h⟩:=af.1 h
  have hlt:k<s.Args.length:=by
   have h1:=ak List.length hd
   simp only [hZ,bD] at h1
   omega
  have hg:s.Args[k]? =some e:=by
   have:=ak (fun l=>l[0]?) hd
   simpa using this
  have hd2:s.Args.drop (k+1)=rest:=by
   have:=ak List.tail hd
   simpa using this
  have hw:=fq k (by omega)
  have e1:kw.dp≤dp:=by omega
  have e2:∀ d,¬kw=⟨dp,d⟩:=fun d=>de hkw
  have hk:((k:Int)<(s.Args.length:Int)):=by omega
  have hc1:=hc e l hl
  have hm:k+1≤maxLen:=bU (show k+1≤1001 by omega) (by decide)
  have hb:(k+1)*64≤140737488355328:=by omega
  have hr:run G Ω0 ⟨dp,false⟩ K2 (sK dp H kw s place f k out)=some (.nrm,sK dp H kw s place f (k+1) (out++[⟨l,n,false⟩])):=by
   apply aj (by simp [sK,hk];rfl)
   apply aj
   ·apply cL (by simp [hk])
    exact bB _ _
   apply dz
   apply aj
   ·apply eE
    apply aj (by simp [hg,dm,e1,e2];rfl)
    simp [hc1,e1,e2,hn,ho,hm,hb]
    rfl
   simp [hw,sK,en]
  obtain ⟨z,hz,hz2⟩:=J2 dp H kw hkw p V s place f hs hc rest (k+1) _ res hd2 (by simp [ho]) h
  refine ⟨z,?_,?_⟩
  ·rw [cP]
   exact hz
   rw [show (sK dp H kw s place f k out).aN K3.kf K3.kb=sK dp H kw s place f k out from rfl]
   show (run G Ω0 _ K2 _).bind _=_
   rw [hr];rfl
  ·rw [hz2];rfl
theorem Mx(p:Program)(V:List Level)(place:Level)(ps:List Int):∀ (rest:List ax)(k:Nat)(o r:List cY),oT p V place ps rest k o=some r→r.length=o.length+rest.length
 | [],k,o,r,h=>by obtain rfl:=ad h;rfl
 | e::rest,k,o,r,h=>by
  obtain ⟨l,_,h⟩:=af.1 h
  obtain ⟨n,_,h⟩:=af.1 h
  rw [Mx p V place ps rest _ _ _ h];simp;omega
set_option maxHeartbeats 8000000 in
theorem PX(dp:Nat)(H:HP)(kw:Key)(hkw:kw.dp<dp)(p:Program)(x y fd:AV)(a:Int)(tl:List AV)(V:List Level)(hw:H kw=some (mc p x y fd a tl))(s:Stmt)(place:Level)(hs:s.Args.length≤1000)
  (hc:∀ e l,nQ p V place e=some l→call G Ω0 ⟨dp+1,true⟩ 108 [.a (ny e),.e (.a (aJ place)) 0,.p ⟨dp,3⟩ 0] (fun k=>if k.dp=dp then if 3=k.d then some [.p kw 0] else none else H k)=some (.ret (.a (aJ l)),fun k=>if k.dp=dp then if 3=k.d then some [.p kw 0] else none else H k))
  (h1:¬s.Kind=1) (h2:s.Kind=2) (j:Nat) (h5:s.Other=j) (f:Func) (h6:p.Funcs[j]? =some f) (out:List cY) (h7:oT p V place f.Params s.Args 0 []=some out) (l:Level) (h8:nQ p V place f.Result=some l) :
  call G Ω0 ⟨dp,false⟩ 42 [.p kw 0,.a (bC s),.a (aJ place)] H=some (.ret (.l 96 ((out++[(⟨l,s.Var,false⟩:cY),⟨place,s.Other,true⟩]).map en)),H):=by
 have e1:¬kw.dp=dp:=by omega
 have e2:∀ d,¬kw=⟨dp,d⟩:=fun d=>de hkw
 have e3:kw.dp≤dp:=by omega
 have hc8:=hc _ _ h8
 have ho:out.length=s.Args.length:=by simpa using Mx _ _ _ _ _ _ _ _ h7
 have hm:out.length+2≤maxLen:=bU (show out.length+2≤1002 by omega) (by decide)
 have hb:(out.length+2)*64≤140737488355328:=by omega
 obtain ⟨z,hz,hz2⟩:=J2 dp H kw hkw p V s place f hs hc s.Args 0 [] out rfl rfl h7
 apply eK N2
 ·apply aj (by simp [e1,e2,e3];rfl)
  apply aj (by simp;rfl)
  apply BM
  apply aj (by simp;rfl)
  apply FM
  apply aj (by simp [h1];rfl)
  apply bQ (by simp [*])
  apply aj (by simp [h2];rfl)
  apply cL (by simp [*])
  apply aj (by simp [hw,e1,e2,e3,h5,h6,ct,N6 hkw];rfl)
  apply aj (by simp;rfl)
  apply aj
  ·apply aj (by simp;rfl)
   apply lN
   rw [dF]
   exact hz
  show run G Ω0 _ (.kp _ _ UZ) z=_
  rw [jE,hz2]
  apply aj (by simp [sK,hc8,e1,e2,e3,hm,hb,en];rfl)
  exact ef _ _
 ·simp [GG,en]
 ·rfl
set_option maxHeartbeats 8000000 in
theorem RG(dp:Nat)(H:HP)(kw:Key)(hkw:kw.dp<dp)(p:Program)(x y fd:AV)(a:Int)(tl:List AV)(V:List Level)(hw:H kw=some (mc p x y fd a tl))(s:Stmt)(place:Level)
  (hc:∀ e l,nQ p V place e=some l→call G Ω0 ⟨dp+1,true⟩ 108 [.a (ny e),.e (.a (aJ place)) 0,.p ⟨dp,3⟩ 0] (fun k=>if k.dp=dp then if 3=k.d then some [.p kw 0] else none else H k)=some (.ret (.a (aJ l)),fun k=>if k.dp=dp then if 3=k.d then some [.p kw 0] else none else H k))
  (h1:s.Kind=1) (l:Level) (hl:nQ p V place s.Expr=some l) :
  call G Ω0 ⟨dp,false⟩ 42 [.p kw 0,.a (bC s),.a (aJ place)] H=some (.ret (.l 96 (([⟨l,s.Var,false⟩]:List cY).map en)),H):=by
 have e1:¬kw.dp=dp:=by omega
 have e2:∀ d,¬kw=⟨dp,d⟩:=fun d=>de hkw
 have e3:kw.dp≤dp:=by omega
 have hc1:=hc _ _ hl
 apply eK N2
 ·apply aj (by simp [e1,e2,e3];rfl)
  apply aj (by simp;rfl)
  apply BM
  apply aj (by simp;rfl)
  apply FM
  apply aj (by simp [h1];rfl)
  apply cL (by simp [h1])
  apply aj (by simp [hc1,en,e1,e2,e3];rfl)
  exact ef _ _
 ·simp [GG,en]
 ·rfl
set_option maxHeartbeats 8000000 in
theorem RH(dp:Nat)(H:HP)(kw:Key)(hkw:kw.dp<dp)(p:Program)(x y fd:AV)(a:Int)(tl:List AV)(V:List Level)(hw:H kw=some (mc p x y fd a tl))(s:Stmt)(place:Level)
  (h1:¬s.Kind=1) (h2:¬s.Kind=2) (h3:s.Kind=3) (j:Nat) (hj:s.Other=j) (b:Label) (hb:p.Ins[j]? =some b) (o l:Level) (ho:jD p.ah b=some o) (hl:ew place o=some l) :
  call G Ω0 ⟨dp,false⟩ 42 [.p kw 0,.a (bC s),.a (aJ place)] H=some (.ret (.l 96 (([⟨l,s.Var,false⟩]:List cY).map en)),H):=by
 have e1:¬kw.dp=dp:=by omega
 have e2:∀ d,¬kw=⟨dp,d⟩:=fun d=>de hkw
 have e3:kw.dp≤dp:=by omega
 have hA:=wN p.ah b o ho
 have hB:=mL place o l hl
 apply eK N2
 ·apply aj (by simp [e1,e2,e3];rfl)
  apply aj (by simp;rfl)
  apply BM
  apply aj (by simp;rfl)
  apply FM
  apply aj (by simp [h1];rfl)
  apply bQ (by simp [h1])
  apply aj (by simp [h2];rfl)
  apply bQ (by simp [h2])
  apply aj (by simp [h3];rfl)
  apply cL (by simp [h3])
  apply aj
  ·apply dO 11
   ·rfl
   ·simp
   ·simp [hw,e1,e2,e3,hb,az]
    rfl
   ·simp [hj,hb,az,hA,hB,en]
    rfl
   ·simp
    rfl
  exact ef _ _
 ·simp [GG,en]
 ·rfl
set_option maxHeartbeats 8000000 in
theorem RI(dp:Nat)(H:HP)(kw:Key)(hkw:kw.dp<dp)(p:Program)(x y fd:AV)(a:Int)(tl:List AV)(V:List Level)(hw:H kw=some (mc p x y fd a tl))(s:Stmt)(place:Level)
  (hc:∀ e l,nQ p V place e=some l→call G Ω0 ⟨dp+1,true⟩ 108 [.a (ny e),.e (.a (aJ place)) 0,.p ⟨dp,3⟩ 0] (fun k=>if k.dp=dp then if 3=k.d then some [.p kw 0] else none else H k)=some (.ret (.a (aJ l)),fun k=>if k.dp=dp then if 3=k.d then some [.p kw 0] else none else H k))
  (h1:¬s.Kind=1) (h2:¬s.Kind=2) (h3:¬s.Kind=3) (h5:s.Kind=5) (l:Level) (hl:nQ p V place s.Expr=some l) :
  call G Ω0 ⟨dp,false⟩ 42 [.p kw 0,.a (bC s),.a (aJ place)] H=some (.ret (.l 96 (([⟨⟨place.Readers,l.Writers⟩,s.Var,false⟩]:List cY).map en)),H):=by
 have e1:¬kw.dp=dp:=by omega
 have e2:∀ d,¬kw=⟨dp,d⟩:=fun d=>de hkw
 have e3:kw.dp≤dp:=by omega
 have hc1:=hc _ _ hl
 apply eK N2
 ·apply aj (by simp [e1,e2,e3];rfl)
  apply aj (by simp;rfl)
  apply BM
  apply aj (by simp;rfl)
  apply FM
  apply aj (by simp [h1];rfl)
  apply bQ (by simp [h1])
  apply aj (by simp [h2];rfl)
  apply bQ (by simp [h2])
  apply aj (by simp [h3];rfl)
  apply bQ (by simp [h3])
  apply aj (by simp [h5];rfl)
  apply cL (by simp [h5])
  apply aj (by simp [hc1,en,e1,e2,e3];rfl)
  exact ef _ _
 ·simp [GG,en]
 ·rfl
set_option maxHeartbeats 8000000 in
theorem RJ(dp:Nat)(H:HP)(kw:Key)(hkw:kw.dp<dp)(p:Program)(x y fd:AV)(a:Int)(tl:List AV)(V:List Level)(hw:H kw=some (mc p x y fd a tl))(s:Stmt)(place:Level)
  (hc:∀ e l,nQ p V place e=some l→call G Ω0 ⟨dp+1,true⟩ 108 [.a (ny e),.e (.a (aJ place)) 0,.p ⟨dp,3⟩ 0] (fun k=>if k.dp=dp then if 3=k.d then some [.p kw 0] else none else H k)=some (.ret (.a (aJ l)),fun k=>if k.dp=dp then if 3=k.d then some [.p kw 0] else none else H k))
  (h1:¬s.Kind=1) (h2:¬s.Kind=2) (h3:¬s.Kind=3) (h5:¬s.Kind=5) (h6:s.Kind=6) (l:Level) (hl:nQ p V place s.Expr=some l) :
  call G Ω0 ⟨dp,false⟩ 42 [.p kw 0,.a (bC s),.a (aJ place)] H=some (.ret (.l 96 (([⟨⟨l.Readers,place.Writers⟩,s.Var,false⟩]:List cY).map en)),H):=by
 have e1:¬kw.dp=dp:=by omega
 have e2:∀ d,¬kw=⟨dp,d⟩:=fun d=>de hkw
 have e3:kw.dp≤dp:=by omega
 have hc1:=hc _ _ hl
 apply eK N2
 ·apply aj (by simp [e1,e2,e3];rfl)
  apply aj (by simp;rfl)
  apply BM
  apply aj (by simp;rfl)
  apply FM
  apply aj (by simp [h1];rfl)
  apply bQ (by simp [h1])
  apply aj (by simp [h2];rfl)
  apply bQ (by simp [h2])
  apply aj (by simp [h3];rfl)
  apply bQ (by simp [h3])
  apply aj (by simp [h5];rfl)
  apply bQ (by simp [h5])
  apply aj (by simp [h6];rfl)
  apply cL (by simp [h6])
  apply aj (by simp [hc1,en,e1,e2,e3];rfl)
  exact ef _ _
 ·simp [GG,en]
 ·rfl
set_option maxHeartbeats 8000000 in
theorem RK(dp:Nat)(H:HP)(kw:Key)(hkw:kw.dp<dp)(p:Program)(x y fd:AV)(a:Int)(tl:List AV)(V:List Level)(hw:H kw=some (mc p x y fd a tl))(s:Stmt)(place:Level)
  (h1:¬s.Kind=1) (h2:¬s.Kind=2) (h3:¬s.Kind=3) (h5:¬s.Kind=5) (h6:¬s.Kind=6) :
  call G Ω0 ⟨dp,false⟩ 42 [.p kw 0,.a (bC s),.a (aJ place)] H=some (.ret (.l 96 (([]:List cY).map en)),H):=by
 have e1:¬kw.dp=dp:=by omega
 have e2:∀ d,¬kw=⟨dp,d⟩:=fun d=>de hkw
 have e3:kw.dp≤dp:=by omega
 apply eK N2
 ·apply aj (by simp [e1,e2,e3];rfl)
  apply aj (by simp;rfl)
  apply aj
  ·apply aj (by simp;rfl)
   apply eE
   apply aj (by simp [h1];rfl)
   apply bQ (by simp [h1])
   apply aj (by simp [h2];rfl)
   apply bQ (by simp [h2])
   apply aj (by simp [h3];rfl)
   apply bQ (by simp [h3])
   apply aj (by simp [h5];rfl)
   apply bQ (by simp [h5])
   apply aj (by simp [h6];rfl)
   apply bQ (by simp [h6])
   exact bB _ _
  apply aj (by simp;rfl)
  exact ef _ _
 ·simp [GG,en]
 ·rfl
theorem Hx(dp:Nat)(H:HP)(kw:Key)(hkw:kw.dp<dp)(p:Program)(x y f:AV)(a:Int)(tl:List AV)(V:List Level)(hw:H kw=some (mc p x y f a tl))(hx:A3 H x V)
  (s:Stmt) (place:Level) (r:List cY) (hs:s.Args.length≤1000) (h:oV p V s place=some r) :
  call G Ω0 ⟨dp,false⟩ 42 [.p kw 0,.a (bC s),.a (aJ place)] H=some (.ret (.l 96 (r.map en)),H):=by
 have hd:dp<dp+1:=by omega
 have h0:0<dp:=by omega
 have e1:¬kw.dp=dp:=by omega
 have hx':∀ H':HP,(∀ k:Key,k.dp=0→H' k=H k)→A3 H' x V:=by
  intro H' h'
  cases hx with
  | l t=>exact .l t V
  | sp k _ h hk=>exact .sp k V (by rw [h' k (by rcases hk with rfl | rfl<;>rfl)];exact h) hk
 have hc:∀ e l,nQ p V place e=some l→call G Ω0 ⟨dp+1,true⟩ 108 [.a (ny e),.e (.a (aJ place)) 0,.p ⟨dp,3⟩ 0] (fun k=>if k.dp=dp then if 3=k.d then some [.p kw 0] else none else H k)=some (.ret (.a (aJ l)),fun k=>if k.dp=dp then if 3=k.d then some [.p kw 0] else none else H k):=
  fun e l he=>TR he (x:=x) (y:=y) (f:=f) (a:=a) (tl:=tl) (kw:=kw) (kc:=⟨dp,3⟩) hd (show kw.dp<dp+1 by omega) _ (by simp) (by simp only [ab e1];exact hw) (hx' _ fun k hk=>by simp only [hk,ab (dY h0)])
 unfold oV at h
 by_cases h1:s.Kind=1
 ·rw [aa h1] at h
  obtain ⟨l,h2,h3⟩:=af.1 h
  obtain rfl:=ad h3
  exact RG dp H kw hkw p x y f a tl V hw s place hc h1 l h2
 rw [ab h1] at h
 by_cases h2:s.Kind=2
 ·rw [aa h2] at h
  obtain ⟨j,h5,h⟩:=af.1 h
  obtain ⟨g,h6,h⟩:=af.1 h
  obtain ⟨out,h7,h⟩:=af.1 h
  obtain ⟨l,h8,h⟩:=af.1 h
  obtain rfl:=ad h
  exact PX dp H kw hkw p x y f a tl V hw s place hs hc h1 h2 j (mj h5) g h6 out h7 l h8
 rw [ab h2] at h
 by_cases h3:s.Kind=3
 ·rw [aa h3] at h
  obtain ⟨j,h5,h⟩:=af.1 h
  obtain ⟨b,h6,h⟩:=af.1 h
  obtain ⟨o,h7,h⟩:=af.1 h
  obtain ⟨l,h8,h⟩:=af.1 h
  obtain rfl:=ad h
  exact RH dp H kw hkw p x y f a tl V hw s place h1 h2 h3 j (mj h5) b h6 o l h7 h8
 rw [ab h3] at h
 by_cases h5:s.Kind=5
 ·rw [aa h5] at h
  obtain ⟨l,h7,h8⟩:=af.1 h
  obtain rfl:=ad h8
  exact RI dp H kw hkw p x y f a tl V hw s place hc h1 h2 h3 h5 l h7
 rw [ab h5] at h
 by_cases h6:s.Kind=6
 ·rw [aa h6] at h
  obtain ⟨l,h7,h8⟩:=af.1 h
  obtain rfl:=ad h8
  exact RJ dp H kw hkw p x y f a tl V hw s place hc h1 h2 h3 h5 h6 l h7
 rw [ab h6] at h
 obtain rfl:=ad h
 exact RK dp H kw hkw p x y f a tl V hw s place h1 h2 h3 h5 h6
end Go.Proofs.YtkkkkondjclcnaaGreat.A
