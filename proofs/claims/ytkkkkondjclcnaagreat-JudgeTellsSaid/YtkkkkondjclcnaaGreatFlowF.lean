/- infer.Walker's flows as a plain function. -/
import Derived.Test.YtkkkkondjclcnaaGreatWalkF
set_option linter.all false
set_option maxRecDepth 100000
set_option maxHeartbeats 8000000
namespace Go.Proofs.YtkkkkondjclcnaaGreat.A
open Go
variable [Lp]
attribute [local simp] gp execOp okB gv df fT pJ iZ ir ft St.end_ St.fU iU List.filter
def uJ(dp:Nat)(H:HP)(kw:Key)(s:Stmt)(place:Level)(f:Func)(k:Nat)(out:List dq):St:=⟨[(4,.p ⟨dp,4⟩ 0),(5,.e (.a (ax place)) 0),(7,.f 108 [.e (.a (ax place)) 0,.p ⟨dp,3⟩ 0]),(8,.p ⟨dp,8⟩ 0),(9,.o 96 (out.map ee)),(37,.l 37 (s.Args.map aT)),(38,I s.Args.length),(39,I k)],[(3,[.p kw 0]),(4,aD s),(8,eu f)],H⟩
theorem MK(dp:Nat)(H:HP)(kw:Key)(c:kw.dp<dp)(p:Program)(V:List Level)(s:Stmt)(place:Level)(f:Func)(hs:s.Args.length≤1000)
  (hc:∀ e l,pB p V place e=some l→call G Ω0 ⟨dp+1,true⟩ 108 [.a (ny e),.e (.a (ax place)) 0,.p ⟨dp,3⟩ 0] (fun k=>if k.dp=dp then if 3=k.d then some [.p kw 0] else none else H k)=some (.ret (.a (ax l)),fun k=>if k.dp=dp then if 3=k.d then some [.p kw 0] else none else H k)) :
  ∀ (rest:List aB)(k:Nat)(out res:List dq),s.Args.drop k=rest→out.length=k→qO p V place f.Params rest k out=some res→
   ∃ z,fH G Ω0 ⟨dp,false⟩ NQ (uJ dp H kw s place f k out)=some (.ex 1,z)∧z.aG [4,5,7,8,9] [0,3,4,5,8]=(uJ dp H kw s place f k res).aG [4,5,7,8,9] [0,3,4,5,8]
 | [],k,out,res,hd,ho,h=>by
  obtain rfl:=af h
  have hk:¬((k:Int)<(s.Args.length:Int)):=by
   have:=gP.1 hd;omega
  refine ⟨_,dD (r:=(.ex 1,?_)) ?_ (by simp),?_⟩
  rotate_left
  ·show run G Ω0 _ NP (uJ dp H kw s place f k out)=_
   apply aj (by simp [uJ,hk];rfl)
   apply iu
   apply ba (by simp [hk])
   exact dR _ _ _
  ·simp [uJ]
 | e::rest,k,out,res,hd,ho,h=>by
  obtain ⟨l,hl,h⟩:=ah.1 h
  obtain ⟨n,hn,h⟩:=ah.1 h
  have w:k<s.Args.length:=by
   have h1:=an List.length hd
   simp only [kQ,cC] at h1
   omega
  have hg:s.Args[k]? =some e:=by
   have:=an (fun l=>l[0]?) hd
   simpa using this
  have u:s.Args.drop (k+1)=rest:=by
   have:=an List.tail hd
   simpa using this
  have hw:=iF k (by omega)
  have e1:kw.dp≤dp:=by omega
  have e2:∀ d,¬kw=⟨dp,d⟩:=fun d=>bD c
  have hk:((k:Int)<(s.Args.length:Int)):=by omega
  have i:=hc e l hl
  have hm:k+1≤maxLen:=bS (show k+1≤1001 by omega) (by decide)
  have hb:(k+1)*64≤140737488355328:=by omega
  have hr:run G Ω0 ⟨dp,false⟩ NP (uJ dp H kw s place f k out)=some (.nrm,uJ dp H kw s place f (k+1) (out++[⟨l,n,false⟩])):=by
   apply aj (by simp [uJ,hk];rfl)
   apply aj
   ·apply bT (by simp [hk])
    exact bh _ _
   apply di
   apply aj
   ·apply dI
    apply aj (by simp [hg,dj,e1,e2];rfl)
    simp [i,e1,e2,hn,ho,hm,hb]
    rfl
   simp [hw,uJ,ee]
  obtain ⟨z,hz,m⟩:=MK dp H kw c p V s place f hs hc rest (k+1) _ res u (by simp [ho]) h
  refine ⟨z,?_,?_⟩
  ·rw [dz]
   exact hz
   rw [show (uJ dp H kw s place f k out).aG NQ.kf NQ.kb=uJ dp H kw s place f k out from rfl]
   show (run G Ω0 _ NP _).bind _=_
   rw [hr];rfl
  ·rw [m];rfl
theorem Pr(p:Program)(V:List Level)(place:Level)(ps:List Int):∀ (rest:List aB)(k:Nat)(o r:List dq),qO p V place ps rest k o=some r→r.length=o.length+rest.length
 | [],k,o,r,h=>by obtain rfl:=af h;rfl
 | e::rest,k,o,r,h=>by
  obtain ⟨l,_,h⟩:=ah.1 h
  obtain ⟨n,_,h⟩:=ah.1 h
  rw [Pr p V place ps rest _ _ _ h];simp;omega
theorem Tg(dp:Nat)(H:HP)(kw:Key)(c:kw.dp<dp)(p:Program)(x y fd:AV)(a:Int)(tl:List AV)(V:List Level)(hw:H kw=some (cK p x y fd a tl))(s:Stmt)(place:Level)(hs:s.Args.length≤1000)
  (hc:∀ e l,pB p V place e=some l→call G Ω0 ⟨dp+1,true⟩ 108 [.a (ny e),.e (.a (ax place)) 0,.p ⟨dp,3⟩ 0] (fun k=>if k.dp=dp then if 3=k.d then some [.p kw 0] else none else H k)=some (.ret (.a (ax l)),fun k=>if k.dp=dp then if 3=k.d then some [.p kw 0] else none else H k))
  (h1:¬s.Kind=1) (h2:s.Kind=2) (j:Nat) (h5:s.Other=j) (f:Func) (h6:p.Funcs[j]? =some f) (out:List dq) (h7:qO p V place f.Params s.Args 0 []=some out) (l:Level) (h8:pB p V place f.Result=some l) :
  call G Ω0 ⟨dp,false⟩ 42 [.p kw 0,.a (aD s),.a (ax place)] H=some (.ret (.l 96 ((out++[(⟨l,s.Var,false⟩:dq),⟨place,s.Other,true⟩]).map ee)),H):=by
 have e1:¬kw.dp=dp:=by omega
 have e2:∀ d,¬kw=⟨dp,d⟩:=fun d=>bD c
 have e3:kw.dp≤dp:=by omega
 have v:=hc _ _ h8
 have ho:out.length=s.Args.length:=by simpa using Pr _ _ _ _ _ _ _ _ h7
 have hm:out.length+2≤maxLen:=bS (show out.length+2≤1002 by omega) (by decide)
 have hb:(out.length+2)*64≤140737488355328:=by omega
 obtain ⟨z,hz,m⟩:=MK dp H kw c p V s place f hs hc s.Args 0 [] out rfl rfl h7
 apply dS Rj
 ·apply aj (by simp [e1,e2,e3];rfl)
  apply aj (by simp;rfl)
  apply xp
  apply aj (by simp;rfl)
  apply AW
  apply aj (by simp [h1];rfl)
  apply ba (by simp [*])
  apply aj (by simp [h2];rfl)
  apply bT (by simp [*])
  apply aj (by simp [hw,e1,e2,e3,h5,h6,eO,CS c];rfl)
  apply aj (by simp;rfl)
  apply aj
  ·apply aj (by simp;rfl)
   apply lu
   rw [dL]
   exact hz
  show run G Ω0 _ (.kp _ _ X1) z=_
  rw [jq,m]
  apply aj (by simp [uJ,v,e1,e2,e3,hm,hb,ee];rfl)
  exact cQ _ _
 ·simp [Mr,ee]
 ·rfl
theorem U4(dp:Nat)(H:HP)(kw:Key)(c:kw.dp<dp)(p:Program)(x y fd:AV)(a:Int)(tl:List AV)(V:List Level)(hw:H kw=some (cK p x y fd a tl))(s:Stmt)(place:Level)
  (hc:∀ e l,pB p V place e=some l→call G Ω0 ⟨dp+1,true⟩ 108 [.a (ny e),.e (.a (ax place)) 0,.p ⟨dp,3⟩ 0] (fun k=>if k.dp=dp then if 3=k.d then some [.p kw 0] else none else H k)=some (.ret (.a (ax l)),fun k=>if k.dp=dp then if 3=k.d then some [.p kw 0] else none else H k))
  (h1:s.Kind=1) (l:Level) (hl:pB p V place s.Expr=some l) :
  call G Ω0 ⟨dp,false⟩ 42 [.p kw 0,.a (aD s),.a (ax place)] H=some (.ret (.l 96 (([⟨l,s.Var,false⟩]:List dq).map ee)),H):=by
 have e1:¬kw.dp=dp:=by omega
 have e2:∀ d,¬kw=⟨dp,d⟩:=fun d=>bD c
 have e3:kw.dp≤dp:=by omega
 have i:=hc _ _ hl
 apply dS Rj
 ·apply aj (by simp [e1,e2,e3];rfl)
  apply aj (by simp;rfl)
  apply xp
  apply aj (by simp;rfl)
  apply AW
  apply aj (by simp [h1];rfl)
  apply bT (by simp [h1])
  apply aj (by simp [i,ee,e1,e2,e3];rfl)
  exact cQ _ _
 ·simp [Mr,ee]
 ·rfl
theorem U5(dp:Nat)(H:HP)(kw:Key)(c:kw.dp<dp)(p:Program)(x y fd:AV)(a:Int)(tl:List AV)(V:List Level)(hw:H kw=some (cK p x y fd a tl))(s:Stmt)(place:Level)
  (h1:¬s.Kind=1) (h2:¬s.Kind=2) (h3:s.Kind=3) (j:Nat) (hj:s.Other=j) (b:Label) (hb:p.Ins[j]? =some b) (o l:Level) (ho:mg p.ak b=some o) (hl:er place o=some l) :
  call G Ω0 ⟨dp,false⟩ 42 [.p kw 0,.a (aD s),.a (ax place)] H=some (.ret (.l 96 (([⟨l,s.Var,false⟩]:List dq).map ee)),H):=by
 have e1:¬kw.dp=dp:=by omega
 have e2:∀ d,¬kw=⟨dp,d⟩:=fun d=>bD c
 have e3:kw.dp≤dp:=by omega
 have hA:=uH p.ak b o ho
 have hB:=jX place o l hl
 apply dS Rj
 ·apply aj (by simp [e1,e2,e3];rfl)
  apply aj (by simp;rfl)
  apply xp
  apply aj (by simp;rfl)
  apply AW
  apply aj (by simp [h1];rfl)
  apply ba (by simp [h1])
  apply aj (by simp [h2];rfl)
  apply ba (by simp [h2])
  apply aj (by simp [h3];rfl)
  apply bT (by simp [h3])
  apply aj
  ·apply dM 11
   ·rfl
   ·simp
   ·simp [hw,e1,e2,e3,hb,aH]
    rfl
   ·simp [hj,hb,aH,hA,hB,ee]
    rfl
   ·simp
    rfl
  exact cQ _ _
 ·simp [Mr,ee]
 ·rfl
theorem U6(dp:Nat)(H:HP)(kw:Key)(c:kw.dp<dp)(p:Program)(x y fd:AV)(a:Int)(tl:List AV)(V:List Level)(hw:H kw=some (cK p x y fd a tl))(s:Stmt)(place:Level)
  (hc:∀ e l,pB p V place e=some l→call G Ω0 ⟨dp+1,true⟩ 108 [.a (ny e),.e (.a (ax place)) 0,.p ⟨dp,3⟩ 0] (fun k=>if k.dp=dp then if 3=k.d then some [.p kw 0] else none else H k)=some (.ret (.a (ax l)),fun k=>if k.dp=dp then if 3=k.d then some [.p kw 0] else none else H k))
  (h1:¬s.Kind=1) (h2:¬s.Kind=2) (h3:¬s.Kind=3) (h5:s.Kind=5) (l:Level) (hl:pB p V place s.Expr=some l) :
  call G Ω0 ⟨dp,false⟩ 42 [.p kw 0,.a (aD s),.a (ax place)] H=some (.ret (.l 96 (([⟨⟨place.Readers,l.Writers⟩,s.Var,false⟩]:List dq).map ee)),H):=by
 have e1:¬kw.dp=dp:=by omega
 have e2:∀ d,¬kw=⟨dp,d⟩:=fun d=>bD c
 have e3:kw.dp≤dp:=by omega
 have i:=hc _ _ hl
 apply dS Rj
 ·apply aj (by simp [e1,e2,e3];rfl)
  apply aj (by simp;rfl)
  apply xp
  apply aj (by simp;rfl)
  apply AW
  apply aj (by simp [h1];rfl)
  apply ba (by simp [h1])
  apply aj (by simp [h2];rfl)
  apply ba (by simp [h2])
  apply aj (by simp [h3];rfl)
  apply ba (by simp [h3])
  apply aj (by simp [h5];rfl)
  apply bT (by simp [h5])
  apply aj (by simp [i,ee,e1,e2,e3];rfl)
  exact cQ _ _
 ·simp [Mr,ee]
 ·rfl
theorem U7(dp:Nat)(H:HP)(kw:Key)(c:kw.dp<dp)(p:Program)(x y fd:AV)(a:Int)(tl:List AV)(V:List Level)(hw:H kw=some (cK p x y fd a tl))(s:Stmt)(place:Level)
  (hc:∀ e l,pB p V place e=some l→call G Ω0 ⟨dp+1,true⟩ 108 [.a (ny e),.e (.a (ax place)) 0,.p ⟨dp,3⟩ 0] (fun k=>if k.dp=dp then if 3=k.d then some [.p kw 0] else none else H k)=some (.ret (.a (ax l)),fun k=>if k.dp=dp then if 3=k.d then some [.p kw 0] else none else H k))
  (h1:¬s.Kind=1) (h2:¬s.Kind=2) (h3:¬s.Kind=3) (h5:¬s.Kind=5) (h6:s.Kind=6) (l:Level) (hl:pB p V place s.Expr=some l) :
  call G Ω0 ⟨dp,false⟩ 42 [.p kw 0,.a (aD s),.a (ax place)] H=some (.ret (.l 96 (([⟨⟨l.Readers,place.Writers⟩,s.Var,false⟩]:List dq).map ee)),H):=by
 have e1:¬kw.dp=dp:=by omega
 have e2:∀ d,¬kw=⟨dp,d⟩:=fun d=>bD c
 have e3:kw.dp≤dp:=by omega
 have i:=hc _ _ hl
 apply dS Rj
 ·apply aj (by simp [e1,e2,e3];rfl)
  apply aj (by simp;rfl)
  apply xp
  apply aj (by simp;rfl)
  apply AW
  apply aj (by simp [h1];rfl)
  apply ba (by simp [h1])
  apply aj (by simp [h2];rfl)
  apply ba (by simp [h2])
  apply aj (by simp [h3];rfl)
  apply ba (by simp [h3])
  apply aj (by simp [h5];rfl)
  apply ba (by simp [h5])
  apply aj (by simp [h6];rfl)
  apply bT (by simp [h6])
  apply aj (by simp [i,ee,e1,e2,e3];rfl)
  exact cQ _ _
 ·simp [Mr,ee]
 ·rfl
theorem U8(dp:Nat)(H:HP)(kw:Key)(c:kw.dp<dp)(p:Program)(x y fd:AV)(a:Int)(tl:List AV)(V:List Level)(hw:H kw=some (cK p x y fd a tl))(s:Stmt)(place:Level)
  (h1:¬s.Kind=1) (h2:¬s.Kind=2) (h3:¬s.Kind=3) (h5:¬s.Kind=5) (h6:¬s.Kind=6) :
  call G Ω0 ⟨dp,false⟩ 42 [.p kw 0,.a (aD s),.a (ax place)] H=some (.ret (.l 96 (([]:List dq).map ee)),H):=by
 have e1:¬kw.dp=dp:=by omega
 have e2:∀ d,¬kw=⟨dp,d⟩:=fun d=>bD c
 have e3:kw.dp≤dp:=by omega
 apply dS Rj
 ·apply aj (by simp [e1,e2,e3];rfl)
  apply aj (by simp;rfl)
  apply aj
  ·apply aj (by simp;rfl)
   apply dI
   apply aj (by simp [h1];rfl)
   apply ba (by simp [h1])
   apply aj (by simp [h2];rfl)
   apply ba (by simp [h2])
   apply aj (by simp [h3];rfl)
   apply ba (by simp [h3])
   apply aj (by simp [h5];rfl)
   apply ba (by simp [h5])
   apply aj (by simp [h6];rfl)
   apply ba (by simp [h6])
   exact bh _ _
  apply aj (by simp;rfl)
  exact cQ _ _
 ·simp [Mr,ee]
 ·rfl
theorem Ka(dp:Nat)(H:HP)(kw:Key)(c:kw.dp<dp)(p:Program)(x y f:AV)(a:Int)(tl:List AV)(V:List Level)(hw:H kw=some (cK p x y f a tl))(hx:Dz H x V)
  (s:Stmt) (place:Level) (r:List dq) (hs:s.Args.length≤1000) (h:nN p V s place=some r) :
  call G Ω0 ⟨dp,false⟩ 42 [.p kw 0,.a (aD s),.a (ax place)] H=some (.ret (.l 96 (r.map ee)),H):=by
 have hd:dp<dp+1:=by omega
 have h0:0<dp:=by omega
 have e1:¬kw.dp=dp:=by omega
 have q:∀ H':HP,(∀ k:Key,k.dp=0→H' k=H k)→Dz H' x V:=by
  intro H' h'
  cases hx with
  | l t=>exact .l t V
  | sp k _ h hk=>exact .sp k V (by rw [h' k (by rcases hk with rfl | rfl<;>rfl)];exact h) hk
 have hc:∀ e l,pB p V place e=some l→call G Ω0 ⟨dp+1,true⟩ 108 [.a (ny e),.e (.a (ax place)) 0,.p ⟨dp,3⟩ 0] (fun k=>if k.dp=dp then if 3=k.d then some [.p kw 0] else none else H k)=some (.ret (.a (ax l)),fun k=>if k.dp=dp then if 3=k.d then some [.p kw 0] else none else H k):=
  fun e l he=>WI he (x:=x) (y:=y) (f:=f) (a:=a) (tl:=tl) (kw:=kw) (kc:=⟨dp,3⟩) hd (show kw.dp<dp+1 by omega) _ (by simp) (by simp only [aa e1];exact hw) (q _ fun k hk=>by simp only [hk,aa (bQ h0)])
 unfold nN at h
 by_cases h1:s.Kind=1
 ·rw [ab h1] at h
  obtain ⟨l,h2,h3⟩:=ah.1 h
  obtain rfl:=af h3
  exact U4 dp H kw c p x y f a tl V hw s place hc h1 l h2
 rw [aa h1] at h
 by_cases h2:s.Kind=2
 ·rw [ab h2] at h
  obtain ⟨j,h5,h⟩:=ah.1 h
  obtain ⟨g,h6,h⟩:=ah.1 h
  obtain ⟨out,h7,h⟩:=ah.1 h
  obtain ⟨l,h8,h⟩:=ah.1 h
  obtain rfl:=af h
  exact Tg dp H kw c p x y f a tl V hw s place hs hc h1 h2 j (iV h5) g h6 out h7 l h8
 rw [aa h2] at h
 by_cases h3:s.Kind=3
 ·rw [ab h3] at h
  obtain ⟨j,h5,h⟩:=ah.1 h
  obtain ⟨b,h6,h⟩:=ah.1 h
  obtain ⟨o,h7,h⟩:=ah.1 h
  obtain ⟨l,h8,h⟩:=ah.1 h
  obtain rfl:=af h
  exact U5 dp H kw c p x y f a tl V hw s place h1 h2 h3 j (iV h5) b h6 o l h7 h8
 rw [aa h3] at h
 by_cases h5:s.Kind=5
 ·rw [ab h5] at h
  obtain ⟨l,h7,h8⟩:=ah.1 h
  obtain rfl:=af h8
  exact U6 dp H kw c p x y f a tl V hw s place hc h1 h2 h3 h5 l h7
 rw [aa h5] at h
 by_cases h6:s.Kind=6
 ·rw [ab h6] at h
  obtain ⟨l,h7,h8⟩:=ah.1 h
  obtain rfl:=af h8
  exact U7 dp H kw c p x y f a tl V hw s place hc h1 h2 h3 h5 h6 l h7
 rw [aa h6] at h
 obtain rfl:=af h
 exact U8 dp H kw c p x y f a tl V hw s place h1 h2 h3 h5 h6
end Go.Proofs.YtkkkkondjclcnaaGreat.A
