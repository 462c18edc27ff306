/- infer.Walker's flows as a plain function. -/
import Derived.Test.YtkkkkondjclcnaaGreatWalkF
set_option maxRecDepth 100000
set_option linter.unusedSectionVars false
set_option linter.unusedVariables false
set_option linter.unusedSimpArgs false
set_option linter.constructorNameAsVariable false
namespace Go.Proofs.YtkkkkondjclcnaaGreat.A
open Go
variable [Lp]
attribute [local simp] gp execOp okB k7 cY iS tE jr jc fM St.end_ St.ir ie List.filter
def qY(dp:Nat)(H:HP)(kw:Key)(s:Stmt)(place:Level)(f:Func)(k:Nat)(out:List cb):St:=⟨[(4,.p ⟨dp,4⟩ 0),(5,.e (.a (av place)) 0),(7,.f 108 [.e (.a (av place)) 0,.p ⟨dp,3⟩ 0]),(8,.p ⟨dp,8⟩ 0),(9,.o 96 (out.map cp)),(37,.l 37 (s.Args.map az)),(38,I s.Args.length),(39,I k)],[(3,[.p kw 0]),(4,aw s),(8,dB f)],H⟩
set_option maxHeartbeats 8000000 in
theorem Fx(dp:Nat)(H:HP)(kw:Key)(hkw:kw.dp<dp)(p:Program)(V:List Level)(s:Stmt)(place:Level)(f:Func)(hs:s.Args.length≤1000)
  (hc:∀ e l,lQ p V place e=some l→call G Ω0 ⟨dp+1,true⟩ 108 [.a (mV e),.e (.a (av place)) 0,.p ⟨dp,3⟩ 0] (fun k=>if k.dp=dp then if 3=k.d then some [.p kw 0] else none else H k)=some (.ret (.a (av l)),fun k=>if k.dp=dp then if 3=k.d then some [.p kw 0] else none else H k)) :
  ∀ (rest:List ak)(k:Nat)(out res:List cb),s.Args.drop k=rest→out.length=k→my p V place f.Params rest k out=some res→
   ∃ z,ju G Ω0 ⟨dp,false⟩ GB (qY dp H kw s place f k out)=some (.ex 1,z)∧z.aH [4,5,7,8,9] [0,3,4,5,8]=(qY dp H kw s place f k res).aH [4,5,7,8,9] [0,3,4,5,8]
 | [],k,out,res,hd,ho,h=>by
  obtain rfl:=Option.some.inj h
  have hk:¬((k:Int)<(s.Args.length:Int)):=by
   have:=List.drop_eq_nil_iff.1 hd;omega
  refine ⟨_,ig (r:=(.ex 1,?_)) ?_ (by simp),?_⟩
  rotate_left
  ·show run G Ω0 _ GA (qY dp H kw s place f k out)=_
   apply ae (by simp [qY,hk];rfl)
   apply rq
   apply bS (by simp [hk])
   exact iC _ _ _
  ·simp [qY]
 | e::rest,k,out,res,hd,ho,h=>by
  obtain ⟨l,hl,h⟩:=Option.bind_eq_some_iff.1 h
  obtain ⟨n,hn,h⟩:=Option.bind_eq_some_iff.1 h
  have hlt:k<s.Args.length:=by
   have h1:=congrArg List.length hd
   simp only [List.length_drop,List.length_cons] at h1
   omega
  have hg:s.Args[k]? =some e:=by
   have:=congrArg (fun l=>l[0]?) hd
   simpa using this
  have hd2:s.Args.drop (k+1)=rest:=by
   have:=congrArg List.tail hd
   simpa using this
  have hw:=qA k (by omega)
  have e1:kw.dp≤dp:=by omega
  have e2:∀ d,¬kw=⟨dp,d⟩:=fun d=>aP hkw
  have hk:((k:Int)<(s.Args.length:Int)):=by omega
  have hc1:=hc e l hl
  have hm:k+1≤maxLen:=Nat.le_trans (show k+1≤1001 by omega) (by decide)
  have hb:(k+1)*64≤140737488355328:=by omega
  have hr:run G Ω0 ⟨dp,false⟩ GA (qY dp H kw s place f k out)=some (.nrm,qY dp H kw s place f (k+1) (out++[⟨l,n,false⟩])):=by
   apply ae (by simp [qY,hk];rfl)
   apply ae
   ·apply dE (by simp [hk])
    exact bU _ _
   apply fG
   apply ae
   ·apply ku
    apply ae (by simp [hg,dt,e1,e2];rfl)
    simp [hc1,e1,e2,hn,ho,hm,hb]
    rfl
   simp [hw,qY,cp]
  obtain ⟨z,hz,hz2⟩:=Fx dp H kw hkw p V s place f hs hc rest (k+1) _ res hd2 (by simp [ho]) h
  refine ⟨z,?_,?_⟩
  ·rw [iE]
   exact hz
   rw [show (qY dp H kw s place f k out).aH GB.kf GB.kb=qY dp H kw s place f k out from rfl]
   show (run G Ω0 _ GA _).bind _=_
   rw [hr];rfl
  ·rw [hz2];rfl
theorem HN(p:Program)(V:List Level)(place:Level)(ps:List Int):∀ (rest:List ak)(k:Nat)(o r:List cb),my p V place ps rest k o=some r→r.length=o.length+rest.length
 | [],k,o,r,h=>by obtain rfl:=Option.some.inj h;rfl
 | e::rest,k,o,r,h=>by
  obtain ⟨l,_,h⟩:=Option.bind_eq_some_iff.1 h
  obtain ⟨n,_,h⟩:=Option.bind_eq_some_iff.1 h
  rw [HN p V place ps rest _ _ _ h];simp;omega
set_option maxHeartbeats 8000000 in
theorem Lx(dp:Nat)(H:HP)(kw:Key)(hkw:kw.dp<dp)(p:Program)(x y fd:AV)(a:Int)(tl:List AV)(V:List Level)(hw:H kw=some (bA p x y fd a tl))(s:Stmt)(place:Level)(hs:s.Args.length≤1000)
  (hc:∀ e l,lQ p V place e=some l→call G Ω0 ⟨dp+1,true⟩ 108 [.a (mV e),.e (.a (av place)) 0,.p ⟨dp,3⟩ 0] (fun k=>if k.dp=dp then if 3=k.d then some [.p kw 0] else none else H k)=some (.ret (.a (av l)),fun k=>if k.dp=dp then if 3=k.d then some [.p kw 0] else none else H k))
  (h1:¬s.Kind=1) (h2:s.Kind=2) (j:Nat) (h5:s.Other=j) (f:Func) (h6:p.Funcs[j]? =some f) (out:List cb) (h7:my p V place f.Params s.Args 0 []=some out) (l:Level) (h8:lQ p V place f.Result=some l) :
  call G Ω0 ⟨dp,false⟩ 42 [.p kw 0,.a (aw s),.a (av place)] H=some (.ret (.l 96 ((out++[(⟨l,s.Var,false⟩:cb),⟨place,s.Other,true⟩]).map cp)),H):=by
 have e1:¬kw.dp=dp:=by omega
 have e2:∀ d,¬kw=⟨dp,d⟩:=fun d=>aP hkw
 have e3:kw.dp≤dp:=by omega
 have hc8:=hc _ _ h8
 have ho:out.length=s.Args.length:=by simpa using HN _ _ _ _ _ _ _ _ h7
 have hm:out.length+2≤maxLen:=Nat.le_trans (show out.length+2≤1002 by omega) (by decide)
 have hb:(out.length+2)*64≤140737488355328:=by omega
 obtain ⟨z,hz,hz2⟩:=Fx dp H kw hkw p V s place f hs hc s.Args 0 [] out rfl rfl h7
 apply gU JR
 ·apply ae (by simp [e1,e2,e3];rfl)
  apply ae (by simp;rfl)
  apply yP
  apply ae (by simp;rfl)
  apply Ck
  apply ae (by simp [h1];rfl)
  apply bS (by simp [*])
  apply ae (by simp [h2];rfl)
  apply dE (by simp [*])
  apply ae (by simp [hw,e1,e2,e3,h5,h6,aS,xE hkw];rfl)
  apply ae (by simp;rfl)
  apply ae
  ·apply ae (by simp;rfl)
   apply qc
   rw [ey]
   exact hz
  show run G Ω0 _ (.kp _ _ Qs) z=_
  rw [iD,hz2]
  apply ae (by simp [qY,hc8,e1,e2,e3,hm,hb,cp];rfl)
  exact db _ _
 ·simp [CY,cp]
 ·rfl
set_option maxHeartbeats 8000000 in
theorem M4(dp:Nat)(H:HP)(kw:Key)(hkw:kw.dp<dp)(p:Program)(x y fd:AV)(a:Int)(tl:List AV)(V:List Level)(hw:H kw=some (bA p x y fd a tl))(s:Stmt)(place:Level)
  (hc:∀ e l,lQ p V place e=some l→call G Ω0 ⟨dp+1,true⟩ 108 [.a (mV e),.e (.a (av place)) 0,.p ⟨dp,3⟩ 0] (fun k=>if k.dp=dp then if 3=k.d then some [.p kw 0] else none else H k)=some (.ret (.a (av l)),fun k=>if k.dp=dp then if 3=k.d then some [.p kw 0] else none else H k))
  (h1:s.Kind=1) (l:Level) (hl:lQ p V place s.Expr=some l) :
  call G Ω0 ⟨dp,false⟩ 42 [.p kw 0,.a (aw s),.a (av place)] H=some (.ret (.l 96 (([⟨l,s.Var,false⟩]:List cb).map cp)),H):=by
 have e1:¬kw.dp=dp:=by omega
 have e2:∀ d,¬kw=⟨dp,d⟩:=fun d=>aP hkw
 have e3:kw.dp≤dp:=by omega
 have hc1:=hc _ _ hl
 apply gU JR
 ·apply ae (by simp [e1,e2,e3];rfl)
  apply ae (by simp;rfl)
  apply yP
  apply ae (by simp;rfl)
  apply Ck
  apply ae (by simp [h1];rfl)
  apply dE (by simp [h1])
  apply ae (by simp [hc1,cp,e1,e2,e3];rfl)
  exact db _ _
 ·simp [CY,cp]
 ·rfl
set_option maxHeartbeats 8000000 in
theorem M5(dp:Nat)(H:HP)(kw:Key)(hkw:kw.dp<dp)(p:Program)(x y fd:AV)(a:Int)(tl:List AV)(V:List Level)(hw:H kw=some (bA p x y fd a tl))(s:Stmt)(place:Level)
  (h1:¬s.Kind=1) (h2:¬s.Kind=2) (h3:s.Kind=3) (j:Nat) (hj:s.Other=j) (b:Label) (hb:p.Ins[j]? =some b) (o l:Level) (ho:jD p.aa b=some o) (hl:cE place o=some l) :
  call G Ω0 ⟨dp,false⟩ 42 [.p kw 0,.a (aw s),.a (av place)] H=some (.ret (.l 96 (([⟨l,s.Var,false⟩]:List cb).map cp)),H):=by
 have e1:¬kw.dp=dp:=by omega
 have e2:∀ d,¬kw=⟨dp,d⟩:=fun d=>aP hkw
 have e3:kw.dp≤dp:=by omega
 have hA:=qT p.aa b o ho
 have hB:=fW place o l hl
 apply gU JR
 ·apply ae (by simp [e1,e2,e3];rfl)
  apply ae (by simp;rfl)
  apply yP
  apply ae (by simp;rfl)
  apply Ck
  apply ae (by simp [h1];rfl)
  apply bS (by simp [h1])
  apply ae (by simp [h2];rfl)
  apply bS (by simp [h2])
  apply ae (by simp [h3];rfl)
  apply dE (by simp [h3])
  apply ae
  ·apply kv 11
   ·rfl
   ·simp
   ·simp [hw,e1,e2,e3,hb,ah]
    rfl
   ·simp [hj,hb,ah,hA,hB,cp]
    rfl
   ·simp
    rfl
  exact db _ _
 ·simp [CY,cp]
 ·rfl
set_option maxHeartbeats 8000000 in
theorem M6(dp:Nat)(H:HP)(kw:Key)(hkw:kw.dp<dp)(p:Program)(x y fd:AV)(a:Int)(tl:List AV)(V:List Level)(hw:H kw=some (bA p x y fd a tl))(s:Stmt)(place:Level)
  (hc:∀ e l,lQ p V place e=some l→call G Ω0 ⟨dp+1,true⟩ 108 [.a (mV e),.e (.a (av place)) 0,.p ⟨dp,3⟩ 0] (fun k=>if k.dp=dp then if 3=k.d then some [.p kw 0] else none else H k)=some (.ret (.a (av l)),fun k=>if k.dp=dp then if 3=k.d then some [.p kw 0] else none else H k))
  (h1:¬s.Kind=1) (h2:¬s.Kind=2) (h3:¬s.Kind=3) (h5:s.Kind=5) (l:Level) (hl:lQ p V place s.Expr=some l) :
  call G Ω0 ⟨dp,false⟩ 42 [.p kw 0,.a (aw s),.a (av place)] H=some (.ret (.l 96 (([⟨⟨place.Readers,l.Writers⟩,s.Var,false⟩]:List cb).map cp)),H):=by
 have e1:¬kw.dp=dp:=by omega
 have e2:∀ d,¬kw=⟨dp,d⟩:=fun d=>aP hkw
 have e3:kw.dp≤dp:=by omega
 have hc1:=hc _ _ hl
 apply gU JR
 ·apply ae (by simp [e1,e2,e3];rfl)
  apply ae (by simp;rfl)
  apply yP
  apply ae (by simp;rfl)
  apply Ck
  apply ae (by simp [h1];rfl)
  apply bS (by simp [h1])
  apply ae (by simp [h2];rfl)
  apply bS (by simp [h2])
  apply ae (by simp [h3];rfl)
  apply bS (by simp [h3])
  apply ae (by simp [h5];rfl)
  apply dE (by simp [h5])
  apply ae (by simp [hc1,cp,e1,e2,e3];rfl)
  exact db _ _
 ·simp [CY,cp]
 ·rfl
set_option maxHeartbeats 8000000 in
theorem M7(dp:Nat)(H:HP)(kw:Key)(hkw:kw.dp<dp)(p:Program)(x y fd:AV)(a:Int)(tl:List AV)(V:List Level)(hw:H kw=some (bA p x y fd a tl))(s:Stmt)(place:Level)
  (hc:∀ e l,lQ p V place e=some l→call G Ω0 ⟨dp+1,true⟩ 108 [.a (mV e),.e (.a (av place)) 0,.p ⟨dp,3⟩ 0] (fun k=>if k.dp=dp then if 3=k.d then some [.p kw 0] else none else H k)=some (.ret (.a (av l)),fun k=>if k.dp=dp then if 3=k.d then some [.p kw 0] else none else H k))
  (h1:¬s.Kind=1) (h2:¬s.Kind=2) (h3:¬s.Kind=3) (h5:¬s.Kind=5) (h6:s.Kind=6) (l:Level) (hl:lQ p V place s.Expr=some l) :
  call G Ω0 ⟨dp,false⟩ 42 [.p kw 0,.a (aw s),.a (av place)] H=some (.ret (.l 96 (([⟨⟨l.Readers,place.Writers⟩,s.Var,false⟩]:List cb).map cp)),H):=by
 have e1:¬kw.dp=dp:=by omega
 have e2:∀ d,¬kw=⟨dp,d⟩:=fun d=>aP hkw
 have e3:kw.dp≤dp:=by omega
 have hc1:=hc _ _ hl
 apply gU JR
 ·apply ae (by simp [e1,e2,e3];rfl)
  apply ae (by simp;rfl)
  apply yP
  apply ae (by simp;rfl)
  apply Ck
  apply ae (by simp [h1];rfl)
  apply bS (by simp [h1])
  apply ae (by simp [h2];rfl)
  apply bS (by simp [h2])
  apply ae (by simp [h3];rfl)
  apply bS (by simp [h3])
  apply ae (by simp [h5];rfl)
  apply bS (by simp [h5])
  apply ae (by simp [h6];rfl)
  apply dE (by simp [h6])
  apply ae (by simp [hc1,cp,e1,e2,e3];rfl)
  exact db _ _
 ·simp [CY,cp]
 ·rfl
set_option maxHeartbeats 8000000 in
theorem M8(dp:Nat)(H:HP)(kw:Key)(hkw:kw.dp<dp)(p:Program)(x y fd:AV)(a:Int)(tl:List AV)(V:List Level)(hw:H kw=some (bA p x y fd a tl))(s:Stmt)(place:Level)
  (h1:¬s.Kind=1) (h2:¬s.Kind=2) (h3:¬s.Kind=3) (h5:¬s.Kind=5) (h6:¬s.Kind=6) :
  call G Ω0 ⟨dp,false⟩ 42 [.p kw 0,.a (aw s),.a (av place)] H=some (.ret (.l 96 (([]:List cb).map cp)),H):=by
 have e1:¬kw.dp=dp:=by omega
 have e2:∀ d,¬kw=⟨dp,d⟩:=fun d=>aP hkw
 have e3:kw.dp≤dp:=by omega
 apply gU JR
 ·apply ae (by simp [e1,e2,e3];rfl)
  apply ae (by simp;rfl)
  apply ae
  ·apply ae (by simp;rfl)
   apply ku
   apply ae (by simp [h1];rfl)
   apply bS (by simp [h1])
   apply ae (by simp [h2];rfl)
   apply bS (by simp [h2])
   apply ae (by simp [h3];rfl)
   apply bS (by simp [h3])
   apply ae (by simp [h5];rfl)
   apply bS (by simp [h5])
   apply ae (by simp [h6];rfl)
   apply bS (by simp [h6])
   exact bU _ _
  apply ae (by simp;rfl)
  exact db _ _
 ·simp [CY,cp]
 ·rfl
theorem DE(dp:Nat)(H:HP)(kw:Key)(hkw:kw.dp<dp)(p:Program)(x y f:AV)(a:Int)(tl:List AV)(V:List Level)(hw:H kw=some (bA p x y f a tl))(hx:yb H x V)
  (s:Stmt) (place:Level) (r:List cb) (hs:s.Args.length≤1000) (h:fw p V s place=some r) :
  call G Ω0 ⟨dp,false⟩ 42 [.p kw 0,.a (aw s),.a (av place)] H=some (.ret (.l 96 (r.map cp)),H):=by
 have hd:dp<dp+1:=by omega
 have h0:0<dp:=by omega
 have e1:¬kw.dp=dp:=by omega
 have hx':∀ H':HP,(∀ k:Key,k.dp=0→H' k=H k)→yb H' x V:=by
  intro H' h'
  cases hx with
  | l t=>exact .l t V
  | sp k _ h hk=>exact .sp k V (by rw [h' k (by rcases hk with rfl | rfl<;>rfl)];exact h) hk
 have hc:∀ e l,lQ p V place e=some l→call G Ω0 ⟨dp+1,true⟩ 108 [.a (mV e),.e (.a (av place)) 0,.p ⟨dp,3⟩ 0] (fun k=>if k.dp=dp then if 3=k.d then some [.p kw 0] else none else H k)=some (.ret (.a (av l)),fun k=>if k.dp=dp then if 3=k.d then some [.p kw 0] else none else H k):=
  fun e l he=>Pw he (x:=x) (y:=y) (f:=f) (a:=a) (tl:=tl) (kw:=kw) (kc:=⟨dp,3⟩) hd (show kw.dp<dp+1 by omega) _ (by simp) (by simp only [if_neg e1];exact hw) (hx' _ fun k hk=>by simp only [hk,if_neg (Nat.ne_of_lt h0)])
 unfold fw at h
 by_cases h1:s.Kind=1
 ·rw [if_pos h1] at h
  obtain ⟨l,h2,h3⟩:=Option.bind_eq_some_iff.1 h
  obtain rfl:=Option.some.inj h3
  exact M4 dp H kw hkw p x y f a tl V hw s place hc h1 l h2
 rw [if_neg h1] at h
 by_cases h2:s.Kind=2
 ·rw [if_pos h2] at h
  obtain ⟨j,h5,h⟩:=Option.bind_eq_some_iff.1 h
  obtain ⟨g,h6,h⟩:=Option.bind_eq_some_iff.1 h
  obtain ⟨out,h7,h⟩:=Option.bind_eq_some_iff.1 h
  obtain ⟨l,h8,h⟩:=Option.bind_eq_some_iff.1 h
  obtain rfl:=Option.some.inj h
  exact Lx dp H kw hkw p x y f a tl V hw s place hs hc h1 h2 j (jQ h5) g h6 out h7 l h8
 rw [if_neg h2] at h
 by_cases h3:s.Kind=3
 ·rw [if_pos h3] at h
  obtain ⟨j,h5,h⟩:=Option.bind_eq_some_iff.1 h
  obtain ⟨b,h6,h⟩:=Option.bind_eq_some_iff.1 h
  obtain ⟨o,h7,h⟩:=Option.bind_eq_some_iff.1 h
  obtain ⟨l,h8,h⟩:=Option.bind_eq_some_iff.1 h
  obtain rfl:=Option.some.inj h
  exact M5 dp H kw hkw p x y f a tl V hw s place h1 h2 h3 j (jQ h5) b h6 o l h7 h8
 rw [if_neg h3] at h
 by_cases h5:s.Kind=5
 ·rw [if_pos h5] at h
  obtain ⟨l,h7,h8⟩:=Option.bind_eq_some_iff.1 h
  obtain rfl:=Option.some.inj h8
  exact M6 dp H kw hkw p x y f a tl V hw s place hc h1 h2 h3 h5 l h7
 rw [if_neg h5] at h
 by_cases h6:s.Kind=6
 ·rw [if_pos h6] at h
  obtain ⟨l,h7,h8⟩:=Option.bind_eq_some_iff.1 h
  obtain rfl:=Option.some.inj h8
  exact M7 dp H kw hkw p x y f a tl V hw s place hc h1 h2 h3 h5 h6 l h7
 rw [if_neg h6] at h
 obtain rfl:=Option.some.inj h
 exact M8 dp H kw hkw p x y f a tl V hw s place h1 h2 h3 h5 h6
end Go.Proofs.YtkkkkondjclcnaaGreat.A
