/- infer.Walker's flows as a plain function. -/
import Derived.Test.YtkkkkondjclcnaaWalkF
set_option maxRecDepth 100000
set_option linter.unusedSectionVars false
set_option linter.unusedVariables false
set_option linter.unusedSimpArgs false
set_option linter.constructorNameAsVariable false
namespace Go.Proofs.Ytkkkkondjclcnaa.A
open Go
variable [Lp]
attribute [local simp] gp execOp okB oa dR kx uX ka jC fx St.end_ St.nm iu List.filter
def nA(dp:Nat)(H:HP)(kw:Key)(s:Stmt)(place:Level)(f:Func)(k:Nat)(out:List bJ):St:=⟨[(4,.p ⟨dp,4⟩ 0),(5,.e (.a (aB place)) 0),(7,.f 52 [.e (.a (aB place)) 0,.p ⟨dp,3⟩ 0]),(8,.p ⟨dp,8⟩ 0),(9,.o 78 (out.map cC)),(37,.l 53 (s.Args.map aG)),(38,I s.Args.length),(39,I k)],[(3,[.p kw 0]),(4,av s),(8,cN f)],H⟩
set_option maxHeartbeats 8000000 in
theorem A5(dp:Nat)(H:HP)(kw:Key)(hkw:kw.dp<dp)(p:Program)(V:List Level)(s:Stmt)(place:Level)(f:Func)(hs:s.Args.length≤1000)
  (hc:∀ e l,jw p V place e=some l→call G Ω0 ⟨dp+1,true⟩ 52 [.a (ml e),.e (.a (aB place)) 0,.p ⟨dp,3⟩ 0] (fun k=>if k.dp=dp then if 3=k.d then some [.p kw 0] else none else H k)=some (.ret (.a (aB l)),fun k=>if k.dp=dp then if 3=k.d then some [.p kw 0] else none else H k)) :
  ∀ (rest:List aw)(k:Nat)(out res:List bJ),s.Args.drop k=rest→out.length=k→ov p V place f.Params rest k out=some res→
   ∃ z,mI G Ω0 ⟨dp,false⟩ BU (nA dp H kw s place f k out)=some (.ex 1,z)∧z.aD [4,5,7,8,9] [0,3,4,5,8]=(nA dp H kw s place f k res).aD [4,5,7,8,9] [0,3,4,5,8]
 | [],k,out,res,hd,ho,h=>by
  obtain rfl:=Option.some.inj h
  have hk:¬((k:Int)<(s.Args.length:Int)):=by
   have:=List.drop_eq_nil_iff.1 hd;omega
  refine ⟨_,iW (r:=(.ex 1,?_)) ?_ (by simp),?_⟩
  rotate_left
  ·show run G Ω0 _ BT (nA dp H kw s place f k out)=_
   apply ak (by simp [nA,hk];rfl)
   apply oZ
   apply dH (by simp [hk])
   exact gK _ _ _
  ·simp [nA]
 | e::rest,k,out,res,hd,ho,h=>by
  obtain ⟨l,hl,h⟩:=Option.bind_eq_some_iff.1 h
  obtain ⟨n,hn,h⟩:=Option.bind_eq_some_iff.1 h
  have hlt:k<s.Args.length:=by
   have h1:=congrArg List.length hd
   simp only [List.length_drop,List.length_cons] at h1
   omega
  have hg:s.Args[k]? =some e:=by
   have:=congrArg (fun l=>l[0]?) hd
   simpa using this
  have hd2:s.Args.drop (k+1)=rest:=by
   have:=congrArg List.tail hd
   simpa using this
  have hw:=og k (by omega)
  have e1:kw.dp≤dp:=by omega
  have e2:∀ d,¬kw=⟨dp,d⟩:=fun d=>bH hkw
  have hk:((k:Int)<(s.Args.length:Int)):=by omega
  have hc1:=hc e l hl
  have hm:k+1≤maxLen:=Nat.le_trans (show k+1≤1001 by omega) (by decide)
  have hb:(k+1)*64≤140737488355328:=by omega
  have hr:run G Ω0 ⟨dp,false⟩ BT (nA dp H kw s place f k out)=some (.nrm,nA dp H kw s place f (k+1) (out++[⟨l,n,false⟩])):=by
   apply ak (by simp [nA,hk];rfl)
   apply ak
   ·apply eK (by simp [hk])
    exact db _ _
   apply kq
   apply ak
   ·apply nM
    apply ak (by simp [hg,iJ,e1,e2];rfl)
    simp [hc1,e1,e2,hn,ho,hm,hb]
    rfl
   simp [hw,nA,cC]
  obtain ⟨z,hz,hz2⟩:=A5 dp H kw hkw p V s place f hs hc rest (k+1) _ res hd2 (by simp [ho]) h
  refine ⟨z,?_,?_⟩
  ·rw [gq]
   exact hz
   rw [show (nA dp H kw s place f k out).aD BU.kf BU.kb=nA dp H kw s place f k out from rfl]
   show (run G Ω0 _ BT _).bind _=_
   rw [hr];rfl
  ·rw [hz2];rfl
theorem CX(p:Program)(V:List Level)(place:Level)(ps:List Int):∀ (rest:List aw)(k:Nat)(o r:List bJ),ov p V place ps rest k o=some r→r.length=o.length+rest.length
 | [],k,o,r,h=>by obtain rfl:=Option.some.inj h;rfl
 | e::rest,k,o,r,h=>by
  obtain ⟨l,_,h⟩:=Option.bind_eq_some_iff.1 h
  obtain ⟨n,_,h⟩:=Option.bind_eq_some_iff.1 h
  rw [CX p V place ps rest _ _ _ h];simp;omega
set_option maxHeartbeats 8000000 in
theorem FK(dp:Nat)(H:HP)(kw:Key)(hkw:kw.dp<dp)(p:Program)(x y fd:AV)(a:Int)(V:List Level)(hw:H kw=some (iQ p x y fd a))(s:Stmt)(place:Level)(hs:s.Args.length≤1000)
  (hc:∀ e l,jw p V place e=some l→call G Ω0 ⟨dp+1,true⟩ 52 [.a (ml e),.e (.a (aB place)) 0,.p ⟨dp,3⟩ 0] (fun k=>if k.dp=dp then if 3=k.d then some [.p kw 0] else none else H k)=some (.ret (.a (aB l)),fun k=>if k.dp=dp then if 3=k.d then some [.p kw 0] else none else H k))
  (h1:¬s.Kind=1) (h2:s.Kind=2) (j:Nat) (h5:s.Other=j) (f:Func) (h6:p.Funcs[j]? =some f) (out:List bJ) (h7:ov p V place f.Params s.Args 0 []=some out) (l:Level) (h8:jw p V place f.Result=some l) :
  call G Ω0 ⟨dp,false⟩ 26 [.p kw 0,.a (av s),.a (aB place)] H=some (.ret (.l 78 ((out++[(⟨l,s.Var,false⟩:bJ),⟨place,s.Other,true⟩]).map cC)),H):=by
 have e1:¬kw.dp=dp:=by omega
 have e2:∀ d,¬kw=⟨dp,d⟩:=fun d=>bH hkw
 have e3:kw.dp≤dp:=by omega
 have hc8:=hc _ _ h8
 have ho:out.length=s.Args.length:=by simpa using CX _ _ _ _ _ _ _ _ h7
 have hm:out.length+2≤maxLen:=Nat.le_trans (show out.length+2≤1002 by omega) (by decide)
 have hb:(out.length+2)*64≤140737488355328:=by omega
 obtain ⟨z,hz,hz2⟩:=A5 dp H kw hkw p V s place f hs hc s.Args 0 [] out rfl rfl h7
 apply ox Ee
 ·apply ak (by simp [e1,e2,e3];rfl)
  apply ak (by simp;rfl)
  apply Au
  apply ak (by simp;rfl)
  apply CW
  apply ak (by simp [h1];rfl)
  apply dH (by simp [*])
  apply ak (by simp [h2];rfl)
  apply eK (by simp [*])
  apply ak (by simp [hw,e1,e2,e3,h5,h6,bC,Eg hkw];rfl)
  apply ak (by simp;rfl)
  apply ak
  ·apply ak (by simp;rfl)
   apply sP
   rw [iw]
   exact hz
  show run G Ω0 _ (.kp _ _ IN) z=_
  rw [iG,hz2]
  apply ak (by simp [nA,hc8,e1,e2,e3,hm,hb,cC];rfl)
  exact jR _ _
 ·simp [yq,cC]
 ·rfl
set_option maxHeartbeats 8000000 in
theorem GC(dp:Nat)(H:HP)(kw:Key)(hkw:kw.dp<dp)(p:Program)(x y fd:AV)(a:Int)(V:List Level)(hw:H kw=some (iQ p x y fd a))(s:Stmt)(place:Level)
  (hc:∀ e l,jw p V place e=some l→call G Ω0 ⟨dp+1,true⟩ 52 [.a (ml e),.e (.a (aB place)) 0,.p ⟨dp,3⟩ 0] (fun k=>if k.dp=dp then if 3=k.d then some [.p kw 0] else none else H k)=some (.ret (.a (aB l)),fun k=>if k.dp=dp then if 3=k.d then some [.p kw 0] else none else H k))
  (h1:s.Kind=1) (l:Level) (hl:jw p V place s.Expr=some l) :
  call G Ω0 ⟨dp,false⟩ 26 [.p kw 0,.a (av s),.a (aB place)] H=some (.ret (.l 78 (([⟨l,s.Var,false⟩]:List bJ).map cC)),H):=by
 have e1:¬kw.dp=dp:=by omega
 have e2:∀ d,¬kw=⟨dp,d⟩:=fun d=>bH hkw
 have e3:kw.dp≤dp:=by omega
 have hc1:=hc _ _ hl
 apply ox Ee
 ·apply ak (by simp [e1,e2,e3];rfl)
  apply ak (by simp;rfl)
  apply Au
  apply ak (by simp;rfl)
  apply CW
  apply ak (by simp [h1];rfl)
  apply eK (by simp [h1])
  apply ak (by simp [hc1,cC,e1,e2,e3];rfl)
  exact jR _ _
 ·simp [yq,cC]
 ·rfl
set_option maxHeartbeats 8000000 in
theorem GD(dp:Nat)(H:HP)(kw:Key)(hkw:kw.dp<dp)(p:Program)(x y fd:AV)(a:Int)(V:List Level)(hw:H kw=some (iQ p x y fd a))(s:Stmt)(place:Level)
  (h1:¬s.Kind=1) (h2:¬s.Kind=2) (h3:s.Kind=3) (j:Nat) (hj:s.Other=j) (b:Label) (hb:p.Ins[j]? =some b) (o l:Level) (ho:e7 p.aa b=some o) (hl:cE place o=some l) :
  call G Ω0 ⟨dp,false⟩ 26 [.p kw 0,.a (av s),.a (aB place)] H=some (.ret (.l 78 (([⟨l,s.Var,false⟩]:List bJ).map cC)),H):=by
 have e1:¬kw.dp=dp:=by omega
 have e2:∀ d,¬kw=⟨dp,d⟩:=fun d=>bH hkw
 have e3:kw.dp≤dp:=by omega
 have hA:=pY p.aa b o ho
 have hB:=iN place o l hl
 apply ox Ee
 ·apply ak (by simp [e1,e2,e3];rfl)
  apply ak (by simp;rfl)
  apply Au
  apply ak (by simp;rfl)
  apply CW
  apply ak (by simp [h1];rfl)
  apply dH (by simp [h1])
  apply ak (by simp [h2];rfl)
  apply dH (by simp [h2])
  apply ak (by simp [h3];rfl)
  apply eK (by simp [h3])
  apply ak
  ·apply lE 11
   ·rfl
   ·simp
   ·simp [hw,e1,e2,e3,hb,ar]
    rfl
   ·simp [hj,hb,ar,hA,hB,cC]
    rfl
   ·simp
    rfl
  exact jR _ _
 ·simp [yq,cC]
 ·rfl
set_option maxHeartbeats 8000000 in
theorem GF(dp:Nat)(H:HP)(kw:Key)(hkw:kw.dp<dp)(p:Program)(x y fd:AV)(a:Int)(V:List Level)(hw:H kw=some (iQ p x y fd a))(s:Stmt)(place:Level)
  (hc:∀ e l,jw p V place e=some l→call G Ω0 ⟨dp+1,true⟩ 52 [.a (ml e),.e (.a (aB place)) 0,.p ⟨dp,3⟩ 0] (fun k=>if k.dp=dp then if 3=k.d then some [.p kw 0] else none else H k)=some (.ret (.a (aB l)),fun k=>if k.dp=dp then if 3=k.d then some [.p kw 0] else none else H k))
  (h1:¬s.Kind=1) (h2:¬s.Kind=2) (h3:¬s.Kind=3) (h5:s.Kind=5) (l:Level) (hl:jw p V place s.Expr=some l) :
  call G Ω0 ⟨dp,false⟩ 26 [.p kw 0,.a (av s),.a (aB place)] H=some (.ret (.l 78 (([⟨⟨place.Readers,l.Writers⟩,s.Var,false⟩]:List bJ).map cC)),H):=by
 have e1:¬kw.dp=dp:=by omega
 have e2:∀ d,¬kw=⟨dp,d⟩:=fun d=>bH hkw
 have e3:kw.dp≤dp:=by omega
 have hc1:=hc _ _ hl
 apply ox Ee
 ·apply ak (by simp [e1,e2,e3];rfl)
  apply ak (by simp;rfl)
  apply Au
  apply ak (by simp;rfl)
  apply CW
  apply ak (by simp [h1];rfl)
  apply dH (by simp [h1])
  apply ak (by simp [h2];rfl)
  apply dH (by simp [h2])
  apply ak (by simp [h3];rfl)
  apply dH (by simp [h3])
  apply ak (by simp [h5];rfl)
  apply eK (by simp [h5])
  apply ak (by simp [hc1,cC,e1,e2,e3];rfl)
  exact jR _ _
 ·simp [yq,cC]
 ·rfl
set_option maxHeartbeats 8000000 in
theorem GG(dp:Nat)(H:HP)(kw:Key)(hkw:kw.dp<dp)(p:Program)(x y fd:AV)(a:Int)(V:List Level)(hw:H kw=some (iQ p x y fd a))(s:Stmt)(place:Level)
  (hc:∀ e l,jw p V place e=some l→call G Ω0 ⟨dp+1,true⟩ 52 [.a (ml e),.e (.a (aB place)) 0,.p ⟨dp,3⟩ 0] (fun k=>if k.dp=dp then if 3=k.d then some [.p kw 0] else none else H k)=some (.ret (.a (aB l)),fun k=>if k.dp=dp then if 3=k.d then some [.p kw 0] else none else H k))
  (h1:¬s.Kind=1) (h2:¬s.Kind=2) (h3:¬s.Kind=3) (h5:¬s.Kind=5) (h6:s.Kind=6) (l:Level) (hl:jw p V place s.Expr=some l) :
  call G Ω0 ⟨dp,false⟩ 26 [.p kw 0,.a (av s),.a (aB place)] H=some (.ret (.l 78 (([⟨⟨l.Readers,place.Writers⟩,s.Var,false⟩]:List bJ).map cC)),H):=by
 have e1:¬kw.dp=dp:=by omega
 have e2:∀ d,¬kw=⟨dp,d⟩:=fun d=>bH hkw
 have e3:kw.dp≤dp:=by omega
 have hc1:=hc _ _ hl
 apply ox Ee
 ·apply ak (by simp [e1,e2,e3];rfl)
  apply ak (by simp;rfl)
  apply Au
  apply ak (by simp;rfl)
  apply CW
  apply ak (by simp [h1];rfl)
  apply dH (by simp [h1])
  apply ak (by simp [h2];rfl)
  apply dH (by simp [h2])
  apply ak (by simp [h3];rfl)
  apply dH (by simp [h3])
  apply ak (by simp [h5];rfl)
  apply dH (by simp [h5])
  apply ak (by simp [h6];rfl)
  apply eK (by simp [h6])
  apply ak (by simp [hc1,cC,e1,e2,e3];rfl)
  exact jR _ _
 ·simp [yq,cC]
 ·rfl
set_option maxHeartbeats 8000000 in
theorem GH(dp:Nat)(H:HP)(kw:Key)(hkw:kw.dp<dp)(p:Program)(x y fd:AV)(a:Int)(V:List Level)(hw:H kw=some (iQ p x y fd a))(s:Stmt)(place:Level)
  (h1:¬s.Kind=1) (h2:¬s.Kind=2) (h3:¬s.Kind=3) (h5:¬s.Kind=5) (h6:¬s.Kind=6) :
  call G Ω0 ⟨dp,false⟩ 26 [.p kw 0,.a (av s),.a (aB place)] H=some (.ret (.l 78 (([]:List bJ).map cC)),H):=by
 have e1:¬kw.dp=dp:=by omega
 have e2:∀ d,¬kw=⟨dp,d⟩:=fun d=>bH hkw
 have e3:kw.dp≤dp:=by omega
 apply ox Ee
 ·apply ak (by simp [e1,e2,e3];rfl)
  apply ak (by simp;rfl)
  apply ak
  ·apply ak (by simp;rfl)
   apply nM
   apply ak (by simp [h1];rfl)
   apply dH (by simp [h1])
   apply ak (by simp [h2];rfl)
   apply dH (by simp [h2])
   apply ak (by simp [h3];rfl)
   apply dH (by simp [h3])
   apply ak (by simp [h5];rfl)
   apply dH (by simp [h5])
   apply ak (by simp [h6];rfl)
   apply dH (by simp [h6])
   exact db _ _
  apply ak (by simp;rfl)
  exact jR _ _
 ·simp [yq,cC]
 ·rfl
theorem zg(dp:Nat)(H:HP)(kw:Key)(hkw:kw.dp<dp)(p:Program)(x y f:AV)(a:Int)(V:List Level)(hw:H kw=some (iQ p x y f a))(hx:tu H x V)
  (s:Stmt) (place:Level) (r:List bJ) (hs:s.Args.length≤1000) (h:nY p V s place=some r) :
  call G Ω0 ⟨dp,false⟩ 26 [.p kw 0,.a (av s),.a (aB place)] H=some (.ret (.l 78 (r.map cC)),H):=by
 have hd:dp<dp+1:=by omega
 have h0:0<dp:=by omega
 have e1:¬kw.dp=dp:=by omega
 have hx':∀ H':HP,(∀ k:Key,k.dp=0→H' k=H k)→tu H' x V:=by
  intro H' h'
  cases hx with
  | l t=>exact .l t V
  | sp k _ h hk=>exact .sp k V (by rw [h' k (by rcases hk with rfl | rfl<;>rfl)];exact h) hk
 have hc:∀ e l,jw p V place e=some l→call G Ω0 ⟨dp+1,true⟩ 52 [.a (ml e),.e (.a (aB place)) 0,.p ⟨dp,3⟩ 0] (fun k=>if k.dp=dp then if 3=k.d then some [.p kw 0] else none else H k)=some (.ret (.a (aB l)),fun k=>if k.dp=dp then if 3=k.d then some [.p kw 0] else none else H k):=
  fun e l he=>HX he (x:=x) (y:=y) (f:=f) (a:=a) (kw:=kw) (kc:=⟨dp,3⟩) hd (show kw.dp<dp+1 by omega) _ (by simp) (by simp only [if_neg e1];exact hw) (hx' _ fun k hk=>by simp only [hk,if_neg (Nat.ne_of_lt h0)])
 unfold nY at h
 by_cases h1:s.Kind=1
 ·rw [if_pos h1] at h
  obtain ⟨l,h2,h3⟩:=Option.bind_eq_some_iff.1 h
  obtain rfl:=Option.some.inj h3
  exact GC dp H kw hkw p x y f a V hw s place hc h1 l h2
 rw [if_neg h1] at h
 by_cases h2:s.Kind=2
 ·rw [if_pos h2] at h
  obtain ⟨j,h5,h⟩:=Option.bind_eq_some_iff.1 h
  obtain ⟨g,h6,h⟩:=Option.bind_eq_some_iff.1 h
  obtain ⟨out,h7,h⟩:=Option.bind_eq_some_iff.1 h
  obtain ⟨l,h8,h⟩:=Option.bind_eq_some_iff.1 h
  obtain rfl:=Option.some.inj h
  exact FK dp H kw hkw p x y f a V hw s place hs hc h1 h2 j (oP h5) g h6 out h7 l h8
 rw [if_neg h2] at h
 by_cases h3:s.Kind=3
 ·rw [if_pos h3] at h
  obtain ⟨j,h5,h⟩:=Option.bind_eq_some_iff.1 h
  obtain ⟨b,h6,h⟩:=Option.bind_eq_some_iff.1 h
  obtain ⟨o,h7,h⟩:=Option.bind_eq_some_iff.1 h
  obtain ⟨l,h8,h⟩:=Option.bind_eq_some_iff.1 h
  obtain rfl:=Option.some.inj h
  exact GD dp H kw hkw p x y f a V hw s place h1 h2 h3 j (oP h5) b h6 o l h7 h8
 rw [if_neg h3] at h
 by_cases h5:s.Kind=5
 ·rw [if_pos h5] at h
  obtain ⟨l,h7,h8⟩:=Option.bind_eq_some_iff.1 h
  obtain rfl:=Option.some.inj h8
  exact GF dp H kw hkw p x y f a V hw s place hc h1 h2 h3 h5 l h7
 rw [if_neg h5] at h
 by_cases h6:s.Kind=6
 ·rw [if_pos h6] at h
  obtain ⟨l,h7,h8⟩:=Option.bind_eq_some_iff.1 h
  obtain rfl:=Option.some.inj h8
  exact GG dp H kw hkw p x y f a V hw s place hc h1 h2 h3 h5 h6 l h7
 rw [if_neg h6] at h
 obtain rfl:=Option.some.inj h
 exact GH dp H kw hkw p x y f a V hw s place h1 h2 h3 h5 h6
end Go.Proofs.Ytkkkkondjclcnaa.A
