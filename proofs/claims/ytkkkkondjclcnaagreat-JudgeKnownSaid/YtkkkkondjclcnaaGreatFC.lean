/- Functions of the program as plain functions, by program. -/
import Derived.Test.YtkkkkondjclcnaaGreatTypes
import Derived.Test.YtkkkkondjclcnaaGreatLift
import Derived.Test.YtkkkkondjclcnaaGreatFE
import Derived.Test.YtkkkkondjclcnaaGreatOkS
set_option maxRecDepth 100000
set_option linter.unusedSectionVars false
set_option linter.unusedVariables false
set_option linter.unusedSimpArgs false
set_option linter.constructorNameAsVariable false
namespace Go.Proofs.YtkkkkondjclcnaaGreat.A
open Go
noncomputable section
variable [Lp]
section
variable (a0:ak)
abbrev Ij(a0:ak)(r:ak):aQ×HP:=(.ret (.a (dc r)),H0)
abbrev vX(r:ak):Prop:=call G Ω0 E0 90 [(.a (dc a0))] H0=some (Ij a0 r)
end
structure vY where
 f_R_CopyExpr:ak→Option ak
structure ur(R:vY):Prop where
 f_R_CopyExpr:∀ (a0:ak)(r:ak),R.f_R_CopyExpr a0=some r→vX a0 r
section
variable (R:vY)(a0:ak)
def mA(v0_4:Nat)(v0_3_2:(List ak)):Option ((Nat×(List ak))⊕(Nat×Bool×(List ak))):=
 if (v0_4:Int)<(a0.Args.length:Int) then
  (a0.Args[v0_4]?).bind fun (y2:ak)=>
  (R.f_R_CopyExpr y2).bind fun (r4:ak)=>
  if v0_3_2.length + [r4].length≤1000000000 then
   if IntKind.i64.wrap ((v0_4:Int)+1)=((v0_4+1:Nat):Int) then
    some (.inl (v0_4+1,v0_3_2++[r4]))
   else none
  else none
 else
  some (.inr (v0_4,decide ((v0_4:Int)<(a0.Args.length:Int)),v0_3_2))
abbrev EP(v:(Nat×(List ak))):St:=⟨[(1,(.p ⟨0,1⟩ 0)),(2,(.p ⟨0,2⟩ 0)),(3,(.p ⟨0,3⟩ 0)),(4,(I (v.1:Int)))],[(1,(dc a0)),(2,[(I 0),(I 0),(.l 37 (([]:List ak).map az))]),(3,[(I a0.Kind),(I a0.N),(.o 37 (v.2.map az))])],H0⟩
abbrev yl(x:(Nat×Bool×(List ak))):aI×St:=((.ex 0),⟨[(1,(.p ⟨0,1⟩ 0)),(2,(.p ⟨0,2⟩ 0)),(3,(.p ⟨0,3⟩ 0)),(4,(I (x.1:Int))),(14,(.b x.2.1))],[(1,(dc a0)),(2,[(I 0),(I 0),(.l 37 (([]:List ak).map az))]),(3,[(I a0.Kind),(I a0.N),(.o 37 (x.2.2.map az))])],H0⟩)
theorem DM(hR:ur R)(a0:ak)(v0_4:Nat)(v0_3_2:(List ak))(o:(Nat×(List ak))⊕(Nat×Bool×(List ak)))(h:mA R a0 v0_4 v0_3_2=some o):bB E0 Qz (EP a0) (yl a0) (v0_4,v0_3_2) o:=
 bL (bt<|ao (.i (a0.Args.length:Int))<|.or (ew<|ao (.n v0_4)<|.ex fun (y2:ak)=>ao (.v (.a (dc y2)))<|.ex fun (r4:ak)=>ao (.v (.a (dc r4)))<|ao (.l ([r4].map az))<|ew<|ao (.l ((v0_3_2++[r4]).map az))<|gT<|ao (.i ((v0_4+1:Nat):Int))<|.nil) (bf<|.nil)) fun L=>ai (rfl:Z0)<|ai (aG az a0.Args)<|bZ h (fun h1 h=>Hk (decide_eq_true h1)<|ai (rI v0_4)<|bO h fun y2 h3 h=>ai (og az h3 (dt _))<|bJ<|aT h (hR.f_R_CopyExpr y2) fun r4 h=>ai tt<|ai ((by simp only [List.map_cons,List.map_nil,dt]):[(.a (dc r4))]=[r4].map az)<|Ef<|aR h fun h6 h=>ai ((fQ az (n:=3) (fun a=>by rw [dt];rfl) [r4]):([r4].map az).all (fun e=>e.nc==3)=true)<|ai ((kE h6 (by decide)):((v0_3_2.map az).length+([r4].map az).length)*40≤140737488355328)<|ai ((kG h6):(v0_3_2.map az).length+([r4].map az).length≤maxLen)<|ai (List.map_append.symm:v0_3_2.map az++[r4].map az=(v0_3_2++[r4]).map az)<|jd<|ai (rfl:Z0)<|aR h fun w7 h=>ai w7<|L h) (fun h1 h=>ai (decide_eq_false h1)<|L h)
def q9:Option ak:=
 (lp (fun v=>mA R a0 v.1 v.2) (0,([]:List ak))).bind fun (x1:(Nat×Bool×(List ak)))=>
 some (⟨a0.Kind,a0.N,x1.2.2⟩:ak)
theorem Cr(hR:ur R)(a0:ak)(r:ak)(h:q9 R a0=some r):vX a0 r:=
 aJ G90 (MN<|.ex fun (x1:(Nat×Bool×(List ak)))=>ao (.cu (yl a0 x1))<|tJ<|.nil) fun L=>bJ<|ai (rfl:Z0)<|ai (rfl:Z0)<|ai tt<|jd<|dO<|jd<|ai (rfl:Z0)<|aT h (gl (fun v=>DM R hR a0 v.1 v.2) (0,([]:List ak))) fun x1 h=>jd<|ai (rfl:Z0)<|ai (rfl:Z0)<|jd<|dO<|ai (rfl:Z0)<|L h
def mB:Nat→vY
 | 0=>⟨fun z0=>none⟩
 | n+1=>⟨q9 (mB n)⟩
theorem zB:∀ n,ur (mB n)
 | 0=>⟨fun _ r h=>(by cases h)⟩
 | n+1=>⟨fun a0 r h=>Cr _ (zB n) a0 r h⟩
def oM:Option ak:=ev fun n=>(mB n).f_R_CopyExpr a0
theorem sc(r:ak)(h:oM a0=some r):vX a0 r:=by
 obtain ⟨n,hn⟩:=vc h
 exact (zB n).f_R_CopyExpr a0 r hn
end
section
variable (a0:(List Stmt))
abbrev Gk(a0:(List Stmt))(r:(List Stmt)):aQ×HP:=(.ret (.l 92 (r.map ay)),H0)
abbrev uu(r:(List Stmt)):Prop:=call G Ω0 E0 88 [(.l 92 (a0.map ay))] H0=some (Gk a0 r)
end
structure ra where
 f_R_CopyStmts:(List Stmt)→Option (List Stmt)
structure pD(R:ra):Prop where
 f_R_CopyStmts:∀ (a0:(List Stmt))(r:(List Stmt)),R.f_R_CopyStmts a0=some r→uu a0 r
section
variable (R:ra)(a0:(List Stmt))
def lB(R:ra)(a0:(List Stmt))(v0_3:(List Stmt))(v0_4:Nat)(y2:Stmt)(r4:ak)(r6:(List Stmt))(r8:(List Stmt))(v1_7:Nat)(v1_6_6:(List ak)):Option ((Nat×(List ak))⊕(Nat×Bool×(List ak))):=
 if (v1_7:Int)<(y2.Args.length:Int) then
  (y2.Args[v1_7]?).bind fun (y11:ak)=>
  (oM y11).bind fun (r13:ak)=>
  if v1_6_6.length + [r13].length≤1000000000 then
   if IntKind.i64.wrap ((v1_7:Int)+1)=((v1_7+1:Nat):Int) then
    some (.inl (v1_7+1,v1_6_6++[r13]))
   else none
  else none
 else
  some (.inr (v1_7,decide ((v1_7:Int)<(y2.Args.length:Int)),v1_6_6))
abbrev DN(v0_3:(List Stmt))(v0_4:Nat)(y2:Stmt)(r4:ak)(r6:(List Stmt))(r8:(List Stmt))(v:(Nat×(List ak))):St:=⟨[(0,(.l 92 (a0.map ay))),(3,(.o 92 (v0_3.map ay))),(4,(I (v0_4:Int))),(5,(.p ⟨0,5⟩ 0)),(6,(.p ⟨0,6⟩ 0)),(7,(I (v.1:Int)))],[(5,(aw y2)),(6,[(I y2.Kind),(I y2.Var),(I y2.Other),(I r4.Kind),(I r4.N),(.l 37 (r4.Args.map az)),(.o 37 (v.2.map az)),(.l 92 (r6.map ay)),(.l 92 (r8.map ay))])],H0⟩
abbrev wU(v0_3:(List Stmt))(v0_4:Nat)(y2:Stmt)(r4:ak)(r6:(List Stmt))(r8:(List Stmt))(x:(Nat×Bool×(List ak))):aI×St:=((.ex 2),⟨[(0,(.l 92 (a0.map ay))),(3,(.o 92 (v0_3.map ay))),(4,(I (v0_4:Int))),(5,(.p ⟨0,5⟩ 0)),(6,(.p ⟨0,6⟩ 0)),(7,(I (x.1:Int))),(38,(.b x.2.1))],[(5,(aw y2)),(6,[(I y2.Kind),(I y2.Var),(I y2.Other),(I r4.Kind),(I r4.N),(.l 37 (r4.Args.map az)),(.o 37 (x.2.2.map az)),(.l 92 (r6.map ay)),(.l 92 (r8.map ay))])],H0⟩)
theorem Cs(hR:pD R)(a0:(List Stmt))(v0_3:(List Stmt))(v0_4:Nat)(y2:Stmt)(r4:ak)(r6:(List Stmt))(r8:(List Stmt))(v1_7:Nat)(v1_6_6:(List ak))(o:(Nat×(List ak))⊕(Nat×Bool×(List ak)))(h:lB R a0 v0_3 v0_4 y2 r4 r6 r8 v1_7 v1_6_6=some o):bB E0 Qx (DN a0 v0_3 v0_4 y2 r4 r6 r8) (wU a0 v0_3 v0_4 y2 r4 r6 r8) (v1_7,v1_6_6) o:=
 bL (bt<|ao (.i (y2.Args.length:Int))<|.or (ew<|ao (.n v1_7)<|.ex fun (y11:ak)=>ao (.v (.a (dc y11)))<|.ex fun (r13:ak)=>ao (.v (.a (dc r13)))<|ao (.l ([r13].map az))<|ew<|ao (.l ((v1_6_6++[r13]).map az))<|gT<|ao (.i ((v1_7+1:Nat):Int))<|.nil) (bf<|.nil)) fun L=>ai (rfl:Z0)<|ai (aG az y2.Args)<|bZ h (fun h10 h=>Hk (decide_eq_true h10)<|ai (rI v1_7)<|bO h fun y11 h12 h=>ai (og az h12 (dt _))<|bJ<|aT h (sc y11) fun r13 h=>ai tt<|ai ((by simp only [List.map_cons,List.map_nil,dt]):[(.a (dc r13))]=[r13].map az)<|Ef<|aR h fun h15 h=>ai ((fQ az (n:=3) (fun a=>by rw [dt];rfl) [r13]):([r13].map az).all (fun e=>e.nc==3)=true)<|ai ((kE h15 (by decide)):((v1_6_6.map az).length+([r13].map az).length)*40≤140737488355328)<|ai ((kG h15):(v1_6_6.map az).length+([r13].map az).length≤maxLen)<|ai (List.map_append.symm:v1_6_6.map az++[r13].map az=(v1_6_6++[r13]).map az)<|jd<|ai (rfl:Z0)<|aR h fun w16 h=>ai w16<|L h) (fun h10 h=>ai (decide_eq_false h10)<|L h)
def lC(v0_3:(List Stmt))(v0_4:Nat):Option (((List Stmt)×Nat)⊕((List Stmt)×Nat×Bool)):=
 if (v0_4:Int)<(a0.length:Int) then
  (a0[v0_4]?).bind fun (y2:Stmt)=>
  (oM y2.Expr).bind fun (r4:ak)=>
  (R.f_R_CopyStmts y2.Then).bind fun (r6:(List Stmt))=>
  (R.f_R_CopyStmts y2.Else).bind fun (r8:(List Stmt))=>
  (lp (fun v=>lB R a0 v0_3 v0_4 y2 r4 r6 r8 v.1 v.2) (0,([]:List ak))).bind fun (x10:(Nat×Bool×(List ak)))=>
  if v0_3.length+([(⟨y2.Kind,y2.Var,y2.Other,r4,x10.2.2,r6,r8⟩:Stmt)]).length≤1000000000 then
   if IntKind.i64.wrap ((v0_4:Int)+1)=((v0_4+1:Nat):Int) then
    some (.inl (v0_3++([(⟨y2.Kind,y2.Var,y2.Other,r4,x10.2.2,r6,r8⟩:Stmt)]),v0_4+1))
   else none
  else none
 else
  some (.inr (v0_3,v0_4,decide ((v0_4:Int)<(a0.length:Int))))
abbrev DO(v:((List Stmt)×Nat)):St:=⟨[(0,(.l 92 (a0.map ay))),(3,(.o 92 (v.1.map ay))),(4,(I (v.2:Int)))],[],H0⟩
abbrev wV(x:((List Stmt)×Nat×Bool)):aI×St:=((.ex 0),⟨[(0,(.l 92 (a0.map ay))),(3,(.o 92 (x.1.map ay))),(4,(I (x.2.1:Int))),(11,(.b x.2.2))],[],H0⟩)
theorem Ct(hR:pD R)(a0:(List Stmt))(v0_3:(List Stmt))(v0_4:Nat)(o:((List Stmt)×Nat)⊕((List Stmt)×Nat×Bool))(h:lC R a0 v0_3 v0_4=some o):bB E0 Qy (DO a0) (wV a0) (v0_3,v0_4) o:=
 bL (ao (.i (a0.length:Int))<|.or (bt<|ao (.n v0_4)<|.ex fun (y2:Stmt)=>ao (.v (.a (aw y2)))<|MN<|.ex fun (r4:ak)=>ao (.v (.a (dc r4)))<|bt<|.ex fun (r6:(List Stmt))=>ao (.v (.l 92 (r6.map ay)))<|bt<|.ex fun (r8:(List Stmt))=>ao (.v (.l 92 (r8.map ay)))<|zu<|.ex fun (x10:(Nat×Bool×(List ak)))=>ao (.cu (wU a0 v0_3 v0_4 y2 r4 r6 r8 x10))<|ew<|ao (.l (([(⟨y2.Kind,y2.Var,y2.Other,r4,x10.2.2,r6,r8⟩:Stmt)]).map ay))<|ao (.l ((v0_3++([(⟨y2.Kind,y2.Var,y2.Other,r4,x10.2.2,r6,r8⟩:Stmt)])).map ay))<|ao (.i ((v0_4+1:Nat):Int))<|.nil) (bf<|.nil)) fun L=>ai (aG ay a0)<|bZ h (fun h1 h=>ai (decide_eq_true h1)<|ai (rI v0_4)<|bO h fun y2 h3 h=>ai (og ay h3 (je _))<|ai tt<|jd<|dO<|bJ<|ai (rfl:Z0)<|bJ<|ai (rfl:Z0)<|bJ<|ai (rfl:Z0)<|bJ<|ai (rfl:Z0)<|ai tt<|aT h (sc y2.Expr) fun r4 h=>Ab<|aT h (hR.f_R_CopyStmts y2.Then) fun r6 h=>Ab<|aT h (hR.f_R_CopyStmts y2.Else) fun r8 h=>bJ<|bJ<|jd<|dO<|jd<|ai (rfl:Z0)<|aT h (gl (fun v=>Cs R hR a0 v0_3 v0_4 y2 r4 r6 r8 v.1 v.2) (0,([]:List ak))) fun x10 h=>jd<|ai (rfl:Z0)<|ai (rfl:Z0)<|ai ((by simp only [List.map_cons,List.map_nil,je]):[(.a [(I y2.Kind),(I y2.Var),(I y2.Other),(I r4.Kind),(I r4.N),(.l 37 (r4.Args.map az)),(.l 37 (x10.2.2.map az)),(.l 92 (r6.map ay)),(.l 92 (r8.map ay))])]=([(⟨y2.Kind,y2.Var,y2.Other,r4,x10.2.2,r6,r8⟩:Stmt)]).map ay)<|ai ff<|aR h fun h12 h=>ai ((fQ ay (n:=9) (fun a=>by rw [je];rfl) ([(⟨y2.Kind,y2.Var,y2.Other,r4,x10.2.2,r6,r8⟩:Stmt)])):(([(⟨y2.Kind,y2.Var,y2.Other,r4,x10.2.2,r6,r8⟩:Stmt)]).map ay).all (fun e=>e.nc==9)=true)<|ai ((kE h12 (by decide)):((v0_3.map ay).length+(([(⟨y2.Kind,y2.Var,y2.Other,r4,x10.2.2,r6,r8⟩:Stmt)]).map ay).length)*136≤140737488355328)<|ai ((kG h12):(v0_3.map ay).length+(([(⟨y2.Kind,y2.Var,y2.Other,r4,x10.2.2,r6,r8⟩:Stmt)]).map ay).length≤maxLen)<|ai (List.map_append.symm:v0_3.map ay++([(⟨y2.Kind,y2.Var,y2.Other,r4,x10.2.2,r6,r8⟩:Stmt)]).map ay=(v0_3++([(⟨y2.Kind,y2.Var,y2.Other,r4,x10.2.2,r6,r8⟩:Stmt)])).map ay)<|aR h fun w13 h=>ai w13<|L h) (fun h1 h=>ai (decide_eq_false h1)<|L h)
def pE:Option (List Stmt):=
 (lp (fun v=>lC R a0 v.1 v.2) (([]:List Stmt),0)).bind fun (x1:((List Stmt)×Nat×Bool))=>
 some x1.1
theorem BG(hR:pD R)(a0:(List Stmt))(r:(List Stmt))(h:pE R a0=some r):uu a0 r:=
 aJ G88 (.ex fun (x1:((List Stmt)×Nat×Bool))=>ao (.cu (wV a0 x1))<|.nil) fun L=>aT h (gl (fun v=>Ct R hR a0 v.1 v.2) (([]:List Stmt),0)) fun x1 h=>L h
def jh:Nat→ra
 | 0=>⟨fun z0=>none⟩
 | n+1=>⟨pE (jh n)⟩
theorem ym:∀ n,pD (jh n)
 | 0=>⟨fun _ r h=>(by cases h)⟩
 | n+1=>⟨fun a0 r h=>BG _ (ym n) a0 r h⟩
def rb:Option (List Stmt):=ev fun n=>(jh n).f_R_CopyStmts a0
theorem vZ(r:(List Stmt))(h:rb a0=some r):uu a0 r:=by
 obtain ⟨n,hn⟩:=vc h
 exact (ym n).f_R_CopyStmts a0 r hn
end
section
variable (a0:(List aD))
def iL(v0_3:(List aD))(v0_4:Nat):Option (((List aD)×Nat)⊕((List aD)×Nat×Bool)):=
 if (v0_4:Int)<(a0.length:Int) then
  (a0[v0_4]?).bind fun (y2:aD)=>
  if ([]:List Int).length+y2.Names.length≤1000000000 then
   if v0_3.length+([(⟨y2.Owner,([]:List Int)++y2.Names⟩:aD)]).length≤1000000000 then
    if IntKind.i64.wrap ((v0_4:Int)+1)=((v0_4+1:Nat):Int) then
     some (.inl (v0_3++([(⟨y2.Owner,([]:List Int)++y2.Names⟩:aD)]),v0_4+1))
    else none
   else none
  else none
 else
  some (.inr (v0_3,v0_4,decide ((v0_4:Int)<(a0.length:Int))))
abbrev Az(v:((List aD)×Nat)):St:=⟨[(0,(.l 138 (a0.map au))),(3,(.o 138 (v.1.map au))),(4,(I (v.2:Int)))],[],H0⟩
abbrev tU(x:((List aD)×Nat×Bool)):aI×St:=((.ex 0),⟨[(0,(.l 138 (a0.map au))),(3,(.o 138 (x.1.map au))),(4,(I (x.2.1:Int))),(8,(.b x.2.2))],[],H0⟩)
theorem zI(v0_3:(List aD))(v0_4:Nat)(o:((List aD)×Nat)⊕((List aD)×Nat×Bool))(h:iL a0 v0_3 v0_4=some o):bB E0 Mm (Az a0) (tU a0) (v0_3,v0_4) o:=
 bL (ao (.i (a0.length:Int))<|.or (bt<|ao (.n v0_4)<|.ex fun (y2:aD)=>ao (.v (.a [(I y2.Owner),(.l 3 (y2.Names.map (I)))]))<|ao (.l (([]:List Int).map (I)))<|ao (.n v0_4)<|ao (.v (.a [(I y2.Owner),(.l 3 (y2.Names.map (I)))]))<|ao (.l ((([]:List Int)++y2.Names).map (I)))<|ao (.l (([(⟨y2.Owner,([]:List Int)++y2.Names⟩:aD)]).map au))<|ao (.l ((v0_3++([(⟨y2.Owner,([]:List Int)++y2.Names⟩:aD)])).map au))<|ao (.i ((v0_4+1:Nat):Int))<|.nil) (bf<|.nil)) fun L=>ai (aG au a0)<|bZ h (fun h1 h=>ai (decide_eq_true h1)<|bJ<|bJ<|ai (rI v0_4)<|bO h fun y2 h3 h=>ai (aU au h3)<|yF<|ai (rfl:([]:List AV)=([]:List Int).map (I))<|yF<|ai (rI v0_4)<|ai (aU au h3)<|yF<|aR h fun h4 h=>ai ((fQ (I) (n:=1) (fun _=>rfl) y2.Names):(y2.Names.map (I)).all (fun e=>e.nc==1)=true)<|ai ((kE h4 (by decide)):((([]:List Int).map (I)).length+(y2.Names.map (I)).length)*8≤140737488355328)<|ai ((kG h4):(([]:List Int).map (I)).length+(y2.Names.map (I)).length≤maxLen)<|ai (List.map_append.symm:([]:List Int).map (I)++y2.Names.map (I)=(([]:List Int)++y2.Names).map (I))<|bJ<|ai (rfl:[(.a [(I y2.Owner),(.l 3 ((([]:List Int)++y2.Names).map (I)))])]=([(⟨y2.Owner,([]:List Int)++y2.Names⟩:aD)]).map au)<|ai tt<|ai ff<|aR h fun h5 h=>ai ((fQ au (n:=2) (fun _=>rfl) ([(⟨y2.Owner,([]:List Int)++y2.Names⟩:aD)])):(([(⟨y2.Owner,([]:List Int)++y2.Names⟩:aD)]).map au).all (fun e=>e.nc==2)=true)<|ai ((kE h5 (by decide)):((v0_3.map au).length+(([(⟨y2.Owner,([]:List Int)++y2.Names⟩:aD)]).map au).length)*32≤140737488355328)<|ai ((kG h5):(v0_3.map au).length+(([(⟨y2.Owner,([]:List Int)++y2.Names⟩:aD)]).map au).length≤maxLen)<|ai (List.map_append.symm:v0_3.map au++([(⟨y2.Owner,([]:List Int)++y2.Names⟩:aD)]).map au=(v0_3++([(⟨y2.Owner,([]:List Int)++y2.Names⟩:aD)])).map au)<|aR h fun w6 h=>ai w6<|L h) (fun h1 h=>ai (decide_eq_false h1)<|L h)
abbrev Cu(a0:(List aD))(r:(List aD)):aQ×HP:=(.ret (.l 138 (r.map au)),H0)
def kx:Option (List aD):=
 (lp (fun v=>iL a0 v.1 v.2) (([]:List aD),0)).bind fun (x1:((List aD)×Nat×Bool))=>
 some x1.1
theorem ss(r:(List aD))(h:kx a0=some r):call G Ω0 E0 130 [(.l 138 (a0.map au))] H0=some (Cu a0 r):=
 aJ abP (.ex fun (x1:((List aD)×Nat×Bool))=>ao (.cu (tU a0 x1))<|.nil) fun L=>aT h (gl (fun v=>zI a0 v.1 v.2) (([]:List aD),0)) fun x1 h=>L h
end
section
variable (a0:Label)
abbrev Gl(a0:Label)(r:Label):aQ×HP:=(.ret (.a [(.l 138 (r.Read.map au)),(.l 138 (r.Write.map au))]),H0)
def kW:Option Label:=
 (kx a0.Read).bind fun (r1:(List aD))=>
 (kx a0.Write).bind fun (r3:(List aD))=>
 some (⟨r1,r3⟩:Label)
theorem rv(r:Label)(h:kW a0=some r):call G Ω0 E0 89 [(.a [(.l 138 (a0.Read.map au)),(.l 138 (a0.Write.map au))])] H0=some (Gl a0 r):=
 aJ G89 (bt<|.ex fun (r1:(List aD))=>ao (.v (.l 138 (r1.map au)))<|bt<|.ex fun (r3:(List aD))=>ao (.v (.l 138 (r3.map au)))<|gT<|.nil) fun L=>bJ<|bJ<|ai (rfl:Z0)<|ai tt<|aT h (ss a0.Read) fun r1 h=>Ab<|aT h (ss a0.Write) fun r3 h=>Ll<|L h
end
section
variable (a0:Program)
def ga(r3:(List Stmt))(v0_4:Nat)(v0_3_3:(List Label)):Option ((Nat×(List Label))⊕(Nat×Bool×(List Label))):=
 if (v0_4:Int)<(a0.Ins.length:Int) then
  (a0.Ins[v0_4]?).bind fun (y6:Label)=>
  (kW y6).bind fun (r8:Label)=>
  if v0_3_3.length + [r8].length≤1000000000 then
   if IntKind.i64.wrap ((v0_4:Int)+1)=((v0_4+1:Nat):Int) then
    some (.inl (v0_4+1,v0_3_3++[r8]))
   else none
  else none
 else
  some (.inr (v0_4,decide ((v0_4:Int)<(a0.Ins.length:Int)),v0_3_3))
abbrev qf(r3:(List Stmt))(v:(Nat×(List Label))):St:=⟨[(1,(.p ⟨0,1⟩ 0)),(2,(.p ⟨0,2⟩ 0)),(3,(.p ⟨0,3⟩ 0)),(4,(I (v.1:Int)))],[(1,(ar a0)),(2,[(I 0),(.l 166 (([]:List bc).map aB)),(.l 3 (([]:List Int).map (I))),(.l 81 (([]:List Label).map ah)),(.l 81 (([]:List Label).map ah)),(.l 83 (([]:List Var).map aW)),(.l 101 (([]:List Func).map aS)),(.l 92 (([]:List Stmt).map ay))]),(3,[(I a0.aa.Many),(.l 166 ((([]:List bc)++a0.aa.Grants).map aB)),(.l 3 ((([]:List Int)++a0.Speak).map (I))),(.o 81 (v.2.map ah)),(.o 81 (([]:List Label).map ah)),(.o 83 (([]:List Var).map aW)),(.o 101 (([]:List Func).map aS)),(.l 92 (r3.map ay))])],H0⟩
abbrev qh(r3:(List Stmt))(x:(Nat×Bool×(List Label))):aI×St:=((.ex 0),⟨[(1,(.p ⟨0,1⟩ 0)),(2,(.p ⟨0,2⟩ 0)),(3,(.p ⟨0,3⟩ 0)),(4,(I (x.1:Int))),(30,(.b x.2.1))],[(1,(ar a0)),(2,[(I 0),(.l 166 (([]:List bc).map aB)),(.l 3 (([]:List Int).map (I))),(.l 81 (([]:List Label).map ah)),(.l 81 (([]:List Label).map ah)),(.l 83 (([]:List Var).map aW)),(.l 101 (([]:List Func).map aS)),(.l 92 (([]:List Stmt).map ay))]),(3,[(I a0.aa.Many),(.l 166 ((([]:List bc)++a0.aa.Grants).map aB)),(.l 3 ((([]:List Int)++a0.Speak).map (I))),(.o 81 (x.2.2.map ah)),(.o 81 (([]:List Label).map ah)),(.o 83 (([]:List Var).map aW)),(.o 101 (([]:List Func).map aS)),(.l 92 (r3.map ay))])],H0⟩)
theorem AA(r3:(List Stmt))(v0_4:Nat)(v0_3_3:(List Label))(o:(Nat×(List Label))⊕(Nat×Bool×(List Label)))(h:ga a0 r3 v0_4 v0_3_3=some o):bB E0 Gu (qf a0 r3) (qh a0 r3) (v0_4,v0_3_3) o:=
 bL (bt<|ao (.i (a0.Ins.length:Int))<|.or (ew<|ao (.n v0_4)<|.ex fun (y6:Label)=>ao (.v (.a [(.l 138 (y6.Read.map au)),(.l 138 (y6.Write.map au))]))<|.ex fun (r8:Label)=>ao (.v (.a [(.l 138 (r8.Read.map au)),(.l 138 (r8.Write.map au))]))<|ao (.l ([r8].map ah))<|ew<|ao (.l ((v0_3_3++[r8]).map ah))<|gT<|ao (.i ((v0_4+1:Nat):Int))<|.nil) (bf<|.nil)) fun L=>ai (rfl:Z0)<|ai (aG ah a0.Ins)<|bZ h (fun h5 h=>Hk (decide_eq_true h5)<|ai (rI v0_4)<|bO h fun y6 h7 h=>ai (aU ah h7)<|bJ<|aT h (rv y6) fun r8 h=>ai tt<|ai (rfl:[(.a [(.l 138 (r8.Read.map au)),(.l 138 (r8.Write.map au))])]=[r8].map ah)<|Ef<|aR h fun h10 h=>ai ((fQ ah (n:=2) (fun _=>rfl) [r8]):([r8].map ah).all (fun e=>e.nc==2)=true)<|ai ((kE h10 (by decide)):((v0_3_3.map ah).length+([r8].map ah).length)*48≤140737488355328)<|ai ((kG h10):(v0_3_3.map ah).length+([r8].map ah).length≤maxLen)<|ai (List.map_append.symm:v0_3_3.map ah++[r8].map ah=(v0_3_3++[r8]).map ah)<|jd<|ai (rfl:Z0)<|aR h fun w11 h=>ai w11<|L h) (fun h5 h=>ai (decide_eq_false h5)<|L h)
theorem AB(r3:(List Stmt))(v:(Nat×(List Label)))(x:(Nat×Bool×(List Label)))(h:lp (fun v=>ga a0 r3 v.1 v.2) v=some x):ju G Ω0 E0 Gu (qf a0 r3 v)=some (qh a0 r3 x):=
 xD Gu (qf a0 r3) (qh a0 r3) (fun _=>rfl) (fun v o h=>AA a0 r3 v.1 v.2 o h) h
def gd(r3:(List Stmt))(x5:(Nat×Bool×(List Label)))(v1_5:Nat)(v1_3_4:(List Label)):Option ((Nat×(List Label))⊕(Nat×Bool×(List Label))):=
 if (v1_5:Int)<(a0.Outs.length:Int) then
  (a0.Outs[v1_5]?).bind fun (y8:Label)=>
  (kW y8).bind fun (r10:Label)=>
  if v1_3_4.length + [r10].length≤1000000000 then
   if IntKind.i64.wrap ((v1_5:Int)+1)=((v1_5+1:Nat):Int) then
    some (.inl (v1_5+1,v1_3_4++[r10]))
   else none
  else none
 else
  some (.inr (v1_5,decide ((v1_5:Int)<(a0.Outs.length:Int)),v1_3_4))
abbrev qi(r3:(List Stmt))(x5:(Nat×Bool×(List Label)))(v:(Nat×(List Label))):St:=⟨[(1,(.p ⟨0,1⟩ 0)),(2,(.p ⟨0,2⟩ 0)),(3,(.p ⟨0,3⟩ 0)),(5,(I (v.1:Int)))],[(1,(ar a0)),(2,[(I 0),(.l 166 (([]:List bc).map aB)),(.l 3 (([]:List Int).map (I))),(.l 81 (([]:List Label).map ah)),(.l 81 (([]:List Label).map ah)),(.l 83 (([]:List Var).map aW)),(.l 101 (([]:List Func).map aS)),(.l 92 (([]:List Stmt).map ay))]),(3,[(I a0.aa.Many),(.l 166 ((([]:List bc)++a0.aa.Grants).map aB)),(.l 3 ((([]:List Int)++a0.Speak).map (I))),(.o 81 (x5.2.2.map ah)),(.o 81 (v.2.map ah)),(.o 83 (([]:List Var).map aW)),(.o 101 (([]:List Func).map aS)),(.l 92 (r3.map ay))])],H0⟩
abbrev qj(r3:(List Stmt))(x5:(Nat×Bool×(List Label)))(x:(Nat×Bool×(List Label))):aI×St:=((.ex 2),⟨[(1,(.p ⟨0,1⟩ 0)),(2,(.p ⟨0,2⟩ 0)),(3,(.p ⟨0,3⟩ 0)),(5,(I (x.1:Int))),(48,(.b x.2.1))],[(1,(ar a0)),(2,[(I 0),(.l 166 (([]:List bc).map aB)),(.l 3 (([]:List Int).map (I))),(.l 81 (([]:List Label).map ah)),(.l 81 (([]:List Label).map ah)),(.l 83 (([]:List Var).map aW)),(.l 101 (([]:List Func).map aS)),(.l 92 (([]:List Stmt).map ay))]),(3,[(I a0.aa.Many),(.l 166 ((([]:List bc)++a0.aa.Grants).map aB)),(.l 3 ((([]:List Int)++a0.Speak).map (I))),(.o 81 (x5.2.2.map ah)),(.o 81 (x.2.2.map ah)),(.o 83 (([]:List Var).map aW)),(.o 101 (([]:List Func).map aS)),(.l 92 (r3.map ay))])],H0⟩)
theorem AD(r3:(List Stmt))(x5:(Nat×Bool×(List Label)))(v1_5:Nat)(v1_3_4:(List Label))(o:(Nat×(List Label))⊕(Nat×Bool×(List Label)))(h:gd a0 r3 x5 v1_5 v1_3_4=some o):bB E0 Gv (qi a0 r3 x5) (qj a0 r3 x5) (v1_5,v1_3_4) o:=
 bL (bt<|ao (.i (a0.Outs.length:Int))<|.or (ew<|ao (.n v1_5)<|.ex fun (y8:Label)=>ao (.v (.a [(.l 138 (y8.Read.map au)),(.l 138 (y8.Write.map au))]))<|.ex fun (r10:Label)=>ao (.v (.a [(.l 138 (r10.Read.map au)),(.l 138 (r10.Write.map au))]))<|ao (.l ([r10].map ah))<|ew<|ao (.l ((v1_3_4++[r10]).map ah))<|gT<|ao (.i ((v1_5+1:Nat):Int))<|.nil) (bf<|.nil)) fun L=>ai (rfl:Z0)<|ai (aG ah a0.Outs)<|bZ h (fun h7 h=>Hk (decide_eq_true h7)<|ai (rI v1_5)<|bO h fun y8 h9 h=>ai (aU ah h9)<|bJ<|aT h (rv y8) fun r10 h=>ai tt<|ai (rfl:[(.a [(.l 138 (r10.Read.map au)),(.l 138 (r10.Write.map au))])]=[r10].map ah)<|Ef<|aR h fun h12 h=>ai ((fQ ah (n:=2) (fun _=>rfl) [r10]):([r10].map ah).all (fun e=>e.nc==2)=true)<|ai ((kE h12 (by decide)):((v1_3_4.map ah).length+([r10].map ah).length)*48≤140737488355328)<|ai ((kG h12):(v1_3_4.map ah).length+([r10].map ah).length≤maxLen)<|ai (List.map_append.symm:v1_3_4.map ah++[r10].map ah=(v1_3_4++[r10]).map ah)<|jd<|ai (rfl:Z0)<|aR h fun w13 h=>ai w13<|L h) (fun h7 h=>ai (decide_eq_false h7)<|L h)
theorem AE(r3:(List Stmt))(x5:(Nat×Bool×(List Label)))(v:(Nat×(List Label)))(x:(Nat×Bool×(List Label)))(h:lp (fun v=>gd a0 r3 x5 v.1 v.2) v=some x):ju G Ω0 E0 Gv (qi a0 r3 x5 v)=some (qj a0 r3 x5 x):=
 xD Gv (qi a0 r3 x5) (qj a0 r3 x5) (fun _=>rfl) (fun v o h=>AD a0 r3 x5 v.1 v.2 o h) h
def gh(r3:(List Stmt))(x5:(Nat×Bool×(List Label)))(x7:(Nat×Bool×(List Label)))(v2_6:Nat)(v2_3_5:(List Var)):Option ((Nat×(List Var))⊕(Nat×Bool×(List Var))):=
 if (v2_6:Int)<(a0.Vars.length:Int) then
  (a0.Vars[v2_6]?).bind fun (y10:Var)=>
  (kW y10.Label).bind fun (r12:Label)=>
  if v2_3_5.length+([(⟨y10.Known,r12⟩:Var)]).length≤1000000000 then
   if IntKind.i64.wrap ((v2_6:Int)+1)=((v2_6+1:Nat):Int) then
    some (.inl (v2_6+1,v2_3_5++([(⟨y10.Known,r12⟩:Var)])))
   else none
  else none
 else
  some (.inr (v2_6,decide ((v2_6:Int)<(a0.Vars.length:Int)),v2_3_5))
abbrev qm(r3:(List Stmt))(x5:(Nat×Bool×(List Label)))(x7:(Nat×Bool×(List Label)))(v:(Nat×(List Var))):St:=⟨[(1,(.p ⟨0,1⟩ 0)),(2,(.p ⟨0,2⟩ 0)),(3,(.p ⟨0,3⟩ 0)),(6,(I (v.1:Int)))],[(1,(ar a0)),(2,[(I 0),(.l 166 (([]:List bc).map aB)),(.l 3 (([]:List Int).map (I))),(.l 81 (([]:List Label).map ah)),(.l 81 (([]:List Label).map ah)),(.l 83 (([]:List Var).map aW)),(.l 101 (([]:List Func).map aS)),(.l 92 (([]:List Stmt).map ay))]),(3,[(I a0.aa.Many),(.l 166 ((([]:List bc)++a0.aa.Grants).map aB)),(.l 3 ((([]:List Int)++a0.Speak).map (I))),(.o 81 (x5.2.2.map ah)),(.o 81 (x7.2.2.map ah)),(.o 83 (v.2.map aW)),(.o 101 (([]:List Func).map aS)),(.l 92 (r3.map ay))])],H0⟩
abbrev qn(r3:(List Stmt))(x5:(Nat×Bool×(List Label)))(x7:(Nat×Bool×(List Label)))(x:(Nat×Bool×(List Var))):aI×St:=((.ex 4),⟨[(1,(.p ⟨0,1⟩ 0)),(2,(.p ⟨0,2⟩ 0)),(3,(.p ⟨0,3⟩ 0)),(6,(I (x.1:Int))),(66,(.b x.2.1))],[(1,(ar a0)),(2,[(I 0),(.l 166 (([]:List bc).map aB)),(.l 3 (([]:List Int).map (I))),(.l 81 (([]:List Label).map ah)),(.l 81 (([]:List Label).map ah)),(.l 83 (([]:List Var).map aW)),(.l 101 (([]:List Func).map aS)),(.l 92 (([]:List Stmt).map ay))]),(3,[(I a0.aa.Many),(.l 166 ((([]:List bc)++a0.aa.Grants).map aB)),(.l 3 ((([]:List Int)++a0.Speak).map (I))),(.o 81 (x5.2.2.map ah)),(.o 81 (x7.2.2.map ah)),(.o 83 (x.2.2.map aW)),(.o 101 (([]:List Func).map aS)),(.l 92 (r3.map ay))])],H0⟩)
theorem AF(r3:(List Stmt))(x5:(Nat×Bool×(List Label)))(x7:(Nat×Bool×(List Label)))(v2_6:Nat)(v2_3_5:(List Var))(o:(Nat×(List Var))⊕(Nat×Bool×(List Var)))(h:gh a0 r3 x5 x7 v2_6 v2_3_5=some o):bB E0 Gw (qm a0 r3 x5 x7) (qn a0 r3 x5 x7) (v2_6,v2_3_5) o:=
 bL (bt<|ao (.i (a0.Vars.length:Int))<|.or (ew<|ao (.n v2_6)<|.ex fun (y10:Var)=>ao (.v (.a (Ho y10)))<|bt<|ao (.n v2_6)<|ao (.v (.a (Ho y10)))<|.ex fun (r12:Label)=>ao (.v (.a [(.l 138 (r12.Read.map au)),(.l 138 (r12.Write.map au))]))<|ao (.l (([(⟨y10.Known,r12⟩:Var)]).map aW))<|ew<|ao (.l ((v2_3_5++([(⟨y10.Known,r12⟩:Var)])).map aW))<|gT<|ao (.i ((v2_6+1:Nat):Int))<|.nil) (bf<|.nil)) fun L=>ai (rfl:Z0)<|ai (aG aW a0.Vars)<|bZ h (fun h9 h=>Hk (decide_eq_true h9)<|ai (rI v2_6)<|bO h fun y10 h11 h=>ai (aU aW h11)<|bJ<|bJ<|ai (rfl:Z0)<|bJ<|ai (rI v2_6)<|ai (aU aW h11)<|yF<|aT h (rv y10.Label) fun r12 h=>bJ<|ai (rfl:[(.a [(.b y10.Known),(.l 138 (r12.Read.map au)),(.l 138 (r12.Write.map au))])]=([(⟨y10.Known,r12⟩:Var)]).map aW)<|Ef<|aR h fun h14 h=>ai ((fQ aW (n:=3) (fun _=>rfl) ([(⟨y10.Known,r12⟩:Var)])):(([(⟨y10.Known,r12⟩:Var)]).map aW).all (fun e=>e.nc==3)=true)<|ai ((kE h14 (by decide)):((v2_3_5.map aW).length+(([(⟨y10.Known,r12⟩:Var)]).map aW).length)*56≤140737488355328)<|ai ((kG h14):(v2_3_5.map aW).length+(([(⟨y10.Known,r12⟩:Var)]).map aW).length≤maxLen)<|ai (List.map_append.symm:v2_3_5.map aW++([(⟨y10.Known,r12⟩:Var)]).map aW=(v2_3_5++([(⟨y10.Known,r12⟩:Var)])).map aW)<|jd<|ai (rfl:Z0)<|aR h fun w15 h=>ai w15<|L h) (fun h9 h=>ai (decide_eq_false h9)<|L h)
theorem AG(r3:(List Stmt))(x5:(Nat×Bool×(List Label)))(x7:(Nat×Bool×(List Label)))(v:(Nat×(List Var)))(x:(Nat×Bool×(List Var)))(h:lp (fun v=>gh a0 r3 x5 x7 v.1 v.2) v=some x):ju G Ω0 E0 Gw (qm a0 r3 x5 x7 v)=some (qn a0 r3 x5 x7 x):=
 xD Gw (qm a0 r3 x5 x7) (qn a0 r3 x5 x7) (fun _=>rfl) (fun v o h=>AF a0 r3 x5 x7 v.1 v.2 o h) h
def gi(r3:(List Stmt))(x5:(Nat×Bool×(List Label)))(x7:(Nat×Bool×(List Label)))(x9:(Nat×Bool×(List Var)))(v3_7:Nat)(v3_3_6:(List Func)):Option ((Nat×(List Func))⊕(Nat×Bool×(List Func))):=
 if (v3_7:Int)<(a0.Funcs.length:Int) then
  (a0.Funcs[v3_7]?).bind fun (y12:Func)=>
  if ([]:List Int).length+y12.Params.length≤1000000000 then
   (rb y12.Body).bind fun (r15:(List Stmt))=>
   (oM y12.Result).bind fun (r17:ak)=>
   if v3_3_6.length+([(⟨([]:List Int)++y12.Params,r15,r17⟩:Func)]).length≤1000000000 then
    if IntKind.i64.wrap ((v3_7:Int)+1)=((v3_7+1:Nat):Int) then
     some (.inl (v3_7+1,v3_3_6++([(⟨([]:List Int)++y12.Params,r15,r17⟩:Func)])))
    else none
   else none
  else none
 else
  some (.inr (v3_7,decide ((v3_7:Int)<(a0.Funcs.length:Int)),v3_3_6))
abbrev qp(r3:(List Stmt))(x5:(Nat×Bool×(List Label)))(x7:(Nat×Bool×(List Label)))(x9:(Nat×Bool×(List Var)))(v:(Nat×(List Func))):St:=⟨[(1,(.p ⟨0,1⟩ 0)),(2,(.p ⟨0,2⟩ 0)),(3,(.p ⟨0,3⟩ 0)),(7,(I (v.1:Int)))],[(1,(ar a0)),(2,[(I 0),(.l 166 (([]:List bc).map aB)),(.l 3 (([]:List Int).map (I))),(.l 81 (([]:List Label).map ah)),(.l 81 (([]:List Label).map ah)),(.l 83 (([]:List Var).map aW)),(.l 101 (([]:List Func).map aS)),(.l 92 (([]:List Stmt).map ay))]),(3,[(I a0.aa.Many),(.l 166 ((([]:List bc)++a0.aa.Grants).map aB)),(.l 3 ((([]:List Int)++a0.Speak).map (I))),(.o 81 (x5.2.2.map ah)),(.o 81 (x7.2.2.map ah)),(.o 83 (x9.2.2.map aW)),(.o 101 (v.2.map aS)),(.l 92 (r3.map ay))])],H0⟩
abbrev qu(r3:(List Stmt))(x5:(Nat×Bool×(List Label)))(x7:(Nat×Bool×(List Label)))(x9:(Nat×Bool×(List Var)))(x:(Nat×Bool×(List Func))):aI×St:=((.ex 6),⟨[(1,(.p ⟨0,1⟩ 0)),(2,(.p ⟨0,2⟩ 0)),(3,(.p ⟨0,3⟩ 0)),(7,(I (x.1:Int))),(92,(.b x.2.1))],[(1,(ar a0)),(2,[(I 0),(.l 166 (([]:List bc).map aB)),(.l 3 (([]:List Int).map (I))),(.l 81 (([]:List Label).map ah)),(.l 81 (([]:List Label).map ah)),(.l 83 (([]:List Var).map aW)),(.l 101 (([]:List Func).map aS)),(.l 92 (([]:List Stmt).map ay))]),(3,[(I a0.aa.Many),(.l 166 ((([]:List bc)++a0.aa.Grants).map aB)),(.l 3 ((([]:List Int)++a0.Speak).map (I))),(.o 81 (x5.2.2.map ah)),(.o 81 (x7.2.2.map ah)),(.o 83 (x9.2.2.map aW)),(.o 101 (x.2.2.map aS)),(.l 92 (r3.map ay))])],H0⟩)
theorem AH(r3:(List Stmt))(x5:(Nat×Bool×(List Label)))(x7:(Nat×Bool×(List Label)))(x9:(Nat×Bool×(List Var)))(v3_7:Nat)(v3_3_6:(List Func))(o:(Nat×(List Func))⊕(Nat×Bool×(List Func)))(h:gi a0 r3 x5 x7 x9 v3_7 v3_3_6=some o):bB E0 Gx (qp a0 r3 x5 x7 x9) (qu a0 r3 x5 x7 x9) (v3_7,v3_3_6) o:=
 bL (bt<|ao (.i (a0.Funcs.length:Int))<|.or (gT<|ao (.n v3_7)<|.ex fun (y12:Func)=>ao (.v (.a (dB y12)))<|ew<|ao (.l (([]:List Int).map (I)))<|bt<|ao (.l ((([]:List Int)++y12.Params).map (I)))<|bt<|.ex fun (r15:(List Stmt))=>ao (.v (.l 92 (r15.map ay)))<|bt<|.ex fun (r17:ak)=>ao (.v (.a (dc r17)))<|ao (.l (([(⟨([]:List Int)++y12.Params,r15,r17⟩:Func)]).map aS))<|ew<|ao (.l ((v3_3_6++([(⟨([]:List Int)++y12.Params,r15,r17⟩:Func)])).map aS))<|gT<|ao (.i ((v3_7+1:Nat):Int))<|.nil) (bf<|.nil)) fun L=>ai (rfl:Z0)<|ai (aG aS a0.Funcs)<|bZ h (fun h11 h=>uA (decide_eq_true h11)<|ai (rI v3_7)<|bO h fun y12 h13 h=>ai (aU aS h13)<|ai tt<|jd<|dO<|bJ<|ai (rfl:Z0)<|ai tt<|ai (rfl:([]:List AV)=([]:List Int).map (I))<|Ab<|aR h fun h14 h=>ai ((fQ (I) (n:=1) (fun _=>rfl) y12.Params):(y12.Params.map (I)).all (fun e=>e.nc==1)=true)<|ai ((kE h14 (by decide)):((([]:List Int).map (I)).length+(y12.Params.map (I)).length)*8≤140737488355328)<|ai ((kG h14):(([]:List Int).map (I)).length+(y12.Params.map (I)).length≤maxLen)<|ai (List.map_append.symm:([]:List Int).map (I)++y12.Params.map (I)=(([]:List Int)++y12.Params).map (I))<|Ab<|aT h (vZ y12.Body) fun r15 h=>Ab<|aT h (sc y12.Result) fun r17 h=>bJ<|ai (rfl:[(.a [(.l 3 ((([]:List Int)++y12.Params).map (I))),(.l 92 (r15.map ay)),(I r17.Kind),(I r17.N),(.l 37 (r17.Args.map az))])]=([(⟨([]:List Int)++y12.Params,r15,r17⟩:Func)]).map aS)<|Ef<|aR h fun h19 h=>ai ((fQ aS (n:=5) (fun _=>rfl) ([(⟨([]:List Int)++y12.Params,r15,r17⟩:Func)])):(([(⟨([]:List Int)++y12.Params,r15,r17⟩:Func)]).map aS).all (fun e=>e.nc==5)=true)<|ai ((kE h19 (by decide)):((v3_3_6.map aS).length+(([(⟨([]:List Int)++y12.Params,r15,r17⟩:Func)]).map aS).length)*88≤140737488355328)<|ai ((kG h19):(v3_3_6.map aS).length+(([(⟨([]:List Int)++y12.Params,r15,r17⟩:Func)]).map aS).length≤maxLen)<|ai (List.map_append.symm:v3_3_6.map aS++([(⟨([]:List Int)++y12.Params,r15,r17⟩:Func)]).map aS=(v3_3_6++([(⟨([]:List Int)++y12.Params,r15,r17⟩:Func)])).map aS)<|jd<|ai (rfl:Z0)<|aR h fun w20 h=>ai w20<|L h) (fun h11 h=>ai (decide_eq_false h11)<|L h)
theorem AI(r3:(List Stmt))(x5:(Nat×Bool×(List Label)))(x7:(Nat×Bool×(List Label)))(x9:(Nat×Bool×(List Var)))(v:(Nat×(List Func)))(x:(Nat×Bool×(List Func)))(h:lp (fun v=>gi a0 r3 x5 x7 x9 v.1 v.2) v=some x):ju G Ω0 E0 Gx (qp a0 r3 x5 x7 x9 v)=some (qu a0 r3 x5 x7 x9 x):=
 xD Gx (qp a0 r3 x5 x7 x9) (qu a0 r3 x5 x7 x9) (fun _=>rfl) (fun v o h=>AH a0 r3 x5 x7 x9 v.1 v.2 o h) h
def lD:Option Program:=
 if ([]:List bc).length+a0.aa.Grants.length≤1000000000 then
  if ([]:List Int).length+a0.Speak.length≤1000000000 then
   (rb a0.Main).bind fun (r3:(List Stmt))=>
   (lp (fun v=>ga a0 r3 v.1 v.2) (0,([]:List Label))).bind fun (x5:(Nat×Bool×(List Label)))=>
   (lp (fun v=>gd a0 r3 x5 v.1 v.2) (0,([]:List Label))).bind fun (x7:(Nat×Bool×(List Label)))=>
   (lp (fun v=>gh a0 r3 x5 x7 v.1 v.2) (0,([]:List Var))).bind fun (x9:(Nat×Bool×(List Var)))=>
   (lp (fun v=>gi a0 r3 x5 x7 x9 v.1 v.2) (0,([]:List Func))).bind fun (x11:(Nat×Bool×(List Func)))=>
   some (⟨(⟨a0.aa.Many,([]:List bc)++a0.aa.Grants⟩:aa),([]:List Int)++a0.Speak,x5.2.2,x7.2.2,x9.2.2,x11.2.2,r3⟩:Program)
  else none
 else none
end
end
variable [Lp]
theorem rE{β ζ:Type}{B:Nat×List β→Option ((Nat×List β)⊕ζ)}(es:List β){z:ζ}(hs:∀ k (h:k<es.length),B (k,es.take k)=some (.inl (k+1,es.take k++[es[k]])))(he:B (es.length,es)=some (.inr z)):lp B (0,[])=some z:=by
 have:=vp (B:=B) es.length (fun k=>(k,es.take k)) (x:=z) (fun k hk=>by rw [hs k hk,tO hk]) (by simpa using he)
 simpa using this
theorem DP{β ζ:Type}{B:List β×Nat→Option ((List β×Nat)⊕ζ)}(es:List β){z:ζ}(hs:∀ k (h:k<es.length),B (es.take k,k)=some (.inl (es.take k++[es[k]],k+1)))(he:B (es,es.length)=some (.inr z)):lp B ([],0)=some z:=by
 have:=vp (B:=B) es.length (fun k=>(es.take k,k)) (x:=z) (fun k hk=>by rw [hs k hk,tO hk]) (by simpa using he)
 simpa using this
theorem PQ(s:Stmt):(⟨s.Kind,s.Var,s.Other,s.Expr,s.Args,s.Then,s.Else⟩:Stmt)=s:=by cases s;rfl
theorem RJ(n:Nat):∀ e:ak,sz e≤n→sz e≤1000→(mB n).f_R_CopyExpr e=some e:=by
 induction n with
 | zero=>intro e h;have:=Ac e;omega
 | succ n ih=>
  intro e h h1
  have hl:e.Args.length≤1000:=by have:=Eh e.Args;have:=Bc e;omega
  show q9 (mB n) e=_
  unfold q9
  rw [rE (B:=fun v=>mA (mB n) e v.1 v.2) e.Args (fun k hk=>by
   have hz:=Dd hk
   unfold mA
   rw [if_pos (by simpa using hk),List.getElem?_eq_getElem hk,Option.bind_some,ih _ (by omega) (by omega),Option.bind_some,if_pos (by simp;omega),if_pos (lP (by omega))]) (by
   unfold mA
   rw [if_neg (by simp)])]
  cases e;rfl
theorem Cv{e:ak}(h:sz e≤1000):oM e=some e:=Ba (sz e) fun n hn=>RJ n e hn h
theorem Cw{p:Program}{e:ak}(h:cq p e=0):sz e≤15:=by
 unfold cq bg.cq at h
 split at h
 ·exact absurd h (by decide)
 ·omega
theorem RK{p:Program}{i:Int}{s:Stmt}(h:bg p i s=0):sz s.Expr≤15∧(∀ e∈s.Args,sz e≤15):=by
 unfold bg at h
 split at h
 ·exact absurd h (by decide)
 split at h
 ·exact absurd h (by decide)
 split at h
 ·exact absurd h (by decide)
 rename_i h3
 split at h
 ·exact absurd h (by decide)
 split at h
 ·rename_i h5;exact absurd h h5.2
 rename_i h5
 refine ⟨?_,fun e he=>Cw (kU h e he)⟩
 cases hE:fF s.Kind with
 | true=>
  refine Cw (p:=p) ?_
  exact Decidable.not_not.1 fun hn=>h5 ⟨hE,hn⟩
 | false=>
  have:s.Expr.Args.length=0:=Decidable.not_not.1 fun hn=>h3 (.inr (.inr (.inl ⟨hE,fun hh=>hn hh.2.2⟩)))
  have h0:s.Expr.Args=[]:=List.length_eq_zero_iff.1 this
  rw [Bc,h0];simp [qC]
theorem ZP{p:Program}(ho:zy p){i:Nat}(hi:i≤p.Funcs.length){s:Stmt}(h:bg p i s=0):s.Args.length≤4:=by
 by_cases hk:s.Kind=2
 ·obtain ⟨_,_,g3,g4,_⟩:=vd h
  obtain ⟨o1,o2⟩:=g3 (by simp [gv,hk])
  have o3:s.Other<i:=by simpa [fY,hk] using o2
  have o4:s.Other.toNat<p.Funcs.length:=by omega
  obtain ⟨f1,_⟩:=Bd (ho.fns _ o4)
  rw [g4 hk,tN,List.getElem?_eq_getElem o4];exact f1
 ·unfold bg at h
  split at h
  ·exact absurd h (by decide)
  split at h
  ·exact absurd h (by decide)
  split at h
  ·exact absurd h (by decide)
  ·rename_i h3
   rcases Nat.eq_zero_or_pos s.Args.length with hz | hz
   ·omega
   ·exact absurd (.inr (.inr (.inr (.inl ⟨hk,hz⟩)))) h3
section
variable {p:Program}(ho:zy p){i:Nat}(hi:i≤p.Funcs.length)
include ho hi
theorem RL(n:Nat):∀ l:List Stmt,lN l+1≤n→bK l≤50→cM (bg p i) l=0→(jh n).f_R_CopyStmts l=some l:=by
 induction n with
 | zero=>intro l h;omega
 | succ n ih=>
  intro l h hc he
  have hll:=kq l
  show pE (jh n) l=_
  unfold pE
  rw [DP (B:=fun v=>lC (jh n) l v.1 v.2) l (fun k hk=>by
   obtain ⟨e1,e2,e3⟩:=yM (vL he _ (List.getElem_mem hk))
   obtain ⟨z1,z2⟩:=RK e1
   have za:=ZP ho hi e1
   have hd:=Cg (List.getElem_mem hk)
   have hcm:=Cf (List.getElem_mem hk)
   have hcq:=xW l[k]
   have hdq:=MU l[k]
   unfold lC
   rw [if_pos (by simpa using hk),List.getElem?_eq_getElem hk,Option.bind_some,Cv (by omega),Option.bind_some,ih _ (by omega) (by omega) e2,Option.bind_some,ih _ (by omega) (by omega) e3,Option.bind_some]
   rw [rE (B:=fun v=>lB (jh n) l (l.take k) k l[k] l[k].Expr l[k].Then l[k].Else v.1 v.2) l[k].Args (fun j hj=>by
    unfold lB
    rw [if_pos (by simpa using hj),List.getElem?_eq_getElem hj,Option.bind_some,Cv (by have:=z2 _ (List.getElem_mem hj);omega),Option.bind_some,if_pos (by simp;omega),if_pos (lP (by omega))]) (by
    unfold lB
    rw [if_neg (by simp)])]
   rw [Option.bind_some,if_pos (by simp;omega),if_pos (lP (by omega))]
   exact congrArg (fun x=>some (Sum.inl (l.take k++[x],k+1))) (PQ l[k])) (by
   unfold lC
   rw [if_neg (by simp)])]
  rfl
theorem Ik{l:List Stmt}(hc:bK l≤50)(he:cM (bg p i) l=0):rb l=some l:=Ba (lN l+1) fun n hn=>RL ho hi n l hn hc he
end
theorem DQ{m:Int}{l:List aD}(h:qX m l=0):kx l=some l:=by
 obtain ⟨l4,lo⟩:=sL h
 unfold kx
 rw [DP (B:=fun v=>iL l v.1 v.2) l (fun k hk=>by
  have:=(yL (lo _ (List.getElem_mem hk))).2.1
  unfold iL
  rw [if_pos (by simpa using hk),List.getElem?_eq_getElem hk,Option.bind_some,if_pos (by simp;omega),if_pos (by simp;omega),if_pos (lP (by omega))]
  rfl) (by
  unfold iL
  rw [if_neg (by simp)])]
 rfl
theorem yZ{m:Int}{l:Label}(h:fB m l=0):kW l=some l:=by
 obtain ⟨h1,h2⟩:=sM h
 unfold kW
 rw [DQ h1,Option.bind_some,DQ h2];rfl
theorem RM{p:Program}(h:pV p)(ho:zy p):lD p=some p:=by
 have hg:=(rB h.eG).2.2.1
 have hm:=sP h.eG
 have hs:p.Speak.length≤6:=by have:=h.few;omega
 have h16:=ho.vars
 have hi5:=ho.ins
 have ho5:=ho.outs
 have hf5:=ho.funcs
 unfold lD
 rw [if_pos (by simp;omega),if_pos (by simp;omega),Ik ho (Nat.le_refl _) ho.main.1 ho.mains,Option.bind_some]
 rw [rE (B:=fun v=>ga p p.Main v.1 v.2) p.Ins (fun k hk=>by
  unfold ga
  rw [if_pos (by simpa using hk),List.getElem?_eq_getElem hk,Option.bind_some,yZ (h.ins _ (List.getElem_mem hk)),Option.bind_some,if_pos (by simp;omega),if_pos (lP (by omega))]) (by
  unfold ga
  rw [if_neg (by simp)]),Option.bind_some]
 rw [rE (B:=fun v=>gd p p.Main _ v.1 v.2) p.Outs (fun k hk=>by
  unfold gd
  rw [if_pos (by simpa using hk),List.getElem?_eq_getElem hk,Option.bind_some,yZ (h.outs _ (List.getElem_mem hk)),Option.bind_some,if_pos (by simp;omega),if_pos (lP (by omega))]) (by
  unfold gd
  rw [if_neg (by simp)]),Option.bind_some]
 rw [rE (B:=fun v=>gh p p.Main _ _ v.1 v.2) p.Vars (fun k hk=>by
  unfold gh
  rw [if_pos (by simpa using hk),List.getElem?_eq_getElem hk,Option.bind_some,yZ (h.vars _ (List.getElem_mem hk)),Option.bind_some,if_pos (by simp;omega),if_pos (lP (by omega))]) (by
  unfold gh
  rw [if_neg (by simp)]),Option.bind_some]
 rw [rE (B:=fun v=>gi p p.Main _ _ _ v.1 v.2) p.Funcs (fun k hk=>by
  obtain ⟨f1,_,f3,f4⟩:=Bd (ho.fns k hk)
  unfold gi
  rw [if_pos (by simpa using hk),List.getElem?_eq_getElem hk,Option.bind_some,if_pos (by simp;omega),Ik ho (by omega) (ho.few _ (List.getElem_mem hk)).1 f3,Option.bind_some,Cv (by have:=Cw f4;omega),Option.bind_some,if_pos (by simp;omega),if_pos (lP (by omega))]
  rfl) (by
  unfold gi
  rw [if_neg (by simp)]),Option.bind_some]
 rfl
end Go.Proofs.YtkkkkondjclcnaaGreat.A
