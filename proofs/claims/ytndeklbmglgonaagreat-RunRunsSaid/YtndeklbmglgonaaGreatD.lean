/- Functions of the program as plain functions, by program. -/
import Derived.Test.YtndeklbmglgonaaGreatTypes
import Derived.Test.YtndeklbmglgonaaGreatLift
import Derived.Test.YtndeklbmglgonaaGreatC
set_option maxRecDepth 100000
set_option linter.unusedSectionVars false
set_option linter.unusedVariables false
set_option linter.unusedSimpArgs false
set_option linter.constructorNameAsVariable false
namespace Go.Proofs.YtndeklbmglgonaaGreat.A
open Go
noncomputable section
variable [Lp]
section
variable (a0:an)
def nJ(v0_4:Nat)(v0_3_0:(List Bool))(v0_3_1:(List Bool)):Option ((Nat×(List Bool)×(List Bool))⊕(Nat×Bool×(List Bool)×(List Bool))):=
 if (v0_4:Int)<a0.Many then
  if v0_3_0.length + [true].length≤1000000000 then
   if v0_3_1.length + [false].length≤1000000000 then
    if IntKind.i64.wrap ((v0_4:Int)+1)=((v0_4+1:Nat):Int) then
     some (.inl (v0_4+1,v0_3_0++[true],v0_3_1++[false]))
    else none
   else none
  else none
 else
  some (.inr (v0_4,decide ((v0_4:Int)<a0.Many),v0_3_0,v0_3_1))
abbrev D2(v:(Nat×(List Bool)×(List Bool))):St:=⟨[(1,(.p ⟨0,1⟩ 0)),(2,(.p ⟨0,2⟩ 0)),(3,(.p ⟨0,3⟩ 0)),(4,(I (v.1:Int)))],[(1,[(I a0.Many),(.l 115 (a0.Grants.map aF))]),(2,[(.l 4 (([]:List Bool).map AV.b)),(.l 4 (([]:List Bool).map AV.b))]),(3,[(.o 4 (v.2.1.map AV.b)),(.o 4 (v.2.2.map AV.b))])],H0⟩
abbrev D3(x:(Nat×Bool×(List Bool)×(List Bool))):aJ×St:=((.ex 0),⟨[(1,(.p ⟨0,1⟩ 0)),(2,(.p ⟨0,2⟩ 0)),(3,(.p ⟨0,3⟩ 0)),(4,(I (x.1:Int))),(8,(.b x.2.1))],[(1,[(I a0.Many),(.l 115 (a0.Grants.map aF))]),(2,[(.l 4 (([]:List Bool).map AV.b)),(.l 4 (([]:List Bool).map AV.b))]),(3,[(.o 4 (x.2.2.1.map AV.b)),(.o 4 (x.2.2.2.map AV.b))])],H0⟩)
theorem CV(v0_4:Nat)(v0_3_0:(List Bool))(v0_3_1:(List Bool))(o:(Nat×(List Bool)×(List Bool))⊕(Nat×Bool×(List Bool)×(List Bool)))(h:nJ a0 v0_4 v0_3_0 v0_3_1=some o):bu E0 Lx (D2 a0) (D3 a0) (v0_4,v0_3_0,v0_3_1) o:=
 bD (bt<|.or (b5<|ao (.l ([true].map AV.b))<|cR<|ao (.l ((v0_3_0++[true]).map AV.b))<|cR<|ao (.l ([false].map AV.b))<|cR<|ao (.l ((v0_3_1++[false]).map AV.b))<|b5<|ao (.i ((v0_4+1:Nat):Int))<|.nil) (bf<|.nil)) fun L=>ai (rfl:Z0)<|bB h (fun h1 h=>jr (decide_eq_true h1)<|ai (rfl:[(.b true)]=[true].map AV.b)<|ai ff<|ai (rfl:Z0)<|ai (rfl:Z0)<|ai (rfl:Z0)<|aA h fun h2 h=>ai ((dR AV.b (n:=1) (fun _=>rfl) [true]):([true].map AV.b).all (fun e=>e.nc==1)=true)<|ai ((fl h2 (by decide)):((v0_3_0.map AV.b).length+([true].map AV.b).length)*1≤140737488355328)<|ai ((fm h2):(v0_3_0.map AV.b).length+([true].map AV.b).length≤maxLen)<|ai (List.map_append.symm:v0_3_0.map AV.b++[true].map AV.b=(v0_3_0++[true]).map AV.b)<|ai ff<|ai (rfl:Z0)<|ai (rfl:Z0)<|ai (rfl:Z0)<|ai (rfl:[(.b false)]=[false].map AV.b)<|ai ff<|ai (rfl:Z0)<|ai (rfl:Z0)<|ai (rfl:Z0)<|aA h fun h3 h=>ai ((dR AV.b (n:=1) (fun _=>rfl) [false]):([false].map AV.b).all (fun e=>e.nc==1)=true)<|ai ((fl h3 (by decide)):((v0_3_1.map AV.b).length+([false].map AV.b).length)*1≤140737488355328)<|ai ((fm h3):(v0_3_1.map AV.b).length+([false].map AV.b).length≤maxLen)<|ai (List.map_append.symm:v0_3_1.map AV.b++[false].map AV.b=(v0_3_1++[false]).map AV.b)<|ai ff<|ai (rfl:Z0)<|ai (rfl:Z0)<|aA h fun w4 h=>ai w4<|L h) (fun h1 h=>ai (decide_eq_false h1)<|L h)
abbrev Gj(a0:an)(r:Level):bh×HP:=(.ret (.a [(.l 4 (r.Readers.map AV.b)),(.l 4 (r.Writers.map AV.b))]),H0)
def mT:Option Level:=
 (lp (fun v=>nJ a0 v.1 v.2.1 v.2.2) (0,([]:List Bool),([]:List Bool))).bind fun (x1:(Nat×Bool×(List Bool)×(List Bool)))=>
 some (⟨x1.2.2.1,x1.2.2.2⟩:Level)
theorem tZ(r:Level)(h:mT a0=some r):call G Ω0 E0 15 [(.a [(I a0.Many),(.l 115 (a0.Grants.map aF))])] H0=some (Gj a0 r):=
 aO G15 (jt<|.ex fun (x1:(Nat×Bool×(List Bool)×(List Bool)))=>ao (.lp (.ex 0) ⟨[(1,(.p ⟨0,1⟩ 0)),(2,(.p ⟨0,2⟩ 0)),(3,(.p ⟨0,3⟩ 0)),(4,(I (x1.1:Int))),(8,(.b x1.2.1))],[(1,[(I a0.Many),(.l 115 (a0.Grants.map aF))]),(2,[(.l 4 (([]:List Bool).map AV.b)),(.l 4 (([]:List Bool).map AV.b))]),(3,[(.o 4 (x1.2.2.1.map AV.b)),(.o 4 (x1.2.2.2.map AV.b))])],H0⟩)<|AI<|.nil) fun L=>ai tt<|ai tt<|ai tt<|ai ff<|ai (rfl:Z0)<|ai (rfl:Z0)<|ai ff<|ai (rfl:Z0)<|ai (rfl:Z0)<|aB h (cV (fun v=>CV a0 v.1 v.2.1 v.2.2) (0,([]:List Bool),([]:List Bool))) fun x1 h=>ai ff<|ai (rfl:Z0)<|ai (rfl:Z0)<|ai ff<|ai (rfl:Z0)<|ai (rfl:Z0)<|ai (rfl:Z0)<|ai ff<|ai (rfl:Z0)<|ai tt<|ai (rfl:Z0)<|ai (rfl:Z0)<|L h
end
section
variable (a0:(List Stmt))
abbrev JM(a0:(List Stmt))(r:Int):bh×HP:=(.ret (I r),H0)
abbrev yF(r:Int):Prop:=call G Ω0 E0 39 [(.l 65 (a0.map au))] H0=some (JM a0 r)
end
structure yG where
 f_R_Count:(List Stmt)→Option Int
structure v7(R:yG):Prop where
 f_R_Count:∀ (a0:(List Stmt))(r:Int),R.f_R_Count a0=some r→yF a0 r
section
variable (R:yG)(a0:(List Stmt))
def qM(v0_3:Int)(v0_4:Nat):Option ((Int×Nat)⊕(Int×Nat×Bool)):=
 if (v0_4:Int)<(a0.length:Int) then
  (a0[v0_4]?).bind fun (y2:Stmt)=>
  (R.f_R_Count y2.Then).bind fun (r4:Int)=>
  if IntKind.i64.wrap (1+r4)=1+r4 then
   (R.f_R_Count y2.Else).bind fun (r7:Int)=>
   if IntKind.i64.wrap ((1+r4)+r7)=(1+r4)+r7 then
    if IntKind.i64.wrap (v0_3+((1+r4)+r7))=v0_3+((1+r4)+r7) then
     if IntKind.i64.wrap ((v0_4:Int)+1)=((v0_4+1:Nat):Int) then
      some (.inl (v0_3+((1+r4)+r7),v0_4+1))
     else none
    else none
   else none
  else none
 else
  some (.inr (v0_3,v0_4,decide ((v0_4:Int)<(a0.length:Int))))
abbrev Hp(v:(Int×Nat)):St:=⟨[(0,(.l 65 (a0.map au))),(3,(I v.1)),(4,(I (v.2:Int)))],[],H0⟩
abbrev Hq(x:(Int×Nat×Bool)):aJ×St:=((.ex 0),⟨[(0,(.l 65 (a0.map au))),(3,(I x.1)),(4,(I (x.2.1:Int))),(8,(.b x.2.2))],[],H0⟩)
theorem Gk(hR:v7 R)(a0:(List Stmt))(v0_3:Int)(v0_4:Nat)(o:(Int×Nat)⊕(Int×Nat×Bool))(h:qM R a0 v0_3 v0_4=some o):bu E0 LU (Hp a0) (Hq a0) (v0_3,v0_4) o:=
 bD (ao (.i (a0.length:Int))<|.or (bt<|ao (.n v0_4)<|.ex fun (y2:Stmt)=>ao (.v (.a (af y2)))<|xI fun r4=>ao (.i (1+r4))<|ao (.n v0_4)<|ao (.v (.a (af y2)))<|xI fun r7=>ao (.i ((1+r4)+r7))<|ao (.i (v0_3+((1+r4)+r7)))<|ao (.i ((v0_4+1:Nat):Int))<|.nil) (bf<|.nil)) fun L=>ai (ax au a0)<|bB h (fun h1 h=>Ds (decide_eq_true h1)<|ai (rI v0_4)<|ba h fun y2 h3 h=>ai (cF au h3 (ea _))<|gG<|aB h (hR.f_R_Count y2.Then) fun r4 h=>ai tt<|aA h fun w6 h=>ai w6<|gG<|ai (rI v0_4)<|ai (cF au h3 (ea _))<|gG<|aB h (hR.f_R_Count y2.Else) fun r7 h=>ai tt<|aA h fun w9 h=>ai w9<|ai tt<|aA h fun w10 h=>ai w10<|aA h fun w11 h=>ai w11<|L h) (fun h1 h=>ai (decide_eq_false h1)<|L h)
def sm:Option Int:=
 (lp (fun v=>qM R a0 v.1 v.2) (0,0)).bind fun (x1:(Int×Nat×Bool))=>
 some x1.1
theorem E5(hR:v7 R)(a0:(List Stmt))(r:Int)(h:sm R a0=some r):yF a0 r:=
 aO G39 (.ex fun (x1:(Int×Nat×Bool))=>ao (.lp (.ex 0) ⟨[(0,(.l 65 (a0.map au))),(3,(I x1.1)),(4,(I (x1.2.1:Int))),(8,(.b x1.2.2))],[],H0⟩)<|.nil) fun L=>aB h (cV (fun v=>Gk R hR a0 v.1 v.2) (0,0)) fun x1 h=>L h
def ph:Nat→yG
 | 0=>⟨fun z0=>none⟩
 | n+1=>⟨sm (ph n)⟩
theorem CW:∀ n,v7 (ph n)
 | 0=>⟨fun _ r h=>(by cases h)⟩
 | n+1=>⟨fun a0 r h=>E5 _ (CW n) a0 r h⟩
def pj:Option Int:=ev fun n=>(ph n).f_R_Count a0
theorem pR(r:Int)(h:pj a0=some r):yF a0 r:=by
 obtain ⟨n,hn⟩:=iO h
 exact (CW n).f_R_Count a0 r hn
end
section
variable (a0:Program)(a1:Int)
def oU(v0_5:Int)(v0_6:Nat):Option ((Int×Nat)⊕(Int×Nat×Bool)):=
 if (v0_6:Int)<a1 then
  (a0.Funcs[v0_6]?).bind fun (y2:Func)=>
  (pj y2.Body).bind fun (r4:Int)=>
  if IntKind.i64.wrap (v0_5+r4)=v0_5+r4 then
   if IntKind.i64.wrap ((v0_6:Int)+1)=((v0_6+1:Nat):Int) then
    some (.inl (v0_5+r4,v0_6+1))
   else none
  else none
 else
  some (.inr (v0_5,v0_6,decide ((v0_6:Int)<a1)))
abbrev E6(v:(Int×Nat)):St:=⟨[(1,(I a1)),(2,(.p ⟨0,2⟩ 0)),(5,(I v.1)),(6,(I (v.2:Int)))],[(2,(ah a0))],H0⟩
abbrev E7(x:(Int×Nat×Bool)):aJ×St:=((.ex 0),⟨[(1,(I a1)),(2,(.p ⟨0,2⟩ 0)),(5,(I x.1)),(6,(I (x.2.1:Int))),(9,(.b x.2.2))],[(2,(ah a0))],H0⟩)
theorem D4(v0_5:Int)(v0_6:Nat)(o:(Int×Nat)⊕(Int×Nat×Bool))(h:oU a0 a1 v0_5 v0_6=some o):bu E0 LA (E6 a0 a1) (E7 a0 a1) (v0_5,v0_6) o:=
 bD (.or (b5<|ao (.n v0_6)<|.ex fun (y2:Func)=>ao (.v (.a (bL y2)))<|xI fun r4=>ao (.i (v0_5+r4))<|ao (.i ((v0_6+1:Nat):Int))<|.nil) (bf<|.nil)) fun L=>bB h (fun h1 h=>jr (decide_eq_true h1)<|ai (rI v0_6)<|ba h fun y2 h3 h=>ai (ay bc h3)<|aB h (pR y2.Body) fun r4 h=>aA h fun w6 h=>ai w6<|aA h fun w7 h=>ai w7<|L h) (fun h1 h=>ai (decide_eq_false h1)<|L h)
abbrev Hr(a0:Program)(a1:Int)(r:Int):bh×HP:=(.ret (I r),H0)
def lH:Option Int:=
 (lp (fun v=>oU a0 a1 v.1 v.2) (0,0)).bind fun (x1:(Int×Nat×Bool))=>
 some x1.1
theorem vc(r:Int)(h:lH a0 a1=some r):call G Ω0 E0 17 [(.a (ah a0)),(I a1)] H0=some (Hr a0 a1 r):=
 aO G17 (.ex fun (x1:(Int×Nat×Bool))=>ao (.lp (.ex 0) ⟨[(1,(I a1)),(2,(.p ⟨0,2⟩ 0)),(5,(I x1.1)),(6,(I (x1.2.1:Int))),(9,(.b x1.2.2))],[(2,(ah a0))],H0⟩)<|.nil) fun L=>ai tt<|aB h (cV (fun v=>D4 a0 a1 v.1 v.2) (0,0)) fun x1 h=>L h
end
section
variable (c0:Machine)(a0:(List Stmt))(dp:Nat)(hp:HP)(k0:Key)(a1:Int)
def jW(c0:Machine)(a0:(List Stmt))(v0_2:Int)(v0_6:(List Task))(v0_7:Nat):Option ((Int×(List Task)×Nat)⊕(Int×(List Task)×Nat×Bool)):=
 if (v0_7:Int)<(a0.length:Int) then
  (a0[v0_7]?).bind fun (y2:Stmt)=>
  if v0_6.length+([(⟨0,v0_2,y2,0⟩:Task)]).length≤1000000000 then
   (pj y2.Then).bind fun (r5:Int)=>
   if IntKind.i64.wrap (1+r5)=1+r5 then
    (pj y2.Else).bind fun (r8:Int)=>
    if IntKind.i64.wrap ((1+r5)+r8)=(1+r5)+r8 then
     if IntKind.i64.wrap (v0_2+((1+r5)+r8))=v0_2+((1+r5)+r8) then
      if IntKind.i64.wrap ((v0_7:Int)+1)=((v0_7+1:Nat):Int) then
       some (.inl (v0_2+((1+r5)+r8),v0_6++([(⟨0,v0_2,y2,0⟩:Task)]),v0_7+1))
      else none
     else none
    else none
   else none
  else none
 else
  some (.inr (v0_2,v0_6,v0_7,decide ((v0_7:Int)<(a0.length:Int))))
abbrev yH(dp:Nat)(hp:HP)(k0:Key)(c0:Machine)(a0:(List Stmt))(v:(Int×(List Task)×Nat)):St:=⟨[(0,(.p k0 0)),(1,(.l 65 (a0.map au))),(2,(I v.1)),(6,(.o 67 (v.2.1.map az))),(7,(I (v.2.2:Int)))],[],ad hp k0 ((ab c0).set 17 (.b false))⟩
abbrev yI(dp:Nat)(hp:HP)(k0:Key)(c0:Machine)(a0:(List Stmt))(x:(Int×(List Task)×Nat×Bool)):aJ×St:=((.ex 0),⟨[(0,(.p k0 0)),(1,(.l 65 (a0.map au))),(2,(I x.1)),(6,(.o 67 (x.2.1.map az))),(7,(I (x.2.2.1:Int))),(12,(.b x.2.2.2))],[],ad hp k0 ((ab c0).set 17 (.b false))⟩)
theorem xi(hk_k0:k0.dp<dp)(hz:bm dp hp)(c0:Machine)(a0:(List Stmt))(v0_2:Int)(v0_6:(List Task))(v0_7:Nat)(o:(Int×(List Task)×Nat)⊕(Int×(List Task)×Nat×Bool))(h:jW c0 a0 v0_2 v0_6 v0_7=some o):bu ⟨dp,false⟩ Ly (yH dp hp k0 c0 a0) (yI dp hp k0 c0 a0) (v0_2,v0_6,v0_7) o:=
 bD (ao (.i (a0.length:Int))<|.or (bt<|ao (.n v0_7)<|.ex fun (y2:Stmt)=>ao (.v (.a (af y2)))<|ao (.l (([(⟨0,v0_2,y2,0⟩:Task)]).map az))<|ao (.l ((v0_6++([(⟨0,v0_2,y2,0⟩:Task)])).map az))<|ao (.n v0_7)<|ao (.v (.a (af y2)))<|xI fun r5=>ao (.i (1+r5))<|ao (.n v0_7)<|ao (.v (.a (af y2)))<|xI fun r8=>ao (.i ((1+r5)+r8))<|ao (.i (v0_2+((1+r5)+r8)))<|ao (.i ((v0_7+1:Nat):Int))<|.nil) (bf<|.nil)) fun L=>ai (ax au a0)<|bB h (fun h1 h=>ai (decide_eq_true h1)<|ai (rI v0_7)<|ba h fun y2 h3 h=>ai (cF au h3 (ea _))<|ai (rfl:[(.a [(I 0),(I v0_2),(I y2.Kind),(I y2.Var),(I y2.Other),(I y2.Expr.Kind),(I y2.Expr.N),(.l 63 (y2.Expr.Args.map aD)),(.l 63 (y2.Args.map aD)),(.l 65 (y2.Then.map au)),(.l 65 (y2.Else.map au)),(I 0)])]=([(⟨0,v0_2,y2,0⟩:Task)]).map az)<|ai ff<|aA h fun h4 h=>ai ((dR az (n:=12) (fun _=>rfl) ([(⟨0,v0_2,y2,0⟩:Task)])):(([(⟨0,v0_2,y2,0⟩:Task)]).map az).all (fun e=>e.nc==12)=true)<|ai ((fl h4 (by decide)):((v0_6.map az).length+(([(⟨0,v0_2,y2,0⟩:Task)]).map az).length)*160≤140737488355328)<|ai ((fm h4):(v0_6.map az).length+(([(⟨0,v0_2,y2,0⟩:Task)]).map az).length≤maxLen)<|ai (List.map_append.symm:v0_6.map az++([(⟨0,v0_2,y2,0⟩:Task)]).map az=(v0_6++([(⟨0,v0_2,y2,0⟩:Task)])).map az)<|pD<|ai (rI v0_7)<|ai (cF au h3 (ea _))<|gG<|aB h (pR y2.Then) fun r5 h=>ai tt<|aA h fun w7 h=>ai w7<|gG<|ai (rI v0_7)<|ai (cF au h3 (ea _))<|gG<|aB h (pR y2.Else) fun r8 h=>ai tt<|aA h fun w10 h=>ai w10<|ai tt<|aA h fun w11 h=>ai w11<|aA h fun w12 h=>ai w12<|L h) (fun h1 h=>ai (decide_eq_false h1)<|L h)
def jX(c0:Machine)(x1:(Int×(List Task)×Nat×Bool))(v1_8:Int)(v1_k0_16:(List Task)):Option ((Int×(List Task))⊕(Int×Bool×(List Task))):=
 if 0≤v1_8 then
  (dU v1_8).bind fun (j5:Nat)=>
  (x1.2.1[j5]?).bind fun (y7:Task)=>
  if v1_k0_16.length + [y7].length≤1000000000 then
   if IntKind.i64.wrap (v1_8 - 1)=v1_8 - 1 then
    some (.inl (v1_8 - 1,v1_k0_16++[y7]))
   else none
  else none
 else
  some (.inr (v1_8,decide (0≤v1_8),v1_k0_16))
abbrev yJ(dp:Nat)(hp:HP)(k0:Key)(c0:Machine)(x1:(Int×(List Task)×Nat×Bool))(v:(Int×(List Task))):St:=⟨[(0,(.p k0 0)),(6,(.o 67 (x1.2.1.map az))),(8,(I v.1))],[],ad hp k0 (((aj c0).set 16 (.o 67 (v.2.map az))).set 17 (.b false))⟩
abbrev yK(dp:Nat)(hp:HP)(k0:Key)(c0:Machine)(x1:(Int×(List Task)×Nat×Bool))(x:(Int×Bool×(List Task))):aJ×St:=((.ex 2),⟨[(0,(.p k0 0)),(6,(.o 67 (x1.2.1.map az))),(8,(I x.1)),(44,(.b x.2.1))],[],ad hp k0 (((aj c0).set 16 (.o 67 (x.2.2.map az))).set 17 (.b false))⟩)
theorem xj(hk_k0:k0.dp<dp)(hz:bm dp hp)(c0:Machine)(x1:(Int×(List Task)×Nat×Bool))(v1_8:Int)(v1_k0_16:(List Task))(o:(Int×(List Task))⊕(Int×Bool×(List Task)))(h:jX c0 x1 v1_8 v1_k0_16=some o):bu ⟨dp,false⟩ Lz (yJ dp hp k0 c0 x1) (yK dp hp k0 c0 x1) (v1_8,v1_k0_16) o:=
 bD (.or (fF<|ao (.l (((aj c0).set 16 (.o 67 (v1_k0_16.map az))).set 17 (.b false)))<|xN fun j5=>.ex fun (y7:Task)=>ao (.v (.a (aS y7)))<|ao (.v (.a (aS y7)))<|ao (.l ([y7].map az))<|bf<|ao (.l (((aj c0).set 16 (.o 67 (v1_k0_16.map az))).set 17 (.b false)))<|bf<|ao (.l (((aj c0).set 16 (.o 67 (v1_k0_16.map az))).set 17 (.b false)))<|bf<|ao (.h (ad hp k0 (((aj c0).set 16 .u).set 17 (.b false))))<|ao (.l ((v1_k0_16++[y7]).map az))<|bf<|ao (.l (((aj c0).set 16 .u).set 17 (.b false)))<|bf<|ao (.h (ad hp k0 (((aj c0).set 16 (.o 67 ((v1_k0_16++[y7]).map az))).set 17 (.b false))))<|ao (.i (v1_8 - 1))<|.nil) (bf<|.nil)) fun L=>bB h (fun h4 h=>ai (decide_eq_true h4)<|ai ((by simp [cJ,aP,AV.aQ,AV.aN,AV.bI,aG hk_k0]):(([56,57]:List Nat).all (cJ dp (⟨[(0,(.p k0 0)),(6,(.o 67 (x1.2.1.map az))),(8,(I v1_8))],[],H0⟩:St))&&true)=true)<|ai (fE hk_k0 [56,57])<|ai (fE hk_k0 [56,57])<|ai (fE hk_k0 [56,57])<|ai ((by simp [aR,okB,bY,AV.aQ,AV.aN,AV.bI,aG hk_k0]):(aR dp [56,57] (.p k0 16)&&okB dp [] (.p k0 16))=true)<|ai (Nat.ne_of_lt hk_k0)<|ai (aq hp k0 (((aj c0).set 16 (.o 67 (v1_k0_16.map az))).set 17 (.b false)))<|ai ((by simp [aR,okB,bY,AV.aQ,AV.aN,AV.bI,aG hk_k0]):(aR dp [56,57] (.r (.c k0 16))&&okB dp [] (.r (.c k0 16)))=true)<|cD<|fG h fun j5 h6 h=>ai h6<|ba h fun y7 h8 h=>ai (ay az h8)<|ai tt<|ai (ay az h8)<|ai tt<|ai (rfl:[(.a (aS y7))]=[y7].map az)<|kY<|ai (Nat.ne_of_lt hk_k0)<|ai (aq hp k0 (((aj c0).set 16 (.o 67 (v1_k0_16.map az))).set 17 (.b false)))<|ai (Nat.ne_of_lt hk_k0)<|ai (aq hp k0 (((aj c0).set 16 (.o 67 (v1_k0_16.map az))).set 17 (.b false)))<|ai (Nat.ne_of_lt hk_k0)<|ai (aV hp k0 (((aj c0).set 16 (.o 67 (v1_k0_16.map az))).set 17 (.b false)) (((aj c0).set 16 .u).set 17 (.b false)))<|aA h fun h9 h=>ai ((dR az (n:=12) (fun _=>rfl) [y7]):([y7].map az).all (fun e=>e.nc==12)=true)<|ai ((fl h9 (by decide)):((v1_k0_16.map az).length+([y7].map az).length)*160≤140737488355328)<|ai ((fm h9):(v1_k0_16.map az).length+([y7].map az).length≤maxLen)<|ai (List.map_append.symm:v1_k0_16.map az++[y7].map az=(v1_k0_16++[y7]).map az)<|kY<|ai (Nat.ne_of_lt hk_k0)<|ai (aq hp k0 (((aj c0).set 16 .u).set 17 (.b false)))<|ai (Nat.ne_of_lt hk_k0)<|ai (aV hp k0 (((aj c0).set 16 .u).set 17 (.b false)) (((aj c0).set 16 (.o 67 ((v1_k0_16++[y7]).map az))).set 17 (.b false)))<|aA h fun w10 h=>ai w10<|L h) (fun h4 h=>ai (decide_eq_false h4)<|L h)
abbrev Br(dp:Nat)(hp:HP)(k0:Key)(c0:Machine)(a0:(List Stmt))(a1:Int)(r:Machine):bh×HP:=(.ret (.tp []),ad hp k0 ((ab r).set 17 (.b false)))
def eo:Option Machine:=
 (lp (fun v=>jW c0 a0 v.1 v.2.1 v.2.2) (a1,([]:List Task),0)).bind fun (x1:(Int×(List Task)×Nat×Bool))=>
 if IntKind.i64.wrap ((x1.2.1.length:Int) - 1)=(x1.2.1.length:Int) - 1 then
  (lp (fun v=>jX c0 x1 v.1 v.2) (((x1.2.1.length:Int) - 1),c0.Tasks)).bind fun (x4:(Int×Bool×(List Task)))=>
  some (⟨c0.P,c0.Ins,c0.Fuel,c0.R,x4.2.2,(),c0.Levels,c0.Places⟩:Machine)
 else none
theorem fT(hk_k0:k0.dp<dp)(hz:bm dp hp)(c0:Machine)(a0:(List Stmt))(a1:Int)(r:Machine)(h:eo c0 a0 a1=some r):call G Ω0 ⟨dp,false⟩ 16 [(.p k0 0),(.l 65 (a0.map au)),(I a1)] (ad hp k0 ((ab c0).set 17 (.b false)))=some (Br dp hp k0 c0 a0 a1 r):=
 aO G16 (.ex fun (x1:(Int×(List Task)×Nat×Bool))=>ao (.lp (.ex 0) ⟨[(0,(.p k0 0)),(1,(.l 65 (a0.map au))),(2,(I x1.1)),(6,(.o 67 (x1.2.1.map az))),(7,(I (x1.2.2.1:Int))),(12,(.b x1.2.2.2))],[],ad hp k0 ((ab c0).set 17 (.b false))⟩)<|ao (.i (x1.2.1.length:Int))<|ao (.i ((x1.2.1.length:Int) - 1))<|.ex fun (x4:(Int×Bool×(List Task)))=>ao (.lp (.ex 2) ⟨[(0,(.p k0 0)),(6,(.o 67 (x1.2.1.map az))),(8,(I x4.1)),(44,(.b x4.2.1))],[],ad hp k0 (((aj c0).set 16 (.o 67 (x4.2.2.map az))).set 17 (.b false))⟩)<|.nil) fun L=>aB h (cV (fun v=>xi dp hp k0 hk_k0 hz c0 a0 v.1 v.2.1 v.2.2) (a1,([]:List Task),0)) fun x1 h=>ai (ax az x1.2.1)<|aA h fun w3 h=>ai w3<|aB h (cV (fun v=>xj dp hp k0 hk_k0 hz c0 x1 v.1 v.2) (((x1.2.1.length:Int) - 1),c0.Tasks)) fun x4 h=>L h
def qN(w0_1:Int):Option Int:=
 if 2147483647<w0_1 then
  if IntKind.i64.wrap (w0_1 - 4294967296)=w0_1 - 4294967296 then
   some (w0_1 - 4294967296)
  else none
 else
  some w0_1
abbrev Hs(w0_1:Int)(x:Int):aJ×St:=(.ret,⟨[(2,(I x))],[],H0⟩)
theorem yL(w0_1:Int)(x:Int)(h:qN w0_1=some x):run G Ω0 E0 L9 ⟨[(0,(I w0_1))],[],H0⟩=some (Hs w0_1 x):=
 ga (.or (bt<|ao (.i (w0_1 - 4294967296))<|.nil) (bf<|.nil)) fun L=>bB h (fun h3 h=>ai (decide_eq_true h3)<|aA h fun w4 h=>ai w4<|L h) (fun h3 h=>ai (decide_eq_false h3)<|L h)
end
section
variable (a0:Int)
abbrev KU(a0:Int)(r:Int):bh×HP:=(.ret (I r),H0)
def qx:Option Int:=
 if (a0.tmod 4294967296)<0 then
  if IntKind.i64.wrap ((a0.tmod 4294967296)+4294967296)=(a0.tmod 4294967296)+4294967296 then
   (qN ((a0.tmod 4294967296)+4294967296)).bind fun (x3:Int)=>
   some x3
  else none
 else
  (qN (a0.tmod 4294967296)).bind fun (x2:Int)=>
  some x2
theorem uA(r:Int)(h:qx a0=some r):call G Ω0 E0 70 [(I a0)] H0=some (KU a0 r):=
 aO G70 (ao (.i (a0.tmod 4294967296))<|.or (bt<|ao (.i ((a0.tmod 4294967296)+4294967296))<|.fb<|.ex fun (x3:Int)=>ao (.fr .ret ⟨[(2,(I x3))],[],H0⟩)<|.nil) (bf<|.fb<|.ex fun (x2:Int)=>ao (.fr .ret ⟨[(2,(I x2))],[],H0⟩)<|.nil)) fun L=>ai ((by decide):(4294967296:Int)≠0)<|ai (rfl:a0.tmod 4294967296=a0.tmod 4294967296)<|bB h (fun h1 h=>ai (decide_eq_true h1)<|aA h fun w2 h=>ai w2<|aB h (yL ((a0.tmod 4294967296)+4294967296)) fun x3 h=>L h) (fun h1 h=>ai (decide_eq_false h1)<|aB h (yL (a0.tmod 4294967296)) fun x2 h=>L h)
end
section
variable (a0:ag)(a1:(List Int))
abbrev Ht(a0:ag)(a1:(List Int))(r:Int):bh×HP:=(.ret (I r),H0)
abbrev uB(r:Int):Prop:=call G Ω0 E0 43 [(.a (bn a0)),(.l 3 (a1.map (I)))] H0=some (Ht a0 a1 r)
end
structure qO where
 f_R_ValueOf:ag→(List Int)→Option Int
structure te(R:qO):Prop where
 f_R_ValueOf:∀ (a0:ag)(a1:(List Int))(r:Int),R.f_R_ValueOf a0 a1=some r→uB a0 a1 r
section
variable (R:qO)(a0:ag)(a1:(List Int))
def D5:List cK:=(gF 52 0 2)::(gQ 53 52)::(gB 54 .eql 53 (kI 6))::(gM 55 54)::⟨some 56,.mv 5,some ⟨55,true⟩,false⟩::⟨some 57,.mv 6,some ⟨55,true⟩,false⟩::⟨some 58,.bo .lss false 56 57,some ⟨55,true⟩,false⟩::(gp 59 (.pk 55 58 (.c (.b false))))::(gM 60 59)::⟨some 61,.fa 0 2,some ⟨60,false⟩,false⟩::⟨some 62,.ld none 61,some ⟨60,false⟩,false⟩::⟨some 63,.bo .eql false 62 (kI 7),some ⟨60,false⟩,false⟩::⟨some 64,.mv 63,some ⟨60,false⟩,false⟩::⟨some 65,.mv 5,some ⟨64,true⟩,false⟩::⟨some 66,.mv 6,some ⟨64,true⟩,false⟩::⟨some 67,.bo .eql false 65 66,some ⟨64,true⟩,false⟩::⟨some 68,.pk 64 67 (.c (.b false)),some ⟨60,false⟩,false⟩::(gp 69 (.pk 60 (.c (.b true)) 68))::[]
def qy(R:qO)(a0:ag)(r5:Int)(r9:Int):Option Bool:=
 if (a0.Kind==6)=true then
  if r5<r9 then
   some true
  else
   if (a0.Kind==7)=true then
    some (r5==r9)
   else
    some false
 else
  if (a0.Kind==7)=true then
   some (r5==r9)
  else
   some false
abbrev D6(a0:ag)(r5:Int)(r9:Int)(x:Bool):St:=⟨[(69,(.b x))],[],H0⟩
theorem CX(hR:te R)(a0:ag)(r5:Int)(r9:Int)(x:Bool)(h:qy R a0 r5 r9=some x):ew G Ω0 E0 [69] [] D5 ⟨[(2,(.p ⟨0,2⟩ 0)),(5,(I r5)),(6,(I r9))],[(2,(bn a0))],H0⟩=some (D6 a0 r5 r9 x):=
 dj (bt<|.or (jt<|.or (Dt<|.nil) (js<|.or (FG<|.nil) (Aq<|.nil))) (bf<|bf<|bf<|bf<|bt<|bt<|bt<|bt<|bt<|.or (FG<|.nil) (Aq<|.nil))) fun L=>ai (rfl:Z0)<|aM h (fun h14 h=>FE h14<|bB h (fun h15 h=>Dq (decide_eq_true h15)<|L h) (fun h15 h=>IH (decide_eq_false h15)<|aM h (fun h16 h=>Ey h16<|ai (g0 (decide_eq_false h15))<|ai h16<|ai (decide_eq_false h15)<|L h) (fun h16 h=>Ey h16<|ai (g0 (decide_eq_false h15))<|ai h16<|ai (decide_eq_false h15)<|L h))) (fun h14 h=>ai (g1 h14)<|ai (g1 h14)<|ai (g1 h14)<|ai h14<|ai hf<|ai hf<|ai (rfl:Z0)<|ai hf<|ai hf<|aM h (fun h15 h=>HW h15<|L h) (fun h15 h=>HW h15<|L h))
def pS:Option Int:=
 if (a0.Kind==1)=true then
  some a0.N
 else
  if (a0.Kind==2)=true then
   (dU a0.N).bind fun (j3:Nat)=>
   (a1[j3]?).bind fun (y5:Int)=>
   some y5
  else
   (a0.Args[0]?).bind fun (y3:ag)=>
   (R.f_R_ValueOf y3 a1).bind fun (r5:Int)=>
   (a0.Args[1]?).bind fun (y7:ag)=>
   (R.f_R_ValueOf y7 a1).bind fun (r9:Int)=>
   if (a0.Kind==3)=true then
    if IntKind.i64.wrap (r5+r9)=r5+r9 then
     (qx (r5+r9)).bind fun (r13:Int)=>
     some r13
    else none
   else
    if (a0.Kind==4)=true then
     if IntKind.i64.wrap (r5 - r9)=r5 - r9 then
      (qx (r5 - r9)).bind fun (r14:Int)=>
      some r14
     else none
    else
     if (a0.Kind==5)=true then
      if IntKind.i64.wrap (r5*r9)=r5*r9 then
       (qx (r5*r9)).bind fun (r15:Int)=>
       some r15
      else none
     else
      (qy R a0 r5 r9).bind fun (x14:Bool)=>
      if x14=true then
       some 1
      else
       some 0
theorem CY(hR:te R)(a0:ag)(a1:(List Int))(r:Int)(h:pS R a0 a1=some r):uB a0 a1 r:=
 aO G43 (bt<|.or (b5<|.nil) (bf<|.or (b5<|xN fun j3=>xI fun y5=>.nil) (rT<|ao (.n 0)<|.ex fun (y3:ag)=>ao (.v (.a (bn y3)))<|xI fun r5=>bt<|ao (.n 1)<|.ex fun (y7:ag)=>ao (.v (.a (bn y7)))<|xI fun r9=>bt<|.or (bt<|ao (.i (r5+r9))<|xI fun r13=>.nil) (bf<|.or (bt<|ao (.i (r5 - r9))<|xI fun r14=>.nil) (bf<|.or (bt<|ao (.i (r5*r9))<|xI fun r15=>.nil) (bf<|.jb (some 52) 17<|.ex fun (x14:Bool)=>ao (.jn ⟨[(69,(.b x14))],[],H0⟩)<|oN (.nil))))))) fun L=>pC<|aM h (fun h1 h=>jr h1<|L h) (fun h1 h=>ai h1<|aM h (fun h2 h=>jr h2<|fG h fun j3 h4 h=>ai h4<|ba h fun y5 h6 h=>ai (ay (I) h6)<|L h) (fun h2 h=>ai h2<|ai tt<|ai tt<|ai (rfl:Z0)<|ai tt<|ai (rI 0)<|ba h fun y3 h4 h=>ai (cF aD h4 (dm _))<|gG<|aB h (hR.f_R_ValueOf y3 a1) fun r5 h=>ai tt<|ai tt<|ai (rfl:Z0)<|ai tt<|ai (rI 1)<|ba h fun y7 h8 h=>ai (cF aD h8 (dm _))<|gG<|aB h (hR.f_R_ValueOf y7 a1) fun r9 h=>ai (rfl:Z0)<|aM h (fun h11 h=>ai h11<|aA h fun w12 h=>ai w12<|aB h (uA (r5+r9)) fun r13 h=>L h) (fun h11 h=>ai h11<|aM h (fun h12 h=>ai h12<|aA h fun w13 h=>ai w13<|aB h (uA (r5 - r9)) fun r14 h=>L h) (fun h12 h=>ai h12<|aM h (fun h13 h=>ai h13<|aA h fun w14 h=>ai w14<|aB h (uA (r5*r9)) fun r15 h=>L h) (fun h13 h=>ai h13<|aB h (CX R hR a0 r5 r9) fun x14 h=>aM h (fun h16 h=>ai h16<|L h) (fun h16 h=>ai h16<|L h))))))
def oG:Nat→qO
 | 0=>⟨fun z0 z1=>none⟩
 | n+1=>⟨pS (oG n)⟩
theorem yM:∀ n,te (oG n)
 | 0=>⟨fun _ _ r h=>(by cases h)⟩
 | n+1=>⟨fun a0 a1 r h=>CY _ (yM n) a0 a1 r h⟩
def kq:Option Int:=ev fun n=>(oG n).f_R_ValueOf a0 a1
theorem nK(r:Int)(h:kq a0 a1=some r):uB a0 a1 r:=by
 obtain ⟨n,hn⟩:=iO h
 exact (yM n).f_R_ValueOf a0 a1 r hn
end
section
variable (dp:Nat)(hp:HP)(k0:Key)(c0:Machine)(a0:Task)
abbrev Bs(dp:Nat)(hp:HP)(k0:Key)(c0:Machine)(a0:Task)(r:Machine):bh×HP:=(.ret (.tp []),ad hp k0 ((ab r).set 17 (.b false)))
def ll:Option Machine:=
 (dU a0.S.Other).bind fun (j1:Nat)=>
 (c0.P.Funcs[j1]?).bind fun (y3:Func)=>
 (kq y3.Result c0.R.Vars).bind fun (r5:Int)=>
 (dU a0.S.Var).bind fun (j7:Nat)=>
 (c0.R.Vars[j7]?).bind fun (y9:Int)=>
 some (⟨c0.P,c0.Ins,c0.Fuel,(⟨c0.R.Events,c0.R.Vars.set j7 r5,c0.R.Taken,c0.R.Steps,c0.R.End,c0.R.Stop⟩:RunT),c0.Tasks,(),c0.Levels,c0.Places⟩:Machine)
theorem xk(hk_k0:k0.dp<dp)(hz:bm dp hp)(c0:Machine)(a0:Task)(r:Machine)(h:ll c0 a0=some r):call G Ω0 ⟨dp,false⟩ 18 [(.p k0 0),(.a (aS a0))] (ad hp k0 ((ab c0).set 17 (.b false)))=some (Bs dp hp k0 c0 a0 r):=
 aO G18 (bf<|ao (.l ((ab c0).set 17 (.b false)))<|bt<|xN fun j1=>.ex fun (y3:Func)=>ao (.v (.a (bL y3)))<|xK<|ao (.l ((ab c0).set 17 (.b false)))<|bf<|bf<|ao (.l ((ab c0).set 17 (.b false)))<|xK<|ao (.l ((ab c0).set 17 (.b false)))<|bf<|ao (.l ((ab c0).set 17 (.b false)))<|xI fun r5=>xN fun j7=>bf<|ao (.l ((ab c0).set 17 (.b false)))<|xI fun y9=>bf<|ao (.l ((ab c0).set 17 (.b false)))<|ao (.v (I y9))<|ao (.l ((c0.R.Vars.set j7 r5).map (I)))<|bf<|ao (.l ((ab c0).set 17 (.b false)))<|bf<|ao (.h (ad hp k0 (((aK c0).set 11 (.o 3 ((c0.R.Vars.set j7 r5).map (I)))).set 17 (.b false))))<|.nil) fun L=>ai ((by simp [aS,AV.aQ,AV.aN,AV.deep,AV.b6,aG hk_k0,Nat.le_of_lt hk_k0]):(((.a (aS a0)):AV).deep dp&&(([(0,(.p k0 0)),(1,(.a (aS a0)))]:List (Nat×AV)).all (fun y=>y.2.aQ ⟨dp,3⟩)&&([]:List (Nat×List AV)).all (fun y=>AV.aN ⟨dp,3⟩ y.2)))=true)<|ai ((by simp [aS,cJ,aP,AV.aQ,AV.aN,AV.bI,aG hk_k0]):(([4]:List Nat).all (cJ dp (⟨[(0,(.p k0 0)),(3,(.p ⟨dp,3⟩ 0))],[(3,(aS a0))],H0⟩:St))&&true)=true)<|ai (fE hk_k0 [4])<|ai (fE hk_k0 [4])<|ai (fE hk_k0 [4])<|ai ((by simp [aR,okB,bY,AV.aQ,AV.aN,AV.bI,aG hk_k0]):(aR dp [4] (.p k0 6)&&okB dp [] (.p k0 6))=true)<|ai (Nat.ne_of_lt hk_k0)<|ai (aq hp k0 ((ab c0).set 17 (.b false)))<|ai tt<|ai ((by simp [aR,okB,bY,AV.aQ,AV.aN,AV.bI,aG hk_k0]):(aR dp [4] (.p ⟨dp,3⟩ 2)&&okB dp [] (.p ⟨dp,3⟩ 2))=true)<|ai ((by simp [aR,okB,bY,AV.aQ,AV.aN,AV.bI,aG hk_k0]):(aR dp [4] (.p ⟨dp,3⟩ 4)&&okB dp [] (.p ⟨dp,3⟩ 4))=true)<|ai (rN dp)<|ai tt<|fG h fun j1 h2 h=>ai h2<|ba h fun y3 h4 h=>ai (ay bc h4)<|ai tt<|ai tt<|ai tt<|ai tt<|ai ff<|ai (rN dp)<|ai tt<|ai (rN dp)<|ai (Nat.ne_of_lt hk_k0)<|ai (aq hp k0 ((ab c0).set 17 (.b false)))<|ai ff<|ai tt<|ai tt<|ai tt<|ai tt<|ai tt<|ai (Nat.ne_of_lt hk_k0)<|ai (aq hp k0 ((ab c0).set 17 (.b false)))<|gG<|ai (rN dp)<|cD<|ai (rN dp)<|lK<|ai (Nat.ne_of_lt hk_k0)<|ai (aq hp k0 ((ab c0).set 17 (.b false)))<|ai tt<|ai (Nat.ne_of_lt hk_k0)<|ai (aq hp k0 ((ab c0).set 17 (.b false)))<|aB h (nK y3.Result c0.R.Vars) fun r5 h=>gG<|fG h fun j7 h8 h=>ai h8<|ai (Nat.ne_of_lt hk_k0)<|ai (aq hp k0 ((ab c0).set 17 (.b false)))<|ba h fun y9 h10 h=>ai (ay (I) h10)<|ai ff<|ai (Nat.ne_of_lt hk_k0)<|ai (aq hp k0 ((ab c0).set 17 (.b false)))<|ai (ay (I) h10)<|ai (map_set .. : (c0.R.Vars.map (I)).set j7 (I r5)=(c0.R.Vars.set j7 r5).map (I))<|ai (Nat.ne_of_lt hk_k0)<|ai (aq hp k0 ((ab c0).set 17 (.b false)))<|ai (Nat.ne_of_lt hk_k0)<|ai (aV hp k0 ((ab c0).set 17 (.b false)) (((aK c0).set 11 (.o 3 ((c0.R.Vars.set j7 r5).map (I)))).set 17 (.b false)))<|L h
def jY(y3:Func)(v0_5:(List Int))(v0_7:Nat):Option (((List Int)×Nat)⊕((List Int)×Nat×Bool)):=
 if (v0_7:Int)<(y3.Params.length:Int) then
  (a0.S.Args[v0_7]?).bind fun (y6:ag)=>
  (kq y6 c0.R.Vars).bind fun (r8:Int)=>
  if v0_5.length + [r8].length≤1000000000 then
   if IntKind.i64.wrap ((v0_7:Int)+1)=((v0_7+1:Nat):Int) then
    some (.inl (v0_5++[r8],v0_7+1))
   else none
  else none
 else
  some (.inr (v0_5,v0_7,decide ((v0_7:Int)<(y3.Params.length:Int))))
abbrev yN(y3:Func)(v:((List Int)×Nat)):St:=⟨[(0,(.p k0 0)),(3,(.p ⟨dp,3⟩ 0)),(4,(.p ⟨dp,4⟩ 0)),(5,(.o 3 (v.1.map (I)))),(6,(.o 57 (([]:List Level).map bk))),(7,(I (v.2:Int)))],[(3,(aS a0)),(4,(bL y3))],ad hp k0 ((ab c0).set 17 (.b false))⟩
abbrev yO(y3:Func)(x:((List Int)×Nat×Bool)):aJ×St:=((.ex 0),⟨[(0,(.p k0 0)),(3,(.p ⟨dp,3⟩ 0)),(4,(.p ⟨dp,4⟩ 0)),(5,(.o 3 (x.1.map (I)))),(6,(.o 57 (([]:List Level).map bk))),(7,(I (x.2.1:Int))),(23,(.b x.2.2))],[(3,(aS a0)),(4,(bL y3))],ad hp k0 ((ab c0).set 17 (.b false))⟩)
theorem xl(hk_k0:k0.dp<dp)(hz:bm dp hp)(c0:Machine)(a0:Task)(y3:Func)(v0_5:(List Int))(v0_7:Nat)(o:((List Int)×Nat)⊕((List Int)×Nat×Bool))(h:jY c0 a0 y3 v0_5 v0_7=some o):bu ⟨dp,false⟩ LV (yN dp hp k0 c0 a0 y3) (yO dp hp k0 c0 a0 y3) (v0_5,v0_7) o:=
 bD (bt<|ao (.i (y3.Params.length:Int))<|.or (b5<|ao (.n v0_7)<|.ex fun (y6:ag)=>ao (.v (.a (bn y6)))<|bf<|ao (.l ((ab c0).set 17 (.b false)))<|bf<|ao (.l ((ab c0).set 17 (.b false)))<|xI fun r8=>ao (.l ([r8].map (I)))<|ao (.l ((v0_5++[r8]).map (I)))<|bf<|ao (.l ((ab c0).set 17 (.b false)))<|bf<|ao (.i ((v0_7+1:Nat):Int))<|.nil) (bf<|.nil)) fun L=>ai (rN dp)<|ai (ax (I) y3.Params)<|bB h (fun h5 h=>ai (decide_eq_true h5)<|ai ((by simp [bL,aS,cJ,aP,AV.aQ,AV.aN,AV.bI,aG hk_k0]):(([39]:List Nat).all (cJ dp (⟨[(0,(.p k0 0)),(3,(.p ⟨dp,3⟩ 0)),(4,(.p ⟨dp,4⟩ 0)),(5,(.o 3 (v0_5.map (I)))),(6,(.o 57 (([]:List Level).map bk))),(7,(I (v0_7:Int)))],[(3,(aS a0)),(4,(bL y3))],H0⟩:St))&&true)=true)<|ai tt<|ai ((by simp [aR,okB,bY,AV.aQ,AV.aN,AV.bI,aG hk_k0]):(aR dp [39] (.p ⟨dp,3⟩ 2)&&okB dp [] (.p ⟨dp,3⟩ 2))=true)<|ai ((by simp [aR,okB,bY,AV.aQ,AV.aN,AV.bI,aG hk_k0]):(aR dp [39] (.p ⟨dp,3⟩ 8)&&okB dp [] (.p ⟨dp,3⟩ 8))=true)<|ai (rN dp)<|cD<|ai (rI v0_7)<|ba h fun y6 h7 h=>ai (cF aD h7 (dm _))<|cD<|ai (fE hk_k0 [39])<|ai (fE hk_k0 [39])<|ai ((by simp [aR,okB,bY,AV.aQ,AV.aN,AV.bI,aG hk_k0]):(aR dp [39] (.p k0 10)&&okB dp [] (.p k0 10))=true)<|ai ((by simp [aR,okB,bY,AV.aQ,AV.aN,AV.bI,aG hk_k0]):(aR dp [39] (.p k0 11)&&okB dp [] (.p k0 11))=true)<|ai (Nat.ne_of_lt hk_k0)<|ai (aq hp k0 ((ab c0).set 17 (.b false)))<|ai ((by simp [aR,okB,bY,AV.aQ,AV.aN,AV.bI,aG hk_k0]):(aR dp [39] (.r (.c k0 11))&&okB dp [] (.r (.c k0 11)))=true)<|ai (Nat.ne_of_lt hk_k0)<|ai (aq hp k0 ((ab c0).set 17 (.b false)))<|aB h (nK y6 c0.R.Vars) fun r8 h=>gG<|ai (rfl:[(I r8)]=[r8].map (I))<|kY<|aA h fun h10 h=>ai ((dR (I) (n:=1) (fun _=>rfl) [r8]):([r8].map (I)).all (fun e=>e.nc==1)=true)<|ai ((fl h10 (by decide)):((v0_5.map (I)).length+([r8].map (I)).length)*8≤140737488355328)<|ai ((fm h10):(v0_5.map (I)).length+([r8].map (I)).length≤maxLen)<|ai (List.map_append.symm:v0_5.map (I)++[r8].map (I)=(v0_5++[r8]).map (I))<|ai (Nat.ne_of_lt hk_k0)<|ai (aq hp k0 ((ab c0).set 17 (.b false)))<|ai ff<|aA h fun w11 h=>ai w11<|L h) (fun h5 h=>ai (decide_eq_false h5)<|L h)
def jZ(c0:Machine)(a0:Task)(y3:Func)(x5:((List Int)×Nat×Bool))(v1_8:Nat)(v1_k0_11:(List Int)):Option ((Nat×(List Int))⊕(Nat×Bool×(List Int))):=
 if (v1_8:Int)<(y3.Params.length:Int) then
  (y3.Params[v1_8]?).bind fun (y8:Int)=>
  (x5.1[v1_8]?).bind fun (y10:Int)=>
  (dU y8).bind fun (j12:Nat)=>
  (v1_k0_11[j12]?).bind fun (y14:Int)=>
  if IntKind.i64.wrap ((v1_8:Int)+1)=((v1_8+1:Nat):Int) then
   some (.inl (v1_8+1,v1_k0_11.set j12 y10))
  else none
 else
  some (.inr (v1_8,decide ((v1_8:Int)<(y3.Params.length:Int)),v1_k0_11))
abbrev yP(y3:Func)(x5:((List Int)×Nat×Bool))(v:(Nat×(List Int))):St:=⟨[(0,(.p k0 0)),(3,(.p ⟨dp,3⟩ 0)),(4,(.p ⟨dp,4⟩ 0)),(5,(.o 3 (x5.1.map (I)))),(6,(.o 57 (([]:List Level).map bk))),(8,(I (v.1:Int)))],[(3,(aS a0)),(4,(bL y3))],ad hp k0 (((aK c0).set 11 (.o 3 (v.2.map (I)))).set 17 (.b false))⟩
abbrev yQ(y3:Func)(x5:((List Int)×Nat×Bool))(x:(Nat×Bool×(List Int))):aJ×St:=((.ex 2),⟨[(0,(.p k0 0)),(3,(.p ⟨dp,3⟩ 0)),(4,(.p ⟨dp,4⟩ 0)),(5,(.o 3 (x5.1.map (I)))),(6,(.o 57 (([]:List Level).map bk))),(8,(I (x.1:Int))),(76,(.b x.2.1))],[(3,(aS a0)),(4,(bL y3))],ad hp k0 (((aK c0).set 11 (.o 3 (x.2.2.map (I)))).set 17 (.b false))⟩)
theorem xm(hk_k0:k0.dp<dp)(hz:bm dp hp)(c0:Machine)(a0:Task)(y3:Func)(x5:((List Int)×Nat×Bool))(v1_8:Nat)(v1_k0_11:(List Int))(o:(Nat×(List Int))⊕(Nat×Bool×(List Int)))(h:jZ c0 a0 y3 x5 v1_8 v1_k0_11=some o):bu ⟨dp,false⟩ LX (yP dp hp k0 c0 a0 y3 x5) (yQ dp hp k0 c0 a0 y3 x5) (v1_8,v1_k0_11) o:=
 bD (bt<|ao (.i (y3.Params.length:Int))<|.or (fF<|ao (.l (((aK c0).set 11 (.o 3 (v1_k0_11.map (I)))).set 17 (.b false)))<|bt<|ao (.n v1_8)<|xI fun y8=>ao (.n v1_8)<|xI fun y10=>ao (.v (I y10))<|xN fun j12=>bf<|ao (.l (((aK c0).set 11 (.o 3 (v1_k0_11.map (I)))).set 17 (.b false)))<|xI fun y14=>bf<|ao (.l (((aK c0).set 11 (.o 3 (v1_k0_11.map (I)))).set 17 (.b false)))<|ao (.v (I y14))<|ao (.l ((v1_k0_11.set j12 y10).map (I)))<|bf<|ao (.l (((aK c0).set 11 (.o 3 (v1_k0_11.map (I)))).set 17 (.b false)))<|bf<|ao (.h (ad hp k0 (((aK c0).set 11 (.o 3 ((v1_k0_11.set j12 y10).map (I)))).set 17 (.b false))))<|bf<|ao (.l (((aK c0).set 11 (.o 3 ((v1_k0_11.set j12 y10).map (I)))).set 17 (.b false)))<|bf<|ao (.i ((v1_8+1:Nat):Int))<|.nil) (bf<|.nil)) fun L=>ai (rN dp)<|ai (ax (I) y3.Params)<|bB h (fun h7 h=>ai (decide_eq_true h7)<|ai tt<|ai tt<|ai tt<|ai tt<|ai tt<|ai (Nat.ne_of_lt hk_k0)<|ai (aq hp k0 (((aK c0).set 11 (.o 3 (v1_k0_11.map (I)))).set 17 (.b false)))<|cD<|ai (rN dp)<|cD<|ai (rI v1_8)<|ba h fun y8 h9 h=>ai (ay (I) h9)<|pD<|ai (rI v1_8)<|ba h fun y10 h11 h=>ai (ay (I) h11)<|ai tt<|ai (ay (I) h11)<|ai tt<|fG h fun j12 h13 h=>ai h13<|ai (Nat.ne_of_lt hk_k0)<|ai (aq hp k0 (((aK c0).set 11 (.o 3 (v1_k0_11.map (I)))).set 17 (.b false)))<|ba h fun y14 h15 h=>ai (ay (I) h15)<|ai ff<|ai (Nat.ne_of_lt hk_k0)<|ai (aq hp k0 (((aK c0).set 11 (.o 3 (v1_k0_11.map (I)))).set 17 (.b false)))<|ai (ay (I) h15)<|ai (map_set .. : (v1_k0_11.map (I)).set j12 (I y10)=(v1_k0_11.set j12 y10).map (I))<|ai (Nat.ne_of_lt hk_k0)<|ai (aq hp k0 (((aK c0).set 11 (.o 3 (v1_k0_11.map (I)))).set 17 (.b false)))<|ai (Nat.ne_of_lt hk_k0)<|ai (aV hp k0 (((aK c0).set 11 (.o 3 (v1_k0_11.map (I)))).set 17 (.b false)) (((aK c0).set 11 (.o 3 ((v1_k0_11.set j12 y10).map (I)))).set 17 (.b false)))<|ai (Nat.ne_of_lt hk_k0)<|ai (aq hp k0 (((aK c0).set 11 (.o 3 ((v1_k0_11.set j12 y10).map (I)))).set 17 (.b false)))<|ai ff<|aA h fun w16 h=>ai w16<|L h) (fun h7 h=>ai (decide_eq_false h7)<|L h)
abbrev Bt(dp:Nat)(hp:HP)(k0:Key)(c0:Machine)(a0:Task)(r:Machine):bh×HP:=(.ret (.tp []),ad hp k0 ((ab r).set 17 (.b false)))
def lq:Option Machine:=
 (dU a0.S.Other).bind fun (j1:Nat)=>
 (c0.P.Funcs[j1]?).bind fun (y3:Func)=>
 (lp (fun v=>jY c0 a0 y3 v.1 v.2) (([]:List Int),0)).bind fun (x5:((List Int)×Nat×Bool))=>
 (lp (fun v=>jZ c0 a0 y3 x5 v.1 v.2) (0,c0.R.Vars)).bind fun (x7:(Nat×Bool×(List Int)))=>
 if c0.Tasks.length+([(⟨2,a0.At,a0.S,0⟩:Task)]).length≤1000000000 then
  (lH c0.P a0.S.Other).bind fun (r10:Int)=>
  (eo (⟨c0.P,c0.Ins,c0.Fuel,(⟨c0.R.Events,x7.2.2,c0.R.Taken,c0.R.Steps,c0.R.End,c0.R.Stop⟩:RunT),c0.Tasks++([(⟨2,a0.At,a0.S,0⟩:Task)]),(),c0.Levels,c0.Places⟩:Machine) y3.Body r10).bind fun (r12:Machine)=>
  some r12
 else none
theorem xn(hk_k0:k0.dp<dp)(hz:bm dp hp)(c0:Machine)(a0:Task)(r:Machine)(h:lq c0 a0=some r):call G Ω0 ⟨dp,false⟩ 44 [(.p k0 0),(.a (aS a0))] (ad hp k0 ((ab c0).set 17 (.b false)))=some (Bt dp hp k0 c0 a0 r):=
 aO G44 (bf<|ao (.l ((ab c0).set 17 (.b false)))<|bt<|xN fun j1=>.ex fun (y3:Func)=>ao (.v (.a (bL y3)))<|b5<|.ex fun (x5:((List Int)×Nat×Bool))=>ao (.lp (.ex 0) ⟨[(0,(.p k0 0)),(3,(.p ⟨dp,3⟩ 0)),(4,(.p ⟨dp,4⟩ 0)),(5,(.o 3 (x5.1.map (I)))),(6,(.o 57 (([]:List Level).map bk))),(7,(I (x5.2.1:Int))),(23,(.b x5.2.2))],[(3,(aS a0)),(4,(bL y3))],ad hp k0 ((ab c0).set 17 (.b false))⟩)<|.ex fun (x7:(Nat×Bool×(List Int)))=>ao (.lp (.ex 2) ⟨[(0,(.p k0 0)),(3,(.p ⟨dp,3⟩ 0)),(4,(.p ⟨dp,4⟩ 0)),(5,(.o 3 (x5.1.map (I)))),(6,(.o 57 (([]:List Level).map bk))),(8,(I (x7.1:Int))),(76,(.b x7.2.1))],[(3,(aS a0)),(4,(bL y3))],ad hp k0 (((aK c0).set 11 (.o 3 (x7.2.2.map (I)))).set 17 (.b false))⟩)<|bf<|ao (.l (((aK c0).set 11 (.o 3 (x7.2.2.map (I)))).set 17 (.b false)))<|b5<|ao (.l (([(⟨2,a0.At,a0.S,0⟩:Task)]).map az))<|bf<|ao (.l (((aK c0).set 11 (.o 3 (x7.2.2.map (I)))).set 17 (.b false)))<|bf<|ao (.l (((aK c0).set 11 (.o 3 (x7.2.2.map (I)))).set 17 (.b false)))<|bf<|ao (.h (ad hp k0 ((((cu c0).set 11 (.o 3 (x7.2.2.map (I)))).set 16 .u).set 17 (.b false))))<|ao (.l ((c0.Tasks++([(⟨2,a0.At,a0.S,0⟩:Task)])).map az))<|bf<|ao (.l ((((cu c0).set 11 (.o 3 (x7.2.2.map (I)))).set 16 .u).set 17 (.b false)))<|bf<|ao (.h (ad hp k0 ((((cu c0).set 11 (.o 3 (x7.2.2.map (I)))).set 16 (.o 67 ((c0.Tasks++([(⟨2,a0.At,a0.S,0⟩:Task)])).map az))).set 17 (.b false))))<|fF<|ao (.l ((((cu c0).set 11 (.o 3 (x7.2.2.map (I)))).set 16 (.o 67 ((c0.Tasks++([(⟨2,a0.At,a0.S,0⟩:Task)])).map az))).set 17 (.b false)))<|bt<|xI fun r10=>.ex fun (r12:Machine)=>ao (.v (.tp []))<|ao (.h (boxes dp [(3,(aS a0)),(4,(bL y3))] (ad hp k0 ((ab r12).set 17 (.b false)))))<|ao (.bx [(3,(aS a0)),(4,(bL y3))])<|ao (.h (ad hp k0 ((ab r12).set 17 (.b false))))<|.nil) fun L=>ai ((by simp [aS,AV.aQ,AV.aN,AV.deep,AV.b6,aG hk_k0,Nat.le_of_lt hk_k0]):(((.a (aS a0)):AV).deep dp&&(([(0,(.p k0 0)),(1,(.a (aS a0)))]:List (Nat×AV)).all (fun y=>y.2.aQ ⟨dp,3⟩)&&([]:List (Nat×List AV)).all (fun y=>AV.aN ⟨dp,3⟩ y.2)))=true)<|ai ((by simp [aS,cJ,aP,AV.aQ,AV.aN,AV.bI,aG hk_k0]):(([4]:List Nat).all (cJ dp (⟨[(0,(.p k0 0)),(3,(.p ⟨dp,3⟩ 0))],[(3,(aS a0))],H0⟩:St))&&true)=true)<|ai (fE hk_k0 [4])<|ai (fE hk_k0 [4])<|ai (fE hk_k0 [4])<|ai ((by simp [aR,okB,bY,AV.aQ,AV.aN,AV.bI,aG hk_k0]):(aR dp [4] (.p k0 6)&&okB dp [] (.p k0 6))=true)<|ai (Nat.ne_of_lt hk_k0)<|ai (aq hp k0 ((ab c0).set 17 (.b false)))<|ai tt<|ai ((by simp [aR,okB,bY,AV.aQ,AV.aN,AV.bI,aG hk_k0]):(aR dp [4] (.p ⟨dp,3⟩ 2)&&okB dp [] (.p ⟨dp,3⟩ 2))=true)<|ai ((by simp [aR,okB,bY,AV.aQ,AV.aN,AV.bI,aG hk_k0]):(aR dp [4] (.p ⟨dp,3⟩ 4)&&okB dp [] (.p ⟨dp,3⟩ 4))=true)<|ai (rN dp)<|ai tt<|fG h fun j1 h2 h=>ai h2<|ba h fun y3 h4 h=>ai (ay bc h4)<|ai tt<|ai tt<|ai tt<|ai tt<|ai ff<|ai (rN dp)<|ai tt<|ai (rN dp)<|aB h (cV (fun v=>xl dp hp k0 hk_k0 hz c0 a0 y3 v.1 v.2) (([]:List Int),0)) fun x5 h=>aB h (cV (fun v=>xm dp hp k0 hk_k0 hz c0 a0 y3 x5 v.1 v.2) (0,c0.R.Vars)) fun x7 h=>ai ((by simp [bL,aS,cJ,aP,AV.aQ,AV.aN,AV.bI,aG hk_k0]):(([122,123]:List Nat).all (cJ dp (⟨[(0,(.p k0 0)),(3,(.p ⟨dp,3⟩ 0)),(4,(.p ⟨dp,4⟩ 0))],[(3,(aS a0)),(4,(bL y3))],H0⟩:St))&&true)=true)<|ai (fE hk_k0 [122,123])<|ai (fE hk_k0 [122,123])<|ai (fE hk_k0 [122,123])<|ai ((by simp [aR,okB,bY,AV.aQ,AV.aN,AV.bI,aG hk_k0]):(aR dp [122,123] (.p k0 16)&&okB dp [] (.p k0 16))=true)<|ai (Nat.ne_of_lt hk_k0)<|ai (aq hp k0 (((aK c0).set 11 (.o 3 (x7.2.2.map (I)))).set 17 (.b false)))<|ai ((by simp [aR,okB,bY,AV.aQ,AV.aN,AV.bI,aG hk_k0]):(aR dp [122,123] (.r (.c k0 16))&&okB dp [] (.r (.c k0 16)))=true)<|ai ((by simp [aR,okB,bY,AV.aQ,AV.aN,AV.bI,aG hk_k0]):(aR dp [122,123] (.p ⟨dp,3⟩ 1)&&okB dp [] (.p ⟨dp,3⟩ 1))=true)<|ai (rN dp)<|ai tt<|ai ((by simp [aR,okB,bY,AV.aQ,AV.aN,AV.bI,aG hk_k0]):(aR dp [122,123] (.p ⟨dp,3⟩ 2)&&okB dp [] (.p ⟨dp,3⟩ 2))=true)<|ai (rN dp)<|cD<|ai (rfl:[(.a (((aS a0).set 0 (I 2)).set 11 (I 0)))]=([(⟨2,a0.At,a0.S,0⟩:Task)]).map az)<|kY<|ai (Nat.ne_of_lt hk_k0)<|ai (aq hp k0 (((aK c0).set 11 (.o 3 (x7.2.2.map (I)))).set 17 (.b false)))<|ai (Nat.ne_of_lt hk_k0)<|ai (aq hp k0 (((aK c0).set 11 (.o 3 (x7.2.2.map (I)))).set 17 (.b false)))<|ai (Nat.ne_of_lt hk_k0)<|ai (aV hp k0 (((aK c0).set 11 (.o 3 (x7.2.2.map (I)))).set 17 (.b false)) ((((cu c0).set 11 (.o 3 (x7.2.2.map (I)))).set 16 .u).set 17 (.b false)))<|aA h fun h9 h=>ai ((dR az (n:=12) (fun _=>rfl) ([(⟨2,a0.At,a0.S,0⟩:Task)])):(([(⟨2,a0.At,a0.S,0⟩:Task)]).map az).all (fun e=>e.nc==12)=true)<|ai ((fl h9 (by decide)):((c0.Tasks.map az).length+(([(⟨2,a0.At,a0.S,0⟩:Task)]).map az).length)*160≤140737488355328)<|ai ((fm h9):(c0.Tasks.map az).length+(([(⟨2,a0.At,a0.S,0⟩:Task)]).map az).length≤maxLen)<|ai (List.map_append.symm:c0.Tasks.map az++([(⟨2,a0.At,a0.S,0⟩:Task)]).map az=(c0.Tasks++([(⟨2,a0.At,a0.S,0⟩:Task)])).map az)<|kY<|ai (Nat.ne_of_lt hk_k0)<|ai (aq hp k0 ((((cu c0).set 11 (.o 3 (x7.2.2.map (I)))).set 16 .u).set 17 (.b false)))<|ai (Nat.ne_of_lt hk_k0)<|ai (aV hp k0 ((((cu c0).set 11 (.o 3 (x7.2.2.map (I)))).set 16 .u).set 17 (.b false)) ((((cu c0).set 11 (.o 3 (x7.2.2.map (I)))).set 16 (.o 67 ((c0.Tasks++([(⟨2,a0.At,a0.S,0⟩:Task)])).map az))).set 17 (.b false)))<|gG<|ai (rN dp)<|pD<|ai (Nat.ne_of_lt hk_k0)<|ai (aq hp k0 ((((cu c0).set 11 (.o 3 (x7.2.2.map (I)))).set 16 (.o 67 ((c0.Tasks++([(⟨2,a0.At,a0.S,0⟩:Task)])).map az))).set 17 (.b false)))<|gG<|ai (rN dp)<|ai tt<|aB h (vc c0.P a0.S.Other) fun r10 h=>ai tt<|ai ff<|ai tt<|ba h fun r12 ek13 h=>have ek13:=cO hk_k0 (fT (dp+1) (boxes dp [(3,(aS a0)),(4,(bL y3))] (ad hp k0 ((((cu c0).set 11 (.o 3 (x7.2.2.map (I)))).set 16 (.o 67 ((c0.Tasks++([(⟨2,a0.At,a0.S,0⟩:Task)])).map az))).set 17 (.b false)))) k0 (Nat.lt_succ_of_lt hk_k0) (a9 (aH hk_k0 (hz))) (⟨c0.P,c0.Ins,c0.Fuel,(⟨c0.R.Events,x7.2.2,c0.R.Taken,c0.R.Steps,c0.R.End,c0.R.Stop⟩:RunT),c0.Tasks++([(⟨2,a0.At,a0.S,0⟩:Task)]),(),c0.Levels,c0.Places⟩:Machine) y3.Body r10 _ ek13);ai ek13<|ai (er ek13 (by kernel_rfl) (by kernel_rfl))<|ai (et ek13 (aH hk_k0 (hz)))<|L h
end
section
variable (dp:Nat)(hp:HP)(k0:Key)(c0:Machine)(a0:ag)
abbrev Bu(dp:Nat)(hp:HP)(k0:Key)(c0:Machine)(a0:ag)(r:Bool):bh×HP:=(.ret (.b r),ad hp k0 ((ab c0).set 17 (.b false)))
def jk:Option Bool:=
 (kq a0 c0.R.Vars).bind fun (r1:Int)=>
 some (r1 !=0)
theorem qf(hk_k0:k0.dp<dp)(hz:bm dp hp)(c0:Machine)(a0:ag)(r:Bool)(h:jk c0 a0=some r):call G Ω0 ⟨dp,false⟩ 45 [(.p k0 0),(.a (bn a0))] (ad hp k0 ((ab c0).set 17 (.b false)))=some (Bu dp hp k0 c0 a0 r):=
 aO G45 (bf<|ao (.l ((ab c0).set 17 (.b false)))<|bf<|bt<|bf<|ao (.l ((ab c0).set 17 (.b false)))<|bf<|ao (.l ((ab c0).set 17 (.b false)))<|xI fun r1=>.nil) fun L=>ai ((by simp [bn,AV.aQ,AV.aN,AV.deep,AV.b6,aG hk_k0,Nat.le_of_lt hk_k0]):(((.a (bn a0)):AV).deep dp&&(([(0,(.p k0 0)),(1,(.a (bn a0)))]:List (Nat×AV)).all (fun y=>y.2.aQ ⟨dp,3⟩)&&([]:List (Nat×List AV)).all (fun y=>AV.aN ⟨dp,3⟩ y.2)))=true)<|ai (Nat.ne_of_lt hk_k0)<|ai (aq hp k0 ((ab c0).set 17 (.b false)))<|gI<|ai (rN dp)<|lK<|ai (Nat.ne_of_lt hk_k0)<|ai (aq hp k0 ((ab c0).set 17 (.b false)))<|ai tt<|ai (Nat.ne_of_lt hk_k0)<|ai (aq hp k0 ((ab c0).set 17 (.b false)))<|aB h (nK a0 c0.R.Vars) fun r1 h=>cD<|L h
end
section
variable (dp:Nat)(hp:HP)(k0:Key)
abbrev xp(dp:Nat)(hp:HP)(k0:Key)(c0:Machine)(a0:Stmt)(r:Bool):bh×HP:=(.ret (.b r),ad hp k0 ((ab c0).set 17 (.b false)))
def lP(c0:Machine)(a0:Stmt):Option Bool:=
 some true
theorem uC(hk_k0:k0.dp<dp)(hz:bm dp hp)(c0:Machine)(a0:Stmt)(r:Bool)(h:lP c0 a0=some r):call G Ω0 ⟨dp,false⟩ 46 [(.p k0 0),(.a (af a0))] (ad hp k0 ((ab c0).set 17 (.b false)))=some (xp dp hp k0 c0 a0 r):=
 aO G46 (bf<|ao (.l ((ab c0).set 17 (.b false)))<|bt<|.nil) fun L=>ai ((by simp [af,AV.aQ,AV.aN,AV.deep,AV.b6,aG hk_k0,Nat.le_of_lt hk_k0]):(((.a (af a0)):AV).deep dp&&(([(0,(.p k0 0)),(1,(.a (af a0)))]:List (Nat×AV)).all (fun y=>y.2.aQ ⟨dp,3⟩)&&([]:List (Nat×List AV)).all (fun y=>AV.aN ⟨dp,3⟩ y.2)))=true)<|ai (Nat.ne_of_lt hk_k0)<|ai (aq hp k0 ((ab c0).set 17 (.b false)))<|ai tt<|L h
end
section
variable (dp:Nat)(hp:HP)(k0:Key)(c0:Machine)(a0:Int)
abbrev xq(dp:Nat)(hp:HP)(k0:Key)(c0:Machine)(a0:Int)(r:Machine):bh×HP:=(.ret (.tp []),ad hp k0 ((ab r).set 17 (.b false)))
def qg:Option Machine:=
 some (⟨c0.P,c0.Ins,c0.Fuel,(⟨c0.R.Events,c0.R.Vars,c0.R.Taken,c0.R.Steps,3,a0⟩:RunT),c0.Tasks,(),c0.Levels,c0.Places⟩:Machine)
theorem uD(hk_k0:k0.dp<dp)(hz:bm dp hp)(c0:Machine)(a0:Int)(r:Machine)(h:qg c0 a0=some r):call G Ω0 ⟨dp,false⟩ 42 [(.p k0 0),(I a0)] (ad hp k0 ((ab c0).set 17 (.b false)))=some (xq dp hp k0 c0 a0 r):=
 aO G42 (bf<|ao (.l ((ab c0).set 17 (.b false)))<|bf<|ao (.h (ad hp k0 (((ab c0).set 14 (I 3)).set 17 (.b false))))<|bf<|ao (.l (((ab c0).set 14 (I 3)).set 17 (.b false)))<|bf<|ao (.h (ad hp k0 ((((ab c0).set 14 (I 3)).set 15 (I a0)).set 17 (.b false))))<|.nil) fun L=>ai ff<|ai (Nat.ne_of_lt hk_k0)<|ai (aq hp k0 ((ab c0).set 17 (.b false)))<|ai tt<|ai (Nat.ne_of_lt hk_k0)<|ai (aV hp k0 ((ab c0).set 17 (.b false)) (((ab c0).set 14 (I 3)).set 17 (.b false)))<|ai ff<|ai (Nat.ne_of_lt hk_k0)<|ai (aq hp k0 (((ab c0).set 14 (I 3)).set 17 (.b false)))<|ai tt<|ai (Nat.ne_of_lt hk_k0)<|ai (aV hp k0 (((ab c0).set 14 (I 3)).set 17 (.b false)) ((((ab c0).set 14 (I 3)).set 15 (I a0)).set 17 (.b false)))<|L h
end
section
variable (c0:Machine)(a0:Task)(dp:Nat)(hp:HP)(k0:Key)
def ie(w0_1:(List Task)):Option (Machine⊕(Bool×Machine)):=
 (jk (⟨c0.P,c0.Ins,c0.Fuel,c0.R,w0_1,(),c0.Levels,c0.Places⟩:Machine) a0.S.Expr).bind fun (r6:Bool)=>
 if r6=true then
  if w0_1.length+([(⟨1,a0.At,a0.S,0⟩:Task)]).length≤1000000000 then
   if IntKind.i64.wrap (a0.At+1)=a0.At+1 then
    (eo (⟨c0.P,c0.Ins,c0.Fuel,c0.R,w0_1++([(⟨1,a0.At,a0.S,0⟩:Task)]),(),c0.Levels,c0.Places⟩:Machine) a0.S.Then (a0.At+1)).bind fun (r11:Machine)=>
    some (.inl r11)
   else none
  else none
 else
  some (.inr (r6,(⟨c0.P,c0.Ins,c0.Fuel,c0.R,w0_1,(),c0.Levels,c0.Places⟩:Machine)))
abbrev Ae(c0:Machine)(a0:Task)(w0_1:(List Task))(x:(Machine⊕(Bool×Machine))):aJ×St:=match x with | .inl z1=>(.ret,⟨[],[],ad hp k0 ((ab z1).set 17 (.b false))⟩) | .inr (z1,z2)=>(.ret,⟨[(0,(.p k0 0)),(3,(.p ⟨dp,3⟩ 0)),(4,(.p ⟨dp,4⟩ 0)),(78,(.b z1))],[(3,(aS a0)),(4,(af a0.S))],ad hp k0 ((ab z2).set 17 (.b false))⟩)
theorem rl(hk_k0:k0.dp<dp)(hz:bm dp hp)(c0:Machine)(a0:Task)(w0_1:(List Task))(x:(Machine⊕(Bool×Machine)))(h:ie c0 a0 w0_1=some x):run G Ω0 ⟨dp,false⟩ LB ⟨[(0,(.p k0 0)),(3,(.p ⟨dp,3⟩ 0)),(4,(.p ⟨dp,4⟩ 0))],[(3,(aS a0)),(4,(af a0.S))],ad hp k0 (((aj c0).set 16 (.o 67 (w0_1.map az))).set 17 (.b false))⟩=some (Ae dp hp k0 c0 a0 w0_1 x):=
 ga (bt<|xB fun r6=>ao (.h (boxes dp [(3,(aS a0)),(4,(af a0.S))] (ad hp k0 (((aj c0).set 16 (.o 67 (w0_1.map az))).set 17 (.b false)))))<|ao (.bx [(3,(aS a0)),(4,(af a0.S))])<|ao (.h (ad hp k0 (((aj c0).set 16 (.o 67 (w0_1.map az))).set 17 (.b false))))<|.or (fF<|ao (.l (((aj c0).set 16 (.o 67 (w0_1.map az))).set 17 (.b false)))<|b5<|ao (.l (([(⟨1,a0.At,a0.S,0⟩:Task)]).map az))<|bf<|ao (.l (((aj c0).set 16 (.o 67 (w0_1.map az))).set 17 (.b false)))<|bf<|ao (.l (((aj c0).set 16 (.o 67 (w0_1.map az))).set 17 (.b false)))<|bf<|ao (.h (ad hp k0 (((aj c0).set 16 .u).set 17 (.b false))))<|ao (.l ((w0_1++([(⟨1,a0.At,a0.S,0⟩:Task)])).map az))<|bf<|ao (.l (((aj c0).set 16 .u).set 17 (.b false)))<|bf<|ao (.h (ad hp k0 (((aj c0).set 16 (.o 67 ((w0_1++([(⟨1,a0.At,a0.S,0⟩:Task)])).map az))).set 17 (.b false))))<|b5<|ao (.i (a0.At+1))<|.ex fun (r11:Machine)=>ao (.v (.tp []))<|ao (.h (boxes dp [(3,(aS a0)),(4,(af a0.S))] (ad hp k0 ((ab r11).set 17 (.b false)))))<|ao (.bx [(3,(aS a0)),(4,(af a0.S))])<|ao (.h (ad hp k0 ((ab r11).set 17 (.b false))))<|.nil) (bf<|.nil)) fun L=>ai (rN dp)<|gI<|ba h fun r6 ek7 h=>have ek7:=cO hk_k0 (qf (dp+1) (boxes dp [(3,(aS a0)),(4,(af a0.S))] (ad hp k0 (((aj c0).set 16 (.o 67 (w0_1.map az))).set 17 (.b false)))) k0 (Nat.lt_succ_of_lt hk_k0) (a9 (aH hk_k0 (hz))) (⟨c0.P,c0.Ins,c0.Fuel,c0.R,w0_1,(),c0.Levels,c0.Places⟩:Machine) a0.S.Expr _ ek7);ai ek7<|ai (er ek7 (by kernel_rfl) (by kernel_rfl))<|ai (et ek7 (aH hk_k0 (hz)))<|aM h (fun h8 h=>ai h8<|ai ((by simp [af,aS,cJ,aP,AV.aQ,AV.aN,AV.bI,aG hk_k0]):(([88,89]:List Nat).all (cJ dp (⟨[(0,(.p k0 0)),(3,(.p ⟨dp,3⟩ 0)),(4,(.p ⟨dp,4⟩ 0)),(78,(.b r6))],[(3,(aS a0)),(4,(af a0.S))],H0⟩:St))&&true)=true)<|ai (fE hk_k0 [88,89])<|ai (fE hk_k0 [88,89])<|ai (fE hk_k0 [88,89])<|ai ((by simp [aR,okB,bY,AV.aQ,AV.aN,AV.bI,aG hk_k0]):(aR dp [88,89] (.p k0 16)&&okB dp [] (.p k0 16))=true)<|ai (Nat.ne_of_lt hk_k0)<|ai (aq hp k0 (((aj c0).set 16 (.o 67 (w0_1.map az))).set 17 (.b false)))<|ai ((by simp [aR,okB,bY,AV.aQ,AV.aN,AV.bI,aG hk_k0]):(aR dp [88,89] (.r (.c k0 16))&&okB dp [] (.r (.c k0 16)))=true)<|ai ((by simp [aR,okB,bY,AV.aQ,AV.aN,AV.bI,aG hk_k0]):(aR dp [88,89] (.p ⟨dp,3⟩ 1)&&okB dp [] (.p ⟨dp,3⟩ 1))=true)<|ai (rN dp)<|ai tt<|ai (rN dp)<|cD<|ai (rfl:[(.a (((aS a0).set 0 (I 1)).set 11 (I 0)))]=([(⟨1,a0.At,a0.S,0⟩:Task)]).map az)<|kY<|ai (Nat.ne_of_lt hk_k0)<|ai (aq hp k0 (((aj c0).set 16 (.o 67 (w0_1.map az))).set 17 (.b false)))<|ai (Nat.ne_of_lt hk_k0)<|ai (aq hp k0 (((aj c0).set 16 (.o 67 (w0_1.map az))).set 17 (.b false)))<|ai (Nat.ne_of_lt hk_k0)<|ai (aV hp k0 (((aj c0).set 16 (.o 67 (w0_1.map az))).set 17 (.b false)) (((aj c0).set 16 .u).set 17 (.b false)))<|aA h fun h9 h=>ai ((dR az (n:=12) (fun _=>rfl) ([(⟨1,a0.At,a0.S,0⟩:Task)])):(([(⟨1,a0.At,a0.S,0⟩:Task)]).map az).all (fun e=>e.nc==12)=true)<|ai ((fl h9 (by decide)):((w0_1.map az).length+(([(⟨1,a0.At,a0.S,0⟩:Task)]).map az).length)*160≤140737488355328)<|ai ((fm h9):(w0_1.map az).length+(([(⟨1,a0.At,a0.S,0⟩:Task)]).map az).length≤maxLen)<|ai (List.map_append.symm:w0_1.map az++([(⟨1,a0.At,a0.S,0⟩:Task)]).map az=(w0_1++([(⟨1,a0.At,a0.S,0⟩:Task)])).map az)<|kY<|ai (Nat.ne_of_lt hk_k0)<|ai (aq hp k0 (((aj c0).set 16 .u).set 17 (.b false)))<|ai (Nat.ne_of_lt hk_k0)<|ai (aV hp k0 (((aj c0).set 16 .u).set 17 (.b false)) (((aj c0).set 16 (.o 67 ((w0_1++([(⟨1,a0.At,a0.S,0⟩:Task)])).map az))).set 17 (.b false)))<|ai (rN dp)<|ai (rN dp)<|aA h fun w10 h=>ai w10<|gI<|ba h fun r11 ek12 h=>have ek12:=cO hk_k0 (fT (dp+1) (boxes dp [(3,(aS a0)),(4,(af a0.S))] (ad hp k0 (((aj c0).set 16 (.o 67 ((w0_1++([(⟨1,a0.At,a0.S,0⟩:Task)])).map az))).set 17 (.b false)))) k0 (Nat.lt_succ_of_lt hk_k0) (a9 (aH hk_k0 (hz))) (⟨c0.P,c0.Ins,c0.Fuel,c0.R,w0_1++([(⟨1,a0.At,a0.S,0⟩:Task)]),(),c0.Levels,c0.Places⟩:Machine) a0.S.Then (a0.At+1) _ ek12);ai ek12<|ai (er ek12 (by kernel_rfl) (by kernel_rfl))<|ai (et ek12 (aH hk_k0 (hz)))<|L h) (fun h8 h=>ai h8<|L h)
def fB(w3_1:Int):Option (Int×(List Int)):=
 (dU a0.S.Other).bind fun (j19:Nat)=>
 (c0.R.Taken[j19]?).bind fun (y21:Int)=>
 if IntKind.i64.wrap (y21+1)=y21+1 then
  some (w3_1,c0.R.Taken.set j19 (y21+1))
 else none
abbrev Af(c0:Machine)(a0:Task)(w3_1:Int)(x:(Int×(List Int))):aJ×St:=(.nrm,⟨[(0,(.p k0 0)),(3,(.p ⟨dp,3⟩ 0)),(4,(.p ⟨dp,4⟩ 0)),(5,(I x.1))],[(3,(aS a0)),(4,(af a0.S))],ad hp k0 (((bE c0).set 12 (.o 3 (x.2.map (I)))).set 17 (.b false))⟩)
theorem rm(hk_k0:k0.dp<dp)(hz:bm dp hp)(c0:Machine)(a0:Task)(w3_1:Int)(x:(Int×(List Int)))(h:fB c0 a0 w3_1=some x):run G Ω0 ⟨dp,false⟩ LC ⟨[(0,(.p k0 0)),(3,(.p ⟨dp,3⟩ 0)),(4,(.p ⟨dp,4⟩ 0)),(5,(I w3_1))],[(3,(aS a0)),(4,(af a0.S))],ad hp k0 ((ab c0).set 17 (.b false))⟩=some (Af dp hp k0 c0 a0 w3_1 x):=
 ga (bf<|ao (.l ((ab c0).set 17 (.b false)))<|bt<|xN fun j19=>bf<|ao (.l ((ab c0).set 17 (.b false)))<|xI fun y21=>bf<|ao (.l ((ab c0).set 17 (.b false)))<|ao (.v (I y21))<|ao (.i (y21+1))<|ao (.n j19)<|bf<|ao (.l ((ab c0).set 17 (.b false)))<|ao (.v (I y21))<|bf<|ao (.l ((ab c0).set 17 (.b false)))<|ao (.v (I y21))<|ao (.l ((c0.R.Taken.set j19 (y21+1)).map (I)))<|bf<|ao (.l ((ab c0).set 17 (.b false)))<|bf<|ao (.h (ad hp k0 (((bE c0).set 12 (.o 3 ((c0.R.Taken.set j19 (y21+1)).map (I)))).set 17 (.b false))))<|.nil) fun L=>lK<|ai (Nat.ne_of_lt hk_k0)<|ai (aq hp k0 ((ab c0).set 17 (.b false)))<|cD<|ai (rN dp)<|ai tt<|fG h fun j19 h20 h=>ai h20<|ai (Nat.ne_of_lt hk_k0)<|ai (aq hp k0 ((ab c0).set 17 (.b false)))<|ba h fun y21 h22 h=>ai (ay (I) h22)<|ai (Nat.ne_of_lt hk_k0)<|ai (aq hp k0 ((ab c0).set 17 (.b false)))<|ai (ay (I) h22)<|aA h fun w23 h=>ai w23<|ai h20<|ai (Nat.ne_of_lt hk_k0)<|ai (aq hp k0 ((ab c0).set 17 (.b false)))<|ai (ay (I) h22)<|ai ff<|ai (Nat.ne_of_lt hk_k0)<|ai (aq hp k0 ((ab c0).set 17 (.b false)))<|ai (ay (I) h22)<|ai (map_set .. : (c0.R.Taken.map (I)).set j19 (I (y21+1))=(c0.R.Taken.set j19 (y21+1)).map (I))<|ai (Nat.ne_of_lt hk_k0)<|ai (aq hp k0 ((ab c0).set 17 (.b false)))<|ai (Nat.ne_of_lt hk_k0)<|ai (aV hp k0 ((ab c0).set 17 (.b false)) (((bE c0).set 12 (.o 3 ((c0.R.Taken.set j19 (y21+1)).map (I)))).set 17 (.b false)))<|L h
def ig(w4_1:Int)(w4_2:(List Int))(w5_1:(List Int)):Option ((List Int)⊕((List Int)⊕((List Int)⊕(List Int)))):=
 if (a0.S.Kind==4)=true then
  if c0.R.Events.length+([(⟨1,a0.At,a0.S.Other,w4_1⟩:Event)]).length≤1000000000 then
   some (.inl w5_1)
  else none
 else
  if (a0.S.Kind==5)=true then
   if c0.R.Events.length+([(⟨2,a0.At,a0.S.Var,w4_1⟩:Event)]).length≤1000000000 then
    some (.inr (.inl w5_1))
   else none
  else
   if (a0.S.Kind==6)=true then
    if c0.R.Events.length+([(⟨3,a0.At,a0.S.Var,w4_1⟩:Event)]).length≤1000000000 then
     some (.inr (.inr (.inl w5_1)))
    else none
   else
    some (.inr (.inr (.inr w5_1)))
abbrev Ag(c0:Machine)(a0:Task)(w4_1:Int)(w4_2:(List Int))(w5_1:(List Int))(x:((List Int)⊕((List Int)⊕((List Int)⊕(List Int))))):aJ×St:=match x with | .inl z1=>(.nrm,⟨[],[],ad hp k0 (((((aL c0).set 10 (.o 73 ((c0.R.Events++([(⟨1,a0.At,a0.S.Other,w4_1⟩:Event)])).map aw))).set 11 (.o 3 (z1.map (I)))).set 12 (.o 3 (w4_2.map (I)))).set 17 (.b false))⟩) | .inr (.inl z1)=>(.nrm,⟨[],[],ad hp k0 (((((aL c0).set 10 (.o 73 ((c0.R.Events++([(⟨2,a0.At,a0.S.Var,w4_1⟩:Event)])).map aw))).set 11 (.o 3 (z1.map (I)))).set 12 (.o 3 (w4_2.map (I)))).set 17 (.b false))⟩) | .inr (.inr (.inl z1))=>(.nrm,⟨[],[],ad hp k0 (((((aL c0).set 10 (.o 73 ((c0.R.Events++([(⟨3,a0.At,a0.S.Var,w4_1⟩:Event)])).map aw))).set 11 (.o 3 (z1.map (I)))).set 12 (.o 3 (w4_2.map (I)))).set 17 (.b false))⟩) | .inr (.inr (.inr z1))=>(.nrm,⟨[(0,(.p k0 0)),(3,(.p ⟨dp,3⟩ 0)),(4,(.p ⟨dp,4⟩ 0)),(5,(I w4_1)),(213,(.b (a0.S.Kind==6)))],[(3,(aS a0)),(4,(af a0.S))],ad hp k0 ((((aI c0).set 11 (.o 3 (z1.map (I)))).set 12 (.o 3 (w4_2.map (I)))).set 17 (.b false))⟩)
theorem rn(hk_k0:k0.dp<dp)(hz:bm dp hp)(c0:Machine)(a0:Task)(w4_1:Int)(w4_2:(List Int))(w5_1:(List Int))(x:((List Int)⊕((List Int)⊕((List Int)⊕(List Int)))))(h:ig c0 a0 w4_1 w4_2 w5_1=some x):run G Ω0 ⟨dp,false⟩ LD ⟨[(0,(.p k0 0)),(3,(.p ⟨dp,3⟩ 0)),(4,(.p ⟨dp,4⟩ 0)),(5,(I w4_1))],[(3,(aS a0)),(4,(af a0.S))],ad hp k0 ((((aI c0).set 11 (.o 3 (w5_1.map (I)))).set 12 (.o 3 (w4_2.map (I)))).set 17 (.b false))⟩=some (Ag dp hp k0 c0 a0 w4_1 w4_2 w5_1 x):=
 ga (bt<|.or (fF<|ao (.l ((((aI c0).set 11 (.o 3 (w5_1.map (I)))).set 12 (.o 3 (w4_2.map (I)))).set 17 (.b false)))<|b5<|ao (.l (([(⟨1,a0.At,a0.S.Other,w4_1⟩:Event)]).map aw))<|bf<|ao (.l ((((aI c0).set 11 (.o 3 (w5_1.map (I)))).set 12 (.o 3 (w4_2.map (I)))).set 17 (.b false)))<|bf<|ao (.l ((((aI c0).set 11 (.o 3 (w5_1.map (I)))).set 12 (.o 3 (w4_2.map (I)))).set 17 (.b false)))<|bf<|ao (.h (ad hp k0 (((((aL c0).set 10 .u).set 11 (.o 3 (w5_1.map (I)))).set 12 (.o 3 (w4_2.map (I)))).set 17 (.b false))))<|ao (.l ((c0.R.Events++([(⟨1,a0.At,a0.S.Other,w4_1⟩:Event)])).map aw))<|bf<|ao (.l (((((aL c0).set 10 .u).set 11 (.o 3 (w5_1.map (I)))).set 12 (.o 3 (w4_2.map (I)))).set 17 (.b false)))<|bf<|ao (.h (ad hp k0 (((((aL c0).set 10 (.o 73 ((c0.R.Events++([(⟨1,a0.At,a0.S.Other,w4_1⟩:Event)])).map aw))).set 11 (.o 3 (w5_1.map (I)))).set 12 (.o 3 (w4_2.map (I)))).set 17 (.b false))))<|.nil) (bf<|.or (fF<|ao (.l ((((aI c0).set 11 (.o 3 (w5_1.map (I)))).set 12 (.o 3 (w4_2.map (I)))).set 17 (.b false)))<|b5<|ao (.l (([(⟨2,a0.At,a0.S.Var,w4_1⟩:Event)]).map aw))<|bf<|ao (.l ((((aI c0).set 11 (.o 3 (w5_1.map (I)))).set 12 (.o 3 (w4_2.map (I)))).set 17 (.b false)))<|bf<|ao (.l ((((aI c0).set 11 (.o 3 (w5_1.map (I)))).set 12 (.o 3 (w4_2.map (I)))).set 17 (.b false)))<|bf<|ao (.h (ad hp k0 (((((aL c0).set 10 .u).set 11 (.o 3 (w5_1.map (I)))).set 12 (.o 3 (w4_2.map (I)))).set 17 (.b false))))<|ao (.l ((c0.R.Events++([(⟨2,a0.At,a0.S.Var,w4_1⟩:Event)])).map aw))<|bf<|ao (.l (((((aL c0).set 10 .u).set 11 (.o 3 (w5_1.map (I)))).set 12 (.o 3 (w4_2.map (I)))).set 17 (.b false)))<|bf<|ao (.h (ad hp k0 (((((aL c0).set 10 (.o 73 ((c0.R.Events++([(⟨2,a0.At,a0.S.Var,w4_1⟩:Event)])).map aw))).set 11 (.o 3 (w5_1.map (I)))).set 12 (.o 3 (w4_2.map (I)))).set 17 (.b false))))<|.nil) (bf<|.or (fF<|ao (.l ((((aI c0).set 11 (.o 3 (w5_1.map (I)))).set 12 (.o 3 (w4_2.map (I)))).set 17 (.b false)))<|b5<|ao (.l (([(⟨3,a0.At,a0.S.Var,w4_1⟩:Event)]).map aw))<|bf<|ao (.l ((((aI c0).set 11 (.o 3 (w5_1.map (I)))).set 12 (.o 3 (w4_2.map (I)))).set 17 (.b false)))<|bf<|ao (.l ((((aI c0).set 11 (.o 3 (w5_1.map (I)))).set 12 (.o 3 (w4_2.map (I)))).set 17 (.b false)))<|bf<|ao (.h (ad hp k0 (((((aL c0).set 10 .u).set 11 (.o 3 (w5_1.map (I)))).set 12 (.o 3 (w4_2.map (I)))).set 17 (.b false))))<|ao (.l ((c0.R.Events++([(⟨3,a0.At,a0.S.Var,w4_1⟩:Event)])).map aw))<|bf<|ao (.l (((((aL c0).set 10 .u).set 11 (.o 3 (w5_1.map (I)))).set 12 (.o 3 (w4_2.map (I)))).set 17 (.b false)))<|bf<|ao (.h (ad hp k0 (((((aL c0).set 10 (.o 73 ((c0.R.Events++([(⟨3,a0.At,a0.S.Var,w4_1⟩:Event)])).map aw))).set 11 (.o 3 (w5_1.map (I)))).set 12 (.o 3 (w4_2.map (I)))).set 17 (.b false))))<|.nil) (bf<|.nil)))) fun L=>ai (rN dp)<|aM h (fun h26 h=>ai h26<|ai ((by simp [af,aS,cJ,aP,AV.aQ,AV.aN,AV.bI,aG hk_k0]):(([189,190]:List Nat).all (cJ dp (⟨[(0,(.p k0 0)),(3,(.p ⟨dp,3⟩ 0)),(4,(.p ⟨dp,4⟩ 0)),(5,(I w4_1)),(174,(I a0.S.Kind)),(175,(.b (a0.S.Kind==4)))],[(3,(aS a0)),(4,(af a0.S))],H0⟩:St))&&true)=true)<|ai (fE hk_k0 [189,190])<|ai (fE hk_k0 [189,190])<|ai (fE hk_k0 [189,190])<|ai ((by simp [aR,okB,bY,AV.aQ,AV.aN,AV.bI,aG hk_k0]):(aR dp [189,190] (.p k0 10)&&okB dp [] (.p k0 10))=true)<|ai ((by simp [aR,okB,bY,AV.aQ,AV.aN,AV.bI,aG hk_k0]):(aR dp [189,190] (.p k0 10)&&okB dp [] (.p k0 10))=true)<|ai (Nat.ne_of_lt hk_k0)<|ai (aq hp k0 ((((aI c0).set 11 (.o 3 (w5_1.map (I)))).set 12 (.o 3 (w4_2.map (I)))).set 17 (.b false)))<|ai ((by simp [aR,okB,bY,AV.aQ,AV.aN,AV.bI,aG hk_k0]):(aR dp [189,190] (.r (.c k0 10))&&okB dp [] (.r (.c k0 10)))=true)<|ai ((by simp [aR,okB,bY,AV.aQ,AV.aN,AV.bI,aG hk_k0]):(aR dp [189,190] (.p ⟨dp,3⟩ 1)&&okB dp [] (.p ⟨dp,3⟩ 1))=true)<|ai (rN dp)<|ai tt<|ai ((by simp [aR,okB,bY,AV.aQ,AV.aN,AV.bI,aG hk_k0]):(aR dp [189,190] (.p ⟨dp,4⟩ 2)&&okB dp [] (.p ⟨dp,4⟩ 2))=true)<|ai (rN dp)<|gG<|ai (rfl:[(.a [(I 1),(I a0.At),(I a0.S.Other),(I w4_1)])]=([(⟨1,a0.At,a0.S.Other,w4_1⟩:Event)]).map aw)<|kY<|ai (Nat.ne_of_lt hk_k0)<|ai (aq hp k0 ((((aI c0).set 11 (.o 3 (w5_1.map (I)))).set 12 (.o 3 (w4_2.map (I)))).set 17 (.b false)))<|ai (Nat.ne_of_lt hk_k0)<|ai (aq hp k0 ((((aI c0).set 11 (.o 3 (w5_1.map (I)))).set 12 (.o 3 (w4_2.map (I)))).set 17 (.b false)))<|ai (Nat.ne_of_lt hk_k0)<|ai (aV hp k0 ((((aI c0).set 11 (.o 3 (w5_1.map (I)))).set 12 (.o 3 (w4_2.map (I)))).set 17 (.b false)) (((((aL c0).set 10 .u).set 11 (.o 3 (w5_1.map (I)))).set 12 (.o 3 (w4_2.map (I)))).set 17 (.b false)))<|aA h fun h27 h=>ai ((dR aw (n:=4) (fun _=>rfl) ([(⟨1,a0.At,a0.S.Other,w4_1⟩:Event)])):(([(⟨1,a0.At,a0.S.Other,w4_1⟩:Event)]).map aw).all (fun e=>e.nc==4)=true)<|ai ((fl h27 (by decide)):((c0.R.Events.map aw).length+(([(⟨1,a0.At,a0.S.Other,w4_1⟩:Event)]).map aw).length)*32≤140737488355328)<|ai ((fm h27):(c0.R.Events.map aw).length+(([(⟨1,a0.At,a0.S.Other,w4_1⟩:Event)]).map aw).length≤maxLen)<|ai (List.map_append.symm:c0.R.Events.map aw++([(⟨1,a0.At,a0.S.Other,w4_1⟩:Event)]).map aw=(c0.R.Events++([(⟨1,a0.At,a0.S.Other,w4_1⟩:Event)])).map aw)<|kY<|ai (Nat.ne_of_lt hk_k0)<|ai (aq hp k0 (((((aL c0).set 10 .u).set 11 (.o 3 (w5_1.map (I)))).set 12 (.o 3 (w4_2.map (I)))).set 17 (.b false)))<|ai (Nat.ne_of_lt hk_k0)<|ai (aV hp k0 (((((aL c0).set 10 .u).set 11 (.o 3 (w5_1.map (I)))).set 12 (.o 3 (w4_2.map (I)))).set 17 (.b false)) (((((aL c0).set 10 (.o 73 ((c0.R.Events++([(⟨1,a0.At,a0.S.Other,w4_1⟩:Event)])).map aw))).set 11 (.o 3 (w5_1.map (I)))).set 12 (.o 3 (w4_2.map (I)))).set 17 (.b false)))<|L h) (fun h26 h=>ai h26<|aM h (fun h27 h=>ai h27<|ai ((by simp [af,aS,cJ,aP,AV.aQ,AV.aN,AV.bI,aG hk_k0]):(([208,209]:List Nat).all (cJ dp (⟨[(0,(.p k0 0)),(3,(.p ⟨dp,3⟩ 0)),(4,(.p ⟨dp,4⟩ 0)),(5,(I w4_1)),(174,(I a0.S.Kind)),(194,(.b (a0.S.Kind==5)))],[(3,(aS a0)),(4,(af a0.S))],H0⟩:St))&&true)=true)<|ai (fE hk_k0 [208,209])<|ai (fE hk_k0 [208,209])<|ai (fE hk_k0 [208,209])<|ai ((by simp [aR,okB,bY,AV.aQ,AV.aN,AV.bI,aG hk_k0]):(aR dp [208,209] (.p k0 10)&&okB dp [] (.p k0 10))=true)<|ai ((by simp [aR,okB,bY,AV.aQ,AV.aN,AV.bI,aG hk_k0]):(aR dp [208,209] (.p k0 10)&&okB dp [] (.p k0 10))=true)<|ai (Nat.ne_of_lt hk_k0)<|ai (aq hp k0 ((((aI c0).set 11 (.o 3 (w5_1.map (I)))).set 12 (.o 3 (w4_2.map (I)))).set 17 (.b false)))<|ai ((by simp [aR,okB,bY,AV.aQ,AV.aN,AV.bI,aG hk_k0]):(aR dp [208,209] (.r (.c k0 10))&&okB dp [] (.r (.c k0 10)))=true)<|ai ((by simp [aR,okB,bY,AV.aQ,AV.aN,AV.bI,aG hk_k0]):(aR dp [208,209] (.p ⟨dp,3⟩ 1)&&okB dp [] (.p ⟨dp,3⟩ 1))=true)<|ai (rN dp)<|ai tt<|ai ((by simp [aR,okB,bY,AV.aQ,AV.aN,AV.bI,aG hk_k0]):(aR dp [208,209] (.p ⟨dp,4⟩ 1)&&okB dp [] (.p ⟨dp,4⟩ 1))=true)<|ai (rN dp)<|gG<|ai (rfl:[(.a [(I 2),(I a0.At),(I a0.S.Var),(I w4_1)])]=([(⟨2,a0.At,a0.S.Var,w4_1⟩:Event)]).map aw)<|kY<|ai (Nat.ne_of_lt hk_k0)<|ai (aq hp k0 ((((aI c0).set 11 (.o 3 (w5_1.map (I)))).set 12 (.o 3 (w4_2.map (I)))).set 17 (.b false)))<|ai (Nat.ne_of_lt hk_k0)<|ai (aq hp k0 ((((aI c0).set 11 (.o 3 (w5_1.map (I)))).set 12 (.o 3 (w4_2.map (I)))).set 17 (.b false)))<|ai (Nat.ne_of_lt hk_k0)<|ai (aV hp k0 ((((aI c0).set 11 (.o 3 (w5_1.map (I)))).set 12 (.o 3 (w4_2.map (I)))).set 17 (.b false)) (((((aL c0).set 10 .u).set 11 (.o 3 (w5_1.map (I)))).set 12 (.o 3 (w4_2.map (I)))).set 17 (.b false)))<|aA h fun h28 h=>ai ((dR aw (n:=4) (fun _=>rfl) ([(⟨2,a0.At,a0.S.Var,w4_1⟩:Event)])):(([(⟨2,a0.At,a0.S.Var,w4_1⟩:Event)]).map aw).all (fun e=>e.nc==4)=true)<|ai ((fl h28 (by decide)):((c0.R.Events.map aw).length+(([(⟨2,a0.At,a0.S.Var,w4_1⟩:Event)]).map aw).length)*32≤140737488355328)<|ai ((fm h28):(c0.R.Events.map aw).length+(([(⟨2,a0.At,a0.S.Var,w4_1⟩:Event)]).map aw).length≤maxLen)<|ai (List.map_append.symm:c0.R.Events.map aw++([(⟨2,a0.At,a0.S.Var,w4_1⟩:Event)]).map aw=(c0.R.Events++([(⟨2,a0.At,a0.S.Var,w4_1⟩:Event)])).map aw)<|kY<|ai (Nat.ne_of_lt hk_k0)<|ai (aq hp k0 (((((aL c0).set 10 .u).set 11 (.o 3 (w5_1.map (I)))).set 12 (.o 3 (w4_2.map (I)))).set 17 (.b false)))<|ai (Nat.ne_of_lt hk_k0)<|ai (aV hp k0 (((((aL c0).set 10 .u).set 11 (.o 3 (w5_1.map (I)))).set 12 (.o 3 (w4_2.map (I)))).set 17 (.b false)) (((((aL c0).set 10 (.o 73 ((c0.R.Events++([(⟨2,a0.At,a0.S.Var,w4_1⟩:Event)])).map aw))).set 11 (.o 3 (w5_1.map (I)))).set 12 (.o 3 (w4_2.map (I)))).set 17 (.b false)))<|L h) (fun h27 h=>ai h27<|aM h (fun h28 h=>ai h28<|ai ((by simp [af,aS,cJ,aP,AV.aQ,AV.aN,AV.bI,aG hk_k0]):(([227,228]:List Nat).all (cJ dp (⟨[(0,(.p k0 0)),(3,(.p ⟨dp,3⟩ 0)),(4,(.p ⟨dp,4⟩ 0)),(5,(I w4_1)),(213,(.b (a0.S.Kind==6)))],[(3,(aS a0)),(4,(af a0.S))],H0⟩:St))&&true)=true)<|ai (fE hk_k0 [227,228])<|ai (fE hk_k0 [227,228])<|ai (fE hk_k0 [227,228])<|ai ((by simp [aR,okB,bY,AV.aQ,AV.aN,AV.bI,aG hk_k0]):(aR dp [227,228] (.p k0 10)&&okB dp [] (.p k0 10))=true)<|ai ((by simp [aR,okB,bY,AV.aQ,AV.aN,AV.bI,aG hk_k0]):(aR dp [227,228] (.p k0 10)&&okB dp [] (.p k0 10))=true)<|ai (Nat.ne_of_lt hk_k0)<|ai (aq hp k0 ((((aI c0).set 11 (.o 3 (w5_1.map (I)))).set 12 (.o 3 (w4_2.map (I)))).set 17 (.b false)))<|ai ((by simp [aR,okB,bY,AV.aQ,AV.aN,AV.bI,aG hk_k0]):(aR dp [227,228] (.r (.c k0 10))&&okB dp [] (.r (.c k0 10)))=true)<|ai ((by simp [aR,okB,bY,AV.aQ,AV.aN,AV.bI,aG hk_k0]):(aR dp [227,228] (.p ⟨dp,3⟩ 1)&&okB dp [] (.p ⟨dp,3⟩ 1))=true)<|ai (rN dp)<|ai tt<|ai ((by simp [aR,okB,bY,AV.aQ,AV.aN,AV.bI,aG hk_k0]):(aR dp [227,228] (.p ⟨dp,4⟩ 1)&&okB dp [] (.p ⟨dp,4⟩ 1))=true)<|ai (rN dp)<|gG<|ai (rfl:[(.a [(I 3),(I a0.At),(I a0.S.Var),(I w4_1)])]=([(⟨3,a0.At,a0.S.Var,w4_1⟩:Event)]).map aw)<|kY<|ai (Nat.ne_of_lt hk_k0)<|ai (aq hp k0 ((((aI c0).set 11 (.o 3 (w5_1.map (I)))).set 12 (.o 3 (w4_2.map (I)))).set 17 (.b false)))<|ai (Nat.ne_of_lt hk_k0)<|ai (aq hp k0 ((((aI c0).set 11 (.o 3 (w5_1.map (I)))).set 12 (.o 3 (w4_2.map (I)))).set 17 (.b false)))<|ai (Nat.ne_of_lt hk_k0)<|ai (aV hp k0 ((((aI c0).set 11 (.o 3 (w5_1.map (I)))).set 12 (.o 3 (w4_2.map (I)))).set 17 (.b false)) (((((aL c0).set 10 .u).set 11 (.o 3 (w5_1.map (I)))).set 12 (.o 3 (w4_2.map (I)))).set 17 (.b false)))<|aA h fun h29 h=>ai ((dR aw (n:=4) (fun _=>rfl) ([(⟨3,a0.At,a0.S.Var,w4_1⟩:Event)])):(([(⟨3,a0.At,a0.S.Var,w4_1⟩:Event)]).map aw).all (fun e=>e.nc==4)=true)<|ai ((fl h29 (by decide)):((c0.R.Events.map aw).length+(([(⟨3,a0.At,a0.S.Var,w4_1⟩:Event)]).map aw).length)*32≤140737488355328)<|ai ((fm h29):(c0.R.Events.map aw).length+(([(⟨3,a0.At,a0.S.Var,w4_1⟩:Event)]).map aw).length≤maxLen)<|ai (List.map_append.symm:c0.R.Events.map aw++([(⟨3,a0.At,a0.S.Var,w4_1⟩:Event)]).map aw=(c0.R.Events++([(⟨3,a0.At,a0.S.Var,w4_1⟩:Event)])).map aw)<|kY<|ai (Nat.ne_of_lt hk_k0)<|ai (aq hp k0 (((((aL c0).set 10 .u).set 11 (.o 3 (w5_1.map (I)))).set 12 (.o 3 (w4_2.map (I)))).set 17 (.b false)))<|ai (Nat.ne_of_lt hk_k0)<|ai (aV hp k0 (((((aL c0).set 10 .u).set 11 (.o 3 (w5_1.map (I)))).set 12 (.o 3 (w4_2.map (I)))).set 17 (.b false)) (((((aL c0).set 10 (.o 73 ((c0.R.Events++([(⟨3,a0.At,a0.S.Var,w4_1⟩:Event)])).map aw))).set 11 (.o 3 (w5_1.map (I)))).set 12 (.o 3 (w4_2.map (I)))).set 17 (.b false)))<|L h) (fun h28 h=>ai h28<|L h)))
def eO(w4_1:Int)(w4_2:(List Int)):Option (((List Event)×(List Int)×(List Int))⊕(Int×(List Int)×(List Int))):=
 if (a0.S.Kind !=4)=true then
  (dU a0.S.Var).bind fun (j22:Nat)=>
  (c0.R.Vars[j22]?).bind fun (y24:Int)=>
  (ig c0 a0 w4_1 w4_2 (c0.R.Vars.set j22 w4_1)).bind fun (x26:((List Int)⊕((List Int)⊕((List Int)⊕(List Int)))))=>match x26 with
  | .inl ya_27=>
   some (.inl (c0.R.Events++([(⟨1,a0.At,a0.S.Other,w4_1⟩:Event)]),ya_27,w4_2))
  | .inr (.inl yb_27)=>
   some (.inl (c0.R.Events++([(⟨2,a0.At,a0.S.Var,w4_1⟩:Event)]),yb_27,w4_2))
  | .inr (.inr (.inl yc_27))=>
   some (.inl (c0.R.Events++([(⟨3,a0.At,a0.S.Var,w4_1⟩:Event)]),yc_27,w4_2))
  | .inr (.inr (.inr yd_27))=>
   some (.inr (w4_1,yd_27,w4_2))
 else
  (ig c0 a0 w4_1 w4_2 c0.R.Vars).bind fun (x22:((List Int)⊕((List Int)⊕((List Int)⊕(List Int)))))=>match x22 with
  | .inl ya_23=>
   some (.inl (c0.R.Events++([(⟨1,a0.At,a0.S.Other,w4_1⟩:Event)]),ya_23,w4_2))
  | .inr (.inl yb_23)=>
   some (.inl (c0.R.Events++([(⟨2,a0.At,a0.S.Var,w4_1⟩:Event)]),yb_23,w4_2))
  | .inr (.inr (.inl yc_23))=>
   some (.inl (c0.R.Events++([(⟨3,a0.At,a0.S.Var,w4_1⟩:Event)]),yc_23,w4_2))
  | .inr (.inr (.inr yd_23))=>
   some (.inr (w4_1,yd_23,w4_2))
abbrev Ah(c0:Machine)(a0:Task)(w4_1:Int)(w4_2:(List Int))(x:(((List Event)×(List Int)×(List Int))⊕(Int×(List Int)×(List Int)))):aJ×St:=match x with | .inl (z1,z2,z3)=>(.nrm,⟨[],[],ad hp k0 (((((aL c0).set 10 (.o 73 (z1.map aw))).set 11 (.o 3 (z2.map (I)))).set 12 (.o 3 (z3.map (I)))).set 17 (.b false))⟩) | .inr (z1,z2,z3)=>(.nrm,⟨[(0,(.p k0 0)),(3,(.p ⟨dp,3⟩ 0)),(4,(.p ⟨dp,4⟩ 0)),(5,(I z1)),(213,(.b (a0.S.Kind==6)))],[(3,(aS a0)),(4,(af a0.S))],ad hp k0 ((((aI c0).set 11 (.o 3 (z2.map (I)))).set 12 (.o 3 (z3.map (I)))).set 17 (.b false))⟩)
theorem mU(hk_k0:k0.dp<dp)(hz:bm dp hp)(c0:Machine)(a0:Task)(w4_1:Int)(w4_2:(List Int))(x:(((List Event)×(List Int)×(List Int))⊕(Int×(List Int)×(List Int))))(h:eO c0 a0 w4_1 w4_2=some x):run G Ω0 ⟨dp,false⟩ LF ⟨[(0,(.p k0 0)),(3,(.p ⟨dp,3⟩ 0)),(4,(.p ⟨dp,4⟩ 0)),(5,(I w4_1))],[(3,(aS a0)),(4,(af a0.S))],ad hp k0 (((bE c0).set 12 (.o 3 (w4_2.map (I)))).set 17 (.b false))⟩=some (Ah dp hp k0 c0 a0 w4_1 w4_2 x):=
 ga (bt<|.or (fF<|ao (.l (((bE c0).set 12 (.o 3 (w4_2.map (I)))).set 17 (.b false)))<|bt<|xN fun j22=>bf<|ao (.l (((bE c0).set 12 (.o 3 (w4_2.map (I)))).set 17 (.b false)))<|xI fun y24=>bf<|ao (.l (((bE c0).set 12 (.o 3 (w4_2.map (I)))).set 17 (.b false)))<|ao (.v (I y24))<|ao (.l ((c0.R.Vars.set j22 w4_1).map (I)))<|bf<|ao (.l (((bE c0).set 12 (.o 3 (w4_2.map (I)))).set 17 (.b false)))<|bf<|ao (.h (ad hp k0 ((((aI c0).set 11 (.o 3 ((c0.R.Vars.set j22 w4_1).map (I)))).set 12 (.o 3 (w4_2.map (I)))).set 17 (.b false))))<|.fb<|.or (.ex fun (ya_27:(List Int))=>ao (.fr .nrm ⟨[],[],ad hp k0 (((((aL c0).set 10 (.o 73 ((c0.R.Events++([(⟨1,a0.At,a0.S.Other,w4_1⟩:Event)])).map aw))).set 11 (.o 3 (ya_27.map (I)))).set 12 (.o 3 (w4_2.map (I)))).set 17 (.b false))⟩)<|.nil) (.or (.ex fun (yb_27:(List Int))=>ao (.fr .nrm ⟨[],[],ad hp k0 (((((aL c0).set 10 (.o 73 ((c0.R.Events++([(⟨2,a0.At,a0.S.Var,w4_1⟩:Event)])).map aw))).set 11 (.o 3 (yb_27.map (I)))).set 12 (.o 3 (w4_2.map (I)))).set 17 (.b false))⟩)<|.nil) (.or (.ex fun (yc_27:(List Int))=>ao (.fr .nrm ⟨[],[],ad hp k0 (((((aL c0).set 10 (.o 73 ((c0.R.Events++([(⟨3,a0.At,a0.S.Var,w4_1⟩:Event)])).map aw))).set 11 (.o 3 (yc_27.map (I)))).set 12 (.o 3 (w4_2.map (I)))).set 17 (.b false))⟩)<|.nil) (.ex fun (yd_27:(List Int))=>ao (.fr .nrm ⟨[(0,(.p k0 0)),(3,(.p ⟨dp,3⟩ 0)),(4,(.p ⟨dp,4⟩ 0)),(5,(I w4_1)),(213,(.b (a0.S.Kind==6)))],[(3,(aS a0)),(4,(af a0.S))],ad hp k0 ((((aI c0).set 11 (.o 3 (yd_27.map (I)))).set 12 (.o 3 (w4_2.map (I)))).set 17 (.b false))⟩)<|.nil)))) (bf<|.fb<|.or (.ex fun (ya_23:(List Int))=>ao (.fr .nrm ⟨[],[],ad hp k0 (((((aL c0).set 10 (.o 73 ((c0.R.Events++([(⟨1,a0.At,a0.S.Other,w4_1⟩:Event)])).map aw))).set 11 (.o 3 (ya_23.map (I)))).set 12 (.o 3 (w4_2.map (I)))).set 17 (.b false))⟩)<|.nil) (.or (.ex fun (yb_23:(List Int))=>ao (.fr .nrm ⟨[],[],ad hp k0 (((((aL c0).set 10 (.o 73 ((c0.R.Events++([(⟨2,a0.At,a0.S.Var,w4_1⟩:Event)])).map aw))).set 11 (.o 3 (yb_23.map (I)))).set 12 (.o 3 (w4_2.map (I)))).set 17 (.b false))⟩)<|.nil) (.or (.ex fun (yc_23:(List Int))=>ao (.fr .nrm ⟨[],[],ad hp k0 (((((aL c0).set 10 (.o 73 ((c0.R.Events++([(⟨3,a0.At,a0.S.Var,w4_1⟩:Event)])).map aw))).set 11 (.o 3 (yc_23.map (I)))).set 12 (.o 3 (w4_2.map (I)))).set 17 (.b false))⟩)<|.nil) (.ex fun (yd_23:(List Int))=>ao (.fr .nrm ⟨[(0,(.p k0 0)),(3,(.p ⟨dp,3⟩ 0)),(4,(.p ⟨dp,4⟩ 0)),(5,(I w4_1)),(213,(.b (a0.S.Kind==6)))],[(3,(aS a0)),(4,(af a0.S))],ad hp k0 ((((aI c0).set 11 (.o 3 (yd_23.map (I)))).set 12 (.o 3 (w4_2.map (I)))).set 17 (.b false))⟩)<|.nil))))) fun L=>ai (rN dp)<|aM h (fun h21 h=>ai h21<|ai tt<|ai tt<|ai tt<|ai tt<|ai tt<|ai (Nat.ne_of_lt hk_k0)<|ai (aq hp k0 (((bE c0).set 12 (.o 3 (w4_2.map (I)))).set 17 (.b false)))<|cD<|ai (rN dp)<|cD<|fG h fun j22 h23 h=>ai h23<|ai (Nat.ne_of_lt hk_k0)<|ai (aq hp k0 (((bE c0).set 12 (.o 3 (w4_2.map (I)))).set 17 (.b false)))<|ba h fun y24 h25 h=>ai (ay (I) h25)<|ai ff<|ai (Nat.ne_of_lt hk_k0)<|ai (aq hp k0 (((bE c0).set 12 (.o 3 (w4_2.map (I)))).set 17 (.b false)))<|ai (ay (I) h25)<|ai (map_set .. : (c0.R.Vars.map (I)).set j22 (I w4_1)=(c0.R.Vars.set j22 w4_1).map (I))<|ai (Nat.ne_of_lt hk_k0)<|ai (aq hp k0 (((bE c0).set 12 (.o 3 (w4_2.map (I)))).set 17 (.b false)))<|ai (Nat.ne_of_lt hk_k0)<|ai (aV hp k0 (((bE c0).set 12 (.o 3 (w4_2.map (I)))).set 17 (.b false)) ((((aI c0).set 11 (.o 3 ((c0.R.Vars.set j22 w4_1).map (I)))).set 12 (.o 3 (w4_2.map (I)))).set 17 (.b false)))<|BZ h (rn dp hp k0 hk_k0 hz c0 a0 w4_1 w4_2 (c0.R.Vars.set j22 w4_1)) (fun ya_27 h=>L h) (fun yb_27 h=>L h) (fun yc_27 h=>L h) (fun yd_27 h=>L h)) (fun h21 h=>ai h21<|BZ h (rn dp hp k0 hk_k0 hz c0 a0 w4_1 w4_2 c0.R.Vars) (fun ya_23 h=>L h) (fun yb_23 h=>L h) (fun yc_23 h=>L h) (fun yd_23 h=>L h))
abbrev D7(dp:Nat)(hp:HP)(k0:Key)(c0:Machine)(a0:Task)(r:Machine):bh×HP:=(.ret (.tp []),ad hp k0 ((ab r).set 17 (.b false)))
def eG:Option Machine:=
 if (a0.S.Kind==2)=true then
  (lq c0 a0).bind fun (r2:Machine)=>
  some r2
 else
  if (a0.S.Kind==7)=true then
   if c0.Tasks.length+([(⟨3,0,(⟨0,0,0,(⟨0,0,([]:List ag)⟩:ag),([]:List ag),([]:List Stmt),([]:List Stmt)⟩:Stmt),(c0.Places.length:Int)⟩:Task)]).length≤1000000000 then
    (jk (⟨c0.P,c0.Ins,c0.Fuel,c0.R,c0.Tasks++([(⟨3,0,(⟨0,0,0,(⟨0,0,([]:List ag)⟩:ag),([]:List ag),([]:List Stmt),([]:List Stmt)⟩:Stmt),(c0.Places.length:Int)⟩:Task)]),(),c0.Levels,c0.Places⟩:Machine) a0.S.Expr).bind fun (r4:Bool)=>
    if r4=true then
     if IntKind.i64.wrap (a0.At+1)=a0.At+1 then
      (eo (⟨c0.P,c0.Ins,c0.Fuel,c0.R,c0.Tasks++([(⟨3,0,(⟨0,0,0,(⟨0,0,([]:List ag)⟩:ag),([]:List ag),([]:List Stmt),([]:List Stmt)⟩:Stmt),(c0.Places.length:Int)⟩:Task)]),(),c0.Levels,c0.Places⟩:Machine) a0.S.Then (a0.At+1)).bind fun (r8:Machine)=>
      some r8
     else none
    else
     if IntKind.i64.wrap (a0.At+1)=a0.At+1 then
      (pj a0.S.Then).bind fun (r8:Int)=>
      if IntKind.i64.wrap ((a0.At+1)+r8)=(a0.At+1)+r8 then
       (eo (⟨c0.P,c0.Ins,c0.Fuel,c0.R,c0.Tasks++([(⟨3,0,(⟨0,0,0,(⟨0,0,([]:List ag)⟩:ag),([]:List ag),([]:List Stmt),([]:List Stmt)⟩:Stmt),(c0.Places.length:Int)⟩:Task)]),(),c0.Levels,c0.Places⟩:Machine) a0.S.Else ((a0.At+1)+r8)).bind fun (r11:Machine)=>
       some r11
      else none
     else none
   else none
  else
   if (a0.S.Kind==8)=true then
    if (a0.Kind==0)=true then
     if c0.Tasks.length+([(⟨3,0,(⟨0,0,0,(⟨0,0,([]:List ag)⟩:ag),([]:List ag),([]:List Stmt),([]:List Stmt)⟩:Stmt),(c0.Places.length:Int)⟩:Task)]).length≤1000000000 then
      (ie c0 a0 (c0.Tasks++([(⟨3,0,(⟨0,0,0,(⟨0,0,([]:List ag)⟩:ag),([]:List ag),([]:List Stmt),([]:List Stmt)⟩:Stmt),(c0.Places.length:Int)⟩:Task)]))).bind fun (x6:(Machine⊕(Bool×Machine)))=>match x6 with
      | .inl ya_7=>
       some ya_7
      | .inr yb_7=>
       some yb_7.2
     else none
    else
     (ie c0 a0 c0.Tasks).bind fun (x5:(Machine⊕(Bool×Machine)))=>match x5 with
     | .inl ya_6=>
      some ya_6
     | .inr yb_6=>
      some yb_6.2
   else
    (lP c0 a0.S).bind fun (r4:Bool)=>
    if r4=true then
     if (a0.S.Kind==3)=true then
      (dU a0.S.Other).bind fun (j8:Nat)=>
      (c0.Ins[j8]?).bind fun (y10:(List Int))=>
      (c0.R.Taken[j8]?).bind fun (y12:Int)=>
      if y12<(y10.length:Int) then
       (dU y12).bind fun (j15:Nat)=>
       (y10[j15]?).bind fun (y17:Int)=>
       (fB c0 a0 y17).bind fun (x19:(Int×(List Int)))=>
       (eO c0 a0 x19.1 x19.2).bind fun (x21:(((List Event)×(List Int)×(List Int))⊕(Int×(List Int)×(List Int))))=>match x21 with
       | .inl ya_22=>
        some (⟨c0.P,c0.Ins,c0.Fuel,(⟨ya_22.1,ya_22.2.1,ya_22.2.2,c0.R.Steps,c0.R.End,c0.R.Stop⟩:RunT),c0.Tasks,(),c0.Levels,c0.Places⟩:Machine)
       | .inr yb_22=>
        some (⟨c0.P,c0.Ins,c0.Fuel,(⟨c0.R.Events,yb_22.2.1,yb_22.2.2,c0.R.Steps,c0.R.End,c0.R.Stop⟩:RunT),c0.Tasks,(),c0.Levels,c0.Places⟩:Machine)
      else
       (fB c0 a0 0).bind fun (x15:(Int×(List Int)))=>
       (eO c0 a0 x15.1 x15.2).bind fun (x17:(((List Event)×(List Int)×(List Int))⊕(Int×(List Int)×(List Int))))=>match x17 with
       | .inl ya_18=>
        some (⟨c0.P,c0.Ins,c0.Fuel,(⟨ya_18.1,ya_18.2.1,ya_18.2.2,c0.R.Steps,c0.R.End,c0.R.Stop⟩:RunT),c0.Tasks,(),c0.Levels,c0.Places⟩:Machine)
       | .inr yb_18=>
        some (⟨c0.P,c0.Ins,c0.Fuel,(⟨c0.R.Events,yb_18.2.1,yb_18.2.2,c0.R.Steps,c0.R.End,c0.R.Stop⟩:RunT),c0.Tasks,(),c0.Levels,c0.Places⟩:Machine)
     else
      (kq a0.S.Expr c0.R.Vars).bind fun (r8:Int)=>
      (eO c0 a0 r8 c0.R.Taken).bind fun (x10:(((List Event)×(List Int)×(List Int))⊕(Int×(List Int)×(List Int))))=>match x10 with
      | .inl ya_11=>
       some (⟨c0.P,c0.Ins,c0.Fuel,(⟨ya_11.1,ya_11.2.1,ya_11.2.2,c0.R.Steps,c0.R.End,c0.R.Stop⟩:RunT),c0.Tasks,(),c0.Levels,c0.Places⟩:Machine)
      | .inr yb_11=>
       some (⟨c0.P,c0.Ins,c0.Fuel,(⟨c0.R.Events,yb_11.2.1,yb_11.2.2,c0.R.Steps,c0.R.End,c0.R.Stop⟩:RunT),c0.Tasks,(),c0.Levels,c0.Places⟩:Machine)
    else
     (qg c0 a0.At).bind fun (r7:Machine)=>
     some r7
theorem Ai(hk_k0:k0.dp<dp)(hz:bm dp hp)(c0:Machine)(a0:Task)(r:Machine)(h:eG c0 a0=some r):call G Ω0 ⟨dp,false⟩ 19 [(.p k0 0),(.a (aS a0))] (ad hp k0 ((ab c0).set 17 (.b false)))=some (D7 dp hp k0 c0 a0 r):=
 aO G19 (jt<|.or (b5<|.ex fun (r2:Machine)=>ao (.v (.tp []))<|ao (.h (boxes dp [(3,(aS a0)),(4,(af a0.S))] (ad hp k0 ((ab r2).set 17 (.b false)))))<|ao (.bx [(3,(aS a0)),(4,(af a0.S))])<|ao (.h (ad hp k0 ((ab r2).set 17 (.b false))))<|.nil) (bf<|.or (fF<|ao (.l ((ab c0).set 17 (.b false)))<|bf<|ao (.l ((ab c0).set 17 (.b false)))<|bf<|ao (.l ((ab c0).set 17 (.b false)))<|ao (.i (c0.Places.length:Int))<|ao (.l (([(⟨3,0,(⟨0,0,0,(⟨0,0,([]:List ag)⟩:ag),([]:List ag),([]:List Stmt),([]:List Stmt)⟩:Stmt),(c0.Places.length:Int)⟩:Task)]).map az))<|bf<|ao (.l ((ab c0).set 17 (.b false)))<|bf<|ao (.l ((ab c0).set 17 (.b false)))<|bf<|ao (.h (ad hp k0 (((aj c0).set 16 .u).set 17 (.b false))))<|ao (.l ((c0.Tasks++([(⟨3,0,(⟨0,0,0,(⟨0,0,([]:List ag)⟩:ag),([]:List ag),([]:List Stmt),([]:List Stmt)⟩:Stmt),(c0.Places.length:Int)⟩:Task)])).map az))<|bf<|ao (.l (((aj c0).set 16 .u).set 17 (.b false)))<|bf<|ao (.h (ad hp k0 (((aj c0).set 16 (.o 67 ((c0.Tasks++([(⟨3,0,(⟨0,0,0,(⟨0,0,([]:List ag)⟩:ag),([]:List ag),([]:List Stmt),([]:List Stmt)⟩:Stmt),(c0.Places.length:Int)⟩:Task)])).map az))).set 17 (.b false))))<|bt<|xB fun r4=>ao (.h (boxes dp [(3,(aS a0)),(4,(af a0.S))] (ad hp k0 (((aj c0).set 16 (.o 67 ((c0.Tasks++([(⟨3,0,(⟨0,0,0,(⟨0,0,([]:List ag)⟩:ag),([]:List ag),([]:List Stmt),([]:List Stmt)⟩:Stmt),(c0.Places.length:Int)⟩:Task)])).map az))).set 17 (.b false)))))<|ao (.bx [(3,(aS a0)),(4,(af a0.S))])<|ao (.h (ad hp k0 (((aj c0).set 16 (.o 67 ((c0.Tasks++([(⟨3,0,(⟨0,0,0,(⟨0,0,([]:List ag)⟩:ag),([]:List ag),([]:List Stmt),([]:List Stmt)⟩:Stmt),(c0.Places.length:Int)⟩:Task)])).map az))).set 17 (.b false))))<|.or (cR<|ao (.i (a0.At+1))<|.ex fun (r8:Machine)=>ao (.v (.tp []))<|ao (.h (boxes dp [(3,(aS a0)),(4,(af a0.S))] (ad hp k0 ((ab r8).set 17 (.b false)))))<|ao (.bx [(3,(aS a0)),(4,(af a0.S))])<|ao (.h (ad hp k0 ((ab r8).set 17 (.b false))))<|.nil) (bf<|bt<|bt<|ao (.i (a0.At+1))<|bt<|xI fun r8=>ao (.i ((a0.At+1)+r8))<|.ex fun (r11:Machine)=>ao (.v (.tp []))<|ao (.h (boxes dp [(3,(aS a0)),(4,(af a0.S))] (ad hp k0 ((ab r11).set 17 (.b false)))))<|ao (.bx [(3,(aS a0)),(4,(af a0.S))])<|ao (.h (ad hp k0 ((ab r11).set 17 (.b false))))<|.nil)) (bf<|.or (b5<|.or (fF<|ao (.l ((ab c0).set 17 (.b false)))<|bf<|ao (.l ((ab c0).set 17 (.b false)))<|bf<|ao (.l ((ab c0).set 17 (.b false)))<|ao (.i (c0.Places.length:Int))<|ao (.l (([(⟨3,0,(⟨0,0,0,(⟨0,0,([]:List ag)⟩:ag),([]:List ag),([]:List Stmt),([]:List Stmt)⟩:Stmt),(c0.Places.length:Int)⟩:Task)]).map az))<|bf<|ao (.l ((ab c0).set 17 (.b false)))<|bf<|ao (.l ((ab c0).set 17 (.b false)))<|bf<|ao (.h (ad hp k0 (((aj c0).set 16 .u).set 17 (.b false))))<|ao (.l ((c0.Tasks++([(⟨3,0,(⟨0,0,0,(⟨0,0,([]:List ag)⟩:ag),([]:List ag),([]:List Stmt),([]:List Stmt)⟩:Stmt),(c0.Places.length:Int)⟩:Task)])).map az))<|bf<|ao (.l (((aj c0).set 16 .u).set 17 (.b false)))<|bf<|ao (.h (ad hp k0 (((aj c0).set 16 (.o 67 ((c0.Tasks++([(⟨3,0,(⟨0,0,0,(⟨0,0,([]:List ag)⟩:ag),([]:List ag),([]:List Stmt),([]:List Stmt)⟩:Stmt),(c0.Places.length:Int)⟩:Task)])).map az))).set 17 (.b false))))<|.fb<|.or (.ex fun (ya_7:Machine)=>ao (.fr .ret ⟨[],[],ad hp k0 ((ab ya_7).set 17 (.b false))⟩)<|.nil) (.ex fun (yb_7:(Bool×Machine))=>ao (.fr .ret ⟨[(0,(.p k0 0)),(3,(.p ⟨dp,3⟩ 0)),(4,(.p ⟨dp,4⟩ 0)),(78,(.b yb_7.1))],[(3,(aS a0)),(4,(af a0.S))],ad hp k0 ((ab yb_7.2).set 17 (.b false))⟩)<|.nil)) (bf<|.fb<|.or (.ex fun (ya_6:Machine)=>ao (.fr .ret ⟨[],[],ad hp k0 ((ab ya_6).set 17 (.b false))⟩)<|.nil) (.ex fun (yb_6:(Bool×Machine))=>ao (.fr .ret ⟨[(0,(.p k0 0)),(3,(.p ⟨dp,3⟩ 0)),(4,(.p ⟨dp,4⟩ 0)),(78,(.b yb_6.1))],[(3,(aS a0)),(4,(af a0.S))],ad hp k0 ((ab yb_6.2).set 17 (.b false))⟩)<|.nil))) (rT<|xB fun r4=>ao (.h (boxes dp [(3,(aS a0)),(4,(af a0.S))] (ad hp k0 ((ab c0).set 17 (.b false)))))<|ao (.bx [(3,(aS a0)),(4,(af a0.S))])<|ao (.h (ad hp k0 ((ab c0).set 17 (.b false))))<|.or (rT<|.or (fF<|ao (.l ((ab c0).set 17 (.b false)))<|bt<|xN fun j8=>.ex fun (y10:(List Int))=>ao (.v (.l 3 (y10.map (I))))<|bf<|ao (.l ((ab c0).set 17 (.b false)))<|bt<|ao (.n j8)<|bf<|ao (.l ((ab c0).set 17 (.b false)))<|xI fun y12=>bf<|ao (.l ((ab c0).set 17 (.b false)))<|ao (.v (I y12))<|ao (.i (y10.length:Int))<|.or (fF<|ao (.l ((ab c0).set 17 (.b false)))<|bt<|ao (.n j8)<|bf<|ao (.l ((ab c0).set 17 (.b false)))<|ao (.v (I y12))<|bf<|ao (.l ((ab c0).set 17 (.b false)))<|ao (.v (I y12))<|xN fun j15=>xI fun y17=>.fb<|.ex fun (x19:(Int×(List Int)))=>ao (.fr .nrm ⟨[(0,(.p k0 0)),(3,(.p ⟨dp,3⟩ 0)),(4,(.p ⟨dp,4⟩ 0)),(5,(I x19.1))],[(3,(aS a0)),(4,(af a0.S))],ad hp k0 (((bE c0).set 12 (.o 3 (x19.2.map (I)))).set 17 (.b false))⟩)<|.fb<|.or (.ex fun (ya_22:((List Event)×(List Int)×(List Int)))=>ao (.fr .nrm ⟨[],[],ad hp k0 (((((aL c0).set 10 (.o 73 (ya_22.1.map aw))).set 11 (.o 3 (ya_22.2.1.map (I)))).set 12 (.o 3 (ya_22.2.2.map (I)))).set 17 (.b false))⟩)<|.nil) (.ex fun (yb_22:(Int×(List Int)×(List Int)))=>ao (.fr .nrm ⟨[(0,(.p k0 0)),(3,(.p ⟨dp,3⟩ 0)),(4,(.p ⟨dp,4⟩ 0)),(5,(I yb_22.1)),(213,(.b (a0.S.Kind==6)))],[(3,(aS a0)),(4,(af a0.S))],ad hp k0 ((((aI c0).set 11 (.o 3 (yb_22.2.1.map (I)))).set 12 (.o 3 (yb_22.2.2.map (I)))).set 17 (.b false))⟩)<|.nil)) (bf<|.fb<|.ex fun (x15:(Int×(List Int)))=>ao (.fr .nrm ⟨[(0,(.p k0 0)),(3,(.p ⟨dp,3⟩ 0)),(4,(.p ⟨dp,4⟩ 0)),(5,(I x15.1))],[(3,(aS a0)),(4,(af a0.S))],ad hp k0 (((bE c0).set 12 (.o 3 (x15.2.map (I)))).set 17 (.b false))⟩)<|.fb<|.or (.ex fun (ya_18:((List Event)×(List Int)×(List Int)))=>ao (.fr .nrm ⟨[],[],ad hp k0 (((((aL c0).set 10 (.o 73 (ya_18.1.map aw))).set 11 (.o 3 (ya_18.2.1.map (I)))).set 12 (.o 3 (ya_18.2.2.map (I)))).set 17 (.b false))⟩)<|.nil) (.ex fun (yb_18:(Int×(List Int)×(List Int)))=>ao (.fr .nrm ⟨[(0,(.p k0 0)),(3,(.p ⟨dp,3⟩ 0)),(4,(.p ⟨dp,4⟩ 0)),(5,(I yb_18.1)),(213,(.b (a0.S.Kind==6)))],[(3,(aS a0)),(4,(af a0.S))],ad hp k0 ((((aI c0).set 11 (.o 3 (yb_18.2.1.map (I)))).set 12 (.o 3 (yb_18.2.2.map (I)))).set 17 (.b false))⟩)<|.nil))) (bf<|bt<|bf<|ao (.l ((ab c0).set 17 (.b false)))<|bf<|ao (.l ((ab c0).set 17 (.b false)))<|xI fun r8=>.fb<|.or (.ex fun (ya_11:((List Event)×(List Int)×(List Int)))=>ao (.fr .nrm ⟨[],[],ad hp k0 (((((aL c0).set 10 (.o 73 (ya_11.1.map aw))).set 11 (.o 3 (ya_11.2.1.map (I)))).set 12 (.o 3 (ya_11.2.2.map (I)))).set 17 (.b false))⟩)<|.nil) (.ex fun (yb_11:(Int×(List Int)×(List Int)))=>ao (.fr .nrm ⟨[(0,(.p k0 0)),(3,(.p ⟨dp,3⟩ 0)),(4,(.p ⟨dp,4⟩ 0)),(5,(I yb_11.1)),(213,(.b (a0.S.Kind==6)))],[(3,(aS a0)),(4,(af a0.S))],ad hp k0 ((((aI c0).set 11 (.o 3 (yb_11.2.1.map (I)))).set 12 (.o 3 (yb_11.2.2.map (I)))).set 17 (.b false))⟩)<|.nil))) (b5<|.ex fun (r7:Machine)=>ao (.v (.tp []))<|ao (.h (boxes dp [(3,(aS a0)),(4,(af a0.S))] (ad hp k0 ((ab r7).set 17 (.b false)))))<|ao (.bx [(3,(aS a0)),(4,(af a0.S))])<|ao (.h (ad hp k0 ((ab r7).set 17 (.b false))))<|.nil))))) fun L=>ai ((by simp [aS,AV.aQ,AV.aN,AV.deep,AV.b6,aG hk_k0,Nat.le_of_lt hk_k0]):(((.a (aS a0)):AV).deep dp&&(([(0,(.p k0 0)),(1,(.a (aS a0)))]:List (Nat×AV)).all (fun y=>y.2.aQ ⟨dp,3⟩)&&([]:List (Nat×List AV)).all (fun y=>AV.aN ⟨dp,3⟩ y.2)))=true)<|ai (rN dp)<|ai ((by simp [af,aS,AV.aQ,AV.aN,AV.deep,AV.b6,aG hk_k0,Nat.le_of_lt hk_k0]):(([(8,(.a (af a0.S))),(7,(.p ⟨dp,3⟩ 2)),(0,(.p k0 0)),(3,(.p ⟨dp,3⟩ 0))]:List (Nat×AV)).all (fun y=>y.2.aQ ⟨dp,4⟩)&&([(3,(aS a0))]:List (Nat×List AV)).all (fun y=>AV.aN ⟨dp,4⟩ y.2))=true)<|ai ff<|ai (rN dp)<|ai tt<|ai (rN dp)<|ai (rN dp)<|aM h (fun h1 h=>ai h1<|ai (rN dp)<|gI<|ba h fun r2 ek3 h=>have ek3:=cO hk_k0 (xn (dp+1) (boxes dp [(3,(aS a0)),(4,(af a0.S))] (ad hp k0 ((ab c0).set 17 (.b false)))) k0 (Nat.lt_succ_of_lt hk_k0) (a9 (aH hk_k0 (hz))) c0 a0 _ ek3);ai ek3<|ai (er ek3 (by kernel_rfl) (by kernel_rfl))<|ai (et ek3 (aH hk_k0 (hz)))<|L h) (fun h1 h=>ai h1<|aM h (fun h2 h=>ai h2<|ai ((by simp [af,aS,cJ,aP,AV.aQ,AV.aN,AV.bI,aG hk_k0]):(([29,30]:List Nat).all (cJ dp (⟨[(0,(.p k0 0)),(3,(.p ⟨dp,3⟩ 0)),(4,(.p ⟨dp,4⟩ 0)),(10,(I a0.S.Kind)),(16,(.b (a0.S.Kind==7)))],[(3,(aS a0)),(4,(af a0.S))],H0⟩:St))&&true)=true)<|ai (fE hk_k0 [29,30])<|ai (fE hk_k0 [29,30])<|ai (fE hk_k0 [29,30])<|ai ((by simp [aR,okB,bY,AV.aQ,AV.aN,AV.bI,aG hk_k0]):(aR dp [29,30] (.p k0 16)&&okB dp [] (.p k0 16))=true)<|ai (Nat.ne_of_lt hk_k0)<|ai (aq hp k0 ((ab c0).set 17 (.b false)))<|ai ((by simp [aR,okB,bY,AV.aQ,AV.aN,AV.bI,aG hk_k0]):(aR dp [29,30] (.r (.c k0 16))&&okB dp [] (.r (.c k0 16)))=true)<|ai (fE hk_k0 [29,30])<|ai (fE hk_k0 [29,30])<|ai ((by simp [aR,okB,bY,AV.aQ,AV.aN,AV.bI,aG hk_k0]):(aR dp [29,30] (.p k0 19)&&okB dp [] (.p k0 19))=true)<|ai (Nat.ne_of_lt hk_k0)<|ai (aq hp k0 ((ab c0).set 17 (.b false)))<|ai ((by simp [aR,okB,bY,AV.aQ,AV.aN,AV.bI,aG hk_k0]):(aR dp [29,30] (.r (.c k0 19))&&okB dp [] (.r (.c k0 19)))=true)<|ai (Nat.ne_of_lt hk_k0)<|ai (aq hp k0 ((ab c0).set 17 (.b false)))<|ai (ax bk c0.Places)<|cD<|ai (rfl:[(.a [(I 3),(I 0),(I 0),(I 0),(I 0),(I 0),(I 0),(.l 63 (([]:List ag).map aD)),(.l 63 (([]:List ag).map aD)),(.l 65 (([]:List Stmt).map au)),(.l 65 (([]:List Stmt).map au)),(I (c0.Places.length:Int))])]=([(⟨3,0,(⟨0,0,0,(⟨0,0,([]:List ag)⟩:ag),([]:List ag),([]:List Stmt),([]:List Stmt)⟩:Stmt),(c0.Places.length:Int)⟩:Task)]).map az)<|kY<|ai (Nat.ne_of_lt hk_k0)<|ai (aq hp k0 ((ab c0).set 17 (.b false)))<|ai (Nat.ne_of_lt hk_k0)<|ai (aq hp k0 ((ab c0).set 17 (.b false)))<|ai (Nat.ne_of_lt hk_k0)<|ai (aV hp k0 ((ab c0).set 17 (.b false)) (((aj c0).set 16 .u).set 17 (.b false)))<|aA h fun h3 h=>ai ((dR az (n:=12) (fun _=>rfl) ([(⟨3,0,(⟨0,0,0,(⟨0,0,([]:List ag)⟩:ag),([]:List ag),([]:List Stmt),([]:List Stmt)⟩:Stmt),(c0.Places.length:Int)⟩:Task)])):(([(⟨3,0,(⟨0,0,0,(⟨0,0,([]:List ag)⟩:ag),([]:List ag),([]:List Stmt),([]:List Stmt)⟩:Stmt),(c0.Places.length:Int)⟩:Task)]).map az).all (fun e=>e.nc==12)=true)<|ai ((fl h3 (by decide)):((c0.Tasks.map az).length+(([(⟨3,0,(⟨0,0,0,(⟨0,0,([]:List ag)⟩:ag),([]:List ag),([]:List Stmt),([]:List Stmt)⟩:Stmt),(c0.Places.length:Int)⟩:Task)]).map az).length)*160≤140737488355328)<|ai ((fm h3):(c0.Tasks.map az).length+(([(⟨3,0,(⟨0,0,0,(⟨0,0,([]:List ag)⟩:ag),([]:List ag),([]:List Stmt),([]:List Stmt)⟩:Stmt),(c0.Places.length:Int)⟩:Task)]).map az).length≤maxLen)<|ai (List.map_append.symm:c0.Tasks.map az++([(⟨3,0,(⟨0,0,0,(⟨0,0,([]:List ag)⟩:ag),([]:List ag),([]:List Stmt),([]:List Stmt)⟩:Stmt),(c0.Places.length:Int)⟩:Task)]).map az=(c0.Tasks++([(⟨3,0,(⟨0,0,0,(⟨0,0,([]:List ag)⟩:ag),([]:List ag),([]:List Stmt),([]:List Stmt)⟩:Stmt),(c0.Places.length:Int)⟩:Task)])).map az)<|kY<|ai (Nat.ne_of_lt hk_k0)<|ai (aq hp k0 (((aj c0).set 16 .u).set 17 (.b false)))<|ai (Nat.ne_of_lt hk_k0)<|ai (aV hp k0 (((aj c0).set 16 .u).set 17 (.b false)) (((aj c0).set 16 (.o 67 ((c0.Tasks++([(⟨3,0,(⟨0,0,0,(⟨0,0,([]:List ag)⟩:ag),([]:List ag),([]:List Stmt),([]:List Stmt)⟩:Stmt),(c0.Places.length:Int)⟩:Task)])).map az))).set 17 (.b false)))<|ai (rN dp)<|gI<|ba h fun r4 ek5 h=>have ek5:=cO hk_k0 (qf (dp+1) (boxes dp [(3,(aS a0)),(4,(af a0.S))] (ad hp k0 (((aj c0).set 16 (.o 67 ((c0.Tasks++([(⟨3,0,(⟨0,0,0,(⟨0,0,([]:List ag)⟩:ag),([]:List ag),([]:List Stmt),([]:List Stmt)⟩:Stmt),(c0.Places.length:Int)⟩:Task)])).map az))).set 17 (.b false)))) k0 (Nat.lt_succ_of_lt hk_k0) (a9 (aH hk_k0 (hz))) (⟨c0.P,c0.Ins,c0.Fuel,c0.R,c0.Tasks++([(⟨3,0,(⟨0,0,0,(⟨0,0,([]:List ag)⟩:ag),([]:List ag),([]:List Stmt),([]:List Stmt)⟩:Stmt),(c0.Places.length:Int)⟩:Task)]),(),c0.Levels,c0.Places⟩:Machine) a0.S.Expr _ ek5);ai ek5<|ai (er ek5 (by kernel_rfl) (by kernel_rfl))<|ai (et ek5 (aH hk_k0 (hz)))<|aM h (fun h6 h=>ai h6<|ai (rN dp)<|ai (rN dp)<|aA h fun w7 h=>ai w7<|gI<|ba h fun r8 ek9 h=>have ek9:=cO hk_k0 (fT (dp+1) (boxes dp [(3,(aS a0)),(4,(af a0.S))] (ad hp k0 (((aj c0).set 16 (.o 67 ((c0.Tasks++([(⟨3,0,(⟨0,0,0,(⟨0,0,([]:List ag)⟩:ag),([]:List ag),([]:List Stmt),([]:List Stmt)⟩:Stmt),(c0.Places.length:Int)⟩:Task)])).map az))).set 17 (.b false)))) k0 (Nat.lt_succ_of_lt hk_k0) (a9 (aH hk_k0 (hz))) (⟨c0.P,c0.Ins,c0.Fuel,c0.R,c0.Tasks++([(⟨3,0,(⟨0,0,0,(⟨0,0,([]:List ag)⟩:ag),([]:List ag),([]:List Stmt),([]:List Stmt)⟩:Stmt),(c0.Places.length:Int)⟩:Task)]),(),c0.Levels,c0.Places⟩:Machine) a0.S.Then (a0.At+1) _ ek9);ai ek9<|ai (er ek9 (by kernel_rfl) (by kernel_rfl))<|ai (et ek9 (aH hk_k0 (hz)))<|L h) (fun h6 h=>FD h6<|ai (rN dp)<|cD<|ai (rN dp)<|ai tt<|aA h fun w7 h=>ai w7<|cD<|ai (rN dp)<|ai tt<|aB h (pR a0.S.Then) fun r8 h=>ai tt<|aA h fun w10 h=>ai w10<|ai tt<|ai ff<|ai tt<|ba h fun r11 ek12 h=>have ek12:=cO hk_k0 (fT (dp+1) (boxes dp [(3,(aS a0)),(4,(af a0.S))] (ad hp k0 (((aj c0).set 16 (.o 67 ((c0.Tasks++([(⟨3,0,(⟨0,0,0,(⟨0,0,([]:List ag)⟩:ag),([]:List ag),([]:List Stmt),([]:List Stmt)⟩:Stmt),(c0.Places.length:Int)⟩:Task)])).map az))).set 17 (.b false)))) k0 (Nat.lt_succ_of_lt hk_k0) (a9 (aH hk_k0 (hz))) (⟨c0.P,c0.Ins,c0.Fuel,c0.R,c0.Tasks++([(⟨3,0,(⟨0,0,0,(⟨0,0,([]:List ag)⟩:ag),([]:List ag),([]:List Stmt),([]:List Stmt)⟩:Stmt),(c0.Places.length:Int)⟩:Task)]),(),c0.Levels,c0.Places⟩:Machine) a0.S.Else ((a0.At+1)+r8) _ ek12);ai ek12<|ai (er ek12 (by kernel_rfl) (by kernel_rfl))<|ai (et ek12 (aH hk_k0 (hz)))<|L h)) (fun h2 h=>ai h2<|aM h (fun h3 h=>ai h3<|ai (rN dp)<|aM h (fun h4 h=>ai h4<|ai ((by simp [af,aS,cJ,aP,AV.aQ,AV.aN,AV.bI,aG hk_k0]):(([71,72]:List Nat).all (cJ dp (⟨[(0,(.p k0 0)),(3,(.p ⟨dp,3⟩ 0)),(4,(.p ⟨dp,4⟩ 0)),(59,(.b (a0.Kind==0)))],[(3,(aS a0)),(4,(af a0.S))],H0⟩:St))&&true)=true)<|ai (fE hk_k0 [71,72])<|ai (fE hk_k0 [71,72])<|ai (fE hk_k0 [71,72])<|ai ((by simp [aR,okB,bY,AV.aQ,AV.aN,AV.bI,aG hk_k0]):(aR dp [71,72] (.p k0 16)&&okB dp [] (.p k0 16))=true)<|ai (Nat.ne_of_lt hk_k0)<|ai (aq hp k0 ((ab c0).set 17 (.b false)))<|ai ((by simp [aR,okB,bY,AV.aQ,AV.aN,AV.bI,aG hk_k0]):(aR dp [71,72] (.r (.c k0 16))&&okB dp [] (.r (.c k0 16)))=true)<|ai (fE hk_k0 [71,72])<|ai (fE hk_k0 [71,72])<|ai ((by simp [aR,okB,bY,AV.aQ,AV.aN,AV.bI,aG hk_k0]):(aR dp [71,72] (.p k0 19)&&okB dp [] (.p k0 19))=true)<|ai (Nat.ne_of_lt hk_k0)<|ai (aq hp k0 ((ab c0).set 17 (.b false)))<|ai ((by simp [aR,okB,bY,AV.aQ,AV.aN,AV.bI,aG hk_k0]):(aR dp [71,72] (.r (.c k0 19))&&okB dp [] (.r (.c k0 19)))=true)<|ai (Nat.ne_of_lt hk_k0)<|ai (aq hp k0 ((ab c0).set 17 (.b false)))<|ai (ax bk c0.Places)<|cD<|ai (rfl:[(.a [(I 3),(I 0),(I 0),(I 0),(I 0),(I 0),(I 0),(.l 63 (([]:List ag).map aD)),(.l 63 (([]:List ag).map aD)),(.l 65 (([]:List Stmt).map au)),(.l 65 (([]:List Stmt).map au)),(I (c0.Places.length:Int))])]=([(⟨3,0,(⟨0,0,0,(⟨0,0,([]:List ag)⟩:ag),([]:List ag),([]:List Stmt),([]:List Stmt)⟩:Stmt),(c0.Places.length:Int)⟩:Task)]).map az)<|kY<|ai (Nat.ne_of_lt hk_k0)<|ai (aq hp k0 ((ab c0).set 17 (.b false)))<|ai (Nat.ne_of_lt hk_k0)<|ai (aq hp k0 ((ab c0).set 17 (.b false)))<|ai (Nat.ne_of_lt hk_k0)<|ai (aV hp k0 ((ab c0).set 17 (.b false)) (((aj c0).set 16 .u).set 17 (.b false)))<|aA h fun h5 h=>ai ((dR az (n:=12) (fun _=>rfl) ([(⟨3,0,(⟨0,0,0,(⟨0,0,([]:List ag)⟩:ag),([]:List ag),([]:List Stmt),([]:List Stmt)⟩:Stmt),(c0.Places.length:Int)⟩:Task)])):(([(⟨3,0,(⟨0,0,0,(⟨0,0,([]:List ag)⟩:ag),([]:List ag),([]:List Stmt),([]:List Stmt)⟩:Stmt),(c0.Places.length:Int)⟩:Task)]).map az).all (fun e=>e.nc==12)=true)<|ai ((fl h5 (by decide)):((c0.Tasks.map az).length+(([(⟨3,0,(⟨0,0,0,(⟨0,0,([]:List ag)⟩:ag),([]:List ag),([]:List Stmt),([]:List Stmt)⟩:Stmt),(c0.Places.length:Int)⟩:Task)]).map az).length)*160≤140737488355328)<|ai ((fm h5):(c0.Tasks.map az).length+(([(⟨3,0,(⟨0,0,0,(⟨0,0,([]:List ag)⟩:ag),([]:List ag),([]:List Stmt),([]:List Stmt)⟩:Stmt),(c0.Places.length:Int)⟩:Task)]).map az).length≤maxLen)<|ai (List.map_append.symm:c0.Tasks.map az++([(⟨3,0,(⟨0,0,0,(⟨0,0,([]:List ag)⟩:ag),([]:List ag),([]:List Stmt),([]:List Stmt)⟩:Stmt),(c0.Places.length:Int)⟩:Task)]).map az=(c0.Tasks++([(⟨3,0,(⟨0,0,0,(⟨0,0,([]:List ag)⟩:ag),([]:List ag),([]:List Stmt),([]:List Stmt)⟩:Stmt),(c0.Places.length:Int)⟩:Task)])).map az)<|kY<|ai (Nat.ne_of_lt hk_k0)<|ai (aq hp k0 (((aj c0).set 16 .u).set 17 (.b false)))<|ai (Nat.ne_of_lt hk_k0)<|ai (aV hp k0 (((aj c0).set 16 .u).set 17 (.b false)) (((aj c0).set 16 (.o 67 ((c0.Tasks++([(⟨3,0,(⟨0,0,0,(⟨0,0,([]:List ag)⟩:ag),([]:List ag),([]:List Stmt),([]:List Stmt)⟩:Stmt),(c0.Places.length:Int)⟩:Task)])).map az))).set 17 (.b false)))<|bO h (rl dp hp k0 hk_k0 hz c0 a0 (c0.Tasks++([(⟨3,0,(⟨0,0,0,(⟨0,0,([]:List ag)⟩:ag),([]:List ag),([]:List Stmt),([]:List Stmt)⟩:Stmt),(c0.Places.length:Int)⟩:Task)]))) (fun ya_7 h=>L h) (fun yb_7 h=>L h)) (fun h4 h=>ai h4<|bO h (rl dp hp k0 hk_k0 hz c0 a0 c0.Tasks) (fun ya_6 h=>L h) (fun yb_6 h=>L h))) (fun h3 h=>ai h3<|ai (rN dp)<|gI<|ba h fun r4 ek5 h=>have ek5:=cO hk_k0 (uC (dp+1) (boxes dp [(3,(aS a0)),(4,(af a0.S))] (ad hp k0 ((ab c0).set 17 (.b false)))) k0 (Nat.lt_succ_of_lt hk_k0) (a9 (aH hk_k0 (hz))) c0 a0.S _ ek5);ai ek5<|ai (er ek5 (by kernel_rfl) (by kernel_rfl))<|ai (et ek5 (aH hk_k0 (hz)))<|aM h (fun h6 h=>ai (congrArg not h6)<|ai (rN dp)<|aM h (fun h7 h=>Ds h7<|ai (Nat.ne_of_lt hk_k0)<|ai (aq hp k0 ((ab c0).set 17 (.b false)))<|cD<|ai (rN dp)<|ai tt<|fG h fun j8 h9 h=>ai h9<|ba h fun y10 h11 h=>ai (ay (bM 3 (I)) h11)<|lK<|ai (Nat.ne_of_lt hk_k0)<|ai (aq hp k0 ((ab c0).set 17 (.b false)))<|cD<|ai (rN dp)<|ai tt<|ai h9<|ai (Nat.ne_of_lt hk_k0)<|ai (aq hp k0 ((ab c0).set 17 (.b false)))<|ba h fun y12 h13 h=>ai (ay (I) h13)<|ai tt<|ai (Nat.ne_of_lt hk_k0)<|ai (aq hp k0 ((ab c0).set 17 (.b false)))<|ai (ay (I) h13)<|cD<|ai (ax (I) y10)<|ai tt<|bB h (fun h14 h=>ai (decide_eq_true h14)<|ai tt<|ai tt<|ai tt<|ai tt<|ai tt<|ai tt<|ai (Nat.ne_of_lt hk_k0)<|ai (aq hp k0 ((ab c0).set 17 (.b false)))<|cD<|ai (rN dp)<|ai tt<|ai h9<|ai (Nat.ne_of_lt hk_k0)<|ai (aq hp k0 ((ab c0).set 17 (.b false)))<|ai (ay (I) h13)<|ai tt<|ai (Nat.ne_of_lt hk_k0)<|ai (aq hp k0 ((ab c0).set 17 (.b false)))<|ai (ay (I) h13)<|ai tt<|fG h fun j15 h16 h=>ai h16<|ba h fun y17 h18 h=>ai (ay (I) h18)<|aB h (rm dp hp k0 hk_k0 hz c0 a0 y17) fun x19 h=>bO h (mU dp hp k0 hk_k0 hz c0 a0 x19.1 x19.2) (fun ya_22 h=>L h) (fun yb_22 h=>L h)) (fun h14 h=>ai (decide_eq_false h14)<|aB h (rm dp hp k0 hk_k0 hz c0 a0 0) fun x15 h=>bO h (mU dp hp k0 hk_k0 hz c0 a0 x15.1 x15.2) (fun ya_18 h=>L h) (fun yb_18 h=>L h))) (fun h7 h=>FC h7<|ai (rN dp)<|lK<|ai (Nat.ne_of_lt hk_k0)<|ai (aq hp k0 ((ab c0).set 17 (.b false)))<|ai tt<|ai (Nat.ne_of_lt hk_k0)<|ai (aq hp k0 ((ab c0).set 17 (.b false)))<|aB h (nK a0.S.Expr c0.R.Vars) fun r8 h=>cD<|bO h (mU dp hp k0 hk_k0 hz c0 a0 r8 c0.R.Taken) (fun ya_11 h=>L h) (fun yb_11 h=>L h))) (fun h6 h=>ai (congrArg not h6)<|ai (rN dp)<|gI<|ba h fun r7 ek8 h=>have ek8:=cO hk_k0 (uD (dp+1) (boxes dp [(3,(aS a0)),(4,(af a0.S))] (ad hp k0 ((ab c0).set 17 (.b false)))) k0 (Nat.lt_succ_of_lt hk_k0) (a9 (aH hk_k0 (hz))) c0 a0.At _ ek8);ai ek8<|ai (er ek8 (by kernel_rfl) (by kernel_rfl))<|ai (et ek8 (aH hk_k0 (hz)))<|L h))))
end
section
variable (a0:Program)(a1:(List (List Int)))(a2:Int)
def qP(a1:(List (List Int)))(a2:Int)(v0_11:Nat)(v0_10_18:(List Level)):Option ((Nat×(List Level))⊕(Nat×Bool×(List Level))):=
 if (v0_11:Int)<(a0.Vars.length:Int) then
  (mT a0.an).bind fun (r4:Level)=>
  if v0_10_18.length + [r4].length≤1000000000 then
   if IntKind.i64.wrap ((v0_11:Int)+1)=((v0_11+1:Nat):Int) then
    some (.inl (v0_11+1,v0_10_18++[r4]))
   else none
  else none
 else
  some (.inr (v0_11,decide ((v0_11:Int)<(a0.Vars.length:Int)),v0_10_18))
abbrev Hu(v:(Nat×(List Level))):St:=⟨[(2,(I a2)),(4,(.p ⟨0,4⟩ 0)),(8,(.p ⟨0,8⟩ 0)),(10,(.p ⟨0,10⟩ 0)),(11,(I (v.1:Int)))],[(4,(ah a0)),(8,[(.l 73 (([]:List Event).map aw)),(.l 3 (([]:List Int).map (I))),(.l 3 (([]:List Int).map (I))),(I 0),(I 0),(I 0)]),(10,[(I a0.an.Many),(.l 115 (a0.an.Grants.map aF)),(.l 3 (a0.Speak.map (I))),(.l 89 (a0.Ins.map ar)),(.l 89 (a0.Outs.map ar)),(.l 91 (a0.Vars.map bH)),(.l 82 (a0.Funcs.map bc)),(.l 65 (a0.Main.map au)),(.l 25 (a1.map (bM 3 (I)))),(I a2),(.o 73 (([]:List Event).map aw)),(.o 3 ((List.replicate a0.Vars.length 0).map (I))),(.o 3 ((List.replicate a0.Ins.length 0).map (I))),(I 0),(I 0),(I 0),(.o 67 (([]:List Task).map az)),(.b false),(.o 57 (v.2.map bk)),(.o 57 (([]:List Level).map bk))])],H0⟩
abbrev Hv(x:(Nat×Bool×(List Level))):aJ×St:=((.ex 0),⟨[(2,(I a2)),(4,(.p ⟨0,4⟩ 0)),(8,(.p ⟨0,8⟩ 0)),(10,(.p ⟨0,10⟩ 0)),(11,(I (x.1:Int))),(34,(.b x.2.1))],[(4,(ah a0)),(8,[(.l 73 (([]:List Event).map aw)),(.l 3 (([]:List Int).map (I))),(.l 3 (([]:List Int).map (I))),(I 0),(I 0),(I 0)]),(10,[(I a0.an.Many),(.l 115 (a0.an.Grants.map aF)),(.l 3 (a0.Speak.map (I))),(.l 89 (a0.Ins.map ar)),(.l 89 (a0.Outs.map ar)),(.l 91 (a0.Vars.map bH)),(.l 82 (a0.Funcs.map bc)),(.l 65 (a0.Main.map au)),(.l 25 (a1.map (bM 3 (I)))),(I a2),(.o 73 (([]:List Event).map aw)),(.o 3 ((List.replicate a0.Vars.length 0).map (I))),(.o 3 ((List.replicate a0.Ins.length 0).map (I))),(I 0),(I 0),(I 0),(.o 67 (([]:List Task).map az)),(.b false),(.o 57 (x.2.2.map bk)),(.o 57 (([]:List Level).map bk))])],H0⟩)
theorem Gl(v0_11:Nat)(v0_10_18:(List Level))(o:(Nat×(List Level))⊕(Nat×Bool×(List Level)))(h:qP a0 a1 a2 v0_11 v0_10_18=some o):bu E0 NK (Hu a0 a1 a2) (Hv a0 a1 a2) (v0_11,v0_10_18) o:=
 bD (bt<|ao (.i (a0.Vars.length:Int))<|.or (cR<|.ex fun (r4:Level)=>ao (.v (.a [(.l 4 (r4.Readers.map AV.b)),(.l 4 (r4.Writers.map AV.b))]))<|ao (.l ([r4].map bk))<|cR<|ao (.l ((v0_10_18++[r4]).map bk))<|b5<|ao (.i ((v0_11+1:Nat):Int))<|.nil) (bf<|.nil)) fun L=>ai (rfl:Z0)<|ai (ax bH a0.Vars)<|bB h (fun h3 h=>ai (decide_eq_true h3)<|ai tt<|ai tt<|ai (rfl:Z0)<|ai tt<|ai tt<|ai (rfl:Z0)<|ai tt<|aB h (tZ a0.an) fun r4 h=>ai tt<|ai (rfl:[(.a [(.l 4 (r4.Readers.map AV.b)),(.l 4 (r4.Writers.map AV.b))])]=[r4].map bk)<|ai tt<|ai ff<|ai (rfl:Z0)<|ai (rfl:Z0)<|ai (rfl:Z0)<|aA h fun h6 h=>ai ((dR bk (n:=2) (fun _=>rfl) [r4]):([r4].map bk).all (fun e=>e.nc==2)=true)<|ai ((fl h6 (by decide)):((v0_10_18.map bk).length+([r4].map bk).length)*48≤140737488355328)<|ai ((fm h6):(v0_10_18.map bk).length+([r4].map bk).length≤maxLen)<|ai (List.map_append.symm:v0_10_18.map bk++[r4].map bk=(v0_10_18++[r4]).map bk)<|ai ff<|ai (rfl:Z0)<|ai (rfl:Z0)<|aA h fun w7 h=>ai w7<|L h) (fun h3 h=>ai (decide_eq_false h3)<|L h)
def Gm:List cK:=(gF 61 16 10)::(gQ 62 61)::(gp 63 (.ln false 62))::(gB 64 .gtr 63 (kI 0))::(gM 65 64)::⟨some 66,.fa 10 10,some ⟨65,true⟩,false⟩::⟨some 67,.fa 4 66,some ⟨65,true⟩,false⟩::⟨some 68,.ld none 67,some ⟨65,true⟩,false⟩::⟨some 69,.bo .eql false 68 (kI 0),some ⟨65,true⟩,false⟩::(gp 70 (.pk 65 69 (.c (.b false))))::[]
def tf(a2:Int)(v1_10:Machine):Option Bool:=
 if 0<(v1_10.Tasks.length:Int) then
  some (v1_10.R.End==0)
 else
  some false
abbrev Gn(v1_10:Machine)(x:Bool):St:=⟨[(2,(I a2)),(8,(.p ⟨0,8⟩ 0)),(10,(.p ⟨0,10⟩ 0)),(70,(.b x))],[(8,[(.l 73 (([]:List Event).map aw)),(.l 3 (([]:List Int).map (I))),(.l 3 (([]:List Int).map (I))),(I 0),(I 0),(I 0)]),(10,((ab v1_10).set 17 (.b false)))],H0⟩
theorem E8(v1_10:Machine)(x:Bool)(h:tf a2 v1_10=some x):ew G Ω0 E0 [2,8,10,70] [8,10] Gm ⟨[(2,(I a2)),(8,(.p ⟨0,8⟩ 0)),(10,(.p ⟨0,10⟩ 0))],[(8,[(.l 73 (([]:List Event).map aw)),(.l 3 (([]:List Int).map (I))),(.l 3 (([]:List Int).map (I))),(I 0),(I 0),(I 0)]),(10,((ab v1_10).set 17 (.b false)))],H0⟩=some (Gn a2 v1_10 x):=
 dj (b5<|ao (.i (v1_10.Tasks.length:Int))<|.or (FF<|.nil) (Kz<|.nil)) fun L=>ai (rfl:Z0)<|ai (rfl:Z0)<|ai (ax az v1_10.Tasks)<|bB h (fun h12 h=>Kt (decide_eq_true h12)<|L h) (fun h12 h=>ai (g1 (decide_eq_false h12))<|ai (g1 (decide_eq_false h12))<|ai (g1 (decide_eq_false h12))<|ai (g1 (decide_eq_false h12))<|ai (decide_eq_false h12)<|L h)
def oH(v1_10:Machine):Option (Machine⊕(Bool×Machine)):=
 (tf a2 v1_10).bind fun (x12:Bool)=>
 if x12=true then
  if IntKind.i64.wrap ((v1_10.Tasks.length:Int) - 1)=(v1_10.Tasks.length:Int) - 1 then
   (dU ((v1_10.Tasks.length:Int) - 1)).bind fun (j16:Nat)=>
   (v1_10.Tasks[j16]?).bind fun (y18:Task)=>
   if j16≤v1_10.Tasks.length then
    if (y18.Kind==3)=true then
     (dU y18.Places).bind fun (j22:Nat)=>
     if j22≤v1_10.Places.length then
      some (.inl (⟨v1_10.P,v1_10.Ins,v1_10.Fuel,v1_10.R,v1_10.Tasks.take j16,(),v1_10.Levels,v1_10.Places.take j22⟩:Machine))
     else none
    else
     if (y18.Kind==2)=true then
      (ll (⟨v1_10.P,v1_10.Ins,v1_10.Fuel,v1_10.R,v1_10.Tasks.take j16,(),v1_10.Levels,v1_10.Places⟩:Machine) y18).bind fun (r23:Machine)=>
      some (.inl r23)
     else
      if (v1_10.R.Steps==a2)=true then
       some (.inl (⟨v1_10.P,v1_10.Ins,v1_10.Fuel,(⟨v1_10.R.Events,v1_10.R.Vars,v1_10.R.Taken,v1_10.R.Steps,2,v1_10.R.Stop⟩:RunT),v1_10.Tasks.take j16,(),v1_10.Levels,v1_10.Places⟩:Machine))
      else
       if IntKind.i64.wrap (v1_10.R.Steps+1)=v1_10.R.Steps+1 then
        (eG (⟨v1_10.P,v1_10.Ins,v1_10.Fuel,(⟨v1_10.R.Events,v1_10.R.Vars,v1_10.R.Taken,v1_10.R.Steps+1,v1_10.R.End,v1_10.R.Stop⟩:RunT),v1_10.Tasks.take j16,(),v1_10.Levels,v1_10.Places⟩:Machine) y18).bind fun (r25:Machine)=>
        some (.inl r25)
       else none
   else none
  else none
 else
  some (.inr (x12,v1_10))
abbrev Hw(v:Machine):St:=⟨[(2,(I a2)),(8,(.p ⟨0,8⟩ 0)),(10,(.p ⟨0,10⟩ 0))],[(8,[(.l 73 (([]:List Event).map aw)),(.l 3 (([]:List Int).map (I))),(.l 3 (([]:List Int).map (I))),(I 0),(I 0),(I 0)]),(10,((ab v).set 17 (.b false)))],H0⟩
abbrev Hx(x:(Bool×Machine)):aJ×St:=((.ex 2),⟨[(2,(I a2)),(8,(.p ⟨0,8⟩ 0)),(10,(.p ⟨0,10⟩ 0)),(70,(.b x.1))],[(8,[(.l 73 (([]:List Event).map aw)),(.l 3 (([]:List Int).map (I))),(.l 3 (([]:List Int).map (I))),(I 0),(I 0),(I 0)]),(10,((ab x.2).set 17 (.b false)))],H0⟩)
theorem Gp(v1_10:Machine)(o:Machine⊕(Bool×Machine))(h:oH a2 v1_10=some o):bu E0 NL (Hw a2) (Hx a2) v1_10 o:=
 bD (.jb (some 61) 9<|.ex fun (x12:Bool)=>ao (.jn ⟨[(2,(I a2)),(8,(.p ⟨0,8⟩ 0)),(10,(.p ⟨0,10⟩ 0)),(70,(.b x12))],[(8,[(.l 73 (([]:List Event).map aw)),(.l 3 (([]:List Int).map (I))),(.l 3 (([]:List Int).map (I))),(I 0),(I 0),(I 0)]),(10,((ab v1_10).set 17 (.b false)))],H0⟩)<|.or (jt<|ao (.i (v1_10.Tasks.length:Int))<|ao (.i ((v1_10.Tasks.length:Int) - 1))<|xN fun j16=>bt<|.ex fun (y18:Task)=>ao (.v (.a (aS y18)))<|bt<|ao (.v (.a (aS y18)))<|js<|ao (.i (v1_10.Tasks.length:Int))<|ao (.i ((v1_10.Tasks.length:Int) - 1))<|bt<|ao (.n j16)<|ao (.n j16)<|b5<|ao (.l ((v1_10.Tasks.take j16).map az))<|b5<|.or (jt<|xN fun j22=>ao (.n j22)<|b5<|ao (.l ((v1_10.Places.take j22).map bk))<|bt<|.nil) (bf<|.or (b5<|.ex fun (r23:Machine)=>ao (.v (.tp []))<|ao (.h (boxes 0 [(8,[(.l 73 (([]:List Event).map aw)),(.l 3 (([]:List Int).map (I))),(.l 3 (([]:List Int).map (I))),(I 0),(I 0),(I 0)]),(10,((ab r23).set 17 (.b false))),(12,(aS y18))] H0))<|ao (.bx [(8,[(.l 73 (([]:List Event).map aw)),(.l 3 (([]:List Int).map (I))),(.l 3 (([]:List Int).map (I))),(I 0),(I 0),(I 0)]),(10,((ab r23).set 17 (.b false))),(12,(aS y18))])<|ao (.h (H0))<|.nil) (rT<|.or (cR<|.nil) (rT<|ao (.i (v1_10.R.Steps+1))<|cR<|.ex fun (r25:Machine)=>ao (.v (.tp []))<|ao (.h (boxes 0 [(8,[(.l 73 (([]:List Event).map aw)),(.l 3 (([]:List Int).map (I))),(.l 3 (([]:List Int).map (I))),(I 0),(I 0),(I 0)]),(10,((ab r25).set 17 (.b false))),(12,(aS y18))] H0))<|ao (.bx [(8,[(.l 73 (([]:List Event).map aw)),(.l 3 (([]:List Int).map (I))),(.l 3 (([]:List Int).map (I))),(I 0),(I 0),(I 0)]),(10,((ab r25).set 17 (.b false))),(12,(aS y18))])<|ao (.h (H0))<|.nil)))) (bf<|.nil)) fun L=>aB h (E8 a2 v1_10) fun x12 h=>aM h (fun h14 h=>ai h14<|ai (rfl:Z0)<|ai (rfl:Z0)<|ai (rfl:Z0)<|ai (ax az v1_10.Tasks)<|aA h fun w15 h=>ai w15<|fG h fun j16 h17 h=>jr h17<|ba h fun y18 h19 h=>ai (ay az h19)<|ai (rfl:Z0)<|ai (ay az h19)<|ai tt<|ai ff<|ai (rfl:Z0)<|ai tt<|ai (rfl:Z0)<|ai (rfl:Z0)<|ai (rfl:Z0)<|ai (rfl:Z0)<|ai (ax az v1_10.Tasks)<|ai w15<|ai (rfl:Z0)<|ai h17<|ai (Nat.zero_le _:0≤j16)<|aA h fun h20 h=>ai ((by rw [List.length_map];exact h20):j16≤(v1_10.Tasks.map az).length)<|ai ((by simp):j16 - 0=j16)<|ai ff<|ai (rfl:Z0)<|ai (rfl:((.c ⟨0,10⟩ 16):Pl)=(.c ⟨0,10⟩ 16))<|ai (rfl:Z0)<|ai ((by rw [List.length_map];exact h20):j16≤(v1_10.Tasks.map az).length)<|ai (map_take az v1_10.Tasks j16)<|ai (rfl:Z0)<|ai (rfl:Z0)<|aM h (fun h21 h=>ai h21<|ai (rfl:Z0)<|ai (rfl:Z0)<|ai (rfl:Z0)<|fG h fun j22 h23 h=>ai h23<|ai (Nat.zero_le _:0≤j22)<|aA h fun h24 h=>ai ((by rw [List.length_map];exact h24):j22≤(v1_10.Places.map bk).length)<|ai ((by simp):j22 - 0=j22)<|ai ff<|ai (rfl:Z0)<|ai (rfl:((.c ⟨0,10⟩ 19):Pl)=(.c ⟨0,10⟩ 19))<|ai (rfl:Z0)<|ai ((by rw [List.length_map];exact h24):j22≤(v1_10.Places.map bk).length)<|ai (map_take bk v1_10.Places j22)<|ai (rfl:Z0)<|L h) (fun h21 h=>ai h21<|aM h (fun h22 h=>ai h22<|ai (rfl:Z0)<|ai ff<|ai tt<|ba h fun r23 ek24 h=>have ek24:call G Ω0 ⟨0+1,false⟩ 18 [(.p ⟨0,10⟩ 0),(.a (aS y18))] (boxes 0 [(8,[(.l 73 (([]:List Event).map aw)),(.l 3 (([]:List Int).map (I))),(.l 3 (([]:List Int).map (I))),(I 0),(I 0),(I 0)]),(10,(((aj v1_10).set 16 (.o 67 ((v1_10.Tasks.take j16).map az))).set 17 (.b false))),(12,(aS y18))] H0)=some (.ret (.tp []),boxes 0 [(8,[(.l 73 (([]:List Event).map aw)),(.l 3 (([]:List Int).map (I))),(.l 3 (([]:List Int).map (I))),(I 0),(I 0),(I 0)]),(10,((ab r23).set 17 (.b false))),(12,(aS y18))] H0):=ey (cY (bx1:=[(8,[(.l 73 (([]:List Event).map aw)),(.l 3 (([]:List Int).map (I))),(.l 3 (([]:List Int).map (I))),(I 0),(I 0),(I 0)]),(10,(((aj v1_10).set 16 (.o 67 ((v1_10.Tasks.take j16).map az))).set 17 (.b false))),(12,(aS y18))]) (by kernel_rfl) (by kernel_rfl)) (cY (bx1:=[(8,[(.l 73 (([]:List Event).map aw)),(.l 3 (([]:List Int).map (I))),(.l 3 (([]:List Int).map (I))),(I 0),(I 0),(I 0)]),(10,((ab r23).set 17 (.b false))),(12,(aS y18))]) (by kernel_rfl) (by kernel_rfl)) (xk (0+1) (boxes 0 [(8,[(.l 73 (([]:List Event).map aw)),(.l 3 (([]:List Int).map (I))),(.l 3 (([]:List Int).map (I))),(I 0),(I 0),(I 0)]),(10,(((aj v1_10).set 16 (.o 67 ((v1_10.Tasks.take j16).map az))).set 17 (.b false))),(12,(aS y18))] H0) ⟨0,10⟩ (Nat.lt_succ_self 0) (a9 (dw 0)) (⟨v1_10.P,v1_10.Ins,v1_10.Fuel,v1_10.R,v1_10.Tasks.take j16,(),v1_10.Levels,v1_10.Places⟩:Machine) y18 _ ek24);ai ek24<|ai (er ek24 (by kernel_rfl) (by kernel_rfl))<|ai (et ek24 (dw 0))<|L h) (fun h22 h=>jr h22<|aM h (fun h23 h=>ai h23<|ai ff<|ai (rfl:Z0)<|ai tt<|ai (rfl:Z0)<|L h) (fun h23 h=>jr h23<|aA h fun w24 h=>ai w24<|ai ff<|ai (rfl:Z0)<|ai tt<|ai (rfl:Z0)<|ai (rfl:Z0)<|ai ff<|ai tt<|ba h fun r25 ek26 h=>have ek26:call G Ω0 ⟨0+1,false⟩ 19 [(.p ⟨0,10⟩ 0),(.a (aS y18))] (boxes 0 [(8,[(.l 73 (([]:List Event).map aw)),(.l 3 (([]:List Int).map (I))),(.l 3 (([]:List Int).map (I))),(I 0),(I 0),(I 0)]),(10,((((aj v1_10).set 13 (I (v1_10.R.Steps+1))).set 16 (.o 67 ((v1_10.Tasks.take j16).map az))).set 17 (.b false))),(12,(aS y18))] H0)=some (.ret (.tp []),boxes 0 [(8,[(.l 73 (([]:List Event).map aw)),(.l 3 (([]:List Int).map (I))),(.l 3 (([]:List Int).map (I))),(I 0),(I 0),(I 0)]),(10,((ab r25).set 17 (.b false))),(12,(aS y18))] H0):=ey (cY (bx1:=[(8,[(.l 73 (([]:List Event).map aw)),(.l 3 (([]:List Int).map (I))),(.l 3 (([]:List Int).map (I))),(I 0),(I 0),(I 0)]),(10,((((aj v1_10).set 13 (I (v1_10.R.Steps+1))).set 16 (.o 67 ((v1_10.Tasks.take j16).map az))).set 17 (.b false))),(12,(aS y18))]) (by kernel_rfl) (by kernel_rfl)) (cY (bx1:=[(8,[(.l 73 (([]:List Event).map aw)),(.l 3 (([]:List Int).map (I))),(.l 3 (([]:List Int).map (I))),(I 0),(I 0),(I 0)]),(10,((ab r25).set 17 (.b false))),(12,(aS y18))]) (by kernel_rfl) (by kernel_rfl)) (Ai (0+1) (boxes 0 [(8,[(.l 73 (([]:List Event).map aw)),(.l 3 (([]:List Int).map (I))),(.l 3 (([]:List Int).map (I))),(I 0),(I 0),(I 0)]),(10,((((aj v1_10).set 13 (I (v1_10.R.Steps+1))).set 16 (.o 67 ((v1_10.Tasks.take j16).map az))).set 17 (.b false))),(12,(aS y18))] H0) ⟨0,10⟩ (Nat.lt_succ_self 0) (a9 (dw 0)) (⟨v1_10.P,v1_10.Ins,v1_10.Fuel,(⟨v1_10.R.Events,v1_10.R.Vars,v1_10.R.Taken,v1_10.R.Steps+1,v1_10.R.End,v1_10.R.Stop⟩:RunT),v1_10.Tasks.take j16,(),v1_10.Levels,v1_10.Places⟩:Machine) y18 _ ek26);ai ek26<|ai (er ek26 (by kernel_rfl) (by kernel_rfl))<|ai (et ek26 (dw 0))<|L h)))) (fun h14 h=>ai h14<|L h)
def pT(x12:(Bool×Machine))(w4_1:Int):Option Int:=
 some w4_1
abbrev Gq(x12:(Bool×Machine))(w4_1:Int)(x:Int):aJ×St:=(.ret,⟨[(8,(.p ⟨0,8⟩ 0)),(9,(.l 57 (x12.2.Levels.map bk)))],[(8,((fp x12.2.R).set 4 (I x)))],H0⟩)
theorem wG(x12:(Bool×Machine))(w4_1:Int)(x:Int)(h:pT x12 w4_1=some x):run G Ω0 E0 NM ⟨[(8,(.p ⟨0,8⟩ 0)),(10,(.p ⟨0,10⟩ 0))],[(8,[(.l 73 (([]:List Event).map aw)),(.l 3 (([]:List Int).map (I))),(.l 3 (([]:List Int).map (I))),(I 0),(I 0),(I 0)]),(10,(((ab x12.2).set 14 (I w4_1)).set 17 (.b false)))],H0⟩=some (Gq x12 w4_1 x):=
 ga (bt<|bt<|bt<|bt<|bt<|bt<|bt<|bt<|bt<|bt<|bt<|bt<|.nil) fun L=>ai ff<|ai (rfl:Z0)<|ai (rfl:Z0)<|ai ff<|ai (rfl:Z0)<|ai (rfl:Z0)<|ai ff<|ai (rfl:Z0)<|ai (rfl:Z0)<|ai ff<|ai (rfl:Z0)<|ai (rfl:Z0)<|ai tt<|ai tt<|ai (rfl:Z0)<|ai tt<|ai tt<|ai (rfl:Z0)<|ai tt<|ai ff<|ai (rfl:Z0)<|ai tt<|ai (rfl:Z0)<|ai tt<|L h
abbrev JN(a0:Program)(a1:(List (List Int)))(a2:Int)(r:(RunT×(List Level))):bh×HP:=(.ret (.tp [(.a (fp r.1)),(.l 57 (r.2.map bk))]),H0)
def ua:Option (RunT×(List Level)):=
 if a0.Vars.length≤1000000000 then
  if a0.Ins.length≤1000000000 then
   (lp (fun v=>qP a0 a1 a2 v.1 v.2) (0,([]:List Level))).bind fun (x3:(Nat×Bool×(List Level)))=>
   (mT a0.an).bind fun (r5:Level)=>
   if ([]:List Level).length + [r5].length≤1000000000 then
    (lH a0 (a0.Funcs.length:Int)).bind fun (r8:Int)=>
    (eo (⟨a0,a1,a2,(⟨([]:List Event),List.replicate a0.Vars.length 0,List.replicate a0.Ins.length 0,0,0,0⟩:RunT),([]:List Task),(),x3.2.2,([]:List Level)++[r5]⟩:Machine) a0.Main r8).bind fun (r10:Machine)=>
    (lp (fun v=>oH a2 v) r10).bind fun (x12:(Bool×Machine))=>
    if (x12.2.R.End==0)=true then
     (pT x12 1).bind fun (x15:Int)=>
     some ((⟨x12.2.R.Events,x12.2.R.Vars,x12.2.R.Taken,x12.2.R.Steps,x15,x12.2.R.Stop⟩:RunT),x12.2.Levels)
    else
     (pT x12 x12.2.R.End).bind fun (x15:Int)=>
     some ((⟨x12.2.R.Events,x12.2.R.Vars,x12.2.R.Taken,x12.2.R.Steps,x15,x12.2.R.Stop⟩:RunT),x12.2.Levels)
   else none
  else none
 else none
theorem Gr(r:(RunT×(List Level)))(h:ua a0 a1 a2=some r):call G Ω0 E0 6 [(.a (ah a0)),(.l 25 (a1.map (bM 3 (I)))),(I a2),(.b false)] H0=some (JN a0 a1 a2 r):=
 aO G6 (bt<|bt<|bt<|bt<|bt<|bt<|bt<|bt<|bt<|bt<|bt<|bt<|bt<|bt<|bt<|bt<|ao (.i (a0.Vars.length:Int))<|ao (.n a0.Vars.length)<|ao (.l ((List.replicate a0.Vars.length 0).map (I)))<|bt<|ao (.i (a0.Ins.length:Int))<|ao (.n a0.Ins.length)<|ao (.l ((List.replicate a0.Ins.length 0).map (I)))<|jt<|.ex fun (x3:(Nat×Bool×(List Level)))=>ao (.lp (.ex 0) ⟨[(2,(I a2)),(4,(.p ⟨0,4⟩ 0)),(8,(.p ⟨0,8⟩ 0)),(10,(.p ⟨0,10⟩ 0)),(11,(I (x3.1:Int))),(34,(.b x3.2.1))],[(4,(ah a0)),(8,[(.l 73 (([]:List Event).map aw)),(.l 3 (([]:List Int).map (I))),(.l 3 (([]:List Int).map (I))),(I 0),(I 0),(I 0)]),(10,[(I a0.an.Many),(.l 115 (a0.an.Grants.map aF)),(.l 3 (a0.Speak.map (I))),(.l 89 (a0.Ins.map ar)),(.l 89 (a0.Outs.map ar)),(.l 91 (a0.Vars.map bH)),(.l 82 (a0.Funcs.map bc)),(.l 65 (a0.Main.map au)),(.l 25 (a1.map (bM 3 (I)))),(I a2),(.o 73 (([]:List Event).map aw)),(.o 3 ((List.replicate a0.Vars.length 0).map (I))),(.o 3 ((List.replicate a0.Ins.length 0).map (I))),(I 0),(I 0),(I 0),(.o 67 (([]:List Task).map az)),(.b false),(.o 57 (x3.2.2.map bk)),(.o 57 (([]:List Level).map bk))])],H0⟩)<|b5<|.ex fun (r5:Level)=>ao (.v (.a [(.l 4 (r5.Readers.map AV.b)),(.l 4 (r5.Writers.map AV.b))]))<|ao (.l ([r5].map bk))<|cR<|ao (.l ((([]:List Level)++[r5]).map bk))<|js<|ao (.i (a0.Funcs.length:Int))<|xI fun r8=>.ex fun (r10:Machine)=>ao (.v (.tp []))<|ao (.h (boxes 0 [(4,(ah a0)),(8,[(.l 73 (([]:List Event).map aw)),(.l 3 (([]:List Int).map (I))),(.l 3 (([]:List Int).map (I))),(I 0),(I 0),(I 0)]),(10,((ab r10).set 17 (.b false)))] H0))<|ao (.bx [(4,(ah a0)),(8,[(.l 73 (([]:List Event).map aw)),(.l 3 (([]:List Int).map (I))),(.l 3 (([]:List Int).map (I))),(I 0),(I 0),(I 0)]),(10,((ab r10).set 17 (.b false)))])<|ao (.h (H0))<|.ex fun (x12:(Bool×Machine))=>ao (.lp (.ex 2) ⟨[(2,(I a2)),(8,(.p ⟨0,8⟩ 0)),(10,(.p ⟨0,10⟩ 0)),(70,(.b x12.1))],[(8,[(.l 73 (([]:List Event).map aw)),(.l 3 (([]:List Int).map (I))),(.l 3 (([]:List Int).map (I))),(I 0),(I 0),(I 0)]),(10,((ab x12.2).set 17 (.b false)))],H0⟩)<|bt<|.or (cR<|.fb<|.ex fun (x15:Int)=>ao (.fr .ret ⟨[(8,(.p ⟨0,8⟩ 0)),(9,(.l 57 (x12.2.Levels.map bk)))],[(8,((fp x12.2.R).set 4 (I x15)))],H0⟩)<|.nil) (bf<|.fb<|.ex fun (x15:Int)=>ao (.fr .ret ⟨[(8,(.p ⟨0,8⟩ 0)),(9,(.l 57 (x12.2.Levels.map bk)))],[(8,((fp x12.2.R).set 4 (I x15)))],H0⟩)<|.nil)) fun L=>ai tt<|ai tt<|ai (rfl:Z0)<|ai tt<|ai ff<|ai (rfl:Z0)<|ai tt<|ai (rfl:Z0)<|ai ff<|ai (rfl:Z0)<|ai (rfl:Z0)<|ai ff<|ai (rfl:Z0)<|ai (rfl:Z0)<|ai ff<|ai (rfl:Z0)<|ai (rfl:Z0)<|ai ff<|ai (rfl:Z0)<|ai (rfl:Z0)<|ai ff<|ai (rfl:Z0)<|ai (rfl:Z0)<|ai ff<|ai (rfl:Z0)<|ai (rfl:Z0)<|ai tt<|ai tt<|ai (rfl:Z0)<|ai tt<|ai (ax bH a0.Vars)<|ai tt<|ai (rfl:(a0.Vars.length:Int)=(a0.Vars.length:Int))<|aA h fun h1 h=>ai ((BX h1 (by decide)):a0.Vars.length*8≤140737488355328)<|ai ((BY h1):a0.Vars.length≤maxLen)<|ai ((List.map_replicate ..).symm:List.replicate a0.Vars.length (I 0)=(List.replicate a0.Vars.length 0).map (I))<|ai tt<|ai tt<|ai (rfl:Z0)<|ai tt<|ai (ax ar a0.Ins)<|ai tt<|ai (rfl:(a0.Ins.length:Int)=(a0.Ins.length:Int))<|aA h fun h2 h=>ai ((BX h2 (by decide)):a0.Ins.length*8≤140737488355328)<|ai ((BY h2):a0.Ins.length≤maxLen)<|ai ((List.map_replicate ..).symm:List.replicate a0.Ins.length (I 0)=(List.replicate a0.Ins.length 0).map (I))<|ai tt<|ai tt<|ai tt<|ai (rfl:Z0)<|ai ff<|ai (rfl:Z0)<|ai (rfl:Z0)<|ai tt<|ai ff<|ai (rfl:Z0)<|ai (rfl:Z0)<|aB h (cV (fun v=>Gl a0 a1 a2 v.1 v.2) (0,([]:List Level))) fun x3 h=>ai tt<|ai tt<|ai (rfl:Z0)<|ai tt<|ai tt<|ai (rfl:Z0)<|ai tt<|aB h (tZ a0.an) fun r5 h=>ai tt<|ai (rfl:[(.a [(.l 4 (r5.Readers.map AV.b)),(.l 4 (r5.Writers.map AV.b))])]=[r5].map bk)<|ai tt<|ai ff<|ai (rfl:Z0)<|ai (rfl:Z0)<|ai (rfl:Z0)<|aA h fun h7 h=>ai ((dR bk (n:=2) (fun _=>rfl) [r5]):([r5].map bk).all (fun e=>e.nc==2)=true)<|ai ((fl h7 (by decide)):((([]:List Level).map bk).length+([r5].map bk).length)*48≤140737488355328)<|ai ((fm h7):(([]:List Level).map bk).length+([r5].map bk).length≤maxLen)<|ai (List.map_append.symm:([]:List Level).map bk++[r5].map bk=(([]:List Level)++[r5]).map bk)<|ai ff<|ai (rfl:Z0)<|ai (rfl:Z0)<|ai tt<|ai tt<|ai (rfl:Z0)<|ai tt<|ai (rfl:Z0)<|ai tt<|ai tt<|ai (rfl:Z0)<|ai tt<|ai (ax bc a0.Funcs)<|ai tt<|aB h (vc a0 (a0.Funcs.length:Int)) fun r8 h=>ai tt<|ai ff<|ai tt<|ba h fun r10 ek11 h=>have ek11:call G Ω0 ⟨0+1,false⟩ 16 [(.p ⟨0,10⟩ 0),(.l 65 (a0.Main.map au)),(I r8)] (boxes 0 [(4,(ah a0)),(8,[(.l 73 (([]:List Event).map aw)),(.l 3 (([]:List Int).map (I))),(.l 3 (([]:List Int).map (I))),(I 0),(I 0),(I 0)]),(10,[(I a0.an.Many),(.l 115 (a0.an.Grants.map aF)),(.l 3 (a0.Speak.map (I))),(.l 89 (a0.Ins.map ar)),(.l 89 (a0.Outs.map ar)),(.l 91 (a0.Vars.map bH)),(.l 82 (a0.Funcs.map bc)),(.l 65 (a0.Main.map au)),(.l 25 (a1.map (bM 3 (I)))),(I a2),(.o 73 (([]:List Event).map aw)),(.o 3 ((List.replicate a0.Vars.length 0).map (I))),(.o 3 ((List.replicate a0.Ins.length 0).map (I))),(I 0),(I 0),(I 0),(.o 67 (([]:List Task).map az)),(.b false),(.o 57 (x3.2.2.map bk)),(.o 57 ((([]:List Level)++[r5]).map bk))])] H0)=some (.ret (.tp []),boxes 0 [(4,(ah a0)),(8,[(.l 73 (([]:List Event).map aw)),(.l 3 (([]:List Int).map (I))),(.l 3 (([]:List Int).map (I))),(I 0),(I 0),(I 0)]),(10,((ab r10).set 17 (.b false)))] H0):=ey (cY (bx1:=[(4,(ah a0)),(8,[(.l 73 (([]:List Event).map aw)),(.l 3 (([]:List Int).map (I))),(.l 3 (([]:List Int).map (I))),(I 0),(I 0),(I 0)]),(10,[(I a0.an.Many),(.l 115 (a0.an.Grants.map aF)),(.l 3 (a0.Speak.map (I))),(.l 89 (a0.Ins.map ar)),(.l 89 (a0.Outs.map ar)),(.l 91 (a0.Vars.map bH)),(.l 82 (a0.Funcs.map bc)),(.l 65 (a0.Main.map au)),(.l 25 (a1.map (bM 3 (I)))),(I a2),(.o 73 (([]:List Event).map aw)),(.o 3 ((List.replicate a0.Vars.length 0).map (I))),(.o 3 ((List.replicate a0.Ins.length 0).map (I))),(I 0),(I 0),(I 0),(.o 67 (([]:List Task).map az)),(.b false),(.o 57 (x3.2.2.map bk)),(.o 57 ((([]:List Level)++[r5]).map bk))])]) (by kernel_rfl) (by kernel_rfl)) (cY (bx1:=[(4,(ah a0)),(8,[(.l 73 (([]:List Event).map aw)),(.l 3 (([]:List Int).map (I))),(.l 3 (([]:List Int).map (I))),(I 0),(I 0),(I 0)]),(10,((ab r10).set 17 (.b false)))]) (by kernel_rfl) (by kernel_rfl)) (fT (0+1) (boxes 0 [(4,(ah a0)),(8,[(.l 73 (([]:List Event).map aw)),(.l 3 (([]:List Int).map (I))),(.l 3 (([]:List Int).map (I))),(I 0),(I 0),(I 0)]),(10,[(I a0.an.Many),(.l 115 (a0.an.Grants.map aF)),(.l 3 (a0.Speak.map (I))),(.l 89 (a0.Ins.map ar)),(.l 89 (a0.Outs.map ar)),(.l 91 (a0.Vars.map bH)),(.l 82 (a0.Funcs.map bc)),(.l 65 (a0.Main.map au)),(.l 25 (a1.map (bM 3 (I)))),(I a2),(.o 73 (([]:List Event).map aw)),(.o 3 ((List.replicate a0.Vars.length 0).map (I))),(.o 3 ((List.replicate a0.Ins.length 0).map (I))),(I 0),(I 0),(I 0),(.o 67 (([]:List Task).map az)),(.b false),(.o 57 (x3.2.2.map bk)),(.o 57 ((([]:List Level)++[r5]).map bk))])] H0) ⟨0,10⟩ (Nat.lt_succ_self 0) (a9 (dw 0)) (⟨a0,a1,a2,(⟨([]:List Event),List.replicate a0.Vars.length 0,List.replicate a0.Ins.length 0,0,0,0⟩:RunT),([]:List Task),(),x3.2.2,([]:List Level)++[r5]⟩:Machine) a0.Main r8 _ ek11);ai ek11<|ai (er ek11 (by kernel_rfl) (by kernel_rfl))<|ai (et ek11 (dw 0))<|aB h (cV (Gp a2) r10) fun x12 h=>ai (rfl:Z0)<|aM h (fun h14 h=>ai h14<|ai ff<|ai (rfl:Z0)<|ai tt<|ai (rfl:Z0)<|aB h (wG x12 1) fun x15 h=>ai (rfl:Z0)<|L h) (fun h14 h=>ai h14<|aB h (wG x12 x12.2.R.End) fun x15 h=>ai (rfl:Z0)<|L h)
end
end
end Go.Proofs.YtndeklbmglgonaaGreat.A
