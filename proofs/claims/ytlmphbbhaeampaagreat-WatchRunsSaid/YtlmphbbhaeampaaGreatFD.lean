/- Functions of the program as plain functions, by program. -/
import Derived.Test.YtlmphbbhaeampaaGreatTypes
import Derived.Test.YtlmphbbhaeampaaGreatBase
import Derived.Test.YtlmphbbhaeampaaGreatPlacF
import Derived.Test.YtlmphbbhaeampaaGreatFQ
set_option linter.all false
set_option maxRecDepth 100000
namespace Go.Proofs.YtlmphbbhaeampaaGreat.A
open Go
noncomputable section
variable [Lp]
attribute [local simp] dY iY okB kL AV.dD AV.jI AV.fX AV.deep AV.jJ ee bH
section
variable (a1:(List (List Int)))(aQ:Nat)(a2:Int)(af:Nat)(al:Nat)(a0:Program)
def kV:Option (Nat⊕(Unit⊕(Nat×Bool))):=
 if (aQ:Int)<(a1.length:Int) then
  (a1[aQ]?).bind fun y6=>
  if 100<(y6.length:Int) then
   some (.inr (.inl ()))
  else
   if IntKind.i64.wrap ((aQ:Int)+1)=((aQ+1:Nat):Int) then
    some (.inl (aQ+1))
   else none
 else
  some (.inr (.inr (aQ,decide ((aQ:Int)<(a1.length:Int)))))
abbrev M9(v:Nat):St:=⟨[(1,(fZ a1)),(2,(I a2)),(8,(I (v:Int)))],[],H0⟩
abbrev yv(x:(Unit⊕(Nat×Bool))):bc×St:=match x with | .inl ()=>(.ret,⟨[(6,(I 2))],[],H0⟩) | .inr (z1,z2)=>((.ex 0),⟨[(1,(fZ a1)),(2,(I a2)),(8,(I (z1:Int))),(25,(.b z2))],[],H0⟩)
theorem LA(aQ:Nat)(o:Nat⊕(Unit⊕(Nat×Bool)))(h:kV a1 aQ=some o):bQ E0 Yj (M9 a1 a2) (yv a1 a2) aQ o:=
 bZ (ao (.i (a1.length:Int))<|.or (bt<|ao (.n aQ)<|.ex fun (y6:(List Int))=>ao (.v (aS y6))<|ao (.i (y6.length:Int))<|oN (ao (.i ((aQ+1:Nat):Int))<|.nil)) (bf<|.nil)) fun L=>ai (aP (db 3 I) a1)<|cw h (fun h5 h=>ai (aF h5)<|ai (rI aQ)<|ba h fun y6 h7 h=>ai (aB (db 3 I) h7)<|ai (aP I y6)<|cw h (fun h8 h=>ai (aF h8)<|L h) (fun h8 h=>ai (aD h8)<|aO h fun w9 h=>ai w9<|L h)) (fun h5 h=>ai (aD h5)<|L h)
def kW:Option (Nat⊕(Unit⊕(Nat×Bool))):=
 (a1[af]?).bind fun y9=>
 if (al:Int)<(y9.length:Int) then
  (y9[al]?).bind fun bn=>
  (wG bn).bind fun a5=>
  if a5=true then
   if IntKind.i64.wrap ((al:Int)+1)=((al+1:Nat):Int) then
    some (.inl (al+1))
   else none
  else
   some (.inr (.inl ()))
 else
  some (.inr (.inr (al,decide ((al:Int)<(y9.length:Int)))))
abbrev Na(v:Nat):St:=⟨[(1,(fZ a1)),(2,(I a2)),(9,(zI af)),(10,(I (v:Int)))],[],H0⟩
abbrev yw(x:(Unit⊕(Nat×Bool))):bc×St:=match x with | .inl ()=>(.ret,⟨[(6,(I 3))],[],H0⟩) | .inr (z1,z2)=>((.ex 4),⟨[(1,(fZ a1)),(2,(I a2)),(9,(zI af)),(10,(I (z1:Int))),(46,(.b z2))],[],H0⟩)
theorem LB(o:Nat⊕(Unit⊕(Nat×Bool)))(h:kW a1 af al=some o):bQ E0 Yk (Na a1 a2 af) (yw a1 a2 af) al o:=
 bZ (ao (.n af)<|.ex fun (y9:(List Int))=>ao (.v (aS y9))<|ao (.i (y9.length:Int))<|.or (bt<|ao (.n af)<|ao (.v (aS y9))<|ao (.n al)<|xI fun bn=>xB fun a5=>.or (bf<|ao (.i ((al+1:Nat):Int))<|.nil) (bt<|.nil)) (bf<|.nil)) fun L=>ai (rI af)<|ba h fun y9 cb h=>ai (aB (db 3 I) cb)<|ai (aP I y9)<|cw h (fun aE h=>ai (aF aE)<|ai (rI af)<|ai (aB (db 3 I) cb)<|ai (rI al)<|ba h fun bn a6 h=>ai (aB I a6)<|bq h (Lm bn) fun a5 h=>bB h (fun be h=>ai (az not be)<|aO h fun dF h=>ai dF<|L h) (fun be h=>ai (az not be)<|L h)) (fun aE h=>ai (aD aE)<|L h)
def m6:Option (Nat⊕(Unit⊕(Nat×Bool))):=
 if (af:Int)<(a1.length:Int) then
  (lp (fun v=>kW a1 af v) 0).bind fun x9=>match x9 with
  | .inl ca=>
   some (.inr (.inl ()))
  | .inr b7=>
   if IntKind.i64.wrap ((af:Int)+1)=((af+1:Nat):Int) then
    some (.inl (af+1))
   else none
 else
  some (.inr (.inr (af,decide ((af:Int)<(a1.length:Int)))))
abbrev Nb(v:Nat):St:=⟨[(1,(fZ a1)),(2,(I a2)),(9,(I (v:Int)))],[],H0⟩
abbrev yx(x:(Unit⊕(Nat×Bool))):bc×St:=match x with | .inl ()=>(.ret,⟨[(6,(I 3))],[],H0⟩) | .inr (z1,z2)=>((.ex 2),⟨[(1,(fZ a1)),(2,(I a2)),(9,(I (z1:Int))),(37,(.b z2))],[],H0⟩)
theorem LC(o:Nat⊕(Unit⊕(Nat×Bool)))(h:m6 a1 af=some o):bQ E0 Yl (Nb a1 a2) (yx a1 a2) af o:=
 bZ (ao (.i (a1.length:Int))<|.or (bt<|.or (.ex fun (ca:Unit)=>ao (.cA (yw a1 a2 af (.inl ca)))<|.nil) (.ex fun (b7:(Nat×Bool))=>ao (.cA (yw a1 a2 af (.inr b7)))<|ao (.i ((af+1:Nat):Int))<|.nil)) (bf<|.nil)) fun L=>ai (aP (db 3 I) a1)<|cw h (fun h8 h=>ai (aF h8)<|dv h (dT (LB a1 a2 af) 0) (fun ca h=>L h) (fun b7 h=>aO h fun cY h=>ai cY<|L h)) (fun h8 h=>ai (aD h8)<|L h)
abbrev QU(a0:Program)(a1:(List (List Int)))(a2:Int)(r:Int):bC×HP:=(.ret (I r),H0)
def wI(a1:(List (List Int)))(a2:Int):Option Int:=
 (qC a0).bind fun r1=>
 if (r1 !=0)=true then
  some r1
 else
  if ((a1.length:Int) !=(a0.Ins.length:Int))=true then
   some 1
  else
   (lp (fun v=>kV a1 v) 0).bind fun x5=>match x5 with
   | .inl aI=>
    some 2
   | .inr ae=>
    (lp (fun v=>m6 a1 v) 0).bind fun x8=>match x8 with
    | .inl cq=>
     some 3
    | .inr co=>
     (fx a2 0 2000).bind fun ah=>
     if ah=true then
      some 0
     else
      some 3
theorem LD(a1:(List (List Int)))(a2:Int)(r:Int)(h:wI a0 a1 a2=some r):call G Ω0 E0 17 [(.a (aL a0)),(.l 25 (a1.map (db 3 (I)))),(I a2)] H0=some (QU a0 a1 a2 r):=
 bj G17 (bt<|xI fun r1=>oN (ao (.i (a1.length:Int))<|bt<|ao (.i (a0.Ins.length:Int))<|oN (.or (.ex fun (aI:Unit)=>ao (.cA (yv a1 a2 (.inl aI)))<|.nil) (.ex fun (ae:(Nat×Bool))=>ao (.cA (yv a1 a2 (.inr ae)))<|.or (.ex fun (cq:Unit)=>ao (.cA (yx a1 a2 (.inl cq)))<|.nil) (.ex fun (co:(Nat×Bool))=>ao (.cA (yx a1 a2 (.inr co)))<|xB fun ah=>.or (bf<|.nil) (bt<|.nil)))))) fun L=>uq<|bq h (FQ a0) fun r1 h=>bB h (fun h3 h=>ai h3<|L h) (fun h3 h=>ai h3<|ai (aP (db 3 I) a1)<|ai (rfl:Z0)<|ai (aP aT a0.Ins)<|bB h (fun h4 h=>ai h4<|L h) (fun h4 h=>ai h4<|dv h (dT (LA a1 a2) 0) (fun aI h=>L h) (fun ae h=>dv h (dT (LC a1 a2) 0) (fun cq h=>L h) (fun co h=>bq h (fu a2 0 2000) fun ah h=>bB h (fun a6 h=>ai (az not a6)<|L h) (fun a6 h=>ai (az not a6)<|L h)))))
end
section
variable (a0:(List Stmt))
abbrev Wt(a0:(List Stmt))(r:Int):bC×HP:=(.ret (I r),H0)
abbrev Hm(r:Int):Prop:=call G Ω0 E0 53 [(.l 111 (a0.map bK))] H0=some (Wt a0 r)
end
structure Hn where
 f_R_Count:(List Stmt)→Option Int
structure Fe(R:Hn):Prop where
 f_R_Count:∀ (a0:(List Stmt))(r:Int),R.f_R_Count a0=some r→Hm a0 r
section
variable (R:Hn)(a0:(List Stmt))(bu:Int)(au:Nat)
def yR:Option ((Int×Nat)⊕(Int×Nat×Bool)):=
 if (au:Int)<(a0.length:Int) then
  (a0[au]?).bind fun y2=>
  (R.f_R_Count y2.Then).bind fun r4=>
  if IntKind.i64.wrap (1+r4)=1+r4 then
   (R.f_R_Count y2.Else).bind fun r7=>
   if IntKind.i64.wrap ((1+r4)+r7)=(1+r4)+r7 then
    if IntKind.i64.wrap (bu+((1+r4)+r7))=bu+((1+r4)+r7) then
     if IntKind.i64.wrap ((au:Int)+1)=((au+1:Nat):Int) then
      some (.inl (bu+((1+r4)+r7),au+1))
     else none
    else none
   else none
  else none
 else
  some (.inr (bu,au,decide ((au:Int)<(a0.length:Int))))
abbrev RQ(v:(Int×Nat)):St:=⟨[(0,(bh a0)),(3,(I v.1)),(4,(I (v.2:Int)))],[],H0⟩
abbrev IQ(x:(Int×Nat×Bool)):bc×St:=((.ex 0),⟨[(0,(bh a0)),(3,(I x.1)),(4,(I (x.2.1:Int))),(8,(.b x.2.2))],[],H0⟩)
theorem QV(hR:Fe R)(a0:(List Stmt))(bu:Int)(au:Nat)(o:(Int×Nat)⊕(Int×Nat×Bool))(h:yR R a0 bu au=some o):bQ E0 YJ (RQ a0) (IQ a0) (bu,au) o:=
 bZ (ao (.i (a0.length:Int))<|.or (bt<|ao (.n au)<|.ex fun (y2:Stmt)=>ao (.v (.a (ax y2)))<|xI fun r4=>ao (.i (1+r4))<|ao (.n au)<|ao (.v (.a (ax y2)))<|xI fun r7=>ao (.i ((1+r4)+r7))<|ao (.i (bu+((1+r4)+r7)))<|ao (.i ((au+1:Nat):Int))<|.nil) (bf<|.nil)) fun L=>ai (aP bK a0)<|cw h (fun h1 h=>A3 (aF h1)<|ai (rI au)<|ba h fun y2 h3 h=>ai (dR bK h3 (gE _))<|eH<|bq h (hR.f_R_Count y2.Then) fun r4 h=>ai tt<|aO h fun w6 h=>ai w6<|eH<|ai (rI au)<|ai (dR bK h3 (gE _))<|eH<|bq h (hR.f_R_Count y2.Else) fun r7 h=>ai tt<|aO h fun w9 h=>ai w9<|ai tt<|aO h fun ch h=>ai ch<|aO h fun de h=>ai de<|L h) (fun h1 h=>ai (aD h1)<|L h)
def AB:Option Int:=
 (lp (fun v=>yR R a0 v.1 v.2) (0,0)).bind fun x1=>
 some x1.1
theorem OD(hR:Fe R)(a0:(List Stmt))(r:Int)(h:AB R a0=some r):Hm a0 r:=
 bj G53 (.ex fun (x1:(Int×Nat×Bool))=>ao (.cA (IQ a0 x1))<|.nil) fun L=>bq h (dT (fun v=>QV R hR a0 v.1 v.2) (0,0)) fun x1 h=>L h
def vN:Nat→Hn
 | 0=>⟨fun z0=>none⟩
 | n+1=>⟨AB (vN n)⟩
theorem LF:∀ n,Fe (vN n)
 | 0=>⟨fun _ r h=>(by cases h)⟩
 | n+1=>⟨fun a0 r h=>OD _ (LF n) a0 r h⟩
def vO:Option Int:=ev fun n=>(vN n).f_R_Count a0
theorem wJ(r:Int)(h:vO a0=some r):Hm a0 r:=by
 obtain ⟨n,hn⟩:=nW h
 exact (LF n).f_R_Count a0 r hn
end
section
variable (a0:Program)(a1:Int)(ag:Int)(y:Nat)
def uU:Option ((Int×Nat)⊕(Int×Nat×Bool)):=
 if (y:Int)<a1 then
  (a0.Funcs[y]?).bind fun y2=>
  (vO y2.Body).bind fun r4=>
  if IntKind.i64.wrap (ag+r4)=ag+r4 then
   if IntKind.i64.wrap ((y:Int)+1)=((y+1:Nat):Int) then
    some (.inl (ag+r4,y+1))
   else none
  else none
 else
  some (.inr (ag,y,decide ((y:Int)<a1)))
abbrev OE(v:(Int×Nat)):St:=⟨[(1,(I a1)),zP 2,(5,(I v.1)),(6,(I (v.2:Int)))],[(2,(aL a0))],H0⟩
abbrev Fq(x:(Int×Nat×Bool)):bc×St:=((.ex 0),⟨[(1,(I a1)),zP 2,(5,(I x.1)),(6,(I (x.2.1:Int))),(9,(.b x.2.2))],[(2,(aL a0))],H0⟩)
theorem Nc(o:(Int×Nat)⊕(Int×Nat×Bool))(h:uU a0 a1 ag y=some o):bQ E0 YI (OE a0 a1) (Fq a0 a1) (ag,y) o:=
 bZ (.or (cM<|ao (.n y)<|.ex fun (y2:Func)=>ao (.v (.a (cB y2)))<|xI fun r4=>ao (.i (ag+r4))<|ao (.i ((y+1:Nat):Int))<|.nil) (bf<|.nil)) fun L=>cw h (fun h1 h=>lG (aF h1)<|ai (rI y)<|ba h fun y2 h3 h=>ai (aB cS h3)<|bq h (wJ y2.Body) fun r4 h=>aO h fun w6 h=>ai w6<|aO h fun w7 h=>ai w7<|L h) (fun h1 h=>ai (aD h1)<|L h)
abbrev RR(a0:Program)(a1:Int)(r:Int):bC×HP:=(.ret (I r),H0)
def oY:Option Int:=
 (lp (fun v=>uU a0 a1 v.1 v.2) (0,0)).bind fun x1=>
 some x1.1
theorem Eh(r:Int)(h:oY a0 a1=some r):call G Ω0 E0 52 [(.a (aL a0)),(I a1)] H0=some (RR a0 a1 r):=
 bj G52 (.ex fun (x1:(Int×Nat×Bool))=>ao (.cA (Fq a0 a1 x1))<|.nil) fun L=>ai tt<|bq h (dT (fun v=>Nc a0 a1 v.1 v.2) (0,0)) fun x1 h=>L h
end
section
variable (a0:(List Stmt))(aR:Int)(y:(List Task))(ab:Nat)(hp:HP)(k0:Key)(c0:Machine)(dp:Nat)(x1:(Int×(List Task)×Nat×Bool))(ad:Int)
def oH:Option ((Int×(List Task)×Nat)⊕(Int×(List Task)×Nat×Bool)):=
 if (ab:Int)<(a0.length:Int) then
  (a0[ab]?).bind fun y2=>
  if y.length+([(⟨0,aR,y2,0⟩:Task)]).length≤1000000000 then
   (vO y2.Then).bind fun r5=>
   if IntKind.i64.wrap (1+r5)=1+r5 then
    (vO y2.Else).bind fun r8=>
    if IntKind.i64.wrap ((1+r5)+r8)=(1+r5)+r8 then
     if IntKind.i64.wrap (aR+((1+r5)+r8))=aR+((1+r5)+r8) then
      if IntKind.i64.wrap ((ab:Int)+1)=((ab+1:Nat):Int) then
       some (.inl (aR+((1+r5)+r8),y++([(⟨0,aR,y2,0⟩:Task)]),ab+1))
      else none
     else none
    else none
   else none
  else none
 else
  some (.inr (aR,y,ab,decide ((ab:Int)<(a0.length:Int))))
abbrev Ho(a0:(List Stmt))(v:(Int×(List Task)×Nat)):St:=⟨[(0,(.p k0 0)),(1,(bh a0)),(2,(I v.1)),(6,(bX v.2.1)),(7,(I (v.2.2:Int)))],[],ar hp k0 ((aa c0).set 17 (.b true))⟩
abbrev zt(a0:(List Stmt))(x:(Int×(List Task)×Nat×Bool)):bc×St:=((.ex 0),⟨[(0,(.p k0 0)),(1,(bh a0)),(2,(I x.1)),(6,(bX x.2.1)),(7,(I (x.2.2.1:Int))),(12,(.b x.2.2.2))],[],ar hp k0 ((aa c0).set 17 (.b true))⟩)
theorem FT(hp:HP)(k0:Key)(hz:bF dp hp)(c0:Machine)(a0:(List Stmt))(aR:Int)(y:(List Task))(ab:Nat)(o:(Int×(List Task)×Nat)⊕(Int×(List Task)×Nat×Bool))(h:oH a0 aR y ab=some o):bQ ⟨dp,false⟩ YN (Ho hp k0 c0 a0) (zt hp k0 c0 a0) (aR,y,ab) o:=
 bZ (ao (.i (a0.length:Int))<|.or (bt<|ao (.n ab)<|.ex fun (y2:Stmt)=>let A:=[(⟨0,aR,y2,0⟩:Task)];ao (.v (.a (ax y2)))<|ao (.l (A.map bP))<|ao (.l ((y++A).map bP))<|ao (.n ab)<|ao (.v (.a (ax y2)))<|xI fun r5=>ao (.i (1+r5))<|ao (.n ab)<|ao (.v (.a (ax y2)))<|xI fun r8=>ao (.i ((1+r5)+r8))<|ao (.i (aR+((1+r5)+r8)))<|ao (.i ((ab+1:Nat):Int))<|.nil) (bf<|.nil)) fun L=>ai (aP bK a0)<|cw h (fun h1 h=>ai (aF h1)<|ai (rI ab)<|ba h fun y2 h3 h=>let B:=[(⟨0,aR,y2,0⟩:Task)];let C:=B.map bP;ai (dR bK h3 (gE _))<|ai (rfl:[(.a [(I 0),(I aR),(I y2.Kind),(I y2.Var),(I y2.Other),(I y2.Expr.Kind),(I y2.Expr.N),(cL y2.Expr.Args),(cL y2.Args),(bh y2.Then),(bh y2.Else),(I 0)])]=B.map bP)<|ai ff<|aO h fun h4 h=>ai ((dS bP (n:=12) (fun _=>rfl) B):C.all (fun e=>e.nc==12)=true)<|ai ((eJ h4 (by decide)):((y.map bP).length+C.length)*160≤140737488355328)<|ai ((eK h4):(y.map bP).length+C.length≤maxLen)<|ai (cQ.symm:y.map bP++B.map bP=(y++B).map bP)<|fH<|ai (rI ab)<|ai (dR bK h3 (gE _))<|eH<|bq h (wJ y2.Then) fun r5 h=>ai tt<|aO h fun w7 h=>ai w7<|eH<|ai (rI ab)<|ai (dR bK h3 (gE _))<|eH<|bq h (wJ y2.Else) fun r8 h=>ai tt<|aO h fun ch h=>ai ch<|ai tt<|aO h fun de h=>ai de<|aO h fun cY h=>ai cY<|L h) (fun h1 h=>ai (aD h1)<|L h)
def oI(v1_k0_16:(List Task)):Option ((Int×(List Task))⊕(Int×Bool×(List Task))):=
 if 0≤ad then
  (cU ad).bind fun j5=>
  (x1.2.1[j5]?).bind fun y7=>
  if v1_k0_16.length + [y7].length≤1000000000 then
   if IntKind.i64.wrap (ad - 1)=ad - 1 then
    some (.inl (ad - 1,v1_k0_16++[y7]))
   else none
  else none
 else
  some (.inr (ad,decide (0≤ad),v1_k0_16))
abbrev Hp(v:(Int×(List Task))):St:=⟨[(0,(.p k0 0)),(6,(bX x1.2.1)),(8,(I v.1))],[],ar hp k0 (((aK c0).set 16 (bX v.2)).set 17 (.b true))⟩
abbrev zu(x:(Int×Bool×(List Task))):bc×St:=((.ex 2),⟨[(0,(.p k0 0)),(6,(bX x1.2.1)),(8,(I x.1)),(44,(.b x.2.1))],[],ar hp k0 (((aK c0).set 16 (bX x.2.2)).set 17 (.b true))⟩)
theorem FU(hp:HP)(k0:Key)(s:k0.dp<dp)(hz:bF dp hp)(c0:Machine)(x1:(Int×(List Task)×Nat×Bool))(ad:Int)(v1_k0_16:(List Task))(o:(Int×(List Task))⊕(Int×Bool×(List Task)))(h:oI x1 ad v1_k0_16=some o):bQ ⟨dp,false⟩ YO (Hp hp k0 c0 x1) (zu hp k0 c0 x1) (ad,v1_k0_16) o:=
 let D:=gu s [56,57];let C:=aj s;let B:=((aK c0).set 16 .u).set 17 (.b true);let A:=((aK c0).set 16 (bX v1_k0_16)).set 17 (.b true);let E:=aA hp k0 A;bZ (.or (gZ<|ao (.l A)<|xN fun j5=>.ex fun (y7:Task)=>ao (.v (.a (bD y7)))<|ao (.v (.a (bD y7)))<|ao (.l ([y7].map bP))<|bf<|ao (.l A)<|bf<|ao (.l A)<|bf<|ao (.h (ar hp k0 B))<|ao (.l ((v1_k0_16++[y7]).map bP))<|bf<|ao (.l B)<|bf<|ao (.h (ar hp k0 (((aK c0).set 16 (bX (v1_k0_16++[y7]))).set 17 (.b true))))<|ao (.i (ad - 1))<|.nil) (bf<|.nil)) fun L=>cw h (fun h4 h=>ai (aF h4)<|ai ((by simp [aV s]):(([56,57]:List Nat).all (ee dp (⟨[(0,(.p k0 0)),(6,(.o 148 (x1.2.1.map bP))),(8,(I ad))],[],H0⟩:St))&&true)=true)<|ai D<|ai D<|ai D<|ai (eu s [56,57] [] 16)<|ai C<|ai E<|ai (v8 s [56,57] 16)<|aZ<|dM h fun j5 h6 h=>ai h6<|ba h fun y7 h8 h=>let F:=[y7].map bP;ai (aB bP h8)<|ai tt<|ai (aB bP h8)<|ai tt<|ai (rfl:[(.a (bD y7))]=[y7].map bP)<|mw<|ai C<|ai E<|ai C<|ai E<|ai C<|ai (bA hp k0 A B)<|aO h fun h9 h=>ai ((dS bP (n:=12) (fun _=>rfl) [y7]):F.all (fun e=>e.nc==12)=true)<|ai ((eJ h9 (by decide)):((v1_k0_16.map bP).length+F.length)*160≤140737488355328)<|ai ((eK h9):(v1_k0_16.map bP).length+F.length≤maxLen)<|ai (cQ.symm:v1_k0_16.map bP++[y7].map bP=(v1_k0_16++[y7]).map bP)<|mw<|ai C<|ai (aA hp k0 B)<|ai C<|ai (bA hp k0 B (((aK c0).set 16 (bX (v1_k0_16++[y7]))).set 17 (.b true)))<|aO h fun ch h=>ai ch<|L h) (fun h4 h=>ai (aD h4)<|L h)
abbrev JR(dp:Nat)(hp:HP)(k0:Key)(c0:Machine)(a0:(List Stmt))(a1:Int)(r:Machine):bC×HP:=(.ret (.tp []),ar hp k0 ((aa r).set 17 (.b true)))
def fF(a0:(List Stmt))(a1:Int):Option Machine:=
 (lp (fun v=>oH a0 v.1 v.2.1 v.2.2) (a1,([]:List Task),0)).bind fun x1=>
 if IntKind.i64.wrap ((x1.2.1.length:Int) - 1)=(x1.2.1.length:Int) - 1 then
  (lp (fun v=>oI x1 v.1 v.2) (((x1.2.1.length:Int) - 1),c0.Tasks)).bind fun x4=>
  some (⟨c0.P,c0.Ins,c0.Fuel,c0.R,x4.2.2,(),c0.bW,c0.Places⟩:Machine)
 else none
theorem kF(hp:HP)(k0:Key)(s:k0.dp<dp)(hz:bF dp hp)(c0:Machine)(a0:(List Stmt))(a1:Int)(r:Machine)(h:fF c0 a0 a1=some r):call G Ω0 ⟨dp,false⟩ 72 [(.p k0 0),(.l 111 (a0.map bK)),(I a1)] (ar hp k0 ((aa c0).set 17 (.b true)))=some (JR dp hp k0 c0 a0 a1 r):=
 bj G72 (.ex fun (x1:(Int×(List Task)×Nat×Bool))=>let A:=(x1.2.1.length:Int);ao (.cA (zt hp k0 c0 a0 x1))<|ao (.i A)<|ao (.i (A - 1))<|.ex fun (x4:(Int×Bool×(List Task)))=>ao (.cA (zu hp k0 c0 x1 x4))<|.nil) fun L=>bq h (dT (fun v=>FT dp hp k0 hz c0 a0 v.1 v.2.1 v.2.2) (a1,([]:List Task),0)) fun x1 h=>ai (aP bP x1.2.1)<|aO h fun w3 h=>ai w3<|bq h (dT (fun v=>FU dp hp k0 s hz c0 x1 v.1 v.2) (((x1.2.1.length:Int) - 1),c0.Tasks)) fun x4 h=>L h
abbrev Iu(dp:Nat)(hp:HP)(k0:Key)(c0:Machine)(r:Level):bC×HP:=(.ret (.a [(.l 4 (r.Readers.map AV.b)),(.l 4 (r.Writers.map AV.b))]),ar hp k0 ((aa c0).set 17 (.b true)))
def iH:Option Level:=
 if IntKind.i64.wrap ((c0.Places.length:Int) - 1)=(c0.Places.length:Int) - 1 then
  (cU ((c0.Places.length:Int) - 1)).bind fun j2=>
  (c0.Places[j2]?).bind fun y4=>
  some y4
 else none
theorem mN(hp:HP)(k0:Key)(s:k0.dp<dp)(hz:bF dp hp)(c0:Machine)(r:Level)(h:iH c0=some r):call G Ω0 ⟨dp,true⟩ 157 [(.p k0 0)] (ar hp k0 ((aa c0).set 17 (.b true)))=some (Iu dp hp k0 c0 r):=
 let D:=(c0.Places.length:Int);let C:=aj s;let A:=(aa c0).set 17 (.b true);let B:=aA hp k0 A;bj aom (bf<|ao (.l A)<|bf<|ao (.l A)<|bf<|ao (.l A)<|ao (.i D)<|ao (.i (D - 1))<|xN fun j2=>bf<|ao (.l A)<|.ex fun (y4:Level)=>let E:=[(aw y4.Readers),(aw y4.Writers)];ao (.v (.a E))<|bf<|ao (.l A)<|ao (.v (.a E))<|cM<|.nil) fun L=>ai ((by simp [aV s,bm s]):(dY dp 2 [(0,(.p k0 0))] [])=true)<|fH<|ai C<|ai B<|fH<|ai C<|ai B<|ai tt<|ai C<|ai B<|ai (aP aC c0.Places)<|ai tt<|aO h fun w1 h=>ai w1<|ai tt<|dM h fun j2 h3 h=>ai h3<|ai C<|ai B<|ba h fun y4 h5 h=>ai (aB aC h5)<|ai C<|ai B<|ai (aB aC h5)<|ai (rfl:dp=dp)<|ai (rN dp)<|ai tt<|ai (rN dp)<|ai (rN dp)<|L h
end
section
variable (dp:Nat)(hp:HP)(k0:Key)(c0:Machine)(a0:ay)
abbrev Nd(dp:Nat)(hp:HP)(k0:Key)(c0:Machine)(a0:ay)(r:Level):bC×HP:=(.ret (.a [(.l 4 (r.Readers.map AV.b)),(.l 4 (r.Writers.map AV.b))]),ar hp k0 ((aa c0).set 17 (.b true)))
def iv:Option Level:=
 (iH c0).bind fun r1=>
 (n8 c0.P c0.bW a0).bind fun r3=>
 (kS r1 r3).bind fun r5=>
 some r5
theorem kh(s:k0.dp<dp)(hz:bF dp hp)(c0:Machine)(a0:ay)(r:Level)(h:iv c0 a0=some r):call G Ω0 ⟨dp,true⟩ 116 [(.p k0 0),(.a (bL a0))] (ar hp k0 ((aa c0).set 17 (.b true)))=some (Nd dp hp k0 c0 a0 r):=
 let D:=aj s;let A:=(aa c0).set 17 (.b true);let C:=aA hp k0 A;let B:=boxes dp [] (ar hp k0 A);bj anW (.ex fun (r1:Level)=>ao (.v (.a [(aw r1.Readers),(aw r1.Writers)]))<|ao (.h B)<|bf<|ao (.l A)<|bf<|ao (.l A)<|gZ<|ao (.l A)<|.ex fun (r3:Level)=>ao (.v (.a [(aw r3.Readers),(aw r3.Writers)]))<|.ex fun (r5:Level)=>ao (.v (.a [(aw r5.Readers),(aw r5.Writers)]))<|cM<|.nil) fun L=>ai ((by simp [bL,aV s,bm s]):(((.a (bL a0)):AV).deep dp&&(dY dp 3 [(0,(.p k0 0)),(1,(.a (bL a0)))] []))=true)<|ai ((by simp [bL,aV s,bm s]):(dY dp 4 [(3,(.p ⟨dp,3⟩ 0)),(0,(.p k0 0)),(1,(.a (bL a0)))] [(3,(bL a0))])=true)<|eH<|ba h fun r1 cH h=>have cH:=cO s (mN (dp+1) B k0 (aJ s) (aU (an s hz)) c0 _ cH);ai cH<|fH<|ai D<|ai C<|fH<|ai D<|ai C<|ai tt<|ai (rN dp)<|ai tt<|ai D<|ai C<|bq h (JQ c0.P c0.bW a0) fun r3 h=>ai tt<|ai ((by simp [AV.off,AV.tZ,PB,PC,PD,AJ]):((.a [(.l 4 (r3.Readers.map AV.b)),(.l 4 (r3.Writers.map AV.b))]):AV).off [113]=true)<|bq h (uj r1 r3) fun r5 h=>ai (rfl:dp=dp)<|ai (rN dp)<|ai tt<|ai (rN dp)<|ai (rN dp)<|L h
end
section
variable (dp:Nat)(hp:HP)(k0:Key)(c0:Machine)(a0:Int)(a1:Level)(aq:Int)
abbrev Hq(dp:Nat)(hp:HP)(k0:Key)(c0:Machine)(a0:Int)(a1:Level)(r:Bool):bC×HP:=(.ret (.b r),ar hp k0 ((aa c0).set 17 (.b true)))
def jv:Option Bool:=
 (cU a0).bind fun j1=>
 (c0.P.Vars[j1]?).bind fun y3=>
 (iH c0).bind fun r5=>
 (c0.bW[j1]?).bind fun y7=>
 (mX r5 y7).bind fun r9=>
 if r9=true then
  if y3.Known=true then
   (iW c0.P.ak y3.Label).bind fun bz=>
   (mX a1 bz).bind fun bb=>
   some bb
  else
   some true
 else
  some false
theorem pM(s:k0.dp<dp)(hz:bF dp hp)(c0:Machine)(a0:Int)(a1:Level)(r:Bool)(h:jv c0 a0 a1=some r):call G Ω0 ⟨dp,true⟩ 117 [(.p k0 0),(I a0),(.a [(.l 4 (a1.Readers.map AV.b)),(.l 4 (a1.Writers.map AV.b))])] (ar hp k0 ((aa c0).set 17 (.b true)))=some (Hq dp hp k0 c0 a0 a1 r):=
 let C:=aj s;let A:=(aa c0).set 17 (.b true);let D:=boxes dp [] (ar hp k0 A);let B:=aA hp k0 A;bj anX (bf<|ao (.l A)<|xN fun j1=>.ex fun (y3:Var)=>ao (.v (.a (jk y3)))<|cM<|.ex fun (r5:Level)=>ao (.v (.a [(aw r5.Readers),(aw r5.Writers)]))<|ao (.h D)<|bf<|ao (.l A)<|ao (.n j1)<|bf<|ao (.l A)<|.ex fun (y7:Level)=>let E:=[(aw y7.Readers),(aw y7.Writers)];ao (.v (.a E))<|bf<|ao (.l A)<|ao (.v (.a E))<|xB fun r9=>.or (pn<|.or (bt<|bt<|bt<|bt<|bt<|bt<|bt<|bf<|ao (.l A)<|mg<|.ex fun (bz:Level)=>ao (.v (.a [(aw bz.Readers),(aw bz.Writers)]))<|bt<|xB fun bb=>bt<|bf<|bt<|.nil) (bf<|bf<|bf<|bf<|bf<|bf<|bf<|bf<|bf<|bf<|bt<|bt<|bt<|.nil)) (Mm<|.nil)) fun L=>ai ((by simp [aV s,bm s]):(((.a [(.l 4 (a1.Readers.map AV.b)),(.l 4 (a1.Writers.map AV.b))]):AV).deep dp&&(dY dp 5 [(0,(.p k0 0)),(1,(I a0)),(2,(.a [(.l 4 (a1.Readers.map AV.b)),(.l 4 (a1.Writers.map AV.b))]))] []))=true)<|ai C<|ai B<|dM h fun j1 h2 h=>ai h2<|ba h fun y3 h4 h=>ai (aB dk h4)<|ai ((by simp [jk,aV s,bm s]):(dY dp 7 [(15,(.a (jk y3))),(14,(.e (.a (jk y3)) 0)),(13,(I a0)),(12,(.l 86 (c0.P.Vars.map dk))),(11,(.p k0 5)),(10,(.p k0 0)),(9,(.p k0 0)),(8,(.p k0 0)),(0,(.p k0 0)),(1,(I a0)),(5,(.p ⟨dp,5⟩ 0))] [(5,[(.l 4 (a1.Readers.map AV.b)),(.l 4 (a1.Writers.map AV.b))])])=true)<|ai (rfl:dp=dp)<|ai (rN dp)<|ai tt<|ai (rN dp)<|eH<|ba h fun r5 cy h=>have cy:=cO s (mN (dp+1) D k0 (aJ s) (aU (an s hz)) c0 _ cy);ai cy<|fH<|ai C<|ai B<|aZ<|ai h2<|ai C<|ai B<|ba h fun y7 h8 h=>ai (aB aC h8)<|ai tt<|ai C<|ai B<|ai (aB aC h8)<|ai tt<|bq h (tO r5 y7) fun r9 h=>aZ<|bB h (fun aE h=>ai (g1 aE)<|iT aE<|ai (rN dp)<|iT aE<|iT aE<|ai tt<|bB h (fun bv h=>let F:=az not bv;ai (g0 F)<|ai (rN dp)<|wc F<|wc F<|ai tt<|ai (g0 F)<|ai C<|ai B<|wc F<|ai (rN dp)<|Db F<|bq h (tP c0.P.ak y3.Label) fun bz h=>Db F<|bq h (tO a1 bz) fun bb h=>ai (g1 aE)<|ai F<|ai aE<|L h) (fun bv h=>let H:=az not bv;fy H<|fy H<|fy H<|ai (g0 H)<|ai (g1 aE)<|ai H<|ai aE<|L h)) (fun aE h=>Mi aE<|L h)
abbrev FV(dp:Nat)(hp:HP)(k0:Key)(c0:Machine)(a0:Int)(r:Machine):bC×HP:=(.ret (.tp []),ar hp k0 ((aa r).set 17 (.b true)))
def kG:Option Machine:=
 some (⟨c0.P,c0.Ins,c0.Fuel,(⟨c0.R.Events,c0.R.Vars,c0.R.Taken,c0.R.Steps,3,a0⟩:RunT),c0.Tasks,(),c0.bW,c0.Places⟩:Machine)
theorem oZ(s:k0.dp<dp)(hz:bF dp hp)(c0:Machine)(a0:Int)(r:Machine)(h:kG c0 a0=some r):call G Ω0 ⟨dp,false⟩ 118 [(.p k0 0),(I a0)] (ar hp k0 ((aa c0).set 17 (.b true)))=some (FV dp hp k0 c0 a0 r):=
 let D:=aj s;let C:=(aa c0).set 17 (.b true);let B:=(((aa c0).set 14 (I 3)).set 15 (I a0)).set 17 (.b true);let A:=((aa c0).set 14 (I 3)).set 17 (.b true);bj anY (bf<|ao (.l C)<|bf<|ao (.h (ar hp k0 A))<|bf<|ao (.l A)<|bf<|ao (.h (ar hp k0 B))<|.nil) fun L=>ai ff<|ai D<|ai (aA hp k0 C)<|ai tt<|ai D<|ai (bA hp k0 C A)<|ai ff<|ai D<|ai (aA hp k0 A)<|ai tt<|ai D<|ai (bA hp k0 A B)<|L h
def yS:Option Int:=
 if 2147483647<aq then
  if IntKind.i64.wrap (aq - 4294967296)=aq - 4294967296 then
   some (aq - 4294967296)
  else none
 else
  some aq
abbrev Dr(x:Int):bc×St:=(.ret,⟨[(2,(I x))],[],H0⟩)
theorem Hr(x:Int)(h:yS aq=some x):run G Ω0 E0 UT ⟨[(0,(I aq))],[],H0⟩=some (Dr x):=
 oi (.or (bt<|ao (.i (aq - 4294967296))<|.nil) (bf<|.nil)) fun L=>cw h (fun h3 h=>ai (aF h3)<|aO h fun w4 h=>ai w4<|L h) (fun h3 h=>ai (aD h3)<|L h)
abbrev XN(a0:Int)(r:Int):bC×HP:=(.ret (I r),H0)
def yy:Option Int:=
 if (a0.tmod 4294967296)<0 then
  if IntKind.i64.wrap ((a0.tmod 4294967296)+4294967296)=(a0.tmod 4294967296)+4294967296 then
   (yS ((a0.tmod 4294967296)+4294967296)).bind fun x3=>
   some x3
  else none
 else
  (yS (a0.tmod 4294967296)).bind fun x2=>
  some x2
theorem Dt(r:Int)(h:yy a0=some r):call G Ω0 E0 158 [(I a0)] H0=some (XN a0 r):=
 let A:=a0.tmod 4294967296;bj aon (ao (.i A)<|.or (bt<|ao (.i (A+4294967296))<|.fb<|.ex fun (x3:Int)=>ao (.ei (Dr x3))<|.nil) (bf<|.fb<|.ex fun (x2:Int)=>ao (.ei (Dr x2))<|.nil)) fun L=>ai ((by decide):(4294967296:Int)≠0)<|ai (rfl:a0.tmod 4294967296=a0.tmod 4294967296)<|cw h (fun h1 h=>ai (aF h1)<|aO h fun w2 h=>ai w2<|bq h (Hr (A+4294967296)) fun x3 h=>L h) (fun h1 h=>ai (aD h1)<|bq h (Hr A) fun x2 h=>L h)
end
section
variable (a0:ay)(a1:(List Int))
abbrev RS(a0:ay)(a1:(List Int))(r:Int):bC×HP:=(.ret (I r),H0)
abbrev Du(r:Int):Prop:=call G Ω0 E0 119 [(.a (bL a0)),(.l 3 (a1.map (I)))] H0=some (RS a0 a1 r)
end
structure Dv where
 f_R_ValueOf:ay→(List Int)→Option Int
structure Hs(R:Dv):Prop where
 f_R_ValueOf:∀ (a0:ay)(a1:(List Int))(r:Int),R.f_R_ValueOf a0 a1=some r→Du a0 a1 r
section
variable (a0:ay)(r5:Int)(r9:Int)(R:Dv)(a1:(List Int))
def Nf:List dE:=(gF 52 0 2)::(gQ 53 52)::(gB 54 .eql 53 (kI 6))::(gM 55 54)::⟨some 56,.mv 5,some ⟨55,true⟩,false⟩::⟨some 57,.mv 6,some ⟨55,true⟩,false⟩::⟨some 58,.bo .lss false 56 57,some ⟨55,true⟩,false⟩::(gk 59 55 58 (.c (.b false)))::(gM 60 59)::⟨some 61,.fa 0 2,some ⟨60,false⟩,false⟩::⟨some 62,.ld none 61,some ⟨60,false⟩,false⟩::⟨some 63,.bo .eql false 62 (kI 7),some ⟨60,false⟩,false⟩::⟨some 64,.mv 63,some ⟨60,false⟩,false⟩::⟨some 65,.mv 5,some ⟨64,true⟩,false⟩::⟨some 66,.mv 6,some ⟨64,true⟩,false⟩::⟨some 67,.bo .eql false 65 66,some ⟨64,true⟩,false⟩::⟨some 68,.pk 64 67 (.c (.b false)),some ⟨60,false⟩,false⟩::(gp 69 (.pk 60 (.c (.b true)) 68))::[]
def yz:Option Bool:=
 if (a0.Kind==6)=true then
  if r5<r9 then
   some true
  else
   if (a0.Kind==7)=true then
    some (r5==r9)
   else
    some false
 else
  if (a0.Kind==7)=true then
   some (r5==r9)
  else
   some false
abbrev Ei(x:Bool):St:=⟨[(69,(.b x))],[],H0⟩
theorem LG(x:Bool)(h:yz a0 r5 r9=some x):q9 G Ω0 E0 [69] [] Nf ⟨[zP 2,(5,(I r5)),(6,(I r9))],[(2,(bL a0))],H0⟩=some (Ei x):=
 qJ (bt<|.or (mg<|.or (TL<|.nil) (pn<|.or (TM<|.nil) (Ml<|.nil))) (bf<|bf<|bf<|bf<|bt<|bt<|bt<|bt<|bt<|.or (TM<|.nil) (Ml<|.nil))) fun L=>ai (rfl:Z0)<|bB h (fun a3 h=>Mk a3<|cw h (fun b3 h=>TD (aF b3)<|L h) (fun b3 h=>Zi (aD b3)<|bB h (fun be h=>PE be<|ai (g0 (aD b3))<|ai be<|ai (aD b3)<|L h) (fun be h=>PE be<|ai (g0 (aD b3))<|ai be<|ai (aD b3)<|L h))) (fun a3 h=>dC a3<|qg a3<|ai hf<|ai hf<|ai (rfl:Z0)<|ai hf<|ai hf<|bB h (fun b3 h=>Zh b3<|L h) (fun b3 h=>Zh b3<|L h))
def wK(a0:ay)(a1:(List Int)):Option Int:=
 if (a0.Kind==1)=true then
  some a0.N
 else
  if (a0.Kind==2)=true then
   (cU a0.N).bind fun j3=>
   (a1[j3]?).bind fun y5=>
   some y5
  else
   (a0.Args[0]?).bind fun y3=>
   (R.f_R_ValueOf y3 a1).bind fun r5=>
   (a0.Args[1]?).bind fun y7=>
   (R.f_R_ValueOf y7 a1).bind fun r9=>
   if (a0.Kind==3)=true then
    if IntKind.i64.wrap (r5+r9)=r5+r9 then
     (yy (r5+r9)).bind fun bz=>
     some bz
    else none
   else
    if (a0.Kind==4)=true then
     if IntKind.i64.wrap (r5 - r9)=r5 - r9 then
      (yy (r5 - r9)).bind fun a5=>
      some a5
     else none
    else
     if (a0.Kind==5)=true then
      if IntKind.i64.wrap (r5*r9)=r5*r9 then
       (yy (r5*r9)).bind fun bb=>
       some bb
      else none
     else
      (yz a0 r5 r9).bind fun c5=>
      if c5=true then
       some 1
      else
       some 0
theorem LH(hR:Hs R)(a0:ay)(a1:(List Int))(r:Int)(h:wK R a0 a1=some r):Du a0 a1 r:=
 bj anZ (bt<|.or (cM<|.nil) (bf<|.or (cM<|xN fun j3=>xI fun y5=>.nil) (we<|ao (.n 0)<|.ex fun (y3:ay)=>ao (.v (.a (bL y3)))<|xI fun r5=>bt<|ao (.n 1)<|.ex fun (y7:ay)=>ao (.v (.a (bL y7)))<|xI fun r9=>bt<|.or (bt<|ao (.i (r5+r9))<|xI fun bz=>.nil) (bf<|.or (bt<|ao (.i (r5 - r9))<|xI fun a5=>.nil) (bf<|.or (bt<|ao (.i (r5*r9))<|xI fun bb=>.nil) (bf<|.jb (some 52) 17<|.ex fun (c5:Bool)=>ao (.jn (Ei c5))<|oN (.nil))))))) fun L=>uq<|bB h (fun h1 h=>lG h1<|L h) (fun h1 h=>ai h1<|bB h (fun h2 h=>lG h2<|dM h fun j3 h4 h=>ai h4<|ba h fun y5 h6 h=>ai (aB I h6)<|L h) (fun h2 h=>ai h2<|aZ<|l3<|ai (rI 0)<|ba h fun y3 h4 h=>ai (dR bw h4 (di _))<|eH<|bq h (hR.f_R_ValueOf y3 a1) fun r5 h=>Je<|ai (rI 1)<|ba h fun y7 h8 h=>ai (dR bw h8 (di _))<|eH<|bq h (hR.f_R_ValueOf y7 a1) fun r9 h=>ai (rfl:Z0)<|bB h (fun aE h=>ai aE<|aO h fun cY h=>ai cY<|bq h (Dt (r5+r9)) fun bz h=>L h) (fun aE h=>ai aE<|bB h (fun bv h=>ai bv<|aO h fun dH h=>ai dH<|bq h (Dt (r5 - r9)) fun a5 h=>L h) (fun bv h=>ai bv<|bB h (fun a6 h=>ai a6<|aO h fun dG h=>ai dG<|bq h (Dt (r5*r9)) fun bb h=>L h) (fun a6 h=>ai a6<|bq h (LG a0 r5 r9) fun c5 h=>bB h (fun be h=>ai be<|L h) (fun be h=>ai be<|L h))))))
def uD:Nat→Dv
 | 0=>⟨fun z0 z1=>none⟩
 | n+1=>⟨wK (uD n)⟩
theorem Ht:∀ n,Hs (uD n)
 | 0=>⟨fun _ _ r h=>(by cases h)⟩
 | n+1=>⟨fun a0 a1 r h=>LH _ (Ht n) a0 a1 r h⟩
def jH:Option Int:=ev fun n=>(uD n).f_R_ValueOf a0 a1
theorem tQ(r:Int)(h:jH a0 a1=some r):Du a0 a1 r:=by
 obtain ⟨n,hn⟩:=nW h
 exact (Ht n).f_R_ValueOf a0 a1 r hn
end
section
variable (dp:Nat)(hp:HP)(k0:Key)(c0:Machine)(a0:Task)(y3:Func)(ag:(List Int))(y:(List Level))(ab:Nat)
abbrev JS(dp:Nat)(hp:HP)(k0:Key)(c0:Machine)(a0:Task)(r:Machine):bC×HP:=(.ret (.tp []),ar hp k0 ((aa r).set 17 (.b true)))
def qD:Option Machine:=
 (cU a0.S.Other).bind fun j1=>
 (c0.P.Funcs[j1]?).bind fun y3=>
 (iv c0 y3.Result).bind fun r5=>
 (jv c0 a0.S.Var r5).bind fun r7=>
 if r7=true then
  (cU a0.S.Var).bind fun j10=>
  (c0.bW[j10]?).bind fun bn=>
  (jH y3.Result c0.R.Vars).bind fun a5=>
  (c0.R.Vars[j10]?).bind fun cd=>
  some (⟨c0.P,c0.Ins,c0.Fuel,(⟨c0.R.Events,c0.R.Vars.set j10 a5,c0.R.Taken,c0.R.Steps,c0.R.End,c0.R.Stop⟩:RunT),c0.Tasks,(),c0.bW.set j10 r5,c0.Places⟩:Machine)
 else
  (kG c0 a0.At).bind fun bd=>
  some bd
theorem FW(s:k0.dp<dp)(hz:bF dp hp)(c0:Machine)(a0:Task)(r:Machine)(h:qD c0 a0=some r):call G Ω0 ⟨dp,false⟩ 73 [(.p k0 0),(.a (bD a0))] (ar hp k0 ((aa c0).set 17 (.b true)))=some (JS dp hp k0 c0 a0 r):=
 let J:=aJ s;let H:=gu s [4];let D:=(3,(bD a0));let C:=aj s;let B:=(cj c0).set 17 (.b true);let A:=(aa c0).set 17 (.b true);let F:=ar hp k0 A;let E:=aA hp k0 A;bj G73 (bf<|ao (.l A)<|bt<|xN fun j1=>.ex fun (y3:Func)=>let K:=(4,(cB y3));ao (.v (.a (cB y3)))<|Jf<|ao (.l A)<|cM<|.ex fun (r5:Level)=>let M:=[(aw r5.Readers),(aw r5.Writers)];let N:=[D,K,(5,M)];ao (.v (.a M))<|ao (.h (boxes dp [D,K] F))<|mg<|xB fun r7=>ao (.h (boxes dp N F))<|.or (IG<|ao (.l A)<|cM<|xN fun j10=>let O:=B.set 18 (av (c0.bW.set j10 r5));bf<|ao (.l A)<|.ex fun (bn:Level)=>let P:=[(aw bn.Readers),(aw bn.Writers)];ao (.v (.a P))<|bf<|ao (.l A)<|ao (.v (.a P))<|ao (.l ((c0.bW.set j10 r5).map aC))<|bf<|ao (.l A)<|bf<|ao (.h (ar hp k0 O))<|bf<|ao (.l O)<|Jf<|ao (.l O)<|bf<|ao (.l O)<|xI fun a5=>let Q:=c0.R.Vars.set j10 a5;ao (.n j10)<|bf<|ao (.l O)<|xI fun cd=>bf<|ao (.l O)<|ao (.v (I cd))<|ao (.l (Q.map I))<|bf<|ao (.l O)<|bf<|ao (.h (ar hp k0 ((((bk c0).set 11 (aG Q)).set 17 (.b true)).set 18 (av (c0.bW.set j10 r5)))))<|.nil) (cM<|.ex fun (bd:Machine)=>let T:=ar hp k0 ((aa bd).set 17 (.b true));ao (.v (.tp []))<|ao (.h (boxes dp N T))<|ao (.bx N)<|ao (.h T)<|.nil)) fun L=>ai ((by simp [bD,aV s,bm s]):(((.a (bD a0)):AV).deep dp&&(dY dp 3 [(0,(.p k0 0)),(1,(.a (bD a0)))] []))=true)<|ai ((by simp [bD,aV s]):(([4]:List Nat).all (ee dp (⟨[(0,(.p k0 0)),(3,(.p ⟨dp,3⟩ 0))],[(3,(bD a0))],H0⟩:St))&&true)=true)<|ai H<|ai H<|ai H<|ai (eu s [4] [] 6)<|ai C<|ai E<|ai tt<|ai (ji dp [4] [] 3 2)<|ai (ji dp [4] [] 3 4)<|ai (rN dp)<|ai tt<|dM h fun j1 h2 h=>ai h2<|ba h fun y3 h4 h=>let U:=(4,(cB y3));ai (aB cS h4)<|aZ<|aZ<|ai ff<|ai (rN dp)<|ai tt<|ai (rN dp)<|ai C<|ai E<|ai tt<|ai (rN dp)<|ai tt<|ba h fun r5 cy h=>let V:=[(aw r5.Readers),(aw r5.Writers)];let W:=boxes dp [D,U,(5,V)] F;have cy:=cO s (kh (dp+1) (boxes dp [D,U] F) k0 J (aU (an s hz)) c0 y3.Result _ cy);ai cy<|ai ((by simp [bL,cB,bD,aV s,bm s]):(dY dp 5 [(23,(.a [(.l 4 (r5.Readers.map AV.b)),(.l 4 (r5.Writers.map AV.b))])),(22,(.a (bL y3.Result))),(21,(.p ⟨dp,4⟩ 2)),(20,(.p k0 0)),(0,(.p k0 0)),(3,(.p ⟨dp,3⟩ 0)),(4,(.p ⟨dp,4⟩ 0)),(19,(.b true))] [(3,(bD a0)),(4,(cB y3))])=true)<|ai ff<|ai (rN dp)<|ai tt<|ai (rN dp)<|ai (rN dp)<|ai (rN dp)<|ai tt<|ba h fun r7 cx h=>have cx:=cO s (pM (dp+1) W k0 J (aU (an s hz)) c0 a0.S.Var r5 _ cx);ai cx<|bB h (fun h9 h=>A3 (az not h9)<|ai C<|ai E<|eH<|ai (rN dp)<|ai tt<|ai (rN dp)<|ai tt<|dM h fun j10 aE h=>let X:=B.set 18 (av (c0.bW.set j10 r5));let Y:=aA hp k0 X;ai aE<|ai C<|ai E<|ba h fun bn a6 h=>ai (aB aC a6)<|ai ff<|ai C<|ai E<|ai (aB aC a6)<|ai (map_set .. : (c0.bW.map aC).set j10 (.a V)=(c0.bW.set j10 r5).map aC)<|ai C<|ai E<|ai C<|ai (bA hp k0 A X)<|mu<|ai C<|ai Y<|eH<|ai (rN dp)<|aZ<|ai (rN dp)<|mu<|ai C<|ai Y<|ai tt<|ai C<|ai Y<|bq h (tQ y3.Result c0.R.Vars) fun a5 h=>let Z:=c0.R.Vars.set j10 a5;aZ<|ai tt<|ai aE<|ai C<|ai Y<|ba h fun cd cn h=>ai (aB I cn)<|ai ff<|ai C<|ai Y<|ai (aB I cn)<|ai (map_set .. : (c0.R.Vars.map I).set j10 (I a5)=Z.map I)<|ai C<|ai Y<|ai C<|ai (bA hp k0 X ((((bk c0).set 11 (aG Z)).set 17 (.b true)).set 18 (av (c0.bW.set j10 r5))))<|L h) (fun h9 h=>ai (az not h9)<|ai (rN dp)<|ew<|ba h fun bd bG h=>have bG:=cO s (oZ (dp+1) W k0 J (aU (an s hz)) c0 a0.At _ bG);eo bG (an s hz)<|L h)
def oJ:Option (((List Int)×(List Level)×Nat)⊕(Machine⊕((List Int)×(List Level)×Nat×Bool))):=
 if (ab:Int)<(y3.Params.length:Int) then
  (a0.S.Args[ab]?).bind fun y6=>
  (jH y6 c0.R.Vars).bind fun r8=>
  if ag.length + [r8].length≤1000000000 then
   (iv c0 y6).bind fun ah=>
   if y.length + [ah].length≤1000000000 then
    (y3.Params[ab]?).bind fun c4=>
    ((y++[ah])[ab]?).bind fun cd=>
    (jv c0 c4 cd).bind fun dg=>
    if dg=true then
     if IntKind.i64.wrap ((ab:Int)+1)=((ab+1:Nat):Int) then
      some (.inl (ag++[r8],y++[ah],ab+1))
     else none
    else
     (kG c0 a0.At).bind fun c6=>
     some (.inr (.inl c6))
   else none
  else none
 else
  some (.inr (.inr (ag,y,ab,decide ((ab:Int)<(y3.Params.length:Int)))))
abbrev Hu(v:((List Int)×(List Level)×Nat)):St:=⟨[(0,(.p k0 0)),(3,(.p ⟨dp,3⟩ 0)),(4,(.p ⟨dp,4⟩ 0)),(5,(aG v.1)),(6,(av v.2.1)),(7,(I (v.2.2:Int)))],[(3,(bD a0)),(4,(cB y3))],ar hp k0 ((aa c0).set 17 (.b true))⟩
abbrev sP(x:(Machine⊕((List Int)×(List Level)×Nat×Bool))):bc×St:=match x with | .inl z1=>(.ret,⟨[],[],ar hp k0 ((aa z1).set 17 (.b true))⟩) | .inr (z1,z2,z3,z4)=>((.ex 0),⟨[(0,(.p k0 0)),(3,(.p ⟨dp,3⟩ 0)),(4,(.p ⟨dp,4⟩ 0)),(5,(aG z1)),(6,(av z2)),(7,(I (z3:Int))),(23,(.b z4))],[(3,(bD a0)),(4,(cB y3))],ar hp k0 ((aa c0).set 17 (.b true))⟩)
theorem FX(s:k0.dp<dp)(hz:bF dp hp)(c0:Machine)(a0:Task)(y3:Func)(ag:(List Int))(y:(List Level))(ab:Nat)(o:((List Int)×(List Level)×Nat)⊕(Machine⊕((List Int)×(List Level)×Nat×Bool)))(h:oJ c0 a0 y3 ag y ab=some o):bQ ⟨dp,false⟩ UB (Hu dp hp k0 c0 a0 y3) (sP dp hp k0 c0 a0 y3) (ag,y,ab) o:=
 let F:=aJ s;let E:=aj s;let C:=rI ab;let B:=(aa c0).set 17 (.b true);let D:=aA hp k0 B;let A:=boxes dp [(3,(bD a0)),(4,(cB y3))] (ar hp k0 B);bZ (bt<|ao (.i (y3.Params.length:Int))<|.or (cM<|ao (.n ab)<|.ex fun (y6:ay)=>ao (.v (.a (bL y6)))<|bf<|ao (.l B)<|bf<|ao (.l B)<|xI fun r8=>ao (.l ([r8].map I))<|ao (.l ((ag++[r8]).map I))<|bf<|ao (.l B)<|cM<|ao (.n ab)<|ao (.v (.a (bL y6)))<|.ex fun (ah:Level)=>ao (.v (.a [(aw ah.Readers),(aw ah.Writers)]))<|ao (.h A)<|ao (.l ([ah].map aC))<|ao (.l ((y++[ah]).map aC))<|bt<|ao (.n ab)<|xI fun c4=>ao (.n ab)<|.ex fun (cd:Level)=>let G:=[(aw cd.Readers),(aw cd.Writers)];ao (.v (.a G))<|ao (.v (.a G))<|xB fun dg=>ao (.h A)<|.or (bf<|ao (.i ((ab+1:Nat):Int))<|.nil) (cM<|.ex fun (c6:Machine)=>let H:=ar hp k0 ((aa c6).set 17 (.b true));ao (.v (.tp []))<|ao (.h (boxes dp [(3,(bD a0)),(4,(cB y3))] H))<|ao (.bx [(3,(bD a0)),(4,(cB y3))])<|ao (.h H)<|.nil)) (bf<|.nil)) fun L=>ai (rN dp)<|ai (aP I y3.Params)<|cw h (fun h5 h=>ai (aF h5)<|ai ((by simp [cB,bD,aV s]):(([39]:List Nat).all (ee dp (⟨[(0,(.p k0 0)),(3,(.p ⟨dp,3⟩ 0)),(4,(.p ⟨dp,4⟩ 0)),(5,(.o 3 (ag.map I))),(6,(.o 113 (y.map aC))),(7,(I (ab:Int)))],[(3,(bD a0)),(4,(cB y3))],H0⟩:St))&&true)=true)<|ai tt<|ai (ji dp [39] [] 3 2)<|ai (ji dp [39] [] 3 8)<|ai (rN dp)<|aZ<|ai C<|ba h fun y6 h7 h=>ai (dR bw h7 (di _))<|aZ<|ai (gu s [39])<|ai (gu s [39])<|ai (eu s [39] [] 10)<|ai (eu s [39] [] 11)<|ai E<|ai D<|ai (v8 s [39] 11)<|ai E<|ai D<|bq h (tQ y6 c0.R.Vars) fun r8 h=>let J:=[r8].map I;eH<|ai (rfl:[(I r8)]=[r8].map I)<|mw<|aO h fun cb h=>ai ((dS I (n:=1) (fun _=>rfl) [r8]):J.all (fun e=>e.nc==1)=true)<|ai ((eJ cb (by decide)):((ag.map I).length+J.length)*8≤140737488355328)<|ai ((eK cb):(ag.map I).length+J.length≤maxLen)<|ai (cQ.symm:ag.map (I)++[r8].map (I)=(ag++[r8]).map I)<|ai E<|ai D<|ai tt<|ai (rN dp)<|ai C<|ai (dR bw h7 (di _))<|ai tt<|ba h fun ah a4 h=>let K:=[ah].map aC;have a4:=cO s (kh (dp+1) A k0 F (aU (an s hz)) c0 y6 _ a4);ai a4<|ai (rfl:[(.a [(aw ah.Readers),(aw ah.Writers)])]=[ah].map aC)<|ai ff<|aO h fun a6 h=>ai ((dS aC (n:=2) (fun _=>rfl) [ah]):K.all (fun e=>e.nc==2)=true)<|ai ((eJ a6 (by decide)):((y.map aC).length+K.length)*48≤140737488355328)<|ai ((eK a6):(y.map aC).length+K.length≤maxLen)<|ai (cQ.symm:y.map aC++[ah].map aC=(y++[ah]).map aC)<|eH<|ai (rN dp)<|aZ<|ai C<|ba h fun c4 b3 h=>ai (aB I b3)<|fH<|ai C<|ba h fun cd cn h=>ai (aB aC cn)<|ai tt<|ai (aB aC cn)<|aZ<|ba h fun dg cI h=>have cI:=cO s (pM (dp+1) A k0 F (aU (an s hz)) c0 c4 cd _ cI);ai cI<|bB h (fun b5 h=>ai (az not b5)<|aO h fun dd h=>ai dd<|L h) (fun b5 h=>ai (az not b5)<|ai (rN dp)<|ew<|ba h fun c6 cE h=>have cE:=cO s (oZ (dp+1) A k0 F (aU (an s hz)) c0 a0.At _ cE);eo cE (an s hz)<|L h)) (fun h5 h=>ai (aD h5)<|L h)
def lz(ae:((List Int)×(List Level)×Nat×Bool))(ad:Nat)(v1_k0_11:(List Int))(v1_k0_18:(List Level)):Option ((Nat×(List Int)×(List Level))⊕(Nat×Bool×(List Int)×(List Level))):=
 if (ad:Int)<(y3.Params.length:Int) then
  (y3.Params[ad]?).bind fun y9=>
  (ae.1[ad]?).bind fun ck=>
  (cU y9).bind fun j13=>
  (v1_k0_11[j13]?).bind fun da=>
  (ae.2.1[ad]?).bind fun b2=>
  (v1_k0_18[j13]?).bind fun c3=>
  if IntKind.i64.wrap ((ad:Int)+1)=((ad+1:Nat):Int) then
   some (.inl (ad+1,v1_k0_11.set j13 ck,v1_k0_18.set j13 b2))
  else none
 else
  some (.inr (ad,decide ((ad:Int)<(y3.Params.length:Int)),v1_k0_11,v1_k0_18))
abbrev Hv(ae:((List Int)×(List Level)×Nat×Bool))(v:(Nat×(List Int)×(List Level))):St:=⟨[(0,(.p k0 0)),(3,(.p ⟨dp,3⟩ 0)),(4,(.p ⟨dp,4⟩ 0)),(5,(aG ae.1)),(6,(av ae.2.1)),(8,(I (v.1:Int)))],[(3,(bD a0)),(4,(cB y3))],ar hp k0 ((((bk c0).set 11 (aG v.2.1)).set 17 (.b true)).set 18 (av v.2.2))⟩
abbrev zw(ae:((List Int)×(List Level)×Nat×Bool))(x:(Nat×Bool×(List Int)×(List Level))):bc×St:=((.ex 2),⟨[(0,(.p k0 0)),(3,(.p ⟨dp,3⟩ 0)),(4,(.p ⟨dp,4⟩ 0)),(5,(aG ae.1)),(6,(av ae.2.1)),(8,(I (x.1:Int))),(76,(.b x.2.1))],[(3,(bD a0)),(4,(cB y3))],ar hp k0 ((((bk c0).set 11 (aG x.2.2.1)).set 17 (.b true)).set 18 (av x.2.2.2))⟩)
theorem FY(s:k0.dp<dp)(hz:bF dp hp)(c0:Machine)(a0:Task)(y3:Func)(ae:((List Int)×(List Level)×Nat×Bool))(ad:Nat)(v1_k0_11:(List Int))(v1_k0_18:(List Level))(o:(Nat×(List Int)×(List Level))⊕(Nat×Bool×(List Int)×(List Level)))(h:lz y3 ae ad v1_k0_11 v1_k0_18=some o):bQ ⟨dp,false⟩ UC (Hv dp hp k0 c0 a0 y3 ae) (zw dp hp k0 c0 a0 y3 ae) (ad,v1_k0_11,v1_k0_18) o:=
 let E:=rI ad;let C:=aj s;let B:=av v1_k0_18;let A:=(((bk c0).set 11 (aG v1_k0_11)).set 17 (.b true)).set 18 B;let D:=aA hp k0 A;bZ (bt<|ao (.i (y3.Params.length:Int))<|.or (gZ<|ao (.l A)<|bt<|ao (.n ad)<|xI fun y9=>ao (.n ad)<|xI fun ck=>ao (.v (I ck))<|xN fun j13=>let F:=((bk c0).set 11 (aG (v1_k0_11.set j13 ck))).set 17 (.b true);let G:=F.set 18 B;bf<|ao (.l A)<|xI fun da=>bf<|ao (.l A)<|ao (.v (I da))<|ao (.l ((v1_k0_11.set j13 ck).map I))<|bf<|ao (.l A)<|bf<|ao (.h (ar hp k0 G))<|bf<|ao (.l G)<|gZ<|ao (.l G)<|bt<|ao (.n ad)<|ao (.v (I y9))<|ao (.n ad)<|.ex fun (b2:Level)=>let J:=v1_k0_18.set j13 b2;let H:=[(aw b2.Readers),(aw b2.Writers)];ao (.v (.a H))<|ao (.v (.a H))<|ao (.n j13)<|bf<|ao (.l G)<|.ex fun (c3:Level)=>let K:=[(aw c3.Readers),(aw c3.Writers)];ao (.v (.a K))<|bf<|ao (.l G)<|ao (.v (.a K))<|ao (.l (J.map aC))<|bf<|ao (.l G)<|bf<|ao (.h (ar hp k0 (F.set 18 (av J))))<|ao (.i ((ad+1:Nat):Int))<|.nil) (bf<|.nil)) fun L=>ai (rN dp)<|ai (aP I y3.Params)<|cw h (fun h8 h=>TH (aF h8)<|ai C<|ai D<|aZ<|ai (rN dp)<|aZ<|ai E<|ba h fun y9 cb h=>ai (aB I cb)<|fH<|ai E<|ba h fun ck bv h=>ai (aB I bv)<|ai tt<|ai (aB I bv)<|ai tt<|dM h fun j13 a3 h=>let O:=v1_k0_11.set j13 ck;let M:=(((bk c0).set 11 (aG O)).set 17 (.b true)).set 18 B;let N:=aA hp k0 M;ai a3<|ai C<|ai D<|ba h fun da be h=>ai (aB I be)<|ai ff<|ai C<|ai D<|ai (aB I be)<|ai (map_set .. : (v1_k0_11.map I).set j13 (I ck)=O.map I)<|ai C<|ai D<|ai C<|ai (bA hp k0 A M)<|ai C<|ai N<|mu<|ai C<|ai N<|aZ<|ai (rN dp)<|aZ<|ai E<|ai (aB I cb)<|fH<|ai E<|ba h fun b2 c8 h=>let P:=v1_k0_18.set j13 b2;ai (aB aC c8)<|ai tt<|ai (aB aC c8)<|ai tt<|ai a3<|ai C<|ai N<|ba h fun c3 b5 h=>ai (aB aC b5)<|ai ff<|ai C<|ai N<|ai (aB aC b5)<|ai (map_set .. : (v1_k0_18.map aC).set j13 (.a [(aw b2.Readers),(aw b2.Writers)])=P.map aC)<|ai C<|ai N<|ai C<|ai (bA hp k0 M ((((bk c0).set 11 (aG O)).set 17 (.b true)).set 18 (av P)))<|aO h fun dd h=>ai dd<|L h) (fun h8 h=>ai (aD h8)<|L h)
abbrev JT(dp:Nat)(hp:HP)(k0:Key)(c0:Machine)(a0:Task)(r:Machine):bC×HP:=(.ret (.tp []),ar hp k0 ((aa r).set 17 (.b true)))
def qE:Option Machine:=
 (cU a0.S.Other).bind fun j1=>
 (c0.P.Funcs[j1]?).bind fun y3=>
 (lp (fun v=>oJ c0 a0 y3 v.1 v.2.1 v.2.2) (([]:List Int),([]:List Level),0)).bind fun x5=>match x5 with
 | .inl aI=>
  some aI
 | .inr ae=>
  (lp (fun v=>lz y3 ae v.1 v.2.1 v.2.2) (0,c0.R.Vars,c0.bW)).bind fun x8=>
  if c0.Tasks.length+([(⟨2,a0.At,a0.S,0⟩:Task)]).length≤1000000000 then
   (oY c0.P a0.S.Other).bind fun ah=>
   (fF (⟨c0.P,c0.Ins,c0.Fuel,(⟨c0.R.Events,x8.2.2.1,c0.R.Taken,c0.R.Steps,c0.R.End,c0.R.Stop⟩:RunT),c0.Tasks++([(⟨2,a0.At,a0.S,0⟩:Task)]),(),x8.2.2.2,c0.Places⟩:Machine) y3.Body ah).bind fun bz=>
   some bz
  else none
theorem FZ(s:k0.dp<dp)(hz:bF dp hp)(c0:Machine)(a0:Task)(r:Machine)(h:qE c0 a0=some r):call G Ω0 ⟨dp,false⟩ 120 [(.p k0 0),(.a (bD a0))] (ar hp k0 ((aa c0).set 17 (.b true)))=some (JT dp hp k0 c0 a0 r):=
 let J:=(3,(bD a0));let H:=(aa c0).set 17 (.b true);let F:=gu s [4];let D:=gu s [122,123];let C:=aj s;let A:=[(⟨2,a0.At,a0.S,0⟩:Task)];let E:=A.map bP;let B:=c0.Tasks++A;bj an0 (bf<|ao (.l H)<|bt<|xN fun j1=>.ex fun (y3:Func)=>ao (.v (.a (cB y3)))<|cM<|.or (.ex fun (aI:Machine)=>ao (.cA (sP dp hp k0 c0 a0 y3 (.inl aI)))<|.nil) (.ex fun (ae:((List Int)×(List Level)×Nat×Bool))=>ao (.cA (sP dp hp k0 c0 a0 y3 (.inr ae)))<|.ex fun (x8:(Nat×Bool×(List Int)×(List Level)))=>let N:=((((eI c0).set 11 (aG x8.2.2.1)).set 16 .u).set 17 (.b true)).set 18 (av x8.2.2.2);let M:=((((eI c0).set 11 (aG x8.2.2.1)).set 16 (bX B)).set 17 (.b true)).set 18 (av x8.2.2.2);let K:=(((bk c0).set 11 (aG x8.2.2.1)).set 17 (.b true)).set 18 (av x8.2.2.2);ao (.cA (zw dp hp k0 c0 a0 y3 ae x8))<|bf<|ao (.l K)<|cM<|ao (.l E)<|bf<|ao (.l K)<|bf<|ao (.l K)<|bf<|ao (.h (ar hp k0 N))<|ao (.l (B.map bP))<|bf<|ao (.l N)<|bf<|ao (.h (ar hp k0 M))<|gZ<|ao (.l M)<|bt<|xI fun ah=>.ex fun (bz:Machine)=>let O:=ar hp k0 ((aa bz).set 17 (.b true));ao (.v (.tp []))<|ao (.h (boxes dp [J,(4,(cB y3))] O))<|ao (.bx [J,(4,(cB y3))])<|ao (.h O)<|.nil)) fun L=>ai ((by simp [bD,aV s,bm s]):(((.a (bD a0)):AV).deep dp&&(dY dp 3 [(0,(.p k0 0)),(1,(.a (bD a0)))] []))=true)<|ai ((by simp [bD,aV s]):(([4]:List Nat).all (ee dp (⟨[(0,(.p k0 0)),(3,(.p ⟨dp,3⟩ 0))],[(3,(bD a0))],H0⟩:St))&&true)=true)<|ai F<|ai F<|ai F<|ai (eu s [4] [] 6)<|ai C<|ai (aA hp k0 H)<|ai tt<|ai (ji dp [4] [] 3 2)<|ai (ji dp [4] [] 3 4)<|ai (rN dp)<|ai tt<|dM h fun j1 h2 h=>ai h2<|ba h fun y3 h4 h=>ai (aB cS h4)<|aZ<|aZ<|ai ff<|ai (rN dp)<|ai tt<|ai (rN dp)<|dv h (dT (fun v=>FX dp hp k0 s hz c0 a0 y3 v.1 v.2.1 v.2.2) (([]:List Int),([]:List Level),0)) (fun aI h=>L h) (fun ae h=>bq h (dT (fun v=>FY dp hp k0 s hz c0 a0 y3 ae v.1 v.2.1 v.2.2) (0,c0.R.Vars,c0.bW)) fun x8 h=>let U:=((((eI c0).set 11 (aG x8.2.2.1)).set 16 .u).set 17 (.b true)).set 18 (av x8.2.2.2);let T:=((((eI c0).set 11 (aG x8.2.2.1)).set 16 (bX B)).set 17 (.b true)).set 18 (av x8.2.2.2);let Q:=(((bk c0).set 11 (aG x8.2.2.1)).set 17 (.b true)).set 18 (av x8.2.2.2);let V:=aA hp k0 Q;ai ((by simp [cB,bD,aV s]):(([122,123]:List Nat).all (ee dp (⟨[(0,(.p k0 0)),(3,(.p ⟨dp,3⟩ 0)),(4,(.p ⟨dp,4⟩ 0))],[(3,(bD a0)),(4,(cB y3))],H0⟩:St))&&true)=true)<|ai D<|ai D<|ai D<|ai (eu s [122,123] [] 16)<|ai C<|ai V<|ai (v8 s [122,123] 16)<|ai (ji dp [122,123] [] 3 1)<|ai (rN dp)<|ai tt<|ai (ji dp [122,123] [] 3 2)<|ai (rN dp)<|aZ<|ai (rfl:[(.a (((bD a0).set 0 (I 2)).set 11 (I 0)))]=A.map bP)<|mw<|ai C<|ai V<|ai C<|ai V<|ai C<|ai (bA hp k0 Q U)<|aO h fun cb h=>ai ((dS bP (n:=12) (fun _=>rfl) A):E.all (fun e=>e.nc==12)=true)<|ai ((eJ cb (by decide)):((c0.Tasks.map bP).length+E.length)*160≤140737488355328)<|ai ((eK cb):(c0.Tasks.map bP).length+E.length≤maxLen)<|ai (cQ.symm:c0.Tasks.map bP++A.map bP=B.map bP)<|mw<|ai C<|ai (aA hp k0 U)<|ai C<|ai (bA hp k0 U T)<|eH<|ai (rN dp)<|fH<|ai C<|ai (aA hp k0 T)<|eH<|ai (rN dp)<|ai tt<|bq h (Eh c0.P a0.S.Other) fun ah h=>EN<|ba h fun bz cN h=>have cN:=cO s (kF (dp+1) (boxes dp [J,(4,(cB y3))] (ar hp k0 T)) k0 (aJ s) (aU (an s hz)) (⟨c0.P,c0.Ins,c0.Fuel,(⟨c0.R.Events,x8.2.2.1,c0.R.Taken,c0.R.Steps,c0.R.End,c0.R.Stop⟩:RunT),c0.Tasks++A,(),x8.2.2.2,c0.Places⟩:Machine) y3.Body ah _ cN);eo cN (an s hz)<|L h)
end
section
variable (dp:Nat)(hp:HP)(k0:Key)(c0:Machine)(a0:ay)
abbrev JU(dp:Nat)(hp:HP)(k0:Key)(c0:Machine)(a0:ay)(r:(Bool×Machine)):bC×HP:=(.ret (.b r.1),ar hp k0 ((aa r.2).set 17 (.b true)))
def gT:Option (Bool×Machine):=
 (iv c0 a0).bind fun r1=>
 if c0.Places.length + [r1].length≤1000000000 then
  (jH a0 c0.R.Vars).bind fun r4=>
  some ((r4 !=0),(⟨c0.P,c0.Ins,c0.Fuel,c0.R,c0.Tasks,(),c0.bW,c0.Places++[r1]⟩:Machine))
 else none
theorem xc(s:k0.dp<dp)(hz:bF dp hp)(c0:Machine)(a0:ay)(r:(Bool×Machine))(h:gT c0 a0=some r):call G Ω0 ⟨dp,false⟩ 121 [(.p k0 0),(.a (bL a0))] (ar hp k0 ((aa c0).set 17 (.b true)))=some (JU dp hp k0 c0 a0 r):=
 let D:=gu s [17,18];let C:=aj s;let B:=(dt c0).set 17 (.b true);let E:=B.set 19 .u;let A:=(aa c0).set 17 (.b true);let H:=boxes dp [] (ar hp k0 A);let F:=aA hp k0 A;bj an1 (bf<|ao (.l A)<|gZ<|ao (.l A)<|bt<|.ex fun (r1:Level)=>let J:=B.set 19 (av (c0.Places++[r1]));ao (.v (.a [(aw r1.Readers),(aw r1.Writers)]))<|ao (.h H)<|ao (.l ([r1].map aC))<|bf<|ao (.l A)<|bf<|ao (.l A)<|bf<|ao (.h (ar hp k0 E))<|ao (.l ((c0.Places++[r1]).map aC))<|bf<|ao (.l E)<|bf<|ao (.h (ar hp k0 J))<|gZ<|ao (.l J)<|bf<|ao (.l J)<|xI fun r4=>.nil) fun L=>ai ((by simp [bL,aV s,bm s]):(((.a (bL a0)):AV).deep dp&&(dY dp 3 [(0,(.p k0 0)),(1,(.a (bL a0)))] []))=true)<|ai C<|ai F<|ai tt<|ai ((by simp [bL,aV s]):(([17,18]:List Nat).all (ee dp (⟨[(0,(.p k0 0)),(3,(.p ⟨dp,3⟩ 0)),(8,(.b true))],[(3,(bL a0))],H0⟩:St))&&true)=true)<|ai D<|ai D<|ai D<|ai (eu s [17,18] [] 19)<|ai C<|ai F<|ai (v8 s [17,18] 19)<|ai D<|ai (rN dp)<|aZ<|ba h fun r1 cH h=>let M:=[r1].map aC;let K:=B.set 19 (av (c0.Places++[r1]));have cH:=cO s (kh (dp+1) H k0 (aJ s) (aU (an s hz)) c0 a0 _ cH);ai cH<|ai tt<|ai (rfl:[(.a [(aw r1.Readers),(aw r1.Writers)])]=[r1].map aC)<|mw<|ai C<|ai F<|ai C<|ai F<|ai C<|ai (bA hp k0 A E)<|aO h fun h3 h=>ai ((dS aC (n:=2) (fun _=>rfl) [r1]):M.all (fun e=>e.nc==2)=true)<|ai ((eJ h3 (by decide)):((c0.Places.map aC).length+M.length)*48≤140737488355328)<|ai ((eK h3):(c0.Places.map aC).length+M.length≤maxLen)<|ai (cQ.symm:c0.Places.map aC++[r1].map aC=(c0.Places++[r1]).map aC)<|mw<|ai C<|ai (aA hp k0 E)<|ai C<|ai (bA hp k0 E K)<|ai tt<|ai (rN dp)<|mu<|ai C<|ai (aA hp k0 K)<|ai tt<|ai C<|ai (aA hp k0 K)<|bq h (tQ a0 c0.R.Vars) fun r4 h=>aZ<|L h
end
section
variable (c0:Machine)(a0:Stmt)(aM:(List Bool))(bs:(List Bool))(hp:HP)(k0:Key)(dp:Nat)
def et:Option ((List Level)⊕Unit):=
 (jv c0 a0.Var (⟨aM,bs⟩:Level)).bind fun df=>
 if df=true then
  (cU a0.Var).bind fun j23=>
  (c0.bW[j23]?).bind fun c2=>
  some (.inl (c0.bW.set j23 (⟨aM,bs⟩:Level)))
 else
  some (.inr ())
abbrev dZ(c0:Machine)(x:((List Level)⊕Unit)):bc×St:=match x with | .inl z1=>(.ret,⟨[(4,(.b true))],[],ar hp k0 (((cj c0).set 17 (.b true)).set 18 (av z1))⟩) | .inr ()=>(.ret,⟨[(4,(.b false))],[],ar hp k0 ((aa c0).set 17 (.b true))⟩)
theorem kz(hp:HP)(k0:Key)(s:k0.dp<dp)(hz:bF dp hp)(c0:Machine)(a0:Stmt)(aM:(List Bool))(bs:(List Bool))(x:((List Level)⊕Unit))(h:et c0 a0 aM bs=some x):run G Ω0 ⟨dp,false⟩ UD ⟨[(0,(.p k0 0)),(3,(.p ⟨dp,3⟩ 0)),(6,(.p ⟨dp,6⟩ 0))],[(3,(ax a0)),(6,[(aw aM),(aw bs)])],ar hp k0 ((aa c0).set 17 (.b true))⟩=some (dZ hp k0 c0 x):=
 let F:=(cj c0).set 17 (.b true);let D:=aj s;let B:=(⟨aM,bs⟩:Level);let A:=(aa c0).set 17 (.b true);let E:=aA hp k0 A;let C:=boxes dp [(3,(ax a0)),(6,[(aw aM),(aw bs)])] (ar hp k0 A);oi (cM<|xB fun df=>ao (.h C)<|.or (IG<|ao (.l A)<|cM<|xN fun j23=>bf<|ao (.l A)<|.ex fun (c2:Level)=>let H:=[(aw c2.Readers),(aw c2.Writers)];ao (.v (.a H))<|bf<|ao (.l A)<|ao (.v (.a H))<|ao (.l ((c0.bW.set j23 B).map aC))<|bf<|ao (.l A)<|bf<|ao (.h (ar hp k0 (F.set 18 (av (c0.bW.set j23 B)))))<|.nil) (bt<|.nil)) fun L=>ai (rN dp)<|ai (rN dp)<|ai tt<|ba h fun df cG h=>have cG:=cO s (pM (dp+1) C k0 (aJ s) (aU (an s hz)) c0 a0.Var B _ cG);ai cG<|bB h (fun ci h=>A3 (az not ci)<|ai D<|ai E<|aZ<|ai (rN dp)<|ai tt<|ai (rN dp)<|ai tt<|dM h fun j23 c7 h=>ai c7<|ai D<|ai E<|ba h fun c2 cW h=>ai (aB aC cW)<|ai ff<|ai D<|ai E<|ai (aB aC cW)<|ai (map_set aC c0.bW j23 B:(c0.bW.map aC).set j23 (.a [(aw aM),(aw bs)])=(c0.bW.set j23 B).map aC)<|ai D<|ai E<|ai D<|ai (bA hp k0 A (F.set 18 (av (c0.bW.set j23 B))))<|L h) (fun ci h=>ai (az not ci)<|L h)
abbrev F0(dp:Nat)(hp:HP)(k0:Key)(c0:Machine)(a0:Stmt)(r:(Bool×Machine)):bC×HP:=(.ret (.b r.1),ar hp k0 ((aa r.2).set 17 (.b true)))
def nN:Option (Bool×Machine):=
 if (a0.Kind==1)=true then
  (iv c0 a0.Expr).bind fun r2=>
  (et c0 a0 r2.Readers r2.Writers).bind fun x4=>match x4 with
  | .inl cg=>
   some (true,(⟨c0.P,c0.Ins,c0.Fuel,c0.R,c0.Tasks,(),cg,c0.Places⟩:Machine))
  | .inr cp=>
   some (false,c0)
 else
  if (a0.Kind==3)=true then
   (cU a0.Other).bind fun j3=>
   (c0.P.Ins[j3]?).bind fun y5=>
   (iW c0.P.ak y5).bind fun r7=>
   (iH c0).bind fun r9=>
   (mX r9 r7).bind fun ah=>
   if ah=true then
    (iH c0).bind fun a5=>
    (kS r7 a5).bind fun cm=>
    (et c0 a0 cm.Readers cm.Writers).bind fun dw=>match dw with
    | .inl b0=>
     some (true,(⟨c0.P,c0.Ins,c0.Fuel,c0.R,c0.Tasks,(),b0,c0.Places⟩:Machine))
    | .inr b6=>
     some (false,c0)
   else
    some (false,c0)
  else
   if (a0.Kind==4)=true then
    (iv c0 a0.Expr).bind fun r4=>
    (cU a0.Other).bind fun j6=>
    (c0.P.Outs[j6]?).bind fun y8=>
    (iW c0.P.ak y8).bind fun bd=>
    (mX r4 bd).bind fun ct=>
    some (ct,c0)
   else
    (cU a0.Var).bind fun j4=>
    (c0.P.Vars[j4]?).bind fun y6=>
    if y6.Known=true then
     (sN c0.P a0).bind fun r9=>
     if r9=true then
      some (false,c0)
     else
      (sO c0.P a0).bind fun ct=>
      if ct=true then
       some (false,c0)
      else
       (iv c0 a0.Expr).bind fun bb=>
       (iW c0.P.ak y6.Label).bind fun cl=>
       if (a0.Kind==5)=true then
        (et c0 a0 cl.Readers bb.Writers).bind fun dc=>match dc with
        | .inl aH=>
         some (true,(⟨c0.P,c0.Ins,c0.Fuel,c0.R,c0.Tasks,(),aH,c0.Places⟩:Machine))
        | .inr aY=>
         some (false,c0)
       else
        (et c0 a0 bb.Readers cl.Writers).bind fun dc=>match dc with
        | .inl aH=>
         some (true,(⟨c0.P,c0.Ins,c0.Fuel,c0.R,c0.Tasks,(),aH,c0.Places⟩:Machine))
        | .inr aY=>
         some (false,c0)
    else
     some (false,c0)
theorem Dw(hp:HP)(k0:Key)(s:k0.dp<dp)(hz:bF dp hp)(c0:Machine)(a0:Stmt)(r:(Bool×Machine))(h:nN c0 a0=some r):call G Ω0 ⟨dp,false⟩ 122 [(.p k0 0),(.a (ax a0))] (ar hp k0 ((aa c0).set 17 (.b true)))=some (F0 dp hp k0 c0 a0 r):=
 let K:=gu s [8];let J:=gu s [7];let H:=List Level;let F:=aJ s;let E:=aj s;let A:=(aa c0).set 17 (.b true);let D:=aA hp k0 A;let C:=boxes dp [] (ar hp k0 A);let B:=boxes dp [(3,(ax a0)),(5,[(I c0.P.ak.Many),(aX c0.P.ak.Grants)]),(6,[(aw ([]:List Bool)),(aw ([]:List Bool))])] (ar hp k0 A);bj an2 (bf<|ao (.l A)<|IG<|ao (.l A)<|ea<|.or (cM<|.ex fun (r2:Level)=>ao (.v (.a [(aw r2.Readers),(aw r2.Writers)]))<|ao (.h B)<|cM<|.fb<|.or (.ex fun (cg:H)=>ao (.ei (dZ hp k0 c0 (.inl cg)))<|.nil) (.ex fun (cp:Unit)=>ao (.ei (dZ hp k0 c0 (.inr cp)))<|.nil)) (bf<|.or (Jf<|ao (.l A)<|bt<|xN fun j3=>.ex fun (y5:Label)=>ao (.v (.a [(bE y5.Read),(bE y5.Write)]))<|.ex fun (r7:Level)=>ao (.v (.a [(aw r7.Readers),(aw r7.Writers)]))<|cM<|.ex fun (r9:Level)=>ao (.v (.a [(aw r9.Readers),(aw r9.Writers)]))<|ao (.h C)<|bt<|xB fun ah=>.or (we<|.ex fun (a5:Level)=>ao (.v (.a [(aw a5.Readers),(aw a5.Writers)]))<|ao (.h C)<|.ex fun (cm:Level)=>ao (.v (.a [(aw cm.Readers),(aw cm.Writers)]))<|cM<|.fb<|.or (.ex fun (b0:H)=>ao (.ei (dZ hp k0 c0 (.inl b0)))<|.nil) (.ex fun (b6:Unit)=>ao (.ei (dZ hp k0 c0 (.inr b6)))<|.nil)) (bt<|.nil)) (bf<|.or (cM<|.ex fun (r4:Level)=>ao (.v (.a [(aw r4.Readers),(aw r4.Writers)]))<|ao (.h C)<|gZ<|ao (.l A)<|bt<|xN fun j6=>.ex fun (y8:Label)=>ao (.v (.a [(bE y8.Read),(bE y8.Write)]))<|.ex fun (bd:Level)=>ao (.v (.a [(aw bd.Readers),(aw bd.Writers)]))<|xB fun ct=>.nil) (IG<|ao (.l A)<|bt<|xN fun j4=>.ex fun (y6:Var)=>ao (.v (.a (jk y6)))<|.or (PH<|ao (.l A)<|ea<|xB fun r9=>bf<|.or (Xr<|.nil) (PH<|ao (.l A)<|ea<|xB fun ct=>bf<|oN (bt<|.ex fun (bb:Level)=>ao (.v (.a [(aw bb.Readers),(aw bb.Writers)]))<|ao (.h B)<|PL<|ao (.l A)<|bt<|ao (.n j4)<|ao (.v (.a (jk y6)))<|.ex fun (cl:Level)=>ao (.v (.a [(aw cl.Readers),(aw cl.Writers)]))<|ea<|.or (pn<|.fb<|.or (.ex fun (aH:H)=>ao (.ei (dZ hp k0 c0 (.inl aH)))<|.nil) (.ex fun (aY:Unit)=>ao (.ei (dZ hp k0 c0 (.inr aY)))<|.nil)) (bf<|bt<|bt<|bt<|bt<|.fb<|.or (.ex fun (aH:H)=>ao (.ei (dZ hp k0 c0 (.inl aH)))<|.nil) (.ex fun (aY:Unit)=>ao (.ei (dZ hp k0 c0 (.inr aY)))<|.nil))))) (ahJ<|.nil))))) fun L=>ai ((by simp [ax,aV s,bm s]):(((.a (ax a0)):AV).deep dp&&(dY dp 3 [(0,(.p k0 0)),(1,(.a (ax a0)))] []))=true)<|ai E<|ai D<|ai ff<|ai E<|ai D<|ai ((by simp [ax,aV s,bm s]):(dY dp 5 [(18,(.a [(I c0.P.ak.Many),(.l 79 (c0.P.ak.Grants.map bT))])),(17,(.p k0 0)),(16,(.p k0 0)),(15,(.p k0 0)),(14,(.p k0 0)),(0,(.p k0 0)),(3,(.p ⟨dp,3⟩ 0))] [(3,(ax a0))])=true)<|ai ff<|ai (rN dp)<|ai tt<|ai (rN dp)<|ai ((by simp [ax,aV s,bm s]):(dY dp 6 [(0,(.p k0 0)),(3,(.p ⟨dp,3⟩ 0)),(5,(.p ⟨dp,5⟩ 0))] [(3,(ax a0)),(5,[(I c0.P.ak.Many),(.l 79 (c0.P.ak.Grants.map bT))])])=true)<|ai (rN dp)<|bB h (fun h1 h=>ai h1<|ai (rN dp)<|ai tt<|ba h fun r2 cz h=>have cz:=cO s (kh (dp+1) B k0 F (aU (an s hz)) c0 a0.Expr _ cz);ai cz<|ai ff<|ai (rN dp)<|ai tt<|ai (rN dp)<|dv h (kz dp hp k0 s hz c0 a0 r2.Readers r2.Writers) (fun cg h=>L h) (fun cp h=>L h)) (fun h1 h=>ai h1<|bB h (fun h2 h=>ai h2<|ai ((by simp [ax,aV s]):(([7]:List Nat).all (ee dp (⟨[(0,(.p k0 0)),(3,(.p ⟨dp,3⟩ 0)),(5,(.p ⟨dp,5⟩ 0)),(6,(.p ⟨dp,6⟩ 0)),(20,(I a0.Kind)),(83,(.b (a0.Kind==3)))],[(3,(ax a0)),(5,[(I c0.P.ak.Many),(.l 79 (c0.P.ak.Grants.map bT))]),(6,[(.l 4 (([]:List Bool).map AV.b)),(.l 4 (([]:List Bool).map AV.b))])],H0⟩:St))&&true)=true)<|ai (rN dp)<|ai tt<|ai J<|ai J<|ai J<|ai (eu s [7] [] 3)<|ai E<|ai D<|ai tt<|ai (ji dp [7] [] 3 2)<|ai (rN dp)<|ai tt<|dM h fun j3 h4 h=>ai h4<|ba h fun y5 h6 h=>ai (aB aT h6)<|aZ<|bq h (tP c0.P.ak y5) fun r7 h=>aZ<|ai tt<|ai ff<|ai (rN dp)<|ai tt<|ai (rN dp)<|eH<|ba h fun r9 cR h=>have cR:=cO s (mN (dp+1) C k0 F (aU (an s hz)) c0 _ cR);ai cR<|ai tt<|ai (rN dp)<|ai tt<|bq h (tO r9 r7) fun ah h=>bB h (fun a6 h=>ai (az not a6)<|ai tt<|ai (rN dp)<|eH<|ba h fun a5 cK h=>have cK:=cO s (mN (dp+1) C k0 F (aU (an s hz)) c0 _ cK);ai cK<|ai tt<|bq h (uj r7 a5) fun cm h=>ai ff<|ai (rN dp)<|ai tt<|ai (rN dp)<|dv h (kz dp hp k0 s hz c0 a0 cm.Readers cm.Writers) (fun b0 h=>L h) (fun b6 h=>L h)) (fun a6 h=>ai (az not a6)<|L h)) (fun h2 h=>ai h2<|bB h (fun h3 h=>wa h3<|ai (rN dp)<|aZ<|ba h fun r4 cc h=>have cc:=cO s (kh (dp+1) C k0 F (aU (an s hz)) c0 a0.Expr _ cc);ai cc<|ai tt<|ai (rN dp)<|mu<|ai E<|ai D<|aZ<|ai (rN dp)<|ai tt<|dM h fun j6 h7 h=>ai h7<|ba h fun y8 h9 h=>ai (aB aT h9)<|aZ<|bq h (tP c0.P.ak y8) fun bd h=>bq h (tO r4 bd) fun ct h=>L h) (fun h3 h=>TH h3<|ai E<|ai D<|aZ<|ai (rN dp)<|ai tt<|dM h fun j4 h5 h=>ai h5<|ba h fun y6 h7 h=>ai (aB dk h7)<|mu<|bB h (fun h8 h=>let M:=az not h8;TG M<|ai E<|ai D<|Db M<|ai (rN dp)<|Db M<|bq h (Lx c0.P a0) fun r9 h=>ai tt<|ai M<|aZ<|bB h (fun aE h=>Xn aE<|L h) (fun aE h=>TG aE<|ai E<|ai D<|Db aE<|ai (rN dp)<|Db aE<|bq h (Lz c0.P a0) fun ct h=>ai aE<|bB h (fun a3 h=>ai a3<|L h) (fun a3 h=>ai a3<|ai (rN dp)<|ai tt<|ba h fun bb cJ h=>have cJ:=cO s (kh (dp+1) B k0 F (aU (an s hz)) c0 a0.Expr _ cJ);ai cJ<|ai ff<|ai (rN dp)<|ai tt<|ai (rN dp)<|ai ((by simp [ax,aV s]):(([8]:List Nat).all (ee dp (⟨[(0,(.p k0 0)),(3,(.p ⟨dp,3⟩ 0)),(5,(.p ⟨dp,5⟩ 0)),(6,(.p ⟨dp,6⟩ 0))],[(3,(ax a0)),(5,[(I c0.P.ak.Many),(.l 79 (c0.P.ak.Grants.map bT))]),(6,[(.l 4 (bb.Readers.map AV.b)),(.l 4 (bb.Writers.map AV.b))])],H0⟩:St))&&true)=true)<|ai (rN dp)<|ai tt<|ai K<|ai K<|ai K<|ai (eu s [8] [] 5)<|ai E<|ai D<|ai tt<|ai (ji dp [8] [] 3 1)<|ai (rN dp)<|ai tt<|ai h5<|ai (aB dk h7)<|eH<|bq h (tP c0.P.ak y6.Label) fun cl h=>aZ<|ai tt<|ai ff<|ai (rN dp)<|ai tt<|ai (rN dp)<|ai (rN dp)<|bB h (fun cX h=>ai cX<|ai (rN dp)<|ai (rN dp)<|ai ff<|ai (rN dp)<|ai tt<|ai (rN dp)<|dv h (kz dp hp k0 s hz c0 a0 cl.Readers bb.Writers) (fun aH h=>L h) (fun aY h=>L h)) (fun cX h=>ai cX<|ai (rN dp)<|ai (rN dp)<|ai ff<|ai (rN dp)<|ai tt<|ai (rN dp)<|dv h (kz dp hp k0 s hz c0 a0 bb.Readers cl.Writers) (fun aH h=>L h) (fun aY h=>L h))))) (fun h8 h=>let N:=az not h8;fy N<|fy N<|ai N<|aZ<|nR<|nR<|nR<|aZ<|L h))))
end
section
variable (c0:Machine)(a0:Task)(aq:(List Task))(dp:Nat)(hp:HP)(k0:Key)(r4:(Bool×Machine))(aM:Int)(w:Int)(aW:(List Int))(z:(List Int))
def iI:Option (Machine⊕(Bool×Machine)):=
 (gT (⟨c0.P,c0.Ins,c0.Fuel,c0.R,aq,(),c0.bW,c0.Places⟩:Machine) a0.S.Expr).bind fun r6=>
 if r6.1=true then
  if r6.2.Tasks.length+([(⟨1,a0.At,a0.S,0⟩:Task)]).length≤1000000000 then
   if IntKind.i64.wrap (a0.At+1)=a0.At+1 then
    (fF (⟨r6.2.P,r6.2.Ins,r6.2.Fuel,r6.2.R,r6.2.Tasks++([(⟨1,a0.At,a0.S,0⟩:Task)]),(),r6.2.bW,r6.2.Places⟩:Machine) a0.S.Then (a0.At+1)).bind fun ah=>
    some (.inl ah)
   else none
  else none
 else
  some (.inr (r6.1,r6.2))
abbrev mn(a0:Task)(x:(Machine⊕(Bool×Machine))):bc×St:=match x with | .inl z1=>(.ret,⟨[],[],ar hp k0 ((aa z1).set 17 (.b true))⟩) | .inr (z1,z2)=>(.ret,⟨[(0,(.p k0 0)),(3,(.p ⟨dp,3⟩ 0)),(4,(.p ⟨dp,4⟩ 0)),(78,(.b z1))],[(3,(bD a0)),(4,(ax a0.S))],ar hp k0 ((aa z2).set 17 (.b true))⟩)
theorem zx(s:k0.dp<dp)(hz:bF dp hp)(c0:Machine)(a0:Task)(aq:(List Task))(x:(Machine⊕(Bool×Machine)))(h:iI c0 a0 aq=some x):run G Ω0 ⟨dp,false⟩ YP ⟨[(0,(.p k0 0)),(3,(.p ⟨dp,3⟩ 0)),(4,(.p ⟨dp,4⟩ 0))],[(3,(bD a0)),(4,(ax a0.S))],ar hp k0 (((aK c0).set 16 (bX aq)).set 17 (.b true))⟩=some (mn dp hp k0 a0 x):=
 let E:=gu s [88,89];let D:=aj s;let C:=(3,(bD a0));let B:=(4,(ax a0.S));let A:=[(⟨1,a0.At,a0.S,0⟩:Task)];let F:=A.map bP;oi (bt<|.ex fun (r6:(Bool×Machine))=>let J:=((aK r6.2).set 16 .u).set 17 (.b true);let H:=(aa r6.2).set 17 (.b true);ao (.v (.b r6.1))<|ao (.h (boxes dp [C,B] (ar hp k0 H)))<|ao (.bx [C,B])<|ao (.h (ar hp k0 H))<|.or (gZ<|ao (.l H)<|cM<|ao (.l F)<|bf<|ao (.l H)<|bf<|ao (.l H)<|bf<|ao (.h (ar hp k0 J))<|ao (.l ((r6.2.Tasks++A).map bP))<|bf<|ao (.l J)<|bf<|ao (.h (ar hp k0 (((aK r6.2).set 16 (bX (r6.2.Tasks++A))).set 17 (.b true))))<|cM<|ao (.i (a0.At+1))<|.ex fun (ah:Machine)=>let K:=ar hp k0 ((aa ah).set 17 (.b true));ao (.v (.tp []))<|ao (.h (boxes dp [C,B] K))<|ao (.bx [C,B])<|ao (.h K)<|.nil) (bf<|.nil)) fun L=>ai (rN dp)<|ew<|ba h fun r6 dj h=>let T:=r6.2.Tasks.map bP;let O:=((aK r6.2).set 16 (bX (r6.2.Tasks++A))).set 17 (.b true);let N:=((aK r6.2).set 16 .u).set 17 (.b true);let M:=(aa r6.2).set 17 (.b true);let Q:=aA hp k0 M;have dj:=cO s (xc (dp+1) (boxes dp [C,B] (ar hp k0 (((aK c0).set 16 (bX aq)).set 17 (.b true)))) k0 (aJ s) (aU (an s hz)) (⟨c0.P,c0.Ins,c0.Fuel,c0.R,aq,(),c0.bW,c0.Places⟩:Machine) a0.S.Expr _ dj);eo dj (an s hz)<|bB h (fun h8 h=>ai h8<|ai ((by simp [ax,bD,aV s]):(([88,89]:List Nat).all (ee dp (⟨[(0,(.p k0 0)),(3,(.p ⟨dp,3⟩ 0)),(4,(.p ⟨dp,4⟩ 0)),(78,(.b r6.1))],[(3,(bD a0)),(4,(ax a0.S))],H0⟩:St))&&true)=true)<|ai E<|ai E<|ai E<|ai (eu s [88,89] [] 16)<|ai D<|ai Q<|ai (v8 s [88,89] 16)<|ai (ji dp [88,89] [] 3 1)<|ai (rN dp)<|ai tt<|ai (rN dp)<|aZ<|ai (rfl:[(.a (((bD a0).set 0 (I 1)).set 11 (I 0)))]=A.map bP)<|mw<|ai D<|ai Q<|ai D<|ai Q<|ai D<|ai (bA hp k0 M N)<|aO h fun h9 h=>ai ((dS bP (n:=12) (fun _=>rfl) A):F.all (fun e=>e.nc==12)=true)<|ai ((eJ h9 (by decide)):(T.length+F.length)*160≤140737488355328)<|ai ((eK h9):T.length+F.length≤maxLen)<|ai (cQ.symm:r6.2.Tasks.map bP++A.map bP=(r6.2.Tasks++A).map bP)<|mw<|ai D<|ai (aA hp k0 N)<|ai D<|ai (bA hp k0 N O)<|ai (rN dp)<|ai (rN dp)<|aO h fun ch h=>ai ch<|ew<|ba h fun ah a4 h=>have a4:=cO s (kF (dp+1) (boxes dp [C,B] (ar hp k0 O)) k0 (aJ s) (aU (an s hz)) (⟨r6.2.P,r6.2.Ins,r6.2.Fuel,r6.2.R,r6.2.Tasks++A,(),r6.2.bW,r6.2.Places⟩:Machine) a0.S.Then (a0.At+1) _ a4);eo a4 (an s hz)<|L h) (fun h8 h=>ai h8<|L h)
def kj:Option (Int×(List Int)):=
 (cU a0.S.Other).bind fun j19=>
 (r4.2.R.Taken[j19]?).bind fun b4=>
 if IntKind.i64.wrap (b4+1)=b4+1 then
  some (aM,r4.2.R.Taken.set j19 (b4+1))
 else none
abbrev uk(a0:Task)(r4:(Bool×Machine))(x:(Int×(List Int))):bc×St:=(.nrm,⟨[(0,(.p k0 0)),(3,(.p ⟨dp,3⟩ 0)),(4,(.p ⟨dp,4⟩ 0)),(5,(I x.1))],[(3,(bD a0)),(4,(ax a0.S))],ar hp k0 (((cP r4.2).set 12 (aG x.2)).set 17 (.b true))⟩)
theorem zy(s:k0.dp<dp)(hz:bF dp hp)(a0:Task)(r4:(Bool×Machine))(aM:Int)(x:(Int×(List Int)))(h:kj a0 r4 aM=some x):run G Ω0 ⟨dp,false⟩ YQ ⟨[(0,(.p k0 0)),(3,(.p ⟨dp,3⟩ 0)),(4,(.p ⟨dp,4⟩ 0)),(5,(I aM))],[(3,(bD a0)),(4,(ax a0.S))],ar hp k0 ((aa r4.2).set 17 (.b true))⟩=some (uk dp hp k0 a0 r4 x):=
 let C:=aj s;let A:=(aa r4.2).set 17 (.b true);let B:=aA hp k0 A;oi (bf<|ao (.l A)<|bt<|xN fun j19=>bf<|ao (.l A)<|xI fun b4=>let D:=r4.2.R.Taken.set j19 (b4+1);bf<|ao (.l A)<|ao (.v (I b4))<|ao (.i (b4+1))<|ao (.n j19)<|bf<|ao (.l A)<|ao (.v (I b4))<|bf<|ao (.l A)<|ao (.v (I b4))<|ao (.l (D.map I))<|bf<|ao (.l A)<|bf<|ao (.h (ar hp k0 (((cP r4.2).set 12 (aG D)).set 17 (.b true))))<|.nil) fun L=>mu<|ai C<|ai B<|aZ<|ai (rN dp)<|ai tt<|dM h fun j19 b5 h=>ai b5<|ai C<|ai B<|ba h fun b4 ci h=>let F:=aB I ci;let E:=r4.2.R.Taken.set j19 (b4+1);ai F<|ai C<|ai B<|ai F<|aO h fun dA h=>ai dA<|ai b5<|ai C<|ai B<|ai F<|ai ff<|ai C<|ai B<|ai F<|ai (map_set .. : (r4.2.R.Taken.map I).set j19 (I (b4+1))=E.map I)<|ai C<|ai B<|ai C<|ai (bA hp k0 A (((cP r4.2).set 12 (aG E)).set 17 (.b true)))<|L h
def mo:Option ((List Int)⊕((List Int)⊕((List Int)⊕(List Int)))):=
 if (a0.S.Kind==4)=true then
  if r4.2.R.Events.length+([(⟨1,a0.At,a0.S.Other,w⟩:Event)]).length≤1000000000 then
   some (.inl aW)
  else none
 else
  if (a0.S.Kind==5)=true then
   if r4.2.R.Events.length+([(⟨2,a0.At,a0.S.Var,w⟩:Event)]).length≤1000000000 then
    some (.inr (.inl aW))
   else none
  else
   if (a0.S.Kind==6)=true then
    if r4.2.R.Events.length+([(⟨3,a0.At,a0.S.Var,w⟩:Event)]).length≤1000000000 then
     some (.inr (.inr (.inl aW)))
    else none
   else
    some (.inr (.inr (.inr aW)))
abbrev fh(a0:Task)(r4:(Bool×Machine))(w:Int)(z:(List Int))(x:((List Int)⊕((List Int)⊕((List Int)⊕(List Int))))):bc×St:=match x with | .inl z1=>(.nrm,⟨[],[],ar hp k0 (((((b9 r4.2).set 10 (dN (r4.2.R.Events++([(⟨1,a0.At,a0.S.Other,w⟩:Event)])))).set 11 (aG z1)).set 12 (aG z)).set 17 (.b true))⟩) | .inr (.inl z1)=>(.nrm,⟨[],[],ar hp k0 (((((b9 r4.2).set 10 (dN (r4.2.R.Events++([(⟨2,a0.At,a0.S.Var,w⟩:Event)])))).set 11 (aG z1)).set 12 (aG z)).set 17 (.b true))⟩) | .inr (.inr (.inl z1))=>(.nrm,⟨[],[],ar hp k0 (((((b9 r4.2).set 10 (dN (r4.2.R.Events++([(⟨3,a0.At,a0.S.Var,w⟩:Event)])))).set 11 (aG z1)).set 12 (aG z)).set 17 (.b true))⟩) | .inr (.inr (.inr z1))=>(.nrm,⟨[(0,(.p k0 0)),(3,(.p ⟨dp,3⟩ 0)),(4,(.p ⟨dp,4⟩ 0)),(5,(I w)),(213,(.b (a0.S.Kind==6)))],[(3,(bD a0)),(4,(ax a0.S))],ar hp k0 ((((bJ r4.2).set 11 (aG z1)).set 12 (aG z)).set 17 (.b true))⟩)
theorem zz(s:k0.dp<dp)(hz:bF dp hp)(a0:Task)(r4:(Bool×Machine))(w:Int)(z:(List Int))(aW:(List Int))(x:((List Int)⊕((List Int)⊕((List Int)⊕(List Int)))))(h:mo a0 r4 w aW=some x):run G Ω0 ⟨dp,false⟩ YR ⟨[(0,(.p k0 0)),(3,(.p ⟨dp,3⟩ 0)),(4,(.p ⟨dp,4⟩ 0)),(5,(I w))],[(3,(bD a0)),(4,(ax a0.S))],ar hp k0 ((((bJ r4.2).set 11 (aG aW)).set 12 (aG z)).set 17 (.b true))⟩=some (fh dp hp k0 a0 r4 w z x):=
 let Z:=eu s [227,228] [] 10;let Y:=eu s [208,209] [] 10;let X:=eu s [189,190] [] 10;let Q:=gu s [227,228];let P:=gu s [208,209];let O:=gu s [189,190];let H:=r4.2.R.Events.map bS;let F:=aj s;let E:=[(⟨3,a0.At,a0.S.Var,w⟩:Event)];let V:=E.map bS;let M:=((((b9 r4.2).set 10 (dN (r4.2.R.Events++E))).set 11 (aG aW)).set 12 (aG z)).set 17 (.b true);let D:=[(⟨2,a0.At,a0.S.Var,w⟩:Event)];let U:=D.map bS;let K:=((((b9 r4.2).set 10 (dN (r4.2.R.Events++D))).set 11 (aG aW)).set 12 (aG z)).set 17 (.b true);let C:=[(⟨1,a0.At,a0.S.Other,w⟩:Event)];let T:=C.map bS;let J:=((((b9 r4.2).set 10 (dN (r4.2.R.Events++C))).set 11 (aG aW)).set 12 (aG z)).set 17 (.b true);let B:=((((b9 r4.2).set 10 .u).set 11 (aG aW)).set 12 (aG z)).set 17 (.b true);let d:=aA hp k0 B;let c:=ar hp k0 B;let A:=(((bJ r4.2).set 11 (aG aW)).set 12 (aG z)).set 17 (.b true);let W:=bA hp k0 A B;let N:=aA hp k0 A;oi (bt<|.or (gZ<|ao (.l A)<|cM<|ao (.l T)<|bf<|ao (.l A)<|bf<|ao (.l A)<|bf<|ao (.h c)<|ao (.l ((r4.2.R.Events++C).map bS))<|bf<|ao (.l B)<|bf<|ao (.h (ar hp k0 J))<|.nil) (bf<|.or (gZ<|ao (.l A)<|cM<|ao (.l U)<|bf<|ao (.l A)<|bf<|ao (.l A)<|bf<|ao (.h c)<|ao (.l ((r4.2.R.Events++D).map bS))<|bf<|ao (.l B)<|bf<|ao (.h (ar hp k0 K))<|.nil) (bf<|.or (gZ<|ao (.l A)<|cM<|ao (.l V)<|bf<|ao (.l A)<|bf<|ao (.l A)<|bf<|ao (.h c)<|ao (.l ((r4.2.R.Events++E).map bS))<|bf<|ao (.l B)<|bf<|ao (.h (ar hp k0 M))<|.nil) (bf<|.nil)))) fun L=>ai (rN dp)<|bB h (fun cW h=>ai cW<|ai ((by simp [ax,bD,aV s]):(([189,190]:List Nat).all (ee dp (⟨[(0,(.p k0 0)),(3,(.p ⟨dp,3⟩ 0)),(4,(.p ⟨dp,4⟩ 0)),(5,(I w)),(174,(I a0.S.Kind)),(175,(.b (a0.S.Kind==4)))],[(3,(bD a0)),(4,(ax a0.S))],H0⟩:St))&&true)=true)<|ai O<|ai O<|ai O<|ai X<|ai X<|ai F<|ai N<|ai (v8 s [189,190] 10)<|ai (ji dp [189,190] [] 3 1)<|ai (rN dp)<|ai tt<|ai (ji dp [189,190] [] 4 2)<|ai (rN dp)<|eH<|ai (rfl:[(.a [(I 1),(I a0.At),(I a0.S.Other),(I w)])]=C.map bS)<|mw<|ai F<|ai N<|ai F<|ai N<|ai F<|ai W<|aO h fun cV h=>ai ((dS bS (n:=4) (fun _=>rfl) C):T.all (fun e=>e.nc==4)=true)<|ai ((eJ cV (by decide)):(H.length+T.length)*32≤140737488355328)<|ai ((eK cV):H.length+T.length≤maxLen)<|ai (cQ.symm:r4.2.R.Events.map bS++C.map bS=(r4.2.R.Events++C).map bS)<|mw<|ai F<|ai d<|ai F<|ai (bA hp k0 B J)<|L h) (fun cW h=>ai cW<|bB h (fun cV h=>ai cV<|ai ((by simp [ax,bD,aV s]):(([208,209]:List Nat).all (ee dp (⟨[(0,(.p k0 0)),(3,(.p ⟨dp,3⟩ 0)),(4,(.p ⟨dp,4⟩ 0)),(5,(I w)),(174,(I a0.S.Kind)),(194,(.b (a0.S.Kind==5)))],[(3,(bD a0)),(4,(ax a0.S))],H0⟩:St))&&true)=true)<|ai P<|ai P<|ai P<|ai Y<|ai Y<|ai F<|ai N<|ai (v8 s [208,209] 10)<|ai (ji dp [208,209] [] 3 1)<|ai (rN dp)<|ai tt<|ai (ji dp [208,209] [] 4 1)<|ai (rN dp)<|eH<|ai (rfl:[(.a [(I 2),(I a0.At),(I a0.S.Var),(I w)])]=D.map bS)<|mw<|ai F<|ai N<|ai F<|ai N<|ai F<|ai W<|aO h fun cT h=>ai ((dS bS (n:=4) (fun _=>rfl) D):U.all (fun e=>e.nc==4)=true)<|ai ((eJ cT (by decide)):(H.length+U.length)*32≤140737488355328)<|ai ((eK cT):H.length+U.length≤maxLen)<|ai (cQ.symm:r4.2.R.Events.map bS++D.map bS=(r4.2.R.Events++D).map bS)<|mw<|ai F<|ai d<|ai F<|ai (bA hp k0 B K)<|L h) (fun cV h=>ai cV<|bB h (fun cT h=>ai cT<|ai ((by simp [ax,bD,aV s]):(([227,228]:List Nat).all (ee dp (⟨[(0,(.p k0 0)),(3,(.p ⟨dp,3⟩ 0)),(4,(.p ⟨dp,4⟩ 0)),(5,(I w)),(213,(.b (a0.S.Kind==6)))],[(3,(bD a0)),(4,(ax a0.S))],H0⟩:St))&&true)=true)<|ai Q<|ai Q<|ai Q<|ai Z<|ai Z<|ai F<|ai N<|ai (v8 s [227,228] 10)<|ai (ji dp [227,228] [] 3 1)<|ai (rN dp)<|ai tt<|ai (ji dp [227,228] [] 4 1)<|ai (rN dp)<|eH<|ai (rfl:[(.a [(I 3),(I a0.At),(I a0.S.Var),(I w)])]=E.map bS)<|mw<|ai F<|ai N<|ai F<|ai N<|ai F<|ai W<|aO h fun dm h=>ai ((dS bS (n:=4) (fun _=>rfl) E):V.all (fun e=>e.nc==4)=true)<|ai ((eJ dm (by decide)):(H.length+V.length)*32≤140737488355328)<|ai ((eK dm):H.length+V.length≤maxLen)<|ai (cQ.symm:r4.2.R.Events.map bS++E.map bS=(r4.2.R.Events++E).map bS)<|mw<|ai F<|ai d<|ai F<|ai (bA hp k0 B M)<|L h) (fun cT h=>ai cT<|L h)))
def fN:Option (((List Event)×(List Int)×(List Int))⊕(Int×(List Int)×(List Int))):=
 if (a0.S.Kind !=4)=true then
  (cU a0.S.Var).bind fun j22=>
  (r4.2.R.Vars[j22]?).bind fun c9=>
  (mo a0 r4 w (r4.2.R.Vars.set j22 w)).bind fun (dq:((List Int)⊕((List Int)⊕((List Int)⊕(List Int)))))=>match dq with
  | .inl bV=>
   some (.inl (r4.2.R.Events++([(⟨1,a0.At,a0.S.Other,w⟩:Event)]),bV,z))
  | .inr (.inl bR)=>
   some (.inl (r4.2.R.Events++([(⟨2,a0.At,a0.S.Var,w⟩:Event)]),bR,z))
  | .inr (.inr (.inl bN))=>
   some (.inl (r4.2.R.Events++([(⟨3,a0.At,a0.S.Var,w⟩:Event)]),bN,z))
  | .inr (.inr (.inr bI))=>
   some (.inr (w,bI,z))
 else
  (mo a0 r4 w r4.2.R.Vars).bind fun (dr:((List Int)⊕((List Int)⊕((List Int)⊕(List Int)))))=>match dr with
  | .inl bY=>
   some (.inl (r4.2.R.Events++([(⟨1,a0.At,a0.S.Other,w⟩:Event)]),bY,z))
  | .inr (.inl bU)=>
   some (.inl (r4.2.R.Events++([(⟨2,a0.At,a0.S.Var,w⟩:Event)]),bU,z))
  | .inr (.inr (.inl bO))=>
   some (.inl (r4.2.R.Events++([(⟨3,a0.At,a0.S.Var,w⟩:Event)]),bO,z))
  | .inr (.inr (.inr bM))=>
   some (.inr (w,bM,z))
abbrev iJ(a0:Task)(r4:(Bool×Machine))(x:(((List Event)×(List Int)×(List Int))⊕(Int×(List Int)×(List Int)))):bc×St:=match x with | .inl (z1,z2,z3)=>(.nrm,⟨[],[],ar hp k0 (((((b9 r4.2).set 10 (dN z1)).set 11 (aG z2)).set 12 (aG z3)).set 17 (.b true))⟩) | .inr (z1,z2,z3)=>(.nrm,⟨[(0,(.p k0 0)),(3,(.p ⟨dp,3⟩ 0)),(4,(.p ⟨dp,4⟩ 0)),(5,(I z1)),(213,(.b (a0.S.Kind==6)))],[(3,(bD a0)),(4,(ax a0.S))],ar hp k0 ((((bJ r4.2).set 11 (aG z2)).set 12 (aG z3)).set 17 (.b true))⟩)
theorem sQ(s:k0.dp<dp)(hz:bF dp hp)(a0:Task)(r4:(Bool×Machine))(w:Int)(z:(List Int))(x:(((List Event)×(List Int)×(List Int))⊕(Int×(List Int)×(List Int))))(h:fN a0 r4 w z=some x):run G Ω0 ⟨dp,false⟩ YS ⟨[(0,(.p k0 0)),(3,(.p ⟨dp,3⟩ 0)),(4,(.p ⟨dp,4⟩ 0)),(5,(I w))],[(3,(bD a0)),(4,(ax a0.S))],ar hp k0 (((cP r4.2).set 12 (aG z)).set 17 (.b true))⟩=some (iJ dp hp k0 a0 r4 x):=
 let C:=aj s;let B:=List Int;let A:=((cP r4.2).set 12 (aG z)).set 17 (.b true);let D:=aA hp k0 A;oi (bt<|.or (gZ<|ao (.l A)<|bt<|xN fun j22=>let E:=r4.2.R.Vars.set j22 w;bf<|ao (.l A)<|xI fun c9=>bf<|ao (.l A)<|ao (.v (I c9))<|ao (.l (E.map I))<|bf<|ao (.l A)<|bf<|ao (.h (ar hp k0 ((((bJ r4.2).set 11 (aG E)).set 12 (aG z)).set 17 (.b true))))<|.fb<|.or (.ex fun (bV:B)=>ao (.ei (fh dp hp k0 a0 r4 w z (.inl bV)))<|.nil) (.or (.ex fun (bR:B)=>ao (.ei (fh dp hp k0 a0 r4 w z (.inr (.inl bR))))<|.nil) (.or (.ex fun (bN:B)=>ao (.ei (fh dp hp k0 a0 r4 w z (.inr (.inr (.inl bN)))))<|.nil) (.ex fun (bI:B)=>ao (.ei (fh dp hp k0 a0 r4 w z (.inr (.inr (.inr bI)))))<|.nil)))) (bf<|.fb<|.or (.ex fun (bY:B)=>ao (.ei (fh dp hp k0 a0 r4 w z (.inl bY)))<|.nil) (.or (.ex fun (bU:B)=>ao (.ei (fh dp hp k0 a0 r4 w z (.inr (.inl bU))))<|.nil) (.or (.ex fun (bO:B)=>ao (.ei (fh dp hp k0 a0 r4 w z (.inr (.inr (.inl bO)))))<|.nil) (.ex fun (bM:B)=>ao (.ei (fh dp hp k0 a0 r4 w z (.inr (.inr (.inr bM)))))<|.nil))))) fun L=>ai (rN dp)<|bB h (fun cv h=>TH cv<|ai C<|ai D<|aZ<|ai (rN dp)<|aZ<|dM h fun j22 cu h=>let F:=r4.2.R.Vars.set j22 w;ai cu<|ai C<|ai D<|ba h fun c9 dn h=>ai (aB I dn)<|ai ff<|ai C<|ai D<|ai (aB I dn)<|ai (map_set .. : (r4.2.R.Vars.map I).set j22 (I w)=F.map I)<|ai C<|ai D<|ai C<|ai (bA hp k0 A ((((bJ r4.2).set 11 (aG F)).set 12 (aG z)).set 17 (.b true)))<|Kx h (zz dp hp k0 s hz a0 r4 w z F) (fun bV h=>L h) (fun bR h=>L h) (fun bN h=>L h) (fun bI h=>L h)) (fun cv h=>ai cv<|Kx h (zz dp hp k0 s hz a0 r4 w z r4.2.R.Vars) (fun bY h=>L h) (fun bU h=>L h) (fun bO h=>L h) (fun bM h=>L h))
abbrev Ng(dp:Nat)(hp:HP)(k0:Key)(c0:Machine)(a0:Task)(r:Machine):bC×HP:=(.ret (.tp []),ar hp k0 ((aa r).set 17 (.b true)))
def dV:Option Machine:=
 if (a0.S.Kind==2)=true then
  (qE c0 a0).bind fun r2=>
  some r2
 else
  if (a0.S.Kind==7)=true then
   if c0.Tasks.length+([(⟨3,0,(⟨0,0,0,(⟨0,0,([]:List ay)⟩:ay),([]:List ay),([]:List Stmt),([]:List Stmt)⟩:Stmt),(c0.Places.length:Int)⟩:Task)]).length≤1000000000 then
    (gT (⟨c0.P,c0.Ins,c0.Fuel,c0.R,c0.Tasks++([(⟨3,0,(⟨0,0,0,(⟨0,0,([]:List ay)⟩:ay),([]:List ay),([]:List Stmt),([]:List Stmt)⟩:Stmt),(c0.Places.length:Int)⟩:Task)]),(),c0.bW,c0.Places⟩:Machine) a0.S.Expr).bind fun r4=>
    if r4.1=true then
     if IntKind.i64.wrap (a0.At+1)=a0.At+1 then
      (fF r4.2 a0.S.Then (a0.At+1)).bind fun r8=>
      some r8
     else none
    else
     if IntKind.i64.wrap (a0.At+1)=a0.At+1 then
      (vO a0.S.Then).bind fun r8=>
      if IntKind.i64.wrap ((a0.At+1)+r8)=(a0.At+1)+r8 then
       (fF r4.2 a0.S.Else ((a0.At+1)+r8)).bind fun ah=>
       some ah
      else none
     else none
   else none
  else
   if (a0.S.Kind==8)=true then
    if (a0.Kind==0)=true then
     if c0.Tasks.length+([(⟨3,0,(⟨0,0,0,(⟨0,0,([]:List ay)⟩:ay),([]:List ay),([]:List Stmt),([]:List Stmt)⟩:Stmt),(c0.Places.length:Int)⟩:Task)]).length≤1000000000 then
      (iI c0 a0 (c0.Tasks++([(⟨3,0,(⟨0,0,0,(⟨0,0,([]:List ay)⟩:ay),([]:List ay),([]:List Stmt),([]:List Stmt)⟩:Stmt),(c0.Places.length:Int)⟩:Task)]))).bind fun x6=>match x6 with
      | .inl cf=>
       some cf
      | .inr ce=>
       some ce.2
     else none
    else
     (iI c0 a0 c0.Tasks).bind fun x5=>match x5 with
     | .inl aI=>
      some aI
     | .inr ae=>
      some ae.2
   else
    (nN c0 a0.S).bind fun r4=>
    if r4.1=true then
     if (a0.S.Kind==3)=true then
      (cU a0.S.Other).bind fun j8=>
      (r4.2.Ins[j8]?).bind fun cr=>
      (r4.2.R.Taken[j8]?).bind fun bn=>
      if bn<(cr.length:Int) then
       (cU bn).bind fun j15=>
       (cr[j15]?).bind fun b2=>
       (kj a0 r4 b2).bind fun cs=>
       (fN a0 r4 cs.1 cs.2).bind fun ds=>match ds with
       | .inl a7=>
        some (⟨r4.2.P,r4.2.Ins,r4.2.Fuel,(⟨a7.1,a7.2.1,a7.2.2,r4.2.R.Steps,r4.2.R.End,r4.2.R.Stop⟩:RunT),r4.2.Tasks,(),r4.2.bW,r4.2.Places⟩:Machine)
       | .inr bg=>
        some (⟨r4.2.P,r4.2.Ins,r4.2.Fuel,(⟨r4.2.R.Events,bg.2.1,bg.2.2,r4.2.R.Steps,r4.2.R.End,r4.2.R.Stop⟩:RunT),r4.2.Tasks,(),r4.2.bW,r4.2.Places⟩:Machine)
      else
       (kj a0 r4 0).bind fun bp=>
       (fN a0 r4 bp.1 bp.2).bind fun dx=>match dx with
       | .inl a8=>
        some (⟨r4.2.P,r4.2.Ins,r4.2.Fuel,(⟨a8.1,a8.2.1,a8.2.2,r4.2.R.Steps,r4.2.R.End,r4.2.R.Stop⟩:RunT),r4.2.Tasks,(),r4.2.bW,r4.2.Places⟩:Machine)
       | .inr bi=>
        some (⟨r4.2.P,r4.2.Ins,r4.2.Fuel,(⟨r4.2.R.Events,bi.2.1,bi.2.2,r4.2.R.Steps,r4.2.R.End,r4.2.R.Stop⟩:RunT),r4.2.Tasks,(),r4.2.bW,r4.2.Places⟩:Machine)
     else
      (jH a0.S.Expr r4.2.R.Vars).bind fun r8=>
      (fN a0 r4 r8 r4.2.R.Taken).bind fun dy=>match dy with
      | .inl a9=>
       some (⟨r4.2.P,r4.2.Ins,r4.2.Fuel,(⟨a9.1,a9.2.1,a9.2.2,r4.2.R.Steps,r4.2.R.End,r4.2.R.Stop⟩:RunT),r4.2.Tasks,(),r4.2.bW,r4.2.Places⟩:Machine)
      | .inr bl=>
       some (⟨r4.2.P,r4.2.Ins,r4.2.Fuel,(⟨r4.2.R.Events,bl.2.1,bl.2.2,r4.2.R.Steps,r4.2.R.End,r4.2.R.Stop⟩:RunT),r4.2.Tasks,(),r4.2.bW,r4.2.Places⟩:Machine)
    else
     (kG r4.2 a0.At).bind fun r7=>
     some r7
theorem Iv(s:k0.dp<dp)(hz:bF dp hp)(c0:Machine)(a0:Task)(r:Machine)(h:dV c0 a0=some r):call G Ω0 ⟨dp,false⟩ 74 [(.p k0 0),(.a (bD a0))] (ar hp k0 ((aa c0).set 17 (.b true)))=some (Ng dp hp k0 c0 a0 r):=
 let T:=zI c0.Places.length;let O:=a0.At+1;let N:=Bool×Machine;let M:=aJ s;let K:=c0.Tasks.map bP;let J:=gu s [71,72];let H:=gu s [29,30];let E:=(3,(bD a0));let D:=(4,(ax a0.S));let C:=aj s;let B:=((aK c0).set 16 .u).set 17 (.b true);let A:=(aa c0).set 17 (.b true);let Q:=boxes dp [E,D] (ar hp k0 A);let F:=aA hp k0 A;bj G74 (mg<|.or (cM<|.ex fun (r2:Machine)=>let U:=ar hp k0 ((aa r2).set 17 (.b true));ao (.v (.tp []))<|ao (.h (boxes dp [E,D] U))<|ao (.bx [E,D])<|ao (.h U)<|.nil) (bf<|.or (gZ<|ao (.l A)<|bf<|ao (.l A)<|bf<|ao (.l A)<|ao (.i (c0.Places.length:Int))<|ao (.l (([(⟨3,0,(⟨0,0,0,(⟨0,0,([]:List ay)⟩:ay),([]:List ay),([]:List Stmt),([]:List Stmt)⟩:Stmt),(c0.Places.length:Int)⟩:Task)]).map bP))<|bf<|ao (.l A)<|bf<|ao (.l A)<|bf<|ao (.h (ar hp k0 B))<|ao (.l ((c0.Tasks++([(⟨3,0,(⟨0,0,0,(⟨0,0,([]:List ay)⟩:ay),([]:List ay),([]:List Stmt),([]:List Stmt)⟩:Stmt),(c0.Places.length:Int)⟩:Task)])).map bP))<|bf<|ao (.l B)<|bf<|ao (.h (ar hp k0 (((aK c0).set 16 (bX (c0.Tasks++([(⟨3,0,(⟨0,0,0,(⟨0,0,([]:List ay)⟩:ay),([]:List ay),([]:List Stmt),([]:List Stmt)⟩:Stmt),(c0.Places.length:Int)⟩:Task)])))).set 17 (.b true))))<|bt<|.ex fun (r4:N)=>let V:=ar hp k0 ((aa r4.2).set 17 (.b true));ao (.v (.b r4.1))<|ao (.h (boxes dp [E,D] V))<|ao (.bx [E,D])<|ao (.h V)<|.or (ea<|ao (.i O)<|.ex fun (r8:Machine)=>let W:=ar hp k0 ((aa r8).set 17 (.b true));ao (.v (.tp []))<|ao (.h (boxes dp [E,D] W))<|ao (.bx [E,D])<|ao (.h W)<|.nil) (bf<|bt<|bt<|ao (.i O)<|bt<|xI fun r8=>ao (.i (O+r8))<|.ex fun (ah:Machine)=>let X:=ar hp k0 ((aa ah).set 17 (.b true));ao (.v (.tp []))<|ao (.h (boxes dp [E,D] X))<|ao (.bx [E,D])<|ao (.h X)<|.nil)) (bf<|.or (cM<|.or (gZ<|ao (.l A)<|bf<|ao (.l A)<|bf<|ao (.l A)<|ao (.i (c0.Places.length:Int))<|ao (.l (([(⟨3,0,(⟨0,0,0,(⟨0,0,([]:List ay)⟩:ay),([]:List ay),([]:List Stmt),([]:List Stmt)⟩:Stmt),(c0.Places.length:Int)⟩:Task)]).map bP))<|bf<|ao (.l A)<|bf<|ao (.l A)<|bf<|ao (.h (ar hp k0 B))<|ao (.l ((c0.Tasks++([(⟨3,0,(⟨0,0,0,(⟨0,0,([]:List ay)⟩:ay),([]:List ay),([]:List Stmt),([]:List Stmt)⟩:Stmt),(c0.Places.length:Int)⟩:Task)])).map bP))<|bf<|ao (.l B)<|bf<|ao (.h (ar hp k0 (((aK c0).set 16 (bX (c0.Tasks++([(⟨3,0,(⟨0,0,0,(⟨0,0,([]:List ay)⟩:ay),([]:List ay),([]:List Stmt),([]:List Stmt)⟩:Stmt),(c0.Places.length:Int)⟩:Task)])))).set 17 (.b true))))<|.fb<|.or (.ex fun (cf:Machine)=>ao (.ei (mn dp hp k0 a0 (.inl cf)))<|.nil) (.ex fun (ce:N)=>ao (.ei (mn dp hp k0 a0 (.inr ce)))<|.nil)) (bf<|.fb<|.or (.ex fun (aI:Machine)=>ao (.ei (mn dp hp k0 a0 (.inl aI)))<|.nil) (.ex fun (ae:N)=>ao (.ei (mn dp hp k0 a0 (.inr ae)))<|.nil))) (we<|.ex fun (r4:N)=>let Y:=(aa r4.2).set 17 (.b true);ao (.v (.b r4.1))<|ao (.h (boxes dp [E,D] (ar hp k0 Y)))<|ao (.bx [E,D])<|ao (.h (ar hp k0 Y))<|.or (we<|.or (gZ<|ao (.l Y)<|bt<|xN fun j8=>.ex fun (cr:(List Int))=>ao (.v (aS cr))<|bf<|ao (.l Y)<|bt<|ao (.n j8)<|bf<|ao (.l Y)<|xI fun bn=>bf<|ao (.l Y)<|ao (.v (I bn))<|ao (.i (cr.length:Int))<|.or (gZ<|ao (.l Y)<|bt<|ao (.n j8)<|bf<|ao (.l Y)<|ao (.v (I bn))<|bf<|ao (.l Y)<|ao (.v (I bn))<|xN fun j15=>xI fun b2=>.fb<|.ex fun (cs:(Int×(List Int)))=>ao (.ei (uk dp hp k0 a0 r4 cs))<|.fb<|.or (.ex fun (a7:((List Event)×(List Int)×(List Int)))=>ao (.ei (iJ dp hp k0 a0 r4 (.inl a7)))<|.nil) (.ex fun (bg:(Int×(List Int)×(List Int)))=>ao (.ei (iJ dp hp k0 a0 r4 (.inr bg)))<|.nil)) (bf<|.fb<|.ex fun (bp:(Int×(List Int)))=>ao (.ei (uk dp hp k0 a0 r4 bp))<|.fb<|.or (.ex fun (a8:((List Event)×(List Int)×(List Int)))=>ao (.ei (iJ dp hp k0 a0 r4 (.inl a8)))<|.nil) (.ex fun (bi:(Int×(List Int)×(List Int)))=>ao (.ei (iJ dp hp k0 a0 r4 (.inr bi)))<|.nil))) (bf<|bt<|bf<|ao (.l Y)<|bf<|ao (.l Y)<|xI fun r8=>.fb<|.or (.ex fun (a9:((List Event)×(List Int)×(List Int)))=>ao (.ei (iJ dp hp k0 a0 r4 (.inl a9)))<|.nil) (.ex fun (bl:(Int×(List Int)×(List Int)))=>ao (.ei (iJ dp hp k0 a0 r4 (.inr bl)))<|.nil))) (cM<|.ex fun (r7:Machine)=>let Z:=ar hp k0 ((aa r7).set 17 (.b true));ao (.v (.tp []))<|ao (.h (boxes dp [E,D] Z))<|ao (.bx [E,D])<|ao (.h Z)<|.nil))))) fun L=>let c:=[(⟨3,0,(⟨0,0,0,(⟨0,0,([]:List ay)⟩:ay),([]:List ay),([]:List Stmt),([]:List Stmt)⟩:Stmt),(c0.Places.length:Int)⟩:Task)];let j:=c.map bP;let k:=K.length+j.length;let g:=(cQ.symm:c0.Tasks.map bP++c.map bP=(c0.Tasks++c).map bP);let f:=((aK c0).set 16 (bX (c0.Tasks++c))).set 17 (.b true);let d:=(rfl:[(.a [(I 3),(I 0),(I 0),(I 0),(I 0),(I 0),(I 0),(cL ([]:List ay)),(cL ([]:List ay)),(bh ([]:List Stmt)),(bh ([]:List Stmt)),T])]=c.map bP);ai ((by simp [bD,aV s,bm s]):(((.a (bD a0)):AV).deep dp&&(dY dp 3 [(0,(.p k0 0)),(1,(.a (bD a0)))] []))=true)<|ai (rN dp)<|ai ((by simp [ax,bD,aV s,bm s]):(dY dp 4 [(8,(.a (ax a0.S))),(7,(.p ⟨dp,3⟩ 2)),(0,(.p k0 0)),(3,(.p ⟨dp,3⟩ 0))] [(3,(bD a0))])=true)<|ai ff<|ai (rN dp)<|ai tt<|ai (rN dp)<|ai (rN dp)<|bB h (fun h1 h=>ai h1<|ai (rN dp)<|ew<|ba h fun r2 cz h=>have cz:=cO s (FZ (dp+1) Q k0 M (aU (an s hz)) c0 a0 _ cz);eo cz (an s hz)<|L h) (fun h1 h=>ai h1<|bB h (fun h2 h=>ai h2<|ai ((by simp [ax,bD,aV s]):(([29,30]:List Nat).all (ee dp (⟨[(0,(.p k0 0)),(3,(.p ⟨dp,3⟩ 0)),(4,(.p ⟨dp,4⟩ 0)),(10,(I a0.S.Kind)),(16,(.b (a0.S.Kind==7)))],[(3,(bD a0)),(4,(ax a0.S))],H0⟩:St))&&true)=true)<|ai H<|ai H<|ai H<|ai (eu s [29,30] [] 16)<|ai C<|ai F<|ai (v8 s [29,30] 16)<|ai H<|ai H<|ai (eu s [29,30] [] 19)<|ai C<|ai F<|ai (v8 s [29,30] 19)<|ai C<|ai F<|ai (aP aC c0.Places)<|aZ<|ai d<|mw<|ai C<|ai F<|ai C<|ai F<|ai C<|ai (bA hp k0 A B)<|aO h fun h3 h=>ai ((dS bP (n:=12) (fun _=>rfl) c):j.all (fun e=>e.nc==12)=true)<|ai ((eJ h3 (by decide)):k*160≤140737488355328)<|ai ((eK h3):K.length+j.length≤maxLen)<|ai g<|mw<|ai C<|ai (aA hp k0 B)<|ai C<|ai (bA hp k0 B f)<|ai (rN dp)<|ew<|ba h fun r4 cc h=>let m:=boxes dp [E,D] (ar hp k0 ((aa r4.2).set 17 (.b true)));have cc:=cO s (xc (dp+1) (boxes dp [E,D] (ar hp k0 f)) k0 M (aU (an s hz)) (⟨c0.P,c0.Ins,c0.Fuel,c0.R,c0.Tasks++c,(),c0.bW,c0.Places⟩:Machine) a0.S.Expr _ cc);eo cc (an s hz)<|bB h (fun h6 h=>ai h6<|ai (rN dp)<|ai (rN dp)<|aO h fun w7 h=>ai w7<|ew<|ba h fun r8 dh h=>have dh:=cO s (kF (dp+1) m k0 M (aU (an s hz)) r4.2 a0.S.Then O _ dh);eo dh (an s hz)<|L h) (fun h6 h=>wa h6<|ai (rN dp)<|aZ<|ai (rN dp)<|ai tt<|aO h fun w7 h=>ai w7<|aZ<|ai (rN dp)<|ai tt<|bq h (wJ a0.S.Then) fun r8 h=>ai tt<|aO h fun ch h=>ai ch<|EN<|ba h fun ah a4 h=>have a4:=cO s (kF (dp+1) m k0 M (aU (an s hz)) r4.2 a0.S.Else (O+r8) _ a4);eo a4 (an s hz)<|L h)) (fun h2 h=>ai h2<|bB h (fun h3 h=>ai h3<|ai (rN dp)<|bB h (fun h4 h=>ai h4<|ai ((by simp [ax,bD,aV s]):(([71,72]:List Nat).all (ee dp (⟨[(0,(.p k0 0)),(3,(.p ⟨dp,3⟩ 0)),(4,(.p ⟨dp,4⟩ 0)),(59,(.b (a0.Kind==0)))],[(3,(bD a0)),(4,(ax a0.S))],H0⟩:St))&&true)=true)<|ai J<|ai J<|ai J<|ai (eu s [71,72] [] 16)<|ai C<|ai F<|ai (v8 s [71,72] 16)<|ai J<|ai J<|ai (eu s [71,72] [] 19)<|ai C<|ai F<|ai (v8 s [71,72] 19)<|ai C<|ai F<|ai (aP aC c0.Places)<|aZ<|ai d<|mw<|ai C<|ai F<|ai C<|ai F<|ai C<|ai (bA hp k0 A B)<|aO h fun h5 h=>ai ((dS bP (n:=12) (fun _=>rfl) c):j.all (fun e=>e.nc==12)=true)<|ai ((eJ h5 (by decide)):k*160≤140737488355328)<|ai ((eK h5):K.length+j.length≤maxLen)<|ai g<|mw<|ai C<|ai (aA hp k0 B)<|ai C<|ai (bA hp k0 B f)<|dv h (zx dp hp k0 s hz c0 a0 (c0.Tasks++c)) (fun cf h=>L h) (fun ce h=>L h)) (fun h4 h=>ai h4<|dv h (zx dp hp k0 s hz c0 a0 c0.Tasks) (fun aI h=>L h) (fun ae h=>L h))) (fun h3 h=>ai h3<|ai (rN dp)<|ew<|ba h fun r4 cc h=>let o:=aA hp k0 ((aa r4.2).set 17 (.b true));have cc:=cO s (Dw (dp+1) Q k0 M (aU (an s hz)) c0 a0.S _ cc);eo cc (an s hz)<|bB h (fun h6 h=>ai (az not h6)<|ai (rN dp)<|bB h (fun h7 h=>A3 h7<|ai C<|ai o<|aZ<|ai (rN dp)<|ai tt<|dM h fun j8 h9 h=>ai h9<|ba h fun cr aE h=>ai (aB (db 3 I) aE)<|mu<|ai C<|ai o<|aZ<|ai (rN dp)<|ai tt<|ai h9<|ai C<|ai o<|ba h fun bn a6 h=>let q:=aB I a6;ai q<|ai tt<|ai C<|ai o<|ai q<|aZ<|ai (aP I cr)<|ai tt<|cw h (fun a3 h=>ai (aF a3)<|aZ<|aZ<|aZ<|ai C<|ai o<|aZ<|ai (rN dp)<|ai tt<|ai h9<|ai C<|ai o<|ai q<|ai tt<|ai C<|ai o<|ai q<|ai tt<|dM h fun j15 be h=>ai be<|ba h fun b2 c8 h=>ai (aB I c8)<|bq h (zy dp hp k0 s hz a0 r4 b2) fun cs h=>dv h (sQ dp hp k0 s hz a0 r4 cs.1 cs.2) (fun a7 h=>L h) (fun bg h=>L h)) (fun a3 h=>ai (aD a3)<|bq h (zy dp hp k0 s hz a0 r4 0) fun bp h=>dv h (sQ dp hp k0 s hz a0 r4 bp.1 bp.2) (fun a8 h=>L h) (fun bi h=>L h))) (fun h7 h=>PF h7<|ai (rN dp)<|mu<|ai C<|ai o<|ai tt<|ai C<|ai o<|bq h (tQ a0.S.Expr r4.2.R.Vars) fun r8 h=>aZ<|dv h (sQ dp hp k0 s hz a0 r4 r8 r4.2.R.Taken) (fun a9 h=>L h) (fun bl h=>L h))) (fun h6 h=>ai (az not h6)<|ai (rN dp)<|ew<|ba h fun r7 cx h=>have cx:=cO s (oZ (dp+1) (boxes dp [E,D] (ar hp k0 ((aa r4.2).set 17 (.b true)))) k0 M (aU (an s hz)) r4.2 a0.At _ cx);eo cx (an s hz)<|L h))))
end
section
variable (a0:Program)(ap:Nat)(ac:(List Level))(a1:(List (List Int)))(a2:Int)(t:Machine)(w:Int)(am:(Bool×Machine))
def uE:Option ((Nat×(List Level))⊕(Nat×Bool×(List Level))):=
 if (ap:Int)<(a0.Vars.length:Int) then
  (ly a0.ak).bind fun r4=>
  if ac.length + [r4].length≤1000000000 then
   if IntKind.i64.wrap ((ap:Int)+1)=((ap+1:Nat):Int) then
    some (.inl (ap+1,ac++[r4]))
   else none
  else none
 else
  some (.inr (ap,decide ((ap:Int)<(a0.Vars.length:Int)),ac))
abbrev RT(v:(Nat×(List Level))):St:=⟨[(2,(I a2)),zP 4,zP 8,zP 10,(11,(I (v.1:Int)))],[(4,(aL a0)),(8,[(br ([]:List Event)),(aS ([]:List Int)),(aS ([]:List Int)),(I 0),(I 0),(I 0)]),(10,[(I a0.ak.Many),(aX a0.ak.Grants),(aS a0.Speak),(aN a0.Ins),(aN a0.Outs),(cF a0.Vars),(b8 a0.Funcs),(bh a0.Main),(fZ a1),(I a2),(dN ([]:List Event)),(aG (List.replicate a0.Vars.length 0)),(aG (List.replicate a0.Ins.length 0)),(I 0),(I 0),(I 0),(bX ([]:List Task)),(.b true),(av v.2),(av ([]:List Level))])],H0⟩
abbrev IS(x:(Nat×Bool×(List Level))):bc×St:=((.ex 0),⟨[(2,(I a2)),zP 4,zP 8,zP 10,(11,(I (x.1:Int))),(34,(.b x.2.1))],[(4,(aL a0)),(8,[(br ([]:List Event)),(aS ([]:List Int)),(aS ([]:List Int)),(I 0),(I 0),(I 0)]),(10,[(I a0.ak.Many),(aX a0.ak.Grants),(aS a0.Speak),(aN a0.Ins),(aN a0.Outs),(cF a0.Vars),(b8 a0.Funcs),(bh a0.Main),(fZ a1),(I a2),(dN ([]:List Event)),(aG (List.replicate a0.Vars.length 0)),(aG (List.replicate a0.Ins.length 0)),(I 0),(I 0),(I 0),(bX ([]:List Task)),(.b true),(av x.2.2),(av ([]:List Level))])],H0⟩)
theorem QW(ap:Nat)(ac:(List Level))(o:(Nat×(List Level))⊕(Nat×Bool×(List Level)))(h:uE a0 ap ac=some o):bQ E0 Yq (RT a0 a1 a2) (IS a0 a1 a2) (ap,ac) o:=
 bZ (bt<|ao (.i (a0.Vars.length:Int))<|.or (ea<|.ex fun (r4:Level)=>ao (.v (.a [(aw r4.Readers),(aw r4.Writers)]))<|ao (.l ([r4].map aC))<|ea<|ao (.l ((ac++[r4]).map aC))<|cM<|ao (.i ((ap+1:Nat):Int))<|.nil) (bf<|.nil)) fun L=>ai (rfl:Z0)<|ai (aP dk a0.Vars)<|cw h (fun h3 h=>ai (aF h3)<|aZ<|ai (rfl:Z0)<|aZ<|l3<|bq h (wH a0.ak) fun r4 h=>let A:=[r4].map aC;ai tt<|ai (rfl:[(.a [(aw r4.Readers),(aw r4.Writers)])]=[r4].map aC)<|PG<|aO h fun h6 h=>ai ((dS aC (n:=2) (fun _=>rfl) [r4]):A.all (fun e=>e.nc==2)=true)<|ai ((eJ h6 (by decide)):((ac.map aC).length+A.length)*48≤140737488355328)<|ai ((eK h6):(ac.map aC).length+A.length≤maxLen)<|ai (cQ.symm:ac.map aC++[r4].map aC=(ac++[r4]).map aC)<|lh<|aO h fun w7 h=>ai w7<|L h) (fun h3 h=>ai (aD h3)<|L h)
def QX:List dE:=(gF 61 16 10)::(gQ 62 61)::(gl 63 62)::(gB 64 .gtr 63 (kI 0))::(gM 65 64)::⟨some 66,.fa 10 10,some ⟨65,true⟩,false⟩::⟨some 67,.fa 4 66,some ⟨65,true⟩,false⟩::⟨some 68,.ld none 67,some ⟨65,true⟩,false⟩::⟨some 69,.bo .eql false 68 (kI 0),some ⟨65,true⟩,false⟩::(gk 70 65 69 (.c (.b false)))::[]
def BH:Option Bool:=
 if 0<(t.Tasks.length:Int) then
  some (t.R.End==0)
 else
  some false
abbrev Hw(x:Bool):St:=⟨[(2,(I a2)),zP 8,zP 10,(70,(.b x))],[(8,[(br ([]:List Event)),(aS ([]:List Int)),(aS ([]:List Int)),(I 0),(I 0),(I 0)]),(10,((aa t).set 17 (.b true)))],H0⟩
theorem OF(x:Bool)(h:BH t=some x):q9 G Ω0 E0 [2,8,10,70] [8,10] QX ⟨[(2,(I a2)),zP 8,zP 10],[(8,[(br ([]:List Event)),(aS ([]:List Int)),(aS ([]:List Int)),(I 0),(I 0),(I 0)]),(10,((aa t).set 17 (.b true)))],H0⟩=some (Hw a2 t x):=
 qJ (cM<|ao (.i (t.Tasks.length:Int))<|.or (PK<|.nil) (TK<|.nil)) fun L=>zF<|ai (aP bP t.Tasks)<|cw h (fun bv h=>dC (aF bv)<|ai (g1 (aF bv))<|ai (rfl:Z0)<|qg (aF bv)<|L h) (fun bv h=>Xk (aD bv)<|L h)
def uG:Option (Machine⊕(Bool×Machine)):=
 (BH t).bind fun am=>
 if am=true then
  if IntKind.i64.wrap ((t.Tasks.length:Int) - 1)=(t.Tasks.length:Int) - 1 then
   (cU ((t.Tasks.length:Int) - 1)).bind fun j16=>
   (t.Tasks[j16]?).bind fun b1=>
   if j16≤t.Tasks.length then
    if (b1.Kind==3)=true then
     (cU b1.Places).bind fun j22=>
     if j22≤t.Places.length then
      some (.inl (⟨t.P,t.Ins,t.Fuel,t.R,t.Tasks.take j16,(),t.bW,t.Places.take j22⟩:Machine))
     else none
    else
     if (b1.Kind==2)=true then
      (qD (⟨t.P,t.Ins,t.Fuel,t.R,t.Tasks.take j16,(),t.bW,t.Places⟩:Machine) b1).bind fun c1=>
      some (.inl c1)
     else
      if (t.R.Steps==a2)=true then
       some (.inl (⟨t.P,t.Ins,t.Fuel,(⟨t.R.Events,t.R.Vars,t.R.Taken,t.R.Steps,2,t.R.Stop⟩:RunT),t.Tasks.take j16,(),t.bW,t.Places⟩:Machine))
      else
       if IntKind.i64.wrap (t.R.Steps+1)=t.R.Steps+1 then
        (dV (⟨t.P,t.Ins,t.Fuel,(⟨t.R.Events,t.R.Vars,t.R.Taken,t.R.Steps+1,t.R.End,t.R.Stop⟩:RunT),t.Tasks.take j16,(),t.bW,t.Places⟩:Machine) b1).bind fun cZ=>
        some (.inl cZ)
       else none
   else none
  else none
 else
  some (.inr (am,t))
abbrev RU(v:Machine):St:=⟨[(2,(I a2)),zP 8,zP 10],[(8,[(br ([]:List Event)),(aS ([]:List Int)),(aS ([]:List Int)),(I 0),(I 0),(I 0)]),(10,((aa v).set 17 (.b true)))],H0⟩
abbrev IT(x:(Bool×Machine)):bc×St:=((.ex 2),⟨[(2,(I a2)),zP 8,zP 10,(70,(.b x.1))],[(8,[(br ([]:List Event)),(aS ([]:List Int)),(aS ([]:List Int)),(I 0),(I 0),(I 0)]),(10,((aa x.2).set 17 (.b true)))],H0⟩)
theorem QY(o:Machine⊕(Bool×Machine))(h:uG a2 t=some o):bQ E0 Yr (RU a2) (IT a2) t o:=
 let E:=aK t;let D:=aP bP t.Tasks;let C:=(t.Tasks.length:Int);let B:=E.set 13 (I (t.R.Steps+1));let A:=(8,[(br ([]:List Event)),(aS ([]:List Int)),(aS ([]:List Int)),(I 0),(I 0),(I 0)]);bZ (.jb (some 61) 9<|.ex fun (am:Bool)=>ao (.jn (Hw a2 t am))<|.or (mg<|ao (.i C)<|ao (.i (C - 1))<|xN fun j16=>bt<|.ex fun (b1:Task)=>let F:=(12,(bD b1));ao (.v (.a (bD b1)))<|bt<|ao (.v (.a (bD b1)))<|pn<|ao (.i C)<|ao (.i (C - 1))<|bt<|ao (.n j16)<|ao (.n j16)<|cM<|ao (.l ((t.Tasks.take j16).map bP))<|cM<|.or (mg<|xN fun j22=>ao (.n j22)<|cM<|ao (.l ((t.Places.take j22).map aC))<|bt<|.nil) (bf<|.or (cM<|.ex fun (c1:Machine)=>let H:=[A,(10,((aa c1).set 17 (.b true))),F];ao (.v (.tp []))<|ao (.h (boxes 0 H H0))<|ao (.bx H)<|ao (.h H0)<|.nil) (we<|.or (ea<|.nil) (we<|ao (.i (t.R.Steps+1))<|ea<|.ex fun (cZ:Machine)=>let J:=[A,(10,((aa cZ).set 17 (.b true))),F];ao (.v (.tp []))<|ao (.h (boxes 0 J H0))<|ao (.bx J)<|ao (.h H0)<|.nil)))) (bf<|.nil)) fun L=>bq h (OF a2 t) fun am h=>bB h (fun a3 h=>ai a3<|zF<|ai (rfl:Z0)<|ai D<|aO h fun dl h=>ai dl<|dM h fun j16 cn h=>let K:=bX (t.Tasks.take j16);let N:=(10,((B.set 16 K).set 17 (.b true)));let M:=(10,((E.set 16 K).set 17 (.b true)));lG cn<|ba h fun b1 cX h=>let Q:=[(zQ 10),(.a (bD b1))];let O:=(12,(bD b1));let T:=boxes 0 [A,N,O] H0;let S:=boxes 0 [A,M,O] H0;ai (aB bP cX)<|ai (rfl:Z0)<|ai (aB bP cX)<|ai tt<|lZ<|zF<|ai (rfl:Z0)<|ai D<|ai dl<|ai (rfl:Z0)<|ai cn<|ai (du _:0≤j16)<|aO h fun b5 h=>ai ((by rw [jf];exact b5):j16≤(t.Tasks.map bP).length)<|ai ((by simp):j16 - 0=j16)<|ai ff<|ai (rfl:Z0)<|ai (rfl:((.c ⟨0,10⟩ 16):Pl)=(.c ⟨0,10⟩ 16))<|ai (rfl:Z0)<|ai ((by rw [jf];exact b5):j16≤(t.Tasks.map bP).length)<|ai (map_take bP t.Tasks j16)<|zF<|bB h (fun cv h=>ai cv<|zF<|ai (rfl:Z0)<|dM h fun j22 cu h=>ai cu<|ai (du _:0≤j22)<|aO h fun c7 h=>ai ((by rw [jf];exact c7):j22≤(t.Places.map aC).length)<|ai ((by simp):j22 - 0=j22)<|ai ff<|ai (rfl:Z0)<|ai (rfl:((.c ⟨0,10⟩ 19):Pl)=(.c ⟨0,10⟩ 19))<|ai (rfl:Z0)<|ai ((by rw [jf];exact c7):j22≤(t.Places.map aC).length)<|ai (map_take aC t.Places j22)<|ai (rfl:Z0)<|L h) (fun cv h=>ai cv<|bB h (fun ci h=>ai ci<|ai (rfl:Z0)<|ew<|ba h fun c1 cD h=>let U:=[A,(10,((aa c1).set 17 (.b true))),O];have cD:call G Ω0 ⟨0+1,false⟩ 73 Q S=some (.ret (.tp []),boxes 0 U H0):=ek (dB (bx1:=[A,M,O]) (by kernel_rfl) (by kernel_rfl)) (dB (bx1:=U) (by kernel_rfl) (by kernel_rfl)) (FW (0+1) S ⟨0,10⟩ (fR 0) (aU (eT 0)) (⟨t.P,t.Ins,t.Fuel,t.R,t.Tasks.take j16,(),t.bW,t.Places⟩:Machine) b1 _ cD);eo cD (eT 0)<|L h) (fun ci h=>lG ci<|bB h (fun cu h=>ai cu<|lZ<|L h) (fun cu h=>lG cu<|aO h fun dz h=>ai dz<|lZ<|ai (rfl:Z0)<|ew<|ba h fun cZ cC h=>let V:=[A,(10,((aa cZ).set 17 (.b true))),O];have cC:call G Ω0 ⟨0+1,false⟩ 74 Q T=some (.ret (.tp []),boxes 0 V H0):=ek (dB (bx1:=[A,N,O]) (by kernel_rfl) (by kernel_rfl)) (dB (bx1:=V) (by kernel_rfl) (by kernel_rfl)) (Iv (0+1) T ⟨0,10⟩ (fR 0) (aU (eT 0)) (⟨t.P,t.Ins,t.Fuel,(⟨t.R.Events,t.R.Vars,t.R.Taken,t.R.Steps+1,t.R.End,t.R.Stop⟩:RunT),t.Tasks.take j16,(),t.bW,t.Places⟩:Machine) b1 _ cC);eo cC (eT 0)<|L h)))) (fun a3 h=>ai a3<|L h)
def wL:Option Int:=
 some w
abbrev BI(x:Int):bc×St:=(.ret,⟨[zP 8,(9,(jR am.2.bW))],[(8,((o7 am.2.R).set 4 (I x)))],H0⟩)
theorem Fs(w:Int)(x:Int)(h:wL w=some x):run G Ω0 E0 Ys ⟨[zP 8,zP 10],[(8,[(br ([]:List Event)),(aS ([]:List Int)),(aS ([]:List Int)),(I 0),(I 0),(I 0)]),(10,(((aa am.2).set 14 (I w)).set 17 (.b true)))],H0⟩=some (BI am x):=
 oi (bt<|bt<|bt<|bt<|bt<|bt<|bt<|bt<|bt<|bt<|bt<|bt<|.nil) fun L=>lh<|lh<|lh<|lh<|aZ<|ai (rfl:Z0)<|aZ<|l3<|lZ<|ai tt<|L h
abbrev Wu(a0:Program)(a1:(List (List Int)))(a2:Int)(r:(RunT×(List Level))):bC×HP:=(.ret (.tp [(.a (o7 r.1)),(.l 113 (r.2.map aC))]),H0)
def CT:Option (RunT×(List Level)):=
 if a0.Vars.length≤1000000000 then
  if a0.Ins.length≤1000000000 then
   (lp (fun v=>uE a0 v.1 v.2) (0,([]:List Level))).bind fun x3=>
   (ly a0.ak).bind fun r5=>
   if ([]:List Level).length + [r5].length≤1000000000 then
    (oY a0 (a0.Funcs.length:Int)).bind fun r8=>
    (fF (⟨a0,a1,a2,(⟨([]:List Event),List.replicate a0.Vars.length 0,List.replicate a0.Ins.length 0,0,0,0⟩:RunT),([]:List Task),(),x3.2.2,([]:List Level)++[r5]⟩:Machine) a0.Main r8).bind fun bd=>
    (lp (fun v=>uG a2 v) bd).bind fun am=>
    if (am.2.R.End==0)=true then
     (wL 1).bind fun bp=>
     some ((⟨am.2.R.Events,am.2.R.Vars,am.2.R.Taken,am.2.R.Steps,bp,am.2.R.Stop⟩:RunT),am.2.bW)
    else
     (wL am.2.R.End).bind fun bp=>
     some ((⟨am.2.R.Events,am.2.R.Vars,am.2.R.Taken,am.2.R.Steps,bp,am.2.R.Stop⟩:RunT),am.2.bW)
   else none
  else none
 else none
theorem QZ(r:(RunT×(List Level)))(h:CT a0 a1 a2=some r):call G Ω0 E0 22 [(.a (aL a0)),(.l 25 (a1.map (db 3 (I)))),(I a2),(.b true)] H0=some (Wu a0 a1 a2 r):=
 let V:=aN a0.Ins;let U:=(a0.Funcs.length:Int);let T:=cF a0.Vars;let S:=aN a0.Outs;let Q:=b8 a0.Funcs;let P:=aS a0.Speak;let O:=I a0.ak.Many;let N:=aX a0.ak.Grants;let M:=bh a0.Main;let K:=(a0.Ins.length:Int);let J:=(a0.Vars.length:Int);let H:=([]:List Task);let F:=([]:List Event);let E:=(4,(aL a0));let D:=List.replicate a0.Ins.length 0;let C:=([]:List Level);let B:=List.replicate a0.Vars.length 0;let A:=(8,[(br F),(aS ([]:List Int)),(aS ([]:List Int)),(I 0),(I 0),(I 0)]);bj G22 (bt<|bt<|bt<|bt<|bt<|bt<|bt<|bt<|bt<|bt<|bt<|bt<|bt<|bt<|bt<|bt<|ao (.i J)<|ao (.n a0.Vars.length)<|ao (.l (B.map I))<|bt<|ao (.i K)<|ao (.n a0.Ins.length)<|ao (.l (D.map I))<|mg<|.ex fun (x3:(Nat×Bool×(List Level)))=>ao (.cA (IS a0 a1 a2 x3))<|cM<|.ex fun (r5:Level)=>ao (.v (.a [(aw r5.Readers),(aw r5.Writers)]))<|ao (.l ([r5].map aC))<|ea<|ao (.l ((C++[r5]).map aC))<|pn<|ao (.i U)<|xI fun r8=>.ex fun (bd:Machine)=>let W:=[E,A,(10,((aa bd).set 17 (.b true)))];ao (.v (.tp []))<|ao (.h (boxes 0 W H0))<|ao (.bx W)<|ao (.h H0)<|.ex fun (am:(Bool×Machine))=>ao (.cA (IT a2 am))<|bt<|.or (ea<|.fb<|.ex fun (bp:Int)=>ao (.ei (BI am bp))<|.nil) (bf<|.fb<|.ex fun (bp:Int)=>ao (.ei (BI am bp))<|.nil)) fun L=>aZ<|l3<|lZ<|lh<|lh<|lh<|lh<|lh<|lh<|aZ<|l3<|ai (aP dk a0.Vars)<|ai tt<|ai (rfl:J=J)<|aO h fun h1 h=>ai ((Cr h1 (by decide)):a0.Vars.length*8≤140737488355328)<|ai ((Ct h1):a0.Vars.length≤maxLen)<|ai ((sc ..).symm:List.replicate a0.Vars.length (I 0)=B.map I)<|Je<|ai (aP aT a0.Ins)<|ai tt<|ai (rfl:K=K)<|aO h fun h2 h=>ai ((Cr h2 (by decide)):a0.Ins.length*8≤140737488355328)<|ai ((Ct h2):a0.Ins.length≤maxLen)<|ai ((sc ..).symm:List.replicate a0.Ins.length (I 0)=D.map I)<|aZ<|ai tt<|ai (rfl:Z0)<|lh<|ai tt<|lh<|bq h (dT (fun v=>QW a0 a1 a2 v.1 v.2) (0,C)) fun x3 h=>let X:=av x3.2.2;aZ<|ai (rfl:Z0)<|aZ<|l3<|bq h (wH a0.ak) fun r5 h=>let Z:=[r5].map aC;let Y:=[E,A,(10,[O,N,P,V,S,T,Q,M,(fZ a1),(I a2),(dN F),(aG B),(aG D),(I 0),(I 0),(I 0),(bX H),(.b true),X,(av (C++[r5]))])];ai tt<|ai (rfl:[(.a [(aw r5.Readers),(aw r5.Writers)])]=[r5].map aC)<|PG<|aO h fun h7 h=>ai ((dS aC (n:=2) (fun _=>rfl) [r5]):Z.all (fun e=>e.nc==2)=true)<|ai ((eJ h7 (by decide)):((C.map aC).length+Z.length)*48≤140737488355328)<|ai ((eK h7):(C.map aC).length+Z.length≤maxLen)<|ai (cQ.symm:C.map aC++[r5].map aC=(C++[r5]).map aC)<|lh<|aZ<|l3<|ai (rfl:Z0)<|aZ<|l3<|ai (aP cS a0.Funcs)<|ai tt<|bq h (Eh a0 U) fun r8 h=>EN<|ba h fun bd bG h=>let c:=[E,A,(10,((aa bd).set 17 (.b true)))];have bG:call G Ω0 ⟨0+1,false⟩ 72 [(zQ 10),M,(I r8)] (boxes 0 Y H0)=some (.ret (.tp []),boxes 0 c H0):=ek (dB (bx1:=Y) (by kernel_rfl) (by kernel_rfl)) (dB (bx1:=c) (by kernel_rfl) (by kernel_rfl)) (kF (0+1) (boxes 0 Y H0) ⟨0,10⟩ (fR 0) (aU (eT 0)) (⟨a0,a1,a2,(⟨F,List.replicate a0.Vars.length 0,List.replicate a0.Ins.length 0,0,0,0⟩:RunT),H,(),x3.2.2,C++[r5]⟩:Machine) a0.Main r8 _ bG);eo bG (eT 0)<|bq h (dT (QY a2) bd) fun am h=>ai (rfl:Z0)<|bB h (fun a3 h=>ai a3<|lZ<|bq h (Fs am 1) fun bp h=>ai (rfl:Z0)<|L h) (fun a3 h=>ai a3<|bq h (Fs am am.2.R.End) fun bp h=>ai (rfl:Z0)<|L h)
end
end
end Go.Proofs.YtlmphbbhaeampaaGreat.A
