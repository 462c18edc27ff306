/- Functions of the program as plain functions, by program. -/
import Derived.Test.YtphgedfhcncobaaGreatDoorTypes
import Derived.Test.YtphgedfhcncobaaGreatDoorLift
import Derived.Test.YtphgedfhcncobaaGreatDoorFB
set_option maxRecDepth 100000
set_option linter.unusedSectionVars false
set_option linter.unusedVariables false
set_option linter.unusedSimpArgs false
set_option linter.constructorNameAsVariable false
namespace Go.Proofs.YtphgedfhcncobaaGreatDoor.A
open Go
noncomputable section
variable [Lp]
section
variable (a0:aS)
abbrev xb(a0:aS)(r:Bool):aW×HP:=(.ret (.b r),H0)
def kg:Option Bool:=
 some (decide (6<(a0.Names.length:Int)))
theorem ug(r:Bool)(h:kg a0=some r):call G Ω0 E0 19 [(.a (fu a0))] H0=some (xb a0 r):=
 aG Qv (bt<|ao (.i (a0.Names.length:Int))<|.nil) fun L=>oS<|ai (aK AV.s a0.Names)<|L h
end
section
variable (a0:(List aS))
def e6(v0_8:Nat):Option (Nat⊕(Nat⊕(Nat×Bool))):=
 if (v0_8:Int)<(a0.length:Int) then
  (a0[v0_8]?).bind fun (y2:aS)=>
  (kg y2).bind fun (r4:Bool)=>
  if r4=true then
   some (.inr (.inl v0_8))
  else
   if IntKind.i64.wrap ((v0_8:Int)+1)=((v0_8+1:Nat):Int) then
    some (.inl (v0_8+1))
   else none
 else
  some (.inr (.inr (v0_8,decide ((v0_8:Int)<(a0.length:Int)))))
abbrev kW(v:Nat):St:=⟨[(0,(.l 56 (a0.map aL))),(1,(.f 19 [])),(7,(I (a0.length:Int))),(8,(I (v:Int)))],[],H0⟩
abbrev kX(x:(Nat⊕(Nat×Bool))):aE×St:=match x with | .inl z1=>(.ret,⟨[(4,(I (z1:Int)))],[],H0⟩) | .inr (z1,z2)=>((.ex 0),⟨[(0,(.l 56 (a0.map aL))),(1,(.f 19 [])),(7,(I (a0.length:Int))),(8,(I (z1:Int))),(9,(.b z2))],[],H0⟩)
theorem kh(v0_8:Nat)(o:Nat⊕(Nat⊕(Nat×Bool)))(h:e6 a0 v0_8=some o):bF E0 CL (kW a0) (kX a0) v0_8 o:=
 bP (.or (bt<|ao (.n v0_8)<|.ex fun (y2:aS)=>ao (.v (.a (fu y2)))<|xB fun r4=>oN (ao (.i ((v0_8+1:Nat):Int))<|.nil)) (bf<|.nil)) fun L=>bq h (fun h1 h=>ai (decide_eq_true h1)<|ai (rI v0_8)<|cu h fun y2 h3 h=>ai (cT aL h3)<|ar h (ug y2) fun r4 h=>aA h (fun h6 h=>ai h6<|L h) (fun h6 h=>ai h6<|aY h fun w7 h=>ai w7<|L h)) (fun h1 h=>ai (decide_eq_false h1)<|L h)
abbrev mb(a0:(List aS))(r:Int):aW×HP:=(.ret (I r),H0)
def fY:Option Int:=
 (lp (fun v=>e6 a0 v) 0).bind fun (x1:(Nat⊕(Nat×Bool)))=>match x1 with
 | .inl ya_2=>
  some (ya_2:Int)
 | .inr yb_2=>
  some (-1)
theorem kj(r:Int)(h:fY a0=some r):call G Ω0 E0 42 [(.l 56 (a0.map aL)),(.f 19 [])] H0=some (mb a0 r):=
 aG PC (ao (.i (a0.length:Int))<|.or (.ex fun (ya_2:Nat)=>ao (.lp .ret ⟨[(4,(I (ya_2:Int)))],[],H0⟩)<|.nil) (.ex fun (yb_2:(Nat×Bool))=>ao (.lp (.ex 0) ⟨[(0,(.l 56 (a0.map aL))),(1,(.f 19 [])),(7,(I (a0.length:Int))),(8,(I (yb_2.1:Int))),(9,(.b yb_2.2))],[],H0⟩)<|.nil)) fun L=>ai (aK aL a0)<|bD h (e5 (kh a0) 0) (fun ya_2 h=>L h) (fun yb_2 h=>L h)
abbrev kl(a0:(List aS))(r:Bool):aW×HP:=(.ret (.b r),H0)
def cU:Option Bool:=
 (fY a0).bind fun (r1:Int)=>
 some (decide (0≤r1))
theorem jq(r:Bool)(h:cU a0=some r):call G Ω0 E0 18 [(.l 56 (a0.map aL)),(.f 19 [])] H0=some (kl a0 r):=
 aG PA (xI fun r1=>.nil) fun L=>ar h (kj a0) fun r1 h=>L h
end
section
variable (a0:ad)(a1:Int)
abbrev BM(a0:ad)(a1:Int)(r:Int):aW×HP:=(.ret (I r),H0)
abbrev qQ(r:Int):Prop:=call G Ω0 E0 20 [(.a (aT a0)),(I a1)] H0=some (BM a0 a1 r)
end
structure qR where
 f_tree_size:ad→Int→Option Int
structure pB(R:qR):Prop where
 f_tree_size:∀ (a0:ad)(a1:Int)(r:Int),R.f_tree_size a0 a1=some r→qQ a0 a1 r
section
variable (R:qR)(a0:ad)(a1:Int)
def dT(v0_5:Int)(v0_11:Nat):Option ((Int×Nat)⊕((Int×Nat×Bool×ad)⊕(Int×Nat×Bool))):=
 if (v0_11:Int)<(a0.Args.length:Int) then
  (a0.Args[v0_11]?).bind fun (y2:ad)=>
  if a1<v0_5 then
   some (.inr (.inl (v0_5,v0_11,decide (a1<v0_5),y2)))
  else
   if IntKind.i64.wrap (a1 - v0_5)=a1 - v0_5 then
    (R.f_tree_size y2 (a1 - v0_5)).bind fun (r6:Int)=>
    if IntKind.i64.wrap (v0_5+r6)=v0_5+r6 then
     if IntKind.i64.wrap ((v0_11:Int)+1)=((v0_11+1:Nat):Int) then
      some (.inl (v0_5+r6,v0_11+1))
     else none
    else none
   else none
 else
  some (.inr (.inr (v0_5,v0_11,decide ((v0_11:Int)<(a0.Args.length:Int)))))
abbrev zj(v:(Int×Nat)):St:=⟨[(1,(I a1)),(5,(I v.1)),(9,(.l 34 (a0.Args.map aj))),(10,(I (a0.Args.length:Int))),(11,(I (v.2:Int)))],[],H0⟩
abbrev zk(x:((Int×Nat×Bool×ad)⊕(Int×Nat×Bool))):aE×St:=match x with | .inl (z1,z2,z3,z4)=>((.ex 0),⟨[(1,(I a1)),(5,(I z1)),(7,(.p ⟨0,7⟩ 0)),(9,(.l 34 (a0.Args.map aj))),(10,(I (a0.Args.length:Int))),(11,(I (z2:Int))),(17,(.b z3))],[(7,(aT z4))],H0⟩) | .inr (z1,z2,z3)=>((.ex 0),⟨[(1,(I a1)),(5,(I z1)),(9,(.l 34 (a0.Args.map aj))),(10,(I (a0.Args.length:Int))),(11,(I (z2:Int))),(12,(.b z3))],[],H0⟩)
theorem xc(hR:pB R)(a0:ad)(a1:Int)(v0_5:Int)(v0_11:Nat)(o:(Int×Nat)⊕((Int×Nat×Bool×ad)⊕(Int×Nat×Bool)))(h:dT R a0 a1 v0_5 v0_11=some o):bF E0 FT (zj a0 a1) (zk a0 a1) (v0_5,v0_11) o:=
 bP (.or (bt<|ao (.n v0_11)<|.ex fun (y2:ad)=>ao (.v (.a (aT y2)))<|b9<|oN (bt<|ao (.i (a1 - v0_5))<|xI fun r6=>ao (.i (v0_5+r6))<|ao (.i ((v0_11+1:Nat):Int))<|.nil)) (bf<|.nil)) fun L=>bq h (fun h1 h=>ai (decide_eq_true h1)<|ai (rI v0_11)<|cu h fun y2 h3 h=>ai (ej aj h3 (cD _))<|ai tt<|ai ff<|ai (rfl:Z0)<|ai tt<|ai (rfl:Z0)<|bq h (fun h4 h=>ai (decide_eq_true h4)<|L h) (fun h4 h=>lK (decide_eq_false h4)<|aY h fun w5 h=>ai w5<|ar h (hR.f_tree_size y2 (a1 - v0_5)) fun r6 h=>aY h fun w8 h=>ai w8<|aY h fun w9 h=>ai w9<|L h)) (fun h1 h=>ai (decide_eq_false h1)<|L h)
def mP:Option Int:=
 (lp (fun v=>dT R a0 a1 v.1 v.2) (1,0)).bind fun (x1:((Int×Nat×Bool×ad)⊕(Int×Nat×Bool)))=>match x1 with
 | .inl ya_2=>
  some ya_2.1
 | .inr yb_2=>
  some yb_2.1
theorem vH(hR:pB R)(a0:ad)(a1:Int)(r:Int)(h:mP R a0 a1=some r):qQ a0 a1 r:=
 aG Qw (bt<|ao (.i (a0.Args.length:Int))<|.or (.ex fun (ya_2:(Int×Nat×Bool×ad))=>ao (.lp (.ex 0) ⟨[(1,(I a1)),(5,(I ya_2.1)),(7,(.p ⟨0,7⟩ 0)),(9,(.l 34 (a0.Args.map aj))),(10,(I (a0.Args.length:Int))),(11,(I (ya_2.2.1:Int))),(17,(.b ya_2.2.2.1))],[(7,(aT ya_2.2.2.2))],H0⟩)<|.nil) (.ex fun (yb_2:(Int×Nat×Bool))=>ao (.lp (.ex 0) ⟨[(1,(I a1)),(5,(I yb_2.1)),(9,(.l 34 (a0.Args.map aj))),(10,(I (a0.Args.length:Int))),(11,(I (yb_2.2.1:Int))),(12,(.b yb_2.2.2))],[],H0⟩)<|.nil)) fun L=>oS<|ai (aK aj a0.Args)<|bD h (e5 (fun v=>xc R hR a0 a1 v.1 v.2) (1,0)) (fun ya_2 h=>L h) (fun yb_2 h=>L h)
def fv:Nat→qR
 | 0=>⟨fun z0 z1=>none⟩
 | n+1=>⟨mP (fv n)⟩
theorem tm:∀ n,pB (fv n)
 | 0=>⟨fun _ _ r h=>(by cases h)⟩
 | n+1=>⟨fun a0 a1 r h=>vH _ (tm n) a0 a1 r h⟩
def lL:Option Int:=ev fun n=>(fv n).f_tree_size a0 a1
theorem nJ(r:Int)(h:lL a0 a1=some r):qQ a0 a1 r:=by
 obtain ⟨n,hn⟩:=mq h
 exact (tm n).f_tree_size a0 a1 r hn
abbrev rk(a0:ad)(r:Bool):aW×HP:=(.ret (.b r),H0)
def eS:Option Bool:=
 (lL a0 15).bind fun (r1:Int)=>
 some (decide (15<r1))
theorem pC(r:Bool)(h:eS a0=some r):call G Ω0 E0 44 [(.a (aT a0))] H0=some (rk a0 r):=
 aG QP (bt<|xI fun r1=>.nil) fun L=>oS<|ar h (nJ a0 15) fun r1 h=>L h
end
section
variable (a0:(List ad))
def dJ(v0_8:Nat):Option (Nat⊕(Nat⊕(Nat×Bool))):=
 if (v0_8:Int)<(a0.length:Int) then
  (a0[v0_8]?).bind fun (y2:ad)=>
  (eS y2).bind fun (r4:Bool)=>
  if r4=true then
   some (.inr (.inl v0_8))
  else
   if IntKind.i64.wrap ((v0_8:Int)+1)=((v0_8+1:Nat):Int) then
    some (.inl (v0_8+1))
   else none
 else
  some (.inr (.inr (v0_8,decide ((v0_8:Int)<(a0.length:Int)))))
abbrev iL(v:Nat):St:=⟨[(0,(.l 34 (a0.map aj))),(1,(.f 44 [])),(7,(I (a0.length:Int))),(8,(I (v:Int)))],[],H0⟩
abbrev iM(x:(Nat⊕(Nat×Bool))):aE×St:=match x with | .inl z1=>(.ret,⟨[(4,(I (z1:Int)))],[],H0⟩) | .inr (z1,z2)=>((.ex 0),⟨[(0,(.l 34 (a0.map aj))),(1,(.f 44 [])),(7,(I (a0.length:Int))),(8,(I (z1:Int))),(9,(.b z2))],[],H0⟩)
theorem iD(v0_8:Nat)(o:Nat⊕(Nat⊕(Nat×Bool)))(h:dJ a0 v0_8=some o):bF E0 zV (iL a0) (iM a0) v0_8 o:=
 bP (.or (bt<|ao (.n v0_8)<|.ex fun (y2:ad)=>ao (.v (.a (aT y2)))<|xB fun r4=>oN (ao (.i ((v0_8+1:Nat):Int))<|.nil)) (bf<|.nil)) fun L=>bq h (fun h1 h=>ai (decide_eq_true h1)<|ai (rI v0_8)<|cu h fun y2 h3 h=>ai (ej aj h3 (cD _))<|ar h (pC y2) fun r4 h=>aA h (fun h6 h=>ai h6<|L h) (fun h6 h=>ai h6<|aY h fun w7 h=>ai w7<|L h)) (fun h1 h=>ai (decide_eq_false h1)<|L h)
abbrev jg(a0:(List ad))(r:Int):aW×HP:=(.ret (I r),H0)
def dU:Option Int:=
 (lp (fun v=>dJ a0 v) 0).bind fun (x1:(Nat⊕(Nat×Bool)))=>match x1 with
 | .inl ya_2=>
  some (ya_2:Int)
 | .inr yb_2=>
  some (-1)
theorem iE(r:Int)(h:dU a0=some r):call G Ω0 E0 68 [(.l 34 (a0.map aj)),(.f 44 [])] H0=some (jg a0 r):=
 aG IB (ao (.i (a0.length:Int))<|.or (.ex fun (ya_2:Nat)=>ao (.lp .ret ⟨[(4,(I (ya_2:Int)))],[],H0⟩)<|.nil) (.ex fun (yb_2:(Nat×Bool))=>ao (.lp (.ex 0) ⟨[(0,(.l 34 (a0.map aj))),(1,(.f 44 [])),(7,(I (a0.length:Int))),(8,(I (yb_2.1:Int))),(9,(.b yb_2.2))],[],H0⟩)<|.nil)) fun L=>ai (aK aj a0)<|bD h (e5 (iD a0) 0) (fun ya_2 h=>L h) (fun yb_2 h=>L h)
abbrev iF(a0:(List ad))(r:Bool):aW×HP:=(.ret (.b r),H0)
def cm:Option Bool:=
 (dU a0).bind fun (r1:Int)=>
 some (decide (0≤r1))
theorem gR(r:Bool)(h:cm a0=some r):call G Ω0 E0 43 [(.l 34 (a0.map aj)),(.f 44 [])] H0=some (iF a0 r):=
 aG IA (xI fun r1=>.nil) fun L=>ar h (iE a0) fun r1 h=>L h
end
section
variable (dp:Nat)(hp:HP)(k0:Key)(c0:bu)(a0:(List aa))(a1:Int)
abbrev sS(dp:Nat)(hp:HP)(k0:Key)(c0:bu)(a0:(List aa))(a1:Int)(r:(Bool×bu)):aW×HP:=(.ret (.b r.1),aP hp k0 [(I r.2.stmts)])
abbrev jr(r:(Bool×bu)):Prop:=call G Ω0 ⟨dp,false⟩ 21 [(.p k0 0),(.l 36 (a0.map ab)),(I a1)] (aP hp k0 [(I c0.stmts)])=some (sS dp hp k0 c0 a0 a1 r)
end
structure eh where
 f_tree_counter_much:bu→(List aa)→Int→Option (Bool×bu)
structure dO(R:eh):Prop where
 f_tree_counter_much:∀ (dp:Nat)(hp:HP)(k0:Key)(hk_k0:k0.dp<dp)(hz:dw dp hp)(c0:bu)(a0:(List aa))(a1:Int)(r:(Bool×bu)),R.f_tree_counter_much c0 a0 a1=some r→jr dp hp k0 c0 a0 a1 r
section
variable (R:eh)(a0:(List aa))(a1:Int)(dp:Nat)(hp:HP)(k0:Key)(c0:bu)
def qS:List bU:=(gM 29 0)::(gp 30 (.nc 29))::(gF 31 0 30)::(gQ 32 31)::(gB 33 .gtr 32 (kI 50))::(gM 34 33)::⟨some 35,.fa 4 8,some ⟨34,false⟩,false⟩::⟨some 36,.ld (some 5) 35,some ⟨34,false⟩,false⟩::⟨some 37,.ca 0 20 [36,(kI 15)],some ⟨34,false⟩,false⟩::⟨some 38,.bo .gtr false 37 (kI 15),some ⟨34,false⟩,false⟩::(gp 39 (.pk 34 (.c (.b true)) 38))::(gM 40 39)::⟨some 41,.fa 9 8,some ⟨40,false⟩,false⟩::⟨some 42,.ld none 41,some ⟨40,false⟩,false⟩::⟨some 43,.ln false 42,some ⟨40,false⟩,false⟩::⟨some 44,.bo .gtr false 43 (kI 4),some ⟨40,false⟩,false⟩::(gp 45 (.pk 40 (.c (.b true)) 44))::(gM 46 45)::⟨some 47,.fa 9 8,some ⟨46,false⟩,false⟩::⟨some 48,.ld none 47,some ⟨46,false⟩,false⟩::⟨some 49,.c2 43 [48,(.c (.f 44 []))],some ⟨46,false⟩,false⟩::(gp 50 (.pk 46 (.c (.b true)) 49))::[]
def ew(R:eh)(a0:(List aa))(a1:Int)(v0_18:Nat)(v0_k0_0:Int)(y4:aa):Option Bool:=
 if 50<(v0_k0_0+1) then
  some true
 else
  (lL y4.Expr 15).bind fun (r8:Int)=>
  if 15<r8 then
   some true
  else
   if 4<(y4.Args.length:Int) then
    some true
   else
    (cm y4.Args).bind fun (r12:Bool)=>
    some r12
abbrev qT(a0:(List aa))(a1:Int)(v0_18:Nat)(v0_k0_0:Int)(y4:aa)(x:Bool):St:=⟨[(0,(.p k0 0)),(2,(I a1)),(8,(.p ⟨dp,8⟩ 0)),(16,(.l 36 (a0.map ab))),(17,(I (a0.length:Int))),(18,(I (v0_18:Int))),(50,(.b x))],[(8,(aO y4))],aP hp k0 [(I (v0_k0_0+1))]⟩
theorem pY(hR:dO R)(dp:Nat)(hp:HP)(k0:Key)(hk_k0:k0.dp<dp)(hz:dw dp hp)(a0:(List aa))(a1:Int)(v0_18:Nat)(v0_k0_0:Int)(y4:aa)(x:Bool)(h:ew R a0 a1 v0_18 v0_k0_0 y4=some x):dx G Ω0 ⟨dp,false⟩ [0,2,8,16,17,18,50] [0,8] qS ⟨[(0,(.p k0 0)),(2,(I a1)),(8,(.p ⟨dp,8⟩ 0)),(16,(.l 36 (a0.map ab))),(17,(I (a0.length:Int))),(18,(I (v0_18:Int)))],[(8,(aO y4))],aP hp k0 [(I (v0_k0_0+1))]⟩=some (qT dp hp k0 a0 a1 v0_18 v0_k0_0 y4 x):=
 cC (bf<|ao (.l [(I (v0_k0_0+1))])<|.or (bf<|bf<|bf<|bf<|bt<|bf<|bf<|bf<|bf<|bt<|bf<|bf<|bf<|bt<|.nil) (cJ<|xI fun r8=>eQ<|.or (bf<|bf<|bf<|bf<|bt<|bf<|bf<|bf<|bt<|.nil) (cJ<|ao (.i (y4.Args.length:Int))<|eQ<|.or (C1<|.nil) (cJ<|xB fun r12=>bf<|.nil)))) fun L=>ai (Nat.ne_of_lt hk_k0)<|ai (aR hp k0 [(I (v0_k0_0+1))])<|bq h (fun h7 h=>ai (g0 (decide_eq_true h7))<|ai (g0 (decide_eq_true h7))<|ai (g0 (decide_eq_true h7))<|ai (g0 (decide_eq_true h7))<|ai (decide_eq_true h7)<|ai ht<|ai ht<|ai ht<|ai ht<|ai tt<|ai ht<|ai ht<|ai ht<|ai tt<|L h) (fun h7 h=>yS (decide_eq_false h7)<|ai (rN dp)<|ai (g0 (decide_eq_false h7))<|ar h (nJ y4.Expr 15) fun r8 h=>iN (decide_eq_false h7)<|bq h (fun h10 h=>ai (g0 (decide_eq_true h10))<|ai (g0 (decide_eq_true h10))<|ai (g0 (decide_eq_true h10))<|ai (g0 (decide_eq_true h10))<|ai (decide_eq_true h10)<|ai ht<|ai ht<|ai ht<|ai tt<|L h) (fun h10 h=>yS (decide_eq_false h10)<|ai (rN dp)<|ai (g0 (decide_eq_false h10))<|ai (aK aj y4.Args)<|iN (decide_eq_false h10)<|bq h (fun h11 h=>Gg (decide_eq_true h11)<|L h) (fun h11 h=>yS (decide_eq_false h11)<|ai (rN dp)<|ai (g0 (decide_eq_false h11))<|ar h (gR y4.Args) fun r12 h=>ai (decide_eq_false h11)<|L h)))
def a8(v0_18:Nat)(v0_k0_0:Int):Option ((Nat×Int)⊕(Int⊕(Nat×Bool×Int))):=
 if (v0_18:Int)<(a0.length:Int) then
  (a0[v0_18]?).bind fun (y4:aa)=>
  if IntKind.i64.wrap (v0_k0_0+1)=v0_k0_0+1 then
   (ew R a0 a1 v0_18 v0_k0_0 y4).bind fun (x7:Bool)=>
   if x7=true then
    some (.inr (.inl (v0_k0_0+1)))
   else
    if IntKind.i64.wrap (a1+1)=a1+1 then
     (R.f_tree_counter_much (⟨v0_k0_0+1⟩:bu) y4.Then (a1+1)).bind fun (r11:(Bool×bu))=>
     if r11.1=true then
      some (.inr (.inl r11.2.stmts))
     else
      (R.f_tree_counter_much r11.2 y4.Else (a1+1)).bind fun (r14:(Bool×bu))=>
      if r14.1=true then
       some (.inr (.inl r14.2.stmts))
      else
       if IntKind.i64.wrap ((v0_18:Int)+1)=((v0_18+1:Nat):Int) then
        some (.inl (v0_18+1,r14.2.stmts))
       else none
    else none
  else none
 else
  some (.inr (.inr (v0_18,decide ((v0_18:Int)<(a0.length:Int)),v0_k0_0)))
abbrev rl(dp:Nat)(hp:HP)(k0:Key)(a0:(List aa))(a1:Int)(v:(Nat×Int)):St:=⟨[(0,(.p k0 0)),(2,(I a1)),(16,(.l 36 (a0.map ab))),(17,(I (a0.length:Int))),(18,(I (v.1:Int)))],[],aP hp k0 [(I v.2)]⟩
abbrev rm(dp:Nat)(hp:HP)(k0:Key)(a0:(List aa))(a1:Int)(x:(Int⊕(Nat×Bool×Int))):aE×St:=match x with | .inl z1=>(.ret,⟨[(6,(.b true))],[],aP hp k0 [(I z1)]⟩) | .inr (z1,z2,z3)=>((.ex 0),⟨[(0,(.p k0 0)),(2,(I a1)),(16,(.l 36 (a0.map ab))),(17,(I (a0.length:Int))),(18,(I (z1:Int))),(19,(.b z2))],[],aP hp k0 [(I z3)]⟩)
theorem qU(hR:dO R)(dp:Nat)(hp:HP)(k0:Key)(hk_k0:k0.dp<dp)(hz:dw dp hp)(a0:(List aa))(a1:Int)(v0_18:Nat)(v0_k0_0:Int)(o:(Nat×Int)⊕(Int⊕(Nat×Bool×Int)))(h:a8 R a0 a1 v0_18 v0_k0_0=some o):bF ⟨dp,false⟩ FU (rl dp hp k0 a0 a1) (rm dp hp k0 a0 a1) (v0_18,v0_k0_0) o:=
 bP (.or (bt<|ao (.n v0_18)<|.ex fun (y4:aa)=>ao (.v (.a (aO y4)))<|ux<|ao (.l [(I v0_k0_0)])<|ao (.i (v0_k0_0+1))<|bf<|ao (.l [(I v0_k0_0)])<|bf<|ao (.h (aP hp k0 [(I (v0_k0_0+1))]))<|.jb (some 29) 21<|.ex fun (x7:Bool)=>ao (.jn ⟨[(0,(.p k0 0)),(2,(I a1)),(8,(.p ⟨dp,8⟩ 0)),(16,(.l 36 (a0.map ab))),(17,(I (a0.length:Int))),(18,(I (v0_18:Int))),(50,(.b x7))],[(8,(aO y4))],aP hp k0 [(I (v0_k0_0+1))]⟩)<|oN (bt<|ao (.i (a1+1))<|.ex fun (r11:(Bool×bu))=>ao (.v (.b r11.1))<|ao (.h (boxes dp [(8,(aO y4))] (aP hp k0 [(I r11.2.stmts)])))<|ao (.bx [(8,(aO y4))])<|ao (.h (aP hp k0 [(I r11.2.stmts)]))<|.or (bf<|bf<|bf<|bf<|bf<|bf<|bt<|bt<|.nil) (yT<|ao (.i (a1+1))<|bt<|.ex fun (r14:(Bool×bu))=>ao (.v (.b r14.1))<|ao (.h (boxes dp [(8,(aO y4))] (aP hp k0 [(I r14.2.stmts)])))<|ao (.bx [(8,(aO y4))])<|ao (.h (aP hp k0 [(I r14.2.stmts)]))<|bf<|oN (ao (.i ((v0_18+1:Nat):Int))<|.nil)))) (bf<|.nil)) fun L=>bq h (fun h3 h=>ai (decide_eq_true h3)<|ai (rI v0_18)<|cu h fun y4 h5 h=>ai (ej ab h5 (dN _))<|ai ((by simp [aO,AV.bL,AV.dL,AV.deep,AV.dk,tW hk_k0,Nat.le_of_lt hk_k0]):(([(21,(.a (aO y4))),(20,(.e (.a (aO y4)) 0)),(0,(.p k0 0)),(2,(I a1)),(16,(.l 36 (a0.map ab))),(17,(I (a0.length:Int))),(18,(I (v0_18:Int)))]:List (Nat×AV)).all (fun y=>y.2.bL ⟨dp,8⟩)&&([]:List (Nat×List AV)).all (fun y=>AV.dL ⟨dp,8⟩ y.2))=true)<|ai ff<|ai (rN dp)<|ai tt<|ai (rN dp)<|ai (Nat.ne_of_lt hk_k0)<|ai (aR hp k0 [(I v0_k0_0)])<|aY h fun w6 h=>ai w6<|ai ff<|ai (Nat.ne_of_lt hk_k0)<|ai (aR hp k0 [(I v0_k0_0)])<|ai tt<|ai (Nat.ne_of_lt hk_k0)<|ai (iC hp k0 [(I v0_k0_0)] [(I (v0_k0_0+1))])<|ar h (pY R hR dp hp k0 hk_k0 hz a0 a1 v0_18 v0_k0_0 y4) fun x7 h=>aA h (fun h9 h=>ai h9<|L h) (fun h9 h=>ai h9<|ai (rN dp)<|aY h fun w10 h=>ai w10<|ai ff<|ai tt<|cu h fun r11 ek12 h=>have ek12:=cO hk_k0 (hR.f_tree_counter_much (dp+1) (boxes dp [(8,(aO y4))] (aP hp k0 [(I (v0_k0_0+1))])) k0 (Nat.lt_succ_of_lt hk_k0) (ft (ka hk_k0 (hz))) (⟨v0_k0_0+1⟩:bu) y4.Then (a1+1) _ ek12);ai ek12<|ai (vE ek12 (by kernel_rfl) (by kernel_rfl))<|ai (vF ek12 (ka hk_k0 (hz)))<|aA h (fun h13 h=>ai (g0 h13)<|ai (g0 h13)<|ai (g0 h13)<|ai (g0 h13)<|ai (g0 h13)<|ai (g0 h13)<|ai h13<|ai tt<|L h) (fun h13 h=>An h13<|ai (rN dp)<|yS h13<|ai w10<|ai (g0 h13)<|ai ff<|ai tt<|cu h fun r14 ek15 h=>have ek15:=cO hk_k0 (hR.f_tree_counter_much (dp+1) (boxes dp [(8,(aO y4))] (aP hp k0 [(I r11.2.stmts)])) k0 (Nat.lt_succ_of_lt hk_k0) (ft (ka hk_k0 (hz))) r11.2 y4.Else (a1+1) _ ek15);ai ek15<|ai (vE ek15 (by kernel_rfl) (by kernel_rfl))<|ai (vF ek15 (ka hk_k0 (hz)))<|ai h13<|aA h (fun h16 h=>ai h16<|L h) (fun h16 h=>ai h16<|aY h fun w17 h=>ai w17<|L h)))) (fun h3 h=>ai (decide_eq_false h3)<|L h)
def ey(a0:(List aa))(a1:Int):Option (Bool×Int):=
 (lp (fun v=>a8 R a0 a1 v.1 v.2) (0,c0.stmts)).bind fun (x3:(Int⊕(Nat×Bool×Int)))=>match x3 with
 | .inl ya_4=>
  some (true,ya_4)
 | .inr yb_4=>
  some (false,yb_4.2.2)
abbrev qV(dp:Nat)(hp:HP)(k0:Key)(c0:bu)(a0:(List aa))(a1:Int)(x:(Bool×Int)):aE×St:=(.ret,⟨[(6,(.b x.1))],[],aP hp k0 [(I x.2)]⟩)
theorem kT(hR:dO R)(dp:Nat)(hp:HP)(k0:Key)(hk_k0:k0.dp<dp)(hz:dw dp hp)(c0:bu)(a0:(List aa))(a1:Int)(x:(Bool×Int))(h:ey R c0 a0 a1=some x):run G Ω0 ⟨dp,false⟩ FV ⟨[(0,(.p k0 0)),(1,(.l 36 (a0.map ab))),(2,(I a1))],[],aP hp k0 [(I c0.stmts)]⟩=some (qV dp hp k0 c0 a0 a1 x):=
 lX (ao (.i (a0.length:Int))<|.or (.ex fun (ya_4:Int)=>ao (.lp .ret ⟨[(6,(.b true))],[],aP hp k0 [(I ya_4)]⟩)<|.nil) (.ex fun (yb_4:(Nat×Bool×Int))=>ao (.lp (.ex 0) ⟨[(0,(.p k0 0)),(2,(I a1)),(16,(.l 36 (a0.map ab))),(17,(I (a0.length:Int))),(18,(I (yb_4.1:Int))),(19,(.b yb_4.2.1))],[],aP hp k0 [(I yb_4.2.2)]⟩)<|.nil)) fun L=>ai (aK ab a0)<|bD h (e5 (fun v=>qU R hR dp hp k0 hk_k0 hz a0 a1 v.1 v.2) (0,c0.stmts)) (fun ya_4 h=>L h) (fun yb_4 h=>L h)
def fl(a0:(List aa))(a1:Int):Option (Bool×bu):=
 if 0<(a0.length:Int) then
  if 6<a1 then
   some (true,c0)
  else
   (ey R c0 a0 a1).bind fun (x3:(Bool×Int))=>
   some (x3.1,(⟨x3.2⟩:bu))
 else
  (ey R c0 a0 a1).bind fun (x2:(Bool×Int))=>
  some (x2.1,(⟨x2.2⟩:bu))
theorem pZ(hR:dO R)(dp:Nat)(hp:HP)(k0:Key)(hk_k0:k0.dp<dp)(hz:dw dp hp)(c0:bu)(a0:(List aa))(a1:Int)(r:(Bool×bu))(h:fl R c0 a0 a1=some r):jr dp hp k0 c0 a0 a1 r:=
 aG Qx (ao (.i (a0.length:Int))<|.or (gu<|oN (.fb<|.ex fun (x3:(Bool×Int))=>ao (.fr .ret ⟨[(6,(.b x3.1))],[],aP hp k0 [(I x3.2)]⟩)<|.nil)) (ti<|.fb<|.ex fun (x2:(Bool×Int))=>ao (.fr .ret ⟨[(6,(.b x2.1))],[],aP hp k0 [(I x2.2)]⟩)<|.nil)) fun L=>ai (aK ab a0)<|bq h (fun h1 h=>tf (decide_eq_true h1)<|bq h (fun h2 h=>ai (decide_eq_true h2)<|L h) (fun h2 h=>ai (decide_eq_false h2)<|ar h (kT R hR dp hp k0 hk_k0 hz c0 a0 a1) fun x3 h=>L h)) (fun h1 h=>Gh (decide_eq_false h1)<|ar h (kT R hR dp hp k0 hk_k0 hz c0 a0 a1) fun x2 h=>L h)
def a6:Nat→eh
 | 0=>⟨fun z0 z1 z2=>none⟩
 | n+1=>⟨fl (a6 n)⟩
theorem mQ:∀ n,dO (a6 n)
 | 0=>⟨fun _ _ _ _ _ _ _ _ r h=>(by cases h)⟩
 | n+1=>⟨fun dp hp k0 hk_k0 hz c0 a0 a1 r h=>pZ _ (mQ n) dp hp k0 hk_k0 hz c0 a0 a1 r h⟩
def gm(a0:(List aa))(a1:Int):Option (Bool×bu):=ev fun n=>(a6 n).f_tree_counter_much c0 a0 a1
theorem lM(hk_k0:k0.dp<dp)(hz:dw dp hp)(c0:bu)(a0:(List aa))(a1:Int)(r:(Bool×bu))(h:gm c0 a0 a1=some r):jr dp hp k0 c0 a0 a1 r:=by
 obtain ⟨n,hn⟩:=mq h
 exact (mQ n).f_tree_counter_much dp hp k0 hk_k0 hz c0 a0 a1 r hn
end
section
variable (a0:Tree)(c0:ax)(dp:Nat)(hp:HP)(k0:Key)
def cF(v0_15:Nat)(v0_11_0:Int):Option ((Nat×Int)⊕(Unit⊕(Nat×Bool×Int))):=
 if (v0_15:Int)<(a0.Decls.length:Int) then
  (a0.Decls[v0_15]?).bind fun (y3:aJ)=>
  if 4<(y3.Label.length:Int) then
   some (.inr (.inl ()))
  else
   (cU y3.Label).bind fun (r6:Bool)=>
   if r6=true then
    some (.inr (.inl ()))
   else
    if 4<(y3.Params.length:Int) then
     some (.inr (.inl ()))
    else
     (lL y3.Result 15).bind fun (r10:Int)=>
     if 15<r10 then
      some (.inr (.inl ()))
     else
      (gm (⟨v0_11_0⟩:bu) y3.Body 1).bind fun (r13:(Bool×bu))=>
      if r13.1=true then
       some (.inr (.inl ()))
      else
       if IntKind.i64.wrap ((v0_15:Int)+1)=((v0_15+1:Nat):Int) then
        some (.inl (v0_15+1,r13.2.stmts))
       else none
 else
  some (.inr (.inr (v0_15,decide ((v0_15:Int)<(a0.Decls.length:Int)),v0_11_0)))
abbrev xd(v:(Nat×Int)):St:=⟨[(1,(.p ⟨0,1⟩ 0)),(3,(.p ⟨0,11⟩ 0)),(13,(.l 41 (a0.Decls.map ay))),(14,(I (a0.Decls.length:Int))),(15,(I (v.1:Int)))],[(1,[(.l 41 (a0.Decls.map ay)),(.l 36 (a0.Main.map ab))]),(11,[(I v.2)])],H0⟩
abbrev xe(x:(Unit⊕(Nat×Bool×Int))):aE×St:=match x with | .inl ()=>(.ret,⟨[(2,(.b true))],[],H0⟩) | .inr (z1,z2,z3)=>((.ex 0),⟨[(1,(.p ⟨0,1⟩ 0)),(3,(.p ⟨0,11⟩ 0)),(13,(.l 41 (a0.Decls.map ay))),(14,(I (a0.Decls.length:Int))),(15,(I (z1:Int))),(16,(.b z2))],[(1,[(.l 41 (a0.Decls.map ay)),(.l 36 (a0.Main.map ab))]),(11,[(I z3)])],H0⟩)
theorem vI(v0_15:Nat)(v0_11_0:Int)(o:(Nat×Int)⊕(Unit⊕(Nat×Bool×Int)))(h:cF a0 v0_15 v0_11_0=some o):bF E0 HC (xd a0) (xe a0) (v0_15,v0_11_0) o:=
 bP (.or (bt<|ao (.n v0_15)<|.ex fun (y3:aJ)=>ao (.v (.a (aq y3)))<|gu<|ao (.i (y3.Label.length:Int))<|.or (bf<|bf<|bf<|bt<|bf<|bf<|bf<|bf<|bt<|bf<|bf<|bf<|bf<|bt<|bf<|bf<|bf<|bf<|bt<|bt<|.nil) (cJ<|xB fun r6=>bf<|.or (bf<|bf<|bf<|bf<|bt<|bf<|bf<|bf<|bf<|bt<|bf<|bf<|bf<|bf<|bt<|bt<|.nil) (cJ<|ao (.i (y3.Params.length:Int))<|eQ<|.or (IZ<|.nil) (cJ<|xI fun r10=>eQ<|.or (As<|.nil) (kS<|.ex fun (r13:(Bool×bu))=>ao (.v (.b r13.1))<|ao (.h (boxes 0 [(1,[(.l 41 (a0.Decls.map ay)),(.l 36 (a0.Main.map ab))]),(5,(aq y3)),(11,[(I r13.2.stmts)])] H0))<|ao (.bx [(1,[(.l 41 (a0.Decls.map ay)),(.l 36 (a0.Main.map ab))]),(5,(aq y3)),(11,[(I r13.2.stmts)])])<|ao (.h (H0))<|bf<|oN (ao (.i ((v0_15+1:Nat):Int))<|.nil)))))) (bf<|.nil)) fun L=>bq h (fun h2 h=>ai (decide_eq_true h2)<|ai (rI v0_15)<|cu h fun y3 h4 h=>ai (cT ay h4)<|ai tt<|ai ff<|ai (rfl:Z0)<|ai tt<|ai (rfl:Z0)<|ai (rfl:Z0)<|ai (aK aL y3.Label)<|bq h (fun h5 h=>ai (g0 (decide_eq_true h5))<|ai (g0 (decide_eq_true h5))<|ai (g0 (decide_eq_true h5))<|ai (decide_eq_true h5)<|ai ht<|ai ht<|ai ht<|ai ht<|ai tt<|ai ht<|ai ht<|ai ht<|ai ht<|ai tt<|ai ht<|ai ht<|ai ht<|ai ht<|ai tt<|ai tt<|L h) (fun h5 h=>rh (decide_eq_false h5)<|ar h (jq y3.Label) fun r6 h=>ai (decide_eq_false h5)<|aA h (fun h8 h=>ai (g0 h8)<|ai (g0 h8)<|ai (g0 h8)<|ai (g0 h8)<|ai h8<|ai ht<|ai ht<|ai ht<|ai ht<|ai tt<|ai ht<|ai ht<|ai ht<|ai ht<|ai tt<|ai tt<|L h) (fun h8 h=>rh h8<|ai (aK AV.s y3.Params)<|iN h8<|bq h (fun h9 h=>ai (g0 (decide_eq_true h9))<|ai (g0 (decide_eq_true h9))<|ai (g0 (decide_eq_true h9))<|ai (g0 (decide_eq_true h9))<|ai (decide_eq_true h9)<|ai ht<|ai ht<|ai ht<|ai ht<|ai tt<|ai tt<|L h) (fun h9 h=>rh (decide_eq_false h9)<|ar h (nJ y3.Result 15) fun r10 h=>iN (decide_eq_false h9)<|bq h (fun h12 h=>DX (decide_eq_true h12)<|L h) (fun h12 h=>ai (g0 (decide_eq_false h12))<|ai (g0 (decide_eq_false h12))<|ai (g0 (decide_eq_false h12))<|ai (rfl:Z0)<|ai (g0 (decide_eq_false h12))<|ai ff<|ai tt<|cu h fun r13 ek14 h=>have ek14:call G Ω0 ⟨0+1,false⟩ 21 [(.p ⟨0,11⟩ 0),(.l 36 (y3.Body.map ab)),(I 1)] (boxes 0 [(1,[(.l 41 (a0.Decls.map ay)),(.l 36 (a0.Main.map ab))]),(5,(aq y3)),(11,[(I v0_11_0)])] H0)=some (.ret (.b r13.1),boxes 0 [(1,[(.l 41 (a0.Decls.map ay)),(.l 36 (a0.Main.map ab))]),(5,(aq y3)),(11,[(I r13.2.stmts)])] H0):=nG (ik (bx1:=[(1,[(.l 41 (a0.Decls.map ay)),(.l 36 (a0.Main.map ab))]),(5,(aq y3)),(11,[(I v0_11_0)])]) (by kernel_rfl) (by kernel_rfl)) (ik (bx1:=[(1,[(.l 41 (a0.Decls.map ay)),(.l 36 (a0.Main.map ab))]),(5,(aq y3)),(11,[(I r13.2.stmts)])]) (by kernel_rfl) (by kernel_rfl)) (lM (0+1) (boxes 0 [(1,[(.l 41 (a0.Decls.map ay)),(.l 36 (a0.Main.map ab))]),(5,(aq y3)),(11,[(I v0_11_0)])] H0) ⟨0,11⟩ (Nat.lt_succ_self 0) (ft (il 0)) (⟨v0_11_0⟩:bu) y3.Body 1 _ ek14);ai ek14<|ai (vE ek14 (by kernel_rfl) (by kernel_rfl))<|ai (vF ek14 (il 0))<|ai (decide_eq_false h12)<|aA h (fun h15 h=>ai h15<|L h) (fun h15 h=>ai h15<|aY h fun w16 h=>ai w16<|L h)))))) (fun h2 h=>ai (decide_eq_false h2)<|L h)
abbrev AD(a0:Tree)(r:Bool):aW×HP:=(.ret (.b r),H0)
def mR:Option Bool:=
 if 30<(a0.Decls.length:Int) then
  some true
 else
  (lp (fun v=>cF a0 v.1 v.2) (0,0)).bind fun (x2:(Unit⊕(Nat×Bool×Int)))=>match x2 with
  | .inl ya_3=>
   some true
  | .inr yb_3=>
   (gm (⟨yb_3.2.2⟩:bu) a0.Main 1).bind fun (r5:(Bool×bu))=>
   some r5.1
theorem vJ(r:Bool)(h:mR a0=some r):call G Ω0 E0 8 [(.a [(.l 41 (a0.Decls.map ay)),(.l 36 (a0.Main.map ab))])] H0=some (AD a0 r):=
 aG G8 (bt<|ao (.i (a0.Decls.length:Int))<|oN (bt<|ao (.i (a0.Decls.length:Int))<|.or (.ex fun (ya_3:Unit)=>ao (.lp .ret ⟨[(2,(.b true))],[],H0⟩)<|.nil) (.ex fun (yb_3:(Nat×Bool×Int))=>ao (.lp (.ex 0) ⟨[(1,(.p ⟨0,1⟩ 0)),(3,(.p ⟨0,11⟩ 0)),(13,(.l 41 (a0.Decls.map ay))),(14,(I (a0.Decls.length:Int))),(15,(I (yb_3.1:Int))),(16,(.b yb_3.2.1))],[(1,[(.l 41 (a0.Decls.map ay)),(.l 36 (a0.Main.map ab))]),(11,[(I yb_3.2.2)])],H0⟩)<|bt<|.ex fun (r5:(Bool×bu))=>ao (.v (.b r5.1))<|ao (.h (boxes 0 [(1,[(.l 41 (a0.Decls.map ay)),(.l 36 (a0.Main.map ab))]),(11,[(I r5.2.stmts)])] H0))<|ao (.bx [(1,[(.l 41 (a0.Decls.map ay)),(.l 36 (a0.Main.map ab))]),(11,[(I r5.2.stmts)])])<|ao (.h (H0))<|.nil))) fun L=>oS<|ai (aK ay a0.Decls)<|bq h (fun h1 h=>ai (decide_eq_true h1)<|L h) (fun h1 h=>ai (decide_eq_false h1)<|ai tt<|ai (rfl:Z0)<|ai (aK ay a0.Decls)<|bD h (e5 (fun v=>vI a0 v.1 v.2) (0,0)) (fun ya_3 h=>L h) (fun yb_3 h=>ai (rfl:Z0)<|ai ff<|ai tt<|cu h fun r5 ek6 h=>have ek6:call G Ω0 ⟨0+1,false⟩ 21 [(.p ⟨0,11⟩ 0),(.l 36 (a0.Main.map ab)),(I 1)] (boxes 0 [(1,[(.l 41 (a0.Decls.map ay)),(.l 36 (a0.Main.map ab))]),(11,[(I yb_3.2.2)])] H0)=some (.ret (.b r5.1),boxes 0 [(1,[(.l 41 (a0.Decls.map ay)),(.l 36 (a0.Main.map ab))]),(11,[(I r5.2.stmts)])] H0):=nG (ik (bx1:=[(1,[(.l 41 (a0.Decls.map ay)),(.l 36 (a0.Main.map ab))]),(11,[(I yb_3.2.2)])]) (by kernel_rfl) (by kernel_rfl)) (ik (bx1:=[(1,[(.l 41 (a0.Decls.map ay)),(.l 36 (a0.Main.map ab))]),(11,[(I r5.2.stmts)])]) (by kernel_rfl) (by kernel_rfl)) (lM (0+1) (boxes 0 [(1,[(.l 41 (a0.Decls.map ay)),(.l 36 (a0.Main.map ab))]),(11,[(I yb_3.2.2)])] H0) ⟨0,11⟩ (Nat.lt_succ_self 0) (ft (il 0)) (⟨yb_3.2.2⟩:bu) a0.Main 1 _ ek6);ai ek6<|ai (vE ek6 (by kernel_rfl) (by kernel_rfl))<|ai (vF ek6 (il 0))<|L h))
def b7(v1_k0_1:Int):Option (Int⊕((Bool×Int)⊕Int)):=
 if v1_k0_1<(c0.s.length:Int) then
  (gC v1_k0_1).bind fun (j11:Nat)=>
  (c0.s[j11]?).bind fun (lI:UInt8)=>
  if ((lI.toNat:Int) !=10)=true then
   if IntKind.i64.wrap (v1_k0_1+1)=v1_k0_1+1 then
    some (.inl (v1_k0_1+1))
   else none
  else
   some (.inr (.inl ((lI.toNat:Int) !=10,v1_k0_1)))
 else
  some (.inr (.inr v1_k0_1))
abbrev qW(dp:Nat)(hp:HP)(k0:Key)(c0:ax)(v:Int):St:=⟨[(0,(.p k0 0))],[],aP hp k0 [(.s c0.s),(I v)]⟩
abbrev qX(dp:Nat)(hp:HP)(k0:Key)(c0:ax)(x:((Bool×Int)⊕Int)):aE×St:=match x with | .inl (z1,z2)=>((.ex 3),⟨[(0,(.p k0 0)),(55,(.b z1))],[],aP hp k0 [(.s c0.s),(I z2)]⟩) | .inr z1=>((.ex 3),⟨[(0,(.p k0 0)),(55,(.b false))],[],aP hp k0 [(.s c0.s),(I z1)]⟩)
theorem p5(hk_k0:k0.dp<dp)(hz:dw dp hp)(c0:ax)(v1_k0_1:Int)(o:Int⊕((Bool×Int)⊕Int))(h:b7 c0 v1_k0_1=some o):bF ⟨dp,false⟩ F1 (qW dp hp k0 c0) (qX dp hp k0 c0) v1_k0_1 o:=
 bP (bf<|ao (.l [(.s c0.s),(I v1_k0_1)])<|bf<|ao (.l [(.s c0.s),(I v1_k0_1)])<|ao (.i (c0.s.length:Int))<|.or (uy<|ao (.l [(.s c0.s),(I v1_k0_1)])<|uy<|ao (.l [(.s c0.s),(I v1_k0_1)])<|bt<|xN fun j11=>.ex fun (lI:UInt8)=>ao (.i (lI.toNat:Int))<|b9<|.or (eQ<|ao (.l [(.s c0.s),(I v1_k0_1)])<|ao (.i (v1_k0_1+1))<|bf<|ao (.l [(.s c0.s),(I v1_k0_1)])<|bf<|ao (.h (aP hp k0 [(.s c0.s),(I (v1_k0_1+1))]))<|.nil) (bf<|.nil)) (bf<|bf<|bf<|bf<|bf<|bf<|bf<|bf<|bf<|bf<|bf<|bf<|.nil)) fun L=>ma<|ai (Nat.ne_of_lt hk_k0)<|ai (aR hp k0 [(.s c0.s),(I v1_k0_1)])<|ma<|ai (Nat.ne_of_lt hk_k0)<|ai (aR hp k0 [(.s c0.s),(I v1_k0_1)])<|ai tt<|ai (rfl:(c0.s.length:Int)=(c0.s.length:Int))<|ai tt<|ai tt<|ai tt<|bq h (fun h10 h=>ai (g1 (decide_eq_true h10))<|ai tt<|ai (g1 (decide_eq_true h10))<|ai tt<|ai (g1 (decide_eq_true h10))<|ai tt<|ai (g1 (decide_eq_true h10))<|ai (Nat.ne_of_lt hk_k0)<|ai (aR hp k0 [(.s c0.s),(I v1_k0_1)])<|EO (decide_eq_true h10)<|ai (Nat.ne_of_lt hk_k0)<|ai (aR hp k0 [(.s c0.s),(I v1_k0_1)])<|ai tt<|ai (g1 (decide_eq_true h10))<|mK h fun j11 h12 h=>ai h12<|cu h fun lI h14 h=>ai (congrArg (Option.map fun z:UInt8=>(z.toNat:Int)) h14)<|fX (decide_eq_true h10)<|aA h (fun h15 h=>ai h15<|ai (Nat.ne_of_lt hk_k0)<|ai (aR hp k0 [(.s c0.s),(I v1_k0_1)])<|aY h fun w16 h=>ai w16<|ai ff<|ai (Nat.ne_of_lt hk_k0)<|ai (aR hp k0 [(.s c0.s),(I v1_k0_1)])<|ai tt<|ai (Nat.ne_of_lt hk_k0)<|ai (iC hp k0 [(.s c0.s),(I v1_k0_1)] [(.s c0.s),(I (v1_k0_1+1))])<|L h) (fun h15 h=>ai h15<|L h)) (fun h10 h=>ai (g1 (decide_eq_false h10))<|ai (g1 (decide_eq_false h10))<|ai (g1 (decide_eq_false h10))<|ai (g1 (decide_eq_false h10))<|ai (g1 (decide_eq_false h10))<|ai (g1 (decide_eq_false h10))<|ai (g1 (decide_eq_false h10))<|ai (g1 (decide_eq_false h10))<|ai (g1 (decide_eq_false h10))<|ai (g1 (decide_eq_false h10))<|ai (decide_eq_false h10)<|ai ff<|L h)
def bX(v0_k0_1:Int)(c4:UInt8)(w1_1:Bool):Option (Unit⊕((Bool×Int)⊕(Int⊕Unit))):=
 if w1_1=true then
  if IntKind.i64.wrap (v0_k0_1+1)=v0_k0_1+1 then
   some (.inl ())
  else none
 else
  if ((c4.toNat:Int)==35)=true then
   (lp (fun v=>b7 c0 v) v0_k0_1).bind fun (x10:((Bool×Int)⊕Int))=>match x10 with
   | .inl ya_11=>
    some (.inr (.inl (ya_11.1,ya_11.2)))
   | .inr yb_11=>
    some (.inr (.inr (.inl yb_11)))
  else
   some (.inr (.inr (.inr ())))
abbrev p6(dp:Nat)(hp:HP)(k0:Key)(c0:ax)(v0_k0_1:Int)(c4:UInt8)(w1_1:Bool)(x:(Unit⊕((Bool×Int)⊕(Int⊕Unit)))):aE×St:=match x with | .inl ()=>(.nrm,⟨[(0,(.p k0 0))],[],aP hp k0 [(.s c0.s),(I (v0_k0_1+1))]⟩) | .inr (.inl (z1,z2))=>(.nrm,⟨[(0,(.p k0 0)),(55,(.b z1))],[],aP hp k0 [(.s c0.s),(I z2)]⟩) | .inr (.inr (.inl z1))=>(.nrm,⟨[(0,(.p k0 0)),(55,(.b false))],[],aP hp k0 [(.s c0.s),(I z1)]⟩) | .inr (.inr (.inr ()))=>(.ret,⟨[(0,(.p k0 0)),(32,(.b ((c4.toNat:Int)==35)))],[],aP hp k0 [(.s c0.s),(I v0_k0_1)]⟩)
theorem fZ(hk_k0:k0.dp<dp)(hz:dw dp hp)(c0:ax)(v0_k0_1:Int)(c4:UInt8)(w1_1:Bool)(x:(Unit⊕((Bool×Int)⊕(Int⊕Unit))))(h:bX c0 v0_k0_1 c4 w1_1=some x):run G Ω0 ⟨dp,false⟩ F2 ⟨[(0,(.p k0 0)),(20,(.i .u8 (c4.toNat:Int))),(21,(.b w1_1))],[],aP hp k0 [(.s c0.s),(I v0_k0_1)]⟩=some (p6 dp hp k0 c0 v0_k0_1 c4 w1_1 x):=
 lX (.or (eQ<|ao (.l [(.s c0.s),(I v0_k0_1)])<|ao (.i (v0_k0_1+1))<|bf<|ao (.l [(.s c0.s),(I v0_k0_1)])<|bf<|ao (.h (aP hp k0 [(.s c0.s),(I (v0_k0_1+1))]))<|.nil) (bf<|.or (bt<|.or (.ex fun (ya_11:(Bool×Int))=>ao (.lp (.ex 3) ⟨[(0,(.p k0 0)),(55,(.b ya_11.1))],[],aP hp k0 [(.s c0.s),(I ya_11.2)]⟩)<|.nil) (.ex fun (yb_11:Int)=>ao (.lp (.ex 3) ⟨[(0,(.p k0 0)),(55,(.b false))],[],aP hp k0 [(.s c0.s),(I yb_11)]⟩)<|.nil)) (bf<|.nil))) fun L=>aA h (fun h8 h=>ai h8<|ai (Nat.ne_of_lt hk_k0)<|ai (aR hp k0 [(.s c0.s),(I v0_k0_1)])<|aY h fun w9 h=>ai w9<|ai ff<|ai (Nat.ne_of_lt hk_k0)<|ai (aR hp k0 [(.s c0.s),(I v0_k0_1)])<|ai tt<|ai (Nat.ne_of_lt hk_k0)<|ai (iC hp k0 [(.s c0.s),(I v0_k0_1)] [(.s c0.s),(I (v0_k0_1+1))])<|L h) (fun h8 h=>ai h8<|aA h (fun h9 h=>ai h9<|bD h (e5 (p5 dp hp k0 hk_k0 hz c0) v0_k0_1) (fun ya_11 h=>L h) (fun yb_11 h=>L h)) (fun h9 h=>ai h9<|L h))
def bp(v0_k0_1:Int):Option (Int⊕((Bool×Int)⊕(Bool×Int))):=
 if v0_k0_1<(c0.s.length:Int) then
  (gC v0_k0_1).bind fun (j2:Nat)=>
  (c0.s[j2]?).bind fun (c4:UInt8)=>
  if ((c4.toNat:Int)==32)=true then
   (bX c0 v0_k0_1 c4 ((c4.toNat:Int)==32)).bind fun (x7:(Unit⊕((Bool×Int)⊕(Int⊕Unit))))=>match x7 with
   | .inl ya_8=>
    some (.inl (v0_k0_1+1))
   | .inr (.inl yb_8)=>
    some (.inl yb_8.2)
   | .inr (.inr (.inl yc_8))=>
    some (.inl yc_8)
   | .inr (.inr (.inr yd_8))=>
    some (.inr (.inl ((c4.toNat:Int)==35,v0_k0_1)))
  else
   if ((c4.toNat:Int)==9)=true then
    (bX c0 v0_k0_1 c4 ((c4.toNat:Int)==9)).bind fun (x8:(Unit⊕((Bool×Int)⊕(Int⊕Unit))))=>match x8 with
    | .inl ya_9=>
     some (.inl (v0_k0_1+1))
    | .inr (.inl yb_9)=>
     some (.inl yb_9.2)
    | .inr (.inr (.inl yc_9))=>
     some (.inl yc_9)
    | .inr (.inr (.inr yd_9))=>
     some (.inr (.inl ((c4.toNat:Int)==35,v0_k0_1)))
   else
    (bX c0 v0_k0_1 c4 ((c4.toNat:Int)==10)).bind fun (x8:(Unit⊕((Bool×Int)⊕(Int⊕Unit))))=>match x8 with
    | .inl ya_9=>
     some (.inl (v0_k0_1+1))
    | .inr (.inl yb_9)=>
     some (.inl yb_9.2)
    | .inr (.inr (.inl yc_9))=>
     some (.inl yc_9)
    | .inr (.inr (.inr yd_9))=>
     some (.inr (.inl ((c4.toNat:Int)==35,v0_k0_1)))
 else
  some (.inr (.inr (decide (v0_k0_1<(c0.s.length:Int)),v0_k0_1)))
abbrev qY(dp:Nat)(hp:HP)(k0:Key)(c0:ax)(v:Int):St:=⟨[(0,(.p k0 0))],[],aP hp k0 [(.s c0.s),(I v)]⟩
abbrev qZ(dp:Nat)(hp:HP)(k0:Key)(c0:ax)(x:((Bool×Int)⊕(Bool×Int))):aE×St:=match x with | .inl (z1,z2)=>(.ret,⟨[(0,(.p k0 0)),(32,(.b z1))],[],aP hp k0 [(.s c0.s),(I z2)]⟩) | .inr (z1,z2)=>((.ex 0),⟨[(0,(.p k0 0)),(11,(.b z1))],[],aP hp k0 [(.s c0.s),(I z2)]⟩)
theorem p7(hk_k0:k0.dp<dp)(hz:dw dp hp)(c0:ax)(v0_k0_1:Int)(o:Int⊕((Bool×Int)⊕(Bool×Int)))(h:bp c0 v0_k0_1=some o):bF ⟨dp,false⟩ F3 (qY dp hp k0 c0) (qZ dp hp k0 c0) v0_k0_1 o:=
 bP (bf<|ao (.l [(.s c0.s),(I v0_k0_1)])<|bf<|ao (.l [(.s c0.s),(I v0_k0_1)])<|ao (.i (c0.s.length:Int))<|.or (eQ<|ao (.l [(.s c0.s),(I v0_k0_1)])<|bf<|ao (.l [(.s c0.s),(I v0_k0_1)])<|xN fun j2=>.ex fun (c4:UInt8)=>ao (.i (c4.toNat:Int))<|.or (bt<|.fb<|.or (.ex fun (ya_8:Unit)=>ao (.fr .nrm ⟨[(0,(.p k0 0))],[],aP hp k0 [(.s c0.s),(I (v0_k0_1+1))]⟩)<|.nil) (.or (.ex fun (yb_8:(Bool×Int))=>ao (.fr .nrm ⟨[(0,(.p k0 0)),(55,(.b yb_8.1))],[],aP hp k0 [(.s c0.s),(I yb_8.2)]⟩)<|.nil) (.or (.ex fun (yc_8:Int)=>ao (.fr .nrm ⟨[(0,(.p k0 0)),(55,(.b false))],[],aP hp k0 [(.s c0.s),(I yc_8)]⟩)<|.nil) (.ex fun (yd_8:Unit)=>ao (.fr .ret ⟨[(0,(.p k0 0)),(32,(.b ((c4.toNat:Int)==35)))],[],aP hp k0 [(.s c0.s),(I v0_k0_1)]⟩)<|.nil)))) (bf<|.or (bt<|.fb<|.or (.ex fun (ya_9:Unit)=>ao (.fr .nrm ⟨[(0,(.p k0 0))],[],aP hp k0 [(.s c0.s),(I (v0_k0_1+1))]⟩)<|.nil) (.or (.ex fun (yb_9:(Bool×Int))=>ao (.fr .nrm ⟨[(0,(.p k0 0)),(55,(.b yb_9.1))],[],aP hp k0 [(.s c0.s),(I yb_9.2)]⟩)<|.nil) (.or (.ex fun (yc_9:Int)=>ao (.fr .nrm ⟨[(0,(.p k0 0)),(55,(.b false))],[],aP hp k0 [(.s c0.s),(I yc_9)]⟩)<|.nil) (.ex fun (yd_9:Unit)=>ao (.fr .ret ⟨[(0,(.p k0 0)),(32,(.b ((c4.toNat:Int)==35)))],[],aP hp k0 [(.s c0.s),(I v0_k0_1)]⟩)<|.nil)))) (bf<|.fb<|.or (.ex fun (ya_9:Unit)=>ao (.fr .nrm ⟨[(0,(.p k0 0))],[],aP hp k0 [(.s c0.s),(I (v0_k0_1+1))]⟩)<|.nil) (.or (.ex fun (yb_9:(Bool×Int))=>ao (.fr .nrm ⟨[(0,(.p k0 0)),(55,(.b yb_9.1))],[],aP hp k0 [(.s c0.s),(I yb_9.2)]⟩)<|.nil) (.or (.ex fun (yc_9:Int)=>ao (.fr .nrm ⟨[(0,(.p k0 0)),(55,(.b false))],[],aP hp k0 [(.s c0.s),(I yc_9)]⟩)<|.nil) (.ex fun (yd_9:Unit)=>ao (.fr .ret ⟨[(0,(.p k0 0)),(32,(.b ((c4.toNat:Int)==35)))],[],aP hp k0 [(.s c0.s),(I v0_k0_1)]⟩)<|.nil)))))) (bf<|.nil)) fun L=>ma<|ai (Nat.ne_of_lt hk_k0)<|ai (aR hp k0 [(.s c0.s),(I v0_k0_1)])<|ma<|ai (Nat.ne_of_lt hk_k0)<|ai (aR hp k0 [(.s c0.s),(I v0_k0_1)])<|ai tt<|ai (rfl:(c0.s.length:Int)=(c0.s.length:Int))<|ai tt<|bq h (fun h1 h=>ai (decide_eq_true h1)<|ai tt<|ai tt<|ai tt<|ai tt<|ai (Nat.ne_of_lt hk_k0)<|ai (aR hp k0 [(.s c0.s),(I v0_k0_1)])<|ma<|ai (Nat.ne_of_lt hk_k0)<|ai (aR hp k0 [(.s c0.s),(I v0_k0_1)])<|ai tt<|mK h fun j2 h3 h=>ai h3<|cu h fun c4 h5 h=>ai (congrArg (Option.map fun z:UInt8=>(z.toNat:Int)) h5)<|aA h (fun h6 h=>ai h6<|CY h (fZ dp hp k0 hk_k0 hz c0 v0_k0_1 c4 ((c4.toNat:Int)==32)) (fun ya_8 h=>L h) (fun yb_8 h=>L h) (fun yc_8 h=>L h) (fun yd_8 h=>L h)) (fun h6 h=>ai h6<|aA h (fun h7 h=>ai h7<|CY h (fZ dp hp k0 hk_k0 hz c0 v0_k0_1 c4 ((c4.toNat:Int)==9)) (fun ya_9 h=>L h) (fun yb_9 h=>L h) (fun yc_9 h=>L h) (fun yd_9 h=>L h)) (fun h7 h=>ai h7<|CY h (fZ dp hp k0 hk_k0 hz c0 v0_k0_1 c4 ((c4.toNat:Int)==10)) (fun ya_9 h=>L h) (fun yb_9 h=>L h) (fun yc_9 h=>L h) (fun yd_9 h=>L h)))) (fun h1 h=>ai (decide_eq_false h1)<|L h)
abbrev rX(dp:Nat)(hp:HP)(k0:Key)(c0:ax)(r:ax):aW×HP:=(.ret (.tp []),aP hp k0 [(.s r.s),(I r.at_)])
def cV:Option ax:=
 (lp (fun v=>bp c0 v) c0.at_).bind fun (x1:((Bool×Int)⊕(Bool×Int)))=>match x1 with
 | .inl ya_2=>
  some (⟨c0.s,ya_2.2⟩:ax)
 | .inr yb_2=>
  some (⟨c0.s,yb_2.2⟩:ax)
theorem kU(hk_k0:k0.dp<dp)(hz:dw dp hp)(c0:ax)(r:ax)(h:cV c0=some r):call G Ω0 ⟨dp,false⟩ 38 [(.p k0 0)] (aP hp k0 [(.s c0.s),(I c0.at_)])=some (rX dp hp k0 c0 r):=
 aG QN (.or (.ex fun (ya_2:(Bool×Int))=>ao (.lp .ret ⟨[(0,(.p k0 0)),(32,(.b ya_2.1))],[],aP hp k0 [(.s c0.s),(I ya_2.2)]⟩)<|.nil) (.ex fun (yb_2:(Bool×Int))=>ao (.lp (.ex 0) ⟨[(0,(.p k0 0)),(11,(.b yb_2.1))],[],aP hp k0 [(.s c0.s),(I yb_2.2)]⟩)<|.nil)) fun L=>bD h (e5 (p7 dp hp k0 hk_k0 hz c0) c0.at_) (fun ya_2 h=>L h) (fun yb_2 h=>L h)
abbrev rY(dp:Nat)(hp:HP)(k0:Key)(c0:ax)(r:Int):aW×HP:=(.ret (.i .u8 r),aP hp k0 [(.s c0.s),(I c0.at_)])
def fm:Option Int:=
 if c0.at_<(c0.s.length:Int) then
  (gC c0.at_).bind fun (j2:Nat)=>
  (c0.s[j2]?).bind fun (c4:UInt8)=>
  some (c4.toNat:Int)
 else
  some 0
theorem p8(hk_k0:k0.dp<dp)(hz:dw dp hp)(c0:ax)(r:Int)(h:fm c0=some r):call G Ω0 ⟨dp,true⟩ 57 [(.p k0 0)] (aP hp k0 [(.s c0.s),(I c0.at_)])=some (rY dp hp k0 c0 r):=
 aG Q1 (bf<|ao (.l [(.s c0.s),(I c0.at_)])<|bf<|ao (.l [(.s c0.s),(I c0.at_)])<|ao (.i (c0.s.length:Int))<|.or (eQ<|ao (.l [(.s c0.s),(I c0.at_)])<|bf<|ao (.l [(.s c0.s),(I c0.at_)])<|xN fun j2=>.ex fun (c4:UInt8)=>ao (.i (c4.toNat:Int))<|.nil) (bf<|.nil)) fun L=>ma<|ai (Nat.ne_of_lt hk_k0)<|ai (aR hp k0 [(.s c0.s),(I c0.at_)])<|ma<|ai (Nat.ne_of_lt hk_k0)<|ai (aR hp k0 [(.s c0.s),(I c0.at_)])<|ai tt<|ai (rfl:(c0.s.length:Int)=(c0.s.length:Int))<|ai tt<|bq h (fun h1 h=>ai (decide_eq_true h1)<|ai tt<|ai tt<|ai tt<|ai tt<|ai (Nat.ne_of_lt hk_k0)<|ai (aR hp k0 [(.s c0.s),(I c0.at_)])<|ma<|ai (Nat.ne_of_lt hk_k0)<|ai (aR hp k0 [(.s c0.s),(I c0.at_)])<|ai tt<|mK h fun j2 h3 h=>ai h3<|cu h fun c4 h5 h=>ai (congrArg (Option.map fun z:UInt8=>(z.toNat:Int)) h5)<|L h) (fun h1 h=>ai (decide_eq_false h1)<|L h)
end
section
variable (a0:Int)(c0:ax)(dp:Nat)(hp:HP)(k0:Key)
abbrev xf(a0:Int)(r:Bool):aW×HP:=(.ret (.b r),H0)
def iG:Option Bool:=
 if 97≤a0 then
  some (decide (a0≤122))
 else
  some false
theorem oT(r:Bool)(h:iG a0=some r):call G Ω0 E0 58 [(.i .u8 a0)] H0=some (xf a0 r):=
 aG Q2 (.or (gu<|.nil) (bf<|bf<|bf<|.nil)) fun L=>bq h (fun h1 h=>tf (decide_eq_true h1)<|L h) (fun h1 h=>tf (decide_eq_false h1)<|L h)
abbrev zl(a0:Int)(r:Bool):aW×HP:=(.ret (.b r),H0)
def gE:Option Bool:=
 if 48≤a0 then
  some (decide (a0≤57))
 else
  some false
theorem mc(r:Bool)(h:gE a0=some r):call G Ω0 E0 61 [(.i .u8 a0)] H0=some (zl a0 r):=
 aG Q4 (.or (gu<|.nil) (bf<|bf<|bf<|.nil)) fun L=>bq h (fun h1 h=>tf (decide_eq_true h1)<|L h) (fun h1 h=>tf (decide_eq_false h1)<|L h)
abbrev p9(a0:Int)(r:Bool):aW×HP:=(.ret (.b r),H0)
def ea:Option Bool:=
 (iG a0).bind fun (r1:Bool)=>
 if r1=true then
  some true
 else
  (gE a0).bind fun (r4:Bool)=>
  some r4
theorem oJ(r:Bool)(h:ea a0=some r):call G Ω0 E0 60 [(.i .u8 a0)] H0=some (p9 a0 r):=
 aG Q3 (xB fun r1=>.or (bf<|bf<|bt<|.nil) (b9<|xB fun r4=>bf<|.nil)) fun L=>ar h (oT a0) fun r1 h=>aA h (fun h3 h=>qO h3<|L h) (fun h3 h=>yS h3<|ar h (mc a0) fun r4 h=>ai h3<|L h)
def aU(v0_k0_1:Int):Option (Int⊕((Bool×Int)⊕Int)):=
 if v0_k0_1<(c0.s.length:Int) then
  (gC v0_k0_1).bind fun (j2:Nat)=>
  (c0.s[j2]?).bind fun (c4:UInt8)=>
  (ea (c4.toNat:Int)).bind fun (r6:Bool)=>
  if r6=true then
   if IntKind.i64.wrap (v0_k0_1+1)=v0_k0_1+1 then
    some (.inl (v0_k0_1+1))
   else none
  else
   some (.inr (.inl (r6,v0_k0_1)))
 else
  some (.inr (.inr v0_k0_1))
abbrev iq(dp:Nat)(hp:HP)(k0:Key)(c0:ax)(v:Int):St:=⟨[(0,(.p k0 0)),(1,(.f 60 [])),(5,(I c0.at_))],[],aP hp k0 [(.s c0.s),(I v)]⟩
abbrev ir(dp:Nat)(hp:HP)(k0:Key)(c0:ax)(x:((Bool×Int)⊕Int)):aE×St:=match x with | .inl (z1,z2)=>((.ex 0),⟨[(0,(.p k0 0)),(1,(.f 60 [])),(5,(I c0.at_)),(32,(.b z1))],[],aP hp k0 [(.s c0.s),(I z2)]⟩) | .inr z1=>((.ex 0),⟨[(0,(.p k0 0)),(1,(.f 60 [])),(5,(I c0.at_)),(32,(.b false))],[],aP hp k0 [(.s c0.s),(I z1)]⟩)
theorem gT(hk_k0:k0.dp<dp)(hz:dw dp hp)(c0:ax)(v0_k0_1:Int)(o:Int⊕((Bool×Int)⊕Int))(h:aU c0 v0_k0_1=some o):bF ⟨dp,false⟩ CN (iq dp hp k0 c0) (ir dp hp k0 c0) v0_k0_1 o:=
 bP (bf<|ao (.l [(.s c0.s),(I v0_k0_1)])<|bf<|ao (.l [(.s c0.s),(I v0_k0_1)])<|ao (.i (c0.s.length:Int))<|.or (Au<|ao (.l [(.s c0.s),(I v0_k0_1)])<|uy<|ao (.l [(.s c0.s),(I v0_k0_1)])<|bt<|xN fun j2=>.ex fun (c4:UInt8)=>ao (.i (c4.toNat:Int))<|bt<|xB fun r6=>bt<|.or (eQ<|ao (.l [(.s c0.s),(I v0_k0_1)])<|ao (.i (v0_k0_1+1))<|bf<|ao (.l [(.s c0.s),(I v0_k0_1)])<|bf<|ao (.h (aP hp k0 [(.s c0.s),(I (v0_k0_1+1))]))<|.nil) (bf<|.nil)) (Av<|.nil)) fun L=>ma<|ai (Nat.ne_of_lt hk_k0)<|ai (aR hp k0 [(.s c0.s),(I v0_k0_1)])<|ma<|ai (Nat.ne_of_lt hk_k0)<|ai (aR hp k0 [(.s c0.s),(I v0_k0_1)])<|ai tt<|ai (rfl:(c0.s.length:Int)=(c0.s.length:Int))<|ai tt<|ai tt<|ai tt<|bq h (fun h1 h=>ai (g1 (decide_eq_true h1))<|ai tt<|ai (g1 (decide_eq_true h1))<|ai tt<|ai (g1 (decide_eq_true h1))<|ai tt<|ai (g1 (decide_eq_true h1))<|ai tt<|ai (g1 (decide_eq_true h1))<|ai (Nat.ne_of_lt hk_k0)<|ai (aR hp k0 [(.s c0.s),(I v0_k0_1)])<|EO (decide_eq_true h1)<|ai (Nat.ne_of_lt hk_k0)<|ai (aR hp k0 [(.s c0.s),(I v0_k0_1)])<|ai tt<|ai (g1 (decide_eq_true h1))<|mK h fun j2 h3 h=>ai h3<|cu h fun c4 h5 h=>ai (congrArg (Option.map fun z:UInt8=>(z.toNat:Int)) h5)<|ai tt<|ai (g1 (decide_eq_true h1))<|ar h (oJ (c4.toNat:Int)) fun r6 h=>ai (decide_eq_true h1)<|aA h (fun h8 h=>ai h8<|ai (Nat.ne_of_lt hk_k0)<|ai (aR hp k0 [(.s c0.s),(I v0_k0_1)])<|aY h fun w9 h=>ai w9<|ai ff<|ai (Nat.ne_of_lt hk_k0)<|ai (aR hp k0 [(.s c0.s),(I v0_k0_1)])<|ai tt<|ai (Nat.ne_of_lt hk_k0)<|ai (iC hp k0 [(.s c0.s),(I v0_k0_1)] [(.s c0.s),(I (v0_k0_1+1))])<|L h) (fun h8 h=>ai h8<|L h)) (fun h1 h=>ai (g1 (decide_eq_false h1))<|ai (g1 (decide_eq_false h1))<|ai (g1 (decide_eq_false h1))<|ai (g1 (decide_eq_false h1))<|ai (g1 (decide_eq_false h1))<|ai (g1 (decide_eq_false h1))<|ai (g1 (decide_eq_false h1))<|ai (g1 (decide_eq_false h1))<|ai (g1 (decide_eq_false h1))<|ai (g1 (decide_eq_false h1))<|ai (g1 (decide_eq_false h1))<|ai (decide_eq_false h1)<|ai ff<|L h)
def bn(w1_1:Int):Option ((List UInt8)×Int):=
 (gC c0.at_).bind fun (j4:Nat)=>
 (gC w1_1).bind fun (j6:Nat)=>
 if j4≤j6 then
  if j6≤c0.s.length then
   some ((c0.s.take j6).drop j4,w1_1)
  else none
 else none
abbrev gU(dp:Nat)(hp:HP)(k0:Key)(c0:ax)(w1_1:Int)(x:((List UInt8)×Int)):aE×St:=(.ret,⟨[(4,(.s x.1))],[],aP hp k0 [(.s c0.s),(I x.2)]⟩)
theorem dc(hk_k0:k0.dp<dp)(hz:dw dp hp)(c0:ax)(w1_1:Int)(x:((List UInt8)×Int))(h:bn c0 w1_1=some x):run G Ω0 ⟨dp,false⟩ CO ⟨[(0,(.p k0 0)),(5,(I c0.at_))],[],aP hp k0 [(.s c0.s),(I w1_1)]⟩=some (gU dp hp k0 c0 w1_1 x):=
 lX (bf<|ao (.l [(.s c0.s),(I w1_1)])<|bf<|ao (.l [(.s c0.s),(I w1_1)])<|xN fun j4=>xN fun j6=>ao (.s ((c0.s.take j6).drop j4))<|.nil) fun L=>ma<|ai (Nat.ne_of_lt hk_k0)<|ai (aR hp k0 [(.s c0.s),(I w1_1)])<|ai tt<|ai tt<|ai tt<|ai tt<|ai tt<|ai (Nat.ne_of_lt hk_k0)<|ai (aR hp k0 [(.s c0.s),(I w1_1)])<|ai tt<|mK h fun j4 h5 h=>ai h5<|mK h fun j6 h7 h=>ai h7<|ai (rfl:0=0)<|aY h fun h8 h=>ai h8<|aY h fun h9 h=>ai h9<|ai (rfl:(c0.s.take j6).drop j4=(c0.s.take j6).drop j4)<|L h
abbrev iH(dp:Nat)(hp:HP)(k0:Key)(c0:ax)(r:((List UInt8)×ax)):aW×HP:=(.ret (.s r.1),aP hp k0 [(.s r.2.s),(I r.2.at_)])
def bM:Option ((List UInt8)×ax):=
 (lp (fun v=>aU c0 v) c0.at_).bind fun (x1:((Bool×Int)⊕Int))=>match x1 with
 | .inl ya_2=>
  (bn c0 ya_2.2).bind fun (x4:((List UInt8)×Int))=>
  some (x4.1,(⟨c0.s,x4.2⟩:ax))
 | .inr yb_2=>
  (bn c0 yb_2).bind fun (x4:((List UInt8)×Int))=>
  some (x4.1,(⟨c0.s,x4.2⟩:ax))
theorem gX(hk_k0:k0.dp<dp)(hz:dw dp hp)(c0:ax)(r:((List UInt8)×ax))(h:bM c0=some r):call G Ω0 ⟨dp,false⟩ 59 [(.p k0 0),(.f 60 [])] (aP hp k0 [(.s c0.s),(I c0.at_)])=some (iH dp hp k0 c0 r):=
 aG PE (bf<|ao (.l [(.s c0.s),(I c0.at_)])<|.or (.ex fun (ya_2:(Bool×Int))=>ao (.lp (.ex 0) ⟨[(0,(.p k0 0)),(1,(.f 60 [])),(5,(I c0.at_)),(32,(.b ya_2.1))],[],aP hp k0 [(.s c0.s),(I ya_2.2)]⟩)<|.fb<|.ex fun (x4:((List UInt8)×Int))=>ao (.fr .ret ⟨[(4,(.s x4.1))],[],aP hp k0 [(.s c0.s),(I x4.2)]⟩)<|.nil) (.ex fun (yb_2:Int)=>ao (.lp (.ex 0) ⟨[(0,(.p k0 0)),(1,(.f 60 [])),(5,(I c0.at_)),(32,(.b false))],[],aP hp k0 [(.s c0.s),(I yb_2)]⟩)<|.fb<|.ex fun (x4:((List UInt8)×Int))=>ao (.fr .ret ⟨[(4,(.s x4.1))],[],aP hp k0 [(.s c0.s),(I x4.2)]⟩)<|.nil)) fun L=>ai (Nat.ne_of_lt hk_k0)<|ai (aR hp k0 [(.s c0.s),(I c0.at_)])<|bD h (e5 (gT dp hp k0 hk_k0 hz c0) c0.at_) (fun ya_2 h=>ar h (dc dp hp k0 hk_k0 hz c0 ya_2.2) fun x4 h=>L h) (fun yb_2 h=>ar h (dc dp hp k0 hk_k0 hz c0 yb_2) fun x4 h=>L h)
def bj(v0_k0_1:Int):Option (Int⊕((Bool×Int)⊕Int)):=
 if v0_k0_1<(c0.s.length:Int) then
  (gC v0_k0_1).bind fun (j2:Nat)=>
  (c0.s[j2]?).bind fun (c4:UInt8)=>
  (gE (c4.toNat:Int)).bind fun (r6:Bool)=>
  if r6=true then
   if IntKind.i64.wrap (v0_k0_1+1)=v0_k0_1+1 then
    some (.inl (v0_k0_1+1))
   else none
  else
   some (.inr (.inl (r6,v0_k0_1)))
 else
  some (.inr (.inr v0_k0_1))
abbrev kY(dp:Nat)(hp:HP)(k0:Key)(c0:ax)(v:Int):St:=⟨[(0,(.p k0 0)),(1,(.f 61 [])),(5,(I c0.at_))],[],aP hp k0 [(.s c0.s),(I v)]⟩
abbrev kZ(dp:Nat)(hp:HP)(k0:Key)(c0:ax)(x:((Bool×Int)⊕Int)):aE×St:=match x with | .inl (z1,z2)=>((.ex 0),⟨[(0,(.p k0 0)),(1,(.f 61 [])),(5,(I c0.at_)),(32,(.b z1))],[],aP hp k0 [(.s c0.s),(I z2)]⟩) | .inr z1=>((.ex 0),⟨[(0,(.p k0 0)),(1,(.f 61 [])),(5,(I c0.at_)),(32,(.b false))],[],aP hp k0 [(.s c0.s),(I z1)]⟩)
theorem km(hk_k0:k0.dp<dp)(hz:dw dp hp)(c0:ax)(v0_k0_1:Int)(o:Int⊕((Bool×Int)⊕Int))(h:bj c0 v0_k0_1=some o):bF ⟨dp,false⟩ CN (kY dp hp k0 c0) (kZ dp hp k0 c0) v0_k0_1 o:=
 bP (bf<|ao (.l [(.s c0.s),(I v0_k0_1)])<|bf<|ao (.l [(.s c0.s),(I v0_k0_1)])<|ao (.i (c0.s.length:Int))<|.or (Au<|ao (.l [(.s c0.s),(I v0_k0_1)])<|uy<|ao (.l [(.s c0.s),(I v0_k0_1)])<|bt<|xN fun j2=>.ex fun (c4:UInt8)=>ao (.i (c4.toNat:Int))<|bt<|xB fun r6=>bt<|.or (eQ<|ao (.l [(.s c0.s),(I v0_k0_1)])<|ao (.i (v0_k0_1+1))<|bf<|ao (.l [(.s c0.s),(I v0_k0_1)])<|bf<|ao (.h (aP hp k0 [(.s c0.s),(I (v0_k0_1+1))]))<|.nil) (bf<|.nil)) (Av<|.nil)) fun L=>ma<|ai (Nat.ne_of_lt hk_k0)<|ai (aR hp k0 [(.s c0.s),(I v0_k0_1)])<|ma<|ai (Nat.ne_of_lt hk_k0)<|ai (aR hp k0 [(.s c0.s),(I v0_k0_1)])<|ai tt<|ai (rfl:(c0.s.length:Int)=(c0.s.length:Int))<|ai tt<|ai tt<|ai tt<|bq h (fun h1 h=>ai (g1 (decide_eq_true h1))<|ai tt<|ai (g1 (decide_eq_true h1))<|ai tt<|ai (g1 (decide_eq_true h1))<|ai tt<|ai (g1 (decide_eq_true h1))<|ai tt<|ai (g1 (decide_eq_true h1))<|ai (Nat.ne_of_lt hk_k0)<|ai (aR hp k0 [(.s c0.s),(I v0_k0_1)])<|EO (decide_eq_true h1)<|ai (Nat.ne_of_lt hk_k0)<|ai (aR hp k0 [(.s c0.s),(I v0_k0_1)])<|ai tt<|ai (g1 (decide_eq_true h1))<|mK h fun j2 h3 h=>ai h3<|cu h fun c4 h5 h=>ai (congrArg (Option.map fun z:UInt8=>(z.toNat:Int)) h5)<|ai tt<|ai (g1 (decide_eq_true h1))<|ar h (mc (c4.toNat:Int)) fun r6 h=>ai (decide_eq_true h1)<|aA h (fun h8 h=>ai h8<|ai (Nat.ne_of_lt hk_k0)<|ai (aR hp k0 [(.s c0.s),(I v0_k0_1)])<|aY h fun w9 h=>ai w9<|ai ff<|ai (Nat.ne_of_lt hk_k0)<|ai (aR hp k0 [(.s c0.s),(I v0_k0_1)])<|ai tt<|ai (Nat.ne_of_lt hk_k0)<|ai (iC hp k0 [(.s c0.s),(I v0_k0_1)] [(.s c0.s),(I (v0_k0_1+1))])<|L h) (fun h8 h=>ai h8<|L h)) (fun h1 h=>ai (g1 (decide_eq_false h1))<|ai (g1 (decide_eq_false h1))<|ai (g1 (decide_eq_false h1))<|ai (g1 (decide_eq_false h1))<|ai (g1 (decide_eq_false h1))<|ai (g1 (decide_eq_false h1))<|ai (g1 (decide_eq_false h1))<|ai (g1 (decide_eq_false h1))<|ai (g1 (decide_eq_false h1))<|ai (g1 (decide_eq_false h1))<|ai (g1 (decide_eq_false h1))<|ai (decide_eq_false h1)<|ai ff<|L h)
def bN(w1_1:Int):Option ((List UInt8)×Int):=
 (gC c0.at_).bind fun (j4:Nat)=>
 (gC w1_1).bind fun (j6:Nat)=>
 if j4≤j6 then
  if j6≤c0.s.length then
   some ((c0.s.take j6).drop j4,w1_1)
  else none
 else none
abbrev kn(dp:Nat)(hp:HP)(k0:Key)(c0:ax)(w1_1:Int)(x:((List UInt8)×Int)):aE×St:=(.ret,⟨[(4,(.s x.1))],[],aP hp k0 [(.s c0.s),(I x.2)]⟩)
theorem eH(hk_k0:k0.dp<dp)(hz:dw dp hp)(c0:ax)(w1_1:Int)(x:((List UInt8)×Int))(h:bN c0 w1_1=some x):run G Ω0 ⟨dp,false⟩ CO ⟨[(0,(.p k0 0)),(5,(I c0.at_))],[],aP hp k0 [(.s c0.s),(I w1_1)]⟩=some (kn dp hp k0 c0 w1_1 x):=
 lX (bf<|ao (.l [(.s c0.s),(I w1_1)])<|bf<|ao (.l [(.s c0.s),(I w1_1)])<|xN fun j4=>xN fun j6=>ao (.s ((c0.s.take j6).drop j4))<|.nil) fun L=>ma<|ai (Nat.ne_of_lt hk_k0)<|ai (aR hp k0 [(.s c0.s),(I w1_1)])<|ai tt<|ai tt<|ai tt<|ai tt<|ai tt<|ai (Nat.ne_of_lt hk_k0)<|ai (aR hp k0 [(.s c0.s),(I w1_1)])<|ai tt<|mK h fun j4 h5 h=>ai h5<|mK h fun j6 h7 h=>ai h7<|ai (rfl:0=0)<|aY h fun h8 h=>ai h8<|aY h fun h9 h=>ai h9<|ai (rfl:(c0.s.take j6).drop j4=(c0.s.take j6).drop j4)<|L h
abbrev me(dp:Nat)(hp:HP)(k0:Key)(c0:ax)(r:((List UInt8)×ax)):aW×HP:=(.ret (.s r.1),aP hp k0 [(.s r.2.s),(I r.2.at_)])
def cz:Option ((List UInt8)×ax):=
 (lp (fun v=>bj c0 v) c0.at_).bind fun (x1:((Bool×Int)⊕Int))=>match x1 with
 | .inl ya_2=>
  (bN c0 ya_2.2).bind fun (x4:((List UInt8)×Int))=>
  some (x4.1,(⟨c0.s,x4.2⟩:ax))
 | .inr yb_2=>
  (bN c0 yb_2).bind fun (x4:((List UInt8)×Int))=>
  some (x4.1,(⟨c0.s,x4.2⟩:ax))
theorem ko(hk_k0:k0.dp<dp)(hz:dw dp hp)(c0:ax)(r:((List UInt8)×ax))(h:cz c0=some r):call G Ω0 ⟨dp,false⟩ 59 [(.p k0 0),(.f 61 [])] (aP hp k0 [(.s c0.s),(I c0.at_)])=some (me dp hp k0 c0 r):=
 aG PE (bf<|ao (.l [(.s c0.s),(I c0.at_)])<|.or (.ex fun (ya_2:(Bool×Int))=>ao (.lp (.ex 0) ⟨[(0,(.p k0 0)),(1,(.f 61 [])),(5,(I c0.at_)),(32,(.b ya_2.1))],[],aP hp k0 [(.s c0.s),(I ya_2.2)]⟩)<|.fb<|.ex fun (x4:((List UInt8)×Int))=>ao (.fr .ret ⟨[(4,(.s x4.1))],[],aP hp k0 [(.s c0.s),(I x4.2)]⟩)<|.nil) (.ex fun (yb_2:Int)=>ao (.lp (.ex 0) ⟨[(0,(.p k0 0)),(1,(.f 61 [])),(5,(I c0.at_)),(32,(.b false))],[],aP hp k0 [(.s c0.s),(I yb_2)]⟩)<|.fb<|.ex fun (x4:((List UInt8)×Int))=>ao (.fr .ret ⟨[(4,(.s x4.1))],[],aP hp k0 [(.s c0.s),(I x4.2)]⟩)<|.nil)) fun L=>ai (Nat.ne_of_lt hk_k0)<|ai (aR hp k0 [(.s c0.s),(I c0.at_)])<|bD h (e5 (km dp hp k0 hk_k0 hz c0) c0.at_) (fun ya_2 h=>ar h (eH dp hp k0 hk_k0 hz c0 ya_2.2) fun x4 h=>L h) (fun yb_2 h=>ar h (eH dp hp k0 hk_k0 hz c0 yb_2) fun x4 h=>L h)
end
section
variable (a0:(List UInt8))(a1:(List UInt8))(dp:Nat)(hp:HP)(k0:Key)(c0:ax)
abbrev mg(a0:(List UInt8))(a1:(List UInt8))(r:Bool):aW×HP:=(.ret (.b r),H0)
def dy:Option Bool:=
 if (a1.length:Int)≤(a0.length:Int) then
  if a1.length≤a0.length then
   some (((a0.take a1.length).drop 0)==a1)
  else none
 else
  some false
theorem kq(r:Bool)(h:dy a0 a1=some r):call G Ω0 E0 73 [(.s a0),(.s a1)] H0=some (mg a0 a1 r):=
 aG Ra (ao (.i (a0.length:Int))<|ao (.i (a1.length:Int))<|.or (gu<|ao (.i (a1.length:Int))<|bt<|ao (.n a1.length)<|ao (.s ((a0.take a1.length).drop 0))<|gu<|.nil) (C2<|.nil)) fun L=>ai (rfl:(a0.length:Int)=(a0.length:Int))<|ai (rfl:(a1.length:Int)=(a1.length:Int))<|bq h (fun h1 h=>rV (decide_eq_true h1)<|ai (rfl:(a1.length:Int)=(a1.length:Int))<|ai (g1 (decide_eq_true h1))<|ai (rfl:(a1.length:Int)=(a1.length:Int))<|ai (rfl:0=0)<|ai (Nat.zero_le _:0≤a1.length)<|aY h fun h2 h=>ai h2<|ai (rfl:(a0.take a1.length).drop 0=(a0.take a1.length).drop 0)<|tf (decide_eq_true h1)<|L h) (fun h1 h=>EP (decide_eq_false h1)<|L h)
abbrev sT(a0:(List UInt8))(a1:(List UInt8))(r:Bool):aW×HP:=(.ret (.b r),H0)
def gn:Option Bool:=
 (dy a0 a1).bind fun (r1:Bool)=>
 some r1
theorem q0(r:Bool)(h:gn a0 a1=some r):call G Ω0 E0 62 [(.s a0),(.s a1)] H0=some (sT a0 a1 r):=
 aG Q5 (xB fun r1=>.nil) fun L=>ar h (kq a0 a1) fun r1 h=>L h
abbrev rn(dp:Nat)(hp:HP)(k0:Key)(c0:ax)(r:(Token×Int×ax)):aW×HP:=(.ret (.tp [(.a (jf r.1)),(I r.2.1)]),aP hp k0 [(.s r.2.2.s),(I r.2.2.at_)])
def eT:Option (Token×Int×ax):=
 (fm c0).bind fun (r1:Int)=>
 (iG r1).bind fun (r3:Bool)=>
 if r3=true then
  (bM c0).bind fun (r6:((List UInt8)×ax))=>
  if 12<(r6.1.length:Int) then
   some ((⟨1,c0.at_,r6.1⟩:Token),2,r6.2)
  else
   some ((⟨1,c0.at_,r6.1⟩:Token),0,r6.2)
 else
  (gE r1).bind fun (r6:Bool)=>
  if r6=true then
   (cz c0).bind fun (r9:((List UInt8)×ax))=>
   if 7<(r9.1.length:Int) then
    some ((⟨2,c0.at_,r9.1⟩:Token),2,r9.2)
   else
    if 1<(r9.1.length:Int) then
     if (r1==48)=true then
      some ((⟨2,c0.at_,r9.1⟩:Token),1,r9.2)
     else
      some ((⟨2,c0.at_,r9.1⟩:Token),0,r9.2)
    else
     some ((⟨2,c0.at_,r9.1⟩:Token),0,r9.2)
  else
   (gC c0.at_).bind fun (j9:Nat)=>
   if j9≤c0.s.length then
    (gn ((c0.s.take c0.s.length).drop j9) ([61,61])).bind fun (r12:Bool)=>
    if r12=true then
     if IntKind.i64.wrap (c0.at_+2)=c0.at_+2 then
      some ((⟨3,c0.at_,[61,61]⟩:Token),0,(⟨c0.s,c0.at_+2⟩:ax))
     else none
    else
     (mI ([123,125,40,41,59,58,33,44,61,43,45,42,60]) r1).bind fun (r15:Int)=>
     if 0≤r15 then
      if 0≤r1∧r1<128 then
       if IntKind.i64.wrap (c0.at_+1)=c0.at_+1 then
        some ((⟨3,c0.at_,[UInt8.ofNat (r1).toNat]⟩:Token),0,(⟨c0.s,c0.at_+1⟩:ax))
       else none
      else none
     else
      some ((⟨3,c0.at_,([]:List UInt8)⟩:Token),1,c0)
   else none
theorem pD(hk_k0:k0.dp<dp)(hz:dw dp hp)(c0:ax)(r:(Token×Int×ax))(h:eT c0=some r):call G Ω0 ⟨dp,false⟩ 39 [(.p k0 0)] (aP hp k0 [(.s c0.s),(I c0.at_)])=some (rn dp hp k0 c0 r):=
 aG QO (bf<|ao (.l [(.s c0.s),(I c0.at_)])<|b9<|.ex fun (r1:Int)=>ao (.v (.i .u8 r1))<|ao (.h (boxes dp [(2,[(I 0),(I 0),(.s ([]:List UInt8))]),(4,[(I 3),(I c0.at_),(.s ([]:List UInt8))])] (aP hp k0 [(.s c0.s),(I c0.at_)])))<|xB fun r3=>.or (gu<|.ex fun (r6:((List UInt8)×ax))=>ao (.v (.s r6.1))<|ao (.h (boxes dp [(2,[(I 0),(I 0),(.s ([]:List UInt8))]),(4,[(I 1),(I c0.at_),(.s ([]:List UInt8))])] (aP hp k0 [(.s r6.2.s),(I r6.2.at_)])))<|ao (.bx [(2,[(I 0),(I 0),(.s ([]:List UInt8))]),(4,[(I 1),(I c0.at_),(.s ([]:List UInt8))])])<|ao (.h (aP hp k0 [(.s r6.2.s),(I r6.2.at_)]))<|gu<|ao (.i (r6.1.length:Int))<|.or (cJ<|.nil) (bf<|bt<|bt<|bt<|.nil)) (bf<|xB fun r6=>.or (gu<|.ex fun (r9:((List UInt8)×ax))=>ao (.v (.s r9.1))<|ao (.h (boxes dp [(2,[(I 0),(I 0),(.s ([]:List UInt8))]),(4,[(I 2),(I c0.at_),(.s ([]:List UInt8))])] (aP hp k0 [(.s r9.2.s),(I r9.2.at_)])))<|ao (.bx [(2,[(I 0),(I 0),(.s ([]:List UInt8))]),(4,[(I 2),(I c0.at_),(.s ([]:List UInt8))])])<|ao (.h (aP hp k0 [(.s r9.2.s),(I r9.2.at_)]))<|gu<|ao (.i (r9.1.length:Int))<|.or (cJ<|.nil) (bf<|bt<|ao (.i (r9.1.length:Int))<|.or (gu<|.or (cJ<|.nil) (bf<|bt<|bt<|bt<|.nil)) (bf<|bf<|bf<|bf<|bt<|bt<|bt<|.nil))) (bf<|bf<|ao (.l [(.s c0.s),(I c0.at_)])<|bf<|ao (.l [(.s c0.s),(I c0.at_)])<|xN fun j9=>ao (.s ((c0.s.take c0.s.length).drop j9))<|xB fun r12=>.or (Ar<|ao (.l [(.s c0.s),(I c0.at_)])<|ao (.i (c0.at_+2))<|bf<|ao (.l [(.s c0.s),(I c0.at_)])<|bf<|ao (.h (aP hp k0 [(.s c0.s),(I (c0.at_+2))]))<|gu<|.nil) (bf<|xI fun r15=>.or (bt<|ao (.s [UInt8.ofNat (r1).toNat])<|ux<|ao (.l [(.s c0.s),(I c0.at_)])<|ao (.i (c0.at_+1))<|bf<|ao (.l [(.s c0.s),(I c0.at_)])<|bf<|ao (.h (aP hp k0 [(.s c0.s),(I (c0.at_+1))]))<|gu<|.nil) (bf<|bt<|bt<|bt<|.nil))))) fun L=>ai ((by simp [AV.bL,AV.dL,AV.deep,AV.dk,tW hk_k0,Nat.le_of_lt hk_k0]):(([(0,(.p k0 0))]:List (Nat×AV)).all (fun y=>y.2.bL ⟨dp,2⟩)&&([]:List (Nat×List AV)).all (fun y=>AV.dL ⟨dp,2⟩ y.2))=true)<|ai (Nat.ne_of_lt hk_k0)<|ai (aR hp k0 [(.s c0.s),(I c0.at_)])<|ai ((by simp [AV.bL,AV.dL,AV.deep,AV.dk,tW hk_k0,Nat.le_of_lt hk_k0]):(([(10,(.a [(I 3),(I c0.at_),(.s ([]:List UInt8))])),(9,(I c0.at_)),(8,(.p k0 1)),(7,(.p k0 0)),(6,(.p k0 0)),(0,(.p k0 0)),(2,(.p ⟨dp,2⟩ 0))]:List (Nat×AV)).all (fun y=>y.2.bL ⟨dp,4⟩)&&([(2,[(I 0),(I 0),(.s ([]:List UInt8))])]:List (Nat×List AV)).all (fun y=>AV.dL ⟨dp,4⟩ y.2))=true)<|ai ff<|ai (rN dp)<|ai tt<|ai (rN dp)<|ai tt<|cu h fun r1 ek2 h=>have ek2:call G Ω0 ⟨dp+1,true⟩ 57 [(.p k0 0)] (boxes dp [(2,[(I 0),(I 0),(.s ([]:List UInt8))]),(4,[(I 3),(I c0.at_),(.s ([]:List UInt8))])] (aP hp k0 [(.s c0.s),(I c0.at_)]))=some (.ret (.i .u8 r1),boxes dp [(2,[(I 0),(I 0),(.s ([]:List UInt8))]),(4,[(I 3),(I c0.at_),(.s ([]:List UInt8))])] (aP hp k0 [(.s c0.s),(I c0.at_)])):=nG (rU (hp1:=aP hp k0 [(.s c0.s),(I c0.at_)]) (Nat.ne_of_lt hk_k0) (iC ..)) (rU (hp1:=aP hp k0 [(.s c0.s),(I c0.at_)]) (Nat.ne_of_lt hk_k0) (iC ..)) (p8 (dp+1) (boxes dp [(2,[(I 0),(I 0),(.s ([]:List UInt8))]),(4,[(I 3),(I c0.at_),(.s ([]:List UInt8))])] (aP hp k0 [(.s c0.s),(I c0.at_)])) k0 (Nat.lt_succ_of_lt hk_k0) (ft (ka hk_k0 (hz))) c0 _ ek2);ai ek2<|ar h (oT r1) fun r3 h=>aA h (fun h5 h=>ai h5<|ai ff<|ai (rN dp)<|ai tt<|ai (rN dp)<|ai ff<|ai tt<|cu h fun r6 ek7 h=>have ek7:=cO hk_k0 (gX (dp+1) (boxes dp [(2,[(I 0),(I 0),(.s ([]:List UInt8))]),(4,[(I 1),(I c0.at_),(.s ([]:List UInt8))])] (aP hp k0 [(.s c0.s),(I c0.at_)])) k0 (Nat.lt_succ_of_lt hk_k0) (ft (ka hk_k0 (hz))) c0 _ ek7);ai ek7<|ai (vE ek7 (by kernel_rfl) (by kernel_rfl))<|ai (vF ek7 (ka hk_k0 (hz)))<|ai ff<|ai (rN dp)<|ai tt<|ai (rN dp)<|ai (rN dp)<|ai (rfl:(r6.1.length:Int)=(r6.1.length:Int))<|bq h (fun h8 h=>ai (decide_eq_true h8)<|ai (rN dp)<|ai ff<|ai (rN dp)<|ai tt<|ai (rN dp)<|ai (rN dp)<|L h) (fun h8 h=>ai (decide_eq_false h8)<|ai (rN dp)<|ai ff<|ai (rN dp)<|ai tt<|ai (rN dp)<|ai (rN dp)<|L h)) (fun h5 h=>ai h5<|ar h (mc r1) fun r6 h=>aA h (fun h8 h=>ai h8<|ai ff<|ai (rN dp)<|ai tt<|ai (rN dp)<|ai ff<|ai tt<|cu h fun r9 ek10 h=>have ek10:=cO hk_k0 (ko (dp+1) (boxes dp [(2,[(I 0),(I 0),(.s ([]:List UInt8))]),(4,[(I 2),(I c0.at_),(.s ([]:List UInt8))])] (aP hp k0 [(.s c0.s),(I c0.at_)])) k0 (Nat.lt_succ_of_lt hk_k0) (ft (ka hk_k0 (hz))) c0 _ ek10);ai ek10<|ai (vE ek10 (by kernel_rfl) (by kernel_rfl))<|ai (vF ek10 (ka hk_k0 (hz)))<|ai ff<|ai (rN dp)<|ai tt<|ai (rN dp)<|ai (rN dp)<|ai (rfl:(r9.1.length:Int)=(r9.1.length:Int))<|bq h (fun h11 h=>ai (decide_eq_true h11)<|ai (rN dp)<|ai ff<|ai (rN dp)<|ai tt<|ai (rN dp)<|ai (rN dp)<|L h) (fun h11 h=>ai (decide_eq_false h11)<|ai (rN dp)<|ai (rfl:(r9.1.length:Int)=(r9.1.length:Int))<|bq h (fun h12 h=>tf (decide_eq_true h12)<|aA h (fun h13 h=>ai h13<|ai (rN dp)<|ai ff<|ai (rN dp)<|ai tt<|ai (rN dp)<|ai (rN dp)<|L h) (fun h13 h=>ai h13<|ai (rN dp)<|ai ff<|ai (rN dp)<|ai tt<|ai (rN dp)<|ai (rN dp)<|L h)) (fun h12 h=>Gh (decide_eq_false h12)<|ai (rN dp)<|ai ff<|ai (rN dp)<|ai tt<|ai (rN dp)<|ai (rN dp)<|L h))) (fun h8 h=>ai h8<|ai tt<|ai tt<|ai tt<|ai tt<|ai (Nat.ne_of_lt hk_k0)<|ai (aR hp k0 [(.s c0.s),(I c0.at_)])<|ma<|ai (Nat.ne_of_lt hk_k0)<|ai (aR hp k0 [(.s c0.s),(I c0.at_)])<|ai tt<|mK h fun j9 h10 h=>ai h10<|ai (rfl:0=0)<|aY h fun h11 h=>ai h11<|ai (Nat.le_refl _:c0.s.length≤c0.s.length)<|ai (rfl:(c0.s.take c0.s.length).drop j9=(c0.s.take c0.s.length).drop j9)<|ar h (q0 ((c0.s.take c0.s.length).drop j9) ([61,61])) fun r12 h=>aA h (fun h14 h=>ai h14<|ai ff<|ai (rN dp)<|ai tt<|ai (rN dp)<|ai (Nat.ne_of_lt hk_k0)<|ai (aR hp k0 [(.s c0.s),(I c0.at_)])<|aY h fun w15 h=>ai w15<|ai ff<|ai (Nat.ne_of_lt hk_k0)<|ai (aR hp k0 [(.s c0.s),(I c0.at_)])<|ai tt<|ai (Nat.ne_of_lt hk_k0)<|ai (iC hp k0 [(.s c0.s),(I c0.at_)] [(.s c0.s),(I (c0.at_+2))])<|ai (rN dp)<|ai ff<|ai (rN dp)<|ai tt<|ai (rN dp)<|ai (rN dp)<|L h) (fun h14 h=>ai h14<|cu h fun r15 ek16 h=>have ek16:Ω0 63 [(.s ([123,125,40,41,59,58,33,44,61,43,45,42,60])),(.i .u8 r1)]=some (I r15):=zh ek16;ai ek16<|bq h (fun h17 h=>ai (decide_eq_true h17)<|aY h fun h18 h=>ai h18<|ai (rfl:[UInt8.ofNat (r1).toNat]=[UInt8.ofNat (r1).toNat])<|ai ff<|ai (rN dp)<|ai tt<|ai (rN dp)<|ai (Nat.ne_of_lt hk_k0)<|ai (aR hp k0 [(.s c0.s),(I c0.at_)])<|aY h fun w19 h=>ai w19<|ai ff<|ai (Nat.ne_of_lt hk_k0)<|ai (aR hp k0 [(.s c0.s),(I c0.at_)])<|ai tt<|ai (Nat.ne_of_lt hk_k0)<|ai (iC hp k0 [(.s c0.s),(I c0.at_)] [(.s c0.s),(I (c0.at_+1))])<|ai (rN dp)<|ai ff<|ai (rN dp)<|ai tt<|ai (rN dp)<|ai (rN dp)<|L h) (fun h17 h=>ai (decide_eq_false h17)<|ai (rN dp)<|ai ff<|ai (rN dp)<|ai tt<|ai (rN dp)<|ai (rN dp)<|L h))))
def en(v0_6:(List Token))(v0_14_0:(List UInt8))(v0_14_1:Int):Option (((List Token)×(List UInt8)×Int)⊕((Int×Int×(List Token))⊕((List Token)×Bool×(List UInt8)×Int))):=
 if v0_14_1<(a0.length:Int) then
  (eT (⟨v0_14_0,v0_14_1⟩:ax)).bind fun (r5:(Token×Int×ax))=>
  if (r5.2.1 !=0)=true then
   some (.inr (.inl (r5.1.At,r5.2.1,v0_6)))
  else
   if v0_6.length + [r5.1].length≤1000000000 then
    (cV r5.2.2).bind fun (r9:ax)=>
    some (.inl (v0_6++[r5.1],r9.s,r9.at_))
   else none
 else
  some (.inr (.inr (v0_6,decide (v0_14_1<(a0.length:Int)),v0_14_0,v0_14_1)))
abbrev xg(v:((List Token)×(List UInt8)×Int)):St:=⟨[(0,(.s a0)),(5,(.p ⟨0,14⟩ 0)),(6,(.o 75 (v.1.map bK)))],[(14,[(.s v.2.1),(I v.2.2)])],H0⟩
abbrev xh(x:((Int×Int×(List Token))⊕((List Token)×Bool×(List UInt8)×Int))):aE×St:=match x with | .inl (z1,z2,z3)=>(.ret,⟨[(2,(.l 75 (([]:List Token).map bK))),(3,(I z1)),(4,(I z2)),(6,(.o 75 (z3.map bK)))],[],H0⟩) | .inr (z1,z2,z3,z4)=>((.ex 0),⟨[(0,(.s a0)),(5,(.p ⟨0,14⟩ 0)),(6,(.o 75 (z1.map bK))),(23,(.b z2))],[(14,[(.s z3),(I z4)])],H0⟩)
theorem vK(v0_6:(List Token))(v0_14_0:(List UInt8))(v0_14_1:Int)(o:((List Token)×(List UInt8)×Int)⊕((Int×Int×(List Token))⊕((List Token)×Bool×(List UInt8)×Int)))(h:en a0 v0_6 v0_14_0 v0_14_1=some o):bF E0 FR (xg a0) (xh a0) (v0_6,v0_14_0,v0_14_1) o:=
 bP (bt<|ao (.i (a0.length:Int))<|.or (bt<|.ex fun (r5:(Token×Int×ax))=>ao (.v (.tp [(.a (jf r5.1)),(I r5.2.1)]))<|ao (.h (boxes 0 [(14,[(.s r5.2.2.s),(I r5.2.2.at_)])] H0))<|ao (.bx [(14,[(.s r5.2.2.s),(I r5.2.2.at_)])])<|ao (.h (H0))<|b9<|.or (b9<|.nil) (bf<|bt<|ao (.l ([r5.1].map bK))<|ao (.l ((v0_6++[r5.1]).map bK))<|.ex fun (r9:ax)=>ao (.v (.tp []))<|ao (.h (boxes 0 [(14,[(.s r9.s),(I r9.at_)])] H0))<|ao (.bx [(14,[(.s r9.s),(I r9.at_)])])<|ao (.h (H0))<|.nil)) (bf<|.nil)) fun L=>ai (rfl:Z0)<|ai (rfl:(a0.length:Int)=(a0.length:Int))<|bq h (fun h4 h=>ai (decide_eq_true h4)<|ai ff<|ai tt<|cu h fun r5 ek6 h=>have ek6:call G Ω0 ⟨0+1,false⟩ 39 [(.p ⟨0,14⟩ 0)] (boxes 0 [(14,[(.s v0_14_0),(I v0_14_1)])] H0)=some (.ret (.tp [(.a (jf r5.1)),(I r5.2.1)]),boxes 0 [(14,[(.s r5.2.2.s),(I r5.2.2.at_)])] H0):=nG (ik (bx1:=[(14,[(.s v0_14_0),(I v0_14_1)])]) (by kernel_rfl) (by kernel_rfl)) (ik (bx1:=[(14,[(.s r5.2.2.s),(I r5.2.2.at_)])]) (by kernel_rfl) (by kernel_rfl)) (pD (0+1) (boxes 0 [(14,[(.s v0_14_0),(I v0_14_1)])] H0) ⟨0,14⟩ (Nat.lt_succ_self 0) (ft (il 0)) (⟨v0_14_0,v0_14_1⟩:ax) _ ek6);ai ek6<|ai (vE ek6 (by kernel_rfl) (by kernel_rfl))<|ai (vF ek6 (il 0))<|ai tt<|ai ff<|ai (rfl:Z0)<|ai tt<|ai (rfl:Z0)<|aA h (fun h7 h=>ai h7<|ai tt<|ai tt<|ai (rfl:Z0)<|ai tt<|ai tt<|ai tt<|ai tt<|L h) (fun h7 h=>lK h7<|ai (rfl:[(.a (jf r5.1))]=[r5.1].map bK)<|ai ff<|aY h fun h8 h=>ai ((IT bK (n:=3) (fun _=>rfl) [r5.1]):([r5.1].map bK).all (fun e=>e.nc==3)=true)<|ai ((NA h8 (by decide)):((v0_6.map bK).length+([r5.1].map bK).length)*32≤140737488355328)<|ai ((NB h8):(v0_6.map bK).length+([r5.1].map bK).length≤maxLen)<|ai (List.map_append.symm:v0_6.map bK++[r5.1].map bK=(v0_6++[r5.1]).map bK)<|ai ff<|ai tt<|cu h fun r9 ek10 h=>have ek10:call G Ω0 ⟨0+1,false⟩ 38 [(.p ⟨0,14⟩ 0)] (boxes 0 [(14,[(.s r5.2.2.s),(I r5.2.2.at_)])] H0)=some (.ret (.tp []),boxes 0 [(14,[(.s r9.s),(I r9.at_)])] H0):=nG (ik (bx1:=[(14,[(.s r5.2.2.s),(I r5.2.2.at_)])]) (by kernel_rfl) (by kernel_rfl)) (ik (bx1:=[(14,[(.s r9.s),(I r9.at_)])]) (by kernel_rfl) (by kernel_rfl)) (kU (0+1) (boxes 0 [(14,[(.s r5.2.2.s),(I r5.2.2.at_)])] H0) ⟨0,14⟩ (Nat.lt_succ_self 0) (ft (il 0)) r5.2.2 _ ek10);ai ek10<|ai (vE ek10 (by kernel_rfl) (by kernel_rfl))<|ai (vF ek10 (il 0))<|L h)) (fun h4 h=>ai (decide_eq_false h4)<|L h)
abbrev AE(a0:(List UInt8))(r:((List Token)×Int×Int)):aW×HP:=(.ret (.tp [(.l 75 (r.1.map bK)),(I r.2.1),(I r.2.2)]),H0)
def mU:Option ((List Token)×Int×Int):=
 if 6000<(a0.length:Int) then
  some (([]:List Token),0,2)
 else
  (cV (⟨a0,0⟩:ax)).bind fun (r2:ax)=>
  (lp (fun v=>en a0 v.1 v.2.1 v.2.2) (([]:List Token),r2.s,r2.at_)).bind fun (x4:((Int×Int×(List Token))⊕((List Token)×Bool×(List UInt8)×Int)))=>match x4 with
  | .inl ya_5=>
   some (([]:List Token),ya_5.1,ya_5.2.1)
  | .inr yb_5=>
   some (yb_5.1,0,0)
theorem vL(r:((List Token)×Int×Int))(h:mU a0=some r):call G Ω0 E0 16 [(.s a0)] H0=some (AE a0 r):=
 aG Qu (ao (.i (a0.length:Int))<|oN (.ex fun (r2:ax)=>ao (.v (.tp []))<|ao (.h (boxes 0 [(14,[(.s r2.s),(I r2.at_)])] H0))<|ao (.bx [(14,[(.s r2.s),(I r2.at_)])])<|ao (.h (H0))<|.or (.ex fun (ya_5:(Int×Int×(List Token)))=>ao (.lp .ret ⟨[(2,(.l 75 (([]:List Token).map bK))),(3,(I ya_5.1)),(4,(I ya_5.2.1)),(6,(.o 75 (ya_5.2.2.map bK)))],[],H0⟩)<|.nil) (.ex fun (yb_5:((List Token)×Bool×(List UInt8)×Int))=>ao (.lp (.ex 0) ⟨[(0,(.s a0)),(5,(.p ⟨0,14⟩ 0)),(6,(.o 75 (yb_5.1.map bK))),(23,(.b yb_5.2.1))],[(14,[(.s yb_5.2.2.1),(I yb_5.2.2.2)])],H0⟩)<|.nil))) fun L=>ai (rfl:(a0.length:Int)=(a0.length:Int))<|bq h (fun h1 h=>ai (decide_eq_true h1)<|L h) (fun h1 h=>ai (decide_eq_false h1)<|ai tt<|ai ff<|ai tt<|cu h fun r2 ek3 h=>have ek3:call G Ω0 ⟨0+1,false⟩ 38 [(.p ⟨0,14⟩ 0)] (boxes 0 [(14,[(.s a0),(I 0)])] H0)=some (.ret (.tp []),boxes 0 [(14,[(.s r2.s),(I r2.at_)])] H0):=nG (ik (bx1:=[(14,[(.s a0),(I 0)])]) (by kernel_rfl) (by kernel_rfl)) (ik (bx1:=[(14,[(.s r2.s),(I r2.at_)])]) (by kernel_rfl) (by kernel_rfl)) (kU (0+1) (boxes 0 [(14,[(.s a0),(I 0)])] H0) ⟨0,14⟩ (Nat.lt_succ_self 0) (ft (il 0)) (⟨a0,0⟩:ax) _ ek3);ai ek3<|ai (vE ek3 (by kernel_rfl) (by kernel_rfl))<|ai (vF ek3 (il 0))<|bD h (e5 (fun v=>vK a0 v.1 v.2.1 v.2.2) (([]:List Token),r2.s,r2.at_)) (fun ya_5 h=>L h) (fun yb_5 h=>L h))
def rp:List bU:=(gA 4 36)::[]
end
section
variable (a0:Int)(a1:(List UInt8))
def fH(a0:Int)(a1:(List UInt8))(r1:((List Token)×Int×Int))(u2_1:Bool):Option Bool:=
 some u2_1
abbrev xi(a0:Int)(a1:(List UInt8))(r1:((List Token)×Int×Int))(u2_1:Bool)(x:Bool):St:=⟨[(4,(.b x))],[],H0⟩
theorem jz(r1:((List Token)×Int×Int))(u2_1:Bool)(w:List AV)(x:Bool)(h:fH a0 a1 r1 u2_1=some x):dx G Ω0 E0 [4] [] rp ⟨[(36,(.b u2_1)),(35,(W w 0)),(34,(W w 1)),(33,(W w 2)),(32,(W w 3)),(31,(W w 4)),(30,(W w 5)),(29,(W w 6)),(28,(W w 7)),(27,(W w 8)),(26,(W w 9)),(25,(W w 10)),(24,(W w 11)),(23,(W w 12)),(22,(W w 13)),(21,(W w 14)),(20,(W w 15)),(19,(W w 16)),(18,(W w 17)),(17,(W w 18)),(16,(.b (r1.2.2==0))),(15,(.b (r1.2.2==0))),(14,(I r1.2.2)),(0,(I a0)),(1,(.s a1)),(5,(.l 75 (r1.1.map bK))),(7,(I r1.2.2))],[],H0⟩=some (xi a0 a1 r1 u2_1 x):=
 cC (.nil) fun L=>L h
def xj:List bU:=(gM 14 7)::(gB 15 .eql 14 (kI 0))::(gM 16 15)::⟨some 17,.mv 5,some ⟨16,true⟩,false⟩::⟨some 18,.ln false 17,some ⟨16,true⟩,false⟩::⟨some 19,.bo .eql false 18 (kI 1),some ⟨16,true⟩,false⟩::(gp 20 (.pk 16 19 (.c (.b false))))::(gM 21 20)::⟨some 22,.mv 5,some ⟨21,true⟩,false⟩::⟨some 23,.ia 3 none 22 (kI 0),some ⟨21,true⟩,false⟩::⟨some 24,.fa 0 23,some ⟨21,true⟩,false⟩::⟨some 25,.ld none 24,some ⟨21,true⟩,false⟩::⟨some 26,.mv 0,some ⟨21,true⟩,false⟩::⟨some 27,.bo .eql false 25 26,some ⟨21,true⟩,false⟩::(gp 28 (.pk 21 27 (.c (.b false))))::(gM 29 28)::⟨some 30,.mv 5,some ⟨29,true⟩,false⟩::⟨some 31,.ia 3 none 30 (kI 0),some ⟨29,true⟩,false⟩::⟨some 32,.fa 2 31,some ⟨29,true⟩,false⟩::⟨some 33,.ld none 32,some ⟨29,true⟩,false⟩::⟨some 34,.mv 1,some ⟨29,true⟩,false⟩::⟨some 35,.bo .eql false 33 34,some ⟨29,true⟩,false⟩::(gp 36 (.pk 29 35 (.c (.b false))))::rp
def nK(r1:((List Token)×Int×Int)):Option Bool:=
 if (r1.2.2==0)=true then
  if ((r1.1.length:Int)==1)=true then
   (r1.1[0]?).bind fun (y5:Token)=>
   if (y5.Kind==a0)=true then
    (fH a0 a1 r1 (y5.Text==a1)).bind fun (x8:Bool)=>
    some x8
   else
    (fH a0 a1 r1 false).bind fun (x8:Bool)=>
    some x8
  else
   (fH a0 a1 r1 false).bind fun (x5:Bool)=>
   some x5
 else
  (fH a0 a1 r1 false).bind fun (x4:Bool)=>
  some x4
abbrev xk(a0:Int)(a1:(List UInt8))(r1:((List Token)×Int×Int))(x:Bool):St:=⟨[(4,(.b x))],[],H0⟩
theorem vM(r1:((List Token)×Int×Int))(x:Bool)(h:nK a0 a1 r1=some x):dx G Ω0 E0 [4] [] xj ⟨[(0,(I a0)),(1,(.s a1)),(5,(.l 75 (r1.1.map bK))),(7,(I r1.2.2))],[],H0⟩=some (xk a0 a1 r1 x):=
 cC (.or (b9<|ao (.i (r1.1.length:Int))<|b9<|.or (b9<|ao (.n 0)<|.ex fun (y5:Token)=>ao (.v (.a (jf y5)))<|kS<|.or (b9<|ao (.n 0)<|ao (.v (.a (jf y5)))<|kS<|.jb (some 4) 0<|.ex fun (x8:Bool)=>ao (.jn ⟨[(4,(.b x8))],[],H0⟩)<|.nil) (C2<|.jb (some 4) 0<|.ex fun (x8:Bool)=>ao (.jn ⟨[(4,(.b x8))],[],H0⟩)<|.nil)) (bf<|bf<|bf<|bf<|bf<|bf<|bf<|bf<|bf<|bf<|bf<|bf<|bf<|bf<|.jb (some 4) 0<|.ex fun (x5:Bool)=>ao (.jn ⟨[(4,(.b x5))],[],H0⟩)<|.nil)) (bf<|bf<|bf<|bf<|bf<|bf<|bf<|bf<|bf<|bf<|bf<|bf<|bf<|bf<|bf<|bf<|bf<|bf<|.jb (some 4) 0<|.ex fun (x4:Bool)=>ao (.jn ⟨[(4,(.b x4))],[],H0⟩)<|.nil)) fun L=>aA h (fun h3 h=>dG h3<|ai (aK bK r1.1)<|fX h3<|aA h (fun h4 h=>dG h4<|ai (rI 0)<|cu h fun y5 h6 h=>ai (cT bK h6)<|Ao h4<|aA h (fun h7 h=>dG h7<|ai (rI 0)<|ai (cT bK h6)<|Ao h7<|ar h (jz a0 a1 r1 (y5.Text==a1) [(.b (y5.Text==a1)),(.s a1),(.s y5.Text),(.e (.a (jf y5)) 2),(.e (.a (jf y5)) 0),(.l 75 (r1.1.map bK)),(.b (y5.Kind==a0)),(.b (y5.Kind==a0)),(.b (y5.Kind==a0)),(I a0),(I y5.Kind),(.e (.a (jf y5)) 0),(.e (.a (jf y5)) 0),(.l 75 (r1.1.map bK)),(.b ((r1.1.length:Int)==1)),(.b ((r1.1.length:Int)==1)),(.b ((r1.1.length:Int)==1)),(I (r1.1.length:Int)),(.l 75 (r1.1.map bK))]) fun x8 h=>L h) (fun h7 h=>EP h7<|ar h (jz a0 a1 r1 false [.sk,.sk,.sk,.sk,.sk,.sk,(.b (y5.Kind==a0)),(.b (y5.Kind==a0)),(.b (y5.Kind==a0)),(I a0),(I y5.Kind),(.e (.a (jf y5)) 0),(.e (.a (jf y5)) 0),(.l 75 (r1.1.map bK)),(.b ((r1.1.length:Int)==1)),(.b ((r1.1.length:Int)==1)),(.b ((r1.1.length:Int)==1)),(I (r1.1.length:Int)),(.l 75 (r1.1.map bK))]) fun x8 h=>L h)) (fun h4 h=>ai (g1 h4)<|ai (g1 h4)<|ai (g1 h4)<|ai (g1 h4)<|ai (g1 h4)<|ai (g1 h4)<|ai h4<|ai gf<|ai gf<|ai gf<|ai gf<|ai gf<|ai gf<|ai ff<|ar h (jz a0 a1 r1 false [.sk,.sk,.sk,.sk,.sk,.sk,(.b false),(.b false),.sk,.sk,.sk,.sk,.sk,.sk,(.b ((r1.1.length:Int)==1)),(.b ((r1.1.length:Int)==1)),(.b ((r1.1.length:Int)==1)),(I (r1.1.length:Int)),(.l 75 (r1.1.map bK))]) fun x5 h=>L h)) (fun h3 h=>ai (g1 h3)<|ai (g1 h3)<|ai (g1 h3)<|ai h3<|ai gf<|ai gf<|ai gf<|ai gf<|ai gf<|ai gf<|ai ff<|ai gf<|ai gf<|ai gf<|ai gf<|ai gf<|ai gf<|ai ff<|ar h (jz a0 a1 r1 false [.sk,.sk,.sk,.sk,.sk,.sk,(.b false),(.b false),.sk,.sk,.sk,.sk,.sk,.sk,(.b false),(.b false),.sk,.sk,.sk]) fun x4 h=>L h)
abbrev BN(a0:Int)(a1:(List UInt8))(r:Bool):aW×HP:=(.ret (.b r),H0)
def n8:Option Bool:=
 (mU a1).bind fun (r1:((List Token)×Int×Int))=>
 (nK a0 a1 r1).bind fun (x3:Bool)=>
 some x3
theorem xl(r:Bool)(h:n8 a0 a1=some r):call G Ω0 E0 69 [(I a0),(.s a1)] H0=some (BN a0 a1 r):=
 aG Q6 (.ex fun (r1:((List Token)×Int×Int))=>ao (.v (.tp [(.l 75 (r1.1.map bK)),(I r1.2.1),(I r1.2.2)]))<|.jb (some 14) 23<|.ex fun (x3:Bool)=>ao (.jn ⟨[(4,(.b x3))],[],H0⟩)<|.nil) fun L=>ar h (vL a1) fun r1 h=>ar h (vM a0 a1 r1) fun x3 h=>L h
end
section
variable (a0:(List UInt8))
abbrev AF(a0:(List UInt8))(r:Bool):aW×HP:=(.ret (.b r),H0)
def pE:Option Bool:=
 (n8 1 a0).bind fun (r1:Bool)=>
 some r1
theorem vN(r:Bool)(h:pE a0=some r):call G Ω0 E0 45 [(.s a0)] H0=some (AF a0 r):=
 aG QQ (xB fun r1=>.nil) fun L=>ar h (xl 1 a0) fun r1 h=>L h
abbrev AG(r:(List (List UInt8))):aW×HP:=(.ret (.l 9 (r.map AV.s)),H0)
def pF:Option (List (List UInt8)):=
 some ([[97,99,116,111,114],[103,114,97,110,116],[115,112,101,97,107],[105,110],[111,117,116],[118,97,114],[102,117,110,99],[109,97,105,110],[103,101,116],[112,117,116],[114,101,118,101,97,108],[116,114,117,115,116],[105,102],[101,108,115,101],[119,104,105,108,101],[114,101,116,117,114,110]])
theorem vO(r:(List (List UInt8)))(h:pF=some r):call G Ω0 E0 47 [] H0=some (AG r):=
 aG QS (ao (.l (([[97,99,116,111,114],[103,114,97,110,116],[115,112,101,97,107],[105,110],[111,117,116],[118,97,114],[102,117,110,99],[109,97,105,110],[103,101,116],[112,117,116],[114,101,118,101,97,108],[116,114,117,115,116],[105,102],[101,108,115,101],[119,104,105,108,101],[114,101,116,117,114,110]]).map AV.s))<|.nil) fun L=>ai (rfl:[(.s ([97,99,116,111,114])),(.s ([103,114,97,110,116])),(.s ([115,112,101,97,107])),(.s ([105,110])),(.s ([111,117,116])),(.s ([118,97,114])),(.s ([102,117,110,99])),(.s ([109,97,105,110])),(.s ([103,101,116])),(.s ([112,117,116])),(.s ([114,101,118,101,97,108])),(.s ([116,114,117,115,116])),(.s ([105,102])),(.s ([101,108,115,101])),(.s ([119,104,105,108,101])),(.s ([114,101,116,117,114,110]))]=([[97,99,116,111,114],[103,114,97,110,116],[115,112,101,97,107],[105,110],[111,117,116],[118,97,114],[102,117,110,99],[109,97,105,110],[103,101,116],[112,117,116],[114,101,118,101,97,108],[116,114,117,115,116],[105,102],[101,108,115,101],[119,104,105,108,101],[114,101,116,117,114,110]]).map AV.s)<|L h
end
section
variable (a0:(List (List UInt8)))(a1:(List UInt8))
def kV(v0_8:Nat):Option (Nat⊕(Nat⊕(Nat×Bool))):=
 if (v0_8:Int)<(a0.length:Int) then
  (a0[v0_8]?).bind fun (y2:(List UInt8))=>
  if (a1==y2)=true then
   some (.inr (.inl v0_8))
  else
   if IntKind.i64.wrap ((v0_8:Int)+1)=((v0_8+1:Nat):Int) then
    some (.inl (v0_8+1))
   else none
 else
  some (.inr (.inr (v0_8,decide ((v0_8:Int)<(a0.length:Int)))))
abbrev qa(v:Nat):St:=⟨[(0,(.l 9 (a0.map AV.s))),(1,(.s a1)),(7,(I (a0.length:Int))),(8,(I (v:Int)))],[],H0⟩
abbrev qb(x:(Nat⊕(Nat×Bool))):aE×St:=match x with | .inl z1=>(.ret,⟨[(4,(I (z1:Int)))],[],H0⟩) | .inr (z1,z2)=>((.ex 0),⟨[(0,(.l 9 (a0.map AV.s))),(1,(.s a1)),(7,(I (a0.length:Int))),(8,(I (z1:Int))),(9,(.b z2))],[],H0⟩)
theorem pG(v0_8:Nat)(o:Nat⊕(Nat⊕(Nat×Bool)))(h:kV a0 a1 v0_8=some o):bF E0 F7 (qa a0 a1) (qb a0 a1) v0_8 o:=
 bP (.or (bt<|ao (.n v0_8)<|.ex fun (y2:(List UInt8))=>ao (.v (.s y2))<|oN (ao (.i ((v0_8+1:Nat):Int))<|.nil)) (bf<|.nil)) fun L=>bq h (fun h1 h=>ai (decide_eq_true h1)<|ai (rI v0_8)<|cu h fun y2 h3 h=>ai (cT AV.s h3)<|aA h (fun h4 h=>ai h4<|L h) (fun h4 h=>ai h4<|aY h fun w5 h=>ai w5<|L h)) (fun h1 h=>ai (decide_eq_false h1)<|L h)
abbrev rq(a0:(List (List UInt8)))(a1:(List UInt8))(r:Int):aW×HP:=(.ret (I r),H0)
def mr:Option Int:=
 (lp (fun v=>kV a0 a1 v) 0).bind fun (x1:(Nat⊕(Nat×Bool)))=>match x1 with
 | .inl ya_2=>
  some (ya_2:Int)
 | .inr yb_2=>
  some (-1)
theorem pH(r:Int)(h:mr a0 a1=some r):call G Ω0 E0 70 [(.l 9 (a0.map AV.s)),(.s a1)] H0=some (rq a0 a1 r):=
 aG Q7 (ao (.i (a0.length:Int))<|.or (.ex fun (ya_2:Nat)=>ao (.lp .ret ⟨[(4,(I (ya_2:Int)))],[],H0⟩)<|.nil) (.ex fun (yb_2:(Nat×Bool))=>ao (.lp (.ex 0) ⟨[(0,(.l 9 (a0.map AV.s))),(1,(.s a1)),(7,(I (a0.length:Int))),(8,(I (yb_2.1:Int))),(9,(.b yb_2.2))],[],H0⟩)<|.nil)) fun L=>ai (aK AV.s a0)<|bD h (e5 (pG a0 a1) 0) (fun ya_2 h=>L h) (fun yb_2 h=>L h)
abbrev pI(a0:(List (List UInt8)))(a1:(List UInt8))(r:Bool):aW×HP:=(.ret (.b r),H0)
def cN:Option Bool:=
 (mr a0 a1).bind fun (r1:Int)=>
 some (decide (0≤r1))
theorem oy(r:Bool)(h:cN a0 a1=some r):call G Ω0 E0 46 [(.l 9 (a0.map AV.s)),(.s a1)] H0=some (pI a0 a1 r):=
 aG QR (xI fun r1=>.nil) fun L=>ar h (pH a0 a1) fun r1 h=>L h
end
section
variable (a0:(List UInt8))(a1:Bool)
abbrev BO(a0:(List UInt8))(r:Bool):aW×HP:=(.ret (.b r),H0)
def ez:Option Bool:=
 (pE a0).bind fun (r1:Bool)=>
 if r1=true then
  (pF).bind fun (r4:(List (List UInt8)))=>
  (cN r4 a0).bind fun (r6:Bool)=>
  some (!r6)
 else
  some false
theorem fI(r:Bool)(h:ez a0=some r):call G Ω0 E0 23 [(.s a0)] H0=some (BO a0 r):=
 aG Qz (xB fun r1=>.or (bt<|.ex fun (r4:(List (List UInt8)))=>ao (.v (.l 9 (r4.map AV.s)))<|b9<|xB fun r6=>b9<|.nil) (C3<|.nil)) fun L=>ar h (vN a0) fun r1 h=>aA h (fun h3 h=>ai (g1 h3)<|ar h (vO) fun r4 h=>dG h3<|ar h (oy r4 a0) fun r6 h=>fX h3<|L h) (fun h3 h=>Ao h3<|L h)
abbrev AH(a0:(List UInt8))(a1:Bool)(r:Bool):aW×HP:=(.ret (.b r),H0)
def du:Option Bool:=
 if a1=true then
  (ez a0).bind fun (r2:Bool)=>
  if r2=true then
   some true
  else
   some false
 else
  some (a0==([]:List UInt8))
theorem dP(r:Bool)(h:du a0 a1=some r):call G Ω0 E0 24 [(.s a0),(.b a1)] H0=some (AH a0 a1 r):=
 aG QA (.or (b9<|xB fun r2=>bt<|.or (Aw<|.nil) (bt<|bt<|bt<|bf<|bf<|bt<|bf<|bf<|.nil)) (bf<|bf<|bf<|bt<|bt<|bt<|bt<|bt<|bt<|bt<|bf<|.nil)) fun L=>aA h (fun h1 h=>dG h1<|ar h (fI a0) fun r2 h=>ai h1<|aA h (fun h4 h=>Ap h4<|L h) (fun h4 h=>An h4<|dG (congrArg not h1)<|ai (g0 h4)<|ai (congrArg not h1)<|ai h4<|L h)) (fun h1 h=>ai (g1 h1)<|ai (g1 h1)<|ai h1<|ai hf<|ai hf<|ai hf<|ai (g1 (congrArg not h1))<|ai (g1 (congrArg not h1))<|ai hf<|ai (congrArg not h1)<|ai ff<|L h)
abbrev uQ(a0:(List UInt8))(r:Bool):aW×HP:=(.ret (.b r),H0)
def iY:Option Bool:=
 (ez a0).bind fun (r1:Bool)=>
 some (!r1)
theorem sU(r:Bool)(h:iY a0=some r):call G Ω0 E0 49 [(.s a0)] H0=some (uQ a0 r):=
 aG QU (xB fun r1=>.nil) fun L=>ar h (fI a0) fun r1 h=>L h
end
section
variable (a0:(List (List UInt8)))
def eI(v0_8:Nat):Option (Nat⊕(Nat⊕(Nat×Bool))):=
 if (v0_8:Int)<(a0.length:Int) then
  (a0[v0_8]?).bind fun (y2:(List UInt8))=>
  (iY y2).bind fun (r4:Bool)=>
  if r4=true then
   some (.inr (.inl v0_8))
  else
   if IntKind.i64.wrap ((v0_8:Int)+1)=((v0_8+1:Nat):Int) then
    some (.inl (v0_8+1))
   else none
 else
  some (.inr (.inr (v0_8,decide ((v0_8:Int)<(a0.length:Int)))))
abbrev jQ(v:Nat):St:=⟨[(0,(.l 9 (a0.map AV.s))),(1,(.f 49 [])),(7,(I (a0.length:Int))),(8,(I (v:Int)))],[],H0⟩
abbrev jR(x:(Nat⊕(Nat×Bool))):aE×St:=match x with | .inl z1=>(.ret,⟨[(4,(I (z1:Int)))],[],H0⟩) | .inr (z1,z2)=>((.ex 0),⟨[(0,(.l 9 (a0.map AV.s))),(1,(.f 49 [])),(7,(I (a0.length:Int))),(8,(I (z1:Int))),(9,(.b z2))],[],H0⟩)
theorem jJ(v0_8:Nat)(o:Nat⊕(Nat⊕(Nat×Bool)))(h:eI a0 v0_8=some o):bF E0 CM (jQ a0) (jR a0) v0_8 o:=
 bP (.or (bt<|ao (.n v0_8)<|.ex fun (y2:(List UInt8))=>ao (.v (.s y2))<|xB fun r4=>oN (ao (.i ((v0_8+1:Nat):Int))<|.nil)) (bf<|.nil)) fun L=>bq h (fun h1 h=>ai (decide_eq_true h1)<|ai (rI v0_8)<|cu h fun y2 h3 h=>ai (cT AV.s h3)<|ar h (sU y2) fun r4 h=>aA h (fun h6 h=>ai h6<|L h) (fun h6 h=>ai h6<|aY h fun w7 h=>ai w7<|L h)) (fun h1 h=>ai (decide_eq_false h1)<|L h)
abbrev k9(a0:(List (List UInt8)))(r:Int):aW×HP:=(.ret (I r),H0)
def e7:Option Int:=
 (lp (fun v=>eI a0 v) 0).bind fun (x1:(Nat⊕(Nat×Bool)))=>match x1 with
 | .inl ya_2=>
  some (ya_2:Int)
 | .inr yb_2=>
  some (-1)
theorem jK(r:Int)(h:e7 a0=some r):call G Ω0 E0 52 [(.l 9 (a0.map AV.s)),(.f 49 [])] H0=some (k9 a0 r):=
 aG PD (ao (.i (a0.length:Int))<|.or (.ex fun (ya_2:Nat)=>ao (.lp .ret ⟨[(4,(I (ya_2:Int)))],[],H0⟩)<|.nil) (.ex fun (yb_2:(Nat×Bool))=>ao (.lp (.ex 0) ⟨[(0,(.l 9 (a0.map AV.s))),(1,(.f 49 [])),(7,(I (a0.length:Int))),(8,(I (yb_2.1:Int))),(9,(.b yb_2.2))],[],H0⟩)<|.nil)) fun L=>ai (aK AV.s a0)<|bD h (e5 (jJ a0) 0) (fun ya_2 h=>L h) (fun yb_2 h=>L h)
abbrev jL(a0:(List (List UInt8)))(r:Bool):aW×HP:=(.ret (.b r),H0)
def cL:Option Bool:=
 (e7 a0).bind fun (r1:Int)=>
 some (decide (0≤r1))
theorem iZ(r:Bool)(h:cL a0=some r):call G Ω0 E0 27 [(.l 9 (a0.map AV.s)),(.f 49 [])] H0=some (jL a0 r):=
 aG PB (xI fun r1=>.nil) fun L=>ar h (jK a0) fun r1 h=>L h
end
section
variable (a0:aS)
abbrev xm(a0:aS)(r:Bool):aW×HP:=(.ret (.b r),H0)
def kr:Option Bool:=
 (ez a0.Owner).bind fun (r1:Bool)=>
 if r1=true then
  (cL a0.Names).bind fun (r4:Bool)=>
  some r4
 else
  some true
theorem uh(r:Bool)(h:kr a0=some r):call G Ω0 E0 48 [(.a (fu a0))] H0=some (xm a0 r):=
 aG QT (bt<|xB fun r1=>.or (cJ<|xB fun r4=>bf<|.nil) (C1<|.nil)) fun L=>oS<|ar h (fI a0.Owner) fun r1 h=>aA h (fun h3 h=>rh (congrArg not h3)<|ar h (iZ a0.Names) fun r4 h=>ai (congrArg not h3)<|L h) (fun h3 h=>Gg (congrArg not h3)<|L h)
end
section
variable (a0:(List aS))
def e8(v0_8:Nat):Option (Nat⊕(Nat⊕(Nat×Bool))):=
 if (v0_8:Int)<(a0.length:Int) then
  (a0[v0_8]?).bind fun (y2:aS)=>
  (kr y2).bind fun (r4:Bool)=>
  if r4=true then
   some (.inr (.inl v0_8))
  else
   if IntKind.i64.wrap ((v0_8:Int)+1)=((v0_8+1:Nat):Int) then
    some (.inl (v0_8+1))
   else none
 else
  some (.inr (.inr (v0_8,decide ((v0_8:Int)<(a0.length:Int)))))
abbrev lb(v:Nat):St:=⟨[(0,(.l 56 (a0.map aL))),(1,(.f 48 [])),(7,(I (a0.length:Int))),(8,(I (v:Int)))],[],H0⟩
abbrev lf(x:(Nat⊕(Nat×Bool))):aE×St:=match x with | .inl z1=>(.ret,⟨[(4,(I (z1:Int)))],[],H0⟩) | .inr (z1,z2)=>((.ex 0),⟨[(0,(.l 56 (a0.map aL))),(1,(.f 48 [])),(7,(I (a0.length:Int))),(8,(I (z1:Int))),(9,(.b z2))],[],H0⟩)
theorem kt(v0_8:Nat)(o:Nat⊕(Nat⊕(Nat×Bool)))(h:e8 a0 v0_8=some o):bF E0 CL (lb a0) (lf a0) v0_8 o:=
 bP (.or (bt<|ao (.n v0_8)<|.ex fun (y2:aS)=>ao (.v (.a (fu y2)))<|xB fun r4=>oN (ao (.i ((v0_8+1:Nat):Int))<|.nil)) (bf<|.nil)) fun L=>bq h (fun h1 h=>ai (decide_eq_true h1)<|ai (rI v0_8)<|cu h fun y2 h3 h=>ai (cT aL h3)<|ar h (uh y2) fun r4 h=>aA h (fun h6 h=>ai h6<|L h) (fun h6 h=>ai h6<|aY h fun w7 h=>ai w7<|L h)) (fun h1 h=>ai (decide_eq_false h1)<|L h)
abbrev mh(a0:(List aS))(r:Int):aW×HP:=(.ret (I r),H0)
def ga:Option Int:=
 (lp (fun v=>e8 a0 v) 0).bind fun (x1:(Nat⊕(Nat×Bool)))=>match x1 with
 | .inl ya_2=>
  some (ya_2:Int)
 | .inr yb_2=>
  some (-1)
theorem ku(r:Int)(h:ga a0=some r):call G Ω0 E0 42 [(.l 56 (a0.map aL)),(.f 48 [])] H0=some (mh a0 r):=
 aG PC (ao (.i (a0.length:Int))<|.or (.ex fun (ya_2:Nat)=>ao (.lp .ret ⟨[(4,(I (ya_2:Int)))],[],H0⟩)<|.nil) (.ex fun (yb_2:(Nat×Bool))=>ao (.lp (.ex 0) ⟨[(0,(.l 56 (a0.map aL))),(1,(.f 48 [])),(7,(I (a0.length:Int))),(8,(I (yb_2.1:Int))),(9,(.b yb_2.2))],[],H0⟩)<|.nil)) fun L=>ai (aK aL a0)<|bD h (e5 (kt a0) 0) (fun ya_2 h=>L h) (fun yb_2 h=>L h)
abbrev kv(a0:(List aS))(r:Bool):aW×HP:=(.ret (.b r),H0)
def cX:Option Bool:=
 (ga a0).bind fun (r1:Int)=>
 some (decide (0≤r1))
theorem js(r:Bool)(h:cX a0=some r):call G Ω0 E0 18 [(.l 56 (a0.map aL)),(.f 48 [])] H0=some (kv a0 r):=
 aG PA (xI fun r1=>.nil) fun L=>ar h (ku a0) fun r1 h=>L h
abbrev AI(a0:(List aS))(r:Bool):aW×HP:=(.ret (.b r),H0)
def jS:Option Bool:=
 (cX a0).bind fun (r1:Bool)=>
 some (!r1)
theorem qo(r:Bool)(h:jS a0=some r):call G Ω0 E0 25 [(.l 56 (a0.map aL))] H0=some (AI a0 r):=
 aG QB (xB fun r1=>.nil) fun L=>ar h (js a0) fun r1 h=>L h
end
section
variable (a0:(List ad))
abbrev lg(a0:(List ad))(r:Bool):aW×HP:=(.ret (.b r),H0)
abbrev e9(r:Bool):Prop:=call G Ω0 E0 43 [(.l 34 (a0.map aj)),(.f 71 [])] H0=some (lg a0 r)
abbrev mB(a0:(List ad))(r:Int):aW×HP:=(.ret (I r),H0)
abbrev gw(r:Int):Prop:=call G Ω0 E0 68 [(.l 34 (a0.map aj)),(.f 71 [])] H0=some (mB a0 r)
end
section
variable (a0:ad)
abbrev BP(a0:ad)(r:Bool):aW×HP:=(.ret (.b r),H0)
abbrev q1(r:Bool):Prop:=call G Ω0 E0 50 [(.a (aT a0))] H0=some (BP a0 r)
abbrev zm(a0:ad)(r:Bool):aW×HP:=(.ret (.b r),H0)
abbrev sI(r:Bool):Prop:=call G Ω0 E0 71 [(.a (aT a0))] H0=some (zm a0 r)
end
structure aH where
 f_slices_ContainsFunc__tree_expr_1:(List ad)→Option Bool
 f_slices_IndexFunc__tree_expr_1:(List ad)→Option Int
 f_tree_expr:ad→Option Bool
 f_tree_expr_1:ad→Option Bool
structure au(R:aH):Prop where
 f_slices_ContainsFunc__tree_expr_1:∀ (a0:(List ad))(r:Bool),R.f_slices_ContainsFunc__tree_expr_1 a0=some r→e9 a0 r
 f_slices_IndexFunc__tree_expr_1:∀ (a0:(List ad))(r:Int),R.f_slices_IndexFunc__tree_expr_1 a0=some r→gw a0 r
 f_tree_expr:∀ (a0:ad)(r:Bool),R.f_tree_expr a0=some r→q1 a0 r
 f_tree_expr_1:∀ (a0:ad)(r:Bool),R.f_tree_expr_1 a0=some r→sI a0 r
section
variable (R:aH)(a0:(List ad))
def eU:Option Bool:=
 (R.f_slices_IndexFunc__tree_expr_1 a0).bind fun (r1:Int)=>
 some (decide (0≤r1))
theorem jt(hR:au R)(a0:(List ad))(r:Bool)(h:eU R a0=some r):e9 a0 r:=
 aG IA (xI fun r1=>.nil) fun L=>ar h (hR.f_slices_IndexFunc__tree_expr_1 a0) fun r1 h=>L h
def fw(v0_8:Nat):Option (Nat⊕(Nat⊕(Nat×Bool))):=
 if (v0_8:Int)<(a0.length:Int) then
  (a0[v0_8]?).bind fun (y2:ad)=>
  (R.f_tree_expr_1 y2).bind fun (r4:Bool)=>
  if r4=true then
   some (.inr (.inl v0_8))
  else
   if IntKind.i64.wrap ((v0_8:Int)+1)=((v0_8+1:Nat):Int) then
    some (.inl (v0_8+1))
   else none
 else
  some (.inr (.inr (v0_8,decide ((v0_8:Int)<(a0.length:Int)))))
abbrev lN(v:Nat):St:=⟨[(0,(.l 34 (a0.map aj))),(1,(.f 71 [])),(7,(I (a0.length:Int))),(8,(I (v:Int)))],[],H0⟩
abbrev lO(x:(Nat⊕(Nat×Bool))):aE×St:=match x with | .inl z1=>(.ret,⟨[(4,(I (z1:Int)))],[],H0⟩) | .inr (z1,z2)=>((.ex 0),⟨[(0,(.l 34 (a0.map aj))),(1,(.f 71 [])),(7,(I (a0.length:Int))),(8,(I (z1:Int))),(9,(.b z2))],[],H0⟩)
theorem lh(hR:au R)(a0:(List ad))(v0_8:Nat)(o:Nat⊕(Nat⊕(Nat×Bool)))(h:fw R a0 v0_8=some o):bF E0 zV (lN a0) (lO a0) v0_8 o:=
 bP (.or (bt<|ao (.n v0_8)<|.ex fun (y2:ad)=>ao (.v (.a (aT y2)))<|xB fun r4=>oN (ao (.i ((v0_8+1:Nat):Int))<|.nil)) (bf<|.nil)) fun L=>bq h (fun h1 h=>ai (decide_eq_true h1)<|ai (rI v0_8)<|cu h fun y2 h3 h=>ai (ej aj h3 (cD _))<|ar h (hR.f_tree_expr_1 y2) fun r4 h=>aA h (fun h6 h=>ai h6<|L h) (fun h6 h=>ai h6<|aY h fun w7 h=>ai w7<|L h)) (fun h1 h=>ai (decide_eq_false h1)<|L h)
def gb:Option Int:=
 (lp (fun v=>fw R a0 v) 0).bind fun (x1:(Nat⊕(Nat×Bool)))=>match x1 with
 | .inl ya_2=>
  some (ya_2:Int)
 | .inr yb_2=>
  some (-1)
theorem kx(hR:au R)(a0:(List ad))(r:Int)(h:gb R a0=some r):gw a0 r:=
 aG IB (ao (.i (a0.length:Int))<|.or (.ex fun (ya_2:Nat)=>ao (.lp .ret ⟨[(4,(I (ya_2:Int)))],[],H0⟩)<|.nil) (.ex fun (yb_2:(Nat×Bool))=>ao (.lp (.ex 0) ⟨[(0,(.l 34 (a0.map aj))),(1,(.f 71 [])),(7,(I (a0.length:Int))),(8,(I (yb_2.1:Int))),(9,(.b yb_2.2))],[],H0⟩)<|.nil)) fun L=>ai (aK aj a0)<|bD h (e5 (lh R hR a0) 0) (fun ya_2 h=>L h) (fun yb_2 h=>L h)
def xn:List bU:=(gF 17 4 1)::(gQ 18 17)::(gp 19 (.ln false 18))::(gM 20 3)::(gB 21 .neq 19 20)::(gM 22 21)::⟨some 23,.fa 0 1,some ⟨22,false⟩,false⟩::⟨some 24,.ld none 23,some ⟨22,false⟩,false⟩::⟨some 25,.bo .neq false 24 (kI 1),some ⟨22,false⟩,false⟩::⟨some 26,.mv 25,some ⟨22,false⟩,false⟩::⟨some 27,.fa 2 1,some ⟨26,true⟩,false⟩::⟨some 28,.ld none 27,some ⟨26,true⟩,false⟩::⟨some 29,.bo .neq false 28 (kI 0),some ⟨26,true⟩,false⟩::⟨some 30,.pk 26 29 (.c (.b false)),some ⟨22,false⟩,false⟩::(gp 31 (.pk 22 (.c (.b true)) 30))::(gM 32 31)::⟨some 33,.fa 0 1,some ⟨32,false⟩,false⟩::⟨some 34,.ld none 33,some ⟨32,false⟩,false⟩::⟨some 35,.bo .eql false 34 (kI 2),some ⟨32,false⟩,false⟩::⟨some 36,.fa 3 1,some ⟨32,false⟩,false⟩::⟨some 37,.ld none 36,some ⟨32,false⟩,false⟩::⟨some 38,.bo .neq false 37 (.c (.s [])),some ⟨32,false⟩,false⟩::⟨some 39,.bo .neq true 35 38,some ⟨32,false⟩,false⟩::(gp 40 (.pk 32 (.c (.b true)) 39))::[]
end
section
variable (R:aH)(a0:ad)(a1:Bool)
def nL(R:aH)(a0:ad)(w0_1:Nat):Option Bool:=
 if ((a0.Args.length:Int) !=(w0_1:Int))=true then
  some true
 else
  if (a0.Kind !=1)=true then
   if (a0.N !=0)=true then
    some true
   else
    some (!((a0.Kind==2)==(!(a0.Name==([]:List UInt8)))))
  else
   some (!((a0.Kind==2)==(!(a0.Name==([]:List UInt8)))))
abbrev xp(w0_1:Nat)(x:Bool):St:=⟨[(1,(.p ⟨0,1⟩ 0)),(40,(.b x))],[(1,(aT a0))],H0⟩
theorem vP(hR:au R)(a0:ad)(w0_1:Nat)(x:Bool)(h:nL R a0 w0_1=some x):dx G Ω0 E0 [1,40] [1] xn ⟨[(1,(.p ⟨0,1⟩ 0)),(3,(I (w0_1:Int)))],[(1,(aT a0))],H0⟩=some (xp a0 w0_1 x):=
 cC (bt<|ao (.i (a0.Args.length:Int))<|.or (bf<|bf<|bf<|bf<|bf<|bt<|bf<|bf<|bf<|bf<|bf<|bf<|bf<|bt<|.nil) (kS<|.or (ET<|.or (bf<|bf<|bf<|bf<|bf<|bf<|bf<|bt<|.nil) (bt<|bt<|bt<|bt<|bt<|bt<|bt<|bt<|bt<|bf<|.nil)) (bf<|bf<|bf<|bt<|bf<|bf<|bt<|bt<|bt<|bt<|bt<|bt<|bt<|bt<|bt<|bf<|.nil))) fun L=>ai (rfl:Z0)<|ai (aK aj a0.Args)<|aA h (fun h4 h=>ai (g0 h4)<|ai (g0 h4)<|ai (g0 h4)<|ai (g0 h4)<|ai (g0 h4)<|ai h4<|ai ht<|ai ht<|ai ht<|ai ht<|ai ht<|ai ht<|ai ht<|ai tt<|L h) (fun h4 h=>Aq h4<|aA h (fun h5 h=>ek h5<|ai (g0 h4)<|ai h5<|ai h4<|aA h (fun h6 h=>ai (g0 h6)<|ai (g0 h6)<|ai (g0 h6)<|ai (g0 h6)<|ai (g0 h6)<|ai (g0 h6)<|ai (g0 h6)<|ai h6<|L h) (fun h6 h=>ai (g0 h6)<|ai (g0 h6)<|ai (rfl:Z0)<|ai (g0 h6)<|ai (g0 h6)<|ai (g0 h6)<|ai (rfl:Z0)<|ai (g0 h6)<|ai (g0 h6)<|ai h6<|L h)) (fun h5 h=>rV h5<|ai (g0 h4)<|ai h5<|ai h4<|ai hf<|ai hf<|ai (rfl:Z0)<|ai hf<|ai hf<|ai hf<|ai (rfl:Z0)<|ai hf<|ai hf<|ai ff<|L h))
def xq:List bU:=(gF 41 0 1)::(gQ 42 41)::(gB 43 .eql 42 (kI 2))::(gM 44 43)::⟨some 45,.fa 3 1,some ⟨44,true⟩,false⟩::⟨some 46,.ld none 45,some ⟨44,true⟩,false⟩::⟨some 47,.ca 0 23 [46],some ⟨44,true⟩,false⟩::⟨some 48,.no 47,some ⟨44,true⟩,false⟩::(gp 49 (.pk 44 48 (.c (.b false))))::(gM 50 49)::⟨some 51,.fa 2 1,some ⟨50,false⟩,false⟩::⟨some 52,.ld none 51,some ⟨50,false⟩,false⟩::⟨some 53,.bo .lss false 52 (kI (-9999999)),some ⟨50,false⟩,false⟩::(gp 54 (.pk 50 (.c (.b true)) 53))::(gM 55 54)::⟨some 56,.fa 2 1,some ⟨55,false⟩,false⟩::⟨some 57,.ld none 56,some ⟨55,false⟩,false⟩::⟨some 58,.bo .gtr false 57 (kI 9999999),some ⟨55,false⟩,false⟩::(gp 59 (.pk 55 (.c (.b true)) 58))::[]
def nM(R:aH)(a0:ad):Option Bool:=
 if (a0.Kind==2)=true then
  (ez a0.Name).bind fun (r8:Bool)=>
  if r8=true then
   if a0.N < -9999999 then
    some true
   else
    some (decide (9999999<a0.N))
  else
   some true
 else
  if a0.N < -9999999 then
   some true
  else
   some (decide (9999999<a0.N))
abbrev xr(x:Bool):St:=⟨[(1,(.p ⟨0,1⟩ 0)),(59,(.b x))],[(1,(aT a0))],H0⟩
theorem vQ(hR:au R)(a0:ad)(x:Bool)(h:nM R a0=some x):dx G Ω0 E0 [1,59] [1] xq ⟨[(1,(.p ⟨0,1⟩ 0))],[(1,(aT a0))],H0⟩=some (xr a0 x):=
 cC (bt<|.or (cJ<|xB fun r8=>b9<|.or (uy<|.or (C1<|.nil) (uy<|.nil)) (bf<|bf<|bf<|bt<|bf<|bf<|bf<|bt<|.nil)) (bf<|bf<|bf<|bf<|bf<|bt<|bt<|bt<|bt<|bf<|.or (C1<|.nil) (uy<|.nil))) fun L=>ai (rfl:Z0)<|aA h (fun h7 h=>ek h7<|ar h (fI a0.Name) fun r8 h=>fX h7<|aA h (fun h10 h=>wW (congrArg not h10)<|bq h (fun h11 h=>Gg (decide_eq_true h11)<|L h) (fun h11 h=>wW (decide_eq_false h11)<|L h)) (fun h10 h=>ai (g0 (congrArg not h10))<|ai (g0 (congrArg not h10))<|ai (g0 (congrArg not h10))<|ai (congrArg not h10)<|ai ht<|ai ht<|ai ht<|ai tt<|L h)) (fun h7 h=>ai (g1 h7)<|ai (g1 h7)<|ai (g1 h7)<|ai (g1 h7)<|ai h7<|ai hf<|ai hf<|ai (rfl:Z0)<|ai hf<|ai ff<|bq h (fun h8 h=>Gg (decide_eq_true h8)<|L h) (fun h8 h=>wW (decide_eq_false h8)<|L h))
def ky(w0_1:Nat):Option Bool:=
 (nL R a0 w0_1).bind fun (x4:Bool)=>
 if x4=true then
  some false
 else
  (nM R a0).bind fun (x7:Bool)=>
  if x7=true then
   some false
  else
   (R.f_slices_ContainsFunc__tree_expr_1 a0.Args).bind fun (r10:Bool)=>
   some (!r10)
abbrev xt(a0:ad)(w0_1:Nat)(x:Bool):aE×St:=(.ret,⟨[(2,(.b x))],[],H0⟩)
theorem qp(hR:au R)(a0:ad)(w0_1:Nat)(x:Bool)(h:ky R a0 w0_1=some x):run G Ω0 E0 F4 ⟨[(1,(.p ⟨0,1⟩ 0)),(3,(I (w0_1:Int)))],[(1,(aT a0))],H0⟩=some (xt a0 w0_1 x):=
 lX (.jb (some 17) 23<|.ex fun (x4:Bool)=>ao (.jn ⟨[(1,(.p ⟨0,1⟩ 0)),(40,(.b x4))],[(1,(aT a0))],H0⟩)<|oN (.jb (some 41) 18<|.ex fun (x7:Bool)=>ao (.jn ⟨[(1,(.p ⟨0,1⟩ 0)),(59,(.b x7))],[(1,(aT a0))],H0⟩)<|oN (bt<|xB fun r10=>.nil))) fun L=>ar h (vP R hR a0 w0_1) fun x4 h=>aA h (fun h6 h=>ai h6<|L h) (fun h6 h=>ai h6<|ar h (vQ R hR a0) fun x7 h=>aA h (fun h9 h=>ai h9<|L h) (fun h9 h=>lK h9<|ar h (hR.f_slices_ContainsFunc__tree_expr_1 a0.Args) fun r10 h=>L h))
def mV:Option Bool:=
 if a0.Kind<1 then
  some false
 else
  if 7<a0.Kind then
   some false
  else
   if 2<a0.Kind then
    (ky R a0 2).bind fun (x4:Bool)=>
    some x4
   else
    (ky R a0 0).bind fun (x4:Bool)=>
    some x4
theorem vR(hR:au R)(a0:ad)(r:Bool)(h:mV R a0=some r):q1 a0 r:=
 aG QV (bt<|.or (bf<|bf<|bf<|bt<|bt<|.nil) (uy<|oN (bt<|.or (bt<|.fb<|.ex fun (x4:Bool)=>ao (.fr .ret ⟨[(2,(.b x4))],[],H0⟩)<|.nil) (bf<|.fb<|.ex fun (x4:Bool)=>ao (.fr .ret ⟨[(2,(.b x4))],[],H0⟩)<|.nil)))) fun L=>oS<|bq h (fun h1 h=>ai (g0 (decide_eq_true h1))<|ai (g0 (decide_eq_true h1))<|ai (g0 (decide_eq_true h1))<|ai (decide_eq_true h1)<|ai tt<|L h) (fun h1 h=>wW (decide_eq_false h1)<|bq h (fun h2 h=>ai (decide_eq_true h2)<|L h) (fun h2 h=>lK (decide_eq_false h2)<|bq h (fun h3 h=>ai (decide_eq_true h3)<|ar h (qp R hR a0 2) fun x4 h=>L h) (fun h3 h=>ai (decide_eq_false h3)<|ar h (qp R hR a0 0) fun x4 h=>L h)))
def kz:Option Bool:=
 (R.f_tree_expr a0).bind fun (r1:Bool)=>
 some (!r1)
theorem ui(hR:au R)(a0:ad)(r:Bool)(h:kz R a0=some r):sI a0 r:=
 aG Q8 (bt<|xB fun r1=>.nil) fun L=>oS<|ar h (hR.f_tree_expr a0) fun r1 h=>L h
def ah:Nat→aH
 | 0=>⟨fun z0=>none,fun z0=>none,fun z0=>none,fun z0=>none⟩
 | n+1=>⟨eU (ah n),gb (ah n),mV (ah n),kz (ah n)⟩
theorem aQ:∀ n,au (ah n)
 | 0=>⟨fun _ r h=>(by cases h),fun _ r h=>(by cases h),fun _ r h=>(by cases h),fun _ r h=>(by cases h)⟩
 | n+1=>⟨fun a0 r h=>jt _ (aQ n) a0 r h,fun a0 r h=>kx _ (aQ n) a0 r h,fun a0 r h=>vR _ (aQ n) a0 r h,fun a0 r h=>ui _ (aQ n) a0 r h⟩
def n9:Option Bool:=ev fun n=>(ah n).f_tree_expr a0
theorem rr(r:Bool)(h:n9 a0=some r):q1 a0 r:=by
 obtain ⟨n,hn⟩:=mq h
 exact (aQ n).f_tree_expr a0 r hn
def ru:List bU:=(gA 2 21)::[]
def fJ(a0:ad)(u2_1:Bool):Option Bool:=
 some u2_1
abbrev xu(a0:ad)(u2_1:Bool)(x:Bool):St:=⟨[(2,(.b x))],[],H0⟩
theorem jA(u2_1:Bool)(w:List AV)(x:Bool)(h:fJ a0 u2_1=some x):dx G Ω0 E0 [2] [] ru ⟨[(21,(.b u2_1)),(20,(W w 0)),(19,(W w 1)),(18,(W w 2)),(17,(W w 3)),(16,(W w 4)),(15,(W w 5)),(14,(W w 6)),(13,(W w 7)),(12,(W w 8)),(11,(W w 9)),(10,(W w 10)),(9,(W w 11)),(8,(W w 12)),(7,(W w 13)),(6,(.b (a0.Kind==0))),(5,(.b (a0.Kind==0))),(4,(I a0.Kind)),(3,(.p ⟨0,1⟩ 0)),(1,(.p ⟨0,1⟩ 0))],[(1,(aT a0))],H0⟩=some (xu a0 u2_1 x):=
 cC (.nil) fun L=>L h
def xv:List bU:=(gF 3 0 1)::(gQ 4 3)::(gB 5 .eql 4 (kI 0))::(gM 6 5)::⟨some 7,.fa 2 1,some ⟨6,true⟩,false⟩::⟨some 8,.ld none 7,some ⟨6,true⟩,false⟩::⟨some 9,.bo .eql false 8 (kI 0),some ⟨6,true⟩,false⟩::(gp 10 (.pk 6 9 (.c (.b false))))::(gM 11 10)::⟨some 12,.fa 3 1,some ⟨11,true⟩,false⟩::⟨some 13,.ld none 12,some ⟨11,true⟩,false⟩::⟨some 14,.bo .eql false 13 (.c (.s [])),some ⟨11,true⟩,false⟩::(gp 15 (.pk 11 14 (.c (.b false))))::(gM 16 15)::⟨some 17,.fa 4 1,some ⟨16,true⟩,false⟩::⟨some 18,.ld none 17,some ⟨16,true⟩,false⟩::⟨some 19,.ln false 18,some ⟨16,true⟩,false⟩::⟨some 20,.bo .eql false 19 (kI 0),some ⟨16,true⟩,false⟩::(gp 21 (.pk 16 20 (.c (.b false))))::ru
def nN:Option Bool:=
 if (a0.Kind==0)=true then
  if (a0.N==0)=true then
   if (a0.Name==([]:List UInt8))=true then
    (fJ a0 ((a0.Args.length:Int)==0)).bind fun (x4:Bool)=>
    some x4
   else
    (fJ a0 false).bind fun (x4:Bool)=>
    some x4
  else
   (fJ a0 false).bind fun (x3:Bool)=>
   some x3
 else
  (fJ a0 false).bind fun (x2:Bool)=>
  some x2
abbrev xx(a0:ad)(x:Bool):St:=⟨[(2,(.b x))],[],H0⟩
theorem vS(x:Bool)(h:nN a0=some x):dx G Ω0 E0 [2] [] xv ⟨[(1,(.p ⟨0,1⟩ 0))],[(1,(aT a0))],H0⟩=some (xx a0 x):=
 cC (bt<|.or (kS<|.or (kS<|.or (cJ<|ao (.i (a0.Args.length:Int))<|b9<|.jb (some 2) 0<|.ex fun (x4:Bool)=>ao (.jn ⟨[(2,(.b x4))],[],H0⟩)<|.nil) (C3<|.jb (some 2) 0<|.ex fun (x4:Bool)=>ao (.jn ⟨[(2,(.b x4))],[],H0⟩)<|.nil)) (Ax<|.jb (some 2) 0<|.ex fun (x3:Bool)=>ao (.jn ⟨[(2,(.b x3))],[],H0⟩)<|.nil)) (Av<|.jb (some 2) 0<|.ex fun (x2:Bool)=>ao (.jn ⟨[(2,(.b x2))],[],H0⟩)<|.nil)) fun L=>ai (rfl:Z0)<|aA h (fun h1 h=>wX h1<|aA h (fun h2 h=>wX h2<|aA h (fun h3 h=>ek h3<|ai (aK aj a0.Args)<|fX h3<|ar h (jA a0 ((a0.Args.length:Int)==0) [(.b ((a0.Args.length:Int)==0)),(I (a0.Args.length:Int)),(.l 34 (a0.Args.map aj)),(.p ⟨0,1⟩ 4),(.b (a0.Name==([]:List UInt8))),(.b (a0.Name==([]:List UInt8))),(.b (a0.Name==([]:List UInt8))),(.s a0.Name),(.p ⟨0,1⟩ 3),(.b (a0.N==0)),(.b (a0.N==0)),(.b (a0.N==0)),(I a0.N),(.p ⟨0,1⟩ 2)]) fun x4 h=>L h) (fun h3 h=>Ao h3<|ar h (jA a0 false [.sk,.sk,.sk,.sk,(.b (a0.Name==([]:List UInt8))),(.b (a0.Name==([]:List UInt8))),(.b (a0.Name==([]:List UInt8))),(.s a0.Name),(.p ⟨0,1⟩ 3),(.b (a0.N==0)),(.b (a0.N==0)),(.b (a0.N==0)),(I a0.N),(.p ⟨0,1⟩ 2)]) fun x4 h=>L h)) (fun h2 h=>ai (g1 h2)<|ai (g1 h2)<|ai (g1 h2)<|ai h2<|ai gf<|ai gf<|ai gf<|ai gf<|ai ff<|ar h (jA a0 false [.sk,.sk,.sk,.sk,(.b false),(.b false),.sk,.sk,.sk,(.b (a0.N==0)),(.b (a0.N==0)),(.b (a0.N==0)),(I a0.N),(.p ⟨0,1⟩ 2)]) fun x3 h=>L h)) (fun h1 h=>ai (g1 h1)<|ai (g1 h1)<|ai (g1 h1)<|ai h1<|ai gf<|ai gf<|ai gf<|ai ff<|ai gf<|ai gf<|ai gf<|ai gf<|ai ff<|ar h (jA a0 false [.sk,.sk,.sk,.sk,(.b false),(.b false),.sk,.sk,.sk,(.b false),(.b false),.sk,.sk,.sk]) fun x2 h=>L h)
abbrev BQ(a0:ad)(r:Bool):aW×HP:=(.ret (.b r),H0)
def oa:Option Bool:=
 (nN a0).bind fun (x1:Bool)=>
 some x1
theorem xy(r:Bool)(h:oa a0=some r):call G Ω0 E0 51 [(.a (aT a0))] H0=some (BQ a0 r):=
 aG QW (.jb (some 3) 19<|.ex fun (x1:Bool)=>ao (.jn ⟨[(2,(.b x1))],[],H0⟩)<|.nil) fun L=>ai tt<|ar h (vS a0) fun x1 h=>L h
abbrev C8(a0:ad)(a1:Bool)(r:Bool):aW×HP:=(.ret (.b r),H0)
def cY:Option Bool:=
 if a1=true then
  (n9 a0).bind fun (r2:Bool)=>
  if r2=true then
   some true
  else
   some false
 else
  (oa a0).bind fun (r2:Bool)=>
  some r2
theorem cQ(r:Bool)(h:cY a0 a1=some r):call G Ω0 E0 26 [(.a (aT a0)),(.b a1)] H0=some (C8 a0 a1 r):=
 aG QC (.or (gu<|xB fun r2=>bt<|.or (Aw<|.nil) (bt<|bt<|bt<|bf<|bf<|bt<|bf<|bf<|.nil)) (I0<|xB fun r2=>ux<|.nil)) fun L=>ai tt<|aA h (fun h1 h=>ai (g1 h1)<|ai (rfl:Z0)<|ai (g1 h1)<|ar h (rr a0) fun r2 h=>ai h1<|aA h (fun h4 h=>Ap h4<|L h) (fun h4 h=>An h4<|dG (congrArg not h1)<|ai (g0 h4)<|ai (congrArg not h1)<|ai h4<|L h)) (fun h1 h=>ai (g1 h1)<|ai (g1 h1)<|ai h1<|ai hf<|ai hf<|ai hf<|ai (g1 (congrArg not h1))<|ai (rfl:Z0)<|ai (g1 (congrArg not h1))<|ar h (xy a0) fun r2 h=>ai hf<|ai (congrArg not h1)<|ai ff<|L h)
end
section
variable (a0:(List UInt8))
abbrev zn(a0:(List UInt8))(r:Bool):aW×HP:=(.ret (.b r),H0)
def lZ:Option Bool:=
 (ez a0).bind fun (r1:Bool)=>
 some (!r1)
theorem uR(r:Bool)(h:lZ a0=some r):call G Ω0 E0 28 [(.s a0)] H0=some (zn a0 r):=
 aG QD (xB fun r1=>.nil) fun L=>ar h (fI a0) fun r1 h=>L h
end
section
variable (a0:(List (List UInt8)))
def fx(v0_8:Nat):Option (Nat⊕(Nat⊕(Nat×Bool))):=
 if (v0_8:Int)<(a0.length:Int) then
  (a0[v0_8]?).bind fun (y2:(List UInt8))=>
  (lZ y2).bind fun (r4:Bool)=>
  if r4=true then
   some (.inr (.inl v0_8))
  else
   if IntKind.i64.wrap ((v0_8:Int)+1)=((v0_8+1:Nat):Int) then
    some (.inl (v0_8+1))
   else none
 else
  some (.inr (.inr (v0_8,decide ((v0_8:Int)<(a0.length:Int)))))
abbrev lP(v:Nat):St:=⟨[(0,(.l 9 (a0.map AV.s))),(1,(.f 28 [])),(7,(I (a0.length:Int))),(8,(I (v:Int)))],[],H0⟩
abbrev lQ(x:(Nat⊕(Nat×Bool))):aE×St:=match x with | .inl z1=>(.ret,⟨[(4,(I (z1:Int)))],[],H0⟩) | .inr (z1,z2)=>((.ex 0),⟨[(0,(.l 9 (a0.map AV.s))),(1,(.f 28 [])),(7,(I (a0.length:Int))),(8,(I (z1:Int))),(9,(.b z2))],[],H0⟩)
theorem lj(v0_8:Nat)(o:Nat⊕(Nat⊕(Nat×Bool)))(h:fx a0 v0_8=some o):bF E0 CM (lP a0) (lQ a0) v0_8 o:=
 bP (.or (bt<|ao (.n v0_8)<|.ex fun (y2:(List UInt8))=>ao (.v (.s y2))<|xB fun r4=>oN (ao (.i ((v0_8+1:Nat):Int))<|.nil)) (bf<|.nil)) fun L=>bq h (fun h1 h=>ai (decide_eq_true h1)<|ai (rI v0_8)<|cu h fun y2 h3 h=>ai (cT AV.s h3)<|ar h (uR y2) fun r4 h=>aA h (fun h6 h=>ai h6<|L h) (fun h6 h=>ai h6<|aY h fun w7 h=>ai w7<|L h)) (fun h1 h=>ai (decide_eq_false h1)<|L h)
abbrev mC(a0:(List (List UInt8)))(r:Int):aW×HP:=(.ret (I r),H0)
def gx:Option Int:=
 (lp (fun v=>fx a0 v) 0).bind fun (x1:(Nat⊕(Nat×Bool)))=>match x1 with
 | .inl ya_2=>
  some (ya_2:Int)
 | .inr yb_2=>
  some (-1)
theorem ll(r:Int)(h:gx a0=some r):call G Ω0 E0 52 [(.l 9 (a0.map AV.s)),(.f 28 [])] H0=some (mC a0 r):=
 aG PD (ao (.i (a0.length:Int))<|.or (.ex fun (ya_2:Nat)=>ao (.lp .ret ⟨[(4,(I (ya_2:Int)))],[],H0⟩)<|.nil) (.ex fun (yb_2:(Nat×Bool))=>ao (.lp (.ex 0) ⟨[(0,(.l 9 (a0.map AV.s))),(1,(.f 28 [])),(7,(I (a0.length:Int))),(8,(I (yb_2.1:Int))),(9,(.b yb_2.2))],[],H0⟩)<|.nil)) fun L=>ai (aK AV.s a0)<|bD h (e5 (lj a0) 0) (fun ya_2 h=>L h) (fun yb_2 h=>L h)
abbrev lq(a0:(List (List UInt8)))(r:Bool):aW×HP:=(.ret (.b r),H0)
def di:Option Bool:=
 (gx a0).bind fun (r1:Int)=>
 some (decide (0≤r1))
theorem jM(r:Bool)(h:di a0=some r):call G Ω0 E0 27 [(.l 9 (a0.map AV.s)),(.f 28 [])] H0=some (lq a0 r):=
 aG PB (xI fun r1=>.nil) fun L=>ar h (ll a0) fun r1 h=>L h
end
section
variable (a0:ad)
abbrev zo(a0:ad)(r:Bool):aW×HP:=(.ret (.b r),H0)
def l3:Option Bool:=
 (n9 a0).bind fun (r1:Bool)=>
 some (!r1)
theorem uS(r:Bool)(h:l3 a0=some r):call G Ω0 E0 54 [(.a (aT a0))] H0=some (zo a0 r):=
 aG QY (bt<|xB fun r1=>.nil) fun L=>oS<|ar h (rr a0) fun r1 h=>L h
end
section
variable (a0:(List ad))
def fy(v0_8:Nat):Option (Nat⊕(Nat⊕(Nat×Bool))):=
 if (v0_8:Int)<(a0.length:Int) then
  (a0[v0_8]?).bind fun (y2:ad)=>
  (l3 y2).bind fun (r4:Bool)=>
  if r4=true then
   some (.inr (.inl v0_8))
  else
   if IntKind.i64.wrap ((v0_8:Int)+1)=((v0_8+1:Nat):Int) then
    some (.inl (v0_8+1))
   else none
 else
  some (.inr (.inr (v0_8,decide ((v0_8:Int)<(a0.length:Int)))))
abbrev lR(v:Nat):St:=⟨[(0,(.l 34 (a0.map aj))),(1,(.f 54 [])),(7,(I (a0.length:Int))),(8,(I (v:Int)))],[],H0⟩
abbrev lS(x:(Nat⊕(Nat×Bool))):aE×St:=match x with | .inl z1=>(.ret,⟨[(4,(I (z1:Int)))],[],H0⟩) | .inr (z1,z2)=>((.ex 0),⟨[(0,(.l 34 (a0.map aj))),(1,(.f 54 [])),(7,(I (a0.length:Int))),(8,(I (z1:Int))),(9,(.b z2))],[],H0⟩)
theorem lr(v0_8:Nat)(o:Nat⊕(Nat⊕(Nat×Bool)))(h:fy a0 v0_8=some o):bF E0 zV (lR a0) (lS a0) v0_8 o:=
 bP (.or (bt<|ao (.n v0_8)<|.ex fun (y2:ad)=>ao (.v (.a (aT y2)))<|xB fun r4=>oN (ao (.i ((v0_8+1:Nat):Int))<|.nil)) (bf<|.nil)) fun L=>bq h (fun h1 h=>ai (decide_eq_true h1)<|ai (rI v0_8)<|cu h fun y2 h3 h=>ai (ej aj h3 (cD _))<|ar h (uS y2) fun r4 h=>aA h (fun h6 h=>ai h6<|L h) (fun h6 h=>ai h6<|aY h fun w7 h=>ai w7<|L h)) (fun h1 h=>ai (decide_eq_false h1)<|L h)
abbrev mD(a0:(List ad))(r:Int):aW×HP:=(.ret (I r),H0)
def gy:Option Int:=
 (lp (fun v=>fy a0 v) 0).bind fun (x1:(Nat⊕(Nat×Bool)))=>match x1 with
 | .inl ya_2=>
  some (ya_2:Int)
 | .inr yb_2=>
  some (-1)
theorem lu(r:Int)(h:gy a0=some r):call G Ω0 E0 68 [(.l 34 (a0.map aj)),(.f 54 [])] H0=some (mD a0 r):=
 aG IB (ao (.i (a0.length:Int))<|.or (.ex fun (ya_2:Nat)=>ao (.lp .ret ⟨[(4,(I (ya_2:Int)))],[],H0⟩)<|.nil) (.ex fun (yb_2:(Nat×Bool))=>ao (.lp (.ex 0) ⟨[(0,(.l 34 (a0.map aj))),(1,(.f 54 [])),(7,(I (a0.length:Int))),(8,(I (yb_2.1:Int))),(9,(.b yb_2.2))],[],H0⟩)<|.nil)) fun L=>ai (aK aj a0)<|bD h (e5 (lr a0) 0) (fun ya_2 h=>L h) (fun yb_2 h=>L h)
abbrev lx(a0:(List ad))(r:Bool):aW×HP:=(.ret (.b r),H0)
def dj:Option Bool:=
 (gy a0).bind fun (r1:Int)=>
 some (decide (0≤r1))
theorem jN(r:Bool)(h:dj a0=some r):call G Ω0 E0 43 [(.l 34 (a0.map aj)),(.f 54 [])] H0=some (lx a0 r):=
 aG IA (xI fun r1=>.nil) fun L=>ar h (lu a0) fun r1 h=>L h
end
section
variable (a0:(List aa))
abbrev kA(a0:(List aa))(r:Bool):aW×HP:=(.ret (.b r),H0)
abbrev eV(r:Bool):Prop:=call G Ω0 E0 29 [(.l 36 (a0.map ab)),(.f 30 [])] H0=some (kA a0 r)
abbrev mi(a0:(List aa))(r:Int):aW×HP:=(.ret (I r),H0)
abbrev gd(r:Int):Prop:=call G Ω0 E0 53 [(.l 36 (a0.map ab)),(.f 30 [])] H0=some (mi a0 r)
end
section
variable (a0:aa)
abbrev BR(a0:aa)(r:Bool):aW×HP:=(.ret (.b r),H0)
abbrev uz(r:Bool):Prop:=call G Ω0 E0 31 [(.a (aO a0))] H0=some (BR a0 r)
end
section
variable (a0:(List aa))
abbrev AJ(a0:(List aa))(r:Bool):aW×HP:=(.ret (.b r),H0)
abbrev pJ(r:Bool):Prop:=call G Ω0 E0 12 [(.l 36 (a0.map ab))] H0=some (AJ a0 r)
end
section
variable (a0:aa)
abbrev xz(a0:aa)(r:Bool):aW×HP:=(.ret (.b r),H0)
abbrev rv(r:Bool):Prop:=call G Ω0 E0 30 [(.a (aO a0))] H0=some (xz a0 r)
end
structure av where
 f_slices_ContainsFunc__tree_stmts_1:(List aa)→Option Bool
 f_slices_IndexFunc__tree_stmts_1:(List aa)→Option Int
 f_tree_stmt:aa→Option Bool
 f_tree_stmts:(List aa)→Option Bool
 f_tree_stmts_1:aa→Option Bool
structure ak(R:av):Prop where
 f_slices_ContainsFunc__tree_stmts_1:∀ (a0:(List aa))(r:Bool),R.f_slices_ContainsFunc__tree_stmts_1 a0=some r→eV a0 r
 f_slices_IndexFunc__tree_stmts_1:∀ (a0:(List aa))(r:Int),R.f_slices_IndexFunc__tree_stmts_1 a0=some r→gd a0 r
 f_tree_stmt:∀ (a0:aa)(r:Bool),R.f_tree_stmt a0=some r→uz a0 r
 f_tree_stmts:∀ (a0:(List aa))(r:Bool),R.f_tree_stmts a0=some r→pJ a0 r
 f_tree_stmts_1:∀ (a0:aa)(r:Bool),R.f_tree_stmts_1 a0=some r→rv a0 r
section
variable (R:av)(a0:(List aa))
def eJ:Option Bool:=
 (R.f_slices_IndexFunc__tree_stmts_1 a0).bind fun (r1:Int)=>
 some (decide (0≤r1))
theorem jh(hR:ak R)(a0:(List aa))(r:Bool)(h:eJ R a0=some r):eV a0 r:=
 aG QE (xI fun r1=>.nil) fun L=>ar h (hR.f_slices_IndexFunc__tree_stmts_1 a0) fun r1 h=>L h
def fc(v0_8:Nat):Option (Nat⊕(Nat⊕(Nat×Bool))):=
 if (v0_8:Int)<(a0.length:Int) then
  (a0[v0_8]?).bind fun (y2:aa)=>
  (R.f_tree_stmts_1 y2).bind fun (r4:Bool)=>
  if r4=true then
   some (.inr (.inl v0_8))
  else
   if IntKind.i64.wrap ((v0_8:Int)+1)=((v0_8+1:Nat):Int) then
    some (.inl (v0_8+1))
   else none
 else
  some (.inr (.inr (v0_8,decide ((v0_8:Int)<(a0.length:Int)))))
abbrev ly(v:Nat):St:=⟨[(0,(.l 36 (a0.map ab))),(1,(.f 30 [])),(7,(I (a0.length:Int))),(8,(I (v:Int)))],[],H0⟩
abbrev lz(x:(Nat⊕(Nat×Bool))):aE×St:=match x with | .inl z1=>(.ret,⟨[(4,(I (z1:Int)))],[],H0⟩) | .inr (z1,z2)=>((.ex 0),⟨[(0,(.l 36 (a0.map ab))),(1,(.f 30 [])),(7,(I (a0.length:Int))),(8,(I (z1:Int))),(9,(.b z2))],[],H0⟩)
theorem kB(hR:ak R)(a0:(List aa))(v0_8:Nat)(o:Nat⊕(Nat⊕(Nat×Bool)))(h:fc R a0 v0_8=some o):bF E0 F5 (ly a0) (lz a0) v0_8 o:=
 bP (.or (bt<|ao (.n v0_8)<|.ex fun (y2:aa)=>ao (.v (.a (aO y2)))<|xB fun r4=>oN (ao (.i ((v0_8+1:Nat):Int))<|.nil)) (bf<|.nil)) fun L=>bq h (fun h1 h=>ai (decide_eq_true h1)<|ai (rI v0_8)<|cu h fun y2 h3 h=>ai (ej ab h3 (dN _))<|ar h (hR.f_tree_stmts_1 y2) fun r4 h=>aA h (fun h6 h=>ai h6<|L h) (fun h6 h=>ai h6<|aY h fun w7 h=>ai w7<|L h)) (fun h1 h=>ai (decide_eq_false h1)<|L h)
def fA:Option Int:=
 (lp (fun v=>fc R a0 v) 0).bind fun (x1:(Nat⊕(Nat×Bool)))=>match x1 with
 | .inl ya_2=>
  some (ya_2:Int)
 | .inr yb_2=>
  some (-1)
theorem jT(hR:ak R)(a0:(List aa))(r:Int)(h:fA R a0=some r):gd a0 r:=
 aG QX (ao (.i (a0.length:Int))<|.or (.ex fun (ya_2:Nat)=>ao (.lp .ret ⟨[(4,(I (ya_2:Int)))],[],H0⟩)<|.nil) (.ex fun (yb_2:(Nat×Bool))=>ao (.lp (.ex 0) ⟨[(0,(.l 36 (a0.map ab))),(1,(.f 30 [])),(7,(I (a0.length:Int))),(8,(I (yb_2.1:Int))),(9,(.b yb_2.2))],[],H0⟩)<|.nil)) fun L=>ai (aK ab a0)<|bD h (e5 (kB R hR a0) 0) (fun ya_2 h=>L h) (fun yb_2 h=>L h)
def xA:List bU:=(gF 15 2 1)::(gQ 16 15)::(gM 17 3)::(gB 18 .neq 17 (kI 4))::(gM 19 18)::⟨some 20,.mv 4,some ⟨19,true⟩,false⟩::⟨some 21,.no 20,some ⟨19,true⟩,false⟩::(gp 22 (.pk 19 21 (.c (.b false))))::(gp 23 (.ca 0 24 [16,22]))::(gp 24 (.no 23))::(gM 25 24)::⟨some 26,.fa 3 1,some ⟨25,false⟩,false⟩::⟨some 27,.ld none 26,some ⟨25,false⟩,false⟩::⟨some 28,.mv 3,some ⟨25,false⟩,false⟩::⟨some 29,.bo .geq false 28 (kI 2),some ⟨25,false⟩,false⟩::⟨some 30,.mv 29,some ⟨25,false⟩,false⟩::⟨some 31,.mv 3,some ⟨30,true⟩,false⟩::⟨some 32,.bo .leq false 31 (kI 4),some ⟨30,true⟩,false⟩::⟨some 33,.pk 30 32 (.c (.b false)),some ⟨25,false⟩,false⟩::⟨some 34,.ca 0 24 [27,33],some ⟨25,false⟩,false⟩::⟨some 35,.no 34,some ⟨25,false⟩,false⟩::(gp 36 (.pk 25 (.c (.b true)) 35))::(gM 37 36)::⟨some 38,.fa 4 1,some ⟨37,false⟩,false⟩::⟨some 39,.ld (some 5) 38,some ⟨37,false⟩,false⟩::⟨some 40,.mv 3,some ⟨37,false⟩,false⟩::⟨some 41,.bo .neq false 40 (kI 2),some ⟨37,false⟩,false⟩::⟨some 42,.mv 41,some ⟨37,false⟩,false⟩::⟨some 43,.mv 3,some ⟨42,true⟩,false⟩::⟨some 44,.bo .neq false 43 (kI 3),some ⟨42,true⟩,false⟩::⟨some 45,.pk 42 44 (.c (.b false)),some ⟨37,false⟩,false⟩::⟨some 46,.ca 0 26 [39,45],some ⟨37,false⟩,false⟩::⟨some 47,.no 46,some ⟨37,false⟩,false⟩::(gp 48 (.pk 37 (.c (.b true)) 47))::[]
end
section
variable (R:av)(a0:aa)
def nO(R:av)(a0:aa):Option Bool:=
 if (a0.Kind !=4)=true then
  (du a0.Name (!(decide (7≤a0.Kind)))).bind fun (r4:Bool)=>
  if r4=true then
   if 2≤a0.Kind then
    (du a0.Other (decide (a0.Kind≤4))).bind fun (r8:Bool)=>
    if r8=true then
     if (a0.Kind !=2)=true then
      (cY a0.Expr (a0.Kind !=3)).bind fun (r12:Bool)=>
      some (!r12)
     else
      (cY a0.Expr false).bind fun (r12:Bool)=>
      some (!r12)
    else
     some true
   else
    (du a0.Other false).bind fun (r8:Bool)=>
    if r8=true then
     if (a0.Kind !=2)=true then
      (cY a0.Expr (a0.Kind !=3)).bind fun (r12:Bool)=>
      some (!r12)
     else
      (cY a0.Expr false).bind fun (r12:Bool)=>
      some (!r12)
    else
     some true
  else
   some true
 else
  (du a0.Name false).bind fun (r4:Bool)=>
  if r4=true then
   if 2≤a0.Kind then
    (du a0.Other (decide (a0.Kind≤4))).bind fun (r8:Bool)=>
    if r8=true then
     if (a0.Kind !=2)=true then
      (cY a0.Expr (a0.Kind !=3)).bind fun (r12:Bool)=>
      some (!r12)
     else
      (cY a0.Expr false).bind fun (r12:Bool)=>
      some (!r12)
    else
     some true
   else
    (du a0.Other false).bind fun (r8:Bool)=>
    if r8=true then
     if (a0.Kind !=2)=true then
      (cY a0.Expr (a0.Kind !=3)).bind fun (r12:Bool)=>
      some (!r12)
     else
      (cY a0.Expr false).bind fun (r12:Bool)=>
      some (!r12)
    else
     some true
  else
   some true
abbrev xC(x:Bool):St:=⟨[(1,(.p ⟨0,1⟩ 0)),(3,(I a0.Kind)),(4,(.b (decide (7≤a0.Kind)))),(48,(.b x))],[(1,(aO a0))],H0⟩
theorem vT(hR:ak R)(a0:aa)(x:Bool)(h:nO R a0=some x):dx G Ω0 E0 [1,3,4,48] [1] xA ⟨[(1,(.p ⟨0,1⟩ 0)),(3,(I a0.Kind)),(4,(.b (decide (7≤a0.Kind))))],[(1,(aO a0))],H0⟩=some (xC a0 x):=
 cC (bt<|.or (gu<|xB fun r4=>.or (yT<|.or (kS<|xB fun r8=>eQ<|.or (yT<|.or (kS<|xB fun r12=>eQ<|.nil) (w0<|xB fun r12=>eQ<|.nil)) (C4<|.nil)) (w0<|xB fun r8=>eQ<|.or (yT<|.or (kS<|xB fun r12=>eQ<|.nil) (w0<|xB fun r12=>eQ<|.nil)) (C4<|.nil))) (I1<|.nil)) (bf<|bf<|bf<|xB fun r4=>.or (yT<|.or (kS<|xB fun r8=>eQ<|.or (yT<|.or (kS<|xB fun r12=>eQ<|.nil) (w0<|xB fun r12=>eQ<|.nil)) (C4<|.nil)) (w0<|xB fun r8=>eQ<|.or (yT<|.or (kS<|xB fun r12=>eQ<|.nil) (w0<|xB fun r12=>eQ<|.nil)) (C4<|.nil))) (I1<|.nil))) fun L=>ai (rfl:Z0)<|aA h (fun h3 h=>tf h3<|ar h (dP a0.Name (!(decide (7≤a0.Kind)))) fun r4 h=>aA h (fun h6 h=>wY (congrArg not h6)<|bq h (fun h7 h=>dG (decide_eq_true h7)<|ai (g0 (congrArg not h6))<|ai (decide_eq_true h7)<|ai (g0 (congrArg not h6))<|ar h (dP a0.Other (decide (a0.Kind≤4))) fun r8 h=>iN (congrArg not h6)<|aA h (fun h10 h=>wY (congrArg not h10)<|aA h (fun h11 h=>dG h11<|ai (g0 (congrArg not h10))<|ai h11<|ai (g0 (congrArg not h10))<|ar h (cQ a0.Expr (a0.Kind !=3)) fun r12 h=>iN (congrArg not h10)<|L h) (fun h11 h=>dG h11<|ai (g0 (congrArg not h10))<|ai h11<|ai (g0 (congrArg not h10))<|ar h (cQ a0.Expr false) fun r12 h=>iN (congrArg not h10)<|L h)) (fun h10 h=>CZ (congrArg not h10)<|L h)) (fun h7 h=>dG (decide_eq_false h7)<|ai (g0 (congrArg not h6))<|ai (decide_eq_false h7)<|ai (g0 (congrArg not h6))<|ar h (dP a0.Other false) fun r8 h=>iN (congrArg not h6)<|aA h (fun h10 h=>wY (congrArg not h10)<|aA h (fun h11 h=>dG h11<|ai (g0 (congrArg not h10))<|ai h11<|ai (g0 (congrArg not h10))<|ar h (cQ a0.Expr (a0.Kind !=3)) fun r12 h=>iN (congrArg not h10)<|L h) (fun h11 h=>dG h11<|ai (g0 (congrArg not h10))<|ai h11<|ai (g0 (congrArg not h10))<|ar h (cQ a0.Expr false) fun r12 h=>iN (congrArg not h10)<|L h)) (fun h10 h=>CZ (congrArg not h10)<|L h))) (fun h6 h=>ai (g0 (congrArg not h6))<|ai (g0 (congrArg not h6))<|ai (g0 (congrArg not h6))<|ai (g0 (congrArg not h6))<|ai (g0 (congrArg not h6))<|ai (g0 (congrArg not h6))<|ai (g0 (congrArg not h6))<|ai (g0 (congrArg not h6))<|ai (congrArg not h6)<|ai ht<|ai ht<|ai ht<|ai ht<|ai ht<|ai ht<|ai ht<|ai ht<|ai tt<|L h)) (fun h3 h=>tf h3<|ar h (dP a0.Name false) fun r4 h=>aA h (fun h6 h=>wY (congrArg not h6)<|bq h (fun h7 h=>dG (decide_eq_true h7)<|ai (g0 (congrArg not h6))<|ai (decide_eq_true h7)<|ai (g0 (congrArg not h6))<|ar h (dP a0.Other (decide (a0.Kind≤4))) fun r8 h=>iN (congrArg not h6)<|aA h (fun h10 h=>wY (congrArg not h10)<|aA h (fun h11 h=>dG h11<|ai (g0 (congrArg not h10))<|ai h11<|ai (g0 (congrArg not h10))<|ar h (cQ a0.Expr (a0.Kind !=3)) fun r12 h=>iN (congrArg not h10)<|L h) (fun h11 h=>dG h11<|ai (g0 (congrArg not h10))<|ai h11<|ai (g0 (congrArg not h10))<|ar h (cQ a0.Expr false) fun r12 h=>iN (congrArg not h10)<|L h)) (fun h10 h=>CZ (congrArg not h10)<|L h)) (fun h7 h=>dG (decide_eq_false h7)<|ai (g0 (congrArg not h6))<|ai (decide_eq_false h7)<|ai (g0 (congrArg not h6))<|ar h (dP a0.Other false) fun r8 h=>iN (congrArg not h6)<|aA h (fun h10 h=>wY (congrArg not h10)<|aA h (fun h11 h=>dG h11<|ai (g0 (congrArg not h10))<|ai h11<|ai (g0 (congrArg not h10))<|ar h (cQ a0.Expr (a0.Kind !=3)) fun r12 h=>iN (congrArg not h10)<|L h) (fun h11 h=>dG h11<|ai (g0 (congrArg not h10))<|ai h11<|ai (g0 (congrArg not h10))<|ar h (cQ a0.Expr false) fun r12 h=>iN (congrArg not h10)<|L h)) (fun h10 h=>CZ (congrArg not h10)<|L h))) (fun h6 h=>ai (g0 (congrArg not h6))<|ai (g0 (congrArg not h6))<|ai (g0 (congrArg not h6))<|ai (g0 (congrArg not h6))<|ai (g0 (congrArg not h6))<|ai (g0 (congrArg not h6))<|ai (g0 (congrArg not h6))<|ai (g0 (congrArg not h6))<|ai (congrArg not h6)<|ai ht<|ai ht<|ai ht<|ai ht<|ai ht<|ai ht<|ai ht<|ai ht<|ai tt<|L h))
def ry:List bU:=(gM 67 66)::⟨some 68,.mv 3,some ⟨67,false⟩,false⟩::⟨some 69,.bo .neq false 68 (kI 7),some ⟨67,false⟩,false⟩::⟨some 70,.mv 69,some ⟨67,false⟩,false⟩::⟨some 71,.fa 11 1,some ⟨70,true⟩,false⟩::⟨some 72,.ld none 71,some ⟨70,true⟩,false⟩::⟨some 73,.ln false 72,some ⟨70,true⟩,false⟩::⟨some 74,.bo .gtr false 73 (kI 0),some ⟨70,true⟩,false⟩::⟨some 75,.pk 70 74 (.c (.b false)),some ⟨67,false⟩,false⟩::(gp 76 (.pk 67 (.c (.b true)) 75))::[]
def ep(R:av)(a0:aa)(u3_1:Bool):Option Bool:=
 if u3_1=true then
  some true
 else
  if (a0.Kind !=7)=true then
   some (decide (0<(a0.Else.length:Int)))
  else
   some false
abbrev xD(u3_1:Bool)(x:Bool):St:=⟨[(1,(.p ⟨0,1⟩ 0)),(76,(.b x))],[(1,(aO a0))],H0⟩
theorem gY(hR:ak R)(a0:aa)(u3_1:Bool)(w:List AV)(x:Bool)(h:ep R a0 u3_1=some x):dx G Ω0 E0 [1,76] [1] ry ⟨[(66,(.b u3_1)),(65,(W w 0)),(64,(W w 1)),(63,(W w 2)),(62,(W w 3)),(61,(W w 4)),(60,(W w 5)),(59,(W w 6)),(58,(W w 7)),(57,(W w 8)),(56,(W w 9)),(55,(W w 10)),(54,(W w 11)),(53,(W w 12)),(52,(W w 13)),(51,(.b (a0.Kind !=2))),(50,(.b (a0.Kind !=2))),(49,(I a0.Kind)),(1,(.p ⟨0,1⟩ 0)),(3,(I a0.Kind)),(4,(.b (decide (7≤a0.Kind))))],[(1,(aO a0))],H0⟩=some (xD a0 u3_1 x):=
 cC (.or (Aw<|.nil) (gu<|.or (cJ<|ao (.i (a0.Else.length:Int))<|Ar<|.nil) (C5<|.nil))) fun L=>aA h (fun h9 h=>Ap h9<|L h) (fun h9 h=>An h9<|aA h (fun h10 h=>ek h10<|ai (aK ab a0.Else)<|ai (g1 h10)<|ai (g0 h9)<|ai h10<|ai h9<|L h) (fun h10 h=>uN h10<|ai (g0 h9)<|ai h10<|ai h9<|L h))
def xE:List bU:=(gM 49 3)::(gB 50 .neq 49 (kI 2))::(gM 51 50)::⟨some 52,.fa 9 1,some ⟨51,true⟩,false⟩::⟨some 53,.ld none 52,some ⟨51,true⟩,false⟩::⟨some 54,.ln false 53,some ⟨51,true⟩,false⟩::⟨some 55,.bo .gtr false 54 (kI 0),some ⟨51,true⟩,false⟩::(gp 56 (.pk 51 55 (.c (.b false))))::(gM 57 56)::⟨some 58,.mv 4,some ⟨57,false⟩,false⟩::⟨some 59,.no 58,some ⟨57,false⟩,false⟩::⟨some 60,.mv 59,some ⟨57,false⟩,false⟩::⟨some 61,.fa 10 1,some ⟨60,true⟩,false⟩::⟨some 62,.ld none 61,some ⟨60,true⟩,false⟩::⟨some 63,.ln false 62,some ⟨60,true⟩,false⟩::⟨some 64,.bo .gtr false 63 (kI 0),some ⟨60,true⟩,false⟩::⟨some 65,.pk 60 64 (.c (.b false)),some ⟨57,false⟩,false⟩::(gp 66 (.pk 57 (.c (.b true)) 65))::ry
def nP:Option Bool:=
 if (a0.Kind !=2)=true then
  if 0<(a0.Args.length:Int) then
   (ep R a0 true).bind fun (x8:Bool)=>
   some x8
  else
   if 7≤a0.Kind then
    (ep R a0 false).bind fun (x9:Bool)=>
    some x9
   else
    (ep R a0 (decide (0<(a0.Then.length:Int)))).bind fun (x9:Bool)=>
    some x9
 else
  if 7≤a0.Kind then
   (ep R a0 false).bind fun (x8:Bool)=>
   some x8
  else
   (ep R a0 (decide (0<(a0.Then.length:Int)))).bind fun (x8:Bool)=>
   some x8
abbrev xF(x:Bool):St:=⟨[(1,(.p ⟨0,1⟩ 0)),(76,(.b x))],[(1,(aO a0))],H0⟩
theorem vU(hR:ak R)(a0:aa)(x:Bool)(h:nP R a0=some x):dx G Ω0 E0 [1,76] [1] xE ⟨[(1,(.p ⟨0,1⟩ 0)),(3,(I a0.Kind)),(4,(.b (decide (7≤a0.Kind))))],[(1,(aO a0))],H0⟩=some (xF a0 x):=
 cC (.or (cJ<|ao (.i (a0.Args.length:Int))<|b9<|.or (Aw<|.jb (some 67) 9<|.ex fun (x8:Bool)=>ao (.jn ⟨[(1,(.p ⟨0,1⟩ 0)),(76,(.b x8))],[(1,(aO a0))],H0⟩)<|.nil) (gu<|.or (C5<|.jb (some 67) 9<|.ex fun (x9:Bool)=>ao (.jn ⟨[(1,(.p ⟨0,1⟩ 0)),(76,(.b x9))],[(1,(aO a0))],H0⟩)<|.nil) (cJ<|ao (.i (a0.Then.length:Int))<|Ar<|.jb (some 67) 9<|.ex fun (x9:Bool)=>ao (.jn ⟨[(1,(.p ⟨0,1⟩ 0)),(76,(.b x9))],[(1,(aO a0))],H0⟩)<|.nil))) (bf<|bf<|bf<|bf<|bf<|bt<|bt<|bt<|.or (C5<|.jb (some 67) 9<|.ex fun (x8:Bool)=>ao (.jn ⟨[(1,(.p ⟨0,1⟩ 0)),(76,(.b x8))],[(1,(aO a0))],H0⟩)<|.nil) (cJ<|ao (.i (a0.Then.length:Int))<|Ar<|.jb (some 67) 9<|.ex fun (x8:Bool)=>ao (.jn ⟨[(1,(.p ⟨0,1⟩ 0)),(76,(.b x8))],[(1,(aO a0))],H0⟩)<|.nil))) fun L=>aA h (fun h6 h=>ek h6<|ai (aK aj a0.Args)<|fX h6<|bq h (fun h7 h=>Ap (decide_eq_true h7)<|ar h (gY R hR a0 true [.sk,.sk,.sk,.sk,.sk,.sk,.sk,.sk,(.b (decide (0<(a0.Args.length:Int)))),(.b (decide (0<(a0.Args.length:Int)))),(.b (decide (0<(a0.Args.length:Int)))),(I (a0.Args.length:Int)),(.l 34 (a0.Args.map aj)),(.p ⟨0,1⟩ 9)]) fun x8 h=>L h) (fun h7 h=>An (decide_eq_false h7)<|bq h (fun h8 h=>uN (congrArg not (decide_eq_true h8))<|ai (g0 (decide_eq_false h7))<|ai (congrArg not (decide_eq_true h8))<|ai (decide_eq_false h7)<|ar h (gY R hR a0 false [(.b false),.sk,.sk,.sk,.sk,(.b (!(decide (7≤a0.Kind)))),(.b (!(decide (7≤a0.Kind)))),(.b (decide (7≤a0.Kind))),(.b (decide (0<(a0.Args.length:Int)))),(.b (decide (0<(a0.Args.length:Int)))),(.b (decide (0<(a0.Args.length:Int)))),(I (a0.Args.length:Int)),(.l 34 (a0.Args.map aj)),(.p ⟨0,1⟩ 9)]) fun x9 h=>L h) (fun h8 h=>ek (congrArg not (decide_eq_false h8))<|ai (aK ab a0.Then)<|ai (g1 (congrArg not (decide_eq_false h8)))<|ai (g0 (decide_eq_false h7))<|ai (congrArg not (decide_eq_false h8))<|ai (decide_eq_false h7)<|ar h (gY R hR a0 (decide (0<(a0.Then.length:Int))) [(.b (decide (0<(a0.Then.length:Int)))),(.b (decide (0<(a0.Then.length:Int)))),(I (a0.Then.length:Int)),(.l 36 (a0.Then.map ab)),(.p ⟨0,1⟩ 10),(.b (!(decide (7≤a0.Kind)))),(.b (!(decide (7≤a0.Kind)))),(.b (decide (7≤a0.Kind))),(.b (decide (0<(a0.Args.length:Int)))),(.b (decide (0<(a0.Args.length:Int)))),(.b (decide (0<(a0.Args.length:Int)))),(I (a0.Args.length:Int)),(.l 34 (a0.Args.map aj)),(.p ⟨0,1⟩ 9)]) fun x9 h=>L h))) (fun h6 h=>ai (g1 h6)<|ai (g1 h6)<|ai (g1 h6)<|ai (g1 h6)<|ai h6<|ai hf<|ai hf<|ai hf<|bq h (fun h7 h=>ai (g1 (congrArg not (decide_eq_true h7)))<|ai (g1 (congrArg not (decide_eq_true h7)))<|ai (g1 (congrArg not (decide_eq_true h7)))<|ai (g1 (congrArg not (decide_eq_true h7)))<|ai hf<|ai (congrArg not (decide_eq_true h7))<|ai ff<|ar h (gY R hR a0 false [(.b false),.sk,.sk,.sk,.sk,(.b (!(decide (7≤a0.Kind)))),(.b (!(decide (7≤a0.Kind)))),(.b (decide (7≤a0.Kind))),(.b false),(.b false),.sk,.sk,.sk,.sk]) fun x8 h=>L h) (fun h7 h=>ek (congrArg not (decide_eq_false h7))<|ai (aK ab a0.Then)<|ai (g1 (congrArg not (decide_eq_false h7)))<|ai hf<|ai (congrArg not (decide_eq_false h7))<|ai ff<|ar h (gY R hR a0 (decide (0<(a0.Then.length:Int))) [(.b (decide (0<(a0.Then.length:Int)))),(.b (decide (0<(a0.Then.length:Int)))),(I (a0.Then.length:Int)),(.l 36 (a0.Then.map ab)),(.p ⟨0,1⟩ 10),(.b (!(decide (7≤a0.Kind)))),(.b (!(decide (7≤a0.Kind)))),(.b (decide (7≤a0.Kind))),(.b false),(.b false),.sk,.sk,.sk,.sk]) fun x8 h=>L h))
def mW:Option Bool:=
 if a0.Kind<1 then
  some false
 else
  if 8<a0.Kind then
   some false
  else
   (nO R a0).bind fun (x3:Bool)=>
   if x3=true then
    some false
   else
    (nP R a0).bind fun (x6:Bool)=>
    if x6=true then
     some false
    else
     (dj a0.Args).bind fun (r9:Bool)=>
     if r9=true then
      some false
     else
      (R.f_tree_stmts a0.Then).bind fun (r12:Bool)=>
      if r12=true then
       (R.f_tree_stmts a0.Else).bind fun (r15:Bool)=>
       some r15
      else
       some false
theorem vV(hR:ak R)(a0:aa)(r:Bool)(h:mW R a0=some r):uz a0 r:=
 aG QG (bt<|.or (bf<|bf<|bt<|bt<|.nil) (ux<|oN (.jb (some 15) 33<|.ex fun (x3:Bool)=>ao (.jn ⟨[(1,(.p ⟨0,1⟩ 0)),(3,(I a0.Kind)),(4,(.b (decide (7≤a0.Kind)))),(48,(.b x3))],[(1,(aO a0))],H0⟩)<|oN (.jb (some 49) 27<|.ex fun (x6:Bool)=>ao (.jn ⟨[(1,(.p ⟨0,1⟩ 0)),(76,(.b x6))],[(1,(aO a0))],H0⟩)<|oN (bt<|xB fun r9=>.or (bf<|bf<|bf<|bf<|bf<|bf<|bf<|bf<|.nil) (cJ<|xB fun r12=>bt<|.or (cJ<|xB fun r15=>bt<|.nil) (ti<|.nil))))))) fun L=>oS<|bq h (fun h1 h=>ai (g0 (decide_eq_true h1))<|ai (g0 (decide_eq_true h1))<|ai (decide_eq_true h1)<|ai tt<|L h) (fun h1 h=>qO (decide_eq_false h1)<|bq h (fun h2 h=>ai (decide_eq_true h2)<|L h) (fun h2 h=>ai (decide_eq_false h2)<|ar h (vT R hR a0) fun x3 h=>aA h (fun h5 h=>ai h5<|L h) (fun h5 h=>ai h5<|ar h (vU R hR a0) fun x6 h=>aA h (fun h8 h=>ai h8<|L h) (fun h8 h=>lK h8<|ar h (jN a0.Args) fun r9 h=>aA h (fun h11 h=>ai (g1 (congrArg not h11))<|ai (g1 (congrArg not h11))<|ai (g1 (congrArg not h11))<|ai (congrArg not h11)<|ai gf<|ai gf<|ai gf<|ai ff<|L h) (fun h11 h=>ek (congrArg not h11)<|ar h (hR.f_tree_stmts a0.Then) fun r12 h=>ai (congrArg not h11)<|aA h (fun h14 h=>ek h14<|ar h (hR.f_tree_stmts a0.Else) fun r15 h=>ai h14<|L h) (fun h14 h=>qP h14<|L h))))))
end
section
variable (R:av)(a0:(List aa))
def l4:Option Bool:=
 (R.f_slices_ContainsFunc__tree_stmts_1 a0).bind fun (r1:Bool)=>
 some (!r1)
theorem uT(hR:ak R)(a0:(List aa))(r:Bool)(h:l4 R a0=some r):pJ a0 r:=
 aG Qq (xB fun r1=>.nil) fun L=>ar h (hR.f_slices_ContainsFunc__tree_stmts_1 a0) fun r1 h=>L h
end
section
variable (R:av)(a0:aa)
def jB:Option Bool:=
 (R.f_tree_stmt a0).bind fun (r1:Bool)=>
 some (!r1)
theorem tn(hR:ak R)(a0:aa)(r:Bool)(h:jB R a0=some r):rv a0 r:=
 aG QF (bt<|xB fun r1=>.nil) fun L=>oS<|ar h (hR.f_tree_stmt a0) fun r1 h=>L h
def aw:Nat→av
 | 0=>⟨fun z0=>none,fun z0=>none,fun z0=>none,fun z0=>none,fun z0=>none⟩
 | n+1=>⟨eJ (aw n),fA (aw n),mW (aw n),l4 (aw n),jB (aw n)⟩
theorem aD:∀ n,ak (aw n)
 | 0=>⟨fun _ r h=>(by cases h),fun _ r h=>(by cases h),fun _ r h=>(by cases h),fun _ r h=>(by cases h),fun _ r h=>(by cases h)⟩
 | n+1=>⟨fun a0 r h=>jh _ (aD n) a0 r h,fun a0 r h=>jT _ (aD n) a0 r h,fun a0 r h=>vV _ (aD n) a0 r h,fun a0 r h=>uT _ (aD n) a0 r h,fun a0 r h=>tn _ (aD n) a0 r h⟩
end
section
variable (a0:(List aa))
def mX:Option Bool:=ev fun n=>(aw n).f_tree_stmts a0
theorem qt(r:Bool)(h:mX a0=some r):pJ a0 r:=by
 obtain ⟨n,hn⟩:=mq h
 exact (aD n).f_tree_stmts a0 r hn
def xG:List bU:=(gF 5 0 1)::(gQ 6 5)::(gB 7 .lss 6 (kI 1))::(gM 8 7)::⟨some 9,.fa 0 1,some ⟨8,false⟩,false⟩::⟨some 10,.ld none 9,some ⟨8,false⟩,false⟩::⟨some 11,.bo .gtr false 10 (kI 7),some ⟨8,false⟩,false⟩::(gp 12 (.pk 8 (.c (.b true)) 11))::(gM 13 12)::⟨some 14,.fa 2 1,some ⟨13,false⟩,false⟩::⟨some 15,.ld none 14,some ⟨13,false⟩,false⟩::⟨some 16,.ca 0 23 [15],some ⟨13,false⟩,false⟩::⟨some 17,.no 16,some ⟨13,false⟩,false⟩::(gp 18 (.pk 13 (.c (.b true)) 17))::(gM 19 18)::⟨some 20,.fa 3 1,some ⟨19,false⟩,false⟩::⟨some 21,.ld none 20,some ⟨19,false⟩,false⟩::⟨some 22,.fa 0 1,some ⟨19,false⟩,false⟩::⟨some 23,.ld none 22,some ⟨19,false⟩,false⟩::⟨some 24,.bo .eql false 23 (kI 2),some ⟨19,false⟩,false⟩::⟨some 25,.ca 0 24 [21,24],some ⟨19,false⟩,false⟩::⟨some 26,.no 25,some ⟨19,false⟩,false⟩::(gp 27 (.pk 19 (.c (.b true)) 26))::[]
end
section
variable (a0:aJ)
def nQ:Option Bool:=
 if a0.Kind<1 then
  some true
 else
  if 7<a0.Kind then
   some true
  else
   (ez a0.Name).bind fun (r3:Bool)=>
   if r3=true then
    (du a0.Other (a0.Kind==2)).bind fun (r6:Bool)=>
    some (!r6)
   else
    some true
abbrev xH(x:Bool):St:=⟨[(1,(.p ⟨0,1⟩ 0)),(27,(.b x))],[(1,(aq a0))],H0⟩
theorem vW(x:Bool)(h:nQ a0=some x):dx G Ω0 E0 [1,27] [1] xG ⟨[(1,(.p ⟨0,1⟩ 0))],[(1,(aq a0))],H0⟩=some (xH a0 x):=
 cC (bt<|.or (bf<|bf<|bf<|bt<|bf<|bf<|bf<|bf<|bt<|bf<|bf<|bf<|bf<|bf<|bf<|bf<|bt<|.nil) (uy<|.or (bf<|bf<|bf<|bf<|bt<|bf<|bf<|bf<|bf<|bf<|bf<|bf<|bt<|.nil) (cJ<|xB fun r3=>eQ<|.or (bt<|bt<|bt<|bt<|bt<|bt<|bt<|bt<|xB fun r6=>eQ<|.nil) (bf<|bf<|bf<|bf<|bf<|bf<|bf<|bt<|.nil)))) fun L=>ai (rfl:Z0)<|bq h (fun h1 h=>ai (g0 (decide_eq_true h1))<|ai (g0 (decide_eq_true h1))<|ai (g0 (decide_eq_true h1))<|ai (decide_eq_true h1)<|ai ht<|ai ht<|ai ht<|ai ht<|ai tt<|ai ht<|ai ht<|ai ht<|ai ht<|ai ht<|ai ht<|ai ht<|ai tt<|L h) (fun h1 h=>wW (decide_eq_false h1)<|bq h (fun h2 h=>ai (g0 (decide_eq_true h2))<|ai (g0 (decide_eq_true h2))<|ai (g0 (decide_eq_true h2))<|ai (g0 (decide_eq_true h2))<|ai (decide_eq_true h2)<|ai ht<|ai ht<|ai ht<|ai ht<|ai ht<|ai ht<|ai ht<|ai tt<|L h) (fun h2 h=>rh (decide_eq_false h2)<|ar h (fI a0.Name) fun r3 h=>iN (decide_eq_false h2)<|aA h (fun h5 h=>ai (g0 (congrArg not h5))<|ai (g0 (congrArg not h5))<|ai (rfl:Z0)<|ai (g0 (congrArg not h5))<|ai (g0 (congrArg not h5))<|ai (rfl:Z0)<|ai (g0 (congrArg not h5))<|ai (g0 (congrArg not h5))<|ar h (dP a0.Other (a0.Kind==2)) fun r6 h=>iN (congrArg not h5)<|L h) (fun h5 h=>ai (g0 (congrArg not h5))<|ai (g0 (congrArg not h5))<|ai (g0 (congrArg not h5))<|ai (g0 (congrArg not h5))<|ai (g0 (congrArg not h5))<|ai (g0 (congrArg not h5))<|ai (g0 (congrArg not h5))<|ai (congrArg not h5)<|L h)))
def fK(a0:aJ)(w2_1:Bool):Option (Unit⊕Bool):=
 if w2_1=true then
  some (.inl ())
 else
  some (.inr w2_1)
abbrev xJ(w2_1:Bool)(x:(Unit⊕Bool)):aE×St:=match x with | .inl ()=>(.nrm,⟨[(1,(.p ⟨0,1⟩ 0)),(3,(.b false))],[(1,(aq a0))],H0⟩) | .inr z1=>(.nrm,⟨[(1,(.p ⟨0,1⟩ 0)),(3,(.b a0.Given)),(35,(.b z1))],[(1,(aq a0))],H0⟩)
theorem jC(w2_1:Bool)(x:(Unit⊕Bool))(h:fK a0 w2_1=some x):run G Ω0 E0 FF ⟨[(1,(.p ⟨0,1⟩ 0)),(3,(.b a0.Given)),(35,(.b w2_1))],[(1,(aq a0))],H0⟩=some (xJ a0 w2_1 x):=
 lX (oN (.nil)) fun L=>aA h (fun h9 h=>ai h9<|L h) (fun h9 h=>ai h9<|L h)
def kC(w1_1:Bool):Option (Bool⊕Bool):=
 if w1_1=true then
  some (.inl true)
 else
  if (a0.Kind==1)=true then
   (fK a0 (a0.Kind==1)).bind fun (x7:(Unit⊕Bool))=>match x7 with
   | .inl ya_8=>
    some (.inl false)
   | .inr yb_8=>
    some (.inr yb_8)
  else
   if (a0.Kind==2)=true then
    (fK a0 (a0.Kind==2)).bind fun (x8:(Unit⊕Bool))=>match x8 with
    | .inl ya_9=>
     some (.inl false)
    | .inr yb_9=>
     some (.inr yb_9)
   else
    if (a0.Kind==3)=true then
     (fK a0 (a0.Kind==3)).bind fun (x9:(Unit⊕Bool))=>match x9 with
     | .inl ya_10=>
      some (.inl false)
     | .inr yb_10=>
      some (.inr yb_10)
    else
     (fK a0 (a0.Kind==7)).bind fun (x9:(Unit⊕Bool))=>match x9 with
     | .inl ya_10=>
      some (.inl false)
     | .inr yb_10=>
      some (.inr yb_10)
abbrev xK(w1_1:Bool)(x:(Bool⊕Bool)):aE×St:=match x with | .inl zb1=>(.nrm,⟨[(1,(.p ⟨0,1⟩ 0)),(3,(.b zb1))],[(1,(aq a0))],H0⟩) | .inr z1=>(.nrm,⟨[(1,(.p ⟨0,1⟩ 0)),(3,(.b a0.Given)),(35,(.b z1))],[(1,(aq a0))],H0⟩)
theorem qu(w1_1:Bool)(x:(Bool⊕Bool))(h:kC a0 w1_1=some x):run G Ω0 E0 FG ⟨[(1,(.p ⟨0,1⟩ 0)),(3,(.b a0.Given)),(31,(I a0.Kind)),(32,(.b w1_1))],[(1,(aq a0))],H0⟩=some (xK a0 w1_1 x):=
 lX (oN (.or (bt<|.fb<|.or (.ex fun (ya_8:Unit)=>ao (.fr .nrm ⟨[(1,(.p ⟨0,1⟩ 0)),(3,(.b false))],[(1,(aq a0))],H0⟩)<|.nil) (.ex fun (yb_8:Bool)=>ao (.fr .nrm ⟨[(1,(.p ⟨0,1⟩ 0)),(3,(.b a0.Given)),(35,(.b yb_8))],[(1,(aq a0))],H0⟩)<|.nil)) (bf<|.or (bt<|.fb<|.or (.ex fun (ya_9:Unit)=>ao (.fr .nrm ⟨[(1,(.p ⟨0,1⟩ 0)),(3,(.b false))],[(1,(aq a0))],H0⟩)<|.nil) (.ex fun (yb_9:Bool)=>ao (.fr .nrm ⟨[(1,(.p ⟨0,1⟩ 0)),(3,(.b a0.Given)),(35,(.b yb_9))],[(1,(aq a0))],H0⟩)<|.nil)) (bf<|.or (bt<|.fb<|.or (.ex fun (ya_10:Unit)=>ao (.fr .nrm ⟨[(1,(.p ⟨0,1⟩ 0)),(3,(.b false))],[(1,(aq a0))],H0⟩)<|.nil) (.ex fun (yb_10:Bool)=>ao (.fr .nrm ⟨[(1,(.p ⟨0,1⟩ 0)),(3,(.b a0.Given)),(35,(.b yb_10))],[(1,(aq a0))],H0⟩)<|.nil)) (bf<|.fb<|.or (.ex fun (ya_10:Unit)=>ao (.fr .nrm ⟨[(1,(.p ⟨0,1⟩ 0)),(3,(.b false))],[(1,(aq a0))],H0⟩)<|.nil) (.ex fun (yb_10:Bool)=>ao (.fr .nrm ⟨[(1,(.p ⟨0,1⟩ 0)),(3,(.b a0.Given)),(35,(.b yb_10))],[(1,(aq a0))],H0⟩)<|.nil)))))) fun L=>aA h (fun h5 h=>ai h5<|L h) (fun h5 h=>ai h5<|aA h (fun h6 h=>ai h6<|bD h (jC a0 (a0.Kind==1)) (fun ya_8 h=>L h) (fun yb_8 h=>L h)) (fun h6 h=>ai h6<|aA h (fun h7 h=>ai h7<|bD h (jC a0 (a0.Kind==2)) (fun ya_9 h=>L h) (fun yb_9 h=>L h)) (fun h7 h=>ai h7<|aA h (fun h8 h=>ai h8<|bD h (jC a0 (a0.Kind==3)) (fun ya_10 h=>L h) (fun yb_10 h=>L h)) (fun h8 h=>ai h8<|bD h (jC a0 (a0.Kind==7)) (fun ya_10 h=>L h) (fun yb_10 h=>L h)))))
def rz:List bU:=(gM 64 63)::⟨some 65,.mv 4,some ⟨64,false⟩,false⟩::⟨some 66,.no 65,some ⟨64,false⟩,false⟩::⟨some 67,.mv 66,some ⟨64,false⟩,false⟩::⟨some 68,.fa 6 1,some ⟨67,true⟩,false⟩::⟨some 69,.ld none 68,some ⟨67,true⟩,false⟩::⟨some 70,.ln false 69,some ⟨67,true⟩,false⟩::⟨some 71,.fa 7 1,some ⟨67,true⟩,false⟩::⟨some 72,.ld none 71,some ⟨67,true⟩,false⟩::⟨some 73,.ln false 72,some ⟨67,true⟩,false⟩::⟨some 74,.bo .add false 70 73,some ⟨67,true⟩,false⟩::⟨some 75,.bo .gtr false 74 (kI 0),some ⟨67,true⟩,false⟩::⟨some 76,.pk 67 75 (.c (.b false)),some ⟨64,false⟩,false⟩::(gp 77 (.pk 64 (.c (.b true)) 76))::(gM 78 77)::⟨some 79,.fa 8 1,some ⟨78,false⟩,false⟩::⟨some 80,.ld (some 5) 79,some ⟨78,false⟩,false⟩::⟨some 81,.mv 4,some ⟨78,false⟩,false⟩::⟨some 82,.ca 0 26 [80,81],some ⟨78,false⟩,false⟩::⟨some 83,.no 82,some ⟨78,false⟩,false⟩::(gp 84 (.pk 78 (.c (.b true)) 83))::[]
def fL(w3_1:Bool)(u3_1:Bool):Option Bool:=
 if u3_1=true then
  some true
 else
  if (a0.Kind==7)=true then
   (cY a0.Result (a0.Kind==7)).bind fun (r15:Bool)=>
   some (!r15)
  else
   if IntKind.i64.wrap ((a0.Params.length:Int)+(a0.Body.length:Int))=(a0.Params.length:Int)+(a0.Body.length:Int) then
    if 0<((a0.Params.length:Int)+(a0.Body.length:Int)) then
     some true
    else
     (cY a0.Result (a0.Kind==7)).bind fun (r17:Bool)=>
     some (!r17)
   else none
abbrev xL(w3_1:Bool)(u3_1:Bool)(x:Bool):St:=⟨[(1,(.p ⟨0,1⟩ 0)),(84,(.b x))],[(1,(aq a0))],H0⟩
theorem jD(w3_1:Bool)(u3_1:Bool)(w:List AV)(x:Bool)(h:fL a0 w3_1 u3_1=some x):dx G Ω0 E0 [1,84] [1] rz ⟨[(63,(.b u3_1)),(62,(W w 0)),(61,(W w 1)),(60,(W w 2)),(59,(W w 3)),(58,(W w 4)),(57,(W w 5)),(56,(W w 6)),(55,(W w 7)),(54,(W w 8)),(53,(W w 9)),(52,(W w 10)),(51,(W w 11)),(50,(W w 12)),(49,(W w 13)),(48,(W w 14)),(47,(.b (!(a0.Given==w3_1)))),(46,(.b (!(a0.Given==w3_1)))),(45,(.b w3_1)),(44,(.b a0.Given)),(43,(.p ⟨0,1⟩ 4)),(1,(.p ⟨0,1⟩ 0)),(3,(.b w3_1)),(4,(.b (a0.Kind==7)))],[(1,(aq a0))],H0⟩=some (xL a0 w3_1 u3_1 x):=
 cC (.or (bf<|bf<|bf<|bf<|bt<|bf<|bf<|bf<|bf<|bf<|bt<|.nil) (gu<|.or (bf<|bf<|bf<|bf<|bf<|bf<|bf<|bf<|bt<|bf<|bf<|bt<|bt<|bt<|bt<|bt<|xB fun r15=>eQ<|.nil) (cJ<|ao (.i (a0.Params.length:Int))<|cJ<|ao (.i (a0.Body.length:Int))<|bt<|ao (.i ((a0.Params.length:Int)+(a0.Body.length:Int)))<|Ar<|.or (EU<|.nil) (kS<|xB fun r17=>eQ<|.nil)))) fun L=>aA h (fun h13 h=>ai (g0 h13)<|ai (g0 h13)<|ai (g0 h13)<|ai (g0 h13)<|ai h13<|ai ht<|ai ht<|ai ht<|ai ht<|ai ht<|ai tt<|L h) (fun h13 h=>An h13<|aA h (fun h14 h=>ai (g1 (congrArg not h14))<|ai (g1 (congrArg not h14))<|ai (g1 (congrArg not h14))<|ai (g1 (congrArg not h14))<|ai (g1 (congrArg not h14))<|ai (g1 (congrArg not h14))<|ai (g1 (congrArg not h14))<|ai (g1 (congrArg not h14))<|ai (g0 h13)<|ai (congrArg not h14)<|ai h13<|ai hf<|ai hf<|ai (rfl:Z0)<|ai hf<|ai hf<|ar h (cQ a0.Result (a0.Kind==7)) fun r15 h=>ai hf<|ai ff<|L h) (fun h14 h=>ek (congrArg not h14)<|ai (aK AV.s a0.Params)<|ek (congrArg not h14)<|ai (aK ab a0.Body)<|ai (g1 (congrArg not h14))<|aY h fun w15 h=>ai w15<|ai (g1 (congrArg not h14))<|ai (g0 h13)<|ai (congrArg not h14)<|ai h13<|bq h (fun h16 h=>ER (decide_eq_true h16)<|L h) (fun h16 h=>Aq (decide_eq_false h16)<|ar h (cQ a0.Result (a0.Kind==7)) fun r17 h=>iN (decide_eq_false h16)<|L h)))
def xM:List bU:=(gF 43 4 1)::(gQ 44 43)::(gM 45 3)::(gp 46 (.bo .neq true 44 45))::(gM 47 46)::⟨some 48,.fa 4 1,some ⟨47,false⟩,false⟩::⟨some 49,.ld none 48,some ⟨47,false⟩,false⟩::⟨some 50,.no 49,some ⟨47,false⟩,false⟩::⟨some 51,.mv 50,some ⟨47,false⟩,false⟩::⟨some 52,.fa 5 1,some ⟨51,true⟩,false⟩::⟨some 53,.ld none 52,some ⟨51,true⟩,false⟩::⟨some 54,.ln false 53,some ⟨51,true⟩,false⟩::⟨some 55,.bo .gtr false 54 (kI 0),some ⟨51,true⟩,false⟩::⟨some 56,.pk 51 55 (.c (.b false)),some ⟨47,false⟩,false⟩::(gp 57 (.pk 47 (.c (.b true)) 56))::(gM 58 57)::⟨some 59,.fa 5 1,some ⟨58,false⟩,false⟩::⟨some 60,.ld none 59,some ⟨58,false⟩,false⟩::⟨some 61,.ca 0 25 [60],some ⟨58,false⟩,false⟩::⟨some 62,.no 61,some ⟨58,false⟩,false⟩::(gp 63 (.pk 58 (.c (.b true)) 62))::rz
def nR(w3_1:Bool):Option Bool:=
 if (a0.Given==w3_1)=true then
  if a0.Given=true then
   (jS a0.Label).bind fun (r10:Bool)=>
   (fL a0 w3_1 (!r10)).bind fun (x12:Bool)=>
   some x12
  else
   if 0<(a0.Label.length:Int) then
    (fL a0 w3_1 true).bind fun (x11:Bool)=>
    some x11
   else
    (jS a0.Label).bind fun (r11:Bool)=>
    (fL a0 w3_1 (!r11)).bind fun (x13:Bool)=>
    some x13
 else
  (fL a0 w3_1 true).bind fun (x9:Bool)=>
  some x9
abbrev xO(w3_1:Bool)(x:Bool):St:=⟨[(1,(.p ⟨0,1⟩ 0)),(84,(.b x))],[(1,(aq a0))],H0⟩
theorem vX(w3_1:Bool)(x:Bool)(h:nR a0 w3_1=some x):dx G Ω0 E0 [1,84] [1] xM ⟨[(1,(.p ⟨0,1⟩ 0)),(3,(.b w3_1)),(4,(.b (a0.Kind==7)))],[(1,(aq a0))],H0⟩=some (xO a0 w3_1 x):=
 cC (bt<|.or (kS<|.or (bf<|bf<|bf<|bf<|bt<|bf<|bf<|bt<|bt<|bt<|bt<|xB fun r10=>eQ<|.jb (some 64) 20<|.ex fun (x12:Bool)=>ao (.jn ⟨[(1,(.p ⟨0,1⟩ 0)),(84,(.b x12))],[(1,(aq a0))],H0⟩)<|.nil) (cJ<|ao (.i (a0.Label.length:Int))<|Ar<|.or (Aw<|.jb (some 64) 20<|.ex fun (x11:Bool)=>ao (.jn ⟨[(1,(.p ⟨0,1⟩ 0)),(84,(.b x11))],[(1,(aq a0))],H0⟩)<|.nil) (cJ<|xB fun r11=>eQ<|.jb (some 64) 20<|.ex fun (x13:Bool)=>ao (.jn ⟨[(1,(.p ⟨0,1⟩ 0)),(84,(.b x13))],[(1,(aq a0))],H0⟩)<|.nil))) (bf<|bf<|bf<|bf<|bf<|bt<|bf<|bf<|bf<|bf<|bt<|.jb (some 64) 20<|.ex fun (x9:Bool)=>ao (.jn ⟨[(1,(.p ⟨0,1⟩ 0)),(84,(.b x9))],[(1,(aq a0))],H0⟩)<|.nil)) fun L=>ai (rfl:Z0)<|aA h (fun h8 h=>Aq (congrArg not h8)<|aA h (fun h9 h=>uN (congrArg not h9)<|ai (g0 (congrArg not h8))<|ai (congrArg not h9)<|ai (congrArg not h8)<|ai hf<|ai hf<|ai (rfl:Z0)<|ai hf<|ar h (qo a0.Label) fun r10 h=>ai hf<|ai ff<|ar h (jD a0 w3_1 (!r10) [(.b (!r10)),(.b r10),(.l 56 (a0.Label.map aL)),(.p ⟨0,1⟩ 5),(.b false),(.b false),(.b false),.sk,.sk,.sk,.sk,(.b (!a0.Given)),(.b (!a0.Given)),(.b a0.Given),(.p ⟨0,1⟩ 4)]) fun x12 h=>L h) (fun h9 h=>ek (congrArg not h9)<|ai (aK aL a0.Label)<|ai (g1 (congrArg not h9))<|ai (g0 (congrArg not h8))<|ai (congrArg not h9)<|ai (congrArg not h8)<|bq h (fun h10 h=>Ap (decide_eq_true h10)<|ar h (jD a0 w3_1 true [.sk,.sk,.sk,.sk,(.b (decide (0<(a0.Label.length:Int)))),(.b (decide (0<(a0.Label.length:Int)))),(.b (decide (0<(a0.Label.length:Int)))),(.b (decide (0<(a0.Label.length:Int)))),(I (a0.Label.length:Int)),(.l 56 (a0.Label.map aL)),(.p ⟨0,1⟩ 5),(.b (!a0.Given)),(.b (!a0.Given)),(.b a0.Given),(.p ⟨0,1⟩ 4)]) fun x11 h=>L h) (fun h10 h=>rh (decide_eq_false h10)<|ar h (qo a0.Label) fun r11 h=>iN (decide_eq_false h10)<|ar h (jD a0 w3_1 (!r11) [(.b (!r11)),(.b r11),(.l 56 (a0.Label.map aL)),(.p ⟨0,1⟩ 5),(.b (decide (0<(a0.Label.length:Int)))),(.b (decide (0<(a0.Label.length:Int)))),(.b (decide (0<(a0.Label.length:Int)))),(.b (decide (0<(a0.Label.length:Int)))),(I (a0.Label.length:Int)),(.l 56 (a0.Label.map aL)),(.p ⟨0,1⟩ 5),(.b (!a0.Given)),(.b (!a0.Given)),(.b a0.Given),(.p ⟨0,1⟩ 4)]) fun x13 h=>L h))) (fun h8 h=>ai (g0 (congrArg not h8))<|ai (g0 (congrArg not h8))<|ai (g0 (congrArg not h8))<|ai (g0 (congrArg not h8))<|ai (g0 (congrArg not h8))<|ai (congrArg not h8)<|ai ht<|ai ht<|ai ht<|ai ht<|ai tt<|ar h (jD a0 w3_1 true [.sk,.sk,.sk,.sk,(.b true),(.b true),.sk,.sk,.sk,.sk,.sk,.sk,.sk,.sk,.sk]) fun x9 h=>L h)
def fM(w3_1:Bool):Option Bool:=
 (nR a0 w3_1).bind fun (x8:Bool)=>
 if x8=true then
  some false
 else
  (di a0.Params).bind fun (r11:Bool)=>
  if r11=true then
   some false
  else
   (mX a0.Body).bind fun (r14:Bool)=>
   some r14
abbrev xP(a0:aJ)(w3_1:Bool)(x:Bool):aE×St:=(.ret,⟨[(2,(.b x))],[],H0⟩)
theorem jE(w3_1:Bool)(x:Bool)(h:fM a0 w3_1=some x):run G Ω0 E0 FH ⟨[(1,(.p ⟨0,1⟩ 0)),(3,(.b w3_1))],[(1,(aq a0))],H0⟩=some (xP a0 w3_1 x):=
 lX (bt<|.jb (some 43) 41<|.ex fun (x8:Bool)=>ao (.jn ⟨[(1,(.p ⟨0,1⟩ 0)),(84,(.b x8))],[(1,(aq a0))],H0⟩)<|oN (bt<|xB fun r11=>.or (ti<|.nil) (cJ<|xB fun r14=>bt<|.nil))) fun L=>ai (rfl:Z0)<|ar h (vX a0 w3_1) fun x8 h=>aA h (fun h10 h=>ai h10<|L h) (fun h10 h=>lK h10<|ar h (jM a0.Params) fun r11 h=>aA h (fun h13 h=>qP (congrArg not h13)<|L h) (fun h13 h=>ek (congrArg not h13)<|ar h (qt a0.Body) fun r14 h=>ai (congrArg not h13)<|L h))
abbrev BS(a0:aJ)(r:Bool):aW×HP:=(.ret (.b r),H0)
def ob:Option Bool:=
 (nQ a0).bind fun (x1:Bool)=>
 if x1=true then
  some false
 else
  if (a0.Kind==4)=true then
   (kC a0 (a0.Kind==4)).bind fun (x5:(Bool⊕Bool))=>match x5 with
   | .inl ya_6=>
    (fM a0 ya_6).bind fun (x8:Bool)=>
    some x8
   | .inr yb_6=>
    (fM a0 a0.Given).bind fun (x8:Bool)=>
    some x8
  else
   (kC a0 (a0.Kind==5)).bind fun (x5:(Bool⊕Bool))=>match x5 with
   | .inl ya_6=>
    (fM a0 ya_6).bind fun (x8:Bool)=>
    some x8
   | .inr yb_6=>
    (fM a0 a0.Given).bind fun (x8:Bool)=>
    some x8
theorem xQ(r:Bool)(h:ob a0=some r):call G Ω0 E0 11 [(.a (aq a0))] H0=some (BS a0 r):=
 aG Qp (.jb (some 5) 22<|.ex fun (x1:Bool)=>ao (.jn ⟨[(1,(.p ⟨0,1⟩ 0)),(27,(.b x1))],[(1,(aq a0))],H0⟩)<|oN (b9<|.or (bt<|.fb<|.or (.ex fun (ya_6:Bool)=>ao (.fr .nrm ⟨[(1,(.p ⟨0,1⟩ 0)),(3,(.b ya_6))],[(1,(aq a0))],H0⟩)<|.fb<|.ex fun (x8:Bool)=>ao (.fr .ret ⟨[(2,(.b x8))],[],H0⟩)<|.nil) (.ex fun (yb_6:Bool)=>ao (.fr .nrm ⟨[(1,(.p ⟨0,1⟩ 0)),(3,(.b a0.Given)),(35,(.b yb_6))],[(1,(aq a0))],H0⟩)<|.fb<|.ex fun (x8:Bool)=>ao (.fr .ret ⟨[(2,(.b x8))],[],H0⟩)<|.nil)) (bf<|.fb<|.or (.ex fun (ya_6:Bool)=>ao (.fr .nrm ⟨[(1,(.p ⟨0,1⟩ 0)),(3,(.b ya_6))],[(1,(aq a0))],H0⟩)<|.fb<|.ex fun (x8:Bool)=>ao (.fr .ret ⟨[(2,(.b x8))],[],H0⟩)<|.nil) (.ex fun (yb_6:Bool)=>ao (.fr .nrm ⟨[(1,(.p ⟨0,1⟩ 0)),(3,(.b a0.Given)),(35,(.b yb_6))],[(1,(aq a0))],H0⟩)<|.fb<|.ex fun (x8:Bool)=>ao (.fr .ret ⟨[(2,(.b x8))],[],H0⟩)<|.nil)))) fun L=>ai tt<|ar h (vW a0) fun x1 h=>aA h (fun h3 h=>ai h3<|L h) (fun h3 h=>ai h3<|ai (rfl:Z0)<|ai (rfl:Z0)<|aA h (fun h4 h=>ai h4<|bD h (qu a0 (a0.Kind==4)) (fun ya_6 h=>ar h (jE a0 ya_6) fun x8 h=>L h) (fun yb_6 h=>ar h (jE a0 a0.Given) fun x8 h=>L h)) (fun h4 h=>ai h4<|bD h (qu a0 (a0.Kind==5)) (fun ya_6 h=>ar h (jE a0 ya_6) fun x8 h=>L h) (fun yb_6 h=>ar h (jE a0 a0.Given) fun x8 h=>L h)))
abbrev xR(a0:aJ)(r:Bool):aW×HP:=(.ret (.b r),H0)
def kD:Option Bool:=
 (ob a0).bind fun (r1:Bool)=>
 some (!r1)
theorem uj(r:Bool)(h:kD a0=some r):call G Ω0 E0 10 [(.a (aq a0))] H0=some (xR a0 r):=
 aG Qo (bt<|xB fun r1=>.nil) fun L=>oS<|ar h (xQ a0) fun r1 h=>L h
end
section
variable (a0:(List aJ))
def fe(v0_8:Nat):Option (Nat⊕(Nat⊕(Nat×Bool))):=
 if (v0_8:Int)<(a0.length:Int) then
  (a0[v0_8]?).bind fun (y2:aJ)=>
  (kD y2).bind fun (r4:Bool)=>
  if r4=true then
   some (.inr (.inl v0_8))
  else
   if IntKind.i64.wrap ((v0_8:Int)+1)=((v0_8+1:Nat):Int) then
    some (.inl (v0_8+1))
   else none
 else
  some (.inr (.inr (v0_8,decide ((v0_8:Int)<(a0.length:Int)))))
abbrev lA(v:Nat):St:=⟨[(0,(.l 41 (a0.map ay))),(1,(.f 10 [])),(7,(I (a0.length:Int))),(8,(I (v:Int)))],[],H0⟩
abbrev lB(x:(Nat⊕(Nat×Bool))):aE×St:=match x with | .inl z1=>(.ret,⟨[(4,(I (z1:Int)))],[],H0⟩) | .inr (z1,z2)=>((.ex 0),⟨[(0,(.l 41 (a0.map ay))),(1,(.f 10 [])),(7,(I (a0.length:Int))),(8,(I (z1:Int))),(9,(.b z2))],[],H0⟩)
theorem kE(v0_8:Nat)(o:Nat⊕(Nat⊕(Nat×Bool)))(h:fe a0 v0_8=some o):bF E0 FW (lA a0) (lB a0) v0_8 o:=
 bP (.or (bt<|ao (.n v0_8)<|.ex fun (y2:aJ)=>ao (.v (.a (aq y2)))<|xB fun r4=>oN (ao (.i ((v0_8+1:Nat):Int))<|.nil)) (bf<|.nil)) fun L=>bq h (fun h1 h=>ai (decide_eq_true h1)<|ai (rI v0_8)<|cu h fun y2 h3 h=>ai (cT ay h3)<|ar h (uj y2) fun r4 h=>aA h (fun h6 h=>ai h6<|L h) (fun h6 h=>ai h6<|aY h fun w7 h=>ai w7<|L h)) (fun h1 h=>ai (decide_eq_false h1)<|L h)
abbrev mj(a0:(List aJ))(r:Int):aW×HP:=(.ret (I r),H0)
def gh:Option Int:=
 (lp (fun v=>fe a0 v) 0).bind fun (x1:(Nat⊕(Nat×Bool)))=>match x1 with
 | .inl ya_2=>
  some (ya_2:Int)
 | .inr yb_2=>
  some (-1)
theorem kF(r:Int)(h:gh a0=some r):call G Ω0 E0 22 [(.l 41 (a0.map ay)),(.f 10 [])] H0=some (mj a0 r):=
 aG Qy (ao (.i (a0.length:Int))<|.or (.ex fun (ya_2:Nat)=>ao (.lp .ret ⟨[(4,(I (ya_2:Int)))],[],H0⟩)<|.nil) (.ex fun (yb_2:(Nat×Bool))=>ao (.lp (.ex 0) ⟨[(0,(.l 41 (a0.map ay))),(1,(.f 10 [])),(7,(I (a0.length:Int))),(8,(I (yb_2.1:Int))),(9,(.b yb_2.2))],[],H0⟩)<|.nil)) fun L=>ai (aK ay a0)<|bD h (e5 (kE a0) 0) (fun ya_2 h=>L h) (fun yb_2 h=>L h)
abbrev kG(a0:(List aJ))(r:Bool):aW×HP:=(.ret (.b r),H0)
def cZ:Option Bool:=
 (gh a0).bind fun (r1:Int)=>
 some (decide (0≤r1))
theorem ju(r:Bool)(h:cZ a0=some r):call G Ω0 E0 9 [(.l 41 (a0.map ay)),(.f 10 [])] H0=some (kG a0 r):=
 aG G9 (xI fun r1=>.nil) fun L=>ar h (kF a0) fun r1 h=>L h
end
section
variable (a0:Tree)
abbrev AK(a0:Tree)(r:Int):aW×HP:=(.ret (I r),H0)
def mY:Option Int:=
 (mR a0).bind fun (r1:Bool)=>
 if r1=true then
  some 2
 else
  (cZ a0.Decls).bind fun (r4:Bool)=>
  if r4=true then
   some 1
  else
   (mX a0.Main).bind fun (r7:Bool)=>
   if r7=true then
    some 0
   else
    some 1
theorem vY(r:Int)(h:mY a0=some r):call G Ω0 E0 5 [(.a [(.l 41 (a0.Decls.map ay)),(.l 36 (a0.Main.map ab))])] H0=some (AK a0 r):=
 aG G5 (bt<|xB fun r1=>oN (bt<|xB fun r4=>.or (As<|.nil) (cJ<|xB fun r7=>eQ<|.or (bf<|.nil) (bt<|.nil)))) fun L=>oS<|ar h (vJ a0) fun r1 h=>aA h (fun h3 h=>ai h3<|L h) (fun h3 h=>lK h3<|ar h (ju a0.Decls) fun r4 h=>aA h (fun h6 h=>DX h6<|L h) (fun h6 h=>rh h6<|ar h (qt a0.Main) fun r7 h=>iN h6<|aA h (fun h9 h=>ai (congrArg not h9)<|L h) (fun h9 h=>ai (congrArg not h9)<|L h)))
end
end
end Go.Proofs.YtphgedfhcncobaaGreatDoor.A
