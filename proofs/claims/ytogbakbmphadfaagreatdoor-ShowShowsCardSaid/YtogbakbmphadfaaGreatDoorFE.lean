/- Functions of the program as plain functions, by program. -/
import Derived.Test.YtogbakbmphadfaaGreatDoorTypes
import Derived.Test.YtogbakbmphadfaaGreatDoorLift
import Derived.Test.YtogbakbmphadfaaGreatDoorFB
set_option maxRecDepth 100000
set_option linter.unusedSectionVars false
set_option linter.unusedVariables false
set_option linter.unusedSimpArgs false
set_option linter.constructorNameAsVariable false
namespace Go.Proofs.YtogbakbmphadfaaGreatDoor.A
open Go
noncomputable section
variable [Lp]
section
variable (a0:aD)
abbrev BL(a0:aD)(r:Bool):aZ×HP:=(.ret (.b r),H0)
def mA:Option Bool:=
 some (decide (6<(a0.Names.length:Int)))
theorem yD(r:Bool)(h:mA a0=some r):call G Ω0 E0 50 [(.a (cY a0))] H0=some (BL a0 r):=
 aH G50 (bt<|ao (.i (a0.Names.length:Int))<|.nil) fun L=>od<|ai (aO AV.s a0.Names)<|L h
end
section
variable (a0:(List aD))
def gT(v0_8:Nat):Option (Nat⊕(Nat⊕(Nat×Bool))):=
 if (v0_8:Int)<(a0.length:Int) then
  (a0[v0_8]?).bind fun (y2:aD)=>
  (mA y2).bind fun (r4:Bool)=>
  if r4=true then
   some (.inr (.inl v0_8))
  else
   if IntKind.i64.wrap ((v0_8:Int)+1)=((v0_8+1:Nat):Int) then
    some (.inl (v0_8+1))
   else none
 else
  some (.inr (.inr (v0_8,decide ((v0_8:Int)<(a0.length:Int)))))
abbrev nK(v:Nat):St:=⟨[(0,(.l 74 (a0.map aA))),(1,(.f 50 [])),(7,(I (a0.length:Int))),(8,(I (v:Int)))],[],H0⟩
abbrev nL(x:(Nat⊕(Nat×Bool))):aK×St:=match x with | .inl z1=>(.ret,⟨[(4,(I (z1:Int)))],[],H0⟩) | .inr (z1,z2)=>((.ex 0),⟨[(0,(.l 74 (a0.map aA))),(1,(.f 50 [])),(7,(I (a0.length:Int))),(8,(I (z1:Int))),(9,(.b z2))],[],H0⟩)
theorem mB(v0_8:Nat)(o:Nat⊕(Nat⊕(Nat×Bool)))(h:gT a0 v0_8=some o):bH E0 HY (nK a0) (nL a0) v0_8 o:=
 bV (.or (bt<|ao (.n v0_8)<|.ex fun (y2:aD)=>ao (.v (.a (cY y2)))<|xB fun r4=>oN (ao (.i ((v0_8+1:Nat):Int))<|.nil)) (bf<|.nil)) fun L=>bu h (fun h1 h=>ai (decide_eq_true h1)<|ai (rI v0_8)<|br h fun y2 h3 h=>ai (cj aA h3)<|aw h (yD y2) fun r4 h=>aJ h (fun h6 h=>ai h6<|L h) (fun h6 h=>ai h6<|aj h fun w7 h=>ai w7<|L h)) (fun h1 h=>ai (decide_eq_false h1)<|L h)
abbrev oP(a0:(List aD))(r:Int):aZ×HP:=(.ret (I r),H0)
def iU:Option Int:=
 (lp (fun v=>gT a0 v) 0).bind fun (x1:(Nat⊕(Nat×Bool)))=>match x1 with
 | .inl ya_2=>
  some (ya_2:Int)
 | .inr yb_2=>
  some (-1)
theorem mC(r:Int)(h:iU a0=some r):call G Ω0 E0 86 [(.l 74 (a0.map aA)),(.f 50 [])] H0=some (oP a0 r):=
 aH YQ (ao (.i (a0.length:Int))<|.or (.ex fun (ya_2:Nat)=>ao (.lp .ret ⟨[(4,(I (ya_2:Int)))],[],H0⟩)<|.nil) (.ex fun (yb_2:(Nat×Bool))=>ao (.lp (.ex 0) ⟨[(0,(.l 74 (a0.map aA))),(1,(.f 50 [])),(7,(I (a0.length:Int))),(8,(I (yb_2.1:Int))),(9,(.b yb_2.2))],[],H0⟩)<|.nil)) fun L=>ai (aO aA a0)<|bW h (eH (mB a0) 0) (fun ya_2 h=>L h) (fun yb_2 h=>L h)
abbrev mD(a0:(List aD))(r:Bool):aZ×HP:=(.ret (.b r),H0)
def ea:Option Bool:=
 (iU a0).bind fun (r1:Int)=>
 some (decide (0≤r1))
theorem lC(r:Bool)(h:ea a0=some r):call G Ω0 E0 49 [(.l 74 (a0.map aA)),(.f 50 [])] H0=some (mD a0 r):=
 aH YO (xI fun r1=>.nil) fun L=>aw h (mC a0) fun r1 h=>L h
end
section
variable (a0:ad)(a1:Int)
abbrev GN(a0:ad)(a1:Int)(r:Int):aZ×HP:=(.ret (I r),H0)
abbrev uz(r:Int):Prop:=call G Ω0 E0 51 [(.a (aY a0)),(I a1)] H0=some (GN a0 a1 r)
end
structure uA where
 f_tree_size:ad→Int→Option Int
structure sM(R:uA):Prop where
 f_tree_size:∀ (a0:ad)(a1:Int)(r:Int),R.f_tree_size a0 a1=some r→uz a0 a1 r
section
variable (R:uA)(a0:ad)(a1:Int)
def fj(v0_5:Int)(v0_11:Nat):Option ((Int×Nat)⊕((Int×Nat×Bool×ad)⊕(Int×Nat×Bool))):=
 if (v0_11:Int)<(a0.Args.length:Int) then
  (a0.Args[v0_11]?).bind fun (y2:ad)=>
  if a1<v0_5 then
   some (.inr (.inl (v0_5,v0_11,decide (a1<v0_5),y2)))
  else
   if IntKind.i64.wrap (a1 - v0_5)=a1 - v0_5 then
    (R.f_tree_size y2 (a1 - v0_5)).bind fun (r6:Int)=>
    if IntKind.i64.wrap (v0_5+r6)=v0_5+r6 then
     if IntKind.i64.wrap ((v0_11:Int)+1)=((v0_11+1:Nat):Int) then
      some (.inl (v0_5+r6,v0_11+1))
     else none
    else none
   else none
 else
  some (.inr (.inr (v0_5,v0_11,decide ((v0_11:Int)<(a0.Args.length:Int)))))
abbrev DP(v:(Int×Nat)):St:=⟨[(1,(I a1)),(5,(I v.1)),(9,(.l 44 (a0.Args.map av))),(10,(I (a0.Args.length:Int))),(11,(I (v.2:Int)))],[],H0⟩
abbrev DQ(x:((Int×Nat×Bool×ad)⊕(Int×Nat×Bool))):aK×St:=match x with | .inl (z1,z2,z3,z4)=>((.ex 0),⟨[(1,(I a1)),(5,(I z1)),(7,(.p ⟨0,7⟩ 0)),(9,(.l 44 (a0.Args.map av))),(10,(I (a0.Args.length:Int))),(11,(I (z2:Int))),(17,(.b z3))],[(7,(aY z4))],H0⟩) | .inr (z1,z2,z3)=>((.ex 0),⟨[(1,(I a1)),(5,(I z1)),(9,(.l 44 (a0.Args.map av))),(10,(I (a0.Args.length:Int))),(11,(I (z2:Int))),(12,(.b z3))],[],H0⟩)
theorem BM(hR:sM R)(a0:ad)(a1:Int)(v0_5:Int)(v0_11:Nat)(o:(Int×Nat)⊕((Int×Nat×Bool×ad)⊕(Int×Nat×Bool)))(h:fj R a0 a1 v0_5 v0_11=some o):bH E0 L7 (DP a0 a1) (DQ a0 a1) (v0_5,v0_11) o:=
 bV (.or (bt<|ao (.n v0_11)<|.ex fun (y2:ad)=>ao (.v (.a (aY y2)))<|cu<|oN (bt<|ao (.i (a1 - v0_5))<|xI fun r6=>ao (.i (v0_5+r6))<|ao (.i ((v0_11+1:Nat):Int))<|.nil)) (bf<|.nil)) fun L=>bu h (fun h1 h=>ai (decide_eq_true h1)<|ai (rI v0_11)<|br h fun y2 h3 h=>ai (cX av h3 (b9 _))<|ai tt<|ai ff<|ai (rfl:Z0)<|ai tt<|ai (rfl:Z0)<|bu h (fun h4 h=>ai (decide_eq_true h4)<|L h) (fun h4 h=>fO (decide_eq_false h4)<|aj h fun w5 h=>ai w5<|aw h (hR.f_tree_size y2 (a1 - v0_5)) fun r6 h=>aj h fun w8 h=>ai w8<|aj h fun w9 h=>ai w9<|L h)) (fun h1 h=>ai (decide_eq_false h1)<|L h)
def pM:Option Int:=
 (lp (fun v=>fj R a0 a1 v.1 v.2) (1,0)).bind fun (x1:((Int×Nat×Bool×ad)⊕(Int×Nat×Bool)))=>match x1 with
 | .inl ya_2=>
  some ya_2.1
 | .inr yb_2=>
  some yb_2.1
theorem Ap(hR:sM R)(a0:ad)(a1:Int)(r:Int)(h:pM R a0 a1=some r):uz a0 a1 r:=
 aH G51 (bt<|ao (.i (a0.Args.length:Int))<|.or (.ex fun (ya_2:(Int×Nat×Bool×ad))=>ao (.lp (.ex 0) ⟨[(1,(I a1)),(5,(I ya_2.1)),(7,(.p ⟨0,7⟩ 0)),(9,(.l 44 (a0.Args.map av))),(10,(I (a0.Args.length:Int))),(11,(I (ya_2.2.1:Int))),(17,(.b ya_2.2.2.1))],[(7,(aY ya_2.2.2.2))],H0⟩)<|.nil) (.ex fun (yb_2:(Int×Nat×Bool))=>ao (.lp (.ex 0) ⟨[(1,(I a1)),(5,(I yb_2.1)),(9,(.l 44 (a0.Args.map av))),(10,(I (a0.Args.length:Int))),(11,(I (yb_2.2.1:Int))),(12,(.b yb_2.2.2))],[],H0⟩)<|.nil)) fun L=>od<|ai (aO av a0.Args)<|bW h (eH (fun v=>BM R hR a0 a1 v.1 v.2) (1,0)) (fun ya_2 h=>L h) (fun yb_2 h=>L h)
def ir:Nat→uA
 | 0=>⟨fun z0 z1=>none⟩
 | n+1=>⟨pM (ir n)⟩
theorem xt:∀ n,sM (ir n)
 | 0=>⟨fun _ _ r h=>(by cases h)⟩
 | n+1=>⟨fun a0 a1 r h=>Ap _ (xt n) a0 a1 r h⟩
def oe:Option Int:=ev fun n=>(ir n).f_tree_size a0 a1
theorem qx(r:Int)(h:oe a0 a1=some r):uz a0 a1 r:=by
 obtain ⟨n,hn⟩:=iD h
 exact (xt n).f_tree_size a0 a1 r hn
abbrev u5(a0:ad)(r:Bool):aZ×HP:=(.ret (.b r),H0)
def gy:Option Bool:=
 (oe a0 15).bind fun (r1:Int)=>
 some (decide (15<r1))
theorem sN(r:Bool)(h:gy a0=some r):call G Ω0 E0 88 [(.a (aY a0))] H0=some (u5 a0 r):=
 aH G88 (bt<|xI fun r1=>.nil) fun L=>od<|aw h (qx a0 15) fun r1 h=>L h
end
section
variable (a0:(List ad))
def eV(v0_8:Nat):Option (Nat⊕(Nat⊕(Nat×Bool))):=
 if (v0_8:Int)<(a0.length:Int) then
  (a0[v0_8]?).bind fun (y2:ad)=>
  (gy y2).bind fun (r4:Bool)=>
  if r4=true then
   some (.inr (.inl v0_8))
  else
   if IntKind.i64.wrap ((v0_8:Int)+1)=((v0_8+1:Nat):Int) then
    some (.inl (v0_8+1))
   else none
 else
  some (.inr (.inr (v0_8,decide ((v0_8:Int)<(a0.length:Int)))))
abbrev kC(v:Nat):St:=⟨[(0,(.l 44 (a0.map av))),(1,(.f 88 [])),(7,(I (a0.length:Int))),(8,(I (v:Int)))],[],H0⟩
abbrev kD(x:(Nat⊕(Nat×Bool))):aK×St:=match x with | .inl z1=>(.ret,⟨[(4,(I (z1:Int)))],[],H0⟩) | .inr (z1,z2)=>((.ex 0),⟨[(0,(.l 44 (a0.map av))),(1,(.f 88 [])),(7,(I (a0.length:Int))),(8,(I (z1:Int))),(9,(.b z2))],[],H0⟩)
theorem kq(v0_8:Nat)(o:Nat⊕(Nat⊕(Nat×Bool)))(h:eV a0 v0_8=some o):bH E0 Ak (kC a0) (kD a0) v0_8 o:=
 bV (.or (bt<|ao (.n v0_8)<|.ex fun (y2:ad)=>ao (.v (.a (aY y2)))<|xB fun r4=>oN (ao (.i ((v0_8+1:Nat):Int))<|.nil)) (bf<|.nil)) fun L=>bu h (fun h1 h=>ai (decide_eq_true h1)<|ai (rI v0_8)<|br h fun y2 h3 h=>ai (cX av h3 (b9 _))<|aw h (sN y2) fun r4 h=>aJ h (fun h6 h=>ai h6<|L h) (fun h6 h=>ai h6<|aj h fun w7 h=>ai w7<|L h)) (fun h1 h=>ai (decide_eq_false h1)<|L h)
abbrev lb(a0:(List ad))(r:Int):aZ×HP:=(.ret (I r),H0)
def fk:Option Int:=
 (lp (fun v=>eV a0 v) 0).bind fun (x1:(Nat⊕(Nat×Bool)))=>match x1 with
 | .inl ya_2=>
  some (ya_2:Int)
 | .inr yb_2=>
  some (-1)
theorem kr(r:Int)(h:fk a0=some r):call G Ω0 E0 109 [(.l 44 (a0.map av)),(.f 88 [])] H0=some (lb a0 r):=
 aH Kq (ao (.i (a0.length:Int))<|.or (.ex fun (ya_2:Nat)=>ao (.lp .ret ⟨[(4,(I (ya_2:Int)))],[],H0⟩)<|.nil) (.ex fun (yb_2:(Nat×Bool))=>ao (.lp (.ex 0) ⟨[(0,(.l 44 (a0.map av))),(1,(.f 88 [])),(7,(I (a0.length:Int))),(8,(I (yb_2.1:Int))),(9,(.b yb_2.2))],[],H0⟩)<|.nil)) fun L=>ai (aO av a0)<|bW h (eH (kq a0) 0) (fun ya_2 h=>L h) (fun yb_2 h=>L h)
abbrev kt(a0:(List ad))(r:Bool):aZ×HP:=(.ret (.b r),H0)
def dk:Option Bool:=
 (fk a0).bind fun (r1:Int)=>
 some (decide (0≤r1))
theorem jH(r:Bool)(h:dk a0=some r):call G Ω0 E0 87 [(.l 44 (a0.map av)),(.f 88 [])] H0=some (kt a0 r):=
 aH PS (xI fun r1=>.nil) fun L=>aw h (kr a0) fun r1 h=>L h
end
section
variable (dp:Nat)(hp:HP)(k0:Key)(c0:bU)(a0:(List aa))(a1:Int)
abbrev wP(dp:Nat)(hp:HP)(k0:Key)(c0:bU)(a0:(List aa))(a1:Int)(r:(Bool×bU)):aZ×HP:=(.ret (.b r.1),aB hp k0 [(I r.2.stmts)])
abbrev lD(r:(Bool×bU)):Prop:=call G Ω0 ⟨dp,false⟩ 52 [(.p k0 0),(.l 68 (a0.map ab)),(I a1)] (aB hp k0 [(I c0.stmts)])=some (wP dp hp k0 c0 a0 a1 r)
end
structure fD where
 f_tree_counter_much:bU→(List aa)→Int→Option (Bool×bU)
structure eZ(R:fD):Prop where
 f_tree_counter_much:∀ (dp:Nat)(hp:HP)(k0:Key)(hk_k0:k0.dp<dp)(hz:cJ dp hp)(c0:bU)(a0:(List aa))(a1:Int)(r:(Bool×bU)),R.f_tree_counter_much c0 a0 a1=some r→lD dp hp k0 c0 a0 a1 r
section
variable (R:fD)(a0:(List aa))(a1:Int)(dp:Nat)(hp:HP)(k0:Key)(c0:bU)
def uB:List cL:=(gM 29 0)::(gp 30 (.nc 29))::(gF 31 0 30)::(gQ 32 31)::(gB 33 .gtr 32 (kI 50))::(gM 34 33)::⟨some 35,.fa 4 8,some ⟨34,false⟩,false⟩::⟨some 36,.ld (some 5) 35,some ⟨34,false⟩,false⟩::⟨some 37,.ca 0 51 [36,(kI 15)],some ⟨34,false⟩,false⟩::⟨some 38,.bo .gtr false 37 (kI 15),some ⟨34,false⟩,false⟩::(gp 39 (.pk 34 (.c (.b true)) 38))::(gM 40 39)::⟨some 41,.fa 9 8,some ⟨40,false⟩,false⟩::⟨some 42,.ld none 41,some ⟨40,false⟩,false⟩::⟨some 43,.ln false 42,some ⟨40,false⟩,false⟩::⟨some 44,.bo .gtr false 43 (kI 4),some ⟨40,false⟩,false⟩::(gp 45 (.pk 40 (.c (.b true)) 44))::(gM 46 45)::⟨some 47,.fa 9 8,some ⟨46,false⟩,false⟩::⟨some 48,.ld none 47,some ⟨46,false⟩,false⟩::⟨some 49,.c2 87 [48,(.c (.f 88 []))],some ⟨46,false⟩,false⟩::(gp 50 (.pk 46 (.c (.b true)) 49))::[]
def fQ(R:fD)(a0:(List aa))(a1:Int)(v0_18:Nat)(v0_k0_0:Int)(y4:aa):Option Bool:=
 if 50<(v0_k0_0+1) then
  some true
 else
  (oe y4.Expr 15).bind fun (r8:Int)=>
  if 15<r8 then
   some true
  else
   if 4<(y4.Args.length:Int) then
    some true
   else
    (dk y4.Args).bind fun (r12:Bool)=>
    some r12
abbrev uC(a0:(List aa))(a1:Int)(v0_18:Nat)(v0_k0_0:Int)(y4:aa)(x:Bool):St:=⟨[(0,(.p k0 0)),(2,(I a1)),(8,(.p ⟨dp,8⟩ 0)),(16,(.l 68 (a0.map ab))),(17,(I (a0.length:Int))),(18,(I (v0_18:Int))),(50,(.b x))],[(8,(ag y4))],aB hp k0 [(I (v0_k0_0+1))]⟩
theorem tA(hR:eZ R)(dp:Nat)(hp:HP)(k0:Key)(hk_k0:k0.dp<dp)(hz:cJ dp hp)(a0:(List aa))(a1:Int)(v0_18:Nat)(v0_k0_0:Int)(y4:aa)(x:Bool)(h:fQ R a0 a1 v0_18 v0_k0_0 y4=some x):eB G Ω0 ⟨dp,false⟩ [0,2,8,16,17,18,50] [0,8] uB ⟨[(0,(.p k0 0)),(2,(I a1)),(8,(.p ⟨dp,8⟩ 0)),(16,(.l 68 (a0.map ab))),(17,(I (a0.length:Int))),(18,(I (v0_18:Int)))],[(8,(ag y4))],aB hp k0 [(I (v0_k0_0+1))]⟩=some (uC dp hp k0 a0 a1 v0_18 v0_k0_0 y4 x):=
 dv (bf<|ao (.l [(I (v0_k0_0+1))])<|.or (bf<|bf<|bf<|bf<|bt<|bf<|bf<|bf<|bf<|bt<|bf<|bf<|bf<|bt<|.nil) (dD<|xI fun r8=>jG<|.or (bf<|bf<|bf<|bf<|bt<|bf<|bf<|bf<|bt<|.nil) (dD<|ao (.i (y4.Args.length:Int))<|jG<|.or (Ic<|.nil) (dD<|xB fun r12=>bf<|.nil)))) fun L=>ai (Nat.ne_of_lt hk_k0)<|ai (aM hp k0 [(I (v0_k0_0+1))])<|bu h (fun h7 h=>ai (g0 (decide_eq_true h7))<|ai (g0 (decide_eq_true h7))<|ai (g0 (decide_eq_true h7))<|ai (g0 (decide_eq_true h7))<|ai (decide_eq_true h7)<|ai ht<|ai ht<|ai ht<|ai ht<|ai tt<|ai ht<|ai ht<|ai ht<|ai tt<|L h) (fun h7 h=>Dq (decide_eq_false h7)<|ai (rN dp)<|ai (g0 (decide_eq_false h7))<|aw h (qx y4.Expr 15) fun r8 h=>o9 (decide_eq_false h7)<|bu h (fun h10 h=>ai (g0 (decide_eq_true h10))<|ai (g0 (decide_eq_true h10))<|ai (g0 (decide_eq_true h10))<|ai (g0 (decide_eq_true h10))<|ai (decide_eq_true h10)<|ai ht<|ai ht<|ai ht<|ai tt<|L h) (fun h10 h=>Dq (decide_eq_false h10)<|ai (rN dp)<|ai (g0 (decide_eq_false h10))<|ai (aO av y4.Args)<|o9 (decide_eq_false h10)<|bu h (fun h11 h=>Mq (decide_eq_true h11)<|L h) (fun h11 h=>Dq (decide_eq_false h11)<|ai (rN dp)<|ai (g0 (decide_eq_false h11))<|aw h (jH y4.Args) fun r12 h=>ai (decide_eq_false h11)<|L h)))
def bC(v0_18:Nat)(v0_k0_0:Int):Option ((Nat×Int)⊕(Int⊕(Nat×Bool×Int))):=
 if (v0_18:Int)<(a0.length:Int) then
  (a0[v0_18]?).bind fun (y4:aa)=>
  if IntKind.i64.wrap (v0_k0_0+1)=v0_k0_0+1 then
   (fQ R a0 a1 v0_18 v0_k0_0 y4).bind fun (x7:Bool)=>
   if x7=true then
    some (.inr (.inl (v0_k0_0+1)))
   else
    if IntKind.i64.wrap (a1+1)=a1+1 then
     (R.f_tree_counter_much (⟨v0_k0_0+1⟩:bU) y4.Then (a1+1)).bind fun (r11:(Bool×bU))=>
     if r11.1=true then
      some (.inr (.inl r11.2.stmts))
     else
      (R.f_tree_counter_much r11.2 y4.Else (a1+1)).bind fun (r14:(Bool×bU))=>
      if r14.1=true then
       some (.inr (.inl r14.2.stmts))
      else
       if IntKind.i64.wrap ((v0_18:Int)+1)=((v0_18+1:Nat):Int) then
        some (.inl (v0_18+1,r14.2.stmts))
       else none
    else none
  else none
 else
  some (.inr (.inr (v0_18,decide ((v0_18:Int)<(a0.length:Int)),v0_k0_0)))
abbrev u6(dp:Nat)(hp:HP)(k0:Key)(a0:(List aa))(a1:Int)(v:(Nat×Int)):St:=⟨[(0,(.p k0 0)),(2,(I a1)),(16,(.l 68 (a0.map ab))),(17,(I (a0.length:Int))),(18,(I (v.1:Int)))],[],aB hp k0 [(I v.2)]⟩
abbrev u7(dp:Nat)(hp:HP)(k0:Key)(a0:(List aa))(a1:Int)(x:(Int⊕(Nat×Bool×Int))):aK×St:=match x with | .inl z1=>(.ret,⟨[(6,(.b true))],[],aB hp k0 [(I z1)]⟩) | .inr (z1,z2,z3)=>((.ex 0),⟨[(0,(.p k0 0)),(2,(I a1)),(16,(.l 68 (a0.map ab))),(17,(I (a0.length:Int))),(18,(I (z1:Int))),(19,(.b z2))],[],aB hp k0 [(I z3)]⟩)
theorem uD(hR:eZ R)(dp:Nat)(hp:HP)(k0:Key)(hk_k0:k0.dp<dp)(hz:cJ dp hp)(a0:(List aa))(a1:Int)(v0_18:Nat)(v0_k0_0:Int)(o:(Nat×Int)⊕(Int⊕(Nat×Bool×Int)))(h:bC R a0 a1 v0_18 v0_k0_0=some o):bH ⟨dp,false⟩ L8 (u6 dp hp k0 a0 a1) (u7 dp hp k0 a0 a1) (v0_18,v0_k0_0) o:=
 bV (.or (bt<|ao (.n v0_18)<|.ex fun (y4:aa)=>ao (.v (.a (ag y4)))<|yR<|ao (.l [(I v0_k0_0)])<|ao (.i (v0_k0_0+1))<|bf<|ao (.l [(I v0_k0_0)])<|bf<|ao (.h (aB hp k0 [(I (v0_k0_0+1))]))<|.jb (some 29) 21<|.ex fun (x7:Bool)=>ao (.jn ⟨[(0,(.p k0 0)),(2,(I a1)),(8,(.p ⟨dp,8⟩ 0)),(16,(.l 68 (a0.map ab))),(17,(I (a0.length:Int))),(18,(I (v0_18:Int))),(50,(.b x7))],[(8,(ag y4))],aB hp k0 [(I (v0_k0_0+1))]⟩)<|oN (bt<|ao (.i (a1+1))<|.ex fun (r11:(Bool×bU))=>ao (.v (.b r11.1))<|ao (.h (boxes dp [(8,(ag y4))] (aB hp k0 [(I r11.2.stmts)])))<|ao (.bx [(8,(ag y4))])<|ao (.h (aB hp k0 [(I r11.2.stmts)]))<|.or (bf<|bf<|bf<|bf<|bf<|bf<|bt<|bt<|.nil) (E7<|ao (.i (a1+1))<|bt<|.ex fun (r14:(Bool×bU))=>ao (.v (.b r14.1))<|ao (.h (boxes dp [(8,(ag y4))] (aB hp k0 [(I r14.2.stmts)])))<|ao (.bx [(8,(ag y4))])<|ao (.h (aB hp k0 [(I r14.2.stmts)]))<|bf<|oN (ao (.i ((v0_18+1:Nat):Int))<|.nil)))) (bf<|.nil)) fun L=>bu h (fun h3 h=>ai (decide_eq_true h3)<|ai (rI v0_18)<|br h fun y4 h5 h=>ai (cX ab h5 (dR _))<|ai ((by simp [ag,AV.bn,AV.bY,AV.deep,AV.dB,ct hk_k0,Nat.le_of_lt hk_k0]):(([(21,(.a (ag y4))),(20,(.e (.a (ag y4)) 0)),(0,(.p k0 0)),(2,(I a1)),(16,(.l 68 (a0.map ab))),(17,(I (a0.length:Int))),(18,(I (v0_18:Int)))]:List (Nat×AV)).all (fun y=>y.2.bn ⟨dp,8⟩)&&([]:List (Nat×List AV)).all (fun y=>AV.bY ⟨dp,8⟩ y.2))=true)<|ai ff<|ai (rN dp)<|ai tt<|ai (rN dp)<|ai (Nat.ne_of_lt hk_k0)<|ai (aM hp k0 [(I v0_k0_0)])<|aj h fun w6 h=>ai w6<|ai ff<|ai (Nat.ne_of_lt hk_k0)<|ai (aM hp k0 [(I v0_k0_0)])<|ai tt<|ai (Nat.ne_of_lt hk_k0)<|ai (ew hp k0 [(I v0_k0_0)] [(I (v0_k0_0+1))])<|aw h (tA R hR dp hp k0 hk_k0 hz a0 a1 v0_18 v0_k0_0 y4) fun x7 h=>aJ h (fun h9 h=>ai h9<|L h) (fun h9 h=>ai h9<|ai (rN dp)<|aj h fun w10 h=>ai w10<|nC<|br h fun r11 ek12 h=>have ek12:=cO hk_k0 (hR.f_tree_counter_much (dp+1) (boxes dp [(8,(ag y4))] (aB hp k0 [(I (v0_k0_0+1))])) k0 (Nat.lt_succ_of_lt hk_k0) (bj (a7 hk_k0 (hz))) (⟨v0_k0_0+1⟩:bU) y4.Then (a1+1) _ ek12);ai ek12<|ai (fB ek12 (by kernel_rfl) (by kernel_rfl))<|ai (fC ek12 (a7 hk_k0 (hz)))<|aJ h (fun h13 h=>ai (g0 h13)<|ai (g0 h13)<|ai (g0 h13)<|ai (g0 h13)<|ai (g0 h13)<|ai (g0 h13)<|ai h13<|ai tt<|L h) (fun h13 h=>E1 h13<|ai (rN dp)<|Dq h13<|ai w10<|ai (g0 h13)<|ai ff<|ai tt<|br h fun r14 ek15 h=>have ek15:=cO hk_k0 (hR.f_tree_counter_much (dp+1) (boxes dp [(8,(ag y4))] (aB hp k0 [(I r11.2.stmts)])) k0 (Nat.lt_succ_of_lt hk_k0) (bj (a7 hk_k0 (hz))) r11.2 y4.Else (a1+1) _ ek15);ai ek15<|ai (fB ek15 (by kernel_rfl) (by kernel_rfl))<|ai (fC ek15 (a7 hk_k0 (hz)))<|ai h13<|aJ h (fun h16 h=>ai h16<|L h) (fun h16 h=>ai h16<|aj h fun w17 h=>ai w17<|L h)))) (fun h3 h=>ai (decide_eq_false h3)<|L h)
def fR(a0:(List aa))(a1:Int):Option (Bool×Int):=
 (lp (fun v=>bC R a0 a1 v.1 v.2) (0,c0.stmts)).bind fun (x3:(Int⊕(Nat×Bool×Int)))=>match x3 with
 | .inl ya_4=>
  some (true,ya_4)
 | .inr yb_4=>
  some (false,yb_4.2.2)
abbrev uE(dp:Nat)(hp:HP)(k0:Key)(c0:bU)(a0:(List aa))(a1:Int)(x:(Bool×Int)):aK×St:=(.ret,⟨[(6,(.b x.1))],[],aB hp k0 [(I x.2)]⟩)
theorem nD(hR:eZ R)(dp:Nat)(hp:HP)(k0:Key)(hk_k0:k0.dp<dp)(hz:cJ dp hp)(c0:bU)(a0:(List aa))(a1:Int)(x:(Bool×Int))(h:fR R c0 a0 a1=some x):run G Ω0 ⟨dp,false⟩ L9 ⟨[(0,(.p k0 0)),(1,(.l 68 (a0.map ab))),(2,(I a1))],[],aB hp k0 [(I c0.stmts)]⟩=some (uE dp hp k0 c0 a0 a1 x):=
 fP (ao (.i (a0.length:Int))<|.or (.ex fun (ya_4:Int)=>ao (.lp .ret ⟨[(6,(.b true))],[],aB hp k0 [(I ya_4)]⟩)<|.nil) (.ex fun (yb_4:(Nat×Bool×Int))=>ao (.lp (.ex 0) ⟨[(0,(.p k0 0)),(2,(I a1)),(16,(.l 68 (a0.map ab))),(17,(I (a0.length:Int))),(18,(I (yb_4.1:Int))),(19,(.b yb_4.2.1))],[],aB hp k0 [(I yb_4.2.2)]⟩)<|.nil)) fun L=>ai (aO ab a0)<|bW h (eH (fun v=>uD R hR dp hp k0 hk_k0 hz a0 a1 v.1 v.2) (0,c0.stmts)) (fun ya_4 h=>L h) (fun yb_4 h=>L h)
def ig(a0:(List aa))(a1:Int):Option (Bool×bU):=
 if 0<(a0.length:Int) then
  if 6<a1 then
   some (true,c0)
  else
   (fR R c0 a0 a1).bind fun (x3:(Bool×Int))=>
   some (x3.1,(⟨x3.2⟩:bU))
 else
  (fR R c0 a0 a1).bind fun (x2:(Bool×Int))=>
  some (x2.1,(⟨x2.2⟩:bU))
theorem tB(hR:eZ R)(dp:Nat)(hp:HP)(k0:Key)(hk_k0:k0.dp<dp)(hz:cJ dp hp)(c0:bU)(a0:(List aa))(a1:Int)(r:(Bool×bU))(h:ig R c0 a0 a1=some r):lD dp hp k0 c0 a0 a1 r:=
 aH G52 (ao (.i (a0.length:Int))<|.or (eI<|oN (.fb<|.ex fun (x3:(Bool×Int))=>ao (.fr .ret ⟨[(6,(.b x3.1))],[],aB hp k0 [(I x3.2)]⟩)<|.nil)) (xn<|.fb<|.ex fun (x2:(Bool×Int))=>ao (.fr .ret ⟨[(6,(.b x2.1))],[],aB hp k0 [(I x2.2)]⟩)<|.nil)) fun L=>ai (aO ab a0)<|bu h (fun h1 h=>xl (decide_eq_true h1)<|bu h (fun h2 h=>ai (decide_eq_true h2)<|L h) (fun h2 h=>ai (decide_eq_false h2)<|aw h (nD R hR dp hp k0 hk_k0 hz c0 a0 a1) fun x3 h=>L h)) (fun h1 h=>Mr (decide_eq_false h1)<|aw h (nD R hR dp hp k0 hk_k0 hz c0 a0 a1) fun x2 h=>L h)
def bB:Nat→fD
 | 0=>⟨fun z0 z1 z2=>none⟩
 | n+1=>⟨ig (bB n)⟩
theorem pN:∀ n,eZ (bB n)
 | 0=>⟨fun _ _ _ _ _ _ _ _ r h=>(by cases h)⟩
 | n+1=>⟨fun dp hp k0 hk_k0 hz c0 a0 a1 r h=>tB _ (pN n) dp hp k0 hk_k0 hz c0 a0 a1 r h⟩
def jo(a0:(List aa))(a1:Int):Option (Bool×bU):=ev fun n=>(bB n).f_tree_counter_much c0 a0 a1
theorem og(hk_k0:k0.dp<dp)(hz:cJ dp hp)(c0:bU)(a0:(List aa))(a1:Int)(r:(Bool×bU))(h:jo c0 a0 a1=some r):lD dp hp k0 c0 a0 a1 r:=by
 obtain ⟨n,hn⟩:=iD h
 exact (pN n).f_tree_counter_much dp hp k0 hk_k0 hz c0 a0 a1 r hn
end
section
variable (a0:Tree)(c0:aN)(dp:Nat)(hp:HP)(k0:Key)
def dC(v0_15:Nat)(v0_11_0:Int):Option ((Nat×Int)⊕(Unit⊕(Nat×Bool×Int))):=
 if (v0_15:Int)<(a0.Decls.length:Int) then
  (a0.Decls[v0_15]?).bind fun (y3:aE)=>
  if 4<(y3.Label.length:Int) then
   some (.inr (.inl ()))
  else
   (ea y3.Label).bind fun (r6:Bool)=>
   if r6=true then
    some (.inr (.inl ()))
   else
    if 4<(y3.Params.length:Int) then
     some (.inr (.inl ()))
    else
     (oe y3.Result 15).bind fun (r10:Int)=>
     if 15<r10 then
      some (.inr (.inl ()))
     else
      (jo (⟨v0_11_0⟩:bU) y3.Body 1).bind fun (r13:(Bool×bU))=>
      if r13.1=true then
       some (.inr (.inl ()))
      else
       if IntKind.i64.wrap ((v0_15:Int)+1)=((v0_15+1:Nat):Int) then
        some (.inl (v0_15+1,r13.2.stmts))
       else none
 else
  some (.inr (.inr (v0_15,decide ((v0_15:Int)<(a0.Decls.length:Int)),v0_11_0)))
abbrev BN(v:(Nat×Int)):St:=⟨[(1,(.p ⟨0,1⟩ 0)),(3,(.p ⟨0,11⟩ 0)),(13,(.l 46 (a0.Decls.map au))),(14,(I (a0.Decls.length:Int))),(15,(I (v.1:Int)))],[(1,[(.l 46 (a0.Decls.map au)),(.l 68 (a0.Main.map ab))]),(11,[(I v.2)])],H0⟩
abbrev BO(x:(Unit⊕(Nat×Bool×Int))):aK×St:=match x with | .inl ()=>(.ret,⟨[(2,(.b true))],[],H0⟩) | .inr (z1,z2,z3)=>((.ex 0),⟨[(1,(.p ⟨0,1⟩ 0)),(3,(.p ⟨0,11⟩ 0)),(13,(.l 46 (a0.Decls.map au))),(14,(I (a0.Decls.length:Int))),(15,(I (z1:Int))),(16,(.b z2))],[(1,[(.l 46 (a0.Decls.map au)),(.l 68 (a0.Main.map ab))]),(11,[(I z3)])],H0⟩)
theorem Aq(v0_15:Nat)(v0_11_0:Int)(o:(Nat×Int)⊕(Unit⊕(Nat×Bool×Int)))(h:dC a0 v0_15 v0_11_0=some o):bH E0 LZ (BN a0) (BO a0) (v0_15,v0_11_0) o:=
 bV (.or (bt<|ao (.n v0_15)<|.ex fun (y3:aE)=>ao (.v (.a (ak y3)))<|eI<|ao (.i (y3.Label.length:Int))<|.or (bf<|bf<|bf<|bt<|bf<|bf<|bf<|bf<|bt<|bf<|bf<|bf<|bf<|bt<|bf<|bf<|bf<|bf<|bt<|bt<|.nil) (dD<|xB fun r6=>bf<|.or (bf<|bf<|bf<|bf<|bt<|bf<|bf<|bf<|bf<|bt<|bf<|bf<|bf<|bf<|bt<|bt<|.nil) (dD<|ao (.i (y3.Params.length:Int))<|jG<|.or (Qd<|.nil) (dD<|xI fun r10=>jG<|.or (E8<|.nil) (pJ<|.ex fun (r13:(Bool×bU))=>ao (.v (.b r13.1))<|ao (.h (boxes 0 [(1,[(.l 46 (a0.Decls.map au)),(.l 68 (a0.Main.map ab))]),(5,(ak y3)),(11,[(I r13.2.stmts)])] H0))<|ao (.bx [(1,[(.l 46 (a0.Decls.map au)),(.l 68 (a0.Main.map ab))]),(5,(ak y3)),(11,[(I r13.2.stmts)])])<|ao (.h (H0))<|bf<|oN (ao (.i ((v0_15+1:Nat):Int))<|.nil)))))) (bf<|.nil)) fun L=>bu h (fun h2 h=>ai (decide_eq_true h2)<|ai (rI v0_15)<|br h fun y3 h4 h=>ai (cj au h4)<|Hu<|ai (aO aA y3.Label)<|bu h (fun h5 h=>ai (g0 (decide_eq_true h5))<|ai (g0 (decide_eq_true h5))<|ai (g0 (decide_eq_true h5))<|ai (decide_eq_true h5)<|ai ht<|ai ht<|ai ht<|ai ht<|ai tt<|ai ht<|ai ht<|ai ht<|ai ht<|ai tt<|ai ht<|ai ht<|ai ht<|ai ht<|ai tt<|ai tt<|L h) (fun h5 h=>qu (decide_eq_false h5)<|aw h (lC y3.Label) fun r6 h=>ai (decide_eq_false h5)<|aJ h (fun h8 h=>ai (g0 h8)<|ai (g0 h8)<|ai (g0 h8)<|ai (g0 h8)<|ai h8<|ai ht<|ai ht<|ai ht<|ai ht<|ai tt<|ai ht<|ai ht<|ai ht<|ai ht<|ai tt<|ai tt<|L h) (fun h8 h=>qu h8<|ai (aO AV.s y3.Params)<|o9 h8<|bu h (fun h9 h=>ai (g0 (decide_eq_true h9))<|ai (g0 (decide_eq_true h9))<|ai (g0 (decide_eq_true h9))<|ai (g0 (decide_eq_true h9))<|ai (decide_eq_true h9)<|ai ht<|ai ht<|ai ht<|ai ht<|ai tt<|ai tt<|L h) (fun h9 h=>qu (decide_eq_false h9)<|aw h (qx y3.Result 15) fun r10 h=>o9 (decide_eq_false h9)<|bu h (fun h12 h=>E2 (decide_eq_true h12)<|L h) (fun h12 h=>ai (g0 (decide_eq_false h12))<|ai (g0 (decide_eq_false h12))<|ai (g0 (decide_eq_false h12))<|ai (rfl:Z0)<|ai (g0 (decide_eq_false h12))<|ai ff<|ai tt<|br h fun r13 ek14 h=>have ek14:call G Ω0 ⟨0+1,false⟩ 52 [(.p ⟨0,11⟩ 0),(.l 68 (y3.Body.map ab)),(I 1)] (boxes 0 [(1,[(.l 46 (a0.Decls.map au)),(.l 68 (a0.Main.map ab))]),(5,(ak y3)),(11,[(I v0_11_0)])] H0)=some (.ret (.b r13.1),boxes 0 [(1,[(.l 46 (a0.Decls.map au)),(.l 68 (a0.Main.map ab))]),(5,(ak y3)),(11,[(I r13.2.stmts)])] H0):=ko (dE (bx1:=[(1,[(.l 46 (a0.Decls.map au)),(.l 68 (a0.Main.map ab))]),(5,(ak y3)),(11,[(I v0_11_0)])]) (by kernel_rfl) (by kernel_rfl)) (dE (bx1:=[(1,[(.l 46 (a0.Decls.map au)),(.l 68 (a0.Main.map ab))]),(5,(ak y3)),(11,[(I r13.2.stmts)])]) (by kernel_rfl) (by kernel_rfl)) (og (0+1) (boxes 0 [(1,[(.l 46 (a0.Decls.map au)),(.l 68 (a0.Main.map ab))]),(5,(ak y3)),(11,[(I v0_11_0)])] H0) ⟨0,11⟩ (Nat.lt_succ_self 0) (bj (dF 0)) (⟨v0_11_0⟩:bU) y3.Body 1 _ ek14);ai ek14<|ai (fB ek14 (by kernel_rfl) (by kernel_rfl))<|ai (fC ek14 (dF 0))<|ai (decide_eq_false h12)<|aJ h (fun h15 h=>ai h15<|L h) (fun h15 h=>ai h15<|aj h fun w16 h=>ai w16<|L h)))))) (fun h2 h=>ai (decide_eq_false h2)<|L h)
abbrev Fi(a0:Tree)(r:Bool):aZ×HP:=(.ret (.b r),H0)
def pO:Option Bool:=
 if 30<(a0.Decls.length:Int) then
  some true
 else
  (lp (fun v=>dC a0 v.1 v.2) (0,0)).bind fun (x2:(Unit⊕(Nat×Bool×Int)))=>match x2 with
  | .inl ya_3=>
   some true
  | .inr yb_3=>
   (jo (⟨yb_3.2.2⟩:bU) a0.Main 1).bind fun (r5:(Bool×bU))=>
   some r5.1
theorem Ar(r:Bool)(h:pO a0=some r):call G Ω0 E0 22 [(.a [(.l 46 (a0.Decls.map au)),(.l 68 (a0.Main.map ab))])] H0=some (Fi a0 r):=
 aH Z5 (bt<|ao (.i (a0.Decls.length:Int))<|oN (bt<|ao (.i (a0.Decls.length:Int))<|.or (.ex fun (ya_3:Unit)=>ao (.lp .ret ⟨[(2,(.b true))],[],H0⟩)<|.nil) (.ex fun (yb_3:(Nat×Bool×Int))=>ao (.lp (.ex 0) ⟨[(1,(.p ⟨0,1⟩ 0)),(3,(.p ⟨0,11⟩ 0)),(13,(.l 46 (a0.Decls.map au))),(14,(I (a0.Decls.length:Int))),(15,(I (yb_3.1:Int))),(16,(.b yb_3.2.1))],[(1,[(.l 46 (a0.Decls.map au)),(.l 68 (a0.Main.map ab))]),(11,[(I yb_3.2.2)])],H0⟩)<|bt<|.ex fun (r5:(Bool×bU))=>ao (.v (.b r5.1))<|ao (.h (boxes 0 [(1,[(.l 46 (a0.Decls.map au)),(.l 68 (a0.Main.map ab))]),(11,[(I r5.2.stmts)])] H0))<|ao (.bx [(1,[(.l 46 (a0.Decls.map au)),(.l 68 (a0.Main.map ab))]),(11,[(I r5.2.stmts)])])<|ao (.h (H0))<|.nil))) fun L=>od<|ai (aO au a0.Decls)<|bu h (fun h1 h=>ai (decide_eq_true h1)<|L h) (fun h1 h=>ai (decide_eq_false h1)<|ai tt<|ai (rfl:Z0)<|ai (aO au a0.Decls)<|bW h (eH (fun v=>Aq a0 v.1 v.2) (0,0)) (fun ya_3 h=>L h) (fun yb_3 h=>ai (rfl:Z0)<|ai ff<|ai tt<|br h fun r5 ek6 h=>have ek6:call G Ω0 ⟨0+1,false⟩ 52 [(.p ⟨0,11⟩ 0),(.l 68 (a0.Main.map ab)),(I 1)] (boxes 0 [(1,[(.l 46 (a0.Decls.map au)),(.l 68 (a0.Main.map ab))]),(11,[(I yb_3.2.2)])] H0)=some (.ret (.b r5.1),boxes 0 [(1,[(.l 46 (a0.Decls.map au)),(.l 68 (a0.Main.map ab))]),(11,[(I r5.2.stmts)])] H0):=ko (dE (bx1:=[(1,[(.l 46 (a0.Decls.map au)),(.l 68 (a0.Main.map ab))]),(11,[(I yb_3.2.2)])]) (by kernel_rfl) (by kernel_rfl)) (dE (bx1:=[(1,[(.l 46 (a0.Decls.map au)),(.l 68 (a0.Main.map ab))]),(11,[(I r5.2.stmts)])]) (by kernel_rfl) (by kernel_rfl)) (og (0+1) (boxes 0 [(1,[(.l 46 (a0.Decls.map au)),(.l 68 (a0.Main.map ab))]),(11,[(I yb_3.2.2)])] H0) ⟨0,11⟩ (Nat.lt_succ_self 0) (bj (dF 0)) (⟨yb_3.2.2⟩:bU) a0.Main 1 _ ek6);ai ek6<|ai (fB ek6 (by kernel_rfl) (by kernel_rfl))<|ai (fC ek6 (dF 0))<|L h))
def cZ(v1_k0_1:Int):Option (Int⊕((Bool×Int)⊕Int)):=
 if v1_k0_1<(c0.s.length:Int) then
  (dG v1_k0_1).bind fun (j11:Nat)=>
  (c0.s[j11]?).bind fun (ob:UInt8)=>
  if ((ob.toNat:Int) !=10)=true then
   if IntKind.i64.wrap (v1_k0_1+1)=v1_k0_1+1 then
    some (.inl (v1_k0_1+1))
   else none
  else
   some (.inr (.inl ((ob.toNat:Int) !=10,v1_k0_1)))
 else
  some (.inr (.inr v1_k0_1))
abbrev uF(dp:Nat)(hp:HP)(k0:Key)(c0:aN)(v:Int):St:=⟨[(0,(.p k0 0))],[],aB hp k0 [(.s c0.s),(I v)]⟩
abbrev uG(dp:Nat)(hp:HP)(k0:Key)(c0:aN)(x:((Bool×Int)⊕Int)):aK×St:=match x with | .inl (z1,z2)=>((.ex 3),⟨[(0,(.p k0 0)),(55,(.b z1))],[],aB hp k0 [(.s c0.s),(I z2)]⟩) | .inr z1=>((.ex 3),⟨[(0,(.p k0 0)),(55,(.b false))],[],aB hp k0 [(.s c0.s),(I z1)]⟩)
theorem tC(hk_k0:k0.dp<dp)(hz:cJ dp hp)(c0:aN)(v1_k0_1:Int)(o:Int⊕((Bool×Int)⊕Int))(h:cZ c0 v1_k0_1=some o):bH ⟨dp,false⟩ I9 (uF dp hp k0 c0) (uG dp hp k0 c0) v1_k0_1 o:=
 bV (bf<|ao (.l [(.s c0.s),(I v1_k0_1)])<|bf<|ao (.l [(.s c0.s),(I v1_k0_1)])<|ao (.i (c0.s.length:Int))<|.or (yS<|ao (.l [(.s c0.s),(I v1_k0_1)])<|yS<|ao (.l [(.s c0.s),(I v1_k0_1)])<|bt<|xN fun j11=>.ex fun (ob:UInt8)=>ao (.i (ob.toNat:Int))<|cu<|.or (jG<|ao (.l [(.s c0.s),(I v1_k0_1)])<|ao (.i (v1_k0_1+1))<|bf<|ao (.l [(.s c0.s),(I v1_k0_1)])<|bf<|ao (.h (aB hp k0 [(.s c0.s),(I (v1_k0_1+1))]))<|.nil) (bf<|.nil)) (bf<|bf<|bf<|bf<|bf<|bf<|bf<|bf<|bf<|bf<|bf<|bf<|.nil)) fun L=>oM<|ai (Nat.ne_of_lt hk_k0)<|ai (aM hp k0 [(.s c0.s),(I v1_k0_1)])<|oM<|ai (Nat.ne_of_lt hk_k0)<|ai (aM hp k0 [(.s c0.s),(I v1_k0_1)])<|ai tt<|ai (rfl:(c0.s.length:Int)=(c0.s.length:Int))<|ai tt<|ai tt<|ai tt<|bu h (fun h10 h=>ai (g1 (decide_eq_true h10))<|ai tt<|ai (g1 (decide_eq_true h10))<|ai tt<|ai (g1 (decide_eq_true h10))<|ai tt<|ai (g1 (decide_eq_true h10))<|ai (Nat.ne_of_lt hk_k0)<|ai (aM hp k0 [(.s c0.s),(I v1_k0_1)])<|Ky (decide_eq_true h10)<|ai (Nat.ne_of_lt hk_k0)<|ai (aM hp k0 [(.s c0.s),(I v1_k0_1)])<|ai tt<|ai (g1 (decide_eq_true h10))<|lB h fun j11 h12 h=>ai h12<|br h fun ob h14 h=>ai (congrArg (Option.map fun z:UInt8=>(z.toNat:Int)) h14)<|jv (decide_eq_true h10)<|aJ h (fun h15 h=>ai h15<|ai (Nat.ne_of_lt hk_k0)<|ai (aM hp k0 [(.s c0.s),(I v1_k0_1)])<|aj h fun w16 h=>ai w16<|ai ff<|ai (Nat.ne_of_lt hk_k0)<|ai (aM hp k0 [(.s c0.s),(I v1_k0_1)])<|ai tt<|ai (Nat.ne_of_lt hk_k0)<|ai (ew hp k0 [(.s c0.s),(I v1_k0_1)] [(.s c0.s),(I (v1_k0_1+1))])<|L h) (fun h15 h=>ai h15<|L h)) (fun h10 h=>ai (g1 (decide_eq_false h10))<|ai (g1 (decide_eq_false h10))<|ai (g1 (decide_eq_false h10))<|ai (g1 (decide_eq_false h10))<|ai (g1 (decide_eq_false h10))<|ai (g1 (decide_eq_false h10))<|ai (g1 (decide_eq_false h10))<|ai (g1 (decide_eq_false h10))<|ai (g1 (decide_eq_false h10))<|ai (g1 (decide_eq_false h10))<|ai (decide_eq_false h10)<|ai ff<|L h)
def cR(v0_k0_1:Int)(c4:UInt8)(w1_1:Bool):Option (Unit⊕((Bool×Int)⊕(Int⊕Unit))):=
 if w1_1=true then
  if IntKind.i64.wrap (v0_k0_1+1)=v0_k0_1+1 then
   some (.inl ())
  else none
 else
  if ((c4.toNat:Int)==35)=true then
   (lp (fun v=>cZ c0 v) v0_k0_1).bind fun (x10:((Bool×Int)⊕Int))=>match x10 with
   | .inl ya_11=>
    some (.inr (.inl (ya_11.1,ya_11.2)))
   | .inr yb_11=>
    some (.inr (.inr (.inl yb_11)))
  else
   some (.inr (.inr (.inr ())))
abbrev tD(dp:Nat)(hp:HP)(k0:Key)(c0:aN)(v0_k0_1:Int)(c4:UInt8)(w1_1:Bool)(x:(Unit⊕((Bool×Int)⊕(Int⊕Unit)))):aK×St:=match x with | .inl ()=>(.nrm,⟨[(0,(.p k0 0))],[],aB hp k0 [(.s c0.s),(I (v0_k0_1+1))]⟩) | .inr (.inl (z1,z2))=>(.nrm,⟨[(0,(.p k0 0)),(55,(.b z1))],[],aB hp k0 [(.s c0.s),(I z2)]⟩) | .inr (.inr (.inl z1))=>(.nrm,⟨[(0,(.p k0 0)),(55,(.b false))],[],aB hp k0 [(.s c0.s),(I z1)]⟩) | .inr (.inr (.inr ()))=>(.ret,⟨[(0,(.p k0 0)),(32,(.b ((c4.toNat:Int)==35)))],[],aB hp k0 [(.s c0.s),(I v0_k0_1)]⟩)
theorem iV(hk_k0:k0.dp<dp)(hz:cJ dp hp)(c0:aN)(v0_k0_1:Int)(c4:UInt8)(w1_1:Bool)(x:(Unit⊕((Bool×Int)⊕(Int⊕Unit))))(h:cR c0 v0_k0_1 c4 w1_1=some x):run G Ω0 ⟨dp,false⟩ Ja ⟨[(0,(.p k0 0)),(20,(.i .u8 (c4.toNat:Int))),(21,(.b w1_1))],[],aB hp k0 [(.s c0.s),(I v0_k0_1)]⟩=some (tD dp hp k0 c0 v0_k0_1 c4 w1_1 x):=
 fP (.or (jG<|ao (.l [(.s c0.s),(I v0_k0_1)])<|ao (.i (v0_k0_1+1))<|bf<|ao (.l [(.s c0.s),(I v0_k0_1)])<|bf<|ao (.h (aB hp k0 [(.s c0.s),(I (v0_k0_1+1))]))<|.nil) (bf<|.or (bt<|.or (.ex fun (ya_11:(Bool×Int))=>ao (.lp (.ex 3) ⟨[(0,(.p k0 0)),(55,(.b ya_11.1))],[],aB hp k0 [(.s c0.s),(I ya_11.2)]⟩)<|.nil) (.ex fun (yb_11:Int)=>ao (.lp (.ex 3) ⟨[(0,(.p k0 0)),(55,(.b false))],[],aB hp k0 [(.s c0.s),(I yb_11)]⟩)<|.nil)) (bf<|.nil))) fun L=>aJ h (fun h8 h=>ai h8<|ai (Nat.ne_of_lt hk_k0)<|ai (aM hp k0 [(.s c0.s),(I v0_k0_1)])<|aj h fun w9 h=>ai w9<|ai ff<|ai (Nat.ne_of_lt hk_k0)<|ai (aM hp k0 [(.s c0.s),(I v0_k0_1)])<|ai tt<|ai (Nat.ne_of_lt hk_k0)<|ai (ew hp k0 [(.s c0.s),(I v0_k0_1)] [(.s c0.s),(I (v0_k0_1+1))])<|L h) (fun h8 h=>ai h8<|aJ h (fun h9 h=>ai h9<|bW h (eH (tC dp hp k0 hk_k0 hz c0) v0_k0_1) (fun ya_11 h=>L h) (fun yb_11 h=>L h)) (fun h9 h=>ai h9<|L h))
def bP(v0_k0_1:Int):Option (Int⊕((Bool×Int)⊕(Bool×Int))):=
 if v0_k0_1<(c0.s.length:Int) then
  (dG v0_k0_1).bind fun (j2:Nat)=>
  (c0.s[j2]?).bind fun (c4:UInt8)=>
  if ((c4.toNat:Int)==32)=true then
   (cR c0 v0_k0_1 c4 ((c4.toNat:Int)==32)).bind fun (x7:(Unit⊕((Bool×Int)⊕(Int⊕Unit))))=>match x7 with
   | .inl ya_8=>
    some (.inl (v0_k0_1+1))
   | .inr (.inl yb_8)=>
    some (.inl yb_8.2)
   | .inr (.inr (.inl yc_8))=>
    some (.inl yc_8)
   | .inr (.inr (.inr yd_8))=>
    some (.inr (.inl ((c4.toNat:Int)==35,v0_k0_1)))
  else
   if ((c4.toNat:Int)==9)=true then
    (cR c0 v0_k0_1 c4 ((c4.toNat:Int)==9)).bind fun (x8:(Unit⊕((Bool×Int)⊕(Int⊕Unit))))=>match x8 with
    | .inl ya_9=>
     some (.inl (v0_k0_1+1))
    | .inr (.inl yb_9)=>
     some (.inl yb_9.2)
    | .inr (.inr (.inl yc_9))=>
     some (.inl yc_9)
    | .inr (.inr (.inr yd_9))=>
     some (.inr (.inl ((c4.toNat:Int)==35,v0_k0_1)))
   else
    (cR c0 v0_k0_1 c4 ((c4.toNat:Int)==10)).bind fun (x8:(Unit⊕((Bool×Int)⊕(Int⊕Unit))))=>match x8 with
    | .inl ya_9=>
     some (.inl (v0_k0_1+1))
    | .inr (.inl yb_9)=>
     some (.inl yb_9.2)
    | .inr (.inr (.inl yc_9))=>
     some (.inl yc_9)
    | .inr (.inr (.inr yd_9))=>
     some (.inr (.inl ((c4.toNat:Int)==35,v0_k0_1)))
 else
  some (.inr (.inr (decide (v0_k0_1<(c0.s.length:Int)),v0_k0_1)))
abbrev uH(dp:Nat)(hp:HP)(k0:Key)(c0:aN)(v:Int):St:=⟨[(0,(.p k0 0))],[],aB hp k0 [(.s c0.s),(I v)]⟩
abbrev uI(dp:Nat)(hp:HP)(k0:Key)(c0:aN)(x:((Bool×Int)⊕(Bool×Int))):aK×St:=match x with | .inl (z1,z2)=>(.ret,⟨[(0,(.p k0 0)),(32,(.b z1))],[],aB hp k0 [(.s c0.s),(I z2)]⟩) | .inr (z1,z2)=>((.ex 0),⟨[(0,(.p k0 0)),(11,(.b z1))],[],aB hp k0 [(.s c0.s),(I z2)]⟩)
theorem tE(hk_k0:k0.dp<dp)(hz:cJ dp hp)(c0:aN)(v0_k0_1:Int)(o:Int⊕((Bool×Int)⊕(Bool×Int)))(h:bP c0 v0_k0_1=some o):bH ⟨dp,false⟩ Jb (uH dp hp k0 c0) (uI dp hp k0 c0) v0_k0_1 o:=
 bV (bf<|ao (.l [(.s c0.s),(I v0_k0_1)])<|bf<|ao (.l [(.s c0.s),(I v0_k0_1)])<|ao (.i (c0.s.length:Int))<|.or (jG<|ao (.l [(.s c0.s),(I v0_k0_1)])<|bf<|ao (.l [(.s c0.s),(I v0_k0_1)])<|xN fun j2=>.ex fun (c4:UInt8)=>ao (.i (c4.toNat:Int))<|.or (bt<|.fb<|.or (.ex fun (ya_8:Unit)=>ao (.fr .nrm ⟨[(0,(.p k0 0))],[],aB hp k0 [(.s c0.s),(I (v0_k0_1+1))]⟩)<|.nil) (.or (.ex fun (yb_8:(Bool×Int))=>ao (.fr .nrm ⟨[(0,(.p k0 0)),(55,(.b yb_8.1))],[],aB hp k0 [(.s c0.s),(I yb_8.2)]⟩)<|.nil) (.or (.ex fun (yc_8:Int)=>ao (.fr .nrm ⟨[(0,(.p k0 0)),(55,(.b false))],[],aB hp k0 [(.s c0.s),(I yc_8)]⟩)<|.nil) (.ex fun (yd_8:Unit)=>ao (.fr .ret ⟨[(0,(.p k0 0)),(32,(.b ((c4.toNat:Int)==35)))],[],aB hp k0 [(.s c0.s),(I v0_k0_1)]⟩)<|.nil)))) (bf<|.or (bt<|.fb<|.or (.ex fun (ya_9:Unit)=>ao (.fr .nrm ⟨[(0,(.p k0 0))],[],aB hp k0 [(.s c0.s),(I (v0_k0_1+1))]⟩)<|.nil) (.or (.ex fun (yb_9:(Bool×Int))=>ao (.fr .nrm ⟨[(0,(.p k0 0)),(55,(.b yb_9.1))],[],aB hp k0 [(.s c0.s),(I yb_9.2)]⟩)<|.nil) (.or (.ex fun (yc_9:Int)=>ao (.fr .nrm ⟨[(0,(.p k0 0)),(55,(.b false))],[],aB hp k0 [(.s c0.s),(I yc_9)]⟩)<|.nil) (.ex fun (yd_9:Unit)=>ao (.fr .ret ⟨[(0,(.p k0 0)),(32,(.b ((c4.toNat:Int)==35)))],[],aB hp k0 [(.s c0.s),(I v0_k0_1)]⟩)<|.nil)))) (bf<|.fb<|.or (.ex fun (ya_9:Unit)=>ao (.fr .nrm ⟨[(0,(.p k0 0))],[],aB hp k0 [(.s c0.s),(I (v0_k0_1+1))]⟩)<|.nil) (.or (.ex fun (yb_9:(Bool×Int))=>ao (.fr .nrm ⟨[(0,(.p k0 0)),(55,(.b yb_9.1))],[],aB hp k0 [(.s c0.s),(I yb_9.2)]⟩)<|.nil) (.or (.ex fun (yc_9:Int)=>ao (.fr .nrm ⟨[(0,(.p k0 0)),(55,(.b false))],[],aB hp k0 [(.s c0.s),(I yc_9)]⟩)<|.nil) (.ex fun (yd_9:Unit)=>ao (.fr .ret ⟨[(0,(.p k0 0)),(32,(.b ((c4.toNat:Int)==35)))],[],aB hp k0 [(.s c0.s),(I v0_k0_1)]⟩)<|.nil)))))) (bf<|.nil)) fun L=>oM<|ai (Nat.ne_of_lt hk_k0)<|ai (aM hp k0 [(.s c0.s),(I v0_k0_1)])<|oM<|ai (Nat.ne_of_lt hk_k0)<|ai (aM hp k0 [(.s c0.s),(I v0_k0_1)])<|ai tt<|ai (rfl:(c0.s.length:Int)=(c0.s.length:Int))<|ai tt<|bu h (fun h1 h=>ai (decide_eq_true h1)<|ai tt<|ai tt<|ai tt<|ai tt<|ai (Nat.ne_of_lt hk_k0)<|ai (aM hp k0 [(.s c0.s),(I v0_k0_1)])<|oM<|ai (Nat.ne_of_lt hk_k0)<|ai (aM hp k0 [(.s c0.s),(I v0_k0_1)])<|ai tt<|lB h fun j2 h3 h=>ai h3<|br h fun c4 h5 h=>ai (congrArg (Option.map fun z:UInt8=>(z.toNat:Int)) h5)<|aJ h (fun h6 h=>ai h6<|Ia h (iV dp hp k0 hk_k0 hz c0 v0_k0_1 c4 ((c4.toNat:Int)==32)) (fun ya_8 h=>L h) (fun yb_8 h=>L h) (fun yc_8 h=>L h) (fun yd_8 h=>L h)) (fun h6 h=>ai h6<|aJ h (fun h7 h=>ai h7<|Ia h (iV dp hp k0 hk_k0 hz c0 v0_k0_1 c4 ((c4.toNat:Int)==9)) (fun ya_9 h=>L h) (fun yb_9 h=>L h) (fun yc_9 h=>L h) (fun yd_9 h=>L h)) (fun h7 h=>ai h7<|Ia h (iV dp hp k0 hk_k0 hz c0 v0_k0_1 c4 ((c4.toNat:Int)==10)) (fun ya_9 h=>L h) (fun yb_9 h=>L h) (fun yc_9 h=>L h) (fun yd_9 h=>L h)))) (fun h1 h=>ai (decide_eq_false h1)<|L h)
abbrev vN(dp:Nat)(hp:HP)(k0:Key)(c0:aN)(r:aN):aZ×HP:=(.ret (.tp []),aB hp k0 [(.s r.s),(I r.at_)])
def eb:Option aN:=
 (lp (fun v=>bP c0 v) c0.at_).bind fun (x1:((Bool×Int)⊕(Bool×Int)))=>match x1 with
 | .inl ya_2=>
  some (⟨c0.s,ya_2.2⟩:aN)
 | .inr yb_2=>
  some (⟨c0.s,yb_2.2⟩:aN)
theorem nE(hk_k0:k0.dp<dp)(hz:cJ dp hp)(c0:aN)(r:aN)(h:eb c0=some r):call G Ω0 ⟨dp,false⟩ 121 [(.p k0 0)] (aB hp k0 [(.s c0.s),(I c0.at_)])=some (vN dp hp k0 c0 r):=
 aH Zu (.or (.ex fun (ya_2:(Bool×Int))=>ao (.lp .ret ⟨[(0,(.p k0 0)),(32,(.b ya_2.1))],[],aB hp k0 [(.s c0.s),(I ya_2.2)]⟩)<|.nil) (.ex fun (yb_2:(Bool×Int))=>ao (.lp (.ex 0) ⟨[(0,(.p k0 0)),(11,(.b yb_2.1))],[],aB hp k0 [(.s c0.s),(I yb_2.2)]⟩)<|.nil)) fun L=>bW h (eH (tE dp hp k0 hk_k0 hz c0) c0.at_) (fun ya_2 h=>L h) (fun yb_2 h=>L h)
abbrev vO(dp:Nat)(hp:HP)(k0:Key)(c0:aN)(r:Int):aZ×HP:=(.ret (.i .u8 r),aB hp k0 [(.s c0.s),(I c0.at_)])
def ij:Option Int:=
 if c0.at_<(c0.s.length:Int) then
  (dG c0.at_).bind fun (j2:Nat)=>
  (c0.s[j2]?).bind fun (c4:UInt8)=>
  some (c4.toNat:Int)
 else
  some 0
theorem tF(hk_k0:k0.dp<dp)(hz:cJ dp hp)(c0:aN)(r:Int)(h:ij c0=some r):call G Ω0 ⟨dp,true⟩ 128 [(.p k0 0)] (aB hp k0 [(.s c0.s),(I c0.at_)])=some (vO dp hp k0 c0 r):=
 aH Zw (bf<|ao (.l [(.s c0.s),(I c0.at_)])<|bf<|ao (.l [(.s c0.s),(I c0.at_)])<|ao (.i (c0.s.length:Int))<|.or (jG<|ao (.l [(.s c0.s),(I c0.at_)])<|bf<|ao (.l [(.s c0.s),(I c0.at_)])<|xN fun j2=>.ex fun (c4:UInt8)=>ao (.i (c4.toNat:Int))<|.nil) (bf<|.nil)) fun L=>oM<|ai (Nat.ne_of_lt hk_k0)<|ai (aM hp k0 [(.s c0.s),(I c0.at_)])<|oM<|ai (Nat.ne_of_lt hk_k0)<|ai (aM hp k0 [(.s c0.s),(I c0.at_)])<|ai tt<|ai (rfl:(c0.s.length:Int)=(c0.s.length:Int))<|ai tt<|bu h (fun h1 h=>ai (decide_eq_true h1)<|ai tt<|ai tt<|ai tt<|ai tt<|ai (Nat.ne_of_lt hk_k0)<|ai (aM hp k0 [(.s c0.s),(I c0.at_)])<|oM<|ai (Nat.ne_of_lt hk_k0)<|ai (aM hp k0 [(.s c0.s),(I c0.at_)])<|ai tt<|lB h fun j2 h3 h=>ai h3<|br h fun c4 h5 h=>ai (congrArg (Option.map fun z:UInt8=>(z.toNat:Int)) h5)<|L h) (fun h1 h=>ai (decide_eq_false h1)<|L h)
end
section
variable (a0:Int)(c0:aN)(dp:Nat)(hp:HP)(k0:Key)
abbrev BP(a0:Int)(r:Bool):aZ×HP:=(.ret (.b r),H0)
def ku:Option Bool:=
 if 97≤a0 then
  some (decide (a0≤122))
 else
  some false
theorem rP(r:Bool)(h:ku a0=some r):call G Ω0 E0 129 [(.i .u8 a0)] H0=some (BP a0 r):=
 aH Zx (.or (eI<|.nil) (bf<|bf<|bf<|.nil)) fun L=>bu h (fun h1 h=>xl (decide_eq_true h1)<|L h) (fun h1 h=>xl (decide_eq_false h1)<|L h)
abbrev DR(a0:Int)(r:Bool):aZ×HP:=(.ret (.b r),H0)
def jx:Option Bool:=
 if 48≤a0 then
  some (decide (a0≤57))
 else
  some false
theorem oQ(r:Bool)(h:jx a0=some r):call G Ω0 E0 132 [(.i .u8 a0)] H0=some (DR a0 r):=
 aH Zz (.or (eI<|.nil) (bf<|bf<|bf<|.nil)) fun L=>bu h (fun h1 h=>xl (decide_eq_true h1)<|L h) (fun h1 h=>xl (decide_eq_false h1)<|L h)
abbrev tG(a0:Int)(r:Bool):aZ×HP:=(.ret (.b r),H0)
def fv:Option Bool:=
 (ku a0).bind fun (r1:Bool)=>
 if r1=true then
  some true
 else
  (jx a0).bind fun (r4:Bool)=>
  some r4
theorem ry(r:Bool)(h:fv a0=some r):call G Ω0 E0 131 [(.i .u8 a0)] H0=some (tG a0 r):=
 aH Zy (xB fun r1=>.or (bf<|bf<|bt<|.nil) (cu<|xB fun r4=>bf<|.nil)) fun L=>aw h (rP a0) fun r1 h=>aJ h (fun h3 h=>uy h3<|L h) (fun h3 h=>Dq h3<|aw h (oQ a0) fun r4 h=>ai h3<|L h)
def bh(v0_k0_1:Int):Option (Int⊕((Bool×Int)⊕Int)):=
 if v0_k0_1<(c0.s.length:Int) then
  (dG v0_k0_1).bind fun (j2:Nat)=>
  (c0.s[j2]?).bind fun (c4:UInt8)=>
  (fv (c4.toNat:Int)).bind fun (r6:Bool)=>
  if r6=true then
   if IntKind.i64.wrap (v0_k0_1+1)=v0_k0_1+1 then
    some (.inl (v0_k0_1+1))
   else none
  else
   some (.inr (.inl (r6,v0_k0_1)))
 else
  some (.inr (.inr v0_k0_1))
abbrev j5(dp:Nat)(hp:HP)(k0:Key)(c0:aN)(v:Int):St:=⟨[(0,(.p k0 0)),(1,(.f 131 [])),(5,(I c0.at_))],[],aB hp k0 [(.s c0.s),(I v)]⟩
abbrev j7(dp:Nat)(hp:HP)(k0:Key)(c0:aN)(x:((Bool×Int)⊕Int)):aK×St:=match x with | .inl (z1,z2)=>((.ex 0),⟨[(0,(.p k0 0)),(1,(.f 131 [])),(5,(I c0.at_)),(32,(.b z1))],[],aB hp k0 [(.s c0.s),(I z2)]⟩) | .inr z1=>((.ex 0),⟨[(0,(.p k0 0)),(1,(.f 131 [])),(5,(I c0.at_)),(32,(.b false))],[],aB hp k0 [(.s c0.s),(I z1)]⟩)
theorem jI(hk_k0:k0.dp<dp)(hz:cJ dp hp)(c0:aN)(v0_k0_1:Int)(o:Int⊕((Bool×Int)⊕Int))(h:bh c0 v0_k0_1=some o):bH ⟨dp,false⟩ EO (j5 dp hp k0 c0) (j7 dp hp k0 c0) v0_k0_1 o:=
 bV (bf<|ao (.l [(.s c0.s),(I v0_k0_1)])<|bf<|ao (.l [(.s c0.s),(I v0_k0_1)])<|ao (.i (c0.s.length:Int))<|.or (E9<|ao (.l [(.s c0.s),(I v0_k0_1)])<|yS<|ao (.l [(.s c0.s),(I v0_k0_1)])<|bt<|xN fun j2=>.ex fun (c4:UInt8)=>ao (.i (c4.toNat:Int))<|bt<|xB fun r6=>bt<|.or (jG<|ao (.l [(.s c0.s),(I v0_k0_1)])<|ao (.i (v0_k0_1+1))<|bf<|ao (.l [(.s c0.s),(I v0_k0_1)])<|bf<|ao (.h (aB hp k0 [(.s c0.s),(I (v0_k0_1+1))]))<|.nil) (bf<|.nil)) (Fa<|.nil)) fun L=>oM<|ai (Nat.ne_of_lt hk_k0)<|ai (aM hp k0 [(.s c0.s),(I v0_k0_1)])<|oM<|ai (Nat.ne_of_lt hk_k0)<|ai (aM hp k0 [(.s c0.s),(I v0_k0_1)])<|ai tt<|ai (rfl:(c0.s.length:Int)=(c0.s.length:Int))<|ai tt<|ai tt<|ai tt<|bu h (fun h1 h=>ai (g1 (decide_eq_true h1))<|ai tt<|ai (g1 (decide_eq_true h1))<|ai tt<|ai (g1 (decide_eq_true h1))<|ai tt<|ai (g1 (decide_eq_true h1))<|ai tt<|ai (g1 (decide_eq_true h1))<|ai (Nat.ne_of_lt hk_k0)<|ai (aM hp k0 [(.s c0.s),(I v0_k0_1)])<|Ky (decide_eq_true h1)<|ai (Nat.ne_of_lt hk_k0)<|ai (aM hp k0 [(.s c0.s),(I v0_k0_1)])<|ai tt<|ai (g1 (decide_eq_true h1))<|lB h fun j2 h3 h=>ai h3<|br h fun c4 h5 h=>ai (congrArg (Option.map fun z:UInt8=>(z.toNat:Int)) h5)<|ai tt<|ai (g1 (decide_eq_true h1))<|aw h (ry (c4.toNat:Int)) fun r6 h=>ai (decide_eq_true h1)<|aJ h (fun h8 h=>ai h8<|ai (Nat.ne_of_lt hk_k0)<|ai (aM hp k0 [(.s c0.s),(I v0_k0_1)])<|aj h fun w9 h=>ai w9<|ai ff<|ai (Nat.ne_of_lt hk_k0)<|ai (aM hp k0 [(.s c0.s),(I v0_k0_1)])<|ai tt<|ai (Nat.ne_of_lt hk_k0)<|ai (ew hp k0 [(.s c0.s),(I v0_k0_1)] [(.s c0.s),(I (v0_k0_1+1))])<|L h) (fun h8 h=>ai h8<|L h)) (fun h1 h=>ai (g1 (decide_eq_false h1))<|ai (g1 (decide_eq_false h1))<|ai (g1 (decide_eq_false h1))<|ai (g1 (decide_eq_false h1))<|ai (g1 (decide_eq_false h1))<|ai (g1 (decide_eq_false h1))<|ai (g1 (decide_eq_false h1))<|ai (g1 (decide_eq_false h1))<|ai (g1 (decide_eq_false h1))<|ai (g1 (decide_eq_false h1))<|ai (g1 (decide_eq_false h1))<|ai (decide_eq_false h1)<|ai ff<|L h)
def bN(w1_1:Int):Option ((List UInt8)×Int):=
 (dG c0.at_).bind fun (j4:Nat)=>
 (dG w1_1).bind fun (j6:Nat)=>
 if j4≤j6 then
  if j6≤c0.s.length then
   some ((c0.s.take j6).drop j4,w1_1)
  else none
 else none
abbrev jJ(dp:Nat)(hp:HP)(k0:Key)(c0:aN)(w1_1:Int)(x:((List UInt8)×Int)):aK×St:=(.ret,⟨[(4,(.s x.1))],[],aB hp k0 [(.s c0.s),(I x.2)]⟩)
theorem ei(hk_k0:k0.dp<dp)(hz:cJ dp hp)(c0:aN)(w1_1:Int)(x:((List UInt8)×Int))(h:bN c0 w1_1=some x):run G Ω0 ⟨dp,false⟩ EP ⟨[(0,(.p k0 0)),(5,(I c0.at_))],[],aB hp k0 [(.s c0.s),(I w1_1)]⟩=some (jJ dp hp k0 c0 w1_1 x):=
 fP (bf<|ao (.l [(.s c0.s),(I w1_1)])<|bf<|ao (.l [(.s c0.s),(I w1_1)])<|xN fun j4=>xN fun j6=>ao (.s ((c0.s.take j6).drop j4))<|.nil) fun L=>oM<|ai (Nat.ne_of_lt hk_k0)<|ai (aM hp k0 [(.s c0.s),(I w1_1)])<|ai tt<|ai tt<|ai tt<|ai tt<|ai tt<|ai (Nat.ne_of_lt hk_k0)<|ai (aM hp k0 [(.s c0.s),(I w1_1)])<|ai tt<|lB h fun j4 h5 h=>ai h5<|lB h fun j6 h7 h=>ai h7<|ai (rfl:0=0)<|aj h fun h8 h=>ai h8<|aj h fun h9 h=>ai h9<|ai (rfl:(c0.s.take j6).drop j4=(c0.s.take j6).drop j4)<|L h
abbrev kv(dp:Nat)(hp:HP)(k0:Key)(c0:aN)(r:((List UInt8)×aN)):aZ×HP:=(.ret (.s r.1),aB hp k0 [(.s r.2.s),(I r.2.at_)])
def cC:Option ((List UInt8)×aN):=
 (lp (fun v=>bh c0 v) c0.at_).bind fun (x1:((Bool×Int)⊕Int))=>match x1 with
 | .inl ya_2=>
  (bN c0 ya_2.2).bind fun (x4:((List UInt8)×Int))=>
  some (x4.1,(⟨c0.s,x4.2⟩:aN))
 | .inr yb_2=>
  (bN c0 yb_2).bind fun (x4:((List UInt8)×Int))=>
  some (x4.1,(⟨c0.s,x4.2⟩:aN))
theorem jK(hk_k0:k0.dp<dp)(hz:cJ dp hp)(c0:aN)(r:((List UInt8)×aN))(h:cC c0=some r):call G Ω0 ⟨dp,false⟩ 130 [(.p k0 0),(.f 131 [])] (aB hp k0 [(.s c0.s),(I c0.at_)])=some (kv dp hp k0 c0 r):=
 aH PT (bf<|ao (.l [(.s c0.s),(I c0.at_)])<|.or (.ex fun (ya_2:(Bool×Int))=>ao (.lp (.ex 0) ⟨[(0,(.p k0 0)),(1,(.f 131 [])),(5,(I c0.at_)),(32,(.b ya_2.1))],[],aB hp k0 [(.s c0.s),(I ya_2.2)]⟩)<|.fb<|.ex fun (x4:((List UInt8)×Int))=>ao (.fr .ret ⟨[(4,(.s x4.1))],[],aB hp k0 [(.s c0.s),(I x4.2)]⟩)<|.nil) (.ex fun (yb_2:Int)=>ao (.lp (.ex 0) ⟨[(0,(.p k0 0)),(1,(.f 131 [])),(5,(I c0.at_)),(32,(.b false))],[],aB hp k0 [(.s c0.s),(I yb_2)]⟩)<|.fb<|.ex fun (x4:((List UInt8)×Int))=>ao (.fr .ret ⟨[(4,(.s x4.1))],[],aB hp k0 [(.s c0.s),(I x4.2)]⟩)<|.nil)) fun L=>ai (Nat.ne_of_lt hk_k0)<|ai (aM hp k0 [(.s c0.s),(I c0.at_)])<|bW h (eH (jI dp hp k0 hk_k0 hz c0) c0.at_) (fun ya_2 h=>aw h (ei dp hp k0 hk_k0 hz c0 ya_2.2) fun x4 h=>L h) (fun yb_2 h=>aw h (ei dp hp k0 hk_k0 hz c0 yb_2) fun x4 h=>L h)
def bK(v0_k0_1:Int):Option (Int⊕((Bool×Int)⊕Int)):=
 if v0_k0_1<(c0.s.length:Int) then
  (dG v0_k0_1).bind fun (j2:Nat)=>
  (c0.s[j2]?).bind fun (c4:UInt8)=>
  (jx (c4.toNat:Int)).bind fun (r6:Bool)=>
  if r6=true then
   if IntKind.i64.wrap (v0_k0_1+1)=v0_k0_1+1 then
    some (.inl (v0_k0_1+1))
   else none
  else
   some (.inr (.inl (r6,v0_k0_1)))
 else
  some (.inr (.inr v0_k0_1))
abbrev nM(dp:Nat)(hp:HP)(k0:Key)(c0:aN)(v:Int):St:=⟨[(0,(.p k0 0)),(1,(.f 132 [])),(5,(I c0.at_))],[],aB hp k0 [(.s c0.s),(I v)]⟩
abbrev nN(dp:Nat)(hp:HP)(k0:Key)(c0:aN)(x:((Bool×Int)⊕Int)):aK×St:=match x with | .inl (z1,z2)=>((.ex 0),⟨[(0,(.p k0 0)),(1,(.f 132 [])),(5,(I c0.at_)),(32,(.b z1))],[],aB hp k0 [(.s c0.s),(I z2)]⟩) | .inr z1=>((.ex 0),⟨[(0,(.p k0 0)),(1,(.f 132 [])),(5,(I c0.at_)),(32,(.b false))],[],aB hp k0 [(.s c0.s),(I z1)]⟩)
theorem mE(hk_k0:k0.dp<dp)(hz:cJ dp hp)(c0:aN)(v0_k0_1:Int)(o:Int⊕((Bool×Int)⊕Int))(h:bK c0 v0_k0_1=some o):bH ⟨dp,false⟩ EO (nM dp hp k0 c0) (nN dp hp k0 c0) v0_k0_1 o:=
 bV (bf<|ao (.l [(.s c0.s),(I v0_k0_1)])<|bf<|ao (.l [(.s c0.s),(I v0_k0_1)])<|ao (.i (c0.s.length:Int))<|.or (E9<|ao (.l [(.s c0.s),(I v0_k0_1)])<|yS<|ao (.l [(.s c0.s),(I v0_k0_1)])<|bt<|xN fun j2=>.ex fun (c4:UInt8)=>ao (.i (c4.toNat:Int))<|bt<|xB fun r6=>bt<|.or (jG<|ao (.l [(.s c0.s),(I v0_k0_1)])<|ao (.i (v0_k0_1+1))<|bf<|ao (.l [(.s c0.s),(I v0_k0_1)])<|bf<|ao (.h (aB hp k0 [(.s c0.s),(I (v0_k0_1+1))]))<|.nil) (bf<|.nil)) (Fa<|.nil)) fun L=>oM<|ai (Nat.ne_of_lt hk_k0)<|ai (aM hp k0 [(.s c0.s),(I v0_k0_1)])<|oM<|ai (Nat.ne_of_lt hk_k0)<|ai (aM hp k0 [(.s c0.s),(I v0_k0_1)])<|ai tt<|ai (rfl:(c0.s.length:Int)=(c0.s.length:Int))<|ai tt<|ai tt<|ai tt<|bu h (fun h1 h=>ai (g1 (decide_eq_true h1))<|ai tt<|ai (g1 (decide_eq_true h1))<|ai tt<|ai (g1 (decide_eq_true h1))<|ai tt<|ai (g1 (decide_eq_true h1))<|ai tt<|ai (g1 (decide_eq_true h1))<|ai (Nat.ne_of_lt hk_k0)<|ai (aM hp k0 [(.s c0.s),(I v0_k0_1)])<|Ky (decide_eq_true h1)<|ai (Nat.ne_of_lt hk_k0)<|ai (aM hp k0 [(.s c0.s),(I v0_k0_1)])<|ai tt<|ai (g1 (decide_eq_true h1))<|lB h fun j2 h3 h=>ai h3<|br h fun c4 h5 h=>ai (congrArg (Option.map fun z:UInt8=>(z.toNat:Int)) h5)<|ai tt<|ai (g1 (decide_eq_true h1))<|aw h (oQ (c4.toNat:Int)) fun r6 h=>ai (decide_eq_true h1)<|aJ h (fun h8 h=>ai h8<|ai (Nat.ne_of_lt hk_k0)<|ai (aM hp k0 [(.s c0.s),(I v0_k0_1)])<|aj h fun w9 h=>ai w9<|ai ff<|ai (Nat.ne_of_lt hk_k0)<|ai (aM hp k0 [(.s c0.s),(I v0_k0_1)])<|ai tt<|ai (Nat.ne_of_lt hk_k0)<|ai (ew hp k0 [(.s c0.s),(I v0_k0_1)] [(.s c0.s),(I (v0_k0_1+1))])<|L h) (fun h8 h=>ai h8<|L h)) (fun h1 h=>ai (g1 (decide_eq_false h1))<|ai (g1 (decide_eq_false h1))<|ai (g1 (decide_eq_false h1))<|ai (g1 (decide_eq_false h1))<|ai (g1 (decide_eq_false h1))<|ai (g1 (decide_eq_false h1))<|ai (g1 (decide_eq_false h1))<|ai (g1 (decide_eq_false h1))<|ai (g1 (decide_eq_false h1))<|ai (g1 (decide_eq_false h1))<|ai (g1 (decide_eq_false h1))<|ai (decide_eq_false h1)<|ai ff<|L h)
def cD(w1_1:Int):Option ((List UInt8)×Int):=
 (dG c0.at_).bind fun (j4:Nat)=>
 (dG w1_1).bind fun (j6:Nat)=>
 if j4≤j6 then
  if j6≤c0.s.length then
   some ((c0.s.take j6).drop j4,w1_1)
  else none
 else none
abbrev mF(dp:Nat)(hp:HP)(k0:Key)(c0:aN)(w1_1:Int)(x:((List UInt8)×Int)):aK×St:=(.ret,⟨[(4,(.s x.1))],[],aB hp k0 [(.s c0.s),(I x.2)]⟩)
theorem gb(hk_k0:k0.dp<dp)(hz:cJ dp hp)(c0:aN)(w1_1:Int)(x:((List UInt8)×Int))(h:cD c0 w1_1=some x):run G Ω0 ⟨dp,false⟩ EP ⟨[(0,(.p k0 0)),(5,(I c0.at_))],[],aB hp k0 [(.s c0.s),(I w1_1)]⟩=some (mF dp hp k0 c0 w1_1 x):=
 fP (bf<|ao (.l [(.s c0.s),(I w1_1)])<|bf<|ao (.l [(.s c0.s),(I w1_1)])<|xN fun j4=>xN fun j6=>ao (.s ((c0.s.take j6).drop j4))<|.nil) fun L=>oM<|ai (Nat.ne_of_lt hk_k0)<|ai (aM hp k0 [(.s c0.s),(I w1_1)])<|ai tt<|ai tt<|ai tt<|ai tt<|ai tt<|ai (Nat.ne_of_lt hk_k0)<|ai (aM hp k0 [(.s c0.s),(I w1_1)])<|ai tt<|lB h fun j4 h5 h=>ai h5<|lB h fun j6 h7 h=>ai h7<|ai (rfl:0=0)<|aj h fun h8 h=>ai h8<|aj h fun h9 h=>ai h9<|ai (rfl:(c0.s.take j6).drop j4=(c0.s.take j6).drop j4)<|L h
abbrev oR(dp:Nat)(hp:HP)(k0:Key)(c0:aN)(r:((List UInt8)×aN)):aZ×HP:=(.ret (.s r.1),aB hp k0 [(.s r.2.s),(I r.2.at_)])
def dw:Option ((List UInt8)×aN):=
 (lp (fun v=>bK c0 v) c0.at_).bind fun (x1:((Bool×Int)⊕Int))=>match x1 with
 | .inl ya_2=>
  (cD c0 ya_2.2).bind fun (x4:((List UInt8)×Int))=>
  some (x4.1,(⟨c0.s,x4.2⟩:aN))
 | .inr yb_2=>
  (cD c0 yb_2).bind fun (x4:((List UInt8)×Int))=>
  some (x4.1,(⟨c0.s,x4.2⟩:aN))
theorem mG(hk_k0:k0.dp<dp)(hz:cJ dp hp)(c0:aN)(r:((List UInt8)×aN))(h:dw c0=some r):call G Ω0 ⟨dp,false⟩ 130 [(.p k0 0),(.f 132 [])] (aB hp k0 [(.s c0.s),(I c0.at_)])=some (oR dp hp k0 c0 r):=
 aH PT (bf<|ao (.l [(.s c0.s),(I c0.at_)])<|.or (.ex fun (ya_2:(Bool×Int))=>ao (.lp (.ex 0) ⟨[(0,(.p k0 0)),(1,(.f 132 [])),(5,(I c0.at_)),(32,(.b ya_2.1))],[],aB hp k0 [(.s c0.s),(I ya_2.2)]⟩)<|.fb<|.ex fun (x4:((List UInt8)×Int))=>ao (.fr .ret ⟨[(4,(.s x4.1))],[],aB hp k0 [(.s c0.s),(I x4.2)]⟩)<|.nil) (.ex fun (yb_2:Int)=>ao (.lp (.ex 0) ⟨[(0,(.p k0 0)),(1,(.f 132 [])),(5,(I c0.at_)),(32,(.b false))],[],aB hp k0 [(.s c0.s),(I yb_2)]⟩)<|.fb<|.ex fun (x4:((List UInt8)×Int))=>ao (.fr .ret ⟨[(4,(.s x4.1))],[],aB hp k0 [(.s c0.s),(I x4.2)]⟩)<|.nil)) fun L=>ai (Nat.ne_of_lt hk_k0)<|ai (aM hp k0 [(.s c0.s),(I c0.at_)])<|bW h (eH (mE dp hp k0 hk_k0 hz c0) c0.at_) (fun ya_2 h=>aw h (gb dp hp k0 hk_k0 hz c0 ya_2.2) fun x4 h=>L h) (fun yb_2 h=>aw h (gb dp hp k0 hk_k0 hz c0 yb_2) fun x4 h=>L h)
end
section
variable (a0:(List UInt8))(a1:(List UInt8))(dp:Nat)(hp:HP)(k0:Key)(c0:aN)
abbrev oS(a0:(List UInt8))(a1:(List UInt8))(r:Bool):aZ×HP:=(.ret (.b r),H0)
def eJ:Option Bool:=
 if (a1.length:Int)≤(a0.length:Int) then
  if a1.length≤a0.length then
   some (((a0.take a1.length).drop 0)==a1)
  else none
 else
  some false
theorem mH(r:Bool)(h:eJ a0 a1=some r):call G Ω0 E0 104 [(.s a0),(.s a1)] H0=some (oS a0 a1 r):=
 aH Zn (ao (.i (a0.length:Int))<|ao (.i (a1.length:Int))<|.or (eI<|ao (.i (a1.length:Int))<|bt<|ao (.n a1.length)<|ao (.s ((a0.take a1.length).drop 0))<|eI<|.nil) (Ie<|.nil)) fun L=>ai (rfl:(a0.length:Int)=(a0.length:Int))<|ai (rfl:(a1.length:Int)=(a1.length:Int))<|bu h (fun h1 h=>vL (decide_eq_true h1)<|ai (rfl:(a1.length:Int)=(a1.length:Int))<|ai (g1 (decide_eq_true h1))<|ai (rfl:(a1.length:Int)=(a1.length:Int))<|ai (rfl:0=0)<|ai (Nat.zero_le _:0≤a1.length)<|aj h fun h2 h=>ai h2<|ai (rfl:(a0.take a1.length).drop 0=(a0.take a1.length).drop 0)<|xl (decide_eq_true h1)<|L h) (fun h1 h=>Kz (decide_eq_false h1)<|L h)
abbrev wQ(a0:(List UInt8))(a1:(List UInt8))(r:Bool):aZ×HP:=(.ret (.b r),H0)
def jq:Option Bool:=
 (eJ a0 a1).bind fun (r1:Bool)=>
 some r1
theorem uJ(r:Bool)(h:jq a0 a1=some r):call G Ω0 E0 69 [(.s a0),(.s a1)] H0=some (wQ a0 a1 r):=
 aH G69 (xB fun r1=>.nil) fun L=>aw h (mH a0 a1) fun r1 h=>L h
abbrev u9(dp:Nat)(hp:HP)(k0:Key)(c0:aN)(r:(Token×Int×aN)):aZ×HP:=(.ret (.tp [(.a (k9 r.1)),(I r.2.1)]),aB hp k0 [(.s r.2.2.s),(I r.2.2.at_)])
def gC:Option (Token×Int×aN):=
 (ij c0).bind fun (r1:Int)=>
 (ku r1).bind fun (r3:Bool)=>
 if r3=true then
  (cC c0).bind fun (r6:((List UInt8)×aN))=>
  if 12<(r6.1.length:Int) then
   some ((⟨1,c0.at_,r6.1⟩:Token),2,r6.2)
  else
   some ((⟨1,c0.at_,r6.1⟩:Token),0,r6.2)
 else
  (jx r1).bind fun (r6:Bool)=>
  if r6=true then
   (dw c0).bind fun (r9:((List UInt8)×aN))=>
   if 7<(r9.1.length:Int) then
    some ((⟨2,c0.at_,r9.1⟩:Token),2,r9.2)
   else
    if 1<(r9.1.length:Int) then
     if (r1==48)=true then
      some ((⟨2,c0.at_,r9.1⟩:Token),1,r9.2)
     else
      some ((⟨2,c0.at_,r9.1⟩:Token),0,r9.2)
    else
     some ((⟨2,c0.at_,r9.1⟩:Token),0,r9.2)
  else
   (dG c0.at_).bind fun (j9:Nat)=>
   if j9≤c0.s.length then
    (jq ((c0.s.take c0.s.length).drop j9) ([61,61])).bind fun (r12:Bool)=>
    if r12=true then
     if IntKind.i64.wrap (c0.at_+2)=c0.at_+2 then
      some ((⟨3,c0.at_,[61,61]⟩:Token),0,(⟨c0.s,c0.at_+2⟩:aN))
     else none
    else
     (pE ([123,125,40,41,59,58,33,44,61,43,45,42,60]) r1).bind fun (r15:Int)=>
     if 0≤r15 then
      if 0≤r1∧r1<128 then
       if IntKind.i64.wrap (c0.at_+1)=c0.at_+1 then
        some ((⟨3,c0.at_,[UInt8.ofNat (r1).toNat]⟩:Token),0,(⟨c0.s,c0.at_+1⟩:aN))
       else none
      else none
     else
      some ((⟨3,c0.at_,([]:List UInt8)⟩:Token),1,c0)
   else none
theorem sO(hk_k0:k0.dp<dp)(hz:cJ dp hp)(c0:aN)(r:(Token×Int×aN))(h:gC c0=some r):call G Ω0 ⟨dp,false⟩ 122 [(.p k0 0)] (aB hp k0 [(.s c0.s),(I c0.at_)])=some (u9 dp hp k0 c0 r):=
 aH Zv (bf<|ao (.l [(.s c0.s),(I c0.at_)])<|cu<|.ex fun (r1:Int)=>ao (.v (.i .u8 r1))<|ao (.h (boxes dp [(2,[(I 0),(I 0),(.s ([]:List UInt8))]),(4,[(I 3),(I c0.at_),(.s ([]:List UInt8))])] (aB hp k0 [(.s c0.s),(I c0.at_)])))<|xB fun r3=>.or (eI<|.ex fun (r6:((List UInt8)×aN))=>ao (.v (.s r6.1))<|ao (.h (boxes dp [(2,[(I 0),(I 0),(.s ([]:List UInt8))]),(4,[(I 1),(I c0.at_),(.s ([]:List UInt8))])] (aB hp k0 [(.s r6.2.s),(I r6.2.at_)])))<|ao (.bx [(2,[(I 0),(I 0),(.s ([]:List UInt8))]),(4,[(I 1),(I c0.at_),(.s ([]:List UInt8))])])<|ao (.h (aB hp k0 [(.s r6.2.s),(I r6.2.at_)]))<|eI<|ao (.i (r6.1.length:Int))<|.or (dD<|.nil) (bf<|bt<|bt<|bt<|.nil)) (bf<|xB fun r6=>.or (eI<|.ex fun (r9:((List UInt8)×aN))=>ao (.v (.s r9.1))<|ao (.h (boxes dp [(2,[(I 0),(I 0),(.s ([]:List UInt8))]),(4,[(I 2),(I c0.at_),(.s ([]:List UInt8))])] (aB hp k0 [(.s r9.2.s),(I r9.2.at_)])))<|ao (.bx [(2,[(I 0),(I 0),(.s ([]:List UInt8))]),(4,[(I 2),(I c0.at_),(.s ([]:List UInt8))])])<|ao (.h (aB hp k0 [(.s r9.2.s),(I r9.2.at_)]))<|eI<|ao (.i (r9.1.length:Int))<|.or (dD<|.nil) (yT<|ao (.i (r9.1.length:Int))<|.or (eI<|.or (dD<|.nil) (bf<|bt<|bt<|bt<|.nil)) (bf<|bf<|bf<|bf<|bt<|bt<|bt<|.nil))) (bf<|bf<|ao (.l [(.s c0.s),(I c0.at_)])<|bf<|ao (.l [(.s c0.s),(I c0.at_)])<|xN fun j9=>ao (.s ((c0.s.take c0.s.length).drop j9))<|xB fun r12=>.or (E6<|ao (.l [(.s c0.s),(I c0.at_)])<|ao (.i (c0.at_+2))<|bf<|ao (.l [(.s c0.s),(I c0.at_)])<|bf<|ao (.h (aB hp k0 [(.s c0.s),(I (c0.at_+2))]))<|eI<|.nil) (bf<|xI fun r15=>.or (bt<|ao (.s [UInt8.ofNat (r1).toNat])<|yR<|ao (.l [(.s c0.s),(I c0.at_)])<|ao (.i (c0.at_+1))<|bf<|ao (.l [(.s c0.s),(I c0.at_)])<|bf<|ao (.h (aB hp k0 [(.s c0.s),(I (c0.at_+1))]))<|eI<|.nil) (bf<|bt<|bt<|bt<|.nil))))) fun L=>ai ((by simp [AV.bn,AV.bY,AV.deep,AV.dB,ct hk_k0,Nat.le_of_lt hk_k0]):(([(0,(.p k0 0))]:List (Nat×AV)).all (fun y=>y.2.bn ⟨dp,2⟩)&&([]:List (Nat×List AV)).all (fun y=>AV.bY ⟨dp,2⟩ y.2))=true)<|ai (Nat.ne_of_lt hk_k0)<|ai (aM hp k0 [(.s c0.s),(I c0.at_)])<|ai ((by simp [AV.bn,AV.bY,AV.deep,AV.dB,ct hk_k0,Nat.le_of_lt hk_k0]):(([(10,(.a [(I 3),(I c0.at_),(.s ([]:List UInt8))])),(9,(I c0.at_)),(8,(.p k0 1)),(7,(.p k0 0)),(6,(.p k0 0)),(0,(.p k0 0)),(2,(.p ⟨dp,2⟩ 0))]:List (Nat×AV)).all (fun y=>y.2.bn ⟨dp,4⟩)&&([(2,[(I 0),(I 0),(.s ([]:List UInt8))])]:List (Nat×List AV)).all (fun y=>AV.bY ⟨dp,4⟩ y.2))=true)<|ai ff<|ai (rN dp)<|ai tt<|ai (rN dp)<|ai tt<|br h fun r1 ek2 h=>have ek2:call G Ω0 ⟨dp+1,true⟩ 128 [(.p k0 0)] (boxes dp [(2,[(I 0),(I 0),(.s ([]:List UInt8))]),(4,[(I 3),(I c0.at_),(.s ([]:List UInt8))])] (aB hp k0 [(.s c0.s),(I c0.at_)]))=some (.ret (.i .u8 r1),boxes dp [(2,[(I 0),(I 0),(.s ([]:List UInt8))]),(4,[(I 3),(I c0.at_),(.s ([]:List UInt8))])] (aB hp k0 [(.s c0.s),(I c0.at_)])):=ko (vK (hp1:=aB hp k0 [(.s c0.s),(I c0.at_)]) (Nat.ne_of_lt hk_k0) (ew ..)) (vK (hp1:=aB hp k0 [(.s c0.s),(I c0.at_)]) (Nat.ne_of_lt hk_k0) (ew ..)) (tF (dp+1) (boxes dp [(2,[(I 0),(I 0),(.s ([]:List UInt8))]),(4,[(I 3),(I c0.at_),(.s ([]:List UInt8))])] (aB hp k0 [(.s c0.s),(I c0.at_)])) k0 (Nat.lt_succ_of_lt hk_k0) (bj (a7 hk_k0 (hz))) c0 _ ek2);ai ek2<|aw h (rP r1) fun r3 h=>aJ h (fun h5 h=>ai h5<|ai ff<|ai (rN dp)<|ai tt<|ai (rN dp)<|nC<|br h fun r6 ek7 h=>have ek7:=cO hk_k0 (jK (dp+1) (boxes dp [(2,[(I 0),(I 0),(.s ([]:List UInt8))]),(4,[(I 1),(I c0.at_),(.s ([]:List UInt8))])] (aB hp k0 [(.s c0.s),(I c0.at_)])) k0 (Nat.lt_succ_of_lt hk_k0) (bj (a7 hk_k0 (hz))) c0 _ ek7);ai ek7<|ai (fB ek7 (by kernel_rfl) (by kernel_rfl))<|ai (fC ek7 (a7 hk_k0 (hz)))<|ai ff<|ai (rN dp)<|ai tt<|ai (rN dp)<|ai (rN dp)<|ai (rfl:(r6.1.length:Int)=(r6.1.length:Int))<|bu h (fun h8 h=>ai (decide_eq_true h8)<|ai (rN dp)<|ai ff<|ai (rN dp)<|ai tt<|ai (rN dp)<|ai (rN dp)<|L h) (fun h8 h=>ai (decide_eq_false h8)<|ai (rN dp)<|ai ff<|ai (rN dp)<|ai tt<|ai (rN dp)<|ai (rN dp)<|L h)) (fun h5 h=>ai h5<|aw h (oQ r1) fun r6 h=>aJ h (fun h8 h=>ai h8<|ai ff<|ai (rN dp)<|ai tt<|ai (rN dp)<|nC<|br h fun r9 ek10 h=>have ek10:=cO hk_k0 (mG (dp+1) (boxes dp [(2,[(I 0),(I 0),(.s ([]:List UInt8))]),(4,[(I 2),(I c0.at_),(.s ([]:List UInt8))])] (aB hp k0 [(.s c0.s),(I c0.at_)])) k0 (Nat.lt_succ_of_lt hk_k0) (bj (a7 hk_k0 (hz))) c0 _ ek10);ai ek10<|ai (fB ek10 (by kernel_rfl) (by kernel_rfl))<|ai (fC ek10 (a7 hk_k0 (hz)))<|ai ff<|ai (rN dp)<|ai tt<|ai (rN dp)<|ai (rN dp)<|ai (rfl:(r9.1.length:Int)=(r9.1.length:Int))<|bu h (fun h11 h=>ai (decide_eq_true h11)<|ai (rN dp)<|ai ff<|ai (rN dp)<|ai tt<|ai (rN dp)<|ai (rN dp)<|L h) (fun h11 h=>ai (decide_eq_false h11)<|ai (rN dp)<|ai (rfl:(r9.1.length:Int)=(r9.1.length:Int))<|bu h (fun h12 h=>xl (decide_eq_true h12)<|aJ h (fun h13 h=>ai h13<|ai (rN dp)<|ai ff<|ai (rN dp)<|ai tt<|ai (rN dp)<|ai (rN dp)<|L h) (fun h13 h=>ai h13<|ai (rN dp)<|ai ff<|ai (rN dp)<|ai tt<|ai (rN dp)<|ai (rN dp)<|L h)) (fun h12 h=>Mr (decide_eq_false h12)<|ai (rN dp)<|ai ff<|ai (rN dp)<|ai tt<|ai (rN dp)<|ai (rN dp)<|L h))) (fun h8 h=>ai h8<|ai tt<|ai tt<|ai tt<|ai tt<|ai (Nat.ne_of_lt hk_k0)<|ai (aM hp k0 [(.s c0.s),(I c0.at_)])<|oM<|ai (Nat.ne_of_lt hk_k0)<|ai (aM hp k0 [(.s c0.s),(I c0.at_)])<|ai tt<|lB h fun j9 h10 h=>ai h10<|ai (rfl:0=0)<|aj h fun h11 h=>ai h11<|ai (Nat.le_refl _:c0.s.length≤c0.s.length)<|ai (rfl:(c0.s.take c0.s.length).drop j9=(c0.s.take c0.s.length).drop j9)<|aw h (uJ ((c0.s.take c0.s.length).drop j9) ([61,61])) fun r12 h=>aJ h (fun h14 h=>ai h14<|ai ff<|ai (rN dp)<|ai tt<|ai (rN dp)<|ai (Nat.ne_of_lt hk_k0)<|ai (aM hp k0 [(.s c0.s),(I c0.at_)])<|aj h fun w15 h=>ai w15<|ai ff<|ai (Nat.ne_of_lt hk_k0)<|ai (aM hp k0 [(.s c0.s),(I c0.at_)])<|ai tt<|ai (Nat.ne_of_lt hk_k0)<|ai (ew hp k0 [(.s c0.s),(I c0.at_)] [(.s c0.s),(I (c0.at_+2))])<|ai (rN dp)<|ai ff<|ai (rN dp)<|ai tt<|ai (rN dp)<|ai (rN dp)<|L h) (fun h14 h=>ai h14<|br h fun r15 ek16 h=>have ek16:Ω0 133 [(.s ([123,125,40,41,59,58,33,44,61,43,45,42,60])),(.i .u8 r1)]=some (I r15):=DN ek16;ai ek16<|bu h (fun h17 h=>ai (decide_eq_true h17)<|aj h fun h18 h=>ai h18<|ai (rfl:[UInt8.ofNat (r1).toNat]=[UInt8.ofNat (r1).toNat])<|ai ff<|ai (rN dp)<|ai tt<|ai (rN dp)<|ai (Nat.ne_of_lt hk_k0)<|ai (aM hp k0 [(.s c0.s),(I c0.at_)])<|aj h fun w19 h=>ai w19<|ai ff<|ai (Nat.ne_of_lt hk_k0)<|ai (aM hp k0 [(.s c0.s),(I c0.at_)])<|ai tt<|ai (Nat.ne_of_lt hk_k0)<|ai (ew hp k0 [(.s c0.s),(I c0.at_)] [(.s c0.s),(I (c0.at_+1))])<|ai (rN dp)<|ai ff<|ai (rN dp)<|ai tt<|ai (rN dp)<|ai (rN dp)<|L h) (fun h17 h=>ai (decide_eq_false h17)<|ai (rN dp)<|ai ff<|ai (rN dp)<|ai tt<|ai (rN dp)<|ai (rN dp)<|L h))))
def fI(v0_6:(List Token))(v0_14_0:(List UInt8))(v0_14_1:Int):Option (((List Token)×(List UInt8)×Int)⊕((Int×Int×(List Token))⊕((List Token)×Bool×(List UInt8)×Int))):=
 if v0_14_1<(a0.length:Int) then
  (gC (⟨v0_14_0,v0_14_1⟩:aN)).bind fun (r5:(Token×Int×aN))=>
  if (r5.2.1 !=0)=true then
   some (.inr (.inl (r5.1.At,r5.2.1,v0_6)))
  else
   if v0_6.length + [r5.1].length≤1000000000 then
    (eb r5.2.2).bind fun (r9:aN)=>
    some (.inl (v0_6++[r5.1],r9.s,r9.at_))
   else none
 else
  some (.inr (.inr (v0_6,decide (v0_14_1<(a0.length:Int)),v0_14_0,v0_14_1)))
abbrev BQ(v:((List Token)×(List UInt8)×Int)):St:=⟨[(0,(.s a0)),(5,(.p ⟨0,14⟩ 0)),(6,(.o 118 (v.1.map cz)))],[(14,[(.s v.2.1),(I v.2.2)])],H0⟩
abbrev BR(x:((Int×Int×(List Token))⊕((List Token)×Bool×(List UInt8)×Int))):aK×St:=match x with | .inl (z1,z2,z3)=>(.ret,⟨[(2,(.l 118 (([]:List Token).map cz))),(3,(I z1)),(4,(I z2)),(6,(.o 118 (z3.map cz)))],[],H0⟩) | .inr (z1,z2,z3,z4)=>((.ex 0),⟨[(0,(.s a0)),(5,(.p ⟨0,14⟩ 0)),(6,(.o 118 (z1.map cz))),(23,(.b z2))],[(14,[(.s z3),(I z4)])],H0⟩)
theorem As(v0_6:(List Token))(v0_14_0:(List UInt8))(v0_14_1:Int)(o:((List Token)×(List UInt8)×Int)⊕((Int×Int×(List Token))⊕((List Token)×Bool×(List UInt8)×Int)))(h:fI a0 v0_6 v0_14_0 v0_14_1=some o):bH E0 I8 (BQ a0) (BR a0) (v0_6,v0_14_0,v0_14_1) o:=
 bV (bt<|ao (.i (a0.length:Int))<|.or (bt<|.ex fun (r5:(Token×Int×aN))=>ao (.v (.tp [(.a (k9 r5.1)),(I r5.2.1)]))<|ao (.h (boxes 0 [(14,[(.s r5.2.2.s),(I r5.2.2.at_)])] H0))<|ao (.bx [(14,[(.s r5.2.2.s),(I r5.2.2.at_)])])<|ao (.h (H0))<|cu<|.or (cu<|.nil) (yT<|ao (.l ([r5.1].map cz))<|ao (.l ((v0_6++[r5.1]).map cz))<|.ex fun (r9:aN)=>ao (.v (.tp []))<|ao (.h (boxes 0 [(14,[(.s r9.s),(I r9.at_)])] H0))<|ao (.bx [(14,[(.s r9.s),(I r9.at_)])])<|ao (.h (H0))<|.nil)) (bf<|.nil)) fun L=>ai (rfl:Z0)<|ai (rfl:(a0.length:Int)=(a0.length:Int))<|bu h (fun h4 h=>ai (decide_eq_true h4)<|ai ff<|ai tt<|br h fun r5 ek6 h=>have ek6:call G Ω0 ⟨0+1,false⟩ 122 [(.p ⟨0,14⟩ 0)] (boxes 0 [(14,[(.s v0_14_0),(I v0_14_1)])] H0)=some (.ret (.tp [(.a (k9 r5.1)),(I r5.2.1)]),boxes 0 [(14,[(.s r5.2.2.s),(I r5.2.2.at_)])] H0):=ko (dE (bx1:=[(14,[(.s v0_14_0),(I v0_14_1)])]) (by kernel_rfl) (by kernel_rfl)) (dE (bx1:=[(14,[(.s r5.2.2.s),(I r5.2.2.at_)])]) (by kernel_rfl) (by kernel_rfl)) (sO (0+1) (boxes 0 [(14,[(.s v0_14_0),(I v0_14_1)])] H0) ⟨0,14⟩ (Nat.lt_succ_self 0) (bj (dF 0)) (⟨v0_14_0,v0_14_1⟩:aN) _ ek6);ai ek6<|ai (fB ek6 (by kernel_rfl) (by kernel_rfl))<|ai (fC ek6 (dF 0))<|ai tt<|ai ff<|ai (rfl:Z0)<|ai tt<|ai (rfl:Z0)<|aJ h (fun h7 h=>ai h7<|ai tt<|ai tt<|ai (rfl:Z0)<|ai tt<|ai tt<|ai tt<|ai tt<|L h) (fun h7 h=>fO h7<|ai (rfl:[(.a (k9 r5.1))]=[r5.1].map cz)<|ai ff<|aj h fun h8 h=>ai ((Am cz (n:=3) (fun _=>rfl) [r5.1]):([r5.1].map cz).all (fun e=>e.nc==3)=true)<|ai ((Ez h8 (by decide)):((v0_6.map cz).length+([r5.1].map cz).length)*32≤140737488355328)<|ai ((EA h8):(v0_6.map cz).length+([r5.1].map cz).length≤maxLen)<|ai (List.map_append.symm:v0_6.map cz++[r5.1].map cz=(v0_6++[r5.1]).map cz)<|nC<|br h fun r9 ek10 h=>have ek10:call G Ω0 ⟨0+1,false⟩ 121 [(.p ⟨0,14⟩ 0)] (boxes 0 [(14,[(.s r5.2.2.s),(I r5.2.2.at_)])] H0)=some (.ret (.tp []),boxes 0 [(14,[(.s r9.s),(I r9.at_)])] H0):=ko (dE (bx1:=[(14,[(.s r5.2.2.s),(I r5.2.2.at_)])]) (by kernel_rfl) (by kernel_rfl)) (dE (bx1:=[(14,[(.s r9.s),(I r9.at_)])]) (by kernel_rfl) (by kernel_rfl)) (nE (0+1) (boxes 0 [(14,[(.s r5.2.2.s),(I r5.2.2.at_)])] H0) ⟨0,14⟩ (Nat.lt_succ_self 0) (bj (dF 0)) r5.2.2 _ ek10);ai ek10<|ai (fB ek10 (by kernel_rfl) (by kernel_rfl))<|ai (fC ek10 (dF 0))<|L h)) (fun h4 h=>ai (decide_eq_false h4)<|L h)
abbrev Fj(a0:(List UInt8))(r:((List Token)×Int×Int)):aZ×HP:=(.ret (.tp [(.l 118 (r.1.map cz)),(I r.2.1),(I r.2.2)]),H0)
def pP:Option ((List Token)×Int×Int):=
 if 6000<(a0.length:Int) then
  some (([]:List Token),0,2)
 else
  (eb (⟨a0,0⟩:aN)).bind fun (r2:aN)=>
  (lp (fun v=>fI a0 v.1 v.2.1 v.2.2) (([]:List Token),r2.s,r2.at_)).bind fun (x4:((Int×Int×(List Token))⊕((List Token)×Bool×(List UInt8)×Int)))=>match x4 with
  | .inl ya_5=>
   some (([]:List Token),ya_5.1,ya_5.2.1)
  | .inr yb_5=>
   some (yb_5.1,0,0)
theorem Au(r:((List Token)×Int×Int))(h:pP a0=some r):call G Ω0 E0 116 [(.s a0)] H0=some (Fj a0 r):=
 aH Zt (ao (.i (a0.length:Int))<|oN (.ex fun (r2:aN)=>ao (.v (.tp []))<|ao (.h (boxes 0 [(14,[(.s r2.s),(I r2.at_)])] H0))<|ao (.bx [(14,[(.s r2.s),(I r2.at_)])])<|ao (.h (H0))<|.or (.ex fun (ya_5:(Int×Int×(List Token)))=>ao (.lp .ret ⟨[(2,(.l 118 (([]:List Token).map cz))),(3,(I ya_5.1)),(4,(I ya_5.2.1)),(6,(.o 118 (ya_5.2.2.map cz)))],[],H0⟩)<|.nil) (.ex fun (yb_5:((List Token)×Bool×(List UInt8)×Int))=>ao (.lp (.ex 0) ⟨[(0,(.s a0)),(5,(.p ⟨0,14⟩ 0)),(6,(.o 118 (yb_5.1.map cz))),(23,(.b yb_5.2.1))],[(14,[(.s yb_5.2.2.1),(I yb_5.2.2.2)])],H0⟩)<|.nil))) fun L=>ai (rfl:(a0.length:Int)=(a0.length:Int))<|bu h (fun h1 h=>ai (decide_eq_true h1)<|L h) (fun h1 h=>ai (decide_eq_false h1)<|ai tt<|ai ff<|ai tt<|br h fun r2 ek3 h=>have ek3:call G Ω0 ⟨0+1,false⟩ 121 [(.p ⟨0,14⟩ 0)] (boxes 0 [(14,[(.s a0),(I 0)])] H0)=some (.ret (.tp []),boxes 0 [(14,[(.s r2.s),(I r2.at_)])] H0):=ko (dE (bx1:=[(14,[(.s a0),(I 0)])]) (by kernel_rfl) (by kernel_rfl)) (dE (bx1:=[(14,[(.s r2.s),(I r2.at_)])]) (by kernel_rfl) (by kernel_rfl)) (nE (0+1) (boxes 0 [(14,[(.s a0),(I 0)])] H0) ⟨0,14⟩ (Nat.lt_succ_self 0) (bj (dF 0)) (⟨a0,0⟩:aN) _ ek3);ai ek3<|ai (fB ek3 (by kernel_rfl) (by kernel_rfl))<|ai (fC ek3 (dF 0))<|bW h (eH (fun v=>As a0 v.1 v.2.1 v.2.2) (([]:List Token),r2.s,r2.at_)) (fun ya_5 h=>L h) (fun yb_5 h=>L h))
def va:List cL:=(gA 4 36)::[]
end
section
variable (a0:Int)(a1:(List UInt8))
def iE(a0:Int)(a1:(List UInt8))(r1:((List Token)×Int×Int))(u2_1:Bool):Option Bool:=
 some u2_1
abbrev BS(a0:Int)(a1:(List UInt8))(r1:((List Token)×Int×Int))(u2_1:Bool)(x:Bool):St:=⟨[(4,(.b x))],[],H0⟩
theorem lL(r1:((List Token)×Int×Int))(u2_1:Bool)(w:List AV)(x:Bool)(h:iE a0 a1 r1 u2_1=some x):eB G Ω0 E0 [4] [] va ⟨[(36,(.b u2_1)),(35,(W w 0)),(34,(W w 1)),(33,(W w 2)),(32,(W w 3)),(31,(W w 4)),(30,(W w 5)),(29,(W w 6)),(28,(W w 7)),(27,(W w 8)),(26,(W w 9)),(25,(W w 10)),(24,(W w 11)),(23,(W w 12)),(22,(W w 13)),(21,(W w 14)),(20,(W w 15)),(19,(W w 16)),(18,(W w 17)),(17,(W w 18)),(16,(.b (r1.2.2==0))),(15,(.b (r1.2.2==0))),(14,(I r1.2.2)),(0,(I a0)),(1,(.s a1)),(5,(.l 118 (r1.1.map cz))),(7,(I r1.2.2))],[],H0⟩=some (BS a0 a1 r1 u2_1 x):=
 dv (.nil) fun L=>L h
def BT:List cL:=(gM 14 7)::(gB 15 .eql 14 (kI 0))::(gM 16 15)::⟨some 17,.mv 5,some ⟨16,true⟩,false⟩::⟨some 18,.ln false 17,some ⟨16,true⟩,false⟩::⟨some 19,.bo .eql false 18 (kI 1),some ⟨16,true⟩,false⟩::(gp 20 (.pk 16 19 (.c (.b false))))::(gM 21 20)::⟨some 22,.mv 5,some ⟨21,true⟩,false⟩::⟨some 23,.ia 3 none 22 (kI 0),some ⟨21,true⟩,false⟩::⟨some 24,.fa 0 23,some ⟨21,true⟩,false⟩::⟨some 25,.ld none 24,some ⟨21,true⟩,false⟩::⟨some 26,.mv 0,some ⟨21,true⟩,false⟩::⟨some 27,.bo .eql false 25 26,some ⟨21,true⟩,false⟩::(gp 28 (.pk 21 27 (.c (.b false))))::(gM 29 28)::⟨some 30,.mv 5,some ⟨29,true⟩,false⟩::⟨some 31,.ia 3 none 30 (kI 0),some ⟨29,true⟩,false⟩::⟨some 32,.fa 2 31,some ⟨29,true⟩,false⟩::⟨some 33,.ld none 32,some ⟨29,true⟩,false⟩::⟨some 34,.mv 1,some ⟨29,true⟩,false⟩::⟨some 35,.bo .eql false 33 34,some ⟨29,true⟩,false⟩::(gp 36 (.pk 29 35 (.c (.b false))))::va
def qy(r1:((List Token)×Int×Int)):Option Bool:=
 if (r1.2.2==0)=true then
  if ((r1.1.length:Int)==1)=true then
   (r1.1[0]?).bind fun (y5:Token)=>
   if (y5.Kind==a0)=true then
    (iE a0 a1 r1 (y5.Text==a1)).bind fun (x8:Bool)=>
    some x8
   else
    (iE a0 a1 r1 false).bind fun (x8:Bool)=>
    some x8
  else
   (iE a0 a1 r1 false).bind fun (x5:Bool)=>
   some x5
 else
  (iE a0 a1 r1 false).bind fun (x4:Bool)=>
  some x4
abbrev BU(a0:Int)(a1:(List UInt8))(r1:((List Token)×Int×Int))(x:Bool):St:=⟨[(4,(.b x))],[],H0⟩
theorem Av(r1:((List Token)×Int×Int))(x:Bool)(h:qy a0 a1 r1=some x):eB G Ω0 E0 [4] [] BT ⟨[(0,(I a0)),(1,(.s a1)),(5,(.l 118 (r1.1.map cz))),(7,(I r1.2.2))],[],H0⟩=some (BU a0 a1 r1 x):=
 dv (.or (cu<|ao (.i (r1.1.length:Int))<|cu<|.or (cu<|ao (.n 0)<|.ex fun (y5:Token)=>ao (.v (.a (k9 y5)))<|pJ<|.or (cu<|ao (.n 0)<|ao (.v (.a (k9 y5)))<|pJ<|.jb (some 4) 0<|.ex fun (x8:Bool)=>ao (.jn ⟨[(4,(.b x8))],[],H0⟩)<|.nil) (Ie<|.jb (some 4) 0<|.ex fun (x8:Bool)=>ao (.jn ⟨[(4,(.b x8))],[],H0⟩)<|.nil)) (bf<|bf<|bf<|bf<|bf<|bf<|bf<|bf<|bf<|bf<|bf<|bf<|bf<|bf<|.jb (some 4) 0<|.ex fun (x5:Bool)=>ao (.jn ⟨[(4,(.b x5))],[],H0⟩)<|.nil)) (bf<|bf<|bf<|bf<|bf<|bf<|bf<|bf<|bf<|bf<|bf<|bf<|bf<|bf<|bf<|bf<|bf<|bf<|.jb (some 4) 0<|.ex fun (x4:Bool)=>ao (.jn ⟨[(4,(.b x4))],[],H0⟩)<|.nil)) fun L=>aJ h (fun h3 h=>ie h3<|ai (aO cz r1.1)<|jv h3<|aJ h (fun h4 h=>ie h4<|ai (rI 0)<|br h fun y5 h6 h=>ai (cj cz h6)<|E3 h4<|aJ h (fun h7 h=>ie h7<|ai (rI 0)<|ai (cj cz h6)<|E3 h7<|aw h (lL a0 a1 r1 (y5.Text==a1) [(.b (y5.Text==a1)),(.s a1),(.s y5.Text),(.e (.a (k9 y5)) 2),(.e (.a (k9 y5)) 0),(.l 118 (r1.1.map cz)),(.b (y5.Kind==a0)),(.b (y5.Kind==a0)),(.b (y5.Kind==a0)),(I a0),(I y5.Kind),(.e (.a (k9 y5)) 0),(.e (.a (k9 y5)) 0),(.l 118 (r1.1.map cz)),(.b ((r1.1.length:Int)==1)),(.b ((r1.1.length:Int)==1)),(.b ((r1.1.length:Int)==1)),(I (r1.1.length:Int)),(.l 118 (r1.1.map cz))]) fun x8 h=>L h) (fun h7 h=>Kz h7<|aw h (lL a0 a1 r1 false [.sk,.sk,.sk,.sk,.sk,.sk,(.b (y5.Kind==a0)),(.b (y5.Kind==a0)),(.b (y5.Kind==a0)),(I a0),(I y5.Kind),(.e (.a (k9 y5)) 0),(.e (.a (k9 y5)) 0),(.l 118 (r1.1.map cz)),(.b ((r1.1.length:Int)==1)),(.b ((r1.1.length:Int)==1)),(.b ((r1.1.length:Int)==1)),(I (r1.1.length:Int)),(.l 118 (r1.1.map cz))]) fun x8 h=>L h)) (fun h4 h=>ai (g1 h4)<|ai (g1 h4)<|ai (g1 h4)<|ai (g1 h4)<|ai (g1 h4)<|ai (g1 h4)<|ai h4<|ai gf<|ai gf<|ai gf<|ai gf<|ai gf<|ai gf<|ai ff<|aw h (lL a0 a1 r1 false [.sk,.sk,.sk,.sk,.sk,.sk,(.b false),(.b false),.sk,.sk,.sk,.sk,.sk,.sk,(.b ((r1.1.length:Int)==1)),(.b ((r1.1.length:Int)==1)),(.b ((r1.1.length:Int)==1)),(I (r1.1.length:Int)),(.l 118 (r1.1.map cz))]) fun x5 h=>L h)) (fun h3 h=>ai (g1 h3)<|ai (g1 h3)<|ai (g1 h3)<|ai h3<|ai gf<|ai gf<|ai gf<|ai gf<|ai gf<|ai gf<|ai ff<|ai gf<|ai gf<|ai gf<|ai gf<|ai gf<|ai gf<|ai ff<|aw h (lL a0 a1 r1 false [.sk,.sk,.sk,.sk,.sk,.sk,(.b false),(.b false),.sk,.sk,.sk,.sk,.sk,.sk,(.b false),(.b false),.sk,.sk,.sk]) fun x4 h=>L h)
abbrev GO(a0:Int)(a1:(List UInt8))(r:Bool):aZ×HP:=(.ret (.b r),H0)
def qT:Option Bool:=
 (pP a1).bind fun (r1:((List Token)×Int×Int))=>
 (qy a0 a1 r1).bind fun (x3:Bool)=>
 some x3
theorem BV(r:Bool)(h:qT a0 a1=some r):call G Ω0 E0 110 [(I a0),(.s a1)] H0=some (GO a0 a1 r):=
 aH Zq (.ex fun (r1:((List Token)×Int×Int))=>ao (.v (.tp [(.l 118 (r1.1.map cz)),(I r1.2.1),(I r1.2.2)]))<|.jb (some 14) 23<|.ex fun (x3:Bool)=>ao (.jn ⟨[(4,(.b x3))],[],H0⟩)<|.nil) fun L=>aw h (Au a1) fun r1 h=>aw h (Av a0 a1 r1) fun x3 h=>L h
end
section
variable (a0:(List UInt8))
abbrev Fk(a0:(List UInt8))(r:Bool):aZ×HP:=(.ret (.b r),H0)
def sP:Option Bool:=
 (qT 1 a0).bind fun (r1:Bool)=>
 some r1
theorem Aw(r:Bool)(h:sP a0=some r):call G Ω0 E0 89 [(.s a0)] H0=some (Fk a0 r):=
 aH G89 (xB fun r1=>.nil) fun L=>aw h (BV 1 a0) fun r1 h=>L h
abbrev Fl(r:(List (List UInt8))):aZ×HP:=(.ret (.l 9 (r.map AV.s)),H0)
def sQ:Option (List (List UInt8)):=
 some ([[97,99,116,111,114],[103,114,97,110,116],[115,112,101,97,107],[105,110],[111,117,116],[118,97,114],[102,117,110,99],[109,97,105,110],[103,101,116],[112,117,116],[114,101,118,101,97,108],[116,114,117,115,116],[105,102],[101,108,115,101],[119,104,105,108,101],[114,101,116,117,114,110]])
theorem Ax(r:(List (List UInt8)))(h:sQ=some r):call G Ω0 E0 91 [] H0=some (Fl r):=
 aH G91 (ao (.l (([[97,99,116,111,114],[103,114,97,110,116],[115,112,101,97,107],[105,110],[111,117,116],[118,97,114],[102,117,110,99],[109,97,105,110],[103,101,116],[112,117,116],[114,101,118,101,97,108],[116,114,117,115,116],[105,102],[101,108,115,101],[119,104,105,108,101],[114,101,116,117,114,110]]).map AV.s))<|.nil) fun L=>ai (rfl:[(.s ([97,99,116,111,114])),(.s ([103,114,97,110,116])),(.s ([115,112,101,97,107])),(.s ([105,110])),(.s ([111,117,116])),(.s ([118,97,114])),(.s ([102,117,110,99])),(.s ([109,97,105,110])),(.s ([103,101,116])),(.s ([112,117,116])),(.s ([114,101,118,101,97,108])),(.s ([116,114,117,115,116])),(.s ([105,102])),(.s ([101,108,115,101])),(.s ([119,104,105,108,101])),(.s ([114,101,116,117,114,110]))]=([[97,99,116,111,114],[103,114,97,110,116],[115,112,101,97,107],[105,110],[111,117,116],[118,97,114],[102,117,110,99],[109,97,105,110],[103,101,116],[112,117,116],[114,101,118,101,97,108],[116,114,117,115,116],[105,102],[101,108,115,101],[119,104,105,108,101],[114,101,116,117,114,110]]).map AV.s)<|L h
end
section
variable (a0:(List (List UInt8)))(a1:(List UInt8))
def nF(v0_8:Nat):Option (Nat⊕(Nat⊕(Nat×Bool))):=
 if (v0_8:Int)<(a0.length:Int) then
  (a0[v0_8]?).bind fun (y2:(List UInt8))=>
  if (a1==y2)=true then
   some (.inr (.inl v0_8))
  else
   if IntKind.i64.wrap ((v0_8:Int)+1)=((v0_8+1:Nat):Int) then
    some (.inl (v0_8+1))
   else none
 else
  some (.inr (.inr (v0_8,decide ((v0_8:Int)<(a0.length:Int)))))
abbrev tH(v:Nat):St:=⟨[(0,(.l 9 (a0.map AV.s))),(1,(.s a1)),(7,(I (a0.length:Int))),(8,(I (v:Int)))],[],H0⟩
abbrev tI(x:(Nat⊕(Nat×Bool))):aK×St:=match x with | .inl z1=>(.ret,⟨[(4,(I (z1:Int)))],[],H0⟩) | .inr (z1,z2)=>((.ex 0),⟨[(0,(.l 9 (a0.map AV.s))),(1,(.s a1)),(7,(I (a0.length:Int))),(8,(I (z1:Int))),(9,(.b z2))],[],H0⟩)
theorem sR(v0_8:Nat)(o:Nat⊕(Nat⊕(Nat×Bool)))(h:nF a0 a1 v0_8=some o):bH E0 I7 (tH a0 a1) (tI a0 a1) v0_8 o:=
 bV (.or (bt<|ao (.n v0_8)<|.ex fun (y2:(List UInt8))=>ao (.v (.s y2))<|oN (ao (.i ((v0_8+1:Nat):Int))<|.nil)) (bf<|.nil)) fun L=>bu h (fun h1 h=>ai (decide_eq_true h1)<|ai (rI v0_8)<|br h fun y2 h3 h=>ai (cj AV.s h3)<|aJ h (fun h4 h=>ai h4<|L h) (fun h4 h=>ai h4<|aj h fun w5 h=>ai w5<|L h)) (fun h1 h=>ai (decide_eq_false h1)<|L h)
abbrev vc(a0:(List (List UInt8)))(a1:(List UInt8))(r:Int):aZ×HP:=(.ret (I r),H0)
def pb:Option Int:=
 (lp (fun v=>nF a0 a1 v) 0).bind fun (x1:(Nat⊕(Nat×Bool)))=>match x1 with
 | .inl ya_2=>
  some (ya_2:Int)
 | .inr yb_2=>
  some (-1)
theorem sS(r:Int)(h:pb a0 a1=some r):call G Ω0 E0 111 [(.l 9 (a0.map AV.s)),(.s a1)] H0=some (vc a0 a1 r):=
 aH Zr (ao (.i (a0.length:Int))<|.or (.ex fun (ya_2:Nat)=>ao (.lp .ret ⟨[(4,(I (ya_2:Int)))],[],H0⟩)<|.nil) (.ex fun (yb_2:(Nat×Bool))=>ao (.lp (.ex 0) ⟨[(0,(.l 9 (a0.map AV.s))),(1,(.s a1)),(7,(I (a0.length:Int))),(8,(I (yb_2.1:Int))),(9,(.b yb_2.2))],[],H0⟩)<|.nil)) fun L=>ai (aO AV.s a0)<|bW h (eH (sR a0 a1) 0) (fun ya_2 h=>L h) (fun yb_2 h=>L h)
abbrev sT(a0:(List (List UInt8)))(a1:(List UInt8))(r:Bool):aZ×HP:=(.ret (.b r),H0)
def dS:Option Bool:=
 (pb a0 a1).bind fun (r1:Int)=>
 some (decide (0≤r1))
theorem ra(r:Bool)(h:dS a0 a1=some r):call G Ω0 E0 90 [(.l 9 (a0.map AV.s)),(.s a1)] H0=some (sT a0 a1 r):=
 aH G90 (xI fun r1=>.nil) fun L=>aw h (sS a0 a1) fun r1 h=>L h
end
section
variable (a0:(List UInt8))(a1:Bool)
abbrev GP(a0:(List UInt8))(r:Bool):aZ×HP:=(.ret (.b r),H0)
def fS:Option Bool:=
 (sP a0).bind fun (r1:Bool)=>
 if r1=true then
  (sQ).bind fun (r4:(List (List UInt8)))=>
  (dS r4 a0).bind fun (r6:Bool)=>
  some (!r6)
 else
  some false
theorem iF(r:Bool)(h:fS a0=some r):call G Ω0 E0 54 [(.s a0)] H0=some (GP a0 r):=
 aH G54 (xB fun r1=>.or (bt<|.ex fun (r4:(List (List UInt8)))=>ao (.v (.l 9 (r4.map AV.s)))<|cu<|xB fun r6=>cu<|.nil) (Ig<|.nil)) fun L=>aw h (Aw a0) fun r1 h=>aJ h (fun h3 h=>ai (g1 h3)<|aw h (Ax) fun r4 h=>ie h3<|aw h (ra r4 a0) fun r6 h=>jv h3<|L h) (fun h3 h=>E3 h3<|L h)
abbrev Fm(a0:(List UInt8))(a1:Bool)(r:Bool):aZ×HP:=(.ret (.b r),H0)
def eC:Option Bool:=
 if a1=true then
  (fS a0).bind fun (r2:Bool)=>
  if r2=true then
   some true
  else
   some false
 else
  some (a0==([]:List UInt8))
theorem e6(r:Bool)(h:eC a0 a1=some r):call G Ω0 E0 55 [(.s a0),(.b a1)] H0=some (Fm a0 a1 r):=
 aH G55 (.or (cu<|xB fun r2=>bt<|.or (Fb<|.nil) (bt<|bt<|bt<|bf<|bf<|bt<|bf<|bf<|.nil)) (bf<|bf<|bf<|bt<|bt<|bt<|bt<|bt<|bt<|bt<|bf<|.nil)) fun L=>aJ h (fun h1 h=>ie h1<|aw h (iF a0) fun r2 h=>ai h1<|aJ h (fun h4 h=>E4 h4<|L h) (fun h4 h=>E1 h4<|ie (congrArg not h1)<|ai (g0 h4)<|ai (congrArg not h1)<|ai h4<|L h)) (fun h1 h=>ai (g1 h1)<|ai (g1 h1)<|ai h1<|ai hf<|ai hf<|ai hf<|ai (g1 (congrArg not h1))<|ai (g1 (congrArg not h1))<|ai hf<|ai (congrArg not h1)<|ai ff<|L h)
abbrev zm(a0:(List UInt8))(r:Bool):aZ×HP:=(.ret (.b r),H0)
def kP:Option Bool:=
 (fS a0).bind fun (r1:Bool)=>
 some (!r1)
theorem wR(r:Bool)(h:kP a0=some r):call G Ω0 E0 93 [(.s a0)] H0=some (zm a0 r):=
 aH G93 (xB fun r1=>.nil) fun L=>aw h (iF a0) fun r1 h=>L h
end
section
variable (a0:(List (List UInt8)))
def gd(v0_8:Nat):Option (Nat⊕(Nat⊕(Nat×Bool))):=
 if (v0_8:Int)<(a0.length:Int) then
  (a0[v0_8]?).bind fun (y2:(List UInt8))=>
  (kP y2).bind fun (r4:Bool)=>
  if r4=true then
   some (.inr (.inl v0_8))
  else
   if IntKind.i64.wrap ((v0_8:Int)+1)=((v0_8+1:Nat):Int) then
    some (.inl (v0_8+1))
   else none
 else
  some (.inr (.inr (v0_8,decide ((v0_8:Int)<(a0.length:Int)))))
abbrev l9(v:Nat):St:=⟨[(0,(.l 9 (a0.map AV.s))),(1,(.f 93 [])),(7,(I (a0.length:Int))),(8,(I (v:Int)))],[],H0⟩
abbrev ma(x:(Nat⊕(Nat×Bool))):aK×St:=match x with | .inl z1=>(.ret,⟨[(4,(I (z1:Int)))],[],H0⟩) | .inr (z1,z2)=>((.ex 0),⟨[(0,(.l 9 (a0.map AV.s))),(1,(.f 93 [])),(7,(I (a0.length:Int))),(8,(I (z1:Int))),(9,(.b z2))],[],H0⟩)
theorem lV(v0_8:Nat)(o:Nat⊕(Nat⊕(Nat×Bool)))(h:gd a0 v0_8=some o):bH E0 HZ (l9 a0) (ma a0) v0_8 o:=
 bV (.or (bt<|ao (.n v0_8)<|.ex fun (y2:(List UInt8))=>ao (.v (.s y2))<|xB fun r4=>oN (ao (.i ((v0_8+1:Nat):Int))<|.nil)) (bf<|.nil)) fun L=>bu h (fun h1 h=>ai (decide_eq_true h1)<|ai (rI v0_8)<|br h fun y2 h3 h=>ai (cj AV.s h3)<|aw h (wR y2) fun r4 h=>aJ h (fun h6 h=>ai h6<|L h) (fun h6 h=>ai h6<|aj h fun w7 h=>ai w7<|L h)) (fun h1 h=>ai (decide_eq_false h1)<|L h)
abbrev nO(a0:(List (List UInt8)))(r:Int):aZ×HP:=(.ret (I r),H0)
def gU:Option Int:=
 (lp (fun v=>gd a0 v) 0).bind fun (x1:(Nat⊕(Nat×Bool)))=>match x1 with
 | .inl ya_2=>
  some (ya_2:Int)
 | .inr yb_2=>
  some (-1)
theorem lW(r:Int)(h:gU a0=some r):call G Ω0 E0 96 [(.l 9 (a0.map AV.s)),(.f 93 [])] H0=some (nO a0 r):=
 aH YR (ao (.i (a0.length:Int))<|.or (.ex fun (ya_2:Nat)=>ao (.lp .ret ⟨[(4,(I (ya_2:Int)))],[],H0⟩)<|.nil) (.ex fun (yb_2:(Nat×Bool))=>ao (.lp (.ex 0) ⟨[(0,(.l 9 (a0.map AV.s))),(1,(.f 93 [])),(7,(I (a0.length:Int))),(8,(I (yb_2.1:Int))),(9,(.b yb_2.2))],[],H0⟩)<|.nil)) fun L=>ai (aO AV.s a0)<|bW h (eH (lV a0) 0) (fun ya_2 h=>L h) (fun yb_2 h=>L h)
abbrev lX(a0:(List (List UInt8)))(r:Bool):aZ×HP:=(.ret (.b r),H0)
def dM:Option Bool:=
 (gU a0).bind fun (r1:Int)=>
 some (decide (0≤r1))
theorem kQ(r:Bool)(h:dM a0=some r):call G Ω0 E0 58 [(.l 9 (a0.map AV.s)),(.f 93 [])] H0=some (lX a0 r):=
 aH YP (xI fun r1=>.nil) fun L=>aw h (lW a0) fun r1 h=>L h
end
section
variable (a0:aD)
abbrev BW(a0:aD)(r:Bool):aZ×HP:=(.ret (.b r),H0)
def mI:Option Bool:=
 (fS a0.Owner).bind fun (r1:Bool)=>
 if r1=true then
  (dM a0.Names).bind fun (r4:Bool)=>
  some r4
 else
  some true
theorem yE(r:Bool)(h:mI a0=some r):call G Ω0 E0 92 [(.a (cY a0))] H0=some (BW a0 r):=
 aH G92 (bt<|xB fun r1=>.or (dD<|xB fun r4=>bf<|.nil) (Ic<|.nil)) fun L=>od<|aw h (iF a0.Owner) fun r1 h=>aJ h (fun h3 h=>qu (congrArg not h3)<|aw h (kQ a0.Names) fun r4 h=>ai (congrArg not h3)<|L h) (fun h3 h=>Mq (congrArg not h3)<|L h)
end
section
variable (a0:(List aD))
def gX(v0_8:Nat):Option (Nat⊕(Nat⊕(Nat×Bool))):=
 if (v0_8:Int)<(a0.length:Int) then
  (a0[v0_8]?).bind fun (y2:aD)=>
  (mI y2).bind fun (r4:Bool)=>
  if r4=true then
   some (.inr (.inl v0_8))
  else
   if IntKind.i64.wrap ((v0_8:Int)+1)=((v0_8+1:Nat):Int) then
    some (.inl (v0_8+1))
   else none
 else
  some (.inr (.inr (v0_8,decide ((v0_8:Int)<(a0.length:Int)))))
abbrev nP(v:Nat):St:=⟨[(0,(.l 74 (a0.map aA))),(1,(.f 92 [])),(7,(I (a0.length:Int))),(8,(I (v:Int)))],[],H0⟩
abbrev nQ(x:(Nat⊕(Nat×Bool))):aK×St:=match x with | .inl z1=>(.ret,⟨[(4,(I (z1:Int)))],[],H0⟩) | .inr (z1,z2)=>((.ex 0),⟨[(0,(.l 74 (a0.map aA))),(1,(.f 92 [])),(7,(I (a0.length:Int))),(8,(I (z1:Int))),(9,(.b z2))],[],H0⟩)
theorem mJ(v0_8:Nat)(o:Nat⊕(Nat⊕(Nat×Bool)))(h:gX a0 v0_8=some o):bH E0 HY (nP a0) (nQ a0) v0_8 o:=
 bV (.or (bt<|ao (.n v0_8)<|.ex fun (y2:aD)=>ao (.v (.a (cY y2)))<|xB fun r4=>oN (ao (.i ((v0_8+1:Nat):Int))<|.nil)) (bf<|.nil)) fun L=>bu h (fun h1 h=>ai (decide_eq_true h1)<|ai (rI v0_8)<|br h fun y2 h3 h=>ai (cj aA h3)<|aw h (yE y2) fun r4 h=>aJ h (fun h6 h=>ai h6<|L h) (fun h6 h=>ai h6<|aj h fun w7 h=>ai w7<|L h)) (fun h1 h=>ai (decide_eq_false h1)<|L h)
abbrev oT(a0:(List aD))(r:Int):aZ×HP:=(.ret (I r),H0)
def iW:Option Int:=
 (lp (fun v=>gX a0 v) 0).bind fun (x1:(Nat⊕(Nat×Bool)))=>match x1 with
 | .inl ya_2=>
  some (ya_2:Int)
 | .inr yb_2=>
  some (-1)
theorem mK(r:Int)(h:iW a0=some r):call G Ω0 E0 86 [(.l 74 (a0.map aA)),(.f 92 [])] H0=some (oT a0 r):=
 aH YQ (ao (.i (a0.length:Int))<|.or (.ex fun (ya_2:Nat)=>ao (.lp .ret ⟨[(4,(I (ya_2:Int)))],[],H0⟩)<|.nil) (.ex fun (yb_2:(Nat×Bool))=>ao (.lp (.ex 0) ⟨[(0,(.l 74 (a0.map aA))),(1,(.f 92 [])),(7,(I (a0.length:Int))),(8,(I (yb_2.1:Int))),(9,(.b yb_2.2))],[],H0⟩)<|.nil)) fun L=>ai (aO aA a0)<|bW h (eH (mJ a0) 0) (fun ya_2 h=>L h) (fun yb_2 h=>L h)
abbrev mM(a0:(List aD))(r:Bool):aZ×HP:=(.ret (.b r),H0)
def ec:Option Bool:=
 (iW a0).bind fun (r1:Int)=>
 some (decide (0≤r1))
theorem lE(r:Bool)(h:ec a0=some r):call G Ω0 E0 49 [(.l 74 (a0.map aA)),(.f 92 [])] H0=some (mM a0 r):=
 aH YO (xI fun r1=>.nil) fun L=>aw h (mK a0) fun r1 h=>L h
abbrev Fo(a0:(List aD))(r:Bool):aZ×HP:=(.ret (.b r),H0)
def mb:Option Bool:=
 (ec a0).bind fun (r1:Bool)=>
 some (!r1)
theorem tR(r:Bool)(h:mb a0=some r):call G Ω0 E0 56 [(.l 74 (a0.map aA))] H0=some (Fo a0 r):=
 aH G56 (xB fun r1=>.nil) fun L=>aw h (lE a0) fun r1 h=>L h
end
section
variable (a0:(List ad))
abbrev nR(a0:(List ad))(r:Bool):aZ×HP:=(.ret (.b r),H0)
abbrev gY(r:Bool):Prop:=call G Ω0 E0 87 [(.l 44 (a0.map av)),(.f 112 [])] H0=some (nR a0 r)
abbrev pw(a0:(List ad))(r:Int):aZ×HP:=(.ret (I r),H0)
abbrev js(r:Int):Prop:=call G Ω0 E0 109 [(.l 44 (a0.map av)),(.f 112 [])] H0=some (pw a0 r)
end
section
variable (a0:ad)
abbrev GQ(a0:ad)(r:Bool):aZ×HP:=(.ret (.b r),H0)
abbrev uK(r:Bool):Prop:=call G Ω0 E0 94 [(.a (aY a0))] H0=some (GQ a0 r)
abbrev DS(a0:ad)(r:Bool):aZ×HP:=(.ret (.b r),H0)
abbrev wD(r:Bool):Prop:=call G Ω0 E0 112 [(.a (aY a0))] H0=some (DS a0 r)
end
structure aX where
 f_slices_ContainsFunc__tree_expr_1:(List ad)→Option Bool
 f_slices_IndexFunc__tree_expr_1:(List ad)→Option Int
 f_tree_expr:ad→Option Bool
 f_tree_expr_1:ad→Option Bool
structure aC(R:aX):Prop where
 f_slices_ContainsFunc__tree_expr_1:∀ (a0:(List ad))(r:Bool),R.f_slices_ContainsFunc__tree_expr_1 a0=some r→gY a0 r
 f_slices_IndexFunc__tree_expr_1:∀ (a0:(List ad))(r:Int),R.f_slices_IndexFunc__tree_expr_1 a0=some r→js a0 r
 f_tree_expr:∀ (a0:ad)(r:Bool),R.f_tree_expr a0=some r→uK a0 r
 f_tree_expr_1:∀ (a0:ad)(r:Bool),R.f_tree_expr_1 a0=some r→wD a0 r
section
variable (R:aX)(a0:(List ad))
def gD:Option Bool:=
 (R.f_slices_IndexFunc__tree_expr_1 a0).bind fun (r1:Int)=>
 some (decide (0≤r1))
theorem lF(hR:aC R)(a0:(List ad))(r:Bool)(h:gD R a0=some r):gY a0 r:=
 aH PS (xI fun r1=>.nil) fun L=>aw h (hR.f_slices_IndexFunc__tree_expr_1 a0) fun r1 h=>L h
def iu(v0_8:Nat):Option (Nat⊕(Nat⊕(Nat×Bool))):=
 if (v0_8:Int)<(a0.length:Int) then
  (a0[v0_8]?).bind fun (y2:ad)=>
  (R.f_tree_expr_1 y2).bind fun (r4:Bool)=>
  if r4=true then
   some (.inr (.inl v0_8))
  else
   if IntKind.i64.wrap ((v0_8:Int)+1)=((v0_8+1:Nat):Int) then
    some (.inl (v0_8+1))
   else none
 else
  some (.inr (.inr (v0_8,decide ((v0_8:Int)<(a0.length:Int)))))
abbrev oh(v:Nat):St:=⟨[(0,(.l 44 (a0.map av))),(1,(.f 112 [])),(7,(I (a0.length:Int))),(8,(I (v:Int)))],[],H0⟩
abbrev oi(x:(Nat⊕(Nat×Bool))):aK×St:=match x with | .inl z1=>(.ret,⟨[(4,(I (z1:Int)))],[],H0⟩) | .inr (z1,z2)=>((.ex 0),⟨[(0,(.l 44 (a0.map av))),(1,(.f 112 [])),(7,(I (a0.length:Int))),(8,(I (z1:Int))),(9,(.b z2))],[],H0⟩)
theorem nS(hR:aC R)(a0:(List ad))(v0_8:Nat)(o:Nat⊕(Nat⊕(Nat×Bool)))(h:iu R a0 v0_8=some o):bH E0 Ak (oh a0) (oi a0) v0_8 o:=
 bV (.or (bt<|ao (.n v0_8)<|.ex fun (y2:ad)=>ao (.v (.a (aY y2)))<|xB fun r4=>oN (ao (.i ((v0_8+1:Nat):Int))<|.nil)) (bf<|.nil)) fun L=>bu h (fun h1 h=>ai (decide_eq_true h1)<|ai (rI v0_8)<|br h fun y2 h3 h=>ai (cX av h3 (b9 _))<|aw h (hR.f_tree_expr_1 y2) fun r4 h=>aJ h (fun h6 h=>ai h6<|L h) (fun h6 h=>ai h6<|aj h fun w7 h=>ai w7<|L h)) (fun h1 h=>ai (decide_eq_false h1)<|L h)
def iX:Option Int:=
 (lp (fun v=>iu R a0 v) 0).bind fun (x1:(Nat⊕(Nat×Bool)))=>match x1 with
 | .inl ya_2=>
  some (ya_2:Int)
 | .inr yb_2=>
  some (-1)
theorem mN(hR:aC R)(a0:(List ad))(r:Int)(h:iX R a0=some r):js a0 r:=
 aH Kq (ao (.i (a0.length:Int))<|.or (.ex fun (ya_2:Nat)=>ao (.lp .ret ⟨[(4,(I (ya_2:Int)))],[],H0⟩)<|.nil) (.ex fun (yb_2:(Nat×Bool))=>ao (.lp (.ex 0) ⟨[(0,(.l 44 (a0.map av))),(1,(.f 112 [])),(7,(I (a0.length:Int))),(8,(I (yb_2.1:Int))),(9,(.b yb_2.2))],[],H0⟩)<|.nil)) fun L=>ai (aO av a0)<|bW h (eH (nS R hR a0) 0) (fun ya_2 h=>L h) (fun yb_2 h=>L h)
def BX:List cL:=(gF 17 4 1)::(gQ 18 17)::(gp 19 (.ln false 18))::(gM 20 3)::(gB 21 .neq 19 20)::(gM 22 21)::⟨some 23,.fa 0 1,some ⟨22,false⟩,false⟩::⟨some 24,.ld none 23,some ⟨22,false⟩,false⟩::⟨some 25,.bo .neq false 24 (kI 1),some ⟨22,false⟩,false⟩::⟨some 26,.mv 25,some ⟨22,false⟩,false⟩::⟨some 27,.fa 2 1,some ⟨26,true⟩,false⟩::⟨some 28,.ld none 27,some ⟨26,true⟩,false⟩::⟨some 29,.bo .neq false 28 (kI 0),some ⟨26,true⟩,false⟩::⟨some 30,.pk 26 29 (.c (.b false)),some ⟨22,false⟩,false⟩::(gp 31 (.pk 22 (.c (.b true)) 30))::(gM 32 31)::⟨some 33,.fa 0 1,some ⟨32,false⟩,false⟩::⟨some 34,.ld none 33,some ⟨32,false⟩,false⟩::⟨some 35,.bo .eql false 34 (kI 2),some ⟨32,false⟩,false⟩::⟨some 36,.fa 3 1,some ⟨32,false⟩,false⟩::⟨some 37,.ld none 36,some ⟨32,false⟩,false⟩::⟨some 38,.bo .neq false 37 (.c (.s [])),some ⟨32,false⟩,false⟩::⟨some 39,.bo .neq true 35 38,some ⟨32,false⟩,false⟩::(gp 40 (.pk 32 (.c (.b true)) 39))::[]
end
section
variable (R:aX)(a0:ad)(a1:Bool)
def qz(R:aX)(a0:ad)(w0_1:Nat):Option Bool:=
 if ((a0.Args.length:Int) !=(w0_1:Int))=true then
  some true
 else
  if (a0.Kind !=1)=true then
   if (a0.N !=0)=true then
    some true
   else
    some (!((a0.Kind==2)==(!(a0.Name==([]:List UInt8)))))
  else
   some (!((a0.Kind==2)==(!(a0.Name==([]:List UInt8)))))
abbrev BY(w0_1:Nat)(x:Bool):St:=⟨[(1,(.p ⟨0,1⟩ 0)),(40,(.b x))],[(1,(aY a0))],H0⟩
theorem Ay(hR:aC R)(a0:ad)(w0_1:Nat)(x:Bool)(h:qz R a0 w0_1=some x):eB G Ω0 E0 [1,40] [1] BX ⟨[(1,(.p ⟨0,1⟩ 0)),(3,(I (w0_1:Int)))],[(1,(aY a0))],H0⟩=some (BY a0 w0_1 x):=
 dv (bt<|ao (.i (a0.Args.length:Int))<|.or (bf<|bf<|bf<|bf<|bf<|bt<|bf<|bf<|bf<|bf<|bf<|bf<|bf<|bt<|.nil) (pJ<|.or (KD<|.or (bf<|bf<|bf<|bf<|bf<|bf<|bf<|bt<|.nil) (bt<|bt<|bt<|bt<|bt<|bt<|bt<|bt<|bt<|bf<|.nil)) (bf<|bf<|bf<|bt<|bf<|bf<|bt<|bt<|bt<|bt<|bt<|bt<|bt<|bt<|bt<|bf<|.nil))) fun L=>ai (rfl:Z0)<|ai (aO av a0.Args)<|aJ h (fun h4 h=>ai (g0 h4)<|ai (g0 h4)<|ai (g0 h4)<|ai (g0 h4)<|ai (g0 h4)<|ai h4<|ai ht<|ai ht<|ai ht<|ai ht<|ai ht<|ai ht<|ai ht<|ai tt<|L h) (fun h4 h=>E5 h4<|aJ h (fun h5 h=>fH h5<|ai (g0 h4)<|ai h5<|ai h4<|aJ h (fun h6 h=>ai (g0 h6)<|ai (g0 h6)<|ai (g0 h6)<|ai (g0 h6)<|ai (g0 h6)<|ai (g0 h6)<|ai (g0 h6)<|ai h6<|L h) (fun h6 h=>ai (g0 h6)<|ai (g0 h6)<|ai (rfl:Z0)<|ai (g0 h6)<|ai (g0 h6)<|ai (g0 h6)<|ai (rfl:Z0)<|ai (g0 h6)<|ai (g0 h6)<|ai h6<|L h)) (fun h5 h=>vL h5<|ai (g0 h4)<|ai h5<|ai h4<|ai hf<|ai hf<|ai (rfl:Z0)<|ai hf<|ai hf<|ai hf<|ai (rfl:Z0)<|ai hf<|ai hf<|ai ff<|L h))
def BZ:List cL:=(gF 41 0 1)::(gQ 42 41)::(gB 43 .eql 42 (kI 2))::(gM 44 43)::⟨some 45,.fa 3 1,some ⟨44,true⟩,false⟩::⟨some 46,.ld none 45,some ⟨44,true⟩,false⟩::⟨some 47,.ca 0 54 [46],some ⟨44,true⟩,false⟩::⟨some 48,.no 47,some ⟨44,true⟩,false⟩::(gp 49 (.pk 44 48 (.c (.b false))))::(gM 50 49)::⟨some 51,.fa 2 1,some ⟨50,false⟩,false⟩::⟨some 52,.ld none 51,some ⟨50,false⟩,false⟩::⟨some 53,.bo .lss false 52 (kI (-9999999)),some ⟨50,false⟩,false⟩::(gp 54 (.pk 50 (.c (.b true)) 53))::(gM 55 54)::⟨some 56,.fa 2 1,some ⟨55,false⟩,false⟩::⟨some 57,.ld none 56,some ⟨55,false⟩,false⟩::⟨some 58,.bo .gtr false 57 (kI 9999999),some ⟨55,false⟩,false⟩::(gp 59 (.pk 55 (.c (.b true)) 58))::[]
def qA(R:aX)(a0:ad):Option Bool:=
 if (a0.Kind==2)=true then
  (fS a0.Name).bind fun (r8:Bool)=>
  if r8=true then
   if a0.N < -9999999 then
    some true
   else
    some (decide (9999999<a0.N))
  else
   some true
 else
  if a0.N < -9999999 then
   some true
  else
   some (decide (9999999<a0.N))
abbrev B0(x:Bool):St:=⟨[(1,(.p ⟨0,1⟩ 0)),(59,(.b x))],[(1,(aY a0))],H0⟩
theorem Az(hR:aC R)(a0:ad)(x:Bool)(h:qA R a0=some x):eB G Ω0 E0 [1,59] [1] BZ ⟨[(1,(.p ⟨0,1⟩ 0))],[(1,(aY a0))],H0⟩=some (B0 a0 x):=
 dv (bt<|.or (dD<|xB fun r8=>cu<|.or (yS<|.or (Ic<|.nil) (yS<|.nil)) (bf<|bf<|bf<|bt<|bf<|bf<|bf<|bt<|.nil)) (bf<|bf<|bf<|bf<|bf<|bt<|bt<|bt<|bt<|bf<|.or (Ic<|.nil) (yS<|.nil))) fun L=>ai (rfl:Z0)<|aJ h (fun h7 h=>fH h7<|aw h (iF a0.Name) fun r8 h=>jv h7<|aJ h (fun h10 h=>BG (congrArg not h10)<|bu h (fun h11 h=>Mq (decide_eq_true h11)<|L h) (fun h11 h=>BG (decide_eq_false h11)<|L h)) (fun h10 h=>ai (g0 (congrArg not h10))<|ai (g0 (congrArg not h10))<|ai (g0 (congrArg not h10))<|ai (congrArg not h10)<|ai ht<|ai ht<|ai ht<|ai tt<|L h)) (fun h7 h=>ai (g1 h7)<|ai (g1 h7)<|ai (g1 h7)<|ai (g1 h7)<|ai h7<|ai hf<|ai hf<|ai (rfl:Z0)<|ai hf<|ai ff<|bu h (fun h8 h=>Mq (decide_eq_true h8)<|L h) (fun h8 h=>BG (decide_eq_false h8)<|L h))
def mO(w0_1:Nat):Option Bool:=
 (qz R a0 w0_1).bind fun (x4:Bool)=>
 if x4=true then
  some false
 else
  (qA R a0).bind fun (x7:Bool)=>
  if x7=true then
   some false
  else
   (R.f_slices_ContainsFunc__tree_expr_1 a0.Args).bind fun (r10:Bool)=>
   some (!r10)
abbrev B3(a0:ad)(w0_1:Nat)(x:Bool):aK×St:=(.ret,⟨[(2,(.b x))],[],H0⟩)
theorem tS(hR:aC R)(a0:ad)(w0_1:Nat)(x:Bool)(h:mO R a0 w0_1=some x):run G Ω0 E0 Mk ⟨[(1,(.p ⟨0,1⟩ 0)),(3,(I (w0_1:Int)))],[(1,(aY a0))],H0⟩=some (B3 a0 w0_1 x):=
 fP (.jb (some 17) 23<|.ex fun (x4:Bool)=>ao (.jn ⟨[(1,(.p ⟨0,1⟩ 0)),(40,(.b x4))],[(1,(aY a0))],H0⟩)<|oN (.jb (some 41) 18<|.ex fun (x7:Bool)=>ao (.jn ⟨[(1,(.p ⟨0,1⟩ 0)),(59,(.b x7))],[(1,(aY a0))],H0⟩)<|oN (bt<|xB fun r10=>.nil))) fun L=>aw h (Ay R hR a0 w0_1) fun x4 h=>aJ h (fun h6 h=>ai h6<|L h) (fun h6 h=>ai h6<|aw h (Az R hR a0) fun x7 h=>aJ h (fun h9 h=>ai h9<|L h) (fun h9 h=>fO h9<|aw h (hR.f_slices_ContainsFunc__tree_expr_1 a0.Args) fun r10 h=>L h))
def pQ:Option Bool:=
 if a0.Kind<1 then
  some false
 else
  if 7<a0.Kind then
   some false
  else
   if 2<a0.Kind then
    (mO R a0 2).bind fun (x4:Bool)=>
    some x4
   else
    (mO R a0 0).bind fun (x4:Bool)=>
    some x4
theorem AA(hR:aC R)(a0:ad)(r:Bool)(h:pQ R a0=some r):uK a0 r:=
 aH G94 (bt<|.or (bf<|bf<|bf<|bt<|bt<|.nil) (yS<|oN (bt<|.or (bt<|.fb<|.ex fun (x4:Bool)=>ao (.fr .ret ⟨[(2,(.b x4))],[],H0⟩)<|.nil) (bf<|.fb<|.ex fun (x4:Bool)=>ao (.fr .ret ⟨[(2,(.b x4))],[],H0⟩)<|.nil)))) fun L=>od<|bu h (fun h1 h=>ai (g0 (decide_eq_true h1))<|ai (g0 (decide_eq_true h1))<|ai (g0 (decide_eq_true h1))<|ai (decide_eq_true h1)<|ai tt<|L h) (fun h1 h=>BG (decide_eq_false h1)<|bu h (fun h2 h=>ai (decide_eq_true h2)<|L h) (fun h2 h=>fO (decide_eq_false h2)<|bu h (fun h3 h=>ai (decide_eq_true h3)<|aw h (tS R hR a0 2) fun x4 h=>L h) (fun h3 h=>ai (decide_eq_false h3)<|aw h (tS R hR a0 0) fun x4 h=>L h)))
def mP:Option Bool:=
 (R.f_tree_expr a0).bind fun (r1:Bool)=>
 some (!r1)
theorem yF(hR:aC R)(a0:ad)(r:Bool)(h:mP R a0=some r):wD a0 r:=
 aH Zs (bt<|xB fun r1=>.nil) fun L=>od<|aw h (hR.f_tree_expr a0) fun r1 h=>L h
def ax:Nat→aX
 | 0=>⟨fun z0=>none,fun z0=>none,fun z0=>none,fun z0=>none⟩
 | n+1=>⟨gD (ax n),iX (ax n),pQ (ax n),mP (ax n)⟩
theorem bb:∀ n,aC (ax n)
 | 0=>⟨fun _ r h=>(by cases h),fun _ r h=>(by cases h),fun _ r h=>(by cases h),fun _ r h=>(by cases h)⟩
 | n+1=>⟨fun a0 r h=>lF _ (bb n) a0 r h,fun a0 r h=>mN _ (bb n) a0 r h,fun a0 r h=>AA _ (bb n) a0 r h,fun a0 r h=>yF _ (bb n) a0 r h⟩
def qU:Option Bool:=ev fun n=>(ax n).f_tree_expr a0
theorem vd(r:Bool)(h:qU a0=some r):uK a0 r:=by
 obtain ⟨n,hn⟩:=iD h
 exact (bb n).f_tree_expr a0 r hn
def ve:List cL:=(gA 2 21)::[]
def iG(a0:ad)(u2_1:Bool):Option Bool:=
 some u2_1
abbrev B4(a0:ad)(u2_1:Bool)(x:Bool):St:=⟨[(2,(.b x))],[],H0⟩
theorem lM(u2_1:Bool)(w:List AV)(x:Bool)(h:iG a0 u2_1=some x):eB G Ω0 E0 [2] [] ve ⟨[(21,(.b u2_1)),(20,(W w 0)),(19,(W w 1)),(18,(W w 2)),(17,(W w 3)),(16,(W w 4)),(15,(W w 5)),(14,(W w 6)),(13,(W w 7)),(12,(W w 8)),(11,(W w 9)),(10,(W w 10)),(9,(W w 11)),(8,(W w 12)),(7,(W w 13)),(6,(.b (a0.Kind==0))),(5,(.b (a0.Kind==0))),(4,(I a0.Kind)),(3,(.p ⟨0,1⟩ 0)),(1,(.p ⟨0,1⟩ 0))],[(1,(aY a0))],H0⟩=some (B4 a0 u2_1 x):=
 dv (.nil) fun L=>L h
def B5:List cL:=(gF 3 0 1)::(gQ 4 3)::(gB 5 .eql 4 (kI 0))::(gM 6 5)::⟨some 7,.fa 2 1,some ⟨6,true⟩,false⟩::⟨some 8,.ld none 7,some ⟨6,true⟩,false⟩::⟨some 9,.bo .eql false 8 (kI 0),some ⟨6,true⟩,false⟩::(gp 10 (.pk 6 9 (.c (.b false))))::(gM 11 10)::⟨some 12,.fa 3 1,some ⟨11,true⟩,false⟩::⟨some 13,.ld none 12,some ⟨11,true⟩,false⟩::⟨some 14,.bo .eql false 13 (.c (.s [])),some ⟨11,true⟩,false⟩::(gp 15 (.pk 11 14 (.c (.b false))))::(gM 16 15)::⟨some 17,.fa 4 1,some ⟨16,true⟩,false⟩::⟨some 18,.ld none 17,some ⟨16,true⟩,false⟩::⟨some 19,.ln false 18,some ⟨16,true⟩,false⟩::⟨some 20,.bo .eql false 19 (kI 0),some ⟨16,true⟩,false⟩::(gp 21 (.pk 16 20 (.c (.b false))))::ve
def qB:Option Bool:=
 if (a0.Kind==0)=true then
  if (a0.N==0)=true then
   if (a0.Name==([]:List UInt8))=true then
    (iG a0 ((a0.Args.length:Int)==0)).bind fun (x4:Bool)=>
    some x4
   else
    (iG a0 false).bind fun (x4:Bool)=>
    some x4
  else
   (iG a0 false).bind fun (x3:Bool)=>
   some x3
 else
  (iG a0 false).bind fun (x2:Bool)=>
  some x2
abbrev B6(a0:ad)(x:Bool):St:=⟨[(2,(.b x))],[],H0⟩
theorem AB(x:Bool)(h:qB a0=some x):eB G Ω0 E0 [2] [] B5 ⟨[(1,(.p ⟨0,1⟩ 0))],[(1,(aY a0))],H0⟩=some (B6 a0 x):=
 dv (bt<|.or (pJ<|.or (pJ<|.or (dD<|ao (.i (a0.Args.length:Int))<|cu<|.jb (some 2) 0<|.ex fun (x4:Bool)=>ao (.jn ⟨[(2,(.b x4))],[],H0⟩)<|.nil) (Ig<|.jb (some 2) 0<|.ex fun (x4:Bool)=>ao (.jn ⟨[(2,(.b x4))],[],H0⟩)<|.nil)) (Fc<|.jb (some 2) 0<|.ex fun (x3:Bool)=>ao (.jn ⟨[(2,(.b x3))],[],H0⟩)<|.nil)) (Fa<|.jb (some 2) 0<|.ex fun (x2:Bool)=>ao (.jn ⟨[(2,(.b x2))],[],H0⟩)<|.nil)) fun L=>ai (rfl:Z0)<|aJ h (fun h1 h=>BH h1<|aJ h (fun h2 h=>BH h2<|aJ h (fun h3 h=>fH h3<|ai (aO av a0.Args)<|jv h3<|aw h (lM a0 ((a0.Args.length:Int)==0) [(.b ((a0.Args.length:Int)==0)),(I (a0.Args.length:Int)),(.l 44 (a0.Args.map av)),(.p ⟨0,1⟩ 4),(.b (a0.Name==([]:List UInt8))),(.b (a0.Name==([]:List UInt8))),(.b (a0.Name==([]:List UInt8))),(.s a0.Name),(.p ⟨0,1⟩ 3),(.b (a0.N==0)),(.b (a0.N==0)),(.b (a0.N==0)),(I a0.N),(.p ⟨0,1⟩ 2)]) fun x4 h=>L h) (fun h3 h=>E3 h3<|aw h (lM a0 false [.sk,.sk,.sk,.sk,(.b (a0.Name==([]:List UInt8))),(.b (a0.Name==([]:List UInt8))),(.b (a0.Name==([]:List UInt8))),(.s a0.Name),(.p ⟨0,1⟩ 3),(.b (a0.N==0)),(.b (a0.N==0)),(.b (a0.N==0)),(I a0.N),(.p ⟨0,1⟩ 2)]) fun x4 h=>L h)) (fun h2 h=>ai (g1 h2)<|ai (g1 h2)<|ai (g1 h2)<|ai h2<|ai gf<|ai gf<|ai gf<|ai gf<|ai ff<|aw h (lM a0 false [.sk,.sk,.sk,.sk,(.b false),(.b false),.sk,.sk,.sk,(.b (a0.N==0)),(.b (a0.N==0)),(.b (a0.N==0)),(I a0.N),(.p ⟨0,1⟩ 2)]) fun x3 h=>L h)) (fun h1 h=>ai (g1 h1)<|ai (g1 h1)<|ai (g1 h1)<|ai h1<|ai gf<|ai gf<|ai gf<|ai ff<|ai gf<|ai gf<|ai gf<|ai gf<|ai ff<|aw h (lM a0 false [.sk,.sk,.sk,.sk,(.b false),(.b false),.sk,.sk,.sk,(.b false),(.b false),.sk,.sk,.sk]) fun x2 h=>L h)
abbrev GR(a0:ad)(r:Bool):aZ×HP:=(.ret (.b r),H0)
def qV:Option Bool:=
 (qB a0).bind fun (x1:Bool)=>
 some x1
theorem B7(r:Bool)(h:qV a0=some r):call G Ω0 E0 95 [(.a (aY a0))] H0=some (GR a0 r):=
 aH G95 (.jb (some 3) 19<|.ex fun (x1:Bool)=>ao (.jn ⟨[(2,(.b x1))],[],H0⟩)<|.nil) fun L=>ai tt<|aw h (AB a0) fun x1 h=>L h
abbrev Ik(a0:ad)(a1:Bool)(r:Bool):aZ×HP:=(.ret (.b r),H0)
def kR:Option Bool:=
 if a1=true then
  (qU a0).bind fun (r2:Bool)=>
  if r2=true then
   some true
  else
   some false
 else
  (qV a0).bind fun (r2:Bool)=>
  some r2
theorem oA(r:Bool)(h:kR a0 a1=some r):call G Ω0 E0 57 [(.a (aY a0)),(.b a1)] H0=some (Ik a0 a1 r):=
 aH G57 (.or (eI<|xB fun r2=>bt<|.or (Fb<|.nil) (bt<|bt<|bt<|bf<|bf<|bt<|bf<|bf<|.nil)) (Qe<|xB fun r2=>yR<|.nil)) fun L=>ai tt<|aJ h (fun h1 h=>ai (g1 h1)<|ai (rfl:Z0)<|ai (g1 h1)<|aw h (vd a0) fun r2 h=>ai h1<|aJ h (fun h4 h=>E4 h4<|L h) (fun h4 h=>E1 h4<|ie (congrArg not h1)<|ai (g0 h4)<|ai (congrArg not h1)<|ai h4<|L h)) (fun h1 h=>ai (g1 h1)<|ai (g1 h1)<|ai h1<|ai hf<|ai hf<|ai hf<|ai (g1 (congrArg not h1))<|ai (rfl:Z0)<|ai (g1 (congrArg not h1))<|aw h (B7 a0) fun r2 h=>ai hf<|ai (congrArg not h1)<|ai ff<|L h)
end
section
variable (a0:(List UInt8))
abbrev DT(a0:(List UInt8))(r:Bool):aZ×HP:=(.ret (.b r),H0)
def oB:Option Bool:=
 (fS a0).bind fun (r1:Bool)=>
 some (!r1)
theorem zn(r:Bool)(h:oB a0=some r):call G Ω0 E0 59 [(.s a0)] H0=some (DT a0 r):=
 aH G59 (xB fun r1=>.nil) fun L=>aw h (iF a0) fun r1 h=>L h
end
section
variable (a0:(List (List UInt8)))
def iv(v0_8:Nat):Option (Nat⊕(Nat⊕(Nat×Bool))):=
 if (v0_8:Int)<(a0.length:Int) then
  (a0[v0_8]?).bind fun (y2:(List UInt8))=>
  (oB y2).bind fun (r4:Bool)=>
  if r4=true then
   some (.inr (.inl v0_8))
  else
   if IntKind.i64.wrap ((v0_8:Int)+1)=((v0_8+1:Nat):Int) then
    some (.inl (v0_8+1))
   else none
 else
  some (.inr (.inr (v0_8,decide ((v0_8:Int)<(a0.length:Int)))))
abbrev oj(v:Nat):St:=⟨[(0,(.l 9 (a0.map AV.s))),(1,(.f 59 [])),(7,(I (a0.length:Int))),(8,(I (v:Int)))],[],H0⟩
abbrev om(x:(Nat⊕(Nat×Bool))):aK×St:=match x with | .inl z1=>(.ret,⟨[(4,(I (z1:Int)))],[],H0⟩) | .inr (z1,z2)=>((.ex 0),⟨[(0,(.l 9 (a0.map AV.s))),(1,(.f 59 [])),(7,(I (a0.length:Int))),(8,(I (z1:Int))),(9,(.b z2))],[],H0⟩)
theorem nT(v0_8:Nat)(o:Nat⊕(Nat⊕(Nat×Bool)))(h:iv a0 v0_8=some o):bH E0 HZ (oj a0) (om a0) v0_8 o:=
 bV (.or (bt<|ao (.n v0_8)<|.ex fun (y2:(List UInt8))=>ao (.v (.s y2))<|xB fun r4=>oN (ao (.i ((v0_8+1:Nat):Int))<|.nil)) (bf<|.nil)) fun L=>bu h (fun h1 h=>ai (decide_eq_true h1)<|ai (rI v0_8)<|br h fun y2 h3 h=>ai (cj AV.s h3)<|aw h (zn y2) fun r4 h=>aJ h (fun h6 h=>ai h6<|L h) (fun h6 h=>ai h6<|aj h fun w7 h=>ai w7<|L h)) (fun h1 h=>ai (decide_eq_false h1)<|L h)
abbrev px(a0:(List (List UInt8)))(r:Int):aZ×HP:=(.ret (I r),H0)
def jt:Option Int:=
 (lp (fun v=>iv a0 v) 0).bind fun (x1:(Nat⊕(Nat×Bool)))=>match x1 with
 | .inl ya_2=>
  some (ya_2:Int)
 | .inr yb_2=>
  some (-1)
theorem nU(r:Int)(h:jt a0=some r):call G Ω0 E0 96 [(.l 9 (a0.map AV.s)),(.f 59 [])] H0=some (px a0 r):=
 aH YR (ao (.i (a0.length:Int))<|.or (.ex fun (ya_2:Nat)=>ao (.lp .ret ⟨[(4,(I (ya_2:Int)))],[],H0⟩)<|.nil) (.ex fun (yb_2:(Nat×Bool))=>ao (.lp (.ex 0) ⟨[(0,(.l 9 (a0.map AV.s))),(1,(.f 59 [])),(7,(I (a0.length:Int))),(8,(I (yb_2.1:Int))),(9,(.b yb_2.2))],[],H0⟩)<|.nil)) fun L=>ai (aO AV.s a0)<|bW h (eH (nT a0) 0) (fun ya_2 h=>L h) (fun yb_2 h=>L h)
abbrev nV(a0:(List (List UInt8)))(r:Bool):aZ×HP:=(.ret (.b r),H0)
def eo:Option Bool:=
 (jt a0).bind fun (r1:Int)=>
 some (decide (0≤r1))
theorem lZ(r:Bool)(h:eo a0=some r):call G Ω0 E0 58 [(.l 9 (a0.map AV.s)),(.f 59 [])] H0=some (nV a0 r):=
 aH YP (xI fun r1=>.nil) fun L=>aw h (nU a0) fun r1 h=>L h
end
section
variable (a0:ad)
abbrev DU(a0:ad)(r:Bool):aZ×HP:=(.ret (.b r),H0)
def oC:Option Bool:=
 (qU a0).bind fun (r1:Bool)=>
 some (!r1)
theorem zo(r:Bool)(h:oC a0=some r):call G Ω0 E0 98 [(.a (aY a0))] H0=some (DU a0 r):=
 aH G98 (bt<|xB fun r1=>.nil) fun L=>od<|aw h (vd a0) fun r1 h=>L h
end
section
variable (a0:(List ad))
def iw(v0_8:Nat):Option (Nat⊕(Nat⊕(Nat×Bool))):=
 if (v0_8:Int)<(a0.length:Int) then
  (a0[v0_8]?).bind fun (y2:ad)=>
  (oC y2).bind fun (r4:Bool)=>
  if r4=true then
   some (.inr (.inl v0_8))
  else
   if IntKind.i64.wrap ((v0_8:Int)+1)=((v0_8+1:Nat):Int) then
    some (.inl (v0_8+1))
   else none
 else
  some (.inr (.inr (v0_8,decide ((v0_8:Int)<(a0.length:Int)))))
abbrev oo(v:Nat):St:=⟨[(0,(.l 44 (a0.map av))),(1,(.f 98 [])),(7,(I (a0.length:Int))),(8,(I (v:Int)))],[],H0⟩
abbrev oq(x:(Nat⊕(Nat×Bool))):aK×St:=match x with | .inl z1=>(.ret,⟨[(4,(I (z1:Int)))],[],H0⟩) | .inr (z1,z2)=>((.ex 0),⟨[(0,(.l 44 (a0.map av))),(1,(.f 98 [])),(7,(I (a0.length:Int))),(8,(I (z1:Int))),(9,(.b z2))],[],H0⟩)
theorem nW(v0_8:Nat)(o:Nat⊕(Nat⊕(Nat×Bool)))(h:iw a0 v0_8=some o):bH E0 Ak (oo a0) (oq a0) v0_8 o:=
 bV (.or (bt<|ao (.n v0_8)<|.ex fun (y2:ad)=>ao (.v (.a (aY y2)))<|xB fun r4=>oN (ao (.i ((v0_8+1:Nat):Int))<|.nil)) (bf<|.nil)) fun L=>bu h (fun h1 h=>ai (decide_eq_true h1)<|ai (rI v0_8)<|br h fun y2 h3 h=>ai (cX av h3 (b9 _))<|aw h (zo y2) fun r4 h=>aJ h (fun h6 h=>ai h6<|L h) (fun h6 h=>ai h6<|aj h fun w7 h=>ai w7<|L h)) (fun h1 h=>ai (decide_eq_false h1)<|L h)
abbrev py(a0:(List ad))(r:Int):aZ×HP:=(.ret (I r),H0)
def ju:Option Int:=
 (lp (fun v=>iw a0 v) 0).bind fun (x1:(Nat⊕(Nat×Bool)))=>match x1 with
 | .inl ya_2=>
  some (ya_2:Int)
 | .inr yb_2=>
  some (-1)
theorem nX(r:Int)(h:ju a0=some r):call G Ω0 E0 109 [(.l 44 (a0.map av)),(.f 98 [])] H0=some (py a0 r):=
 aH Kq (ao (.i (a0.length:Int))<|.or (.ex fun (ya_2:Nat)=>ao (.lp .ret ⟨[(4,(I (ya_2:Int)))],[],H0⟩)<|.nil) (.ex fun (yb_2:(Nat×Bool))=>ao (.lp (.ex 0) ⟨[(0,(.l 44 (a0.map av))),(1,(.f 98 [])),(7,(I (a0.length:Int))),(8,(I (yb_2.1:Int))),(9,(.b yb_2.2))],[],H0⟩)<|.nil)) fun L=>ai (aO av a0)<|bW h (eH (nW a0) 0) (fun ya_2 h=>L h) (fun yb_2 h=>L h)
abbrev nY(a0:(List ad))(r:Bool):aZ×HP:=(.ret (.b r),H0)
def ep:Option Bool:=
 (ju a0).bind fun (r1:Int)=>
 some (decide (0≤r1))
theorem l7(r:Bool)(h:ep a0=some r):call G Ω0 E0 87 [(.l 44 (a0.map av)),(.f 98 [])] H0=some (nY a0 r):=
 aH PS (xI fun r1=>.nil) fun L=>aw h (nX a0) fun r1 h=>L h
end
section
variable (a0:(List aa))
abbrev mQ(a0:(List aa))(r:Bool):aZ×HP:=(.ret (.b r),H0)
abbrev gE(r:Bool):Prop:=call G Ω0 E0 60 [(.l 68 (a0.map ab)),(.f 61 [])] H0=some (mQ a0 r)
abbrev oU(a0:(List aa))(r:Int):aZ×HP:=(.ret (I r),H0)
abbrev iY(r:Int):Prop:=call G Ω0 E0 97 [(.l 68 (a0.map ab)),(.f 61 [])] H0=some (oU a0 r)
end
section
variable (a0:aa)
abbrev GS(a0:aa)(r:Bool):aZ×HP:=(.ret (.b r),H0)
abbrev yU(r:Bool):Prop:=call G Ω0 E0 62 [(.a (ag a0))] H0=some (GS a0 r)
end
section
variable (a0:(List aa))
abbrev Fp(a0:(List aa))(r:Bool):aZ×HP:=(.ret (.b r),H0)
abbrev sU(r:Bool):Prop:=call G Ω0 E0 26 [(.l 68 (a0.map ab))] H0=some (Fp a0 r)
end
section
variable (a0:aa)
abbrev B8(a0:aa)(r:Bool):aZ×HP:=(.ret (.b r),H0)
abbrev vf(r:Bool):Prop:=call G Ω0 E0 61 [(.a (ag a0))] H0=some (B8 a0 r)
end
structure aF where
 f_slices_ContainsFunc__tree_stmts_1:(List aa)→Option Bool
 f_slices_IndexFunc__tree_stmts_1:(List aa)→Option Int
 f_tree_stmt:aa→Option Bool
 f_tree_stmts:(List aa)→Option Bool
 f_tree_stmts_1:aa→Option Bool
structure ay(R:aF):Prop where
 f_slices_ContainsFunc__tree_stmts_1:∀ (a0:(List aa))(r:Bool),R.f_slices_ContainsFunc__tree_stmts_1 a0=some r→gE a0 r
 f_slices_IndexFunc__tree_stmts_1:∀ (a0:(List aa))(r:Int),R.f_slices_IndexFunc__tree_stmts_1 a0=some r→iY a0 r
 f_tree_stmt:∀ (a0:aa)(r:Bool),R.f_tree_stmt a0=some r→yU a0 r
 f_tree_stmts:∀ (a0:(List aa))(r:Bool),R.f_tree_stmts a0=some r→sU a0 r
 f_tree_stmts_1:∀ (a0:aa)(r:Bool),R.f_tree_stmts_1 a0=some r→vf a0 r
section
variable (R:aF)(a0:(List aa))
def gh:Option Bool:=
 (R.f_slices_IndexFunc__tree_stmts_1 a0).bind fun (r1:Int)=>
 some (decide (0≤r1))
theorem lf(hR:ay R)(a0:(List aa))(r:Bool)(h:gh R a0=some r):gE a0 r:=
 aH G60 (xI fun r1=>.nil) fun L=>aw h (hR.f_slices_IndexFunc__tree_stmts_1 a0) fun r1 h=>L h
def gZ(v0_8:Nat):Option (Nat⊕(Nat⊕(Nat×Bool))):=
 if (v0_8:Int)<(a0.length:Int) then
  (a0[v0_8]?).bind fun (y2:aa)=>
  (R.f_tree_stmts_1 y2).bind fun (r4:Bool)=>
  if r4=true then
   some (.inr (.inl v0_8))
  else
   if IntKind.i64.wrap ((v0_8:Int)+1)=((v0_8+1:Nat):Int) then
    some (.inl (v0_8+1))
   else none
 else
  some (.inr (.inr (v0_8,decide ((v0_8:Int)<(a0.length:Int)))))
abbrev nZ(v:Nat):St:=⟨[(0,(.l 68 (a0.map ab))),(1,(.f 61 [])),(7,(I (a0.length:Int))),(8,(I (v:Int)))],[],H0⟩
abbrev n3(x:(Nat⊕(Nat×Bool))):aK×St:=match x with | .inl z1=>(.ret,⟨[(4,(I (z1:Int)))],[],H0⟩) | .inr (z1,z2)=>((.ex 0),⟨[(0,(.l 68 (a0.map ab))),(1,(.f 61 [])),(7,(I (a0.length:Int))),(8,(I (z1:Int))),(9,(.b z2))],[],H0⟩)
theorem mR(hR:ay R)(a0:(List aa))(v0_8:Nat)(o:Nat⊕(Nat⊕(Nat×Bool)))(h:gZ R a0 v0_8=some o):bH E0 Ml (nZ a0) (n3 a0) v0_8 o:=
 bV (.or (bt<|ao (.n v0_8)<|.ex fun (y2:aa)=>ao (.v (.a (ag y2)))<|xB fun r4=>oN (ao (.i ((v0_8+1:Nat):Int))<|.nil)) (bf<|.nil)) fun L=>bu h (fun h1 h=>ai (decide_eq_true h1)<|ai (rI v0_8)<|br h fun y2 h3 h=>ai (cX ab h3 (dR _))<|aw h (hR.f_tree_stmts_1 y2) fun r4 h=>aJ h (fun h6 h=>ai h6<|L h) (fun h6 h=>ai h6<|aj h fun w7 h=>ai w7<|L h)) (fun h1 h=>ai (decide_eq_false h1)<|L h)
def iy:Option Int:=
 (lp (fun v=>gZ R a0 v) 0).bind fun (x1:(Nat⊕(Nat×Bool)))=>match x1 with
 | .inl ya_2=>
  some (ya_2:Int)
 | .inr yb_2=>
  some (-1)
theorem mc(hR:ay R)(a0:(List aa))(r:Int)(h:iy R a0=some r):iY a0 r:=
 aH G97 (ao (.i (a0.length:Int))<|.or (.ex fun (ya_2:Nat)=>ao (.lp .ret ⟨[(4,(I (ya_2:Int)))],[],H0⟩)<|.nil) (.ex fun (yb_2:(Nat×Bool))=>ao (.lp (.ex 0) ⟨[(0,(.l 68 (a0.map ab))),(1,(.f 61 [])),(7,(I (a0.length:Int))),(8,(I (yb_2.1:Int))),(9,(.b yb_2.2))],[],H0⟩)<|.nil)) fun L=>ai (aO ab a0)<|bW h (eH (mR R hR a0) 0) (fun ya_2 h=>L h) (fun yb_2 h=>L h)
def vg:List cL:=(gM 37 36)::⟨some 38,.fa 4 1,some ⟨37,false⟩,false⟩::⟨some 39,.ld (some 5) 38,some ⟨37,false⟩,false⟩::⟨some 40,.mv 3,some ⟨37,false⟩,false⟩::⟨some 41,.bo .neq false 40 (kI 2),some ⟨37,false⟩,false⟩::⟨some 42,.mv 41,some ⟨37,false⟩,false⟩::⟨some 43,.mv 3,some ⟨42,true⟩,false⟩::⟨some 44,.bo .neq false 43 (kI 3),some ⟨42,true⟩,false⟩::⟨some 45,.pk 42 44 (.c (.b false)),some ⟨37,false⟩,false⟩::⟨some 46,.ca 0 57 [39,45],some ⟨37,false⟩,false⟩::⟨some 47,.no 46,some ⟨37,false⟩,false⟩::(gp 48 (.pk 37 (.c (.b true)) 47))::[]
end
section
variable (R:aF)(a0:aa)
def eM(R:aF)(a0:aa)(r4:Bool)(u2_1:Bool):Option Bool:=
 if u2_1=true then
  some true
 else
  if (a0.Kind !=2)=true then
   (kR a0.Expr (a0.Kind !=3)).bind fun (r12:Bool)=>
   some (!r12)
  else
   (kR a0.Expr false).bind fun (r12:Bool)=>
   some (!r12)
abbrev B9(r4:Bool)(u2_1:Bool)(x:Bool):St:=⟨[(1,(.p ⟨0,1⟩ 0)),(3,(I a0.Kind)),(4,(.b (decide (7≤a0.Kind)))),(48,(.b x))],[(1,(ag a0))],H0⟩
theorem gG(hR:ay R)(a0:aa)(r4:Bool)(u2_1:Bool)(w:List AV)(x:Bool)(h:eM R a0 r4 u2_1=some x):eB G Ω0 E0 [1,3,4,48] [1] vg ⟨[(36,(.b u2_1)),(35,(W w 0)),(34,(W w 1)),(33,(W w 2)),(32,(W w 3)),(31,(W w 4)),(30,(W w 5)),(29,(W w 6)),(28,(W w 7)),(27,(W w 8)),(26,(W w 9)),(25,(.b (!r4))),(24,(.b (!r4))),(23,(.b r4)),(22,(W w 10)),(21,(W w 11)),(20,(W w 12)),(19,(.b (a0.Kind !=4))),(18,(.b (a0.Kind !=4))),(17,(I a0.Kind)),(16,(.s a0.Name)),(15,(.p ⟨0,1⟩ 2)),(1,(.p ⟨0,1⟩ 0)),(3,(I a0.Kind)),(4,(.b (decide (7≤a0.Kind))))],[(1,(ag a0))],H0⟩=some (B9 a0 r4 u2_1 x):=
 dv (.or (KE<|.nil) (E7<|.or (pJ<|xB fun r12=>jG<|.nil) (KF<|xB fun r12=>jG<|.nil))) fun L=>aJ h (fun h10 h=>KA h10<|L h) (fun h10 h=>ai (g0 h10)<|ai (g0 h10)<|ai (rfl:Z0)<|ai (g0 h10)<|ai (g0 h10)<|ai (g0 h10)<|aJ h (fun h11 h=>ie h11<|ai (g0 h10)<|ai h11<|ai (g0 h10)<|aw h (oA a0.Expr (a0.Kind !=3)) fun r12 h=>o9 h10<|L h) (fun h11 h=>ie h11<|ai (g0 h10)<|ai h11<|ai (g0 h10)<|aw h (oA a0.Expr false) fun r12 h=>o9 h10<|L h))
def Ca:List cL:=(gF 15 2 1)::(gQ 16 15)::(gM 17 3)::(gB 18 .neq 17 (kI 4))::(gM 19 18)::⟨some 20,.mv 4,some ⟨19,true⟩,false⟩::⟨some 21,.no 20,some ⟨19,true⟩,false⟩::(gp 22 (.pk 19 21 (.c (.b false))))::(gp 23 (.ca 0 55 [16,22]))::(gp 24 (.no 23))::(gM 25 24)::⟨some 26,.fa 3 1,some ⟨25,false⟩,false⟩::⟨some 27,.ld none 26,some ⟨25,false⟩,false⟩::⟨some 28,.mv 3,some ⟨25,false⟩,false⟩::⟨some 29,.bo .geq false 28 (kI 2),some ⟨25,false⟩,false⟩::⟨some 30,.mv 29,some ⟨25,false⟩,false⟩::⟨some 31,.mv 3,some ⟨30,true⟩,false⟩::⟨some 32,.bo .leq false 31 (kI 4),some ⟨30,true⟩,false⟩::⟨some 33,.pk 30 32 (.c (.b false)),some ⟨25,false⟩,false⟩::⟨some 34,.ca 0 55 [27,33],some ⟨25,false⟩,false⟩::⟨some 35,.no 34,some ⟨25,false⟩,false⟩::(gp 36 (.pk 25 (.c (.b true)) 35))::vg
def qC:Option Bool:=
 if (a0.Kind !=4)=true then
  (eC a0.Name (!(decide (7≤a0.Kind)))).bind fun (r4:Bool)=>
  if r4=true then
   if 2≤a0.Kind then
    (eC a0.Other (decide (a0.Kind≤4))).bind fun (r8:Bool)=>
    (eM R a0 r4 (!r8)).bind fun (x10:Bool)=>
    some x10
   else
    (eC a0.Other false).bind fun (r8:Bool)=>
    (eM R a0 r4 (!r8)).bind fun (x10:Bool)=>
    some x10
  else
   (eM R a0 r4 true).bind fun (x7:Bool)=>
   some x7
 else
  (eC a0.Name false).bind fun (r4:Bool)=>
  if r4=true then
   if 2≤a0.Kind then
    (eC a0.Other (decide (a0.Kind≤4))).bind fun (r8:Bool)=>
    (eM R a0 r4 (!r8)).bind fun (x10:Bool)=>
    some x10
   else
    (eC a0.Other false).bind fun (r8:Bool)=>
    (eM R a0 r4 (!r8)).bind fun (x10:Bool)=>
    some x10
  else
   (eM R a0 r4 true).bind fun (x7:Bool)=>
   some x7
abbrev Cb(x:Bool):St:=⟨[(1,(.p ⟨0,1⟩ 0)),(3,(I a0.Kind)),(4,(.b (decide (7≤a0.Kind)))),(48,(.b x))],[(1,(ag a0))],H0⟩
theorem AD(hR:ay R)(a0:aa)(x:Bool)(h:qC R a0=some x):eB G Ω0 E0 [1,3,4,48] [1] Ca ⟨[(1,(.p ⟨0,1⟩ 0)),(3,(I a0.Kind)),(4,(.b (decide (7≤a0.Kind))))],[(1,(ag a0))],H0⟩=some (Cb a0 x):=
 dv (bt<|.or (eI<|xB fun r4=>.or (E7<|.or (pJ<|xB fun r8=>jG<|.jb (some 37) 11<|.ex fun (x10:Bool)=>ao (.jn ⟨[(1,(.p ⟨0,1⟩ 0)),(3,(I a0.Kind)),(4,(.b (decide (7≤a0.Kind)))),(48,(.b x10))],[(1,(ag a0))],H0⟩)<|.nil) (KF<|xB fun r8=>jG<|.jb (some 37) 11<|.ex fun (x10:Bool)=>ao (.jn ⟨[(1,(.p ⟨0,1⟩ 0)),(3,(I a0.Kind)),(4,(.b (decide (7≤a0.Kind)))),(48,(.b x10))],[(1,(ag a0))],H0⟩)<|.nil)) (KE<|.jb (some 37) 11<|.ex fun (x7:Bool)=>ao (.jn ⟨[(1,(.p ⟨0,1⟩ 0)),(3,(I a0.Kind)),(4,(.b (decide (7≤a0.Kind)))),(48,(.b x7))],[(1,(ag a0))],H0⟩)<|.nil)) (bf<|bf<|bf<|xB fun r4=>.or (E7<|.or (pJ<|xB fun r8=>jG<|.jb (some 37) 11<|.ex fun (x10:Bool)=>ao (.jn ⟨[(1,(.p ⟨0,1⟩ 0)),(3,(I a0.Kind)),(4,(.b (decide (7≤a0.Kind)))),(48,(.b x10))],[(1,(ag a0))],H0⟩)<|.nil) (KF<|xB fun r8=>jG<|.jb (some 37) 11<|.ex fun (x10:Bool)=>ao (.jn ⟨[(1,(.p ⟨0,1⟩ 0)),(3,(I a0.Kind)),(4,(.b (decide (7≤a0.Kind)))),(48,(.b x10))],[(1,(ag a0))],H0⟩)<|.nil)) (KE<|.jb (some 37) 11<|.ex fun (x7:Bool)=>ao (.jn ⟨[(1,(.p ⟨0,1⟩ 0)),(3,(I a0.Kind)),(4,(.b (decide (7≤a0.Kind)))),(48,(.b x7))],[(1,(ag a0))],H0⟩)<|.nil))) fun L=>ai (rfl:Z0)<|aJ h (fun h3 h=>xl h3<|aw h (e6 a0.Name (!(decide (7≤a0.Kind)))) fun r4 h=>aJ h (fun h6 h=>ai (g0 (congrArg not h6))<|ai (g0 (congrArg not h6))<|ai (rfl:Z0)<|ai (g0 (congrArg not h6))<|ai (g0 (congrArg not h6))<|ai (g0 (congrArg not h6))<|bu h (fun h7 h=>ie (decide_eq_true h7)<|ai (g0 (congrArg not h6))<|ai (decide_eq_true h7)<|ai (g0 (congrArg not h6))<|aw h (e6 a0.Other (decide (a0.Kind≤4))) fun r8 h=>o9 (congrArg not h6)<|aw h (gG R hR a0 r4 (!r8) [(.b (!r8)),(.b r8),(.b (decide (a0.Kind≤4))),(.b (decide (a0.Kind≤4))),(I a0.Kind),(.b (decide (2≤a0.Kind))),(.b (decide (2≤a0.Kind))),(I a0.Kind),(.s a0.Other),(.p ⟨0,1⟩ 3),(.b (!(decide (7≤a0.Kind)))),(.b (!(decide (7≤a0.Kind)))),(.b (decide (7≤a0.Kind)))]) fun x10 h=>L h) (fun h7 h=>ie (decide_eq_false h7)<|ai (g0 (congrArg not h6))<|ai (decide_eq_false h7)<|ai (g0 (congrArg not h6))<|aw h (e6 a0.Other false) fun r8 h=>o9 (congrArg not h6)<|aw h (gG R hR a0 r4 (!r8) [(.b (!r8)),(.b r8),(.b false),.sk,.sk,(.b (decide (2≤a0.Kind))),(.b (decide (2≤a0.Kind))),(I a0.Kind),(.s a0.Other),(.p ⟨0,1⟩ 3),(.b (!(decide (7≤a0.Kind)))),(.b (!(decide (7≤a0.Kind)))),(.b (decide (7≤a0.Kind)))]) fun x10 h=>L h)) (fun h6 h=>KA (congrArg not h6)<|aw h (gG R hR a0 r4 true [.sk,.sk,.sk,.sk,.sk,.sk,.sk,.sk,.sk,.sk,(.b (!(decide (7≤a0.Kind)))),(.b (!(decide (7≤a0.Kind)))),(.b (decide (7≤a0.Kind)))]) fun x7 h=>L h)) (fun h3 h=>xl h3<|aw h (e6 a0.Name false) fun r4 h=>aJ h (fun h6 h=>ai (g0 (congrArg not h6))<|ai (g0 (congrArg not h6))<|ai (rfl:Z0)<|ai (g0 (congrArg not h6))<|ai (g0 (congrArg not h6))<|ai (g0 (congrArg not h6))<|bu h (fun h7 h=>ie (decide_eq_true h7)<|ai (g0 (congrArg not h6))<|ai (decide_eq_true h7)<|ai (g0 (congrArg not h6))<|aw h (e6 a0.Other (decide (a0.Kind≤4))) fun r8 h=>o9 (congrArg not h6)<|aw h (gG R hR a0 r4 (!r8) [(.b (!r8)),(.b r8),(.b (decide (a0.Kind≤4))),(.b (decide (a0.Kind≤4))),(I a0.Kind),(.b (decide (2≤a0.Kind))),(.b (decide (2≤a0.Kind))),(I a0.Kind),(.s a0.Other),(.p ⟨0,1⟩ 3),(.b false),.sk,.sk]) fun x10 h=>L h) (fun h7 h=>ie (decide_eq_false h7)<|ai (g0 (congrArg not h6))<|ai (decide_eq_false h7)<|ai (g0 (congrArg not h6))<|aw h (e6 a0.Other false) fun r8 h=>o9 (congrArg not h6)<|aw h (gG R hR a0 r4 (!r8) [(.b (!r8)),(.b r8),(.b false),.sk,.sk,(.b (decide (2≤a0.Kind))),(.b (decide (2≤a0.Kind))),(I a0.Kind),(.s a0.Other),(.p ⟨0,1⟩ 3),(.b false),.sk,.sk]) fun x10 h=>L h)) (fun h6 h=>KA (congrArg not h6)<|aw h (gG R hR a0 r4 true [.sk,.sk,.sk,.sk,.sk,.sk,.sk,.sk,.sk,.sk,(.b false),.sk,.sk]) fun x7 h=>L h))
def vj:List cL:=(gM 67 66)::⟨some 68,.mv 3,some ⟨67,false⟩,false⟩::⟨some 69,.bo .neq false 68 (kI 7),some ⟨67,false⟩,false⟩::⟨some 70,.mv 69,some ⟨67,false⟩,false⟩::⟨some 71,.fa 11 1,some ⟨70,true⟩,false⟩::⟨some 72,.ld none 71,some ⟨70,true⟩,false⟩::⟨some 73,.ln false 72,some ⟨70,true⟩,false⟩::⟨some 74,.bo .gtr false 73 (kI 0),some ⟨70,true⟩,false⟩::⟨some 75,.pk 70 74 (.c (.b false)),some ⟨67,false⟩,false⟩::(gp 76 (.pk 67 (.c (.b true)) 75))::[]
def fJ(R:aF)(a0:aa)(u4_1:Bool):Option Bool:=
 if u4_1=true then
  some true
 else
  if (a0.Kind !=7)=true then
   some (decide (0<(a0.Else.length:Int)))
  else
   some false
abbrev Cc(u4_1:Bool)(x:Bool):St:=⟨[(1,(.p ⟨0,1⟩ 0)),(76,(.b x))],[(1,(ag a0))],H0⟩
theorem jL(hR:ay R)(a0:aa)(u4_1:Bool)(w:List AV)(x:Bool)(h:fJ R a0 u4_1=some x):eB G Ω0 E0 [1,76] [1] vj ⟨[(66,(.b u4_1)),(65,(W w 0)),(64,(W w 1)),(63,(W w 2)),(62,(W w 3)),(61,(W w 4)),(60,(W w 5)),(59,(W w 6)),(58,(W w 7)),(57,(W w 8)),(56,(W w 9)),(55,(W w 10)),(54,(W w 11)),(53,(W w 12)),(52,(W w 13)),(51,(.b (a0.Kind !=2))),(50,(.b (a0.Kind !=2))),(49,(I a0.Kind)),(1,(.p ⟨0,1⟩ 0)),(3,(I a0.Kind)),(4,(.b (decide (7≤a0.Kind))))],[(1,(ag a0))],H0⟩=some (Cc a0 u4_1 x):=
 dv (.or (Fb<|.nil) (eI<|.or (dD<|ao (.i (a0.Else.length:Int))<|E6<|.nil) (Ih<|.nil))) fun L=>aJ h (fun h9 h=>E4 h9<|L h) (fun h9 h=>E1 h9<|aJ h (fun h10 h=>fH h10<|ai (aO ab a0.Else)<|ai (g1 h10)<|ai (g0 h9)<|ai h10<|ai h9<|L h) (fun h10 h=>zk h10<|ai (g0 h9)<|ai h10<|ai h9<|L h))
def Cd:List cL:=(gM 49 3)::(gB 50 .neq 49 (kI 2))::(gM 51 50)::⟨some 52,.fa 9 1,some ⟨51,true⟩,false⟩::⟨some 53,.ld none 52,some ⟨51,true⟩,false⟩::⟨some 54,.ln false 53,some ⟨51,true⟩,false⟩::⟨some 55,.bo .gtr false 54 (kI 0),some ⟨51,true⟩,false⟩::(gp 56 (.pk 51 55 (.c (.b false))))::(gM 57 56)::⟨some 58,.mv 4,some ⟨57,false⟩,false⟩::⟨some 59,.no 58,some ⟨57,false⟩,false⟩::⟨some 60,.mv 59,some ⟨57,false⟩,false⟩::⟨some 61,.fa 10 1,some ⟨60,true⟩,false⟩::⟨some 62,.ld none 61,some ⟨60,true⟩,false⟩::⟨some 63,.ln false 62,some ⟨60,true⟩,false⟩::⟨some 64,.bo .gtr false 63 (kI 0),some ⟨60,true⟩,false⟩::⟨some 65,.pk 60 64 (.c (.b false)),some ⟨57,false⟩,false⟩::(gp 66 (.pk 57 (.c (.b true)) 65))::vj
def qD:Option Bool:=
 if (a0.Kind !=2)=true then
  if 0<(a0.Args.length:Int) then
   (fJ R a0 true).bind fun (x8:Bool)=>
   some x8
  else
   if 7≤a0.Kind then
    (fJ R a0 false).bind fun (x9:Bool)=>
    some x9
   else
    (fJ R a0 (decide (0<(a0.Then.length:Int)))).bind fun (x9:Bool)=>
    some x9
 else
  if 7≤a0.Kind then
   (fJ R a0 false).bind fun (x8:Bool)=>
   some x8
  else
   (fJ R a0 (decide (0<(a0.Then.length:Int)))).bind fun (x8:Bool)=>
   some x8
abbrev Ce(x:Bool):St:=⟨[(1,(.p ⟨0,1⟩ 0)),(76,(.b x))],[(1,(ag a0))],H0⟩
theorem AE(hR:ay R)(a0:aa)(x:Bool)(h:qD R a0=some x):eB G Ω0 E0 [1,76] [1] Cd ⟨[(1,(.p ⟨0,1⟩ 0)),(3,(I a0.Kind)),(4,(.b (decide (7≤a0.Kind))))],[(1,(ag a0))],H0⟩=some (Ce a0 x):=
 dv (.or (dD<|ao (.i (a0.Args.length:Int))<|cu<|.or (Fb<|.jb (some 67) 9<|.ex fun (x8:Bool)=>ao (.jn ⟨[(1,(.p ⟨0,1⟩ 0)),(76,(.b x8))],[(1,(ag a0))],H0⟩)<|.nil) (eI<|.or (Ih<|.jb (some 67) 9<|.ex fun (x9:Bool)=>ao (.jn ⟨[(1,(.p ⟨0,1⟩ 0)),(76,(.b x9))],[(1,(ag a0))],H0⟩)<|.nil) (dD<|ao (.i (a0.Then.length:Int))<|E6<|.jb (some 67) 9<|.ex fun (x9:Bool)=>ao (.jn ⟨[(1,(.p ⟨0,1⟩ 0)),(76,(.b x9))],[(1,(ag a0))],H0⟩)<|.nil))) (bf<|bf<|bf<|bf<|bf<|bt<|bt<|bt<|.or (Ih<|.jb (some 67) 9<|.ex fun (x8:Bool)=>ao (.jn ⟨[(1,(.p ⟨0,1⟩ 0)),(76,(.b x8))],[(1,(ag a0))],H0⟩)<|.nil) (dD<|ao (.i (a0.Then.length:Int))<|E6<|.jb (some 67) 9<|.ex fun (x8:Bool)=>ao (.jn ⟨[(1,(.p ⟨0,1⟩ 0)),(76,(.b x8))],[(1,(ag a0))],H0⟩)<|.nil))) fun L=>aJ h (fun h6 h=>fH h6<|ai (aO av a0.Args)<|jv h6<|bu h (fun h7 h=>E4 (decide_eq_true h7)<|aw h (jL R hR a0 true [.sk,.sk,.sk,.sk,.sk,.sk,.sk,.sk,(.b (decide (0<(a0.Args.length:Int)))),(.b (decide (0<(a0.Args.length:Int)))),(.b (decide (0<(a0.Args.length:Int)))),(I (a0.Args.length:Int)),(.l 44 (a0.Args.map av)),(.p ⟨0,1⟩ 9)]) fun x8 h=>L h) (fun h7 h=>E1 (decide_eq_false h7)<|bu h (fun h8 h=>zk (congrArg not (decide_eq_true h8))<|ai (g0 (decide_eq_false h7))<|ai (congrArg not (decide_eq_true h8))<|ai (decide_eq_false h7)<|aw h (jL R hR a0 false [(.b false),.sk,.sk,.sk,.sk,(.b (!(decide (7≤a0.Kind)))),(.b (!(decide (7≤a0.Kind)))),(.b (decide (7≤a0.Kind))),(.b (decide (0<(a0.Args.length:Int)))),(.b (decide (0<(a0.Args.length:Int)))),(.b (decide (0<(a0.Args.length:Int)))),(I (a0.Args.length:Int)),(.l 44 (a0.Args.map av)),(.p ⟨0,1⟩ 9)]) fun x9 h=>L h) (fun h8 h=>fH (congrArg not (decide_eq_false h8))<|ai (aO ab a0.Then)<|ai (g1 (congrArg not (decide_eq_false h8)))<|ai (g0 (decide_eq_false h7))<|ai (congrArg not (decide_eq_false h8))<|ai (decide_eq_false h7)<|aw h (jL R hR a0 (decide (0<(a0.Then.length:Int))) [(.b (decide (0<(a0.Then.length:Int)))),(.b (decide (0<(a0.Then.length:Int)))),(I (a0.Then.length:Int)),(.l 68 (a0.Then.map ab)),(.p ⟨0,1⟩ 10),(.b (!(decide (7≤a0.Kind)))),(.b (!(decide (7≤a0.Kind)))),(.b (decide (7≤a0.Kind))),(.b (decide (0<(a0.Args.length:Int)))),(.b (decide (0<(a0.Args.length:Int)))),(.b (decide (0<(a0.Args.length:Int)))),(I (a0.Args.length:Int)),(.l 44 (a0.Args.map av)),(.p ⟨0,1⟩ 9)]) fun x9 h=>L h))) (fun h6 h=>ai (g1 h6)<|ai (g1 h6)<|ai (g1 h6)<|ai (g1 h6)<|ai h6<|ai hf<|ai hf<|ai hf<|bu h (fun h7 h=>ai (g1 (congrArg not (decide_eq_true h7)))<|ai (g1 (congrArg not (decide_eq_true h7)))<|ai (g1 (congrArg not (decide_eq_true h7)))<|ai (g1 (congrArg not (decide_eq_true h7)))<|ai hf<|ai (congrArg not (decide_eq_true h7))<|ai ff<|aw h (jL R hR a0 false [(.b false),.sk,.sk,.sk,.sk,(.b (!(decide (7≤a0.Kind)))),(.b (!(decide (7≤a0.Kind)))),(.b (decide (7≤a0.Kind))),(.b false),(.b false),.sk,.sk,.sk,.sk]) fun x8 h=>L h) (fun h7 h=>fH (congrArg not (decide_eq_false h7))<|ai (aO ab a0.Then)<|ai (g1 (congrArg not (decide_eq_false h7)))<|ai hf<|ai (congrArg not (decide_eq_false h7))<|ai ff<|aw h (jL R hR a0 (decide (0<(a0.Then.length:Int))) [(.b (decide (0<(a0.Then.length:Int)))),(.b (decide (0<(a0.Then.length:Int)))),(I (a0.Then.length:Int)),(.l 68 (a0.Then.map ab)),(.p ⟨0,1⟩ 10),(.b (!(decide (7≤a0.Kind)))),(.b (!(decide (7≤a0.Kind)))),(.b (decide (7≤a0.Kind))),(.b false),(.b false),.sk,.sk,.sk,.sk]) fun x8 h=>L h))
def pR:Option Bool:=
 if a0.Kind<1 then
  some false
 else
  if 8<a0.Kind then
   some false
  else
   (qC R a0).bind fun (x3:Bool)=>
   if x3=true then
    some false
   else
    (qD R a0).bind fun (x6:Bool)=>
    if x6=true then
     some false
    else
     (ep a0.Args).bind fun (r9:Bool)=>
     if r9=true then
      some false
     else
      (R.f_tree_stmts a0.Then).bind fun (r12:Bool)=>
      if r12=true then
       (R.f_tree_stmts a0.Else).bind fun (r15:Bool)=>
       some r15
      else
       some false
theorem AF(hR:ay R)(a0:aa)(r:Bool)(h:pR R a0=some r):yU a0 r:=
 aH G62 (bt<|.or (bf<|bf<|bt<|bt<|.nil) (yR<|oN (.jb (some 15) 33<|.ex fun (x3:Bool)=>ao (.jn ⟨[(1,(.p ⟨0,1⟩ 0)),(3,(I a0.Kind)),(4,(.b (decide (7≤a0.Kind)))),(48,(.b x3))],[(1,(ag a0))],H0⟩)<|oN (.jb (some 49) 27<|.ex fun (x6:Bool)=>ao (.jn ⟨[(1,(.p ⟨0,1⟩ 0)),(76,(.b x6))],[(1,(ag a0))],H0⟩)<|oN (bt<|xB fun r9=>.or (bf<|bf<|bf<|bf<|bf<|bf<|bf<|bf<|.nil) (dD<|xB fun r12=>bt<|.or (dD<|xB fun r15=>bt<|.nil) (xn<|.nil))))))) fun L=>od<|bu h (fun h1 h=>ai (g0 (decide_eq_true h1))<|ai (g0 (decide_eq_true h1))<|ai (decide_eq_true h1)<|ai tt<|L h) (fun h1 h=>uy (decide_eq_false h1)<|bu h (fun h2 h=>ai (decide_eq_true h2)<|L h) (fun h2 h=>ai (decide_eq_false h2)<|aw h (AD R hR a0) fun x3 h=>aJ h (fun h5 h=>ai h5<|L h) (fun h5 h=>ai h5<|aw h (AE R hR a0) fun x6 h=>aJ h (fun h8 h=>ai h8<|L h) (fun h8 h=>fO h8<|aw h (l7 a0.Args) fun r9 h=>aJ h (fun h11 h=>ai (g1 (congrArg not h11))<|ai (g1 (congrArg not h11))<|ai (g1 (congrArg not h11))<|ai (congrArg not h11)<|ai gf<|ai gf<|ai gf<|ai ff<|L h) (fun h11 h=>fH (congrArg not h11)<|aw h (hR.f_tree_stmts a0.Then) fun r12 h=>ai (congrArg not h11)<|aJ h (fun h14 h=>fH h14<|aw h (hR.f_tree_stmts a0.Else) fun r15 h=>ai h14<|L h) (fun h14 h=>ru h14<|L h))))))
end
section
variable (R:aF)(a0:(List aa))
def oD:Option Bool:=
 (R.f_slices_ContainsFunc__tree_stmts_1 a0).bind fun (r1:Bool)=>
 some (!r1)
theorem zp(hR:ay R)(a0:(List aa))(r:Bool)(h:oD R a0=some r):sU a0 r:=
 aH Z9 (xB fun r1=>.nil) fun L=>aw h (hR.f_slices_ContainsFunc__tree_stmts_1 a0) fun r1 h=>L h
end
section
variable (R:aF)(a0:aa)
def lN:Option Bool:=
 (R.f_tree_stmt a0).bind fun (r1:Bool)=>
 some (!r1)
theorem xu(hR:ay R)(a0:aa)(r:Bool)(h:lN R a0=some r):vf a0 r:=
 aH G61 (bt<|xB fun r1=>.nil) fun L=>od<|aw h (hR.f_tree_stmt a0) fun r1 h=>L h
def aG:Nat→aF
 | 0=>⟨fun z0=>none,fun z0=>none,fun z0=>none,fun z0=>none,fun z0=>none⟩
 | n+1=>⟨gh (aG n),iy (aG n),pR (aG n),oD (aG n),lN (aG n)⟩
theorem aU:∀ n,ay (aG n)
 | 0=>⟨fun _ r h=>(by cases h),fun _ r h=>(by cases h),fun _ r h=>(by cases h),fun _ r h=>(by cases h),fun _ r h=>(by cases h)⟩
 | n+1=>⟨fun a0 r h=>lf _ (aU n) a0 r h,fun a0 r h=>mc _ (aU n) a0 r h,fun a0 r h=>AF _ (aU n) a0 r h,fun a0 r h=>zp _ (aU n) a0 r h,fun a0 r h=>xu _ (aU n) a0 r h⟩
end
section
variable (a0:(List aa))
def pS:Option Bool:=ev fun n=>(aG n).f_tree_stmts a0
theorem tT(r:Bool)(h:pS a0=some r):sU a0 r:=by
 obtain ⟨n,hn⟩:=iD h
 exact (aU n).f_tree_stmts a0 r hn
def Cf:List cL:=(gF 5 0 1)::(gQ 6 5)::(gB 7 .lss 6 (kI 1))::(gM 8 7)::⟨some 9,.fa 0 1,some ⟨8,false⟩,false⟩::⟨some 10,.ld none 9,some ⟨8,false⟩,false⟩::⟨some 11,.bo .gtr false 10 (kI 7),some ⟨8,false⟩,false⟩::(gp 12 (.pk 8 (.c (.b true)) 11))::(gM 13 12)::⟨some 14,.fa 2 1,some ⟨13,false⟩,false⟩::⟨some 15,.ld none 14,some ⟨13,false⟩,false⟩::⟨some 16,.ca 0 54 [15],some ⟨13,false⟩,false⟩::⟨some 17,.no 16,some ⟨13,false⟩,false⟩::(gp 18 (.pk 13 (.c (.b true)) 17))::(gM 19 18)::⟨some 20,.fa 3 1,some ⟨19,false⟩,false⟩::⟨some 21,.ld none 20,some ⟨19,false⟩,false⟩::⟨some 22,.fa 0 1,some ⟨19,false⟩,false⟩::⟨some 23,.ld none 22,some ⟨19,false⟩,false⟩::⟨some 24,.bo .eql false 23 (kI 2),some ⟨19,false⟩,false⟩::⟨some 25,.ca 0 55 [21,24],some ⟨19,false⟩,false⟩::⟨some 26,.no 25,some ⟨19,false⟩,false⟩::(gp 27 (.pk 19 (.c (.b true)) 26))::[]
end
section
variable (a0:aE)
def qE:Option Bool:=
 if a0.Kind<1 then
  some true
 else
  if 7<a0.Kind then
   some true
  else
   (fS a0.Name).bind fun (r3:Bool)=>
   if r3=true then
    (eC a0.Other (a0.Kind==2)).bind fun (r6:Bool)=>
    some (!r6)
   else
    some true
abbrev Cg(x:Bool):St:=⟨[(1,(.p ⟨0,1⟩ 0)),(27,(.b x))],[(1,(ak a0))],H0⟩
theorem AG(x:Bool)(h:qE a0=some x):eB G Ω0 E0 [1,27] [1] Cf ⟨[(1,(.p ⟨0,1⟩ 0))],[(1,(ak a0))],H0⟩=some (Cg a0 x):=
 dv (bt<|.or (bf<|bf<|bf<|bt<|bf<|bf<|bf<|bf<|bt<|bf<|bf<|bf<|bf<|bf<|bf<|bf<|bt<|.nil) (yS<|.or (bf<|bf<|bf<|bf<|bt<|bf<|bf<|bf<|bf<|bf<|bf<|bf<|bt<|.nil) (dD<|xB fun r3=>jG<|.or (bt<|bt<|bt<|bt<|bt<|bt<|bt<|bt<|xB fun r6=>jG<|.nil) (bf<|bf<|bf<|bf<|bf<|bf<|bf<|bt<|.nil)))) fun L=>ai (rfl:Z0)<|bu h (fun h1 h=>ai (g0 (decide_eq_true h1))<|ai (g0 (decide_eq_true h1))<|ai (g0 (decide_eq_true h1))<|ai (decide_eq_true h1)<|ai ht<|ai ht<|ai ht<|ai ht<|ai tt<|ai ht<|ai ht<|ai ht<|ai ht<|ai ht<|ai ht<|ai ht<|ai tt<|L h) (fun h1 h=>BG (decide_eq_false h1)<|bu h (fun h2 h=>ai (g0 (decide_eq_true h2))<|ai (g0 (decide_eq_true h2))<|ai (g0 (decide_eq_true h2))<|ai (g0 (decide_eq_true h2))<|ai (decide_eq_true h2)<|ai ht<|ai ht<|ai ht<|ai ht<|ai ht<|ai ht<|ai ht<|ai tt<|L h) (fun h2 h=>qu (decide_eq_false h2)<|aw h (iF a0.Name) fun r3 h=>o9 (decide_eq_false h2)<|aJ h (fun h5 h=>ai (g0 (congrArg not h5))<|ai (g0 (congrArg not h5))<|ai (rfl:Z0)<|ai (g0 (congrArg not h5))<|ai (g0 (congrArg not h5))<|ai (rfl:Z0)<|ai (g0 (congrArg not h5))<|ai (g0 (congrArg not h5))<|aw h (e6 a0.Other (a0.Kind==2)) fun r6 h=>o9 (congrArg not h5)<|L h) (fun h5 h=>ai (g0 (congrArg not h5))<|ai (g0 (congrArg not h5))<|ai (g0 (congrArg not h5))<|ai (g0 (congrArg not h5))<|ai (g0 (congrArg not h5))<|ai (g0 (congrArg not h5))<|ai (g0 (congrArg not h5))<|ai (congrArg not h5)<|L h)))
def iH(a0:aE)(w2_1:Bool):Option (Unit⊕Bool):=
 if w2_1=true then
  some (.inl ())
 else
  some (.inr w2_1)
abbrev Ch(w2_1:Bool)(x:(Unit⊕Bool)):aK×St:=match x with | .inl ()=>(.nrm,⟨[(1,(.p ⟨0,1⟩ 0)),(3,(.b false))],[(1,(ak a0))],H0⟩) | .inr z1=>(.nrm,⟨[(1,(.p ⟨0,1⟩ 0)),(3,(.b a0.Given)),(35,(.b z1))],[(1,(ak a0))],H0⟩)
theorem lO(w2_1:Bool)(x:(Unit⊕Bool))(h:iH a0 w2_1=some x):run G Ω0 E0 L0 ⟨[(1,(.p ⟨0,1⟩ 0)),(3,(.b a0.Given)),(35,(.b w2_1))],[(1,(ak a0))],H0⟩=some (Ch a0 w2_1 x):=
 fP (oN (.nil)) fun L=>aJ h (fun h9 h=>ai h9<|L h) (fun h9 h=>ai h9<|L h)
def mU(w1_1:Bool):Option (Bool⊕Bool):=
 if w1_1=true then
  some (.inl true)
 else
  if (a0.Kind==1)=true then
   (iH a0 (a0.Kind==1)).bind fun (x7:(Unit⊕Bool))=>match x7 with
   | .inl ya_8=>
    some (.inl false)
   | .inr yb_8=>
    some (.inr yb_8)
  else
   if (a0.Kind==2)=true then
    (iH a0 (a0.Kind==2)).bind fun (x8:(Unit⊕Bool))=>match x8 with
    | .inl ya_9=>
     some (.inl false)
    | .inr yb_9=>
     some (.inr yb_9)
   else
    if (a0.Kind==3)=true then
     (iH a0 (a0.Kind==3)).bind fun (x9:(Unit⊕Bool))=>match x9 with
     | .inl ya_10=>
      some (.inl false)
     | .inr yb_10=>
      some (.inr yb_10)
    else
     (iH a0 (a0.Kind==7)).bind fun (x9:(Unit⊕Bool))=>match x9 with
     | .inl ya_10=>
      some (.inl false)
     | .inr yb_10=>
      some (.inr yb_10)
abbrev Ci(w1_1:Bool)(x:(Bool⊕Bool)):aK×St:=match x with | .inl zb1=>(.nrm,⟨[(1,(.p ⟨0,1⟩ 0)),(3,(.b zb1))],[(1,(ak a0))],H0⟩) | .inr z1=>(.nrm,⟨[(1,(.p ⟨0,1⟩ 0)),(3,(.b a0.Given)),(35,(.b z1))],[(1,(ak a0))],H0⟩)
theorem tU(w1_1:Bool)(x:(Bool⊕Bool))(h:mU a0 w1_1=some x):run G Ω0 E0 L1 ⟨[(1,(.p ⟨0,1⟩ 0)),(3,(.b a0.Given)),(31,(I a0.Kind)),(32,(.b w1_1))],[(1,(ak a0))],H0⟩=some (Ci a0 w1_1 x):=
 fP (oN (.or (bt<|.fb<|.or (.ex fun (ya_8:Unit)=>ao (.fr .nrm ⟨[(1,(.p ⟨0,1⟩ 0)),(3,(.b false))],[(1,(ak a0))],H0⟩)<|.nil) (.ex fun (yb_8:Bool)=>ao (.fr .nrm ⟨[(1,(.p ⟨0,1⟩ 0)),(3,(.b a0.Given)),(35,(.b yb_8))],[(1,(ak a0))],H0⟩)<|.nil)) (bf<|.or (bt<|.fb<|.or (.ex fun (ya_9:Unit)=>ao (.fr .nrm ⟨[(1,(.p ⟨0,1⟩ 0)),(3,(.b false))],[(1,(ak a0))],H0⟩)<|.nil) (.ex fun (yb_9:Bool)=>ao (.fr .nrm ⟨[(1,(.p ⟨0,1⟩ 0)),(3,(.b a0.Given)),(35,(.b yb_9))],[(1,(ak a0))],H0⟩)<|.nil)) (bf<|.or (bt<|.fb<|.or (.ex fun (ya_10:Unit)=>ao (.fr .nrm ⟨[(1,(.p ⟨0,1⟩ 0)),(3,(.b false))],[(1,(ak a0))],H0⟩)<|.nil) (.ex fun (yb_10:Bool)=>ao (.fr .nrm ⟨[(1,(.p ⟨0,1⟩ 0)),(3,(.b a0.Given)),(35,(.b yb_10))],[(1,(ak a0))],H0⟩)<|.nil)) (bf<|.fb<|.or (.ex fun (ya_10:Unit)=>ao (.fr .nrm ⟨[(1,(.p ⟨0,1⟩ 0)),(3,(.b false))],[(1,(ak a0))],H0⟩)<|.nil) (.ex fun (yb_10:Bool)=>ao (.fr .nrm ⟨[(1,(.p ⟨0,1⟩ 0)),(3,(.b a0.Given)),(35,(.b yb_10))],[(1,(ak a0))],H0⟩)<|.nil)))))) fun L=>aJ h (fun h5 h=>ai h5<|L h) (fun h5 h=>ai h5<|aJ h (fun h6 h=>ai h6<|bW h (lO a0 (a0.Kind==1)) (fun ya_8 h=>L h) (fun yb_8 h=>L h)) (fun h6 h=>ai h6<|aJ h (fun h7 h=>ai h7<|bW h (lO a0 (a0.Kind==2)) (fun ya_9 h=>L h) (fun yb_9 h=>L h)) (fun h7 h=>ai h7<|aJ h (fun h8 h=>ai h8<|bW h (lO a0 (a0.Kind==3)) (fun ya_10 h=>L h) (fun yb_10 h=>L h)) (fun h8 h=>ai h8<|bW h (lO a0 (a0.Kind==7)) (fun ya_10 h=>L h) (fun yb_10 h=>L h)))))
def vk:List cL:=(gM 64 63)::⟨some 65,.mv 4,some ⟨64,false⟩,false⟩::⟨some 66,.no 65,some ⟨64,false⟩,false⟩::⟨some 67,.mv 66,some ⟨64,false⟩,false⟩::⟨some 68,.fa 6 1,some ⟨67,true⟩,false⟩::⟨some 69,.ld none 68,some ⟨67,true⟩,false⟩::⟨some 70,.ln false 69,some ⟨67,true⟩,false⟩::⟨some 71,.fa 7 1,some ⟨67,true⟩,false⟩::⟨some 72,.ld none 71,some ⟨67,true⟩,false⟩::⟨some 73,.ln false 72,some ⟨67,true⟩,false⟩::⟨some 74,.bo .add false 70 73,some ⟨67,true⟩,false⟩::⟨some 75,.bo .gtr false 74 (kI 0),some ⟨67,true⟩,false⟩::⟨some 76,.pk 67 75 (.c (.b false)),some ⟨64,false⟩,false⟩::(gp 77 (.pk 64 (.c (.b true)) 76))::(gM 78 77)::⟨some 79,.fa 8 1,some ⟨78,false⟩,false⟩::⟨some 80,.ld (some 5) 79,some ⟨78,false⟩,false⟩::⟨some 81,.mv 4,some ⟨78,false⟩,false⟩::⟨some 82,.ca 0 57 [80,81],some ⟨78,false⟩,false⟩::⟨some 83,.no 82,some ⟨78,false⟩,false⟩::(gp 84 (.pk 78 (.c (.b true)) 83))::[]
def iI(w3_1:Bool)(u3_1:Bool)(u3_2:Bool):Option Bool:=
 if u3_1=true then
  some true
 else
  if (a0.Kind==7)=true then
   (kR a0.Result (a0.Kind==7)).bind fun (r15:Bool)=>
   some (!r15)
  else
   if IntKind.i64.wrap ((a0.Params.length:Int)+(a0.Body.length:Int))=(a0.Params.length:Int)+(a0.Body.length:Int) then
    if 0<((a0.Params.length:Int)+(a0.Body.length:Int)) then
     some true
    else
     (kR a0.Result (a0.Kind==7)).bind fun (r17:Bool)=>
     some (!r17)
   else none
abbrev Cj(w3_1:Bool)(u3_1:Bool)(u3_2:Bool)(x:Bool):St:=⟨[(1,(.p ⟨0,1⟩ 0)),(84,(.b x))],[(1,(ak a0))],H0⟩
theorem lP(w3_1:Bool)(u3_1:Bool)(u3_2:Bool)(w:List AV)(x:Bool)(h:iI a0 w3_1 u3_1 u3_2=some x):eB G Ω0 E0 [1,84] [1] vk ⟨[(63,(.b u3_1)),(62,(W w 0)),(61,(W w 1)),(60,(W w 2)),(59,(W w 3)),(58,(W w 4)),(57,(.b u3_2)),(56,(W w 5)),(55,(W w 6)),(54,(W w 7)),(53,(W w 8)),(52,(W w 9)),(51,(W w 10)),(50,(W w 11)),(49,(W w 12)),(48,(W w 13)),(47,(.b (!(a0.Given==w3_1)))),(46,(.b (!(a0.Given==w3_1)))),(45,(.b w3_1)),(44,(.b a0.Given)),(43,(.p ⟨0,1⟩ 4)),(1,(.p ⟨0,1⟩ 0)),(3,(.b w3_1)),(4,(.b (a0.Kind==7)))],[(1,(ak a0))],H0⟩=some (Cj a0 w3_1 u3_1 u3_2 x):=
 dv (.or (bf<|bf<|bf<|bf<|bt<|bf<|bf<|bf<|bf<|bf<|bt<|.nil) (eI<|.or (bf<|bf<|bf<|bf<|bf<|bf<|bf<|bf<|bt<|bf<|bf<|bt<|bt<|bt<|bt<|bt<|xB fun r15=>jG<|.nil) (dD<|ao (.i (a0.Params.length:Int))<|dD<|ao (.i (a0.Body.length:Int))<|bt<|ao (.i ((a0.Params.length:Int)+(a0.Body.length:Int)))<|E6<|.or (KG<|.nil) (pJ<|xB fun r17=>jG<|.nil)))) fun L=>aJ h (fun h13 h=>ai (g0 h13)<|ai (g0 h13)<|ai (g0 h13)<|ai (g0 h13)<|ai h13<|ai ht<|ai ht<|ai ht<|ai ht<|ai ht<|ai tt<|L h) (fun h13 h=>E1 h13<|aJ h (fun h14 h=>ai (g1 (congrArg not h14))<|ai (g1 (congrArg not h14))<|ai (g1 (congrArg not h14))<|ai (g1 (congrArg not h14))<|ai (g1 (congrArg not h14))<|ai (g1 (congrArg not h14))<|ai (g1 (congrArg not h14))<|ai (g1 (congrArg not h14))<|ai (g0 h13)<|ai (congrArg not h14)<|ai h13<|ai hf<|ai hf<|ai (rfl:Z0)<|ai hf<|ai hf<|aw h (oA a0.Result (a0.Kind==7)) fun r15 h=>ai hf<|ai ff<|L h) (fun h14 h=>fH (congrArg not h14)<|ai (aO AV.s a0.Params)<|fH (congrArg not h14)<|ai (aO ab a0.Body)<|ai (g1 (congrArg not h14))<|aj h fun w15 h=>ai w15<|ai (g1 (congrArg not h14))<|ai (g0 h13)<|ai (congrArg not h14)<|ai h13<|bu h (fun h16 h=>KB (decide_eq_true h16)<|L h) (fun h16 h=>E5 (decide_eq_false h16)<|aw h (oA a0.Result (a0.Kind==7)) fun r17 h=>o9 (decide_eq_false h16)<|L h)))
def Ck:List cL:=(gF 43 4 1)::(gQ 44 43)::(gM 45 3)::(gp 46 (.bo .neq true 44 45))::(gM 47 46)::⟨some 48,.fa 4 1,some ⟨47,false⟩,false⟩::⟨some 49,.ld none 48,some ⟨47,false⟩,false⟩::⟨some 50,.no 49,some ⟨47,false⟩,false⟩::⟨some 51,.mv 50,some ⟨47,false⟩,false⟩::⟨some 52,.fa 5 1,some ⟨51,true⟩,false⟩::⟨some 53,.ld none 52,some ⟨51,true⟩,false⟩::⟨some 54,.ln false 53,some ⟨51,true⟩,false⟩::⟨some 55,.bo .gtr false 54 (kI 0),some ⟨51,true⟩,false⟩::⟨some 56,.pk 51 55 (.c (.b false)),some ⟨47,false⟩,false⟩::(gp 57 (.pk 47 (.c (.b true)) 56))::(gM 58 57)::⟨some 59,.fa 5 1,some ⟨58,false⟩,false⟩::⟨some 60,.ld none 59,some ⟨58,false⟩,false⟩::⟨some 61,.ca 0 56 [60],some ⟨58,false⟩,false⟩::⟨some 62,.no 61,some ⟨58,false⟩,false⟩::(gp 63 (.pk 58 (.c (.b true)) 62))::vk
def qF(w3_1:Bool):Option Bool:=
 if (a0.Given==w3_1)=true then
  if a0.Given=true then
   (mb a0.Label).bind fun (r10:Bool)=>
   (iI a0 w3_1 (!r10) false).bind fun (x12:Bool)=>
   some x12
  else
   if 0<(a0.Label.length:Int) then
    (iI a0 w3_1 true (decide (0<(a0.Label.length:Int)))).bind fun (x11:Bool)=>
    some x11
   else
    (mb a0.Label).bind fun (r11:Bool)=>
    (iI a0 w3_1 (!r11) (decide (0<(a0.Label.length:Int)))).bind fun (x13:Bool)=>
    some x13
 else
  (iI a0 w3_1 true true).bind fun (x9:Bool)=>
  some x9
abbrev Cl(w3_1:Bool)(x:Bool):St:=⟨[(1,(.p ⟨0,1⟩ 0)),(84,(.b x))],[(1,(ak a0))],H0⟩
theorem AH(w3_1:Bool)(x:Bool)(h:qF a0 w3_1=some x):eB G Ω0 E0 [1,84] [1] Ck ⟨[(1,(.p ⟨0,1⟩ 0)),(3,(.b w3_1)),(4,(.b (a0.Kind==7)))],[(1,(ak a0))],H0⟩=some (Cl a0 w3_1 x):=
 dv (bt<|.or (pJ<|.or (bf<|bf<|bf<|bf<|bt<|bf<|bf<|bt<|bt<|bt<|bt<|xB fun r10=>jG<|.jb (some 64) 20<|.ex fun (x12:Bool)=>ao (.jn ⟨[(1,(.p ⟨0,1⟩ 0)),(84,(.b x12))],[(1,(ak a0))],H0⟩)<|.nil) (dD<|ao (.i (a0.Label.length:Int))<|E6<|.or (Fb<|.jb (some 64) 20<|.ex fun (x11:Bool)=>ao (.jn ⟨[(1,(.p ⟨0,1⟩ 0)),(84,(.b x11))],[(1,(ak a0))],H0⟩)<|.nil) (dD<|xB fun r11=>jG<|.jb (some 64) 20<|.ex fun (x13:Bool)=>ao (.jn ⟨[(1,(.p ⟨0,1⟩ 0)),(84,(.b x13))],[(1,(ak a0))],H0⟩)<|.nil))) (bf<|bf<|bf<|bf<|bf<|bt<|bf<|bf<|bf<|bf<|bt<|.jb (some 64) 20<|.ex fun (x9:Bool)=>ao (.jn ⟨[(1,(.p ⟨0,1⟩ 0)),(84,(.b x9))],[(1,(ak a0))],H0⟩)<|.nil)) fun L=>ai (rfl:Z0)<|aJ h (fun h8 h=>E5 (congrArg not h8)<|aJ h (fun h9 h=>zk (congrArg not h9)<|ai (g0 (congrArg not h8))<|ai (congrArg not h9)<|ai (congrArg not h8)<|ai hf<|ai hf<|ai (rfl:Z0)<|ai hf<|aw h (tR a0.Label) fun r10 h=>ai hf<|ai ff<|aw h (lP a0 w3_1 (!r10) false [(.b (!r10)),(.b r10),(.l 74 (a0.Label.map aA)),(.p ⟨0,1⟩ 5),(.b false),(.b false),.sk,.sk,.sk,.sk,(.b (!a0.Given)),(.b (!a0.Given)),(.b a0.Given),(.p ⟨0,1⟩ 4)]) fun x12 h=>L h) (fun h9 h=>fH (congrArg not h9)<|ai (aO aA a0.Label)<|ai (g1 (congrArg not h9))<|ai (g0 (congrArg not h8))<|ai (congrArg not h9)<|ai (congrArg not h8)<|bu h (fun h10 h=>E4 (decide_eq_true h10)<|aw h (lP a0 w3_1 true (decide (0<(a0.Label.length:Int))) [.sk,.sk,.sk,.sk,(.b (decide (0<(a0.Label.length:Int)))),(.b (decide (0<(a0.Label.length:Int)))),(.b (decide (0<(a0.Label.length:Int)))),(I (a0.Label.length:Int)),(.l 74 (a0.Label.map aA)),(.p ⟨0,1⟩ 5),(.b (!a0.Given)),(.b (!a0.Given)),(.b a0.Given),(.p ⟨0,1⟩ 4)]) fun x11 h=>L h) (fun h10 h=>qu (decide_eq_false h10)<|aw h (tR a0.Label) fun r11 h=>o9 (decide_eq_false h10)<|aw h (lP a0 w3_1 (!r11) (decide (0<(a0.Label.length:Int))) [(.b (!r11)),(.b r11),(.l 74 (a0.Label.map aA)),(.p ⟨0,1⟩ 5),(.b (decide (0<(a0.Label.length:Int)))),(.b (decide (0<(a0.Label.length:Int)))),(.b (decide (0<(a0.Label.length:Int)))),(I (a0.Label.length:Int)),(.l 74 (a0.Label.map aA)),(.p ⟨0,1⟩ 5),(.b (!a0.Given)),(.b (!a0.Given)),(.b a0.Given),(.p ⟨0,1⟩ 4)]) fun x13 h=>L h))) (fun h8 h=>ai (g0 (congrArg not h8))<|ai (g0 (congrArg not h8))<|ai (g0 (congrArg not h8))<|ai (g0 (congrArg not h8))<|ai (g0 (congrArg not h8))<|ai (congrArg not h8)<|ai ht<|ai ht<|ai ht<|ai ht<|ai tt<|aw h (lP a0 w3_1 true true [.sk,.sk,.sk,.sk,(.b true),.sk,.sk,.sk,.sk,.sk,.sk,.sk,.sk,.sk]) fun x9 h=>L h)
def iJ(w3_1:Bool):Option Bool:=
 (qF a0 w3_1).bind fun (x8:Bool)=>
 if x8=true then
  some false
 else
  (eo a0.Params).bind fun (r11:Bool)=>
  if r11=true then
   some false
  else
   (pS a0.Body).bind fun (r14:Bool)=>
   some r14
abbrev Cm(a0:aE)(w3_1:Bool)(x:Bool):aK×St:=(.ret,⟨[(2,(.b x))],[],H0⟩)
theorem lQ(w3_1:Bool)(x:Bool)(h:iJ a0 w3_1=some x):run G Ω0 E0 L2 ⟨[(1,(.p ⟨0,1⟩ 0)),(3,(.b w3_1))],[(1,(ak a0))],H0⟩=some (Cm a0 w3_1 x):=
 fP (bt<|.jb (some 43) 41<|.ex fun (x8:Bool)=>ao (.jn ⟨[(1,(.p ⟨0,1⟩ 0)),(84,(.b x8))],[(1,(ak a0))],H0⟩)<|oN (bt<|xB fun r11=>.or (xn<|.nil) (dD<|xB fun r14=>bt<|.nil))) fun L=>ai (rfl:Z0)<|aw h (AH a0 w3_1) fun x8 h=>aJ h (fun h10 h=>ai h10<|L h) (fun h10 h=>fO h10<|aw h (lZ a0.Params) fun r11 h=>aJ h (fun h13 h=>ru (congrArg not h13)<|L h) (fun h13 h=>fH (congrArg not h13)<|aw h (tT a0.Body) fun r14 h=>ai (congrArg not h13)<|L h))
abbrev GU(a0:aE)(r:Bool):aZ×HP:=(.ret (.b r),H0)
def qW:Option Bool:=
 (qE a0).bind fun (x1:Bool)=>
 if x1=true then
  some false
 else
  if (a0.Kind==4)=true then
   (mU a0 (a0.Kind==4)).bind fun (x5:(Bool⊕Bool))=>match x5 with
   | .inl ya_6=>
    (iJ a0 ya_6).bind fun (x8:Bool)=>
    some x8
   | .inr yb_6=>
    (iJ a0 a0.Given).bind fun (x8:Bool)=>
    some x8
  else
   (mU a0 (a0.Kind==5)).bind fun (x5:(Bool⊕Bool))=>match x5 with
   | .inl ya_6=>
    (iJ a0 ya_6).bind fun (x8:Bool)=>
    some x8
   | .inr yb_6=>
    (iJ a0 a0.Given).bind fun (x8:Bool)=>
    some x8
theorem Cn(r:Bool)(h:qW a0=some r):call G Ω0 E0 25 [(.a (ak a0))] H0=some (GU a0 r):=
 aH Z8 (.jb (some 5) 22<|.ex fun (x1:Bool)=>ao (.jn ⟨[(1,(.p ⟨0,1⟩ 0)),(27,(.b x1))],[(1,(ak a0))],H0⟩)<|oN (cu<|.or (bt<|.fb<|.or (.ex fun (ya_6:Bool)=>ao (.fr .nrm ⟨[(1,(.p ⟨0,1⟩ 0)),(3,(.b ya_6))],[(1,(ak a0))],H0⟩)<|.fb<|.ex fun (x8:Bool)=>ao (.fr .ret ⟨[(2,(.b x8))],[],H0⟩)<|.nil) (.ex fun (yb_6:Bool)=>ao (.fr .nrm ⟨[(1,(.p ⟨0,1⟩ 0)),(3,(.b a0.Given)),(35,(.b yb_6))],[(1,(ak a0))],H0⟩)<|.fb<|.ex fun (x8:Bool)=>ao (.fr .ret ⟨[(2,(.b x8))],[],H0⟩)<|.nil)) (bf<|.fb<|.or (.ex fun (ya_6:Bool)=>ao (.fr .nrm ⟨[(1,(.p ⟨0,1⟩ 0)),(3,(.b ya_6))],[(1,(ak a0))],H0⟩)<|.fb<|.ex fun (x8:Bool)=>ao (.fr .ret ⟨[(2,(.b x8))],[],H0⟩)<|.nil) (.ex fun (yb_6:Bool)=>ao (.fr .nrm ⟨[(1,(.p ⟨0,1⟩ 0)),(3,(.b a0.Given)),(35,(.b yb_6))],[(1,(ak a0))],H0⟩)<|.fb<|.ex fun (x8:Bool)=>ao (.fr .ret ⟨[(2,(.b x8))],[],H0⟩)<|.nil)))) fun L=>ai tt<|aw h (AG a0) fun x1 h=>aJ h (fun h3 h=>ai h3<|L h) (fun h3 h=>ai h3<|ai (rfl:Z0)<|ai (rfl:Z0)<|aJ h (fun h4 h=>ai h4<|bW h (tU a0 (a0.Kind==4)) (fun ya_6 h=>aw h (lQ a0 ya_6) fun x8 h=>L h) (fun yb_6 h=>aw h (lQ a0 a0.Given) fun x8 h=>L h)) (fun h4 h=>ai h4<|bW h (tU a0 (a0.Kind==5)) (fun ya_6 h=>aw h (lQ a0 ya_6) fun x8 h=>L h) (fun yb_6 h=>aw h (lQ a0 a0.Given) fun x8 h=>L h)))
abbrev Co(a0:aE)(r:Bool):aZ×HP:=(.ret (.b r),H0)
def mV:Option Bool:=
 (qW a0).bind fun (r1:Bool)=>
 some (!r1)
theorem yG(r:Bool)(h:mV a0=some r):call G Ω0 E0 24 [(.a (ak a0))] H0=some (Co a0 r):=
 aH Z7 (bt<|xB fun r1=>.nil) fun L=>od<|aw h (Cn a0) fun r1 h=>L h
end
section
variable (a0:(List aE))
def hO(v0_8:Nat):Option (Nat⊕(Nat⊕(Nat×Bool))):=
 if (v0_8:Int)<(a0.length:Int) then
  (a0[v0_8]?).bind fun (y2:aE)=>
  (mV y2).bind fun (r4:Bool)=>
  if r4=true then
   some (.inr (.inl v0_8))
  else
   if IntKind.i64.wrap ((v0_8:Int)+1)=((v0_8+1:Nat):Int) then
    some (.inl (v0_8+1))
   else none
 else
  some (.inr (.inr (v0_8,decide ((v0_8:Int)<(a0.length:Int)))))
abbrev n4(v:Nat):St:=⟨[(0,(.l 46 (a0.map au))),(1,(.f 24 [])),(7,(I (a0.length:Int))),(8,(I (v:Int)))],[],H0⟩
abbrev n5(x:(Nat⊕(Nat×Bool))):aK×St:=match x with | .inl z1=>(.ret,⟨[(4,(I (z1:Int)))],[],H0⟩) | .inr (z1,z2)=>((.ex 0),⟨[(0,(.l 46 (a0.map au))),(1,(.f 24 [])),(7,(I (a0.length:Int))),(8,(I (z1:Int))),(9,(.b z2))],[],H0⟩)
theorem mW(v0_8:Nat)(o:Nat⊕(Nat⊕(Nat×Bool)))(h:hO a0 v0_8=some o):bH E0 Ma (n4 a0) (n5 a0) v0_8 o:=
 bV (.or (bt<|ao (.n v0_8)<|.ex fun (y2:aE)=>ao (.v (.a (ak y2)))<|xB fun r4=>oN (ao (.i ((v0_8+1:Nat):Int))<|.nil)) (bf<|.nil)) fun L=>bu h (fun h1 h=>ai (decide_eq_true h1)<|ai (rI v0_8)<|br h fun y2 h3 h=>ai (cj au h3)<|aw h (yG y2) fun r4 h=>aJ h (fun h6 h=>ai h6<|L h) (fun h6 h=>ai h6<|aj h fun w7 h=>ai w7<|L h)) (fun h1 h=>ai (decide_eq_false h1)<|L h)
abbrev oV(a0:(List aE))(r:Int):aZ×HP:=(.ret (I r),H0)
def iZ:Option Int:=
 (lp (fun v=>hO a0 v) 0).bind fun (x1:(Nat⊕(Nat×Bool)))=>match x1 with
 | .inl ya_2=>
  some (ya_2:Int)
 | .inr yb_2=>
  some (-1)
theorem mX(r:Int)(h:iZ a0=some r):call G Ω0 E0 53 [(.l 46 (a0.map au)),(.f 24 [])] H0=some (oV a0 r):=
 aH G53 (ao (.i (a0.length:Int))<|.or (.ex fun (ya_2:Nat)=>ao (.lp .ret ⟨[(4,(I (ya_2:Int)))],[],H0⟩)<|.nil) (.ex fun (yb_2:(Nat×Bool))=>ao (.lp (.ex 0) ⟨[(0,(.l 46 (a0.map au))),(1,(.f 24 [])),(7,(I (a0.length:Int))),(8,(I (yb_2.1:Int))),(9,(.b yb_2.2))],[],H0⟩)<|.nil)) fun L=>ai (aO au a0)<|bW h (eH (mW a0) 0) (fun ya_2 h=>L h) (fun yb_2 h=>L h)
abbrev mY(a0:(List aE))(r:Bool):aZ×HP:=(.ret (.b r),H0)
def ed:Option Bool:=
 (iZ a0).bind fun (r1:Int)=>
 some (decide (0≤r1))
theorem lG(r:Bool)(h:ed a0=some r):call G Ω0 E0 23 [(.l 46 (a0.map au)),(.f 24 [])] H0=some (mY a0 r):=
 aH Z6 (xI fun r1=>.nil) fun L=>aw h (mX a0) fun r1 h=>L h
end
section
variable (a0:Tree)
abbrev Fq(a0:Tree)(r:Int):aZ×HP:=(.ret (I r),H0)
def pT:Option Int:=
 (pO a0).bind fun (r1:Bool)=>
 if r1=true then
  some 2
 else
  (ed a0.Decls).bind fun (r4:Bool)=>
  if r4=true then
   some 1
  else
   (pS a0.Main).bind fun (r7:Bool)=>
   if r7=true then
    some 0
   else
    some 1
theorem AI(r:Int)(h:pT a0=some r):call G Ω0 E0 8 [(.a [(.l 46 (a0.Decls.map au)),(.l 68 (a0.Main.map ab))])] H0=some (Fq a0 r):=
 aH G8 (bt<|xB fun r1=>oN (bt<|xB fun r4=>.or (E8<|.nil) (dD<|xB fun r7=>jG<|.or (bf<|.nil) (bt<|.nil)))) fun L=>od<|aw h (Ar a0) fun r1 h=>aJ h (fun h3 h=>ai h3<|L h) (fun h3 h=>fO h3<|aw h (lG a0.Decls) fun r4 h=>aJ h (fun h6 h=>E2 h6<|L h) (fun h6 h=>qu h6<|aw h (tT a0.Main) fun r7 h=>o9 h6<|aJ h (fun h9 h=>ai (congrArg not h9)<|L h) (fun h9 h=>ai (congrArg not h9)<|L h)))
end
end
end Go.Proofs.YtogbakbmphadfaaGreatDoor.A
