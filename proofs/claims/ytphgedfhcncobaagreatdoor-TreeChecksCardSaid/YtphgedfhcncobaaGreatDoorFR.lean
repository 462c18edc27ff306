/- Functions of the program as plain functions, by program. -/
import Derived.Test.YtphgedfhcncobaaGreatDoorTypes
import Derived.Test.YtphgedfhcncobaaGreatDoorLift
import Derived.Test.YtphgedfhcncobaaGreatDoorFE
set_option maxRecDepth 100000
set_option linter.unusedSectionVars false
set_option linter.unusedVariables false
set_option linter.unusedSimpArgs false
set_option linter.constructorNameAsVariable false
namespace Go.Proofs.YtphgedfhcncobaaGreatDoor.A
open Go
noncomputable section
variable [Lp]
section
variable (a0:ad)(a1:Int)
abbrev BT(a0:ad)(a1:Int)(r:Int):aW×HP:=(.ret (I r),H0)
abbrev q3(r:Int):Prop:=call G Ω0 E0 33 [(.a (aT a0)),(I a1)] H0=some (BT a0 a1 r)
end
structure q4 where
 f_R_partsOf:ad→Int→Option Int
structure pK(R:q4):Prop where
 f_R_partsOf:∀ (a0:ad)(a1:Int)(r:Int),R.f_R_partsOf a0 a1=some r→q3 a0 a1 r
section
variable (R:q4)(a0:ad)(a1:Int)
def dV(v0_5:Int)(v0_6:Nat):Option ((Int×Nat)⊕(Bool×Int×Nat)):=
 if (v0_6:Int)<(a0.Args.length:Int) then
  if v0_5≤a1 then
   (a0.Args[v0_6]?).bind fun (y3:ad)=>
   if IntKind.i64.wrap (a1 - v0_5)=a1 - v0_5 then
    (R.f_R_partsOf y3 (a1 - v0_5)).bind fun (r6:Int)=>
    if IntKind.i64.wrap (v0_5+r6)=v0_5+r6 then
     if IntKind.i64.wrap ((v0_6:Int)+1)=((v0_6+1:Nat):Int) then
      some (.inl (v0_5+r6,v0_6+1))
     else none
    else none
   else none
  else
   some (.inr (decide (v0_5≤a1),v0_5,v0_6))
 else
  some (.inr (false,v0_5,v0_6))
abbrev zp(v:(Int×Nat)):St:=⟨[(1,(I a1)),(2,(.p ⟨0,2⟩ 0)),(5,(I v.1)),(6,(I (v.2:Int)))],[(2,(aT a0))],H0⟩
abbrev zq(x:(Bool×Int×Nat)):aE×St:=((.ex 0),⟨[(1,(I a1)),(2,(.p ⟨0,2⟩ 0)),(5,(I x.2.1)),(6,(I (x.2.2:Int))),(16,(.b x.1))],[(2,(aT a0))],H0⟩)
theorem xS(hR:pK R)(a0:ad)(a1:Int)(v0_5:Int)(v0_6:Nat)(o:(Int×Nat)⊕(Bool×Int×Nat))(h:dV R a0 a1 v0_5 v0_6=some o):bF E0 F0 (zp a0 a1) (zq a0 a1) (v0_5,v0_6) o:=
 bP (bt<|ao (.i (a0.Args.length:Int))<|.or (cJ<|.or (b9<|ao (.n v0_6)<|.ex fun (y3:ad)=>ao (.v (.a (aT y3)))<|ao (.i (a1 - v0_5))<|xI fun r6=>ao (.i (v0_5+r6))<|ao (.i ((v0_6+1:Nat):Int))<|.nil) (bf<|.nil)) (C3<|.nil)) fun L=>ai (rfl:Z0)<|ai (aK aj a0.Args)<|bq h (fun h1 h=>qP (decide_eq_true h1)<|bq h (fun h2 h=>lK (decide_eq_true h2)<|ai (rI v0_6)<|cu h fun y3 h4 h=>ai (ej aj h4 (cD _))<|aY h fun w5 h=>ai w5<|ar h (hR.f_R_partsOf y3 (a1 - v0_5)) fun r6 h=>aY h fun w8 h=>ai w8<|aY h fun w9 h=>ai w9<|L h) (fun h2 h=>ai (decide_eq_false h2)<|L h)) (fun h1 h=>ai (g1 (decide_eq_false h1))<|ai (g1 (decide_eq_false h1))<|ai (g1 (decide_eq_false h1))<|ai (decide_eq_false h1)<|ai ff<|L h)
def mZ:Option Int:=
 (lp (fun v=>dV R a0 a1 v.1 v.2) (1,0)).bind fun (x1:(Bool×Int×Nat))=>
 some x1.2.1
theorem vZ(hR:pK R)(a0:ad)(a1:Int)(r:Int)(h:mZ R a0 a1=some r):q3 a0 a1 r:=
 aG QI (.ex fun (x1:(Bool×Int×Nat))=>ao (.lp (.ex 0) ⟨[(1,(I a1)),(2,(.p ⟨0,2⟩ 0)),(5,(I x1.2.1)),(6,(I (x1.2.2:Int))),(16,(.b x1.1))],[(2,(aT a0))],H0⟩)<|.nil) fun L=>ai tt<|ar h (e5 (fun v=>xS R hR a0 a1 v.1 v.2) (1,0)) fun x1 h=>L h
def fB:Nat→q4
 | 0=>⟨fun z0 z1=>none⟩
 | n+1=>⟨mZ (fB n)⟩
theorem tq:∀ n,pK (fB n)
 | 0=>⟨fun _ _ r h=>(by cases h)⟩
 | n+1=>⟨fun a0 a1 r h=>vZ _ (tq n) a0 a1 r h⟩
def lT:Option Int:=ev fun n=>(fB n).f_R_partsOf a0 a1
theorem nS(r:Int)(h:lT a0 a1=some r):q3 a0 a1 r:=by
 obtain ⟨n,hn⟩:=mq h
 exact (tq n).f_R_partsOf a0 a1 r hn
end
section
variable (a0:(List aa))(a1:Int)
abbrev xT(a0:(List aa))(a1:Int)(r:Int):aW×HP:=(.ret (I r),H0)
abbrev nT(r:Int):Prop:=call G Ω0 E0 32 [(.l 36 (a0.map ab)),(I a1)] H0=some (xT a0 a1 r)
end
structure kH where
 f_R_countStmts:(List aa)→Int→Option Int
structure gZ(R:kH):Prop where
 f_R_countStmts:∀ (a0:(List aa))(a1:Int)(r:Int),R.f_R_countStmts a0 a1=some r→nT a0 a1 r
section
variable (R:kH)(a0:(List aa))(a1:Int)
def cP(R:kH)(a0:(List aa))(a1:Int)(v0_5:Int)(v0_6:Nat)(y5:aa)(v1_8:Nat):Option (Nat⊕(Unit⊕(Nat×Bool))):=
 if (v1_8:Int)<(y5.Args.length:Int) then
  (y5.Args[v1_8]?).bind fun (y12:ad)=>
  (lT y12 15).bind fun (r14:Int)=>
  if 15<r14 then
   some (.inr (.inl ()))
  else
   if IntKind.i64.wrap ((v1_8:Int)+1)=((v1_8+1:Nat):Int) then
    some (.inl (v1_8+1))
   else none
 else
  some (.inr (.inr (v1_8,decide ((v1_8:Int)<(y5.Args.length:Int)))))
abbrev uU(v0_5:Int)(v0_6:Nat)(y5:aa)(v:Nat):St:=⟨[(0,(.l 36 (a0.map ab))),(1,(I a1)),(5,(I v0_5)),(6,(I (v0_6:Int))),(7,(.p ⟨0,7⟩ 0)),(8,(I (v:Int)))],[(7,(aO y5))],H0⟩
abbrev uV(v0_5:Int)(v0_6:Nat)(y5:aa)(x:(Unit⊕(Nat×Bool))):aE×St:=match x with | .inl ()=>(.ret,⟨[(4,(I 51))],[],H0⟩) | .inr (z1,z2)=>((.ex 2),⟨[(0,(.l 36 (a0.map ab))),(1,(I a1)),(5,(I v0_5)),(6,(I (v0_6:Int))),(7,(.p ⟨0,7⟩ 0)),(8,(I (z1:Int))),(44,(.b z2))],[(7,(aO y5))],H0⟩)
theorem uk(hR:gZ R)(a0:(List aa))(a1:Int)(v0_5:Int)(v0_6:Nat)(y5:aa)(v1_8:Nat)(o:Nat⊕(Unit⊕(Nat×Bool)))(h:cP R a0 a1 v0_5 v0_6 y5 v1_8=some o):bF E0 FX (uU a0 a1 v0_5 v0_6 y5) (uV a0 a1 v0_5 v0_6 y5) v1_8 o:=
 bP (bt<|ao (.i (y5.Args.length:Int))<|.or (b9<|ao (.n v1_8)<|.ex fun (y12:ad)=>ao (.v (.a (aT y12)))<|xI fun r14=>oN (ao (.i ((v1_8+1:Nat):Int))<|.nil)) (bf<|.nil)) fun L=>ai (rfl:Z0)<|ai (aK aj y5.Args)<|bq h (fun h11 h=>lK (decide_eq_true h11)<|ai (rI v1_8)<|cu h fun y12 h13 h=>ai (ej aj h13 (cD _))<|ar h (nS y12 15) fun r14 h=>bq h (fun h16 h=>ai (decide_eq_true h16)<|L h) (fun h16 h=>ai (decide_eq_false h16)<|aY h fun w17 h=>ai w17<|L h)) (fun h11 h=>ai (decide_eq_false h11)<|L h)
def bH(v0_5:Int)(v0_6:Nat):Option ((Int×Nat)⊕(Unit⊕(Bool×Int×Nat))):=
 if (v0_6:Int)<(a0.length:Int) then
  if v0_5≤50 then
   (a0[v0_6]?).bind fun (y5:aa)=>
   (lT y5.Expr 15).bind fun (r7:Int)=>
   if 15<r7 then
    some (.inr (.inl ()))
   else
    if 4<(y5.Args.length:Int) then
     some (.inr (.inl ()))
    else
     (lp (fun v=>cP R a0 a1 v0_5 v0_6 y5 v) 0).bind fun (x11:(Unit⊕(Nat×Bool)))=>match x11 with
     | .inl ya_12=>
      some (.inr (.inl ()))
     | .inr yb_12=>
      if IntKind.i64.wrap (a1+1)=a1+1 then
       (R.f_R_countStmts y5.Then (a1+1)).bind fun (r15:Int)=>
       if IntKind.i64.wrap (1+r15)=1+r15 then
        (R.f_R_countStmts y5.Else (a1+1)).bind fun (r18:Int)=>
        if IntKind.i64.wrap ((1+r15)+r18)=(1+r15)+r18 then
         if IntKind.i64.wrap (v0_5+((1+r15)+r18))=v0_5+((1+r15)+r18) then
          if IntKind.i64.wrap ((v0_6:Int)+1)=((v0_6+1:Nat):Int) then
           some (.inl (v0_5+((1+r15)+r18),v0_6+1))
          else none
         else none
        else none
       else none
      else none
  else
   some (.inr (.inr (decide (v0_5≤50),v0_5,v0_6)))
 else
  some (.inr (.inr (false,v0_5,v0_6)))
abbrev uW(v:(Int×Nat)):St:=⟨[(0,(.l 36 (a0.map ab))),(1,(I a1)),(5,(I v.1)),(6,(I (v.2:Int)))],[],H0⟩
abbrev uX(x:(Unit⊕(Bool×Int×Nat))):aE×St:=match x with | .inl ()=>(.ret,⟨[(4,(I 51))],[],H0⟩) | .inr (zb1,z1,z2)=>((.ex 0),⟨[(0,(.l 36 (a0.map ab))),(1,(I a1)),(5,(I z1)),(6,(I (z2:Int))),(23,(.b zb1))],[],H0⟩)
theorem um(hR:gZ R)(a0:(List aa))(a1:Int)(v0_5:Int)(v0_6:Nat)(o:(Int×Nat)⊕(Unit⊕(Bool×Int×Nat)))(h:bH R a0 a1 v0_5 v0_6=some o):bF E0 FY (uW a0 a1) (uX a0 a1) (v0_5,v0_6) o:=
 bP (ao (.i (a0.length:Int))<|.or (gu<|.or (bt<|ao (.n v0_6)<|.ex fun (y5:aa)=>ao (.v (.a (aO y5)))<|gu<|xI fun r7=>.or (As<|.nil) (cJ<|ao (.i (y5.Args.length:Int))<|eQ<|oN (.or (.ex fun (ya_12:Unit)=>ao (.lp .ret ⟨[(4,(I 51))],[],H0⟩)<|.nil) (.ex fun (yb_12:(Nat×Bool))=>ao (.lp (.ex 2) ⟨[(0,(.l 36 (a0.map ab))),(1,(I a1)),(5,(I v0_5)),(6,(I (v0_6:Int))),(7,(.p ⟨0,7⟩ 0)),(8,(I (yb_12.1:Int))),(44,(.b yb_12.2))],[(7,(aO y5))],H0⟩)<|bt<|ao (.i (a1+1))<|xI fun r15=>ao (.i (1+r15))<|bt<|ao (.i (a1+1))<|xI fun r18=>ao (.i ((1+r15)+r18))<|ao (.i (v0_5+((1+r15)+r18)))<|ao (.i ((v0_6+1:Nat):Int))<|.nil)))) (bf<|.nil)) (ti<|.nil)) fun L=>ai (aK ab a0)<|bq h (fun h3 h=>tf (decide_eq_true h3)<|bq h (fun h4 h=>ai (decide_eq_true h4)<|ai (rI v0_6)<|cu h fun y5 h6 h=>ai (ej ab h6 (dN _))<|ai tt<|ai ff<|ai (rfl:Z0)<|ai tt<|ai (rfl:Z0)<|ai (rfl:Z0)<|ar h (nS y5.Expr 15) fun r7 h=>bq h (fun h9 h=>DX (decide_eq_true h9)<|L h) (fun h9 h=>rh (decide_eq_false h9)<|ai (aK aj y5.Args)<|iN (decide_eq_false h9)<|bq h (fun h10 h=>ai (decide_eq_true h10)<|L h) (fun h10 h=>ai (decide_eq_false h10)<|bD h (e5 (uk R hR a0 a1 v0_5 v0_6 y5) 0) (fun ya_12 h=>L h) (fun yb_12 h=>ai tt<|ai tt<|ai tt<|ai (rfl:Z0)<|ai tt<|ai tt<|aY h fun w14 h=>ai w14<|ai tt<|ar h (hR.f_R_countStmts y5.Then (a1+1)) fun r15 h=>ai tt<|aY h fun w17 h=>ai w17<|ai tt<|ai tt<|ai (rfl:Z0)<|ai tt<|ai tt<|ai w14<|ai tt<|ar h (hR.f_R_countStmts y5.Else (a1+1)) fun r18 h=>ai tt<|aY h fun w20 h=>ai w20<|ai tt<|aY h fun w21 h=>ai w21<|aY h fun w22 h=>ai w22<|L h)))) (fun h4 h=>ai (decide_eq_false h4)<|L h)) (fun h3 h=>Gh (decide_eq_false h3)<|L h)
def iy:Option (Unit⊕Int):=
 (lp (fun v=>bH R a0 a1 v.1 v.2) (0,0)).bind fun (x3:(Unit⊕(Bool×Int×Nat)))=>match x3 with
 | .inl ya_4=>
  some (.inl ())
 | .inr yb_4=>
  if 51<yb_4.2.1 then
   some (.inl ())
  else
   some (.inr yb_4.2.1)
abbrev uo(a0:(List aa))(a1:Int)(x:(Unit⊕Int)):aE×St:=match x with | .inl ()=>(.ret,⟨[(4,(I 51))],[],H0⟩) | .inr z1=>(.ret,⟨[(4,(I z1))],[],H0⟩)
theorem oz(hR:gZ R)(a0:(List aa))(a1:Int)(x:(Unit⊕Int))(h:iy R a0 a1=some x):run G Ω0 E0 FZ ⟨[(0,(.l 36 (a0.map ab))),(1,(I a1))],[],H0⟩=some (uo a0 a1 x):=
 lX (.or (.ex fun (ya_4:Unit)=>ao (.lp .ret ⟨[(4,(I 51))],[],H0⟩)<|.nil) (.ex fun (yb_4:(Bool×Int×Nat))=>ao (.lp (.ex 0) ⟨[(0,(.l 36 (a0.map ab))),(1,(I a1)),(5,(I yb_4.2.1)),(6,(I (yb_4.2.2:Int))),(23,(.b yb_4.1))],[],H0⟩)<|oN (.nil))) fun L=>bD h (e5 (fun v=>um R hR a0 a1 v.1 v.2) (0,0)) (fun ya_4 h=>L h) (fun yb_4 h=>bq h (fun h6 h=>ai (decide_eq_true h6)<|L h) (fun h6 h=>ai (decide_eq_false h6)<|L h))
def jF:Option Int:=
 if 0<(a0.length:Int) then
  if 6<a1 then
   some 51
  else
   (iy R a0 a1).bind fun (x3:(Unit⊕Int))=>match x3 with
   | .inl ya_4=>
    some 51
   | .inr yb_4=>
    some yb_4
 else
  (iy R a0 a1).bind fun (x2:(Unit⊕Int))=>match x2 with
  | .inl ya_3=>
   some 51
  | .inr yb_3=>
   some yb_3
theorem tr(hR:gZ R)(a0:(List aa))(a1:Int)(r:Int)(h:jF R a0 a1=some r):nT a0 a1 r:=
 aG QH (ao (.i (a0.length:Int))<|.or (gu<|oN (.fb<|.or (.ex fun (ya_4:Unit)=>ao (.fr .ret ⟨[(4,(I 51))],[],H0⟩)<|.nil) (.ex fun (yb_4:Int)=>ao (.fr .ret ⟨[(4,(I yb_4))],[],H0⟩)<|.nil))) (ti<|.fb<|.or (.ex fun (ya_3:Unit)=>ao (.fr .ret ⟨[(4,(I 51))],[],H0⟩)<|.nil) (.ex fun (yb_3:Int)=>ao (.fr .ret ⟨[(4,(I yb_3))],[],H0⟩)<|.nil))) fun L=>ai (aK ab a0)<|bq h (fun h1 h=>tf (decide_eq_true h1)<|bq h (fun h2 h=>ai (decide_eq_true h2)<|L h) (fun h2 h=>ai (decide_eq_false h2)<|bD h (oz R hR a0 a1) (fun ya_4 h=>L h) (fun yb_4 h=>L h))) (fun h1 h=>Gh (decide_eq_false h1)<|bD h (oz R hR a0 a1) (fun ya_3 h=>L h) (fun yb_3 h=>L h))
def bI:Nat→kH
 | 0=>⟨fun z0 z1=>none⟩
 | n+1=>⟨jF (bI n)⟩
theorem qv:∀ n,gZ (bI n)
 | 0=>⟨fun _ _ r h=>(by cases h)⟩
 | n+1=>⟨fun a0 a1 r h=>tr _ (qv n) a0 a1 r h⟩
def kJ:Option Int:=ev fun n=>(bI n).f_R_countStmts a0 a1
theorem oU(r:Int)(h:kJ a0 a1=some r):nT a0 a1 r:=by
 obtain ⟨n,hn⟩:=mq h
 exact (qv n).f_R_countStmts a0 a1 r hn
end
section
variable (a0:Tree)
def fN(a0:Tree)(v0_3:Int)(v0_4:Nat)(y5:aJ)(v1_6:Nat):Option (Nat⊕(Unit⊕(Nat×Bool))):=
 if (v1_6:Int)<(y5.Label.length:Int) then
  (y5.Label[v1_6]?).bind fun (y13:aS)=>
  if 6<(y13.Names.length:Int) then
   some (.inr (.inl ()))
  else
   if IntKind.i64.wrap ((v1_6:Int)+1)=((v1_6+1:Nat):Int) then
    some (.inl (v1_6+1))
   else none
 else
  some (.inr (.inr (v1_6,decide ((v1_6:Int)<(y5.Label.length:Int)))))
abbrev xU(v0_3:Int)(v0_4:Nat)(y5:aJ)(v:Nat):St:=⟨[(1,(.p ⟨0,1⟩ 0)),(3,(I v0_3)),(4,(I (v0_4:Int))),(5,(.p ⟨0,5⟩ 0)),(6,(I (v:Int)))],[(1,[(.l 41 (a0.Decls.map ay)),(.l 36 (a0.Main.map ab))]),(5,(aq y5))],H0⟩
abbrev xV(v0_3:Int)(v0_4:Nat)(y5:aJ)(x:(Unit⊕(Nat×Bool))):aE×St:=match x with | .inl ()=>(.ret,⟨[(2,(.b true))],[],H0⟩) | .inr (z1,z2)=>((.ex 2),⟨[(1,(.p ⟨0,1⟩ 0)),(3,(I v0_3)),(4,(I (v0_4:Int))),(5,(.p ⟨0,5⟩ 0)),(6,(I (z1:Int))),(46,(.b z2))],[(1,[(.l 41 (a0.Decls.map ay)),(.l 36 (a0.Main.map ab))]),(5,(aq y5))],H0⟩)
theorem v7(v0_3:Int)(v0_4:Nat)(y5:aJ)(v1_6:Nat)(o:Nat⊕(Unit⊕(Nat×Bool)))(h:fN a0 v0_3 v0_4 y5 v1_6=some o):bF E0 FI (xU a0 v0_3 v0_4 y5) (xV a0 v0_3 v0_4 y5) v1_6 o:=
 bP (bt<|ao (.i (y5.Label.length:Int))<|.or (b9<|ao (.n v1_6)<|.ex fun (y13:aS)=>ao (.v (.a (fu y13)))<|ao (.i (y13.Names.length:Int))<|oN (ao (.i ((v1_6+1:Nat):Int))<|.nil)) (bf<|.nil)) fun L=>ai (rfl:Z0)<|ai (aK aL y5.Label)<|bq h (fun h12 h=>lK (decide_eq_true h12)<|ai (rI v1_6)<|cu h fun y13 h14 h=>ai (cT aL h14)<|ai (aK AV.s y13.Names)<|bq h (fun h15 h=>ai (decide_eq_true h15)<|L h) (fun h15 h=>ai (decide_eq_false h15)<|aY h fun w16 h=>ai w16<|L h)) (fun h12 h=>ai (decide_eq_false h12)<|L h)
def da(v0_3:Int)(v0_4:Nat):Option ((Int×Nat)⊕(Unit⊕(Int×Nat×Bool))):=
 if (v0_4:Int)<(a0.Decls.length:Int) then
  (a0.Decls[v0_4]?).bind fun (y5:aJ)=>
  if 4<(y5.Label.length:Int) then
   some (.inr (.inl ()))
  else
   if 4<(y5.Params.length:Int) then
    some (.inr (.inl ()))
   else
    (lT y5.Result 15).bind fun (r9:Int)=>
    if 15<r9 then
     some (.inr (.inl ()))
    else
     (lp (fun v=>fN a0 v0_3 v0_4 y5 v) 0).bind fun (x12:(Unit⊕(Nat×Bool)))=>match x12 with
     | .inl ya_13=>
      some (.inr (.inl ()))
     | .inr yb_13=>
      (kJ y5.Body 1).bind fun (r15:Int)=>
      if IntKind.i64.wrap (v0_3+r15)=v0_3+r15 then
       if IntKind.i64.wrap ((v0_4:Int)+1)=((v0_4+1:Nat):Int) then
        some (.inl (v0_3+r15,v0_4+1))
       else none
      else none
 else
  some (.inr (.inr (v0_3,v0_4,decide ((v0_4:Int)<(a0.Decls.length:Int)))))
abbrev xW(v:(Int×Nat)):St:=⟨[(1,(.p ⟨0,1⟩ 0)),(3,(I v.1)),(4,(I (v.2:Int)))],[(1,[(.l 41 (a0.Decls.map ay)),(.l 36 (a0.Main.map ab))])],H0⟩
abbrev xX(x:(Unit⊕(Int×Nat×Bool))):aE×St:=match x with | .inl ()=>(.ret,⟨[(2,(.b true))],[],H0⟩) | .inr (z1,z2,z3)=>((.ex 0),⟨[(1,(.p ⟨0,1⟩ 0)),(3,(I z1)),(4,(I (z2:Int))),(18,(.b z3))],[(1,[(.l 41 (a0.Decls.map ay)),(.l 36 (a0.Main.map ab))])],H0⟩)
theorem v8(v0_3:Int)(v0_4:Nat)(o:(Int×Nat)⊕(Unit⊕(Int×Nat×Bool)))(h:da a0 v0_3 v0_4=some o):bF E0 FJ (xW a0) (xX a0) (v0_3,v0_4) o:=
 bP (bt<|ao (.i (a0.Decls.length:Int))<|.or (b9<|ao (.n v0_4)<|.ex fun (y5:aJ)=>ao (.v (.a (aq y5)))<|gu<|ao (.i (y5.Label.length:Int))<|.or (IZ<|.nil) (cJ<|ao (.i (y5.Params.length:Int))<|eQ<|.or (As<|.nil) (cJ<|xI fun r9=>eQ<|oN (.or (.ex fun (ya_13:Unit)=>ao (.lp .ret ⟨[(2,(.b true))],[],H0⟩)<|.nil) (.ex fun (yb_13:(Nat×Bool))=>ao (.lp (.ex 2) ⟨[(1,(.p ⟨0,1⟩ 0)),(3,(I v0_3)),(4,(I (v0_4:Int))),(5,(.p ⟨0,5⟩ 0)),(6,(I (yb_13.1:Int))),(46,(.b yb_13.2))],[(1,[(.l 41 (a0.Decls.map ay)),(.l 36 (a0.Main.map ab))]),(5,(aq y5))],H0⟩)<|bt<|xI fun r15=>ao (.i (v0_3+r15))<|ao (.i ((v0_4+1:Nat):Int))<|.nil))))) (bf<|.nil)) fun L=>ai (rfl:Z0)<|ai (aK ay a0.Decls)<|bq h (fun h4 h=>lK (decide_eq_true h4)<|ai (rI v0_4)<|cu h fun y5 h6 h=>ai (cT ay h6)<|ai tt<|ai ff<|ai (rfl:Z0)<|ai tt<|ai (rfl:Z0)<|ai (rfl:Z0)<|ai (aK aL y5.Label)<|bq h (fun h7 h=>ai (g0 (decide_eq_true h7))<|ai (g0 (decide_eq_true h7))<|ai (g0 (decide_eq_true h7))<|ai (g0 (decide_eq_true h7))<|ai (decide_eq_true h7)<|ai ht<|ai ht<|ai ht<|ai ht<|ai tt<|ai tt<|L h) (fun h7 h=>rh (decide_eq_false h7)<|ai (aK AV.s y5.Params)<|iN (decide_eq_false h7)<|bq h (fun h8 h=>DX (decide_eq_true h8)<|L h) (fun h8 h=>rh (decide_eq_false h8)<|ar h (nS y5.Result 15) fun r9 h=>iN (decide_eq_false h8)<|bq h (fun h11 h=>ai (decide_eq_true h11)<|L h) (fun h11 h=>ai (decide_eq_false h11)<|bD h (e5 (v7 a0 v0_3 v0_4 y5) 0) (fun ya_13 h=>L h) (fun yb_13 h=>ai (rfl:Z0)<|ar h (oU y5.Body 1) fun r15 h=>aY h fun w17 h=>ai w17<|aY h fun w18 h=>ai w18<|L h))))) (fun h4 h=>ai (decide_eq_false h4)<|L h)
abbrev AL(a0:Tree)(r:Bool):aW×HP:=(.ret (.b r),H0)
def nd:Option Bool:=
 if 30<(a0.Decls.length:Int) then
  some true
 else
  (kJ a0.Main 1).bind fun (r2:Int)=>
  (lp (fun v=>da a0 v.1 v.2) (r2,0)).bind fun (x4:(Unit⊕(Int×Nat×Bool)))=>match x4 with
  | .inl ya_5=>
   some true
  | .inr yb_5=>
   some (decide (50<yb_5.1))
theorem wa(r:Bool)(h:nd a0=some r):call G Ω0 E0 13 [(.a [(.l 41 (a0.Decls.map ay)),(.l 36 (a0.Main.map ab))])] H0=some (AL a0 r):=
 aG Qr (bt<|ao (.i (a0.Decls.length:Int))<|oN (bt<|xI fun r2=>.or (.ex fun (ya_5:Unit)=>ao (.lp .ret ⟨[(2,(.b true))],[],H0⟩)<|.nil) (.ex fun (yb_5:(Int×Nat×Bool))=>ao (.lp (.ex 0) ⟨[(1,(.p ⟨0,1⟩ 0)),(3,(I yb_5.1)),(4,(I (yb_5.2.1:Int))),(18,(.b yb_5.2.2))],[(1,[(.l 41 (a0.Decls.map ay)),(.l 36 (a0.Main.map ab))])],H0⟩)<|.nil))) fun L=>oS<|ai (aK ay a0.Decls)<|bq h (fun h1 h=>ai (decide_eq_true h1)<|L h) (fun h1 h=>lK (decide_eq_false h1)<|ar h (oU a0.Main 1) fun r2 h=>bD h (e5 (fun v=>v8 a0 v.1 v.2) (r2,0)) (fun ya_5 h=>L h) (fun yb_5 h=>L h))
end
section
variable (a0:Int)(a1:Int)(a2:Int)
abbrev BU(a0:Int)(a1:Int)(a2:Int)(r:Bool):aW×HP:=(.ret (.b r),H0)
def dv:Option Bool:=
 if a1≤a0 then
  some (decide (a0≤a2))
 else
  some false
theorem dC(r:Bool)(h:dv a0 a1 a2=some r):call G Ω0 E0 34 [(I a0),(I a1),(I a2)] H0=some (BU a0 a1 a2 r):=
 aG QJ (.or (cJ<|.nil) (ti<|.nil)) fun L=>bq h (fun h1 h=>qP (decide_eq_true h1)<|L h) (fun h1 h=>qP (decide_eq_false h1)<|L h)
abbrev AM(a0:Int)(r:Bool):aW×HP:=(.ret (.b r),H0)
def jU:Option Bool:=
 (dv (IntKind.i64.wrap a0) 97 122).bind fun (r1:Bool)=>
 some r1
theorem qw(r:Bool)(h:jU a0=some r):call G Ω0 E0 82 [(.i .u8 a0)] H0=some (AM a0 r):=
 aG Rb (ao (.i (IntKind.i64.wrap a0))<|xB fun r1=>.nil) fun L=>ai (rfl:IntKind.i64.wrap a0=IntKind.i64.wrap a0)<|ar h (dC (IntKind.i64.wrap a0) 97 122) fun r1 h=>L h
abbrev BV(a0:Int)(r:Bool):aW×HP:=(.ret (.b r),H0)
def jl:Option Bool:=
 (dv (IntKind.i64.wrap a0) 48 57).bind fun (r1:Bool)=>
 some r1
theorem nU(r:Bool)(h:jl a0=some r):call G Ω0 E0 83 [(.i .u8 a0)] H0=some (BV a0 r):=
 aG Rc (ao (.i (IntKind.i64.wrap a0))<|xB fun r1=>.nil) fun L=>ai (rfl:IntKind.i64.wrap a0=IntKind.i64.wrap a0)<|ar h (dC (IntKind.i64.wrap a0) 48 57) fun r1 h=>L h
end
section
variable (a0:(List UInt8))(a1:Int)(c3:UInt8)
def gG(v0_7:Nat):Option (Nat⊕(Bool×Nat)):=
 if IntKind.i64.wrap (a1+(v0_7:Int))=a1+(v0_7:Int) then
  if (a1+(v0_7:Int))<(a0.length:Int) then
   (gC (a1+(v0_7:Int))).bind fun (j10:Nat)=>
   (a0[j10]?).bind fun (sG:UInt8)=>
   (jU (sG.toNat:Int)).bind fun (r14:Bool)=>
   if r14=true then
    if IntKind.i64.wrap ((v0_7:Int)+1)=((v0_7+1:Nat):Int) then
     some (.inl (v0_7+1))
    else none
   else
    (jl (sG.toNat:Int)).bind fun (r17:Bool)=>
    if r17=true then
     if IntKind.i64.wrap ((v0_7:Int)+1)=((v0_7+1:Nat):Int) then
      some (.inl (v0_7+1))
     else none
    else
     some (.inr (r17,v0_7))
  else
   some (.inr (false,v0_7))
 else none
abbrev zr(v:Nat):St:=⟨[(0,(.s a0)),(1,(I a1)),(7,(I (v:Int)))],[],H0⟩
abbrev zt(x:(Bool×Nat)):aE×St:=((.ex 1),⟨[(0,(.s a0)),(1,(I a1)),(7,(I (x.2:Int))),(37,(.b x.1))],[],H0⟩)
theorem xY(v0_7:Nat)(o:Nat⊕(Bool×Nat))(h:gG a0 a1 v0_7=some o):bF E0 F8 (zr a0 a1) (zt a0 a1) v0_7 o:=
 bP (ao (.i (a1+(v0_7:Int)))<|ao (.i (a0.length:Int))<|.or (cJ<|ao (.i (a1+(v0_7:Int)))<|bt<|xN fun j10=>.ex fun (sG:UInt8)=>ao (.i (sG.toNat:Int))<|bt<|xB fun r14=>bt<|.or (bf<|bf<|bf<|bf<|bf<|bf<|bt<|bt<|bt<|bt<|ao (.i ((v0_7+1:Nat):Int))<|.nil) (cJ<|ao (.i (a1+(v0_7:Int)))<|bt<|ao (.n j10)<|ao (.i (sG.toNat:Int))<|bt<|xB fun r17=>bt<|bf<|bt<|.or (bt<|ao (.i ((v0_7+1:Nat):Int))<|.nil) (bf<|.nil))) (bf<|bf<|bf<|bf<|bf<|bf<|bf<|bf<|bf<|bf<|.nil)) fun L=>aY h fun w8 h=>ai w8<|ai (rfl:(a0.length:Int)=(a0.length:Int))<|bq h (fun h9 h=>uN (decide_eq_true h9)<|ai w8<|ai (g1 (decide_eq_true h9))<|mK h fun j10 h11 h=>ai h11<|cu h fun sG h13 h=>ai (congrArg (Option.map fun z:UInt8=>(z.toNat:Int)) h13)<|ai (g1 (decide_eq_true h9))<|ar h (qw (sG.toNat:Int)) fun r14 h=>ai (g1 (decide_eq_true h9))<|aA h (fun h16 h=>ai (g0 h16)<|ai (g0 h16)<|ai (g0 h16)<|ai (g0 h16)<|ai (g0 h16)<|ai (g0 h16)<|ai (g1 (decide_eq_true h9))<|ai h16<|ai (decide_eq_true h9)<|ai tt<|aY h fun w17 h=>ai w17<|L h) (fun h16 h=>ai (g0 h16)<|ai (g0 h16)<|ai (g0 h16)<|ai (g0 h16)<|ai w8<|ai (g0 h16)<|ai h11<|ai (congrArg (Option.map fun z:UInt8=>(z.toNat:Int)) h13)<|ai (g0 h16)<|ar h (nU (sG.toNat:Int)) fun r17 h=>ai (g1 (decide_eq_true h9))<|ai h16<|ai (decide_eq_true h9)<|aA h (fun h19 h=>ai h19<|aY h fun w20 h=>ai w20<|L h) (fun h19 h=>ai h19<|L h))) (fun h9 h=>ai (g1 (decide_eq_false h9))<|ai (g1 (decide_eq_false h9))<|ai (g1 (decide_eq_false h9))<|ai (g1 (decide_eq_false h9))<|ai (g1 (decide_eq_false h9))<|ai (g1 (decide_eq_false h9))<|ai (g1 (decide_eq_false h9))<|ai (g1 (decide_eq_false h9))<|ai (decide_eq_false h9)<|ai ff<|L h)
def gI(v1_7:Nat):Option (Nat⊕(Bool×Nat)):=
 if IntKind.i64.wrap (a1+(v1_7:Int))=a1+(v1_7:Int) then
  if (a1+(v1_7:Int))<(a0.length:Int) then
   (gC (a1+(v1_7:Int))).bind fun (j13:Nat)=>
   (a0[j13]?).bind fun (vA:UInt8)=>
   (jl (vA.toNat:Int)).bind fun (r17:Bool)=>
   if r17=true then
    if IntKind.i64.wrap ((v1_7:Int)+1)=((v1_7+1:Nat):Int) then
     some (.inl (v1_7+1))
    else none
   else
    some (.inr (r17,v1_7))
  else
   some (.inr (false,v1_7))
 else none
abbrev zu(v:Nat):St:=⟨[(0,(.s a0)),(1,(I a1)),(7,(I (v:Int)))],[],H0⟩
abbrev zw(x:(Bool×Nat)):aE×St:=((.ex 3),⟨[(0,(.s a0)),(1,(I a1)),(7,(I (x.2:Int))),(57,(.b x.1))],[],H0⟩)
theorem xZ(v1_7:Nat)(o:Nat⊕(Bool×Nat))(h:gI a0 a1 v1_7=some o):bF E0 F9 (zu a0 a1) (zw a0 a1) v1_7 o:=
 bP (ao (.i (a1+(v1_7:Int)))<|ao (.i (a0.length:Int))<|.or (cJ<|ao (.i (a1+(v1_7:Int)))<|bt<|xN fun j13=>.ex fun (vA:UInt8)=>ao (.i (vA.toNat:Int))<|bt<|xB fun r17=>bt<|.or (bt<|ao (.i ((v1_7+1:Nat):Int))<|.nil) (bf<|.nil)) (bf<|bf<|bf<|bf<|bf<|bf<|bf<|bf<|.nil)) fun L=>aY h fun w11 h=>ai w11<|ai (rfl:(a0.length:Int)=(a0.length:Int))<|bq h (fun h12 h=>uN (decide_eq_true h12)<|ai w11<|ai (g1 (decide_eq_true h12))<|mK h fun j13 h14 h=>ai h14<|cu h fun vA h16 h=>ai (congrArg (Option.map fun z:UInt8=>(z.toNat:Int)) h16)<|ai (g1 (decide_eq_true h12))<|ar h (nU (vA.toNat:Int)) fun r17 h=>ai (decide_eq_true h12)<|aA h (fun h19 h=>ai h19<|aY h fun w20 h=>ai w20<|L h) (fun h19 h=>ai h19<|L h)) (fun h12 h=>ai (g1 (decide_eq_false h12))<|ai (g1 (decide_eq_false h12))<|ai (g1 (decide_eq_false h12))<|ai (g1 (decide_eq_false h12))<|ai (g1 (decide_eq_false h12))<|ai (g1 (decide_eq_false h12))<|ai (decide_eq_false h12)<|ai ff<|L h)
def ji(v2_9:Nat):Option (Nat⊕(Unit⊕(Nat×Bool))):=
 if (v2_9:Int)<((([123,125,40,41,59,58,33,44,61,43,45,42,60]).length:Nat):Int) then
  (([123,125,40,41,59,58,33,44,61,43,45,42,60])[v2_9]?).bind fun (uw:UInt8)=>
  if ((uw.toNat:Int)==(c3.toNat:Int))=true then
   some (.inr (.inl ()))
  else
   if IntKind.i64.wrap ((v2_9:Int)+1)=((v2_9+1:Nat):Int) then
    some (.inl (v2_9+1))
   else none
 else
  some (.inr (.inr (v2_9,decide ((v2_9:Int)<((([123,125,40,41,59,58,33,44,61,43,45,42,60]).length:Nat):Int)))))
abbrev zx(v:Nat):St:=⟨[(6,(.i .u8 (c3.toNat:Int))),(8,(.s ([123,125,40,41,59,58,33,44,61,43,45,42,60]))),(9,(I (v:Int)))],[],H0⟩
abbrev zy(x:(Unit⊕(Nat×Bool))):aE×St:=match x with | .inl ()=>(.ret,⟨[(4,(I 3)),(5,(I 1))],[],H0⟩) | .inr (z1,z2)=>((.ex 5),⟨[(6,(.i .u8 (c3.toNat:Int))),(8,(.s ([123,125,40,41,59,58,33,44,61,43,45,42,60]))),(9,(I (z1:Int))),(81,(.b z2))],[],H0⟩)
theorem ya(v2_9:Nat)(o:Nat⊕(Unit⊕(Nat×Bool)))(h:ji c3 v2_9=some o):bF E0 Ga (zx c3) (zy c3) v2_9 o:=
 bP (ao (.i ((([123,125,40,41,59,58,33,44,61,43,45,42,60]).length:Nat):Int))<|.or (bt<|ao (.n v2_9)<|.ex fun (uw:UInt8)=>ao (.i (uw.toNat:Int))<|oN (ao (.i ((v2_9+1:Nat):Int))<|.nil)) (bf<|.nil)) fun L=>ai (rfl:((([123,125,40,41,59,58,33,44,61,43,45,42,60]).length:Nat):Int)=((([123,125,40,41,59,58,33,44,61,43,45,42,60]).length:Nat):Int))<|bq h (fun h19 h=>ai (decide_eq_true h19)<|ai (rI v2_9)<|cu h fun uw h21 h=>ai (congrArg (Option.map fun z:UInt8=>(z.toNat:Int)) h21)<|aA h (fun h22 h=>ai h22<|L h) (fun h22 h=>ai h22<|aY h fun w23 h=>ai w23<|L h)) (fun h19 h=>ai (decide_eq_false h19)<|L h)
def fO:Option (Unit⊕Unit):=
 (lp (fun v=>ji c3 v) 0).bind fun (x19:(Unit⊕(Nat×Bool)))=>match x19 with
 | .inl ya_20=>
  some (.inl ())
 | .inr yb_20=>
  some (.inr ())
abbrev yb(c3:UInt8)(x:(Unit⊕Unit)):aE×St:=match x with | .inl ()=>(.ret,⟨[(4,(I 3)),(5,(I 1))],[],H0⟩) | .inr ()=>(.ret,⟨[(4,(I 0)),(5,(I 0))],[],H0⟩)
theorem nh(x:(Unit⊕Unit))(h:fO c3=some x):run G Ω0 E0 Gb ⟨[(6,(.i .u8 (c3.toNat:Int)))],[],H0⟩=some (yb c3 x):=
 lX (.or (.ex fun (ya_20:Unit)=>ao (.lp .ret ⟨[(4,(I 3)),(5,(I 1))],[],H0⟩)<|.nil) (.ex fun (yb_20:(Nat×Bool))=>ao (.lp (.ex 5) ⟨[(6,(.i .u8 (c3.toNat:Int))),(8,(.s ([123,125,40,41,59,58,33,44,61,43,45,42,60]))),(9,(I (yb_20.1:Int))),(81,(.b yb_20.2))],[],H0⟩)<|.nil)) fun L=>bD h (e5 (ya c3) 0) (fun ya_20 h=>L h) (fun yb_20 h=>L h)
abbrev BW(a0:(List UInt8))(a1:Int)(r:(Int×Int)):aW×HP:=(.ret (.tp [(I r.1),(I r.2)]),H0)
def oc:Option (Int×Int):=
 (gC a1).bind fun (j1:Nat)=>
 (a0[j1]?).bind fun (c3:UInt8)=>
 (jU (c3.toNat:Int)).bind fun (r5:Bool)=>
 if r5=true then
  (lp (fun v=>gG a0 a1 v) 1).bind fun (x8:(Bool×Nat))=>
  some (1,(x8.2:Int))
 else
  (jl (c3.toNat:Int)).bind fun (r8:Bool)=>
  if r8=true then
   (lp (fun v=>gI a0 a1 v) 1).bind fun (x11:(Bool×Nat))=>
   some (2,(x11.2:Int))
  else
   if ((c3.toNat:Int)==61)=true then
    if IntKind.i64.wrap (a1+1)=a1+1 then
     if (a1+1)<(a0.length:Int) then
      (gC (a1+1)).bind fun (j14:Nat)=>
      (a0[j14]?).bind fun (yP:UInt8)=>
      if ((yP.toNat:Int)==61)=true then
       some (3,2)
      else
       (fO c3).bind fun (x19:(Unit⊕Unit))=>match x19 with
       | .inl ya_20=>
        some (3,1)
       | .inr yb_20=>
        some (0,0)
     else
      (fO c3).bind fun (x14:(Unit⊕Unit))=>match x14 with
      | .inl ya_15=>
       some (3,1)
      | .inr yb_15=>
       some (0,0)
    else none
   else
    (fO c3).bind fun (x12:(Unit⊕Unit))=>match x12 with
    | .inl ya_13=>
     some (3,1)
    | .inr yb_13=>
     some (0,0)
theorem yc(r:(Int×Int))(h:oc a0 a1=some r):call G Ω0 E0 72 [(.s a0),(I a1)] H0=some (BW a0 a1 r):=
 aG Q9 (xN fun j1=>.ex fun (c3:UInt8)=>ao (.i (c3.toNat:Int))<|xB fun r5=>.or (bt<|.ex fun (x8:(Bool×Nat))=>ao (.lp (.ex 1) ⟨[(0,(.s a0)),(1,(I a1)),(7,(I (x8.2:Int))),(37,(.b x8.1))],[],H0⟩)<|.nil) (bf<|xB fun r8=>.or (bt<|.ex fun (x11:(Bool×Nat))=>ao (.lp (.ex 3) ⟨[(0,(.s a0)),(1,(I a1)),(7,(I (x11.2:Int))),(57,(.b x11.1))],[],H0⟩)<|.nil) (bf<|.or (b9<|ao (.i (a1+1))<|b9<|ao (.i (a0.length:Int))<|b9<|.or (gu<|ao (.i (a1+1))<|bt<|xN fun j14=>.ex fun (yP:UInt8)=>ao (.i (yP.toNat:Int))<|b9<|oN (.fb<|.or (.ex fun (ya_20:Unit)=>ao (.fr .ret ⟨[(4,(I 3)),(5,(I 1))],[],H0⟩)<|.nil) (.ex fun (yb_20:Unit)=>ao (.fr .ret ⟨[(4,(I 0)),(5,(I 0))],[],H0⟩)<|.nil))) (C2<|.fb<|.or (.ex fun (ya_15:Unit)=>ao (.fr .ret ⟨[(4,(I 3)),(5,(I 1))],[],H0⟩)<|.nil) (.ex fun (yb_15:Unit)=>ao (.fr .ret ⟨[(4,(I 0)),(5,(I 0))],[],H0⟩)<|.nil))) (Av<|.fb<|.or (.ex fun (ya_13:Unit)=>ao (.fr .ret ⟨[(4,(I 3)),(5,(I 1))],[],H0⟩)<|.nil) (.ex fun (yb_13:Unit)=>ao (.fr .ret ⟨[(4,(I 0)),(5,(I 0))],[],H0⟩)<|.nil))))) fun L=>mK h fun j1 h2 h=>ai h2<|cu h fun c3 h4 h=>ai (congrArg (Option.map fun z:UInt8=>(z.toNat:Int)) h4)<|ar h (qw (c3.toNat:Int)) fun r5 h=>aA h (fun h7 h=>ai h7<|ar h (e5 (xY a0 a1) 1) fun x8 h=>L h) (fun h7 h=>ai h7<|ar h (nU (c3.toNat:Int)) fun r8 h=>aA h (fun h10 h=>ai h10<|ar h (e5 (xZ a0 a1) 1) fun x11 h=>L h) (fun h10 h=>ai h10<|aA h (fun h11 h=>dG h11<|aY h fun w12 h=>ai w12<|dG h11<|ai (rfl:(a0.length:Int)=(a0.length:Int))<|fX h11<|bq h (fun h13 h=>rV (decide_eq_true h13)<|ai w12<|ai (g1 (decide_eq_true h13))<|mK h fun j14 h15 h=>ai h15<|cu h fun yP h17 h=>ai (congrArg (Option.map fun z:UInt8=>(z.toNat:Int)) h17)<|fX (decide_eq_true h13)<|aA h (fun h18 h=>ai h18<|L h) (fun h18 h=>ai h18<|bD h (nh c3) (fun ya_20 h=>L h) (fun yb_20 h=>L h))) (fun h13 h=>ai (g1 (decide_eq_false h13))<|ai (g1 (decide_eq_false h13))<|ai (g1 (decide_eq_false h13))<|ai (g1 (decide_eq_false h13))<|ai (g1 (decide_eq_false h13))<|ai (decide_eq_false h13)<|ai ff<|bD h (nh c3) (fun ya_15 h=>L h) (fun yb_15 h=>L h))) (fun h11 h=>ai (g1 h11)<|ai (g1 h11)<|ai (g1 h11)<|ai (g1 h11)<|ai (g1 h11)<|ai h11<|ai gf<|ai gf<|ai gf<|ai gf<|ai gf<|ai ff<|ai ff<|bD h (nh c3) (fun ya_13 h=>L h) (fun yb_13 h=>L h))))
def rA:List bU:=(gA 4 58)::[]
end
section
variable (a0:Int)(a1:(List UInt8))
def er(a0:Int)(a1:(List UInt8))(r4:(Int×Int))(u2_1:Bool)(u3_1:Bool):Option Bool:=
 some u3_1
abbrev yd(a0:Int)(a1:(List UInt8))(r4:(Int×Int))(u2_1:Bool)(u3_1:Bool)(x:Bool):St:=⟨[(4,(.b x))],[],H0⟩
theorem hO(r4:(Int×Int))(u2_1:Bool)(u3_1:Bool)(w:List AV)(x:Bool)(h:er a0 a1 r4 u2_1 u3_1=some x):dx G Ω0 E0 [4] [] rA ⟨[(58,(.b u3_1)),(57,(W w 0)),(56,(W w 1)),(55,(W w 2)),(54,(W w 3)),(53,(W w 4)),(52,(W w 5)),(51,(W w 6)),(50,(W w 7)),(49,(W w 8)),(48,(W w 9)),(47,(W w 10)),(46,(W w 11)),(45,(W w 12)),(44,(W w 13)),(43,(W w 14)),(42,(W w 15)),(41,(.b u2_1)),(40,(.b u2_1)),(39,(W w 16)),(38,(W w 17)),(37,(W w 18)),(36,(W w 19)),(35,(W w 20)),(34,(W w 21)),(33,(W w 22)),(32,(W w 23)),(31,(W w 24)),(30,(W w 25)),(29,(W w 26)),(28,(W w 27)),(27,(W w 28)),(26,(.b (r4.1==a0))),(25,(.b (r4.1==a0))),(24,(I a0)),(23,(I r4.1)),(0,(I a0)),(1,(.s a1)),(5,(I r4.1)),(6,(I r4.2))],[],H0⟩=some (yd a0 a1 r4 u2_1 u3_1 x):=
 cC (.nil) fun L=>L h
def rB:List bU:=(gM 41 40)::⟨some 42,.mv 5,some ⟨41,true⟩,false⟩::⟨some 43,.bo .eql false 42 (kI 2),some ⟨41,true⟩,false⟩::⟨some 44,.mv 43,some ⟨41,true⟩,false⟩::⟨some 45,.mv 6,some ⟨44,true⟩,false⟩::⟨some 46,.bo .gtr false 45 (kI 7),some ⟨44,true⟩,false⟩::⟨some 47,.mv 46,some ⟨44,true⟩,false⟩::⟨some 48,.mv 6,some ⟨47,false⟩,false⟩::⟨some 49,.bo .gtr false 48 (kI 1),some ⟨47,false⟩,false⟩::⟨some 50,.mv 49,some ⟨47,false⟩,false⟩::⟨some 51,.mv 1,some ⟨50,true⟩,false⟩::⟨some 52,.ix 51 (kI 0),some ⟨50,true⟩,false⟩::⟨some 53,.bo .eql false 52 (.c (.i .u8 48)),some ⟨50,true⟩,false⟩::⟨some 54,.pk 50 53 (.c (.b false)),some ⟨47,false⟩,false⟩::⟨some 55,.pk 47 (.c (.b true)) 54,some ⟨44,true⟩,false⟩::⟨some 56,.pk 44 55 (.c (.b false)),some ⟨41,true⟩,false⟩::⟨some 57,.no 56,some ⟨41,true⟩,false⟩::(gp 58 (.pk 41 57 (.c (.b false))))::rA
def fP(r4:(Int×Int))(u2_1:Bool):Option Bool:=
 if u2_1=true then
  if (r4.1==2)=true then
   if 7<r4.2 then
    (er a0 a1 r4 u2_1 false).bind fun (x12:Bool)=>
    some x12
   else
    if 1<r4.2 then
     (a1[0]?).bind fun (lI:UInt8)=>
     (er a0 a1 r4 u2_1 (!((lI.toNat:Int)==48))).bind fun (x15:Bool)=>
     some x15
    else
     (er a0 a1 r4 u2_1 true).bind fun (x13:Bool)=>
     some x13
  else
   (er a0 a1 r4 u2_1 true).bind fun (x11:Bool)=>
   some x11
 else
  (er a0 a1 r4 u2_1 false).bind fun (x10:Bool)=>
  some x10
abbrev ye(a0:Int)(a1:(List UInt8))(r4:(Int×Int))(u2_1:Bool)(x:Bool):St:=⟨[(4,(.b x))],[],H0⟩
theorem jG(r4:(Int×Int))(u2_1:Bool)(w:List AV)(x:Bool)(h:fP a0 a1 r4 u2_1=some x):dx G Ω0 E0 [4] [] rB ⟨[(40,(.b u2_1)),(39,(W w 0)),(38,(W w 1)),(37,(W w 2)),(36,(W w 3)),(35,(W w 4)),(34,(W w 5)),(33,(W w 6)),(32,(W w 7)),(31,(W w 8)),(30,(W w 9)),(29,(W w 10)),(28,(W w 11)),(27,(W w 12)),(26,(.b (r4.1==a0))),(25,(.b (r4.1==a0))),(24,(I a0)),(23,(I r4.1)),(0,(I a0)),(1,(.s a1)),(5,(I r4.1)),(6,(I r4.2))],[],H0⟩=some (ye a0 a1 r4 u2_1 x):=
 cC (.or (gu<|.or (gu<|.or (bf<|bf<|bf<|bf<|bt<|bt<|bt<|bt<|bt<|bt<|.jb (some 4) 0<|.ex fun (x12:Bool)=>ao (.jn ⟨[(4,(.b x12))],[],H0⟩)<|.nil) (gu<|.or (b9<|ao (.n 0)<|.ex fun (lI:UInt8)=>ao (.i (lI.toNat:Int))<|bt<|bt<|bt<|bt<|bf<|bt<|bt<|bt<|bt<|.jb (some 4) 0<|.ex fun (x15:Bool)=>ao (.jn ⟨[(4,(.b x15))],[],H0⟩)<|.nil) (bf<|bf<|bf<|bt<|bf<|bt<|bf<|bt<|bt<|bt<|bt<|.jb (some 4) 0<|.ex fun (x13:Bool)=>ao (.jn ⟨[(4,(.b x13))],[],H0⟩)<|.nil))) (bf<|bf<|bf<|bf<|bt<|bf<|bt<|bt<|.jb (some 4) 0<|.ex fun (x11:Bool)=>ao (.jn ⟨[(4,(.b x11))],[],H0⟩)<|.nil)) (C6<|.jb (some 4) 0<|.ex fun (x10:Bool)=>ao (.jn ⟨[(4,(.b x10))],[],H0⟩)<|.nil)) fun L=>aA h (fun h9 h=>rV h9<|aA h (fun h10 h=>rV h10<|bq h (fun h11 h=>ai (g0 (decide_eq_true h11))<|ai (g0 (decide_eq_true h11))<|ai (g0 (decide_eq_true h11))<|ai (g0 (decide_eq_true h11))<|ai (g1 h10)<|ai (decide_eq_true h11)<|ai (g1 h9)<|ai h10<|fX h9<|ar h (hO a0 a1 r4 u2_1 false [(.b false),(.b true),(.b true),.sk,.sk,.sk,.sk,.sk,.sk,.sk,(.b (decide (7<r4.2))),(.b (decide (7<r4.2))),(I r4.2),(.b (r4.1==2)),(.b (r4.1==2)),(I r4.1),(W w 0),(W w 1),(W w 2),(W w 3),(W w 4),(W w 5),(W w 6),(W w 7),(W w 8),(W w 9),(W w 10),(W w 11),(W w 12)]) fun x12 h=>L h) (fun h11 h=>An (decide_eq_false h11)<|bq h (fun h12 h=>dG (decide_eq_true h12)<|ai (rI 0)<|cu h fun lI h14 h=>ai (congrArg (Option.map fun z:UInt8=>(z.toNat:Int)) h14)<|ai (g1 (decide_eq_true h12))<|ai (g0 (decide_eq_false h11))<|ai (decide_eq_true h12)<|ai (g1 h10)<|ai (decide_eq_false h11)<|ai (g1 h9)<|ai h10<|fX h9<|ar h (hO a0 a1 r4 u2_1 (!((lI.toNat:Int)==48)) [(.b (!((lI.toNat:Int)==48))),(.b ((lI.toNat:Int)==48)),(.b ((lI.toNat:Int)==48)),(.b ((lI.toNat:Int)==48)),(.b ((lI.toNat:Int)==48)),(.i .u8 (lI.toNat:Int)),(.s a1),(.b (decide (1<r4.2))),(.b (decide (1<r4.2))),(I r4.2),(.b (decide (7<r4.2))),(.b (decide (7<r4.2))),(I r4.2),(.b (r4.1==2)),(.b (r4.1==2)),(I r4.1),(W w 0),(W w 1),(W w 2),(W w 3),(W w 4),(W w 5),(W w 6),(W w 7),(W w 8),(W w 9),(W w 10),(W w 11),(W w 12)]) fun x15 h=>L h) (fun h12 h=>rV (decide_eq_false h12)<|ai (g0 (decide_eq_false h11))<|ai (decide_eq_false h12)<|ai (g1 h10)<|ai (decide_eq_false h11)<|ai (g1 h9)<|ai h10<|fX h9<|ar h (hO a0 a1 r4 u2_1 true [(.b true),(.b false),(.b false),(.b false),.sk,.sk,.sk,(.b (decide (1<r4.2))),(.b (decide (1<r4.2))),(I r4.2),(.b (decide (7<r4.2))),(.b (decide (7<r4.2))),(I r4.2),(.b (r4.1==2)),(.b (r4.1==2)),(I r4.1),(W w 0),(W w 1),(W w 2),(W w 3),(W w 4),(W w 5),(W w 6),(W w 7),(W w 8),(W w 9),(W w 10),(W w 11),(W w 12)]) fun x13 h=>L h))) (fun h10 h=>uN h10<|ai (g1 h9)<|ai h10<|fX h9<|ar h (hO a0 a1 r4 u2_1 true [(.b true),(.b false),.sk,.sk,.sk,.sk,.sk,.sk,.sk,.sk,.sk,.sk,.sk,(.b (r4.1==2)),(.b (r4.1==2)),(I r4.1),(W w 0),(W w 1),(W w 2),(W w 3),(W w 4),(W w 5),(W w 6),(W w 7),(W w 8),(W w 9),(W w 10),(W w 11),(W w 12)]) fun x11 h=>L h)) (fun h9 h=>C0 h9<|ar h (hO a0 a1 r4 u2_1 false [.sk,.sk,.sk,.sk,.sk,.sk,.sk,.sk,.sk,.sk,.sk,.sk,.sk,.sk,.sk,.sk,(W w 0),(W w 1),(W w 2),(W w 3),(W w 4),(W w 5),(W w 6),(W w 7),(W w 8),(W w 9),(W w 10),(W w 11),(W w 12)]) fun x10 h=>L h)
def yf:List bU:=(gM 23 5)::(gM 24 0)::(gB 25 .eql 23 24)::(gM 26 25)::⟨some 27,.mv 6,some ⟨26,true⟩,false⟩::⟨some 28,.mv 1,some ⟨26,true⟩,false⟩::⟨some 29,.ln true 28,some ⟨26,true⟩,false⟩::⟨some 30,.bo .eql false 27 29,some ⟨26,true⟩,false⟩::(gp 31 (.pk 26 30 (.c (.b false))))::(gM 32 31)::⟨some 33,.mv 5,some ⟨32,true⟩,false⟩::⟨some 34,.bo .eql false 33 (kI 1),some ⟨32,true⟩,false⟩::⟨some 35,.mv 34,some ⟨32,true⟩,false⟩::⟨some 36,.mv 6,some ⟨35,true⟩,false⟩::⟨some 37,.bo .gtr false 36 (kI 12),some ⟨35,true⟩,false⟩::⟨some 38,.pk 35 37 (.c (.b false)),some ⟨32,true⟩,false⟩::⟨some 39,.no 38,some ⟨32,true⟩,false⟩::(gp 40 (.pk 32 39 (.c (.b false))))::rB
def nV(r4:(Int×Int)):Option Bool:=
 if (r4.1==a0)=true then
  if (r4.2==(a1.length:Int))=true then
   if (r4.1==1)=true then
    (fP a0 a1 r4 (!(decide (12<r4.2)))).bind fun (x9:Bool)=>
    some x9
   else
    (fP a0 a1 r4 true).bind fun (x9:Bool)=>
    some x9
  else
   (fP a0 a1 r4 false).bind fun (x8:Bool)=>
   some x8
 else
  (fP a0 a1 r4 false).bind fun (x7:Bool)=>
  some x7
abbrev yg(a0:Int)(a1:(List UInt8))(r4:(Int×Int))(x:Bool):St:=⟨[(4,(.b x))],[],H0⟩
theorem wc(r4:(Int×Int))(x:Bool)(h:nV a0 a1 r4=some x):dx G Ω0 E0 [4] [] yf ⟨[(0,(I a0)),(1,(.s a1)),(5,(I r4.1)),(6,(I r4.2))],[],H0⟩=some (yg a0 a1 r4 x):=
 cC (.or (gu<|ao (.i (a1.length:Int))<|b9<|.or (gu<|.or (yT<|.jb (some 41) 18<|.ex fun (x9:Bool)=>ao (.jn ⟨[(4,(.b x9))],[],H0⟩)<|.nil) (bf<|bf<|bt<|bf<|bt<|bt<|.jb (some 41) 18<|.ex fun (x9:Bool)=>ao (.jn ⟨[(4,(.b x9))],[],H0⟩)<|.nil)) (C6<|.jb (some 41) 18<|.ex fun (x8:Bool)=>ao (.jn ⟨[(4,(.b x8))],[],H0⟩)<|.nil)) (I2<|.jb (some 41) 18<|.ex fun (x7:Bool)=>ao (.jn ⟨[(4,(.b x7))],[],H0⟩)<|.nil)) fun L=>aA h (fun h6 h=>rV h6<|ai (rfl:(a1.length:Int)=(a1.length:Int))<|fX h6<|aA h (fun h7 h=>rV h7<|aA h (fun h8 h=>dG h8<|ai (g1 h7)<|ai h8<|fX h7<|ar h (jG a0 a1 r4 (!(decide (12<r4.2))) [(.b (!(decide (12<r4.2)))),(.b (decide (12<r4.2))),(.b (decide (12<r4.2))),(I r4.2),(.b (r4.1==1)),(.b (r4.1==1)),(I r4.1),(.b (r4.2==(a1.length:Int))),(.b (r4.2==(a1.length:Int))),(.b (r4.2==(a1.length:Int))),(I (a1.length:Int)),(.s a1),(I r4.2)]) fun x9 h=>L h) (fun h8 h=>dG h8<|ai (g1 h7)<|ai h8<|fX h7<|ar h (jG a0 a1 r4 true [(.b true),(.b false),.sk,.sk,(.b (r4.1==1)),(.b (r4.1==1)),(I r4.1),(.b (r4.2==(a1.length:Int))),(.b (r4.2==(a1.length:Int))),(.b (r4.2==(a1.length:Int))),(I (a1.length:Int)),(.s a1),(I r4.2)]) fun x9 h=>L h)) (fun h7 h=>C0 h7<|ar h (jG a0 a1 r4 false [.sk,.sk,.sk,.sk,.sk,.sk,.sk,(.b (r4.2==(a1.length:Int))),(.b (r4.2==(a1.length:Int))),(.b (r4.2==(a1.length:Int))),(I (a1.length:Int)),(.s a1),(I r4.2)]) fun x8 h=>L h)) (fun h6 h=>ai (g1 h6)<|ai (g1 h6)<|ai (g1 h6)<|ai (g1 h6)<|ai h6<|ai gf<|ai gf<|ai gf<|ai gf<|ai gf<|ai ff<|ar h (jG a0 a1 r4 false [.sk,.sk,.sk,.sk,.sk,.sk,.sk,(.b false),(.b false),.sk,.sk,.sk,.sk]) fun x7 h=>L h)
abbrev BX(a0:Int)(a1:(List UInt8))(r:Bool):aW×HP:=(.ret (.b r),H0)
def od:Option Bool:=
 if (a1==([]:List UInt8))=true then
  some false
 else
  if 6000<(a1.length:Int) then
   some false
  else
   if (a0==0)=true then
    some false
   else
    (oc a1 0).bind fun (r4:(Int×Int))=>
    (nV a0 a1 r4).bind fun (x6:Bool)=>
    some x6
theorem yh(r:Bool)(h:od a0 a1=some r):call G Ω0 E0 55 [(I a0),(.s a1)] H0=some (BX a0 a1 r):=
 aG QZ (.or (bf<|bf<|bf<|bt<|bf<|bf<|bt<|bt<|.nil) (b9<|ao (.i (a1.length:Int))<|eQ<|.or (bf<|bf<|bt<|bt<|.nil) (ux<|oN (.ex fun (r4:(Int×Int))=>ao (.v (.tp [(I r4.1),(I r4.2)]))<|.jb (some 23) 36<|.ex fun (x6:Bool)=>ao (.jn ⟨[(4,(.b x6))],[],H0⟩)<|.nil)))) fun L=>aA h (fun h1 h=>ai (g0 h1)<|ai (g0 h1)<|ai (g0 h1)<|ai h1<|ai ht<|ai ht<|ai tt<|ai tt<|L h) (fun h1 h=>yS h1<|ai (rfl:(a1.length:Int)=(a1.length:Int))<|iN h1<|bq h (fun h2 h=>ai (g0 (decide_eq_true h2))<|ai (g0 (decide_eq_true h2))<|ai (decide_eq_true h2)<|ai tt<|L h) (fun h2 h=>qO (decide_eq_false h2)<|aA h (fun h3 h=>ai h3<|L h) (fun h3 h=>ai h3<|ar h (yc a1 0) fun r4 h=>ar h (wc a0 a1 r4) fun x6 h=>L h)))
end
section
variable (a0:(List UInt8))
def pL(v0_4:Nat):Option (Nat⊕(Unit⊕(Nat×Bool))):=
 if (v0_4:Int)<((([[97,99,116,111,114],[103,114,97,110,116],[115,112,101,97,107],[105,110],[111,117,116],[118,97,114],[102,117,110,99],[109,97,105,110],[103,101,116],[112,117,116],[114,101,118,101,97,108],[116,114,117,115,116],[105,102],[101,108,115,101],[119,104,105,108,101],[114,101,116,117,114,110]]).length:Nat):Int) then
  (([[97,99,116,111,114],[103,114,97,110,116],[115,112,101,97,107],[105,110],[111,117,116],[118,97,114],[102,117,110,99],[109,97,105,110],[103,101,116],[112,117,116],[114,101,118,101,97,108],[116,114,117,115,116],[105,102],[101,108,115,101],[119,104,105,108,101],[114,101,116,117,114,110]])[v0_4]?).bind fun (y2:(List UInt8))=>
  if (y2==a0)=true then
   some (.inr (.inl ()))
  else
   if IntKind.i64.wrap ((v0_4:Int)+1)=((v0_4+1:Nat):Int) then
    some (.inl (v0_4+1))
   else none
 else
  some (.inr (.inr (v0_4,decide ((v0_4:Int)<((([[97,99,116,111,114],[103,114,97,110,116],[115,112,101,97,107],[105,110],[111,117,116],[118,97,114],[102,117,110,99],[109,97,105,110],[103,101,116],[112,117,116],[114,101,118,101,97,108],[116,114,117,115,116],[105,102],[101,108,115,101],[119,104,105,108,101],[114,101,116,117,114,110]]).length:Nat):Int)))))
abbrev AN(v:Nat):St:=⟨[(0,(.s a0)),(3,(.l 9 (([[97,99,116,111,114],[103,114,97,110,116],[115,112,101,97,107],[105,110],[111,117,116],[118,97,114],[102,117,110,99],[109,97,105,110],[103,101,116],[112,117,116],[114,101,118,101,97,108],[116,114,117,115,116],[105,102],[101,108,115,101],[119,104,105,108,101],[114,101,116,117,114,110]]).map AV.s))),(4,(I (v:Int)))],[],H0⟩
abbrev AO(x:(Unit⊕(Nat×Bool))):aE×St:=match x with | .inl ()=>(.ret,⟨[(2,(.b true))],[],H0⟩) | .inr (z1,z2)=>((.ex 0),⟨[(0,(.s a0)),(3,(.l 9 (([[97,99,116,111,114],[103,114,97,110,116],[115,112,101,97,107],[105,110],[111,117,116],[118,97,114],[102,117,110,99],[109,97,105,110],[103,101,116],[112,117,116],[114,101,118,101,97,108],[116,114,117,115,116],[105,102],[101,108,115,101],[119,104,105,108,101],[114,101,116,117,114,110]]).map AV.s))),(4,(I (z1:Int))),(9,(.b z2))],[],H0⟩)
theorem zz(v0_4:Nat)(o:Nat⊕(Unit⊕(Nat×Bool)))(h:pL a0 v0_4=some o):bF E0 F6 (AN a0) (AO a0) v0_4 o:=
 bP (ao (.i ((([[97,99,116,111,114],[103,114,97,110,116],[115,112,101,97,107],[105,110],[111,117,116],[118,97,114],[102,117,110,99],[109,97,105,110],[103,101,116],[112,117,116],[114,101,118,101,97,108],[116,114,117,115,116],[105,102],[101,108,115,101],[119,104,105,108,101],[114,101,116,117,114,110]]).length:Nat):Int))<|.or (bt<|ao (.n v0_4)<|.ex fun (y2:(List UInt8))=>ao (.v (.s y2))<|oN (ao (.i ((v0_4+1:Nat):Int))<|.nil)) (bf<|.nil)) fun L=>ai (aK AV.s ([[97,99,116,111,114],[103,114,97,110,116],[115,112,101,97,107],[105,110],[111,117,116],[118,97,114],[102,117,110,99],[109,97,105,110],[103,101,116],[112,117,116],[114,101,118,101,97,108],[116,114,117,115,116],[105,102],[101,108,115,101],[119,104,105,108,101],[114,101,116,117,114,110]]))<|bq h (fun h1 h=>ai (decide_eq_true h1)<|ai (rI v0_4)<|cu h fun y2 h3 h=>ai (cT AV.s h3)<|aA h (fun h4 h=>ai h4<|L h) (fun h4 h=>ai h4<|aY h fun w5 h=>ai w5<|L h)) (fun h1 h=>ai (decide_eq_false h1)<|L h)
abbrev C9(a0:(List UInt8))(r:Bool):aW×HP:=(.ret (.b r),H0)
def o3:Option Bool:=
 (lp (fun v=>pL a0 v) 0).bind fun (x1:(Unit⊕(Nat×Bool)))=>match x1 with
 | .inl ya_2=>
  some true
 | .inr yb_2=>
  some false
theorem zA(r:Bool)(h:o3 a0=some r):call G Ω0 E0 56 [(.s a0)] H0=some (C9 a0 r):=
 aG Q0 (ao (.l (([[97,99,116,111,114],[103,114,97,110,116],[115,112,101,97,107],[105,110],[111,117,116],[118,97,114],[102,117,110,99],[109,97,105,110],[103,101,116],[112,117,116],[114,101,118,101,97,108],[116,114,117,115,116],[105,102],[101,108,115,101],[119,104,105,108,101],[114,101,116,117,114,110]]).map AV.s))<|.or (.ex fun (ya_2:Unit)=>ao (.lp .ret ⟨[(2,(.b true))],[],H0⟩)<|.nil) (.ex fun (yb_2:(Nat×Bool))=>ao (.lp (.ex 0) ⟨[(0,(.s a0)),(3,(.l 9 (([[97,99,116,111,114],[103,114,97,110,116],[115,112,101,97,107],[105,110],[111,117,116],[118,97,114],[102,117,110,99],[109,97,105,110],[103,101,116],[112,117,116],[114,101,118,101,97,108],[116,114,117,115,116],[105,102],[101,108,115,101],[119,104,105,108,101],[114,101,116,117,114,110]]).map AV.s))),(4,(I (yb_2.1:Int))),(9,(.b yb_2.2))],[],H0⟩)<|.nil)) fun L=>ai (rfl:[(.s ([97,99,116,111,114])),(.s ([103,114,97,110,116])),(.s ([115,112,101,97,107])),(.s ([105,110])),(.s ([111,117,116])),(.s ([118,97,114])),(.s ([102,117,110,99])),(.s ([109,97,105,110])),(.s ([103,101,116])),(.s ([112,117,116])),(.s ([114,101,118,101,97,108])),(.s ([116,114,117,115,116])),(.s ([105,102])),(.s ([101,108,115,101])),(.s ([119,104,105,108,101])),(.s ([114,101,116,117,114,110]))]=([[97,99,116,111,114],[103,114,97,110,116],[115,112,101,97,107],[105,110],[111,117,116],[118,97,114],[102,117,110,99],[109,97,105,110],[103,101,116],[112,117,116],[114,101,118,101,97,108],[116,114,117,115,116],[105,102],[101,108,115,101],[119,104,105,108,101],[114,101,116,117,114,110]]).map AV.s)<|bD h (e5 (zz a0) 0) (fun ya_2 h=>L h) (fun yb_2 h=>L h)
abbrev Da(a0:(List UInt8))(r:Bool):aW×HP:=(.ret (.b r),H0)
def cA:Option Bool:=
 (od 1 a0).bind fun (r1:Bool)=>
 if r1=true then
  (o3 a0).bind fun (r4:Bool)=>
  some (!r4)
 else
  some false
theorem ck(r:Bool)(h:cA a0=some r):call G Ω0 E0 35 [(.s a0)] H0=some (Da a0 r):=
 aG QK (xB fun r1=>.or (b9<|xB fun r4=>b9<|.nil) (ti<|.nil)) fun L=>ar h (yh 1 a0) fun r1 h=>aA h (fun h3 h=>dG h3<|ar h (zA a0) fun r4 h=>fX h3<|L h) (fun h3 h=>qP h3<|L h)
def sJ:List bU:=(gA 2 21)::[]
end
section
variable (a0:ad)
def gJ(a0:ad)(u2_1:Bool):Option Bool:=
 some u2_1
abbrev zB(a0:ad)(u2_1:Bool)(x:Bool):St:=⟨[(2,(.b x))],[],H0⟩
theorem kK(u2_1:Bool)(w:List AV)(x:Bool)(h:gJ a0 u2_1=some x):dx G Ω0 E0 [2] [] sJ ⟨[(21,(.b u2_1)),(20,(W w 0)),(19,(W w 1)),(18,(W w 2)),(17,(W w 3)),(16,(W w 4)),(15,(W w 5)),(14,(W w 6)),(13,(W w 7)),(12,(W w 8)),(11,(W w 9)),(10,(W w 10)),(9,(W w 11)),(8,(W w 12)),(7,(W w 13)),(6,(.b (a0.Kind==0))),(5,(.b (a0.Kind==0))),(4,(I a0.Kind)),(3,(.p ⟨0,1⟩ 0)),(1,(.p ⟨0,1⟩ 0))],[(1,(aT a0))],H0⟩=some (zB a0 u2_1 x):=
 cC (.nil) fun L=>L h
def zC:List bU:=(gF 3 0 1)::(gQ 4 3)::(gB 5 .eql 4 (kI 0))::(gM 6 5)::⟨some 7,.fa 2 1,some ⟨6,true⟩,false⟩::⟨some 8,.ld none 7,some ⟨6,true⟩,false⟩::⟨some 9,.bo .eql false 8 (kI 0),some ⟨6,true⟩,false⟩::(gp 10 (.pk 6 9 (.c (.b false))))::(gM 11 10)::⟨some 12,.fa 3 1,some ⟨11,true⟩,false⟩::⟨some 13,.ld none 12,some ⟨11,true⟩,false⟩::⟨some 14,.bo .eql false 13 (.c (.s [])),some ⟨11,true⟩,false⟩::(gp 15 (.pk 11 14 (.c (.b false))))::(gM 16 15)::⟨some 17,.fa 4 1,some ⟨16,true⟩,false⟩::⟨some 18,.ld none 17,some ⟨16,true⟩,false⟩::⟨some 19,.ln false 18,some ⟨16,true⟩,false⟩::⟨some 20,.bo .eql false 19 (kI 0),some ⟨16,true⟩,false⟩::(gp 21 (.pk 16 20 (.c (.b false))))::sJ
def oK:Option Bool:=
 if (a0.Kind==0)=true then
  if (a0.N==0)=true then
   if (a0.Name==([]:List UInt8))=true then
    (gJ a0 ((a0.Args.length:Int)==0)).bind fun (x4:Bool)=>
    some x4
   else
    (gJ a0 false).bind fun (x4:Bool)=>
    some x4
  else
   (gJ a0 false).bind fun (x3:Bool)=>
   some x3
 else
  (gJ a0 false).bind fun (x2:Bool)=>
  some x2
abbrev zD(a0:ad)(x:Bool):St:=⟨[(2,(.b x))],[],H0⟩
theorem yi(x:Bool)(h:oK a0=some x):dx G Ω0 E0 [2] [] zC ⟨[(1,(.p ⟨0,1⟩ 0))],[(1,(aT a0))],H0⟩=some (zD a0 x):=
 cC (bt<|.or (kS<|.or (kS<|.or (cJ<|ao (.i (a0.Args.length:Int))<|b9<|.jb (some 2) 0<|.ex fun (x4:Bool)=>ao (.jn ⟨[(2,(.b x4))],[],H0⟩)<|.nil) (C3<|.jb (some 2) 0<|.ex fun (x4:Bool)=>ao (.jn ⟨[(2,(.b x4))],[],H0⟩)<|.nil)) (Ax<|.jb (some 2) 0<|.ex fun (x3:Bool)=>ao (.jn ⟨[(2,(.b x3))],[],H0⟩)<|.nil)) (Av<|.jb (some 2) 0<|.ex fun (x2:Bool)=>ao (.jn ⟨[(2,(.b x2))],[],H0⟩)<|.nil)) fun L=>ai (rfl:Z0)<|aA h (fun h1 h=>wX h1<|aA h (fun h2 h=>wX h2<|aA h (fun h3 h=>ek h3<|ai (aK aj a0.Args)<|fX h3<|ar h (kK a0 ((a0.Args.length:Int)==0) [(.b ((a0.Args.length:Int)==0)),(I (a0.Args.length:Int)),(.l 34 (a0.Args.map aj)),(.p ⟨0,1⟩ 4),(.b (a0.Name==([]:List UInt8))),(.b (a0.Name==([]:List UInt8))),(.b (a0.Name==([]:List UInt8))),(.s a0.Name),(.p ⟨0,1⟩ 3),(.b (a0.N==0)),(.b (a0.N==0)),(.b (a0.N==0)),(I a0.N),(.p ⟨0,1⟩ 2)]) fun x4 h=>L h) (fun h3 h=>Ao h3<|ar h (kK a0 false [.sk,.sk,.sk,.sk,(.b (a0.Name==([]:List UInt8))),(.b (a0.Name==([]:List UInt8))),(.b (a0.Name==([]:List UInt8))),(.s a0.Name),(.p ⟨0,1⟩ 3),(.b (a0.N==0)),(.b (a0.N==0)),(.b (a0.N==0)),(I a0.N),(.p ⟨0,1⟩ 2)]) fun x4 h=>L h)) (fun h2 h=>ai (g1 h2)<|ai (g1 h2)<|ai (g1 h2)<|ai h2<|ai gf<|ai gf<|ai gf<|ai gf<|ai ff<|ar h (kK a0 false [.sk,.sk,.sk,.sk,(.b false),(.b false),.sk,.sk,.sk,(.b (a0.N==0)),(.b (a0.N==0)),(.b (a0.N==0)),(I a0.N),(.p ⟨0,1⟩ 2)]) fun x3 h=>L h)) (fun h1 h=>ai (g1 h1)<|ai (g1 h1)<|ai (g1 h1)<|ai h1<|ai gf<|ai gf<|ai gf<|ai ff<|ai gf<|ai gf<|ai gf<|ai gf<|ai ff<|ar h (kK a0 false [.sk,.sk,.sk,.sk,(.b false),(.b false),.sk,.sk,.sk,(.b false),(.b false),.sk,.sk,.sk]) fun x2 h=>L h)
abbrev Db(a0:ad)(r:Bool):aW×HP:=(.ret (.b r),H0)
def nj:Option Bool:=
 (oK a0).bind fun (x1:Bool)=>
 some x1
theorem sK(r:Bool)(h:nj a0=some r):call G Ω0 E0 36 [(.a (aT a0))] H0=some (Db a0 r):=
 aG QL (.jb (some 3) 19<|.ex fun (x1:Bool)=>ao (.jn ⟨[(2,(.b x1))],[],H0⟩)<|.nil) fun L=>ai tt<|ar h (yi a0) fun x1 h=>L h
abbrev Dc(a0:ad)(r:Bool):aW×HP:=(.ret (.b r),H0)
abbrev rZ(r:Bool):Prop:=call G Ω0 E0 37 [(.a (aT a0))] H0=some (Dc a0 r)
end
structure sa where
 f_R_isExpr:ad→Option Bool
structure oe(R:sa):Prop where
 f_R_isExpr:∀ (a0:ad)(r:Bool),R.f_R_isExpr a0=some r→rZ a0 r
section
variable (R:sa)(a0:ad)
def sL:List bU:=(gM 64 63)::⟨some 65,.fa 4 1,some ⟨64,true⟩,false⟩::⟨some 66,.ld none 65,some ⟨64,true⟩,false⟩::⟨some 67,.ia 5 none 66 (kI 1),some ⟨64,true⟩,false⟩::⟨some 68,.ld (some 5) 67,some ⟨64,true⟩,false⟩::⟨some 69,.ca 0 37 [68],some ⟨64,true⟩,false⟩::(gp 70 (.pk 64 69 (.c (.b false))))::(gA 2 70)::[]
def gK(r3:Bool)(u2_1:Bool):Option Bool:=
 if u2_1=true then
  (a0.Args[1]?).bind fun (y14:ad)=>
  (R.f_R_isExpr y14).bind fun (r16:Bool)=>
  some r16
 else
  some false
abbrev zE(a0:ad)(r3:Bool)(u2_1:Bool)(x:Bool):St:=⟨[(2,(.b x))],[],H0⟩
theorem kL(hR:oe R)(a0:ad)(r3:Bool)(u2_1:Bool)(w:List AV)(x:Bool)(h:gK R a0 r3 u2_1=some x):dx G Ω0 E0 [2] [] sL ⟨[(63,(.b u2_1)),(62,(W w 0)),(61,(W w 1)),(60,(W w 2)),(59,(W w 3)),(58,(W w 4)),(57,(W w 5)),(56,(W w 6)),(55,(W w 7)),(54,(W w 8)),(53,(W w 9)),(52,(W w 10)),(51,(W w 11)),(50,(W w 12)),(49,(W w 13)),(48,(W w 14)),(47,(W w 15)),(46,(.b (a0.N==0))),(45,(.b (a0.N==0))),(44,(I a0.N)),(43,(.p ⟨0,1⟩ 2)),(1,(.p ⟨0,1⟩ 0)),(39,(.b r3))],[(1,(aT a0))],H0⟩=some (zE a0 r3 u2_1 x):=
 cC (.or (cJ<|ao (.n 1)<|.ex fun (y14:ad)=>ao (.v (.a (aT y14)))<|b9<|xB fun r16=>bt<|.nil) (C6<|.nil)) fun L=>aA h (fun h13 h=>ek h13<|ai (rI 1)<|cu h fun y14 h15 h=>ai (ej aj h15 (cD _))<|dG h13<|ar h (hR.f_R_isExpr y14) fun r16 h=>ai h13<|L h) (fun h13 h=>C0 h13<|L h)
def zF:List bU:=(gF 43 2 1)::(gQ 44 43)::(gB 45 .eql 44 (kI 0))::(gM 46 45)::⟨some 47,.fa 3 1,some ⟨46,true⟩,false⟩::⟨some 48,.ld none 47,some ⟨46,true⟩,false⟩::⟨some 49,.bo .eql false 48 (.c (.s [])),some ⟨46,true⟩,false⟩::(gp 50 (.pk 46 49 (.c (.b false))))::(gM 51 50)::⟨some 52,.fa 4 1,some ⟨51,true⟩,false⟩::⟨some 53,.ld none 52,some ⟨51,true⟩,false⟩::⟨some 54,.ln false 53,some ⟨51,true⟩,false⟩::⟨some 55,.bo .eql false 54 (kI 2),some ⟨51,true⟩,false⟩::(gp 56 (.pk 51 55 (.c (.b false))))::(gM 57 56)::⟨some 58,.fa 4 1,some ⟨57,true⟩,false⟩::⟨some 59,.ld none 58,some ⟨57,true⟩,false⟩::⟨some 60,.ia 5 none 59 (kI 0),some ⟨57,true⟩,false⟩::⟨some 61,.ld (some 5) 60,some ⟨57,true⟩,false⟩::⟨some 62,.ca 0 37 [61],some ⟨57,true⟩,false⟩::(gp 63 (.pk 57 62 (.c (.b false))))::sL
def oL(r3:Bool):Option Bool:=
 if (a0.N==0)=true then
  if (a0.Name==([]:List UInt8))=true then
   if ((a0.Args.length:Int)==2)=true then
    (a0.Args[0]?).bind fun (y9:ad)=>
    (R.f_R_isExpr y9).bind fun (r11:Bool)=>
    (gK R a0 r3 r11).bind fun (x13:Bool)=>
    some x13
   else
    (gK R a0 r3 false).bind fun (x9:Bool)=>
    some x9
  else
   (gK R a0 r3 false).bind fun (x8:Bool)=>
   some x8
 else
  (gK R a0 r3 false).bind fun (x7:Bool)=>
  some x7
abbrev zG(a0:ad)(r3:Bool)(x:Bool):St:=⟨[(2,(.b x))],[],H0⟩
theorem yj(hR:oe R)(a0:ad)(r3:Bool)(x:Bool)(h:oL R a0 r3=some x):dx G Ω0 E0 [2] [] zF ⟨[(1,(.p ⟨0,1⟩ 0)),(39,(.b r3))],[(1,(aT a0))],H0⟩=some (zG a0 r3 x):=
 cC (bt<|.or (kS<|.or (cJ<|ao (.i (a0.Args.length:Int))<|b9<|.or (cJ<|ao (.n 0)<|.ex fun (y9:ad)=>ao (.v (.a (aT y9)))<|b9<|xB fun r11=>bt<|.jb (some 64) 7<|.ex fun (x13:Bool)=>ao (.jn ⟨[(2,(.b x13))],[],H0⟩)<|.nil) (C6<|.jb (some 64) 7<|.ex fun (x9:Bool)=>ao (.jn ⟨[(2,(.b x9))],[],H0⟩)<|.nil)) (I2<|.jb (some 64) 7<|.ex fun (x8:Bool)=>ao (.jn ⟨[(2,(.b x8))],[],H0⟩)<|.nil)) (bf<|bf<|bf<|bf<|bf<|bf<|bf<|bf<|bf<|bf<|bf<|bf<|bf<|bf<|bf<|.jb (some 64) 7<|.ex fun (x7:Bool)=>ao (.jn ⟨[(2,(.b x7))],[],H0⟩)<|.nil)) fun L=>ai (rfl:Z0)<|aA h (fun h6 h=>wX h6<|aA h (fun h7 h=>ek h7<|ai (aK aj a0.Args)<|fX h7<|aA h (fun h8 h=>ek h8<|ai (rI 0)<|cu h fun y9 h10 h=>ai (ej aj h10 (cD _))<|dG h8<|ar h (hR.f_R_isExpr y9) fun r11 h=>ai h8<|ar h (kL R hR a0 r3 r11 [(.b r11),(.a (aT y9)),(.e (.a (aT y9)) 0),(.l 34 (a0.Args.map aj)),(.p ⟨0,1⟩ 4),(.b ((a0.Args.length:Int)==2)),(.b ((a0.Args.length:Int)==2)),(.b ((a0.Args.length:Int)==2)),(I (a0.Args.length:Int)),(.l 34 (a0.Args.map aj)),(.p ⟨0,1⟩ 4),(.b (a0.Name==([]:List UInt8))),(.b (a0.Name==([]:List UInt8))),(.b (a0.Name==([]:List UInt8))),(.s a0.Name),(.p ⟨0,1⟩ 3)]) fun x13 h=>L h) (fun h8 h=>C0 h8<|ar h (kL R hR a0 r3 false [.sk,.sk,.sk,.sk,.sk,(.b ((a0.Args.length:Int)==2)),(.b ((a0.Args.length:Int)==2)),(.b ((a0.Args.length:Int)==2)),(I (a0.Args.length:Int)),(.l 34 (a0.Args.map aj)),(.p ⟨0,1⟩ 4),(.b (a0.Name==([]:List UInt8))),(.b (a0.Name==([]:List UInt8))),(.b (a0.Name==([]:List UInt8))),(.s a0.Name),(.p ⟨0,1⟩ 3)]) fun x9 h=>L h)) (fun h7 h=>ai (g1 h7)<|ai (g1 h7)<|ai (g1 h7)<|ai (g1 h7)<|ai h7<|ai gf<|ai gf<|ai gf<|ai gf<|ai gf<|ai ff<|ar h (kL R hR a0 r3 false [.sk,.sk,.sk,.sk,.sk,(.b false),(.b false),.sk,.sk,.sk,.sk,(.b (a0.Name==([]:List UInt8))),(.b (a0.Name==([]:List UInt8))),(.b (a0.Name==([]:List UInt8))),(.s a0.Name),(.p ⟨0,1⟩ 3)]) fun x8 h=>L h)) (fun h6 h=>ai (g1 h6)<|ai (g1 h6)<|ai (g1 h6)<|ai h6<|ai gf<|ai gf<|ai gf<|ai gf<|ai ff<|ai gf<|ai gf<|ai gf<|ai gf<|ai gf<|ai ff<|ar h (kL R hR a0 r3 false [.sk,.sk,.sk,.sk,.sk,(.b false),(.b false),.sk,.sk,.sk,.sk,(.b false),(.b false),.sk,.sk,.sk]) fun x7 h=>L h)
def og:Option Bool:=
 if (a0.Kind==1)=true then
  if (a0.Name==([]:List UInt8))=true then
   if ((a0.Args.length:Int)==0)=true then
    (dv a0.N (-9999999) 9999999).bind fun (r4:Bool)=>
    some r4
   else
    some false
  else
   some false
 else
  if (a0.Kind==2)=true then
   if (a0.N==0)=true then
    if ((a0.Args.length:Int)==0)=true then
     (cA a0.Name).bind fun (r5:Bool)=>
     some r5
    else
     some false
   else
    some false
  else
   (dv a0.Kind 3 7).bind fun (r3:Bool)=>
   if r3=true then
    (oL R a0 r3).bind fun (x6:Bool)=>
    some x6
   else
    some false
theorem yk(hR:oe R)(a0:ad)(r:Bool)(h:og R a0=some r):rZ a0 r:=
 aG QM (bt<|.or (b9<|.or (cJ<|ao (.i (a0.Args.length:Int))<|b9<|.or (cJ<|xB fun r4=>bt<|.nil) (ti<|.nil)) (Ax<|.nil)) (bf<|bt<|.or (b9<|.or (cJ<|ao (.i (a0.Args.length:Int))<|b9<|.or (cJ<|xB fun r5=>bt<|.nil) (ti<|.nil)) (Ax<|.nil)) (bf<|bt<|xB fun r3=>.or (bt<|.jb (some 43) 28<|.ex fun (x6:Bool)=>ao (.jn ⟨[(2,(.b x6))],[],H0⟩)<|.nil) (bf<|.nil)))) fun L=>oS<|aA h (fun h1 h=>lK h1<|aA h (fun h2 h=>ek h2<|ai (aK aj a0.Args)<|fX h2<|aA h (fun h3 h=>ek h3<|ar h (dC a0.N (-9999999) 9999999) fun r4 h=>ai h3<|L h) (fun h3 h=>qP h3<|L h)) (fun h2 h=>ES h2<|L h)) (fun h1 h=>lK h1<|aA h (fun h2 h=>lK h2<|aA h (fun h3 h=>ek h3<|ai (aK aj a0.Args)<|fX h3<|aA h (fun h4 h=>ek h4<|ar h (ck a0.Name) fun r5 h=>ai h4<|L h) (fun h4 h=>qP h4<|L h)) (fun h3 h=>ES h3<|L h)) (fun h2 h=>lK h2<|ar h (dC a0.Kind 3 7) fun r3 h=>aA h (fun h5 h=>ai h5<|ar h (yj R hR a0 r3) fun x6 h=>L h) (fun h5 h=>ai h5<|L h)))
def kM:Nat→sa
 | 0=>⟨fun z0=>none⟩
 | n+1=>⟨og (kM n)⟩
theorem uA:∀ n,oe (kM n)
 | 0=>⟨fun _ r h=>(by cases h)⟩
 | n+1=>⟨fun a0 r h=>yk _ (uA n) a0 r h⟩
def hU:Option Bool:=ev fun n=>(kM n).f_R_isExpr a0
theorem gN(r:Bool)(h:hU a0=some r):rZ a0 r:=by
 obtain ⟨n,hn⟩:=mq h
 exact (uA n).f_R_isExpr a0 r hn
end
section
variable (a0:(List aa))
abbrev AP(a0:(List aa))(r:Bool):aW×HP:=(.ret (.b r),H0)
abbrev pM(r:Bool):Prop:=call G Ω0 E0 15 [(.l 36 (a0.map ab))] H0=some (AP a0 r)
end
structure iI where
 f_R_areStmts:(List aa)→Option Bool
structure dX(R:iI):Prop where
 f_R_areStmts:∀ (a0:(List aa))(r:Bool),R.f_R_areStmts a0=some r→pM a0 r
section
variable (R:iI)(a0:(List aa))
def fQ(R:iI)(a0:(List aa))(v0_3:Nat)(y2:aa)(r4:Bool)(r10:Bool)(r12:Bool)(v1_10:Bool)(v1_11:Nat):Option ((Bool×Nat)⊕(Bool×Nat×Bool)):=
 if (v1_11:Int)<(y2.Args.length:Int) then
  if v1_10=true then
   (y2.Args[v1_11]?).bind fun (y16:ad)=>
   (hU y16).bind fun (r18:Bool)=>
   if IntKind.i64.wrap ((v1_11:Int)+1)=((v1_11+1:Nat):Int) then
    some (.inl (r18,v1_11+1))
   else none
  else
   if IntKind.i64.wrap ((v1_11:Int)+1)=((v1_11+1:Nat):Int) then
    some (.inl (false,v1_11+1))
   else none
 else
  some (.inr (v1_10,v1_11,decide ((v1_11:Int)<(y2.Args.length:Int))))
abbrev yl(v0_3:Nat)(y2:aa)(r4:Bool)(r10:Bool)(r12:Bool)(v:(Bool×Nat)):St:=⟨[(0,(.l 36 (a0.map ab))),(3,(I (v0_3:Int))),(4,(.p ⟨0,4⟩ 0)),(5,(.b r10)),(6,(.b r12)),(7,(.b r4)),(8,(.b ((y2.Then.length:Int)==0))),(9,(.b ((y2.Else.length:Int)==0))),(10,(.b v.1)),(11,(I (v.2:Int)))],[(4,(aO y2))],H0⟩
abbrev ym(v0_3:Nat)(y2:aa)(r4:Bool)(r10:Bool)(r12:Bool)(x:(Bool×Nat×Bool)):aE×St:=((.ex 3),⟨[(0,(.l 36 (a0.map ab))),(3,(I (v0_3:Int))),(4,(.p ⟨0,4⟩ 0)),(5,(.b r10)),(6,(.b r12)),(7,(.b r4)),(8,(.b ((y2.Then.length:Int)==0))),(9,(.b ((y2.Else.length:Int)==0))),(10,(.b x.1)),(11,(I (x.2.1:Int))),(67,(.b x.2.2))],[(4,(aO y2))],H0⟩)
theorem we(hR:dX R)(a0:(List aa))(v0_3:Nat)(y2:aa)(r4:Bool)(r10:Bool)(r12:Bool)(v1_10:Bool)(v1_11:Nat)(o:(Bool×Nat)⊕(Bool×Nat×Bool))(h:fQ R a0 v0_3 y2 r4 r10 r12 v1_10 v1_11=some o):bF E0 FN (yl a0 v0_3 y2 r4 r10 r12) (ym a0 v0_3 y2 r4 r10 r12) (v1_10,v1_11) o:=
 bP (bt<|ao (.i (y2.Args.length:Int))<|.or (bt<|.or (kS<|ao (.n v1_11)<|.ex fun (y16:ad)=>ao (.v (.a (aT y16)))<|b9<|xB fun r18=>bt<|ao (.i ((v1_11+1:Nat):Int))<|.nil) (C2<|ao (.i ((v1_11+1:Nat):Int))<|.nil)) (bf<|.nil)) fun L=>ai (rfl:Z0)<|ai (aK aj y2.Args)<|bq h (fun h14 h=>ai (decide_eq_true h14)<|aA h (fun h15 h=>ai (g1 h15)<|ai (g1 h15)<|ai (rfl:Z0)<|ai (g1 h15)<|ai (g1 h15)<|ai (rI v1_11)<|cu h fun y16 h17 h=>ai (ej aj h17 (cD _))<|dG h15<|ar h (gN y16) fun r18 h=>ai h15<|aY h fun w20 h=>ai w20<|L h) (fun h15 h=>EP h15<|aY h fun w16 h=>ai w16<|L h)) (fun h14 h=>ai (decide_eq_false h14)<|L h)
def hY(v0_3:Nat)(y2:aa)(r4:Bool)(w1_1:Bool):Option ((Bool×Bool×Bool×Bool×Bool)⊕((Bool×Bool×Bool×Nat×Bool)⊕Unit)):=
 if w1_1=true then
  (cA y2.Name).bind fun (r9:Bool)=>
  (hU y2.Expr).bind fun (r11:Bool)=>
  some (.inl (r9,y2.Other==([]:List UInt8),r11,(y2.Then.length:Int)==0,(y2.Else.length:Int)==0))
 else
  if (y2.Kind==2)=true then
   (cA y2.Name).bind fun (r10:Bool)=>
   (cA y2.Other).bind fun (r12:Bool)=>
   (lp (fun v=>fQ R a0 v0_3 y2 r4 r10 r12 v.1 v.2) (true,0)).bind fun (x14:(Bool×Nat×Bool))=>
   some (.inr (.inl (r10,r12,x14.1,x14.2.1,x14.2.2)))
  else
   if (y2.Kind==3)=true then
    (cA y2.Name).bind fun (r11:Bool)=>
    (cA y2.Other).bind fun (r13:Bool)=>
    some (.inl (r11,r13,r4,(y2.Then.length:Int)==0,(y2.Else.length:Int)==0))
   else
    if (y2.Kind==4)=true then
     (cA y2.Other).bind fun (r12:Bool)=>
     (hU y2.Expr).bind fun (r14:Bool)=>
     some (.inl (y2.Name==([]:List UInt8),r12,r14,(y2.Then.length:Int)==0,(y2.Else.length:Int)==0))
    else
     if (y2.Kind==7)=true then
      (hU y2.Expr).bind fun (r13:Bool)=>
      (R.f_R_areStmts y2.Then).bind fun (r15:Bool)=>
      (R.f_R_areStmts y2.Else).bind fun (r17:Bool)=>
      some (.inl (y2.Name==([]:List UInt8),y2.Other==([]:List UInt8),r13,r15,r17))
     else
      if (y2.Kind==8)=true then
       (hU y2.Expr).bind fun (r14:Bool)=>
       (R.f_R_areStmts y2.Then).bind fun (r16:Bool)=>
       some (.inl (y2.Name==([]:List UInt8),y2.Other==([]:List UInt8),r14,r16,(y2.Else.length:Int)==0))
      else
       some (.inr (.inr ()))
abbrev wg(v0_3:Nat)(y2:aa)(r4:Bool)(w1_1:Bool)(x:((Bool×Bool×Bool×Bool×Bool)⊕((Bool×Bool×Bool×Nat×Bool)⊕Unit))):aE×St:=match x with | .inl (zb1,zb2,zb3,zb4,zb5)=>(.nrm,⟨[(0,(.l 36 (a0.map ab))),(3,(I (v0_3:Int))),(5,(.b zb1)),(6,(.b zb2)),(7,(.b zb3)),(8,(.b zb4)),(9,(.b zb5)),(10,(.b ((y2.Args.length:Int)==0)))],[],H0⟩) | .inr (.inl (z1,z2,z3,z4,z5))=>(.nrm,⟨[(0,(.l 36 (a0.map ab))),(3,(I (v0_3:Int))),(4,(.p ⟨0,4⟩ 0)),(5,(.b z1)),(6,(.b z2)),(7,(.b r4)),(8,(.b ((y2.Then.length:Int)==0))),(9,(.b ((y2.Else.length:Int)==0))),(10,(.b z3)),(11,(I (z4:Int))),(67,(.b z5))],[(4,(aO y2))],H0⟩) | .inr (.inr ())=>(.ret,⟨[(2,(.b false))],[],H0⟩)
theorem ml(hR:dX R)(a0:(List aa))(v0_3:Nat)(y2:aa)(r4:Bool)(w1_1:Bool)(x:((Bool×Bool×Bool×Bool×Bool)⊕((Bool×Bool×Bool×Nat×Bool)⊕Unit)))(h:hY R a0 v0_3 y2 r4 w1_1=some x):run G Ω0 E0 FO ⟨[(0,(.l 36 (a0.map ab))),(3,(I (v0_3:Int))),(4,(.p ⟨0,4⟩ 0)),(5,(.b (y2.Name==([]:List UInt8)))),(6,(.b (y2.Other==([]:List UInt8)))),(7,(.b r4)),(8,(.b ((y2.Then.length:Int)==0))),(9,(.b ((y2.Else.length:Int)==0))),(10,(.b ((y2.Args.length:Int)==0))),(44,(I y2.Kind)),(45,(.b w1_1))],[(4,(aO y2))],H0⟩=some (wg a0 v0_3 y2 r4 w1_1 x):=
 lX (.or (b9<|xB fun r9=>bt<|xB fun r11=>.nil) (bf<|.or (b9<|xB fun r10=>bt<|xB fun r12=>.ex fun (x14:(Bool×Nat×Bool))=>ao (.lp (.ex 3) ⟨[(0,(.l 36 (a0.map ab))),(3,(I (v0_3:Int))),(4,(.p ⟨0,4⟩ 0)),(5,(.b r10)),(6,(.b r12)),(7,(.b r4)),(8,(.b ((y2.Then.length:Int)==0))),(9,(.b ((y2.Else.length:Int)==0))),(10,(.b x14.1)),(11,(I (x14.2.1:Int))),(67,(.b x14.2.2))],[(4,(aO y2))],H0⟩)<|.nil) (bf<|.or (b9<|xB fun r11=>bt<|xB fun r13=>.nil) (bf<|.or (b9<|xB fun r12=>bt<|xB fun r14=>.nil) (bf<|.or (b9<|xB fun r13=>bt<|xB fun r15=>bt<|xB fun r17=>.nil) (bf<|.or (b9<|xB fun r14=>bt<|xB fun r16=>.nil) (bf<|.nil))))))) fun L=>aA h (fun h8 h=>wZ h8<|ar h (ck y2.Name) fun r9 h=>uO<|ar h (gN y2.Expr) fun r11 h=>L h) (fun h8 h=>ai h8<|aA h (fun h9 h=>wZ h9<|ar h (ck y2.Name) fun r10 h=>uO<|ar h (ck y2.Other) fun r12 h=>ar h (e5 (fun v=>we R hR a0 v0_3 y2 r4 r10 r12 v.1 v.2) (true,0)) fun x14 h=>L h) (fun h9 h=>ai h9<|aA h (fun h10 h=>wZ h10<|ar h (ck y2.Name) fun r11 h=>uO<|ar h (ck y2.Other) fun r13 h=>L h) (fun h10 h=>ai h10<|aA h (fun h11 h=>wZ h11<|ar h (ck y2.Other) fun r12 h=>uO<|ar h (gN y2.Expr) fun r14 h=>L h) (fun h11 h=>ai h11<|aA h (fun h12 h=>wZ h12<|ar h (gN y2.Expr) fun r13 h=>uO<|ar h (hR.f_R_areStmts y2.Then) fun r15 h=>uO<|ar h (hR.f_R_areStmts y2.Else) fun r17 h=>L h) (fun h12 h=>ai h12<|aA h (fun h13 h=>wZ h13<|ar h (gN y2.Expr) fun r14 h=>uO<|ar h (hR.f_R_areStmts y2.Then) fun r16 h=>L h) (fun h13 h=>ai h13<|L h))))))
def qx:List bU:=(gM 128 127)::⟨some 129,.mv 9,some ⟨128,false⟩,false⟩::⟨some 130,.no 129,some ⟨128,false⟩,false⟩::(gp 131 (.pk 128 (.c (.b true)) 130))::(gM 132 131)::⟨some 133,.mv 10,some ⟨132,false⟩,false⟩::⟨some 134,.no 133,some ⟨132,false⟩,false⟩::(gp 135 (.pk 132 (.c (.b true)) 134))::[]
def eW(R:iI)(a0:(List aa))(v0_3:Nat)(w3_1:Bool)(w3_2:Bool)(w3_3:Bool)(w3_4:Bool)(w3_5:Bool)(w3_6:Bool)(u2_1:Bool):Option Bool:=
 if u2_1=true then
  some true
 else
  if w3_5=true then
   some (!w3_6)
  else
   some true
abbrev wh(v0_3:Nat)(w3_1:Bool)(w3_2:Bool)(w3_3:Bool)(w3_4:Bool)(w3_5:Bool)(w3_6:Bool)(u2_1:Bool)(x:Bool):St:=⟨[(0,(.l 36 (a0.map ab))),(3,(I (v0_3:Int))),(135,(.b x))],[],H0⟩
theorem ja(hR:dX R)(a0:(List aa))(v0_3:Nat)(w3_1:Bool)(w3_2:Bool)(w3_3:Bool)(w3_4:Bool)(w3_5:Bool)(w3_6:Bool)(u2_1:Bool)(w:List AV)(x:Bool)(h:eW R a0 v0_3 w3_1 w3_2 w3_3 w3_4 w3_5 w3_6 u2_1=some x):dx G Ω0 E0 [0,3,135] [] qx ⟨[(127,(.b u2_1)),(126,(W w 0)),(125,(W w 1)),(124,(W w 2)),(123,(W w 3)),(122,(W w 4)),(121,(W w 5)),(120,(W w 6)),(119,(W w 7)),(118,(W w 8)),(117,(W w 9)),(116,(.b (!w3_1))),(115,(.b (!w3_1))),(114,(.b w3_1)),(0,(.l 36 (a0.map ab))),(3,(I (v0_3:Int))),(5,(.b w3_1)),(6,(.b w3_2)),(7,(.b w3_3)),(8,(.b w3_4)),(9,(.b w3_5)),(10,(.b w3_6))],[],H0⟩=some (wh a0 v0_3 w3_1 w3_2 w3_3 w3_4 w3_5 w3_6 u2_1 x):=
 cC (.or (bf<|bf<|bt<|bf<|bf<|bt<|.nil) (ux<|.or (ux<|.nil) (bf<|bf<|bt<|.nil))) fun L=>aA h (fun h14 h=>ai (g0 h14)<|ai (g0 h14)<|ai h14<|ai ht<|ai ht<|ai tt<|L h) (fun h14 h=>qO h14<|aA h (fun h15 h=>qO (congrArg not h15)<|L h) (fun h15 h=>qO (congrArg not h15)<|L h))
def wi:List bU:=(gM 114 5)::(gp 115 (.no 114))::(gM 116 115)::⟨some 117,.mv 6,some ⟨116,false⟩,false⟩::⟨some 118,.no 117,some ⟨116,false⟩,false⟩::(gp 119 (.pk 116 (.c (.b true)) 118))::(gM 120 119)::⟨some 121,.mv 7,some ⟨120,false⟩,false⟩::⟨some 122,.no 121,some ⟨120,false⟩,false⟩::(gp 123 (.pk 120 (.c (.b true)) 122))::(gM 124 123)::⟨some 125,.mv 8,some ⟨124,false⟩,false⟩::⟨some 126,.no 125,some ⟨124,false⟩,false⟩::(gp 127 (.pk 124 (.c (.b true)) 126))::qx
def np(v0_3:Nat)(w3_1:Bool)(w3_2:Bool)(w3_3:Bool)(w3_4:Bool)(w3_5:Bool)(w3_6:Bool):Option Bool:=
 if w3_1=true then
  if w3_2=true then
   if w3_3=true then
    (eW R a0 v0_3 w3_1 w3_2 w3_3 w3_4 w3_5 w3_6 (!w3_4)).bind fun (x14:Bool)=>
    some x14
   else
    (eW R a0 v0_3 w3_1 w3_2 w3_3 w3_4 w3_5 w3_6 true).bind fun (x14:Bool)=>
    some x14
  else
   (eW R a0 v0_3 w3_1 w3_2 w3_3 w3_4 w3_5 w3_6 true).bind fun (x13:Bool)=>
   some x13
 else
  (eW R a0 v0_3 w3_1 w3_2 w3_3 w3_4 w3_5 w3_6 true).bind fun (x12:Bool)=>
  some x12
abbrev wj(v0_3:Nat)(w3_1:Bool)(w3_2:Bool)(w3_3:Bool)(w3_4:Bool)(w3_5:Bool)(w3_6:Bool)(x:Bool):St:=⟨[(0,(.l 36 (a0.map ab))),(3,(I (v0_3:Int))),(135,(.b x))],[],H0⟩
theorem uY(hR:dX R)(a0:(List aa))(v0_3:Nat)(w3_1:Bool)(w3_2:Bool)(w3_3:Bool)(w3_4:Bool)(w3_5:Bool)(w3_6:Bool)(x:Bool)(h:np R a0 v0_3 w3_1 w3_2 w3_3 w3_4 w3_5 w3_6=some x):dx G Ω0 E0 [0,3,135] [] wi ⟨[(0,(.l 36 (a0.map ab))),(3,(I (v0_3:Int))),(5,(.b w3_1)),(6,(.b w3_2)),(7,(.b w3_3)),(8,(.b w3_4)),(9,(.b w3_5)),(10,(.b w3_6))],[],H0⟩=some (wj a0 v0_3 w3_1 w3_2 w3_3 w3_4 w3_5 w3_6 x):=
 cC (.or (ux<|.or (ux<|.or (ux<|.jb (some 128) 7<|.ex fun (x14:Bool)=>ao (.jn ⟨[(0,(.l 36 (a0.map ab))),(3,(I (v0_3:Int))),(135,(.b x14))],[],H0⟩)<|.nil) (bf<|bf<|bt<|.jb (some 128) 7<|.ex fun (x14:Bool)=>ao (.jn ⟨[(0,(.l 36 (a0.map ab))),(3,(I (v0_3:Int))),(135,(.b x14))],[],H0⟩)<|.nil)) (bf<|bf<|bt<|bf<|bf<|bt<|.jb (some 128) 7<|.ex fun (x13:Bool)=>ao (.jn ⟨[(0,(.l 36 (a0.map ab))),(3,(I (v0_3:Int))),(135,(.b x13))],[],H0⟩)<|.nil)) (bf<|bf<|bt<|bf<|bf<|bt<|bf<|bf<|bt<|.jb (some 128) 7<|.ex fun (x12:Bool)=>ao (.jn ⟨[(0,(.l 36 (a0.map ab))),(3,(I (v0_3:Int))),(135,(.b x12))],[],H0⟩)<|.nil)) fun L=>aA h (fun h11 h=>qO (congrArg not h11)<|aA h (fun h12 h=>qO (congrArg not h12)<|aA h (fun h13 h=>qO (congrArg not h13)<|ar h (ja R hR a0 v0_3 w3_1 w3_2 w3_3 w3_4 w3_5 w3_6 (!w3_4) [(.b (!w3_4)),(.b w3_4),(.b (!w3_3)),(.b (!w3_3)),(.b (!w3_3)),(.b w3_3),(.b (!w3_2)),(.b (!w3_2)),(.b (!w3_2)),(.b w3_2)]) fun x14 h=>L h) (fun h13 h=>qO (congrArg not h13)<|ar h (ja R hR a0 v0_3 w3_1 w3_2 w3_3 w3_4 w3_5 w3_6 true [.sk,.sk,(.b (!w3_3)),(.b (!w3_3)),(.b (!w3_3)),(.b w3_3),(.b (!w3_2)),(.b (!w3_2)),(.b (!w3_2)),(.b w3_2)]) fun x14 h=>L h)) (fun h12 h=>ai (g0 (congrArg not h12))<|ai (g0 (congrArg not h12))<|ai (congrArg not h12)<|ai ht<|ai ht<|ai tt<|ar h (ja R hR a0 v0_3 w3_1 w3_2 w3_3 w3_4 w3_5 w3_6 true [.sk,.sk,(.b true),(.b true),.sk,.sk,(.b (!w3_2)),(.b (!w3_2)),(.b (!w3_2)),(.b w3_2)]) fun x13 h=>L h)) (fun h11 h=>ai (g0 (congrArg not h11))<|ai (g0 (congrArg not h11))<|ai (congrArg not h11)<|ai ht<|ai ht<|ai tt<|ai ht<|ai ht<|ai tt<|ar h (ja R hR a0 v0_3 w3_1 w3_2 w3_3 w3_4 w3_5 w3_6 true [.sk,.sk,(.b true),(.b true),.sk,.sk,(.b true),(.b true),.sk,.sk]) fun x12 h=>L h)
def dq(v0_3:Nat)(w3_1:Bool)(w3_2:Bool)(w3_3:Bool)(w3_4:Bool)(w3_5:Bool)(w3_6:Bool):Option (Unit⊕Bool):=
 (np R a0 v0_3 w3_1 w3_2 w3_3 w3_4 w3_5 w3_6).bind fun (x11:Bool)=>
 if x11=true then
  some (.inl ())
 else
  some (.inr x11)
abbrev wk(v0_3:Nat)(w3_1:Bool)(w3_2:Bool)(w3_3:Bool)(w3_4:Bool)(w3_5:Bool)(w3_6:Bool)(x:(Unit⊕Bool)):aE×St:=match x with | .inl ()=>(.ret,⟨[(2,(.b false))],[],H0⟩) | .inr z1=>(.nrm,⟨[(0,(.l 36 (a0.map ab))),(3,(I (v0_3:Int))),(135,(.b z1))],[],H0⟩)
theorem et(hR:dX R)(a0:(List aa))(v0_3:Nat)(w3_1:Bool)(w3_2:Bool)(w3_3:Bool)(w3_4:Bool)(w3_5:Bool)(w3_6:Bool)(x:(Unit⊕Bool))(h:dq R a0 v0_3 w3_1 w3_2 w3_3 w3_4 w3_5 w3_6=some x):run G Ω0 E0 FP ⟨[(0,(.l 36 (a0.map ab))),(3,(I (v0_3:Int))),(5,(.b w3_1)),(6,(.b w3_2)),(7,(.b w3_3)),(8,(.b w3_4)),(9,(.b w3_5)),(10,(.b w3_6))],[],H0⟩=some (wk a0 v0_3 w3_1 w3_2 w3_3 w3_4 w3_5 w3_6 x):=
 lX (.jb (some 114) 21<|.ex fun (x11:Bool)=>ao (.jn ⟨[(0,(.l 36 (a0.map ab))),(3,(I (v0_3:Int))),(135,(.b x11))],[],H0⟩)<|oN (.nil)) fun L=>ar h (uY R hR a0 v0_3 w3_1 w3_2 w3_3 w3_4 w3_5 w3_6) fun x11 h=>aA h (fun h13 h=>ai h13<|L h) (fun h13 h=>ai h13<|L h)
def fR(v0_3:Nat):Option (Nat⊕(Unit⊕(Nat×Bool))):=
 if (v0_3:Int)<(a0.length:Int) then
  (a0[v0_3]?).bind fun (y2:aa)=>
  (nj y2.Expr).bind fun (r4:Bool)=>
  if (y2.Kind==1)=true then
   (hY R a0 v0_3 y2 r4 (y2.Kind==1)).bind fun (x7:((Bool×Bool×Bool×Bool×Bool)⊕((Bool×Bool×Bool×Nat×Bool)⊕Unit)))=>match x7 with
   | .inl ya_8=>
    (dq R a0 v0_3 ya_8.1 ya_8.2.1 ya_8.2.2.1 ya_8.2.2.2.1 ya_8.2.2.2.2 ((y2.Args.length:Int)==0)).bind fun (x10:(Unit⊕Bool))=>match x10 with
    | .inl ya_11=>
     some (.inr (.inl ()))
    | .inr yb_11=>
     if IntKind.i64.wrap ((v0_3:Int)+1)=((v0_3+1:Nat):Int) then
      some (.inl (v0_3+1))
     else none
   | .inr (.inl yb_8)=>
    (dq R a0 v0_3 yb_8.1 yb_8.2.1 r4 ((y2.Then.length:Int)==0) ((y2.Else.length:Int)==0) yb_8.2.2.1).bind fun (x10:(Unit⊕Bool))=>match x10 with
    | .inl ya_11=>
     some (.inr (.inl ()))
    | .inr yb_11=>
     if IntKind.i64.wrap ((v0_3:Int)+1)=((v0_3+1:Nat):Int) then
      some (.inl (v0_3+1))
     else none
   | .inr (.inr yc_8)=>
    some (.inr (.inl ()))
  else
   if (y2.Kind==5)=true then
    (hY R a0 v0_3 y2 r4 (y2.Kind==5)).bind fun (x8:((Bool×Bool×Bool×Bool×Bool)⊕((Bool×Bool×Bool×Nat×Bool)⊕Unit)))=>match x8 with
    | .inl ya_9=>
     (dq R a0 v0_3 ya_9.1 ya_9.2.1 ya_9.2.2.1 ya_9.2.2.2.1 ya_9.2.2.2.2 ((y2.Args.length:Int)==0)).bind fun (x11:(Unit⊕Bool))=>match x11 with
     | .inl ya_12=>
      some (.inr (.inl ()))
     | .inr yb_12=>
      if IntKind.i64.wrap ((v0_3:Int)+1)=((v0_3+1:Nat):Int) then
       some (.inl (v0_3+1))
      else none
    | .inr (.inl yb_9)=>
     (dq R a0 v0_3 yb_9.1 yb_9.2.1 r4 ((y2.Then.length:Int)==0) ((y2.Else.length:Int)==0) yb_9.2.2.1).bind fun (x11:(Unit⊕Bool))=>match x11 with
     | .inl ya_12=>
      some (.inr (.inl ()))
     | .inr yb_12=>
      if IntKind.i64.wrap ((v0_3:Int)+1)=((v0_3+1:Nat):Int) then
       some (.inl (v0_3+1))
      else none
    | .inr (.inr yc_9)=>
     some (.inr (.inl ()))
   else
    (hY R a0 v0_3 y2 r4 (y2.Kind==6)).bind fun (x8:((Bool×Bool×Bool×Bool×Bool)⊕((Bool×Bool×Bool×Nat×Bool)⊕Unit)))=>match x8 with
    | .inl ya_9=>
     (dq R a0 v0_3 ya_9.1 ya_9.2.1 ya_9.2.2.1 ya_9.2.2.2.1 ya_9.2.2.2.2 ((y2.Args.length:Int)==0)).bind fun (x11:(Unit⊕Bool))=>match x11 with
     | .inl ya_12=>
      some (.inr (.inl ()))
     | .inr yb_12=>
      if IntKind.i64.wrap ((v0_3:Int)+1)=((v0_3+1:Nat):Int) then
       some (.inl (v0_3+1))
      else none
    | .inr (.inl yb_9)=>
     (dq R a0 v0_3 yb_9.1 yb_9.2.1 r4 ((y2.Then.length:Int)==0) ((y2.Else.length:Int)==0) yb_9.2.2.1).bind fun (x11:(Unit⊕Bool))=>match x11 with
     | .inl ya_12=>
      some (.inr (.inl ()))
     | .inr yb_12=>
      if IntKind.i64.wrap ((v0_3:Int)+1)=((v0_3+1:Nat):Int) then
       some (.inl (v0_3+1))
      else none
    | .inr (.inr yc_9)=>
     some (.inr (.inl ()))
 else
  some (.inr (.inr (v0_3,decide ((v0_3:Int)<(a0.length:Int)))))
abbrev yn(v:Nat):St:=⟨[(0,(.l 36 (a0.map ab))),(3,(I (v:Int)))],[],H0⟩
abbrev yp(x:(Unit⊕(Nat×Bool))):aE×St:=match x with | .inl ()=>(.ret,⟨[(2,(.b false))],[],H0⟩) | .inr (z1,z2)=>((.ex 0),⟨[(0,(.l 36 (a0.map ab))),(3,(I (z1:Int))),(15,(.b z2))],[],H0⟩)
theorem wm(hR:dX R)(a0:(List aa))(v0_3:Nat)(o:Nat⊕(Unit⊕(Nat×Bool)))(h:fR R a0 v0_3=some o):bF E0 FQ (yn a0) (yp a0) v0_3 o:=
 bP (ao (.i (a0.length:Int))<|.or (bt<|ao (.n v0_3)<|.ex fun (y2:aa)=>ao (.v (.a (aO y2)))<|kS<|xB fun r4=>bt<|ao (.i (y2.Then.length:Int))<|bt<|ao (.i (y2.Else.length:Int))<|bt<|ao (.i (y2.Args.length:Int))<|bt<|.or (bt<|.fb<|.or (.ex fun (ya_8:(Bool×Bool×Bool×Bool×Bool))=>ao (.fr .nrm ⟨[(0,(.l 36 (a0.map ab))),(3,(I (v0_3:Int))),(5,(.b ya_8.1)),(6,(.b ya_8.2.1)),(7,(.b ya_8.2.2.1)),(8,(.b ya_8.2.2.2.1)),(9,(.b ya_8.2.2.2.2)),(10,(.b ((y2.Args.length:Int)==0)))],[],H0⟩)<|.fb<|.or (.ex fun (ya_11:Unit)=>ao (.fr .ret ⟨[(2,(.b false))],[],H0⟩)<|.nil) (.ex fun (yb_11:Bool)=>ao (.fr .nrm ⟨[(0,(.l 36 (a0.map ab))),(3,(I (v0_3:Int))),(135,(.b yb_11))],[],H0⟩)<|ao (.i ((v0_3+1:Nat):Int))<|.nil)) (.or (.ex fun (yb_8:(Bool×Bool×Bool×Nat×Bool))=>ao (.fr .nrm ⟨[(0,(.l 36 (a0.map ab))),(3,(I (v0_3:Int))),(4,(.p ⟨0,4⟩ 0)),(5,(.b yb_8.1)),(6,(.b yb_8.2.1)),(7,(.b r4)),(8,(.b ((y2.Then.length:Int)==0))),(9,(.b ((y2.Else.length:Int)==0))),(10,(.b yb_8.2.2.1)),(11,(I (yb_8.2.2.2.1:Int))),(67,(.b yb_8.2.2.2.2))],[(4,(aO y2))],H0⟩)<|.fb<|.or (.ex fun (ya_11:Unit)=>ao (.fr .ret ⟨[(2,(.b false))],[],H0⟩)<|.nil) (.ex fun (yb_11:Bool)=>ao (.fr .nrm ⟨[(0,(.l 36 (a0.map ab))),(3,(I (v0_3:Int))),(135,(.b yb_11))],[],H0⟩)<|ao (.i ((v0_3+1:Nat):Int))<|.nil)) (.ex fun (yc_8:Unit)=>ao (.fr .ret ⟨[(2,(.b false))],[],H0⟩)<|.nil))) (bf<|.or (bt<|.fb<|.or (.ex fun (ya_9:(Bool×Bool×Bool×Bool×Bool))=>ao (.fr .nrm ⟨[(0,(.l 36 (a0.map ab))),(3,(I (v0_3:Int))),(5,(.b ya_9.1)),(6,(.b ya_9.2.1)),(7,(.b ya_9.2.2.1)),(8,(.b ya_9.2.2.2.1)),(9,(.b ya_9.2.2.2.2)),(10,(.b ((y2.Args.length:Int)==0)))],[],H0⟩)<|.fb<|.or (.ex fun (ya_12:Unit)=>ao (.fr .ret ⟨[(2,(.b false))],[],H0⟩)<|.nil) (.ex fun (yb_12:Bool)=>ao (.fr .nrm ⟨[(0,(.l 36 (a0.map ab))),(3,(I (v0_3:Int))),(135,(.b yb_12))],[],H0⟩)<|ao (.i ((v0_3+1:Nat):Int))<|.nil)) (.or (.ex fun (yb_9:(Bool×Bool×Bool×Nat×Bool))=>ao (.fr .nrm ⟨[(0,(.l 36 (a0.map ab))),(3,(I (v0_3:Int))),(4,(.p ⟨0,4⟩ 0)),(5,(.b yb_9.1)),(6,(.b yb_9.2.1)),(7,(.b r4)),(8,(.b ((y2.Then.length:Int)==0))),(9,(.b ((y2.Else.length:Int)==0))),(10,(.b yb_9.2.2.1)),(11,(I (yb_9.2.2.2.1:Int))),(67,(.b yb_9.2.2.2.2))],[(4,(aO y2))],H0⟩)<|.fb<|.or (.ex fun (ya_12:Unit)=>ao (.fr .ret ⟨[(2,(.b false))],[],H0⟩)<|.nil) (.ex fun (yb_12:Bool)=>ao (.fr .nrm ⟨[(0,(.l 36 (a0.map ab))),(3,(I (v0_3:Int))),(135,(.b yb_12))],[],H0⟩)<|ao (.i ((v0_3+1:Nat):Int))<|.nil)) (.ex fun (yc_9:Unit)=>ao (.fr .ret ⟨[(2,(.b false))],[],H0⟩)<|.nil))) (bf<|.fb<|.or (.ex fun (ya_9:(Bool×Bool×Bool×Bool×Bool))=>ao (.fr .nrm ⟨[(0,(.l 36 (a0.map ab))),(3,(I (v0_3:Int))),(5,(.b ya_9.1)),(6,(.b ya_9.2.1)),(7,(.b ya_9.2.2.1)),(8,(.b ya_9.2.2.2.1)),(9,(.b ya_9.2.2.2.2)),(10,(.b ((y2.Args.length:Int)==0)))],[],H0⟩)<|.fb<|.or (.ex fun (ya_12:Unit)=>ao (.fr .ret ⟨[(2,(.b false))],[],H0⟩)<|.nil) (.ex fun (yb_12:Bool)=>ao (.fr .nrm ⟨[(0,(.l 36 (a0.map ab))),(3,(I (v0_3:Int))),(135,(.b yb_12))],[],H0⟩)<|ao (.i ((v0_3+1:Nat):Int))<|.nil)) (.or (.ex fun (yb_9:(Bool×Bool×Bool×Nat×Bool))=>ao (.fr .nrm ⟨[(0,(.l 36 (a0.map ab))),(3,(I (v0_3:Int))),(4,(.p ⟨0,4⟩ 0)),(5,(.b yb_9.1)),(6,(.b yb_9.2.1)),(7,(.b r4)),(8,(.b ((y2.Then.length:Int)==0))),(9,(.b ((y2.Else.length:Int)==0))),(10,(.b yb_9.2.2.1)),(11,(I (yb_9.2.2.2.1:Int))),(67,(.b yb_9.2.2.2.2))],[(4,(aO y2))],H0⟩)<|.fb<|.or (.ex fun (ya_12:Unit)=>ao (.fr .ret ⟨[(2,(.b false))],[],H0⟩)<|.nil) (.ex fun (yb_12:Bool)=>ao (.fr .nrm ⟨[(0,(.l 36 (a0.map ab))),(3,(I (v0_3:Int))),(135,(.b yb_12))],[],H0⟩)<|ao (.i ((v0_3+1:Nat):Int))<|.nil)) (.ex fun (yc_9:Unit)=>ao (.fr .ret ⟨[(2,(.b false))],[],H0⟩)<|.nil))))) (bf<|.nil)) fun L=>ai (aK ab a0)<|bq h (fun h1 h=>ai (decide_eq_true h1)<|ai (rI v0_3)<|cu h fun y2 h3 h=>ai (ej ab h3 (dN _))<|ai tt<|ai ff<|ai (rfl:Z0)<|ai tt<|ai (rfl:Z0)<|ai tt<|ai tt<|ai (rfl:Z0)<|ai tt<|ai tt<|ai tt<|ai (rfl:Z0)<|ai tt<|ai tt<|ai tt<|ai (rfl:Z0)<|ai tt<|ar h (sK y2.Expr) fun r4 h=>ai tt<|ai tt<|ai tt<|ai tt<|ai (rfl:Z0)<|ai tt<|ai (aK ab y2.Then)<|ai tt<|ai tt<|ai tt<|ai (rfl:Z0)<|ai tt<|ai (aK ab y2.Else)<|ai tt<|ai tt<|ai tt<|ai (rfl:Z0)<|ai tt<|ai (aK aj y2.Args)<|ai tt<|ai tt<|ai tt<|ai tt<|ai (rfl:Z0)<|aA h (fun h6 h=>ai h6<|CX h (ml R hR a0 v0_3 y2 r4 (y2.Kind==1)) (fun ya_8 h=>bD h (et R hR a0 v0_3 ya_8.1 ya_8.2.1 ya_8.2.2.1 ya_8.2.2.2.1 ya_8.2.2.2.2 ((y2.Args.length:Int)==0)) (fun ya_11 h=>L h) (fun yb_11 h=>aY h fun w13 h=>ai w13<|L h)) (fun yb_8 h=>bD h (et R hR a0 v0_3 yb_8.1 yb_8.2.1 r4 ((y2.Then.length:Int)==0) ((y2.Else.length:Int)==0) yb_8.2.2.1) (fun ya_11 h=>L h) (fun yb_11 h=>aY h fun w13 h=>ai w13<|L h)) (fun yc_8 h=>L h)) (fun h6 h=>ai h6<|aA h (fun h7 h=>ai h7<|CX h (ml R hR a0 v0_3 y2 r4 (y2.Kind==5)) (fun ya_9 h=>bD h (et R hR a0 v0_3 ya_9.1 ya_9.2.1 ya_9.2.2.1 ya_9.2.2.2.1 ya_9.2.2.2.2 ((y2.Args.length:Int)==0)) (fun ya_12 h=>L h) (fun yb_12 h=>aY h fun w14 h=>ai w14<|L h)) (fun yb_9 h=>bD h (et R hR a0 v0_3 yb_9.1 yb_9.2.1 r4 ((y2.Then.length:Int)==0) ((y2.Else.length:Int)==0) yb_9.2.2.1) (fun ya_12 h=>L h) (fun yb_12 h=>aY h fun w14 h=>ai w14<|L h)) (fun yc_9 h=>L h)) (fun h7 h=>ai h7<|CX h (ml R hR a0 v0_3 y2 r4 (y2.Kind==6)) (fun ya_9 h=>bD h (et R hR a0 v0_3 ya_9.1 ya_9.2.1 ya_9.2.2.1 ya_9.2.2.2.1 ya_9.2.2.2.2 ((y2.Args.length:Int)==0)) (fun ya_12 h=>L h) (fun yb_12 h=>aY h fun w14 h=>ai w14<|L h)) (fun yb_9 h=>bD h (et R hR a0 v0_3 yb_9.1 yb_9.2.1 r4 ((y2.Then.length:Int)==0) ((y2.Else.length:Int)==0) yb_9.2.2.1) (fun ya_12 h=>L h) (fun yb_12 h=>aY h fun w14 h=>ai w14<|L h)) (fun yc_9 h=>L h)))) (fun h1 h=>ai (decide_eq_false h1)<|L h)
def l5:Option Bool:=
 (lp (fun v=>fR R a0 v) 0).bind fun (x1:(Unit⊕(Nat×Bool)))=>match x1 with
 | .inl ya_2=>
  some false
 | .inr yb_2=>
  some true
theorem uZ(hR:dX R)(a0:(List aa))(r:Bool)(h:l5 R a0=some r):pM a0 r:=
 aG Qt (.or (.ex fun (ya_2:Unit)=>ao (.lp .ret ⟨[(2,(.b false))],[],H0⟩)<|.nil) (.ex fun (yb_2:(Nat×Bool))=>ao (.lp (.ex 0) ⟨[(0,(.l 36 (a0.map ab))),(3,(I (yb_2.1:Int))),(15,(.b yb_2.2))],[],H0⟩)<|.nil)) fun L=>bD h (e5 (wm R hR a0) 0) (fun ya_2 h=>L h) (fun yb_2 h=>L h)
def eK:Nat→iI
 | 0=>⟨fun z0=>none⟩
 | n+1=>⟨l5 (eK n)⟩
theorem sM:∀ n,dX (eK n)
 | 0=>⟨fun _ r h=>(by cases h)⟩
 | n+1=>⟨fun a0 r h=>uZ _ (sM n) a0 r h⟩
def nq:Option Bool:=ev fun n=>(eK n).f_R_areStmts a0
theorem qy(r:Bool)(h:nq a0=some r):pM a0 r:=by
 obtain ⟨n,hn⟩:=mq h
 exact (sM n).f_R_areStmts a0 r hn
def zH:List bU:=(gF 16 0 1)::(gQ 17 16)::(gB 18 .eql 17 (kI 2))::(gM 19 18)::⟨some 20,.fa 3 1,some ⟨19,true⟩,false⟩::⟨some 21,.ld none 20,some ⟨19,true⟩,false⟩::⟨some 22,.ca 0 35 [21],some ⟨19,true⟩,false⟩::⟨some 23,.no 22,some ⟨19,true⟩,false⟩::(gp 24 (.pk 19 23 (.c (.b false))))::(gM 25 24)::⟨some 26,.fa 0 1,some ⟨25,false⟩,false⟩::⟨some 27,.ld none 26,some ⟨25,false⟩,false⟩::⟨some 28,.bo .neq false 27 (kI 2),some ⟨25,false⟩,false⟩::⟨some 29,.mv 28,some ⟨25,false⟩,false⟩::⟨some 30,.fa 3 1,some ⟨29,true⟩,false⟩::⟨some 31,.ld none 30,some ⟨29,true⟩,false⟩::⟨some 32,.bo .neq false 31 (.c (.s [])),some ⟨29,true⟩,false⟩::⟨some 33,.pk 29 32 (.c (.b false)),some ⟨25,false⟩,false⟩::(gp 34 (.pk 25 (.c (.b true)) 33))::[]
end
section
variable (a0:aJ)
def oM:Option Bool:=
 if (a0.Kind==2)=true then
  (cA a0.Other).bind fun (r8:Bool)=>
  if r8=true then
   if (a0.Kind !=2)=true then
    some (!(a0.Other==([]:List UInt8)))
   else
    some false
  else
   some true
 else
  if (a0.Kind !=2)=true then
   some (!(a0.Other==([]:List UInt8)))
  else
   some false
abbrev zI(x:Bool):St:=⟨[(1,(.p ⟨0,1⟩ 0)),(34,(.b x))],[(1,(aq a0))],H0⟩
theorem yq(x:Bool)(h:oM a0=some x):dx G Ω0 E0 [1,34] [1] zH ⟨[(1,(.p ⟨0,1⟩ 0))],[(1,(aq a0))],H0⟩=some (zI a0 x):=
 cC (bt<|.or (cJ<|xB fun r8=>b9<|.or (kS<|.or (ET<|.nil) (bf<|bf<|bf<|bt<|bf<|bf<|.nil)) (EU<|.nil)) (bf<|bf<|bf<|bf<|bf<|bt<|bt<|bt<|bt<|bt<|.or (ET<|.nil) (bf<|bf<|bf<|bt<|bf<|bf<|.nil))) fun L=>ai (rfl:Z0)<|aA h (fun h7 h=>ek h7<|ar h (ck a0.Other) fun r8 h=>fX h7<|aA h (fun h10 h=>Aq (congrArg not h10)<|aA h (fun h11 h=>ek h11<|ai (g0 (congrArg not h10))<|ai h11<|ai (congrArg not h10)<|L h) (fun h11 h=>rV h11<|ai (g0 (congrArg not h10))<|ai h11<|ai (congrArg not h10)<|L h)) (fun h10 h=>ER (congrArg not h10)<|L h)) (fun h7 h=>ai (g1 h7)<|ai (g1 h7)<|ai (g1 h7)<|ai (g1 h7)<|ai h7<|ai hf<|ai hf<|ai (rfl:Z0)<|ai hf<|ai hf<|aA h (fun h8 h=>ai (g1 h8)<|ai (g1 h8)<|ai (rfl:Z0)<|ai (g1 h8)<|ai hf<|ai h8<|ai ff<|L h) (fun h8 h=>ai (g1 h8)<|ai (g1 h8)<|ai (g1 h8)<|ai hf<|ai h8<|ai ff<|L h))
def sN:List bU:=(gM 58 57)::⟨some 59,.fa 4 1,some ⟨58,false⟩,false⟩::⟨some 60,.ld none 59,some ⟨58,false⟩,false⟩::⟨some 61,.no 60,some ⟨58,false⟩,false⟩::⟨some 62,.mv 61,some ⟨58,false⟩,false⟩::⟨some 63,.fa 5 1,some ⟨62,true⟩,false⟩::⟨some 64,.ld none 63,some ⟨62,true⟩,false⟩::⟨some 65,.ln false 64,some ⟨62,true⟩,false⟩::⟨some 66,.bo .gtr false 65 (kI 0),some ⟨62,true⟩,false⟩::⟨some 67,.pk 62 66 (.c (.b false)),some ⟨58,false⟩,false⟩::(gp 68 (.pk 58 (.c (.b true)) 67))::[]
def cR(u3_1:Bool):Option Bool:=
 if u3_1=true then
  some true
 else
  if a0.Given=true then
   some false
  else
   some (decide (0<(a0.Label.length:Int)))
abbrev zJ(u3_1:Bool)(x:Bool):St:=⟨[(1,(.p ⟨0,1⟩ 0)),(68,(.b x))],[(1,(aq a0))],H0⟩
theorem dD(u3_1:Bool)(w:List AV)(x:Bool)(h:cR a0 u3_1=some x):dx G Ω0 E0 [1,68] [1] sN ⟨[(57,(.b u3_1)),(56,(W w 0)),(55,(W w 1)),(54,(W w 2)),(53,(W w 3)),(52,(W w 4)),(51,(W w 5)),(50,(W w 6)),(49,(W w 7)),(48,(W w 8)),(47,(W w 9)),(46,(W w 10)),(45,(W w 11)),(44,(W w 12)),(43,(W w 13)),(42,(W w 14)),(41,(W w 15)),(40,(W w 16)),(39,(W w 17)),(38,(.b (a0.Kind==4))),(37,(.b (a0.Kind==4))),(36,(I a0.Kind)),(35,(.p ⟨0,1⟩ 0)),(1,(.p ⟨0,1⟩ 0))],[(1,(aq a0))],H0⟩=some (zJ a0 u3_1 x):=
 cC (.or (EU<|.nil) (kS<|.or (C5<|.nil) (cJ<|ao (.i (a0.Label.length:Int))<|Ar<|.nil))) fun L=>aA h (fun h16 h=>ER h16<|L h) (fun h16 h=>Aq h16<|aA h (fun h17 h=>uN (congrArg not h17)<|ai (g0 h16)<|ai (congrArg not h17)<|ai h16<|L h) (fun h17 h=>ek (congrArg not h17)<|ai (aK aL a0.Label)<|ai (g1 (congrArg not h17))<|ai (g0 h16)<|ai (congrArg not h17)<|ai h16<|L h))
def zK:List bU:=(gF 35 0 1)::(gQ 36 35)::(gB 37 .eql 36 (kI 4))::(gM 38 37)::⟨some 39,.fa 0 1,some ⟨38,false⟩,false⟩::⟨some 40,.ld none 39,some ⟨38,false⟩,false⟩::⟨some 41,.bo .eql false 40 (kI 5),some ⟨38,false⟩,false⟩::(gp 42 (.pk 38 (.c (.b true)) 41))::(gM 43 42)::⟨some 44,.fa 4 1,some ⟨43,true⟩,false⟩::⟨some 45,.ld none 44,some ⟨43,true⟩,false⟩::⟨some 46,.no 45,some ⟨43,true⟩,false⟩::(gp 47 (.pk 43 46 (.c (.b false))))::(gM 48 47)::⟨some 49,.fa 0 1,some ⟨48,false⟩,false⟩::⟨some 50,.ld none 49,some ⟨48,false⟩,false⟩::⟨some 51,.ca 0 34 [50,(kI 4),(kI 6)],some ⟨48,false⟩,false⟩::⟨some 52,.no 51,some ⟨48,false⟩,false⟩::⟨some 53,.mv 52,some ⟨48,false⟩,false⟩::⟨some 54,.fa 4 1,some ⟨53,true⟩,false⟩::⟨some 55,.ld none 54,some ⟨53,true⟩,false⟩::⟨some 56,.pk 53 55 (.c (.b false)),some ⟨48,false⟩,false⟩::(gp 57 (.pk 48 (.c (.b true)) 56))::sN
def oO:Option Bool:=
 if (a0.Kind==4)=true then
  if a0.Given=true then
   (dv a0.Kind 4 6).bind fun (r12:Bool)=>
   if r12=true then
    (cR a0 false).bind fun (x15:Bool)=>
    some x15
   else
    (cR a0 a0.Given).bind fun (x15:Bool)=>
    some x15
  else
   (cR a0 true).bind fun (x12:Bool)=>
   some x12
 else
  if (a0.Kind==5)=true then
   if a0.Given=true then
    (dv a0.Kind 4 6).bind fun (r13:Bool)=>
    if r13=true then
     (cR a0 false).bind fun (x16:Bool)=>
     some x16
    else
     (cR a0 a0.Given).bind fun (x16:Bool)=>
     some x16
   else
    (cR a0 true).bind fun (x13:Bool)=>
    some x13
  else
   (dv a0.Kind 4 6).bind fun (r12:Bool)=>
   if r12=true then
    (cR a0 false).bind fun (x15:Bool)=>
    some x15
   else
    (cR a0 a0.Given).bind fun (x15:Bool)=>
    some x15
abbrev zL(x:Bool):St:=⟨[(1,(.p ⟨0,1⟩ 0)),(68,(.b x))],[(1,(aq a0))],H0⟩
theorem yr(x:Bool)(h:oO a0=some x):dx G Ω0 E0 [1,68] [1] zK ⟨[(1,(.p ⟨0,1⟩ 0))],[(1,(aq a0))],H0⟩=some (zL a0 x):=
 cC (bt<|.or (I0<|.or (cJ<|xB fun r12=>b9<|.or (EV<|.jb (some 58) 10<|.ex fun (x15:Bool)=>ao (.jn ⟨[(1,(.p ⟨0,1⟩ 0)),(68,(.b x15))],[(1,(aq a0))],H0⟩)<|.nil) (Au<|.jb (some 58) 10<|.ex fun (x15:Bool)=>ao (.jn ⟨[(1,(.p ⟨0,1⟩ 0)),(68,(.b x15))],[(1,(aq a0))],H0⟩)<|.nil)) (bf<|bf<|bf<|bf<|bf<|bf<|bt<|.jb (some 58) 10<|.ex fun (x12:Bool)=>ao (.jn ⟨[(1,(.p ⟨0,1⟩ 0)),(68,(.b x12))],[(1,(aq a0))],H0⟩)<|.nil)) (uy<|.or (kS<|.or (cJ<|xB fun r13=>b9<|.or (EV<|.jb (some 58) 10<|.ex fun (x16:Bool)=>ao (.jn ⟨[(1,(.p ⟨0,1⟩ 0)),(68,(.b x16))],[(1,(aq a0))],H0⟩)<|.nil) (Au<|.jb (some 58) 10<|.ex fun (x16:Bool)=>ao (.jn ⟨[(1,(.p ⟨0,1⟩ 0)),(68,(.b x16))],[(1,(aq a0))],H0⟩)<|.nil)) (bf<|bf<|bf<|bf<|bf<|bf<|bt<|.jb (some 58) 10<|.ex fun (x13:Bool)=>ao (.jn ⟨[(1,(.p ⟨0,1⟩ 0)),(68,(.b x13))],[(1,(aq a0))],H0⟩)<|.nil)) (bf<|bf<|bf<|bf<|bt<|bt<|bt<|bt<|xB fun r12=>b9<|.or (EV<|.jb (some 58) 10<|.ex fun (x15:Bool)=>ao (.jn ⟨[(1,(.p ⟨0,1⟩ 0)),(68,(.b x15))],[(1,(aq a0))],H0⟩)<|.nil) (Au<|.jb (some 58) 10<|.ex fun (x15:Bool)=>ao (.jn ⟨[(1,(.p ⟨0,1⟩ 0)),(68,(.b x15))],[(1,(aq a0))],H0⟩)<|.nil)))) fun L=>ai (rfl:Z0)<|aA h (fun h10 h=>ai (g0 h10)<|ai (g0 h10)<|ai (g0 h10)<|ai h10<|ai gt<|ai gt<|ai (rfl:Z0)<|ai gt<|ai tt<|aA h (fun h11 h=>rh (congrArg not h11)<|ar h (dC a0.Kind 4 6) fun r12 h=>yS (congrArg not h11)<|aA h (fun h14 h=>dG (congrArg not h14)<|ai (g0 (congrArg not h11))<|ai (congrArg not h14)<|ai (congrArg not h11)<|ar h (dD a0 false [(.b false),.sk,.sk,(.b (!r12)),(.b (!r12)),(.b r12),(I a0.Kind),(.p ⟨0,1⟩ 0),(.b (!a0.Given)),(.b (!a0.Given)),(.b (!a0.Given)),(.b a0.Given),(.p ⟨0,1⟩ 4),(.b true),(.b true),.sk,.sk,.sk]) fun x15 h=>L h) (fun h14 h=>ai (g1 (congrArg not h14))<|ai (g1 (congrArg not h14))<|ai (rfl:Z0)<|ai (g0 (congrArg not h11))<|ai (congrArg not h14)<|ai (congrArg not h11)<|ar h (dD a0 a0.Given [(.b a0.Given),(.b a0.Given),(.p ⟨0,1⟩ 4),(.b (!r12)),(.b (!r12)),(.b r12),(I a0.Kind),(.p ⟨0,1⟩ 0),(.b (!a0.Given)),(.b (!a0.Given)),(.b (!a0.Given)),(.b a0.Given),(.p ⟨0,1⟩ 4),(.b true),(.b true),.sk,.sk,.sk]) fun x15 h=>L h)) (fun h11 h=>ai (g0 (congrArg not h11))<|ai (g0 (congrArg not h11))<|ai (g0 (congrArg not h11))<|ai (g0 (congrArg not h11))<|ai (g0 (congrArg not h11))<|ai (g0 (congrArg not h11))<|ai (congrArg not h11)<|ar h (dD a0 true [.sk,.sk,.sk,.sk,.sk,.sk,.sk,.sk,(.b (!a0.Given)),(.b (!a0.Given)),(.b (!a0.Given)),(.b a0.Given),(.p ⟨0,1⟩ 4),(.b true),(.b true),.sk,.sk,.sk]) fun x12 h=>L h)) (fun h10 h=>wW h10<|aA h (fun h11 h=>wX h11<|aA h (fun h12 h=>rh (congrArg not h12)<|ar h (dC a0.Kind 4 6) fun r13 h=>yS (congrArg not h12)<|aA h (fun h15 h=>dG (congrArg not h15)<|ai (g0 (congrArg not h12))<|ai (congrArg not h15)<|ai (congrArg not h12)<|ar h (dD a0 false [(.b false),.sk,.sk,(.b (!r13)),(.b (!r13)),(.b r13),(I a0.Kind),(.p ⟨0,1⟩ 0),(.b (!a0.Given)),(.b (!a0.Given)),(.b (!a0.Given)),(.b a0.Given),(.p ⟨0,1⟩ 4),(.b (a0.Kind==5)),(.b (a0.Kind==5)),(.b (a0.Kind==5)),(I a0.Kind),(.p ⟨0,1⟩ 0)]) fun x16 h=>L h) (fun h15 h=>ai (g1 (congrArg not h15))<|ai (g1 (congrArg not h15))<|ai (rfl:Z0)<|ai (g0 (congrArg not h12))<|ai (congrArg not h15)<|ai (congrArg not h12)<|ar h (dD a0 a0.Given [(.b a0.Given),(.b a0.Given),(.p ⟨0,1⟩ 4),(.b (!r13)),(.b (!r13)),(.b r13),(I a0.Kind),(.p ⟨0,1⟩ 0),(.b (!a0.Given)),(.b (!a0.Given)),(.b (!a0.Given)),(.b a0.Given),(.p ⟨0,1⟩ 4),(.b (a0.Kind==5)),(.b (a0.Kind==5)),(.b (a0.Kind==5)),(I a0.Kind),(.p ⟨0,1⟩ 0)]) fun x16 h=>L h)) (fun h12 h=>ai (g0 (congrArg not h12))<|ai (g0 (congrArg not h12))<|ai (g0 (congrArg not h12))<|ai (g0 (congrArg not h12))<|ai (g0 (congrArg not h12))<|ai (g0 (congrArg not h12))<|ai (congrArg not h12)<|ar h (dD a0 true [.sk,.sk,.sk,.sk,.sk,.sk,.sk,.sk,(.b (!a0.Given)),(.b (!a0.Given)),(.b (!a0.Given)),(.b a0.Given),(.p ⟨0,1⟩ 4),(.b (a0.Kind==5)),(.b (a0.Kind==5)),(.b (a0.Kind==5)),(I a0.Kind),(.p ⟨0,1⟩ 0)]) fun x13 h=>L h)) (fun h11 h=>ai (g1 h11)<|ai (g1 h11)<|ai (g1 h11)<|ai h11<|ai hf<|ai hf<|ai (rfl:Z0)<|ai hf<|ar h (dC a0.Kind 4 6) fun r12 h=>ai hf<|ai hf<|aA h (fun h14 h=>ai (g1 (congrArg not h14))<|ai (g1 (congrArg not h14))<|ai hf<|ai (congrArg not h14)<|ai ff<|ar h (dD a0 false [(.b false),.sk,.sk,(.b (!r12)),(.b (!r12)),(.b r12),(I a0.Kind),(.p ⟨0,1⟩ 0),(.b false),(.b false),.sk,.sk,.sk,(.b (a0.Kind==5)),(.b (a0.Kind==5)),(.b (a0.Kind==5)),(I a0.Kind),(.p ⟨0,1⟩ 0)]) fun x15 h=>L h) (fun h14 h=>ai (g1 (congrArg not h14))<|ai (g1 (congrArg not h14))<|ai (rfl:Z0)<|ai hf<|ai (congrArg not h14)<|ai ff<|ar h (dD a0 a0.Given [(.b a0.Given),(.b a0.Given),(.p ⟨0,1⟩ 4),(.b (!r12)),(.b (!r12)),(.b r12),(I a0.Kind),(.p ⟨0,1⟩ 0),(.b false),(.b false),.sk,.sk,.sk,(.b (a0.Kind==5)),(.b (a0.Kind==5)),(.b (a0.Kind==5)),(I a0.Kind),(.p ⟨0,1⟩ 0)]) fun x15 h=>L h)))
def gi(v0_3:Nat)(v1_4:Nat):Option (Nat⊕(Unit⊕(Nat×Bool))):=
 (a0.Label[v0_3]?).bind fun (y19:aS)=>
 if (v1_4:Int)<(y19.Names.length:Int) then
  (y19.Names[v1_4]?).bind fun (y22:(List UInt8))=>
  (cA y22).bind fun (r24:Bool)=>
  if r24=true then
   if IntKind.i64.wrap ((v1_4:Int)+1)=((v1_4+1:Nat):Int) then
    some (.inl (v1_4+1))
   else none
  else
   some (.inr (.inl ()))
 else
  some (.inr (.inr (v1_4,decide ((v1_4:Int)<(y19.Names.length:Int)))))
abbrev AQ(v0_3:Nat)(v:Nat):St:=⟨[(1,(.p ⟨0,1⟩ 0)),(3,(I (v0_3:Int))),(4,(I (v:Int)))],[(1,(aq a0))],H0⟩
abbrev AR(v0_3:Nat)(x:(Unit⊕(Nat×Bool))):aE×St:=match x with | .inl ()=>(.ret,⟨[(2,(.b false))],[],H0⟩) | .inr (z1,z2)=>((.ex 2),⟨[(1,(.p ⟨0,1⟩ 0)),(3,(I (v0_3:Int))),(4,(I (z1:Int))),(92,(.b z2))],[(1,(aq a0))],H0⟩)
theorem zM(v0_3:Nat)(v1_4:Nat)(o:Nat⊕(Unit⊕(Nat×Bool)))(h:gi a0 v0_3 v1_4=some o):bF E0 FK (AQ a0 v0_3) (AR a0 v0_3) v1_4 o:=
 bP (bt<|ao (.n v0_3)<|.ex fun (y19:aS)=>ao (.v (.a (fu y19)))<|ao (.i (y19.Names.length:Int))<|.or (b9<|ao (.n v0_3)<|ao (.v (.a (fu y19)))<|ao (.n v1_4)<|.ex fun (y22:(List UInt8))=>ao (.v (.s y22))<|xB fun r24=>.or (bf<|ao (.i ((v1_4+1:Nat):Int))<|.nil) (bt<|.nil)) (bf<|.nil)) fun L=>ai (rfl:Z0)<|ai (rI v0_3)<|cu h fun y19 h20 h=>ai (cT aL h20)<|ai (aK AV.s y19.Names)<|bq h (fun h21 h=>lK (decide_eq_true h21)<|ai (rI v0_3)<|ai (cT aL h20)<|ai (rI v1_4)<|cu h fun y22 h23 h=>ai (cT AV.s h23)<|ar h (ck y22) fun r24 h=>aA h (fun h26 h=>ai (congrArg not h26)<|aY h fun w27 h=>ai w27<|L h) (fun h26 h=>ai (congrArg not h26)<|L h)) (fun h21 h=>ai (decide_eq_false h21)<|L h)
def eL(v0_3:Nat):Option (Nat⊕(Unit⊕(Nat×Bool))):=
 if (v0_3:Int)<(a0.Label.length:Int) then
  (a0.Label[v0_3]?).bind fun (y14:aS)=>
  (cA y14.Owner).bind fun (r16:Bool)=>
  if r16=true then
   (lp (fun v=>gi a0 v0_3 v) 0).bind fun (x19:(Unit⊕(Nat×Bool)))=>match x19 with
   | .inl ya_20=>
    some (.inr (.inl ()))
   | .inr yb_20=>
    if IntKind.i64.wrap ((v0_3:Int)+1)=((v0_3+1:Nat):Int) then
     some (.inl (v0_3+1))
    else none
  else
   some (.inr (.inl ()))
 else
  some (.inr (.inr (v0_3,decide ((v0_3:Int)<(a0.Label.length:Int)))))
abbrev AS(v:Nat):St:=⟨[(1,(.p ⟨0,1⟩ 0)),(3,(I (v:Int)))],[(1,(aq a0))],H0⟩
abbrev AU(x:(Unit⊕(Nat×Bool))):aE×St:=match x with | .inl ()=>(.ret,⟨[(2,(.b false))],[],H0⟩) | .inr (z1,z2)=>((.ex 0),⟨[(1,(.p ⟨0,1⟩ 0)),(3,(I (z1:Int))),(73,(.b z2))],[(1,(aq a0))],H0⟩)
theorem zN(v0_3:Nat)(o:Nat⊕(Unit⊕(Nat×Bool)))(h:eL a0 v0_3=some o):bF E0 FL (AS a0) (AU a0) v0_3 o:=
 bP (bt<|ao (.i (a0.Label.length:Int))<|.or (b9<|ao (.n v0_3)<|.ex fun (y14:aS)=>ao (.v (.a (fu y14)))<|xB fun r16=>.or (bf<|.or (.ex fun (ya_20:Unit)=>ao (.lp .ret ⟨[(2,(.b false))],[],H0⟩)<|.nil) (.ex fun (yb_20:(Nat×Bool))=>ao (.lp (.ex 2) ⟨[(1,(.p ⟨0,1⟩ 0)),(3,(I (v0_3:Int))),(4,(I (yb_20.1:Int))),(92,(.b yb_20.2))],[(1,(aq a0))],H0⟩)<|ao (.i ((v0_3+1:Nat):Int))<|.nil)) (bt<|.nil)) (bf<|.nil)) fun L=>ai (rfl:Z0)<|ai (aK aL a0.Label)<|bq h (fun h13 h=>lK (decide_eq_true h13)<|ai (rI v0_3)<|cu h fun y14 h15 h=>ai (cT aL h15)<|ar h (ck y14.Owner) fun r16 h=>aA h (fun h18 h=>ai (congrArg not h18)<|bD h (e5 (zM a0 v0_3) 0) (fun ya_20 h=>L h) (fun yb_20 h=>aY h fun w22 h=>ai w22<|L h)) (fun h18 h=>ai (congrArg not h18)<|L h)) (fun h13 h=>ai (decide_eq_false h13)<|L h)
def eM(v2_5:Nat):Option (Nat⊕(Unit⊕(Nat×Bool))):=
 if (v2_5:Int)<(a0.Params.length:Int) then
  (a0.Params[v2_5]?).bind fun (y18:(List UInt8))=>
  (cA y18).bind fun (r20:Bool)=>
  if r20=true then
   if IntKind.i64.wrap ((v2_5:Int)+1)=((v2_5+1:Nat):Int) then
    some (.inl (v2_5+1))
   else none
  else
   some (.inr (.inl ()))
 else
  some (.inr (.inr (v2_5,decide ((v2_5:Int)<(a0.Params.length:Int)))))
abbrev AW(v:Nat):St:=⟨[(1,(.p ⟨0,1⟩ 0)),(5,(I (v:Int)))],[(1,(aq a0))],H0⟩
abbrev AX(x:(Unit⊕(Nat×Bool))):aE×St:=match x with | .inl ()=>(.ret,⟨[(2,(.b false))],[],H0⟩) | .inr (z1,z2)=>((.ex 4),⟨[(1,(.p ⟨0,1⟩ 0)),(5,(I (z1:Int))),(128,(.b z2))],[(1,(aq a0))],H0⟩)
theorem zO(v2_5:Nat)(o:Nat⊕(Unit⊕(Nat×Bool)))(h:eM a0 v2_5=some o):bF E0 FM (AW a0) (AX a0) v2_5 o:=
 bP (bt<|ao (.i (a0.Params.length:Int))<|.or (b9<|ao (.n v2_5)<|.ex fun (y18:(List UInt8))=>ao (.v (.s y18))<|xB fun r20=>.or (bf<|ao (.i ((v2_5+1:Nat):Int))<|.nil) (bt<|.nil)) (bf<|.nil)) fun L=>ai (rfl:Z0)<|ai (aK AV.s a0.Params)<|bq h (fun h17 h=>lK (decide_eq_true h17)<|ai (rI v2_5)<|cu h fun y18 h19 h=>ai (cT AV.s h19)<|ar h (ck y18) fun r20 h=>aA h (fun h22 h=>ai (congrArg not h22)<|aY h fun w23 h=>ai w23<|L h) (fun h22 h=>ai (congrArg not h22)<|L h)) (fun h17 h=>ai (decide_eq_false h17)<|L h)
abbrev Dd(a0:aJ)(r:Bool):aW×HP:=(.ret (.b r),H0)
def o4:Option Bool:=
 (dv a0.Kind 1 7).bind fun (r1:Bool)=>
 if r1=true then
  (cA a0.Name).bind fun (r4:Bool)=>
  if r4=true then
   (oM a0).bind fun (x7:Bool)=>
   if x7=true then
    some false
   else
    (oO a0).bind fun (x10:Bool)=>
    if x10=true then
     some false
    else
     (lp (fun v=>eL a0 v) 0).bind fun (x13:(Unit⊕(Nat×Bool)))=>match x13 with
     | .inl ya_14=>
      some false
     | .inr yb_14=>
      if (a0.Kind !=7)=true then
       if ((a0.Params.length:Int)==0)=true then
        if ((a0.Body.length:Int)==0)=true then
         (nj a0.Result).bind fun (r19:Bool)=>
         some r19
        else
         some false
       else
        some false
      else
       (lp (fun v=>eM a0 v) 0).bind fun (x17:(Unit⊕(Nat×Bool)))=>match x17 with
       | .inl ya_18=>
        some false
       | .inr yb_18=>
        (nq a0.Body).bind fun (r20:Bool)=>
        if r20=true then
         (hU a0.Result).bind fun (r23:Bool)=>
         some r23
        else
         some false
  else
   some false
 else
  some false
theorem zP(r:Bool)(h:o4 a0=some r):call G Ω0 E0 14 [(.a (aq a0))] H0=some (Dd a0 r):=
 aG Qs (bt<|xB fun r1=>.or (cJ<|xB fun r4=>eQ<|.or (bf<|.jb (some 16) 18<|.ex fun (x7:Bool)=>ao (.jn ⟨[(1,(.p ⟨0,1⟩ 0)),(34,(.b x7))],[(1,(aq a0))],H0⟩)<|oN (.jb (some 35) 33<|.ex fun (x10:Bool)=>ao (.jn ⟨[(1,(.p ⟨0,1⟩ 0)),(68,(.b x10))],[(1,(aq a0))],H0⟩)<|oN (.or (.ex fun (ya_14:Unit)=>ao (.lp .ret ⟨[(2,(.b false))],[],H0⟩)<|.nil) (.ex fun (yb_14:(Nat×Bool))=>ao (.lp (.ex 0) ⟨[(1,(.p ⟨0,1⟩ 0)),(3,(I (yb_14.1:Int))),(73,(.b yb_14.2))],[(1,(aq a0))],H0⟩)<|bt<|.or (b9<|ao (.i (a0.Params.length:Int))<|.or (cJ<|ao (.i (a0.Body.length:Int))<|b9<|.or (cJ<|xB fun r19=>bt<|.nil) (ti<|.nil)) (Ax<|.nil)) (bf<|.or (.ex fun (ya_18:Unit)=>ao (.lp .ret ⟨[(2,(.b false))],[],H0⟩)<|.nil) (.ex fun (yb_18:(Nat×Bool))=>ao (.lp (.ex 4) ⟨[(1,(.p ⟨0,1⟩ 0)),(5,(I (yb_18.1:Int))),(128,(.b yb_18.2))],[(1,(aq a0))],H0⟩)<|bt<|xB fun r20=>.or (cJ<|xB fun r23=>bt<|.nil) (ti<|.nil))))))) (bt<|.nil)) (As<|.nil)) fun L=>oS<|ar h (dC a0.Kind 1 7) fun r1 h=>aA h (fun h3 h=>rh (congrArg not h3)<|ar h (ck a0.Name) fun r4 h=>iN (congrArg not h3)<|aA h (fun h6 h=>ai (congrArg not h6)<|ar h (yq a0) fun x7 h=>aA h (fun h9 h=>ai h9<|L h) (fun h9 h=>ai h9<|ar h (yr a0) fun x10 h=>aA h (fun h12 h=>ai h12<|L h) (fun h12 h=>ai h12<|bD h (e5 (zN a0) 0) (fun ya_14 h=>L h) (fun yb_14 h=>ai (rfl:Z0)<|aA h (fun h16 h=>lK h16<|ai (aK AV.s a0.Params)<|aA h (fun h17 h=>ek h17<|ai (aK ab a0.Body)<|fX h17<|aA h (fun h18 h=>ek h18<|ar h (sK a0.Result) fun r19 h=>ai h18<|L h) (fun h18 h=>qP h18<|L h)) (fun h17 h=>ES h17<|L h)) (fun h16 h=>ai h16<|bD h (e5 (zO a0) 0) (fun ya_18 h=>L h) (fun yb_18 h=>ai (rfl:Z0)<|ar h (qy a0.Body) fun r20 h=>aA h (fun h22 h=>ek h22<|ar h (gN a0.Result) fun r23 h=>ai h22<|L h) (fun h22 h=>qP h22<|L h))))))) (fun h6 h=>ai (congrArg not h6)<|L h)) (fun h3 h=>DX (congrArg not h3)<|L h)
end
section
variable (a0:Tree)
def eX(v0_3:Nat):Option (Nat⊕(Unit⊕(Nat×Bool))):=
 if (v0_3:Int)<(a0.Decls.length:Int) then
  (a0.Decls[v0_3]?).bind fun (y5:aJ)=>
  (o4 y5).bind fun (r7:Bool)=>
  if r7=true then
   if IntKind.i64.wrap ((v0_3:Int)+1)=((v0_3+1:Nat):Int) then
    some (.inl (v0_3+1))
   else none
  else
   some (.inr (.inl ()))
 else
  some (.inr (.inr (v0_3,decide ((v0_3:Int)<(a0.Decls.length:Int)))))
abbrev wo(v:Nat):St:=⟨[(1,(.p ⟨0,1⟩ 0)),(3,(I (v:Int)))],[(1,[(.l 41 (a0.Decls.map ay)),(.l 36 (a0.Main.map ab))])],H0⟩
abbrev wq(x:(Unit⊕(Nat×Bool))):aE×St:=match x with | .inl ()=>(.ret,⟨[(2,(I 1))],[],H0⟩) | .inr (z1,z2)=>((.ex 0),⟨[(1,(.p ⟨0,1⟩ 0)),(3,(I (z1:Int))),(10,(.b z2))],[(1,[(.l 41 (a0.Decls.map ay)),(.l 36 (a0.Main.map ab))])],H0⟩)
theorem u0(v0_3:Nat)(o:Nat⊕(Unit⊕(Nat×Bool)))(h:eX a0 v0_3=some o):bF E0 HB (wo a0) (wq a0) v0_3 o:=
 bP (bt<|ao (.i (a0.Decls.length:Int))<|.or (b9<|ao (.n v0_3)<|.ex fun (y5:aJ)=>ao (.v (.a (aq y5)))<|xB fun r7=>.or (bf<|ao (.i ((v0_3+1:Nat):Int))<|.nil) (bt<|.nil)) (bf<|.nil)) fun L=>ai (rfl:Z0)<|ai (aK ay a0.Decls)<|bq h (fun h4 h=>lK (decide_eq_true h4)<|ai (rI v0_3)<|cu h fun y5 h6 h=>ai (cT ay h6)<|ar h (zP y5) fun r7 h=>aA h (fun h9 h=>ai (congrArg not h9)<|aY h fun w10 h=>ai w10<|L h) (fun h9 h=>ai (congrArg not h9)<|L h)) (fun h4 h=>ai (decide_eq_false h4)<|L h)
abbrev zQ(a0:Tree)(r:Int):aW×HP:=(.ret (I r),H0)
def l6:Option Int:=
 (nd a0).bind fun (r1:Bool)=>
 if r1=true then
  some 2
 else
  (lp (fun v=>eX a0 v) 0).bind fun (x4:(Unit⊕(Nat×Bool)))=>match x4 with
  | .inl ya_5=>
   some 1
  | .inr yb_5=>
   (nq a0.Main).bind fun (r7:Bool)=>
   if r7=true then
    some 0
   else
    some 1
theorem u1(r:Int)(h:l6 a0=some r):call G Ω0 E0 6 [(.a [(.l 41 (a0.Decls.map ay)),(.l 36 (a0.Main.map ab))])] H0=some (zQ a0 r):=
 aG G6 (bt<|xB fun r1=>oN (.or (.ex fun (ya_5:Unit)=>ao (.lp .ret ⟨[(2,(I 1))],[],H0⟩)<|.nil) (.ex fun (yb_5:(Nat×Bool))=>ao (.lp (.ex 0) ⟨[(1,(.p ⟨0,1⟩ 0)),(3,(I (yb_5.1:Int))),(10,(.b yb_5.2))],[(1,[(.l 41 (a0.Decls.map ay)),(.l 36 (a0.Main.map ab))])],H0⟩)<|bt<|xB fun r7=>.or (bf<|.nil) (bt<|.nil)))) fun L=>oS<|ar h (wa a0) fun r1 h=>aA h (fun h3 h=>ai h3<|L h) (fun h3 h=>ai h3<|bD h (e5 (u0 a0) 0) (fun ya_5 h=>L h) (fun yb_5 h=>ai (rfl:Z0)<|ar h (qy a0.Main) fun r7 h=>aA h (fun h9 h=>ai (congrArg not h9)<|L h) (fun h9 h=>ai (congrArg not h9)<|L h)))
end
end
end Go.Proofs.YtphgedfhcncobaaGreatDoor.A
