/- Functions of the program as plain functions, by program. -/
import Derived.Test.YtkkkkondjclcnaaGreatTypes
import Derived.Test.YtkkkkondjclcnaaGreatLift
import Derived.Test.YtkkkkondjclcnaaGreatStepF
set_option linter.all false
set_option maxRecDepth 100000
namespace Go.Proofs.YtkkkkondjclcnaaGreat.A
open Go
noncomputable section
variable [Lp]
section
variable (a0:az)(a1:Int)
abbrev LA(a0:az)(a1:Int)(r:Int):bm×HP:=(.ret (I r),H0)
abbrev xS(r:Int):Prop:=call G Ω0 E0 111 [(.a (ey a0)),(I a1)] H0=some (LA a0 a1 r)
end
structure xT where
 f_scope_size:az→Int→Option Int
structure wB(R:xT):Prop where
 f_scope_size:∀ (a0:az)(a1:Int)(r:Int),R.f_scope_size a0 a1=some r→xS a0 a1 r
section
variable (R:xT)(a0:az)(a1:Int)(v0_5:Int)(v0_11:Nat)(w1_1:Nat)
def qZ:Option ((Int×Nat)⊕((Int×Nat×Bool×az)⊕(Int×Nat×Bool))):=
 if (v0_11:Int)<(a0.Args.length:Int) then
  (a0.Args[v0_11]?).bind fun (y2:az)=>
  if a1<v0_5 then
   some (.inr (.inl (v0_5,v0_11,decide (a1<v0_5),y2)))
  else
   if IntKind.i64.wrap (a1 - v0_5)=a1 - v0_5 then
    (R.f_scope_size y2 (a1 - v0_5)).bind fun (r6:Int)=>
    if IntKind.i64.wrap (v0_5+r6)=v0_5+r6 then
     if IntKind.i64.wrap ((v0_11:Int)+1)=((v0_11+1:Nat):Int) then
      some (.inl (v0_5+r6,v0_11+1))
     else none
    else none
   else none
 else
  some (.inr (.inr (v0_5,v0_11,decide ((v0_11:Int)<(a0.Args.length:Int)))))
abbrev Iu(v:(Int×Nat)):St:=⟨[(1,(I a1)),(5,(I v.1)),(9,(.l 37 (a0.Args.map aQ))),(10,(I (a0.Args.length:Int))),(11,(I (v.2:Int)))],[],H0⟩
abbrev uU(x:((Int×Nat×Bool×az)⊕(Int×Nat×Bool))):aI×St:=match x with | .inl (z1,z2,z3,z4)=>((.ex 0),⟨[(1,(I a1)),(5,(I z1)),(7,(.p ⟨0,7⟩ 0)),(9,(.l 37 (a0.Args.map aQ))),(10,(I (a0.Args.length:Int))),(11,(I (z2:Int))),(17,(.b z3))],[(7,(ey z4))],H0⟩) | .inr (z1,z2,z3)=>((.ex 0),⟨[(1,(I a1)),(5,(I z1)),(9,(.l 37 (a0.Args.map aQ))),(10,(I (a0.Args.length:Int))),(11,(I (z2:Int))),(12,(.b z3))],[],H0⟩)
theorem GM(hR:wB R)(a0:az)(a1:Int)(v0_5:Int)(v0_11:Nat)(o:(Int×Nat)⊕((Int×Nat×Bool×az)⊕(Int×Nat×Bool)))(h:qZ R a0 a1 v0_5 v0_11=some o):bz E0 Qu (Iu a0 a1) (uU a0 a1) (v0_5,v0_11) o:=
 bG (.or (bt<|ao (.n v0_11)<|.ex fun (y2:az)=>ao (.v (.a (ey y2)))<|en<|oN (bt<|ao (.i (a1 - v0_5))<|xI fun r6=>ao (.i (v0_5+r6))<|ao (.i ((v0_11+1:Nat):Int))<|.nil)) (bf<|.nil)) fun L=>bP h (fun h1 h=>ai (av h1)<|ai (rI v0_11)<|bR h fun y2 h3 h=>ai (oE aQ h3 (dI _))<|ai tt<|ai ff<|fB<|ai (rfl:Z0)<|bP h (fun h4 h=>ai (av h4)<|L h) (fun h4 h=>kP (aw h4)<|aJ h fun w5 h=>ai w5<|aW h (hR.f_scope_size y2 (a1 - v0_5)) fun r6 h=>aJ h fun w8 h=>ai w8<|aJ h fun w9 h=>ai w9<|L h)) (fun h1 h=>ai (aw h1)<|L h)
def sH:Option Int:=
 (lp (fun v=>qZ R a0 a1 v.1 v.2) (1,0)).bind fun (x1:((Int×Nat×Bool×az)⊕(Int×Nat×Bool)))=>match x1 with
 | .inl ya_2=>
  some ya_2.1
 | .inr yb_2=>
  some yb_2.1
theorem Fg(hR:wB R)(a0:az)(a1:Int)(r:Int)(h:sH R a0 a1=some r):xS a0 a1 r:=
 aX ajq (bt<|ao (.i (a0.Args.length:Int))<|.or (.ex fun (ya_2:(Int×Nat×Bool×az))=>ao (.bX (uU a0 a1 (.inl ya_2)))<|.nil) (.ex fun (yb_2:(Int×Nat×Bool))=>ao (.bX (uU a0 a1 (.inr yb_2)))<|.nil)) fun L=>su<|ai (aC aQ a0.Args)<|dy h (dZ (fun v=>GM R hR a0 a1 v.1 v.2) (1,0)) (fun ya_2 h=>L h) (fun yb_2 h=>L h)
def nY:Nat→xT
 | 0=>⟨fun z0 z1=>none⟩
 | n+1=>⟨sH (nY n)⟩
theorem BX:∀ n,wB (nY n)
 | 0=>⟨fun _ _ r h=>(by cases h)⟩
 | n+1=>⟨fun a0 a1 r h=>Fg _ (BX n) a0 a1 r h⟩
def xU:Option Int:=ev fun n=>(nY n).f_scope_size a0 a1
theorem GN(r:Int)(h:xU a0 a1=some r):xS a0 a1 r:=by
 obtain ⟨n,hn⟩:=uR h
 exact (BX n).f_scope_size a0 a1 r hn
def zp:List cN:=(gA 23 45)::[]
def gK(a0:az)(a1:Int)(w1_1:Nat)(u2_1:Bool):Option Bool:=
 some u2_1
abbrev iO(w1_1:Nat)(u2_1:Bool)(x:Bool):St:=⟨[(1,(I a1)),(2,(.p ⟨0,2⟩ 0)),(23,(.b x))],[(2,(ey a0))],H0⟩
theorem jz(u2_1:Bool)(w:List AV)(x:Bool)(h:gK a0 a1 w1_1 u2_1=some x):rY G Ω0 E0 [1,2,23] [2] zp ⟨[(45,(.b u2_1)),(44,(W w 0)),(43,(W w 1)),(42,(W w 2)),(41,(W w 3)),(40,(W w 4)),(39,(W w 5)),(38,(W w 6)),(37,(W w 7)),(36,(W w 8)),(35,(W w 9)),(34,(W w 10)),(33,(W w 11)),(32,(W w 12)),(31,(W w 13)),(30,(W w 14)),(29,(W w 15)),(28,(W w 16)),(27,(.b (a0.Kind==1))),(26,(.b (a0.Kind==1))),(25,(I a0.Kind)),(24,(.p ⟨0,2⟩ 0)),(1,(I a1)),(2,(.p ⟨0,2⟩ 0)),(5,(I (w1_1:Int))),(17,(.b ((a0.Args.length:Int) !=(w1_1:Int))))],[(2,(ey a0))],H0⟩=some (iO a0 a1 w1_1 u2_1 x):=
 ss (.nil) fun L=>L h
def GO:List cN:=(gF 24 0 2)::(gQ 25 24)::(gB 26 .eql 25 (kI 1))::(gM 27 26)::⟨some 28,.fa 1 2,some ⟨27,true⟩,false⟩::⟨some 29,.ld none 28,some ⟨27,true⟩,false⟩::⟨some 30,.bo .lss false 29 (kI (-9999999)),some ⟨27,true⟩,false⟩::⟨some 31,.mv 30,some ⟨27,true⟩,false⟩::⟨some 32,.fa 1 2,some ⟨31,false⟩,false⟩::⟨some 33,.ld none 32,some ⟨31,false⟩,false⟩::⟨some 34,.bo .gtr false 33 (kI 9999999),some ⟨31,false⟩,false⟩::⟨some 35,.pk 31 (.c (.b true)) 34,some ⟨27,true⟩,false⟩::(gk 36 27 35 (.c (.b false)))::(gM 37 36)::⟨some 38,.mv 5,some ⟨37,false⟩,false⟩::⟨some 39,.bo .gtr false 38 (kI 0),some ⟨37,false⟩,false⟩::⟨some 40,.mv 39,some ⟨37,false⟩,false⟩::⟨some 41,.fa 1 2,some ⟨40,true⟩,false⟩::⟨some 42,.ld none 41,some ⟨40,true⟩,false⟩::⟨some 43,.bo .neq false 42 (kI 0),some ⟨40,true⟩,false⟩::⟨some 44,.pk 40 43 (.c (.b false)),some ⟨37,false⟩,false⟩::(gp 45 (.pk 37 (.c (.b true)) 44))::zp
def pB:Option Bool:=
 if (a0.Kind==1)=true then
  if a0.N < -9999999 then
   (gK a0 a1 w1_1 true).bind fun (x7:Bool)=>
   some x7
  else
   if 9999999<a0.N then
    (gK a0 a1 w1_1 true).bind fun (x8:Bool)=>
    some x8
   else
    if 0<(w1_1:Int) then
     (gK a0 a1 w1_1 (a0.N !=0)).bind fun (x9:Bool)=>
     some x9
    else
     (gK a0 a1 w1_1 false).bind fun (x9:Bool)=>
     some x9
 else
  if 0<(w1_1:Int) then
   (gK a0 a1 w1_1 (a0.N !=0)).bind fun (x7:Bool)=>
   some x7
  else
   (gK a0 a1 w1_1 false).bind fun (x7:Bool)=>
   some x7
abbrev zq(w1_1:Nat)(x:Bool):St:=⟨[(1,(I a1)),(2,(.p ⟨0,2⟩ 0)),(23,(.b x))],[(2,(ey a0))],H0⟩
theorem Fh(x:Bool)(h:pB a0 a1 w1_1=some x):rY G Ω0 E0 [1,2,23] [2] GO ⟨[(1,(I a1)),(2,(.p ⟨0,2⟩ 0)),(5,(I (w1_1:Int))),(17,(.b ((a0.Args.length:Int) !=(w1_1:Int))))],[(2,(ey a0))],H0⟩=some (zq a0 a1 w1_1 x):=
 ss (bt<|.or (uF<|.or (bf<|bf<|bf<|bt<|bt<|bt<|bf<|bf<|bf<|bf<|bt<|.jb (some 23) 0<|.ex fun (x7:Bool)=>ao (.jn (iO a0 a1 w1_1 true x7))<|.nil) (bt<|bt<|bt<|bt<|bt<|bf<|bt<|.or (VI<|.jb (some 23) 0<|.ex fun (x8:Bool)=>ao (.jn (iO a0 a1 w1_1 true x8))<|.nil) (iu<|.or (Q3<|.jb (some 23) 0<|.ex fun (x9:Bool)=>ao (.jn (iO a0 a1 w1_1 (a0.N !=0) x9))<|.nil) (VJ<|.jb (some 23) 0<|.ex fun (x9:Bool)=>ao (.jn (iO a0 a1 w1_1 false x9))<|.nil)))) (bf<|bf<|bf<|bf<|bf<|bf<|bt<|bt<|bt<|.or (Q3<|.jb (some 23) 0<|.ex fun (x7:Bool)=>ao (.jn (iO a0 a1 w1_1 (a0.N !=0) x7))<|.nil) (VJ<|.jb (some 23) 0<|.ex fun (x7:Bool)=>ao (.jn (iO a0 a1 w1_1 false x7))<|.nil))) fun L=>ai (rfl:Z0)<|bI h (fun h5 h=>VG h5<|bP h (fun h6 h=>bY (av h6)<|ai (g0 (av h6))<|ai (g1 h5)<|ai (av h6)<|ai h5<|nu<|nu<|ai tt<|aW h (jz a0 a1 w1_1 true [.sk,.sk,.sk,.sk,.sk,.sk,.sk,(.b true),(.b true),(.b true),.sk,.sk,.sk,(.b (decide (a0.N < -9999999))),(.b (decide (a0.N < -9999999))),(I a0.N),(.p ⟨0,2⟩ 1)]) fun x7 h=>L h) (fun h6 h=>GK (aw h6)<|ai (g1 h5)<|ai (aw h6)<|ai h5<|bP h (fun h7 h=>VH (av h7)<|aW h (jz a0 a1 w1_1 true [.sk,.sk,.sk,.sk,.sk,.sk,.sk,(.b (decide (9999999<a0.N))),(.b (decide (9999999<a0.N))),(.b (decide (9999999<a0.N))),(.b (decide (9999999<a0.N))),(I a0.N),(.p ⟨0,2⟩ 1),(.b (decide (a0.N < -9999999))),(.b (decide (a0.N < -9999999))),(I a0.N),(.p ⟨0,2⟩ 1)]) fun x8 h=>L h) (fun h7 h=>bY (aw h7)<|ai (g0 (aw h7))<|bP h (fun h8 h=>Lu (av h8)<|ai (g0 (aw h7))<|ai (av h8)<|ai (aw h7)<|aW h (jz a0 a1 w1_1 (a0.N !=0) [(.b (a0.N !=0)),(.b (a0.N !=0)),(I a0.N),(.p ⟨0,2⟩ 1),(.b (decide (0<(w1_1:Int)))),(.b (decide (0<(w1_1:Int)))),(I (w1_1:Int)),(.b (decide (9999999<a0.N))),(.b (decide (9999999<a0.N))),(.b (decide (9999999<a0.N))),(.b (decide (9999999<a0.N))),(I a0.N),(.p ⟨0,2⟩ 1),(.b (decide (a0.N < -9999999))),(.b (decide (a0.N < -9999999))),(I a0.N),(.p ⟨0,2⟩ 1)]) fun x9 h=>L h) (fun h8 h=>N1 (aw h8)<|ai (g0 (aw h7))<|ai (aw h8)<|ai (aw h7)<|aW h (jz a0 a1 w1_1 false [(.b false),.sk,.sk,.sk,(.b (decide (0<(w1_1:Int)))),(.b (decide (0<(w1_1:Int)))),(I (w1_1:Int)),(.b (decide (9999999<a0.N))),(.b (decide (9999999<a0.N))),(.b (decide (9999999<a0.N))),(.b (decide (9999999<a0.N))),(I a0.N),(.p ⟨0,2⟩ 1),(.b (decide (a0.N < -9999999))),(.b (decide (a0.N < -9999999))),(I a0.N),(.p ⟨0,2⟩ 1)]) fun x9 h=>L h)))) (fun h5 h=>dt h5<|dt h5<|rZ h5<|ai hf<|ai hf<|ai hf<|bP h (fun h6 h=>dt (av h6)<|ai (rfl:Z0)<|ai (g1 (av h6))<|ai hf<|ai (av h6)<|ai ff<|aW h (jz a0 a1 w1_1 (a0.N !=0) [(.b (a0.N !=0)),(.b (a0.N !=0)),(I a0.N),(.p ⟨0,2⟩ 1),(.b (decide (0<(w1_1:Int)))),(.b (decide (0<(w1_1:Int)))),(I (w1_1:Int)),(.b false),(.b false),.sk,.sk,.sk,.sk,.sk,.sk,.sk,.sk]) fun x7 h=>L h) (fun h6 h=>dt (aw h6)<|ai (g1 (aw h6))<|ai hf<|ai (aw h6)<|ai ff<|aW h (jz a0 a1 w1_1 false [(.b false),.sk,.sk,.sk,(.b (decide (0<(w1_1:Int)))),(.b (decide (0<(w1_1:Int)))),(I (w1_1:Int)),(.b false),(.b false),.sk,.sk,.sk,.sk,.sk,.sk,.sk,.sk]) fun x7 h=>L h))
def mI:Option (Unit⊕(Unit⊕(Unit⊕Unit))):=
 if ((a0.Args.length:Int) !=(w1_1:Int))=true then
  some (.inl ())
 else
  (pB a0 a1 w1_1).bind fun (x5:Bool)=>
  if x5=true then
   some (.inr (.inl ()))
  else
   if (a0.Kind==2)=true then
    if a0.N<0 then
     some (.inr (.inr (.inl ())))
    else
     if a1≤a0.N then
      some (.inr (.inr (.inl ())))
     else
      some (.inr (.inr (.inr ())))
   else
    some (.inr (.inr (.inr ())))
abbrev fe(a0:az)(a1:Int)(w1_1:Nat)(x:(Unit⊕(Unit⊕(Unit⊕Unit)))):aI×St:=match x with | .inl ()=>(.ret,⟨[(4,(I 1))],[],H0⟩) | .inr (.inl ())=>(.ret,⟨[(4,(I 3))],[],H0⟩) | .inr (.inr (.inl ()))=>(.ret,⟨[(4,(I 5))],[],H0⟩) | .inr (.inr (.inr ()))=>(.ret,⟨[(4,(I 0))],[],H0⟩)
theorem xV(x:(Unit⊕(Unit⊕(Unit⊕Unit))))(h:mI a0 a1 w1_1=some x):run G Ω0 E0 QN ⟨[(1,(I a1)),(2,(.p ⟨0,2⟩ 0)),(5,(I (w1_1:Int)))],[(2,(ey a0))],H0⟩=some (fe a0 a1 w1_1 x):=
 vu (bt<|ao (.i (a0.Args.length:Int))<|oN (.jb (some 24) 22<|.ex fun (x5:Bool)=>ao (.jn (zq a0 a1 w1_1 x5))<|oN (bt<|.or (uF<|.or (bf<|bf<|bf<|bf<|bt<|bt<|bt<|bt<|.nil) (bt<|bt<|bt<|bt<|bt<|bt<|bf<|bt<|oN (.nil))) (Tr<|.nil)))) fun L=>ai (rfl:Z0)<|ai (aC aQ a0.Args)<|bI h (fun h4 h=>ai h4<|L h) (fun h4 h=>ai h4<|aW h (Fh a0 a1 w1_1) fun x5 h=>bI h (fun h7 h=>ai h7<|L h) (fun h7 h=>kP h7<|bI h (fun h8 h=>VG h8<|bP h (fun h9 h=>bY (av h9)<|bY (av h9)<|ai (g1 h8)<|ai (av h9)<|ai h8<|ai tt<|L h) (fun h9 h=>bY (aw h9)<|ai (rfl:Z0)<|bY (aw h9)<|ai (g1 h8)<|ai (aw h9)<|ai h8<|bP h (fun h10 h=>ai (av h10)<|L h) (fun h10 h=>ai (aw h10)<|L h))) (fun h8 h=>ev7 h8<|L h)))
abbrev LB(a0:az)(a1:Int)(r:Int):bm×HP:=(.ret (I r),H0)
def tV:Option Int:=
 if a0.Kind<1 then
  some 7
 else
  if 7<a0.Kind then
   some 7
  else
   if 2<a0.Kind then
    (mI a0 a1 2).bind fun (x4:(Unit⊕(Unit⊕(Unit⊕Unit))))=>match x4 with
    | .inl ya_5=>
     some 1
    | .inr (.inl yb_5)=>
     some 3
    | .inr (.inr (.inl yc_5))=>
     some 5
    | .inr (.inr (.inr yd_5))=>
     some 0
   else
    (mI a0 a1 0).bind fun (x4:(Unit⊕(Unit⊕(Unit⊕Unit))))=>match x4 with
    | .inl ya_5=>
     some 1
    | .inr (.inl yb_5)=>
     some 3
    | .inr (.inr (.inl yc_5))=>
     some 5
    | .inr (.inr (.inr yd_5))=>
     some 0
theorem GP(r:Int)(h:tV a0 a1=some r):call G Ω0 E0 145 [(.a (ey a0)),(I a1)] H0=some (LB a0 a1 r):=
 aX ajO (bt<|.or (Ts<|.nil) (Tt<|oN (bt<|.or (bt<|.fb<|.or (.ex fun (ya_5:Unit)=>ao (.jJ (fe a0 a1 2 (.inl ya_5)))<|.nil) (.or (.ex fun (yb_5:Unit)=>ao (.jJ (fe a0 a1 2 (.inr (.inl yb_5))))<|.nil) (.or (.ex fun (yc_5:Unit)=>ao (.jJ (fe a0 a1 2 (.inr (.inr (.inl yc_5)))))<|.nil) (.ex fun (yd_5:Unit)=>ao (.jJ (fe a0 a1 2 (.inr (.inr (.inr yd_5)))))<|.nil)))) (bf<|.fb<|.or (.ex fun (ya_5:Unit)=>ao (.jJ (fe a0 a1 0 (.inl ya_5)))<|.nil) (.or (.ex fun (yb_5:Unit)=>ao (.jJ (fe a0 a1 0 (.inr (.inl yb_5))))<|.nil) (.or (.ex fun (yc_5:Unit)=>ao (.jJ (fe a0 a1 0 (.inr (.inr (.inl yc_5)))))<|.nil) (.ex fun (yd_5:Unit)=>ao (.jJ (fe a0 a1 0 (.inr (.inr (.inr yd_5)))))<|.nil))))))) fun L=>su<|bP h (fun h1 h=>bY (av h1)<|jy (av h1)<|ai tt<|L h) (fun h1 h=>ev8 (aw h1)<|bP h (fun h2 h=>ai (av h2)<|L h) (fun h2 h=>kP (aw h2)<|bP h (fun h3 h=>ai (av h3)<|Pr h (xV a0 a1 2) (fun ya_5 h=>L h) (fun yb_5 h=>L h) (fun yc_5 h=>L h) (fun yd_5 h=>L h)) (fun h3 h=>ai (aw h3)<|Pr h (xV a0 a1 0) (fun ya_5 h=>L h) (fun yb_5 h=>L h) (fun yc_5 h=>L h) (fun yd_5 h=>L h))))
abbrev Kb(a0:az)(a1:Int)(r:Int):bm×HP:=(.ret (I r),H0)
abbrev wC(r:Int):Prop:=call G Ω0 E0 112 [(.a (ey a0)),(I a1)] H0=some (Kb a0 a1 r)
end
structure wD where
 f_scope_parts:az→Int→Option Int
structure uV(R:wD):Prop where
 f_scope_parts:∀ (a0:az)(a1:Int)(r:Int),R.f_scope_parts a0 a1=some r→wC a0 a1 r
section
variable (R:wD)(a0:az)(a1:Int)(v0_18:Nat)
def pC:Option (Nat⊕(Int⊕(Nat×Bool))):=
 if (v0_18:Int)<(a0.Args.length:Int) then
  (a0.Args[v0_18]?).bind fun (y5:az)=>
  (R.f_scope_parts y5 a1).bind fun (r7:Int)=>
  if (r7 !=0)=true then
   some (.inr (.inl r7))
  else
   if IntKind.i64.wrap ((v0_18:Int)+1)=((v0_18+1:Nat):Int) then
    some (.inl (v0_18+1))
   else none
 else
  some (.inr (.inr (v0_18,decide ((v0_18:Int)<(a0.Args.length:Int)))))
abbrev GQ(v:Nat):St:=⟨[(1,(I a1)),(16,(.l 37 (a0.Args.map aQ))),(17,(I (a0.Args.length:Int))),(18,(I (v:Int)))],[],H0⟩
abbrev tW(x:(Int⊕(Nat×Bool))):aI×St:=match x with | .inl z1=>(.ret,⟨[(4,(I z1))],[],H0⟩) | .inr (z1,z2)=>((.ex 0),⟨[(1,(I a1)),(16,(.l 37 (a0.Args.map aQ))),(17,(I (a0.Args.length:Int))),(18,(I (z1:Int))),(19,(.b z2))],[],H0⟩)
theorem Fi(hR:uV R)(a0:az)(a1:Int)(v0_18:Nat)(o:Nat⊕(Int⊕(Nat×Bool)))(h:pC R a0 a1 v0_18=some o):bz E0 Qv (GQ a0 a1) (tW a0 a1) v0_18 o:=
 bG (.or (bt<|ao (.n v0_18)<|.ex fun (y5:az)=>ao (.v (.a (ey y5)))<|iu<|xI fun r7=>oN (ao (.i ((v0_18+1:Nat):Int))<|.nil)) (bf<|.nil)) fun L=>bP h (fun h4 h=>ai (av h4)<|ai (rI v0_18)<|bR h fun y5 h6 h=>ai (oE aQ h6 (dI _))<|JA<|aW h (hR.f_scope_parts y5 a1) fun r7 h=>bI h (fun h9 h=>ai h9<|L h) (fun h9 h=>ai h9<|aJ h fun w10 h=>ai w10<|L h)) (fun h4 h=>ai (aw h4)<|L h)
def q8:Option Int:=
 (tV a0 a1).bind fun (r1:Int)=>
 if (r1 !=0)=true then
  some r1
 else
  (lp (fun v=>pC R a0 a1 v) 0).bind fun (x4:(Int⊕(Nat×Bool)))=>match x4 with
  | .inl ya_5=>
   some ya_5
  | .inr yb_5=>
   some 0
theorem Ev(hR:uV R)(a0:az)(a1:Int)(r:Int)(h:q8 R a0 a1=some r):wC a0 a1 r:=
 aX ajr (bt<|xI fun r1=>oN (bt<|ao (.i (a0.Args.length:Int))<|.or (.ex fun (ya_5:Int)=>ao (.bX (tW a0 a1 (.inl ya_5)))<|.nil) (.ex fun (yb_5:(Nat×Bool))=>ao (.bX (tW a0 a1 (.inr yb_5)))<|.nil))) fun L=>su<|aW h (GP a0 a1) fun r1 h=>bI h (fun h3 h=>ai h3<|L h) (fun h3 h=>kP h3<|ai (aC aQ a0.Args)<|dy h (dZ (Fi R hR a0 a1) 0) (fun ya_5 h=>L h) (fun yb_5 h=>L h))
def mm:Nat→wD
 | 0=>⟨fun z0 z1=>none⟩
 | n+1=>⟨q8 (mm n)⟩
theorem Ao:∀ n,uV (mm n)
 | 0=>⟨fun _ _ r h=>(by cases h)⟩
 | n+1=>⟨fun a0 a1 r h=>Ev _ (Ao n) a0 a1 r h⟩
def wE:Option Int:=ev fun n=>(mm n).f_scope_parts a0 a1
theorem Fj(r:Int)(h:wE a0 a1=some r):wC a0 a1 r:=by
 obtain ⟨n,hn⟩:=uR h
 exact (Ao n).f_scope_parts a0 a1 r hn
abbrev LC(a0:az)(a1:Int)(r:Int):bm×HP:=(.ret (I r),H0)
def lW:Option Int:=
 (xU a0 15).bind fun (r1:Int)=>
 if 15<r1 then
  some 2
 else
  (wE a0 a1).bind fun (r4:Int)=>
  some r4
theorem tX(r:Int)(h:lW a0 a1=some r):call G Ω0 E0 45 [(.a (ey a0)),(I a1)] H0=some (LC a0 a1 r):=
 aX G45 (bt<|xI fun r1=>oN (bt<|xI fun r4=>.nil)) fun L=>su<|aW h (GN a0 15) fun r1 h=>bP h (fun h3 h=>ai (av h3)<|L h) (fun h3 h=>kP (aw h3)<|aW h (Fj a0 a1) fun r4 h=>L h)
end
section
variable (a0:Int)
abbrev Kc(a0:Int)(r:(Bool×Bool×Bool)):bm×HP:=(.ret (.tp [(.b r.1),(.b r.2.1),(.b r.2.2)]),H0)
def wF:Option (Bool×Bool×Bool):=
 if (a0 !=4)=true then
  if 2≤a0 then
   if (a0 !=2)=true then
    some ((decide (a0<7)),(decide (a0≤4)),(a0 !=3))
   else
    some ((decide (a0<7)),(decide (a0≤4)),false)
  else
   if (a0 !=2)=true then
    some ((decide (a0<7)),false,(a0 !=3))
   else
    some ((decide (a0<7)),false,false)
 else
  if 2≤a0 then
   if (a0 !=2)=true then
    some (false,(decide (a0≤4)),(a0 !=3))
   else
    some (false,(decide (a0≤4)),false)
  else
   if (a0 !=2)=true then
    some (false,false,(a0 !=3))
   else
    some (false,false,false)
theorem Fk(r:(Bool×Bool×Bool))(h:wF a0=some r):call G Ω0 E0 158 [(I a0)] H0=some (Kc a0 r):=
 aX ajU (.or (iu<|.or (iu<|.or (iu<|.nil) (JB<|.nil)) (JB<|.or (iu<|.nil) (JB<|.nil))) (JB<|.or (iu<|.or (iu<|.nil) (JB<|.nil)) (JB<|.or (iu<|.nil) (JB<|.nil)))) fun L=>bI h (fun h1 h=>nX h1<|bP h (fun h2 h=>nX (av h2)<|bI h (fun h3 h=>nX h3<|L h) (fun h3 h=>nX h3<|L h)) (fun h2 h=>nX (aw h2)<|bI h (fun h3 h=>nX h3<|L h) (fun h3 h=>nX h3<|L h))) (fun h1 h=>nX h1<|bP h (fun h2 h=>nX (av h2)<|bI h (fun h3 h=>nX h3<|L h) (fun h3 h=>nX h3<|L h)) (fun h2 h=>nX (aw h2)<|bI h (fun h3 h=>nX h3<|L h) (fun h3 h=>nX h3<|L h)))
end
end
variable [Lp]
attribute [local simp] gp execOp okB jK eG jf uE lV jR iK St.end_ St.k9 jx List.filter eN vS view CO Oe Rj G0 plain
def eC(k:Int):Bool:=decide (k≠4∧k<7)
def fT(k:Int):Bool:=decide (2≤k∧k≤4)
def eD(k:Int):Bool:=decide (k≠2∧k≠3)
def gP(p:Program)(i k:Int):Int:=if k=2 then i else if k=3 then p.Ins.length else p.Outs.length
theorem TF(k:Int):wF k=some (eC k,fT k,eD k):=by
 unfold wF eC fT eD
 by_cases h4:k=4
 ·subst h4;rfl
 by_cases h2:k=2
 ·subst h2;rfl
 by_cases h22:2≤k
 ·by_cases h3:k=3<;>simp [h4,h2,h22,h3]
 ·have h3:¬k=3:=by omega
  simp [h4,h2,h22,h3]
noncomputable def ub(ex:az→Option Int):List az→Option Int
 | []=>some 0
 | e::r=>(ex e).bind fun x=>if x≠0 then some x else ub ex r
def sI(p:Program)(i:Int)(s:Stmt):Bool:=(eC s.Kind&&(decide (s.Var<0)||decide ((p.Vars.length:Int)≤s.Var)))||(fT s.Kind&&(decide (s.Other<0)||decide (gP p i s.Kind≤s.Other)))
def kQ(s:Stmt):Bool:=decide (s.Expr.Kind=0)&&decide (s.Expr.N=0)&&decide (s.Expr.Args.length=0)
def xr(s:Stmt):Bool:=(((((!eC s.Kind&&decide (s.Var≠0))||(!fT s.Kind&&decide (s.Other≠0)))||(!eD s.Kind&&!kQ s))||(s.Kind !=2&&decide (0<s.Args.length)))||(!decide (7≤s.Kind)&&decide (0<s.Then.length)))||(s.Kind !=7&&decide (0<s.Else.length))
noncomputable def IG(ex:az→Option Int)(p:Program)(i:Int)(s:Stmt):Option Int:=
 if sI p i s=true then some 5
 else if xr s=true then some 1
 else (if s.Kind=2 then (p.Funcs[s.Other.toNat]?).map fun f=>decide (s.Args.length≠f.Params.length) else some false).bind fun b=>if b=true then some 1
 else (if eD s.Kind=true then ex s.Expr else some 0).bind fun x=>if x≠0 then some x else if s.Args.length≤9223372036854775807 then ub ex s.Args else none
noncomputable def fU(c:Checker)(s:Stmt):Option Int:=if s.Kind<1∨8<s.Kind then some 7 else IG (fun e=>lW e c.p.Vars.length) c.p c.funcs s
section
variable (dp:Nat)(H:HP)(k0:Key)(hk:k0.dp<dp)(c:Checker)(s:Stmt)(hH:H k0=some (bj c))
abbrev tS(dp:Nat)(H:HP)(k0:Key)(s:Stmt)(xs:List (Nat×AV)):St:=⟨(0,.p k0 0)::(3,.p ⟨dp,3⟩ 0)::xs,[(3,bN s)],H⟩
abbrev JM(s:Stmt):List (Nat×AV):=[(5,I s.Kind),(6,.b (eC s.Kind)),(7,.b (fT s.Kind)),(8,.b (eD s.Kind)),(9,.b (decide (7≤s.Kind))),(10,.b (kQ s))]
include hk hH
set_option maxHeartbeats 4000000 in
theorem TG:call G Ω0 ⟨dp,true⟩ 159 [.p k0 0,I s.Kind] H=some (.ret (I (gP c.p c.funcs s.Kind)),H):=by
 have e0:¬k0.dp=dp:=by omega
 have e2:∀ d,¬k0=⟨dp,d⟩:=fun d=>cP hk
 refine IF (st:=⟨[(4,I (gP c.p c.funcs s.Kind))],[],H⟩) ajV ?_ (by simp [Pe]) rfl
 unfold gP
 apply bw
 apply cD (by simp;rfl)
 apply bw
 apply bw
 apply cD (by simp;rfl)
 apply zw
 apply bw
 apply cD (by simp;rfl)
 apply iR (s.Kind==2) (by simp)
 ·intro hq
  rw [ab (by simpa using hq)]
  apply bw
  apply cD (by simp [e0,e2,hH];rfl)
  exact nI rfl
 intro hq
 rw [ad (by simpa using hq)]
 apply bw
 apply cD (by simp;rfl)
 apply iR (s.Kind==3) (by simp)
 ·intro hq
  rw [ab (by simpa using hq)]
  apply bw
  apply cD (by simp [e0,e2,hH];rfl)
  exact nI rfl
 intro hq
 rw [ad (by simpa using hq)]
 apply mN
 apply oG
 apply bw
 apply cD (by simp [e0,e2,hH];rfl)
 exact nI rfl
abbrev Fv(dp:Nat)(H:HP)(k0:Key)(s:Stmt)(k:Nat):St:=⟨[(0,.p k0 0),(171,.l 37 (s.Args.map aQ)),(172,I s.Args.length),(173,I k)],[],H⟩
set_option maxHeartbeats 8000000 in
theorem Rk(hl:s.Args.length≤9223372036854775807){r:Int} : ∀ (rest:List az)(k:Nat),s.Args.drop k=rest→ub (fun e=>lW e c.p.Vars.length) rest=some r→
  ∃ q,gY G Ω0 ⟨dp,true⟩ QK (Fv dp H k0 s k)=some q∧(q=(.ret,⟨[(4,I r)],[],H⟩)∨r=0∧∃ y,q=(.ex 1,y)∧y.hp=H)
 | [],k,hd,h=>by
  obtain rfl:=aa h
  have hk:¬((k:Int)<(s.Args.length:Int)):=by
   have:=eW.1 hd;omega
  apply Exists.intro
  apply And.intro
  ·refine di (r:=(.ex 1,?_)) ?_ (by simp)
   rotate_left
   ·show run G Ω0 _ GD (Fv dp H k0 s k)=_
    apply ak (by simp [hk];rfl)
    apply iQ
    apply cg (by simp [hk])
    exact dN _ _ _
  ·exact .inr ⟨rfl,_,rfl,rfl⟩
 | e::rest,k,hd,h=>by
  obtain ⟨x,hx,h⟩:=ah.1 h
  have e0:¬k0.dp=dp:=by omega
  have e2:∀ d,¬k0=⟨dp,d⟩:=fun d=>cP hk
  have hlt:k<s.Args.length:=by
   have h1:=an List.length hd
   simp only [gy,bu] at h1
   omega
  have hg:s.Args[k]? =some e:=by
   have:=an (fun l=>l[0]?) hd
   simpa using this
  have hd2:s.Args.drop (k+1)=rest:=by
   have:=an List.tail hd
   simpa using this
  have hw:IntKind.i64.wrap ((k:Int)+1)=(k:Int)+1:=wrap64 (by omega) (by omega)
  have hX:=cw (E:=⟨dp,true⟩) (tX e c.p.Vars.length x hx) (by simp) (by simp)
  have body:Nx ⟨dp,true⟩ GD (Fv dp H k0 s k) fun q=>q=if x≠0 then (.ret,⟨[(4,I x)],[],H⟩) else (.nrm,Fv dp H k0 s (k+1)):=by
   apply bw
   apply cD (by simp [hlt];rfl)
   apply bw
   apply iR true (by simp [hlt])
   ·intro _
    apply mN
    apply oG
    apply bw
    apply zw
    apply bw
    apply cD (by simp [hg,dI,e2];rfl)
    apply bw
    apply cD (by simp [-aU,e0,e2,hH,hX];rfl)
    apply bw
    apply cD (st1:=⟨[(0,.p k0 0),(14,I x),(171,.l 37 (s.Args.map aQ)),(172,I s.Args.length),(173,I k),(186,.b (decide (x≠0)))],[],H⟩) (by by_cases q:x=0<;>simp [q])
    apply iR (decide (x≠0)) (by simp)
    ·intro hq
     rw [ab (nj hq)]
     apply bw
     apply cD (by simp;rfl)
     exact nI rfl
    ·intro hq
     rw [ad (yK hq)]
     apply mN
     refine cD (st1:=Fv dp H k0 s (k+1)) ?_ rfl
     simp [hw]
   ·intro hq;cases hq
  by_cases hx0:x=0
  ·rw [ad (by simp [hx0])] at h
   obtain ⟨q,q1,q2⟩:=Rk hl rest (k+1) hd2 h
   refine ⟨q,?_,q2⟩
   rw [ad (by simp [hx0])] at body
   rw [c8]
   exact q1
   show (run G Ω0 _ GD (Fv dp H k0 s k)).bind _=_
   rw [L4 body];rfl
  ·rw [ab hx0] at h
   obtain rfl:=aa h
   rw [ab hx0] at body
   exact ⟨_,di (by exact L4 body) (by simp),.inl rfl⟩
set_option maxHeartbeats 16000000 in
theorem ab9{r:Int}(h:fU c s=some r):call G Ω0 ⟨dp,true⟩ 140 [.p k0 0,.a (bN s)] H=some (.ret (I r),H):=by
 have e0:¬k0.dp=dp:=by omega
 have e2:∀ d,¬k0=⟨dp,d⟩:=fun d=>cP hk
 have hN:=cw (E:=⟨dp,true⟩) (Fk s.Kind _ (TF s.Kind)) (by simp) (by simp)
 have hO:=TG (dp+1) (fun k=>if k.dp=dp then none else H k) k0 (by omega) c s (by simp [e0,hH])
 unfold fU at h
 refine IF (st:=⟨[(4,I r)],[],H⟩) ajM ?_ (by simp [Pd]) rfl
 apply bw
 apply cD (by simp [e2];rfl)
 apply bw
 apply cD (by simp;rfl)
 apply bw
 apply bw
 apply cD (st1:=tS dp H k0 s [(5,I s.Kind),(22,.b (decide (s.Kind<1∨8<s.Kind)))]) (by by_cases q1:s.Kind<1<;>by_cases q2:8<s.Kind<;>simp [q1,q2])
 apply iR (decide (s.Kind<1∨8<s.Kind)) (by simp)
 ·intro hq
  rw [ab (nj hq)] at h
  obtain rfl:=aa h
  apply bw
  apply cD (by simp;rfl)
  exact nI rfl
 intro hq
 rw [ad (yK hq)] at h
 unfold IG at h
 apply mN
 apply oG
 apply bw
 apply cD (st1:=tS dp H k0 s [(5,I s.Kind),(6,.b (eC s.Kind)),(7,.b (fT s.Kind)),(8,.b (eD s.Kind))]) (by simp [-aU,hN])
 apply bw
 apply cD (st1:=tS dp H k0 s [(5,I s.Kind),(6,.b (eC s.Kind)),(7,.b (fT s.Kind)),(8,.b (eD s.Kind)),(9,.b (decide (7≤s.Kind)))]) (by simp)
 apply bw
 apply cD (st1:=tS dp H k0 s (JM s)) (by by_cases a1:s.Expr.Kind=0<;>by_cases a2:s.Expr.N=0<;>by_cases a3:s.Expr.Args.length=0<;>simp [a1,a2,a3,kQ])
 apply bw
 apply zw
 apply bw
 apply cD (st1:=tS dp H k0 s (JM s++[(48,.b (sI c.p c.funcs s))]))
 ·apply PE rfl (by simp)
  refine ab7 (v1:=tS dp H k0 s (JM s++[(66,.b (eC s.Kind&&(decide (s.Var<0)||decide ((c.p.Vars.length:Int)≤s.Var))))])) 18 [0,3,5,6,7,8,9,10,66] ?_ ?_
  ·cases hv:eC s.Kind
   ·((repeat refine yb (by simp [hv];rfl) ?_);exact yc (by simp [hv]))
   ·by_cases q:s.Var<0
    ·((repeat refine yb (by simp [hv,q];rfl) ?_);exact yc (by simp [hv,q]))
    ·((repeat refine yb (by simp [hv,q,e0,e2,hH];rfl) ?_);exact yc (by simp [hv,q]))
  ·refine L2 ?_ (by simp)
   unfold sI
   cases (eC s.Kind&&(decide (s.Var<0)||decide ((c.p.Vars.length:Int)≤s.Var)))
   ·cases ho:fT s.Kind
    ·((repeat refine yb (by simp [ho];rfl) ?_);exact yc (by simp [ho]))
    ·by_cases q:s.Other<0
     ·((repeat refine yb (by simp [ho,q];rfl) ?_);exact yc (by simp [ho,q]))
     ·((repeat refine yb (by simp [ho,q,e0,e2,hO];rfl) ?_);exact yc (by simp [ho,q]))
   ·((repeat refine yb (by simp;rfl) ?_);exact yc (by simp))
 apply iR (sI c.p c.funcs s) (by simp)
 ·intro hq
  rw [ab hq] at h
  obtain rfl:=aa h
  apply bw
  apply cD (by simp;rfl)
  exact nI rfl
 intro hn
 rw [ad (by simp [hn])] at h
 apply bw
 apply cD (st1:=tS dp H k0 s [(5,I s.Kind),(8,.b (eD s.Kind)),(82,.b (xr s))])
 ·apply PD rfl
  refine qC (v1:=tS dp H k0 s (JM s++[(90,.b (!eC s.Kind&&decide (s.Var≠0)))])) 8 [0,3,5,6,7,8,9,10,90] ?_ ?_
  ·cases hv:eC s.Kind<;>by_cases q:s.Var=0<;>((repeat refine s0 (by simp [hv,q];rfl) ?_);exact s7 (by simp [hv,q]))
  unfold xr
  refine qC (v1:=tS dp H k0 s (JM s++[(99,.b ((!eC s.Kind&&decide (s.Var≠0))||(!fT s.Kind&&decide (s.Other≠0))))])) 9 [0,3,5,6,7,8,9,10,99] ?_ ?_
  ·cases (!eC s.Kind&&decide (s.Var≠0))<;>cases ho:fT s.Kind<;>by_cases q:s.Other=0<;>((repeat refine s0 (by simp [ho,q];rfl) ?_);exact s7 (by simp [ho,q]))
  generalize ((!eC s.Kind&&decide (s.Var≠0))||(!fT s.Kind&&decide (s.Other≠0)))=b2
  refine qC (v1:=tS dp H k0 s (JM s++[(107,.b (b2||(!eD s.Kind&&!kQ s)))])) 8 [0,3,5,6,7,8,9,10,107] ?_ ?_
  ·cases b2<;>cases he:eD s.Kind<;>cases hb:kQ s<;>((repeat refine s0 (by simp [he,hb];rfl) ?_);exact s7 (by simp [he,hb]))
  generalize (b2||(!eD s.Kind&&!kQ s))=b3
  refine qC (v1:=tS dp H k0 s (JM s++[(117,.b (b3||(s.Kind !=2&&decide (0<s.Args.length))))])) 10 [0,3,5,6,7,8,9,10,117] ?_ ?_
  ·cases b3<;>cases q:(s.Kind !=2)<;>((repeat refine s0 (by simp [q];rfl) ?_);exact s7 (by simp [q]))
  generalize (b3||(s.Kind !=2&&decide (0<s.Args.length)))=b4
  refine qC (v1:=tS dp H k0 s (JM s++[(127,.b (b4||(!decide (7≤s.Kind)&&decide (0<s.Then.length))))])) 10 [0,3,5,6,7,8,9,10,127] ?_ ?_
  ·cases b4<;>by_cases q:7≤s.Kind<;>((repeat refine s0 (by simp [q];rfl) ?_);exact s7 (by simp [q]))
  generalize (b4||(!decide (7≤s.Kind)&&decide (0<s.Then.length)))=b5
  refine LZ ?_ (by simp)
  cases b5<;>cases q:(s.Kind !=7)<;>((repeat refine s0 (by simp [q];rfl) ?_);exact s7 (by simp [q]))
 apply iR (xr s) (by simp)
 ·intro hq
  rw [ab hq] at h
  obtain rfl:=aa h
  apply bw
  apply cD (by simp;rfl)
  exact nI rfl
 intro hf
 rw [ad (by simp [hf])] at h
 obtain ⟨b,hb,h⟩:=ah.1 h
 apply bw
 apply cD (st1:=tS dp H k0 s [(8,.b (eD s.Kind)),(137,.b b)])
 ·apply PE rfl (by simp)
  refine L2 ?_ (by simp)
  cases q:(s.Kind==2)
  ·rw [ad (ne_of_beq_false q)] at hb
   obtain rfl:=aa hb
   ((repeat refine yb (by simp [q];rfl) ?_);exact yc (by simp [q]))
  ·have q1:=eq_of_beq q
   rw [ab q1] at hb
   obtain ⟨f,hf1,hf2⟩:=c9.1 hb
   have hnn:¬s.Other<0:=fun hlt=>by simp [sI,fT,q1,hlt] at hn
   obtain ⟨j,hj⟩:∃ j:Nat,s.Other=j:=⟨s.Other.toNat,by omega⟩
   rw [hj] at hf1
   have hf1:c.p.Funcs[j]? =some f:=by simpa using hf1
   subst hf2
   have q2:((s.Args.length:Int) !=(f.Params.length:Int))=decide (s.Args.length≠f.Params.length):=by
    by_cases q3:s.Args.length=f.Params.length
    ·simp [q3]
    ·rw [av q3]
     simp only [qj,ne_eq]
     omega
   ((repeat refine yb (by simp [q,e0,e2,hH,hj,hf1,cA];rfl) ?_);exact yc (by simp [q,q2]))
 apply iR b (by simp)
 ·intro hq
  rw [ab hq] at h
  obtain rfl:=aa h
  apply bw
  apply cD (by simp;rfl)
  exact nI rfl
 intro hq
 rw [ad (by simp [hq])] at h
 obtain ⟨x,hx,h⟩:=ah.1 h
 have tail:∀ st:St,st.aP [0,3] [0,3]=tS dp H k0 s []→x=0→Nx ⟨dp,true⟩ QL st fun q=>q=(.ret,⟨[(4,I r)],[],H⟩):=by
  intro st hst hx0
  apply oG
  rw [hst]
  rw [ad (by simp [hx0])] at h
  split at h
  ·rename_i hl
   obtain ⟨q,q1,q2⟩:=Rk dp H k0 hk c s hH hl s.Args 0 rfl h
   apply bw
   apply bw
   apply cD (st1:=Fv dp H k0 s 0) (by simp)
   apply zw
   refine PF q1 ?_
   rcases q2 with rfl | ⟨rfl,y,rfl,hy⟩
   ·rfl
   ·refine Eq.mpr (ab rfl) ?_
    apply bw
    apply cD (by simp [hy];rfl)
    exact nI rfl
  ·cases h
 apply mN
 apply oG
 apply bw
 apply bw
 apply cD (st1:=tS dp H k0 s [(157,.b (eD s.Kind))]) (by simp)
 apply iR (eD s.Kind) (by simp)
 ·intro hE
  rw [ab hE] at hx
  have hX:=cw (E:=⟨dp,true⟩) (tX s.Expr c.p.Vars.length x hx) (by simp) (by simp)
  apply bw
  apply cD (st1:=tS dp H k0 s [(11,I x)]) (by simp [-aU,e0,e2,hH,hX])
  apply bw
  apply cD (st1:=tS dp H k0 s [(11,I x),(168,.b (decide (x≠0)))]) (by by_cases q:x=0<;>simp [q])
  apply iR (decide (x≠0)) (by simp)
  ·intro hq
   rw [ab (nj hq)] at h
   obtain rfl:=aa h
   apply bw
   apply cD (by simp;rfl)
   exact nI rfl
  ·intro hq
   apply mN
   exact tail _ (by simp) (by simpa using hq)
 ·intro hE
  rw [ad (by simp [hE])] at hx
  obtain rfl:=aa hx
  apply mN
  exact tail _ (by simp) rfl
end
theorem yG(dp:Nat)(hp:HP)(k0:Key)(hk:k0.dp<dp)(hz:cF dp hp)(c:Checker)(s:Stmt)(r:Int)(h:fU c s=some r):call G Ω0 ⟨dp,true⟩ 140 [.p k0 0,.a (bN s)] (aF hp k0 (bj c))=some (.ret (I r),aF hp k0 (bj c)):=
 ab9 dp _ k0 hk c s (by simp [aF]) h
end Go.Proofs.YtkkkkondjclcnaaGreat.A
