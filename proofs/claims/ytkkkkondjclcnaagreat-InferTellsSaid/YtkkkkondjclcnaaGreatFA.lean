/- Functions of the program as plain functions, by program. -/
import Derived.Test.YtkkkkondjclcnaaGreatTypes
import Derived.Test.YtkkkkondjclcnaaGreatLift
import Derived.Test.YtkkkkondjclcnaaGreatStepF
set_option linter.all false
set_option maxRecDepth 100000
namespace Go.Proofs.YtkkkkondjclcnaaGreat.A
open Go
noncomputable section
variable [Lp]
section
variable (a0:ax)(a1:Int)
abbrev LM(a0:ax)(a1:Int)(r:Int):bm×HP:=(.ret (I r),H0)
abbrev xZ(r:Int):Prop:=call G Ω0 E0 111 [(.a (dw a0)),(I a1)] H0=some (LM a0 a1 r)
end
structure ya where
 f_scope_size:ax→Int→Option Int
structure wB(R:ya):Prop where
 f_scope_size:∀ (a0:ax)(a1:Int)(r:Int),R.f_scope_size a0 a1=some r→xZ a0 a1 r
section
variable (R:ya)(a0:ax)(a1:Int)
def ra(v0_5:Int)(v0_11:Nat):Option ((Int×Nat)⊕((Int×Nat×Bool×ax)⊕(Int×Nat×Bool))):=
 if (v0_11:Int)<(a0.Args.length:Int) then
  (a0.Args[v0_11]?).bind fun (y2:ax)=>
  if a1<v0_5 then
   some (.inr (.inl (v0_5,v0_11,decide (a1<v0_5),y2)))
  else
   if IntKind.i64.wrap (a1 - v0_5)=a1 - v0_5 then
    (R.f_scope_size y2 (a1 - v0_5)).bind fun (r6:Int)=>
    if IntKind.i64.wrap (v0_5+r6)=v0_5+r6 then
     if IntKind.i64.wrap ((v0_11:Int)+1)=((v0_11+1:Nat):Int) then
      some (.inl (v0_5+r6,v0_11+1))
     else none
    else none
   else none
 else
  some (.inr (.inr (v0_5,v0_11,decide ((v0_11:Int)<(a0.Args.length:Int)))))
abbrev IF(v:(Int×Nat)):St:=⟨[(1,(I a1)),(5,(I v.1)),(9,(.l 37 (a0.Args.map aL))),(10,(I (a0.Args.length:Int))),(11,(I (v.2:Int)))],[],H0⟩
abbrev uU(x:((Int×Nat×Bool×ax)⊕(Int×Nat×Bool))):aH×St:=match x with | .inl (z1,z2,z3,z4)=>((.ex 0),⟨[(1,(I a1)),(5,(I z1)),(7,(.p ⟨0,7⟩ 0)),(9,(.l 37 (a0.Args.map aL))),(10,(I (a0.Args.length:Int))),(11,(I (z2:Int))),(17,(.b z3))],[(7,(dw z4))],H0⟩) | .inr (z1,z2,z3)=>((.ex 0),⟨[(1,(I a1)),(5,(I z1)),(9,(.l 37 (a0.Args.map aL))),(10,(I (a0.Args.length:Int))),(11,(I (z2:Int))),(12,(.b z3))],[],H0⟩)
theorem GR(hR:wB R)(a0:ax)(a1:Int)(v0_5:Int)(v0_11:Nat)(o:(Int×Nat)⊕((Int×Nat×Bool×ax)⊕(Int×Nat×Bool)))(h:ra R a0 a1 v0_5 v0_11=some o):bu E0 QD (IF a0 a1) (uU a0 a1) (v0_5,v0_11) o:=
 bH (.or (bt<|ao (.n v0_11)<|.ex fun (y2:ax)=>ao (.v (.a (dw y2)))<|dG<|oN (bt<|ao (.i (a1 - v0_5))<|xI fun r6=>ao (.i (v0_5+r6))<|ao (.i ((v0_11+1:Nat):Int))<|.nil)) (bf<|.nil)) fun L=>bL h (fun h1 h=>ai (av h1)<|ai (rI v0_11)<|cb h fun y2 h3 h=>ai (oq aL h3 (dm _))<|ai tt<|lL<|et<|bL h (fun h4 h=>ai (av h4)<|L h) (fun h4 h=>nI (aw h4)<|aQ h fun w5 h=>ai w5<|aU h (hR.f_scope_size y2 (a1 - v0_5)) fun r6 h=>aQ h fun w8 h=>ai w8<|aQ h fun w9 h=>ai w9<|L h)) (fun h1 h=>ai (aw h1)<|L h)
def sF:Option Int:=
 (lp (fun v=>ra R a0 a1 v.1 v.2) (1,0)).bind fun (x1:((Int×Nat×Bool×ax)⊕(Int×Nat×Bool)))=>match x1 with
 | .inl ya_2=>
  some ya_2.1
 | .inr yb_2=>
  some yb_2.1
theorem FB(hR:wB R)(a0:ax)(a1:Int)(r:Int)(h:sF R a0 a1=some r):xZ a0 a1 r:=
 aW aiF (bt<|ao (.i (a0.Args.length:Int))<|.or (.ex fun (ya_2:(Int×Nat×Bool×ax))=>ao (.bT (uU a0 a1 (.inl ya_2)))<|.nil) (.ex fun (yb_2:(Int×Nat×Bool))=>ao (.bT (uU a0 a1 (.inr yb_2)))<|.nil)) fun L=>et<|ai (aC aL a0.Args)<|dA h (ei (fun v=>GR R hR a0 a1 v.1 v.2) (1,0)) (fun ya_2 h=>L h) (fun yb_2 h=>L h)
def nJ:Nat→ya
 | 0=>⟨fun z0 z1=>none⟩
 | n+1=>⟨sF (nJ n)⟩
theorem Cc:∀ n,wB (nJ n)
 | 0=>⟨fun _ _ r h=>(by cases h)⟩
 | n+1=>⟨fun a0 a1 r h=>FB _ (Cc n) a0 a1 r h⟩
def yb:Option Int:=ev fun n=>(nJ n).f_scope_size a0 a1
theorem GS(r:Int)(h:yb a0 a1=some r):xZ a0 a1 r:=by
 obtain ⟨n,hn⟩:=uS h
 exact (Cc n).f_scope_size a0 a1 r hn
def zF:List cF:=(gA 23 45)::[]
def gE(a0:ax)(a1:Int)(w1_1:Nat)(u2_1:Bool):Option Bool:=
 some u2_1
abbrev iJ(w1_1:Nat)(u2_1:Bool)(x:Bool):St:=⟨[(1,(I a1)),(2,(.p ⟨0,2⟩ 0)),(23,(.b x))],[(2,(dw a0))],H0⟩
theorem jv(w1_1:Nat)(u2_1:Bool)(w:List AV)(x:Bool)(h:gE a0 a1 w1_1 u2_1=some x):oX G Ω0 E0 [1,2,23] [2] zF ⟨[(45,(.b u2_1)),(44,(W w 0)),(43,(W w 1)),(42,(W w 2)),(41,(W w 3)),(40,(W w 4)),(39,(W w 5)),(38,(W w 6)),(37,(W w 7)),(36,(W w 8)),(35,(W w 9)),(34,(W w 10)),(33,(W w 11)),(32,(W w 12)),(31,(W w 13)),(30,(W w 14)),(29,(W w 15)),(28,(W w 16)),(27,(.b (a0.Kind==1))),(26,(.b (a0.Kind==1))),(25,(I a0.Kind)),(24,(.p ⟨0,2⟩ 0)),(1,(I a1)),(2,(.p ⟨0,2⟩ 0)),(5,(I (w1_1:Int))),(17,(.b ((a0.Args.length:Int) !=(w1_1:Int))))],[(2,(dw a0))],H0⟩=some (iJ a0 a1 w1_1 u2_1 x):=
 oJ (.nil) fun L=>L h
def GU:List cF:=(gF 24 0 2)::(gQ 25 24)::(gB 26 .eql 25 (kI 1))::(gM 27 26)::⟨some 28,.fa 1 2,some ⟨27,true⟩,false⟩::⟨some 29,.ld none 28,some ⟨27,true⟩,false⟩::⟨some 30,.bo .lss false 29 (kI (-9999999)),some ⟨27,true⟩,false⟩::⟨some 31,.mv 30,some ⟨27,true⟩,false⟩::⟨some 32,.fa 1 2,some ⟨31,false⟩,false⟩::⟨some 33,.ld none 32,some ⟨31,false⟩,false⟩::⟨some 34,.bo .gtr false 33 (kI 9999999),some ⟨31,false⟩,false⟩::⟨some 35,.pk 31 (.c (.b true)) 34,some ⟨27,true⟩,false⟩::(gk 36 27 35 (.c (.b false)))::(gM 37 36)::⟨some 38,.mv 5,some ⟨37,false⟩,false⟩::⟨some 39,.bo .gtr false 38 (kI 0),some ⟨37,false⟩,false⟩::⟨some 40,.mv 39,some ⟨37,false⟩,false⟩::⟨some 41,.fa 1 2,some ⟨40,true⟩,false⟩::⟨some 42,.ld none 41,some ⟨40,true⟩,false⟩::⟨some 43,.bo .neq false 42 (kI 0),some ⟨40,true⟩,false⟩::⟨some 44,.pk 40 43 (.c (.b false)),some ⟨37,false⟩,false⟩::(gp 45 (.pk 37 (.c (.b true)) 44))::zF
def pn(w1_1:Nat):Option Bool:=
 if (a0.Kind==1)=true then
  if a0.N < -9999999 then
   (gE a0 a1 w1_1 true).bind fun (x7:Bool)=>
   some x7
  else
   if 9999999<a0.N then
    (gE a0 a1 w1_1 true).bind fun (x8:Bool)=>
    some x8
   else
    if 0<(w1_1:Int) then
     (gE a0 a1 w1_1 (a0.N !=0)).bind fun (x9:Bool)=>
     some x9
    else
     (gE a0 a1 w1_1 false).bind fun (x9:Bool)=>
     some x9
 else
  if 0<(w1_1:Int) then
   (gE a0 a1 w1_1 (a0.N !=0)).bind fun (x7:Bool)=>
   some x7
  else
   (gE a0 a1 w1_1 false).bind fun (x7:Bool)=>
   some x7
abbrev zG(w1_1:Nat)(x:Bool):St:=⟨[(1,(I a1)),(2,(.p ⟨0,2⟩ 0)),(23,(.b x))],[(2,(dw a0))],H0⟩
theorem FC(w1_1:Nat)(x:Bool)(h:pn a0 a1 w1_1=some x):oX G Ω0 E0 [1,2,23] [2] GU ⟨[(1,(I a1)),(2,(.p ⟨0,2⟩ 0)),(5,(I (w1_1:Int))),(17,(.b ((a0.Args.length:Int) !=(w1_1:Int))))],[(2,(dw a0))],H0⟩=some (zG a0 a1 w1_1 x):=
 oJ (bt<|.or (pj<|.or (bf<|bf<|bf<|bt<|bt<|bt<|bf<|bf<|bf<|bf<|bt<|.jb (some 23) 0<|.ex fun (x7:Bool)=>ao (.jn (iJ a0 a1 w1_1 true x7))<|.nil) (bt<|bt<|bt<|bt<|bt<|bf<|bt<|.or (N8<|.jb (some 23) 0<|.ex fun (x8:Bool)=>ao (.jn (iJ a0 a1 w1_1 true x8))<|.nil) (eF<|.or (Re<|.jb (some 23) 0<|.ex fun (x9:Bool)=>ao (.jn (iJ a0 a1 w1_1 (a0.N !=0) x9))<|.nil) (PF<|.jb (some 23) 0<|.ex fun (x9:Bool)=>ao (.jn (iJ a0 a1 w1_1 false x9))<|.nil)))) (bf<|bf<|bf<|bf<|bf<|bf<|bt<|bt<|bt<|.or (Re<|.jb (some 23) 0<|.ex fun (x7:Bool)=>ao (.jn (iJ a0 a1 w1_1 (a0.N !=0) x7))<|.nil) (PF<|.jb (some 23) 0<|.ex fun (x7:Bool)=>ao (.jn (iJ a0 a1 w1_1 false x7))<|.nil))) fun L=>ai (rfl:Z0)<|bz h (fun h5 h=>Ai h5<|ai (rfl:Z0)<|Ai h5<|bL h (fun h6 h=>eD (av h6)<|ai (g1 h5)<|ai (av h6)<|ai h5<|ju<|ju<|ai tt<|aU h (jv a0 a1 w1_1 true [.sk,.sk,.sk,.sk,.sk,.sk,.sk,(.b true),(.b true),(.b true),.sk,.sk,.sk,(.b (decide (a0.N < -9999999))),(.b (decide (a0.N < -9999999))),(I a0.N),(.p ⟨0,2⟩ 1)]) fun x7 h=>L h) (fun h6 h=>Az (aw h6)<|ai (g1 h5)<|ai (aw h6)<|ai h5<|bL h (fun h7 h=>N7 (av h7)<|aU h (jv a0 a1 w1_1 true [.sk,.sk,.sk,.sk,.sk,.sk,.sk,(.b (decide (9999999<a0.N))),(.b (decide (9999999<a0.N))),(.b (decide (9999999<a0.N))),(.b (decide (9999999<a0.N))),(I a0.N),(.p ⟨0,2⟩ 1),(.b (decide (a0.N < -9999999))),(.b (decide (a0.N < -9999999))),(I a0.N),(.p ⟨0,2⟩ 1)]) fun x8 h=>L h) (fun h7 h=>eD (aw h7)<|bL h (fun h8 h=>LF (av h8)<|ai (g0 (aw h7))<|ai (av h8)<|ai (aw h7)<|aU h (jv a0 a1 w1_1 (a0.N !=0) [(.b (a0.N !=0)),(.b (a0.N !=0)),(I a0.N),(.p ⟨0,2⟩ 1),(.b (decide (0<(w1_1:Int)))),(.b (decide (0<(w1_1:Int)))),(I (w1_1:Int)),(.b (decide (9999999<a0.N))),(.b (decide (9999999<a0.N))),(.b (decide (9999999<a0.N))),(.b (decide (9999999<a0.N))),(I a0.N),(.p ⟨0,2⟩ 1),(.b (decide (a0.N < -9999999))),(.b (decide (a0.N < -9999999))),(I a0.N),(.p ⟨0,2⟩ 1)]) fun x9 h=>L h) (fun h8 h=>cU (aw h8)<|ai (g0 (aw h7))<|ai (aw h8)<|ai (aw h7)<|aU h (jv a0 a1 w1_1 false [(.b false),.sk,.sk,.sk,(.b (decide (0<(w1_1:Int)))),(.b (decide (0<(w1_1:Int)))),(I (w1_1:Int)),(.b (decide (9999999<a0.N))),(.b (decide (9999999<a0.N))),(.b (decide (9999999<a0.N))),(.b (decide (9999999<a0.N))),(I a0.N),(.p ⟨0,2⟩ 1),(.b (decide (a0.N < -9999999))),(.b (decide (a0.N < -9999999))),(I a0.N),(.p ⟨0,2⟩ 1)]) fun x9 h=>L h)))) (fun h5 h=>cU h5<|ai (g1 h5)<|lK h5<|ai hf<|ai hf<|ai hf<|bL h (fun h6 h=>Ai (av h6)<|ai (rfl:Z0)<|Db (av h6)<|aU h (jv a0 a1 w1_1 (a0.N !=0) [(.b (a0.N !=0)),(.b (a0.N !=0)),(I a0.N),(.p ⟨0,2⟩ 1),(.b (decide (0<(w1_1:Int)))),(.b (decide (0<(w1_1:Int)))),(I (w1_1:Int)),(.b false),(.b false),.sk,.sk,.sk,.sk,.sk,.sk,.sk,.sk]) fun x7 h=>L h) (fun h6 h=>cU (aw h6)<|ai hf<|ai (aw h6)<|ai ff<|aU h (jv a0 a1 w1_1 false [(.b false),.sk,.sk,.sk,(.b (decide (0<(w1_1:Int)))),(.b (decide (0<(w1_1:Int)))),(I (w1_1:Int)),(.b false),(.b false),.sk,.sk,.sk,.sk,.sk,.sk,.sk,.sk]) fun x7 h=>L h))
def mE(w1_1:Nat):Option (Unit⊕(Unit⊕(Unit⊕Unit))):=
 if ((a0.Args.length:Int) !=(w1_1:Int))=true then
  some (.inl ())
 else
  (pn a0 a1 w1_1).bind fun (x5:Bool)=>
  if x5=true then
   some (.inr (.inl ()))
  else
   if (a0.Kind==2)=true then
    if a0.N<0 then
     some (.inr (.inr (.inl ())))
    else
     if a1≤a0.N then
      some (.inr (.inr (.inl ())))
     else
      some (.inr (.inr (.inr ())))
   else
    some (.inr (.inr (.inr ())))
abbrev eV(a0:ax)(a1:Int)(w1_1:Nat)(x:(Unit⊕(Unit⊕(Unit⊕Unit)))):aH×St:=match x with | .inl ()=>(.ret,⟨[(4,(I 1))],[],H0⟩) | .inr (.inl ())=>(.ret,⟨[(4,(I 3))],[],H0⟩) | .inr (.inr (.inl ()))=>(.ret,⟨[(4,(I 5))],[],H0⟩) | .inr (.inr (.inr ()))=>(.ret,⟨[(4,(I 0))],[],H0⟩)
theorem yc(w1_1:Nat)(x:(Unit⊕(Unit⊕(Unit⊕Unit))))(h:mE a0 a1 w1_1=some x):run G Ω0 E0 QX ⟨[(1,(I a1)),(2,(.p ⟨0,2⟩ 0)),(5,(I (w1_1:Int)))],[(2,(dw a0))],H0⟩=some (eV a0 a1 w1_1 x):=
 zD (bt<|ao (.i (a0.Args.length:Int))<|oN (.jb (some 24) 22<|.ex fun (x5:Bool)=>ao (.jn (zG a0 a1 w1_1 x5))<|oN (bt<|.or (pj<|.or (bf<|bf<|bf<|bf<|bt<|bt<|bt<|bt<|.nil) (bt<|bt<|bt<|bt<|bt<|bt<|bf<|bt<|oN (.nil))) (Ty<|.nil)))) fun L=>ai (rfl:Z0)<|ai (aC aL a0.Args)<|bz h (fun h4 h=>ai h4<|L h) (fun h4 h=>ai h4<|aU h (FC a0 a1 w1_1) fun x5 h=>bz h (fun h7 h=>ai h7<|L h) (fun h7 h=>nI h7<|bz h (fun h8 h=>Ai h8<|ai (rfl:Z0)<|Ai h8<|bL h (fun h9 h=>eD (av h9)<|ai (g0 (av h9))<|ai (g1 h8)<|ai (av h9)<|ai h8<|ai tt<|L h) (fun h9 h=>Rd (aw h9)<|ai (g1 h8)<|ai (aw h9)<|ai h8<|bL h (fun h10 h=>ai (av h10)<|L h) (fun h10 h=>ai (aw h10)<|L h))) (fun h8 h=>cU h8<|ai (g1 h8)<|lK h8<|ai ff<|L h)))
abbrev LN(a0:ax)(a1:Int)(r:Int):bm×HP:=(.ret (I r),H0)
def ub:Option Int:=
 if a0.Kind<1 then
  some 7
 else
  if 7<a0.Kind then
   some 7
  else
   if 2<a0.Kind then
    (mE a0 a1 2).bind fun (x4:(Unit⊕(Unit⊕(Unit⊕Unit))))=>match x4 with
    | .inl ya_5=>
     some 1
    | .inr (.inl yb_5)=>
     some 3
    | .inr (.inr (.inl yc_5))=>
     some 5
    | .inr (.inr (.inr yd_5))=>
     some 0
   else
    (mE a0 a1 0).bind fun (x4:(Unit⊕(Unit⊕(Unit⊕Unit))))=>match x4 with
    | .inl ya_5=>
     some 1
    | .inr (.inl yb_5)=>
     some 3
    | .inr (.inr (.inl yc_5))=>
     some 5
    | .inr (.inr (.inr yd_5))=>
     some 0
theorem GV(r:Int)(h:ub a0 a1=some r):call G Ω0 E0 145 [(.a (dw a0)),(I a1)] H0=some (LN a0 a1 r):=
 aW ai2 (bt<|.or (bf<|bf<|bf<|bt<|bt<|.nil) (Tz<|oN (bt<|.or (bt<|.fb<|.or (.ex fun (ya_5:Unit)=>ao (.nW (eV a0 a1 2 (.inl ya_5)))<|.nil) (.or (.ex fun (yb_5:Unit)=>ao (.nW (eV a0 a1 2 (.inr (.inl yb_5))))<|.nil) (.or (.ex fun (yc_5:Unit)=>ao (.nW (eV a0 a1 2 (.inr (.inr (.inl yc_5)))))<|.nil) (.ex fun (yd_5:Unit)=>ao (.nW (eV a0 a1 2 (.inr (.inr (.inr yd_5)))))<|.nil)))) (bf<|.fb<|.or (.ex fun (ya_5:Unit)=>ao (.nW (eV a0 a1 0 (.inl ya_5)))<|.nil) (.or (.ex fun (yb_5:Unit)=>ao (.nW (eV a0 a1 0 (.inr (.inl yb_5))))<|.nil) (.or (.ex fun (yc_5:Unit)=>ao (.nW (eV a0 a1 0 (.inr (.inr (.inl yc_5)))))<|.nil) (.ex fun (yd_5:Unit)=>ao (.nW (eV a0 a1 0 (.inr (.inr (.inr yd_5)))))<|.nil))))))) fun L=>et<|bL h (fun h1 h=>eD (av h1)<|ai (av h1)<|ai tt<|L h) (fun h1 h=>ev6 (aw h1)<|bL h (fun h2 h=>ai (av h2)<|L h) (fun h2 h=>nI (aw h2)<|bL h (fun h3 h=>ai (av h3)<|Py h (yc a0 a1 2) (fun ya_5 h=>L h) (fun yb_5 h=>L h) (fun yc_5 h=>L h) (fun yd_5 h=>L h)) (fun h3 h=>ai (aw h3)<|Py h (yc a0 a1 0) (fun ya_5 h=>L h) (fun yb_5 h=>L h) (fun yc_5 h=>L h) (fun yd_5 h=>L h))))
abbrev Km(a0:ax)(a1:Int)(r:Int):bm×HP:=(.ret (I r),H0)
abbrev wC(r:Int):Prop:=call G Ω0 E0 112 [(.a (dw a0)),(I a1)] H0=some (Km a0 a1 r)
end
structure wD where
 f_scope_parts:ax→Int→Option Int
structure uV(R:wD):Prop where
 f_scope_parts:∀ (a0:ax)(a1:Int)(r:Int),R.f_scope_parts a0 a1=some r→wC a0 a1 r
section
variable (R:wD)(a0:ax)(a1:Int)
def po(v0_18:Nat):Option (Nat⊕(Int⊕(Nat×Bool))):=
 if (v0_18:Int)<(a0.Args.length:Int) then
  (a0.Args[v0_18]?).bind fun (y5:ax)=>
  (R.f_scope_parts y5 a1).bind fun (r7:Int)=>
  if (r7 !=0)=true then
   some (.inr (.inl r7))
  else
   if IntKind.i64.wrap ((v0_18:Int)+1)=((v0_18+1:Nat):Int) then
    some (.inl (v0_18+1))
   else none
 else
  some (.inr (.inr (v0_18,decide ((v0_18:Int)<(a0.Args.length:Int)))))
abbrev GW(v:Nat):St:=⟨[(1,(I a1)),(16,(.l 37 (a0.Args.map aL))),(17,(I (a0.Args.length:Int))),(18,(I (v:Int)))],[],H0⟩
abbrev uc(x:(Int⊕(Nat×Bool))):aH×St:=match x with | .inl z1=>(.ret,⟨[(4,(I z1))],[],H0⟩) | .inr (z1,z2)=>((.ex 0),⟨[(1,(I a1)),(16,(.l 37 (a0.Args.map aL))),(17,(I (a0.Args.length:Int))),(18,(I (z1:Int))),(19,(.b z2))],[],H0⟩)
theorem FD(hR:uV R)(a0:ax)(a1:Int)(v0_18:Nat)(o:Nat⊕(Int⊕(Nat×Bool)))(h:po R a0 a1 v0_18=some o):bu E0 QE (GW a0 a1) (uc a0 a1) v0_18 o:=
 bH (.or (bt<|ao (.n v0_18)<|.ex fun (y5:ax)=>ao (.v (.a (dw y5)))<|eF<|xI fun r7=>oN (ao (.i ((v0_18+1:Nat):Int))<|.nil)) (bf<|.nil)) fun L=>bL h (fun h4 h=>ai (av h4)<|ai (rI v0_18)<|cb h fun y5 h6 h=>ai (oq aL h6 (dm _))<|JL<|aU h (hR.f_scope_parts y5 a1) fun r7 h=>bz h (fun h9 h=>ai h9<|L h) (fun h9 h=>ai h9<|aQ h fun w10 h=>ai w10<|L h)) (fun h4 h=>ai (aw h4)<|L h)
def rb:Option Int:=
 (ub a0 a1).bind fun (r1:Int)=>
 if (r1 !=0)=true then
  some r1
 else
  (lp (fun v=>po R a0 a1 v) 0).bind fun (x4:(Int⊕(Nat×Bool)))=>match x4 with
  | .inl ya_5=>
   some ya_5
  | .inr yb_5=>
   some 0
theorem EM(hR:uV R)(a0:ax)(a1:Int)(r:Int)(h:rb R a0 a1=some r):wC a0 a1 r:=
 aW aiG (bt<|xI fun r1=>oN (bt<|ao (.i (a0.Args.length:Int))<|.or (.ex fun (ya_5:Int)=>ao (.bT (uc a0 a1 (.inl ya_5)))<|.nil) (.ex fun (yb_5:(Nat×Bool))=>ao (.bT (uc a0 a1 (.inr yb_5)))<|.nil))) fun L=>et<|aU h (GV a0 a1) fun r1 h=>bz h (fun h3 h=>ai h3<|L h) (fun h3 h=>nI h3<|ai (aC aL a0.Args)<|dA h (ei (FD R hR a0 a1) 0) (fun ya_5 h=>L h) (fun yb_5 h=>L h))
def ml:Nat→wD
 | 0=>⟨fun z0 z1=>none⟩
 | n+1=>⟨rb (ml n)⟩
theorem AE:∀ n,uV (ml n)
 | 0=>⟨fun _ _ r h=>(by cases h)⟩
 | n+1=>⟨fun a0 a1 r h=>EM _ (AE n) a0 a1 r h⟩
def wE:Option Int:=ev fun n=>(ml n).f_scope_parts a0 a1
theorem FE(r:Int)(h:wE a0 a1=some r):wC a0 a1 r:=by
 obtain ⟨n,hn⟩:=uS h
 exact (AE n).f_scope_parts a0 a1 r hn
abbrev LO(a0:ax)(a1:Int)(r:Int):bm×HP:=(.ret (I r),H0)
def jI:Option Int:=
 (yb a0 15).bind fun (r1:Int)=>
 if 15<r1 then
  some 2
 else
  (wE a0 a1).bind fun (r4:Int)=>
  some r4
theorem pq(r:Int)(h:jI a0 a1=some r):call G Ω0 E0 45 [(.a (dw a0)),(I a1)] H0=some (LO a0 a1 r):=
 aW G45 (bt<|xI fun r1=>oN (bt<|xI fun r4=>.nil)) fun L=>et<|aU h (GS a0 15) fun r1 h=>bL h (fun h3 h=>ai (av h3)<|L h) (fun h3 h=>nI (aw h3)<|aU h (FE a0 a1) fun r4 h=>L h)
end
section
variable (a0:Int)
abbrev Kn(a0:Int)(r:(Bool×Bool×Bool)):bm×HP:=(.ret (.tp [(.b r.1),(.b r.2.1),(.b r.2.2)]),H0)
def wF:Option (Bool×Bool×Bool):=
 if (a0 !=4)=true then
  if 2≤a0 then
   if (a0 !=2)=true then
    some ((decide (a0<7)),(decide (a0≤4)),(a0 !=3))
   else
    some ((decide (a0<7)),(decide (a0≤4)),false)
  else
   if (a0 !=2)=true then
    some ((decide (a0<7)),false,(a0 !=3))
   else
    some ((decide (a0<7)),false,false)
 else
  if 2≤a0 then
   if (a0 !=2)=true then
    some (false,(decide (a0≤4)),(a0 !=3))
   else
    some (false,(decide (a0≤4)),false)
  else
   if (a0 !=2)=true then
    some (false,false,(a0 !=3))
   else
    some (false,false,false)
theorem FF(r:(Bool×Bool×Bool))(h:wF a0=some r):call G Ω0 E0 158 [(I a0)] H0=some (Kn a0 r):=
 aW ai8 (.or (eF<|.or (eF<|.or (eF<|.nil) (JM<|.nil)) (JM<|.or (eF<|.nil) (JM<|.nil))) (JM<|.or (eF<|.or (eF<|.nil) (JM<|.nil)) (JM<|.or (eF<|.nil) (JM<|.nil)))) fun L=>bz h (fun h1 h=>ua h1<|bL h (fun h2 h=>ua (av h2)<|bz h (fun h3 h=>ua h3<|L h) (fun h3 h=>ua h3<|L h)) (fun h2 h=>ua (aw h2)<|bz h (fun h3 h=>ua h3<|L h) (fun h3 h=>ua h3<|L h))) (fun h1 h=>ua h1<|bL h (fun h2 h=>ua (av h2)<|bz h (fun h3 h=>ua h3<|L h) (fun h3 h=>ua h3<|L h)) (fun h2 h=>ua (aw h2)<|bz h (fun h3 h=>ua h3<|L h) (fun h3 h=>ua h3<|L h)))
end
end
variable [Lp]
attribute [local simp] gp execOp okB ja er iG tX mg jt iZ St.end_ St.jZ js List.filter eH vQ view C0 Ok Rv Hc plain
def ey(k:Int):Bool:=decide (k≠4∧k<7)
def fO(k:Int):Bool:=decide (2≤k∧k≤4)
def eu(k:Int):Bool:=decide (k≠2∧k≠3)
def gI(p:Program)(i k:Int):Int:=if k=2 then i else if k=3 then p.Ins.length else p.Outs.length
theorem TK(k:Int):wF k=some (ey k,fO k,eu k):=by
 unfold wF ey fO eu
 by_cases h4:k=4
 ·subst h4;rfl
 by_cases h2:k=2
 ·subst h2;rfl
 by_cases h22:2≤k
 ·by_cases h3:k=3<;>simp [h4,h2,h22,h3]
 ·have h3:¬k=3:=by omega
  simp [h4,h2,h22,h3]
noncomputable def ug(ex:ax→Option Int):List ax→Option Int
 | []=>some 0
 | e::r=>(ex e).bind fun x=>if x≠0 then some x else ug ex r
def sG(p:Program)(i:Int)(s:Stmt):Bool:=(ey s.Kind&&(decide (s.Var<0)||decide ((p.Vars.length:Int)≤s.Var)))||(fO s.Kind&&(decide (s.Other<0)||decide (gI p i s.Kind≤s.Other)))
def kB(s:Stmt):Bool:=decide (s.Expr.Kind=0)&&decide (s.Expr.N=0)&&decide (s.Expr.Args.length=0)
def xr(s:Stmt):Bool:=(((((!ey s.Kind&&decide (s.Var≠0))||(!fO s.Kind&&decide (s.Other≠0)))||(!eu s.Kind&&!kB s))||(s.Kind !=2&&decide (0<s.Args.length)))||(!decide (7≤s.Kind)&&decide (0<s.Then.length)))||(s.Kind !=7&&decide (0<s.Else.length))
noncomputable def IS(ex:ax→Option Int)(p:Program)(i:Int)(s:Stmt):Option Int:=
 if sG p i s=true then some 5
 else if xr s=true then some 1
 else (if s.Kind=2 then (p.Funcs[s.Other.toNat]?).map fun f=>decide (s.Args.length≠f.Params.length) else some false).bind fun b=>if b=true then some 1
 else (if eu s.Kind=true then ex s.Expr else some 0).bind fun x=>if x≠0 then some x else if s.Args.length≤9223372036854775807 then ug ex s.Args else none
noncomputable def fP(c:Checker)(s:Stmt):Option Int:=if s.Kind<1∨8<s.Kind then some 7 else IS (fun e=>jI e c.p.Vars.length) c.p c.funcs s
section
variable (dp:Nat)(H:HP)(k0:Key)(hk:k0.dp<dp)(c:Checker)(s:Stmt)(hH:H k0=some (bj c))
abbrev tS(dp:Nat)(H:HP)(k0:Key)(s:Stmt)(xs:List (Nat×AV)):St:=⟨(0,.p k0 0)::(3,.p ⟨dp,3⟩ 0)::xs,[(3,bC s)],H⟩
abbrev JX(s:Stmt):List (Nat×AV):=[(5,I s.Kind),(6,.b (ey s.Kind)),(7,.b (fO s.Kind)),(8,.b (eu s.Kind)),(9,.b (decide (7≤s.Kind))),(10,.b (kB s))]
include hk hH
set_option maxHeartbeats 4000000 in
theorem TL:call G Ω0 ⟨dp,true⟩ 159 [.p k0 0,I s.Kind] H=some (.ret (I (gI c.p c.funcs s.Kind)),H):=by
 have e0:¬k0.dp=dp:=by omega
 have e2:∀ d,¬k0=⟨dp,d⟩:=fun d=>de hk
 refine IQ (st:=⟨[(4,I (gI c.p c.funcs s.Kind))],[],H⟩) ai9 ?_ (by simp [Pm]) rfl
 unfold gI
 apply bq
 apply cy (by simp;rfl)
 apply bq
 apply bq
 apply cy (by simp;rfl)
 apply zL
 apply bq
 apply cy (by simp;rfl)
 apply iL (s.Kind==2) (by simp)
 ·intro hq
  rw [aa (by simpa using hq)]
  apply bq
  apply cy (by simp [e0,e2,hH];rfl)
  exact nv rfl
 intro hq
 rw [ab (by simpa using hq)]
 apply bq
 apply cy (by simp;rfl)
 apply iL (s.Kind==3) (by simp)
 ·intro hq
  rw [aa (by simpa using hq)]
  apply bq
  apply cy (by simp [e0,e2,hH];rfl)
  exact nv rfl
 intro hq
 rw [ab (by simpa using hq)]
 apply mH
 apply ov
 apply bq
 apply cy (by simp [e0,e2,hH];rfl)
 exact nv rfl
abbrev FN(dp:Nat)(H:HP)(k0:Key)(s:Stmt)(k:Nat):St:=⟨[(0,.p k0 0),(171,.l 37 (s.Args.map aL)),(172,I s.Args.length),(173,I k)],[],H⟩
set_option maxHeartbeats 8000000 in
theorem Rw(hl:s.Args.length≤9223372036854775807){r:Int} : ∀ (rest:List ax)(k:Nat),s.Args.drop k=rest→ug (fun e=>jI e c.p.Vars.length) rest=some r→
  ∃ q,fL G Ω0 ⟨dp,true⟩ QT (FN dp H k0 s k)=some q∧(q=(.ret,⟨[(4,I r)],[],H⟩)∨r=0∧∃ y,q=(.ex 1,y)∧y.hp=H)
 | [],k,hd,h=>by
  obtain rfl:=ad h
  have hk:¬((k:Int)<(s.Args.length:Int)):=by
   have:=eo.1 hd;omega
  apply Exists.intro
  apply And.intro
  ·refine cT (r:=(.ex 1,?_)) ?_ (by simp)
   rotate_left
   ·show run G Ω0 _ GK (FN dp H k0 s k)=_
    apply aj (by simp [hk];rfl)
    apply ig
    apply bQ (by simp [hk])
    exact du _ _ _
  ·exact .inr ⟨rfl,_,rfl,rfl⟩
 | e::rest,k,hd,h=>by
  obtain ⟨x,hx,h⟩:=af.1 h
  have e0:¬k0.dp=dp:=by omega
  have e2:∀ d,¬k0=⟨dp,d⟩:=fun d=>de hk
  have hlt:k<s.Args.length:=by
   have h1:=ak List.length hd
   simp only [hZ,bD] at h1
   omega
  have hg:s.Args[k]? =some e:=by
   have:=ak (fun l=>l[0]?) hd
   simpa using this
  have hd2:s.Args.drop (k+1)=rest:=by
   have:=ak List.tail hd
   simpa using this
  have hw:IntKind.i64.wrap ((k:Int)+1)=(k:Int)+1:=wrap64 (by omega) (by omega)
  have hX:=bM (E:=⟨dp,true⟩) (pq e c.p.Vars.length x hx) (by simp) (by simp)
  have body:Nx ⟨dp,true⟩ GK (FN dp H k0 s k) fun q=>q=if x≠0 then (.ret,⟨[(4,I x)],[],H⟩) else (.nrm,FN dp H k0 s (k+1)):=by
   apply bq
   apply cy (by simp [hlt];rfl)
   apply bq
   apply iL true (by simp [hlt])
   ·intro _
    apply mH
    apply ov
    apply bq
    apply zL
    apply bq
    apply cy (by simp [hg,dm,e2];rfl)
    apply bq
    apply cy (by simp [-aS,e0,e2,hH,hX];rfl)
    apply bq
    apply cy (st1:=⟨[(0,.p k0 0),(14,I x),(171,.l 37 (s.Args.map aL)),(172,I s.Args.length),(173,I k),(186,.b (decide (x≠0)))],[],H⟩) (by by_cases q:x=0<;>simp [q])
    apply iL (decide (x≠0)) (by simp)
    ·intro hq
     rw [aa (ob hq)]
     apply bq
     apply cy (by simp;rfl)
     exact nv rfl
    ·intro hq
     rw [ab (zb hq)]
     apply mH
     refine cy (st1:=FN dp H k0 s (k+1)) ?_ rfl
     simp [hw]
   ·intro hq;cases hq
  by_cases hx0:x=0
  ·rw [ab (by simp [hx0])] at h
   obtain ⟨q,q1,q2⟩:=Rw hl rest (k+1) hd2 h
   refine ⟨q,?_,q2⟩
   rw [ab (by simp [hx0])] at body
   rw [cP]
   exact q1
   show (run G Ω0 _ GK (FN dp H k0 s k)).bind _=_
   rw [Me body];rfl
  ·rw [aa hx0] at h
   obtain rfl:=ad h
   rw [aa hx0] at body
   exact ⟨_,cT (by exact Me body) (by simp),.inl rfl⟩
set_option maxHeartbeats 16000000 in
theorem abO{r:Int}(h:fP c s=some r):call G Ω0 ⟨dp,true⟩ 140 [.p k0 0,.a (bC s)] H=some (.ret (I r),H):=by
 have e0:¬k0.dp=dp:=by omega
 have e2:∀ d,¬k0=⟨dp,d⟩:=fun d=>de hk
 have hN:=bM (E:=⟨dp,true⟩) (FF s.Kind _ (TK s.Kind)) (by simp) (by simp)
 have hO:=TL (dp+1) (fun k=>if k.dp=dp then none else H k) k0 (by omega) c s (by simp [e0,hH])
 unfold fP at h
 refine IQ (st:=⟨[(4,I r)],[],H⟩) aiZ ?_ (by simp [Pk]) rfl
 apply bq
 apply cy (by simp [e2];rfl)
 apply bq
 apply cy (by simp;rfl)
 apply bq
 apply bq
 apply cy (st1:=tS dp H k0 s [(5,I s.Kind),(22,.b (decide (s.Kind<1∨8<s.Kind)))]) (by by_cases q1:s.Kind<1<;>by_cases q2:8<s.Kind<;>simp [q1,q2])
 apply iL (decide (s.Kind<1∨8<s.Kind)) (by simp)
 ·intro hq
  rw [aa (ob hq)] at h
  obtain rfl:=ad h
  apply bq
  apply cy (by simp;rfl)
  exact nv rfl
 intro hq
 rw [ab (zb hq)] at h
 unfold IS at h
 apply mH
 apply ov
 apply bq
 apply cy (st1:=tS dp H k0 s [(5,I s.Kind),(6,.b (ey s.Kind)),(7,.b (fO s.Kind)),(8,.b (eu s.Kind))]) (by simp [-aS,hN])
 apply bq
 apply cy (st1:=tS dp H k0 s [(5,I s.Kind),(6,.b (ey s.Kind)),(7,.b (fO s.Kind)),(8,.b (eu s.Kind)),(9,.b (decide (7≤s.Kind)))]) (by simp)
 apply bq
 apply cy (st1:=tS dp H k0 s (JX s)) (by by_cases a1:s.Expr.Kind=0<;>by_cases a2:s.Expr.N=0<;>by_cases a3:s.Expr.Args.length=0<;>simp [a1,a2,a3,kB])
 apply bq
 apply zL
 apply bq
 apply cy (st1:=tS dp H k0 s (JX s++[(48,.b (sG c.p c.funcs s))]))
 ·apply PN rfl (by simp)
  refine abM (v1:=tS dp H k0 s (JX s++[(66,.b (ey s.Kind&&(decide (s.Var<0)||decide ((c.p.Vars.length:Int)≤s.Var))))])) 18 [0,3,5,6,7,8,9,10,66] ?_ ?_
  ·cases hv:ey s.Kind
   ·((repeat refine yj (by simp [hv];rfl) ?_);exact yk (by simp [hv]))
   ·by_cases q:s.Var<0
    ·((repeat refine yj (by simp [hv,q];rfl) ?_);exact yk (by simp [hv,q]))
    ·((repeat refine yj (by simp [hv,q,e0,e2,hH];rfl) ?_);exact yk (by simp [hv,q]))
  ·refine Mc ?_ (by simp)
   unfold sG
   cases (ey s.Kind&&(decide (s.Var<0)||decide ((c.p.Vars.length:Int)≤s.Var)))
   ·cases ho:fO s.Kind
    ·((repeat refine yj (by simp [ho];rfl) ?_);exact yk (by simp [ho]))
    ·by_cases q:s.Other<0
     ·((repeat refine yj (by simp [ho,q];rfl) ?_);exact yk (by simp [ho,q]))
     ·((repeat refine yj (by simp [ho,q,e0,e2,hO];rfl) ?_);exact yk (by simp [ho,q]))
   ·((repeat refine yj (by simp;rfl) ?_);exact yk (by simp))
 apply iL (sG c.p c.funcs s) (by simp)
 ·intro hq
  rw [aa hq] at h
  obtain rfl:=ad h
  apply bq
  apply cy (by simp;rfl)
  exact nv rfl
 intro hn
 rw [ab (by simp [hn])] at h
 apply bq
 apply cy (st1:=tS dp H k0 s [(5,I s.Kind),(8,.b (eu s.Kind)),(82,.b (xr s))])
 ·apply PM rfl
  refine qy (v1:=tS dp H k0 s (JX s++[(90,.b (!ey s.Kind&&decide (s.Var≠0)))])) 8 [0,3,5,6,7,8,9,10,90] ?_ ?_
  ·cases hv:ey s.Kind<;>by_cases q:s.Var=0<;>((repeat refine s9 (by simp [hv,q];rfl) ?_);exact ta (by simp [hv,q]))
  unfold xr
  refine qy (v1:=tS dp H k0 s (JX s++[(99,.b ((!ey s.Kind&&decide (s.Var≠0))||(!fO s.Kind&&decide (s.Other≠0))))])) 9 [0,3,5,6,7,8,9,10,99] ?_ ?_
  ·cases (!ey s.Kind&&decide (s.Var≠0))<;>cases ho:fO s.Kind<;>by_cases q:s.Other=0<;>((repeat refine s9 (by simp [ho,q];rfl) ?_);exact ta (by simp [ho,q]))
  generalize ((!ey s.Kind&&decide (s.Var≠0))||(!fO s.Kind&&decide (s.Other≠0)))=b2
  refine qy (v1:=tS dp H k0 s (JX s++[(107,.b (b2||(!eu s.Kind&&!kB s)))])) 8 [0,3,5,6,7,8,9,10,107] ?_ ?_
  ·cases b2<;>cases he:eu s.Kind<;>cases hb:kB s<;>((repeat refine s9 (by simp [he,hb];rfl) ?_);exact ta (by simp [he,hb]))
  generalize (b2||(!eu s.Kind&&!kB s))=b3
  refine qy (v1:=tS dp H k0 s (JX s++[(117,.b (b3||(s.Kind !=2&&decide (0<s.Args.length))))])) 10 [0,3,5,6,7,8,9,10,117] ?_ ?_
  ·cases b3<;>cases q:(s.Kind !=2)<;>((repeat refine s9 (by simp [q];rfl) ?_);exact ta (by simp [q]))
  generalize (b3||(s.Kind !=2&&decide (0<s.Args.length)))=b4
  refine qy (v1:=tS dp H k0 s (JX s++[(127,.b (b4||(!decide (7≤s.Kind)&&decide (0<s.Then.length))))])) 10 [0,3,5,6,7,8,9,10,127] ?_ ?_
  ·cases b4<;>by_cases q:7≤s.Kind<;>((repeat refine s9 (by simp [q];rfl) ?_);exact ta (by simp [q]))
  generalize (b4||(!decide (7≤s.Kind)&&decide (0<s.Then.length)))=b5
  refine L9 ?_ (by simp)
  cases b5<;>cases q:(s.Kind !=7)<;>((repeat refine s9 (by simp [q];rfl) ?_);exact ta (by simp [q]))
 apply iL (xr s) (by simp)
 ·intro hq
  rw [aa hq] at h
  obtain rfl:=ad h
  apply bq
  apply cy (by simp;rfl)
  exact nv rfl
 intro hf
 rw [ab (by simp [hf])] at h
 obtain ⟨b,hb,h⟩:=af.1 h
 apply bq
 apply cy (st1:=tS dp H k0 s [(8,.b (eu s.Kind)),(137,.b b)])
 ·apply PN rfl (by simp)
  refine Mc ?_ (by simp)
  cases q:(s.Kind==2)
  ·rw [ab (ne_of_beq_false q)] at hb
   obtain rfl:=ad hb
   ((repeat refine yj (by simp [q];rfl) ?_);exact yk (by simp [q]))
  ·have q1:=eq_of_beq q
   rw [aa q1] at hb
   obtain ⟨f,hf1,hf2⟩:=dN.1 hb
   have hnn:¬s.Other<0:=fun hlt=>by simp [sG,fO,q1,hlt] at hn
   obtain ⟨j,hj⟩:∃ j:Nat,s.Other=j:=⟨s.Other.toNat,by omega⟩
   rw [hj] at hf1
   have hf1:c.p.Funcs[j]? =some f:=by simpa using hf1
   subst hf2
   have q2:((s.Args.length:Int) !=(f.Params.length:Int))=decide (s.Args.length≠f.Params.length):=by
    by_cases q3:s.Args.length=f.Params.length
    ·simp [q3]
    ·rw [av q3]
     simp only [tA,ne_eq]
     omega
   ((repeat refine yj (by simp [q,e0,e2,hH,hj,hf1,ct];rfl) ?_);exact yk (by simp [q,q2]))
 apply iL b (by simp)
 ·intro hq
  rw [aa hq] at h
  obtain rfl:=ad h
  apply bq
  apply cy (by simp;rfl)
  exact nv rfl
 intro hq
 rw [ab (by simp [hq])] at h
 obtain ⟨x,hx,h⟩:=af.1 h
 have tail:∀ st:St,st.aN [0,3] [0,3]=tS dp H k0 s []→x=0→Nx ⟨dp,true⟩ QU st fun q=>q=(.ret,⟨[(4,I r)],[],H⟩):=by
  intro st hst hx0
  apply ov
  rw [hst]
  rw [ab (by simp [hx0])] at h
  split at h
  ·rename_i hl
   obtain ⟨q,q1,q2⟩:=Rw dp H k0 hk c s hH hl s.Args 0 rfl h
   apply bq
   apply bq
   apply cy (st1:=FN dp H k0 s 0) (by simp)
   apply zL
   refine PO q1 ?_
   rcases q2 with rfl | ⟨rfl,y,rfl,hy⟩
   ·rfl
   ·refine Eq.mpr (aa rfl) ?_
    apply bq
    apply cy (by simp [hy];rfl)
    exact nv rfl
  ·cases h
 apply mH
 apply ov
 apply bq
 apply bq
 apply cy (st1:=tS dp H k0 s [(157,.b (eu s.Kind))]) (by simp)
 apply iL (eu s.Kind) (by simp)
 ·intro hE
  rw [aa hE] at hx
  have hX:=bM (E:=⟨dp,true⟩) (pq s.Expr c.p.Vars.length x hx) (by simp) (by simp)
  apply bq
  apply cy (st1:=tS dp H k0 s [(11,I x)]) (by simp [-aS,e0,e2,hH,hX])
  apply bq
  apply cy (st1:=tS dp H k0 s [(11,I x),(168,.b (decide (x≠0)))]) (by by_cases q:x=0<;>simp [q])
  apply iL (decide (x≠0)) (by simp)
  ·intro hq
   rw [aa (ob hq)] at h
   obtain rfl:=ad h
   apply bq
   apply cy (by simp;rfl)
   exact nv rfl
  ·intro hq
   apply mH
   exact tail _ (by simp) (by simpa using hq)
 ·intro hE
  rw [ab (by simp [hE])] at hx
  obtain rfl:=ad hx
  apply mH
  exact tail _ (by simp) rfl
end
theorem yZ(dp:Nat)(hp:HP)(k0:Key)(hk:k0.dp<dp)(hz:cM dp hp)(c:Checker)(s:Stmt)(r:Int)(h:fP c s=some r):call G Ω0 ⟨dp,true⟩ 140 [.p k0 0,.a (bC s)] (aG hp k0 (bj c))=some (.ret (I r),aG hp k0 (bj c)):=
 abO dp _ k0 hk c s (by simp [aG]) h
end Go.Proofs.YtkkkkondjclcnaaGreat.A
