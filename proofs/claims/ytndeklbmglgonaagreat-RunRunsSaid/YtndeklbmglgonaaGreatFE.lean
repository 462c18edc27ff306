/- Functions of the program as plain functions, by program. -/
import Derived.Test.YtndeklbmglgonaaGreatTypes
import Derived.Test.YtndeklbmglgonaaGreatLift
import Derived.Test.YtndeklbmglgonaaGreatFB
set_option maxRecDepth 100000
set_option linter.unusedSectionVars false
set_option linter.unusedVariables false
set_option linter.unusedSimpArgs false
set_option linter.constructorNameAsVariable false
namespace Go.Proofs.YtndeklbmglgonaaGreat.A
open Go
noncomputable section
variable [Lp]
section
variable (a0:ag)(a1:Int)
abbrev FM(a0:ag)(a1:Int)(r:Int):bh×HP:=(.ret (I r),H0)
abbrev sM(r:Int):Prop:=call G Ω0 E0 73 [(.a (bn a0)),(I a1)] H0=some (FM a0 a1 r)
end
structure sN where
 f_scope_size:ag→Int→Option Int
structure rA(R:sN):Prop where
 f_scope_size:∀ (a0:ag)(a1:Int)(r:Int),R.f_scope_size a0 a1=some r→sM a0 a1 r
section
variable (R:sN)(a0:ag)(a1:Int)
def m8(v0_5:Int)(v0_11:Nat):Option ((Int×Nat)⊕((Int×Nat×Bool×ag)⊕(Int×Nat×Bool))):=
 if (v0_11:Int)<(a0.Args.length:Int) then
  (a0.Args[v0_11]?).bind fun (y2:ag)=>
  if a1<v0_5 then
   some (.inr (.inl (v0_5,v0_11,decide (a1<v0_5),y2)))
  else
   if IntKind.i64.wrap (a1 - v0_5)=a1 - v0_5 then
    (R.f_scope_size y2 (a1 - v0_5)).bind fun (r6:Int)=>
    if IntKind.i64.wrap (v0_5+r6)=v0_5+r6 then
     if IntKind.i64.wrap ((v0_11:Int)+1)=((v0_11+1:Nat):Int) then
      some (.inl (v0_5+r6,v0_11+1))
     else none
    else none
   else none
 else
  some (.inr (.inr (v0_5,v0_11,decide ((v0_11:Int)<(a0.Args.length:Int)))))
abbrev Dx(v:(Int×Nat)):St:=⟨[(1,(I a1)),(5,(I v.1)),(9,(.l 63 (a0.Args.map aD))),(10,(I (a0.Args.length:Int))),(11,(I (v.2:Int)))],[],H0⟩
abbrev Dy(x:((Int×Nat×Bool×ag)⊕(Int×Nat×Bool))):aJ×St:=match x with | .inl (z1,z2,z3,z4)=>((.ex 0),⟨[(1,(I a1)),(5,(I z1)),(7,(.p ⟨0,7⟩ 0)),(9,(.l 63 (a0.Args.map aD))),(10,(I (a0.Args.length:Int))),(11,(I (z2:Int))),(17,(.b z3))],[(7,(bn z4))],H0⟩) | .inr (z1,z2,z3)=>((.ex 0),⟨[(1,(I a1)),(5,(I z1)),(9,(.l 63 (a0.Args.map aD))),(10,(I (a0.Args.length:Int))),(11,(I (z2:Int))),(12,(.b z3))],[],H0⟩)
theorem B7(hR:rA R)(a0:ag)(a1:Int)(v0_5:Int)(v0_11:Nat)(o:(Int×Nat)⊕((Int×Nat×Bool×ag)⊕(Int×Nat×Bool)))(h:m8 R a0 a1 v0_5 v0_11=some o):bu E0 Ma (Dx a0 a1) (Dy a0 a1) (v0_5,v0_11) o:=
 bD (.or (bt<|ao (.n v0_11)<|.ex fun (y2:ag)=>ao (.v (.a (bn y2)))<|b5<|oN (bt<|ao (.i (a1 - v0_5))<|xI fun r6=>ao (.i (v0_5+r6))<|ao (.i ((v0_11+1:Nat):Int))<|.nil)) (bf<|.nil)) fun L=>bB h (fun h1 h=>ai (decide_eq_true h1)<|ai (rI v0_11)<|ba h fun y2 h3 h=>ai (cF aD h3 (dm _))<|ai tt<|ai ff<|ai (rfl:Z0)<|ai tt<|ai (rfl:Z0)<|bB h (fun h4 h=>ai (decide_eq_true h4)<|L h) (fun h4 h=>jr (decide_eq_false h4)<|aA h fun w5 h=>ai w5<|aB h (hR.f_scope_size y2 (a1 - v0_5)) fun r6 h=>aA h fun w8 h=>ai w8<|aA h fun w9 h=>ai w9<|L h)) (fun h1 h=>ai (decide_eq_false h1)<|L h)
def oK:Option Int:=
 (lp (fun v=>m8 R a0 a1 v.1 v.2) (1,0)).bind fun (x1:((Int×Nat×Bool×ag)⊕(Int×Nat×Bool)))=>match x1 with
 | .inl ya_2=>
  some ya_2.1
 | .inr yb_2=>
  some yb_2.1
theorem AN(hR:rA R)(a0:ag)(a1:Int)(r:Int)(h:oK R a0 a1=some r):sM a0 a1 r:=
 aO G73 (bt<|ao (.i (a0.Args.length:Int))<|.or (.ex fun (ya_2:(Int×Nat×Bool×ag))=>ao (.lp (.ex 0) ⟨[(1,(I a1)),(5,(I ya_2.1)),(7,(.p ⟨0,7⟩ 0)),(9,(.l 63 (a0.Args.map aD))),(10,(I (a0.Args.length:Int))),(11,(I (ya_2.2.1:Int))),(17,(.b ya_2.2.2.1))],[(7,(bn ya_2.2.2.2))],H0⟩)<|.nil) (.ex fun (yb_2:(Int×Nat×Bool))=>ao (.lp (.ex 0) ⟨[(1,(I a1)),(5,(I yb_2.1)),(9,(.l 63 (a0.Args.map aD))),(10,(I (a0.Args.length:Int))),(11,(I (yb_2.2.1:Int))),(12,(.b yb_2.2.2))],[],H0⟩)<|.nil)) fun L=>pC<|ai (ax aD a0.Args)<|bO h (cV (fun v=>B7 R hR a0 a1 v.1 v.2) (1,0)) (fun ya_2 h=>L h) (fun yb_2 h=>L h)
def kD:Nat→sN
 | 0=>⟨fun z0 z1=>none⟩
 | n+1=>⟨oK (kD n)⟩
theorem wC:∀ n,rA (kD n)
 | 0=>⟨fun _ _ r h=>(by cases h)⟩
 | n+1=>⟨fun a0 a1 r h=>AN _ (wC n) a0 a1 r h⟩
def sO:Option Int:=ev fun n=>(kD n).f_scope_size a0 a1
theorem B8(r:Int)(h:sO a0 a1=some r):sM a0 a1 r:=by
 obtain ⟨n,hn⟩:=iO h
 exact (wC n).f_scope_size a0 a1 r hn
def tS:List cK:=(gA 23 45)::[]
def eP(a0:ag)(a1:Int)(w1_1:Nat)(u2_1:Bool):Option Bool:=
 some u2_1
abbrev B9(w1_1:Nat)(u2_1:Bool)(x:Bool):St:=⟨[(1,(I a1)),(2,(.p ⟨0,2⟩ 0)),(23,(.b x))],[(2,(bn a0))],H0⟩
theorem fV(w1_1:Nat)(u2_1:Bool)(w:List AV)(x:Bool)(h:eP a0 a1 w1_1 u2_1=some x):ew G Ω0 E0 [1,2,23] [2] tS ⟨[(45,(.b u2_1)),(44,(W w 0)),(43,(W w 1)),(42,(W w 2)),(41,(W w 3)),(40,(W w 4)),(39,(W w 5)),(38,(W w 6)),(37,(W w 7)),(36,(W w 8)),(35,(W w 9)),(34,(W w 10)),(33,(W w 11)),(32,(W w 12)),(31,(W w 13)),(30,(W w 14)),(29,(W w 15)),(28,(W w 16)),(27,(.b (a0.Kind==1))),(26,(.b (a0.Kind==1))),(25,(I a0.Kind)),(24,(.p ⟨0,2⟩ 0)),(1,(I a1)),(2,(.p ⟨0,2⟩ 0)),(5,(I (w1_1:Int))),(17,(.b ((a0.Args.length:Int) !=(w1_1:Int))))],[(2,(bn a0))],H0⟩=some (B9 a0 a1 w1_1 u2_1 x):=
 dj (.nil) fun L=>L h
def Ca:List cK:=(gF 24 0 2)::(gQ 25 24)::(gB 26 .eql 25 (kI 1))::(gM 27 26)::⟨some 28,.fa 1 2,some ⟨27,true⟩,false⟩::⟨some 29,.ld none 28,some ⟨27,true⟩,false⟩::⟨some 30,.bo .lss false 29 (kI (-9999999)),some ⟨27,true⟩,false⟩::⟨some 31,.mv 30,some ⟨27,true⟩,false⟩::⟨some 32,.fa 1 2,some ⟨31,false⟩,false⟩::⟨some 33,.ld none 32,some ⟨31,false⟩,false⟩::⟨some 34,.bo .gtr false 33 (kI 9999999),some ⟨31,false⟩,false⟩::⟨some 35,.pk 31 (.c (.b true)) 34,some ⟨27,true⟩,false⟩::(gp 36 (.pk 27 35 (.c (.b false))))::(gM 37 36)::⟨some 38,.mv 5,some ⟨37,false⟩,false⟩::⟨some 39,.bo .gtr false 38 (kI 0),some ⟨37,false⟩,false⟩::⟨some 40,.mv 39,some ⟨37,false⟩,false⟩::⟨some 41,.fa 1 2,some ⟨40,true⟩,false⟩::⟨some 42,.ld none 41,some ⟨40,true⟩,false⟩::⟨some 43,.bo .neq false 42 (kI 0),some ⟨40,true⟩,false⟩::⟨some 44,.pk 40 43 (.c (.b false)),some ⟨37,false⟩,false⟩::(gp 45 (.pk 37 (.c (.b true)) 44))::tS
def lU(w1_1:Nat):Option Bool:=
 if (a0.Kind==1)=true then
  if a0.N < -9999999 then
   (eP a0 a1 w1_1 true).bind fun (x7:Bool)=>
   some x7
  else
   if 9999999<a0.N then
    (eP a0 a1 w1_1 true).bind fun (x8:Bool)=>
    some x8
   else
    if 0<(w1_1:Int) then
     (eP a0 a1 w1_1 (a0.N !=0)).bind fun (x9:Bool)=>
     some x9
    else
     (eP a0 a1 w1_1 false).bind fun (x9:Bool)=>
     some x9
 else
  if 0<(w1_1:Int) then
   (eP a0 a1 w1_1 (a0.N !=0)).bind fun (x7:Bool)=>
   some x7
  else
   (eP a0 a1 w1_1 false).bind fun (x7:Bool)=>
   some x7
abbrev Cb(w1_1:Nat)(x:Bool):St:=⟨[(1,(I a1)),(2,(.p ⟨0,2⟩ 0)),(23,(.b x))],[(2,(bn a0))],H0⟩
theorem AO(w1_1:Nat)(x:Bool)(h:lU a0 a1 w1_1=some x):ew G Ω0 E0 [1,2,23] [2] Ca ⟨[(1,(I a1)),(2,(.p ⟨0,2⟩ 0)),(5,(I (w1_1:Int))),(17,(.b ((a0.Args.length:Int) !=(w1_1:Int))))],[(2,(bn a0))],H0⟩=some (Cb a0 a1 w1_1 x):=
 dj (bt<|.or (js<|.or (bf<|bf<|bf<|bt<|bt<|bt<|bf<|bf<|bf<|bf<|bt<|.jb (some 23) 0<|.ex fun (x7:Bool)=>ao (.jn ⟨[(1,(I a1)),(2,(.p ⟨0,2⟩ 0)),(23,(.b x7))],[(2,(bn a0))],H0⟩)<|.nil) (bt<|bt<|bt<|bt<|bt<|bf<|bt<|.or (wA<|.jb (some 23) 0<|.ex fun (x8:Bool)=>ao (.jn ⟨[(1,(I a1)),(2,(.p ⟨0,2⟩ 0)),(23,(.b x8))],[(2,(bn a0))],H0⟩)<|.nil) (cR<|.or (B3<|.jb (some 23) 0<|.ex fun (x9:Bool)=>ao (.jn ⟨[(1,(I a1)),(2,(.p ⟨0,2⟩ 0)),(23,(.b x9))],[(2,(bn a0))],H0⟩)<|.nil) (Aq<|.jb (some 23) 0<|.ex fun (x9:Bool)=>ao (.jn ⟨[(1,(I a1)),(2,(.p ⟨0,2⟩ 0)),(23,(.b x9))],[(2,(bn a0))],H0⟩)<|.nil)))) (bf<|bf<|bf<|bf<|bf<|bf<|bt<|bt<|bt<|.or (B3<|.jb (some 23) 0<|.ex fun (x7:Bool)=>ao (.jn ⟨[(1,(I a1)),(2,(.p ⟨0,2⟩ 0)),(23,(.b x7))],[(2,(bn a0))],H0⟩)<|.nil) (Aq<|.jb (some 23) 0<|.ex fun (x7:Bool)=>ao (.jn ⟨[(1,(I a1)),(2,(.p ⟨0,2⟩ 0)),(23,(.b x7))],[(2,(bn a0))],H0⟩)<|.nil))) fun L=>ai (rfl:Z0)<|aM h (fun h5 h=>Jx h5<|bB h (fun h6 h=>Ao (decide_eq_true h6)<|ai (g1 h5)<|ai (decide_eq_true h6)<|ai h5<|ai ht<|ai ht<|ai ht<|ai ht<|ai tt<|aB h (fV a0 a1 w1_1 true [.sk,.sk,.sk,.sk,.sk,.sk,.sk,(.b true),(.b true),(.b true),.sk,.sk,.sk,(.b (decide (a0.N < -9999999))),(.b (decide (a0.N < -9999999))),(I a0.N),(.p ⟨0,2⟩ 1)]) fun x7 h=>L h) (fun h6 h=>B0 (decide_eq_false h6)<|ai (g1 h5)<|ai (decide_eq_false h6)<|ai h5<|bB h (fun h7 h=>wz (decide_eq_true h7)<|aB h (fV a0 a1 w1_1 true [.sk,.sk,.sk,.sk,.sk,.sk,.sk,(.b (decide (9999999<a0.N))),(.b (decide (9999999<a0.N))),(.b (decide (9999999<a0.N))),(.b (decide (9999999<a0.N))),(I a0.N),(.p ⟨0,2⟩ 1),(.b (decide (a0.N < -9999999))),(.b (decide (a0.N < -9999999))),(I a0.N),(.p ⟨0,2⟩ 1)]) fun x8 h=>L h) (fun h7 h=>Ao (decide_eq_false h7)<|bB h (fun h8 h=>Ap (decide_eq_true h8)<|ai (g0 (decide_eq_false h7))<|ai (decide_eq_true h8)<|ai (decide_eq_false h7)<|aB h (fV a0 a1 w1_1 (a0.N !=0) [(.b (a0.N !=0)),(.b (a0.N !=0)),(I a0.N),(.p ⟨0,2⟩ 1),(.b (decide (0<(w1_1:Int)))),(.b (decide (0<(w1_1:Int)))),(I (w1_1:Int)),(.b (decide (9999999<a0.N))),(.b (decide (9999999<a0.N))),(.b (decide (9999999<a0.N))),(.b (decide (9999999<a0.N))),(I a0.N),(.p ⟨0,2⟩ 1),(.b (decide (a0.N < -9999999))),(.b (decide (a0.N < -9999999))),(I a0.N),(.p ⟨0,2⟩ 1)]) fun x9 h=>L h) (fun h8 h=>Ey (decide_eq_false h8)<|ai (g0 (decide_eq_false h7))<|ai (decide_eq_false h8)<|ai (decide_eq_false h7)<|aB h (fV a0 a1 w1_1 false [(.b false),.sk,.sk,.sk,(.b (decide (0<(w1_1:Int)))),(.b (decide (0<(w1_1:Int)))),(I (w1_1:Int)),(.b (decide (9999999<a0.N))),(.b (decide (9999999<a0.N))),(.b (decide (9999999<a0.N))),(.b (decide (9999999<a0.N))),(I a0.N),(.p ⟨0,2⟩ 1),(.b (decide (a0.N < -9999999))),(.b (decide (a0.N < -9999999))),(I a0.N),(.p ⟨0,2⟩ 1)]) fun x9 h=>L h)))) (fun h5 h=>ai (g1 h5)<|ai (g1 h5)<|ai (g1 h5)<|ai (g1 h5)<|ai (g1 h5)<|ai h5<|ai hf<|ai hf<|ai hf<|bB h (fun h6 h=>Qj (decide_eq_true h6)<|aB h (fV a0 a1 w1_1 (a0.N !=0) [(.b (a0.N !=0)),(.b (a0.N !=0)),(I a0.N),(.p ⟨0,2⟩ 1),(.b (decide (0<(w1_1:Int)))),(.b (decide (0<(w1_1:Int)))),(I (w1_1:Int)),(.b false),(.b false),.sk,.sk,.sk,.sk,.sk,.sk,.sk,.sk]) fun x7 h=>L h) (fun h6 h=>HW (decide_eq_false h6)<|aB h (fV a0 a1 w1_1 false [(.b false),.sk,.sk,.sk,(.b (decide (0<(w1_1:Int)))),(.b (decide (0<(w1_1:Int)))),(I (w1_1:Int)),(.b false),(.b false),.sk,.sk,.sk,.sk,.sk,.sk,.sk,.sk]) fun x7 h=>L h))
def jJ(w1_1:Nat):Option (Unit⊕(Unit⊕(Unit⊕Unit))):=
 if ((a0.Args.length:Int) !=(w1_1:Int))=true then
  some (.inl ())
 else
  (lU a0 a1 w1_1).bind fun (x5:Bool)=>
  if x5=true then
   some (.inr (.inl ()))
  else
   if (a0.Kind==2)=true then
    if a0.N<0 then
     some (.inr (.inr (.inl ())))
    else
     if a1≤a0.N then
      some (.inr (.inr (.inl ())))
     else
      some (.inr (.inr (.inr ())))
   else
    some (.inr (.inr (.inr ())))
abbrev Cc(a0:ag)(a1:Int)(w1_1:Nat)(x:(Unit⊕(Unit⊕(Unit⊕Unit)))):aJ×St:=match x with | .inl ()=>(.ret,⟨[(4,(I 1))],[],H0⟩) | .inr (.inl ())=>(.ret,⟨[(4,(I 3))],[],H0⟩) | .inr (.inr (.inl ()))=>(.ret,⟨[(4,(I 5))],[],H0⟩) | .inr (.inr (.inr ()))=>(.ret,⟨[(4,(I 0))],[],H0⟩)
theorem sP(w1_1:Nat)(x:(Unit⊕(Unit⊕(Unit⊕Unit))))(h:jJ a0 a1 w1_1=some x):run G Ω0 E0 Mm ⟨[(1,(I a1)),(2,(.p ⟨0,2⟩ 0)),(5,(I (w1_1:Int)))],[(2,(bn a0))],H0⟩=some (Cc a0 a1 w1_1 x):=
 ga (bt<|ao (.i (a0.Args.length:Int))<|oN (.jb (some 24) 22<|.ex fun (x5:Bool)=>ao (.jn ⟨[(1,(I a1)),(2,(.p ⟨0,2⟩ 0)),(23,(.b x5))],[(2,(bn a0))],H0⟩)<|oN (bt<|.or (js<|.or (bf<|bf<|bf<|bf<|bt<|bt<|bt<|bt<|.nil) (bt<|bt<|bt<|bt<|bt<|bt<|bf<|bt<|oN (.nil))) (bf<|bf<|bf<|bf<|bf<|bf<|bf<|.nil)))) fun L=>ai (rfl:Z0)<|ai (ax aD a0.Args)<|aM h (fun h4 h=>ai h4<|L h) (fun h4 h=>ai h4<|aB h (AO a0 a1 w1_1) fun x5 h=>aM h (fun h7 h=>ai h7<|L h) (fun h7 h=>jr h7<|aM h (fun h8 h=>Jx h8<|bB h (fun h9 h=>ai (g0 (decide_eq_true h9))<|ai (g0 (decide_eq_true h9))<|ai (g0 (decide_eq_true h9))<|ai (g0 (decide_eq_true h9))<|ai (g1 h8)<|ai (decide_eq_true h9)<|ai h8<|ai tt<|L h) (fun h9 h=>IH (decide_eq_false h9)<|ai (g1 h8)<|ai (decide_eq_false h9)<|ai h8<|bB h (fun h10 h=>ai (decide_eq_true h10)<|L h) (fun h10 h=>ai (decide_eq_false h10)<|L h))) (fun h8 h=>ai (g1 h8)<|ai (g1 h8)<|ai (g1 h8)<|ai (g1 h8)<|ai (g1 h8)<|ai h8<|ai ff<|L h)))
abbrev FN(a0:ag)(a1:Int)(r:Int):bh×HP:=(.ret (I r),H0)
def pE:Option Int:=
 if a0.Kind<1 then
  some 7
 else
  if 7<a0.Kind then
   some 7
  else
   if 2<a0.Kind then
    (jJ a0 a1 2).bind fun (x4:(Unit⊕(Unit⊕(Unit⊕Unit))))=>match x4 with
    | .inl ya_5=>
     some 1
    | .inr (.inl yb_5)=>
     some 3
    | .inr (.inr (.inl yc_5))=>
     some 5
    | .inr (.inr (.inr yd_5))=>
     some 0
   else
    (jJ a0 a1 0).bind fun (x4:(Unit⊕(Unit⊕(Unit⊕Unit))))=>match x4 with
    | .inl ya_5=>
     some 1
    | .inr (.inl yb_5)=>
     some 3
    | .inr (.inr (.inl yc_5))=>
     some 5
    | .inr (.inr (.inr yd_5))=>
     some 0
theorem Cd(r:Int)(h:pE a0 a1=some r):call G Ω0 E0 93 [(.a (bn a0)),(I a1)] H0=some (FN a0 a1 r):=
 aO G93 (bt<|.or (Ky<|.nil) (IL<|oN (bt<|.or (bt<|.fb<|.or (.ex fun (ya_5:Unit)=>ao (.fr .ret ⟨[(4,(I 1))],[],H0⟩)<|.nil) (.or (.ex fun (yb_5:Unit)=>ao (.fr .ret ⟨[(4,(I 3))],[],H0⟩)<|.nil) (.or (.ex fun (yc_5:Unit)=>ao (.fr .ret ⟨[(4,(I 5))],[],H0⟩)<|.nil) (.ex fun (yd_5:Unit)=>ao (.fr .ret ⟨[(4,(I 0))],[],H0⟩)<|.nil)))) (bf<|.fb<|.or (.ex fun (ya_5:Unit)=>ao (.fr .ret ⟨[(4,(I 1))],[],H0⟩)<|.nil) (.or (.ex fun (yb_5:Unit)=>ao (.fr .ret ⟨[(4,(I 3))],[],H0⟩)<|.nil) (.or (.ex fun (yc_5:Unit)=>ao (.fr .ret ⟨[(4,(I 5))],[],H0⟩)<|.nil) (.ex fun (yd_5:Unit)=>ao (.fr .ret ⟨[(4,(I 0))],[],H0⟩)<|.nil))))))) fun L=>pC<|bB h (fun h1 h=>ai (g0 (decide_eq_true h1))<|ai (g0 (decide_eq_true h1))<|ai (g0 (decide_eq_true h1))<|ai (decide_eq_true h1)<|ai tt<|L h) (fun h1 h=>ai (g0 (decide_eq_false h1))<|ai (g0 (decide_eq_false h1))<|ai (rfl:Z0)<|ai (g0 (decide_eq_false h1))<|ai (decide_eq_false h1)<|bB h (fun h2 h=>ai (decide_eq_true h2)<|L h) (fun h2 h=>jr (decide_eq_false h2)<|bB h (fun h3 h=>ai (decide_eq_true h3)<|BZ h (sP a0 a1 2) (fun ya_5 h=>L h) (fun yb_5 h=>L h) (fun yc_5 h=>L h) (fun yd_5 h=>L h)) (fun h3 h=>ai (decide_eq_false h3)<|BZ h (sP a0 a1 0) (fun ya_5 h=>L h) (fun yb_5 h=>L h) (fun yc_5 h=>L h) (fun yd_5 h=>L h))))
abbrev ES(a0:ag)(a1:Int)(r:Int):bh×HP:=(.ret (I r),H0)
abbrev rB(r:Int):Prop:=call G Ω0 E0 74 [(.a (bn a0)),(I a1)] H0=some (ES a0 a1 r)
end
structure rC where
 f_scope_parts:ag→Int→Option Int
structure qm(R:rC):Prop where
 f_scope_parts:∀ (a0:ag)(a1:Int)(r:Int),R.f_scope_parts a0 a1=some r→rB a0 a1 r
section
variable (R:rC)(a0:ag)(a1:Int)
def lV(v0_18:Nat):Option (Nat⊕(Int⊕(Nat×Bool))):=
 if (v0_18:Int)<(a0.Args.length:Int) then
  (a0.Args[v0_18]?).bind fun (y5:ag)=>
  (R.f_scope_parts y5 a1).bind fun (r7:Int)=>
  if (r7 !=0)=true then
   some (.inr (.inl r7))
  else
   if IntKind.i64.wrap ((v0_18:Int)+1)=((v0_18+1:Nat):Int) then
    some (.inl (v0_18+1))
   else none
 else
  some (.inr (.inr (v0_18,decide ((v0_18:Int)<(a0.Args.length:Int)))))
abbrev Ce(v:Nat):St:=⟨[(1,(I a1)),(16,(.l 63 (a0.Args.map aD))),(17,(I (a0.Args.length:Int))),(18,(I (v:Int)))],[],H0⟩
abbrev Cf(x:(Int⊕(Nat×Bool))):aJ×St:=match x with | .inl z1=>(.ret,⟨[(4,(I z1))],[],H0⟩) | .inr (z1,z2)=>((.ex 0),⟨[(1,(I a1)),(16,(.l 63 (a0.Args.map aD))),(17,(I (a0.Args.length:Int))),(18,(I (z1:Int))),(19,(.b z2))],[],H0⟩)
theorem AP(hR:qm R)(a0:ag)(a1:Int)(v0_18:Nat)(o:Nat⊕(Int⊕(Nat×Bool)))(h:lV R a0 a1 v0_18=some o):bu E0 Mb (Ce a0 a1) (Cf a0 a1) v0_18 o:=
 bD (.or (bt<|ao (.n v0_18)<|.ex fun (y5:ag)=>ao (.v (.a (bn y5)))<|cR<|xI fun r7=>oN (ao (.i ((v0_18+1:Nat):Int))<|.nil)) (bf<|.nil)) fun L=>bB h (fun h4 h=>ai (decide_eq_true h4)<|ai (rI v0_18)<|ba h fun y5 h6 h=>ai (cF aD h6 (dm _))<|xH<|aB h (hR.f_scope_parts y5 a1) fun r7 h=>aM h (fun h9 h=>ai h9<|L h) (fun h9 h=>ai h9<|aA h fun w10 h=>ai w10<|L h)) (fun h4 h=>ai (decide_eq_false h4)<|L h)
def m9:Option Int:=
 (pE a0 a1).bind fun (r1:Int)=>
 if (r1 !=0)=true then
  some r1
 else
  (lp (fun v=>lV R a0 a1 v) 0).bind fun (x4:(Int⊕(Nat×Bool)))=>match x4 with
  | .inl ya_5=>
   some ya_5
  | .inr yb_5=>
   some 0
theorem zA(hR:qm R)(a0:ag)(a1:Int)(r:Int)(h:m9 R a0 a1=some r):rB a0 a1 r:=
 aO G74 (bt<|xI fun r1=>oN (bt<|ao (.i (a0.Args.length:Int))<|.or (.ex fun (ya_5:Int)=>ao (.lp .ret ⟨[(4,(I ya_5))],[],H0⟩)<|.nil) (.ex fun (yb_5:(Nat×Bool))=>ao (.lp (.ex 0) ⟨[(1,(I a1)),(16,(.l 63 (a0.Args.map aD))),(17,(I (a0.Args.length:Int))),(18,(I (yb_5.1:Int))),(19,(.b yb_5.2))],[],H0⟩)<|.nil))) fun L=>pC<|aB h (Cd a0 a1) fun r1 h=>aM h (fun h3 h=>ai h3<|L h) (fun h3 h=>jr h3<|ai (ax aD a0.Args)<|bO h (cV (AP R hR a0 a1) 0) (fun ya_5 h=>L h) (fun yb_5 h=>L h))
def jA:Nat→rC
 | 0=>⟨fun z0 z1=>none⟩
 | n+1=>⟨m9 (jA n)⟩
theorem uP:∀ n,qm (jA n)
 | 0=>⟨fun _ _ r h=>(by cases h)⟩
 | n+1=>⟨fun a0 a1 r h=>zA _ (uP n) a0 a1 r h⟩
def rD:Option Int:=ev fun n=>(jA n).f_scope_parts a0 a1
theorem AQ(r:Int)(h:rD a0 a1=some r):rB a0 a1 r:=by
 obtain ⟨n,hn⟩:=iO h
 exact (uP n).f_scope_parts a0 a1 r hn
abbrev FO(a0:ag)(a1:Int)(r:Int):bh×HP:=(.ret (I r),H0)
def iV:Option Int:=
 (sO a0 15).bind fun (r1:Int)=>
 if 15<r1 then
  some 2
 else
  (rD a0 a1).bind fun (r4:Int)=>
  some r4
theorem pF(r:Int)(h:iV a0 a1=some r):call G Ω0 E0 47 [(.a (bn a0)),(I a1)] H0=some (FO a0 a1 r):=
 aO G47 (bt<|xI fun r1=>oN (bt<|xI fun r4=>.nil)) fun L=>pC<|aB h (B8 a0 15) fun r1 h=>bB h (fun h3 h=>ai (decide_eq_true h3)<|L h) (fun h3 h=>jr (decide_eq_false h3)<|aB h (AQ a0 a1) fun r4 h=>L h)
end
section
variable (a0:Bool)
abbrev Hd(a0:Bool)(r:Int):bh×HP:=(.ret (I r),H0)
def qH:Option Int:=
 if a0=true then
  some 1
 else
  some 0
theorem uQ(r:Int)(h:qH a0=some r):call G Ω0 E0 75 [(.b a0)] H0=some (Hd a0 r):=
 aO G75 (oN (.nil)) fun L=>aM h (fun h1 h=>ai h1<|L h) (fun h1 h=>ai h1<|L h)
end
section
variable (a0:ag)(a1:(List Int))
abbrev He(a0:ag)(a1:(List Int))(r:Int):bh×HP:=(.ret (I r),H0)
abbrev ur(r:Int):Prop:=call G Ω0 E0 49 [(.a (bn a0)),(.l 3 (a1.map (I)))] H0=some (He a0 a1 r)
end
structure qI where
 f_run_Value:ag→(List Int)→Option Int
structure sQ(R:qI):Prop where
 f_run_Value:∀ (a0:ag)(a1:(List Int))(r:Int),R.f_run_Value a0 a1=some r→ur a0 a1 r
section
variable (R:qI)(a0:ag)(a1:(List Int))
def e8(R:qI)(w1_1:Int):Option Int:=
 some (IntKind.i64.wrap (IntKind.i32.wrap w1_1))
abbrev Dz(w1_1:Int)(x:Int):aJ×St:=(.ret,⟨[(4,(I x))],[],H0⟩)
theorem gw(hR:sQ R)(w1_1:Int)(x:Int)(h:e8 R w1_1=some x):run G Ω0 E0 LY ⟨[(7,(I w1_1))],[],H0⟩=some (Dz w1_1 x):=
 ga (ao (.i (IntKind.i32.wrap w1_1))<|ao (.i (IntKind.i64.wrap (IntKind.i32.wrap w1_1)))<|.nil) fun L=>ai (rfl:IntKind.i32.wrap w1_1=IntKind.i32.wrap w1_1)<|ai (rfl:IntKind.i64.wrap (IntKind.i32.wrap w1_1)=IntKind.i64.wrap (IntKind.i32.wrap w1_1))<|L h
def pG:Option Int:=
 if (a0.Kind==1)=true then
  some a0.N
 else
  if (a0.Kind==2)=true then
   (dU a0.N).bind fun (j3:Nat)=>
   (a1[j3]?).bind fun (y5:Int)=>
   some y5
  else
   (a0.Args[0]?).bind fun (y3:ag)=>
   (R.f_run_Value y3 a1).bind fun (r5:Int)=>
   (a0.Args[1]?).bind fun (y7:ag)=>
   (R.f_run_Value y7 a1).bind fun (r9:Int)=>
   if (a0.Kind==3)=true then
    if IntKind.i64.wrap (r5+r9)=r5+r9 then
     (e8 R (r5+r9)).bind fun (x13:Int)=>
     some x13
    else none
   else
    if (a0.Kind==4)=true then
     if IntKind.i64.wrap (r5 - r9)=r5 - r9 then
      (e8 R (r5 - r9)).bind fun (x14:Int)=>
      some x14
     else none
    else
     if (a0.Kind==5)=true then
      if IntKind.i64.wrap (r5*r9)=r5*r9 then
       (e8 R (r5*r9)).bind fun (x15:Int)=>
       some x15
      else none
     else
      if (a0.Kind==6)=true then
       (qH (decide (r5<r9))).bind fun (r15:Int)=>
       (e8 R r15).bind fun (x17:Int)=>
       some x17
      else
       if (a0.Kind==7)=true then
        (qH (r5==r9)).bind fun (r16:Int)=>
        (e8 R r16).bind fun (x18:Int)=>
        some x18
       else
        (e8 R 0).bind fun (x16:Int)=>
        some x16
theorem Cg(hR:sQ R)(a0:ag)(a1:(List Int))(r:Int)(h:pG R a0 a1=some r):ur a0 a1 r:=
 aO G49 (bt<|.or (b5<|.nil) (bf<|.or (b5<|xN fun j3=>xI fun y5=>.nil) (rT<|ao (.n 0)<|.ex fun (y3:ag)=>ao (.v (.a (bn y3)))<|xI fun r5=>bt<|ao (.n 1)<|.ex fun (y7:ag)=>ao (.v (.a (bn y7)))<|xI fun r9=>bt<|.or (bt<|ao (.i (r5+r9))<|.fb<|.ex fun (x13:Int)=>ao (.fr .ret ⟨[(4,(I x13))],[],H0⟩)<|.nil) (bf<|.or (bt<|ao (.i (r5 - r9))<|.fb<|.ex fun (x14:Int)=>ao (.fr .ret ⟨[(4,(I x14))],[],H0⟩)<|.nil) (bf<|.or (bt<|ao (.i (r5*r9))<|.fb<|.ex fun (x15:Int)=>ao (.fr .ret ⟨[(4,(I x15))],[],H0⟩)<|.nil) (bf<|.or (bt<|xI fun r15=>.fb<|.ex fun (x17:Int)=>ao (.fr .ret ⟨[(4,(I x17))],[],H0⟩)<|.nil) (bf<|.or (bt<|xI fun r16=>.fb<|.ex fun (x18:Int)=>ao (.fr .ret ⟨[(4,(I x18))],[],H0⟩)<|.nil) (bf<|.fb<|.ex fun (x16:Int)=>ao (.fr .ret ⟨[(4,(I x16))],[],H0⟩)<|.nil)))))))) fun L=>pC<|aM h (fun h1 h=>jr h1<|L h) (fun h1 h=>ai h1<|aM h (fun h2 h=>jr h2<|fG h fun j3 h4 h=>ai h4<|ba h fun y5 h6 h=>ai (ay (I) h6)<|L h) (fun h2 h=>ai h2<|ai tt<|ai tt<|ai (rfl:Z0)<|ai tt<|ai (rI 0)<|ba h fun y3 h4 h=>ai (cF aD h4 (dm _))<|gG<|aB h (hR.f_run_Value y3 a1) fun r5 h=>ai tt<|ai tt<|ai (rfl:Z0)<|ai tt<|ai (rI 1)<|ba h fun y7 h8 h=>ai (cF aD h8 (dm _))<|gG<|aB h (hR.f_run_Value y7 a1) fun r9 h=>ai (rfl:Z0)<|aM h (fun h11 h=>ai h11<|aA h fun w12 h=>ai w12<|aB h (gw R hR (r5+r9)) fun x13 h=>L h) (fun h11 h=>ai h11<|aM h (fun h12 h=>ai h12<|aA h fun w13 h=>ai w13<|aB h (gw R hR (r5 - r9)) fun x14 h=>L h) (fun h12 h=>ai h12<|aM h (fun h13 h=>ai h13<|aA h fun w14 h=>ai w14<|aB h (gw R hR (r5*r9)) fun x15 h=>L h) (fun h13 h=>ai h13<|aM h (fun h14 h=>ai h14<|aB h (uQ (decide (r5<r9))) fun r15 h=>aB h (gw R hR r15) fun x17 h=>L h) (fun h14 h=>ai h14<|aM h (fun h15 h=>ai h15<|aB h (uQ (r5==r9)) fun r16 h=>aB h (gw R hR r16) fun x18 h=>L h) (fun h15 h=>ai h15<|aB h (gw R hR 0) fun x16 h=>L h)))))))
def ox:Nat→qI
 | 0=>⟨fun z0 z1=>none⟩
 | n+1=>⟨pG (ox n)⟩
theorem xO:∀ n,sQ (ox n)
 | 0=>⟨fun _ _ r h=>(by cases h)⟩
 | n+1=>⟨fun a0 a1 r h=>Cg _ (xO n) a0 a1 r h⟩
def km:Option Int:=ev fun n=>(ox n).f_run_Value a0 a1
theorem na(r:Int)(h:km a0 a1=some r):ur a0 a1 r:=by
 obtain ⟨n,hn⟩:=iO h
 exact (xO n).f_run_Value a0 a1 r hn
end
section
variable (a0:Int)
abbrev FP(a0:Int)(r:Bool):bh×HP:=(.ret (.b r),H0)
def pH:Option Bool:=
 if -2147483648≤a0 then
  some (decide (a0≤2147483647))
 else
  some false
theorem Ch(r:Bool)(h:pH a0=some r):call G Ω0 E0 30 [(I a0)] H0=some (FP a0 r):=
 aO G30 (.or (cR<|.nil) (vA<|.nil)) fun L=>bB h (fun h1 h=>kl (decide_eq_true h1)<|L h) (fun h1 h=>kl (decide_eq_false h1)<|L h)
end
end
end Go.Proofs.YtndeklbmglgonaaGreat.A
