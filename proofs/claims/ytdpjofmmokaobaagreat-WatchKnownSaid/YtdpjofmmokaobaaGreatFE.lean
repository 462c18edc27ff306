/- Functions of the program as plain functions, by program. -/
import Derived.Test.YtdpjofmmokaobaaGreatTypes
import Derived.Test.YtdpjofmmokaobaaGreatLift
import Derived.Test.YtdpjofmmokaobaaGreatFB
set_option maxRecDepth 100000
set_option linter.unusedSectionVars false
set_option linter.unusedVariables false
set_option linter.unusedSimpArgs false
set_option linter.constructorNameAsVariable false
namespace Go.Proofs.YtdpjofmmokaobaaGreat.A
open Go
noncomputable section
variable [Lp]
section
variable (a0:aC)(a1:Int)
abbrev Fo(a0:aC)(a1:Int)(r:Int):aX×HP:=(.ret (I r),H0)
abbrev tG(r:Int):Prop:=call G Ω0 E0 128 [(.a (bA a0)),(I a1)] H0=some (Fo a0 a1 r)
end
structure tH where
 f_scope_size:aC→Int→Option Int
structure ss(R:tH):Prop where
 f_scope_size:∀ (a0:aC)(a1:Int)(r:Int),R.f_scope_size a0 a1=some r→tG a0 a1 r
section
variable (R:tH)(a0:aC)(a1:Int)
def nT(v0_5:Int)(v0_11:Nat):Option ((Int×Nat)⊕((Int×Nat×Bool×aC)⊕(Int×Nat×Bool))):=
 if (v0_11:Int)<(a0.Args.length:Int) then
  (a0.Args[v0_11]?).bind fun (y2:aC)=>
  if a1<v0_5 then
   some (.inr (.inl (v0_5,v0_11,decide (a1<v0_5),y2)))
  else
   if IntKind.i64.wrap (a1 - v0_5)=a1 - v0_5 then
    (R.f_scope_size y2 (a1 - v0_5)).bind fun (r6:Int)=>
    if IntKind.i64.wrap (v0_5+r6)=v0_5+r6 then
     if IntKind.i64.wrap ((v0_11:Int)+1)=((v0_11+1:Nat):Int) then
      some (.inl (v0_5+r6,v0_11+1))
     else none
    else none
   else none
 else
  some (.inr (.inr (v0_5,v0_11,decide ((v0_11:Int)<(a0.Args.length:Int)))))
abbrev CV(v:(Int×Nat)):St:=⟨[(1,(I a1)),(5,(I v.1)),(9,(.l 86 (a0.Args.map aR))),(10,(I (a0.Args.length:Int))),(11,(I (v.2:Int)))],[],H0⟩
abbrev CW(x:((Int×Nat×Bool×aC)⊕(Int×Nat×Bool))):aQ×St:=match x with | .inl (z1,z2,z3,z4)=>((.ex 0),⟨[(1,(I a1)),(5,(I z1)),(7,(.p ⟨0,7⟩ 0)),(9,(.l 86 (a0.Args.map aR))),(10,(I (a0.Args.length:Int))),(11,(I (z2:Int))),(17,(.b z3))],[(7,(bA z4))],H0⟩) | .inr (z1,z2,z3)=>((.ex 0),⟨[(1,(I a1)),(5,(I z1)),(9,(.l 86 (a0.Args.map aR))),(10,(I (a0.Args.length:Int))),(11,(I (z2:Int))),(12,(.b z3))],[],H0⟩)
theorem BF(hR:ss R)(a0:aC)(a1:Int)(v0_5:Int)(v0_11:Nat)(o:(Int×Nat)⊕((Int×Nat×Bool×aC)⊕(Int×Nat×Bool)))(h:nT R a0 a1 v0_5 v0_11=some o):bG E0 Jp (CV a0 a1) (CW a0 a1) (v0_5,v0_11) o:=
 bP (.or (bt<|ao (.n v0_11)<|.ex fun (y2:aC)=>ao (.v (.a (bA y2)))<|dE<|oN (bt<|ao (.i (a1 - v0_5))<|xI fun r6=>ao (.i (v0_5+r6))<|ao (.i ((v0_11+1:Nat):Int))<|.nil)) (bf<|.nil)) fun L=>bZ h (fun h1 h=>ai (decide_eq_true h1)<|ai (rI v0_11)<|aZ h fun y2 h3 h=>ai (jr aR h3 (eN _))<|ai tt<|ai ff<|ai (rfl:Z0)<|ai tt<|ai (rfl:Z0)<|bZ h (fun h4 h=>ai (decide_eq_true h4)<|L h) (fun h4 h=>sK (decide_eq_false h4)<|aW h fun w5 h=>ai w5<|aP h (hR.f_scope_size y2 (a1 - v0_5)) fun r6 h=>aW h fun w8 h=>ai w8<|aW h fun w9 h=>ai w9<|L h)) (fun h1 h=>ai (decide_eq_false h1)<|L h)
def pB:Option Int:=
 (lp (fun v=>nT R a0 a1 v.1 v.2) (1,0)).bind fun (x1:((Int×Nat×Bool×aC)⊕(Int×Nat×Bool)))=>match x1 with
 | .inl ya_2=>
  some ya_2.1
 | .inr yb_2=>
  some yb_2.1
theorem AD(hR:ss R)(a0:aC)(a1:Int)(r:Int)(h:pB R a0 a1=some r):tG a0 a1 r:=
 aF ZA (bt<|ao (.i (a0.Args.length:Int))<|.or (.ex fun (ya_2:(Int×Nat×Bool×aC))=>ao (.lp (.ex 0) ⟨[(1,(I a1)),(5,(I ya_2.1)),(7,(.p ⟨0,7⟩ 0)),(9,(.l 86 (a0.Args.map aR))),(10,(I (a0.Args.length:Int))),(11,(I (ya_2.2.1:Int))),(17,(.b ya_2.2.2.1))],[(7,(bA ya_2.2.2.2))],H0⟩)<|.nil) (.ex fun (yb_2:(Int×Nat×Bool))=>ao (.lp (.ex 0) ⟨[(1,(I a1)),(5,(I yb_2.1)),(9,(.l 86 (a0.Args.map aR))),(10,(I (a0.Args.length:Int))),(11,(I (yb_2.2.1:Int))),(12,(.b yb_2.2.2))],[],H0⟩)<|.nil)) fun L=>tD<|ai (aL aR a0.Args)<|cZ h (ek (fun v=>BF R hR a0 a1 v.1 v.2) (1,0)) (fun ya_2 h=>L h) (fun yb_2 h=>L h)
def kU:Nat→tH
 | 0=>⟨fun z0 z1=>none⟩
 | n+1=>⟨pB (kU n)⟩
theorem yb:∀ n,ss (kU n)
 | 0=>⟨fun _ _ r h=>(by cases h)⟩
 | n+1=>⟨fun a0 a1 r h=>AD _ (yb n) a0 a1 r h⟩
def tI:Option Int:=ev fun n=>(kU n).f_scope_size a0 a1
theorem BG(r:Int)(h:tI a0 a1=some r):tG a0 a1 r:=by
 obtain ⟨n,hn⟩:=q8 h
 exact (yb n).f_scope_size a0 a1 r hn
def vc:List dQ:=(gA 23 45)::[]
def eO(a0:aC)(a1:Int)(w1_1:Nat)(u2_1:Bool):Option Bool:=
 some u2_1
abbrev BH(w1_1:Nat)(u2_1:Bool)(x:Bool):St:=⟨[(1,(I a1)),(2,(.p ⟨0,2⟩ 0)),(23,(.b x))],[(2,(bA a0))],H0⟩
theorem gb(w1_1:Nat)(u2_1:Bool)(w:List AV)(x:Bool)(h:eO a0 a1 w1_1 u2_1=some x):mg G Ω0 E0 [1,2,23] [2] vc ⟨[(45,(.b u2_1)),(44,(W w 0)),(43,(W w 1)),(42,(W w 2)),(41,(W w 3)),(40,(W w 4)),(39,(W w 5)),(38,(W w 6)),(37,(W w 7)),(36,(W w 8)),(35,(W w 9)),(34,(W w 10)),(33,(W w 11)),(32,(W w 12)),(31,(W w 13)),(30,(W w 14)),(29,(W w 15)),(28,(W w 16)),(27,(.b (a0.Kind==1))),(26,(.b (a0.Kind==1))),(25,(I a0.Kind)),(24,(.p ⟨0,2⟩ 0)),(1,(I a1)),(2,(.p ⟨0,2⟩ 0)),(5,(I (w1_1:Int))),(17,(.b ((a0.Args.length:Int) !=(w1_1:Int))))],[(2,(bA a0))],H0⟩=some (BH a0 a1 w1_1 u2_1 x):=
 lT (.nil) fun L=>L h
def BI:List dQ:=(gF 24 0 2)::(gQ 25 24)::(gB 26 .eql 25 (kI 1))::(gM 27 26)::⟨some 28,.fa 1 2,some ⟨27,true⟩,false⟩::⟨some 29,.ld none 28,some ⟨27,true⟩,false⟩::⟨some 30,.bo .lss false 29 (kI (-9999999)),some ⟨27,true⟩,false⟩::⟨some 31,.mv 30,some ⟨27,true⟩,false⟩::⟨some 32,.fa 1 2,some ⟨31,false⟩,false⟩::⟨some 33,.ld none 32,some ⟨31,false⟩,false⟩::⟨some 34,.bo .gtr false 33 (kI 9999999),some ⟨31,false⟩,false⟩::⟨some 35,.pk 31 (.c (.b true)) 34,some ⟨27,true⟩,false⟩::(gp 36 (.pk 27 35 (.c (.b false))))::(gM 37 36)::⟨some 38,.mv 5,some ⟨37,false⟩,false⟩::⟨some 39,.bo .gtr false 38 (kI 0),some ⟨37,false⟩,false⟩::⟨some 40,.mv 39,some ⟨37,false⟩,false⟩::⟨some 41,.fa 1 2,some ⟨40,true⟩,false⟩::⟨some 42,.ld none 41,some ⟨40,true⟩,false⟩::⟨some 43,.bo .neq false 42 (kI 0),some ⟨40,true⟩,false⟩::⟨some 44,.pk 40 43 (.c (.b false)),some ⟨37,false⟩,false⟩::(gp 45 (.pk 37 (.c (.b true)) 44))::vc
def mu(w1_1:Nat):Option Bool:=
 if (a0.Kind==1)=true then
  if a0.N < -9999999 then
   (eO a0 a1 w1_1 true).bind fun (x7:Bool)=>
   some x7
  else
   if 9999999<a0.N then
    (eO a0 a1 w1_1 true).bind fun (x8:Bool)=>
    some x8
   else
    if 0<(w1_1:Int) then
     (eO a0 a1 w1_1 (a0.N !=0)).bind fun (x9:Bool)=>
     some x9
    else
     (eO a0 a1 w1_1 false).bind fun (x9:Bool)=>
     some x9
 else
  if 0<(w1_1:Int) then
   (eO a0 a1 w1_1 (a0.N !=0)).bind fun (x7:Bool)=>
   some x7
  else
   (eO a0 a1 w1_1 false).bind fun (x7:Bool)=>
   some x7
abbrev BJ(w1_1:Nat)(x:Bool):St:=⟨[(1,(I a1)),(2,(.p ⟨0,2⟩ 0)),(23,(.b x))],[(2,(bA a0))],H0⟩
theorem AE(w1_1:Nat)(x:Bool)(h:mu a0 a1 w1_1=some x):mg G Ω0 E0 [1,2,23] [2] BI ⟨[(1,(I a1)),(2,(.p ⟨0,2⟩ 0)),(5,(I (w1_1:Int))),(17,(.b ((a0.Args.length:Int) !=(w1_1:Int))))],[(2,(bA a0))],H0⟩=some (BJ a0 a1 w1_1 x):=
 lT (bt<|.or (p9<|.or (bf<|bf<|bf<|bt<|bt<|bt<|bf<|bf<|bf<|bf<|bt<|.jb (some 23) 0<|.ex fun (x7:Bool)=>ao (.jn ⟨[(1,(I a1)),(2,(.p ⟨0,2⟩ 0)),(23,(.b x7))],[(2,(bA a0))],H0⟩)<|.nil) (bt<|bt<|bt<|bt<|bt<|bf<|bt<|.or (DY<|.jb (some 23) 0<|.ex fun (x8:Bool)=>ao (.jn ⟨[(1,(I a1)),(2,(.p ⟨0,2⟩ 0)),(23,(.b x8))],[(2,(bA a0))],H0⟩)<|.nil) (dF<|.or (Fi<|.jb (some 23) 0<|.ex fun (x9:Bool)=>ao (.jn ⟨[(1,(I a1)),(2,(.p ⟨0,2⟩ 0)),(23,(.b x9))],[(2,(bA a0))],H0⟩)<|.nil) (IE<|.jb (some 23) 0<|.ex fun (x9:Bool)=>ao (.jn ⟨[(1,(I a1)),(2,(.p ⟨0,2⟩ 0)),(23,(.b x9))],[(2,(bA a0))],H0⟩)<|.nil)))) (bf<|bf<|bf<|bf<|bf<|bf<|bt<|bt<|bt<|.or (Fi<|.jb (some 23) 0<|.ex fun (x7:Bool)=>ao (.jn ⟨[(1,(I a1)),(2,(.p ⟨0,2⟩ 0)),(23,(.b x7))],[(2,(bA a0))],H0⟩)<|.nil) (IE<|.jb (some 23) 0<|.ex fun (x7:Bool)=>ao (.jn ⟨[(1,(I a1)),(2,(.p ⟨0,2⟩ 0)),(23,(.b x7))],[(2,(bA a0))],H0⟩)<|.nil))) fun L=>ai (rfl:Z0)<|ba h (fun h5 h=>ai (g1 h5)<|ai (g1 h5)<|ai (rfl:Z0)<|ai (g1 h5)<|ai (g1 h5)<|bZ h (fun h6 h=>DW (decide_eq_true h6)<|ai (g1 h5)<|ai (decide_eq_true h6)<|ai h5<|ai ht<|ai ht<|ai ht<|ai ht<|ai tt<|aP h (gb a0 a1 w1_1 true [.sk,.sk,.sk,.sk,.sk,.sk,.sk,(.b true),(.b true),(.b true),.sk,.sk,.sk,(.b (decide (a0.N < -9999999))),(.b (decide (a0.N < -9999999))),(I a0.N),(.p ⟨0,2⟩ 1)]) fun x7 h=>L h) (fun h6 h=>JR (decide_eq_false h6)<|ai (g1 h5)<|ai (decide_eq_false h6)<|ai h5<|bZ h (fun h7 h=>DX (decide_eq_true h7)<|aP h (gb a0 a1 w1_1 true [.sk,.sk,.sk,.sk,.sk,.sk,.sk,(.b (decide (9999999<a0.N))),(.b (decide (9999999<a0.N))),(.b (decide (9999999<a0.N))),(.b (decide (9999999<a0.N))),(I a0.N),(.p ⟨0,2⟩ 1),(.b (decide (a0.N < -9999999))),(.b (decide (a0.N < -9999999))),(I a0.N),(.p ⟨0,2⟩ 1)]) fun x8 h=>L h) (fun h7 h=>DW (decide_eq_false h7)<|bZ h (fun h8 h=>ai (g1 (decide_eq_true h8))<|ai (g1 (decide_eq_true h8))<|ai (rfl:Z0)<|ai (g1 (decide_eq_true h8))<|ai (g0 (decide_eq_false h7))<|ai (decide_eq_true h8)<|ai (decide_eq_false h7)<|aP h (gb a0 a1 w1_1 (a0.N !=0) [(.b (a0.N !=0)),(.b (a0.N !=0)),(I a0.N),(.p ⟨0,2⟩ 1),(.b (decide (0<(w1_1:Int)))),(.b (decide (0<(w1_1:Int)))),(I (w1_1:Int)),(.b (decide (9999999<a0.N))),(.b (decide (9999999<a0.N))),(.b (decide (9999999<a0.N))),(.b (decide (9999999<a0.N))),(I a0.N),(.p ⟨0,2⟩ 1),(.b (decide (a0.N < -9999999))),(.b (decide (a0.N < -9999999))),(I a0.N),(.p ⟨0,2⟩ 1)]) fun x9 h=>L h) (fun h8 h=>Ht (decide_eq_false h8)<|ai (g0 (decide_eq_false h7))<|ai (decide_eq_false h8)<|ai (decide_eq_false h7)<|aP h (gb a0 a1 w1_1 false [(.b false),.sk,.sk,.sk,(.b (decide (0<(w1_1:Int)))),(.b (decide (0<(w1_1:Int)))),(I (w1_1:Int)),(.b (decide (9999999<a0.N))),(.b (decide (9999999<a0.N))),(.b (decide (9999999<a0.N))),(.b (decide (9999999<a0.N))),(I a0.N),(.p ⟨0,2⟩ 1),(.b (decide (a0.N < -9999999))),(.b (decide (a0.N < -9999999))),(I a0.N),(.p ⟨0,2⟩ 1)]) fun x9 h=>L h)))) (fun h5 h=>ai (g1 h5)<|ai (g1 h5)<|ai (g1 h5)<|ai (g1 h5)<|ai (g1 h5)<|ai h5<|ai hf<|ai hf<|ai hf<|bZ h (fun h6 h=>ai (g1 (decide_eq_true h6))<|ai (g1 (decide_eq_true h6))<|ai (rfl:Z0)<|ai (g1 (decide_eq_true h6))<|ai hf<|ai (decide_eq_true h6)<|ai ff<|aP h (gb a0 a1 w1_1 (a0.N !=0) [(.b (a0.N !=0)),(.b (a0.N !=0)),(I a0.N),(.p ⟨0,2⟩ 1),(.b (decide (0<(w1_1:Int)))),(.b (decide (0<(w1_1:Int)))),(I (w1_1:Int)),(.b false),(.b false),.sk,.sk,.sk,.sk,.sk,.sk,.sk,.sk]) fun x7 h=>L h) (fun h6 h=>ai (g1 (decide_eq_false h6))<|ai (g1 (decide_eq_false h6))<|ai (g1 (decide_eq_false h6))<|ai hf<|ai (decide_eq_false h6)<|ai ff<|aP h (gb a0 a1 w1_1 false [(.b false),.sk,.sk,.sk,(.b (decide (0<(w1_1:Int)))),(.b (decide (0<(w1_1:Int)))),(I (w1_1:Int)),(.b false),(.b false),.sk,.sk,.sk,.sk,.sk,.sk,.sk,.sk]) fun x7 h=>L h))
def kn(w1_1:Nat):Option (Unit⊕(Unit⊕(Unit⊕Unit))):=
 if ((a0.Args.length:Int) !=(w1_1:Int))=true then
  some (.inl ())
 else
  (mu a0 a1 w1_1).bind fun (x5:Bool)=>
  if x5=true then
   some (.inr (.inl ()))
  else
   if (a0.Kind==2)=true then
    if a0.N<0 then
     some (.inr (.inr (.inl ())))
    else
     if a1≤a0.N then
      some (.inr (.inr (.inl ())))
     else
      some (.inr (.inr (.inr ())))
   else
    some (.inr (.inr (.inr ())))
abbrev BK(a0:aC)(a1:Int)(w1_1:Nat)(x:(Unit⊕(Unit⊕(Unit⊕Unit)))):aQ×St:=match x with | .inl ()=>(.ret,⟨[(4,(I 1))],[],H0⟩) | .inr (.inl ())=>(.ret,⟨[(4,(I 3))],[],H0⟩) | .inr (.inr (.inl ()))=>(.ret,⟨[(4,(I 5))],[],H0⟩) | .inr (.inr (.inr ()))=>(.ret,⟨[(4,(I 0))],[],H0⟩)
theorem tJ(w1_1:Nat)(x:(Unit⊕(Unit⊕(Unit⊕Unit))))(h:kn a0 a1 w1_1=some x):run G Ω0 E0 JD ⟨[(1,(I a1)),(2,(.p ⟨0,2⟩ 0)),(5,(I (w1_1:Int)))],[(2,(bA a0))],H0⟩=some (BK a0 a1 w1_1 x):=
 va (bt<|ao (.i (a0.Args.length:Int))<|oN (.jb (some 24) 22<|.ex fun (x5:Bool)=>ao (.jn ⟨[(1,(I a1)),(2,(.p ⟨0,2⟩ 0)),(23,(.b x5))],[(2,(bA a0))],H0⟩)<|oN (bt<|.or (p9<|.or (bf<|bf<|bf<|bf<|bt<|bt<|bt<|bt<|.nil) (bt<|bt<|bt<|bt<|bt<|bt<|bf<|bt<|oN (.nil))) (LV<|.nil)))) fun L=>ai (rfl:Z0)<|ai (aL aR a0.Args)<|ba h (fun h4 h=>ai h4<|L h) (fun h4 h=>ai h4<|aP h (AE a0 a1 w1_1) fun x5 h=>ba h (fun h7 h=>ai h7<|L h) (fun h7 h=>sK h7<|ba h (fun h8 h=>ai (g1 h8)<|ai (g1 h8)<|ai (rfl:Z0)<|ai (g1 h8)<|ai (g1 h8)<|bZ h (fun h9 h=>ai (g0 (decide_eq_true h9))<|ai (g0 (decide_eq_true h9))<|ai (g0 (decide_eq_true h9))<|ai (g0 (decide_eq_true h9))<|ai (g1 h8)<|ai (decide_eq_true h9)<|ai h8<|ai tt<|L h) (fun h9 h=>ai (g0 (decide_eq_false h9))<|ai (g0 (decide_eq_false h9))<|ai (rfl:Z0)<|ai (g0 (decide_eq_false h9))<|ai (g0 (decide_eq_false h9))<|ai (g1 h8)<|ai (decide_eq_false h9)<|ai h8<|bZ h (fun h10 h=>ai (decide_eq_true h10)<|L h) (fun h10 h=>ai (decide_eq_false h10)<|L h))) (fun h8 h=>ai (g1 h8)<|ai (g1 h8)<|ai (g1 h8)<|ai (g1 h8)<|ai (g1 h8)<|ai h8<|ai ff<|L h)))
abbrev Fp(a0:aC)(a1:Int)(r:Int):aX×HP:=(.ret (I r),H0)
def qy:Option Int:=
 if a0.Kind<1 then
  some 7
 else
  if 7<a0.Kind then
   some 7
  else
   if 2<a0.Kind then
    (kn a0 a1 2).bind fun (x4:(Unit⊕(Unit⊕(Unit⊕Unit))))=>match x4 with
    | .inl ya_5=>
     some 1
    | .inr (.inl yb_5)=>
     some 3
    | .inr (.inr (.inl yc_5))=>
     some 5
    | .inr (.inr (.inr yd_5))=>
     some 0
   else
    (kn a0 a1 0).bind fun (x4:(Unit⊕(Unit⊕(Unit⊕Unit))))=>match x4 with
    | .inl ya_5=>
     some 1
    | .inr (.inl yb_5)=>
     some 3
    | .inr (.inr (.inl yc_5))=>
     some 5
    | .inr (.inr (.inr yd_5))=>
     some 0
theorem BL(r:Int)(h:qy a0 a1=some r):call G Ω0 E0 158 [(.a (bA a0)),(I a1)] H0=some (Fp a0 a1 r):=
 aF ZY (bt<|.or (bf<|bf<|bf<|bt<|bt<|.nil) (Hw<|oN (bt<|.or (bt<|.fb<|.or (.ex fun (ya_5:Unit)=>ao (.fr .ret ⟨[(4,(I 1))],[],H0⟩)<|.nil) (.or (.ex fun (yb_5:Unit)=>ao (.fr .ret ⟨[(4,(I 3))],[],H0⟩)<|.nil) (.or (.ex fun (yc_5:Unit)=>ao (.fr .ret ⟨[(4,(I 5))],[],H0⟩)<|.nil) (.ex fun (yd_5:Unit)=>ao (.fr .ret ⟨[(4,(I 0))],[],H0⟩)<|.nil)))) (bf<|.fb<|.or (.ex fun (ya_5:Unit)=>ao (.fr .ret ⟨[(4,(I 1))],[],H0⟩)<|.nil) (.or (.ex fun (yb_5:Unit)=>ao (.fr .ret ⟨[(4,(I 3))],[],H0⟩)<|.nil) (.or (.ex fun (yc_5:Unit)=>ao (.fr .ret ⟨[(4,(I 5))],[],H0⟩)<|.nil) (.ex fun (yd_5:Unit)=>ao (.fr .ret ⟨[(4,(I 0))],[],H0⟩)<|.nil))))))) fun L=>tD<|bZ h (fun h1 h=>ai (g0 (decide_eq_true h1))<|ai (g0 (decide_eq_true h1))<|ai (g0 (decide_eq_true h1))<|ai (decide_eq_true h1)<|ai tt<|L h) (fun h1 h=>ai (g0 (decide_eq_false h1))<|ai (g0 (decide_eq_false h1))<|ai (rfl:Z0)<|ai (g0 (decide_eq_false h1))<|ai (decide_eq_false h1)<|bZ h (fun h2 h=>ai (decide_eq_true h2)<|L h) (fun h2 h=>sK (decide_eq_false h2)<|bZ h (fun h3 h=>ai (decide_eq_true h3)<|M9 h (tJ a0 a1 2) (fun ya_5 h=>L h) (fun yb_5 h=>L h) (fun yc_5 h=>L h) (fun yd_5 h=>L h)) (fun h3 h=>ai (decide_eq_false h3)<|M9 h (tJ a0 a1 0) (fun ya_5 h=>L h) (fun yb_5 h=>L h) (fun yc_5 h=>L h) (fun yd_5 h=>L h))))
abbrev Ei(a0:aC)(a1:Int)(r:Int):aX×HP:=(.ret (I r),H0)
abbrev su(r:Int):Prop:=call G Ω0 E0 129 [(.a (bA a0)),(I a1)] H0=some (Ei a0 a1 r)
end
structure sw where
 f_scope_parts:aC→Int→Option Int
structure rb(R:sw):Prop where
 f_scope_parts:∀ (a0:aC)(a1:Int)(r:Int),R.f_scope_parts a0 a1=some r→su a0 a1 r
section
variable (R:sw)(a0:aC)(a1:Int)
def mw(v0_18:Nat):Option (Nat⊕(Int⊕(Nat×Bool))):=
 if (v0_18:Int)<(a0.Args.length:Int) then
  (a0.Args[v0_18]?).bind fun (y5:aC)=>
  (R.f_scope_parts y5 a1).bind fun (r7:Int)=>
  if (r7 !=0)=true then
   some (.inr (.inl r7))
  else
   if IntKind.i64.wrap ((v0_18:Int)+1)=((v0_18+1:Nat):Int) then
    some (.inl (v0_18+1))
   else none
 else
  some (.inr (.inr (v0_18,decide ((v0_18:Int)<(a0.Args.length:Int)))))
abbrev BM(v:Nat):St:=⟨[(1,(I a1)),(16,(.l 86 (a0.Args.map aR))),(17,(I (a0.Args.length:Int))),(18,(I (v:Int)))],[],H0⟩
abbrev BN(x:(Int⊕(Nat×Bool))):aQ×St:=match x with | .inl z1=>(.ret,⟨[(4,(I z1))],[],H0⟩) | .inr (z1,z2)=>((.ex 0),⟨[(1,(I a1)),(16,(.l 86 (a0.Args.map aR))),(17,(I (a0.Args.length:Int))),(18,(I (z1:Int))),(19,(.b z2))],[],H0⟩)
theorem AF(hR:rb R)(a0:aC)(a1:Int)(v0_18:Nat)(o:Nat⊕(Int⊕(Nat×Bool)))(h:mw R a0 a1 v0_18=some o):bG E0 Jq (BM a0 a1) (BN a0 a1) v0_18 o:=
 bP (.or (bt<|ao (.n v0_18)<|.ex fun (y5:aC)=>ao (.v (.a (bA y5)))<|dF<|xI fun r7=>oN (ao (.i ((v0_18+1:Nat):Int))<|.nil)) (bf<|.nil)) fun L=>bZ h (fun h4 h=>ai (decide_eq_true h4)<|ai (rI v0_18)<|aZ h fun y5 h6 h=>ai (jr aR h6 (eN _))<|Hu<|aP h (hR.f_scope_parts y5 a1) fun r7 h=>ba h (fun h9 h=>ai h9<|L h) (fun h9 h=>ai h9<|aW h fun w10 h=>ai w10<|L h)) (fun h4 h=>ai (decide_eq_false h4)<|L h)
def nU:Option Int:=
 (qy a0 a1).bind fun (r1:Int)=>
 if (r1 !=0)=true then
  some r1
 else
  (lp (fun v=>mw R a0 a1 v) 0).bind fun (x4:(Int⊕(Nat×Bool)))=>match x4 with
  | .inl ya_5=>
   some ya_5
  | .inr yb_5=>
   some 0
theorem zX(hR:rb R)(a0:aC)(a1:Int)(r:Int)(h:nU R a0 a1=some r):su a0 a1 r:=
 aF ZB (bt<|xI fun r1=>oN (bt<|ao (.i (a0.Args.length:Int))<|.or (.ex fun (ya_5:Int)=>ao (.lp .ret ⟨[(4,(I ya_5))],[],H0⟩)<|.nil) (.ex fun (yb_5:(Nat×Bool))=>ao (.lp (.ex 0) ⟨[(1,(I a1)),(16,(.l 86 (a0.Args.map aR))),(17,(I (a0.Args.length:Int))),(18,(I (yb_5.1:Int))),(19,(.b yb_5.2))],[],H0⟩)<|.nil))) fun L=>tD<|aP h (BL a0 a1) fun r1 h=>ba h (fun h3 h=>ai h3<|L h) (fun h3 h=>sK h3<|ai (aL aR a0.Args)<|cZ h (ek (AF R hR a0 a1) 0) (fun ya_5 h=>L h) (fun yb_5 h=>L h))
def ka:Nat→sw
 | 0=>⟨fun z0 z1=>none⟩
 | n+1=>⟨nU (ka n)⟩
theorem v8:∀ n,rb (ka n)
 | 0=>⟨fun _ _ r h=>(by cases h)⟩
 | n+1=>⟨fun a0 a1 r h=>zX _ (v8 n) a0 a1 r h⟩
def sA:Option Int:=ev fun n=>(ka n).f_scope_parts a0 a1
theorem AG(r:Int)(h:sA a0 a1=some r):su a0 a1 r:=by
 obtain ⟨n,hn⟩:=q8 h
 exact (v8 n).f_scope_parts a0 a1 r hn
abbrev Fq(a0:aC)(a1:Int)(r:Int):aX×HP:=(.ret (I r),H0)
def jt:Option Int:=
 (tI a0 15).bind fun (r1:Int)=>
 if 15<r1 then
  some 2
 else
  (sA a0 a1).bind fun (r4:Int)=>
  some r4
theorem qz(r:Int)(h:jt a0 a1=some r):call G Ω0 E0 90 [(.a (bA a0)),(I a1)] H0=some (Fq a0 a1 r):=
 aF G90 (bt<|xI fun r1=>oN (bt<|xI fun r4=>.nil)) fun L=>tD<|aP h (BG a0 15) fun r1 h=>bZ h (fun h3 h=>ai (decide_eq_true h3)<|L h) (fun h3 h=>sK (decide_eq_false h3)<|aP h (AG a0 a1) fun r4 h=>L h)
end
section
variable (a0:Bool)
abbrev GS(a0:Bool)(r:Int):aX×HP:=(.ret (I r),H0)
def rC:Option Int:=
 if a0=true then
  some 1
 else
  some 0
theorem wa(r:Int)(h:rC a0=some r):call G Ω0 E0 130 [(.b a0)] H0=some (GS a0 r):=
 aF ZC (oN (.nil)) fun L=>ba h (fun h1 h=>ai h1<|L h) (fun h1 h=>ai h1<|L h)
end
section
variable (a0:aC)(a1:(List Int))
abbrev GU(a0:aC)(a1:(List Int))(r:Int):aX×HP:=(.ret (I r),H0)
abbrev vB(r:Int):Prop:=call G Ω0 E0 92 [(.a (bA a0)),(.l 3 (a1.map (I)))] H0=some (GU a0 a1 r)
end
structure rD where
 f_run_Value:aC→(List Int)→Option Int
structure tK(R:rD):Prop where
 f_run_Value:∀ (a0:aC)(a1:(List Int))(r:Int),R.f_run_Value a0 a1=some r→vB a0 a1 r
section
variable (R:rD)(a0:aC)(a1:(List Int))
def fg(R:rD)(w1_1:Int):Option Int:=
 some (IntKind.i64.wrap (IntKind.i32.wrap w1_1))
abbrev CX(w1_1:Int)(x:Int):aQ×St:=(.ret,⟨[(4,(I x))],[],H0⟩)
theorem gT(hR:tK R)(w1_1:Int)(x:Int)(h:fg R w1_1=some x):run G Ω0 E0 MY ⟨[(7,(I w1_1))],[],H0⟩=some (CX w1_1 x):=
 va (ao (.i (IntKind.i32.wrap w1_1))<|ao (.i (IntKind.i64.wrap (IntKind.i32.wrap w1_1)))<|.nil) fun L=>ai (rfl:IntKind.i32.wrap w1_1=IntKind.i32.wrap w1_1)<|ai (rfl:IntKind.i64.wrap (IntKind.i32.wrap w1_1)=IntKind.i64.wrap (IntKind.i32.wrap w1_1))<|L h
def qA:Option Int:=
 if (a0.Kind==1)=true then
  some a0.N
 else
  if (a0.Kind==2)=true then
   (cQ a0.N).bind fun (j3:Nat)=>
   (a1[j3]?).bind fun (y5:Int)=>
   some y5
  else
   (a0.Args[0]?).bind fun (y3:aC)=>
   (R.f_run_Value y3 a1).bind fun (r5:Int)=>
   (a0.Args[1]?).bind fun (y7:aC)=>
   (R.f_run_Value y7 a1).bind fun (r9:Int)=>
   if (a0.Kind==3)=true then
    if IntKind.i64.wrap (r5+r9)=r5+r9 then
     (fg R (r5+r9)).bind fun (x13:Int)=>
     some x13
    else none
   else
    if (a0.Kind==4)=true then
     if IntKind.i64.wrap (r5 - r9)=r5 - r9 then
      (fg R (r5 - r9)).bind fun (x14:Int)=>
      some x14
     else none
    else
     if (a0.Kind==5)=true then
      if IntKind.i64.wrap (r5*r9)=r5*r9 then
       (fg R (r5*r9)).bind fun (x15:Int)=>
       some x15
      else none
     else
      if (a0.Kind==6)=true then
       (rC (decide (r5<r9))).bind fun (r15:Int)=>
       (fg R r15).bind fun (x17:Int)=>
       some x17
      else
       if (a0.Kind==7)=true then
        (rC (r5==r9)).bind fun (r16:Int)=>
        (fg R r16).bind fun (x18:Int)=>
        some x18
       else
        (fg R 0).bind fun (x16:Int)=>
        some x16
theorem BO(hR:tK R)(a0:aC)(a1:(List Int))(r:Int)(h:qA R a0 a1=some r):vB a0 a1 r:=
 aF G92 (bt<|.or (dE<|.nil) (bf<|.or (dE<|xN fun j3=>xI fun y5=>.nil) (Ai<|ao (.n 0)<|.ex fun (y3:aC)=>ao (.v (.a (bA y3)))<|xI fun r5=>bt<|ao (.n 1)<|.ex fun (y7:aC)=>ao (.v (.a (bA y7)))<|xI fun r9=>bt<|.or (bt<|ao (.i (r5+r9))<|.fb<|.ex fun (x13:Int)=>ao (.fr .ret ⟨[(4,(I x13))],[],H0⟩)<|.nil) (bf<|.or (bt<|ao (.i (r5 - r9))<|.fb<|.ex fun (x14:Int)=>ao (.fr .ret ⟨[(4,(I x14))],[],H0⟩)<|.nil) (bf<|.or (bt<|ao (.i (r5*r9))<|.fb<|.ex fun (x15:Int)=>ao (.fr .ret ⟨[(4,(I x15))],[],H0⟩)<|.nil) (bf<|.or (bt<|xI fun r15=>.fb<|.ex fun (x17:Int)=>ao (.fr .ret ⟨[(4,(I x17))],[],H0⟩)<|.nil) (bf<|.or (bt<|xI fun r16=>.fb<|.ex fun (x18:Int)=>ao (.fr .ret ⟨[(4,(I x18))],[],H0⟩)<|.nil) (bf<|.fb<|.ex fun (x16:Int)=>ao (.fr .ret ⟨[(4,(I x16))],[],H0⟩)<|.nil)))))))) fun L=>tD<|ba h (fun h1 h=>sK h1<|L h) (fun h1 h=>ai h1<|ba h (fun h2 h=>sK h2<|eS h fun j3 h4 h=>ai h4<|aZ h fun y5 h6 h=>ai (aD (I) h6)<|L h) (fun h2 h=>ai h2<|ai tt<|ai tt<|ai (rfl:Z0)<|ai tt<|ai (rI 0)<|aZ h fun y3 h4 h=>ai (jr aR h4 (eN _))<|qR<|aP h (hR.f_run_Value y3 a1) fun r5 h=>ai tt<|ai tt<|ai (rfl:Z0)<|ai tt<|ai (rI 1)<|aZ h fun y7 h8 h=>ai (jr aR h8 (eN _))<|qR<|aP h (hR.f_run_Value y7 a1) fun r9 h=>ai (rfl:Z0)<|ba h (fun h11 h=>ai h11<|aW h fun w12 h=>ai w12<|aP h (gT R hR (r5+r9)) fun x13 h=>L h) (fun h11 h=>ai h11<|ba h (fun h12 h=>ai h12<|aW h fun w13 h=>ai w13<|aP h (gT R hR (r5 - r9)) fun x14 h=>L h) (fun h12 h=>ai h12<|ba h (fun h13 h=>ai h13<|aW h fun w14 h=>ai w14<|aP h (gT R hR (r5*r9)) fun x15 h=>L h) (fun h13 h=>ai h13<|ba h (fun h14 h=>ai h14<|aP h (wa (decide (r5<r9))) fun r15 h=>aP h (gT R hR r15) fun x17 h=>L h) (fun h14 h=>ai h14<|ba h (fun h15 h=>ai h15<|aP h (wa (r5==r9)) fun r16 h=>aP h (gT R hR r16) fun x18 h=>L h) (fun h15 h=>ai h15<|aP h (gT R hR 0) fun x16 h=>L h)))))))
def o9:Nat→rD
 | 0=>⟨fun z0 z1=>none⟩
 | n+1=>⟨qA (o9 n)⟩
theorem yD:∀ n,tK (o9 n)
 | 0=>⟨fun _ _ r h=>(by cases h)⟩
 | n+1=>⟨fun a0 a1 r h=>BO _ (yD n) a0 a1 r h⟩
def kK:Option Int:=ev fun n=>(o9 n).f_run_Value a0 a1
theorem nV(r:Int)(h:kK a0 a1=some r):vB a0 a1 r:=by
 obtain ⟨n,hn⟩:=q8 h
 exact (yD n).f_run_Value a0 a1 r hn
end
section
variable (a0:Int)
abbrev Fs(a0:Int)(r:Bool):aX×HP:=(.ret (.b r),H0)
def qB:Option Bool:=
 if -2147483648≤a0 then
  some (decide (a0≤2147483647))
 else
  some false
theorem BP(r:Bool)(h:qB a0=some r):call G Ω0 E0 57 [(I a0)] H0=some (Fs a0 r):=
 aF G57 (.or (dF<|.nil) (BB<|.nil)) fun L=>bZ h (fun h1 h=>qw (decide_eq_true h1)<|L h) (fun h1 h=>qw (decide_eq_false h1)<|L h)
end
section
variable (a0:(List Bool))(a1:(List Bool))
def kc(v0_5:(List Bool))(v0_10:Nat):Option (((List Bool)×Nat)⊕((List Bool)×Nat×Bool)):=
 if (v0_10:Int)<(a0.length:Int) then
  (a0[v0_10]?).bind fun (y2:Bool)=>
  if y2=true then
   (a1[v0_10]?).bind fun (y5:Bool)=>
   if v0_5.length + [y5].length≤1000000000 then
    if IntKind.i64.wrap ((v0_10:Int)+1)=((v0_10+1:Nat):Int) then
     some (.inl (v0_5++[y5],v0_10+1))
    else none
   else none
  else
   if v0_5.length + [false].length≤1000000000 then
    if IntKind.i64.wrap ((v0_10:Int)+1)=((v0_10+1:Nat):Int) then
     some (.inl (v0_5++[false],v0_10+1))
    else none
   else none
 else
  some (.inr (v0_5,v0_10,decide ((v0_10:Int)<(a0.length:Int))))
abbrev Ej(v:((List Bool)×Nat)):St:=⟨[(1,(.l 4 (a1.map AV.b))),(5,(.o 4 (v.1.map AV.b))),(8,(.l 4 (a0.map AV.b))),(9,(I (a0.length:Int))),(10,(I (v.2:Int)))],[],H0⟩
abbrev Ek(x:((List Bool)×Nat×Bool)):aQ×St:=((.ex 0),⟨[(1,(.l 4 (a1.map AV.b))),(5,(.o 4 (x.1.map AV.b))),(8,(.l 4 (a0.map AV.b))),(9,(I (a0.length:Int))),(10,(I (x.2.1:Int))),(11,(.b x.2.2))],[],H0⟩)
theorem CY(v0_5:(List Bool))(v0_10:Nat)(o:((List Bool)×Nat)⊕((List Bool)×Nat×Bool))(h:kc a0 a1 v0_5 v0_10=some o):bG E0 MT (Ej a0 a1) (Ek a0 a1) (v0_5,v0_10) o:=
 bP (.or (bt<|ao (.n v0_10)<|xB fun y2=>.or (dF<|ao (.n v0_10)<|xB fun y5=>dE<|ao (.l ([y5].map AV.b))<|ao (.l ((v0_5++[y5]).map AV.b))<|ao (.i ((v0_10+1:Nat):Int))<|.nil) (bf<|bf<|bf<|bf<|bf<|ao (.l ([false].map AV.b))<|ao (.l ((v0_5++[false]).map AV.b))<|ao (.i ((v0_10+1:Nat):Int))<|.nil)) (bf<|.nil)) fun L=>bZ h (fun h1 h=>ai (decide_eq_true h1)<|ai (rI v0_10)<|aZ h fun y2 h3 h=>ai (aD AV.b h3)<|ba h (fun h4 h=>Ht h4<|ai (rI v0_10)<|aZ h fun y5 h6 h=>ai (aD AV.b h6)<|Hv h4<|ai (rfl:[(.b y5)]=[y5].map AV.b)<|ai ff<|aW h fun h7 h=>ai ((gw AV.b (n:=1) (fun _=>rfl) [y5]):([y5].map AV.b).all (fun e=>e.nc==1)=true)<|ai ((kO h7 (by decide)):((v0_5.map AV.b).length+([y5].map AV.b).length)*1≤140737488355328)<|ai ((kP h7):(v0_5.map AV.b).length+([y5].map AV.b).length≤maxLen)<|ai (List.map_append.symm:v0_5.map AV.b++[y5].map AV.b=(v0_5++[y5]).map AV.b)<|aW h fun w8 h=>ai w8<|L h) (fun h4 h=>ai (g1 h4)<|ai (g1 h4)<|ai (g1 h4)<|ai (g1 h4)<|ai h4<|ai (rfl:[(.b false)]=[false].map AV.b)<|ai ff<|aW h fun h5 h=>ai ((gw AV.b (n:=1) (fun _=>rfl) [false]):([false].map AV.b).all (fun e=>e.nc==1)=true)<|ai ((kO h5 (by decide)):((v0_5.map AV.b).length+([false].map AV.b).length)*1≤140737488355328)<|ai ((kP h5):(v0_5.map AV.b).length+([false].map AV.b).length≤maxLen)<|ai (List.map_append.symm:v0_5.map AV.b++[false].map AV.b=(v0_5++[false]).map AV.b)<|aW h fun w6 h=>ai w6<|L h)) (fun h1 h=>ai (decide_eq_false h1)<|L h)
abbrev GV(a0:(List Bool))(a1:(List Bool))(r:(List Bool)):aX×HP:=(.ret (.l 4 (r.map AV.b)),H0)
def rE:Option (List Bool):=
 (lp (fun v=>kc a0 a1 v.1 v.2) (([]:List Bool),0)).bind fun (x1:((List Bool)×Nat×Bool))=>
 some x1.1
theorem CZ(r:(List Bool))(h:rE a0 a1=some r):call G Ω0 E0 78 [(.l 4 (a0.map AV.b)),(.l 4 (a1.map AV.b))] H0=some (GV a0 a1 r):=
 aF G78 (ao (.i (a0.length:Int))<|.ex fun (x1:((List Bool)×Nat×Bool))=>ao (.lp (.ex 0) ⟨[(1,(.l 4 (a1.map AV.b))),(5,(.o 4 (x1.1.map AV.b))),(8,(.l 4 (a0.map AV.b))),(9,(I (a0.length:Int))),(10,(I (x1.2.1:Int))),(11,(.b x1.2.2))],[],H0⟩)<|.nil) fun L=>ai (aL AV.b a0)<|aP h (ek (fun v=>CY a0 a1 v.1 v.2) (([]:List Bool),0)) fun x1 h=>L h
def kV(v0_5:(List Bool))(v0_10:Nat):Option (((List Bool)×Nat)⊕((List Bool)×Nat×Bool)):=
 if (v0_10:Int)<(a0.length:Int) then
  (a0[v0_10]?).bind fun (y2:Bool)=>
  if y2=true then
   if v0_5.length + [true].length≤1000000000 then
    if IntKind.i64.wrap ((v0_10:Int)+1)=((v0_10+1:Nat):Int) then
     some (.inl (v0_5++[true],v0_10+1))
    else none
   else none
  else
   (a1[v0_10]?).bind fun (y5:Bool)=>
   if v0_5.length + [y5].length≤1000000000 then
    if IntKind.i64.wrap ((v0_10:Int)+1)=((v0_10+1:Nat):Int) then
     some (.inl (v0_5++[y5],v0_10+1))
    else none
   else none
 else
  some (.inr (v0_5,v0_10,decide ((v0_10:Int)<(a0.length:Int))))
abbrev Ft(v:((List Bool)×Nat)):St:=⟨[(1,(.l 4 (a1.map AV.b))),(5,(.o 4 (v.1.map AV.b))),(8,(.l 4 (a0.map AV.b))),(9,(I (a0.length:Int))),(10,(I (v.2:Int)))],[],H0⟩
abbrev Fu(x:((List Bool)×Nat×Bool)):aQ×St:=((.ex 0),⟨[(1,(.l 4 (a1.map AV.b))),(5,(.o 4 (x.1.map AV.b))),(8,(.l 4 (a0.map AV.b))),(9,(I (a0.length:Int))),(10,(I (x.2.1:Int))),(11,(.b x.2.2))],[],H0⟩)
theorem El(v0_5:(List Bool))(v0_10:Nat)(o:((List Bool)×Nat)⊕((List Bool)×Nat×Bool))(h:kV a0 a1 v0_5 v0_10=some o):bG E0 MS (Ft a0 a1) (Fu a0 a1) (v0_5,v0_10) o:=
 bP (.or (bt<|ao (.n v0_10)<|xB fun y2=>.or (DY<|ao (.l ([true].map AV.b))<|ao (.l ((v0_5++[true]).map AV.b))<|ao (.i ((v0_10+1:Nat):Int))<|.nil) (dF<|ao (.n v0_10)<|xB fun y5=>kT<|ao (.l ([y5].map AV.b))<|ao (.l ((v0_5++[y5]).map AV.b))<|ao (.i ((v0_10+1:Nat):Int))<|.nil)) (bf<|.nil)) fun L=>bZ h (fun h1 h=>ai (decide_eq_true h1)<|ai (rI v0_10)<|aZ h fun y2 h3 h=>ai (aD AV.b h3)<|ba h (fun h4 h=>DX h4<|ai (rfl:[(.b true)]=[true].map AV.b)<|ai ff<|aW h fun h5 h=>ai ((gw AV.b (n:=1) (fun _=>rfl) [true]):([true].map AV.b).all (fun e=>e.nc==1)=true)<|ai ((kO h5 (by decide)):((v0_5.map AV.b).length+([true].map AV.b).length)*1≤140737488355328)<|ai ((kP h5):(v0_5.map AV.b).length+([true].map AV.b).length≤maxLen)<|ai (List.map_append.symm:v0_5.map AV.b++[true].map AV.b=(v0_5++[true]).map AV.b)<|aW h fun w6 h=>ai w6<|L h) (fun h4 h=>DW h4<|ai (rI v0_10)<|aZ h fun y5 h6 h=>ai (aD AV.b h6)<|qx h4<|ai (rfl:[(.b y5)]=[y5].map AV.b)<|ai ff<|aW h fun h7 h=>ai ((gw AV.b (n:=1) (fun _=>rfl) [y5]):([y5].map AV.b).all (fun e=>e.nc==1)=true)<|ai ((kO h7 (by decide)):((v0_5.map AV.b).length+([y5].map AV.b).length)*1≤140737488355328)<|ai ((kP h7):(v0_5.map AV.b).length+([y5].map AV.b).length≤maxLen)<|ai (List.map_append.symm:v0_5.map AV.b++[y5].map AV.b=(v0_5++[y5]).map AV.b)<|aW h fun w8 h=>ai w8<|L h)) (fun h1 h=>ai (decide_eq_false h1)<|L h)
abbrev IJ(a0:(List Bool))(a1:(List Bool))(r:(List Bool)):aX×HP:=(.ret (.l 4 (r.map AV.b)),H0)
def sR:Option (List Bool):=
 (lp (fun v=>kV a0 a1 v.1 v.2) (([]:List Bool),0)).bind fun (x1:((List Bool)×Nat×Bool))=>
 some x1.1
theorem Em(r:(List Bool))(h:sR a0 a1=some r):call G Ω0 E0 77 [(.l 4 (a0.map AV.b)),(.l 4 (a1.map AV.b))] H0=some (IJ a0 a1 r):=
 aF G77 (ao (.i (a0.length:Int))<|.ex fun (x1:((List Bool)×Nat×Bool))=>ao (.lp (.ex 0) ⟨[(1,(.l 4 (a1.map AV.b))),(5,(.o 4 (x1.1.map AV.b))),(8,(.l 4 (a0.map AV.b))),(9,(I (a0.length:Int))),(10,(I (x1.2.1:Int))),(11,(.b x1.2.2))],[],H0⟩)<|.nil) fun L=>ai (aL AV.b a0)<|aP h (ek (fun v=>El a0 a1 v.1 v.2) (([]:List Bool),0)) fun x1 h=>L h
end
section
variable (a0:Level)(a1:Level)
abbrev Fv(a0:Level)(a1:Level)(r:Level):aX×HP:=(.ret (.a [(.l 4 (r.Readers.map AV.b)),(.l 4 (r.Writers.map AV.b))]),H0)
def ju:Option Level:=
 (rE a0.Readers a1.Readers).bind fun (r1:(List Bool))=>
 (sR a0.Writers a1.Writers).bind fun (r3:(List Bool))=>
 some (⟨r1,r3⟩:Level)
theorem mx(r:Level)(h:ju a0 a1=some r):call G Ω0 E0 62 [(.a [(.l 4 (a0.Readers.map AV.b)),(.l 4 (a0.Writers.map AV.b))]),(.a [(.l 4 (a1.Readers.map AV.b)),(.l 4 (a1.Writers.map AV.b))])] H0=some (Fv a0 a1 r):=
 aF G62 (dE<|.ex fun (r1:(List Bool))=>ao (.v (.l 4 (r1.map AV.b)))<|dE<|.ex fun (r3:(List Bool))=>ao (.v (.l 4 (r3.map AV.b)))<|dE<|.nil) fun L=>ai tt<|ai tt<|ai tt<|ai tt<|ai tt<|ai (rfl:Z0)<|ai tt<|ai tt<|ai (rfl:Z0)<|ai tt<|aP h (CZ a0.Readers a1.Readers) fun r1 h=>ai tt<|ai tt<|ai (rfl:Z0)<|ai tt<|ai tt<|ai (rfl:Z0)<|ai tt<|aP h (Em a0.Writers a1.Writers) fun r3 h=>IC<|L h
end
section
variable (a0:af)
abbrev C0(a0:af)(r:Level):aX×HP:=(.ret (.a [(.l 4 (r.Readers.map AV.b)),(.l 4 (r.Writers.map AV.b))]),H0)
def jh:Option Level:=
 (IB true a0.Many).bind fun (r1:(List Bool))=>
 (cQ a0.Many).bind fun (j3:Nat)=>
 if j3≤1000000000 then
  some (⟨r1,List.replicate j3 false⟩:Level)
 else none
theorem oE(r:Level)(h:jh a0=some r):call G Ω0 E0 21 [(.a [(I a0.Many),(.l 136 (a0.Grants.map az))])] H0=some (C0 a0 r):=
 aF G21 (ao (.l ([true].map AV.b))<|bt<|.ex fun (r1:(List Bool))=>ao (.v (.l 4 (r1.map AV.b)))<|bt<|xN fun j3=>ao (.l ((List.replicate j3 false).map AV.b))<|dE<|.nil) fun L=>qR<|ai (rfl:[(.b true)]=[true].map AV.b)<|ai tt<|ai tt<|ai (rfl:Z0)<|ai tt<|aZ h fun r1 ek2 h=>have ek2:Ω0 59 [(.l 4 ([true].map AV.b)),(I a0.Many)]=some (.l 4 (r1.map AV.b)):=NN ek2;ai ek2<|ai tt<|ai tt<|ai (rfl:Z0)<|ai tt<|eS h fun j3 h4 h=>ai h4<|aW h fun h5 h=>ai ((Bx h5 (by decide)):j3*1≤140737488355328)<|ai ((By h5):j3≤maxLen)<|ai ((List.map_replicate ..).symm:List.replicate j3 (.b false)=(List.replicate j3 false).map AV.b)<|Hu<|L h
end
section
variable (dp:Nat)(hp:HP)(k0:Key)(a0:Int)
abbrev wc(dp:Nat)(hp:HP)(k0:Key)(k1:Key)(a0:Int)(c0:Unit)(c1:aw)(a1:Int)(r:(Bool×Unit)):aX×HP:=(.ret (.b r.1),ad (ad hp k0 [(.p k1 0)]) k1 (ar c1))
def kW(c0:Unit)(c1:aw)(a1:Int):Option (Bool×Unit):=
 (cQ a0).bind fun (j1:Nat)=>
 (c1.gh[j1]?).bind fun (y3:(List Bool))=>
 (cQ a1).bind fun (j5:Nat)=>
 (y3[j5]?).bind fun (y7:Bool)=>
 some (y7,())
theorem tL(hk_k0:k0.dp<dp)(k1:Key)(hk_k1:k1.dp<dp)(hn_k0_k1:k0≠k1)(hz:aO dp hp)(a0:Int)(c0:Unit)(c1:aw)(a1:Int)(r:(Bool×Unit))(h:kW a0 c0 c1 a1=some r):call G Ω0 ⟨dp,false⟩ 176 [(I a0),(.p k0 0),(.e (I a1) 0)] (ad (ad hp k0 [(.p k1 0)]) k1 (ar c1))=some (wc dp hp k0 k1 a0 c0 c1 a1 r):=
 aF aab (bf<|ao (.l [(.p k1 0)])<|bf<|ao (.l (ar c1))<|xN fun j1=>.ex fun (y3:(List Bool))=>ao (.v (.l 4 (y3.map AV.b)))<|xN fun j5=>xB fun y7=>.nil) fun L=>ai tt<|ai (Nat.ne_of_lt hk_k0)<|ai (Fe hn_k0_k1:(ad (ad hp k0 [(.p k1 0)]) k1 (ar c1)) k0=some [(.p k1 0)])<|qR<|ai (Nat.ne_of_lt hk_k1)<|ai (aN (ad hp k0 [(.p k1 0)]) k1 (ar c1))<|cR<|eS h fun j1 h2 h=>ai h2<|aZ h fun y3 h4 h=>ai (aD (bB 4 AV.b) h4)<|qR<|eS h fun j5 h6 h=>ai h6<|aZ h fun y7 h8 h=>ai (aD AV.b h8)<|L h
end
section
variable (a0:(List Int))(c1:aw)(a1:Int)(dp:Nat)(hp:HP)(k0:Key)
def cA(v0_8:Nat):Option (Nat⊕(Nat⊕(Nat×Bool))):=
 if (v0_8:Int)<(a0.length:Int) then
  (a0[v0_8]?).bind fun (y2:Int)=>
  (kW y2 () c1 a1).bind fun (r4:(Bool×Unit))=>
  if r4.1=true then
   some (.inr (.inl v0_8))
  else
   if IntKind.i64.wrap ((v0_8:Int)+1)=((v0_8+1:Nat):Int) then
    some (.inl (v0_8+1))
   else none
 else
  some (.inr (.inr (v0_8,decide ((v0_8:Int)<(a0.length:Int)))))
abbrev ly(dp:Nat)(hp:HP)(k0:Key)(k1:Key)(a0:(List Int))(c1:aw)(a1:Int)(v:Nat):St:=⟨[(0,(.l 3 (a0.map (I)))),(1,(.f 176 [(.p k0 0),(.e (I a1) 0)])),(7,(I (a0.length:Int))),(8,(I (v:Int)))],[],ad (ad hp k0 [(.p k1 0)]) k1 (ar c1)⟩
abbrev lz(dp:Nat)(hp:HP)(k0:Key)(k1:Key)(a0:(List Int))(c1:aw)(a1:Int)(x:(Nat⊕(Nat×Bool))):aQ×St:=match x with | .inl z1=>(.ret,⟨[(4,(I (z1:Int)))],[],ad (ad hp k0 [(.p k1 0)]) k1 (ar c1)⟩) | .inr (z1,z2)=>((.ex 0),⟨[(0,(.l 3 (a0.map (I)))),(1,(.f 176 [(.p k0 0),(.e (I a1) 0)])),(7,(I (a0.length:Int))),(8,(I (z1:Int))),(9,(.b z2))],[],ad (ad hp k0 [(.p k1 0)]) k1 (ar c1)⟩)
theorem kX(hk_k0:k0.dp<dp)(k1:Key)(hk_k1:k1.dp<dp)(hn_k0_k1:k0≠k1)(hz:aO dp hp)(a0:(List Int))(c1:aw)(a1:Int)(v0_8:Nat)(o:Nat⊕(Nat⊕(Nat×Bool)))(h:cA a0 c1 a1 v0_8=some o):bG ⟨dp,false⟩ zB (ly dp hp k0 k1 a0 c1 a1) (lz dp hp k0 k1 a0 c1 a1) v0_8 o:=
 bP (.or (bt<|ao (.n v0_8)<|xI fun y2=>.ex fun (r4:(Bool×Unit))=>ao (.v (.b r4.1))<|ao (.h (boxes dp [] (ad (ad hp k0 [(.p k1 0)]) k1 (ar c1))))<|ao (.bx [])<|ao (.h (ad (ad hp k0 [(.p k1 0)]) k1 (ar c1)))<|oN (ao (.i ((v0_8+1:Nat):Int))<|.nil)) (bf<|.nil)) fun L=>bZ h (fun h1 h=>ai (decide_eq_true h1)<|ai (rI v0_8)<|aZ h fun y2 h3 h=>ai (aD (I) h3)<|js<|aZ h fun r4 ek5 h=>have ek5:=M7 hk_k0 hk_k1 hn_k0_k1 (tL (dp+1) (boxes dp [] (ad (ad hp k0 [(.p k1 0)]) k1 (ar c1))) k0 (Nat.lt_succ_of_lt hk_k0) k1 (Nat.lt_succ_of_lt hk_k1) (hn_k0_k1) (aE (ab hk_k1 (ab hk_k0 (hz)))) y2 () c1 a1 _ ek5);ai ek5<|ai (dC ek5 (by kernel_rfl) (by kernel_rfl))<|ai (dD ek5 (ab hk_k1 (ab hk_k0 (hz))))<|ba h (fun h6 h=>ai h6<|L h) (fun h6 h=>ai h6<|aW h fun w7 h=>ai w7<|L h)) (fun h1 h=>ai (decide_eq_false h1)<|L h)
abbrev lV(dp:Nat)(hp:HP)(k0:Key)(k1:Key)(a0:(List Int))(c0:Unit)(c1:aw)(a1:Int)(r:(Int×Unit)):aX×HP:=(.ret (I r.1),ad (ad hp k0 [(.p k1 0)]) k1 (ar c1))
def dH(c0:Unit)(c1:aw)(a1:Int):Option (Int×Unit):=
 (lp (fun v=>cA a0 c1 a1 v) 0).bind fun (x1:(Nat⊕(Nat×Bool)))=>match x1 with
 | .inl ya_2=>
  some ((ya_2:Int),())
 | .inr yb_2=>
  some ((-1),())
theorem kY(hk_k0:k0.dp<dp)(k1:Key)(hk_k1:k1.dp<dp)(hn_k0_k1:k0≠k1)(hz:aO dp hp)(a0:(List Int))(c0:Unit)(c1:aw)(a1:Int)(r:(Int×Unit))(h:dH a0 c0 c1 a1=some r):call G Ω0 ⟨dp,false⟩ 98 [(.l 3 (a0.map (I))),(.f 176 [(.p k0 0),(.e (I a1) 0)])] (ad (ad hp k0 [(.p k1 0)]) k1 (ar c1))=some (lV dp hp k0 k1 a0 c0 c1 a1 r):=
 aF JH (ao (.i (a0.length:Int))<|.or (.ex fun (ya_2:Nat)=>ao (.lp .ret ⟨[(4,(I (ya_2:Int)))],[],ad (ad hp k0 [(.p k1 0)]) k1 (ar c1)⟩)<|.nil) (.ex fun (yb_2:(Nat×Bool))=>ao (.lp (.ex 0) ⟨[(0,(.l 3 (a0.map (I)))),(1,(.f 176 [(.p k0 0),(.e (I a1) 0)])),(7,(I (a0.length:Int))),(8,(I (yb_2.1:Int))),(9,(.b yb_2.2))],[],ad (ad hp k0 [(.p k1 0)]) k1 (ar c1)⟩)<|.nil)) fun L=>ai (aL (I) a0)<|cZ h (ek (kX dp hp k0 hk_k0 k1 hk_k1 hn_k0_k1 hz a0 c1 a1) 0) (fun ya_2 h=>L h) (fun yb_2 h=>L h)
abbrev kZ(dp:Nat)(hp:HP)(k0:Key)(k1:Key)(a0:(List Int))(c0:Unit)(c1:aw)(a1:Int)(r:(Bool×Unit)):aX×HP:=(.ret (.b r.1),ad (ad hp k0 [(.p k1 0)]) k1 (ar c1))
def di(c0:Unit)(c1:aw)(a1:Int):Option (Bool×Unit):=
 (dH a0 () c1 a1).bind fun (r1:(Int×Unit))=>
 some ((decide (0≤r1.1)),())
theorem ko(hk_k0:k0.dp<dp)(k1:Key)(hk_k1:k1.dp<dp)(hn_k0_k1:k0≠k1)(hz:aO dp hp)(a0:(List Int))(c0:Unit)(c1:aw)(a1:Int)(r:(Bool×Unit))(h:di a0 c0 c1 a1=some r):call G Ω0 ⟨dp,false⟩ 55 [(.l 3 (a0.map (I))),(.f 176 [(.p k0 0),(.e (I a1) 0)])] (ad (ad hp k0 [(.p k1 0)]) k1 (ar c1))=some (kZ dp hp k0 k1 a0 c0 c1 a1 r):=
 aF JG (.ex fun (r1:(Int×Unit))=>ao (.v (I r1.1))<|ao (.h (boxes dp [] (ad (ad hp k0 [(.p k1 0)]) k1 (ar c1))))<|ao (.bx [])<|ao (.h (ad (ad hp k0 [(.p k1 0)]) k1 (ar c1)))<|.nil) fun L=>js<|aZ h fun r1 ek2 h=>have ek2:=M7 hk_k0 hk_k1 hn_k0_k1 (kY (dp+1) (boxes dp [] (ad (ad hp k0 [(.p k1 0)]) k1 (ar c1))) k0 (Nat.lt_succ_of_lt hk_k0) k1 (Nat.lt_succ_of_lt hk_k1) (hn_k0_k1) (aE (ab hk_k1 (ab hk_k0 (hz)))) a0 () c1 a1 _ ek2);ai ek2<|ai (dC ek2 (by kernel_rfl) (by kernel_rfl))<|ai (dD ek2 (ab hk_k1 (ab hk_k0 (hz))))<|L h
end
section
variable (dp:Nat)(hp:HP)(k0:Key)(c0:aw)(a0:Int)
abbrev yf(dp:Nat)(hp:HP)(k0:Key)(c0:aw)(a0:Int)(r:Bool):aX×HP:=(.ret (.b r),ad hp k0 (ar c0))
def jS:Option Bool:=
 (di c0.p.Speak () c0 a0).bind fun (r1:(Bool×Unit))=>
 some r1.1
theorem vC(hk_k0:k0.dp<dp)(hz:aO dp hp)(c0:aw)(a0:Int)(r:Bool)(h:jS c0 a0=some r):call G Ω0 ⟨dp,false⟩ 175 [(.p k0 0),(I a0)] (ad hp k0 (ar c0))=some (yf dp hp k0 c0 a0 r):=
 aF aaa (kT<|ao (.l (ar c0))<|.ex fun (r1:(Bool×Unit))=>ao (.v (.b r1.1))<|ao (.h (boxes dp [(2,[(.p k0 0)])] (ad hp k0 (ar c0))))<|ao (.bx [(2,[(.p k0 0)])])<|ao (.h (ad hp k0 (ar c0)))<|.nil) fun L=>ai ((by simp [AV.aG,AV.aI,AV.deep,AV.bz,aj hk_k0,Nat.le_of_lt hk_k0]):(((.p k0 0):AV).deep dp&&(([(0,(.p k0 0)),(1,(I a0))]:List (Nat×AV)).all (fun y=>y.2.aG ⟨dp,2⟩)&&([]:List (Nat×List AV)).all (fun y=>AV.aI ⟨dp,2⟩ y.2)))=true)<|ai ((by simp [AV.aG,AV.aI,AV.deep,AV.bz,aj hk_k0,Nat.le_of_lt hk_k0]):(((I a0):AV).deep dp&&(([(2,(.p ⟨dp,2⟩ 0)),(0,(.p k0 0)),(1,(I a0))]:List (Nat×AV)).all (fun y=>y.2.aG ⟨dp,3⟩)&&([(2,[(.p k0 0)])]:List (Nat×List AV)).all (fun y=>AV.aI ⟨dp,3⟩ y.2)))=true)<|ai (rN dp)<|ai (rN dp)<|ai (Nat.ne_of_lt hk_k0)<|ai (aN hp k0 (ar c0))<|ai ff<|ai ((by simp [AV.deep,AV.bz,Nat.le_of_lt hk_k0]):([(2,[(.p k0 0)])]:List (Nat×List AV)).all (fun y=>AV.bz dp y.2)=true)<|aZ h fun r1 ek2 h=>have ek2:call G Ω0 ⟨dp+1,false⟩ 55 [(.l 3 (c0.p.Speak.map (I))),(.f 176 [(.p ⟨dp,2⟩ 0),(.e (I a0) 0)])] (boxes dp [(2,[(.p k0 0)])] (ad hp k0 (ar c0)))=some (.ret (.b r1.1),boxes dp [(2,[(.p k0 0)])] (ad hp k0 (ar c0))):=cT (e7 (cq (bx1:=[(2,[(.p k0 0)])]) (by kernel_rfl) (by kernel_rfl)) (bI (hp1:=ad hp k0 (ar c0)) (Nat.ne_of_lt hk_k0) (bh ..))) (e7 (cq (bx1:=[(2,[(.p k0 0)])]) (by kernel_rfl) (by kernel_rfl)) (bI (hp1:=ad hp k0 (ar c0)) (Nat.ne_of_lt hk_k0) (bh ..))) (ko (dp+1) (boxes dp [(2,[(.p k0 0)])] (ad hp k0 (ar c0))) ⟨dp,2⟩ (Nat.lt_succ_self dp) k0 (Nat.lt_succ_of_lt hk_k0) (CO hk_k0) (aE (ab hk_k0 (hz))) c0.p.Speak () c0 a0 _ ek2);ai ek2<|ai (dC ek2 (by kernel_rfl) (by kernel_rfl))<|ai (dD ek2 (ab hk_k0 (hz)))<|L h
end
section
variable (dp:Nat)(hp:HP)(k0:Key)(a0:bw)
abbrev we(dp:Nat)(hp:HP)(k0:Key)(k1:Key)(a0:bw)(c0:Unit)(c1:aw)(r:(Bool×Unit)):aX×HP:=(.ret (.b r.1),ad (ad hp k0 [(.p k1 0)]) k1 (ar c1))
def k9(c0:Unit)(c1:aw):Option (Bool×Unit):=
 (jS c1 a0.Owner).bind fun (r1:Bool)=>
 some ((!r1),())
theorem tM(hk_k0:k0.dp<dp)(k1:Key)(hk_k1:k1.dp<dp)(hn_k0_k1:k0≠k1)(hz:aO dp hp)(a0:bw)(c0:Unit)(c1:aw)(r:(Bool×Unit))(h:k9 a0 c0 c1=some r):call G Ω0 ⟨dp,false⟩ 174 [(.a [(I a0.Owner),(.l 3 (a0.Names.map (I)))]),(.p k0 0)] (ad (ad hp k0 [(.p k1 0)]) k1 (ar c1))=some (we dp hp k0 k1 a0 c0 c1 r):=
 aF Z9 (bf<|ao (.l [(.p k1 0)])<|bt<|xB fun r1=>ao (.h (boxes dp [(2,[(I a0.Owner),(.l 3 (a0.Names.map (I)))])] (ad (ad hp k0 [(.p k1 0)]) k1 (ar c1))))<|ao (.bx [(2,[(I a0.Owner),(.l 3 (a0.Names.map (I)))])])<|ao (.h (ad (ad hp k0 [(.p k1 0)]) k1 (ar c1)))<|.nil) fun L=>ai ((by simp [AV.aG,AV.aI,AV.deep,AV.bz,aj hk_k0,Nat.le_of_lt hk_k0,aj hk_k1,Nat.le_of_lt hk_k1]):(((.a [(I a0.Owner),(.l 3 (a0.Names.map (I)))]):AV).deep dp&&(([(0,(.a [(I a0.Owner),(.l 3 (a0.Names.map (I)))])),(1,(.p k0 0))]:List (Nat×AV)).all (fun y=>y.2.aG ⟨dp,2⟩)&&([]:List (Nat×List AV)).all (fun y=>AV.aI ⟨dp,2⟩ y.2)))=true)<|ai (Nat.ne_of_lt hk_k0)<|ai (Fe hn_k0_k1:(ad (ad hp k0 [(.p k1 0)]) k1 (ar c1)) k0=some [(.p k1 0)])<|ai (rN dp)<|js<|aZ h fun r1 ek2 h=>have ek2:call G Ω0 ⟨dp+1,false⟩ 175 [(.p k1 0),(I a0.Owner)] (boxes dp [(2,[(I a0.Owner),(.l 3 (a0.Names.map (I)))])] (ad (ad hp k0 [(.p k1 0)]) k1 (ar c1)))=some (.ret (.b r1),boxes dp [(2,[(I a0.Owner),(.l 3 (a0.Names.map (I)))])] (ad (ad hp k0 [(.p k1 0)]) k1 (ar c1))):=cT (bI (hp1:=ad (ad hp k0 [(.p k1 0)]) k1 (ar c1)) (Nat.ne_of_lt hk_k1) (bh ..)) (bI (hp1:=ad (ad hp k0 [(.p k1 0)]) k1 (ar c1)) (Nat.ne_of_lt hk_k1) (bh ..)) (vC (dp+1) (boxes dp [(2,[(I a0.Owner),(.l 3 (a0.Names.map (I)))])] (ad (ad hp k0 [(.p k1 0)]) k1 (ar c1))) k1 (Nat.lt_succ_of_lt hk_k1) (aE (ab hk_k1 (ab hk_k0 (hz)))) c1 a0.Owner _ ek2);ai ek2<|ai (dC ek2 (by kernel_rfl) (by kernel_rfl))<|ai (dD ek2 (ab hk_k1 (ab hk_k0 (hz))))<|L h
end
section
variable (a0:(List bw))(c1:aw)(dp:Nat)(hp:HP)(k0:Key)
def cB(v0_8:Nat):Option (Nat⊕(Nat⊕(Nat×Bool))):=
 if (v0_8:Int)<(a0.length:Int) then
  (a0[v0_8]?).bind fun (y2:bw)=>
  (k9 y2 () c1).bind fun (r4:(Bool×Unit))=>
  if r4.1=true then
   some (.inr (.inl v0_8))
  else
   if IntKind.i64.wrap ((v0_8:Int)+1)=((v0_8+1:Nat):Int) then
    some (.inl (v0_8+1))
   else none
 else
  some (.inr (.inr (v0_8,decide ((v0_8:Int)<(a0.length:Int)))))
abbrev lA(dp:Nat)(hp:HP)(k0:Key)(k1:Key)(a0:(List bw))(c1:aw)(v:Nat):St:=⟨[(0,(.l 134 (a0.map aT))),(1,(.f 174 [(.p k0 0)])),(7,(I (a0.length:Int))),(8,(I (v:Int)))],[],ad (ad hp k0 [(.p k1 0)]) k1 (ar c1)⟩
abbrev lB(dp:Nat)(hp:HP)(k0:Key)(k1:Key)(a0:(List bw))(c1:aw)(x:(Nat⊕(Nat×Bool))):aQ×St:=match x with | .inl z1=>(.ret,⟨[(4,(I (z1:Int)))],[],ad (ad hp k0 [(.p k1 0)]) k1 (ar c1)⟩) | .inr (z1,z2)=>((.ex 0),⟨[(0,(.l 134 (a0.map aT))),(1,(.f 174 [(.p k0 0)])),(7,(I (a0.length:Int))),(8,(I (z1:Int))),(9,(.b z2))],[],ad (ad hp k0 [(.p k1 0)]) k1 (ar c1)⟩)
theorem la(hk_k0:k0.dp<dp)(k1:Key)(hk_k1:k1.dp<dp)(hn_k0_k1:k0≠k1)(hz:aO dp hp)(a0:(List bw))(c1:aw)(v0_8:Nat)(o:Nat⊕(Nat⊕(Nat×Bool)))(h:cB a0 c1 v0_8=some o):bG ⟨dp,false⟩ E1 (lA dp hp k0 k1 a0 c1) (lB dp hp k0 k1 a0 c1) v0_8 o:=
 bP (.or (bt<|ao (.n v0_8)<|.ex fun (y2:bw)=>ao (.v (.a [(I y2.Owner),(.l 3 (y2.Names.map (I)))]))<|.ex fun (r4:(Bool×Unit))=>ao (.v (.b r4.1))<|ao (.h (boxes dp [] (ad (ad hp k0 [(.p k1 0)]) k1 (ar c1))))<|ao (.bx [])<|ao (.h (ad (ad hp k0 [(.p k1 0)]) k1 (ar c1)))<|oN (ao (.i ((v0_8+1:Nat):Int))<|.nil)) (bf<|.nil)) fun L=>bZ h (fun h1 h=>ai (decide_eq_true h1)<|ai (rI v0_8)<|aZ h fun y2 h3 h=>ai (aD aT h3)<|js<|aZ h fun r4 ek5 h=>have ek5:=M7 hk_k0 hk_k1 hn_k0_k1 (tM (dp+1) (boxes dp [] (ad (ad hp k0 [(.p k1 0)]) k1 (ar c1))) k0 (Nat.lt_succ_of_lt hk_k0) k1 (Nat.lt_succ_of_lt hk_k1) (hn_k0_k1) (aE (ab hk_k1 (ab hk_k0 (hz)))) y2 () c1 _ ek5);ai ek5<|ai (dC ek5 (by kernel_rfl) (by kernel_rfl))<|ai (dD ek5 (ab hk_k1 (ab hk_k0 (hz))))<|ba h (fun h6 h=>ai h6<|L h) (fun h6 h=>ai h6<|aW h fun w7 h=>ai w7<|L h)) (fun h1 h=>ai (decide_eq_false h1)<|L h)
abbrev lW(dp:Nat)(hp:HP)(k0:Key)(k1:Key)(a0:(List bw))(c0:Unit)(c1:aw)(r:(Int×Unit)):aX×HP:=(.ret (I r.1),ad (ad hp k0 [(.p k1 0)]) k1 (ar c1))
def dI(c0:Unit)(c1:aw):Option (Int×Unit):=
 (lp (fun v=>cB a0 c1 v) 0).bind fun (x1:(Nat⊕(Nat×Bool)))=>match x1 with
 | .inl ya_2=>
  some ((ya_2:Int),())
 | .inr yb_2=>
  some ((-1),())
theorem lf(hk_k0:k0.dp<dp)(k1:Key)(hk_k1:k1.dp<dp)(hn_k0_k1:k0≠k1)(hz:aO dp hp)(a0:(List bw))(c0:Unit)(c1:aw)(r:(Int×Unit))(h:dI a0 c0 c1=some r):call G Ω0 ⟨dp,false⟩ 125 [(.l 134 (a0.map aT)),(.f 174 [(.p k0 0)])] (ad (ad hp k0 [(.p k1 0)]) k1 (ar c1))=some (lW dp hp k0 k1 a0 c0 c1 r):=
 aF RE (ao (.i (a0.length:Int))<|.or (.ex fun (ya_2:Nat)=>ao (.lp .ret ⟨[(4,(I (ya_2:Int)))],[],ad (ad hp k0 [(.p k1 0)]) k1 (ar c1)⟩)<|.nil) (.ex fun (yb_2:(Nat×Bool))=>ao (.lp (.ex 0) ⟨[(0,(.l 134 (a0.map aT))),(1,(.f 174 [(.p k0 0)])),(7,(I (a0.length:Int))),(8,(I (yb_2.1:Int))),(9,(.b yb_2.2))],[],ad (ad hp k0 [(.p k1 0)]) k1 (ar c1)⟩)<|.nil)) fun L=>ai (aL aT a0)<|cZ h (ek (la dp hp k0 hk_k0 k1 hk_k1 hn_k0_k1 hz a0 c1) 0) (fun ya_2 h=>L h) (fun yb_2 h=>L h)
abbrev lg(dp:Nat)(hp:HP)(k0:Key)(k1:Key)(a0:(List bw))(c0:Unit)(c1:aw)(r:(Bool×Unit)):aX×HP:=(.ret (.b r.1),ad (ad hp k0 [(.p k1 0)]) k1 (ar c1))
def dj(c0:Unit)(c1:aw):Option (Bool×Unit):=
 (dI a0 () c1).bind fun (r1:(Int×Unit))=>
 some ((decide (0≤r1.1)),())
theorem kq(hk_k0:k0.dp<dp)(k1:Key)(hk_k1:k1.dp<dp)(hn_k0_k1:k0≠k1)(hz:aO dp hp)(a0:(List bw))(c0:Unit)(c1:aw)(r:(Bool×Unit))(h:dj a0 c0 c1=some r):call G Ω0 ⟨dp,false⟩ 84 [(.l 134 (a0.map aT)),(.f 174 [(.p k0 0)])] (ad (ad hp k0 [(.p k1 0)]) k1 (ar c1))=some (lg dp hp k0 k1 a0 c0 c1 r):=
 aF YI (.ex fun (r1:(Int×Unit))=>ao (.v (I r1.1))<|ao (.h (boxes dp [] (ad (ad hp k0 [(.p k1 0)]) k1 (ar c1))))<|ao (.bx [])<|ao (.h (ad (ad hp k0 [(.p k1 0)]) k1 (ar c1)))<|.nil) fun L=>js<|aZ h fun r1 ek2 h=>have ek2:=M7 hk_k0 hk_k1 hn_k0_k1 (lf (dp+1) (boxes dp [] (ad (ad hp k0 [(.p k1 0)]) k1 (ar c1))) k0 (Nat.lt_succ_of_lt hk_k0) k1 (Nat.lt_succ_of_lt hk_k1) (hn_k0_k1) (aE (ab hk_k1 (ab hk_k0 (hz)))) a0 () c1 _ ek2);ai ek2<|ai (dC ek2 (by kernel_rfl) (by kernel_rfl))<|ai (dD ek2 (ab hk_k1 (ab hk_k0 (hz))))<|L h
end
section
variable (dp:Nat)(hp:HP)(k0:Key)(c0:aw)(a0:(List bw))
abbrev qS(dp:Nat)(hp:HP)(k0:Key)(c0:aw)(a0:(List bw))(r:Bool):aX×HP:=(.ret (.b r),ad hp k0 (ar c0))
abbrev qT(r:Bool):Prop:=call G Ω0 ⟨dp,false⟩ 171 [(.p k0 0),(.l 134 (a0.map aT))] (ad hp k0 (ar c0))=some (qS dp hp k0 c0 a0 r)
def dM:Option Bool:=
 (dj a0 () c0).bind fun (r1:(Bool×Unit))=>
 some (!r1.1)
theorem vD(hk_k0:k0.dp<dp)(hz:aO dp hp)(c0:aw)(a0:(List bw))(r:Bool)(h:dM c0 a0=some r):qT dp hp k0 c0 a0 r:=
 aF Z8 (.ex fun (r1:(Bool×Unit))=>ao (.v (.b r1.1))<|ao (.h (boxes dp [(2,[(.p k0 0)])] (ad hp k0 (ar c0))))<|ao (.bx [(2,[(.p k0 0)])])<|ao (.h (ad hp k0 (ar c0)))<|.nil) fun L=>ai ((by simp [AV.aG,AV.aI,AV.deep,AV.bz,aj hk_k0,Nat.le_of_lt hk_k0]):(((.p k0 0):AV).deep dp&&(([(0,(.p k0 0)),(1,(.l 134 (a0.map aT)))]:List (Nat×AV)).all (fun y=>y.2.aG ⟨dp,2⟩)&&([]:List (Nat×List AV)).all (fun y=>AV.aI ⟨dp,2⟩ y.2)))=true)<|ai ff<|ai ((by simp [AV.deep,AV.bz,Nat.le_of_lt hk_k0]):([(2,[(.p k0 0)])]:List (Nat×List AV)).all (fun y=>AV.bz dp y.2)=true)<|aZ h fun r1 ek2 h=>have ek2:call G Ω0 ⟨dp+1,false⟩ 84 [(.l 134 (a0.map aT)),(.f 174 [(.p ⟨dp,2⟩ 0)])] (boxes dp [(2,[(.p k0 0)])] (ad hp k0 (ar c0)))=some (.ret (.b r1.1),boxes dp [(2,[(.p k0 0)])] (ad hp k0 (ar c0))):=cT (e7 (cq (bx1:=[(2,[(.p k0 0)])]) (by kernel_rfl) (by kernel_rfl)) (bI (hp1:=ad hp k0 (ar c0)) (Nat.ne_of_lt hk_k0) (bh ..))) (e7 (cq (bx1:=[(2,[(.p k0 0)])]) (by kernel_rfl) (by kernel_rfl)) (bI (hp1:=ad hp k0 (ar c0)) (Nat.ne_of_lt hk_k0) (bh ..))) (kq (dp+1) (boxes dp [(2,[(.p k0 0)])] (ad hp k0 (ar c0))) ⟨dp,2⟩ (Nat.lt_succ_self dp) k0 (Nat.lt_succ_of_lt hk_k0) (CO hk_k0) (aE (ab hk_k0 (hz))) a0 () c0 _ ek2);ai ek2<|ai (dC ek2 (by kernel_rfl) (by kernel_rfl))<|ai (dD ek2 (ab hk_k0 (hz)))<|L h
end
end
end Go.Proofs.YtdpjofmmokaobaaGreat.A
