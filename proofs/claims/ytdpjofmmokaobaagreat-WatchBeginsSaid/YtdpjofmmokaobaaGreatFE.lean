/- Functions of the program as plain functions, by program. -/
import Derived.Test.YtdpjofmmokaobaaGreatTypes
import Derived.Test.YtdpjofmmokaobaaGreatLift
import Derived.Test.YtdpjofmmokaobaaGreatFB
set_option maxRecDepth 100000
set_option linter.unusedSectionVars false
set_option linter.unusedVariables false
set_option linter.unusedSimpArgs false
namespace Go.Proofs.YtdpjofmmokaobaaGreat.A
open Go
noncomputable section
variable [Lp]
section
variable (a0:aE)(a1:Int)
abbrev F8(a0:aE)(a1:Int)(r:Int):aW×HP:=(.ret (I r),H0)
abbrev tY(r:Int):Prop:=call G Ω0 E0 128 [(.a (bF a0)),(I a1)] H0=some (F8 a0 a1 r)
end
structure tZ where
 f_scope_size:aE→Int→Option Int
structure sM(R:tZ):Prop where
 f_scope_size:∀ (a0:aE)(a1:Int)(r:Int),R.f_scope_size a0 a1=some r→tY a0 a1 r
section
variable (R:tZ)(a0:aE)(a1:Int)
def oa(v0_5:Int)(v0_11:Nat):Option ((Int×Nat)⊕((Int×Nat×Bool×aE)⊕(Int×Nat×Bool))):=
 if (v0_11:Int)<(a0.Args.length:Int) then
  (a0.Args[v0_11]?).bind fun (y2:aE)=>
  if a1<v0_5 then
   some (.inr (.inl (v0_5,v0_11,decide (a1<v0_5),y2)))
  else
   if IntKind.i64.wrap (a1 - v0_5)=a1 - v0_5 then
    (R.f_scope_size y2 (a1 - v0_5)).bind fun (r6:Int)=>
    if IntKind.i64.wrap (v0_5+r6)=v0_5+r6 then
     if IntKind.i64.wrap ((v0_11:Int)+1)=((v0_11+1:Nat):Int) then
      some (.inl (v0_5+r6,v0_11+1))
     else none
    else none
   else none
 else
  some (.inr (.inr (v0_5,v0_11,decide ((v0_11:Int)<(a0.Args.length:Int)))))
abbrev DC(v:(Int×Nat)):St:=⟨[(1,(I a1)),(5,(I v.1)),(9,(.l 86 (a0.Args.map aT))),(10,(I (a0.Args.length:Int))),(11,(I (v.2:Int)))],[],H0⟩
abbrev DD(x:((Int×Nat×Bool×aE)⊕(Int×Nat×Bool))):aR×St:=match x with | .inl (z1,z2,z3,z4)=>((.ex 0),⟨[(1,(I a1)),(5,(I z1)),(7,(.p ⟨0,7⟩ 0)),(9,(.l 86 (a0.Args.map aT))),(10,(I (a0.Args.length:Int))),(11,(I (z2:Int))),(17,(.b z3))],[(7,(bF z4))],H0⟩) | .inr (z1,z2,z3)=>((.ex 0),⟨[(1,(I a1)),(5,(I z1)),(9,(.l 86 (a0.Args.map aT))),(10,(I (a0.Args.length:Int))),(11,(I (z2:Int))),(12,(.b z3))],[],H0⟩)
theorem Ce(hR:sM R)(a0:aE)(a1:Int)(v0_5:Int)(v0_11:Nat)(o:(Int×Nat)⊕((Int×Nat×Bool×aE)⊕(Int×Nat×Bool)))(h:oa R a0 a1 v0_5 v0_11=some o):bI E0 J6 (DC a0 a1) (DD a0 a1) (v0_5,v0_11) o:=
 bP (.or (bt<|ao (.n v0_11)<|.ex fun (y2:aE)=>ao (.v (.a (bF y2)))<|du<|oN (bt<|ao (.i (a1 - v0_5))<|xI fun r6=>ao (.i (v0_5+r6))<|ao (.i ((v0_11+1:Nat):Int))<|.nil)) (bf<|.nil)) fun L=>cb h (fun h1 h=>ai (decide_eq_true h1)<|ai (rI v0_11)<|aP h fun y2 h3 h=>ai (iy aT h3 (eS _))<|ai tt<|ai ff<|ai (rfl:Z0)<|ai tt<|ai (rfl:Z0)<|cb h (fun h4 h=>ai (decide_eq_true h4)<|L h) (fun h4 h=>sZ (decide_eq_false h4)<|aS h fun w5 h=>ai w5<|aQ h (hR.f_scope_size y2 (a1 - v0_5)) fun r6 h=>aS h fun w8 h=>ai w8<|aS h fun w9 h=>ai w9<|L h)) (fun h1 h=>ai (decide_eq_false h1)<|L h)
def pL:Option Int:=
 (lp (fun v=>oa R a0 a1 v.1 v.2) (1,0)).bind fun (x1:((Int×Nat×Bool×aE)⊕(Int×Nat×Bool)))=>match x1 with
 | .inl ya_2=>
  some ya_2.1
 | .inr yb_2=>
  some yb_2.1
theorem Bb(hR:sM R)(a0:aE)(a1:Int)(r:Int)(h:pL R a0 a1=some r):tY a0 a1 r:=
 aK Zu (bt<|ao (.i (a0.Args.length:Int))<|.or (.ex fun (ya_2:(Int×Nat×Bool×aE))=>ao (.lp (.ex 0) ⟨[(1,(I a1)),(5,(I ya_2.1)),(7,(.p ⟨0,7⟩ 0)),(9,(.l 86 (a0.Args.map aT))),(10,(I (a0.Args.length:Int))),(11,(I (ya_2.2.1:Int))),(17,(.b ya_2.2.2.1))],[(7,(bF ya_2.2.2.2))],H0⟩)<|.nil) (.ex fun (yb_2:(Int×Nat×Bool))=>ao (.lp (.ex 0) ⟨[(1,(I a1)),(5,(I yb_2.1)),(9,(.l 86 (a0.Args.map aT))),(10,(I (a0.Args.length:Int))),(11,(I (yb_2.2.1:Int))),(12,(.b yb_2.2.2))],[],H0⟩)<|.nil)) fun L=>ai tt<|ai (rfl:Z0)<|ai (aL aT a0.Args)<|cN h (ef (fun v=>Ce R hR a0 a1 v.1 v.2) (1,0)) (fun ya_2 h=>L h) (fun yb_2 h=>L h)
def lB:Nat→tZ
 | 0=>⟨fun z0 z1=>none⟩
 | n+1=>⟨pL (lB n)⟩
theorem yx:∀ n,sM (lB n)
 | 0=>⟨fun _ _ r h=>(by cases h)⟩
 | n+1=>⟨fun a0 a1 r h=>Bb _ (yx n) a0 a1 r h⟩
def ua:Option Int:=ev fun n=>(lB n).f_scope_size a0 a1
theorem Cf(r:Int)(h:ua a0 a1=some r):tY a0 a1 r:=by
 obtain ⟨n,hn⟩:=qh h
 exact (yx n).f_scope_size a0 a1 r hn
def vC:List dM:=(gA 23 45)::[]
def eT(a0:aE)(a1:Int)(w1_1:Nat)(u2_1:Bool):Option Bool:=
 some u2_1
abbrev Cg(w1_1:Nat)(u2_1:Bool)(x:Bool):St:=⟨[(1,(I a1)),(2,(.p ⟨0,2⟩ 0)),(23,(.b x))],[(2,(bF a0))],H0⟩
theorem gq(w1_1:Nat)(u2_1:Bool)(w:List AV)(x:Bool)(h:eT a0 a1 w1_1 u2_1=some x):lx G Ω0 E0 [1,2,23] [2] vC ⟨[(45,(.b u2_1)),(44,(W w 0)),(43,(W w 1)),(42,(W w 2)),(41,(W w 3)),(40,(W w 4)),(39,(W w 5)),(38,(W w 6)),(37,(W w 7)),(36,(W w 8)),(35,(W w 9)),(34,(W w 10)),(33,(W w 11)),(32,(W w 12)),(31,(W w 13)),(30,(W w 14)),(29,(W w 15)),(28,(W w 16)),(27,(.b (a0.Kind==1))),(26,(.b (a0.Kind==1))),(25,(I a0.Kind)),(24,(.p ⟨0,2⟩ 0)),(1,(I a1)),(2,(.p ⟨0,2⟩ 0)),(5,(I (w1_1:Int))),(17,(.b ((a0.Args.length:Int) !=(w1_1:Int))))],[(2,(bF a0))],H0⟩=some (Cg a0 a1 w1_1 u2_1 x):=
 kC (.nil) fun L=>L h
def Ch:List dM:=(gF 24 0 2)::(gQ 25 24)::(gB 26 .eql 25 (kI 1))::(gM 27 26)::⟨some 28,.fa 1 2,some ⟨27,true⟩,false⟩::⟨some 29,.ld none 28,some ⟨27,true⟩,false⟩::⟨some 30,.bo .lss false 29 (kI (-9999999)),some ⟨27,true⟩,false⟩::⟨some 31,.mv 30,some ⟨27,true⟩,false⟩::⟨some 32,.fa 1 2,some ⟨31,false⟩,false⟩::⟨some 33,.ld none 32,some ⟨31,false⟩,false⟩::⟨some 34,.bo .gtr false 33 (kI 9999999),some ⟨31,false⟩,false⟩::⟨some 35,.pk 31 (.c (.b true)) 34,some ⟨27,true⟩,false⟩::(gp 36 (.pk 27 35 (.c (.b false))))::(gM 37 36)::⟨some 38,.mv 5,some ⟨37,false⟩,false⟩::⟨some 39,.bo .gtr false 38 (kI 0),some ⟨37,false⟩,false⟩::⟨some 40,.mv 39,some ⟨37,false⟩,false⟩::⟨some 41,.fa 1 2,some ⟨40,true⟩,false⟩::⟨some 42,.ld none 41,some ⟨40,true⟩,false⟩::⟨some 43,.bo .neq false 42 (kI 0),some ⟨40,true⟩,false⟩::⟨some 44,.pk 40 43 (.c (.b false)),some ⟨37,false⟩,false⟩::(gp 45 (.pk 37 (.c (.b true)) 44))::vC
def mT(w1_1:Nat):Option Bool:=
 if (a0.Kind==1)=true then
  if a0.N < -9999999 then
   (eT a0 a1 w1_1 true).bind fun (x7:Bool)=>
   some x7
  else
   if 9999999<a0.N then
    (eT a0 a1 w1_1 true).bind fun (x8:Bool)=>
    some x8
   else
    if 0<(w1_1:Int) then
     (eT a0 a1 w1_1 (a0.N !=0)).bind fun (x9:Bool)=>
     some x9
    else
     (eT a0 a1 w1_1 false).bind fun (x9:Bool)=>
     some x9
 else
  if 0<(w1_1:Int) then
   (eT a0 a1 w1_1 (a0.N !=0)).bind fun (x7:Bool)=>
   some x7
  else
   (eT a0 a1 w1_1 false).bind fun (x7:Bool)=>
   some x7
abbrev Ci(w1_1:Nat)(x:Bool):St:=⟨[(1,(I a1)),(2,(.p ⟨0,2⟩ 0)),(23,(.b x))],[(2,(bF a0))],H0⟩
theorem Bc(w1_1:Nat)(x:Bool)(h:mT a0 a1 w1_1=some x):lx G Ω0 E0 [1,2,23] [2] Ch ⟨[(1,(I a1)),(2,(.p ⟨0,2⟩ 0)),(5,(I (w1_1:Int))),(17,(.b ((a0.Args.length:Int) !=(w1_1:Int))))],[(2,(bF a0))],H0⟩=some (Ci a0 a1 w1_1 x):=
 kC (bt<|.or (qE<|.or (bf<|bf<|bf<|bt<|bt<|bt<|bf<|bf<|bf<|bf<|bt<|.jb (some 23) 0<|.ex fun (x7:Bool)=>ao (.jn ⟨[(1,(I a1)),(2,(.p ⟨0,2⟩ 0)),(23,(.b x7))],[(2,(bF a0))],H0⟩)<|.nil) (bt<|bt<|bt<|bt<|bt<|bf<|bt<|.or (EI<|.jb (some 23) 0<|.ex fun (x8:Bool)=>ao (.jn ⟨[(1,(I a1)),(2,(.p ⟨0,2⟩ 0)),(23,(.b x8))],[(2,(bF a0))],H0⟩)<|.nil) (dE<|.or (F2<|.jb (some 23) 0<|.ex fun (x9:Bool)=>ao (.jn ⟨[(1,(I a1)),(2,(.p ⟨0,2⟩ 0)),(23,(.b x9))],[(2,(bF a0))],H0⟩)<|.nil) (Jl<|.jb (some 23) 0<|.ex fun (x9:Bool)=>ao (.jn ⟨[(1,(I a1)),(2,(.p ⟨0,2⟩ 0)),(23,(.b x9))],[(2,(bF a0))],H0⟩)<|.nil)))) (bf<|bf<|bf<|bf<|bf<|bf<|bt<|bt<|bt<|.or (F2<|.jb (some 23) 0<|.ex fun (x7:Bool)=>ao (.jn ⟨[(1,(I a1)),(2,(.p ⟨0,2⟩ 0)),(23,(.b x7))],[(2,(bF a0))],H0⟩)<|.nil) (Jl<|.jb (some 23) 0<|.ex fun (x7:Bool)=>ao (.jn ⟨[(1,(I a1)),(2,(.p ⟨0,2⟩ 0)),(23,(.b x7))],[(2,(bF a0))],H0⟩)<|.nil))) fun L=>ai (rfl:Z0)<|a8 h (fun h5 h=>ai (g1 h5)<|ai (g1 h5)<|ai (rfl:Z0)<|ai (g1 h5)<|ai (g1 h5)<|cb h (fun h6 h=>EG (decide_eq_true h6)<|ai (g1 h5)<|ai (decide_eq_true h6)<|ai h5<|ai ht<|ai ht<|ai ht<|ai ht<|ai tt<|aQ h (gq a0 a1 w1_1 true [.sk,.sk,.sk,.sk,.sk,.sk,.sk,(.b true),(.b true),(.b true),.sk,.sk,.sk,(.b (decide (a0.N < -9999999))),(.b (decide (a0.N < -9999999))),(I a0.N),(.p ⟨0,2⟩ 1)]) fun x7 h=>L h) (fun h6 h=>Ky (decide_eq_false h6)<|ai (g1 h5)<|ai (decide_eq_false h6)<|ai h5<|cb h (fun h7 h=>EH (decide_eq_true h7)<|aQ h (gq a0 a1 w1_1 true [.sk,.sk,.sk,.sk,.sk,.sk,.sk,(.b (decide (9999999<a0.N))),(.b (decide (9999999<a0.N))),(.b (decide (9999999<a0.N))),(.b (decide (9999999<a0.N))),(I a0.N),(.p ⟨0,2⟩ 1),(.b (decide (a0.N < -9999999))),(.b (decide (a0.N < -9999999))),(I a0.N),(.p ⟨0,2⟩ 1)]) fun x8 h=>L h) (fun h7 h=>EG (decide_eq_false h7)<|cb h (fun h8 h=>ai (g1 (decide_eq_true h8))<|ai (g1 (decide_eq_true h8))<|ai (rfl:Z0)<|ai (g1 (decide_eq_true h8))<|ai (g0 (decide_eq_false h7))<|ai (decide_eq_true h8)<|ai (decide_eq_false h7)<|aQ h (gq a0 a1 w1_1 (a0.N !=0) [(.b (a0.N !=0)),(.b (a0.N !=0)),(I a0.N),(.p ⟨0,2⟩ 1),(.b (decide (0<(w1_1:Int)))),(.b (decide (0<(w1_1:Int)))),(I (w1_1:Int)),(.b (decide (9999999<a0.N))),(.b (decide (9999999<a0.N))),(.b (decide (9999999<a0.N))),(.b (decide (9999999<a0.N))),(I a0.N),(.p ⟨0,2⟩ 1),(.b (decide (a0.N < -9999999))),(.b (decide (a0.N < -9999999))),(I a0.N),(.p ⟨0,2⟩ 1)]) fun x9 h=>L h) (fun h8 h=>Ig (decide_eq_false h8)<|ai (g0 (decide_eq_false h7))<|ai (decide_eq_false h8)<|ai (decide_eq_false h7)<|aQ h (gq a0 a1 w1_1 false [(.b false),.sk,.sk,.sk,(.b (decide (0<(w1_1:Int)))),(.b (decide (0<(w1_1:Int)))),(I (w1_1:Int)),(.b (decide (9999999<a0.N))),(.b (decide (9999999<a0.N))),(.b (decide (9999999<a0.N))),(.b (decide (9999999<a0.N))),(I a0.N),(.p ⟨0,2⟩ 1),(.b (decide (a0.N < -9999999))),(.b (decide (a0.N < -9999999))),(I a0.N),(.p ⟨0,2⟩ 1)]) fun x9 h=>L h)))) (fun h5 h=>ai (g1 h5)<|ai (g1 h5)<|ai (g1 h5)<|ai (g1 h5)<|ai (g1 h5)<|ai h5<|ai hf<|ai hf<|ai hf<|cb h (fun h6 h=>ai (g1 (decide_eq_true h6))<|ai (g1 (decide_eq_true h6))<|ai (rfl:Z0)<|ai (g1 (decide_eq_true h6))<|ai hf<|ai (decide_eq_true h6)<|ai ff<|aQ h (gq a0 a1 w1_1 (a0.N !=0) [(.b (a0.N !=0)),(.b (a0.N !=0)),(I a0.N),(.p ⟨0,2⟩ 1),(.b (decide (0<(w1_1:Int)))),(.b (decide (0<(w1_1:Int)))),(I (w1_1:Int)),(.b false),(.b false),.sk,.sk,.sk,.sk,.sk,.sk,.sk,.sk]) fun x7 h=>L h) (fun h6 h=>ai (g1 (decide_eq_false h6))<|ai (g1 (decide_eq_false h6))<|ai (g1 (decide_eq_false h6))<|ai hf<|ai (decide_eq_false h6)<|ai ff<|aQ h (gq a0 a1 w1_1 false [(.b false),.sk,.sk,.sk,(.b (decide (0<(w1_1:Int)))),(.b (decide (0<(w1_1:Int)))),(I (w1_1:Int)),(.b false),(.b false),.sk,.sk,.sk,.sk,.sk,.sk,.sk,.sk]) fun x7 h=>L h))
def kE(w1_1:Nat):Option (Unit⊕(Unit⊕(Unit⊕Unit))):=
 if ((a0.Args.length:Int) !=(w1_1:Int))=true then
  some (.inl ())
 else
  (mT a0 a1 w1_1).bind fun (x5:Bool)=>
  if x5=true then
   some (.inr (.inl ()))
  else
   if (a0.Kind==2)=true then
    if a0.N<0 then
     some (.inr (.inr (.inl ())))
    else
     if a1≤a0.N then
      some (.inr (.inr (.inl ())))
     else
      some (.inr (.inr (.inr ())))
   else
    some (.inr (.inr (.inr ())))
abbrev Cj(a0:aE)(a1:Int)(w1_1:Nat)(x:(Unit⊕(Unit⊕(Unit⊕Unit)))):aR×St:=match x with | .inl ()=>(.ret,⟨[(4,(I 1))],[],H0⟩) | .inr (.inl ())=>(.ret,⟨[(4,(I 3))],[],H0⟩) | .inr (.inr (.inl ()))=>(.ret,⟨[(4,(I 5))],[],H0⟩) | .inr (.inr (.inr ()))=>(.ret,⟨[(4,(I 0))],[],H0⟩)
theorem ub(w1_1:Nat)(x:(Unit⊕(Unit⊕(Unit⊕Unit))))(h:kE a0 a1 w1_1=some x):run G Ω0 E0 Kk ⟨[(1,(I a1)),(2,(.p ⟨0,2⟩ 0)),(5,(I (w1_1:Int)))],[(2,(bF a0))],H0⟩=some (Cj a0 a1 w1_1 x):=
 tc (bt<|ao (.i (a0.Args.length:Int))<|oN (.jb (some 24) 22<|.ex fun (x5:Bool)=>ao (.jn ⟨[(1,(I a1)),(2,(.p ⟨0,2⟩ 0)),(23,(.b x5))],[(2,(bF a0))],H0⟩)<|oN (bt<|.or (qE<|.or (bf<|bf<|bf<|bf<|bt<|bt<|bt<|bt<|.nil) (bt<|bt<|bt<|bt<|bt<|bt<|bf<|bt<|oN (.nil))) (MK<|.nil)))) fun L=>ai (rfl:Z0)<|ai (aL aT a0.Args)<|a8 h (fun h4 h=>ai h4<|L h) (fun h4 h=>ai h4<|aQ h (Bc a0 a1 w1_1) fun x5 h=>a8 h (fun h7 h=>ai h7<|L h) (fun h7 h=>sZ h7<|a8 h (fun h8 h=>ai (g1 h8)<|ai (g1 h8)<|ai (rfl:Z0)<|ai (g1 h8)<|ai (g1 h8)<|cb h (fun h9 h=>ai (g0 (decide_eq_true h9))<|ai (g0 (decide_eq_true h9))<|ai (g0 (decide_eq_true h9))<|ai (g0 (decide_eq_true h9))<|ai (g1 h8)<|ai (decide_eq_true h9)<|ai h8<|ai tt<|L h) (fun h9 h=>ai (g0 (decide_eq_false h9))<|ai (g0 (decide_eq_false h9))<|ai (rfl:Z0)<|ai (g0 (decide_eq_false h9))<|ai (g0 (decide_eq_false h9))<|ai (g1 h8)<|ai (decide_eq_false h9)<|ai h8<|cb h (fun h10 h=>ai (decide_eq_true h10)<|L h) (fun h10 h=>ai (decide_eq_false h10)<|L h))) (fun h8 h=>ai (g1 h8)<|ai (g1 h8)<|ai (g1 h8)<|ai (g1 h8)<|ai (g1 h8)<|ai h8<|ai ff<|L h)))
abbrev F9(a0:aE)(a1:Int)(r:Int):aW×HP:=(.ret (I r),H0)
def qF:Option Int:=
 if a0.Kind<1 then
  some 7
 else
  if 7<a0.Kind then
   some 7
  else
   if 2<a0.Kind then
    (kE a0 a1 2).bind fun (x4:(Unit⊕(Unit⊕(Unit⊕Unit))))=>match x4 with
    | .inl ya_5=>
     some 1
    | .inr (.inl yb_5)=>
     some 3
    | .inr (.inr (.inl yc_5))=>
     some 5
    | .inr (.inr (.inr yd_5))=>
     some 0
   else
    (kE a0 a1 0).bind fun (x4:(Unit⊕(Unit⊕(Unit⊕Unit))))=>match x4 with
    | .inl ya_5=>
     some 1
    | .inr (.inl yb_5)=>
     some 3
    | .inr (.inr (.inl yc_5))=>
     some 5
    | .inr (.inr (.inr yd_5))=>
     some 0
theorem Ck(r:Int)(h:qF a0 a1=some r):call G Ω0 E0 158 [(.a (bF a0)),(I a1)] H0=some (F9 a0 a1 r):=
 aK ZU (bt<|.or (ML<|.nil) (Ii<|oN (bt<|.or (bt<|.fb<|.or (.ex fun (ya_5:Unit)=>ao (.fr .ret ⟨[(4,(I 1))],[],H0⟩)<|.nil) (.or (.ex fun (yb_5:Unit)=>ao (.fr .ret ⟨[(4,(I 3))],[],H0⟩)<|.nil) (.or (.ex fun (yc_5:Unit)=>ao (.fr .ret ⟨[(4,(I 5))],[],H0⟩)<|.nil) (.ex fun (yd_5:Unit)=>ao (.fr .ret ⟨[(4,(I 0))],[],H0⟩)<|.nil)))) (bf<|.fb<|.or (.ex fun (ya_5:Unit)=>ao (.fr .ret ⟨[(4,(I 1))],[],H0⟩)<|.nil) (.or (.ex fun (yb_5:Unit)=>ao (.fr .ret ⟨[(4,(I 3))],[],H0⟩)<|.nil) (.or (.ex fun (yc_5:Unit)=>ao (.fr .ret ⟨[(4,(I 5))],[],H0⟩)<|.nil) (.ex fun (yd_5:Unit)=>ao (.fr .ret ⟨[(4,(I 0))],[],H0⟩)<|.nil))))))) fun L=>ai tt<|ai (rfl:Z0)<|cb h (fun h1 h=>ai (g0 (decide_eq_true h1))<|ai (g0 (decide_eq_true h1))<|ai (g0 (decide_eq_true h1))<|ai (decide_eq_true h1)<|ai tt<|L h) (fun h1 h=>ai (g0 (decide_eq_false h1))<|ai (g0 (decide_eq_false h1))<|ai (rfl:Z0)<|ai (g0 (decide_eq_false h1))<|ai (decide_eq_false h1)<|cb h (fun h2 h=>ai (decide_eq_true h2)<|L h) (fun h2 h=>sZ (decide_eq_false h2)<|cb h (fun h3 h=>ai (decide_eq_true h3)<|N7 h (ub a0 a1 2) (fun ya_5 h=>L h) (fun yb_5 h=>L h) (fun yc_5 h=>L h) (fun yd_5 h=>L h)) (fun h3 h=>ai (decide_eq_false h3)<|N7 h (ub a0 a1 0) (fun ya_5 h=>L h) (fun yb_5 h=>L h) (fun yc_5 h=>L h) (fun yd_5 h=>L h))))
abbrev E3(a0:aE)(a1:Int)(r:Int):aW×HP:=(.ret (I r),H0)
abbrev sN(r:Int):Prop:=call G Ω0 E0 129 [(.a (bF a0)),(I a1)] H0=some (E3 a0 a1 r)
end
structure sO where
 f_scope_parts:aE→Int→Option Int
structure rl(R:sO):Prop where
 f_scope_parts:∀ (a0:aE)(a1:Int)(r:Int),R.f_scope_parts a0 a1=some r→sN a0 a1 r
section
variable (R:sO)(a0:aE)(a1:Int)
def mU(v0_18:Nat):Option (Nat⊕(Int⊕(Nat×Bool))):=
 if (v0_18:Int)<(a0.Args.length:Int) then
  (a0.Args[v0_18]?).bind fun (y5:aE)=>
  (R.f_scope_parts y5 a1).bind fun (r7:Int)=>
  if (r7 !=0)=true then
   some (.inr (.inl r7))
  else
   if IntKind.i64.wrap ((v0_18:Int)+1)=((v0_18+1:Nat):Int) then
    some (.inl (v0_18+1))
   else none
 else
  some (.inr (.inr (v0_18,decide ((v0_18:Int)<(a0.Args.length:Int)))))
abbrev Cl(v:Nat):St:=⟨[(1,(I a1)),(16,(.l 86 (a0.Args.map aT))),(17,(I (a0.Args.length:Int))),(18,(I (v:Int)))],[],H0⟩
abbrev Cm(x:(Int⊕(Nat×Bool))):aR×St:=match x with | .inl z1=>(.ret,⟨[(4,(I z1))],[],H0⟩) | .inr (z1,z2)=>((.ex 0),⟨[(1,(I a1)),(16,(.l 86 (a0.Args.map aT))),(17,(I (a0.Args.length:Int))),(18,(I (z1:Int))),(19,(.b z2))],[],H0⟩)
theorem Bd(hR:rl R)(a0:aE)(a1:Int)(v0_18:Nat)(o:Nat⊕(Int⊕(Nat×Bool)))(h:mU R a0 a1 v0_18=some o):bI E0 J7 (Cl a0 a1) (Cm a0 a1) v0_18 o:=
 bP (.or (bt<|ao (.n v0_18)<|.ex fun (y5:aE)=>ao (.v (.a (bF y5)))<|dE<|xI fun r7=>oN (ao (.i ((v0_18+1:Nat):Int))<|.nil)) (bf<|.nil)) fun L=>cb h (fun h4 h=>ai (decide_eq_true h4)<|ai (rI v0_18)<|aP h fun y5 h6 h=>ai (iy aT h6 (eS _))<|FZ<|aQ h (hR.f_scope_parts y5 a1) fun r7 h=>a8 h (fun h9 h=>ai h9<|L h) (fun h9 h=>ai h9<|aS h fun w10 h=>ai w10<|L h)) (fun h4 h=>ai (decide_eq_false h4)<|L h)
def ob:Option Int:=
 (qF a0 a1).bind fun (r1:Int)=>
 if (r1 !=0)=true then
  some r1
 else
  (lp (fun v=>mU R a0 a1 v) 0).bind fun (x4:(Int⊕(Nat×Bool)))=>match x4 with
  | .inl ya_5=>
   some ya_5
  | .inr yb_5=>
   some 0
theorem Ay(hR:rl R)(a0:aE)(a1:Int)(r:Int)(h:ob R a0 a1=some r):sN a0 a1 r:=
 aK Zv (bt<|xI fun r1=>oN (bt<|ao (.i (a0.Args.length:Int))<|.or (.ex fun (ya_5:Int)=>ao (.lp .ret ⟨[(4,(I ya_5))],[],H0⟩)<|.nil) (.ex fun (yb_5:(Nat×Bool))=>ao (.lp (.ex 0) ⟨[(1,(I a1)),(16,(.l 86 (a0.Args.map aT))),(17,(I (a0.Args.length:Int))),(18,(I (yb_5.1:Int))),(19,(.b yb_5.2))],[],H0⟩)<|.nil))) fun L=>ai tt<|ai (rfl:Z0)<|aQ h (Ck a0 a1) fun r1 h=>a8 h (fun h3 h=>ai h3<|L h) (fun h3 h=>sZ h3<|ai (aL aT a0.Args)<|cN h (ef (Bd R hR a0 a1) 0) (fun ya_5 h=>L h) (fun yb_5 h=>L h))
def kt:Nat→sO
 | 0=>⟨fun z0 z1=>none⟩
 | n+1=>⟨ob (kt n)⟩
theorem wH:∀ n,rl (kt n)
 | 0=>⟨fun _ _ r h=>(by cases h)⟩
 | n+1=>⟨fun a0 a1 r h=>Ay _ (wH n) a0 a1 r h⟩
def sP:Option Int:=ev fun n=>(kt n).f_scope_parts a0 a1
theorem Be(r:Int)(h:sP a0 a1=some r):sN a0 a1 r:=by
 obtain ⟨n,hn⟩:=qh h
 exact (wH n).f_scope_parts a0 a1 r hn
abbrev Ga(a0:aE)(a1:Int)(r:Int):aW×HP:=(.ret (I r),H0)
def jD:Option Int:=
 (ua a0 15).bind fun (r1:Int)=>
 if 15<r1 then
  some 2
 else
  (sP a0 a1).bind fun (r4:Int)=>
  some r4
theorem qG(r:Int)(h:jD a0 a1=some r):call G Ω0 E0 90 [(.a (bF a0)),(I a1)] H0=some (Ga a0 a1 r):=
 aK G90 (bt<|xI fun r1=>oN (bt<|xI fun r4=>.nil)) fun L=>ai tt<|ai (rfl:Z0)<|aQ h (Cf a0 15) fun r1 h=>cb h (fun h3 h=>ai (decide_eq_true h3)<|L h) (fun h3 h=>sZ (decide_eq_false h3)<|aQ h (Be a0 a1) fun r4 h=>L h)
end
section
variable (a0:Bool)
abbrev Hz(a0:Bool)(r:Int):aW×HP:=(.ret (I r),H0)
def rL:Option Int:=
 if a0=true then
  some 1
 else
  some 0
theorem wI(r:Int)(h:rL a0=some r):call G Ω0 E0 130 [(.b a0)] H0=some (Hz a0 r):=
 aK Zw (oN (.nil)) fun L=>a8 h (fun h1 h=>ai h1<|L h) (fun h1 h=>ai h1<|L h)
end
section
variable (a0:aE)(a1:(List Int))
abbrev HA(a0:aE)(a1:(List Int))(r:Int):aW×HP:=(.ret (I r),H0)
abbrev vY(r:Int):Prop:=call G Ω0 E0 92 [(.a (bF a0)),(.l 3 (a1.map (I)))] H0=some (HA a0 a1 r)
end
structure rM where
 f_run_Value:aE→(List Int)→Option Int
structure uc(R:rM):Prop where
 f_run_Value:∀ (a0:aE)(a1:(List Int))(r:Int),R.f_run_Value a0 a1=some r→vY a0 a1 r
section
variable (R:rM)(a0:aE)(a1:(List Int))
def fp(R:rM)(w1_1:Int):Option Int:=
 some (IntKind.i64.wrap (IntKind.i32.wrap w1_1))
abbrev DE(w1_1:Int)(x:Int):aR×St:=(.ret,⟨[(4,(I x))],[],H0⟩)
theorem ie(hR:uc R)(w1_1:Int)(x:Int)(h:fp R w1_1=some x):run G Ω0 E0 NX ⟨[(7,(I w1_1))],[],H0⟩=some (DE w1_1 x):=
 tc (ao (.i (IntKind.i32.wrap w1_1))<|ao (.i (IntKind.i64.wrap (IntKind.i32.wrap w1_1)))<|.nil) fun L=>ai (rfl:IntKind.i32.wrap w1_1=IntKind.i32.wrap w1_1)<|ai (rfl:IntKind.i64.wrap (IntKind.i32.wrap w1_1)=IntKind.i64.wrap (IntKind.i32.wrap w1_1))<|L h
def qH:Option Int:=
 if (a0.Kind==1)=true then
  some a0.N
 else
  if (a0.Kind==2)=true then
   (cX a0.N).bind fun (j3:Nat)=>
   (a1[j3]?).bind fun (y5:Int)=>
   some y5
  else
   (a0.Args[0]?).bind fun (y3:aE)=>
   (R.f_run_Value y3 a1).bind fun (r5:Int)=>
   (a0.Args[1]?).bind fun (y7:aE)=>
   (R.f_run_Value y7 a1).bind fun (r9:Int)=>
   if (a0.Kind==3)=true then
    if IntKind.i64.wrap (r5+r9)=r5+r9 then
     (fp R (r5+r9)).bind fun (x13:Int)=>
     some x13
    else none
   else
    if (a0.Kind==4)=true then
     if IntKind.i64.wrap (r5 - r9)=r5 - r9 then
      (fp R (r5 - r9)).bind fun (x14:Int)=>
      some x14
     else none
    else
     if (a0.Kind==5)=true then
      if IntKind.i64.wrap (r5*r9)=r5*r9 then
       (fp R (r5*r9)).bind fun (x15:Int)=>
       some x15
      else none
     else
      if (a0.Kind==6)=true then
       (rL (decide (r5<r9))).bind fun (r15:Int)=>
       (fp R r15).bind fun (x17:Int)=>
       some x17
      else
       if (a0.Kind==7)=true then
        (rL (r5==r9)).bind fun (r16:Int)=>
        (fp R r16).bind fun (x18:Int)=>
        some x18
       else
        (fp R 0).bind fun (x16:Int)=>
        some x16
theorem Cn(hR:uc R)(a0:aE)(a1:(List Int))(r:Int)(h:qH R a0 a1=some r):vY a0 a1 r:=
 aK G92 (bt<|.or (du<|.nil) (bf<|.or (du<|xN fun j3=>xI fun y5=>.nil) (sg<|ao (.n 0)<|.ex fun (y3:aE)=>ao (.v (.a (bF y3)))<|xI fun r5=>bt<|ao (.n 1)<|.ex fun (y7:aE)=>ao (.v (.a (bF y7)))<|xI fun r9=>bt<|.or (bt<|ao (.i (r5+r9))<|.fb<|.ex fun (x13:Int)=>ao (.fr .ret ⟨[(4,(I x13))],[],H0⟩)<|.nil) (bf<|.or (bt<|ao (.i (r5 - r9))<|.fb<|.ex fun (x14:Int)=>ao (.fr .ret ⟨[(4,(I x14))],[],H0⟩)<|.nil) (bf<|.or (bt<|ao (.i (r5*r9))<|.fb<|.ex fun (x15:Int)=>ao (.fr .ret ⟨[(4,(I x15))],[],H0⟩)<|.nil) (bf<|.or (bt<|xI fun r15=>.fb<|.ex fun (x17:Int)=>ao (.fr .ret ⟨[(4,(I x17))],[],H0⟩)<|.nil) (bf<|.or (bt<|xI fun r16=>.fb<|.ex fun (x18:Int)=>ao (.fr .ret ⟨[(4,(I x18))],[],H0⟩)<|.nil) (bf<|.fb<|.ex fun (x16:Int)=>ao (.fr .ret ⟨[(4,(I x16))],[],H0⟩)<|.nil)))))))) fun L=>ai tt<|ai (rfl:Z0)<|a8 h (fun h1 h=>sZ h1<|L h) (fun h1 h=>ai h1<|a8 h (fun h2 h=>sZ h2<|eN h fun j3 h4 h=>ai h4<|aP h fun y5 h6 h=>ai (aD (I) h6)<|L h) (fun h2 h=>ai h2<|ai tt<|ai tt<|ai (rfl:Z0)<|ai tt<|ai (rI 0)<|aP h fun y3 h4 h=>ai (iy aT h4 (eS _))<|sf<|aQ h (hR.f_run_Value y3 a1) fun r5 h=>ai tt<|ai tt<|ai (rfl:Z0)<|ai tt<|ai (rI 1)<|aP h fun y7 h8 h=>ai (iy aT h8 (eS _))<|sf<|aQ h (hR.f_run_Value y7 a1) fun r9 h=>ai (rfl:Z0)<|a8 h (fun h11 h=>ai h11<|aS h fun w12 h=>ai w12<|aQ h (ie R hR (r5+r9)) fun x13 h=>L h) (fun h11 h=>ai h11<|a8 h (fun h12 h=>ai h12<|aS h fun w13 h=>ai w13<|aQ h (ie R hR (r5 - r9)) fun x14 h=>L h) (fun h12 h=>ai h12<|a8 h (fun h13 h=>ai h13<|aS h fun w14 h=>ai w14<|aQ h (ie R hR (r5*r9)) fun x15 h=>L h) (fun h13 h=>ai h13<|a8 h (fun h14 h=>ai h14<|aQ h (wI (decide (r5<r9))) fun r15 h=>aQ h (ie R hR r15) fun x17 h=>L h) (fun h14 h=>ai h14<|a8 h (fun h15 h=>ai h15<|aQ h (wI (r5==r9)) fun r16 h=>aQ h (ie R hR r16) fun x18 h=>L h) (fun h15 h=>ai h15<|aQ h (ie R hR 0) fun x16 h=>L h)))))))
def pw:Nat→rM
 | 0=>⟨fun z0 z1=>none⟩
 | n+1=>⟨qH (pw n)⟩
theorem y0:∀ n,uc (pw n)
 | 0=>⟨fun _ _ r h=>(by cases h)⟩
 | n+1=>⟨fun a0 a1 r h=>Cn _ (y0 n) a0 a1 r h⟩
def k9:Option Int:=ev fun n=>(pw n).f_run_Value a0 a1
theorem oc(r:Int)(h:k9 a0 a1=some r):vY a0 a1 r:=by
 obtain ⟨n,hn⟩:=qh h
 exact (y0 n).f_run_Value a0 a1 r hn
end
section
variable (a0:Int)
abbrev Gb(a0:Int)(r:Bool):aW×HP:=(.ret (.b r),H0)
def qI:Option Bool:=
 if -2147483648≤a0 then
  some (decide (a0≤2147483647))
 else
  some false
theorem Co(r:Bool)(h:qI a0=some r):call G Ω0 E0 57 [(I a0)] H0=some (Gb a0 r):=
 aK G57 (.or (dE<|.nil) (B9<|.nil)) fun L=>cb h (fun h1 h=>qD (decide_eq_true h1)<|L h) (fun h1 h=>qD (decide_eq_false h1)<|L h)
end
section
variable (a0:(List Bool))(a1:(List Bool))
def ku(v0_5:(List Bool))(v0_10:Nat):Option (((List Bool)×Nat)⊕((List Bool)×Nat×Bool)):=
 if (v0_10:Int)<(a0.length:Int) then
  (a0[v0_10]?).bind fun (y2:Bool)=>
  if y2=true then
   (a1[v0_10]?).bind fun (y5:Bool)=>
   if v0_5.length + [y5].length≤1000000000 then
    if IntKind.i64.wrap ((v0_10:Int)+1)=((v0_10+1:Nat):Int) then
     some (.inl (v0_5++[y5],v0_10+1))
    else none
   else none
  else
   if v0_5.length + [false].length≤1000000000 then
    if IntKind.i64.wrap ((v0_10:Int)+1)=((v0_10+1:Nat):Int) then
     some (.inl (v0_5++[false],v0_10+1))
    else none
   else none
 else
  some (.inr (v0_5,v0_10,decide ((v0_10:Int)<(a0.length:Int))))
abbrev E4(v:((List Bool)×Nat)):St:=⟨[(1,(.l 4 (a1.map AV.b))),(5,(.o 4 (v.1.map AV.b))),(8,(.l 4 (a0.map AV.b))),(9,(I (a0.length:Int))),(10,(I (v.2:Int)))],[],H0⟩
abbrev E5(x:((List Bool)×Nat×Bool)):aR×St:=((.ex 0),⟨[(1,(.l 4 (a1.map AV.b))),(5,(.o 4 (x.1.map AV.b))),(8,(.l 4 (a0.map AV.b))),(9,(I (a0.length:Int))),(10,(I (x.2.1:Int))),(11,(.b x.2.2))],[],H0⟩)
theorem DF(v0_5:(List Bool))(v0_10:Nat)(o:((List Bool)×Nat)⊕((List Bool)×Nat×Bool))(h:ku a0 a1 v0_5 v0_10=some o):bI E0 NP (E4 a0 a1) (E5 a0 a1) (v0_5,v0_10) o:=
 bP (.or (bt<|ao (.n v0_10)<|xB fun y2=>.or (dE<|ao (.n v0_10)<|xB fun y5=>du<|ao (.l ([y5].map AV.b))<|ao (.l ((v0_5++[y5]).map AV.b))<|ao (.i ((v0_10+1:Nat):Int))<|.nil) (bf<|bf<|bf<|bf<|bf<|ao (.l ([false].map AV.b))<|ao (.l ((v0_5++[false]).map AV.b))<|ao (.i ((v0_10+1:Nat):Int))<|.nil)) (bf<|.nil)) fun L=>cb h (fun h1 h=>ai (decide_eq_true h1)<|ai (rI v0_10)<|aP h fun y2 h3 h=>ai (aD AV.b h3)<|a8 h (fun h4 h=>Ig h4<|ai (rI v0_10)<|aP h fun y5 h6 h=>ai (aD AV.b h6)<|Ih h4<|ai (rfl:[(.b y5)]=[y5].map AV.b)<|ai ff<|aS h fun h7 h=>ai ((gi AV.b (n:=1) (fun _=>rfl) [y5]):([y5].map AV.b).all (fun e=>e.nc==1)=true)<|ai ((lh h7 (by decide)):((v0_5.map AV.b).length+([y5].map AV.b).length)*1≤140737488355328)<|ai ((lj h7):(v0_5.map AV.b).length+([y5].map AV.b).length≤maxLen)<|ai (List.map_append.symm:v0_5.map AV.b++[y5].map AV.b=(v0_5++[y5]).map AV.b)<|aS h fun w8 h=>ai w8<|L h) (fun h4 h=>ai (g1 h4)<|ai (g1 h4)<|ai (g1 h4)<|ai (g1 h4)<|ai h4<|ai (rfl:[(.b false)]=[false].map AV.b)<|ai ff<|aS h fun h5 h=>ai ((gi AV.b (n:=1) (fun _=>rfl) [false]):([false].map AV.b).all (fun e=>e.nc==1)=true)<|ai ((lh h5 (by decide)):((v0_5.map AV.b).length+([false].map AV.b).length)*1≤140737488355328)<|ai ((lj h5):(v0_5.map AV.b).length+([false].map AV.b).length≤maxLen)<|ai (List.map_append.symm:v0_5.map AV.b++[false].map AV.b=(v0_5++[false]).map AV.b)<|aS h fun w6 h=>ai w6<|L h)) (fun h1 h=>ai (decide_eq_false h1)<|L h)
abbrev HB(a0:(List Bool))(a1:(List Bool))(r:(List Bool)):aW×HP:=(.ret (.l 4 (r.map AV.b)),H0)
def rO:Option (List Bool):=
 (lp (fun v=>ku a0 a1 v.1 v.2) (([]:List Bool),0)).bind fun (x1:((List Bool)×Nat×Bool))=>
 some x1.1
theorem DG(r:(List Bool))(h:rO a0 a1=some r):call G Ω0 E0 78 [(.l 4 (a0.map AV.b)),(.l 4 (a1.map AV.b))] H0=some (HB a0 a1 r):=
 aK G78 (ao (.i (a0.length:Int))<|.ex fun (x1:((List Bool)×Nat×Bool))=>ao (.lp (.ex 0) ⟨[(1,(.l 4 (a1.map AV.b))),(5,(.o 4 (x1.1.map AV.b))),(8,(.l 4 (a0.map AV.b))),(9,(I (a0.length:Int))),(10,(I (x1.2.1:Int))),(11,(.b x1.2.2))],[],H0⟩)<|.nil) fun L=>ai (aL AV.b a0)<|aQ h (ef (fun v=>DF a0 a1 v.1 v.2) (([]:List Bool),0)) fun x1 h=>L h
def lC(v0_5:(List Bool))(v0_10:Nat):Option (((List Bool)×Nat)⊕((List Bool)×Nat×Bool)):=
 if (v0_10:Int)<(a0.length:Int) then
  (a0[v0_10]?).bind fun (y2:Bool)=>
  if y2=true then
   if v0_5.length + [true].length≤1000000000 then
    if IntKind.i64.wrap ((v0_10:Int)+1)=((v0_10+1:Nat):Int) then
     some (.inl (v0_5++[true],v0_10+1))
    else none
   else none
  else
   (a1[v0_10]?).bind fun (y5:Bool)=>
   if v0_5.length + [y5].length≤1000000000 then
    if IntKind.i64.wrap ((v0_10:Int)+1)=((v0_10+1:Nat):Int) then
     some (.inl (v0_5++[y5],v0_10+1))
    else none
   else none
 else
  some (.inr (v0_5,v0_10,decide ((v0_10:Int)<(a0.length:Int))))
abbrev Gc(v:((List Bool)×Nat)):St:=⟨[(1,(.l 4 (a1.map AV.b))),(5,(.o 4 (v.1.map AV.b))),(8,(.l 4 (a0.map AV.b))),(9,(I (a0.length:Int))),(10,(I (v.2:Int)))],[],H0⟩
abbrev Gd(x:((List Bool)×Nat×Bool)):aR×St:=((.ex 0),⟨[(1,(.l 4 (a1.map AV.b))),(5,(.o 4 (x.1.map AV.b))),(8,(.l 4 (a0.map AV.b))),(9,(I (a0.length:Int))),(10,(I (x.2.1:Int))),(11,(.b x.2.2))],[],H0⟩)
theorem E6(v0_5:(List Bool))(v0_10:Nat)(o:((List Bool)×Nat)⊕((List Bool)×Nat×Bool))(h:lC a0 a1 v0_5 v0_10=some o):bI E0 NO (Gc a0 a1) (Gd a0 a1) (v0_5,v0_10) o:=
 bP (.or (bt<|ao (.n v0_10)<|xB fun y2=>.or (EI<|ao (.l ([true].map AV.b))<|ao (.l ((v0_5++[true]).map AV.b))<|ao (.i ((v0_10+1:Nat):Int))<|.nil) (dE<|ao (.n v0_10)<|xB fun y5=>kD<|ao (.l ([y5].map AV.b))<|ao (.l ((v0_5++[y5]).map AV.b))<|ao (.i ((v0_10+1:Nat):Int))<|.nil)) (bf<|.nil)) fun L=>cb h (fun h1 h=>ai (decide_eq_true h1)<|ai (rI v0_10)<|aP h fun y2 h3 h=>ai (aD AV.b h3)<|a8 h (fun h4 h=>EH h4<|ai (rfl:[(.b true)]=[true].map AV.b)<|ai ff<|aS h fun h5 h=>ai ((gi AV.b (n:=1) (fun _=>rfl) [true]):([true].map AV.b).all (fun e=>e.nc==1)=true)<|ai ((lh h5 (by decide)):((v0_5.map AV.b).length+([true].map AV.b).length)*1≤140737488355328)<|ai ((lj h5):(v0_5.map AV.b).length+([true].map AV.b).length≤maxLen)<|ai (List.map_append.symm:v0_5.map AV.b++[true].map AV.b=(v0_5++[true]).map AV.b)<|aS h fun w6 h=>ai w6<|L h) (fun h4 h=>EG h4<|ai (rI v0_10)<|aP h fun y5 h6 h=>ai (aD AV.b h6)<|tU h4<|ai (rfl:[(.b y5)]=[y5].map AV.b)<|ai ff<|aS h fun h7 h=>ai ((gi AV.b (n:=1) (fun _=>rfl) [y5]):([y5].map AV.b).all (fun e=>e.nc==1)=true)<|ai ((lh h7 (by decide)):((v0_5.map AV.b).length+([y5].map AV.b).length)*1≤140737488355328)<|ai ((lj h7):(v0_5.map AV.b).length+([y5].map AV.b).length≤maxLen)<|ai (List.map_append.symm:v0_5.map AV.b++[y5].map AV.b=(v0_5++[y5]).map AV.b)<|aS h fun w8 h=>ai w8<|L h)) (fun h1 h=>ai (decide_eq_false h1)<|L h)
abbrev Jq(a0:(List Bool))(a1:(List Bool))(r:(List Bool)):aW×HP:=(.ret (.l 4 (r.map AV.b)),H0)
def td:Option (List Bool):=
 (lp (fun v=>lC a0 a1 v.1 v.2) (([]:List Bool),0)).bind fun (x1:((List Bool)×Nat×Bool))=>
 some x1.1
theorem E7(r:(List Bool))(h:td a0 a1=some r):call G Ω0 E0 77 [(.l 4 (a0.map AV.b)),(.l 4 (a1.map AV.b))] H0=some (Jq a0 a1 r):=
 aK G77 (ao (.i (a0.length:Int))<|.ex fun (x1:((List Bool)×Nat×Bool))=>ao (.lp (.ex 0) ⟨[(1,(.l 4 (a1.map AV.b))),(5,(.o 4 (x1.1.map AV.b))),(8,(.l 4 (a0.map AV.b))),(9,(I (a0.length:Int))),(10,(I (x1.2.1:Int))),(11,(.b x1.2.2))],[],H0⟩)<|.nil) fun L=>ai (aL AV.b a0)<|aQ h (ef (fun v=>E6 a0 a1 v.1 v.2) (([]:List Bool),0)) fun x1 h=>L h
end
section
variable (a0:Level)(a1:Level)
abbrev Ge(a0:Level)(a1:Level)(r:Level):aW×HP:=(.ret (.a [(.l 4 (r.Readers.map AV.b)),(.l 4 (r.Writers.map AV.b))]),H0)
def jE:Option Level:=
 (rO a0.Readers a1.Readers).bind fun (r1:(List Bool))=>
 (td a0.Writers a1.Writers).bind fun (r3:(List Bool))=>
 some (⟨r1,r3⟩:Level)
theorem mV(r:Level)(h:jE a0 a1=some r):call G Ω0 E0 62 [(.a [(.l 4 (a0.Readers.map AV.b)),(.l 4 (a0.Writers.map AV.b))]),(.a [(.l 4 (a1.Readers.map AV.b)),(.l 4 (a1.Writers.map AV.b))])] H0=some (Ge a0 a1 r):=
 aK G62 (du<|.ex fun (r1:(List Bool))=>ao (.v (.l 4 (r1.map AV.b)))<|du<|.ex fun (r3:(List Bool))=>ao (.v (.l 4 (r3.map AV.b)))<|du<|.nil) fun L=>ai tt<|ai tt<|ai tt<|ai tt<|ai tt<|ai (rfl:Z0)<|ai tt<|ai tt<|ai (rfl:Z0)<|ai tt<|aQ h (DG a0.Readers a1.Readers) fun r1 h=>ai tt<|ai tt<|ai (rfl:Z0)<|ai tt<|ai tt<|ai (rfl:Z0)<|ai tt<|aQ h (E7 a0.Writers a1.Writers) fun r3 h=>Ji<|L h
end
section
variable (a0:ah)
abbrev DH(a0:ah)(r:Level):aW×HP:=(.ret (.a [(.l 4 (r.Readers.map AV.b)),(.l 4 (r.Writers.map AV.b))]),H0)
def jw:Option Level:=
 (Jh true a0.Many).bind fun (r1:(List Bool))=>
 (cX a0.Many).bind fun (j3:Nat)=>
 if j3≤1000000000 then
  some (⟨r1,List.replicate j3 false⟩:Level)
 else none
theorem oU(r:Level)(h:jw a0=some r):call G Ω0 E0 21 [(.a [(I a0.Many),(.l 136 (a0.Grants.map aF))])] H0=some (DH a0 r):=
 aK G21 (ao (.l ([true].map AV.b))<|bt<|.ex fun (r1:(List Bool))=>ao (.v (.l 4 (r1.map AV.b)))<|bt<|xN fun j3=>ao (.l ((List.replicate j3 false).map AV.b))<|du<|.nil) fun L=>sf<|ai (rfl:[(.b true)]=[true].map AV.b)<|ai tt<|ai tt<|ai (rfl:Z0)<|ai tt<|aP h fun r1 ek2 h=>have ek2:Ω0 59 [(.l 4 ([true].map AV.b)),(I a0.Many)]=some (.l 4 (r1.map AV.b)):=OO ek2;ai ek2<|ai tt<|ai tt<|ai (rfl:Z0)<|ai tt<|eN h fun j3 h4 h=>ai h4<|aS h fun h5 h=>ai ((B4 h5 (by decide)):j3*1≤140737488355328)<|ai ((B5 h5):j3≤maxLen)<|ai ((List.map_replicate ..).symm:List.replicate j3 (.b false)=(List.replicate j3 false).map AV.b)<|FZ<|L h
end
section
variable (dp:Nat)(hp:HP)(k0:Key)(a0:Int)
abbrev wJ(dp:Nat)(hp:HP)(k0:Key)(k1:Key)(a0:Int)(c0:Unit)(c1:aw)(a1:Int)(r:(Bool×Unit)):aW×HP:=(.ret (.b r.1),ad (ad hp k0 [(.p k1 0)]) k1 (ar c1))
def lD(c0:Unit)(c1:aw)(a1:Int):Option (Bool×Unit):=
 (cX a0).bind fun (j1:Nat)=>
 (c1.iB[j1]?).bind fun (y3:(List Bool))=>
 (cX a1).bind fun (j5:Nat)=>
 (y3[j5]?).bind fun (y7:Bool)=>
 some (y7,())
theorem ud(hk_k0:k0.dp<dp)(k1:Key)(hk_k1:k1.dp<dp)(hn_k0_k1:k0≠k1)(hz:aN dp hp)(a0:Int)(c0:Unit)(c1:aw)(a1:Int)(r:(Bool×Unit))(h:lD a0 c0 c1 a1=some r):call G Ω0 ⟨dp,false⟩ 176 [(I a0),(.p k0 0),(.e (I a1) 0)] (ad (ad hp k0 [(.p k1 0)]) k1 (ar c1))=some (wJ dp hp k0 k1 a0 c0 c1 a1 r):=
 aK Z7 (bf<|ao (.l [(.p k1 0)])<|bf<|ao (.l (ar c1))<|xN fun j1=>.ex fun (y3:(List Bool))=>ao (.v (.l 4 (y3.map AV.b)))<|xN fun j5=>xB fun y7=>.nil) fun L=>ai tt<|ai (Nat.ne_of_lt hk_k0)<|ai (FX hn_k0_k1:(ad (ad hp k0 [(.p k1 0)]) k1 (ar c1)) k0=some [(.p k1 0)])<|sf<|ai (Nat.ne_of_lt hk_k1)<|ai (aG (ad hp k0 [(.p k1 0)]) k1 (ar c1))<|cF<|eN h fun j1 h2 h=>ai h2<|aP h fun y3 h4 h=>ai (aD (bD 4 AV.b) h4)<|sf<|eN h fun j5 h6 h=>ai h6<|aP h fun y7 h8 h=>ai (aD AV.b h8)<|L h
end
section
variable (a0:(List Int))(c1:aw)(a1:Int)(dp:Nat)(hp:HP)(k0:Key)
def cI(v0_8:Nat):Option (Nat⊕(Nat⊕(Nat×Bool))):=
 if (v0_8:Int)<(a0.length:Int) then
  (a0[v0_8]?).bind fun (y2:Int)=>
  (lD y2 () c1 a1).bind fun (r4:(Bool×Unit))=>
  if r4.1=true then
   some (.inr (.inl v0_8))
  else
   if IntKind.i64.wrap ((v0_8:Int)+1)=((v0_8+1:Nat):Int) then
    some (.inl (v0_8+1))
   else none
 else
  some (.inr (.inr (v0_8,decide ((v0_8:Int)<(a0.length:Int)))))
abbrev lT(dp:Nat)(hp:HP)(k0:Key)(k1:Key)(a0:(List Int))(c1:aw)(a1:Int)(v:Nat):St:=⟨[(0,(.l 3 (a0.map (I)))),(1,(.f 176 [(.p k0 0),(.e (I a1) 0)])),(7,(I (a0.length:Int))),(8,(I (v:Int)))],[],ad (ad hp k0 [(.p k1 0)]) k1 (ar c1)⟩
abbrev lU(dp:Nat)(hp:HP)(k0:Key)(k1:Key)(a0:(List Int))(c1:aw)(a1:Int)(x:(Nat⊕(Nat×Bool))):aR×St:=match x with | .inl z1=>(.ret,⟨[(4,(I (z1:Int)))],[],ad (ad hp k0 [(.p k1 0)]) k1 (ar c1)⟩) | .inr (z1,z2)=>((.ex 0),⟨[(0,(.l 3 (a0.map (I)))),(1,(.f 176 [(.p k0 0),(.e (I a1) 0)])),(7,(I (a0.length:Int))),(8,(I (z1:Int))),(9,(.b z2))],[],ad (ad hp k0 [(.p k1 0)]) k1 (ar c1)⟩)
theorem lE(hk_k0:k0.dp<dp)(k1:Key)(hk_k1:k1.dp<dp)(hn_k0_k1:k0≠k1)(hz:aN dp hp)(a0:(List Int))(c1:aw)(a1:Int)(v0_8:Nat)(o:Nat⊕(Nat⊕(Nat×Bool)))(h:cI a0 c1 a1 v0_8=some o):bI ⟨dp,false⟩ z8 (lT dp hp k0 k1 a0 c1 a1) (lU dp hp k0 k1 a0 c1 a1) v0_8 o:=
 bP (.or (bt<|ao (.n v0_8)<|xI fun y2=>.ex fun (r4:(Bool×Unit))=>ao (.v (.b r4.1))<|ao (.h (boxes dp [] (ad (ad hp k0 [(.p k1 0)]) k1 (ar c1))))<|ao (.bx [])<|ao (.h (ad (ad hp k0 [(.p k1 0)]) k1 (ar c1)))<|oN (ao (.i ((v0_8+1:Nat):Int))<|.nil)) (bf<|.nil)) fun L=>cb h (fun h1 h=>ai (decide_eq_true h1)<|ai (rI v0_8)<|aP h fun y2 h3 h=>ai (aD (I) h3)<|eY<|aP h fun r4 ek5 h=>have ek5:=N5 hk_k0 hk_k1 hn_k0_k1 (ud (dp+1) (boxes dp [] (ad (ad hp k0 [(.p k1 0)]) k1 (ar c1))) k0 (Nat.lt_succ_of_lt hk_k0) k1 (Nat.lt_succ_of_lt hk_k1) (hn_k0_k1) (az (ab hk_k1 (ab hk_k0 (hz)))) y2 () c1 a1 _ ek5);ai ek5<|ai (cL ek5 (by kernel_rfl) (by kernel_rfl))<|ai (cM ek5 (ab hk_k1 (ab hk_k0 (hz))))<|a8 h (fun h6 h=>ai h6<|L h) (fun h6 h=>ai h6<|aS h fun w7 h=>ai w7<|L h)) (fun h1 h=>ai (decide_eq_false h1)<|L h)
abbrev mw(dp:Nat)(hp:HP)(k0:Key)(k1:Key)(a0:(List Int))(c0:Unit)(c1:aw)(a1:Int)(r:(Int×Unit)):aW×HP:=(.ret (I r.1),ad (ad hp k0 [(.p k1 0)]) k1 (ar c1))
def dO(c0:Unit)(c1:aw)(a1:Int):Option (Int×Unit):=
 (lp (fun v=>cI a0 c1 a1 v) 0).bind fun (x1:(Nat⊕(Nat×Bool)))=>match x1 with
 | .inl ya_2=>
  some ((ya_2:Int),())
 | .inr yb_2=>
  some ((-1),())
theorem lF(hk_k0:k0.dp<dp)(k1:Key)(hk_k1:k1.dp<dp)(hn_k0_k1:k0≠k1)(hz:aN dp hp)(a0:(List Int))(c0:Unit)(c1:aw)(a1:Int)(r:(Int×Unit))(h:dO a0 c0 c1 a1=some r):call G Ω0 ⟨dp,false⟩ 98 [(.l 3 (a0.map (I))),(.f 176 [(.p k0 0),(.e (I a1) 0)])] (ad (ad hp k0 [(.p k1 0)]) k1 (ar c1))=some (mw dp hp k0 k1 a0 c0 c1 a1 r):=
 aK Ko (ao (.i (a0.length:Int))<|.or (.ex fun (ya_2:Nat)=>ao (.lp .ret ⟨[(4,(I (ya_2:Int)))],[],ad (ad hp k0 [(.p k1 0)]) k1 (ar c1)⟩)<|.nil) (.ex fun (yb_2:(Nat×Bool))=>ao (.lp (.ex 0) ⟨[(0,(.l 3 (a0.map (I)))),(1,(.f 176 [(.p k0 0),(.e (I a1) 0)])),(7,(I (a0.length:Int))),(8,(I (yb_2.1:Int))),(9,(.b yb_2.2))],[],ad (ad hp k0 [(.p k1 0)]) k1 (ar c1)⟩)<|.nil)) fun L=>ai (aL (I) a0)<|cN h (ef (lE dp hp k0 hk_k0 k1 hk_k1 hn_k0_k1 hz a0 c1 a1) 0) (fun ya_2 h=>L h) (fun yb_2 h=>L h)
abbrev lG(dp:Nat)(hp:HP)(k0:Key)(k1:Key)(a0:(List Int))(c0:Unit)(c1:aw)(a1:Int)(r:(Bool×Unit)):aW×HP:=(.ret (.b r.1),ad (ad hp k0 [(.p k1 0)]) k1 (ar c1))
def dx(c0:Unit)(c1:aw)(a1:Int):Option (Bool×Unit):=
 (dO a0 () c1 a1).bind fun (r1:(Int×Unit))=>
 some ((decide (0≤r1.1)),())
theorem kF(hk_k0:k0.dp<dp)(k1:Key)(hk_k1:k1.dp<dp)(hn_k0_k1:k0≠k1)(hz:aN dp hp)(a0:(List Int))(c0:Unit)(c1:aw)(a1:Int)(r:(Bool×Unit))(h:dx a0 c0 c1 a1=some r):call G Ω0 ⟨dp,false⟩ 55 [(.l 3 (a0.map (I))),(.f 176 [(.p k0 0),(.e (I a1) 0)])] (ad (ad hp k0 [(.p k1 0)]) k1 (ar c1))=some (lG dp hp k0 k1 a0 c0 c1 a1 r):=
 aK Kn (.ex fun (r1:(Int×Unit))=>ao (.v (I r1.1))<|ao (.h (boxes dp [] (ad (ad hp k0 [(.p k1 0)]) k1 (ar c1))))<|ao (.bx [])<|ao (.h (ad (ad hp k0 [(.p k1 0)]) k1 (ar c1)))<|.nil) fun L=>eY<|aP h fun r1 ek2 h=>have ek2:=N5 hk_k0 hk_k1 hn_k0_k1 (lF (dp+1) (boxes dp [] (ad (ad hp k0 [(.p k1 0)]) k1 (ar c1))) k0 (Nat.lt_succ_of_lt hk_k0) k1 (Nat.lt_succ_of_lt hk_k1) (hn_k0_k1) (az (ab hk_k1 (ab hk_k0 (hz)))) a0 () c1 a1 _ ek2);ai ek2<|ai (cL ek2 (by kernel_rfl) (by kernel_rfl))<|ai (cM ek2 (ab hk_k1 (ab hk_k0 (hz))))<|L h
end
section
variable (dp:Nat)(hp:HP)(k0:Key)(c0:aw)(a0:Int)
abbrev yD(dp:Nat)(hp:HP)(k0:Key)(c0:aw)(a0:Int)(r:Bool):aW×HP:=(.ret (.b r),ad hp k0 (ar c0))
def kh:Option Bool:=
 (dx c0.p.Speak () c0 a0).bind fun (r1:(Bool×Unit))=>
 some r1.1
theorem vZ(hk_k0:k0.dp<dp)(hz:aN dp hp)(c0:aw)(a0:Int)(r:Bool)(h:kh c0 a0=some r):call G Ω0 ⟨dp,false⟩ 175 [(.p k0 0),(I a0)] (ad hp k0 (ar c0))=some (yD dp hp k0 c0 a0 r):=
 aK Z6 (kD<|ao (.l (ar c0))<|.ex fun (r1:(Bool×Unit))=>ao (.v (.b r1.1))<|ao (.h (boxes dp [(2,[(.p k0 0)])] (ad hp k0 (ar c0))))<|ao (.bx [(2,[(.p k0 0)])])<|ao (.h (ad hp k0 (ar c0)))<|.nil) fun L=>ai ((by simp [AV.aI,AV.aJ,AV.deep,AV.bn,aj hk_k0,Nat.le_of_lt hk_k0]):(((.p k0 0):AV).deep dp&&(([(0,(.p k0 0)),(1,(I a0))]:List (Nat×AV)).all (fun y=>y.2.aI ⟨dp,2⟩)&&([]:List (Nat×List AV)).all (fun y=>AV.aJ ⟨dp,2⟩ y.2)))=true)<|ai ((by simp [AV.aI,AV.aJ,AV.deep,AV.bn,aj hk_k0,Nat.le_of_lt hk_k0]):(((I a0):AV).deep dp&&(([(2,(.p ⟨dp,2⟩ 0)),(0,(.p k0 0)),(1,(I a0))]:List (Nat×AV)).all (fun y=>y.2.aI ⟨dp,3⟩)&&([(2,[(.p k0 0)])]:List (Nat×List AV)).all (fun y=>AV.aJ ⟨dp,3⟩ y.2)))=true)<|ai (rN dp)<|ai (rN dp)<|ai (Nat.ne_of_lt hk_k0)<|ai (aG hp k0 (ar c0))<|ai ff<|ai ((by simp [AV.deep,AV.bn,Nat.le_of_lt hk_k0]):([(2,[(.p k0 0)])]:List (Nat×List AV)).all (fun y=>AV.bn dp y.2)=true)<|aP h fun r1 ek2 h=>have ek2:call G Ω0 ⟨dp+1,false⟩ 55 [(.l 3 (c0.p.Speak.map (I))),(.f 176 [(.p ⟨dp,2⟩ 0),(.e (I a0) 0)])] (boxes dp [(2,[(.p k0 0)])] (ad hp k0 (ar c0)))=some (.ret (.b r1.1),boxes dp [(2,[(.p k0 0)])] (ad hp k0 (ar c0))):=cT (fj (cz (bx1:=[(2,[(.p k0 0)])]) (by kernel_rfl) (by kernel_rfl)) (bN (hp1:=ad hp k0 (ar c0)) (Nat.ne_of_lt hk_k0) (bh ..))) (fj (cz (bx1:=[(2,[(.p k0 0)])]) (by kernel_rfl) (by kernel_rfl)) (bN (hp1:=ad hp k0 (ar c0)) (Nat.ne_of_lt hk_k0) (bh ..))) (kF (dp+1) (boxes dp [(2,[(.p k0 0)])] (ad hp k0 (ar c0))) ⟨dp,2⟩ (Nat.lt_succ_self dp) k0 (Nat.lt_succ_of_lt hk_k0) (Dx hk_k0) (az (ab hk_k0 (hz))) c0.p.Speak () c0 a0 _ ek2);ai ek2<|ai (cL ek2 (by kernel_rfl) (by kernel_rfl))<|ai (cM ek2 (ab hk_k0 (hz)))<|L h
end
section
variable (dp:Nat)(hp:HP)(k0:Key)(a0:bC)
abbrev wK(dp:Nat)(hp:HP)(k0:Key)(k1:Key)(a0:bC)(c0:Unit)(c1:aw)(r:(Bool×Unit)):aW×HP:=(.ret (.b r.1),ad (ad hp k0 [(.p k1 0)]) k1 (ar c1))
def lH(c0:Unit)(c1:aw):Option (Bool×Unit):=
 (kh c1 a0.Owner).bind fun (r1:Bool)=>
 some ((!r1),())
theorem ue(hk_k0:k0.dp<dp)(k1:Key)(hk_k1:k1.dp<dp)(hn_k0_k1:k0≠k1)(hz:aN dp hp)(a0:bC)(c0:Unit)(c1:aw)(r:(Bool×Unit))(h:lH a0 c0 c1=some r):call G Ω0 ⟨dp,false⟩ 174 [(.a [(I a0.Owner),(.l 3 (a0.Names.map (I)))]),(.p k0 0)] (ad (ad hp k0 [(.p k1 0)]) k1 (ar c1))=some (wK dp hp k0 k1 a0 c0 c1 r):=
 aK Z5 (bf<|ao (.l [(.p k1 0)])<|bt<|xB fun r1=>ao (.h (boxes dp [(2,[(I a0.Owner),(.l 3 (a0.Names.map (I)))])] (ad (ad hp k0 [(.p k1 0)]) k1 (ar c1))))<|ao (.bx [(2,[(I a0.Owner),(.l 3 (a0.Names.map (I)))])])<|ao (.h (ad (ad hp k0 [(.p k1 0)]) k1 (ar c1)))<|.nil) fun L=>ai ((by simp [AV.aI,AV.aJ,AV.deep,AV.bn,aj hk_k0,Nat.le_of_lt hk_k0,aj hk_k1,Nat.le_of_lt hk_k1]):(((.a [(I a0.Owner),(.l 3 (a0.Names.map (I)))]):AV).deep dp&&(([(0,(.a [(I a0.Owner),(.l 3 (a0.Names.map (I)))])),(1,(.p k0 0))]:List (Nat×AV)).all (fun y=>y.2.aI ⟨dp,2⟩)&&([]:List (Nat×List AV)).all (fun y=>AV.aJ ⟨dp,2⟩ y.2)))=true)<|ai (Nat.ne_of_lt hk_k0)<|ai (FX hn_k0_k1:(ad (ad hp k0 [(.p k1 0)]) k1 (ar c1)) k0=some [(.p k1 0)])<|ai (rN dp)<|eY<|aP h fun r1 ek2 h=>have ek2:call G Ω0 ⟨dp+1,false⟩ 175 [(.p k1 0),(I a0.Owner)] (boxes dp [(2,[(I a0.Owner),(.l 3 (a0.Names.map (I)))])] (ad (ad hp k0 [(.p k1 0)]) k1 (ar c1)))=some (.ret (.b r1),boxes dp [(2,[(I a0.Owner),(.l 3 (a0.Names.map (I)))])] (ad (ad hp k0 [(.p k1 0)]) k1 (ar c1))):=cT (bN (hp1:=ad (ad hp k0 [(.p k1 0)]) k1 (ar c1)) (Nat.ne_of_lt hk_k1) (bh ..)) (bN (hp1:=ad (ad hp k0 [(.p k1 0)]) k1 (ar c1)) (Nat.ne_of_lt hk_k1) (bh ..)) (vZ (dp+1) (boxes dp [(2,[(I a0.Owner),(.l 3 (a0.Names.map (I)))])] (ad (ad hp k0 [(.p k1 0)]) k1 (ar c1))) k1 (Nat.lt_succ_of_lt hk_k1) (az (ab hk_k1 (ab hk_k0 (hz)))) c1 a0.Owner _ ek2);ai ek2<|ai (cL ek2 (by kernel_rfl) (by kernel_rfl))<|ai (cM ek2 (ab hk_k1 (ab hk_k0 (hz))))<|L h
end
section
variable (a0:(List bC))(c1:aw)(dp:Nat)(hp:HP)(k0:Key)
def cJ(v0_8:Nat):Option (Nat⊕(Nat⊕(Nat×Bool))):=
 if (v0_8:Int)<(a0.length:Int) then
  (a0[v0_8]?).bind fun (y2:bC)=>
  (lH y2 () c1).bind fun (r4:(Bool×Unit))=>
  if r4.1=true then
   some (.inr (.inl v0_8))
  else
   if IntKind.i64.wrap ((v0_8:Int)+1)=((v0_8+1:Nat):Int) then
    some (.inl (v0_8+1))
   else none
 else
  some (.inr (.inr (v0_8,decide ((v0_8:Int)<(a0.length:Int)))))
abbrev lV(dp:Nat)(hp:HP)(k0:Key)(k1:Key)(a0:(List bC))(c1:aw)(v:Nat):St:=⟨[(0,(.l 134 (a0.map a7))),(1,(.f 174 [(.p k0 0)])),(7,(I (a0.length:Int))),(8,(I (v:Int)))],[],ad (ad hp k0 [(.p k1 0)]) k1 (ar c1)⟩
abbrev lW(dp:Nat)(hp:HP)(k0:Key)(k1:Key)(a0:(List bC))(c1:aw)(x:(Nat⊕(Nat×Bool))):aR×St:=match x with | .inl z1=>(.ret,⟨[(4,(I (z1:Int)))],[],ad (ad hp k0 [(.p k1 0)]) k1 (ar c1)⟩) | .inr (z1,z2)=>((.ex 0),⟨[(0,(.l 134 (a0.map a7))),(1,(.f 174 [(.p k0 0)])),(7,(I (a0.length:Int))),(8,(I (z1:Int))),(9,(.b z2))],[],ad (ad hp k0 [(.p k1 0)]) k1 (ar c1)⟩)
theorem lI(hk_k0:k0.dp<dp)(k1:Key)(hk_k1:k1.dp<dp)(hn_k0_k1:k0≠k1)(hz:aN dp hp)(a0:(List bC))(c1:aw)(v0_8:Nat)(o:Nat⊕(Nat⊕(Nat×Bool)))(h:cJ a0 c1 v0_8=some o):bI ⟨dp,false⟩ FI (lV dp hp k0 k1 a0 c1) (lW dp hp k0 k1 a0 c1) v0_8 o:=
 bP (.or (bt<|ao (.n v0_8)<|.ex fun (y2:bC)=>ao (.v (.a [(I y2.Owner),(.l 3 (y2.Names.map (I)))]))<|.ex fun (r4:(Bool×Unit))=>ao (.v (.b r4.1))<|ao (.h (boxes dp [] (ad (ad hp k0 [(.p k1 0)]) k1 (ar c1))))<|ao (.bx [])<|ao (.h (ad (ad hp k0 [(.p k1 0)]) k1 (ar c1)))<|oN (ao (.i ((v0_8+1:Nat):Int))<|.nil)) (bf<|.nil)) fun L=>cb h (fun h1 h=>ai (decide_eq_true h1)<|ai (rI v0_8)<|aP h fun y2 h3 h=>ai (aD a7 h3)<|eY<|aP h fun r4 ek5 h=>have ek5:=N5 hk_k0 hk_k1 hn_k0_k1 (ue (dp+1) (boxes dp [] (ad (ad hp k0 [(.p k1 0)]) k1 (ar c1))) k0 (Nat.lt_succ_of_lt hk_k0) k1 (Nat.lt_succ_of_lt hk_k1) (hn_k0_k1) (az (ab hk_k1 (ab hk_k0 (hz)))) y2 () c1 _ ek5);ai ek5<|ai (cL ek5 (by kernel_rfl) (by kernel_rfl))<|ai (cM ek5 (ab hk_k1 (ab hk_k0 (hz))))<|a8 h (fun h6 h=>ai h6<|L h) (fun h6 h=>ai h6<|aS h fun w7 h=>ai w7<|L h)) (fun h1 h=>ai (decide_eq_false h1)<|L h)
abbrev mx(dp:Nat)(hp:HP)(k0:Key)(k1:Key)(a0:(List bC))(c0:Unit)(c1:aw)(r:(Int×Unit)):aW×HP:=(.ret (I r.1),ad (ad hp k0 [(.p k1 0)]) k1 (ar c1))
def dP(c0:Unit)(c1:aw):Option (Int×Unit):=
 (lp (fun v=>cJ a0 c1 v) 0).bind fun (x1:(Nat⊕(Nat×Bool)))=>match x1 with
 | .inl ya_2=>
  some ((ya_2:Int),())
 | .inr yb_2=>
  some ((-1),())
theorem lJ(hk_k0:k0.dp<dp)(k1:Key)(hk_k1:k1.dp<dp)(hn_k0_k1:k0≠k1)(hz:aN dp hp)(a0:(List bC))(c0:Unit)(c1:aw)(r:(Int×Unit))(h:dP a0 c0 c1=some r):call G Ω0 ⟨dp,false⟩ 125 [(.l 134 (a0.map a7)),(.f 174 [(.p k0 0)])] (ad (ad hp k0 [(.p k1 0)]) k1 (ar c1))=some (mx dp hp k0 k1 a0 c0 c1 r):=
 aK Sx (ao (.i (a0.length:Int))<|.or (.ex fun (ya_2:Nat)=>ao (.lp .ret ⟨[(4,(I (ya_2:Int)))],[],ad (ad hp k0 [(.p k1 0)]) k1 (ar c1)⟩)<|.nil) (.ex fun (yb_2:(Nat×Bool))=>ao (.lp (.ex 0) ⟨[(0,(.l 134 (a0.map a7))),(1,(.f 174 [(.p k0 0)])),(7,(I (a0.length:Int))),(8,(I (yb_2.1:Int))),(9,(.b yb_2.2))],[],ad (ad hp k0 [(.p k1 0)]) k1 (ar c1)⟩)<|.nil)) fun L=>ai (aL a7 a0)<|cN h (ef (lI dp hp k0 hk_k0 k1 hk_k1 hn_k0_k1 hz a0 c1) 0) (fun ya_2 h=>L h) (fun yb_2 h=>L h)
abbrev lK(dp:Nat)(hp:HP)(k0:Key)(k1:Key)(a0:(List bC))(c0:Unit)(c1:aw)(r:(Bool×Unit)):aW×HP:=(.ret (.b r.1),ad (ad hp k0 [(.p k1 0)]) k1 (ar c1))
def dy(c0:Unit)(c1:aw):Option (Bool×Unit):=
 (dP a0 () c1).bind fun (r1:(Int×Unit))=>
 some ((decide (0≤r1.1)),())
theorem kG(hk_k0:k0.dp<dp)(k1:Key)(hk_k1:k1.dp<dp)(hn_k0_k1:k0≠k1)(hz:aN dp hp)(a0:(List bC))(c0:Unit)(c1:aw)(r:(Bool×Unit))(h:dy a0 c0 c1=some r):call G Ω0 ⟨dp,false⟩ 84 [(.l 134 (a0.map a7)),(.f 174 [(.p k0 0)])] (ad (ad hp k0 [(.p k1 0)]) k1 (ar c1))=some (lK dp hp k0 k1 a0 c0 c1 r):=
 aK YO (.ex fun (r1:(Int×Unit))=>ao (.v (I r1.1))<|ao (.h (boxes dp [] (ad (ad hp k0 [(.p k1 0)]) k1 (ar c1))))<|ao (.bx [])<|ao (.h (ad (ad hp k0 [(.p k1 0)]) k1 (ar c1)))<|.nil) fun L=>eY<|aP h fun r1 ek2 h=>have ek2:=N5 hk_k0 hk_k1 hn_k0_k1 (lJ (dp+1) (boxes dp [] (ad (ad hp k0 [(.p k1 0)]) k1 (ar c1))) k0 (Nat.lt_succ_of_lt hk_k0) k1 (Nat.lt_succ_of_lt hk_k1) (hn_k0_k1) (az (ab hk_k1 (ab hk_k0 (hz)))) a0 () c1 _ ek2);ai ek2<|ai (cL ek2 (by kernel_rfl) (by kernel_rfl))<|ai (cM ek2 (ab hk_k1 (ab hk_k0 (hz))))<|L h
end
section
variable (dp:Nat)(hp:HP)(k0:Key)(c0:aw)(a0:(List bC))
abbrev qZ(dp:Nat)(hp:HP)(k0:Key)(c0:aw)(a0:(List bC))(r:Bool):aW×HP:=(.ret (.b r),ad hp k0 (ar c0))
abbrev q6(r:Bool):Prop:=call G Ω0 ⟨dp,false⟩ 171 [(.p k0 0),(.l 134 (a0.map a7))] (ad hp k0 (ar c0))=some (qZ dp hp k0 c0 a0 r)
def dS:Option Bool:=
 (dy a0 () c0).bind fun (r1:(Bool×Unit))=>
 some (!r1.1)
theorem v7(hk_k0:k0.dp<dp)(hz:aN dp hp)(c0:aw)(a0:(List bC))(r:Bool)(h:dS c0 a0=some r):q6 dp hp k0 c0 a0 r:=
 aK Z4 (.ex fun (r1:(Bool×Unit))=>ao (.v (.b r1.1))<|ao (.h (boxes dp [(2,[(.p k0 0)])] (ad hp k0 (ar c0))))<|ao (.bx [(2,[(.p k0 0)])])<|ao (.h (ad hp k0 (ar c0)))<|.nil) fun L=>ai ((by simp [AV.aI,AV.aJ,AV.deep,AV.bn,aj hk_k0,Nat.le_of_lt hk_k0]):(((.p k0 0):AV).deep dp&&(([(0,(.p k0 0)),(1,(.l 134 (a0.map a7)))]:List (Nat×AV)).all (fun y=>y.2.aI ⟨dp,2⟩)&&([]:List (Nat×List AV)).all (fun y=>AV.aJ ⟨dp,2⟩ y.2)))=true)<|ai ff<|ai ((by simp [AV.deep,AV.bn,Nat.le_of_lt hk_k0]):([(2,[(.p k0 0)])]:List (Nat×List AV)).all (fun y=>AV.bn dp y.2)=true)<|aP h fun r1 ek2 h=>have ek2:call G Ω0 ⟨dp+1,false⟩ 84 [(.l 134 (a0.map a7)),(.f 174 [(.p ⟨dp,2⟩ 0)])] (boxes dp [(2,[(.p k0 0)])] (ad hp k0 (ar c0)))=some (.ret (.b r1.1),boxes dp [(2,[(.p k0 0)])] (ad hp k0 (ar c0))):=cT (fj (cz (bx1:=[(2,[(.p k0 0)])]) (by kernel_rfl) (by kernel_rfl)) (bN (hp1:=ad hp k0 (ar c0)) (Nat.ne_of_lt hk_k0) (bh ..))) (fj (cz (bx1:=[(2,[(.p k0 0)])]) (by kernel_rfl) (by kernel_rfl)) (bN (hp1:=ad hp k0 (ar c0)) (Nat.ne_of_lt hk_k0) (bh ..))) (kG (dp+1) (boxes dp [(2,[(.p k0 0)])] (ad hp k0 (ar c0))) ⟨dp,2⟩ (Nat.lt_succ_self dp) k0 (Nat.lt_succ_of_lt hk_k0) (Dx hk_k0) (az (ab hk_k0 (hz))) a0 () c0 _ ek2);ai ek2<|ai (cL ek2 (by kernel_rfl) (by kernel_rfl))<|ai (cM ek2 (ab hk_k0 (hz)))<|L h
end
end
end Go.Proofs.YtdpjofmmokaobaaGreat.A
