/- Functions of the program as plain functions, by program. -/
import Derived.Test.YtogbakbmphadfaaGreatDoorTypes
import Derived.Test.YtogbakbmphadfaaGreatDoorLift
import Derived.Test.YtogbakbmphadfaaGreatDoorFE
set_option maxRecDepth 100000
set_option linter.unusedSectionVars false
set_option linter.unusedVariables false
set_option linter.unusedSimpArgs false
set_option linter.constructorNameAsVariable false
namespace Go.Proofs.YtogbakbmphadfaaGreatDoor.A
open Go
noncomputable section
variable [Lp]
section
variable (a0:ad)(a1:Int)
abbrev GV(a0:ad)(a1:Int)(r:Int):aZ×HP:=(.ret (I r),H0)
abbrev uL(r:Int):Prop:=call G Ω0 E0 34 [(.a (aY a0)),(I a1)] H0=some (GV a0 a1 r)
end
structure uM where
 f_R_partsOf:ad→Int→Option Int
structure sV(R:uM):Prop where
 f_R_partsOf:∀ (a0:ad)(a1:Int)(r:Int),R.f_R_partsOf a0 a1=some r→uL a0 a1 r
section
variable (R:uM)(a0:ad)(a1:Int)
def fl(v0_5:Int)(v0_6:Nat):Option ((Int×Nat)⊕(Bool×Int×Nat)):=
 if (v0_6:Int)<(a0.Args.length:Int) then
  if v0_5≤a1 then
   (a0.Args[v0_6]?).bind fun (y3:ad)=>
   if IntKind.i64.wrap (a1 - v0_5)=a1 - v0_5 then
    (R.f_R_partsOf y3 (a1 - v0_5)).bind fun (r6:Int)=>
    if IntKind.i64.wrap (v0_5+r6)=v0_5+r6 then
     if IntKind.i64.wrap ((v0_6:Int)+1)=((v0_6+1:Nat):Int) then
      some (.inl (v0_5+r6,v0_6+1))
     else none
    else none
   else none
  else
   some (.inr (decide (v0_5≤a1),v0_5,v0_6))
 else
  some (.inr (false,v0_5,v0_6))
abbrev DV(v:(Int×Nat)):St:=⟨[(1,(I a1)),(2,(.p ⟨0,2⟩ 0)),(5,(I v.1)),(6,(I (v.2:Int)))],[(2,(aY a0))],H0⟩
abbrev DW(x:(Bool×Int×Nat)):aK×St:=((.ex 0),⟨[(1,(I a1)),(2,(.p ⟨0,2⟩ 0)),(5,(I x.2.1)),(6,(I (x.2.2:Int))),(16,(.b x.1))],[(2,(aY a0))],H0⟩)
theorem Cp(hR:sV R)(a0:ad)(a1:Int)(v0_5:Int)(v0_6:Nat)(o:(Int×Nat)⊕(Bool×Int×Nat))(h:fl R a0 a1 v0_5 v0_6=some o):bH E0 L6 (DV a0 a1) (DW a0 a1) (v0_5,v0_6) o:=
 bV (bt<|ao (.i (a0.Args.length:Int))<|.or (dD<|.or (cu<|ao (.n v0_6)<|.ex fun (y3:ad)=>ao (.v (.a (aY y3)))<|ao (.i (a1 - v0_5))<|xI fun r6=>ao (.i (v0_5+r6))<|ao (.i ((v0_6+1:Nat):Int))<|.nil) (bf<|.nil)) (Ig<|.nil)) fun L=>ai (rfl:Z0)<|ai (aO av a0.Args)<|bu h (fun h1 h=>ru (decide_eq_true h1)<|bu h (fun h2 h=>fO (decide_eq_true h2)<|ai (rI v0_6)<|br h fun y3 h4 h=>ai (cX av h4 (b9 _))<|aj h fun w5 h=>ai w5<|aw h (hR.f_R_partsOf y3 (a1 - v0_5)) fun r6 h=>aj h fun w8 h=>ai w8<|aj h fun w9 h=>ai w9<|L h) (fun h2 h=>ai (decide_eq_false h2)<|L h)) (fun h1 h=>ai (g1 (decide_eq_false h1))<|ai (g1 (decide_eq_false h1))<|ai (g1 (decide_eq_false h1))<|ai (decide_eq_false h1)<|ai ff<|L h)
def pU:Option Int:=
 (lp (fun v=>fl R a0 a1 v.1 v.2) (1,0)).bind fun (x1:(Bool×Int×Nat))=>
 some x1.2.1
theorem AJ(hR:sV R)(a0:ad)(a1:Int)(r:Int)(h:pU R a0 a1=some r):uL a0 a1 r:=
 aH G34 (.ex fun (x1:(Bool×Int×Nat))=>ao (.lp (.ex 0) ⟨[(1,(I a1)),(2,(.p ⟨0,2⟩ 0)),(5,(I x1.2.1)),(6,(I (x1.2.2:Int))),(16,(.b x1.1))],[(2,(aY a0))],H0⟩)<|.nil) fun L=>ai tt<|aw h (eH (fun v=>Cp R hR a0 a1 v.1 v.2) (1,0)) fun x1 h=>L h
def iz:Nat→uM
 | 0=>⟨fun z0 z1=>none⟩
 | n+1=>⟨pU (iz n)⟩
theorem xv:∀ n,sV (iz n)
 | 0=>⟨fun _ _ r h=>(by cases h)⟩
 | n+1=>⟨fun a0 a1 r h=>AJ _ (xv n) a0 a1 r h⟩
def ou:Option Int:=ev fun n=>(iz n).f_R_partsOf a0 a1
theorem qG(r:Int)(h:ou a0 a1=some r):uL a0 a1 r:=by
 obtain ⟨n,hn⟩:=iD h
 exact (xv n).f_R_partsOf a0 a1 r hn
end
section
variable (a0:(List aa))(a1:Int)
abbrev Cq(a0:(List aa))(a1:Int)(r:Int):aZ×HP:=(.ret (I r),H0)
abbrev qH(r:Int):Prop:=call G Ω0 E0 33 [(.l 68 (a0.map ab)),(I a1)] H0=some (Cq a0 a1 r)
end
structure mZ where
 f_R_countStmts:(List aa)→Int→Option Int
structure jM(R:mZ):Prop where
 f_R_countStmts:∀ (a0:(List aa))(a1:Int)(r:Int),R.f_R_countStmts a0 a1=some r→qH a0 a1 r
section
variable (R:mZ)(a0:(List aa))(a1:Int)
def dT(R:mZ)(a0:(List aa))(a1:Int)(v0_5:Int)(v0_6:Nat)(y5:aa)(v1_8:Nat):Option (Nat⊕(Unit⊕(Nat×Bool))):=
 if (v1_8:Int)<(y5.Args.length:Int) then
  (y5.Args[v1_8]?).bind fun (y12:ad)=>
  (ou y12 15).bind fun (r14:Int)=>
  if 15<r14 then
   some (.inr (.inl ()))
  else
   if IntKind.i64.wrap ((v1_8:Int)+1)=((v1_8+1:Nat):Int) then
    some (.inl (v1_8+1))
   else none
 else
  some (.inr (.inr (v1_8,decide ((v1_8:Int)<(y5.Args.length:Int)))))
abbrev zq(v0_5:Int)(v0_6:Nat)(y5:aa)(v:Nat):St:=⟨[(0,(.l 68 (a0.map ab))),(1,(I a1)),(5,(I v0_5)),(6,(I (v0_6:Int))),(7,(.p ⟨0,7⟩ 0)),(8,(I (v:Int)))],[(7,(ag y5))],H0⟩
abbrev zr(v0_5:Int)(v0_6:Nat)(y5:aa)(x:(Unit⊕(Nat×Bool))):aK×St:=match x with | .inl ()=>(.ret,⟨[(4,(I 51))],[],H0⟩) | .inr (z1,z2)=>((.ex 2),⟨[(0,(.l 68 (a0.map ab))),(1,(I a1)),(5,(I v0_5)),(6,(I (v0_6:Int))),(7,(.p ⟨0,7⟩ 0)),(8,(I (z1:Int))),(44,(.b z2))],[(7,(ag y5))],H0⟩)
theorem yH(hR:jM R)(a0:(List aa))(a1:Int)(v0_5:Int)(v0_6:Nat)(y5:aa)(v1_8:Nat)(o:Nat⊕(Unit⊕(Nat×Bool)))(h:dT R a0 a1 v0_5 v0_6 y5 v1_8=some o):bH E0 L3 (zq a0 a1 v0_5 v0_6 y5) (zr a0 a1 v0_5 v0_6 y5) v1_8 o:=
 bV (bt<|ao (.i (y5.Args.length:Int))<|.or (cu<|ao (.n v1_8)<|.ex fun (y12:ad)=>ao (.v (.a (aY y12)))<|xI fun r14=>oN (ao (.i ((v1_8+1:Nat):Int))<|.nil)) (bf<|.nil)) fun L=>ai (rfl:Z0)<|ai (aO av y5.Args)<|bu h (fun h11 h=>fO (decide_eq_true h11)<|ai (rI v1_8)<|br h fun y12 h13 h=>ai (cX av h13 (b9 _))<|aw h (qG y12 15) fun r14 h=>bu h (fun h16 h=>ai (decide_eq_true h16)<|L h) (fun h16 h=>ai (decide_eq_false h16)<|aj h fun w17 h=>ai w17<|L h)) (fun h11 h=>ai (decide_eq_false h11)<|L h)
def ck(v0_5:Int)(v0_6:Nat):Option ((Int×Nat)⊕(Unit⊕(Bool×Int×Nat))):=
 if (v0_6:Int)<(a0.length:Int) then
  if v0_5≤50 then
   (a0[v0_6]?).bind fun (y5:aa)=>
   (ou y5.Expr 15).bind fun (r7:Int)=>
   if 15<r7 then
    some (.inr (.inl ()))
   else
    if 4<(y5.Args.length:Int) then
     some (.inr (.inl ()))
    else
     (lp (fun v=>dT R a0 a1 v0_5 v0_6 y5 v) 0).bind fun (x11:(Unit⊕(Nat×Bool)))=>match x11 with
     | .inl ya_12=>
      some (.inr (.inl ()))
     | .inr yb_12=>
      if IntKind.i64.wrap (a1+1)=a1+1 then
       (R.f_R_countStmts y5.Then (a1+1)).bind fun (r15:Int)=>
       if IntKind.i64.wrap (1+r15)=1+r15 then
        (R.f_R_countStmts y5.Else (a1+1)).bind fun (r18:Int)=>
        if IntKind.i64.wrap ((1+r15)+r18)=(1+r15)+r18 then
         if IntKind.i64.wrap (v0_5+((1+r15)+r18))=v0_5+((1+r15)+r18) then
          if IntKind.i64.wrap ((v0_6:Int)+1)=((v0_6+1:Nat):Int) then
           some (.inl (v0_5+((1+r15)+r18),v0_6+1))
          else none
         else none
        else none
       else none
      else none
  else
   some (.inr (.inr (decide (v0_5≤50),v0_5,v0_6)))
 else
  some (.inr (.inr (false,v0_5,v0_6)))
abbrev zt(v:(Int×Nat)):St:=⟨[(0,(.l 68 (a0.map ab))),(1,(I a1)),(5,(I v.1)),(6,(I (v.2:Int)))],[],H0⟩
abbrev zu(x:(Unit⊕(Bool×Int×Nat))):aK×St:=match x with | .inl ()=>(.ret,⟨[(4,(I 51))],[],H0⟩) | .inr (zb1,z1,z2)=>((.ex 0),⟨[(0,(.l 68 (a0.map ab))),(1,(I a1)),(5,(I z1)),(6,(I (z2:Int))),(23,(.b zb1))],[],H0⟩)
theorem yI(hR:jM R)(a0:(List aa))(a1:Int)(v0_5:Int)(v0_6:Nat)(o:(Int×Nat)⊕(Unit⊕(Bool×Int×Nat)))(h:ck R a0 a1 v0_5 v0_6=some o):bH E0 L4 (zt a0 a1) (zu a0 a1) (v0_5,v0_6) o:=
 bV (ao (.i (a0.length:Int))<|.or (eI<|.or (bt<|ao (.n v0_6)<|.ex fun (y5:aa)=>ao (.v (.a (ag y5)))<|eI<|xI fun r7=>.or (E8<|.nil) (dD<|ao (.i (y5.Args.length:Int))<|jG<|oN (.or (.ex fun (ya_12:Unit)=>ao (.lp .ret ⟨[(4,(I 51))],[],H0⟩)<|.nil) (.ex fun (yb_12:(Nat×Bool))=>ao (.lp (.ex 2) ⟨[(0,(.l 68 (a0.map ab))),(1,(I a1)),(5,(I v0_5)),(6,(I (v0_6:Int))),(7,(.p ⟨0,7⟩ 0)),(8,(I (yb_12.1:Int))),(44,(.b yb_12.2))],[(7,(ag y5))],H0⟩)<|bt<|ao (.i (a1+1))<|xI fun r15=>ao (.i (1+r15))<|bt<|ao (.i (a1+1))<|xI fun r18=>ao (.i ((1+r15)+r18))<|ao (.i (v0_5+((1+r15)+r18)))<|ao (.i ((v0_6+1:Nat):Int))<|.nil)))) (bf<|.nil)) (xn<|.nil)) fun L=>ai (aO ab a0)<|bu h (fun h3 h=>xl (decide_eq_true h3)<|bu h (fun h4 h=>ai (decide_eq_true h4)<|ai (rI v0_6)<|br h fun y5 h6 h=>ai (cX ab h6 (dR _))<|Hu<|aw h (qG y5.Expr 15) fun r7 h=>bu h (fun h9 h=>E2 (decide_eq_true h9)<|L h) (fun h9 h=>qu (decide_eq_false h9)<|ai (aO av y5.Args)<|o9 (decide_eq_false h9)<|bu h (fun h10 h=>ai (decide_eq_true h10)<|L h) (fun h10 h=>ai (decide_eq_false h10)<|bW h (eH (yH R hR a0 a1 v0_5 v0_6 y5) 0) (fun ya_12 h=>L h) (fun yb_12 h=>ai tt<|ai tt<|ai tt<|ai (rfl:Z0)<|ai tt<|ai tt<|aj h fun w14 h=>ai w14<|ai tt<|aw h (hR.f_R_countStmts y5.Then (a1+1)) fun r15 h=>ai tt<|aj h fun w17 h=>ai w17<|ai tt<|ai tt<|ai (rfl:Z0)<|ai tt<|ai tt<|ai w14<|ai tt<|aw h (hR.f_R_countStmts y5.Else (a1+1)) fun r18 h=>ai tt<|aj h fun w20 h=>ai w20<|ai tt<|aj h fun w21 h=>ai w21<|aj h fun w22 h=>ai w22<|L h)))) (fun h4 h=>ai (decide_eq_false h4)<|L h)) (fun h3 h=>Mr (decide_eq_false h3)<|L h)
def kc:Option (Unit⊕Int):=
 (lp (fun v=>ck R a0 a1 v.1 v.2) (0,0)).bind fun (x3:(Unit⊕(Bool×Int×Nat)))=>match x3 with
 | .inl ya_4=>
  some (.inl ())
 | .inr yb_4=>
  if 51<yb_4.2.1 then
   some (.inl ())
  else
   some (.inr yb_4.2.1)
abbrev yJ(a0:(List aa))(a1:Int)(x:(Unit⊕Int)):aK×St:=match x with | .inl ()=>(.ret,⟨[(4,(I 51))],[],H0⟩) | .inr z1=>(.ret,⟨[(4,(I z1))],[],H0⟩)
theorem rb(hR:jM R)(a0:(List aa))(a1:Int)(x:(Unit⊕Int))(h:kc R a0 a1=some x):run G Ω0 E0 L5 ⟨[(0,(.l 68 (a0.map ab))),(1,(I a1))],[],H0⟩=some (yJ a0 a1 x):=
 fP (.or (.ex fun (ya_4:Unit)=>ao (.lp .ret ⟨[(4,(I 51))],[],H0⟩)<|.nil) (.ex fun (yb_4:(Bool×Int×Nat))=>ao (.lp (.ex 0) ⟨[(0,(.l 68 (a0.map ab))),(1,(I a1)),(5,(I yb_4.2.1)),(6,(I (yb_4.2.2:Int))),(23,(.b yb_4.1))],[],H0⟩)<|oN (.nil))) fun L=>bW h (eH (fun v=>yI R hR a0 a1 v.1 v.2) (0,0)) (fun ya_4 h=>L h) (fun yb_4 h=>bu h (fun h6 h=>ai (decide_eq_true h6)<|L h) (fun h6 h=>ai (decide_eq_false h6)<|L h))
def lR:Option Int:=
 if 0<(a0.length:Int) then
  if 6<a1 then
   some 51
  else
   (kc R a0 a1).bind fun (x3:(Unit⊕Int))=>match x3 with
   | .inl ya_4=>
    some 51
   | .inr yb_4=>
    some yb_4
 else
  (kc R a0 a1).bind fun (x2:(Unit⊕Int))=>match x2 with
  | .inl ya_3=>
   some 51
  | .inr yb_3=>
   some yb_3
theorem xx(hR:jM R)(a0:(List aa))(a1:Int)(r:Int)(h:lR R a0 a1=some r):qH a0 a1 r:=
 aH G33 (ao (.i (a0.length:Int))<|.or (eI<|oN (.fb<|.or (.ex fun (ya_4:Unit)=>ao (.fr .ret ⟨[(4,(I 51))],[],H0⟩)<|.nil) (.ex fun (yb_4:Int)=>ao (.fr .ret ⟨[(4,(I yb_4))],[],H0⟩)<|.nil))) (xn<|.fb<|.or (.ex fun (ya_3:Unit)=>ao (.fr .ret ⟨[(4,(I 51))],[],H0⟩)<|.nil) (.ex fun (yb_3:Int)=>ao (.fr .ret ⟨[(4,(I yb_3))],[],H0⟩)<|.nil))) fun L=>ai (aO ab a0)<|bu h (fun h1 h=>xl (decide_eq_true h1)<|bu h (fun h2 h=>ai (decide_eq_true h2)<|L h) (fun h2 h=>ai (decide_eq_false h2)<|bW h (rb R hR a0 a1) (fun ya_4 h=>L h) (fun yb_4 h=>L h))) (fun h1 h=>Mr (decide_eq_false h1)<|bW h (rb R hR a0 a1) (fun ya_3 h=>L h) (fun yb_3 h=>L h))
def cm:Nat→mZ
 | 0=>⟨fun z0 z1=>none⟩
 | n+1=>⟨lR (cm n)⟩
theorem tV:∀ n,jM (cm n)
 | 0=>⟨fun _ _ r h=>(by cases h)⟩
 | n+1=>⟨fun a0 a1 r h=>xx _ (tV n) a0 a1 r h⟩
def nd:Option Int:=ev fun n=>(cm n).f_R_countStmts a0 a1
theorem rQ(r:Int)(h:nd a0 a1=some r):qH a0 a1 r:=by
 obtain ⟨n,hn⟩:=iD h
 exact (tV n).f_R_countStmts a0 a1 r hn
end
section
variable (a0:Tree)
def iK(a0:Tree)(v0_3:Int)(v0_4:Nat)(y5:aE)(v1_6:Nat):Option (Nat⊕(Unit⊕(Nat×Bool))):=
 if (v1_6:Int)<(y5.Label.length:Int) then
  (y5.Label[v1_6]?).bind fun (y13:aD)=>
  if 6<(y13.Names.length:Int) then
   some (.inr (.inl ()))
  else
   if IntKind.i64.wrap ((v1_6:Int)+1)=((v1_6+1:Nat):Int) then
    some (.inl (v1_6+1))
   else none
 else
  some (.inr (.inr (v1_6,decide ((v1_6:Int)<(y5.Label.length:Int)))))
abbrev Cr(v0_3:Int)(v0_4:Nat)(y5:aE)(v:Nat):St:=⟨[(1,(.p ⟨0,1⟩ 0)),(3,(I v0_3)),(4,(I (v0_4:Int))),(5,(.p ⟨0,5⟩ 0)),(6,(I (v:Int)))],[(1,[(.l 46 (a0.Decls.map au)),(.l 68 (a0.Main.map ab))]),(5,(ak y5))],H0⟩
abbrev Cs(v0_3:Int)(v0_4:Nat)(y5:aE)(x:(Unit⊕(Nat×Bool))):aK×St:=match x with | .inl ()=>(.ret,⟨[(2,(.b true))],[],H0⟩) | .inr (z1,z2)=>((.ex 2),⟨[(1,(.p ⟨0,1⟩ 0)),(3,(I v0_3)),(4,(I (v0_4:Int))),(5,(.p ⟨0,5⟩ 0)),(6,(I (z1:Int))),(46,(.b z2))],[(1,[(.l 46 (a0.Decls.map au)),(.l 68 (a0.Main.map ab))]),(5,(ak y5))],H0⟩)
theorem AK(v0_3:Int)(v0_4:Nat)(y5:aE)(v1_6:Nat)(o:Nat⊕(Unit⊕(Nat×Bool)))(h:iK a0 v0_3 v0_4 y5 v1_6=some o):bH E0 LF (Cr a0 v0_3 v0_4 y5) (Cs a0 v0_3 v0_4 y5) v1_6 o:=
 bV (bt<|ao (.i (y5.Label.length:Int))<|.or (cu<|ao (.n v1_6)<|.ex fun (y13:aD)=>ao (.v (.a (cY y13)))<|ao (.i (y13.Names.length:Int))<|oN (ao (.i ((v1_6+1:Nat):Int))<|.nil)) (bf<|.nil)) fun L=>ai (rfl:Z0)<|ai (aO aA y5.Label)<|bu h (fun h12 h=>fO (decide_eq_true h12)<|ai (rI v1_6)<|br h fun y13 h14 h=>ai (cj aA h14)<|ai (aO AV.s y13.Names)<|bu h (fun h15 h=>ai (decide_eq_true h15)<|L h) (fun h15 h=>ai (decide_eq_false h15)<|aj h fun w16 h=>ai w16<|L h)) (fun h12 h=>ai (decide_eq_false h12)<|L h)
def ef(v0_3:Int)(v0_4:Nat):Option ((Int×Nat)⊕(Unit⊕(Int×Nat×Bool))):=
 if (v0_4:Int)<(a0.Decls.length:Int) then
  (a0.Decls[v0_4]?).bind fun (y5:aE)=>
  if 4<(y5.Label.length:Int) then
   some (.inr (.inl ()))
  else
   if 4<(y5.Params.length:Int) then
    some (.inr (.inl ()))
   else
    (ou y5.Result 15).bind fun (r9:Int)=>
    if 15<r9 then
     some (.inr (.inl ()))
    else
     (lp (fun v=>iK a0 v0_3 v0_4 y5 v) 0).bind fun (x12:(Unit⊕(Nat×Bool)))=>match x12 with
     | .inl ya_13=>
      some (.inr (.inl ()))
     | .inr yb_13=>
      (nd y5.Body 1).bind fun (r15:Int)=>
      if IntKind.i64.wrap (v0_3+r15)=v0_3+r15 then
       if IntKind.i64.wrap ((v0_4:Int)+1)=((v0_4+1:Nat):Int) then
        some (.inl (v0_3+r15,v0_4+1))
       else none
      else none
 else
  some (.inr (.inr (v0_3,v0_4,decide ((v0_4:Int)<(a0.Decls.length:Int)))))
abbrev Ct(v:(Int×Nat)):St:=⟨[(1,(.p ⟨0,1⟩ 0)),(3,(I v.1)),(4,(I (v.2:Int)))],[(1,[(.l 46 (a0.Decls.map au)),(.l 68 (a0.Main.map ab))])],H0⟩
abbrev Cu(x:(Unit⊕(Int×Nat×Bool))):aK×St:=match x with | .inl ()=>(.ret,⟨[(2,(.b true))],[],H0⟩) | .inr (z1,z2,z3)=>((.ex 0),⟨[(1,(.p ⟨0,1⟩ 0)),(3,(I z1)),(4,(I (z2:Int))),(18,(.b z3))],[(1,[(.l 46 (a0.Decls.map au)),(.l 68 (a0.Main.map ab))])],H0⟩)
theorem AL(v0_3:Int)(v0_4:Nat)(o:(Int×Nat)⊕(Unit⊕(Int×Nat×Bool)))(h:ef a0 v0_3 v0_4=some o):bH E0 LG (Ct a0) (Cu a0) (v0_3,v0_4) o:=
 bV (bt<|ao (.i (a0.Decls.length:Int))<|.or (cu<|ao (.n v0_4)<|.ex fun (y5:aE)=>ao (.v (.a (ak y5)))<|eI<|ao (.i (y5.Label.length:Int))<|.or (Qd<|.nil) (dD<|ao (.i (y5.Params.length:Int))<|jG<|.or (E8<|.nil) (dD<|xI fun r9=>jG<|oN (.or (.ex fun (ya_13:Unit)=>ao (.lp .ret ⟨[(2,(.b true))],[],H0⟩)<|.nil) (.ex fun (yb_13:(Nat×Bool))=>ao (.lp (.ex 2) ⟨[(1,(.p ⟨0,1⟩ 0)),(3,(I v0_3)),(4,(I (v0_4:Int))),(5,(.p ⟨0,5⟩ 0)),(6,(I (yb_13.1:Int))),(46,(.b yb_13.2))],[(1,[(.l 46 (a0.Decls.map au)),(.l 68 (a0.Main.map ab))]),(5,(ak y5))],H0⟩)<|bt<|xI fun r15=>ao (.i (v0_3+r15))<|ao (.i ((v0_4+1:Nat):Int))<|.nil))))) (bf<|.nil)) fun L=>ai (rfl:Z0)<|ai (aO au a0.Decls)<|bu h (fun h4 h=>fO (decide_eq_true h4)<|ai (rI v0_4)<|br h fun y5 h6 h=>ai (cj au h6)<|Hu<|ai (aO aA y5.Label)<|bu h (fun h7 h=>ai (g0 (decide_eq_true h7))<|ai (g0 (decide_eq_true h7))<|ai (g0 (decide_eq_true h7))<|ai (g0 (decide_eq_true h7))<|ai (decide_eq_true h7)<|ai ht<|ai ht<|ai ht<|ai ht<|ai tt<|ai tt<|L h) (fun h7 h=>qu (decide_eq_false h7)<|ai (aO AV.s y5.Params)<|o9 (decide_eq_false h7)<|bu h (fun h8 h=>E2 (decide_eq_true h8)<|L h) (fun h8 h=>qu (decide_eq_false h8)<|aw h (qG y5.Result 15) fun r9 h=>o9 (decide_eq_false h8)<|bu h (fun h11 h=>ai (decide_eq_true h11)<|L h) (fun h11 h=>ai (decide_eq_false h11)<|bW h (eH (AK a0 v0_3 v0_4 y5) 0) (fun ya_13 h=>L h) (fun yb_13 h=>ai (rfl:Z0)<|aw h (rQ y5.Body 1) fun r15 h=>aj h fun w17 h=>ai w17<|aj h fun w18 h=>ai w18<|L h))))) (fun h4 h=>ai (decide_eq_false h4)<|L h)
abbrev Fs(a0:Tree)(r:Bool):aZ×HP:=(.ret (.b r),H0)
def pV:Option Bool:=
 if 30<(a0.Decls.length:Int) then
  some true
 else
  (nd a0.Main 1).bind fun (r2:Int)=>
  (lp (fun v=>ef a0 v.1 v.2) (r2,0)).bind fun (x4:(Unit⊕(Int×Nat×Bool)))=>match x4 with
  | .inl ya_5=>
   some true
  | .inr yb_5=>
   some (decide (50<yb_5.1))
theorem AM(r:Bool)(h:pV a0=some r):call G Ω0 E0 13 [(.a [(.l 46 (a0.Decls.map au)),(.l 68 (a0.Main.map ab))])] H0=some (Fs a0 r):=
 aH ZX (bt<|ao (.i (a0.Decls.length:Int))<|oN (bt<|xI fun r2=>.or (.ex fun (ya_5:Unit)=>ao (.lp .ret ⟨[(2,(.b true))],[],H0⟩)<|.nil) (.ex fun (yb_5:(Int×Nat×Bool))=>ao (.lp (.ex 0) ⟨[(1,(.p ⟨0,1⟩ 0)),(3,(I yb_5.1)),(4,(I (yb_5.2.1:Int))),(18,(.b yb_5.2.2))],[(1,[(.l 46 (a0.Decls.map au)),(.l 68 (a0.Main.map ab))])],H0⟩)<|.nil))) fun L=>od<|ai (aO au a0.Decls)<|bu h (fun h1 h=>ai (decide_eq_true h1)<|L h) (fun h1 h=>fO (decide_eq_false h1)<|aw h (rQ a0.Main 1) fun r2 h=>bW h (eH (fun v=>AL a0 v.1 v.2) (r2,0)) (fun ya_5 h=>L h) (fun yb_5 h=>L h))
end
section
variable (a0:Int)(a1:Int)(a2:Int)
abbrev GW(a0:Int)(a1:Int)(a2:Int)(r:Bool):aZ×HP:=(.ret (.b r),H0)
def eD:Option Bool:=
 if a1≤a0 then
  some (decide (a0≤a2))
 else
  some false
theorem eN(r:Bool)(h:eD a0 a1 a2=some r):call G Ω0 E0 35 [(I a0),(I a1),(I a2)] H0=some (GW a0 a1 a2 r):=
 aH G35 (.or (dD<|.nil) (xn<|.nil)) fun L=>bu h (fun h1 h=>ru (decide_eq_true h1)<|L h) (fun h1 h=>ru (decide_eq_false h1)<|L h)
abbrev Ft(a0:Int)(r:Bool):aZ×HP:=(.ret (.b r),H0)
def me:Option Bool:=
 (eD (IntKind.i64.wrap a0) 97 122).bind fun (r1:Bool)=>
 some r1
theorem tW(r:Bool)(h:me a0=some r):call G Ω0 E0 105 [(.i .u8 a0)] H0=some (Ft a0 r):=
 aH Zo (ao (.i (IntKind.i64.wrap a0))<|xB fun r1=>.nil) fun L=>ai (rfl:IntKind.i64.wrap a0=IntKind.i64.wrap a0)<|aw h (eN (IntKind.i64.wrap a0) 97 122) fun r1 h=>L h
abbrev GX(a0:Int)(r:Bool):aZ×HP:=(.ret (.b r),H0)
def lq:Option Bool:=
 (eD (IntKind.i64.wrap a0) 48 57).bind fun (r1:Bool)=>
 some r1
theorem qI(r:Bool)(h:lq a0=some r):call G Ω0 E0 106 [(.i .u8 a0)] H0=some (GX a0 r):=
 aH Zp (ao (.i (IntKind.i64.wrap a0))<|xB fun r1=>.nil) fun L=>ai (rfl:IntKind.i64.wrap a0=IntKind.i64.wrap a0)<|aw h (eN (IntKind.i64.wrap a0) 48 57) fun r1 h=>L h
end
section
variable (a0:(List UInt8))(a1:Int)(c3:UInt8)
def jy(v0_7:Nat):Option (Nat⊕(Bool×Nat)):=
 if IntKind.i64.wrap (a1+(v0_7:Int))=a1+(v0_7:Int) then
  if (a1+(v0_7:Int))<(a0.length:Int) then
   (dG (a1+(v0_7:Int))).bind fun (j10:Nat)=>
   (a0[j10]?).bind fun (c12:UInt8)=>
   (me (c12.toNat:Int)).bind fun (r14:Bool)=>
   if r14=true then
    if IntKind.i64.wrap ((v0_7:Int)+1)=((v0_7+1:Nat):Int) then
     some (.inl (v0_7+1))
    else none
   else
    (lq (c12.toNat:Int)).bind fun (r17:Bool)=>
    if r17=true then
     if IntKind.i64.wrap ((v0_7:Int)+1)=((v0_7+1:Nat):Int) then
      some (.inl (v0_7+1))
     else none
    else
     some (.inr (r17,v0_7))
  else
   some (.inr (false,v0_7))
 else none
abbrev DX(v:Nat):St:=⟨[(0,(.s a0)),(1,(I a1)),(7,(I (v:Int)))],[],H0⟩
abbrev DY(x:(Bool×Nat)):aK×St:=((.ex 1),⟨[(0,(.s a0)),(1,(I a1)),(7,(I (x.2:Int))),(37,(.b x.1))],[],H0⟩)
theorem Cv(v0_7:Nat)(o:Nat⊕(Bool×Nat))(h:jy a0 a1 v0_7=some o):bH E0 Mg (DX a0 a1) (DY a0 a1) v0_7 o:=
 bV (ao (.i (a1+(v0_7:Int)))<|ao (.i (a0.length:Int))<|.or (dD<|ao (.i (a1+(v0_7:Int)))<|bt<|xN fun j10=>.ex fun (c12:UInt8)=>ao (.i (c12.toNat:Int))<|bt<|xB fun r14=>bt<|.or (bf<|bf<|bf<|bf<|bf<|bf<|bt<|bt<|bt<|bt<|ao (.i ((v0_7+1:Nat):Int))<|.nil) (dD<|ao (.i (a1+(v0_7:Int)))<|bt<|ao (.n j10)<|ao (.i (c12.toNat:Int))<|bt<|xB fun r17=>bt<|bf<|bt<|.or (bt<|ao (.i ((v0_7+1:Nat):Int))<|.nil) (bf<|.nil))) (bf<|bf<|bf<|bf<|bf<|bf<|bf<|bf<|bf<|bf<|.nil)) fun L=>aj h fun w8 h=>ai w8<|ai (rfl:(a0.length:Int)=(a0.length:Int))<|bu h (fun h9 h=>zk (decide_eq_true h9)<|ai w8<|ai (g1 (decide_eq_true h9))<|lB h fun j10 h11 h=>ai h11<|br h fun c12 h13 h=>ai (congrArg (Option.map fun z:UInt8=>(z.toNat:Int)) h13)<|ai (g1 (decide_eq_true h9))<|aw h (tW (c12.toNat:Int)) fun r14 h=>ai (g1 (decide_eq_true h9))<|aJ h (fun h16 h=>ai (g0 h16)<|ai (g0 h16)<|ai (g0 h16)<|ai (g0 h16)<|ai (g0 h16)<|ai (g0 h16)<|ai (g1 (decide_eq_true h9))<|ai h16<|ai (decide_eq_true h9)<|ai tt<|aj h fun w17 h=>ai w17<|L h) (fun h16 h=>ai (g0 h16)<|ai (g0 h16)<|ai (g0 h16)<|ai (g0 h16)<|ai w8<|ai (g0 h16)<|ai h11<|ai (congrArg (Option.map fun z:UInt8=>(z.toNat:Int)) h13)<|ai (g0 h16)<|aw h (qI (c12.toNat:Int)) fun r17 h=>ai (g1 (decide_eq_true h9))<|ai h16<|ai (decide_eq_true h9)<|aJ h (fun h19 h=>ai h19<|aj h fun w20 h=>ai w20<|L h) (fun h19 h=>ai h19<|L h))) (fun h9 h=>ai (g1 (decide_eq_false h9))<|ai (g1 (decide_eq_false h9))<|ai (g1 (decide_eq_false h9))<|ai (g1 (decide_eq_false h9))<|ai (g1 (decide_eq_false h9))<|ai (g1 (decide_eq_false h9))<|ai (g1 (decide_eq_false h9))<|ai (g1 (decide_eq_false h9))<|ai (decide_eq_false h9)<|ai ff<|L h)
def jz(v1_7:Nat):Option (Nat⊕(Bool×Nat)):=
 if IntKind.i64.wrap (a1+(v1_7:Int))=a1+(v1_7:Int) then
  if (a1+(v1_7:Int))<(a0.length:Int) then
   (dG (a1+(v1_7:Int))).bind fun (j13:Nat)=>
   (a0[j13]?).bind fun (Ai:UInt8)=>
   (lq (Ai.toNat:Int)).bind fun (r17:Bool)=>
   if r17=true then
    if IntKind.i64.wrap ((v1_7:Int)+1)=((v1_7+1:Nat):Int) then
     some (.inl (v1_7+1))
    else none
   else
    some (.inr (r17,v1_7))
  else
   some (.inr (false,v1_7))
 else none
abbrev DZ(v:Nat):St:=⟨[(0,(.s a0)),(1,(I a1)),(7,(I (v:Int)))],[],H0⟩
abbrev D0(x:(Bool×Nat)):aK×St:=((.ex 3),⟨[(0,(.s a0)),(1,(I a1)),(7,(I (x.2:Int))),(57,(.b x.1))],[],H0⟩)
theorem Cw(v1_7:Nat)(o:Nat⊕(Bool×Nat))(h:jz a0 a1 v1_7=some o):bH E0 Mh (DZ a0 a1) (D0 a0 a1) v1_7 o:=
 bV (ao (.i (a1+(v1_7:Int)))<|ao (.i (a0.length:Int))<|.or (dD<|ao (.i (a1+(v1_7:Int)))<|bt<|xN fun j13=>.ex fun (Ai:UInt8)=>ao (.i (Ai.toNat:Int))<|bt<|xB fun r17=>bt<|.or (bt<|ao (.i ((v1_7+1:Nat):Int))<|.nil) (bf<|.nil)) (bf<|bf<|bf<|bf<|bf<|bf<|bf<|bf<|.nil)) fun L=>aj h fun w11 h=>ai w11<|ai (rfl:(a0.length:Int)=(a0.length:Int))<|bu h (fun h12 h=>zk (decide_eq_true h12)<|ai w11<|ai (g1 (decide_eq_true h12))<|lB h fun j13 h14 h=>ai h14<|br h fun Ai h16 h=>ai (congrArg (Option.map fun z:UInt8=>(z.toNat:Int)) h16)<|ai (g1 (decide_eq_true h12))<|aw h (qI (Ai.toNat:Int)) fun r17 h=>ai (decide_eq_true h12)<|aJ h (fun h19 h=>ai h19<|aj h fun w20 h=>ai w20<|L h) (fun h19 h=>ai h19<|L h)) (fun h12 h=>ai (g1 (decide_eq_false h12))<|ai (g1 (decide_eq_false h12))<|ai (g1 (decide_eq_false h12))<|ai (g1 (decide_eq_false h12))<|ai (g1 (decide_eq_false h12))<|ai (g1 (decide_eq_false h12))<|ai (decide_eq_false h12)<|ai ff<|L h)
def lg(v2_9:Nat):Option (Nat⊕(Unit⊕(Nat×Bool))):=
 if (v2_9:Int)<((([123,125,40,41,59,58,33,44,61,43,45,42,60]).length:Nat):Int) then
  (([123,125,40,41,59,58,33,44,61,43,45,42,60])[v2_9]?).bind fun (Aj:UInt8)=>
  if ((Aj.toNat:Int)==(c3.toNat:Int))=true then
   some (.inr (.inl ()))
  else
   if IntKind.i64.wrap ((v2_9:Int)+1)=((v2_9+1:Nat):Int) then
    some (.inl (v2_9+1))
   else none
 else
  some (.inr (.inr (v2_9,decide ((v2_9:Int)<((([123,125,40,41,59,58,33,44,61,43,45,42,60]).length:Nat):Int)))))
abbrev D1(v:Nat):St:=⟨[(6,(.i .u8 (c3.toNat:Int))),(8,(.s ([123,125,40,41,59,58,33,44,61,43,45,42,60]))),(9,(I (v:Int)))],[],H0⟩
abbrev D2(x:(Unit⊕(Nat×Bool))):aK×St:=match x with | .inl ()=>(.ret,⟨[(4,(I 3)),(5,(I 1))],[],H0⟩) | .inr (z1,z2)=>((.ex 5),⟨[(6,(.i .u8 (c3.toNat:Int))),(8,(.s ([123,125,40,41,59,58,33,44,61,43,45,42,60]))),(9,(I (z1:Int))),(81,(.b z2))],[],H0⟩)
theorem Cy(v2_9:Nat)(o:Nat⊕(Unit⊕(Nat×Bool)))(h:lg c3 v2_9=some o):bH E0 Mi (D1 c3) (D2 c3) v2_9 o:=
 bV (ao (.i ((([123,125,40,41,59,58,33,44,61,43,45,42,60]).length:Nat):Int))<|.or (bt<|ao (.n v2_9)<|.ex fun (Aj:UInt8)=>ao (.i (Aj.toNat:Int))<|oN (ao (.i ((v2_9+1:Nat):Int))<|.nil)) (bf<|.nil)) fun L=>ai (rfl:((([123,125,40,41,59,58,33,44,61,43,45,42,60]).length:Nat):Int)=((([123,125,40,41,59,58,33,44,61,43,45,42,60]).length:Nat):Int))<|bu h (fun h19 h=>ai (decide_eq_true h19)<|ai (rI v2_9)<|br h fun Aj h21 h=>ai (congrArg (Option.map fun z:UInt8=>(z.toNat:Int)) h21)<|aJ h (fun h22 h=>ai h22<|L h) (fun h22 h=>ai h22<|aj h fun w23 h=>ai w23<|L h)) (fun h19 h=>ai (decide_eq_false h19)<|L h)
def iL:Option (Unit⊕Unit):=
 (lp (fun v=>lg c3 v) 0).bind fun (x19:(Unit⊕(Nat×Bool)))=>match x19 with
 | .inl ya_20=>
  some (.inl ())
 | .inr yb_20=>
  some (.inr ())
abbrev Cz(c3:UInt8)(x:(Unit⊕Unit)):aK×St:=match x with | .inl ()=>(.ret,⟨[(4,(I 3)),(5,(I 1))],[],H0⟩) | .inr ()=>(.ret,⟨[(4,(I 0)),(5,(I 0))],[],H0⟩)
theorem pW(x:(Unit⊕Unit))(h:iL c3=some x):run G Ω0 E0 Mj ⟨[(6,(.i .u8 (c3.toNat:Int)))],[],H0⟩=some (Cz c3 x):=
 fP (.or (.ex fun (ya_20:Unit)=>ao (.lp .ret ⟨[(4,(I 3)),(5,(I 1))],[],H0⟩)<|.nil) (.ex fun (yb_20:(Nat×Bool))=>ao (.lp (.ex 5) ⟨[(6,(.i .u8 (c3.toNat:Int))),(8,(.s ([123,125,40,41,59,58,33,44,61,43,45,42,60]))),(9,(I (yb_20.1:Int))),(81,(.b yb_20.2))],[],H0⟩)<|.nil)) fun L=>bW h (eH (Cy c3) 0) (fun ya_20 h=>L h) (fun yb_20 h=>L h)
abbrev GY(a0:(List UInt8))(a1:Int)(r:(Int×Int)):aZ×HP:=(.ret (.tp [(I r.1),(I r.2)]),H0)
def qX:Option (Int×Int):=
 (dG a1).bind fun (j1:Nat)=>
 (a0[j1]?).bind fun (c3:UInt8)=>
 (me (c3.toNat:Int)).bind fun (r5:Bool)=>
 if r5=true then
  (lp (fun v=>jy a0 a1 v) 1).bind fun (x8:(Bool×Nat))=>
  some (1,(x8.2:Int))
 else
  (lq (c3.toNat:Int)).bind fun (r8:Bool)=>
  if r8=true then
   (lp (fun v=>jz a0 a1 v) 1).bind fun (x11:(Bool×Nat))=>
   some (2,(x11.2:Int))
  else
   if ((c3.toNat:Int)==61)=true then
    if IntKind.i64.wrap (a1+1)=a1+1 then
     if (a1+1)<(a0.length:Int) then
      (dG (a1+1)).bind fun (j14:Nat)=>
      (a0[j14]?).bind fun (Dn:UInt8)=>
      if ((Dn.toNat:Int)==61)=true then
       some (3,2)
      else
       (iL c3).bind fun (x19:(Unit⊕Unit))=>match x19 with
       | .inl ya_20=>
        some (3,1)
       | .inr yb_20=>
        some (0,0)
     else
      (iL c3).bind fun (x14:(Unit⊕Unit))=>match x14 with
      | .inl ya_15=>
       some (3,1)
      | .inr yb_15=>
       some (0,0)
    else none
   else
    (iL c3).bind fun (x12:(Unit⊕Unit))=>match x12 with
    | .inl ya_13=>
     some (3,1)
    | .inr yb_13=>
     some (0,0)
theorem CB(r:(Int×Int))(h:qX a0 a1=some r):call G Ω0 E0 75 [(.s a0),(I a1)] H0=some (GY a0 a1 r):=
 aH G75 (xN fun j1=>.ex fun (c3:UInt8)=>ao (.i (c3.toNat:Int))<|xB fun r5=>.or (bt<|.ex fun (x8:(Bool×Nat))=>ao (.lp (.ex 1) ⟨[(0,(.s a0)),(1,(I a1)),(7,(I (x8.2:Int))),(37,(.b x8.1))],[],H0⟩)<|.nil) (bf<|xB fun r8=>.or (bt<|.ex fun (x11:(Bool×Nat))=>ao (.lp (.ex 3) ⟨[(0,(.s a0)),(1,(I a1)),(7,(I (x11.2:Int))),(57,(.b x11.1))],[],H0⟩)<|.nil) (bf<|.or (cu<|ao (.i (a1+1))<|cu<|ao (.i (a0.length:Int))<|cu<|.or (eI<|ao (.i (a1+1))<|bt<|xN fun j14=>.ex fun (Dn:UInt8)=>ao (.i (Dn.toNat:Int))<|cu<|oN (.fb<|.or (.ex fun (ya_20:Unit)=>ao (.fr .ret ⟨[(4,(I 3)),(5,(I 1))],[],H0⟩)<|.nil) (.ex fun (yb_20:Unit)=>ao (.fr .ret ⟨[(4,(I 0)),(5,(I 0))],[],H0⟩)<|.nil))) (Ie<|.fb<|.or (.ex fun (ya_15:Unit)=>ao (.fr .ret ⟨[(4,(I 3)),(5,(I 1))],[],H0⟩)<|.nil) (.ex fun (yb_15:Unit)=>ao (.fr .ret ⟨[(4,(I 0)),(5,(I 0))],[],H0⟩)<|.nil))) (Fa<|.fb<|.or (.ex fun (ya_13:Unit)=>ao (.fr .ret ⟨[(4,(I 3)),(5,(I 1))],[],H0⟩)<|.nil) (.ex fun (yb_13:Unit)=>ao (.fr .ret ⟨[(4,(I 0)),(5,(I 0))],[],H0⟩)<|.nil))))) fun L=>lB h fun j1 h2 h=>ai h2<|br h fun c3 h4 h=>ai (congrArg (Option.map fun z:UInt8=>(z.toNat:Int)) h4)<|aw h (tW (c3.toNat:Int)) fun r5 h=>aJ h (fun h7 h=>ai h7<|aw h (eH (Cv a0 a1) 1) fun x8 h=>L h) (fun h7 h=>ai h7<|aw h (qI (c3.toNat:Int)) fun r8 h=>aJ h (fun h10 h=>ai h10<|aw h (eH (Cw a0 a1) 1) fun x11 h=>L h) (fun h10 h=>ai h10<|aJ h (fun h11 h=>ie h11<|aj h fun w12 h=>ai w12<|ie h11<|ai (rfl:(a0.length:Int)=(a0.length:Int))<|jv h11<|bu h (fun h13 h=>vL (decide_eq_true h13)<|ai w12<|ai (g1 (decide_eq_true h13))<|lB h fun j14 h15 h=>ai h15<|br h fun Dn h17 h=>ai (congrArg (Option.map fun z:UInt8=>(z.toNat:Int)) h17)<|jv (decide_eq_true h13)<|aJ h (fun h18 h=>ai h18<|L h) (fun h18 h=>ai h18<|bW h (pW c3) (fun ya_20 h=>L h) (fun yb_20 h=>L h))) (fun h13 h=>ai (g1 (decide_eq_false h13))<|ai (g1 (decide_eq_false h13))<|ai (g1 (decide_eq_false h13))<|ai (g1 (decide_eq_false h13))<|ai (g1 (decide_eq_false h13))<|ai (decide_eq_false h13)<|ai ff<|bW h (pW c3) (fun ya_15 h=>L h) (fun yb_15 h=>L h))) (fun h11 h=>ai (g1 h11)<|ai (g1 h11)<|ai (g1 h11)<|ai (g1 h11)<|ai (g1 h11)<|ai h11<|ai gf<|ai gf<|ai gf<|ai gf<|ai gf<|ai ff<|ai ff<|bW h (pW c3) (fun ya_13 h=>L h) (fun yb_13 h=>L h))))
def vl:List cL:=(gA 4 58)::[]
end
section
variable (a0:Int)(a1:(List UInt8))
def fK(a0:Int)(a1:(List UInt8))(r4:(Int×Int))(u2_1:Bool)(u3_1:Bool):Option Bool:=
 some u3_1
abbrev CC(a0:Int)(a1:(List UInt8))(r4:(Int×Int))(u2_1:Bool)(u3_1:Bool)(x:Bool):St:=⟨[(4,(.b x))],[],H0⟩
theorem jN(r4:(Int×Int))(u2_1:Bool)(u3_1:Bool)(w:List AV)(x:Bool)(h:fK a0 a1 r4 u2_1 u3_1=some x):eB G Ω0 E0 [4] [] vl ⟨[(58,(.b u3_1)),(57,(W w 0)),(56,(W w 1)),(55,(W w 2)),(54,(W w 3)),(53,(W w 4)),(52,(W w 5)),(51,(W w 6)),(50,(W w 7)),(49,(W w 8)),(48,(W w 9)),(47,(W w 10)),(46,(W w 11)),(45,(W w 12)),(44,(W w 13)),(43,(W w 14)),(42,(W w 15)),(41,(.b u2_1)),(40,(.b u2_1)),(39,(W w 16)),(38,(W w 17)),(37,(W w 18)),(36,(W w 19)),(35,(W w 20)),(34,(W w 21)),(33,(W w 22)),(32,(W w 23)),(31,(W w 24)),(30,(W w 25)),(29,(W w 26)),(28,(W w 27)),(27,(W w 28)),(26,(.b (r4.1==a0))),(25,(.b (r4.1==a0))),(24,(I a0)),(23,(I r4.1)),(0,(I a0)),(1,(.s a1)),(5,(I r4.1)),(6,(I r4.2))],[],H0⟩=some (CC a0 a1 r4 u2_1 u3_1 x):=
 dv (.nil) fun L=>L h
def vm:List cL:=(gM 41 40)::⟨some 42,.mv 5,some ⟨41,true⟩,false⟩::⟨some 43,.bo .eql false 42 (kI 2),some ⟨41,true⟩,false⟩::⟨some 44,.mv 43,some ⟨41,true⟩,false⟩::⟨some 45,.mv 6,some ⟨44,true⟩,false⟩::⟨some 46,.bo .gtr false 45 (kI 7),some ⟨44,true⟩,false⟩::⟨some 47,.mv 46,some ⟨44,true⟩,false⟩::⟨some 48,.mv 6,some ⟨47,false⟩,false⟩::⟨some 49,.bo .gtr false 48 (kI 1),some ⟨47,false⟩,false⟩::⟨some 50,.mv 49,some ⟨47,false⟩,false⟩::⟨some 51,.mv 1,some ⟨50,true⟩,false⟩::⟨some 52,.ix 51 (kI 0),some ⟨50,true⟩,false⟩::⟨some 53,.bo .eql false 52 (.c (.i .u8 48)),some ⟨50,true⟩,false⟩::⟨some 54,.pk 50 53 (.c (.b false)),some ⟨47,false⟩,false⟩::⟨some 55,.pk 47 (.c (.b true)) 54,some ⟨44,true⟩,false⟩::⟨some 56,.pk 44 55 (.c (.b false)),some ⟨41,true⟩,false⟩::⟨some 57,.no 56,some ⟨41,true⟩,false⟩::(gp 58 (.pk 41 57 (.c (.b false))))::vl
def iM(r4:(Int×Int))(u2_1:Bool):Option Bool:=
 if u2_1=true then
  if (r4.1==2)=true then
   if 7<r4.2 then
    (fK a0 a1 r4 u2_1 false).bind fun (x12:Bool)=>
    some x12
   else
    if 1<r4.2 then
     (a1[0]?).bind fun (ob:UInt8)=>
     (fK a0 a1 r4 u2_1 (!((ob.toNat:Int)==48))).bind fun (x15:Bool)=>
     some x15
    else
     (fK a0 a1 r4 u2_1 true).bind fun (x13:Bool)=>
     some x13
  else
   (fK a0 a1 r4 u2_1 true).bind fun (x11:Bool)=>
   some x11
 else
  (fK a0 a1 r4 u2_1 false).bind fun (x10:Bool)=>
  some x10
abbrev CD(a0:Int)(a1:(List UInt8))(r4:(Int×Int))(u2_1:Bool)(x:Bool):St:=⟨[(4,(.b x))],[],H0⟩
theorem lS(r4:(Int×Int))(u2_1:Bool)(w:List AV)(x:Bool)(h:iM a0 a1 r4 u2_1=some x):eB G Ω0 E0 [4] [] vm ⟨[(40,(.b u2_1)),(39,(W w 0)),(38,(W w 1)),(37,(W w 2)),(36,(W w 3)),(35,(W w 4)),(34,(W w 5)),(33,(W w 6)),(32,(W w 7)),(31,(W w 8)),(30,(W w 9)),(29,(W w 10)),(28,(W w 11)),(27,(W w 12)),(26,(.b (r4.1==a0))),(25,(.b (r4.1==a0))),(24,(I a0)),(23,(I r4.1)),(0,(I a0)),(1,(.s a1)),(5,(I r4.1)),(6,(I r4.2))],[],H0⟩=some (CD a0 a1 r4 u2_1 x):=
 dv (.or (eI<|.or (eI<|.or (bf<|bf<|bf<|bf<|bt<|bt<|bt<|bt<|bt<|bt<|.jb (some 4) 0<|.ex fun (x12:Bool)=>ao (.jn ⟨[(4,(.b x12))],[],H0⟩)<|.nil) (eI<|.or (cu<|ao (.n 0)<|.ex fun (ob:UInt8)=>ao (.i (ob.toNat:Int))<|bt<|bt<|bt<|bt<|bf<|bt<|bt<|bt<|bt<|.jb (some 4) 0<|.ex fun (x15:Bool)=>ao (.jn ⟨[(4,(.b x15))],[],H0⟩)<|.nil) (bf<|bf<|bf<|bt<|bf<|bt<|bf<|bt<|bt<|bt<|bt<|.jb (some 4) 0<|.ex fun (x13:Bool)=>ao (.jn ⟨[(4,(.b x13))],[],H0⟩)<|.nil))) (bf<|bf<|bf<|bf<|bt<|bf<|bt<|bt<|.jb (some 4) 0<|.ex fun (x11:Bool)=>ao (.jn ⟨[(4,(.b x11))],[],H0⟩)<|.nil)) (Ii<|.jb (some 4) 0<|.ex fun (x10:Bool)=>ao (.jn ⟨[(4,(.b x10))],[],H0⟩)<|.nil)) fun L=>aJ h (fun h9 h=>vL h9<|aJ h (fun h10 h=>vL h10<|bu h (fun h11 h=>ai (g0 (decide_eq_true h11))<|ai (g0 (decide_eq_true h11))<|ai (g0 (decide_eq_true h11))<|ai (g0 (decide_eq_true h11))<|ai (g1 h10)<|ai (decide_eq_true h11)<|ai (g1 h9)<|ai h10<|jv h9<|aw h (jN a0 a1 r4 u2_1 false [(.b false),(.b true),(.b true),.sk,.sk,.sk,.sk,.sk,.sk,.sk,(.b (decide (7<r4.2))),(.b (decide (7<r4.2))),(I r4.2),(.b (r4.1==2)),(.b (r4.1==2)),(I r4.1),(W w 0),(W w 1),(W w 2),(W w 3),(W w 4),(W w 5),(W w 6),(W w 7),(W w 8),(W w 9),(W w 10),(W w 11),(W w 12)]) fun x12 h=>L h) (fun h11 h=>E1 (decide_eq_false h11)<|bu h (fun h12 h=>ie (decide_eq_true h12)<|ai (rI 0)<|br h fun ob h14 h=>ai (congrArg (Option.map fun z:UInt8=>(z.toNat:Int)) h14)<|ai (g1 (decide_eq_true h12))<|ai (g0 (decide_eq_false h11))<|ai (decide_eq_true h12)<|ai (g1 h10)<|ai (decide_eq_false h11)<|ai (g1 h9)<|ai h10<|jv h9<|aw h (jN a0 a1 r4 u2_1 (!((ob.toNat:Int)==48)) [(.b (!((ob.toNat:Int)==48))),(.b ((ob.toNat:Int)==48)),(.b ((ob.toNat:Int)==48)),(.b ((ob.toNat:Int)==48)),(.b ((ob.toNat:Int)==48)),(.i .u8 (ob.toNat:Int)),(.s a1),(.b (decide (1<r4.2))),(.b (decide (1<r4.2))),(I r4.2),(.b (decide (7<r4.2))),(.b (decide (7<r4.2))),(I r4.2),(.b (r4.1==2)),(.b (r4.1==2)),(I r4.1),(W w 0),(W w 1),(W w 2),(W w 3),(W w 4),(W w 5),(W w 6),(W w 7),(W w 8),(W w 9),(W w 10),(W w 11),(W w 12)]) fun x15 h=>L h) (fun h12 h=>vL (decide_eq_false h12)<|ai (g0 (decide_eq_false h11))<|ai (decide_eq_false h12)<|ai (g1 h10)<|ai (decide_eq_false h11)<|ai (g1 h9)<|ai h10<|jv h9<|aw h (jN a0 a1 r4 u2_1 true [(.b true),(.b false),(.b false),(.b false),.sk,.sk,.sk,(.b (decide (1<r4.2))),(.b (decide (1<r4.2))),(I r4.2),(.b (decide (7<r4.2))),(.b (decide (7<r4.2))),(I r4.2),(.b (r4.1==2)),(.b (r4.1==2)),(I r4.1),(W w 0),(W w 1),(W w 2),(W w 3),(W w 4),(W w 5),(W w 6),(W w 7),(W w 8),(W w 9),(W w 10),(W w 11),(W w 12)]) fun x13 h=>L h))) (fun h10 h=>zk h10<|ai (g1 h9)<|ai h10<|jv h9<|aw h (jN a0 a1 r4 u2_1 true [(.b true),(.b false),.sk,.sk,.sk,.sk,.sk,.sk,.sk,.sk,.sk,.sk,.sk,(.b (r4.1==2)),(.b (r4.1==2)),(I r4.1),(W w 0),(W w 1),(W w 2),(W w 3),(W w 4),(W w 5),(W w 6),(W w 7),(W w 8),(W w 9),(W w 10),(W w 11),(W w 12)]) fun x11 h=>L h)) (fun h9 h=>Ib h9<|aw h (jN a0 a1 r4 u2_1 false [.sk,.sk,.sk,.sk,.sk,.sk,.sk,.sk,.sk,.sk,.sk,.sk,.sk,.sk,.sk,.sk,(W w 0),(W w 1),(W w 2),(W w 3),(W w 4),(W w 5),(W w 6),(W w 7),(W w 8),(W w 9),(W w 10),(W w 11),(W w 12)]) fun x10 h=>L h)
def CE:List cL:=(gM 23 5)::(gM 24 0)::(gB 25 .eql 23 24)::(gM 26 25)::⟨some 27,.mv 6,some ⟨26,true⟩,false⟩::⟨some 28,.mv 1,some ⟨26,true⟩,false⟩::⟨some 29,.ln true 28,some ⟨26,true⟩,false⟩::⟨some 30,.bo .eql false 27 29,some ⟨26,true⟩,false⟩::(gp 31 (.pk 26 30 (.c (.b false))))::(gM 32 31)::⟨some 33,.mv 5,some ⟨32,true⟩,false⟩::⟨some 34,.bo .eql false 33 (kI 1),some ⟨32,true⟩,false⟩::⟨some 35,.mv 34,some ⟨32,true⟩,false⟩::⟨some 36,.mv 6,some ⟨35,true⟩,false⟩::⟨some 37,.bo .gtr false 36 (kI 12),some ⟨35,true⟩,false⟩::⟨some 38,.pk 35 37 (.c (.b false)),some ⟨32,true⟩,false⟩::⟨some 39,.no 38,some ⟨32,true⟩,false⟩::(gp 40 (.pk 32 39 (.c (.b false))))::vm
def qJ(r4:(Int×Int)):Option Bool:=
 if (r4.1==a0)=true then
  if (r4.2==(a1.length:Int))=true then
   if (r4.1==1)=true then
    (iM a0 a1 r4 (!(decide (12<r4.2)))).bind fun (x9:Bool)=>
    some x9
   else
    (iM a0 a1 r4 true).bind fun (x9:Bool)=>
    some x9
  else
   (iM a0 a1 r4 false).bind fun (x8:Bool)=>
   some x8
 else
  (iM a0 a1 r4 false).bind fun (x7:Bool)=>
  some x7
abbrev CF(a0:Int)(a1:(List UInt8))(r4:(Int×Int))(x:Bool):St:=⟨[(4,(.b x))],[],H0⟩
theorem AN(r4:(Int×Int))(x:Bool)(h:qJ a0 a1 r4=some x):eB G Ω0 E0 [4] [] CE ⟨[(0,(I a0)),(1,(.s a1)),(5,(I r4.1)),(6,(I r4.2))],[],H0⟩=some (CF a0 a1 r4 x):=
 dv (.or (eI<|ao (.i (a1.length:Int))<|cu<|.or (eI<|.or (E7<|.jb (some 41) 18<|.ex fun (x9:Bool)=>ao (.jn ⟨[(4,(.b x9))],[],H0⟩)<|.nil) (bf<|bf<|bt<|bf<|bt<|bt<|.jb (some 41) 18<|.ex fun (x9:Bool)=>ao (.jn ⟨[(4,(.b x9))],[],H0⟩)<|.nil)) (Ii<|.jb (some 41) 18<|.ex fun (x8:Bool)=>ao (.jn ⟨[(4,(.b x8))],[],H0⟩)<|.nil)) (Qf<|.jb (some 41) 18<|.ex fun (x7:Bool)=>ao (.jn ⟨[(4,(.b x7))],[],H0⟩)<|.nil)) fun L=>aJ h (fun h6 h=>vL h6<|ai (rfl:(a1.length:Int)=(a1.length:Int))<|jv h6<|aJ h (fun h7 h=>vL h7<|aJ h (fun h8 h=>ie h8<|ai (g1 h7)<|ai h8<|jv h7<|aw h (lS a0 a1 r4 (!(decide (12<r4.2))) [(.b (!(decide (12<r4.2)))),(.b (decide (12<r4.2))),(.b (decide (12<r4.2))),(I r4.2),(.b (r4.1==1)),(.b (r4.1==1)),(I r4.1),(.b (r4.2==(a1.length:Int))),(.b (r4.2==(a1.length:Int))),(.b (r4.2==(a1.length:Int))),(I (a1.length:Int)),(.s a1),(I r4.2)]) fun x9 h=>L h) (fun h8 h=>ie h8<|ai (g1 h7)<|ai h8<|jv h7<|aw h (lS a0 a1 r4 true [(.b true),(.b false),.sk,.sk,(.b (r4.1==1)),(.b (r4.1==1)),(I r4.1),(.b (r4.2==(a1.length:Int))),(.b (r4.2==(a1.length:Int))),(.b (r4.2==(a1.length:Int))),(I (a1.length:Int)),(.s a1),(I r4.2)]) fun x9 h=>L h)) (fun h7 h=>Ib h7<|aw h (lS a0 a1 r4 false [.sk,.sk,.sk,.sk,.sk,.sk,.sk,(.b (r4.2==(a1.length:Int))),(.b (r4.2==(a1.length:Int))),(.b (r4.2==(a1.length:Int))),(I (a1.length:Int)),(.s a1),(I r4.2)]) fun x8 h=>L h)) (fun h6 h=>ai (g1 h6)<|ai (g1 h6)<|ai (g1 h6)<|ai (g1 h6)<|ai h6<|ai gf<|ai gf<|ai gf<|ai gf<|ai gf<|ai ff<|aw h (lS a0 a1 r4 false [.sk,.sk,.sk,.sk,.sk,.sk,.sk,(.b false),(.b false),.sk,.sk,.sk,.sk]) fun x7 h=>L h)
abbrev GZ(a0:Int)(a1:(List UInt8))(r:Bool):aZ×HP:=(.ret (.b r),H0)
def qY:Option Bool:=
 if (a1==([]:List UInt8))=true then
  some false
 else
  if 6000<(a1.length:Int) then
   some false
  else
   if (a0==0)=true then
    some false
   else
    (qX a1 0).bind fun (r4:(Int×Int))=>
    (qJ a0 a1 r4).bind fun (x6:Bool)=>
    some x6
theorem CG(r:Bool)(h:qY a0 a1=some r):call G Ω0 E0 73 [(I a0),(.s a1)] H0=some (GZ a0 a1 r):=
 aH G73 (.or (bf<|bf<|bf<|bt<|bf<|bf<|bt<|bt<|.nil) (cu<|ao (.i (a1.length:Int))<|jG<|.or (bf<|bf<|bt<|bt<|.nil) (yR<|oN (.ex fun (r4:(Int×Int))=>ao (.v (.tp [(I r4.1),(I r4.2)]))<|.jb (some 23) 36<|.ex fun (x6:Bool)=>ao (.jn ⟨[(4,(.b x6))],[],H0⟩)<|.nil)))) fun L=>aJ h (fun h1 h=>ai (g0 h1)<|ai (g0 h1)<|ai (g0 h1)<|ai h1<|ai ht<|ai ht<|ai tt<|ai tt<|L h) (fun h1 h=>Dq h1<|ai (rfl:(a1.length:Int)=(a1.length:Int))<|o9 h1<|bu h (fun h2 h=>ai (g0 (decide_eq_true h2))<|ai (g0 (decide_eq_true h2))<|ai (decide_eq_true h2)<|ai tt<|L h) (fun h2 h=>uy (decide_eq_false h2)<|aJ h (fun h3 h=>ai h3<|L h) (fun h3 h=>ai h3<|aw h (CB a1 0) fun r4 h=>aw h (AN a0 a1 r4) fun x6 h=>L h)))
end
section
variable (a0:(List UInt8))
def sW(v0_4:Nat):Option (Nat⊕(Unit⊕(Nat×Bool))):=
 if (v0_4:Int)<((([[97,99,116,111,114],[103,114,97,110,116],[115,112,101,97,107],[105,110],[111,117,116],[118,97,114],[102,117,110,99],[109,97,105,110],[103,101,116],[112,117,116],[114,101,118,101,97,108],[116,114,117,115,116],[105,102],[101,108,115,101],[119,104,105,108,101],[114,101,116,117,114,110]]).length:Nat):Int) then
  (([[97,99,116,111,114],[103,114,97,110,116],[115,112,101,97,107],[105,110],[111,117,116],[118,97,114],[102,117,110,99],[109,97,105,110],[103,101,116],[112,117,116],[114,101,118,101,97,108],[116,114,117,115,116],[105,102],[101,108,115,101],[119,104,105,108,101],[114,101,116,117,114,110]])[v0_4]?).bind fun (y2:(List UInt8))=>
  if (y2==a0)=true then
   some (.inr (.inl ()))
  else
   if IntKind.i64.wrap ((v0_4:Int)+1)=((v0_4+1:Nat):Int) then
    some (.inl (v0_4+1))
   else none
 else
  some (.inr (.inr (v0_4,decide ((v0_4:Int)<((([[97,99,116,111,114],[103,114,97,110,116],[115,112,101,97,107],[105,110],[111,117,116],[118,97,114],[102,117,110,99],[109,97,105,110],[103,101,116],[112,117,116],[114,101,118,101,97,108],[116,114,117,115,116],[105,102],[101,108,115,101],[119,104,105,108,101],[114,101,116,117,114,110]]).length:Nat):Int)))))
abbrev Fu(v:Nat):St:=⟨[(0,(.s a0)),(3,(.l 9 (([[97,99,116,111,114],[103,114,97,110,116],[115,112,101,97,107],[105,110],[111,117,116],[118,97,114],[102,117,110,99],[109,97,105,110],[103,101,116],[112,117,116],[114,101,118,101,97,108],[116,114,117,115,116],[105,102],[101,108,115,101],[119,104,105,108,101],[114,101,116,117,114,110]]).map AV.s))),(4,(I (v:Int)))],[],H0⟩
abbrev Fv(x:(Unit⊕(Nat×Bool))):aK×St:=match x with | .inl ()=>(.ret,⟨[(2,(.b true))],[],H0⟩) | .inr (z1,z2)=>((.ex 0),⟨[(0,(.s a0)),(3,(.l 9 (([[97,99,116,111,114],[103,114,97,110,116],[115,112,101,97,107],[105,110],[111,117,116],[118,97,114],[102,117,110,99],[109,97,105,110],[103,101,116],[112,117,116],[114,101,118,101,97,108],[116,114,117,115,116],[105,102],[101,108,115,101],[119,104,105,108,101],[114,101,116,117,114,110]]).map AV.s))),(4,(I (z1:Int))),(9,(.b z2))],[],H0⟩)
theorem D3(v0_4:Nat)(o:Nat⊕(Unit⊕(Nat×Bool)))(h:sW a0 v0_4=some o):bH E0 Mf (Fu a0) (Fv a0) v0_4 o:=
 bV (ao (.i ((([[97,99,116,111,114],[103,114,97,110,116],[115,112,101,97,107],[105,110],[111,117,116],[118,97,114],[102,117,110,99],[109,97,105,110],[103,101,116],[112,117,116],[114,101,118,101,97,108],[116,114,117,115,116],[105,102],[101,108,115,101],[119,104,105,108,101],[114,101,116,117,114,110]]).length:Nat):Int))<|.or (bt<|ao (.n v0_4)<|.ex fun (y2:(List UInt8))=>ao (.v (.s y2))<|oN (ao (.i ((v0_4+1:Nat):Int))<|.nil)) (bf<|.nil)) fun L=>ai (aO AV.s ([[97,99,116,111,114],[103,114,97,110,116],[115,112,101,97,107],[105,110],[111,117,116],[118,97,114],[102,117,110,99],[109,97,105,110],[103,101,116],[112,117,116],[114,101,118,101,97,108],[116,114,117,115,116],[105,102],[101,108,115,101],[119,104,105,108,101],[114,101,116,117,114,110]]))<|bu h (fun h1 h=>ai (decide_eq_true h1)<|ai (rI v0_4)<|br h fun y2 h3 h=>ai (cj AV.s h3)<|aJ h (fun h4 h=>ai h4<|L h) (fun h4 h=>ai h4<|aj h fun w5 h=>ai w5<|L h)) (fun h1 h=>ai (decide_eq_false h1)<|L h)
abbrev Il(a0:(List UInt8))(r:Bool):aZ×HP:=(.ret (.b r),H0)
def sf:Option Bool:=
 (lp (fun v=>sW a0 v) 0).bind fun (x1:(Unit⊕(Nat×Bool)))=>match x1 with
 | .inl ya_2=>
  some true
 | .inr yb_2=>
  some false
theorem D4(r:Bool)(h:sf a0=some r):call G Ω0 E0 74 [(.s a0)] H0=some (Il a0 r):=
 aH G74 (ao (.l (([[97,99,116,111,114],[103,114,97,110,116],[115,112,101,97,107],[105,110],[111,117,116],[118,97,114],[102,117,110,99],[109,97,105,110],[103,101,116],[112,117,116],[114,101,118,101,97,108],[116,114,117,115,116],[105,102],[101,108,115,101],[119,104,105,108,101],[114,101,116,117,114,110]]).map AV.s))<|.or (.ex fun (ya_2:Unit)=>ao (.lp .ret ⟨[(2,(.b true))],[],H0⟩)<|.nil) (.ex fun (yb_2:(Nat×Bool))=>ao (.lp (.ex 0) ⟨[(0,(.s a0)),(3,(.l 9 (([[97,99,116,111,114],[103,114,97,110,116],[115,112,101,97,107],[105,110],[111,117,116],[118,97,114],[102,117,110,99],[109,97,105,110],[103,101,116],[112,117,116],[114,101,118,101,97,108],[116,114,117,115,116],[105,102],[101,108,115,101],[119,104,105,108,101],[114,101,116,117,114,110]]).map AV.s))),(4,(I (yb_2.1:Int))),(9,(.b yb_2.2))],[],H0⟩)<|.nil)) fun L=>ai (rfl:[(.s ([97,99,116,111,114])),(.s ([103,114,97,110,116])),(.s ([115,112,101,97,107])),(.s ([105,110])),(.s ([111,117,116])),(.s ([118,97,114])),(.s ([102,117,110,99])),(.s ([109,97,105,110])),(.s ([103,101,116])),(.s ([112,117,116])),(.s ([114,101,118,101,97,108])),(.s ([116,114,117,115,116])),(.s ([105,102])),(.s ([101,108,115,101])),(.s ([119,104,105,108,101])),(.s ([114,101,116,117,114,110]))]=([[97,99,116,111,114],[103,114,97,110,116],[115,112,101,97,107],[105,110],[111,117,116],[118,97,114],[102,117,110,99],[109,97,105,110],[103,101,116],[112,117,116],[114,101,118,101,97,108],[116,114,117,115,116],[105,102],[101,108,115,101],[119,104,105,108,101],[114,101,116,117,114,110]]).map AV.s)<|bW h (eH (D3 a0) 0) (fun ya_2 h=>L h) (fun yb_2 h=>L h)
abbrev Im(a0:(List UInt8))(r:Bool):aZ×HP:=(.ret (.b r),H0)
def dx:Option Bool:=
 (qY 1 a0).bind fun (r1:Bool)=>
 if r1=true then
  (sf a0).bind fun (r4:Bool)=>
  some (!r4)
 else
  some false
theorem dj(r:Bool)(h:dx a0=some r):call G Ω0 E0 36 [(.s a0)] H0=some (Im a0 r):=
 aH G36 (xB fun r1=>.or (cu<|xB fun r4=>cu<|.nil) (xn<|.nil)) fun L=>aw h (CG 1 a0) fun r1 h=>aJ h (fun h3 h=>ie h3<|aw h (D4 a0) fun r4 h=>jv h3<|L h) (fun h3 h=>ru h3<|L h)
def wF:List cL:=(gA 2 21)::[]
end
section
variable (a0:ad)
def jA(a0:ad)(u2_1:Bool):Option Bool:=
 some u2_1
abbrev D5(a0:ad)(u2_1:Bool)(x:Bool):St:=⟨[(2,(.b x))],[],H0⟩
theorem nh(u2_1:Bool)(w:List AV)(x:Bool)(h:jA a0 u2_1=some x):eB G Ω0 E0 [2] [] wF ⟨[(21,(.b u2_1)),(20,(W w 0)),(19,(W w 1)),(18,(W w 2)),(17,(W w 3)),(16,(W w 4)),(15,(W w 5)),(14,(W w 6)),(13,(W w 7)),(12,(W w 8)),(11,(W w 9)),(10,(W w 10)),(9,(W w 11)),(8,(W w 12)),(7,(W w 13)),(6,(.b (a0.Kind==0))),(5,(.b (a0.Kind==0))),(4,(I a0.Kind)),(3,(.p ⟨0,1⟩ 0)),(1,(.p ⟨0,1⟩ 0))],[(1,(aY a0))],H0⟩=some (D5 a0 u2_1 x):=
 dv (.nil) fun L=>L h
def D6:List cL:=(gF 3 0 1)::(gQ 4 3)::(gB 5 .eql 4 (kI 0))::(gM 6 5)::⟨some 7,.fa 2 1,some ⟨6,true⟩,false⟩::⟨some 8,.ld none 7,some ⟨6,true⟩,false⟩::⟨some 9,.bo .eql false 8 (kI 0),some ⟨6,true⟩,false⟩::(gp 10 (.pk 6 9 (.c (.b false))))::(gM 11 10)::⟨some 12,.fa 3 1,some ⟨11,true⟩,false⟩::⟨some 13,.ld none 12,some ⟨11,true⟩,false⟩::⟨some 14,.bo .eql false 13 (.c (.s [])),some ⟨11,true⟩,false⟩::(gp 15 (.pk 11 14 (.c (.b false))))::(gM 16 15)::⟨some 17,.fa 4 1,some ⟨16,true⟩,false⟩::⟨some 18,.ld none 17,some ⟨16,true⟩,false⟩::⟨some 19,.ln false 18,some ⟨16,true⟩,false⟩::⟨some 20,.bo .eql false 19 (kI 0),some ⟨16,true⟩,false⟩::(gp 21 (.pk 16 20 (.c (.b false))))::wF
def rz:Option Bool:=
 if (a0.Kind==0)=true then
  if (a0.N==0)=true then
   if (a0.Name==([]:List UInt8))=true then
    (jA a0 ((a0.Args.length:Int)==0)).bind fun (x4:Bool)=>
    some x4
   else
    (jA a0 false).bind fun (x4:Bool)=>
    some x4
  else
   (jA a0 false).bind fun (x3:Bool)=>
   some x3
 else
  (jA a0 false).bind fun (x2:Bool)=>
  some x2
abbrev D7(a0:ad)(x:Bool):St:=⟨[(2,(.b x))],[],H0⟩
theorem CH(x:Bool)(h:rz a0=some x):eB G Ω0 E0 [2] [] D6 ⟨[(1,(.p ⟨0,1⟩ 0))],[(1,(aY a0))],H0⟩=some (D7 a0 x):=
 dv (bt<|.or (pJ<|.or (pJ<|.or (dD<|ao (.i (a0.Args.length:Int))<|cu<|.jb (some 2) 0<|.ex fun (x4:Bool)=>ao (.jn ⟨[(2,(.b x4))],[],H0⟩)<|.nil) (Ig<|.jb (some 2) 0<|.ex fun (x4:Bool)=>ao (.jn ⟨[(2,(.b x4))],[],H0⟩)<|.nil)) (Fc<|.jb (some 2) 0<|.ex fun (x3:Bool)=>ao (.jn ⟨[(2,(.b x3))],[],H0⟩)<|.nil)) (Fa<|.jb (some 2) 0<|.ex fun (x2:Bool)=>ao (.jn ⟨[(2,(.b x2))],[],H0⟩)<|.nil)) fun L=>ai (rfl:Z0)<|aJ h (fun h1 h=>BH h1<|aJ h (fun h2 h=>BH h2<|aJ h (fun h3 h=>fH h3<|ai (aO av a0.Args)<|jv h3<|aw h (nh a0 ((a0.Args.length:Int)==0) [(.b ((a0.Args.length:Int)==0)),(I (a0.Args.length:Int)),(.l 44 (a0.Args.map av)),(.p ⟨0,1⟩ 4),(.b (a0.Name==([]:List UInt8))),(.b (a0.Name==([]:List UInt8))),(.b (a0.Name==([]:List UInt8))),(.s a0.Name),(.p ⟨0,1⟩ 3),(.b (a0.N==0)),(.b (a0.N==0)),(.b (a0.N==0)),(I a0.N),(.p ⟨0,1⟩ 2)]) fun x4 h=>L h) (fun h3 h=>E3 h3<|aw h (nh a0 false [.sk,.sk,.sk,.sk,(.b (a0.Name==([]:List UInt8))),(.b (a0.Name==([]:List UInt8))),(.b (a0.Name==([]:List UInt8))),(.s a0.Name),(.p ⟨0,1⟩ 3),(.b (a0.N==0)),(.b (a0.N==0)),(.b (a0.N==0)),(I a0.N),(.p ⟨0,1⟩ 2)]) fun x4 h=>L h)) (fun h2 h=>ai (g1 h2)<|ai (g1 h2)<|ai (g1 h2)<|ai h2<|ai gf<|ai gf<|ai gf<|ai gf<|ai ff<|aw h (nh a0 false [.sk,.sk,.sk,.sk,(.b false),(.b false),.sk,.sk,.sk,(.b (a0.N==0)),(.b (a0.N==0)),(.b (a0.N==0)),(I a0.N),(.p ⟨0,1⟩ 2)]) fun x3 h=>L h)) (fun h1 h=>ai (g1 h1)<|ai (g1 h1)<|ai (g1 h1)<|ai h1<|ai gf<|ai gf<|ai gf<|ai ff<|ai gf<|ai gf<|ai gf<|ai gf<|ai ff<|aw h (nh a0 false [.sk,.sk,.sk,.sk,(.b false),(.b false),.sk,.sk,.sk,(.b false),(.b false),.sk,.sk,.sk]) fun x2 h=>L h)
abbrev Io(a0:ad)(r:Bool):aZ×HP:=(.ret (.b r),H0)
def nj:Option Bool:=
 (rz a0).bind fun (x1:Bool)=>
 some x1
theorem rA(r:Bool)(h:nj a0=some r):call G Ω0 E0 37 [(.a (aY a0))] H0=some (Io a0 r):=
 aH G37 (.jb (some 3) 19<|.ex fun (x1:Bool)=>ao (.jn ⟨[(2,(.b x1))],[],H0⟩)<|.nil) fun L=>ai tt<|aw h (CH a0) fun x1 h=>L h
abbrev Ip(a0:ad)(r:Bool):aZ×HP:=(.ret (.b r),H0)
abbrev vP(r:Bool):Prop:=call G Ω0 E0 38 [(.a (aY a0))] H0=some (Ip a0 r)
end
structure vQ where
 f_R_isExpr:ad→Option Bool
structure qZ(R:vQ):Prop where
 f_R_isExpr:∀ (a0:ad)(r:Bool),R.f_R_isExpr a0=some r→vP a0 r
section
variable (R:vQ)(a0:ad)
def wG:List cL:=(gM 64 63)::⟨some 65,.fa 4 1,some ⟨64,true⟩,false⟩::⟨some 66,.ld none 65,some ⟨64,true⟩,false⟩::⟨some 67,.ia 5 none 66 (kI 1),some ⟨64,true⟩,false⟩::⟨some 68,.ld (some 5) 67,some ⟨64,true⟩,false⟩::⟨some 69,.ca 0 38 [68],some ⟨64,true⟩,false⟩::(gp 70 (.pk 64 69 (.c (.b false))))::(gA 2 70)::[]
def jB(r3:Bool)(u2_1:Bool):Option Bool:=
 if u2_1=true then
  (a0.Args[1]?).bind fun (y14:ad)=>
  (R.f_R_isExpr y14).bind fun (r16:Bool)=>
  some r16
 else
  some false
abbrev D8(a0:ad)(r3:Bool)(u2_1:Bool)(x:Bool):St:=⟨[(2,(.b x))],[],H0⟩
theorem np(hR:qZ R)(a0:ad)(r3:Bool)(u2_1:Bool)(w:List AV)(x:Bool)(h:jB R a0 r3 u2_1=some x):eB G Ω0 E0 [2] [] wG ⟨[(63,(.b u2_1)),(62,(W w 0)),(61,(W w 1)),(60,(W w 2)),(59,(W w 3)),(58,(W w 4)),(57,(W w 5)),(56,(W w 6)),(55,(W w 7)),(54,(W w 8)),(53,(W w 9)),(52,(W w 10)),(51,(W w 11)),(50,(W w 12)),(49,(W w 13)),(48,(W w 14)),(47,(W w 15)),(46,(.b (a0.N==0))),(45,(.b (a0.N==0))),(44,(I a0.N)),(43,(.p ⟨0,1⟩ 2)),(1,(.p ⟨0,1⟩ 0)),(39,(.b r3))],[(1,(aY a0))],H0⟩=some (D8 a0 r3 u2_1 x):=
 dv (.or (dD<|ao (.n 1)<|.ex fun (y14:ad)=>ao (.v (.a (aY y14)))<|cu<|xB fun r16=>bt<|.nil) (Ii<|.nil)) fun L=>aJ h (fun h13 h=>fH h13<|ai (rI 1)<|br h fun y14 h15 h=>ai (cX av h15 (b9 _))<|ie h13<|aw h (hR.f_R_isExpr y14) fun r16 h=>ai h13<|L h) (fun h13 h=>Ib h13<|L h)
def D9:List cL:=(gF 43 2 1)::(gQ 44 43)::(gB 45 .eql 44 (kI 0))::(gM 46 45)::⟨some 47,.fa 3 1,some ⟨46,true⟩,false⟩::⟨some 48,.ld none 47,some ⟨46,true⟩,false⟩::⟨some 49,.bo .eql false 48 (.c (.s [])),some ⟨46,true⟩,false⟩::(gp 50 (.pk 46 49 (.c (.b false))))::(gM 51 50)::⟨some 52,.fa 4 1,some ⟨51,true⟩,false⟩::⟨some 53,.ld none 52,some ⟨51,true⟩,false⟩::⟨some 54,.ln false 53,some ⟨51,true⟩,false⟩::⟨some 55,.bo .eql false 54 (kI 2),some ⟨51,true⟩,false⟩::(gp 56 (.pk 51 55 (.c (.b false))))::(gM 57 56)::⟨some 58,.fa 4 1,some ⟨57,true⟩,false⟩::⟨some 59,.ld none 58,some ⟨57,true⟩,false⟩::⟨some 60,.ia 5 none 59 (kI 0),some ⟨57,true⟩,false⟩::⟨some 61,.ld (some 5) 60,some ⟨57,true⟩,false⟩::⟨some 62,.ca 0 38 [61],some ⟨57,true⟩,false⟩::(gp 63 (.pk 57 62 (.c (.b false))))::wG
def rB(r3:Bool):Option Bool:=
 if (a0.N==0)=true then
  if (a0.Name==([]:List UInt8))=true then
   if ((a0.Args.length:Int)==2)=true then
    (a0.Args[0]?).bind fun (y9:ad)=>
    (R.f_R_isExpr y9).bind fun (r11:Bool)=>
    (jB R a0 r3 r11).bind fun (x13:Bool)=>
    some x13
   else
    (jB R a0 r3 false).bind fun (x9:Bool)=>
    some x9
  else
   (jB R a0 r3 false).bind fun (x8:Bool)=>
   some x8
 else
  (jB R a0 r3 false).bind fun (x7:Bool)=>
  some x7
abbrev Ea(a0:ad)(r3:Bool)(x:Bool):St:=⟨[(2,(.b x))],[],H0⟩
theorem CI(hR:qZ R)(a0:ad)(r3:Bool)(x:Bool)(h:rB R a0 r3=some x):eB G Ω0 E0 [2] [] D9 ⟨[(1,(.p ⟨0,1⟩ 0)),(39,(.b r3))],[(1,(aY a0))],H0⟩=some (Ea a0 r3 x):=
 dv (bt<|.or (pJ<|.or (dD<|ao (.i (a0.Args.length:Int))<|cu<|.or (dD<|ao (.n 0)<|.ex fun (y9:ad)=>ao (.v (.a (aY y9)))<|cu<|xB fun r11=>bt<|.jb (some 64) 7<|.ex fun (x13:Bool)=>ao (.jn ⟨[(2,(.b x13))],[],H0⟩)<|.nil) (Ii<|.jb (some 64) 7<|.ex fun (x9:Bool)=>ao (.jn ⟨[(2,(.b x9))],[],H0⟩)<|.nil)) (Qf<|.jb (some 64) 7<|.ex fun (x8:Bool)=>ao (.jn ⟨[(2,(.b x8))],[],H0⟩)<|.nil)) (bf<|bf<|bf<|bf<|bf<|bf<|bf<|bf<|bf<|bf<|bf<|bf<|bf<|bf<|bf<|.jb (some 64) 7<|.ex fun (x7:Bool)=>ao (.jn ⟨[(2,(.b x7))],[],H0⟩)<|.nil)) fun L=>ai (rfl:Z0)<|aJ h (fun h6 h=>BH h6<|aJ h (fun h7 h=>fH h7<|ai (aO av a0.Args)<|jv h7<|aJ h (fun h8 h=>fH h8<|ai (rI 0)<|br h fun y9 h10 h=>ai (cX av h10 (b9 _))<|ie h8<|aw h (hR.f_R_isExpr y9) fun r11 h=>ai h8<|aw h (np R hR a0 r3 r11 [(.b r11),(.a (aY y9)),(.e (.a (aY y9)) 0),(.l 44 (a0.Args.map av)),(.p ⟨0,1⟩ 4),(.b ((a0.Args.length:Int)==2)),(.b ((a0.Args.length:Int)==2)),(.b ((a0.Args.length:Int)==2)),(I (a0.Args.length:Int)),(.l 44 (a0.Args.map av)),(.p ⟨0,1⟩ 4),(.b (a0.Name==([]:List UInt8))),(.b (a0.Name==([]:List UInt8))),(.b (a0.Name==([]:List UInt8))),(.s a0.Name),(.p ⟨0,1⟩ 3)]) fun x13 h=>L h) (fun h8 h=>Ib h8<|aw h (np R hR a0 r3 false [.sk,.sk,.sk,.sk,.sk,(.b ((a0.Args.length:Int)==2)),(.b ((a0.Args.length:Int)==2)),(.b ((a0.Args.length:Int)==2)),(I (a0.Args.length:Int)),(.l 44 (a0.Args.map av)),(.p ⟨0,1⟩ 4),(.b (a0.Name==([]:List UInt8))),(.b (a0.Name==([]:List UInt8))),(.b (a0.Name==([]:List UInt8))),(.s a0.Name),(.p ⟨0,1⟩ 3)]) fun x9 h=>L h)) (fun h7 h=>ai (g1 h7)<|ai (g1 h7)<|ai (g1 h7)<|ai (g1 h7)<|ai h7<|ai gf<|ai gf<|ai gf<|ai gf<|ai gf<|ai ff<|aw h (np R hR a0 r3 false [.sk,.sk,.sk,.sk,.sk,(.b false),(.b false),.sk,.sk,.sk,.sk,(.b (a0.Name==([]:List UInt8))),(.b (a0.Name==([]:List UInt8))),(.b (a0.Name==([]:List UInt8))),(.s a0.Name),(.p ⟨0,1⟩ 3)]) fun x8 h=>L h)) (fun h6 h=>ai (g1 h6)<|ai (g1 h6)<|ai (g1 h6)<|ai h6<|ai gf<|ai gf<|ai gf<|ai gf<|ai ff<|ai gf<|ai gf<|ai gf<|ai gf<|ai gf<|ai ff<|aw h (np R hR a0 r3 false [.sk,.sk,.sk,.sk,.sk,(.b false),(.b false),.sk,.sk,.sk,.sk,(.b false),(.b false),.sk,.sk,.sk]) fun x7 h=>L h)
def q0:Option Bool:=
 if (a0.Kind==1)=true then
  if (a0.Name==([]:List UInt8))=true then
   if ((a0.Args.length:Int)==0)=true then
    (eD a0.N (-9999999) 9999999).bind fun (r4:Bool)=>
    some r4
   else
    some false
  else
   some false
 else
  if (a0.Kind==2)=true then
   if (a0.N==0)=true then
    if ((a0.Args.length:Int)==0)=true then
     (dx a0.Name).bind fun (r5:Bool)=>
     some r5
    else
     some false
   else
    some false
  else
   (eD a0.Kind 3 7).bind fun (r3:Bool)=>
   if r3=true then
    (rB R a0 r3).bind fun (x6:Bool)=>
    some x6
   else
    some false
theorem CJ(hR:qZ R)(a0:ad)(r:Bool)(h:q0 R a0=some r):vP a0 r:=
 aH G38 (bt<|.or (cu<|.or (dD<|ao (.i (a0.Args.length:Int))<|cu<|.or (dD<|xB fun r4=>bt<|.nil) (xn<|.nil)) (Fc<|.nil)) (yT<|.or (cu<|.or (dD<|ao (.i (a0.Args.length:Int))<|cu<|.or (dD<|xB fun r5=>bt<|.nil) (xn<|.nil)) (Fc<|.nil)) (yT<|xB fun r3=>.or (bt<|.jb (some 43) 28<|.ex fun (x6:Bool)=>ao (.jn ⟨[(2,(.b x6))],[],H0⟩)<|.nil) (bf<|.nil)))) fun L=>od<|aJ h (fun h1 h=>fO h1<|aJ h (fun h2 h=>fH h2<|ai (aO av a0.Args)<|jv h2<|aJ h (fun h3 h=>fH h3<|aw h (eN a0.N (-9999999) 9999999) fun r4 h=>ai h3<|L h) (fun h3 h=>ru h3<|L h)) (fun h2 h=>KC h2<|L h)) (fun h1 h=>fO h1<|aJ h (fun h2 h=>fO h2<|aJ h (fun h3 h=>fH h3<|ai (aO av a0.Args)<|jv h3<|aJ h (fun h4 h=>fH h4<|aw h (dj a0.Name) fun r5 h=>ai h4<|L h) (fun h4 h=>ru h4<|L h)) (fun h3 h=>KC h3<|L h)) (fun h2 h=>fO h2<|aw h (eN a0.Kind 3 7) fun r3 h=>aJ h (fun h5 h=>ai h5<|aw h (CI R hR a0 r3) fun x6 h=>L h) (fun h5 h=>ai h5<|L h)))
def nq:Nat→vQ
 | 0=>⟨fun z0=>none⟩
 | n+1=>⟨q0 (nq n)⟩
theorem yV:∀ n,qZ (nq n)
 | 0=>⟨fun _ r h=>(by cases h)⟩
 | n+1=>⟨fun a0 r h=>CJ _ (yV n) a0 r h⟩
def jO:Option Bool:=ev fun n=>(nq n).f_R_isExpr a0
theorem jC(r:Bool)(h:jO a0=some r):vP a0 r:=by
 obtain ⟨n,hn⟩:=iD h
 exact (yV n).f_R_isExpr a0 r hn
end
section
variable (a0:(List aa))
abbrev Fw(a0:(List aa))(r:Bool):aZ×HP:=(.ret (.b r),H0)
abbrev sX(r:Bool):Prop:=call G Ω0 E0 15 [(.l 68 (a0.map ab))] H0=some (Fw a0 r)
end
structure kx where
 f_R_areStmts:(List aa)→Option Bool
structure fm(R:kx):Prop where
 f_R_areStmts:∀ (a0:(List aa))(r:Bool),R.f_R_areStmts a0=some r→sX a0 r
section
variable (R:kx)(a0:(List aa))
def iN(R:kx)(a0:(List aa))(v0_3:Nat)(y2:aa)(r4:Bool)(r10:Bool)(r12:Bool)(v1_10:Bool)(v1_11:Nat):Option ((Bool×Nat)⊕(Bool×Nat×Bool)):=
 if (v1_11:Int)<(y2.Args.length:Int) then
  if v1_10=true then
   (y2.Args[v1_11]?).bind fun (y16:ad)=>
   (jO y16).bind fun (r18:Bool)=>
   if IntKind.i64.wrap ((v1_11:Int)+1)=((v1_11+1:Nat):Int) then
    some (.inl (r18,v1_11+1))
   else none
  else
   if IntKind.i64.wrap ((v1_11:Int)+1)=((v1_11+1:Nat):Int) then
    some (.inl (false,v1_11+1))
   else none
 else
  some (.inr (v1_10,v1_11,decide ((v1_11:Int)<(y2.Args.length:Int))))
abbrev CK(v0_3:Nat)(y2:aa)(r4:Bool)(r10:Bool)(r12:Bool)(v:(Bool×Nat)):St:=⟨[(0,(.l 68 (a0.map ab))),(3,(I (v0_3:Int))),(4,(.p ⟨0,4⟩ 0)),(5,(.b r10)),(6,(.b r12)),(7,(.b r4)),(8,(.b ((y2.Then.length:Int)==0))),(9,(.b ((y2.Else.length:Int)==0))),(10,(.b v.1)),(11,(I (v.2:Int)))],[(4,(ag y2))],H0⟩
abbrev CL(v0_3:Nat)(y2:aa)(r4:Bool)(r10:Bool)(r12:Bool)(x:(Bool×Nat×Bool)):aK×St:=((.ex 3),⟨[(0,(.l 68 (a0.map ab))),(3,(I (v0_3:Int))),(4,(.p ⟨0,4⟩ 0)),(5,(.b r10)),(6,(.b r12)),(7,(.b r4)),(8,(.b ((y2.Then.length:Int)==0))),(9,(.b ((y2.Else.length:Int)==0))),(10,(.b x.1)),(11,(I (x.2.1:Int))),(67,(.b x.2.2))],[(4,(ag y2))],H0⟩)
theorem AO(hR:fm R)(a0:(List aa))(v0_3:Nat)(y2:aa)(r4:Bool)(r10:Bool)(r12:Bool)(v1_10:Bool)(v1_11:Nat)(o:(Bool×Nat)⊕(Bool×Nat×Bool))(h:iN R a0 v0_3 y2 r4 r10 r12 v1_10 v1_11=some o):bH E0 LK (CK a0 v0_3 y2 r4 r10 r12) (CL a0 v0_3 y2 r4 r10 r12) (v1_10,v1_11) o:=
 bV (bt<|ao (.i (y2.Args.length:Int))<|.or (bt<|.or (pJ<|ao (.n v1_11)<|.ex fun (y16:ad)=>ao (.v (.a (aY y16)))<|cu<|xB fun r18=>bt<|ao (.i ((v1_11+1:Nat):Int))<|.nil) (Ie<|ao (.i ((v1_11+1:Nat):Int))<|.nil)) (bf<|.nil)) fun L=>ai (rfl:Z0)<|ai (aO av y2.Args)<|bu h (fun h14 h=>ai (decide_eq_true h14)<|aJ h (fun h15 h=>ai (g1 h15)<|ai (g1 h15)<|ai (rfl:Z0)<|ai (g1 h15)<|ai (g1 h15)<|ai (rI v1_11)<|br h fun y16 h17 h=>ai (cX av h17 (b9 _))<|ie h15<|aw h (jC y16) fun r18 h=>ai h15<|aj h fun w20 h=>ai w20<|L h) (fun h15 h=>Kz h15<|aj h fun w16 h=>ai w16<|L h)) (fun h14 h=>ai (decide_eq_false h14)<|L h)
def jP(v0_3:Nat)(y2:aa)(r4:Bool)(w1_1:Bool):Option ((Bool×Bool×Bool×Bool×Bool)⊕((Bool×Bool×Bool×Nat×Bool)⊕Unit)):=
 if w1_1=true then
  (dx y2.Name).bind fun (r9:Bool)=>
  (jO y2.Expr).bind fun (r11:Bool)=>
  some (.inl (r9,y2.Other==([]:List UInt8),r11,(y2.Then.length:Int)==0,(y2.Else.length:Int)==0))
 else
  if (y2.Kind==2)=true then
   (dx y2.Name).bind fun (r10:Bool)=>
   (dx y2.Other).bind fun (r12:Bool)=>
   (lp (fun v=>iN R a0 v0_3 y2 r4 r10 r12 v.1 v.2) (true,0)).bind fun (x14:(Bool×Nat×Bool))=>
   some (.inr (.inl (r10,r12,x14.1,x14.2.1,x14.2.2)))
  else
   if (y2.Kind==3)=true then
    (dx y2.Name).bind fun (r11:Bool)=>
    (dx y2.Other).bind fun (r13:Bool)=>
    some (.inl (r11,r13,r4,(y2.Then.length:Int)==0,(y2.Else.length:Int)==0))
   else
    if (y2.Kind==4)=true then
     (dx y2.Other).bind fun (r12:Bool)=>
     (jO y2.Expr).bind fun (r14:Bool)=>
     some (.inl (y2.Name==([]:List UInt8),r12,r14,(y2.Then.length:Int)==0,(y2.Else.length:Int)==0))
    else
     if (y2.Kind==7)=true then
      (jO y2.Expr).bind fun (r13:Bool)=>
      (R.f_R_areStmts y2.Then).bind fun (r15:Bool)=>
      (R.f_R_areStmts y2.Else).bind fun (r17:Bool)=>
      some (.inl (y2.Name==([]:List UInt8),y2.Other==([]:List UInt8),r13,r15,r17))
     else
      if (y2.Kind==8)=true then
       (jO y2.Expr).bind fun (r14:Bool)=>
       (R.f_R_areStmts y2.Then).bind fun (r16:Bool)=>
       some (.inl (y2.Name==([]:List UInt8),y2.Other==([]:List UInt8),r14,r16,(y2.Else.length:Int)==0))
      else
       some (.inr (.inr ()))
abbrev AP(v0_3:Nat)(y2:aa)(r4:Bool)(w1_1:Bool)(x:((Bool×Bool×Bool×Bool×Bool)⊕((Bool×Bool×Bool×Nat×Bool)⊕Unit))):aK×St:=match x with | .inl (zb1,zb2,zb3,zb4,zb5)=>(.nrm,⟨[(0,(.l 68 (a0.map ab))),(3,(I (v0_3:Int))),(5,(.b zb1)),(6,(.b zb2)),(7,(.b zb3)),(8,(.b zb4)),(9,(.b zb5)),(10,(.b ((y2.Args.length:Int)==0)))],[],H0⟩) | .inr (.inl (z1,z2,z3,z4,z5))=>(.nrm,⟨[(0,(.l 68 (a0.map ab))),(3,(I (v0_3:Int))),(4,(.p ⟨0,4⟩ 0)),(5,(.b z1)),(6,(.b z2)),(7,(.b r4)),(8,(.b ((y2.Then.length:Int)==0))),(9,(.b ((y2.Else.length:Int)==0))),(10,(.b z3)),(11,(I (z4:Int))),(67,(.b z5))],[(4,(ag y2))],H0⟩) | .inr (.inr ())=>(.ret,⟨[(2,(.b false))],[],H0⟩)
theorem oW(hR:fm R)(a0:(List aa))(v0_3:Nat)(y2:aa)(r4:Bool)(w1_1:Bool)(x:((Bool×Bool×Bool×Bool×Bool)⊕((Bool×Bool×Bool×Nat×Bool)⊕Unit)))(h:jP R a0 v0_3 y2 r4 w1_1=some x):run G Ω0 E0 LL ⟨[(0,(.l 68 (a0.map ab))),(3,(I (v0_3:Int))),(4,(.p ⟨0,4⟩ 0)),(5,(.b (y2.Name==([]:List UInt8)))),(6,(.b (y2.Other==([]:List UInt8)))),(7,(.b r4)),(8,(.b ((y2.Then.length:Int)==0))),(9,(.b ((y2.Else.length:Int)==0))),(10,(.b ((y2.Args.length:Int)==0))),(44,(I y2.Kind)),(45,(.b w1_1))],[(4,(ag y2))],H0⟩=some (AP a0 v0_3 y2 r4 w1_1 x):=
 fP (.or (cu<|xB fun r9=>bt<|xB fun r11=>.nil) (bf<|.or (cu<|xB fun r10=>bt<|xB fun r12=>.ex fun (x14:(Bool×Nat×Bool))=>ao (.lp (.ex 3) ⟨[(0,(.l 68 (a0.map ab))),(3,(I (v0_3:Int))),(4,(.p ⟨0,4⟩ 0)),(5,(.b r10)),(6,(.b r12)),(7,(.b r4)),(8,(.b ((y2.Then.length:Int)==0))),(9,(.b ((y2.Else.length:Int)==0))),(10,(.b x14.1)),(11,(I (x14.2.1:Int))),(67,(.b x14.2.2))],[(4,(ag y2))],H0⟩)<|.nil) (bf<|.or (cu<|xB fun r11=>bt<|xB fun r13=>.nil) (bf<|.or (cu<|xB fun r12=>bt<|xB fun r14=>.nil) (bf<|.or (cu<|xB fun r13=>bt<|xB fun r15=>bt<|xB fun r17=>.nil) (bf<|.or (cu<|xB fun r14=>bt<|xB fun r16=>.nil) (bf<|.nil))))))) fun L=>aJ h (fun h8 h=>BI h8<|aw h (dj y2.Name) fun r9 h=>oO<|aw h (jC y2.Expr) fun r11 h=>L h) (fun h8 h=>ai h8<|aJ h (fun h9 h=>BI h9<|aw h (dj y2.Name) fun r10 h=>oO<|aw h (dj y2.Other) fun r12 h=>aw h (eH (fun v=>AO R hR a0 v0_3 y2 r4 r10 r12 v.1 v.2) (true,0)) fun x14 h=>L h) (fun h9 h=>ai h9<|aJ h (fun h10 h=>BI h10<|aw h (dj y2.Name) fun r11 h=>oO<|aw h (dj y2.Other) fun r13 h=>L h) (fun h10 h=>ai h10<|aJ h (fun h11 h=>BI h11<|aw h (dj y2.Other) fun r12 h=>oO<|aw h (jC y2.Expr) fun r14 h=>L h) (fun h11 h=>ai h11<|aJ h (fun h12 h=>BI h12<|aw h (jC y2.Expr) fun r13 h=>oO<|aw h (hR.f_R_areStmts y2.Then) fun r15 h=>oO<|aw h (hR.f_R_areStmts y2.Else) fun r17 h=>L h) (fun h12 h=>ai h12<|aJ h (fun h13 h=>BI h13<|aw h (jC y2.Expr) fun r14 h=>oO<|aw h (hR.f_R_areStmts y2.Then) fun r16 h=>L h) (fun h13 h=>ai h13<|L h))))))
def tX:List cL:=(gM 128 127)::⟨some 129,.mv 9,some ⟨128,false⟩,false⟩::⟨some 130,.no 129,some ⟨128,false⟩,false⟩::(gp 131 (.pk 128 (.c (.b true)) 130))::(gM 132 131)::⟨some 133,.mv 10,some ⟨132,false⟩,false⟩::⟨some 134,.no 133,some ⟨132,false⟩,false⟩::(gp 135 (.pk 132 (.c (.b true)) 134))::[]
def gI(R:kx)(a0:(List aa))(v0_3:Nat)(w3_1:Bool)(w3_2:Bool)(w3_3:Bool)(w3_4:Bool)(w3_5:Bool)(w3_6:Bool)(u2_1:Bool):Option Bool:=
 if u2_1=true then
  some true
 else
  if w3_5=true then
   some (!w3_6)
  else
   some true
abbrev AQ(v0_3:Nat)(w3_1:Bool)(w3_2:Bool)(w3_3:Bool)(w3_4:Bool)(w3_5:Bool)(w3_6:Bool)(u2_1:Bool)(x:Bool):St:=⟨[(0,(.l 68 (a0.map ab))),(3,(I (v0_3:Int))),(135,(.b x))],[],H0⟩
theorem kS(hR:fm R)(a0:(List aa))(v0_3:Nat)(w3_1:Bool)(w3_2:Bool)(w3_3:Bool)(w3_4:Bool)(w3_5:Bool)(w3_6:Bool)(u2_1:Bool)(w:List AV)(x:Bool)(h:gI R a0 v0_3 w3_1 w3_2 w3_3 w3_4 w3_5 w3_6 u2_1=some x):eB G Ω0 E0 [0,3,135] [] tX ⟨[(127,(.b u2_1)),(126,(W w 0)),(125,(W w 1)),(124,(W w 2)),(123,(W w 3)),(122,(W w 4)),(121,(W w 5)),(120,(W w 6)),(119,(W w 7)),(118,(W w 8)),(117,(W w 9)),(116,(.b (!w3_1))),(115,(.b (!w3_1))),(114,(.b w3_1)),(0,(.l 68 (a0.map ab))),(3,(I (v0_3:Int))),(5,(.b w3_1)),(6,(.b w3_2)),(7,(.b w3_3)),(8,(.b w3_4)),(9,(.b w3_5)),(10,(.b w3_6))],[],H0⟩=some (AQ a0 v0_3 w3_1 w3_2 w3_3 w3_4 w3_5 w3_6 u2_1 x):=
 dv (.or (bf<|bf<|bt<|bf<|bf<|bt<|.nil) (yR<|.or (yR<|.nil) (bf<|bf<|bt<|.nil))) fun L=>aJ h (fun h14 h=>ai (g0 h14)<|ai (g0 h14)<|ai h14<|ai ht<|ai ht<|ai tt<|L h) (fun h14 h=>uy h14<|aJ h (fun h15 h=>uy (congrArg not h15)<|L h) (fun h15 h=>uy (congrArg not h15)<|L h))
def AR:List cL:=(gM 114 5)::(gp 115 (.no 114))::(gM 116 115)::⟨some 117,.mv 6,some ⟨116,false⟩,false⟩::⟨some 118,.no 117,some ⟨116,false⟩,false⟩::(gp 119 (.pk 116 (.c (.b true)) 118))::(gM 120 119)::⟨some 121,.mv 7,some ⟨120,false⟩,false⟩::⟨some 122,.no 121,some ⟨120,false⟩,false⟩::(gp 123 (.pk 120 (.c (.b true)) 122))::(gM 124 123)::⟨some 125,.mv 8,some ⟨124,false⟩,false⟩::⟨some 126,.no 125,some ⟨124,false⟩,false⟩::(gp 127 (.pk 124 (.c (.b true)) 126))::tX
def pX(v0_3:Nat)(w3_1:Bool)(w3_2:Bool)(w3_3:Bool)(w3_4:Bool)(w3_5:Bool)(w3_6:Bool):Option Bool:=
 if w3_1=true then
  if w3_2=true then
   if w3_3=true then
    (gI R a0 v0_3 w3_1 w3_2 w3_3 w3_4 w3_5 w3_6 (!w3_4)).bind fun (x14:Bool)=>
    some x14
   else
    (gI R a0 v0_3 w3_1 w3_2 w3_3 w3_4 w3_5 w3_6 true).bind fun (x14:Bool)=>
    some x14
  else
   (gI R a0 v0_3 w3_1 w3_2 w3_3 w3_4 w3_5 w3_6 true).bind fun (x13:Bool)=>
   some x13
 else
  (gI R a0 v0_3 w3_1 w3_2 w3_3 w3_4 w3_5 w3_6 true).bind fun (x12:Bool)=>
  some x12
abbrev AS(v0_3:Nat)(w3_1:Bool)(w3_2:Bool)(w3_3:Bool)(w3_4:Bool)(w3_5:Bool)(w3_6:Bool)(x:Bool):St:=⟨[(0,(.l 68 (a0.map ab))),(3,(I (v0_3:Int))),(135,(.b x))],[],H0⟩
theorem zw(hR:fm R)(a0:(List aa))(v0_3:Nat)(w3_1:Bool)(w3_2:Bool)(w3_3:Bool)(w3_4:Bool)(w3_5:Bool)(w3_6:Bool)(x:Bool)(h:pX R a0 v0_3 w3_1 w3_2 w3_3 w3_4 w3_5 w3_6=some x):eB G Ω0 E0 [0,3,135] [] AR ⟨[(0,(.l 68 (a0.map ab))),(3,(I (v0_3:Int))),(5,(.b w3_1)),(6,(.b w3_2)),(7,(.b w3_3)),(8,(.b w3_4)),(9,(.b w3_5)),(10,(.b w3_6))],[],H0⟩=some (AS a0 v0_3 w3_1 w3_2 w3_3 w3_4 w3_5 w3_6 x):=
 dv (.or (yR<|.or (yR<|.or (yR<|.jb (some 128) 7<|.ex fun (x14:Bool)=>ao (.jn ⟨[(0,(.l 68 (a0.map ab))),(3,(I (v0_3:Int))),(135,(.b x14))],[],H0⟩)<|.nil) (bf<|bf<|bt<|.jb (some 128) 7<|.ex fun (x14:Bool)=>ao (.jn ⟨[(0,(.l 68 (a0.map ab))),(3,(I (v0_3:Int))),(135,(.b x14))],[],H0⟩)<|.nil)) (bf<|bf<|bt<|bf<|bf<|bt<|.jb (some 128) 7<|.ex fun (x13:Bool)=>ao (.jn ⟨[(0,(.l 68 (a0.map ab))),(3,(I (v0_3:Int))),(135,(.b x13))],[],H0⟩)<|.nil)) (bf<|bf<|bt<|bf<|bf<|bt<|bf<|bf<|bt<|.jb (some 128) 7<|.ex fun (x12:Bool)=>ao (.jn ⟨[(0,(.l 68 (a0.map ab))),(3,(I (v0_3:Int))),(135,(.b x12))],[],H0⟩)<|.nil)) fun L=>aJ h (fun h11 h=>uy (congrArg not h11)<|aJ h (fun h12 h=>uy (congrArg not h12)<|aJ h (fun h13 h=>uy (congrArg not h13)<|aw h (kS R hR a0 v0_3 w3_1 w3_2 w3_3 w3_4 w3_5 w3_6 (!w3_4) [(.b (!w3_4)),(.b w3_4),(.b (!w3_3)),(.b (!w3_3)),(.b (!w3_3)),(.b w3_3),(.b (!w3_2)),(.b (!w3_2)),(.b (!w3_2)),(.b w3_2)]) fun x14 h=>L h) (fun h13 h=>uy (congrArg not h13)<|aw h (kS R hR a0 v0_3 w3_1 w3_2 w3_3 w3_4 w3_5 w3_6 true [.sk,.sk,(.b (!w3_3)),(.b (!w3_3)),(.b (!w3_3)),(.b w3_3),(.b (!w3_2)),(.b (!w3_2)),(.b (!w3_2)),(.b w3_2)]) fun x14 h=>L h)) (fun h12 h=>ai (g0 (congrArg not h12))<|ai (g0 (congrArg not h12))<|ai (congrArg not h12)<|ai ht<|ai ht<|ai tt<|aw h (kS R hR a0 v0_3 w3_1 w3_2 w3_3 w3_4 w3_5 w3_6 true [.sk,.sk,(.b true),(.b true),.sk,.sk,(.b (!w3_2)),(.b (!w3_2)),(.b (!w3_2)),(.b w3_2)]) fun x13 h=>L h)) (fun h11 h=>ai (g0 (congrArg not h11))<|ai (g0 (congrArg not h11))<|ai (congrArg not h11)<|ai ht<|ai ht<|ai tt<|ai ht<|ai ht<|ai tt<|aw h (kS R hR a0 v0_3 w3_1 w3_2 w3_3 w3_4 w3_5 w3_6 true [.sk,.sk,(.b true),(.b true),.sk,.sk,(.b true),(.b true),.sk,.sk]) fun x12 h=>L h)
def et(v0_3:Nat)(w3_1:Bool)(w3_2:Bool)(w3_3:Bool)(w3_4:Bool)(w3_5:Bool)(w3_6:Bool):Option (Unit⊕Bool):=
 (pX R a0 v0_3 w3_1 w3_2 w3_3 w3_4 w3_5 w3_6).bind fun (x11:Bool)=>
 if x11=true then
  some (.inl ())
 else
  some (.inr x11)
abbrev AU(v0_3:Nat)(w3_1:Bool)(w3_2:Bool)(w3_3:Bool)(w3_4:Bool)(w3_5:Bool)(w3_6:Bool)(x:(Unit⊕Bool)):aK×St:=match x with | .inl ()=>(.ret,⟨[(2,(.b false))],[],H0⟩) | .inr z1=>(.nrm,⟨[(0,(.l 68 (a0.map ab))),(3,(I (v0_3:Int))),(135,(.b z1))],[],H0⟩)
theorem fL(hR:fm R)(a0:(List aa))(v0_3:Nat)(w3_1:Bool)(w3_2:Bool)(w3_3:Bool)(w3_4:Bool)(w3_5:Bool)(w3_6:Bool)(x:(Unit⊕Bool))(h:et R a0 v0_3 w3_1 w3_2 w3_3 w3_4 w3_5 w3_6=some x):run G Ω0 E0 LM ⟨[(0,(.l 68 (a0.map ab))),(3,(I (v0_3:Int))),(5,(.b w3_1)),(6,(.b w3_2)),(7,(.b w3_3)),(8,(.b w3_4)),(9,(.b w3_5)),(10,(.b w3_6))],[],H0⟩=some (AU a0 v0_3 w3_1 w3_2 w3_3 w3_4 w3_5 w3_6 x):=
 fP (.jb (some 114) 21<|.ex fun (x11:Bool)=>ao (.jn ⟨[(0,(.l 68 (a0.map ab))),(3,(I (v0_3:Int))),(135,(.b x11))],[],H0⟩)<|oN (.nil)) fun L=>aw h (zw R hR a0 v0_3 w3_1 w3_2 w3_3 w3_4 w3_5 w3_6) fun x11 h=>aJ h (fun h13 h=>ai h13<|L h) (fun h13 h=>ai h13<|L h)
def iO(v0_3:Nat):Option (Nat⊕(Unit⊕(Nat×Bool))):=
 if (v0_3:Int)<(a0.length:Int) then
  (a0[v0_3]?).bind fun (y2:aa)=>
  (nj y2.Expr).bind fun (r4:Bool)=>
  if (y2.Kind==1)=true then
   (jP R a0 v0_3 y2 r4 (y2.Kind==1)).bind fun (x7:((Bool×Bool×Bool×Bool×Bool)⊕((Bool×Bool×Bool×Nat×Bool)⊕Unit)))=>match x7 with
   | .inl ya_8=>
    (et R a0 v0_3 ya_8.1 ya_8.2.1 ya_8.2.2.1 ya_8.2.2.2.1 ya_8.2.2.2.2 ((y2.Args.length:Int)==0)).bind fun (x10:(Unit⊕Bool))=>match x10 with
    | .inl ya_11=>
     some (.inr (.inl ()))
    | .inr yb_11=>
     if IntKind.i64.wrap ((v0_3:Int)+1)=((v0_3+1:Nat):Int) then
      some (.inl (v0_3+1))
     else none
   | .inr (.inl yb_8)=>
    (et R a0 v0_3 yb_8.1 yb_8.2.1 r4 ((y2.Then.length:Int)==0) ((y2.Else.length:Int)==0) yb_8.2.2.1).bind fun (x10:(Unit⊕Bool))=>match x10 with
    | .inl ya_11=>
     some (.inr (.inl ()))
    | .inr yb_11=>
     if IntKind.i64.wrap ((v0_3:Int)+1)=((v0_3+1:Nat):Int) then
      some (.inl (v0_3+1))
     else none
   | .inr (.inr yc_8)=>
    some (.inr (.inl ()))
  else
   if (y2.Kind==5)=true then
    (jP R a0 v0_3 y2 r4 (y2.Kind==5)).bind fun (x8:((Bool×Bool×Bool×Bool×Bool)⊕((Bool×Bool×Bool×Nat×Bool)⊕Unit)))=>match x8 with
    | .inl ya_9=>
     (et R a0 v0_3 ya_9.1 ya_9.2.1 ya_9.2.2.1 ya_9.2.2.2.1 ya_9.2.2.2.2 ((y2.Args.length:Int)==0)).bind fun (x11:(Unit⊕Bool))=>match x11 with
     | .inl ya_12=>
      some (.inr (.inl ()))
     | .inr yb_12=>
      if IntKind.i64.wrap ((v0_3:Int)+1)=((v0_3+1:Nat):Int) then
       some (.inl (v0_3+1))
      else none
    | .inr (.inl yb_9)=>
     (et R a0 v0_3 yb_9.1 yb_9.2.1 r4 ((y2.Then.length:Int)==0) ((y2.Else.length:Int)==0) yb_9.2.2.1).bind fun (x11:(Unit⊕Bool))=>match x11 with
     | .inl ya_12=>
      some (.inr (.inl ()))
     | .inr yb_12=>
      if IntKind.i64.wrap ((v0_3:Int)+1)=((v0_3+1:Nat):Int) then
       some (.inl (v0_3+1))
      else none
    | .inr (.inr yc_9)=>
     some (.inr (.inl ()))
   else
    (jP R a0 v0_3 y2 r4 (y2.Kind==6)).bind fun (x8:((Bool×Bool×Bool×Bool×Bool)⊕((Bool×Bool×Bool×Nat×Bool)⊕Unit)))=>match x8 with
    | .inl ya_9=>
     (et R a0 v0_3 ya_9.1 ya_9.2.1 ya_9.2.2.1 ya_9.2.2.2.1 ya_9.2.2.2.2 ((y2.Args.length:Int)==0)).bind fun (x11:(Unit⊕Bool))=>match x11 with
     | .inl ya_12=>
      some (.inr (.inl ()))
     | .inr yb_12=>
      if IntKind.i64.wrap ((v0_3:Int)+1)=((v0_3+1:Nat):Int) then
       some (.inl (v0_3+1))
      else none
    | .inr (.inl yb_9)=>
     (et R a0 v0_3 yb_9.1 yb_9.2.1 r4 ((y2.Then.length:Int)==0) ((y2.Else.length:Int)==0) yb_9.2.2.1).bind fun (x11:(Unit⊕Bool))=>match x11 with
     | .inl ya_12=>
      some (.inr (.inl ()))
     | .inr yb_12=>
      if IntKind.i64.wrap ((v0_3:Int)+1)=((v0_3+1:Nat):Int) then
       some (.inl (v0_3+1))
      else none
    | .inr (.inr yc_9)=>
     some (.inr (.inl ()))
 else
  some (.inr (.inr (v0_3,decide ((v0_3:Int)<(a0.length:Int)))))
abbrev CM(v:Nat):St:=⟨[(0,(.l 68 (a0.map ab))),(3,(I (v:Int)))],[],H0⟩
abbrev CN(x:(Unit⊕(Nat×Bool))):aK×St:=match x with | .inl ()=>(.ret,⟨[(2,(.b false))],[],H0⟩) | .inr (z1,z2)=>((.ex 0),⟨[(0,(.l 68 (a0.map ab))),(3,(I (z1:Int))),(15,(.b z2))],[],H0⟩)
theorem AW(hR:fm R)(a0:(List aa))(v0_3:Nat)(o:Nat⊕(Unit⊕(Nat×Bool)))(h:iO R a0 v0_3=some o):bH E0 LN (CM a0) (CN a0) v0_3 o:=
 bV (ao (.i (a0.length:Int))<|.or (bt<|ao (.n v0_3)<|.ex fun (y2:aa)=>ao (.v (.a (ag y2)))<|pJ<|xB fun r4=>bt<|ao (.i (y2.Then.length:Int))<|bt<|ao (.i (y2.Else.length:Int))<|bt<|ao (.i (y2.Args.length:Int))<|bt<|.or (bt<|.fb<|.or (.ex fun (ya_8:(Bool×Bool×Bool×Bool×Bool))=>ao (.fr .nrm ⟨[(0,(.l 68 (a0.map ab))),(3,(I (v0_3:Int))),(5,(.b ya_8.1)),(6,(.b ya_8.2.1)),(7,(.b ya_8.2.2.1)),(8,(.b ya_8.2.2.2.1)),(9,(.b ya_8.2.2.2.2)),(10,(.b ((y2.Args.length:Int)==0)))],[],H0⟩)<|.fb<|.or (.ex fun (ya_11:Unit)=>ao (.fr .ret ⟨[(2,(.b false))],[],H0⟩)<|.nil) (.ex fun (yb_11:Bool)=>ao (.fr .nrm ⟨[(0,(.l 68 (a0.map ab))),(3,(I (v0_3:Int))),(135,(.b yb_11))],[],H0⟩)<|ao (.i ((v0_3+1:Nat):Int))<|.nil)) (.or (.ex fun (yb_8:(Bool×Bool×Bool×Nat×Bool))=>ao (.fr .nrm ⟨[(0,(.l 68 (a0.map ab))),(3,(I (v0_3:Int))),(4,(.p ⟨0,4⟩ 0)),(5,(.b yb_8.1)),(6,(.b yb_8.2.1)),(7,(.b r4)),(8,(.b ((y2.Then.length:Int)==0))),(9,(.b ((y2.Else.length:Int)==0))),(10,(.b yb_8.2.2.1)),(11,(I (yb_8.2.2.2.1:Int))),(67,(.b yb_8.2.2.2.2))],[(4,(ag y2))],H0⟩)<|.fb<|.or (.ex fun (ya_11:Unit)=>ao (.fr .ret ⟨[(2,(.b false))],[],H0⟩)<|.nil) (.ex fun (yb_11:Bool)=>ao (.fr .nrm ⟨[(0,(.l 68 (a0.map ab))),(3,(I (v0_3:Int))),(135,(.b yb_11))],[],H0⟩)<|ao (.i ((v0_3+1:Nat):Int))<|.nil)) (.ex fun (yc_8:Unit)=>ao (.fr .ret ⟨[(2,(.b false))],[],H0⟩)<|.nil))) (bf<|.or (bt<|.fb<|.or (.ex fun (ya_9:(Bool×Bool×Bool×Bool×Bool))=>ao (.fr .nrm ⟨[(0,(.l 68 (a0.map ab))),(3,(I (v0_3:Int))),(5,(.b ya_9.1)),(6,(.b ya_9.2.1)),(7,(.b ya_9.2.2.1)),(8,(.b ya_9.2.2.2.1)),(9,(.b ya_9.2.2.2.2)),(10,(.b ((y2.Args.length:Int)==0)))],[],H0⟩)<|.fb<|.or (.ex fun (ya_12:Unit)=>ao (.fr .ret ⟨[(2,(.b false))],[],H0⟩)<|.nil) (.ex fun (yb_12:Bool)=>ao (.fr .nrm ⟨[(0,(.l 68 (a0.map ab))),(3,(I (v0_3:Int))),(135,(.b yb_12))],[],H0⟩)<|ao (.i ((v0_3+1:Nat):Int))<|.nil)) (.or (.ex fun (yb_9:(Bool×Bool×Bool×Nat×Bool))=>ao (.fr .nrm ⟨[(0,(.l 68 (a0.map ab))),(3,(I (v0_3:Int))),(4,(.p ⟨0,4⟩ 0)),(5,(.b yb_9.1)),(6,(.b yb_9.2.1)),(7,(.b r4)),(8,(.b ((y2.Then.length:Int)==0))),(9,(.b ((y2.Else.length:Int)==0))),(10,(.b yb_9.2.2.1)),(11,(I (yb_9.2.2.2.1:Int))),(67,(.b yb_9.2.2.2.2))],[(4,(ag y2))],H0⟩)<|.fb<|.or (.ex fun (ya_12:Unit)=>ao (.fr .ret ⟨[(2,(.b false))],[],H0⟩)<|.nil) (.ex fun (yb_12:Bool)=>ao (.fr .nrm ⟨[(0,(.l 68 (a0.map ab))),(3,(I (v0_3:Int))),(135,(.b yb_12))],[],H0⟩)<|ao (.i ((v0_3+1:Nat):Int))<|.nil)) (.ex fun (yc_9:Unit)=>ao (.fr .ret ⟨[(2,(.b false))],[],H0⟩)<|.nil))) (bf<|.fb<|.or (.ex fun (ya_9:(Bool×Bool×Bool×Bool×Bool))=>ao (.fr .nrm ⟨[(0,(.l 68 (a0.map ab))),(3,(I (v0_3:Int))),(5,(.b ya_9.1)),(6,(.b ya_9.2.1)),(7,(.b ya_9.2.2.1)),(8,(.b ya_9.2.2.2.1)),(9,(.b ya_9.2.2.2.2)),(10,(.b ((y2.Args.length:Int)==0)))],[],H0⟩)<|.fb<|.or (.ex fun (ya_12:Unit)=>ao (.fr .ret ⟨[(2,(.b false))],[],H0⟩)<|.nil) (.ex fun (yb_12:Bool)=>ao (.fr .nrm ⟨[(0,(.l 68 (a0.map ab))),(3,(I (v0_3:Int))),(135,(.b yb_12))],[],H0⟩)<|ao (.i ((v0_3+1:Nat):Int))<|.nil)) (.or (.ex fun (yb_9:(Bool×Bool×Bool×Nat×Bool))=>ao (.fr .nrm ⟨[(0,(.l 68 (a0.map ab))),(3,(I (v0_3:Int))),(4,(.p ⟨0,4⟩ 0)),(5,(.b yb_9.1)),(6,(.b yb_9.2.1)),(7,(.b r4)),(8,(.b ((y2.Then.length:Int)==0))),(9,(.b ((y2.Else.length:Int)==0))),(10,(.b yb_9.2.2.1)),(11,(I (yb_9.2.2.2.1:Int))),(67,(.b yb_9.2.2.2.2))],[(4,(ag y2))],H0⟩)<|.fb<|.or (.ex fun (ya_12:Unit)=>ao (.fr .ret ⟨[(2,(.b false))],[],H0⟩)<|.nil) (.ex fun (yb_12:Bool)=>ao (.fr .nrm ⟨[(0,(.l 68 (a0.map ab))),(3,(I (v0_3:Int))),(135,(.b yb_12))],[],H0⟩)<|ao (.i ((v0_3+1:Nat):Int))<|.nil)) (.ex fun (yc_9:Unit)=>ao (.fr .ret ⟨[(2,(.b false))],[],H0⟩)<|.nil))))) (bf<|.nil)) fun L=>ai (aO ab a0)<|bu h (fun h1 h=>ai (decide_eq_true h1)<|ai (rI v0_3)<|br h fun y2 h3 h=>ai (cX ab h3 (dR _))<|ai tt<|ai ff<|ai (rfl:Z0)<|ai tt<|ai (rfl:Z0)<|ai tt<|ai tt<|ai (rfl:Z0)<|ai tt<|ai tt<|ai tt<|ai (rfl:Z0)<|ai tt<|ai tt<|ai tt<|ai (rfl:Z0)<|ai tt<|aw h (rA y2.Expr) fun r4 h=>ai tt<|ai tt<|ai tt<|ai tt<|ai (rfl:Z0)<|ai tt<|ai (aO ab y2.Then)<|ai tt<|ai tt<|ai tt<|ai (rfl:Z0)<|ai tt<|ai (aO ab y2.Else)<|ai tt<|ai tt<|ai tt<|ai (rfl:Z0)<|ai tt<|ai (aO av y2.Args)<|ai tt<|ai tt<|ai tt<|ai tt<|ai (rfl:Z0)<|aJ h (fun h6 h=>ai h6<|An h (oW R hR a0 v0_3 y2 r4 (y2.Kind==1)) (fun ya_8 h=>bW h (fL R hR a0 v0_3 ya_8.1 ya_8.2.1 ya_8.2.2.1 ya_8.2.2.2.1 ya_8.2.2.2.2 ((y2.Args.length:Int)==0)) (fun ya_11 h=>L h) (fun yb_11 h=>aj h fun w13 h=>ai w13<|L h)) (fun yb_8 h=>bW h (fL R hR a0 v0_3 yb_8.1 yb_8.2.1 r4 ((y2.Then.length:Int)==0) ((y2.Else.length:Int)==0) yb_8.2.2.1) (fun ya_11 h=>L h) (fun yb_11 h=>aj h fun w13 h=>ai w13<|L h)) (fun yc_8 h=>L h)) (fun h6 h=>ai h6<|aJ h (fun h7 h=>ai h7<|An h (oW R hR a0 v0_3 y2 r4 (y2.Kind==5)) (fun ya_9 h=>bW h (fL R hR a0 v0_3 ya_9.1 ya_9.2.1 ya_9.2.2.1 ya_9.2.2.2.1 ya_9.2.2.2.2 ((y2.Args.length:Int)==0)) (fun ya_12 h=>L h) (fun yb_12 h=>aj h fun w14 h=>ai w14<|L h)) (fun yb_9 h=>bW h (fL R hR a0 v0_3 yb_9.1 yb_9.2.1 r4 ((y2.Then.length:Int)==0) ((y2.Else.length:Int)==0) yb_9.2.2.1) (fun ya_12 h=>L h) (fun yb_12 h=>aj h fun w14 h=>ai w14<|L h)) (fun yc_9 h=>L h)) (fun h7 h=>ai h7<|An h (oW R hR a0 v0_3 y2 r4 (y2.Kind==6)) (fun ya_9 h=>bW h (fL R hR a0 v0_3 ya_9.1 ya_9.2.1 ya_9.2.2.1 ya_9.2.2.2.1 ya_9.2.2.2.2 ((y2.Args.length:Int)==0)) (fun ya_12 h=>L h) (fun yb_12 h=>aj h fun w14 h=>ai w14<|L h)) (fun yb_9 h=>bW h (fL R hR a0 v0_3 yb_9.1 yb_9.2.1 r4 ((y2.Then.length:Int)==0) ((y2.Else.length:Int)==0) yb_9.2.2.1) (fun ya_12 h=>L h) (fun yb_12 h=>aj h fun w14 h=>ai w14<|L h)) (fun yc_9 h=>L h)))) (fun h1 h=>ai (decide_eq_false h1)<|L h)
def oE:Option Bool:=
 (lp (fun v=>iO R a0 v) 0).bind fun (x1:(Unit⊕(Nat×Bool)))=>match x1 with
 | .inl ya_2=>
  some false
 | .inr yb_2=>
  some true
theorem zx(hR:fm R)(a0:(List aa))(r:Bool)(h:oE R a0=some r):sX a0 r:=
 aH ZZ (.or (.ex fun (ya_2:Unit)=>ao (.lp .ret ⟨[(2,(.b false))],[],H0⟩)<|.nil) (.ex fun (yb_2:(Nat×Bool))=>ao (.lp (.ex 0) ⟨[(0,(.l 68 (a0.map ab))),(3,(I (yb_2.1:Int))),(15,(.b yb_2.2))],[],H0⟩)<|.nil)) fun L=>bW h (eH (AW R hR a0) 0) (fun ya_2 h=>L h) (fun yb_2 h=>L h)
def gi:Nat→kx
 | 0=>⟨fun z0=>none⟩
 | n+1=>⟨oE (gi n)⟩
theorem wH:∀ n,fm (gi n)
 | 0=>⟨fun _ r h=>(by cases h)⟩
 | n+1=>⟨fun a0 r h=>zx _ (wH n) a0 r h⟩
def pY:Option Bool:=ev fun n=>(gi n).f_R_areStmts a0
theorem tY(r:Bool)(h:pY a0=some r):sX a0 r:=by
 obtain ⟨n,hn⟩:=iD h
 exact (wH n).f_R_areStmts a0 r hn
def Eb:List cL:=(gF 16 0 1)::(gQ 17 16)::(gB 18 .eql 17 (kI 2))::(gM 19 18)::⟨some 20,.fa 3 1,some ⟨19,true⟩,false⟩::⟨some 21,.ld none 20,some ⟨19,true⟩,false⟩::⟨some 22,.ca 0 36 [21],some ⟨19,true⟩,false⟩::⟨some 23,.no 22,some ⟨19,true⟩,false⟩::(gp 24 (.pk 19 23 (.c (.b false))))::(gM 25 24)::⟨some 26,.fa 0 1,some ⟨25,false⟩,false⟩::⟨some 27,.ld none 26,some ⟨25,false⟩,false⟩::⟨some 28,.bo .neq false 27 (kI 2),some ⟨25,false⟩,false⟩::⟨some 29,.mv 28,some ⟨25,false⟩,false⟩::⟨some 30,.fa 3 1,some ⟨29,true⟩,false⟩::⟨some 31,.ld none 30,some ⟨29,true⟩,false⟩::⟨some 32,.bo .neq false 31 (.c (.s [])),some ⟨29,true⟩,false⟩::⟨some 33,.pk 29 32 (.c (.b false)),some ⟨25,false⟩,false⟩::(gp 34 (.pk 25 (.c (.b true)) 33))::[]
end
section
variable (a0:aE)
def rC:Option Bool:=
 if (a0.Kind==2)=true then
  (dx a0.Other).bind fun (r8:Bool)=>
  if r8=true then
   if (a0.Kind !=2)=true then
    some (!(a0.Other==([]:List UInt8)))
   else
    some false
  else
   some true
 else
  if (a0.Kind !=2)=true then
   some (!(a0.Other==([]:List UInt8)))
  else
   some false
abbrev Ec(x:Bool):St:=⟨[(1,(.p ⟨0,1⟩ 0)),(34,(.b x))],[(1,(ak a0))],H0⟩
theorem CO(x:Bool)(h:rC a0=some x):eB G Ω0 E0 [1,34] [1] Eb ⟨[(1,(.p ⟨0,1⟩ 0))],[(1,(ak a0))],H0⟩=some (Ec a0 x):=
 dv (bt<|.or (dD<|xB fun r8=>cu<|.or (pJ<|.or (KD<|.nil) (bf<|bf<|bf<|bt<|bf<|bf<|.nil)) (KG<|.nil)) (bf<|bf<|bf<|bf<|bf<|bt<|bt<|bt<|bt<|bt<|.or (KD<|.nil) (bf<|bf<|bf<|bt<|bf<|bf<|.nil))) fun L=>ai (rfl:Z0)<|aJ h (fun h7 h=>fH h7<|aw h (dj a0.Other) fun r8 h=>jv h7<|aJ h (fun h10 h=>E5 (congrArg not h10)<|aJ h (fun h11 h=>fH h11<|ai (g0 (congrArg not h10))<|ai h11<|ai (congrArg not h10)<|L h) (fun h11 h=>vL h11<|ai (g0 (congrArg not h10))<|ai h11<|ai (congrArg not h10)<|L h)) (fun h10 h=>KB (congrArg not h10)<|L h)) (fun h7 h=>ai (g1 h7)<|ai (g1 h7)<|ai (g1 h7)<|ai (g1 h7)<|ai h7<|ai hf<|ai hf<|ai (rfl:Z0)<|ai hf<|ai hf<|aJ h (fun h8 h=>ai (g1 h8)<|ai (g1 h8)<|ai (rfl:Z0)<|ai (g1 h8)<|ai hf<|ai h8<|ai ff<|L h) (fun h8 h=>ai (g1 h8)<|ai (g1 h8)<|ai (g1 h8)<|ai hf<|ai h8<|ai ff<|L h))
def wI:List cL:=(gM 58 57)::⟨some 59,.fa 4 1,some ⟨58,false⟩,false⟩::⟨some 60,.ld none 59,some ⟨58,false⟩,false⟩::⟨some 61,.no 60,some ⟨58,false⟩,false⟩::⟨some 62,.mv 61,some ⟨58,false⟩,false⟩::⟨some 63,.fa 5 1,some ⟨62,true⟩,false⟩::⟨some 64,.ld none 63,some ⟨62,true⟩,false⟩::⟨some 65,.ln false 64,some ⟨62,true⟩,false⟩::⟨some 66,.bo .gtr false 65 (kI 0),some ⟨62,true⟩,false⟩::⟨some 67,.pk 62 66 (.c (.b false)),some ⟨58,false⟩,false⟩::(gp 68 (.pk 58 (.c (.b true)) 67))::[]
def dX(u3_1:Bool):Option Bool:=
 if u3_1=true then
  some true
 else
  if a0.Given=true then
   some false
  else
   some (decide (0<(a0.Label.length:Int)))
abbrev Ed(u3_1:Bool)(x:Bool):St:=⟨[(1,(.p ⟨0,1⟩ 0)),(68,(.b x))],[(1,(ak a0))],H0⟩
theorem eO(u3_1:Bool)(w:List AV)(x:Bool)(h:dX a0 u3_1=some x):eB G Ω0 E0 [1,68] [1] wI ⟨[(57,(.b u3_1)),(56,(W w 0)),(55,(W w 1)),(54,(W w 2)),(53,(W w 3)),(52,(W w 4)),(51,(W w 5)),(50,(W w 6)),(49,(W w 7)),(48,(W w 8)),(47,(W w 9)),(46,(W w 10)),(45,(W w 11)),(44,(W w 12)),(43,(W w 13)),(42,(W w 14)),(41,(W w 15)),(40,(W w 16)),(39,(W w 17)),(38,(.b (a0.Kind==4))),(37,(.b (a0.Kind==4))),(36,(I a0.Kind)),(35,(.p ⟨0,1⟩ 0)),(1,(.p ⟨0,1⟩ 0))],[(1,(ak a0))],H0⟩=some (Ed a0 u3_1 x):=
 dv (.or (KG<|.nil) (pJ<|.or (Ih<|.nil) (dD<|ao (.i (a0.Label.length:Int))<|E6<|.nil))) fun L=>aJ h (fun h16 h=>KB h16<|L h) (fun h16 h=>E5 h16<|aJ h (fun h17 h=>zk (congrArg not h17)<|ai (g0 h16)<|ai (congrArg not h17)<|ai h16<|L h) (fun h17 h=>fH (congrArg not h17)<|ai (aO aA a0.Label)<|ai (g1 (congrArg not h17))<|ai (g0 h16)<|ai (congrArg not h17)<|ai h16<|L h))
def Ee:List cL:=(gF 35 0 1)::(gQ 36 35)::(gB 37 .eql 36 (kI 4))::(gM 38 37)::⟨some 39,.fa 0 1,some ⟨38,false⟩,false⟩::⟨some 40,.ld none 39,some ⟨38,false⟩,false⟩::⟨some 41,.bo .eql false 40 (kI 5),some ⟨38,false⟩,false⟩::(gp 42 (.pk 38 (.c (.b true)) 41))::(gM 43 42)::⟨some 44,.fa 4 1,some ⟨43,true⟩,false⟩::⟨some 45,.ld none 44,some ⟨43,true⟩,false⟩::⟨some 46,.no 45,some ⟨43,true⟩,false⟩::(gp 47 (.pk 43 46 (.c (.b false))))::(gM 48 47)::⟨some 49,.fa 0 1,some ⟨48,false⟩,false⟩::⟨some 50,.ld none 49,some ⟨48,false⟩,false⟩::⟨some 51,.ca 0 35 [50,(kI 4),(kI 6)],some ⟨48,false⟩,false⟩::⟨some 52,.no 51,some ⟨48,false⟩,false⟩::⟨some 53,.mv 52,some ⟨48,false⟩,false⟩::⟨some 54,.fa 4 1,some ⟨53,true⟩,false⟩::⟨some 55,.ld none 54,some ⟨53,true⟩,false⟩::⟨some 56,.pk 53 55 (.c (.b false)),some ⟨48,false⟩,false⟩::(gp 57 (.pk 48 (.c (.b true)) 56))::wI
def rD:Option Bool:=
 if (a0.Kind==4)=true then
  if a0.Given=true then
   (eD a0.Kind 4 6).bind fun (r12:Bool)=>
   if r12=true then
    (dX a0 false).bind fun (x15:Bool)=>
    some x15
   else
    (dX a0 a0.Given).bind fun (x15:Bool)=>
    some x15
  else
   (dX a0 true).bind fun (x12:Bool)=>
   some x12
 else
  if (a0.Kind==5)=true then
   if a0.Given=true then
    (eD a0.Kind 4 6).bind fun (r13:Bool)=>
    if r13=true then
     (dX a0 false).bind fun (x16:Bool)=>
     some x16
    else
     (dX a0 a0.Given).bind fun (x16:Bool)=>
     some x16
   else
    (dX a0 true).bind fun (x13:Bool)=>
    some x13
  else
   (eD a0.Kind 4 6).bind fun (r12:Bool)=>
   if r12=true then
    (dX a0 false).bind fun (x15:Bool)=>
    some x15
   else
    (dX a0 a0.Given).bind fun (x15:Bool)=>
    some x15
abbrev Ef(x:Bool):St:=⟨[(1,(.p ⟨0,1⟩ 0)),(68,(.b x))],[(1,(ak a0))],H0⟩
theorem CP(x:Bool)(h:rD a0=some x):eB G Ω0 E0 [1,68] [1] Ee ⟨[(1,(.p ⟨0,1⟩ 0))],[(1,(ak a0))],H0⟩=some (Ef a0 x):=
 dv (bt<|.or (Qe<|.or (dD<|xB fun r12=>cu<|.or (KH<|.jb (some 58) 10<|.ex fun (x15:Bool)=>ao (.jn ⟨[(1,(.p ⟨0,1⟩ 0)),(68,(.b x15))],[(1,(ak a0))],H0⟩)<|.nil) (E9<|.jb (some 58) 10<|.ex fun (x15:Bool)=>ao (.jn ⟨[(1,(.p ⟨0,1⟩ 0)),(68,(.b x15))],[(1,(ak a0))],H0⟩)<|.nil)) (bf<|bf<|bf<|bf<|bf<|bf<|bt<|.jb (some 58) 10<|.ex fun (x12:Bool)=>ao (.jn ⟨[(1,(.p ⟨0,1⟩ 0)),(68,(.b x12))],[(1,(ak a0))],H0⟩)<|.nil)) (yS<|.or (pJ<|.or (dD<|xB fun r13=>cu<|.or (KH<|.jb (some 58) 10<|.ex fun (x16:Bool)=>ao (.jn ⟨[(1,(.p ⟨0,1⟩ 0)),(68,(.b x16))],[(1,(ak a0))],H0⟩)<|.nil) (E9<|.jb (some 58) 10<|.ex fun (x16:Bool)=>ao (.jn ⟨[(1,(.p ⟨0,1⟩ 0)),(68,(.b x16))],[(1,(ak a0))],H0⟩)<|.nil)) (bf<|bf<|bf<|bf<|bf<|bf<|bt<|.jb (some 58) 10<|.ex fun (x13:Bool)=>ao (.jn ⟨[(1,(.p ⟨0,1⟩ 0)),(68,(.b x13))],[(1,(ak a0))],H0⟩)<|.nil)) (bf<|bf<|bf<|bf<|bt<|bt<|bt<|bt<|xB fun r12=>cu<|.or (KH<|.jb (some 58) 10<|.ex fun (x15:Bool)=>ao (.jn ⟨[(1,(.p ⟨0,1⟩ 0)),(68,(.b x15))],[(1,(ak a0))],H0⟩)<|.nil) (E9<|.jb (some 58) 10<|.ex fun (x15:Bool)=>ao (.jn ⟨[(1,(.p ⟨0,1⟩ 0)),(68,(.b x15))],[(1,(ak a0))],H0⟩)<|.nil)))) fun L=>ai (rfl:Z0)<|aJ h (fun h10 h=>ai (g0 h10)<|ai (g0 h10)<|ai (g0 h10)<|ai h10<|ai gt<|ai gt<|ai (rfl:Z0)<|ai gt<|ai tt<|aJ h (fun h11 h=>qu (congrArg not h11)<|aw h (eN a0.Kind 4 6) fun r12 h=>Dq (congrArg not h11)<|aJ h (fun h14 h=>ie (congrArg not h14)<|ai (g0 (congrArg not h11))<|ai (congrArg not h14)<|ai (congrArg not h11)<|aw h (eO a0 false [(.b false),.sk,.sk,(.b (!r12)),(.b (!r12)),(.b r12),(I a0.Kind),(.p ⟨0,1⟩ 0),(.b (!a0.Given)),(.b (!a0.Given)),(.b (!a0.Given)),(.b a0.Given),(.p ⟨0,1⟩ 4),(.b true),(.b true),.sk,.sk,.sk]) fun x15 h=>L h) (fun h14 h=>ai (g1 (congrArg not h14))<|ai (g1 (congrArg not h14))<|ai (rfl:Z0)<|ai (g0 (congrArg not h11))<|ai (congrArg not h14)<|ai (congrArg not h11)<|aw h (eO a0 a0.Given [(.b a0.Given),(.b a0.Given),(.p ⟨0,1⟩ 4),(.b (!r12)),(.b (!r12)),(.b r12),(I a0.Kind),(.p ⟨0,1⟩ 0),(.b (!a0.Given)),(.b (!a0.Given)),(.b (!a0.Given)),(.b a0.Given),(.p ⟨0,1⟩ 4),(.b true),(.b true),.sk,.sk,.sk]) fun x15 h=>L h)) (fun h11 h=>ai (g0 (congrArg not h11))<|ai (g0 (congrArg not h11))<|ai (g0 (congrArg not h11))<|ai (g0 (congrArg not h11))<|ai (g0 (congrArg not h11))<|ai (g0 (congrArg not h11))<|ai (congrArg not h11)<|aw h (eO a0 true [.sk,.sk,.sk,.sk,.sk,.sk,.sk,.sk,(.b (!a0.Given)),(.b (!a0.Given)),(.b (!a0.Given)),(.b a0.Given),(.p ⟨0,1⟩ 4),(.b true),(.b true),.sk,.sk,.sk]) fun x12 h=>L h)) (fun h10 h=>BG h10<|aJ h (fun h11 h=>BH h11<|aJ h (fun h12 h=>qu (congrArg not h12)<|aw h (eN a0.Kind 4 6) fun r13 h=>Dq (congrArg not h12)<|aJ h (fun h15 h=>ie (congrArg not h15)<|ai (g0 (congrArg not h12))<|ai (congrArg not h15)<|ai (congrArg not h12)<|aw h (eO a0 false [(.b false),.sk,.sk,(.b (!r13)),(.b (!r13)),(.b r13),(I a0.Kind),(.p ⟨0,1⟩ 0),(.b (!a0.Given)),(.b (!a0.Given)),(.b (!a0.Given)),(.b a0.Given),(.p ⟨0,1⟩ 4),(.b (a0.Kind==5)),(.b (a0.Kind==5)),(.b (a0.Kind==5)),(I a0.Kind),(.p ⟨0,1⟩ 0)]) fun x16 h=>L h) (fun h15 h=>ai (g1 (congrArg not h15))<|ai (g1 (congrArg not h15))<|ai (rfl:Z0)<|ai (g0 (congrArg not h12))<|ai (congrArg not h15)<|ai (congrArg not h12)<|aw h (eO a0 a0.Given [(.b a0.Given),(.b a0.Given),(.p ⟨0,1⟩ 4),(.b (!r13)),(.b (!r13)),(.b r13),(I a0.Kind),(.p ⟨0,1⟩ 0),(.b (!a0.Given)),(.b (!a0.Given)),(.b (!a0.Given)),(.b a0.Given),(.p ⟨0,1⟩ 4),(.b (a0.Kind==5)),(.b (a0.Kind==5)),(.b (a0.Kind==5)),(I a0.Kind),(.p ⟨0,1⟩ 0)]) fun x16 h=>L h)) (fun h12 h=>ai (g0 (congrArg not h12))<|ai (g0 (congrArg not h12))<|ai (g0 (congrArg not h12))<|ai (g0 (congrArg not h12))<|ai (g0 (congrArg not h12))<|ai (g0 (congrArg not h12))<|ai (congrArg not h12)<|aw h (eO a0 true [.sk,.sk,.sk,.sk,.sk,.sk,.sk,.sk,(.b (!a0.Given)),(.b (!a0.Given)),(.b (!a0.Given)),(.b a0.Given),(.p ⟨0,1⟩ 4),(.b (a0.Kind==5)),(.b (a0.Kind==5)),(.b (a0.Kind==5)),(I a0.Kind),(.p ⟨0,1⟩ 0)]) fun x13 h=>L h)) (fun h11 h=>ai (g1 h11)<|ai (g1 h11)<|ai (g1 h11)<|ai h11<|ai hf<|ai hf<|ai (rfl:Z0)<|ai hf<|aw h (eN a0.Kind 4 6) fun r12 h=>ai hf<|ai hf<|aJ h (fun h14 h=>ai (g1 (congrArg not h14))<|ai (g1 (congrArg not h14))<|ai hf<|ai (congrArg not h14)<|ai ff<|aw h (eO a0 false [(.b false),.sk,.sk,(.b (!r12)),(.b (!r12)),(.b r12),(I a0.Kind),(.p ⟨0,1⟩ 0),(.b false),(.b false),.sk,.sk,.sk,(.b (a0.Kind==5)),(.b (a0.Kind==5)),(.b (a0.Kind==5)),(I a0.Kind),(.p ⟨0,1⟩ 0)]) fun x15 h=>L h) (fun h14 h=>ai (g1 (congrArg not h14))<|ai (g1 (congrArg not h14))<|ai (rfl:Z0)<|ai hf<|ai (congrArg not h14)<|ai ff<|aw h (eO a0 a0.Given [(.b a0.Given),(.b a0.Given),(.p ⟨0,1⟩ 4),(.b (!r12)),(.b (!r12)),(.b r12),(I a0.Kind),(.p ⟨0,1⟩ 0),(.b false),(.b false),.sk,.sk,.sk,(.b (a0.Kind==5)),(.b (a0.Kind==5)),(.b (a0.Kind==5)),(I a0.Kind),(.p ⟨0,1⟩ 0)]) fun x15 h=>L h)))
def ja(v0_3:Nat)(v1_4:Nat):Option (Nat⊕(Unit⊕(Nat×Bool))):=
 (a0.Label[v0_3]?).bind fun (y19:aD)=>
 if (v1_4:Int)<(y19.Names.length:Int) then
  (y19.Names[v1_4]?).bind fun (y22:(List UInt8))=>
  (dx y22).bind fun (r24:Bool)=>
  if r24=true then
   if IntKind.i64.wrap ((v1_4:Int)+1)=((v1_4+1:Nat):Int) then
    some (.inl (v1_4+1))
   else none
  else
   some (.inr (.inl ()))
 else
  some (.inr (.inr (v1_4,decide ((v1_4:Int)<(y19.Names.length:Int)))))
abbrev Fx(v0_3:Nat)(v:Nat):St:=⟨[(1,(.p ⟨0,1⟩ 0)),(3,(I (v0_3:Int))),(4,(I (v:Int)))],[(1,(ak a0))],H0⟩
abbrev Fy(v0_3:Nat)(x:(Unit⊕(Nat×Bool))):aK×St:=match x with | .inl ()=>(.ret,⟨[(2,(.b false))],[],H0⟩) | .inr (z1,z2)=>((.ex 2),⟨[(1,(.p ⟨0,1⟩ 0)),(3,(I (v0_3:Int))),(4,(I (z1:Int))),(92,(.b z2))],[(1,(ak a0))],H0⟩)
theorem Eg(v0_3:Nat)(v1_4:Nat)(o:Nat⊕(Unit⊕(Nat×Bool)))(h:ja a0 v0_3 v1_4=some o):bH E0 LH (Fx a0 v0_3) (Fy a0 v0_3) v1_4 o:=
 bV (bt<|ao (.n v0_3)<|.ex fun (y19:aD)=>ao (.v (.a (cY y19)))<|ao (.i (y19.Names.length:Int))<|.or (cu<|ao (.n v0_3)<|ao (.v (.a (cY y19)))<|ao (.n v1_4)<|.ex fun (y22:(List UInt8))=>ao (.v (.s y22))<|xB fun r24=>.or (bf<|ao (.i ((v1_4+1:Nat):Int))<|.nil) (bt<|.nil)) (bf<|.nil)) fun L=>ai (rfl:Z0)<|ai (rI v0_3)<|br h fun y19 h20 h=>ai (cj aA h20)<|ai (aO AV.s y19.Names)<|bu h (fun h21 h=>fO (decide_eq_true h21)<|ai (rI v0_3)<|ai (cj aA h20)<|ai (rI v1_4)<|br h fun y22 h23 h=>ai (cj AV.s h23)<|aw h (dj y22) fun r24 h=>aJ h (fun h26 h=>ai (congrArg not h26)<|aj h fun w27 h=>ai w27<|L h) (fun h26 h=>ai (congrArg not h26)<|L h)) (fun h21 h=>ai (decide_eq_false h21)<|L h)
def gj(v0_3:Nat):Option (Nat⊕(Unit⊕(Nat×Bool))):=
 if (v0_3:Int)<(a0.Label.length:Int) then
  (a0.Label[v0_3]?).bind fun (y14:aD)=>
  (dx y14.Owner).bind fun (r16:Bool)=>
  if r16=true then
   (lp (fun v=>ja a0 v0_3 v) 0).bind fun (x19:(Unit⊕(Nat×Bool)))=>match x19 with
   | .inl ya_20=>
    some (.inr (.inl ()))
   | .inr yb_20=>
    if IntKind.i64.wrap ((v0_3:Int)+1)=((v0_3+1:Nat):Int) then
     some (.inl (v0_3+1))
    else none
  else
   some (.inr (.inl ()))
 else
  some (.inr (.inr (v0_3,decide ((v0_3:Int)<(a0.Label.length:Int)))))
abbrev Fz(v:Nat):St:=⟨[(1,(.p ⟨0,1⟩ 0)),(3,(I (v:Int)))],[(1,(ak a0))],H0⟩
abbrev FA(x:(Unit⊕(Nat×Bool))):aK×St:=match x with | .inl ()=>(.ret,⟨[(2,(.b false))],[],H0⟩) | .inr (z1,z2)=>((.ex 0),⟨[(1,(.p ⟨0,1⟩ 0)),(3,(I (z1:Int))),(73,(.b z2))],[(1,(ak a0))],H0⟩)
theorem Eh(v0_3:Nat)(o:Nat⊕(Unit⊕(Nat×Bool)))(h:gj a0 v0_3=some o):bH E0 LI (Fz a0) (FA a0) v0_3 o:=
 bV (bt<|ao (.i (a0.Label.length:Int))<|.or (cu<|ao (.n v0_3)<|.ex fun (y14:aD)=>ao (.v (.a (cY y14)))<|xB fun r16=>.or (bf<|.or (.ex fun (ya_20:Unit)=>ao (.lp .ret ⟨[(2,(.b false))],[],H0⟩)<|.nil) (.ex fun (yb_20:(Nat×Bool))=>ao (.lp (.ex 2) ⟨[(1,(.p ⟨0,1⟩ 0)),(3,(I (v0_3:Int))),(4,(I (yb_20.1:Int))),(92,(.b yb_20.2))],[(1,(ak a0))],H0⟩)<|ao (.i ((v0_3+1:Nat):Int))<|.nil)) (bt<|.nil)) (bf<|.nil)) fun L=>ai (rfl:Z0)<|ai (aO aA a0.Label)<|bu h (fun h13 h=>fO (decide_eq_true h13)<|ai (rI v0_3)<|br h fun y14 h15 h=>ai (cj aA h15)<|aw h (dj y14.Owner) fun r16 h=>aJ h (fun h18 h=>ai (congrArg not h18)<|bW h (eH (Eg a0 v0_3) 0) (fun ya_20 h=>L h) (fun yb_20 h=>aj h fun w22 h=>ai w22<|L h)) (fun h18 h=>ai (congrArg not h18)<|L h)) (fun h13 h=>ai (decide_eq_false h13)<|L h)
def gk(v2_5:Nat):Option (Nat⊕(Unit⊕(Nat×Bool))):=
 if (v2_5:Int)<(a0.Params.length:Int) then
  (a0.Params[v2_5]?).bind fun (y18:(List UInt8))=>
  (dx y18).bind fun (r20:Bool)=>
  if r20=true then
   if IntKind.i64.wrap ((v2_5:Int)+1)=((v2_5+1:Nat):Int) then
    some (.inl (v2_5+1))
   else none
  else
   some (.inr (.inl ()))
 else
  some (.inr (.inr (v2_5,decide ((v2_5:Int)<(a0.Params.length:Int)))))
abbrev FB(v:Nat):St:=⟨[(1,(.p ⟨0,1⟩ 0)),(5,(I (v:Int)))],[(1,(ak a0))],H0⟩
abbrev FC(x:(Unit⊕(Nat×Bool))):aK×St:=match x with | .inl ()=>(.ret,⟨[(2,(.b false))],[],H0⟩) | .inr (z1,z2)=>((.ex 4),⟨[(1,(.p ⟨0,1⟩ 0)),(5,(I (z1:Int))),(128,(.b z2))],[(1,(ak a0))],H0⟩)
theorem Ei(v2_5:Nat)(o:Nat⊕(Unit⊕(Nat×Bool)))(h:gk a0 v2_5=some o):bH E0 LJ (FB a0) (FC a0) v2_5 o:=
 bV (bt<|ao (.i (a0.Params.length:Int))<|.or (cu<|ao (.n v2_5)<|.ex fun (y18:(List UInt8))=>ao (.v (.s y18))<|xB fun r20=>.or (bf<|ao (.i ((v2_5+1:Nat):Int))<|.nil) (bt<|.nil)) (bf<|.nil)) fun L=>ai (rfl:Z0)<|ai (aO AV.s a0.Params)<|bu h (fun h17 h=>fO (decide_eq_true h17)<|ai (rI v2_5)<|br h fun y18 h19 h=>ai (cj AV.s h19)<|aw h (dj y18) fun r20 h=>aJ h (fun h22 h=>ai (congrArg not h22)<|aj h fun w23 h=>ai w23<|L h) (fun h22 h=>ai (congrArg not h22)<|L h)) (fun h17 h=>ai (decide_eq_false h17)<|L h)
abbrev Iq(a0:aE)(r:Bool):aZ×HP:=(.ret (.b r),H0)
def sg:Option Bool:=
 (eD a0.Kind 1 7).bind fun (r1:Bool)=>
 if r1=true then
  (dx a0.Name).bind fun (r4:Bool)=>
  if r4=true then
   (rC a0).bind fun (x7:Bool)=>
   if x7=true then
    some false
   else
    (rD a0).bind fun (x10:Bool)=>
    if x10=true then
     some false
    else
     (lp (fun v=>gj a0 v) 0).bind fun (x13:(Unit⊕(Nat×Bool)))=>match x13 with
     | .inl ya_14=>
      some false
     | .inr yb_14=>
      if (a0.Kind !=7)=true then
       if ((a0.Params.length:Int)==0)=true then
        if ((a0.Body.length:Int)==0)=true then
         (nj a0.Result).bind fun (r19:Bool)=>
         some r19
        else
         some false
       else
        some false
      else
       (lp (fun v=>gk a0 v) 0).bind fun (x17:(Unit⊕(Nat×Bool)))=>match x17 with
       | .inl ya_18=>
        some false
       | .inr yb_18=>
        (pY a0.Body).bind fun (r20:Bool)=>
        if r20=true then
         (jO a0.Result).bind fun (r23:Bool)=>
         some r23
        else
         some false
  else
   some false
 else
  some false
theorem Ej(r:Bool)(h:sg a0=some r):call G Ω0 E0 14 [(.a (ak a0))] H0=some (Iq a0 r):=
 aH ZY (bt<|xB fun r1=>.or (dD<|xB fun r4=>jG<|.or (bf<|.jb (some 16) 18<|.ex fun (x7:Bool)=>ao (.jn ⟨[(1,(.p ⟨0,1⟩ 0)),(34,(.b x7))],[(1,(ak a0))],H0⟩)<|oN (.jb (some 35) 33<|.ex fun (x10:Bool)=>ao (.jn ⟨[(1,(.p ⟨0,1⟩ 0)),(68,(.b x10))],[(1,(ak a0))],H0⟩)<|oN (.or (.ex fun (ya_14:Unit)=>ao (.lp .ret ⟨[(2,(.b false))],[],H0⟩)<|.nil) (.ex fun (yb_14:(Nat×Bool))=>ao (.lp (.ex 0) ⟨[(1,(.p ⟨0,1⟩ 0)),(3,(I (yb_14.1:Int))),(73,(.b yb_14.2))],[(1,(ak a0))],H0⟩)<|bt<|.or (cu<|ao (.i (a0.Params.length:Int))<|.or (dD<|ao (.i (a0.Body.length:Int))<|cu<|.or (dD<|xB fun r19=>bt<|.nil) (xn<|.nil)) (Fc<|.nil)) (bf<|.or (.ex fun (ya_18:Unit)=>ao (.lp .ret ⟨[(2,(.b false))],[],H0⟩)<|.nil) (.ex fun (yb_18:(Nat×Bool))=>ao (.lp (.ex 4) ⟨[(1,(.p ⟨0,1⟩ 0)),(5,(I (yb_18.1:Int))),(128,(.b yb_18.2))],[(1,(ak a0))],H0⟩)<|bt<|xB fun r20=>.or (dD<|xB fun r23=>bt<|.nil) (xn<|.nil))))))) (bt<|.nil)) (E8<|.nil)) fun L=>od<|aw h (eN a0.Kind 1 7) fun r1 h=>aJ h (fun h3 h=>qu (congrArg not h3)<|aw h (dj a0.Name) fun r4 h=>o9 (congrArg not h3)<|aJ h (fun h6 h=>ai (congrArg not h6)<|aw h (CO a0) fun x7 h=>aJ h (fun h9 h=>ai h9<|L h) (fun h9 h=>ai h9<|aw h (CP a0) fun x10 h=>aJ h (fun h12 h=>ai h12<|L h) (fun h12 h=>ai h12<|bW h (eH (Eh a0) 0) (fun ya_14 h=>L h) (fun yb_14 h=>ai (rfl:Z0)<|aJ h (fun h16 h=>fO h16<|ai (aO AV.s a0.Params)<|aJ h (fun h17 h=>fH h17<|ai (aO ab a0.Body)<|jv h17<|aJ h (fun h18 h=>fH h18<|aw h (rA a0.Result) fun r19 h=>ai h18<|L h) (fun h18 h=>ru h18<|L h)) (fun h17 h=>KC h17<|L h)) (fun h16 h=>ai h16<|bW h (eH (Ei a0) 0) (fun ya_18 h=>L h) (fun yb_18 h=>ai (rfl:Z0)<|aw h (tY a0.Body) fun r20 h=>aJ h (fun h22 h=>fH h22<|aw h (jC a0.Result) fun r23 h=>ai h22<|L h) (fun h22 h=>ru h22<|L h))))))) (fun h6 h=>ai (congrArg not h6)<|L h)) (fun h3 h=>E2 (congrArg not h3)<|L h)
end
section
variable (a0:Tree)
def gJ(v0_3:Nat):Option (Nat⊕(Unit⊕(Nat×Bool))):=
 if (v0_3:Int)<(a0.Decls.length:Int) then
  (a0.Decls[v0_3]?).bind fun (y5:aE)=>
  (sg y5).bind fun (r7:Bool)=>
  if r7=true then
   if IntKind.i64.wrap ((v0_3:Int)+1)=((v0_3+1:Nat):Int) then
    some (.inl (v0_3+1))
   else none
  else
   some (.inr (.inl ()))
 else
  some (.inr (.inr (v0_3,decide ((v0_3:Int)<(a0.Decls.length:Int)))))
abbrev AX(v:Nat):St:=⟨[(1,(.p ⟨0,1⟩ 0)),(3,(I (v:Int)))],[(1,[(.l 46 (a0.Decls.map au)),(.l 68 (a0.Main.map ab))])],H0⟩
abbrev AY(x:(Unit⊕(Nat×Bool))):aK×St:=match x with | .inl ()=>(.ret,⟨[(2,(I 1))],[],H0⟩) | .inr (z1,z2)=>((.ex 0),⟨[(1,(.p ⟨0,1⟩ 0)),(3,(I (z1:Int))),(10,(.b z2))],[(1,[(.l 46 (a0.Decls.map au)),(.l 68 (a0.Main.map ab))])],H0⟩)
theorem zy(v0_3:Nat)(o:Nat⊕(Unit⊕(Nat×Bool)))(h:gJ a0 v0_3=some o):bH E0 NR (AX a0) (AY a0) v0_3 o:=
 bV (bt<|ao (.i (a0.Decls.length:Int))<|.or (cu<|ao (.n v0_3)<|.ex fun (y5:aE)=>ao (.v (.a (ak y5)))<|xB fun r7=>.or (bf<|ao (.i ((v0_3+1:Nat):Int))<|.nil) (bt<|.nil)) (bf<|.nil)) fun L=>ai (rfl:Z0)<|ai (aO au a0.Decls)<|bu h (fun h4 h=>fO (decide_eq_true h4)<|ai (rI v0_3)<|br h fun y5 h6 h=>ai (cj au h6)<|aw h (Ej y5) fun r7 h=>aJ h (fun h9 h=>ai (congrArg not h9)<|aj h fun w10 h=>ai w10<|L h) (fun h9 h=>ai (congrArg not h9)<|L h)) (fun h4 h=>ai (decide_eq_false h4)<|L h)
abbrev Ek(a0:Tree)(r:Int):aZ×HP:=(.ret (I r),H0)
def oF:Option Int:=
 (pV a0).bind fun (r1:Bool)=>
 if r1=true then
  some 2
 else
  (lp (fun v=>gJ a0 v) 0).bind fun (x4:(Unit⊕(Nat×Bool)))=>match x4 with
  | .inl ya_5=>
   some 1
  | .inr yb_5=>
   (pY a0.Main).bind fun (r7:Bool)=>
   if r7=true then
    some 0
   else
    some 1
theorem zz(r:Int)(h:oF a0=some r):call G Ω0 E0 5 [(.a [(.l 46 (a0.Decls.map au)),(.l 68 (a0.Main.map ab))])] H0=some (Ek a0 r):=
 aH G5 (bt<|xB fun r1=>oN (.or (.ex fun (ya_5:Unit)=>ao (.lp .ret ⟨[(2,(I 1))],[],H0⟩)<|.nil) (.ex fun (yb_5:(Nat×Bool))=>ao (.lp (.ex 0) ⟨[(1,(.p ⟨0,1⟩ 0)),(3,(I (yb_5.1:Int))),(10,(.b yb_5.2))],[(1,[(.l 46 (a0.Decls.map au)),(.l 68 (a0.Main.map ab))])],H0⟩)<|bt<|xB fun r7=>.or (bf<|.nil) (bt<|.nil)))) fun L=>od<|aw h (AM a0) fun r1 h=>aJ h (fun h3 h=>ai h3<|L h) (fun h3 h=>ai h3<|bW h (eH (zy a0) 0) (fun ya_5 h=>L h) (fun yb_5 h=>ai (rfl:Z0)<|aw h (tY a0.Main) fun r7 h=>aJ h (fun h9 h=>ai (congrArg not h9)<|L h) (fun h9 h=>ai (congrArg not h9)<|L h)))
end
end
end Go.Proofs.YtogbakbmphadfaaGreatDoor.A
