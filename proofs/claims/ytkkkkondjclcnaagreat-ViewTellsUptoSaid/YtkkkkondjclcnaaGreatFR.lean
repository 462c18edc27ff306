/- Functions of the program as plain functions, by program. -/
import Derived.Test.YtkkkkondjclcnaaGreatTypes
import Derived.Test.YtkkkkondjclcnaaGreatLift
import Derived.Test.YtkkkkondjclcnaaGreatFG
set_option linter.all false
set_option maxRecDepth 100000
namespace Go.Proofs.YtkkkkondjclcnaaGreat.A
open Go
noncomputable section
variable [Lp]
section
variable (a0:aj)(a1:Int)(v0_3:Nat)
abbrev NG(a0:aj)(a1:Int)(r:Bool):bm×HP:=(.ret (.b r),H0)
def jO:Option Bool:=
 if IntKind.i64.wrap (a0.Many - 1)=a0.Many - 1 then
  (eB a1 0 (a0.Many - 1)).bind fun (r2:Bool)=>
  some r2
 else none
theorem lK(r:Bool)(h:jO a0 a1=some r):call G Ω0 E0 21 [(.a [(I a0.Many),(.l 166 (a0.Grants.map aG))]),(I a1)] H0=some (NG a0 a1 r):=
 aX G21 (bt<|ao (.i (a0.Many - 1))<|xB fun r2=>.nil) fun L=>su<|aJ h fun w1 h=>ai w1<|aW h (eA a1 0 (a0.Many - 1)) fun r2 h=>L h
def eT:Option (Nat⊕(Unit⊕(Nat×Bool))):=
 if (v0_3:Int)<(a0.Grants.length:Int) then
  (a0.Grants[v0_3]?).bind fun (y6:cG)=>
  (jO a0 y6.Who).bind fun (r8:Bool)=>
  if r8=true then
   (jO a0 y6.For).bind fun (r11:Bool)=>
   if r11=true then
    if IntKind.i64.wrap ((v0_3:Int)+1)=((v0_3+1:Nat):Int) then
     some (.inl (v0_3+1))
    else none
   else
    some (.inr (.inl ()))
  else
   some (.inr (.inl ()))
 else
  some (.inr (.inr (v0_3,decide ((v0_3:Int)<(a0.Grants.length:Int)))))
abbrev EG(v:Nat):St:=⟨[(1,(.p ⟨0,1⟩ 0)),(3,(I (v:Int)))],[(1,[(I a0.Many),(.l 166 (a0.Grants.map aG))])],H0⟩
abbrev sh(x:(Unit⊕(Nat×Bool))):aI×St:=match x with | .inl ()=>(.ret,⟨[(2,(I 5))],[],H0⟩) | .inr (z1,z2)=>((.ex 0),⟨[(1,(.p ⟨0,1⟩ 0)),(3,(I (z1:Int))),(16,(.b z2))],[(1,[(I a0.Many),(.l 166 (a0.Grants.map aG))])],H0⟩)
theorem Dy(o:Nat⊕(Unit⊕(Nat×Bool)))(h:eT a0 v0_3=some o):bz E0 U3 (EG a0) (sh a0) v0_3 o:=
 bG (bt<|ao (.i (a0.Grants.length:Int))<|.or (iu<|ao (.n v0_3)<|.ex fun (y6:cG)=>ao (.v (.a [(I y6.Who),(I y6.For)]))<|xB fun r8=>.or (Tx<|ao (.n v0_3)<|ao (.v (.a [(I y6.Who),(I y6.For)]))<|iu<|xB fun r11=>wW<|.or (bf<|ao (.i ((v0_3+1:Nat):Int))<|.nil) (bt<|.nil)) (bf<|bf<|bf<|bf<|bf<|bf<|bf<|bf<|bf<|bt<|bt<|.nil)) (bf<|.nil)) fun L=>ai (rfl:Z0)<|ai (aC aG a0.Grants)<|bP h (fun h5 h=>ai (av h5)<|ai tt<|ai (rfl:Z0)<|bq<|ai (rfl:Z0)<|bq<|ai (rI v0_3)<|bR h fun y6 h7 h=>ai (aD aG h7)<|zU<|aW h (lK a0 y6.Who) fun r8 h=>zU<|bI h (fun h10 h=>ai (g0 (an not h10))<|fB<|CZ (an not h10)<|fB<|CZ (an not h10)<|ai (rI v0_3)<|ai (aD aG h7)<|ai tt<|CZ (an not h10)<|ai tt<|ai (g0 (an not h10))<|aW h (lK a0 y6.For) fun r11 h=>jy (an not h10)<|bI h (fun h13 h=>ai (an not h13)<|aJ h fun w14 h=>ai w14<|L h) (fun h13 h=>ai (an not h13)<|L h)) (fun h10 h=>bY (an not h10)<|bY (an not h10)<|bY (an not h10)<|bY (an not h10)<|jy (an not h10)<|ai tt<|L h)) (fun h5 h=>ai (aw h5)<|L h)
abbrev Hz(a0:aj)(r:Int):bm×HP:=(.ret (I r),H0)
def pN:Option Int:=
 (eB a0.Many 1 6).bind fun (r1:Bool)=>
 if r1=true then
  if 20<(a0.Grants.length:Int) then
   some 2
  else
   (lp (fun v=>eT a0 v) 0).bind fun (x5:(Unit⊕(Nat×Bool)))=>match x5 with
   | .inl ya_6=>
    some 5
   | .inr yb_6=>
    some 0
 else
  some 3
theorem Dz(r:Int)(h:pN a0=some r):call G Ω0 E0 47 [(.a [(I a0.Many),(.l 166 (a0.Grants.map aG))])] H0=some (Hz a0 r):=
 aX G47 (bt<|xB fun r1=>.or (bf<|bt<|ao (.i (a0.Grants.length:Int))<|oN (.or (.ex fun (ya_6:Unit)=>ao (.bX (sh a0 (.inl ya_6)))<|.nil) (.ex fun (yb_6:(Nat×Bool))=>ao (.bX (sh a0 (.inr yb_6)))<|.nil))) (bt<|.nil)) fun L=>su<|aW h (eA a0.Many 1 6) fun r1 h=>bI h (fun h3 h=>kP (an not h3)<|ai (aC aG a0.Grants)<|bP h (fun h4 h=>ai (av h4)<|L h) (fun h4 h=>ai (aw h4)<|dy h (dZ (Dy a0) 0) (fun ya_6 h=>L h) (fun yb_6 h=>L h))) (fun h3 h=>ai (an not h3)<|L h)
end
section
variable (a0:aj)(a1:(List bD))(v0_5:Nat)(v1_6:Nat)(v2_7:Nat)
def e9:Option (Nat⊕(Unit⊕(Nat×Bool))):=
 (a1[v0_5]?).bind fun (y9:bD)=>
 if (v1_6:Int)<(y9.Names.length:Int) then
  (y9.Names[v1_6]?).bind fun (y12:Int)=>
  (jO a0 y12).bind fun (r14:Bool)=>
  if r14=true then
   if IntKind.i64.wrap ((v1_6:Int)+1)=((v1_6+1:Nat):Int) then
    some (.inl (v1_6+1))
   else none
  else
   some (.inr (.inl ()))
 else
  some (.inr (.inr (v1_6,decide ((v1_6:Int)<(y9.Names.length:Int)))))
abbrev Cc(v:Nat):St:=⟨[(1,(.l 138 (a1.map aE))),(2,(.p ⟨0,2⟩ 0)),(5,(I (v0_5:Int))),(6,(I (v:Int)))],[(2,[(I a0.Many),(.l 166 (a0.Grants.map aG))])],H0⟩
abbrev pt(x:(Unit⊕(Nat×Bool))):aI×St:=match x with | .inl ()=>(.ret,⟨[(4,(I 5))],[],H0⟩) | .inr (z1,z2)=>((.ex 2),⟨[(1,(.l 138 (a1.map aE))),(2,(.p ⟨0,2⟩ 0)),(5,(I (v0_5:Int))),(6,(I (z1:Int))),(39,(.b z2))],[(2,[(I a0.Many),(.l 166 (a0.Grants.map aG))])],H0⟩)
theorem BL(o:Nat⊕(Unit⊕(Nat×Bool)))(h:e9 a0 a1 v0_5 v1_6=some o):bz E0 Qw (Cc a0 a1 v0_5) (pt a0 a1 v0_5) v1_6 o:=
 bG (ao (.n v0_5)<|.ex fun (y9:bD)=>ao (.v (.a [(I y9.Owner),(.l 3 (y9.Names.map (I)))]))<|ao (.i (y9.Names.length:Int))<|.or (en<|ao (.n v0_5)<|ao (.v (.a [(I y9.Owner),(.l 3 (y9.Names.map (I)))]))<|ao (.n v1_6)<|xI fun y12=>xB fun r14=>.or (bf<|ao (.i ((v1_6+1:Nat):Int))<|.nil) (bt<|.nil)) (bf<|.nil)) fun L=>ai (rI v0_5)<|bR h fun y9 h10 h=>ai (aD aE h10)<|ai (aC (I) y9.Names)<|bP h (fun h11 h=>ai (av h11)<|ai tt<|ai (rfl:Z0)<|bq<|ai tt<|ai (rI v0_5)<|ai (aD aE h10)<|uS<|ai (rI v1_6)<|bR h fun y12 h13 h=>ai (aD (I) h13)<|bq<|aW h (lK a0 y12) fun r14 h=>bI h (fun h16 h=>ai (an not h16)<|aJ h fun w17 h=>ai w17<|L h) (fun h16 h=>ai (an not h16)<|L h)) (fun h11 h=>ai (aw h11)<|L h)
def ep(a0:aj)(a1:(List bD))(v0_5:Nat)(v2_7:Nat):Option (Nat⊕(Unit⊕(Nat×Bool))):=
 (a1[v0_5]?).bind fun (y12:bD)=>
 if (v2_7:Int)<(y12.Names.length:Int) then
  (y12.Names[v2_7]?).bind fun (y15:Int)=>
  if IntKind.i64.wrap ((v2_7:Int) - 1)=(v2_7:Int) - 1 then
   (ed ((v2_7:Int) - 1)).bind fun (j18:Nat)=>
   (y12.Names[j18]?).bind fun (y20:Int)=>
   if y15≤y20 then
    some (.inr (.inl ()))
   else
    if IntKind.i64.wrap ((v2_7:Int)+1)=((v2_7+1:Nat):Int) then
     some (.inl (v2_7+1))
    else none
  else none
 else
  some (.inr (.inr (v2_7,decide ((v2_7:Int)<(y12.Names.length:Int)))))
abbrev Cd(v:Nat):St:=⟨[(1,(.l 138 (a1.map aE))),(2,(.p ⟨0,2⟩ 0)),(5,(I (v0_5:Int))),(7,(I (v:Int)))],[(2,[(I a0.Many),(.l 166 (a0.Grants.map aG))])],H0⟩
abbrev pv(x:(Unit⊕(Nat×Bool))):aI×St:=match x with | .inl ()=>(.ret,⟨[(4,(I 4))],[],H0⟩) | .inr (z1,z2)=>((.ex 4),⟨[(1,(.l 138 (a1.map aE))),(2,(.p ⟨0,2⟩ 0)),(5,(I (v0_5:Int))),(7,(I (z1:Int))),(60,(.b z2))],[(2,[(I a0.Many),(.l 166 (a0.Grants.map aG))])],H0⟩)
theorem BM(o:Nat⊕(Unit⊕(Nat×Bool)))(h:ep a0 a1 v0_5 v2_7=some o):bz E0 Qx (Cd a0 a1 v0_5) (pv a0 a1 v0_5) v2_7 o:=
 bG (ao (.n v0_5)<|.ex fun (y12:bD)=>ao (.v (.a [(I y12.Owner),(.l 3 (y12.Names.map (I)))]))<|ao (.i (y12.Names.length:Int))<|.or (bt<|ao (.n v0_5)<|ao (.v (.a [(I y12.Owner),(.l 3 (y12.Names.map (I)))]))<|ao (.n v2_7)<|xI fun y15=>ao (.n v0_5)<|ao (.v (.a [(I y12.Owner),(.l 3 (y12.Names.map (I)))]))<|ao (.i ((v2_7:Int) - 1))<|xN fun j18=>xI fun y20=>oN (ao (.i ((v2_7+1:Nat):Int))<|.nil)) (bf<|.nil)) fun L=>ai (rI v0_5)<|bR h fun y12 h13 h=>ai (aD aE h13)<|ai (aC (I) y12.Names)<|bP h (fun h14 h=>Lv (av h14)<|ai (rI v0_5)<|ai (aD aE h13)<|uS<|ai (rI v2_7)<|bR h fun y15 h16 h=>ai (aD (I) h16)<|uS<|ai (rI v0_5)<|ai (aD aE h13)<|uS<|aJ h fun w17 h=>ai w17<|ai tt<|kC h fun j18 h19 h=>ai h19<|bR h fun y20 h21 h=>ai (aD (I) h21)<|bq<|bP h (fun h22 h=>ai (av h22)<|L h) (fun h22 h=>ai (aw h22)<|aJ h fun w23 h=>ai w23<|L h)) (fun h14 h=>ai (aw h14)<|L h)
def dq:Option (Nat⊕(Unit⊕(Unit⊕(Unit⊕(Nat×Bool))))):=
 if (v0_5:Int)<(a1.length:Int) then
  (a1[v0_5]?).bind fun (y3:bD)=>
  (jO a0 y3.Owner).bind fun (r5:Bool)=>
  if r5=true then
   if 6<(y3.Names.length:Int) then
    some (.inr (.inl ()))
   else
    (lp (fun v=>e9 a0 a1 v0_5 v) 0).bind fun (x9:(Unit⊕(Nat×Bool)))=>match x9 with
    | .inl ya_10=>
     some (.inr (.inr (.inl ())))
    | .inr yb_10=>
     (lp (fun v=>ep a0 a1 v0_5 v) 1).bind fun (x12:(Unit⊕(Nat×Bool)))=>match x12 with
     | .inl ya_13=>
      some (.inr (.inr (.inr (.inl ()))))
     | .inr yb_13=>
      if IntKind.i64.wrap ((v0_5:Int)+1)=((v0_5+1:Nat):Int) then
       some (.inl (v0_5+1))
      else none
  else
   some (.inr (.inr (.inl ())))
 else
  some (.inr (.inr (.inr (.inr (v0_5,decide ((v0_5:Int)<(a1.length:Int)))))))
abbrev Ce(v:Nat):St:=⟨[(1,(.l 138 (a1.map aE))),(2,(.p ⟨0,2⟩ 0)),(5,(I (v:Int)))],[(2,[(I a0.Many),(.l 166 (a0.Grants.map aG))])],H0⟩
abbrev jl(x:(Unit⊕(Unit⊕(Unit⊕(Nat×Bool))))):aI×St:=match x with | .inl ()=>(.ret,⟨[(4,(I 2))],[],H0⟩) | .inr (.inl ())=>(.ret,⟨[(4,(I 5))],[],H0⟩) | .inr (.inr (.inl ()))=>(.ret,⟨[(4,(I 4))],[],H0⟩) | .inr (.inr (.inr (z1,z2)))=>((.ex 0),⟨[(1,(.l 138 (a1.map aE))),(2,(.p ⟨0,2⟩ 0)),(5,(I (z1:Int))),(14,(.b z2))],[(2,[(I a0.Many),(.l 166 (a0.Grants.map aG))])],H0⟩)
theorem BN(o:Nat⊕(Unit⊕(Unit⊕(Unit⊕(Nat×Bool)))))(h:dq a0 a1 v0_5=some o):bz E0 Qy (Ce a0 a1) (jl a0 a1) v0_5 o:=
 bG (ao (.i (a1.length:Int))<|.or (en<|ao (.n v0_5)<|.ex fun (y3:bD)=>ao (.v (.a [(I y3.Owner),(.l 3 (y3.Names.map (I)))]))<|xB fun r5=>.or (bf<|ao (.n v0_5)<|ao (.v (.a [(I y3.Owner),(.l 3 (y3.Names.map (I)))]))<|ao (.i (y3.Names.length:Int))<|oN (.or (.ex fun (ya_10:Unit)=>ao (.bX (pt a0 a1 v0_5 (.inl ya_10)))<|.nil) (.ex fun (yb_10:(Nat×Bool))=>ao (.bX (pt a0 a1 v0_5 (.inr yb_10)))<|.or (.ex fun (ya_13:Unit)=>ao (.bX (pv a0 a1 v0_5 (.inl ya_13)))<|.nil) (.ex fun (yb_13:(Nat×Bool))=>ao (.bX (pv a0 a1 v0_5 (.inr yb_13)))<|ao (.i ((v0_5+1:Nat):Int))<|.nil)))) (bt<|.nil)) (bf<|.nil)) fun L=>ai (aC aE a1)<|bP h (fun h2 h=>ai (av h2)<|ai tt<|ai (rfl:Z0)<|bq<|ai tt<|ai (rI v0_5)<|bR h fun y3 h4 h=>ai (aD aE h4)<|zU<|aW h (lK a0 y3.Owner) fun r5 h=>bI h (fun h7 h=>ai (an not h7)<|ai (rI v0_5)<|ai (aD aE h4)<|ai (aC (I) y3.Names)<|bP h (fun h8 h=>ai (av h8)<|L h) (fun h8 h=>ai (aw h8)<|dy h (dZ (BL a0 a1 v0_5) 0) (fun ya_10 h=>L h) (fun yb_10 h=>dy h (dZ (BM a0 a1 v0_5) 1) (fun ya_13 h=>L h) (fun yb_13 h=>aJ h fun w15 h=>ai w15<|L h)))) (fun h7 h=>ai (an not h7)<|L h)) (fun h2 h=>ai (aw h2)<|L h)
abbrev EH(a0:aj)(a1:(List bD))(r:Int):bm×HP:=(.ret (I r),H0)
def kZ:Option Int:=
 if 4<(a1.length:Int) then
  some 2
 else
  (lp (fun v=>dq a0 a1 v) 0).bind fun (x2:(Unit⊕(Unit⊕(Unit⊕(Nat×Bool)))))=>match x2 with
  | .inl ya_3=>
   some 2
  | .inr (.inl yb_3)=>
   some 5
  | .inr (.inr (.inl yc_3))=>
   some 4
  | .inr (.inr (.inr yd_3))=>
   some 0
theorem ui(r:Int)(h:kZ a0 a1=some r):call G Ω0 E0 114 [(.a [(I a0.Many),(.l 166 (a0.Grants.map aG))]),(.l 138 (a1.map aE))] H0=some (EH a0 a1 r):=
 aX ajs (ao (.i (a1.length:Int))<|oN (.or (.ex fun (ya_3:Unit)=>ao (.bX (jl a0 a1 (.inl ya_3)))<|.nil) (.or (.ex fun (yb_3:Unit)=>ao (.bX (jl a0 a1 (.inr (.inl yb_3))))<|.nil) (.or (.ex fun (yc_3:Unit)=>ao (.bX (jl a0 a1 (.inr (.inr (.inl yc_3)))))<|.nil) (.ex fun (yd_3:(Nat×Bool))=>ao (.bX (jl a0 a1 (.inr (.inr (.inr yd_3)))))<|.nil))))) fun L=>ai tt<|ai (aC aE a1)<|bP h (fun h1 h=>ai (av h1)<|L h) (fun h1 h=>ai (aw h1)<|Pr h (dZ (BN a0 a1) 0) (fun ya_3 h=>L h) (fun yb_3 h=>L h) (fun yc_3 h=>L h) (fun yd_3 h=>L h))
end
section
variable (a0:aj)(a1:Label)
abbrev Je(a0:aj)(a1:Label)(r:Int):bm×HP:=(.ret (I r),H0)
def rK:Option Int:=
 (kZ a0 a1.Read).bind fun (r1:Int)=>
 if (r1==0)=true then
  (kZ a0 a1.Write).bind fun (r4:Int)=>
  some r4
 else
  some r1
theorem EI(r:Int)(h:rK a0 a1=some r):call G Ω0 E0 48 [(.a [(I a0.Many),(.l 166 (a0.Grants.map aG))]),(.a [(.l 138 (a1.Read.map aE)),(.l 138 (a1.Write.map aE))])] H0=some (Je a0 a1 r):=
 aX G48 (en<|xI fun r1=>.or (iu<|xI fun r4=>.nil) (bf<|.nil)) fun L=>bq<|kD<|aW h (ui a0 a1.Read) fun r1 h=>bI h (fun h3 h=>Ps h3<|aW h (ui a0 a1.Write) fun r4 h=>L h) (fun h3 h=>ai h3<|L h)
end
section
variable (a0:(List Stmt))(a1:Int)
abbrev Kr(a0:(List Stmt))(a1:Int)(r:Int):bm×HP:=(.ret (I r),H0)
abbrev wS(r:Int):Prop:=call G Ω0 E0 49 [(.l 92 (a0.map aV)),(I a1)] H0=some (Kr a0 a1 r)
end
structure wT where
 f_R_ManyStmts:(List Stmt)→Int→Option Int
structure rL(R:wT):Prop where
 f_R_ManyStmts:∀ (a0:(List Stmt))(a1:Int)(r:Int),R.f_R_ManyStmts a0 a1=some r→wS a0 a1 r
section
variable (R:wT)(a0:(List Stmt))(a1:Int)(v0_5:Int)(v0_6:Nat)
def pO:Option ((Int×Nat)⊕(Bool×Int×Nat)):=
 if (v0_6:Int)<(a0.length:Int) then
  if v0_5≤50 then
   (a0[v0_6]?).bind fun (y5:Stmt)=>
   if IntKind.i64.wrap (a1+1)=a1+1 then
    (R.f_R_ManyStmts y5.Then (a1+1)).bind fun (r8:Int)=>
    if IntKind.i64.wrap (1+r8)=1+r8 then
     (R.f_R_ManyStmts y5.Else (a1+1)).bind fun (r11:Int)=>
     if IntKind.i64.wrap ((1+r8)+r11)=(1+r8)+r11 then
      if IntKind.i64.wrap (v0_5+((1+r8)+r11))=v0_5+((1+r8)+r11) then
       if IntKind.i64.wrap ((v0_6:Int)+1)=((v0_6+1:Nat):Int) then
        some (.inl (v0_5+((1+r8)+r11),v0_6+1))
       else none
      else none
     else none
    else none
   else none
  else
   some (.inr (decide (v0_5≤50),v0_5,v0_6))
 else
  some (.inr (false,v0_5,v0_6))
abbrev HA(v:(Int×Nat)):St:=⟨[(0,(.l 92 (a0.map aV))),(1,(I a1)),(5,(I v.1)),(6,(I (v.2:Int)))],[],H0⟩
abbrev zG(x:(Bool×Int×Nat)):aI×St:=((.ex 0),⟨[(0,(.l 92 (a0.map aV))),(1,(I a1)),(5,(I x.2.1)),(6,(I (x.2.2:Int))),(21,(.b x.1))],[],H0⟩)
theorem FU(hR:rL R)(a0:(List Stmt))(a1:Int)(v0_5:Int)(v0_6:Nat)(o:(Int×Nat)⊕(Bool×Int×Nat))(h:pO R a0 a1 v0_5 v0_6=some o):bz E0 U4 (HA a0 a1) (zG a0 a1) (v0_5,v0_6) o:=
 bG (ao (.i (a0.length:Int))<|.or (iu<|.or (bt<|ao (.n v0_6)<|.ex fun (y5:Stmt)=>ao (.v (.a (bN y5)))<|ao (.i (a1+1))<|xI fun r8=>ao (.i (1+r8))<|ao (.n v0_6)<|ao (.v (.a (bN y5)))<|ao (.i (a1+1))<|xI fun r11=>ao (.i ((1+r8)+r11))<|ao (.i (v0_5+((1+r8)+r11)))<|ao (.i ((v0_6+1:Nat):Int))<|.nil) (bf<|.nil)) (N2<|.nil)) fun L=>ai (aC aV a0)<|bP h (fun h3 h=>nX (av h3)<|bP h (fun h4 h=>ai (av h4)<|bq<|bq<|ai (rI v0_6)<|bR h fun y5 h6 h=>ai (oE aV h6 (ij _))<|uS<|aJ h fun w7 h=>ai w7<|ai tt<|aW h (hR.f_R_ManyStmts y5.Then (a1+1)) fun r8 h=>ai tt<|aJ h fun w10 h=>ai w10<|zU<|ai (rI v0_6)<|ai (oE aV h6 (ij _))<|uS<|ai w7<|ai tt<|aW h (hR.f_R_ManyStmts y5.Else (a1+1)) fun r11 h=>ai tt<|aJ h fun w13 h=>ai w13<|ai tt<|aJ h fun w14 h=>ai w14<|aJ h fun w15 h=>ai w15<|L h) (fun h4 h=>ai (aw h4)<|L h)) (fun h3 h=>dt (aw h3)<|ai (aw h3)<|ai ff<|L h)
def mb:Option (Unit⊕Int):=
 (lp (fun v=>pO R a0 a1 v.1 v.2) (0,0)).bind fun (x3:(Bool×Int×Nat))=>
 if 51<x3.2.1 then
  some (.inl ())
 else
  some (.inr x3.2.1)
abbrev mc(a0:(List Stmt))(a1:Int)(x:(Unit⊕Int)):aI×St:=match x with | .inl ()=>(.ret,⟨[(4,(I 51))],[],H0⟩) | .inr z1=>(.ret,⟨[(4,(I z1))],[],H0⟩)
theorem wZ(hR:rL R)(a0:(List Stmt))(a1:Int)(x:(Unit⊕Int))(h:mb R a0 a1=some x):run G Ω0 E0 U5 ⟨[(0,(.l 92 (a0.map aV))),(1,(I a1))],[],H0⟩=some (mc a0 a1 x):=
 vu (.ex fun (x3:(Bool×Int×Nat))=>ao (.bX (zG a0 a1 x3))<|oN (.nil)) fun L=>aW h (dZ (fun v=>FU R hR a0 a1 v.1 v.2) (0,0)) fun x3 h=>bP h (fun h5 h=>ai (av h5)<|L h) (fun h5 h=>ai (aw h5)<|L h)
def rM:Option Int:=
 if 0<(a0.length:Int) then
  if 6<a1 then
   some 51
  else
   (mb R a0 a1).bind fun (x3:(Unit⊕Int))=>match x3 with
   | .inl ya_4=>
    some 51
   | .inr yb_4=>
    some yb_4
 else
  (mb R a0 a1).bind fun (x2:(Unit⊕Int))=>match x2 with
  | .inl ya_3=>
   some 51
  | .inr yb_3=>
   some yb_3
theorem EJ(hR:rL R)(a0:(List Stmt))(a1:Int)(r:Int)(h:rM R a0 a1=some r):wS a0 a1 r:=
 aX G49 (ao (.i (a0.length:Int))<|.or (iu<|oN (.fb<|.or (.ex fun (ya_4:Unit)=>ao (.jJ (mc a0 a1 (.inl ya_4)))<|.nil) (.ex fun (yb_4:Int)=>ao (.jJ (mc a0 a1 (.inr yb_4)))<|.nil))) (N2<|.fb<|.or (.ex fun (ya_3:Unit)=>ao (.jJ (mc a0 a1 (.inl ya_3)))<|.nil) (.ex fun (yb_3:Int)=>ao (.jJ (mc a0 a1 (.inr yb_3)))<|.nil))) fun L=>ai (aC aV a0)<|bP h (fun h1 h=>nX (av h1)<|bP h (fun h2 h=>ai (av h2)<|L h) (fun h2 h=>ai (aw h2)<|dy h (wZ R hR a0 a1) (fun ya_4 h=>L h) (fun yb_4 h=>L h))) (fun h1 h=>dt (aw h1)<|ai (aw h1)<|ai ff<|dy h (wZ R hR a0 a1) (fun ya_3 h=>L h) (fun yb_3 h=>L h))
def kM:Nat→wT
 | 0=>⟨fun z0 z1=>none⟩
 | n+1=>⟨rM (kM n)⟩
theorem AX:∀ n,rL (kM n)
 | 0=>⟨fun _ _ r h=>(by cases h)⟩
 | n+1=>⟨fun a0 a1 r h=>EJ _ (AX n) a0 a1 r h⟩
def sS:Option Int:=ev fun n=>(kM n).f_R_ManyStmts a0 a1
theorem yp(r:Int)(h:sS a0 a1=some r):wS a0 a1 r:=by
 obtain ⟨n,hn⟩:=uR h
 exact (AX n).f_R_ManyStmts a0 a1 r hn
def uI:List cN:=(gM 45 44)::⟨some 46,.fa 2 1,some ⟨45,false⟩,false⟩::⟨some 47,.ld none 46,some ⟨45,false⟩,false⟩::⟨some 48,.ln false 47,some ⟨45,false⟩,false⟩::⟨some 49,.fa 0 1,some ⟨45,false⟩,false⟩::⟨some 50,.fa 0 49,some ⟨45,false⟩,false⟩::⟨some 51,.ld none 50,some ⟨45,false⟩,false⟩::⟨some 52,.bo .gtr false 48 51,some ⟨45,false⟩,false⟩::(gp 53 (.pk 45 (.c (.b true)) 52))::[]
end
section
variable (a0:Program)(v0_4:Nat)(v1_5:(List Label))(v1_6:Nat)(x12:((List Label)×Nat×Bool))(v2_7:Nat)(v3_9:Nat)(v4_11:Int)(v4_12:Nat)(v5_13:Nat)(y26:Func)(v6_15:Nat)(v7_16:Nat)(w19_1:Int)
def gR(u2_1:Bool):Option Bool:=
 if u2_1=true then
  some true
 else
  some (decide (a0.aj.Many<(a0.Speak.length:Int)))
abbrev jm(u2_1:Bool)(x:Bool):St:=⟨[(1,(.p ⟨0,1⟩ 0)),(53,(.b x))],[(1,(ar a0))],H0⟩
theorem ly(u2_1:Bool)(w:List AV)(x:Bool)(h:gR a0 u2_1=some x):rY G Ω0 E0 [1,53] [1] uI ⟨[(44,(.b u2_1)),(43,(W w 0)),(42,(W w 1)),(41,(W w 2)),(40,(W w 3)),(39,(W w 4)),(38,(W w 5)),(37,(W w 6)),(36,(W w 7)),(35,(W w 8)),(34,(W w 9)),(33,(W w 10)),(32,(W w 11)),(31,(W w 12)),(30,(W w 13)),(29,(W w 14)),(28,(W w 15)),(27,(.b (decide (16<(a0.Vars.length:Int))))),(26,(.b (decide (16<(a0.Vars.length:Int))))),(25,(I (a0.Vars.length:Int))),(24,(.l 83 (a0.Vars.map cJ))),(23,(.p ⟨0,1⟩ 5)),(1,(.p ⟨0,1⟩ 0))],[(1,(ar a0))],H0⟩=some (jm a0 u2_1 x):=
 ss (.or (bf<|bf<|bf<|bf<|bf<|bf<|bf<|bt<|.nil) (qx<|ao (.i (a0.Speak.length:Int))<|Tw<|.nil)) fun L=>bI h (fun h7 h=>bY h7<|bY h7<|bY h7<|jy h7<|L h) (fun h7 h=>GK h7<|ai (aC (I) a0.Speak)<|bY h7<|ai (g0 h7)<|ai (rfl:Z0)<|jy h7<|L h)
def Cf:List cN:=(gF 23 5 1)::(gQ 24 23)::(gl 25 24)::(gB 26 .gtr 25 (kI 16))::(gM 27 26)::⟨some 28,.fa 3 1,some ⟨27,false⟩,false⟩::⟨some 29,.ld none 28,some ⟨27,false⟩,false⟩::⟨some 30,.ln false 29,some ⟨27,false⟩,false⟩::⟨some 31,.bo .gtr false 30 (kI 5),some ⟨27,false⟩,false⟩::(gp 32 (.pk 27 (.c (.b true)) 31))::(gM 33 32)::⟨some 34,.fa 4 1,some ⟨33,false⟩,false⟩::⟨some 35,.ld none 34,some ⟨33,false⟩,false⟩::⟨some 36,.ln false 35,some ⟨33,false⟩,false⟩::⟨some 37,.bo .gtr false 36 (kI 5),some ⟨33,false⟩,false⟩::(gp 38 (.pk 33 (.c (.b true)) 37))::(gM 39 38)::⟨some 40,.fa 6 1,some ⟨39,false⟩,false⟩::⟨some 41,.ld none 40,some ⟨39,false⟩,false⟩::⟨some 42,.ln false 41,some ⟨39,false⟩,false⟩::⟨some 43,.bo .gtr false 42 (kI 5),some ⟨39,false⟩,false⟩::(gp 44 (.pk 39 (.c (.b true)) 43))::uI
def mj:Option Bool:=
 if 16<(a0.Vars.length:Int) then
  (gR a0 true).bind fun (x5:Bool)=>
  some x5
 else
  if 5<(a0.Ins.length:Int) then
   (gR a0 true).bind fun (x6:Bool)=>
   some x6
  else
   if 5<(a0.Outs.length:Int) then
    (gR a0 true).bind fun (x7:Bool)=>
    some x7
   else
    (gR a0 (decide (5<(a0.Funcs.length:Int)))).bind fun (x7:Bool)=>
    some x7
abbrev uJ(x:Bool):St:=⟨[(1,(.p ⟨0,1⟩ 0)),(53,(.b x))],[(1,(ar a0))],H0⟩
theorem BO(x:Bool)(h:mj a0=some x):rY G Ω0 E0 [1,53] [1] Cf ⟨[(1,(.p ⟨0,1⟩ 0))],[(1,(ar a0))],H0⟩=some (uJ a0 x):=
 ss (bt<|ao (.i (a0.Vars.length:Int))<|.or (abd<|.jb (some 45) 8<|.ex fun (x5:Bool)=>ao (.jn (jm a0 true x5))<|.nil) (qx<|ao (.i (a0.Ins.length:Int))<|wW<|.or (abe<|.jb (some 45) 8<|.ex fun (x6:Bool)=>ao (.jn (jm a0 true x6))<|.nil) (qx<|ao (.i (a0.Outs.length:Int))<|wW<|.or (VI<|.jb (some 45) 8<|.ex fun (x7:Bool)=>ao (.jn (jm a0 true x7))<|.nil) (qx<|ao (.i (a0.Funcs.length:Int))<|wW<|.jb (some 45) 8<|.ex fun (x7:Bool)=>ao (.jn (jm a0 (decide (5<(a0.Funcs.length:Int))) x7))<|.nil)))) fun L=>ai (rfl:Z0)<|ai (aC cJ a0.Vars)<|bP h (fun h4 h=>bY (av h4)<|bY (av h4)<|ai (av h4)<|nu<|nu<|ai tt<|nu<|nu<|ai tt<|aW h (ly a0 true [.sk,.sk,.sk,.sk,(.b true),(.b true),.sk,.sk,.sk,.sk,(.b true),(.b true),.sk,.sk,.sk,.sk]) fun x5 h=>L h) (fun h4 h=>GK (aw h4)<|ai (aC ay a0.Ins)<|jy (aw h4)<|bP h (fun h5 h=>bY (av h5)<|bY (av h5)<|ai (av h5)<|nu<|nu<|ai tt<|aW h (ly a0 true [.sk,.sk,.sk,.sk,(.b true),(.b true),.sk,.sk,.sk,.sk,(.b (decide (5<(a0.Ins.length:Int)))),(.b (decide (5<(a0.Ins.length:Int)))),(.b (decide (5<(a0.Ins.length:Int)))),(I (a0.Ins.length:Int)),(.l 81 (a0.Ins.map ay)),(.p ⟨0,1⟩ 3)]) fun x6 h=>L h) (fun h5 h=>GK (aw h5)<|ai (aC ay a0.Outs)<|jy (aw h5)<|bP h (fun h6 h=>VH (av h6)<|aW h (ly a0 true [.sk,.sk,.sk,.sk,(.b (decide (5<(a0.Outs.length:Int)))),(.b (decide (5<(a0.Outs.length:Int)))),(.b (decide (5<(a0.Outs.length:Int)))),(I (a0.Outs.length:Int)),(.l 81 (a0.Outs.map ay)),(.p ⟨0,1⟩ 4),(.b (decide (5<(a0.Ins.length:Int)))),(.b (decide (5<(a0.Ins.length:Int)))),(.b (decide (5<(a0.Ins.length:Int)))),(I (a0.Ins.length:Int)),(.l 81 (a0.Ins.map ay)),(.p ⟨0,1⟩ 3)]) fun x7 h=>L h) (fun h6 h=>GK (aw h6)<|ai (aC cA a0.Funcs)<|jy (aw h6)<|aW h (ly a0 (decide (5<(a0.Funcs.length:Int))) [(.b (decide (5<(a0.Funcs.length:Int)))),(I (a0.Funcs.length:Int)),(.l 101 (a0.Funcs.map cA)),(.p ⟨0,1⟩ 6),(.b (decide (5<(a0.Outs.length:Int)))),(.b (decide (5<(a0.Outs.length:Int)))),(.b (decide (5<(a0.Outs.length:Int)))),(I (a0.Outs.length:Int)),(.l 81 (a0.Outs.map ay)),(.p ⟨0,1⟩ 4),(.b (decide (5<(a0.Ins.length:Int)))),(.b (decide (5<(a0.Ins.length:Int)))),(.b (decide (5<(a0.Ins.length:Int)))),(I (a0.Ins.length:Int)),(.l 81 (a0.Ins.map ay)),(.p ⟨0,1⟩ 3)]) fun x7 h=>L h)))
def fK:Option (Nat⊕(Unit⊕(Nat×Bool))):=
 if (v0_4:Int)<(a0.Speak.length:Int) then
  (a0.Speak[v0_4]?).bind fun (y8:Int)=>
  (jO a0.aj y8).bind fun (r10:Bool)=>
  if r10=true then
   if IntKind.i64.wrap ((v0_4:Int)+1)=((v0_4+1:Nat):Int) then
    some (.inl (v0_4+1))
   else none
  else
   some (.inr (.inl ()))
 else
  some (.inr (.inr (v0_4,decide ((v0_4:Int)<(a0.Speak.length:Int)))))
abbrev DA(v:Nat):St:=⟨[(1,(.p ⟨0,1⟩ 0)),(4,(I (v:Int)))],[(1,(ar a0))],H0⟩
abbrev qN(x:(Unit⊕(Nat×Bool))):aI×St:=match x with | .inl ()=>(.ret,⟨[(2,(I 5))],[],H0⟩) | .inr (z1,z2)=>((.ex 0),⟨[(1,(.p ⟨0,1⟩ 0)),(4,(I (z1:Int))),(58,(.b z2))],[(1,(ar a0))],H0⟩)
theorem Cg(o:Nat⊕(Unit⊕(Nat×Bool)))(h:fK a0 v0_4=some o):bz E0 Uo (DA a0) (qN a0) v0_4 o:=
 bG (bt<|ao (.i (a0.Speak.length:Int))<|.or (iu<|ao (.n v0_4)<|xI fun y8=>xB fun r10=>.or (bf<|ao (.i ((v0_4+1:Nat):Int))<|.nil) (bt<|.nil)) (bf<|.nil)) fun L=>ai (rfl:Z0)<|ai (aC (I) a0.Speak)<|bP h (fun h7 h=>ai (av h7)<|bq<|ai (rfl:Z0)<|bq<|ai (rfl:Z0)<|bq<|ai (rI v0_4)<|bR h fun y8 h9 h=>ai (aD (I) h9)<|bq<|aW h (lK a0.aj y8) fun r10 h=>bI h (fun h12 h=>ai (an not h12)<|aJ h fun w13 h=>ai w13<|L h) (fun h12 h=>ai (an not h12)<|L h)) (fun h7 h=>ai (aw h7)<|L h)
def mV:Option (((List Label)×Nat)⊕((List Label)×Nat×Bool)):=
 if (v1_6:Int)<(a0.Vars.length:Int) then
  (a0.Vars[v1_6]?).bind fun (y13:Var)=>
  if v1_5.length + [y13.Label].length≤1000000000 then
   if IntKind.i64.wrap ((v1_6:Int)+1)=((v1_6+1:Nat):Int) then
    some (.inl (v1_5++[y13.Label],v1_6+1))
   else none
  else none
 else
  some (.inr (v1_5,v1_6,decide ((v1_6:Int)<(a0.Vars.length:Int))))
abbrev DB(v:((List Label)×Nat)):St:=⟨[(1,(.p ⟨0,1⟩ 0)),(5,(.o 81 (v.1.map ay))),(6,(I (v.2:Int)))],[(1,(ar a0))],H0⟩
abbrev wq(x:((List Label)×Nat×Bool)):aI×St:=((.ex 2),⟨[(1,(.p ⟨0,1⟩ 0)),(5,(.o 81 (x.1.map ay))),(6,(I (x.2.1:Int))),(81,(.b x.2.2))],[(1,(ar a0))],H0⟩)
theorem Ch(o:((List Label)×Nat)⊕((List Label)×Nat×Bool))(h:mV a0 v1_5 v1_6=some o):bz E0 Up (DB a0) (wq a0) (v1_5,v1_6) o:=
 bG (bt<|ao (.i (a0.Vars.length:Int))<|.or (en<|ao (.n v1_6)<|.ex fun (y13:Var)=>ao (.v (.a (Ly y13)))<|ao (.l ([y13.Label].map ay))<|ao (.l ((v1_5++[y13.Label]).map ay))<|ao (.i ((v1_6+1:Nat):Int))<|.nil) (bf<|.nil)) fun L=>ai (rfl:Z0)<|ai (aC cJ a0.Vars)<|bP h (fun h12 h=>kP (av h12)<|ai (rI v1_6)<|bR h fun y13 h14 h=>ai (aD cJ h14)<|ai (rfl:[(.a [(.l 138 (y13.Label.Read.map aE)),(.l 138 (y13.Label.Write.map aE))])]=[y13.Label].map ay)<|ai ff<|aJ h fun h15 h=>ai ((ir ay (n:=2) (fun _=>rfl) [y13.Label]):([y13.Label].map ay).all (fun e=>e.nc==2)=true)<|ai ((la h15 (by decide)):((v1_5.map ay).length+([y13.Label].map ay).length)*48≤140737488355328)<|ai ((lf h15):(v1_5.map ay).length+([y13.Label].map ay).length≤maxLen)<|ai (cI.symm:v1_5.map ay++[y13.Label].map ay=(v1_5++[y13.Label]).map ay)<|aJ h fun w16 h=>ai w16<|L h) (fun h12 h=>ai (aw h12)<|L h)
def j8:Option (Nat⊕(Int⊕(Nat×Bool))):=
 if (v2_7:Int)<(x12.1.length:Int) then
  (x12.1[v2_7]?).bind fun (y15:Label)=>
  (rK a0.aj y15).bind fun (r17:Int)=>
  if (r17 !=0)=true then
   some (.inr (.inl r17))
  else
   if IntKind.i64.wrap ((v2_7:Int)+1)=((v2_7+1:Nat):Int) then
    some (.inl (v2_7+1))
   else none
 else
  some (.inr (.inr (v2_7,decide ((v2_7:Int)<(x12.1.length:Int)))))
abbrev DC(v:Nat):St:=⟨[(1,(.p ⟨0,1⟩ 0)),(5,(.o 81 (x12.1.map ay))),(7,(I (v:Int)))],[(1,(ar a0))],H0⟩
abbrev qO(x:(Int⊕(Nat×Bool))):aI×St:=match x with | .inl z1=>(.ret,⟨[(2,(I z1))],[],H0⟩) | .inr (z1,z2)=>((.ex 4),⟨[(1,(.p ⟨0,1⟩ 0)),(5,(.o 81 (x12.1.map ay))),(7,(I (z1:Int))),(96,(.b z2))],[(1,(ar a0))],H0⟩)
theorem Ci(o:Nat⊕(Int⊕(Nat×Bool)))(h:j8 a0 x12 v2_7=some o):bz E0 Uq (DC a0 x12) (qO a0 x12) v2_7 o:=
 bG (ao (.i (x12.1.length:Int))<|.or (en<|ao (.n v2_7)<|.ex fun (y15:Label)=>ao (.v (.a [(.l 138 (y15.Read.map aE)),(.l 138 (y15.Write.map aE))]))<|ao (.v (.a [(.l 138 (y15.Read.map aE)),(.l 138 (y15.Write.map aE))]))<|xI fun r17=>oN (ao (.i ((v2_7+1:Nat):Int))<|.nil)) (bf<|.nil)) fun L=>ai (aC ay x12.1)<|bP h (fun h14 h=>ai (av h14)<|bq<|ai (rfl:Z0)<|bq<|ai tt<|ai (rI v2_7)<|bR h fun y15 h16 h=>ai (aD ay h16)<|ai tt<|ai (aD ay h16)<|ai tt<|aW h (EI a0.aj y15) fun r17 h=>bI h (fun h19 h=>ai h19<|L h) (fun h19 h=>ai h19<|aJ h fun w20 h=>ai w20<|L h)) (fun h14 h=>ai (aw h14)<|L h)
def fL:Option (Nat⊕(Unit⊕(Nat×Bool))):=
 if (v3_9:Int)<(a0.Vars.length:Int) then
  (a0.Vars[v3_9]?).bind fun (y18:Var)=>
  if y18.Known=true then
   if IntKind.i64.wrap ((v3_9:Int)+1)=((v3_9+1:Nat):Int) then
    some (.inl (v3_9+1))
   else none
  else
   if 0<(y18.Label.Read.length:Int) then
    some (.inr (.inl ()))
   else
    if 0<(y18.Label.Write.length:Int) then
     some (.inr (.inl ()))
    else
     if IntKind.i64.wrap ((v3_9:Int)+1)=((v3_9+1:Nat):Int) then
      some (.inl (v3_9+1))
     else none
 else
  some (.inr (.inr (v3_9,decide ((v3_9:Int)<(a0.Vars.length:Int)))))
abbrev DD(v:Nat):St:=⟨[(1,(.p ⟨0,1⟩ 0)),(9,(I (v:Int)))],[(1,(ar a0))],H0⟩
abbrev qP(x:(Unit⊕(Nat×Bool))):aI×St:=match x with | .inl ()=>(.ret,⟨[(2,(I 1))],[],H0⟩) | .inr (z1,z2)=>((.ex 6),⟨[(1,(.p ⟨0,1⟩ 0)),(9,(I (z1:Int))),(113,(.b z2))],[(1,(ar a0))],H0⟩)
theorem Cj(o:Nat⊕(Unit⊕(Nat×Bool)))(h:fL a0 v3_9=some o):bz E0 Ur (DD a0) (qP a0) v3_9 o:=
 bG (bt<|ao (.i (a0.Vars.length:Int))<|.or (en<|ao (.n v3_9)<|.ex fun (y18:Var)=>ao (.v (.a (Ly y18)))<|iu<|.or (bf<|bf<|bf<|bf<|bf<|bf<|bf<|bf<|bf<|ao (.i ((v3_9+1:Nat):Int))<|.nil) (uF<|ao (.i (y18.Label.Read.length:Int))<|en<|.or (bf<|bf<|bf<|bf<|bf<|bt<|bt<|bt<|bt<|.nil) (uF<|ao (.i (y18.Label.Write.length:Int))<|bt<|bt<|bf<|bt<|oN (ao (.i ((v3_9+1:Nat):Int))<|.nil)))) (bf<|.nil)) fun L=>ai (rfl:Z0)<|ai (aC cJ a0.Vars)<|bP h (fun h17 h=>kP (av h17)<|ai (rI v3_9)<|bR h fun y18 h19 h=>ai (aD cJ h19)<|JA<|bI h (fun h20 h=>dt (an not h20)<|dt (an not h20)<|dt (an not h20)<|rZ (an not h20)<|ai ff<|aJ h fun w21 h=>ai w21<|L h) (fun h20 h=>dt (an not h20)<|ai (g1 (an not h20))<|ai (rfl:Z0)<|ai (g1 (an not h20))<|ai (aC aE y18.Label.Read)<|dt (an not h20)<|bP h (fun h21 h=>bY (av h21)<|bY (av h21)<|ai (g0 (av h21))<|ai (g1 (an not h20))<|ai (av h21)<|ai (an not h20)<|ai tt<|L h) (fun h21 h=>bY (aw h21)<|ai (g0 (aw h21))<|ai (rfl:Z0)<|ai (g0 (aw h21))<|ai (aC aE y18.Label.Write)<|ai (g0 (aw h21))<|ai (g1 (an not h20))<|ai (aw h21)<|ai (an not h20)<|bP h (fun h22 h=>ai (av h22)<|L h) (fun h22 h=>ai (aw h22)<|aJ h fun w23 h=>ai w23<|L h)))) (fun h17 h=>ai (aw h17)<|L h)
def mW:Option ((Int×Nat)⊕(Int×Nat×Bool)):=
 if (v4_12:Int)<(a0.Funcs.length:Int) then
  (a0.Funcs[v4_12]?).bind fun (y23:Func)=>
  (sS y23.Body 1).bind fun (r25:Int)=>
  if IntKind.i64.wrap (v4_11+r25)=v4_11+r25 then
   if IntKind.i64.wrap ((v4_12:Int)+1)=((v4_12+1:Nat):Int) then
    some (.inl (v4_11+r25,v4_12+1))
   else none
  else none
 else
  some (.inr (v4_11,v4_12,decide ((v4_12:Int)<(a0.Funcs.length:Int))))
abbrev DE(v:(Int×Nat)):St:=⟨[(1,(.p ⟨0,1⟩ 0)),(11,(I v.1)),(12,(I (v.2:Int)))],[(1,(ar a0))],H0⟩
abbrev wu(x:(Int×Nat×Bool)):aI×St:=((.ex 8),⟨[(1,(.p ⟨0,1⟩ 0)),(11,(I x.1)),(12,(I (x.2.1:Int))),(145,(.b x.2.2))],[(1,(ar a0))],H0⟩)
theorem Ck(o:(Int×Nat)⊕(Int×Nat×Bool))(h:mW a0 v4_11 v4_12=some o):bz E0 Us (DE a0) (wu a0) (v4_11,v4_12) o:=
 bG (bt<|ao (.i (a0.Funcs.length:Int))<|.or (en<|ao (.n v4_12)<|.ex fun (y23:Func)=>ao (.v (.a (dD y23)))<|xI fun r25=>ao (.i (v4_11+r25))<|ao (.i ((v4_12+1:Nat):Int))<|.nil) (bf<|.nil)) fun L=>ai (rfl:Z0)<|ai (aC cA a0.Funcs)<|bP h (fun h22 h=>kP (av h22)<|ai (rI v4_12)<|bR h fun y23 h24 h=>ai (aD cA h24)<|aW h (yp y23.Body 1) fun r25 h=>aJ h fun w27 h=>ai w27<|aJ h fun w28 h=>ai w28<|L h) (fun h22 h=>ai (aw h22)<|L h)
def fM(a0:Program)(v5_13:Nat)(y26:Func)(v6_15:Nat)(v7_16:Nat):Option (Nat⊕(Unit⊕(Nat×Bool))):=
 if (v7_16:Int)<(v6_15:Int) then
  (y26.Params[v7_16]?).bind fun (y37:Int)=>
  (y26.Params[v6_15]?).bind fun (y39:Int)=>
  if (y37==y39)=true then
   some (.inr (.inl ()))
  else
   if IntKind.i64.wrap ((v7_16:Int)+1)=((v7_16+1:Nat):Int) then
    some (.inl (v7_16+1))
   else none
 else
  some (.inr (.inr (v7_16,decide ((v7_16:Int)<(v6_15:Int)))))
abbrev DF(v:Nat):St:=⟨[(1,(.p ⟨0,1⟩ 0)),(13,(I (v5_13:Int))),(14,(.p ⟨0,14⟩ 0)),(15,(I (v6_15:Int))),(16,(I (v:Int)))],[(1,(ar a0)),(14,(dD y26))],H0⟩
abbrev qQ(x:(Unit⊕(Nat×Bool))):aI×St:=match x with | .inl ()=>(.ret,⟨[(2,(I 6))],[],H0⟩) | .inr (z1,z2)=>((.ex 14),⟨[(1,(.p ⟨0,1⟩ 0)),(13,(I (v5_13:Int))),(14,(.p ⟨0,14⟩ 0)),(15,(I (v6_15:Int))),(16,(I (z1:Int))),(195,(.b z2))],[(1,(ar a0)),(14,(dD y26))],H0⟩)
theorem Cl(o:Nat⊕(Unit⊕(Nat×Bool)))(h:fM a0 v5_13 y26 v6_15 v7_16=some o):bz E0 Ut (DF a0 v5_13 y26 v6_15) (qQ a0 v5_13 y26 v6_15) v7_16 o:=
 bG (.or (en<|ao (.n v7_16)<|xI fun y37=>bt<|ao (.n v6_15)<|xI fun y39=>oN (ao (.i ((v7_16+1:Nat):Int))<|.nil)) (bf<|.nil)) fun L=>bP h (fun h36 h=>ai (av h36)<|bq<|ai (rfl:Z0)<|bq<|ai (rI v7_16)<|bR h fun y37 h38 h=>ai (aD (I) h38)<|bq<|ai tt<|ai (rfl:Z0)<|bq<|ai (rI v6_15)<|bR h fun y39 h40 h=>ai (aD (I) h40)<|bq<|bI h (fun h41 h=>ai h41<|L h) (fun h41 h=>ai h41<|aJ h fun w42 h=>ai w42<|L h)) (fun h36 h=>ai (aw h36)<|L h)
def mX:Option (Nat⊕(Unit⊕(Unit⊕(Nat×Bool)))):=
 if (v6_15:Int)<(y26.Params.length:Int) then
  (y26.Params[v6_15]?).bind fun (y30:Int)=>
  if IntKind.i64.wrap ((a0.Vars.length:Int) - 1)=(a0.Vars.length:Int) - 1 then
   (eB y30 0 ((a0.Vars.length:Int) - 1)).bind fun (r33:Bool)=>
   if r33=true then
    (lp (fun v=>fM a0 v5_13 y26 v6_15 v) 0).bind fun (x36:(Unit⊕(Nat×Bool)))=>match x36 with
    | .inl ya_37=>
     some (.inr (.inl ()))
    | .inr yb_37=>
     if IntKind.i64.wrap ((v6_15:Int)+1)=((v6_15+1:Nat):Int) then
      some (.inl (v6_15+1))
     else none
   else
    some (.inr (.inr (.inl ())))
  else none
 else
  some (.inr (.inr (.inr (v6_15,decide ((v6_15:Int)<(y26.Params.length:Int))))))
abbrev DG(v:Nat):St:=⟨[(1,(.p ⟨0,1⟩ 0)),(13,(I (v5_13:Int))),(14,(.p ⟨0,14⟩ 0)),(15,(I (v:Int)))],[(1,(ar a0)),(14,(dD y26))],H0⟩
abbrev mY(x:(Unit⊕(Unit⊕(Nat×Bool)))):aI×St:=match x with | .inl ()=>(.ret,⟨[(2,(I 6))],[],H0⟩) | .inr (.inl ())=>(.ret,⟨[(2,(I 5))],[],H0⟩) | .inr (.inr (z1,z2))=>((.ex 12),⟨[(1,(.p ⟨0,1⟩ 0)),(13,(I (v5_13:Int))),(14,(.p ⟨0,14⟩ 0)),(15,(I (z1:Int))),(179,(.b z2))],[(1,(ar a0)),(14,(dD y26))],H0⟩)
theorem Cm(o:Nat⊕(Unit⊕(Unit⊕(Nat×Bool))))(h:mX a0 v5_13 y26 v6_15=some o):bz E0 Uu (DG a0 v5_13 y26) (mY a0 v5_13 y26) v6_15 o:=
 bG (bt<|ao (.i (y26.Params.length:Int))<|.or (en<|ao (.n v6_15)<|xI fun y30=>bt<|ao (.i (a0.Vars.length:Int))<|ao (.i ((a0.Vars.length:Int) - 1))<|xB fun r33=>.or (bf<|.or (.ex fun (ya_37:Unit)=>ao (.bX (qQ a0 v5_13 y26 v6_15 (.inl ya_37)))<|.nil) (.ex fun (yb_37:(Nat×Bool))=>ao (.bX (qQ a0 v5_13 y26 v6_15 (.inr yb_37)))<|ao (.i ((v6_15+1:Nat):Int))<|.nil)) (bt<|.nil)) (bf<|.nil)) fun L=>ai (rfl:Z0)<|ai (aC (I) y26.Params)<|bP h (fun h29 h=>ai (av h29)<|bq<|ai (rfl:Z0)<|bq<|ai (rI v6_15)<|bR h fun y30 h31 h=>ai (aD (I) h31)<|bq<|ai tt<|fB<|ai (aC cJ a0.Vars)<|ai tt<|aJ h fun w32 h=>ai w32<|ai tt<|aW h (eA y30 0 ((a0.Vars.length:Int) - 1)) fun r33 h=>bI h (fun h35 h=>ai (an not h35)<|dy h (dZ (Cl a0 v5_13 y26 v6_15) 0) (fun ya_37 h=>L h) (fun yb_37 h=>aJ h fun w39 h=>ai w39<|L h)) (fun h35 h=>ai (an not h35)<|L h)) (fun h29 h=>ai (aw h29)<|L h)
def iT(a0:Program)(v5_13:Nat)(w19_1:Int):Option (Int⊕(Int×Bool)):=
 if (w19_1 !=0)=true then
  some (.inl w19_1)
 else
  some (.inr (w19_1,w19_1 !=0))
abbrev iU(w19_1:Int)(x:(Int⊕(Int×Bool))):aI×St:=match x with | .inl z1=>(.ret,⟨[(2,(I z1))],[],H0⟩) | .inr (z1,z2)=>(.nrm,⟨[(1,(.p ⟨0,1⟩ 0)),(3,(I z1)),(13,(I (v5_13:Int))),(223,(.b z2))],[(1,(ar a0))],H0⟩)
theorem tO(x:(Int⊕(Int×Bool)))(h:iT a0 v5_13 w19_1=some x):run G Ω0 E0 Qm ⟨[(1,(.p ⟨0,1⟩ 0)),(3,(I w19_1)),(13,(I (v5_13:Int)))],[(1,(ar a0))],H0⟩=some (iU a0 v5_13 w19_1 x):=
 vu (oN (.nil)) fun L=>bI h (fun h37 h=>ai h37<|L h) (fun h37 h=>ai h37<|L h)
def mZ:Option (Nat⊕(Unit⊕(Unit⊕(Unit⊕(Int⊕(Nat×Bool)))))):=
 if (v5_13:Int)<(a0.Funcs.length:Int) then
  (a0.Funcs[v5_13]?).bind fun (y26:Func)=>
  if 4<(y26.Params.length:Int) then
   some (.inr (.inl ()))
  else
   (lp (fun v=>mX a0 v5_13 y26 v) 0).bind fun (x29:(Unit⊕(Unit⊕(Nat×Bool))))=>match x29 with
   | .inl ya_30=>
    some (.inr (.inr (.inl ())))
   | .inr (.inl yb_30)=>
    some (.inr (.inr (.inr (.inl ()))))
   | .inr (.inr yc_30)=>
    (cK a0 (v5_13:Int) y26.Body).bind fun (r32:Int)=>
    if (r32==0)=true then
     (jc y26.Result (a0.Vars.length:Int)).bind fun (r35:Int)=>
     (iT a0 v5_13 r35).bind fun (x37:(Int⊕(Int×Bool)))=>match x37 with
     | .inl ya_38=>
      some (.inr (.inr (.inr (.inr (.inl ya_38)))))
     | .inr yb_38=>
      if IntKind.i64.wrap ((v5_13:Int)+1)=((v5_13+1:Nat):Int) then
       some (.inl (v5_13+1))
      else none
    else
     (iT a0 v5_13 r32).bind fun (x35:(Int⊕(Int×Bool)))=>match x35 with
     | .inl ya_36=>
      some (.inr (.inr (.inr (.inr (.inl ya_36)))))
     | .inr yb_36=>
      if IntKind.i64.wrap ((v5_13:Int)+1)=((v5_13+1:Nat):Int) then
       some (.inl (v5_13+1))
      else none
 else
  some (.inr (.inr (.inr (.inr (.inr (v5_13,decide ((v5_13:Int)<(a0.Funcs.length:Int))))))))
abbrev DH(v:Nat):St:=⟨[(1,(.p ⟨0,1⟩ 0)),(13,(I (v:Int)))],[(1,(ar a0))],H0⟩
abbrev iz(x:(Unit⊕(Unit⊕(Unit⊕(Int⊕(Nat×Bool)))))):aI×St:=match x with | .inl ()=>(.ret,⟨[(2,(I 2))],[],H0⟩) | .inr (.inl ())=>(.ret,⟨[(2,(I 6))],[],H0⟩) | .inr (.inr (.inl ()))=>(.ret,⟨[(2,(I 5))],[],H0⟩) | .inr (.inr (.inr (.inl z1)))=>(.ret,⟨[(2,(I z1))],[],H0⟩) | .inr (.inr (.inr (.inr (z1,z2))))=>((.ex 10),⟨[(1,(.p ⟨0,1⟩ 0)),(13,(I (z1:Int))),(163,(.b z2))],[(1,(ar a0))],H0⟩)
theorem Cn(o:Nat⊕(Unit⊕(Unit⊕(Unit⊕(Int⊕(Nat×Bool))))))(h:mZ a0 v5_13=some o):bz E0 Uv (DH a0) (iz a0) v5_13 o:=
 bG (bt<|ao (.i (a0.Funcs.length:Int))<|.or (en<|ao (.n v5_13)<|.ex fun (y26:Func)=>ao (.v (.a (dD y26)))<|iu<|ao (.i (y26.Params.length:Int))<|oN (.or (.ex fun (ya_30:Unit)=>ao (.bX (mY a0 v5_13 y26 (.inl ya_30)))<|.nil) (.or (.ex fun (yb_30:Unit)=>ao (.bX (mY a0 v5_13 y26 (.inr (.inl yb_30))))<|.nil) (.ex fun (yc_30:(Nat×Bool))=>ao (.bX (mY a0 v5_13 y26 (.inr (.inr yc_30))))<|en<|xI fun r32=>.or (iu<|ao (.i (a0.Vars.length:Int))<|xI fun r35=>.fb<|.or (.ex fun (ya_38:Int)=>ao (.jJ (iU a0 v5_13 r35 (.inl ya_38)))<|.nil) (.ex fun (yb_38:(Int×Bool))=>ao (.jJ (iU a0 v5_13 r35 (.inr yb_38)))<|ao (.i ((v5_13+1:Nat):Int))<|.nil)) (bf<|.fb<|.or (.ex fun (ya_36:Int)=>ao (.jJ (iU a0 v5_13 r32 (.inl ya_36)))<|.nil) (.ex fun (yb_36:(Int×Bool))=>ao (.jJ (iU a0 v5_13 r32 (.inr yb_36)))<|ao (.i ((v5_13+1:Nat):Int))<|.nil)))))) (bf<|.nil)) fun L=>ai (rfl:Z0)<|ai (aC cA a0.Funcs)<|bP h (fun h25 h=>kP (av h25)<|ai (rI v5_13)<|bR h fun y26 h27 h=>ai (aD cA h27)<|JA<|ai (aC (I) y26.Params)<|bP h (fun h28 h=>ai (av h28)<|L h) (fun h28 h=>ai (aw h28)<|K0 h (dZ (Cm a0 v5_13 y26) 0) (fun ya_30 h=>L h) (fun yb_30 h=>L h) (fun yc_30 h=>kD<|aW h (wY a0 (v5_13:Int) y26.Body) fun r32 h=>bI h (fun h34 h=>Ps h34<|ai (aC cJ a0.Vars)<|aW h (tm y26.Result (a0.Vars.length:Int)) fun r35 h=>dy h (tO a0 v5_13 r35) (fun ya_38 h=>L h) (fun yb_38 h=>aJ h fun w40 h=>ai w40<|L h)) (fun h34 h=>ai h34<|dy h (tO a0 v5_13 r32) (fun ya_36 h=>L h) (fun yb_36 h=>aJ h fun w38 h=>ai w38<|L h))))) (fun h25 h=>ai (aw h25)<|L h)
abbrev FV(a0:Program)(r:Int):bm×HP:=(.ret (I r),H0)
def oQ:Option Int:=
 (pN a0.aj).bind fun (r1:Int)=>
 if (r1 !=0)=true then
  some r1
 else
  (mj a0).bind fun (x4:Bool)=>
  if x4=true then
   some 2
  else
   (lp (fun v=>fK a0 v) 0).bind fun (x7:(Unit⊕(Nat×Bool)))=>match x7 with
   | .inl ya_8=>
    some 5
   | .inr yb_8=>
    if ([]:List Label).length+a0.Ins.length≤1000000000 then
     if (([]:List Label)++a0.Ins).length+a0.Outs.length≤1000000000 then
      (lp (fun v=>mV a0 v.1 v.2) (((([]:List Label)++a0.Ins)++a0.Outs),0)).bind fun (x12:((List Label)×Nat×Bool))=>
      (lp (fun v=>j8 a0 x12 v) 0).bind fun (x14:(Int⊕(Nat×Bool)))=>match x14 with
      | .inl ya_15=>
       some ya_15
      | .inr yb_15=>
       (lp (fun v=>fL a0 v) 0).bind fun (x17:(Unit⊕(Nat×Bool)))=>match x17 with
       | .inl ya_18=>
        some 1
       | .inr yb_18=>
        (sS a0.Main 1).bind fun (r20:Int)=>
        (lp (fun v=>mW a0 v.1 v.2) (r20,0)).bind fun (x22:(Int×Nat×Bool))=>
        if 50<x22.1 then
         some 2
        else
         (lp (fun v=>mZ a0 v) 0).bind fun (x25:(Unit⊕(Unit⊕(Unit⊕(Int⊕(Nat×Bool))))))=>match x25 with
         | .inl ya_26=>
          some 2
         | .inr (.inl yb_26)=>
          some 6
         | .inr (.inr (.inl yc_26))=>
          some 5
         | .inr (.inr (.inr (.inl yd_26)))=>
          some yd_26
         | .inr (.inr (.inr (.inr ye_26)))=>
          (cK a0 (a0.Funcs.length:Int) a0.Main).bind fun (r28:Int)=>
          some r28
     else none
    else none
theorem Co(r:Int)(h:oQ a0=some r):call G Ω0 E0 10 [(.a (ar a0))] H0=some (FV a0 r):=
 aX G10 (bt<|xI fun r1=>oN (.jb (some 23) 30<|.ex fun (x4:Bool)=>ao (.jn (uJ a0 x4))<|oN (.or (.ex fun (ya_8:Unit)=>ao (.bX (qN a0 (.inl ya_8)))<|.nil) (.ex fun (yb_8:(Nat×Bool))=>ao (.bX (qN a0 (.inr yb_8)))<|ao (.l (([]:List Label).map ay))<|bt<|ao (.l ((([]:List Label)++a0.Ins).map ay))<|bt<|ao (.l (((([]:List Label)++a0.Ins)++a0.Outs).map ay))<|.ex fun (x12:((List Label)×Nat×Bool))=>ao (.bX (wq a0 x12))<|.or (.ex fun (ya_15:Int)=>ao (.bX (qO a0 x12 (.inl ya_15)))<|.nil) (.ex fun (yb_15:(Nat×Bool))=>ao (.bX (qO a0 x12 (.inr yb_15)))<|.or (.ex fun (ya_18:Unit)=>ao (.bX (qP a0 (.inl ya_18)))<|.nil) (.ex fun (yb_18:(Nat×Bool))=>ao (.bX (qP a0 (.inr yb_18)))<|bt<|xI fun r20=>.ex fun (x22:(Int×Nat×Bool))=>ao (.bX (wu a0 x22))<|oN (.or (.ex fun (ya_26:Unit)=>ao (.bX (iz a0 (.inl ya_26)))<|.nil) (.or (.ex fun (yb_26:Unit)=>ao (.bX (iz a0 (.inr (.inl yb_26))))<|.nil) (.or (.ex fun (yc_26:Unit)=>ao (.bX (iz a0 (.inr (.inr (.inl yc_26)))))<|.nil) (.or (.ex fun (yd_26:Int)=>ao (.bX (iz a0 (.inr (.inr (.inr (.inl yd_26))))))<|.nil) (.ex fun (ye_26:(Nat×Bool))=>ao (.bX (iz a0 (.inr (.inr (.inr (.inr ye_26))))))<|en<|ao (.i (a0.Funcs.length:Int))<|bt<|xI fun r28=>.nil))))))))))) fun L=>su<|aW h (Dz a0.aj) fun r1 h=>bI h (fun h3 h=>ai h3<|L h) (fun h3 h=>ai h3<|aW h (BO a0) fun x4 h=>bI h (fun h6 h=>ai h6<|L h) (fun h6 h=>ai h6<|dy h (dZ (Cg a0) 0) (fun ya_8 h=>L h) (fun yb_8 h=>ai tt<|ai (rfl:([]:List AV)=([]:List Label).map ay)<|bq<|fB<|aJ h fun h10 h=>ai ((ir ay (n:=2) (fun _=>rfl) a0.Ins):(a0.Ins.map ay).all (fun e=>e.nc==2)=true)<|ai ((la h10 (by decide)):((([]:List Label).map ay).length+(a0.Ins.map ay).length)*48≤140737488355328)<|ai ((lf h10):(([]:List Label).map ay).length+(a0.Ins.map ay).length≤maxLen)<|ai (cI.symm:([]:List Label).map ay++a0.Ins.map ay=(([]:List Label)++a0.Ins).map ay)<|bq<|fB<|aJ h fun h11 h=>ai ((ir ay (n:=2) (fun _=>rfl) a0.Outs):(a0.Outs.map ay).all (fun e=>e.nc==2)=true)<|ai ((la h11 (by decide)):(((([]:List Label)++a0.Ins).map ay).length+(a0.Outs.map ay).length)*48≤140737488355328)<|ai ((lf h11):((([]:List Label)++a0.Ins).map ay).length+(a0.Outs.map ay).length≤maxLen)<|ai (cI.symm:(([]:List Label)++a0.Ins).map ay++a0.Outs.map ay=((([]:List Label)++a0.Ins)++a0.Outs).map ay)<|aW h (dZ (fun v=>Ch a0 v.1 v.2) (((([]:List Label)++a0.Ins)++a0.Outs),0)) fun x12 h=>dy h (dZ (Ci a0 x12) 0) (fun ya_15 h=>L h) (fun yb_15 h=>dy h (dZ (Cj a0) 0) (fun ya_18 h=>L h) (fun yb_18 h=>ai (rfl:Z0)<|aW h (yp a0.Main 1) fun r20 h=>aW h (dZ (fun v=>Ck a0 v.1 v.2) (r20,0)) fun x22 h=>bP h (fun h24 h=>ai (av h24)<|L h) (fun h24 h=>ai (aw h24)<|VF h (dZ (Cn a0) 0) (fun ya_26 h=>L h) (fun yb_26 h=>L h) (fun yc_26 h=>L h) (fun yd_26 h=>L h) (fun ye_26 h=>kD<|ai (aC cA a0.Funcs)<|ai (rfl:Z0)<|aW h (wY a0 (a0.Funcs.length:Int) a0.Main) fun r28 h=>L h)))))))
end
end
end Go.Proofs.YtkkkkondjclcnaaGreat.A
