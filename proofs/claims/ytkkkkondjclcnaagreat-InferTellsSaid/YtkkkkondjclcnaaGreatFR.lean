/- Functions of the program as plain functions, by program. -/
import Derived.Test.YtkkkkondjclcnaaGreatTypes
import Derived.Test.YtkkkkondjclcnaaGreatLift
import Derived.Test.YtkkkkondjclcnaaGreatFG
set_option linter.all false
set_option maxRecDepth 100000
namespace Go.Proofs.YtkkkkondjclcnaaGreat.A
open Go
noncomputable section
variable [Lp]
section
variable (a0:ah)(a1:Int)
abbrev NL(a0:ah)(a1:Int)(r:Bool):bm×HP:=(.ret (.b r),H0)
def ll:Option Bool:=
 if IntKind.i64.wrap (a0.Many - 1)=a0.Many - 1 then
  (fH a1 0 (a0.Many - 1)).bind fun (r2:Bool)=>
  some r2
 else none
theorem nS(r:Bool)(h:ll a0 a1=some r):call G Ω0 E0 21 [(.a [(I a0.Many),(.l 166 (a0.Grants.map aE))]),(I a1)] H0=some (NL a0 a1 r):=
 aW G21 (bt<|ao (.i (a0.Many - 1))<|xB fun r2=>.nil) fun L=>et<|aQ h fun w1 h=>ai w1<|aU h (fY a1 0 (a0.Many - 1)) fun r2 h=>L h
def eP(v0_3:Nat):Option (Nat⊕(Unit⊕(Nat×Bool))):=
 if (v0_3:Int)<(a0.Grants.length:Int) then
  (a0.Grants[v0_3]?).bind fun (y6:cB)=>
  (ll a0 y6.Who).bind fun (r8:Bool)=>
  if r8=true then
   (ll a0 y6.For).bind fun (r11:Bool)=>
   if r11=true then
    if IntKind.i64.wrap ((v0_3:Int)+1)=((v0_3+1:Nat):Int) then
     some (.inl (v0_3+1))
    else none
   else
    some (.inr (.inl ()))
  else
   some (.inr (.inl ()))
 else
  some (.inr (.inr (v0_3,decide ((v0_3:Int)<(a0.Grants.length:Int)))))
abbrev EX(v:Nat):St:=⟨[(1,(.p ⟨0,1⟩ 0)),(3,(I (v:Int)))],[(1,[(I a0.Many),(.l 166 (a0.Grants.map aE))])],H0⟩
abbrev sg(x:(Unit⊕(Nat×Bool))):aH×St:=match x with | .inl ()=>(.ret,⟨[(2,(I 5))],[],H0⟩) | .inr (z1,z2)=>((.ex 0),⟨[(1,(.p ⟨0,1⟩ 0)),(3,(I (z1:Int))),(16,(.b z2))],[(1,[(I a0.Many),(.l 166 (a0.Grants.map aE))])],H0⟩)
theorem DM(v0_3:Nat)(o:Nat⊕(Unit⊕(Nat×Bool)))(h:eP a0 v0_3=some o):bu E0 U3 (EX a0) (sg a0) v0_3 o:=
 bH (bt<|ao (.i (a0.Grants.length:Int))<|.or (eF<|ao (.n v0_3)<|.ex fun (y6:cB)=>ao (.v (.a [(I y6.Who),(I y6.For)]))<|xB fun r8=>.or (Dc<|ao (.n v0_3)<|ao (.v (.a [(I y6.Who),(I y6.For)]))<|eF<|xB fun r11=>vV<|.or (bf<|ao (.i ((v0_3+1:Nat):Int))<|.nil) (bt<|.nil)) (bf<|bf<|bf<|bf<|bf<|bf<|bf<|bf<|bf<|bt<|bt<|.nil)) (bf<|.nil)) fun L=>ai (rfl:Z0)<|ai (aC aE a0.Grants)<|bL h (fun h5 h=>ai (av h5)<|et<|bW<|ai (rfl:Z0)<|bW<|ai (rI v0_3)<|cb h fun y6 h7 h=>ai (aD aE h7)<|bW<|ai tt<|aU h (nS a0 y6.Who) fun r8 h=>bW<|ai tt<|bz h (fun h10 h=>ai (g0 (ak not h10))<|ai (rfl:Z0)<|Bw (ak not h10)<|ai (rfl:Z0)<|Bw (ak not h10)<|ai (rI v0_3)<|ai (aD aE h7)<|Bw (ak not h10)<|ai tt<|ai (g0 (ak not h10))<|aU h (nS a0 y6.For) fun r11 h=>lJ (ak not h10)<|bz h (fun h13 h=>ai (ak not h13)<|aQ h fun w14 h=>ai w14<|L h) (fun h13 h=>ai (ak not h13)<|L h)) (fun h10 h=>eD (ak not h10)<|eD (ak not h10)<|eD (ak not h10)<|ai (ak not h10)<|ai tt<|L h)) (fun h5 h=>ai (aw h5)<|L h)
abbrev HI(a0:ah)(r:Int):bm×HP:=(.ret (I r),H0)
def pC:Option Int:=
 (fH a0.Many 1 6).bind fun (r1:Bool)=>
 if r1=true then
  if 20<(a0.Grants.length:Int) then
   some 2
  else
   (lp (fun v=>eP a0 v) 0).bind fun (x5:(Unit⊕(Nat×Bool)))=>match x5 with
   | .inl ya_6=>
    some 5
   | .inr yb_6=>
    some 0
 else
  some 3
theorem DN(r:Int)(h:pC a0=some r):call G Ω0 E0 47 [(.a [(I a0.Many),(.l 166 (a0.Grants.map aE))])] H0=some (HI a0 r):=
 aW G47 (bt<|xB fun r1=>.or (bf<|bt<|ao (.i (a0.Grants.length:Int))<|oN (.or (.ex fun (ya_6:Unit)=>ao (.bT (sg a0 (.inl ya_6)))<|.nil) (.ex fun (yb_6:(Nat×Bool))=>ao (.bT (sg a0 (.inr yb_6)))<|.nil))) (bt<|.nil)) fun L=>et<|aU h (fY a0.Many 1 6) fun r1 h=>bz h (fun h3 h=>nI (ak not h3)<|ai (aC aE a0.Grants)<|bL h (fun h4 h=>ai (av h4)<|L h) (fun h4 h=>ai (aw h4)<|dA h (ei (DM a0) 0) (fun ya_6 h=>L h) (fun yb_6 h=>L h))) (fun h3 h=>ai (ak not h3)<|L h)
end
section
variable (a0:ah)(a1:(List br))
def eU(v0_5:Nat)(v1_6:Nat):Option (Nat⊕(Unit⊕(Nat×Bool))):=
 (a1[v0_5]?).bind fun (y9:br)=>
 if (v1_6:Int)<(y9.Names.length:Int) then
  (y9.Names[v1_6]?).bind fun (y12:Int)=>
  (ll a0 y12).bind fun (r14:Bool)=>
  if r14=true then
   if IntKind.i64.wrap ((v1_6:Int)+1)=((v1_6+1:Nat):Int) then
    some (.inl (v1_6+1))
   else none
  else
   some (.inr (.inl ()))
 else
  some (.inr (.inr (v1_6,decide ((v1_6:Int)<(y9.Names.length:Int)))))
abbrev Cp(v0_5:Nat)(v:Nat):St:=⟨[(1,(.l 138 (a1.map aF))),(2,(.p ⟨0,2⟩ 0)),(5,(I (v0_5:Int))),(6,(I (v:Int)))],[(2,[(I a0.Many),(.l 166 (a0.Grants.map aE))])],H0⟩
abbrev pb(v0_5:Nat)(x:(Unit⊕(Nat×Bool))):aH×St:=match x with | .inl ()=>(.ret,⟨[(4,(I 5))],[],H0⟩) | .inr (z1,z2)=>((.ex 2),⟨[(1,(.l 138 (a1.map aF))),(2,(.p ⟨0,2⟩ 0)),(5,(I (v0_5:Int))),(6,(I (z1:Int))),(39,(.b z2))],[(2,[(I a0.Many),(.l 166 (a0.Grants.map aE))])],H0⟩)
theorem BZ(v0_5:Nat)(v1_6:Nat)(o:Nat⊕(Unit⊕(Nat×Bool)))(h:eU a0 a1 v0_5 v1_6=some o):bu E0 QF (Cp a0 a1 v0_5) (pb a0 a1 v0_5) v1_6 o:=
 bH (ao (.n v0_5)<|.ex fun (y9:br)=>ao (.v (.a [(I y9.Owner),(.l 3 (y9.Names.map (I)))]))<|ao (.i (y9.Names.length:Int))<|.or (dG<|ao (.n v0_5)<|ao (.v (.a [(I y9.Owner),(.l 3 (y9.Names.map (I)))]))<|ao (.n v1_6)<|xI fun y12=>xB fun r14=>.or (bf<|ao (.i ((v1_6+1:Nat):Int))<|.nil) (bt<|.nil)) (bf<|.nil)) fun L=>ai (rI v0_5)<|cb h fun y9 h10 h=>ai (aD aF h10)<|ai (aC (I) y9.Names)<|bL h (fun h11 h=>ai (av h11)<|et<|bW<|ai tt<|ai (rI v0_5)<|ai (aD aF h10)<|xW<|ai (rI v1_6)<|cb h fun y12 h13 h=>ai (aD (I) h13)<|bW<|aU h (nS a0 y12) fun r14 h=>bz h (fun h16 h=>ai (ak not h16)<|aQ h fun w17 h=>ai w17<|L h) (fun h16 h=>ai (ak not h16)<|L h)) (fun h11 h=>ai (aw h11)<|L h)
def ej(a0:ah)(a1:(List br))(v0_5:Nat)(v2_7:Nat):Option (Nat⊕(Unit⊕(Nat×Bool))):=
 (a1[v0_5]?).bind fun (y12:br)=>
 if (v2_7:Int)<(y12.Names.length:Int) then
  (y12.Names[v2_7]?).bind fun (y15:Int)=>
  if IntKind.i64.wrap ((v2_7:Int) - 1)=(v2_7:Int) - 1 then
   (eI ((v2_7:Int) - 1)).bind fun (j18:Nat)=>
   (y12.Names[j18]?).bind fun (y20:Int)=>
   if y15≤y20 then
    some (.inr (.inl ()))
   else
    if IntKind.i64.wrap ((v2_7:Int)+1)=((v2_7+1:Nat):Int) then
     some (.inl (v2_7+1))
    else none
  else none
 else
  some (.inr (.inr (v2_7,decide ((v2_7:Int)<(y12.Names.length:Int)))))
abbrev Cq(v0_5:Nat)(v:Nat):St:=⟨[(1,(.l 138 (a1.map aF))),(2,(.p ⟨0,2⟩ 0)),(5,(I (v0_5:Int))),(7,(I (v:Int)))],[(2,[(I a0.Many),(.l 166 (a0.Grants.map aE))])],H0⟩
abbrev pc(v0_5:Nat)(x:(Unit⊕(Nat×Bool))):aH×St:=match x with | .inl ()=>(.ret,⟨[(4,(I 4))],[],H0⟩) | .inr (z1,z2)=>((.ex 4),⟨[(1,(.l 138 (a1.map aF))),(2,(.p ⟨0,2⟩ 0)),(5,(I (v0_5:Int))),(7,(I (z1:Int))),(60,(.b z2))],[(2,[(I a0.Many),(.l 166 (a0.Grants.map aE))])],H0⟩)
theorem B0(v0_5:Nat)(v2_7:Nat)(o:Nat⊕(Unit⊕(Nat×Bool)))(h:ej a0 a1 v0_5 v2_7=some o):bu E0 QG (Cq a0 a1 v0_5) (pc a0 a1 v0_5) v2_7 o:=
 bH (ao (.n v0_5)<|.ex fun (y12:br)=>ao (.v (.a [(I y12.Owner),(.l 3 (y12.Names.map (I)))]))<|ao (.i (y12.Names.length:Int))<|.or (bt<|ao (.n v0_5)<|ao (.v (.a [(I y12.Owner),(.l 3 (y12.Names.map (I)))]))<|ao (.n v2_7)<|xI fun y15=>ao (.n v0_5)<|ao (.v (.a [(I y12.Owner),(.l 3 (y12.Names.map (I)))]))<|ao (.i ((v2_7:Int) - 1))<|xN fun j18=>xI fun y20=>oN (ao (.i ((v2_7+1:Nat):Int))<|.nil)) (bf<|.nil)) fun L=>ai (rI v0_5)<|cb h fun y12 h13 h=>ai (aD aF h13)<|ai (aC (I) y12.Names)<|bL h (fun h14 h=>ai (av h14)<|bW<|ai tt<|ai (rI v0_5)<|ai (aD aF h13)<|xW<|ai (rI v2_7)<|cb h fun y15 h16 h=>ai (aD (I) h16)<|xW<|ai (rI v0_5)<|ai (aD aF h13)<|xW<|aQ h fun w17 h=>ai w17<|ai tt<|ou h fun j18 h19 h=>ai h19<|cb h fun y20 h21 h=>ai (aD (I) h21)<|bW<|bL h (fun h22 h=>ai (av h22)<|L h) (fun h22 h=>ai (aw h22)<|aQ h fun w23 h=>ai w23<|L h)) (fun h14 h=>ai (aw h14)<|L h)
def dk(v0_5:Nat):Option (Nat⊕(Unit⊕(Unit⊕(Unit⊕(Nat×Bool))))):=
 if (v0_5:Int)<(a1.length:Int) then
  (a1[v0_5]?).bind fun (y3:br)=>
  (ll a0 y3.Owner).bind fun (r5:Bool)=>
  if r5=true then
   if 6<(y3.Names.length:Int) then
    some (.inr (.inl ()))
   else
    (lp (fun v=>eU a0 a1 v0_5 v) 0).bind fun (x9:(Unit⊕(Nat×Bool)))=>match x9 with
    | .inl ya_10=>
     some (.inr (.inr (.inl ())))
    | .inr yb_10=>
     (lp (fun v=>ej a0 a1 v0_5 v) 1).bind fun (x12:(Unit⊕(Nat×Bool)))=>match x12 with
     | .inl ya_13=>
      some (.inr (.inr (.inr (.inl ()))))
     | .inr yb_13=>
      if IntKind.i64.wrap ((v0_5:Int)+1)=((v0_5+1:Nat):Int) then
       some (.inl (v0_5+1))
      else none
  else
   some (.inr (.inr (.inl ())))
 else
  some (.inr (.inr (.inr (.inr (v0_5,decide ((v0_5:Int)<(a1.length:Int)))))))
abbrev Cr(v:Nat):St:=⟨[(1,(.l 138 (a1.map aF))),(2,(.p ⟨0,2⟩ 0)),(5,(I (v:Int)))],[(2,[(I a0.Many),(.l 166 (a0.Grants.map aE))])],H0⟩
abbrev ji(x:(Unit⊕(Unit⊕(Unit⊕(Nat×Bool))))):aH×St:=match x with | .inl ()=>(.ret,⟨[(4,(I 2))],[],H0⟩) | .inr (.inl ())=>(.ret,⟨[(4,(I 5))],[],H0⟩) | .inr (.inr (.inl ()))=>(.ret,⟨[(4,(I 4))],[],H0⟩) | .inr (.inr (.inr (z1,z2)))=>((.ex 0),⟨[(1,(.l 138 (a1.map aF))),(2,(.p ⟨0,2⟩ 0)),(5,(I (z1:Int))),(14,(.b z2))],[(2,[(I a0.Many),(.l 166 (a0.Grants.map aE))])],H0⟩)
theorem B3(v0_5:Nat)(o:Nat⊕(Unit⊕(Unit⊕(Unit⊕(Nat×Bool)))))(h:dk a0 a1 v0_5=some o):bu E0 QH (Cr a0 a1) (ji a0 a1) v0_5 o:=
 bH (ao (.i (a1.length:Int))<|.or (dG<|ao (.n v0_5)<|.ex fun (y3:br)=>ao (.v (.a [(I y3.Owner),(.l 3 (y3.Names.map (I)))]))<|xB fun r5=>.or (bf<|ao (.n v0_5)<|ao (.v (.a [(I y3.Owner),(.l 3 (y3.Names.map (I)))]))<|ao (.i (y3.Names.length:Int))<|oN (.or (.ex fun (ya_10:Unit)=>ao (.bT (pb a0 a1 v0_5 (.inl ya_10)))<|.nil) (.ex fun (yb_10:(Nat×Bool))=>ao (.bT (pb a0 a1 v0_5 (.inr yb_10)))<|.or (.ex fun (ya_13:Unit)=>ao (.bT (pc a0 a1 v0_5 (.inl ya_13)))<|.nil) (.ex fun (yb_13:(Nat×Bool))=>ao (.bT (pc a0 a1 v0_5 (.inr yb_13)))<|ao (.i ((v0_5+1:Nat):Int))<|.nil)))) (bt<|.nil)) (bf<|.nil)) fun L=>ai (aC aF a1)<|bL h (fun h2 h=>ai (av h2)<|et<|bW<|ai tt<|ai (rI v0_5)<|cb h fun y3 h4 h=>ai (aD aF h4)<|bW<|ai tt<|aU h (nS a0 y3.Owner) fun r5 h=>bz h (fun h7 h=>ai (ak not h7)<|ai (rI v0_5)<|ai (aD aF h4)<|ai (aC (I) y3.Names)<|bL h (fun h8 h=>ai (av h8)<|L h) (fun h8 h=>ai (aw h8)<|dA h (ei (BZ a0 a1 v0_5) 0) (fun ya_10 h=>L h) (fun yb_10 h=>dA h (ei (B0 a0 a1 v0_5) 1) (fun ya_13 h=>L h) (fun yb_13 h=>aQ h fun w15 h=>ai w15<|L h)))) (fun h7 h=>ai (ak not h7)<|L h)) (fun h2 h=>ai (aw h2)<|L h)
abbrev EY(a0:ah)(a1:(List br))(r:Int):bm×HP:=(.ret (I r),H0)
def kL:Option Int:=
 if 4<(a1.length:Int) then
  some 2
 else
  (lp (fun v=>dk a0 a1 v) 0).bind fun (x2:(Unit⊕(Unit⊕(Unit⊕(Nat×Bool)))))=>match x2 with
  | .inl ya_3=>
   some 2
  | .inr (.inl yb_3)=>
   some 5
  | .inr (.inr (.inl yc_3))=>
   some 4
  | .inr (.inr (.inr yd_3))=>
   some 0
theorem uu(r:Int)(h:kL a0 a1=some r):call G Ω0 E0 114 [(.a [(I a0.Many),(.l 166 (a0.Grants.map aE))]),(.l 138 (a1.map aF))] H0=some (EY a0 a1 r):=
 aW aiH (ao (.i (a1.length:Int))<|oN (.or (.ex fun (ya_3:Unit)=>ao (.bT (ji a0 a1 (.inl ya_3)))<|.nil) (.or (.ex fun (yb_3:Unit)=>ao (.bT (ji a0 a1 (.inr (.inl yb_3))))<|.nil) (.or (.ex fun (yc_3:Unit)=>ao (.bT (ji a0 a1 (.inr (.inr (.inl yc_3)))))<|.nil) (.ex fun (yd_3:(Nat×Bool))=>ao (.bT (ji a0 a1 (.inr (.inr (.inr yd_3)))))<|.nil))))) fun L=>ai tt<|ai (aC aF a1)<|bL h (fun h1 h=>ai (av h1)<|L h) (fun h1 h=>ai (aw h1)<|Py h (ei (B3 a0 a1) 0) (fun ya_3 h=>L h) (fun yb_3 h=>L h) (fun yc_3 h=>L h) (fun yd_3 h=>L h))
end
section
variable (a0:ah)(a1:Label)
abbrev Jl(a0:ah)(a1:Label)(r:Int):bm×HP:=(.ret (I r),H0)
def rL:Option Int:=
 (kL a0 a1.Read).bind fun (r1:Int)=>
 if (r1==0)=true then
  (kL a0 a1.Write).bind fun (r4:Int)=>
  some r4
 else
  some r1
theorem EZ(r:Int)(h:rL a0 a1=some r):call G Ω0 E0 48 [(.a [(I a0.Many),(.l 166 (a0.Grants.map aE))]),(.a [(.l 138 (a1.Read.map aF)),(.l 138 (a1.Write.map aF))])] H0=some (Jl a0 a1 r):=
 aW G48 (dG<|xI fun r1=>.or (eF<|xI fun r4=>.nil) (bf<|.nil)) fun L=>Iz<|aU h (uu a0 a1.Read) fun r1 h=>bz h (fun h3 h=>IA h3<|aU h (uu a0 a1.Write) fun r4 h=>L h) (fun h3 h=>ai h3<|L h)
end
section
variable (a0:(List Stmt))(a1:Int)
abbrev KE(a0:(List Stmt))(a1:Int)(r:Int):bm×HP:=(.ret (I r),H0)
abbrev wT(r:Int):Prop:=call G Ω0 E0 49 [(.l 92 (a0.map aV)),(I a1)] H0=some (KE a0 a1 r)
end
structure wU where
 f_R_ManyStmts:(List Stmt)→Int→Option Int
structure rM(R:wU):Prop where
 f_R_ManyStmts:∀ (a0:(List Stmt))(a1:Int)(r:Int),R.f_R_ManyStmts a0 a1=some r→wT a0 a1 r
section
variable (R:wU)(a0:(List Stmt))(a1:Int)
def pD(v0_5:Int)(v0_6:Nat):Option ((Int×Nat)⊕(Bool×Int×Nat)):=
 if (v0_6:Int)<(a0.length:Int) then
  if v0_5≤50 then
   (a0[v0_6]?).bind fun (y5:Stmt)=>
   if IntKind.i64.wrap (a1+1)=a1+1 then
    (R.f_R_ManyStmts y5.Then (a1+1)).bind fun (r8:Int)=>
    if IntKind.i64.wrap (1+r8)=1+r8 then
     (R.f_R_ManyStmts y5.Else (a1+1)).bind fun (r11:Int)=>
     if IntKind.i64.wrap ((1+r8)+r11)=(1+r8)+r11 then
      if IntKind.i64.wrap (v0_5+((1+r8)+r11))=v0_5+((1+r8)+r11) then
       if IntKind.i64.wrap ((v0_6:Int)+1)=((v0_6+1:Nat):Int) then
        some (.inl (v0_5+((1+r8)+r11),v0_6+1))
       else none
      else none
     else none
    else none
   else none
  else
   some (.inr (decide (v0_5≤50),v0_5,v0_6))
 else
  some (.inr (false,v0_5,v0_6))
abbrev HJ(v:(Int×Nat)):St:=⟨[(0,(.l 92 (a0.map aV))),(1,(I a1)),(5,(I v.1)),(6,(I (v.2:Int)))],[],H0⟩
abbrev zW(x:(Bool×Int×Nat)):aH×St:=((.ex 0),⟨[(0,(.l 92 (a0.map aV))),(1,(I a1)),(5,(I x.2.1)),(6,(I (x.2.2:Int))),(21,(.b x.1))],[],H0⟩)
theorem Gc(hR:rM R)(a0:(List Stmt))(a1:Int)(v0_5:Int)(v0_6:Nat)(o:(Int×Nat)⊕(Bool×Int×Nat))(h:pD R a0 a1 v0_5 v0_6=some o):bu E0 U4 (HJ a0 a1) (zW a0 a1) (v0_5,v0_6) o:=
 bH (ao (.i (a0.length:Int))<|.or (eF<|.or (bt<|ao (.n v0_6)<|.ex fun (y5:Stmt)=>ao (.v (.a (bC y5)))<|ao (.i (a1+1))<|xI fun r8=>ao (.i (1+r8))<|ao (.n v0_6)<|ao (.v (.a (bC y5)))<|ao (.i (a1+1))<|xI fun r11=>ao (.i ((1+r8)+r11))<|ao (.i (v0_5+((1+r8)+r11)))<|ao (.i ((v0_6+1:Nat):Int))<|.nil) (bf<|.nil)) (LH<|.nil)) fun L=>ai (aC aV a0)<|bL h (fun h3 h=>ua (av h3)<|bL h (fun h4 h=>ai (av h4)<|bW<|bW<|ai (rI v0_6)<|cb h fun y5 h6 h=>ai (oq aV h6 (ie _))<|xW<|aQ h fun w7 h=>ai w7<|ai tt<|aU h (hR.f_R_ManyStmts y5.Then (a1+1)) fun r8 h=>ai tt<|aQ h fun w10 h=>ai w10<|bW<|ai tt<|ai (rI v0_6)<|ai (oq aV h6 (ie _))<|xW<|ai w7<|ai tt<|aU h (hR.f_R_ManyStmts y5.Else (a1+1)) fun r11 h=>ai tt<|aQ h fun w13 h=>ai w13<|ai tt<|aQ h fun w14 h=>ai w14<|aQ h fun w15 h=>ai w15<|L h) (fun h4 h=>ai (aw h4)<|L h)) (fun h3 h=>ai (g1 (aw h3))<|lK (aw h3)<|ai ff<|L h)
def lV:Option (Unit⊕Int):=
 (lp (fun v=>pD R a0 a1 v.1 v.2) (0,0)).bind fun (x3:(Bool×Int×Nat))=>
 if 51<x3.2.1 then
  some (.inl ())
 else
  some (.inr x3.2.1)
abbrev lW(a0:(List Stmt))(a1:Int)(x:(Unit⊕Int)):aH×St:=match x with | .inl ()=>(.ret,⟨[(4,(I 51))],[],H0⟩) | .inr z1=>(.ret,⟨[(4,(I z1))],[],H0⟩)
theorem wZ(hR:rM R)(a0:(List Stmt))(a1:Int)(x:(Unit⊕Int))(h:lV R a0 a1=some x):run G Ω0 E0 U5 ⟨[(0,(.l 92 (a0.map aV))),(1,(I a1))],[],H0⟩=some (lW a0 a1 x):=
 zD (.ex fun (x3:(Bool×Int×Nat))=>ao (.bT (zW a0 a1 x3))<|oN (.nil)) fun L=>aU h (ei (fun v=>Gc R hR a0 a1 v.1 v.2) (0,0)) fun x3 h=>bL h (fun h5 h=>ai (av h5)<|L h) (fun h5 h=>ai (aw h5)<|L h)
def rO:Option Int:=
 if 0<(a0.length:Int) then
  if 6<a1 then
   some 51
  else
   (lV R a0 a1).bind fun (x3:(Unit⊕Int))=>match x3 with
   | .inl ya_4=>
    some 51
   | .inr yb_4=>
    some yb_4
 else
  (lV R a0 a1).bind fun (x2:(Unit⊕Int))=>match x2 with
  | .inl ya_3=>
   some 51
  | .inr yb_3=>
   some yb_3
theorem E1(hR:rM R)(a0:(List Stmt))(a1:Int)(r:Int)(h:rO R a0 a1=some r):wT a0 a1 r:=
 aW G49 (ao (.i (a0.length:Int))<|.or (eF<|oN (.fb<|.or (.ex fun (ya_4:Unit)=>ao (.nW (lW a0 a1 (.inl ya_4)))<|.nil) (.ex fun (yb_4:Int)=>ao (.nW (lW a0 a1 (.inr yb_4)))<|.nil))) (LH<|.fb<|.or (.ex fun (ya_3:Unit)=>ao (.nW (lW a0 a1 (.inl ya_3)))<|.nil) (.ex fun (yb_3:Int)=>ao (.nW (lW a0 a1 (.inr yb_3)))<|.nil))) fun L=>ai (aC aV a0)<|bL h (fun h1 h=>ua (av h1)<|bL h (fun h2 h=>ai (av h2)<|L h) (fun h2 h=>ai (aw h2)<|dA h (wZ R hR a0 a1) (fun ya_4 h=>L h) (fun yb_4 h=>L h))) (fun h1 h=>ai (g1 (aw h1))<|lK (aw h1)<|ai ff<|dA h (wZ R hR a0 a1) (fun ya_3 h=>L h) (fun yb_3 h=>L h))
def kz:Nat→wU
 | 0=>⟨fun z0 z1=>none⟩
 | n+1=>⟨rO (kz n)⟩
theorem Bb:∀ n,rM (kz n)
 | 0=>⟨fun _ _ r h=>(by cases h)⟩
 | n+1=>⟨fun a0 a1 r h=>E1 _ (Bb n) a0 a1 r h⟩
def sO:Option Int:=ev fun n=>(kz n).f_R_ManyStmts a0 a1
theorem yD(r:Int)(h:sO a0 a1=some r):wT a0 a1 r:=by
 obtain ⟨n,hn⟩:=uS h
 exact (Bb n).f_R_ManyStmts a0 a1 r hn
def uI:List cF:=(gM 45 44)::⟨some 46,.fa 2 1,some ⟨45,false⟩,false⟩::⟨some 47,.ld none 46,some ⟨45,false⟩,false⟩::⟨some 48,.ln false 47,some ⟨45,false⟩,false⟩::⟨some 49,.fa 0 1,some ⟨45,false⟩,false⟩::⟨some 50,.fa 0 49,some ⟨45,false⟩,false⟩::⟨some 51,.ld none 50,some ⟨45,false⟩,false⟩::⟨some 52,.bo .gtr false 48 51,some ⟨45,false⟩,false⟩::(gp 53 (.pk 45 (.c (.b true)) 52))::[]
end
section
variable (a0:Program)
def gJ(u2_1:Bool):Option Bool:=
 if u2_1=true then
  some true
 else
  some (decide (a0.ah.Many<(a0.Speak.length:Int)))
abbrev jj(u2_1:Bool)(x:Bool):St:=⟨[(1,(.p ⟨0,1⟩ 0)),(53,(.b x))],[(1,(ar a0))],H0⟩
theorem la(u2_1:Bool)(w:List AV)(x:Bool)(h:gJ a0 u2_1=some x):oX G Ω0 E0 [1,53] [1] uI ⟨[(44,(.b u2_1)),(43,(W w 0)),(42,(W w 1)),(41,(W w 2)),(40,(W w 3)),(39,(W w 4)),(38,(W w 5)),(37,(W w 6)),(36,(W w 7)),(35,(W w 8)),(34,(W w 9)),(33,(W w 10)),(32,(W w 11)),(31,(W w 12)),(30,(W w 13)),(29,(W w 14)),(28,(W w 15)),(27,(.b (decide (16<(a0.Vars.length:Int))))),(26,(.b (decide (16<(a0.Vars.length:Int))))),(25,(I (a0.Vars.length:Int))),(24,(.l 83 (a0.Vars.map cn))),(23,(.p ⟨0,1⟩ 5)),(1,(.p ⟨0,1⟩ 0))],[(1,(ar a0))],H0⟩=some (jj a0 u2_1 x):=
 oJ (.or (bf<|bf<|bf<|bf<|bf<|bf<|bf<|bt<|.nil) (mD<|ao (.i (a0.Speak.length:Int))<|bt<|bt<|bt<|bt<|bt<|bf<|.nil)) fun L=>bz h (fun h7 h=>eD h7<|eD h7<|lJ h7<|L h) (fun h7 h=>Az h7<|ai (aC (I) a0.Speak)<|eD h7<|ai (rfl:Z0)<|lJ h7<|L h)
def Ct:List cF:=(gF 23 5 1)::(gQ 24 23)::(gl 25 24)::(gB 26 .gtr 25 (kI 16))::(gM 27 26)::⟨some 28,.fa 3 1,some ⟨27,false⟩,false⟩::⟨some 29,.ld none 28,some ⟨27,false⟩,false⟩::⟨some 30,.ln false 29,some ⟨27,false⟩,false⟩::⟨some 31,.bo .gtr false 30 (kI 5),some ⟨27,false⟩,false⟩::(gp 32 (.pk 27 (.c (.b true)) 31))::(gM 33 32)::⟨some 34,.fa 4 1,some ⟨33,false⟩,false⟩::⟨some 35,.ld none 34,some ⟨33,false⟩,false⟩::⟨some 36,.ln false 35,some ⟨33,false⟩,false⟩::⟨some 37,.bo .gtr false 36 (kI 5),some ⟨33,false⟩,false⟩::(gp 38 (.pk 33 (.c (.b true)) 37))::(gM 39 38)::⟨some 40,.fa 6 1,some ⟨39,false⟩,false⟩::⟨some 41,.ld none 40,some ⟨39,false⟩,false⟩::⟨some 42,.ln false 41,some ⟨39,false⟩,false⟩::⟨some 43,.bo .gtr false 42 (kI 5),some ⟨39,false⟩,false⟩::(gp 44 (.pk 39 (.c (.b true)) 43))::uI
def me:Option Bool:=
 if 16<(a0.Vars.length:Int) then
  (gJ a0 true).bind fun (x5:Bool)=>
  some x5
 else
  if 5<(a0.Ins.length:Int) then
   (gJ a0 true).bind fun (x6:Bool)=>
   some x6
  else
   if 5<(a0.Outs.length:Int) then
    (gJ a0 true).bind fun (x7:Bool)=>
    some x7
   else
    (gJ a0 (decide (5<(a0.Funcs.length:Int)))).bind fun (x7:Bool)=>
    some x7
abbrev uJ(x:Bool):St:=⟨[(1,(.p ⟨0,1⟩ 0)),(53,(.b x))],[(1,(ar a0))],H0⟩
theorem B4(x:Bool)(h:me a0=some x):oX G Ω0 E0 [1,53] [1] Ct ⟨[(1,(.p ⟨0,1⟩ 0))],[(1,(ar a0))],H0⟩=some (uJ a0 x):=
 oJ (bt<|ao (.i (a0.Vars.length:Int))<|.or (aaU<|.jb (some 45) 8<|.ex fun (x5:Bool)=>ao (.jn (jj a0 true x5))<|.nil) (mD<|ao (.i (a0.Ins.length:Int))<|vV<|.or (TC<|.jb (some 45) 8<|.ex fun (x6:Bool)=>ao (.jn (jj a0 true x6))<|.nil) (mD<|ao (.i (a0.Outs.length:Int))<|vV<|.or (N8<|.jb (some 45) 8<|.ex fun (x7:Bool)=>ao (.jn (jj a0 true x7))<|.nil) (mD<|ao (.i (a0.Funcs.length:Int))<|vV<|.jb (some 45) 8<|.ex fun (x7:Bool)=>ao (.jn (jj a0 (decide (5<(a0.Funcs.length:Int))) x7))<|.nil)))) fun L=>ai (rfl:Z0)<|ai (aC cn a0.Vars)<|bL h (fun h4 h=>eD (av h4)<|lJ (av h4)<|ju<|ju<|ai tt<|ju<|ju<|ai tt<|aU h (la a0 true [.sk,.sk,.sk,.sk,(.b true),(.b true),.sk,.sk,.sk,.sk,(.b true),(.b true),.sk,.sk,.sk,.sk]) fun x5 h=>L h) (fun h4 h=>Az (aw h4)<|ai (aC az a0.Ins)<|lJ (aw h4)<|bL h (fun h5 h=>eD (av h5)<|lJ (av h5)<|ju<|ju<|ai tt<|aU h (la a0 true [.sk,.sk,.sk,.sk,(.b true),(.b true),.sk,.sk,.sk,.sk,(.b (decide (5<(a0.Ins.length:Int)))),(.b (decide (5<(a0.Ins.length:Int)))),(.b (decide (5<(a0.Ins.length:Int)))),(I (a0.Ins.length:Int)),(.l 81 (a0.Ins.map az)),(.p ⟨0,1⟩ 3)]) fun x6 h=>L h) (fun h5 h=>Az (aw h5)<|ai (aC az a0.Outs)<|lJ (aw h5)<|bL h (fun h6 h=>N7 (av h6)<|aU h (la a0 true [.sk,.sk,.sk,.sk,(.b (decide (5<(a0.Outs.length:Int)))),(.b (decide (5<(a0.Outs.length:Int)))),(.b (decide (5<(a0.Outs.length:Int)))),(I (a0.Outs.length:Int)),(.l 81 (a0.Outs.map az)),(.p ⟨0,1⟩ 4),(.b (decide (5<(a0.Ins.length:Int)))),(.b (decide (5<(a0.Ins.length:Int)))),(.b (decide (5<(a0.Ins.length:Int)))),(I (a0.Ins.length:Int)),(.l 81 (a0.Ins.map az)),(.p ⟨0,1⟩ 3)]) fun x7 h=>L h) (fun h6 h=>Az (aw h6)<|ai (aC ct a0.Funcs)<|lJ (aw h6)<|aU h (la a0 (decide (5<(a0.Funcs.length:Int))) [(.b (decide (5<(a0.Funcs.length:Int)))),(I (a0.Funcs.length:Int)),(.l 101 (a0.Funcs.map ct)),(.p ⟨0,1⟩ 6),(.b (decide (5<(a0.Outs.length:Int)))),(.b (decide (5<(a0.Outs.length:Int)))),(.b (decide (5<(a0.Outs.length:Int)))),(I (a0.Outs.length:Int)),(.l 81 (a0.Outs.map az)),(.p ⟨0,1⟩ 4),(.b (decide (5<(a0.Ins.length:Int)))),(.b (decide (5<(a0.Ins.length:Int)))),(.b (decide (5<(a0.Ins.length:Int)))),(I (a0.Ins.length:Int)),(.l 81 (a0.Ins.map az)),(.p ⟨0,1⟩ 3)]) fun x7 h=>L h)))
def fB(v0_4:Nat):Option (Nat⊕(Unit⊕(Nat×Bool))):=
 if (v0_4:Int)<(a0.Speak.length:Int) then
  (a0.Speak[v0_4]?).bind fun (y8:Int)=>
  (ll a0.ah y8).bind fun (r10:Bool)=>
  if r10=true then
   if IntKind.i64.wrap ((v0_4:Int)+1)=((v0_4+1:Nat):Int) then
    some (.inl (v0_4+1))
   else none
  else
   some (.inr (.inl ()))
 else
  some (.inr (.inr (v0_4,decide ((v0_4:Int)<(a0.Speak.length:Int)))))
abbrev DO(v:Nat):St:=⟨[(1,(.p ⟨0,1⟩ 0)),(4,(I (v:Int)))],[(1,(ar a0))],H0⟩
abbrev qM(x:(Unit⊕(Nat×Bool))):aH×St:=match x with | .inl ()=>(.ret,⟨[(2,(I 5))],[],H0⟩) | .inr (z1,z2)=>((.ex 0),⟨[(1,(.p ⟨0,1⟩ 0)),(4,(I (z1:Int))),(58,(.b z2))],[(1,(ar a0))],H0⟩)
theorem Cu(v0_4:Nat)(o:Nat⊕(Unit⊕(Nat×Bool)))(h:fB a0 v0_4=some o):bu E0 Up (DO a0) (qM a0) v0_4 o:=
 bH (bt<|ao (.i (a0.Speak.length:Int))<|.or (eF<|ao (.n v0_4)<|xI fun y8=>xB fun r10=>.or (bf<|ao (.i ((v0_4+1:Nat):Int))<|.nil) (bt<|.nil)) (bf<|.nil)) fun L=>ai (rfl:Z0)<|ai (aC (I) a0.Speak)<|bL h (fun h7 h=>ai (av h7)<|bW<|ai (rfl:Z0)<|bW<|ai (rfl:Z0)<|bW<|ai (rI v0_4)<|cb h fun y8 h9 h=>ai (aD (I) h9)<|bW<|aU h (nS a0.ah y8) fun r10 h=>bz h (fun h12 h=>ai (ak not h12)<|aQ h fun w13 h=>ai w13<|L h) (fun h12 h=>ai (ak not h12)<|L h)) (fun h7 h=>ai (aw h7)<|L h)
def mN(v1_5:(List Label))(v1_6:Nat):Option (((List Label)×Nat)⊕((List Label)×Nat×Bool)):=
 if (v1_6:Int)<(a0.Vars.length:Int) then
  (a0.Vars[v1_6]?).bind fun (y13:Var)=>
  if v1_5.length + [y13.Label].length≤1000000000 then
   if IntKind.i64.wrap ((v1_6:Int)+1)=((v1_6+1:Nat):Int) then
    some (.inl (v1_5++[y13.Label],v1_6+1))
   else none
  else none
 else
  some (.inr (v1_5,v1_6,decide ((v1_6:Int)<(a0.Vars.length:Int))))
abbrev DP(v:((List Label)×Nat)):St:=⟨[(1,(.p ⟨0,1⟩ 0)),(5,(.o 81 (v.1.map az))),(6,(I (v.2:Int)))],[(1,(ar a0))],H0⟩
abbrev wk(x:((List Label)×Nat×Bool)):aH×St:=((.ex 2),⟨[(1,(.p ⟨0,1⟩ 0)),(5,(.o 81 (x.1.map az))),(6,(I (x.2.1:Int))),(81,(.b x.2.2))],[(1,(ar a0))],H0⟩)
theorem Cv(v1_5:(List Label))(v1_6:Nat)(o:((List Label)×Nat)⊕((List Label)×Nat×Bool))(h:mN a0 v1_5 v1_6=some o):bu E0 Uq (DP a0) (wk a0) (v1_5,v1_6) o:=
 bH (bt<|ao (.i (a0.Vars.length:Int))<|.or (dG<|ao (.n v1_6)<|.ex fun (y13:Var)=>ao (.v (.a (De y13)))<|ao (.l ([y13.Label].map az))<|ao (.l ((v1_5++[y13.Label]).map az))<|ao (.i ((v1_6+1:Nat):Int))<|.nil) (bf<|.nil)) fun L=>ai (rfl:Z0)<|ai (aC cn a0.Vars)<|bL h (fun h12 h=>nI (av h12)<|ai (rI v1_6)<|cb h fun y13 h14 h=>ai (aD cn h14)<|ai (rfl:[(.a [(.l 138 (y13.Label.Read.map aF)),(.l 138 (y13.Label.Write.map aF))])]=[y13.Label].map az)<|ai ff<|aQ h fun h15 h=>ai ((jF az (n:=2) (fun _=>rfl) [y13.Label]):([y13.Label].map az).all (fun e=>e.nc==2)=true)<|ai ((nr h15 (by decide)):((v1_5.map az).length+([y13.Label].map az).length)*48≤140737488355328)<|ai ((nu h15):(v1_5.map az).length+([y13.Label].map az).length≤maxLen)<|ai (dc.symm:v1_5.map az++[y13.Label].map az=(v1_5++[y13.Label]).map az)<|aQ h fun w16 h=>ai w16<|L h) (fun h12 h=>ai (aw h12)<|L h)
def jV(x12:((List Label)×Nat×Bool))(v2_7:Nat):Option (Nat⊕(Int⊕(Nat×Bool))):=
 if (v2_7:Int)<(x12.1.length:Int) then
  (x12.1[v2_7]?).bind fun (y15:Label)=>
  (rL a0.ah y15).bind fun (r17:Int)=>
  if (r17 !=0)=true then
   some (.inr (.inl r17))
  else
   if IntKind.i64.wrap ((v2_7:Int)+1)=((v2_7+1:Nat):Int) then
    some (.inl (v2_7+1))
   else none
 else
  some (.inr (.inr (v2_7,decide ((v2_7:Int)<(x12.1.length:Int)))))
abbrev DQ(x12:((List Label)×Nat×Bool))(v:Nat):St:=⟨[(1,(.p ⟨0,1⟩ 0)),(5,(.o 81 (x12.1.map az))),(7,(I (v:Int)))],[(1,(ar a0))],H0⟩
abbrev qN(x12:((List Label)×Nat×Bool))(x:(Int⊕(Nat×Bool))):aH×St:=match x with | .inl z1=>(.ret,⟨[(2,(I z1))],[],H0⟩) | .inr (z1,z2)=>((.ex 4),⟨[(1,(.p ⟨0,1⟩ 0)),(5,(.o 81 (x12.1.map az))),(7,(I (z1:Int))),(96,(.b z2))],[(1,(ar a0))],H0⟩)
theorem Cw(x12:((List Label)×Nat×Bool))(v2_7:Nat)(o:Nat⊕(Int⊕(Nat×Bool)))(h:jV a0 x12 v2_7=some o):bu E0 Ur (DQ a0 x12) (qN a0 x12) v2_7 o:=
 bH (ao (.i (x12.1.length:Int))<|.or (dG<|ao (.n v2_7)<|.ex fun (y15:Label)=>ao (.v (.a [(.l 138 (y15.Read.map aF)),(.l 138 (y15.Write.map aF))]))<|ao (.v (.a [(.l 138 (y15.Read.map aF)),(.l 138 (y15.Write.map aF))]))<|xI fun r17=>oN (ao (.i ((v2_7+1:Nat):Int))<|.nil)) (bf<|.nil)) fun L=>ai (aC az x12.1)<|bL h (fun h14 h=>ai (av h14)<|bW<|ai (rfl:Z0)<|bW<|ai tt<|ai (rI v2_7)<|cb h fun y15 h16 h=>ai (aD az h16)<|ai tt<|ai (aD az h16)<|ai tt<|aU h (EZ a0.ah y15) fun r17 h=>bz h (fun h19 h=>ai h19<|L h) (fun h19 h=>ai h19<|aQ h fun w20 h=>ai w20<|L h)) (fun h14 h=>ai (aw h14)<|L h)
def fC(v3_9:Nat):Option (Nat⊕(Unit⊕(Nat×Bool))):=
 if (v3_9:Int)<(a0.Vars.length:Int) then
  (a0.Vars[v3_9]?).bind fun (y18:Var)=>
  if y18.Known=true then
   if IntKind.i64.wrap ((v3_9:Int)+1)=((v3_9+1:Nat):Int) then
    some (.inl (v3_9+1))
   else none
  else
   if 0<(y18.Label.Read.length:Int) then
    some (.inr (.inl ()))
   else
    if 0<(y18.Label.Write.length:Int) then
     some (.inr (.inl ()))
    else
     if IntKind.i64.wrap ((v3_9:Int)+1)=((v3_9+1:Nat):Int) then
      some (.inl (v3_9+1))
     else none
 else
  some (.inr (.inr (v3_9,decide ((v3_9:Int)<(a0.Vars.length:Int)))))
abbrev DR(v:Nat):St:=⟨[(1,(.p ⟨0,1⟩ 0)),(9,(I (v:Int)))],[(1,(ar a0))],H0⟩
abbrev qO(x:(Unit⊕(Nat×Bool))):aH×St:=match x with | .inl ()=>(.ret,⟨[(2,(I 1))],[],H0⟩) | .inr (z1,z2)=>((.ex 6),⟨[(1,(.p ⟨0,1⟩ 0)),(9,(I (z1:Int))),(113,(.b z2))],[(1,(ar a0))],H0⟩)
theorem Cy(v3_9:Nat)(o:Nat⊕(Unit⊕(Nat×Bool)))(h:fC a0 v3_9=some o):bu E0 Us (DR a0) (qO a0) v3_9 o:=
 bH (bt<|ao (.i (a0.Vars.length:Int))<|.or (dG<|ao (.n v3_9)<|.ex fun (y18:Var)=>ao (.v (.a (De y18)))<|eF<|.or (bf<|bf<|bf<|bf<|bf<|bf<|bf<|bf<|bf<|ao (.i ((v3_9+1:Nat):Int))<|.nil) (pj<|ao (.i (y18.Label.Read.length:Int))<|dG<|.or (bf<|bf<|bf<|bf<|bf<|bt<|bt<|bt<|bt<|.nil) (pj<|ao (.i (y18.Label.Write.length:Int))<|bt<|bt<|bf<|bt<|oN (ao (.i ((v3_9+1:Nat):Int))<|.nil)))) (bf<|.nil)) fun L=>ai (rfl:Z0)<|ai (aC cn a0.Vars)<|bL h (fun h17 h=>nI (av h17)<|ai (rI v3_9)<|cb h fun y18 h19 h=>ai (aD cn h19)<|JL<|bz h (fun h20 h=>cU (ak not h20)<|cU (ak not h20)<|lK (ak not h20)<|ai ff<|aQ h fun w21 h=>ai w21<|L h) (fun h20 h=>cU (ak not h20)<|ai (rfl:Z0)<|ai (g1 (ak not h20))<|ai (aC aF y18.Label.Read)<|Ai (ak not h20)<|bL h (fun h21 h=>eD (av h21)<|ai (g0 (av h21))<|ai (g0 (av h21))<|ai (g1 (ak not h20))<|ai (av h21)<|ai (ak not h20)<|ai tt<|L h) (fun h21 h=>eD (aw h21)<|ai (rfl:Z0)<|ai (g0 (aw h21))<|ai (aC aF y18.Label.Write)<|ai (g0 (aw h21))<|ai (g1 (ak not h20))<|ai (aw h21)<|ai (ak not h20)<|bL h (fun h22 h=>ai (av h22)<|L h) (fun h22 h=>ai (aw h22)<|aQ h fun w23 h=>ai w23<|L h)))) (fun h17 h=>ai (aw h17)<|L h)
def mO(v4_11:Int)(v4_12:Nat):Option ((Int×Nat)⊕(Int×Nat×Bool)):=
 if (v4_12:Int)<(a0.Funcs.length:Int) then
  (a0.Funcs[v4_12]?).bind fun (y23:Func)=>
  (sO y23.Body 1).bind fun (r25:Int)=>
  if IntKind.i64.wrap (v4_11+r25)=v4_11+r25 then
   if IntKind.i64.wrap ((v4_12:Int)+1)=((v4_12+1:Nat):Int) then
    some (.inl (v4_11+r25,v4_12+1))
   else none
  else none
 else
  some (.inr (v4_11,v4_12,decide ((v4_12:Int)<(a0.Funcs.length:Int))))
abbrev DS(v:(Int×Nat)):St:=⟨[(1,(.p ⟨0,1⟩ 0)),(11,(I v.1)),(12,(I (v.2:Int)))],[(1,(ar a0))],H0⟩
abbrev wm(x:(Int×Nat×Bool)):aH×St:=((.ex 8),⟨[(1,(.p ⟨0,1⟩ 0)),(11,(I x.1)),(12,(I (x.2.1:Int))),(145,(.b x.2.2))],[(1,(ar a0))],H0⟩)
theorem Cz(v4_11:Int)(v4_12:Nat)(o:(Int×Nat)⊕(Int×Nat×Bool))(h:mO a0 v4_11 v4_12=some o):bu E0 Ut (DS a0) (wm a0) (v4_11,v4_12) o:=
 bH (bt<|ao (.i (a0.Funcs.length:Int))<|.or (dG<|ao (.n v4_12)<|.ex fun (y23:Func)=>ao (.v (.a (dB y23)))<|xI fun r25=>ao (.i (v4_11+r25))<|ao (.i ((v4_12+1:Nat):Int))<|.nil) (bf<|.nil)) fun L=>ai (rfl:Z0)<|ai (aC ct a0.Funcs)<|bL h (fun h22 h=>nI (av h22)<|ai (rI v4_12)<|cb h fun y23 h24 h=>ai (aD ct h24)<|aU h (yD y23.Body 1) fun r25 h=>aQ h fun w27 h=>ai w27<|aQ h fun w28 h=>ai w28<|L h) (fun h22 h=>ai (aw h22)<|L h)
def fD(a0:Program)(v5_13:Nat)(y26:Func)(v6_15:Nat)(v7_16:Nat):Option (Nat⊕(Unit⊕(Nat×Bool))):=
 if (v7_16:Int)<(v6_15:Int) then
  (y26.Params[v7_16]?).bind fun (y37:Int)=>
  (y26.Params[v6_15]?).bind fun (y39:Int)=>
  if (y37==y39)=true then
   some (.inr (.inl ()))
  else
   if IntKind.i64.wrap ((v7_16:Int)+1)=((v7_16+1:Nat):Int) then
    some (.inl (v7_16+1))
   else none
 else
  some (.inr (.inr (v7_16,decide ((v7_16:Int)<(v6_15:Int)))))
abbrev DT(v5_13:Nat)(y26:Func)(v6_15:Nat)(v:Nat):St:=⟨[(1,(.p ⟨0,1⟩ 0)),(13,(I (v5_13:Int))),(14,(.p ⟨0,14⟩ 0)),(15,(I (v6_15:Int))),(16,(I (v:Int)))],[(1,(ar a0)),(14,(dB y26))],H0⟩
abbrev qP(v5_13:Nat)(y26:Func)(v6_15:Nat)(x:(Unit⊕(Nat×Bool))):aH×St:=match x with | .inl ()=>(.ret,⟨[(2,(I 6))],[],H0⟩) | .inr (z1,z2)=>((.ex 14),⟨[(1,(.p ⟨0,1⟩ 0)),(13,(I (v5_13:Int))),(14,(.p ⟨0,14⟩ 0)),(15,(I (v6_15:Int))),(16,(I (z1:Int))),(195,(.b z2))],[(1,(ar a0)),(14,(dB y26))],H0⟩)
theorem CB(v5_13:Nat)(y26:Func)(v6_15:Nat)(v7_16:Nat)(o:Nat⊕(Unit⊕(Nat×Bool)))(h:fD a0 v5_13 y26 v6_15 v7_16=some o):bu E0 Uu (DT a0 v5_13 y26 v6_15) (qP a0 v5_13 y26 v6_15) v7_16 o:=
 bH (.or (dG<|ao (.n v7_16)<|xI fun y37=>bt<|ao (.n v6_15)<|xI fun y39=>oN (ao (.i ((v7_16+1:Nat):Int))<|.nil)) (bf<|.nil)) fun L=>bL h (fun h36 h=>Pz (av h36)<|ai (rI v7_16)<|cb h fun y37 h38 h=>ai (aD (I) h38)<|bW<|et<|bW<|ai (rI v6_15)<|cb h fun y39 h40 h=>ai (aD (I) h40)<|bW<|bz h (fun h41 h=>ai h41<|L h) (fun h41 h=>ai h41<|aQ h fun w42 h=>ai w42<|L h)) (fun h36 h=>ai (aw h36)<|L h)
def mP(v5_13:Nat)(y26:Func)(v6_15:Nat):Option (Nat⊕(Unit⊕(Unit⊕(Nat×Bool)))):=
 if (v6_15:Int)<(y26.Params.length:Int) then
  (y26.Params[v6_15]?).bind fun (y30:Int)=>
  if IntKind.i64.wrap ((a0.Vars.length:Int) - 1)=(a0.Vars.length:Int) - 1 then
   (fH y30 0 ((a0.Vars.length:Int) - 1)).bind fun (r33:Bool)=>
   if r33=true then
    (lp (fun v=>fD a0 v5_13 y26 v6_15 v) 0).bind fun (x36:(Unit⊕(Nat×Bool)))=>match x36 with
    | .inl ya_37=>
     some (.inr (.inl ()))
    | .inr yb_37=>
     if IntKind.i64.wrap ((v6_15:Int)+1)=((v6_15+1:Nat):Int) then
      some (.inl (v6_15+1))
     else none
   else
    some (.inr (.inr (.inl ())))
  else none
 else
  some (.inr (.inr (.inr (v6_15,decide ((v6_15:Int)<(y26.Params.length:Int))))))
abbrev DU(v5_13:Nat)(y26:Func)(v:Nat):St:=⟨[(1,(.p ⟨0,1⟩ 0)),(13,(I (v5_13:Int))),(14,(.p ⟨0,14⟩ 0)),(15,(I (v:Int)))],[(1,(ar a0)),(14,(dB y26))],H0⟩
abbrev mQ(v5_13:Nat)(y26:Func)(x:(Unit⊕(Unit⊕(Nat×Bool)))):aH×St:=match x with | .inl ()=>(.ret,⟨[(2,(I 6))],[],H0⟩) | .inr (.inl ())=>(.ret,⟨[(2,(I 5))],[],H0⟩) | .inr (.inr (z1,z2))=>((.ex 12),⟨[(1,(.p ⟨0,1⟩ 0)),(13,(I (v5_13:Int))),(14,(.p ⟨0,14⟩ 0)),(15,(I (z1:Int))),(179,(.b z2))],[(1,(ar a0)),(14,(dB y26))],H0⟩)
theorem CC(v5_13:Nat)(y26:Func)(v6_15:Nat)(o:Nat⊕(Unit⊕(Unit⊕(Nat×Bool))))(h:mP a0 v5_13 y26 v6_15=some o):bu E0 Uv (DU a0 v5_13 y26) (mQ a0 v5_13 y26) v6_15 o:=
 bH (bt<|ao (.i (y26.Params.length:Int))<|.or (dG<|ao (.n v6_15)<|xI fun y30=>bt<|ao (.i (a0.Vars.length:Int))<|ao (.i ((a0.Vars.length:Int) - 1))<|xB fun r33=>.or (bf<|.or (.ex fun (ya_37:Unit)=>ao (.bT (qP a0 v5_13 y26 v6_15 (.inl ya_37)))<|.nil) (.ex fun (yb_37:(Nat×Bool))=>ao (.bT (qP a0 v5_13 y26 v6_15 (.inr yb_37)))<|ao (.i ((v6_15+1:Nat):Int))<|.nil)) (bt<|.nil)) (bf<|.nil)) fun L=>ai (rfl:Z0)<|ai (aC (I) y26.Params)<|bL h (fun h29 h=>Pz (av h29)<|ai (rI v6_15)<|cb h fun y30 h31 h=>ai (aD (I) h31)<|bW<|et<|ai tt<|ai (aC cn a0.Vars)<|ai tt<|aQ h fun w32 h=>ai w32<|ai tt<|aU h (fY y30 0 ((a0.Vars.length:Int) - 1)) fun r33 h=>bz h (fun h35 h=>ai (ak not h35)<|dA h (ei (CB a0 v5_13 y26 v6_15) 0) (fun ya_37 h=>L h) (fun yb_37 h=>aQ h fun w39 h=>ai w39<|L h)) (fun h35 h=>ai (ak not h35)<|L h)) (fun h29 h=>ai (aw h29)<|L h)
def iN(a0:Program)(v5_13:Nat)(w19_1:Int):Option (Int⊕(Int×Bool)):=
 if (w19_1 !=0)=true then
  some (.inl w19_1)
 else
  some (.inr (w19_1,w19_1 !=0))
abbrev iO(v5_13:Nat)(w19_1:Int)(x:(Int⊕(Int×Bool))):aH×St:=match x with | .inl z1=>(.ret,⟨[(2,(I z1))],[],H0⟩) | .inr (z1,z2)=>(.nrm,⟨[(1,(.p ⟨0,1⟩ 0)),(3,(I z1)),(13,(I (v5_13:Int))),(223,(.b z2))],[(1,(ar a0))],H0⟩)
theorem tT(v5_13:Nat)(w19_1:Int)(x:(Int⊕(Int×Bool)))(h:iN a0 v5_13 w19_1=some x):run G Ω0 E0 Qv ⟨[(1,(.p ⟨0,1⟩ 0)),(3,(I w19_1)),(13,(I (v5_13:Int)))],[(1,(ar a0))],H0⟩=some (iO a0 v5_13 w19_1 x):=
 zD (oN (.nil)) fun L=>bz h (fun h37 h=>ai h37<|L h) (fun h37 h=>ai h37<|L h)
def mR(v5_13:Nat):Option (Nat⊕(Unit⊕(Unit⊕(Unit⊕(Int⊕(Nat×Bool)))))):=
 if (v5_13:Int)<(a0.Funcs.length:Int) then
  (a0.Funcs[v5_13]?).bind fun (y26:Func)=>
  if 4<(y26.Params.length:Int) then
   some (.inr (.inl ()))
  else
   (lp (fun v=>mP a0 v5_13 y26 v) 0).bind fun (x29:(Unit⊕(Unit⊕(Nat×Bool))))=>match x29 with
   | .inl ya_30=>
    some (.inr (.inr (.inl ())))
   | .inr (.inl yb_30)=>
    some (.inr (.inr (.inr (.inl ()))))
   | .inr (.inr yc_30)=>
    (cH a0 (v5_13:Int) y26.Body).bind fun (r32:Int)=>
    if (r32==0)=true then
     (eM y26.Result (a0.Vars.length:Int)).bind fun (r35:Int)=>
     (iN a0 v5_13 r35).bind fun (x37:(Int⊕(Int×Bool)))=>match x37 with
     | .inl ya_38=>
      some (.inr (.inr (.inr (.inr (.inl ya_38)))))
     | .inr yb_38=>
      if IntKind.i64.wrap ((v5_13:Int)+1)=((v5_13+1:Nat):Int) then
       some (.inl (v5_13+1))
      else none
    else
     (iN a0 v5_13 r32).bind fun (x35:(Int⊕(Int×Bool)))=>match x35 with
     | .inl ya_36=>
      some (.inr (.inr (.inr (.inr (.inl ya_36)))))
     | .inr yb_36=>
      if IntKind.i64.wrap ((v5_13:Int)+1)=((v5_13+1:Nat):Int) then
       some (.inl (v5_13+1))
      else none
 else
  some (.inr (.inr (.inr (.inr (.inr (v5_13,decide ((v5_13:Int)<(a0.Funcs.length:Int))))))))
abbrev DV(v:Nat):St:=⟨[(1,(.p ⟨0,1⟩ 0)),(13,(I (v:Int)))],[(1,(ar a0))],H0⟩
abbrev iv(x:(Unit⊕(Unit⊕(Unit⊕(Int⊕(Nat×Bool)))))):aH×St:=match x with | .inl ()=>(.ret,⟨[(2,(I 2))],[],H0⟩) | .inr (.inl ())=>(.ret,⟨[(2,(I 6))],[],H0⟩) | .inr (.inr (.inl ()))=>(.ret,⟨[(2,(I 5))],[],H0⟩) | .inr (.inr (.inr (.inl z1)))=>(.ret,⟨[(2,(I z1))],[],H0⟩) | .inr (.inr (.inr (.inr (z1,z2))))=>((.ex 10),⟨[(1,(.p ⟨0,1⟩ 0)),(13,(I (z1:Int))),(163,(.b z2))],[(1,(ar a0))],H0⟩)
theorem CD(v5_13:Nat)(o:Nat⊕(Unit⊕(Unit⊕(Unit⊕(Int⊕(Nat×Bool))))))(h:mR a0 v5_13=some o):bu E0 Uw (DV a0) (iv a0) v5_13 o:=
 bH (bt<|ao (.i (a0.Funcs.length:Int))<|.or (dG<|ao (.n v5_13)<|.ex fun (y26:Func)=>ao (.v (.a (dB y26)))<|eF<|ao (.i (y26.Params.length:Int))<|oN (.or (.ex fun (ya_30:Unit)=>ao (.bT (mQ a0 v5_13 y26 (.inl ya_30)))<|.nil) (.or (.ex fun (yb_30:Unit)=>ao (.bT (mQ a0 v5_13 y26 (.inr (.inl yb_30))))<|.nil) (.ex fun (yc_30:(Nat×Bool))=>ao (.bT (mQ a0 v5_13 y26 (.inr (.inr yc_30))))<|dG<|xI fun r32=>.or (eF<|ao (.i (a0.Vars.length:Int))<|xI fun r35=>.fb<|.or (.ex fun (ya_38:Int)=>ao (.nW (iO a0 v5_13 r35 (.inl ya_38)))<|.nil) (.ex fun (yb_38:(Int×Bool))=>ao (.nW (iO a0 v5_13 r35 (.inr yb_38)))<|ao (.i ((v5_13+1:Nat):Int))<|.nil)) (bf<|.fb<|.or (.ex fun (ya_36:Int)=>ao (.nW (iO a0 v5_13 r32 (.inl ya_36)))<|.nil) (.ex fun (yb_36:(Int×Bool))=>ao (.nW (iO a0 v5_13 r32 (.inr yb_36)))<|ao (.i ((v5_13+1:Nat):Int))<|.nil)))))) (bf<|.nil)) fun L=>ai (rfl:Z0)<|ai (aC ct a0.Funcs)<|bL h (fun h25 h=>nI (av h25)<|ai (rI v5_13)<|cb h fun y26 h27 h=>ai (aD ct h27)<|JL<|ai (aC (I) y26.Params)<|bL h (fun h28 h=>ai (av h28)<|L h) (fun h28 h=>ai (aw h28)<|Px h (ei (CC a0 v5_13 y26) 0) (fun ya_30 h=>L h) (fun yb_30 h=>L h) (fun yc_30 h=>uT<|aU h (wY a0 (v5_13:Int) y26.Body) fun r32 h=>bz h (fun h34 h=>IA h34<|ai (aC cn a0.Vars)<|aU h (oE y26.Result (a0.Vars.length:Int)) fun r35 h=>dA h (tT a0 v5_13 r35) (fun ya_38 h=>L h) (fun yb_38 h=>aQ h fun w40 h=>ai w40<|L h)) (fun h34 h=>ai h34<|dA h (tT a0 v5_13 r32) (fun ya_36 h=>L h) (fun yb_36 h=>aQ h fun w38 h=>ai w38<|L h))))) (fun h25 h=>ai (aw h25)<|L h)
abbrev Gd(a0:Program)(r:Int):bm×HP:=(.ret (I r),H0)
def lX:Option Int:=
 (pC a0.ah).bind fun (r1:Int)=>
 if (r1 !=0)=true then
  some r1
 else
  (me a0).bind fun (x4:Bool)=>
  if x4=true then
   some 2
  else
   (lp (fun v=>fB a0 v) 0).bind fun (x7:(Unit⊕(Nat×Bool)))=>match x7 with
   | .inl ya_8=>
    some 5
   | .inr yb_8=>
    if ([]:List Label).length+a0.Ins.length≤1000000000 then
     if (([]:List Label)++a0.Ins).length+a0.Outs.length≤1000000000 then
      (lp (fun v=>mN a0 v.1 v.2) (((([]:List Label)++a0.Ins)++a0.Outs),0)).bind fun (x12:((List Label)×Nat×Bool))=>
      (lp (fun v=>jV a0 x12 v) 0).bind fun (x14:(Int⊕(Nat×Bool)))=>match x14 with
      | .inl ya_15=>
       some ya_15
      | .inr yb_15=>
       (lp (fun v=>fC a0 v) 0).bind fun (x17:(Unit⊕(Nat×Bool)))=>match x17 with
       | .inl ya_18=>
        some 1
       | .inr yb_18=>
        (sO a0.Main 1).bind fun (r20:Int)=>
        (lp (fun v=>mO a0 v.1 v.2) (r20,0)).bind fun (x22:(Int×Nat×Bool))=>
        if 50<x22.1 then
         some 2
        else
         (lp (fun v=>mR a0 v) 0).bind fun (x25:(Unit⊕(Unit⊕(Unit⊕(Int⊕(Nat×Bool))))))=>match x25 with
         | .inl ya_26=>
          some 2
         | .inr (.inl yb_26)=>
          some 6
         | .inr (.inr (.inl yc_26))=>
          some 5
         | .inr (.inr (.inr (.inl yd_26)))=>
          some yd_26
         | .inr (.inr (.inr (.inr ye_26)))=>
          (cH a0 (a0.Funcs.length:Int) a0.Main).bind fun (r28:Int)=>
          some r28
     else none
    else none
theorem uK(r:Int)(h:lX a0=some r):call G Ω0 E0 10 [(.a (ar a0))] H0=some (Gd a0 r):=
 aW G10 (bt<|xI fun r1=>oN (.jb (some 23) 30<|.ex fun (x4:Bool)=>ao (.jn (uJ a0 x4))<|oN (.or (.ex fun (ya_8:Unit)=>ao (.bT (qM a0 (.inl ya_8)))<|.nil) (.ex fun (yb_8:(Nat×Bool))=>ao (.bT (qM a0 (.inr yb_8)))<|ao (.l (([]:List Label).map az))<|bt<|ao (.l ((([]:List Label)++a0.Ins).map az))<|bt<|ao (.l (((([]:List Label)++a0.Ins)++a0.Outs).map az))<|.ex fun (x12:((List Label)×Nat×Bool))=>ao (.bT (wk a0 x12))<|.or (.ex fun (ya_15:Int)=>ao (.bT (qN a0 x12 (.inl ya_15)))<|.nil) (.ex fun (yb_15:(Nat×Bool))=>ao (.bT (qN a0 x12 (.inr yb_15)))<|.or (.ex fun (ya_18:Unit)=>ao (.bT (qO a0 (.inl ya_18)))<|.nil) (.ex fun (yb_18:(Nat×Bool))=>ao (.bT (qO a0 (.inr yb_18)))<|bt<|xI fun r20=>.ex fun (x22:(Int×Nat×Bool))=>ao (.bT (wm a0 x22))<|oN (.or (.ex fun (ya_26:Unit)=>ao (.bT (iv a0 (.inl ya_26)))<|.nil) (.or (.ex fun (yb_26:Unit)=>ao (.bT (iv a0 (.inr (.inl yb_26))))<|.nil) (.or (.ex fun (yc_26:Unit)=>ao (.bT (iv a0 (.inr (.inr (.inl yc_26)))))<|.nil) (.or (.ex fun (yd_26:Int)=>ao (.bT (iv a0 (.inr (.inr (.inr (.inl yd_26))))))<|.nil) (.ex fun (ye_26:(Nat×Bool))=>ao (.bT (iv a0 (.inr (.inr (.inr (.inr ye_26))))))<|dG<|ao (.i (a0.Funcs.length:Int))<|bt<|xI fun r28=>.nil))))))))))) fun L=>et<|aU h (DN a0.ah) fun r1 h=>bz h (fun h3 h=>ai h3<|L h) (fun h3 h=>ai h3<|aU h (B4 a0) fun x4 h=>bz h (fun h6 h=>ai h6<|L h) (fun h6 h=>ai h6<|dA h (ei (Cu a0) 0) (fun ya_8 h=>L h) (fun yb_8 h=>ai tt<|ai (rfl:([]:List AV)=([]:List Label).map az)<|IB<|aQ h fun h10 h=>ai ((jF az (n:=2) (fun _=>rfl) a0.Ins):(a0.Ins.map az).all (fun e=>e.nc==2)=true)<|ai ((nr h10 (by decide)):((([]:List Label).map az).length+(a0.Ins.map az).length)*48≤140737488355328)<|ai ((nu h10):(([]:List Label).map az).length+(a0.Ins.map az).length≤maxLen)<|ai (dc.symm:([]:List Label).map az++a0.Ins.map az=(([]:List Label)++a0.Ins).map az)<|IB<|aQ h fun h11 h=>ai ((jF az (n:=2) (fun _=>rfl) a0.Outs):(a0.Outs.map az).all (fun e=>e.nc==2)=true)<|ai ((nr h11 (by decide)):(((([]:List Label)++a0.Ins).map az).length+(a0.Outs.map az).length)*48≤140737488355328)<|ai ((nu h11):((([]:List Label)++a0.Ins).map az).length+(a0.Outs.map az).length≤maxLen)<|ai (dc.symm:(([]:List Label)++a0.Ins).map az++a0.Outs.map az=((([]:List Label)++a0.Ins)++a0.Outs).map az)<|aU h (ei (fun v=>Cv a0 v.1 v.2) (((([]:List Label)++a0.Ins)++a0.Outs),0)) fun x12 h=>dA h (ei (Cw a0 x12) 0) (fun ya_15 h=>L h) (fun yb_15 h=>dA h (ei (Cy a0) 0) (fun ya_18 h=>L h) (fun yb_18 h=>ai (rfl:Z0)<|aU h (yD a0.Main 1) fun r20 h=>aU h (ei (fun v=>Cz a0 v.1 v.2) (r20,0)) fun x22 h=>bL h (fun h24 h=>ai (av h24)<|L h) (fun h24 h=>ai (aw h24)<|VD h (ei (CD a0) 0) (fun ya_26 h=>L h) (fun yb_26 h=>L h) (fun yc_26 h=>L h) (fun yd_26 h=>L h) (fun ye_26 h=>uT<|ai (aC ct a0.Funcs)<|ai (rfl:Z0)<|aU h (wY a0 (a0.Funcs.length:Int) a0.Main) fun r28 h=>L h)))))))
end
end
end Go.Proofs.YtkkkkondjclcnaaGreat.A
