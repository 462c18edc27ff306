/- Functions of the program as plain functions, by program. -/
import Derived.Test.YtndeklbmglgonaaGreatTypes
import Derived.Test.YtndeklbmglgonaaGreatLift
import Derived.Test.YtndeklbmglgonaaGreatA
set_option maxRecDepth 100000
set_option linter.unusedSectionVars false
set_option linter.unusedVariables false
set_option linter.unusedSimpArgs false
set_option linter.constructorNameAsVariable false
namespace Go.Proofs.YtndeklbmglgonaaGreat.A
open Go
noncomputable section
variable [Lp]
section
variable (a0:Int)(a1:Int)(a2:Int)
abbrev Hm(a0:Int)(a1:Int)(a2:Int)(r:Bool):bh×HP:=(.ret (.b r),H0)
def b8:Option Bool:=
 if a1≤a0 then
  some (decide (a0≤a2))
 else
  some false
theorem bW(r:Bool)(h:b8 a0 a1 a2=some r):call G Ω0 E0 14 [(I a0),(I a1),(I a2)] H0=some (Hm a0 a1 a2 r):=
 aO G14 (.or (jt<|.nil) (FI<|.nil)) fun L=>bB h (fun h1 h=>FE (decide_eq_true h1)<|L h) (fun h1 h=>FE (decide_eq_false h1)<|L h)
end
section
variable (a0:an)(a1:Int)
abbrev Hn(a0:an)(a1:Int)(r:Bool):bh×HP:=(.ret (.b r),H0)
def iK:Option Bool:=
 if IntKind.i64.wrap (a0.Many - 1)=a0.Many - 1 then
  (b8 a1 0 (a0.Many - 1)).bind fun (r2:Bool)=>
  some r2
 else none
theorem kJ(r:Bool)(h:iK a0 a1=some r):call G Ω0 E0 34 [(.a [(I a0.Many),(.l 115 (a0.Grants.map aF))]),(I a1)] H0=some (Hn a0 a1 r):=
 aO G34 (bt<|ao (.i (a0.Many - 1))<|xB fun r2=>.nil) fun L=>pC<|aA h fun w1 h=>ai w1<|aB h (bW a1 0 (a0.Many - 1)) fun r2 h=>L h
def dN(v0_3:Nat):Option (Nat⊕(Unit⊕(Nat×Bool))):=
 if (v0_3:Int)<(a0.Grants.length:Int) then
  (a0.Grants[v0_3]?).bind fun (y6:il)=>
  (iK a0 y6.Who).bind fun (r8:Bool)=>
  if r8=true then
   (iK a0 y6.For).bind fun (r11:Bool)=>
   if r11=true then
    if IntKind.i64.wrap ((v0_3:Int)+1)=((v0_3+1:Nat):Int) then
     some (.inl (v0_3+1))
    else none
   else
    some (.inr (.inl ()))
  else
   some (.inr (.inl ()))
 else
  some (.inr (.inr (v0_3,decide ((v0_3:Int)<(a0.Grants.length:Int)))))
abbrev zK(v:Nat):St:=⟨[(1,(.p ⟨0,1⟩ 0)),(3,(I (v:Int)))],[(1,[(I a0.Many),(.l 115 (a0.Grants.map aF))])],H0⟩
abbrev zL(x:(Unit⊕(Nat×Bool))):aJ×St:=match x with | .inl ()=>(.ret,⟨[(2,(I 5))],[],H0⟩) | .inr (z1,z2)=>((.ex 0),⟨[(1,(.p ⟨0,1⟩ 0)),(3,(I (z1:Int))),(16,(.b z2))],[(1,[(I a0.Many),(.l 115 (a0.Grants.map aF))])],H0⟩)
theorem yg(v0_3:Nat)(o:Nat⊕(Unit⊕(Nat×Bool)))(h:dN a0 v0_3=some o):bu E0 LJ (zK a0) (zL a0) v0_3 o:=
 bD (bt<|ao (.i (a0.Grants.length:Int))<|.or (cR<|ao (.n v0_3)<|.ex fun (y6:il)=>ao (.v (.a [(I y6.Who),(I y6.For)]))<|xB fun r8=>.or (AI<|ao (.n v0_3)<|ao (.v (.a [(I y6.Who),(I y6.For)]))<|cR<|xB fun r11=>fF<|.or (bf<|ao (.i ((v0_3+1:Nat):Int))<|.nil) (bt<|.nil)) (Qm<|.nil)) (bf<|.nil)) fun L=>ai (rfl:Z0)<|ai (ax aF a0.Grants)<|bB h (fun h5 h=>ai (decide_eq_true h5)<|ai tt<|ai (rfl:Z0)<|ai tt<|ai tt<|ai (rfl:Z0)<|ai tt<|ai tt<|ai (rI v0_3)<|ba h fun y6 h7 h=>ai (ay aF h7)<|gG<|aB h (kJ a0 y6.Who) fun r8 h=>gG<|aM h (fun h10 h=>ai (g0 (congrArg not h10))<|ai (rfl:Z0)<|ai tt<|ai (g0 (congrArg not h10))<|ai tt<|ai (g0 (congrArg not h10))<|ai (rfl:Z0)<|ai tt<|ai (g0 (congrArg not h10))<|ai tt<|ai (g0 (congrArg not h10))<|ai (rI v0_3)<|ai (ay aF h7)<|ai tt<|ai (g0 (congrArg not h10))<|ai tt<|ai (g0 (congrArg not h10))<|ai tt<|ai (g0 (congrArg not h10))<|aB h (kJ a0 y6.For) fun r11 h=>nX (congrArg not h10)<|aM h (fun h13 h=>ai (congrArg not h13)<|aA h fun w14 h=>ai w14<|L h) (fun h13 h=>ai (congrArg not h13)<|L h)) (fun h10 h=>ai (g0 (congrArg not h10))<|ai (g0 (congrArg not h10))<|ai (g0 (congrArg not h10))<|ai (g0 (congrArg not h10))<|ai (g0 (congrArg not h10))<|ai (g0 (congrArg not h10))<|ai (g0 (congrArg not h10))<|ai (g0 (congrArg not h10))<|ai (g0 (congrArg not h10))<|ai (congrArg not h10)<|ai tt<|L h)) (fun h5 h=>ai (decide_eq_false h5)<|L h)
abbrev CC(a0:an)(r:Int):bh×HP:=(.ret (I r),H0)
def l5:Option Int:=
 (b8 a0.Many 1 6).bind fun (r1:Bool)=>
 if r1=true then
  if 20<(a0.Grants.length:Int) then
   some 2
  else
   (lp (fun v=>dN a0 v) 0).bind fun (x5:(Unit⊕(Nat×Bool)))=>match x5 with
   | .inl ya_6=>
    some 5
   | .inr yb_6=>
    some 0
 else
  some 3
theorem yh(r:Int)(h:l5 a0=some r):call G Ω0 E0 33 [(.a [(I a0.Many),(.l 115 (a0.Grants.map aF))])] H0=some (CC a0 r):=
 aO G33 (bt<|xB fun r1=>.or (rT<|ao (.i (a0.Grants.length:Int))<|oN (.or (.ex fun (ya_6:Unit)=>ao (.lp .ret ⟨[(2,(I 5))],[],H0⟩)<|.nil) (.ex fun (yb_6:(Nat×Bool))=>ao (.lp (.ex 0) ⟨[(1,(.p ⟨0,1⟩ 0)),(3,(I (yb_6.1:Int))),(16,(.b yb_6.2))],[(1,[(I a0.Many),(.l 115 (a0.Grants.map aF))])],H0⟩)<|.nil))) (bt<|.nil)) fun L=>pC<|aB h (bW a0.Many 1 6) fun r1 h=>aM h (fun h3 h=>jr (congrArg not h3)<|ai (ax aF a0.Grants)<|bB h (fun h4 h=>ai (decide_eq_true h4)<|L h) (fun h4 h=>ai (decide_eq_false h4)<|bO h (cV (yg a0) 0) (fun ya_6 h=>L h) (fun yb_6 h=>L h))) (fun h3 h=>ai (congrArg not h3)<|L h)
end
section
variable (a0:an)(a1:(List b9))
def dP(v0_5:Nat)(v1_6:Nat):Option (Nat⊕(Unit⊕(Nat×Bool))):=
 (a1[v0_5]?).bind fun (y9:b9)=>
 if (v1_6:Int)<(y9.Names.length:Int) then
  (y9.Names[v1_6]?).bind fun (y12:Int)=>
  (iK a0 y12).bind fun (r14:Bool)=>
  if r14=true then
   if IntKind.i64.wrap ((v1_6:Int)+1)=((v1_6+1:Nat):Int) then
    some (.inl (v1_6+1))
   else none
  else
   some (.inr (.inl ()))
 else
  some (.inr (.inr (v1_6,decide ((v1_6:Int)<(y9.Names.length:Int)))))
abbrev wP(v0_5:Nat)(v:Nat):St:=⟨[(1,(.l 134 (a1.map aY))),(2,(.p ⟨0,2⟩ 0)),(5,(I (v0_5:Int))),(6,(I (v:Int)))],[(2,[(I a0.Many),(.l 115 (a0.Grants.map aF))])],H0⟩
abbrev wQ(v0_5:Nat)(x:(Unit⊕(Nat×Bool))):aJ×St:=match x with | .inl ()=>(.ret,⟨[(4,(I 5))],[],H0⟩) | .inr (z1,z2)=>((.ex 2),⟨[(1,(.l 134 (a1.map aY))),(2,(.p ⟨0,2⟩ 0)),(5,(I (v0_5:Int))),(6,(I (z1:Int))),(39,(.b z2))],[(2,[(I a0.Many),(.l 115 (a0.Grants.map aF))])],H0⟩)
theorem vU(v0_5:Nat)(v1_6:Nat)(o:Nat⊕(Unit⊕(Nat×Bool)))(h:dP a0 a1 v0_5 v1_6=some o):bu E0 L4 (wP a0 a1 v0_5) (wQ a0 a1 v0_5) v1_6 o:=
 bD (ao (.n v0_5)<|.ex fun (y9:b9)=>ao (.v (.a [(I y9.Owner),(.l 3 (y9.Names.map (I)))]))<|ao (.i (y9.Names.length:Int))<|.or (b5<|ao (.n v0_5)<|ao (.v (.a [(I y9.Owner),(.l 3 (y9.Names.map (I)))]))<|ao (.n v1_6)<|xI fun y12=>xB fun r14=>.or (bf<|ao (.i ((v1_6+1:Nat):Int))<|.nil) (bt<|.nil)) (bf<|.nil)) fun L=>ai (rI v0_5)<|ba h fun y9 h10 h=>ai (ay aY h10)<|ai (ax (I) y9.Names)<|bB h (fun h11 h=>ai (decide_eq_true h11)<|ai tt<|ai (rfl:Z0)<|ai tt<|ai tt<|ai tt<|ai (rI v0_5)<|ai (ay aY h10)<|pD<|ai (rI v1_6)<|ba h fun y12 h13 h=>ai (ay (I) h13)<|cD<|aB h (kJ a0 y12) fun r14 h=>aM h (fun h16 h=>ai (congrArg not h16)<|aA h fun w17 h=>ai w17<|L h) (fun h16 h=>ai (congrArg not h16)<|L h)) (fun h11 h=>ai (decide_eq_false h11)<|L h)
def dt(a0:an)(a1:(List b9))(v0_5:Nat)(v2_7:Nat):Option (Nat⊕(Unit⊕(Nat×Bool))):=
 (a1[v0_5]?).bind fun (y12:b9)=>
 if (v2_7:Int)<(y12.Names.length:Int) then
  (y12.Names[v2_7]?).bind fun (y15:Int)=>
  if IntKind.i64.wrap ((v2_7:Int) - 1)=(v2_7:Int) - 1 then
   (dU ((v2_7:Int) - 1)).bind fun (j18:Nat)=>
   (y12.Names[j18]?).bind fun (y20:Int)=>
   if y15≤y20 then
    some (.inr (.inl ()))
   else
    if IntKind.i64.wrap ((v2_7:Int)+1)=((v2_7+1:Nat):Int) then
     some (.inl (v2_7+1))
    else none
  else none
 else
  some (.inr (.inr (v2_7,decide ((v2_7:Int)<(y12.Names.length:Int)))))
abbrev wR(v0_5:Nat)(v:Nat):St:=⟨[(1,(.l 134 (a1.map aY))),(2,(.p ⟨0,2⟩ 0)),(5,(I (v0_5:Int))),(7,(I (v:Int)))],[(2,[(I a0.Many),(.l 115 (a0.Grants.map aF))])],H0⟩
abbrev wS(v0_5:Nat)(x:(Unit⊕(Nat×Bool))):aJ×St:=match x with | .inl ()=>(.ret,⟨[(4,(I 4))],[],H0⟩) | .inr (z1,z2)=>((.ex 4),⟨[(1,(.l 134 (a1.map aY))),(2,(.p ⟨0,2⟩ 0)),(5,(I (v0_5:Int))),(7,(I (z1:Int))),(60,(.b z2))],[(2,[(I a0.Many),(.l 115 (a0.Grants.map aF))])],H0⟩)
theorem vV(v0_5:Nat)(v2_7:Nat)(o:Nat⊕(Unit⊕(Nat×Bool)))(h:dt a0 a1 v0_5 v2_7=some o):bu E0 L5 (wR a0 a1 v0_5) (wS a0 a1 v0_5) v2_7 o:=
 bD (ao (.n v0_5)<|.ex fun (y12:b9)=>ao (.v (.a [(I y12.Owner),(.l 3 (y12.Names.map (I)))]))<|ao (.i (y12.Names.length:Int))<|.or (bt<|ao (.n v0_5)<|ao (.v (.a [(I y12.Owner),(.l 3 (y12.Names.map (I)))]))<|ao (.n v2_7)<|xI fun y15=>ao (.n v0_5)<|ao (.v (.a [(I y12.Owner),(.l 3 (y12.Names.map (I)))]))<|ao (.i ((v2_7:Int) - 1))<|xN fun j18=>xI fun y20=>oN (ao (.i ((v2_7+1:Nat):Int))<|.nil)) (bf<|.nil)) fun L=>ai (rI v0_5)<|ba h fun y12 h13 h=>ai (ay aY h13)<|ai (ax (I) y12.Names)<|bB h (fun h14 h=>FD (decide_eq_true h14)<|ai (rI v0_5)<|ai (ay aY h13)<|pD<|ai (rI v2_7)<|ba h fun y15 h16 h=>ai (ay (I) h16)<|pD<|ai (rI v0_5)<|ai (ay aY h13)<|pD<|aA h fun w17 h=>ai w17<|ai tt<|fG h fun j18 h19 h=>ai h19<|ba h fun y20 h21 h=>ai (ay (I) h21)<|cD<|bB h (fun h22 h=>ai (decide_eq_true h22)<|L h) (fun h22 h=>ai (decide_eq_false h22)<|aA h fun w23 h=>ai w23<|L h)) (fun h14 h=>ai (decide_eq_false h14)<|L h)
def cE(v0_5:Nat):Option (Nat⊕(Unit⊕(Unit⊕(Unit⊕(Nat×Bool))))):=
 if (v0_5:Int)<(a1.length:Int) then
  (a1[v0_5]?).bind fun (y3:b9)=>
  (iK a0 y3.Owner).bind fun (r5:Bool)=>
  if r5=true then
   if 6<(y3.Names.length:Int) then
    some (.inr (.inl ()))
   else
    (lp (fun v=>dP a0 a1 v0_5 v) 0).bind fun (x9:(Unit⊕(Nat×Bool)))=>match x9 with
    | .inl ya_10=>
     some (.inr (.inr (.inl ())))
    | .inr yb_10=>
     (lp (fun v=>dt a0 a1 v0_5 v) 1).bind fun (x12:(Unit⊕(Nat×Bool)))=>match x12 with
     | .inl ya_13=>
      some (.inr (.inr (.inr (.inl ()))))
     | .inr yb_13=>
      if IntKind.i64.wrap ((v0_5:Int)+1)=((v0_5+1:Nat):Int) then
       some (.inl (v0_5+1))
      else none
  else
   some (.inr (.inr (.inl ())))
 else
  some (.inr (.inr (.inr (.inr (v0_5,decide ((v0_5:Int)<(a1.length:Int)))))))
abbrev wT(v:Nat):St:=⟨[(1,(.l 134 (a1.map aY))),(2,(.p ⟨0,2⟩ 0)),(5,(I (v:Int)))],[(2,[(I a0.Many),(.l 115 (a0.Grants.map aF))])],H0⟩
abbrev wU(x:(Unit⊕(Unit⊕(Unit⊕(Nat×Bool))))):aJ×St:=match x with | .inl ()=>(.ret,⟨[(4,(I 2))],[],H0⟩) | .inr (.inl ())=>(.ret,⟨[(4,(I 5))],[],H0⟩) | .inr (.inr (.inl ()))=>(.ret,⟨[(4,(I 4))],[],H0⟩) | .inr (.inr (.inr (z1,z2)))=>((.ex 0),⟨[(1,(.l 134 (a1.map aY))),(2,(.p ⟨0,2⟩ 0)),(5,(I (z1:Int))),(14,(.b z2))],[(2,[(I a0.Many),(.l 115 (a0.Grants.map aF))])],H0⟩)
theorem vW(v0_5:Nat)(o:Nat⊕(Unit⊕(Unit⊕(Unit⊕(Nat×Bool)))))(h:cE a0 a1 v0_5=some o):bu E0 L6 (wT a0 a1) (wU a0 a1) v0_5 o:=
 bD (ao (.i (a1.length:Int))<|.or (b5<|ao (.n v0_5)<|.ex fun (y3:b9)=>ao (.v (.a [(I y3.Owner),(.l 3 (y3.Names.map (I)))]))<|xB fun r5=>.or (bf<|ao (.n v0_5)<|ao (.v (.a [(I y3.Owner),(.l 3 (y3.Names.map (I)))]))<|ao (.i (y3.Names.length:Int))<|oN (.or (.ex fun (ya_10:Unit)=>ao (.lp .ret ⟨[(4,(I 5))],[],H0⟩)<|.nil) (.ex fun (yb_10:(Nat×Bool))=>ao (.lp (.ex 2) ⟨[(1,(.l 134 (a1.map aY))),(2,(.p ⟨0,2⟩ 0)),(5,(I (v0_5:Int))),(6,(I (yb_10.1:Int))),(39,(.b yb_10.2))],[(2,[(I a0.Many),(.l 115 (a0.Grants.map aF))])],H0⟩)<|.or (.ex fun (ya_13:Unit)=>ao (.lp .ret ⟨[(4,(I 4))],[],H0⟩)<|.nil) (.ex fun (yb_13:(Nat×Bool))=>ao (.lp (.ex 4) ⟨[(1,(.l 134 (a1.map aY))),(2,(.p ⟨0,2⟩ 0)),(5,(I (v0_5:Int))),(7,(I (yb_13.1:Int))),(60,(.b yb_13.2))],[(2,[(I a0.Many),(.l 115 (a0.Grants.map aF))])],H0⟩)<|ao (.i ((v0_5+1:Nat):Int))<|.nil)))) (bt<|.nil)) (bf<|.nil)) fun L=>ai (ax aY a1)<|bB h (fun h2 h=>ai (decide_eq_true h2)<|ai tt<|ai (rfl:Z0)<|ai tt<|ai tt<|ai tt<|ai (rI v0_5)<|ba h fun y3 h4 h=>ai (ay aY h4)<|gG<|aB h (kJ a0 y3.Owner) fun r5 h=>aM h (fun h7 h=>ai (congrArg not h7)<|ai (rI v0_5)<|ai (ay aY h4)<|ai (ax (I) y3.Names)<|bB h (fun h8 h=>ai (decide_eq_true h8)<|L h) (fun h8 h=>ai (decide_eq_false h8)<|bO h (cV (vU a0 a1 v0_5) 0) (fun ya_10 h=>L h) (fun yb_10 h=>bO h (cV (vV a0 a1 v0_5) 1) (fun ya_13 h=>L h) (fun yb_13 h=>aA h fun w15 h=>ai w15<|L h)))) (fun h7 h=>ai (congrArg not h7)<|L h)) (fun h2 h=>ai (decide_eq_false h2)<|L h)
abbrev zM(a0:an)(a1:(List b9))(r:Int):bh×HP:=(.ret (I r),H0)
def hY:Option Int:=
 if 4<(a1.length:Int) then
  some 2
 else
  (lp (fun v=>cE a0 a1 v) 0).bind fun (x2:(Unit⊕(Unit⊕(Unit⊕(Nat×Bool)))))=>match x2 with
  | .inl ya_3=>
   some 2
  | .inr (.inl yb_3)=>
   some 5
  | .inr (.inr (.inl yc_3))=>
   some 4
  | .inr (.inr (.inr yd_3))=>
   some 0
theorem pN(r:Int)(h:hY a0 a1=some r):call G Ω0 E0 60 [(.a [(I a0.Many),(.l 115 (a0.Grants.map aF))]),(.l 134 (a1.map aY))] H0=some (zM a0 a1 r):=
 aO G60 (ao (.i (a1.length:Int))<|oN (.or (.ex fun (ya_3:Unit)=>ao (.lp .ret ⟨[(4,(I 2))],[],H0⟩)<|.nil) (.or (.ex fun (yb_3:Unit)=>ao (.lp .ret ⟨[(4,(I 5))],[],H0⟩)<|.nil) (.or (.ex fun (yc_3:Unit)=>ao (.lp .ret ⟨[(4,(I 4))],[],H0⟩)<|.nil) (.ex fun (yd_3:(Nat×Bool))=>ao (.lp (.ex 0) ⟨[(1,(.l 134 (a1.map aY))),(2,(.p ⟨0,2⟩ 0)),(5,(I (yd_3.1:Int))),(14,(.b yd_3.2))],[(2,[(I a0.Many),(.l 115 (a0.Grants.map aF))])],H0⟩)<|.nil))))) fun L=>ai tt<|ai (ax aY a1)<|bB h (fun h1 h=>ai (decide_eq_true h1)<|L h) (fun h1 h=>ai (decide_eq_false h1)<|BZ h (cV (vW a0 a1) 0) (fun ya_3 h=>L h) (fun yb_3 h=>L h) (fun yc_3 h=>L h) (fun yd_3 h=>L h))
end
section
variable (a0:an)(a1:Label)
abbrev DS(a0:an)(a1:Label)(r:Int):bh×HP:=(.ret (I r),H0)
def nC:Option Int:=
 (hY a0 a1.Read).bind fun (r1:Int)=>
 if (r1==0)=true then
  (hY a0 a1.Write).bind fun (r4:Int)=>
  some r4
 else
  some r1
theorem zN(r:Int)(h:nC a0 a1=some r):call G Ω0 E0 35 [(.a [(I a0.Many),(.l 115 (a0.Grants.map aF))]),(.a [(.l 134 (a1.Read.map aY)),(.l 134 (a1.Write.map aY))])] H0=some (DS a0 a1 r):=
 aO G35 (b5<|xI fun r1=>.or (cR<|xI fun r4=>.nil) (bf<|.nil)) fun L=>ai tt<|ai tt<|ai (rfl:Z0)<|ai (rfl:Z0)<|aB h (pN a0 a1.Read) fun r1 h=>aM h (fun h3 h=>Dr h3<|aB h (pN a0 a1.Write) fun r4 h=>L h) (fun h3 h=>ai h3<|L h)
end
section
variable (a0:(List Stmt))(a1:Int)
abbrev E1(a0:(List Stmt))(a1:Int)(r:Int):bh×HP:=(.ret (I r),H0)
abbrev rM(r:Int):Prop:=call G Ω0 E0 36 [(.l 65 (a0.map au)),(I a1)] H0=some (E1 a0 a1 r)
end
structure rO where
 f_R_ManyStmts:(List Stmt)→Int→Option Int
structure nD(R:rO):Prop where
 f_R_ManyStmts:∀ (a0:(List Stmt))(a1:Int)(r:Int),R.f_R_ManyStmts a0 a1=some r→rM a0 a1 r
section
variable (R:rO)(a0:(List Stmt))(a1:Int)
def l6(v0_5:Int)(v0_6:Nat):Option ((Int×Nat)⊕(Bool×Int×Nat)):=
 if (v0_6:Int)<(a0.length:Int) then
  if v0_5≤50 then
   (a0[v0_6]?).bind fun (y5:Stmt)=>
   if IntKind.i64.wrap (a1+1)=a1+1 then
    (R.f_R_ManyStmts y5.Then (a1+1)).bind fun (r8:Int)=>
    if IntKind.i64.wrap (1+r8)=1+r8 then
     (R.f_R_ManyStmts y5.Else (a1+1)).bind fun (r11:Int)=>
     if IntKind.i64.wrap ((1+r8)+r11)=(1+r8)+r11 then
      if IntKind.i64.wrap (v0_5+((1+r8)+r11))=v0_5+((1+r8)+r11) then
       if IntKind.i64.wrap ((v0_6:Int)+1)=((v0_6+1:Nat):Int) then
        some (.inl (v0_5+((1+r8)+r11),v0_6+1))
       else none
      else none
     else none
    else none
   else none
  else
   some (.inr (decide (v0_5≤50),v0_5,v0_6))
 else
  some (.inr (false,v0_5,v0_6))
abbrev CD(v:(Int×Nat)):St:=⟨[(0,(.l 65 (a0.map au))),(1,(I a1)),(5,(I v.1)),(6,(I (v.2:Int)))],[],H0⟩
abbrev CE(x:(Bool×Int×Nat)):aJ×St:=((.ex 0),⟨[(0,(.l 65 (a0.map au))),(1,(I a1)),(5,(I x.2.1)),(6,(I (x.2.2:Int))),(21,(.b x.1))],[],H0⟩)
theorem Bc(hR:nD R)(a0:(List Stmt))(a1:Int)(v0_5:Int)(v0_6:Nat)(o:(Int×Nat)⊕(Bool×Int×Nat))(h:l6 R a0 a1 v0_5 v0_6=some o):bu E0 LK (CD a0 a1) (CE a0 a1) (v0_5,v0_6) o:=
 bD (ao (.i (a0.length:Int))<|.or (cR<|.or (bt<|ao (.n v0_6)<|.ex fun (y5:Stmt)=>ao (.v (.a (af y5)))<|ao (.i (a1+1))<|xI fun r8=>ao (.i (1+r8))<|ao (.n v0_6)<|ao (.v (.a (af y5)))<|ao (.i (a1+1))<|xI fun r11=>ao (.i ((1+r8)+r11))<|ao (.i (v0_5+((1+r8)+r11)))<|ao (.i ((v0_6+1:Nat):Int))<|.nil) (bf<|.nil)) (FI<|.nil)) fun L=>ai (ax au a0)<|bB h (fun h3 h=>kl (decide_eq_true h3)<|bB h (fun h4 h=>Ds (decide_eq_true h4)<|ai (rI v0_6)<|ba h fun y5 h6 h=>ai (cF au h6 (ea _))<|pD<|aA h fun w7 h=>ai w7<|ai tt<|aB h (hR.f_R_ManyStmts y5.Then (a1+1)) fun r8 h=>ai tt<|aA h fun w10 h=>ai w10<|gG<|ai (rI v0_6)<|ai (cF au h6 (ea _))<|pD<|ai w7<|ai tt<|aB h (hR.f_R_ManyStmts y5.Else (a1+1)) fun r11 h=>ai tt<|aA h fun w13 h=>ai w13<|ai tt<|aA h fun w14 h=>ai w14<|aA h fun w15 h=>ai w15<|L h) (fun h4 h=>ai (decide_eq_false h4)<|L h)) (fun h3 h=>ai (g1 (decide_eq_false h3))<|ai (g1 (decide_eq_false h3))<|ai (decide_eq_false h3)<|ai ff<|L h)
def ji:Option (Unit⊕Int):=
 (lp (fun v=>l6 R a0 a1 v.1 v.2) (0,0)).bind fun (x3:(Bool×Int×Nat))=>
 if 51<x3.2.1 then
  some (.inl ())
 else
  some (.inr x3.2.1)
abbrev Bd(a0:(List Stmt))(a1:Int)(x:(Unit⊕Int)):aJ×St:=match x with | .inl ()=>(.ret,⟨[(4,(I 51))],[],H0⟩) | .inr z1=>(.ret,⟨[(4,(I z1))],[],H0⟩)
theorem rV(hR:nD R)(a0:(List Stmt))(a1:Int)(x:(Unit⊕Int))(h:ji R a0 a1=some x):run G Ω0 E0 LL ⟨[(0,(.l 65 (a0.map au))),(1,(I a1))],[],H0⟩=some (Bd a0 a1 x):=
 ga (.ex fun (x3:(Bool×Int×Nat))=>ao (.lp (.ex 0) ⟨[(0,(.l 65 (a0.map au))),(1,(I a1)),(5,(I x3.2.1)),(6,(I (x3.2.2:Int))),(21,(.b x3.1))],[],H0⟩)<|oN (.nil)) fun L=>aB h (cV (fun v=>Bc R hR a0 a1 v.1 v.2) (0,0)) fun x3 h=>bB h (fun h5 h=>ai (decide_eq_true h5)<|L h) (fun h5 h=>ai (decide_eq_false h5)<|L h)
def nE:Option Int:=
 if 0<(a0.length:Int) then
  if 6<a1 then
   some 51
  else
   (ji R a0 a1).bind fun (x3:(Unit⊕Int))=>match x3 with
   | .inl ya_4=>
    some 51
   | .inr yb_4=>
    some yb_4
 else
  (ji R a0 a1).bind fun (x2:(Unit⊕Int))=>match x2 with
  | .inl ya_3=>
   some 51
  | .inr yb_3=>
   some yb_3
theorem zO(hR:nD R)(a0:(List Stmt))(a1:Int)(r:Int)(h:nE R a0 a1=some r):rM a0 a1 r:=
 aO G36 (ao (.i (a0.length:Int))<|.or (cR<|oN (.fb<|.or (.ex fun (ya_4:Unit)=>ao (.fr .ret ⟨[(4,(I 51))],[],H0⟩)<|.nil) (.ex fun (yb_4:Int)=>ao (.fr .ret ⟨[(4,(I yb_4))],[],H0⟩)<|.nil))) (FI<|.fb<|.or (.ex fun (ya_3:Unit)=>ao (.fr .ret ⟨[(4,(I 51))],[],H0⟩)<|.nil) (.ex fun (yb_3:Int)=>ao (.fr .ret ⟨[(4,(I yb_3))],[],H0⟩)<|.nil))) fun L=>ai (ax au a0)<|bB h (fun h1 h=>kl (decide_eq_true h1)<|bB h (fun h2 h=>ai (decide_eq_true h2)<|L h) (fun h2 h=>ai (decide_eq_false h2)<|bO h (rV R hR a0 a1) (fun ya_4 h=>L h) (fun yb_4 h=>L h))) (fun h1 h=>ai (g1 (decide_eq_false h1))<|ai (g1 (decide_eq_false h1))<|ai (decide_eq_false h1)<|ai ff<|bO h (rV R hR a0 a1) (fun ya_3 h=>L h) (fun yb_3 h=>L h))
def gP:Nat→rO
 | 0=>⟨fun z0 z1=>none⟩
 | n+1=>⟨nE (gP n)⟩
theorem u6:∀ n,nD (gP n)
 | 0=>⟨fun _ _ r h=>(by cases h)⟩
 | n+1=>⟨fun a0 a1 r h=>zO _ (u6 n) a0 a1 r h⟩
def oS:Option Int:=ev fun n=>(gP n).f_R_ManyStmts a0 a1
theorem s7(r:Int)(h:oS a0 a1=some r):rM a0 a1 r:=by
 obtain ⟨n,hn⟩:=iO h
 exact (u6 n).f_R_ManyStmts a0 a1 r hn
end
section
variable (a0:Int)
abbrev IV(a0:Int)(r:Bool):bh×HP:=(.ret (.b r),H0)
def pO:Option Bool:=
 (b8 a0 1 3).bind fun (r1:Bool)=>
 if r1=true then
  some true
 else
  if (a0==5)=true then
   some true
  else
   some (a0==6)
theorem wE(r:Bool)(h:pO a0=some r):call G Ω0 E0 61 [(I a0)] H0=some (IV a0 r):=
 aO G61 (xB fun r1=>.or (bf<|bf<|bt<|bf<|bf<|bt<|.nil) (xK<|.or (bf<|bf<|bt<|.nil) (xK<|.nil))) fun L=>aB h (bW a0 1 3) fun r1 h=>aM h (fun h3 h=>ai (g0 h3)<|ai (g0 h3)<|ai h3<|ai ht<|ai ht<|ai tt<|L h) (fun h3 h=>AH h3<|aM h (fun h4 h=>AH h4<|L h) (fun h4 h=>AH h4<|L h))
abbrev Ho(a0:Int)(r:Bool):bh×HP:=(.ret (.b r),H0)
def oF:Option Bool:=
 if (a0==1)=true then
  some true
 else
  (b8 a0 4 8).bind fun (r2:Bool)=>
  some r2
theorem u7(r:Bool)(h:oF a0=some r):call G Ω0 E0 62 [(I a0)] H0=some (Ho a0 r):=
 aO G62 (.or (bf<|bf<|bt<|.nil) (b5<|xB fun r2=>bf<|.nil)) fun L=>aM h (fun h1 h=>AH h1<|L h) (fun h1 h=>lJ h1<|aB h (bW a0 4 8) fun r2 h=>ai h1<|L h)
end
section
variable (a0:ag)(a1:Int)
abbrev E2(a0:ag)(a1:Int)(r:Int):bh×HP:=(.ret (I r),H0)
abbrev rP(r:Int):Prop:=call G Ω0 E0 63 [(.a (bn a0)),(I a1)] H0=some (E2 a0 a1 r)
end
structure rQ where
 f_R_exprParts:ag→Int→Option Int
structure qv(R:rQ):Prop where
 f_R_exprParts:∀ (a0:ag)(a1:Int)(r:Int),R.f_R_exprParts a0 a1=some r→rP a0 a1 r
section
variable (R:rQ)(a0:ag)(a1:Int)
def l7(v0_5:Int)(v0_6:Nat):Option ((Int×Nat)⊕(Bool×Int×Nat)):=
 if (v0_6:Int)<(a0.Args.length:Int) then
  if v0_5≤a1 then
   (a0.Args[v0_6]?).bind fun (y3:ag)=>
   if IntKind.i64.wrap (a1 - v0_5)=a1 - v0_5 then
    (R.f_R_exprParts y3 (a1 - v0_5)).bind fun (r6:Int)=>
    if IntKind.i64.wrap (v0_5+r6)=v0_5+r6 then
     if IntKind.i64.wrap ((v0_6:Int)+1)=((v0_6+1:Nat):Int) then
      some (.inl (v0_5+r6,v0_6+1))
     else none
    else none
   else none
  else
   some (.inr (decide (v0_5≤a1),v0_5,v0_6))
 else
  some (.inr (false,v0_5,v0_6))
abbrev CF(v:(Int×Nat)):St:=⟨[(1,(I a1)),(2,(.p ⟨0,2⟩ 0)),(5,(I v.1)),(6,(I (v.2:Int)))],[(2,(bn a0))],H0⟩
abbrev CG(x:(Bool×Int×Nat)):aJ×St:=((.ex 0),⟨[(1,(I a1)),(2,(.p ⟨0,2⟩ 0)),(5,(I x.2.1)),(6,(I (x.2.2:Int))),(16,(.b x.1))],[(2,(bn a0))],H0⟩)
theorem Be(hR:qv R)(a0:ag)(a1:Int)(v0_5:Int)(v0_6:Nat)(o:(Int×Nat)⊕(Bool×Int×Nat))(h:l7 R a0 a1 v0_5 v0_6=some o):bu E0 L7 (CF a0 a1) (CG a0 a1) (v0_5,v0_6) o:=
 bD (bt<|ao (.i (a0.Args.length:Int))<|.or (jt<|.or (b5<|ao (.n v0_6)<|.ex fun (y3:ag)=>ao (.v (.a (bn y3)))<|ao (.i (a1 - v0_5))<|xI fun r6=>ao (.i (v0_5+r6))<|ao (.i ((v0_6+1:Nat):Int))<|.nil) (bf<|.nil)) (Kz<|.nil)) fun L=>ai (rfl:Z0)<|ai (ax aD a0.Args)<|bB h (fun h1 h=>FE (decide_eq_true h1)<|bB h (fun h2 h=>jr (decide_eq_true h2)<|ai (rI v0_6)<|ba h fun y3 h4 h=>ai (cF aD h4 (dm _))<|aA h fun w5 h=>ai w5<|aB h (hR.f_R_exprParts y3 (a1 - v0_5)) fun r6 h=>aA h fun w8 h=>ai w8<|aA h fun w9 h=>ai w9<|L h) (fun h2 h=>ai (decide_eq_false h2)<|L h)) (fun h1 h=>ai (g1 (decide_eq_false h1))<|ai (g1 (decide_eq_false h1))<|ai (g1 (decide_eq_false h1))<|ai (decide_eq_false h1)<|ai ff<|L h)
def nF:Option Int:=
 (lp (fun v=>l7 R a0 a1 v.1 v.2) (1,0)).bind fun (x1:(Bool×Int×Nat))=>
 some x1.2.1
theorem zP(hR:qv R)(a0:ag)(a1:Int)(r:Int)(h:nF R a0 a1=some r):rP a0 a1 r:=
 aO G63 (.ex fun (x1:(Bool×Int×Nat))=>ao (.lp (.ex 0) ⟨[(1,(I a1)),(2,(.p ⟨0,2⟩ 0)),(5,(I x1.2.1)),(6,(I (x1.2.2:Int))),(16,(.b x1.1))],[(2,(bn a0))],H0⟩)<|.nil) fun L=>ai tt<|aB h (cV (fun v=>Be R hR a0 a1 v.1 v.2) (1,0)) fun x1 h=>L h
def jC:Nat→rQ
 | 0=>⟨fun z0 z1=>none⟩
 | n+1=>⟨nF (jC n)⟩
theorem u9:∀ n,qv (jC n)
 | 0=>⟨fun _ _ r h=>(by cases h)⟩
 | n+1=>⟨fun a0 a1 r h=>zP _ (u9 n) a0 a1 r h⟩
def rR:Option Int:=ev fun n=>(jC n).f_R_exprParts a0 a1
theorem Bf(r:Int)(h:rR a0 a1=some r):rP a0 a1 r:=by
 obtain ⟨n,hn⟩:=iO h
 exact (u9 n).f_R_exprParts a0 a1 r hn
abbrev Gd(a0:ag)(r:(List ag)):bh×HP:=(.ret (.l 63 (r.map aD)),H0)
abbrev s8(r:(List ag)):Prop:=call G Ω0 E0 64 [(.a (bn a0))] H0=some (Gd a0 r)
end
structure s9 where
 f_R_allParts:ag→Option (List ag)
structure rS(R:s9):Prop where
 f_R_allParts:∀ (a0:ag)(r:(List ag)),R.f_R_allParts a0=some r→s8 a0 r
section
variable (R:s9)(a0:ag)(a1:Int)
def nG(v0_3:(List ag))(v0_4:Nat):Option (((List ag)×Nat)⊕((List ag)×Nat×Bool)):=
 if (v0_4:Int)<(a0.Args.length:Int) then
  (a0.Args[v0_4]?).bind fun (y2:ag)=>
  (R.f_R_allParts y2).bind fun (r4:(List ag))=>
  if v0_3.length+r4.length≤1000000000 then
   if IntKind.i64.wrap ((v0_4:Int)+1)=((v0_4+1:Nat):Int) then
    some (.inl (v0_3++r4,v0_4+1))
   else none
  else none
 else
  some (.inr (v0_3,v0_4,decide ((v0_4:Int)<(a0.Args.length:Int))))
abbrev DT(v:((List ag)×Nat)):St:=⟨[(1,(.p ⟨0,1⟩ 0)),(3,(.o 63 (v.1.map aD))),(4,(I (v.2:Int)))],[(1,(bn a0))],H0⟩
abbrev DU(x:((List ag)×Nat×Bool)):aJ×St:=((.ex 0),⟨[(1,(.p ⟨0,1⟩ 0)),(3,(.o 63 (x.1.map aD))),(4,(I (x.2.1:Int))),(11,(.b x.2.2))],[(1,(bn a0))],H0⟩)
theorem CH(hR:rS R)(a0:ag)(v0_3:(List ag))(v0_4:Nat)(o:((List ag)×Nat)⊕((List ag)×Nat×Bool))(h:nG R a0 v0_3 v0_4=some o):bu E0 L8 (DT a0) (DU a0) (v0_3,v0_4) o:=
 bD (bt<|ao (.i (a0.Args.length:Int))<|.or (b5<|ao (.n v0_4)<|.ex fun (y2:ag)=>ao (.v (.a (bn y2)))<|.ex fun (r4:(List ag))=>ao (.v (.l 63 (r4.map aD)))<|ao (.l ((v0_3++r4).map aD))<|ao (.i ((v0_4+1:Nat):Int))<|.nil) (bf<|.nil)) fun L=>ai (rfl:Z0)<|ai (ax aD a0.Args)<|bB h (fun h1 h=>jr (decide_eq_true h1)<|ai (rI v0_4)<|ba h fun y2 h3 h=>ai (cF aD h3 (dm _))<|aB h (hR.f_R_allParts y2) fun r4 h=>ai ff<|aA h fun h6 h=>ai ((dR aD (n:=3) (fun a=>by rw [dm];rfl) r4):(r4.map aD).all (fun e=>e.nc==3)=true)<|ai ((fl h6 (by decide)):((v0_3.map aD).length+(r4.map aD).length)*40≤140737488355328)<|ai ((fm h6):(v0_3.map aD).length+(r4.map aD).length≤maxLen)<|ai (List.map_append.symm:v0_3.map aD++r4.map aD=(v0_3++r4).map aD)<|aA h fun w7 h=>ai w7<|L h) (fun h1 h=>ai (decide_eq_false h1)<|L h)
def oT:Option (List ag):=
 (lp (fun v=>nG R a0 v.1 v.2) ([a0],0)).bind fun (x1:((List ag)×Nat×Bool))=>
 some x1.1
theorem Bg(hR:rS R)(a0:ag)(r:(List ag))(h:oT R a0=some r):s8 a0 r:=
 aO G64 (bt<|ao (.l ([a0].map aD))<|.ex fun (x1:((List ag)×Nat×Bool))=>ao (.lp (.ex 0) ⟨[(1,(.p ⟨0,1⟩ 0)),(3,(.o 63 (x1.1.map aD))),(4,(I (x1.2.1:Int))),(11,(.b x1.2.2))],[(1,(bn a0))],H0⟩)<|.nil) fun L=>pC<|ai ((by simp only [List.map_cons,List.map_nil,dm]):[(.a (bn a0))]=[a0].map aD)<|aB h (cV (fun v=>CH R hR a0 v.1 v.2) ([a0],0)) fun x1 h=>L h
def kK:Nat→s9
 | 0=>⟨fun z0=>none⟩
 | n+1=>⟨oT (kK n)⟩
theorem wF:∀ n,rS (kK n)
 | 0=>⟨fun _ r h=>(by cases h)⟩
 | n+1=>⟨fun a0 r h=>Bg _ (wF n) a0 r h⟩
def tc:Option (List ag):=ev fun n=>(kK n).f_R_allParts a0
theorem CI(r:(List ag))(h:tc a0=some r):s8 a0 r:=by
 obtain ⟨n,hn⟩:=iO h
 exact (wF n).f_R_allParts a0 r hn
def Bh:List cK:=(gF 27 0 7)::(gQ 28 27)::(gB 29 .leq 28 (kI 2))::(gM 30 29)::⟨some 31,.fa 2 7,some ⟨30,true⟩,false⟩::⟨some 32,.ld none 31,some ⟨30,true⟩,false⟩::⟨some 33,.ln false 32,some ⟨30,true⟩,false⟩::⟨some 34,.bo .neq false 33 (kI 0),some ⟨30,true⟩,false⟩::(gp 35 (.pk 30 34 (.c (.b false))))::(gM 36 35)::⟨some 37,.fa 0 7,some ⟨36,false⟩,false⟩::⟨some 38,.ld none 37,some ⟨36,false⟩,false⟩::⟨some 39,.bo .gtr false 38 (kI 2),some ⟨36,false⟩,false⟩::⟨some 40,.mv 39,some ⟨36,false⟩,false⟩::⟨some 41,.fa 2 7,some ⟨40,true⟩,false⟩::⟨some 42,.ld none 41,some ⟨40,true⟩,false⟩::⟨some 43,.ln false 42,some ⟨40,true⟩,false⟩::⟨some 44,.bo .neq false 43 (kI 2),some ⟨40,true⟩,false⟩::⟨some 45,.pk 40 44 (.c (.b false)),some ⟨36,false⟩,false⟩::(gp 46 (.pk 36 (.c (.b true)) 45))::[]
def pa(a1:Int)(r4:(List ag))(v0_6:Nat)(y7:ag):Option Bool:=
 if y7.Kind≤2 then
  if ((y7.Args.length:Int) !=0)=true then
   some true
  else
   if 2<y7.Kind then
    some ((y7.Args.length:Int) !=2)
   else
    some false
 else
  if 2<y7.Kind then
   some ((y7.Args.length:Int) !=2)
  else
   some false
abbrev Bi(r4:(List ag))(v0_6:Nat)(y7:ag)(x:Bool):St:=⟨[(1,(I a1)),(5,(.l 63 (r4.map aD))),(6,(I (v0_6:Int))),(7,(.p ⟨0,7⟩ 0)),(46,(.b x))],[(7,(bn y7))],H0⟩
theorem zQ(r4:(List ag))(v0_6:Nat)(y7:ag)(x:Bool)(h:pa a1 r4 v0_6 y7=some x):ew G Ω0 E0 [1,5,6,7,46] [7] Bh ⟨[(1,(I a1)),(5,(.l 63 (r4.map aD))),(6,(I (v0_6:Int))),(7,(.p ⟨0,7⟩ 0))],[(7,(bn y7))],H0⟩=some (Bi a1 r4 v0_6 y7 x):=
 dj (bt<|.or (jt<|ao (.i (y7.Args.length:Int))<|b5<|.or (Dt<|.nil) (js<|.or (jt<|ao (.i (y7.Args.length:Int))<|wB<|.nil) (xJ<|.nil))) (Qn<|.or (jt<|ao (.i (y7.Args.length:Int))<|wB<|.nil) (xJ<|.nil))) fun L=>ai (rfl:Z0)<|bB h (fun h12 h=>Ap (decide_eq_true h12)<|ai (ax aD y7.Args)<|vz (decide_eq_true h12)<|aM h (fun h13 h=>Dq h13<|L h) (fun h13 h=>IH h13<|bB h (fun h14 h=>Ap (decide_eq_true h14)<|ai (ax aD y7.Args)<|ai (g1 (decide_eq_true h14))<|ai (g0 h13)<|ai (decide_eq_true h14)<|ai h13<|L h) (fun h14 h=>AG (decide_eq_false h14)<|ai (g0 h13)<|ai (decide_eq_false h14)<|ai h13<|L h))) (fun h12 h=>ai (g1 (decide_eq_false h12))<|ai (g1 (decide_eq_false h12))<|ai (g1 (decide_eq_false h12))<|ai (g1 (decide_eq_false h12))<|ai (decide_eq_false h12)<|ai hf<|ai hf<|ai (rfl:Z0)<|ai hf<|ai hf<|bB h (fun h13 h=>Ap (decide_eq_true h13)<|ai (ax aD y7.Args)<|ai (g1 (decide_eq_true h13))<|ai hf<|ai (decide_eq_true h13)<|ai ff<|L h) (fun h13 h=>ai (g1 (decide_eq_false h13))<|ai (g1 (decide_eq_false h13))<|ai (g1 (decide_eq_false h13))<|ai (g1 (decide_eq_false h13))<|ai hf<|ai (decide_eq_false h13)<|ai ff<|L h))
def Bj:List cK:=(gF 47 0 7)::(gQ 48 47)::(gB 49 .eql 48 (kI 1))::(gM 50 49)::⟨some 51,.fa 1 7,some ⟨50,true⟩,false⟩::⟨some 52,.ld none 51,some ⟨50,true⟩,false⟩::⟨some 53,.ca 0 14 [52,(kI (-9999999)),(kI 9999999)],some ⟨50,true⟩,false⟩::⟨some 54,.no 53,some ⟨50,true⟩,false⟩::(gp 55 (.pk 50 54 (.c (.b false))))::(gM 56 55)::⟨some 57,.fa 0 7,some ⟨56,false⟩,false⟩::⟨some 58,.ld none 57,some ⟨56,false⟩,false⟩::⟨some 59,.bo .gtr false 58 (kI 2),some ⟨56,false⟩,false⟩::⟨some 60,.mv 59,some ⟨56,false⟩,false⟩::⟨some 61,.fa 1 7,some ⟨60,true⟩,false⟩::⟨some 62,.ld none 61,some ⟨60,true⟩,false⟩::⟨some 63,.bo .neq false 62 (kI 0),some ⟨60,true⟩,false⟩::⟨some 64,.pk 60 63 (.c (.b false)),some ⟨56,false⟩,false⟩::(gp 65 (.pk 56 (.c (.b true)) 64))::[]
def pb(a1:Int)(r4:(List ag))(v0_6:Nat)(y7:ag):Option Bool:=
 if (y7.Kind==1)=true then
  (b8 y7.N (-9999999) 9999999).bind fun (r16:Bool)=>
  if r16=true then
   if 2<y7.Kind then
    some (y7.N !=0)
   else
    some false
  else
   some true
 else
  if 2<y7.Kind then
   some (y7.N !=0)
  else
   some false
abbrev Bk(r4:(List ag))(v0_6:Nat)(y7:ag)(x:Bool):St:=⟨[(1,(I a1)),(5,(.l 63 (r4.map aD))),(6,(I (v0_6:Int))),(7,(.p ⟨0,7⟩ 0)),(65,(.b x))],[(7,(bn y7))],H0⟩
theorem zR(r4:(List ag))(v0_6:Nat)(y7:ag)(x:Bool)(h:pb a1 r4 v0_6 y7=some x):ew G Ω0 E0 [1,5,6,7,65] [7] Bj ⟨[(1,(I a1)),(5,(.l 63 (r4.map aD))),(6,(I (v0_6:Int))),(7,(.p ⟨0,7⟩ 0))],[(7,(bn y7))],H0⟩=some (Bk a1 r4 v0_6 y7 x):=
 dj (bt<|.or (jt<|xB fun r16=>b5<|.or (js<|.or (B3<|.nil) (Aq<|.nil)) (Dt<|.nil)) (Qn<|.or (B3<|.nil) (Aq<|.nil))) fun L=>ai (rfl:Z0)<|aM h (fun h15 h=>Ap h15<|aB h (bW y7.N (-9999999) 9999999) fun r16 h=>vz h15<|aM h (fun h18 h=>IH (congrArg not h18)<|bB h (fun h19 h=>Ap (decide_eq_true h19)<|ai (g0 (congrArg not h18))<|ai (decide_eq_true h19)<|ai (congrArg not h18)<|L h) (fun h19 h=>Ey (decide_eq_false h19)<|ai (g0 (congrArg not h18))<|ai (decide_eq_false h19)<|ai (congrArg not h18)<|L h)) (fun h18 h=>Dq (congrArg not h18)<|L h)) (fun h15 h=>ai (g1 h15)<|ai (g1 h15)<|ai (g1 h15)<|ai (g1 h15)<|ai h15<|ai hf<|ai hf<|ai (rfl:Z0)<|ai hf<|ai hf<|bB h (fun h16 h=>Qj (decide_eq_true h16)<|L h) (fun h16 h=>HW (decide_eq_false h16)<|L h))
def ft(r4:(List ag))(v0_6:Nat):Option (Nat⊕(Unit⊕(Unit⊕(Unit⊕(Unit⊕(Nat×Bool)))))):=
 if (v0_6:Int)<(r4.length:Int) then
  (r4[v0_6]?).bind fun (y7:ag)=>
  (b8 y7.Kind 1 7).bind fun (r9:Bool)=>
  if r9=true then
   (pa a1 r4 v0_6 y7).bind fun (x12:Bool)=>
   if x12=true then
    some (.inr (.inl ()))
   else
    (pb a1 r4 v0_6 y7).bind fun (x15:Bool)=>
    if x15=true then
     some (.inr (.inr (.inl ())))
    else
     if (y7.Kind==2)=true then
      if IntKind.i64.wrap (a1 - 1)=a1 - 1 then
       (b8 y7.N 0 (a1 - 1)).bind fun (r20:Bool)=>
       if r20=true then
        if IntKind.i64.wrap ((v0_6:Int)+1)=((v0_6+1:Nat):Int) then
         some (.inl (v0_6+1))
        else none
       else
        some (.inr (.inr (.inr (.inl ()))))
      else none
     else
      if IntKind.i64.wrap ((v0_6:Int)+1)=((v0_6+1:Nat):Int) then
       some (.inl (v0_6+1))
      else none
  else
   some (.inr (.inr (.inr (.inr (.inl ())))))
 else
  some (.inr (.inr (.inr (.inr (.inr (v0_6,decide ((v0_6:Int)<(r4.length:Int))))))))
abbrev CJ(r4:(List ag))(v:Nat):St:=⟨[(1,(I a1)),(5,(.l 63 (r4.map aD))),(6,(I (v:Int)))],[],H0⟩
abbrev CK(r4:(List ag))(x:(Unit⊕(Unit⊕(Unit⊕(Unit⊕(Nat×Bool)))))):aJ×St:=match x with | .inl ()=>(.ret,⟨[(4,(I 1))],[],H0⟩) | .inr (.inl ())=>(.ret,⟨[(4,(I 3))],[],H0⟩) | .inr (.inr (.inl ()))=>(.ret,⟨[(4,(I 5))],[],H0⟩) | .inr (.inr (.inr (.inl ())))=>(.ret,⟨[(4,(I 7))],[],H0⟩) | .inr (.inr (.inr (.inr (z1,z2))))=>((.ex 0),⟨[(1,(I a1)),(5,(.l 63 (r4.map aD))),(6,(I (z1:Int))),(16,(.b z2))],[],H0⟩)
theorem Bl(r4:(List ag))(v0_6:Nat)(o:Nat⊕(Unit⊕(Unit⊕(Unit⊕(Unit⊕(Nat×Bool))))))(h:ft a1 r4 v0_6=some o):bu E0 LS (CJ a1 r4) (CK a1 r4) v0_6 o:=
 bD (ao (.i (r4.length:Int))<|.or (bt<|ao (.n v0_6)<|.ex fun (y7:ag)=>ao (.v (.a (bn y7)))<|cR<|xB fun r9=>.or (bf<|.jb (some 27) 19<|.ex fun (x12:Bool)=>ao (.jn ⟨[(1,(I a1)),(5,(.l 63 (r4.map aD))),(6,(I (v0_6:Int))),(7,(.p ⟨0,7⟩ 0)),(46,(.b x12))],[(7,(bn y7))],H0⟩)<|oN (.jb (some 47) 18<|.ex fun (x15:Bool)=>ao (.jn ⟨[(1,(I a1)),(5,(.l 63 (r4.map aD))),(6,(I (v0_6:Int))),(7,(.p ⟨0,7⟩ 0)),(65,(.b x15))],[(7,(bn y7))],H0⟩)<|oN (bt<|.or (js<|ao (.i (a1 - 1))<|bt<|xB fun r20=>b5<|.or (bf<|ao (.i ((v0_6+1:Nat):Int))<|.nil) (bt<|.nil)) (bf<|bf<|bf<|bf<|bf<|bf<|bf<|bf<|ao (.i ((v0_6+1:Nat):Int))<|.nil)))) (bt<|.nil)) (bf<|.nil)) fun L=>ai (ax aD r4)<|bB h (fun h6 h=>ai (decide_eq_true h6)<|ai (rI v0_6)<|ba h fun y7 h8 h=>ai (cF aD h8 (dm _))<|xH<|aB h (bW y7.Kind 1 7) fun r9 h=>aM h (fun h11 h=>ai (congrArg not h11)<|aB h (zQ a1 r4 v0_6 y7) fun x12 h=>aM h (fun h14 h=>ai h14<|L h) (fun h14 h=>ai h14<|aB h (zR a1 r4 v0_6 y7) fun x15 h=>aM h (fun h17 h=>ai h17<|L h) (fun h17 h=>jr h17<|aM h (fun h18 h=>Jx h18<|aA h fun w19 h=>ai w19<|ai (g1 h18)<|aB h (bW y7.N 0 (a1 - 1)) fun r20 h=>vz h18<|aM h (fun h22 h=>ai (congrArg not h22)<|aA h fun w23 h=>ai w23<|L h) (fun h22 h=>ai (congrArg not h22)<|L h)) (fun h18 h=>ai (g1 h18)<|ai (g1 h18)<|ai (g1 h18)<|ai (g1 h18)<|ai (g1 h18)<|ai (g1 h18)<|ai h18<|ai ff<|aA h fun w19 h=>ai w19<|L h)))) (fun h11 h=>ai (congrArg not h11)<|L h)) (fun h6 h=>ai (decide_eq_false h6)<|L h)
abbrev E3(a0:ag)(a1:Int)(r:Int):bh×HP:=(.ret (I r),H0)
def jD:Option Int:=
 (rR a0 15).bind fun (r1:Int)=>
 if 15<r1 then
  some 2
 else
  (tc a0).bind fun (r4:(List ag))=>
  (lp (fun v=>ft a1 r4 v) 0).bind fun (x6:(Unit⊕(Unit⊕(Unit⊕(Unit⊕(Nat×Bool))))))=>match x6 with
  | .inl ya_7=>
   some 1
  | .inr (.inl yb_7)=>
   some 3
  | .inr (.inr (.inl yc_7))=>
   some 5
  | .inr (.inr (.inr (.inl yd_7)))=>
   some 7
  | .inr (.inr (.inr (.inr ye_7)))=>
   some 0
theorem pc(r:Int)(h:jD a0 a1=some r):call G Ω0 E0 38 [(.a (bn a0)),(I a1)] H0=some (E3 a0 a1 r):=
 aO G38 (bt<|xI fun r1=>oN (bt<|.ex fun (r4:(List ag))=>ao (.v (.l 63 (r4.map aD)))<|.or (.ex fun (ya_7:Unit)=>ao (.lp .ret ⟨[(4,(I 1))],[],H0⟩)<|.nil) (.or (.ex fun (yb_7:Unit)=>ao (.lp .ret ⟨[(4,(I 3))],[],H0⟩)<|.nil) (.or (.ex fun (yc_7:Unit)=>ao (.lp .ret ⟨[(4,(I 5))],[],H0⟩)<|.nil) (.or (.ex fun (yd_7:Unit)=>ao (.lp .ret ⟨[(4,(I 7))],[],H0⟩)<|.nil) (.ex fun (ye_7:(Nat×Bool))=>ao (.lp (.ex 0) ⟨[(1,(I a1)),(5,(.l 63 (r4.map aD))),(6,(I (ye_7.1:Int))),(16,(.b ye_7.2))],[],H0⟩)<|.nil)))))) fun L=>pC<|aB h (Bf a0 15) fun r1 h=>bB h (fun h3 h=>ai (decide_eq_true h3)<|L h) (fun h3 h=>jr (decide_eq_false h3)<|aB h (CI a0) fun r4 h=>IG h (cV (Bl a1 r4) 0) (fun ya_7 h=>L h) (fun yb_7 h=>L h) (fun yc_7 h=>L h) (fun yd_7 h=>L h) (fun ye_7 h=>L h))
end
section
variable (a0:Program)(a1:Int)(a2:(List Stmt))
abbrev DV(a0:Program)(a1:Int)(a2:(List Stmt))(r:Int):bh×HP:=(.ret (I r),H0)
abbrev qw(r:Int):Prop:=call G Ω0 E0 37 [(.a (ah a0)),(I a1),(.l 65 (a2.map au))] H0=some (DV a0 a1 a2 r)
end
structure dM where
 f_R_checkStmts:Program→Int→(List Stmt)→Option Int
structure b7(R:dM):Prop where
 f_R_checkStmts:∀ (a0:Program)(a1:Int)(a2:(List Stmt))(r:Int),R.f_R_checkStmts a0 a1 a2=some r→qw a0 a1 a2 r
section
variable (R:dM)(a0:Program)(a1:Int)(a2:(List Stmt))
def zS:List cK:=(gM 40 9)::(gp 41 (.ca 0 61 [40]))::(gM 42 41)::⟨some 43,.fa 1 8,some ⟨42,true⟩,false⟩::⟨some 44,.ld none 43,some ⟨42,true⟩,false⟩::⟨some 45,.fa 5 3,some ⟨42,true⟩,false⟩::⟨some 46,.ld none 45,some ⟨42,true⟩,false⟩::⟨some 47,.ln false 46,some ⟨42,true⟩,false⟩::⟨some 48,.bo .sub false 47 (kI 1),some ⟨42,true⟩,false⟩::⟨some 49,.ca 0 14 [44,(kI 0),48],some ⟨42,true⟩,false⟩::⟨some 50,.no 49,some ⟨42,true⟩,false⟩::(gp 51 (.pk 42 50 (.c (.b false))))::(gM 52 51)::⟨some 53,.mv 9,some ⟨52,false⟩,false⟩::⟨some 54,.ca 0 14 [53,(kI 2),(kI 4)],some ⟨52,false⟩,false⟩::⟨some 55,.mv 54,some ⟨52,false⟩,false⟩::⟨some 56,.fa 2 8,some ⟨55,true⟩,false⟩::⟨some 57,.ld none 56,some ⟨55,true⟩,false⟩::⟨some 58,.mv 10,some ⟨55,true⟩,false⟩::⟨some 59,.bo .sub false 58 (kI 1),some ⟨55,true⟩,false⟩::⟨some 60,.ca 0 14 [57,(kI 0),59],some ⟨55,true⟩,false⟩::⟨some 61,.no 60,some ⟨55,true⟩,false⟩::⟨some 62,.pk 55 61 (.c (.b false)),some ⟨52,false⟩,false⟩::(gp 63 (.pk 52 (.c (.b true)) 62))::[]
def kx(R:dM)(a0:Program)(a1:Int)(a2:(List Stmt))(v0_7:Nat)(y2:Stmt)(y9:Int):Option Bool:=
 (pO y2.Kind).bind fun (r11:Bool)=>
 if r11=true then
  if IntKind.i64.wrap ((a0.Vars.length:Int) - 1)=(a0.Vars.length:Int) - 1 then
   (b8 y2.Var 0 ((a0.Vars.length:Int) - 1)).bind fun (r15:Bool)=>
   if r15=true then
    (b8 y2.Kind 2 4).bind fun (r18:Bool)=>
    if r18=true then
     if IntKind.i64.wrap (y9 - 1)=y9 - 1 then
      (b8 y2.Other 0 (y9 - 1)).bind fun (r22:Bool)=>
      some (!r22)
     else none
    else
     some false
   else
    some true
  else none
 else
  (b8 y2.Kind 2 4).bind fun (r14:Bool)=>
  if r14=true then
   if IntKind.i64.wrap (y9 - 1)=y9 - 1 then
    (b8 y2.Other 0 (y9 - 1)).bind fun (r18:Bool)=>
    some (!r18)
   else none
  else
   some false
abbrev zT(v0_7:Nat)(y2:Stmt)(y9:Int)(x:Bool):St:=⟨[(1,(I a1)),(2,(.l 65 (a2.map au))),(3,(.p ⟨0,3⟩ 0)),(7,(I (v0_7:Int))),(8,(.p ⟨0,8⟩ 0)),(9,(I y2.Kind)),(63,(.b x))],[(3,(ah a0)),(8,(af y2))],H0⟩
theorem yi(hR:b7 R)(a0:Program)(a1:Int)(a2:(List Stmt))(v0_7:Nat)(y2:Stmt)(y9:Int)(x:Bool)(h:kx R a0 a1 a2 v0_7 y2 y9=some x):ew G Ω0 E0 [1,2,3,7,8,9,63] [3,8] zS ⟨[(1,(I a1)),(2,(.l 65 (a2.map au))),(3,(.p ⟨0,3⟩ 0)),(7,(I (v0_7:Int))),(8,(.p ⟨0,8⟩ 0)),(9,(I y2.Kind)),(10,(I y9))],[(3,(ah a0)),(8,(af y2))],H0⟩=some (zT a0 a1 a2 v0_7 y2 y9 x):=
 dj (xB fun r11=>.or (AI<|ao (.i (a0.Vars.length:Int))<|bt<|ao (.i ((a0.Vars.length:Int) - 1))<|bt<|xB fun r15=>b5<|.or (b5<|xB fun r18=>bt<|.or (js<|ao (.i (y9 - 1))<|bt<|xB fun r22=>wB<|.nil) (Qo<|.nil)) (wA<|.nil)) (Qm<|xB fun r14=>bt<|.or (js<|ao (.i (y9 - 1))<|bt<|xB fun r18=>wB<|.nil) (Qo<|.nil))) fun L=>aB h (wE y2.Kind) fun r11 h=>aM h (fun h13 h=>Kw h13<|ai (ax bH a0.Vars)<|ai (g1 h13)<|aA h fun w14 h=>ai w14<|ai (g1 h13)<|aB h (bW y2.Var 0 ((a0.Vars.length:Int) - 1)) fun r15 h=>vz h13<|aM h (fun h17 h=>lJ (congrArg not h17)<|aB h (bW y2.Kind 2 4) fun r18 h=>ai (g0 (congrArg not h17))<|aM h (fun h20 h=>Jx h20<|aA h fun w21 h=>ai w21<|ai (g1 h20)<|aB h (bW y2.Other 0 (y9 - 1)) fun r22 h=>ai (g1 h20)<|ai (g0 (congrArg not h17))<|ai h20<|ai (congrArg not h17)<|L h) (fun h20 h=>ai (g1 h20)<|ai (g1 h20)<|ai (g1 h20)<|ai (g1 h20)<|ai (g1 h20)<|ai (g1 h20)<|ai (g0 (congrArg not h17))<|ai h20<|ai (congrArg not h17)<|L h)) (fun h17 h=>wz (congrArg not h17)<|L h)) (fun h13 h=>ai (g1 h13)<|ai (g1 h13)<|ai (g1 h13)<|ai (g1 h13)<|ai (g1 h13)<|ai (g1 h13)<|ai (g1 h13)<|ai (g1 h13)<|ai h13<|ai hf<|ai hf<|aB h (bW y2.Kind 2 4) fun r14 h=>ai hf<|aM h (fun h16 h=>Jx h16<|aA h fun w17 h=>ai w17<|ai (g1 h16)<|aB h (bW y2.Other 0 (y9 - 1)) fun r18 h=>ai (g1 h16)<|ai hf<|ai h16<|ai ff<|L h) (fun h16 h=>ai (g1 h16)<|ai (g1 h16)<|ai (g1 h16)<|ai (g1 h16)<|ai (g1 h16)<|ai (g1 h16)<|ai hf<|ai h16<|ai ff<|L h))
def rW:List cK:=(gA 11 80)::[]
def hZ(R:dM)(a0:Program)(a1:Int)(a2:(List Stmt))(v0_7:Nat)(y2:Stmt)(u3_1:Bool):Option Bool:=
 some u3_1
abbrev zU(v0_7:Nat)(y2:Stmt)(u3_1:Bool)(x:Bool):St:=⟨[(1,(I a1)),(2,(.l 65 (a2.map au))),(3,(.p ⟨0,3⟩ 0)),(7,(I (v0_7:Int))),(8,(.p ⟨0,8⟩ 0)),(9,(I y2.Kind)),(11,(.b x))],[(3,(ah a0)),(8,(af y2))],H0⟩
theorem mN(hR:b7 R)(a0:Program)(a1:Int)(a2:(List Stmt))(v0_7:Nat)(y2:Stmt)(u3_1:Bool)(w:List AV)(x:Bool)(h:hZ R a0 a1 a2 v0_7 y2 u3_1=some x):ew G Ω0 E0 [1,2,3,7,8,9,11] [3,8] rW ⟨[(80,(.b u3_1)),(79,(W w 0)),(78,(W w 1)),(77,(W w 2)),(76,(W w 3)),(75,(W w 4)),(74,(W w 5)),(73,(W w 6)),(72,(W w 7)),(71,(W w 8)),(70,(W w 9)),(69,(W w 10)),(68,(.b (y2.Expr.Kind==0))),(67,(.b (y2.Expr.Kind==0))),(66,(I y2.Expr.Kind)),(65,(.p ⟨0,8⟩ 3)),(64,(.p ⟨0,8⟩ 3)),(1,(I a1)),(2,(.l 65 (a2.map au))),(3,(.p ⟨0,3⟩ 0)),(7,(I (v0_7:Int))),(8,(.p ⟨0,8⟩ 0)),(9,(I y2.Kind))],[(3,(ah a0)),(8,(af y2))],H0⟩=some (zU a0 a1 a2 v0_7 y2 u3_1 x):=
 dj (.nil) fun L=>L h
def zV:List cK:=(gF 64 3 8)::(gF 65 0 64)::(gQ 66 65)::(gB 67 .eql 66 (kI 0))::(gM 68 67)::⟨some 69,.fa 3 8,some ⟨68,true⟩,false⟩::⟨some 70,.fa 1 69,some ⟨68,true⟩,false⟩::⟨some 71,.ld none 70,some ⟨68,true⟩,false⟩::⟨some 72,.bo .eql false 71 (kI 0),some ⟨68,true⟩,false⟩::(gp 73 (.pk 68 72 (.c (.b false))))::(gM 74 73)::⟨some 75,.fa 3 8,some ⟨74,true⟩,false⟩::⟨some 76,.fa 2 75,some ⟨74,true⟩,false⟩::⟨some 77,.ld none 76,some ⟨74,true⟩,false⟩::⟨some 78,.ln false 77,some ⟨74,true⟩,false⟩::⟨some 79,.bo .eql false 78 (kI 0),some ⟨74,true⟩,false⟩::(gp 80 (.pk 74 79 (.c (.b false))))::rW
def ky(v0_7:Nat)(y2:Stmt):Option Bool:=
 if (y2.Expr.Kind==0)=true then
  if (y2.Expr.N==0)=true then
   (hZ R a0 a1 a2 v0_7 y2 ((y2.Expr.Args.length:Int)==0)).bind fun (x16:Bool)=>
   some x16
  else
   (hZ R a0 a1 a2 v0_7 y2 false).bind fun (x16:Bool)=>
   some x16
 else
  (hZ R a0 a1 a2 v0_7 y2 false).bind fun (x15:Bool)=>
  some x15
abbrev zW(v0_7:Nat)(y2:Stmt)(x:Bool):St:=⟨[(1,(I a1)),(2,(.l 65 (a2.map au))),(3,(.p ⟨0,3⟩ 0)),(7,(I (v0_7:Int))),(8,(.p ⟨0,8⟩ 0)),(9,(I y2.Kind)),(11,(.b x))],[(3,(ah a0)),(8,(af y2))],H0⟩
theorem yj(hR:b7 R)(a0:Program)(a1:Int)(a2:(List Stmt))(v0_7:Nat)(y2:Stmt)(x:Bool)(h:ky R a0 a1 a2 v0_7 y2=some x):ew G Ω0 E0 [1,2,3,7,8,9,11] [3,8] zV ⟨[(1,(I a1)),(2,(.l 65 (a2.map au))),(3,(.p ⟨0,3⟩ 0)),(7,(I (v0_7:Int))),(8,(.p ⟨0,8⟩ 0)),(9,(I y2.Kind))],[(3,(ah a0)),(8,(af y2))],H0⟩=some (zW a0 a1 a2 v0_7 y2 x):=
 dj (bt<|.or (FF<|.or (js<|ao (.i (y2.Expr.Args.length:Int))<|b5<|.jb (some 11) 0<|.ex fun (x16:Bool)=>ao (.jn ⟨[(1,(I a1)),(2,(.l 65 (a2.map au))),(3,(.p ⟨0,3⟩ 0)),(7,(I (v0_7:Int))),(8,(.p ⟨0,8⟩ 0)),(9,(I y2.Kind)),(11,(.b x16))],[(3,(ah a0)),(8,(af y2))],H0⟩)<|.nil) (FH<|.jb (some 11) 0<|.ex fun (x16:Bool)=>ao (.jn ⟨[(1,(I a1)),(2,(.l 65 (a2.map au))),(3,(.p ⟨0,3⟩ 0)),(7,(I (v0_7:Int))),(8,(.p ⟨0,8⟩ 0)),(9,(I y2.Kind)),(11,(.b x16))],[(3,(ah a0)),(8,(af y2))],H0⟩)<|.nil)) (KA<|.jb (some 11) 0<|.ex fun (x15:Bool)=>ao (.jn ⟨[(1,(I a1)),(2,(.l 65 (a2.map au))),(3,(.p ⟨0,3⟩ 0)),(7,(I (v0_7:Int))),(8,(.p ⟨0,8⟩ 0)),(9,(I y2.Kind)),(11,(.b x15))],[(3,(ah a0)),(8,(af y2))],H0⟩)<|.nil)) fun L=>ai (rfl:Z0)<|aM h (fun h14 h=>Kt h14<|aM h (fun h15 h=>IJ h15<|ai (ax aD y2.Expr.Args)<|vz h15<|aB h (mN R hR a0 a1 a2 v0_7 y2 ((y2.Expr.Args.length:Int)==0) [(.b ((y2.Expr.Args.length:Int)==0)),(I (y2.Expr.Args.length:Int)),(.l 63 (y2.Expr.Args.map aD)),(.p ⟨0,8⟩ 5),(.p ⟨0,8⟩ 3),(.b (y2.Expr.N==0)),(.b (y2.Expr.N==0)),(.b (y2.Expr.N==0)),(I y2.Expr.N),(.p ⟨0,8⟩ 4),(.p ⟨0,8⟩ 3)]) fun x16 h=>L h) (fun h15 h=>IK h15<|aB h (mN R hR a0 a1 a2 v0_7 y2 false [.sk,.sk,.sk,.sk,.sk,(.b (y2.Expr.N==0)),(.b (y2.Expr.N==0)),(.b (y2.Expr.N==0)),(I y2.Expr.N),(.p ⟨0,8⟩ 4),(.p ⟨0,8⟩ 3)]) fun x16 h=>L h)) (fun h14 h=>ai (g1 h14)<|ai (g1 h14)<|ai (g1 h14)<|ai (g1 h14)<|ai h14<|ai gf<|ai gf<|ai gf<|ai gf<|ai gf<|ai ff<|aB h (mN R hR a0 a1 a2 v0_7 y2 false [.sk,.sk,.sk,.sk,.sk,(.b false),(.b false),.sk,.sk,.sk,.sk]) fun x15 h=>L h)
def rX:List cK:=(gM 128 127)::⟨some 129,.mv 9,some ⟨128,false⟩,false⟩::⟨some 130,.bo .neq false 129 (kI 7),some ⟨128,false⟩,false⟩::⟨some 131,.mv 130,some ⟨128,false⟩,false⟩::⟨some 132,.fa 8 8,some ⟨131,true⟩,false⟩::⟨some 133,.ld none 132,some ⟨131,true⟩,false⟩::⟨some 134,.ln false 133,some ⟨131,true⟩,false⟩::⟨some 135,.bo .gtr false 134 (kI 0),some ⟨131,true⟩,false⟩::⟨some 136,.pk 131 135 (.c (.b false)),some ⟨128,false⟩,false⟩::(gp 137 (.pk 128 (.c (.b true)) 136))::[]
def fw(R:dM)(a0:Program)(a1:Int)(a2:(List Stmt))(v0_7:Nat)(y2:Stmt)(x14:Bool)(r16:Bool)(u5_1:Bool)(u6_1:Bool)(u7_1:Bool)(u8_1:Bool):Option Bool:=
 if u8_1=true then
  some true
 else
  if (y2.Kind !=7)=true then
   some (decide (0<(y2.Else.length:Int)))
  else
   some false
abbrev zX(v0_7:Nat)(y2:Stmt)(x14:Bool)(r16:Bool)(u5_1:Bool)(u6_1:Bool)(u7_1:Bool)(u8_1:Bool)(x:Bool):St:=⟨[(1,(I a1)),(2,(.l 65 (a2.map au))),(3,(.p ⟨0,3⟩ 0)),(7,(I (v0_7:Int))),(8,(.p ⟨0,8⟩ 0)),(9,(I y2.Kind)),(137,(.b x))],[(3,(ah a0)),(8,(af y2))],H0⟩
theorem mO(hR:b7 R)(a0:Program)(a1:Int)(a2:(List Stmt))(v0_7:Nat)(y2:Stmt)(x14:Bool)(r16:Bool)(u5_1:Bool)(u6_1:Bool)(u7_1:Bool)(u8_1:Bool)(w:List AV)(x:Bool)(h:fw R a0 a1 a2 v0_7 y2 x14 r16 u5_1 u6_1 u7_1 u8_1=some x):ew G Ω0 E0 [1,2,3,7,8,9,137] [3,8] rX ⟨[(127,(.b u8_1)),(126,(W w 0)),(125,(W w 1)),(124,(W w 2)),(123,(W w 3)),(122,(W w 4)),(121,(W w 5)),(120,(W w 6)),(119,(W w 7)),(118,(.b u7_1)),(117,(.b u7_1)),(116,(W w 8)),(115,(W w 9)),(114,(W w 10)),(113,(W w 11)),(112,(W w 12)),(111,(W w 13)),(110,(W w 14)),(109,(W w 15)),(108,(.b u6_1)),(107,(.b u6_1)),(106,(W w 16)),(105,(W w 17)),(104,(W w 18)),(103,(W w 19)),(102,(W w 20)),(101,(W w 21)),(100,(W w 22)),(99,(.b u5_1)),(98,(.b u5_1)),(97,(W w 23)),(96,(W w 24)),(95,(W w 25)),(94,(W w 26)),(93,(W w 27)),(92,(W w 28)),(91,(W w 29)),(90,(W w 30)),(89,(W w 31)),(88,(W w 32)),(87,(W w 33)),(86,(W w 34)),(85,(W w 35)),(84,(.b (!r16))),(83,(.b (!r16))),(82,(.b r16)),(81,(I y2.Kind)),(1,(I a1)),(2,(.l 65 (a2.map au))),(3,(.p ⟨0,3⟩ 0)),(7,(I (v0_7:Int))),(8,(.p ⟨0,8⟩ 0)),(9,(I y2.Kind)),(11,(.b x14))],[(3,(ah a0)),(8,(af y2))],H0⟩=some (zX a0 a1 a2 v0_7 y2 x14 r16 u5_1 u6_1 u7_1 u8_1 x):=
 dj (.or (wA<|.nil) (cR<|.or (jt<|ao (.i (y2.Else.length:Int))<|wB<|.nil) (xJ<|.nil))) fun L=>aM h (fun h31 h=>wz h31<|L h) (fun h31 h=>Ao h31<|aM h (fun h32 h=>Ap h32<|ai (ax au y2.Else)<|ai (g1 h32)<|ai (g0 h31)<|ai h32<|ai h31<|L h) (fun h32 h=>AG h32<|ai (g0 h31)<|ai h32<|ai h31<|L h))
def rY:List cK:=(gM 118 117)::⟨some 119,.mv 9,some ⟨118,false⟩,false⟩::⟨some 120,.bo .lss false 119 (kI 7),some ⟨118,false⟩,false⟩::⟨some 121,.mv 120,some ⟨118,false⟩,false⟩::⟨some 122,.fa 7 8,some ⟨121,true⟩,false⟩::⟨some 123,.ld none 122,some ⟨121,true⟩,false⟩::⟨some 124,.ln false 123,some ⟨121,true⟩,false⟩::⟨some 125,.bo .gtr false 124 (kI 0),some ⟨121,true⟩,false⟩::⟨some 126,.pk 121 125 (.c (.b false)),some ⟨118,false⟩,false⟩::(gp 127 (.pk 118 (.c (.b true)) 126))::rX
def fx(v0_7:Nat)(y2:Stmt)(x14:Bool)(r16:Bool)(u5_1:Bool)(u6_1:Bool)(u7_1:Bool):Option Bool:=
 if u7_1=true then
  (fw R a0 a1 a2 v0_7 y2 x14 r16 u5_1 u6_1 u7_1 true).bind fun (x30:Bool)=>
  some x30
 else
  if y2.Kind<7 then
   (fw R a0 a1 a2 v0_7 y2 x14 r16 u5_1 u6_1 u7_1 (decide (0<(y2.Then.length:Int)))).bind fun (x31:Bool)=>
   some x31
  else
   (fw R a0 a1 a2 v0_7 y2 x14 r16 u5_1 u6_1 u7_1 false).bind fun (x31:Bool)=>
   some x31
abbrev zY(v0_7:Nat)(y2:Stmt)(x14:Bool)(r16:Bool)(u5_1:Bool)(u6_1:Bool)(u7_1:Bool)(x:Bool):St:=⟨[(1,(I a1)),(2,(.l 65 (a2.map au))),(3,(.p ⟨0,3⟩ 0)),(7,(I (v0_7:Int))),(8,(.p ⟨0,8⟩ 0)),(9,(I y2.Kind)),(137,(.b x))],[(3,(ah a0)),(8,(af y2))],H0⟩
theorem mP(hR:b7 R)(a0:Program)(a1:Int)(a2:(List Stmt))(v0_7:Nat)(y2:Stmt)(x14:Bool)(r16:Bool)(u5_1:Bool)(u6_1:Bool)(u7_1:Bool)(w:List AV)(x:Bool)(h:fx R a0 a1 a2 v0_7 y2 x14 r16 u5_1 u6_1 u7_1=some x):ew G Ω0 E0 [1,2,3,7,8,9,137] [3,8] rY ⟨[(117,(.b u7_1)),(116,(W w 0)),(115,(W w 1)),(114,(W w 2)),(113,(W w 3)),(112,(W w 4)),(111,(W w 5)),(110,(W w 6)),(109,(W w 7)),(108,(.b u6_1)),(107,(.b u6_1)),(106,(W w 8)),(105,(W w 9)),(104,(W w 10)),(103,(W w 11)),(102,(W w 12)),(101,(W w 13)),(100,(W w 14)),(99,(.b u5_1)),(98,(.b u5_1)),(97,(W w 15)),(96,(W w 16)),(95,(W w 17)),(94,(W w 18)),(93,(W w 19)),(92,(W w 20)),(91,(W w 21)),(90,(W w 22)),(89,(W w 23)),(88,(W w 24)),(87,(W w 25)),(86,(W w 26)),(85,(W w 27)),(84,(.b (!r16))),(83,(.b (!r16))),(82,(.b r16)),(81,(I y2.Kind)),(1,(I a1)),(2,(.l 65 (a2.map au))),(3,(.p ⟨0,3⟩ 0)),(7,(I (v0_7:Int))),(8,(.p ⟨0,8⟩ 0)),(9,(I y2.Kind)),(11,(.b x14))],[(3,(ah a0)),(8,(af y2))],H0⟩=some (zY a0 a1 a2 v0_7 y2 x14 r16 u5_1 u6_1 u7_1 x):=
 dj (.or (wA<|.jb (some 128) 9<|.ex fun (x30:Bool)=>ao (.jn ⟨[(1,(I a1)),(2,(.l 65 (a2.map au))),(3,(.p ⟨0,3⟩ 0)),(7,(I (v0_7:Int))),(8,(.p ⟨0,8⟩ 0)),(9,(I y2.Kind)),(137,(.b x30))],[(3,(ah a0)),(8,(af y2))],H0⟩)<|.nil) (cR<|.or (jt<|ao (.i (y2.Then.length:Int))<|wB<|.jb (some 128) 9<|.ex fun (x31:Bool)=>ao (.jn ⟨[(1,(I a1)),(2,(.l 65 (a2.map au))),(3,(.p ⟨0,3⟩ 0)),(7,(I (v0_7:Int))),(8,(.p ⟨0,8⟩ 0)),(9,(I y2.Kind)),(137,(.b x31))],[(3,(ah a0)),(8,(af y2))],H0⟩)<|.nil) (xJ<|.jb (some 128) 9<|.ex fun (x31:Bool)=>ao (.jn ⟨[(1,(I a1)),(2,(.l 65 (a2.map au))),(3,(.p ⟨0,3⟩ 0)),(7,(I (v0_7:Int))),(8,(.p ⟨0,8⟩ 0)),(9,(I y2.Kind)),(137,(.b x31))],[(3,(ah a0)),(8,(af y2))],H0⟩)<|.nil))) fun L=>aM h (fun h29 h=>wz h29<|aB h (mO R hR a0 a1 a2 v0_7 y2 x14 r16 u5_1 u6_1 u7_1 true [.sk,.sk,.sk,.sk,.sk,.sk,.sk,.sk,(W w 0),(W w 1),(W w 2),(W w 3),(W w 4),(W w 5),(W w 6),(W w 7),(W w 8),(W w 9),(W w 10),(W w 11),(W w 12),(W w 13),(W w 14),(W w 15),(W w 16),(W w 17),(W w 18),(W w 19),(W w 20),(W w 21),(W w 22),(W w 23),(W w 24),(W w 25),(W w 26),(W w 27)]) fun x30 h=>L h) (fun h29 h=>Ao h29<|bB h (fun h30 h=>Ap (decide_eq_true h30)<|ai (ax au y2.Then)<|ai (g1 (decide_eq_true h30))<|ai (g0 h29)<|ai (decide_eq_true h30)<|ai h29<|aB h (mO R hR a0 a1 a2 v0_7 y2 x14 r16 u5_1 u6_1 u7_1 (decide (0<(y2.Then.length:Int))) [(.b (decide (0<(y2.Then.length:Int)))),(.b (decide (0<(y2.Then.length:Int)))),(I (y2.Then.length:Int)),(.l 65 (y2.Then.map au)),(.p ⟨0,8⟩ 7),(.b (decide (y2.Kind<7))),(.b (decide (y2.Kind<7))),(I y2.Kind),(W w 0),(W w 1),(W w 2),(W w 3),(W w 4),(W w 5),(W w 6),(W w 7),(W w 8),(W w 9),(W w 10),(W w 11),(W w 12),(W w 13),(W w 14),(W w 15),(W w 16),(W w 17),(W w 18),(W w 19),(W w 20),(W w 21),(W w 22),(W w 23),(W w 24),(W w 25),(W w 26),(W w 27)]) fun x31 h=>L h) (fun h30 h=>AG (decide_eq_false h30)<|ai (g0 h29)<|ai (decide_eq_false h30)<|ai h29<|aB h (mO R hR a0 a1 a2 v0_7 y2 x14 r16 u5_1 u6_1 u7_1 false [(.b false),.sk,.sk,.sk,.sk,(.b (decide (y2.Kind<7))),(.b (decide (y2.Kind<7))),(I y2.Kind),(W w 0),(W w 1),(W w 2),(W w 3),(W w 4),(W w 5),(W w 6),(W w 7),(W w 8),(W w 9),(W w 10),(W w 11),(W w 12),(W w 13),(W w 14),(W w 15),(W w 16),(W w 17),(W w 18),(W w 19),(W w 20),(W w 21),(W w 22),(W w 23),(W w 24),(W w 25),(W w 26),(W w 27)]) fun x31 h=>L h))
def rZ:List cK:=(gM 108 107)::⟨some 109,.mv 9,some ⟨108,false⟩,false⟩::⟨some 110,.bo .neq false 109 (kI 2),some ⟨108,false⟩,false⟩::⟨some 111,.mv 110,some ⟨108,false⟩,false⟩::⟨some 112,.fa 6 8,some ⟨111,true⟩,false⟩::⟨some 113,.ld none 112,some ⟨111,true⟩,false⟩::⟨some 114,.ln false 113,some ⟨111,true⟩,false⟩::⟨some 115,.bo .gtr false 114 (kI 0),some ⟨111,true⟩,false⟩::⟨some 116,.pk 111 115 (.c (.b false)),some ⟨108,false⟩,false⟩::(gp 117 (.pk 108 (.c (.b true)) 116))::rY
def fy(v0_7:Nat)(y2:Stmt)(x14:Bool)(r16:Bool)(u5_1:Bool)(u6_1:Bool):Option Bool:=
 if u6_1=true then
  (fx R a0 a1 a2 v0_7 y2 x14 r16 u5_1 u6_1 true).bind fun (x28:Bool)=>
  some x28
 else
  if (y2.Kind !=2)=true then
   (fx R a0 a1 a2 v0_7 y2 x14 r16 u5_1 u6_1 (decide (0<(y2.Args.length:Int)))).bind fun (x29:Bool)=>
   some x29
  else
   (fx R a0 a1 a2 v0_7 y2 x14 r16 u5_1 u6_1 false).bind fun (x29:Bool)=>
   some x29
abbrev zZ(v0_7:Nat)(y2:Stmt)(x14:Bool)(r16:Bool)(u5_1:Bool)(u6_1:Bool)(x:Bool):St:=⟨[(1,(I a1)),(2,(.l 65 (a2.map au))),(3,(.p ⟨0,3⟩ 0)),(7,(I (v0_7:Int))),(8,(.p ⟨0,8⟩ 0)),(9,(I y2.Kind)),(137,(.b x))],[(3,(ah a0)),(8,(af y2))],H0⟩
theorem mQ(hR:b7 R)(a0:Program)(a1:Int)(a2:(List Stmt))(v0_7:Nat)(y2:Stmt)(x14:Bool)(r16:Bool)(u5_1:Bool)(u6_1:Bool)(w:List AV)(x:Bool)(h:fy R a0 a1 a2 v0_7 y2 x14 r16 u5_1 u6_1=some x):ew G Ω0 E0 [1,2,3,7,8,9,137] [3,8] rZ ⟨[(107,(.b u6_1)),(106,(W w 0)),(105,(W w 1)),(104,(W w 2)),(103,(W w 3)),(102,(W w 4)),(101,(W w 5)),(100,(W w 6)),(99,(.b u5_1)),(98,(.b u5_1)),(97,(W w 7)),(96,(W w 8)),(95,(W w 9)),(94,(W w 10)),(93,(W w 11)),(92,(W w 12)),(91,(W w 13)),(90,(W w 14)),(89,(W w 15)),(88,(W w 16)),(87,(W w 17)),(86,(W w 18)),(85,(W w 19)),(84,(.b (!r16))),(83,(.b (!r16))),(82,(.b r16)),(81,(I y2.Kind)),(1,(I a1)),(2,(.l 65 (a2.map au))),(3,(.p ⟨0,3⟩ 0)),(7,(I (v0_7:Int))),(8,(.p ⟨0,8⟩ 0)),(9,(I y2.Kind)),(11,(.b x14))],[(3,(ah a0)),(8,(af y2))],H0⟩=some (zZ a0 a1 a2 v0_7 y2 x14 r16 u5_1 u6_1 x):=
 dj (.or (wA<|.jb (some 118) 19<|.ex fun (x28:Bool)=>ao (.jn ⟨[(1,(I a1)),(2,(.l 65 (a2.map au))),(3,(.p ⟨0,3⟩ 0)),(7,(I (v0_7:Int))),(8,(.p ⟨0,8⟩ 0)),(9,(I y2.Kind)),(137,(.b x28))],[(3,(ah a0)),(8,(af y2))],H0⟩)<|.nil) (cR<|.or (jt<|ao (.i (y2.Args.length:Int))<|wB<|.jb (some 118) 19<|.ex fun (x29:Bool)=>ao (.jn ⟨[(1,(I a1)),(2,(.l 65 (a2.map au))),(3,(.p ⟨0,3⟩ 0)),(7,(I (v0_7:Int))),(8,(.p ⟨0,8⟩ 0)),(9,(I y2.Kind)),(137,(.b x29))],[(3,(ah a0)),(8,(af y2))],H0⟩)<|.nil) (xJ<|.jb (some 118) 19<|.ex fun (x29:Bool)=>ao (.jn ⟨[(1,(I a1)),(2,(.l 65 (a2.map au))),(3,(.p ⟨0,3⟩ 0)),(7,(I (v0_7:Int))),(8,(.p ⟨0,8⟩ 0)),(9,(I y2.Kind)),(137,(.b x29))],[(3,(ah a0)),(8,(af y2))],H0⟩)<|.nil))) fun L=>aM h (fun h27 h=>wz h27<|aB h (mP R hR a0 a1 a2 v0_7 y2 x14 r16 u5_1 u6_1 true [.sk,.sk,.sk,.sk,.sk,.sk,.sk,.sk,(W w 0),(W w 1),(W w 2),(W w 3),(W w 4),(W w 5),(W w 6),(W w 7),(W w 8),(W w 9),(W w 10),(W w 11),(W w 12),(W w 13),(W w 14),(W w 15),(W w 16),(W w 17),(W w 18),(W w 19)]) fun x28 h=>L h) (fun h27 h=>Ao h27<|aM h (fun h28 h=>Ap h28<|ai (ax aD y2.Args)<|ai (g1 h28)<|ai (g0 h27)<|ai h28<|ai h27<|aB h (mP R hR a0 a1 a2 v0_7 y2 x14 r16 u5_1 u6_1 (decide (0<(y2.Args.length:Int))) [(.b (decide (0<(y2.Args.length:Int)))),(.b (decide (0<(y2.Args.length:Int)))),(I (y2.Args.length:Int)),(.l 63 (y2.Args.map aD)),(.p ⟨0,8⟩ 6),(.b (y2.Kind !=2)),(.b (y2.Kind !=2)),(I y2.Kind),(W w 0),(W w 1),(W w 2),(W w 3),(W w 4),(W w 5),(W w 6),(W w 7),(W w 8),(W w 9),(W w 10),(W w 11),(W w 12),(W w 13),(W w 14),(W w 15),(W w 16),(W w 17),(W w 18),(W w 19)]) fun x29 h=>L h) (fun h28 h=>AG h28<|ai (g0 h27)<|ai h28<|ai h27<|aB h (mP R hR a0 a1 a2 v0_7 y2 x14 r16 u5_1 u6_1 false [(.b false),.sk,.sk,.sk,.sk,(.b (y2.Kind !=2)),(.b (y2.Kind !=2)),(I y2.Kind),(W w 0),(W w 1),(W w 2),(W w 3),(W w 4),(W w 5),(W w 6),(W w 7),(W w 8),(W w 9),(W w 10),(W w 11),(W w 12),(W w 13),(W w 14),(W w 15),(W w 16),(W w 17),(W w 18),(W w 19)]) fun x29 h=>L h))
def sa:List cK:=(gM 99 98)::⟨some 100,.mv 9,some ⟨99,false⟩,false⟩::⟨some 101,.ca 0 62 [100],some ⟨99,false⟩,false⟩::⟨some 102,.no 101,some ⟨99,false⟩,false⟩::⟨some 103,.mv 102,some ⟨99,false⟩,false⟩::⟨some 104,.mv 11,some ⟨103,true⟩,false⟩::⟨some 105,.no 104,some ⟨103,true⟩,false⟩::⟨some 106,.pk 103 105 (.c (.b false)),some ⟨99,false⟩,false⟩::(gp 107 (.pk 99 (.c (.b true)) 106))::rZ
def dO(v0_7:Nat)(y2:Stmt)(x14:Bool)(r16:Bool)(u5_1:Bool):Option Bool:=
 if u5_1=true then
  (fy R a0 a1 a2 v0_7 y2 x14 r16 u5_1 true).bind fun (x24:Bool)=>
  some x24
 else
  (oF y2.Kind).bind fun (r24:Bool)=>
  if r24=true then
   (fy R a0 a1 a2 v0_7 y2 x14 r16 u5_1 false).bind fun (x27:Bool)=>
   some x27
  else
   (fy R a0 a1 a2 v0_7 y2 x14 r16 u5_1 (!x14)).bind fun (x27:Bool)=>
   some x27
abbrev z5(v0_7:Nat)(y2:Stmt)(x14:Bool)(r16:Bool)(u5_1:Bool)(x:Bool):St:=⟨[(1,(I a1)),(2,(.l 65 (a2.map au))),(3,(.p ⟨0,3⟩ 0)),(7,(I (v0_7:Int))),(8,(.p ⟨0,8⟩ 0)),(9,(I y2.Kind)),(137,(.b x))],[(3,(ah a0)),(8,(af y2))],H0⟩
theorem gu(hR:b7 R)(a0:Program)(a1:Int)(a2:(List Stmt))(v0_7:Nat)(y2:Stmt)(x14:Bool)(r16:Bool)(u5_1:Bool)(w:List AV)(x:Bool)(h:dO R a0 a1 a2 v0_7 y2 x14 r16 u5_1=some x):ew G Ω0 E0 [1,2,3,7,8,9,137] [3,8] sa ⟨[(98,(.b u5_1)),(97,(W w 0)),(96,(W w 1)),(95,(W w 2)),(94,(W w 3)),(93,(W w 4)),(92,(W w 5)),(91,(W w 6)),(90,(W w 7)),(89,(W w 8)),(88,(W w 9)),(87,(W w 10)),(86,(W w 11)),(85,(W w 12)),(84,(.b (!r16))),(83,(.b (!r16))),(82,(.b r16)),(81,(I y2.Kind)),(1,(I a1)),(2,(.l 65 (a2.map au))),(3,(.p ⟨0,3⟩ 0)),(7,(I (v0_7:Int))),(8,(.p ⟨0,8⟩ 0)),(9,(I y2.Kind)),(11,(.b x14))],[(3,(ah a0)),(8,(af y2))],H0⟩=some (z5 a0 a1 a2 v0_7 y2 x14 r16 u5_1 x):=
 dj (.or (Dt<|.jb (some 108) 29<|.ex fun (x24:Bool)=>ao (.jn ⟨[(1,(I a1)),(2,(.l 65 (a2.map au))),(3,(.p ⟨0,3⟩ 0)),(7,(I (v0_7:Int))),(8,(.p ⟨0,8⟩ 0)),(9,(I y2.Kind)),(137,(.b x24))],[(3,(ah a0)),(8,(af y2))],H0⟩)<|.nil) (b5<|xB fun r24=>b5<|.or (bf<|bf<|bt<|bf<|bf<|.jb (some 108) 29<|.ex fun (x27:Bool)=>ao (.jn ⟨[(1,(I a1)),(2,(.l 65 (a2.map au))),(3,(.p ⟨0,3⟩ 0)),(7,(I (v0_7:Int))),(8,(.p ⟨0,8⟩ 0)),(9,(I y2.Kind)),(137,(.b x27))],[(3,(ah a0)),(8,(af y2))],H0⟩)<|.nil) (IL<|.jb (some 108) 29<|.ex fun (x27:Bool)=>ao (.jn ⟨[(1,(I a1)),(2,(.l 65 (a2.map au))),(3,(.p ⟨0,3⟩ 0)),(7,(I (v0_7:Int))),(8,(.p ⟨0,8⟩ 0)),(9,(I y2.Kind)),(137,(.b x27))],[(3,(ah a0)),(8,(af y2))],H0⟩)<|.nil))) fun L=>aM h (fun h23 h=>Dq h23<|aB h (mQ R hR a0 a1 a2 v0_7 y2 x14 r16 u5_1 true [.sk,.sk,.sk,.sk,.sk,.sk,.sk,(W w 0),(W w 1),(W w 2),(W w 3),(W w 4),(W w 5),(W w 6),(W w 7),(W w 8),(W w 9),(W w 10),(W w 11),(W w 12)]) fun x24 h=>L h) (fun h23 h=>lJ h23<|aB h (u7 y2.Kind) fun r24 h=>lJ h23<|aM h (fun h26 h=>sJ (congrArg not h26)<|ai (g0 h23)<|ai (congrArg not h26)<|ai h23<|aB h (mQ R hR a0 a1 a2 v0_7 y2 x14 r16 u5_1 false [(.b false),.sk,.sk,(.b (!r24)),(.b (!r24)),(.b r24),(I y2.Kind),(W w 0),(W w 1),(W w 2),(W w 3),(W w 4),(W w 5),(W w 6),(W w 7),(W w 8),(W w 9),(W w 10),(W w 11),(W w 12)]) fun x27 h=>L h) (fun h26 h=>sJ (congrArg not h26)<|ai (g0 h23)<|ai (congrArg not h26)<|ai h23<|aB h (mQ R hR a0 a1 a2 v0_7 y2 x14 r16 u5_1 (!x14) [(.b (!x14)),(.b (!x14)),(.b x14),(.b (!r24)),(.b (!r24)),(.b r24),(I y2.Kind),(W w 0),(W w 1),(W w 2),(W w 3),(W w 4),(W w 5),(W w 6),(W w 7),(W w 8),(W w 9),(W w 10),(W w 11),(W w 12)]) fun x27 h=>L h))
def z6:List cK:=(gM 81 9)::(gp 82 (.ca 0 61 [81]))::(gp 83 (.no 82))::(gM 84 83)::⟨some 85,.fa 1 8,some ⟨84,true⟩,false⟩::⟨some 86,.ld none 85,some ⟨84,true⟩,false⟩::⟨some 87,.bo .neq false 86 (kI 0),some ⟨84,true⟩,false⟩::(gp 88 (.pk 84 87 (.c (.b false))))::(gM 89 88)::⟨some 90,.mv 9,some ⟨89,false⟩,false⟩::⟨some 91,.ca 0 14 [90,(kI 2),(kI 4)],some ⟨89,false⟩,false⟩::⟨some 92,.no 91,some ⟨89,false⟩,false⟩::⟨some 93,.mv 92,some ⟨89,false⟩,false⟩::⟨some 94,.fa 2 8,some ⟨93,true⟩,false⟩::⟨some 95,.ld none 94,some ⟨93,true⟩,false⟩::⟨some 96,.bo .neq false 95 (kI 0),some ⟨93,true⟩,false⟩::⟨some 97,.pk 93 96 (.c (.b false)),some ⟨89,false⟩,false⟩::(gp 98 (.pk 89 (.c (.b true)) 97))::sa
def kz(v0_7:Nat)(y2:Stmt)(x14:Bool):Option Bool:=
 (pO y2.Kind).bind fun (r16:Bool)=>
 if r16=true then
  (b8 y2.Kind 2 4).bind fun (r19:Bool)=>
  if r19=true then
   (dO R a0 a1 a2 v0_7 y2 x14 r16 false).bind fun (x22:Bool)=>
   some x22
  else
   (dO R a0 a1 a2 v0_7 y2 x14 r16 (y2.Other !=0)).bind fun (x22:Bool)=>
   some x22
 else
  if (y2.Var !=0)=true then
   (dO R a0 a1 a2 v0_7 y2 x14 r16 true).bind fun (x20:Bool)=>
   some x20
  else
   (b8 y2.Kind 2 4).bind fun (r20:Bool)=>
   if r20=true then
    (dO R a0 a1 a2 v0_7 y2 x14 r16 false).bind fun (x23:Bool)=>
    some x23
   else
    (dO R a0 a1 a2 v0_7 y2 x14 r16 (y2.Other !=0)).bind fun (x23:Bool)=>
    some x23
abbrev z7(v0_7:Nat)(y2:Stmt)(x14:Bool)(x:Bool):St:=⟨[(1,(I a1)),(2,(.l 65 (a2.map au))),(3,(.p ⟨0,3⟩ 0)),(7,(I (v0_7:Int))),(8,(.p ⟨0,8⟩ 0)),(9,(I y2.Kind)),(137,(.b x))],[(3,(ah a0)),(8,(af y2))],H0⟩
theorem yk(hR:b7 R)(a0:Program)(a1:Int)(a2:(List Stmt))(v0_7:Nat)(y2:Stmt)(x14:Bool)(x:Bool)(h:kz R a0 a1 a2 v0_7 y2 x14=some x):ew G Ω0 E0 [1,2,3,7,8,9,137] [3,8] z6 ⟨[(1,(I a1)),(2,(.l 65 (a2.map au))),(3,(.p ⟨0,3⟩ 0)),(7,(I (v0_7:Int))),(8,(.p ⟨0,8⟩ 0)),(9,(I y2.Kind)),(11,(.b x14))],[(3,(ah a0)),(8,(af y2))],H0⟩=some (z7 a0 a1 a2 v0_7 y2 x14 x):=
 dj (xB fun r16=>.or (bf<|bf<|bf<|bf<|bt<|bt<|xB fun r19=>b5<|.or (Aq<|.jb (some 99) 38<|.ex fun (x22:Bool)=>ao (.jn ⟨[(1,(I a1)),(2,(.l 65 (a2.map au))),(3,(.p ⟨0,3⟩ 0)),(7,(I (v0_7:Int))),(8,(.p ⟨0,8⟩ 0)),(9,(I y2.Kind)),(137,(.b x22))],[(3,(ah a0)),(8,(af y2))],H0⟩)<|.nil) (B3<|.jb (some 99) 38<|.ex fun (x22:Bool)=>ao (.jn ⟨[(1,(I a1)),(2,(.l 65 (a2.map au))),(3,(.p ⟨0,3⟩ 0)),(7,(I (v0_7:Int))),(8,(.p ⟨0,8⟩ 0)),(9,(I y2.Kind)),(137,(.b x22))],[(3,(ah a0)),(8,(af y2))],H0⟩)<|.nil)) (js<|.or (Dt<|.jb (some 99) 38<|.ex fun (x20:Bool)=>ao (.jn ⟨[(1,(I a1)),(2,(.l 65 (a2.map au))),(3,(.p ⟨0,3⟩ 0)),(7,(I (v0_7:Int))),(8,(.p ⟨0,8⟩ 0)),(9,(I y2.Kind)),(137,(.b x20))],[(3,(ah a0)),(8,(af y2))],H0⟩)<|.nil) (b5<|xB fun r20=>b5<|.or (Aq<|.jb (some 99) 38<|.ex fun (x23:Bool)=>ao (.jn ⟨[(1,(I a1)),(2,(.l 65 (a2.map au))),(3,(.p ⟨0,3⟩ 0)),(7,(I (v0_7:Int))),(8,(.p ⟨0,8⟩ 0)),(9,(I y2.Kind)),(137,(.b x23))],[(3,(ah a0)),(8,(af y2))],H0⟩)<|.nil) (B3<|.jb (some 99) 38<|.ex fun (x23:Bool)=>ao (.jn ⟨[(1,(I a1)),(2,(.l 65 (a2.map au))),(3,(.p ⟨0,3⟩ 0)),(7,(I (v0_7:Int))),(8,(.p ⟨0,8⟩ 0)),(9,(I y2.Kind)),(137,(.b x23))],[(3,(ah a0)),(8,(af y2))],H0⟩)<|.nil)))) fun L=>aB h (wE y2.Kind) fun r16 h=>aM h (fun h18 h=>ai (g1 (congrArg not h18))<|ai (g1 (congrArg not h18))<|ai (g1 (congrArg not h18))<|ai (congrArg not h18)<|ai hf<|ai hf<|aB h (bW y2.Kind 2 4) fun r19 h=>ai hf<|ai hf<|aM h (fun h21 h=>HW (congrArg not h21)<|aB h (gu R hR a0 a1 a2 v0_7 y2 x14 r16 false [(.b false),.sk,.sk,.sk,(.b (!r19)),(.b (!r19)),(.b r19),(I y2.Kind),(.b false),(.b false),.sk,.sk,.sk]) fun x22 h=>L h) (fun h21 h=>Qj (congrArg not h21)<|aB h (gu R hR a0 a1 a2 v0_7 y2 x14 r16 (y2.Other !=0) [(.b (y2.Other !=0)),(.b (y2.Other !=0)),(I y2.Other),(.p ⟨0,8⟩ 2),(.b (!r19)),(.b (!r19)),(.b r19),(I y2.Kind),(.b false),(.b false),.sk,.sk,.sk]) fun x22 h=>L h)) (fun h18 h=>ai (g1 (congrArg not h18))<|ai (g1 (congrArg not h18))<|ai (rfl:Z0)<|ai (g1 (congrArg not h18))<|ai (congrArg not h18)<|aM h (fun h19 h=>Dq h19<|aB h (gu R hR a0 a1 a2 v0_7 y2 x14 r16 true [.sk,.sk,.sk,.sk,.sk,.sk,.sk,.sk,(.b (y2.Var !=0)),(.b (y2.Var !=0)),(.b (y2.Var !=0)),(I y2.Var),(.p ⟨0,8⟩ 1)]) fun x20 h=>L h) (fun h19 h=>lJ h19<|aB h (bW y2.Kind 2 4) fun r20 h=>lJ h19<|aM h (fun h22 h=>Ey (congrArg not h22)<|ai (g0 h19)<|ai (congrArg not h22)<|ai h19<|aB h (gu R hR a0 a1 a2 v0_7 y2 x14 r16 false [(.b false),.sk,.sk,.sk,(.b (!r20)),(.b (!r20)),(.b r20),(I y2.Kind),(.b (y2.Var !=0)),(.b (y2.Var !=0)),(.b (y2.Var !=0)),(I y2.Var),(.p ⟨0,8⟩ 1)]) fun x23 h=>L h) (fun h22 h=>Ap (congrArg not h22)<|ai (g0 h19)<|ai (congrArg not h22)<|ai h19<|aB h (gu R hR a0 a1 a2 v0_7 y2 x14 r16 (y2.Other !=0) [(.b (y2.Other !=0)),(.b (y2.Other !=0)),(I y2.Other),(.p ⟨0,8⟩ 2),(.b (!r20)),(.b (!r20)),(.b r20),(I y2.Kind),(.b (y2.Var !=0)),(.b (y2.Var !=0)),(.b (y2.Var !=0)),(I y2.Var),(.p ⟨0,8⟩ 1)]) fun x23 h=>L h)))
def jj(R:dM)(a0:Program)(a1:Int)(a2:(List Stmt))(v0_7:Nat)(y2:Stmt)(v1_12:Int)(v1_13:Nat):Option ((Int×Nat)⊕(Bool×Int×Nat)):=
 if (v1_13:Int)<(y2.Args.length:Int) then
  if (v1_12==0)=true then
   (y2.Args[v1_13]?).bind fun (y32:ag)=>
   (jD y32 (a0.Vars.length:Int)).bind fun (r34:Int)=>
   if IntKind.i64.wrap ((v1_13:Int)+1)=((v1_13+1:Nat):Int) then
    some (.inl (r34,v1_13+1))
   else none
  else
   some (.inr (v1_12==0,v1_12,v1_13))
 else
  some (.inr (false,v1_12,v1_13))
abbrev Bm(v0_7:Nat)(y2:Stmt)(v:(Int×Nat)):St:=⟨[(1,(I a1)),(2,(.l 65 (a2.map au))),(3,(.p ⟨0,3⟩ 0)),(7,(I (v0_7:Int))),(8,(.p ⟨0,8⟩ 0)),(12,(I v.1)),(13,(I (v.2:Int)))],[(3,(ah a0)),(8,(af y2))],H0⟩
abbrev Bn(v0_7:Nat)(y2:Stmt)(x:(Bool×Int×Nat)):aJ×St:=((.ex 2),⟨[(1,(I a1)),(2,(.l 65 (a2.map au))),(3,(.p ⟨0,3⟩ 0)),(7,(I (v0_7:Int))),(8,(.p ⟨0,8⟩ 0)),(12,(I x.2.1)),(13,(I (x.2.2:Int))),(170,(.b x.1))],[(3,(ah a0)),(8,(af y2))],H0⟩)
theorem z8(hR:b7 R)(a0:Program)(a1:Int)(a2:(List Stmt))(v0_7:Nat)(y2:Stmt)(v1_12:Int)(v1_13:Nat)(o:(Int×Nat)⊕(Bool×Int×Nat))(h:jj R a0 a1 a2 v0_7 y2 v1_12 v1_13=some o):bu E0 LM (Bm a0 a1 a2 v0_7 y2) (Bn a0 a1 a2 v0_7 y2) (v1_12,v1_13) o:=
 bD (bt<|ao (.i (y2.Args.length:Int))<|.or (cR<|.or (b5<|ao (.n v1_13)<|.ex fun (y32:ag)=>ao (.v (.a (bn y32)))<|bt<|ao (.i (a0.Vars.length:Int))<|xI fun r34=>ao (.i ((v1_13+1:Nat):Int))<|.nil) (bf<|.nil)) (FI<|.nil)) fun L=>ai (rfl:Z0)<|ai (ax aD y2.Args)<|bB h (fun h30 h=>kl (decide_eq_true h30)<|aM h (fun h31 h=>II h31<|ai (rI v1_13)<|ba h fun y32 h33 h=>ai (cF aD h33 (dm _))<|ai tt<|ai tt<|ai tt<|ai (rfl:Z0)<|ai tt<|ai (ax bH a0.Vars)<|ai tt<|aB h (pc y32 (a0.Vars.length:Int)) fun r34 h=>aA h fun w36 h=>ai w36<|L h) (fun h31 h=>ai h31<|L h)) (fun h30 h=>ai (g1 (decide_eq_false h30))<|ai (g1 (decide_eq_false h30))<|ai (decide_eq_false h30)<|ai ff<|L h)
def ib(R:dM)(a0:Program)(a1:Int)(a2:(List Stmt))(v0_7:Nat)(w9_1:Int):Option (Int⊕(Int×Bool)):=
 if (w9_1 !=0)=true then
  some (.inl w9_1)
 else
  some (.inr (w9_1,w9_1 !=0))
abbrev z9(v0_7:Nat)(w9_1:Int)(x:(Int⊕(Int×Bool))):aJ×St:=match x with | .inl z1=>(.ret,⟨[(6,(I z1))],[],H0⟩) | .inr (z1,z2)=>(.nrm,⟨[(1,(I a1)),(2,(.l 65 (a2.map au))),(3,(.p ⟨0,3⟩ 0)),(7,(I (v0_7:Int))),(12,(I z1)),(197,(.b z2))],[(3,(ah a0))],H0⟩)
theorem rh(hR:b7 R)(a0:Program)(a1:Int)(a2:(List Stmt))(v0_7:Nat)(w9_1:Int)(x:(Int⊕(Int×Bool)))(h:ib R a0 a1 a2 v0_7 w9_1=some x):run G Ω0 E0 LN ⟨[(1,(I a1)),(2,(.l 65 (a2.map au))),(3,(.p ⟨0,3⟩ 0)),(7,(I (v0_7:Int))),(12,(I w9_1))],[(3,(ah a0))],H0⟩=some (z9 a0 a1 a2 v0_7 w9_1 x):=
 ga (oN (.nil)) fun L=>aM h (fun h38 h=>ai h38<|L h) (fun h38 h=>ai h38<|L h)
def ic(v0_7:Nat)(y2:Stmt)(w8_1:Int):Option (Int⊕(Int×Bool)):=
 if (w8_1==0)=true then
  (R.f_R_checkStmts a0 a1 y2.Else).bind fun (r36:Int)=>
  (ib R a0 a1 a2 v0_7 r36).bind fun (x38:(Int⊕(Int×Bool)))=>match x38 with
  | .inl ya_39=>
   some (.inl ya_39)
  | .inr yb_39=>
   some (.inr (yb_39.1,yb_39.2))
 else
  (ib R a0 a1 a2 v0_7 w8_1).bind fun (x36:(Int⊕(Int×Bool)))=>match x36 with
  | .inl ya_37=>
   some (.inl ya_37)
  | .inr yb_37=>
   some (.inr (yb_37.1,yb_37.2))
abbrev Aa(v0_7:Nat)(y2:Stmt)(w8_1:Int)(x:(Int⊕(Int×Bool))):aJ×St:=match x with | .inl z1=>(.ret,⟨[(6,(I z1))],[],H0⟩) | .inr (z1,z2)=>(.nrm,⟨[(1,(I a1)),(2,(.l 65 (a2.map au))),(3,(.p ⟨0,3⟩ 0)),(7,(I (v0_7:Int))),(12,(I z1)),(197,(.b z2))],[(3,(ah a0))],H0⟩)
theorem ri(hR:b7 R)(a0:Program)(a1:Int)(a2:(List Stmt))(v0_7:Nat)(y2:Stmt)(w8_1:Int)(x:(Int⊕(Int×Bool)))(h:ic R a0 a1 a2 v0_7 y2 w8_1=some x):run G Ω0 E0 LO ⟨[(1,(I a1)),(2,(.l 65 (a2.map au))),(3,(.p ⟨0,3⟩ 0)),(7,(I (v0_7:Int))),(8,(.p ⟨0,8⟩ 0)),(12,(I w8_1))],[(3,(ah a0)),(8,(af y2))],H0⟩=some (Aa a0 a1 a2 v0_7 y2 w8_1 x):=
 ga (.or (cR<|xI fun r36=>.fb<|.or (.ex fun (ya_39:Int)=>ao (.fr .ret ⟨[(6,(I ya_39))],[],H0⟩)<|.nil) (.ex fun (yb_39:(Int×Bool))=>ao (.fr .nrm ⟨[(1,(I a1)),(2,(.l 65 (a2.map au))),(3,(.p ⟨0,3⟩ 0)),(7,(I (v0_7:Int))),(12,(I yb_39.1)),(197,(.b yb_39.2))],[(3,(ah a0))],H0⟩)<|.nil)) (bf<|.fb<|.or (.ex fun (ya_37:Int)=>ao (.fr .ret ⟨[(6,(I ya_37))],[],H0⟩)<|.nil) (.ex fun (yb_37:(Int×Bool))=>ao (.fr .nrm ⟨[(1,(I a1)),(2,(.l 65 (a2.map au))),(3,(.p ⟨0,3⟩ 0)),(7,(I (v0_7:Int))),(12,(I yb_37.1)),(197,(.b yb_37.2))],[(3,(ah a0))],H0⟩)<|.nil))) fun L=>aM h (fun h35 h=>Dr h35<|aB h (hR.f_R_checkStmts a0 a1 y2.Else) fun r36 h=>bO h (rh R hR a0 a1 a2 v0_7 r36) (fun ya_39 h=>L h) (fun yb_39 h=>L h)) (fun h35 h=>ai h35<|bO h (rh R hR a0 a1 a2 v0_7 w8_1) (fun ya_37 h=>L h) (fun yb_37 h=>L h))
def fA(v0_7:Nat)(y2:Stmt)(w5_1:Int):Option (Int⊕(Int×Bool)):=
 (lp (fun v=>jj R a0 a1 a2 v0_7 y2 v.1 v.2) (w5_1,0)).bind fun (x30:(Bool×Int×Nat))=>
 if (x30.2.1==0)=true then
  (R.f_R_checkStmts a0 a1 y2.Then).bind fun (r33:Int)=>
  (ic R a0 a1 a2 v0_7 y2 r33).bind fun (x35:(Int⊕(Int×Bool)))=>match x35 with
  | .inl ya_36=>
   some (.inl ya_36)
  | .inr yb_36=>
   some (.inr (yb_36.1,yb_36.2))
 else
  (ic R a0 a1 a2 v0_7 y2 x30.2.1).bind fun (x33:(Int⊕(Int×Bool)))=>match x33 with
  | .inl ya_34=>
   some (.inl ya_34)
  | .inr yb_34=>
   some (.inr (yb_34.1,yb_34.2))
abbrev Ab(v0_7:Nat)(y2:Stmt)(w5_1:Int)(x:(Int⊕(Int×Bool))):aJ×St:=match x with | .inl z1=>(.ret,⟨[(6,(I z1))],[],H0⟩) | .inr (z1,z2)=>(.nrm,⟨[(1,(I a1)),(2,(.l 65 (a2.map au))),(3,(.p ⟨0,3⟩ 0)),(7,(I (v0_7:Int))),(12,(I z1)),(197,(.b z2))],[(3,(ah a0))],H0⟩)
theorem rj(hR:b7 R)(a0:Program)(a1:Int)(a2:(List Stmt))(v0_7:Nat)(y2:Stmt)(w5_1:Int)(x:(Int⊕(Int×Bool)))(h:fA R a0 a1 a2 v0_7 y2 w5_1=some x):run G Ω0 E0 LP ⟨[(1,(I a1)),(2,(.l 65 (a2.map au))),(3,(.p ⟨0,3⟩ 0)),(7,(I (v0_7:Int))),(8,(.p ⟨0,8⟩ 0)),(12,(I w5_1))],[(3,(ah a0)),(8,(af y2))],H0⟩=some (Ab a0 a1 a2 v0_7 y2 w5_1 x):=
 ga (.ex fun (x30:(Bool×Int×Nat))=>ao (.lp (.ex 2) ⟨[(1,(I a1)),(2,(.l 65 (a2.map au))),(3,(.p ⟨0,3⟩ 0)),(7,(I (v0_7:Int))),(8,(.p ⟨0,8⟩ 0)),(12,(I x30.2.1)),(13,(I (x30.2.2:Int))),(170,(.b x30.1))],[(3,(ah a0)),(8,(af y2))],H0⟩)<|.or (cR<|xI fun r33=>.fb<|.or (.ex fun (ya_36:Int)=>ao (.fr .ret ⟨[(6,(I ya_36))],[],H0⟩)<|.nil) (.ex fun (yb_36:(Int×Bool))=>ao (.fr .nrm ⟨[(1,(I a1)),(2,(.l 65 (a2.map au))),(3,(.p ⟨0,3⟩ 0)),(7,(I (v0_7:Int))),(12,(I yb_36.1)),(197,(.b yb_36.2))],[(3,(ah a0))],H0⟩)<|.nil)) (bf<|.fb<|.or (.ex fun (ya_34:Int)=>ao (.fr .ret ⟨[(6,(I ya_34))],[],H0⟩)<|.nil) (.ex fun (yb_34:(Int×Bool))=>ao (.fr .nrm ⟨[(1,(I a1)),(2,(.l 65 (a2.map au))),(3,(.p ⟨0,3⟩ 0)),(7,(I (v0_7:Int))),(12,(I yb_34.1)),(197,(.b yb_34.2))],[(3,(ah a0))],H0⟩)<|.nil))) fun L=>aB h (cV (fun v=>z8 R hR a0 a1 a2 v0_7 y2 v.1 v.2) (w5_1,0)) fun x30 h=>aM h (fun h32 h=>Dr h32<|aB h (hR.f_R_checkStmts a0 a1 y2.Then) fun r33 h=>bO h (ri R hR a0 a1 a2 v0_7 y2 r33) (fun ya_36 h=>L h) (fun yb_36 h=>L h)) (fun h32 h=>ai h32<|bO h (ri R hR a0 a1 a2 v0_7 y2 x30.2.1) (fun ya_34 h=>L h) (fun yb_34 h=>L h))
def eN(v0_7:Nat)(y2:Stmt):Option (Int⊕(Int×Bool)):=
 (oF y2.Kind).bind fun (r25:Bool)=>
 if r25=true then
  (jD y2.Expr (a0.Vars.length:Int)).bind fun (r28:Int)=>
  (fA R a0 a1 a2 v0_7 y2 r28).bind fun (x30:(Int⊕(Int×Bool)))=>match x30 with
  | .inl ya_31=>
   some (.inl ya_31)
  | .inr yb_31=>
   some (.inr (yb_31.1,yb_31.2))
 else
  (fA R a0 a1 a2 v0_7 y2 0).bind fun (x28:(Int⊕(Int×Bool)))=>match x28 with
  | .inl ya_29=>
   some (.inl ya_29)
  | .inr yb_29=>
   some (.inr (yb_29.1,yb_29.2))
abbrev Ac(v0_7:Nat)(y2:Stmt)(x:(Int⊕(Int×Bool))):aJ×St:=match x with | .inl z1=>(.ret,⟨[(6,(I z1))],[],H0⟩) | .inr (z1,z2)=>(.nrm,⟨[(1,(I a1)),(2,(.l 65 (a2.map au))),(3,(.p ⟨0,3⟩ 0)),(7,(I (v0_7:Int))),(12,(I z1)),(197,(.b z2))],[(3,(ah a0))],H0⟩)
theorem rk(hR:b7 R)(a0:Program)(a1:Int)(a2:(List Stmt))(v0_7:Nat)(y2:Stmt)(x:(Int⊕(Int×Bool)))(h:eN R a0 a1 a2 v0_7 y2=some x):run G Ω0 E0 LQ ⟨[(1,(I a1)),(2,(.l 65 (a2.map au))),(3,(.p ⟨0,3⟩ 0)),(7,(I (v0_7:Int))),(8,(.p ⟨0,8⟩ 0)),(9,(I y2.Kind))],[(3,(ah a0)),(8,(af y2))],H0⟩=some (Ac a0 a1 a2 v0_7 y2 x):=
 ga (xB fun r25=>.or (cR<|ao (.i (a0.Vars.length:Int))<|xI fun r28=>.fb<|.or (.ex fun (ya_31:Int)=>ao (.fr .ret ⟨[(6,(I ya_31))],[],H0⟩)<|.nil) (.ex fun (yb_31:(Int×Bool))=>ao (.fr .nrm ⟨[(1,(I a1)),(2,(.l 65 (a2.map au))),(3,(.p ⟨0,3⟩ 0)),(7,(I (v0_7:Int))),(12,(I yb_31.1)),(197,(.b yb_31.2))],[(3,(ah a0))],H0⟩)<|.nil)) (bf<|.fb<|.or (.ex fun (ya_29:Int)=>ao (.fr .ret ⟨[(6,(I ya_29))],[],H0⟩)<|.nil) (.ex fun (yb_29:(Int×Bool))=>ao (.fr .nrm ⟨[(1,(I a1)),(2,(.l 65 (a2.map au))),(3,(.p ⟨0,3⟩ 0)),(7,(I (v0_7:Int))),(12,(I yb_29.1)),(197,(.b yb_29.2))],[(3,(ah a0))],H0⟩)<|.nil))) fun L=>aB h (u7 y2.Kind) fun r25 h=>aM h (fun h27 h=>Dr h27<|ai (ax bH a0.Vars)<|aB h (pc y2.Expr (a0.Vars.length:Int)) fun r28 h=>bO h (rj R hR a0 a1 a2 v0_7 y2 r28) (fun ya_31 h=>L h) (fun yb_31 h=>L h)) (fun h27 h=>ai h27<|bO h (rj R hR a0 a1 a2 v0_7 y2 0) (fun ya_29 h=>L h) (fun yb_29 h=>L h))
def e6(v0_7:Nat):Option (Nat⊕(Unit⊕(Unit⊕(Int⊕(Unit⊕(Nat×Bool)))))):=
 if (v0_7:Int)<(a2.length:Int) then
  (a2[v0_7]?).bind fun (y2:Stmt)=>
  (b8 y2.Kind 1 8).bind fun (r4:Bool)=>
  if r4=true then
   (dU y2.Kind).bind fun (j7:Nat)=>
   (([0,0,a1,(a0.Ins.length:Int),(a0.Outs.length:Int),0,0,0,0])[j7]?).bind fun (y9:Int)=>
   (kx R a0 a1 a2 v0_7 y2 y9).bind fun (x11:Bool)=>
   if x11=true then
    some (.inr (.inl ()))
   else
    (ky R a0 a1 a2 v0_7 y2).bind fun (x14:Bool)=>
    (kz R a0 a1 a2 v0_7 y2 x14).bind fun (x16:Bool)=>
    if x16=true then
     some (.inr (.inr (.inl ())))
    else
     if (y2.Kind==2)=true then
      (dU y2.Other).bind fun (j20:Nat)=>
      (a0.Funcs[j20]?).bind fun (y22:Func)=>
      if ((y2.Args.length:Int) !=(y22.Params.length:Int))=true then
       some (.inr (.inr (.inl ())))
      else
       (eN R a0 a1 a2 v0_7 y2).bind fun (x25:(Int⊕(Int×Bool)))=>match x25 with
       | .inl ya_26=>
        some (.inr (.inr (.inr (.inl ya_26))))
       | .inr yb_26=>
        if IntKind.i64.wrap ((v0_7:Int)+1)=((v0_7+1:Nat):Int) then
         some (.inl (v0_7+1))
        else none
     else
      (eN R a0 a1 a2 v0_7 y2).bind fun (x20:(Int⊕(Int×Bool)))=>match x20 with
      | .inl ya_21=>
       some (.inr (.inr (.inr (.inl ya_21))))
      | .inr yb_21=>
       if IntKind.i64.wrap ((v0_7:Int)+1)=((v0_7+1:Nat):Int) then
        some (.inl (v0_7+1))
       else none
  else
   some (.inr (.inr (.inr (.inr (.inl ())))))
 else
  some (.inr (.inr (.inr (.inr (.inr (v0_7,decide ((v0_7:Int)<(a2.length:Int))))))))
abbrev Bo(v:Nat):St:=⟨[(1,(I a1)),(2,(.l 65 (a2.map au))),(3,(.p ⟨0,3⟩ 0)),(7,(I (v:Int)))],[(3,(ah a0))],H0⟩
abbrev Bp(x:(Unit⊕(Unit⊕(Int⊕(Unit⊕(Nat×Bool)))))):aJ×St:=match x with | .inl ()=>(.ret,⟨[(6,(I 5))],[],H0⟩) | .inr (.inl ())=>(.ret,⟨[(6,(I 1))],[],H0⟩) | .inr (.inr (.inl z1))=>(.ret,⟨[(6,(I z1))],[],H0⟩) | .inr (.inr (.inr (.inl ())))=>(.ret,⟨[(6,(I 7))],[],H0⟩) | .inr (.inr (.inr (.inr (z1,z2))))=>((.ex 0),⟨[(1,(I a1)),(2,(.l 65 (a2.map au))),(3,(.p ⟨0,3⟩ 0)),(7,(I (z1:Int))),(17,(.b z2))],[(3,(ah a0))],H0⟩)
theorem Ad(hR:b7 R)(a0:Program)(a1:Int)(a2:(List Stmt))(v0_7:Nat)(o:Nat⊕(Unit⊕(Unit⊕(Int⊕(Unit⊕(Nat×Bool))))))(h:e6 R a0 a1 a2 v0_7=some o):bu E0 LR (Bo a0 a1 a2) (Bp a0 a1 a2) v0_7 o:=
 bD (ao (.i (a2.length:Int))<|.or (bt<|ao (.n v0_7)<|.ex fun (y2:Stmt)=>ao (.v (.a (af y2)))<|cR<|xB fun r4=>.or (rT<|ao (.i (a0.Ins.length:Int))<|bt<|ao (.i (a0.Outs.length:Int))<|ao (.l (([0,0,a1,(a0.Ins.length:Int),(a0.Outs.length:Int),0,0,0,0]).map (I)))<|xN fun j7=>xI fun y9=>.jb (some 40) 23<|.ex fun (x11:Bool)=>ao (.jn ⟨[(1,(I a1)),(2,(.l 65 (a2.map au))),(3,(.p ⟨0,3⟩ 0)),(7,(I (v0_7:Int))),(8,(.p ⟨0,8⟩ 0)),(9,(I y2.Kind)),(63,(.b x11))],[(3,(ah a0)),(8,(af y2))],H0⟩)<|oN (.jb (some 64) 17<|.ex fun (x14:Bool)=>ao (.jn ⟨[(1,(I a1)),(2,(.l 65 (a2.map au))),(3,(.p ⟨0,3⟩ 0)),(7,(I (v0_7:Int))),(8,(.p ⟨0,8⟩ 0)),(9,(I y2.Kind)),(11,(.b x14))],[(3,(ah a0)),(8,(af y2))],H0⟩)<|.jb (some 81) 56<|.ex fun (x16:Bool)=>ao (.jn ⟨[(1,(I a1)),(2,(.l 65 (a2.map au))),(3,(.p ⟨0,3⟩ 0)),(7,(I (v0_7:Int))),(8,(.p ⟨0,8⟩ 0)),(9,(I y2.Kind)),(137,(.b x16))],[(3,(ah a0)),(8,(af y2))],H0⟩)<|oN (.or (jt<|ao (.i (y2.Args.length:Int))<|AI<|xN fun j20=>.ex fun (y22:Func)=>ao (.v (.a (bL y22)))<|cR<|ao (.i (y22.Params.length:Int))<|b5<|oN (.fb<|.or (.ex fun (ya_26:Int)=>ao (.fr .ret ⟨[(6,(I ya_26))],[],H0⟩)<|.nil) (.ex fun (yb_26:(Int×Bool))=>ao (.fr .nrm ⟨[(1,(I a1)),(2,(.l 65 (a2.map au))),(3,(.p ⟨0,3⟩ 0)),(7,(I (v0_7:Int))),(12,(I yb_26.1)),(197,(.b yb_26.2))],[(3,(ah a0))],H0⟩)<|ao (.i ((v0_7+1:Nat):Int))<|.nil))) (bf<|bf<|bf<|bf<|bf<|bf<|bf<|bf<|bf<|bf<|bf<|bf<|bf<|bf<|.fb<|.or (.ex fun (ya_21:Int)=>ao (.fr .ret ⟨[(6,(I ya_21))],[],H0⟩)<|.nil) (.ex fun (yb_21:(Int×Bool))=>ao (.fr .nrm ⟨[(1,(I a1)),(2,(.l 65 (a2.map au))),(3,(.p ⟨0,3⟩ 0)),(7,(I (v0_7:Int))),(12,(I yb_21.1)),(197,(.b yb_21.2))],[(3,(ah a0))],H0⟩)<|ao (.i ((v0_7+1:Nat):Int))<|.nil))))) (bt<|.nil)) (bf<|.nil)) fun L=>ai (ax au a2)<|bB h (fun h1 h=>ai (decide_eq_true h1)<|ai (rI v0_7)<|ba h fun y2 h3 h=>ai (cF au h3 (ea _))<|xH<|aB h (bW y2.Kind 1 8) fun r4 h=>aM h (fun h6 h=>jr (congrArg not h6)<|ai (ax ar a0.Ins)<|ai (rfl:Z0)<|ai (ax ar a0.Outs)<|ai (rfl:[(I 0),(I 0),(I a1),(I (a0.Ins.length:Int)),(I (a0.Outs.length:Int)),(I 0),(I 0),(I 0),(I 0)]=([0,0,a1,(a0.Ins.length:Int),(a0.Outs.length:Int),0,0,0,0]).map (I))<|fG h fun j7 h8 h=>ai h8<|ba h fun y9 h10 h=>ai (ay (I) h10)<|aB h (yi R hR a0 a1 a2 v0_7 y2 y9) fun x11 h=>aM h (fun h13 h=>ai h13<|L h) (fun h13 h=>ai h13<|aB h (yj R hR a0 a1 a2 v0_7 y2) fun x14 h=>aB h (yk R hR a0 a1 a2 v0_7 y2 x14) fun x16 h=>aM h (fun h18 h=>ai h18<|L h) (fun h18 h=>Ds h18<|aM h (fun h19 h=>ai (g1 h19)<|ai tt<|ai (g1 h19)<|ai (rfl:Z0)<|ai tt<|ai (g1 h19)<|ai (ax aD y2.Args)<|ai tt<|ai (g1 h19)<|ai tt<|ai (g1 h19)<|ai (rfl:Z0)<|ai tt<|ai (g1 h19)<|ai tt<|ai (g1 h19)<|ai (rfl:Z0)<|ai tt<|ai (g1 h19)<|fG h fun j20 h21 h=>ai h21<|ba h fun y22 h23 h=>ai (ay bc h23)<|ai tt<|ai (g1 h19)<|ai tt<|ai (g1 h19)<|ai tt<|ai (g1 h19)<|ai (ax (I) y22.Params)<|ai tt<|ai (g1 h19)<|ai h19<|aM h (fun h24 h=>ai h24<|L h) (fun h24 h=>ai h24<|bO h (rk R hR a0 a1 a2 v0_7 y2) (fun ya_26 h=>L h) (fun yb_26 h=>aA h fun w28 h=>ai w28<|L h))) (fun h19 h=>ai (g1 h19)<|ai (g1 h19)<|ai (g1 h19)<|ai (g1 h19)<|ai (g1 h19)<|ai (g1 h19)<|ai (g1 h19)<|ai (g1 h19)<|ai (g1 h19)<|ai (g1 h19)<|ai (g1 h19)<|ai (g1 h19)<|ai h19<|ai ff<|bO h (rk R hR a0 a1 a2 v0_7 y2) (fun ya_21 h=>L h) (fun yb_21 h=>aA h fun w23 h=>ai w23<|L h))))) (fun h6 h=>ai (congrArg not h6)<|L h)) (fun h1 h=>ai (decide_eq_false h1)<|L h)
def l8:Option Int:=
 (lp (fun v=>e6 R a0 a1 a2 v) 0).bind fun (x1:(Unit⊕(Unit⊕(Int⊕(Unit⊕(Nat×Bool))))))=>match x1 with
 | .inl ya_2=>
  some 5
 | .inr (.inl yb_2)=>
  some 1
 | .inr (.inr (.inl yc_2))=>
  some yc_2
 | .inr (.inr (.inr (.inl yd_2)))=>
  some 7
 | .inr (.inr (.inr (.inr ye_2)))=>
  some 0
theorem yl(hR:b7 R)(a0:Program)(a1:Int)(a2:(List Stmt))(r:Int)(h:l8 R a0 a1 a2=some r):qw a0 a1 a2 r:=
 aO G37 (.or (.ex fun (ya_2:Unit)=>ao (.lp .ret ⟨[(6,(I 5))],[],H0⟩)<|.nil) (.or (.ex fun (yb_2:Unit)=>ao (.lp .ret ⟨[(6,(I 1))],[],H0⟩)<|.nil) (.or (.ex fun (yc_2:Int)=>ao (.lp .ret ⟨[(6,(I yc_2))],[],H0⟩)<|.nil) (.or (.ex fun (yd_2:Unit)=>ao (.lp .ret ⟨[(6,(I 7))],[],H0⟩)<|.nil) (.ex fun (ye_2:(Nat×Bool))=>ao (.lp (.ex 0) ⟨[(1,(I a1)),(2,(.l 65 (a2.map au))),(3,(.p ⟨0,3⟩ 0)),(7,(I (ye_2.1:Int))),(17,(.b ye_2.2))],[(3,(ah a0))],H0⟩)<|.nil))))) fun L=>ai tt<|IG h (cV (Ad R hR a0 a1 a2) 0) (fun ya_2 h=>L h) (fun yb_2 h=>L h) (fun yc_2 h=>L h) (fun yd_2 h=>L h) (fun ye_2 h=>L h)
def iQ:Nat→dM
 | 0=>⟨fun z0 z1 z2=>none⟩
 | n+1=>⟨l8 (iQ n)⟩
theorem tW:∀ n,b7 (iQ n)
 | 0=>⟨fun _ _ _ r h=>(by cases h)⟩
 | n+1=>⟨fun a0 a1 a2 r h=>yl _ (tW n) a0 a1 a2 r h⟩
def nH:Option Int:=ev fun n=>(iQ n).f_R_checkStmts a0 a1 a2
theorem sb(r:Int)(h:nH a0 a1 a2=some r):qw a0 a1 a2 r:=by
 obtain ⟨n,hn⟩:=iO h
 exact (tW n).f_R_checkStmts a0 a1 a2 r hn
def qc:List cK:=(gM 45 44)::⟨some 46,.fa 2 1,some ⟨45,false⟩,false⟩::⟨some 47,.ld none 46,some ⟨45,false⟩,false⟩::⟨some 48,.ln false 47,some ⟨45,false⟩,false⟩::⟨some 49,.fa 0 1,some ⟨45,false⟩,false⟩::⟨some 50,.fa 0 49,some ⟨45,false⟩,false⟩::⟨some 51,.ld none 50,some ⟨45,false⟩,false⟩::⟨some 52,.bo .gtr false 48 51,some ⟨45,false⟩,false⟩::(gp 53 (.pk 45 (.c (.b true)) 52))::[]
def eT(u2_1:Bool):Option Bool:=
 if u2_1=true then
  some true
 else
  some (decide (a0.an.Many<(a0.Speak.length:Int)))
abbrev wV(u2_1:Bool)(x:Bool):St:=⟨[(1,(.p ⟨0,1⟩ 0)),(53,(.b x))],[(1,(ah a0))],H0⟩
theorem iD(u2_1:Bool)(w:List AV)(x:Bool)(h:eT a0 u2_1=some x):ew G Ω0 E0 [1,53] [1] qc ⟨[(44,(.b u2_1)),(43,(W w 0)),(42,(W w 1)),(41,(W w 2)),(40,(W w 3)),(39,(W w 4)),(38,(W w 5)),(37,(W w 6)),(36,(W w 7)),(35,(W w 8)),(34,(W w 9)),(33,(W w 10)),(32,(W w 11)),(31,(W w 12)),(30,(W w 13)),(29,(W w 14)),(28,(W w 15)),(27,(.b (decide (16<(a0.Vars.length:Int))))),(26,(.b (decide (16<(a0.Vars.length:Int))))),(25,(I (a0.Vars.length:Int))),(24,(.l 91 (a0.Vars.map bH))),(23,(.p ⟨0,1⟩ 5)),(1,(.p ⟨0,1⟩ 0))],[(1,(ah a0))],H0⟩=some (wV a0 u2_1 x):=
 dj (.or (bf<|bf<|bf<|bf<|bf<|bf<|bf<|bt<|.nil) (jt<|ao (.i (a0.Speak.length:Int))<|FG<|.nil)) fun L=>aM h (fun h7 h=>ai (g0 h7)<|ai (g0 h7)<|ai (g0 h7)<|ai (g0 h7)<|ai (g0 h7)<|ai (g0 h7)<|ai (g0 h7)<|ai h7<|L h) (fun h7 h=>B0 h7<|ai (ax (I) a0.Speak)<|ai (g0 h7)<|ai (g0 h7)<|ai (g0 h7)<|ai (rfl:Z0)<|ai (g0 h7)<|ai h7<|L h)
def wW:List cK:=(gF 23 5 1)::(gQ 24 23)::(gp 25 (.ln false 24))::(gB 26 .gtr 25 (kI 16))::(gM 27 26)::⟨some 28,.fa 3 1,some ⟨27,false⟩,false⟩::⟨some 29,.ld none 28,some ⟨27,false⟩,false⟩::⟨some 30,.ln false 29,some ⟨27,false⟩,false⟩::⟨some 31,.bo .gtr false 30 (kI 5),some ⟨27,false⟩,false⟩::(gp 32 (.pk 27 (.c (.b true)) 31))::(gM 33 32)::⟨some 34,.fa 4 1,some ⟨33,false⟩,false⟩::⟨some 35,.ld none 34,some ⟨33,false⟩,false⟩::⟨some 36,.ln false 35,some ⟨33,false⟩,false⟩::⟨some 37,.bo .gtr false 36 (kI 5),some ⟨33,false⟩,false⟩::(gp 38 (.pk 33 (.c (.b true)) 37))::(gM 39 38)::⟨some 40,.fa 6 1,some ⟨39,false⟩,false⟩::⟨some 41,.ld none 40,some ⟨39,false⟩,false⟩::⟨some 42,.ln false 41,some ⟨39,false⟩,false⟩::⟨some 43,.bo .gtr false 42 (kI 5),some ⟨39,false⟩,false⟩::(gp 44 (.pk 39 (.c (.b true)) 43))::qc
def jq:Option Bool:=
 if 16<(a0.Vars.length:Int) then
  (eT a0 true).bind fun (x5:Bool)=>
  some x5
 else
  if 5<(a0.Ins.length:Int) then
   (eT a0 true).bind fun (x6:Bool)=>
   some x6
  else
   if 5<(a0.Outs.length:Int) then
    (eT a0 true).bind fun (x7:Bool)=>
    some x7
   else
    (eT a0 (decide (5<(a0.Funcs.length:Int)))).bind fun (x7:Bool)=>
    some x7
abbrev wX(x:Bool):St:=⟨[(1,(.p ⟨0,1⟩ 0)),(53,(.b x))],[(1,(ah a0))],H0⟩
theorem vX(x:Bool)(h:jq a0=some x):ew G Ω0 E0 [1,53] [1] wW ⟨[(1,(.p ⟨0,1⟩ 0))],[(1,(ah a0))],H0⟩=some (wX a0 x):=
 dj (bt<|ao (.i (a0.Vars.length:Int))<|.or (Qk<|.jb (some 45) 8<|.ex fun (x5:Bool)=>ao (.jn ⟨[(1,(.p ⟨0,1⟩ 0)),(53,(.b x5))],[(1,(ah a0))],H0⟩)<|.nil) (jt<|ao (.i (a0.Ins.length:Int))<|fF<|.or (Ql<|.jb (some 45) 8<|.ex fun (x6:Bool)=>ao (.jn ⟨[(1,(.p ⟨0,1⟩ 0)),(53,(.b x6))],[(1,(ah a0))],H0⟩)<|.nil) (jt<|ao (.i (a0.Outs.length:Int))<|fF<|.or (wA<|.jb (some 45) 8<|.ex fun (x7:Bool)=>ao (.jn ⟨[(1,(.p ⟨0,1⟩ 0)),(53,(.b x7))],[(1,(ah a0))],H0⟩)<|.nil) (jt<|ao (.i (a0.Funcs.length:Int))<|fF<|.jb (some 45) 8<|.ex fun (x7:Bool)=>ao (.jn ⟨[(1,(.p ⟨0,1⟩ 0)),(53,(.b x7))],[(1,(ah a0))],H0⟩)<|.nil)))) fun L=>ai (rfl:Z0)<|ai (ax bH a0.Vars)<|bB h (fun h4 h=>ai (g0 (decide_eq_true h4))<|ai (g0 (decide_eq_true h4))<|ai (g0 (decide_eq_true h4))<|ai (g0 (decide_eq_true h4))<|ai (decide_eq_true h4)<|ai ht<|ai ht<|ai ht<|ai ht<|ai tt<|ai ht<|ai ht<|ai ht<|ai ht<|ai tt<|aB h (iD a0 true [.sk,.sk,.sk,.sk,(.b true),(.b true),.sk,.sk,.sk,.sk,(.b true),(.b true),.sk,.sk,.sk,.sk]) fun x5 h=>L h) (fun h4 h=>B0 (decide_eq_false h4)<|ai (ax ar a0.Ins)<|nX (decide_eq_false h4)<|bB h (fun h5 h=>ai (g0 (decide_eq_true h5))<|ai (g0 (decide_eq_true h5))<|ai (g0 (decide_eq_true h5))<|ai (g0 (decide_eq_true h5))<|ai (decide_eq_true h5)<|ai ht<|ai ht<|ai ht<|ai ht<|ai tt<|aB h (iD a0 true [.sk,.sk,.sk,.sk,(.b true),(.b true),.sk,.sk,.sk,.sk,(.b (decide (5<(a0.Ins.length:Int)))),(.b (decide (5<(a0.Ins.length:Int)))),(.b (decide (5<(a0.Ins.length:Int)))),(I (a0.Ins.length:Int)),(.l 89 (a0.Ins.map ar)),(.p ⟨0,1⟩ 3)]) fun x6 h=>L h) (fun h5 h=>B0 (decide_eq_false h5)<|ai (ax ar a0.Outs)<|nX (decide_eq_false h5)<|bB h (fun h6 h=>wz (decide_eq_true h6)<|aB h (iD a0 true [.sk,.sk,.sk,.sk,(.b (decide (5<(a0.Outs.length:Int)))),(.b (decide (5<(a0.Outs.length:Int)))),(.b (decide (5<(a0.Outs.length:Int)))),(I (a0.Outs.length:Int)),(.l 89 (a0.Outs.map ar)),(.p ⟨0,1⟩ 4),(.b (decide (5<(a0.Ins.length:Int)))),(.b (decide (5<(a0.Ins.length:Int)))),(.b (decide (5<(a0.Ins.length:Int)))),(I (a0.Ins.length:Int)),(.l 89 (a0.Ins.map ar)),(.p ⟨0,1⟩ 3)]) fun x7 h=>L h) (fun h6 h=>B0 (decide_eq_false h6)<|ai (ax bc a0.Funcs)<|nX (decide_eq_false h6)<|aB h (iD a0 (decide (5<(a0.Funcs.length:Int))) [(.b (decide (5<(a0.Funcs.length:Int)))),(I (a0.Funcs.length:Int)),(.l 82 (a0.Funcs.map bc)),(.p ⟨0,1⟩ 6),(.b (decide (5<(a0.Outs.length:Int)))),(.b (decide (5<(a0.Outs.length:Int)))),(.b (decide (5<(a0.Outs.length:Int)))),(I (a0.Outs.length:Int)),(.l 89 (a0.Outs.map ar)),(.p ⟨0,1⟩ 4),(.b (decide (5<(a0.Ins.length:Int)))),(.b (decide (5<(a0.Ins.length:Int)))),(.b (decide (5<(a0.Ins.length:Int)))),(I (a0.Ins.length:Int)),(.l 89 (a0.Ins.map ar)),(.p ⟨0,1⟩ 3)]) fun x7 h=>L h)))
def ei(v0_4:Nat):Option (Nat⊕(Unit⊕(Nat×Bool))):=
 if (v0_4:Int)<(a0.Speak.length:Int) then
  (a0.Speak[v0_4]?).bind fun (y8:Int)=>
  (iK a0.an y8).bind fun (r10:Bool)=>
  if r10=true then
   if IntKind.i64.wrap ((v0_4:Int)+1)=((v0_4+1:Nat):Int) then
    some (.inl (v0_4+1))
   else none
  else
   some (.inr (.inl ()))
 else
  some (.inr (.inr (v0_4,decide ((v0_4:Int)<(a0.Speak.length:Int)))))
abbrev ym(v:Nat):St:=⟨[(1,(.p ⟨0,1⟩ 0)),(4,(I (v:Int)))],[(1,(ah a0))],H0⟩
abbrev yn(x:(Unit⊕(Nat×Bool))):aJ×St:=match x with | .inl ()=>(.ret,⟨[(2,(I 5))],[],H0⟩) | .inr (z1,z2)=>((.ex 0),⟨[(1,(.p ⟨0,1⟩ 0)),(4,(I (z1:Int))),(58,(.b z2))],[(1,(ah a0))],H0⟩)
theorem wY(v0_4:Nat)(o:Nat⊕(Unit⊕(Nat×Bool)))(h:ei a0 v0_4=some o):bu E0 Lo (ym a0) (yn a0) v0_4 o:=
 bD (bt<|ao (.i (a0.Speak.length:Int))<|.or (cR<|ao (.n v0_4)<|xI fun y8=>xB fun r10=>.or (bf<|ao (.i ((v0_4+1:Nat):Int))<|.nil) (bt<|.nil)) (bf<|.nil)) fun L=>ai (rfl:Z0)<|ai (ax (I) a0.Speak)<|bB h (fun h7 h=>ai (decide_eq_true h7)<|ai tt<|ai tt<|ai (rfl:Z0)<|ai tt<|ai tt<|ai (rfl:Z0)<|ai tt<|ai tt<|ai (rI v0_4)<|ba h fun y8 h9 h=>ai (ay (I) h9)<|cD<|aB h (kJ a0.an y8) fun r10 h=>aM h (fun h12 h=>ai (congrArg not h12)<|aA h fun w13 h=>ai w13<|L h) (fun h12 h=>ai (congrArg not h12)<|L h)) (fun h7 h=>ai (decide_eq_false h7)<|L h)
def jS(v1_5:(List Label))(v1_6:Nat):Option (((List Label)×Nat)⊕((List Label)×Nat×Bool)):=
 if (v1_6:Int)<(a0.Vars.length:Int) then
  (a0.Vars[v1_6]?).bind fun (y13:Var)=>
  if v1_5.length + [y13.Label].length≤1000000000 then
   if IntKind.i64.wrap ((v1_6:Int)+1)=((v1_6+1:Nat):Int) then
    some (.inl (v1_5++[y13.Label],v1_6+1))
   else none
  else none
 else
  some (.inr (v1_5,v1_6,decide ((v1_6:Int)<(a0.Vars.length:Int))))
abbrev yp(v:((List Label)×Nat)):St:=⟨[(1,(.p ⟨0,1⟩ 0)),(5,(.o 89 (v.1.map ar))),(6,(I (v.2:Int)))],[(1,(ah a0))],H0⟩
abbrev yq(x:((List Label)×Nat×Bool)):aJ×St:=((.ex 2),⟨[(1,(.p ⟨0,1⟩ 0)),(5,(.o 89 (x.1.map ar))),(6,(I (x.2.1:Int))),(81,(.b x.2.2))],[(1,(ah a0))],H0⟩)
theorem wZ(v1_5:(List Label))(v1_6:Nat)(o:((List Label)×Nat)⊕((List Label)×Nat×Bool))(h:jS a0 v1_5 v1_6=some o):bu E0 Lq (yp a0) (yq a0) (v1_5,v1_6) o:=
 bD (bt<|ao (.i (a0.Vars.length:Int))<|.or (b5<|ao (.n v1_6)<|.ex fun (y13:Var)=>ao (.v (.a (FK y13)))<|ao (.l ([y13.Label].map ar))<|ao (.l ((v1_5++[y13.Label]).map ar))<|ao (.i ((v1_6+1:Nat):Int))<|.nil) (bf<|.nil)) fun L=>ai (rfl:Z0)<|ai (ax bH a0.Vars)<|bB h (fun h12 h=>jr (decide_eq_true h12)<|ai (rI v1_6)<|ba h fun y13 h14 h=>ai (ay bH h14)<|ai (rfl:[(.a [(.l 134 (y13.Label.Read.map aY)),(.l 134 (y13.Label.Write.map aY))])]=[y13.Label].map ar)<|ai ff<|aA h fun h15 h=>ai ((dR ar (n:=2) (fun _=>rfl) [y13.Label]):([y13.Label].map ar).all (fun e=>e.nc==2)=true)<|ai ((fl h15 (by decide)):((v1_5.map ar).length+([y13.Label].map ar).length)*48≤140737488355328)<|ai ((fm h15):(v1_5.map ar).length+([y13.Label].map ar).length≤maxLen)<|ai (List.map_append.symm:v1_5.map ar++[y13.Label].map ar=(v1_5++[y13.Label]).map ar)<|aA h fun w16 h=>ai w16<|L h) (fun h12 h=>ai (decide_eq_false h12)<|L h)
def gv(x12:((List Label)×Nat×Bool))(v2_7:Nat):Option (Nat⊕(Int⊕(Nat×Bool))):=
 if (v2_7:Int)<(x12.1.length:Int) then
  (x12.1[v2_7]?).bind fun (y15:Label)=>
  (nC a0.an y15).bind fun (r17:Int)=>
  if (r17 !=0)=true then
   some (.inr (.inl r17))
  else
   if IntKind.i64.wrap ((v2_7:Int)+1)=((v2_7+1:Nat):Int) then
    some (.inl (v2_7+1))
   else none
 else
  some (.inr (.inr (v2_7,decide ((v2_7:Int)<(x12.1.length:Int)))))
abbrev yr(x12:((List Label)×Nat×Bool))(v:Nat):St:=⟨[(1,(.p ⟨0,1⟩ 0)),(5,(.o 89 (x12.1.map ar))),(7,(I (v:Int)))],[(1,(ah a0))],H0⟩
abbrev yt(x12:((List Label)×Nat×Bool))(x:(Int⊕(Nat×Bool))):aJ×St:=match x with | .inl z1=>(.ret,⟨[(2,(I z1))],[],H0⟩) | .inr (z1,z2)=>((.ex 4),⟨[(1,(.p ⟨0,1⟩ 0)),(5,(.o 89 (x12.1.map ar))),(7,(I (z1:Int))),(96,(.b z2))],[(1,(ah a0))],H0⟩)
theorem xa(x12:((List Label)×Nat×Bool))(v2_7:Nat)(o:Nat⊕(Int⊕(Nat×Bool)))(h:gv a0 x12 v2_7=some o):bu E0 Lr (yr a0 x12) (yt a0 x12) v2_7 o:=
 bD (ao (.i (x12.1.length:Int))<|.or (b5<|ao (.n v2_7)<|.ex fun (y15:Label)=>ao (.v (.a [(.l 134 (y15.Read.map aY)),(.l 134 (y15.Write.map aY))]))<|ao (.v (.a [(.l 134 (y15.Read.map aY)),(.l 134 (y15.Write.map aY))]))<|xI fun r17=>oN (ao (.i ((v2_7+1:Nat):Int))<|.nil)) (bf<|.nil)) fun L=>ai (ax ar x12.1)<|bB h (fun h14 h=>ai (decide_eq_true h14)<|ai tt<|ai tt<|ai (rfl:Z0)<|ai tt<|ai tt<|ai tt<|ai (rI v2_7)<|ba h fun y15 h16 h=>ai (ay ar h16)<|ai tt<|ai (ay ar h16)<|ai tt<|aB h (zN a0.an y15) fun r17 h=>aM h (fun h19 h=>ai h19<|L h) (fun h19 h=>ai h19<|aA h fun w20 h=>ai w20<|L h)) (fun h14 h=>ai (decide_eq_false h14)<|L h)
def ej(v3_9:Nat):Option (Nat⊕(Unit⊕(Nat×Bool))):=
 if (v3_9:Int)<(a0.Vars.length:Int) then
  (a0.Vars[v3_9]?).bind fun (y18:Var)=>
  if y18.Known=true then
   if IntKind.i64.wrap ((v3_9:Int)+1)=((v3_9+1:Nat):Int) then
    some (.inl (v3_9+1))
   else none
  else
   if 0<(y18.Label.Read.length:Int) then
    some (.inr (.inl ()))
   else
    if 0<(y18.Label.Write.length:Int) then
     some (.inr (.inl ()))
    else
     if IntKind.i64.wrap ((v3_9:Int)+1)=((v3_9+1:Nat):Int) then
      some (.inl (v3_9+1))
     else none
 else
  some (.inr (.inr (v3_9,decide ((v3_9:Int)<(a0.Vars.length:Int)))))
abbrev yu(v:Nat):St:=⟨[(1,(.p ⟨0,1⟩ 0)),(9,(I (v:Int)))],[(1,(ah a0))],H0⟩
abbrev yv(x:(Unit⊕(Nat×Bool))):aJ×St:=match x with | .inl ()=>(.ret,⟨[(2,(I 1))],[],H0⟩) | .inr (z1,z2)=>((.ex 6),⟨[(1,(.p ⟨0,1⟩ 0)),(9,(I (z1:Int))),(113,(.b z2))],[(1,(ah a0))],H0⟩)
theorem xb(v3_9:Nat)(o:Nat⊕(Unit⊕(Nat×Bool)))(h:ej a0 v3_9=some o):bu E0 Ls (yu a0) (yv a0) v3_9 o:=
 bD (bt<|ao (.i (a0.Vars.length:Int))<|.or (b5<|ao (.n v3_9)<|.ex fun (y18:Var)=>ao (.v (.a (FK y18)))<|cR<|.or (bf<|bf<|bf<|bf<|bf<|bf<|bf<|bf<|bf<|ao (.i ((v3_9+1:Nat):Int))<|.nil) (js<|ao (.i (y18.Label.Read.length:Int))<|b5<|.or (bf<|bf<|bf<|bf<|bf<|bt<|bt<|bt<|bt<|.nil) (js<|ao (.i (y18.Label.Write.length:Int))<|bt<|bt<|bf<|bt<|oN (ao (.i ((v3_9+1:Nat):Int))<|.nil)))) (bf<|.nil)) fun L=>ai (rfl:Z0)<|ai (ax bH a0.Vars)<|bB h (fun h17 h=>jr (decide_eq_true h17)<|ai (rI v3_9)<|ba h fun y18 h19 h=>ai (ay bH h19)<|xH<|aM h (fun h20 h=>ai (g1 (congrArg not h20))<|ai (g1 (congrArg not h20))<|ai (g1 (congrArg not h20))<|ai (g1 (congrArg not h20))<|ai (g1 (congrArg not h20))<|ai (g1 (congrArg not h20))<|ai (g1 (congrArg not h20))<|ai (congrArg not h20)<|ai ff<|aA h fun w21 h=>ai w21<|L h) (fun h20 h=>IJ (congrArg not h20)<|ai (ax aY y18.Label.Read)<|sJ (congrArg not h20)<|bB h (fun h21 h=>ai (g0 (decide_eq_true h21))<|ai (g0 (decide_eq_true h21))<|ai (g0 (decide_eq_true h21))<|ai (g0 (decide_eq_true h21))<|ai (g0 (decide_eq_true h21))<|ai (g1 (congrArg not h20))<|ai (decide_eq_true h21)<|ai (congrArg not h20)<|ai tt<|L h) (fun h21 h=>ai (g0 (decide_eq_false h21))<|ai (g0 (decide_eq_false h21))<|ai (g0 (decide_eq_false h21))<|ai (rfl:Z0)<|ai (g0 (decide_eq_false h21))<|ai (ax aY y18.Label.Write)<|ai (g0 (decide_eq_false h21))<|ai (g1 (congrArg not h20))<|ai (decide_eq_false h21)<|ai (congrArg not h20)<|bB h (fun h22 h=>ai (decide_eq_true h22)<|L h) (fun h22 h=>ai (decide_eq_false h22)<|aA h fun w23 h=>ai w23<|L h)))) (fun h17 h=>ai (decide_eq_false h17)<|L h)
def jT(v4_11:Int)(v4_12:Nat):Option ((Int×Nat)⊕(Int×Nat×Bool)):=
 if (v4_12:Int)<(a0.Funcs.length:Int) then
  (a0.Funcs[v4_12]?).bind fun (y23:Func)=>
  (oS y23.Body 1).bind fun (r25:Int)=>
  if IntKind.i64.wrap (v4_11+r25)=v4_11+r25 then
   if IntKind.i64.wrap ((v4_12:Int)+1)=((v4_12+1:Nat):Int) then
    some (.inl (v4_11+r25,v4_12+1))
   else none
  else none
 else
  some (.inr (v4_11,v4_12,decide ((v4_12:Int)<(a0.Funcs.length:Int))))
abbrev yw(v:(Int×Nat)):St:=⟨[(1,(.p ⟨0,1⟩ 0)),(11,(I v.1)),(12,(I (v.2:Int)))],[(1,(ah a0))],H0⟩
abbrev yx(x:(Int×Nat×Bool)):aJ×St:=((.ex 8),⟨[(1,(.p ⟨0,1⟩ 0)),(11,(I x.1)),(12,(I (x.2.1:Int))),(145,(.b x.2.2))],[(1,(ah a0))],H0⟩)
theorem xc(v4_11:Int)(v4_12:Nat)(o:(Int×Nat)⊕(Int×Nat×Bool))(h:jT a0 v4_11 v4_12=some o):bu E0 Lt (yw a0) (yx a0) (v4_11,v4_12) o:=
 bD (bt<|ao (.i (a0.Funcs.length:Int))<|.or (b5<|ao (.n v4_12)<|.ex fun (y23:Func)=>ao (.v (.a (bL y23)))<|xI fun r25=>ao (.i (v4_11+r25))<|ao (.i ((v4_12+1:Nat):Int))<|.nil) (bf<|.nil)) fun L=>ai (rfl:Z0)<|ai (ax bc a0.Funcs)<|bB h (fun h22 h=>jr (decide_eq_true h22)<|ai (rI v4_12)<|ba h fun y23 h24 h=>ai (ay bc h24)<|aB h (s7 y23.Body 1) fun r25 h=>aA h fun w27 h=>ai w27<|aA h fun w28 h=>ai w28<|L h) (fun h22 h=>ai (decide_eq_false h22)<|L h)
def ek(a0:Program)(v5_13:Nat)(y26:Func)(v6_15:Nat)(v7_16:Nat):Option (Nat⊕(Unit⊕(Nat×Bool))):=
 if (v7_16:Int)<(v6_15:Int) then
  (y26.Params[v7_16]?).bind fun (y37:Int)=>
  (y26.Params[v6_15]?).bind fun (y39:Int)=>
  if (y37==y39)=true then
   some (.inr (.inl ()))
  else
   if IntKind.i64.wrap ((v7_16:Int)+1)=((v7_16+1:Nat):Int) then
    some (.inl (v7_16+1))
   else none
 else
  some (.inr (.inr (v7_16,decide ((v7_16:Int)<(v6_15:Int)))))
abbrev yy(v5_13:Nat)(y26:Func)(v6_15:Nat)(v:Nat):St:=⟨[(1,(.p ⟨0,1⟩ 0)),(13,(I (v5_13:Int))),(14,(.p ⟨0,14⟩ 0)),(15,(I (v6_15:Int))),(16,(I (v:Int)))],[(1,(ah a0)),(14,(bL y26))],H0⟩
abbrev yz(v5_13:Nat)(y26:Func)(v6_15:Nat)(x:(Unit⊕(Nat×Bool))):aJ×St:=match x with | .inl ()=>(.ret,⟨[(2,(I 6))],[],H0⟩) | .inr (z1,z2)=>((.ex 14),⟨[(1,(.p ⟨0,1⟩ 0)),(13,(I (v5_13:Int))),(14,(.p ⟨0,14⟩ 0)),(15,(I (v6_15:Int))),(16,(I (z1:Int))),(195,(.b z2))],[(1,(ah a0)),(14,(bL y26))],H0⟩)
theorem xd(v5_13:Nat)(y26:Func)(v6_15:Nat)(v7_16:Nat)(o:Nat⊕(Unit⊕(Nat×Bool)))(h:ek a0 v5_13 y26 v6_15 v7_16=some o):bu E0 Lu (yy a0 v5_13 y26 v6_15) (yz a0 v5_13 y26 v6_15) v7_16 o:=
 bD (.or (b5<|ao (.n v7_16)<|xI fun y37=>bt<|ao (.n v6_15)<|xI fun y39=>oN (ao (.i ((v7_16+1:Nat):Int))<|.nil)) (bf<|.nil)) fun L=>bB h (fun h36 h=>II (decide_eq_true h36)<|ai (rI v7_16)<|ba h fun y37 h38 h=>ai (ay (I) h38)<|ai tt<|ai tt<|ai tt<|ai (rfl:Z0)<|ai tt<|ai tt<|ai (rI v6_15)<|ba h fun y39 h40 h=>ai (ay (I) h40)<|cD<|aM h (fun h41 h=>ai h41<|L h) (fun h41 h=>ai h41<|aA h fun w42 h=>ai w42<|L h)) (fun h36 h=>ai (decide_eq_false h36)<|L h)
def jU(v5_13:Nat)(y26:Func)(v6_15:Nat):Option (Nat⊕(Unit⊕(Unit⊕(Nat×Bool)))):=
 if (v6_15:Int)<(y26.Params.length:Int) then
  (y26.Params[v6_15]?).bind fun (y30:Int)=>
  if IntKind.i64.wrap ((a0.Vars.length:Int) - 1)=(a0.Vars.length:Int) - 1 then
   (b8 y30 0 ((a0.Vars.length:Int) - 1)).bind fun (r33:Bool)=>
   if r33=true then
    (lp (fun v=>ek a0 v5_13 y26 v6_15 v) 0).bind fun (x36:(Unit⊕(Nat×Bool)))=>match x36 with
    | .inl ya_37=>
     some (.inr (.inl ()))
    | .inr yb_37=>
     if IntKind.i64.wrap ((v6_15:Int)+1)=((v6_15+1:Nat):Int) then
      some (.inl (v6_15+1))
     else none
   else
    some (.inr (.inr (.inl ())))
  else none
 else
  some (.inr (.inr (.inr (v6_15,decide ((v6_15:Int)<(y26.Params.length:Int))))))
abbrev yA(v5_13:Nat)(y26:Func)(v:Nat):St:=⟨[(1,(.p ⟨0,1⟩ 0)),(13,(I (v5_13:Int))),(14,(.p ⟨0,14⟩ 0)),(15,(I (v:Int)))],[(1,(ah a0)),(14,(bL y26))],H0⟩
abbrev yB(v5_13:Nat)(y26:Func)(x:(Unit⊕(Unit⊕(Nat×Bool)))):aJ×St:=match x with | .inl ()=>(.ret,⟨[(2,(I 6))],[],H0⟩) | .inr (.inl ())=>(.ret,⟨[(2,(I 5))],[],H0⟩) | .inr (.inr (z1,z2))=>((.ex 12),⟨[(1,(.p ⟨0,1⟩ 0)),(13,(I (v5_13:Int))),(14,(.p ⟨0,14⟩ 0)),(15,(I (z1:Int))),(179,(.b z2))],[(1,(ah a0)),(14,(bL y26))],H0⟩)
theorem xe(v5_13:Nat)(y26:Func)(v6_15:Nat)(o:Nat⊕(Unit⊕(Unit⊕(Nat×Bool))))(h:jU a0 v5_13 y26 v6_15=some o):bu E0 Lv (yA a0 v5_13 y26) (yB a0 v5_13 y26) v6_15 o:=
 bD (bt<|ao (.i (y26.Params.length:Int))<|.or (b5<|ao (.n v6_15)<|xI fun y30=>bt<|ao (.i (a0.Vars.length:Int))<|ao (.i ((a0.Vars.length:Int) - 1))<|xB fun r33=>.or (bf<|.or (.ex fun (ya_37:Unit)=>ao (.lp .ret ⟨[(2,(I 6))],[],H0⟩)<|.nil) (.ex fun (yb_37:(Nat×Bool))=>ao (.lp (.ex 14) ⟨[(1,(.p ⟨0,1⟩ 0)),(13,(I (v5_13:Int))),(14,(.p ⟨0,14⟩ 0)),(15,(I (v6_15:Int))),(16,(I (yb_37.1:Int))),(195,(.b yb_37.2))],[(1,(ah a0)),(14,(bL y26))],H0⟩)<|ao (.i ((v6_15+1:Nat):Int))<|.nil)) (bt<|.nil)) (bf<|.nil)) fun L=>ai (rfl:Z0)<|ai (ax (I) y26.Params)<|bB h (fun h29 h=>II (decide_eq_true h29)<|ai (rI v6_15)<|ba h fun y30 h31 h=>ai (ay (I) h31)<|ai tt<|ai tt<|ai tt<|ai (rfl:Z0)<|ai tt<|ai (ax bH a0.Vars)<|ai tt<|aA h fun xL h=>ai xL<|ai tt<|aB h (bW y30 0 ((a0.Vars.length:Int) - 1)) fun r33 h=>aM h (fun h35 h=>ai (congrArg not h35)<|bO h (cV (xd a0 v5_13 y26 v6_15) 0) (fun ya_37 h=>L h) (fun yb_37 h=>aA h fun w39 h=>ai w39<|L h)) (fun h35 h=>ai (congrArg not h35)<|L h)) (fun h29 h=>ai (decide_eq_false h29)<|L h)
def fu(a0:Program)(v5_13:Nat)(w19_1:Int):Option (Int⊕(Int×Bool)):=
 if (w19_1 !=0)=true then
  some (.inl w19_1)
 else
  some (.inr (w19_1,w19_1 !=0))
abbrev vY(v5_13:Nat)(w19_1:Int)(x:(Int⊕(Int×Bool))):aJ×St:=match x with | .inl z1=>(.ret,⟨[(2,(I z1))],[],H0⟩) | .inr (z1,z2)=>(.nrm,⟨[(1,(.p ⟨0,1⟩ 0)),(3,(I z1)),(13,(I (v5_13:Int))),(223,(.b z2))],[(1,(ah a0))],H0⟩)
theorem pg(v5_13:Nat)(w19_1:Int)(x:(Int⊕(Int×Bool)))(h:fu a0 v5_13 w19_1=some x):run G Ω0 E0 Jj ⟨[(1,(.p ⟨0,1⟩ 0)),(3,(I w19_1)),(13,(I (v5_13:Int)))],[(1,(ah a0))],H0⟩=some (vY a0 v5_13 w19_1 x):=
 ga (oN (.nil)) fun L=>aM h (fun h37 h=>ai h37<|L h) (fun h37 h=>ai h37<|L h)
def jV(v5_13:Nat):Option (Nat⊕(Unit⊕(Unit⊕(Unit⊕(Int⊕(Nat×Bool)))))):=
 if (v5_13:Int)<(a0.Funcs.length:Int) then
  (a0.Funcs[v5_13]?).bind fun (y26:Func)=>
  if 4<(y26.Params.length:Int) then
   some (.inr (.inl ()))
  else
   (lp (fun v=>jU a0 v5_13 y26 v) 0).bind fun (x29:(Unit⊕(Unit⊕(Nat×Bool))))=>match x29 with
   | .inl ya_30=>
    some (.inr (.inr (.inl ())))
   | .inr (.inl yb_30)=>
    some (.inr (.inr (.inr (.inl ()))))
   | .inr (.inr yc_30)=>
    (nH a0 (v5_13:Int) y26.Body).bind fun (r32:Int)=>
    if (r32==0)=true then
     (jD y26.Result (a0.Vars.length:Int)).bind fun (r35:Int)=>
     (fu a0 v5_13 r35).bind fun (x37:(Int⊕(Int×Bool)))=>match x37 with
     | .inl ya_38=>
      some (.inr (.inr (.inr (.inr (.inl ya_38)))))
     | .inr yb_38=>
      if IntKind.i64.wrap ((v5_13:Int)+1)=((v5_13+1:Nat):Int) then
       some (.inl (v5_13+1))
      else none
    else
     (fu a0 v5_13 r32).bind fun (x35:(Int⊕(Int×Bool)))=>match x35 with
     | .inl ya_36=>
      some (.inr (.inr (.inr (.inr (.inl ya_36)))))
     | .inr yb_36=>
      if IntKind.i64.wrap ((v5_13:Int)+1)=((v5_13+1:Nat):Int) then
       some (.inl (v5_13+1))
      else none
 else
  some (.inr (.inr (.inr (.inr (.inr (v5_13,decide ((v5_13:Int)<(a0.Funcs.length:Int))))))))
abbrev yC(v:Nat):St:=⟨[(1,(.p ⟨0,1⟩ 0)),(13,(I (v:Int)))],[(1,(ah a0))],H0⟩
abbrev yD(x:(Unit⊕(Unit⊕(Unit⊕(Int⊕(Nat×Bool)))))):aJ×St:=match x with | .inl ()=>(.ret,⟨[(2,(I 2))],[],H0⟩) | .inr (.inl ())=>(.ret,⟨[(2,(I 6))],[],H0⟩) | .inr (.inr (.inl ()))=>(.ret,⟨[(2,(I 5))],[],H0⟩) | .inr (.inr (.inr (.inl z1)))=>(.ret,⟨[(2,(I z1))],[],H0⟩) | .inr (.inr (.inr (.inr (z1,z2))))=>((.ex 10),⟨[(1,(.p ⟨0,1⟩ 0)),(13,(I (z1:Int))),(163,(.b z2))],[(1,(ah a0))],H0⟩)
theorem xg(v5_13:Nat)(o:Nat⊕(Unit⊕(Unit⊕(Unit⊕(Int⊕(Nat×Bool))))))(h:jV a0 v5_13=some o):bu E0 Lw (yC a0) (yD a0) v5_13 o:=
 bD (bt<|ao (.i (a0.Funcs.length:Int))<|.or (b5<|ao (.n v5_13)<|.ex fun (y26:Func)=>ao (.v (.a (bL y26)))<|cR<|ao (.i (y26.Params.length:Int))<|oN (.or (.ex fun (ya_30:Unit)=>ao (.lp .ret ⟨[(2,(I 6))],[],H0⟩)<|.nil) (.or (.ex fun (yb_30:Unit)=>ao (.lp .ret ⟨[(2,(I 5))],[],H0⟩)<|.nil) (.ex fun (yc_30:(Nat×Bool))=>ao (.lp (.ex 12) ⟨[(1,(.p ⟨0,1⟩ 0)),(13,(I (v5_13:Int))),(14,(.p ⟨0,14⟩ 0)),(15,(I (yc_30.1:Int))),(179,(.b yc_30.2))],[(1,(ah a0)),(14,(bL y26))],H0⟩)<|b5<|xI fun r32=>.or (cR<|ao (.i (a0.Vars.length:Int))<|xI fun r35=>.fb<|.or (.ex fun (ya_38:Int)=>ao (.fr .ret ⟨[(2,(I ya_38))],[],H0⟩)<|.nil) (.ex fun (yb_38:(Int×Bool))=>ao (.fr .nrm ⟨[(1,(.p ⟨0,1⟩ 0)),(3,(I yb_38.1)),(13,(I (v5_13:Int))),(223,(.b yb_38.2))],[(1,(ah a0))],H0⟩)<|ao (.i ((v5_13+1:Nat):Int))<|.nil)) (bf<|.fb<|.or (.ex fun (ya_36:Int)=>ao (.fr .ret ⟨[(2,(I ya_36))],[],H0⟩)<|.nil) (.ex fun (yb_36:(Int×Bool))=>ao (.fr .nrm ⟨[(1,(.p ⟨0,1⟩ 0)),(3,(I yb_36.1)),(13,(I (v5_13:Int))),(223,(.b yb_36.2))],[(1,(ah a0))],H0⟩)<|ao (.i ((v5_13+1:Nat):Int))<|.nil)))))) (bf<|.nil)) fun L=>ai (rfl:Z0)<|ai (ax bc a0.Funcs)<|bB h (fun h25 h=>jr (decide_eq_true h25)<|ai (rI v5_13)<|ba h fun y26 h27 h=>ai (ay bc h27)<|xH<|ai (ax (I) y26.Params)<|bB h (fun h28 h=>ai (decide_eq_true h28)<|L h) (fun h28 h=>ai (decide_eq_false h28)<|IF h (cV (xe a0 v5_13 y26) 0) (fun ya_30 h=>L h) (fun yb_30 h=>L h) (fun yc_30 h=>ai (rfl:Z0)<|ai (rfl:Z0)<|aB h (sb a0 (v5_13:Int) y26.Body) fun r32 h=>aM h (fun h34 h=>Dr h34<|ai (ax bH a0.Vars)<|aB h (pc y26.Result (a0.Vars.length:Int)) fun r35 h=>bO h (pg a0 v5_13 r35) (fun ya_38 h=>L h) (fun yb_38 h=>aA h fun w40 h=>ai w40<|L h)) (fun h34 h=>ai h34<|bO h (pg a0 v5_13 r32) (fun ya_36 h=>L h) (fun yb_36 h=>aA h fun w38 h=>ai w38<|L h))))) (fun h25 h=>ai (decide_eq_false h25)<|L h)
abbrev Bq(a0:Program)(r:Int):bh×HP:=(.ret (I r),H0)
def lk:Option Int:=
 (l5 a0.an).bind fun (r1:Int)=>
 if (r1 !=0)=true then
  some r1
 else
  (jq a0).bind fun (x4:Bool)=>
  if x4=true then
   some 2
  else
   (lp (fun v=>ei a0 v) 0).bind fun (x7:(Unit⊕(Nat×Bool)))=>match x7 with
   | .inl ya_8=>
    some 5
   | .inr yb_8=>
    if ([]:List Label).length+a0.Ins.length≤1000000000 then
     if (([]:List Label)++a0.Ins).length+a0.Outs.length≤1000000000 then
      (lp (fun v=>jS a0 v.1 v.2) (((([]:List Label)++a0.Ins)++a0.Outs),0)).bind fun (x12:((List Label)×Nat×Bool))=>
      (lp (fun v=>gv a0 x12 v) 0).bind fun (x14:(Int⊕(Nat×Bool)))=>match x14 with
      | .inl ya_15=>
       some ya_15
      | .inr yb_15=>
       (lp (fun v=>ej a0 v) 0).bind fun (x17:(Unit⊕(Nat×Bool)))=>match x17 with
       | .inl ya_18=>
        some 1
       | .inr yb_18=>
        (oS a0.Main 1).bind fun (r20:Int)=>
        (lp (fun v=>jT a0 v.1 v.2) (r20,0)).bind fun (x22:(Int×Nat×Bool))=>
        if 50<x22.1 then
         some 2
        else
         (lp (fun v=>jV a0 v) 0).bind fun (x25:(Unit⊕(Unit⊕(Unit⊕(Int⊕(Nat×Bool))))))=>match x25 with
         | .inl ya_26=>
          some 2
         | .inr (.inl yb_26)=>
          some 6
         | .inr (.inr (.inl yc_26))=>
          some 5
         | .inr (.inr (.inr (.inl yd_26)))=>
          some yd_26
         | .inr (.inr (.inr (.inr ye_26)))=>
          (nH a0 (a0.Funcs.length:Int) a0.Main).bind fun (r28:Int)=>
          some r28
     else none
    else none
theorem xh(r:Int)(h:lk a0=some r):call G Ω0 E0 12 [(.a (ah a0))] H0=some (Bq a0 r):=
 aO G12 (bt<|xI fun r1=>oN (.jb (some 23) 30<|.ex fun (x4:Bool)=>ao (.jn ⟨[(1,(.p ⟨0,1⟩ 0)),(53,(.b x4))],[(1,(ah a0))],H0⟩)<|oN (.or (.ex fun (ya_8:Unit)=>ao (.lp .ret ⟨[(2,(I 5))],[],H0⟩)<|.nil) (.ex fun (yb_8:(Nat×Bool))=>ao (.lp (.ex 0) ⟨[(1,(.p ⟨0,1⟩ 0)),(4,(I (yb_8.1:Int))),(58,(.b yb_8.2))],[(1,(ah a0))],H0⟩)<|ao (.l (([]:List Label).map ar))<|bt<|ao (.l ((([]:List Label)++a0.Ins).map ar))<|bt<|ao (.l (((([]:List Label)++a0.Ins)++a0.Outs).map ar))<|.ex fun (x12:((List Label)×Nat×Bool))=>ao (.lp (.ex 2) ⟨[(1,(.p ⟨0,1⟩ 0)),(5,(.o 89 (x12.1.map ar))),(6,(I (x12.2.1:Int))),(81,(.b x12.2.2))],[(1,(ah a0))],H0⟩)<|.or (.ex fun (ya_15:Int)=>ao (.lp .ret ⟨[(2,(I ya_15))],[],H0⟩)<|.nil) (.ex fun (yb_15:(Nat×Bool))=>ao (.lp (.ex 4) ⟨[(1,(.p ⟨0,1⟩ 0)),(5,(.o 89 (x12.1.map ar))),(7,(I (yb_15.1:Int))),(96,(.b yb_15.2))],[(1,(ah a0))],H0⟩)<|.or (.ex fun (ya_18:Unit)=>ao (.lp .ret ⟨[(2,(I 1))],[],H0⟩)<|.nil) (.ex fun (yb_18:(Nat×Bool))=>ao (.lp (.ex 6) ⟨[(1,(.p ⟨0,1⟩ 0)),(9,(I (yb_18.1:Int))),(113,(.b yb_18.2))],[(1,(ah a0))],H0⟩)<|bt<|xI fun r20=>.ex fun (x22:(Int×Nat×Bool))=>ao (.lp (.ex 8) ⟨[(1,(.p ⟨0,1⟩ 0)),(11,(I x22.1)),(12,(I (x22.2.1:Int))),(145,(.b x22.2.2))],[(1,(ah a0))],H0⟩)<|oN (.or (.ex fun (ya_26:Unit)=>ao (.lp .ret ⟨[(2,(I 2))],[],H0⟩)<|.nil) (.or (.ex fun (yb_26:Unit)=>ao (.lp .ret ⟨[(2,(I 6))],[],H0⟩)<|.nil) (.or (.ex fun (yc_26:Unit)=>ao (.lp .ret ⟨[(2,(I 5))],[],H0⟩)<|.nil) (.or (.ex fun (yd_26:Int)=>ao (.lp .ret ⟨[(2,(I yd_26))],[],H0⟩)<|.nil) (.ex fun (ye_26:(Nat×Bool))=>ao (.lp (.ex 10) ⟨[(1,(.p ⟨0,1⟩ 0)),(13,(I (ye_26.1:Int))),(163,(.b ye_26.2))],[(1,(ah a0))],H0⟩)<|b5<|ao (.i (a0.Funcs.length:Int))<|bt<|xI fun r28=>.nil))))))))))) fun L=>pC<|aB h (yh a0.an) fun r1 h=>aM h (fun h3 h=>ai h3<|L h) (fun h3 h=>ai h3<|aB h (vX a0) fun x4 h=>aM h (fun h6 h=>ai h6<|L h) (fun h6 h=>ai h6<|bO h (cV (wY a0) 0) (fun ya_8 h=>L h) (fun yb_8 h=>ai tt<|ai (rfl:([]:List AV)=([]:List Label).map ar)<|ai tt<|ai tt<|ai (rfl:Z0)<|ai tt<|aA h fun h10 h=>ai ((dR ar (n:=2) (fun _=>rfl) a0.Ins):(a0.Ins.map ar).all (fun e=>e.nc==2)=true)<|ai ((fl h10 (by decide)):((([]:List Label).map ar).length+(a0.Ins.map ar).length)*48≤140737488355328)<|ai ((fm h10):(([]:List Label).map ar).length+(a0.Ins.map ar).length≤maxLen)<|ai (List.map_append.symm:([]:List Label).map ar++a0.Ins.map ar=(([]:List Label)++a0.Ins).map ar)<|ai tt<|ai tt<|ai (rfl:Z0)<|ai tt<|aA h fun h11 h=>ai ((dR ar (n:=2) (fun _=>rfl) a0.Outs):(a0.Outs.map ar).all (fun e=>e.nc==2)=true)<|ai ((fl h11 (by decide)):(((([]:List Label)++a0.Ins).map ar).length+(a0.Outs.map ar).length)*48≤140737488355328)<|ai ((fm h11):((([]:List Label)++a0.Ins).map ar).length+(a0.Outs.map ar).length≤maxLen)<|ai (List.map_append.symm:(([]:List Label)++a0.Ins).map ar++a0.Outs.map ar=((([]:List Label)++a0.Ins)++a0.Outs).map ar)<|aB h (cV (fun v=>wZ a0 v.1 v.2) (((([]:List Label)++a0.Ins)++a0.Outs),0)) fun x12 h=>bO h (cV (xa a0 x12) 0) (fun ya_15 h=>L h) (fun yb_15 h=>bO h (cV (xb a0) 0) (fun ya_18 h=>L h) (fun yb_18 h=>ai (rfl:Z0)<|aB h (s7 a0.Main 1) fun r20 h=>aB h (cV (fun v=>xc a0 v.1 v.2) (r20,0)) fun x22 h=>bB h (fun h24 h=>ai (decide_eq_true h24)<|L h) (fun h24 h=>ai (decide_eq_false h24)<|IG h (cV (xg a0) 0) (fun ya_26 h=>L h) (fun yb_26 h=>L h) (fun yc_26 h=>L h) (fun yd_26 h=>L h) (fun ye_26 h=>ai (rfl:Z0)<|ai (rfl:Z0)<|ai (ax bc a0.Funcs)<|ai (rfl:Z0)<|aB h (sb a0 (a0.Funcs.length:Int) a0.Main) fun r28 h=>L h)))))))
end
section
variable (a0:Int)(a1:(List (List Int)))(a2:Int)
abbrev Ge(a0:Int)(r:Bool):bh×HP:=(.ret (.b r),H0)
def pP:Option Bool:=
 (b8 a0 (-2147483648) 2147483647).bind fun (r1:Bool)=>
 some r1
theorem CL(r:Bool)(h:pP a0=some r):call G Ω0 E0 13 [(I a0)] H0=some (Ge a0 r):=
 aO G13 (xB fun r1=>.nil) fun L=>aB h (bW a0 (-2147483648) 2147483647) fun r1 h=>L h
def fX(a2:Int)(v0_8:Nat):Option (Nat⊕(Unit⊕(Nat×Bool))):=
 if (v0_8:Int)<(a1.length:Int) then
  (a1[v0_8]?).bind fun (y6:(List Int))=>
  if 100<(y6.length:Int) then
   some (.inr (.inl ()))
  else
   if IntKind.i64.wrap ((v0_8:Int)+1)=((v0_8+1:Nat):Int) then
    some (.inl (v0_8+1))
   else none
 else
  some (.inr (.inr (v0_8,decide ((v0_8:Int)<(a1.length:Int)))))
abbrev DW(v:Nat):St:=⟨[(1,(.l 25 (a1.map (bM 3 (I))))),(2,(I a2)),(8,(I (v:Int)))],[],H0⟩
abbrev DX(x:(Unit⊕(Nat×Bool))):aJ×St:=match x with | .inl ()=>(.ret,⟨[(6,(I 2))],[],H0⟩) | .inr (z1,z2)=>((.ex 0),⟨[(1,(.l 25 (a1.map (bM 3 (I))))),(2,(I a2)),(8,(I (z1:Int))),(25,(.b z2))],[],H0⟩)
theorem CM(v0_8:Nat)(o:Nat⊕(Unit⊕(Nat×Bool)))(h:fX a1 a2 v0_8=some o):bu E0 NH (DW a1 a2) (DX a1 a2) v0_8 o:=
 bD (ao (.i (a1.length:Int))<|.or (bt<|ao (.n v0_8)<|.ex fun (y6:(List Int))=>ao (.v (.l 3 (y6.map (I))))<|ao (.i (y6.length:Int))<|oN (ao (.i ((v0_8+1:Nat):Int))<|.nil)) (bf<|.nil)) fun L=>ai (ax (bM 3 (I)) a1)<|bB h (fun h5 h=>ai (decide_eq_true h5)<|ai (rI v0_8)<|ba h fun y6 h7 h=>ai (ay (bM 3 (I)) h7)<|ai (ax (I) y6)<|bB h (fun h8 h=>ai (decide_eq_true h8)<|L h) (fun h8 h=>ai (decide_eq_false h8)<|aA h fun w9 h=>ai w9<|L h)) (fun h5 h=>ai (decide_eq_false h5)<|L h)
def fY(a2:Int)(v1_9:Nat)(v2_10:Nat):Option (Nat⊕(Unit⊕(Nat×Bool))):=
 (a1[v1_9]?).bind fun (y9:(List Int))=>
 if (v2_10:Int)<(y9.length:Int) then
  (y9[v2_10]?).bind fun (y12:Int)=>
  (pP y12).bind fun (r14:Bool)=>
  if r14=true then
   if IntKind.i64.wrap ((v2_10:Int)+1)=((v2_10+1:Nat):Int) then
    some (.inl (v2_10+1))
   else none
  else
   some (.inr (.inl ()))
 else
  some (.inr (.inr (v2_10,decide ((v2_10:Int)<(y9.length:Int)))))
abbrev DY(v1_9:Nat)(v:Nat):St:=⟨[(1,(.l 25 (a1.map (bM 3 (I))))),(2,(I a2)),(9,(I (v1_9:Int))),(10,(I (v:Int)))],[],H0⟩
abbrev DZ(v1_9:Nat)(x:(Unit⊕(Nat×Bool))):aJ×St:=match x with | .inl ()=>(.ret,⟨[(6,(I 3))],[],H0⟩) | .inr (z1,z2)=>((.ex 4),⟨[(1,(.l 25 (a1.map (bM 3 (I))))),(2,(I a2)),(9,(I (v1_9:Int))),(10,(I (z1:Int))),(46,(.b z2))],[],H0⟩)
theorem CN(v1_9:Nat)(v2_10:Nat)(o:Nat⊕(Unit⊕(Nat×Bool)))(h:fY a1 a2 v1_9 v2_10=some o):bu E0 NI (DY a1 a2 v1_9) (DZ a1 a2 v1_9) v2_10 o:=
 bD (ao (.n v1_9)<|.ex fun (y9:(List Int))=>ao (.v (.l 3 (y9.map (I))))<|ao (.i (y9.length:Int))<|.or (bt<|ao (.n v1_9)<|ao (.v (.l 3 (y9.map (I))))<|ao (.n v2_10)<|xI fun y12=>xB fun r14=>.or (bf<|ao (.i ((v2_10+1:Nat):Int))<|.nil) (bt<|.nil)) (bf<|.nil)) fun L=>ai (rI v1_9)<|ba h fun y9 h10 h=>ai (ay (bM 3 (I)) h10)<|ai (ax (I) y9)<|bB h (fun h11 h=>ai (decide_eq_true h11)<|ai (rI v1_9)<|ai (ay (bM 3 (I)) h10)<|ai (rI v2_10)<|ba h fun y12 h13 h=>ai (ay (I) h13)<|aB h (CL y12) fun r14 h=>aM h (fun h16 h=>ai (congrArg not h16)<|aA h fun w17 h=>ai w17<|L h) (fun h16 h=>ai (congrArg not h16)<|L h)) (fun h11 h=>ai (decide_eq_false h11)<|L h)
def fZ(v1_9:Nat):Option (Nat⊕(Unit⊕(Nat×Bool))):=
 if (v1_9:Int)<(a1.length:Int) then
  (lp (fun v=>fY a1 a2 v1_9 v) 0).bind fun (x9:(Unit⊕(Nat×Bool)))=>match x9 with
  | .inl ya_10=>
   some (.inr (.inl ()))
  | .inr yb_10=>
   if IntKind.i64.wrap ((v1_9:Int)+1)=((v1_9+1:Nat):Int) then
    some (.inl (v1_9+1))
   else none
 else
  some (.inr (.inr (v1_9,decide ((v1_9:Int)<(a1.length:Int)))))
abbrev D0(v:Nat):St:=⟨[(1,(.l 25 (a1.map (bM 3 (I))))),(2,(I a2)),(9,(I (v:Int)))],[],H0⟩
abbrev D1(x:(Unit⊕(Nat×Bool))):aJ×St:=match x with | .inl ()=>(.ret,⟨[(6,(I 3))],[],H0⟩) | .inr (z1,z2)=>((.ex 2),⟨[(1,(.l 25 (a1.map (bM 3 (I))))),(2,(I a2)),(9,(I (z1:Int))),(37,(.b z2))],[],H0⟩)
theorem CO(v1_9:Nat)(o:Nat⊕(Unit⊕(Nat×Bool)))(h:fZ a1 a2 v1_9=some o):bu E0 NJ (D0 a1 a2) (D1 a1 a2) v1_9 o:=
 bD (ao (.i (a1.length:Int))<|.or (bt<|.or (.ex fun (ya_10:Unit)=>ao (.lp .ret ⟨[(6,(I 3))],[],H0⟩)<|.nil) (.ex fun (yb_10:(Nat×Bool))=>ao (.lp (.ex 4) ⟨[(1,(.l 25 (a1.map (bM 3 (I))))),(2,(I a2)),(9,(I (v1_9:Int))),(10,(I (yb_10.1:Int))),(46,(.b yb_10.2))],[],H0⟩)<|ao (.i ((v1_9+1:Nat):Int))<|.nil)) (bf<|.nil)) fun L=>ai (ax (bM 3 (I)) a1)<|bB h (fun h8 h=>ai (decide_eq_true h8)<|bO h (cV (CN a1 a2 v1_9) 0) (fun ya_10 h=>L h) (fun yb_10 h=>aA h fun w12 h=>ai w12<|L h)) (fun h8 h=>ai (decide_eq_false h8)<|L h)
end
section
variable (a0:Program)(a1:(List (List Int)))(a2:Int)
abbrev Gf(a0:Program)(a1:(List (List Int)))(a2:Int)(r:Int):bh×HP:=(.ret (I r),H0)
def pQ:Option Int:=
 (lk a0).bind fun (r1:Int)=>
 if (r1 !=0)=true then
  some r1
 else
  if ((a1.length:Int) !=(a0.Ins.length:Int))=true then
   some 1
  else
   (lp (fun v=>fX a1 a2 v) 0).bind fun (x5:(Unit⊕(Nat×Bool)))=>match x5 with
   | .inl ya_6=>
    some 2
   | .inr yb_6=>
    (lp (fun v=>fZ a1 a2 v) 0).bind fun (x8:(Unit⊕(Nat×Bool)))=>match x8 with
    | .inl ya_9=>
     some 3
    | .inr yb_9=>
     (b8 a2 0 2000).bind fun (r11:Bool)=>
     if r11=true then
      some 0
     else
      some 3
theorem CP(r:Int)(h:pQ a0 a1 a2=some r):call G Ω0 E0 5 [(.a (ah a0)),(.l 25 (a1.map (bM 3 (I)))),(I a2)] H0=some (Gf a0 a1 a2 r):=
 aO G5 (bt<|xI fun r1=>oN (ao (.i (a1.length:Int))<|bt<|ao (.i (a0.Ins.length:Int))<|oN (.or (.ex fun (ya_6:Unit)=>ao (.lp .ret ⟨[(6,(I 2))],[],H0⟩)<|.nil) (.ex fun (yb_6:(Nat×Bool))=>ao (.lp (.ex 0) ⟨[(1,(.l 25 (a1.map (bM 3 (I))))),(2,(I a2)),(8,(I (yb_6.1:Int))),(25,(.b yb_6.2))],[],H0⟩)<|.or (.ex fun (ya_9:Unit)=>ao (.lp .ret ⟨[(6,(I 3))],[],H0⟩)<|.nil) (.ex fun (yb_9:(Nat×Bool))=>ao (.lp (.ex 2) ⟨[(1,(.l 25 (a1.map (bM 3 (I))))),(2,(I a2)),(9,(I (yb_9.1:Int))),(37,(.b yb_9.2))],[],H0⟩)<|xB fun r11=>.or (bf<|.nil) (bt<|.nil)))))) fun L=>pC<|aB h (xh a0) fun r1 h=>aM h (fun h3 h=>ai h3<|L h) (fun h3 h=>ai h3<|ai (ax (bM 3 (I)) a1)<|ai (rfl:Z0)<|ai (ax ar a0.Ins)<|aM h (fun h4 h=>ai h4<|L h) (fun h4 h=>ai h4<|bO h (cV (CM a1 a2) 0) (fun ya_6 h=>L h) (fun yb_6 h=>bO h (cV (CO a1 a2) 0) (fun ya_9 h=>L h) (fun yb_9 h=>aB h (bW a2 0 2000) fun r11 h=>aM h (fun h13 h=>ai (congrArg not h13)<|L h) (fun h13 h=>ai (congrArg not h13)<|L h)))))
end
end
end Go.Proofs.YtndeklbmglgonaaGreat.A
