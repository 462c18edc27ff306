/- Functions of the program as plain functions, by program. -/
import Derived.Test.YtlmphbbhaeampaaGreatTypes
import Derived.Test.YtlmphbbhaeampaaGreatBase
import Derived.Test.YtlmphbbhaeampaaGreatFA
import Derived.Test.YtlmphbbhaeampaaGreatStepF
set_option linter.all false
set_option maxRecDepth 100000
namespace Go.Proofs.YtlmphbbhaeampaaGreat.A
open Go
noncomputable section
variable [Lp]
attribute [local simp] dY iY okB kL AV.dD AV.jI AV.fX AV.deep AV.jJ ee bH
section
variable (a0:ak)(a1:Int)
abbrev Ru(a0:ak)(a1:Int)(r:Bool):bC×HP:=(.ret (.b r),H0)
def mT:Option Bool:=
 if 0≤a1 then
  some (decide (a1<a0.Many))
 else
  some false
theorem pq(r:Bool)(h:mT a0 a1=some r):call G Ω0 E0 132 [(.a [(I a0.Many),(.l 79 (a0.Grants.map bT))]),(I a1)] H0=some (Ru a0 a1 r):=
 bj an7 (.or (PK<|.nil) (TK<|.nil)) fun L=>ai tt<|cw h (fun h1 h=>dC (aF h1)<|ai (g1 (aF h1))<|ai (rfl:Z0)<|qg (aF h1)<|L h) (fun h1 h=>Xk (aD h1)<|L h)
end
section
variable (a0:dO)(a1:ak)
abbrev Jn(a0:dO)(a1:ak)(r:Bool):bC×HP:=(.ret (.b r),H0)
def nq:Option Bool:=
 (mT a1 a0.Who).bind fun r1=>
 if r1=true then
  (mT a1 a0.For).bind fun r4=>
  some (!r4)
 else
  some true
theorem Fu(r:Bool)(h:nq a0 a1=some r):call G Ω0 E0 203 [(.a [(I a0.Who),(I a0.For)]),(.e (.a [(I a1.Many),(.l 79 (a1.Grants.map bT))]) 0)] H0=some (Jn a0 a1 r):=
 bj aoS (bt<|xB fun r1=>.or (pn<|xB fun r4=>gZ<|.nil) (TL<|.nil)) fun L=>uq<|bq h (pq a1 a0.Who) fun r1 h=>bB h (fun h3 h=>let A:=az not h3;fy A<|ai (rfl:Z0)<|ai (g0 A)<|bq h (pq a1 a0.For) fun r4 h=>iD A<|L h) (fun h3 h=>TD (az not h3)<|L h)
end
section
variable (a0:(List dO))(a1:ak)
abbrev rP(r:Bool):Prop:=call G Ω0 E0 202 [(.l 79 (a0.map bT)),(.f 203 [(.e (.a [(.i .i64 a1.Many),(.l 79 (a1.Grants.map bT))]) 0)])] H0=some (.ret (.b r),H0)
def gh:Option Bool:=IJ (fun y=>nq y a1) a0
theorem ql(r:Bool)(h:gh a0 a1=some r):rP a0 a1 r:=tj (n:=2) (ld:=(some 2)) (by decide) (fun _=>⟨rfl,rfl,_,rfl,rfl⟩) rfl (fun y b hb=>Fu y a1 b hb) aoR ao6 h
end
section
variable (a0:ak)
abbrev Mv(a0:ak)(r:Int):bC×HP:=(.ret (I r),H0)
def tm:Option Int:=
 if a0.Many<1 then
  some 3
 else
  if 6<a0.Many then
   some 3
  else
   if 20<(a0.Grants.length:Int) then
    some 2
   else
    (gh a0.Grants a0).bind fun r4=>
    if r4=true then
     some 5
    else
     some 0
theorem H9(r:Int)(h:tm a0=some r):call G Ω0 E0 161 [(.a [(I a0.Many),(.l 79 (a0.Grants.map bT))])] H0=some (Mv a0 r):=
 bj aoq (bt<|.or (bf<|bf<|bf<|bt<|bt<|.nil) (PH<|oN (bt<|ao (.i (a0.Grants.length:Int))<|oN (xB fun r4=>oN (.nil))))) fun L=>uq<|cw h (fun h1 h=>fy (aF h1)<|ai (aF h1)<|ai tt<|L h) (fun h1 h=>ai (g0 (aD h1))<|ai (g0 (aD h1))<|ai (rfl:Z0)<|iD (aD h1)<|cw h (fun h2 h=>ai (aF h2)<|L h) (fun h2 h=>lG (aD h2)<|ai (aP bT a0.Grants)<|cw h (fun h3 h=>ai (aF h3)<|L h) (fun h3 h=>lG (aD h3)<|bq h (ql a0.Grants a0) fun r4 h=>bB h (fun h6 h=>ai h6<|L h) (fun h6 h=>ai h6<|L h))))
end
section
variable (a0:Int)(a1:Program)
abbrev Mw(a0:Int)(a1:Program)(r:Bool):bC×HP:=(.ret (.b r),H0)
def tn:Option Bool:=
 (mT a1.ak a0).bind fun r1=>
 some (!r1)
theorem Ia(r:Bool)(h:tn a0 a1=some r):call G Ω0 E0 162 [(I a0),(.e (.a (aL a1)) 0)] H0=some (Mw a0 a1 r):=
 bj aor (xB fun r1=>.nil) fun L=>bq h (pq a1.ak a0) fun r1 h=>L h
end
section
variable (a0:(List Int))(a1:Program)
abbrev tq(r:Bool):Prop:=call G Ω0 E0 103 [(.l 3 (a0.map (AV.i .i64))),(.f 162 [(.e (.a (aL a1)) 0)])] H0=some (.ret (.b r),H0)
def ij:Option Bool:=IJ (fun y=>tn y a1) a0
theorem ra(r:Bool)(h:ij a0 a1=some r):tq a0 a1 r:=tj (n:=1) (ld:=none) (by decide) (fun _=>⟨rfl,rfl,rfl,rfl⟩) rfl (fun y b hb=>Ia y a1 b hb) OY OZ h
end
section
variable (a0:(List (List Label)))(V:Int)(k:Nat)(X:(List Label))(ae:Nat)
def eF:Option ((Int×Nat)⊕(Int×Nat×Bool)):=
 if (k:Int)<(a0.length:Int) then
  (a0[k]?).bind fun y2=>
  if IntKind.i64.wrap (V+(y2.length:Int))=V+(y2.length:Int) then
   if (V+(y2.length:Int))<0 then
    none
   else
    if IntKind.i64.wrap ((k:Int)+1)=((k+1:Nat):Int) then
     some (.inl (V+(y2.length:Int),k+1))
    else none
  else none
 else
  some (.inr (V,k,decide ((k:Int)<(a0.length:Int))))
abbrev zk(v:(Int×Nat)):St:=⟨[(0,(.l 26 (a0.map (db 83 aT)))),(3,(I v.1)),(9,(.l 26 (a0.map (db 83 aT)))),(10,(zI a0.length)),(11,(I (v.2:Int)))],[],H0⟩
abbrev pY(x:(Int×Nat×Bool)):bc×St:=((.ex 0),⟨[(0,(.l 26 (a0.map (db 83 aT)))),(3,(I x.1)),(9,(.l 26 (a0.map (db 83 aT)))),(10,(zI a0.length)),(11,(I (x.2.1:Int))),(12,(.b x.2.2))],[],H0⟩)
theorem xW(o:(Int×Nat)⊕(Int×Nat×Bool))(h:eF a0 V k=some o):bQ E0 UX (zk a0) (pY a0) (V,k) o:=
 bZ (.or (bt<|ao (.n k)<|.ex fun (y2:(List Label))=>ao (.v (aN y2))<|ao (.i (y2.length:Int))<|ao (.i (V+(y2.length:Int)))<|bf<|ao (.i ((k+1:Nat):Int))<|.nil) (bf<|.nil)) fun L=>cw h (fun h1 h=>ai (aF h1)<|ai (rI k)<|ba h fun y2 h3 h=>ai (aB (db 83 aT) h3)<|ai (aP aT y2)<|aO h fun w4 h=>ai w4<|Xh h (fun _ h=>TA h) (fun h5 h=>ai (aD h5)<|aO h fun w6 h=>ai w6<|L h)) (fun h1 h=>ai (aD h1)<|L h)
def eG:Option (((List Label)×Nat)⊕((List Label)×Nat×Bool)):=
 if (ae:Int)<(a0.length:Int) then
  (a0[ae]?).bind fun y5=>
  if X.length+y5.length≤1000000000 then
   if IntKind.i64.wrap ((ae:Int)+1)=((ae+1:Nat):Int) then
    some (.inl (X++y5,ae+1))
   else none
  else none
 else
  some (.inr (X,ae,decide ((ae:Int)<(a0.length:Int))))
abbrev zl(v:((List Label)×Nat)):St:=⟨[(6,(qY v.1)),(25,(.l 26 (a0.map (db 83 aT)))),(26,(zI a0.length)),(27,(I (v.2:Int)))],[],H0⟩
abbrev pZ(x:((List Label)×Nat×Bool)):bc×St:=((.ex 2),⟨[(6,(qY x.1)),(25,(.l 26 (a0.map (db 83 aT)))),(26,(zI a0.length)),(27,(I (x.2.1:Int))),(28,(.b x.2.2))],[],H0⟩)
theorem xX(o:((List Label)×Nat)⊕((List Label)×Nat×Bool))(h:eG a0 X ae=some o):bQ E0 UY (zl a0) (pZ a0) (X,ae) o:=
 bZ (.or (bt<|ao (.n ae)<|.ex fun (y5:(List Label))=>ao (.v (aN y5))<|ao (.l ((X++y5).map aT))<|ao (.i ((ae+1:Nat):Int))<|.nil) (bf<|.nil)) fun L=>cw h (fun h4 h=>ai (aF h4)<|ai (rI ae)<|ba h fun y5 h6 h=>let A:=y5.map aT;ai (aB (db 83 aT) h6)<|ai ff<|aO h fun h7 h=>ai ((dS aT (n:=2) (fun _=>rfl) y5):A.all (fun e=>e.nc==2)=true)<|ai ((eJ h7 (by decide)):((X.map aT).length+A.length)*48≤140737488355328)<|ai ((eK h7):(X.map aT).length+A.length≤maxLen)<|ai (cQ.symm:X.map aT++y5.map aT=(X++y5).map aT)<|aO h fun w8 h=>ai w8<|L h) (fun h4 h=>ai (aD h4)<|L h)
abbrev Ar(a0:(List (List Label)))(r:(List Label)):bC×HP:=(.ret (.l 83 (r.map aT)),H0)
def jx:Option (List Label):=
 (lp (fun v=>eF a0 v.1 v.2) (0,0)).bind fun x1=>
 if 0≤x1.1∧x1.1≤1000000 then
  (lp (fun v=>eG a0 v.1 v.2) (([]:List Label),0)).bind fun x4=>
  some x4.1
 else none
theorem xY(r:(List Label))(h:jx a0=some r):call G Ω0 E0 163 [(.l 26 (a0.map (db 83 aT)))] H0=some (Ar a0 r):=
 bj aos (ao (.i (a0.length:Int))<|.ex fun (x1:(Int×Nat×Bool))=>ao (.cA (pY a0 x1))<|ao (.i (a0.length:Int))<|.ex fun (x4:((List Label)×Nat×Bool))=>ao (.cA (pZ a0 x4))<|.nil) fun L=>ai (aP (db 83 aT) a0)<|bq h (dT (fun v=>xW a0 v.1 v.2) (0,0)) fun x1 h=>aO h fun h3 h=>ai (Xj h3:Ω0 204 [.n,(I x1.1)]=some (.o 83 []))<|ai (aP (db 83 aT) a0)<|bq h (dT (fun v=>xX a0 v.1 v.2) (([]:List Label),0)) fun x4 h=>L h
end
section
variable (a0:Int)(a1:ak)
abbrev Jo(a0:Int)(a1:ak)(r:Bool):bC×HP:=(.ret (.b r),H0)
def qm:Option Bool:=
 (mT a1 a0).bind fun r1=>
 some (!r1)
theorem Fv(r:Bool)(h:qm a0 a1=some r):call G Ω0 E0 227 [(I a0),(.e (.a [(I a1.Many),(.l 79 (a1.Grants.map bT))]) 0)] H0=some (Jo a0 a1 r):=
 bj ao7 (xB fun r1=>.nil) fun L=>bq h (pq a1 a0) fun r1 h=>L h
end
section
variable (a0:(List Int))(a1:ak)
abbrev rQ(r:Bool):Prop:=call G Ω0 E0 103 [(.l 3 (a0.map (AV.i .i64))),(.f 227 [(.e (.a [(.i .i64 a1.Many),(.l 79 (a1.Grants.map bT))]) 0)])] H0=some (.ret (.b r),H0)
def gj:Option Bool:=IJ (fun y=>qm y a1) a0
theorem qn(r:Bool)(h:gj a0 a1=some r):rQ a0 a1 r:=tj (n:=1) (ld:=none) (by decide) (fun _=>⟨rfl,rfl,rfl,rfl⟩) rfl (fun y b hb=>Fv y a1 b hb) OY OZ h
end
section
variable (a1:cp)(q:Nat)(a0:ak)(y2:(List cp))(ab:Nat)
def gI:Option (Nat⊕(Unit⊕(Nat×Bool))):=
 if (q:Int)<(a1.Names.length:Int) then
  (a1.Names[q]?).bind fun y9=>
  if IntKind.i64.wrap ((q:Int) - 1)=(q:Int) - 1 then
   (cU ((q:Int) - 1)).bind fun j12=>
   (a1.Names[j12]?).bind fun a8=>
   if y9≤a8 then
    some (.inr (.inl ()))
   else
    if IntKind.i64.wrap ((q:Int)+1)=((q+1:Nat):Int) then
     some (.inl (q+1))
    else none
  else none
 else
  some (.inr (.inr (q,decide ((q:Int)<(a1.Names.length:Int)))))
abbrev Jp(v:Nat):St:=⟨[zP 3,(5,(I (v:Int)))],[(3,[(I a1.Owner),(aS a1.Names)])],H0⟩
abbrev vg(x:(Unit⊕(Nat×Bool))):bc×St:=match x with | .inl ()=>(.ret,⟨[(4,(I 4))],[],H0⟩) | .inr (z1,z2)=>((.ex 1),⟨[zP 3,(5,(I (z1:Int))),(26,(.b z2))],[(3,[(I a1.Owner),(aS a1.Names)])],H0⟩)
theorem Ib(o:Nat⊕(Unit⊕(Nat×Bool)))(h:gI a1 q=some o):bQ E0 Vc (Jp a1) (vg a1) q o:=
 bZ (bt<|ao (.i (a1.Names.length:Int))<|.or (cM<|ao (.n q)<|xI fun y9=>bt<|ao (.i ((q:Int) - 1))<|xN fun j12=>xI fun a8=>oN (ao (.i ((q+1:Nat):Int))<|.nil)) (bf<|.nil)) fun L=>ai (rfl:Z0)<|ai (aP I a1.Names)<|cw h (fun h8 h=>ai (aF h8)<|aZ<|ai (rfl:Z0)<|aZ<|ai (rI q)<|ba h fun y9 au h=>ai (aB I au)<|aZ<|ai tt<|ai (rfl:Z0)<|aZ<|aO h fun bP h=>ai bP<|ai tt<|dM h fun j12 aC h=>ai aC<|ba h fun a8 a6 h=>ai (aB I a6)<|aZ<|cw h (fun bD h=>ai (aF bD)<|L h) (fun bD h=>ai (aD bD)<|aO h fun b7 h=>ai b7<|L h)) (fun h8 h=>ai (aD h8)<|L h)
abbrev Mx(a0:ak)(a1:cp)(r:Int):bC×HP:=(.ret (I r),H0)
def tr(a1:cp):Option Int:=
 (mT a0 a1.Owner).bind fun r1=>
 if r1=true then
  if 6<(a1.Names.length:Int) then
   some 2
  else
   (gj a1.Names a0).bind fun r5=>
   if r5=true then
    some 5
   else
    (lp (fun v=>gI a1 v) 1).bind fun x8=>match x8 with
    | .inl bv=>
     some 4
    | .inr bp=>
     some 0
 else
  some 5
theorem Ic(a1:cp)(r:Int)(h:tr a0 a1=some r):call G Ω0 E0 205 [(.a [(I a0.Many),(.l 79 (a0.Grants.map bT))]),(.a [(I a1.Owner),(.l 3 (a1.Names.map (I)))])] H0=some (Mx a0 a1 r):=
 bj aoT (cM<|xB fun r1=>.or (we<|ao (.i (a1.Names.length:Int))<|oN (bt<|xB fun r5=>oN (.or (.ex fun (bv:Unit)=>ao (.cA (vg a1 (.inl bv)))<|.nil) (.ex fun (bp:(Nat×Bool))=>ao (.cA (vg a1 (.inr bp)))<|.nil)))) (bt<|.nil)) fun L=>Mg<|bq h (pq a0 a1.Owner) fun r1 h=>bB h (fun h3 h=>lG (az not h3)<|ai (aP I a1.Names)<|cw h (fun h4 h=>ai (aF h4)<|L h) (fun h4 h=>TE (aD h4)<|bq h (qn a1.Names a0) fun r5 h=>bB h (fun h7 h=>ai h7<|L h) (fun h7 h=>ai h7<|dv h (dT (Ib a1) 1) (fun bv h=>L h) (fun bp h=>L h)))) (fun h3 h=>ai (az not h3)<|L h)
def jr:Option (Nat⊕(Int⊕(Nat×Bool))):=
 if (ab:Int)<(y2.length:Int) then
  (y2[ab]?).bind fun y6=>
  (tr a0 y6).bind fun r8=>
  if (r8 !=0)=true then
   some (.inr (.inl r8))
  else
   if IntKind.i64.wrap ((ab:Int)+1)=((ab+1:Nat):Int) then
    some (.inl (ab+1))
   else none
 else
  some (.inr (.inr (ab,decide ((ab:Int)<(y2.length:Int)))))
end
section
variable (a0:ak)(a1:Label)(Y:Nat)(y2:(List cp))(ab:Nat)
abbrev My(v:Nat):St:=⟨[zP 2,(14,(.l 81 (([a1.Read,a1.Write]).map (db 155 bV)))),(15,(I ((([a1.Read,a1.Write]).length:Nat):Int))),(16,(zI Y)),(23,(bE y2)),(24,(zI y2.length)),(25,(I (v:Int)))],[(2,[(I a0.Many),(aX a0.Grants)])],H0⟩
abbrev xZ(x:(Int⊕(Nat×Bool))):bc×St:=match x with | .inl z1=>(.ret,⟨[(4,(I z1))],[],H0⟩) | .inr (z1,z2)=>((.ex 2),⟨[zP 2,(14,(.l 81 (([a1.Read,a1.Write]).map (db 155 bV)))),(15,(I ((([a1.Read,a1.Write]).length:Nat):Int))),(16,(zI Y)),(23,(bE y2)),(24,(zI y2.length)),(25,(I (z1:Int))),(26,(.b z2))],[(2,[(I a0.Many),(aX a0.Grants)])],H0⟩)
theorem KK(o:Nat⊕(Int⊕(Nat×Bool)))(h:jr a0 y2 ab=some o):bQ E0 UZ (My a0 a1 Y y2) (xZ a0 a1 Y y2) ab o:=
 bZ (.or (bt<|ao (.n ab)<|.ex fun (y6:cp)=>ao (.v (.a [(I y6.Owner),(aS y6.Names)]))<|mg<|xI fun r8=>oN (ao (.i ((ab+1:Nat):Int))<|.nil)) (bf<|.nil)) fun L=>cw h (fun h5 h=>ai (aF h5)<|ai (rI ab)<|ba h fun y6 h7 h=>ai (aB bV h7)<|ai tt<|lZ<|zF<|bq h (Ic a0 y6) fun r8 h=>bB h (fun au h=>ai au<|L h) (fun au h=>ai au<|aO h fun bP h=>ai bP<|L h)) (fun h5 h=>ai (aD h5)<|L h)
def dG:Option (Nat⊕(Unit⊕(Int⊕(Nat×Bool)))):=
 if (Y:Int)<((([a1.Read,a1.Write]).length:Nat):Int) then
  (([a1.Read,a1.Write])[Y]?).bind fun y2=>
  if 4<(y2.length:Int) then
   some (.inr (.inl ()))
  else
   (lp (fun v=>jr a0 y2 v) 0).bind fun x5=>match x5 with
   | .inl bb=>
    some (.inr (.inr (.inl bb)))
   | .inr bs=>
    if IntKind.i64.wrap ((Y:Int)+1)=((Y+1:Nat):Int) then
     some (.inl (Y+1))
    else none
 else
  some (.inr (.inr (.inr (Y,decide ((Y:Int)<((([a1.Read,a1.Write]).length:Nat):Int))))))
abbrev Mz(v:Nat):St:=⟨[zP 2,(14,(.l 81 (([a1.Read,a1.Write]).map (db 155 bV)))),(15,(I ((([a1.Read,a1.Write]).length:Nat):Int))),(16,(I (v:Int)))],[(2,[(I a0.Many),(aX a0.Grants)])],H0⟩
abbrev tu(x:(Unit⊕(Int⊕(Nat×Bool)))):bc×St:=match x with | .inl ()=>(.ret,⟨[(4,(I 2))],[],H0⟩) | .inr (.inl z1)=>(.ret,⟨[(4,(I z1))],[],H0⟩) | .inr (.inr (z1,z2))=>((.ex 0),⟨[zP 2,(14,(.l 81 (([a1.Read,a1.Write]).map (db 155 bV)))),(15,(I ((([a1.Read,a1.Write]).length:Nat):Int))),(16,(I (z1:Int))),(17,(.b z2))],[(2,[(I a0.Many),(aX a0.Grants)])],H0⟩)
theorem KL(o:Nat⊕(Unit⊕(Int⊕(Nat×Bool))))(h:dG a0 a1 Y=some o):bQ E0 U0 (Mz a0 a1) (tu a0 a1) Y o:=
 bZ (.or (bt<|ao (.n Y)<|.ex fun (y2:(List cp))=>ao (.v (bE y2))<|ao (.i (y2.length:Int))<|oN (ao (.i (y2.length:Int))<|.or (.ex fun (bb:Int)=>ao (.cA (xZ a0 a1 Y y2 (.inl bb)))<|.nil) (.ex fun (bs:(Nat×Bool))=>ao (.cA (xZ a0 a1 Y y2 (.inr bs)))<|ao (.i ((Y+1:Nat):Int))<|.nil))) (bf<|.nil)) fun L=>cw h (fun h1 h=>ai (aF h1)<|ai (rI Y)<|ba h fun y2 h3 h=>ai (aB (db 155 bV) h3)<|ai (aP bV y2)<|cw h (fun h4 h=>ai (aF h4)<|L h) (fun h4 h=>ai (aD h4)<|ai (aP bV y2)<|dv h (dT (KK a0 a1 Y y2) 0) (fun bb h=>L h) (fun bs h=>aO h fun w8 h=>ai w8<|L h))) (fun h1 h=>ai (aD h1)<|L h)
abbrev P5(a0:ak)(a1:Label)(r:Int):bC×HP:=(.ret (I r),H0)
def sr:Option Int:=
 (lp (fun v=>dG a0 a1 v) 0).bind fun x1=>match x1 with
 | .inl T=>
  some 2
 | .inr (.inl Q)=>
  some Q
 | .inr (.inr bn)=>
  some 0
theorem Cz(r:Int)(h:sr a0 a1=some r):call G Ω0 E0 164 [(.a [(I a0.Many),(.l 79 (a0.Grants.map bT))]),(.a [(.l 155 (a1.Read.map bV)),(.l 155 (a1.Write.map bV))])] H0=some (P5 a0 a1 r):=
 let B:=db 155 bV;let A:=[a1.Read,a1.Write];bj aot (cM<|ao (.l (A.map B))<|ao (.i ((A.length:Nat):Int))<|.or (.ex fun (T:Unit)=>ao (.cA (tu a0 a1 (.inl T)))<|.nil) (.or (.ex fun (Q:Int)=>ao (.cA (tu a0 a1 (.inr (.inl Q))))<|.nil) (.ex fun (bn:(Nat×Bool))=>ao (.cA (tu a0 a1 (.inr (.inr bn))))<|.nil))) fun L=>Mg<|ai (rfl:[(bE a1.Read),(bE a1.Write)]=A.map B)<|ai (aP B A)<|TC h (dT (KL a0 a1) 0) (fun T h=>L h) (fun Q h=>L h) (fun bn h=>L h)
end
section
variable (a0:Var)
abbrev MA(a0:Var)(r:Bool):bC×HP:=(.ret (.b r),H0)
def tw:Option Bool:=
 if a0.Known=true then
  some false
 else
  if IntKind.i64.wrap ((a0.Label.Read.length:Int)+(a0.Label.Write.length:Int))=(a0.Label.Read.length:Int)+(a0.Label.Write.length:Int) then
   some (decide (0<((a0.Label.Read.length:Int)+(a0.Label.Write.length:Int))))
  else none
theorem Ie(r:Bool)(h:tw a0=some r):call G Ω0 E0 166 [(.a (jk a0))] H0=some (MA a0 r):=
 let B:=(a0.Label.Read.length:Int);let A:=(a0.Label.Write.length:Int);bj aov (bt<|.or (bf<|bf<|bf<|bf<|bf<|bf<|bf<|bf<|bf<|bf<|bf<|.nil) (pn<|ao (.i B)<|pn<|ao (.i A)<|bt<|ao (.i (B+A))<|cM<|.nil)) fun L=>uq<|bB h (fun h1 h=>let C:=az not h1;dC C<|dC C<|dC C<|dC C<|dC C<|ai C<|L h) (fun h1 h=>let D:=az not h1;dC D<|ai (g1 D)<|ai (rfl:Z0)<|ai (g1 D)<|ai (aP bV a0.Label.Read)<|dC D<|ai (g1 D)<|ai (rfl:Z0)<|ai (g1 D)<|ai (aP bV a0.Label.Write)<|ai (g1 D)<|aO h fun w2 h=>ai w2<|qg D<|L h)
end
section
variable (a0:(List Var))
abbrev tz(r:Bool):Prop:=call G Ω0 E0 165 [(.l 86 (a0.map dk)),(.f 166 [])] H0=some (.ret (.b r),H0)
def ik:Option Bool:=IJ (fun y=>tw y) a0
theorem rb(r:Bool)(h:ik a0=some r):tz a0 r:=tj (n:=3) (ld:=(some 3)) (by decide) (fun _=>⟨rfl,rfl,_,rfl,rfl⟩) rfl (fun y b hb=>Ie y b hb) aou aoU h
def CB:List dE:=(gM 38 37)::⟨some 39,.fa 2 1,some ⟨38,false⟩,false⟩::⟨some 40,.ld none 39,some ⟨38,false⟩,false⟩::⟨some 41,.ln false 40,some ⟨38,false⟩,false⟩::⟨some 42,.fa 0 1,some ⟨38,false⟩,false⟩::⟨some 43,.fa 0 42,some ⟨38,false⟩,false⟩::⟨some 44,.ld none 43,some ⟨38,false⟩,false⟩::⟨some 45,.bo .gtr false 41 44,some ⟨38,false⟩,false⟩::(gp 46 (.pk 38 (.c (.b true)) 45))::[]
end
section
variable (a0:Program)(ah:(List Label))(af:Nat)(ad:Nat)
def lH(be:Bool):Option Bool:=
 if be=true then
  some true
 else
  some (decide (a0.ak.Many<(a0.Speak.length:Int)))
abbrev oo(x:Bool):St:=⟨[zP 1,(46,(.b x))],[(1,(aL a0))],H0⟩
theorem qo(be:Bool)(w:List AV)(x:Bool)(h:lH a0 be=some x):q9 G Ω0 E0 [1,46] [1] CB ⟨[(37,(.b be)),(36,(W w 0)),(35,(W w 1)),(34,(W w 2)),(33,(W w 3)),(32,(W w 4)),(31,(W w 5)),(30,(W w 6)),(29,(W w 7)),(28,(W w 8)),(27,(W w 9)),(26,(W w 10)),(25,(W w 11)),(24,(W w 12)),(23,(W w 13)),(22,(W w 14)),(21,(W w 15)),(20,(.b (decide (16<(a0.Vars.length:Int))))),(19,(.b (decide (16<(a0.Vars.length:Int))))),(18,(zI a0.Vars.length)),(17,(cF a0.Vars)),(16,(.p ⟨0,1⟩ 5)),zP 1],[(1,(aL a0))],H0⟩=some (oo a0 x):=
 qJ (.or (bf<|bf<|bf<|bf<|bf<|bf<|bf<|bt<|.nil) (mg<|ao (.i (a0.Speak.length:Int))<|TM<|.nil)) fun L=>bB h (fun h7 h=>fy h7<|fy h7<|iD h7<|L h) (fun h7 h=>Ky h7<|ai (aP I a0.Speak)<|fy h7<|ai (rfl:Z0)<|iD h7<|L h)
def KM:List dE:=(gF 16 5 1)::(gQ 17 16)::(gl 18 17)::(gB 19 .gtr 18 (kI 16))::(gM 20 19)::⟨some 21,.fa 3 1,some ⟨20,false⟩,false⟩::⟨some 22,.ld none 21,some ⟨20,false⟩,false⟩::⟨some 23,.ln false 22,some ⟨20,false⟩,false⟩::⟨some 24,.bo .gtr false 23 (kI 5),some ⟨20,false⟩,false⟩::(gp 25 (.pk 20 (.c (.b true)) 24))::(gM 26 25)::⟨some 27,.fa 4 1,some ⟨26,false⟩,false⟩::⟨some 28,.ld none 27,some ⟨26,false⟩,false⟩::⟨some 29,.ln false 28,some ⟨26,false⟩,false⟩::⟨some 30,.bo .gtr false 29 (kI 5),some ⟨26,false⟩,false⟩::(gp 31 (.pk 26 (.c (.b true)) 30))::(gM 32 31)::⟨some 33,.fa 6 1,some ⟨32,false⟩,false⟩::⟨some 34,.ld none 33,some ⟨32,false⟩,false⟩::⟨some 35,.ln false 34,some ⟨32,false⟩,false⟩::⟨some 36,.bo .gtr false 35 (kI 5),some ⟨32,false⟩,false⟩::(gp 37 (.pk 32 (.c (.b true)) 36))::CB
def rB:Option Bool:=
 if 16<(a0.Vars.length:Int) then
  (lH a0 true).bind fun x5=>
  some x5
 else
  if 5<(a0.Ins.length:Int) then
   (lH a0 true).bind fun x6=>
   some x6
  else
   if 5<(a0.Outs.length:Int) then
    (lH a0 true).bind fun x7=>
    some x7
   else
    (lH a0 (decide (5<(a0.Funcs.length:Int)))).bind fun x7=>
    some x7
abbrev CC(x:Bool):St:=⟨[zP 1,(46,(.b x))],[(1,(aL a0))],H0⟩
theorem Jq(x:Bool)(h:rB a0=some x):q9 G Ω0 E0 [1,46] [1] KM ⟨[zP 1],[(1,(aL a0))],H0⟩=some (CC a0 x):=
 let H:=zI a0.Outs.length;let F:=aN a0.Ins;let E:=some 38;let D:=zI a0.Ins.length;let C:=(a0.Funcs.length:Int);let B:=decide (5<(a0.Outs.length:Int));let A:=decide (5<(a0.Ins.length:Int));qJ (bt<|ao (.i (a0.Vars.length:Int))<|.or (ahG<|.jb E 8<|.ex fun (x5:Bool)=>ao (.jn (oo a0 x5))<|.nil) (mg<|ao (.i (a0.Ins.length:Int))<|gZ<|.or (ahH<|.jb E 8<|.ex fun (x6:Bool)=>ao (.jn (oo a0 x6))<|.nil) (mg<|ao (.i (a0.Outs.length:Int))<|gZ<|.or (TJ<|.jb E 8<|.ex fun (x7:Bool)=>ao (.jn (oo a0 x7))<|.nil) (mg<|ao (.i C)<|gZ<|.jb E 8<|.ex fun (x7:Bool)=>ao (.jn (oo a0 x7))<|.nil)))) fun L=>ai (rfl:Z0)<|ai (aP dk a0.Vars)<|cw h (fun h4 h=>fy (aF h4)<|iD (aF h4)<|nR<|nR<|ai tt<|nR<|nR<|ai tt<|bq h (qo a0 true [.sk,.sk,.sk,.sk,(.b true),(.b true),.sk,.sk,.sk,.sk,(.b true),(.b true),.sk,.sk,.sk,.sk]) fun x5 h=>L h) (fun h4 h=>Ky (aD h4)<|ai (aP aT a0.Ins)<|iD (aD h4)<|cw h (fun h5 h=>fy (aF h5)<|iD (aF h5)<|nR<|nR<|ai tt<|bq h (qo a0 true [.sk,.sk,.sk,.sk,(.b true),(.b true),.sk,.sk,.sk,.sk,(.b A),(.b A),(.b A),D,F,(.p ⟨0,1⟩ 3)]) fun x6 h=>L h) (fun h5 h=>Ky (aD h5)<|ai (aP aT a0.Outs)<|iD (aD h5)<|cw h (fun h6 h=>Zg (aF h6)<|bq h (qo a0 true [.sk,.sk,.sk,.sk,(.b B),(.b B),(.b B),H,(aN a0.Outs),(.p ⟨0,1⟩ 4),(.b A),(.b A),(.b A),D,F,(.p ⟨0,1⟩ 3)]) fun x7 h=>L h) (fun h6 h=>Ky (aD h6)<|ai (aP cS a0.Funcs)<|iD (aD h6)<|bq h (qo a0 (decide (5<C)) [(.b (decide (5<C))),(zI a0.Funcs.length),(b8 a0.Funcs),(.p ⟨0,1⟩ 6),(.b B),(.b B),(.b B),H,(aN a0.Outs),(.p ⟨0,1⟩ 4),(.b A),(.b A),(.b A),D,F,(.p ⟨0,1⟩ 3)]) fun x7 h=>L h)))
def pr:Option (Nat⊕(Int⊕(Nat×Bool))):=
 if (af:Int)<(ah.length:Int) then
  (ah[af]?).bind fun bI=>
  (sr a0.ak bI).bind fun bg=>
  if (bg !=0)=true then
   some (.inr (.inl bg))
  else
   if IntKind.i64.wrap ((af:Int)+1)=((af+1:Nat):Int) then
    some (.inl (af+1))
   else none
 else
  some (.inr (.inr (af,decide ((af:Int)<(ah.length:Int)))))
abbrev MB(v:Nat):St:=⟨[(1,(.e (.a (aL a0)) 0)),(56,(aN ah)),(57,(zI ah.length)),(58,(I (v:Int)))],[],H0⟩
abbrev ya(x:(Int⊕(Nat×Bool))):bc×St:=match x with | .inl z1=>(.ret,⟨[(2,(I z1))],[],H0⟩) | .inr (z1,z2)=>((.ex 0),⟨[(1,(.e (.a (aL a0)) 0)),(56,(aN ah)),(57,(zI ah.length)),(58,(I (z1:Int))),(59,(.b z2))],[],H0⟩)
theorem KN(o:Nat⊕(Int⊕(Nat×Bool)))(h:pr a0 ah af=some o):bQ E0 UE (MB a0 ah) (ya a0 ah) af o:=
 bZ (.or (bt<|ao (.n af)<|.ex fun (bI:Label)=>ao (.v (.a [(bE bI.Read),(bE bI.Write)]))<|ea<|xI fun bg=>oN (ao (.i ((af+1:Nat):Int))<|.nil)) (bf<|.nil)) fun L=>cw h (fun a7 h=>ai (aF a7)<|ai (rI af)<|ba h fun bI bR h=>ai (aB aT bR)<|IF<|bq h (Cz a0.ak bI) fun bg h=>bB h (fun bi h=>ai bi<|L h) (fun bi h=>ai bi<|aO h fun b6 h=>ai b6<|L h)) (fun a7 h=>ai (aD a7)<|L h)
def pt:Option (Nat⊕(Int⊕(Nat×Bool))):=
 if (ad:Int)<(a0.Vars.length:Int) then
  (a0.Vars[ad]?).bind fun bN=>
  (sr a0.ak bN.Label).bind fun bk=>
  if (bk !=0)=true then
   some (.inr (.inl bk))
  else
   if IntKind.i64.wrap ((ad:Int)+1)=((ad+1:Nat):Int) then
    some (.inl (ad+1))
   else none
 else
  some (.inr (.inr (ad,decide ((ad:Int)<(a0.Vars.length:Int)))))
abbrev MC(v:Nat):St:=⟨[(1,(.e (.a (aL a0)) 0)),(71,(cF a0.Vars)),(72,(zI a0.Vars.length)),(73,(I (v:Int)))],[],H0⟩
abbrev yb(x:(Int⊕(Nat×Bool))):bc×St:=match x with | .inl z1=>(.ret,⟨[(2,(I z1))],[],H0⟩) | .inr (z1,z2)=>((.ex 2),⟨[(1,(.e (.a (aL a0)) 0)),(71,(cF a0.Vars)),(72,(zI a0.Vars.length)),(73,(I (z1:Int))),(74,(.b z2))],[],H0⟩)
theorem KO(o:Nat⊕(Int⊕(Nat×Bool)))(h:pt a0 ad=some o):bQ E0 UF (MC a0) (yb a0) ad o:=
 bZ (.or (bt<|ao (.n ad)<|.ex fun (bN:Var)=>ao (.v (.a (jk bN)))<|ea<|xI fun bk=>oN (ao (.i ((ad+1:Nat):Int))<|.nil)) (bf<|.nil)) fun L=>cw h (fun a6 h=>ai (aF a6)<|ai (rI ad)<|ba h fun bN bi h=>ai (aB dk bi)<|IF<|bq h (Cz a0.ak bN.Label) fun bk h=>bB h (fun a5 h=>ai a5<|L h) (fun a5 h=>ai a5<|aO h fun b0 h=>ai b0<|L h)) (fun a6 h=>ai (aD a6)<|L h)
abbrev P6(a0:Program)(r:Int):bC×HP:=(.ret (I r),H0)
def wo:Option Int:=
 (tm a0.ak).bind fun r1=>
 if (r1 !=0)=true then
  some r1
 else
  (rB a0).bind fun x4=>
  if x4=true then
   some 2
  else
   (ij a0.Speak a0).bind fun r7=>
   if r7=true then
    some 5
   else
    (jx ([a0.Ins,a0.Outs])).bind fun ah=>
    (lp (fun v=>pr a0 ah v) 0).bind fun b4=>match b4 with
    | .inl aQ=>
     some aQ
    | .inr a3=>
     (lp (fun v=>pt a0 v) 0).bind fun bJ=>match bJ with
     | .inl aK=>
      some aK
     | .inr aY=>
      (ik a0.Vars).bind fun bk=>
      if bk=true then
       some 1
      else
       some 0
theorem KP(r:Int)(h:wo a0=some r):call G Ω0 E0 123 [(.a (aL a0))] H0=some (P6 a0 r):=
 let A:=[a0.Ins,a0.Outs];bj an3 (bt<|xI fun r1=>oN (.jb (some 16) 30<|.ex fun (x4:Bool)=>ao (.jn (CC a0 x4))<|oN (xB fun r7=>oN (ao (.l (A.map (db 83 aT)))<|.ex fun (ah:(List Label))=>ao (.v (aN ah))<|ao (.i (ah.length:Int))<|.or (.ex fun (aQ:Int)=>ao (.cA (ya a0 ah (.inl aQ)))<|.nil) (.ex fun (a3:(Nat×Bool))=>ao (.cA (ya a0 ah (.inr a3)))<|ao (.i (a0.Vars.length:Int))<|.or (.ex fun (aK:Int)=>ao (.cA (yb a0 (.inl aK)))<|.nil) (.ex fun (aY:(Nat×Bool))=>ao (.cA (yb a0 (.inr aY)))<|xB fun bk=>oN (.nil))))))) fun L=>uq<|bq h (H9 a0.ak) fun r1 h=>bB h (fun h3 h=>ai h3<|L h) (fun h3 h=>ai h3<|bq h (Jq a0) fun x4 h=>bB h (fun h6 h=>ai h6<|L h) (fun h6 h=>lG h6<|bq h (ra a0.Speak a0) fun r7 h=>bB h (fun h9 h=>ai h9<|L h) (fun h9 h=>ai h9<|ai (rfl:[(aN a0.Ins),(aN a0.Outs)]=A.map (db 83 aT))<|bq h (xY A) fun ah h=>ai (aP aT ah)<|dv h (dT (KN a0 ah) 0) (fun aQ h=>L h) (fun a3 h=>ai (aP dk a0.Vars)<|dv h (dT (KO a0) 0) (fun aK h=>L h) (fun aY h=>bq h (rb a0.Vars) fun bk h=>bB h (fun a5 h=>ai a5<|L h) (fun a5 h=>ai a5<|L h))))))
end
section
variable (dp:Nat)(hp:HP)(k0:Key)
abbrev Ob(dp:Nat)(hp:HP)(k0:Key)(a0:Stmt)(a1:Int)(c0:Int)(r:(Bool×Int)):bC×HP:=(.ret (.b r.1),ar hp k0 [(I r.2)])
def zO(a0:Stmt)(a1:Int)(c0:Int):Option (Bool×Int):=
 if IntKind.i64.wrap (c0+1)=c0+1 then
  if (c0+1)≤50 then
   some ((decide (a1≤6)),(c0+1))
  else
   some (false,(c0+1))
 else none
theorem Jr(d:k0.dp<dp)(hz:bF dp hp)(a0:Stmt)(a1:Int)(c0:Int)(r:(Bool×Int))(h:zO a0 a1 c0=some r):call G Ω0 ⟨dp,false⟩ 167 [(.a (ax a0)),(I a1),(.p k0 0)] (ar hp k0 [(I c0)])=some (Ob dp hp k0 a0 a1 c0 r):=
 let C:=aA hp k0 [(I c0)];let B:=aj d;let A:=[(I (c0+1))];bj aow (bf<|ao (.l [(I c0)])<|ao (.i (c0+1))<|bf<|ao (.l [(I c0)])<|bf<|ao (.h (ar hp k0 A))<|bf<|ao (.l A)<|.or (ea<|.nil) (Kz<|.nil)) fun L=>ai ((by simp [ax,aV d,bm d]):(((.a (ax a0)):AV).deep dp&&(dY dp 3 [(0,(.a (ax a0))),(1,(I a1)),(2,(.p k0 0))] []))=true)<|ai B<|ai C<|aO h fun w1 h=>ai w1<|ai ff<|ai B<|ai C<|ai tt<|ai B<|ai (bA hp k0 [(I c0)] A)<|ai B<|ai (aA hp k0 A)<|cw h (fun h2 h=>ur (aF h2)<|L h) (fun h2 h=>ur (aD h2)<|L h)
end
section
variable (dp:Nat)(hp:HP)(k0:Key)(a0:(List Stmt))(a1:Int)(c0:Int)
abbrev As(dp:Nat)(hp:HP)(k0:Key)(a0:(List Stmt))(a1:Int)(c0:Int)(r:(Bool×Int)):bC×HP:=(.ret (.b r.1),ar hp k0 [(I r.2)])
abbrev mx(r:(Bool×Int)):Prop:=call G Ω0 ⟨dp,false⟩ 134 [(.l 111 (a0.map bK)),(I a1),(.f 167 [(.p k0 0)])] (ar hp k0 [(I c0)])=some (As dp hp k0 a0 a1 c0 r)
end
structure my where
 f_scope_Walk__scope_few_1:(List Stmt)→Int→Int→Option (Bool×Int)
structure l5(R:my):Prop where
 f_scope_Walk__scope_few_1:∀ (dp:Nat)(hp:HP)(k0:Key)(d:k0.dp<dp)(hz:bF dp hp)(a0:(List Stmt))(a1:Int)(c0:Int)(r:(Bool×Int)),R.f_scope_Walk__scope_few_1 a0 a1 c0=some r→mx dp hp k0 a0 a1 c0 r
section
variable (R:my)(a0:(List Stmt))(a1:Int)(k:Nat)(hp:HP)(k0:Key)(dp:Nat)(c0:Int)
def iN(v0_k0_0:Int):Option ((Nat×Int)⊕(Int⊕(Nat×Bool×Int))):=
 if (k:Int)<(a0.length:Int) then
  (a0[k]?).bind fun y2=>
  (zO y2 a1 v0_k0_0).bind fun r4=>
  if r4.1=true then
   if IntKind.i64.wrap (a1+1)=a1+1 then
    (R.f_scope_Walk__scope_few_1 y2.Then (a1+1) r4.2).bind fun r8=>
    if r8.1=true then
     (R.f_scope_Walk__scope_few_1 y2.Else (a1+1) r8.2).bind fun aE=>
     if aE.1=true then
      if IntKind.i64.wrap ((k:Int)+1)=((k+1:Nat):Int) then
       some (.inl (k+1,aE.2))
      else none
     else
      some (.inr (.inl aE.2))
    else
     some (.inr (.inl r8.2))
   else none
  else
   some (.inr (.inl r4.2))
 else
  some (.inr (.inr (k,decide ((k:Int)<(a0.length:Int)),v0_k0_0)))
abbrev zm(a0:(List Stmt))(a1:Int)(v:(Nat×Int)):St:=⟨[(1,(I a1)),(2,(.f 167 [(.p k0 0)])),(9,(bh a0)),(10,(zI a0.length)),(11,(I (v.1:Int)))],[],ar hp k0 [(I v.2)]⟩
abbrev lk(a0:(List Stmt))(a1:Int)(x:(Int⊕(Nat×Bool×Int))):bc×St:=match x with | .inl z1=>(.ret,⟨[(6,(.b false))],[],ar hp k0 [(I z1)]⟩) | .inr (z1,z2,z3)=>((.ex 0),⟨[(1,(I a1)),(2,(.f 167 [(.p k0 0)])),(9,(bh a0)),(10,(zI a0.length)),(11,(I (z1:Int))),(12,(.b z2))],[],ar hp k0 [(I z3)]⟩)
theorem yc(hR:l5 R)(dp:Nat)(hp:HP)(k0:Key)(d:k0.dp<dp)(hz:bF dp hp)(a0:(List Stmt))(a1:Int)(k:Nat)(v0_k0_0:Int)(o:(Nat×Int)⊕(Int⊕(Nat×Bool×Int)))(h:iN R a0 a1 k v0_k0_0=some o):bQ ⟨dp,false⟩ Kf (zm hp k0 a0 a1) (lk hp k0 a0 a1) (k,v0_k0_0) o:=
 let B:=aJ d;let A:=Bool×Int;bZ (.or (bt<|ao (.n k)<|.ex fun (y2:Stmt)=>let C:=(8,(ax y2));ao (.v (.a (ax y2)))<|ea<|.ex fun (r4:A)=>let D:=ar hp k0 [(I r4.2)];ao (.v (.b r4.1))<|ao (.h (boxes dp [C] D))<|ao (.bx [C])<|ao (.h D)<|.or (pn<|ao (.i (a1+1))<|cM<|.ex fun (r8:A)=>let E:=ar hp k0 [(I r8.2)];ao (.v (.b r8.1))<|ao (.h (boxes dp [C] E))<|ao (.bx [C])<|ao (.h E)<|gZ<|.or (pn<|ao (.i (a1+1))<|cM<|.ex fun (aE:A)=>let F:=ar hp k0 [(I aE.2)];ao (.v (.b aE.1))<|ao (.h (boxes dp [C] F))<|ao (.bx [C])<|ao (.h F)<|gZ<|.or (bf<|ao (.i ((k+1:Nat):Int))<|.nil) (bt<|.nil)) (Xp<|.nil)) (Xq<|.nil)) (bf<|.nil)) fun L=>cw h (fun h1 h=>ai (aF h1)<|ai (rI k)<|ba h fun y2 h3 h=>let G:=(8,(ax y2));ai (dR bK h3 (gE _))<|ai ((by simp [ax,aV d,bm d]):(dY dp 8 [(14,(.a (ax y2))),(13,(.e (.a (ax y2)) 0)),(1,(I a1)),(2,(.f 167 [(.p k0 0)])),(9,(.l 111 (a0.map bK))),(10,(I (a0.length:Int))),(11,(I (k:Int)))] [])=true)<|ai ff<|ai (rN dp)<|ai tt<|ai (rN dp)<|ai (rN dp)<|ew<|ba h fun r4 aq h=>have aq:=cO d (Jr (dp+1) (boxes dp [G] (ar hp k0 [(I v0_k0_0)])) k0 B (aU (an d hz)) y2 a1 v0_k0_0 _ aq);eo aq (an d hz)<|bB h (fun h6 h=>let H:=az not h6;xS H<|ai (rN dp)<|xS H<|aO h fun w7 h=>ai w7<|Mh H<|ba h fun r8 bG h=>have bG:=cO d (hR.f_scope_Walk__scope_few_1 (dp+1) (boxes dp [G] (ar hp k0 [(I r4.2)])) k0 B (aU (an d hz)) y2.Then (a1+1) r4.2 _ bG);eo bG (an d hz)<|iD H<|bB h (fun au h=>let J:=az not au;xS J<|ai (rN dp)<|xS J<|ai w7<|Mh J<|ba h fun aE aH h=>have aH:=cO d (hR.f_scope_Walk__scope_few_1 (dp+1) (boxes dp [G] (ar hp k0 [(I r8.2)])) k0 B (aU (an d hz)) y2.Else (a1+1) r8.2 _ aH);eo aH (an d hz)<|iD J<|bB h (fun aC h=>ai (az not aC)<|aO h fun bO h=>ai bO<|L h) (fun aC h=>ai (az not aC)<|L h)) (fun au h=>Xl (az not au)<|L h)) (fun h6 h=>Xm (az not h6)<|L h)) (fun h1 h=>ai (aD h1)<|L h)
def ja:Option (Bool×Int):=
 (lp (fun v=>iN R a0 a1 v.1 v.2) (0,c0)).bind fun x1=>match x1 with
 | .inl T=>
  some (false,T)
 | .inr Q=>
  some (true,Q.2.2)
theorem wR(hR:l5 R)(dp:Nat)(hp:HP)(k0:Key)(d:k0.dp<dp)(hz:bF dp hp)(a0:(List Stmt))(a1:Int)(c0:Int)(r:(Bool×Int))(h:ja R a0 a1 c0=some r):mx dp hp k0 a0 a1 c0 r:=
 bj WU (ao (.i (a0.length:Int))<|.or (.ex fun (T:Int)=>ao (.cA (lk hp k0 a0 a1 (.inl T)))<|.nil) (.ex fun (Q:(Nat×Bool×Int))=>ao (.cA (lk hp k0 a0 a1 (.inr Q)))<|.nil)) fun L=>ai (aP bK a0)<|dv h (dT (fun v=>yc R hR dp hp k0 d hz a0 a1 v.1 v.2) (0,c0)) (fun T h=>L h) (fun Q h=>L h)
def eY:Nat→my
 | 0=>⟨fun z0 z1 z2=>none⟩
 | n+1=>⟨ja (eY n)⟩
theorem qL:∀ n,l5 (eY n)
 | 0=>⟨fun _ _ _ _ _ _ _ _ r h=>(by cases h)⟩
 | n+1=>⟨fun dp hp k0 d hz a0 a1 c0 r h=>wR _ (qL n) dp hp k0 d hz a0 a1 c0 r h⟩
def jy:Option (Bool×Int):=ev fun n=>(eY n).f_scope_Walk__scope_few_1 a0 a1 c0
theorem pv(hp:HP)(k0:Key)(d:k0.dp<dp)(hz:bF dp hp)(a0:(List Stmt))(a1:Int)(c0:Int)(r:(Bool×Int))(h:jy a0 a1 c0=some r):mx dp hp k0 a0 a1 c0 r:=by
 obtain ⟨n,hn⟩:=nW h
 exact (qL n).f_scope_Walk__scope_few_1 dp hp k0 d hz a0 a1 c0 r hn
end
section
variable (a0:Program)(k:Nat)(am:Int)
def uK:Option ((Nat×Int)⊕(Unit⊕(Nat×Bool×Int))):=
 if (k:Int)<(a0.Funcs.length:Int) then
  (a0.Funcs[k]?).bind fun y2=>
  (jy y2.Body 1 am).bind fun r4=>
  if r4.1=true then
   if IntKind.i64.wrap ((k:Int)+1)=((k+1:Nat):Int) then
    some (.inl (k+1,r4.2))
   else none
  else
   some (.inr (.inl ()))
 else
  some (.inr (.inr (k,decide ((k:Int)<(a0.Funcs.length:Int)),am)))
abbrev Oc(v:(Nat×Int)):St:=⟨[zP 1,(4,(.f 167 [(zQ 3)])),(9,(b8 a0.Funcs)),(10,(zI a0.Funcs.length)),(11,(I (v.1:Int)))],[(1,(aL a0)),(3,[(I v.2)])],H0⟩
abbrev zR(x:(Unit⊕(Nat×Bool×Int))):bc×St:=match x with | .inl ()=>(.ret,⟨[(2,(.b false))],[],H0⟩) | .inr (z1,z2,z3)=>((.ex 0),⟨[zP 1,(4,(.f 167 [(zQ 3)])),(9,(b8 a0.Funcs)),(10,(zI a0.Funcs.length)),(11,(I (z1:Int))),(12,(.b z2))],[(1,(aL a0)),(3,[(I z3)])],H0⟩)
theorem MD(o:(Nat×Int)⊕(Unit⊕(Nat×Bool×Int)))(h:uK a0 k am=some o):bQ E0 UG (Oc a0) (zR a0) (k,am) o:=
 let B:=(3,[(I am)]);let A:=(1,(aL a0));bZ (.or (bt<|ao (.n k)<|.ex fun (y2:Func)=>ao (.v (.a (cB y2)))<|ea<|.ex fun (r4:(Bool×Int))=>let C:=[A,(3,[(I r4.2)]),(6,(cB y2))];ao (.v (.b r4.1))<|ao (.h (boxes 0 C H0))<|ao (.bx C)<|ao (.h H0)<|.or (bf<|ao (.i ((k+1:Nat):Int))<|.nil) (bt<|.nil)) (bf<|.nil)) fun L=>cw h (fun h1 h=>ai (aF h1)<|ai (rI k)<|ba h fun y2 h3 h=>let D:=(6,(cB y2));let E:=boxes 0 [A,B,D] H0;ai (aB cS h3)<|ai tt<|lZ<|ai (rfl:Z0)<|ew<|ba h fun r4 aq h=>let F:=[A,(3,[(I r4.2)]),D];have aq:call G Ω0 ⟨0+1,false⟩ 134 [(bh y2.Body),(I 1),(.f 167 [(zQ 3)])] E=some (.ret (.b r4.1),boxes 0 F H0):=ek (dB (bx1:=[A,B,D]) (by kernel_rfl) (by kernel_rfl)) (dB (bx1:=F) (by kernel_rfl) (by kernel_rfl)) (pv (0+1) E ⟨0,3⟩ (fR 0) (aU (eT 0)) y2.Body 1 am _ aq);eo aq (eT 0)<|bB h (fun h6 h=>ai (az not h6)<|aO h fun w7 h=>ai w7<|L h) (fun h6 h=>ai (az not h6)<|L h)) (fun h1 h=>ai (aD h1)<|L h)
abbrev Rv(a0:Program)(r:Bool):bC×HP:=(.ret (.b r),H0)
def yI:Option Bool:=
 (lp (fun v=>uK a0 v.1 v.2) (0,0)).bind fun x1=>match x1 with
 | .inl T=>
  some false
 | .inr Q=>
  (jy a0.Main 1 Q.2.2).bind fun r4=>
  some r4.1
theorem ME(r:Bool)(h:yI a0=some r):call G Ω0 E0 124 [(.a (aL a0))] H0=some (Rv a0 r):=
 let A:=(1,(aL a0));bj an4 (ea<|ao (.i (a0.Funcs.length:Int))<|.or (.ex fun (T:Unit)=>ao (.cA (zR a0 (.inl T)))<|.nil) (.ex fun (Q:(Nat×Bool×Int))=>ao (.cA (zR a0 (.inr Q)))<|bt<|.ex fun (r4:(Bool×Int))=>ao (.v (.b r4.1))<|ao (.h (boxes 0 [A,(3,[(I r4.2)])] H0))<|ao (.bx [A,(3,[(I r4.2)])])<|ao (.h H0)<|.nil)) fun L=>aZ<|lZ<|ai (rfl:Z0)<|ai (aP cS a0.Funcs)<|dv h (dT (fun v=>MD a0 v.1 v.2) (0,0)) (fun T h=>L h) (fun Q h=>let B:=[A,(3,[(I Q.2.2)])];ai (rfl:Z0)<|ew<|ba h fun r4 aq h=>have aq:call G Ω0 ⟨0+1,false⟩ 134 [(bh a0.Main),(I 1),(.f 167 [(zQ 3)])] (boxes 0 B H0)=some (.ret (.b r4.1),boxes 0 [A,(3,[(I r4.2)])] H0):=ek (dB (bx1:=B) (by kernel_rfl) (by kernel_rfl)) (dB (bx1:=[A,(3,[(I r4.2)])]) (by kernel_rfl) (by kernel_rfl)) (pv (0+1) (boxes 0 B H0) ⟨0,3⟩ (fR 0) (aU (eT 0)) a0.Main 1 Q.2.2 _ aq);eo aq (eT 0)<|L h)
end
section
variable (a0:(List Int))(a1:Int)(O:Nat)
def mz:Option (Nat⊕(Nat⊕(Nat×Bool))):=
 if (O:Int)<(a0.length:Int) then
  (a0[O]?).bind fun y2=>
  if (a1==y2)=true then
   some (.inr (.inl O))
  else
   if IntKind.i64.wrap ((O:Int)+1)=((O+1:Nat):Int) then
    some (.inl (O+1))
   else none
 else
  some (.inr (.inr (O,decide ((O:Int)<(a0.length:Int)))))
abbrev ER(v:Nat):St:=⟨[(0,(aS a0)),(1,(I a1)),(7,(zI a0.length)),(8,(I (v:Int)))],[],H0⟩
abbrev qp(x:(Nat⊕(Nat×Bool))):bc×St:=match x with | .inl z1=>(.ret,⟨[(4,(I (z1:Int)))],[],H0⟩) | .inr (z1,z2)=>((.ex 0),⟨[(0,(aS a0)),(1,(I a1)),(7,(zI a0.length)),(8,(I (z1:Int))),(9,(.b z2))],[],H0⟩)
theorem DG(o:Nat⊕(Nat⊕(Nat×Bool)))(h:mz a0 a1 O=some o):bQ E0 Vd (ER a0 a1) (qp a0 a1) O o:=
 bZ (.or (bt<|ao (.n O)<|xI fun y2=>oN (ao (.i ((O+1:Nat):Int))<|.nil)) (bf<|.nil)) fun L=>cw h (fun h1 h=>ai (aF h1)<|ai (rI O)<|ba h fun y2 h3 h=>ai (aB I h3)<|bB h (fun h4 h=>ai h4<|L h) (fun h4 h=>ai h4<|aO h fun w5 h=>ai w5<|L h)) (fun h1 h=>ai (aD h1)<|L h)
abbrev GI(a0:(List Int))(a1:Int)(r:Int):bC×HP:=(.ret (I r),H0)
def ss:Option Int:=
 (lp (fun v=>mz a0 a1 v) 0).bind fun x1=>match x1 with
 | .inl T=>
  some (T:Int)
 | .inr Q=>
  some (-1)
theorem DH(r:Int)(h:ss a0 a1=some r):call G Ω0 E0 207 [(.l 3 (a0.map (I))),(I a1)] H0=some (GI a0 a1 r):=
 bj aoV (ao (.i (a0.length:Int))<|.or (.ex fun (T:Nat)=>ao (.cA (qp a0 a1 (.inl T)))<|.nil) (.ex fun (Q:(Nat×Bool))=>ao (.cA (qp a0 a1 (.inr Q)))<|.nil)) fun L=>ai (aP I a0)<|dv h (dT (DG a0 a1) 0) (fun T h=>L h) (fun Q h=>L h)
abbrev DI(a0:(List Int))(a1:Int)(r:Bool):bC×HP:=(.ret (.b r),H0)
def lI:Option Bool:=
 (ss a0 a1).bind fun r1=>
 some (decide (0≤r1))
theorem Be(r:Bool)(h:lI a0 a1=some r):call G Ω0 E0 168 [(.l 3 (a0.map (I))),(I a1)] H0=some (DI a0 a1 r):=
 bj aox (xI fun r1=>.nil) fun L=>bq h (DH a0 a1) fun r1 h=>L h
end
section
variable (dp:Nat)(hp:HP)(k0:Key)(a0:Stmt)
abbrev BQ(dp:Nat)(hp:HP)(k0:Key)(k1:Key)(k2:Key)(a0:Stmt)(a1:Int)(c0:Unit)(c1:Checker)(c2:Int)(r:(Bool×Unit×Int)):bC×HP:=(.ret (.b r.1),ar (ar (ar hp k0 [(.p k1 0)]) k1 (cq c1)) k2 [(I r.2.2)])
def nS(a1:Int)(c0:Unit)(c1:Checker)(c2:Int):Option (Bool×Unit×Int):=
 (ig c1 a0).bind fun r1=>
 some ((r1==0),(),r1)
theorem zS(d:k0.dp<dp)(k1:Key)(j:k1.dp<dp)(k2:Key)(S:k2.dp<dp)(g:k0≠k1)(z:k0≠k2)(t:k1≠k2)(hz:bF dp hp)(a0:Stmt)(a1:Int)(c0:Unit)(c1:Checker)(c2:Int)(r:(Bool×Unit×Int))(h:nS a0 a1 c0 c1 c2=some r):call G Ω0 ⟨dp,false⟩ 169 [(.a (ax a0)),(I a1),(.p k0 0),(.p k2 0)] (ar (ar (ar hp k0 [(.p k1 0)]) k1 (cq c1)) k2 [(I c2)])=some (BQ dp hp k0 k1 k2 a0 a1 c0 c1 c2 r):=
 let C:=aj S;let A:=ar (ar hp k0 [(.p k1 0)]) k1 (cq c1);let B:=boxes dp [(4,(ax a0))] (ar A k2 [(I c2)]);bj aoy (bf<|ao (.l [(.p k1 0)])<|bt<|xI fun r1=>ao (.h B)<|bf<|ao (.l [(I c2)])<|bf<|ao (.h (ar A k2 [(I r1)]))<|bf<|ao (.l [(I r1)])<|.nil) fun L=>ai ((by simp [ax,aV d,bm d,aV j,bm j,aV S,bm S]):(((.a (ax a0)):AV).deep dp&&(dY dp 4 [(0,(.a (ax a0))),(1,(I a1)),(2,(.p k0 0)),(3,(.p k2 0))] []))=true)<|ai (aj d)<|ai (eb g z:(ar A k2 [(I c2)]) k0=some [(.p k1 0)])<|ai (rN dp)<|ai tt<|ba h fun r1 al h=>have al:call G Ω0 ⟨dp+1,true⟩ 170 [(.p k1 0),(.a (ax a0))] B=some (.ret (I r1),boxes dp [(4,(ax a0))] (ar A k2 [(I c2)])):=ek (c8 (hp1:=ar A k2 [(I c2)]) (aj j) (dj (dh t) (bA ..))) (c8 (hp1:=ar A k2 [(I c2)]) (aj j) (dj (dh t) (bA ..))) (BP (dp+1) B k1 (aJ j) (aU (an S (an j (an d hz)))) c1 a0 _ al);ai al<|ai ff<|ai C<|ai (aA A k2 [(I c2)])<|ai tt<|ai C<|ai (bA A k2 [(I c2)] [(I r1)])<|ai C<|ai (aA A k2 [(I r1)])<|L h
end
section
variable (dp:Nat)(hp:HP)(k0:Key)(k1:Key)(k2:Key)(a0:(List Stmt))(a1:Int)(c0:Unit)(c1:Checker)(c2:Int)
abbrev tA(dp:Nat)(hp:HP)(k0:Key)(k1:Key)(k2:Key)(a0:(List Stmt))(a1:Int)(c0:Unit)(c1:Checker)(c2:Int)(r:(Bool×Unit×Int)):bC×HP:=(.ret (.b r.1),ar (ar (ar hp k0 [(.p k1 0)]) k1 (cq c1)) k2 [(I r.2.2)])
abbrev il(r:(Bool×Unit×Int)):Prop:=call G Ω0 ⟨dp,false⟩ 134 [(.l 111 (a0.map bK)),(I a1),(.f 169 [(.p k0 0),(.p k2 0)])] (ar (ar (ar hp k0 [(.p k1 0)]) k1 (cq c1)) k2 [(I c2)])=some (tA dp hp k0 k1 k2 a0 a1 c0 c1 c2 r)
end
structure im where
 f_scope_Walk__scope_checker_stmts_1:(List Stmt)→Int→Unit→Checker→Int→Option (Bool×Unit×Int)
structure gJ(R:im):Prop where
 f_scope_Walk__scope_checker_stmts_1:∀ (dp:Nat)(hp:HP)(k0:Key)(d:k0.dp<dp)(k1:Key)(j:k1.dp<dp)(k2:Key)(S:k2.dp<dp)(g:k0≠k1)(z:k0≠k2)(t:k1≠k2)(hz:bF dp hp)(a0:(List Stmt))(a1:Int)(c0:Unit)(c1:Checker)(c2:Int)(r:(Bool×Unit×Int)),R.f_scope_Walk__scope_checker_stmts_1 a0 a1 c0 c1 c2=some r→il dp hp k0 k1 k2 a0 a1 c0 c1 c2 r
section
variable (R:im)(a0:(List Stmt))(a1:Int)(c1:Checker)(k:Nat)(hp:HP)(k0:Key)(k1:Key)(k2:Key)(dp:Nat)(c0:Unit)
def eL(v0_k2_0:Int):Option ((Nat×Int)⊕(Int⊕(Nat×Bool×Int))):=
 if (k:Int)<(a0.length:Int) then
  (a0[k]?).bind fun y2=>
  (nS y2 a1 () c1 v0_k2_0).bind fun r4=>
  if r4.1=true then
   if IntKind.i64.wrap (a1+1)=a1+1 then
    (R.f_scope_Walk__scope_checker_stmts_1 y2.Then (a1+1) () c1 r4.2.2).bind fun r8=>
    if r8.1=true then
     (R.f_scope_Walk__scope_checker_stmts_1 y2.Else (a1+1) () c1 r8.2.2).bind fun aE=>
     if aE.1=true then
      if IntKind.i64.wrap ((k:Int)+1)=((k+1:Nat):Int) then
       some (.inl (k+1,aE.2.2))
      else none
     else
      some (.inr (.inl aE.2.2))
    else
     some (.inr (.inl r8.2.2))
   else none
  else
   some (.inr (.inl r4.2.2))
 else
  some (.inr (.inr (k,decide ((k:Int)<(a0.length:Int)),v0_k2_0)))
abbrev rR(a0:(List Stmt))(a1:Int)(c1:Checker)(v:(Nat×Int)):St:=⟨[(1,(I a1)),(2,(.f 169 [(.p k0 0),(.p k2 0)])),(9,(bh a0)),(10,(zI a0.length)),(11,(I (v.1:Int)))],[],ar (ar (ar hp k0 [(.p k1 0)]) k1 (cq c1)) k2 [(I v.2)]⟩
abbrev gm(a0:(List Stmt))(a1:Int)(c1:Checker)(x:(Int⊕(Nat×Bool×Int))):bc×St:=match x with | .inl z1=>(.ret,⟨[(6,(.b false))],[],ar (ar (ar hp k0 [(.p k1 0)]) k1 (cq c1)) k2 [(I z1)]⟩) | .inr (z1,z2,z3)=>((.ex 0),⟨[(1,(I a1)),(2,(.f 169 [(.p k0 0),(.p k2 0)])),(9,(bh a0)),(10,(zI a0.length)),(11,(I (z1:Int))),(12,(.b z2))],[],ar (ar (ar hp k0 [(.p k1 0)]) k1 (cq c1)) k2 [(I z3)]⟩)
theorem rf(hR:gJ R)(dp:Nat)(hp:HP)(k0:Key)(d:k0.dp<dp)(k1:Key)(j:k1.dp<dp)(k2:Key)(S:k2.dp<dp)(g:k0≠k1)(z:k0≠k2)(t:k1≠k2)(hz:bF dp hp)(a0:(List Stmt))(a1:Int)(c1:Checker)(k:Nat)(v0_k2_0:Int)(o:(Nat×Int)⊕(Int⊕(Nat×Bool×Int)))(h:eL R a0 a1 c1 k v0_k2_0=some o):bQ ⟨dp,false⟩ Kf (rR hp k0 k1 k2 a0 a1 c1) (gm hp k0 k1 k2 a0 a1 c1) (k,v0_k2_0) o:=
 let E:=aJ S;let D:=aJ j;let C:=aJ d;let B:=Bool×Unit×Int;let A:=ar (ar hp k0 [(.p k1 0)]) k1 (cq c1);bZ (.or (bt<|ao (.n k)<|.ex fun (y2:Stmt)=>let F:=(8,(ax y2));ao (.v (.a (ax y2)))<|ea<|.ex fun (r4:B)=>let G:=ar A k2 [(I r4.2.2)];ao (.v (.b r4.1))<|ao (.h (boxes dp [F] G))<|ao (.bx [F])<|ao (.h G)<|.or (pn<|ao (.i (a1+1))<|cM<|.ex fun (r8:B)=>let H:=ar A k2 [(I r8.2.2)];ao (.v (.b r8.1))<|ao (.h (boxes dp [F] H))<|ao (.bx [F])<|ao (.h H)<|gZ<|.or (pn<|ao (.i (a1+1))<|cM<|.ex fun (aE:B)=>let J:=ar A k2 [(I aE.2.2)];ao (.v (.b aE.1))<|ao (.h (boxes dp [F] J))<|ao (.bx [F])<|ao (.h J)<|gZ<|.or (bf<|ao (.i ((k+1:Nat):Int))<|.nil) (bt<|.nil)) (Xp<|.nil)) (Xq<|.nil)) (bf<|.nil)) fun L=>cw h (fun h1 h=>ai (aF h1)<|ai (rI k)<|ba h fun y2 h3 h=>let K:=(8,(ax y2));ai (dR bK h3 (gE _))<|ai ((by simp [ax,aV d,bm d,aV j,bm j,aV S,bm S]):(dY dp 8 [(14,(.a (ax y2))),(13,(.e (.a (ax y2)) 0)),(1,(I a1)),(2,(.f 169 [(.p k0 0),(.p k2 0)])),(9,(.l 111 (a0.map bK))),(10,(I (a0.length:Int))),(11,(I (k:Int)))] [])=true)<|ai ff<|ai (rN dp)<|ai tt<|ai (rN dp)<|ai (rN dp)<|ew<|ba h fun r4 aq h=>have aq:=mc d j S g z t (zS (dp+1) (boxes dp [K] (ar A k2 [(I v0_k2_0)])) k0 C k1 D k2 E g z t (aU (an S (an j (an d hz)))) y2 a1 () c1 v0_k2_0 _ aq);eo aq (an S (an j (an d hz)))<|bB h (fun h6 h=>let M:=az not h6;xS M<|ai (rN dp)<|xS M<|aO h fun w7 h=>ai w7<|Mh M<|ba h fun r8 bG h=>have bG:=mc d j S g z t (hR.f_scope_Walk__scope_checker_stmts_1 (dp+1) (boxes dp [K] (ar A k2 [(I r4.2.2)])) k0 C k1 D k2 E g z t (aU (an S (an j (an d hz)))) y2.Then (a1+1) () c1 r4.2.2 _ bG);eo bG (an S (an j (an d hz)))<|iD M<|bB h (fun au h=>let N:=az not au;xS N<|ai (rN dp)<|xS N<|ai w7<|Mh N<|ba h fun aE aH h=>have aH:=mc d j S g z t (hR.f_scope_Walk__scope_checker_stmts_1 (dp+1) (boxes dp [K] (ar A k2 [(I r8.2.2)])) k0 C k1 D k2 E g z t (aU (an S (an j (an d hz)))) y2.Else (a1+1) () c1 r8.2.2 _ aH);eo aH (an S (an j (an d hz)))<|iD N<|bB h (fun aC h=>ai (az not aC)<|aO h fun bO h=>ai bO<|L h) (fun aC h=>ai (az not aC)<|L h)) (fun au h=>Xl (az not au)<|L h)) (fun h6 h=>Xm (az not h6)<|L h)) (fun h1 h=>ai (aD h1)<|L h)
def eO(c0:Unit)(c1:Checker)(c2:Int):Option (Bool×Unit×Int):=
 (lp (fun v=>eL R a0 a1 c1 v.1 v.2) (0,c2)).bind fun x1=>match x1 with
 | .inl T=>
  some (false,(),T)
 | .inr Q=>
  some (true,(),Q.2.2)
theorem qM(hR:gJ R)(dp:Nat)(hp:HP)(k0:Key)(d:k0.dp<dp)(k1:Key)(j:k1.dp<dp)(k2:Key)(S:k2.dp<dp)(g:k0≠k1)(z:k0≠k2)(t:k1≠k2)(hz:bF dp hp)(a0:(List Stmt))(a1:Int)(c0:Unit)(c1:Checker)(c2:Int)(r:(Bool×Unit×Int))(h:eO R a0 a1 c0 c1 c2=some r):il dp hp k0 k1 k2 a0 a1 c0 c1 c2 r:=
 bj WU (ao (.i (a0.length:Int))<|.or (.ex fun (T:Int)=>ao (.cA (gm hp k0 k1 k2 a0 a1 c1 (.inl T)))<|.nil) (.ex fun (Q:(Nat×Bool×Int))=>ao (.cA (gm hp k0 k1 k2 a0 a1 c1 (.inr Q)))<|.nil)) fun L=>ai (aP bK a0)<|dv h (dT (fun v=>rf R hR dp hp k0 d k1 j k2 S g z t hz a0 a1 c1 v.1 v.2) (0,c2)) (fun T h=>L h) (fun Q h=>L h)
def dK:Nat→im
 | 0=>⟨fun z0 z1 z2 z3 z4=>none⟩
 | n+1=>⟨eO (dK n)⟩
theorem ll:∀ n,gJ (dK n)
 | 0=>⟨fun _ _ _ _ _ _ _ _ _ _ _ _ _ _ _ _ _ r h=>(by cases h)⟩
 | n+1=>⟨fun dp hp k0 d k1 j k2 S g z t hz a0 a1 c0 c1 c2 r h=>qM _ (ll n) dp hp k0 d k1 j k2 S g z t hz a0 a1 c0 c1 c2 r h⟩
def iq(c1:Checker)(c2:Int):Option (Bool×Unit×Int):=ev fun n=>(dK n).f_scope_Walk__scope_checker_stmts_1 a0 a1 c0 c1 c2
theorem rh(hp:HP)(k0:Key)(d:k0.dp<dp)(k1:Key)(j:k1.dp<dp)(k2:Key)(S:k2.dp<dp)(g:k0≠k1)(z:k0≠k2)(t:k1≠k2)(hz:bF dp hp)(a0:(List Stmt))(a1:Int)(c0:Unit)(c1:Checker)(c2:Int)(r:(Bool×Unit×Int))(h:iq a0 a1 c0 c1 c2=some r):il dp hp k0 k1 k2 a0 a1 c0 c1 c2 r:=by
 obtain ⟨n,hn⟩:=nW h
 exact (ll n).f_scope_Walk__scope_checker_stmts_1 dp hp k0 d k1 j k2 S g z t hz a0 a1 c0 c1 c2 r hn
end
section
variable (dp:Nat)(hp:HP)(k0:Key)(c0:Checker)(a0:(List Stmt))
abbrev DJ(dp:Nat)(hp:HP)(k0:Key)(c0:Checker)(a0:(List Stmt))(r:Int):bC×HP:=(.ret (I r),ar hp k0 (cq c0))
def js:Option Int:=
 (iq a0 1 () c0 0).bind fun r1=>
 some r1.2.2
theorem su(d:k0.dp<dp)(hz:bF dp hp)(c0:Checker)(a0:(List Stmt))(r:Int)(h:js c0 a0=some r):call G Ω0 ⟨dp,false⟩ 126 [(.p k0 0),(.l 111 (a0.map bK))] (ar hp k0 (cq c0))=some (DJ dp hp k0 c0 a0 r):=
 let B:=ar hp k0 (cq c0);let A:=(2,[(.p k0 0)]);let C:=[A,(5,[(I 0)])];bj an6 (cM<|.ex fun (r1:(Bool×Unit×Int))=>let D:=[A,(5,[(I r1.2.2)])];ao (.v (.b r1.1))<|ao (.h (boxes dp D B))<|ao (.bx D)<|ao (.h B)<|bt<|.nil) fun L=>ai ((by simp [aV d,bm d]):(((.p k0 0):AV).deep dp&&(dY dp 2 [(0,(.p k0 0)),(1,(.l 111 (a0.map bK)))] []))=true)<|ai ((by simp [aV d,bm d]):(dY dp 5 [(1,(.l 111 (a0.map bK))),(2,(.p ⟨dp,2⟩ 0))] [(2,[(.p k0 0)])])=true)<|ai ff<|ai (rN dp)<|ai tt<|ai (rN dp)<|ai ff<|ai ((by simp [bm d]):([(2,[(.p k0 0)]),(5,[(I 0)])]:List (Nat×List AV)).all (fun y=>AV.jJ dp y.2)=true)<|ba h fun r1 al h=>let E:=[A,(5,[(I r1.2.2)])];have al:call G Ω0 ⟨dp+1,false⟩ 134 [(bh a0),(I 1),(.f 169 [(.p ⟨dp,2⟩ 0),(.p ⟨dp,5⟩ 0)])] (boxes dp C B)=some (.ret (.b r1.1),boxes dp E B):=ek (jh (jh (dB (bx1:=C) (by kernel_rfl) (by kernel_rfl)) (c8 (hp1:=ar hp k0 (cq c0)) (aj d) (bA ..))) (dB (bx1:=C) (by kernel_rfl) (by kernel_rfl))) (jh (jh (dB (bx1:=C) (by kernel_rfl) (by kernel_rfl)) (c8 (hp1:=ar hp k0 (cq c0)) (aj d) (bA ..))) (dB (bx1:=E) (by kernel_rfl) (by kernel_rfl))) (rh (dp+1) (boxes dp C B) ⟨dp,2⟩ (fR dp) k0 (aJ d) ⟨dp,5⟩ (fR dp) (Mf d) (Kw (by decide)) (aV d) (aU (an d hz)) a0 1 () c0 0 _ al);eo al (an d hz)<|ai (rN dp)<|L h
end
section
variable (c0:Checker)(a0:Func)(U:Nat)(dp:Nat)(hp:HP)(k0:Key)
def mA:Option (Nat⊕(Unit⊕(Unit⊕(Nat×Bool)))):=
 if (U:Int)<(a0.Params.length:Int) then
  (a0.Params[U]?).bind fun y3=>
  if y3<0 then
   some (.inr (.inl ()))
  else
   if (c0.p.Vars.length:Int)≤y3 then
    some (.inr (.inl ()))
   else
    if U≤a0.Params.length then
     (lI ((a0.Params.take U).drop 0) y3).bind fun r8=>
     if r8=true then
      some (.inr (.inr (.inl ())))
     else
      if IntKind.i64.wrap ((U:Int)+1)=((U+1:Nat):Int) then
       some (.inl (U+1))
      else none
    else none
 else
  some (.inr (.inr (.inr (U,decide ((U:Int)<(a0.Params.length:Int))))))
abbrev ES(c0:Checker)(a0:Func)(v:Nat):St:=⟨[(0,(.p k0 0)),(3,(.p ⟨dp,3⟩ 0)),(13,(aS a0.Params)),(14,(zI a0.Params.length)),(15,(I (v:Int)))],[(3,(cB a0))],ar hp k0 (cq c0)⟩
abbrev mB(c0:Checker)(a0:Func)(x:(Unit⊕(Unit⊕(Nat×Bool)))):bc×St:=match x with | .inl ()=>(.ret,⟨[(4,(I 5))],[],ar hp k0 (cq c0)⟩) | .inr (.inl ())=>(.ret,⟨[(4,(I 6))],[],ar hp k0 (cq c0)⟩) | .inr (.inr (z1,z2))=>((.ex 0),⟨[(0,(.p k0 0)),(3,(.p ⟨dp,3⟩ 0)),(13,(aS a0.Params)),(14,(zI a0.Params.length)),(15,(I (z1:Int))),(16,(.b z2))],[(3,(cB a0))],ar hp k0 (cq c0)⟩)
theorem DK(d:k0.dp<dp)(hz:bF dp hp)(c0:Checker)(a0:Func)(U:Nat)(o:Nat⊕(Unit⊕(Unit⊕(Nat×Bool))))(h:mA c0 a0 U=some o):bQ ⟨dp,false⟩ UH (ES dp hp k0 c0 a0) (mB dp hp k0 c0 a0) U o:=
 let A:=(a0.Params.take U).drop 0;bZ (.or (bt<|ao (.n U)<|xI fun y3=>.or (bf<|bf<|bf<|bf<|bf<|bf<|bf<|bf<|bt<|bt<|.nil) (PJ<|ao (.l (cq c0))<|bt<|ao (.i (c0.p.Vars.length:Int))<|gZ<|oN (bt<|ao (.n U)<|ao (.l (A.map I))<|xB fun r8=>oN (ao (.i ((U+1:Nat):Int))<|.nil)))) (bf<|.nil)) fun L=>cw h (fun h2 h=>ai (aF h2)<|ai (rI U)<|ba h fun y3 h4 h=>ai (aB I h4)<|cw h (fun h5 h=>fy (aF h5)<|fy (aF h5)<|ai (g0 (aF h5))<|iD (aF h5)<|ai tt<|L h) (fun h5 h=>fy (aD h5)<|fy (aD h5)<|ai (aj d)<|ai (aA hp k0 (cq c0))<|ai (g0 (aD h5))<|ai (aP dk c0.p.Vars)<|iD (aD h5)<|cw h (fun h6 h=>ai (aF h6)<|L h) (fun h6 h=>ai (aD h6)<|ai (rN dp)<|ai (rI U)<|ai ((by decide):3≠0)<|ai ((dS I (n:=1) (fun _=>rfl) a0.Params):(a0.Params.map I).all (fun e=>e.nc==1)=true)<|ai (du _:0≤U)<|aO h fun h7 h=>ai ((by rw [jf];exact h7):U≤(a0.Params.map I).length)<|ai (N8 I a0.Params 0 U)<|bq h (Be A y3) fun r8 h=>bB h (fun au h=>ai au<|L h) (fun au h=>ai au<|aO h fun bP h=>ai bP<|L h)))) (fun h2 h=>ai (aD h2)<|L h)
abbrev GJ(dp:Nat)(hp:HP)(k0:Key)(c0:Checker)(a0:Func)(r:Int):bC×HP:=(.ret (I r),ar hp k0 (cq c0))
def oq:Option Int:=
 if 4<(a0.Params.length:Int) then
  some 2
 else
  (lp (fun v=>mA c0 a0 v) 0).bind fun x2=>match x2 with
  | .inl bz=>
   some 5
  | .inr (.inl bu)=>
   some 6
  | .inr (.inr bl)=>
   (js c0 a0.Body).bind fun r5=>
   if (r5 !=0)=true then
    some r5
   else
    (np a0.Result (c0.p.Vars.length:Int)).bind fun r8=>
    some r8
theorem DL(d:k0.dp<dp)(hz:bF dp hp)(c0:Checker)(a0:Func)(r:Int)(h:oq c0 a0=some r):call G Ω0 ⟨dp,false⟩ 125 [(.p k0 0),(.a (cB a0))] (ar hp k0 (cq c0))=some (GJ dp hp k0 c0 a0 r):=
 let C:=(c0.p.Vars.length:Int);let B:=(a0.Params.length:Int);let A:=boxes dp [(3,(cB a0))] (ar hp k0 (cq c0));bj an5 (bt<|ao (.i B)<|oN (bt<|ao (.i B)<|.or (.ex fun (bz:Unit)=>ao (.cA (mB dp hp k0 c0 a0 (.inl bz)))<|.nil) (.or (.ex fun (bu:Unit)=>ao (.cA (mB dp hp k0 c0 a0 (.inr (.inl bu))))<|.nil) (.ex fun (bl:(Nat×Bool))=>ao (.cA (mB dp hp k0 c0 a0 (.inr (.inr bl))))<|bt<|xI fun r5=>ao (.h A)<|ao (.bx [(3,(cB a0))])<|ao (.h (ar hp k0 (cq c0)))<|oN (gZ<|ao (.l (cq c0))<|ao (.i C)<|xI fun r8=>.nil))))) fun L=>ai ((by simp [cB,aV d,bm d]):(((.a (cB a0)):AV).deep dp&&(dY dp 3 [(0,(.p k0 0)),(1,(.a (cB a0)))] []))=true)<|ai (rN dp)<|ai (aP I a0.Params)<|cw h (fun h1 h=>ai (aF h1)<|L h) (fun h1 h=>ai (aD h1)<|ai (rN dp)<|ai (aP I a0.Params)<|TC h (dT (DK dp hp k0 d hz c0 a0) 0) (fun bz h=>L h) (fun bu h=>L h) (fun bl h=>ai (rN dp)<|ew<|ba h fun r5 b2 h=>have b2:=cO d (su (dp+1) A k0 (aJ d) (aU (an d hz)) c0 a0.Body _ b2);eo b2 (an d hz)<|bB h (fun h7 h=>ai h7<|L h) (fun h7 h=>PF h7<|ai (rN dp)<|mu<|ai (aj d)<|ai (aA hp k0 (cq c0))<|ai tt<|ai (aP dk c0.p.Vars)<|ai tt<|bq h (wi a0.Result C) fun r8 h=>L h)))
end
section
variable (a0:Program)(aa:Nat)(av:Nat)
def ot:Option ((Nat×Nat)⊕(Int⊕(Nat×Bool×Nat))):=
 if (aa:Int)<(a0.Funcs.length:Int) then
  (a0.Funcs[aa]?).bind fun y8=>
  (oq (⟨a0,(aa:Int)⟩:Checker) y8).bind fun ah=>
  if (ah !=0)=true then
   some (.inr (.inl ah))
  else
   if IntKind.i64.wrap ((aa:Int)+1)=((aa+1:Nat):Int) then
    some (.inl (aa+1,aa))
   else none
 else
  some (.inr (.inr (aa,decide ((aa:Int)<(a0.Funcs.length:Int)),av)))
abbrev KQ(v:(Nat×Nat)):St:=⟨[zP 1,(4,(zQ 18)),(20,(b8 a0.Funcs)),(21,(zI a0.Funcs.length)),(22,(I (v.1:Int)))],[(1,(aL a0)),(18,[(I a0.ak.Many),(aX a0.ak.Grants),(aS a0.Speak),(aN a0.Ins),(aN a0.Outs),(cF a0.Vars),(b8 a0.Funcs),(bh a0.Main),(I (v.2:Int))])],H0⟩
abbrev wq(x:(Int⊕(Nat×Bool×Nat))):bc×St:=match x with | .inl z1=>(.ret,⟨[(2,(I z1))],[],H0⟩) | .inr (z1,z2,z3)=>((.ex 0),⟨[zP 1,(4,(zQ 18)),(20,(b8 a0.Funcs)),(21,(zI a0.Funcs.length)),(22,(I (z1:Int))),(23,(.b z2))],[(1,(aL a0)),(18,[(I a0.ak.Many),(aX a0.ak.Grants),(aS a0.Speak),(aN a0.Ins),(aN a0.Outs),(cF a0.Vars),(b8 a0.Funcs),(bh a0.Main),(I (z3:Int))])],H0⟩)
theorem Js(o:(Nat×Nat)⊕(Int⊕(Nat×Bool×Nat)))(h:ot a0 aa av=some o):bQ E0 YT (KQ a0) (wq a0) (aa,av) o:=
 let B:=(1,(aL a0));let A:=(18,[(I a0.ak.Many),(aX a0.ak.Grants),(aS a0.Speak),(aN a0.Ins),(aN a0.Outs),(cF a0.Vars),(b8 a0.Funcs),(bh a0.Main),(zI aa)]);bZ (.or (bt<|ao (.n aa)<|.ex fun (y8:Func)=>ao (.v (.a (cB y8)))<|pn<|xI fun ah=>ao (.h (boxes 0 [B,(6,(cB y8)),A] H0))<|ao (.bx [B,(6,(cB y8)),A])<|ao (.h H0)<|oN (ao (.i ((aa+1:Nat):Int))<|.nil)) (bf<|.nil)) fun L=>cw h (fun h7 h=>ai (aF h7)<|ai (rI aa)<|ba h fun y8 h9 h=>let C:=[B,(6,(cB y8)),A];ai (aB cS h9)<|ai tt<|lZ<|lZ<|ai (rfl:Z0)<|ew<|ba h fun ah aI h=>have aI:call G Ω0 ⟨0+1,false⟩ 125 [(zQ 18),(.a (cB y8))] (boxes 0 C H0)=some (.ret (I ah),boxes 0 C H0):=ek (dB (bx1:=C) (by kernel_rfl) (by kernel_rfl)) (dB (bx1:=C) (by kernel_rfl) (by kernel_rfl)) (DL (0+1) (boxes 0 C H0) ⟨0,18⟩ (fR 0) (aU (eT 0)) (⟨a0,(aa:Int)⟩:Checker) y8 _ aI);eo aI (eT 0)<|bB h (fun a7 h=>ai a7<|L h) (fun a7 h=>ai a7<|aO h fun b1 h=>ai b1<|L h)) (fun h7 h=>ai (aD h7)<|L h)
abbrev Od(a0:Program)(r:Int):bC×HP:=(.ret (I r),H0)
def uL:Option Int:=
 (wo a0).bind fun r1=>
 if (r1 !=0)=true then
  some r1
 else
  (yI a0).bind fun r4=>
  if r4=true then
   (lp (fun v=>ot a0 v.1 v.2) (0,0)).bind fun x7=>match x7 with
   | .inl a9=>
    some a9
   | .inr br=>
    (js (⟨a0,(a0.Funcs.length:Int)⟩:Checker) a0.Main).bind fun ah=>
    some ah
  else
   some 2
theorem Jt(r:Int)(h:uL a0=some r):call G Ω0 E0 79 [(.a (aL a0))] H0=some (Od a0 r):=
 let C:=(a0.Funcs.length:Int);let B:=(1,(aL a0));let A:=(18,[(I a0.ak.Many),(aX a0.ak.Grants),(aS a0.Speak),(aN a0.Ins),(aN a0.Outs),(cF a0.Vars),(b8 a0.Funcs),(bh a0.Main),(zI a0.Funcs.length)]);let D:=boxes 0 [B,A] H0;bj G79 (bt<|xI fun r1=>oN (bt<|xB fun r4=>.or (bf<|bt<|bt<|ao (.i C)<|.or (.ex fun (a9:Int)=>ao (.cA (wq a0 (.inl a9)))<|.nil) (.ex fun (br:(Nat×Bool×Nat))=>ao (.cA (wq a0 (.inr br)))<|bt<|ao (.i C)<|ea<|xI fun ah=>ao (.h D)<|ao (.bx [B,A])<|ao (.h H0)<|.nil)) (bt<|.nil))) fun L=>uq<|bq h (KP a0) fun r1 h=>bB h (fun h3 h=>ai h3<|L h) (fun h3 h=>lG h3<|bq h (ME a0) fun r4 h=>bB h (fun h6 h=>ai (az not h6)<|l3<|ai (rfl:Z0)<|ai (aP cS a0.Funcs)<|dv h (dT (fun v=>Js a0 v.1 v.2) (0,0)) (fun a9 h=>L h) (fun br h=>ai (rfl:Z0)<|ai (aP cS a0.Funcs)<|lZ<|ai (rfl:Z0)<|ew<|ba h fun ah aI h=>have aI:call G Ω0 ⟨0+1,false⟩ 126 [(zQ 18),(bh a0.Main)] D=some (.ret (I ah),boxes 0 [B,A] H0):=ek (dB (bx1:=[B,A]) (by kernel_rfl) (by kernel_rfl)) (dB (bx1:=[B,A]) (by kernel_rfl) (by kernel_rfl)) (su (0+1) D ⟨0,18⟩ (fR 0) (aU (eT 0)) (⟨a0,C⟩:Checker) a0.Main _ aI);eo aI (eT 0)<|L h)) (fun h6 h=>ai (az not h6)<|L h))
end
section
variable (a0:(List Bool))(a1:(List Bool))(q:(List Bool))(m:Nat)
def nY:Option (((List Bool)×Nat)⊕((List Bool)×Nat×Bool)):=
 if (m:Int)<(a0.length:Int) then
  (a0[m]?).bind fun y2=>
  if y2=true then
   (a1[m]?).bind fun y5=>
   if q.length + [y5].length≤1000000000 then
    if IntKind.i64.wrap ((m:Int)+1)=((m+1:Nat):Int) then
     some (.inl (q++[y5],m+1))
    else none
   else none
  else
   if q.length + [false].length≤1000000000 then
    if IntKind.i64.wrap ((m:Int)+1)=((m+1:Nat):Int) then
     some (.inl (q++[false],m+1))
    else none
   else none
 else
  some (.inr (q,m,decide ((m:Int)<(a0.length:Int))))
abbrev Oe(v:((List Bool)×Nat)):St:=⟨[(1,(aw a1)),(5,(iO v.1)),(8,(aw a0)),(9,(zI a0.length)),(10,(I (v.2:Int)))],[],H0⟩
abbrev Fk(x:((List Bool)×Nat×Bool)):bc×St:=((.ex 0),⟨[(1,(aw a1)),(5,(iO x.1)),(8,(aw a0)),(9,(zI a0.length)),(10,(I (x.2.1:Int))),(11,(.b x.2.2))],[],H0⟩)
theorem MF(o:((List Bool)×Nat)⊕((List Bool)×Nat×Bool))(h:nY a0 a1 q m=some o):bQ E0 UR (Oe a0 a1) (Fk a0 a1) (q,m) o:=
 let C:=((m+1:Nat):Int);let B:=q.map AV.b;let A:=[false].map AV.b;bZ (.or (bt<|ao (.n m)<|xB fun y2=>.or (ea<|ao (.n m)<|xB fun y5=>cM<|ao (.l ([y5].map AV.b))<|ao (.l ((q++[y5]).map AV.b))<|ao (.i C)<|.nil) (TK<|ao (.l A)<|ao (.l ((q++[false]).map AV.b))<|ao (.i C)<|.nil)) (bf<|.nil)) fun L=>cw h (fun h1 h=>ai (aF h1)<|ai (rI m)<|ba h fun y2 h3 h=>ai (aB AV.b h3)<|bB h (fun h4 h=>PE h4<|ai (rI m)<|ba h fun y5 h6 h=>let D:=[y5].map AV.b;ai (aB AV.b h6)<|qg h4<|ai (rfl:[(.b y5)]=[y5].map AV.b)<|ai ff<|aO h fun h7 h=>ai ((dS AV.b (n:=1) (fun _=>rfl) [y5]):D.all (fun e=>e.nc==1)=true)<|ai ((eJ h7 (by decide)):(B.length+D.length)*1≤140737488355328)<|ai ((eK h7):B.length+D.length≤maxLen)<|ai (cQ.symm:q.map AV.b++[y5].map AV.b=(q++[y5]).map AV.b)<|aO h fun w8 h=>ai w8<|L h) (fun h4 h=>Xk h4<|ai (rfl:[(.b false)]=[false].map AV.b)<|ai ff<|aO h fun h5 h=>ai ((dS AV.b (n:=1) (fun _=>rfl) [false]):A.all (fun e=>e.nc==1)=true)<|ai ((eJ h5 (by decide)):(B.length+A.length)*1≤140737488355328)<|ai ((eK h5):B.length+A.length≤maxLen)<|ai (cQ.symm:q.map AV.b++[false].map AV.b=(q++[false]).map AV.b)<|aO h fun w6 h=>ai w6<|L h)) (fun h1 h=>ai (aD h1)<|L h)
abbrev Rw(a0:(List Bool))(a1:(List Bool))(r:(List Bool)):bC×HP:=(.ret (.l 4 (r.map AV.b)),H0)
def yJ:Option (List Bool):=
 (lp (fun v=>nY a0 a1 v.1 v.2) (([]:List Bool),0)).bind fun x1=>
 some x1.1
theorem MG(r:(List Bool))(h:yJ a0 a1=some r):call G Ω0 E0 155 [(.l 4 (a0.map AV.b)),(.l 4 (a1.map AV.b))] H0=some (Rw a0 a1 r):=
 bj aok (ao (.i (a0.length:Int))<|.ex fun (x1:((List Bool)×Nat×Bool))=>ao (.cA (Fk a0 a1 x1))<|.nil) fun L=>ai (aP AV.b a0)<|bq h (dT (fun v=>MF a0 a1 v.1 v.2) (([]:List Bool),0)) fun x1 h=>L h
def pw:Option (((List Bool)×Nat)⊕((List Bool)×Nat×Bool)):=
 if (m:Int)<(a0.length:Int) then
  (a0[m]?).bind fun y2=>
  if y2=true then
   if q.length + [true].length≤1000000000 then
    if IntKind.i64.wrap ((m:Int)+1)=((m+1:Nat):Int) then
     some (.inl (q++[true],m+1))
    else none
   else none
  else
   (a1[m]?).bind fun y5=>
   if q.length + [y5].length≤1000000000 then
    if IntKind.i64.wrap ((m:Int)+1)=((m+1:Nat):Int) then
     some (.inl (q++[y5],m+1))
    else none
   else none
 else
  some (.inr (q,m,decide ((m:Int)<(a0.length:Int))))
abbrev P7(v:((List Bool)×Nat)):St:=⟨[(1,(aw a1)),(5,(iO v.1)),(8,(aw a0)),(9,(zI a0.length)),(10,(I (v.2:Int)))],[],H0⟩
abbrev GK(x:((List Bool)×Nat×Bool)):bc×St:=((.ex 0),⟨[(1,(aw a1)),(5,(iO x.1)),(8,(aw a0)),(9,(zI a0.length)),(10,(I (x.2.1:Int))),(11,(.b x.2.2))],[],H0⟩)
theorem Of(o:((List Bool)×Nat)⊕((List Bool)×Nat×Bool))(h:pw a0 a1 q m=some o):bQ E0 US (P7 a0 a1) (GK a0 a1) (q,m) o:=
 let C:=((m+1:Nat):Int);let B:=q.map AV.b;let A:=[true].map AV.b;bZ (.or (bt<|ao (.n m)<|xB fun y2=>.or (TJ<|ao (.l A)<|ao (.l ((q++[true]).map AV.b))<|ao (.i C)<|.nil) (ea<|ao (.n m)<|xB fun y5=>gZ<|ao (.l ([y5].map AV.b))<|ao (.l ((q++[y5]).map AV.b))<|ao (.i C)<|.nil)) (bf<|.nil)) fun L=>cw h (fun h1 h=>ai (aF h1)<|ai (rI m)<|ba h fun y2 h3 h=>ai (aB AV.b h3)<|bB h (fun h4 h=>Zg h4<|ai (rfl:[(.b true)]=[true].map AV.b)<|ai ff<|aO h fun h5 h=>ai ((dS AV.b (n:=1) (fun _=>rfl) [true]):A.all (fun e=>e.nc==1)=true)<|ai ((eJ h5 (by decide)):(B.length+A.length)*1≤140737488355328)<|ai ((eK h5):B.length+A.length≤maxLen)<|ai (cQ.symm:q.map AV.b++[true].map AV.b=(q++[true]).map AV.b)<|aO h fun w6 h=>ai w6<|L h) (fun h4 h=>fy h4<|ai (rI m)<|ba h fun y5 h6 h=>let D:=[y5].map AV.b;ai (aB AV.b h6)<|iD h4<|ai (rfl:[(.b y5)]=[y5].map AV.b)<|ai ff<|aO h fun h7 h=>ai ((dS AV.b (n:=1) (fun _=>rfl) [y5]):D.all (fun e=>e.nc==1)=true)<|ai ((eJ h7 (by decide)):(B.length+D.length)*1≤140737488355328)<|ai ((eK h7):B.length+D.length≤maxLen)<|ai (cQ.symm:q.map AV.b++[y5].map AV.b=(q++[y5]).map AV.b)<|aO h fun w8 h=>ai w8<|L h)) (fun h1 h=>ai (aD h1)<|L h)
abbrev TX(a0:(List Bool))(a1:(List Bool))(r:(List Bool)):bC×HP:=(.ret (.l 4 (r.map AV.b)),H0)
def Au:Option (List Bool):=
 (lp (fun v=>pw a0 a1 v.1 v.2) (([]:List Bool),0)).bind fun x1=>
 some x1.1
theorem Og(r:(List Bool))(h:Au a0 a1=some r):call G Ω0 E0 156 [(.l 4 (a0.map AV.b)),(.l 4 (a1.map AV.b))] H0=some (TX a0 a1 r):=
 bj aol (ao (.i (a0.length:Int))<|.ex fun (x1:((List Bool)×Nat×Bool))=>ao (.cA (GK a0 a1 x1))<|.nil) fun L=>ai (aP AV.b a0)<|bq h (dT (fun v=>Of a0 a1 v.1 v.2) (([]:List Bool),0)) fun x1 h=>L h
end
section
variable (a0:Level)(a1:Level)
abbrev P8(a0:Level)(a1:Level)(r:Level):bC×HP:=(.ret (.a [(.l 4 (r.Readers.map AV.b)),(.l 4 (r.Writers.map AV.b))]),H0)
def nr:Option Level:=
 (yJ a0.Readers a1.Readers).bind fun r1=>
 (Au a0.Writers a1.Writers).bind fun r3=>
 some (⟨r1,r3⟩:Level)
theorem rC(r:Level)(h:nr a0 a1=some r):call G Ω0 E0 115 [(.a [(.l 4 (a0.Readers.map AV.b)),(.l 4 (a0.Writers.map AV.b))]),(.a [(.l 4 (a1.Readers.map AV.b)),(.l 4 (a1.Writers.map AV.b))])] H0=some (P8 a0 a1 r):=
 bj anV (cM<|.ex fun (r1:(List Bool))=>ao (.v (aw r1))<|cM<|.ex fun (r3:(List Bool))=>ao (.v (aw r3))<|cM<|.nil) fun L=>aZ<|aZ<|ai tt<|ai (rfl:Z0)<|aZ<|l3<|bq h (MG a0.Readers a1.Readers) fun r1 h=>aZ<|ai (rfl:Z0)<|aZ<|l3<|bq h (Og a0.Writers a1.Writers) fun r3 h=>lZ<|ai (rfl:Z0)<|L h
end
section
variable (a0:ak)
abbrev MH(a0:ak)(r:Level):bC×HP:=(.ret (.a [(.l 4 (r.Readers.map AV.b)),(.l 4 (r.Writers.map AV.b))]),H0)
def mZ:Option Level:=
 (TB true a0.Many).bind fun r1=>
 (cU a0.Many).bind fun j3=>
 if j3≤1000000000 then
  some (⟨r1,List.replicate j3 false⟩:Level)
 else none
theorem ub(r:Level)(h:mZ a0=some r):call G Ω0 E0 66 [(.a [(I a0.Many),(.l 79 (a0.Grants.map bT))])] H0=some (MH a0 r):=
 bj G66 (ao (.l ([true].map AV.b))<|bt<|.ex fun (r1:(List Bool))=>ao (.v (aw r1))<|bt<|xN fun j3=>ao (.l ((List.replicate j3 false).map AV.b))<|cM<|.nil) fun L=>eH<|ai (rfl:[(.b true)]=[true].map AV.b)<|Je<|ba h fun r1 al h=>have al:Ω0 112 [(aw [true]),(I a0.Many)]=some (aw r1):=ZV al;ai al<|Je<|dM h fun j3 h4 h=>ai h4<|aO h fun h5 h=>ai ((Cr h5 (by decide)):j3*1≤140737488355328)<|ai ((Ct h5):j3≤maxLen)<|ai ((sc ..).symm:List.replicate j3 (.b false)=(List.replicate j3 false).map AV.b)<|IF<|L h
end
section
variable (a0:(List Bool))(a1:(List Bool))(ac:Nat)
def nZ:Option (Nat⊕(Unit⊕(Nat×Bool))):=
 if (ac:Int)<(a0.length:Int) then
  (a0[ac]?).bind fun y2=>
  if y2=true then
   (a1[ac]?).bind fun y5=>
   if y5=true then
    if IntKind.i64.wrap ((ac:Int)+1)=((ac+1:Nat):Int) then
     some (.inl (ac+1))
    else none
   else
    some (.inr (.inl ()))
  else
   if IntKind.i64.wrap ((ac:Int)+1)=((ac+1:Nat):Int) then
    some (.inl (ac+1))
   else none
 else
  some (.inr (.inr (ac,decide ((ac:Int)<(a0.length:Int)))))
abbrev Oh(v:Nat):St:=⟨[(1,(aw a1)),(7,(aw a0)),(8,(zI a0.length)),(9,(I (v:Int)))],[],H0⟩
abbrev zT(x:(Unit⊕(Nat×Bool))):bc×St:=match x with | .inl ()=>(.ret,⟨[(4,(.b false))],[],H0⟩) | .inr (z1,z2)=>((.ex 0),⟨[(1,(aw a1)),(7,(aw a0)),(8,(zI a0.length)),(9,(I (z1:Int))),(10,(.b z2))],[],H0⟩)
theorem MI(o:Nat⊕(Unit⊕(Nat×Bool)))(h:nZ a0 a1 ac=some o):bQ E0 Vf (Oh a0 a1) (zT a0 a1) ac o:=
 bZ (.or (bt<|ao (.n ac)<|xB fun y2=>.or (ea<|ao (.n ac)<|xB fun y5=>ea<|.or (bf<|ao (.i ((ac+1:Nat):Int))<|.nil) (bt<|.nil)) (bf<|bf<|bf<|bf<|bf<|bf<|bf<|ao (.i ((ac+1:Nat):Int))<|.nil)) (bf<|.nil)) fun L=>cw h (fun h1 h=>ai (aF h1)<|ai (rI ac)<|ba h fun y2 h3 h=>ai (aB AV.b h3)<|bB h (fun h4 h=>PE h4<|ai (rI ac)<|ba h fun y5 h6 h=>ai (aB AV.b h6)<|ur h4<|bB h (fun h7 h=>ai (az not h7)<|aO h fun w8 h=>ai w8<|L h) (fun h7 h=>ai (az not h7)<|L h)) (fun h4 h=>dC h4<|dC h4<|qg h4<|ai ff<|aO h fun w5 h=>ai w5<|L h)) (fun h1 h=>ai (aD h1)<|L h)
abbrev Rx(a0:(List Bool))(a1:(List Bool))(r:Bool):bC×HP:=(.ret (.b r),H0)
def uw:Option Bool:=
 (lp (fun v=>nZ a0 a1 v) 0).bind fun x1=>match x1 with
 | .inl T=>
  some false
 | .inr Q=>
  some true
theorem DM(r:Bool)(h:uw a0 a1=some r):call G Ω0 E0 215 [(.l 4 (a0.map AV.b)),(.l 4 (a1.map AV.b))] H0=some (Rx a0 a1 r):=
 bj ao1 (ao (.i (a0.length:Int))<|.or (.ex fun (T:Unit)=>ao (.cA (zT a0 a1 (.inl T)))<|.nil) (.ex fun (Q:(Nat×Bool))=>ao (.cA (zT a0 a1 (.inr Q)))<|.nil)) fun L=>ai (aP AV.b a0)<|dv h (dT (MI a0 a1) 0) (fun T h=>L h) (fun Q h=>L h)
end
section
variable (a0:Level)(a1:Level)
abbrev Oi(a0:Level)(a1:Level)(r:Bool):bC×HP:=(.ret (.b r),H0)
def l6:Option Bool:=
 (uw a1.Readers a0.Readers).bind fun r1=>
 if r1=true then
  (uw a0.Writers a1.Writers).bind fun r4=>
  some r4
 else
  some false
theorem qt(r:Bool)(h:l6 a0 a1=some r):call G Ω0 E0 174 [(.a [(.l 4 (a0.Readers.map AV.b)),(.l 4 (a0.Writers.map AV.b))]),(.a [(.l 4 (a1.Readers.map AV.b)),(.l 4 (a1.Writers.map AV.b))])] H0=some (Oi a0 a1 r):=
 bj aoB (cM<|xB fun r1=>.or (PI<|xB fun r4=>bt<|.nil) (Mm<|.nil)) fun L=>Mg<|bq h (DM a1.Readers a0.Readers) fun r1 h=>bB h (fun h3 h=>TF h3<|bq h (DM a0.Writers a1.Writers) fun r4 h=>ai h3<|L h) (fun h3 h=>Mi h3<|L h)
end
section
variable (a0:ak)(y9:Int)(ap:(List Int))(Z:Nat)(V:(List (List Bool)))(P:Nat)(ag:(List Bool))(X:(List Int))
def m0:Option (((List Int)×Nat)⊕((List Int)×Nat×Bool)):=
 if (Z:Int)<(a0.Grants.length:Int) then
  (a0.Grants[Z]?).bind fun a4=>
  if (a4.Who==y9)=true then
   if ap.length + [a4.For].length≤1000000000 then
    if IntKind.i64.wrap ((Z:Int)+1)=((Z+1:Nat):Int) then
     some (.inl (ap++[a4.For],Z+1))
    else none
   else none
  else
   if IntKind.i64.wrap ((Z:Int)+1)=((Z+1:Nat):Int) then
    some (.inl (ap,Z+1))
   else none
 else
  some (.inr (ap,Z,decide ((Z:Int)<(a0.Grants.length:Int))))
abbrev MJ(y9:Int)(j12:Nat)(v:((List Int)×Nat)):St:=⟨[zP 1,(3,(.o 32 (V.map (db 4 AV.b)))),(5,(iO (ag.set j12 true))),(6,(aG v.1)),(7,(I y9)),(11,(I a0.Many)),(12,(zI P)),(29,.u),(42,(aX a0.Grants)),(43,(zI a0.Grants.length)),(44,(I (v.2:Int)))],[(1,[(I a0.Many),(aX a0.Grants)])],H0⟩
abbrev DN(y9:Int)(j12:Nat)(x:((List Int)×Nat×Bool)):bc×St:=((.ex 4),⟨[zP 1,(3,(.o 32 (V.map (db 4 AV.b)))),(5,(iO (ag.set j12 true))),(6,(aG x.1)),(7,(I y9)),(11,(I a0.Many)),(12,(zI P)),(29,.u),(42,(aX a0.Grants)),(43,(zI a0.Grants.length)),(44,(I (x.2.1:Int))),(45,(.b x.2.2))],[(1,[(I a0.Many),(aX a0.Grants)])],H0⟩)
theorem KR(y9:Int)(j12:Nat)(ap:(List Int))(Z:Nat)(o:((List Int)×Nat)⊕((List Int)×Nat×Bool))(h:m0 a0 y9 ap Z=some o):bQ E0 Uy (MJ a0 V P ag y9 j12) (DN a0 V P ag y9 j12) (ap,Z) o:=
 let A:=((Z+1:Nat):Int);bZ (.or (bt<|ao (.n Z)<|.ex fun (a4:dO)=>ao (.v (.a [(I a4.Who),(I a4.For)]))<|ea<|.or (cM<|ao (.l ([a4.For].map I))<|ao (.l ((ap++[a4.For]).map I))<|ao (.i A)<|.nil) (bf<|ao (.i A)<|.nil)) (bf<|.nil)) fun L=>cw h (fun bi h=>ai (aF bi)<|ai (rI Z)<|ba h fun a4 ca h=>let B:=[a4.For];ai (aB bT ca)<|IF<|bB h (fun a5 h=>lG a5<|ai (rfl:[(I a4.For)]=B.map I)<|ai ff<|aO h fun b3 h=>ai ((dS I (n:=1) (fun _=>rfl) B):(B.map I).all (fun e=>e.nc==1)=true)<|ai ((eJ b3 (by decide)):((ap.map I).length+(B.map I).length)*8≤140737488355328)<|ai ((eK b3):(ap.map I).length+(B.map I).length≤maxLen)<|ai (cQ.symm:ap.map (I)++B.map (I)=(ap++B).map I)<|aO h fun b5 h=>ai b5<|L h) (fun a5 h=>ai a5<|aO h fun b0 h=>ai b0<|L h)) (fun bi h=>ai (aD bi)<|L h)
def kP(ag:(List Bool)):Option (((List Int)×(List Bool))⊕((List Bool)×(List Int)×Bool)):=
 if 0<(X.length:Int) then
  if IntKind.i64.wrap ((X.length:Int) - 1)=(X.length:Int) - 1 then
   (cU ((X.length:Int) - 1)).bind fun j7=>
   (X[j7]?).bind fun y9=>
   if j7≤X.length then
    (cU y9).bind fun j12=>
    (ag[j12]?).bind fun a8=>
    if a8=true then
     some (.inl (X.take j7,ag))
    else
     (lp (fun v=>m0 a0 y9 v.1 v.2) ((X.take j7),0)).bind fun bd=>
     some (.inl (bd.1,ag.set j12 true))
   else none
  else none
 else
  some (.inr (ag,X,decide (0<(X.length:Int))))
abbrev MK(v:((List Int)×(List Bool))):St:=⟨[zP 1,(3,(.o 32 (V.map (db 4 AV.b)))),(5,(iO v.2)),(6,(aG v.1)),(11,(I a0.Many)),(12,(zI P)),(29,.u)],[(1,[(I a0.Many),(aX a0.Grants)])],H0⟩
abbrev DO(x:((List Bool)×(List Int)×Bool)):bc×St:=((.ex 2),⟨[zP 1,(3,(.o 32 (V.map (db 4 AV.b)))),(5,(iO x.1)),(6,(aG x.2.1)),(11,(I a0.Many)),(12,(zI P)),(22,(.b x.2.2)),(29,.u)],[(1,[(I a0.Many),(aX a0.Grants)])],H0⟩)
theorem KT(ag:(List Bool))(o:((List Int)×(List Bool))⊕((List Bool)×(List Int)×Bool))(h:kP a0 X ag=some o):bQ E0 Uz (MK a0 V P) (DO a0 V P) (X,ag) o:=
 let B:=aP I X;let A:=(X.length:Int);bZ (ao (.i A)<|.or (bt<|ao (.i A)<|ao (.i (A - 1))<|xN fun j7=>xI fun y9=>ao (.v (I y9))<|ao (.i A)<|ao (.i (A - 1))<|ao (.n j7)<|ao (.n j7)<|bt<|ao (.l ((X.take j7).map I))<|xN fun j12=>xB fun a8=>ao (.v (.b a8))<|oN (ao (.n j12)<|ao (.v (.b a8))<|ao (.v (.b a8))<|ao (.l ((ag.set j12 true).map AV.b))<|bt<|ao (.i (a0.Grants.length:Int))<|.ex fun (bd:((List Int)×Nat×Bool))=>ao (.cA (DN a0 V P ag y9 j12 bd))<|.nil)) (bf<|.nil)) fun L=>ai B<|cw h (fun h5 h=>ai (aF h5)<|ai B<|aO h fun w6 h=>ai w6<|dM h fun j7 h8 h=>ai h8<|ba h fun y9 au h=>ai (aB I au)<|ai (aB I au)<|ai B<|ai w6<|ai h8<|ai (du _:0≤j7)<|aO h fun bM h=>ai ((by rw [jf];exact bM):j7≤(X.map I).length)<|ai ((by simp):j7 - 0=j7)<|ai (rfl:((.s 6):Pl)=(.s 6))<|ai ((by rw [jf];exact bM):j7≤(X.map I).length)<|ai (map_take I X j7)<|dM h fun j12 aC h=>ai aC<|ba h fun a8 a6 h=>let C:=aB AV.b a6;ai C<|ai C<|bB h (fun bD h=>ai bD<|L h) (fun bD h=>ai bD<|ai aC<|ai C<|ai ff<|ai C<|ai (map_set .. : (ag.map AV.b).set j12 (.b true)=(ag.set j12 true).map AV.b)<|ai (rfl:Z0)<|ai (aP bT a0.Grants)<|bq h (dT (fun v=>KR a0 V P ag y9 j12 v.1 v.2) ((X.take j7),0)) fun bd h=>L h)) (fun h5 h=>ai (aD h5)<|L h)
def px:Option (((List (List Bool))×Nat)⊕((List (List Bool))×Nat×Bool)):=
 if (P:Int)<a0.Many then
  (cU a0.Many).bind fun j2=>
  if j2≤1000000000 then
   (lp (fun v=>kP a0 v.1 v.2) (([(P:Int)]),(List.replicate j2 false))).bind fun x5=>
   if V.length + [x5.1].length≤1000000000 then
    if IntKind.i64.wrap ((P:Int)+1)=((P+1:Nat):Int) then
     some (.inl (V++[x5.1],P+1))
    else none
   else none
  else none
 else
  some (.inr (V,P,decide ((P:Int)<a0.Many)))
abbrev ML(v:((List (List Bool))×Nat)):St:=⟨[zP 1,(3,(.o 32 (v.1.map (db 4 AV.b)))),(11,(I a0.Many)),(12,(I (v.2:Int)))],[(1,[(I a0.Many),(aX a0.Grants)])],H0⟩
abbrev DP(x:((List (List Bool))×Nat×Bool)):bc×St:=((.ex 0),⟨[zP 1,(3,(.o 32 (x.1.map (db 4 AV.b)))),(11,(I a0.Many)),(12,(I (x.2.1:Int))),(13,(.b x.2.2))],[(1,[(I a0.Many),(aX a0.Grants)])],H0⟩)
theorem KU(o:((List (List Bool))×Nat)⊕((List (List Bool))×Nat×Bool))(h:px a0 V P=some o):bQ E0 UA (ML a0) (DP a0) (V,P) o:=
 let A:=db 4 AV.b;bZ (.or (cM<|xN fun j2=>ao (.l ((List.replicate j2 false).map AV.b))<|ao (.l (([(P:Int)]).map I))<|.ex fun (x5:((List Bool)×(List Int)×Bool))=>ao (.cA (DO a0 V P x5))<|ao (.l ([x5.1].map A))<|ao (.l ((V++[x5.1]).map A))<|ao (.i ((P+1:Nat):Int))<|.nil) (bf<|.nil)) fun L=>cw h (fun h1 h=>lG (aF h1)<|dM h fun j2 h3 h=>let B:=List.replicate j2 false;ai h3<|aO h fun h4 h=>ai ((Cr h4 (by decide)):j2*1≤140737488355328)<|ai ((Ct h4):j2≤maxLen)<|ai ((sc ..).symm:List.replicate j2 (.b false)=B.map AV.b)<|ai (rfl:[(zI P)]=([(P:Int)]).map I)<|bq h (dT (fun v=>KT a0 V P v.1 v.2) (([(P:Int)]),B)) fun x5 h=>let C:=[x5.1].map A;ai (rfl:[(aw x5.1)]=[x5.1].map A)<|ai ff<|aO h fun h7 h=>ai ((dS A (n:=1) (fun _=>rfl) [x5.1]):C.all (fun e=>e.nc==1)=true)<|ai ((eJ h7 (by decide)):((V.map A).length+C.length)*24≤140737488355328)<|ai ((eK h7):(V.map A).length+C.length≤maxLen)<|ai (cQ.symm:V.map A++[x5.1].map A=(V++[x5.1]).map A)<|aO h fun w8 h=>ai w8<|L h) (fun h1 h=>ai (aD h1)<|L h)
abbrev P9(a0:ak)(r:(List (List Bool))):bC×HP:=(.ret (.l 32 (r.map (db 4 AV.b))),H0)
def sw:Option (List (List Bool)):=
 (lp (fun v=>px a0 v.1 v.2) (([]:List (List Bool)),0)).bind fun x1=>
 some x1.1
theorem CD(r:(List (List Bool)))(h:sw a0=some r):call G Ω0 E0 113 [(.a [(I a0.Many),(.l 79 (a0.Grants.map bT))])] H0=some (P9 a0 r):=
 bj anT (bt<|.ex fun (x1:((List (List Bool))×Nat×Bool))=>ao (.cA (DP a0 x1))<|.nil) fun L=>uq<|bq h (dT (fun v=>KU a0 v.1 v.2) (([]:List (List Bool)),0)) fun x1 h=>L h
end
section
variable (a0:Int)(a1:(List (List Bool)))(a2:Int)
abbrev Ju(a0:Int)(a1:(List (List Bool)))(a2:Int)(r:Bool):bC×HP:=(.ret (.b r),H0)
def nu:Option Bool:=
 (cU a2).bind fun j1=>
 (a1[j1]?).bind fun y3=>
 (cU a0).bind fun j5=>
 (y3[j5]?).bind fun y7=>
 some y7
theorem Fx(r:Bool)(h:nu a0 a1 a2=some r):call G Ω0 E0 212 [(I a0),(.e (.l 32 (a1.map (db 4 AV.b))) 0),(.e (I a2) 0)] H0=some (Ju a0 a1 a2 r):=
 bj ao0 (xN fun j1=>.ex fun (y3:(List Bool))=>ao (.v (aw y3))<|xN fun j5=>xB fun y7=>.nil) fun L=>dM h fun j1 h2 h=>ai h2<|ba h fun y3 h4 h=>ai (aB (db 4 AV.b) h4)<|dM h fun j5 h6 h=>ai h6<|ba h fun y7 h8 h=>ai (aB AV.b h8)<|L h
end
section
variable (a0:(List Int))(a1:(List (List Bool)))(a2:Int)
abbrev rS(r:Bool):Prop:=call G Ω0 E0 103 [(.l 3 (a0.map (AV.i .i64))),(.f 212 [(.e (.l 32 (a1.map (db 4 AV.b))) 0),(.e (.i .i64 a2) 0)])] H0=some (.ret (.b r),H0)
def gq:Option Bool:=IJ (fun y=>nu y a1 a2) a0
theorem qu(r:Bool)(h:gq a0 a1 a2=some r):rS a0 a1 a2 r:=tj (n:=1) (ld:=none) (by decide) (fun _=>⟨rfl,rfl,rfl,rfl⟩) rfl (fun y b hb=>Fx y a1 a2 b hb) OY OZ h
end
section
variable (a0:cp)(a1:(List (List Bool)))(a2:Int)
abbrev MN(a0:cp)(a1:(List (List Bool)))(a2:Int)(r:Bool):bC×HP:=(.ret (.b r),H0)
def py:Option Bool:=
 (cU a2).bind fun j1=>
 (a1[j1]?).bind fun y3=>
 (cU a0.Owner).bind fun j5=>
 (y3[j5]?).bind fun y7=>
 if y7=true then
  some false
 else
  (gq a0.Names a1 a2).bind fun ah=>
  some (!ah)
theorem Ig(r:Bool)(h:py a0 a1 a2=some r):call G Ω0 E0 211 [(.a [(I a0.Owner),(.l 3 (a0.Names.map (I)))]),(.e (.l 32 (a1.map (db 4 AV.b))) 0),(.e (I a2) 0)] H0=some (MN a0 a1 a2 r):=
 bj aoZ (xN fun j1=>.ex fun (y3:(List Bool))=>ao (.v (aw y3))<|bt<|xN fun j5=>xB fun y7=>.or (Mm<|.nil) (pn<|xB fun ah=>cM<|.nil)) fun L=>fH<|dM h fun j1 h2 h=>ai h2<|ba h fun y3 h4 h=>ai (aB (db 4 AV.b) h4)<|aZ<|ai tt<|l3<|dM h fun j5 h6 h=>ai h6<|ba h fun y7 h8 h=>ai (aB AV.b h8)<|fH<|bB h (fun h9 h=>Mi (az not h9)<|L h) (fun h9 h=>let A:=az not h9;ai (g1 A)<|iT A<|ai (rfl:Z0)<|iT A<|iT A<|bq h (qu a0.Names a1 a2) fun ah h=>qg A<|L h)
end
section
variable (a0:(List cp))(a1:(List (List Bool)))(a2:Int)
abbrev tB(r:Bool):Prop:=call G Ω0 E0 213 [(.l 155 (a0.map bV)),(.f 211 [(.e (.l 32 (a1.map (db 4 AV.b))) 0),(.e (.i .i64 a2) 0)])] H0=some (.ret (.b r),H0)
def ir:Option Bool:=IJ (fun y=>py y a1 a2) a0
theorem ri(r:Bool)(h:ir a0 a1 a2=some r):tB a0 a1 a2 r:=tj (n:=2) (ld:=(some 2)) (by decide) (fun _=>⟨rfl,rfl,_,rfl,rfl⟩) rfl (fun y b hb=>Ig y a1 a2 b hb) agI agJ h
end
section
variable (a0:(List cp))(a1:ak)(a2:(List (List Bool)))(q:(List Bool))(m:Nat)
def pz:Option (((List Bool)×Nat)⊕((List Bool)×Nat×Bool)):=
 if (m:Int)<a1.Many then
  (ir a0 a2 (m:Int)).bind fun r2=>
  if q.length+([!r2]).length≤1000000000 then
   if IntKind.i64.wrap ((m:Int)+1)=((m+1:Nat):Int) then
    some (.inl (q++([!r2]),m+1))
   else none
  else none
 else
  some (.inr (q,m,decide ((m:Int)<a1.Many)))
abbrev MO(v:((List Bool)×Nat)):St:=⟨[(0,(bE a0)),(2,(.e (.l 32 (a2.map (db 4 AV.b))) 0)),(5,(iO v.1)),(9,(I a1.Many)),(10,(I (v.2:Int)))],[],H0⟩
abbrev DQ(x:((List Bool)×Nat×Bool)):bc×St:=((.ex 0),⟨[(0,(bE a0)),(2,(.e (.l 32 (a2.map (db 4 AV.b))) 0)),(5,(iO x.1)),(9,(I a1.Many)),(10,(I (x.2.1:Int))),(11,(.b x.2.2))],[],H0⟩)
theorem KV(o:((List Bool)×Nat)⊕((List Bool)×Nat×Bool))(h:pz a0 a1 a2 q m=some o):bQ E0 Ve (MO a0 a1 a2) (DQ a0 a1 a2) (q,m) o:=
 bZ (.or (ea<|xB fun r2=>ao (.l (([!r2]).map AV.b))<|ao (.l ((q++([!r2])).map AV.b))<|ao (.i ((m+1:Nat):Int))<|.nil) (bf<|.nil)) fun L=>cw h (fun h1 h=>ai (aF h1)<|ai tt<|lZ<|ai (rfl:Z0)<|bq h (ri a0 a2 (m:Int)) fun r2 h=>let A:=([!r2]).map AV.b;ai (rfl:[(.b (!r2))]=([!r2]).map AV.b)<|ai ff<|aO h fun h4 h=>ai ((dS AV.b (n:=1) (fun _=>rfl) ([!r2])):A.all (fun e=>e.nc==1)=true)<|ai ((eJ h4 (by decide)):((q.map AV.b).length+A.length)*1≤140737488355328)<|ai ((eK h4):(q.map AV.b).length+A.length≤maxLen)<|ai (cQ.symm:q.map AV.b++([!r2]).map AV.b=(q++([!r2])).map AV.b)<|aO h fun w5 h=>ai w5<|L h) (fun h1 h=>ai (aD h1)<|L h)
abbrev Qa(a0:(List cp))(a1:ak)(a2:(List (List Bool)))(r:(List Bool)):bC×HP:=(.ret (.l 4 (r.map AV.b)),H0)
def sA:Option (List Bool):=
 (lp (fun v=>pz a0 a1 a2 v.1 v.2) (([]:List Bool),0)).bind fun x1=>
 some x1.1
theorem CE(r:(List Bool))(h:sA a0 a1 a2=some r):call G Ω0 E0 210 [(.l 155 (a0.map bV)),(.e (.a [(I a1.Many),(.l 79 (a1.Grants.map bT))]) 0),(.e (.l 32 (a2.map (db 4 AV.b))) 0)] H0=some (Qa a0 a1 a2 r):=
 bj aoY (.ex fun (x1:((List Bool)×Nat×Bool))=>ao (.cA (DQ a0 a1 a2 x1))<|.nil) fun L=>bq h (dT (fun v=>KV a0 a1 a2 v.1 v.2) (([]:List Bool),0)) fun x1 h=>L h
end
section
variable (a0:ak)(a1:Label)
abbrev TY(a0:ak)(a1:Label)(r:Level):bC×HP:=(.ret (.a [(.l 4 (r.Readers.map AV.b)),(.l 4 (r.Writers.map AV.b))]),H0)
def qv:Option Level:=
 (sw a0).bind fun r1=>
 (sA a1.Read a0 r1).bind fun r3=>
 (sA a1.Write a0 r1).bind fun r5=>
 some (⟨r3,r5⟩:Level)
theorem uN(r:Level)(h:qv a0 a1=some r):call G Ω0 E0 171 [(.a [(I a0.Many),(.l 79 (a0.Grants.map bT))]),(.a [(.l 155 (a1.Read.map bV)),(.l 155 (a1.Write.map bV))])] H0=some (TY a0 a1 r):=
 let A:=List Bool;bj aoA (bt<|.ex fun (r1:(List A))=>ao (.v (.l 32 (r1.map (db 4 AV.b))))<|ea<|.ex fun (r3:A)=>ao (.v (aw r3))<|bt<|.ex fun (r5:A)=>ao (.v (aw r5))<|cM<|.nil) fun L=>aZ<|ai tt<|ai (rfl:Z0)<|bq h (CD a0) fun r1 h=>ai tt<|lZ<|zF<|aZ<|ai tt<|l3<|bq h (CE a1.Read a0 r1) fun r3 h=>aZ<|ai tt<|l3<|bq h (CE a1.Write a0 r1) fun r5 h=>lZ<|ai (rfl:Z0)<|L h
end
section
variable (a0:Level)
abbrev Ry(a0:Level)(r:Level):bC×HP:=(.ret (.a [(.l 4 (r.Readers.map AV.b)),(.l 4 (r.Writers.map AV.b))]),H0)
def yK:Option Level:=
 (nr a0 a0).bind fun r1=>
 some r1
theorem MP(r:Level)(h:yK a0=some r):call G Ω0 E0 70 [(.a [(.l 4 (a0.Readers.map AV.b)),(.l 4 (a0.Writers.map AV.b))])] H0=some (Ry a0 r):=
 bj G70 (cM<|.ex fun (r1:Level)=>ao (.v (.a [(aw r1.Readers),(aw r1.Writers)]))<|cM<|.nil) fun L=>Mg<|bq h (rC a0 a0) fun r1 h=>lZ<|ai (rfl:Z0)<|L h
end
section
variable (dp:Nat)(hp:HP)(k0:Key)(a0:Int)
abbrev DR(dp:Nat)(hp:HP)(k0:Key)(k1:Key)(a0:Int)(c0:Unit)(c1:aW)(a1:Int)(r:(Bool×Unit)):bC×HP:=(.ret (.b r.1),ar (ar hp k0 [(.p k1 0)]) k1 (aM c1))
def lJ(c0:Unit)(c1:aW)(a1:Int):Option (Bool×Unit):=
 (cU a0).bind fun j1=>
 (c1.eV[j1]?).bind fun y3=>
 (cU a1).bind fun j5=>
 (y3[j5]?).bind fun y7=>
 some (y7,())
theorem Bf(d:k0.dp<dp)(k1:Key)(j:k1.dp<dp)(g:k0≠k1)(hz:bF dp hp)(a0:Int)(c0:Unit)(c1:aW)(a1:Int)(r:(Bool×Unit))(h:lJ a0 c0 c1 a1=some r):call G Ω0 ⟨dp,false⟩ 238 [(I a0),(.p k0 0),(.e (I a1) 0)] (ar (ar hp k0 [(.p k1 0)]) k1 (aM c1))=some (DR dp hp k0 k1 a0 c0 c1 a1 r):=
 let A:=ar hp k0 [(.p k1 0)];bj apb (bf<|ao (.l [(.p k1 0)])<|bf<|ao (.l (aM c1))<|xN fun j1=>.ex fun (y3:(List Bool))=>ao (.v (aw y3))<|xN fun j5=>xB fun y7=>.nil) fun L=>ai tt<|ai (aj d)<|ai (PA g:(ar A k1 (aM c1)) k0=some [(.p k1 0)])<|eH<|ai (aj j)<|ai (aA A k1 (aM c1))<|aZ<|dM h fun j1 h2 h=>ai h2<|ba h fun y3 h4 h=>ai (aB (db 4 AV.b) h4)<|eH<|dM h fun j5 h6 h=>ai h6<|ba h fun y7 h8 h=>ai (aB AV.b h8)<|L h
end
section
variable (a0:(List Int))(c1:aW)(a1:Int)(O:Nat)(hp:HP)(k0:Key)(k1:Key)(dp:Nat)
def jE:Option (Nat⊕(Nat⊕(Nat×Bool))):=
 if (O:Int)<(a0.length:Int) then
  (a0[O]?).bind fun y2=>
  (lJ y2 () c1 a1).bind fun r4=>
  if r4.1=true then
   some (.inr (.inl O))
  else
   if IntKind.i64.wrap ((O:Int)+1)=((O+1:Nat):Int) then
    some (.inl (O+1))
   else none
 else
  some (.inr (.inr (O,decide ((O:Int)<(a0.length:Int)))))
abbrev pQ(a0:(List Int))(c1:aW)(a1:Int)(v:Nat):St:=⟨[(0,(aS a0)),(1,(.f 238 [(.p k0 0),(.e (I a1) 0)])),(7,(zI a0.length)),(8,(I (v:Int)))],[],ar (ar hp k0 [(.p k1 0)]) k1 (aM c1)⟩
abbrev fA(a0:(List Int))(c1:aW)(a1:Int)(x:(Nat⊕(Nat×Bool))):bc×St:=match x with | .inl z1=>(.ret,⟨[(4,(I (z1:Int)))],[],ar (ar hp k0 [(.p k1 0)]) k1 (aM c1)⟩) | .inr (z1,z2)=>((.ex 0),⟨[(0,(aS a0)),(1,(.f 238 [(.p k0 0),(.e (I a1) 0)])),(7,(zI a0.length)),(8,(I (z1:Int))),(9,(.b z2))],[],ar (ar hp k0 [(.p k1 0)]) k1 (aM c1)⟩)
theorem pA(hp:HP)(k0:Key)(d:k0.dp<dp)(k1:Key)(j:k1.dp<dp)(g:k0≠k1)(hz:bF dp hp)(a0:(List Int))(c1:aW)(a1:Int)(O:Nat)(o:Nat⊕(Nat⊕(Nat×Bool)))(h:jE a0 c1 a1 O=some o):bQ ⟨dp,false⟩ UN (pQ hp k0 k1 a0 c1 a1) (fA hp k0 k1 a0 c1 a1) O o:=
 let A:=ar (ar hp k0 [(.p k1 0)]) k1 (aM c1);bZ (.or (bt<|ao (.n O)<|xI fun y2=>.ex fun (r4:(Bool×Unit))=>ao (.v (.b r4.1))<|ao (.h (boxes dp [] A))<|ao (.bx [])<|ao (.h A)<|oN (ao (.i ((O+1:Nat):Int))<|.nil)) (bf<|.nil)) fun L=>cw h (fun h1 h=>ai (aF h1)<|ai (rI O)<|ba h fun y2 h3 h=>ai (aB I h3)<|ew<|ba h fun r4 aq h=>have aq:=Ze d j g (Bf (dp+1) (boxes dp [] A) k0 (aJ d) k1 (aJ j) g (aU (an j (an d hz))) y2 () c1 a1 _ aq);eo aq (an j (an d hz))<|bB h (fun h6 h=>ai h6<|L h) (fun h6 h=>ai h6<|aO h fun w7 h=>ai w7<|L h)) (fun h1 h=>ai (aD h1)<|L h)
abbrev qN(dp:Nat)(hp:HP)(k0:Key)(k1:Key)(a0:(List Int))(c0:Unit)(c1:aW)(a1:Int)(r:(Int×Unit)):bC×HP:=(.ret (I r.1),ar (ar hp k0 [(.p k1 0)]) k1 (aM c1))
def km(c0:Unit)(c1:aW)(a1:Int):Option (Int×Unit):=
 (lp (fun v=>jE a0 c1 a1 v) 0).bind fun x1=>match x1 with
 | .inl T=>
  some ((T:Int),())
 | .inr Q=>
  some ((-1),())
theorem pB(hp:HP)(k0:Key)(d:k0.dp<dp)(k1:Key)(j:k1.dp<dp)(g:k0≠k1)(hz:bF dp hp)(a0:(List Int))(c0:Unit)(c1:aW)(a1:Int)(r:(Int×Unit))(h:km a0 c0 c1 a1=some r):call G Ω0 ⟨dp,false⟩ 144 [(.l 3 (a0.map (I))),(.f 238 [(.p k0 0),(.e (I a1) 0)])] (ar (ar hp k0 [(.p k1 0)]) k1 (aM c1))=some (qN dp hp k0 k1 a0 c0 c1 a1 r):=
 bj OZ (ao (.i (a0.length:Int))<|.or (.ex fun (T:Nat)=>ao (.cA (fA hp k0 k1 a0 c1 a1 (.inl T)))<|.nil) (.ex fun (Q:(Nat×Bool))=>ao (.cA (fA hp k0 k1 a0 c1 a1 (.inr Q)))<|.nil)) fun L=>ai (aP I a0)<|dv h (dT (pA dp hp k0 d k1 j g hz a0 c1 a1) 0) (fun T h=>L h) (fun Q h=>L h)
abbrev pC(dp:Nat)(hp:HP)(k0:Key)(k1:Key)(a0:(List Int))(c0:Unit)(c1:aW)(a1:Int)(r:(Bool×Unit)):bC×HP:=(.ret (.b r.1),ar (ar hp k0 [(.p k1 0)]) k1 (aM c1))
def fo(c0:Unit)(c1:aW)(a1:Int):Option (Bool×Unit):=
 (km a0 () c1 a1).bind fun r1=>
 some ((decide (0≤r1.1)),())
theorem ou(hp:HP)(k0:Key)(d:k0.dp<dp)(k1:Key)(j:k1.dp<dp)(g:k0≠k1)(hz:bF dp hp)(a0:(List Int))(c0:Unit)(c1:aW)(a1:Int)(r:(Bool×Unit))(h:fo a0 c0 c1 a1=some r):call G Ω0 ⟨dp,false⟩ 103 [(.l 3 (a0.map (I))),(.f 238 [(.p k0 0),(.e (I a1) 0)])] (ar (ar hp k0 [(.p k1 0)]) k1 (aM c1))=some (pC dp hp k0 k1 a0 c0 c1 a1 r):=
 let A:=ar (ar hp k0 [(.p k1 0)]) k1 (aM c1);bj OY (.ex fun (r1:(Int×Unit))=>ao (.v (I r1.1))<|ao (.h (boxes dp [] A))<|ao (.bx [])<|ao (.h A)<|.nil) fun L=>ew<|ba h fun r1 al h=>have al:=Ze d j g (pB (dp+1) (boxes dp [] A) k0 (aJ d) k1 (aJ j) g (aU (an j (an d hz))) a0 () c1 a1 _ al);eo al (an j (an d hz))<|L h
end
section
variable (dp:Nat)(hp:HP)(k0:Key)(c0:aW)(a0:Int)
abbrev Fy(dp:Nat)(hp:HP)(k0:Key)(c0:aW)(a0:Int)(r:Bool):bC×HP:=(.ret (.b r),ar hp k0 (aM c0))
def nK:Option Bool:=
 (fo c0.p.Speak () c0 a0).bind fun r1=>
 some r1.1
theorem De(d:k0.dp<dp)(hz:bF dp hp)(c0:aW)(a0:Int)(r:Bool)(h:nK c0 a0=some r):call G Ω0 ⟨dp,false⟩ 236 [(.p k0 0),(I a0)] (ar hp k0 (aM c0))=some (Fy dp hp k0 c0 a0 r):=
 let C:=aj d;let B:=(2,[(.p k0 0)]);let A:=boxes dp [B] (ar hp k0 (aM c0));bj apa (gZ<|ao (.l (aM c0))<|.ex fun (r1:(Bool×Unit))=>ao (.v (.b r1.1))<|ao (.h A)<|ao (.bx [B])<|ao (.h (ar hp k0 (aM c0)))<|.nil) fun L=>ai ((by simp [aV d,bm d]):(((.p k0 0):AV).deep dp&&(dY dp 2 [(0,(.p k0 0)),(1,(I a0))] []))=true)<|ai ((by simp [aV d,bm d]):(((I a0):AV).deep dp&&(dY dp 3 [(2,(.p ⟨dp,2⟩ 0)),(0,(.p k0 0)),(1,(I a0))] [(2,[(.p k0 0)])]))=true)<|ai (rN dp)<|ai (rN dp)<|ai C<|ai (aA hp k0 (aM c0))<|ai ff<|ai ((by simp [bm d]):([(2,[(.p k0 0)])]:List (Nat×List AV)).all (fun y=>AV.jJ dp y.2)=true)<|ba h fun r1 al h=>have al:call G Ω0 ⟨dp+1,false⟩ 103 [(aS c0.p.Speak),(.f 238 [(.p ⟨dp,2⟩ 0),(.e (I a0) 0)])] A=some (.ret (.b r1.1),boxes dp [B] (ar hp k0 (aM c0))):=ek (jh (dB (bx1:=[B]) (by kernel_rfl) (by kernel_rfl)) (c8 (hp1:=ar hp k0 (aM c0)) C (bA ..))) (jh (dB (bx1:=[B]) (by kernel_rfl) (by kernel_rfl)) (c8 (hp1:=ar hp k0 (aM c0)) C (bA ..))) (ou (dp+1) A ⟨dp,2⟩ (fR dp) k0 (aJ d) (Mf d) (aU (an d hz)) c0.p.Speak () c0 a0 _ al);eo al (an d hz)<|L h
end
section
variable (dp:Nat)(hp:HP)(k0:Key)(a0:cp)
abbrev DS(dp:Nat)(hp:HP)(k0:Key)(k1:Key)(a0:cp)(c0:Unit)(c1:aW)(r:(Bool×Unit)):bC×HP:=(.ret (.b r.1),ar (ar hp k0 [(.p k1 0)]) k1 (aM c1))
def lK(c0:Unit)(c1:aW):Option (Bool×Unit):=
 (nK c1 a0.Owner).bind fun r1=>
 some ((!r1),())
theorem Bg(d:k0.dp<dp)(k1:Key)(j:k1.dp<dp)(g:k0≠k1)(hz:bF dp hp)(a0:cp)(c0:Unit)(c1:aW)(r:(Bool×Unit))(h:lK a0 c0 c1=some r):call G Ω0 ⟨dp,false⟩ 235 [(.a [(I a0.Owner),(.l 3 (a0.Names.map (I)))]),(.p k0 0)] (ar (ar hp k0 [(.p k1 0)]) k1 (aM c1))=some (DS dp hp k0 k1 a0 c0 c1 r):=
 let D:=ar hp k0 [(.p k1 0)];let B:=(2,[(I a0.Owner),(aS a0.Names)]);let A:=ar D k1 (aM c1);let C:=boxes dp [B] A;bj ao9 (bf<|ao (.l [(.p k1 0)])<|bt<|xB fun r1=>ao (.h C)<|ao (.bx [B])<|ao (.h A)<|.nil) fun L=>ai ((by simp [aV d,bm d,aV j,bm j]):(((.a [(I a0.Owner),(.l 3 (a0.Names.map I))]):AV).deep dp&&(dY dp 2 [(0,(.a [(I a0.Owner),(.l 3 (a0.Names.map I))])),(1,(.p k0 0))] []))=true)<|ai (aj d)<|ai (PA g:A k0=some [(.p k1 0)])<|ai (rN dp)<|ew<|ba h fun r1 al h=>have al:call G Ω0 ⟨dp+1,false⟩ 236 [(.p k1 0),(I a0.Owner)] C=some (.ret (.b r1),boxes dp [B] A):=ek (c8 (hp1:=ar D k1 (aM c1)) (aj j) (bA ..)) (c8 (hp1:=ar D k1 (aM c1)) (aj j) (bA ..)) (De (dp+1) C k1 (aJ j) (aU (an j (an d hz))) c1 a0.Owner _ al);eo al (an j (an d hz))<|L h
end
section
variable (a0:(List cp))(c1:aW)(O:Nat)(hp:HP)(k0:Key)(k1:Key)(dp:Nat)
def jF:Option (Nat⊕(Nat⊕(Nat×Bool))):=
 if (O:Int)<(a0.length:Int) then
  (a0[O]?).bind fun y2=>
  (lK y2 () c1).bind fun r4=>
  if r4.1=true then
   some (.inr (.inl O))
  else
   if IntKind.i64.wrap ((O:Int)+1)=((O+1:Nat):Int) then
    some (.inl (O+1))
   else none
 else
  some (.inr (.inr (O,decide ((O:Int)<(a0.length:Int)))))
abbrev pR(a0:(List cp))(c1:aW)(v:Nat):St:=⟨[(0,(bE a0)),(1,(.f 235 [(.p k0 0)])),(7,(zI a0.length)),(8,(I (v:Int)))],[],ar (ar hp k0 [(.p k1 0)]) k1 (aM c1)⟩
abbrev fB(a0:(List cp))(c1:aW)(x:(Nat⊕(Nat×Bool))):bc×St:=match x with | .inl z1=>(.ret,⟨[(4,(I (z1:Int)))],[],ar (ar hp k0 [(.p k1 0)]) k1 (aM c1)⟩) | .inr (z1,z2)=>((.ex 0),⟨[(0,(bE a0)),(1,(.f 235 [(.p k0 0)])),(7,(zI a0.length)),(8,(I (z1:Int))),(9,(.b z2))],[],ar (ar hp k0 [(.p k1 0)]) k1 (aM c1)⟩)
theorem pD(hp:HP)(k0:Key)(d:k0.dp<dp)(k1:Key)(j:k1.dp<dp)(g:k0≠k1)(hz:bF dp hp)(a0:(List cp))(c1:aW)(O:Nat)(o:Nat⊕(Nat⊕(Nat×Bool)))(h:jF a0 c1 O=some o):bQ ⟨dp,false⟩ Vh (pR hp k0 k1 a0 c1) (fB hp k0 k1 a0 c1) O o:=
 let A:=ar (ar hp k0 [(.p k1 0)]) k1 (aM c1);bZ (.or (bt<|ao (.n O)<|.ex fun (y2:cp)=>ao (.v (.a [(I y2.Owner),(aS y2.Names)]))<|.ex fun (r4:(Bool×Unit))=>ao (.v (.b r4.1))<|ao (.h (boxes dp [] A))<|ao (.bx [])<|ao (.h A)<|oN (ao (.i ((O+1:Nat):Int))<|.nil)) (bf<|.nil)) fun L=>cw h (fun h1 h=>ai (aF h1)<|ai (rI O)<|ba h fun y2 h3 h=>ai (aB bV h3)<|ew<|ba h fun r4 aq h=>have aq:=Ze d j g (Bg (dp+1) (boxes dp [] A) k0 (aJ d) k1 (aJ j) g (aU (an j (an d hz))) y2 () c1 _ aq);eo aq (an j (an d hz))<|bB h (fun h6 h=>ai h6<|L h) (fun h6 h=>ai h6<|aO h fun w7 h=>ai w7<|L h)) (fun h1 h=>ai (aD h1)<|L h)
abbrev qO(dp:Nat)(hp:HP)(k0:Key)(k1:Key)(a0:(List cp))(c0:Unit)(c1:aW)(r:(Int×Unit)):bC×HP:=(.ret (I r.1),ar (ar hp k0 [(.p k1 0)]) k1 (aM c1))
def kn(c0:Unit)(c1:aW):Option (Int×Unit):=
 (lp (fun v=>jF a0 c1 v) 0).bind fun x1=>match x1 with
 | .inl T=>
  some ((T:Int),())
 | .inr Q=>
  some ((-1),())
theorem pE(hp:HP)(k0:Key)(d:k0.dp<dp)(k1:Key)(j:k1.dp<dp)(g:k0≠k1)(hz:bF dp hp)(a0:(List cp))(c0:Unit)(c1:aW)(r:(Int×Unit))(h:kn a0 c0 c1=some r):call G Ω0 ⟨dp,false⟩ 228 [(.l 155 (a0.map bV)),(.f 235 [(.p k0 0)])] (ar (ar hp k0 [(.p k1 0)]) k1 (aM c1))=some (qO dp hp k0 k1 a0 c0 c1 r):=
 bj agJ (ao (.i (a0.length:Int))<|.or (.ex fun (T:Nat)=>ao (.cA (fB hp k0 k1 a0 c1 (.inl T)))<|.nil) (.ex fun (Q:(Nat×Bool))=>ao (.cA (fB hp k0 k1 a0 c1 (.inr Q)))<|.nil)) fun L=>ai (aP bV a0)<|dv h (dT (pD dp hp k0 d k1 j g hz a0 c1) 0) (fun T h=>L h) (fun Q h=>L h)
abbrev pF(dp:Nat)(hp:HP)(k0:Key)(k1:Key)(a0:(List cp))(c0:Unit)(c1:aW)(r:(Bool×Unit)):bC×HP:=(.ret (.b r.1),ar (ar hp k0 [(.p k1 0)]) k1 (aM c1))
def fp(c0:Unit)(c1:aW):Option (Bool×Unit):=
 (kn a0 () c1).bind fun r1=>
 some ((decide (0≤r1.1)),())
theorem ov(hp:HP)(k0:Key)(d:k0.dp<dp)(k1:Key)(j:k1.dp<dp)(g:k0≠k1)(hz:bF dp hp)(a0:(List cp))(c0:Unit)(c1:aW)(r:(Bool×Unit))(h:fp a0 c0 c1=some r):call G Ω0 ⟨dp,false⟩ 213 [(.l 155 (a0.map bV)),(.f 235 [(.p k0 0)])] (ar (ar hp k0 [(.p k1 0)]) k1 (aM c1))=some (pF dp hp k0 k1 a0 c0 c1 r):=
 let A:=ar (ar hp k0 [(.p k1 0)]) k1 (aM c1);bj agI (.ex fun (r1:(Int×Unit))=>ao (.v (I r1.1))<|ao (.h (boxes dp [] A))<|ao (.bx [])<|ao (.h A)<|.nil) fun L=>ew<|ba h fun r1 al h=>have al:=Ze d j g (pE (dp+1) (boxes dp [] A) k0 (aJ d) k1 (aJ j) g (aU (an j (an d hz))) a0 () c1 _ al);eo al (an j (an d hz))<|L h
end
section
variable (dp:Nat)(hp:HP)(k0:Key)(c0:aW)(a0:(List cp))
abbrev wU(dp:Nat)(hp:HP)(k0:Key)(c0:aW)(a0:(List cp))(r:Bool):bC×HP:=(.ret (.b r),ar hp k0 (aM c0))
abbrev wV(r:Bool):Prop:=call G Ω0 ⟨dp,false⟩ 232 [(.p k0 0),(.l 155 (a0.map bV))] (ar hp k0 (aM c0))=some (wU dp hp k0 c0 a0 r)
def fU:Option Bool:=
 (fp a0 () c0).bind fun r1=>
 some (!r1.1)
theorem Df(d:k0.dp<dp)(hz:bF dp hp)(c0:aW)(a0:(List cp))(r:Bool)(h:fU c0 a0=some r):wV dp hp k0 c0 a0 r:=
 let B:=(2,[(.p k0 0)]);let A:=boxes dp [B] (ar hp k0 (aM c0));bj ao8 (.ex fun (r1:(Bool×Unit))=>ao (.v (.b r1.1))<|ao (.h A)<|ao (.bx [B])<|ao (.h (ar hp k0 (aM c0)))<|.nil) fun L=>ai ((by simp [aV d,bm d]):(((.p k0 0):AV).deep dp&&(dY dp 2 [(0,(.p k0 0)),(1,(.l 155 (a0.map bV)))] []))=true)<|ai ff<|ai ((by simp [bm d]):([(2,[(.p k0 0)])]:List (Nat×List AV)).all (fun y=>AV.jJ dp y.2)=true)<|ba h fun r1 al h=>have al:call G Ω0 ⟨dp+1,false⟩ 213 [(bE a0),(.f 235 [(.p ⟨dp,2⟩ 0)])] A=some (.ret (.b r1.1),boxes dp [B] (ar hp k0 (aM c0))):=ek (jh (dB (bx1:=[B]) (by kernel_rfl) (by kernel_rfl)) (c8 (hp1:=ar hp k0 (aM c0)) (aj d) (bA ..))) (jh (dB (bx1:=[B]) (by kernel_rfl) (by kernel_rfl)) (c8 (hp1:=ar hp k0 (aM c0)) (aj d) (bA ..))) (ov (dp+1) A ⟨dp,2⟩ (fR dp) k0 (aJ d) (Mf d) (aU (an d hz)) a0 () c0 _ al);eo al (an d hz)<|L h
end
section
variable (dp:Nat)(hp:HP)(a0:Program)
abbrev Rz(dp:Nat)(hp:HP)(a0:Program)(r:aW):bC×HP:=(.new (aM r),hp)
def yL:Option aW:=
 (sw a0.ak).bind fun r1=>
 some (⟨a0,r1⟩:aW)
theorem MQ(hz:bF dp hp)(a0:Program)(r:aW)(h:yL a0=some r):call G Ω0 ⟨dp,false⟩ 67 [(.a (aL a0))] hp=some (Rz dp hp a0 r):=
 Sw G67 (cM<|.ex fun (r1:(List (List Bool)))=>ao (.v (.l 32 (r1.map (db 4 AV.b))))<|.nil) fun L=>aZ<|ai (rN dp)<|aZ<|ai (rN dp)<|ai tt<|bq h (CD a0.ak) fun r1 h=>ai tt<|ai ((by simp [aL]):(((.a [(I a0.ak.Many),(.l 79 (a0.ak.Grants.map bT)),(.l 3 (a0.Speak.map I)),(.l 83 (a0.Ins.map aT)),(.l 83 (a0.Outs.map aT)),(.l 86 (a0.Vars.map dk)),(.l 91 (a0.Funcs.map cS)),(.l 111 (a0.Main.map bK)),(.l 32 (r1.map (db 4 AV.b)))]):AV).deep dp&&(dY dp 8 [(7,(.a [(I a0.ak.Many),(.l 79 (a0.ak.Grants.map bT)),(.l 3 (a0.Speak.map I)),(.l 83 (a0.Ins.map aT)),(.l 83 (a0.Outs.map aT)),(.l 86 (a0.Vars.map dk)),(.l 91 (a0.Funcs.map cS)),(.l 111 (a0.Main.map bK)),(.l 32 (r1.map (db 4 AV.b)))])),(6,(.l 32 (r1.map (db 4 AV.b)))),(5,(.a [(I a0.ak.Many),(.l 79 (a0.ak.Grants.map bT))])),(4,(.p ⟨dp,1⟩ 0)),(3,(.a (aL a0))),(1,(.p ⟨dp,1⟩ 0))] [(1,(aL a0))]))=true)<|ai (rN dp)<|ai tt<|L h
end
section
variable (a0:Bool)
abbrev RA(a0:Bool)(r:Int):bC×HP:=(.ret (I r),H0)
def yM:Option Int:=
 if a0=true then
  some 1
 else
  some 0
theorem DT(r:Int)(h:yM a0=some r):call G Ω0 E0 145 [(.b a0)] H0=some (RA a0 r):=
 bj aod (oN (.nil)) fun L=>bB h (fun h1 h=>ai h1<|L h) (fun h1 h=>ai h1<|L h)
end
section
variable (a0:ay)(a1:(List Int))
abbrev RB(a0:ay)(a1:(List Int))(r:Int):bC×HP:=(.ret (I r),H0)
abbrev Dg(r:Int):Prop:=call G Ω0 E0 106 [(.a (bL a0)),(.l 3 (a1.map (I)))] H0=some (RB a0 a1 r)
end
structure Dh where
 f_run_Value:ay→(List Int)→Option Int
structure GL(R:Dh):Prop where
 f_run_Value:∀ (a0:ay)(a1:(List Int))(r:Int),R.f_run_Value a0 a1=some r→Dg a0 a1 r
section
variable (aR:Int)(R:Dh)(a0:ay)(a1:(List Int))
def jt:Option Int:=
 some (IntKind.i64.wrap (IntKind.i32.wrap aR))
abbrev kQ(x:Int):bc×St:=(.ret,⟨[(4,(I x))],[],H0⟩)
theorem lL(x:Int)(h:jt aR=some x):run G Ω0 E0 Ux ⟨[(7,(I aR))],[],H0⟩=some (kQ x):=
 let A:=IntKind.i32.wrap aR;oi (ao (.i A)<|ao (.i (IntKind.i64.wrap A))<|.nil) fun L=>ai (rfl:IntKind.i32.wrap aR=IntKind.i32.wrap aR)<|ai (rfl:IntKind.i64.wrap A=IntKind.i64.wrap A)<|L h
def wu:Option Int:=
 if (a0.Kind==1)=true then
  some a0.N
 else
  if (a0.Kind==2)=true then
   (cU a0.N).bind fun j3=>
   (a1[j3]?).bind fun y5=>
   some y5
  else
   (a0.Args[0]?).bind fun y3=>
   (R.f_run_Value y3 a1).bind fun r5=>
   (a0.Args[1]?).bind fun y7=>
   (R.f_run_Value y7 a1).bind fun r9=>
   if (a0.Kind==3)=true then
    if IntKind.i64.wrap (r5+r9)=r5+r9 then
     (jt (r5+r9)).bind fun bX=>
     some bX
    else none
   else
    if (a0.Kind==4)=true then
     if IntKind.i64.wrap (r5 - r9)=r5 - r9 then
      (jt (r5 - r9)).bind fun bW=>
      some bW
     else none
    else
     if (a0.Kind==5)=true then
      if IntKind.i64.wrap (r5*r9)=r5*r9 then
       (jt (r5*r9)).bind fun bJ=>
       some bJ
      else none
     else
      if (a0.Kind==6)=true then
       (yM (decide (r5<r9))).bind fun bg=>
       (jt bg).bind fun bd=>
       some bd
      else
       if (a0.Kind==7)=true then
        (yM (r5==r9)).bind fun bY=>
        (jt bY).bind fun bS=>
        some bS
       else
        (jt 0).bind fun bU=>
        some bU
theorem KY(hR:GL R)(a0:ay)(a1:(List Int))(r:Int)(h:wu R a0 a1=some r):Dg a0 a1 r:=
 bj anP (bt<|.or (cM<|.nil) (bf<|.or (cM<|xN fun j3=>xI fun y5=>.nil) (we<|ao (.n 0)<|.ex fun (y3:ay)=>ao (.v (.a (bL y3)))<|xI fun r5=>bt<|ao (.n 1)<|.ex fun (y7:ay)=>ao (.v (.a (bL y7)))<|xI fun r9=>bt<|.or (bt<|ao (.i (r5+r9))<|.fb<|.ex fun (bX:Int)=>ao (.ei (kQ bX))<|.nil) (bf<|.or (bt<|ao (.i (r5 - r9))<|.fb<|.ex fun (bW:Int)=>ao (.ei (kQ bW))<|.nil) (bf<|.or (bt<|ao (.i (r5*r9))<|.fb<|.ex fun (bJ:Int)=>ao (.ei (kQ bJ))<|.nil) (bf<|.or (bt<|xI fun bg=>.fb<|.ex fun (bd:Int)=>ao (.ei (kQ bd))<|.nil) (bf<|.or (bt<|xI fun bY=>.fb<|.ex fun (bS:Int)=>ao (.ei (kQ bS))<|.nil) (bf<|.fb<|.ex fun (bU:Int)=>ao (.ei (kQ bU))<|.nil)))))))) fun L=>uq<|bB h (fun h1 h=>lG h1<|L h) (fun h1 h=>ai h1<|bB h (fun h2 h=>lG h2<|dM h fun j3 h4 h=>ai h4<|ba h fun y5 h6 h=>ai (aB I h6)<|L h) (fun h2 h=>ai h2<|aZ<|l3<|ai (rI 0)<|ba h fun y3 h4 h=>ai (dR bw h4 (di _))<|eH<|bq h (hR.f_run_Value y3 a1) fun r5 h=>Je<|ai (rI 1)<|ba h fun y7 h8 h=>ai (dR bw h8 (di _))<|eH<|bq h (hR.f_run_Value y7 a1) fun r9 h=>ai (rfl:Z0)<|bB h (fun bM h=>ai bM<|aO h fun b9 h=>ai b9<|bq h (lL (r5+r9)) fun bX h=>L h) (fun bM h=>ai bM<|bB h (fun a7 h=>ai a7<|aO h fun b1 h=>ai b1<|bq h (lL (r5 - r9)) fun bW h=>L h) (fun a7 h=>ai a7<|bB h (fun aC h=>ai aC<|aO h fun bO h=>ai bO<|bq h (lL (r5*r9)) fun bJ h=>L h) (fun aC h=>ai aC<|bB h (fun bR h=>ai bR<|bq h (DT (decide (r5<r9))) fun bg h=>bq h (lL bg) fun bd h=>L h) (fun bR h=>ai bR<|bB h (fun a6 h=>ai a6<|bq h (DT (r5==r9)) fun bY h=>bq h (lL bY) fun bS h=>L h) (fun a6 h=>ai a6<|bq h (lL 0) fun bU h=>L h)))))))
def ux:Nat→Dh
 | 0=>⟨fun z0 z1=>none⟩
 | n+1=>⟨wu (ux n)⟩
theorem GM:∀ n,GL (ux n)
 | 0=>⟨fun _ _ r h=>(by cases h)⟩
 | n+1=>⟨fun a0 a1 r h=>KY _ (GM n) a0 a1 r h⟩
def oS:Option Int:=ev fun n=>(ux n).f_run_Value a0 a1
theorem tC(r:Int)(h:oS a0 a1=some r):Dg a0 a1 r:=by
 obtain ⟨n,hn⟩:=nW h
 exact (GM n).f_run_Value a0 a1 r hn
end
section
variable (a0:Int)
abbrev Qb(a0:Int)(r:Bool):bC×HP:=(.ret (.b r),H0)
def wv:Option Bool:=
 if -2147483648≤a0 then
  some (decide (a0≤2147483647))
 else
  some false
theorem KZ(r:Bool)(h:wv a0=some r):call G Ω0 E0 105 [(I a0)] H0=some (Qb a0 r):=
 bj anO (.or (ea<|.nil) (Kz<|.nil)) fun L=>cw h (fun h1 h=>ur (aF h1)<|L h) (fun h1 h=>ur (aD h1)<|L h)
end
end
end Go.Proofs.YtlmphbbhaeampaaGreat.A
