/- Functions of the program as plain functions, by program. -/
import Derived.Test.YtlmphbbhaeampaaGreatTypes
import Derived.Test.YtlmphbbhaeampaaGreatBase
import Derived.Test.YtlmphbbhaeampaaGreatFA
import Derived.Test.YtlmphbbhaeampaaGreatStepF
set_option linter.all false
set_option maxRecDepth 100000
namespace Go.Proofs.YtlmphbbhaeampaaGreat.A
open Go
noncomputable section
variable [Lp]
attribute [local simp] eA gZ okB jF AV.cU AV.iE AV.fG AV.deep AV.fJ jg aZ
section
variable (a0:an)(a1:Int)
abbrev NT(a0:an)(a1:Int)(r:Bool):bA×HP:=(.ret (.b r),H0)
def kv:Option Bool:=
 if 0≤a1 then
  some (decide (a1<a0.Many))
 else
  some false
theorem mj(r:Bool)(h:kv a0 a1=some r):call G Ω0 E0 132 [(.a [(I a0.Many),(.l 79 (a0.Grants.map bW))]),(I a1)] H0=some (NT a0 a1 r):=
 a8 agW (.or (Vm<|.nil) (bf<|bf<|bf<|bf<|bf<|.nil)) fun L=>ai tt<|da h (fun h1 h=>dE (aE h1)<|ai (g1 (aE h1))<|ai (rfl:Z0)<|rX (aE h1)<|L h) (fun h1 h=>dE (aG h1)<|dE (aG h1)<|ai (aG h1)<|L h)
end
section
variable (a0:dv)(a1:an)
abbrev Gf(a0:dv)(a1:an)(r:Bool):bA×HP:=(.ret (.b r),H0)
def mC:Option Bool:=
 (kv a1 a0.Who).bind fun r1=>
 if r1=true then
  (kv a1 a0.For).bind fun r4=>
  some (!r4)
 else
  some true
theorem C9(r:Bool)(h:mC a0 a1=some r):call G Ω0 E0 203 [(.a [(I a0.Who),(I a0.For)]),(.e (.a [(I a1.Many),(.l 79 (a1.Grants.map bW))]) 0)] H0=some (Gf a0 a1 r):=
 a8 ahF (bt<|xB fun r1=>.or (tn<|xB fun r4=>nz<|.nil) (bf<|bf<|bf<|bf<|bf<|bt<|.nil)) fun L=>xn<|bI h (mj a1 a0.Who) fun r1 h=>b9 h (fun h3 h=>let A:=av not h3;cm A<|ai (g0 A)<|ai (rfl:Z0)<|ai (g0 A)<|bI h (mj a1 a0.For) fun r4 h=>wG A<|L h) (fun h3 h=>let B:=av not h3;cm B<|cm B<|ai (g0 B)<|ai B<|L h)
end
section
variable (a0:(List dv))(a1:an)
abbrev qw(r:Bool):Prop:=call G Ω0 E0 202 [(.l 79 (a0.map bW)),(.f 203 [(.e (.a [(.i .i64 a1.Many),(.l 79 (a1.Grants.map bW))]) 0)])] H0=some (.ret (.b r),H0)
def fB:Option Bool:=FF (fun y=>mC y a1) a0
theorem po(r:Bool)(h:fB a0 a1=some r):qw a0 a1 r:=rz (n:=2) (ld:=(some 2)) (by decide) (fun _=>⟨rfl,rfl,_,rfl,rfl⟩) rfl (fun y b hb=>C9 y a1 b hb) ahE ahT h
end
section
variable (a0:an)
abbrev I0(a0:an)(r:Int):bA×HP:=(.ret (I r),H0)
def rA:Option Int:=
 if a0.Many<1 then
  some 3
 else
  if 6<a0.Many then
   some 3
  else
   if 20<(a0.Grants.length:Int) then
    some 2
   else
    (fB a0.Grants a0).bind fun r4=>
    if r4=true then
     some 5
    else
     some 0
theorem Fg(r:Int)(h:rA a0=some r):call G Ω0 E0 161 [(.a [(I a0.Many),(.l 79 (a0.Grants.map bW))])] H0=some (I0 a0 r):=
 a8 ahb (bt<|.or (TU<|.nil) (OV<|oN (bt<|ao (.i (a0.Grants.length:Int))<|oN (xB fun r4=>oN (.nil))))) fun L=>xn<|da h (fun h1 h=>cm (aE h1)<|ai (g0 (aE h1))<|rY (aE h1)<|L h) (fun h1 h=>ev5 (aG h1)<|da h (fun h2 h=>ai (aE h2)<|L h) (fun h2 h=>qO (aG h2)<|ai (bn bW a0.Grants)<|da h (fun h3 h=>ai (aE h3)<|L h) (fun h3 h=>qO (aG h3)<|bI h (po a0.Grants a0) fun r4 h=>b9 h (fun h6 h=>ai h6<|L h) (fun h6 h=>ai h6<|L h))))
end
section
variable (a0:Int)(a1:Program)
abbrev I1(a0:Int)(a1:Program)(r:Bool):bA×HP:=(.ret (.b r),H0)
def rB:Option Bool:=
 (kv a1.an a0).bind fun r1=>
 some (!r1)
theorem Fh(r:Bool)(h:rB a0 a1=some r):call G Ω0 E0 162 [(I a0),(.e (.a (aD a1)) 0)] H0=some (I1 a0 a1 r):=
 a8 ahc (xB fun r1=>.nil) fun L=>bI h (mj a1.an a0) fun r1 h=>L h
end
section
variable (a0:(List Int))(a1:Program)
abbrev rC(r:Bool):Prop:=call G Ω0 E0 103 [(.l 3 (a0.map (AV.i .i64))),(.f 162 [(.e (.a (aD a1)) 0)])] H0=some (.ret (.b r),H0)
def gx:Option Bool:=FF (fun y=>rB y a1) a0
theorem pX(r:Bool)(h:gx a0 a1=some r):rC a0 a1 r:=rz (n:=1) (ld:=none) (by decide) (fun _=>⟨rfl,rfl,rfl,rfl⟩) rfl (fun y b hb=>Fh y a1 b hb) Lu Lv h
end
section
variable (a0:(List (List Label)))(V:Int)(k:Nat)(X:(List Label))(ae:Nat)
def dY:Option ((Int×Nat)⊕(Int×Nat×Bool)):=
 if (k:Int)<(a0.length:Int) then
  (a0[k]?).bind fun y2=>
  if IntKind.i64.wrap (V+(y2.length:Int))=V+(y2.length:Int) then
   if (V+(y2.length:Int))<0 then
    none
   else
    if IntKind.i64.wrap ((k:Int)+1)=((k+1:Nat):Int) then
     some (.inl (V+(y2.length:Int),k+1))
    else none
  else none
 else
  some (.inr (V,k,decide ((k:Int)<(a0.length:Int))))
abbrev wH(v:(Int×Nat)):St:=⟨[(0,(.l 26 (a0.map (bO 83 aS)))),(3,(I v.1)),(9,(.l 26 (a0.map (bO 83 aS)))),(10,(zI a0.length)),(11,(I (v.2:Int)))],[],H0⟩
abbrev oW(x:(Int×Nat×Bool)):bh×St:=((.ex 0),⟨[(0,(.l 26 (a0.map (bO 83 aS)))),(3,(I x.1)),(9,(.l 26 (a0.map (bO 83 aS)))),(10,(zI a0.length)),(11,(I (x.2.1:Int))),(12,(.b x.2.2))],[],H0⟩)
theorem vd(o:(Int×Nat)⊕(Int×Nat×Bool))(h:dY a0 V k=some o):cG E0 Q9 (wH a0) (oW a0) (V,k) o:=
 cT (.or (bt<|ao (.n k)<|.ex fun (y2:(List Label))=>ao (.v (aJ y2))<|ao (.i (y2.length:Int))<|ao (.i (V+(y2.length:Int)))<|bf<|ao (.i ((k+1:Nat):Int))<|.nil) (bf<|.nil)) fun L=>da h (fun h1 h=>ai (aE h1)<|ai (rI k)<|bm h fun y2 h3 h=>ai (aI (bO 83 aS) h3)<|ai (bn aS y2)<|bc h fun w4 h=>ai w4<|TN h (fun _ h=>Hs h) (fun h5 h=>ai (aG h5)<|bc h fun w6 h=>ai w6<|L h)) (fun h1 h=>ai (aG h1)<|L h)
def dZ:Option (((List Label)×Nat)⊕((List Label)×Nat×Bool)):=
 if (ae:Int)<(a0.length:Int) then
  (a0[ae]?).bind fun y5=>
  if X.length+y5.length≤1000000000 then
   if IntKind.i64.wrap ((ae:Int)+1)=((ae+1:Nat):Int) then
    some (.inl (X++y5,ae+1))
   else none
  else none
 else
  some (.inr (X,ae,decide ((ae:Int)<(a0.length:Int))))
abbrev wI(v:((List Label)×Nat)):St:=⟨[(6,(.o 83 (v.1.map aS))),(25,(.l 26 (a0.map (bO 83 aS)))),(26,(zI a0.length)),(27,(I (v.2:Int)))],[],H0⟩
abbrev oX(x:((List Label)×Nat×Bool)):bh×St:=((.ex 2),⟨[(6,(.o 83 (x.1.map aS))),(25,(.l 26 (a0.map (bO 83 aS)))),(26,(zI a0.length)),(27,(I (x.2.1:Int))),(28,(.b x.2.2))],[],H0⟩)
theorem ve(o:((List Label)×Nat)⊕((List Label)×Nat×Bool))(h:dZ a0 X ae=some o):cG E0 Ra (wI a0) (oX a0) (X,ae) o:=
 cT (.or (bt<|ao (.n ae)<|.ex fun (y5:(List Label))=>ao (.v (aJ y5))<|ao (.l ((X++y5).map aS))<|ao (.i ((ae+1:Nat):Int))<|.nil) (bf<|.nil)) fun L=>da h (fun h4 h=>ai (aE h4)<|ai (rI ae)<|bm h fun y5 h6 h=>let A:=y5.map aS;ai (aI (bO 83 aS) h6)<|ai ff<|bc h fun h7 h=>ai ((fS aS (n:=2) (fun _=>rfl) y5):A.all (fun e=>e.nc==2)=true)<|ai ((jO h7 (by decide)):((X.map aS).length+A.length)*48≤140737488355328)<|ai ((jP h7):(X.map aS).length+A.length≤maxLen)<|ai (dI.symm:X.map aS++y5.map aS=(X++y5).map aS)<|bc h fun w8 h=>ai w8<|L h) (fun h4 h=>ai (aG h4)<|L h)
abbrev xL(a0:(List (List Label)))(r:(List Label)):bA×HP:=(.ret (.l 83 (r.map aS)),H0)
def iU:Option (List Label):=
 (lp (fun v=>dY a0 v.1 v.2) (0,0)).bind fun x1=>
 if 0≤x1.1∧x1.1≤1000000 then
  (lp (fun v=>dZ a0 v.1 v.2) (([]:List Label),0)).bind fun x4=>
  some x4.1
 else none
theorem vf(r:(List Label))(h:iU a0=some r):call G Ω0 E0 163 [(.l 26 (a0.map (bO 83 aS)))] H0=some (xL a0 r):=
 a8 ahd (ao (.i (a0.length:Int))<|.ex fun (x1:(Int×Nat×Bool))=>ao (.dJ (oW a0 x1))<|ao (.i (a0.length:Int))<|.ex fun (x4:((List Label)×Nat×Bool))=>ao (.dJ (oX a0 x4))<|.nil) fun L=>ai (bn (bO 83 aS) a0)<|bI h (im (fun v=>vd a0 v.1 v.2) (0,0)) fun x1 h=>bc h fun h3 h=>ai (TO h3:Ω0 204 [.n,(I x1.1)]=some (.o 83 []))<|ai (bn (bO 83 aS) a0)<|bI h (im (fun v=>ve a0 v.1 v.2) (([]:List Label),0)) fun x4 h=>L h
end
section
variable (a0:Int)(a1:an)
abbrev Gg(a0:Int)(a1:an)(r:Bool):bA×HP:=(.ret (.b r),H0)
def pq:Option Bool:=
 (kv a1 a0).bind fun r1=>
 some (!r1)
theorem Da(r:Bool)(h:pq a0 a1=some r):call G Ω0 E0 227 [(I a0),(.e (.a [(I a1.Many),(.l 79 (a1.Grants.map bW))]) 0)] H0=some (Gg a0 a1 r):=
 a8 ahU (xB fun r1=>.nil) fun L=>bI h (mj a1 a0) fun r1 h=>L h
end
section
variable (a0:(List Int))(a1:an)
abbrev qx(r:Bool):Prop:=call G Ω0 E0 103 [(.l 3 (a0.map (AV.i .i64))),(.f 227 [(.e (.a [(.i .i64 a1.Many),(.l 79 (a1.Grants.map bW))]) 0)])] H0=some (.ret (.b r),H0)
def fC:Option Bool:=FF (fun y=>pq y a1) a0
theorem pr(r:Bool)(h:fC a0 a1=some r):qx a0 a1 r:=rz (n:=1) (ld:=none) (by decide) (fun _=>⟨rfl,rfl,rfl,rfl⟩) rfl (fun y b hb=>Da y a1 b hb) Lu Lv h
end
section
variable (a1:cb)(q:Nat)(a0:an)(y2:(List cb))(ab:Nat)
def fV:Option (Nat⊕(Unit⊕(Nat×Bool))):=
 if (q:Int)<(a1.Names.length:Int) then
  (a1.Names[q]?).bind fun y9=>
  if IntKind.i64.wrap ((q:Int) - 1)=(q:Int) - 1 then
   (cV ((q:Int) - 1)).bind fun j12=>
   (a1.Names[j12]?).bind fun a5=>
   if y9≤a5 then
    some (.inr (.inl ()))
   else
    if IntKind.i64.wrap ((q:Int)+1)=((q+1:Nat):Int) then
     some (.inl (q+1))
    else none
  else none
 else
  some (.inr (.inr (q,decide ((q:Int)<(a1.Names.length:Int)))))
abbrev Gh(v:Nat):St:=⟨[zP 3,(5,(I (v:Int)))],[(3,[(I a1.Owner),(bw a1.Names)])],H0⟩
abbrev sZ(x:(Unit⊕(Nat×Bool))):bh×St:=match x with | .inl ()=>(.ret,⟨[(4,(I 4))],[],H0⟩) | .inr (z1,z2)=>((.ex 1),⟨[zP 3,(5,(I (z1:Int))),(26,(.b z2))],[(3,[(I a1.Owner),(bw a1.Names)])],H0⟩)
theorem Fi(o:Nat⊕(Unit⊕(Nat×Bool)))(h:fV a1 q=some o):cG E0 Rs (Gh a1) (sZ a1) q o:=
 cT (bt<|ao (.i (a1.Names.length:Int))<|.or (ee<|ao (.n q)<|xI fun y9=>bt<|ao (.i ((q:Int) - 1))<|xN fun j12=>xI fun a5=>oN (ao (.i ((q+1:Nat):Int))<|.nil)) (bf<|.nil)) fun L=>ai (rfl:Z0)<|ai (bn I a1.Names)<|da h (fun h8 h=>ai (aE h8)<|bE<|ai (rfl:Z0)<|bE<|ai (rI q)<|bm h fun y9 aw h=>ai (aI I aw)<|bE<|ai tt<|ai (rfl:Z0)<|bE<|bc h fun bJ h=>ai bJ<|ai tt<|ez h fun j12 az h=>ai az<|bm h fun a5 a3 h=>ai (aI I a3)<|bE<|da h (fun bv h=>ai (aE bv)<|L h) (fun bv h=>ai (aG bv)<|bc h fun b4 h=>ai b4<|L h)) (fun h8 h=>ai (aG h8)<|L h)
abbrev I2(a0:an)(a1:cb)(r:Int):bA×HP:=(.ret (I r),H0)
def rD(a1:cb):Option Int:=
 (kv a0 a1.Owner).bind fun r1=>
 if r1=true then
  if 6<(a1.Names.length:Int) then
   some 2
  else
   (fC a1.Names a0).bind fun r5=>
   if r5=true then
    some 5
   else
    (lp (fun v=>fV a1 v) 1).bind fun x8=>match x8 with
    | .inl bs=>
     some 4
    | .inr bl=>
     some 0
 else
  some 5
theorem Fj(a1:cb)(r:Int)(h:rD a0 a1=some r):call G Ω0 E0 205 [(.a [(I a0.Many),(.l 79 (a0.Grants.map bW))]),(.a [(I a1.Owner),(.l 3 (a1.Names.map (I)))])] H0=some (I2 a0 a1 r):=
 a8 ahG (ee<|xB fun r1=>.or (D3<|ao (.i (a1.Names.length:Int))<|oN (bt<|xB fun r5=>oN (.or (.ex fun (bs:Unit)=>ao (.dJ (sZ a1 (.inl bs)))<|.nil) (.ex fun (bl:(Nat×Bool))=>ao (.dJ (sZ a1 (.inr bl)))<|.nil)))) (bt<|.nil)) fun L=>bE<|kg<|bI h (mj a0 a1.Owner) fun r1 h=>b9 h (fun h3 h=>qO (av not h3)<|ai (bn I a1.Names)<|da h (fun h4 h=>ai (aE h4)<|L h) (fun h4 h=>ai (aG h4)<|kg<|bI h (pr a1.Names a0) fun r5 h=>b9 h (fun h7 h=>ai h7<|L h) (fun h7 h=>ai h7<|iy h (im (Fi a1) 1) (fun bs h=>L h) (fun bl h=>L h)))) (fun h3 h=>ai (av not h3)<|L h)
def iQ:Option (Nat⊕(Int⊕(Nat×Bool))):=
 if (ab:Int)<(y2.length:Int) then
  (y2[ab]?).bind fun y6=>
  (rD a0 y6).bind fun r8=>
  if (r8 !=0)=true then
   some (.inr (.inl r8))
  else
   if IntKind.i64.wrap ((ab:Int)+1)=((ab+1:Nat):Int) then
    some (.inl (ab+1))
   else none
 else
  some (.inr (.inr (ab,decide ((ab:Int)<(y2.length:Int)))))
end
section
variable (a0:an)(a1:Label)(Y:Nat)(y2:(List cb))(ab:Nat)
abbrev I3(v:Nat):St:=⟨[zP 2,(14,(.l 81 (([a1.Read,a1.Write]).map (bO 155 cg)))),(15,(I ((([a1.Read,a1.Write]).length:Nat):Int))),(16,(zI Y)),(23,(bU y2)),(24,(zI y2.length)),(25,(I (v:Int)))],[(2,[(I a0.Many),(aX a0.Grants)])],H0⟩
abbrev vg(x:(Int⊕(Nat×Bool))):bh×St:=match x with | .inl z1=>(.ret,⟨[(4,(I z1))],[],H0⟩) | .inr (z1,z2)=>((.ex 2),⟨[zP 2,(14,(.l 81 (([a1.Read,a1.Write]).map (bO 155 cg)))),(15,(I ((([a1.Read,a1.Write]).length:Nat):Int))),(16,(zI Y)),(23,(bU y2)),(24,(zI y2.length)),(25,(I (z1:Int))),(26,(.b z2))],[(2,[(I a0.Many),(aX a0.Grants)])],H0⟩)
theorem HF(o:Nat⊕(Int⊕(Nat×Bool)))(h:iQ a0 y2 ab=some o):cG E0 Rb (I3 a0 a1 Y y2) (vg a0 a1 Y y2) ab o:=
 cT (.or (bt<|ao (.n ab)<|.ex fun (y6:cb)=>ao (.v (.a [(I y6.Owner),(bw y6.Names)]))<|xp<|xI fun r8=>oN (ao (.i ((ab+1:Nat):Int))<|.nil)) (bf<|.nil)) fun L=>da h (fun h5 h=>ai (aE h5)<|ai (rI ab)<|bm h fun y6 h7 h=>ai (aI cg h7)<|ai tt<|oq<|kg<|bI h (Fj a0 y6) fun r8 h=>b9 h (fun aw h=>ai aw<|L h) (fun aw h=>ai aw<|bc h fun bJ h=>ai bJ<|L h)) (fun h5 h=>ai (aG h5)<|L h)
def cZ:Option (Nat⊕(Unit⊕(Int⊕(Nat×Bool)))):=
 if (Y:Int)<((([a1.Read,a1.Write]).length:Nat):Int) then
  (([a1.Read,a1.Write])[Y]?).bind fun y2=>
  if 4<(y2.length:Int) then
   some (.inr (.inl ()))
  else
   (lp (fun v=>iQ a0 y2 v) 0).bind fun x5=>match x5 with
   | .inl a9=>
    some (.inr (.inr (.inl a9)))
   | .inr bq=>
    if IntKind.i64.wrap ((Y:Int)+1)=((Y+1:Nat):Int) then
     some (.inl (Y+1))
    else none
 else
  some (.inr (.inr (.inr (Y,decide ((Y:Int)<((([a1.Read,a1.Write]).length:Nat):Int))))))
abbrev I4(v:Nat):St:=⟨[zP 2,(14,(.l 81 (([a1.Read,a1.Write]).map (bO 155 cg)))),(15,(I ((([a1.Read,a1.Write]).length:Nat):Int))),(16,(I (v:Int)))],[(2,[(I a0.Many),(aX a0.Grants)])],H0⟩
abbrev rE(x:(Unit⊕(Int⊕(Nat×Bool)))):bh×St:=match x with | .inl ()=>(.ret,⟨[(4,(I 2))],[],H0⟩) | .inr (.inl z1)=>(.ret,⟨[(4,(I z1))],[],H0⟩) | .inr (.inr (z1,z2))=>((.ex 0),⟨[zP 2,(14,(.l 81 (([a1.Read,a1.Write]).map (bO 155 cg)))),(15,(I ((([a1.Read,a1.Write]).length:Nat):Int))),(16,(I (z1:Int))),(17,(.b z2))],[(2,[(I a0.Many),(aX a0.Grants)])],H0⟩)
theorem HG(o:Nat⊕(Unit⊕(Int⊕(Nat×Bool))))(h:cZ a0 a1 Y=some o):cG E0 Rc (I4 a0 a1) (rE a0 a1) Y o:=
 cT (.or (bt<|ao (.n Y)<|.ex fun (y2:(List cb))=>ao (.v (bU y2))<|ao (.i (y2.length:Int))<|oN (ao (.i (y2.length:Int))<|.or (.ex fun (a9:Int)=>ao (.dJ (vg a0 a1 Y y2 (.inl a9)))<|.nil) (.ex fun (bq:(Nat×Bool))=>ao (.dJ (vg a0 a1 Y y2 (.inr bq)))<|ao (.i ((Y+1:Nat):Int))<|.nil))) (bf<|.nil)) fun L=>da h (fun h1 h=>ai (aE h1)<|ai (rI Y)<|bm h fun y2 h3 h=>ai (aI (bO 155 cg) h3)<|ai (bn cg y2)<|da h (fun h4 h=>ai (aE h4)<|L h) (fun h4 h=>ai (aG h4)<|ai (bn cg y2)<|iy h (im (HF a0 a1 Y y2) 0) (fun a9 h=>L h) (fun bq h=>bc h fun w8 h=>ai w8<|L h))) (fun h1 h=>ai (aG h1)<|L h)
abbrev Ms(a0:an)(a1:Label)(r:Int):bA×HP:=(.ret (I r),H0)
def qR:Option Int:=
 (lp (fun v=>cZ a0 a1 v) 0).bind fun x1=>match x1 with
 | .inl T=>
  some 2
 | .inr (.inl Q)=>
  some Q
 | .inr (.inr bk)=>
  some 0
theorem Aa(r:Int)(h:qR a0 a1=some r):call G Ω0 E0 164 [(.a [(I a0.Many),(.l 79 (a0.Grants.map bW))]),(.a [(.l 155 (a1.Read.map cg)),(.l 155 (a1.Write.map cg))])] H0=some (Ms a0 a1 r):=
 let B:=bO 155 cg;let A:=[a1.Read,a1.Write];a8 ahe (ee<|ao (.l (A.map B))<|ao (.i ((A.length:Nat):Int))<|.or (.ex fun (T:Unit)=>ao (.dJ (rE a0 a1 (.inl T)))<|.nil) (.or (.ex fun (Q:Int)=>ao (.dJ (rE a0 a1 (.inr (.inl Q))))<|.nil) (.ex fun (bk:(Nat×Bool))=>ao (.dJ (rE a0 a1 (.inr (.inr bk))))<|.nil))) fun L=>bE<|kg<|ai (rfl:[(bU a1.Read),(bU a1.Write)]=A.map B)<|ai (bn B A)<|Vk h (im (HG a0 a1) 0) (fun T h=>L h) (fun Q h=>L h) (fun bk h=>L h)
end
section
variable (a0:Var)
abbrev I5(a0:Var)(r:Bool):bA×HP:=(.ret (.b r),H0)
def rF:Option Bool:=
 if a0.Known=true then
  some false
 else
  if IntKind.i64.wrap ((a0.Label.Read.length:Int)+(a0.Label.Write.length:Int))=(a0.Label.Read.length:Int)+(a0.Label.Write.length:Int) then
   some (decide (0<((a0.Label.Read.length:Int)+(a0.Label.Write.length:Int))))
  else none
theorem Fk(r:Bool)(h:rF a0=some r):call G Ω0 E0 166 [(.a (pn a0))] H0=some (I5 a0 r):=
 let B:=(a0.Label.Read.length:Int);let A:=(a0.Label.Write.length:Int);a8 ahg (bt<|.or (bf<|bf<|bf<|bf<|bf<|bf<|bf<|bf<|bf<|bf<|bf<|.nil) (tn<|ao (.i B)<|tn<|ao (.i A)<|bt<|ao (.i (B+A))<|ee<|.nil)) fun L=>xn<|b9 h (fun h1 h=>let C:=av not h1;dE C<|dE C<|dE C<|dE C<|dE C<|ai C<|L h) (fun h1 h=>let D:=av not h1;dE D<|ai (g1 D)<|ai (rfl:Z0)<|ai (g1 D)<|ai (bn cg a0.Label.Read)<|dE D<|ai (g1 D)<|ai (rfl:Z0)<|ai (g1 D)<|ai (bn cg a0.Label.Write)<|ai (g1 D)<|bc h fun w2 h=>ai w2<|rX D<|L h)
end
section
variable (a0:(List Var))
abbrev rH(r:Bool):Prop:=call G Ω0 E0 165 [(.l 86 (a0.map dA)),(.f 166 [])] H0=some (.ret (.b r),H0)
def gy:Option Bool:=FF (fun y=>rF y) a0
theorem pY(r:Bool)(h:gy a0=some r):rH a0 r:=rz (n:=3) (ld:=(some 3)) (by decide) (fun _=>⟨rfl,rfl,_,rfl,rfl⟩) rfl (fun y b hb=>Fk y b hb) ahf ahH h
def Ab:List dx:=(gM 38 37)::⟨some 39,.fa 2 1,some ⟨38,false⟩,false⟩::⟨some 40,.ld none 39,some ⟨38,false⟩,false⟩::⟨some 41,.ln false 40,some ⟨38,false⟩,false⟩::⟨some 42,.fa 0 1,some ⟨38,false⟩,false⟩::⟨some 43,.fa 0 42,some ⟨38,false⟩,false⟩::⟨some 44,.ld none 43,some ⟨38,false⟩,false⟩::⟨some 45,.bo .gtr false 41 44,some ⟨38,false⟩,false⟩::(gp 46 (.pk 38 (.c (.b true)) 45))::[]
end
section
variable (a0:Program)(ah:(List Label))(af:Nat)(ad:Nat)
def kU(bb:Bool):Option Bool:=
 if bb=true then
  some true
 else
  some (decide (a0.an.Many<(a0.Speak.length:Int)))
abbrev nC(x:Bool):St:=⟨[zP 1,(46,(.b x))],[(1,(aD a0))],H0⟩
theorem pt(bb:Bool)(w:List AV)(x:Bool)(h:kU a0 bb=some x):AF G Ω0 E0 [1,46] [1] Ab ⟨[(37,(.b bb)),(36,(W w 0)),(35,(W w 1)),(34,(W w 2)),(33,(W w 3)),(32,(W w 4)),(31,(W w 5)),(30,(W w 6)),(29,(W w 7)),(28,(W w 8)),(27,(W w 9)),(26,(W w 10)),(25,(W w 11)),(24,(W w 12)),(23,(W w 13)),(22,(W w 14)),(21,(W w 15)),(20,(.b (decide (16<(a0.Vars.length:Int))))),(19,(.b (decide (16<(a0.Vars.length:Int))))),(18,(zI a0.Vars.length)),(17,(ct a0.Vars)),(16,(.p ⟨0,1⟩ 5)),zP 1],[(1,(aD a0))],H0⟩=some (nC a0 x):=
 Ht (.or (bf<|bf<|bf<|bf<|bf<|bf<|bf<|bt<|.nil) (xp<|ao (.i (a0.Speak.length:Int))<|bt<|bt<|bt<|bt<|bt<|bf<|.nil)) fun L=>b9 h (fun h7 h=>cm h7<|cm h7<|cm h7<|ai (g0 h7)<|ai h7<|L h) (fun h7 h=>R3 h7<|ai (bn I a0.Speak)<|cm h7<|ai (g0 h7)<|ai (rfl:Z0)<|ai (g0 h7)<|ai h7<|L h)
def HH:List dx:=(gF 16 5 1)::(gQ 17 16)::(gl 18 17)::(gB 19 .gtr 18 (kI 16))::(gM 20 19)::⟨some 21,.fa 3 1,some ⟨20,false⟩,false⟩::⟨some 22,.ld none 21,some ⟨20,false⟩,false⟩::⟨some 23,.ln false 22,some ⟨20,false⟩,false⟩::⟨some 24,.bo .gtr false 23 (kI 5),some ⟨20,false⟩,false⟩::(gp 25 (.pk 20 (.c (.b true)) 24))::(gM 26 25)::⟨some 27,.fa 4 1,some ⟨26,false⟩,false⟩::⟨some 28,.ld none 27,some ⟨26,false⟩,false⟩::⟨some 29,.ln false 28,some ⟨26,false⟩,false⟩::⟨some 30,.bo .gtr false 29 (kI 5),some ⟨26,false⟩,false⟩::(gp 31 (.pk 26 (.c (.b true)) 30))::(gM 32 31)::⟨some 33,.fa 6 1,some ⟨32,false⟩,false⟩::⟨some 34,.ld none 33,some ⟨32,false⟩,false⟩::⟨some 35,.ln false 34,some ⟨32,false⟩,false⟩::⟨some 36,.bo .gtr false 35 (kI 5),some ⟨32,false⟩,false⟩::(gp 37 (.pk 32 (.c (.b true)) 36))::Ab
def qj:Option Bool:=
 if 16<(a0.Vars.length:Int) then
  (kU a0 true).bind fun x5=>
  some x5
 else
  if 5<(a0.Ins.length:Int) then
   (kU a0 true).bind fun x6=>
   some x6
  else
   if 5<(a0.Outs.length:Int) then
    (kU a0 true).bind fun x7=>
    some x7
   else
    (kU a0 (decide (5<(a0.Funcs.length:Int)))).bind fun x7=>
    some x7
abbrev Ac(x:Bool):St:=⟨[zP 1,(46,(.b x))],[(1,(aD a0))],H0⟩
theorem Gi(x:Bool)(h:qj a0=some x):AF G Ω0 E0 [1,46] [1] HH ⟨[zP 1],[(1,(aD a0))],H0⟩=some (Ac a0 x):=
 let H:=zI a0.Outs.length;let F:=aJ a0.Ins;let E:=some 38;let D:=zI a0.Ins.length;let C:=(a0.Funcs.length:Int);let B:=decide (5<(a0.Outs.length:Int));let A:=decide (5<(a0.Ins.length:Int));Ht (bt<|ao (.i (a0.Vars.length:Int))<|.or (bf<|bf<|bf<|bf<|bt<|bf<|bf<|bf<|bf<|bt<|bf<|bf<|bf<|bf<|bt<|.jb E 8<|.ex fun (x5:Bool)=>ao (.jn (nC a0 x5))<|.nil) (xp<|ao (.i (a0.Ins.length:Int))<|nz<|.or (bf<|bf<|bf<|bf<|bt<|bf<|bf<|bf<|bf<|bt<|.jb E 8<|.ex fun (x6:Bool)=>ao (.jn (nC a0 x6))<|.nil) (xp<|ao (.i (a0.Outs.length:Int))<|nz<|.or (bv9<|.jb E 8<|.ex fun (x7:Bool)=>ao (.jn (nC a0 x7))<|.nil) (xp<|ao (.i C)<|nz<|.jb E 8<|.ex fun (x7:Bool)=>ao (.jn (nC a0 x7))<|.nil)))) fun L=>ai (rfl:Z0)<|ai (bn dA a0.Vars)<|da h (fun h4 h=>cm (aE h4)<|cm (aE h4)<|ai (aE h4)<|ai ht<|ai ht<|ai ht<|ai ht<|ai tt<|ai ht<|ai ht<|ai ht<|ai ht<|ai tt<|bI h (pt a0 true [.sk,.sk,.sk,.sk,(.b true),(.b true),.sk,.sk,.sk,.sk,(.b true),(.b true),.sk,.sk,.sk,.sk]) fun x5 h=>L h) (fun h4 h=>R3 (aG h4)<|ai (bn aS a0.Ins)<|wG (aG h4)<|da h (fun h5 h=>cm (aE h5)<|cm (aE h5)<|ai (aE h5)<|ai ht<|ai ht<|ai ht<|ai ht<|ai tt<|bI h (pt a0 true [.sk,.sk,.sk,.sk,(.b true),(.b true),.sk,.sk,.sk,.sk,(.b A),(.b A),(.b A),D,F,(.p ⟨0,1⟩ 3)]) fun x6 h=>L h) (fun h5 h=>R3 (aG h5)<|ai (bn aS a0.Outs)<|wG (aG h5)<|da h (fun h6 h=>ev3 (aE h6)<|bI h (pt a0 true [.sk,.sk,.sk,.sk,(.b B),(.b B),(.b B),H,(aJ a0.Outs),(.p ⟨0,1⟩ 4),(.b A),(.b A),(.b A),D,F,(.p ⟨0,1⟩ 3)]) fun x7 h=>L h) (fun h6 h=>R3 (aG h6)<|ai (bn cQ a0.Funcs)<|wG (aG h6)<|bI h (pt a0 (decide (5<C)) [(.b (decide (5<C))),(zI a0.Funcs.length),(bQ a0.Funcs),(.p ⟨0,1⟩ 6),(.b B),(.b B),(.b B),H,(aJ a0.Outs),(.p ⟨0,1⟩ 4),(.b A),(.b A),(.b A),D,F,(.p ⟨0,1⟩ 3)]) fun x7 h=>L h)))
def ov:Option (Nat⊕(Int⊕(Nat×Bool))):=
 if (af:Int)<(ah.length:Int) then
  (ah[af]?).bind fun bB=>
  (qR a0.an bB).bind fun bd=>
  if (bd !=0)=true then
   some (.inr (.inl bd))
  else
   if IntKind.i64.wrap ((af:Int)+1)=((af+1:Nat):Int) then
    some (.inl (af+1))
   else none
 else
  some (.inr (.inr (af,decide ((af:Int)<(ah.length:Int)))))
abbrev I6(v:Nat):St:=⟨[(1,(.e (.a (aD a0)) 0)),(56,(aJ ah)),(57,(zI ah.length)),(58,(I (v:Int)))],[],H0⟩
abbrev vj(x:(Int⊕(Nat×Bool))):bh×St:=match x with | .inl z1=>(.ret,⟨[(2,(I z1))],[],H0⟩) | .inr (z1,z2)=>((.ex 0),⟨[(1,(.e (.a (aD a0)) 0)),(56,(aJ ah)),(57,(zI ah.length)),(58,(I (z1:Int))),(59,(.b z2))],[],H0⟩)
theorem HI(o:Nat⊕(Int⊕(Nat×Bool)))(h:ov a0 ah af=some o):cG E0 QM (I6 a0 ah) (vj a0 ah) af o:=
 cT (.or (bt<|ao (.n af)<|.ex fun (bB:Label)=>ao (.v (.a [(bU bB.Read),(bU bB.Write)]))<|fh<|xI fun bd=>oN (ao (.i ((af+1:Nat):Int))<|.nil)) (bf<|.nil)) fun L=>da h (fun a4 h=>ai (aE a4)<|ai (rI af)<|bm h fun bB bL h=>ai (aI aS bL)<|OU<|bI h (Aa a0.an bB) fun bd h=>b9 h (fun be h=>ai be<|L h) (fun be h=>ai be<|bc h fun b3 h=>ai b3<|L h)) (fun a4 h=>ai (aG a4)<|L h)
def ox:Option (Nat⊕(Int⊕(Nat×Bool))):=
 if (ad:Int)<(a0.Vars.length:Int) then
  (a0.Vars[ad]?).bind fun bF=>
  (qR a0.an bF.Label).bind fun bg=>
  if (bg !=0)=true then
   some (.inr (.inl bg))
  else
   if IntKind.i64.wrap ((ad:Int)+1)=((ad+1:Nat):Int) then
    some (.inl (ad+1))
   else none
 else
  some (.inr (.inr (ad,decide ((ad:Int)<(a0.Vars.length:Int)))))
abbrev I7(v:Nat):St:=⟨[(1,(.e (.a (aD a0)) 0)),(71,(ct a0.Vars)),(72,(zI a0.Vars.length)),(73,(I (v:Int)))],[],H0⟩
abbrev vk(x:(Int⊕(Nat×Bool))):bh×St:=match x with | .inl z1=>(.ret,⟨[(2,(I z1))],[],H0⟩) | .inr (z1,z2)=>((.ex 2),⟨[(1,(.e (.a (aD a0)) 0)),(71,(ct a0.Vars)),(72,(zI a0.Vars.length)),(73,(I (z1:Int))),(74,(.b z2))],[],H0⟩)
theorem HJ(o:Nat⊕(Int⊕(Nat×Bool)))(h:ox a0 ad=some o):cG E0 QN (I7 a0) (vk a0) ad o:=
 cT (.or (bt<|ao (.n ad)<|.ex fun (bF:Var)=>ao (.v (.a (pn bF)))<|fh<|xI fun bg=>oN (ao (.i ((ad+1:Nat):Int))<|.nil)) (bf<|.nil)) fun L=>da h (fun a3 h=>ai (aE a3)<|ai (rI ad)<|bm h fun bF be h=>ai (aI dA be)<|OU<|bI h (Aa a0.an bF.Label) fun bg h=>b9 h (fun aY h=>ai aY<|L h) (fun aY h=>ai aY<|bc h fun bX h=>ai bX<|L h)) (fun a3 h=>ai (aG a3)<|L h)
abbrev Mt(a0:Program)(r:Int):bA×HP:=(.ret (I r),H0)
def tW:Option Int:=
 (rA a0.an).bind fun r1=>
 if (r1 !=0)=true then
  some r1
 else
  (qj a0).bind fun x4=>
  if x4=true then
   some 2
  else
   (gx a0.Speak a0).bind fun r7=>
   if r7=true then
    some 5
   else
    (iU ([a0.Ins,a0.Outs])).bind fun ah=>
    (lp (fun v=>ov a0 ah v) 0).bind fun b1=>match b1 with
    | .inl aO=>
     some aO
    | .inr aV=>
     (lp (fun v=>ox a0 v) 0).bind fun bC=>match bC with
     | .inl aN=>
      some aN
     | .inr aU=>
      (gy a0.Vars).bind fun bg=>
      if bg=true then
       some 1
      else
       some 0
theorem HK(r:Int)(h:tW a0=some r):call G Ω0 E0 123 [(.a (aD a0))] H0=some (Mt a0 r):=
 let A:=[a0.Ins,a0.Outs];a8 agP (bt<|xI fun r1=>oN (.jb (some 16) 30<|.ex fun (x4:Bool)=>ao (.jn (Ac a0 x4))<|oN (xB fun r7=>oN (ao (.l (A.map (bO 83 aS)))<|.ex fun (ah:(List Label))=>ao (.v (aJ ah))<|ao (.i (ah.length:Int))<|.or (.ex fun (aO:Int)=>ao (.dJ (vj a0 ah (.inl aO)))<|.nil) (.ex fun (aV:(Nat×Bool))=>ao (.dJ (vj a0 ah (.inr aV)))<|ao (.i (a0.Vars.length:Int))<|.or (.ex fun (aN:Int)=>ao (.dJ (vk a0 (.inl aN)))<|.nil) (.ex fun (aU:(Nat×Bool))=>ao (.dJ (vk a0 (.inr aU)))<|xB fun bg=>oN (.nil))))))) fun L=>xn<|bI h (Fg a0.an) fun r1 h=>b9 h (fun h3 h=>ai h3<|L h) (fun h3 h=>ai h3<|bI h (Gi a0) fun x4 h=>b9 h (fun h6 h=>ai h6<|L h) (fun h6 h=>qO h6<|bI h (pX a0.Speak a0) fun r7 h=>b9 h (fun h9 h=>ai h9<|L h) (fun h9 h=>ai h9<|ai (rfl:[(aJ a0.Ins),(aJ a0.Outs)]=A.map (bO 83 aS))<|bI h (vf A) fun ah h=>ai (bn aS ah)<|iy h (im (HI a0 ah) 0) (fun aO h=>L h) (fun aV h=>ai (bn dA a0.Vars)<|iy h (im (HJ a0) 0) (fun aN h=>L h) (fun aU h=>bI h (pY a0.Vars) fun bg h=>b9 h (fun aY h=>ai aY<|L h) (fun aY h=>ai aY<|L h))))))
end
section
variable (dp:Nat)(hp:HP)(k0:Key)
abbrev KK(dp:Nat)(hp:HP)(k0:Key)(a0:Stmt)(a1:Int)(c0:Int)(r:(Bool×Int)):bA×HP:=(.ret (.b r.1),aq hp k0 [(I r.2)])
def xb(a0:Stmt)(a1:Int)(c0:Int):Option (Bool×Int):=
 if IntKind.i64.wrap (c0+1)=c0+1 then
  if (c0+1)≤50 then
   some ((decide (a1≤6)),(c0+1))
  else
   some (false,(c0+1))
 else none
theorem Gj(d:k0.dp<dp)(hz:aT dp hp)(a0:Stmt)(a1:Int)(c0:Int)(r:(Bool×Int))(h:xb a0 a1 c0=some r):call G Ω0 ⟨dp,false⟩ 167 [(.a (ar a0)),(I a1),(.p k0 0)] (aq hp k0 [(I c0)])=some (KK dp hp k0 a0 a1 c0 r):=
 let C:=a7 hp k0 [(I c0)];let B:=au d;let A:=[(I (c0+1))];a8 ahh (bf<|ao (.l [(I c0)])<|ao (.i (c0+1))<|bf<|ao (.l [(I c0)])<|bf<|ao (.h (aq hp k0 A))<|bf<|ao (.l A)<|.or (fh<|.nil) (Hu<|.nil)) fun L=>ai ((by simp [ar,aM d,aR d]):(((.a (ar a0)):AV).deep dp&&(eA dp 3 [(0,(.a (ar a0))),(1,(I a1)),(2,(.p k0 0))] []))=true)<|ai B<|ai C<|bc h fun w1 h=>ai w1<|ai ff<|ai B<|ai C<|ai tt<|ai B<|ai (bP hp k0 [(I c0)] A)<|ai B<|ai (a7 hp k0 A)<|da h (fun h2 h=>tm (aE h2)<|L h) (fun h2 h=>tm (aG h2)<|L h)
end
section
variable (dp:Nat)(hp:HP)(k0:Key)(a0:(List Stmt))(a1:Int)(c0:Int)
abbrev xM(dp:Nat)(hp:HP)(k0:Key)(a0:(List Stmt))(a1:Int)(c0:Int)(r:(Bool×Int)):bA×HP:=(.ret (.b r.1),aq hp k0 [(I r.2)])
abbrev lQ(r:(Bool×Int)):Prop:=call G Ω0 ⟨dp,false⟩ 134 [(.l 111 (a0.map bK)),(I a1),(.f 167 [(.p k0 0)])] (aq hp k0 [(I c0)])=some (xM dp hp k0 a0 a1 c0 r)
end
structure lR where
 f_scope_Walk__scope_few_1:(List Stmt)→Int→Int→Option (Bool×Int)
structure ly(R:lR):Prop where
 f_scope_Walk__scope_few_1:∀ (dp:Nat)(hp:HP)(k0:Key)(d:k0.dp<dp)(hz:aT dp hp)(a0:(List Stmt))(a1:Int)(c0:Int)(r:(Bool×Int)),R.f_scope_Walk__scope_few_1 a0 a1 c0=some r→lQ dp hp k0 a0 a1 c0 r
section
variable (R:lR)(a0:(List Stmt))(a1:Int)(k:Nat)(hp:HP)(k0:Key)(dp:Nat)(c0:Int)
def ic(v0_k0_0:Int):Option ((Nat×Int)⊕(Int⊕(Nat×Bool×Int))):=
 if (k:Int)<(a0.length:Int) then
  (a0[k]?).bind fun y2=>
  (xb y2 a1 v0_k0_0).bind fun r4=>
  if r4.1=true then
   if IntKind.i64.wrap (a1+1)=a1+1 then
    (R.f_scope_Walk__scope_few_1 y2.Then (a1+1) r4.2).bind fun r8=>
    if r8.1=true then
     (R.f_scope_Walk__scope_few_1 y2.Else (a1+1) r8.2).bind fun aA=>
     if aA.1=true then
      if IntKind.i64.wrap ((k:Int)+1)=((k+1:Nat):Int) then
       some (.inl (k+1,aA.2))
      else none
     else
      some (.inr (.inl aA.2))
    else
     some (.inr (.inl r8.2))
   else none
  else
   some (.inr (.inl r4.2))
 else
  some (.inr (.inr (k,decide ((k:Int)<(a0.length:Int)),v0_k0_0)))
abbrev wJ(a0:(List Stmt))(a1:Int)(v:(Nat×Int)):St:=⟨[(1,(I a1)),(2,(.f 167 [(.p k0 0)])),(9,(bj a0)),(10,(zI a0.length)),(11,(I (v.1:Int)))],[],aq hp k0 [(I v.2)]⟩
abbrev kE(a0:(List Stmt))(a1:Int)(x:(Int⊕(Nat×Bool×Int))):bh×St:=match x with | .inl z1=>(.ret,⟨[(6,(.b false))],[],aq hp k0 [(I z1)]⟩) | .inr (z1,z2,z3)=>((.ex 0),⟨[(1,(I a1)),(2,(.f 167 [(.p k0 0)])),(9,(bj a0)),(10,(zI a0.length)),(11,(I (z1:Int))),(12,(.b z2))],[],aq hp k0 [(I z3)]⟩)
theorem vm(hR:ly R)(dp:Nat)(hp:HP)(k0:Key)(d:k0.dp<dp)(hz:aT dp hp)(a0:(List Stmt))(a1:Int)(k:Nat)(v0_k0_0:Int)(o:(Nat×Int)⊕(Int⊕(Nat×Bool×Int)))(h:ic R a0 a1 k v0_k0_0=some o):cG ⟨dp,false⟩ G6 (wJ hp k0 a0 a1) (kE hp k0 a0 a1) (k,v0_k0_0) o:=
 let B:=aB d;let A:=Bool×Int;cT (.or (bt<|ao (.n k)<|.ex fun (y2:Stmt)=>let C:=(8,(ar y2));ao (.v (.a (ar y2)))<|fh<|.ex fun (r4:A)=>let D:=aq hp k0 [(I r4.2)];ao (.v (.b r4.1))<|ao (.h (boxes dp [C] D))<|ao (.bx [C])<|ao (.h D)<|.or (tn<|ao (.i (a1+1))<|ee<|.ex fun (r8:A)=>let E:=aq hp k0 [(I r8.2)];ao (.v (.b r8.1))<|ao (.h (boxes dp [C] E))<|ao (.bx [C])<|ao (.h E)<|nz<|.or (tn<|ao (.i (a1+1))<|ee<|.ex fun (aA:A)=>let F:=aq hp k0 [(I aA.2)];ao (.v (.b aA.1))<|ao (.h (boxes dp [C] F))<|ao (.bx [C])<|ao (.h F)<|nz<|.or (bf<|ao (.i ((k+1:Nat):Int))<|.nil) (bt<|.nil)) (TV<|.nil)) (TW<|.nil)) (bf<|.nil)) fun L=>da h (fun h1 h=>ai (aE h1)<|ai (rI k)<|bm h fun y2 h3 h=>let G:=(8,(ar y2));ai (nZ bK h3 (mA _))<|ai ((by simp [ar,aM d,aR d]):(eA dp 8 [(14,(.a (ar y2))),(13,(.e (.a (ar y2)) 0)),(1,(I a1)),(2,(.f 167 [(.p k0 0)])),(9,(.l 111 (a0.map bK))),(10,(I (a0.length:Int))),(11,(I (k:Int)))] [])=true)<|ai ff<|ai (rN dp)<|ai tt<|ai (rN dp)<|ai (rN dp)<|ep<|bm h fun r4 ap h=>have ap:=cO d (Gj (dp+1) (boxes dp [G] (aq hp k0 [(I v0_k0_0)])) k0 B (aQ (ak d hz)) y2 a1 v0_k0_0 _ ap);eW ap (ak d hz)<|b9 h (fun h6 h=>let H:=av not h6;cm H<|ai (rN dp)<|cm H<|bc h fun w7 h=>ai w7<|IQ H<|bm h fun r8 bz h=>have bz:=cO d (hR.f_scope_Walk__scope_few_1 (dp+1) (boxes dp [G] (aq hp k0 [(I r4.2)])) k0 B (aQ (ak d hz)) y2.Then (a1+1) r4.2 _ bz);eW bz (ak d hz)<|wG H<|b9 h (fun aw h=>let J:=av not aw;cm J<|ai (rN dp)<|cm J<|ai w7<|IQ J<|bm h fun aA aF h=>have aF:=cO d (hR.f_scope_Walk__scope_few_1 (dp+1) (boxes dp [G] (aq hp k0 [(I r8.2)])) k0 B (aQ (ak d hz)) y2.Else (a1+1) r8.2 _ aF);eW aF (ak d hz)<|wG J<|b9 h (fun az h=>ai (av not az)<|bc h fun bG h=>ai bG<|L h) (fun az h=>ai (av not az)<|L h)) (fun aw h=>TR (av not aw)<|L h)) (fun h6 h=>TS (av not h6)<|L h)) (fun h1 h=>ai (aG h1)<|L h)
def iA:Option (Bool×Int):=
 (lp (fun v=>ic R a0 a1 v.1 v.2) (0,c0)).bind fun x1=>match x1 with
 | .inl T=>
  some (false,T)
 | .inr Q=>
  some (true,Q.2.2)
theorem uu(hR:ly R)(dp:Nat)(hp:HP)(k0:Key)(d:k0.dp<dp)(hz:aT dp hp)(a0:(List Stmt))(a1:Int)(c0:Int)(r:(Bool×Int))(h:iA R a0 a1 c0=some r):lQ dp hp k0 a0 a1 c0 r:=
 a8 Ts (ao (.i (a0.length:Int))<|.or (.ex fun (T:Int)=>ao (.dJ (kE hp k0 a0 a1 (.inl T)))<|.nil) (.ex fun (Q:(Nat×Bool×Int))=>ao (.dJ (kE hp k0 a0 a1 (.inr Q)))<|.nil)) fun L=>ai (bn bK a0)<|iy h (im (fun v=>vm R hR dp hp k0 d hz a0 a1 v.1 v.2) (0,c0)) (fun T h=>L h) (fun Q h=>L h)
def eE:Nat→lR
 | 0=>⟨fun z0 z1 z2=>none⟩
 | n+1=>⟨iA (eE n)⟩
theorem pE:∀ n,ly (eE n)
 | 0=>⟨fun _ _ _ _ _ _ _ _ r h=>(by cases h)⟩
 | n+1=>⟨fun dp hp k0 d hz a0 a1 c0 r h=>uu _ (pE n) dp hp k0 d hz a0 a1 c0 r h⟩
def iV:Option (Bool×Int):=ev fun n=>(eE n).f_scope_Walk__scope_few_1 a0 a1 c0
theorem oy(hp:HP)(k0:Key)(d:k0.dp<dp)(hz:aT dp hp)(a0:(List Stmt))(a1:Int)(c0:Int)(r:(Bool×Int))(h:iV a0 a1 c0=some r):lQ dp hp k0 a0 a1 c0 r:=by
 obtain ⟨n,hn⟩:=u9 h
 exact (pE n).f_scope_Walk__scope_few_1 dp hp k0 d hz a0 a1 c0 r hn
end
section
variable (a0:Program)(k:Nat)(al:Int)
def sB:Option ((Nat×Int)⊕(Unit⊕(Nat×Bool×Int))):=
 if (k:Int)<(a0.Funcs.length:Int) then
  (a0.Funcs[k]?).bind fun y2=>
  (iV y2.Body 1 al).bind fun r4=>
  if r4.1=true then
   if IntKind.i64.wrap ((k:Int)+1)=((k+1:Nat):Int) then
    some (.inl (k+1,r4.2))
   else none
  else
   some (.inr (.inl ()))
 else
  some (.inr (.inr (k,decide ((k:Int)<(a0.Funcs.length:Int)),al)))
abbrev KL(v:(Nat×Int)):St:=⟨[zP 1,(4,(.f 167 [(zQ 3)])),(9,(bQ a0.Funcs)),(10,(zI a0.Funcs.length)),(11,(I (v.1:Int)))],[(1,(aD a0)),(3,[(I v.2)])],H0⟩
abbrev xc(x:(Unit⊕(Nat×Bool×Int))):bh×St:=match x with | .inl ()=>(.ret,⟨[(2,(.b false))],[],H0⟩) | .inr (z1,z2,z3)=>((.ex 0),⟨[zP 1,(4,(.f 167 [(zQ 3)])),(9,(bQ a0.Funcs)),(10,(zI a0.Funcs.length)),(11,(I (z1:Int))),(12,(.b z2))],[(1,(aD a0)),(3,[(I z3)])],H0⟩)
theorem I8(o:(Nat×Int)⊕(Unit⊕(Nat×Bool×Int)))(h:sB a0 k al=some o):cG E0 QO (KL a0) (xc a0) (k,al) o:=
 let B:=(3,[(I al)]);let A:=(1,(aD a0));cT (.or (bt<|ao (.n k)<|.ex fun (y2:Func)=>ao (.v (.a (dB y2)))<|fh<|.ex fun (r4:(Bool×Int))=>let C:=[A,(3,[(I r4.2)]),(6,(dB y2))];ao (.v (.b r4.1))<|ao (.h (boxes 0 C H0))<|ao (.bx C)<|ao (.h H0)<|.or (bf<|ao (.i ((k+1:Nat):Int))<|.nil) (bt<|.nil)) (bf<|.nil)) fun L=>da h (fun h1 h=>ai (aE h1)<|ai (rI k)<|bm h fun y2 h3 h=>let D:=(6,(dB y2));let E:=boxes 0 [A,B,D] H0;ai (aI cQ h3)<|ai tt<|oq<|ai (rfl:Z0)<|ep<|bm h fun r4 ap h=>let F:=[A,(3,[(I r4.2)]),D];have ap:call G Ω0 ⟨0+1,false⟩ 134 [(bj y2.Body),(I 1),(.f 167 [(zQ 3)])] E=some (.ret (.b r4.1),boxes 0 F H0):=dX (dt (bx1:=[A,B,D]) (by kernel_rfl) (by kernel_rfl)) (dt (bx1:=F) (by kernel_rfl) (by kernel_rfl)) (oy (0+1) E ⟨0,3⟩ (gP 0) (aQ (fq 0)) y2.Body 1 al _ ap);eW ap (fq 0)<|b9 h (fun h6 h=>ai (av not h6)<|bc h fun w7 h=>ai w7<|L h) (fun h6 h=>ai (av not h6)<|L h)) (fun h1 h=>ai (aG h1)<|L h)
abbrev NU(a0:Program)(r:Bool):bA×HP:=(.ret (.b r),H0)
def vS:Option Bool:=
 (lp (fun v=>sB a0 v.1 v.2) (0,0)).bind fun x1=>match x1 with
 | .inl T=>
  some false
 | .inr Q=>
  (iV a0.Main 1 Q.2.2).bind fun r4=>
  some r4.1
theorem I9(r:Bool)(h:vS a0=some r):call G Ω0 E0 124 [(.a (aD a0))] H0=some (NU a0 r):=
 let A:=(1,(aD a0));a8 agQ (fh<|ao (.i (a0.Funcs.length:Int))<|.or (.ex fun (T:Unit)=>ao (.dJ (xc a0 (.inl T)))<|.nil) (.ex fun (Q:(Nat×Bool×Int))=>ao (.dJ (xc a0 (.inr Q)))<|bt<|.ex fun (r4:(Bool×Int))=>ao (.v (.b r4.1))<|ao (.h (boxes 0 [A,(3,[(I r4.2)])] H0))<|ao (.bx [A,(3,[(I r4.2)])])<|ao (.h H0)<|.nil)) fun L=>bE<|oq<|ai (rfl:Z0)<|ai (bn cQ a0.Funcs)<|iy h (im (fun v=>I8 a0 v.1 v.2) (0,0)) (fun T h=>L h) (fun Q h=>let B:=[A,(3,[(I Q.2.2)])];ai (rfl:Z0)<|ep<|bm h fun r4 ap h=>have ap:call G Ω0 ⟨0+1,false⟩ 134 [(bj a0.Main),(I 1),(.f 167 [(zQ 3)])] (boxes 0 B H0)=some (.ret (.b r4.1),boxes 0 [A,(3,[(I r4.2)])] H0):=dX (dt (bx1:=B) (by kernel_rfl) (by kernel_rfl)) (dt (bx1:=[A,(3,[(I r4.2)])]) (by kernel_rfl) (by kernel_rfl)) (oy (0+1) (boxes 0 B H0) ⟨0,3⟩ (gP 0) (aQ (fq 0)) a0.Main 1 Q.2.2 _ ap);eW ap (fq 0)<|L h)
end
section
variable (a0:(List Int))(a1:Int)(O:Nat)
def lS:Option (Nat⊕(Nat⊕(Nat×Bool))):=
 if (O:Int)<(a0.length:Int) then
  (a0[O]?).bind fun y2=>
  if (a1==y2)=true then
   some (.inr (.inl O))
  else
   if IntKind.i64.wrap ((O:Int)+1)=((O+1:Nat):Int) then
    some (.inl (O+1))
   else none
 else
  some (.inr (.inr (O,decide ((O:Int)<(a0.length:Int)))))
abbrev Cv(v:Nat):St:=⟨[(0,(bw a0)),(1,(I a1)),(7,(zI a0.length)),(8,(I (v:Int)))],[],H0⟩
abbrev pv(x:(Nat⊕(Nat×Bool))):bh×St:=match x with | .inl z1=>(.ret,⟨[(4,(I (z1:Int)))],[],H0⟩) | .inr (z1,z2)=>((.ex 0),⟨[(0,(bw a0)),(1,(I a1)),(7,(zI a0.length)),(8,(I (z1:Int))),(9,(.b z2))],[],H0⟩)
theorem Bg(o:Nat⊕(Nat⊕(Nat×Bool)))(h:lS a0 a1 O=some o):cG E0 Rt (Cv a0 a1) (pv a0 a1) O o:=
 cT (.or (bt<|ao (.n O)<|xI fun y2=>oN (ao (.i ((O+1:Nat):Int))<|.nil)) (bf<|.nil)) fun L=>da h (fun h1 h=>ai (aE h1)<|ai (rI O)<|bm h fun y2 h3 h=>ai (aI I h3)<|b9 h (fun h4 h=>ai h4<|L h) (fun h4 h=>ai h4<|bc h fun w5 h=>ai w5<|L h)) (fun h1 h=>ai (aG h1)<|L h)
abbrev D8(a0:(List Int))(a1:Int)(r:Int):bA×HP:=(.ret (I r),H0)
def qS:Option Int:=
 (lp (fun v=>lS a0 a1 v) 0).bind fun x1=>match x1 with
 | .inl T=>
  some (T:Int)
 | .inr Q=>
  some (-1)
theorem Bh(r:Int)(h:qS a0 a1=some r):call G Ω0 E0 207 [(.l 3 (a0.map (I))),(I a1)] H0=some (D8 a0 a1 r):=
 a8 ahI (ao (.i (a0.length:Int))<|.or (.ex fun (T:Nat)=>ao (.dJ (pv a0 a1 (.inl T)))<|.nil) (.ex fun (Q:(Nat×Bool))=>ao (.dJ (pv a0 a1 (.inr Q)))<|.nil)) fun L=>ai (bn I a0)<|iy h (im (Bg a0 a1) 0) (fun T h=>L h) (fun Q h=>L h)
abbrev Bi(a0:(List Int))(a1:Int)(r:Bool):bA×HP:=(.ret (.b r),H0)
def kW:Option Bool:=
 (qS a0 a1).bind fun r1=>
 some (decide (0≤r1))
theorem yF(r:Bool)(h:kW a0 a1=some r):call G Ω0 E0 168 [(.l 3 (a0.map (I))),(I a1)] H0=some (Bi a0 a1 r):=
 a8 ahi (xI fun r1=>.nil) fun L=>bI h (Bh a0 a1) fun r1 h=>L h
end
section
variable (dp:Nat)(hp:HP)(k0:Key)(a0:Stmt)
abbrev zp(dp:Nat)(hp:HP)(k0:Key)(k1:Key)(k2:Key)(a0:Stmt)(a1:Int)(c0:Unit)(c1:Checker)(c2:Int)(r:(Bool×Unit×Int)):bA×HP:=(.ret (.b r.1),aq (aq (aq hp k0 [(.p k1 0)]) k1 (bH c1)) k2 [(I r.2.2)])
def mV(a1:Int)(c0:Unit)(c1:Checker)(c2:Int):Option (Bool×Unit×Int):=
 (gw c1 a0).bind fun r1=>
 some ((r1==0),(),r1)
theorem xd(d:k0.dp<dp)(k1:Key)(j:k1.dp<dp)(k2:Key)(S:k2.dp<dp)(g:k0≠k1)(z:k0≠k2)(t:k1≠k2)(hz:aT dp hp)(a0:Stmt)(a1:Int)(c0:Unit)(c1:Checker)(c2:Int)(r:(Bool×Unit×Int))(h:mV a0 a1 c0 c1 c2=some r):call G Ω0 ⟨dp,false⟩ 169 [(.a (ar a0)),(I a1),(.p k0 0),(.p k2 0)] (aq (aq (aq hp k0 [(.p k1 0)]) k1 (bH c1)) k2 [(I c2)])=some (zp dp hp k0 k1 k2 a0 a1 c0 c1 c2 r):=
 let C:=au S;let A:=aq (aq hp k0 [(.p k1 0)]) k1 (bH c1);let B:=boxes dp [(4,(ar a0))] (aq A k2 [(I c2)]);a8 ahj (bf<|ao (.l [(.p k1 0)])<|bt<|xI fun r1=>ao (.h B)<|bf<|ao (.l [(I c2)])<|bf<|ao (.h (aq A k2 [(I r1)]))<|bf<|ao (.l [(I r1)])<|.nil) fun L=>ai ((by simp [ar,aM d,aR d,aM j,aR j,aM S,aR S]):(((.a (ar a0)):AV).deep dp&&(eA dp 4 [(0,(.a (ar a0))),(1,(I a1)),(2,(.p k0 0)),(3,(.p k2 0))] []))=true)<|ai (au d)<|ai (dD g z:(aq A k2 [(I c2)]) k0=some [(.p k1 0)])<|ai (rN dp)<|ai tt<|bm h fun r1 aj h=>have aj:call G Ω0 ⟨dp+1,true⟩ 170 [(.p k1 0),(.a (ar a0))] B=some (.ret (I r1),boxes dp [(4,(ar a0))] (aq A k2 [(I c2)])):=dX (cD (hp1:=aq A k2 [(I c2)]) (au j) (cJ (cC t) (bP ..))) (cD (hp1:=aq A k2 [(I c2)]) (au j) (cJ (cC t) (bP ..))) (zo (dp+1) B k1 (aB j) (aQ (ak S (ak j (ak d hz)))) c1 a0 _ aj);ai aj<|ai ff<|ai C<|ai (a7 A k2 [(I c2)])<|ai tt<|ai C<|ai (bP A k2 [(I c2)] [(I r1)])<|ai C<|ai (a7 A k2 [(I r1)])<|L h
end
section
variable (dp:Nat)(hp:HP)(k0:Key)(k1:Key)(k2:Key)(a0:(List Stmt))(a1:Int)(c0:Unit)(c1:Checker)(c2:Int)
abbrev rJ(dp:Nat)(hp:HP)(k0:Key)(k1:Key)(k2:Key)(a0:(List Stmt))(a1:Int)(c0:Unit)(c1:Checker)(c2:Int)(r:(Bool×Unit×Int)):bA×HP:=(.ret (.b r.1),aq (aq (aq hp k0 [(.p k1 0)]) k1 (bH c1)) k2 [(I r.2.2)])
abbrev gD(r:(Bool×Unit×Int)):Prop:=call G Ω0 ⟨dp,false⟩ 134 [(.l 111 (a0.map bK)),(I a1),(.f 169 [(.p k0 0),(.p k2 0)])] (aq (aq (aq hp k0 [(.p k1 0)]) k1 (bH c1)) k2 [(I c2)])=some (rJ dp hp k0 k1 k2 a0 a1 c0 c1 c2 r)
end
structure gE where
 f_scope_Walk__scope_checker_stmts_1:(List Stmt)→Int→Unit→Checker→Int→Option (Bool×Unit×Int)
structure fW(R:gE):Prop where
 f_scope_Walk__scope_checker_stmts_1:∀ (dp:Nat)(hp:HP)(k0:Key)(d:k0.dp<dp)(k1:Key)(j:k1.dp<dp)(k2:Key)(S:k2.dp<dp)(g:k0≠k1)(z:k0≠k2)(t:k1≠k2)(hz:aT dp hp)(a0:(List Stmt))(a1:Int)(c0:Unit)(c1:Checker)(c2:Int)(r:(Bool×Unit×Int)),R.f_scope_Walk__scope_checker_stmts_1 a0 a1 c0 c1 c2=some r→gD dp hp k0 k1 k2 a0 a1 c0 c1 c2 r
section
variable (R:gE)(a0:(List Stmt))(a1:Int)(c1:Checker)(k:Nat)(hp:HP)(k0:Key)(k1:Key)(k2:Key)(dp:Nat)(c0:Unit)
def ef(v0_k2_0:Int):Option ((Nat×Int)⊕(Int⊕(Nat×Bool×Int))):=
 if (k:Int)<(a0.length:Int) then
  (a0[k]?).bind fun y2=>
  (mV y2 a1 () c1 v0_k2_0).bind fun r4=>
  if r4.1=true then
   if IntKind.i64.wrap (a1+1)=a1+1 then
    (R.f_scope_Walk__scope_checker_stmts_1 y2.Then (a1+1) () c1 r4.2.2).bind fun r8=>
    if r8.1=true then
     (R.f_scope_Walk__scope_checker_stmts_1 y2.Else (a1+1) () c1 r8.2.2).bind fun aA=>
     if aA.1=true then
      if IntKind.i64.wrap ((k:Int)+1)=((k+1:Nat):Int) then
       some (.inl (k+1,aA.2.2))
      else none
     else
      some (.inr (.inl aA.2.2))
    else
     some (.inr (.inl r8.2.2))
   else none
  else
   some (.inr (.inl r4.2.2))
 else
  some (.inr (.inr (k,decide ((k:Int)<(a0.length:Int)),v0_k2_0)))
abbrev qy(a0:(List Stmt))(a1:Int)(c1:Checker)(v:(Nat×Int)):St:=⟨[(1,(I a1)),(2,(.f 169 [(.p k0 0),(.p k2 0)])),(9,(bj a0)),(10,(zI a0.length)),(11,(I (v.1:Int)))],[],aq (aq (aq hp k0 [(.p k1 0)]) k1 (bH c1)) k2 [(I v.2)]⟩
abbrev fD(a0:(List Stmt))(a1:Int)(c1:Checker)(x:(Int⊕(Nat×Bool×Int))):bh×St:=match x with | .inl z1=>(.ret,⟨[(6,(.b false))],[],aq (aq (aq hp k0 [(.p k1 0)]) k1 (bH c1)) k2 [(I z1)]⟩) | .inr (z1,z2,z3)=>((.ex 0),⟨[(1,(I a1)),(2,(.f 169 [(.p k0 0),(.p k2 0)])),(9,(bj a0)),(10,(zI a0.length)),(11,(I (z1:Int))),(12,(.b z2))],[],aq (aq (aq hp k0 [(.p k1 0)]) k1 (bH c1)) k2 [(I z3)]⟩)
theorem pZ(hR:fW R)(dp:Nat)(hp:HP)(k0:Key)(d:k0.dp<dp)(k1:Key)(j:k1.dp<dp)(k2:Key)(S:k2.dp<dp)(g:k0≠k1)(z:k0≠k2)(t:k1≠k2)(hz:aT dp hp)(a0:(List Stmt))(a1:Int)(c1:Checker)(k:Nat)(v0_k2_0:Int)(o:(Nat×Int)⊕(Int⊕(Nat×Bool×Int)))(h:ef R a0 a1 c1 k v0_k2_0=some o):cG ⟨dp,false⟩ G6 (qy hp k0 k1 k2 a0 a1 c1) (fD hp k0 k1 k2 a0 a1 c1) (k,v0_k2_0) o:=
 let E:=aB S;let D:=aB j;let C:=aB d;let B:=Bool×Unit×Int;let A:=aq (aq hp k0 [(.p k1 0)]) k1 (bH c1);cT (.or (bt<|ao (.n k)<|.ex fun (y2:Stmt)=>let F:=(8,(ar y2));ao (.v (.a (ar y2)))<|fh<|.ex fun (r4:B)=>let G:=aq A k2 [(I r4.2.2)];ao (.v (.b r4.1))<|ao (.h (boxes dp [F] G))<|ao (.bx [F])<|ao (.h G)<|.or (tn<|ao (.i (a1+1))<|ee<|.ex fun (r8:B)=>let H:=aq A k2 [(I r8.2.2)];ao (.v (.b r8.1))<|ao (.h (boxes dp [F] H))<|ao (.bx [F])<|ao (.h H)<|nz<|.or (tn<|ao (.i (a1+1))<|ee<|.ex fun (aA:B)=>let J:=aq A k2 [(I aA.2.2)];ao (.v (.b aA.1))<|ao (.h (boxes dp [F] J))<|ao (.bx [F])<|ao (.h J)<|nz<|.or (bf<|ao (.i ((k+1:Nat):Int))<|.nil) (bt<|.nil)) (TV<|.nil)) (TW<|.nil)) (bf<|.nil)) fun L=>da h (fun h1 h=>ai (aE h1)<|ai (rI k)<|bm h fun y2 h3 h=>let K:=(8,(ar y2));ai (nZ bK h3 (mA _))<|ai ((by simp [ar,aM d,aR d,aM j,aR j,aM S,aR S]):(eA dp 8 [(14,(.a (ar y2))),(13,(.e (.a (ar y2)) 0)),(1,(I a1)),(2,(.f 169 [(.p k0 0),(.p k2 0)])),(9,(.l 111 (a0.map bK))),(10,(I (a0.length:Int))),(11,(I (k:Int)))] [])=true)<|ai ff<|ai (rN dp)<|ai tt<|ai (rN dp)<|ai (rN dp)<|ep<|bm h fun r4 ap h=>have ap:=lE d j S g z t (xd (dp+1) (boxes dp [K] (aq A k2 [(I v0_k2_0)])) k0 C k1 D k2 E g z t (aQ (ak S (ak j (ak d hz)))) y2 a1 () c1 v0_k2_0 _ ap);eW ap (ak S (ak j (ak d hz)))<|b9 h (fun h6 h=>let M:=av not h6;cm M<|ai (rN dp)<|cm M<|bc h fun w7 h=>ai w7<|IQ M<|bm h fun r8 bz h=>have bz:=lE d j S g z t (hR.f_scope_Walk__scope_checker_stmts_1 (dp+1) (boxes dp [K] (aq A k2 [(I r4.2.2)])) k0 C k1 D k2 E g z t (aQ (ak S (ak j (ak d hz)))) y2.Then (a1+1) () c1 r4.2.2 _ bz);eW bz (ak S (ak j (ak d hz)))<|wG M<|b9 h (fun aw h=>let N:=av not aw;cm N<|ai (rN dp)<|cm N<|ai w7<|IQ N<|bm h fun aA aF h=>have aF:=lE d j S g z t (hR.f_scope_Walk__scope_checker_stmts_1 (dp+1) (boxes dp [K] (aq A k2 [(I r8.2.2)])) k0 C k1 D k2 E g z t (aQ (ak S (ak j (ak d hz)))) y2.Else (a1+1) () c1 r8.2.2 _ aF);eW aF (ak S (ak j (ak d hz)))<|wG N<|b9 h (fun az h=>ai (av not az)<|bc h fun bG h=>ai bG<|L h) (fun az h=>ai (av not az)<|L h)) (fun aw h=>TR (av not aw)<|L h)) (fun h6 h=>TS (av not h6)<|L h)) (fun h1 h=>ai (aG h1)<|L h)
def er(c0:Unit)(c1:Checker)(c2:Int):Option (Bool×Unit×Int):=
 (lp (fun v=>ef R a0 a1 c1 v.1 v.2) (0,c2)).bind fun x1=>match x1 with
 | .inl T=>
  some (false,(),T)
 | .inr Q=>
  some (true,(),Q.2.2)
theorem pF(hR:fW R)(dp:Nat)(hp:HP)(k0:Key)(d:k0.dp<dp)(k1:Key)(j:k1.dp<dp)(k2:Key)(S:k2.dp<dp)(g:k0≠k1)(z:k0≠k2)(t:k1≠k2)(hz:aT dp hp)(a0:(List Stmt))(a1:Int)(c0:Unit)(c1:Checker)(c2:Int)(r:(Bool×Unit×Int))(h:er R a0 a1 c0 c1 c2=some r):gD dp hp k0 k1 k2 a0 a1 c0 c1 c2 r:=
 a8 Ts (ao (.i (a0.length:Int))<|.or (.ex fun (T:Int)=>ao (.dJ (fD hp k0 k1 k2 a0 a1 c1 (.inl T)))<|.nil) (.ex fun (Q:(Nat×Bool×Int))=>ao (.dJ (fD hp k0 k1 k2 a0 a1 c1 (.inr Q)))<|.nil)) fun L=>ai (bn bK a0)<|iy h (im (fun v=>pZ R hR dp hp k0 d k1 j k2 S g z t hz a0 a1 c1 v.1 v.2) (0,c2)) (fun T h=>L h) (fun Q h=>L h)
def db:Nat→gE
 | 0=>⟨fun z0 z1 z2 z3 z4=>none⟩
 | n+1=>⟨er (db n)⟩
theorem kG:∀ n,fW (db n)
 | 0=>⟨fun _ _ _ _ _ _ _ _ _ _ _ _ _ _ _ _ _ r h=>(by cases h)⟩
 | n+1=>⟨fun dp hp k0 d k1 j k2 S g z t hz a0 a1 c0 c1 c2 r h=>pF _ (kG n) dp hp k0 d k1 j k2 S g z t hz a0 a1 c0 c1 c2 r h⟩
def gG(c1:Checker)(c2:Int):Option (Bool×Unit×Int):=ev fun n=>(db n).f_scope_Walk__scope_checker_stmts_1 a0 a1 c0 c1 c2
theorem p6(hp:HP)(k0:Key)(d:k0.dp<dp)(k1:Key)(j:k1.dp<dp)(k2:Key)(S:k2.dp<dp)(g:k0≠k1)(z:k0≠k2)(t:k1≠k2)(hz:aT dp hp)(a0:(List Stmt))(a1:Int)(c0:Unit)(c1:Checker)(c2:Int)(r:(Bool×Unit×Int))(h:gG a0 a1 c0 c1 c2=some r):gD dp hp k0 k1 k2 a0 a1 c0 c1 c2 r:=by
 obtain ⟨n,hn⟩:=u9 h
 exact (kG n).f_scope_Walk__scope_checker_stmts_1 dp hp k0 d k1 j k2 S g z t hz a0 a1 c0 c1 c2 r hn
end
section
variable (dp:Nat)(hp:HP)(k0:Key)(c0:Checker)(a0:(List Stmt))
abbrev Bj(dp:Nat)(hp:HP)(k0:Key)(c0:Checker)(a0:(List Stmt))(r:Int):bA×HP:=(.ret (I r),aq hp k0 (bH c0))
def iR:Option Int:=
 (gG a0 1 () c0 0).bind fun r1=>
 some r1.2.2
theorem qT(d:k0.dp<dp)(hz:aT dp hp)(c0:Checker)(a0:(List Stmt))(r:Int)(h:iR c0 a0=some r):call G Ω0 ⟨dp,false⟩ 126 [(.p k0 0),(.l 111 (a0.map bK))] (aq hp k0 (bH c0))=some (Bj dp hp k0 c0 a0 r):=
 let B:=aq hp k0 (bH c0);let A:=(2,[(.p k0 0)]);let C:=[A,(5,[(I 0)])];a8 agS (ee<|.ex fun (r1:(Bool×Unit×Int))=>let D:=[A,(5,[(I r1.2.2)])];ao (.v (.b r1.1))<|ao (.h (boxes dp D B))<|ao (.bx D)<|ao (.h B)<|bt<|.nil) fun L=>ai ((by simp [aM d,aR d]):(((.p k0 0):AV).deep dp&&(eA dp 2 [(0,(.p k0 0)),(1,(.l 111 (a0.map bK)))] []))=true)<|ai ((by simp [aM d,aR d]):(eA dp 5 [(1,(.l 111 (a0.map bK))),(2,(.p ⟨dp,2⟩ 0))] [(2,[(.p k0 0)])])=true)<|ai ff<|ai (rN dp)<|ai tt<|ai (rN dp)<|ai ff<|ai ((by simp [aR d]):([(2,[(.p k0 0)]),(5,[(I 0)])]:List (Nat×List AV)).all (fun y=>AV.fJ dp y.2)=true)<|bm h fun r1 aj h=>let E:=[A,(5,[(I r1.2.2)])];have aj:call G Ω0 ⟨dp+1,false⟩ 134 [(bj a0),(I 1),(.f 169 [(.p ⟨dp,2⟩ 0),(.p ⟨dp,5⟩ 0)])] (boxes dp C B)=some (.ret (.b r1.1),boxes dp E B):=dX (iJ (iJ (dt (bx1:=C) (by kernel_rfl) (by kernel_rfl)) (cD (hp1:=aq hp k0 (bH c0)) (au d) (bP ..))) (dt (bx1:=C) (by kernel_rfl) (by kernel_rfl))) (iJ (iJ (dt (bx1:=C) (by kernel_rfl) (by kernel_rfl)) (cD (hp1:=aq hp k0 (bH c0)) (au d) (bP ..))) (dt (bx1:=E) (by kernel_rfl) (by kernel_rfl))) (p6 (dp+1) (boxes dp C B) ⟨dp,2⟩ (gP dp) k0 (aB d) ⟨dp,5⟩ (gP dp) (EY d) (Hr (by decide)) (aM d) (aQ (ak d hz)) a0 1 () c0 0 _ aj);eW aj (ak d hz)<|ai (rN dp)<|L h
end
section
variable (c0:Checker)(a0:Func)(U:Nat)(dp:Nat)(hp:HP)(k0:Key)
def lT:Option (Nat⊕(Unit⊕(Unit⊕(Nat×Bool)))):=
 if (U:Int)<(a0.Params.length:Int) then
  (a0.Params[U]?).bind fun y3=>
  if y3<0 then
   some (.inr (.inl ()))
  else
   if (c0.p.Vars.length:Int)≤y3 then
    some (.inr (.inl ()))
   else
    if U≤a0.Params.length then
     (kW ((a0.Params.take U).drop 0) y3).bind fun r8=>
     if r8=true then
      some (.inr (.inr (.inl ())))
     else
      if IntKind.i64.wrap ((U:Int)+1)=((U+1:Nat):Int) then
       some (.inl (U+1))
      else none
    else none
 else
  some (.inr (.inr (.inr (U,decide ((U:Int)<(a0.Params.length:Int))))))
abbrev Cw(c0:Checker)(a0:Func)(v:Nat):St:=⟨[(0,(.p k0 0)),(3,(.p ⟨dp,3⟩ 0)),(13,(bw a0.Params)),(14,(zI a0.Params.length)),(15,(I (v:Int)))],[(3,(dB a0))],aq hp k0 (bH c0)⟩
abbrev lU(c0:Checker)(a0:Func)(x:(Unit⊕(Unit⊕(Nat×Bool)))):bh×St:=match x with | .inl ()=>(.ret,⟨[(4,(I 5))],[],aq hp k0 (bH c0)⟩) | .inr (.inl ())=>(.ret,⟨[(4,(I 6))],[],aq hp k0 (bH c0)⟩) | .inr (.inr (z1,z2))=>((.ex 0),⟨[(0,(.p k0 0)),(3,(.p ⟨dp,3⟩ 0)),(13,(bw a0.Params)),(14,(zI a0.Params.length)),(15,(I (z1:Int))),(16,(.b z2))],[(3,(dB a0))],aq hp k0 (bH c0)⟩)
theorem Bk(d:k0.dp<dp)(hz:aT dp hp)(c0:Checker)(a0:Func)(U:Nat)(o:Nat⊕(Unit⊕(Unit⊕(Nat×Bool))))(h:lT c0 a0 U=some o):cG ⟨dp,false⟩ QP (Cw dp hp k0 c0 a0) (lU dp hp k0 c0 a0) U o:=
 let A:=(a0.Params.take U).drop 0;cT (.or (bt<|ao (.n U)<|xI fun y3=>.or (bf<|bf<|bf<|bf<|bf<|bf<|bf<|bf<|bt<|bt<|.nil) (TT<|ao (.l (bH c0))<|bt<|ao (.i (c0.p.Vars.length:Int))<|nz<|oN (bt<|ao (.n U)<|ao (.l (A.map I))<|xB fun r8=>oN (ao (.i ((U+1:Nat):Int))<|.nil)))) (bf<|.nil)) fun L=>da h (fun h2 h=>ai (aE h2)<|ai (rI U)<|bm h fun y3 h4 h=>ai (aI I h4)<|da h (fun h5 h=>cm (aE h5)<|cm (aE h5)<|cm (aE h5)<|cm (aE h5)<|rY (aE h5)<|L h) (fun h5 h=>cm (aG h5)<|cm (aG h5)<|cm (aG h5)<|ai (au d)<|ai (a7 hp k0 (bH c0))<|ai (g0 (aG h5))<|ai (bn dA c0.p.Vars)<|wG (aG h5)<|da h (fun h6 h=>ai (aE h6)<|L h) (fun h6 h=>ai (aG h6)<|ai (rN dp)<|ai (rI U)<|ai ((by decide):3≠0)<|ai ((fS I (n:=1) (fun _=>rfl) a0.Params):(a0.Params.map I).all (fun e=>e.nc==1)=true)<|ai (dy _:0≤U)<|bc h fun h7 h=>ai ((by rw [iH];exact h7):U≤(a0.Params.map I).length)<|ai (KG I a0.Params 0 U)<|bI h (yF A y3) fun r8 h=>b9 h (fun aw h=>ai aw<|L h) (fun aw h=>ai aw<|bc h fun bJ h=>ai bJ<|L h)))) (fun h2 h=>ai (aG h2)<|L h)
abbrev D9(dp:Nat)(hp:HP)(k0:Key)(c0:Checker)(a0:Func)(r:Int):bA×HP:=(.ret (I r),aq hp k0 (bH c0))
def nD:Option Int:=
 if 4<(a0.Params.length:Int) then
  some 2
 else
  (lp (fun v=>lT c0 a0 v) 0).bind fun x2=>match x2 with
  | .inl bu=>
   some 5
  | .inr (.inl br)=>
   some 6
  | .inr (.inr bi)=>
   (iR c0 a0.Body).bind fun r5=>
   if (r5 !=0)=true then
    some r5
   else
    (mB a0.Result (c0.p.Vars.length:Int)).bind fun r8=>
    some r8
theorem Bl(d:k0.dp<dp)(hz:aT dp hp)(c0:Checker)(a0:Func)(r:Int)(h:nD c0 a0=some r):call G Ω0 ⟨dp,false⟩ 125 [(.p k0 0),(.a (dB a0))] (aq hp k0 (bH c0))=some (D9 dp hp k0 c0 a0 r):=
 let C:=(c0.p.Vars.length:Int);let B:=(a0.Params.length:Int);let A:=boxes dp [(3,(dB a0))] (aq hp k0 (bH c0));a8 agR (bt<|ao (.i B)<|oN (bt<|ao (.i B)<|.or (.ex fun (bu:Unit)=>ao (.dJ (lU dp hp k0 c0 a0 (.inl bu)))<|.nil) (.or (.ex fun (br:Unit)=>ao (.dJ (lU dp hp k0 c0 a0 (.inr (.inl br))))<|.nil) (.ex fun (bi:(Nat×Bool))=>ao (.dJ (lU dp hp k0 c0 a0 (.inr (.inr bi))))<|bt<|xI fun r5=>ao (.h A)<|ao (.bx [(3,(dB a0))])<|ao (.h (aq hp k0 (bH c0)))<|oN (nz<|ao (.l (bH c0))<|ao (.i C)<|xI fun r8=>.nil))))) fun L=>ai ((by simp [dB,aM d,aR d]):(((.a (dB a0)):AV).deep dp&&(eA dp 3 [(0,(.p k0 0)),(1,(.a (dB a0)))] []))=true)<|ai (rN dp)<|ai (bn I a0.Params)<|da h (fun h1 h=>ai (aE h1)<|L h) (fun h1 h=>ai (aG h1)<|ai (rN dp)<|ai (bn I a0.Params)<|Vk h (im (Bk dp hp k0 d hz c0 a0) 0) (fun bu h=>L h) (fun br h=>L h) (fun bi h=>ai (rN dp)<|ep<|bm h fun r5 bZ h=>have bZ:=cO d (qT (dp+1) A k0 (aB d) (aQ (ak d hz)) c0 a0.Body _ bZ);eW bZ (ak d hz)<|b9 h (fun h7 h=>ai h7<|L h) (fun h7 h=>IS h7<|ai (rN dp)<|tO<|ai (au d)<|ai (a7 hp k0 (bH c0))<|ai tt<|ai (bn dA c0.p.Vars)<|ai tt<|bI h (tR a0.Result C) fun r8 h=>L h)))
end
section
variable (a0:Program)(aa:Nat)(ax:Nat)
def nE:Option ((Nat×Nat)⊕(Int⊕(Nat×Bool×Nat))):=
 if (aa:Int)<(a0.Funcs.length:Int) then
  (a0.Funcs[aa]?).bind fun y8=>
  (nD (⟨a0,(aa:Int)⟩:Checker) y8).bind fun ah=>
  if (ah !=0)=true then
   some (.inr (.inl ah))
  else
   if IntKind.i64.wrap ((aa:Int)+1)=((aa+1:Nat):Int) then
    some (.inl (aa+1,aa))
   else none
 else
  some (.inr (.inr (aa,decide ((aa:Int)<(a0.Funcs.length:Int)),ax)))
abbrev HL(v:(Nat×Nat)):St:=⟨[zP 1,(4,(zQ 18)),(20,(bQ a0.Funcs)),(21,(zI a0.Funcs.length)),(22,(I (v.1:Int)))],[(1,(aD a0)),(18,[(I a0.an.Many),(aX a0.an.Grants),(bw a0.Speak),(aJ a0.Ins),(aJ a0.Outs),(ct a0.Vars),(bQ a0.Funcs),(bj a0.Main),(I (v.2:Int))])],H0⟩
abbrev tX(x:(Int⊕(Nat×Bool×Nat))):bh×St:=match x with | .inl z1=>(.ret,⟨[(2,(I z1))],[],H0⟩) | .inr (z1,z2,z3)=>((.ex 0),⟨[zP 1,(4,(zQ 18)),(20,(bQ a0.Funcs)),(21,(zI a0.Funcs.length)),(22,(I (z1:Int))),(23,(.b z2))],[(1,(aD a0)),(18,[(I a0.an.Many),(aX a0.an.Grants),(bw a0.Speak),(aJ a0.Ins),(aJ a0.Outs),(ct a0.Vars),(bQ a0.Funcs),(bj a0.Main),(I (z3:Int))])],H0⟩)
theorem Gk(o:(Nat×Nat)⊕(Int⊕(Nat×Bool×Nat)))(h:nE a0 aa ax=some o):cG E0 U5 (HL a0) (tX a0) (aa,ax) o:=
 let B:=(1,(aD a0));let A:=(18,[(I a0.an.Many),(aX a0.an.Grants),(bw a0.Speak),(aJ a0.Ins),(aJ a0.Outs),(ct a0.Vars),(bQ a0.Funcs),(bj a0.Main),(zI aa)]);cT (.or (bt<|ao (.n aa)<|.ex fun (y8:Func)=>ao (.v (.a (dB y8)))<|tn<|xI fun ah=>ao (.h (boxes 0 [B,(6,(dB y8)),A] H0))<|ao (.bx [B,(6,(dB y8)),A])<|ao (.h H0)<|oN (ao (.i ((aa+1:Nat):Int))<|.nil)) (bf<|.nil)) fun L=>da h (fun h7 h=>ai (aE h7)<|ai (rI aa)<|bm h fun y8 h9 h=>let C:=[B,(6,(dB y8)),A];ai (aI cQ h9)<|ai tt<|oq<|oq<|ai (rfl:Z0)<|ep<|bm h fun ah aL h=>have aL:call G Ω0 ⟨0+1,false⟩ 125 [(zQ 18),(.a (dB y8))] (boxes 0 C H0)=some (.ret (I ah),boxes 0 C H0):=dX (dt (bx1:=C) (by kernel_rfl) (by kernel_rfl)) (dt (bx1:=C) (by kernel_rfl) (by kernel_rfl)) (Bl (0+1) (boxes 0 C H0) ⟨0,18⟩ (gP 0) (aQ (fq 0)) (⟨a0,(aa:Int)⟩:Checker) y8 _ aL);eW aL (fq 0)<|b9 h (fun a4 h=>ai a4<|L h) (fun a4 h=>ai a4<|bc h fun bY h=>ai bY<|L h)) (fun h7 h=>ai (aG h7)<|L h)
abbrev KM(a0:Program)(r:Int):bA×HP:=(.ret (I r),H0)
def pG:Option Int:=
 (tW a0).bind fun r1=>
 if (r1 !=0)=true then
  some r1
 else
  (vS a0).bind fun r4=>
  if r4=true then
   (lp (fun v=>nE a0 v.1 v.2) (0,0)).bind fun x7=>match x7 with
   | .inl a6=>
    some a6
   | .inr bp=>
    (iR (⟨a0,(a0.Funcs.length:Int)⟩:Checker) a0.Main).bind fun ah=>
    some ah
  else
   some 2
theorem yG(r:Int)(h:pG a0=some r):call G Ω0 E0 79 [(.a (aD a0))] H0=some (KM a0 r):=
 let C:=(a0.Funcs.length:Int);let B:=(1,(aD a0));let A:=(18,[(I a0.an.Many),(aX a0.an.Grants),(bw a0.Speak),(aJ a0.Ins),(aJ a0.Outs),(ct a0.Vars),(bQ a0.Funcs),(bj a0.Main),(zI a0.Funcs.length)]);let D:=boxes 0 [B,A] H0;a8 G79 (bt<|xI fun r1=>oN (bt<|xB fun r4=>.or (bf<|bt<|bt<|ao (.i C)<|.or (.ex fun (a6:Int)=>ao (.dJ (tX a0 (.inl a6)))<|.nil) (.ex fun (bp:(Nat×Bool×Nat))=>ao (.dJ (tX a0 (.inr bp)))<|bt<|ao (.i C)<|fh<|xI fun ah=>ao (.h D)<|ao (.bx [B,A])<|ao (.h H0)<|.nil)) (bt<|.nil))) fun L=>xn<|bI h (HK a0) fun r1 h=>b9 h (fun h3 h=>ai h3<|L h) (fun h3 h=>qO h3<|bI h (I9 a0) fun r4 h=>b9 h (fun h6 h=>ai (av not h6)<|ph<|ai (rfl:Z0)<|ai (bn cQ a0.Funcs)<|iy h (im (fun v=>Gk a0 v.1 v.2) (0,0)) (fun a6 h=>L h) (fun bp h=>ai (rfl:Z0)<|ai (bn cQ a0.Funcs)<|oq<|ai (rfl:Z0)<|ep<|bm h fun ah aL h=>have aL:call G Ω0 ⟨0+1,false⟩ 126 [(zQ 18),(bj a0.Main)] D=some (.ret (I ah),boxes 0 [B,A] H0):=dX (dt (bx1:=[B,A]) (by kernel_rfl) (by kernel_rfl)) (dt (bx1:=[B,A]) (by kernel_rfl) (by kernel_rfl)) (qT (0+1) D ⟨0,18⟩ (gP 0) (aQ (fq 0)) (⟨a0,C⟩:Checker) a0.Main _ aL);eW aL (fq 0)<|L h)) (fun h6 h=>ai (av not h6)<|L h))
end
section
variable (a0:(List Bool))(a1:(List Bool))(q:(List Bool))(m:Nat)
def m7:Option (((List Bool)×Nat)⊕((List Bool)×Nat×Bool)):=
 if (m:Int)<(a0.length:Int) then
  (a0[m]?).bind fun y2=>
  if y2=true then
   (a1[m]?).bind fun y5=>
   if q.length + [y5].length≤1000000000 then
    if IntKind.i64.wrap ((m:Int)+1)=((m+1:Nat):Int) then
     some (.inl (q++[y5],m+1))
    else none
   else none
  else
   if q.length + [false].length≤1000000000 then
    if IntKind.i64.wrap ((m:Int)+1)=((m+1:Nat):Int) then
     some (.inl (q++[false],m+1))
    else none
   else none
 else
  some (.inr (q,m,decide ((m:Int)<(a0.length:Int))))
abbrev KN(v:((List Bool)×Nat)):St:=⟨[(1,(aC a1)),(5,(ig v.1)),(8,(aC a0)),(9,(zI a0.length)),(10,(I (v.2:Int)))],[],H0⟩
abbrev C0(x:((List Bool)×Nat×Bool)):bh×St:=((.ex 0),⟨[(1,(aC a1)),(5,(ig x.1)),(8,(aC a0)),(9,(zI a0.length)),(10,(I (x.2.1:Int))),(11,(.b x.2.2))],[],H0⟩)
theorem Ja(o:((List Bool)×Nat)⊕((List Bool)×Nat×Bool))(h:m7 a0 a1 q m=some o):cG E0 Q7 (KN a0 a1) (C0 a0 a1) (q,m) o:=
 let C:=((m+1:Nat):Int);let B:=q.map AV.b;let A:=[false].map AV.b;cT (.or (bt<|ao (.n m)<|xB fun y2=>.or (fh<|ao (.n m)<|xB fun y5=>ee<|ao (.l ([y5].map AV.b))<|ao (.l ((q++[y5]).map AV.b))<|ao (.i C)<|.nil) (bf<|bf<|bf<|bf<|bf<|ao (.l A)<|ao (.l ((q++[false]).map AV.b))<|ao (.i C)<|.nil)) (bf<|.nil)) fun L=>da h (fun h1 h=>ai (aE h1)<|ai (rI m)<|bm h fun y2 h3 h=>ai (aI AV.b h3)<|b9 h (fun h4 h=>R4 h4<|ai (rI m)<|bm h fun y5 h6 h=>let D:=[y5].map AV.b;ai (aI AV.b h6)<|rX h4<|ai (rfl:[(.b y5)]=[y5].map AV.b)<|ai ff<|bc h fun h7 h=>ai ((fS AV.b (n:=1) (fun _=>rfl) [y5]):D.all (fun e=>e.nc==1)=true)<|ai ((jO h7 (by decide)):(B.length+D.length)*1≤140737488355328)<|ai ((jP h7):B.length+D.length≤maxLen)<|ai (dI.symm:q.map AV.b++[y5].map AV.b=(q++[y5]).map AV.b)<|bc h fun w8 h=>ai w8<|L h) (fun h4 h=>dE h4<|dE h4<|ai h4<|ai (rfl:[(.b false)]=[false].map AV.b)<|ai ff<|bc h fun h5 h=>ai ((fS AV.b (n:=1) (fun _=>rfl) [false]):A.all (fun e=>e.nc==1)=true)<|ai ((jO h5 (by decide)):(B.length+A.length)*1≤140737488355328)<|ai ((jP h5):B.length+A.length≤maxLen)<|ai (dI.symm:q.map AV.b++[false].map AV.b=(q++[false]).map AV.b)<|bc h fun w6 h=>ai w6<|L h)) (fun h1 h=>ai (aG h1)<|L h)
abbrev NV(a0:(List Bool))(a1:(List Bool))(r:(List Bool)):bA×HP:=(.ret (.l 4 (r.map AV.b)),H0)
def vT:Option (List Bool):=
 (lp (fun v=>m7 a0 a1 v.1 v.2) (([]:List Bool),0)).bind fun x1=>
 some x1.1
theorem Jb(r:(List Bool))(h:vT a0 a1=some r):call G Ω0 E0 155 [(.l 4 (a0.map AV.b)),(.l 4 (a1.map AV.b))] H0=some (NV a0 a1 r):=
 a8 ag9 (ao (.i (a0.length:Int))<|.ex fun (x1:((List Bool)×Nat×Bool))=>ao (.dJ (C0 a0 a1 x1))<|.nil) fun L=>ai (bn AV.b a0)<|bI h (im (fun v=>Ja a0 a1 v.1 v.2) (([]:List Bool),0)) fun x1 h=>L h
def oz:Option (((List Bool)×Nat)⊕((List Bool)×Nat×Bool)):=
 if (m:Int)<(a0.length:Int) then
  (a0[m]?).bind fun y2=>
  if y2=true then
   if q.length + [true].length≤1000000000 then
    if IntKind.i64.wrap ((m:Int)+1)=((m+1:Nat):Int) then
     some (.inl (q++[true],m+1))
    else none
   else none
  else
   (a1[m]?).bind fun y5=>
   if q.length + [y5].length≤1000000000 then
    if IntKind.i64.wrap ((m:Int)+1)=((m+1:Nat):Int) then
     some (.inl (q++[y5],m+1))
    else none
   else none
 else
  some (.inr (q,m,decide ((m:Int)<(a0.length:Int))))
abbrev Mu(v:((List Bool)×Nat)):St:=⟨[(1,(aC a1)),(5,(ig v.1)),(8,(aC a0)),(9,(zI a0.length)),(10,(I (v.2:Int)))],[],H0⟩
abbrev Ea(x:((List Bool)×Nat×Bool)):bh×St:=((.ex 0),⟨[(1,(aC a1)),(5,(ig x.1)),(8,(aC a0)),(9,(zI a0.length)),(10,(I (x.2.1:Int))),(11,(.b x.2.2))],[],H0⟩)
theorem KO(o:((List Bool)×Nat)⊕((List Bool)×Nat×Bool))(h:oz a0 a1 q m=some o):cG E0 Q8 (Mu a0 a1) (Ea a0 a1) (q,m) o:=
 let C:=((m+1:Nat):Int);let B:=q.map AV.b;let A:=[true].map AV.b;cT (.or (bt<|ao (.n m)<|xB fun y2=>.or (bv9<|ao (.l A)<|ao (.l ((q++[true]).map AV.b))<|ao (.i C)<|.nil) (fh<|ao (.n m)<|xB fun y5=>nz<|ao (.l ([y5].map AV.b))<|ao (.l ((q++[y5]).map AV.b))<|ao (.i C)<|.nil)) (bf<|.nil)) fun L=>da h (fun h1 h=>ai (aE h1)<|ai (rI m)<|bm h fun y2 h3 h=>ai (aI AV.b h3)<|b9 h (fun h4 h=>ev3 h4<|ai (rfl:[(.b true)]=[true].map AV.b)<|ai ff<|bc h fun h5 h=>ai ((fS AV.b (n:=1) (fun _=>rfl) [true]):A.all (fun e=>e.nc==1)=true)<|ai ((jO h5 (by decide)):(B.length+A.length)*1≤140737488355328)<|ai ((jP h5):B.length+A.length≤maxLen)<|ai (dI.symm:q.map AV.b++[true].map AV.b=(q++[true]).map AV.b)<|bc h fun w6 h=>ai w6<|L h) (fun h4 h=>cm h4<|ai (g0 h4)<|ai (rI m)<|bm h fun y5 h6 h=>let D:=[y5].map AV.b;ai (aI AV.b h6)<|wG h4<|ai (rfl:[(.b y5)]=[y5].map AV.b)<|ai ff<|bc h fun h7 h=>ai ((fS AV.b (n:=1) (fun _=>rfl) [y5]):D.all (fun e=>e.nc==1)=true)<|ai ((jO h7 (by decide)):(B.length+D.length)*1≤140737488355328)<|ai ((jP h7):B.length+D.length≤maxLen)<|ai (dI.symm:q.map AV.b++[y5].map AV.b=(q++[y5]).map AV.b)<|bc h fun w8 h=>ai w8<|L h)) (fun h1 h=>ai (aG h1)<|L h)
abbrev Qa(a0:(List Bool))(a1:(List Bool))(r:(List Bool)):bA×HP:=(.ret (.l 4 (r.map AV.b)),H0)
def xO:Option (List Bool):=
 (lp (fun v=>oz a0 a1 v.1 v.2) (([]:List Bool),0)).bind fun x1=>
 some x1.1
theorem KP(r:(List Bool))(h:xO a0 a1=some r):call G Ω0 E0 156 [(.l 4 (a0.map AV.b)),(.l 4 (a1.map AV.b))] H0=some (Qa a0 a1 r):=
 a8 aha (ao (.i (a0.length:Int))<|.ex fun (x1:((List Bool)×Nat×Bool))=>ao (.dJ (Ea a0 a1 x1))<|.nil) fun L=>ai (bn AV.b a0)<|bI h (im (fun v=>KO a0 a1 v.1 v.2) (([]:List Bool),0)) fun x1 h=>L h
end
section
variable (a0:Level)(a1:Level)
abbrev Mv(a0:Level)(a1:Level)(r:Level):bA×HP:=(.ret (.a [(.l 4 (r.Readers.map AV.b)),(.l 4 (r.Writers.map AV.b))]),H0)
def dL:Option Level:=
 (vT a0.Readers a1.Readers).bind fun r1=>
 (xO a0.Writers a1.Writers).bind fun r3=>
 some (⟨r1,r3⟩:Level)
theorem ie(r:Level)(h:dL a0 a1=some r):call G Ω0 E0 115 [(.a [(.l 4 (a0.Readers.map AV.b)),(.l 4 (a0.Writers.map AV.b))]),(.a [(.l 4 (a1.Readers.map AV.b)),(.l 4 (a1.Writers.map AV.b))])] H0=some (Mv a0 a1 r):=
 a8 agO (ee<|.ex fun (r1:(List Bool))=>ao (.v (aC r1))<|ee<|.ex fun (r3:(List Bool))=>ao (.v (aC r3))<|ee<|.nil) fun L=>bE<|bE<|ai tt<|ai (rfl:Z0)<|bE<|ph<|bI h (Jb a0.Readers a1.Readers) fun r1 h=>bE<|ai (rfl:Z0)<|bE<|ph<|bI h (KP a0.Writers a1.Writers) fun r3 h=>oq<|ai (rfl:Z0)<|L h
end
section
variable (a0:an)
abbrev Jc(a0:an)(r:Level):bA×HP:=(.ret (.a [(.l 4 (r.Readers.map AV.b)),(.l 4 (r.Writers.map AV.b))]),H0)
def fk:Option Level:=
 (P2 true a0.Many).bind fun r1=>
 (cV a0.Many).bind fun j3=>
 if j3≤1000000000 then
  some (⟨r1,List.replicate j3 false⟩:Level)
 else none
theorem jy(r:Level)(h:fk a0=some r):call G Ω0 E0 66 [(.a [(I a0.Many),(.l 79 (a0.Grants.map bW))])] H0=some (Jc a0 r):=
 a8 G66 (ao (.l ([true].map AV.b))<|bt<|.ex fun (r1:(List Bool))=>ao (.v (aC r1))<|bt<|xN fun j3=>ao (.l ((List.replicate j3 false).map AV.b))<|ee<|.nil) fun L=>n4<|ai (rfl:[(.b true)]=[true].map AV.b)<|bE<|ph<|bm h fun r1 aj h=>have aj:Ω0 112 [(aC [true]),(I a0.Many)]=some (aC r1):=VZ aj;ai aj<|bE<|ph<|ez h fun j3 h4 h=>ai h4<|bc h fun h5 h=>ai ((EW h5 (by decide)):j3*1≤140737488355328)<|ai ((EX h5):j3≤maxLen)<|ai ((uR ..).symm:List.replicate j3 (.b false)=(List.replicate j3 false).map AV.b)<|OU<|L h
end
section
variable (a0:(List Bool))(a1:(List Bool))(ac:Nat)
def m8:Option (Nat⊕(Unit⊕(Nat×Bool))):=
 if (ac:Int)<(a0.length:Int) then
  (a0[ac]?).bind fun y2=>
  if y2=true then
   (a1[ac]?).bind fun y5=>
   if y5=true then
    if IntKind.i64.wrap ((ac:Int)+1)=((ac+1:Nat):Int) then
     some (.inl (ac+1))
    else none
   else
    some (.inr (.inl ()))
  else
   if IntKind.i64.wrap ((ac:Int)+1)=((ac+1:Nat):Int) then
    some (.inl (ac+1))
   else none
 else
  some (.inr (.inr (ac,decide ((ac:Int)<(a0.length:Int)))))
abbrev KQ(v:Nat):St:=⟨[(1,(aC a1)),(7,(aC a0)),(8,(zI a0.length)),(9,(I (v:Int)))],[],H0⟩
abbrev xe(x:(Unit⊕(Nat×Bool))):bh×St:=match x with | .inl ()=>(.ret,⟨[(4,(.b false))],[],H0⟩) | .inr (z1,z2)=>((.ex 0),⟨[(1,(aC a1)),(7,(aC a0)),(8,(zI a0.length)),(9,(I (z1:Int))),(10,(.b z2))],[],H0⟩)
theorem Jd(o:Nat⊕(Unit⊕(Nat×Bool)))(h:m8 a0 a1 ac=some o):cG E0 Rv (KQ a0 a1) (xe a0 a1) ac o:=
 cT (.or (bt<|ao (.n ac)<|xB fun y2=>.or (fh<|ao (.n ac)<|xB fun y5=>fh<|.or (bf<|ao (.i ((ac+1:Nat):Int))<|.nil) (bt<|.nil)) (bf<|bf<|bf<|bf<|bf<|bf<|bf<|ao (.i ((ac+1:Nat):Int))<|.nil)) (bf<|.nil)) fun L=>da h (fun h1 h=>ai (aE h1)<|ai (rI ac)<|bm h fun y2 h3 h=>ai (aI AV.b h3)<|b9 h (fun h4 h=>R4 h4<|ai (rI ac)<|bm h fun y5 h6 h=>ai (aI AV.b h6)<|tm h4<|b9 h (fun h7 h=>ai (av not h7)<|bc h fun w8 h=>ai w8<|L h) (fun h7 h=>ai (av not h7)<|L h)) (fun h4 h=>dE h4<|dE h4<|rX h4<|ai ff<|bc h fun w5 h=>ai w5<|L h)) (fun h1 h=>ai (aG h1)<|L h)
abbrev NX(a0:(List Bool))(a1:(List Bool))(r:Bool):bA×HP:=(.ret (.b r),H0)
def sj:Option Bool:=
 (lp (fun v=>m8 a0 a1 v) 0).bind fun x1=>match x1 with
 | .inl T=>
  some false
 | .inr Q=>
  some true
theorem Bm(r:Bool)(h:sj a0 a1=some r):call G Ω0 E0 215 [(.l 4 (a0.map AV.b)),(.l 4 (a1.map AV.b))] H0=some (NX a0 a1 r):=
 a8 ahP (ao (.i (a0.length:Int))<|.or (.ex fun (T:Unit)=>ao (.dJ (xe a0 a1 (.inl T)))<|.nil) (.ex fun (Q:(Nat×Bool))=>ao (.dJ (xe a0 a1 (.inr Q)))<|.nil)) fun L=>ai (bn AV.b a0)<|iy h (im (Jd a0 a1) 0) (fun T h=>L h) (fun Q h=>L h)
end
section
variable (a0:Level)(a1:Level)
abbrev KR(a0:Level)(a1:Level)(r:Bool):bA×HP:=(.ret (.b r),H0)
def gd:Option Bool:=
 (sj a1.Readers a0.Readers).bind fun r1=>
 if r1=true then
  (sj a0.Writers a1.Writers).bind fun r4=>
  some r4
 else
  some false
theorem mD(r:Bool)(h:gd a0 a1=some r):call G Ω0 E0 174 [(.a [(.l 4 (a0.Readers.map AV.b)),(.l 4 (a0.Writers.map AV.b))]),(.a [(.l 4 (a1.Readers.map AV.b)),(.l 4 (a1.Writers.map AV.b))])] H0=some (KR a0 a1 r):=
 a8 ahn (ee<|xB fun r1=>.or (bt<|bt<|bt<|bt<|bt<|bt<|bt<|xB fun r4=>bt<|.nil) (TX<|.nil)) fun L=>bE<|kg<|bI h (Bm a1.Readers a0.Readers) fun r1 h=>b9 h (fun h3 h=>dE h3<|ai (rfl:Z0)<|dE h3<|ai (rfl:Z0)<|ai (g1 h3)<|bI h (Bm a0.Writers a1.Writers) fun r4 h=>ai h3<|L h) (fun h3 h=>dE h3<|dE h3<|rX h3<|L h)
end
section
variable (a0:an)(y9:Int)(am:(List Int))(Z:Nat)(V:(List (List Bool)))(P:Nat)(ag:(List Bool))(X:(List Int))
def ml:Option (((List Int)×Nat)⊕((List Int)×Nat×Bool)):=
 if (Z:Int)<(a0.Grants.length:Int) then
  (a0.Grants[Z]?).bind fun aW=>
  if (aW.Who==y9)=true then
   if am.length + [aW.For].length≤1000000000 then
    if IntKind.i64.wrap ((Z:Int)+1)=((Z+1:Nat):Int) then
     some (.inl (am++[aW.For],Z+1))
    else none
   else none
  else
   if IntKind.i64.wrap ((Z:Int)+1)=((Z+1:Nat):Int) then
    some (.inl (am,Z+1))
   else none
 else
  some (.inr (am,Z,decide ((Z:Int)<(a0.Grants.length:Int))))
abbrev Je(y9:Int)(j12:Nat)(v:((List Int)×Nat)):St:=⟨[zP 1,(3,(.o 32 (V.map (bO 4 AV.b)))),(5,(ig (ag.set j12 true))),(6,(cR v.1)),(7,(I y9)),(11,(I a0.Many)),(12,(zI P)),(29,.u),(42,(aX a0.Grants)),(43,(zI a0.Grants.length)),(44,(I (v.2:Int)))],[(1,[(I a0.Many),(aX a0.Grants)])],H0⟩
abbrev Bn(y9:Int)(j12:Nat)(x:((List Int)×Nat×Bool)):bh×St:=((.ex 4),⟨[zP 1,(3,(.o 32 (V.map (bO 4 AV.b)))),(5,(ig (ag.set j12 true))),(6,(cR x.1)),(7,(I y9)),(11,(I a0.Many)),(12,(zI P)),(29,.u),(42,(aX a0.Grants)),(43,(zI a0.Grants.length)),(44,(I (x.2.1:Int))),(45,(.b x.2.2))],[(1,[(I a0.Many),(aX a0.Grants)])],H0⟩)
theorem HM(y9:Int)(j12:Nat)(am:(List Int))(Z:Nat)(o:((List Int)×Nat)⊕((List Int)×Nat×Bool))(h:ml a0 y9 am Z=some o):cG E0 QJ (Je a0 V P ag y9 j12) (Bn a0 V P ag y9 j12) (am,Z) o:=
 let A:=((Z+1:Nat):Int);cT (.or (bt<|ao (.n Z)<|.ex fun (aW:dv)=>ao (.v (.a [(I aW.Who),(I aW.For)]))<|fh<|.or (ee<|ao (.l ([aW.For].map I))<|ao (.l ((am++[aW.For]).map I))<|ao (.i A)<|.nil) (bf<|ao (.i A)<|.nil)) (bf<|.nil)) fun L=>da h (fun be h=>ai (aE be)<|ai (rI Z)<|bm h fun aW b6 h=>let B:=[aW.For];ai (aI bW b6)<|OU<|b9 h (fun aY h=>qO aY<|ai (rfl:[(I aW.For)]=B.map I)<|ai ff<|bc h fun b0 h=>ai ((fS I (n:=1) (fun _=>rfl) B):(B.map I).all (fun e=>e.nc==1)=true)<|ai ((jO b0 (by decide)):((am.map I).length+(B.map I).length)*8≤140737488355328)<|ai ((jP b0):(am.map I).length+(B.map I).length≤maxLen)<|ai (dI.symm:am.map (I)++B.map (I)=(am++B).map I)<|bc h fun b2 h=>ai b2<|L h) (fun aY h=>ai aY<|bc h fun bX h=>ai bX<|L h)) (fun be h=>ai (aG be)<|L h)
def kl(ag:(List Bool)):Option (((List Int)×(List Bool))⊕((List Bool)×(List Int)×Bool)):=
 if 0<(X.length:Int) then
  if IntKind.i64.wrap ((X.length:Int) - 1)=(X.length:Int) - 1 then
   (cV ((X.length:Int) - 1)).bind fun j7=>
   (X[j7]?).bind fun y9=>
   if j7≤X.length then
    (cV y9).bind fun j12=>
    (ag[j12]?).bind fun a5=>
    if a5=true then
     some (.inl (X.take j7,ag))
    else
     (lp (fun v=>ml a0 y9 v.1 v.2) ((X.take j7),0)).bind fun ba=>
     some (.inl (ba.1,ag.set j12 true))
   else none
  else none
 else
  some (.inr (ag,X,decide (0<(X.length:Int))))
abbrev Jf(v:((List Int)×(List Bool))):St:=⟨[zP 1,(3,(.o 32 (V.map (bO 4 AV.b)))),(5,(ig v.2)),(6,(cR v.1)),(11,(I a0.Many)),(12,(zI P)),(29,.u)],[(1,[(I a0.Many),(aX a0.Grants)])],H0⟩
abbrev Bo(x:((List Bool)×(List Int)×Bool)):bh×St:=((.ex 2),⟨[zP 1,(3,(.o 32 (V.map (bO 4 AV.b)))),(5,(ig x.1)),(6,(cR x.2.1)),(11,(I a0.Many)),(12,(zI P)),(22,(.b x.2.2)),(29,.u)],[(1,[(I a0.Many),(aX a0.Grants)])],H0⟩)
theorem HN(ag:(List Bool))(o:((List Int)×(List Bool))⊕((List Bool)×(List Int)×Bool))(h:kl a0 X ag=some o):cG E0 QK (Jf a0 V P) (Bo a0 V P) (X,ag) o:=
 let B:=bn I X;let A:=(X.length:Int);cT (ao (.i A)<|.or (bt<|ao (.i A)<|ao (.i (A - 1))<|xN fun j7=>xI fun y9=>ao (.v (I y9))<|ao (.i A)<|ao (.i (A - 1))<|ao (.n j7)<|ao (.n j7)<|bt<|ao (.l ((X.take j7).map I))<|xN fun j12=>xB fun a5=>ao (.v (.b a5))<|oN (ao (.n j12)<|ao (.v (.b a5))<|ao (.v (.b a5))<|ao (.l ((ag.set j12 true).map AV.b))<|bt<|ao (.i (a0.Grants.length:Int))<|.ex fun (ba:((List Int)×Nat×Bool))=>ao (.dJ (Bn a0 V P ag y9 j12 ba))<|.nil)) (bf<|.nil)) fun L=>ai B<|da h (fun h5 h=>ai (aE h5)<|ai B<|bc h fun w6 h=>ai w6<|ez h fun j7 h8 h=>ai h8<|bm h fun y9 aw h=>ai (aI I aw)<|ai (aI I aw)<|ai B<|ai w6<|ai h8<|ai (dy _:0≤j7)<|bc h fun bD h=>ai ((by rw [iH];exact bD):j7≤(X.map I).length)<|ai ((by simp):j7 - 0=j7)<|ai (rfl:((.s 6):Pl)=(.s 6))<|ai ((by rw [iH];exact bD):j7≤(X.map I).length)<|ai (map_take I X j7)<|ez h fun j12 az h=>ai az<|bm h fun a5 a3 h=>let C:=aI AV.b a3;ai C<|ai C<|b9 h (fun bv h=>ai bv<|L h) (fun bv h=>ai bv<|ai az<|ai C<|ai ff<|ai C<|ai (map_set .. : (ag.map AV.b).set j12 (.b true)=(ag.set j12 true).map AV.b)<|ai (rfl:Z0)<|ai (bn bW a0.Grants)<|bI h (im (fun v=>HM a0 V P ag y9 j12 v.1 v.2) ((X.take j7),0)) fun ba h=>L h)) (fun h5 h=>ai (aG h5)<|L h)
def oA:Option (((List (List Bool))×Nat)⊕((List (List Bool))×Nat×Bool)):=
 if (P:Int)<a0.Many then
  (cV a0.Many).bind fun j2=>
  if j2≤1000000000 then
   (lp (fun v=>kl a0 v.1 v.2) (([(P:Int)]),(List.replicate j2 false))).bind fun x5=>
   if V.length + [x5.1].length≤1000000000 then
    if IntKind.i64.wrap ((P:Int)+1)=((P+1:Nat):Int) then
     some (.inl (V++[x5.1],P+1))
    else none
   else none
  else none
 else
  some (.inr (V,P,decide ((P:Int)<a0.Many)))
abbrev Jg(v:((List (List Bool))×Nat)):St:=⟨[zP 1,(3,(.o 32 (v.1.map (bO 4 AV.b)))),(11,(I a0.Many)),(12,(I (v.2:Int)))],[(1,[(I a0.Many),(aX a0.Grants)])],H0⟩
abbrev Bp(x:((List (List Bool))×Nat×Bool)):bh×St:=((.ex 0),⟨[zP 1,(3,(.o 32 (x.1.map (bO 4 AV.b)))),(11,(I a0.Many)),(12,(I (x.2.1:Int))),(13,(.b x.2.2))],[(1,[(I a0.Many),(aX a0.Grants)])],H0⟩)
theorem HO(o:((List (List Bool))×Nat)⊕((List (List Bool))×Nat×Bool))(h:oA a0 V P=some o):cG E0 QL (Jg a0) (Bp a0) (V,P) o:=
 let A:=bO 4 AV.b;cT (.or (ee<|xN fun j2=>ao (.l ((List.replicate j2 false).map AV.b))<|ao (.l (([(P:Int)]).map I))<|.ex fun (x5:((List Bool)×(List Int)×Bool))=>ao (.dJ (Bo a0 V P x5))<|ao (.l ([x5.1].map A))<|ao (.l ((V++[x5.1]).map A))<|ao (.i ((P+1:Nat):Int))<|.nil) (bf<|.nil)) fun L=>da h (fun h1 h=>qO (aE h1)<|ez h fun j2 h3 h=>let B:=List.replicate j2 false;ai h3<|bc h fun h4 h=>ai ((EW h4 (by decide)):j2*1≤140737488355328)<|ai ((EX h4):j2≤maxLen)<|ai ((uR ..).symm:List.replicate j2 (.b false)=B.map AV.b)<|ai (rfl:[(zI P)]=([(P:Int)]).map I)<|bI h (im (fun v=>HN a0 V P v.1 v.2) (([(P:Int)]),B)) fun x5 h=>let C:=[x5.1].map A;ai (rfl:[(aC x5.1)]=[x5.1].map A)<|ai ff<|bc h fun h7 h=>ai ((fS A (n:=1) (fun _=>rfl) [x5.1]):C.all (fun e=>e.nc==1)=true)<|ai ((jO h7 (by decide)):((V.map A).length+C.length)*24≤140737488355328)<|ai ((jP h7):(V.map A).length+C.length≤maxLen)<|ai (dI.symm:V.map A++[x5.1].map A=(V++[x5.1]).map A)<|bc h fun w8 h=>ai w8<|L h) (fun h1 h=>ai (aG h1)<|L h)
abbrev Mw(a0:an)(r:(List (List Bool))):bA×HP:=(.ret (.l 32 (r.map (bO 4 AV.b))),H0)
def qU:Option (List (List Bool)):=
 (lp (fun v=>oA a0 v.1 v.2) (([]:List (List Bool)),0)).bind fun x1=>
 some x1.1
theorem Ad(r:(List (List Bool)))(h:qU a0=some r):call G Ω0 E0 113 [(.a [(I a0.Many),(.l 79 (a0.Grants.map bW))])] H0=some (Mw a0 r):=
 a8 agM (bt<|.ex fun (x1:((List (List Bool))×Nat×Bool))=>ao (.dJ (Bp a0 x1))<|.nil) fun L=>xn<|bI h (im (fun v=>HO a0 v.1 v.2) (([]:List (List Bool)),0)) fun x1 h=>L h
end
section
variable (a0:Int)(a1:(List (List Bool)))(a2:Int)
abbrev Gl(a0:Int)(a1:(List (List Bool)))(a2:Int)(r:Bool):bA×HP:=(.ret (.b r),H0)
def mE:Option Bool:=
 (cV a2).bind fun j1=>
 (a1[j1]?).bind fun y3=>
 (cV a0).bind fun j5=>
 (y3[j5]?).bind fun y7=>
 some y7
theorem Db(r:Bool)(h:mE a0 a1 a2=some r):call G Ω0 E0 212 [(I a0),(.e (.l 32 (a1.map (bO 4 AV.b))) 0),(.e (I a2) 0)] H0=some (Gl a0 a1 a2 r):=
 a8 ahN (xN fun j1=>.ex fun (y3:(List Bool))=>ao (.v (aC y3))<|xN fun j5=>xB fun y7=>.nil) fun L=>ez h fun j1 h2 h=>ai h2<|bm h fun y3 h4 h=>ai (aI (bO 4 AV.b) h4)<|ez h fun j5 h6 h=>ai h6<|bm h fun y7 h8 h=>ai (aI AV.b h8)<|L h
end
section
variable (a0:(List Int))(a1:(List (List Bool)))(a2:Int)
abbrev qz(r:Bool):Prop:=call G Ω0 E0 103 [(.l 3 (a0.map (AV.i .i64))),(.f 212 [(.e (.l 32 (a1.map (bO 4 AV.b))) 0),(.e (.i .i64 a2) 0)])] H0=some (.ret (.b r),H0)
def fE:Option Bool:=FF (fun y=>mE y a1 a2) a0
theorem pw(r:Bool)(h:fE a0 a1 a2=some r):qz a0 a1 a2 r:=rz (n:=1) (ld:=none) (by decide) (fun _=>⟨rfl,rfl,rfl,rfl⟩) rfl (fun y b hb=>Db y a1 a2 b hb) Lu Lv h
end
section
variable (a0:cb)(a1:(List (List Bool)))(a2:Int)
abbrev Jh(a0:cb)(a1:(List (List Bool)))(a2:Int)(r:Bool):bA×HP:=(.ret (.b r),H0)
def oB:Option Bool:=
 (cV a2).bind fun j1=>
 (a1[j1]?).bind fun y3=>
 (cV a0.Owner).bind fun j5=>
 (y3[j5]?).bind fun y7=>
 if y7=true then
  some false
 else
  (fE a0.Names a1 a2).bind fun ah=>
  some (!ah)
theorem Fl(r:Bool)(h:oB a0 a1 a2=some r):call G Ω0 E0 211 [(.a [(I a0.Owner),(.l 3 (a0.Names.map (I)))]),(.e (.l 32 (a1.map (bO 4 AV.b))) 0),(.e (I a2) 0)] H0=some (Jh a0 a1 a2 r):=
 a8 ahM (xN fun j1=>.ex fun (y3:(List Bool))=>ao (.v (aC y3))<|bt<|xN fun j5=>xB fun y7=>.or (TX<|.nil) (tn<|xB fun ah=>ee<|.nil)) fun L=>oo<|ez h fun j1 h2 h=>ai h2<|bm h fun y3 h4 h=>ai (aI (bO 4 AV.b) h4)<|bE<|ai tt<|ph<|ez h fun j5 h6 h=>ai h6<|bm h fun y7 h8 h=>ai (aI AV.b h8)<|oo<|b9 h (fun h9 h=>dE (av not h9)<|dE (av not h9)<|rX (av not h9)<|L h) (fun h9 h=>let A:=av not h9;ai (g1 A)<|kh A<|ai (rfl:Z0)<|kh A<|kh A<|bI h (pw a0.Names a1 a2) fun ah h=>rX A<|L h)
end
section
variable (a0:(List cb))(a1:(List (List Bool)))(a2:Int)
abbrev rK(r:Bool):Prop:=call G Ω0 E0 213 [(.l 155 (a0.map cg)),(.f 211 [(.e (.l 32 (a1.map (bO 4 AV.b))) 0),(.e (.i .i64 a2) 0)])] H0=some (.ret (.b r),H0)
def gI:Option Bool:=FF (fun y=>oB y a1 a2) a0
theorem p7(r:Bool)(h:gI a0 a1 a2=some r):rK a0 a1 a2 r:=rz (n:=2) (ld:=(some 2)) (by decide) (fun _=>⟨rfl,rfl,_,rfl,rfl⟩) rfl (fun y b hb=>Fl y a1 a2 b hb) abY abZ h
end
section
variable (a0:(List cb))(a1:an)(a2:(List (List Bool)))(q:(List Bool))(m:Nat)
def oC:Option (((List Bool)×Nat)⊕((List Bool)×Nat×Bool)):=
 if (m:Int)<a1.Many then
  (gI a0 a2 (m:Int)).bind fun r2=>
  if q.length+([!r2]).length≤1000000000 then
   if IntKind.i64.wrap ((m:Int)+1)=((m+1:Nat):Int) then
    some (.inl (q++([!r2]),m+1))
   else none
  else none
 else
  some (.inr (q,m,decide ((m:Int)<a1.Many)))
abbrev Ji(v:((List Bool)×Nat)):St:=⟨[(0,(bU a0)),(2,(.e (.l 32 (a2.map (bO 4 AV.b))) 0)),(5,(ig v.1)),(9,(I a1.Many)),(10,(I (v.2:Int)))],[],H0⟩
abbrev Bq(x:((List Bool)×Nat×Bool)):bh×St:=((.ex 0),⟨[(0,(bU a0)),(2,(.e (.l 32 (a2.map (bO 4 AV.b))) 0)),(5,(ig x.1)),(9,(I a1.Many)),(10,(I (x.2.1:Int))),(11,(.b x.2.2))],[],H0⟩)
theorem HQ(o:((List Bool)×Nat)⊕((List Bool)×Nat×Bool))(h:oC a0 a1 a2 q m=some o):cG E0 Ru (Ji a0 a1 a2) (Bq a0 a1 a2) (q,m) o:=
 cT (.or (fh<|xB fun r2=>ao (.l (([!r2]).map AV.b))<|ao (.l ((q++([!r2])).map AV.b))<|ao (.i ((m+1:Nat):Int))<|.nil) (bf<|.nil)) fun L=>da h (fun h1 h=>rY (aE h1)<|oq<|ai (rfl:Z0)<|bI h (p7 a0 a2 (m:Int)) fun r2 h=>let A:=([!r2]).map AV.b;ai (rfl:[(.b (!r2))]=([!r2]).map AV.b)<|ai ff<|bc h fun h4 h=>ai ((fS AV.b (n:=1) (fun _=>rfl) ([!r2])):A.all (fun e=>e.nc==1)=true)<|ai ((jO h4 (by decide)):((q.map AV.b).length+A.length)*1≤140737488355328)<|ai ((jP h4):(q.map AV.b).length+A.length≤maxLen)<|ai (dI.symm:q.map AV.b++([!r2]).map AV.b=(q++([!r2])).map AV.b)<|bc h fun w5 h=>ai w5<|L h) (fun h1 h=>ai (aG h1)<|L h)
abbrev Mx(a0:(List cb))(a1:an)(a2:(List (List Bool)))(r:(List Bool)):bA×HP:=(.ret (.l 4 (r.map AV.b)),H0)
def qV:Option (List Bool):=
 (lp (fun v=>oC a0 a1 a2 v.1 v.2) (([]:List Bool),0)).bind fun x1=>
 some x1.1
theorem Ae(r:(List Bool))(h:qV a0 a1 a2=some r):call G Ω0 E0 210 [(.l 155 (a0.map cg)),(.e (.a [(I a1.Many),(.l 79 (a1.Grants.map bW))]) 0),(.e (.l 32 (a2.map (bO 4 AV.b))) 0)] H0=some (Mx a0 a1 a2 r):=
 a8 ahL (.ex fun (x1:((List Bool)×Nat×Bool))=>ao (.dJ (Bq a0 a1 a2 x1))<|.nil) fun L=>bI h (im (fun v=>HQ a0 a1 a2 v.1 v.2) (([]:List Bool),0)) fun x1 h=>L h
end
section
variable (a0:an)(a1:Label)
abbrev Qb(a0:an)(a1:Label)(r:Level):bA×HP:=(.ret (.a [(.l 4 (r.Readers.map AV.b)),(.l 4 (r.Writers.map AV.b))]),H0)
def iB:Option Level:=
 (qU a0).bind fun r1=>
 (qV a1.Read a0 r1).bind fun r3=>
 (qV a1.Write a0 r1).bind fun r5=>
 some (⟨r3,r5⟩:Level)
theorem lz(r:Level)(h:iB a0 a1=some r):call G Ω0 E0 171 [(.a [(I a0.Many),(.l 79 (a0.Grants.map bW))]),(.a [(.l 155 (a1.Read.map cg)),(.l 155 (a1.Write.map cg))])] H0=some (Qb a0 a1 r):=
 let A:=List Bool;a8 ahl (bt<|.ex fun (r1:(List A))=>ao (.v (.l 32 (r1.map (bO 4 AV.b))))<|fh<|.ex fun (r3:A)=>ao (.v (aC r3))<|bt<|.ex fun (r5:A)=>ao (.v (aC r5))<|ee<|.nil) fun L=>bE<|ai tt<|ai (rfl:Z0)<|bI h (Ad a0) fun r1 h=>ai tt<|oq<|kg<|bE<|ai tt<|ph<|bI h (Ae a1.Read a0 r1) fun r3 h=>bE<|ai tt<|ph<|bI h (Ae a1.Write a0 r1) fun r5 h=>oq<|ai (rfl:Z0)<|L h
end
section
variable (a0:Level)
abbrev NY(a0:Level)(r:Level):bA×HP:=(.ret (.a [(.l 4 (r.Readers.map AV.b)),(.l 4 (r.Writers.map AV.b))]),H0)
def vU:Option Level:=
 (dL a0 a0).bind fun r1=>
 some r1
theorem Jj(r:Level)(h:vU a0=some r):call G Ω0 E0 70 [(.a [(.l 4 (a0.Readers.map AV.b)),(.l 4 (a0.Writers.map AV.b))])] H0=some (NY a0 r):=
 a8 G70 (ee<|.ex fun (r1:Level)=>ao (.v (.a [(aC r1.Readers),(aC r1.Writers)]))<|ee<|.nil) fun L=>bE<|kg<|bI h (ie a0 a0) fun r1 h=>oq<|ai (rfl:Z0)<|L h
end
section
variable (dp:Nat)(hp:HP)(k0:Key)(a0:Int)
abbrev Br(dp:Nat)(hp:HP)(k0:Key)(k1:Key)(a0:Int)(c0:Unit)(c1:aH)(a1:Int)(r:(Bool×Unit)):bA×HP:=(.ret (.b r.1),aq (aq hp k0 [(.p k1 0)]) k1 (ay c1))
def kX(c0:Unit)(c1:aH)(a1:Int):Option (Bool×Unit):=
 (cV a0).bind fun j1=>
 (c1.eU[j1]?).bind fun y3=>
 (cV a1).bind fun j5=>
 (y3[j5]?).bind fun y7=>
 some (y7,())
theorem yH(d:k0.dp<dp)(k1:Key)(j:k1.dp<dp)(g:k0≠k1)(hz:aT dp hp)(a0:Int)(c0:Unit)(c1:aH)(a1:Int)(r:(Bool×Unit))(h:kX a0 c0 c1 a1=some r):call G Ω0 ⟨dp,false⟩ 238 [(I a0),(.p k0 0),(.e (I a1) 0)] (aq (aq hp k0 [(.p k1 0)]) k1 (ay c1))=some (Br dp hp k0 k1 a0 c0 c1 a1 r):=
 let A:=aq hp k0 [(.p k1 0)];a8 ahY (bf<|ao (.l [(.p k1 0)])<|bf<|ao (.l (ay c1))<|xN fun j1=>.ex fun (y3:(List Bool))=>ao (.v (aC y3))<|xN fun j5=>xB fun y7=>.nil) fun L=>ai tt<|ai (au d)<|ai (Ma g:(aq A k1 (ay c1)) k0=some [(.p k1 0)])<|n4<|ai (au j)<|ai (a7 A k1 (ay c1))<|bE<|ez h fun j1 h2 h=>ai h2<|bm h fun y3 h4 h=>ai (aI (bO 4 AV.b) h4)<|n4<|ez h fun j5 h6 h=>ai h6<|bm h fun y7 h8 h=>ai (aI AV.b h8)<|L h
end
section
variable (a0:(List Int))(c1:aH)(a1:Int)(O:Nat)(hp:HP)(k0:Key)(k1:Key)(dp:Nat)
def iZ:Option (Nat⊕(Nat⊕(Nat×Bool))):=
 if (O:Int)<(a0.length:Int) then
  (a0[O]?).bind fun y2=>
  (kX y2 () c1 a1).bind fun r4=>
  if r4.1=true then
   some (.inr (.inl O))
  else
   if IntKind.i64.wrap ((O:Int)+1)=((O+1:Nat):Int) then
    some (.inl (O+1))
   else none
 else
  some (.inr (.inr (O,decide ((O:Int)<(a0.length:Int)))))
abbrev oR(a0:(List Int))(c1:aH)(a1:Int)(v:Nat):St:=⟨[(0,(bw a0)),(1,(.f 238 [(.p k0 0),(.e (I a1) 0)])),(7,(zI a0.length)),(8,(I (v:Int)))],[],aq (aq hp k0 [(.p k1 0)]) k1 (ay c1)⟩
abbrev eS(a0:(List Int))(c1:aH)(a1:Int)(x:(Nat⊕(Nat×Bool))):bh×St:=match x with | .inl z1=>(.ret,⟨[(4,(I (z1:Int)))],[],aq (aq hp k0 [(.p k1 0)]) k1 (ay c1)⟩) | .inr (z1,z2)=>((.ex 0),⟨[(0,(bw a0)),(1,(.f 238 [(.p k0 0),(.e (I a1) 0)])),(7,(zI a0.length)),(8,(I (z1:Int))),(9,(.b z2))],[],aq (aq hp k0 [(.p k1 0)]) k1 (ay c1)⟩)
theorem oD(hp:HP)(k0:Key)(d:k0.dp<dp)(k1:Key)(j:k1.dp<dp)(g:k0≠k1)(hz:aT dp hp)(a0:(List Int))(c1:aH)(a1:Int)(O:Nat)(o:Nat⊕(Nat⊕(Nat×Bool)))(h:iZ a0 c1 a1 O=some o):cG ⟨dp,false⟩ Q3 (oR hp k0 k1 a0 c1 a1) (eS hp k0 k1 a0 c1 a1) O o:=
 let A:=aq (aq hp k0 [(.p k1 0)]) k1 (ay c1);cT (.or (bt<|ao (.n O)<|xI fun y2=>.ex fun (r4:(Bool×Unit))=>ao (.v (.b r4.1))<|ao (.h (boxes dp [] A))<|ao (.bx [])<|ao (.h A)<|oN (ao (.i ((O+1:Nat):Int))<|.nil)) (bf<|.nil)) fun L=>da h (fun h1 h=>ai (aE h1)<|ai (rI O)<|bm h fun y2 h3 h=>ai (aI I h3)<|ep<|bm h fun r4 ap h=>have ap:=Vj d j g (yH (dp+1) (boxes dp [] A) k0 (aB d) k1 (aB j) g (aQ (ak j (ak d hz))) y2 () c1 a1 _ ap);eW ap (ak j (ak d hz))<|b9 h (fun h6 h=>ai h6<|L h) (fun h6 h=>ai h6<|bc h fun w7 h=>ai w7<|L h)) (fun h1 h=>ai (aG h1)<|L h)
abbrev pH(dp:Nat)(hp:HP)(k0:Key)(k1:Key)(a0:(List Int))(c0:Unit)(c1:aH)(a1:Int)(r:(Int×Unit)):bA×HP:=(.ret (I r.1),aq (aq hp k0 [(.p k1 0)]) k1 (ay c1))
def jB(c0:Unit)(c1:aH)(a1:Int):Option (Int×Unit):=
 (lp (fun v=>iZ a0 c1 a1 v) 0).bind fun x1=>match x1 with
 | .inl T=>
  some ((T:Int),())
 | .inr Q=>
  some ((-1),())
theorem oE(hp:HP)(k0:Key)(d:k0.dp<dp)(k1:Key)(j:k1.dp<dp)(g:k0≠k1)(hz:aT dp hp)(a0:(List Int))(c0:Unit)(c1:aH)(a1:Int)(r:(Int×Unit))(h:jB a0 c0 c1 a1=some r):call G Ω0 ⟨dp,false⟩ 144 [(.l 3 (a0.map (I))),(.f 238 [(.p k0 0),(.e (I a1) 0)])] (aq (aq hp k0 [(.p k1 0)]) k1 (ay c1))=some (pH dp hp k0 k1 a0 c0 c1 a1 r):=
 a8 Lv (ao (.i (a0.length:Int))<|.or (.ex fun (T:Nat)=>ao (.dJ (eS hp k0 k1 a0 c1 a1 (.inl T)))<|.nil) (.ex fun (Q:(Nat×Bool))=>ao (.dJ (eS hp k0 k1 a0 c1 a1 (.inr Q)))<|.nil)) fun L=>ai (bn I a0)<|iy h (im (oD dp hp k0 d k1 j g hz a0 c1 a1) 0) (fun T h=>L h) (fun Q h=>L h)
abbrev oF(dp:Nat)(hp:HP)(k0:Key)(k1:Key)(a0:(List Int))(c0:Unit)(c1:aH)(a1:Int)(r:(Bool×Unit)):bA×HP:=(.ret (.b r.1),aq (aq hp k0 [(.p k1 0)]) k1 (ay c1))
def eO(c0:Unit)(c1:aH)(a1:Int):Option (Bool×Unit):=
 (jB a0 () c1 a1).bind fun r1=>
 some ((decide (0≤r1.1)),())
theorem nG(hp:HP)(k0:Key)(d:k0.dp<dp)(k1:Key)(j:k1.dp<dp)(g:k0≠k1)(hz:aT dp hp)(a0:(List Int))(c0:Unit)(c1:aH)(a1:Int)(r:(Bool×Unit))(h:eO a0 c0 c1 a1=some r):call G Ω0 ⟨dp,false⟩ 103 [(.l 3 (a0.map (I))),(.f 238 [(.p k0 0),(.e (I a1) 0)])] (aq (aq hp k0 [(.p k1 0)]) k1 (ay c1))=some (oF dp hp k0 k1 a0 c0 c1 a1 r):=
 let A:=aq (aq hp k0 [(.p k1 0)]) k1 (ay c1);a8 Lu (.ex fun (r1:(Int×Unit))=>ao (.v (I r1.1))<|ao (.h (boxes dp [] A))<|ao (.bx [])<|ao (.h A)<|.nil) fun L=>ep<|bm h fun r1 aj h=>have aj:=Vj d j g (oE (dp+1) (boxes dp [] A) k0 (aB d) k1 (aB j) g (aQ (ak j (ak d hz))) a0 () c1 a1 _ aj);eW aj (ak j (ak d hz))<|L h
end
section
variable (dp:Nat)(hp:HP)(k0:Key)(c0:aH)(a0:Int)
abbrev Dc(dp:Nat)(hp:HP)(k0:Key)(c0:aH)(a0:Int)(r:Bool):bA×HP:=(.ret (.b r),aq hp k0 (ay c0))
def mP:Option Bool:=
 (eO c0.p.Speak () c0 a0).bind fun r1=>
 some r1.1
theorem AI(d:k0.dp<dp)(hz:aT dp hp)(c0:aH)(a0:Int)(r:Bool)(h:mP c0 a0=some r):call G Ω0 ⟨dp,false⟩ 236 [(.p k0 0),(I a0)] (aq hp k0 (ay c0))=some (Dc dp hp k0 c0 a0 r):=
 let C:=au d;let B:=(2,[(.p k0 0)]);let A:=boxes dp [B] (aq hp k0 (ay c0));a8 ahX (nz<|ao (.l (ay c0))<|.ex fun (r1:(Bool×Unit))=>ao (.v (.b r1.1))<|ao (.h A)<|ao (.bx [B])<|ao (.h (aq hp k0 (ay c0)))<|.nil) fun L=>ai ((by simp [aM d,aR d]):(((.p k0 0):AV).deep dp&&(eA dp 2 [(0,(.p k0 0)),(1,(I a0))] []))=true)<|ai ((by simp [aM d,aR d]):(((I a0):AV).deep dp&&(eA dp 3 [(2,(.p ⟨dp,2⟩ 0)),(0,(.p k0 0)),(1,(I a0))] [(2,[(.p k0 0)])]))=true)<|ai (rN dp)<|ai (rN dp)<|ai C<|ai (a7 hp k0 (ay c0))<|ai ff<|ai ((by simp [aR d]):([(2,[(.p k0 0)])]:List (Nat×List AV)).all (fun y=>AV.fJ dp y.2)=true)<|bm h fun r1 aj h=>have aj:call G Ω0 ⟨dp+1,false⟩ 103 [(bw c0.p.Speak),(.f 238 [(.p ⟨dp,2⟩ 0),(.e (I a0) 0)])] A=some (.ret (.b r1.1),boxes dp [B] (aq hp k0 (ay c0))):=dX (iJ (dt (bx1:=[B]) (by kernel_rfl) (by kernel_rfl)) (cD (hp1:=aq hp k0 (ay c0)) C (bP ..))) (iJ (dt (bx1:=[B]) (by kernel_rfl) (by kernel_rfl)) (cD (hp1:=aq hp k0 (ay c0)) C (bP ..))) (nG (dp+1) A ⟨dp,2⟩ (gP dp) k0 (aB d) (EY d) (aQ (ak d hz)) c0.p.Speak () c0 a0 _ aj);eW aj (ak d hz)<|L h
end
section
variable (dp:Nat)(hp:HP)(k0:Key)(a0:cb)
abbrev Bs(dp:Nat)(hp:HP)(k0:Key)(k1:Key)(a0:cb)(c0:Unit)(c1:aH)(r:(Bool×Unit)):bA×HP:=(.ret (.b r.1),aq (aq hp k0 [(.p k1 0)]) k1 (ay c1))
def kY(c0:Unit)(c1:aH):Option (Bool×Unit):=
 (mP c1 a0.Owner).bind fun r1=>
 some ((!r1),())
theorem yI(d:k0.dp<dp)(k1:Key)(j:k1.dp<dp)(g:k0≠k1)(hz:aT dp hp)(a0:cb)(c0:Unit)(c1:aH)(r:(Bool×Unit))(h:kY a0 c0 c1=some r):call G Ω0 ⟨dp,false⟩ 235 [(.a [(I a0.Owner),(.l 3 (a0.Names.map (I)))]),(.p k0 0)] (aq (aq hp k0 [(.p k1 0)]) k1 (ay c1))=some (Bs dp hp k0 k1 a0 c0 c1 r):=
 let D:=aq hp k0 [(.p k1 0)];let B:=(2,[(I a0.Owner),(bw a0.Names)]);let A:=aq D k1 (ay c1);let C:=boxes dp [B] A;a8 ahW (bf<|ao (.l [(.p k1 0)])<|bt<|xB fun r1=>ao (.h C)<|ao (.bx [B])<|ao (.h A)<|.nil) fun L=>ai ((by simp [aM d,aR d,aM j,aR j]):(((.a [(I a0.Owner),(.l 3 (a0.Names.map I))]):AV).deep dp&&(eA dp 2 [(0,(.a [(I a0.Owner),(.l 3 (a0.Names.map I))])),(1,(.p k0 0))] []))=true)<|ai (au d)<|ai (Ma g:A k0=some [(.p k1 0)])<|ai (rN dp)<|ep<|bm h fun r1 aj h=>have aj:call G Ω0 ⟨dp+1,false⟩ 236 [(.p k1 0),(I a0.Owner)] C=some (.ret (.b r1),boxes dp [B] A):=dX (cD (hp1:=aq D k1 (ay c1)) (au j) (bP ..)) (cD (hp1:=aq D k1 (ay c1)) (au j) (bP ..)) (AI (dp+1) C k1 (aB j) (aQ (ak j (ak d hz))) c1 a0.Owner _ aj);eW aj (ak j (ak d hz))<|L h
end
section
variable (a0:(List cb))(c1:aH)(O:Nat)(hp:HP)(k0:Key)(k1:Key)(dp:Nat)
def ja:Option (Nat⊕(Nat⊕(Nat×Bool))):=
 if (O:Int)<(a0.length:Int) then
  (a0[O]?).bind fun y2=>
  (kY y2 () c1).bind fun r4=>
  if r4.1=true then
   some (.inr (.inl O))
  else
   if IntKind.i64.wrap ((O:Int)+1)=((O+1:Nat):Int) then
    some (.inl (O+1))
   else none
 else
  some (.inr (.inr (O,decide ((O:Int)<(a0.length:Int)))))
abbrev oS(a0:(List cb))(c1:aH)(v:Nat):St:=⟨[(0,(bU a0)),(1,(.f 235 [(.p k0 0)])),(7,(zI a0.length)),(8,(I (v:Int)))],[],aq (aq hp k0 [(.p k1 0)]) k1 (ay c1)⟩
abbrev eT(a0:(List cb))(c1:aH)(x:(Nat⊕(Nat×Bool))):bh×St:=match x with | .inl z1=>(.ret,⟨[(4,(I (z1:Int)))],[],aq (aq hp k0 [(.p k1 0)]) k1 (ay c1)⟩) | .inr (z1,z2)=>((.ex 0),⟨[(0,(bU a0)),(1,(.f 235 [(.p k0 0)])),(7,(zI a0.length)),(8,(I (z1:Int))),(9,(.b z2))],[],aq (aq hp k0 [(.p k1 0)]) k1 (ay c1)⟩)
theorem oG(hp:HP)(k0:Key)(d:k0.dp<dp)(k1:Key)(j:k1.dp<dp)(g:k0≠k1)(hz:aT dp hp)(a0:(List cb))(c1:aH)(O:Nat)(o:Nat⊕(Nat⊕(Nat×Bool)))(h:ja a0 c1 O=some o):cG ⟨dp,false⟩ Rw (oS hp k0 k1 a0 c1) (eT hp k0 k1 a0 c1) O o:=
 let A:=aq (aq hp k0 [(.p k1 0)]) k1 (ay c1);cT (.or (bt<|ao (.n O)<|.ex fun (y2:cb)=>ao (.v (.a [(I y2.Owner),(bw y2.Names)]))<|.ex fun (r4:(Bool×Unit))=>ao (.v (.b r4.1))<|ao (.h (boxes dp [] A))<|ao (.bx [])<|ao (.h A)<|oN (ao (.i ((O+1:Nat):Int))<|.nil)) (bf<|.nil)) fun L=>da h (fun h1 h=>ai (aE h1)<|ai (rI O)<|bm h fun y2 h3 h=>ai (aI cg h3)<|ep<|bm h fun r4 ap h=>have ap:=Vj d j g (yI (dp+1) (boxes dp [] A) k0 (aB d) k1 (aB j) g (aQ (ak j (ak d hz))) y2 () c1 _ ap);eW ap (ak j (ak d hz))<|b9 h (fun h6 h=>ai h6<|L h) (fun h6 h=>ai h6<|bc h fun w7 h=>ai w7<|L h)) (fun h1 h=>ai (aG h1)<|L h)
abbrev pI(dp:Nat)(hp:HP)(k0:Key)(k1:Key)(a0:(List cb))(c0:Unit)(c1:aH)(r:(Int×Unit)):bA×HP:=(.ret (I r.1),aq (aq hp k0 [(.p k1 0)]) k1 (ay c1))
def jC(c0:Unit)(c1:aH):Option (Int×Unit):=
 (lp (fun v=>ja a0 c1 v) 0).bind fun x1=>match x1 with
 | .inl T=>
  some ((T:Int),())
 | .inr Q=>
  some ((-1),())
theorem oH(hp:HP)(k0:Key)(d:k0.dp<dp)(k1:Key)(j:k1.dp<dp)(g:k0≠k1)(hz:aT dp hp)(a0:(List cb))(c0:Unit)(c1:aH)(r:(Int×Unit))(h:jC a0 c0 c1=some r):call G Ω0 ⟨dp,false⟩ 228 [(.l 155 (a0.map cg)),(.f 235 [(.p k0 0)])] (aq (aq hp k0 [(.p k1 0)]) k1 (ay c1))=some (pI dp hp k0 k1 a0 c0 c1 r):=
 a8 abZ (ao (.i (a0.length:Int))<|.or (.ex fun (T:Nat)=>ao (.dJ (eT hp k0 k1 a0 c1 (.inl T)))<|.nil) (.ex fun (Q:(Nat×Bool))=>ao (.dJ (eT hp k0 k1 a0 c1 (.inr Q)))<|.nil)) fun L=>ai (bn cg a0)<|iy h (im (oG dp hp k0 d k1 j g hz a0 c1) 0) (fun T h=>L h) (fun Q h=>L h)
abbrev oI(dp:Nat)(hp:HP)(k0:Key)(k1:Key)(a0:(List cb))(c0:Unit)(c1:aH)(r:(Bool×Unit)):bA×HP:=(.ret (.b r.1),aq (aq hp k0 [(.p k1 0)]) k1 (ay c1))
def eP(c0:Unit)(c1:aH):Option (Bool×Unit):=
 (jC a0 () c1).bind fun r1=>
 some ((decide (0≤r1.1)),())
theorem nH(hp:HP)(k0:Key)(d:k0.dp<dp)(k1:Key)(j:k1.dp<dp)(g:k0≠k1)(hz:aT dp hp)(a0:(List cb))(c0:Unit)(c1:aH)(r:(Bool×Unit))(h:eP a0 c0 c1=some r):call G Ω0 ⟨dp,false⟩ 213 [(.l 155 (a0.map cg)),(.f 235 [(.p k0 0)])] (aq (aq hp k0 [(.p k1 0)]) k1 (ay c1))=some (oI dp hp k0 k1 a0 c0 c1 r):=
 let A:=aq (aq hp k0 [(.p k1 0)]) k1 (ay c1);a8 abY (.ex fun (r1:(Int×Unit))=>ao (.v (I r1.1))<|ao (.h (boxes dp [] A))<|ao (.bx [])<|ao (.h A)<|.nil) fun L=>ep<|bm h fun r1 aj h=>have aj:=Vj d j g (oH (dp+1) (boxes dp [] A) k0 (aB d) k1 (aB j) g (aQ (ak j (ak d hz))) a0 () c1 _ aj);eW aj (ak j (ak d hz))<|L h
end
section
variable (dp:Nat)(hp:HP)(k0:Key)(c0:aH)(a0:(List cb))
abbrev uv(dp:Nat)(hp:HP)(k0:Key)(c0:aH)(a0:(List cb))(r:Bool):bA×HP:=(.ret (.b r),aq hp k0 (ay c0))
abbrev uw(r:Bool):Prop:=call G Ω0 ⟨dp,false⟩ 232 [(.p k0 0),(.l 155 (a0.map cg))] (aq hp k0 (ay c0))=some (uv dp hp k0 c0 a0 r)
def ft:Option Bool:=
 (eP a0 () c0).bind fun r1=>
 some (!r1.1)
theorem AJ(d:k0.dp<dp)(hz:aT dp hp)(c0:aH)(a0:(List cb))(r:Bool)(h:ft c0 a0=some r):uw dp hp k0 c0 a0 r:=
 let B:=(2,[(.p k0 0)]);let A:=boxes dp [B] (aq hp k0 (ay c0));a8 ahV (.ex fun (r1:(Bool×Unit))=>ao (.v (.b r1.1))<|ao (.h A)<|ao (.bx [B])<|ao (.h (aq hp k0 (ay c0)))<|.nil) fun L=>ai ((by simp [aM d,aR d]):(((.p k0 0):AV).deep dp&&(eA dp 2 [(0,(.p k0 0)),(1,(.l 155 (a0.map cg)))] []))=true)<|ai ff<|ai ((by simp [aR d]):([(2,[(.p k0 0)])]:List (Nat×List AV)).all (fun y=>AV.fJ dp y.2)=true)<|bm h fun r1 aj h=>have aj:call G Ω0 ⟨dp+1,false⟩ 213 [(bU a0),(.f 235 [(.p ⟨dp,2⟩ 0)])] A=some (.ret (.b r1.1),boxes dp [B] (aq hp k0 (ay c0))):=dX (iJ (dt (bx1:=[B]) (by kernel_rfl) (by kernel_rfl)) (cD (hp1:=aq hp k0 (ay c0)) (au d) (bP ..))) (iJ (dt (bx1:=[B]) (by kernel_rfl) (by kernel_rfl)) (cD (hp1:=aq hp k0 (ay c0)) (au d) (bP ..))) (nH (dp+1) A ⟨dp,2⟩ (gP dp) k0 (aB d) (EY d) (aQ (ak d hz)) a0 () c0 _ aj);eW aj (ak d hz)<|L h
end
section
variable (dp:Nat)(hp:HP)(a0:Program)
abbrev NZ(dp:Nat)(hp:HP)(a0:Program)(r:aH):bA×HP:=(.new (ay r),hp)
def vV:Option aH:=
 (qU a0.an).bind fun r1=>
 some (⟨a0,r1⟩:aH)
theorem Jk(hz:aT dp hp)(a0:Program)(r:aH)(h:vV a0=some r):call G Ω0 ⟨dp,false⟩ 67 [(.a (aD a0))] hp=some (NZ dp hp a0 r):=
 IP G67 (ee<|.ex fun (r1:(List (List Bool)))=>ao (.v (.l 32 (r1.map (bO 4 AV.b))))<|.nil) fun L=>bE<|ai (rN dp)<|bE<|ai (rN dp)<|ai tt<|bI h (Ad a0.an) fun r1 h=>ai tt<|ai ((by simp [aD]):(((.a [(I a0.an.Many),(.l 79 (a0.an.Grants.map bW)),(.l 3 (a0.Speak.map I)),(.l 83 (a0.Ins.map aS)),(.l 83 (a0.Outs.map aS)),(.l 86 (a0.Vars.map dA)),(.l 91 (a0.Funcs.map cQ)),(.l 111 (a0.Main.map bK)),(.l 32 (r1.map (bO 4 AV.b)))]):AV).deep dp&&(eA dp 8 [(7,(.a [(I a0.an.Many),(.l 79 (a0.an.Grants.map bW)),(.l 3 (a0.Speak.map I)),(.l 83 (a0.Ins.map aS)),(.l 83 (a0.Outs.map aS)),(.l 86 (a0.Vars.map dA)),(.l 91 (a0.Funcs.map cQ)),(.l 111 (a0.Main.map bK)),(.l 32 (r1.map (bO 4 AV.b)))])),(6,(.l 32 (r1.map (bO 4 AV.b)))),(5,(.a [(I a0.an.Many),(.l 79 (a0.an.Grants.map bW))])),(4,(.p ⟨dp,1⟩ 0)),(3,(.a (aD a0))),(1,(.p ⟨dp,1⟩ 0))] [(1,(aD a0))]))=true)<|ai (rN dp)<|ai tt<|L h
end
section
variable (a0:Bool)
abbrev N0(a0:Bool)(r:Int):bA×HP:=(.ret (I r),H0)
def vW:Option Int:=
 if a0=true then
  some 1
 else
  some 0
theorem Bt(r:Int)(h:vW a0=some r):call G Ω0 E0 145 [(.b a0)] H0=some (N0 a0 r):=
 a8 ag2 (oN (.nil)) fun L=>b9 h (fun h1 h=>ai h1<|L h) (fun h1 h=>ai h1<|L h)
end
section
variable (a0:aK)(a1:(List Int))
abbrev N1(a0:aK)(a1:(List Int))(r:Int):bA×HP:=(.ret (I r),H0)
abbrev AK(r:Int):Prop:=call G Ω0 E0 106 [(.a (cL a0)),(.l 3 (a1.map (I)))] H0=some (N1 a0 a1 r)
end
structure AL where
 f_run_Value:aK→(List Int)→Option Int
structure Eb(R:AL):Prop where
 f_run_Value:∀ (a0:aK)(a1:(List Int))(r:Int),R.f_run_Value a0 a1=some r→AK a0 a1 r
section
variable (aP:Int)(R:AL)(a0:aK)(a1:(List Int))
def iS:Option Int:=
 some (IntKind.i64.wrap (IntKind.i32.wrap aP))
abbrev km(x:Int):bh×St:=(.ret,⟨[(4,(I x))],[],H0⟩)
theorem kZ(x:Int)(h:iS aP=some x):run G Ω0 E0 QI ⟨[(7,(I aP))],[],H0⟩=some (km x):=
 let A:=IntKind.i32.wrap aP;Cn (ao (.i A)<|ao (.i (IntKind.i64.wrap A))<|.nil) fun L=>ai (rfl:IntKind.i32.wrap aP=IntKind.i32.wrap aP)<|ai (rfl:IntKind.i64.wrap A=IntKind.i64.wrap A)<|L h
def tY:Option Int:=
 if (a0.Kind==1)=true then
  some a0.N
 else
  if (a0.Kind==2)=true then
   (cV a0.N).bind fun j3=>
   (a1[j3]?).bind fun y5=>
   some y5
  else
   (a0.Args[0]?).bind fun y3=>
   (R.f_run_Value y3 a1).bind fun r5=>
   (a0.Args[1]?).bind fun y7=>
   (R.f_run_Value y7 a1).bind fun r9=>
   if (a0.Kind==3)=true then
    if IntKind.i64.wrap (r5+r9)=r5+r9 then
     (iS (r5+r9)).bind fun bT=>
     some bT
    else none
   else
    if (a0.Kind==4)=true then
     if IntKind.i64.wrap (r5 - r9)=r5 - r9 then
      (iS (r5 - r9)).bind fun bS=>
      some bS
     else none
    else
     if (a0.Kind==5)=true then
      if IntKind.i64.wrap (r5*r9)=r5*r9 then
       (iS (r5*r9)).bind fun bC=>
       some bC
      else none
     else
      if (a0.Kind==6)=true then
       (vW (decide (r5<r9))).bind fun bd=>
       (iS bd).bind fun ba=>
       some ba
      else
       if (a0.Kind==7)=true then
        (vW (r5==r9)).bind fun bV=>
        (iS bV).bind fun bN=>
        some bN
       else
        (iS 0).bind fun bR=>
        some bR
theorem HR(hR:Eb R)(a0:aK)(a1:(List Int))(r:Int)(h:tY R a0 a1=some r):AK a0 a1 r:=
 a8 agI (bt<|.or (ee<|.nil) (bf<|.or (ee<|xN fun j3=>xI fun y5=>.nil) (D3<|ao (.n 0)<|.ex fun (y3:aK)=>ao (.v (.a (cL y3)))<|xI fun r5=>bt<|ao (.n 1)<|.ex fun (y7:aK)=>ao (.v (.a (cL y7)))<|xI fun r9=>bt<|.or (bt<|ao (.i (r5+r9))<|.fb<|.ex fun (bT:Int)=>ao (.oe (km bT))<|.nil) (bf<|.or (bt<|ao (.i (r5 - r9))<|.fb<|.ex fun (bS:Int)=>ao (.oe (km bS))<|.nil) (bf<|.or (bt<|ao (.i (r5*r9))<|.fb<|.ex fun (bC:Int)=>ao (.oe (km bC))<|.nil) (bf<|.or (bt<|xI fun bd=>.fb<|.ex fun (ba:Int)=>ao (.oe (km ba))<|.nil) (bf<|.or (bt<|xI fun bV=>.fb<|.ex fun (bN:Int)=>ao (.oe (km bN))<|.nil) (bf<|.fb<|.ex fun (bR:Int)=>ao (.oe (km bR))<|.nil)))))))) fun L=>xn<|b9 h (fun h1 h=>qO h1<|L h) (fun h1 h=>ai h1<|b9 h (fun h2 h=>qO h2<|ez h fun j3 h4 h=>ai h4<|bm h fun y5 h6 h=>ai (aI I h6)<|L h) (fun h2 h=>ai h2<|bE<|ph<|ai (rI 0)<|bm h fun y3 h4 h=>ai (nZ bM h4 (fT _))<|n4<|bI h (hR.f_run_Value y3 a1) fun r5 h=>bE<|ph<|ai (rI 1)<|bm h fun y7 h8 h=>ai (nZ bM h8 (fT _))<|n4<|bI h (hR.f_run_Value y7 a1) fun r9 h=>ai (rfl:Z0)<|b9 h (fun bD h=>ai bD<|bc h fun b5 h=>ai b5<|bI h (kZ (r5+r9)) fun bT h=>L h) (fun bD h=>ai bD<|b9 h (fun a4 h=>ai a4<|bc h fun bY h=>ai bY<|bI h (kZ (r5 - r9)) fun bS h=>L h) (fun a4 h=>ai a4<|b9 h (fun az h=>ai az<|bc h fun bG h=>ai bG<|bI h (kZ (r5*r9)) fun bC h=>L h) (fun az h=>ai az<|b9 h (fun bL h=>ai bL<|bI h (Bt (decide (r5<r9))) fun bd h=>bI h (kZ bd) fun ba h=>L h) (fun bL h=>ai bL<|b9 h (fun a3 h=>ai a3<|bI h (Bt (r5==r9)) fun bV h=>bI h (kZ bV) fun bN h=>L h) (fun a3 h=>ai a3<|bI h (kZ 0) fun bR h=>L h)))))))
def sn:Nat→AL
 | 0=>⟨fun z0 z1=>none⟩
 | n+1=>⟨tY (sn n)⟩
theorem Ec:∀ n,Eb (sn n)
 | 0=>⟨fun _ _ r h=>(by cases h)⟩
 | n+1=>⟨fun a0 a1 r h=>HR _ (Ec n) a0 a1 r h⟩
def n7:Option Int:=ev fun n=>(sn n).f_run_Value a0 a1
theorem rL(r:Int)(h:n7 a0 a1=some r):AK a0 a1 r:=by
 obtain ⟨n,hn⟩:=u9 h
 exact (Ec n).f_run_Value a0 a1 r hn
end
section
variable (a0:Int)
abbrev My(a0:Int)(r:Bool):bA×HP:=(.ret (.b r),H0)
def tZ:Option Bool:=
 if -2147483648≤a0 then
  some (decide (a0≤2147483647))
 else
  some false
theorem HS(r:Bool)(h:tZ a0=some r):call G Ω0 E0 105 [(I a0)] H0=some (My a0 r):=
 a8 agH (.or (fh<|.nil) (Hu<|.nil)) fun L=>da h (fun h1 h=>tm (aE h1)<|L h) (fun h1 h=>tm (aG h1)<|L h)
end
end
end Go.Proofs.YtlmphbbhaeampaaGreat.A
