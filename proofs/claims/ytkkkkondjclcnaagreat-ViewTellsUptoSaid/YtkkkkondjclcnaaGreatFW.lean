/- Functions of the program as plain functions, by program. -/
import Derived.Test.YtkkkkondjclcnaaGreatTypes
import Derived.Test.YtkkkkondjclcnaaGreatLift
import Derived.Test.YtkkkkondjclcnaaGreatInfRE
import Derived.Test.YtkkkkondjclcnaaGreatFQ
import Derived.Test.YtkkkkondjclcnaaGreatFR
set_option linter.all false
set_option maxRecDepth 100000
namespace Go.Proofs.YtkkkkondjclcnaaGreat.A
open Go
noncomputable section
variable [Lp]
section
variable (a0:Level)(a1:Int)(a2:Bool)
abbrev T5(a0:Level)(a1:Int)(a2:Bool)(r:Bool):bm×HP:=(.ret (.b r),H0)
def oS:Option Bool:=
 if a2=true then
  (ed a1).bind fun (j2:Nat)=>
  (a0.Writers[j2]?).bind fun (y4:Bool)=>
  some (!y4)
 else
  (ed a1).bind fun (j2:Nat)=>
  (a0.Readers[j2]?).bind fun (y4:Bool)=>
  some y4
theorem Ac(r:Bool)(h:oS a0 a1 a2=some r):call G Ω0 E0 70 [(.a [(.l 4 (a0.Readers.map AV.b)),(.l 4 (a0.Writers.map AV.b))]),(I a1),(.b a2)] H0=some (T5 a0 a1 a2 r):=
 aX G70 (.or (en<|xN fun j2=>xB fun y4=>.nil) (bf<|bt<|xN fun j2=>xB fun y4=>.nil)) fun L=>ai tt<|bI h (fun h1 h=>kP h1<|kC h fun j2 h3 h=>ai h3<|bR h fun y4 h5 h=>ai (aD AV.b h5)<|L h) (fun h1 h=>kP h1<|kC h fun j2 h3 h=>ai h3<|bR h fun y4 h5 h=>ai (aD AV.b h5)<|L h)
end
section
variable (a0:Program)(a1:Int)(a2:Bool)(a3:Int)
abbrev P6(a0:Program)(a1:Int)(a2:Bool)(a3:Int)(r:Bool):bm×HP:=(.ret (.b r),H0)
def uq:Option Bool:=
 (ed a3).bind fun (j1:Nat)=>
 (a0.Ins[j1]?).bind fun (y3:Label)=>
 (jP a0.aj y3).bind fun (r5:Level)=>
 (oS r5 a1 a2).bind fun (r7:Bool)=>
 some r7
theorem Kz(r:Bool)(h:uq a0 a1 a2 a3=some r):call G Ω0 E0 23 [(.a (ar a0)),(I a1),(.b a2),(I a3)] H0=some (P6 a0 a1 a2 a3 r):=
 aX G23 (en<|xN fun j1=>.ex fun (y3:Label)=>ao (.v (.a [(.l 138 (y3.Read.map aE)),(.l 138 (y3.Write.map aE))]))<|.ex fun (r5:Level)=>ao (.v (.a [(.l 4 (r5.Readers.map AV.b)),(.l 4 (r5.Writers.map AV.b))]))<|xB fun r7=>.nil) fun L=>bq<|ai tt<|ai (rfl:Z0)<|bq<|ai (rfl:Z0)<|bq<|kC h fun j1 h2 h=>ai h2<|bR h fun y3 h4 h=>ai (aD ay h4)<|bq<|aW h (rO a0.aj y3) fun r5 h=>zU<|aW h (Ac r5 a1 a2) fun r7 h=>L h
end
section
variable (a0:Program)(a1:gm)(a2:Int)(a3:Bool)(a4:Event)
abbrev KA(a0:Program)(a1:gm)(a2:Int)(a3:Bool)(a4:Event)(r:Bool):bm×HP:=(.ret (.b r),H0)
def mC:Option Bool:=
 if (a4.Kind==1)=true then
  (ed a4.Which).bind fun (j2:Nat)=>
  (a0.Outs[j2]?).bind fun (y4:Label)=>
  (jP a0.aj y4).bind fun (r6:Level)=>
  (oS r6 a2 a3).bind fun (r8:Bool)=>
  some r8
 else
  (ed a4.Which).bind fun (j2:Nat)=>
  (a1.Vars[j2]?).bind fun (y4:Level)=>
  (oS y4 a2 a3).bind fun (r6:Bool)=>
  some r6
theorem F6(r:Bool)(h:mC a0 a1 a2 a3 a4=some r):call G Ω0 E0 71 [(.a (ar a0)),(.a [(.l 45 (a1.Vars.map aT)),(.l 45 (a1.Funcs.map aT))]),(I a2),(.b a3),(.a (dS a4))] H0=some (KA a0 a1 a2 a3 a4 r):=
 aX G71 (bt<|.or (qx<|xN fun j2=>.ex fun (y4:Label)=>ao (.v (.a [(.l 138 (y4.Read.map aE)),(.l 138 (y4.Write.map aE))]))<|.ex fun (r6:Level)=>ao (.v (.a [(.l 4 (r6.Readers.map AV.b)),(.l 4 (r6.Writers.map AV.b))]))<|xB fun r8=>.nil) (bf<|bt<|bt<|xN fun j2=>.ex fun (y4:Level)=>ao (.v (.a [(.l 4 (y4.Readers.map AV.b)),(.l 4 (y4.Writers.map AV.b))]))<|xB fun r6=>.nil)) fun L=>bq<|ai tt<|ai (rfl:Z0)<|bI h (fun h1 h=>ai h1<|bq<|ai (rfl:Z0)<|bq<|ai (rfl:Z0)<|bq<|fB<|kC h fun j2 h3 h=>ai h3<|bR h fun y4 h5 h=>ai (aD ay h5)<|bq<|aW h (rO a0.aj y4) fun r6 h=>zU<|aW h (Ac r6 a2 a3) fun r8 h=>L h) (fun h1 h=>Ps h1<|kC h fun j2 h3 h=>ai h3<|bR h fun y4 h5 h=>ai (aD aT h5)<|aW h (Ac y4 a2 a3) fun r6 h=>L h)
end
section
variable (a0:Program)(a1:Int)(a2:Bool)(a3:(List Event))(r1:gm)(v0_10:(List Event))(v0_11:Nat)
def od:Option (((List Event)×Nat)⊕((List Event)×Nat×Bool)):=
 if (v0_11:Int)<(a3.length:Int) then
  (a3[v0_11]?).bind fun (y4:Event)=>
  (mC a0 r1 a1 a2 y4).bind fun (r6:Bool)=>
  if r6=true then
   if v0_10.length + [y4].length≤1000000000 then
    if IntKind.i64.wrap ((v0_11:Int)+1)=((v0_11+1:Nat):Int) then
     some (.inl (v0_10++[y4],v0_11+1))
    else none
   else none
  else
   if IntKind.i64.wrap ((v0_11:Int)+1)=((v0_11+1:Nat):Int) then
    some (.inl (v0_10,v0_11+1))
   else none
 else
  some (.inr (v0_10,v0_11,decide ((v0_11:Int)<(a3.length:Int))))
abbrev MS(v:((List Event)×Nat)):St:=⟨[(1,(I a1)),(2,(.b a2)),(3,(.l 125 (a3.map aH))),(4,(.p ⟨0,4⟩ 0)),(9,(.p ⟨0,9⟩ 0)),(10,(.o 125 (v.1.map aH))),(11,(I (v.2:Int)))],[(4,(ar a0)),(9,[(.l 45 (r1.Vars.map aT)),(.l 45 (r1.Funcs.map aT))])],H0⟩
abbrev DQ(x:((List Event)×Nat×Bool)):aI×St:=((.ex 0),⟨[(1,(I a1)),(2,(.b a2)),(3,(.l 125 (a3.map aH))),(4,(.p ⟨0,4⟩ 0)),(9,(.p ⟨0,9⟩ 0)),(10,(.o 125 (x.1.map aH))),(11,(I (x.2.1:Int))),(17,(.b x.2.2))],[(4,(ar a0)),(9,[(.l 45 (r1.Vars.map aT)),(.l 45 (r1.Funcs.map aT))])],H0⟩)
theorem KB(o:((List Event)×Nat)⊕((List Event)×Nat×Bool))(h:od a0 a1 a2 a3 r1 v0_10 v0_11=some o):bz E0 UM (MS a0 a1 a2 a3 r1) (DQ a0 a1 a2 a3 r1) (v0_10,v0_11) o:=
 bG (ao (.i (a3.length:Int))<|.or (iu<|ao (.n v0_11)<|.ex fun (y4:Event)=>ao (.v (.a (dS y4)))<|xB fun r6=>.or (bt<|ao (.n v0_11)<|ao (.v (.a (dS y4)))<|ao (.l ([y4].map aH))<|ao (.l ((v0_10++[y4]).map aH))<|ao (.i ((v0_11+1:Nat):Int))<|.nil) (bf<|ao (.i ((v0_11+1:Nat):Int))<|.nil)) (bf<|.nil)) fun L=>ai (aC aH a3)<|bP h (fun h3 h=>ai (av h3)<|ai tt<|fB<|ai (rfl:Z0)<|bq<|bq<|ai tt<|ai (rI v0_11)<|bR h fun y4 h5 h=>ai (aD aH h5)<|bq<|aW h (F6 a0 r1 a1 a2 y4) fun r6 h=>bI h (fun h8 h=>ai h8<|ai (rI v0_11)<|ai (aD aH h5)<|ai (rfl:[(.a (dS y4))]=[y4].map aH)<|ai ff<|aJ h fun h9 h=>ai ((ir aH (n:=4) (fun _=>rfl) [y4]):([y4].map aH).all (fun e=>e.nc==4)=true)<|ai ((la h9 (by decide)):((v0_10.map aH).length+([y4].map aH).length)*32≤140737488355328)<|ai ((lf h9):(v0_10.map aH).length+([y4].map aH).length≤maxLen)<|ai (cI.symm:v0_10.map aH++[y4].map aH=(v0_10++[y4]).map aH)<|aJ h fun w10 h=>ai w10<|L h) (fun h8 h=>ai h8<|aJ h fun w9 h=>ai w9<|L h)) (fun h3 h=>ai (aw h3)<|L h)
abbrev P7(a0:Program)(a1:Int)(a2:Bool)(a3:(List Event))(r:(List Event)):bm×HP:=(.ret (.l 125 (r.map aH)),H0)
def ur:Option (List Event):=
 (nD a0).bind fun (r1:gm)=>
 (lp (fun v=>od a0 a1 a2 a3 r1 v.1 v.2) (([]:List Event),0)).bind fun (x3:((List Event)×Nat×Bool))=>
 some x3.1
theorem KC(r:(List Event))(h:ur a0 a1 a2 a3=some r):call G Ω0 E0 24 [(.a (ar a0)),(I a1),(.b a2),(.l 125 (a3.map aH))] H0=some (P7 a0 a1 a2 a3 r):=
 aX G24 (bt<|.ex fun (r1:gm)=>ao (.v (.a [(.l 45 (r1.Vars.map aT)),(.l 45 (r1.Funcs.map aT))]))<|en<|.ex fun (x3:((List Event)×Nat×Bool))=>ao (.bX (DQ a0 a1 a2 a3 r1 x3))<|.nil) fun L=>su<|aW h (Jk a0) fun r1 h=>ai tt<|ai ff<|fB<|ai (rfl:Z0)<|aW h (dZ (fun v=>KB a0 a1 a2 a3 r1 v.1 v.2) (([]:List Event),0)) fun x3 h=>L h
end
section
variable (a0:Program)(a1:(List Event))(v0_5:Nat)(w2_1:Nat)
def na(a0:Program)(a1:(List Event))(v0_5:Nat)(w2_1:Nat):Option (Bool⊕Unit):=
 (a1[v0_5]?).bind fun (y8:Event)=>
 if IntKind.i64.wrap ((w2_1:Int) - 1)=(w2_1:Int) - 1 then
  (eB y8.Which 0 ((w2_1:Int) - 1)).bind fun (r11:Bool)=>
  if r11=true then
   some (.inl (!r11))
  else
   some (.inr ())
 else none
abbrev ka(w2_1:Nat)(x:(Bool⊕Unit)):aI×St:=match x with | .inl z1=>(.nrm,⟨[(1,(.l 125 (a1.map aH))),(2,(.p ⟨0,2⟩ 0)),(5,(I (v0_5:Int))),(40,(.b z1))],[(2,(ar a0))],H0⟩) | .inr ()=>(.ret,⟨[(4,(I 5))],[],H0⟩)
theorem uL(x:(Bool⊕Unit))(h:na a0 a1 v0_5 w2_1=some x):run G Ω0 E0 UK ⟨[(1,(.l 125 (a1.map aH))),(2,(.p ⟨0,2⟩ 0)),(5,(I (v0_5:Int))),(6,(I (w2_1:Int)))],[(2,(ar a0))],H0⟩=some (ka a0 a1 v0_5 w2_1 x):=
 vu (ao (.n v0_5)<|.ex fun (y8:Event)=>ao (.v (.a (dS y8)))<|ao (.i ((w2_1:Int) - 1))<|xB fun r11=>.or (bf<|.nil) (bt<|.nil)) fun L=>ai (rI v0_5)<|bR h fun y8 h9 h=>ai (aD aH h9)<|aJ h fun w10 h=>ai w10<|aW h (eA y8.Which 0 ((w2_1:Int) - 1)) fun r11 h=>bI h (fun h13 h=>ai (an not h13)<|L h) (fun h13 h=>ai (an not h13)<|L h)
def iY:Option (Nat⊕(Unit⊕(Unit⊕(Nat×Bool)))):=
 if (v0_5:Int)<(a1.length:Int) then
  (a1[v0_5]?).bind fun (y2:Event)=>
  (eB y2.Kind 1 3).bind fun (r4:Bool)=>
  if r4=true then
   if (y2.Kind==1)=true then
    (na a0 a1 v0_5 a0.Outs.length).bind fun (x8:(Bool⊕Unit))=>match x8 with
    | .inl ya_9=>
     if IntKind.i64.wrap ((v0_5:Int)+1)=((v0_5+1:Nat):Int) then
      some (.inl (v0_5+1))
     else none
    | .inr yb_9=>
     some (.inr (.inl ()))
   else
    (na a0 a1 v0_5 a0.Vars.length).bind fun (x8:(Bool⊕Unit))=>match x8 with
    | .inl ya_9=>
     if IntKind.i64.wrap ((v0_5:Int)+1)=((v0_5+1:Nat):Int) then
      some (.inl (v0_5+1))
     else none
    | .inr yb_9=>
     some (.inr (.inl ()))
  else
   some (.inr (.inr (.inl ())))
 else
  some (.inr (.inr (.inr (v0_5,decide ((v0_5:Int)<(a1.length:Int))))))
abbrev EM(v:Nat):St:=⟨[(1,(.l 125 (a1.map aH))),(2,(.p ⟨0,2⟩ 0)),(5,(I (v:Int)))],[(2,(ar a0))],H0⟩
abbrev nN(x:(Unit⊕(Unit⊕(Nat×Bool)))):aI×St:=match x with | .inl ()=>(.ret,⟨[(4,(I 5))],[],H0⟩) | .inr (.inl ())=>(.ret,⟨[(4,(I 7))],[],H0⟩) | .inr (.inr (z1,z2))=>((.ex 0),⟨[(1,(.l 125 (a1.map aH))),(2,(.p ⟨0,2⟩ 0)),(5,(I (z1:Int))),(10,(.b z2))],[(2,(ar a0))],H0⟩)
theorem DR(o:Nat⊕(Unit⊕(Unit⊕(Nat×Bool))))(h:iY a0 a1 v0_5=some o):bz E0 UL (EM a0 a1) (nN a0 a1) v0_5 o:=
 bG (ao (.i (a1.length:Int))<|.or (bt<|ao (.n v0_5)<|.ex fun (y2:Event)=>ao (.v (.a (dS y2)))<|xB fun r4=>.or (bf<|bt<|ao (.i (a0.Vars.length:Int))<|ao (.n v0_5)<|ao (.v (.a (dS y2)))<|.or (en<|ao (.i (a0.Outs.length:Int))<|.fb<|.or (.ex fun (ya_9:Bool)=>ao (.jJ (ka a0 a1 v0_5 a0.Outs.length (.inl ya_9)))<|ao (.i ((v0_5+1:Nat):Int))<|.nil) (.ex fun (yb_9:Unit)=>ao (.jJ (ka a0 a1 v0_5 a0.Outs.length (.inr yb_9)))<|.nil)) (bf<|.fb<|.or (.ex fun (ya_9:Bool)=>ao (.jJ (ka a0 a1 v0_5 a0.Vars.length (.inl ya_9)))<|ao (.i ((v0_5+1:Nat):Int))<|.nil) (.ex fun (yb_9:Unit)=>ao (.jJ (ka a0 a1 v0_5 a0.Vars.length (.inr yb_9)))<|.nil))) (bt<|.nil)) (bf<|.nil)) fun L=>ai (aC aH a1)<|bP h (fun h1 h=>ai (av h1)<|ai (rI v0_5)<|bR h fun y2 h3 h=>ai (aD aH h3)<|aW h (eA y2.Kind 1 3) fun r4 h=>bI h (fun h6 h=>kP (an not h6)<|ai (aC cJ a0.Vars)<|ai (rI v0_5)<|ai (aD aH h3)<|bI h (fun h7 h=>kP h7<|ai (aC ay a0.Outs)<|dy h (uL a0 a1 v0_5 a0.Outs.length) (fun ya_9 h=>aJ h fun w11 h=>ai w11<|L h) (fun yb_9 h=>L h)) (fun h7 h=>ai h7<|dy h (uL a0 a1 v0_5 a0.Vars.length) (fun ya_9 h=>aJ h fun w11 h=>ai w11<|L h) (fun yb_9 h=>L h))) (fun h6 h=>ai (an not h6)<|L h)) (fun h1 h=>ai (aw h1)<|L h)
abbrev HS(a0:Program)(a1:(List Event))(r:Int):bm×HP:=(.ret (I r),H0)
def pQ:Option Int:=
 (lp (fun v=>iY a0 a1 v) 0).bind fun (x1:(Unit⊕(Unit⊕(Nat×Bool))))=>match x1 with
 | .inl ya_2=>
  some 5
 | .inr (.inl yb_2)=>
  some 7
 | .inr (.inr yc_2)=>
  some 0
theorem DS(r:Int)(h:pQ a0 a1=some r):call G Ω0 E0 22 [(.a (ar a0)),(.l 125 (a1.map aH))] H0=some (HS a0 a1 r):=
 aX G22 (.or (.ex fun (ya_2:Unit)=>ao (.bX (nN a0 a1 (.inl ya_2)))<|.nil) (.or (.ex fun (yb_2:Unit)=>ao (.bX (nN a0 a1 (.inr (.inl yb_2))))<|.nil) (.ex fun (yc_2:(Nat×Bool))=>ao (.bX (nN a0 a1 (.inr (.inr yc_2))))<|.nil))) fun L=>ai tt<|K0 h (dZ (DR a0 a1) 0) (fun ya_2 h=>L h) (fun yb_2 h=>L h) (fun yc_2 h=>L h)
end
section
variable (a0:(List Int))(a1:(List Int))(v0_5:Nat)
def lL:Option (Nat⊕(Unit⊕(Nat×Bool))):=
 if (v0_5:Int)<(a0.length:Int) then
  (a0[v0_5]?).bind fun (y3:Int)=>
  (a1[v0_5]?).bind fun (y5:Int)=>
  if (y3 !=y5)=true then
   some (.inr (.inl ()))
  else
   if IntKind.i64.wrap ((v0_5:Int)+1)=((v0_5+1:Nat):Int) then
    some (.inl (v0_5+1))
   else none
 else
  some (.inr (.inr (v0_5,decide ((v0_5:Int)<(a0.length:Int)))))
abbrev Jm(v:Nat):St:=⟨[(0,(.l 3 (a0.map (I)))),(1,(.l 3 (a1.map (I)))),(5,(I (v:Int)))],[],H0⟩
abbrev vn(x:(Unit⊕(Nat×Bool))):aI×St:=match x with | .inl ()=>(.ret,⟨[(4,(.b false))],[],H0⟩) | .inr (z1,z2)=>((.ex 0),⟨[(0,(.l 3 (a0.map (I)))),(1,(.l 3 (a1.map (I)))),(5,(I (z1:Int))),(14,(.b z2))],[],H0⟩)
theorem HT(o:Nat⊕(Unit⊕(Nat×Bool)))(h:lL a0 a1 v0_5=some o):bz E0 Vw (Jm a0 a1) (vn a0 a1) v0_5 o:=
 bG (ao (.i (a0.length:Int))<|.or (bt<|ao (.n v0_5)<|xI fun y3=>ao (.n v0_5)<|xI fun y5=>oN (ao (.i ((v0_5+1:Nat):Int))<|.nil)) (bf<|.nil)) fun L=>ai (aC (I) a0)<|bP h (fun h2 h=>Lv (av h2)<|ai (rI v0_5)<|bR h fun y3 h4 h=>ai (aD (I) h4)<|uS<|ai (rI v0_5)<|bR h fun y5 h6 h=>ai (aD (I) h6)<|bq<|bI h (fun h7 h=>ai h7<|L h) (fun h7 h=>ai h7<|aJ h fun w8 h=>ai w8<|L h)) (fun h2 h=>ai (aw h2)<|L h)
abbrev MT(a0:(List Int))(a1:(List Int))(r:Bool):bm×HP:=(.ret (.b r),H0)
def uu:Option Bool:=
 if ((a0.length:Int) !=(a1.length:Int))=true then
  some false
 else
  (lp (fun v=>lL a0 a1 v) 0).bind fun (x2:(Unit⊕(Nat×Bool)))=>match x2 with
  | .inl ya_3=>
   some false
  | .inr yb_3=>
   some true
theorem HU(r:Bool)(h:uu a0 a1=some r):call G Ω0 E0 74 [(.l 3 (a0.map (I))),(.l 3 (a1.map (I)))] H0=some (MT a0 a1 r):=
 aX G74 (ao (.i (a0.length:Int))<|ao (.i (a1.length:Int))<|oN (.or (.ex fun (ya_3:Unit)=>ao (.bX (vn a0 a1 (.inl ya_3)))<|.nil) (.ex fun (yb_3:(Nat×Bool))=>ao (.bX (vn a0 a1 (.inr yb_3)))<|.nil))) fun L=>ai (aC (I) a0)<|ai (aC (I) a1)<|bI h (fun h1 h=>ai h1<|L h) (fun h1 h=>ai h1<|dy h (dZ (HT a0 a1) 0) (fun ya_3 h=>L h) (fun yb_3 h=>L h))
end
section
variable (a0:(List (List Int)))(a1:(List (List Int)))(v0_5:Nat)
def kr:Option (Nat⊕(Unit⊕(Nat×Bool))):=
 if (v0_5:Int)<(a0.length:Int) then
  (a0[v0_5]?).bind fun (y3:(List Int))=>
  (a1[v0_5]?).bind fun (y5:(List Int))=>
  (uu y3 y5).bind fun (r7:Bool)=>
  if r7=true then
   if IntKind.i64.wrap ((v0_5:Int)+1)=((v0_5+1:Nat):Int) then
    some (.inl (v0_5+1))
   else none
  else
   some (.inr (.inl ()))
 else
  some (.inr (.inr (v0_5,decide ((v0_5:Int)<(a0.length:Int)))))
abbrev HV(v:Nat):St:=⟨[(0,(.l 25 (a0.map (bc 3 (I))))),(1,(.l 25 (a1.map (bc 3 (I))))),(5,(I (v:Int)))],[],H0⟩
abbrev uv(x:(Unit⊕(Nat×Bool))):aI×St:=match x with | .inl ()=>(.ret,⟨[(4,(.b false))],[],H0⟩) | .inr (z1,z2)=>((.ex 0),⟨[(0,(.l 25 (a0.map (bc 3 (I))))),(1,(.l 25 (a1.map (bc 3 (I))))),(5,(I (z1:Int))),(14,(.b z2))],[],H0⟩)
theorem F7(o:Nat⊕(Unit⊕(Nat×Bool)))(h:kr a0 a1 v0_5=some o):bz E0 UN (HV a0 a1) (uv a0 a1) v0_5 o:=
 bG (ao (.i (a0.length:Int))<|.or (bt<|ao (.n v0_5)<|.ex fun (y3:(List Int))=>ao (.v (.l 3 (y3.map (I))))<|ao (.n v0_5)<|.ex fun (y5:(List Int))=>ao (.v (.l 3 (y5.map (I))))<|xB fun r7=>.or (bf<|ao (.i ((v0_5+1:Nat):Int))<|.nil) (bt<|.nil)) (bf<|.nil)) fun L=>ai (aC (bc 3 (I)) a0)<|bP h (fun h2 h=>Lv (av h2)<|ai (rI v0_5)<|bR h fun y3 h4 h=>ai (aD (bc 3 (I)) h4)<|uS<|ai (rI v0_5)<|bR h fun y5 h6 h=>ai (aD (bc 3 (I)) h6)<|bq<|aW h (HU y3 y5) fun r7 h=>bI h (fun h9 h=>ai (an not h9)<|aJ h fun w10 h=>ai w10<|L h) (fun h9 h=>ai (an not h9)<|L h)) (fun h2 h=>ai (aw h2)<|L h)
abbrev KD(a0:(List (List Int)))(a1:(List (List Int)))(r:Bool):bm×HP:=(.ret (.b r),H0)
def sU:Option Bool:=
 if ((a0.length:Int) !=(a1.length:Int))=true then
  some false
 else
  (lp (fun v=>kr a0 a1 v) 0).bind fun (x2:(Unit⊕(Nat×Bool)))=>match x2 with
  | .inl ya_3=>
   some false
  | .inr yb_3=>
   some true
theorem F8(r:Bool)(h:sU a0 a1=some r):call G Ω0 E0 26 [(.l 25 (a0.map (bc 3 (I)))),(.l 25 (a1.map (bc 3 (I))))] H0=some (KD a0 a1 r):=
 aX G26 (ao (.i (a0.length:Int))<|ao (.i (a1.length:Int))<|oN (.or (.ex fun (ya_3:Unit)=>ao (.bX (uv a0 a1 (.inl ya_3)))<|.nil) (.ex fun (yb_3:(Nat×Bool))=>ao (.bX (uv a0 a1 (.inr yb_3)))<|.nil))) fun L=>ai (aC (bc 3 (I)) a0)<|ai (aC (bc 3 (I)) a1)<|bI h (fun h1 h=>ai h1<|L h) (fun h1 h=>ai h1<|dy h (dZ (F7 a0 a1) 0) (fun ya_3 h=>L h) (fun yb_3 h=>L h))
end
section
variable (a0:(List Event))(a1:(List Event))(v0_5:Nat)
def jG:Option (Nat⊕(Unit⊕(Nat×Bool))):=
 if (v0_5:Int)<(a0.length:Int) then
  (a0[v0_5]?).bind fun (y3:Event)=>
  (a1[v0_5]?).bind fun (y5:Event)=>
  if ((y3.Kind==y5.Kind)&&((y3.At==y5.At)&&((y3.Which==y5.Which)&&((y3.Value==y5.Value)&&true))))=true then
   if IntKind.i64.wrap ((v0_5:Int)+1)=((v0_5+1:Nat):Int) then
    some (.inl (v0_5+1))
   else none
  else
   some (.inr (.inl ()))
 else
  some (.inr (.inr (v0_5,decide ((v0_5:Int)<(a0.length:Int)))))
abbrev F9(v:Nat):St:=⟨[(0,(.l 125 (a0.map aH))),(1,(.l 125 (a1.map aH))),(5,(I (v:Int)))],[],H0⟩
abbrev tr(x:(Unit⊕(Nat×Bool))):aI×St:=match x with | .inl ()=>(.ret,⟨[(4,(.b false))],[],H0⟩) | .inr (z1,z2)=>((.ex 0),⟨[(0,(.l 125 (a0.map aH))),(1,(.l 125 (a1.map aH))),(5,(I (z1:Int))),(14,(.b z2))],[],H0⟩)
theorem EN(o:Nat⊕(Unit⊕(Nat×Bool)))(h:jG a0 a1 v0_5=some o):bz E0 UO (F9 a0 a1) (tr a0 a1) v0_5 o:=
 bG (ao (.i (a0.length:Int))<|.or (bt<|ao (.n v0_5)<|.ex fun (y3:Event)=>ao (.v (.a (dS y3)))<|ao (.n v0_5)<|.ex fun (y5:Event)=>ao (.v (.a (dS y5)))<|ao (.b ((y3.Kind==y5.Kind)&&((y3.At==y5.At)&&((y3.Which==y5.Which)&&((y3.Value==y5.Value)&&true)))))<|.or (bf<|ao (.i ((v0_5+1:Nat):Int))<|.nil) (bt<|.nil)) (bf<|.nil)) fun L=>ai (aC aH a0)<|bP h (fun h2 h=>Lv (av h2)<|ai (rI v0_5)<|bR h fun y3 h4 h=>ai (aD aH h4)<|uS<|ai (rI v0_5)<|bR h fun y5 h6 h=>ai (aD aH h6)<|bq<|ai (rfl:iZ [1,1,1,1] (dS y3) (dS y5)=some ((y3.Kind==y5.Kind)&&((y3.At==y5.At)&&((y3.Which==y5.Which)&&((y3.Value==y5.Value)&&true)))))<|bI h (fun h7 h=>ai (an not h7)<|aJ h fun w8 h=>ai w8<|L h) (fun h7 h=>ai (an not h7)<|L h)) (fun h2 h=>ai (aw h2)<|L h)
abbrev Jn(a0:(List Event))(a1:(List Event))(r:Bool):bm×HP:=(.ret (.b r),H0)
def rQ:Option Bool:=
 if ((a0.length:Int) !=(a1.length:Int))=true then
  some false
 else
  (lp (fun v=>jG a0 a1 v) 0).bind fun (x2:(Unit⊕(Nat×Bool)))=>match x2 with
  | .inl ya_3=>
   some false
  | .inr yb_3=>
   some true
theorem EO(r:Bool)(h:rQ a0 a1=some r):call G Ω0 E0 27 [(.l 125 (a0.map aH)),(.l 125 (a1.map aH))] H0=some (Jn a0 a1 r):=
 aX G27 (ao (.i (a0.length:Int))<|ao (.i (a1.length:Int))<|oN (.or (.ex fun (ya_3:Unit)=>ao (.bX (tr a0 a1 (.inl ya_3)))<|.nil) (.ex fun (yb_3:(Nat×Bool))=>ao (.bX (tr a0 a1 (.inr yb_3)))<|.nil))) fun L=>ai (aC aH a0)<|ai (aC aH a1)<|bI h (fun h1 h=>ai h1<|L h) (fun h1 h=>ai h1<|dy h (dZ (EN a0 a1) 0) (fun ya_3 h=>L h) (fun yb_3 h=>L h))
end
end
end Go.Proofs.YtkkkkondjclcnaaGreat.A
