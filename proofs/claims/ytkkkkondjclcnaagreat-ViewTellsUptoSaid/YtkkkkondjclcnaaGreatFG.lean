/- Functions of the program as plain functions, by program. -/
import Derived.Test.YtkkkkondjclcnaaGreatTypes
import Derived.Test.YtkkkkondjclcnaaGreatLift
import Derived.Test.YtkkkkondjclcnaaGreatFE
import Derived.Test.YtkkkkondjclcnaaGreatFA
set_option linter.all false
set_option maxRecDepth 100000
namespace Go.Proofs.YtkkkkondjclcnaaGreat.A
open Go
noncomputable section
variable [Lp]
section
variable (a0:az)(a1:Int)
abbrev Ko(a0:az)(a1:Int)(r:Int):bm×HP:=(.ret (I r),H0)
abbrev wO(r:Int):Prop:=call G Ω0 E0 53 [(.a (ey a0)),(I a1)] H0=some (Ko a0 a1 r)
end
structure wP where
 f_R_exprParts:az→Int→Option Int
structure vj(R:wP):Prop where
 f_R_exprParts:∀ (a0:az)(a1:Int)(r:Int),R.f_R_exprParts a0 a1=some r→wO a0 a1 r
section
variable (R:wP)(a0:az)(a1:Int)(v0_5:Int)(v0_6:Nat)
def pM:Option ((Int×Nat)⊕(Bool×Int×Nat)):=
 if (v0_6:Int)<(a0.Args.length:Int) then
  if v0_5≤a1 then
   (a0.Args[v0_6]?).bind fun (y3:az)=>
   if IntKind.i64.wrap (a1 - v0_5)=a1 - v0_5 then
    (R.f_R_exprParts y3 (a1 - v0_5)).bind fun (r6:Int)=>
    if IntKind.i64.wrap (v0_5+r6)=v0_5+r6 then
     if IntKind.i64.wrap ((v0_6:Int)+1)=((v0_6+1:Nat):Int) then
      some (.inl (v0_5+r6,v0_6+1))
     else none
    else none
   else none
  else
   some (.inr (decide (v0_5≤a1),v0_5,v0_6))
 else
  some (.inr (false,v0_5,v0_6))
abbrev Hw(v:(Int×Nat)):St:=⟨[(1,(I a1)),(2,(.p ⟨0,2⟩ 0)),(5,(I v.1)),(6,(I (v.2:Int)))],[(2,(ey a0))],H0⟩
abbrev zE(x:(Bool×Int×Nat)):aI×St:=((.ex 0),⟨[(1,(I a1)),(2,(.p ⟨0,2⟩ 0)),(5,(I x.2.1)),(6,(I (x.2.2:Int))),(16,(.b x.1))],[(2,(ey a0))],H0⟩)
theorem FM(hR:vj R)(a0:az)(a1:Int)(v0_5:Int)(v0_6:Nat)(o:(Int×Nat)⊕(Bool×Int×Nat))(h:pM R a0 a1 v0_5 v0_6=some o):bz E0 Vf (Hw a0 a1) (zE a0 a1) (v0_5,v0_6) o:=
 bG (bt<|ao (.i (a0.Args.length:Int))<|.or (qx<|.or (en<|ao (.n v0_6)<|.ex fun (y3:az)=>ao (.v (.a (ey y3)))<|ao (.i (a1 - v0_5))<|xI fun r6=>ao (.i (v0_5+r6))<|ao (.i ((v0_6+1:Nat):Int))<|.nil) (bf<|.nil)) (Tu<|.nil)) fun L=>ai (rfl:Z0)<|ai (aC aQ a0.Args)<|bP h (fun h1 h=>Ff (av h1)<|bP h (fun h2 h=>kP (av h2)<|ai (rI v0_6)<|bR h fun y3 h4 h=>ai (oE aQ h4 (dI _))<|aJ h fun w5 h=>ai w5<|aW h (hR.f_R_exprParts y3 (a1 - v0_5)) fun r6 h=>aJ h fun w8 h=>ai w8<|aJ h fun w9 h=>ai w9<|L h) (fun h2 h=>ai (aw h2)<|L h)) (fun h1 h=>dt (aw h1)<|rZ (aw h1)<|ai ff<|L h)
def rH:Option Int:=
 (lp (fun v=>pM R a0 a1 v.1 v.2) (1,0)).bind fun (x1:(Bool×Int×Nat))=>
 some x1.2.1
theorem ED(hR:vj R)(a0:az)(a1:Int)(r:Int)(h:rH R a0 a1=some r):wO a0 a1 r:=
 aX G53 (.ex fun (x1:(Bool×Int×Nat))=>ao (.bX (zE a0 a1 x1))<|.nil) fun L=>ai tt<|aW h (dZ (fun v=>FM R hR a0 a1 v.1 v.2) (1,0)) fun x1 h=>L h
def mx:Nat→wP
 | 0=>⟨fun z0 z1=>none⟩
 | n+1=>⟨rH (mx n)⟩
theorem AS:∀ n,vj (mx n)
 | 0=>⟨fun _ _ r h=>(by cases h)⟩
 | n+1=>⟨fun a0 a1 r h=>ED _ (AS n) a0 a1 r h⟩
def wQ:Option Int:=ev fun n=>(mx n).f_R_exprParts a0 a1
theorem FN(r:Int)(h:wQ a0 a1=some r):wO a0 a1 r:=by
 obtain ⟨n,hn⟩:=uR h
 exact (AS n).f_R_exprParts a0 a1 r hn
abbrev Mv(a0:az)(r:(List az)):bm×HP:=(.ret (.l 37 (r.map aQ)),H0)
abbrev yk(r:(List az)):Prop:=call G Ω0 E0 54 [(.a (ey a0))] H0=some (Mv a0 r)
end
structure yl where
 f_R_allParts:az→Option (List az)
structure wR(R:yl):Prop where
 f_R_allParts:∀ (a0:az)(r:(List az)),R.f_R_allParts a0=some r→yk a0 r
section
variable (R:yl)(a0:az)(v0_3:(List az))(v0_4:Nat)
def rJ:Option (((List az)×Nat)⊕((List az)×Nat×Bool)):=
 if (v0_4:Int)<(a0.Args.length:Int) then
  (a0.Args[v0_4]?).bind fun (y2:az)=>
  (R.f_R_allParts y2).bind fun (r4:(List az))=>
  if v0_3.length+r4.length≤1000000000 then
   if IntKind.i64.wrap ((v0_4:Int)+1)=((v0_4+1:Nat):Int) then
    some (.inl (v0_3++r4,v0_4+1))
   else none
  else none
 else
  some (.inr (v0_3,v0_4,decide ((v0_4:Int)<(a0.Args.length:Int))))
abbrev Jc(v:((List az)×Nat)):St:=⟨[(1,(.p ⟨0,1⟩ 0)),(3,(.o 37 (v.1.map aQ))),(4,(I (v.2:Int)))],[(1,(ey a0))],H0⟩
abbrev AU(x:((List az)×Nat×Bool)):aI×St:=((.ex 0),⟨[(1,(.p ⟨0,1⟩ 0)),(3,(.o 37 (x.1.map aQ))),(4,(I (x.2.1:Int))),(11,(.b x.2.2))],[(1,(ey a0))],H0⟩)
theorem Hx(hR:wR R)(a0:az)(v0_3:(List az))(v0_4:Nat)(o:((List az)×Nat)⊕((List az)×Nat×Bool))(h:rJ R a0 v0_3 v0_4=some o):bz E0 Vg (Jc a0) (AU a0) (v0_3,v0_4) o:=
 bG (bt<|ao (.i (a0.Args.length:Int))<|.or (en<|ao (.n v0_4)<|.ex fun (y2:az)=>ao (.v (.a (ey y2)))<|.ex fun (r4:(List az))=>ao (.v (.l 37 (r4.map aQ)))<|ao (.l ((v0_3++r4).map aQ))<|ao (.i ((v0_4+1:Nat):Int))<|.nil) (bf<|.nil)) fun L=>ai (rfl:Z0)<|ai (aC aQ a0.Args)<|bP h (fun h1 h=>kP (av h1)<|ai (rI v0_4)<|bR h fun y2 h3 h=>ai (oE aQ h3 (dI _))<|aW h (hR.f_R_allParts y2) fun r4 h=>ai ff<|aJ h fun h6 h=>ai ((ir aQ (n:=3) (fun a=>by rw [dI];rfl) r4):(r4.map aQ).all (fun e=>e.nc==3)=true)<|ai ((la h6 (by decide)):((v0_3.map aQ).length+(r4.map aQ).length)*40≤140737488355328)<|ai ((lf h6):(v0_3.map aQ).length+(r4.map aQ).length≤maxLen)<|ai (cI.symm:v0_3.map aQ++r4.map aQ=(v0_3++r4).map aQ)<|aJ h fun w7 h=>ai w7<|L h) (fun h1 h=>ai (aw h1)<|L h)
def sQ:Option (List az):=
 (lp (fun v=>rJ R a0 v.1 v.2) ([a0],0)).bind fun (x1:((List az)×Nat×Bool))=>
 some x1.1
theorem FO(hR:wR R)(a0:az)(r:(List az))(h:sQ R a0=some r):yk a0 r:=
 aX G54 (bt<|ao (.l ([a0].map aQ))<|.ex fun (x1:((List az)×Nat×Bool))=>ao (.bX (AU a0 x1))<|.nil) fun L=>su<|ai ((by simp only [bZ,kB,dI]):[(.a (ey a0))]=[a0].map aQ)<|aW h (dZ (fun v=>Hx R hR a0 v.1 v.2) ([a0],0)) fun x1 h=>L h
def ob:Nat→yl
 | 0=>⟨fun z0=>none⟩
 | n+1=>⟨sQ (ob n)⟩
theorem B3:∀ n,wR (ob n)
 | 0=>⟨fun _ r h=>(by cases h)⟩
 | n+1=>⟨fun a0 r h=>FO _ (B3 n) a0 r h⟩
def uh:Option (List az):=ev fun n=>(ob n).f_R_allParts a0
theorem zF(r:(List az))(h:uh a0=some r):yk a0 r:=by
 obtain ⟨n,hn⟩:=uR h
 exact (B3 n).f_R_allParts a0 r hn
end
section
variable (a0:Int)(a1:Int)(a2:Int)(r4:(List az))(v0_6:Nat)(y7:az)
abbrev ND(a0:Int)(a1:Int)(a2:Int)(r:Bool):bm×HP:=(.ret (.b r),H0)
def eB:Option Bool:=
 if a1≤a0 then
  some (decide (a0≤a2))
 else
  some false
theorem eA(r:Bool)(h:eB a0 a1 a2=some r):call G Ω0 E0 50 [(I a0),(I a1),(I a2)] H0=some (ND a0 a1 a2 r):=
 aX G50 (.or (qx<|.nil) (N2<|.nil)) fun L=>bP h (fun h1 h=>Ff (av h1)<|L h) (fun h1 h=>Ff (aw h1)<|L h)
def FP:List cN:=(gF 27 0 7)::(gQ 28 27)::(gB 29 .leq 28 (kI 2))::(gM 30 29)::⟨some 31,.fa 2 7,some ⟨30,true⟩,false⟩::⟨some 32,.ld none 31,some ⟨30,true⟩,false⟩::⟨some 33,.ln false 32,some ⟨30,true⟩,false⟩::⟨some 34,.bo .neq false 33 (kI 0),some ⟨30,true⟩,false⟩::(gk 35 30 34 (.c (.b false)))::(gM 36 35)::⟨some 37,.fa 0 7,some ⟨36,false⟩,false⟩::⟨some 38,.ld none 37,some ⟨36,false⟩,false⟩::⟨some 39,.bo .gtr false 38 (kI 2),some ⟨36,false⟩,false⟩::⟨some 40,.mv 39,some ⟨36,false⟩,false⟩::⟨some 41,.fa 2 7,some ⟨40,true⟩,false⟩::⟨some 42,.ld none 41,some ⟨40,true⟩,false⟩::⟨some 43,.ln false 42,some ⟨40,true⟩,false⟩::⟨some 44,.bo .neq false 43 (kI 2),some ⟨40,true⟩,false⟩::⟨some 45,.pk 40 44 (.c (.b false)),some ⟨36,false⟩,false⟩::(gp 46 (.pk 36 (.c (.b true)) 45))::[]
def tj(a1:Int)(r4:(List az))(v0_6:Nat)(y7:az):Option Bool:=
 if y7.Kind≤2 then
  if ((y7.Args.length:Int) !=0)=true then
   some true
  else
   if 2<y7.Kind then
    some ((y7.Args.length:Int) !=2)
   else
    some false
 else
  if 2<y7.Kind then
   some ((y7.Args.length:Int) !=2)
  else
   some false
abbrev ym(x:Bool):St:=⟨[(1,(I a1)),(5,(.l 37 (r4.map aQ))),(6,(I (v0_6:Int))),(7,(.p ⟨0,7⟩ 0)),(46,(.b x))],[(7,(ey y7))],H0⟩
theorem EE(x:Bool)(h:tj a1 r4 v0_6 y7=some x):rY G Ω0 E0 [1,5,6,7,46] [7] FP ⟨[(1,(I a1)),(5,(.l 37 (r4.map aQ))),(6,(I (v0_6:Int))),(7,(.p ⟨0,7⟩ 0))],[(7,(ey y7))],H0⟩=some (ym a1 r4 v0_6 y7 x):=
 ss (bt<|.or (qx<|ao (.i (y7.Args.length:Int))<|en<|.or (Tv<|.nil) (uF<|.or (qx<|ao (.i (y7.Args.length:Int))<|bt<|bt<|bt<|bf<|.nil) (bf<|bf<|bf<|bf<|bt<|bf<|bf<|.nil))) (abh<|.or (qx<|ao (.i (y7.Args.length:Int))<|bt<|bt<|bt<|bf<|.nil) (bf<|bf<|bf<|bf<|bt<|bf<|bf<|.nil))) fun L=>ai (rfl:Z0)<|bP h (fun h12 h=>Lu (av h12)<|ai (aC aQ y7.Args)<|rZ (av h12)<|bI h (fun h13 h=>Tq h13<|L h) (fun h13 h=>bY h13<|ai (rfl:Z0)<|bY h13<|bP h (fun h14 h=>Lu (av h14)<|ai (aC aQ y7.Args)<|ai (g1 (av h14))<|ai (g0 h13)<|ai (av h14)<|ai h13<|L h) (fun h14 h=>dt (aw h14)<|dt (aw h14)<|ai (g0 h13)<|ai (aw h14)<|ai h13<|L h))) (fun h12 h=>dt (aw h12)<|dt (aw h12)<|ai (aw h12)<|ai hf<|ai hf<|ai (rfl:Z0)<|ai hf<|ai hf<|bP h (fun h13 h=>Lu (av h13)<|ai (aC aQ y7.Args)<|ai (g1 (av h13))<|ai hf<|ai (av h13)<|ai ff<|L h) (fun h13 h=>dt (aw h13)<|dt (aw h13)<|ai hf<|ai (aw h13)<|ai ff<|L h))
def FQ:List cN:=(gF 47 0 7)::(gQ 48 47)::(gB 49 .eql 48 (kI 1))::(gM 50 49)::⟨some 51,.fa 1 7,some ⟨50,true⟩,false⟩::⟨some 52,.ld none 51,some ⟨50,true⟩,false⟩::⟨some 53,.ca 0 50 [52,(kI (-9999999)),(kI 9999999)],some ⟨50,true⟩,false⟩::⟨some 54,.no 53,some ⟨50,true⟩,false⟩::(gk 55 50 54 (.c (.b false)))::(gM 56 55)::⟨some 57,.fa 0 7,some ⟨56,false⟩,false⟩::⟨some 58,.ld none 57,some ⟨56,false⟩,false⟩::⟨some 59,.bo .gtr false 58 (kI 2),some ⟨56,false⟩,false⟩::⟨some 60,.mv 59,some ⟨56,false⟩,false⟩::⟨some 61,.fa 1 7,some ⟨60,true⟩,false⟩::⟨some 62,.ld none 61,some ⟨60,true⟩,false⟩::⟨some 63,.bo .neq false 62 (kI 0),some ⟨60,true⟩,false⟩::⟨some 64,.pk 60 63 (.c (.b false)),some ⟨56,false⟩,false⟩::(gp 65 (.pk 56 (.c (.b true)) 64))::[]
def tk(a1:Int)(r4:(List az))(v0_6:Nat)(y7:az):Option Bool:=
 if (y7.Kind==1)=true then
  (eB y7.N (-9999999) 9999999).bind fun (r16:Bool)=>
  if r16=true then
   if 2<y7.Kind then
    some (y7.N !=0)
   else
    some false
  else
   some true
 else
  if 2<y7.Kind then
   some (y7.N !=0)
  else
   some false
abbrev yn(x:Bool):St:=⟨[(1,(I a1)),(5,(.l 37 (r4.map aQ))),(6,(I (v0_6:Int))),(7,(.p ⟨0,7⟩ 0)),(65,(.b x))],[(7,(ey y7))],H0⟩
theorem EF(x:Bool)(h:tk a1 r4 v0_6 y7=some x):rY G Ω0 E0 [1,5,6,7,65] [7] FQ ⟨[(1,(I a1)),(5,(.l 37 (r4.map aQ))),(6,(I (v0_6:Int))),(7,(.p ⟨0,7⟩ 0))],[(7,(ey y7))],H0⟩=some (yn a1 r4 v0_6 y7 x):=
 ss (bt<|.or (qx<|xB fun r16=>en<|.or (uF<|.or (Q3<|.nil) (VJ<|.nil)) (Tv<|.nil)) (abh<|.or (Q3<|.nil) (VJ<|.nil))) fun L=>ai (rfl:Z0)<|bI h (fun h15 h=>Lu h15<|aW h (eA y7.N (-9999999) 9999999) fun r16 h=>rZ h15<|bI h (fun h18 h=>bY (an not h18)<|ai (rfl:Z0)<|bY (an not h18)<|bP h (fun h19 h=>Lu (av h19)<|ai (g0 (an not h18))<|ai (av h19)<|ai (an not h18)<|L h) (fun h19 h=>N1 (aw h19)<|ai (g0 (an not h18))<|ai (aw h19)<|ai (an not h18)<|L h)) (fun h18 h=>Tq (an not h18)<|L h)) (fun h15 h=>dt h15<|dt h15<|ai h15<|ai hf<|ai hf<|ai (rfl:Z0)<|ai hf<|ai hf<|bP h (fun h16 h=>dt (av h16)<|ai (rfl:Z0)<|ai (g1 (av h16))<|ai hf<|ai (av h16)<|ai ff<|L h) (fun h16 h=>dt (aw h16)<|ai (g1 (aw h16))<|ai hf<|ai (aw h16)<|ai ff<|L h))
def iS:Option (Nat⊕(Unit⊕(Unit⊕(Unit⊕(Unit⊕(Nat×Bool)))))):=
 if (v0_6:Int)<(r4.length:Int) then
  (r4[v0_6]?).bind fun (y7:az)=>
  (eB y7.Kind 1 7).bind fun (r9:Bool)=>
  if r9=true then
   (tj a1 r4 v0_6 y7).bind fun (x12:Bool)=>
   if x12=true then
    some (.inr (.inl ()))
   else
    (tk a1 r4 v0_6 y7).bind fun (x15:Bool)=>
    if x15=true then
     some (.inr (.inr (.inl ())))
    else
     if (y7.Kind==2)=true then
      if IntKind.i64.wrap (a1 - 1)=a1 - 1 then
       (eB y7.N 0 (a1 - 1)).bind fun (r20:Bool)=>
       if r20=true then
        if IntKind.i64.wrap ((v0_6:Int)+1)=((v0_6+1:Nat):Int) then
         some (.inl (v0_6+1))
        else none
       else
        some (.inr (.inr (.inr (.inl ()))))
      else none
     else
      if IntKind.i64.wrap ((v0_6:Int)+1)=((v0_6+1:Nat):Int) then
       some (.inl (v0_6+1))
      else none
  else
   some (.inr (.inr (.inr (.inr (.inl ())))))
 else
  some (.inr (.inr (.inr (.inr (.inr (v0_6,decide ((v0_6:Int)<(r4.length:Int))))))))
abbrev Hy(v:Nat):St:=⟨[(1,(I a1)),(5,(.l 37 (r4.map aQ))),(6,(I (v:Int)))],[],H0⟩
abbrev ko(x:(Unit⊕(Unit⊕(Unit⊕(Unit⊕(Nat×Bool)))))):aI×St:=match x with | .inl ()=>(.ret,⟨[(4,(I 1))],[],H0⟩) | .inr (.inl ())=>(.ret,⟨[(4,(I 3))],[],H0⟩) | .inr (.inr (.inl ()))=>(.ret,⟨[(4,(I 5))],[],H0⟩) | .inr (.inr (.inr (.inl ())))=>(.ret,⟨[(4,(I 7))],[],H0⟩) | .inr (.inr (.inr (.inr (z1,z2))))=>((.ex 0),⟨[(1,(I a1)),(5,(.l 37 (r4.map aQ))),(6,(I (z1:Int))),(16,(.b z2))],[],H0⟩)
theorem FT(o:Nat⊕(Unit⊕(Unit⊕(Unit⊕(Unit⊕(Nat×Bool))))))(h:iS a1 r4 v0_6=some o):bz E0 Uw (Hy a1 r4) (ko a1 r4) v0_6 o:=
 bG (ao (.i (r4.length:Int))<|.or (bt<|ao (.n v0_6)<|.ex fun (y7:az)=>ao (.v (.a (ey y7)))<|iu<|xB fun r9=>.or (bf<|.jb (some 27) 19<|.ex fun (x12:Bool)=>ao (.jn (ym a1 r4 v0_6 y7 x12))<|oN (.jb (some 47) 18<|.ex fun (x15:Bool)=>ao (.jn (yn a1 r4 v0_6 y7 x15))<|oN (bt<|.or (uF<|ao (.i (a1 - 1))<|bt<|xB fun r20=>en<|.or (bf<|ao (.i ((v0_6+1:Nat):Int))<|.nil) (bt<|.nil)) (Ty<|ao (.i ((v0_6+1:Nat):Int))<|.nil)))) (bt<|.nil)) (bf<|.nil)) fun L=>ai (aC aQ r4)<|bP h (fun h6 h=>ai (av h6)<|ai (rI v0_6)<|bR h fun y7 h8 h=>ai (oE aQ h8 (dI _))<|JA<|aW h (eA y7.Kind 1 7) fun r9 h=>bI h (fun h11 h=>ai (an not h11)<|aW h (EE a1 r4 v0_6 y7) fun x12 h=>bI h (fun h14 h=>ai h14<|L h) (fun h14 h=>ai h14<|aW h (EF a1 r4 v0_6 y7) fun x15 h=>bI h (fun h17 h=>ai h17<|L h) (fun h17 h=>kP h17<|bI h (fun h18 h=>VG h18<|aJ h fun w19 h=>ai w19<|ai (g1 h18)<|aW h (eA y7.N 0 (a1 - 1)) fun r20 h=>rZ h18<|bI h (fun h22 h=>ai (an not h22)<|aJ h fun w23 h=>ai w23<|L h) (fun h22 h=>ai (an not h22)<|L h)) (fun h18 h=>dt h18<|dt h18<|dt h18<|ai h18<|ai ff<|aJ h fun w19 h=>ai w19<|L h)))) (fun h11 h=>ai (an not h11)<|L h)) (fun h6 h=>ai (aw h6)<|L h)
end
section
variable (a0:az)(a1:Int)
abbrev Kp(a0:az)(a1:Int)(r:Int):bm×HP:=(.ret (I r),H0)
def jc:Option Int:=
 (wQ a0 15).bind fun (r1:Int)=>
 if 15<r1 then
  some 2
 else
  (uh a0).bind fun (r4:(List az))=>
  (lp (fun v=>iS a1 r4 v) 0).bind fun (x6:(Unit⊕(Unit⊕(Unit⊕(Unit⊕(Nat×Bool))))))=>match x6 with
  | .inl ya_7=>
   some 1
  | .inr (.inl yb_7)=>
   some 3
  | .inr (.inr (.inl yc_7))=>
   some 5
  | .inr (.inr (.inr (.inl yd_7)))=>
   some 7
  | .inr (.inr (.inr (.inr ye_7)))=>
   some 0
theorem tm(r:Int)(h:jc a0 a1=some r):call G Ω0 E0 12 [(.a (ey a0)),(I a1)] H0=some (Kp a0 a1 r):=
 aX G12 (bt<|xI fun r1=>oN (bt<|.ex fun (r4:(List az))=>ao (.v (.l 37 (r4.map aQ)))<|.or (.ex fun (ya_7:Unit)=>ao (.bX (ko a1 r4 (.inl ya_7)))<|.nil) (.or (.ex fun (yb_7:Unit)=>ao (.bX (ko a1 r4 (.inr (.inl yb_7))))<|.nil) (.or (.ex fun (yc_7:Unit)=>ao (.bX (ko a1 r4 (.inr (.inr (.inl yc_7)))))<|.nil) (.or (.ex fun (yd_7:Unit)=>ao (.bX (ko a1 r4 (.inr (.inr (.inr (.inl yd_7))))))<|.nil) (.ex fun (ye_7:(Nat×Bool))=>ao (.bX (ko a1 r4 (.inr (.inr (.inr (.inr ye_7))))))<|.nil)))))) fun L=>su<|aW h (FN a0 15) fun r1 h=>bP h (fun h3 h=>ai (av h3)<|L h) (fun h3 h=>kP (aw h3)<|aW h (zF a0) fun r4 h=>VF h (dZ (FT a1 r4) 0) (fun ya_7 h=>L h) (fun yb_7 h=>L h) (fun yc_7 h=>L h) (fun yd_7 h=>L h) (fun ye_7 h=>L h))
end
section
variable (a0:Int)
abbrev PS(a0:Int)(r:Bool):bm×HP:=(.ret (.b r),H0)
def BK:Option Bool:=
 (eB a0 1 3).bind fun (r1:Bool)=>
 if r1=true then
  some true
 else
  if (a0==5)=true then
   some true
  else
   some (a0==6)
theorem Kq(r:Bool)(h:BK a0=some r):call G Ω0 E0 115 [(I a0)] H0=some (PS a0 r):=
 aX ajt (xB fun r1=>.or (bf<|bf<|bt<|bf<|bf<|bt<|.nil) (bt<|bt<|bf<|.or (bf<|bf<|bt<|.nil) (bt<|bt<|bf<|.nil))) fun L=>aW h (eA a0 1 3) fun r1 h=>bI h (fun h3 h=>bY h3<|ai h3<|nu<|ai tt<|L h) (fun h3 h=>Pt h3<|bI h (fun h4 h=>Pt h4<|L h) (fun h4 h=>Pt h4<|L h))
abbrev NF(a0:Int)(r:Bool):bm×HP:=(.ret (.b r),H0)
def Aa:Option Bool:=
 if (a0==1)=true then
  some true
 else
  (eB a0 4 8).bind fun (r2:Bool)=>
  some r2
theorem Jd(r:Bool)(h:Aa a0=some r):call G Ω0 E0 77 [(I a0)] H0=some (NF a0 r):=
 aX G77 (.or (bf<|bf<|bt<|.nil) (en<|xB fun r2=>bf<|.nil)) fun L=>bI h (fun h1 h=>Pt h1<|L h) (fun h1 h=>bY h1<|aW h (eA a0 4 8) fun r2 h=>ai h1<|L h)
end
end
variable [Lp]
attribute [local simp] gp execOp okB jK eG jf uE lV jR iK St.end_ St.k9 List.filter eN vS view CO Oe Rj G0 plain
theorem mU(n x y:Int):eB n x y=some (decide (x≤n∧n≤y)):=by
 unfold eB
 by_cases h:x≤n<;>simp [h]
theorem AW(a b c:Int):eB a b c=some (decide (b≤a∧a≤c)):=mU a b c
theorem RJ{k:Int}(h:1≤k∧k≤8):BK k=some (eC k):=by
 unfold BK eC
 rw [AW,af]
 by_cases h1:1≤k∧k≤3
 ·rw [ab (av h1)];congr 1;symm;simp;omega
 ·rw [ad (by simpa using h1)]
  by_cases h5:k=5
  ·simp [h5]
  ·rw [ad (by simpa using h5)];congr 1
   rw [oe];simp;omega
theorem PT{k:Int}(h:1≤k∧k≤8):Aa k=some (eD k):=by
 unfold Aa eD
 by_cases h1:k=1
 ·simp [h1]
 ·rw [ad (by simpa using h1),AW,af];congr 1
  rw [oe];simp;omega
def pr(p:Program)(i k:Int):Int:=if k=2 then i else if k=3 then p.Ins.length else if k=4 then p.Outs.length else 0
noncomputable def Mw(p:Program)(i:Int)(s:Stmt):Option Int:=
 if ¬(1≤s.Kind∧s.Kind≤8) then some 7
 else if ¬(p.Vars.length≤1000000∧-1000000≤pr p i s.Kind∧pr p i s.Kind≤1000000) then none
 else IG (fun e=>jc e p.Vars.length) p i s
mutual
noncomputable def OC(p:Program)(i:Int):Stmt→Option Int
 | ⟨k,v,o,e,args,th,el⟩=>(Mw p i ⟨k,v,o,e,args,th,el⟩).bind fun x=>if x≠0 then some x else
   (if th.length≤9223372036854775807 then EX p i th else none).bind fun x=>if x≠0 then some x else if el.length≤9223372036854775807 then EX p i el else none
noncomputable def EX(p:Program)(i:Int):List Stmt→Option Int
 | []=>some 0
 | s::r=>(OC p i s).bind fun x=>if x≠0 then some x else EX p i r
end
noncomputable def cK(p:Program)(i:Int)(l:List Stmt):Option Int:=if l.length≤9223372036854775807 then EX p i l else none
theorem acm(p:Program)(i:Int)(s:Stmt):OC p i s=(Mw p i s).bind fun x=>if x≠0 then some x else
   (cK p i s.Then).bind fun x=>if x≠0 then some x else cK p i s.Else:=by cases s;rw [OC];rfl
section
variable (p:Program)(i:Int)(l:List Stmt)
abbrev tR(p:Program)(i:Int)(l:List Stmt)(k:Nat)(s:Stmt)(xs:List (Nat×AV)):St:=⟨(1,I i)::(2,.l 92 (l.map aV))::(3,.p ⟨0,3⟩ 0)::(7,I k)::(8,.p ⟨0,8⟩ 0)::xs,[(3,ar p),(8,bN s)],H0⟩
abbrev aR(p:Program)(i:Int)(l:List Stmt)(k:Nat)(s:Stmt)(e:Int)(n:Nat):St:=⟨[(1,I i),(2,.l 92 (l.map aV)),(3,.p ⟨0,3⟩ 0),(7,I k),(8,.p ⟨0,8⟩ 0),(12,I e),(13,I n)],[(3,ar p),(8,bN s)],H0⟩
set_option maxHeartbeats 8000000 in
theorem RK(k:Nat)(s:Stmt):∀ (rest:List az)(n:Nat)(e r:Int),(e=0→s.Args.length≤9223372036854775807)→s.Args.drop n=rest→(if e≠0 then some e else ub (fun e=>jc e p.Vars.length) rest)=some r→
  ∃ z,gY G Ω0 E0 U6 (aR p i l k s e n)=some (.ex 2,z)∧z.aP [1,2,3,7,8,12] [3,8]=(aR p i l k s r n).aP [1,2,3,7,8,12] [3,8]
 | [],n,e,r,hl,hd,h=>by
  have hk:¬((n:Int)<(s.Args.length:Int)):=by
   have:=eW.1 hd;omega
  obtain rfl:e=r:=by
   by_cases h0:e=0
   ·rw [ad (by simp [h0])] at h
    exact h0.trans (aa h)
   ·rw [ab h0] at h;exact aa h
  apply Exists.intro
  apply And.intro
  ·refine di (r:=(.ex 2,?_)) ?_ (by simp)
   rotate_left
   ·show run G Ω0 _ GA (aR p i l k s e n)=_
    apply iQ
    apply ak (by simp [hk];rfl)
    apply cg (by simp [hk])
    exact dN _ _ _
  ·simp
 | a::rest,n,e,r,hl,hd,h=>by
  have hlt:n<s.Args.length:=by
   have h1:=an List.length hd
   simp only [gy,bu] at h1
   omega
  have hg:s.Args[n]? =some a:=by
   have:=an (fun l=>l[0]?) hd
   simpa using this
  have hd2:s.Args.drop (n+1)=rest:=by
   have:=an List.tail hd
   simpa using this
  by_cases h0:e=0
  ·subst h0
   have hl:=hl rfl
   have hw:IntKind.i64.wrap ((n:Int)+1)=(n:Int)+1:=wrap64 (by omega) (by omega)
   rw [ad (by simp)] at h
   obtain ⟨x,hx,h⟩:=ah.1 h
   have hX:=cw (E:=E0) (tm a p.Vars.length x hx) (by simp) (by simp)
   obtain ⟨z,h1,h2⟩:=RK k s rest (n+1) x r (fun _=>hl) hd2 h
   refine ⟨z,?_,h2⟩
   rw [c8]
   exact h1
   show (run G Ω0 _ GA (aR p i l k s 0 n)).bind _=_
   have body:run G Ω0 E0 GA (aR p i l k s 0 n)=some (.nrm,aR p i l k s x (n+1)):=by
    apply L4
    apply bw
    apply bw
    apply cD (by simp [hlt];rfl)
    apply iR true (by simp [hlt])
    ·intro _
     apply mN
     apply oG
     apply bw
     apply zw
     apply cD (by simp [-aU,hg,dI,hX];rfl)
     refine cD (st1:=aR p i l k s x (n+1)) ?_ rfl
     simp [hw]
    ·intro hq;cases hq
   rw [body];rfl
  ·rw [ab h0] at h
   obtain rfl:=aa h
   apply Exists.intro
   apply And.intro
   ·refine di (r:=(.ex 2,?_)) ?_ (by simp)
    rotate_left
    ·show run G Ω0 _ GA (aR p i l k s e n)=_
     apply iQ
     apply ak (by simp [hlt,h0];rfl)
     apply cg (by simp [h0])
     exact dN _ _ _
   ·simp
theorem WQ{j:Nat}(h:1≤j∧j≤8):([I 0,I 0,I i,I p.Ins.length,I p.Outs.length,I 0,I 0,I 0,I 0]:List AV)[j]? =some (I (pr p i j)):=by
 obtain ⟨h1,h2⟩:=h
 match j,h1,h2 with
 | 1,_,_=>rfl
 | 2,_,_=>rfl
 | 3,_,_=>rfl
 | 4,_,_=>rfl
 | 5,_,_=>rfl
 | 6,_,_=>rfl
 | 7,_,_=>rfl
 | 8,_,_=>rfl
section
variable {p i l}{k:Nat}{s:Stmt}{y:Int}{P:aI×St→Prop}(hr:y≠0→P (.ret,⟨[(6,I y)],[],H0⟩))(hn:y=0→P (.nrm,⟨[(1,I i),(2,.l 92 (l.map aV)),(3,.p ⟨0,3⟩ 0),(7,I k),(12,I 0),(197,.b false)],[(3,ar p)],H0⟩))
include hr hn
theorem RL{st:St}(hst:st.aP [1,2,3,7,12] [3]=⟨[(1,I i),(2,.l 92 (l.map aV)),(3,.p ⟨0,3⟩ 0),(7,I k),(12,I y)],[(3,ar p)],H0⟩):Nx E0 U7 st P:=by
 apply oG
 rw [hst]
 apply bw
 by_cases h0:y=0
 ·subst h0
  apply cD (by simp;rfl)
  refine iR false (by simp) (fun hq=>by cases hq) (fun _=>?_)
  exact mN (hn rfl)
 ·apply cD (by simp [h0];rfl)
  refine iR true (by simp [h0]) (fun _=>?_) (fun hq=>by cases hq)
  apply bw
  apply cD (by simp;rfl)
  exact nI (hr h0)
variable (hrec:∀ t r,(t=s.Then∨t=s.Else)→cK p i t=some r→call G Ω0 E0 51 [.a (ar p),I i,.l 92 (t.map aV)] H0=some (.ret (I r),H0))
include hrec
theorem RM{st:St}{x:Int}(hst:st.aP [1,2,3,7,8,12] [3,8]=tR p i l k s [(12,I x)])(h:(if x≠0 then some x else cK p i s.Else)=some y):Nx E0 U8 st P:=by
 apply oG
 rw [hst]
 apply bw
 apply bw
 by_cases h0:x=0
 ·subst h0
  rw [ad (by simp)] at h
  have hT:=cw (E:=E0) (hrec s.Else y (.inr rfl) h) (by simp) (by simp)
  apply cD (by simp;rfl)
  refine iR true (by simp) (fun _=>?_) (fun hq=>by cases hq)
  apply cD (by simp [-aU,hT];rfl)
  exact RL hr hn (by simp)
 ·rw [ab h0] at h
  obtain rfl:=aa h
  apply cD (by simp [h0];rfl)
  refine iR false (by simp [h0]) (fun hq=>by cases hq) (fun _=>?_)
  apply mN
  exact RL hr hn (by simp)
theorem acn{st:St}{x:Int}(hst:st.aP [1,2,3,7,8,12] [3,8]=tR p i l k s [(12,I x)])(h:(if x≠0 then some x else (cK p i s.Then).bind fun x=>if x≠0 then some x else cK p i s.Else)=some y):Nx E0 U9 st P:=by
 apply oG
 rw [hst]
 apply bw
 apply bw
 by_cases h0:x=0
 ·subst h0
  rw [ad (by simp)] at h
  obtain ⟨x,hx,h⟩:=ah.1 h
  have hT:=cw (E:=E0) (hrec s.Then x (.inl rfl) hx) (by simp) (by simp)
  apply cD (by simp;rfl)
  refine iR true (by simp) (fun _=>?_) (fun hq=>by cases hq)
  apply cD (by simp [-aU,hT];rfl)
  exact RM hr hn hrec (by simp) h
 ·rw [ab h0] at h
  obtain rfl:=aa h
  apply cD (by simp [h0];rfl)
  refine iR false (by simp [h0]) (fun hq=>by cases hq) (fun _=>?_)
  apply mN
  exact RM hr hn hrec (x:=x) (by simp) (ab h0)
theorem RN{st:St}{e x:Int}(hst:st.aP [1,2,3,7,8,12] [3,8]=tR p i l k s [(12,I e)])(hl:e=0→s.Args.length≤9223372036854775807)(he:(if e≠0 then some e else ub (fun e=>jc e p.Vars.length) s.Args)=some x)
  (h:(if x≠0 then some x else (cK p i s.Then).bind fun x=>if x≠0 then some x else cK p i s.Else)=some y):Nx E0 Va st P:=by
 obtain ⟨z,z1,z2⟩:=RK p i l k s s.Args 0 e x hl rfl he
 apply oG
 rw [hst]
 apply bw
 apply bw
 apply cD (st1:=aR p i l k s e 0) (by simp)
 apply zw
 refine PF z1 ?_
 refine Eq.mpr (ab rfl) ?_
 exact acn hr hn hrec (by rw [z2];simp) h
end
def Mx:AC→AC
 | .sq x _=>x
 | x=>x
def acR:AC→AC
 | .sq _ y=>y
 | x=>x
structure Cs(s:Stmt):Prop where
 b:∀ a b c:Int,∀ st,aU (call G Ω0) Ω0 E0 st 0 50 [I a,I b,I c]=some (.b (decide (b≤a∧a≤c)),st)
 v:∀ st,aU (call G Ω0) Ω0 E0 st 0 115 [I s.Kind]=some (.b (eC s.Kind),st)
 e:∀ st,aU (call G Ω0) Ω0 E0 st 0 77 [I s.Kind]=some (.b (eD s.Kind),st)
 o:∀ st,aU (call G Ω0) Ω0 E0 st 0 50 [I s.Kind,I 2,I 4]=some (.b (fT s.Kind),st)
set_option maxHeartbeats 16000000 in
theorem aj8{k:Nat}{s:Stmt}(hbd:p.Vars.length≤1000000∧-1000000≤pr p i s.Kind∧pr p i s.Kind≤1000000)(C:Cs s):run G Ω0 E0 (Mx (Mx (acR Vc))) (tR p i l k s [(9,I s.Kind),(10,I (pr p i s.Kind))])=some (.nrm,tR p i l k s [(9,I s.Kind),(63,.b (sI p i s))]):=by
 obtain ⟨hB,hV,hE,hO⟩:=C
 have w1:IntKind.i64.wrap ((p.Vars.length:Int) - 1)=(p.Vars.length:Int) - 1:=wrap64 (by omega) (by omega)
 have w2:IntKind.i64.wrap (pr p i s.Kind - 1)=pr p i s.Kind - 1:=wrap64 (by omega) (by omega)
 have b1:(!decide (0≤s.Var∧s.Var≤(p.Vars.length:Int) - 1))=(decide (s.Var<0)||decide ((p.Vars.length:Int)≤s.Var)):=by
  rw [oe];simp;omega
 have b2:fT s.Kind=true→(!decide (0≤s.Other∧s.Other≤pr p i s.Kind - 1))=(decide (s.Other<0)||decide (gP p i s.Kind≤s.Other)):=by
  intro ho
  have e:pr p i s.Kind=gP p i s.Kind:=by
   have ho:2≤s.Kind∧s.Kind≤4:=by simpa [fT] using ho
   unfold pr gP
   by_cases e2:s.Kind=2
   ·rw [ab e2,ab e2]
   ·by_cases e3:s.Kind=3
    ·rw [ad e2,ad e2,ab e3,ab e3]
    ·rw [ad e2,ad e2,ad e3,ad e3,ab (by omega)]
  rw [e,oe];simp;omega
 apply PD rfl
 refine qC (v1:=tR p i l k s [(9,I s.Kind),(10,I (pr p i s.Kind)),(52,.b (eC s.Kind&&(decide (s.Var<0)||decide ((p.Vars.length:Int)≤s.Var))))]) 13 [1,2,3,7,8,9,10,52] ?_ ?_
 ·rw [←b1]
  cases hv:eC s.Kind<;>((repeat refine s0 (by simp [-aU,hV,hv,hB,w1];rfl) ?_);exact s7 (by simp))
 unfold sI
 generalize (eC s.Kind&&(decide (s.Var<0)||decide ((p.Vars.length:Int)≤s.Var)))=c0
 refine LZ ?_ (by simp)
 cases ho:fT s.Kind
 ·cases c0<;>((repeat refine s0 (by simp [-aU,hO,ho];rfl) ?_);exact s7 (by simp))
 ·rw [←b2 ho]
  cases c0<;>((repeat refine s0 (by simp [-aU,hO,ho,hB,w2];rfl) ?_);exact s7 (by simp))
set_option maxHeartbeats 16000000 in
theorem ahM{k:Nat}{s:Stmt}(C:Cs s):run G Ω0 E0 (Mx (Mx (acR O6))) (tR p i l k s [(9,I s.Kind),(11,.b (kQ s))])=some (.nrm,tR p i l k s [(9,I s.Kind),(137,.b (xr s))]):=by
 obtain ⟨hB,hV,hE,hO⟩:=C
 apply PD rfl
 refine qC (v1:=tR p i l k s [(9,I s.Kind),(11,.b (kQ s)),(89,.b (!eC s.Kind&&decide (s.Var≠0)))]) 9 [1,2,3,7,8,9,11,89] ?_ ?_
 ·cases hv:eC s.Kind<;>by_cases q:s.Var=0<;>((repeat refine s0 (by simp [-aU,hV,hv,q];rfl) ?_);exact s7 (by simp [q]))
 unfold xr
 generalize (!eC s.Kind&&decide (s.Var≠0))=c1
 refine qC (v1:=tR p i l k s [(9,I s.Kind),(11,.b (kQ s)),(99,.b (c1||(!fT s.Kind&&decide (s.Other≠0))))]) 10 [1,2,3,7,8,9,11,99] ?_ ?_
 ·cases c1<;>cases ho:fT s.Kind<;>by_cases q:s.Other=0<;>((repeat refine s0 (by simp [-aU,hO,ho,q];rfl) ?_);exact s7 (by simp [q]))
 generalize (c1||(!fT s.Kind&&decide (s.Other≠0)))=c2
 refine qC (v1:=tR p i l k s [(9,I s.Kind),(11,.b (kQ s)),(108,.b (c2||(!eD s.Kind&&!kQ s)))]) 9 [1,2,3,7,8,9,11,108] ?_ ?_
 ·cases c2<;>cases he:eD s.Kind<;>cases hb:kQ s<;>((repeat refine s0 (by simp [-aU,hE,he,hb];rfl) ?_);exact s7 (by simp [hb]))
 generalize (c2||(!eD s.Kind&&!kQ s))=c3
 refine qC (v1:=tR p i l k s [(9,I s.Kind),(118,.b (c3||(s.Kind !=2&&decide (0<s.Args.length))))]) 10 [1,2,3,7,8,9,118] ?_ ?_
 ·cases c3<;>cases q:(s.Kind !=2)<;>((repeat refine s0 (by simp [-aU,q];rfl) ?_);exact s7 (by simp [q]))
 generalize (c3||(s.Kind !=2&&decide (0<s.Args.length)))=c4
 refine qC (v1:=tR p i l k s [(9,I s.Kind),(128,.b (c4||(!decide (7≤s.Kind)&&decide (0<s.Then.length))))]) 10 [1,2,3,7,8,9,128] ?_ ?_
 ·have q7:decide (s.Kind<7)=!decide (7≤s.Kind):=by rw [oe];simp
  cases c4<;>cases q:decide (7≤s.Kind)<;>((repeat refine s0 (by simp [-aU,q,q7];rfl) ?_);exact s7 (by simp [q]))
 generalize (c4||(!decide (7≤s.Kind)&&decide (0<s.Then.length)))=c5
 refine LZ ?_ (by simp)
 cases c5<;>cases q:(s.Kind !=7)<;>((repeat refine s0 (by simp [-aU,q];rfl) ?_);exact s7 (by simp [q]))
set_option maxHeartbeats 16000000 in
theorem ahN{k:Nat}{s:Stmt}{b:Bool}(hn:sI p i s=false)(hb:(if s.Kind=2 then (p.Funcs[s.Other.toNat]?).map fun f=>decide (s.Args.length≠f.Params.length) else some false)=some b):run G Ω0 E0 (Mx (Mx Vb)) (tR p i l k s [(9,I s.Kind)])=some (.nrm,tR p i l k s [(9,I s.Kind),(153,.b b)]):=by
 apply PE rfl (by simp)
 refine L2 ?_ (by simp)
 cases q:(s.Kind==2)
 ·rw [ad (ne_of_beq_false q)] at hb
  obtain rfl:=aa hb
  ((repeat refine yb (by simp [-aU,q];rfl) ?_);exact yc (by simp [q]))
 ·have q1:=eq_of_beq q
  rw [ab q1] at hb
  obtain ⟨f,hf1,hf2⟩:=c9.1 hb
  have hnn:¬s.Other<0:=fun hlt=>by simp [sI,fT,q1,hlt] at hn
  obtain ⟨j,hj⟩:∃ j:Nat,s.Other=j:=⟨s.Other.toNat,by omega⟩
  rw [hj] at hf1
  have hf1:p.Funcs[j]? =some f:=by simpa using hf1
  subst hf2
  have q2:((s.Args.length:Int) !=(f.Params.length:Int))=decide (s.Args.length≠f.Params.length):=by
   by_cases q3:s.Args.length=f.Params.length
   ·simp [q3]
   ·rw [av q3]
    simp only [qj,ne_eq]
    omega
  ((repeat refine yb (by simp [-aU,q,hj,hf1,cA];rfl) ?_);exact yc (by simp [q,q2]))
theorem aj9{k:Nat}{s:Stmt} : run G Ω0 E0 (Mx O6) (tR p i l k s [(9,I s.Kind)])=some (.nrm,tR p i l k s [(9,I s.Kind),(11,.b (kQ s))]):=by
 show run G Ω0 E0 (.rg _ _ _ _) _=_
 by_cases a1:s.Expr.Kind=0<;>by_cases a2:s.Expr.N=0<;>by_cases a3:s.Expr.Args.length=0<;>simp [a1,a2,a3,kQ]
abbrev sR(k:Nat):St:=⟨[(1,I i),(2,.l 92 (l.map aV)),(3,.p ⟨0,3⟩ 0),(7,I k)],[(3,ar p)],H0⟩
set_option maxHeartbeats 16000000 in
theorem WR{k:Nat}(hk:k<l.length)(hl:l.length≤9223372036854775807){s:Stmt}(hs:l[k]? =some s)
  (hrec:∀ t r,(t=s.Then∨t=s.Else)→cK p i t=some r→call G Ω0 E0 51 [.a (ar p),I i,.l 92 (t.map aV)] H0=some (.ret (I r),H0)) {y:Int} (h:OC p i s=some y) :
  Nx E0 KR (sR p i l k) fun q=>(y≠0∧q=(.ret,⟨[(6,I y)],[],H0⟩))∨(y=0∧q=(.nrm,sR p i l (k+1))):=by
 have hw:IntKind.i64.wrap ((k:Int)+1)=(k:Int)+1:=wrap64 (by omega) (by omega)
 have hB:∀ a b c:Int,∀ st,aU (call G Ω0) Ω0 E0 st 0 50 [I a,I b,I c]=some (.b (decide (b≤a∧a≤c)),st):=fun a b c=>cw (E:=E0) (eA a b c _ (mU a b c)) (by simp) (by simp)
 rw [acm] at h
 obtain ⟨x,hx,h⟩:=ah.1 h
 unfold Mw at hx
 apply bw
 apply bw
 apply cD (by simp [hk];rfl)
 refine iR true (by simp [hk]) (fun _=>?_) (fun hq=>by cases hq)
 apply mN
 apply oG
 apply bw
 apply zw
 apply bw
 apply cD (st1:=tR p i l k s []) (by simp [hs,ij])
 apply bw
 apply cD (st1:=tR p i l k s [(9,I s.Kind)]) (by simp)
 apply bw
 apply bw
 apply cD (st1:=tR p i l k s [(9,I s.Kind),(28,.b (!decide (1≤s.Kind∧s.Kind≤8)))]) (by simp [-aU,hB])
 apply iR (!decide (1≤s.Kind∧s.Kind≤8)) (by simp)
 ·intro hq
  have hq:¬(1≤s.Kind∧s.Kind≤8):=yK ((iI _).mp hq)
  rw [ab hq] at hx
  obtain rfl:=aa hx
  rw [ab (by decide)] at h
  obtain rfl:=aa h
  apply bw
  apply cD (by simp;rfl)
  exact nI (.inl ⟨by decide,rfl⟩)
 intro hq
 have hq:1≤s.Kind∧s.Kind≤8:=nj ((Bool.not_eq_false' _).mp hq)
 rw [ad (fun hn=>hn hq)] at hx
 by_cases hbd:p.Vars.length≤1000000∧-1000000≤pr p i s.Kind∧pr p i s.Kind≤1000000
 case neg=>rw [ab hbd] at hx;cases hx
 rw [ad (fun hn=>hn hbd)] at hx
 unfold IG at hx
 have hV:∀ st,aU (call G Ω0) Ω0 E0 st 0 115 [I s.Kind]=some (.b (eC s.Kind),st):=cw (E:=E0) (Kq s.Kind _ (RJ hq)) (by simp) (by simp)
 have hE:∀ st,aU (call G Ω0) Ω0 E0 st 0 77 [I s.Kind]=some (.b (eD s.Kind),st):=cw (E:=E0) (Jd s.Kind _ (PT hq)) (by simp) (by simp)
 have C:Cs s:=⟨hB,hV,hE,hB _ _ _⟩
 apply mN
 apply oG
 apply bw
 apply cD (st1:=tR p i l k s [(9,I s.Kind),(10,I (pr p i s.Kind))])
 ·obtain ⟨j,hj⟩:∃ j:Nat,s.Kind=j:=⟨s.Kind.toNat,by omega⟩
  have hg:=WQ p i (j:=j) (by omega)
  simp [hj,hg]
 apply bw
 apply bw
 refine cD (aj8 p i l hbd C) ?_
 apply iR (sI p i s) (by simp)
 ·intro hn
  rw [ab hn] at hx
  obtain rfl:=aa hx
  rw [ab (by decide)] at h
  obtain rfl:=aa h
  apply bw
  apply cD (by simp;rfl)
  exact nI (.inl ⟨by decide,rfl⟩)
 intro hn
 rw [ad (by simp [hn])] at hx
 apply mN
 apply oG
 apply bw
 refine cD (aj9 p i l) ?_
 apply bw
 apply bw
 refine cD (ahM p i l C) ?_
 apply iR (xr s) (by simp)
 ·intro hf
  rw [ab hf] at hx
  obtain rfl:=aa hx
  rw [ab (by decide)] at h
  obtain rfl:=aa h
  apply bw
  apply cD (by simp;rfl)
  exact nI (.inl ⟨by decide,rfl⟩)
 intro hf
 rw [ad (by simp [hf])] at hx
 obtain ⟨b,hb,hx⟩:=ah.1 hx
 apply mN
 apply oG
 apply bw
 apply bw
 refine cD (ahN p i l hn hb) ?_
 apply iR b (by simp)
 ·intro hq2
  rw [ab hq2] at hx
  obtain rfl:=aa hx
  rw [ab (by decide)] at h
  obtain rfl:=aa h
  apply bw
  apply cD (by simp;rfl)
  exact nI (.inl ⟨by decide,rfl⟩)
 intro hq2
 rw [ad (by simp [hq2])] at hx
 obtain ⟨x0,hx0,hx⟩:=ah.1 hx
 have e5:x0=0→s.Args.length≤9223372036854775807:=fun h0=>by
  rw [ad (by simp [h0])] at hx
  split at hx
  ·assumption
  ·cases hx
 have e6:(if x0≠0 then some x0 else ub (fun e=>jc e p.Vars.length) s.Args)=some x:=by
  by_cases h0:x0=0
  ·rw [ad (by simp [h0])] at hx ⊢
   rw [ab (e5 h0)] at hx;exact hx
  ·rw [ab h0] at hx ⊢;exact hx
 apply mN
 apply oG
 apply bw
 apply cD (st1:=tR p i l k s [(9,I s.Kind),(12,I 0)]) (by simp)
 apply bw
 apply bw
 apply cD (st1:=tR p i l k s [(12,I 0),(155,.b (eD s.Kind))]) (by simp [-aU,hE])
 apply iR (eD s.Kind) (by simp)
 ·intro he
  rw [ab he] at hx0
  have hX:=cw (E:=E0) (tm s.Expr p.Vars.length x0 hx0) (by simp) (by simp)
  apply cD (by simp [-aU,hX];rfl)
  refine RN (l:=l) (k:=k) (fun h0=>.inl ⟨h0,rfl⟩) (fun h0=>cD (st1:=sR p i l (k+1)) (by simp [hw]) (.inr ⟨h0,rfl⟩)) hrec ?_ e5 e6 h
  simp
 ·intro he
  rw [ad (by simp [he])] at hx0
  obtain rfl:=aa hx0
  apply mN
  refine RN (l:=l) (k:=k) (fun h0=>.inl ⟨h0,rfl⟩) (fun h0=>cD (st1:=sR p i l (k+1)) (by simp [hw]) (.inr ⟨h0,rfl⟩)) hrec ?_ e5 e6 h
  simp
theorem RO(hl:l.length≤9223372036854775807)
  (hrec:∀ s∈l,∀ t r,(t=s.Then∨t=s.Else)→cK p i t=some r→call G Ω0 E0 51 [.a (ar p),I i,.l 92 (t.map aV)] H0=some (.ret (I r),H0)) {r:Int} :
  ∀ (rest:List Stmt)(k:Nat),l.drop k=rest→EX p i rest=some r→∃ q,gY G Ω0 E0 Vd (sR p i l k)=some q∧(q=(.ret,⟨[(6,I r)],[],H0⟩)∨r=0∧∃ z,q=(.ex 0,z)∧z.hp=H0)
 | [],k,hd,h=>by
  rw [EX] at h
  obtain rfl:=aa h
  have hk:¬((k:Int)<(l.length:Int)):=by
   have:=eW.1 hd;omega
  apply Exists.intro
  apply And.intro
  ·refine di (r:=(.ex 0,?_)) ?_ (by simp)
   rotate_left
   ·show run G Ω0 _ KR (sR p i l k)=_
    apply iQ
    apply ak (by simp [hk];rfl)
    apply cg (by simp [hk])
    exact dN _ _ _
  ·exact .inr ⟨rfl,_,rfl,rfl⟩
 | s::rest,k,hd,h=>by
  rw [EX] at h
  obtain ⟨y,hy,h⟩:=ah.1 h
  have hlt:k<l.length:=by
   have h1:=an List.length hd
   simp only [gy,bu] at h1
   omega
  have hg:l[k]? =some s:=by
   have:=an (fun l=>l[0]?) hd
   simpa using this
  have hd2:l.drop (k+1)=rest:=by
   have:=an List.tail hd
   simpa using this
  obtain ⟨q,h1,h2⟩:=WR p i l hlt hl hg (hrec s (aL hg)) hy
  rcases h2 with ⟨h0,rfl⟩ | ⟨h0,rfl⟩
  ·rw [ab h0] at h
   obtain rfl:=aa h
   exact ⟨_,di (by exact h1) (by simp),.inl rfl⟩
  ·rw [ad (by simp [h0])] at h
   obtain ⟨q,g1,g2⟩:=RO hl hrec rest (k+1) hd2 h
   refine ⟨q,?_,g2⟩
   rw [c8]
   exact g1
   show (run G Ω0 _ KR (sR p i l k)).bind _=_
   rw [h1];rfl
theorem OD:∀ (n:Nat)(l:List Stmt)(r:Int),SizeOf.sizeOf l≤n→cK p i l=some r→call G Ω0 E0 51 [.a (ar p),I i,.l 92 (l.map aV)] H0=some (.ret (I r),H0)
 | 0,l,r,hn,h=>by cases l<;>simp at hn
 | n+1,l,r,hn,h=>by
  unfold cK at h
  split at h
  ·rename_i hl
   obtain ⟨q,q1,q2⟩:=RO p i l hl (fun s hs t r ht hr=>OD n t r (by
    have h1:=List.sizeOf_lt_of_mem hs
    obtain ⟨_,_,_,_,_,_,_⟩:=s
    simp only [Stmt.mk.sizeOf_spec] at h1
    rcases ht with rfl | rfl<;>first | omega | (simp only;omega)) hr) l 0 rfl h
   refine IF (st:=⟨[(6,I r)],[],H0⟩) G51 ?_ (by simp [Ve]) rfl
   apply bw
   apply cD (by simp;rfl)
   apply bw
   apply bw
   apply cD (st1:=sR p i l 0) (by simp)
   apply zw
   refine PF q1 ?_
   rcases q2 with rfl | ⟨rfl,z,rfl,hz⟩
   ·rfl
   ·refine Eq.mpr (ab rfl) ?_
    apply bw
    apply cD (by simp [hz];rfl)
    exact nI rfl
  ·cases h
end
theorem wY(p:Program)(i:Int)(l:List Stmt)(r:Int)(h:cK p i l=some r):call G Ω0 E0 51 [.a (ar p),I i,.l 92 (l.map aV)] H0=some (.ret (I r),H0):=OD p i _ l r (aS _) h
end Go.Proofs.YtkkkkondjclcnaaGreat.A
