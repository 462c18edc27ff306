/- Functions of the program as plain functions, by program. -/
import Derived.Test.YtkkkkondjclcnaaGreatTypes
import Derived.Test.YtkkkkondjclcnaaGreatLift
import Derived.Test.YtkkkkondjclcnaaGreatRawF
import Derived.Test.YtkkkkondjclcnaaGreatFR
set_option linter.all false
set_option maxRecDepth 100000
namespace Go.Proofs.YtkkkkondjclcnaaGreat.A
open Go
noncomputable section
variable [Lp]
section
variable (a0:Program)(a1:Int)(dp:Nat)(hp:HP)(a2:Bool)
abbrev MQ(a0:Program)(a1:Int)(r:Int):bm×HP:=(.ret (I r),H0)
def hZ:Option Int:=
 (sK a0).bind fun (r1:Int)=>
 if (r1 !=0)=true then
  some r1
 else
  (jN a0.aj a1).bind fun (r4:Bool)=>
  if r4=true then
   some 0
  else
   some 5
theorem zL(r:Int)(h:hZ a0 a1=some r):call G Ω0 E0 64 [(.a (ar a0)),(I a1)] H0=some (MQ a0 a1 r):=
 aX G64 (bt<|xI fun r1=>oN (bt<|xB fun r4=>.or (bf<|.nil) (bt<|.nil))) fun L=>su<|aW h (FD a0) fun r1 h=>bI h (fun h3 h=>ai h3<|L h) (fun h3 h=>kP h3<|aW h (lG a0.aj a1) fun r4 h=>bI h (fun h6 h=>ai (an not h6)<|L h) (fun h6 h=>ai (an not h6)<|L h))
abbrev P5(dp:Nat)(hp:HP)(a0:Program)(a1:Int)(a2:Bool)(r:mH):bm×HP:=(.new (dc r),hp)
def uk:Option mH:=
 (lC a0).bind fun (r1:gm)=>
 some (⟨a0,r1,a1,a2⟩:mH)
theorem B8(hz:cF dp hp)(a0:Program)(a1:Int)(a2:Bool)(r:mH)(h:uk a0 a1 a2=some r):call G Ω0 ⟨dp,false⟩ 65 [(.a (ar a0)),(I a1),(.b a2)] hp=some (P5 dp hp a0 a1 a2 r):=
 Wg G65 (en<|.ex fun (r1:gm)=>ao (.v (.a [(.l 45 (r1.Vars.map aT)),(.l 45 (r1.Funcs.map aT))]))<|.nil) fun L=>bq<|ai (rN dp)<|ai tt<|ai (rN dp)<|ai tt<|aW h (I7 a0) fun r1 h=>zU<|ai ((by simp [ar,AV.cC,AV.dB,AV.deep,AV.ee]):(((.a [(I a0.aj.Many),(.l 166 (a0.aj.Grants.map aG)),(.l 3 (a0.Speak.map (I))),(.l 81 (a0.Ins.map ay)),(.l 81 (a0.Outs.map ay)),(.l 83 (a0.Vars.map cJ)),(.l 101 (a0.Funcs.map cA)),(.l 92 (a0.Main.map aV)),(.l 45 (r1.Vars.map aT)),(.l 45 (r1.Funcs.map aT)),(I a1),(.b a2)]):AV).deep dp&&(([(12,(.a [(I a0.aj.Many),(.l 166 (a0.aj.Grants.map aG)),(.l 3 (a0.Speak.map (I))),(.l 81 (a0.Ins.map ay)),(.l 81 (a0.Outs.map ay)),(.l 83 (a0.Vars.map cJ)),(.l 101 (a0.Funcs.map cA)),(.l 92 (a0.Main.map aV)),(.l 45 (r1.Vars.map aT)),(.l 45 (r1.Funcs.map aT)),(I a1),(.b a2)])),(11,(.b a2)),(10,(I a1)),(9,(.a [(.l 45 (r1.Vars.map aT)),(.l 45 (r1.Funcs.map aT))])),(8,(.a (ar a0))),(7,(.a (ar a0))),(1,(I a1)),(2,(.b a2)),(3,(.p ⟨dp,3⟩ 0))]:List (Nat×AV)).all (fun y=>y.2.cC ⟨dp,13⟩)&&([(3,(ar a0))]:List (Nat×List AV)).all (fun y=>AV.dB ⟨dp,13⟩ y.2)))=true)<|ai (rN dp)<|ai tt<|L h
end
section
variable (dp:Nat)(hp:HP)(k0:Key)(c0:mH)(a0:Level)
abbrev FX(dp:Nat)(hp:HP)(k0:Key)(c0:mH)(a0:Level)(r:Bool):bm×HP:=(.ret (.b r),aF hp k0 (dc c0))
def ik:Option Bool:=
 if c0.touch=true then
  (ed c0.who).bind fun (j2:Nat)=>
  (a0.Writers[j2]?).bind fun (y4:Bool)=>
  some (!y4)
 else
  (ed c0.who).bind fun (j2:Nat)=>
  (a0.Readers[j2]?).bind fun (y4:Bool)=>
  some y4
theorem pw(hk_k0:k0.dp<dp)(hz:cF dp hp)(c0:mH)(a0:Level)(r:Bool)(h:ik c0 a0=some r):call G Ω0 ⟨dp,true⟩ 120 [(.p k0 0),(.a [(.l 4 (a0.Readers.map AV.b)),(.l 4 (a0.Writers.map AV.b))])] (aF hp k0 (dc c0))=some (FX dp hp k0 c0 a0 r):=
 aX ajy (bf<|ao (.l (dc c0))<|.or (bt<|bt<|bf<|ao (.l (dc c0))<|xN fun j2=>xB fun y4=>.nil) (bf<|bt<|bf<|ao (.l (dc c0))<|xN fun j2=>xB fun y4=>.nil)) fun L=>ai ((by simp [AV.cC,AV.dB,AV.deep,AV.ee,cP hk_k0,fx hk_k0]):(((.a [(.l 4 (a0.Readers.map AV.b)),(.l 4 (a0.Writers.map AV.b))]):AV).deep dp&&(([(0,(.p k0 0)),(1,(.a [(.l 4 (a0.Readers.map AV.b)),(.l 4 (a0.Writers.map AV.b))]))]:List (Nat×AV)).all (fun y=>y.2.cC ⟨dp,3⟩)&&([]:List (Nat×List AV)).all (fun y=>AV.dB ⟨dp,3⟩ y.2)))=true)<|ai (cT hk_k0)<|ai (eX hp k0 (dc c0))<|bI h (fun h1 h=>ai h1<|bq<|ai (rN dp)<|uS<|ai (cT hk_k0)<|ai (eX hp k0 (dc c0))<|ai tt<|kC h fun j2 h3 h=>ai h3<|bR h fun y4 h5 h=>ai (aD AV.b h5)<|L h) (fun h1 h=>ai h1<|bq<|ai (rN dp)<|uS<|ai (cT hk_k0)<|ai (eX hp k0 (dc c0))<|ai tt<|kC h fun j2 h3 h=>ai h3<|bR h fun y4 h5 h=>ai (aD AV.b h5)<|L h)
end
section
variable (dp:Nat)(hp:HP)(k0:Key)(c0:mH)(a0:Int)(a3:(List (List Int)))(r5:mH)(v0_12:(List (List Int)))(v0_33:Nat)(w3_1:(List Int))
abbrev Kw(dp:Nat)(hp:HP)(k0:Key)(c0:mH)(a0:Int)(r:Bool):bm×HP:=(.ret (.b r),aF hp k0 (dc c0))
def o9:Option Bool:=
 (ed a0).bind fun (j1:Nat)=>
 (c0.p.Ins[j1]?).bind fun (y3:Label)=>
 (lx c0.p.aj y3).bind fun (r5:Level)=>
 (ik c0 r5).bind fun (r7:Bool)=>
 some r7
theorem FY(hk_k0:k0.dp<dp)(hz:cF dp hp)(c0:mH)(a0:Int)(r:Bool)(h:o9 c0 a0=some r):call G Ω0 ⟨dp,true⟩ 66 [(.p k0 0),(I a0)] (aF hp k0 (dc c0))=some (Kw dp hp k0 c0 a0 r):=
 aX G66 (bf<|ao (.l (dc c0))<|bf<|ao (.l (dc c0))<|xN fun j1=>.ex fun (y3:Label)=>ao (.v (.a [(.l 138 (y3.Read.map aE)),(.l 138 (y3.Write.map aE))]))<|.ex fun (r5:Level)=>ao (.v (.a [(.l 4 (r5.Readers.map AV.b)),(.l 4 (r5.Writers.map AV.b))]))<|xB fun r7=>ao (.h (boxes dp [] (aF hp k0 (dc c0))))<|.nil) fun L=>bq<|bq<|bq<|ai (cT hk_k0)<|ai (eX hp k0 (dc c0))<|bq<|bq<|ai tt<|ai (cT hk_k0)<|ai (eX hp k0 (dc c0))<|bq<|kC h fun j1 h2 h=>ai h2<|bR h fun y3 h4 h=>ai (aD ay h4)<|bq<|aW h (sL c0.p.aj y3) fun r5 h=>bq<|bR h fun r7 ek8 h=>have ek8:=cO hk_k0 (pw (dp+1) (boxes dp [] (aF hp k0 (dc c0))) k0 (eK hk_k0) (dw (cu hk_k0 (hz))) c0 r5 _ ek8);ai ek8<|L h
def oR(a3:(List (List Int)))(r5:mH)(v0_12:(List (List Int)))(v0_33:Nat)(w3_1:(List Int)):Option (List (List Int)):=
 (CY w3_1).bind fun (r13:(List Int))=>
 if v0_12.length + [r13].length≤1000000000 then
  some (v0_12++[r13])
 else none
abbrev tq(v0_12:(List (List Int)))(v0_33:Nat)(w3_1:(List Int))(x:(List (List Int))):aI×St:=(.nrm,⟨[(11,(.p ⟨0,30⟩ 0)),(12,(.o 25 (x.map (bc 3 (I))))),(31,(.l 25 (a3.map (bc 3 (I))))),(32,(I (a3.length:Int))),(33,(I (v0_33:Int)))],[(30,(dc r5))],H0⟩)
theorem xb(x:(List (List Int)))(h:oR a3 r5 v0_12 v0_33 w3_1=some x):run G Ω0 E0 UH ⟨[(11,(.p ⟨0,30⟩ 0)),(12,(.o 25 (v0_12.map (bc 3 (I))))),(14,(.l 3 (w3_1.map (I)))),(31,(.l 25 (a3.map (bc 3 (I))))),(32,(I (a3.length:Int))),(33,(I (v0_33:Int)))],[(30,(dc r5))],H0⟩=some (tq a3 r5 v0_12 v0_33 w3_1 x):=
 vu (.ex fun (r13:(List Int))=>ao (.v (.l 3 (r13.map (I))))<|ao (.l ([r13].map (bc 3 (I))))<|ao (.l ((v0_12++[r13]).map (bc 3 (I))))<|.nil) fun L=>bR h fun r13 ek14 h=>have ek14:Ω0 67 [(.l 3 (w3_1.map (I)))]=some (.l 3 (r13.map (I))):=Q2 ek14;ai ek14<|ai (rfl:[(.l 3 (r13.map (I)))]=[r13].map (bc 3 (I)))<|ai ff<|aJ h fun h15 h=>ai ((ir (bc 3 (I)) (n:=1) (fun _=>rfl) [r13]):([r13].map (bc 3 (I))).all (fun e=>e.nc==1)=true)<|ai ((la h15 (by decide)):((v0_12.map (bc 3 (I))).length+([r13].map (bc 3 (I))).length)*24≤140737488355328)<|ai ((lf h15):(v0_12.map (bc 3 (I))).length+([r13].map (bc 3 (I))).length≤maxLen)<|ai (cI.symm:v0_12.map (bc 3 (I))++[r13].map (bc 3 (I))=(v0_12++[r13]).map (bc 3 (I)))<|L h
def kq:Option (((List (List Int))×Nat)⊕((List (List Int))×Nat×Bool)):=
 if (v0_33:Int)<(a3.length:Int) then
  (a3[v0_33]?).bind fun (y8:(List Int))=>
  (o9 r5 (v0_33:Int)).bind fun (r10:Bool)=>
  if r10=true then
   (oR a3 r5 v0_12 v0_33 y8).bind fun (x13:(List (List Int)))=>
   if IntKind.i64.wrap ((v0_33:Int)+1)=((v0_33+1:Nat):Int) then
    some (.inl (x13,v0_33+1))
   else none
  else
   (oR a3 r5 v0_12 v0_33 ([]:List Int)).bind fun (x13:(List (List Int)))=>
   if IntKind.i64.wrap ((v0_33:Int)+1)=((v0_33+1:Nat):Int) then
    some (.inl (x13,v0_33+1))
   else none
 else
  some (.inr (v0_12,v0_33,decide ((v0_33:Int)<(a3.length:Int))))
abbrev HO(v:((List (List Int))×Nat)):St:=⟨[(11,(.p ⟨0,30⟩ 0)),(12,(.o 25 (v.1.map (bc 3 (I))))),(31,(.l 25 (a3.map (bc 3 (I))))),(32,(I (a3.length:Int))),(33,(I (v.2:Int)))],[(30,(dc r5))],H0⟩
abbrev zM(x:((List (List Int))×Nat×Bool)):aI×St:=((.ex 0),⟨[(11,(.p ⟨0,30⟩ 0)),(12,(.o 25 (x.1.map (bc 3 (I))))),(31,(.l 25 (a3.map (bc 3 (I))))),(32,(I (a3.length:Int))),(33,(I (x.2.1:Int))),(34,(.b x.2.2))],[(30,(dc r5))],H0⟩)
theorem FZ(o:((List (List Int))×Nat)⊕((List (List Int))×Nat×Bool))(h:kq a3 r5 v0_12 v0_33=some o):bz E0 UI (HO a3 r5) (zM a3 r5) (v0_12,v0_33) o:=
 bG (.or (bt<|ao (.n v0_33)<|.ex fun (y8:(List Int))=>ao (.v (.l 3 (y8.map (I))))<|xB fun r10=>ao (.h (boxes 0 [(30,(dc r5))] H0))<|.or (bf<|.fb<|.ex fun (x13:(List (List Int)))=>ao (.jJ (tq a3 r5 v0_12 v0_33 y8 x13))<|ao (.i ((v0_33+1:Nat):Int))<|.nil) (bt<|.fb<|.ex fun (x13:(List (List Int)))=>ao (.jJ (tq a3 r5 v0_12 v0_33 ([]:List Int) x13))<|ao (.i ((v0_33+1:Nat):Int))<|.nil)) (bf<|.nil)) fun L=>bP h (fun h7 h=>ai (av h7)<|ai (rI v0_33)<|bR h fun y8 h9 h=>ai (aD (bc 3 (I)) h9)<|ai tt<|bR h fun r10 ek11 h=>have ek11:call G Ω0 ⟨0+1,true⟩ 66 [(.p ⟨0,30⟩ 0),(I (v0_33:Int))] (boxes 0 [(30,(dc r5))] H0)=some (.ret (.b r10),boxes 0 [(30,(dc r5))] H0):=pa (gE (bx1:=[(30,(dc r5))]) (by kernel_rfl) (by kernel_rfl)) (gE (bx1:=[(30,(dc r5))]) (by kernel_rfl) (by kernel_rfl)) (FY (0+1) (boxes 0 [(30,(dc r5))] H0) ⟨0,30⟩ (nm 0) (dw (iN 0)) r5 (v0_33:Int) _ ek11);ai ek11<|bI h (fun h12 h=>ai (an not h12)<|aW h (xb a3 r5 v0_12 v0_33 y8) fun x13 h=>aJ h fun w15 h=>ai w15<|L h) (fun h12 h=>ai (an not h12)<|aW h (xb a3 r5 v0_12 v0_33 ([]:List Int)) fun x13 h=>aJ h fun w15 h=>ai w15<|L h)) (fun h7 h=>ai (aw h7)<|L h)
end
section
variable (a0:Program)(a1:Int)(a2:Bool)(a3:(List (List Int)))
abbrev Kx(a0:Program)(a1:Int)(a2:Bool)(a3:(List (List Int)))(r:((List (List Int))×Int)):bm×HP:=(.ret (.tp [(.l 25 (r.1.map (bc 3 (I)))),(I r.2)]),H0)
def jd:Option ((List (List Int))×Int):=
 (hZ a0 a1).bind fun (r1:Int)=>
 if (r1 !=0)=true then
  some (([]:List (List Int)),r1)
 else
  if ((a3.length:Int) !=(a0.Ins.length:Int))=true then
   some (([]:List (List Int)),1)
  else
   (uk a0 a1 a2).bind fun (r5:mH)=>
   (lp (fun v=>kq a3 r5 v.1 v.2) (([]:List (List Int)),0)).bind fun (x7:((List (List Int))×Nat×Bool))=>
   some (x7.1,0)
theorem F0(r:((List (List Int))×Int))(h:jd a0 a1 a2 a3=some r):call G Ω0 E0 19 [(.a (ar a0)),(I a1),(.b a2),(.l 25 (a3.map (bc 3 (I))))] H0=some (Kx a0 a1 a2 a3 r):=
 aX G19 (bt<|xI fun r1=>oN (ao (.i (a3.length:Int))<|bt<|ao (.i (a0.Ins.length:Int))<|oN (bt<|.ex fun (r5:mH)=>ao (.l (dc r5))<|ao (.h (boxes 0 [(4,(ar a0))] H0))<|ao (.bx [(4,(ar a0))])<|ao (.h (H0))<|ao (.i (a3.length:Int))<|.ex fun (x7:((List (List Int))×Nat×Bool))=>ao (.bX (zM a3 r5 x7))<|.nil))) fun L=>su<|aW h (zL a0 a1) fun r1 h=>bI h (fun h3 h=>ai h3<|L h) (fun h3 h=>ai h3<|ai (aC (bc 3 (I)) a3)<|ai (rfl:Z0)<|ai (aC ay a0.Ins)<|bI h (fun h4 h=>ai h4<|L h) (fun h4 h=>ai h4<|ai (rfl:Z0)<|ai ff<|ai tt<|bR h fun r5 ek6 h=>have ek6:call G Ω0 ⟨0+1,false⟩ 65 [(.a (ar a0)),(I a1),(.b a2)] (boxes 0 [(4,(ar a0))] H0)=some (.new (dc r5),boxes 0 [(4,(ar a0))] H0):=B8 (0+1) (boxes 0 [(4,(ar a0))] H0) (dw (iN 0)) a0 a1 a2 _ ek6;ai ek6<|ai (zm ek6 (by kernel_rfl) (by kernel_rfl))<|ai (zn ek6 (iN 0))<|ai tt<|ai (aC (bc 3 (I)) a3)<|aW h (dZ (fun v=>FZ a3 r5 v.1 v.2) (([]:List (List Int)),0)) fun x7 h=>L h))
end
section
variable (a1:Event)(w1_1:Nat)(a0:Program)
def pP:Option (Unit⊕Unit):=
 if a1.Which<0 then
  some (.inl ())
 else
  if (w1_1:Int)≤a1.Which then
   some (.inl ())
  else
   some (.inr ())
abbrev m8(a1:Event)(w1_1:Nat)(x:(Unit⊕Unit)):aI×St:=match x with | .inl ()=>(.ret,⟨[(4,(I 5))],[],H0⟩) | .inr ()=>(.ret,⟨[(4,(I 0))],[],H0⟩)
theorem yy(x:(Unit⊕Unit))(h:pP a1 w1_1=some x):run G Ω0 E0 Vu ⟨[(3,(.p ⟨0,3⟩ 0)),(5,(I (w1_1:Int)))],[(3,(dS a1))],H0⟩=some (m8 a1 w1_1 x):=
 vu (bt<|.or (bf<|bf<|bf<|bf<|bt<|bt<|.nil) (Tw<|oN (.nil))) fun L=>ai (rfl:Z0)<|bP h (fun h4 h=>bY (av h4)<|bY (av h4)<|ai (av h4)<|ai tt<|L h) (fun h4 h=>bY (aw h4)<|ai (rfl:Z0)<|bY (aw h4)<|ai (aw h4)<|bP h (fun h5 h=>ai (av h5)<|L h) (fun h5 h=>ai (aw h5)<|L h))
abbrev MR(a0:Program)(a1:Event)(r:Int):bm×HP:=(.ret (I r),H0)
def um(a1:Event):Option Int:=
 if a1.Kind<1 then
  some 7
 else
  if 3<a1.Kind then
   some 7
  else
   if (a1.Kind==1)=true then
    (pP a1 a0.Outs.length).bind fun (x4:(Unit⊕Unit))=>match x4 with
    | .inl ya_5=>
     some 5
    | .inr yb_5=>
     some 0
   else
    (pP a1 a0.Vars.length).bind fun (x4:(Unit⊕Unit))=>match x4 with
    | .inl ya_5=>
     some 5
    | .inr yb_5=>
     some 0
theorem HQ(a1:Event)(r:Int)(h:um a0 a1=some r):call G Ω0 E0 68 [(.a (ar a0)),(.a (dS a1))] H0=some (MR a0 a1 r):=
 aX G68 (bt<|.or (Ts<|.nil) (Tt<|oN (bt<|ao (.i (a0.Vars.length:Int))<|bt<|.or (en<|ao (.i (a0.Outs.length:Int))<|.fb<|.or (.ex fun (ya_5:Unit)=>ao (.jJ (m8 a1 a0.Outs.length (.inl ya_5)))<|.nil) (.ex fun (yb_5:Unit)=>ao (.jJ (m8 a1 a0.Outs.length (.inr yb_5)))<|.nil)) (bf<|.fb<|.or (.ex fun (ya_5:Unit)=>ao (.jJ (m8 a1 a0.Vars.length (.inl ya_5)))<|.nil) (.ex fun (yb_5:Unit)=>ao (.jJ (m8 a1 a0.Vars.length (.inr yb_5)))<|.nil))))) fun L=>bq<|ai (rfl:Z0)<|bP h (fun h1 h=>bY (av h1)<|jy (av h1)<|ai tt<|L h) (fun h1 h=>ev8 (aw h1)<|bP h (fun h2 h=>ai (av h2)<|L h) (fun h2 h=>kP (aw h2)<|ai (aC cJ a0.Vars)<|ai (rfl:Z0)<|bI h (fun h3 h=>kP h3<|ai (aC ay a0.Outs)<|dy h (yy a1 a0.Outs.length) (fun ya_5 h=>L h) (fun yb_5 h=>L h)) (fun h3 h=>ai h3<|dy h (yy a1 a0.Vars.length) (fun ya_5 h=>L h) (fun yb_5 h=>L h))))
end
section
variable (dp:Nat)(hp:HP)(k0:Key)(c0:mH)(a0:Event)
abbrev F1(dp:Nat)(hp:HP)(k0:Key)(c0:mH)(a0:Event)(r:Bool):bm×HP:=(.ret (.b r),aF hp k0 (dc c0))
def jE:Option Bool:=
 if (a0.Kind==1)=true then
  (ed a0.Which).bind fun (j2:Nat)=>
  (c0.p.Outs[j2]?).bind fun (y4:Label)=>
  (lx c0.p.aj y4).bind fun (r6:Level)=>
  (ik c0 r6).bind fun (r8:Bool)=>
  some r8
 else
  (ed a0.Which).bind fun (j2:Nat)=>
  (c0.l.Vars[j2]?).bind fun (y4:Level)=>
  (ik c0 y4).bind fun (r6:Bool)=>
  some r6
theorem Cp(hk_k0:k0.dp<dp)(hz:cF dp hp)(c0:mH)(a0:Event)(r:Bool)(h:jE c0 a0=some r):call G Ω0 ⟨dp,true⟩ 121 [(.p k0 0),(.a (dS a0))] (aF hp k0 (dc c0))=some (F1 dp hp k0 c0 a0 r):=
 aX ajz (bt<|.or (wW<|ao (.l (dc c0))<|bf<|ao (.l (dc c0))<|bt<|xN fun j2=>.ex fun (y4:Label)=>ao (.v (.a [(.l 138 (y4.Read.map aE)),(.l 138 (y4.Write.map aE))]))<|.ex fun (r6:Level)=>ao (.v (.a [(.l 4 (r6.Readers.map AV.b)),(.l 4 (r6.Writers.map AV.b))]))<|xB fun r8=>ao (.h (boxes dp [(3,(dS a0))] (aF hp k0 (dc c0))))<|.nil) (bf<|bf<|ao (.l (dc c0))<|bt<|xN fun j2=>.ex fun (y4:Level)=>ao (.v (.a [(.l 4 (y4.Readers.map AV.b)),(.l 4 (y4.Writers.map AV.b))]))<|xB fun r6=>ao (.h (boxes dp [(3,(dS a0))] (aF hp k0 (dc c0))))<|.nil)) fun L=>ai ((by simp [dS,AV.cC,AV.dB,AV.deep,AV.ee,cP hk_k0,fx hk_k0]):(((.a (dS a0)):AV).deep dp&&(([(0,(.p k0 0)),(1,(.a (dS a0)))]:List (Nat×AV)).all (fun y=>y.2.cC ⟨dp,3⟩)&&([]:List (Nat×List AV)).all (fun y=>AV.dB ⟨dp,3⟩ y.2)))=true)<|ai (rN dp)<|bI h (fun h1 h=>ai h1<|bq<|bq<|bq<|ai (cT hk_k0)<|ai (eX hp k0 (dc c0))<|bq<|bq<|ai tt<|ai (cT hk_k0)<|ai (eX hp k0 (dc c0))<|bq<|ai (rN dp)<|ai tt<|kC h fun j2 h3 h=>ai h3<|bR h fun y4 h5 h=>ai (aD ay h5)<|bq<|aW h (sL c0.p.aj y4) fun r6 h=>bq<|bR h fun r8 ek9 h=>have ek9:=cO hk_k0 (pw (dp+1) (boxes dp [(3,(dS a0))] (aF hp k0 (dc c0))) k0 (eK hk_k0) (dw (cu hk_k0 (hz))) c0 r6 _ ek9);ai ek9<|L h) (fun h1 h=>ai h1<|bq<|bq<|bq<|ai (cT hk_k0)<|ai (eX hp k0 (dc c0))<|bq<|ai (rN dp)<|ai tt<|kC h fun j2 h3 h=>ai h3<|bR h fun y4 h5 h=>ai (aD aT h5)<|zU<|bR h fun r6 ek7 h=>have ek7:=cO hk_k0 (pw (dp+1) (boxes dp [(3,(dS a0))] (aF hp k0 (dc c0))) k0 (eK hk_k0) (dw (cu hk_k0 (hz))) c0 y4 _ ek7);ai ek7<|L h)
end
section
variable (c0:mH)(a0:(List Event))(v0_5:(List Event))(v0_10:Nat)(dp:Nat)(hp:HP)(k0:Key)
def jF:Option (((List Event)×Nat)⊕((List Event)×Nat×Bool)):=
 if (v0_10:Int)<(a0.length:Int) then
  (a0[v0_10]?).bind fun (y2:Event)=>
  (jE c0 y2).bind fun (r4:Bool)=>
  if r4=true then
   if v0_5.length + [y2].length≤1000000000 then
    if IntKind.i64.wrap ((v0_10:Int)+1)=((v0_10+1:Nat):Int) then
     some (.inl (v0_5++[y2],v0_10+1))
    else none
   else none
  else
   if IntKind.i64.wrap ((v0_10:Int)+1)=((v0_10+1:Nat):Int) then
    some (.inl (v0_5,v0_10+1))
   else none
 else
  some (.inr (v0_5,v0_10,decide ((v0_10:Int)<(a0.length:Int))))
abbrev F3(dp:Nat)(hp:HP)(k0:Key)(c0:mH)(a0:(List Event))(v:((List Event)×Nat)):St:=⟨[(0,(.p k0 0)),(5,(.o 125 (v.1.map aH))),(8,(.l 125 (a0.map aH))),(9,(I (a0.length:Int))),(10,(I (v.2:Int)))],[],aF hp k0 (dc c0)⟩
abbrev yz(dp:Nat)(hp:HP)(k0:Key)(c0:mH)(a0:(List Event))(x:((List Event)×Nat×Bool)):aI×St:=((.ex 0),⟨[(0,(.p k0 0)),(5,(.o 125 (x.1.map aH))),(8,(.l 125 (a0.map aH))),(9,(I (a0.length:Int))),(10,(I (x.2.1:Int))),(11,(.b x.2.2))],[],aF hp k0 (dc c0)⟩)
theorem EK(hk_k0:k0.dp<dp)(hz:cF dp hp)(c0:mH)(a0:(List Event))(v0_5:(List Event))(v0_10:Nat)(o:((List Event)×Nat)⊕((List Event)×Nat×Bool))(h:jF c0 a0 v0_5 v0_10=some o):bz ⟨dp,true⟩ Vv (F3 dp hp k0 c0 a0) (yz dp hp k0 c0 a0) (v0_5,v0_10) o:=
 bG (.or (bt<|ao (.n v0_10)<|.ex fun (y2:Event)=>ao (.v (.a (dS y2)))<|iu<|xB fun r4=>ao (.h (boxes dp [(7,(dS y2))] (aF hp k0 (dc c0))))<|.or (en<|ao (.l ([y2].map aH))<|ao (.l ((v0_5++[y2]).map aH))<|ao (.i ((v0_10+1:Nat):Int))<|.nil) (bf<|ao (.i ((v0_10+1:Nat):Int))<|.nil)) (bf<|.nil)) fun L=>bP h (fun h1 h=>ai (av h1)<|ai (rI v0_10)<|bR h fun y2 h3 h=>ai (aD aH h3)<|ai ((by simp [dS,AV.cC,AV.dB,AV.deep,AV.ee,cP hk_k0,fx hk_k0]):(([(13,(.a (dS y2))),(12,(.e (.a (dS y2)) 0)),(0,(.p k0 0)),(5,(.o 125 (v0_5.map aH))),(8,(.l 125 (a0.map aH))),(9,(I (a0.length:Int))),(10,(I (v0_10:Int)))]:List (Nat×AV)).all (fun y=>y.2.cC ⟨dp,7⟩)&&([]:List (Nat×List AV)).all (fun y=>AV.dB ⟨dp,7⟩ y.2))=true)<|ai (rfl:dp=dp)<|ai (rN dp)<|ai tt<|ai (rN dp)<|ai (rN dp)<|ai tt<|bR h fun r4 ek5 h=>have ek5:=cO hk_k0 (Cp (dp+1) (boxes dp [(7,(dS y2))] (aF hp k0 (dc c0))) k0 (eK hk_k0) (dw (cu hk_k0 (hz))) c0 y2 _ ek5);ai ek5<|bI h (fun h6 h=>ai h6<|ai (rN dp)<|ai (rfl:[(.a (dS y2))]=[y2].map aH)<|ai ff<|aJ h fun h7 h=>ai ((ir aH (n:=4) (fun _=>rfl) [y2]):([y2].map aH).all (fun e=>e.nc==4)=true)<|ai ((la h7 (by decide)):((v0_5.map aH).length+([y2].map aH).length)*32≤140737488355328)<|ai ((lf h7):(v0_5.map aH).length+([y2].map aH).length≤maxLen)<|ai (cI.symm:v0_5.map aH++[y2].map aH=(v0_5++[y2]).map aH)<|aJ h fun w8 h=>ai w8<|L h) (fun h6 h=>ai h6<|aJ h fun w7 h=>ai w7<|L h)) (fun h1 h=>ai (aw h1)<|L h)
abbrev Jl(dp:Nat)(hp:HP)(k0:Key)(c0:mH)(a0:(List Event))(r:(List Event)):bm×HP:=(.ret (.l 125 (r.map aH)),aF hp k0 (dc c0))
def rP:Option (List Event):=
 (lp (fun v=>jF c0 a0 v.1 v.2) (([]:List Event),0)).bind fun (x1:((List Event)×Nat×Bool))=>
 some x1.1
theorem EL(hk_k0:k0.dp<dp)(hz:cF dp hp)(c0:mH)(a0:(List Event))(r:(List Event))(h:rP c0 a0=some r):call G Ω0 ⟨dp,true⟩ 69 [(.p k0 0),(.l 125 (a0.map aH))] (aF hp k0 (dc c0))=some (Jl dp hp k0 c0 a0 r):=
 aX G69 (ao (.i (a0.length:Int))<|.ex fun (x1:((List Event)×Nat×Bool))=>ao (.bX (yz dp hp k0 c0 a0 x1))<|.nil) fun L=>ai (aC aH a0)<|aW h (dZ (fun v=>EK dp hp k0 hk_k0 hz c0 a0 v.1 v.2) (([]:List Event),0)) fun x1 h=>L h
end
section
variable (a0:Program)(a1:Int)(a2:Bool)(a3:(List Event))(v0_22:Nat)
def m9(a1:Int)(a2:Bool)(a3:(List Event))(v0_22:Nat):Option (Nat⊕(Int⊕(Nat×Bool))):=
 if (v0_22:Int)<(a3.length:Int) then
  (a3[v0_22]?).bind fun (y5:Event)=>
  (um a0 y5).bind fun (r7:Int)=>
  if (r7 !=0)=true then
   some (.inr (.inl r7))
  else
   if IntKind.i64.wrap ((v0_22:Int)+1)=((v0_22+1:Nat):Int) then
    some (.inl (v0_22+1))
   else none
 else
  some (.inr (.inr (v0_22,decide ((v0_22:Int)<(a3.length:Int)))))
abbrev HR(v:Nat):St:=⟨[(1,(I a1)),(2,(.b a2)),(3,(.l 125 (a3.map aH))),(4,(.p ⟨0,4⟩ 0)),(20,(.l 125 (a3.map aH))),(21,(I (a3.length:Int))),(22,(I (v:Int)))],[(4,(ar a0))],H0⟩
abbrev uo(x:(Int⊕(Nat×Bool))):aI×St:=match x with | .inl z1=>(.ret,⟨[(8,(.l 125 (([]:List Event).map aH))),(9,(I z1))],[],H0⟩) | .inr (z1,z2)=>((.ex 0),⟨[(1,(I a1)),(2,(.b a2)),(3,(.l 125 (a3.map aH))),(4,(.p ⟨0,4⟩ 0)),(20,(.l 125 (a3.map aH))),(21,(I (a3.length:Int))),(22,(I (z1:Int))),(23,(.b z2))],[(4,(ar a0))],H0⟩)
theorem F4(o:Nat⊕(Int⊕(Nat×Bool)))(h:m9 a0 a1 a2 a3 v0_22=some o):bz E0 UJ (HR a0 a1 a2 a3) (uo a0 a1 a2 a3) v0_22 o:=
 bG (.or (bt<|ao (.n v0_22)<|.ex fun (y5:Event)=>ao (.v (.a (dS y5)))<|qx<|xI fun r7=>oN (ao (.i ((v0_22+1:Nat):Int))<|.nil)) (bf<|.nil)) fun L=>bP h (fun h4 h=>ai (av h4)<|ai (rI v0_22)<|bR h fun y5 h6 h=>ai (aD aH h6)<|ai tt<|ai ff<|fB<|kD<|ai (rfl:Z0)<|aW h (HQ a0 y5) fun r7 h=>bI h (fun h9 h=>ai h9<|L h) (fun h9 h=>ai h9<|aJ h fun w10 h=>ai w10<|L h)) (fun h4 h=>ai (aw h4)<|L h)
abbrev Ky(a0:Program)(a1:Int)(a2:Bool)(a3:(List Event))(r:((List Event)×Int)):bm×HP:=(.ret (.tp [(.l 125 (r.1.map aH)),(I r.2)]),H0)
def mB:Option ((List Event)×Int):=
 (hZ a0 a1).bind fun (r1:Int)=>
 if (r1 !=0)=true then
  some (([]:List Event),r1)
 else
  (lp (fun v=>m9 a0 a1 a2 a3 v) 0).bind fun (x4:(Int⊕(Nat×Bool)))=>match x4 with
  | .inl ya_5=>
   some (([]:List Event),ya_5)
  | .inr yb_5=>
   (uk a0 a1 a2).bind fun (r7:mH)=>
   (rP r7 a3).bind fun (r9:(List Event))=>
   some (r9,0)
theorem F5(r:((List Event)×Int))(h:mB a0 a1 a2 a3=some r):call G Ω0 E0 20 [(.a (ar a0)),(I a1),(.b a2),(.l 125 (a3.map aH))] H0=some (Ky a0 a1 a2 a3 r):=
 aX G20 (bt<|xI fun r1=>oN (ao (.i (a3.length:Int))<|.or (.ex fun (ya_5:Int)=>ao (.bX (uo a0 a1 a2 a3 (.inl ya_5)))<|.nil) (.ex fun (yb_5:(Nat×Bool))=>ao (.bX (uo a0 a1 a2 a3 (.inr yb_5)))<|bt<|.ex fun (r7:mH)=>ao (.l (dc r7))<|ao (.h (boxes 0 [(4,(ar a0))] H0))<|ao (.bx [(4,(ar a0))])<|ao (.h (H0))<|.ex fun (r9:(List Event))=>ao (.v (.l 125 (r9.map aH)))<|ao (.h (boxes 0 [(36,(dc r7)),(4,(ar a0))] H0))<|.nil))) fun L=>su<|aW h (zL a0 a1) fun r1 h=>bI h (fun h3 h=>ai h3<|L h) (fun h3 h=>ai h3<|ai (aC aH a3)<|dy h (dZ (F4 a0 a1 a2 a3) 0) (fun ya_5 h=>L h) (fun yb_5 h=>ai (rfl:Z0)<|ai ff<|ai tt<|bR h fun r7 ek8 h=>have ek8:call G Ω0 ⟨0+1,false⟩ 65 [(.a (ar a0)),(I a1),(.b a2)] (boxes 0 [(4,(ar a0))] H0)=some (.new (dc r7),boxes 0 [(4,(ar a0))] H0):=B8 (0+1) (boxes 0 [(4,(ar a0))] H0) (dw (iN 0)) a0 a1 a2 _ ek8;ai ek8<|ai (zm ek8 (by kernel_rfl) (by kernel_rfl))<|ai (zn ek8 (iN 0))<|bq<|bR h fun r9 ek10 h=>have ek10:call G Ω0 ⟨0+1,true⟩ 69 [(.p ⟨0,36⟩ 0),(.l 125 (a3.map aH))] (boxes 0 [(36,(dc r7)),(4,(ar a0))] H0)=some (.ret (.l 125 (r9.map aH)),boxes 0 [(36,(dc r7)),(4,(ar a0))] H0):=pa (gE (bx1:=[(36,(dc r7)),(4,(ar a0))]) (by kernel_rfl) (by kernel_rfl)) (gE (bx1:=[(36,(dc r7)),(4,(ar a0))]) (by kernel_rfl) (by kernel_rfl)) (EL (0+1) (boxes 0 [(36,(dc r7)),(4,(ar a0))] H0) ⟨0,36⟩ (nm 0) (dw (iN 0)) r7 a3 _ ek10);ai ek10<|L h))
end
end
end Go.Proofs.YtkkkkondjclcnaaGreat.A
