/- Functions of the program as plain functions, by program. -/
import Derived.Test.YtkkkkondjclcnaaGreatTypes
import Derived.Test.YtkkkkondjclcnaaGreatLift
import Derived.Test.YtkkkkondjclcnaaGreatInfRE
import Derived.Test.YtkkkkondjclcnaaGreatFR
import Derived.Test.YtkkkkondjclcnaaGreatRLv
import Derived.Test.YtkkkkondjclcnaaGreatFitsF
set_option linter.all false
set_option maxRecDepth 100000
namespace Go.Proofs.YtkkkkondjclcnaaGreat.A
open Go
noncomputable section
variable [Lp]
section
variable (a0:ah)(a1:Level)
abbrev Jt(a0:ah)(a1:Level)(r:Int):bm×HP:=(.ret (I r),H0)
def rQ:Option Int:=
 if ((a1.Readers.length:Int) !=a0.Many)=true then
  some 1
 else
  if ((a1.Writers.length:Int) !=a0.Many)=true then
   some 1
  else
   some 0
theorem E3(r:Int)(h:rQ a0 a1=some r):call G Ω0 E0 52 [(.a [(I a0.Many),(.l 166 (a0.Grants.map aE))]),(.a [(.l 4 (a1.Readers.map AV.b)),(.l 4 (a1.Writers.map AV.b))])] H0=some (Jt a0 a1 r):=
 aW G52 (bt<|ao (.i (a1.Readers.length:Int))<|bt<|.or (bf<|bf<|bf<|bf<|bf<|bf<|bt<|bt<|.nil) (mD<|ao (.i (a1.Writers.length:Int))<|Tz<|oN (.nil))) fun L=>bW<|ai (rfl:Z0)<|ai (aC AV.b a1.Readers)<|ai (rfl:Z0)<|bz h (fun h1 h=>eD h1<|eD h1<|ai h1<|ai tt<|L h) (fun h1 h=>Az h1<|ai (aC AV.b a1.Writers)<|ev6 h1<|bz h (fun h2 h=>ai h2<|L h) (fun h2 h=>ai h2<|L h))
end
section
variable (a0:Program)(a1:aM)
def gy(v0_7:Nat):Option (Nat⊕(Unit⊕(Nat×Bool))):=
 if (v0_7:Int)<((((([]:List Level)++a1.Vars)++a1.Funcs).length:Nat):Int) then
  (((([]:List Level)++a1.Vars)++a1.Funcs)[v0_7]?).bind fun (y9:Level)=>
  (rQ a0.ah y9).bind fun (r11:Int)=>
  if (r11 !=0)=true then
   some (.inr (.inl ()))
  else
   if IntKind.i64.wrap ((v0_7:Int)+1)=((v0_7+1:Nat):Int) then
    some (.inl (v0_7+1))
   else none
 else
  some (.inr (.inr (v0_7,decide ((v0_7:Int)<((((([]:List Level)++a1.Vars)++a1.Funcs).length:Nat):Int)))))
abbrev E4(v:Nat):St:=⟨[(2,(.p ⟨0,2⟩ 0)),(6,(.l 45 (((([]:List Level)++a1.Vars)++a1.Funcs).map aq))),(7,(I (v:Int)))],[(2,(ar a0))],H0⟩
abbrev si(x:(Unit⊕(Nat×Bool))):aH×St:=match x with | .inl ()=>(.ret,⟨[(4,(I 1))],[],H0⟩) | .inr (z1,z2)=>((.ex 0),⟨[(2,(.p ⟨0,2⟩ 0)),(6,(.l 45 (((([]:List Level)++a1.Vars)++a1.Funcs).map aq))),(7,(I (z1:Int))),(39,(.b z2))],[(2,(ar a0))],H0⟩)
theorem D4(v0_7:Nat)(o:Nat⊕(Unit⊕(Nat×Bool)))(h:gy a0 a1 v0_7=some o):bu E0 Ux (E4 a0 a1) (si a0 a1) v0_7 o:=
 bH (ao (.i ((((([]:List Level)++a1.Vars)++a1.Funcs).length:Nat):Int))<|.or (dG<|ao (.n v0_7)<|.ex fun (y9:Level)=>ao (.v (.a [(.l 4 (y9.Readers.map AV.b)),(.l 4 (y9.Writers.map AV.b))]))<|xI fun r11=>oN (ao (.i ((v0_7+1:Nat):Int))<|.nil)) (bf<|.nil)) fun L=>ai (aC aq ((([]:List Level)++a1.Vars)++a1.Funcs))<|bL h (fun h8 h=>ai (av h8)<|bW<|ai (rfl:Z0)<|bW<|ai tt<|ai (rI v0_7)<|cb h fun y9 h10 h=>ai (aD aq h10)<|bW<|aU h (E3 a0.ah y9) fun r11 h=>bz h (fun h13 h=>ai h13<|L h) (fun h13 h=>ai h13<|aQ h fun w14 h=>ai w14<|L h)) (fun h8 h=>ai (aw h8)<|L h)
abbrev Ia(a0:Program)(a1:aM)(r:Int):bm×HP:=(.ret (I r),H0)
def pF:Option Int:=
 (lX a0).bind fun (r1:Int)=>
 if (r1 !=0)=true then
  some r1
 else
  if ((a1.Vars.length:Int) !=(a0.Vars.length:Int))=true then
   some 1
  else
   if ((a1.Funcs.length:Int) !=(a0.Funcs.length:Int))=true then
    some 1
   else
    if ([]:List Level).length+a1.Vars.length≤1000000000 then
     if (([]:List Level)++a1.Vars).length+a1.Funcs.length≤1000000000 then
      (lp (fun v=>gy a0 a1 v) 0).bind fun (x8:(Unit⊕(Nat×Bool)))=>match x8 with
      | .inl ya_9=>
       some 1
      | .inr yb_9=>
       some 0
     else none
    else none
theorem D5(r:Int)(h:pF a0 a1=some r):call G Ω0 E0 11 [(.a (ar a0)),(.a [(.l 45 (a1.Vars.map aq)),(.l 45 (a1.Funcs.map aq))])] H0=some (Ia a0 a1 r):=
 aW G11 (bt<|xI fun r1=>oN (bt<|ao (.i (a1.Vars.length:Int))<|bt<|ao (.i (a0.Vars.length:Int))<|.or (TD<|.nil) (mD<|ao (.i (a1.Funcs.length:Int))<|mD<|ao (.i (a0.Funcs.length:Int))<|vV<|oN (ao (.l (([]:List Level).map aq))<|bt<|ao (.l ((([]:List Level)++a1.Vars).map aq))<|bt<|ao (.l (((([]:List Level)++a1.Vars)++a1.Funcs).map aq))<|.or (.ex fun (ya_9:Unit)=>ao (.bT (si a0 a1 (.inl ya_9)))<|.nil) (.ex fun (yb_9:(Nat×Bool))=>ao (.bT (si a0 a1 (.inr yb_9)))<|.nil))))) fun L=>bW<|ai (rfl:Z0)<|aU h (uK a0) fun r1 h=>bz h (fun h3 h=>ai h3<|L h) (fun h3 h=>nI h3<|ai (aC aq a1.Vars)<|ai (rfl:Z0)<|ai (aC cn a0.Vars)<|bz h (fun h4 h=>Tv h4<|L h) (fun h4 h=>Az h4<|ai (aC aq a1.Funcs)<|Az h4<|ai (aC ct a0.Funcs)<|lJ h4<|bz h (fun h5 h=>ai h5<|L h) (fun h5 h=>ai h5<|ai tt<|ai (rfl:([]:List AV)=([]:List Level).map aq)<|IB<|aQ h fun h6 h=>ai ((jF aq (n:=2) (fun _=>rfl) a1.Vars):(a1.Vars.map aq).all (fun e=>e.nc==2)=true)<|ai ((nr h6 (by decide)):((([]:List Level).map aq).length+(a1.Vars.map aq).length)*48≤140737488355328)<|ai ((nu h6):(([]:List Level).map aq).length+(a1.Vars.map aq).length≤maxLen)<|ai (dc.symm:([]:List Level).map aq++a1.Vars.map aq=(([]:List Level)++a1.Vars).map aq)<|IB<|aQ h fun h7 h=>ai ((jF aq (n:=2) (fun _=>rfl) a1.Funcs):(a1.Funcs.map aq).all (fun e=>e.nc==2)=true)<|ai ((nr h7 (by decide)):(((([]:List Level)++a1.Vars).map aq).length+(a1.Funcs.map aq).length)*48≤140737488355328)<|ai ((nu h7):((([]:List Level)++a1.Vars).map aq).length+(a1.Funcs.map aq).length≤maxLen)<|ai (dc.symm:(([]:List Level)++a1.Vars).map aq++a1.Funcs.map aq=((([]:List Level)++a1.Vars)++a1.Funcs).map aq)<|dA h (ei (D4 a0 a1) 0) (fun ya_9 h=>L h) (fun yb_9 h=>L h))))
end
section
variable (a0:(List Bool))(a1:(List Bool))
def iQ(v0_5:Nat):Option (Nat⊕(Unit⊕(Nat×Bool))):=
 if (v0_5:Int)<(a0.length:Int) then
  (a0[v0_5]?).bind fun (y3:Bool)=>
  (a1[v0_5]?).bind fun (y5:Bool)=>
  if (y3==y5)=true then
   if IntKind.i64.wrap ((v0_5:Int)+1)=((v0_5+1:Nat):Int) then
    some (.inl (v0_5+1))
   else none
  else
   some (.inr (.inl ()))
 else
  some (.inr (.inr (v0_5,decide ((v0_5:Int)<(a0.length:Int)))))
abbrev Ib(v:Nat):St:=⟨[(0,(.l 4 (a0.map AV.b))),(1,(.l 4 (a1.map AV.b))),(5,(I (v:Int)))],[],H0⟩
abbrev ux(x:(Unit⊕(Nat×Bool))):aH×St:=match x with | .inl ()=>(.ret,⟨[(4,(.b false))],[],H0⟩) | .inr (z1,z2)=>((.ex 0),⟨[(0,(.l 4 (a0.map AV.b))),(1,(.l 4 (a1.map AV.b))),(5,(I (z1:Int))),(14,(.b z2))],[],H0⟩)
theorem Gi(v0_5:Nat)(o:Nat⊕(Unit⊕(Nat×Bool)))(h:iQ a0 a1 v0_5=some o):bu E0 Vu (Ib a0 a1) (ux a0 a1) v0_5 o:=
 bH (ao (.i (a0.length:Int))<|.or (bt<|ao (.n v0_5)<|xB fun y3=>ao (.n v0_5)<|xB fun y5=>.or (bf<|ao (.i ((v0_5+1:Nat):Int))<|.nil) (bt<|.nil)) (bf<|.nil)) fun L=>ai (aC AV.b a0)<|bL h (fun h2 h=>ai (av h2)<|bW<|ai tt<|ai (rI v0_5)<|cb h fun y3 h4 h=>ai (aD AV.b h4)<|xW<|ai (rI v0_5)<|cb h fun y5 h6 h=>ai (aD AV.b h6)<|bW<|bz h (fun h7 h=>ai (ak not h7)<|aQ h fun w8 h=>ai w8<|L h) (fun h7 h=>ai (ak not h7)<|L h)) (fun h2 h=>ai (aw h2)<|L h)
abbrev KN(a0:(List Bool))(a1:(List Bool))(r:Bool):bm×HP:=(.ret (.b r),H0)
def oU:Option Bool:=
 if ((a0.length:Int) !=(a1.length:Int))=true then
  some false
 else
  (lp (fun v=>iQ a0 a1 v) 0).bind fun (x2:(Unit⊕(Nat×Bool)))=>match x2 with
  | .inl ya_3=>
   some false
  | .inr yb_3=>
   some true
theorem yR(r:Bool)(h:oU a0 a1=some r):call G Ω0 E0 63 [(.l 4 (a0.map AV.b)),(.l 4 (a1.map AV.b))] H0=some (KN a0 a1 r):=
 aW G63 (ao (.i (a0.length:Int))<|ao (.i (a1.length:Int))<|oN (.or (.ex fun (ya_3:Unit)=>ao (.bT (ux a0 a1 (.inl ya_3)))<|.nil) (.ex fun (yb_3:(Nat×Bool))=>ao (.bT (ux a0 a1 (.inr yb_3)))<|.nil))) fun L=>ai (aC AV.b a0)<|ai (aC AV.b a1)<|bz h (fun h1 h=>ai h1<|L h) (fun h1 h=>ai h1<|dA h (ei (Gi a0 a1) 0) (fun ya_3 h=>L h) (fun yb_3 h=>L h))
end
section
variable (a0:Level)(a1:Level)
abbrev KO(a0:Level)(a1:Level)(r:Bool):bm×HP:=(.ret (.b r),H0)
def mz:Option Bool:=
 (oU a0.Readers a1.Readers).bind fun (r1:Bool)=>
 if r1=true then
  (oU a0.Writers a1.Writers).bind fun (r4:Bool)=>
  some r4
 else
  some false
theorem tw(r:Bool)(h:mz a0 a1=some r):call G Ω0 E0 61 [(.a [(.l 4 (a0.Readers.map AV.b)),(.l 4 (a0.Writers.map AV.b))]),(.a [(.l 4 (a1.Readers.map AV.b)),(.l 4 (a1.Writers.map AV.b))])] H0=some (KO a0 a1 r):=
 aW G61 (dG<|xB fun r1=>.or (Dc<|xB fun r4=>bt<|.nil) (Rf<|.nil)) fun L=>Iz<|aU h (yR a0.Readers a1.Readers) fun r1 h=>bz h (fun h3 h=>PB h3<|aU h (yR a0.Writers a1.Writers) fun r4 h=>ai h3<|L h) (fun h3 h=>LG h3<|L h)
end
section
variable (a0:(List Level))(a1:(List Level))
def jz(v0_5:Nat):Option (Nat⊕(Unit⊕(Nat×Bool))):=
 if (v0_5:Int)<(a0.length:Int) then
  (a0[v0_5]?).bind fun (y3:Level)=>
  (a1[v0_5]?).bind fun (y5:Level)=>
  (mz y3 y5).bind fun (r7:Bool)=>
  if r7=true then
   if IntKind.i64.wrap ((v0_5:Int)+1)=((v0_5+1:Nat):Int) then
    some (.inl (v0_5+1))
   else none
  else
   some (.inr (.inl ()))
 else
  some (.inr (.inr (v0_5,decide ((v0_5:Int)<(a0.length:Int)))))
abbrev Gj(v:Nat):St:=⟨[(0,(.l 45 (a0.map aq))),(1,(.l 45 (a1.map aq))),(5,(I (v:Int)))],[],H0⟩
abbrev tz(x:(Unit⊕(Nat×Bool))):aH×St:=match x with | .inl ()=>(.ret,⟨[(4,(.b false))],[],H0⟩) | .inr (z1,z2)=>((.ex 0),⟨[(0,(.l 45 (a0.map aq))),(1,(.l 45 (a1.map aq))),(5,(I (z1:Int))),(14,(.b z2))],[],H0⟩)
theorem E5(v0_5:Nat)(o:Nat⊕(Unit⊕(Nat×Bool)))(h:jz a0 a1 v0_5=some o):bu E0 UM (Gj a0 a1) (tz a0 a1) v0_5 o:=
 bH (ao (.i (a0.length:Int))<|.or (bt<|ao (.n v0_5)<|.ex fun (y3:Level)=>ao (.v (.a [(.l 4 (y3.Readers.map AV.b)),(.l 4 (y3.Writers.map AV.b))]))<|ao (.n v0_5)<|.ex fun (y5:Level)=>ao (.v (.a [(.l 4 (y5.Readers.map AV.b)),(.l 4 (y5.Writers.map AV.b))]))<|xB fun r7=>.or (bf<|ao (.i ((v0_5+1:Nat):Int))<|.nil) (bt<|.nil)) (bf<|.nil)) fun L=>ai (aC aq a0)<|bL h (fun h2 h=>ai (av h2)<|bW<|ai tt<|ai (rI v0_5)<|cb h fun y3 h4 h=>ai (aD aq h4)<|xW<|ai (rI v0_5)<|cb h fun y5 h6 h=>ai (aD aq h6)<|bW<|aU h (tw y3 y5) fun r7 h=>bz h (fun h9 h=>ai (ak not h9)<|aQ h fun w10 h=>ai w10<|L h) (fun h9 h=>ai (ak not h9)<|L h)) (fun h2 h=>ai (aw h2)<|L h)
abbrev Ju(a0:(List Level))(a1:(List Level))(r:Bool):bm×HP:=(.ret (.b r),H0)
def jA:Option Bool:=
 if ((a0.length:Int) !=(a1.length:Int))=true then
  some false
 else
  (lp (fun v=>jz a0 a1 v) 0).bind fun (x2:(Unit⊕(Nat×Bool)))=>match x2 with
  | .inl ya_3=>
   some false
  | .inr yb_3=>
   some true
theorem xa(r:Bool)(h:jA a0 a1=some r):call G Ω0 E0 17 [(.l 45 (a0.map aq)),(.l 45 (a1.map aq))] H0=some (Ju a0 a1 r):=
 aW G17 (ao (.i (a0.length:Int))<|ao (.i (a1.length:Int))<|oN (.or (.ex fun (ya_3:Unit)=>ao (.bT (tz a0 a1 (.inl ya_3)))<|.nil) (.ex fun (yb_3:(Nat×Bool))=>ao (.bT (tz a0 a1 (.inr yb_3)))<|.nil))) fun L=>ai (aC aq a0)<|ai (aC aq a1)<|bz h (fun h1 h=>ai h1<|L h) (fun h1 h=>ai h1<|dA h (ei (E5 a0 a1) 0) (fun ya_3 h=>L h) (fun yb_3 h=>L h))
end
section
variable (a0:Program)(a1:aM)
def lZ(v0_5:Nat):Option (Nat⊕(Unit⊕(Nat×Bool))):=
 if (v0_5:Int)<(a0.Vars.length:Int) then
  (a0.Vars[v0_5]?).bind fun (y2:Var)=>
  if y2.Known=true then
   (a1.Vars[v0_5]?).bind fun (y5:Level)=>
   (lr a0.ah y2.Label).bind fun (r7:Level)=>
   (mz y5 r7).bind fun (r9:Bool)=>
   if r9=true then
    if IntKind.i64.wrap ((v0_5:Int)+1)=((v0_5+1:Nat):Int) then
     some (.inl (v0_5+1))
    else none
   else
    some (.inr (.inl ()))
  else
   if IntKind.i64.wrap ((v0_5:Int)+1)=((v0_5+1:Nat):Int) then
    some (.inl (v0_5+1))
   else none
 else
  some (.inr (.inr (v0_5,decide ((v0_5:Int)<(a0.Vars.length:Int)))))
abbrev M3(v:Nat):St:=⟨[(2,(.p ⟨0,2⟩ 0)),(3,(.p ⟨0,3⟩ 0)),(5,(I (v:Int)))],[(2,(ar a0)),(3,[(.l 45 (a1.Vars.map aq)),(.l 45 (a1.Funcs.map aq))])],H0⟩
abbrev yS(x:(Unit⊕(Nat×Bool))):aH×St:=match x with | .inl ()=>(.ret,⟨[(4,(.b false))],[],H0⟩) | .inr (z1,z2)=>((.ex 0),⟨[(2,(.p ⟨0,2⟩ 0)),(3,(.p ⟨0,3⟩ 0)),(5,(I (z1:Int))),(15,(.b z2))],[(2,(ar a0)),(3,[(.l 45 (a1.Vars.map aq)),(.l 45 (a1.Funcs.map aq))])],H0⟩)
theorem KP(v0_5:Nat)(o:Nat⊕(Unit⊕(Nat×Bool)))(h:lZ a0 a1 v0_5=some o):bu E0 UH (M3 a0 a1) (yS a0 a1) v0_5 o:=
 bH (bt<|ao (.i (a0.Vars.length:Int))<|.or (dG<|ao (.n v0_5)<|.ex fun (y2:Var)=>ao (.v (.a (De y2)))<|.or (pj<|ao (.n v0_5)<|.ex fun (y5:Level)=>ao (.v (.a [(.l 4 (y5.Readers.map AV.b)),(.l 4 (y5.Writers.map AV.b))]))<|bt<|bt<|bt<|bt<|bt<|bt<|bt<|bt<|bt<|ao (.n v0_5)<|ao (.v (.a (De y2)))<|eF<|.ex fun (r7:Level)=>ao (.v (.a [(.l 4 (r7.Readers.map AV.b)),(.l 4 (r7.Writers.map AV.b))]))<|bt<|xB fun r9=>dG<|.or (bf<|ao (.i ((v0_5+1:Nat):Int))<|.nil) (bt<|.nil)) (bf<|bf<|bf<|bf<|bf<|bf<|bf<|bf<|bf<|bf<|bf<|bf<|bf<|bf<|bf<|bf<|bf<|bf<|ao (.i ((v0_5+1:Nat):Int))<|.nil)) (bf<|.nil)) fun L=>ai (rfl:Z0)<|ai (aC cn a0.Vars)<|bL h (fun h1 h=>Pz (av h1)<|ai (rI v0_5)<|cb h fun y2 h3 h=>ai (aD cn h3)<|xW<|bz h (fun h4 h=>Tw h4<|ai (rI v0_5)<|cb h fun y5 h6 h=>ai (aD aq h6)<|jG h4<|jG h4<|jG h4<|ai (rfl:Z0)<|jG h4<|jG h4<|ai (rfl:Z0)<|jG h4<|jG h4<|ai (rI v0_5)<|ai (aD cn h3)<|jG h4<|jG h4<|jG h4<|aU h (vg a0.ah y2.Label) fun r7 h=>jG h4<|aU h (tw y5 r7) fun r9 h=>lK h4<|bz h (fun h11 h=>ai (ak not h11)<|aQ h fun w12 h=>ai w12<|L h) (fun h11 h=>ai (ak not h11)<|L h)) (fun h4 h=>cU h4<|cU h4<|cU h4<|cU h4<|cU h4<|lK h4<|ai ff<|aQ h fun w5 h=>ai w5<|L h)) (fun h1 h=>ai (aw h1)<|L h)
def KQ:List b6:=gU (gM 69 10) [10]::gU (gB 70 .geq 69 (kI 0)) [69]::gU (gM 71 70) [70]::⟨⟨some 72,.fa 5 2,some ⟨71,true⟩,false⟩,true,[2],[],false,[],[],[]⟩::⟨⟨some 73,.ld none 72,some ⟨71,true⟩,false⟩,true,[72],[2],false,[],[],[]⟩::⟨⟨some 74,.mv 10,some ⟨71,true⟩,false⟩,true,[10],[],false,[],[],[]⟩::⟨⟨some 75,.ia 3 none 73 74,some ⟨71,true⟩,false⟩,true,[73,74],[2],false,[],[],[]⟩::⟨⟨some 76,.fa 0 75,some ⟨71,true⟩,false⟩,true,[75],[2],false,[],[],[]⟩::⟨⟨some 77,.ld none 76,some ⟨71,true⟩,false⟩,true,[76],[2],false,[],[],[]⟩::⟨⟨some 78,.no 77,some ⟨71,true⟩,false⟩,true,[77],[],false,[],[],[]⟩::gU (gk 79 71 78 (.c (.b false))) [71,78]::gU (gM 80 79) [79]::⟨⟨some 81,.mv 8,some ⟨80,true⟩,false⟩,true,[8],[],false,[],[],[]⟩::⟨⟨some 82,.mv 9,some ⟨80,true⟩,false⟩,true,[9],[],false,[],[],[]⟩::⟨⟨some 83,.ia 3 none 81 82,some ⟨80,true⟩,false⟩,true,[81,82],[],false,[],[],[]⟩::⟨⟨some 84,.fa 0 83,some ⟨80,true⟩,false⟩,true,[83],[],false,[],[],[]⟩::⟨⟨some 85,.ld (some 2) 84,some ⟨80,true⟩,false⟩,true,[84],[],false,[],[],[]⟩::⟨⟨some 86,.fa 0 3,some ⟨80,true⟩,false⟩,true,[3],[],false,[],[],[]⟩::⟨⟨some 87,.ld none 86,some ⟨80,true⟩,false⟩,true,[86],[3],false,[],[],[]⟩::⟨⟨some 88,.mv 10,some ⟨80,true⟩,false⟩,true,[10],[],false,[],[],[]⟩::⟨⟨some 89,.ia 2 none 87 88,some ⟨80,true⟩,false⟩,true,[87,88],[3],false,[],[],[]⟩::⟨⟨some 90,.ld (some 2) 89,some ⟨80,true⟩,false⟩,true,[89],[3],false,[],[],[]⟩::⟨⟨some 91,.ca 0 59 [85,90],some ⟨80,true⟩,false⟩,true,[85,90],[],false,[],[],[]⟩::⟨⟨some 92,.no 91,some ⟨80,true⟩,false⟩,true,[91],[],false,[],[],[]⟩::gU (gk 93 80 92 (.c (.b false))) [80,92]::gU (gM 94 93) [93]::⟨⟨some 95,.mv 10,some ⟨94,false⟩,false⟩,true,[10],[],false,[],[],[]⟩::⟨⟨some 96,.bo .lss false 95 (kI 0),some ⟨94,false⟩,false⟩,true,[95],[],false,[],[],[]⟩::⟨⟨some 97,.mv 96,some ⟨94,false⟩,false⟩,true,[96],[],false,[],[],[]⟩::⟨⟨some 98,.mv 8,some ⟨97,true⟩,false⟩,true,[8],[],false,[],[],[]⟩::⟨⟨some 99,.mv 9,some ⟨97,true⟩,false⟩,true,[9],[],false,[],[],[]⟩::⟨⟨some 100,.ia 3 none 98 99,some ⟨97,true⟩,false⟩,true,[98,99],[],false,[],[],[]⟩::⟨⟨some 101,.fa 0 100,some ⟨97,true⟩,false⟩,true,[100],[],false,[],[],[]⟩::⟨⟨some 102,.ld (some 2) 101,some ⟨97,true⟩,false⟩,true,[101],[],false,[],[],[]⟩::⟨⟨some 103,.fa 1 3,some ⟨97,true⟩,false⟩,true,[3],[],false,[],[],[]⟩::⟨⟨some 104,.ld none 103,some ⟨97,true⟩,false⟩,true,[103],[3],false,[],[],[]⟩::⟨⟨some 105,.mv 10,some ⟨97,true⟩,false⟩,true,[10],[],false,[],[],[]⟩::⟨⟨some 106,.bo .sub false (kI (-1)) 105,some ⟨97,true⟩,false⟩,true,[105],[],false,[],[],[]⟩::⟨⟨some 107,.ia 2 none 104 106,some ⟨97,true⟩,false⟩,true,[104,106],[3],false,[],[],[]⟩::⟨⟨some 108,.ld (some 2) 107,some ⟨97,true⟩,false⟩,true,[107],[3],false,[],[],[]⟩::⟨⟨some 109,.ca 0 59 [102,108],some ⟨97,true⟩,false⟩,false,[],[],false,[],[],[]⟩::⟨⟨some 110,.no 109,some ⟨97,true⟩,false⟩,false,[],[],false,[],[],[]⟩::⟨⟨some 111,.pk 97 110 (.c (.b false)),some ⟨94,false⟩,false⟩,false,[],[],false,[],[],[]⟩::gH (gp 112 (.pk 94 (.c (.b true)) 111))::[]
def sS(r4:(List aZ))(v1_7:Nat)(r9:(List cD))(v2_9:Nat)(y12:cD):Option Bool:=
 if 0≤y12.To then
  (eI y12.To).bind fun (j15:Nat)=>
  (a0.Vars[j15]?).bind fun (y17:Var)=>
  if y17.Known=true then
   if y12.To<0 then
    (r9[v2_9]?).bind fun (y21:cD)=>
    if IntKind.i64.wrap ((-1) - y12.To)=(-1) - y12.To then
     (eI ((-1) - y12.To)).bind fun (j24:Nat)=>
     (a1.Funcs[j24]?).bind fun (y26:Level)=>
     (fI y21.L y26).bind fun (r28:Bool)=>
     some (!r28)
    else none
   else
    some false
  else
   (r9[v2_9]?).bind fun (y20:cD)=>
   (a1.Vars[j15]?).bind fun (y22:Level)=>
   (fI y20.L y22).bind fun (r24:Bool)=>
   if r24=true then
    if y12.To<0 then
     if IntKind.i64.wrap ((-1) - y12.To)=(-1) - y12.To then
      (eI ((-1) - y12.To)).bind fun (j29:Nat)=>
      (a1.Funcs[j29]?).bind fun (y31:Level)=>
      (fI y20.L y31).bind fun (r33:Bool)=>
      some (!r33)
     else none
    else
     some false
   else
    some true
 else
  if y12.To<0 then
   (r9[v2_9]?).bind fun (y16:cD)=>
   if IntKind.i64.wrap ((-1) - y12.To)=(-1) - y12.To then
    (eI ((-1) - y12.To)).bind fun (j19:Nat)=>
    (a1.Funcs[j19]?).bind fun (y21:Level)=>
    (fI y16.L y21).bind fun (r23:Bool)=>
    some (!r23)
   else none
  else
   some false
abbrev Cl(r4:(List aZ))(v1_7:Nat)(r9:(List cD))(v2_9:Nat)(y12:cD)(x:Bool):St:=⟨[(2,(.p ⟨0,2⟩ 0)),(3,(.p ⟨0,3⟩ 0)),(6,(.l 113 (r4.map cg))),(7,(I (v1_7:Int))),(8,(.l 115 (r9.map cG))),(9,(I (v2_9:Int))),(112,(.b x))],[(2,(ar a0)),(3,[(.l 45 (a1.Vars.map aq)),(.l 45 (a1.Funcs.map aq))])],H0⟩
theorem Jv(r4:(List aZ))(v1_7:Nat)(r9:(List cD))(v2_9:Nat)(y12:cD)(x:Bool)(h:sS a0 a1 r4 v1_7 r9 v2_9 y12=some x):Fz G Ω0 E0 [2,3,6,7,8,9,112] [2,3] KQ ⟨[(2,(.p ⟨0,2⟩ 0)),(3,(.p ⟨0,3⟩ 0)),(6,(.l 113 (r4.map cg))),(7,(I (v1_7:Int))),(8,(.l 115 (r9.map cG))),(9,(I (v2_9:Int))),(10,(I y12.To))],[(2,(ar a0)),(3,[(.l 45 (a1.Vars.map aq)),(.l 45 (a1.Funcs.map aq))])],H0⟩=some (Cl a0 a1 r4 v1_7 r9 v2_9 y12 x):=
 aaS (.or (pj<|xN fun j15=>.ex fun (y17:Var)=>ao (.v (.a (De y17)))<|mD<|.or (bf<|bf<|bf<|bf<|bf<|bf<|bf<|bf<|bf<|bf<|bf<|bf<|bf<|bt<|bt<|bt<|.or (eF<|ao (.n v2_9)<|.ex fun (y21:cD)=>ao (.v (.a (Dd y21)))<|Dc<|ao (.i ((-1) - y12.To))<|bt<|xN fun j24=>.ex fun (y26:Level)=>ao (.v (.a [(.l 4 (y26.Readers.map AV.b)),(.l 4 (y26.Writers.map AV.b))]))<|dG<|xB fun r28=>LI<|.nil) (TE<|.nil)) (eF<|ao (.n v2_9)<|.ex fun (y20:cD)=>ao (.v (.a (Dd y20)))<|Dc<|ao (.n j15)<|.ex fun (y22:Level)=>ao (.v (.a [(.l 4 (y22.Readers.map AV.b)),(.l 4 (y22.Writers.map AV.b))]))<|dG<|xB fun r24=>dG<|.or (eF<|.or (eF<|ao (.n v2_9)<|ao (.v (.a (Dd y20)))<|Dc<|ao (.i ((-1) - y12.To))<|bt<|xN fun j29=>.ex fun (y31:Level)=>ao (.v (.a [(.l 4 (y31.Readers.map AV.b)),(.l 4 (y31.Writers.map AV.b))]))<|dG<|xB fun r33=>LI<|.nil) (TE<|.nil)) (N8<|.nil))) (bf<|bf<|bf<|bf<|bf<|bf<|bf<|bf<|bf<|bf<|bf<|bf<|bf<|bf<|bf<|bf<|bf<|bf<|bf<|bf<|bf<|bt<|bt<|bt<|.or (eF<|ao (.n v2_9)<|.ex fun (y16:cD)=>ao (.v (.a (Dd y16)))<|Dc<|ao (.i ((-1) - y12.To))<|bt<|xN fun j19=>.ex fun (y21:Level)=>ao (.v (.a [(.l 4 (y21.Readers.map AV.b)),(.l 4 (y21.Writers.map AV.b))]))<|dG<|xB fun r23=>LI<|.nil) (TE<|.nil))) fun L=>bW<|ai tt<|bL h (fun h14 h=>Tw (av h14)<|ou h fun j15 h16 h=>ai h16<|cb h fun y17 h18 h=>ai (aD cn h18)<|jG (av h14)<|jG (av h14)<|jG (av h14)<|ai tt<|ai (av h14)<|bW<|bz h (fun h19 h=>cU (ak not h19)<|cU (ak not h19)<|cU (ak not h19)<|cU (ak not h19)<|ai (ak not h19)<|bW<|ai hf<|ai tt<|ai hf<|ai tt<|ai hf<|ai tt<|bL h (fun h20 h=>PD (av h20)<|ai (rI v2_9)<|cb h fun y21 h22 h=>ai (aD cG h22)<|PE (av h20)<|aQ h fun w23 h=>ai w23<|jG (av h20)<|ou h fun j24 h25 h=>ai h25<|cb h fun y26 h27 h=>ai (aD aq h27)<|jG (av h20)<|jG (av h20)<|aU h (lB y21.L y26) fun r28 h=>Db (av h20)<|L h) (fun h20 h=>cU (aw h20)<|cU (aw h20)<|cU (aw h20)<|cU (aw h20)<|Db (aw h20)<|L h)) (fun h19 h=>PD (ak not h19)<|ai (rI v2_9)<|cb h fun y20 h21 h=>ai (aD cG h21)<|PE (ak not h19)<|ai h16<|cb h fun y22 h23 h=>ai (aD aq h23)<|jG (ak not h19)<|jG (ak not h19)<|aU h (lB y20.L y22) fun r24 h=>jG (ak not h19)<|ai tt<|ai (ak not h19)<|bW<|bz h (fun h26 h=>ai (g0 (ak not h26))<|Bw (ak not h26)<|ai tt<|bL h (fun h27 h=>PD (av h27)<|ai (rI v2_9)<|ai (aD cG h21)<|PE (av h27)<|aQ h fun w28 h=>ai w28<|jG (av h27)<|ou h fun j29 h30 h=>ai h30<|cb h fun y31 h32 h=>ai (aD aq h32)<|jG (av h27)<|jG (av h27)<|aU h (lB y20.L y31) fun r33 h=>ai (g1 (av h27))<|ai (g0 (ak not h26))<|ai (av h27)<|ai (ak not h26)<|L h) (fun h27 h=>cU (aw h27)<|cU (aw h27)<|cU (aw h27)<|cU (aw h27)<|ai (g1 (aw h27))<|ai (g0 (ak not h26))<|ai (aw h27)<|ai (ak not h26)<|L h)) (fun h26 h=>N7 (ak not h26)<|L h))) (fun h14 h=>cU (aw h14)<|cU (aw h14)<|lK (aw h14)<|bW<|qp<|qp<|qp<|qp<|qp<|qp<|ai ff<|bW<|ai hf<|ai tt<|ai hf<|ai tt<|ai hf<|ai tt<|bL h (fun h15 h=>PD (av h15)<|ai (rI v2_9)<|cb h fun y16 h17 h=>ai (aD cG h17)<|PE (av h15)<|aQ h fun w18 h=>ai w18<|jG (av h15)<|ou h fun j19 h20 h=>ai h20<|cb h fun y21 h22 h=>ai (aD aq h22)<|jG (av h15)<|jG (av h15)<|aU h (lB y16.L y21) fun r23 h=>Db (av h15)<|L h) (fun h15 h=>cU (aw h15)<|cU (aw h15)<|cU (aw h15)<|cU (aw h15)<|Db (aw h15)<|L h))
def l6(r4:(List aZ))(v1_7:Nat)(r9:(List cD))(v2_9:Nat):Option (Nat⊕(Unit⊕(Nat×Bool))):=
 if (v2_9:Int)<(r9.length:Int) then
  (r9[v2_9]?).bind fun (y12:cD)=>
  (sS a0 a1 r4 v1_7 r9 v2_9 y12).bind fun (x14:Bool)=>
  if x14=true then
   some (.inr (.inl ()))
  else
   if IntKind.i64.wrap ((v2_9:Int)+1)=((v2_9+1:Nat):Int) then
    some (.inl (v2_9+1))
   else none
 else
  some (.inr (.inr (v2_9,decide ((v2_9:Int)<(r9.length:Int)))))
abbrev M4(r4:(List aZ))(v1_7:Nat)(r9:(List cD))(v:Nat):St:=⟨[(2,(.p ⟨0,2⟩ 0)),(3,(.p ⟨0,3⟩ 0)),(6,(.l 113 (r4.map cg))),(7,(I (v1_7:Int))),(8,(.l 115 (r9.map cG))),(9,(I (v:Int)))],[(2,(ar a0)),(3,[(.l 45 (a1.Vars.map aq)),(.l 45 (a1.Funcs.map aq))])],H0⟩
abbrev yT(r4:(List aZ))(v1_7:Nat)(r9:(List cD))(x:(Unit⊕(Nat×Bool))):aH×St:=match x with | .inl ()=>(.ret,⟨[(4,(.b false))],[],H0⟩) | .inr (z1,z2)=>((.ex 4),⟨[(2,(.p ⟨0,2⟩ 0)),(3,(.p ⟨0,3⟩ 0)),(6,(.l 113 (r4.map cg))),(7,(I (v1_7:Int))),(8,(.l 115 (r9.map cG))),(9,(I (z1:Int))),(61,(.b z2))],[(2,(ar a0)),(3,[(.l 45 (a1.Vars.map aq)),(.l 45 (a1.Funcs.map aq))])],H0⟩)
theorem KR(r4:(List aZ))(v1_7:Nat)(r9:(List cD))(v2_9:Nat)(o:Nat⊕(Unit⊕(Nat×Bool)))(h:l6 a0 a1 r4 v1_7 r9 v2_9=some o):bu E0 UI (M4 a0 a1 r4 v1_7 r9) (yT a0 a1 r4 v1_7 r9) v2_9 o:=
 bH (ao (.i (r9.length:Int))<|.or (bt<|ao (.n v2_9)<|.ex fun (y12:cD)=>ao (.v (.a (Dd y12)))<|.jb (some 69) 43<|.ex fun (x14:Bool)=>ao (.jn (Cl a0 a1 r4 v1_7 r9 v2_9 y12 x14))<|oN (ao (.i ((v2_9+1:Nat):Int))<|.nil)) (bf<|.nil)) fun L=>ai (aC cG r9)<|bL h (fun h11 h=>ai (av h11)<|ai (rI v2_9)<|cb h fun y12 h13 h=>ai (aD cG h13)<|ai tt<|aU h (Jv a0 a1 r4 v1_7 r9 v2_9 y12) fun x14 h=>bz h (fun h16 h=>ai h16<|L h) (fun h16 h=>ai h16<|aQ h fun w17 h=>ai w17<|L h)) (fun h11 h=>ai (aw h11)<|L h)
def nT(r4:(List aZ))(v1_7:Nat):Option (Nat⊕(Unit⊕(Nat×Bool))):=
 if (v1_7:Int)<(r4.length:Int) then
  (r4[v1_7]?).bind fun (y7:aZ)=>
  (nj a0 a1 y7).bind fun (r9:(List cD))=>
  (lp (fun v=>l6 a0 a1 r4 v1_7 r9 v) 0).bind fun (x11:(Unit⊕(Nat×Bool)))=>match x11 with
  | .inl ya_12=>
   some (.inr (.inl ()))
  | .inr yb_12=>
   if IntKind.i64.wrap ((v1_7:Int)+1)=((v1_7+1:Nat):Int) then
    some (.inl (v1_7+1))
   else none
 else
  some (.inr (.inr (v1_7,decide ((v1_7:Int)<(r4.length:Int)))))
abbrev M5(r4:(List aZ))(v:Nat):St:=⟨[(2,(.p ⟨0,2⟩ 0)),(3,(.p ⟨0,3⟩ 0)),(6,(.l 113 (r4.map cg))),(7,(I (v:Int)))],[(2,(ar a0)),(3,[(.l 45 (a1.Vars.map aq)),(.l 45 (a1.Funcs.map aq))])],H0⟩
abbrev yU(r4:(List aZ))(x:(Unit⊕(Nat×Bool))):aH×St:=match x with | .inl ()=>(.ret,⟨[(4,(.b false))],[],H0⟩) | .inr (z1,z2)=>((.ex 2),⟨[(2,(.p ⟨0,2⟩ 0)),(3,(.p ⟨0,3⟩ 0)),(6,(.l 113 (r4.map cg))),(7,(I (z1:Int))),(48,(.b z2))],[(2,(ar a0)),(3,[(.l 45 (a1.Vars.map aq)),(.l 45 (a1.Funcs.map aq))])],H0⟩)
theorem KT(r4:(List aZ))(v1_7:Nat)(o:Nat⊕(Unit⊕(Nat×Bool)))(h:nT a0 a1 r4 v1_7=some o):bu E0 UJ (M5 a0 a1 r4) (yU a0 a1 r4) v1_7 o:=
 bH (ao (.i (r4.length:Int))<|.or (eF<|ao (.n v1_7)<|.ex fun (y7:aZ)=>ao (.v (.a (xF y7)))<|.ex fun (r9:(List cD))=>ao (.v (.l 115 (r9.map cG)))<|.or (.ex fun (ya_12:Unit)=>ao (.bT (yT a0 a1 r4 v1_7 r9 (.inl ya_12)))<|.nil) (.ex fun (yb_12:(Nat×Bool))=>ao (.bT (yT a0 a1 r4 v1_7 r9 (.inr yb_12)))<|ao (.i ((v1_7+1:Nat):Int))<|.nil)) (bf<|.nil)) fun L=>ai (aC cg r4)<|bL h (fun h6 h=>ai (av h6)<|et<|et<|bW<|ai tt<|ai (rI v1_7)<|cb h fun y7 h8 h=>ai (aD cg h8)<|bW<|aU h (Jp a0 a1 y7) fun r9 h=>dA h (ei (KR a0 a1 r4 v1_7 r9) 0) (fun ya_12 h=>L h) (fun yb_12 h=>aQ h fun w14 h=>ai w14<|L h)) (fun h6 h=>ai (aw h6)<|L h)
abbrev Qg(a0:Program)(a1:aM)(r:Bool):bm×HP:=(.ret (.b r),H0)
def uy:Option Bool:=
 (lp (fun v=>lZ a0 a1 v) 0).bind fun (x1:(Unit⊕(Nat×Bool)))=>match x1 with
 | .inl ya_2=>
  some false
 | .inr yb_2=>
  (jW a0 a1).bind fun (r4:(List aZ))=>
  (lp (fun v=>nT a0 a1 r4 v) 0).bind fun (x6:(Unit⊕(Nat×Bool)))=>match x6 with
  | .inl ya_7=>
   some false
  | .inr yb_7=>
   some true
theorem KU(r:Bool)(h:uy a0 a1=some r):call G Ω0 E0 14 [(.a (ar a0)),(.a [(.l 45 (a1.Vars.map aq)),(.l 45 (a1.Funcs.map aq))])] H0=some (Qg a0 a1 r):=
 aW G14 (.or (.ex fun (ya_2:Unit)=>ao (.bT (yS a0 a1 (.inl ya_2)))<|.nil) (.ex fun (yb_2:(Nat×Bool))=>ao (.bT (yS a0 a1 (.inr yb_2)))<|dG<|.ex fun (r4:(List aZ))=>ao (.v (.l 113 (r4.map cg)))<|.or (.ex fun (ya_7:Unit)=>ao (.bT (yU a0 a1 r4 (.inl ya_7)))<|.nil) (.ex fun (yb_7:(Nat×Bool))=>ao (.bT (yU a0 a1 r4 (.inr yb_7)))<|.nil))) fun L=>bW<|dA h (ei (KP a0 a1) 0) (fun ya_2 h=>L h) (fun yb_2 h=>uT<|aU h (HR a0 a1) fun r4 h=>dA h (ei (KT a0 a1 r4) 0) (fun ya_7 h=>L h) (fun yb_7 h=>L h))
end
end
variable [Lp]
theorem OR{α:Type}[DecidableEq α]:∀ {x y:List α},x.length=y.length→((x.zip y).any fun z=>decide (z.1≠z.2))=decide (x≠y)
 | [],[],_=>by simp
 | a::x,b::y,h=>by
  have ih:=OR (x:=x) (y:=y) (by simpa using h)
  rw [List.zip_cons_cons,vz,ih]
  by_cases h1:a=b<;>by_cases h2:x=y<;>simp [h1,h2]
theorem D6{x y:List Bool}(hx:x.length≤1000000):oU x y=some (decide (x=y)):=by
 unfold oU
 by_cases hl:x.length=y.length
 ·rw [ab (by simp [hl])]
  have hz:(x.zip y).length=x.length:=by simp [hl]
  have q:=qo (B:=fun v=>iQ x y v) (x.zip y) (fun z=>decide (z.1≠z.2)) id (x:=.inl ()) (y:=.inr (x.length,false))
   (fun k hk hq=>by
    have h1:k<x.length:=by omega
    have h2:k<y.length:=by omega
    simp only [zz,ne_eq,decide_not,Bool.not_eq_false',cE] at hq
    simp [iQ,h1,h2,hq,fM k (by omega)])
   (fun k hk hq=>by
    have h1:k<x.length:=by omega
    have h2:k<y.length:=by omega
    simp only [zz,ne_eq,decide_not,gu,zt] at hq
    simp [iQ,h1,h2,hq])
   (by simp [iQ,hz])
  have q':lp (fun v=>iQ x y v) 0=_:=q
  rw [q',OR hl,ae]
  by_cases h:x=y<;>simp [h]
 ·rw [aa (by simp;omega)]
  have:x≠y:=fun e=>hl (by rw [e])
  simp [this]
open Classical in
theorem uz{l m:Level}(h1:l.Readers.length≤1000000)(h2:l.Writers.length≤1000000):mz l m=some (decide (l=m)):=by
 unfold mz
 rw [D6 h1,D6 h2,ae]
 obtain ⟨a,b⟩:=l
 obtain ⟨c,d⟩:=m
 by_cases q1:a=c<;>by_cases q2:b=d<;>simp [q1,q2]
theorem wV{n:Nat}(hn:n≤1000000){L:List Level}(hL:L.length≤1000000)(hs:∀ l∈L,bc n l):jA L L=some true:=by
 unfold jA
 rw [ab (by simp)]
 have q:=sx (B:=fun v=>jz L L v) L.length id (x:=.inr (L.length,false))
  (fun k hk=>by
   have h:=hs _ (bY hk)
   have e:=uz (l:=L[k]) (m:=L[k]) (by rw [h.1];exact hn) (by rw [h.2];exact hn)
   simp [jz,hk,e,fM k (by omega)])
  (by simp [jz])
 have q':lp (fun v=>jz L L v) 0=_:=q
 rw [q',ae]
theorem Qh{p:Program}(hp:∀ f∈p.Funcs,f.Params.length≤9223372036854775807)(l:aM):∃ e,my p l=some e∧pF p l=some e∧(dh p≠0→e=dh p)∧(dh p=0→(e=0↔dx p l.Vars l.Funcs)):=by
 obtain ⟨e,e1,e2,e3⟩:=Gh hp l
 refine ⟨e,e1,?_,e2,fun h=>(e3 h).1⟩
 unfold pF
 rw [VS hp,ae]
 by_cases hc:dh p=0
 ·have h:=we hc
  have ho:=mZ hc
  have hv:=ho.vars
  have hf:=ho.funcs
  have hm:=Ev h.dK
  obtain ⟨e4,e5⟩:=e3 hc
  rw [ab (by simp [hc])]
  by_cases h1:l.Vars.length=p.Vars.length
  ·rw [ab (by simp [h1])]
   by_cases h2:l.Funcs.length=p.Funcs.length
   ·rw [ab (by simp [h2]),aa (by simp;omega),aa (by simp;omega)]
    have cl:∀ x:Level,rQ p.ah x=some (if gO p.ah x=true then 0 else 1):=fun x=>by
     unfold rQ gO
     by_cases g1:(x.Readers.length:Int)=p.ah.Many<;>by_cases g2:(x.Writers.length:Int)=p.ah.Many<;>simp [g1,g2]
    have hlen:(([]++l.Vars)++l.Funcs:List Level).length≤1000:=by simp;omega
    have q:=qo (B:=fun v=>gy p l v) (([]++l.Vars)++l.Funcs) (fun x=>!gO p.ah x) id (x:=.inl ()) (y:=.inr ((([]++l.Vars)++l.Funcs:List Level).length,false))
     (fun k hk hq=>by
      have hq:gO p.ah (([]++l.Vars)++l.Funcs:List Level)[k]=true:=by simpa using hq
      have hg:=aA hk
      generalize (([]++l.Vars)++l.Funcs:List Level)[k]=x at hg hq
      simp only [gy,id]
      rw [aa (by omega),hg,ae,cl,ae,aa hq,ab (by simp),aa (fM k (by omega))])
     (fun k hk hq=>by
      have hq:¬gO p.ah (([]++l.Vars)++l.Funcs:List Level)[k]=true:=by simpa using hq
      have hg:=aA hk
      generalize (([]++l.Vars)++l.Funcs:List Level)[k]=x at hg hq
      simp only [gy,id]
      rw [aa (by omega),hg,ae,cl,ae,ab hq,aa (by simp)])
     (by simp [gy])
    have q':lp (fun v=>gy p l v) 0=_:=q
    rw [q',ae]
    have key:((([]++l.Vars)++l.Funcs:List Level).any fun x=>!gO p.ah x)=false↔dx p l.Vars l.Funcs:=by
     have sz:∀ x:Level,(¬(!gO p.ah x)=true)↔bc (MM p) x:=fun x=>by
      unfold gO bc MM
      simp only [gu,Bool.not_eq_false,cE]
      omega
     rw [zy]
     refine ⟨fun hh=>⟨h1,h2,fun x hx=>(sz x).1 (hh x (by simp [hx])),fun x hx=>(sz x).1 (hh x (by simp [hx]))⟩,fun r x hx=>(sz x).2 ?_⟩
     rw [dX] at hx
     exact (bJ.1 hx).elim (r.vs x) (r.fs x)
    generalize ((([]++l.Vars)++l.Funcs:List Level).any fun x=>!gO p.ah x)=z at key
    cases z with
    | true=>rw [aa rfl,e5.resolve_left fun h0=>by simpa using key.2 (e4.1 h0)]
    | false=>rw [ab (by simp),e4.2 (key.1 rfl)]
   ·rw [aa (by simp;omega),e5.resolve_left fun h0=>h2 (e4.1 h0).fl]
  ·rw [aa (by simp;omega),e5.resolve_left fun h0=>h1 (e4.1 h0).vl]
 ·rw [aa (by simpa using hc),e2 hc]
section
variable {p:Program}(h:oS p)(ho:Dy p){l:aM}(hR:dx p l.Vars l.Funcs)
include h ho hR
open Classical in
theorem M6{f:cY}(hf:qJ p f)(L:List aZ)(a:Nat)(r:List cD){k:Nat}(hk:r[k]? =some (rX f)):sS p l L a r k (rX f)=some (decide (¬o9 p (MM p) l.Vars l.Funcs f)):=by
 obtain ⟨h1,h2,h3⟩:=hf
 unfold sS o9
 unfold rX at hk ⊢
 cases hfn:f.Func with
 | true=>
  rw [hfn,aa rfl] at h3
  rw [hfn] at hk
  have hi:f.To.toNat<l.Funcs.length:=by rw [hR.fl];exact h3
  have ht:=aA hi
  have hw:IntKind.i64.wrap (-1 - (-1 - f.To))=f.To:=by
   rw [show -1 - (-1 - f.To)=f.To by omega]
   have:=hR.fl;have:=ho.funcs
   exact wrap64 (by omega) (by omega)
  simp only [an] at hk ⊢
  rw [ab (by omega),aa (by omega),hk,ae]
  simp only [show -1 - (-1 - f.To)=f.To by omega] at hw ⊢
  rw [aa hw,dP h2,ae,ht,ae,Aa h.small h1 (qL hR.fs ht),ae]
  generalize l.Funcs[f.To.toNat]=t at ht
  cases hu:jS (MM p) f.Level t<;>simp [hu]
 | false=>
  rw [hfn,ab (by simp)] at h3
  rw [hfn] at hk
  have hi:f.To.toNat<l.Vars.length:=by rw [hR.vl];exact h3
  have ht:=aA hi
  have hv:=aA h3
  simp only [bn,aI] at hk ⊢
  rw [aa h2,dP h2,ae,hv,ae]
  generalize p.Vars[f.To.toNat]=v at hv
  cases hkn:v.Known with
  | true=>
   rw [aa rfl,ab (by omega)]
   simp [hv,hkn]
  | false=>
   rw [ab (by simp),hk,ae,ht,ae,Aa h.small h1 (qL hR.vs ht),ae,ab (show ¬f.To<0 by omega)]
   generalize l.Vars[f.To.toNat]=t at ht
   cases hu:jS (MM p) f.Level t<;>simp [hv,hkn,ht,hu]
open Classical in
theorem Ub:∃ b,uy p l=some b∧(b=true↔Fit p l):=by
 have hv16:=ho.vars
 have hf5:=ho.funcs
 have hvl:=hR.vl
 have hsm:=h.small
 have hsmall:∀ {x:Level},bc (MM p) x→x.Readers.length≤1000000∧x.Writers.length≤1000000:=fun hx=>by rw [hx.1,hx.2];exact ⟨hsm,hsm⟩
 have hz:(p.Vars.zip l.Vars).length=p.Vars.length:=by simp [hvl]
 have q0:=qo (B:=fun v=>lZ p l v) (p.Vars.zip l.Vars) (fun z=>z.1.Known&&decide (z.2≠cw p.ah z.1.Label)) id (x:=.inl ()) (y:=.inr (p.Vars.length,false))
  (fun k hk hq=>by
   have k1:k<p.Vars.length:=by omega
   have k2:k<l.Vars.length:=by omega
   rw [zz] at hq
   have g1:=aA k1
   have g2:=aA k2
   have hlab:=h.vars _ (bY k1)
   have hs:=hsmall (hR.vs _ (bY k2))
   generalize p.Vars[k]=v at *
   generalize l.Vars[k]=m at *
   simp only [lZ,id]
   rw [aa (by omega),g1,ae]
   cases hkn:v.Known with
   | false=>rw [ab (by simp),aa (fM k (by omega))]
   | true=>
    rw [hkn,gY,zt,vH] at hq
    rw [aa rfl,g2,ae,z8 p.ah h.dK _ hlab,ae,uz hs.1 hs.2,ae,aa (av hq),aa (fM k (by omega))])
  (fun k hk hq=>by
   have k1:k<p.Vars.length:=by omega
   have k2:k<l.Vars.length:=by omega
   rw [zz] at hq
   have g1:=aA k1
   have g2:=aA k2
   have hlab:=h.vars _ (bY k1)
   have hs:=hsmall (hR.vs _ (bY k2))
   generalize p.Vars[k]=v at *
   generalize l.Vars[k]=m at *
   simp only [lZ,id]
   rw [aB,cE] at hq
   rw [aa (by omega),g1,ae,aa hq.1,g2,ae,z8 p.ah h.dK _ hlab,ae,uz hs.1 hs.2,ae,ab (by simp [hq.2])])
  (by simp [lZ,hz])
 have q0':lp (fun v=>lZ p l v) 0=_:=q0
 have pk:=DL h ho hR
 have hlen:=HE h ho hR
 have hall:qK (MM p) l.Vars (asks p l.Vars l.Funcs) p l.Funcs↔_:=Jh hR.fl
 have q1:=qo (B:=fun v=>nT p l ((iu (MM p) l.Vars p l.Funcs).map uM) v) (iu (MM p) l.Vars p l.Funcs) (fun x=>decide (¬asks p l.Vars l.Funcs x.s x.pl)) id (x:=.inl ()) (y:=.inr ((iu (MM p) l.Vars p l.Funcs).length,false)) ?_ ?_ (by simp [nT])
 ·have q1':lp (fun v=>nT p l ((iu (MM p) l.Vars p l.Funcs).map uM) v) 0=_:=q1
  unfold uy Fit
  rw [q0',HX h ho hR,ae,ae]
  have k0:((p.Vars.zip l.Vars).any fun z=>z.1.Known&&decide (z.2≠cw p.ah z.1.Label))=false↔∀ (j:Nat)(v:Var)(q:Level),p.Vars[j]? =some v→v.Known=true→l.Vars[j]? =some q→eX (MM p) q (cw p.ah v.Label)∧eX (MM p) (cw p.ah v.Label) q:=by
   rw [zy]
   refine ⟨fun hh j v q hv hk hq=>?_,fun hh z hz=>?_⟩
   ·have:=hh (v,q) (aP (i:=j) (by rw [List.getElem?_zip_eq_some];exact ⟨hv,hq⟩))
    simp only [hk,gY,cE,vH] at this
    rw [←this]
    exact ⟨le_refl _ _,le_refl _ _⟩
   ·obtain ⟨j,hj⟩:=List.getElem?_of_mem hz
    obtain ⟨g1,g2⟩:=List.getElem?_zip_eq_some.1 hj
    rw [aB,cE]
    rintro ⟨hk,hne⟩
    obtain ⟨a1,a2⟩:=hh j z.1 z.2 g1 hk g2
    exact hne (OO (qL hR.vs g2) (sB p.ah z.1.Label) a1 a2)
  have k1:((iu (MM p) l.Vars p l.Funcs).any fun x=>decide (¬asks p l.Vars l.Funcs x.s x.pl))=false↔qK (MM p) l.Vars (asks p l.Vars l.Funcs) p l.Funcs:=by
   rw [zy,hall]
   simp
  generalize ((p.Vars.zip l.Vars).any fun z=>z.1.Known&&decide (z.2≠cw p.ah z.1.Label))=z0 at k0
  cases z0 with
  | true=>exact ⟨false,by rw [aa rfl],⟨fun hc=>absurd hc (by simp),fun hc=>by simpa using k0.2 hc.1⟩⟩
  | false=>
   rw [ab (by simp),q1',ae]
   generalize ((iu (MM p) l.Vars p l.Funcs).any fun x=>decide (¬asks p l.Vars l.Funcs x.s x.pl))=z1 at k1
   cases z1 with
   | true=>exact ⟨false,by rw [aa rfl],⟨fun hc=>absurd hc (by simp),fun hc=>by simpa using k1.2 hc.2⟩⟩
   | false=>exact ⟨true,by rw [ab (by simp)],⟨fun _=>⟨k0.1 rfl,k1.1 rfl⟩,fun _=>rfl⟩⟩
 all_goals
  intro k hk hq
  have hg:=aA hk
  obtain ⟨⟨i,hi,hs⟩,hpl⟩:=pk _ (bY hk)
  generalize (iu (MM p) l.Vars p l.Funcs)[k]=x at *
  obtain ⟨_,fs,gs,a1,_,_,a4,a5⟩:=tn h ho hi hR hR (yw _ _) hpl hpl (le_refl _ _) hs
  have hA:=Kd h ho hR hi hpl hs
  rw [a1,fg] at hA
  have hA':nj p l (uM x)=some (fs.map rX):=hA
  have hask:asks p l.Vars l.Funcs x.s x.pl↔∀ f∈fs,o9 p (MM p) l.Vars l.Funcs f:=⟨fun hh=>hh fs a1,fun hh fs' hf=>by rw [a1] at hf;cases hf;exact hh⟩
  have q2:=qo (B:=fun v=>l6 p l ((iu (MM p) l.Vars p l.Funcs).map uM) k (fs.map rX) v) fs (fun f=>decide (¬o9 p (MM p) l.Vars l.Funcs f)) id (x:=.inl ()) (y:=.inr (fs.length,false))
   (fun m hm hq=>by
    have hg:=aA hm
    have hf:=a4 _ (bY hm)
    generalize fs[m]=f at *
    have ha:(fs.map rX)[m]? =some (rX f):=by rw [gh,hg];rfl
    simp only [l6,id]
    rw [aa (by simp;omega),ha,ae,M6 h ho hR hf _ _ _ ha,ae,hq,ab (by simp),aa (fM m (by omega))])
   (fun m hm hq=>by
    have hg:=aA hm
    have hf:=a4 _ (bY hm)
    generalize fs[m]=f at *
    have ha:(fs.map rX)[m]? =some (rX f):=by rw [gh,hg];rfl
    simp only [l6,id]
    rw [aa (by simp;omega),ha,ae,M6 h ho hR hf _ _ _ ha,ae,hq,aa rfl])
   (by simp [l6])
  have q2':lp (fun v=>l6 p l ((iu (MM p) l.Vars p l.Funcs).map uM) k (fs.map rX) v) 0=_:=q2
  have hx:((iu (MM p) l.Vars p l.Funcs).map uM)[k]? =some (uM x):=by rw [gh,hg];rfl
  have key:(fs.any fun f=>decide (¬o9 p (MM p) l.Vars l.Funcs f))=decide (¬asks p l.Vars l.Funcs x.s x.pl):=by
   rw [lH,cE,hask]
   simp
  simp only [nT,id]
  rw [aa (by simp;omega),hx,ae,hA',ae,q2',key,hq]
  simp [fM k (by omega)]
end
end Go.Proofs.YtkkkkondjclcnaaGreat.A
