/- Functions of the program as plain functions, by program. -/
import Derived.Test.YtkkkkondjclcnaaGreatTypes
import Derived.Test.YtkkkkondjclcnaaGreatLift
import Derived.Test.YtkkkkondjclcnaaGreatRWalk
import Derived.Test.YtkkkkondjclcnaaGreatFR
set_option linter.all false
set_option maxRecDepth 100000
namespace Go.Proofs.YtkkkkondjclcnaaGreat.A
open Go
noncomputable section
variable [Lp]
section
variable (a0:ah)(a2:Int)(a1:Int)
def mr(a2:Int)(v0_8:Nat)(v1_7:(List Bool))(v1_9:Nat):Option (((List Bool)×Nat)⊕((List Bool)×Nat×Bool)):=
 if (v1_9:Int)<(a0.Grants.length:Int) then
  (a0.Grants[v1_9]?).bind fun (y10:cB)=>
  (eI y10.Who).bind fun (j12:Nat)=>
  (v1_7[j12]?).bind fun (y14:Bool)=>
  if y14=true then
   (eI y10.For).bind fun (j17:Nat)=>
   (v1_7[j17]?).bind fun (y19:Bool)=>
   if IntKind.i64.wrap ((v1_9:Int)+1)=((v1_9+1:Nat):Int) then
    some (.inl (v1_7.set j17 true,v1_9+1))
   else none
  else
   if IntKind.i64.wrap ((v1_9:Int)+1)=((v1_9+1:Nat):Int) then
    some (.inl (v1_7,v1_9+1))
   else none
 else
  some (.inr (v1_7,v1_9,decide ((v1_9:Int)<(a0.Grants.length:Int))))
abbrev KG(v0_8:Nat)(v:((List Bool)×Nat)):St:=⟨[(2,(I a2)),(3,(.p ⟨0,3⟩ 0)),(7,(.o 4 (v.1.map AV.b))),(8,(I (v0_8:Int))),(9,(I (v.2:Int)))],[(3,[(I a0.Many),(.l 166 (a0.Grants.map aE))])],H0⟩
abbrev Ch(v0_8:Nat)(x:((List Bool)×Nat×Bool)):aH×St:=((.ex 2),⟨[(2,(I a2)),(3,(.p ⟨0,3⟩ 0)),(7,(.o 4 (x.1.map AV.b))),(8,(I (v0_8:Int))),(9,(I (x.2.1:Int))),(26,(.b x.2.2))],[(3,[(I a0.Many),(.l 166 (a0.Grants.map aE))])],H0⟩)
theorem Jm(v0_8:Nat)(v1_7:(List Bool))(v1_9:Nat)(o:((List Bool)×Nat)⊕((List Bool)×Nat×Bool))(h:mr a0 a2 v0_8 v1_7 v1_9=some o):bu E0 QL (KG a0 a2 v0_8) (Ch a0 a2 v0_8) (v1_7,v1_9) o:=
 bH (bt<|ao (.i (a0.Grants.length:Int))<|.or (dG<|ao (.n v1_9)<|.ex fun (y10:cB)=>ao (.v (.a [(I y10.Who),(I y10.For)]))<|xN fun j12=>xB fun y14=>ao (.v (.b y14))<|.or (dG<|ao (.n v1_9)<|ao (.v (.a [(I y10.Who),(I y10.For)]))<|xN fun j17=>xB fun y19=>ao (.v (.b y19))<|ao (.l ((v1_7.set j17 true).map AV.b))<|ao (.i ((v1_9+1:Nat):Int))<|.nil) (bf<|ao (.i ((v1_9+1:Nat):Int))<|.nil)) (bf<|.nil)) fun L=>ai (rfl:Z0)<|ai (aC aE a0.Grants)<|bL h (fun h9 h=>nI (av h9)<|ai (rI v1_9)<|cb h fun y10 h11 h=>ai (aD aE h11)<|ou h fun j12 h13 h=>ai h13<|cb h fun y14 h15 h=>ai (aD AV.b h15)<|ai (aD AV.b h15)<|bz h (fun h16 h=>nI h16<|ai (rI v1_9)<|ai (aD aE h11)<|ou h fun j17 h18 h=>ai h18<|cb h fun y19 h20 h=>ai (aD AV.b h20)<|ai ff<|ai (aD AV.b h20)<|ai (map_set .. : (v1_7.map AV.b).set j17 (.b true)=(v1_7.set j17 true).map AV.b)<|aQ h fun w21 h=>ai w21<|L h) (fun h16 h=>ai h16<|aQ h fun w17 h=>ai w17<|L h)) (fun h9 h=>ai (aw h9)<|L h)
def mw(v0_7:(List Bool))(v0_8:Nat):Option (((List Bool)×Nat)⊕((List Bool)×Nat×Bool)):=
 if (v0_8:Int)<a0.Many then
  (lp (fun v=>mr a0 a2 v0_8 v.1 v.2) (v0_7,0)).bind fun (x9:((List Bool)×Nat×Bool))=>
  if IntKind.i64.wrap ((v0_8:Int)+1)=((v0_8+1:Nat):Int) then
   some (.inl (x9.1,v0_8+1))
  else none
 else
  some (.inr (v0_7,v0_8,decide ((v0_8:Int)<a0.Many)))
abbrev KH(v:((List Bool)×Nat)):St:=⟨[(2,(I a2)),(3,(.p ⟨0,3⟩ 0)),(7,(.o 4 (v.1.map AV.b))),(8,(I (v.2:Int)))],[(3,[(I a0.Many),(.l 166 (a0.Grants.map aE))])],H0⟩
abbrev Ci(x:((List Bool)×Nat×Bool)):aH×St:=((.ex 0),⟨[(2,(I a2)),(3,(.p ⟨0,3⟩ 0)),(7,(.o 4 (x.1.map AV.b))),(8,(I (x.2.1:Int))),(19,(.b x.2.2))],[(3,[(I a0.Many),(.l 166 (a0.Grants.map aE))])],H0⟩)
theorem Jn(v0_7:(List Bool))(v0_8:Nat)(o:((List Bool)×Nat)⊕((List Bool)×Nat×Bool))(h:mw a0 a2 v0_7 v0_8=some o):bu E0 QM (KH a0 a2) (Ci a0 a2) (v0_7,v0_8) o:=
 bH (bt<|.or (bt<|.ex fun (x9:((List Bool)×Nat×Bool))=>ao (.bT (Ch a0 a2 v0_8 x9))<|ao (.i ((v0_8+1:Nat):Int))<|.nil) (bf<|.nil)) fun L=>ai (rfl:Z0)<|bL h (fun h8 h=>ai (av h8)<|aU h (ei (fun v=>Jm a0 a2 v0_8 v.1 v.2) (v0_7,0)) fun x9 h=>aQ h fun w11 h=>ai w11<|L h) (fun h8 h=>ai (aw h8)<|L h)
abbrev NM(a0:ah)(a1:Int)(a2:Int)(r:Bool):bm×HP:=(.ret (.b r),H0)
def oW(a2:Int):Option Bool:=
 (eI a0.Many).bind fun (j1:Nat)=>
 if j1≤1000000000 then
  (eI a1).bind fun (j4:Nat)=>
  ((List.replicate j1 false)[j4]?).bind fun (y6:Bool)=>
  (lp (fun v=>mw a0 a2 v.1 v.2) (((List.replicate j1 false).set j4 true),0)).bind fun (x8:((List Bool)×Nat×Bool))=>
  (eI a2).bind fun (j10:Nat)=>
  (x8.1[j10]?).bind fun (y12:Bool)=>
  some y12
 else none
theorem Be(a2:Int)(r:Bool)(h:oW a0 a1 a2=some r):call G Ω0 E0 125 [(.a [(I a0.Many),(.l 166 (a0.Grants.map aE))]),(I a1),(I a2)] H0=some (NM a0 a1 a2 r):=
 aW aiN (bt<|xN fun j1=>ao (.l ((List.replicate j1 false).map AV.b))<|xN fun j4=>xB fun y6=>ao (.v (.b y6))<|ao (.l (((List.replicate j1 false).set j4 true).map AV.b))<|.ex fun (x8:((List Bool)×Nat×Bool))=>ao (.bT (Ci a0 a2 x8))<|xN fun j10=>xB fun y12=>ao (.v (.b y12))<|.nil) fun L=>et<|ou h fun j1 h2 h=>ai h2<|aQ h fun h3 h=>ai ((K8 h3 (by decide)):j1*1≤140737488355328)<|ai ((K9 h3):j1≤maxLen)<|ai ((ze ..).symm:List.replicate j1 (.b false)=(List.replicate j1 false).map AV.b)<|ou h fun j4 h5 h=>ai h5<|cb h fun y6 h7 h=>ai (aD AV.b h7)<|ai ff<|ai (aD AV.b h7)<|ai (map_set .. : ((List.replicate j1 false).map AV.b).set j4 (.b true)=((List.replicate j1 false).set j4 true).map AV.b)<|aU h (ei (fun v=>Jn a0 a2 v.1 v.2) (((List.replicate j1 false).set j4 true),0)) fun x8 h=>ou h fun j10 h11 h=>ai h11<|cb h fun y12 h13 h=>ai (aD AV.b h13)<|ai (aD AV.b h13)<|L h
end
section
variable (a0:ah)(a1:Int)(a2:(List br))
def tU(v0_7:Nat)(v1_8:Bool)(v1_9:Nat):Option ((Bool×Nat)⊕(Bool×Nat×Bool)):=
 (a2[v0_7]?).bind fun (y6:br)=>
 if (v1_9:Int)<(y6.Names.length:Int) then
  if v1_8=true then
   if IntKind.i64.wrap ((v1_9:Int)+1)=((v1_9+1:Nat):Int) then
    some (.inl (true,v1_9+1))
   else none
  else
   (y6.Names[v1_9]?).bind fun (y10:Int)=>
   (oW a0 a1 y10).bind fun (r12:Bool)=>
   if IntKind.i64.wrap ((v1_9:Int)+1)=((v1_9+1:Nat):Int) then
    some (.inl (r12,v1_9+1))
   else none
 else
  some (.inr (v1_8,v1_9,decide ((v1_9:Int)<(y6.Names.length:Int))))
abbrev R4(v0_7:Nat)(v:(Bool×Nat)):St:=⟨[(1,(I a1)),(2,(.l 138 (a2.map aF))),(3,(.p ⟨0,3⟩ 0)),(7,(I (v0_7:Int))),(8,(.b v.1)),(9,(I (v.2:Int)))],[(3,[(I a0.Many),(.l 166 (a0.Grants.map aE))])],H0⟩
abbrev J9(v0_7:Nat)(x:(Bool×Nat×Bool)):aH×St:=((.ex 2),⟨[(1,(I a1)),(2,(.l 138 (a2.map aF))),(3,(.p ⟨0,3⟩ 0)),(7,(I (v0_7:Int))),(8,(.b x.1)),(9,(I (x.2.1:Int))),(31,(.b x.2.2))],[(3,[(I a0.Many),(.l 166 (a0.Grants.map aE))])],H0⟩)
theorem P4(v0_7:Nat)(v1_8:Bool)(v1_9:Nat)(o:(Bool×Nat)⊕(Bool×Nat×Bool))(h:tU a0 a1 a2 v0_7 v1_8 v1_9=some o):bu E0 QI (R4 a0 a1 a2 v0_7) (J9 a0 a1 a2 v0_7) (v1_8,v1_9) o:=
 bH (ao (.n v0_7)<|.ex fun (y6:br)=>ao (.v (.a [(I y6.Owner),(.l 3 (y6.Names.map (I)))]))<|ao (.i (y6.Names.length:Int))<|.or (bt<|.or (bf<|bf<|bf<|bf<|bf<|bf<|bf<|bf<|bf<|bf<|bf<|bt<|ao (.i ((v1_9+1:Nat):Int))<|.nil) (bt<|bt<|bt<|bt<|bt<|bt<|ao (.n v0_7)<|ao (.v (.a [(I y6.Owner),(.l 3 (y6.Names.map (I)))]))<|mD<|ao (.n v1_9)<|xI fun y10=>dG<|xB fun r12=>bf<|ao (.i ((v1_9+1:Nat):Int))<|.nil)) (bf<|.nil)) fun L=>ai (rI v0_7)<|cb h fun y6 h7 h=>ai (aD aF h7)<|ai (aC (I) y6.Names)<|bL h (fun h8 h=>ai (av h8)<|bW<|ai tt<|bz h (fun h9 h=>eD h9<|eD h9<|eD h9<|ai (g0 h9)<|lJ h9<|aQ h fun w10 h=>ai w10<|L h) (fun h9 h=>ai (g0 h9)<|ai (rfl:Z0)<|Bw h9<|Bw h9<|ai (rI v0_7)<|ai (aD aF h7)<|Bw h9<|Bw h9<|ai (rI v1_9)<|cb h fun y10 h11 h=>ai (aD (I) h11)<|Bw h9<|aU h (Be a0 a1 y10) fun r12 h=>ai h9<|aQ h fun w14 h=>ai w14<|L h)) (fun h8 h=>ai (aw h8)<|L h)
def qQ(v0_7:Nat):Option (Nat⊕(Unit⊕(Nat×Bool))):=
 if (v0_7:Int)<(a2.length:Int) then
  (a2[v0_7]?).bind fun (y2:br)=>
  (oW a0 a1 y2.Owner).bind fun (r4:Bool)=>
  (lp (fun v=>tU a0 a1 a2 v0_7 v.1 v.2) (r4,0)).bind fun (x6:(Bool×Nat×Bool))=>
  if x6.1=true then
   if IntKind.i64.wrap ((v0_7:Int)+1)=((v0_7+1:Nat):Int) then
    some (.inl (v0_7+1))
   else none
  else
   some (.inr (.inl ()))
 else
  some (.inr (.inr (v0_7,decide ((v0_7:Int)<(a2.length:Int)))))
abbrev R5(v:Nat):St:=⟨[(1,(I a1)),(2,(.l 138 (a2.map aF))),(3,(.p ⟨0,3⟩ 0)),(7,(I (v:Int)))],[(3,[(I a0.Many),(.l 166 (a0.Grants.map aE))])],H0⟩
abbrev DW(x:(Unit⊕(Nat×Bool))):aH×St:=match x with | .inl ()=>(.ret,⟨[(6,(.b false))],[],H0⟩) | .inr (z1,z2)=>((.ex 0),⟨[(1,(I a1)),(2,(.l 138 (a2.map aF))),(3,(.p ⟨0,3⟩ 0)),(7,(I (z1:Int))),(13,(.b z2))],[(3,[(I a0.Many),(.l 166 (a0.Grants.map aE))])],H0⟩)
theorem P5(v0_7:Nat)(o:Nat⊕(Unit⊕(Nat×Bool)))(h:qQ a0 a1 a2 v0_7=some o):bu E0 QJ (R5 a0 a1 a2) (DW a0 a1 a2) v0_7 o:=
 bH (ao (.i (a2.length:Int))<|.or (dG<|ao (.n v0_7)<|.ex fun (y2:br)=>ao (.v (.a [(I y2.Owner),(.l 3 (y2.Names.map (I)))]))<|xB fun r4=>.ex fun (x6:(Bool×Nat×Bool))=>ao (.bT (J9 a0 a1 a2 v0_7 x6))<|.or (bf<|ao (.i ((v0_7+1:Nat):Int))<|.nil) (bt<|.nil)) (bf<|.nil)) fun L=>ai (aC aF a2)<|bL h (fun h1 h=>ai (av h1)<|et<|bW<|bW<|ai (rI v0_7)<|cb h fun y2 h3 h=>ai (aD aF h3)<|bW<|ai tt<|aU h (Be a0 a1 y2.Owner) fun r4 h=>aU h (ei (fun v=>P4 a0 a1 a2 v0_7 v.1 v.2) (r4,0)) fun x6 h=>bz h (fun h8 h=>ai (ak not h8)<|aQ h fun w9 h=>ai w9<|L h) (fun h8 h=>ai (ak not h8)<|L h)) (fun h1 h=>ai (aw h1)<|L h)
abbrev WO(a0:ah)(a1:Int)(a2:(List br))(r:Bool):bm×HP:=(.ret (.b r),H0)
def Bf:Option Bool:=
 (lp (fun v=>qQ a0 a1 a2 v) 0).bind fun (x1:(Unit⊕(Nat×Bool)))=>match x1 with
 | .inl ya_2=>
  some false
 | .inr yb_2=>
  some true
theorem HQ(r:Bool)(h:Bf a0 a1 a2=some r):call G Ω0 E0 116 [(.a [(I a0.Many),(.l 166 (a0.Grants.map aE))]),(I a1),(.l 138 (a2.map aF))] H0=some (WO a0 a1 a2 r):=
 aW aiJ (.or (.ex fun (ya_2:Unit)=>ao (.bT (DW a0 a1 a2 (.inl ya_2)))<|.nil) (.ex fun (yb_2:(Nat×Bool))=>ao (.bT (DW a0 a1 a2 (.inr yb_2)))<|.nil)) fun L=>ai tt<|dA h (ei (P5 a0 a1 a2) 0) (fun ya_2 h=>L h) (fun yb_2 h=>L h)
end
section
variable (a0:ah)(a1:Label)
def mx(v0_6:Nat)(v0_5_0:(List Bool))(v0_5_1:(List Bool)):Option ((Nat×(List Bool)×(List Bool))⊕(Nat×Bool×(List Bool)×(List Bool))):=
 if (v0_6:Int)<a0.Many then
  (Bf a0 (v0_6:Int) a1.Read).bind fun (r2:Bool)=>
  if v0_5_0.length + [r2].length≤1000000000 then
   (Bf a0 (v0_6:Int) a1.Write).bind fun (r5:Bool)=>
   if v0_5_1.length + [r5].length≤1000000000 then
    if IntKind.i64.wrap ((v0_6:Int)+1)=((v0_6+1:Nat):Int) then
     some (.inl (v0_6+1,v0_5_0++[r2],v0_5_1++[r5]))
    else none
   else none
  else none
 else
  some (.inr (v0_6,decide ((v0_6:Int)<a0.Many),v0_5_0,v0_5_1))
abbrev KI(v:(Nat×(List Bool)×(List Bool))):St:=⟨[(2,(.p ⟨0,2⟩ 0)),(3,(.p ⟨0,3⟩ 0)),(4,(.p ⟨0,4⟩ 0)),(5,(.p ⟨0,5⟩ 0)),(6,(I (v.1:Int)))],[(2,[(I a0.Many),(.l 166 (a0.Grants.map aE))]),(3,[(.l 138 (a1.Read.map aF)),(.l 138 (a1.Write.map aF))]),(4,[(.l 4 (([]:List Bool).map AV.b)),(.l 4 (([]:List Bool).map AV.b))]),(5,[(.o 4 (v.2.1.map AV.b)),(.o 4 (v.2.2.map AV.b))])],H0⟩
abbrev Cj(x:(Nat×Bool×(List Bool)×(List Bool))):aH×St:=((.ex 0),⟨[(2,(.p ⟨0,2⟩ 0)),(3,(.p ⟨0,3⟩ 0)),(4,(.p ⟨0,4⟩ 0)),(5,(.p ⟨0,5⟩ 0)),(6,(I (x.1:Int))),(10,(.b x.2.1))],[(2,[(I a0.Many),(.l 166 (a0.Grants.map aE))]),(3,[(.l 138 (a1.Read.map aF)),(.l 138 (a1.Write.map aF))]),(4,[(.l 4 (([]:List Bool).map AV.b)),(.l 4 (([]:List Bool).map AV.b))]),(5,[(.o 4 (x.2.2.1.map AV.b)),(.o 4 (x.2.2.2.map AV.b))])],H0⟩)
theorem Jo(v0_6:Nat)(v0_5_0:(List Bool))(v0_5_1:(List Bool))(o:(Nat×(List Bool)×(List Bool))⊕(Nat×Bool×(List Bool)×(List Bool)))(h:mx a0 a1 v0_6 v0_5_0 v0_5_1=some o):bu E0 Vh (KI a0 a1) (Cj a0 a1) (v0_6,v0_5_0,v0_5_1) o:=
 bH (bt<|.or (mD<|xB fun r2=>ao (.l ([r2].map AV.b))<|eF<|ao (.l ((v0_5_0++[r2]).map AV.b))<|pj<|xB fun r5=>ao (.l ([r5].map AV.b))<|eF<|ao (.l ((v0_5_1++[r5]).map AV.b))<|dG<|ao (.i ((v0_6+1:Nat):Int))<|.nil) (bf<|.nil)) fun L=>ai (rfl:Z0)<|bL h (fun h1 h=>ai (av h1)<|bW<|ai (rfl:Z0)<|et<|bW<|et<|ai tt<|aU h (HQ a0 (v0_6:Int) a1.Read) fun r2 h=>ai tt<|ai (rfl:[(.b r2)]=[r2].map AV.b)<|ai tt<|lL<|uT<|aQ h fun h4 h=>ai ((jF AV.b (n:=1) (fun _=>rfl) [r2]):([r2].map AV.b).all (fun e=>e.nc==1)=true)<|ai ((nr h4 (by decide)):((v0_5_0.map AV.b).length+([r2].map AV.b).length)*1≤140737488355328)<|ai ((nu h4):(v0_5_0.map AV.b).length+([r2].map AV.b).length≤maxLen)<|ai (dc.symm:v0_5_0.map AV.b++[r2].map AV.b=(v0_5_0++[r2]).map AV.b)<|lL<|ai (rfl:Z0)<|bW<|ai (rfl:Z0)<|et<|bW<|et<|ai tt<|aU h (HQ a0 (v0_6:Int) a1.Write) fun r5 h=>ai tt<|ai (rfl:[(.b r5)]=[r5].map AV.b)<|ai tt<|lL<|uT<|aQ h fun h7 h=>ai ((jF AV.b (n:=1) (fun _=>rfl) [r5]):([r5].map AV.b).all (fun e=>e.nc==1)=true)<|ai ((nr h7 (by decide)):((v0_5_1.map AV.b).length+([r5].map AV.b).length)*1≤140737488355328)<|ai ((nu h7):(v0_5_1.map AV.b).length+([r5].map AV.b).length≤maxLen)<|ai (dc.symm:v0_5_1.map AV.b++[r5].map AV.b=(v0_5_1++[r5]).map AV.b)<|lL<|ai (rfl:Z0)<|aQ h fun w8 h=>ai w8<|L h) (fun h1 h=>ai (aw h1)<|L h)
abbrev NN(a0:ah)(a1:Label)(r:Level):bm×HP:=(.ret (.a [(.l 4 (r.Readers.map AV.b)),(.l 4 (r.Writers.map AV.b))]),H0)
def lr:Option Level:=
 (lp (fun v=>mx a0 a1 v.1 v.2.1 v.2.2) (0,([]:List Bool),([]:List Bool))).bind fun (x1:(Nat×Bool×(List Bool)×(List Bool)))=>
 some (⟨x1.2.2.1,x1.2.2.2⟩:Level)
theorem vg(r:Level)(h:lr a0 a1=some r):call G Ω0 E0 55 [(.a [(I a0.Many),(.l 166 (a0.Grants.map aE))]),(.a [(.l 138 (a1.Read.map aF)),(.l 138 (a1.Write.map aF))])] H0=some (NN a0 a1 r):=
 aW G55 (mD<|.ex fun (x1:(Nat×Bool×(List Bool)×(List Bool)))=>ao (.bT (Cj a0 a1 x1))<|Dc<|.nil) fun L=>bW<|bW<|lL<|ai (rfl:Z0)<|lL<|ai (rfl:Z0)<|aU h (ei (fun v=>Jo a0 a1 v.1 v.2.1 v.2.2) (0,([]:List Bool),([]:List Bool))) fun x1 h=>lL<|ai (rfl:Z0)<|lL<|uT<|lL<|et<|ai (rfl:Z0)<|L h
end
end
end Go.Proofs.YtkkkkondjclcnaaGreat.A
