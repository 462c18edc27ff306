/- Functions of the program as plain functions, by program. -/
import Derived.Test.YtdpjofmmokaobaaGreatTypes
import Derived.Test.YtdpjofmmokaobaaGreatLift
import Derived.Test.YtdpjofmmokaobaaGreatA
import Derived.Test.YtdpjofmmokaobaaGreatLevelF
import Derived.Test.YtdpjofmmokaobaaGreatSpeakF
set_option maxRecDepth 100000
set_option linter.unusedSectionVars false
set_option linter.unusedVariables false
set_option linter.unusedSimpArgs false
namespace Go.Proofs.YtdpjofmmokaobaaGreat.A
open Go
noncomputable section
variable [Lp]
section
variable (a0:ah)
def jx(v0_3:(List (List Bool)))(v0_12:Nat)(v1_5:(List Bool))(y9:Int)(j12:Nat)(v2_6:(List Int))(v2_44:Nat):Option (((List Int)×Nat)⊕((List Int)×Nat×Bool)):=
 if (v2_44:Int)<(a0.Grants.length:Int) then
  (a0.Grants[v2_44]?).bind fun (y18:cq)=>
  if (y18.Who==y9)=true then
   if v2_6.length + [y18.For].length≤1000000000 then
    if IntKind.i64.wrap ((v2_44:Int)+1)=((v2_44+1:Nat):Int) then
     some (.inl (v2_6++[y18.For],v2_44+1))
    else none
   else none
  else
   if IntKind.i64.wrap ((v2_44:Int)+1)=((v2_44+1:Nat):Int) then
    some (.inl (v2_6,v2_44+1))
   else none
 else
  some (.inr (v2_6,v2_44,decide ((v2_44:Int)<(a0.Grants.length:Int))))
abbrev D0(v0_3:(List (List Bool)))(v0_12:Nat)(v1_5:(List Bool))(y9:Int)(j12:Nat)(v:((List Int)×Nat)):St:=⟨[(1,(.p ⟨0,1⟩ 0)),(3,(.o 52 (v0_3.map (bD 4 AV.b)))),(5,(.o 4 ((v1_5.set j12 true).map AV.b))),(6,(.o 3 (v.1.map (I)))),(7,(I y9)),(11,(I a0.Many)),(12,(I (v0_12:Int))),(29,.u),(42,(.l 136 (a0.Grants.map aF))),(43,(I (a0.Grants.length:Int))),(44,(I (v.2:Int)))],[(1,[(I a0.Many),(.l 136 (a0.Grants.map aF))])],H0⟩
abbrev D1(v0_3:(List (List Bool)))(v0_12:Nat)(v1_5:(List Bool))(y9:Int)(j12:Nat)(x:((List Int)×Nat×Bool)):aR×St:=((.ex 4),⟨[(1,(.p ⟨0,1⟩ 0)),(3,(.o 52 (v0_3.map (bD 4 AV.b)))),(5,(.o 4 ((v1_5.set j12 true).map AV.b))),(6,(.o 3 (x.1.map (I)))),(7,(I y9)),(11,(I a0.Many)),(12,(I (v0_12:Int))),(29,.u),(42,(.l 136 (a0.Grants.map aF))),(43,(I (a0.Grants.length:Int))),(44,(I (x.2.1:Int))),(45,(.b x.2.2))],[(1,[(I a0.Many),(.l 136 (a0.Grants.map aF))])],H0⟩)
theorem CM(v0_3:(List (List Bool)))(v0_12:Nat)(v1_5:(List Bool))(y9:Int)(j12:Nat)(v2_6:(List Int))(v2_44:Nat)(o:((List Int)×Nat)⊕((List Int)×Nat×Bool))(h:jx a0 v0_3 v0_12 v1_5 y9 j12 v2_6 v2_44=some o):bI E0 NL (D0 a0 v0_3 v0_12 v1_5 y9 j12) (D1 a0 v0_3 v0_12 v1_5 y9 j12) (v2_6,v2_44) o:=
 bP (.or (bt<|ao (.n v2_44)<|.ex fun (y18:cq)=>ao (.v (.a [(I y18.Who),(I y18.For)]))<|dE<|.or (du<|ao (.l ([y18.For].map (I)))<|ao (.l ((v2_6++[y18.For]).map (I)))<|ao (.i ((v2_44+1:Nat):Int))<|.nil) (bf<|ao (.i ((v2_44+1:Nat):Int))<|.nil)) (bf<|.nil)) fun L=>cb h (fun h17 h=>ai (decide_eq_true h17)<|ai (rI v2_44)<|aP h fun y18 h19 h=>ai (aD aF h19)<|FZ<|a8 h (fun h20 h=>sZ h20<|ai (rfl:[(I y18.For)]=[y18.For].map (I))<|ai ff<|aS h fun h21 h=>ai ((gi (I) (n:=1) (fun _=>rfl) [y18.For]):([y18.For].map (I)).all (fun e=>e.nc==1)=true)<|ai ((lh h21 (by decide)):((v2_6.map (I)).length+([y18.For].map (I)).length)*8≤140737488355328)<|ai ((lj h21):(v2_6.map (I)).length+([y18.For].map (I)).length≤maxLen)<|ai (List.map_append.symm:v2_6.map (I)++[y18.For].map (I)=(v2_6++[y18.For]).map (I))<|aS h fun w22 h=>ai w22<|L h) (fun h20 h=>ai h20<|aS h fun w21 h=>ai w21<|L h)) (fun h17 h=>ai (decide_eq_false h17)<|L h)
def gv(v0_3:(List (List Bool)))(v0_12:Nat)(v1_6:(List Int))(v1_5:(List Bool)):Option (((List Int)×(List Bool))⊕((List Bool)×(List Int)×Bool)):=
 if 0<(v1_6.length:Int) then
  if IntKind.i64.wrap ((v1_6.length:Int) - 1)=(v1_6.length:Int) - 1 then
   (cX ((v1_6.length:Int) - 1)).bind fun (j7:Nat)=>
   (v1_6[j7]?).bind fun (y9:Int)=>
   if j7≤v1_6.length then
    (cX y9).bind fun (j12:Nat)=>
    (v1_5[j12]?).bind fun (y14:Bool)=>
    if y14=true then
     some (.inl (v1_6.take j7,v1_5))
    else
     (lp (fun v=>jx a0 v0_3 v0_12 v1_5 y9 j12 v.1 v.2) ((v1_6.take j7),0)).bind fun (x17:((List Int)×Nat×Bool))=>
     some (.inl (x17.1,v1_5.set j12 true))
   else none
  else none
 else
  some (.inr (v1_5,v1_6,decide (0<(v1_6.length:Int))))
abbrev D2(v0_3:(List (List Bool)))(v0_12:Nat)(v:((List Int)×(List Bool))):St:=⟨[(1,(.p ⟨0,1⟩ 0)),(3,(.o 52 (v0_3.map (bD 4 AV.b)))),(5,(.o 4 (v.2.map AV.b))),(6,(.o 3 (v.1.map (I)))),(11,(I a0.Many)),(12,(I (v0_12:Int))),(29,.u)],[(1,[(I a0.Many),(.l 136 (a0.Grants.map aF))])],H0⟩
abbrev D3(v0_3:(List (List Bool)))(v0_12:Nat)(x:((List Bool)×(List Int)×Bool)):aR×St:=((.ex 2),⟨[(1,(.p ⟨0,1⟩ 0)),(3,(.o 52 (v0_3.map (bD 4 AV.b)))),(5,(.o 4 (x.1.map AV.b))),(6,(.o 3 (x.2.1.map (I)))),(11,(I a0.Many)),(12,(I (v0_12:Int))),(22,(.b x.2.2)),(29,.u)],[(1,[(I a0.Many),(.l 136 (a0.Grants.map aF))])],H0⟩)
theorem CN(v0_3:(List (List Bool)))(v0_12:Nat)(v1_6:(List Int))(v1_5:(List Bool))(o:((List Int)×(List Bool))⊕((List Bool)×(List Int)×Bool))(h:gv a0 v0_3 v0_12 v1_6 v1_5=some o):bI E0 NM (D2 a0 v0_3 v0_12) (D3 a0 v0_3 v0_12) (v1_6,v1_5) o:=
 bP (ao (.i (v1_6.length:Int))<|.or (bt<|ao (.i (v1_6.length:Int))<|ao (.i ((v1_6.length:Int) - 1))<|xN fun j7=>xI fun y9=>ao (.v (I y9))<|ao (.i (v1_6.length:Int))<|ao (.i ((v1_6.length:Int) - 1))<|ao (.n j7)<|ao (.n j7)<|bt<|ao (.l ((v1_6.take j7).map (I)))<|xN fun j12=>xB fun y14=>ao (.v (.b y14))<|oN (ao (.n j12)<|ao (.v (.b y14))<|ao (.v (.b y14))<|ao (.l ((v1_5.set j12 true).map AV.b))<|bt<|ao (.i (a0.Grants.length:Int))<|.ex fun (x17:((List Int)×Nat×Bool))=>ao (.lp (.ex 4) ⟨[(1,(.p ⟨0,1⟩ 0)),(3,(.o 52 (v0_3.map (bD 4 AV.b)))),(5,(.o 4 ((v1_5.set j12 true).map AV.b))),(6,(.o 3 (x17.1.map (I)))),(7,(I y9)),(11,(I a0.Many)),(12,(I (v0_12:Int))),(29,.u),(42,(.l 136 (a0.Grants.map aF))),(43,(I (a0.Grants.length:Int))),(44,(I (x17.2.1:Int))),(45,(.b x17.2.2))],[(1,[(I a0.Many),(.l 136 (a0.Grants.map aF))])],H0⟩)<|.nil)) (bf<|.nil)) fun L=>ai (aL (I) v1_6)<|cb h (fun h5 h=>ai (decide_eq_true h5)<|ai (aL (I) v1_6)<|aS h fun w6 h=>ai w6<|eN h fun j7 h8 h=>ai h8<|aP h fun y9 h10 h=>ai (aD (I) h10)<|ai (aD (I) h10)<|ai (aL (I) v1_6)<|ai w6<|ai h8<|ai (Nat.zero_le _:0≤j7)<|aS h fun h11 h=>ai ((by rw [List.length_map];exact h11):j7≤(v1_6.map (I)).length)<|ai ((by simp):j7 - 0=j7)<|ai (rfl:((.s 6):Pl)=(.s 6))<|ai ((by rw [List.length_map];exact h11):j7≤(v1_6.map (I)).length)<|ai (map_take (I) v1_6 j7)<|eN h fun j12 h13 h=>ai h13<|aP h fun y14 h15 h=>ai (aD AV.b h15)<|ai (aD AV.b h15)<|a8 h (fun h16 h=>ai h16<|L h) (fun h16 h=>ai h16<|ai h13<|ai (aD AV.b h15)<|ai ff<|ai (aD AV.b h15)<|ai (map_set .. : (v1_5.map AV.b).set j12 (.b true)=(v1_5.set j12 true).map AV.b)<|ai (rfl:Z0)<|ai (aL aF a0.Grants)<|aQ h (ef (fun v=>CM a0 v0_3 v0_12 v1_5 y9 j12 v.1 v.2) ((v1_6.take j7),0)) fun x17 h=>L h)) (fun h5 h=>ai (decide_eq_false h5)<|L h)
def jy(v0_3:(List (List Bool)))(v0_12:Nat):Option (((List (List Bool))×Nat)⊕((List (List Bool))×Nat×Bool)):=
 if (v0_12:Int)<a0.Many then
  (cX a0.Many).bind fun (j2:Nat)=>
  if j2≤1000000000 then
   (lp (fun v=>gv a0 v0_3 v0_12 v.1 v.2) (([(v0_12:Int)]),(List.replicate j2 false))).bind fun (x5:((List Bool)×(List Int)×Bool))=>
   if v0_3.length + [x5.1].length≤1000000000 then
    if IntKind.i64.wrap ((v0_12:Int)+1)=((v0_12+1:Nat):Int) then
     some (.inl (v0_3++[x5.1],v0_12+1))
    else none
   else none
  else none
 else
  some (.inr (v0_3,v0_12,decide ((v0_12:Int)<a0.Many)))
abbrev D4(v:((List (List Bool))×Nat)):St:=⟨[(1,(.p ⟨0,1⟩ 0)),(3,(.o 52 (v.1.map (bD 4 AV.b)))),(11,(I a0.Many)),(12,(I (v.2:Int)))],[(1,[(I a0.Many),(.l 136 (a0.Grants.map aF))])],H0⟩
abbrev D5(x:((List (List Bool))×Nat×Bool)):aR×St:=((.ex 0),⟨[(1,(.p ⟨0,1⟩ 0)),(3,(.o 52 (x.1.map (bD 4 AV.b)))),(11,(I a0.Many)),(12,(I (x.2.1:Int))),(13,(.b x.2.2))],[(1,[(I a0.Many),(.l 136 (a0.Grants.map aF))])],H0⟩)
theorem CO(v0_3:(List (List Bool)))(v0_12:Nat)(o:((List (List Bool))×Nat)⊕((List (List Bool))×Nat×Bool))(h:jy a0 v0_3 v0_12=some o):bI E0 NN (D4 a0) (D5 a0) (v0_3,v0_12) o:=
 bP (.or (du<|xN fun j2=>ao (.l ((List.replicate j2 false).map AV.b))<|ao (.l (([(v0_12:Int)]).map (I)))<|.ex fun (x5:((List Bool)×(List Int)×Bool))=>ao (.lp (.ex 2) ⟨[(1,(.p ⟨0,1⟩ 0)),(3,(.o 52 (v0_3.map (bD 4 AV.b)))),(5,(.o 4 (x5.1.map AV.b))),(6,(.o 3 (x5.2.1.map (I)))),(11,(I a0.Many)),(12,(I (v0_12:Int))),(22,(.b x5.2.2)),(29,.u)],[(1,[(I a0.Many),(.l 136 (a0.Grants.map aF))])],H0⟩)<|ao (.l ([x5.1].map (bD 4 AV.b)))<|ao (.l ((v0_3++[x5.1]).map (bD 4 AV.b)))<|ao (.i ((v0_12+1:Nat):Int))<|.nil) (bf<|.nil)) fun L=>cb h (fun h1 h=>sZ (decide_eq_true h1)<|eN h fun j2 h3 h=>ai h3<|aS h fun h4 h=>ai ((B4 h4 (by decide)):j2*1≤140737488355328)<|ai ((B5 h4):j2≤maxLen)<|ai ((List.map_replicate ..).symm:List.replicate j2 (.b false)=(List.replicate j2 false).map AV.b)<|ai (rfl:[(I (v0_12:Int))]=([(v0_12:Int)]).map (I))<|aQ h (ef (fun v=>CN a0 v0_3 v0_12 v.1 v.2) (([(v0_12:Int)]),(List.replicate j2 false))) fun x5 h=>ai (rfl:[(.l 4 (x5.1.map AV.b))]=[x5.1].map (bD 4 AV.b))<|ai ff<|aS h fun h7 h=>ai ((gi (bD 4 AV.b) (n:=1) (fun _=>rfl) [x5.1]):([x5.1].map (bD 4 AV.b)).all (fun e=>e.nc==1)=true)<|ai ((lh h7 (by decide)):((v0_3.map (bD 4 AV.b)).length+([x5.1].map (bD 4 AV.b)).length)*24≤140737488355328)<|ai ((lj h7):(v0_3.map (bD 4 AV.b)).length+([x5.1].map (bD 4 AV.b)).length≤maxLen)<|ai (List.map_append.symm:v0_3.map (bD 4 AV.b)++[x5.1].map (bD 4 AV.b)=(v0_3++[x5.1]).map (bD 4 AV.b))<|aS h fun w8 h=>ai w8<|L h) (fun h1 h=>ai (decide_eq_false h1)<|L h)
abbrev GJ(a0:ah)(r:(List (List Bool))):aW×HP:=(.ret (.l 52 (r.map (bD 4 AV.b))),H0)
def nO:Option (List (List Bool)):=
 (lp (fun v=>jy a0 v.1 v.2) (([]:List (List Bool)),0)).bind fun (x1:((List (List Bool))×Nat×Bool))=>
 some x1.1
theorem vF(r:(List (List Bool)))(h:nO a0=some r):call G Ω0 E0 60 [(.a [(I a0.Many),(.l 136 (a0.Grants.map aF))])] H0=some (GJ a0 r):=
 aK G60 (bt<|.ex fun (x1:((List (List Bool))×Nat×Bool))=>ao (.lp (.ex 0) ⟨[(1,(.p ⟨0,1⟩ 0)),(3,(.o 52 (x1.1.map (bD 4 AV.b)))),(11,(I a0.Many)),(12,(I (x1.2.1:Int))),(13,(.b x1.2.2))],[(1,[(I a0.Many),(.l 136 (a0.Grants.map aF))])],H0⟩)<|.nil) fun L=>ai tt<|ai (rfl:Z0)<|aQ h (ef (fun v=>CO a0 v.1 v.2) (([]:List (List Bool)),0)) fun x1 h=>L h
end
section
variable (dp:Nat)(hp:HP)(a0:Program)
abbrev HO(dp:Nat)(hp:HP)(a0:Program)(r:aw):aW×HP:=(.new (ar r),hp)
def rT:Option aw:=
 (nO a0.ah).bind fun (r1:(List (List Bool)))=>
 some (⟨a0,r1⟩:aw)
theorem D6(hz:aN dp hp)(a0:Program)(r:aw)(h:rT a0=some r):call G Ω0 ⟨dp,false⟩ 22 [(.a (ay a0))] hp=some (HO dp hp a0 r):=
 Ie G22 (du<|.ex fun (r1:(List (List Bool)))=>ao (.v (.l 52 (r1.map (bD 4 AV.b))))<|.nil) fun L=>cF<|ai (rN dp)<|cF<|ai (rN dp)<|ai tt<|aQ h (vF a0.ah) fun r1 h=>ai tt<|ai ((by simp [ay,AV.aI,AV.aJ,AV.deep,AV.bn]):(((.a [(I a0.ah.Many),(.l 136 (a0.ah.Grants.map aF)),(.l 3 (a0.Speak.map (I))),(.l 49 (a0.Ins.map au)),(.l 49 (a0.Outs.map au)),(.l 51 (a0.Vars.map bz)),(.l 112 (a0.Funcs.map ba)),(.l 88 (a0.Main.map aH)),(.l 52 (r1.map (bD 4 AV.b)))]):AV).deep dp&&(([(7,(.a [(I a0.ah.Many),(.l 136 (a0.ah.Grants.map aF)),(.l 3 (a0.Speak.map (I))),(.l 49 (a0.Ins.map au)),(.l 49 (a0.Outs.map au)),(.l 51 (a0.Vars.map bz)),(.l 112 (a0.Funcs.map ba)),(.l 88 (a0.Main.map aH)),(.l 52 (r1.map (bD 4 AV.b)))])),(6,(.l 52 (r1.map (bD 4 AV.b)))),(5,(.a [(I a0.ah.Many),(.l 136 (a0.ah.Grants.map aF))])),(4,(.p ⟨dp,1⟩ 0)),(3,(.a (ay a0))),(1,(.p ⟨dp,1⟩ 0))]:List (Nat×AV)).all (fun y=>y.2.aI ⟨dp,8⟩)&&([(1,(ay a0))]:List (Nat×List AV)).all (fun y=>AV.aJ ⟨dp,8⟩ y.2)))=true)<|ai (rN dp)<|ai tt<|L h
end
section
variable (dp:Nat)(hp:HP)(k0:Key)(c0:Runner)(a0:Int)
abbrev zz(dp:Nat)(hp:HP)(k0:Key)(c0:Runner)(a0:Int)(r:Int):aW×HP:=(.ret (I r),ad hp k0 (aa c0))
def et:Option Int:=
 (cX a0).bind fun (j1:Nat)=>
 (c0.first[j1]?).bind fun (y3:Int)=>
 some y3
theorem qo(hk_k0:k0.dp<dp)(hz:aN dp hp)(c0:Runner)(a0:Int)(r:Int)(h:et c0 a0=some r):call G Ω0 ⟨dp,true⟩ 24 [(.p k0 0),(I a0)] (ad hp k0 (aa c0))=some (zz dp hp k0 c0 a0 r):=
 aK G24 (bf<|ao (.l (aa c0))<|xN fun j1=>bf<|ao (.l (aa c0))<|xI fun y3=>bf<|ao (.l (aa c0))<|ao (.v (I y3))<|.nil) fun L=>ai (Nat.ne_of_lt hk_k0)<|ai (aG hp k0 (aa c0))<|eN h fun j1 h2 h=>ai h2<|ai (Nat.ne_of_lt hk_k0)<|ai (aG hp k0 (aa c0))<|aP h fun y3 h4 h=>ai (aD (I) h4)<|ai (Nat.ne_of_lt hk_k0)<|ai (aG hp k0 (aa c0))<|ai (aD (I) h4)<|L h
end
section
variable (dp:Nat)(hp:HP)(k0:Key)(c0:ak)(c1:Runner)(c2:aw)(a0:aE)
abbrev xa(dp:Nat)(hp:HP)(k0:Key)(k1:Key)(k2:Key)(c0:ak)(c1:Runner)(c2:aw)(r:Level):aW×HP:=(.ret (.a [(.l 4 (r.Readers.map AV.b)),(.l 4 (r.Writers.map AV.b))]),aB hp k0 k1 k2 c0 c1 c2)
def dC(c1:Runner)(c2:aw):Option Level:=
 if IntKind.i64.wrap ((c0.places.length:Int) - 1)=(c0.places.length:Int) - 1 then
  (cX ((c0.places.length:Int) - 1)).bind fun (j2:Nat)=>
  (c0.places[j2]?).bind fun (y4:Level)=>
  some y4
 else none
theorem fI(hk_k0:k0.dp<dp)(k1:Key)(hk_k1:k1.dp<dp)(k2:Key)(hk_k2:k2.dp<dp)(hn_k0_k1:k0≠k1)(hn_k0_k2:k0≠k2)(hn_k1_k2:k1≠k2)(hz:aN dp hp)(c0:ak)(c1:Runner)(c2:aw)(r:Level)(h:dC c0 c1 c2=some r):call G Ω0 ⟨dp,true⟩ 149 [(.p k0 0)] (aB hp k0 k1 k2 c0 c1 c2)=some (xa dp hp k0 k1 k2 c0 c1 c2 r):=
 aK ZN (bf<|ao (.l (bL k1 k2 c0))<|bf<|ao (.l (bL k1 k2 c0))<|bf<|ao (.l (bL k1 k2 c0))<|ao (.i (c0.places.length:Int))<|ao (.i ((c0.places.length:Int) - 1))<|xN fun j2=>bf<|ao (.l (bL k1 k2 c0))<|.ex fun (y4:Level)=>ao (.v (.a [(.l 4 (y4.Readers.map AV.b)),(.l 4 (y4.Writers.map AV.b))]))<|bf<|ao (.l (bL k1 k2 c0))<|ao (.v (.a [(.l 4 (y4.Readers.map AV.b)),(.l 4 (y4.Writers.map AV.b))]))<|du<|.nil) fun L=>ai ((by simp [AV.aI,AV.aJ,AV.deep,AV.bn,aj hk_k0,Nat.le_of_lt hk_k0,aj hk_k1,Nat.le_of_lt hk_k1,aj hk_k2,Nat.le_of_lt hk_k2]):(([(0,(.p k0 0))]:List (Nat×AV)).all (fun y=>y.2.aI ⟨dp,2⟩)&&([]:List (Nat×List AV)).all (fun y=>AV.aJ ⟨dp,2⟩ y.2))=true)<|lz<|ai (Nat.ne_of_lt hk_k0)<|ai (cE hn_k0_k1 hn_k0_k2:(aB hp k0 k1 k2 c0 c1 c2) k0=some (bL k1 k2 c0))<|lz<|ai (Nat.ne_of_lt hk_k0)<|ai (cE hn_k0_k1 hn_k0_k2:(aB hp k0 k1 k2 c0 c1 c2) k0=some (bL k1 k2 c0))<|ai tt<|ai (Nat.ne_of_lt hk_k0)<|ai (cE hn_k0_k1 hn_k0_k2:(aB hp k0 k1 k2 c0 c1 c2) k0=some (bL k1 k2 c0))<|ai (aL av c0.places)<|ai tt<|aS h fun w1 h=>ai w1<|ai tt<|eN h fun j2 h3 h=>ai h3<|ai (Nat.ne_of_lt hk_k0)<|ai (cE hn_k0_k1 hn_k0_k2:(aB hp k0 k1 k2 c0 c1 c2) k0=some (bL k1 k2 c0))<|aP h fun y4 h5 h=>ai (aD av h5)<|ai (Nat.ne_of_lt hk_k0)<|ai (cE hn_k0_k1 hn_k0_k2:(aB hp k0 k1 k2 c0 c1 c2) k0=some (bL k1 k2 c0))<|ai (aD av h5)<|ai (rfl:dp=dp)<|ai (rN dp)<|ai tt<|ai (rN dp)<|ai (rN dp)<|L h
abbrev zA(dp:Nat)(hp:HP)(k0:Key)(k1:Key)(k2:Key)(c0:ak)(c1:Runner)(c2:aw)(a0:aE)(r:Level):aW×HP:=(.ret (.a [(.l 4 (r.Readers.map AV.b)),(.l 4 (r.Writers.map AV.b))]),aB hp k0 k1 k2 c0 c1 c2)
def dj:Option Level:=
 (dC c0 c1 c2).bind fun (r1:Level)=>
 (pR c0.p c0.vars a0).bind fun (r3:Level)=>
 (jE r1 r3).bind fun (r5:Level)=>
 some r5
theorem eg(hk_k0:k0.dp<dp)(k1:Key)(hk_k1:k1.dp<dp)(k2:Key)(hk_k2:k2.dp<dp)(hn_k0_k1:k0≠k1)(hn_k0_k2:k0≠k2)(hn_k1_k2:k1≠k2)(hz:aN dp hp)(c0:ak)(c1:Runner)(c2:aw)(a0:aE)(r:Level)(h:dj c0 c1 c2 a0=some r):call G Ω0 ⟨dp,true⟩ 144 [(.p k0 0),(.a (bF a0))] (aB hp k0 k1 k2 c0 c1 c2)=some (zA dp hp k0 k1 k2 c0 c1 c2 a0 r):=
 aK ZI (.ex fun (r1:Level)=>ao (.v (.a [(.l 4 (r1.Readers.map AV.b)),(.l 4 (r1.Writers.map AV.b))]))<|ao (.h (boxes dp [] (aB hp k0 k1 k2 c0 c1 c2)))<|bf<|ao (.l (bL k1 k2 c0))<|bf<|ao (.l (bL k1 k2 c0))<|kD<|ao (.l (bL k1 k2 c0))<|.ex fun (r3:Level)=>ao (.v (.a [(.l 4 (r3.Readers.map AV.b)),(.l 4 (r3.Writers.map AV.b))]))<|.ex fun (r5:Level)=>ao (.v (.a [(.l 4 (r5.Readers.map AV.b)),(.l 4 (r5.Writers.map AV.b))]))<|du<|.nil) fun L=>ai ((by simp [bF,AV.aI,AV.aJ,AV.deep,AV.bn,aj hk_k0,Nat.le_of_lt hk_k0,aj hk_k1,Nat.le_of_lt hk_k1,aj hk_k2,Nat.le_of_lt hk_k2]):(((.a (bF a0)):AV).deep dp&&(([(0,(.p k0 0)),(1,(.a (bF a0)))]:List (Nat×AV)).all (fun y=>y.2.aI ⟨dp,3⟩)&&([]:List (Nat×List AV)).all (fun y=>AV.aJ ⟨dp,3⟩ y.2)))=true)<|ai ((by simp [bF,AV.aI,AV.aJ,AV.deep,AV.bn,aj hk_k0,Nat.le_of_lt hk_k0,aj hk_k1,Nat.le_of_lt hk_k1,aj hk_k2,Nat.le_of_lt hk_k2]):(([(3,(.p ⟨dp,3⟩ 0)),(0,(.p k0 0)),(1,(.a (bF a0)))]:List (Nat×AV)).all (fun y=>y.2.aI ⟨dp,4⟩)&&([(3,(bF a0))]:List (Nat×List AV)).all (fun y=>AV.aJ ⟨dp,4⟩ y.2))=true)<|sf<|aP h fun r1 ek2 h=>have ek2:=iH hk_k0 hk_k1 hk_k2 hn_k0_k1 hn_k0_k2 hn_k1_k2 (fI (dp+1) (boxes dp [] (aB hp k0 k1 k2 c0 c1 c2)) k0 (Nat.lt_succ_of_lt hk_k0) k1 (Nat.lt_succ_of_lt hk_k1) k2 (Nat.lt_succ_of_lt hk_k2) (hn_k0_k1) (hn_k0_k2) (hn_k1_k2) (az (ab hk_k2 (ab hk_k1 (ab hk_k0 (hz))))) c0 c1 c2 _ ek2);ai ek2<|lz<|ai (Nat.ne_of_lt hk_k0)<|ai (cE hn_k0_k1 hn_k0_k2:(aB hp k0 k1 k2 c0 c1 c2) k0=some (bL k1 k2 c0))<|lz<|ai (Nat.ne_of_lt hk_k0)<|ai (cE hn_k0_k1 hn_k0_k2:(aB hp k0 k1 k2 c0 c1 c2) k0=some (bL k1 k2 c0))<|ai tt<|ai (rN dp)<|ai tt<|ai (Nat.ne_of_lt hk_k0)<|ai (cE hn_k0_k1 hn_k0_k2:(aB hp k0 k1 k2 c0 c1 c2) k0=some (bL k1 k2 c0))<|aQ h (Bx c0.p c0.vars a0) fun r3 h=>ai tt<|ai ((by simp [AV.off,AV.pT,ME,MF,MG,wE]):((.a [(.l 4 (r3.Readers.map AV.b)),(.l 4 (r3.Writers.map AV.b))]):AV).off [54]=true)<|aQ h (mV r1 r3) fun r5 h=>ai (rfl:dp=dp)<|ai (rN dp)<|ai tt<|ai (rN dp)<|ai (rN dp)<|L h
end
section
variable (a0:(List Bool))(a1:(List Bool))
def iC(v0_9:Nat):Option (Nat⊕(Unit⊕(Nat×Bool))):=
 if (v0_9:Int)<(a0.length:Int) then
  (a0[v0_9]?).bind fun (y2:Bool)=>
  if y2=true then
   (a1[v0_9]?).bind fun (y5:Bool)=>
   if y5=true then
    if IntKind.i64.wrap ((v0_9:Int)+1)=((v0_9+1:Nat):Int) then
     some (.inl (v0_9+1))
    else none
   else
    some (.inr (.inl ()))
  else
   if IntKind.i64.wrap ((v0_9:Int)+1)=((v0_9+1:Nat):Int) then
    some (.inl (v0_9+1))
   else none
 else
  some (.inr (.inr (v0_9,decide ((v0_9:Int)<(a0.length:Int)))))
abbrev Fk(v:Nat):St:=⟨[(1,(.l 4 (a1.map AV.b))),(7,(.l 4 (a0.map AV.b))),(8,(I (a0.length:Int))),(9,(I (v:Int)))],[],H0⟩
abbrev Fl(x:(Unit⊕(Nat×Bool))):aR×St:=match x with | .inl ()=>(.ret,⟨[(4,(.b false))],[],H0⟩) | .inr (z1,z2)=>((.ex 0),⟨[(1,(.l 4 (a1.map AV.b))),(7,(.l 4 (a0.map AV.b))),(8,(I (a0.length:Int))),(9,(I (z1:Int))),(10,(.b z2))],[],H0⟩)
theorem D7(v0_9:Nat)(o:Nat⊕(Unit⊕(Nat×Bool)))(h:iC a0 a1 v0_9=some o):bI E0 NU (Fk a0 a1) (Fl a0 a1) v0_9 o:=
 bP (.or (bt<|ao (.n v0_9)<|xB fun y2=>.or (dE<|ao (.n v0_9)<|xB fun y5=>dE<|.or (bf<|ao (.i ((v0_9+1:Nat):Int))<|.nil) (bt<|.nil)) (MK<|ao (.i ((v0_9+1:Nat):Int))<|.nil)) (bf<|.nil)) fun L=>cb h (fun h1 h=>ai (decide_eq_true h1)<|ai (rI v0_9)<|aP h fun y2 h3 h=>ai (aD AV.b h3)<|a8 h (fun h4 h=>Ig h4<|ai (rI v0_9)<|aP h fun y5 h6 h=>ai (aD AV.b h6)<|qD h4<|a8 h (fun h7 h=>ai (congrArg not h7)<|aS h fun w8 h=>ai w8<|L h) (fun h7 h=>ai (congrArg not h7)<|L h)) (fun h4 h=>ai (g1 h4)<|ai (g1 h4)<|ai (g1 h4)<|ai (g1 h4)<|ai (g1 h4)<|ai h4<|ai ff<|aS h fun w5 h=>ai w5<|L h)) (fun h1 h=>ai (decide_eq_false h1)<|L h)
abbrev HQ(a0:(List Bool))(a1:(List Bool))(r:Bool):aW×HP:=(.ret (.b r),H0)
def pF:Option Bool:=
 (lp (fun v=>iC a0 a1 v) 0).bind fun (x1:(Unit⊕(Nat×Bool)))=>match x1 with
 | .inl ya_2=>
  some false
 | .inr yb_2=>
  some true
theorem xb(r:Bool)(h:pF a0 a1=some r):call G Ω0 E0 88 [(.l 4 (a0.map AV.b)),(.l 4 (a1.map AV.b))] H0=some (HQ a0 a1 r):=
 aK G88 (ao (.i (a0.length:Int))<|.or (.ex fun (ya_2:Unit)=>ao (.lp .ret ⟨[(4,(.b false))],[],H0⟩)<|.nil) (.ex fun (yb_2:(Nat×Bool))=>ao (.lp (.ex 0) ⟨[(1,(.l 4 (a1.map AV.b))),(7,(.l 4 (a0.map AV.b))),(8,(I (a0.length:Int))),(9,(I (yb_2.1:Int))),(10,(.b yb_2.2))],[],H0⟩)<|.nil)) fun L=>ai (aL AV.b a0)<|cN h (ef (D7 a0 a1) 0) (fun ya_2 h=>L h) (fun yb_2 h=>L h)
end
section
variable (a0:Level)(a1:Level)
abbrev Fm(a0:Level)(a1:Level)(r:Bool):aW×HP:=(.ret (.b r),H0)
def iD:Option Bool:=
 (pF a1.Readers a0.Readers).bind fun (r1:Bool)=>
 if r1=true then
  (pF a0.Writers a1.Writers).bind fun (r4:Bool)=>
  some r4
 else
  some false
theorem mi(r:Bool)(h:iD a0 a1=some r):call G Ω0 E0 46 [(.a [(.l 4 (a0.Readers.map AV.b)),(.l 4 (a0.Writers.map AV.b))]),(.a [(.l 4 (a1.Readers.map AV.b)),(.l 4 (a1.Writers.map AV.b))])] H0=some (Fm a0 a1 r):=
 aK G46 (du<|xB fun r1=>.or (MQ<|xB fun r4=>bt<|.nil) (Ij<|.nil)) fun L=>ai tt<|ai tt<|ai (rfl:Z0)<|ai (rfl:Z0)<|aQ h (xb a1.Readers a0.Readers) fun r1 h=>a8 h (fun h3 h=>MJ h3<|aQ h (xb a0.Writers a1.Writers) fun r4 h=>ai h3<|L h) (fun h3 h=>F0 h3<|L h)
end
section
variable (a0:Int)(a1:(List (List Bool)))(a2:Int)
abbrev By(a0:Int)(a1:(List (List Bool)))(a2:Int)(r:Bool):aW×HP:=(.ret (.b r),H0)
def jU:Option Bool:=
 (cX a2).bind fun (j1:Nat)=>
 (a1[j1]?).bind fun (y3:(List Bool))=>
 (cX a0).bind fun (j5:Nat)=>
 (y3[j5]?).bind fun (y7:Bool)=>
 some y7
theorem yJ(r:Bool)(h:jU a0 a1 a2=some r):call G Ω0 E0 83 [(I a0),(.e (.l 52 (a1.map (bD 4 AV.b))) 0),(.e (I a2) 0)] H0=some (By a0 a1 a2 r):=
 aK G83 (xN fun j1=>.ex fun (y3:(List Bool))=>ao (.v (.l 4 (y3.map AV.b)))<|xN fun j5=>xB fun y7=>.nil) fun L=>eN h fun j1 h2 h=>ai h2<|aP h fun y3 h4 h=>ai (aD (bD 4 AV.b) h4)<|eN h fun j5 h6 h=>ai h6<|aP h fun y7 h8 h=>ai (aD AV.b h8)<|L h
end
section
variable (a0:(List Int))(a1:(List (List Bool)))(a2:Int)
def gX(v0_8:Nat):Option (Nat⊕(Nat⊕(Nat×Bool))):=
 if (v0_8:Int)<(a0.length:Int) then
  (a0[v0_8]?).bind fun (y2:Int)=>
  (jU y2 a1 a2).bind fun (r4:Bool)=>
  if r4=true then
   some (.inr (.inl v0_8))
  else
   if IntKind.i64.wrap ((v0_8:Int)+1)=((v0_8+1:Nat):Int) then
    some (.inl (v0_8+1))
   else none
 else
  some (.inr (.inr (v0_8,decide ((v0_8:Int)<(a0.length:Int)))))
abbrev nP(v:Nat):St:=⟨[(0,(.l 3 (a0.map (I)))),(1,(.f 83 [(.e (.l 52 (a1.map (bD 4 AV.b))) 0),(.e (I a2) 0)])),(7,(I (a0.length:Int))),(8,(I (v:Int)))],[],H0⟩
abbrev nQ(x:(Nat⊕(Nat×Bool))):aR×St:=match x with | .inl z1=>(.ret,⟨[(4,(I (z1:Int)))],[],H0⟩) | .inr (z1,z2)=>((.ex 0),⟨[(0,(.l 3 (a0.map (I)))),(1,(.f 83 [(.e (.l 52 (a1.map (bD 4 AV.b))) 0),(.e (I a2) 0)])),(7,(I (a0.length:Int))),(8,(I (z1:Int))),(9,(.b z2))],[],H0⟩)
theorem nm(v0_8:Nat)(o:Nat⊕(Nat⊕(Nat×Bool)))(h:gX a0 a1 a2 v0_8=some o):bI E0 z8 (nP a0 a1 a2) (nQ a0 a1 a2) v0_8 o:=
 bP (.or (bt<|ao (.n v0_8)<|xI fun y2=>xB fun r4=>oN (ao (.i ((v0_8+1:Nat):Int))<|.nil)) (bf<|.nil)) fun L=>cb h (fun h1 h=>ai (decide_eq_true h1)<|ai (rI v0_8)<|aP h fun y2 h3 h=>ai (aD (I) h3)<|aQ h (yJ y2 a1 a2) fun r4 h=>a8 h (fun h6 h=>ai h6<|L h) (fun h6 h=>ai h6<|aS h fun w7 h=>ai w7<|L h)) (fun h1 h=>ai (decide_eq_false h1)<|L h)
abbrev pf(a0:(List Int))(a1:(List (List Bool)))(a2:Int)(r:Int):aW×HP:=(.ret (I r),H0)
def iO:Option Int:=
 (lp (fun v=>gX a0 a1 a2 v) 0).bind fun (x1:(Nat⊕(Nat×Bool)))=>match x1 with
 | .inl ya_2=>
  some (ya_2:Int)
 | .inr yb_2=>
  some (-1)
theorem np(r:Int)(h:iO a0 a1 a2=some r):call G Ω0 E0 98 [(.l 3 (a0.map (I))),(.f 83 [(.e (.l 52 (a1.map (bD 4 AV.b))) 0),(.e (I a2) 0)])] H0=some (pf a0 a1 a2 r):=
 aK Ko (ao (.i (a0.length:Int))<|.or (.ex fun (ya_2:Nat)=>ao (.lp .ret ⟨[(4,(I (ya_2:Int)))],[],H0⟩)<|.nil) (.ex fun (yb_2:(Nat×Bool))=>ao (.lp (.ex 0) ⟨[(0,(.l 3 (a0.map (I)))),(1,(.f 83 [(.e (.l 52 (a1.map (bD 4 AV.b))) 0),(.e (I a2) 0)])),(7,(I (a0.length:Int))),(8,(I (yb_2.1:Int))),(9,(.b yb_2.2))],[],H0⟩)<|.nil)) fun L=>ai (aL (I) a0)<|cN h (ef (nm a0 a1 a2) 0) (fun ya_2 h=>L h) (fun yb_2 h=>L h)
abbrev nq(a0:(List Int))(a1:(List (List Bool)))(a2:Int)(r:Bool):aW×HP:=(.ret (.b r),H0)
def ee:Option Bool:=
 (iO a0 a1 a2).bind fun (r1:Int)=>
 some (decide (0≤r1))
theorem mj(r:Bool)(h:ee a0 a1 a2=some r):call G Ω0 E0 55 [(.l 3 (a0.map (I))),(.f 83 [(.e (.l 52 (a1.map (bD 4 AV.b))) 0),(.e (I a2) 0)])] H0=some (nq a0 a1 a2 r):=
 aK Kn (xI fun r1=>.nil) fun L=>aQ h (np a0 a1 a2) fun r1 h=>L h
end
section
variable (a0:bC)(a1:(List (List Bool)))(a2:Int)
abbrev D8(a0:bC)(a1:(List (List Bool)))(a2:Int)(r:Bool):aW×HP:=(.ret (.b r),H0)
def lQ:Option Bool:=
 (cX a2).bind fun (j1:Nat)=>
 (a1[j1]?).bind fun (y3:(List Bool))=>
 (cX a0.Owner).bind fun (j5:Nat)=>
 (y3[j5]?).bind fun (y7:Bool)=>
 if y7=true then
  some false
 else
  (ee a0.Names a1 a2).bind fun (r10:Bool)=>
  some (!r10)
theorem AJ(r:Bool)(h:lQ a0 a1 a2=some r):call G Ω0 E0 82 [(.a [(I a0.Owner),(.l 3 (a0.Names.map (I)))]),(.e (.l 52 (a1.map (bD 4 AV.b))) 0),(.e (I a2) 0)] H0=some (D8 a0 a1 a2 r):=
 aK G82 (xN fun j1=>.ex fun (y3:(List Bool))=>ao (.v (.l 4 (y3.map AV.b)))<|bt<|xN fun j5=>xB fun y7=>.or (Ij<|.nil) (qE<|xB fun r10=>du<|.nil)) fun L=>lz<|eN h fun j1 h2 h=>ai h2<|aP h fun y3 h4 h=>ai (aD (bD 4 AV.b) h4)<|ai tt<|ai tt<|ai tt<|ai (rfl:Z0)<|ai tt<|eN h fun j5 h6 h=>ai h6<|aP h fun y7 h8 h=>ai (aD AV.b h8)<|lz<|a8 h (fun h9 h=>F0 (congrArg not h9)<|L h) (fun h9 h=>ai (g1 (congrArg not h9))<|ai tt<|ai (g1 (congrArg not h9))<|ai (rfl:Z0)<|ai tt<|ai (g1 (congrArg not h9))<|ai tt<|ai (g1 (congrArg not h9))<|aQ h (mj a0.Names a1 a2) fun r10 h=>Ih (congrArg not h9)<|L h)
end
section
variable (a0:(List bC))(a1:(List (List Bool)))(a2:Int)
def iP(v0_8:Nat):Option (Nat⊕(Nat⊕(Nat×Bool))):=
 if (v0_8:Int)<(a0.length:Int) then
  (a0[v0_8]?).bind fun (y2:bC)=>
  (lQ y2 a1 a2).bind fun (r4:Bool)=>
  if r4=true then
   some (.inr (.inl v0_8))
  else
   if IntKind.i64.wrap ((v0_8:Int)+1)=((v0_8+1:Nat):Int) then
    some (.inl (v0_8+1))
   else none
 else
  some (.inr (.inr (v0_8,decide ((v0_8:Int)<(a0.length:Int)))))
abbrev ph(v:Nat):St:=⟨[(0,(.l 134 (a0.map a7))),(1,(.f 82 [(.e (.l 52 (a1.map (bD 4 AV.b))) 0),(.e (I a2) 0)])),(7,(I (a0.length:Int))),(8,(I (v:Int)))],[],H0⟩
abbrev pj(x:(Nat⊕(Nat×Bool))):aR×St:=match x with | .inl z1=>(.ret,⟨[(4,(I (z1:Int)))],[],H0⟩) | .inr (z1,z2)=>((.ex 0),⟨[(0,(.l 134 (a0.map a7))),(1,(.f 82 [(.e (.l 52 (a1.map (bD 4 AV.b))) 0),(.e (I a2) 0)])),(7,(I (a0.length:Int))),(8,(I (z1:Int))),(9,(.b z2))],[],H0⟩)
theorem oB(v0_8:Nat)(o:Nat⊕(Nat⊕(Nat×Bool)))(h:iP a0 a1 a2 v0_8=some o):bI E0 FI (ph a0 a1 a2) (pj a0 a1 a2) v0_8 o:=
 bP (.or (bt<|ao (.n v0_8)<|.ex fun (y2:bC)=>ao (.v (.a [(I y2.Owner),(.l 3 (y2.Names.map (I)))]))<|xB fun r4=>oN (ao (.i ((v0_8+1:Nat):Int))<|.nil)) (bf<|.nil)) fun L=>cb h (fun h1 h=>ai (decide_eq_true h1)<|ai (rI v0_8)<|aP h fun y2 h3 h=>ai (aD a7 h3)<|aQ h (AJ y2 a1 a2) fun r4 h=>a8 h (fun h6 h=>ai h6<|L h) (fun h6 h=>ai h6<|aS h fun w7 h=>ai w7<|L h)) (fun h1 h=>ai (decide_eq_false h1)<|L h)
abbrev p6(a0:(List bC))(a1:(List (List Bool)))(a2:Int)(r:Int):aW×HP:=(.ret (I r),H0)
def jV:Option Int:=
 (lp (fun v=>iP a0 a1 a2 v) 0).bind fun (x1:(Nat⊕(Nat×Bool)))=>match x1 with
 | .inl ya_2=>
  some (ya_2:Int)
 | .inr yb_2=>
  some (-1)
theorem oC(r:Int)(h:jV a0 a1 a2=some r):call G Ω0 E0 125 [(.l 134 (a0.map a7)),(.f 82 [(.e (.l 52 (a1.map (bD 4 AV.b))) 0),(.e (I a2) 0)])] H0=some (p6 a0 a1 a2 r):=
 aK Sx (ao (.i (a0.length:Int))<|.or (.ex fun (ya_2:Nat)=>ao (.lp .ret ⟨[(4,(I (ya_2:Int)))],[],H0⟩)<|.nil) (.ex fun (yb_2:(Nat×Bool))=>ao (.lp (.ex 0) ⟨[(0,(.l 134 (a0.map a7))),(1,(.f 82 [(.e (.l 52 (a1.map (bD 4 AV.b))) 0),(.e (I a2) 0)])),(7,(I (a0.length:Int))),(8,(I (yb_2.1:Int))),(9,(.b yb_2.2))],[],H0⟩)<|.nil)) fun L=>ai (aL a7 a0)<|cN h (ef (oB a0 a1 a2) 0) (fun ya_2 h=>L h) (fun yb_2 h=>L h)
abbrev oD(a0:(List bC))(a1:(List (List Bool)))(a2:Int)(r:Bool):aW×HP:=(.ret (.b r),H0)
def eF:Option Bool:=
 (jV a0 a1 a2).bind fun (r1:Int)=>
 some (decide (0≤r1))
theorem mP(r:Bool)(h:eF a0 a1 a2=some r):call G Ω0 E0 84 [(.l 134 (a0.map a7)),(.f 82 [(.e (.l 52 (a1.map (bD 4 AV.b))) 0),(.e (I a2) 0)])] H0=some (oD a0 a1 a2 r):=
 aK YO (xI fun r1=>.nil) fun L=>aQ h (oC a0 a1 a2) fun r1 h=>L h
end
section
variable (a0:(List bC))(a1:ah)(a2:(List (List Bool)))
def jz(v0_5:(List Bool))(v0_10:Nat):Option (((List Bool)×Nat)⊕((List Bool)×Nat×Bool)):=
 if (v0_10:Int)<a1.Many then
  (eF a0 a2 (v0_10:Int)).bind fun (r2:Bool)=>
  if v0_5.length+([!r2]).length≤1000000000 then
   if IntKind.i64.wrap ((v0_10:Int)+1)=((v0_10+1:Nat):Int) then
    some (.inl (v0_5++([!r2]),v0_10+1))
   else none
  else none
 else
  some (.inr (v0_5,v0_10,decide ((v0_10:Int)<a1.Many)))
abbrev D9(v:((List Bool)×Nat)):St:=⟨[(0,(.l 134 (a0.map a7))),(2,(.e (.l 52 (a2.map (bD 4 AV.b))) 0)),(5,(.o 4 (v.1.map AV.b))),(9,(I a1.Many)),(10,(I (v.2:Int)))],[],H0⟩
abbrev Ea(x:((List Bool)×Nat×Bool)):aR×St:=((.ex 0),⟨[(0,(.l 134 (a0.map a7))),(2,(.e (.l 52 (a2.map (bD 4 AV.b))) 0)),(5,(.o 4 (x.1.map AV.b))),(9,(I a1.Many)),(10,(I (x.2.1:Int))),(11,(.b x.2.2))],[],H0⟩)
theorem CP(v0_5:(List Bool))(v0_10:Nat)(o:((List Bool)×Nat)⊕((List Bool)×Nat×Bool))(h:jz a0 a1 a2 v0_5 v0_10=some o):bI E0 NT (D9 a0 a1 a2) (Ea a0 a1 a2) (v0_5,v0_10) o:=
 bP (.or (dE<|xB fun r2=>ao (.l (([!r2]).map AV.b))<|ao (.l ((v0_5++([!r2])).map AV.b))<|ao (.i ((v0_10+1:Nat):Int))<|.nil) (bf<|.nil)) fun L=>cb h (fun h1 h=>ai (decide_eq_true h1)<|ai tt<|ai ff<|ai (rfl:Z0)<|ai tt<|ai (rfl:Z0)<|ai (rfl:Z0)<|aQ h (mP a0 a2 (v0_10:Int)) fun r2 h=>ai (rfl:[(.b (!r2))]=([!r2]).map AV.b)<|ai ff<|aS h fun h4 h=>ai ((gi AV.b (n:=1) (fun _=>rfl) ([!r2])):(([!r2]).map AV.b).all (fun e=>e.nc==1)=true)<|ai ((lh h4 (by decide)):((v0_5.map AV.b).length+(([!r2]).map AV.b).length)*1≤140737488355328)<|ai ((lj h4):(v0_5.map AV.b).length+(([!r2]).map AV.b).length≤maxLen)<|ai (List.map_append.symm:v0_5.map AV.b++([!r2]).map AV.b=(v0_5++([!r2])).map AV.b)<|aS h fun w5 h=>ai w5<|L h) (fun h1 h=>ai (decide_eq_false h1)<|L h)
abbrev GK(a0:(List bC))(a1:ah)(a2:(List (List Bool)))(r:(List Bool)):aW×HP:=(.ret (.l 4 (r.map AV.b)),H0)
def nR:Option (List Bool):=
 (lp (fun v=>jz a0 a1 a2 v.1 v.2) (([]:List Bool),0)).bind fun (x1:((List Bool)×Nat×Bool))=>
 some x1.1
theorem vG(r:(List Bool))(h:nR a0 a1 a2=some r):call G Ω0 E0 81 [(.l 134 (a0.map a7)),(.e (.a [(I a1.Many),(.l 136 (a1.Grants.map aF))]) 0),(.e (.l 52 (a2.map (bD 4 AV.b))) 0)] H0=some (GK a0 a1 a2 r):=
 aK G81 (.ex fun (x1:((List Bool)×Nat×Bool))=>ao (.lp (.ex 0) ⟨[(0,(.l 134 (a0.map a7))),(2,(.e (.l 52 (a2.map (bD 4 AV.b))) 0)),(5,(.o 4 (x1.1.map AV.b))),(9,(I a1.Many)),(10,(I (x1.2.1:Int))),(11,(.b x1.2.2))],[],H0⟩)<|.nil) fun L=>aQ h (ef (fun v=>CP a0 a1 a2 v.1 v.2) (([]:List Bool),0)) fun x1 h=>L h
end
section
variable (a0:ah)(a1:Label)
abbrev Jz(a0:ah)(a1:Label)(r:Level):aW×HP:=(.ret (.a [(.l 4 (r.Readers.map AV.b)),(.l 4 (r.Writers.map AV.b))]),H0)
def ml:Option Level:=
 (nO a0).bind fun (r1:(List (List Bool)))=>
 (nR a1.Read a0 r1).bind fun (r3:(List Bool))=>
 (nR a1.Write a0 r1).bind fun (r5:(List Bool))=>
 some (⟨r3,r5⟩:Level)
theorem pS(r:Level)(h:ml a0 a1=some r):call G Ω0 E0 44 [(.a [(I a0.Many),(.l 136 (a0.Grants.map aF))]),(.a [(.l 134 (a1.Read.map a7)),(.l 134 (a1.Write.map a7))])] H0=some (Jz a0 a1 r):=
 aK G44 (bt<|.ex fun (r1:(List (List Bool)))=>ao (.v (.l 52 (r1.map (bD 4 AV.b))))<|dE<|.ex fun (r3:(List Bool))=>ao (.v (.l 4 (r3.map AV.b)))<|bt<|.ex fun (r5:(List Bool))=>ao (.v (.l 4 (r5.map AV.b)))<|du<|.nil) fun L=>ai tt<|ai tt<|ai tt<|ai (rfl:Z0)<|aQ h (vF a0) fun r1 h=>ai tt<|ai ff<|ai (rfl:Z0)<|ai tt<|ai (rfl:Z0)<|ai (rfl:Z0)<|ai (rfl:Z0)<|ai tt<|ai tt<|ai tt<|ai (rfl:Z0)<|ai tt<|aQ h (vG a1.Read a0 r1) fun r3 h=>ai tt<|ai tt<|ai tt<|ai (rfl:Z0)<|ai tt<|aQ h (vG a1.Write a0 r1) fun r5 h=>Ji<|L h
end
section
variable (dp:Nat)(hp:HP)(k0:Key)(c0:ak)(c1:Runner)(c2:aw)(a0:Int)(a1:Level)
abbrev yK(dp:Nat)(hp:HP)(k0:Key)(k1:Key)(k2:Key)(c0:ak)(c1:Runner)(c2:aw)(a0:Int)(a1:Level)(r:Bool):aW×HP:=(.ret (.b r),aB hp k0 k1 k2 c0 c1 c2)
def gj:Option Bool:=
 (dC c0 c1 c2).bind fun (r1:Level)=>
 (cX a0).bind fun (j3:Nat)=>
 (c0.vars[j3]?).bind fun (y5:Level)=>
 (iD r1 y5).bind fun (r7:Bool)=>
 if r7=true then
  (c0.p.Vars[j3]?).bind fun (y10:Var)=>
  if y10.Known=true then
   (ml c0.p.ah y10.Label).bind fun (r13:Level)=>
   (iD a1 r13).bind fun (r15:Bool)=>
   some r15
  else
   some true
 else
  some false
theorem pG(hk_k0:k0.dp<dp)(k1:Key)(hk_k1:k1.dp<dp)(k2:Key)(hk_k2:k2.dp<dp)(hn_k0_k1:k0≠k1)(hn_k0_k2:k0≠k2)(hn_k1_k2:k1≠k2)(hz:aN dp hp)(c0:ak)(c1:Runner)(c2:aw)(a0:Int)(a1:Level)(r:Bool)(h:gj c0 c1 c2 a0 a1=some r):call G Ω0 ⟨dp,true⟩ 164 [(.p k0 0),(I a0),(.a [(.l 4 (a1.Readers.map AV.b)),(.l 4 (a1.Writers.map AV.b))])] (aB hp k0 k1 k2 c0 c1 c2)=some (yK dp hp k0 k1 k2 c0 c1 c2 a0 a1 r):=
 aK ZZ (.ex fun (r1:Level)=>ao (.v (.a [(.l 4 (r1.Readers.map AV.b)),(.l 4 (r1.Writers.map AV.b))]))<|ao (.h (boxes dp [] (aB hp k0 k1 k2 c0 c1 c2)))<|bf<|ao (.l (bL k1 k2 c0))<|xN fun j3=>bf<|ao (.l (bL k1 k2 c0))<|.ex fun (y5:Level)=>ao (.v (.a [(.l 4 (y5.Readers.map AV.b)),(.l 4 (y5.Writers.map AV.b))]))<|bf<|ao (.l (bL k1 k2 c0))<|ao (.v (.a [(.l 4 (y5.Readers.map AV.b)),(.l 4 (y5.Writers.map AV.b))]))<|xB fun r7=>.or (bf<|bf<|ao (.l (bL k1 k2 c0))<|ao (.n j3)<|.ex fun (y10:Var)=>ao (.v (.a (lA y10)))<|dE<|.or (bt<|bt<|bt<|bt<|bt<|bt<|bt<|bf<|ao (.l (bL k1 k2 c0))<|tV<|.ex fun (r13:Level)=>ao (.v (.a [(.l 4 (r13.Readers.map AV.b)),(.l 4 (r13.Writers.map AV.b))]))<|bt<|xB fun r15=>bf<|.nil) (bf<|bf<|bf<|bf<|bf<|bf<|bf<|bf<|bf<|bf<|bt<|.nil)) (bt<|.nil)) fun L=>ai ((by simp [AV.aI,AV.aJ,AV.deep,AV.bn,aj hk_k0,Nat.le_of_lt hk_k0,aj hk_k1,Nat.le_of_lt hk_k1,aj hk_k2,Nat.le_of_lt hk_k2]):(((.a [(.l 4 (a1.Readers.map AV.b)),(.l 4 (a1.Writers.map AV.b))]):AV).deep dp&&(([(0,(.p k0 0)),(1,(I a0)),(2,(.a [(.l 4 (a1.Readers.map AV.b)),(.l 4 (a1.Writers.map AV.b))]))]:List (Nat×AV)).all (fun y=>y.2.aI ⟨dp,5⟩)&&([]:List (Nat×List AV)).all (fun y=>AV.aJ ⟨dp,5⟩ y.2)))=true)<|sf<|aP h fun r1 ek2 h=>have ek2:=iH hk_k0 hk_k1 hk_k2 hn_k0_k1 hn_k0_k2 hn_k1_k2 (fI (dp+1) (boxes dp [] (aB hp k0 k1 k2 c0 c1 c2)) k0 (Nat.lt_succ_of_lt hk_k0) k1 (Nat.lt_succ_of_lt hk_k1) k2 (Nat.lt_succ_of_lt hk_k2) (hn_k0_k1) (hn_k0_k2) (hn_k1_k2) (az (ab hk_k2 (ab hk_k1 (ab hk_k0 (hz))))) c0 c1 c2 _ ek2);ai ek2<|lz<|ai (Nat.ne_of_lt hk_k0)<|ai (cE hn_k0_k1 hn_k0_k2:(aB hp k0 k1 k2 c0 c1 c2) k0=some (bL k1 k2 c0))<|cF<|eN h fun j3 h4 h=>ai h4<|ai (Nat.ne_of_lt hk_k0)<|ai (cE hn_k0_k1 hn_k0_k2:(aB hp k0 k1 k2 c0 c1 c2) k0=some (bL k1 k2 c0))<|aP h fun y5 h6 h=>ai (aD av h6)<|ai tt<|ai (Nat.ne_of_lt hk_k0)<|ai (cE hn_k0_k1 hn_k0_k2:(aB hp k0 k1 k2 c0 c1 c2) k0=some (bL k1 k2 c0))<|ai (aD av h6)<|ai tt<|aQ h (mi r1 y5) fun r7 h=>a8 h (fun h9 h=>ai (congrArg not h9)<|ai (Nat.ne_of_lt hk_k0)<|ai (cE hn_k0_k1 hn_k0_k2:(aB hp k0 k1 k2 c0 c1 c2) k0=some (bL k1 k2 c0))<|ai h4<|aP h fun y10 h11 h=>ai (aD bz h11)<|ai ((by simp [lA,AV.aI,AV.aJ,AV.deep,AV.bn,aj hk_k0,Nat.le_of_lt hk_k0,aj hk_k1,Nat.le_of_lt hk_k1,aj hk_k2,Nat.le_of_lt hk_k2]):(([(26,(.a (lA y10))),(25,(.e (.a (lA y10)) 0)),(24,(I a0)),(23,(.l 51 (c0.p.Vars.map bz))),(22,(.p k0 6)),(21,(.p k0 1)),(20,(.p k0 0)),(19,(.p k0 0)),(0,(.p k0 0)),(1,(I a0)),(5,(.p ⟨dp,5⟩ 0))]:List (Nat×AV)).all (fun y=>y.2.aI ⟨dp,7⟩)&&([(5,[(.l 4 (a1.Readers.map AV.b)),(.l 4 (a1.Writers.map AV.b))])]:List (Nat×List AV)).all (fun y=>AV.aJ ⟨dp,7⟩ y.2))=true)<|ai (rfl:dp=dp)<|ai (rN dp)<|ai tt<|ai (rN dp)<|cF<|ai (rN dp)<|sf<|a8 h (fun h12 h=>ai (g0 (congrArg not h12))<|ai (rN dp)<|ai tt<|ai (g0 (congrArg not h12))<|ai tt<|ai (g0 (congrArg not h12))<|ai tt<|ai (g0 (congrArg not h12))<|ai tt<|ai (g0 (congrArg not h12))<|ai tt<|ai (g0 (congrArg not h12))<|ai (Nat.ne_of_lt hk_k0)<|ai (cE hn_k0_k1 hn_k0_k2:(aB hp k0 k1 k2 c0 c1 c2) k0=some (bL k1 k2 c0))<|ai tt<|ai (g0 (congrArg not h12))<|ai tt<|ai (g0 (congrArg not h12))<|ai (rN dp)<|ai tt<|ai (g0 (congrArg not h12))<|aQ h (pS c0.p.ah y10.Label) fun r13 h=>ai tt<|ai (g0 (congrArg not h12))<|aQ h (mi a1 r13) fun r15 h=>ai (congrArg not h12)<|L h) (fun h12 h=>ai (g0 (congrArg not h12))<|ai (g0 (congrArg not h12))<|ai (g0 (congrArg not h12))<|ai (g0 (congrArg not h12))<|ai (g0 (congrArg not h12))<|ai (g0 (congrArg not h12))<|ai (g0 (congrArg not h12))<|ai (g0 (congrArg not h12))<|ai (g0 (congrArg not h12))<|ai (g0 (congrArg not h12))<|ai (congrArg not h12)<|L h)) (fun h9 h=>ai (congrArg not h9)<|L h)
end
section
variable (c0:ak)(c1:Runner)(c2:aw)(a0:Stmt)(dp:Nat)(hp:HP)(k0:Key)
def fY(y3:Func)(v0_6:(List Level))(v0_24:Nat):Option (((List Level)×Nat)⊕(Unit⊕((List Level)×Nat×Bool))):=
 if (v0_24:Int)<(a0.Args.length:Int) then
  (a0.Args[v0_24]?).bind fun (y6:aE)=>
  (dj c0 c1 c2 y6).bind fun (r8:Level)=>
  if v0_6.length + [r8].length≤1000000000 then
   (y3.Params[v0_24]?).bind fun (y11:Int)=>
   ((v0_6++[r8])[v0_24]?).bind fun (y13:Level)=>
   (gj c0 c1 c2 y11 y13).bind fun (r15:Bool)=>
   if r15=true then
    if IntKind.i64.wrap ((v0_24:Int)+1)=((v0_24+1:Nat):Int) then
     some (.inl (v0_6++[r8],v0_24+1))
    else none
   else
    some (.inr (.inl ()))
  else none
 else
  some (.inr (.inr (v0_6,v0_24,decide ((v0_24:Int)<(a0.Args.length:Int)))))
abbrev vg(dp:Nat)(hp:HP)(k0:Key)(k1:Key)(k2:Key)(c0:ak)(c1:Runner)(c2:aw)(a0:Stmt)(y3:Func)(v:((List Level)×Nat)):St:=⟨[(0,(.p k0 0)),(5,(.l 3 (y3.Params.map (I)))),(6,(.o 54 (v.1.map av))),(22,(.l 86 (a0.Args.map aT))),(23,(I (a0.Args.length:Int))),(24,(I (v.2:Int)))],[],aB hp k0 k1 k2 c0 c1 c2⟩
abbrev vi(dp:Nat)(hp:HP)(k0:Key)(k1:Key)(k2:Key)(c0:ak)(c1:Runner)(c2:aw)(a0:Stmt)(y3:Func)(x:(Unit⊕((List Level)×Nat×Bool))):aR×St:=match x with | .inl ()=>(.ret,⟨[(4,(.b false))],[],aB hp k0 k1 k2 c0 c1 c2⟩) | .inr (z1,z2,z3)=>((.ex 0),⟨[(0,(.p k0 0)),(5,(.l 3 (y3.Params.map (I)))),(6,(.o 54 (z1.map av))),(22,(.l 86 (a0.Args.map aT))),(23,(I (a0.Args.length:Int))),(24,(I (z2:Int))),(25,(.b z3))],[],aB hp k0 k1 k2 c0 c1 c2⟩)
theorem uF(hk_k0:k0.dp<dp)(k1:Key)(hk_k1:k1.dp<dp)(k2:Key)(hk_k2:k2.dp<dp)(hn_k0_k1:k0≠k1)(hn_k0_k2:k0≠k2)(hn_k1_k2:k1≠k2)(hz:aN dp hp)(c0:ak)(c1:Runner)(c2:aw)(a0:Stmt)(y3:Func)(v0_6:(List Level))(v0_24:Nat)(o:((List Level)×Nat)⊕(Unit⊕((List Level)×Nat×Bool)))(h:fY c0 c1 c2 a0 y3 v0_6 v0_24=some o):bI ⟨dp,false⟩ Kd (vg dp hp k0 k1 k2 c0 c1 c2 a0 y3) (vi dp hp k0 k1 k2 c0 c1 c2 a0 y3) (v0_6,v0_24) o:=
 bP (.or (bt<|ao (.n v0_24)<|.ex fun (y6:aE)=>ao (.v (.a (bF y6)))<|dE<|.ex fun (r8:Level)=>ao (.v (.a [(.l 4 (r8.Readers.map AV.b)),(.l 4 (r8.Writers.map AV.b))]))<|ao (.h (boxes dp [(8,(bF y6))] (aB hp k0 k1 k2 c0 c1 c2)))<|ao (.l ([r8].map av))<|ao (.l ((v0_6++[r8]).map av))<|ao (.n v0_24)<|xI fun y11=>ao (.n v0_24)<|.ex fun (y13:Level)=>ao (.v (.a [(.l 4 (y13.Readers.map AV.b)),(.l 4 (y13.Writers.map AV.b))]))<|ao (.v (.a [(.l 4 (y13.Readers.map AV.b)),(.l 4 (y13.Writers.map AV.b))]))<|xB fun r15=>ao (.h (boxes dp [] (aB hp k0 k1 k2 c0 c1 c2)))<|.or (bf<|ao (.i ((v0_24+1:Nat):Int))<|.nil) (bt<|.nil)) (bf<|.nil)) fun L=>cb h (fun h5 h=>ai (decide_eq_true h5)<|ai (rI v0_24)<|aP h fun y6 h7 h=>ai (iy aT h7 (eS _))<|ai ((by simp [bF,AV.aI,AV.aJ,AV.deep,AV.bn,aj hk_k0,Nat.le_of_lt hk_k0,aj hk_k1,Nat.le_of_lt hk_k1,aj hk_k2,Nat.le_of_lt hk_k2]):(([(28,(.a (bF y6))),(27,(.e (.a (bF y6)) 0)),(26,(I (v0_24:Int))),(0,(.p k0 0)),(5,(.l 3 (y3.Params.map (I)))),(6,(.o 54 (v0_6.map av))),(22,(.l 86 (a0.Args.map aT))),(23,(I (a0.Args.length:Int))),(24,(I (v0_24:Int)))]:List (Nat×AV)).all (fun y=>y.2.aI ⟨dp,8⟩)&&([]:List (Nat×List AV)).all (fun y=>AV.aJ ⟨dp,8⟩ y.2))=true)<|ai ff<|ai (rN dp)<|ai tt<|ai (rN dp)<|ai (rN dp)<|ai tt<|aP h fun r8 ek9 h=>have ek9:=iH hk_k0 hk_k1 hk_k2 hn_k0_k1 hn_k0_k2 hn_k1_k2 (eg (dp+1) (boxes dp [(8,(bF y6))] (aB hp k0 k1 k2 c0 c1 c2)) k0 (Nat.lt_succ_of_lt hk_k0) k1 (Nat.lt_succ_of_lt hk_k1) k2 (Nat.lt_succ_of_lt hk_k2) (hn_k0_k1) (hn_k0_k2) (hn_k1_k2) (az (ab hk_k2 (ab hk_k1 (ab hk_k0 (hz))))) c0 c1 c2 y6 _ ek9);ai ek9<|ai (rfl:[(.a [(.l 4 (r8.Readers.map AV.b)),(.l 4 (r8.Writers.map AV.b))])]=[r8].map av)<|ai ff<|aS h fun h10 h=>ai ((gi av (n:=2) (fun _=>rfl) [r8]):([r8].map av).all (fun e=>e.nc==2)=true)<|ai ((lh h10 (by decide)):((v0_6.map av).length+([r8].map av).length)*48≤140737488355328)<|ai ((lj h10):(v0_6.map av).length+([r8].map av).length≤maxLen)<|ai (List.map_append.symm:v0_6.map av++[r8].map av=(v0_6++[r8]).map av)<|lz<|ai (rI v0_24)<|aP h fun y11 h12 h=>ai (aD (I) h12)<|lz<|ai (rI v0_24)<|aP h fun y13 h14 h=>ai (aD av h14)<|ai tt<|ai (aD av h14)<|cF<|aP h fun r15 ek16 h=>have ek16:=iH hk_k0 hk_k1 hk_k2 hn_k0_k1 hn_k0_k2 hn_k1_k2 (pG (dp+1) (boxes dp [] (aB hp k0 k1 k2 c0 c1 c2)) k0 (Nat.lt_succ_of_lt hk_k0) k1 (Nat.lt_succ_of_lt hk_k1) k2 (Nat.lt_succ_of_lt hk_k2) (hn_k0_k1) (hn_k0_k2) (hn_k1_k2) (az (ab hk_k2 (ab hk_k1 (ab hk_k0 (hz))))) c0 c1 c2 y11 y13 _ ek16);ai ek16<|a8 h (fun h17 h=>ai (congrArg not h17)<|aS h fun w18 h=>ai w18<|L h) (fun h17 h=>ai (congrArg not h17)<|L h)) (fun h5 h=>ai (decide_eq_false h5)<|L h)
def fZ(c0:ak)(c1:Runner)(c2:aw)(y3:Func)(yb_6:((List Level)×Nat×Bool))(v1_49:Nat)(v1_k0_9:(List Level)):Option ((Nat×(List Level))⊕(Nat×Bool×(List Level))):=
 if (v1_49:Int)<(y3.Params.length:Int) then
  (y3.Params[v1_49]?).bind fun (y9:Int)=>
  (yb_6.1[v1_49]?).bind fun (y11:Level)=>
  (cX y9).bind fun (j13:Nat)=>
  (v1_k0_9[j13]?).bind fun (y15:Level)=>
  if IntKind.i64.wrap ((v1_49:Int)+1)=((v1_49+1:Nat):Int) then
   some (.inl (v1_49+1,v1_k0_9.set j13 y11))
  else none
 else
  some (.inr (v1_49,decide ((v1_49:Int)<(y3.Params.length:Int)),v1_k0_9))
abbrev vj(dp:Nat)(hp:HP)(k0:Key)(k1:Key)(k2:Key)(c0:ak)(c1:Runner)(c2:aw)(y3:Func)(yb_6:((List Level)×Nat×Bool))(v:(Nat×(List Level))):St:=⟨[(0,(.p k0 0)),(6,(.o 54 (yb_6.1.map av))),(47,(.l 3 (y3.Params.map (I)))),(48,(I (y3.Params.length:Int))),(49,(I (v.1:Int)))],[],ad (ad (ad hp k0 ((((cg c0).set 0 (.p k1 0)).set 9 (.o 54 (v.2.map av))).set 11 (.p k2 0))) k1 (aa c1)) k2 (ar c2)⟩
abbrev vk(dp:Nat)(hp:HP)(k0:Key)(k1:Key)(k2:Key)(c0:ak)(c1:Runner)(c2:aw)(y3:Func)(yb_6:((List Level)×Nat×Bool))(x:(Nat×Bool×(List Level))):aR×St:=((.ex 2),⟨[(0,(.p k0 0)),(6,(.o 54 (yb_6.1.map av))),(47,(.l 3 (y3.Params.map (I)))),(48,(I (y3.Params.length:Int))),(49,(I (x.1:Int))),(50,(.b x.2.1))],[],ad (ad (ad hp k0 ((((cg c0).set 0 (.p k1 0)).set 9 (.o 54 (x.2.2.map av))).set 11 (.p k2 0))) k1 (aa c1)) k2 (ar c2)⟩)
theorem uG(hk_k0:k0.dp<dp)(k1:Key)(hk_k1:k1.dp<dp)(k2:Key)(hk_k2:k2.dp<dp)(hn_k0_k1:k0≠k1)(hn_k0_k2:k0≠k2)(hn_k1_k2:k1≠k2)(hz:aN dp hp)(c0:ak)(c1:Runner)(c2:aw)(y3:Func)(yb_6:((List Level)×Nat×Bool))(v1_49:Nat)(v1_k0_9:(List Level))(o:(Nat×(List Level))⊕(Nat×Bool×(List Level)))(h:fZ c0 c1 c2 y3 yb_6 v1_49 v1_k0_9=some o):bI ⟨dp,false⟩ Ke (vj dp hp k0 k1 k2 c0 c1 c2 y3 yb_6) (vk dp hp k0 k1 k2 c0 c1 c2 y3 yb_6) (v1_49,v1_k0_9) o:=
 bP (.or (bt<|ao (.n v1_49)<|xI fun y9=>bf<|ao (.l ((((cg c0).set 0 (.p k1 0)).set 9 (.o 54 (v1_k0_9.map av))).set 11 (.p k2 0)))<|ao (.n v1_49)<|.ex fun (y11:Level)=>ao (.v (.a [(.l 4 (y11.Readers.map AV.b)),(.l 4 (y11.Writers.map AV.b))]))<|ao (.v (.a [(.l 4 (y11.Readers.map AV.b)),(.l 4 (y11.Writers.map AV.b))]))<|xN fun j13=>bf<|ao (.l ((((cg c0).set 0 (.p k1 0)).set 9 (.o 54 (v1_k0_9.map av))).set 11 (.p k2 0)))<|.ex fun (y15:Level)=>ao (.v (.a [(.l 4 (y15.Readers.map AV.b)),(.l 4 (y15.Writers.map AV.b))]))<|bf<|ao (.l ((((cg c0).set 0 (.p k1 0)).set 9 (.o 54 (v1_k0_9.map av))).set 11 (.p k2 0)))<|ao (.v (.a [(.l 4 (y15.Readers.map AV.b)),(.l 4 (y15.Writers.map AV.b))]))<|ao (.l ((v1_k0_9.set j13 y11).map av))<|bf<|ao (.l ((((cg c0).set 0 (.p k1 0)).set 9 (.o 54 (v1_k0_9.map av))).set 11 (.p k2 0)))<|bf<|ao (.h (ad (ad (ad hp k0 ((((cg c0).set 0 (.p k1 0)).set 9 (.o 54 ((v1_k0_9.set j13 y11).map av))).set 11 (.p k2 0))) k1 (aa c1)) k2 (ar c2)))<|ao (.i ((v1_49+1:Nat):Int))<|.nil) (bf<|.nil)) fun L=>cb h (fun h8 h=>ai (decide_eq_true h8)<|ai (rI v1_49)<|aP h fun y9 h10 h=>ai (aD (I) h10)<|lz<|ai (Nat.ne_of_lt hk_k0)<|ai (cE hn_k0_k1 hn_k0_k2:(ad (ad (ad hp k0 ((((cg c0).set 0 (.p k1 0)).set 9 (.o 54 (v1_k0_9.map av))).set 11 (.p k2 0))) k1 (aa c1)) k2 (ar c2)) k0=some ((((cg c0).set 0 (.p k1 0)).set 9 (.o 54 (v1_k0_9.map av))).set 11 (.p k2 0)))<|lz<|ai (rI v1_49)<|aP h fun y11 h12 h=>ai (aD av h12)<|ai tt<|ai (aD av h12)<|ai tt<|eN h fun j13 h14 h=>ai h14<|ai (Nat.ne_of_lt hk_k0)<|ai (cE hn_k0_k1 hn_k0_k2:(ad (ad (ad hp k0 ((((cg c0).set 0 (.p k1 0)).set 9 (.o 54 (v1_k0_9.map av))).set 11 (.p k2 0))) k1 (aa c1)) k2 (ar c2)) k0=some ((((cg c0).set 0 (.p k1 0)).set 9 (.o 54 (v1_k0_9.map av))).set 11 (.p k2 0)))<|aP h fun y15 h16 h=>ai (aD av h16)<|ai ff<|ai (Nat.ne_of_lt hk_k0)<|ai (cE hn_k0_k1 hn_k0_k2:(ad (ad (ad hp k0 ((((cg c0).set 0 (.p k1 0)).set 9 (.o 54 (v1_k0_9.map av))).set 11 (.p k2 0))) k1 (aa c1)) k2 (ar c2)) k0=some ((((cg c0).set 0 (.p k1 0)).set 9 (.o 54 (v1_k0_9.map av))).set 11 (.p k2 0)))<|ai (aD av h16)<|ai (map_set .. : (v1_k0_9.map av).set j13 (.a [(.l 4 (y11.Readers.map AV.b)),(.l 4 (y11.Writers.map AV.b))])=(v1_k0_9.set j13 y11).map av)<|ai (Nat.ne_of_lt hk_k0)<|ai (cE hn_k0_k1 hn_k0_k2:(ad (ad (ad hp k0 ((((cg c0).set 0 (.p k1 0)).set 9 (.o 54 (v1_k0_9.map av))).set 11 (.p k2 0))) k1 (aa c1)) k2 (ar c2)) k0=some ((((cg c0).set 0 (.p k1 0)).set 9 (.o 54 (v1_k0_9.map av))).set 11 (.p k2 0)))<|ai (Nat.ne_of_lt hk_k0)<|ai (bU (Ne.symm hn_k0_k2) (bU (Ne.symm hn_k0_k1) (bh ..)):ad (ad (ad (ad hp k0 ((((cg c0).set 0 (.p k1 0)).set 9 (.o 54 (v1_k0_9.map av))).set 11 (.p k2 0))) k1 (aa c1)) k2 (ar c2)) k0 ((((cg c0).set 0 (.p k1 0)).set 9 (.o 54 ((v1_k0_9.set j13 y11).map av))).set 11 (.p k2 0))=ad (ad (ad hp k0 ((((cg c0).set 0 (.p k1 0)).set 9 (.o 54 ((v1_k0_9.set j13 y11).map av))).set 11 (.p k2 0))) k1 (aa c1)) k2 (ar c2))<|aS h fun w17 h=>ai w17<|L h) (fun h8 h=>ai (decide_eq_false h8)<|L h)
abbrev xc(dp:Nat)(hp:HP)(k0:Key)(k1:Key)(k2:Key)(c0:ak)(c1:Runner)(c2:aw)(a0:Stmt)(r:(Bool×ak)):aW×HP:=(.ret (.b r.1),aB hp k0 k1 k2 r.2 c1 c2)
def ir:Option (Bool×ak):=
 (cX a0.Other).bind fun (j1:Nat)=>
 (c0.p.Funcs[j1]?).bind fun (y3:Func)=>
 (lp (fun v=>fY c0 c1 c2 a0 y3 v.1 v.2) (([]:List Level),0)).bind fun (x5:(Unit⊕((List Level)×Nat×Bool)))=>match x5 with
 | .inl ya_6=>
  some (false,c0)
 | .inr yb_6=>
  (lp (fun v=>fZ c0 c1 c2 y3 yb_6 v.1 v.2) (0,c0.vars)).bind fun (x8:(Nat×Bool×(List Level)))=>
  some (true,(⟨(),c0.p,x8.2.2,c0.places,()⟩:ak))
theorem uH(hk_k0:k0.dp<dp)(k1:Key)(hk_k1:k1.dp<dp)(k2:Key)(hk_k2:k2.dp<dp)(hn_k0_k1:k0≠k1)(hn_k0_k2:k0≠k2)(hn_k1_k2:k1≠k2)(hz:aN dp hp)(c0:ak)(c1:Runner)(c2:aw)(a0:Stmt)(r:(Bool×ak))(h:ir c0 c1 c2 a0=some r):call G Ω0 ⟨dp,false⟩ 141 [(.p k0 0),(.a (af a0))] (aB hp k0 k1 k2 c0 c1 c2)=some (xc dp hp k0 k1 k2 c0 c1 c2 a0 r):=
 aK ZF (bf<|ao (.l (bL k1 k2 c0))<|bt<|xN fun j1=>.ex fun (y3:Func)=>ao (.v (.a (cD y3)))<|bt<|ao (.i (a0.Args.length:Int))<|.or (.ex fun (ya_6:Unit)=>ao (.lp .ret ⟨[(4,(.b false))],[],aB hp k0 k1 k2 c0 c1 c2⟩)<|.nil) (.ex fun (yb_6:((List Level)×Nat×Bool))=>ao (.lp (.ex 0) ⟨[(0,(.p k0 0)),(5,(.l 3 (y3.Params.map (I)))),(6,(.o 54 (yb_6.1.map av))),(22,(.l 86 (a0.Args.map aT))),(23,(I (a0.Args.length:Int))),(24,(I (yb_6.2.1:Int))),(25,(.b yb_6.2.2))],[],aB hp k0 k1 k2 c0 c1 c2⟩)<|ao (.i (y3.Params.length:Int))<|.ex fun (x8:(Nat×Bool×(List Level)))=>ao (.lp (.ex 2) ⟨[(0,(.p k0 0)),(6,(.o 54 (yb_6.1.map av))),(47,(.l 3 (y3.Params.map (I)))),(48,(I (y3.Params.length:Int))),(49,(I (x8.1:Int))),(50,(.b x8.2.1))],[],ad (ad (ad hp k0 ((((cg c0).set 0 (.p k1 0)).set 9 (.o 54 (x8.2.2.map av))).set 11 (.p k2 0))) k1 (aa c1)) k2 (ar c2)⟩)<|.nil)) fun L=>ai ((by simp [af,AV.aI,AV.aJ,AV.deep,AV.bn,aj hk_k0,Nat.le_of_lt hk_k0,aj hk_k1,Nat.le_of_lt hk_k1,aj hk_k2,Nat.le_of_lt hk_k2]):(((.a (af a0)):AV).deep dp&&(([(0,(.p k0 0)),(1,(.a (af a0)))]:List (Nat×AV)).all (fun y=>y.2.aI ⟨dp,3⟩)&&([]:List (Nat×List AV)).all (fun y=>AV.aJ ⟨dp,3⟩ y.2)))=true)<|oT<|ai (Nat.ne_of_lt hk_k0)<|ai (cE hn_k0_k1 hn_k0_k2:(aB hp k0 k1 k2 c0 c1 c2) k0=some (bL k1 k2 c0))<|cF<|ai (rN dp)<|ai tt<|eN h fun j1 h2 h=>ai h2<|aP h fun y3 h4 h=>ai (aD ba h4)<|ai (rN dp)<|ai (aL aT a0.Args)<|cN h (ef (fun v=>uF dp hp k0 hk_k0 k1 hk_k1 k2 hk_k2 hn_k0_k1 hn_k0_k2 hn_k1_k2 hz c0 c1 c2 a0 y3 v.1 v.2) (([]:List Level),0)) (fun ya_6 h=>L h) (fun yb_6 h=>ai (aL (I) y3.Params)<|aQ h (ef (fun v=>uG dp hp k0 hk_k0 k1 hk_k1 k2 hk_k2 hn_k0_k1 hn_k0_k2 hn_k1_k2 hz c0 c1 c2 y3 yb_6 v.1 v.2) (0,c0.vars)) fun x8 h=>L h)
end
section
variable (dp:Nat)(hp:HP)(k0:Key)(c0:ak)(c1:Runner)(c2:aw)(a0:Int)(a1:Level)
abbrev vl(dp:Nat)(hp:HP)(k0:Key)(k1:Key)(k2:Key)(c0:ak)(c1:Runner)(c2:aw)(a0:Int)(r:(Bool×Runner)):aW×HP:=(.ret (.b r.1),aB hp k0 k1 k2 c0 r.2 c2)
def eK(c0:ak)(c1:Runner)(c2:aw)(a0:Int):Option (Bool×Runner):=
 some (false,(⟨c1.p,c1.ins,c1.fuel,c1.first,(⟨c1.aA.Events,c1.aA.Vars,c1.aA.Taken,c1.aA.Steps,3,a0⟩:RunT)⟩:Runner))
theorem iE(hk_k0:k0.dp<dp)(k1:Key)(hk_k1:k1.dp<dp)(k2:Key)(hk_k2:k2.dp<dp)(hn_k0_k1:k0≠k1)(hn_k0_k2:k0≠k2)(hn_k1_k2:k1≠k2)(hz:aN dp hp)(c0:ak)(c1:Runner)(c2:aw)(a0:Int)(r:(Bool×Runner))(h:eK c0 c1 c2 a0=some r):call G Ω0 ⟨dp,false⟩ 106 [(.p k0 0),(I a0)] (aB hp k0 k1 k2 c0 c1 c2)=some (vl dp hp k0 k1 k2 c0 c1 c2 a0 r):=
 aK Zn (bf<|ao (.l (bL k1 k2 c0))<|bf<|ao (.l (bL k1 k2 c0))<|bf<|ao (.l (aa c1))<|bf<|ao (.h (ad (ad (ad hp k0 (bL k1 k2 c0)) k1 ((aa c1).set 15 (I 3))) k2 (ar c2)))<|bf<|ao (.l ((aa c1).set 15 (I 3)))<|bf<|ao (.h (ad (ad (ad hp k0 (bL k1 k2 c0)) k1 (((aa c1).set 15 (I 3)).set 16 (I a0))) k2 (ar c2)))<|.nil) fun L=>lz<|ai (Nat.ne_of_lt hk_k0)<|ai (cE hn_k0_k1 hn_k0_k2:(aB hp k0 k1 k2 c0 c1 c2) k0=some (bL k1 k2 c0))<|lz<|ai (Nat.ne_of_lt hk_k0)<|ai (cE hn_k0_k1 hn_k0_k2:(aB hp k0 k1 k2 c0 c1 c2) k0=some (bL k1 k2 c0))<|ai tt<|ai tt<|ai tt<|ai tt<|ai tt<|ai ff<|ai (Nat.ne_of_lt hk_k1)<|ai (FX hn_k1_k2:(aB hp k0 k1 k2 c0 c1 c2) k1=some (aa c1))<|ai tt<|ai (Nat.ne_of_lt hk_k1)<|ai (bU (Ne.symm hn_k1_k2) (bh ..):ad (aB hp k0 k1 k2 c0 c1 c2) k1 ((aa c1).set 15 (I 3))=ad (ad (ad hp k0 (bL k1 k2 c0)) k1 ((aa c1).set 15 (I 3))) k2 (ar c2))<|ai tt<|ai ff<|ai (Nat.ne_of_lt hk_k1)<|ai (FX hn_k1_k2:(ad (ad (ad hp k0 (bL k1 k2 c0)) k1 ((aa c1).set 15 (I 3))) k2 (ar c2)) k1=some ((aa c1).set 15 (I 3)))<|ai tt<|ai (Nat.ne_of_lt hk_k1)<|ai (bU (Ne.symm hn_k1_k2) (bh ..):ad (ad (ad (ad hp k0 (bL k1 k2 c0)) k1 ((aa c1).set 15 (I 3))) k2 (ar c2)) k1 (((aa c1).set 15 (I 3)).set 16 (I a0))=ad (ad (ad hp k0 (bL k1 k2 c0)) k1 (((aa c1).set 15 (I 3)).set 16 (I a0))) k2 (ar c2))<|L h
abbrev yL(dp:Nat)(hp:HP)(k0:Key)(k1:Key)(k2:Key)(c0:ak)(c1:Runner)(c2:aw)(a0:Int)(a1:Level)(r:(Bool×ak)):aW×HP:=(.ret (.b r.1),aB hp k0 k1 k2 r.2 c1 c2)
def dT:Option (Bool×ak):=
 (gj c0 c1 c2 a0 a1).bind fun (r1:Bool)=>
 if r1=true then
  (cX a0).bind fun (j4:Nat)=>
  (c0.vars[j4]?).bind fun (y6:Level)=>
  some (true,(⟨(),c0.p,c0.vars.set j4 a1,c0.places,()⟩:ak))
 else
  some (false,c0)
theorem gC(hk_k0:k0.dp<dp)(k1:Key)(hk_k1:k1.dp<dp)(k2:Key)(hk_k2:k2.dp<dp)(hn_k0_k1:k0≠k1)(hn_k0_k2:k0≠k2)(hn_k1_k2:k1≠k2)(hz:aN dp hp)(c0:ak)(c1:Runner)(c2:aw)(a0:Int)(a1:Level)(r:(Bool×ak))(h:dT c0 c1 c2 a0 a1=some r):call G Ω0 ⟨dp,false⟩ 143 [(.p k0 0),(I a0),(.a [(.l 4 (a1.Readers.map AV.b)),(.l 4 (a1.Writers.map AV.b))])] (aB hp k0 k1 k2 c0 c1 c2)=some (yL dp hp k0 k1 k2 c0 c1 c2 a0 a1 r):=
 aK ZH (bt<|xB fun r1=>ao (.h (boxes dp [(5,[(.l 4 (a1.Readers.map AV.b)),(.l 4 (a1.Writers.map AV.b))])] (aB hp k0 k1 k2 c0 c1 c2)))<|.or (bf<|bf<|ao (.l (bL k1 k2 c0))<|bt<|xN fun j4=>bf<|ao (.l (bL k1 k2 c0))<|.ex fun (y6:Level)=>ao (.v (.a [(.l 4 (y6.Readers.map AV.b)),(.l 4 (y6.Writers.map AV.b))]))<|bf<|ao (.l (bL k1 k2 c0))<|ao (.v (.a [(.l 4 (y6.Readers.map AV.b)),(.l 4 (y6.Writers.map AV.b))]))<|ao (.l ((c0.vars.set j4 a1).map av))<|bf<|ao (.l (bL k1 k2 c0))<|bf<|ao (.h (ad (ad (ad hp k0 ((((cg c0).set 0 (.p k1 0)).set 9 (.o 54 ((c0.vars.set j4 a1).map av))).set 11 (.p k2 0))) k1 (aa c1)) k2 (ar c2)))<|.nil) (bt<|.nil)) fun L=>ai ((by simp [AV.aI,AV.aJ,AV.deep,AV.bn,aj hk_k0,Nat.le_of_lt hk_k0,aj hk_k1,Nat.le_of_lt hk_k1,aj hk_k2,Nat.le_of_lt hk_k2]):(((.a [(.l 4 (a1.Readers.map AV.b)),(.l 4 (a1.Writers.map AV.b))]):AV).deep dp&&(([(0,(.p k0 0)),(1,(I a0)),(2,(.a [(.l 4 (a1.Readers.map AV.b)),(.l 4 (a1.Writers.map AV.b))]))]:List (Nat×AV)).all (fun y=>y.2.aI ⟨dp,5⟩)&&([]:List (Nat×List AV)).all (fun y=>AV.aJ ⟨dp,5⟩ y.2)))=true)<|ai (rN dp)<|ai tt<|aP h fun r1 ek2 h=>have ek2:=iH hk_k0 hk_k1 hk_k2 hn_k0_k1 hn_k0_k2 hn_k1_k2 (pG (dp+1) (boxes dp [(5,[(.l 4 (a1.Readers.map AV.b)),(.l 4 (a1.Writers.map AV.b))])] (aB hp k0 k1 k2 c0 c1 c2)) k0 (Nat.lt_succ_of_lt hk_k0) k1 (Nat.lt_succ_of_lt hk_k1) k2 (Nat.lt_succ_of_lt hk_k2) (hn_k0_k1) (hn_k0_k2) (hn_k1_k2) (az (ab hk_k2 (ab hk_k1 (ab hk_k0 (hz))))) c0 c1 c2 a0 a1 _ ek2);ai ek2<|a8 h (fun h3 h=>A8 (congrArg not h3)<|ai (Nat.ne_of_lt hk_k0)<|ai (cE hn_k0_k1 hn_k0_k2:(aB hp k0 k1 k2 c0 c1 c2) k0=some (bL k1 k2 c0))<|cF<|ai (rN dp)<|ai tt<|eN h fun j4 h5 h=>ai h5<|ai (Nat.ne_of_lt hk_k0)<|ai (cE hn_k0_k1 hn_k0_k2:(aB hp k0 k1 k2 c0 c1 c2) k0=some (bL k1 k2 c0))<|aP h fun y6 h7 h=>ai (aD av h7)<|ai ff<|ai (Nat.ne_of_lt hk_k0)<|ai (cE hn_k0_k1 hn_k0_k2:(aB hp k0 k1 k2 c0 c1 c2) k0=some (bL k1 k2 c0))<|ai (aD av h7)<|ai (map_set .. : (c0.vars.map av).set j4 (.a [(.l 4 (a1.Readers.map AV.b)),(.l 4 (a1.Writers.map AV.b))])=(c0.vars.set j4 a1).map av)<|ai (Nat.ne_of_lt hk_k0)<|ai (cE hn_k0_k1 hn_k0_k2:(aB hp k0 k1 k2 c0 c1 c2) k0=some (bL k1 k2 c0))<|ai (Nat.ne_of_lt hk_k0)<|ai (bU (Ne.symm hn_k0_k2) (bU (Ne.symm hn_k0_k1) (bh ..)):ad (aB hp k0 k1 k2 c0 c1 c2) k0 ((((cg c0).set 0 (.p k1 0)).set 9 (.o 54 ((c0.vars.set j4 a1).map av))).set 11 (.p k2 0))=ad (ad (ad hp k0 ((((cg c0).set 0 (.p k1 0)).set 9 (.o 54 ((c0.vars.set j4 a1).map av))).set 11 (.p k2 0))) k1 (aa c1)) k2 (ar c2))<|L h) (fun h3 h=>ai (congrArg not h3)<|L h)
end
section
variable (dp:Nat)(hp:HP)(k0:Key)(c0:ak)(c1:Runner)(c2:aw)(a0:aE)
abbrev xV(dp:Nat)(hp:HP)(k0:Key)(k1:Key)(k2:Key)(c0:ak)(c1:Runner)(c2:aw)(a0:aE)(r:ak):aW×HP:=(.ret (.tp []),aB hp k0 k1 k2 r c1 c2)
def fJ:Option ak:=
 (dj c0 c1 c2 a0).bind fun (r1:Level)=>
 if c0.places.length + [r1].length≤1000000000 then
  some (⟨(),c0.p,c0.vars,c0.places++[r1],()⟩:ak)
 else none
theorem oQ(hk_k0:k0.dp<dp)(k1:Key)(hk_k1:k1.dp<dp)(k2:Key)(hk_k2:k2.dp<dp)(hn_k0_k1:k0≠k1)(hn_k0_k2:k0≠k2)(hn_k1_k2:k1≠k2)(hz:aN dp hp)(c0:ak)(c1:Runner)(c2:aw)(a0:aE)(r:ak)(h:fJ c0 c1 c2 a0=some r):call G Ω0 ⟨dp,false⟩ 146 [(.p k0 0),(.a (bF a0))] (aB hp k0 k1 k2 c0 c1 c2)=some (xV dp hp k0 k1 k2 c0 c1 c2 a0 r):=
 aK ZK (bf<|ao (.l (bL k1 k2 c0))<|bt<|.ex fun (r1:Level)=>ao (.v (.a [(.l 4 (r1.Readers.map AV.b)),(.l 4 (r1.Writers.map AV.b))]))<|ao (.h (boxes dp [] (aB hp k0 k1 k2 c0 c1 c2)))<|ao (.l ([r1].map av))<|bf<|ao (.l (bL k1 k2 c0))<|bf<|ao (.l (bL k1 k2 c0))<|bf<|ao (.h (ad (ad (ad hp k0 ((((ez c0).set 0 (.p k1 0)).set 10 .u).set 11 (.p k2 0))) k1 (aa c1)) k2 (ar c2)))<|ao (.l ((c0.places++[r1]).map av))<|bf<|ao (.l ((((ez c0).set 0 (.p k1 0)).set 10 .u).set 11 (.p k2 0)))<|bf<|ao (.h (ad (ad (ad hp k0 ((((ez c0).set 0 (.p k1 0)).set 10 (.o 54 ((c0.places++[r1]).map av))).set 11 (.p k2 0))) k1 (aa c1)) k2 (ar c2)))<|.nil) fun L=>ai ((by simp [bF,AV.aI,AV.aJ,AV.deep,AV.bn,aj hk_k0,Nat.le_of_lt hk_k0,aj hk_k1,Nat.le_of_lt hk_k1,aj hk_k2,Nat.le_of_lt hk_k2]):(((.a (bF a0)):AV).deep dp&&(([(0,(.p k0 0)),(1,(.a (bF a0)))]:List (Nat×AV)).all (fun y=>y.2.aI ⟨dp,3⟩)&&([]:List (Nat×List AV)).all (fun y=>AV.aJ ⟨dp,3⟩ y.2)))=true)<|ai ((by simp [bF,eG,aC,AV.aI,AV.aJ,AV.bO,aj hk_k0,aj hk_k1,aj hk_k2]):(([12,13]:List Nat).all (eG dp (⟨[(0,(.p k0 0)),(3,(.p ⟨dp,3⟩ 0))],[(3,(bF a0))],H0⟩:St))&&true)=true)<|ai ((by simp [a6,okB,cu,AV.aI,AV.aJ,AV.bO,aj hk_k0,aj hk_k1,aj hk_k2]):(a6 dp [12,13] (.p k0 0)&&okB dp [] (.p k0 0))=true)<|ai ((by simp [a6,okB,cu,AV.aI,AV.aJ,AV.bO,aj hk_k0,aj hk_k1,aj hk_k2]):(a6 dp [12,13] (.p k0 0)&&okB dp [] (.p k0 0))=true)<|ai ((by simp [a6,okB,cu,AV.aI,AV.aJ,AV.bO,aj hk_k0,aj hk_k1,aj hk_k2]):(a6 dp [12,13] (.p k0 0)&&okB dp [] (.p k0 0))=true)<|ai ((by simp [a6,okB,cu,AV.aI,AV.aJ,AV.bO,aj hk_k0,aj hk_k1,aj hk_k2]):(a6 dp [12,13] (.p k0 10)&&okB dp [] (.p k0 10))=true)<|ai (Nat.ne_of_lt hk_k0)<|ai (cE hn_k0_k1 hn_k0_k2:(aB hp k0 k1 k2 c0 c1 c2) k0=some (bL k1 k2 c0))<|ai ((by simp [a6,okB,cu,AV.aI,AV.aJ,AV.bO,aj hk_k0,aj hk_k1,aj hk_k2]):(a6 dp [12,13] (.r (.c k0 10))&&okB dp [] (.r (.c k0 10)))=true)<|ai ((by simp [a6,okB,cu,AV.aI,AV.aJ,AV.bO,aj hk_k0,aj hk_k1,aj hk_k2]):(a6 dp [12,13] (.p k0 0)&&okB dp [] (.p k0 0))=true)<|ai (rN dp)<|cF<|aP h fun r1 ek2 h=>have ek2:=iH hk_k0 hk_k1 hk_k2 hn_k0_k1 hn_k0_k2 hn_k1_k2 (eg (dp+1) (boxes dp [] (aB hp k0 k1 k2 c0 c1 c2)) k0 (Nat.lt_succ_of_lt hk_k0) k1 (Nat.lt_succ_of_lt hk_k1) k2 (Nat.lt_succ_of_lt hk_k2) (hn_k0_k1) (hn_k0_k2) (hn_k1_k2) (az (ab hk_k2 (ab hk_k1 (ab hk_k0 (hz))))) c0 c1 c2 a0 _ ek2);ai ek2<|ai tt<|ai (rfl:[(.a [(.l 4 (r1.Readers.map AV.b)),(.l 4 (r1.Writers.map AV.b))])]=[r1].map av)<|ai tt<|ai ff<|ai (Nat.ne_of_lt hk_k0)<|ai (cE hn_k0_k1 hn_k0_k2:(aB hp k0 k1 k2 c0 c1 c2) k0=some (bL k1 k2 c0))<|ai (Nat.ne_of_lt hk_k0)<|ai (cE hn_k0_k1 hn_k0_k2:(aB hp k0 k1 k2 c0 c1 c2) k0=some (bL k1 k2 c0))<|ai (Nat.ne_of_lt hk_k0)<|ai (bU (Ne.symm hn_k0_k2) (bU (Ne.symm hn_k0_k1) (bh ..)):ad (aB hp k0 k1 k2 c0 c1 c2) k0 ((((ez c0).set 0 (.p k1 0)).set 10 .u).set 11 (.p k2 0))=ad (ad (ad hp k0 ((((ez c0).set 0 (.p k1 0)).set 10 .u).set 11 (.p k2 0))) k1 (aa c1)) k2 (ar c2))<|aS h fun h3 h=>ai ((gi av (n:=2) (fun _=>rfl) [r1]):([r1].map av).all (fun e=>e.nc==2)=true)<|ai ((lh h3 (by decide)):((c0.places.map av).length+([r1].map av).length)*48≤140737488355328)<|ai ((lj h3):(c0.places.map av).length+([r1].map av).length≤maxLen)<|ai (List.map_append.symm:c0.places.map av++[r1].map av=(c0.places++[r1]).map av)<|ai tt<|ai ff<|ai (Nat.ne_of_lt hk_k0)<|ai (cE hn_k0_k1 hn_k0_k2:(ad (ad (ad hp k0 ((((ez c0).set 0 (.p k1 0)).set 10 .u).set 11 (.p k2 0))) k1 (aa c1)) k2 (ar c2)) k0=some ((((ez c0).set 0 (.p k1 0)).set 10 .u).set 11 (.p k2 0)))<|ai (Nat.ne_of_lt hk_k0)<|ai (bU (Ne.symm hn_k0_k2) (bU (Ne.symm hn_k0_k1) (bh ..)):ad (ad (ad (ad hp k0 ((((ez c0).set 0 (.p k1 0)).set 10 .u).set 11 (.p k2 0))) k1 (aa c1)) k2 (ar c2)) k0 ((((ez c0).set 0 (.p k1 0)).set 10 (.o 54 ((c0.places++[r1]).map av))).set 11 (.p k2 0))=ad (ad (ad hp k0 ((((ez c0).set 0 (.p k1 0)).set 10 (.o 54 ((c0.places++[r1]).map av))).set 11 (.p k2 0))) k1 (aa c1)) k2 (ar c2))<|L h
end
section
variable (c0:ak)(c1:Runner)(c2:aw)(a0:Stmt)(dp:Nat)(hp:HP)(k0:Key)
def dX(w1_1:(List Bool))(w1_2:(List Bool)):Option (Bool×ak):=
 (dT c0 c1 c2 a0.Var (⟨w1_1,w1_2⟩:Level)).bind fun (r17:(Bool×ak))=>
 some (r17.1,r17.2)
abbrev tr(dp:Nat)(hp:HP)(k0:Key)(k1:Key)(k2:Key)(c0:ak)(c1:Runner)(c2:aw)(a0:Stmt)(w1_1:(List Bool))(w1_2:(List Bool))(x:(Bool×ak)):aR×St:=(.ret,⟨[(4,(.b x.1))],[],aB hp k0 k1 k2 x.2 c1 c2⟩)
theorem mE(hk_k0:k0.dp<dp)(k1:Key)(hk_k1:k1.dp<dp)(k2:Key)(hk_k2:k2.dp<dp)(hn_k0_k1:k0≠k1)(hn_k0_k2:k0≠k2)(hn_k1_k2:k1≠k2)(hz:aN dp hp)(c0:ak)(c1:Runner)(c2:aw)(a0:Stmt)(w1_1:(List Bool))(w1_2:(List Bool))(x:(Bool×ak))(h:dX c0 c1 c2 a0 w1_1 w1_2=some x):run G Ω0 ⟨dp,false⟩ Kh ⟨[(0,(.p k0 0)),(3,(.p ⟨dp,3⟩ 0)),(6,(.p ⟨dp,6⟩ 0))],[(3,(af a0)),(6,[(.l 4 (w1_1.map AV.b)),(.l 4 (w1_2.map AV.b))])],aB hp k0 k1 k2 c0 c1 c2⟩=some (tr dp hp k0 k1 k2 c0 c1 c2 a0 w1_1 w1_2 x):=
 tc (du<|.ex fun (r17:(Bool×ak))=>ao (.v (.b r17.1))<|ao (.h (boxes dp [(3,(af a0)),(6,[(.l 4 (w1_1.map AV.b)),(.l 4 (w1_2.map AV.b))])] (aB hp k0 k1 k2 r17.2 c1 c2)))<|ao (.bx [(3,(af a0)),(6,[(.l 4 (w1_1.map AV.b)),(.l 4 (w1_2.map AV.b))])])<|ao (.h (aB hp k0 k1 k2 r17.2 c1 c2))<|.nil) fun L=>ai (rN dp)<|ai (rN dp)<|eY<|aP h fun r17 ek18 h=>have ek18:=iH hk_k0 hk_k1 hk_k2 hn_k0_k1 hn_k0_k2 hn_k1_k2 (gC (dp+1) (boxes dp [(3,(af a0)),(6,[(.l 4 (w1_1.map AV.b)),(.l 4 (w1_2.map AV.b))])] (aB hp k0 k1 k2 c0 c1 c2)) k0 (Nat.lt_succ_of_lt hk_k0) k1 (Nat.lt_succ_of_lt hk_k1) k2 (Nat.lt_succ_of_lt hk_k2) (hn_k0_k1) (hn_k0_k2) (hn_k1_k2) (az (ab hk_k2 (ab hk_k1 (ab hk_k0 (hz))))) c0 c1 c2 a0.Var (⟨w1_1,w1_2⟩:Level) _ ek18);ai ek18<|ai (cL ek18 (by kernel_rfl) (by kernel_rfl))<|ai (cM ek18 (ab hk_k2 (ab hk_k1 (ab hk_k0 (hz)))))<|L h
abbrev wi(dp:Nat)(hp:HP)(k0:Key)(k1:Key)(k2:Key)(c0:ak)(c1:Runner)(c2:aw)(a0:Stmt)(r:(Bool×ak)):aW×HP:=(.ret (.b r.1),aB hp k0 k1 k2 r.2 c1 c2)
def gD:Option (Bool×ak):=
 (cX a0.Var).bind fun (j1:Nat)=>
 (c0.p.Vars[j1]?).bind fun (y3:Var)=>
 if y3.Known=true then
  (e6 c2 a0).bind fun (r6:Bool)=>
  if r6=true then
   some (false,c0)
  else
   (e5 c2 a0).bind fun (r9:Bool)=>
   if r9=true then
    some (false,c0)
   else
    (ml c0.p.ah y3.Label).bind fun (r12:Level)=>
    (dj c0 c1 c2 a0.Expr).bind fun (r14:Level)=>
    if (a0.Kind==5)=true then
     (dX c0 c1 c2 a0 r12.Readers r14.Writers).bind fun (x17:(Bool×ak))=>
     some (x17.1,x17.2)
    else
     (dX c0 c1 c2 a0 r14.Readers r12.Writers).bind fun (x17:(Bool×ak))=>
     some (x17.1,x17.2)
 else
  some (false,c0)
theorem tu(hk_k0:k0.dp<dp)(k1:Key)(hk_k1:k1.dp<dp)(k2:Key)(hk_k2:k2.dp<dp)(hn_k0_k1:k0≠k1)(hn_k0_k2:k0≠k2)(hn_k1_k2:k1≠k2)(hz:aN dp hp)(c0:ak)(c1:Runner)(c2:aw)(a0:Stmt)(r:(Bool×ak))(h:gD c0 c1 c2 a0=some r):call G Ω0 ⟨dp,false⟩ 150 [(.p k0 0),(.a (af a0))] (aB hp k0 k1 k2 c0 c1 c2)=some (wi dp hp k0 k1 k2 c0 c1 c2 a0 r):=
 aK ZO (bf<|ao (.l (bL k1 k2 c0))<|bt<|xN fun j1=>.ex fun (y3:Var)=>ao (.v (.a (lA y3)))<|dE<|.or (Ii<|ao (.l (bL k1 k2 c0))<|dE<|xB fun r6=>ao (.h (boxes dp [(3,(af a0)),(5,(lA y3))] (aB hp k0 k1 k2 c0 c1 c2)))<|ao (.bx [(3,(af a0)),(5,(lA y3))])<|ao (.h (aB hp k0 k1 k2 c0 c1 c2))<|bf<|.or (bf<|bf<|bf<|bf<|bf<|bf<|bt<|bt<|.nil) (Ii<|ao (.l (bL k1 k2 c0))<|dE<|xB fun r9=>ao (.h (boxes dp [(3,(af a0)),(5,(lA y3))] (aB hp k0 k1 k2 c0 c1 c2)))<|ao (.bx [(3,(af a0)),(5,(lA y3))])<|ao (.h (aB hp k0 k1 k2 c0 c1 c2))<|bf<|oN (bf<|ao (.l (bL k1 k2 c0))<|bt<|.ex fun (r12:Level)=>ao (.v (.a [(.l 4 (r12.Readers.map AV.b)),(.l 4 (r12.Writers.map AV.b))]))<|bt<|.ex fun (r14:Level)=>ao (.v (.a [(.l 4 (r14.Readers.map AV.b)),(.l 4 (r14.Writers.map AV.b))]))<|ao (.h (boxes dp [] (aB hp k0 k1 k2 c0 c1 c2)))<|qE<|.or (tV<|.fb<|.ex fun (x17:(Bool×ak))=>ao (.fr .ret ⟨[(4,(.b x17.1))],[],aB hp k0 k1 k2 x17.2 c1 c2⟩)<|.nil) (bf<|bt<|bt<|bt<|.fb<|.ex fun (x17:(Bool×ak))=>ao (.fr .ret ⟨[(4,(.b x17.1))],[],aB hp k0 k1 k2 x17.2 c1 c2⟩)<|.nil)))) (bf<|bf<|bf<|bf<|bf<|bf<|bt<|bf<|bf<|bf<|bf<|bf<|bf<|bt<|bt<|.nil)) fun L=>ai ((by simp [af,AV.aI,AV.aJ,AV.deep,AV.bn,aj hk_k0,Nat.le_of_lt hk_k0,aj hk_k1,Nat.le_of_lt hk_k1,aj hk_k2,Nat.le_of_lt hk_k2]):(((.a (af a0)):AV).deep dp&&(([(0,(.p k0 0)),(1,(.a (af a0)))]:List (Nat×AV)).all (fun y=>y.2.aI ⟨dp,3⟩)&&([]:List (Nat×List AV)).all (fun y=>AV.aJ ⟨dp,3⟩ y.2)))=true)<|ai ((by simp [af,eG,aC,AV.aI,AV.aJ,AV.bO,aj hk_k0,aj hk_k1,aj hk_k2]):(([5]:List Nat).all (eG dp (⟨[(0,(.p k0 0)),(3,(.p ⟨dp,3⟩ 0))],[(3,(af a0))],H0⟩:St))&&true)=true)<|ai ((by simp [a6,okB,cu,AV.aI,AV.aJ,AV.bO,aj hk_k0,aj hk_k1,aj hk_k2]):(a6 dp [5] (.p k0 0)&&okB dp [] (.p k0 0))=true)<|ai ((by simp [a6,okB,cu,AV.aI,AV.aJ,AV.bO,aj hk_k0,aj hk_k1,aj hk_k2]):(a6 dp [5] (.p k0 0)&&okB dp [] (.p k0 0))=true)<|ai ((by simp [a6,okB,cu,AV.aI,AV.aJ,AV.bO,aj hk_k0,aj hk_k1,aj hk_k2]):(a6 dp [5] (.p k0 1)&&okB dp [] (.p k0 1))=true)<|ai ((by simp [a6,okB,cu,AV.aI,AV.aJ,AV.bO,aj hk_k0,aj hk_k1,aj hk_k2]):(a6 dp [5] (.p k0 6)&&okB dp [] (.p k0 6))=true)<|ai (Nat.ne_of_lt hk_k0)<|ai (cE hn_k0_k1 hn_k0_k2:(aB hp k0 k1 k2 c0 c1 c2) k0=some (bL k1 k2 c0))<|ai tt<|ai ((by simp [a6,okB,cu,AV.aI,AV.aJ,AV.bO,aj hk_k0,aj hk_k1,aj hk_k2]):(a6 dp [5] (.p ⟨dp,3⟩ 1)&&okB dp [] (.p ⟨dp,3⟩ 1))=true)<|ai (rN dp)<|ai tt<|eN h fun j1 h2 h=>ai h2<|aP h fun y3 h4 h=>ai (aD bz h4)<|ai tt<|ai tt<|ai tt<|ai tt<|ai ff<|ai (rN dp)<|ai tt<|ai (rN dp)<|cF<|ai (rN dp)<|sf<|a8 h (fun h5 h=>ai (g0 (congrArg not h5))<|ai tt<|ai (g0 (congrArg not h5))<|ai tt<|ai (g0 (congrArg not h5))<|ai tt<|ai (g0 (congrArg not h5))<|ai (Nat.ne_of_lt hk_k0)<|ai (cE hn_k0_k1 hn_k0_k2:(aB hp k0 k1 k2 c0 c1 c2) k0=some (bL k1 k2 c0))<|ai tt<|ai (g0 (congrArg not h5))<|ai (rN dp)<|ai tt<|ai (g0 (congrArg not h5))<|ai ff<|ai tt<|aP h fun r6 ek7 h=>have ek7:call G Ω0 ⟨dp+1,false⟩ 166 [(.p k2 0),(.a (af a0))] (boxes dp [(3,(af a0)),(5,(lA y3))] (aB hp k0 k1 k2 c0 c1 c2))=some (.ret (.b r6),boxes dp [(3,(af a0)),(5,(lA y3))] (aB hp k0 k1 k2 c0 c1 c2)):=cT (bN (hp1:=aB hp k0 k1 k2 c0 c1 c2) (Nat.ne_of_lt hk_k2) (bh ..)) (bN (hp1:=aB hp k0 k1 k2 c0 c1 c2) (Nat.ne_of_lt hk_k2) (bh ..)) (tq (dp+1) (boxes dp [(3,(af a0)),(5,(lA y3))] (aB hp k0 k1 k2 c0 c1 c2)) k2 (Nat.lt_succ_of_lt hk_k2) (az (ab hk_k2 (ab hk_k1 (ab hk_k0 (hz))))) c2 a0 _ ek7);ai ek7<|ai (cL ek7 (by kernel_rfl) (by kernel_rfl))<|ai (cM ek7 (ab hk_k2 (ab hk_k1 (ab hk_k0 (hz)))))<|F1 (congrArg not h5)<|a8 h (fun h8 h=>ai (g0 h8)<|ai (g0 h8)<|ai (g0 h8)<|ai (g0 h8)<|ai (g0 h8)<|ai (g0 h8)<|ai h8<|ai tt<|L h) (fun h8 h=>ai (g0 h8)<|ai tt<|ai (g0 h8)<|ai tt<|ai (g0 h8)<|ai tt<|ai (g0 h8)<|ai (Nat.ne_of_lt hk_k0)<|ai (cE hn_k0_k1 hn_k0_k2:(aB hp k0 k1 k2 c0 c1 c2) k0=some (bL k1 k2 c0))<|ai tt<|ai (g0 h8)<|ai (rN dp)<|ai tt<|ai (g0 h8)<|ai ff<|ai tt<|aP h fun r9 ek10 h=>have ek10:call G Ω0 ⟨dp+1,false⟩ 167 [(.p k2 0),(.a (af a0))] (boxes dp [(3,(af a0)),(5,(lA y3))] (aB hp k0 k1 k2 c0 c1 c2))=some (.ret (.b r9),boxes dp [(3,(af a0)),(5,(lA y3))] (aB hp k0 k1 k2 c0 c1 c2)):=cT (bN (hp1:=aB hp k0 k1 k2 c0 c1 c2) (Nat.ne_of_lt hk_k2) (bh ..)) (bN (hp1:=aB hp k0 k1 k2 c0 c1 c2) (Nat.ne_of_lt hk_k2) (bh ..)) (tn (dp+1) (boxes dp [(3,(af a0)),(5,(lA y3))] (aB hp k0 k1 k2 c0 c1 c2)) k2 (Nat.lt_succ_of_lt hk_k2) (az (ab hk_k2 (ab hk_k1 (ab hk_k0 (hz))))) c2 a0 _ ek10);ai ek10<|ai (cL ek10 (by kernel_rfl) (by kernel_rfl))<|ai (cM ek10 (ab hk_k2 (ab hk_k1 (ab hk_k0 (hz)))))<|ai h8<|a8 h (fun h11 h=>ai h11<|L h) (fun h11 h=>ai h11<|ai ((by simp [af,lA,eG,aC,AV.aI,AV.aJ,AV.bO,aj hk_k0,aj hk_k1,aj hk_k2]):(([6,7]:List Nat).all (eG dp (⟨[(0,(.p k0 0)),(3,(.p ⟨dp,3⟩ 0)),(5,(.p ⟨dp,5⟩ 0))],[(3,(af a0)),(5,(lA y3))],H0⟩:St))&&true)=true)<|ai ((by simp [a6,okB,cu,AV.aI,AV.aJ,AV.bO,aj hk_k0,aj hk_k1,aj hk_k2]):(a6 dp [6,7] (.p k0 0)&&okB dp [] (.p k0 0))=true)<|ai ((by simp [a6,okB,cu,AV.aI,AV.aJ,AV.bO,aj hk_k0,aj hk_k1,aj hk_k2]):(a6 dp [6,7] (.p k0 0)&&okB dp [] (.p k0 0))=true)<|ai ((by simp [a6,okB,cu,AV.aI,AV.aJ,AV.bO,aj hk_k0,aj hk_k1,aj hk_k2]):(a6 dp [6,7] (.p k0 1)&&okB dp [] (.p k0 1))=true)<|ai ((by simp [a6,okB,cu,AV.aI,AV.aJ,AV.bO,aj hk_k0,aj hk_k1,aj hk_k2]):(a6 dp [6,7] (.p k0 1)&&okB dp [] (.p k0 1))=true)<|ai (Nat.ne_of_lt hk_k0)<|ai (cE hn_k0_k1 hn_k0_k2:(aB hp k0 k1 k2 c0 c1 c2) k0=some (bL k1 k2 c0))<|ai tt<|ai ((by simp [a6,okB,cu,AV.aI,AV.aJ,AV.bO,aj hk_k0,aj hk_k1,aj hk_k2]):(a6 dp [6,7] (.p ⟨dp,5⟩ 1)&&okB dp [] (.p ⟨dp,5⟩ 1))=true)<|ai (rN dp)<|ai tt<|aQ h (pS c0.p.ah y3.Label) fun r12 h=>ai tt<|ai ((by simp [a6,okB,cu,AV.aI,AV.aJ,AV.bO,aj hk_k0,aj hk_k1,aj hk_k2]):(a6 dp [6,7] (.p k0 0)&&okB dp [] (.p k0 0))=true)<|ai ((by simp [a6,okB,cu,AV.aI,AV.aJ,AV.bO,aj hk_k0,aj hk_k1,aj hk_k2]):(a6 dp [6,7] (.p ⟨dp,3⟩ 3)&&okB dp [] (.p ⟨dp,3⟩ 3))=true)<|ai (rN dp)<|cF<|aP h fun r14 ek15 h=>have ek15:=iH hk_k0 hk_k1 hk_k2 hn_k0_k1 hn_k0_k2 hn_k1_k2 (eg (dp+1) (boxes dp [] (aB hp k0 k1 k2 c0 c1 c2)) k0 (Nat.lt_succ_of_lt hk_k0) k1 (Nat.lt_succ_of_lt hk_k1) k2 (Nat.lt_succ_of_lt hk_k2) (hn_k0_k1) (hn_k0_k2) (hn_k1_k2) (az (ab hk_k2 (ab hk_k1 (ab hk_k0 (hz))))) c0 c1 c2 a0.Expr _ ek15);ai ek15<|cF<|ai ((by simp [a6,okB,cu,AV.aI,AV.aJ,AV.bO,aj hk_k0,aj hk_k1,aj hk_k2]):(a6 dp [7] (.p ⟨dp,6⟩ 0)&&okB dp [] (.p ⟨dp,6⟩ 0))=true)<|ai tt<|ai ((by simp [a6,okB,cu,AV.aI,AV.aJ,AV.bO,aj hk_k0,aj hk_k1,aj hk_k2]):(a6 dp [6] (.p ⟨dp,7⟩ 0)&&okB dp [] (.p ⟨dp,7⟩ 0))=true)<|ai ff<|ai (rN dp)<|ai tt<|ai (rN dp)<|ai ff<|ai (rN dp)<|ai tt<|ai (rN dp)<|ai (rN dp)<|a8 h (fun h16 h=>ai h16<|ai (rN dp)<|ai ff<|ai (rN dp)<|ai tt<|ai (rN dp)<|aQ h (mE dp hp k0 hk_k0 k1 hk_k1 k2 hk_k2 hn_k0_k1 hn_k0_k2 hn_k1_k2 hz c0 c1 c2 a0 r12.Readers r14.Writers) fun x17 h=>L h) (fun h16 h=>ai h16<|ai (rN dp)<|ai ff<|ai (rN dp)<|ai tt<|ai (rN dp)<|aQ h (mE dp hp k0 hk_k0 k1 hk_k1 k2 hk_k2 hn_k0_k1 hn_k0_k2 hn_k1_k2 hz c0 c1 c2 a0 r14.Readers r12.Writers) fun x17 h=>L h)))) (fun h5 h=>ai (g0 (congrArg not h5))<|ai (g0 (congrArg not h5))<|ai (g0 (congrArg not h5))<|ai (g0 (congrArg not h5))<|ai (g0 (congrArg not h5))<|ai (g0 (congrArg not h5))<|ai (congrArg not h5)<|ai tt<|ai tt<|ai ht<|ai ht<|ai ht<|ai ht<|ai ht<|ai ht<|ai tt<|ai tt<|L h)
abbrev xd(dp:Nat)(hp:HP)(k0:Key)(k1:Key)(k2:Key)(c0:ak)(c1:Runner)(c2:aw)(a0:Stmt)(r:(Bool×ak)):aW×HP:=(.ret (.b r.1),aB hp k0 k1 k2 r.2 c1 c2)
def iu:Option (Bool×ak):=
 if (a0.Kind==1)=true then
  (dj c0 c1 c2 a0.Expr).bind fun (r2:Level)=>
  (dT c0 c1 c2 a0.Var r2).bind fun (r4:(Bool×ak))=>
  some (r4.1,r4.2)
 else
  if (a0.Kind==3)=true then
   (cX a0.Other).bind fun (j3:Nat)=>
   (c0.p.Ins[j3]?).bind fun (y5:Label)=>
   (ml c0.p.ah y5).bind fun (r7:Level)=>
   (dC c0 c1 c2).bind fun (r9:Level)=>
   (iD r9 r7).bind fun (r11:Bool)=>
   if r11=true then
    (dC c0 c1 c2).bind fun (r14:Level)=>
    (jE r14 r7).bind fun (r16:Level)=>
    (dT c0 c1 c2 a0.Var r16).bind fun (r18:(Bool×ak))=>
    some (r18.1,r18.2)
   else
    some (false,c0)
  else
   if (a0.Kind==4)=true then
    (dj c0 c1 c2 a0.Expr).bind fun (r4:Level)=>
    (cX a0.Other).bind fun (j6:Nat)=>
    (c0.p.Outs[j6]?).bind fun (y8:Label)=>
    (ml c0.p.ah y8).bind fun (r10:Level)=>
    (iD r4 r10).bind fun (r12:Bool)=>
    some (r12,c0)
   else
    (gD c0 c1 c2 a0).bind fun (r4:(Bool×ak))=>
    some (r4.1,r4.2)
theorem uI(hk_k0:k0.dp<dp)(k1:Key)(hk_k1:k1.dp<dp)(k2:Key)(hk_k2:k2.dp<dp)(hn_k0_k1:k0≠k1)(hn_k0_k2:k0≠k2)(hn_k1_k2:k1≠k2)(hz:aN dp hp)(c0:ak)(c1:Runner)(c2:aw)(a0:Stmt)(r:(Bool×ak))(h:iu c0 c1 c2 a0=some r):call G Ω0 ⟨dp,false⟩ 105 [(.p k0 0),(.a (af a0))] (aB hp k0 k1 k2 c0 c1 c2)=some (xd dp hp k0 k1 k2 c0 c1 c2 a0 r):=
 aK Zm (bt<|.or (dE<|.ex fun (r2:Level)=>ao (.v (.a [(.l 4 (r2.Readers.map AV.b)),(.l 4 (r2.Writers.map AV.b))]))<|ao (.h (boxes dp [] (aB hp k0 k1 k2 c0 c1 c2)))<|.ex fun (r4:(Bool×ak))=>ao (.v (.b r4.1))<|ao (.h (boxes dp [(3,(af a0))] (aB hp k0 k1 k2 r4.2 c1 c2)))<|ao (.bx [(3,(af a0))])<|ao (.h (aB hp k0 k1 k2 r4.2 c1 c2))<|.nil) (bf<|.or (kD<|ao (.l (bL k1 k2 c0))<|bf<|ao (.l (bL k1 k2 c0))<|bt<|xN fun j3=>.ex fun (y5:Label)=>ao (.v (.a [(.l 134 (y5.Read.map a7)),(.l 134 (y5.Write.map a7))]))<|.ex fun (r7:Level)=>ao (.v (.a [(.l 4 (r7.Readers.map AV.b)),(.l 4 (r7.Writers.map AV.b))]))<|du<|.ex fun (r9:Level)=>ao (.v (.a [(.l 4 (r9.Readers.map AV.b)),(.l 4 (r9.Writers.map AV.b))]))<|ao (.h (boxes dp [] (aB hp k0 k1 k2 c0 c1 c2)))<|bt<|xB fun r11=>.or (Jm<|.ex fun (r14:Level)=>ao (.v (.a [(.l 4 (r14.Readers.map AV.b)),(.l 4 (r14.Writers.map AV.b))]))<|ao (.h (boxes dp [] (aB hp k0 k1 k2 c0 c1 c2)))<|dE<|.ex fun (r16:Level)=>ao (.v (.a [(.l 4 (r16.Readers.map AV.b)),(.l 4 (r16.Writers.map AV.b))]))<|bt<|.ex fun (r18:(Bool×ak))=>ao (.v (.b r18.1))<|ao (.h (boxes dp [(3,(af a0)),(5,[(.l 4 (r7.Readers.map AV.b)),(.l 4 (r7.Writers.map AV.b))])] (aB hp k0 k1 k2 r18.2 c1 c2)))<|ao (.bx [(3,(af a0)),(5,[(.l 4 (r7.Readers.map AV.b)),(.l 4 (r7.Writers.map AV.b))])])<|ao (.h (aB hp k0 k1 k2 r18.2 c1 c2))<|bt<|.nil) (bf<|bf<|bf<|bf<|bf<|bf<|bf<|bf<|bf<|.nil)) (bf<|.or (du<|.ex fun (r4:Level)=>ao (.v (.a [(.l 4 (r4.Readers.map AV.b)),(.l 4 (r4.Writers.map AV.b))]))<|ao (.h (boxes dp [] (aB hp k0 k1 k2 c0 c1 c2)))<|bf<|ao (.l (bL k1 k2 c0))<|bf<|ao (.l (bL k1 k2 c0))<|bt<|xN fun j6=>.ex fun (y8:Label)=>ao (.v (.a [(.l 134 (y8.Read.map a7)),(.l 134 (y8.Write.map a7))]))<|.ex fun (r10:Level)=>ao (.v (.a [(.l 4 (r10.Readers.map AV.b)),(.l 4 (r10.Writers.map AV.b))]))<|xB fun r12=>.nil) (sg<|.ex fun (r4:(Bool×ak))=>ao (.v (.b r4.1))<|ao (.h (boxes dp [(3,(af a0))] (aB hp k0 k1 k2 r4.2 c1 c2)))<|ao (.bx [(3,(af a0))])<|ao (.h (aB hp k0 k1 k2 r4.2 c1 c2))<|.nil)))) fun L=>ai ((by simp [af,AV.aI,AV.aJ,AV.deep,AV.bn,aj hk_k0,Nat.le_of_lt hk_k0,aj hk_k1,Nat.le_of_lt hk_k1,aj hk_k2,Nat.le_of_lt hk_k2]):(((.a (af a0)):AV).deep dp&&(([(0,(.p k0 0)),(1,(.a (af a0)))]:List (Nat×AV)).all (fun y=>y.2.aI ⟨dp,3⟩)&&([]:List (Nat×List AV)).all (fun y=>AV.aJ ⟨dp,3⟩ y.2)))=true)<|ai (rN dp)<|a8 h (fun h1 h=>A9 h1<|ai (rN dp)<|sf<|ai (rN dp)<|cF<|aP h fun r2 ek3 h=>have ek3:=iH hk_k0 hk_k1 hk_k2 hn_k0_k1 hn_k0_k2 hn_k1_k2 (eg (dp+1) (boxes dp [] (aB hp k0 k1 k2 c0 c1 c2)) k0 (Nat.lt_succ_of_lt hk_k0) k1 (Nat.lt_succ_of_lt hk_k1) k2 (Nat.lt_succ_of_lt hk_k2) (hn_k0_k1) (hn_k0_k2) (hn_k1_k2) (az (ab hk_k2 (ab hk_k1 (ab hk_k0 (hz))))) c0 c1 c2 a0.Expr _ ek3);ai ek3<|xy<|aP h fun r4 ek5 h=>have ek5:=iH hk_k0 hk_k1 hk_k2 hn_k0_k1 hn_k0_k2 hn_k1_k2 (gC (dp+1) (boxes dp [(3,(af a0))] (aB hp k0 k1 k2 c0 c1 c2)) k0 (Nat.lt_succ_of_lt hk_k0) k1 (Nat.lt_succ_of_lt hk_k1) k2 (Nat.lt_succ_of_lt hk_k2) (hn_k0_k1) (hn_k0_k2) (hn_k1_k2) (az (ab hk_k2 (ab hk_k1 (ab hk_k0 (hz))))) c0 c1 c2 a0.Var r2 _ ek5);ai ek5<|ai (cL ek5 (by kernel_rfl) (by kernel_rfl))<|ai (cM ek5 (ab hk_k2 (ab hk_k1 (ab hk_k0 (hz)))))<|L h) (fun h1 h=>ai h1<|a8 h (fun h2 h=>ai h2<|ai ((by simp [af,eG,aC,AV.aI,AV.aJ,AV.bO,aj hk_k0,aj hk_k1,aj hk_k2]):(([5]:List Nat).all (eG dp (⟨[(0,(.p k0 0)),(3,(.p ⟨dp,3⟩ 0)),(7,(I a0.Kind)),(18,(.b (a0.Kind==3)))],[(3,(af a0))],H0⟩:St))&&true)=true)<|ai ((by simp [a6,okB,cu,AV.aI,AV.aJ,AV.bO,aj hk_k0,aj hk_k1,aj hk_k2]):(a6 dp [5] (.p k0 0)&&okB dp [] (.p k0 0))=true)<|ai ((by simp [a6,okB,cu,AV.aI,AV.aJ,AV.bO,aj hk_k0,aj hk_k1,aj hk_k2]):(a6 dp [5] (.p k0 0)&&okB dp [] (.p k0 0))=true)<|ai ((by simp [a6,okB,cu,AV.aI,AV.aJ,AV.bO,aj hk_k0,aj hk_k1,aj hk_k2]):(a6 dp [5] (.p k0 1)&&okB dp [] (.p k0 1))=true)<|ai ((by simp [a6,okB,cu,AV.aI,AV.aJ,AV.bO,aj hk_k0,aj hk_k1,aj hk_k2]):(a6 dp [5] (.p k0 1)&&okB dp [] (.p k0 1))=true)<|ai (Nat.ne_of_lt hk_k0)<|ai (cE hn_k0_k1 hn_k0_k2:(aB hp k0 k1 k2 c0 c1 c2) k0=some (bL k1 k2 c0))<|ai tt<|ai ((by simp [a6,okB,cu,AV.aI,AV.aJ,AV.bO,aj hk_k0,aj hk_k1,aj hk_k2]):(a6 dp [5] (.p k0 0)&&okB dp [] (.p k0 0))=true)<|ai ((by simp [a6,okB,cu,AV.aI,AV.aJ,AV.bO,aj hk_k0,aj hk_k1,aj hk_k2]):(a6 dp [5] (.p k0 0)&&okB dp [] (.p k0 0))=true)<|ai ((by simp [a6,okB,cu,AV.aI,AV.aJ,AV.bO,aj hk_k0,aj hk_k1,aj hk_k2]):(a6 dp [5] (.p k0 1)&&okB dp [] (.p k0 1))=true)<|ai ((by simp [a6,okB,cu,AV.aI,AV.aJ,AV.bO,aj hk_k0,aj hk_k1,aj hk_k2]):(a6 dp [5] (.p k0 4)&&okB dp [] (.p k0 4))=true)<|ai (Nat.ne_of_lt hk_k0)<|ai (cE hn_k0_k1 hn_k0_k2:(aB hp k0 k1 k2 c0 c1 c2) k0=some (bL k1 k2 c0))<|ai tt<|ai ((by simp [a6,okB,cu,AV.aI,AV.aJ,AV.bO,aj hk_k0,aj hk_k1,aj hk_k2]):(a6 dp [5] (.p ⟨dp,3⟩ 2)&&okB dp [] (.p ⟨dp,3⟩ 2))=true)<|ai (rN dp)<|ai tt<|eN h fun j3 h4 h=>ai h4<|aP h fun y5 h6 h=>ai (aD au h6)<|cF<|aQ h (pS c0.p.ah y5) fun r7 h=>ai tt<|ai tt<|ai tt<|ai ff<|ai (rN dp)<|ai tt<|ai (rN dp)<|sf<|aP h fun r9 ek10 h=>have ek10:=iH hk_k0 hk_k1 hk_k2 hn_k0_k1 hn_k0_k2 hn_k1_k2 (fI (dp+1) (boxes dp [] (aB hp k0 k1 k2 c0 c1 c2)) k0 (Nat.lt_succ_of_lt hk_k0) k1 (Nat.lt_succ_of_lt hk_k1) k2 (Nat.lt_succ_of_lt hk_k2) (hn_k0_k1) (hn_k0_k2) (hn_k1_k2) (az (ab hk_k2 (ab hk_k1 (ab hk_k0 (hz))))) c0 c1 c2 _ ek10);ai ek10<|ai tt<|ai (rN dp)<|ai tt<|aQ h (mi r9 r7) fun r11 h=>cF<|a8 h (fun h13 h=>ai (g1 h13)<|ai tt<|ai (g1 h13)<|ai tt<|ai (g1 h13)<|ai (rN dp)<|ai tt<|ai (g1 h13)<|ai tt<|ai (g1 h13)<|ai tt<|aP h fun r14 ek15 h=>have ek15:=iH hk_k0 hk_k1 hk_k2 hn_k0_k1 hn_k0_k2 hn_k1_k2 (fI (dp+1) (boxes dp [] (aB hp k0 k1 k2 c0 c1 c2)) k0 (Nat.lt_succ_of_lt hk_k0) k1 (Nat.lt_succ_of_lt hk_k1) k2 (Nat.lt_succ_of_lt hk_k2) (hn_k0_k1) (hn_k0_k2) (hn_k1_k2) (az (ab hk_k2 (ab hk_k1 (ab hk_k0 (hz))))) c0 c1 c2 _ ek15);ai ek15<|ai tt<|ai (g1 h13)<|ai (rN dp)<|ai tt<|ai (g1 h13)<|aQ h (mV r14 r7) fun r16 h=>ai tt<|ai (g1 h13)<|ai ff<|ai tt<|aP h fun r18 ek19 h=>have ek19:=iH hk_k0 hk_k1 hk_k2 hn_k0_k1 hn_k0_k2 hn_k1_k2 (gC (dp+1) (boxes dp [(3,(af a0)),(5,[(.l 4 (r7.Readers.map AV.b)),(.l 4 (r7.Writers.map AV.b))])] (aB hp k0 k1 k2 c0 c1 c2)) k0 (Nat.lt_succ_of_lt hk_k0) k1 (Nat.lt_succ_of_lt hk_k1) k2 (Nat.lt_succ_of_lt hk_k2) (hn_k0_k1) (hn_k0_k2) (hn_k1_k2) (az (ab hk_k2 (ab hk_k1 (ab hk_k0 (hz))))) c0 c1 c2 a0.Var r16 _ ek19);ai ek19<|ai (cL ek19 (by kernel_rfl) (by kernel_rfl))<|ai (cM ek19 (ab hk_k2 (ab hk_k1 (ab hk_k0 (hz)))))<|ai h13<|L h) (fun h13 h=>ai (g1 h13)<|ai (g1 h13)<|ai (g1 h13)<|ai (g1 h13)<|ai (g1 h13)<|ai (g1 h13)<|ai (g1 h13)<|ai (g1 h13)<|ai h13<|L h)) (fun h2 h=>ai h2<|a8 h (fun h3 h=>A9 h3<|ai (rN dp)<|cF<|aP h fun r4 ek5 h=>have ek5:=iH hk_k0 hk_k1 hk_k2 hn_k0_k1 hn_k0_k2 hn_k1_k2 (eg (dp+1) (boxes dp [] (aB hp k0 k1 k2 c0 c1 c2)) k0 (Nat.lt_succ_of_lt hk_k0) k1 (Nat.lt_succ_of_lt hk_k1) k2 (Nat.lt_succ_of_lt hk_k2) (hn_k0_k1) (hn_k0_k2) (hn_k1_k2) (az (ab hk_k2 (ab hk_k1 (ab hk_k0 (hz))))) c0 c1 c2 a0.Expr _ ek5);ai ek5<|oT<|ai (Nat.ne_of_lt hk_k0)<|ai (cE hn_k0_k1 hn_k0_k2:(aB hp k0 k1 k2 c0 c1 c2) k0=some (bL k1 k2 c0))<|oT<|ai (Nat.ne_of_lt hk_k0)<|ai (cE hn_k0_k1 hn_k0_k2:(aB hp k0 k1 k2 c0 c1 c2) k0=some (bL k1 k2 c0))<|cF<|ai (rN dp)<|ai tt<|eN h fun j6 h7 h=>ai h7<|aP h fun y8 h9 h=>ai (aD au h9)<|cF<|aQ h (pS c0.p.ah y8) fun r10 h=>aQ h (mi r4 r10) fun r12 h=>L h) (fun h3 h=>ai h3<|ai (rN dp)<|eY<|aP h fun r4 ek5 h=>have ek5:=iH hk_k0 hk_k1 hk_k2 hn_k0_k1 hn_k0_k2 hn_k1_k2 (tu (dp+1) (boxes dp [(3,(af a0))] (aB hp k0 k1 k2 c0 c1 c2)) k0 (Nat.lt_succ_of_lt hk_k0) k1 (Nat.lt_succ_of_lt hk_k1) k2 (Nat.lt_succ_of_lt hk_k2) (hn_k0_k1) (hn_k0_k2) (hn_k1_k2) (az (ab hk_k2 (ab hk_k1 (ab hk_k0 (hz))))) c0 c1 c2 a0 _ ek5);ai ek5<|ai (cL ek5 (by kernel_rfl) (by kernel_rfl))<|ai (cM ek5 (ab hk_k2 (ab hk_k1 (ab hk_k0 (hz)))))<|L h)))
end
section
variable (dp:Nat)(hp:HP)(k0:Key)(k1:Key)(k2:Key)(c0:ak)(c1:Runner)(c2:aw)(a0:(List Stmt))(a1:Int)
abbrev yM(dp:Nat)(hp:HP)(k0:Key)(k1:Key)(k2:Key)(c0:ak)(c1:Runner)(c2:aw)(a0:(List Stmt))(a1:Int)(r:(Bool×ak×Runner)):aW×HP:=(.ret (.b r.1),aB hp k0 k1 k2 r.2.1 r.2.2 c2)
abbrev mQ(r:(Bool×ak×Runner)):Prop:=call G Ω0 ⟨dp,false⟩ 23 [(.p k0 0),(.l 88 (a0.map aH)),(I a1)] (aB hp k0 k1 k2 c0 c1 c2)=some (yM dp hp k0 k1 k2 c0 c1 c2 a0 a1 r)
end
section
variable (dp:Nat)(hp:HP)(k0:Key)(k1:Key)(k2:Key)(c0:ak)(c1:Runner)(c2:aw)(a0:Stmt)(a1:Int)
abbrev xW(dp:Nat)(hp:HP)(k0:Key)(k1:Key)(k2:Key)(c0:ak)(c1:Runner)(c2:aw)(a0:Stmt)(a1:Int)(r:(Bool×ak×Runner)):aW×HP:=(.ret (.b r.1),aB hp k0 k1 k2 r.2.1 r.2.2 c2)
abbrev qM(r:(Bool×ak×Runner)):Prop:=call G Ω0 ⟨dp,false⟩ 103 [(.p k0 0),(.a (af a0)),(I a1)] (aB hp k0 k1 k2 c0 c1 c2)=some (xW dp hp k0 k1 k2 c0 c1 c2 a0 a1 r)
abbrev xe(dp:Nat)(hp:HP)(k0:Key)(k1:Key)(k2:Key)(c0:ak)(c1:Runner)(c2:aw)(a0:Stmt)(a1:Int)(r:(Bool×ak×Runner)):aW×HP:=(.ret (.b r.1),aB hp k0 k1 k2 r.2.1 r.2.2 c2)
abbrev qp(r:(Bool×ak×Runner)):Prop:=call G Ω0 ⟨dp,false⟩ 104 [(.p k0 0),(.a (af a0)),(I a1)] (aB hp k0 k1 k2 c0 c1 c2)=some (xe dp hp k0 k1 k2 c0 c1 c2 a0 a1 r)
abbrev yN(dp:Nat)(hp:HP)(k0:Key)(k1:Key)(k2:Key)(c0:ak)(c1:Runner)(c2:aw)(a0:Stmt)(a1:Int)(r:(Bool×ak×Runner)):aW×HP:=(.ret (.b r.1),aB hp k0 k1 k2 r.2.1 r.2.2 c2)
abbrev ra(r:(Bool×ak×Runner)):Prop:=call G Ω0 ⟨dp,false⟩ 61 [(.p k0 0),(.a (af a0)),(I a1)] (aB hp k0 k1 k2 c0 c1 c2)=some (yN dp hp k0 k1 k2 c0 c1 c2 a0 a1 r)
end
structure bu where
 f_watch_watcher_all:ak→Runner→aw→(List Stmt)→Int→Option (Bool×ak×Runner)
 f_watch_watcher_call:ak→Runner→aw→Stmt→Int→Option (Bool×ak×Runner)
 f_watch_watcher_inner:ak→Runner→aw→Stmt→Int→Option (Bool×ak×Runner)
 f_watch_watcher_one:ak→Runner→aw→Stmt→Int→Option (Bool×ak×Runner)
structure aV(R:bu):Prop where
 f_watch_watcher_all:∀ (dp:Nat)(hp:HP)(k0:Key)(hk_k0:k0.dp<dp)(k1:Key)(hk_k1:k1.dp<dp)(k2:Key)(hk_k2:k2.dp<dp)(hn_k0_k1:k0≠k1)(hn_k0_k2:k0≠k2)(hn_k1_k2:k1≠k2)(hz:aN dp hp)(c0:ak)(c1:Runner)(c2:aw)(a0:(List Stmt))(a1:Int)(r:(Bool×ak×Runner)),R.f_watch_watcher_all c0 c1 c2 a0 a1=some r→mQ dp hp k0 k1 k2 c0 c1 c2 a0 a1 r
 f_watch_watcher_call:∀ (dp:Nat)(hp:HP)(k0:Key)(hk_k0:k0.dp<dp)(k1:Key)(hk_k1:k1.dp<dp)(k2:Key)(hk_k2:k2.dp<dp)(hn_k0_k1:k0≠k1)(hn_k0_k2:k0≠k2)(hn_k1_k2:k1≠k2)(hz:aN dp hp)(c0:ak)(c1:Runner)(c2:aw)(a0:Stmt)(a1:Int)(r:(Bool×ak×Runner)),R.f_watch_watcher_call c0 c1 c2 a0 a1=some r→qM dp hp k0 k1 k2 c0 c1 c2 a0 a1 r
 f_watch_watcher_inner:∀ (dp:Nat)(hp:HP)(k0:Key)(hk_k0:k0.dp<dp)(k1:Key)(hk_k1:k1.dp<dp)(k2:Key)(hk_k2:k2.dp<dp)(hn_k0_k1:k0≠k1)(hn_k0_k2:k0≠k2)(hn_k1_k2:k1≠k2)(hz:aN dp hp)(c0:ak)(c1:Runner)(c2:aw)(a0:Stmt)(a1:Int)(r:(Bool×ak×Runner)),R.f_watch_watcher_inner c0 c1 c2 a0 a1=some r→qp dp hp k0 k1 k2 c0 c1 c2 a0 a1 r
 f_watch_watcher_one:∀ (dp:Nat)(hp:HP)(k0:Key)(hk_k0:k0.dp<dp)(k1:Key)(hk_k1:k1.dp<dp)(k2:Key)(hk_k2:k2.dp<dp)(hn_k0_k1:k0≠k1)(hn_k0_k2:k0≠k2)(hn_k1_k2:k1≠k2)(hz:aN dp hp)(c0:ak)(c1:Runner)(c2:aw)(a0:Stmt)(a1:Int)(r:(Bool×ak×Runner)),R.f_watch_watcher_one c0 c1 c2 a0 a1=some r→ra dp hp k0 k1 k2 c0 c1 c2 a0 a1 r
section
variable (R:bu)(c2:aw)(a0:(List Stmt))(c0:ak)(c1:Runner)
def fv(v0_k0:ak)(v0_k1:Runner)(v0_2:Int)(v0_11:Nat):Option ((ak×Runner×Int×Nat)⊕((ak×Runner)⊕(Int×Nat×Bool×ak×Runner))):=
 if (v0_11:Int)<(a0.length:Int) then
  (a0[v0_11]?).bind fun (y2:Stmt)=>
  (R.f_watch_watcher_one v0_k0 v0_k1 c2 y2 v0_2).bind fun (r4:(Bool×ak×Runner))=>
  if r4.1=true then
   (je y2.Then).bind fun (r7:Int)=>
   if IntKind.i64.wrap (1+r7)=1+r7 then
    (je y2.Else).bind fun (r10:Int)=>
    if IntKind.i64.wrap ((1+r7)+r10)=(1+r7)+r10 then
     if IntKind.i64.wrap (v0_2+((1+r7)+r10))=v0_2+((1+r7)+r10) then
      if IntKind.i64.wrap ((v0_11:Int)+1)=((v0_11+1:Nat):Int) then
       some (.inl (r4.2.1,r4.2.2,v0_2+((1+r7)+r10),v0_11+1))
      else none
     else none
    else none
   else none
  else
   some (.inr (.inl (r4.2.1,r4.2.2)))
 else
  some (.inr (.inr (v0_2,v0_11,decide ((v0_11:Int)<(a0.length:Int)),v0_k0,v0_k1)))
abbrev xf(dp:Nat)(hp:HP)(k0:Key)(k1:Key)(k2:Key)(c2:aw)(a0:(List Stmt))(v:(ak×Runner×Int×Nat)):St:=⟨[(0,(.p k0 0)),(2,(I v.2.2.1)),(9,(.l 88 (a0.map aH))),(10,(I (a0.length:Int))),(11,(I (v.2.2.2:Int)))],[],aB hp k0 k1 k2 v.1 v.2.1 c2⟩
abbrev xg(dp:Nat)(hp:HP)(k0:Key)(k1:Key)(k2:Key)(c2:aw)(a0:(List Stmt))(x:((ak×Runner)⊕(Int×Nat×Bool×ak×Runner))):aR×St:=match x with | .inl (z1,z2)=>(.ret,⟨[(6,(.b false))],[],aB hp k0 k1 k2 z1 z2 c2⟩) | .inr (z1,z2,z3,z4,z5)=>((.ex 0),⟨[(0,(.p k0 0)),(2,(I z1)),(9,(.l 88 (a0.map aH))),(10,(I (a0.length:Int))),(11,(I (z2:Int))),(12,(.b z3))],[],aB hp k0 k1 k2 z4 z5 c2⟩)
theorem wj(hR:aV R)(dp:Nat)(hp:HP)(k0:Key)(hk_k0:k0.dp<dp)(k1:Key)(hk_k1:k1.dp<dp)(k2:Key)(hk_k2:k2.dp<dp)(hn_k0_k1:k0≠k1)(hn_k0_k2:k0≠k2)(hn_k1_k2:k1≠k2)(hz:aN dp hp)(c2:aw)(a0:(List Stmt))(v0_k0:ak)(v0_k1:Runner)(v0_2:Int)(v0_11:Nat)(o:(ak×Runner×Int×Nat)⊕((ak×Runner)⊕(Int×Nat×Bool×ak×Runner)))(h:fv R c2 a0 v0_k0 v0_k1 v0_2 v0_11=some o):bI ⟨dp,false⟩ NG (xf dp hp k0 k1 k2 c2 a0) (xg dp hp k0 k1 k2 c2 a0) (v0_k0,v0_k1,v0_2,v0_11) o:=
 bP (.or (bt<|ao (.n v0_11)<|.ex fun (y2:Stmt)=>ao (.v (.a (af y2)))<|dE<|.ex fun (r4:(Bool×ak×Runner))=>ao (.v (.b r4.1))<|ao (.h (boxes dp [(8,(af y2))] (aB hp k0 k1 k2 r4.2.1 r4.2.2 c2)))<|ao (.bx [(8,(af y2))])<|ao (.h (aB hp k0 k1 k2 r4.2.1 r4.2.2 c2))<|.or (sg<|xI fun r7=>ao (.i (1+r7))<|bt<|xI fun r10=>ao (.i ((1+r7)+r10))<|ao (.i (v0_2+((1+r7)+r10)))<|ao (.i ((v0_11+1:Nat):Int))<|.nil) (bt<|.nil)) (bf<|.nil)) fun L=>cb h (fun h1 h=>ai (decide_eq_true h1)<|ai (rI v0_11)<|aP h fun y2 h3 h=>ai (iy aH h3 (kY _))<|ai ((by simp [af,AV.aI,AV.aJ,AV.deep,AV.bn,aj hk_k0,Nat.le_of_lt hk_k0,aj hk_k1,Nat.le_of_lt hk_k1,aj hk_k2,Nat.le_of_lt hk_k2]):(([(14,(.a (af y2))),(13,(.e (.a (af y2)) 0)),(0,(.p k0 0)),(2,(I v0_2)),(9,(.l 88 (a0.map aH))),(10,(I (a0.length:Int))),(11,(I (v0_11:Int)))]:List (Nat×AV)).all (fun y=>y.2.aI ⟨dp,8⟩)&&([]:List (Nat×List AV)).all (fun y=>AV.aJ ⟨dp,8⟩ y.2))=true)<|ai ff<|ai (rN dp)<|ai tt<|ai (rN dp)<|ai (rN dp)<|eY<|aP h fun r4 ek5 h=>have ek5:=iH hk_k0 hk_k1 hk_k2 hn_k0_k1 hn_k0_k2 hn_k1_k2 (hR.f_watch_watcher_one (dp+1) (boxes dp [(8,(af y2))] (aB hp k0 k1 k2 v0_k0 v0_k1 c2)) k0 (Nat.lt_succ_of_lt hk_k0) k1 (Nat.lt_succ_of_lt hk_k1) k2 (Nat.lt_succ_of_lt hk_k2) (hn_k0_k1) (hn_k0_k2) (hn_k1_k2) (az (ab hk_k2 (ab hk_k1 (ab hk_k0 (hz))))) v0_k0 v0_k1 c2 y2 v0_2 _ ek5);ai ek5<|ai (cL ek5 (by kernel_rfl) (by kernel_rfl))<|ai (cM ek5 (ab hk_k2 (ab hk_k1 (ab hk_k0 (hz)))))<|a8 h (fun h6 h=>A9 (congrArg not h6)<|ai (rN dp)<|ai tt<|aQ h (kv y2.Then) fun r7 h=>ai tt<|aS h fun w9 h=>ai w9<|cF<|ai (rN dp)<|ai tt<|aQ h (kv y2.Else) fun r10 h=>ai tt<|aS h fun w12 h=>ai w12<|ai tt<|aS h fun w13 h=>ai w13<|aS h fun w14 h=>ai w14<|L h) (fun h6 h=>ai (congrArg not h6)<|L h)) (fun h1 h=>ai (decide_eq_false h1)<|L h)
def dK(c2:aw)(a0:(List Stmt))(a1:Int):Option (Bool×ak×Runner):=
 (lp (fun v=>fv R c2 a0 v.1 v.2.1 v.2.2.1 v.2.2.2) (c0,c1,a1,0)).bind fun (x1:((ak×Runner)⊕(Int×Nat×Bool×ak×Runner)))=>match x1 with
 | .inl ya_2=>
  some (false,ya_2.1,ya_2.2)
 | .inr yb_2=>
  some (true,yb_2.2.2.2.1,yb_2.2.2.2.2)
theorem vm(hR:aV R)(dp:Nat)(hp:HP)(k0:Key)(hk_k0:k0.dp<dp)(k1:Key)(hk_k1:k1.dp<dp)(k2:Key)(hk_k2:k2.dp<dp)(hn_k0_k1:k0≠k1)(hn_k0_k2:k0≠k2)(hn_k1_k2:k1≠k2)(hz:aN dp hp)(c0:ak)(c1:Runner)(c2:aw)(a0:(List Stmt))(a1:Int)(r:(Bool×ak×Runner))(h:dK R c0 c1 c2 a0 a1=some r):mQ dp hp k0 k1 k2 c0 c1 c2 a0 a1 r:=
 aK G23 (ao (.i (a0.length:Int))<|.or (.ex fun (ya_2:(ak×Runner))=>ao (.lp .ret ⟨[(6,(.b false))],[],aB hp k0 k1 k2 ya_2.1 ya_2.2 c2⟩)<|.nil) (.ex fun (yb_2:(Int×Nat×Bool×ak×Runner))=>ao (.lp (.ex 0) ⟨[(0,(.p k0 0)),(2,(I yb_2.1)),(9,(.l 88 (a0.map aH))),(10,(I (a0.length:Int))),(11,(I (yb_2.2.1:Int))),(12,(.b yb_2.2.2.1))],[],aB hp k0 k1 k2 yb_2.2.2.2.1 yb_2.2.2.2.2 c2⟩)<|.nil)) fun L=>ai (aL aH a0)<|cN h (ef (fun v=>wj R hR dp hp k0 hk_k0 k1 hk_k1 k2 hk_k2 hn_k0_k1 hn_k0_k2 hn_k1_k2 hz c2 a0 v.1 v.2.1 v.2.2.1 v.2.2.2) (c0,c1,a1,0)) (fun ya_2 h=>L h) (fun yb_2 h=>L h)
end
section
variable (R:bu)(c0:ak)(c1:Runner)(c2:aw)(a0:Stmt)(a1:Int)(dp:Nat)(hp:HP)(k0:Key)(k1:Key)(k2:Key)
def dD:Option (Bool×ak×Runner):=
 (ir c0 c1 c2 a0).bind fun (r1:(Bool×ak))=>
 if r1.1=true then
  (gO c1 a0).bind fun (r4:Runner)=>
  (cX a0.Other).bind fun (j6:Nat)=>
  (r1.2.p.Funcs[j6]?).bind fun (y8:Func)=>
  (et r4 a0.Other).bind fun (r10:Int)=>
  (R.f_watch_watcher_all r1.2 r4 c2 y8.Body r10).bind fun (r12:(Bool×ak×Runner))=>
  if r12.1=true then
   (dj r12.2.1 r12.2.2 c2 y8.Result).bind fun (r15:Level)=>
   (dT r12.2.1 r12.2.2 c2 a0.Var r15).bind fun (r17:(Bool×ak))=>
   if r17.1=true then
    (gP r12.2.2 a0).bind fun (r20:Runner)=>
    some (true,r17.2,r20)
   else
    (eK r17.2 r12.2.2 c2 a1).bind fun (r20:(Bool×Runner))=>
    some (r20.1,r17.2,r20.2)
  else
   some (false,r12.2.1,r12.2.2)
 else
  (eK r1.2 c1 c2 a1).bind fun (r4:(Bool×Runner))=>
  some (r4.1,r1.2,r4.2)
theorem uJ(hR:aV R)(dp:Nat)(hp:HP)(k0:Key)(hk_k0:k0.dp<dp)(k1:Key)(hk_k1:k1.dp<dp)(k2:Key)(hk_k2:k2.dp<dp)(hn_k0_k1:k0≠k1)(hn_k0_k2:k0≠k2)(hn_k1_k2:k1≠k2)(hz:aN dp hp)(c0:ak)(c1:Runner)(c2:aw)(a0:Stmt)(a1:Int)(r:(Bool×ak×Runner))(h:dD R c0 c1 c2 a0 a1=some r):qM dp hp k0 k1 k2 c0 c1 c2 a0 a1 r:=
 aK Zk (bt<|.ex fun (r1:(Bool×ak))=>ao (.v (.b r1.1))<|ao (.h (boxes dp [(4,(af a0))] (aB hp k0 k1 k2 r1.2 c1 c2)))<|ao (.bx [(4,(af a0))])<|ao (.h (aB hp k0 k1 k2 r1.2 c1 c2))<|.or (bf<|bf<|ao (.l (bL k1 k2 r1.2))<|bt<|.ex fun (r4:Runner)=>ao (.v (.tp []))<|ao (.h (boxes dp [(4,(af a0))] (aB hp k0 k1 k2 r1.2 r4 c2)))<|ao (.bx [(4,(af a0))])<|ao (.h (aB hp k0 k1 k2 r1.2 r4 c2))<|bf<|ao (.l (bL k1 k2 r1.2))<|bt<|xN fun j6=>.ex fun (y8:Func)=>ao (.v (.a (cD y8)))<|Dy<|ao (.l (bL k1 k2 r1.2))<|bt<|xI fun r10=>ao (.h (boxes dp [] (aB hp k0 k1 k2 r1.2 r4 c2)))<|.ex fun (r12:(Bool×ak×Runner))=>ao (.v (.b r12.1))<|ao (.h (boxes dp [(4,(af a0)),(7,(cD y8))] (aB hp k0 k1 k2 r12.2.1 r12.2.2 c2)))<|ao (.bx [(4,(af a0)),(7,(cD y8))])<|ao (.h (aB hp k0 k1 k2 r12.2.1 r12.2.2 c2))<|.or (bf<|bt<|bt<|.ex fun (r15:Level)=>ao (.v (.a [(.l 4 (r15.Readers.map AV.b)),(.l 4 (r15.Writers.map AV.b))]))<|ao (.h (boxes dp [] (aB hp k0 k1 k2 r12.2.1 r12.2.2 c2)))<|.ex fun (r17:(Bool×ak))=>ao (.v (.b r17.1))<|ao (.h (boxes dp [(4,(af a0)),(7,(cD y8))] (aB hp k0 k1 k2 r17.2 r12.2.2 c2)))<|ao (.bx [(4,(af a0)),(7,(cD y8))])<|ao (.h (aB hp k0 k1 k2 r17.2 r12.2.2 c2))<|.or (bf<|bf<|ao (.l (bL k1 k2 r17.2))<|bt<|.ex fun (r20:Runner)=>ao (.v (.tp []))<|ao (.h (boxes dp [(4,(af a0))] (aB hp k0 k1 k2 r17.2 r20 c2)))<|ao (.bx [(4,(af a0))])<|ao (.h (aB hp k0 k1 k2 r17.2 r20 c2))<|.nil) (bt<|.ex fun (r20:(Bool×Runner))=>ao (.v (.b r20.1))<|ao (.h (boxes dp [(4,(af a0))] (aB hp k0 k1 k2 r17.2 r20.2 c2)))<|ao (.bx [(4,(af a0))])<|ao (.h (aB hp k0 k1 k2 r17.2 r20.2 c2))<|.nil)) (bt<|.nil)) (bt<|.ex fun (r4:(Bool×Runner))=>ao (.v (.b r4.1))<|ao (.h (boxes dp [(4,(af a0))] (aB hp k0 k1 k2 r1.2 r4.2 c2)))<|ao (.bx [(4,(af a0))])<|ao (.h (aB hp k0 k1 k2 r1.2 r4.2 c2))<|.nil)) fun L=>ai ((by simp [af,AV.aI,AV.aJ,AV.deep,AV.bn,aj hk_k0,Nat.le_of_lt hk_k0,aj hk_k1,Nat.le_of_lt hk_k1,aj hk_k2,Nat.le_of_lt hk_k2]):(((.a (af a0)):AV).deep dp&&(([(0,(.p k0 0)),(1,(.a (af a0))),(2,(I a1))]:List (Nat×AV)).all (fun y=>y.2.aI ⟨dp,4⟩)&&([]:List (Nat×List AV)).all (fun y=>AV.aJ ⟨dp,4⟩ y.2)))=true)<|ai (rN dp)<|eY<|aP h fun r1 ek2 h=>have ek2:=iH hk_k0 hk_k1 hk_k2 hn_k0_k1 hn_k0_k2 hn_k1_k2 (uH (dp+1) (boxes dp [(4,(af a0))] (aB hp k0 k1 k2 c0 c1 c2)) k0 (Nat.lt_succ_of_lt hk_k0) k1 (Nat.lt_succ_of_lt hk_k1) k2 (Nat.lt_succ_of_lt hk_k2) (hn_k0_k1) (hn_k0_k2) (hn_k1_k2) (az (ab hk_k2 (ab hk_k1 (ab hk_k0 (hz))))) c0 c1 c2 a0 _ ek2);ai ek2<|ai (cL ek2 (by kernel_rfl) (by kernel_rfl))<|ai (cM ek2 (ab hk_k2 (ab hk_k1 (ab hk_k0 (hz)))))<|a8 h (fun h3 h=>A8 (congrArg not h3)<|ai (Nat.ne_of_lt hk_k0)<|ai (cE hn_k0_k1 hn_k0_k2:(aB hp k0 k1 k2 r1.2 c1 c2) k0=some (bL k1 k2 r1.2))<|ai tt<|ai (rN dp)<|xy<|aP h fun r4 ek5 h=>have ek5:call G Ω0 ⟨dp+1,false⟩ 142 [(.p k1 0),(.a (af a0))] (boxes dp [(4,(af a0))] (aB hp k0 k1 k2 r1.2 c1 c2))=some (.ret (.tp []),boxes dp [(4,(af a0))] (aB hp k0 k1 k2 r1.2 r4 c2)):=cT (bN (hp1:=aB hp k0 k1 k2 r1.2 c1 c2) (Nat.ne_of_lt hk_k1) (bU (Ne.symm hn_k1_k2) (bh ..))) (bN (hp1:=aB hp k0 k1 k2 r1.2 r4 c2) (Nat.ne_of_lt hk_k1) (bU (Ne.symm hn_k1_k2) (bh ..))) (qm (dp+1) (boxes dp [(4,(af a0))] (aB hp k0 k1 k2 r1.2 c1 c2)) k1 (Nat.lt_succ_of_lt hk_k1) (az (ab hk_k2 (ab hk_k1 (ab hk_k0 (hz))))) c1 a0 _ ek5);ai ek5<|ai (cL ek5 (by kernel_rfl) (by kernel_rfl))<|ai (cM ek5 (ab hk_k2 (ab hk_k1 (ab hk_k0 (hz)))))<|ai ((by simp [af,eG,aC,AV.aI,AV.aJ,AV.bO,aj hk_k0,aj hk_k1,aj hk_k2]):(([7]:List Nat).all (eG dp (⟨[(0,(.p k0 0)),(2,(I a1)),(4,(.p ⟨dp,4⟩ 0))],[(4,(af a0))],H0⟩:St))&&true)=true)<|ai ((by simp [a6,okB,cu,AV.aI,AV.aJ,AV.bO,aj hk_k0,aj hk_k1,aj hk_k2]):(a6 dp [7] (.p k0 0)&&okB dp [] (.p k0 0))=true)<|ai ((by simp [a6,okB,cu,AV.aI,AV.aJ,AV.bO,aj hk_k0,aj hk_k1,aj hk_k2]):(a6 dp [7] (.p k0 0)&&okB dp [] (.p k0 0))=true)<|ai ((by simp [a6,okB,cu,AV.aI,AV.aJ,AV.bO,aj hk_k0,aj hk_k1,aj hk_k2]):(a6 dp [7] (.p k0 1)&&okB dp [] (.p k0 1))=true)<|ai ((by simp [a6,okB,cu,AV.aI,AV.aJ,AV.bO,aj hk_k0,aj hk_k1,aj hk_k2]):(a6 dp [7] (.p k0 7)&&okB dp [] (.p k0 7))=true)<|ai (Nat.ne_of_lt hk_k0)<|ai (cE hn_k0_k1 hn_k0_k2:(aB hp k0 k1 k2 r1.2 r4 c2) k0=some (bL k1 k2 r1.2))<|ai tt<|ai ((by simp [a6,okB,cu,AV.aI,AV.aJ,AV.bO,aj hk_k0,aj hk_k1,aj hk_k2]):(a6 dp [7] (.p ⟨dp,4⟩ 2)&&okB dp [] (.p ⟨dp,4⟩ 2))=true)<|ai (rN dp)<|ai tt<|eN h fun j6 h7 h=>ai h7<|aP h fun y8 h9 h=>ai (aD ba h9)<|ai tt<|ai tt<|ai tt<|ai tt<|ai ff<|ai (rN dp)<|ai tt<|ai (rN dp)<|sf<|ai (rN dp)<|lz<|ai (Nat.ne_of_lt hk_k0)<|ai (cE hn_k0_k1 hn_k0_k2:(aB hp k0 k1 k2 r1.2 r4 c2) k0=some (bL k1 k2 r1.2))<|cF<|ai (rN dp)<|cF<|aP h fun r10 ek11 h=>have ek11:call G Ω0 ⟨dp+1,true⟩ 24 [(.p k1 0),(I a0.Other)] (boxes dp [] (aB hp k0 k1 k2 r1.2 r4 c2))=some (.ret (I r10),boxes dp [] (aB hp k0 k1 k2 r1.2 r4 c2)):=cT (bN (hp1:=aB hp k0 k1 k2 r1.2 r4 c2) (Nat.ne_of_lt hk_k1) (bU (Ne.symm hn_k1_k2) (bh ..))) (bN (hp1:=aB hp k0 k1 k2 r1.2 r4 c2) (Nat.ne_of_lt hk_k1) (bU (Ne.symm hn_k1_k2) (bh ..))) (qo (dp+1) (boxes dp [] (aB hp k0 k1 k2 r1.2 r4 c2)) k1 (Nat.lt_succ_of_lt hk_k1) (az (ab hk_k2 (ab hk_k1 (ab hk_k0 (hz))))) r4 a0.Other _ ek11);ai ek11<|xy<|aP h fun r12 ek13 h=>have ek13:=iH hk_k0 hk_k1 hk_k2 hn_k0_k1 hn_k0_k2 hn_k1_k2 (hR.f_watch_watcher_all (dp+1) (boxes dp [(4,(af a0)),(7,(cD y8))] (aB hp k0 k1 k2 r1.2 r4 c2)) k0 (Nat.lt_succ_of_lt hk_k0) k1 (Nat.lt_succ_of_lt hk_k1) k2 (Nat.lt_succ_of_lt hk_k2) (hn_k0_k1) (hn_k0_k2) (hn_k1_k2) (az (ab hk_k2 (ab hk_k1 (ab hk_k0 (hz))))) r1.2 r4 c2 y8.Body r10 _ ek13);ai ek13<|ai (cL ek13 (by kernel_rfl) (by kernel_rfl))<|ai (cM ek13 (ab hk_k2 (ab hk_k1 (ab hk_k0 (hz)))))<|a8 h (fun h14 h=>A9 (congrArg not h14)<|ai (rN dp)<|sf<|ai (rN dp)<|cF<|aP h fun r15 ek16 h=>have ek16:=iH hk_k0 hk_k1 hk_k2 hn_k0_k1 hn_k0_k2 hn_k1_k2 (eg (dp+1) (boxes dp [] (aB hp k0 k1 k2 r12.2.1 r12.2.2 c2)) k0 (Nat.lt_succ_of_lt hk_k0) k1 (Nat.lt_succ_of_lt hk_k1) k2 (Nat.lt_succ_of_lt hk_k2) (hn_k0_k1) (hn_k0_k2) (hn_k1_k2) (az (ab hk_k2 (ab hk_k1 (ab hk_k0 (hz))))) r12.2.1 r12.2.2 c2 y8.Result _ ek16);ai ek16<|xy<|aP h fun r17 ek18 h=>have ek18:=iH hk_k0 hk_k1 hk_k2 hn_k0_k1 hn_k0_k2 hn_k1_k2 (gC (dp+1) (boxes dp [(4,(af a0)),(7,(cD y8))] (aB hp k0 k1 k2 r12.2.1 r12.2.2 c2)) k0 (Nat.lt_succ_of_lt hk_k0) k1 (Nat.lt_succ_of_lt hk_k1) k2 (Nat.lt_succ_of_lt hk_k2) (hn_k0_k1) (hn_k0_k2) (hn_k1_k2) (az (ab hk_k2 (ab hk_k1 (ab hk_k0 (hz))))) r12.2.1 r12.2.2 c2 a0.Var r15 _ ek18);ai ek18<|ai (cL ek18 (by kernel_rfl) (by kernel_rfl))<|ai (cM ek18 (ab hk_k2 (ab hk_k1 (ab hk_k0 (hz)))))<|a8 h (fun h19 h=>A8 (congrArg not h19)<|ai (Nat.ne_of_lt hk_k0)<|ai (cE hn_k0_k1 hn_k0_k2:(aB hp k0 k1 k2 r17.2 r12.2.2 c2) k0=some (bL k1 k2 r17.2))<|ai tt<|ai (rN dp)<|xy<|aP h fun r20 ek21 h=>have ek21:call G Ω0 ⟨dp+1,false⟩ 145 [(.p k1 0),(.a (af a0))] (boxes dp [(4,(af a0))] (aB hp k0 k1 k2 r17.2 r12.2.2 c2))=some (.ret (.tp []),boxes dp [(4,(af a0))] (aB hp k0 k1 k2 r17.2 r20 c2)):=cT (bN (hp1:=aB hp k0 k1 k2 r17.2 r12.2.2 c2) (Nat.ne_of_lt hk_k1) (bU (Ne.symm hn_k1_k2) (bh ..))) (bN (hp1:=aB hp k0 k1 k2 r17.2 r20 c2) (Nat.ne_of_lt hk_k1) (bU (Ne.symm hn_k1_k2) (bh ..))) (qn (dp+1) (boxes dp [(4,(af a0))] (aB hp k0 k1 k2 r17.2 r12.2.2 c2)) k1 (Nat.lt_succ_of_lt hk_k1) (az (ab hk_k2 (ab hk_k1 (ab hk_k0 (hz))))) r12.2.2 a0 _ ek21);ai ek21<|ai (cL ek21 (by kernel_rfl) (by kernel_rfl))<|ai (cM ek21 (ab hk_k2 (ab hk_k1 (ab hk_k0 (hz)))))<|L h) (fun h19 h=>ai (congrArg not h19)<|ai ff<|ai tt<|aP h fun r20 ek21 h=>have ek21:=iH hk_k0 hk_k1 hk_k2 hn_k0_k1 hn_k0_k2 hn_k1_k2 (iE (dp+1) (boxes dp [(4,(af a0))] (aB hp k0 k1 k2 r17.2 r12.2.2 c2)) k0 (Nat.lt_succ_of_lt hk_k0) k1 (Nat.lt_succ_of_lt hk_k1) k2 (Nat.lt_succ_of_lt hk_k2) (hn_k0_k1) (hn_k0_k2) (hn_k1_k2) (az (ab hk_k2 (ab hk_k1 (ab hk_k0 (hz))))) r17.2 r12.2.2 c2 a1 _ ek21);ai ek21<|ai (cL ek21 (by kernel_rfl) (by kernel_rfl))<|ai (cM ek21 (ab hk_k2 (ab hk_k1 (ab hk_k0 (hz)))))<|L h)) (fun h14 h=>ai (congrArg not h14)<|L h)) (fun h3 h=>ai (congrArg not h3)<|ai ff<|ai tt<|aP h fun r4 ek5 h=>have ek5:=iH hk_k0 hk_k1 hk_k2 hn_k0_k1 hn_k0_k2 hn_k1_k2 (iE (dp+1) (boxes dp [(4,(af a0))] (aB hp k0 k1 k2 r1.2 c1 c2)) k0 (Nat.lt_succ_of_lt hk_k0) k1 (Nat.lt_succ_of_lt hk_k1) k2 (Nat.lt_succ_of_lt hk_k2) (hn_k0_k1) (hn_k0_k2) (hn_k1_k2) (az (ab hk_k2 (ab hk_k1 (ab hk_k0 (hz))))) r1.2 c1 c2 a1 _ ek5);ai ek5<|ai (cL ek5 (by kernel_rfl) (by kernel_rfl))<|ai (cM ek5 (ab hk_k2 (ab hk_k1 (ab hk_k0 (hz)))))<|L h)
def eL(v0_k0:ak)(v0_k1:Runner):Option ((ak×Runner)⊕((ak×Runner)⊕(Bool×ak×Runner))):=
 (fN v0_k1 a0.Expr).bind fun (r4:Bool)=>
 if r4=true then
  if IntKind.i64.wrap (a1+1)=a1+1 then
   (R.f_watch_watcher_all v0_k0 v0_k1 c2 a0.Then (a1+1)).bind fun (r8:(Bool×ak×Runner))=>
   if r8.1=true then
    (eQ r8.2.2).bind fun (r11:(Bool×Runner))=>
    if r11.1=true then
     (fJ r8.2.1 r11.2 c2 a0.Expr).bind fun (r14:ak)=>
     some (.inl (r14,r11.2))
    else
     some (.inr (.inl (r8.2.1,r11.2)))
   else
    some (.inr (.inl (r8.2.1,r8.2.2)))
  else none
 else
  some (.inr (.inr (r4,v0_k0,v0_k1)))
abbrev vn(c2:aw)(a0:Stmt)(a1:Int)(v:(ak×Runner)):St:=⟨[(0,(.p k0 0)),(2,(I a1)),(4,(.p ⟨dp,4⟩ 0))],[(4,(af a0))],aB hp k0 k1 k2 v.1 v.2 c2⟩
abbrev vo(c2:aw)(a0:Stmt)(a1:Int)(x:((ak×Runner)⊕(Bool×ak×Runner))):aR×St:=match x with | .inl (z1,z2)=>(.ret,⟨[(6,(.b false))],[],aB hp k0 k1 k2 z1 z2 c2⟩) | .inr (z1,z2,z3)=>((.ex 0),⟨[(0,(.p k0 0)),(2,(I a1)),(4,(.p ⟨dp,4⟩ 0)),(36,(.b z1))],[(4,(af a0))],aB hp k0 k1 k2 z2 z3 c2⟩)
theorem uK(hR:aV R)(dp:Nat)(hp:HP)(k0:Key)(hk_k0:k0.dp<dp)(k1:Key)(hk_k1:k1.dp<dp)(k2:Key)(hk_k2:k2.dp<dp)(hn_k0_k1:k0≠k1)(hn_k0_k2:k0≠k2)(hn_k1_k2:k1≠k2)(hz:aN dp hp)(c2:aw)(a0:Stmt)(a1:Int)(v0_k0:ak)(v0_k1:Runner)(o:(ak×Runner)⊕((ak×Runner)⊕(Bool×ak×Runner)))(h:eL R c2 a0 a1 v0_k0 v0_k1=some o):bI ⟨dp,false⟩ J2 (vn dp hp k0 k1 k2 c2 a0 a1) (vo dp hp k0 k1 k2 c2 a0 a1) (v0_k0,v0_k1) o:=
 bP (bf<|ao (.l (bL k1 k2 v0_k0))<|bt<|xB fun r4=>ao (.h (boxes dp [(4,(af a0))] (aB hp k0 k1 k2 v0_k0 v0_k1 c2)))<|.or (du<|ao (.i (a1+1))<|.ex fun (r8:(Bool×ak×Runner))=>ao (.v (.b r8.1))<|ao (.h (boxes dp [(4,(af a0))] (aB hp k0 k1 k2 r8.2.1 r8.2.2 c2)))<|ao (.bx [(4,(af a0))])<|ao (.h (aB hp k0 k1 k2 r8.2.1 r8.2.2 c2))<|.or (Ii<|ao (.l (bL k1 k2 r8.2.1))<|bt<|.ex fun (r11:(Bool×Runner))=>ao (.v (.b r11.1))<|ao (.h (boxes dp [(4,(af a0))] (aB hp k0 k1 k2 r8.2.1 r11.2 c2)))<|ao (.bx [(4,(af a0))])<|ao (.h (aB hp k0 k1 k2 r8.2.1 r11.2 c2))<|kD<|.or (sg<|.ex fun (r14:ak)=>ao (.v (.tp []))<|ao (.h (boxes dp [(4,(af a0))] (aB hp k0 k1 k2 r14 r11.2 c2)))<|ao (.bx [(4,(af a0))])<|ao (.h (aB hp k0 k1 k2 r14 r11.2 c2))<|.nil) (bt<|.nil)) (bf<|bf<|bf<|bf<|bf<|bf<|bt<|bt<|.nil)) (bf<|.nil)) fun L=>lz<|ai (Nat.ne_of_lt hk_k0)<|ai (cE hn_k0_k1 hn_k0_k2:(aB hp k0 k1 k2 v0_k0 v0_k1 c2) k0=some (bL k1 k2 v0_k0))<|cF<|ai (rN dp)<|cF<|aP h fun r4 ek5 h=>have ek5:call G Ω0 ⟨dp+1,true⟩ 148 [(.p k1 0),(.a (bF a0.Expr))] (boxes dp [(4,(af a0))] (aB hp k0 k1 k2 v0_k0 v0_k1 c2))=some (.ret (.b r4),boxes dp [(4,(af a0))] (aB hp k0 k1 k2 v0_k0 v0_k1 c2)):=cT (bN (hp1:=aB hp k0 k1 k2 v0_k0 v0_k1 c2) (Nat.ne_of_lt hk_k1) (bU (Ne.symm hn_k1_k2) (bh ..))) (bN (hp1:=aB hp k0 k1 k2 v0_k0 v0_k1 c2) (Nat.ne_of_lt hk_k1) (bU (Ne.symm hn_k1_k2) (bh ..))) (mg (dp+1) (boxes dp [(4,(af a0))] (aB hp k0 k1 k2 v0_k0 v0_k1 c2)) k1 (Nat.lt_succ_of_lt hk_k1) (az (ab hk_k2 (ab hk_k1 (ab hk_k0 (hz))))) v0_k1 a0.Expr _ ek5);ai ek5<|a8 h (fun h6 h=>ai h6<|ai (rN dp)<|aS h fun w7 h=>ai w7<|eY<|aP h fun r8 ek9 h=>have ek9:=iH hk_k0 hk_k1 hk_k2 hn_k0_k1 hn_k0_k2 hn_k1_k2 (hR.f_watch_watcher_all (dp+1) (boxes dp [(4,(af a0))] (aB hp k0 k1 k2 v0_k0 v0_k1 c2)) k0 (Nat.lt_succ_of_lt hk_k0) k1 (Nat.lt_succ_of_lt hk_k1) k2 (Nat.lt_succ_of_lt hk_k2) (hn_k0_k1) (hn_k0_k2) (hn_k1_k2) (az (ab hk_k2 (ab hk_k1 (ab hk_k0 (hz))))) v0_k0 v0_k1 c2 a0.Then (a1+1) _ ek9);ai ek9<|ai (cL ek9 (by kernel_rfl) (by kernel_rfl))<|ai (cM ek9 (ab hk_k2 (ab hk_k1 (ab hk_k0 (hz)))))<|a8 h (fun h10 h=>ai (g0 (congrArg not h10))<|ai (g0 (congrArg not h10))<|ai (g0 (congrArg not h10))<|ai (g0 (congrArg not h10))<|ai (Nat.ne_of_lt hk_k0)<|ai (cE hn_k0_k1 hn_k0_k2:(aB hp k0 k1 k2 r8.2.1 r8.2.2 c2) k0=some (bL k1 k2 r8.2.1))<|ai (g0 (congrArg not h10))<|ai ff<|ai tt<|aP h fun r11 ek12 h=>have ek12:call G Ω0 ⟨dp+1,false⟩ 102 [(.p k1 0)] (boxes dp [(4,(af a0))] (aB hp k0 k1 k2 r8.2.1 r8.2.2 c2))=some (.ret (.b r11.1),boxes dp [(4,(af a0))] (aB hp k0 k1 k2 r8.2.1 r11.2 c2)):=cT (bN (hp1:=aB hp k0 k1 k2 r8.2.1 r8.2.2 c2) (Nat.ne_of_lt hk_k1) (bU (Ne.symm hn_k1_k2) (bh ..))) (bN (hp1:=aB hp k0 k1 k2 r8.2.1 r11.2 c2) (Nat.ne_of_lt hk_k1) (bU (Ne.symm hn_k1_k2) (bh ..))) (jf (dp+1) (boxes dp [(4,(af a0))] (aB hp k0 k1 k2 r8.2.1 r8.2.2 c2)) k1 (Nat.lt_succ_of_lt hk_k1) (az (ab hk_k2 (ab hk_k1 (ab hk_k0 (hz))))) r8.2.2 _ ek12);ai ek12<|ai (cL ek12 (by kernel_rfl) (by kernel_rfl))<|ai (cM ek12 (ab hk_k2 (ab hk_k1 (ab hk_k0 (hz)))))<|tU (congrArg not h10)<|a8 h (fun h13 h=>ai (congrArg not h13)<|ai (rN dp)<|eY<|aP h fun r14 ek15 h=>have ek15:=iH hk_k0 hk_k1 hk_k2 hn_k0_k1 hn_k0_k2 hn_k1_k2 (oQ (dp+1) (boxes dp [(4,(af a0))] (aB hp k0 k1 k2 r8.2.1 r11.2 c2)) k0 (Nat.lt_succ_of_lt hk_k0) k1 (Nat.lt_succ_of_lt hk_k1) k2 (Nat.lt_succ_of_lt hk_k2) (hn_k0_k1) (hn_k0_k2) (hn_k1_k2) (az (ab hk_k2 (ab hk_k1 (ab hk_k0 (hz))))) r8.2.1 r11.2 c2 a0.Expr _ ek15);ai ek15<|ai (cL ek15 (by kernel_rfl) (by kernel_rfl))<|ai (cM ek15 (ab hk_k2 (ab hk_k1 (ab hk_k0 (hz)))))<|L h) (fun h13 h=>ai (congrArg not h13)<|L h)) (fun h10 h=>ai (g0 (congrArg not h10))<|ai (g0 (congrArg not h10))<|ai (g0 (congrArg not h10))<|ai (g0 (congrArg not h10))<|ai (g0 (congrArg not h10))<|ai (g0 (congrArg not h10))<|ai (congrArg not h10)<|ai tt<|L h)) (fun h6 h=>ai h6<|L h)
def dm:Option (Bool×ak×Runner):=
 (fJ c0 c1 c2 a0.Expr).bind fun (r1:ak)=>
 if (a0.Kind==7)=true then
  (iM c1 a0 a1).bind fun (r4:((List Stmt)×Int))=>
  (R.f_watch_watcher_all r1 c1 c2 r4.1 r4.2).bind fun (r6:(Bool×ak×Runner))=>
  some (r6.1,r6.2.1,r6.2.2)
 else
  (lp (fun v=>eL R c2 a0 a1 v.1 v.2) (r1,c1)).bind fun (x4:((ak×Runner)⊕(Bool×ak×Runner)))=>match x4 with
  | .inl ya_5=>
   some (false,ya_5.1,ya_5.2)
  | .inr yb_5=>
   some (true,yb_5.2.1,yb_5.2.2)
theorem tw(hR:aV R)(dp:Nat)(hp:HP)(k0:Key)(hk_k0:k0.dp<dp)(k1:Key)(hk_k1:k1.dp<dp)(k2:Key)(hk_k2:k2.dp<dp)(hn_k0_k1:k0≠k1)(hn_k0_k2:k0≠k2)(hn_k1_k2:k1≠k2)(hz:aN dp hp)(c0:ak)(c1:Runner)(c2:aw)(a0:Stmt)(a1:Int)(r:(Bool×ak×Runner))(h:dm R c0 c1 c2 a0 a1=some r):qp dp hp k0 k1 k2 c0 c1 c2 a0 a1 r:=
 aK Zl (bt<|.ex fun (r1:ak)=>ao (.v (.tp []))<|ao (.h (boxes dp [(4,(af a0))] (aB hp k0 k1 k2 r1 c1 c2)))<|ao (.bx [(4,(af a0))])<|ao (.h (aB hp k0 k1 k2 r1 c1 c2))<|bt<|.or (kD<|ao (.l (bL k1 k2 r1))<|bt<|.ex fun (r4:((List Stmt)×Int))=>ao (.v (.tp [(.l 88 (r4.1.map aH)),(I r4.2)]))<|ao (.h (boxes dp [] (aB hp k0 k1 k2 r1 c1 c2)))<|.ex fun (r6:(Bool×ak×Runner))=>ao (.v (.b r6.1))<|ao (.h (boxes dp [] (aB hp k0 k1 k2 r6.2.1 r6.2.2 c2)))<|ao (.bx [])<|ao (.h (aB hp k0 k1 k2 r6.2.1 r6.2.2 c2))<|.nil) (bf<|.or (.ex fun (ya_5:(ak×Runner))=>ao (.lp .ret ⟨[(6,(.b false))],[],aB hp k0 k1 k2 ya_5.1 ya_5.2 c2⟩)<|.nil) (.ex fun (yb_5:(Bool×ak×Runner))=>ao (.lp (.ex 0) ⟨[(0,(.p k0 0)),(2,(I a1)),(4,(.p ⟨dp,4⟩ 0)),(36,(.b yb_5.1))],[(4,(af a0))],aB hp k0 k1 k2 yb_5.2.1 yb_5.2.2 c2⟩)<|.nil))) fun L=>ai ((by simp [af,AV.aI,AV.aJ,AV.deep,AV.bn,aj hk_k0,Nat.le_of_lt hk_k0,aj hk_k1,Nat.le_of_lt hk_k1,aj hk_k2,Nat.le_of_lt hk_k2]):(((.a (af a0)):AV).deep dp&&(([(0,(.p k0 0)),(1,(.a (af a0))),(2,(I a1))]:List (Nat×AV)).all (fun y=>y.2.aI ⟨dp,4⟩)&&([]:List (Nat×List AV)).all (fun y=>AV.aJ ⟨dp,4⟩ y.2)))=true)<|ai (rN dp)<|eY<|aP h fun r1 ek2 h=>have ek2:=iH hk_k0 hk_k1 hk_k2 hn_k0_k1 hn_k0_k2 hn_k1_k2 (oQ (dp+1) (boxes dp [(4,(af a0))] (aB hp k0 k1 k2 c0 c1 c2)) k0 (Nat.lt_succ_of_lt hk_k0) k1 (Nat.lt_succ_of_lt hk_k1) k2 (Nat.lt_succ_of_lt hk_k2) (hn_k0_k1) (hn_k0_k2) (hn_k1_k2) (az (ab hk_k2 (ab hk_k1 (ab hk_k0 (hz))))) c0 c1 c2 a0.Expr _ ek2);ai ek2<|ai (cL ek2 (by kernel_rfl) (by kernel_rfl))<|ai (cM ek2 (ab hk_k2 (ab hk_k1 (ab hk_k0 (hz)))))<|ai (rN dp)<|a8 h (fun h3 h=>A8 h3<|ai (Nat.ne_of_lt hk_k0)<|ai (cE hn_k0_k1 hn_k0_k2:(aB hp k0 k1 k2 r1 c1 c2) k0=some (bL k1 k2 r1))<|ai tt<|ai (rN dp)<|sf<|aP h fun r4 ek5 h=>have ek5:call G Ω0 ⟨dp+1,true⟩ 147 [(.p k1 0),(.a (af a0)),(I a1)] (boxes dp [] (aB hp k0 k1 k2 r1 c1 c2))=some (.ret (.tp [(.l 88 (r4.1.map aH)),(I r4.2)]),boxes dp [] (aB hp k0 k1 k2 r1 c1 c2)):=cT (bN (hp1:=aB hp k0 k1 k2 r1 c1 c2) (Nat.ne_of_lt hk_k1) (bU (Ne.symm hn_k1_k2) (bh ..))) (bN (hp1:=aB hp k0 k1 k2 r1 c1 c2) (Nat.ne_of_lt hk_k1) (bU (Ne.symm hn_k1_k2) (bh ..))) (qK (dp+1) (boxes dp [] (aB hp k0 k1 k2 r1 c1 c2)) k1 (Nat.lt_succ_of_lt hk_k1) (az (ab hk_k2 (ab hk_k1 (ab hk_k0 (hz))))) c1 a0 a1 _ ek5);ai ek5<|ai tt<|ai tt<|ai tt<|ai tt<|ai tt<|ai ff<|ai tt<|aP h fun r6 ek7 h=>have ek7:=iH hk_k0 hk_k1 hk_k2 hn_k0_k1 hn_k0_k2 hn_k1_k2 (hR.f_watch_watcher_all (dp+1) (boxes dp [] (aB hp k0 k1 k2 r1 c1 c2)) k0 (Nat.lt_succ_of_lt hk_k0) k1 (Nat.lt_succ_of_lt hk_k1) k2 (Nat.lt_succ_of_lt hk_k2) (hn_k0_k1) (hn_k0_k2) (hn_k1_k2) (az (ab hk_k2 (ab hk_k1 (ab hk_k0 (hz))))) r1 c1 c2 r4.1 r4.2 _ ek7);ai ek7<|ai (cL ek7 (by kernel_rfl) (by kernel_rfl))<|ai (cM ek7 (ab hk_k2 (ab hk_k1 (ab hk_k0 (hz)))))<|L h) (fun h3 h=>ai h3<|cN h (ef (fun v=>uK R hR dp hp k0 hk_k0 k1 hk_k1 k2 hk_k2 hn_k0_k1 hn_k0_k2 hn_k1_k2 hz c2 a0 a1 v.1 v.2) (r1,c1)) (fun ya_5 h=>L h) (fun yb_5 h=>L h))
def dL:Option (Bool×ak×Runner):=
 (eQ c1).bind fun (r1:(Bool×Runner))=>
 if r1.1=true then
  if (a0.Kind==2)=true then
   (R.f_watch_watcher_call c0 r1.2 c2 a0 a1).bind fun (r5:(Bool×ak×Runner))=>
   some (r5.1,r5.2.1,r5.2.2)
  else
   if 7≤a0.Kind then
    (R.f_watch_watcher_inner c0 r1.2 c2 a0 a1).bind fun (r6:(Bool×ak×Runner))=>
    if c0.places.length≤r6.2.1.places.length then
     some (r6.1,(⟨(),r6.2.1.p,r6.2.1.vars,r6.2.1.places.take c0.places.length,()⟩:ak),r6.2.2)
    else none
   else
    (iu c0 r1.2 c2 a0).bind fun (r6:(Bool×ak))=>
    if r6.1=true then
     (kK r1.2 a0 a1).bind fun (r9:Runner)=>
     some (true,r6.2,r9)
    else
     (eK r6.2 r1.2 c2 a1).bind fun (r9:(Bool×Runner))=>
     some (r9.1,r6.2,r9.2)
 else
  some (false,c0,r1.2)
theorem vp(hR:aV R)(dp:Nat)(hp:HP)(k0:Key)(hk_k0:k0.dp<dp)(k1:Key)(hk_k1:k1.dp<dp)(k2:Key)(hk_k2:k2.dp<dp)(hn_k0_k1:k0≠k1)(hn_k0_k2:k0≠k2)(hn_k1_k2:k1≠k2)(hz:aN dp hp)(c0:ak)(c1:Runner)(c2:aw)(a0:Stmt)(a1:Int)(r:(Bool×ak×Runner))(h:dL R c0 c1 c2 a0 a1=some r):ra dp hp k0 k1 k2 c0 c1 c2 a0 a1 r:=
 aK G61 (bf<|ao (.l (bL k1 k2 c0))<|.ex fun (r1:(Bool×Runner))=>ao (.v (.b r1.1))<|ao (.h (boxes dp [(4,(af a0))] (aB hp k0 k1 k2 c0 r1.2 c2)))<|ao (.bx [(4,(af a0))])<|ao (.h (aB hp k0 k1 k2 c0 r1.2 c2))<|.or (sg<|.or (du<|.ex fun (r5:(Bool×ak×Runner))=>ao (.v (.b r5.1))<|ao (.h (boxes dp [(4,(af a0))] (aB hp k0 k1 k2 r5.2.1 r5.2.2 c2)))<|ao (.bx [(4,(af a0))])<|ao (.h (aB hp k0 k1 k2 r5.2.1 r5.2.2 c2))<|.nil) (sg<|.or (kD<|ao (.l (bL k1 k2 c0))<|bf<|ao (.l (bL k1 k2 c0))<|ao (.i (c0.places.length:Int))<|bt<|.ex fun (r6:(Bool×ak×Runner))=>ao (.v (.b r6.1))<|ao (.h (boxes dp [(4,(af a0))] (aB hp k0 k1 k2 r6.2.1 r6.2.2 c2)))<|ao (.bx [(4,(af a0))])<|ao (.h (aB hp k0 k1 k2 r6.2.1 r6.2.2 c2))<|bf<|ao (.l (bL k1 k2 r6.2.1))<|bf<|ao (.l (bL k1 k2 r6.2.1))<|ao (.n c0.places.length)<|ao (.n c0.places.length)<|bf<|ao (.l (bL k1 k2 r6.2.1))<|bf<|ao (.l (bL k1 k2 r6.2.1))<|ao (.l ((r6.2.1.places.take c0.places.length).map av))<|bf<|ao (.h (ad (ad (ad hp k0 ((((ez r6.2.1).set 0 (.p k1 0)).set 10 (.o 54 ((r6.2.1.places.take c0.places.length).map av))).set 11 (.p k2 0))) k1 (aa r6.2.2)) k2 (ar c2)))<|.nil) (sg<|.ex fun (r6:(Bool×ak))=>ao (.v (.b r6.1))<|ao (.h (boxes dp [(4,(af a0))] (aB hp k0 k1 k2 r6.2 r1.2 c2)))<|ao (.bx [(4,(af a0))])<|ao (.h (aB hp k0 k1 k2 r6.2 r1.2 c2))<|.or (bf<|bf<|ao (.l (bL k1 k2 r6.2))<|bt<|.ex fun (r9:Runner)=>ao (.v (.tp []))<|ao (.h (boxes dp [(4,(af a0))] (aB hp k0 k1 k2 r6.2 r9 c2)))<|ao (.bx [(4,(af a0))])<|ao (.h (aB hp k0 k1 k2 r6.2 r9 c2))<|.nil) (bt<|.ex fun (r9:(Bool×Runner))=>ao (.v (.b r9.1))<|ao (.h (boxes dp [(4,(af a0))] (aB hp k0 k1 k2 r6.2 r9.2 c2)))<|ao (.bx [(4,(af a0))])<|ao (.h (aB hp k0 k1 k2 r6.2 r9.2 c2))<|.nil)))) (bt<|.nil)) fun L=>ai ((by simp [af,AV.aI,AV.aJ,AV.deep,AV.bn,aj hk_k0,Nat.le_of_lt hk_k0,aj hk_k1,Nat.le_of_lt hk_k1,aj hk_k2,Nat.le_of_lt hk_k2]):(((.a (af a0)):AV).deep dp&&(([(0,(.p k0 0)),(1,(.a (af a0))),(2,(I a1))]:List (Nat×AV)).all (fun y=>y.2.aI ⟨dp,4⟩)&&([]:List (Nat×List AV)).all (fun y=>AV.aJ ⟨dp,4⟩ y.2)))=true)<|ai (Nat.ne_of_lt hk_k0)<|ai (cE hn_k0_k1 hn_k0_k2:(aB hp k0 k1 k2 c0 c1 c2) k0=some (bL k1 k2 c0))<|eY<|aP h fun r1 ek2 h=>have ek2:call G Ω0 ⟨dp+1,false⟩ 102 [(.p k1 0)] (boxes dp [(4,(af a0))] (aB hp k0 k1 k2 c0 c1 c2))=some (.ret (.b r1.1),boxes dp [(4,(af a0))] (aB hp k0 k1 k2 c0 r1.2 c2)):=cT (bN (hp1:=aB hp k0 k1 k2 c0 c1 c2) (Nat.ne_of_lt hk_k1) (bU (Ne.symm hn_k1_k2) (bh ..))) (bN (hp1:=aB hp k0 k1 k2 c0 r1.2 c2) (Nat.ne_of_lt hk_k1) (bU (Ne.symm hn_k1_k2) (bh ..))) (jf (dp+1) (boxes dp [(4,(af a0))] (aB hp k0 k1 k2 c0 c1 c2)) k1 (Nat.lt_succ_of_lt hk_k1) (az (ab hk_k2 (ab hk_k1 (ab hk_k0 (hz))))) c1 _ ek2);ai ek2<|ai (cL ek2 (by kernel_rfl) (by kernel_rfl))<|ai (cM ek2 (ab hk_k2 (ab hk_k1 (ab hk_k0 (hz)))))<|a8 h (fun h3 h=>ai (congrArg not h3)<|ai (rN dp)<|a8 h (fun h4 h=>ai h4<|ai (rN dp)<|eY<|aP h fun r5 ek6 h=>have ek6:=iH hk_k0 hk_k1 hk_k2 hn_k0_k1 hn_k0_k2 hn_k1_k2 (hR.f_watch_watcher_call (dp+1) (boxes dp [(4,(af a0))] (aB hp k0 k1 k2 c0 r1.2 c2)) k0 (Nat.lt_succ_of_lt hk_k0) k1 (Nat.lt_succ_of_lt hk_k1) k2 (Nat.lt_succ_of_lt hk_k2) (hn_k0_k1) (hn_k0_k2) (hn_k1_k2) (az (ab hk_k2 (ab hk_k1 (ab hk_k0 (hz))))) c0 r1.2 c2 a0 a1 _ ek6);ai ek6<|ai (cL ek6 (by kernel_rfl) (by kernel_rfl))<|ai (cM ek6 (ab hk_k2 (ab hk_k1 (ab hk_k0 (hz)))))<|L h) (fun h4 h=>ai h4<|ai (rN dp)<|cb h (fun h5 h=>ai (decide_eq_true h5)<|ai (Nat.ne_of_lt hk_k0)<|ai (cE hn_k0_k1 hn_k0_k2:(aB hp k0 k1 k2 c0 r1.2 c2) k0=some (bL k1 k2 c0))<|ai (Nat.ne_of_lt hk_k0)<|ai (cE hn_k0_k1 hn_k0_k2:(aB hp k0 k1 k2 c0 r1.2 c2) k0=some (bL k1 k2 c0))<|ai (aL av c0.places)<|ai (rN dp)<|eY<|aP h fun r6 ek7 h=>have ek7:=iH hk_k0 hk_k1 hk_k2 hn_k0_k1 hn_k0_k2 hn_k1_k2 (hR.f_watch_watcher_inner (dp+1) (boxes dp [(4,(af a0))] (aB hp k0 k1 k2 c0 r1.2 c2)) k0 (Nat.lt_succ_of_lt hk_k0) k1 (Nat.lt_succ_of_lt hk_k1) k2 (Nat.lt_succ_of_lt hk_k2) (hn_k0_k1) (hn_k0_k2) (hn_k1_k2) (az (ab hk_k2 (ab hk_k1 (ab hk_k0 (hz))))) c0 r1.2 c2 a0 a1 _ ek7);ai ek7<|ai (cL ek7 (by kernel_rfl) (by kernel_rfl))<|ai (cM ek7 (ab hk_k2 (ab hk_k1 (ab hk_k0 (hz)))))<|ai (Nat.ne_of_lt hk_k0)<|ai (cE hn_k0_k1 hn_k0_k2:(aB hp k0 k1 k2 r6.2.1 r6.2.2 c2) k0=some (bL k1 k2 r6.2.1))<|ai (Nat.ne_of_lt hk_k0)<|ai (cE hn_k0_k1 hn_k0_k2:(aB hp k0 k1 k2 r6.2.1 r6.2.2 c2) k0=some (bL k1 k2 r6.2.1))<|ai (rfl:(c0.places.length:Int)=(c0.places.length:Int))<|ai (Nat.zero_le _:0≤c0.places.length)<|aS h fun h8 h=>ai ((by rw [List.length_map];exact h8):c0.places.length≤(r6.2.1.places.map av).length)<|ai ((by simp):c0.places.length - 0=c0.places.length)<|ai ff<|ai (Nat.ne_of_lt hk_k0)<|ai (cE hn_k0_k1 hn_k0_k2:(aB hp k0 k1 k2 r6.2.1 r6.2.2 c2) k0=some (bL k1 k2 r6.2.1))<|ai (rfl:((.c k0 10):Pl)=(.c k0 10))<|ai (Nat.ne_of_lt hk_k0)<|ai (cE hn_k0_k1 hn_k0_k2:(aB hp k0 k1 k2 r6.2.1 r6.2.2 c2) k0=some (bL k1 k2 r6.2.1))<|ai ((by rw [List.length_map];exact h8):c0.places.length≤(r6.2.1.places.map av).length)<|ai (map_take av r6.2.1.places c0.places.length)<|ai (Nat.ne_of_lt hk_k0)<|ai (bU (Ne.symm hn_k0_k2) (bU (Ne.symm hn_k0_k1) (bh ..)):ad (aB hp k0 k1 k2 r6.2.1 r6.2.2 c2) k0 ((((ez r6.2.1).set 0 (.p k1 0)).set 10 (.o 54 ((r6.2.1.places.take c0.places.length).map av))).set 11 (.p k2 0))=ad (ad (ad hp k0 ((((ez r6.2.1).set 0 (.p k1 0)).set 10 (.o 54 ((r6.2.1.places.take c0.places.length).map av))).set 11 (.p k2 0))) k1 (aa r6.2.2)) k2 (ar c2))<|L h) (fun h5 h=>ai (decide_eq_false h5)<|ai (rN dp)<|eY<|aP h fun r6 ek7 h=>have ek7:=iH hk_k0 hk_k1 hk_k2 hn_k0_k1 hn_k0_k2 hn_k1_k2 (uI (dp+1) (boxes dp [(4,(af a0))] (aB hp k0 k1 k2 c0 r1.2 c2)) k0 (Nat.lt_succ_of_lt hk_k0) k1 (Nat.lt_succ_of_lt hk_k1) k2 (Nat.lt_succ_of_lt hk_k2) (hn_k0_k1) (hn_k0_k2) (hn_k1_k2) (az (ab hk_k2 (ab hk_k1 (ab hk_k0 (hz))))) c0 r1.2 c2 a0 _ ek7);ai ek7<|ai (cL ek7 (by kernel_rfl) (by kernel_rfl))<|ai (cM ek7 (ab hk_k2 (ab hk_k1 (ab hk_k0 (hz)))))<|a8 h (fun h8 h=>A8 (congrArg not h8)<|ai (Nat.ne_of_lt hk_k0)<|ai (cE hn_k0_k1 hn_k0_k2:(aB hp k0 k1 k2 r6.2 r1.2 c2) k0=some (bL k1 k2 r6.2))<|ai tt<|ai (rN dp)<|ai tt<|ai tt<|ai ff<|ai tt<|aP h fun r9 ek10 h=>have ek10:call G Ω0 ⟨dp+1,false⟩ 107 [(.p k1 0),(.a (af a0)),(I a1)] (boxes dp [(4,(af a0))] (aB hp k0 k1 k2 r6.2 r1.2 c2))=some (.ret (.tp []),boxes dp [(4,(af a0))] (aB hp k0 k1 k2 r6.2 r9 c2)):=cT (bN (hp1:=aB hp k0 k1 k2 r6.2 r1.2 c2) (Nat.ne_of_lt hk_k1) (bU (Ne.symm hn_k1_k2) (bh ..))) (bN (hp1:=aB hp k0 k1 k2 r6.2 r9 c2) (Nat.ne_of_lt hk_k1) (bU (Ne.symm hn_k1_k2) (bh ..))) (sA (dp+1) (boxes dp [(4,(af a0))] (aB hp k0 k1 k2 r6.2 r1.2 c2)) k1 (Nat.lt_succ_of_lt hk_k1) (az (ab hk_k2 (ab hk_k1 (ab hk_k0 (hz))))) r1.2 a0 a1 _ ek10);ai ek10<|ai (cL ek10 (by kernel_rfl) (by kernel_rfl))<|ai (cM ek10 (ab hk_k2 (ab hk_k1 (ab hk_k0 (hz)))))<|L h) (fun h8 h=>ai (congrArg not h8)<|ai ff<|ai tt<|aP h fun r9 ek10 h=>have ek10:=iH hk_k0 hk_k1 hk_k2 hn_k0_k1 hn_k0_k2 hn_k1_k2 (iE (dp+1) (boxes dp [(4,(af a0))] (aB hp k0 k1 k2 r6.2 r1.2 c2)) k0 (Nat.lt_succ_of_lt hk_k0) k1 (Nat.lt_succ_of_lt hk_k1) k2 (Nat.lt_succ_of_lt hk_k2) (hn_k0_k1) (hn_k0_k2) (hn_k1_k2) (az (ab hk_k2 (ab hk_k1 (ab hk_k0 (hz))))) r6.2 r1.2 c2 a1 _ ek10);ai ek10<|ai (cL ek10 (by kernel_rfl) (by kernel_rfl))<|ai (cM ek10 (ab hk_k2 (ab hk_k1 (ab hk_k0 (hz)))))<|L h)))) (fun h3 h=>ai (congrArg not h3)<|L h)
def aZ:Nat→bu
 | 0=>⟨fun z0 z1 z2 z3 z4=>none,fun z0 z1 z2 z3 z4=>none,fun z0 z1 z2 z3 z4=>none,fun z0 z1 z2 z3 z4=>none⟩
 | n+1=>⟨dK (aZ n),dD (aZ n),dm (aZ n),dL (aZ n)⟩
theorem br:∀ n,aV (aZ n)
 | 0=>⟨fun _ _ _ _ _ _ _ _ _ _ _ _ _ _ _ _ _ r h=>(by cases h),fun _ _ _ _ _ _ _ _ _ _ _ _ _ _ _ _ _ r h=>(by cases h),fun _ _ _ _ _ _ _ _ _ _ _ _ _ _ _ _ _ r h=>(by cases h),fun _ _ _ _ _ _ _ _ _ _ _ _ _ _ _ _ _ r h=>(by cases h)⟩
 | n+1=>⟨fun dp hp k0 hk_k0 k1 hk_k1 k2 hk_k2 hn_k0_k1 hn_k0_k2 hn_k1_k2 hz c0 c1 c2 a0 a1 r h=>vm _ (br n) dp hp k0 hk_k0 k1 hk_k1 k2 hk_k2 hn_k0_k1 hn_k0_k2 hn_k1_k2 hz c0 c1 c2 a0 a1 r h,fun dp hp k0 hk_k0 k1 hk_k1 k2 hk_k2 hn_k0_k1 hn_k0_k2 hn_k1_k2 hz c0 c1 c2 a0 a1 r h=>uJ _ (br n) dp hp k0 hk_k0 k1 hk_k1 k2 hk_k2 hn_k0_k1 hn_k0_k2 hn_k1_k2 hz c0 c1 c2 a0 a1 r h,fun dp hp k0 hk_k0 k1 hk_k1 k2 hk_k2 hn_k0_k1 hn_k0_k2 hn_k1_k2 hz c0 c1 c2 a0 a1 r h=>tw _ (br n) dp hp k0 hk_k0 k1 hk_k1 k2 hk_k2 hn_k0_k1 hn_k0_k2 hn_k1_k2 hz c0 c1 c2 a0 a1 r h,fun dp hp k0 hk_k0 k1 hk_k1 k2 hk_k2 hn_k0_k1 hn_k0_k2 hn_k1_k2 hz c0 c1 c2 a0 a1 r h=>vp _ (br n) dp hp k0 hk_k0 k1 hk_k1 k2 hk_k2 hn_k0_k1 hn_k0_k2 hn_k1_k2 hz c0 c1 c2 a0 a1 r h⟩
end
section
variable (c0:ak)(c1:Runner)(c2:aw)(a0:(List Stmt))(a1:Int)(dp:Nat)(hp:HP)(k0:Key)
def kl:Option (Bool×ak×Runner):=ev fun n=>(aZ n).f_watch_watcher_all c0 c1 c2 a0 a1
theorem wk(hk_k0:k0.dp<dp)(k1:Key)(hk_k1:k1.dp<dp)(k2:Key)(hk_k2:k2.dp<dp)(hn_k0_k1:k0≠k1)(hn_k0_k2:k0≠k2)(hn_k1_k2:k1≠k2)(hz:aN dp hp)(c0:ak)(c1:Runner)(c2:aw)(a0:(List Stmt))(a1:Int)(r:(Bool×ak×Runner))(h:kl c0 c1 c2 a0 a1=some r):mQ dp hp k0 k1 k2 c0 c1 c2 a0 a1 r:=by
 obtain ⟨n,hn⟩:=qh h
 exact (br n).f_watch_watcher_all dp hp k0 hk_k0 k1 hk_k1 k2 hk_k2 hn_k0_k1 hn_k0_k2 hn_k1_k2 hz c0 c1 c2 a0 a1 r hn
end
section
variable (a0:Level)
abbrev HR(a0:Level)(r:Level):aW×HP:=(.ret (.a [(.l 4 (r.Readers.map AV.b)),(.l 4 (r.Writers.map AV.b))]),H0)
def rU:Option Level:=
 (jE a0 a0).bind fun (r1:Level)=>
 some r1
theorem Eb(r:Level)(h:rU a0=some r):call G Ω0 E0 25 [(.a [(.l 4 (a0.Readers.map AV.b)),(.l 4 (a0.Writers.map AV.b))])] H0=some (HR a0 r):=
 aK G25 (du<|.ex fun (r1:Level)=>ao (.v (.a [(.l 4 (r1.Readers.map AV.b)),(.l 4 (r1.Writers.map AV.b))]))<|du<|.nil) fun L=>ai tt<|ai tt<|ai (rfl:Z0)<|ai (rfl:Z0)<|aQ h (mV a0 a0) fun r1 h=>Ji<|L h
end
section
variable (a0:Program)(a1:(List (List Int)))(a2:Int)
def kQ(r4:Runner)(r6:Level)(r8:aw)(v0_38:Nat)(v0_34_9:(List Level)):Option ((Nat×(List Level))⊕(Nat×Bool×(List Level))):=
 if (v0_38:Int)<(a0.Vars.length:Int) then
  (jw a0.ah).bind fun (r11:Level)=>
  if v0_34_9.length + [r11].length≤1000000000 then
   if IntKind.i64.wrap ((v0_38:Int)+1)=((v0_38+1:Nat):Int) then
    some (.inl (v0_38+1,v0_34_9++[r11]))
   else none
  else none
 else
  some (.inr (v0_38,decide ((v0_38:Int)<(a0.Vars.length:Int)),v0_34_9))
abbrev CQ(r4:Runner)(r6:Level)(r8:aw)(v:(Nat×(List Level))):St:=⟨[(3,(.p ⟨0,3⟩ 0)),(6,(.p ⟨0,6⟩ 0)),(10,(.p ⟨0,34⟩ 0)),(25,(.p ⟨0,25⟩ 0)),(37,(I (a0.Vars.length:Int))),(38,(I (v.1:Int)))],[(3,(ay a0)),(6,[(.l 106 (([]:List Event).map aO)),(.l 3 (([]:List Int).map (I))),(.l 3 (([]:List Int).map (I))),(I 0),(I 0),(I 0)]),(25,(aa r4)),(32,(ar r8)),(34,[(.p ⟨0,25⟩ 0),(I a0.ah.Many),(.l 136 (a0.ah.Grants.map aF)),(.l 3 (a0.Speak.map (I))),(.l 49 (a0.Ins.map au)),(.l 49 (a0.Outs.map au)),(.l 51 (a0.Vars.map bz)),(.l 112 (a0.Funcs.map ba)),(.l 88 (a0.Main.map aH)),(.o 54 (v.2.map av)),(.o 54 ([r6].map av)),(.p ⟨0,32⟩ 0)])],H0⟩
abbrev CS(r4:Runner)(r6:Level)(r8:aw)(x:(Nat×Bool×(List Level))):aR×St:=((.ex 0),⟨[(3,(.p ⟨0,3⟩ 0)),(6,(.p ⟨0,6⟩ 0)),(10,(.p ⟨0,34⟩ 0)),(25,(.p ⟨0,25⟩ 0)),(37,(I (a0.Vars.length:Int))),(38,(I (x.1:Int))),(39,(.b x.2.1))],[(3,(ay a0)),(6,[(.l 106 (([]:List Event).map aO)),(.l 3 (([]:List Int).map (I))),(.l 3 (([]:List Int).map (I))),(I 0),(I 0),(I 0)]),(25,(aa r4)),(32,(ar r8)),(34,[(.p ⟨0,25⟩ 0),(I a0.ah.Many),(.l 136 (a0.ah.Grants.map aF)),(.l 3 (a0.Speak.map (I))),(.l 49 (a0.Ins.map au)),(.l 49 (a0.Outs.map au)),(.l 51 (a0.Vars.map bz)),(.l 112 (a0.Funcs.map ba)),(.l 88 (a0.Main.map aH)),(.o 54 (x.2.2.map av)),(.o 54 ([r6].map av)),(.p ⟨0,32⟩ 0)])],H0⟩)
theorem Bz(r4:Runner)(r6:Level)(r8:aw)(v0_38:Nat)(v0_34_9:(List Level))(o:(Nat×(List Level))⊕(Nat×Bool×(List Level)))(h:kQ a0 r4 r6 r8 v0_38 v0_34_9=some o):bI E0 PS (CQ a0 r4 r6 r8) (CS a0 r4 r6 r8) (v0_38,v0_34_9) o:=
 bP (.or (dE<|.ex fun (r11:Level)=>ao (.v (.a [(.l 4 (r11.Readers.map AV.b)),(.l 4 (r11.Writers.map AV.b))]))<|ao (.l ([r11].map av))<|dE<|ao (.l ((v0_34_9++[r11]).map av))<|du<|ao (.i ((v0_38+1:Nat):Int))<|.nil) (bf<|.nil)) fun L=>cb h (fun h10 h=>ai (decide_eq_true h10)<|ai tt<|ai tt<|ai tt<|ai tt<|ai tt<|ai (rfl:Z0)<|ai tt<|ai tt<|ai (rfl:Z0)<|ai tt<|aQ h (oU a0.ah) fun r11 h=>ai tt<|ai (rfl:[(.a [(.l 4 (r11.Readers.map AV.b)),(.l 4 (r11.Writers.map AV.b))])]=[r11].map av)<|ai tt<|ai ff<|ai (rfl:Z0)<|ai (rfl:Z0)<|ai (rfl:Z0)<|aS h fun h13 h=>ai ((gi av (n:=2) (fun _=>rfl) [r11]):([r11].map av).all (fun e=>e.nc==2)=true)<|ai ((lh h13 (by decide)):((v0_34_9.map av).length+([r11].map av).length)*48≤140737488355328)<|ai ((lj h13):(v0_34_9.map av).length+([r11].map av).length≤maxLen)<|ai (List.map_append.symm:v0_34_9.map av++[r11].map av=(v0_34_9++[r11]).map av)<|ai tt<|ai ff<|ai (rfl:Z0)<|ai (rfl:Z0)<|aS h fun w14 h=>ai w14<|L h) (fun h10 h=>ai (decide_eq_false h10)<|L h)
def kR(r8:aw)(r14:(Bool×ak×Runner))(w3_1:Int)(v1_11:(List Level))(v1_77:Nat):Option (((List Level)×Nat)⊕((List Level)×Nat×Bool)):=
 if (v1_77:Int)<(r14.2.1.vars.length:Int) then
  (r14.2.1.vars[v1_77]?).bind fun (y18:Level)=>
  (rU y18).bind fun (r20:Level)=>
  if v1_11.length + [r20].length≤1000000000 then
   if IntKind.i64.wrap ((v1_77:Int)+1)=((v1_77+1:Nat):Int) then
    some (.inl (v1_11++[r20],v1_77+1))
   else none
  else none
 else
  some (.inr (v1_11,v1_77,decide ((v1_77:Int)<(r14.2.1.vars.length:Int))))
abbrev CT(r8:aw)(r14:(Bool×ak×Runner))(w3_1:Int)(v:((List Level)×Nat)):St:=⟨[(6,(.p ⟨0,6⟩ 0)),(10,(.p ⟨0,34⟩ 0)),(11,(.o 54 (v.1.map av))),(25,(.p ⟨0,25⟩ 0)),(75,(.r (.c ⟨0,34⟩ 9))),(76,(I (r14.2.1.vars.length:Int))),(77,(I (v.2:Int)))],[(6,[(.l 106 (([]:List Event).map aO)),(.l 3 (([]:List Int).map (I))),(.l 3 (([]:List Int).map (I))),(I 0),(I 0),(I 0)]),(25,((aa r14.2.2).set 15 (I w3_1))),(32,(ar r8)),(34,(((dN r14.2.1).set 0 (.p ⟨0,25⟩ 0)).set 11 (.p ⟨0,32⟩ 0)))],H0⟩
abbrev CU(r8:aw)(r14:(Bool×ak×Runner))(w3_1:Int)(x:((List Level)×Nat×Bool)):aR×St:=((.ex 2),⟨[(6,(.p ⟨0,6⟩ 0)),(10,(.p ⟨0,34⟩ 0)),(11,(.o 54 (x.1.map av))),(25,(.p ⟨0,25⟩ 0)),(75,(.r (.c ⟨0,34⟩ 9))),(76,(I (r14.2.1.vars.length:Int))),(77,(I (x.2.1:Int))),(78,(.b x.2.2))],[(6,[(.l 106 (([]:List Event).map aO)),(.l 3 (([]:List Int).map (I))),(.l 3 (([]:List Int).map (I))),(I 0),(I 0),(I 0)]),(25,((aa r14.2.2).set 15 (I w3_1))),(32,(ar r8)),(34,(((dN r14.2.1).set 0 (.p ⟨0,25⟩ 0)).set 11 (.p ⟨0,32⟩ 0)))],H0⟩)
theorem BA(r8:aw)(r14:(Bool×ak×Runner))(w3_1:Int)(v1_11:(List Level))(v1_77:Nat)(o:((List Level)×Nat)⊕((List Level)×Nat×Bool))(h:kR r8 r14 w3_1 v1_11 v1_77=some o):bI E0 PT (CT r8 r14 w3_1) (CU r8 r14 w3_1) (v1_11,v1_77) o:=
 bP (.or (bt<|ao (.n v1_77)<|bt<|.ex fun (y18:Level)=>ao (.v (.a [(.l 4 (y18.Readers.map AV.b)),(.l 4 (y18.Writers.map AV.b))]))<|bt<|ao (.v (.a [(.l 4 (y18.Readers.map AV.b)),(.l 4 (y18.Writers.map AV.b))]))<|dE<|.ex fun (r20:Level)=>ao (.v (.a [(.l 4 (r20.Readers.map AV.b)),(.l 4 (r20.Writers.map AV.b))]))<|ao (.l ([r20].map av))<|ao (.l ((v1_11++[r20]).map av))<|ao (.i ((v1_77+1:Nat):Int))<|.nil) (bf<|.nil)) fun L=>cb h (fun h17 h=>ai (decide_eq_true h17)<|ai (rI v1_77)<|ai (rfl:Z0)<|aP h fun y18 h19 h=>ai (aD av h19)<|ai (rfl:Z0)<|ai (aD av h19)<|FZ<|aQ h (Eb y18) fun r20 h=>ai (rfl:[(.a [(.l 4 (r20.Readers.map AV.b)),(.l 4 (r20.Writers.map AV.b))])]=[r20].map av)<|ai ff<|aS h fun h22 h=>ai ((gi av (n:=2) (fun _=>rfl) [r20]):([r20].map av).all (fun e=>e.nc==2)=true)<|ai ((lh h22 (by decide)):((v1_11.map av).length+([r20].map av).length)*48≤140737488355328)<|ai ((lj h22):(v1_11.map av).length+([r20].map av).length≤maxLen)<|ai (List.map_append.symm:v1_11.map av++[r20].map av=(v1_11++[r20]).map av)<|aS h fun w23 h=>ai w23<|L h) (fun h17 h=>ai (decide_eq_false h17)<|L h)
def jW(r8:aw)(r14:(Bool×ak×Runner))(w3_1:Int):Option ((List Level)×Int):=
 (lp (fun v=>kR r8 r14 w3_1 v.1 v.2) (([]:List Level),0)).bind fun (x17:((List Level)×Nat×Bool))=>
 some (x17.1,w3_1)
abbrev BB(r8:aw)(r14:(Bool×ak×Runner))(w3_1:Int)(x:((List Level)×Int)):aR×St:=(.ret,⟨[(6,(.p ⟨0,6⟩ 0)),(7,(.r (.s 11))),(8,(I 0)),(11,(.o 54 (x.1.map av)))],[(6,((iU r14.2.2.aA).set 4 (I x.2)))],H0⟩)
theorem s5(r8:aw)(r14:(Bool×ak×Runner))(w3_1:Int)(x:((List Level)×Int))(h:jW r8 r14 w3_1=some x):run G Ω0 E0 PU ⟨[(6,(.p ⟨0,6⟩ 0)),(10,(.p ⟨0,34⟩ 0)),(25,(.p ⟨0,25⟩ 0))],[(6,[(.l 106 (([]:List Event).map aO)),(.l 3 (([]:List Int).map (I))),(.l 3 (([]:List Int).map (I))),(I 0),(I 0),(I 0)]),(25,((aa r14.2.2).set 15 (I w3_1))),(32,(ar r8)),(34,(((dN r14.2.1).set 0 (.p ⟨0,25⟩ 0)).set 11 (.p ⟨0,32⟩ 0)))],H0⟩=some (BB r8 r14 w3_1 x):=
 tc (du<|ao (.i (r14.2.1.vars.length:Int))<|.ex fun (x17:((List Level)×Nat×Bool))=>ao (.lp (.ex 2) ⟨[(6,(.p ⟨0,6⟩ 0)),(10,(.p ⟨0,34⟩ 0)),(11,(.o 54 (x17.1.map av))),(25,(.p ⟨0,25⟩ 0)),(75,(.r (.c ⟨0,34⟩ 9))),(76,(I (r14.2.1.vars.length:Int))),(77,(I (x17.2.1:Int))),(78,(.b x17.2.2))],[(6,[(.l 106 (([]:List Event).map aO)),(.l 3 (([]:List Int).map (I))),(.l 3 (([]:List Int).map (I))),(I 0),(I 0),(I 0)]),(25,((aa r14.2.2).set 15 (I w3_1))),(32,(ar r8)),(34,(((dN r14.2.1).set 0 (.p ⟨0,25⟩ 0)).set 11 (.p ⟨0,32⟩ 0)))],H0⟩)<|SQ<|.nil) fun L=>ai (rfl:Z0)<|ai (rfl:Z0)<|ai (aL av r14.2.1.vars)<|aQ h (ef (fun v=>BA r8 r14 w3_1 v.1 v.2) (([]:List Level),0)) fun x17 h=>ai ff<|ai (rfl:Z0)<|ai (rfl:Z0)<|ai ff<|ai (rfl:Z0)<|ai (rfl:Z0)<|ai ff<|ai (rfl:Z0)<|ai (rfl:Z0)<|ai (rfl:Z0)<|ai (rfl:Z0)<|ai ff<|ai (rfl:Z0)<|ai tt<|ai (rfl:Z0)<|L h
abbrev Fo(a0:Program)(a1:(List (List Int)))(a2:Int)(r:(RunT×(List Level)×Int)):aW×HP:=(.ret (.tp [(.a (iU r.1)),(.l 54 (r.2.1.map av)),(I r.2.2)]),H0)
def mF:Option (RunT×(List Level)×Int):=
 (pC a0 a1 a2).bind fun (r1:Int)=>
 if (r1 !=0)=true then
  some ((⟨([]:List Event),([]:List Int),([]:List Int),0,0,0⟩:RunT),([]:List Level),r1)
 else
  (sw a0 a1 a2).bind fun (r4:Runner)=>
  (jw a0.ah).bind fun (r6:Level)=>
  (rT a0).bind fun (r8:aw)=>
  (lp (fun v=>kQ a0 r4 r6 r8 v.1 v.2) (0,([]:List Level))).bind fun (x10:(Nat×Bool×(List Level)))=>
  (et r4 (a0.Funcs.length:Int)).bind fun (r12:Int)=>
  (kl (⟨(),a0,x10.2.2,[r6],()⟩:ak) r4 r8 a0.Main r12).bind fun (r14:(Bool×ak×Runner))=>
  if r14.1=true then
   (jW r8 r14 1).bind fun (x17:((List Level)×Int))=>
   some ((⟨r14.2.2.aA.Events,r14.2.2.aA.Vars,r14.2.2.aA.Taken,r14.2.2.aA.Steps,x17.2,r14.2.2.aA.Stop⟩:RunT),x17.1,0)
  else
   (jW r8 r14 r14.2.2.aA.End).bind fun (x17:((List Level)×Int))=>
   some ((⟨r14.2.2.aA.Events,r14.2.2.aA.Vars,r14.2.2.aA.Taken,r14.2.2.aA.Steps,x17.2,r14.2.2.aA.Stop⟩:RunT),x17.1,0)
theorem BC(r:(RunT×(List Level)×Int))(h:mF a0 a1 a2=some r):call G Ω0 E0 6 [(.a (ay a0)),(.l 25 (a1.map (bD 3 (I)))),(I a2)] H0=some (Fo a0 a1 a2 r):=
 aK G6 (bt<|xI fun r1=>.or (dE<|.nil) (sg<|.ex fun (r4:Runner)=>ao (.l (aa r4))<|ao (.h H0)<|du<|.ex fun (r6:Level)=>ao (.v (.a [(.l 4 (r6.Readers.map AV.b)),(.l 4 (r6.Writers.map AV.b))]))<|ao (.l ([r6].map av))<|bt<|.ex fun (r8:aw)=>ao (.l (ar r8))<|ao (.h H0)<|tV<|ao (.i (a0.Vars.length:Int))<|.ex fun (x10:(Nat×Bool×(List Level)))=>ao (.lp (.ex 0) ⟨[(3,(.p ⟨0,3⟩ 0)),(6,(.p ⟨0,6⟩ 0)),(10,(.p ⟨0,34⟩ 0)),(25,(.p ⟨0,25⟩ 0)),(37,(I (a0.Vars.length:Int))),(38,(I (x10.1:Int))),(39,(.b x10.2.1))],[(3,(ay a0)),(6,[(.l 106 (([]:List Event).map aO)),(.l 3 (([]:List Int).map (I))),(.l 3 (([]:List Int).map (I))),(I 0),(I 0),(I 0)]),(25,(aa r4)),(32,(ar r8)),(34,[(.p ⟨0,25⟩ 0),(I a0.ah.Many),(.l 136 (a0.ah.Grants.map aF)),(.l 3 (a0.Speak.map (I))),(.l 49 (a0.Ins.map au)),(.l 49 (a0.Outs.map au)),(.l 51 (a0.Vars.map bz)),(.l 112 (a0.Funcs.map ba)),(.l 88 (a0.Main.map aH)),(.o 54 (x10.2.2.map av)),(.o 54 ([r6].map av)),(.p ⟨0,32⟩ 0)])],H0⟩)<|dE<|ao (.i (a0.Funcs.length:Int))<|xI fun r12=>ao (.h (boxes 0 [(25,(aa r4)),(32,(ar r8)),(34,[(.p ⟨0,25⟩ 0),(I a0.ah.Many),(.l 136 (a0.ah.Grants.map aF)),(.l 3 (a0.Speak.map (I))),(.l 49 (a0.Ins.map au)),(.l 49 (a0.Outs.map au)),(.l 51 (a0.Vars.map bz)),(.l 112 (a0.Funcs.map ba)),(.l 88 (a0.Main.map aH)),(.o 54 (x10.2.2.map av)),(.o 54 ([r6].map av)),(.p ⟨0,32⟩ 0)])] H0))<|.ex fun (r14:(Bool×ak×Runner))=>ao (.v (.b r14.1))<|ao (.h (boxes 0 [(3,(ay a0)),(6,[(.l 106 (([]:List Event).map aO)),(.l 3 (([]:List Int).map (I))),(.l 3 (([]:List Int).map (I))),(I 0),(I 0),(I 0)]),(25,(aa r14.2.2)),(32,(ar r8)),(34,(((dN r14.2.1).set 0 (.p ⟨0,25⟩ 0)).set 11 (.p ⟨0,32⟩ 0)))] H0))<|ao (.bx [(3,(ay a0)),(6,[(.l 106 (([]:List Event).map aO)),(.l 3 (([]:List Int).map (I))),(.l 3 (([]:List Int).map (I))),(I 0),(I 0),(I 0)]),(25,(aa r14.2.2)),(32,(ar r8)),(34,(((dN r14.2.1).set 0 (.p ⟨0,25⟩ 0)).set 11 (.p ⟨0,32⟩ 0)))])<|ao (.h (H0))<|.or (tV<|.fb<|.ex fun (x17:((List Level)×Int))=>ao (.fr .ret ⟨[(6,(.p ⟨0,6⟩ 0)),(7,(.r (.s 11))),(8,(I 0)),(11,(.o 54 (x17.1.map av)))],[(6,((iU r14.2.2.aA).set 4 (I x17.2)))],H0⟩)<|.nil) (bf<|.fb<|.ex fun (x17:((List Level)×Int))=>ao (.fr .ret ⟨[(6,(.p ⟨0,6⟩ 0)),(7,(.r (.s 11))),(8,(I 0)),(11,(.o 54 (x17.1.map av)))],[(6,((iU r14.2.2.aA).set 4 (I x17.2)))],H0⟩)<|.nil))) fun L=>ai tt<|ai tt<|ai (rfl:Z0)<|aQ h (wR a0 a1 a2) fun r1 h=>a8 h (fun h3 h=>ai h3<|ai ff<|ai (rfl:Z0)<|ai tt<|ai (rfl:Z0)<|ai (rfl:Z0)<|L h) (fun h3 h=>ai h3<|ai tt<|ai (rfl:Z0)<|ai tt<|ai tt<|ai tt<|aP h fun r4 ek5 h=>have ek5:call G Ω0 ⟨0+1,false⟩ 20 [(.a (ay a0)),(.l 25 (a1.map (bD 3 (I)))),(I a2)] H0=some (.new (aa r4),H0):=zd (0+1) H0 (dJ (0+1)) a0 a1 a2 _ ek5;ai ek5<|ai tt<|ai tt<|ai (rfl:Z0)<|ai tt<|ai tt<|ai (rfl:Z0)<|ai tt<|aQ h (oU a0.ah) fun r6 h=>ai tt<|ai (rfl:[(.a [(.l 4 (r6.Readers.map AV.b)),(.l 4 (r6.Writers.map AV.b))])]=[r6].map av)<|ai tt<|ai (rfl:Z0)<|ai tt<|aP h fun r8 ek9 h=>have ek9:call G Ω0 ⟨0+1,false⟩ 22 [(.a (ay a0))] H0=some (.new (ar r8),H0):=D6 (0+1) H0 (dJ (0+1)) a0 _ ek9;ai ek9<|ai tt<|ai tt<|ai ff<|ai (rfl:Z0)<|ai (rfl:Z0)<|ai ff<|ai (rfl:Z0)<|ai (rfl:Z0)<|ai (aL bz a0.Vars)<|aQ h (ef (fun v=>Bz a0 r4 r6 r8 v.1 v.2) (0,([]:List Level))) fun x10 h=>ai tt<|ai tt<|ai tt<|ai (rfl:Z0)<|ai tt<|ai tt<|ai tt<|ai tt<|ai (rfl:Z0)<|ai tt<|ai tt<|ai (rfl:Z0)<|ai tt<|ai (aL ba a0.Funcs)<|cF<|aP h fun r12 ek13 h=>have ek13:call G Ω0 ⟨0+1,true⟩ 24 [(.p ⟨0,25⟩ 0),(I (a0.Funcs.length:Int))] (boxes 0 [(25,(aa r4)),(32,(ar r8)),(34,[(.p ⟨0,25⟩ 0),(I a0.ah.Many),(.l 136 (a0.ah.Grants.map aF)),(.l 3 (a0.Speak.map (I))),(.l 49 (a0.Ins.map au)),(.l 49 (a0.Outs.map au)),(.l 51 (a0.Vars.map bz)),(.l 112 (a0.Funcs.map ba)),(.l 88 (a0.Main.map aH)),(.o 54 (x10.2.2.map av)),(.o 54 ([r6].map av)),(.p ⟨0,32⟩ 0)])] H0)=some (.ret (I r12),boxes 0 [(25,(aa r4)),(32,(ar r8)),(34,[(.p ⟨0,25⟩ 0),(I a0.ah.Many),(.l 136 (a0.ah.Grants.map aF)),(.l 3 (a0.Speak.map (I))),(.l 49 (a0.Ins.map au)),(.l 49 (a0.Outs.map au)),(.l 51 (a0.Vars.map bz)),(.l 112 (a0.Funcs.map ba)),(.l 88 (a0.Main.map aH)),(.o 54 (x10.2.2.map av)),(.o 54 ([r6].map av)),(.p ⟨0,32⟩ 0)])] H0):=cT (cz (bx1:=[(25,(aa r4)),(32,(ar r8)),(34,[(.p ⟨0,25⟩ 0),(I a0.ah.Many),(.l 136 (a0.ah.Grants.map aF)),(.l 3 (a0.Speak.map (I))),(.l 49 (a0.Ins.map au)),(.l 49 (a0.Outs.map au)),(.l 51 (a0.Vars.map bz)),(.l 112 (a0.Funcs.map ba)),(.l 88 (a0.Main.map aH)),(.o 54 (x10.2.2.map av)),(.o 54 ([r6].map av)),(.p ⟨0,32⟩ 0)])]) (by kernel_rfl) (by kernel_rfl)) (cz (bx1:=[(25,(aa r4)),(32,(ar r8)),(34,[(.p ⟨0,25⟩ 0),(I a0.ah.Many),(.l 136 (a0.ah.Grants.map aF)),(.l 3 (a0.Speak.map (I))),(.l 49 (a0.Ins.map au)),(.l 49 (a0.Outs.map au)),(.l 51 (a0.Vars.map bz)),(.l 112 (a0.Funcs.map ba)),(.l 88 (a0.Main.map aH)),(.o 54 (x10.2.2.map av)),(.o 54 ([r6].map av)),(.p ⟨0,32⟩ 0)])]) (by kernel_rfl) (by kernel_rfl)) (qo (0+1) (boxes 0 [(25,(aa r4)),(32,(ar r8)),(34,[(.p ⟨0,25⟩ 0),(I a0.ah.Many),(.l 136 (a0.ah.Grants.map aF)),(.l 3 (a0.Speak.map (I))),(.l 49 (a0.Ins.map au)),(.l 49 (a0.Outs.map au)),(.l 51 (a0.Vars.map bz)),(.l 112 (a0.Funcs.map ba)),(.l 88 (a0.Main.map aH)),(.o 54 (x10.2.2.map av)),(.o 54 ([r6].map av)),(.p ⟨0,32⟩ 0)])] H0) ⟨0,25⟩ (Nat.lt_succ_self 0) (az (dJ 0)) r4 (a0.Funcs.length:Int) _ ek13);ai ek13<|xy<|aP h fun r14 ek15 h=>have ek15:call G Ω0 ⟨0+1,false⟩ 23 [(.p ⟨0,34⟩ 0),(.l 88 (a0.Main.map aH)),(I r12)] (boxes 0 [(3,(ay a0)),(6,[(.l 106 (([]:List Event).map aO)),(.l 3 (([]:List Int).map (I))),(.l 3 (([]:List Int).map (I))),(I 0),(I 0),(I 0)]),(25,(aa r4)),(32,(ar r8)),(34,[(.p ⟨0,25⟩ 0),(I a0.ah.Many),(.l 136 (a0.ah.Grants.map aF)),(.l 3 (a0.Speak.map (I))),(.l 49 (a0.Ins.map au)),(.l 49 (a0.Outs.map au)),(.l 51 (a0.Vars.map bz)),(.l 112 (a0.Funcs.map ba)),(.l 88 (a0.Main.map aH)),(.o 54 (x10.2.2.map av)),(.o 54 ([r6].map av)),(.p ⟨0,32⟩ 0)])] H0)=some (.ret (.b r14.1),boxes 0 [(3,(ay a0)),(6,[(.l 106 (([]:List Event).map aO)),(.l 3 (([]:List Int).map (I))),(.l 3 (([]:List Int).map (I))),(I 0),(I 0),(I 0)]),(25,(aa r14.2.2)),(32,(ar r8)),(34,(((dN r14.2.1).set 0 (.p ⟨0,25⟩ 0)).set 11 (.p ⟨0,32⟩ 0)))] H0):=cT (fj (fj (cz (bx1:=[(3,(ay a0)),(6,[(.l 106 (([]:List Event).map aO)),(.l 3 (([]:List Int).map (I))),(.l 3 (([]:List Int).map (I))),(I 0),(I 0),(I 0)]),(25,(aa r4)),(32,(ar r8)),(34,[(.p ⟨0,25⟩ 0),(I a0.ah.Many),(.l 136 (a0.ah.Grants.map aF)),(.l 3 (a0.Speak.map (I))),(.l 49 (a0.Ins.map au)),(.l 49 (a0.Outs.map au)),(.l 51 (a0.Vars.map bz)),(.l 112 (a0.Funcs.map ba)),(.l 88 (a0.Main.map aH)),(.o 54 (x10.2.2.map av)),(.o 54 ([r6].map av)),(.p ⟨0,32⟩ 0)])]) (by kernel_rfl) (by kernel_rfl)) (cz (bx1:=[(3,(ay a0)),(6,[(.l 106 (([]:List Event).map aO)),(.l 3 (([]:List Int).map (I))),(.l 3 (([]:List Int).map (I))),(I 0),(I 0),(I 0)]),(25,(aa r4)),(32,(ar r8)),(34,[(.p ⟨0,25⟩ 0),(I a0.ah.Many),(.l 136 (a0.ah.Grants.map aF)),(.l 3 (a0.Speak.map (I))),(.l 49 (a0.Ins.map au)),(.l 49 (a0.Outs.map au)),(.l 51 (a0.Vars.map bz)),(.l 112 (a0.Funcs.map ba)),(.l 88 (a0.Main.map aH)),(.o 54 (x10.2.2.map av)),(.o 54 ([r6].map av)),(.p ⟨0,32⟩ 0)])]) (by kernel_rfl) (by kernel_rfl))) (cz (bx1:=[(3,(ay a0)),(6,[(.l 106 (([]:List Event).map aO)),(.l 3 (([]:List Int).map (I))),(.l 3 (([]:List Int).map (I))),(I 0),(I 0),(I 0)]),(25,(aa r4)),(32,(ar r8)),(34,[(.p ⟨0,25⟩ 0),(I a0.ah.Many),(.l 136 (a0.ah.Grants.map aF)),(.l 3 (a0.Speak.map (I))),(.l 49 (a0.Ins.map au)),(.l 49 (a0.Outs.map au)),(.l 51 (a0.Vars.map bz)),(.l 112 (a0.Funcs.map ba)),(.l 88 (a0.Main.map aH)),(.o 54 (x10.2.2.map av)),(.o 54 ([r6].map av)),(.p ⟨0,32⟩ 0)])]) (by kernel_rfl) (by kernel_rfl))) (fj (fj (cz (bx1:=[(3,(ay a0)),(6,[(.l 106 (([]:List Event).map aO)),(.l 3 (([]:List Int).map (I))),(.l 3 (([]:List Int).map (I))),(I 0),(I 0),(I 0)]),(25,(aa r4)),(32,(ar r8)),(34,(((dN r14.2.1).set 0 (.p ⟨0,25⟩ 0)).set 11 (.p ⟨0,32⟩ 0)))]) (by kernel_rfl) (by kernel_rfl)) (cz (bx1:=[(3,(ay a0)),(6,[(.l 106 (([]:List Event).map aO)),(.l 3 (([]:List Int).map (I))),(.l 3 (([]:List Int).map (I))),(I 0),(I 0),(I 0)]),(25,(aa r14.2.2)),(32,(ar r8)),(34,(((dN r14.2.1).set 0 (.p ⟨0,25⟩ 0)).set 11 (.p ⟨0,32⟩ 0)))]) (by kernel_rfl) (by kernel_rfl))) (cz (bx1:=[(3,(ay a0)),(6,[(.l 106 (([]:List Event).map aO)),(.l 3 (([]:List Int).map (I))),(.l 3 (([]:List Int).map (I))),(I 0),(I 0),(I 0)]),(25,(aa r14.2.2)),(32,(ar r8)),(34,(((dN r14.2.1).set 0 (.p ⟨0,25⟩ 0)).set 11 (.p ⟨0,32⟩ 0)))]) (by kernel_rfl) (by kernel_rfl))) (wk (0+1) (boxes 0 [(3,(ay a0)),(6,[(.l 106 (([]:List Event).map aO)),(.l 3 (([]:List Int).map (I))),(.l 3 (([]:List Int).map (I))),(I 0),(I 0),(I 0)]),(25,(aa r4)),(32,(ar r8)),(34,[(.p ⟨0,25⟩ 0),(I a0.ah.Many),(.l 136 (a0.ah.Grants.map aF)),(.l 3 (a0.Speak.map (I))),(.l 49 (a0.Ins.map au)),(.l 49 (a0.Outs.map au)),(.l 51 (a0.Vars.map bz)),(.l 112 (a0.Funcs.map ba)),(.l 88 (a0.Main.map aH)),(.o 54 (x10.2.2.map av)),(.o 54 ([r6].map av)),(.p ⟨0,32⟩ 0)])] H0) ⟨0,34⟩ (Nat.lt_succ_self 0) ⟨0,25⟩ (Nat.lt_succ_self 0) ⟨0,32⟩ (Nat.lt_succ_self 0) (B7 (by decide)) (B7 (by decide)) (B7 (by decide)) (az (dJ 0)) (⟨(),a0,x10.2.2,[r6],()⟩:ak) r4 r8 a0.Main r12 _ ek15);ai ek15<|ai (cL ek15 (by kernel_rfl) (by kernel_rfl))<|ai (cM ek15 (dJ 0))<|a8 h (fun h16 h=>ai h16<|ai (rfl:Z0)<|ai ff<|ai (rfl:Z0)<|ai tt<|ai (rfl:Z0)<|aQ h (s5 r8 r14 1) fun x17 h=>ai (rfl:Z0)<|L h) (fun h16 h=>ai h16<|aQ h (s5 r8 r14 r14.2.2.aA.End) fun x17 h=>ai (rfl:Z0)<|L h))
end
end
end Go.Proofs.YtdpjofmmokaobaaGreat.A
