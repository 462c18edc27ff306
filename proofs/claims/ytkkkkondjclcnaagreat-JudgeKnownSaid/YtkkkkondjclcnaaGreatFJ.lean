/- Functions of the program as plain functions, by program. -/
import Derived.Test.YtkkkkondjclcnaaGreatTypes
import Derived.Test.YtkkkkondjclcnaaGreatLift
import Derived.Test.YtkkkkondjclcnaaGreatRawF
set_option maxRecDepth 100000
set_option linter.unusedSectionVars false
set_option linter.unusedVariables false
set_option linter.unusedSimpArgs false
set_option linter.constructorNameAsVariable false
namespace Go.Proofs.YtkkkkondjclcnaaGreat.A
open Go
noncomputable section
variable [Lp]
section
variable (dp:Nat)(hp:HP)(a0:Program)
abbrev Jo(dp:Nat)(hp:HP)(a0:Program)(r:aA):aQ×HP:=(.new (af r),hp)
def tu:Option aA:=
 (oB a0.aa).bind fun (r1:(List (List Bool)))=>
 some (⟨a0,r1⟩:aA)
theorem EL(hz:ax dp hp)(a0:Program)(r:aA)(h:tu a0=some r):call G Ω0 ⟨dp,false⟩ 122 [(.a (ar a0))] hp=some (Jo dp hp a0 r):=
 Rf abK (gT<|.ex fun (r1:(List (List Bool)))=>ao (.v (.l 43 (r1.map (cz 4 AV.b))))<|.nil) fun L=>bJ<|ai (rN dp)<|bJ<|ai (rN dp)<|ai tt<|aT h (wP a0.aa) fun r1 h=>ai tt<|ai ((by simp [ar,AV.bb,AV.bM,AV.deep,AV.bP]):(((.a [(I a0.aa.Many),(.l 166 (a0.aa.Grants.map aB)),(.l 3 (a0.Speak.map (I))),(.l 81 (a0.Ins.map ah)),(.l 81 (a0.Outs.map ah)),(.l 83 (a0.Vars.map aW)),(.l 101 (a0.Funcs.map aS)),(.l 92 (a0.Main.map ay)),(.l 43 (r1.map (cz 4 AV.b)))]):AV).deep dp&&(([(7,(.a [(I a0.aa.Many),(.l 166 (a0.aa.Grants.map aB)),(.l 3 (a0.Speak.map (I))),(.l 81 (a0.Ins.map ah)),(.l 81 (a0.Outs.map ah)),(.l 83 (a0.Vars.map aW)),(.l 101 (a0.Funcs.map aS)),(.l 92 (a0.Main.map ay)),(.l 43 (r1.map (cz 4 AV.b)))])),(6,(.l 43 (r1.map (cz 4 AV.b)))),(5,(.a [(I a0.aa.Many),(.l 166 (a0.aa.Grants.map aB))])),(4,(.p ⟨dp,1⟩ 0)),(3,(.a (ar a0))),(1,(.p ⟨dp,1⟩ 0))]:List (Nat×AV)).all (fun y=>y.2.bb ⟨dp,8⟩)&&([(1,(ar a0))]:List (Nat×List AV)).all (fun y=>AV.bM ⟨dp,8⟩ y.2)))=true)<|ai (rN dp)<|ai tt<|L h
end
section
variable (dp:Nat)(hp:HP)(k0:Key)(a0:Int)
abbrev uR(dp:Nat)(hp:HP)(k0:Key)(k1:Key)(a0:Int)(c0:Unit)(c1:aA)(a1:Int)(r:(Bool×Unit)):aQ×HP:=(.ret (.b r.1),ab (ab hp k0 [(.p k1 0)]) k1 (af c1))
def fC(c0:Unit)(c1:aA)(a1:Int):Option (Bool×Unit):=
 (dG a1).bind fun (j1:Nat)=>
 (c1.eG[j1]?).bind fun (y3:(List Bool))=>
 (dG a0).bind fun (j5:Nat)=>
 (y3[j5]?).bind fun (y7:Bool)=>
 some (y7,())
theorem sS(hk_k0:k0.dp<dp)(k1:Key)(hk_k1:k1.dp<dp)(hn_k0_k1:k0≠k1)(hz:ax dp hp)(a0:Int)(c0:Unit)(c1:aA)(a1:Int)(r:(Bool×Unit))(h:fC a0 c0 c1 a1=some r):call G Ω0 ⟨dp,false⟩ 175 [(I a0),(.p k0 0),(.e (I a1) 0)] (ab (ab hp k0 [(.p k1 0)]) k1 (af c1))=some (uR dp hp k0 k1 a0 c0 c1 a1 r):=
 aJ ack (bf<|ao (.l [(.p k1 0)])<|bf<|ao (.l (af c1))<|xN fun j1=>.ex fun (y3:(List Bool))=>ao (.v (.l 4 (y3.map AV.b)))<|xN fun j5=>xB fun y7=>.nil) fun L=>ai tt<|ai (Nat.ne_of_lt hk_k0)<|ai (Li hn_k0_k1:(ab (ab hp k0 [(.p k1 0)]) k1 (af c1)) k0=some [(.p k1 0)])<|yF<|ai (Nat.ne_of_lt hk_k1)<|ai (cD (ab hp k0 [(.p k1 0)]) k1 (af c1))<|bJ<|rR h fun j1 h2 h=>ai h2<|bO h fun y3 h4 h=>ai (aU (cz 4 AV.b) h4)<|yF<|rR h fun j5 h6 h=>ai h6<|bO h fun y7 h8 h=>ai (aU AV.b h8)<|L h
end
section
variable (a0:(List Int))(c1:aA)(a1:Int)(dp:Nat)(hp:HP)(k0:Key)
def eW(v0_8:Nat):Option (Nat⊕(Nat⊕(Nat×Bool))):=
 if (v0_8:Int)<(a0.length:Int) then
  (a0[v0_8]?).bind fun (y2:Int)=>
  (fC y2 () c1 a1).bind fun (r4:(Bool×Unit))=>
  if r4.1=true then
   some (.inr (.inl v0_8))
  else
   if IntKind.i64.wrap ((v0_8:Int)+1)=((v0_8+1:Nat):Int) then
    some (.inl (v0_8+1))
   else none
 else
  some (.inr (.inr (v0_8,decide ((v0_8:Int)<(a0.length:Int)))))
abbrev lz(dp:Nat)(hp:HP)(k0:Key)(k1:Key)(a0:(List Int))(c1:aA)(a1:Int)(v:Nat):St:=⟨[(0,(.l 3 (a0.map (I)))),(1,(.f 175 [(.p k0 0),(.e (I a1) 0)])),(7,(I (a0.length:Int))),(8,(I (v:Int)))],[],ab (ab hp k0 [(.p k1 0)]) k1 (af c1)⟩
abbrev cV(dp:Nat)(hp:HP)(k0:Key)(k1:Key)(a0:(List Int))(c1:aA)(a1:Int)(x:(Nat⊕(Nat×Bool))):aI×St:=match x with | .inl z1=>(.ret,⟨[(4,(I (z1:Int)))],[],ab (ab hp k0 [(.p k1 0)]) k1 (af c1)⟩) | .inr (z1,z2)=>((.ex 0),⟨[(0,(.l 3 (a0.map (I)))),(1,(.f 175 [(.p k0 0),(.e (I a1) 0)])),(7,(I (a0.length:Int))),(8,(I (z1:Int))),(9,(.b z2))],[],ab (ab hp k0 [(.p k1 0)]) k1 (af c1)⟩)
theorem kM(hk_k0:k0.dp<dp)(k1:Key)(hk_k1:k1.dp<dp)(hn_k0_k1:k0≠k1)(hz:ax dp hp)(a0:(List Int))(c1:aA)(a1:Int)(v0_8:Nat)(o:Nat⊕(Nat⊕(Nat×Bool)))(h:eW a0 c1 a1 v0_8=some o):bB ⟨dp,false⟩ xA (lz dp hp k0 k1 a0 c1 a1) (cV dp hp k0 k1 a0 c1 a1) v0_8 o:=
 bL (.or (bt<|ao (.n v0_8)<|xI fun y2=>.ex fun (r4:(Bool×Unit))=>ao (.v (.b r4.1))<|ao (.h (boxes dp [] (ab (ab hp k0 [(.p k1 0)]) k1 (af c1))))<|ao (.bx [])<|ao (.h (ab (ab hp k0 [(.p k1 0)]) k1 (af c1)))<|oN (ao (.i ((v0_8+1:Nat):Int))<|.nil)) (bf<|.nil)) fun L=>bZ h (fun h1 h=>ai (decide_eq_true h1)<|ai (rI v0_8)<|bO h fun y2 h3 h=>ai (aU (I) h3)<|mO<|bO h fun r4 ek5 h=>have ek5:=JU hk_k0 hk_k1 hn_k0_k1 (sS (dp+1) (boxes dp [] (ab (ab hp k0 [(.p k1 0)]) k1 (af c1))) k0 (Nat.lt_succ_of_lt hk_k0) k1 (Nat.lt_succ_of_lt hk_k1) (hn_k0_k1) (bX (aF hk_k1 (aF hk_k0 (hz)))) y2 () c1 a1 _ ek5);ai ek5<|ai (oi ek5 (by kernel_rfl) (by kernel_rfl))<|ai (oj ek5 (aF hk_k1 (aF hk_k0 (hz))))<|bE h (fun h6 h=>ai h6<|L h) (fun h6 h=>ai h6<|aR h fun w7 h=>ai w7<|L h)) (fun h1 h=>ai (decide_eq_false h1)<|L h)
abbrev lT(dp:Nat)(hp:HP)(k0:Key)(k1:Key)(a0:(List Int))(c0:Unit)(c1:aA)(a1:Int)(r:(Int×Unit)):aQ×HP:=(.ret (I r.1),ab (ab hp k0 [(.p k1 0)]) k1 (af c1))
def fg(c0:Unit)(c1:aA)(a1:Int):Option (Int×Unit):=
 (lp (fun v=>eW a0 c1 a1 v) 0).bind fun (x1:(Nat⊕(Nat×Bool)))=>match x1 with
 | .inl ya_2=>
  some ((ya_2:Int),())
 | .inr yb_2=>
  some ((-1),())
theorem kN(hk_k0:k0.dp<dp)(k1:Key)(hk_k1:k1.dp<dp)(hn_k0_k1:k0≠k1)(hz:ax dp hp)(a0:(List Int))(c0:Unit)(c1:aA)(a1:Int)(r:(Int×Unit))(h:fg a0 c0 c1 a1=some r):call G Ω0 ⟨dp,false⟩ 143 [(.l 3 (a0.map (I))),(.f 175 [(.p k0 0),(.e (I a1) 0)])] (ab (ab hp k0 [(.p k1 0)]) k1 (af c1))=some (lT dp hp k0 k1 a0 c0 c1 a1 r):=
 aJ G1 (ao (.i (a0.length:Int))<|.or (.ex fun (ya_2:Nat)=>ao (.cu (cV dp hp k0 k1 a0 c1 a1 (.inl ya_2)))<|.nil) (.ex fun (yb_2:(Nat×Bool))=>ao (.cu (cV dp hp k0 k1 a0 c1 a1 (.inr yb_2)))<|.nil)) fun L=>ai (aG (I) a0)<|ec h (gl (kM dp hp k0 hk_k0 k1 hk_k1 hn_k0_k1 hz a0 c1 a1) 0) (fun ya_2 h=>L h) (fun yb_2 h=>L h)
abbrev kO(dp:Nat)(hp:HP)(k0:Key)(k1:Key)(a0:(List Int))(c0:Unit)(c1:aA)(a1:Int)(r:(Bool×Unit)):aQ×HP:=(.ret (.b r.1),ab (ab hp k0 [(.p k1 0)]) k1 (af c1))
def cN(c0:Unit)(c1:aA)(a1:Int):Option (Bool×Unit):=
 (fg a0 () c1 a1).bind fun (r1:(Int×Unit))=>
 some ((decide (0≤r1.1)),())
theorem jU(hk_k0:k0.dp<dp)(k1:Key)(hk_k1:k1.dp<dp)(hn_k0_k1:k0≠k1)(hz:ax dp hp)(a0:(List Int))(c0:Unit)(c1:aA)(a1:Int)(r:(Bool×Unit))(h:cN a0 c0 c1 a1=some r):call G Ω0 ⟨dp,false⟩ 105 [(.l 3 (a0.map (I))),(.f 175 [(.p k0 0),(.e (I a1) 0)])] (ab (ab hp k0 [(.p k1 0)]) k1 (af c1))=some (kO dp hp k0 k1 a0 c0 c1 a1 r):=
 aJ G0 (.ex fun (r1:(Int×Unit))=>ao (.v (I r1.1))<|ao (.h (boxes dp [] (ab (ab hp k0 [(.p k1 0)]) k1 (af c1))))<|ao (.bx [])<|ao (.h (ab (ab hp k0 [(.p k1 0)]) k1 (af c1)))<|.nil) fun L=>mO<|bO h fun r1 ek2 h=>have ek2:=JU hk_k0 hk_k1 hn_k0_k1 (kN (dp+1) (boxes dp [] (ab (ab hp k0 [(.p k1 0)]) k1 (af c1))) k0 (Nat.lt_succ_of_lt hk_k0) k1 (Nat.lt_succ_of_lt hk_k1) (hn_k0_k1) (bX (aF hk_k1 (aF hk_k0 (hz)))) a0 () c1 a1 _ ek2);ai ek2<|ai (oi ek2 (by kernel_rfl) (by kernel_rfl))<|ai (oj ek2 (aF hk_k1 (aF hk_k0 (hz))))<|L h
end
section
variable (dp:Nat)(hp:HP)(k0:Key)(c0:aA)(a0:Int)
abbrev wB(dp:Nat)(hp:HP)(k0:Key)(c0:aA)(a0:Int)(r:Bool):aQ×HP:=(.ret (.b r),ab hp k0 (af c0))
def gJ:Option Bool:=
 (cN c0.p.Speak () c0 a0).bind fun (r1:(Bool×Unit))=>
 some r1.1
theorem uk(hk_k0:k0.dp<dp)(hz:ax dp hp)(c0:aA)(a0:Int)(r:Bool)(h:gJ c0 a0=some r):call G Ω0 ⟨dp,false⟩ 172 [(.p k0 0),(I a0)] (ab hp k0 (af c0))=some (wB dp hp k0 c0 a0 r):=
 aJ ach (vu<|ao (.l (af c0))<|.ex fun (r1:(Bool×Unit))=>ao (.v (.b r1.1))<|ao (.h (boxes dp [(2,[(.p k0 0)])] (ab hp k0 (af c0))))<|ao (.bx [(2,[(.p k0 0)])])<|ao (.h (ab hp k0 (af c0)))<|.nil) fun L=>ai ((by simp [AV.bb,AV.bM,AV.deep,AV.bP,aP hk_k0,Nat.le_of_lt hk_k0]):(((.p k0 0):AV).deep dp&&(([(0,(.p k0 0)),(1,(I a0))]:List (Nat×AV)).all (fun y=>y.2.bb ⟨dp,2⟩)&&([]:List (Nat×List AV)).all (fun y=>AV.bM ⟨dp,2⟩ y.2)))=true)<|ai ((by simp [AV.bb,AV.bM,AV.deep,AV.bP,aP hk_k0,Nat.le_of_lt hk_k0]):(((I a0):AV).deep dp&&(([(2,(.p ⟨dp,2⟩ 0)),(0,(.p k0 0)),(1,(I a0))]:List (Nat×AV)).all (fun y=>y.2.bb ⟨dp,3⟩)&&([(2,[(.p k0 0)])]:List (Nat×List AV)).all (fun y=>AV.bM ⟨dp,3⟩ y.2)))=true)<|ai (rN dp)<|ai (rN dp)<|ai (Nat.ne_of_lt hk_k0)<|ai (cD hp k0 (af c0))<|ai ff<|ai ((by simp [AV.deep,AV.bP,Nat.le_of_lt hk_k0]):([(2,[(.p k0 0)])]:List (Nat×List AV)).all (fun y=>AV.bP dp y.2)=true)<|bO h fun r1 ek2 h=>have ek2:call G Ω0 ⟨dp+1,false⟩ 105 [(.l 3 (c0.p.Speak.map (I))),(.f 175 [(.p ⟨dp,2⟩ 0),(.e (I a0) 0)])] (boxes dp [(2,[(.p k0 0)])] (ab hp k0 (af c0)))=some (.ret (.b r1.1),boxes dp [(2,[(.p k0 0)])] (ab hp k0 (af c0))):=jP (ij (dN (bx1:=[(2,[(.p k0 0)])]) (by kernel_rfl) (by kernel_rfl)) (dA (hp1:=ab hp k0 (af c0)) (Nat.ne_of_lt hk_k0) (dI ..))) (ij (dN (bx1:=[(2,[(.p k0 0)])]) (by kernel_rfl) (by kernel_rfl)) (dA (hp1:=ab hp k0 (af c0)) (Nat.ne_of_lt hk_k0) (dI ..))) (jU (dp+1) (boxes dp [(2,[(.p k0 0)])] (ab hp k0 (af c0))) ⟨dp,2⟩ (Nat.lt_succ_self dp) k0 (Nat.lt_succ_of_lt hk_k0) (xE hk_k0) (bX (aF hk_k0 (hz))) c0.p.Speak () c0 a0 _ ek2);ai ek2<|ai (oi ek2 (by kernel_rfl) (by kernel_rfl))<|ai (oj ek2 (aF hk_k0 (hz)))<|L h
end
section
variable (c0:aA)(a0:Level)(dp:Nat)(hp:HP)(k0:Key)
def fD(v0_10:Nat):Option (Nat⊕(Unit⊕(Nat×Bool))):=
 if (v0_10:Int)<(a0.Writers.length:Int) then
  (a0.Writers[v0_10]?).bind fun (y2:Bool)=>
  if y2=true then
   (gJ c0 (v0_10:Int)).bind fun (r5:Bool)=>
   if r5=true then
    if IntKind.i64.wrap ((v0_10:Int)+1)=((v0_10+1:Nat):Int) then
     some (.inl (v0_10+1))
    else none
   else
    some (.inr (.inl ()))
  else
   if IntKind.i64.wrap ((v0_10:Int)+1)=((v0_10+1:Nat):Int) then
    some (.inl (v0_10+1))
   else none
 else
  some (.inr (.inr (v0_10,decide ((v0_10:Int)<(a0.Writers.length:Int)))))
abbrev uS(dp:Nat)(hp:HP)(k0:Key)(c0:aA)(a0:Level)(v:Nat):St:=⟨[(0,(.p k0 0)),(8,(.l 4 (a0.Writers.map AV.b))),(9,(I (a0.Writers.length:Int))),(10,(I (v:Int)))],[],ab hp k0 (af c0)⟩
abbrev jF(dp:Nat)(hp:HP)(k0:Key)(c0:aA)(a0:Level)(x:(Unit⊕(Nat×Bool))):aI×St:=match x with | .inl ()=>(.ret,⟨[(4,(.b true))],[],ab hp k0 (af c0)⟩) | .inr (z1,z2)=>((.ex 0),⟨[(0,(.p k0 0)),(8,(.l 4 (a0.Writers.map AV.b))),(9,(I (a0.Writers.length:Int))),(10,(I (z1:Int))),(11,(.b z2))],[],ab hp k0 (af c0)⟩)
theorem um(hk_k0:k0.dp<dp)(hz:ax dp hp)(c0:aA)(a0:Level)(v0_10:Nat)(o:Nat⊕(Unit⊕(Nat×Bool)))(h:fD c0 a0 v0_10=some o):bB ⟨dp,false⟩ My (uS dp hp k0 c0 a0) (jF dp hp k0 c0 a0) v0_10 o:=
 bL (.or (bt<|ao (.n v0_10)<|xB fun y2=>.or (ew<|xB fun r5=>ao (.h (boxes dp [] (ab hp k0 (af c0))))<|ao (.bx [])<|ao (.h (ab hp k0 (af c0)))<|gT<|.or (bf<|ao (.i ((v0_10+1:Nat):Int))<|.nil) (bt<|.nil)) (MP<|ao (.i ((v0_10+1:Nat):Int))<|.nil)) (bf<|.nil)) fun L=>bZ h (fun h1 h=>ai (decide_eq_true h1)<|ai (rI v0_10)<|bO h fun y2 h3 h=>ai (aU AV.b h3)<|bE h (fun h4 h=>bG h4<|ai (g1 h4)<|mO<|bO h fun r5 ek6 h=>have ek6:=cO hk_k0 (uk (dp+1) (boxes dp [] (ab hp k0 (af c0))) k0 (Nat.lt_succ_of_lt hk_k0) (bX (aF hk_k0 (hz))) c0 (v0_10:Int) _ ek6);ai ek6<|ai (oi ek6 (by kernel_rfl) (by kernel_rfl))<|ai (oj ek6 (aF hk_k0 (hz)))<|sj h4<|bE h (fun h7 h=>ai (congrArg not h7)<|aR h fun w8 h=>ai w8<|L h) (fun h7 h=>ai (congrArg not h7)<|L h)) (fun h4 h=>bG h4<|bG h4<|ai h4<|ai ff<|aR h fun w5 h=>ai w5<|L h)) (fun h1 h=>ai (decide_eq_false h1)<|L h)
abbrev wC(dp:Nat)(hp:HP)(k0:Key)(c0:aA)(a0:Level)(r:Bool):aQ×HP:=(.ret (.b r),ab hp k0 (af c0))
abbrev pW(c0:aA)(a0:Level)(r:Bool):Prop:=call G Ω0 ⟨dp,false⟩ 165 [(.p k0 0),(.a [(.l 4 (a0.Readers.map AV.b)),(.l 4 (a0.Writers.map AV.b))])] (ab hp k0 (af c0))=some (wC dp hp k0 c0 a0 r)
def gK:Option Bool:=
 (lp (fun v=>fD c0 a0 v) 0).bind fun (x1:(Unit⊕(Nat×Bool)))=>match x1 with
 | .inl ya_2=>
  some true
 | .inr yb_2=>
  some false
theorem uo(hk_k0:k0.dp<dp)(hz:ax dp hp)(c0:aA)(a0:Level)(r:Bool)(h:gK c0 a0=some r):pW dp hp k0 c0 a0 r:=
 aJ acd (bt<|ao (.i (a0.Writers.length:Int))<|.or (.ex fun (ya_2:Unit)=>ao (.cu (jF dp hp k0 c0 a0 (.inl ya_2)))<|.nil) (.ex fun (yb_2:(Nat×Bool))=>ao (.cu (jF dp hp k0 c0 a0 (.inr yb_2)))<|.nil)) fun L=>ai ((by simp [AV.bb,AV.bM,AV.deep,AV.bP,aP hk_k0,Nat.le_of_lt hk_k0]):(((.a [(.l 4 (a0.Readers.map AV.b)),(.l 4 (a0.Writers.map AV.b))]):AV).deep dp&&(([(0,(.p k0 0)),(1,(.a [(.l 4 (a0.Readers.map AV.b)),(.l 4 (a0.Writers.map AV.b))]))]:List (Nat×AV)).all (fun y=>y.2.bb ⟨dp,3⟩)&&([]:List (Nat×List AV)).all (fun y=>AV.bM ⟨dp,3⟩ y.2)))=true)<|ai (rN dp)<|ai (aG AV.b a0.Writers)<|ec h (gl (um dp hp k0 hk_k0 hz c0 a0) 0) (fun ya_2 h=>L h) (fun yb_2 h=>L h)
end
end
end Go.Proofs.YtkkkkondjclcnaaGreat.A
