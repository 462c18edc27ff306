/- Functions of the program as plain functions, by program. -/
import Derived.Test.YtdpjofmmokaobaaGreatTypes
import Derived.Test.YtdpjofmmokaobaaGreatLift
import Derived.Test.YtdpjofmmokaobaaGreatFW
set_option maxRecDepth 100000
set_option linter.unusedSectionVars false
set_option linter.unusedVariables false
set_option linter.unusedSimpArgs false
set_option linter.constructorNameAsVariable false
namespace Go.Proofs.YtdpjofmmokaobaaGreat.A
open Go
noncomputable section
variable [Lp]
section
variable (a0:af)(a1:Label)
abbrev ED(a0:af)(a1:Label)(r:Int):aX×HP:=(.ret (I r),H0)
def pK:Option Int:=
 (ji a0).bind fun (r1:Int)=>
 if (r1 !=0)=true then
  some r1
 else
  (lj a0 a1).bind fun (r4:Int)=>
  some r4
theorem A4(r:Int)(h:pK a0 a1=some r):call G Ω0 E0 42 [(.a [(I a0.Many),(.l 136 (a0.Grants.map az))]),(.a [(.l 134 (a1.Read.map aT)),(.l 134 (a1.Write.map aT))])] H0=some (ED a0 a1 r):=
 aF G42 (bt<|xI fun r1=>oN (dE<|xI fun r4=>.nil)) fun L=>ai tt<|ai tt<|ai (rfl:Z0)<|aP h (oG a0) fun r1 h=>ba h (fun h3 h=>ai h3<|L h) (fun h3 h=>ID h3<|aP h (qC a0 a1) fun r4 h=>L h)
abbrev EE(a0:af)(a1:Label)(r:(Level×Int)):aX×HP:=(.ret (.tp [(.a [(.l 4 (r.1.Readers.map AV.b)),(.l 4 (r.1.Writers.map AV.b))]),(I r.2)]),H0)
def pL:Option (Level×Int):=
 (pK a0 a1).bind fun (r1:Int)=>
 if (r1 !=0)=true then
  some ((⟨([]:List Bool),([]:List Bool)⟩:Level),r1)
 else
  (kz a0 a1).bind fun (r4:Level)=>
  some (r4,0)
theorem A5(r:(Level×Int))(h:pL a0 a1=some r):call G Ω0 E0 13 [(.a [(I a0.Many),(.l 136 (a0.Grants.map az))]),(.a [(.l 134 (a1.Read.map aT)),(.l 134 (a1.Write.map aT))])] H0=some (EE a0 a1 r):=
 aF G13 (dE<|xI fun r1=>.or (dF<|.nil) (bf<|bt<|bt<|.ex fun (r4:Level)=>ao (.v (.a [(.l 4 (r4.Readers.map AV.b)),(.l 4 (r4.Writers.map AV.b))]))<|dE<|.nil)) fun L=>ai tt<|ai tt<|ai tt<|ai (rfl:Z0)<|ai (rfl:Z0)<|aP h (A4 a0 a1) fun r1 h=>ba h (fun h3 h=>ai h3<|ai ff<|ai (rfl:Z0)<|ai tt<|ai (rfl:Z0)<|ai (rfl:Z0)<|L h) (fun h3 h=>ID h3<|aP h (l6 a0 a1) fun r4 h=>IC<|L h)
end
section
variable (a0:af)(a1:Level)
abbrev EF(a0:af)(a1:Level)(r:Bool):aX×HP:=(.ret (.b r),H0)
def pM:Option Bool:=
 if ((a1.Readers.length:Int)==a0.Many)=true then
  some ((a1.Writers.length:Int)==a0.Many)
 else
  some false
theorem A6(r:Bool)(h:pM a0 a1=some r):call G Ω0 E0 87 [(.a [(I a0.Many),(.l 136 (a0.Grants.map az))]),(.a [(.l 4 (a1.Readers.map AV.b)),(.l 4 (a1.Writers.map AV.b))])] H0=some (EF a0 a1 r):=
 aF G87 (bt<|ao (.i (a1.Readers.length:Int))<|bt<|.or (tE<|ao (.i (a1.Writers.length:Int))<|p9<|.nil) (LV<|.nil)) fun L=>ai tt<|ai tt<|ai (rfl:Z0)<|ai (aL AV.b a1.Readers)<|ai (rfl:Z0)<|ba h (fun h1 h=>ai (g1 h1)<|ai (g1 h1)<|ai (rfl:Z0)<|ai (g1 h1)<|ai (aL AV.b a1.Writers)<|ai (g1 h1)<|ai (g1 h1)<|ai (rfl:Z0)<|ai (g1 h1)<|ai h1<|L h) (fun h1 h=>ai (g1 h1)<|ai (g1 h1)<|ai (g1 h1)<|ai (g1 h1)<|ai (g1 h1)<|ai (g1 h1)<|ai h1<|L h)
end
section
variable (a0:Level)(a1:af)
abbrev Cj(a0:Level)(a1:af)(r:Bool):aX×HP:=(.ret (.b r),H0)
def mG:Option Bool:=
 (pM a1 a0).bind fun (r1:Bool)=>
 some (!r1)
theorem yZ(r:Bool)(h:mG a0 a1=some r):call G Ω0 E0 86 [(.a [(.l 4 (a0.Readers.map AV.b)),(.l 4 (a0.Writers.map AV.b))]),(.e (.a [(I a1.Many),(.l 136 (a1.Grants.map az))]) 0)] H0=some (Cj a0 a1 r):=
 aF G86 (bt<|xB fun r1=>.nil) fun L=>tD<|aP h (A6 a1 a0) fun r1 h=>L h
end
section
variable (a0:(List Level))(a1:af)
def ie(v0_8:Nat):Option (Nat⊕(Nat⊕(Nat×Bool))):=
 if (v0_8:Int)<(a0.length:Int) then
  (a0[v0_8]?).bind fun (y2:Level)=>
  (mG y2 a1).bind fun (r4:Bool)=>
  if r4=true then
   some (.inr (.inl v0_8))
  else
   if IntKind.i64.wrap ((v0_8:Int)+1)=((v0_8+1:Nat):Int) then
    some (.inl (v0_8+1))
   else none
 else
  some (.inr (.inr (v0_8,decide ((v0_8:Int)<(a0.length:Int)))))
abbrev oh(v:Nat):St:=⟨[(0,(.l 54 (a0.map au))),(1,(.f 86 [(.e (.a [(I a1.Many),(.l 136 (a1.Grants.map az))]) 0)])),(7,(I (a0.length:Int))),(8,(I (v:Int)))],[],H0⟩
abbrev oi(x:(Nat⊕(Nat×Bool))):aQ×St:=match x with | .inl z1=>(.ret,⟨[(4,(I (z1:Int)))],[],H0⟩) | .inr (z1,z2)=>((.ex 0),⟨[(0,(.l 54 (a0.map au))),(1,(.f 86 [(.e (.a [(I a1.Many),(.l 136 (a1.Grants.map az))]) 0)])),(7,(I (a0.length:Int))),(8,(I (z1:Int))),(9,(.b z2))],[],H0⟩)
theorem nC(v0_8:Nat)(o:Nat⊕(Nat⊕(Nat×Bool)))(h:ie a0 a1 v0_8=some o):bG E0 Jo (oh a0 a1) (oi a0 a1) v0_8 o:=
 bP (.or (bt<|ao (.n v0_8)<|.ex fun (y2:Level)=>ao (.v (.a [(.l 4 (y2.Readers.map AV.b)),(.l 4 (y2.Writers.map AV.b))]))<|xB fun r4=>oN (ao (.i ((v0_8+1:Nat):Int))<|.nil)) (bf<|.nil)) fun L=>bZ h (fun h1 h=>ai (decide_eq_true h1)<|ai (rI v0_8)<|aZ h fun y2 h3 h=>ai (aD au h3)<|aP h (yZ y2 a1) fun r4 h=>ba h (fun h6 h=>ai h6<|L h) (fun h6 h=>ai h6<|aW h fun w7 h=>ai w7<|L h)) (fun h1 h=>ai (decide_eq_false h1)<|L h)
abbrev pr(a0:(List Level))(a1:af)(r:Int):aX×HP:=(.ret (I r),H0)
def jd:Option Int:=
 (lp (fun v=>ie a0 a1 v) 0).bind fun (x1:(Nat⊕(Nat×Bool)))=>match x1 with
 | .inl ya_2=>
  some (ya_2:Int)
 | .inr yb_2=>
  some (-1)
theorem nD(r:Int)(h:jd a0 a1=some r):call G Ω0 E0 126 [(.l 54 (a0.map au)),(.f 86 [(.e (.a [(I a1.Many),(.l 136 (a1.Grants.map az))]) 0)])] H0=some (pr a0 a1 r):=
 aF Zz (ao (.i (a0.length:Int))<|.or (.ex fun (ya_2:Nat)=>ao (.lp .ret ⟨[(4,(I (ya_2:Int)))],[],H0⟩)<|.nil) (.ex fun (yb_2:(Nat×Bool))=>ao (.lp (.ex 0) ⟨[(0,(.l 54 (a0.map au))),(1,(.f 86 [(.e (.a [(I a1.Many),(.l 136 (a1.Grants.map az))]) 0)])),(7,(I (a0.length:Int))),(8,(I (yb_2.1:Int))),(9,(.b yb_2.2))],[],H0⟩)<|.nil)) fun L=>ai (aL au a0)<|cZ h (ek (nC a0 a1) 0) (fun ya_2 h=>L h) (fun yb_2 h=>L h)
abbrev nE(a0:(List Level))(a1:af)(r:Bool):aX×HP:=(.ret (.b r),H0)
def ei:Option Bool:=
 (jd a0 a1).bind fun (r1:Int)=>
 some (decide (0≤r1))
theorem l9(r:Bool)(h:ei a0 a1=some r):call G Ω0 E0 85 [(.l 54 (a0.map au)),(.f 86 [(.e (.a [(I a1.Many),(.l 136 (a1.Grants.map az))]) 0)])] H0=some (nE a0 a1 r):=
 aF G85 (xI fun r1=>.nil) fun L=>aP h (nD a0 a1) fun r1 h=>L h
end
section
variable (a0:af)(a1:(List Level))
abbrev EG(a0:af)(a1:(List Level))(r:Int):aX×HP:=(.ret (I r),H0)
def pN:Option Int:=
 (ji a0).bind fun (r1:Int)=>
 if (r1 !=0)=true then
  some r1
 else
  (ei a1 a0).bind fun (r4:Bool)=>
  if r4=true then
   some 1
  else
   some 0
theorem A7(r:Int)(h:pN a0 a1=some r):call G Ω0 E0 45 [(.a [(I a0.Many),(.l 136 (a0.Grants.map az))]),(.l 54 (a1.map au))] H0=some (EG a0 a1 r):=
 aF G45 (bt<|xI fun r1=>oN (xB fun r4=>oN (.nil))) fun L=>tD<|aP h (oG a0) fun r1 h=>ba h (fun h3 h=>ai h3<|L h) (fun h3 h=>sK h3<|aP h (l9 a1 a0) fun r4 h=>ba h (fun h6 h=>ai h6<|L h) (fun h6 h=>ai h6<|L h))
end
section
variable (a0:af)(a1:Level)(a2:Level)
abbrev EH(a0:af)(a1:Level)(a2:Level)(r:(Bool×Int)):aX×HP:=(.ret (.tp [(.b r.1),(I r.2)]),H0)
def pO:Option (Bool×Int):=
 (pN a0 ([a1,a2])).bind fun (r1:Int)=>
 if (r1 !=0)=true then
  some (false,r1)
 else
  (fK a1 a2).bind fun (r4:Bool)=>
  some (r4,0)
theorem A8(r:(Bool×Int))(h:pO a0 a1 a2=some r):call G Ω0 E0 14 [(.a [(I a0.Many),(.l 136 (a0.Grants.map az))]),(.a [(.l 4 (a1.Readers.map AV.b)),(.l 4 (a1.Writers.map AV.b))]),(.a [(.l 4 (a2.Readers.map AV.b)),(.l 4 (a2.Writers.map AV.b))])] H0=some (EH a0 a1 a2 r):=
 aF G14 (dF<|ao (.l (([a1,a2]).map au))<|xI fun r1=>oN (dE<|xB fun r4=>.nil)) fun L=>ai tt<|ai tt<|ai tt<|ai (rfl:Z0)<|ai (rfl:Z0)<|ai (rfl:Z0)<|ai (rfl:[(.a [(.l 4 (a1.Readers.map AV.b)),(.l 4 (a1.Writers.map AV.b))]),(.a [(.l 4 (a2.Readers.map AV.b)),(.l 4 (a2.Writers.map AV.b))])]=([a1,a2]).map au)<|aP h (A7 a0 ([a1,a2])) fun r1 h=>ba h (fun h3 h=>ai h3<|L h) (fun h3 h=>ID h3<|aP h (jI a1 a2) fun r4 h=>L h)
end
section
variable (a0:Program)(a1:(List (List Int)))(a2:Int)
def jM(r1:(RunT×(List Level)×Int))(v0_10:Nat):Option (Nat⊕(Nat×Bool)):=
 if (v0_10:Int)<(r1.2.1.length:Int) then
  (a0.Vars[v0_10]?).bind fun (y12:Var)=>
  if y12.Known=true then
   (pL a0.af y12.Label).bind fun (r15:(Level×Int))=>
   (r1.2.1[v0_10]?).bind fun (y17:Level)=>
   (pO a0.af y17 r15.1).bind fun (r19:(Bool×Int))=>
   if (r15.2 !=0)=true then
    none
   else
    if (r19.2 !=0)=true then
     none
    else
     if r19.1=true then
      if IntKind.i64.wrap ((v0_10:Int)+1)=((v0_10+1:Nat):Int) then
       some (.inl (v0_10+1))
      else none
     else
      none
  else
   if IntKind.i64.wrap ((v0_10:Int)+1)=((v0_10+1:Nat):Int) then
    some (.inl (v0_10+1))
   else none
 else
  some (.inr (v0_10,decide ((v0_10:Int)<(r1.2.1.length:Int))))
abbrev A9(r1:(RunT×(List Level)×Int))(v:Nat):St:=⟨[(3,(.p ⟨0,3⟩ 0)),(8,(.l 54 (r1.2.1.map au))),(10,(I (v:Int)))],[(3,(aA a0))],H0⟩
abbrev Ba(r1:(RunT×(List Level)×Int))(x:(Nat×Bool)):aQ×St:=((.ex 0),⟨[(3,(.p ⟨0,3⟩ 0)),(8,(.l 54 (r1.2.1.map au))),(10,(I (x.1:Int))),(43,(.b x.2))],[(3,(aA a0))],H0⟩)
theorem Ad(r1:(RunT×(List Level)×Int))(v0_10:Nat)(o:Nat⊕(Nat×Bool))(h:jM a0 r1 v0_10=some o):bG E0 OT (A9 a0 r1) (Ba a0 r1) v0_10 o:=
 bP (ao (.i (r1.2.1.length:Int))<|.or (dE<|ao (.n v0_10)<|.ex fun (y12:Var)=>ao (.v (.a (jW y12)))<|.or (bf<|bt<|bt<|ao (.n v0_10)<|ao (.v (.a (jW y12)))<|.ex fun (r15:(Level×Int))=>ao (.v (.tp [(.a [(.l 4 (r15.1.Readers.map AV.b)),(.l 4 (r15.1.Writers.map AV.b))]),(I r15.2)]))<|dF<|ao (.n v0_10)<|.ex fun (y17:Level)=>ao (.v (.a [(.l 4 (y17.Readers.map AV.b)),(.l 4 (y17.Writers.map AV.b))]))<|bt<|.ex fun (r19:(Bool×Int))=>ao (.v (.tp [(.b r19.1),(I r19.2)]))<|bt<|bt<|bf<|bt<|bt<|bf<|bf<|ao (.i ((v0_10+1:Nat):Int))<|.nil) (bt<|ao (.i ((v0_10+1:Nat):Int))<|.nil)) (bf<|.nil)) fun L=>ai (aL au r1.2.1)<|bZ h (fun h11 h=>sK (decide_eq_true h11)<|ai (rI v0_10)<|aZ h fun y12 h13 h=>ai (aD bm h13)<|ba h (fun h14 h=>ai (congrArg not h14)<|ai tt<|ai tt<|ai (rfl:Z0)<|ai tt<|ai tt<|ai (rfl:Z0)<|ai tt<|ai tt<|ai (rI v0_10)<|ai (aD bm h13)<|qR<|aP h (A5 a0.af y12.Label) fun r15 h=>ai tt<|ai tt<|ai tt<|ai tt<|ai tt<|ai tt<|ai ff<|ai (rfl:Z0)<|ai tt<|ai (rfl:Z0)<|ai tt<|ai tt<|ai tt<|ai (rfl:Z0)<|ai tt<|ai tt<|ai tt<|ai (rI v0_10)<|aZ h fun y17 h18 h=>ai (aD au h18)<|ai tt<|ai tt<|ai (rfl:Z0)<|ai tt<|aP h (A8 a0.af y17 r15.1) fun r19 h=>oD<|Az h (fun _ h=>xc h) (fun h21 h=>Fh h21<|Az h (fun _ h=>xc h) (fun h22 h=>Fh h22<|Az h (fun h23 h=>ai (congrArg not h23)<|aW h fun w24 h=>ai w24<|L h) (fun _ h=>xc h)))) (fun h14 h=>ai (congrArg not h14)<|aW h fun w15 h=>ai w15<|L h)) (fun h11 h=>ai (decide_eq_false h11)<|L h)
abbrev Dz(a0:Program)(a1:(List (List Int)))(a2:Int)(r:Bool):aX×HP:=(.ret (.b r),H0)
def rr:Option Bool:=
 (l8 a0 a1 a2).bind fun (r1:(RunT×(List Level)×Int))=>
 (q9).bind fun (r3:Bool)=>
 if r3=true then
  (ra).bind fun (r6:Bool)=>
  if r6=true then
   if (r1.2.2 !=0)=true then
    some ((r1.2.1.length:Int)==0)
   else
    if ((r1.2.1.length:Int) !=(a0.Vars.length:Int))=true then
     none
    else
     (lp (fun v=>jM a0 r1 v) 0).bind fun (x11:(Nat×Bool))=>
     some true
  else
   none
 else
  none
theorem Ae(r:Bool)(h:rr a0 a1 a2=some r):call G Ω0 E0 4 [(.a (aA a0)),(.l 25 (a1.map (bB 3 (I)))),(I a2)] H0=some (Dz a0 a1 a2 r):=
 aF G4 (bt<|.ex fun (r1:(RunT×(List Level)×Int))=>ao (.v (.tp [(.a (BD r1.1)),(.l 54 (r1.2.1.map au)),(I r1.2.2)]))<|dE<|xB fun r3=>bt<|xB fun r6=>bt<|bf<|bf<|.or (bt<|ao (.i (r1.2.1.length:Int))<|.nil) (bf<|ao (.i (r1.2.1.length:Int))<|bt<|ao (.i (a0.Vars.length:Int))<|bf<|.ex fun (x11:(Nat×Bool))=>ao (.lp (.ex 0) ⟨[(3,(.p ⟨0,3⟩ 0)),(8,(.l 54 (r1.2.1.map au))),(10,(I (x11.1:Int))),(43,(.b x11.2))],[(3,(aA a0))],H0⟩)<|.nil)) fun L=>tD<|aP h (A3 a0 a1 a2) fun r1 h=>ai tt<|ai ff<|ai (rfl:Z0)<|ai tt<|ai (rfl:Z0)<|aP h (zV) fun r3 h=>Az h (fun h5 h=>ai (g0 (congrArg not h5))<|aP h (zW) fun r6 h=>qx (congrArg not h5)<|Az h (fun h8 h=>ai (congrArg not h8)<|ba h (fun h9 h=>ai h9<|ai (aL au r1.2.1)<|L h) (fun h9 h=>ai h9<|ai (aL au r1.2.1)<|ai (rfl:Z0)<|ai (aL bm a0.Vars)<|Az h (fun _ h=>xc h) (fun h10 h=>ai h10<|aP h (ek (Ad a0 r1) 0) fun x11 h=>L h))) (fun _ h=>xc h)) (fun _ h=>xc h)
end
end
end Go.Proofs.YtdpjofmmokaobaaGreat.A
