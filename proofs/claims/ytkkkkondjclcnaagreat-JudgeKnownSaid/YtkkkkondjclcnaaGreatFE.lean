/- Functions of the program as plain functions, by program. -/
import Derived.Test.YtkkkkondjclcnaaGreatFEP1
set_option maxRecDepth 100000
set_option linter.unusedSectionVars false
set_option linter.unusedVariables false
set_option linter.unusedSimpArgs false
set_option linter.constructorNameAsVariable false
namespace Go.Proofs.YtkkkkondjclcnaaGreat.A
open Go
noncomputable section
variable [Lp]
section
variable (a0:(List aD))(a1:(List (List Bool)))(a2:Int)
def jq(v0_8:Nat):Option (Nat⊕(Nat⊕(Nat×Bool))):=
 if (v0_8:Int)<(a0.length:Int) then
  (a0[v0_8]?).bind fun (y2:aD)=>
  (ml y2 a1 a2).bind fun (r4:Bool)=>
  if r4=true then
   some (.inr (.inl v0_8))
  else
   if IntKind.i64.wrap ((v0_8:Int)+1)=((v0_8+1:Nat):Int) then
    some (.inl (v0_8+1))
   else none
 else
  some (.inr (.inr (v0_8,decide ((v0_8:Int)<(a0.length:Int)))))
abbrev qa(v:Nat):St:=⟨[(0,(.l 138 (a0.map au))),(1,(.f 104 [(.e (.l 43 (a1.map (cz 4 AV.b))) 0),(.e (I a2) 0)])),(7,(I (a0.length:Int))),(8,(I (v:Int)))],[],H0⟩
abbrev eS(x:(Nat⊕(Nat×Bool))):aI×St:=match x with | .inl z1=>(.ret,⟨[(4,(I (z1:Int)))],[],H0⟩) | .inr (z1,z2)=>((.ex 0),⟨[(0,(.l 138 (a0.map au))),(1,(.f 104 [(.e (.l 43 (a1.map (cz 4 AV.b))) 0),(.e (I a2) 0)])),(7,(I (a0.length:Int))),(8,(I (z1:Int))),(9,(.b z2))],[],H0⟩)
theorem px(v0_8:Nat)(o:Nat⊕(Nat⊕(Nat×Bool)))(h:jq a0 a1 a2 v0_8=some o):bB E0 GZ (qa a0 a1 a2) (eS a0 a1 a2) v0_8 o:=
 bL (.or (bt<|ao (.n v0_8)<|.ex fun (y2:aD)=>ao (.v (.a [(I y2.Owner),(.l 3 (y2.Names.map (I)))]))<|xB fun r4=>oN (ao (.i ((v0_8+1:Nat):Int))<|.nil)) (bf<|.nil)) fun L=>bZ h (fun h1 h=>ai (decide_eq_true h1)<|ai (rI v0_8)<|bO h fun y2 h3 h=>ai (aU au h3)<|aT h (BE y2 a1 a2) fun r4 h=>bE h (fun h6 h=>ai h6<|L h) (fun h6 h=>ai h6<|aR h fun w7 h=>ai w7<|L h)) (fun h1 h=>ai (decide_eq_false h1)<|L h)
abbrev rp(a0:(List aD))(a1:(List (List Bool)))(a2:Int)(r:Int):aQ×HP:=(.ret (I r),H0)
def ko:Option Int:=
 (lp (fun v=>jq a0 a1 a2 v) 0).bind fun (x1:(Nat⊕(Nat×Bool)))=>match x1 with
 | .inl ya_2=>
  some (ya_2:Int)
 | .inr yb_2=>
  some (-1)
theorem py(r:Int)(h:ko a0 a1 a2=some r):call G Ω0 E0 144 [(.l 138 (a0.map au)),(.f 104 [(.e (.l 43 (a1.map (cz 4 AV.b))) 0),(.e (I a2) 0)])] H0=some (rp a0 a1 a2 r):=
 aJ UD (ao (.i (a0.length:Int))<|.or (.ex fun (ya_2:Nat)=>ao (.cu (eS a0 a1 a2 (.inl ya_2)))<|.nil) (.ex fun (yb_2:(Nat×Bool))=>ao (.cu (eS a0 a1 a2 (.inr yb_2)))<|.nil)) fun L=>ai (aG au a0)<|ec h (gl (px a0 a1 a2) 0) (fun ya_2 h=>L h) (fun yb_2 h=>L h)
abbrev pz(a0:(List aD))(a1:(List (List Bool)))(a2:Int)(r:Bool):aQ×HP:=(.ret (.b r),H0)
def eE:Option Bool:=
 (ko a0 a1 a2).bind fun (r1:Int)=>
 some (decide (0≤r1))
theorem nB(r:Bool)(h:eE a0 a1 a2=some r):call G Ω0 E0 107 [(.l 138 (a0.map au)),(.f 104 [(.e (.l 43 (a1.map (cz 4 AV.b))) 0),(.e (I a2) 0)])] H0=some (pz a0 a1 a2 r):=
 aJ UB (xI fun r1=>.nil) fun L=>aT h (py a0 a1 a2) fun r1 h=>L h
end
section
variable (a0:(List aD))(a1:aa)(a2:(List (List Bool)))
def jT(v0_5:(List Bool))(v0_10:Nat):Option (((List Bool)×Nat)⊕((List Bool)×Nat×Bool)):=
 if (v0_10:Int)<a1.Many then
  (eE a0 a2 (v0_10:Int)).bind fun (r2:Bool)=>
  if v0_5.length+([!r2]).length≤1000000000 then
   if IntKind.i64.wrap ((v0_10:Int)+1)=((v0_10+1:Nat):Int) then
    some (.inl (v0_5++([!r2]),v0_10+1))
   else none
  else none
 else
  some (.inr (v0_5,v0_10,decide ((v0_10:Int)<a1.Many)))
abbrev EC(v:((List Bool)×Nat)):St:=⟨[(0,(.l 138 (a0.map au))),(2,(.e (.l 43 (a2.map (cz 4 AV.b))) 0)),(5,(.o 4 (v.1.map AV.b))),(9,(I a1.Many)),(10,(I (v.2:Int)))],[],H0⟩
abbrev xT(x:((List Bool)×Nat×Bool)):aI×St:=((.ex 0),⟨[(0,(.l 138 (a0.map au))),(2,(.e (.l 43 (a2.map (cz 4 AV.b))) 0)),(5,(.o 4 (x.1.map AV.b))),(9,(I a1.Many)),(10,(I (x.2.1:Int))),(11,(.b x.2.2))],[],H0⟩)
theorem Dw(v0_5:(List Bool))(v0_10:Nat)(o:((List Bool)×Nat)⊕((List Bool)×Nat×Bool))(h:jT a0 a1 a2 v0_5 v0_10=some o):bB E0 Md (EC a0 a1 a2) (xT a0 a1 a2) (v0_5,v0_10) o:=
 bL (.or (ew<|xB fun r2=>ao (.l (([!r2]).map AV.b))<|ao (.l ((v0_5++([!r2])).map AV.b))<|ao (.i ((v0_10+1:Nat):Int))<|.nil) (bf<|.nil)) fun L=>bZ h (fun h1 h=>ai (decide_eq_true h1)<|ai tt<|jd<|dO<|ai (rfl:Z0)<|aT h (nB a0 a2 (v0_10:Int)) fun r2 h=>ai (rfl:[(.b (!r2))]=([!r2]).map AV.b)<|ai ff<|aR h fun h4 h=>ai ((fQ AV.b (n:=1) (fun _=>rfl) ([!r2])):(([!r2]).map AV.b).all (fun e=>e.nc==1)=true)<|ai ((kE h4 (by decide)):((v0_5.map AV.b).length+(([!r2]).map AV.b).length)*1≤140737488355328)<|ai ((kG h4):(v0_5.map AV.b).length+(([!r2]).map AV.b).length≤maxLen)<|ai (List.map_append.symm:v0_5.map AV.b++([!r2]).map AV.b=(v0_5++([!r2])).map AV.b)<|aR h fun w5 h=>ai w5<|L h) (fun h1 h=>ai (decide_eq_false h1)<|L h)
abbrev Hx(a0:(List aD))(a1:aa)(a2:(List (List Bool)))(r:(List Bool)):aQ×HP:=(.ret (.l 4 (r.map AV.b)),H0)
def oD:Option (List Bool):=
 (lp (fun v=>jT a0 a1 a2 v.1 v.2) (([]:List Bool),0)).bind fun (x1:((List Bool)×Nat×Bool))=>
 some x1.1
theorem wQ(r:(List Bool))(h:oD a0 a1 a2=some r):call G Ω0 E0 103 [(.l 138 (a0.map au)),(.e (.a [(I a1.Many),(.l 166 (a1.Grants.map aB))]) 0),(.e (.l 43 (a2.map (cz 4 AV.b))) 0)] H0=some (Hx a0 a1 a2 r):=
 aJ abB (.ex fun (x1:((List Bool)×Nat×Bool))=>ao (.cu (xT a0 a1 a2 x1))<|.nil) fun L=>aT h (gl (fun v=>Dw a0 a1 a2 v.1 v.2) (([]:List Bool),0)) fun x1 h=>L h
end
section
variable (a0:aa)(a1:Label)
abbrev Ls(a0:aa)(a1:Label)(r:Level):aQ×HP:=(.ret (.a [(.l 4 (r.Readers.map AV.b)),(.l 4 (r.Writers.map AV.b))]),H0)
def jD:Option Level:=
 (oB a0).bind fun (r1:(List (List Bool)))=>
 (oD a1.Read a0 r1).bind fun (r3:(List Bool))=>
 (oD a1.Write a0 r1).bind fun (r5:(List Bool))=>
 some (⟨r3,r5⟩:Level)
theorem qT(r:Level)(h:jD a0 a1=some r):call G Ω0 E0 40 [(.a [(I a0.Many),(.l 166 (a0.Grants.map aB))]),(.a [(.l 138 (a1.Read.map au)),(.l 138 (a1.Write.map au))])] H0=some (Ls a0 a1 r):=
 aJ G40 (bt<|.ex fun (r1:(List (List Bool)))=>ao (.v (.l 43 (r1.map (cz 4 AV.b))))<|ew<|.ex fun (r3:(List Bool))=>ao (.v (.l 4 (r3.map AV.b)))<|bt<|.ex fun (r5:(List Bool))=>ao (.v (.l 4 (r5.map AV.b)))<|gT<|.nil) fun L=>bJ<|dO<|aT h (wP a0) fun r1 h=>ai tt<|jd<|dO<|ai (rfl:Z0)<|ai (rfl:Z0)<|bJ<|dO<|ai tt<|aT h (wQ a1.Read a0 r1) fun r3 h=>bJ<|dO<|ai tt<|aT h (wQ a1.Write a0 r1) fun r5 h=>Ll<|L h
end
section
variable (a0:aa)(a1:Level)
abbrev Gf(a0:aa)(a1:Level)(r:Bool):aQ×HP:=(.ret (.b r),H0)
def qU:Option Bool:=
 if ((a1.Readers.length:Int)==a0.Many)=true then
  some ((a1.Writers.length:Int)==a0.Many)
 else
  some false
theorem Cc(r:Bool)(h:qU a0 a1=some r):call G Ω0 E0 100 [(.a [(I a0.Many),(.l 166 (a0.Grants.map aB))]),(.a [(.l 4 (a1.Readers.map AV.b)),(.l 4 (a1.Writers.map AV.b))])] H0=some (Gf a0 a1 r):=
 aJ aby (bt<|ao (.i (a1.Readers.length:Int))<|bt<|.or (zu<|ao (.i (a1.Writers.length:Int))<|tJ<|.nil) (Pj<|.nil)) fun L=>bJ<|ai (rfl:Z0)<|ai (aG AV.b a1.Readers)<|ai (rfl:Z0)<|bE h (fun h1 h=>bG h1<|ai (rfl:Z0)<|ai (g1 h1)<|ai (aG AV.b a1.Writers)<|bG h1<|ai (rfl:Z0)<|sj h1<|L h) (fun h1 h=>bG h1<|bG h1<|bG h1<|ai h1<|L h)
end
section
variable (a0:Level)(a1:aa)
abbrev Dx(a0:Level)(a1:aa)(r:Bool):aQ×HP:=(.ret (.b r),H0)
def nP:Option Bool:=
 (qU a1 a0).bind fun (r1:Bool)=>
 some (!r1)
theorem Ag(r:Bool)(h:nP a0 a1=some r):call G Ω0 E0 131 [(.a [(.l 4 (a0.Readers.map AV.b)),(.l 4 (a0.Writers.map AV.b))]),(.e (.a [(I a1.Many),(.l 166 (a1.Grants.map aB))]) 0)] H0=some (Dx a0 a1 r):=
 aJ abQ (bt<|xB fun r1=>.nil) fun L=>dO<|aT h (Cc a1 a0) fun r1 h=>L h
end
section
variable (a0:(List Level))(a1:aa)
def iV(v0_8:Nat):Option (Nat⊕(Nat⊕(Nat×Bool))):=
 if (v0_8:Int)<(a0.length:Int) then
  (a0[v0_8]?).bind fun (y2:Level)=>
  (nP y2 a1).bind fun (r4:Bool)=>
  if r4=true then
   some (.inr (.inl v0_8))
  else
   if IntKind.i64.wrap ((v0_8:Int)+1)=((v0_8+1:Nat):Int) then
    some (.inl (v0_8+1))
   else none
 else
  some (.inr (.inr (v0_8,decide ((v0_8:Int)<(a0.length:Int)))))
abbrev pA(v:Nat):St:=⟨[(0,(.l 45 (a0.map aE))),(1,(.f 131 [(.e (.a [(I a1.Many),(.l 166 (a1.Grants.map aB))]) 0)])),(7,(I (a0.length:Int))),(8,(I (v:Int)))],[],H0⟩
abbrev eF(x:(Nat⊕(Nat×Bool))):aI×St:=match x with | .inl z1=>(.ret,⟨[(4,(I (z1:Int)))],[],H0⟩) | .inr (z1,z2)=>((.ex 0),⟨[(0,(.l 45 (a0.map aE))),(1,(.f 131 [(.e (.a [(I a1.Many),(.l 166 (a1.Grants.map aB))]) 0)])),(7,(I (a0.length:Int))),(8,(I (z1:Int))),(9,(.b z2))],[],H0⟩)
theorem oE(v0_8:Nat)(o:Nat⊕(Nat⊕(Nat×Bool)))(h:iV a0 a1 v0_8=some o):bB E0 Ms (pA a0 a1) (eF a0 a1) v0_8 o:=
 bL (.or (bt<|ao (.n v0_8)<|.ex fun (y2:Level)=>ao (.v (.a [(.l 4 (y2.Readers.map AV.b)),(.l 4 (y2.Writers.map AV.b))]))<|xB fun r4=>oN (ao (.i ((v0_8+1:Nat):Int))<|.nil)) (bf<|.nil)) fun L=>bZ h (fun h1 h=>ai (decide_eq_true h1)<|ai (rI v0_8)<|bO h fun y2 h3 h=>ai (aU aE h3)<|aT h (Ag y2 a1) fun r4 h=>bE h (fun h6 h=>ai h6<|L h) (fun h6 h=>ai h6<|aR h fun w7 h=>ai w7<|L h)) (fun h1 h=>ai (decide_eq_false h1)<|L h)
abbrev qD(a0:(List Level))(a1:aa)(r:Int):aQ×HP:=(.ret (I r),H0)
def jK:Option Int:=
 (lp (fun v=>iV a0 a1 v) 0).bind fun (x1:(Nat⊕(Nat×Bool)))=>match x1 with
 | .inl ya_2=>
  some (ya_2:Int)
 | .inr yb_2=>
  some (-1)
theorem oF(r:Int)(h:jK a0 a1=some r):call G Ω0 E0 142 [(.l 45 (a0.map aE)),(.f 131 [(.e (.a [(I a1.Many),(.l 166 (a1.Grants.map aB))]) 0)])] H0=some (qD a0 a1 r):=
 aJ abZ (ao (.i (a0.length:Int))<|.or (.ex fun (ya_2:Nat)=>ao (.cu (eF a0 a1 (.inl ya_2)))<|.nil) (.ex fun (yb_2:(Nat×Bool))=>ao (.cu (eF a0 a1 (.inr yb_2)))<|.nil)) fun L=>ai (aG aE a0)<|ec h (gl (oE a0 a1) 0) (fun ya_2 h=>L h) (fun yb_2 h=>L h)
abbrev oG(a0:(List Level))(a1:aa)(r:Bool):aQ×HP:=(.ret (.b r),H0)
def er:Option Bool:=
 (jK a0 a1).bind fun (r1:Int)=>
 some (decide (0≤r1))
theorem na(r:Bool)(h:er a0 a1=some r):call G Ω0 E0 101 [(.l 45 (a0.map aE)),(.f 131 [(.e (.a [(I a1.Many),(.l 166 (a1.Grants.map aB))]) 0)])] H0=some (oG a0 a1 r):=
 aJ abz (xI fun r1=>.nil) fun L=>aT h (oF a0 a1) fun r1 h=>L h
end
section
variable (a0:aa)(a1:(List Level))
abbrev Gg(a0:aa)(a1:(List Level))(r:Int):aQ×HP:=(.ret (I r),H0)
def qV:Option Int:=
 (mc a0).bind fun (r1:Int)=>
 if (r1 !=0)=true then
  some r1
 else
  (er a1 a0).bind fun (r4:Bool)=>
  if r4=true then
   some 1
  else
   some 0
theorem Cd(r:Int)(h:qV a0 a1=some r):call G Ω0 E0 91 [(.a [(I a0.Many),(.l 166 (a0.Grants.map aB))]),(.l 45 (a1.map aE))] H0=some (Gg a0 a1 r):=
 aJ G91 (bt<|xI fun r1=>oN (xB fun r4=>oN (.nil))) fun L=>dO<|aT h (uB a0) fun r1 h=>bE h (fun h3 h=>ai h3<|L h) (fun h3 h=>uA h3<|aT h (na a1 a0) fun r4 h=>bE h (fun h6 h=>ai h6<|L h) (fun h6 h=>ai h6<|L h))
end
section
variable (a0:aa)(a1:Level)(a2:Level)
abbrev Gh(a0:aa)(a1:Level)(a2:Level)(r:(Bool×Int)):aQ×HP:=(.ret (.tp [(.b r.1),(I r.2)]),H0)
def qW:Option (Bool×Int):=
 (qV a0 ([a1,a2])).bind fun (r1:Int)=>
 if (r1 !=0)=true then
  some (false,r1)
 else
  (df a1 a2).bind fun (r4:Bool)=>
  some (r4,0)
theorem Ce(r:(Bool×Int))(h:qW a0 a1 a2=some r):call G Ω0 E0 35 [(.a [(I a0.Many),(.l 166 (a0.Grants.map aB))]),(.a [(.l 4 (a1.Readers.map AV.b)),(.l 4 (a1.Writers.map AV.b))]),(.a [(.l 4 (a2.Readers.map AV.b)),(.l 4 (a2.Writers.map AV.b))])] H0=some (Gh a0 a1 a2 r):=
 aJ G35 (ew<|ao (.l (([a1,a2]).map aE))<|xI fun r1=>oN (gT<|xB fun r4=>.nil)) fun L=>bJ<|dO<|ai (rfl:Z0)<|ai (rfl:Z0)<|ai (rfl:[(.a [(.l 4 (a1.Readers.map AV.b)),(.l 4 (a1.Writers.map AV.b))]),(.a [(.l 4 (a2.Readers.map AV.b)),(.l 4 (a2.Writers.map AV.b))])]=([a1,a2]).map aE)<|aT h (Cd a0 ([a1,a2])) fun r1 h=>bE h (fun h3 h=>ai h3<|L h) (fun h3 h=>ai h3<|ai (rfl:Z0)<|ai (rfl:Z0)<|aT h (il a1 a2) fun r4 h=>L h)
end
section
variable (dp:Nat)(hp:HP)(k0:Key)(a0:Int)
abbrev xU(dp:Nat)(hp:HP)(k0:Key)(k1:Key)(a0:Int)(c0:Unit)(c1:aA)(a1:Int)(r:(Bool×Unit)):aQ×HP:=(.ret (.b r.1),ab (ab hp k0 [(.p k1 0)]) k1 (af c1))
def iW(c0:Unit)(c1:aA)(a1:Int):Option (Bool×Unit):=
 (dG a0).bind fun (j1:Nat)=>
 (c1.eG[j1]?).bind fun (y3:(List Bool))=>
 (dG a1).bind fun (j5:Nat)=>
 (y3[j5]?).bind fun (y7:Bool)=>
 some (y7,())
theorem vI(hk_k0:k0.dp<dp)(k1:Key)(hk_k1:k1.dp<dp)(hn_k0_k1:k0≠k1)(hz:ax dp hp)(a0:Int)(c0:Unit)(c1:aA)(a1:Int)(r:(Bool×Unit))(h:iW a0 c0 c1 a1=some r):call G Ω0 ⟨dp,false⟩ 176 [(I a0),(.p k0 0),(.e (I a1) 0)] (ab (ab hp k0 [(.p k1 0)]) k1 (af c1))=some (xU dp hp k0 k1 a0 c0 c1 a1 r):=
 aJ acm (bf<|ao (.l [(.p k1 0)])<|bf<|ao (.l (af c1))<|xN fun j1=>.ex fun (y3:(List Bool))=>ao (.v (.l 4 (y3.map AV.b)))<|xN fun j5=>xB fun y7=>.nil) fun L=>ai tt<|ai (Nat.ne_of_lt hk_k0)<|ai (Li hn_k0_k1:(ab (ab hp k0 [(.p k1 0)]) k1 (af c1)) k0=some [(.p k1 0)])<|yF<|ai (Nat.ne_of_lt hk_k1)<|ai (cD (ab hp k0 [(.p k1 0)]) k1 (af c1))<|bJ<|rR h fun j1 h2 h=>ai h2<|bO h fun y3 h4 h=>ai (aU (cz 4 AV.b) h4)<|yF<|rR h fun j5 h6 h=>ai h6<|bO h fun y7 h8 h=>ai (aU AV.b h8)<|L h
end
section
variable (a0:(List Int))(c1:aA)(a1:Int)(dp:Nat)(hp:HP)(k0:Key)
def fI(v0_8:Nat):Option (Nat⊕(Nat⊕(Nat×Bool))):=
 if (v0_8:Int)<(a0.length:Int) then
  (a0[v0_8]?).bind fun (y2:Int)=>
  (iW y2 () c1 a1).bind fun (r4:(Bool×Unit))=>
  if r4.1=true then
   some (.inr (.inl v0_8))
  else
   if IntKind.i64.wrap ((v0_8:Int)+1)=((v0_8+1:Nat):Int) then
    some (.inl (v0_8+1))
   else none
 else
  some (.inr (.inr (v0_8,decide ((v0_8:Int)<(a0.length:Int)))))
abbrev mE(dp:Nat)(hp:HP)(k0:Key)(k1:Key)(a0:(List Int))(c1:aA)(a1:Int)(v:Nat):St:=⟨[(0,(.l 3 (a0.map (I)))),(1,(.f 176 [(.p k0 0),(.e (I a1) 0)])),(7,(I (a0.length:Int))),(8,(I (v:Int)))],[],ab (ab hp k0 [(.p k1 0)]) k1 (af c1)⟩
abbrev dm(dp:Nat)(hp:HP)(k0:Key)(k1:Key)(a0:(List Int))(c1:aA)(a1:Int)(x:(Nat⊕(Nat×Bool))):aI×St:=match x with | .inl z1=>(.ret,⟨[(4,(I (z1:Int)))],[],ab (ab hp k0 [(.p k1 0)]) k1 (af c1)⟩) | .inr (z1,z2)=>((.ex 0),⟨[(0,(.l 3 (a0.map (I)))),(1,(.f 176 [(.p k0 0),(.e (I a1) 0)])),(7,(I (a0.length:Int))),(8,(I (z1:Int))),(9,(.b z2))],[],ab (ab hp k0 [(.p k1 0)]) k1 (af c1)⟩)
theorem mm(hk_k0:k0.dp<dp)(k1:Key)(hk_k1:k1.dp<dp)(hn_k0_k1:k0≠k1)(hz:ax dp hp)(a0:(List Int))(c1:aA)(a1:Int)(v0_8:Nat)(o:Nat⊕(Nat⊕(Nat×Bool)))(h:fI a0 c1 a1 v0_8=some o):bB ⟨dp,false⟩ xA (mE dp hp k0 k1 a0 c1 a1) (dm dp hp k0 k1 a0 c1 a1) v0_8 o:=
 bL (.or (bt<|ao (.n v0_8)<|xI fun y2=>.ex fun (r4:(Bool×Unit))=>ao (.v (.b r4.1))<|ao (.h (boxes dp [] (ab (ab hp k0 [(.p k1 0)]) k1 (af c1))))<|ao (.bx [])<|ao (.h (ab (ab hp k0 [(.p k1 0)]) k1 (af c1)))<|oN (ao (.i ((v0_8+1:Nat):Int))<|.nil)) (bf<|.nil)) fun L=>bZ h (fun h1 h=>ai (decide_eq_true h1)<|ai (rI v0_8)<|bO h fun y2 h3 h=>ai (aU (I) h3)<|mO<|bO h fun r4 ek5 h=>have ek5:=JU hk_k0 hk_k1 hn_k0_k1 (vI (dp+1) (boxes dp [] (ab (ab hp k0 [(.p k1 0)]) k1 (af c1))) k0 (Nat.lt_succ_of_lt hk_k0) k1 (Nat.lt_succ_of_lt hk_k1) (hn_k0_k1) (bX (aF hk_k1 (aF hk_k0 (hz)))) y2 () c1 a1 _ ek5);ai ek5<|ai (oi ek5 (by kernel_rfl) (by kernel_rfl))<|ai (oj ek5 (aF hk_k1 (aF hk_k0 (hz))))<|bE h (fun h6 h=>ai h6<|L h) (fun h6 h=>ai h6<|aR h fun w7 h=>ai w7<|L h)) (fun h1 h=>ai (decide_eq_false h1)<|L h)
abbrev ng(dp:Nat)(hp:HP)(k0:Key)(k1:Key)(a0:(List Int))(c0:Unit)(c1:aA)(a1:Int)(r:(Int×Unit)):aQ×HP:=(.ret (I r.1),ab (ab hp k0 [(.p k1 0)]) k1 (af c1))
def gm(c0:Unit)(c1:aA)(a1:Int):Option (Int×Unit):=
 (lp (fun v=>fI a0 c1 a1 v) 0).bind fun (x1:(Nat⊕(Nat×Bool)))=>match x1 with
 | .inl ya_2=>
  some ((ya_2:Int),())
 | .inr yb_2=>
  some ((-1),())
theorem mn(hk_k0:k0.dp<dp)(k1:Key)(hk_k1:k1.dp<dp)(hn_k0_k1:k0≠k1)(hz:ax dp hp)(a0:(List Int))(c0:Unit)(c1:aA)(a1:Int)(r:(Int×Unit))(h:gm a0 c0 c1 a1=some r):call G Ω0 ⟨dp,false⟩ 143 [(.l 3 (a0.map (I))),(.f 176 [(.p k0 0),(.e (I a1) 0)])] (ab (ab hp k0 [(.p k1 0)]) k1 (af c1))=some (ng dp hp k0 k1 a0 c0 c1 a1 r):=
 aJ G1 (ao (.i (a0.length:Int))<|.or (.ex fun (ya_2:Nat)=>ao (.cu (dm dp hp k0 k1 a0 c1 a1 (.inl ya_2)))<|.nil) (.ex fun (yb_2:(Nat×Bool))=>ao (.cu (dm dp hp k0 k1 a0 c1 a1 (.inr yb_2)))<|.nil)) fun L=>ai (aG (I) a0)<|ec h (gl (mm dp hp k0 hk_k0 k1 hk_k1 hn_k0_k1 hz a0 c1 a1) 0) (fun ya_2 h=>L h) (fun yb_2 h=>L h)
abbrev mo(dp:Nat)(hp:HP)(k0:Key)(k1:Key)(a0:(List Int))(c0:Unit)(c1:aA)(a1:Int)(r:(Bool×Unit)):aQ×HP:=(.ret (.b r.1),ab (ab hp k0 [(.p k1 0)]) k1 (af c1))
def di(c0:Unit)(c1:aA)(a1:Int):Option (Bool×Unit):=
 (gm a0 () c1 a1).bind fun (r1:(Int×Unit))=>
 some ((decide (0≤r1.1)),())
theorem ll(hk_k0:k0.dp<dp)(k1:Key)(hk_k1:k1.dp<dp)(hn_k0_k1:k0≠k1)(hz:ax dp hp)(a0:(List Int))(c0:Unit)(c1:aA)(a1:Int)(r:(Bool×Unit))(h:di a0 c0 c1 a1=some r):call G Ω0 ⟨dp,false⟩ 105 [(.l 3 (a0.map (I))),(.f 176 [(.p k0 0),(.e (I a1) 0)])] (ab (ab hp k0 [(.p k1 0)]) k1 (af c1))=some (mo dp hp k0 k1 a0 c0 c1 a1 r):=
 aJ G0 (.ex fun (r1:(Int×Unit))=>ao (.v (I r1.1))<|ao (.h (boxes dp [] (ab (ab hp k0 [(.p k1 0)]) k1 (af c1))))<|ao (.bx [])<|ao (.h (ab (ab hp k0 [(.p k1 0)]) k1 (af c1)))<|.nil) fun L=>mO<|bO h fun r1 ek2 h=>have ek2:=JU hk_k0 hk_k1 hn_k0_k1 (mn (dp+1) (boxes dp [] (ab (ab hp k0 [(.p k1 0)]) k1 (af c1))) k0 (Nat.lt_succ_of_lt hk_k0) k1 (Nat.lt_succ_of_lt hk_k1) (hn_k0_k1) (bX (aF hk_k1 (aF hk_k0 (hz)))) a0 () c1 a1 _ ek2);ai ek2<|ai (oi ek2 (by kernel_rfl) (by kernel_rfl))<|ai (oj ek2 (aF hk_k1 (aF hk_k0 (hz))))<|L h
end
section
variable (dp:Nat)(hp:HP)(k0:Key)(c0:aA)(a0:Int)
abbrev zH(dp:Nat)(hp:HP)(k0:Key)(c0:aA)(a0:Int)(r:Bool):aQ×HP:=(.ret (.b r),ab hp k0 (af c0))
def kH:Option Bool:=
 (di c0.p.Speak () c0 a0).bind fun (r1:(Bool×Unit))=>
 some r1.1
theorem xp(hk_k0:k0.dp<dp)(hz:ax dp hp)(c0:aA)(a0:Int)(r:Bool)(h:kH c0 a0=some r):call G Ω0 ⟨dp,false⟩ 174 [(.p k0 0),(I a0)] (ab hp k0 (af c0))=some (zH dp hp k0 c0 a0 r):=
 aJ acj (vu<|ao (.l (af c0))<|.ex fun (r1:(Bool×Unit))=>ao (.v (.b r1.1))<|ao (.h (boxes dp [(2,[(.p k0 0)])] (ab hp k0 (af c0))))<|ao (.bx [(2,[(.p k0 0)])])<|ao (.h (ab hp k0 (af c0)))<|.nil) fun L=>ai ((by simp [AV.bb,AV.bM,AV.deep,AV.bP,aP hk_k0,Nat.le_of_lt hk_k0]):(((.p k0 0):AV).deep dp&&(([(0,(.p k0 0)),(1,(I a0))]:List (Nat×AV)).all (fun y=>y.2.bb ⟨dp,2⟩)&&([]:List (Nat×List AV)).all (fun y=>AV.bM ⟨dp,2⟩ y.2)))=true)<|ai ((by simp [AV.bb,AV.bM,AV.deep,AV.bP,aP hk_k0,Nat.le_of_lt hk_k0]):(((I a0):AV).deep dp&&(([(2,(.p ⟨dp,2⟩ 0)),(0,(.p k0 0)),(1,(I a0))]:List (Nat×AV)).all (fun y=>y.2.bb ⟨dp,3⟩)&&([(2,[(.p k0 0)])]:List (Nat×List AV)).all (fun y=>AV.bM ⟨dp,3⟩ y.2)))=true)<|ai (rN dp)<|ai (rN dp)<|ai (Nat.ne_of_lt hk_k0)<|ai (cD hp k0 (af c0))<|ai ff<|ai ((by simp [AV.deep,AV.bP,Nat.le_of_lt hk_k0]):([(2,[(.p k0 0)])]:List (Nat×List AV)).all (fun y=>AV.bP dp y.2)=true)<|bO h fun r1 ek2 h=>have ek2:call G Ω0 ⟨dp+1,false⟩ 105 [(.l 3 (c0.p.Speak.map (I))),(.f 176 [(.p ⟨dp,2⟩ 0),(.e (I a0) 0)])] (boxes dp [(2,[(.p k0 0)])] (ab hp k0 (af c0)))=some (.ret (.b r1.1),boxes dp [(2,[(.p k0 0)])] (ab hp k0 (af c0))):=jP (ij (dN (bx1:=[(2,[(.p k0 0)])]) (by kernel_rfl) (by kernel_rfl)) (dA (hp1:=ab hp k0 (af c0)) (Nat.ne_of_lt hk_k0) (dI ..))) (ij (dN (bx1:=[(2,[(.p k0 0)])]) (by kernel_rfl) (by kernel_rfl)) (dA (hp1:=ab hp k0 (af c0)) (Nat.ne_of_lt hk_k0) (dI ..))) (ll (dp+1) (boxes dp [(2,[(.p k0 0)])] (ab hp k0 (af c0))) ⟨dp,2⟩ (Nat.lt_succ_self dp) k0 (Nat.lt_succ_of_lt hk_k0) (xE hk_k0) (bX (aF hk_k0 (hz))) c0.p.Speak () c0 a0 _ ek2);ai ek2<|ai (oi ek2 (by kernel_rfl) (by kernel_rfl))<|ai (oj ek2 (aF hk_k0 (hz)))<|L h
end
section
variable (dp:Nat)(hp:HP)(k0:Key)(a0:aD)
abbrev xV(dp:Nat)(hp:HP)(k0:Key)(k1:Key)(a0:aD)(c0:Unit)(c1:aA)(r:(Bool×Unit)):aQ×HP:=(.ret (.b r.1),ab (ab hp k0 [(.p k1 0)]) k1 (af c1))
def iX(c0:Unit)(c1:aA):Option (Bool×Unit):=
 (kH c1 a0.Owner).bind fun (r1:Bool)=>
 some ((!r1),())
theorem vJ(hk_k0:k0.dp<dp)(k1:Key)(hk_k1:k1.dp<dp)(hn_k0_k1:k0≠k1)(hz:ax dp hp)(a0:aD)(c0:Unit)(c1:aA)(r:(Bool×Unit))(h:iX a0 c0 c1=some r):call G Ω0 ⟨dp,false⟩ 173 [(.a [(I a0.Owner),(.l 3 (a0.Names.map (I)))]),(.p k0 0)] (ab (ab hp k0 [(.p k1 0)]) k1 (af c1))=some (xV dp hp k0 k1 a0 c0 c1 r):=
 aJ aci (bf<|ao (.l [(.p k1 0)])<|bt<|xB fun r1=>ao (.h (boxes dp [(2,[(I a0.Owner),(.l 3 (a0.Names.map (I)))])] (ab (ab hp k0 [(.p k1 0)]) k1 (af c1))))<|ao (.bx [(2,[(I a0.Owner),(.l 3 (a0.Names.map (I)))])])<|ao (.h (ab (ab hp k0 [(.p k1 0)]) k1 (af c1)))<|.nil) fun L=>ai ((by simp [AV.bb,AV.bM,AV.deep,AV.bP,aP hk_k0,Nat.le_of_lt hk_k0,aP hk_k1,Nat.le_of_lt hk_k1]):(((.a [(I a0.Owner),(.l 3 (a0.Names.map (I)))]):AV).deep dp&&(([(0,(.a [(I a0.Owner),(.l 3 (a0.Names.map (I)))])),(1,(.p k0 0))]:List (Nat×AV)).all (fun y=>y.2.bb ⟨dp,2⟩)&&([]:List (Nat×List AV)).all (fun y=>AV.bM ⟨dp,2⟩ y.2)))=true)<|ai (Nat.ne_of_lt hk_k0)<|ai (Li hn_k0_k1:(ab (ab hp k0 [(.p k1 0)]) k1 (af c1)) k0=some [(.p k1 0)])<|ai (rN dp)<|mO<|bO h fun r1 ek2 h=>have ek2:call G Ω0 ⟨dp+1,false⟩ 174 [(.p k1 0),(I a0.Owner)] (boxes dp [(2,[(I a0.Owner),(.l 3 (a0.Names.map (I)))])] (ab (ab hp k0 [(.p k1 0)]) k1 (af c1)))=some (.ret (.b r1),boxes dp [(2,[(I a0.Owner),(.l 3 (a0.Names.map (I)))])] (ab (ab hp k0 [(.p k1 0)]) k1 (af c1))):=jP (dA (hp1:=ab (ab hp k0 [(.p k1 0)]) k1 (af c1)) (Nat.ne_of_lt hk_k1) (dI ..)) (dA (hp1:=ab (ab hp k0 [(.p k1 0)]) k1 (af c1)) (Nat.ne_of_lt hk_k1) (dI ..)) (xp (dp+1) (boxes dp [(2,[(I a0.Owner),(.l 3 (a0.Names.map (I)))])] (ab (ab hp k0 [(.p k1 0)]) k1 (af c1))) k1 (Nat.lt_succ_of_lt hk_k1) (bX (aF hk_k1 (aF hk_k0 (hz)))) c1 a0.Owner _ ek2);ai ek2<|ai (oi ek2 (by kernel_rfl) (by kernel_rfl))<|ai (oj ek2 (aF hk_k1 (aF hk_k0 (hz))))<|L h
end
section
variable (a0:(List aD))(c1:aA)(dp:Nat)(hp:HP)(k0:Key)
def fJ(v0_8:Nat):Option (Nat⊕(Nat⊕(Nat×Bool))):=
 if (v0_8:Int)<(a0.length:Int) then
  (a0[v0_8]?).bind fun (y2:aD)=>
  (iX y2 () c1).bind fun (r4:(Bool×Unit))=>
  if r4.1=true then
   some (.inr (.inl v0_8))
  else
   if IntKind.i64.wrap ((v0_8:Int)+1)=((v0_8+1:Nat):Int) then
    some (.inl (v0_8+1))
   else none
 else
  some (.inr (.inr (v0_8,decide ((v0_8:Int)<(a0.length:Int)))))
abbrev mF(dp:Nat)(hp:HP)(k0:Key)(k1:Key)(a0:(List aD))(c1:aA)(v:Nat):St:=⟨[(0,(.l 138 (a0.map au))),(1,(.f 173 [(.p k0 0)])),(7,(I (a0.length:Int))),(8,(I (v:Int)))],[],ab (ab hp k0 [(.p k1 0)]) k1 (af c1)⟩
abbrev dq(dp:Nat)(hp:HP)(k0:Key)(k1:Key)(a0:(List aD))(c1:aA)(x:(Nat⊕(Nat×Bool))):aI×St:=match x with | .inl z1=>(.ret,⟨[(4,(I (z1:Int)))],[],ab (ab hp k0 [(.p k1 0)]) k1 (af c1)⟩) | .inr (z1,z2)=>((.ex 0),⟨[(0,(.l 138 (a0.map au))),(1,(.f 173 [(.p k0 0)])),(7,(I (a0.length:Int))),(8,(I (z1:Int))),(9,(.b z2))],[],ab (ab hp k0 [(.p k1 0)]) k1 (af c1)⟩)
theorem mq(hk_k0:k0.dp<dp)(k1:Key)(hk_k1:k1.dp<dp)(hn_k0_k1:k0≠k1)(hz:ax dp hp)(a0:(List aD))(c1:aA)(v0_8:Nat)(o:Nat⊕(Nat⊕(Nat×Bool)))(h:fJ a0 c1 v0_8=some o):bB ⟨dp,false⟩ GZ (mF dp hp k0 k1 a0 c1) (dq dp hp k0 k1 a0 c1) v0_8 o:=
 bL (.or (bt<|ao (.n v0_8)<|.ex fun (y2:aD)=>ao (.v (.a [(I y2.Owner),(.l 3 (y2.Names.map (I)))]))<|.ex fun (r4:(Bool×Unit))=>ao (.v (.b r4.1))<|ao (.h (boxes dp [] (ab (ab hp k0 [(.p k1 0)]) k1 (af c1))))<|ao (.bx [])<|ao (.h (ab (ab hp k0 [(.p k1 0)]) k1 (af c1)))<|oN (ao (.i ((v0_8+1:Nat):Int))<|.nil)) (bf<|.nil)) fun L=>bZ h (fun h1 h=>ai (decide_eq_true h1)<|ai (rI v0_8)<|bO h fun y2 h3 h=>ai (aU au h3)<|mO<|bO h fun r4 ek5 h=>have ek5:=JU hk_k0 hk_k1 hn_k0_k1 (vJ (dp+1) (boxes dp [] (ab (ab hp k0 [(.p k1 0)]) k1 (af c1))) k0 (Nat.lt_succ_of_lt hk_k0) k1 (Nat.lt_succ_of_lt hk_k1) (hn_k0_k1) (bX (aF hk_k1 (aF hk_k0 (hz)))) y2 () c1 _ ek5);ai ek5<|ai (oi ek5 (by kernel_rfl) (by kernel_rfl))<|ai (oj ek5 (aF hk_k1 (aF hk_k0 (hz))))<|bE h (fun h6 h=>ai h6<|L h) (fun h6 h=>ai h6<|aR h fun w7 h=>ai w7<|L h)) (fun h1 h=>ai (decide_eq_false h1)<|L h)
abbrev nh(dp:Nat)(hp:HP)(k0:Key)(k1:Key)(a0:(List aD))(c0:Unit)(c1:aA)(r:(Int×Unit)):aQ×HP:=(.ret (I r.1),ab (ab hp k0 [(.p k1 0)]) k1 (af c1))
def gn(c0:Unit)(c1:aA):Option (Int×Unit):=
 (lp (fun v=>fJ a0 c1 v) 0).bind fun (x1:(Nat⊕(Nat×Bool)))=>match x1 with
 | .inl ya_2=>
  some ((ya_2:Int),())
 | .inr yb_2=>
  some ((-1),())
theorem mr(hk_k0:k0.dp<dp)(k1:Key)(hk_k1:k1.dp<dp)(hn_k0_k1:k0≠k1)(hz:ax dp hp)(a0:(List aD))(c0:Unit)(c1:aA)(r:(Int×Unit))(h:gn a0 c0 c1=some r):call G Ω0 ⟨dp,false⟩ 144 [(.l 138 (a0.map au)),(.f 173 [(.p k0 0)])] (ab (ab hp k0 [(.p k1 0)]) k1 (af c1))=some (nh dp hp k0 k1 a0 c0 c1 r):=
 aJ UD (ao (.i (a0.length:Int))<|.or (.ex fun (ya_2:Nat)=>ao (.cu (dq dp hp k0 k1 a0 c1 (.inl ya_2)))<|.nil) (.ex fun (yb_2:(Nat×Bool))=>ao (.cu (dq dp hp k0 k1 a0 c1 (.inr yb_2)))<|.nil)) fun L=>ai (aG au a0)<|ec h (gl (mq dp hp k0 hk_k0 k1 hk_k1 hn_k0_k1 hz a0 c1) 0) (fun ya_2 h=>L h) (fun yb_2 h=>L h)
abbrev mw(dp:Nat)(hp:HP)(k0:Key)(k1:Key)(a0:(List aD))(c0:Unit)(c1:aA)(r:(Bool×Unit)):aQ×HP:=(.ret (.b r.1),ab (ab hp k0 [(.p k1 0)]) k1 (af c1))
def dj(c0:Unit)(c1:aA):Option (Bool×Unit):=
 (gn a0 () c1).bind fun (r1:(Int×Unit))=>
 some ((decide (0≤r1.1)),())
theorem lq(hk_k0:k0.dp<dp)(k1:Key)(hk_k1:k1.dp<dp)(hn_k0_k1:k0≠k1)(hz:ax dp hp)(a0:(List aD))(c0:Unit)(c1:aA)(r:(Bool×Unit))(h:dj a0 c0 c1=some r):call G Ω0 ⟨dp,false⟩ 107 [(.l 138 (a0.map au)),(.f 173 [(.p k0 0)])] (ab (ab hp k0 [(.p k1 0)]) k1 (af c1))=some (mw dp hp k0 k1 a0 c0 c1 r):=
 aJ UB (.ex fun (r1:(Int×Unit))=>ao (.v (I r1.1))<|ao (.h (boxes dp [] (ab (ab hp k0 [(.p k1 0)]) k1 (af c1))))<|ao (.bx [])<|ao (.h (ab (ab hp k0 [(.p k1 0)]) k1 (af c1)))<|.nil) fun L=>mO<|bO h fun r1 ek2 h=>have ek2:=JU hk_k0 hk_k1 hn_k0_k1 (mr (dp+1) (boxes dp [] (ab (ab hp k0 [(.p k1 0)]) k1 (af c1))) k0 (Nat.lt_succ_of_lt hk_k0) k1 (Nat.lt_succ_of_lt hk_k1) (hn_k0_k1) (bX (aF hk_k1 (aF hk_k0 (hz)))) a0 () c1 _ ek2);ai ek2<|ai (oi ek2 (by kernel_rfl) (by kernel_rfl))<|ai (oj ek2 (aF hk_k1 (aF hk_k0 (hz))))<|L h
end
section
variable (dp:Nat)(hp:HP)(k0:Key)(c0:aA)(a0:(List aD))
abbrev sn(dp:Nat)(hp:HP)(k0:Key)(c0:aA)(a0:(List aD))(r:Bool):aQ×HP:=(.ret (.b r),ab hp k0 (af c0))
abbrev so(r:Bool):Prop:=call G Ω0 ⟨dp,false⟩ 171 [(.p k0 0),(.l 138 (a0.map au))] (ab hp k0 (af c0))=some (sn dp hp k0 c0 a0 r)
def dP:Option Bool:=
 (dj a0 () c0).bind fun (r1:(Bool×Unit))=>
 some (!r1.1)
theorem xq(hk_k0:k0.dp<dp)(hz:ax dp hp)(c0:aA)(a0:(List aD))(r:Bool)(h:dP c0 a0=some r):so dp hp k0 c0 a0 r:=
 aJ acg (.ex fun (r1:(Bool×Unit))=>ao (.v (.b r1.1))<|ao (.h (boxes dp [(2,[(.p k0 0)])] (ab hp k0 (af c0))))<|ao (.bx [(2,[(.p k0 0)])])<|ao (.h (ab hp k0 (af c0)))<|.nil) fun L=>ai ((by simp [AV.bb,AV.bM,AV.deep,AV.bP,aP hk_k0,Nat.le_of_lt hk_k0]):(((.p k0 0):AV).deep dp&&(([(0,(.p k0 0)),(1,(.l 138 (a0.map au)))]:List (Nat×AV)).all (fun y=>y.2.bb ⟨dp,2⟩)&&([]:List (Nat×List AV)).all (fun y=>AV.bM ⟨dp,2⟩ y.2)))=true)<|ai ff<|ai ((by simp [AV.deep,AV.bP,Nat.le_of_lt hk_k0]):([(2,[(.p k0 0)])]:List (Nat×List AV)).all (fun y=>AV.bP dp y.2)=true)<|bO h fun r1 ek2 h=>have ek2:call G Ω0 ⟨dp+1,false⟩ 107 [(.l 138 (a0.map au)),(.f 173 [(.p ⟨dp,2⟩ 0)])] (boxes dp [(2,[(.p k0 0)])] (ab hp k0 (af c0)))=some (.ret (.b r1.1),boxes dp [(2,[(.p k0 0)])] (ab hp k0 (af c0))):=jP (ij (dN (bx1:=[(2,[(.p k0 0)])]) (by kernel_rfl) (by kernel_rfl)) (dA (hp1:=ab hp k0 (af c0)) (Nat.ne_of_lt hk_k0) (dI ..))) (ij (dN (bx1:=[(2,[(.p k0 0)])]) (by kernel_rfl) (by kernel_rfl)) (dA (hp1:=ab hp k0 (af c0)) (Nat.ne_of_lt hk_k0) (dI ..))) (lq (dp+1) (boxes dp [(2,[(.p k0 0)])] (ab hp k0 (af c0))) ⟨dp,2⟩ (Nat.lt_succ_self dp) k0 (Nat.lt_succ_of_lt hk_k0) (xE hk_k0) (bX (aF hk_k0 (hz))) a0 () c0 _ ek2);ai ek2<|ai (oi ek2 (by kernel_rfl) (by kernel_rfl))<|ai (oj ek2 (aF hk_k0 (hz)))<|L h
end
end
end Go.Proofs.YtkkkkondjclcnaaGreat.A
