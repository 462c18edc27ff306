/- Functions of the program as plain functions, by program. -/
import Derived.Test.YtkkkkondjclcnaaGreatTypes
import Derived.Test.YtkkkkondjclcnaaGreatBase
import Derived.Test.YtkkkkondjclcnaaGreatRawF
set_option linter.all false
set_option maxRecDepth 100000
namespace Go.Proofs.YtkkkkondjclcnaaGreat.A
open Go
noncomputable section
variable [Lp]
section
variable (dp:Nat)(hp:HP)(a0:Program)
abbrev QZ(dp:Nat)(hp:HP)(a0:Program)(r:aK):bH×HP:=(.new (aw r),hp)
def yf:Option aK:=
 (sw a0.ak).bind fun r1=>
 some (⟨a0,r1⟩:aK)
theorem L8(hz:aO dp hp)(a0:Program)(r:aK)(h:yf a0=some r):call G Ω0 ⟨dp,false⟩ 122 [(.a (av a0))] hp=some (QZ dp hp a0 r):=
 Zc al0 (fN<|.ex fun (r1:(List (List Bool)))=>ao (.v (.l 43 (r1.map (eW 4 AV.b))))<|.nil) fun L=>cg<|ai (rN dp)<|cg<|ai (rN dp)<|ai tt<|bJ h (B6 a0.ak) fun r1 h=>ai tt<|ai ((by simp [av,AV.cb,AV.dm,AV.deep,AV.dt]):(((.a [(I a0.ak.Many),(.l 166 (a0.ak.Grants.map ct)),(.l 3 (a0.Speak.map (I))),(.l 81 (a0.Ins.map aH)),(.l 81 (a0.Outs.map aH)),(.l 83 (a0.Vars.map eo)),(.l 101 (a0.Funcs.map eO)),(.l 92 (a0.Main.map bK)),(.l 43 (r1.map (eW 4 AV.b)))]):AV).deep dp&&(([(7,(.a [(I a0.ak.Many),(.l 166 (a0.ak.Grants.map ct)),(.l 3 (a0.Speak.map (I))),(.l 81 (a0.Ins.map aH)),(.l 81 (a0.Outs.map aH)),(.l 83 (a0.Vars.map eo)),(.l 101 (a0.Funcs.map eO)),(.l 92 (a0.Main.map bK)),(.l 43 (r1.map (eW 4 AV.b)))])),(6,(.l 43 (r1.map (eW 4 AV.b)))),(5,(.a [(I a0.ak.Many),(.l 166 (a0.ak.Grants.map ct))])),(4,(.p ⟨dp,1⟩ 0)),(3,(.a (av a0))),(1,(.p ⟨dp,1⟩ 0))]:List (Nat×AV)).all (fun y=>y.2.cb ⟨dp,8⟩)&&([(1,(av a0))]:List (Nat×List AV)).all (fun y=>AV.dm ⟨dp,8⟩ y.2)))=true)<|ai (rN dp)<|ai tt<|L h
end
section
variable (dp:Nat)(hp:HP)(k0:Key)(a0:Int)
abbrev Af(dp:Nat)(hp:HP)(k0:Key)(k1:Key)(a0:Int)(c0:Unit)(c1:aK)(a1:Int)(r:(Bool×Unit)):bH×HP:=(.ret (.b r.1),ar (ar hp k0 [(.p k1 0)]) k1 (aw c1))
def jC(c0:Unit)(c1:aK)(a1:Int):Option (Bool×Unit):=
 (dV a1).bind fun j1=>
 (c1.dT[j1]?).bind fun y3=>
 (dV a0).bind fun j5=>
 (y3[j5]?).bind fun y7=>
 some (y7,())
theorem xT(c:k0.dp<dp)(k1:Key)(j:k1.dp<dp)(g:k0≠k1)(hz:aO dp hp)(a0:Int)(c0:Unit)(c1:aK)(a1:Int)(r:(Bool×Unit))(h:jC a0 c0 c1 a1=some r):call G Ω0 ⟨dp,false⟩ 175 [(I a0),(.p k0 0),(.e (I a1) 0)] (ar (ar hp k0 [(.p k1 0)]) k1 (aw c1))=some (Af dp hp k0 k1 a0 c0 c1 a1 r):=
 bu amz (bf<|ao (.l [(.p k1 0)])<|bf<|ao (.l (aw c1))<|xN fun j1=>.ex fun (y3:(List Bool))=>ao (.v (dQ y3))<|xN fun j5=>xB fun y7=>.nil) fun L=>ai tt<|ai (bQ c)<|ai (SS g:(ar (ar hp k0 [(.p k1 0)]) k1 (aw c1)) k0=some [(.p k1 0)])<|zb<|ai (bQ j)<|ai (iK (ar hp k0 [(.p k1 0)]) k1 (aw c1))<|cg<|mZ h fun j1 h2 h=>ai h2<|cn h fun y3 h4 h=>ai (aM (eW 4 AV.b) h4)<|zb<|mZ h fun j5 h6 h=>ai h6<|cn h fun y7 h8 h=>ai (aM AV.b h8)<|L h
end
section
variable (a0:(List Int))(c1:aK)(a1:Int)(k:Nat)(hp:HP)(k0:Key)(k1:Key)(dp:Nat)
def iS:Option (Nat⊕(Nat⊕(Nat×Bool))):=
 if (k:Int)<(a0.length:Int) then
  (a0[k]?).bind fun y2=>
  (jC y2 () c1 a1).bind fun r4=>
  if r4.1=true then
   some (.inr (.inl k))
  else
   if IntKind.i64.wrap ((k:Int)+1)=((k+1:Nat):Int) then
    some (.inl (k+1))
   else none
 else
  some (.inr (.inr (k,decide ((k:Int)<(a0.length:Int)))))
abbrev ot(a0:(List Int))(c1:aK)(a1:Int)(v:Nat):St:=⟨[(0,(dx a0)),(1,(.f 175 [(.p k0 0),(.e (I a1) 0)])),(7,(zI a0.length)),(8,(I (v:Int)))],[],ar (ar hp k0 [(.p k1 0)]) k1 (aw c1)⟩
abbrev eT(a0:(List Int))(c1:aK)(a1:Int)(x:(Nat⊕(Nat×Bool))):aN×St:=match x with | .inl z1=>(.ret,⟨[(4,(I (z1:Int)))],[],ar (ar hp k0 [(.p k1 0)]) k1 (aw c1)⟩) | .inr (z1,z2)=>((.ex 0),⟨[(0,(dx a0)),(1,(.f 175 [(.p k0 0),(.e (I a1) 0)])),(7,(zI a0.length)),(8,(I (z1:Int))),(9,(.b z2))],[],ar (ar hp k0 [(.p k1 0)]) k1 (aw c1)⟩)
theorem nD(hp:HP)(k0:Key)(c:k0.dp<dp)(k1:Key)(j:k1.dp<dp)(g:k0≠k1)(hz:aO dp hp)(a0:(List Int))(c1:aK)(a1:Int)(k:Nat)(o:Nat⊕(Nat⊕(Nat×Bool)))(h:iS a0 c1 a1 k=some o):bO ⟨dp,false⟩ Og (ot hp k0 k1 a0 c1 a1) (eT hp k0 k1 a0 c1 a1) k o:=
 bZ (.or (bt<|ao (.n k)<|xI fun y2=>.ex fun (r4:(Bool×Unit))=>ao (.v (.b r4.1))<|ao (.h (boxes dp [] (ar (ar hp k0 [(.p k1 0)]) k1 (aw c1))))<|ao (.bx [])<|ao (.h (ar (ar hp k0 [(.p k1 0)]) k1 (aw c1)))<|oN (ao (.i ((k+1:Nat):Int))<|.nil)) (bf<|.nil)) fun L=>cp h (fun h1 h=>ai (aA h1)<|ai (rI k)<|cn h fun y2 h3 h=>ai (aM (I) h3)<|p7<|cn h fun r4 u h=>have u:=Rp c j g (xT (dp+1) (boxes dp [] (ar (ar hp k0 [(.p k1 0)]) k1 (aw c1))) k0 (cT c) k1 (cT j) (g) (dJ (aU j (aU c (hz)))) y2 () c1 a1 _ u);ai u<|ai (sh u (by kernel_rfl) (by kernel_rfl))<|ai (si u (aU j (aU c (hz))))<|cG h (fun h6 h=>ai h6<|L h) (fun h6 h=>ai h6<|aW h fun w7 h=>ai w7<|L h)) (fun h1 h=>ai (ay h1)<|L h)
abbrev oO(dp:Nat)(hp:HP)(k0:Key)(k1:Key)(a0:(List Int))(c0:Unit)(c1:aK)(a1:Int)(r:(Int×Unit)):bH×HP:=(.ret (I r.1),ar (ar hp k0 [(.p k1 0)]) k1 (aw c1))
def jh(c0:Unit)(c1:aK)(a1:Int):Option (Int×Unit):=
 (lp (fun v=>iS a0 c1 a1 v) 0).bind fun x1=>match x1 with
 | .inl m=>
  some ((m:Int),())
 | .inr q=>
  some ((-1),())
theorem nE(hp:HP)(k0:Key)(c:k0.dp<dp)(k1:Key)(j:k1.dp<dp)(g:k0≠k1)(hz:aO dp hp)(a0:(List Int))(c0:Unit)(c1:aK)(a1:Int)(r:(Int×Unit))(h:jh a0 c0 c1 a1=some r):call G Ω0 ⟨dp,false⟩ 143 [(.l 3 (a0.map (I))),(.f 175 [(.p k0 0),(.e (I a1) 0)])] (ar (ar hp k0 [(.p k1 0)]) k1 (aw c1))=some (oO dp hp k0 k1 a0 c0 c1 a1 r):=
 bu Oi (ao (.i (a0.length:Int))<|.or (.ex fun (m:Nat)=>ao (.cD (eT hp k0 k1 a0 c1 a1 (.inl m)))<|.nil) (.ex fun (q:(Nat×Bool))=>ao (.cD (eT hp k0 k1 a0 c1 a1 (.inr q)))<|.nil)) fun L=>ai (aJ (I) a0)<|fc h (fC (nD dp hp k0 c k1 j g hz a0 c1 a1) 0) (fun m h=>L h) (fun q h=>L h)
abbrev nG(dp:Nat)(hp:HP)(k0:Key)(k1:Key)(a0:(List Int))(c0:Unit)(c1:aK)(a1:Int)(r:(Bool×Unit)):bH×HP:=(.ret (.b r.1),ar (ar hp k0 [(.p k1 0)]) k1 (aw c1))
def eL(c0:Unit)(c1:aK)(a1:Int):Option (Bool×Unit):=
 (jh a0 () c1 a1).bind fun r1=>
 some ((decide (0≤r1.1)),())
theorem mN(hp:HP)(k0:Key)(c:k0.dp<dp)(k1:Key)(j:k1.dp<dp)(g:k0≠k1)(hz:aO dp hp)(a0:(List Int))(c0:Unit)(c1:aK)(a1:Int)(r:(Bool×Unit))(h:eL a0 c0 c1 a1=some r):call G Ω0 ⟨dp,false⟩ 105 [(.l 3 (a0.map (I))),(.f 175 [(.p k0 0),(.e (I a1) 0)])] (ar (ar hp k0 [(.p k1 0)]) k1 (aw c1))=some (nG dp hp k0 k1 a0 c0 c1 a1 r):=
 bu Oh (.ex fun (r1:(Int×Unit))=>ao (.v (I r1.1))<|ao (.h (boxes dp [] (ar (ar hp k0 [(.p k1 0)]) k1 (aw c1))))<|ao (.bx [])<|ao (.h (ar (ar hp k0 [(.p k1 0)]) k1 (aw c1)))<|.nil) fun L=>p7<|cn h fun r1 s h=>have s:=Rp c j g (nE (dp+1) (boxes dp [] (ar (ar hp k0 [(.p k1 0)]) k1 (aw c1))) k0 (cT c) k1 (cT j) (g) (dJ (aU j (aU c (hz)))) a0 () c1 a1 _ s);ai s<|ai (sh s (by kernel_rfl) (by kernel_rfl))<|ai (si s (aU j (aU c (hz))))<|L h
end
section
variable (dp:Nat)(hp:HP)(k0:Key)(c0:aK)(a0:Int)
abbrev Bx(dp:Nat)(hp:HP)(k0:Key)(c0:aK)(a0:Int)(r:Bool):bH×HP:=(.ret (.b r),ar hp k0 (aw c0))
def kD:Option Bool:=
 (eL c0.p.Speak () c0 a0).bind fun r1=>
 some r1.1
theorem zw(c:k0.dp<dp)(hz:aO dp hp)(c0:aK)(a0:Int)(r:Bool)(h:kD c0 a0=some r):call G Ω0 ⟨dp,false⟩ 172 [(.p k0 0),(I a0)] (ar hp k0 (aw c0))=some (Bx dp hp k0 c0 a0 r):=
 bu amw (yG<|ao (.l (aw c0))<|.ex fun (r1:(Bool×Unit))=>ao (.v (.b r1.1))<|ao (.h (boxes dp [(2,[(.p k0 0)])] (ar hp k0 (aw c0))))<|ao (.bx [(2,[(.p k0 0)])])<|ao (.h (ar hp k0 (aw c0)))<|.nil) fun L=>ai ((by simp [AV.cb,AV.dm,AV.deep,AV.dt,bD c,ec c]):(((.p k0 0):AV).deep dp&&(([(0,(.p k0 0)),(1,(I a0))]:List (Nat×AV)).all (fun y=>y.2.cb ⟨dp,2⟩)&&([]:List (Nat×List AV)).all (fun y=>AV.dm ⟨dp,2⟩ y.2)))=true)<|ai ((by simp [AV.cb,AV.dm,AV.deep,AV.dt,bD c,ec c]):(((I a0):AV).deep dp&&(([(2,(.p ⟨dp,2⟩ 0)),(0,(.p k0 0)),(1,(I a0))]:List (Nat×AV)).all (fun y=>y.2.cb ⟨dp,3⟩)&&([(2,[(.p k0 0)])]:List (Nat×List AV)).all (fun y=>AV.dm ⟨dp,3⟩ y.2)))=true)<|ai (rN dp)<|ai (rN dp)<|ai (bQ c)<|ai (iK hp k0 (aw c0))<|ai ff<|ai ((by simp [AV.deep,AV.dt,ec c]):([(2,[(.p k0 0)])]:List (Nat×List AV)).all (fun y=>AV.dt dp y.2)=true)<|cn h fun r1 s h=>have s:call G Ω0 ⟨dp+1,false⟩ 105 [(dx c0.p.Speak),(.f 175 [(.p ⟨dp,2⟩ 0),(.e (I a0) 0)])] (boxes dp [(2,[(.p k0 0)])] (ar hp k0 (aw c0)))=some (.ret (.b r1.1),boxes dp [(2,[(.p k0 0)])] (ar hp k0 (aw c0))):=mJ (kT (gj (bx1:=[(2,[(.p k0 0)])]) (by kernel_rfl) (by kernel_rfl)) (fI (hp1:=ar hp k0 (aw c0)) (bQ c) (fW ..))) (kT (gj (bx1:=[(2,[(.p k0 0)])]) (by kernel_rfl) (by kernel_rfl)) (fI (hp1:=ar hp k0 (aw c0)) (bQ c) (fW ..))) (mN (dp+1) (boxes dp [(2,[(.p k0 0)])] (ar hp k0 (aw c0))) ⟨dp,2⟩ (mR dp) k0 (cT c) (CS c) (dJ (aU c (hz))) c0.p.Speak () c0 a0 _ s);ai s<|ai (sh s (by kernel_rfl) (by kernel_rfl))<|ai (si s (aU c (hz)))<|L h
end
section
variable (c0:aK)(a0:Level)(d:Nat)(hp:HP)(k0:Key)(dp:Nat)
def jD:Option (Nat⊕(Unit⊕(Nat×Bool))):=
 if (d:Int)<(a0.Writers.length:Int) then
  (a0.Writers[d]?).bind fun y2=>
  if y2=true then
   (kD c0 (d:Int)).bind fun r5=>
   if r5=true then
    if IntKind.i64.wrap ((d:Int)+1)=((d+1:Nat):Int) then
     some (.inl (d+1))
    else none
   else
    some (.inr (.inl ()))
  else
   if IntKind.i64.wrap ((d:Int)+1)=((d+1:Nat):Int) then
    some (.inl (d+1))
   else none
 else
  some (.inr (.inr (d,decide ((d:Int)<(a0.Writers.length:Int)))))
abbrev Ag(c0:aK)(a0:Level)(v:Nat):St:=⟨[(0,(.p k0 0)),(8,(dQ a0.Writers)),(9,(zI a0.Writers.length)),(10,(I (v:Int)))],[],ar hp k0 (aw c0)⟩
abbrev mn(c0:aK)(a0:Level)(x:(Unit⊕(Nat×Bool))):aN×St:=match x with | .inl ()=>(.ret,⟨[(4,(.b true))],[],ar hp k0 (aw c0)⟩) | .inr (z1,z2)=>((.ex 0),⟨[(0,(.p k0 0)),(8,(dQ a0.Writers)),(9,(zI a0.Writers.length)),(10,(I (z1:Int))),(11,(.b z2))],[],ar hp k0 (aw c0)⟩)
theorem zx(hp:HP)(k0:Key)(c:k0.dp<dp)(hz:aO dp hp)(c0:aK)(a0:Level)(d:Nat)(o:Nat⊕(Unit⊕(Nat×Bool)))(h:jD c0 a0 d=some o):bO ⟨dp,false⟩ Up (Ag hp k0 c0 a0) (mn hp k0 c0 a0) d o:=
 bZ (.or (bt<|ao (.n d)<|xB fun y2=>.or (ja<|xB fun r5=>ao (.h (boxes dp [] (ar hp k0 (aw c0))))<|ao (.bx [])<|ao (.h (ar hp k0 (aw c0)))<|fN<|.or (bf<|ao (.i ((d+1:Nat):Int))<|.nil) (bt<|.nil)) (Ws<|ao (.i ((d+1:Nat):Int))<|.nil)) (bf<|.nil)) fun L=>cp h (fun h1 h=>ai (aA h1)<|ai (rI d)<|cn h fun y2 h3 h=>ai (aM AV.b h3)<|cG h (fun h4 h=>cu h4<|ai (g1 h4)<|p7<|cn h fun r5 t h=>have t:=cO c (zw (dp+1) (boxes dp [] (ar hp k0 (aw c0))) k0 (cT c) (dJ (aU c (hz))) c0 (d:Int) _ t);ai t<|ai (sh t (by kernel_rfl) (by kernel_rfl))<|ai (si t (aU c (hz)))<|nB h4<|cG h (fun h7 h=>ai (an not h7)<|aW h fun w8 h=>ai w8<|L h) (fun h7 h=>ai (an not h7)<|L h)) (fun h4 h=>cu h4<|cu h4<|ai h4<|ai ff<|aW h fun w5 h=>ai w5<|L h)) (fun h1 h=>ai (ay h1)<|L h)
abbrev By(dp:Nat)(hp:HP)(k0:Key)(c0:aK)(a0:Level)(r:Bool):bH×HP:=(.ret (.b r),ar hp k0 (aw c0))
abbrev tY(hp:HP)(k0:Key)(c0:aK)(a0:Level)(r:Bool):Prop:=call G Ω0 ⟨dp,false⟩ 165 [(.p k0 0),(.a [(.l 4 (a0.Readers.map AV.b)),(.l 4 (a0.Writers.map AV.b))])] (ar hp k0 (aw c0))=some (By dp hp k0 c0 a0 r)
def kE:Option Bool:=
 (lp (fun v=>jD c0 a0 v) 0).bind fun x1=>match x1 with
 | .inl m=>
  some true
 | .inr q=>
  some false
theorem zy(hp:HP)(k0:Key)(c:k0.dp<dp)(hz:aO dp hp)(c0:aK)(a0:Level)(r:Bool)(h:kE c0 a0=some r):tY dp hp k0 c0 a0 r:=
 bu ams (bt<|ao (.i (a0.Writers.length:Int))<|.or (.ex fun (m:Unit)=>ao (.cD (mn hp k0 c0 a0 (.inl m)))<|.nil) (.ex fun (q:(Nat×Bool))=>ao (.cD (mn hp k0 c0 a0 (.inr q)))<|.nil)) fun L=>ai ((by simp [AV.cb,AV.dm,AV.deep,AV.dt,bD c,ec c]):(((.a [(.l 4 (a0.Readers.map AV.b)),(.l 4 (a0.Writers.map AV.b))]):AV).deep dp&&(([(0,(.p k0 0)),(1,(.a [(.l 4 (a0.Readers.map AV.b)),(.l 4 (a0.Writers.map AV.b))]))]:List (Nat×AV)).all (fun y=>y.2.cb ⟨dp,3⟩)&&([]:List (Nat×List AV)).all (fun y=>AV.dm ⟨dp,3⟩ y.2)))=true)<|ai (rN dp)<|ai (aJ AV.b a0.Writers)<|fc h (fC (zx dp hp k0 c hz c0 a0) 0) (fun m h=>L h) (fun q h=>L h)
end
end
end Go.Proofs.YtkkkkondjclcnaaGreat.A
