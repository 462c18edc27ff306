/- Functions of the program as plain functions, by program. -/
import Derived.Test.YtlmphbbhaeampaaGreatTypes
import Derived.Test.YtlmphbbhaeampaaGreatBase
import Derived.Test.YtlmphbbhaeampaaGreatRawF
set_option linter.all false
set_option maxRecDepth 100000
namespace Go.Proofs.YtlmphbbhaeampaaGreat.A
open Go
noncomputable section
variable [Lp]
section
variable (a0:Program)(a1:Int)
abbrev Np(a0:Program)(a1:Int)(r:Int):bA×HP:=(.ret (I r),H0)
def q9:Option Int:=
 (pG a0).bind fun r1=>
 if (r1 !=0)=true then
  some r1
 else
  (kv a0.an a1).bind fun r4=>
  if r4=true then
   some 0
  else
   some 5
theorem Im(r:Int)(h:q9 a0 a1=some r):call G Ω0 E0 85 [(.a (aD a0)),(I a1)] H0=some (Np a0 a1 r):=
 a8 G85 (bt<|xI fun r1=>oN (bt<|xB fun r4=>.or (bf<|.nil) (bt<|.nil))) fun L=>xn<|bI h (yG a0) fun r1 h=>b9 h (fun h3 h=>ai h3<|L h) (fun h3 h=>qO h3<|bI h (mj a0.an a1) fun r4 h=>b9 h (fun h6 h=>ai (av not h6)<|L h) (fun h6 h=>ai (av not h6)<|L h))
end
section
variable (a1:Event)(m:Nat)(a0:Program)
def qu:Option (Unit⊕Unit):=
 if a1.Which<0 then
  some (.inl ())
 else
  if (m:Int)≤a1.Which then
   some (.inl ())
  else
   some (.inr ())
abbrev nP(x:(Unit⊕Unit)):bh×St:=match x with | .inl ()=>(.ret,⟨[(4,(I 5))],[],H0⟩) | .inr ()=>(.ret,⟨[(4,(I 0))],[],H0⟩)
theorem zh(x:(Unit⊕Unit))(h:qu a1 m=some x):run G Ω0 E0 U6 ⟨[zP 3,(5,(zI m))],[(3,(cH a1))],H0⟩=some (nP x):=
 Cn (bt<|.or (bf<|bf<|bf<|bf<|bt<|bt<|.nil) (bt<|bt<|bt<|bt<|bt<|bf<|oN (.nil))) fun L=>ai (rfl:Z0)<|da h (fun h4 h=>cm (aE h4)<|cm (aE h4)<|rY (aE h4)<|L h) (fun h4 h=>cm (aG h4)<|ai (rfl:Z0)<|cm (aG h4)<|ai (aG h4)<|da h (fun h5 h=>ai (aE h5)<|L h) (fun h5 h=>ai (aG h5)<|L h))
abbrev Nq(a0:Program)(a1:Event)(r:Int):bA×HP:=(.ret (I r),H0)
def uo(a1:Event):Option Int:=
 if a1.Kind<1 then
  some 7
 else
  if 3<a1.Kind then
   some 7
  else
   if (a1.Kind==1)=true then
    (qu a1 a0.Outs.length).bind fun x4=>match x4 with
    | .inl j=>
     some 5
    | .inr k=>
     some 0
   else
    (qu a1 a0.Vars.length).bind fun x4=>match x4 with
    | .inl j=>
     some 5
    | .inr k=>
     some 0
theorem Io(a1:Event)(r:Int)(h:uo a0 a1=some r):call G Ω0 E0 86 [(.a (aD a0)),(.a (cH a1))] H0=some (Nq a0 a1 r):=
 a8 G86 (bt<|.or (TU<|.nil) (OV<|oN (bt<|ao (.i (a0.Vars.length:Int))<|bt<|.or (ee<|ao (.i (a0.Outs.length:Int))<|.fb<|.or (.ex fun (j:Unit)=>ao (.oe (nP (.inl j)))<|.nil) (.ex fun (k:Unit)=>ao (.oe (nP (.inr k)))<|.nil)) (bf<|.fb<|.or (.ex fun (j:Unit)=>ao (.oe (nP (.inl j)))<|.nil) (.ex fun (k:Unit)=>ao (.oe (nP (.inr k)))<|.nil))))) fun L=>bE<|ai (rfl:Z0)<|da h (fun h1 h=>cm (aE h1)<|ai (g0 (aE h1))<|rY (aE h1)<|L h) (fun h1 h=>ev5 (aG h1)<|da h (fun h2 h=>ai (aE h2)<|L h) (fun h2 h=>qO (aG h2)<|ai (bn dA a0.Vars)<|ai (rfl:Z0)<|b9 h (fun h3 h=>qO h3<|ai (bn aS a0.Outs)<|iy h (zh a1 a0.Outs.length) (fun j h=>L h) (fun k h=>L h)) (fun h3 h=>ai h3<|iy h (zh a1 a0.Vars.length) (fun j h=>L h) (fun k h=>L h))))
end
section
variable (dp:Nat)(hp:HP)(a0:Program)(a1:Int)(a2:Bool)
abbrev Qy(dp:Nat)(hp:HP)(a0:Program)(a1:Int)(a2:Bool)(r:si):bA×HP:=(.new (fU r),hp)
def CV:Option si:=
 (pR a0).bind fun r1=>
 some (⟨a0,r1,a1,a2⟩:si)
theorem K5(hz:aT dp hp)(a0:Program)(a1:Int)(a2:Bool)(r:si)(h:CV a0 a1 a2=some r):call G Ω0 ⟨dp,false⟩ 87 [(.a (aD a0)),(I a1),(.b a2)] hp=some (Qy dp hp a0 a1 a2 r):=
 IP G87 (ee<|.ex fun (r1:pD)=>ao (.v (.a [(.l 113 (r1.Vars.map aF)),(.l 113 (r1.Funcs.map aF))]))<|.nil) fun L=>bE<|ai (rN dp)<|ai tt<|ai (rN dp)<|ai tt<|bI h (Js a0) fun r1 h=>n4<|ai ((by simp [aD]):(((.a [(I a0.an.Many),(.l 79 (a0.an.Grants.map bW)),(.l 3 (a0.Speak.map I)),(.l 83 (a0.Ins.map aS)),(.l 83 (a0.Outs.map aS)),(.l 86 (a0.Vars.map dA)),(.l 91 (a0.Funcs.map cQ)),(.l 111 (a0.Main.map bK)),(.l 113 (r1.Vars.map aF)),(.l 113 (r1.Funcs.map aF)),(I a1),(.b a2)]):AV).deep dp&&(eA dp 13 [(12,(.a [(I a0.an.Many),(.l 79 (a0.an.Grants.map bW)),(.l 3 (a0.Speak.map I)),(.l 83 (a0.Ins.map aS)),(.l 83 (a0.Outs.map aS)),(.l 86 (a0.Vars.map dA)),(.l 91 (a0.Funcs.map cQ)),(.l 111 (a0.Main.map bK)),(.l 113 (r1.Vars.map aF)),(.l 113 (r1.Funcs.map aF)),(I a1),(.b a2)])),(11,(.b a2)),(10,(I a1)),(9,(.a [(.l 113 (r1.Vars.map aF)),(.l 113 (r1.Funcs.map aF))])),(8,(.a (aD a0))),(7,(.a (aD a0))),(1,(I a1)),(2,(.b a2)),(3,(.p ⟨dp,3⟩ 0))] [(3,(aD a0))]))=true)<|ai (rN dp)<|ai tt<|L h
end
section
variable (dp:Nat)(hp:HP)(k0:Key)(c0:si)(a0:Level)
abbrev GH(dp:Nat)(hp:HP)(k0:Key)(c0:si)(a0:Level)(r:Bool):bA×HP:=(.ret (.b r),aq hp k0 (fU c0))
def py:Option Bool:=
 if c0.touch=true then
  (cV c0.who).bind fun j2=>
  (a0.Writers[j2]?).bind fun y4=>
  some (!y4)
 else
  (cV c0.who).bind fun j2=>
  (a0.Readers[j2]?).bind fun y4=>
  some y4
theorem uD(c:k0.dp<dp)(hz:aT dp hp)(c0:si)(a0:Level)(r:Bool)(h:py c0 a0=some r):call G Ω0 ⟨dp,true⟩ 180 [(.p k0 0),(.a [(.l 4 (a0.Readers.map AV.b)),(.l 4 (a0.Writers.map AV.b))])] (aq hp k0 (fU c0))=some (GH dp hp k0 c0 a0 r):=
 let B:=au c;let A:=a7 hp k0 (fU c0);a8 ahq (bf<|ao (.l (fU c0))<|.or (bt<|bt<|bf<|ao (.l (fU c0))<|xN fun j2=>xB fun y4=>.nil) (bf<|bt<|bf<|ao (.l (fU c0))<|xN fun j2=>xB fun y4=>.nil)) fun L=>ai ((by simp [aM c,aR c]):(((.a [(.l 4 (a0.Readers.map AV.b)),(.l 4 (a0.Writers.map AV.b))]):AV).deep dp&&(eA dp 3 [(0,(.p k0 0)),(1,(.a [(.l 4 (a0.Readers.map AV.b)),(.l 4 (a0.Writers.map AV.b))]))] []))=true)<|ai B<|ai A<|b9 h (fun h1 h=>IS h1<|ai (rN dp)<|oo<|ai B<|ai A<|ai tt<|ez h fun j2 h3 h=>ai h3<|bm h fun y4 h5 h=>ai (aI AV.b h5)<|L h) (fun h1 h=>IS h1<|ai (rN dp)<|oo<|ai B<|ai A<|ai tt<|ez h fun j2 h3 h=>ai h3<|bm h fun y4 h5 h=>ai (aI AV.b h5)<|L h)
end
section
variable (dp:Nat)(hp:HP)(k0:Key)(c0:si)(a0:Event)
abbrev GI(dp:Nat)(hp:HP)(k0:Key)(c0:si)(a0:Event)(r:Bool):bA×HP:=(.ret (.b r),aq hp k0 (fU c0))
def pz:Option Bool:=
 if (a0.Kind==1)=true then
  (cV a0.Which).bind fun j2=>
  (c0.p.Outs[j2]?).bind fun y4=>
  (iB c0.p.an y4).bind fun r6=>
  (py c0 r6).bind fun r8=>
  some r8
 else
  (cV a0.Which).bind fun j2=>
  (c0.l.Vars[j2]?).bind fun y4=>
  (py c0 y4).bind fun r6=>
  some r6
theorem Di(c:k0.dp<dp)(hz:aT dp hp)(c0:si)(a0:Event)(r:Bool)(h:pz c0 a0=some r):call G Ω0 ⟨dp,true⟩ 133 [(.p k0 0),(.a (cH a0))] (aq hp k0 (fU c0))=some (GI dp hp k0 c0 a0 r):=
 let C:=au c;let B:=a7 hp k0 (fU c0);let A:=boxes dp [(3,(cH a0))] (aq hp k0 (fU c0));a8 agX (bt<|.or (nz<|ao (.l (fU c0))<|bf<|ao (.l (fU c0))<|bt<|xN fun j2=>.ex fun (y4:Label)=>ao (.v (.a [(bU y4.Read),(bU y4.Write)]))<|.ex fun (r6:Level)=>ao (.v (.a [(aC r6.Readers),(aC r6.Writers)]))<|xB fun r8=>ao (.h A)<|.nil) (bf<|bf<|ao (.l (fU c0))<|bt<|xN fun j2=>.ex fun (y4:Level)=>ao (.v (.a [(aC y4.Readers),(aC y4.Writers)]))<|xB fun r6=>ao (.h A)<|.nil)) fun L=>ai ((by simp [cH,aM c,aR c]):(((.a (cH a0)):AV).deep dp&&(eA dp 3 [(0,(.p k0 0)),(1,(.a (cH a0)))] []))=true)<|ai (rN dp)<|b9 h (fun h1 h=>ai h1<|bE<|bE<|bE<|ai C<|ai B<|tO<|ai C<|ai B<|bE<|ai (rN dp)<|ai tt<|ez h fun j2 h3 h=>ai h3<|bm h fun y4 h5 h=>ai (aI aS h5)<|bE<|bI h (lz c0.p.an y4) fun r6 h=>bE<|bm h fun r8 s h=>have s:=cO c (uD (dp+1) A k0 (aB c) (aQ (ak c hz)) c0 r6 _ s);ai s<|L h) (fun h1 h=>ai h1<|bE<|bE<|bE<|ai C<|ai B<|bE<|ai (rN dp)<|ai tt<|ez h fun j2 h3 h=>ai h3<|bm h fun y4 h5 h=>ai (aI aF h5)<|n4<|bm h fun r6 u h=>have u:=cO c (uD (dp+1) A k0 (aB c) (aQ (ak c hz)) c0 y4 _ u);ai u<|L h)
end
section
variable (c0:si)(a0:(List Event))(g:(List Event))(d:Nat)(hp:HP)(k0:Key)(dp:Nat)
def ko:Option (((List Event)×Nat)⊕((List Event)×Nat×Bool)):=
 if (d:Int)<(a0.length:Int) then
  (a0[d]?).bind fun y2=>
  (pz c0 y2).bind fun r4=>
  if r4=true then
   if g.length + [y2].length≤1000000000 then
    if IntKind.i64.wrap ((d:Int)+1)=((d+1:Nat):Int) then
     some (.inl (g++[y2],d+1))
    else none
   else none
  else
   if IntKind.i64.wrap ((d:Int)+1)=((d+1:Nat):Int) then
    some (.inl (g,d+1))
   else none
 else
  some (.inr (g,d,decide ((d:Int)<(a0.length:Int))))
abbrev GJ(c0:si)(a0:(List Event))(v:((List Event)×Nat)):St:=⟨[(0,(.p k0 0)),(5,(ot v.1)),(8,(ba a0)),(9,(zI a0.length)),(10,(I (v.2:Int)))],[],aq hp k0 (fU c0)⟩
abbrev zi(c0:si)(a0:(List Event))(x:((List Event)×Nat×Bool)):bh×St:=((.ex 0),⟨[(0,(.p k0 0)),(5,(ot x.1)),(8,(ba a0)),(9,(zI a0.length)),(10,(I (x.2.1:Int))),(11,(.b x.2.2))],[],aq hp k0 (fU c0)⟩)
theorem Fs(hp:HP)(k0:Key)(c:k0.dp<dp)(hz:aT dp hp)(c0:si)(a0:(List Event))(g:(List Event))(d:Nat)(o:((List Event)×Nat)⊕((List Event)×Nat×Bool))(h:ko c0 a0 g d=some o):cG ⟨dp,true⟩ U7 (GJ hp k0 c0 a0) (zi hp k0 c0 a0) (g,d) o:=
 let A:=((d+1:Nat):Int);cT (.or (bt<|ao (.n d)<|.ex fun (y2:Event)=>ao (.v (.a (cH y2)))<|fh<|xB fun r4=>ao (.h (boxes dp [(7,(cH y2))] (aq hp k0 (fU c0))))<|.or (ee<|ao (.l ([y2].map bS))<|ao (.l ((g++[y2]).map bS))<|ao (.i A)<|.nil) (bf<|ao (.i A)<|.nil)) (bf<|.nil)) fun L=>da h (fun h1 h=>ai (aE h1)<|ai (rI d)<|bm h fun y2 h3 h=>let B:=[y2].map bS;ai (aI bS h3)<|ai ((by simp [cH,aM c,aR c]):(eA dp 7 [(13,(.a (cH y2))),(12,(.e (.a (cH y2)) 0)),(0,(.p k0 0)),(5,(.o 128 (g.map bS))),(8,(.l 128 (a0.map bS))),(9,(I (a0.length:Int))),(10,(I (d:Int)))] [])=true)<|ai (rfl:dp=dp)<|ai (rN dp)<|ai tt<|ai (rN dp)<|ai (rN dp)<|ai tt<|bm h fun r4 w h=>have w:=cO c (Di (dp+1) (boxes dp [(7,(cH y2))] (aq hp k0 (fU c0))) k0 (aB c) (aQ (ak c hz)) c0 y2 _ w);ai w<|b9 h (fun h6 h=>ai h6<|ai (rN dp)<|ai (rfl:[(.a (cH y2))]=[y2].map bS)<|ai ff<|bc h fun h7 h=>ai ((fS bS (n:=4) (fun _=>rfl) [y2]):B.all (fun e=>e.nc==4)=true)<|ai ((jO h7 (by decide)):((g.map bS).length+B.length)*32≤140737488355328)<|ai ((jP h7):(g.map bS).length+B.length≤maxLen)<|ai (dI.symm:g.map bS++[y2].map bS=(g++[y2]).map bS)<|bc h fun w8 h=>ai w8<|L h) (fun h6 h=>ai h6<|bc h fun w7 h=>ai w7<|L h)) (fun h1 h=>ai (aG h1)<|L h)
abbrev JC(dp:Nat)(hp:HP)(k0:Key)(c0:si)(a0:(List Event))(r:(List Event)):bA×HP:=(.ret (.l 128 (r.map bS)),aq hp k0 (fU c0))
def vH:Option (List Event):=
 (lp (fun v=>ko c0 a0 v.1 v.2) (([]:List Event),0)).bind fun x1=>
 some x1.1
theorem Ft(hp:HP)(k0:Key)(c:k0.dp<dp)(hz:aT dp hp)(c0:si)(a0:(List Event))(r:(List Event))(h:vH c0 a0=some r):call G Ω0 ⟨dp,true⟩ 88 [(.p k0 0),(.l 128 (a0.map bS))] (aq hp k0 (fU c0))=some (JC dp hp k0 c0 a0 r):=
 a8 G88 (ao (.i (a0.length:Int))<|.ex fun (x1:((List Event)×Nat×Bool))=>ao (.dJ (zi hp k0 c0 a0 x1))<|.nil) fun L=>ai (bn bS a0)<|bI h (im (fun v=>Fs dp hp k0 c hz c0 a0 v.1 v.2) (([]:List Event),0)) fun x1 h=>L h
end
section
variable (a0:Program)(a3:(List Event))(f:Nat)(a1:Int)(a2:Bool)
def ll:Option (Nat⊕(Int⊕(Nat×Bool))):=
 if (f:Int)<(a3.length:Int) then
  (a3[f]?).bind fun y5=>
  (uo a0 y5).bind fun r7=>
  if (r7 !=0)=true then
   some (.inr (.inl r7))
  else
   if IntKind.i64.wrap ((f:Int)+1)=((f+1:Nat):Int) then
    some (.inl (f+1))
   else none
 else
  some (.inr (.inr (f,decide ((f:Int)<(a3.length:Int)))))
abbrev Ip(a3:(List Event))(v:Nat):St:=⟨[(1,(I a1)),(2,(.b a2)),(3,(ba a3)),zP 4,(20,(ba a3)),(21,(zI a3.length)),(22,(I (v:Int)))],[(4,(aD a0))],H0⟩
abbrev uq(a3:(List Event))(x:(Int⊕(Nat×Bool))):bh×St:=match x with | .inl z1=>(.ret,⟨[(8,(ba ([]:List Event))),(9,(I z1))],[],H0⟩) | .inr (z1,z2)=>((.ex 0),⟨[(1,(I a1)),(2,(.b a2)),(3,(ba a3)),zP 4,(20,(ba a3)),(21,(zI a3.length)),(22,(I (z1:Int))),(23,(.b z2))],[(4,(aD a0))],H0⟩)
theorem GK(a3:(List Event))(f:Nat)(o:Nat⊕(Int⊕(Nat×Bool)))(h:ll a0 a3 f=some o):cG E0 U1 (Ip a0 a1 a2 a3) (uq a0 a1 a2 a3) f o:=
 cT (.or (bt<|ao (.n f)<|.ex fun (y5:Event)=>ao (.v (.a (cH y5)))<|xp<|xI fun r7=>oN (ao (.i ((f+1:Nat):Int))<|.nil)) (bf<|.nil)) fun L=>da h (fun h4 h=>ai (aE h4)<|ai (rI f)<|bm h fun y5 h6 h=>ai (aI bS h6)<|ai tt<|oq<|kg<|bI h (Io a0 y5) fun r7 h=>b9 h (fun h9 h=>ai h9<|L h) (fun h9 h=>ai h9<|bc h fun y h=>ai y<|L h)) (fun h4 h=>ai (aG h4)<|L h)
abbrev K6(a0:Program)(a1:Int)(a2:Bool)(a3:(List Event))(r:((List Event)×Int)):bA×HP:=(.ret (.tp [(.l 128 (r.1.map bS)),(I r.2)]),H0)
def pO(a3:(List Event)):Option ((List Event)×Int):=
 (q9 a0 a1).bind fun r1=>
 if (r1 !=0)=true then
  some (([]:List Event),r1)
 else
  (lp (fun v=>ll a0 a3 v) 0).bind fun x4=>match x4 with
  | .inl j=>
   some (([]:List Event),j)
  | .inr k=>
   (CV a0 a1 a2).bind fun r7=>
   (vH r7 a3).bind fun r9=>
   some (r9,0)
theorem zj(a3:(List Event))(r:((List Event)×Int))(h:pO a0 a1 a2 a3=some r):call G Ω0 E0 31 [(.a (aD a0)),(I a1),(.b a2),(.l 128 (a3.map bS))] H0=some (K6 a0 a1 a2 a3 r):=
 let A:=(4,(aD a0));let B:=boxes 0 [A] H0;a8 G31 (bt<|xI fun r1=>oN (ao (.i (a3.length:Int))<|.or (.ex fun (j:Int)=>ao (.dJ (uq a0 a1 a2 a3 (.inl j)))<|.nil) (.ex fun (k:(Nat×Bool))=>ao (.dJ (uq a0 a1 a2 a3 (.inr k)))<|bt<|.ex fun (r7:si)=>ao (.l (fU r7))<|ao (.h B)<|ao (.bx [A])<|ao (.h H0)<|.ex fun (r9:(List Event))=>ao (.v (ba r9))<|ao (.h (boxes 0 [(36,(fU r7)),A] H0))<|.nil))) fun L=>xn<|bI h (Im a0 a1) fun r1 h=>b9 h (fun h3 h=>ai h3<|L h) (fun h3 h=>ai h3<|ai (bn bS a3)<|iy h (im (GK a0 a1 a2 a3) 0) (fun j h=>L h) (fun k h=>ai (rfl:Z0)<|ep<|bm h fun r7 t h=>let C:=(36,(fU r7));have t:call G Ω0 ⟨0+1,false⟩ 87 [(.a (aD a0)),(I a1),(.b a2)] B=some (.new (fU r7),boxes 0 [A] H0):=K5 (0+1) B (aQ (fq 0)) a0 a1 a2 _ t;eW t (fq 0)<|bE<|bm h fun r9 q h=>have q:call G Ω0 ⟨0+1,true⟩ 88 [(zQ 36),(ba a3)] (boxes 0 [C,A] H0)=some (.ret (ba r9),boxes 0 [C,A] H0):=dX (dt (bx1:=[C,A]) (by kernel_rfl) (by kernel_rfl)) (dt (bx1:=[C,A]) (by kernel_rfl) (by kernel_rfl)) (Ft (0+1) (boxes 0 [C,A] H0) ⟨0,36⟩ (gP 0) (aQ (fq 0)) r7 a3 _ q);ai q<|L h))
end
end
end Go.Proofs.YtlmphbbhaeampaaGreat.A
