/- Functions of the program as plain functions, by program. -/
import Derived.Test.YtlmphbbhaeampaaGreatTypes
import Derived.Test.YtlmphbbhaeampaaGreatBase
import Derived.Test.YtlmphbbhaeampaaGreatStepF
set_option linter.all false
set_option maxRecDepth 100000
set_option maxHeartbeats 16000000
namespace Go.Proofs.YtlmphbbhaeampaaGreat.A
open Go
noncomputable section
variable [Lp]
section
variable (a0:aK)(a1:Int)
abbrev Mi(a0:aK)(a1:Int)(r:Int):bA×HP:=(.ret (I r),H0)
abbrev yz(r:Int):Prop:=call G Ω0 E0 142 [(.a (cL a0)),(I a1)] H0=some (Mi a0 a1 r)
end
structure yA where
 f_scope_size:aK→Int→Option Int
structure wW(R:yA):Prop where
 f_scope_size:∀ (a0:aK)(a1:Int)(r:Int),R.f_scope_size a0 a1=some r→yz a0 a1 r
section
variable (R:yA)(a0:aK)(a1:Int)(u:Int)(g:Nat)(m:Nat)
def rv:Option ((Int×Nat)⊕((Int×Nat×Bool×aK)⊕(Int×Nat×Bool))):=
 if (g:Int)<(a0.Args.length:Int) then
  (a0.Args[g]?).bind fun y2=>
  if a1<u then
   some (.inr (.inl (u,g,decide (a1<u),y2)))
  else
   if IntKind.i64.wrap (a1 - u)=a1 - u then
    (R.f_scope_size y2 (a1 - u)).bind fun r6=>
    if IntKind.i64.wrap (u+r6)=u+r6 then
     if IntKind.i64.wrap ((g:Int)+1)=((g+1:Nat):Int) then
      some (.inl (u+r6,g+1))
     else none
    else none
   else none
 else
  some (.inr (.inr (u,g,decide ((g:Int)<(a0.Args.length:Int)))))
abbrev IW(v:(Int×Nat)):St:=⟨[(1,(I a1)),(5,(I v.1)),(9,(ku a0.Args)),(10,(zI a0.Args.length)),(11,(I (v.2:Int)))],[],H0⟩
abbrev va(x:((Int×Nat×Bool×aK)⊕(Int×Nat×Bool))):bh×St:=match x with | .inl (z1,z2,z3,z4)=>((.ex 0),⟨[(1,(I a1)),(5,(I z1)),zP 7,(9,(ku a0.Args)),(10,(zI a0.Args.length)),(11,(I (z2:Int))),(17,(.b z3))],[(7,(cL z4))],H0⟩) | .inr (z1,z2,z3)=>((.ex 0),⟨[(1,(I a1)),(5,(I z1)),(9,(ku a0.Args)),(10,(zI a0.Args.length)),(11,(I (z2:Int))),(12,(.b z3))],[],H0⟩)
theorem Hx(hR:wW R)(a0:aK)(a1:Int)(u:Int)(g:Nat)(o:(Int×Nat)⊕((Int×Nat×Bool×aK)⊕(Int×Nat×Bool)))(h:rv R a0 a1 u g=some o):cG E0 Q1 (IW a0 a1) (va a0 a1) (u,g) o:=
 cT (.or (bt<|ao (.n g)<|.ex fun (y2:aK)=>ao (.v (.a (cL y2)))<|ee<|oN (bt<|ao (.i (a1 - u))<|xI fun r6=>ao (.i (u+r6))<|ao (.i ((g+1:Nat):Int))<|.nil)) (bf<|.nil)) fun L=>da h (fun h1 h=>ai (aE h1)<|ai (rI g)<|bm h fun y2 h3 h=>ai (nZ bM h3 (fT _))<|ai tt<|oq<|da h (fun h4 h=>ai (aE h4)<|L h) (fun h4 h=>qO (aG h4)<|bc h fun w5 h=>ai w5<|bI h (hR.f_scope_size y2 (a1 - u)) fun r6 h=>bc h fun w8 h=>ai w8<|bc h fun w9 h=>ai w9<|L h)) (fun h1 h=>ai (aG h1)<|L h)
def sA:Option Int:=
 (lp (fun v=>rv R a0 a1 v.1 v.2) (1,0)).bind fun x1=>match x1 with
 | .inl P=>
  some P.1
 | .inr O=>
  some O.1
theorem F8(hR:wW R)(a0:aK)(a1:Int)(r:Int)(h:sA R a0 a1=some r):yz a0 a1 r:=
 a8 ag0 (bt<|ao (.i (a0.Args.length:Int))<|.or (.ex fun (P:(Int×Nat×Bool×aK))=>ao (.dJ (va a0 a1 (.inl P)))<|.nil) (.ex fun (O:(Int×Nat×Bool))=>ao (.dJ (va a0 a1 (.inr O)))<|.nil)) fun L=>xn<|ai (bn bM a0.Args)<|iy h (im (fun v=>Hx R hR a0 a1 v.1 v.2) (1,0)) (fun P h=>L h) (fun O h=>L h)
def ou:Nat→yA
 | 0=>⟨fun z0 z1=>none⟩
 | n+1=>⟨sA (ou n)⟩
theorem CZ:∀ n,wW (ou n)
 | 0=>⟨fun _ _ r h=>(by cases h)⟩
 | n+1=>⟨fun a0 a1 r h=>F8 _ (CZ n) a0 a1 r h⟩
def yB:Option Int:=ev fun n=>(ou n).f_scope_size a0 a1
theorem Hy(r:Int)(h:yB a0 a1=some r):yz a0 a1 r:=by
 obtain ⟨n,hn⟩:=u9 h
 exact (CZ n).f_scope_size a0 a1 r hn
def z6:List dx:=(gA 23 45)::[]
def ib(Q:Bool):Option Bool:=
 some Q
abbrev jq(x:Bool):St:=⟨[(1,(I a1)),zP 2,(23,(.b x))],[(2,(cL a0))],H0⟩
theorem kj(Q:Bool)(w:List AV)(x:Bool)(h:ib Q=some x):AF G Ω0 E0 [1,2,23] [2] z6 ⟨[(45,(.b Q)),(44,(W w 0)),(43,(W w 1)),(42,(W w 2)),(41,(W w 3)),(40,(W w 4)),(39,(W w 5)),(38,(W w 6)),(37,(W w 7)),(36,(W w 8)),(35,(W w 9)),(34,(W w 10)),(33,(W w 11)),(32,(W w 12)),(31,(W w 13)),(30,(W w 14)),(29,(W w 15)),(28,(W w 16)),(27,(.b (a0.Kind==1))),(26,(.b (a0.Kind==1))),(25,(I a0.Kind)),(24,(zQ 2)),(1,(I a1)),zP 2,(5,(zI m)),(17,(.b ((a0.Args.length:Int) !=(m:Int))))],[(2,(cL a0))],H0⟩=some (jq a0 a1 x):=
 Ht (.nil) fun L=>L h
def Hz:List dx:=(gF 24 0 2)::(gQ 25 24)::(gB 26 .eql 25 (kI 1))::(gM 27 26)::⟨some 28,.fa 1 2,some ⟨27,true⟩,false⟩::⟨some 29,.ld none 28,some ⟨27,true⟩,false⟩::⟨some 30,.bo .lss false 29 (kI (-9999999)),some ⟨27,true⟩,false⟩::⟨some 31,.mv 30,some ⟨27,true⟩,false⟩::⟨some 32,.fa 1 2,some ⟨31,false⟩,false⟩::⟨some 33,.ld none 32,some ⟨31,false⟩,false⟩::⟨some 34,.bo .gtr false 33 (kI 9999999),some ⟨31,false⟩,false⟩::⟨some 35,.pk 31 (.c (.b true)) 34,some ⟨27,true⟩,false⟩::(gk 36 27 35 (.c (.b false)))::(gM 37 36)::⟨some 38,.mv 5,some ⟨37,false⟩,false⟩::⟨some 39,.bo .gtr false 38 (kI 0),some ⟨37,false⟩,false⟩::⟨some 40,.mv 39,some ⟨37,false⟩,false⟩::⟨some 41,.fa 1 2,some ⟨40,true⟩,false⟩::⟨some 42,.ld none 41,some ⟨40,true⟩,false⟩::⟨some 43,.bo .neq false 42 (kI 0),some ⟨40,true⟩,false⟩::⟨some 44,.pk 40 43 (.c (.b false)),some ⟨37,false⟩,false⟩::(gp 45 (.pk 37 (.c (.b true)) 44))::z6
def qh:Option Bool:=
 if (a0.Kind==1)=true then
  if a0.N < -9999999 then
   (ib true).bind fun x7=>
   some x7
  else
   if 9999999<a0.N then
    (ib true).bind fun x8=>
    some x8
   else
    if 0<(m:Int) then
     (ib (a0.N !=0)).bind fun x9=>
     some x9
    else
     (ib false).bind fun x9=>
     some x9
 else
  if 0<(m:Int) then
   (ib (a0.N !=0)).bind fun x7=>
   some x7
  else
   (ib false).bind fun x7=>
   some x7
abbrev z7(x:Bool):St:=⟨[(1,(I a1)),zP 2,(23,(.b x))],[(2,(cL a0))],H0⟩
theorem F9(x:Bool)(h:qh a0 m=some x):AF G Ω0 E0 [1,2,23] [2] Hz ⟨[(1,(I a1)),zP 2,(5,(zI m)),(17,(.b ((a0.Args.length:Int) !=(m:Int))))],[(2,(cL a0))],H0⟩=some (z7 a0 a1 x):=
 let F:=zI m;let E:=some 23;let D:=a0.N !=0;let C:=decide (0<(m:Int));let B:=decide (a0.N < -9999999);let A:=decide (9999999<a0.N);Ht (bt<|.or (tn<|.or (bf<|bf<|bf<|bt<|bt<|bt<|bf<|bf<|bf<|bf<|bt<|.jb E 0<|.ex fun (x7:Bool)=>ao (.jn (jq a0 a1 x7))<|.nil) (bt<|bt<|bt<|bt<|bt<|bf<|bt<|.or (bv9<|.jb E 0<|.ex fun (x8:Bool)=>ao (.jn (jq a0 a1 x8))<|.nil) (fh<|.or (TT<|.jb E 0<|.ex fun (x9:Bool)=>ao (.jn (jq a0 a1 x9))<|.nil) (bf<|bf<|bf<|bt<|bf<|bf<|.jb E 0<|.ex fun (x9:Bool)=>ao (.jn (jq a0 a1 x9))<|.nil)))) (bf<|bf<|bf<|bf<|bf<|bf<|bt<|bt<|bt<|.or (TT<|.jb E 0<|.ex fun (x7:Bool)=>ao (.jn (jq a0 a1 x7))<|.nil) (bf<|bf<|bf<|bt<|bf<|bf<|.jb E 0<|.ex fun (x7:Bool)=>ao (.jn (jq a0 a1 x7))<|.nil))) fun L=>ai (rfl:Z0)<|b9 h (fun h5 h=>dE h5<|ai (rfl:Z0)<|dE h5<|da h (fun h6 h=>cm (aE h6)<|ai (g0 (aE h6))<|ai (g1 h5)<|ai (aE h6)<|ai h5<|ai ht<|ai ht<|ai ht<|ai ht<|ai tt<|bI h (kj a0 a1 m true [.sk,.sk,.sk,.sk,.sk,.sk,.sk,(.b true),(.b true),(.b true),.sk,.sk,.sk,(.b B),(.b B),(I a0.N),(.p ⟨0,2⟩ 1)]) fun x7 h=>L h) (fun h6 h=>R3 (aG h6)<|ai (g1 h5)<|ai (aG h6)<|ai h5<|da h (fun h7 h=>ev3 (aE h7)<|bI h (kj a0 a1 m true [.sk,.sk,.sk,.sk,.sk,.sk,.sk,(.b A),(.b A),(.b A),(.b A),(I a0.N),(.p ⟨0,2⟩ 1),(.b B),(.b B),(I a0.N),(.p ⟨0,2⟩ 1)]) fun x8 h=>L h) (fun h7 h=>let H:=g0 (aG h7);cm (aG h7)<|ai H<|da h (fun h8 h=>dE (aE h8)<|ai (rfl:Z0)<|ai (g1 (aE h8))<|ai H<|ai (aE h8)<|ai (aG h7)<|bI h (kj a0 a1 m D [(.b D),(.b D),(I a0.N),(.p ⟨0,2⟩ 1),(.b C),(.b C),F,(.b A),(.b A),(.b A),(.b A),(I a0.N),(.p ⟨0,2⟩ 1),(.b B),(.b B),(I a0.N),(.p ⟨0,2⟩ 1)]) fun x9 h=>L h) (fun h8 h=>R4 (aG h8)<|ai H<|ai (aG h8)<|ai (aG h7)<|bI h (kj a0 a1 m false [(.b false),.sk,.sk,.sk,(.b C),(.b C),F,(.b A),(.b A),(.b A),(.b A),(I a0.N),(.p ⟨0,2⟩ 1),(.b B),(.b B),(I a0.N),(.p ⟨0,2⟩ 1)]) fun x9 h=>L h)))) (fun h5 h=>dE h5<|dE h5<|rX h5<|ai hf<|ai hf<|ai hf<|da h (fun h6 h=>dE (aE h6)<|ai (rfl:Z0)<|ai (g1 (aE h6))<|ai hf<|ai (aE h6)<|ai ff<|bI h (kj a0 a1 m D [(.b D),(.b D),(I a0.N),(.p ⟨0,2⟩ 1),(.b C),(.b C),F,(.b false),(.b false),.sk,.sk,.sk,.sk,.sk,.sk,.sk,.sk]) fun x7 h=>L h) (fun h6 h=>dE (aG h6)<|ai (g1 (aG h6))<|ai hf<|ai (aG h6)<|ai ff<|bI h (kj a0 a1 m false [(.b false),.sk,.sk,.sk,(.b C),(.b C),F,(.b false),(.b false),.sk,.sk,.sk,.sk,.sk,.sk,.sk,.sk]) fun x7 h=>L h))
def nB:Option (Unit⊕(Unit⊕(Unit⊕Unit))):=
 if ((a0.Args.length:Int) !=(m:Int))=true then
  some (.inl ())
 else
  (qh a0 m).bind fun x5=>
  if x5=true then
   some (.inr (.inl ()))
  else
   if (a0.Kind==2)=true then
    if a0.N<0 then
     some (.inr (.inr (.inl ())))
    else
     if a1≤a0.N then
      some (.inr (.inr (.inl ())))
     else
      some (.inr (.inr (.inr ())))
   else
    some (.inr (.inr (.inr ())))
abbrev fw(x:(Unit⊕(Unit⊕(Unit⊕Unit)))):bh×St:=match x with | .inl ()=>(.ret,⟨[(4,(I 1))],[],H0⟩) | .inr (.inl ())=>(.ret,⟨[(4,(I 3))],[],H0⟩) | .inr (.inr (.inl ()))=>(.ret,⟨[(4,(I 5))],[],H0⟩) | .inr (.inr (.inr ()))=>(.ret,⟨[(4,(I 0))],[],H0⟩)
theorem yD(x:(Unit⊕(Unit⊕(Unit⊕Unit))))(h:nB a0 a1 m=some x):run G Ω0 E0 Rm ⟨[(1,(I a1)),zP 2,(5,(zI m))],[(2,(cL a0))],H0⟩=some (fw x):=
 Cn (bt<|ao (.i (a0.Args.length:Int))<|oN (.jb (some 24) 22<|.ex fun (x5:Bool)=>ao (.jn (z7 a0 a1 x5))<|oN (bt<|.or (tn<|.or (bf<|bf<|bf<|bf<|bt<|bt<|bt<|bt<|.nil) (bt<|bt<|bt<|bt<|bt<|bt<|bf<|bt<|oN (.nil))) (bf<|bf<|bf<|bf<|bf<|bf<|bf<|.nil)))) fun L=>ai (rfl:Z0)<|ai (bn bM a0.Args)<|b9 h (fun h4 h=>ai h4<|L h) (fun h4 h=>ai h4<|bI h (F9 a0 a1 m) fun x5 h=>b9 h (fun h7 h=>ai h7<|L h) (fun h7 h=>qO h7<|b9 h (fun h8 h=>dE h8<|ai (rfl:Z0)<|dE h8<|da h (fun h9 h=>cm (aE h9)<|cm (aE h9)<|ai (g1 h8)<|ai (aE h9)<|rY h8<|L h) (fun h9 h=>cm (aG h9)<|ai (rfl:Z0)<|cm (aG h9)<|ai (g1 h8)<|ai (aG h9)<|ai h8<|da h (fun V h=>ai (aE V)<|L h) (fun V h=>ai (aG V)<|L h))) (fun h8 h=>dE h8<|dE h8<|rX h8<|ai ff<|L h)))
abbrev Mj(a0:aK)(a1:Int)(r:Int):bA×HP:=(.ret (I r),H0)
def tP:Option Int:=
 if a0.Kind<1 then
  some 7
 else
  if 7<a0.Kind then
   some 7
  else
   if 2<a0.Kind then
    (nB a0 a1 2).bind fun x4=>match x4 with
    | .inl z=>
     some 1
    | .inr (.inl J)=>
     some 3
    | .inr (.inr (.inl M))=>
     some 5
    | .inr (.inr (.inr K))=>
     some 0
   else
    (nB a0 a1 0).bind fun x4=>match x4 with
    | .inl z=>
     some 1
    | .inr (.inl J)=>
     some 3
    | .inr (.inr (.inl M))=>
     some 5
    | .inr (.inr (.inr K))=>
     some 0
theorem HA(r:Int)(h:tP a0 a1=some r):call G Ω0 E0 185 [(.a (cL a0)),(I a1)] H0=some (Mj a0 a1 r):=
 a8 ahs (bt<|.or (TU<|.nil) (OV<|oN (bt<|.or (bt<|.fb<|.or (.ex fun (z:Unit)=>ao (.oe (fw (.inl z)))<|.nil) (.or (.ex fun (J:Unit)=>ao (.oe (fw (.inr (.inl J))))<|.nil) (.or (.ex fun (M:Unit)=>ao (.oe (fw (.inr (.inr (.inl M)))))<|.nil) (.ex fun (K:Unit)=>ao (.oe (fw (.inr (.inr (.inr K)))))<|.nil)))) (bf<|.fb<|.or (.ex fun (z:Unit)=>ao (.oe (fw (.inl z)))<|.nil) (.or (.ex fun (J:Unit)=>ao (.oe (fw (.inr (.inl J))))<|.nil) (.or (.ex fun (M:Unit)=>ao (.oe (fw (.inr (.inr (.inl M)))))<|.nil) (.ex fun (K:Unit)=>ao (.oe (fw (.inr (.inr (.inr K)))))<|.nil))))))) fun L=>xn<|da h (fun h1 h=>cm (aE h1)<|ai (g0 (aE h1))<|rY (aE h1)<|L h) (fun h1 h=>ev5 (aG h1)<|da h (fun h2 h=>ai (aE h2)<|L h) (fun h2 h=>qO (aG h2)<|da h (fun h3 h=>ai (aE h3)<|Vl h (yD a0 a1 2) (fun z h=>L h) (fun J h=>L h) (fun M h=>L h) (fun K h=>L h)) (fun h3 h=>ai (aG h3)<|Vl h (yD a0 a1 0) (fun z h=>L h) (fun J h=>L h) (fun M h=>L h) (fun K h=>L h))))
abbrev KI(a0:aK)(a1:Int)(r:Int):bA×HP:=(.ret (I r),H0)
abbrev wX(r:Int):Prop:=call G Ω0 E0 143 [(.a (cL a0)),(I a1)] H0=some (KI a0 a1 r)
end
structure wY where
 f_scope_parts:aK→Int→Option Int
structure vc(R:wY):Prop where
 f_scope_parts:∀ (a0:aK)(a1:Int)(r:Int),R.f_scope_parts a0 a1=some r→wX a0 a1 r
section
variable (R:wY)(a0:aK)(a1:Int)(t:Nat)
def qi:Option (Nat⊕(Int⊕(Nat×Bool))):=
 if (t:Int)<(a0.Args.length:Int) then
  (a0.Args[t]?).bind fun y5=>
  (R.f_scope_parts y5 a1).bind fun r7=>
  if (r7 !=0)=true then
   some (.inr (.inl r7))
  else
   if IntKind.i64.wrap ((t:Int)+1)=((t+1:Nat):Int) then
    some (.inl (t+1))
   else none
 else
  some (.inr (.inr (t,decide ((t:Int)<(a0.Args.length:Int)))))
abbrev HB(v:Nat):St:=⟨[(1,(I a1)),(16,(ku a0.Args)),(17,(zI a0.Args.length)),(18,(I (v:Int)))],[],H0⟩
abbrev tQ(x:(Int⊕(Nat×Bool))):bh×St:=match x with | .inl z1=>(.ret,⟨[(4,(I z1))],[],H0⟩) | .inr (z1,z2)=>((.ex 0),⟨[(1,(I a1)),(16,(ku a0.Args)),(17,(zI a0.Args.length)),(18,(I (z1:Int))),(19,(.b z2))],[],H0⟩)
theorem Ga(hR:vc R)(a0:aK)(a1:Int)(t:Nat)(o:Nat⊕(Int⊕(Nat×Bool)))(h:qi R a0 a1 t=some o):cG E0 Q2 (HB a0 a1) (tQ a0 a1) t o:=
 cT (.or (bt<|ao (.n t)<|.ex fun (y5:aK)=>ao (.v (.a (cL y5)))<|fh<|xI fun r7=>oN (ao (.i ((t+1:Nat):Int))<|.nil)) (bf<|.nil)) fun L=>da h (fun h4 h=>ai (aE h4)<|ai (rI t)<|bm h fun y5 h6 h=>ai (nZ bM h6 (fT _))<|OU<|bI h (hR.f_scope_parts y5 a1) fun r7 h=>b9 h (fun h9 h=>ai h9<|L h) (fun h9 h=>ai h9<|bc h fun Y h=>ai Y<|L h)) (fun h4 h=>ai (aG h4)<|L h)
def ry:Option Int:=
 (tP a0 a1).bind fun r1=>
 if (r1 !=0)=true then
  some r1
 else
  (lp (fun v=>qi R a0 a1 v) 0).bind fun x4=>match x4 with
  | .inl z=>
   some z
  | .inr J=>
   some 0
theorem Ff(hR:vc R)(a0:aK)(a1:Int)(r:Int)(h:ry R a0 a1=some r):wX a0 a1 r:=
 a8 ag1 (bt<|xI fun r1=>oN (bt<|ao (.i (a0.Args.length:Int))<|.or (.ex fun (z:Int)=>ao (.dJ (tQ a0 a1 (.inl z)))<|.nil) (.ex fun (J:(Nat×Bool))=>ao (.dJ (tQ a0 a1 (.inr J)))<|.nil))) fun L=>xn<|bI h (HA a0 a1) fun r1 h=>b9 h (fun h3 h=>ai h3<|L h) (fun h3 h=>qO h3<|ai (bn bM a0.Args)<|iy h (im (Ga R hR a0 a1) 0) (fun z h=>L h) (fun J h=>L h))
def mZ:Nat→wY
 | 0=>⟨fun z0 z1=>none⟩
 | n+1=>⟨ry (mZ n)⟩
theorem Be:∀ n,vc (mZ n)
 | 0=>⟨fun _ _ r h=>(by cases h)⟩
 | n+1=>⟨fun a0 a1 r h=>Ff _ (Be n) a0 a1 r h⟩
def wZ:Option Int:=ev fun n=>(mZ n).f_scope_parts a0 a1
theorem Gb(r:Int)(h:wZ a0 a1=some r):wX a0 a1 r:=by
 obtain ⟨n,hn⟩:=u9 h
 exact (Be n).f_scope_parts a0 a1 r hn
abbrev Mk(a0:aK)(a1:Int)(r:Int):bA×HP:=(.ret (I r),H0)
def mB:Option Int:=
 (yB a0 15).bind fun r1=>
 if 15<r1 then
  some 2
 else
  (wZ a0 a1).bind fun r4=>
  some r4
theorem tR(r:Int)(h:mB a0 a1=some r):call G Ω0 E0 102 [(.a (cL a0)),(I a1)] H0=some (Mk a0 a1 r):=
 a8 agG (bt<|xI fun r1=>oN (bt<|xI fun r4=>.nil)) fun L=>xn<|bI h (Hy a0 15) fun r1 h=>da h (fun h3 h=>ai (aE h3)<|L h) (fun h3 h=>qO (aG h3)<|bI h (Gb a0 a1) fun r4 h=>L h)
end
section
variable (a0:Int)
abbrev KJ(a0:Int)(r:(Bool×Bool×Bool)):bA×HP:=(.ret (.tp [(.b r.1),(.b r.2.1),(.b r.2.2)]),H0)
def xa:Option (Bool×Bool×Bool):=
 if (a0 !=4)=true then
  if 2≤a0 then
   if (a0 !=2)=true then
    some ((decide (a0<7)),(decide (a0≤4)),(a0 !=3))
   else
    some ((decide (a0<7)),(decide (a0≤4)),false)
  else
   if (a0 !=2)=true then
    some ((decide (a0<7)),false,(a0 !=3))
   else
    some ((decide (a0<7)),false,false)
 else
  if 2≤a0 then
   if (a0 !=2)=true then
    some (false,(decide (a0≤4)),(a0 !=3))
   else
    some (false,(decide (a0≤4)),false)
  else
   if (a0 !=2)=true then
    some (false,false,(a0 !=3))
   else
    some (false,false,false)
theorem Gc(r:(Bool×Bool×Bool))(h:xa a0=some r):call G Ω0 E0 208 [(I a0)] H0=some (KJ a0 r):=
 let B:=Hu<|.or (fh<|.nil) (Hu<|.nil);let A:=fh<|.or (fh<|.nil) (Hu<|.nil);a8 ahJ (.or (fh<|.or A B) (Hu<|.or A B)) fun L=>b9 h (fun h1 h=>tm h1<|da h (fun h2 h=>tm (aE h2)<|b9 h (fun h3 h=>tm h3<|L h) (fun h3 h=>tm h3<|L h)) (fun h2 h=>tm (aG h2)<|b9 h (fun h3 h=>tm h3<|L h) (fun h3 h=>tm h3<|L h))) (fun h1 h=>tm h1<|da h (fun h2 h=>tm (aE h2)<|b9 h (fun h3 h=>tm h3<|L h) (fun h3 h=>tm h3<|L h)) (fun h2 h=>tm (aG h2)<|b9 h (fun h3 h=>tm h3<|L h) (fun h3 h=>tm h3<|L h)))
end
end
variable [Lp]
attribute [local simp] gp execOp okB gZ gj lM yg lL jF jK St.end_ St.mN kd List.filter fg xm view A0 Sa Vt Kb plain
def ir(k:Int):Bool:=decide (k≠4∧k<7)
def lP(k:Int):Bool:=decide (2≤k∧k≤4)
def jI(k:Int):Bool:=decide (k≠2∧k≠3)
def ij(p:Program)(i k:Int):Int:=if k=2 then i else if k=3 then p.Ins.length else p.Outs.length
theorem T5(k:Int):xa k=some (ir k,lP k,jI k):=by
 unfold xa ir lP jI
 by_cases h4:k=4
 ·subst h4;rfl
 by_cases h2:k=2
 ·subst h2;rfl
 by_cases X:2≤k
 ·by_cases h3:k=3<;>simp [h4,h2,X,h3]
 ·have h3:¬k=3:=by omega
  simp [h4,h2,X,h3]
noncomputable def Bf(ex:aK→Option Int):List aK→Option Int
 | []=>some 0
 | e::r=>(ex e).bind fun x=>if x≠0 then some x else Bf ex r
def Cu(p:Program)(i:Int)(s:Stmt):Bool:=(ir s.Kind&&(decide (s.Var<0)||decide ((p.Vars.length:Int)≤s.Var)))||(lP s.Kind&&(decide (s.Other<0)||decide (ij p i s.Kind≤s.Other)))
def yE(s:Stmt):Bool:=decide (s.Expr.Kind=0)&&decide (s.Expr.N=0)&&decide (s.Expr.Args.length=0)
def E1(s:Stmt):Bool:=(((((!ir s.Kind&&decide (s.Var≠0))||(!lP s.Kind&&decide (s.Other≠0)))||(!jI s.Kind&&!yE s))||(s.Kind !=2&&decide (0<s.Args.length)))||(!decide (7≤s.Kind)&&decide (0<s.Then.length)))||(s.Kind !=7&&decide (0<s.Else.length))
noncomputable def P9(ex:aK→Option Int)(p:Program)(i:Int)(s:Stmt):Option Int:=
 if Cu p i s=true then some 5
 else if E1 s=true then some 1
 else (if s.Kind=2 then (p.Funcs[s.Other.toNat]?).map fun f=>decide (s.Args.length≠f.Params.length) else some false).bind fun b=>if b=true then some 1
 else (if jI s.Kind=true then ex s.Expr else some 0).bind fun x=>if x≠0 then some x else if s.Args.length≤9223372036854775807 then Bf ex s.Args else none
noncomputable def gw(c:Checker)(s:Stmt):Option Int:=if s.Kind<1∨8<s.Kind then some 7 else P9 (fun e=>mB e c.p.Vars.length) c.p c.funcs s
section
variable (dp:Nat)(H:HP)(k0:Key)(hk:k0.dp<dp)(c:Checker)(s:Stmt)(hH:H k0=some (bH c))
abbrev tS(dp:Nat)(H:HP)(k0:Key)(s:Stmt)(xs:List (Nat×AV)):St:=⟨(0,.p k0 0)::(3,.p ⟨dp,3⟩ 0)::xs,[(3,ar s)],H⟩
abbrev Kc(s:Stmt):List (Nat×AV):=[(5,I s.Kind),(6,.b (ir s.Kind)),(7,.b (lP s.Kind)),(8,.b (jI s.Kind)),(9,.b (decide (7≤s.Kind))),(10,.b (yE s))]
include hk hH
theorem T6:call G Ω0 ⟨dp,true⟩ 209 [.p k0 0,I s.Kind] H=some (.ret (I (ij c.p c.funcs s.Kind)),H):=by
 have e0:¬k0.dp=dp:=by omega
 have e2:∀ d,¬k0=⟨dp,d⟩:=fun d=>aM hk
 refine O7 (st:=⟨[(4,I (ij c.p c.funcs s.Kind))],[],H⟩) ahK ?_ (by simp [Tn]) rfl
 unfold ij
 apply dQ
 apply iq (by simp;rfl)
 apply dQ
 apply dQ
 apply iq (by simp;rfl)
 apply Lk
 apply dQ
 apply iq (by simp;rfl)
 apply vQ (s.Kind==2) (by simp)
 ·intro hq
  rw [af (by simpa using hq)]
  apply dQ
  apply iq (by simp [e0,e2,hH];rfl)
  exact vR rfl
 intro hq
 rw [ab (by simpa using hq)]
 apply dQ
 apply iq (by simp;rfl)
 apply vQ (s.Kind==3) (by simp)
 ·intro hq
  rw [af (by simpa using hq)]
  apply dQ
  apply iq (by simp [e0,e2,hH];rfl)
  exact vR rfl
 intro hq
 rw [ab (by simpa using hq)]
 apply Ct
 apply HD
 apply dQ
 apply iq (by simp [e0,e2,hH];rfl)
 exact vR rfl
abbrev Ge(dp:Nat)(H:HP)(k0:Key)(s:Stmt)(k:Nat):St:=⟨[(0,.p k0 0),(171,.l 89 (s.Args.map bM)),(172,I s.Args.length),(173,I k)],[],H⟩
theorem Sd(hl:s.Args.length≤9223372036854775807){r:Int} : ∀ (rest:List aK)(k:Nat),s.Args.drop k=rest→Bf (fun e=>mB e c.p.Vars.length) rest=some r→
  ∃ q,rW G Ω0 ⟨dp,true⟩ Rd (Ge dp H k0 s k)=some q∧(q=(.ret,⟨[(4,I r)],[],H⟩)∨r=0∧∃ y,q=(.ex 1,y)∧y.hp=H)
 | [],k,hd,h=>by
  obtain rfl:=ah h
  have hk:¬((k:Int)<(s.Args.length:Int)):=by
   have:=sR.1 hd;omega
  apply Exists.intro
  apply And.intro
  ·refine nY (r:=(.ex 1,?_)) ?_ (by simp)
   rotate_left
   ·show run G Ω0 _ G8 (Ge dp H k0 s k)=_
    apply aN (by simp [hk];rfl)
    apply tT
    apply gv (by simp [hk])
    exact mw _ _ _
  ·exact .inr ⟨rfl,_,rfl,rfl⟩
 | e::rest,k,hd,h=>by
  obtain ⟨x,hx,h⟩:=aj.1 h
  have e0:¬k0.dp=dp:=by omega
  have e2:∀ d,¬k0=⟨dp,d⟩:=fun d=>aM hk
  have T:k<s.Args.length:=by
   have h1:=av List.length hd
   simp only [zG,eM] at h1
   omega
  have hg:s.Args[k]? =some e:=by
   have:=av (fun l=>l[0]?) hd
   simpa using this
  have ac:s.Args.drop (k+1)=rest:=by
   have:=av List.tail hd
   simpa using this
  have hw:IntKind.i64.wrap ((k:Int)+1)=(k:Int)+1:=wrap64 (by omega) (by omega)
  have hX:=mi (E:=⟨dp,true⟩) (tR e c.p.Vars.length x hx) (by simp) (by simp)
  have body:Nx ⟨dp,true⟩ G8 (Ge dp H k0 s k) fun q=>q=if x≠0 then (.ret,⟨[(4,I x)],[],H⟩) else (.nrm,Ge dp H k0 s (k+1)):=by
   apply dQ
   apply iq (by simp [T];rfl)
   apply dQ
   apply vQ true (by simp [T])
   ·intro _
    apply Ct
    apply HD
    apply dQ
    apply Lk
    apply dQ
    apply iq (by simp [hg,fT,e2];rfl)
    apply dQ
    apply iq (by simp [-dj,e0,e2,hH,hX];rfl)
    apply dQ
    apply iq (st1:=⟨[(0,.p k0 0),(14,I x),(171,.l 89 (s.Args.map bM)),(172,I s.Args.length),(173,I k),(186,.b (decide (x≠0)))],[],H⟩) (by by_cases q:x=0<;>simp [q])
    apply vQ (decide (x≠0)) (by simp)
    ·intro hq
     rw [af (sM hq)]
     apply dQ
     apply iq (by simp;rfl)
     exact vR rfl
    ·intro hq
     rw [ab (Dm hq)]
     apply Ct
     refine iq (st1:=Ge dp H k0 s (k+1)) ?_ rfl
     simp [hw]
   ·intro hq;cases hq
  by_cases S:x=0
  ·rw [ab (by simp [S])] at h
   obtain ⟨q,q1,q2⟩:=Sd hl rest (k+1) ac h
   refine ⟨q,?_,q2⟩
   rw [ab (by simp [S])] at body
   rw [nr]
   exact q1
   show (run G Ω0 _ G8 (Ge dp H k0 s k)).bind _=_
   rw [Sc body];rfl
  ·rw [af S] at h
   obtain rfl:=ah h
   rw [af S] at body
   exact ⟨_,nY (by exact Sc body) (by simp),.inl rfl⟩
theorem ado{r:Int}(h:gw c s=some r):call G Ω0 ⟨dp,true⟩ 170 [.p k0 0,.a (ar s)] H=some (.ret (I r),H):=by
 have e0:¬k0.dp=dp:=by omega
 have e2:∀ d,¬k0=⟨dp,d⟩:=fun d=>aM hk
 have hN:=mi (E:=⟨dp,true⟩) (Gc s.Kind _ (T5 s.Kind)) (by simp) (by simp)
 have hO:=T6 (dp+1) (fun k=>if k.dp=dp then none else H k) k0 (by omega) c s (by simp [e0,hH])
 unfold gw at h
 refine O7 (st:=⟨[(4,I r)],[],H⟩) ahk ?_ (by simp [Tl]) rfl
 apply dQ
 apply iq (by simp [e2];rfl)
 apply dQ
 apply iq (by simp;rfl)
 apply dQ
 apply dQ
 apply iq (st1:=tS dp H k0 s [(5,I s.Kind),(22,.b (decide (s.Kind<1∨8<s.Kind)))]) (by by_cases q1:s.Kind<1<;>by_cases q2:8<s.Kind<;>simp [q1,q2])
 apply vQ (decide (s.Kind<1∨8<s.Kind)) (by simp)
 ·intro hq
  rw [af (sM hq)] at h
  obtain rfl:=ah h
  apply dQ
  apply iq (by simp;rfl)
  exact vR rfl
 intro hq
 rw [ab (Dm hq)] at h
 unfold P9 at h
 apply Ct
 apply HD
 apply dQ
 apply iq (st1:=tS dp H k0 s [(5,I s.Kind),(6,.b (ir s.Kind)),(7,.b (lP s.Kind)),(8,.b (jI s.Kind))]) (by simp [-dj,hN])
 apply dQ
 apply iq (st1:=tS dp H k0 s [(5,I s.Kind),(6,.b (ir s.Kind)),(7,.b (lP s.Kind)),(8,.b (jI s.Kind)),(9,.b (decide (7≤s.Kind)))]) (by simp)
 apply dQ
 apply iq (st1:=tS dp H k0 s (Kc s)) (by by_cases a1:s.Expr.Kind=0<;>by_cases a2:s.Expr.N=0<;>by_cases a3:s.Expr.Args.length=0<;>simp [a1,a2,a3,yE])
 apply dQ
 apply Lk
 apply dQ
 apply iq (st1:=tS dp H k0 s (Kc s++[(48,.b (Cu c.p c.funcs s))]))
 ·apply Vs rfl (by simp)
  refine adm (v1:=tS dp H k0 s (Kc s++[(66,.b (ir s.Kind&&(decide (s.Var<0)||decide ((c.p.Vars.length:Int)≤s.Var))))])) 18 [0,3,5,6,7,8,9,10,66] ?_ ?_
  ·cases hv:ir s.Kind
   ·((repeat refine Cr (by simp [hv];rfl) ?_);exact Cs (by simp [hv]))
   ·by_cases q:s.Var<0
    ·((repeat refine Cr (by simp [hv,q];rfl) ?_);exact Cs (by simp [hv,q]))
    ·((repeat refine Cr (by simp [hv,q,e0,e2,hH];rfl) ?_);exact Cs (by simp [hv,q]))
  ·refine R9 ?_ (by simp)
   unfold Cu
   cases (ir s.Kind&&(decide (s.Var<0)||decide ((c.p.Vars.length:Int)≤s.Var)))
   ·cases ho:lP s.Kind
    ·((repeat refine Cr (by simp [ho];rfl) ?_);exact Cs (by simp [ho]))
    ·by_cases q:s.Other<0
     ·((repeat refine Cr (by simp [ho,q];rfl) ?_);exact Cs (by simp [ho,q]))
     ·((repeat refine Cr (by simp [ho,q,e0,e2,hO];rfl) ?_);exact Cs (by simp [ho,q]))
   ·((repeat refine Cr (by simp;rfl) ?_);exact Cs (by simp))
 apply vQ (Cu c.p c.funcs s) (by simp)
 ·intro hq
  rw [af hq] at h
  obtain rfl:=ah h
  apply dQ
  apply iq (by simp;rfl)
  exact vR rfl
 intro hn
 rw [ab (by simp [hn])] at h
 apply dQ
 apply iq (st1:=tS dp H k0 s [(5,I s.Kind),(8,.b (jI s.Kind)),(82,.b (E1 s))])
 ·apply afH rfl
  refine D7 (v1:=tS dp H k0 s (Kc s++[(90,.b (!ir s.Kind&&decide (s.Var≠0)))])) 8 [0,3,5,6,7,8,9,10,90] ?_ ?_
  ·cases hv:ir s.Kind<;>by_cases q:s.Var=0<;>((repeat refine IY (by simp [hv,q];rfl) ?_);exact IZ (by simp [hv,q]))
  unfold E1
  refine D7 (v1:=tS dp H k0 s (Kc s++[(99,.b ((!ir s.Kind&&decide (s.Var≠0))||(!lP s.Kind&&decide (s.Other≠0))))])) 9 [0,3,5,6,7,8,9,10,99] ?_ ?_
  ·cases (!ir s.Kind&&decide (s.Var≠0))<;>cases ho:lP s.Kind<;>by_cases q:s.Other=0<;>((repeat refine IY (by simp [ho,q];rfl) ?_);exact IZ (by simp [ho,q]))
  generalize ((!ir s.Kind&&decide (s.Var≠0))||(!lP s.Kind&&decide (s.Other≠0)))=b2
  refine D7 (v1:=tS dp H k0 s (Kc s++[(107,.b (b2||(!jI s.Kind&&!yE s)))])) 8 [0,3,5,6,7,8,9,10,107] ?_ ?_
  ·cases b2<;>cases he:jI s.Kind<;>cases hb:yE s<;>((repeat refine IY (by simp [he,hb];rfl) ?_);exact IZ (by simp [he,hb]))
  generalize (b2||(!jI s.Kind&&!yE s))=b3
  refine D7 (v1:=tS dp H k0 s (Kc s++[(117,.b (b3||(s.Kind !=2&&decide (0<s.Args.length))))])) 10 [0,3,5,6,7,8,9,10,117] ?_ ?_
  ·cases b3<;>cases q:(s.Kind !=2)<;>((repeat refine IY (by simp [q];rfl) ?_);exact IZ (by simp [q]))
  generalize (b3||(s.Kind !=2&&decide (0<s.Args.length)))=b4
  refine D7 (v1:=tS dp H k0 s (Kc s++[(127,.b (b4||(!decide (7≤s.Kind)&&decide (0<s.Then.length))))])) 10 [0,3,5,6,7,8,9,10,127] ?_ ?_
  ·cases b4<;>by_cases q:7≤s.Kind<;>((repeat refine IY (by simp [q];rfl) ?_);exact IZ (by simp [q]))
  generalize (b4||(!decide (7≤s.Kind)&&decide (0<s.Then.length)))=b5
  refine adl ?_ (by simp)
  cases b5<;>cases q:(s.Kind !=7)<;>((repeat refine IY (by simp [q];rfl) ?_);exact IZ (by simp [q]))
 apply vQ (E1 s) (by simp)
 ·intro hq
  rw [af hq] at h
  obtain rfl:=ah h
  apply dQ
  apply iq (by simp;rfl)
  exact vR rfl
 intro hf
 rw [ab (by simp [hf])] at h
 obtain ⟨b,hb,h⟩:=aj.1 h
 apply dQ
 apply iq (st1:=tS dp H k0 s [(8,.b (jI s.Kind)),(137,.b b)])
 ·apply Vs rfl (by simp)
  refine R9 ?_ (by simp)
  cases q:(s.Kind==2)
  ·rw [ab (ne_of_beq_false q)] at hb
   obtain rfl:=ah hb
   ((repeat refine Cr (by simp [q];rfl) ?_);exact Cs (by simp [q]))
  ·have q1:=eq_of_beq q
   rw [af q1] at hb
   obtain ⟨f,U,aa⟩:=ew.1 hb
   have ad:¬s.Other<0:=fun T=>by simp [Cu,lP,q1,T] at hn
   obtain ⟨j,hj⟩:∃ j:Nat,s.Other=j:=⟨s.Other.toNat,by omega⟩
   rw [hj] at U
   have U:c.p.Funcs[j]? =some f:=by simpa using U
   subst aa
   have q2:((s.Args.length:Int) !=(f.Params.length:Int))=decide (s.Args.length≠f.Params.length):=by
    by_cases q3:s.Args.length=f.Params.length
    ·simp [q3]
    ·rw [aE q3]
     simp only [uG,ne_eq]
     omega
   ((repeat refine Cr (by simp [q,e0,e2,hH,hj,U,cQ];rfl) ?_);exact Cs (by simp [q,q2]))
 apply vQ b (by simp)
 ·intro hq
  rw [af hq] at h
  obtain rfl:=ah h
  apply dQ
  apply iq (by simp;rfl)
  exact vR rfl
 intro hq
 rw [ab (by simp [hq])] at h
 obtain ⟨x,hx,h⟩:=aj.1 h
 have tail:∀ st:St,st.bB [0,3] [0,3]=tS dp H k0 s []→x=0→Nx ⟨dp,true⟩ Re st fun q=>q=(.ret,⟨[(4,I r)],[],H⟩):=by
  intro st Z S
  apply HD
  rw [Z]
  rw [ab (by simp [S])] at h
  split at h
  ·rename_i hl
   obtain ⟨q,q1,q2⟩:=Sd dp H k0 hk c s hH hl s.Args 0 rfl h
   apply dQ
   apply dQ
   apply iq (st1:=Ge dp H k0 s 0) (by simp)
   apply Lk
   refine afJ q1 ?_
   rcases q2 with rfl | ⟨rfl,y,rfl,hy⟩
   ·rfl
   ·refine Eq.mpr (af rfl) ?_
    apply dQ
    apply iq (by simp [hy];rfl)
    exact vR rfl
  ·cases h
 apply Ct
 apply HD
 apply dQ
 apply dQ
 apply iq (st1:=tS dp H k0 s [(157,.b (jI s.Kind))]) (by simp)
 apply vQ (jI s.Kind) (by simp)
 ·intro hE
  rw [af hE] at hx
  have hX:=mi (E:=⟨dp,true⟩) (tR s.Expr c.p.Vars.length x hx) (by simp) (by simp)
  apply dQ
  apply iq (st1:=tS dp H k0 s [(11,I x)]) (by simp [-dj,e0,e2,hH,hX])
  apply dQ
  apply iq (st1:=tS dp H k0 s [(11,I x),(168,.b (decide (x≠0)))]) (by by_cases q:x=0<;>simp [q])
  apply vQ (decide (x≠0)) (by simp)
  ·intro hq
   rw [af (sM hq)] at h
   obtain rfl:=ah h
   apply dQ
   apply iq (by simp;rfl)
   exact vR rfl
  ·intro hq
   apply Ct
   exact tail _ (by simp) (by simpa using hq)
 ·intro hE
  rw [ab (by simp [hE])] at hx
  obtain rfl:=ah hx
  apply Ct
  exact tail _ (by simp) rfl
end
theorem zo(dp:Nat)(hp:HP)(k0:Key)(hk:k0.dp<dp)(hz:aT dp hp)(c:Checker)(s:Stmt)(r:Int)(h:gw c s=some r):call G Ω0 ⟨dp,true⟩ 170 [.p k0 0,.a (ar s)] (aq hp k0 (bH c))=some (.ret (I r),aq hp k0 (bH c)):=
 ado dp _ k0 hk c s (by simp [aq]) h
end Go.Proofs.YtlmphbbhaeampaaGreat.A
