/- Functions of the program as plain functions, by program. -/
import Derived.Test.YtlmphbbhaeampaaGreatTypes
import Derived.Test.YtlmphbbhaeampaaGreatBase
import Derived.Test.YtlmphbbhaeampaaGreatStepF
set_option linter.all false
set_option maxRecDepth 100000
set_option maxHeartbeats 16000000
namespace Go.Proofs.YtlmphbbhaeampaaGreat.A
open Go
noncomputable section
variable [Lp]
section
variable (a0:ay)(a1:Int)
abbrev PR(a0:ay)(a1:Int)(r:Int):bC×HP:=(.ret (I r),H0)
abbrev A6(r:Int):Prop:=call G Ω0 E0 142 [(.a (bL a0)),(I a1)] H0=some (PR a0 a1 r)
end
structure A7 where
 f_scope_size:ay→Int→Option Int
structure zJ(R:A7):Prop where
 f_scope_size:∀ (a0:ay)(a1:Int)(r:Int),R.f_scope_size a0 a1=some r→A6 a0 a1 r
section
variable (R:A7)(a0:ay)(a1:Int)(u:Int)(g:Nat)(m:Nat)
def tc:Option ((Int×Nat)⊕((Int×Nat×Bool×ay)⊕(Int×Nat×Bool))):=
 if (g:Int)<(a0.Args.length:Int) then
  (a0.Args[g]?).bind fun y2=>
  if a1<u then
   some (.inr (.inl (u,g,decide (a1<u),y2)))
  else
   if IntKind.i64.wrap (a1 - u)=a1 - u then
    (R.f_scope_size y2 (a1 - u)).bind fun r6=>
    if IntKind.i64.wrap (u+r6)=u+r6 then
     if IntKind.i64.wrap ((g:Int)+1)=((g+1:Nat):Int) then
      some (.inl (u+r6,g+1))
     else none
    else none
   else none
 else
  some (.inr (.inr (u,g,decide ((g:Int)<(a0.Args.length:Int)))))
abbrev Mq(v:(Int×Nat)):St:=⟨[(1,(I a1)),(5,(I v.1)),(9,(cL a0.Args)),(10,(zI a0.Args.length)),(11,(I (v.2:Int)))],[],H0⟩
abbrev xT(x:((Int×Nat×Bool×ay)⊕(Int×Nat×Bool))):bc×St:=match x with | .inl (z1,z2,z3,z4)=>((.ex 0),⟨[(1,(I a1)),(5,(I z1)),zP 7,(9,(cL a0.Args)),(10,(zI a0.Args.length)),(11,(I (z2:Int))),(17,(.b z3))],[(7,(bL z4))],H0⟩) | .inr (z1,z2,z3)=>((.ex 0),⟨[(1,(I a1)),(5,(I z1)),(9,(cL a0.Args)),(10,(zI a0.Args.length)),(11,(I (z2:Int))),(12,(.b z3))],[],H0⟩)
theorem KC(hR:zJ R)(a0:ay)(a1:Int)(u:Int)(g:Nat)(o:(Int×Nat)⊕((Int×Nat×Bool×ay)⊕(Int×Nat×Bool)))(h:tc R a0 a1 u g=some o):bQ E0 UL (Mq a0 a1) (xT a0 a1) (u,g) o:=
 bZ (.or (bt<|ao (.n g)<|.ex fun (y2:ay)=>ao (.v (.a (bL y2)))<|cM<|oN (bt<|ao (.i (a1 - u))<|xI fun r6=>ao (.i (u+r6))<|ao (.i ((g+1:Nat):Int))<|.nil)) (bf<|.nil)) fun L=>cw h (fun h1 h=>ai (aF h1)<|ai (rI g)<|ba h fun y2 h3 h=>ai (dR bw h3 (di _))<|ai tt<|lZ<|cw h (fun h4 h=>ai (aF h4)<|L h) (fun h4 h=>lG (aD h4)<|aO h fun w5 h=>ai w5<|bq h (hR.f_scope_size y2 (a1 - u)) fun r6 h=>aO h fun w8 h=>ai w8<|aO h fun w9 h=>ai w9<|L h)) (fun h1 h=>ai (aD h1)<|L h)
def uI:Option Int:=
 (lp (fun v=>tc R a0 a1 v.1 v.2) (1,0)).bind fun x1=>match x1 with
 | .inl P=>
  some P.1
 | .inr O=>
  some O.1
theorem Jh(hR:zJ R)(a0:ay)(a1:Int)(r:Int)(h:uI R a0 a1=some r):A6 a0 a1 r:=
 bj aob (bt<|ao (.i (a0.Args.length:Int))<|.or (.ex fun (P:(Int×Nat×Bool×ay))=>ao (.cA (xT a0 a1 (.inl P)))<|.nil) (.ex fun (O:(Int×Nat×Bool))=>ao (.cA (xT a0 a1 (.inr O)))<|.nil)) fun L=>uq<|ai (aP bw a0.Args)<|dv h (dT (fun v=>KC R hR a0 a1 v.1 v.2) (1,0)) (fun P h=>L h) (fun O h=>L h)
def po:Nat→A7
 | 0=>⟨fun z0 z1=>none⟩
 | n+1=>⟨uI (po n)⟩
theorem Fj:∀ n,zJ (po n)
 | 0=>⟨fun _ _ r h=>(by cases h)⟩
 | n+1=>⟨fun a0 a1 r h=>Jh _ (Fj n) a0 a1 r h⟩
def A8:Option Int:=ev fun n=>(po n).f_scope_size a0 a1
theorem KD(r:Int)(h:A8 a0 a1=some r):A6 a0 a1 r:=by
 obtain ⟨n,hn⟩:=nW h
 exact (Fj n).f_scope_size a0 a1 r hn
def Cv:List dE:=(gA 23 45)::[]
def iM(Q:Bool):Option Bool:=
 some Q
abbrev jS(x:Bool):St:=⟨[(1,(I a1)),zP 2,(23,(.b x))],[(2,(bL a0))],H0⟩
theorem kN(Q:Bool)(w:List AV)(x:Bool)(h:iM Q=some x):q9 G Ω0 E0 [1,2,23] [2] Cv ⟨[(45,(.b Q)),(44,(W w 0)),(43,(W w 1)),(42,(W w 2)),(41,(W w 3)),(40,(W w 4)),(39,(W w 5)),(38,(W w 6)),(37,(W w 7)),(36,(W w 8)),(35,(W w 9)),(34,(W w 10)),(33,(W w 11)),(32,(W w 12)),(31,(W w 13)),(30,(W w 14)),(29,(W w 15)),(28,(W w 16)),(27,(.b (a0.Kind==1))),(26,(.b (a0.Kind==1))),(25,(I a0.Kind)),(24,(zQ 2)),(1,(I a1)),zP 2,(5,(zI m)),(17,(.b ((a0.Args.length:Int) !=(m:Int))))],[(2,(bL a0))],H0⟩=some (jS a0 a1 x):=
 qJ (.nil) fun L=>L h
def KE:List dE:=(gF 24 0 2)::(gQ 25 24)::(gB 26 .eql 25 (kI 1))::(gM 27 26)::⟨some 28,.fa 1 2,some ⟨27,true⟩,false⟩::⟨some 29,.ld none 28,some ⟨27,true⟩,false⟩::⟨some 30,.bo .lss false 29 (kI (-9999999)),some ⟨27,true⟩,false⟩::⟨some 31,.mv 30,some ⟨27,true⟩,false⟩::⟨some 32,.fa 1 2,some ⟨31,false⟩,false⟩::⟨some 33,.ld none 32,some ⟨31,false⟩,false⟩::⟨some 34,.bo .gtr false 33 (kI 9999999),some ⟨31,false⟩,false⟩::⟨some 35,.pk 31 (.c (.b true)) 34,some ⟨27,true⟩,false⟩::(gk 36 27 35 (.c (.b false)))::(gM 37 36)::⟨some 38,.mv 5,some ⟨37,false⟩,false⟩::⟨some 39,.bo .gtr false 38 (kI 0),some ⟨37,false⟩,false⟩::⟨some 40,.mv 39,some ⟨37,false⟩,false⟩::⟨some 41,.fa 1 2,some ⟨40,true⟩,false⟩::⟨some 42,.ld none 41,some ⟨40,true⟩,false⟩::⟨some 43,.bo .neq false 42 (kI 0),some ⟨40,true⟩,false⟩::⟨some 44,.pk 40 43 (.c (.b false)),some ⟨37,false⟩,false⟩::(gp 45 (.pk 37 (.c (.b true)) 44))::Cv
def rz:Option Bool:=
 if (a0.Kind==1)=true then
  if a0.N < -9999999 then
   (iM true).bind fun x7=>
   some x7
  else
   if 9999999<a0.N then
    (iM true).bind fun x8=>
    some x8
   else
    if 0<(m:Int) then
     (iM (a0.N !=0)).bind fun x9=>
     some x9
    else
     (iM false).bind fun x9=>
     some x9
 else
  if 0<(m:Int) then
   (iM (a0.N !=0)).bind fun x7=>
   some x7
  else
   (iM false).bind fun x7=>
   some x7
abbrev Cw(x:Bool):St:=⟨[(1,(I a1)),zP 2,(23,(.b x))],[(2,(bL a0))],H0⟩
theorem Ji(x:Bool)(h:rz a0 m=some x):q9 G Ω0 E0 [1,2,23] [2] KE ⟨[(1,(I a1)),zP 2,(5,(zI m)),(17,(.b ((a0.Args.length:Int) !=(m:Int))))],[(2,(bL a0))],H0⟩=some (Cw a0 a1 x):=
 let F:=zI m;let E:=some 23;let D:=a0.N !=0;let C:=decide (0<(m:Int));let B:=decide (a0.N < -9999999);let A:=decide (9999999<a0.N);qJ (bt<|.or (pn<|.or (bf<|bf<|bf<|bt<|bt<|bt<|bf<|bf<|bf<|bf<|bt<|.jb E 0<|.ex fun (x7:Bool)=>ao (.jn (jS a0 a1 x7))<|.nil) (bt<|bt<|bt<|bt<|bt<|bf<|bt<|.or (TJ<|.jb E 0<|.ex fun (x8:Bool)=>ao (.jn (jS a0 a1 x8))<|.nil) (ea<|.or (PJ<|.jb E 0<|.ex fun (x9:Bool)=>ao (.jn (jS a0 a1 x9))<|.nil) (Ml<|.jb E 0<|.ex fun (x9:Bool)=>ao (.jn (jS a0 a1 x9))<|.nil)))) (bf<|bf<|bf<|bf<|bf<|bf<|bt<|bt<|bt<|.or (PJ<|.jb E 0<|.ex fun (x7:Bool)=>ao (.jn (jS a0 a1 x7))<|.nil) (Ml<|.jb E 0<|.ex fun (x7:Bool)=>ao (.jn (jS a0 a1 x7))<|.nil))) fun L=>ai (rfl:Z0)<|bB h (fun h5 h=>dC h5<|ai (rfl:Z0)<|dC h5<|cw h (fun h6 h=>fy (aF h6)<|ai (g1 h5)<|ai (aF h6)<|ai h5<|nR<|nR<|ai tt<|bq h (kN a0 a1 m true [.sk,.sk,.sk,.sk,.sk,.sk,.sk,(.b true),(.b true),(.b true),.sk,.sk,.sk,(.b B),(.b B),(I a0.N),(.p ⟨0,2⟩ 1)]) fun x7 h=>L h) (fun h6 h=>Ky (aD h6)<|ai (g1 h5)<|ai (aD h6)<|ai h5<|cw h (fun h7 h=>Zg (aF h7)<|bq h (kN a0 a1 m true [.sk,.sk,.sk,.sk,.sk,.sk,.sk,(.b A),(.b A),(.b A),(.b A),(I a0.N),(.p ⟨0,2⟩ 1),(.b B),(.b B),(I a0.N),(.p ⟨0,2⟩ 1)]) fun x8 h=>L h) (fun h7 h=>fy (aD h7)<|cw h (fun h8 h=>Sx (aF h8)<|ai (g0 (aD h7))<|ai (aF h8)<|ai (aD h7)<|bq h (kN a0 a1 m D [(.b D),(.b D),(I a0.N),(.p ⟨0,2⟩ 1),(.b C),(.b C),F,(.b A),(.b A),(.b A),(.b A),(I a0.N),(.p ⟨0,2⟩ 1),(.b B),(.b B),(I a0.N),(.p ⟨0,2⟩ 1)]) fun x9 h=>L h) (fun h8 h=>PE (aD h8)<|ai (g0 (aD h7))<|ai (aD h8)<|ai (aD h7)<|bq h (kN a0 a1 m false [(.b false),.sk,.sk,.sk,(.b C),(.b C),F,(.b A),(.b A),(.b A),(.b A),(I a0.N),(.p ⟨0,2⟩ 1),(.b B),(.b B),(I a0.N),(.p ⟨0,2⟩ 1)]) fun x9 h=>L h)))) (fun h5 h=>dC h5<|dC h5<|qg h5<|ai hf<|ai hf<|ai hf<|cw h (fun h6 h=>dC (aF h6)<|ai (rfl:Z0)<|ai (g1 (aF h6))<|ai hf<|ai (aF h6)<|ai ff<|bq h (kN a0 a1 m D [(.b D),(.b D),(I a0.N),(.p ⟨0,2⟩ 1),(.b C),(.b C),F,(.b false),(.b false),.sk,.sk,.sk,.sk,.sk,.sk,.sk,.sk]) fun x7 h=>L h) (fun h6 h=>Zh (aD h6)<|bq h (kN a0 a1 m false [(.b false),.sk,.sk,.sk,(.b C),(.b C),F,(.b false),(.b false),.sk,.sk,.sk,.sk,.sk,.sk,.sk,.sk]) fun x7 h=>L h))
def oj:Option (Unit⊕(Unit⊕(Unit⊕Unit))):=
 if ((a0.Args.length:Int) !=(m:Int))=true then
  some (.inl ())
 else
  (rz a0 m).bind fun x5=>
  if x5=true then
   some (.inr (.inl ()))
  else
   if (a0.Kind==2)=true then
    if a0.N<0 then
     some (.inr (.inr (.inl ())))
    else
     if a1≤a0.N then
      some (.inr (.inr (.inl ())))
     else
      some (.inr (.inr (.inr ())))
   else
    some (.inr (.inr (.inr ())))
abbrev gb(x:(Unit⊕(Unit⊕(Unit⊕Unit)))):bc×St:=match x with | .inl ()=>(.ret,⟨[(4,(I 1))],[],H0⟩) | .inr (.inl ())=>(.ret,⟨[(4,(I 3))],[],H0⟩) | .inr (.inr (.inl ()))=>(.ret,⟨[(4,(I 5))],[],H0⟩) | .inr (.inr (.inr ()))=>(.ret,⟨[(4,(I 0))],[],H0⟩)
theorem A9(x:(Unit⊕(Unit⊕(Unit⊕Unit))))(h:oj a0 a1 m=some x):run G Ω0 E0 U5 ⟨[(1,(I a1)),zP 2,(5,(zI m))],[(2,(bL a0))],H0⟩=some (gb x):=
 oi (bt<|ao (.i (a0.Args.length:Int))<|oN (.jb (some 24) 22<|.ex fun (x5:Bool)=>ao (.jn (Cw a0 a1 x5))<|oN (bt<|.or (pn<|.or (bf<|bf<|bf<|bf<|bt<|bt<|bt<|bt<|.nil) (bt<|bt<|bt<|bt<|bt<|bt<|bf<|bt<|oN (.nil))) (bf<|bf<|bf<|bf<|bf<|bf<|bf<|.nil)))) fun L=>ai (rfl:Z0)<|ai (aP bw a0.Args)<|bB h (fun h4 h=>ai h4<|L h) (fun h4 h=>ai h4<|bq h (Ji a0 a1 m) fun x5 h=>bB h (fun h7 h=>ai h7<|L h) (fun h7 h=>lG h7<|bB h (fun h8 h=>dC h8<|ai (rfl:Z0)<|dC h8<|cw h (fun h9 h=>fy (aF h9)<|ai (g0 (aF h9))<|ai (g1 h8)<|ai (aF h9)<|ai h8<|ai tt<|L h) (fun h9 h=>Zi (aD h9)<|ai (g1 h8)<|ai (aD h9)<|ai h8<|cw h (fun V h=>ai (aF V)<|L h) (fun V h=>ai (aD V)<|L h))) (fun h8 h=>dC h8<|dC h8<|qg h8<|ai ff<|L h)))
abbrev PS(a0:ay)(a1:Int)(r:Int):bC×HP:=(.ret (I r),H0)
def wg:Option Int:=
 if a0.Kind<1 then
  some 7
 else
  if 7<a0.Kind then
   some 7
  else
   if 2<a0.Kind then
    (oj a0 a1 2).bind fun x4=>match x4 with
    | .inl z=>
     some 1
    | .inr (.inl J)=>
     some 3
    | .inr (.inr (.inl M))=>
     some 5
    | .inr (.inr (.inr K))=>
     some 0
   else
    (oj a0 a1 0).bind fun x4=>match x4 with
    | .inl z=>
     some 1
    | .inr (.inl J)=>
     some 3
    | .inr (.inr (.inl M))=>
     some 5
    | .inr (.inr (.inr K))=>
     some 0
theorem KF(r:Int)(h:wg a0 a1=some r):call G Ω0 E0 185 [(.a (bL a0)),(I a1)] H0=some (PS a0 a1 r):=
 bj aoE (bt<|.or (bf<|bf<|bf<|bt<|bt<|.nil) (PH<|oN (bt<|.or (bt<|.fb<|.or (.ex fun (z:Unit)=>ao (.ei (gb (.inl z)))<|.nil) (.or (.ex fun (J:Unit)=>ao (.ei (gb (.inr (.inl J))))<|.nil) (.or (.ex fun (M:Unit)=>ao (.ei (gb (.inr (.inr (.inl M)))))<|.nil) (.ex fun (K:Unit)=>ao (.ei (gb (.inr (.inr (.inr K)))))<|.nil)))) (bf<|.fb<|.or (.ex fun (z:Unit)=>ao (.ei (gb (.inl z)))<|.nil) (.or (.ex fun (J:Unit)=>ao (.ei (gb (.inr (.inl J))))<|.nil) (.or (.ex fun (M:Unit)=>ao (.ei (gb (.inr (.inr (.inl M)))))<|.nil) (.ex fun (K:Unit)=>ao (.ei (gb (.inr (.inr (.inr K)))))<|.nil))))))) fun L=>uq<|cw h (fun h1 h=>fy (aF h1)<|ai (aF h1)<|ai tt<|L h) (fun h1 h=>ai (g0 (aD h1))<|ai (g0 (aD h1))<|ai (rfl:Z0)<|iD (aD h1)<|cw h (fun h2 h=>ai (aF h2)<|L h) (fun h2 h=>lG (aD h2)<|cw h (fun h3 h=>ai (aF h3)<|Kx h (A9 a0 a1 2) (fun z h=>L h) (fun J h=>L h) (fun M h=>L h) (fun K h=>L h)) (fun h3 h=>ai (aD h3)<|Kx h (A9 a0 a1 0) (fun z h=>L h) (fun J h=>L h) (fun M h=>L h) (fun K h=>L h))))
abbrev N9(a0:ay)(a1:Int)(r:Int):bC×HP:=(.ret (I r),H0)
abbrev zK(r:Int):Prop:=call G Ω0 E0 143 [(.a (bL a0)),(I a1)] H0=some (N9 a0 a1 r)
end
structure zL where
 f_scope_parts:ay→Int→Option Int
structure xU(R:zL):Prop where
 f_scope_parts:∀ (a0:ay)(a1:Int)(r:Int),R.f_scope_parts a0 a1=some r→zK a0 a1 r
section
variable (R:zL)(a0:ay)(a1:Int)(t:Nat)
def rA:Option (Nat⊕(Int⊕(Nat×Bool))):=
 if (t:Int)<(a0.Args.length:Int) then
  (a0.Args[t]?).bind fun y5=>
  (R.f_scope_parts y5 a1).bind fun r7=>
  if (r7 !=0)=true then
   some (.inr (.inl r7))
  else
   if IntKind.i64.wrap ((t:Int)+1)=((t+1:Nat):Int) then
    some (.inl (t+1))
   else none
 else
  some (.inr (.inr (t,decide ((t:Int)<(a0.Args.length:Int)))))
abbrev KG(v:Nat):St:=⟨[(1,(I a1)),(16,(cL a0.Args)),(17,(zI a0.Args.length)),(18,(I (v:Int)))],[],H0⟩
abbrev wh(x:(Int⊕(Nat×Bool))):bc×St:=match x with | .inl z1=>(.ret,⟨[(4,(I z1))],[],H0⟩) | .inr (z1,z2)=>((.ex 0),⟨[(1,(I a1)),(16,(cL a0.Args)),(17,(zI a0.Args.length)),(18,(I (z1:Int))),(19,(.b z2))],[],H0⟩)
theorem Jj(hR:xU R)(a0:ay)(a1:Int)(t:Nat)(o:Nat⊕(Int⊕(Nat×Bool)))(h:rA R a0 a1 t=some o):bQ E0 UM (KG a0 a1) (wh a0 a1) t o:=
 bZ (.or (bt<|ao (.n t)<|.ex fun (y5:ay)=>ao (.v (.a (bL y5)))<|ea<|xI fun r7=>oN (ao (.i ((t+1:Nat):Int))<|.nil)) (bf<|.nil)) fun L=>cw h (fun h4 h=>ai (aF h4)<|ai (rI t)<|ba h fun y5 h6 h=>ai (dR bw h6 (di _))<|IF<|bq h (hR.f_scope_parts y5 a1) fun r7 h=>bB h (fun h9 h=>ai h9<|L h) (fun h9 h=>ai h9<|aO h fun Y h=>ai Y<|L h)) (fun h4 h=>ai (aD h4)<|L h)
def td:Option Int:=
 (wg a0 a1).bind fun r1=>
 if (r1 !=0)=true then
  some r1
 else
  (lp (fun v=>rA R a0 a1 v) 0).bind fun x4=>match x4 with
  | .inl z=>
   some z
  | .inr J=>
   some 0
theorem H8(hR:xU R)(a0:ay)(a1:Int)(r:Int)(h:td R a0 a1=some r):zK a0 a1 r:=
 bj aoc (bt<|xI fun r1=>oN (bt<|ao (.i (a0.Args.length:Int))<|.or (.ex fun (z:Int)=>ao (.cA (wh a0 a1 (.inl z)))<|.nil) (.ex fun (J:(Nat×Bool))=>ao (.cA (wh a0 a1 (.inr J)))<|.nil))) fun L=>uq<|bq h (KF a0 a1) fun r1 h=>bB h (fun h3 h=>ai h3<|L h) (fun h3 h=>lG h3<|ai (aP bw a0.Args)<|dv h (dT (Jj R hR a0 a1) 0) (fun z h=>L h) (fun J h=>L h))
def nX:Nat→zL
 | 0=>⟨fun z0 z1=>none⟩
 | n+1=>⟨td (nX n)⟩
theorem DF:∀ n,xU (nX n)
 | 0=>⟨fun _ _ r h=>(by cases h)⟩
 | n+1=>⟨fun a0 a1 r h=>H8 _ (DF n) a0 a1 r h⟩
def zM:Option Int:=ev fun n=>(nX n).f_scope_parts a0 a1
theorem Jk(r:Int)(h:zM a0 a1=some r):zK a0 a1 r:=by
 obtain ⟨n,hn⟩:=nW h
 exact (DF n).f_scope_parts a0 a1 r hn
abbrev PT(a0:ay)(a1:Int)(r:Int):bC×HP:=(.ret (I r),H0)
def np:Option Int:=
 (A8 a0 15).bind fun r1=>
 if 15<r1 then
  some 2
 else
  (zM a0 a1).bind fun r4=>
  some r4
theorem wi(r:Int)(h:np a0 a1=some r):call G Ω0 E0 102 [(.a (bL a0)),(I a1)] H0=some (PT a0 a1 r):=
 bj anN (bt<|xI fun r1=>oN (bt<|xI fun r4=>.nil)) fun L=>uq<|bq h (KD a0 15) fun r1 h=>cw h (fun h3 h=>ai (aF h3)<|L h) (fun h3 h=>lG (aD h3)<|bq h (Jk a0 a1) fun r4 h=>L h)
end
section
variable (a0:Int)
abbrev Oa(a0:Int)(r:(Bool×Bool×Bool)):bC×HP:=(.ret (.tp [(.b r.1),(.b r.2.1),(.b r.2.2)]),H0)
def zN:Option (Bool×Bool×Bool):=
 if (a0 !=4)=true then
  if 2≤a0 then
   if (a0 !=2)=true then
    some ((decide (a0<7)),(decide (a0≤4)),(a0 !=3))
   else
    some ((decide (a0<7)),(decide (a0≤4)),false)
  else
   if (a0 !=2)=true then
    some ((decide (a0<7)),false,(a0 !=3))
   else
    some ((decide (a0<7)),false,false)
 else
  if 2≤a0 then
   if (a0 !=2)=true then
    some (false,(decide (a0≤4)),(a0 !=3))
   else
    some (false,(decide (a0≤4)),false)
  else
   if (a0 !=2)=true then
    some (false,false,(a0 !=3))
   else
    some (false,false,false)
theorem Jl(r:(Bool×Bool×Bool))(h:zN a0=some r):call G Ω0 E0 208 [(I a0)] H0=some (Oa a0 r):=
 let B:=Kz<|.or (ea<|.nil) (Kz<|.nil);let A:=ea<|.or (ea<|.nil) (Kz<|.nil);bj aoW (.or (ea<|.or A B) (Kz<|.or A B)) fun L=>bB h (fun h1 h=>ur h1<|cw h (fun h2 h=>ur (aF h2)<|bB h (fun h3 h=>ur h3<|L h) (fun h3 h=>ur h3<|L h)) (fun h2 h=>ur (aD h2)<|bB h (fun h3 h=>ur h3<|L h) (fun h3 h=>ur h3<|L h))) (fun h1 h=>ur h1<|cw h (fun h2 h=>ur (aF h2)<|bB h (fun h3 h=>ur h3<|L h) (fun h3 h=>ur h3<|L h)) (fun h2 h=>ur (aD h2)<|bB h (fun h3 h=>ur h3<|L h) (fun h3 h=>ur h3<|L h)))
end
end
variable [Lp]
attribute [local simp] gp execOp okB iY jq n9 Dy pa kL mq St.end_ St.oa pb List.filter fM zb view Cg SF VU KI plain
def fI(k:Int):Bool:=decide (k≠4∧k<7)
def jC(k:Int):Bool:=decide (2≤k∧k≤4)
def gG(k:Int):Bool:=decide (k≠2∧k≠3)
def fL(p:Program)(i k:Int):Int:=if k=2 then i else if k=3 then p.Ins.length else p.Outs.length
theorem Xv(k:Int):zN k=some (fI k,jC k,gG k):=by
 unfold zN fI jC gG
 by_cases h4:k=4
 ·subst h4;rfl
 by_cases h2:k=2
 ·subst h2;rfl
 by_cases X:2≤k
 ·by_cases h3:k=3<;>simp [h4,h2,X,h3]
 ·have h3:¬k=3:=by omega
  simp [h4,h2,X,h3]
noncomputable def wm(ex:ay→Option Int):List ay→Option Int
 | []=>some 0
 | e::r=>(ex e).bind fun x=>if x≠0 then some x else wm ex r
def uJ(p:Program)(i:Int)(s:Stmt):Bool:=(fI s.Kind&&(decide (s.Var<0)||decide ((p.Vars.length:Int)≤s.Var)))||(jC s.Kind&&(decide (s.Other<0)||decide (fL p i s.Kind≤s.Other)))
def mh(s:Stmt):Bool:=decide (s.Expr.Kind=0)&&decide (s.Expr.N=0)&&decide (s.Expr.Args.length=0)
def Aq(s:Stmt):Bool:=(((((!fI s.Kind&&decide (s.Var≠0))||(!jC s.Kind&&decide (s.Other≠0)))||(!gG s.Kind&&!mh s))||(s.Kind !=2&&decide (0<s.Args.length)))||(!decide (7≤s.Kind)&&decide (0<s.Then.length)))||(s.Kind !=7&&decide (0<s.Else.length))
noncomputable def Mu(ex:ay→Option Int)(p:Program)(i:Int)(s:Stmt):Option Int:=
 if uJ p i s=true then some 5
 else if Aq s=true then some 1
 else (if s.Kind=2 then (p.Funcs[s.Other.toNat]?).map fun f=>decide (s.Args.length≠f.Params.length) else some false).bind fun b=>if b=true then some 1
 else (if gG s.Kind=true then ex s.Expr else some 0).bind fun x=>if x≠0 then some x else if s.Args.length≤9223372036854775807 then wm ex s.Args else none
noncomputable def ig(c:Checker)(s:Stmt):Option Int:=if s.Kind<1∨8<s.Kind then some 7 else Mu (fun e=>np e c.p.Vars.length) c.p c.funcs s
section
variable (dp:Nat)(H:HP)(k0:Key)(hk:k0.dp<dp)(c:Checker)(s:Stmt)(hH:H k0=some (cq c))
abbrev tS(dp:Nat)(H:HP)(k0:Key)(s:Stmt)(xs:List (Nat×AV)):St:=⟨(0,.p k0 0)::(3,.p ⟨dp,3⟩ 0)::xs,[(3,ax s)],H⟩
abbrev NP(s:Stmt):List (Nat×AV):=[(5,I s.Kind),(6,.b (fI s.Kind)),(7,.b (jC s.Kind)),(8,.b (gG s.Kind)),(9,.b (decide (7≤s.Kind))),(10,.b (mh s))]
include hk hH
theorem Xw:call G Ω0 ⟨dp,true⟩ 209 [.p k0 0,I s.Kind] H=some (.ret (I (fL c.p c.funcs s.Kind)),H):=by
 have e0:¬k0.dp=dp:=by omega
 have e2:∀ d,¬k0=⟨dp,d⟩:=fun d=>aV hk
 refine Mt (st:=⟨[(4,I (fL c.p c.funcs s.Kind))],[],H⟩) aoX ?_ (by simp [WR]) rfl
 unfold fL
 apply cC
 apply dw (by simp;rfl)
 apply cC
 apply cC
 apply dw (by simp;rfl)
 apply Cy
 apply cC
 apply dw (by simp;rfl)
 apply jT (s.Kind==2) (by simp)
 ·intro hq
  rw [af (by simpa using hq)]
  apply cC
  apply dw (by simp [e0,e2,hH];rfl)
  exact o8 rfl
 intro hq
 rw [ah (by simpa using hq)]
 apply cC
 apply dw (by simp;rfl)
 apply jT (s.Kind==3) (by simp)
 ·intro hq
  rw [af (by simpa using hq)]
  apply cC
  apply dw (by simp [e0,e2,hH];rfl)
  exact o8 rfl
 intro hq
 rw [ah (by simpa using hq)]
 apply om
 apply qj
 apply cC
 apply dw (by simp [e0,e2,hH];rfl)
 exact o8 rfl
abbrev Jm(dp:Nat)(H:HP)(k0:Key)(s:Stmt)(k:Nat):St:=⟨[(0,.p k0 0),(171,.l 89 (s.Args.map bw)),(172,I s.Args.length),(173,I k)],[],H⟩
theorem VV(hl:s.Args.length≤9223372036854775807){r:Int} : ∀ (rest:List ay)(k:Nat),s.Args.drop k=rest→wm (fun e=>np e c.p.Vars.length) rest=some r→
  ∃ q,va G Ω0 ⟨dp,true⟩ U1 (Jm dp H k0 s k)=some q∧(q=(.ret,⟨[(4,I r)],[],H⟩)∨r=0∧∃ y,q=(.ex 1,y)∧y.hp=H)
 | [],k,hd,h=>by
  obtain rfl:=aq h
  have hk:¬((k:Int)<(s.Args.length:Int)):=by
   have:=Ca.1 hd;omega
  apply Exists.intro
  apply And.intro
  ·refine m9 (r:=(.ex 1,?_)) ?_ (by simp)
   rotate_left
   ·show run G Ω0 _ Kg (Jm dp H k0 s k)=_
    apply df (by simp [hk];rfl)
    apply Dd
    apply xV (by simp [hk])
    exact sf _ _ _
  ·exact .inr ⟨rfl,_,rfl,rfl⟩
 | e::rest,k,hd,h=>by
  obtain ⟨x,hx,h⟩:=au.1 h
  have e0:¬k0.dp=dp:=by omega
  have e2:∀ d,¬k0=⟨dp,d⟩:=fun d=>aV hk
  have T:k<s.Args.length:=by
   have h1:=az List.length hd
   simp only [Cb,fj] at h1
   omega
  have hg:s.Args[k]? =some e:=by
   have:=az (fun l=>l[0]?) hd
   simpa using this
  have ab:s.Args.drop (k+1)=rest:=by
   have:=az List.tail hd
   simpa using this
  have hw:IntKind.i64.wrap ((k:Int)+1)=(k:Int)+1:=wrap64 (by omega) (by omega)
  have hX:=kO (E:=⟨dp,true⟩) (wi e c.p.Vars.length x hx) (by simp) (by simp)
  have body:Nx ⟨dp,true⟩ Kg (Jm dp H k0 s k) fun q=>q=if x≠0 then (.ret,⟨[(4,I x)],[],H⟩) else (.nrm,Jm dp H k0 s (k+1)):=by
   apply cC
   apply dw (by simp [T];rfl)
   apply cC
   apply jT true (by simp [T])
   ·intro _
    apply om
    apply qj
    apply cC
    apply Cy
    apply cC
    apply dw (by simp [hg,di,e2];rfl)
    apply cC
    apply dw (by simp [-cK,e0,e2,hH,hX];rfl)
    apply cC
    apply dw (st1:=⟨[(0,.p k0 0),(14,I x),(171,.l 89 (s.Args.map bw)),(172,I s.Args.length),(173,I k),(186,.b (decide (x≠0)))],[],H⟩) (by by_cases q:x=0<;>simp [q])
    apply jT (decide (x≠0)) (by simp)
    ·intro hq
     rw [af (uX hq)]
     apply cC
     apply dw (by simp;rfl)
     exact o8 rfl
    ·intro hq
     rw [ah (B0 hq)]
     apply om
     refine dw (st1:=Jm dp H k0 s (k+1)) ?_ rfl
     simp [hw]
   ·intro hq;cases hq
  by_cases S:x=0
  ·rw [ah (by simp [S])] at h
   obtain ⟨q,q1,q2⟩:=VV hl rest (k+1) ab h
   refine ⟨q,?_,q2⟩
   rw [ah (by simp [S])] at body
   rw [pT]
   exact q1
   show (run G Ω0 _ Kg (Jm dp H k0 s k)).bind _=_
   rw [P4 body];rfl
  ·rw [af S] at h
   obtain rfl:=aq h
   rw [af S] at body
   exact ⟨_,m9 (by exact P4 body) (by simp),.inl rfl⟩
theorem ah5{r:Int}(h:ig c s=some r):call G Ω0 ⟨dp,true⟩ 170 [.p k0 0,.a (ax s)] H=some (.ret (I r),H):=by
 have e0:¬k0.dp=dp:=by omega
 have e2:∀ d,¬k0=⟨dp,d⟩:=fun d=>aV hk
 have hN:=kO (E:=⟨dp,true⟩) (Jl s.Kind _ (Xv s.Kind)) (by simp) (by simp)
 have hO:=Xw (dp+1) (fun k=>if k.dp=dp then none else H k) k0 (by omega) c s (by simp [e0,hH])
 unfold ig at h
 refine Mt (st:=⟨[(4,I r)],[],H⟩) aoz ?_ (by simp [WO]) rfl
 apply cC
 apply dw (by simp [e2];rfl)
 apply cC
 apply dw (by simp;rfl)
 apply cC
 apply cC
 apply dw (st1:=tS dp H k0 s [(5,I s.Kind),(22,.b (decide (s.Kind<1∨8<s.Kind)))]) (by by_cases q1:s.Kind<1<;>by_cases q2:8<s.Kind<;>simp [q1,q2])
 apply jT (decide (s.Kind<1∨8<s.Kind)) (by simp)
 ·intro hq
  rw [af (uX hq)] at h
  obtain rfl:=aq h
  apply cC
  apply dw (by simp;rfl)
  exact o8 rfl
 intro hq
 rw [ah (B0 hq)] at h
 unfold Mu at h
 apply om
 apply qj
 apply cC
 apply dw (st1:=tS dp H k0 s [(5,I s.Kind),(6,.b (fI s.Kind)),(7,.b (jC s.Kind)),(8,.b (gG s.Kind))]) (by simp [-cK,hN])
 apply cC
 apply dw (st1:=tS dp H k0 s [(5,I s.Kind),(6,.b (fI s.Kind)),(7,.b (jC s.Kind)),(8,.b (gG s.Kind)),(9,.b (decide (7≤s.Kind)))]) (by simp)
 apply cC
 apply dw (st1:=tS dp H k0 s (NP s)) (by by_cases a1:s.Expr.Kind=0<;>by_cases a2:s.Expr.N=0<;>by_cases a3:s.Expr.Args.length=0<;>simp [a1,a2,a3,mh])
 apply cC
 apply Cy
 apply cC
 apply dw (st1:=tS dp H k0 s (NP s++[(48,.b (uJ c.p c.funcs s))]))
 ·apply TV rfl (by simp)
  refine ah3 (v1:=tS dp H k0 s (NP s++[(66,.b (fI s.Kind&&(decide (s.Var<0)||decide ((c.p.Vars.length:Int)≤s.Var))))])) 18 [0,3,5,6,7,8,9,10,66] ?_ ?_
  ·cases hv:fI s.Kind
   ·((repeat refine Bc (by simp [hv];rfl) ?_);exact Bd (by simp [hv]))
   ·by_cases q:s.Var<0
    ·((repeat refine Bc (by simp [hv,q];rfl) ?_);exact Bd (by simp [hv,q]))
    ·((repeat refine Bc (by simp [hv,q,e0,e2,hH];rfl) ?_);exact Bd (by simp [hv,q]))
  ·refine P2 ?_ (by simp)
   unfold uJ
   cases (fI s.Kind&&(decide (s.Var<0)||decide ((c.p.Vars.length:Int)≤s.Var)))
   ·cases ho:jC s.Kind
    ·((repeat refine Bc (by simp [ho];rfl) ?_);exact Bd (by simp [ho]))
    ·by_cases q:s.Other<0
     ·((repeat refine Bc (by simp [ho,q];rfl) ?_);exact Bd (by simp [ho,q]))
     ·((repeat refine Bc (by simp [ho,q,e0,e2,hO];rfl) ?_);exact Bd (by simp [ho,q]))
   ·((repeat refine Bc (by simp;rfl) ?_);exact Bd (by simp))
 apply jT (uJ c.p c.funcs s) (by simp)
 ·intro hq
  rw [af hq] at h
  obtain rfl:=aq h
  apply cC
  apply dw (by simp;rfl)
  exact o8 rfl
 intro hn
 rw [ah (by simp [hn])] at h
 apply cC
 apply dw (st1:=tS dp H k0 s [(5,I s.Kind),(8,.b (gG s.Kind)),(82,.b (Aq s))])
 ·apply TU rfl
  refine so (v1:=tS dp H k0 s (NP s++[(90,.b (!fI s.Kind&&decide (s.Var≠0)))])) 8 [0,3,5,6,7,8,9,10,90] ?_ ?_
  ·cases hv:fI s.Kind<;>by_cases q:s.Var=0<;>((repeat refine ve (by simp [hv,q];rfl) ?_);exact vf (by simp [hv,q]))
  unfold Aq
  refine so (v1:=tS dp H k0 s (NP s++[(99,.b ((!fI s.Kind&&decide (s.Var≠0))||(!jC s.Kind&&decide (s.Other≠0))))])) 9 [0,3,5,6,7,8,9,10,99] ?_ ?_
  ·cases (!fI s.Kind&&decide (s.Var≠0))<;>cases ho:jC s.Kind<;>by_cases q:s.Other=0<;>((repeat refine ve (by simp [ho,q];rfl) ?_);exact vf (by simp [ho,q]))
  generalize ((!fI s.Kind&&decide (s.Var≠0))||(!jC s.Kind&&decide (s.Other≠0)))=b2
  refine so (v1:=tS dp H k0 s (NP s++[(107,.b (b2||(!gG s.Kind&&!mh s)))])) 8 [0,3,5,6,7,8,9,10,107] ?_ ?_
  ·cases b2<;>cases he:gG s.Kind<;>cases hb:mh s<;>((repeat refine ve (by simp [he,hb];rfl) ?_);exact vf (by simp [he,hb]))
  generalize (b2||(!gG s.Kind&&!mh s))=b3
  refine so (v1:=tS dp H k0 s (NP s++[(117,.b (b3||(s.Kind !=2&&decide (0<s.Args.length))))])) 10 [0,3,5,6,7,8,9,10,117] ?_ ?_
  ·cases b3<;>cases q:(s.Kind !=2)<;>((repeat refine ve (by simp [q];rfl) ?_);exact vf (by simp [q]))
  generalize (b3||(s.Kind !=2&&decide (0<s.Args.length)))=b4
  refine so (v1:=tS dp H k0 s (NP s++[(127,.b (b4||(!decide (7≤s.Kind)&&decide (0<s.Then.length))))])) 10 [0,3,5,6,7,8,9,10,127] ?_ ?_
  ·cases b4<;>by_cases q:7≤s.Kind<;>((repeat refine ve (by simp [q];rfl) ?_);exact vf (by simp [q]))
  generalize (b4||(!decide (7≤s.Kind)&&decide (0<s.Then.length)))=b5
  refine PZ ?_ (by simp)
  cases b5<;>cases q:(s.Kind !=7)<;>((repeat refine ve (by simp [q];rfl) ?_);exact vf (by simp [q]))
 apply jT (Aq s) (by simp)
 ·intro hq
  rw [af hq] at h
  obtain rfl:=aq h
  apply cC
  apply dw (by simp;rfl)
  exact o8 rfl
 intro hf
 rw [ah (by simp [hf])] at h
 obtain ⟨b,hb,h⟩:=au.1 h
 apply cC
 apply dw (st1:=tS dp H k0 s [(8,.b (gG s.Kind)),(137,.b b)])
 ·apply TV rfl (by simp)
  refine P2 ?_ (by simp)
  cases q:(s.Kind==2)
  ·rw [ah (ne_of_beq_false q)] at hb
   obtain rfl:=aq hb
   ((repeat refine Bc (by simp [q];rfl) ?_);exact Bd (by simp [q]))
  ·have q1:=eq_of_beq q
   rw [af q1] at hb
   obtain ⟨f,U,aa⟩:=fi.1 hb
   have ac:¬s.Other<0:=fun T=>by simp [uJ,jC,q1,T] at hn
   obtain ⟨j,hj⟩:∃ j:Nat,s.Other=j:=⟨s.Other.toNat,by omega⟩
   rw [hj] at U
   have U:c.p.Funcs[j]? =some f:=by simpa using U
   subst aa
   have q2:((s.Args.length:Int) !=(f.Params.length:Int))=decide (s.Args.length≠f.Params.length):=by
    by_cases q3:s.Args.length=f.Params.length
    ·simp [q3]
    ·rw [aF q3]
     simp only [uW,ne_eq]
     omega
   ((repeat refine Bc (by simp [q,e0,e2,hH,hj,U,cS];rfl) ?_);exact Bd (by simp [q,q2]))
 apply jT b (by simp)
 ·intro hq
  rw [af hq] at h
  obtain rfl:=aq h
  apply cC
  apply dw (by simp;rfl)
  exact o8 rfl
 intro hq
 rw [ah (by simp [hq])] at h
 obtain ⟨x,hx,h⟩:=au.1 h
 have tail:∀ st:St,st.cn [0,3] [0,3]=tS dp H k0 s []→x=0→Nx ⟨dp,true⟩ U2 st fun q=>q=(.ret,⟨[(4,I r)],[],H⟩):=by
  intro st Z S
  apply qj
  rw [Z]
  rw [ah (by simp [S])] at h
  split at h
  ·rename_i hl
   obtain ⟨q,q1,q2⟩:=VV dp H k0 hk c s hH hl s.Args 0 rfl h
   apply cC
   apply cC
   apply dw (st1:=Jm dp H k0 s 0) (by simp)
   apply Cy
   refine TW q1 ?_
   rcases q2 with rfl | ⟨rfl,y,rfl,hy⟩
   ·rfl
   ·refine Eq.mpr (af rfl) ?_
    apply cC
    apply dw (by simp [hy];rfl)
    exact o8 rfl
  ·cases h
 apply om
 apply qj
 apply cC
 apply cC
 apply dw (st1:=tS dp H k0 s [(157,.b (gG s.Kind))]) (by simp)
 apply jT (gG s.Kind) (by simp)
 ·intro hE
  rw [af hE] at hx
  have hX:=kO (E:=⟨dp,true⟩) (wi s.Expr c.p.Vars.length x hx) (by simp) (by simp)
  apply cC
  apply dw (st1:=tS dp H k0 s [(11,I x)]) (by simp [-cK,e0,e2,hH,hX])
  apply cC
  apply dw (st1:=tS dp H k0 s [(11,I x),(168,.b (decide (x≠0)))]) (by by_cases q:x=0<;>simp [q])
  apply jT (decide (x≠0)) (by simp)
  ·intro hq
   rw [af (uX hq)] at h
   obtain rfl:=aq h
   apply cC
   apply dw (by simp;rfl)
   exact o8 rfl
  ·intro hq
   apply om
   exact tail _ (by simp) (by simpa using hq)
 ·intro hE
  rw [ah (by simp [hE])] at hx
  obtain rfl:=aq hx
  apply om
  exact tail _ (by simp) rfl
end
theorem BP(dp:Nat)(hp:HP)(k0:Key)(hk:k0.dp<dp)(hz:bF dp hp)(c:Checker)(s:Stmt)(r:Int)(h:ig c s=some r):call G Ω0 ⟨dp,true⟩ 170 [.p k0 0,.a (ax s)] (ar hp k0 (cq c))=some (.ret (I r),ar hp k0 (cq c)):=
 ah5 dp _ k0 hk c s (by simp [ar]) h
end Go.Proofs.YtlmphbbhaeampaaGreat.A
