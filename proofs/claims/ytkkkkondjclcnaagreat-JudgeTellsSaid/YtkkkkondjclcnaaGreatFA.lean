/- Functions of the program as plain functions, by program. -/
import Derived.Test.YtkkkkondjclcnaaGreatTypes
import Derived.Test.YtkkkkondjclcnaaGreatBase
import Derived.Test.YtkkkkondjclcnaaGreatStepF
set_option linter.all false
set_option maxRecDepth 100000
set_option maxHeartbeats 16000000
namespace Go.Proofs.YtkkkkondjclcnaaGreat.A
open Go
noncomputable section
variable [Lp]
section
variable (a0:aB)(a1:Int)
abbrev OC(a0:aB)(a1:Int)(r:Int):bH×HP:=(.ret (I r),H0)
abbrev AK(r:Int):Prop:=call G Ω0 E0 111 [(.a (ep a0)),(I a1)] H0=some (OC a0 a1 r)
end
structure AL where
 f_scope_size:aB→Int→Option Int
structure zd(R:AL):Prop where
 f_scope_size:∀ (a0:aB)(a1:Int)(r:Int),R.f_scope_size a0 a1=some r→AK a0 a1 r
section
variable (R:AL)(a0:aB)(a1:Int)(u:Int)(m:Nat)(g:Nat)
def s7:Option ((Int×Nat)⊕((Int×Nat×Bool×aB)⊕(Int×Nat×Bool))):=
 if (m:Int)<(a0.Args.length:Int) then
  (a0.Args[m]?).bind fun y2=>
  if a1<u then
   some (.inr (.inl (u,m,decide (a1<u),y2)))
  else
   if IntKind.i64.wrap (a1 - u)=a1 - u then
    (R.f_scope_size y2 (a1 - u)).bind fun r6=>
    if IntKind.i64.wrap (u+r6)=u+r6 then
     if IntKind.i64.wrap ((m:Int)+1)=((m+1:Nat):Int) then
      some (.inl (u+r6,m+1))
     else none
    else none
   else none
 else
  some (.inr (.inr (u,m,decide ((m:Int)<(a0.Args.length:Int)))))
abbrev Lb(v:(Int×Nat)):St:=⟨[(1,(I a1)),(5,(I v.1)),(9,(dO a0.Args)),(10,(zI a0.Args.length)),(11,(I (v.2:Int)))],[],H0⟩
abbrev xe(x:((Int×Nat×Bool×aB)⊕(Int×Nat×Bool))):aN×St:=match x with | .inl (z1,z2,z3,z4)=>((.ex 0),⟨[(1,(I a1)),(5,(I z1)),zP 7,(9,(dO a0.Args)),(10,(zI a0.Args.length)),(11,(I (z2:Int))),(17,(.b z3))],[(7,(ep z4))],H0⟩) | .inr (z1,z2,z3)=>((.ex 0),⟨[(1,(I a1)),(5,(I z1)),(9,(dO a0.Args)),(10,(zI a0.Args.length)),(11,(I (z2:Int))),(12,(.b z3))],[],H0⟩)
theorem JD(hR:zd R)(a0:aB)(a1:Int)(u:Int)(m:Nat)(o:(Int×Nat)⊕((Int×Nat×Bool×aB)⊕(Int×Nat×Bool)))(h:s7 R a0 a1 u m=some o):bO E0 TV (Lb a0 a1) (xe a0 a1) (u,m) o:=
 bZ (.or (bt<|ao (.n m)<|.ex fun (y2:aB)=>ao (.v (.a (ep y2)))<|fN<|oN (bt<|ao (.i (a1 - u))<|xI fun r6=>ao (.i (u+r6))<|ao (.i ((m+1:Nat):Int))<|.nil)) (bf<|.nil)) fun L=>cp h (fun h1 h=>ai (aA h1)<|ai (rI m)<|cn h fun y2 h3 h=>ai (kS aT h3 (dj _))<|ai tt<|ai ff<|gT<|ai (rfl:Z0)<|cp h (fun h4 h=>ai (aA h4)<|L h) (fun h4 h=>oY (ay h4)<|aW h fun w5 h=>ai w5<|bJ h (hR.f_scope_size y2 (a1 - u)) fun r6 h=>aW h fun w8 h=>ai w8<|aW h fun w9 h=>ai w9<|L h)) (fun h1 h=>ai (ay h1)<|L h)
def uB:Option Int:=
 (lp (fun v=>s7 R a0 a1 v.1 v.2) (1,0)).bind fun x1=>match x1 with
 | .inl J=>
  some J.1
 | .inr F=>
  some F.1
theorem Iq(hR:zd R)(a0:aB)(a1:Int)(r:Int)(h:uB R a0 a1=some r):AK a0 a1 r:=
 bu alS (bt<|ao (.i (a0.Args.length:Int))<|.or (.ex fun (J:(Int×Nat×Bool×aB))=>ao (.cD (xe a0 a1 (.inl J)))<|.nil) (.ex fun (F:(Int×Nat×Bool))=>ao (.cD (xe a0 a1 (.inr F)))<|.nil)) fun L=>vX<|ai (aJ aT a0.Args)<|fc h (fC (fun v=>JD R hR a0 a1 v.1 v.2) (1,0)) (fun J h=>L h) (fun F h=>L h)
def oZ:Nat→AL
 | 0=>⟨fun z0 z1=>none⟩
 | n+1=>⟨uB (oZ n)⟩
theorem EN:∀ n,zd (oZ n)
 | 0=>⟨fun _ _ r h=>(by cases h)⟩
 | n+1=>⟨fun a0 a1 r h=>Iq _ (EN n) a0 a1 r h⟩
def AM:Option Int:=ev fun n=>(oZ n).f_scope_size a0 a1
theorem JE(r:Int)(h:AM a0 a1=some r):AK a0 a1 r:=by
 obtain ⟨n,hn⟩:=xb h
 exact (EN n).f_scope_size a0 a1 r hn
def BT:List de:=(gA 23 45)::[]
def iP(K:Bool):Option Bool:=
 some K
abbrev jR(x:Bool):St:=⟨[(1,(I a1)),zP 2,(23,(.b x))],[(2,(ep a0))],H0⟩
theorem kU(K:Bool)(w:List AV)(x:Bool)(h:iP K=some x):uc G Ω0 E0 [1,2,23] [2] BT ⟨[(45,(.b K)),(44,(W w 0)),(43,(W w 1)),(42,(W w 2)),(41,(W w 3)),(40,(W w 4)),(39,(W w 5)),(38,(W w 6)),(37,(W w 7)),(36,(W w 8)),(35,(W w 9)),(34,(W w 10)),(33,(W w 11)),(32,(W w 12)),(31,(W w 13)),(30,(W w 14)),(29,(W w 15)),(28,(W w 16)),(27,(.b (a0.Kind==1))),(26,(.b (a0.Kind==1))),(25,(I a0.Kind)),(24,(zQ 2)),(1,(I a1)),zP 2,(5,(zI g)),(17,(.b ((a0.Args.length:Int) !=(g:Int))))],[(2,(ep a0))],H0⟩=some (jR a0 a1 x):=
 ur (.nil) fun L=>L h
def JF:List de:=(gF 24 0 2)::(gQ 25 24)::(gB 26 .eql 25 (kI 1))::(gM 27 26)::⟨some 28,.fa 1 2,some ⟨27,true⟩,false⟩::⟨some 29,.ld none 28,some ⟨27,true⟩,false⟩::⟨some 30,.bo .lss false 29 (kI (-9999999)),some ⟨27,true⟩,false⟩::⟨some 31,.mv 30,some ⟨27,true⟩,false⟩::⟨some 32,.fa 1 2,some ⟨31,false⟩,false⟩::⟨some 33,.ld none 32,some ⟨31,false⟩,false⟩::⟨some 34,.bo .gtr false 33 (kI 9999999),some ⟨31,false⟩,false⟩::⟨some 35,.pk 31 (.c (.b true)) 34,some ⟨27,true⟩,false⟩::(gk 36 27 35 (.c (.b false)))::(gM 37 36)::⟨some 38,.mv 5,some ⟨37,false⟩,false⟩::⟨some 39,.bo .gtr false 38 (kI 0),some ⟨37,false⟩,false⟩::⟨some 40,.mv 39,some ⟨37,false⟩,false⟩::⟨some 41,.fa 1 2,some ⟨40,true⟩,false⟩::⟨some 42,.ld none 41,some ⟨40,true⟩,false⟩::⟨some 43,.bo .neq false 42 (kI 0),some ⟨40,true⟩,false⟩::⟨some 44,.pk 40 43 (.c (.b false)),some ⟨37,false⟩,false⟩::(gp 45 (.pk 37 (.c (.b true)) 44))::BT
def rA:Option Bool:=
 if (a0.Kind==1)=true then
  if a0.N < -9999999 then
   (iP true).bind fun x7=>
   some x7
  else
   if 9999999<a0.N then
    (iP true).bind fun x8=>
    some x8
   else
    if 0<(g:Int) then
     (iP (a0.N !=0)).bind fun x9=>
     some x9
    else
     (iP false).bind fun x9=>
     some x9
 else
  if 0<(g:Int) then
   (iP (a0.N !=0)).bind fun x7=>
   some x7
  else
   (iP false).bind fun x7=>
   some x7
abbrev BU(x:Bool):St:=⟨[(1,(I a1)),zP 2,(23,(.b x))],[(2,(ep a0))],H0⟩
theorem Ir(x:Bool)(h:rA a0 g=some x):uc G Ω0 E0 [1,2,23] [2] JF ⟨[(1,(I a1)),zP 2,(5,(zI g)),(17,(.b ((a0.Args.length:Int) !=(g:Int))))],[(2,(ep a0))],H0⟩=some (BU a0 a1 x):=
 ur (bt<|.or (wP<|.or (bf<|bf<|bf<|bt<|bt<|bt<|bf<|bf<|bf<|bf<|bt<|.jb (some 23) 0<|.ex fun (x7:Bool)=>ao (.jn (jR a0 a1 x7))<|.nil) (bt<|bt<|bt<|bt<|bt<|bf<|bt<|.or (YE<|.jb (some 23) 0<|.ex fun (x8:Bool)=>ao (.jn (jR a0 a1 x8))<|.nil) (ja<|.or (UB<|.jb (some 23) 0<|.ex fun (x9:Bool)=>ao (.jn (jR a0 a1 x9))<|.nil) (YF<|.jb (some 23) 0<|.ex fun (x9:Bool)=>ao (.jn (jR a0 a1 x9))<|.nil)))) (bf<|bf<|bf<|bf<|bf<|bf<|bt<|bt<|bt<|.or (UB<|.jb (some 23) 0<|.ex fun (x7:Bool)=>ao (.jn (jR a0 a1 x7))<|.nil) (YF<|.jb (some 23) 0<|.ex fun (x7:Bool)=>ao (.jn (jR a0 a1 x7))<|.nil))) fun L=>ai (rfl:Z0)<|cG h (fun h5 h=>cu h5<|ai (rfl:Z0)<|cu h5<|cp h (fun h6 h=>cq (aA h6)<|ai (g0 (aA h6))<|ai (g1 h5)<|ai (aA h6)<|ai h5<|oD<|oD<|ai tt<|bJ h (kU a0 a1 g true [.sk,.sk,.sk,.sk,.sk,.sk,.sk,(.b true),(.b true),(.b true),.sk,.sk,.sk,(.b (decide (a0.N < -9999999))),(.b (decide (a0.N < -9999999))),(I a0.N),(.p ⟨0,2⟩ 1)]) fun x7 h=>L h) (fun h6 h=>JB (ay h6)<|ai (g1 h5)<|ai (ay h6)<|ai h5<|cp h (fun h7 h=>YD (aA h7)<|bJ h (kU a0 a1 g true [.sk,.sk,.sk,.sk,.sk,.sk,.sk,(.b (decide (9999999<a0.N))),(.b (decide (9999999<a0.N))),(.b (decide (9999999<a0.N))),(.b (decide (9999999<a0.N))),(I a0.N),(.p ⟨0,2⟩ 1),(.b (decide (a0.N < -9999999))),(.b (decide (a0.N < -9999999))),(I a0.N),(.p ⟨0,2⟩ 1)]) fun x8 h=>L h) (fun h7 h=>cq (ay h7)<|ai (g0 (ay h7))<|cp h (fun h8 h=>Rq (aA h8)<|ai (g0 (ay h7))<|ai (aA h8)<|ai (ay h7)<|bJ h (kU a0 a1 g (a0.N !=0) [(.b (a0.N !=0)),(.b (a0.N !=0)),(I a0.N),(.p ⟨0,2⟩ 1),(.b (decide (0<(g:Int)))),(.b (decide (0<(g:Int)))),(zI g),(.b (decide (9999999<a0.N))),(.b (decide (9999999<a0.N))),(.b (decide (9999999<a0.N))),(.b (decide (9999999<a0.N))),(I a0.N),(.p ⟨0,2⟩ 1),(.b (decide (a0.N < -9999999))),(.b (decide (a0.N < -9999999))),(I a0.N),(.p ⟨0,2⟩ 1)]) fun x9 h=>L h) (fun h8 h=>Rr (ay h8)<|ai (g0 (ay h7))<|ai (ay h8)<|ai (ay h7)<|bJ h (kU a0 a1 g false [(.b false),.sk,.sk,.sk,(.b (decide (0<(g:Int)))),(.b (decide (0<(g:Int)))),(zI g),(.b (decide (9999999<a0.N))),(.b (decide (9999999<a0.N))),(.b (decide (9999999<a0.N))),(.b (decide (9999999<a0.N))),(I a0.N),(.p ⟨0,2⟩ 1),(.b (decide (a0.N < -9999999))),(.b (decide (a0.N < -9999999))),(I a0.N),(.p ⟨0,2⟩ 1)]) fun x9 h=>L h)))) (fun h5 h=>cu h5<|cu h5<|nB h5<|ai hf<|ai hf<|ai hf<|cp h (fun h6 h=>cu (aA h6)<|ai (rfl:Z0)<|ai (g1 (aA h6))<|ai hf<|ai (aA h6)<|ai ff<|bJ h (kU a0 a1 g (a0.N !=0) [(.b (a0.N !=0)),(.b (a0.N !=0)),(I a0.N),(.p ⟨0,2⟩ 1),(.b (decide (0<(g:Int)))),(.b (decide (0<(g:Int)))),(zI g),(.b false),(.b false),.sk,.sk,.sk,.sk,.sk,.sk,.sk,.sk]) fun x7 h=>L h) (fun h6 h=>cu (ay h6)<|ai (g1 (ay h6))<|ai hf<|ai (ay h6)<|ai ff<|bJ h (kU a0 a1 g false [(.b false),.sk,.sk,.sk,(.b (decide (0<(g:Int)))),(.b (decide (0<(g:Int)))),(zI g),(.b false),(.b false),.sk,.sk,.sk,.sk,.sk,.sk,.sk,.sk]) fun x7 h=>L h))
def n7:Option (Unit⊕(Unit⊕(Unit⊕Unit))):=
 if ((a0.Args.length:Int) !=(g:Int))=true then
  some (.inl ())
 else
  (rA a0 g).bind fun x5=>
  if x5=true then
   some (.inr (.inl ()))
  else
   if (a0.Kind==2)=true then
    if a0.N<0 then
     some (.inr (.inr (.inl ())))
    else
     if a1≤a0.N then
      some (.inr (.inr (.inl ())))
     else
      some (.inr (.inr (.inr ())))
   else
    some (.inr (.inr (.inr ())))
abbrev gw(x:(Unit⊕(Unit⊕(Unit⊕Unit)))):aN×St:=match x with | .inl ()=>(.ret,⟨[(4,(I 1))],[],H0⟩) | .inr (.inl ())=>(.ret,⟨[(4,(I 3))],[],H0⟩) | .inr (.inr (.inl ()))=>(.ret,⟨[(4,(I 5))],[],H0⟩) | .inr (.inr (.inr ()))=>(.ret,⟨[(4,(I 0))],[],H0⟩)
theorem AN(x:(Unit⊕(Unit⊕(Unit⊕Unit))))(h:n7 a0 a1 g=some x):run G Ω0 E0 Uk ⟨[(1,(I a1)),zP 2,(5,(zI g))],[(2,(ep a0))],H0⟩=some (gw x):=
 NY (bt<|ao (.i (a0.Args.length:Int))<|oN (.jb (some 24) 22<|.ex fun (x5:Bool)=>ao (.jn (BU a0 a1 x5))<|oN (bt<|.or (wP<|.or (bf<|bf<|bf<|bf<|bt<|bt<|bt<|bt<|.nil) (bt<|bt<|bt<|bt<|bt<|bt<|bf<|bt<|oN (.nil))) (Wn<|.nil)))) fun L=>ai (rfl:Z0)<|ai (aJ aT a0.Args)<|cG h (fun h4 h=>ai h4<|L h) (fun h4 h=>ai h4<|bJ h (Ir a0 a1 g) fun x5 h=>cG h (fun h7 h=>ai h7<|L h) (fun h7 h=>oY h7<|cG h (fun h8 h=>cu h8<|ai (rfl:Z0)<|cu h8<|cp h (fun h9 h=>cq (aA h9)<|cq (aA h9)<|ai (g1 h8)<|ai (aA h9)<|ai h8<|ai tt<|L h) (fun h9 h=>cq (ay h9)<|ai (rfl:Z0)<|cq (ay h9)<|ai (g1 h8)<|ai (ay h9)<|ai h8<|cp h (fun Q h=>ai (aA Q)<|L h) (fun Q h=>ai (ay Q)<|L h))) (fun h8 h=>cu h8<|cu h8<|nB h8<|ai ff<|L h)))
abbrev OD(a0:aB)(a1:Int)(r:Int):bH×HP:=(.ret (I r),H0)
def vZ:Option Int:=
 if a0.Kind<1 then
  some 7
 else
  if 7<a0.Kind then
   some 7
  else
   if 2<a0.Kind then
    (n7 a0 a1 2).bind fun x4=>match x4 with
    | .inl z=>
     some 1
    | .inr (.inl B)=>
     some 3
    | .inr (.inr (.inl D))=>
     some 5
    | .inr (.inr (.inr C))=>
     some 0
   else
    (n7 a0 a1 0).bind fun x4=>match x4 with
    | .inl z=>
     some 1
    | .inr (.inl B)=>
     some 3
    | .inr (.inr (.inl D))=>
     some 5
    | .inr (.inr (.inr C))=>
     some 0
theorem JG(r:Int)(h:vZ a0 a1=some r):call G Ω0 E0 145 [(.a (ep a0)),(I a1)] H0=some (OD a0 a1 r):=
 bu amf (bt<|.or (bf<|bf<|bf<|bt<|bt<|.nil) (bt<|bt<|bt<|bt<|bf<|oN (bt<|.or (bt<|.fb<|.or (.ex fun (z:Unit)=>ao (.wO (gw (.inl z)))<|.nil) (.or (.ex fun (B:Unit)=>ao (.wO (gw (.inr (.inl B))))<|.nil) (.or (.ex fun (D:Unit)=>ao (.wO (gw (.inr (.inr (.inl D)))))<|.nil) (.ex fun (C:Unit)=>ao (.wO (gw (.inr (.inr (.inr C)))))<|.nil)))) (bf<|.fb<|.or (.ex fun (z:Unit)=>ao (.wO (gw (.inl z)))<|.nil) (.or (.ex fun (B:Unit)=>ao (.wO (gw (.inr (.inl B))))<|.nil) (.or (.ex fun (D:Unit)=>ao (.wO (gw (.inr (.inr (.inl D)))))<|.nil) (.ex fun (C:Unit)=>ao (.wO (gw (.inr (.inr (.inr C)))))<|.nil))))))) fun L=>vX<|cp h (fun h1 h=>cq (aA h1)<|oL (aA h1)<|ai tt<|L h) (fun h1 h=>cq (ay h1)<|ai (rfl:Z0)<|oL (ay h1)<|cp h (fun h2 h=>ai (aA h2)<|L h) (fun h2 h=>oY (ay h2)<|cp h (fun h3 h=>ai (aA h3)<|SW h (AN a0 a1 2) (fun z h=>L h) (fun B h=>L h) (fun D h=>L h) (fun C h=>L h)) (fun h3 h=>ai (ay h3)<|SW h (AN a0 a1 0) (fun z h=>L h) (fun B h=>L h) (fun D h=>L h) (fun C h=>L h))))
abbrev Nc(a0:aB)(a1:Int)(r:Int):bH×HP:=(.ret (I r),H0)
abbrev ze(r:Int):Prop:=call G Ω0 E0 112 [(.a (ep a0)),(I a1)] H0=some (Nc a0 a1 r)
end
structure zf where
 f_scope_parts:aB→Int→Option Int
structure xg(R:zf):Prop where
 f_scope_parts:∀ (a0:aB)(a1:Int)(r:Int),R.f_scope_parts a0 a1=some r→ze a0 a1 r
section
variable (R:zf)(a0:aB)(a1:Int)(t:Nat)
def rB:Option (Nat⊕(Int⊕(Nat×Bool))):=
 if (t:Int)<(a0.Args.length:Int) then
  (a0.Args[t]?).bind fun y5=>
  (R.f_scope_parts y5 a1).bind fun r7=>
  if (r7 !=0)=true then
   some (.inr (.inl r7))
  else
   if IntKind.i64.wrap ((t:Int)+1)=((t+1:Nat):Int) then
    some (.inl (t+1))
   else none
 else
  some (.inr (.inr (t,decide ((t:Int)<(a0.Args.length:Int)))))
abbrev JH(v:Nat):St:=⟨[(1,(I a1)),(16,(dO a0.Args)),(17,(zI a0.Args.length)),(18,(I (v:Int)))],[],H0⟩
abbrev wa(x:(Int⊕(Nat×Bool))):aN×St:=match x with | .inl z1=>(.ret,⟨[(4,(I z1))],[],H0⟩) | .inr (z1,z2)=>((.ex 0),⟨[(1,(I a1)),(16,(dO a0.Args)),(17,(zI a0.Args.length)),(18,(I (z1:Int))),(19,(.b z2))],[],H0⟩)
theorem Is(hR:xg R)(a0:aB)(a1:Int)(t:Nat)(o:Nat⊕(Int⊕(Nat×Bool)))(h:rB R a0 a1 t=some o):bO E0 TW (JH a0 a1) (wa a0 a1) t o:=
 bZ (.or (bt<|ao (.n t)<|.ex fun (y5:aB)=>ao (.v (.a (ep y5)))<|ja<|xI fun r7=>oN (ao (.i ((t+1:Nat):Int))<|.nil)) (bf<|.nil)) fun L=>cp h (fun h4 h=>ai (aA h4)<|ai (rI t)<|cn h fun y5 h6 h=>ai (kS aT h6 (dj _))<|Mu<|bJ h (hR.f_scope_parts y5 a1) fun r7 h=>cG h (fun h9 h=>ai h9<|L h) (fun h9 h=>ai h9<|aW h fun T h=>ai T<|L h)) (fun h4 h=>ai (ay h4)<|L h)
def s8:Option Int:=
 (vZ a0 a1).bind fun r1=>
 if (r1 !=0)=true then
  some r1
 else
  (lp (fun v=>rB R a0 a1 v) 0).bind fun x4=>match x4 with
  | .inl z=>
   some z
  | .inr B=>
   some 0
theorem Hv(hR:xg R)(a0:aB)(a1:Int)(r:Int)(h:s8 R a0 a1=some r):ze a0 a1 r:=
 bu alT (bt<|xI fun r1=>oN (bt<|ao (.i (a0.Args.length:Int))<|.or (.ex fun (z:Int)=>ao (.cD (wa a0 a1 (.inl z)))<|.nil) (.ex fun (B:(Nat×Bool))=>ao (.cD (wa a0 a1 (.inr B)))<|.nil))) fun L=>vX<|bJ h (JG a0 a1) fun r1 h=>cG h (fun h3 h=>ai h3<|L h) (fun h3 h=>oY h3<|ai (aJ aT a0.Args)<|fc h (fC (Is R hR a0 a1) 0) (fun z h=>L h) (fun B h=>L h))
def nK:Nat→zf
 | 0=>⟨fun z0 z1=>none⟩
 | n+1=>⟨s8 (nK n)⟩
theorem CW:∀ n,xg (nK n)
 | 0=>⟨fun _ _ r h=>(by cases h)⟩
 | n+1=>⟨fun a0 a1 r h=>Hv _ (CW n) a0 a1 r h⟩
def zg:Option Int:=ev fun n=>(nK n).f_scope_parts a0 a1
theorem It(r:Int)(h:zg a0 a1=some r):ze a0 a1 r:=by
 obtain ⟨n,hn⟩:=xb h
 exact (CW n).f_scope_parts a0 a1 r hn
abbrev OE(a0:aB)(a1:Int)(r:Int):bH×HP:=(.ret (I r),H0)
def m7:Option Int:=
 (AM a0 15).bind fun r1=>
 if 15<r1 then
  some 2
 else
  (zg a0 a1).bind fun r4=>
  some r4
theorem wc(r:Int)(h:m7 a0 a1=some r):call G Ω0 E0 45 [(.a (ep a0)),(I a1)] H0=some (OE a0 a1 r):=
 bu G45 (bt<|xI fun r1=>oN (bt<|xI fun r4=>.nil)) fun L=>vX<|bJ h (JE a0 15) fun r1 h=>cp h (fun h3 h=>ai (aA h3)<|L h) (fun h3 h=>oY (ay h3)<|bJ h (It a0 a1) fun r4 h=>L h)
end
section
variable (a0:Int)
abbrev Nd(a0:Int)(r:(Bool×Bool×Bool)):bH×HP:=(.ret (.tp [(.b r.1),(.b r.2.1),(.b r.2.2)]),H0)
def zh:Option (Bool×Bool×Bool):=
 if (a0 !=4)=true then
  if 2≤a0 then
   if (a0 !=2)=true then
    some ((decide (a0<7)),(decide (a0≤4)),(a0 !=3))
   else
    some ((decide (a0<7)),(decide (a0≤4)),false)
  else
   if (a0 !=2)=true then
    some ((decide (a0<7)),false,(a0 !=3))
   else
    some ((decide (a0<7)),false,false)
 else
  if 2≤a0 then
   if (a0 !=2)=true then
    some (false,(decide (a0≤4)),(a0 !=3))
   else
    some (false,(decide (a0≤4)),false)
  else
   if (a0 !=2)=true then
    some (false,false,(a0 !=3))
   else
    some (false,false,false)
theorem Iu(r:(Bool×Bool×Bool))(h:zh a0=some r):call G Ω0 E0 158 [(I a0)] H0=some (Nd a0 r):=
 bu amn (.or (ja<|.or (ja<|.or (ja<|.nil) (Mv<|.nil)) (Mv<|.or (ja<|.nil) (Mv<|.nil))) (Mv<|.or (ja<|.or (ja<|.nil) (Mv<|.nil)) (Mv<|.or (ja<|.nil) (Mv<|.nil)))) fun L=>cG h (fun h1 h=>vY h1<|cp h (fun h2 h=>vY (aA h2)<|cG h (fun h3 h=>vY h3<|L h) (fun h3 h=>vY h3<|L h)) (fun h2 h=>vY (ay h2)<|cG h (fun h3 h=>vY h3<|L h) (fun h3 h=>vY h3<|L h))) (fun h1 h=>vY h1<|cp h (fun h2 h=>vY (aA h2)<|cG h (fun h3 h=>vY h3<|L h) (fun h3 h=>vY h3<|L h)) (fun h2 h=>vY (ay h2)<|cG h (fun h3 h=>vY h3<|L h) (fun h3 h=>vY h3<|L h)))
end
end
variable [Lp]
attribute [local simp] gp execOp okB gv df fT pJ iZ ir ft St.end_ St.fU iU List.filter eV wN view EL O0 RE HW plain
def fv(k:Int):Bool:=decide (k≠4∧k<7)
def iv(k:Int):Bool:=decide (2≤k∧k≤4)
def eP(k:Int):Bool:=decide (k≠2∧k≠3)
def fD(p:Program)(i k:Int):Int:=if k=2 then i else if k=3 then p.Ins.length else p.Outs.length
theorem Wz(k:Int):zh k=some (fv k,iv k,eP k):=by
 unfold zh fv iv eP
 by_cases h4:k=4
 ·subst h4;rfl
 by_cases h2:k=2
 ·subst h2;rfl
 by_cases S:2≤k
 ·by_cases h3:k=3<;>simp [h4,h2,S,h3]
 ·have h3:¬k=3:=by omega
  simp [h4,h2,S,h3]
noncomputable def wo(ex:aB→Option Int):List aB→Option Int
 | []=>some 0
 | e::r=>(ex e).bind fun x=>if x≠0 then some x else wo ex r
def uD(p:Program)(i:Int)(s:Stmt):Bool:=(fv s.Kind&&(decide (s.Var<0)||decide ((p.Vars.length:Int)≤s.Var)))||(iv s.Kind&&(decide (s.Other<0)||decide (fD p i s.Kind≤s.Other)))
def lS(s:Stmt):Bool:=decide (s.Expr.Kind=0)&&decide (s.Expr.N=0)&&decide (s.Expr.Args.length=0)
def zX(s:Stmt):Bool:=(((((!fv s.Kind&&decide (s.Var≠0))||(!iv s.Kind&&decide (s.Other≠0)))||(!eP s.Kind&&!lS s))||(s.Kind !=2&&decide (0<s.Args.length)))||(!decide (7≤s.Kind)&&decide (0<s.Then.length)))||(s.Kind !=7&&decide (0<s.Else.length))
noncomputable def Lo(ex:aB→Option Int)(p:Program)(i:Int)(s:Stmt):Option Int:=
 if uD p i s=true then some 5
 else if zX s=true then some 1
 else (if s.Kind=2 then (p.Funcs[s.Other.toNat]?).map fun f=>decide (s.Args.length≠f.Params.length) else some false).bind fun b=>if b=true then some 1
 else (if eP s.Kind=true then ex s.Expr else some 0).bind fun x=>if x≠0 then some x else if s.Args.length≤9223372036854775807 then wo ex s.Args else none
noncomputable def iw(c:Checker)(s:Stmt):Option Int:=if s.Kind<1∨8<s.Kind then some 7 else Lo (fun e=>m7 e c.p.Vars.length) c.p c.funcs s
section
variable (dp:Nat)(H:HP)(k0:Key)(hk:k0.dp<dp)(c:Checker)(s:Stmt)(hH:H k0=some (bA c))
abbrev tS(dp:Nat)(H:HP)(k0:Key)(s:Stmt)(xs:List (Nat×AV)):St:=⟨(0,.p k0 0)::(3,.p ⟨dp,3⟩ 0)::xs,[(3,aD s)],H⟩
abbrev ME(s:Stmt):List (Nat×AV):=[(5,I s.Kind),(6,.b (fv s.Kind)),(7,.b (iv s.Kind)),(8,.b (eP s.Kind)),(9,.b (decide (7≤s.Kind))),(10,.b (lS s))]
include hk hH
theorem WA:call G Ω0 ⟨dp,true⟩ 159 [.p k0 0,I s.Kind] H=some (.ret (I (fD c.p c.funcs s.Kind)),H):=by
 have e0:¬k0.dp=dp:=by omega
 have e2:∀ d,¬k0=⟨dp,d⟩:=fun d=>bD hk
 refine Ln (st:=⟨[(4,I (fD c.p c.funcs s.Kind))],[],H⟩) amo ?_ (by simp [Wa]) rfl
 unfold fD
 apply bI
 apply cR (by simp;rfl)
 apply bI
 apply bI
 apply cR (by simp;rfl)
 apply B0
 apply bI
 apply cR (by simp;rfl)
 apply jW (s.Kind==2) (by simp)
 ·intro hq
  rw [ab (by simpa using hq)]
  apply bI
  apply cR (by simp [e0,e2,hH];rfl)
  exact oP rfl
 intro hq
 rw [aa (by simpa using hq)]
 apply bI
 apply cR (by simp;rfl)
 apply jW (s.Kind==3) (by simp)
 ·intro hq
  rw [ab (by simpa using hq)]
  apply bI
  apply cR (by simp [e0,e2,hH];rfl)
  exact oP rfl
 intro hq
 rw [aa (by simpa using hq)]
 apply ob
 apply qh
 apply bI
 apply cR (by simp [e0,e2,hH];rfl)
 exact oP rfl
abbrev Iz(dp:Nat)(H:HP)(k0:Key)(s:Stmt)(k:Nat):St:=⟨[(0,.p k0 0),(171,.l 37 (s.Args.map aT)),(172,I s.Args.length),(173,I k)],[],H⟩
theorem UU(hl:s.Args.length≤9223372036854775807){r:Int} : ∀ (rest:List aB)(k:Nat),s.Args.drop k=rest→wo (fun e=>m7 e c.p.Vars.length) rest=some r→
  ∃ q,fH G Ω0 ⟨dp,true⟩ Uh (Iz dp H k0 s k)=some q∧(q=(.ret,⟨[(4,I r)],[],H⟩)∨r=0∧∃ y,q=(.ex 1,y)∧y.hp=H)
 | [],k,hd,h=>by
  obtain rfl:=af h
  have hk:¬((k:Int)<(s.Args.length:Int)):=by
   have:=gP.1 hd;omega
  apply Exists.intro
  apply And.intro
  ·refine dD (r:=(.ex 1,?_)) ?_ (by simp)
   rotate_left
   ·show run G Ω0 _ Ju (Iz dp H k0 s k)=_
    apply aj (by simp [hk];rfl)
    apply iu
    apply ba (by simp [hk])
    exact dR _ _ _
  ·exact .inr ⟨rfl,_,rfl,rfl⟩
 | e::rest,k,hd,h=>by
  obtain ⟨x,hx,h⟩:=ah.1 h
  have e0:¬k0.dp=dp:=by omega
  have e2:∀ d,¬k0=⟨dp,d⟩:=fun d=>bD hk
  have O:k<s.Args.length:=by
   have h1:=an List.length hd
   simp only [kQ,cC] at h1
   omega
  have hg:s.Args[k]? =some e:=by
   have:=an (fun l=>l[0]?) hd
   simpa using this
  have X:s.Args.drop (k+1)=rest:=by
   have:=an List.tail hd
   simpa using this
  have hw:IntKind.i64.wrap ((k:Int)+1)=(k:Int)+1:=wrap64 (by omega) (by omega)
  have hX:=aZ (E:=⟨dp,true⟩) (wc e c.p.Vars.length x hx) (by simp) (by simp)
  have body:Nx ⟨dp,true⟩ Ju (Iz dp H k0 s k) fun q=>q=if x≠0 then (.ret,⟨[(4,I x)],[],H⟩) else (.nrm,Iz dp H k0 s (k+1)):=by
   apply bI
   apply cR (by simp [O];rfl)
   apply bI
   apply jW true (by simp [O])
   ·intro _
    apply ob
    apply qh
    apply bI
    apply B0
    apply bI
    apply cR (by simp [hg,dj,e2];rfl)
    apply bI
    apply cR (by simp [-aF,e0,e2,hH,hX];rfl)
    apply bI
    apply cR (st1:=⟨[(0,.p k0 0),(14,I x),(171,.l 37 (s.Args.map aT)),(172,I s.Args.length),(173,I k),(186,.b (decide (x≠0)))],[],H⟩) (by by_cases q:x=0<;>simp [q])
    apply jW (decide (x≠0)) (by simp)
    ·intro hq
     rw [ab (rW hq)]
     apply bI
     apply cR (by simp;rfl)
     exact oP rfl
    ·intro hq
     rw [aa (BB hq)]
     apply ob
     refine cR (st1:=Iz dp H k0 s (k+1)) ?_ rfl
     simp [hw]
   ·intro hq;cases hq
  by_cases M:x=0
  ·rw [aa (by simp [M])] at h
   obtain ⟨q,q1,q2⟩:=UU hl rest (k+1) X h
   refine ⟨q,?_,q2⟩
   rw [aa (by simp [M])] at body
   rw [dz]
   exact q1
   show (run G Ω0 _ Ju (Iz dp H k0 s k)).bind _=_
   rw [O1 body];rfl
  ·rw [ab M] at h
   obtain rfl:=af h
   rw [ab M] at body
   exact ⟨_,dD (by exact O1 body) (by simp),.inl rfl⟩
theorem afP{r:Int}(h:iw c s=some r):call G Ω0 ⟨dp,true⟩ 140 [.p k0 0,.a (aD s)] H=some (.ret (I r),H):=by
 have e0:¬k0.dp=dp:=by omega
 have e2:∀ d,¬k0=⟨dp,d⟩:=fun d=>bD hk
 have hN:=aZ (E:=⟨dp,true⟩) (Iu s.Kind _ (Wz s.Kind)) (by simp) (by simp)
 have hO:=WA (dp+1) (fun k=>if k.dp=dp then none else H k) k0 (by omega) c s (by simp [e0,hH])
 unfold iw at h
 refine Ln (st:=⟨[(4,I r)],[],H⟩) ame ?_ (by simp [V9]) rfl
 apply bI
 apply cR (by simp [e2];rfl)
 apply bI
 apply cR (by simp;rfl)
 apply bI
 apply bI
 apply cR (st1:=tS dp H k0 s [(5,I s.Kind),(22,.b (decide (s.Kind<1∨8<s.Kind)))]) (by by_cases q1:s.Kind<1<;>by_cases q2:8<s.Kind<;>simp [q1,q2])
 apply jW (decide (s.Kind<1∨8<s.Kind)) (by simp)
 ·intro hq
  rw [ab (rW hq)] at h
  obtain rfl:=af h
  apply bI
  apply cR (by simp;rfl)
  exact oP rfl
 intro hq
 rw [aa (BB hq)] at h
 unfold Lo at h
 apply ob
 apply qh
 apply bI
 apply cR (st1:=tS dp H k0 s [(5,I s.Kind),(6,.b (fv s.Kind)),(7,.b (iv s.Kind)),(8,.b (eP s.Kind))]) (by simp [-aF,hN])
 apply bI
 apply cR (st1:=tS dp H k0 s [(5,I s.Kind),(6,.b (fv s.Kind)),(7,.b (iv s.Kind)),(8,.b (eP s.Kind)),(9,.b (decide (7≤s.Kind)))]) (by simp)
 apply bI
 apply cR (st1:=tS dp H k0 s (ME s)) (by by_cases a1:s.Expr.Kind=0<;>by_cases a2:s.Expr.N=0<;>by_cases a3:s.Expr.Args.length=0<;>simp [a1,a2,a3,lS])
 apply bI
 apply B0
 apply bI
 apply cR (st1:=tS dp H k0 s (ME s++[(48,.b (uD c.p c.funcs s))]))
 ·apply N3 rfl (by simp)
  refine afN (v1:=tS dp H k0 s (ME s++[(66,.b (fv s.Kind&&(decide (s.Var<0)||decide ((c.p.Vars.length:Int)≤s.Var))))])) 18 [0,3,5,6,7,8,9,10,66] ?_ ?_
  ·cases hv:fv s.Kind
   ·((repeat refine wk (by simp [hv];rfl) ?_);exact wm (by simp [hv]))
   ·by_cases q:s.Var<0
    ·((repeat refine wk (by simp [hv,q];rfl) ?_);exact wm (by simp [hv,q]))
    ·((repeat refine wk (by simp [hv,q,e0,e2,hH];rfl) ?_);exact wm (by simp [hv,q]))
  ·refine De ?_ (by simp)
   unfold uD
   cases (fv s.Kind&&(decide (s.Var<0)||decide ((c.p.Vars.length:Int)≤s.Var)))
   ·cases ho:iv s.Kind
    ·((repeat refine wk (by simp [ho];rfl) ?_);exact wm (by simp [ho]))
    ·by_cases q:s.Other<0
     ·((repeat refine wk (by simp [ho,q];rfl) ?_);exact wm (by simp [ho,q]))
     ·((repeat refine wk (by simp [ho,q,e0,e2,hO];rfl) ?_);exact wm (by simp [ho,q]))
   ·((repeat refine wk (by simp;rfl) ?_);exact wm (by simp))
 apply jW (uD c.p c.funcs s) (by simp)
 ·intro hq
  rw [ab hq] at h
  obtain rfl:=af h
  apply bI
  apply cR (by simp;rfl)
  exact oP rfl
 intro hn
 rw [aa (by simp [hn])] at h
 apply bI
 apply cR (st1:=tS dp H k0 s [(5,I s.Kind),(8,.b (eP s.Kind)),(82,.b (zX s))])
 ·apply G8 rfl
  refine qG (v1:=tS dp H k0 s (ME s++[(90,.b (!fv s.Kind&&decide (s.Var≠0)))])) 8 [0,3,5,6,7,8,9,10,90] ?_ ?_
  ·cases hv:fv s.Kind<;>by_cases q:s.Var=0<;>((repeat refine qc (by simp [hv,q];rfl) ?_);exact qf (by simp [hv,q]))
  unfold zX
  refine qG (v1:=tS dp H k0 s (ME s++[(99,.b ((!fv s.Kind&&decide (s.Var≠0))||(!iv s.Kind&&decide (s.Other≠0))))])) 9 [0,3,5,6,7,8,9,10,99] ?_ ?_
  ·cases (!fv s.Kind&&decide (s.Var≠0))<;>cases ho:iv s.Kind<;>by_cases q:s.Other=0<;>((repeat refine qc (by simp [ho,q];rfl) ?_);exact qf (by simp [ho,q]))
  generalize ((!fv s.Kind&&decide (s.Var≠0))||(!iv s.Kind&&decide (s.Other≠0)))=b2
  refine qG (v1:=tS dp H k0 s (ME s++[(107,.b (b2||(!eP s.Kind&&!lS s)))])) 8 [0,3,5,6,7,8,9,10,107] ?_ ?_
  ·cases b2<;>cases he:eP s.Kind<;>cases hb:lS s<;>((repeat refine qc (by simp [he,hb];rfl) ?_);exact qf (by simp [he,hb]))
  generalize (b2||(!eP s.Kind&&!lS s))=b3
  refine qG (v1:=tS dp H k0 s (ME s++[(117,.b (b3||(s.Kind !=2&&decide (0<s.Args.length))))])) 10 [0,3,5,6,7,8,9,10,117] ?_ ?_
  ·cases b3<;>cases q:(s.Kind !=2)<;>((repeat refine qc (by simp [q];rfl) ?_);exact qf (by simp [q]))
  generalize (b3||(s.Kind !=2&&decide (0<s.Args.length)))=b4
  refine qG (v1:=tS dp H k0 s (ME s++[(127,.b (b4||(!decide (7≤s.Kind)&&decide (0<s.Then.length))))])) 10 [0,3,5,6,7,8,9,10,127] ?_ ?_
  ·cases b4<;>by_cases q:7≤s.Kind<;>((repeat refine qc (by simp [q];rfl) ?_);exact qf (by simp [q]))
  generalize (b4||(!decide (7≤s.Kind)&&decide (0<s.Then.length)))=b5
  refine Dd ?_ (by simp)
  cases b5<;>cases q:(s.Kind !=7)<;>((repeat refine qc (by simp [q];rfl) ?_);exact qf (by simp [q]))
 apply jW (zX s) (by simp)
 ·intro hq
  rw [ab hq] at h
  obtain rfl:=af h
  apply bI
  apply cR (by simp;rfl)
  exact oP rfl
 intro hf
 rw [aa (by simp [hf])] at h
 obtain ⟨b,hb,h⟩:=ah.1 h
 apply bI
 apply cR (st1:=tS dp H k0 s [(8,.b (eP s.Kind)),(137,.b b)])
 ·apply N3 rfl (by simp)
  refine De ?_ (by simp)
  cases q:(s.Kind==2)
  ·rw [aa (ne_of_beq_false q)] at hb
   obtain rfl:=af hb
   ((repeat refine wk (by simp [q];rfl) ?_);exact wm (by simp [q]))
  ·have q1:=eq_of_beq q
   rw [ab q1] at hb
   obtain ⟨f,P,V⟩:=db.1 hb
   have Y:¬s.Other<0:=fun O=>by simp [uD,iv,q1,O] at hn
   obtain ⟨j,hj⟩:∃ j:Nat,s.Other=j:=⟨s.Other.toNat,by omega⟩
   rw [hj] at P
   have P:c.p.Funcs[j]? =some f:=by simpa using P
   subst V
   have q2:((s.Args.length:Int) !=(f.Params.length:Int))=decide (s.Args.length≠f.Params.length):=by
    by_cases q3:s.Args.length=f.Params.length
    ·simp [q3]
    ·rw [aA q3]
     simp only [uP,ne_eq]
     omega
   ((repeat refine wk (by simp [q,e0,e2,hH,hj,P,eO];rfl) ?_);exact wm (by simp [q,q2]))
 apply jW b (by simp)
 ·intro hq
  rw [ab hq] at h
  obtain rfl:=af h
  apply bI
  apply cR (by simp;rfl)
  exact oP rfl
 intro hq
 rw [aa (by simp [hq])] at h
 obtain ⟨x,hx,h⟩:=ah.1 h
 have tail:∀ st:St,st.aG [0,3] [0,3]=tS dp H k0 s []→x=0→Nx ⟨dp,true⟩ Ui st fun q=>q=(.ret,⟨[(4,I r)],[],H⟩):=by
  intro st U M
  apply qh
  rw [U]
  rw [aa (by simp [M])] at h
  split at h
  ·rename_i hl
   obtain ⟨q,q1,q2⟩:=UU dp H k0 hk c s hH hl s.Args 0 rfl h
   apply bI
   apply bI
   apply cR (st1:=Iz dp H k0 s 0) (by simp)
   apply B0
   refine S8 q1 ?_
   rcases q2 with rfl | ⟨rfl,y,rfl,hy⟩
   ·rfl
   ·refine Eq.mpr (ab rfl) ?_
    apply bI
    apply cR (by simp [hy];rfl)
    exact oP rfl
  ·cases h
 apply ob
 apply qh
 apply bI
 apply bI
 apply cR (st1:=tS dp H k0 s [(157,.b (eP s.Kind))]) (by simp)
 apply jW (eP s.Kind) (by simp)
 ·intro hE
  rw [ab hE] at hx
  have hX:=aZ (E:=⟨dp,true⟩) (wc s.Expr c.p.Vars.length x hx) (by simp) (by simp)
  apply bI
  apply cR (st1:=tS dp H k0 s [(11,I x)]) (by simp [-aF,e0,e2,hH,hX])
  apply bI
  apply cR (st1:=tS dp H k0 s [(11,I x),(168,.b (decide (x≠0)))]) (by by_cases q:x=0<;>simp [q])
  apply jW (decide (x≠0)) (by simp)
  ·intro hq
   rw [ab (rW hq)] at h
   obtain rfl:=af h
   apply bI
   apply cR (by simp;rfl)
   exact oP rfl
  ·intro hq
   apply ob
   exact tail _ (by simp) (by simpa using hq)
 ·intro hE
  rw [aa (by simp [hE])] at hx
  obtain rfl:=af hx
  apply ob
  exact tail _ (by simp) rfl
end
theorem Bv(dp:Nat)(hp:HP)(k0:Key)(hk:k0.dp<dp)(hz:aO dp hp)(c:Checker)(s:Stmt)(r:Int)(h:iw c s=some r):call G Ω0 ⟨dp,true⟩ 140 [.p k0 0,.a (aD s)] (ar hp k0 (bA c))=some (.ret (I r),ar hp k0 (bA c)):=
 afP dp _ k0 hk c s (by simp [ar]) h
end Go.Proofs.YtkkkkondjclcnaaGreat.A
