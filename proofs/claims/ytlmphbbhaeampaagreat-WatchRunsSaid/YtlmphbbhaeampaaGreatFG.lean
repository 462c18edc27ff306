/- Functions of the program as plain functions, by program. -/
import Derived.Test.YtlmphbbhaeampaaGreatTypes
import Derived.Test.YtlmphbbhaeampaaGreatBase
import Derived.Test.YtlmphbbhaeampaaGreatFE
import Derived.Test.YtlmphbbhaeampaaGreatFA
set_option linter.all false
set_option maxRecDepth 100000
set_option maxHeartbeats 16000000
namespace Go.Proofs.YtlmphbbhaeampaaGreat.A
open Go
noncomputable section
variable [Lp]
section
variable (a0:ay)(a1:Int)
abbrev Oq(a0:ay)(a1:Int)(r:Int):bC×HP:=(.ret (I r),H0)
abbrev zW(r:Int):Prop:=call G Ω0 E0 94 [(.a (bL a0)),(I a1)] H0=some (Oq a0 a1 r)
end
structure zX where
 f_R_exprParts:ay→Int→Option Int
structure yn(R:zX):Prop where
 f_R_exprParts:∀ (a0:ay)(a1:Int)(r:Int),R.f_R_exprParts a0 a1=some r→zW a0 a1 r
section
variable (R:zX)(a0:ay)(a1:Int)(g:Int)(d:Nat)
def rJ:Option ((Int×Nat)⊕(Bool×Int×Nat)):=
 if (d:Int)<(a0.Args.length:Int) then
  if g≤a1 then
   (a0.Args[d]?).bind fun y3=>
   if IntKind.i64.wrap (a1 - g)=a1 - g then
    (R.f_R_exprParts y3 (a1 - g)).bind fun r6=>
    if IntKind.i64.wrap (g+r6)=g+r6 then
     if IntKind.i64.wrap ((d:Int)+1)=((d+1:Nat):Int) then
      some (.inl (g+r6,d+1))
     else none
    else none
   else none
  else
   some (.inr (decide (g≤a1),g,d))
 else
  some (.inr (false,g,d))
abbrev Lh(v:(Int×Nat)):St:=⟨[(1,(I a1)),zP 2,(5,(I v.1)),(6,(I (v.2:Int)))],[(2,(bL a0))],H0⟩
abbrev CO(x:(Bool×Int×Nat)):bc×St:=((.ex 0),⟨[(1,(I a1)),zP 2,(5,(I x.2.1)),(6,(I (x.2.2:Int))),(16,(.b x.1))],[(2,(bL a0))],H0⟩)
theorem JI(hR:yn R)(a0:ay)(a1:Int)(g:Int)(d:Nat)(o:(Int×Nat)⊕(Bool×Int×Nat))(h:rJ R a0 a1 g d=some o):bQ E0 YY (Lh a0 a1) (CO a0 a1) (g,d) o:=
 bZ (bt<|ao (.i (a0.Args.length:Int))<|.or (mg<|.or (cM<|ao (.n d)<|.ex fun (y3:ay)=>ao (.v (.a (bL y3)))<|ao (.i (a1 - g))<|xI fun r6=>ao (.i (g+r6))<|ao (.i ((d+1:Nat):Int))<|.nil) (bf<|.nil)) (TK<|.nil)) fun L=>ai (rfl:Z0)<|ai (aP bw a0.Args)<|cw h (fun h1 h=>Mk (aF h1)<|cw h (fun h2 h=>lG (aF h2)<|ai (rI d)<|ba h fun y3 h4 h=>ai (dR bw h4 (di _))<|aO h fun w5 h=>ai w5<|bq h (hR.f_R_exprParts y3 (a1 - g)) fun r6 h=>aO h fun w8 h=>ai w8<|aO h fun w9 h=>ai w9<|L h) (fun h2 h=>ai (aD h2)<|L h)) (fun h1 h=>dC (aD h1)<|qg (aD h1)<|ai ff<|L h)
def tI:Option Int:=
 (lp (fun v=>rJ R a0 a1 v.1 v.2) (1,0)).bind fun x1=>
 some x1.2.1
theorem Il(hR:yn R)(a0:ay)(a1:Int)(r:Int)(h:tI R a0 a1=some r):zW a0 a1 r:=
 bj G94 (.ex fun (x1:(Bool×Int×Nat))=>ao (.cA (CO a0 a1 x1))<|.nil) fun L=>ai tt<|bq h (dT (fun v=>JI R hR a0 a1 v.1 v.2) (1,0)) fun x1 h=>L h
def n4:Nat→zX
 | 0=>⟨fun z0 z1=>none⟩
 | n+1=>⟨tI (n4 n)⟩
theorem Ec:∀ n,yn (n4 n)
 | 0=>⟨fun _ _ r h=>(by cases h)⟩
 | n+1=>⟨fun a0 a1 r h=>Il _ (Ec n) a0 a1 r h⟩
def zY:Option Int:=ev fun n=>(n4 n).f_R_exprParts a0 a1
theorem JJ(r:Int)(h:zY a0 a1=some r):zW a0 a1 r:=by
 obtain ⟨n,hn⟩:=nW h
 exact (Ec n).f_R_exprParts a0 a1 r hn
abbrev QJ(a0:ay)(r:(List ay)):bC×HP:=(.ret (.l 89 (r.map bw)),H0)
abbrev Bz(r:(List ay)):Prop:=call G Ω0 E0 50 [(.a (bL a0))] H0=some (QJ a0 r)
end
structure BA where
 f_R_allParts:ay→Option (List ay)
structure zZ(R:BA):Prop where
 f_R_allParts:∀ (a0:ay)(r:(List ay)),R.f_R_allParts a0=some r→Bz a0 r
section
variable (R:BA)(a0:ay)(w:(List ay))(m:Nat)
def tJ:Option (((List ay)×Nat)⊕((List ay)×Nat×Bool)):=
 if (m:Int)<(a0.Args.length:Int) then
  (a0.Args[m]?).bind fun y2=>
  (R.f_R_allParts y2).bind fun r4=>
  if w.length+r4.length≤1000000000 then
   if IntKind.i64.wrap ((m:Int)+1)=((m+1:Nat):Int) then
    some (.inl (w++r4,m+1))
   else none
  else none
 else
  some (.inr (w,m,decide ((m:Int)<(a0.Args.length:Int))))
abbrev MZ(v:((List ay)×Nat)):St:=⟨[zP 1,(3,(.o 89 (v.1.map bw))),(4,(I (v.2:Int)))],[(1,(bL a0))],H0⟩
abbrev Ed(x:((List ay)×Nat×Bool)):bc×St:=((.ex 0),⟨[zP 1,(3,(.o 89 (x.1.map bw))),(4,(I (x.2.1:Int))),(11,(.b x.2.2))],[(1,(bL a0))],H0⟩)
theorem Li(hR:zZ R)(a0:ay)(w:(List ay))(m:Nat)(o:((List ay)×Nat)⊕((List ay)×Nat×Bool))(h:tJ R a0 w m=some o):bQ E0 YH (MZ a0) (Ed a0) (w,m) o:=
 bZ (bt<|ao (.i (a0.Args.length:Int))<|.or (cM<|ao (.n m)<|.ex fun (y2:ay)=>ao (.v (.a (bL y2)))<|.ex fun (r4:(List ay))=>ao (.v (cL r4))<|ao (.l ((w++r4).map bw))<|ao (.i ((m+1:Nat):Int))<|.nil) (bf<|.nil)) fun L=>ai (rfl:Z0)<|ai (aP bw a0.Args)<|cw h (fun h1 h=>lG (aF h1)<|ai (rI m)<|ba h fun y2 h3 h=>ai (dR bw h3 (di _))<|bq h (hR.f_R_allParts y2) fun r4 h=>let A:=r4.map bw;ai ff<|aO h fun h6 h=>ai ((dS bw (n:=3) (fun a=>by rw [di];rfl) r4):A.all (fun e=>e.nc==3)=true)<|ai ((eJ h6 (by decide)):((w.map bw).length+A.length)*40≤140737488355328)<|ai ((eK h6):(w.map bw).length+A.length≤maxLen)<|ai (cQ.symm:w.map bw++r4.map bw=(w++r4).map bw)<|aO h fun w7 h=>ai w7<|L h) (fun h1 h=>ai (aD h1)<|L h)
def uS:Option (List ay):=
 (lp (fun v=>tJ R a0 v.1 v.2) ([a0],0)).bind fun x1=>
 some x1.1
theorem JK(hR:zZ R)(a0:ay)(r:(List ay))(h:uS R a0=some r):Bz a0 r:=
 bj G50 (bt<|ao (.l ([a0].map bw))<|.ex fun (x1:((List ay)×Nat×Bool))=>ao (.cA (Ed a0 x1))<|.nil) fun L=>uq<|ai ((by simp only [je,List.map_nil,di]):[(.a (bL a0))]=[a0].map bw)<|bq h (dT (fun v=>Li R hR a0 v.1 v.2) ([a0],0)) fun x1 h=>L h
def pI:Nat→BA
 | 0=>⟨fun z0=>none⟩
 | n+1=>⟨uS (pI n)⟩
theorem Fl:∀ n,zZ (pI n)
 | 0=>⟨fun _ r h=>(by cases h)⟩
 | n+1=>⟨fun a0 r h=>JK _ (Fl n) a0 r h⟩
def pJ:Option (List ay):=ev fun n=>(pI n).f_R_allParts a0
theorem rK(r:(List ay))(h:pJ a0=some r):Bz a0 r:=by
 obtain ⟨n,hn⟩:=nW h
 exact (Fl n).f_R_allParts a0 r hn
end
section
variable (a0:Int)(a1:Int)(a2:Int)(y7:ay)(r4:(List ay))(d:Nat)
abbrev RL(a0:Int)(a1:Int)(a2:Int)(r:Bool):bC×HP:=(.ret (.b r),H0)
def fx:Option Bool:=
 if a1≤a0 then
  some (decide (a0≤a2))
 else
  some false
theorem fu(r:Bool)(h:fx a0 a1 a2=some r):call G Ω0 E0 43 [(I a0),(I a1),(I a2)] H0=some (RL a0 a1 a2 r):=
 bj G43 (.or (mg<|.nil) (TN<|.nil)) fun L=>cw h (fun h1 h=>Mk (aF h1)<|L h) (fun h1 h=>Mk (aD h1)<|L h)
def JL:List dE:=(gF 27 0 7)::(gQ 28 27)::(gB 29 .leq 28 (kI 2))::(gM 30 29)::⟨some 31,.fa 2 7,some ⟨30,true⟩,false⟩::⟨some 32,.ld none 31,some ⟨30,true⟩,false⟩::⟨some 33,.ln false 32,some ⟨30,true⟩,false⟩::⟨some 34,.bo .neq false 33 (kI 0),some ⟨30,true⟩,false⟩::(gk 35 30 34 (.c (.b false)))::(gM 36 35)::⟨some 37,.fa 0 7,some ⟨36,false⟩,false⟩::⟨some 38,.ld none 37,some ⟨36,false⟩,false⟩::⟨some 39,.bo .gtr false 38 (kI 2),some ⟨36,false⟩,false⟩::⟨some 40,.mv 39,some ⟨36,false⟩,false⟩::⟨some 41,.fa 2 7,some ⟨40,true⟩,false⟩::⟨some 42,.ld none 41,some ⟨40,true⟩,false⟩::⟨some 43,.ln false 42,some ⟨40,true⟩,false⟩::⟨some 44,.bo .neq false 43 (kI 2),some ⟨40,true⟩,false⟩::⟨some 45,.pk 40 44 (.c (.b false)),some ⟨36,false⟩,false⟩::(gp 46 (.pk 36 (.c (.b true)) 45))::[]
def vm:Option Bool:=
 if y7.Kind≤2 then
  if ((y7.Args.length:Int) !=0)=true then
   some true
  else
   if 2<y7.Kind then
    some ((y7.Args.length:Int) !=2)
   else
    some false
 else
  if 2<y7.Kind then
   some ((y7.Args.length:Int) !=2)
  else
   some false
abbrev BB(y7:ay)(x:Bool):St:=⟨[(1,(I a1)),(5,(cL r4)),(6,(zI d)),zP 7,(46,(.b x))],[(7,(bL y7))],H0⟩
theorem Im(y7:ay)(x:Bool)(h:vm y7=some x):q9 G Ω0 E0 [1,5,6,7,46] [7] JL ⟨[(1,(I a1)),(5,(cL r4)),(6,(zI d)),zP 7],[(7,(bL y7))],H0⟩=some (BB a1 r4 d y7 x):=
 let C:=aP bw y7.Args;let B:=bf<|bf<|bf<|bf<|bt<|bf<|bf<|.nil;let A:=mg<|ao (.i (y7.Args.length:Int))<|PL<|.nil;qJ (bt<|.or (mg<|ao (.i (y7.Args.length:Int))<|cM<|.or (TL<|.nil) (pn<|.or A B)) (ahL<|.or A B)) fun L=>ai (rfl:Z0)<|cw h (fun V h=>Sx (aF V)<|ai C<|qg (aF V)<|bB h (fun D h=>TD D<|L h) (fun D h=>Zi D<|cw h (fun H h=>Sx (aF H)<|ai C<|ai (g1 (aF H))<|ai (g0 D)<|ai (aF H)<|ai D<|L h) (fun H h=>dC (aD H)<|dC (aD H)<|ai (g0 D)<|ai (aD H)<|ai D<|L h))) (fun V h=>dC (aD V)<|dC (aD V)<|ai (aD V)<|ai hf<|ai hf<|ai (rfl:Z0)<|ai hf<|ai hf<|cw h (fun D h=>Sx (aF D)<|ai C<|ai (g1 (aF D))<|ai hf<|ai (aF D)<|ai ff<|L h) (fun D h=>dC (aD D)<|dC (aD D)<|ai hf<|ai (aD D)<|ai ff<|L h))
def JM:List dE:=(gF 47 0 7)::(gQ 48 47)::(gB 49 .eql 48 (kI 1))::(gM 50 49)::⟨some 51,.fa 1 7,some ⟨50,true⟩,false⟩::⟨some 52,.ld none 51,some ⟨50,true⟩,false⟩::⟨some 53,.ca 0 43 [52,(kI (-9999999)),(kI 9999999)],some ⟨50,true⟩,false⟩::⟨some 54,.no 53,some ⟨50,true⟩,false⟩::(gk 55 50 54 (.c (.b false)))::(gM 56 55)::⟨some 57,.fa 0 7,some ⟨56,false⟩,false⟩::⟨some 58,.ld none 57,some ⟨56,false⟩,false⟩::⟨some 59,.bo .gtr false 58 (kI 2),some ⟨56,false⟩,false⟩::⟨some 60,.mv 59,some ⟨56,false⟩,false⟩::⟨some 61,.fa 1 7,some ⟨60,true⟩,false⟩::⟨some 62,.ld none 61,some ⟨60,true⟩,false⟩::⟨some 63,.bo .neq false 62 (kI 0),some ⟨60,true⟩,false⟩::⟨some 64,.pk 60 63 (.c (.b false)),some ⟨56,false⟩,false⟩::(gp 65 (.pk 56 (.c (.b true)) 64))::[]
def vn:Option Bool:=
 if (y7.Kind==1)=true then
  (fx y7.N (-9999999) 9999999).bind fun aj=>
  if aj=true then
   if 2<y7.Kind then
    some (y7.N !=0)
   else
    some false
  else
   some true
 else
  if 2<y7.Kind then
   some (y7.N !=0)
  else
   some false
abbrev BC(y7:ay)(x:Bool):St:=⟨[(1,(I a1)),(5,(cL r4)),(6,(zI d)),zP 7,(65,(.b x))],[(7,(bL y7))],H0⟩
theorem Io(y7:ay)(x:Bool)(h:vn y7=some x):q9 G Ω0 E0 [1,5,6,7,65] [7] JM ⟨[(1,(I a1)),(5,(cL r4)),(6,(zI d)),zP 7],[(7,(bL y7))],H0⟩=some (BC a1 r4 d y7 x):=
 qJ (bt<|.or (mg<|xB fun aj=>cM<|.or (pn<|.or (PJ<|.nil) (Ml<|.nil)) (TL<|.nil)) (ahL<|.or (PJ<|.nil) (Ml<|.nil))) fun L=>ai (rfl:Z0)<|bB h (fun U h=>Sx U<|bq h (fu y7.N (-9999999) 9999999) fun aj h=>qg U<|bB h (fun F h=>let A:=az not F;Zi A<|cw h (fun W h=>Sx (aF W)<|ai (g0 A)<|ai (aF W)<|ai A<|L h) (fun W h=>PE (aD W)<|ai (g0 A)<|ai (aD W)<|ai A<|L h)) (fun F h=>TD (az not F)<|L h)) (fun U h=>dC U<|dC U<|ai U<|ai hf<|ai hf<|ai (rfl:Z0)<|ai hf<|ai hf<|cw h (fun X h=>dC (aF X)<|ai (rfl:Z0)<|ai (g1 (aF X))<|ai hf<|ai (aF X)<|ai ff<|L h) (fun X h=>Zh (aD X)<|L h))
def jZ:Option (Nat⊕(Unit⊕(Unit⊕(Unit⊕(Unit⊕(Nat×Bool)))))):=
 if (d:Int)<(r4.length:Int) then
  (r4[d]?).bind fun y7=>
  (fx y7.Kind 1 7).bind fun r9=>
  if r9=true then
   (vm y7).bind fun Z=>
   if Z=true then
    some (.inr (.inl ()))
   else
    (vn y7).bind fun Y=>
    if Y=true then
     some (.inr (.inr (.inl ())))
    else
     if (y7.Kind==2)=true then
      if IntKind.i64.wrap (a1 - 1)=a1 - 1 then
       (fx y7.N 0 (a1 - 1)).bind fun ag=>
       if ag=true then
        if IntKind.i64.wrap ((d:Int)+1)=((d+1:Nat):Int) then
         some (.inl (d+1))
        else none
       else
        some (.inr (.inr (.inr (.inl ()))))
      else none
     else
      if IntKind.i64.wrap ((d:Int)+1)=((d+1:Nat):Int) then
       some (.inl (d+1))
      else none
  else
   some (.inr (.inr (.inr (.inr (.inl ())))))
 else
  some (.inr (.inr (.inr (.inr (.inr (d,decide ((d:Int)<(r4.length:Int))))))))
abbrev Lj(v:Nat):St:=⟨[(1,(I a1)),(5,(cL r4)),(6,(I (v:Int)))],[],H0⟩
abbrev lS(x:(Unit⊕(Unit⊕(Unit⊕(Unit⊕(Nat×Bool)))))):bc×St:=match x with | .inl ()=>(.ret,⟨[(4,(I 1))],[],H0⟩) | .inr (.inl ())=>(.ret,⟨[(4,(I 3))],[],H0⟩) | .inr (.inr (.inl ()))=>(.ret,⟨[(4,(I 5))],[],H0⟩) | .inr (.inr (.inr (.inl ())))=>(.ret,⟨[(4,(I 7))],[],H0⟩) | .inr (.inr (.inr (.inr (z1,z2))))=>((.ex 0),⟨[(1,(I a1)),(5,(cL r4)),(6,(I (z1:Int))),(16,(.b z2))],[],H0⟩)
theorem JN(o:Nat⊕(Unit⊕(Unit⊕(Unit⊕(Unit⊕(Nat×Bool))))))(h:jZ a1 r4 d=some o):bQ E0 YG (Lj a1 r4) (lS a1 r4) d o:=
 bZ (ao (.i (r4.length:Int))<|.or (bt<|ao (.n d)<|.ex fun (y7:ay)=>ao (.v (.a (bL y7)))<|ea<|xB fun r9=>.or (bf<|.jb (some 27) 19<|.ex fun (Z:Bool)=>ao (.jn (BB a1 r4 d y7 Z))<|oN (.jb (some 47) 18<|.ex fun (Y:Bool)=>ao (.jn (BC a1 r4 d y7 Y))<|oN (bt<|.or (pn<|ao (.i (a1 - 1))<|bt<|xB fun ag=>cM<|.or (bf<|ao (.i ((d+1:Nat):Int))<|.nil) (bt<|.nil)) (bf<|bf<|bf<|bf<|bf<|bf<|bf<|bf<|ao (.i ((d+1:Nat):Int))<|.nil)))) (bt<|.nil)) (bf<|.nil)) fun L=>ai (aP bw r4)<|cw h (fun h6 h=>ai (aF h6)<|ai (rI d)<|ba h fun y7 h8 h=>ai (dR bw h8 (di _))<|IF<|bq h (fu y7.Kind 1 7) fun r9 h=>bB h (fun ap h=>ai (az not ap)<|bq h (Im a1 r4 d y7) fun Z h=>bB h (fun H h=>ai H<|L h) (fun H h=>ai H<|bq h (Io a1 r4 d y7) fun Y h=>bB h (fun an h=>ai an<|L h) (fun an h=>lG an<|bB h (fun F h=>dC F<|ai (rfl:Z0)<|dC F<|aO h fun ae h=>ai ae<|ai (g1 F)<|bq h (fu y7.N 0 (a1 - 1)) fun ag h=>qg F<|bB h (fun am h=>ai (az not am)<|aO h fun ar h=>ai ar<|L h) (fun am h=>ai (az not am)<|L h)) (fun F h=>dC F<|dC F<|dC F<|ai F<|ai ff<|aO h fun ae h=>ai ae<|L h)))) (fun ap h=>ai (az not ap)<|L h)) (fun h6 h=>ai (aD h6)<|L h)
end
section
variable (a0:ay)(a1:Int)
abbrev Ot(a0:ay)(a1:Int)(r:Int):bC×HP:=(.ret (I r),H0)
def ko:Option Int:=
 (zY a0 15).bind fun r1=>
 if 15<r1 then
  some 2
 else
  (pJ a0).bind fun r4=>
  (lp (fun v=>jZ a1 r4 v) 0).bind fun (x6:(Unit⊕(Unit⊕(Unit⊕(Unit⊕(Nat×Bool))))))=>match x6 with
  | .inl Q=>
   some 1
  | .inr (.inl O)=>
   some 3
  | .inr (.inr (.inl M))=>
   some 5
  | .inr (.inr (.inr (.inl K)))=>
   some 7
  | .inr (.inr (.inr (.inr J)))=>
   some 0
theorem vo(r:Int)(h:ko a0 a1=some r):call G Ω0 E0 45 [(.a (bL a0)),(I a1)] H0=some (Ot a0 a1 r):=
 bj G45 (bt<|xI fun r1=>oN (bt<|.ex fun (r4:(List ay))=>ao (.v (cL r4))<|.or (.ex fun (Q:Unit)=>ao (.cA (lS a1 r4 (.inl Q)))<|.nil) (.or (.ex fun (O:Unit)=>ao (.cA (lS a1 r4 (.inr (.inl O))))<|.nil) (.or (.ex fun (M:Unit)=>ao (.cA (lS a1 r4 (.inr (.inr (.inl M)))))<|.nil) (.or (.ex fun (K:Unit)=>ao (.cA (lS a1 r4 (.inr (.inr (.inr (.inl K))))))<|.nil) (.ex fun (J:(Nat×Bool))=>ao (.cA (lS a1 r4 (.inr (.inr (.inr (.inr J))))))<|.nil)))))) fun L=>uq<|bq h (JJ a0 15) fun r1 h=>cw h (fun h3 h=>ai (aF h3)<|L h) (fun h3 h=>lG (aD h3)<|bq h (rK a0) fun r4 h=>Zf h (dT (JN a1 r4) 0) (fun Q h=>L h) (fun O h=>L h) (fun M h=>L h) (fun K h=>L h) (fun J h=>L h))
end
section
variable (a0:Int)
abbrev Ui(a0:Int)(r:Bool):bC×HP:=(.ret (.b r),H0)
def E8:Option Bool:=
 (fx a0 1 3).bind fun r1=>
 if r1=true then
  some true
 else
  if (a0==5)=true then
   some true
  else
   some (a0==6)
theorem Ou(r:Bool)(h:E8 a0=some r):call G Ω0 E0 93 [(I a0)] H0=some (Ui a0 r):=
 bj G93 (xB fun r1=>.or (bf<|bf<|bt<|bf<|bf<|bt<|.nil) (Jf<|.or (bf<|bf<|bt<|.nil) (Jf<|.nil))) fun L=>bq h (fu a0 1 3) fun r1 h=>bB h (fun h3 h=>ai (g0 h3)<|iD h3<|nR<|ai tt<|L h) (fun h3 h=>Mj h3<|bB h (fun h4 h=>Mj h4<|L h) (fun h4 h=>Mj h4<|L h))
abbrev RM(a0:Int)(r:Bool):bC×HP:=(.ret (.b r),H0)
def Dq:Option Bool:=
 if (a0==1)=true then
  some true
 else
  (fx a0 4 8).bind fun r2=>
  some r2
theorem M0(r:Bool)(h:Dq a0=some r):call G Ω0 E0 54 [(I a0)] H0=some (RM a0 r):=
 bj G54 (.or (bf<|bf<|bt<|.nil) (cM<|xB fun r2=>bf<|.nil)) fun L=>bB h (fun h1 h=>Mj h1<|L h) (fun h1 h=>xS h1<|bq h (fu a0 4 8) fun r2 h=>ai h1<|L h)
end
end
variable [Lp]
attribute [local simp] gp execOp okB iY jq n9 Dy pa kL mq St.end_ St.oa List.filter fM zb view Cg SF VU KI plain
theorem CP(n x y:Int):fx n x y=some (decide (x≤n∧n≤y)):=by
 unfold fx
 by_cases h:x≤n<;>simp [h]
theorem yp(a b c:Int):fx a b c=some (decide (b≤a∧a≤c)):=CP a b c
theorem Wj{k:Int}(h:1≤k∧k≤8):E8 k=some (fI k):=by
 unfold E8 fI
 rw [yp,ab]
 by_cases h1:1≤k∧k≤3
 ·rw [af (aF h1)];congr 1;symm;simp;omega
 ·rw [ah (by simpa using h1)]
  by_cases h5:k=5
  ·simp [h5]
  ·rw [ah (by simpa using h5)];congr 1
   rw [xH];simp;omega
theorem Uj{k:Int}(h:1≤k∧k≤8):Dq k=some (gG k):=by
 unfold Dq gG
 by_cases h1:k=1
 ·simp [h1]
 ·rw [ah (by simpa using h1),yp,ab];congr 1
  rw [xH];simp;omega
def rl(p:Program)(i k:Int):Int:=if k=2 then i else if k=3 then p.Ins.length else if k=4 then p.Outs.length else 0
noncomputable def QK(p:Program)(i:Int)(s:Stmt):Option Int:=
 if ¬(1≤s.Kind∧s.Kind≤8) then some 7
 else if ¬(p.Vars.length≤1000000∧-1000000≤rl p i s.Kind∧rl p i s.Kind≤1000000) then none
 else Mu (fun e=>ko e p.Vars.length) p i s
mutual
noncomputable def SV(p:Program)(i:Int):Stmt→Option Int
 | ⟨k,v,o,e,args,th,el⟩=>(QK p i ⟨k,v,o,e,args,th,el⟩).bind fun x=>if x≠0 then some x else
   (if th.length≤9223372036854775807 then IM p i th else none).bind fun x=>if x≠0 then some x else if el.length≤9223372036854775807 then IM p i el else none
noncomputable def IM(p:Program)(i:Int):List Stmt→Option Int
 | []=>some 0
 | s::r=>(SV p i s).bind fun x=>if x≠0 then some x else IM p i r
end
noncomputable def dI(p:Program)(i:Int)(l:List Stmt):Option Int:=if l.length≤9223372036854775807 then IM p i l else none
theorem aih(p:Program)(i:Int)(s:Stmt):SV p i s=(QK p i s).bind fun x=>if x≠0 then some x else
   (dI p i s.Then).bind fun x=>if x≠0 then some x else dI p i s.Else:=by cases s;rw [SV];rfl
section
variable (p:Program)(i:Int)(l:List Stmt)
abbrev tR(p:Program)(i:Int)(l:List Stmt)(k:Nat)(s:Stmt)(xs:List (Nat×AV)):St:=⟨(1,I i)::(2,.l 111 (l.map bK))::(3,.p ⟨0,3⟩ 0)::(7,I k)::(8,.p ⟨0,8⟩ 0)::xs,[(3,aL p),(8,ax s)],H0⟩
abbrev aR(p:Program)(i:Int)(l:List Stmt)(k:Nat)(s:Stmt)(e:Int)(n:Nat):St:=⟨[(1,I i),(2,.l 111 (l.map bK)),(3,.p ⟨0,3⟩ 0),(7,I k),(8,.p ⟨0,8⟩ 0),(12,I e),(13,I n)],[(3,aL p),(8,ax s)],H0⟩
theorem Wk(k:Nat)(s:Stmt):∀ (rest:List ay)(n:Nat)(e r:Int),(e=0→s.Args.length≤9223372036854775807)→s.Args.drop n=rest→(if e≠0 then some e else wm (fun e=>ko e p.Vars.length) rest)=some r→
  ∃ z,va G Ω0 E0 Yy (aR p i l k s e n)=some (.ex 2,z)∧z.cn [1,2,3,7,8,12] [3,8]=(aR p i l k s r n).cn [1,2,3,7,8,12] [3,8]
 | [],n,e,r,hl,hd,h=>by
  have hk:¬((n:Int)<(s.Args.length:Int)):=by
   have:=Ca.1 hd;omega
  obtain rfl:e=r:=by
   by_cases h0:e=0
   ·rw [ah (by simp [h0])] at h
    exact h0.trans (aq h)
   ·rw [af h0] at h;exact aq h
  apply Exists.intro
  apply And.intro
  ·refine m9 (r:=(.ex 2,?_)) ?_ (by simp)
   rotate_left
   ·show run G Ω0 _ Ke (aR p i l k s e n)=_
    apply Dd
    apply df (by simp [hk];rfl)
    apply xV (by simp [hk])
    exact sf _ _ _
  ·simp
 | a::rest,n,e,r,hl,hd,h=>by
  have T:n<s.Args.length:=by
   have h1:=az List.length hd
   simp only [Cb,fj] at h1
   omega
  have hg:s.Args[n]? =some a:=by
   have:=az (fun l=>l[0]?) hd
   simpa using this
  have al:s.Args.drop (n+1)=rest:=by
   have:=az List.tail hd
   simpa using this
  by_cases h0:e=0
  ·subst h0
   have hl:=hl rfl
   have hw:IntKind.i64.wrap ((n:Int)+1)=(n:Int)+1:=wrap64 (by omega) (by omega)
   rw [ah (by simp)] at h
   obtain ⟨x,hx,h⟩:=au.1 h
   have hX:=kO (E:=E0) (vo a p.Vars.length x hx) (by simp) (by simp)
   obtain ⟨z,h1,h2⟩:=Wk k s rest (n+1) x r (fun _=>hl) al h
   refine ⟨z,?_,h2⟩
   rw [pT]
   exact h1
   show (run G Ω0 _ Ke (aR p i l k s 0 n)).bind _=_
   have body:run G Ω0 E0 Ke (aR p i l k s 0 n)=some (.nrm,aR p i l k s x (n+1)):=by
    apply P4
    apply cC
    apply cC
    apply dw (by simp [T];rfl)
    apply jT true (by simp [T])
    ·intro _
     apply om
     apply qj
     apply cC
     apply Cy
     apply dw (by simp [-cK,hg,di,hX];rfl)
     refine dw (st1:=aR p i l k s x (n+1)) ?_ rfl
     simp [hw]
    ·intro hq;cases hq
   rw [body];rfl
  ·rw [af h0] at h
   obtain rfl:=aq h
   apply Exists.intro
   apply And.intro
   ·refine m9 (r:=(.ex 2,?_)) ?_ (by simp)
    rotate_left
    ·show run G Ω0 _ Ke (aR p i l k s e n)=_
     apply Dd
     apply df (by simp [T,h0];rfl)
     apply xV (by simp [h0])
     exact sf _ _ _
   ·simp
theorem aai{j:Nat}(h:1≤j∧j≤8):([I 0,I 0,I i,I p.Ins.length,I p.Outs.length,I 0,I 0,I 0,I 0]:List AV)[j]? =some (I (rl p i j)):=by
 obtain ⟨h1,h2⟩:=h
 match j,h1,h2 with
 | 1,_,_=>rfl
 | 2,_,_=>rfl
 | 3,_,_=>rfl
 | 4,_,_=>rfl
 | 5,_,_=>rfl
 | 6,_,_=>rfl
 | 7,_,_=>rfl
 | 8,_,_=>rfl
section
variable {p i l}{k:Nat}{s:Stmt}{y:Int}{P:bc×St→Prop}(hr:y≠0→P (.ret,⟨[(6,I y)],[],H0⟩))(hn:y=0→P (.nrm,⟨[(1,I i),(2,.l 111 (l.map bK)),(3,.p ⟨0,3⟩ 0),(7,I k),(12,I 0),(197,.b false)],[(3,aL p)],H0⟩))
include hr hn
theorem Wl{st:St}(S:st.cn [1,2,3,7,12] [3]=⟨[(1,I i),(2,.l 111 (l.map bK)),(3,.p ⟨0,3⟩ 0),(7,I k),(12,I y)],[(3,aL p)],H0⟩):Nx E0 Yz st P:=by
 apply qj
 rw [S]
 apply cC
 by_cases h0:y=0
 ·subst h0
  apply dw (by simp;rfl)
  refine jT false (by simp) (fun hq=>by cases hq) (fun _=>?_)
  exact om (hn rfl)
 ·apply dw (by simp [h0];rfl)
  refine jT true (by simp [h0]) (fun _=>?_) (fun hq=>by cases hq)
  apply cC
  apply dw (by simp;rfl)
  exact o8 (hr h0)
variable (u:∀ t r,(t=s.Then∨t=s.Else)→dI p i t=some r→call G Ω0 E0 44 [.a (aL p),I i,.l 111 (t.map bK)] H0=some (.ret (I r),H0))
include u
theorem Wm{st:St}{x:Int}(S:st.cn [1,2,3,7,8,12] [3,8]=tR p i l k s [(12,I x)])(h:(if x≠0 then some x else dI p i s.Else)=some y):Nx E0 YA st P:=by
 apply qj
 rw [S]
 apply cC
 apply cC
 by_cases h0:x=0
 ·subst h0
  rw [ah (by simp)] at h
  have hT:=kO (E:=E0) (u s.Else y (.inr rfl) h) (by simp) (by simp)
  apply dw (by simp;rfl)
  refine jT true (by simp) (fun _=>?_) (fun hq=>by cases hq)
  apply dw (by simp [-cK,hT];rfl)
  exact Wl hr hn (by simp)
 ·rw [af h0] at h
  obtain rfl:=aq h
  apply dw (by simp [h0];rfl)
  refine jT false (by simp [h0]) (fun hq=>by cases hq) (fun _=>?_)
  apply om
  exact Wl hr hn (by simp)
theorem aii{st:St}{x:Int}(S:st.cn [1,2,3,7,8,12] [3,8]=tR p i l k s [(12,I x)])(h:(if x≠0 then some x else (dI p i s.Then).bind fun x=>if x≠0 then some x else dI p i s.Else)=some y):Nx E0 YB st P:=by
 apply qj
 rw [S]
 apply cC
 apply cC
 by_cases h0:x=0
 ·subst h0
  rw [ah (by simp)] at h
  obtain ⟨x,hx,h⟩:=au.1 h
  have hT:=kO (E:=E0) (u s.Then x (.inl rfl) hx) (by simp) (by simp)
  apply dw (by simp;rfl)
  refine jT true (by simp) (fun _=>?_) (fun hq=>by cases hq)
  apply dw (by simp [-cK,hT];rfl)
  exact Wm hr hn u (by simp) h
 ·rw [af h0] at h
  obtain rfl:=aq h
  apply dw (by simp [h0];rfl)
  refine jT false (by simp [h0]) (fun hq=>by cases hq) (fun _=>?_)
  apply om
  exact Wm hr hn u (x:=x) (by simp) (af h0)
theorem Wn{st:St}{e x:Int}(S:st.cn [1,2,3,7,8,12] [3,8]=tR p i l k s [(12,I e)])(hl:e=0→s.Args.length≤9223372036854775807)(he:(if e≠0 then some e else wm (fun e=>ko e p.Vars.length) s.Args)=some x)
  (h:(if x≠0 then some x else (dI p i s.Then).bind fun x=>if x≠0 then some x else dI p i s.Else)=some y):Nx E0 YC st P:=by
 obtain ⟨z,z1,z2⟩:=Wk p i l k s s.Args 0 e x hl rfl he
 apply qj
 rw [S]
 apply cC
 apply cC
 apply dw (st1:=aR p i l k s e 0) (by simp)
 apply Cy
 refine TW z1 ?_
 refine Eq.mpr (af rfl) ?_
 exact aii hr hn u (by rw [z2];simp) h
end
def QL:AC→AC
 | .sq x _=>x
 | x=>x
def acR:AC→AC
 | .sq _ y=>y
 | x=>x
structure Cs(s:Stmt):Prop where
 b:∀ a b c:Int,∀ st,cK (call G Ω0) Ω0 E0 st 0 43 [I a,I b,I c]=some (.b (decide (b≤a∧a≤c)),st)
 v:∀ st,cK (call G Ω0) Ω0 E0 st 0 93 [I s.Kind]=some (.b (fI s.Kind),st)
 e:∀ st,cK (call G Ω0) Ω0 E0 st 0 54 [I s.Kind]=some (.b (gG s.Kind),st)
 o:∀ st,cK (call G Ω0) Ω0 E0 st 0 43 [I s.Kind,I 2,I 4]=some (.b (jC s.Kind),st)
theorem apl{k:Nat}{s:Stmt}(ad:p.Vars.length≤1000000∧-1000000≤rl p i s.Kind∧rl p i s.Kind≤1000000)(C:Cs s):run G Ω0 E0 (QL (QL (acR YE))) (tR p i l k s [(9,I s.Kind),(10,I (rl p i s.Kind))])=some (.nrm,tR p i l k s [(9,I s.Kind),(63,.b (uJ p i s))]):=by
 obtain ⟨hB,hV,hE,hO⟩:=C
 have w1:IntKind.i64.wrap ((p.Vars.length:Int) - 1)=(p.Vars.length:Int) - 1:=wrap64 (by omega) (by omega)
 have w2:IntKind.i64.wrap (rl p i s.Kind - 1)=rl p i s.Kind - 1:=wrap64 (by omega) (by omega)
 have b1:(!decide (0≤s.Var∧s.Var≤(p.Vars.length:Int) - 1))=(decide (s.Var<0)||decide ((p.Vars.length:Int)≤s.Var)):=by
  rw [xH];simp;omega
 have b2:jC s.Kind=true→(!decide (0≤s.Other∧s.Other≤rl p i s.Kind - 1))=(decide (s.Other<0)||decide (fL p i s.Kind≤s.Other)):=by
  intro ho
  have e:rl p i s.Kind=fL p i s.Kind:=by
   have ho:2≤s.Kind∧s.Kind≤4:=by simpa [jC] using ho
   unfold rl fL
   by_cases e2:s.Kind=2
   ·rw [af e2,af e2]
   ·by_cases e3:s.Kind=3
    ·rw [ah e2,ah e2,af e3,af e3]
    ·rw [ah e2,ah e2,ah e3,ah e3,af (by omega)]
  rw [e,xH];simp;omega
 apply TU rfl
 refine so (v1:=tR p i l k s [(9,I s.Kind),(10,I (rl p i s.Kind)),(52,.b (fI s.Kind&&(decide (s.Var<0)||decide ((p.Vars.length:Int)≤s.Var))))]) 13 [1,2,3,7,8,9,10,52] ?_ ?_
 ·rw [←b1]
  cases hv:fI s.Kind<;>((repeat refine ve (by simp [-cK,hV,hv,hB,w1];rfl) ?_);exact vf (by simp))
 unfold uJ
 generalize (fI s.Kind&&(decide (s.Var<0)||decide ((p.Vars.length:Int)≤s.Var)))=c0
 refine PZ ?_ (by simp)
 cases ho:jC s.Kind
 ·cases c0<;>((repeat refine ve (by simp [-cK,hO,ho];rfl) ?_);exact vf (by simp))
 ·rw [←b2 ho]
  cases c0<;>((repeat refine ve (by simp [-cK,hO,ho,hB,w2];rfl) ?_);exact vf (by simp))
theorem amC{k:Nat}{s:Stmt}(C:Cs s):run G Ω0 E0 (QL (QL (acR Tb))) (tR p i l k s [(9,I s.Kind),(11,.b (mh s))])=some (.nrm,tR p i l k s [(9,I s.Kind),(137,.b (Aq s))]):=by
 obtain ⟨hB,hV,hE,hO⟩:=C
 apply TU rfl
 refine so (v1:=tR p i l k s [(9,I s.Kind),(11,.b (mh s)),(89,.b (!fI s.Kind&&decide (s.Var≠0)))]) 9 [1,2,3,7,8,9,11,89] ?_ ?_
 ·cases hv:fI s.Kind<;>by_cases q:s.Var=0<;>((repeat refine ve (by simp [-cK,hV,hv,q];rfl) ?_);exact vf (by simp [q]))
 unfold Aq
 generalize (!fI s.Kind&&decide (s.Var≠0))=c1
 refine so (v1:=tR p i l k s [(9,I s.Kind),(11,.b (mh s)),(99,.b (c1||(!jC s.Kind&&decide (s.Other≠0))))]) 10 [1,2,3,7,8,9,11,99] ?_ ?_
 ·cases c1<;>cases ho:jC s.Kind<;>by_cases q:s.Other=0<;>((repeat refine ve (by simp [-cK,hO,ho,q];rfl) ?_);exact vf (by simp [q]))
 generalize (c1||(!jC s.Kind&&decide (s.Other≠0)))=c2
 refine so (v1:=tR p i l k s [(9,I s.Kind),(11,.b (mh s)),(108,.b (c2||(!gG s.Kind&&!mh s)))]) 9 [1,2,3,7,8,9,11,108] ?_ ?_
 ·cases c2<;>cases he:gG s.Kind<;>cases hb:mh s<;>((repeat refine ve (by simp [-cK,hE,he,hb];rfl) ?_);exact vf (by simp [hb]))
 generalize (c2||(!gG s.Kind&&!mh s))=c3
 refine so (v1:=tR p i l k s [(9,I s.Kind),(118,.b (c3||(s.Kind !=2&&decide (0<s.Args.length))))]) 10 [1,2,3,7,8,9,118] ?_ ?_
 ·cases c3<;>cases q:(s.Kind !=2)<;>((repeat refine ve (by simp [-cK,q];rfl) ?_);exact vf (by simp [q]))
 generalize (c3||(s.Kind !=2&&decide (0<s.Args.length)))=c4
 refine so (v1:=tR p i l k s [(9,I s.Kind),(128,.b (c4||(!decide (7≤s.Kind)&&decide (0<s.Then.length))))]) 10 [1,2,3,7,8,9,128] ?_ ?_
 ·have q7:decide (s.Kind<7)=!decide (7≤s.Kind):=by rw [xH];simp
  cases c4<;>cases q:decide (7≤s.Kind)<;>((repeat refine ve (by simp [-cK,q,q7];rfl) ?_);exact vf (by simp [q]))
 generalize (c4||(!decide (7≤s.Kind)&&decide (0<s.Then.length)))=c5
 refine PZ ?_ (by simp)
 cases c5<;>cases q:(s.Kind !=7)<;>((repeat refine ve (by simp [-cK,q];rfl) ?_);exact vf (by simp [q]))
theorem amD{k:Nat}{s:Stmt}{b:Bool}(hn:uJ p i s=false)(hb:(if s.Kind=2 then (p.Funcs[s.Other.toNat]?).map fun f=>decide (s.Args.length≠f.Params.length) else some false)=some b):run G Ω0 E0 (QL (QL YD)) (tR p i l k s [(9,I s.Kind)])=some (.nrm,tR p i l k s [(9,I s.Kind),(153,.b b)]):=by
 apply TV rfl (by simp)
 refine P2 ?_ (by simp)
 cases q:(s.Kind==2)
 ·rw [ah (ne_of_beq_false q)] at hb
  obtain rfl:=aq hb
  ((repeat refine Bc (by simp [-cK,q];rfl) ?_);exact Bd (by simp [q]))
 ·have q1:=eq_of_beq q
  rw [af q1] at hb
  obtain ⟨f,ac,av⟩:=fi.1 hb
  have aw:¬s.Other<0:=fun T=>by simp [uJ,jC,q1,T] at hn
  obtain ⟨j,hj⟩:∃ j:Nat,s.Other=j:=⟨s.Other.toNat,by omega⟩
  rw [hj] at ac
  have ac:p.Funcs[j]? =some f:=by simpa using ac
  subst av
  have q2:((s.Args.length:Int) !=(f.Params.length:Int))=decide (s.Args.length≠f.Params.length):=by
   by_cases q3:s.Args.length=f.Params.length
   ·simp [q3]
   ·rw [aF q3]
    simp only [uW,ne_eq]
    omega
  ((repeat refine Bc (by simp [-cK,q,hj,ac,cS];rfl) ?_);exact Bd (by simp [q,q2]))
theorem apm{k:Nat}{s:Stmt} : run G Ω0 E0 (QL Tb) (tR p i l k s [(9,I s.Kind)])=some (.nrm,tR p i l k s [(9,I s.Kind),(11,.b (mh s))]):=by
 show run G Ω0 E0 (.rg _ _ _ _) _=_
 by_cases a1:s.Expr.Kind=0<;>by_cases a2:s.Expr.N=0<;>by_cases a3:s.Expr.Args.length=0<;>simp [a1,a2,a3,mh]
abbrev sR(k:Nat):St:=⟨[(1,I i),(2,.l 111 (l.map bK)),(3,.p ⟨0,3⟩ 0),(7,I k)],[(3,aL p)],H0⟩
theorem aaj{k:Nat}(hk:k<l.length)(hl:l.length≤9223372036854775807){s:Stmt}(hs:l[k]? =some s)
  (u:∀ t r,(t=s.Then∨t=s.Else)→dI p i t=some r→call G Ω0 E0 44 [.a (aL p),I i,.l 111 (t.map bK)] H0=some (.ret (I r),H0)) {y:Int} (h:SV p i s=some y) :
  Nx E0 OM (sR p i l k) fun q=>(y≠0∧q=(.ret,⟨[(6,I y)],[],H0⟩))∨(y=0∧q=(.nrm,sR p i l (k+1))):=by
 have hw:IntKind.i64.wrap ((k:Int)+1)=(k:Int)+1:=wrap64 (by omega) (by omega)
 have hB:∀ a b c:Int,∀ st,cK (call G Ω0) Ω0 E0 st 0 43 [I a,I b,I c]=some (.b (decide (b≤a∧a≤c)),st):=fun a b c=>kO (E:=E0) (fu a b c _ (CP a b c)) (by simp) (by simp)
 rw [aih] at h
 obtain ⟨x,hx,h⟩:=au.1 h
 unfold QK at hx
 apply cC
 apply cC
 apply dw (by simp [hk];rfl)
 refine jT true (by simp [hk]) (fun _=>?_) (fun hq=>by cases hq)
 apply om
 apply qj
 apply cC
 apply Cy
 apply cC
 apply dw (st1:=tR p i l k s []) (by simp [hs,gE])
 apply cC
 apply dw (st1:=tR p i l k s [(9,I s.Kind)]) (by simp)
 apply cC
 apply cC
 apply dw (st1:=tR p i l k s [(9,I s.Kind),(28,.b (!decide (1≤s.Kind∧s.Kind≤8)))]) (by simp [-cK,hB])
 apply jT (!decide (1≤s.Kind∧s.Kind≤8)) (by simp)
 ·intro hq
  have hq:¬(1≤s.Kind∧s.Kind≤8):=B0 ((qa _).mp hq)
  rw [af hq] at hx
  obtain rfl:=aq hx
  rw [af (by decide)] at h
  obtain rfl:=aq h
  apply cC
  apply dw (by simp;rfl)
  exact o8 (.inl ⟨by decide,rfl⟩)
 intro hq
 have hq:1≤s.Kind∧s.Kind≤8:=uX ((Bool.not_eq_false' _).mp hq)
 rw [ah (fun hn=>hn hq)] at hx
 by_cases ad:p.Vars.length≤1000000∧-1000000≤rl p i s.Kind∧rl p i s.Kind≤1000000
 case neg=>rw [af ad] at hx;cases hx
 rw [ah (fun hn=>hn ad)] at hx
 unfold Mu at hx
 have hV:∀ st,cK (call G Ω0) Ω0 E0 st 0 93 [I s.Kind]=some (.b (fI s.Kind),st):=kO (E:=E0) (Ou s.Kind _ (Wj hq)) (by simp) (by simp)
 have hE:∀ st,cK (call G Ω0) Ω0 E0 st 0 54 [I s.Kind]=some (.b (gG s.Kind),st):=kO (E:=E0) (M0 s.Kind _ (Uj hq)) (by simp) (by simp)
 have C:Cs s:=⟨hB,hV,hE,hB _ _ _⟩
 apply om
 apply qj
 apply cC
 apply dw (st1:=tR p i l k s [(9,I s.Kind),(10,I (rl p i s.Kind))])
 ·obtain ⟨j,hj⟩:∃ j:Nat,s.Kind=j:=⟨s.Kind.toNat,by omega⟩
  have hg:=aai p i (j:=j) (by omega)
  simp [hj,hg]
 apply cC
 apply cC
 refine dw (apl p i l ad C) ?_
 apply jT (uJ p i s) (by simp)
 ·intro hn
  rw [af hn] at hx
  obtain rfl:=aq hx
  rw [af (by decide)] at h
  obtain rfl:=aq h
  apply cC
  apply dw (by simp;rfl)
  exact o8 (.inl ⟨by decide,rfl⟩)
 intro hn
 rw [ah (by simp [hn])] at hx
 apply om
 apply qj
 apply cC
 refine dw (apm p i l) ?_
 apply cC
 apply cC
 refine dw (amC p i l C) ?_
 apply jT (Aq s) (by simp)
 ·intro hf
  rw [af hf] at hx
  obtain rfl:=aq hx
  rw [af (by decide)] at h
  obtain rfl:=aq h
  apply cC
  apply dw (by simp;rfl)
  exact o8 (.inl ⟨by decide,rfl⟩)
 intro hf
 rw [ah (by simp [hf])] at hx
 obtain ⟨b,hb,hx⟩:=au.1 hx
 apply om
 apply qj
 apply cC
 apply cC
 refine dw (amD p i l hn hb) ?_
 apply jT b (by simp)
 ·intro ak
  rw [af ak] at hx
  obtain rfl:=aq hx
  rw [af (by decide)] at h
  obtain rfl:=aq h
  apply cC
  apply dw (by simp;rfl)
  exact o8 (.inl ⟨by decide,rfl⟩)
 intro ak
 rw [ah (by simp [ak])] at hx
 obtain ⟨x0,aa,hx⟩:=au.1 hx
 have e5:x0=0→s.Args.length≤9223372036854775807:=fun h0=>by
  rw [ah (by simp [h0])] at hx
  split at hx
  ·assumption
  ·cases hx
 have e6:(if x0≠0 then some x0 else wm (fun e=>ko e p.Vars.length) s.Args)=some x:=by
  by_cases h0:x0=0
  ·rw [ah (by simp [h0])] at hx ⊢
   rw [af (e5 h0)] at hx;exact hx
  ·rw [af h0] at hx ⊢;exact hx
 apply om
 apply qj
 apply cC
 apply dw (st1:=tR p i l k s [(9,I s.Kind),(12,I 0)]) (by simp)
 apply cC
 apply cC
 apply dw (st1:=tR p i l k s [(12,I 0),(155,.b (gG s.Kind))]) (by simp [-cK,hE])
 apply jT (gG s.Kind) (by simp)
 ·intro he
  rw [af he] at aa
  have hX:=kO (E:=E0) (vo s.Expr p.Vars.length x0 aa) (by simp) (by simp)
  apply dw (by simp [-cK,hX];rfl)
  refine Wn (l:=l) (k:=k) (fun h0=>.inl ⟨h0,rfl⟩) (fun h0=>dw (st1:=sR p i l (k+1)) (by simp [hw]) (.inr ⟨h0,rfl⟩)) u ?_ e5 e6 h
  simp
 ·intro he
  rw [ah (by simp [he])] at aa
  obtain rfl:=aq aa
  apply om
  refine Wn (l:=l) (k:=k) (fun h0=>.inl ⟨h0,rfl⟩) (fun h0=>dw (st1:=sR p i l (k+1)) (by simp [hw]) (.inr ⟨h0,rfl⟩)) u ?_ e5 e6 h
  simp
theorem Wo(hl:l.length≤9223372036854775807)
  (u:∀ s∈l,∀ t r,(t=s.Then∨t=s.Else)→dI p i t=some r→call G Ω0 E0 44 [.a (aL p),I i,.l 111 (t.map bK)] H0=some (.ret (I r),H0)) {r:Int} :
  ∀ (rest:List Stmt)(k:Nat),l.drop k=rest→IM p i rest=some r→∃ q,va G Ω0 E0 YF (sR p i l k)=some q∧(q=(.ret,⟨[(6,I r)],[],H0⟩)∨r=0∧∃ z,q=(.ex 0,z)∧z.hp=H0)
 | [],k,hd,h=>by
  rw [IM] at h
  obtain rfl:=aq h
  have hk:¬((k:Int)<(l.length:Int)):=by
   have:=Ca.1 hd;omega
  apply Exists.intro
  apply And.intro
  ·refine m9 (r:=(.ex 0,?_)) ?_ (by simp)
   rotate_left
   ·show run G Ω0 _ OM (sR p i l k)=_
    apply Dd
    apply df (by simp [hk];rfl)
    apply xV (by simp [hk])
    exact sf _ _ _
  ·exact .inr ⟨rfl,_,rfl,rfl⟩
 | s::rest,k,hd,h=>by
  rw [IM] at h
  obtain ⟨y,hy,h⟩:=au.1 h
  have T:k<l.length:=by
   have h1:=az List.length hd
   simp only [Cb,fj] at h1
   omega
  have hg:l[k]? =some s:=by
   have:=az (fun l=>l[0]?) hd
   simpa using this
  have al:l.drop (k+1)=rest:=by
   have:=az List.tail hd
   simpa using this
  obtain ⟨q,h1,h2⟩:=aaj p i l T hl hg (u s (cm hg)) hy
  rcases h2 with ⟨h0,rfl⟩ | ⟨h0,rfl⟩
  ·rw [af h0] at h
   obtain rfl:=aq h
   exact ⟨_,m9 (by exact h1) (by simp),.inl rfl⟩
  ·rw [ah (by simp [h0])] at h
   obtain ⟨q,g1,g2⟩:=Wo hl u rest (k+1) al h
   refine ⟨q,?_,g2⟩
   rw [pT]
   exact g1
   show (run G Ω0 _ OM (sR p i l k)).bind _=_
   rw [h1];rfl
theorem SW:∀ (n:Nat)(l:List Stmt)(r:Int),SizeOf.sizeOf l≤n→dI p i l=some r→call G Ω0 E0 44 [.a (aL p),I i,.l 111 (l.map bK)] H0=some (.ret (I r),H0)
 | 0,l,r,hn,h=>by cases l<;>simp at hn
 | n+1,l,r,hn,h=>by
  unfold dI at h
  split at h
  ·rename_i hl
   obtain ⟨q,q1,q2⟩:=Wo p i l hl (fun s hs t r ht hr=>SW n t r (by
    have h1:=List.sizeOf_lt_of_mem hs
    obtain ⟨_,_,_,_,_,_,_⟩:=s
    simp only [Stmt.mk.sizeOf_spec] at h1
    rcases ht with rfl | rfl<;>first | omega | (simp only;omega)) hr) l 0 rfl h
   refine Mt (st:=⟨[(6,I r)],[],H0⟩) G44 ?_ (by simp [c44]) rfl
   apply cC
   apply dw (by simp;rfl)
   apply cC
   apply cC
   apply dw (st1:=sR p i l 0) (by simp)
   apply Cy
   refine TW q1 ?_
   rcases q2 with rfl | ⟨rfl,z,rfl,hz⟩
   ·rfl
   ·refine Eq.mpr (af rfl) ?_
    apply cC
    apply dw (by simp [hz];rfl)
    exact o8 rfl
  ·cases h
end
theorem Ab(p:Program)(i:Int)(l:List Stmt)(r:Int)(h:dI p i l=some r):call G Ω0 E0 44 [.a (aL p),I i,.l 111 (l.map bK)] H0=some (.ret (I r),H0):=SW p i _ l r (bG _) h
end Go.Proofs.YtlmphbbhaeampaaGreat.A
