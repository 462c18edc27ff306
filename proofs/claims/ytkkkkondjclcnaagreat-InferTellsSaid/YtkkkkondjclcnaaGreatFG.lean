/- Functions of the program as plain functions, by program. -/
import Derived.Test.YtkkkkondjclcnaaGreatTypes
import Derived.Test.YtkkkkondjclcnaaGreatLift
import Derived.Test.YtkkkkondjclcnaaGreatFE
import Derived.Test.YtkkkkondjclcnaaGreatFA
set_option linter.all false
set_option maxRecDepth 100000
namespace Go.Proofs.YtkkkkondjclcnaaGreat.A
open Go
noncomputable section
variable [Lp]
section
variable (a0:ax)(a1:Int)
abbrev KB(a0:ax)(a1:Int)(r:Int):bm×HP:=(.ret (I r),H0)
abbrev wP(r:Int):Prop:=call G Ω0 E0 53 [(.a (dw a0)),(I a1)] H0=some (KB a0 a1 r)
end
structure wQ where
 f_R_exprParts:ax→Int→Option Int
structure vf(R:wQ):Prop where
 f_R_exprParts:∀ (a0:ax)(a1:Int)(r:Int),R.f_R_exprParts a0 a1=some r→wP a0 a1 r
section
variable (R:wQ)(a0:ax)(a1:Int)
def pB(v0_5:Int)(v0_6:Nat):Option ((Int×Nat)⊕(Bool×Int×Nat)):=
 if (v0_6:Int)<(a0.Args.length:Int) then
  if v0_5≤a1 then
   (a0.Args[v0_6]?).bind fun (y3:ax)=>
   if IntKind.i64.wrap (a1 - v0_5)=a1 - v0_5 then
    (R.f_R_exprParts y3 (a1 - v0_5)).bind fun (r6:Int)=>
    if IntKind.i64.wrap (v0_5+r6)=v0_5+r6 then
     if IntKind.i64.wrap ((v0_6:Int)+1)=((v0_6+1:Nat):Int) then
      some (.inl (v0_5+r6,v0_6+1))
     else none
    else none
   else none
  else
   some (.inr (decide (v0_5≤a1),v0_5,v0_6))
 else
  some (.inr (false,v0_5,v0_6))
abbrev HF(v:(Int×Nat)):St:=⟨[(1,(I a1)),(2,(.p ⟨0,2⟩ 0)),(5,(I v.1)),(6,(I (v.2:Int)))],[(2,(dw a0))],H0⟩
abbrev zT(x:(Bool×Int×Nat)):aH×St:=((.ex 0),⟨[(1,(I a1)),(2,(.p ⟨0,2⟩ 0)),(5,(I x.2.1)),(6,(I (x.2.2:Int))),(16,(.b x.1))],[(2,(dw a0))],H0⟩)
theorem F6(hR:vf R)(a0:ax)(a1:Int)(v0_5:Int)(v0_6:Nat)(o:(Int×Nat)⊕(Bool×Int×Nat))(h:pB R a0 a1 v0_5 v0_6=some o):bu E0 Vf (HF a0 a1) (zT a0 a1) (v0_5,v0_6) o:=
 bH (bt<|ao (.i (a0.Args.length:Int))<|.or (mD<|.or (dG<|ao (.n v0_6)<|.ex fun (y3:ax)=>ao (.v (.a (dw y3)))<|ao (.i (a1 - v0_5))<|xI fun r6=>ao (.i (v0_5+r6))<|ao (.i ((v0_6+1:Nat):Int))<|.nil) (bf<|.nil)) (TA<|.nil)) fun L=>ai (rfl:Z0)<|ai (aC aL a0.Args)<|bL h (fun h1 h=>Da (av h1)<|bL h (fun h2 h=>nI (av h2)<|ai (rI v0_6)<|cb h fun y3 h4 h=>ai (oq aL h4 (dm _))<|aQ h fun w5 h=>ai w5<|aU h (hR.f_R_exprParts y3 (a1 - v0_5)) fun r6 h=>aQ h fun w8 h=>ai w8<|aQ h fun w9 h=>ai w9<|L h) (fun h2 h=>ai (aw h2)<|L h)) (fun h1 h=>cU (aw h1)<|ai (aw h1)<|ai ff<|L h)
def rJ:Option Int:=
 (lp (fun v=>pB R a0 a1 v.1 v.2) (1,0)).bind fun (x1:(Bool×Int×Nat))=>
 some x1.2.1
theorem EU(hR:vf R)(a0:ax)(a1:Int)(r:Int)(h:rJ R a0 a1=some r):wP a0 a1 r:=
 aW G53 (.ex fun (x1:(Bool×Int×Nat))=>ao (.bT (zT a0 a1 x1))<|.nil) fun L=>ai tt<|aU h (ei (fun v=>F6 R hR a0 a1 v.1 v.2) (1,0)) fun x1 h=>L h
def mq:Nat→wQ
 | 0=>⟨fun z0 z1=>none⟩
 | n+1=>⟨rJ (mq n)⟩
theorem A8:∀ n,vf (mq n)
 | 0=>⟨fun _ _ r h=>(by cases h)⟩
 | n+1=>⟨fun a0 a1 r h=>EU _ (A8 n) a0 a1 r h⟩
def wR:Option Int:=ev fun n=>(mq n).f_R_exprParts a0 a1
theorem F7(r:Int)(h:wR a0 a1=some r):wP a0 a1 r:=by
 obtain ⟨n,hn⟩:=uS h
 exact (A8 n).f_R_exprParts a0 a1 r hn
abbrev MD(a0:ax)(r:(List ax)):bm×HP:=(.ret (.l 37 (r.map aL)),H0)
abbrev yz(r:(List ax)):Prop:=call G Ω0 E0 54 [(.a (dw a0))] H0=some (MD a0 r)
end
structure yA where
 f_R_allParts:ax→Option (List ax)
structure wS(R:yA):Prop where
 f_R_allParts:∀ (a0:ax)(r:(List ax)),R.f_R_allParts a0=some r→yz a0 r
section
variable (R:yA)(a0:ax)
def rK(v0_3:(List ax))(v0_4:Nat):Option (((List ax)×Nat)⊕((List ax)×Nat×Bool)):=
 if (v0_4:Int)<(a0.Args.length:Int) then
  (a0.Args[v0_4]?).bind fun (y2:ax)=>
  (R.f_R_allParts y2).bind fun (r4:(List ax))=>
  if v0_3.length+r4.length≤1000000000 then
   if IntKind.i64.wrap ((v0_4:Int)+1)=((v0_4+1:Nat):Int) then
    some (.inl (v0_3++r4,v0_4+1))
   else none
  else none
 else
  some (.inr (v0_3,v0_4,decide ((v0_4:Int)<(a0.Args.length:Int))))
abbrev Jj(v:((List ax)×Nat)):St:=⟨[(1,(.p ⟨0,1⟩ 0)),(3,(.o 37 (v.1.map aL))),(4,(I (v.2:Int)))],[(1,(dw a0))],H0⟩
abbrev A9(x:((List ax)×Nat×Bool)):aH×St:=((.ex 0),⟨[(1,(.p ⟨0,1⟩ 0)),(3,(.o 37 (x.1.map aL))),(4,(I (x.2.1:Int))),(11,(.b x.2.2))],[(1,(dw a0))],H0⟩)
theorem HG(hR:wS R)(a0:ax)(v0_3:(List ax))(v0_4:Nat)(o:((List ax)×Nat)⊕((List ax)×Nat×Bool))(h:rK R a0 v0_3 v0_4=some o):bu E0 Vg (Jj a0) (A9 a0) (v0_3,v0_4) o:=
 bH (bt<|ao (.i (a0.Args.length:Int))<|.or (dG<|ao (.n v0_4)<|.ex fun (y2:ax)=>ao (.v (.a (dw y2)))<|.ex fun (r4:(List ax))=>ao (.v (.l 37 (r4.map aL)))<|ao (.l ((v0_3++r4).map aL))<|ao (.i ((v0_4+1:Nat):Int))<|.nil) (bf<|.nil)) fun L=>ai (rfl:Z0)<|ai (aC aL a0.Args)<|bL h (fun h1 h=>nI (av h1)<|ai (rI v0_4)<|cb h fun y2 h3 h=>ai (oq aL h3 (dm _))<|aU h (hR.f_R_allParts y2) fun r4 h=>ai ff<|aQ h fun h6 h=>ai ((jF aL (n:=3) (fun a=>by rw [dm];rfl) r4):(r4.map aL).all (fun e=>e.nc==3)=true)<|ai ((nr h6 (by decide)):((v0_3.map aL).length+(r4.map aL).length)*40≤140737488355328)<|ai ((nu h6):(v0_3.map aL).length+(r4.map aL).length≤maxLen)<|ai (dc.symm:v0_3.map aL++r4.map aL=(v0_3++r4).map aL)<|aQ h fun w7 h=>ai w7<|L h) (fun h1 h=>ai (aw h1)<|L h)
def sN:Option (List ax):=
 (lp (fun v=>rK R a0 v.1 v.2) ([a0],0)).bind fun (x1:((List ax)×Nat×Bool))=>
 some x1.1
theorem F8(hR:wS R)(a0:ax)(r:(List ax))(h:sN R a0=some r):yz a0 r:=
 aW G54 (bt<|ao (.l ([a0].map aL))<|.ex fun (x1:((List ax)×Nat×Bool))=>ao (.bT (A9 a0 x1))<|.nil) fun L=>et<|ai ((by simp only [cq,mW,dm]):[(.a (dw a0))]=[a0].map aL)<|aU h (ei (fun v=>HG R hR a0 v.1 v.2) ([a0],0)) fun x1 h=>L h
def nR:Nat→yA
 | 0=>⟨fun z0=>none⟩
 | n+1=>⟨sN (nR n)⟩
theorem Cg:∀ n,wS (nR n)
 | 0=>⟨fun _ r h=>(by cases h)⟩
 | n+1=>⟨fun a0 r h=>F8 _ (Cg n) a0 r h⟩
def ur:Option (List ax):=ev fun n=>(nR n).f_R_allParts a0
theorem zU(r:(List ax))(h:ur a0=some r):yz a0 r:=by
 obtain ⟨n,hn⟩:=uS h
 exact (Cg n).f_R_allParts a0 r hn
end
section
variable (a0:Int)(a1:Int)(a2:Int)
abbrev NJ(a0:Int)(a1:Int)(a2:Int)(r:Bool):bm×HP:=(.ret (.b r),H0)
def fH:Option Bool:=
 if a1≤a0 then
  some (decide (a0≤a2))
 else
  some false
theorem fY(r:Bool)(h:fH a0 a1 a2=some r):call G Ω0 E0 50 [(I a0),(I a1),(I a2)] H0=some (NJ a0 a1 a2 r):=
 aW G50 (.or (mD<|.nil) (LH<|.nil)) fun L=>bL h (fun h1 h=>Da (av h1)<|L h) (fun h1 h=>Da (aw h1)<|L h)
def F9:List cF:=(gF 27 0 7)::(gQ 28 27)::(gB 29 .leq 28 (kI 2))::(gM 30 29)::⟨some 31,.fa 2 7,some ⟨30,true⟩,false⟩::⟨some 32,.ld none 31,some ⟨30,true⟩,false⟩::⟨some 33,.ln false 32,some ⟨30,true⟩,false⟩::⟨some 34,.bo .neq false 33 (kI 0),some ⟨30,true⟩,false⟩::(gk 35 30 34 (.c (.b false)))::(gM 36 35)::⟨some 37,.fa 0 7,some ⟨36,false⟩,false⟩::⟨some 38,.ld none 37,some ⟨36,false⟩,false⟩::⟨some 39,.bo .gtr false 38 (kI 2),some ⟨36,false⟩,false⟩::⟨some 40,.mv 39,some ⟨36,false⟩,false⟩::⟨some 41,.fa 2 7,some ⟨40,true⟩,false⟩::⟨some 42,.ld none 41,some ⟨40,true⟩,false⟩::⟨some 43,.ln false 42,some ⟨40,true⟩,false⟩::⟨some 44,.bo .neq false 43 (kI 2),some ⟨40,true⟩,false⟩::⟨some 45,.pk 40 44 (.c (.b false)),some ⟨36,false⟩,false⟩::(gp 46 (.pk 36 (.c (.b true)) 45))::[]
def tq(a1:Int)(r4:(List ax))(v0_6:Nat)(y7:ax):Option Bool:=
 if y7.Kind≤2 then
  if ((y7.Args.length:Int) !=0)=true then
   some true
  else
   if 2<y7.Kind then
    some ((y7.Args.length:Int) !=2)
   else
    some false
 else
  if 2<y7.Kind then
   some ((y7.Args.length:Int) !=2)
  else
   some false
abbrev yB(r4:(List ax))(v0_6:Nat)(y7:ax)(x:Bool):St:=⟨[(1,(I a1)),(5,(.l 37 (r4.map aL))),(6,(I (v0_6:Int))),(7,(.p ⟨0,7⟩ 0)),(46,(.b x))],[(7,(dw y7))],H0⟩
theorem EV(r4:(List ax))(v0_6:Nat)(y7:ax)(x:Bool)(h:tq a1 r4 v0_6 y7=some x):oX G Ω0 E0 [1,5,6,7,46] [7] F9 ⟨[(1,(I a1)),(5,(.l 37 (r4.map aL))),(6,(I (v0_6:Int))),(7,(.p ⟨0,7⟩ 0))],[(7,(dw y7))],H0⟩=some (yB a1 r4 v0_6 y7 x):=
 oJ (bt<|.or (mD<|ao (.i (y7.Args.length:Int))<|dG<|.or (TB<|.nil) (pj<|.or (mD<|ao (.i (y7.Args.length:Int))<|LI<|.nil) (bf<|bf<|bf<|bf<|bt<|bf<|bf<|.nil))) (aaW<|.or (mD<|ao (.i (y7.Args.length:Int))<|LI<|.nil) (bf<|bf<|bf<|bf<|bt<|bf<|bf<|.nil))) fun L=>ai (rfl:Z0)<|bL h (fun h12 h=>LF (av h12)<|ai (aC aL y7.Args)<|lK (av h12)<|bz h (fun h13 h=>Tu h13<|L h) (fun h13 h=>Rd h13<|bL h (fun h14 h=>LF (av h14)<|ai (aC aL y7.Args)<|ai (g1 (av h14))<|ai (g0 h13)<|ai (av h14)<|ai h13<|L h) (fun h14 h=>cU (aw h14)<|ai (g1 (aw h14))<|ai (g0 h13)<|ai (aw h14)<|ai h13<|L h))) (fun h12 h=>cU (aw h12)<|lK (aw h12)<|ai hf<|ai hf<|ai (rfl:Z0)<|ai hf<|ai hf<|bL h (fun h13 h=>LF (av h13)<|ai (aC aL y7.Args)<|Db (av h13)<|L h) (fun h13 h=>cU (aw h13)<|Db (aw h13)<|L h))
def Ga:List cF:=(gF 47 0 7)::(gQ 48 47)::(gB 49 .eql 48 (kI 1))::(gM 50 49)::⟨some 51,.fa 1 7,some ⟨50,true⟩,false⟩::⟨some 52,.ld none 51,some ⟨50,true⟩,false⟩::⟨some 53,.ca 0 50 [52,(kI (-9999999)),(kI 9999999)],some ⟨50,true⟩,false⟩::⟨some 54,.no 53,some ⟨50,true⟩,false⟩::(gk 55 50 54 (.c (.b false)))::(gM 56 55)::⟨some 57,.fa 0 7,some ⟨56,false⟩,false⟩::⟨some 58,.ld none 57,some ⟨56,false⟩,false⟩::⟨some 59,.bo .gtr false 58 (kI 2),some ⟨56,false⟩,false⟩::⟨some 60,.mv 59,some ⟨56,false⟩,false⟩::⟨some 61,.fa 1 7,some ⟨60,true⟩,false⟩::⟨some 62,.ld none 61,some ⟨60,true⟩,false⟩::⟨some 63,.bo .neq false 62 (kI 0),some ⟨60,true⟩,false⟩::⟨some 64,.pk 60 63 (.c (.b false)),some ⟨56,false⟩,false⟩::(gp 65 (.pk 56 (.c (.b true)) 64))::[]
def tr(a1:Int)(r4:(List ax))(v0_6:Nat)(y7:ax):Option Bool:=
 if (y7.Kind==1)=true then
  (fH y7.N (-9999999) 9999999).bind fun (r16:Bool)=>
  if r16=true then
   if 2<y7.Kind then
    some (y7.N !=0)
   else
    some false
  else
   some true
 else
  if 2<y7.Kind then
   some (y7.N !=0)
  else
   some false
abbrev yC(r4:(List ax))(v0_6:Nat)(y7:ax)(x:Bool):St:=⟨[(1,(I a1)),(5,(.l 37 (r4.map aL))),(6,(I (v0_6:Int))),(7,(.p ⟨0,7⟩ 0)),(65,(.b x))],[(7,(dw y7))],H0⟩
theorem EW(r4:(List ax))(v0_6:Nat)(y7:ax)(x:Bool)(h:tr a1 r4 v0_6 y7=some x):oX G Ω0 E0 [1,5,6,7,65] [7] Ga ⟨[(1,(I a1)),(5,(.l 37 (r4.map aL))),(6,(I (v0_6:Int))),(7,(.p ⟨0,7⟩ 0))],[(7,(dw y7))],H0⟩=some (yC a1 r4 v0_6 y7 x):=
 oJ (bt<|.or (mD<|xB fun r16=>dG<|.or (pj<|.or (Re<|.nil) (PF<|.nil)) (TB<|.nil)) (aaW<|.or (Re<|.nil) (PF<|.nil))) fun L=>ai (rfl:Z0)<|bz h (fun h15 h=>LF h15<|aU h (fY y7.N (-9999999) 9999999) fun r16 h=>lK h15<|bz h (fun h18 h=>Rd (ak not h18)<|bL h (fun h19 h=>LF (av h19)<|ai (g0 (ak not h18))<|ai (av h19)<|ai (ak not h18)<|L h) (fun h19 h=>cU (aw h19)<|ai (g0 (ak not h18))<|ai (aw h19)<|ai (ak not h18)<|L h)) (fun h18 h=>Tu (ak not h18)<|L h)) (fun h15 h=>cU h15<|lK h15<|ai hf<|ai hf<|ai (rfl:Z0)<|ai hf<|ai hf<|bL h (fun h16 h=>Ai (av h16)<|ai (rfl:Z0)<|Db (av h16)<|L h) (fun h16 h=>cU (aw h16)<|ai hf<|ai (aw h16)<|ai ff<|L h))
def iM(r4:(List ax))(v0_6:Nat):Option (Nat⊕(Unit⊕(Unit⊕(Unit⊕(Unit⊕(Nat×Bool)))))):=
 if (v0_6:Int)<(r4.length:Int) then
  (r4[v0_6]?).bind fun (y7:ax)=>
  (fH y7.Kind 1 7).bind fun (r9:Bool)=>
  if r9=true then
   (tq a1 r4 v0_6 y7).bind fun (x12:Bool)=>
   if x12=true then
    some (.inr (.inl ()))
   else
    (tr a1 r4 v0_6 y7).bind fun (x15:Bool)=>
    if x15=true then
     some (.inr (.inr (.inl ())))
    else
     if (y7.Kind==2)=true then
      if IntKind.i64.wrap (a1 - 1)=a1 - 1 then
       (fH y7.N 0 (a1 - 1)).bind fun (r20:Bool)=>
       if r20=true then
        if IntKind.i64.wrap ((v0_6:Int)+1)=((v0_6+1:Nat):Int) then
         some (.inl (v0_6+1))
        else none
       else
        some (.inr (.inr (.inr (.inl ()))))
      else none
     else
      if IntKind.i64.wrap ((v0_6:Int)+1)=((v0_6+1:Nat):Int) then
       some (.inl (v0_6+1))
      else none
  else
   some (.inr (.inr (.inr (.inr (.inl ())))))
 else
  some (.inr (.inr (.inr (.inr (.inr (v0_6,decide ((v0_6:Int)<(r4.length:Int))))))))
abbrev HH(r4:(List ax))(v:Nat):St:=⟨[(1,(I a1)),(5,(.l 37 (r4.map aL))),(6,(I (v:Int)))],[],H0⟩
abbrev kd(r4:(List ax))(x:(Unit⊕(Unit⊕(Unit⊕(Unit⊕(Nat×Bool)))))):aH×St:=match x with | .inl ()=>(.ret,⟨[(4,(I 1))],[],H0⟩) | .inr (.inl ())=>(.ret,⟨[(4,(I 3))],[],H0⟩) | .inr (.inr (.inl ()))=>(.ret,⟨[(4,(I 5))],[],H0⟩) | .inr (.inr (.inr (.inl ())))=>(.ret,⟨[(4,(I 7))],[],H0⟩) | .inr (.inr (.inr (.inr (z1,z2))))=>((.ex 0),⟨[(1,(I a1)),(5,(.l 37 (r4.map aL))),(6,(I (z1:Int))),(16,(.b z2))],[],H0⟩)
theorem Gb(r4:(List ax))(v0_6:Nat)(o:Nat⊕(Unit⊕(Unit⊕(Unit⊕(Unit⊕(Nat×Bool))))))(h:iM a1 r4 v0_6=some o):bu E0 Uy (HH a1 r4) (kd a1 r4) v0_6 o:=
 bH (ao (.i (r4.length:Int))<|.or (bt<|ao (.n v0_6)<|.ex fun (y7:ax)=>ao (.v (.a (dw y7)))<|eF<|xB fun r9=>.or (bf<|.jb (some 27) 19<|.ex fun (x12:Bool)=>ao (.jn (yB a1 r4 v0_6 y7 x12))<|oN (.jb (some 47) 18<|.ex fun (x15:Bool)=>ao (.jn (yC a1 r4 v0_6 y7 x15))<|oN (bt<|.or (pj<|ao (.i (a1 - 1))<|bt<|xB fun r20=>dG<|.or (bf<|ao (.i ((v0_6+1:Nat):Int))<|.nil) (bt<|.nil)) (bf<|bf<|bf<|bf<|bf<|bf<|bf<|bf<|ao (.i ((v0_6+1:Nat):Int))<|.nil)))) (bt<|.nil)) (bf<|.nil)) fun L=>ai (aC aL r4)<|bL h (fun h6 h=>ai (av h6)<|ai (rI v0_6)<|cb h fun y7 h8 h=>ai (oq aL h8 (dm _))<|JL<|aU h (fY y7.Kind 1 7) fun r9 h=>bz h (fun h11 h=>ai (ak not h11)<|aU h (EV a1 r4 v0_6 y7) fun x12 h=>bz h (fun h14 h=>ai h14<|L h) (fun h14 h=>ai h14<|aU h (EW a1 r4 v0_6 y7) fun x15 h=>bz h (fun h17 h=>ai h17<|L h) (fun h17 h=>nI h17<|bz h (fun h18 h=>Ai h18<|ai (rfl:Z0)<|Ai h18<|aQ h fun w19 h=>ai w19<|ai (g1 h18)<|aU h (fY y7.N 0 (a1 - 1)) fun r20 h=>lK h18<|bz h (fun h22 h=>ai (ak not h22)<|aQ h fun w23 h=>ai w23<|L h) (fun h22 h=>ai (ak not h22)<|L h)) (fun h18 h=>cU h18<|cU h18<|ai h18<|ai ff<|aQ h fun w19 h=>ai w19<|L h)))) (fun h11 h=>ai (ak not h11)<|L h)) (fun h6 h=>ai (aw h6)<|L h)
end
section
variable (a0:ax)(a1:Int)
abbrev KC(a0:ax)(a1:Int)(r:Int):bm×HP:=(.ret (I r),H0)
def eM:Option Int:=
 (wR a0 15).bind fun (r1:Int)=>
 if 15<r1 then
  some 2
 else
  (ur a0).bind fun (r4:(List ax))=>
  (lp (fun v=>iM a1 r4 v) 0).bind fun (x6:(Unit⊕(Unit⊕(Unit⊕(Unit⊕(Nat×Bool))))))=>match x6 with
  | .inl ya_7=>
   some 1
  | .inr (.inl yb_7)=>
   some 3
  | .inr (.inr (.inl yc_7))=>
   some 5
  | .inr (.inr (.inr (.inl yd_7)))=>
   some 7
  | .inr (.inr (.inr (.inr ye_7)))=>
   some 0
theorem oE(r:Int)(h:eM a0 a1=some r):call G Ω0 E0 12 [(.a (dw a0)),(I a1)] H0=some (KC a0 a1 r):=
 aW G12 (bt<|xI fun r1=>oN (bt<|.ex fun (r4:(List ax))=>ao (.v (.l 37 (r4.map aL)))<|.or (.ex fun (ya_7:Unit)=>ao (.bT (kd a1 r4 (.inl ya_7)))<|.nil) (.or (.ex fun (yb_7:Unit)=>ao (.bT (kd a1 r4 (.inr (.inl yb_7))))<|.nil) (.or (.ex fun (yc_7:Unit)=>ao (.bT (kd a1 r4 (.inr (.inr (.inl yc_7)))))<|.nil) (.or (.ex fun (yd_7:Unit)=>ao (.bT (kd a1 r4 (.inr (.inr (.inr (.inl yd_7))))))<|.nil) (.ex fun (ye_7:(Nat×Bool))=>ao (.bT (kd a1 r4 (.inr (.inr (.inr (.inr ye_7))))))<|.nil)))))) fun L=>et<|aU h (F7 a0 15) fun r1 h=>bL h (fun h3 h=>ai (av h3)<|L h) (fun h3 h=>nI (aw h3)<|aU h (zU a0) fun r4 h=>VD h (ei (Gb a1 r4) 0) (fun ya_7 h=>L h) (fun yb_7 h=>L h) (fun yc_7 h=>L h) (fun yd_7 h=>L h) (fun ye_7 h=>L h))
end
section
variable (a0:Int)
abbrev P0(a0:Int)(r:Bool):bm×HP:=(.ret (.b r),H0)
def BY:Option Bool:=
 (fH a0 1 3).bind fun (r1:Bool)=>
 if r1=true then
  some true
 else
  if (a0==5)=true then
   some true
  else
   some (a0==6)
theorem KD(r:Bool)(h:BY a0=some r):call G Ω0 E0 115 [(I a0)] H0=some (P0 a0 r):=
 aW aiI (xB fun r1=>.or (bf<|bf<|bt<|bf<|bf<|bt<|.nil) (bt<|bt<|bf<|.or (bf<|bf<|bt<|.nil) (bt<|bt<|bf<|.nil))) fun L=>aU h (fY a0 1 3) fun r1 h=>bz h (fun h3 h=>ai (g0 h3)<|lJ h3<|ju<|ai tt<|L h) (fun h3 h=>PC h3<|bz h (fun h4 h=>PC h4<|L h) (fun h4 h=>PC h4<|L h))
abbrev NK(a0:Int)(r:Bool):bm×HP:=(.ret (.b r),H0)
def Aq:Option Bool:=
 if (a0==1)=true then
  some true
 else
  (fH a0 4 8).bind fun (r2:Bool)=>
  some r2
theorem Jk(r:Bool)(h:Aq a0=some r):call G Ω0 E0 77 [(I a0)] H0=some (NK a0 r):=
 aW G77 (.or (bf<|bf<|bt<|.nil) (dG<|xB fun r2=>bf<|.nil)) fun L=>bz h (fun h1 h=>PC h1<|L h) (fun h1 h=>Bv h1<|aU h (fY a0 4 8) fun r2 h=>ai h1<|L h)
end
end
variable [Lp]
attribute [local simp] gp execOp okB ja er iG tX mg jt iZ St.end_ St.jZ List.filter eH vQ view C0 Ok Rv Hc plain
theorem zV(n x y:Int):fH n x y=some (decide (x≤n∧n≤y)):=by
 unfold fH
 by_cases h:x≤n<;>simp [h]
theorem Ba(a b c:Int):fH a b c=some (decide (b≤a∧a≤c)):=zV a b c
theorem RW{k:Int}(h:1≤k∧k≤8):BY k=some (ey k):=by
 unfold BY ey
 rw [Ba,ae]
 by_cases h1:1≤k∧k≤3
 ·rw [aa (av h1)];congr 1;symm;simp;omega
 ·rw [ab (by simpa using h1)]
  by_cases h5:k=5
  ·simp [h5]
  ·rw [ab (by simpa using h5)];congr 1
   rw [lH];simp;omega
theorem P1{k:Int}(h:1≤k∧k≤8):Aq k=some (eu k):=by
 unfold Aq eu
 by_cases h1:k=1
 ·simp [h1]
 ·rw [ab (by simpa using h1),Ba,ae];congr 1
  rw [lH];simp;omega
def pa(p:Program)(i k:Int):Int:=if k=2 then i else if k=3 then p.Ins.length else if k=4 then p.Outs.length else 0
noncomputable def ME(p:Program)(i:Int)(s:Stmt):Option Int:=
 if ¬(1≤s.Kind∧s.Kind≤8) then some 7
 else if ¬(p.Vars.length≤1000000∧-1000000≤pa p i s.Kind∧pa p i s.Kind≤1000000) then none
 else IS (fun e=>eM e p.Vars.length) p i s
mutual
noncomputable def OH(p:Program)(i:Int):Stmt→Option Int
 | ⟨k,v,o,e,args,th,el⟩=>(ME p i ⟨k,v,o,e,args,th,el⟩).bind fun x=>if x≠0 then some x else
   (if th.length≤9223372036854775807 then Fg p i th else none).bind fun x=>if x≠0 then some x else if el.length≤9223372036854775807 then Fg p i el else none
noncomputable def Fg(p:Program)(i:Int):List Stmt→Option Int
 | []=>some 0
 | s::r=>(OH p i s).bind fun x=>if x≠0 then some x else Fg p i r
end
noncomputable def cH(p:Program)(i:Int)(l:List Stmt):Option Int:=if l.length≤9223372036854775807 then Fg p i l else none
theorem abY(p:Program)(i:Int)(s:Stmt):OH p i s=(ME p i s).bind fun x=>if x≠0 then some x else
   (cH p i s.Then).bind fun x=>if x≠0 then some x else cH p i s.Else:=by cases s;rw [OH];rfl
section
variable (p:Program)(i:Int)(l:List Stmt)
abbrev tR(p:Program)(i:Int)(l:List Stmt)(k:Nat)(s:Stmt)(xs:List (Nat×AV)):St:=⟨(1,I i)::(2,.l 92 (l.map aV))::(3,.p ⟨0,3⟩ 0)::(7,I k)::(8,.p ⟨0,8⟩ 0)::xs,[(3,ar p),(8,bC s)],H0⟩
abbrev aR(p:Program)(i:Int)(l:List Stmt)(k:Nat)(s:Stmt)(e:Int)(n:Nat):St:=⟨[(1,I i),(2,.l 92 (l.map aV)),(3,.p ⟨0,3⟩ 0),(7,I k),(8,.p ⟨0,8⟩ 0),(12,I e),(13,I n)],[(3,ar p),(8,bC s)],H0⟩
set_option maxHeartbeats 8000000 in
theorem RX(k:Nat)(s:Stmt):∀ (rest:List ax)(n:Nat)(e r:Int),(e=0→s.Args.length≤9223372036854775807)→s.Args.drop n=rest→(if e≠0 then some e else ug (fun e=>eM e p.Vars.length) rest)=some r→
  ∃ z,fL G Ω0 E0 U6 (aR p i l k s e n)=some (.ex 2,z)∧z.aN [1,2,3,7,8,12] [3,8]=(aR p i l k s r n).aN [1,2,3,7,8,12] [3,8]
 | [],n,e,r,hl,hd,h=>by
  have hk:¬((n:Int)<(s.Args.length:Int)):=by
   have:=eo.1 hd;omega
  obtain rfl:e=r:=by
   by_cases h0:e=0
   ·rw [ab (by simp [h0])] at h
    exact h0.trans (ad h)
   ·rw [aa h0] at h;exact ad h
  apply Exists.intro
  apply And.intro
  ·refine cT (r:=(.ex 2,?_)) ?_ (by simp)
   rotate_left
   ·show run G Ω0 _ GH (aR p i l k s e n)=_
    apply ig
    apply aj (by simp [hk];rfl)
    apply bQ (by simp [hk])
    exact du _ _ _
  ·simp
 | a::rest,n,e,r,hl,hd,h=>by
  have hlt:n<s.Args.length:=by
   have h1:=ak List.length hd
   simp only [hZ,bD] at h1
   omega
  have hg:s.Args[n]? =some a:=by
   have:=ak (fun l=>l[0]?) hd
   simpa using this
  have hd2:s.Args.drop (n+1)=rest:=by
   have:=ak List.tail hd
   simpa using this
  by_cases h0:e=0
  ·subst h0
   have hl:=hl rfl
   have hw:IntKind.i64.wrap ((n:Int)+1)=(n:Int)+1:=wrap64 (by omega) (by omega)
   rw [ab (by simp)] at h
   obtain ⟨x,hx,h⟩:=af.1 h
   have hX:=bM (E:=E0) (oE a p.Vars.length x hx) (by simp) (by simp)
   obtain ⟨z,h1,h2⟩:=RX k s rest (n+1) x r (fun _=>hl) hd2 h
   refine ⟨z,?_,h2⟩
   rw [cP]
   exact h1
   show (run G Ω0 _ GH (aR p i l k s 0 n)).bind _=_
   have body:run G Ω0 E0 GH (aR p i l k s 0 n)=some (.nrm,aR p i l k s x (n+1)):=by
    apply Me
    apply bq
    apply bq
    apply cy (by simp [hlt];rfl)
    apply iL true (by simp [hlt])
    ·intro _
     apply mH
     apply ov
     apply bq
     apply zL
     apply cy (by simp [-aS,hg,dm,hX];rfl)
     refine cy (st1:=aR p i l k s x (n+1)) ?_ rfl
     simp [hw]
    ·intro hq;cases hq
   rw [body];rfl
  ·rw [aa h0] at h
   obtain rfl:=ad h
   apply Exists.intro
   apply And.intro
   ·refine cT (r:=(.ex 2,?_)) ?_ (by simp)
    rotate_left
    ·show run G Ω0 _ GH (aR p i l k s e n)=_
     apply ig
     apply aj (by simp [hlt,h0];rfl)
     apply bQ (by simp [h0])
     exact du _ _ _
   ·simp
theorem WJ{j:Nat}(h:1≤j∧j≤8):([I 0,I 0,I i,I p.Ins.length,I p.Outs.length,I 0,I 0,I 0,I 0]:List AV)[j]? =some (I (pa p i j)):=by
 obtain ⟨h1,h2⟩:=h
 match j,h1,h2 with
 | 1,_,_=>rfl
 | 2,_,_=>rfl
 | 3,_,_=>rfl
 | 4,_,_=>rfl
 | 5,_,_=>rfl
 | 6,_,_=>rfl
 | 7,_,_=>rfl
 | 8,_,_=>rfl
section
variable {p i l}{k:Nat}{s:Stmt}{y:Int}{P:aH×St→Prop}(hr:y≠0→P (.ret,⟨[(6,I y)],[],H0⟩))(hn:y=0→P (.nrm,⟨[(1,I i),(2,.l 92 (l.map aV)),(3,.p ⟨0,3⟩ 0),(7,I k),(12,I 0),(197,.b false)],[(3,ar p)],H0⟩))
include hr hn
theorem RY{st:St}(hst:st.aN [1,2,3,7,12] [3]=⟨[(1,I i),(2,.l 92 (l.map aV)),(3,.p ⟨0,3⟩ 0),(7,I k),(12,I y)],[(3,ar p)],H0⟩):Nx E0 U7 st P:=by
 apply ov
 rw [hst]
 apply bq
 by_cases h0:y=0
 ·subst h0
  apply cy (by simp;rfl)
  refine iL false (by simp) (fun hq=>by cases hq) (fun _=>?_)
  exact mH (hn rfl)
 ·apply cy (by simp [h0];rfl)
  refine iL true (by simp [h0]) (fun _=>?_) (fun hq=>by cases hq)
  apply bq
  apply cy (by simp;rfl)
  exact nv (hr h0)
variable (hrec:∀ t r,(t=s.Then∨t=s.Else)→cH p i t=some r→call G Ω0 E0 51 [.a (ar p),I i,.l 92 (t.map aV)] H0=some (.ret (I r),H0))
include hrec
theorem RZ{st:St}{x:Int}(hst:st.aN [1,2,3,7,8,12] [3,8]=tR p i l k s [(12,I x)])(h:(if x≠0 then some x else cH p i s.Else)=some y):Nx E0 U8 st P:=by
 apply ov
 rw [hst]
 apply bq
 apply bq
 by_cases h0:x=0
 ·subst h0
  rw [ab (by simp)] at h
  have hT:=bM (E:=E0) (hrec s.Else y (.inr rfl) h) (by simp) (by simp)
  apply cy (by simp;rfl)
  refine iL true (by simp) (fun _=>?_) (fun hq=>by cases hq)
  apply cy (by simp [-aS,hT];rfl)
  exact RY hr hn (by simp)
 ·rw [aa h0] at h
  obtain rfl:=ad h
  apply cy (by simp [h0];rfl)
  refine iL false (by simp [h0]) (fun hq=>by cases hq) (fun _=>?_)
  apply mH
  exact RY hr hn (by simp)
theorem abZ{st:St}{x:Int}(hst:st.aN [1,2,3,7,8,12] [3,8]=tR p i l k s [(12,I x)])(h:(if x≠0 then some x else (cH p i s.Then).bind fun x=>if x≠0 then some x else cH p i s.Else)=some y):Nx E0 U9 st P:=by
 apply ov
 rw [hst]
 apply bq
 apply bq
 by_cases h0:x=0
 ·subst h0
  rw [ab (by simp)] at h
  obtain ⟨x,hx,h⟩:=af.1 h
  have hT:=bM (E:=E0) (hrec s.Then x (.inl rfl) hx) (by simp) (by simp)
  apply cy (by simp;rfl)
  refine iL true (by simp) (fun _=>?_) (fun hq=>by cases hq)
  apply cy (by simp [-aS,hT];rfl)
  exact RZ hr hn hrec (by simp) h
 ·rw [aa h0] at h
  obtain rfl:=ad h
  apply cy (by simp [h0];rfl)
  refine iL false (by simp [h0]) (fun hq=>by cases hq) (fun _=>?_)
  apply mH
  exact RZ hr hn hrec (x:=x) (by simp) (aa h0)
theorem R0{st:St}{e x:Int}(hst:st.aN [1,2,3,7,8,12] [3,8]=tR p i l k s [(12,I e)])(hl:e=0→s.Args.length≤9223372036854775807)(he:(if e≠0 then some e else ug (fun e=>eM e p.Vars.length) s.Args)=some x)
  (h:(if x≠0 then some x else (cH p i s.Then).bind fun x=>if x≠0 then some x else cH p i s.Else)=some y):Nx E0 Va st P:=by
 obtain ⟨z,z1,z2⟩:=RX p i l k s s.Args 0 e x hl rfl he
 apply ov
 rw [hst]
 apply bq
 apply bq
 apply cy (st1:=aR p i l k s e 0) (by simp)
 apply zL
 refine PO z1 ?_
 refine Eq.mpr (aa rfl) ?_
 exact abZ hr hn hrec (by rw [z2];simp) h
end
def MF:AC→AC
 | .sq x _=>x
 | x=>x
def acR:AC→AC
 | .sq _ y=>y
 | x=>x
structure Cs(s:Stmt):Prop where
 b:∀ a b c:Int,∀ st,aS (call G Ω0) Ω0 E0 st 0 50 [I a,I b,I c]=some (.b (decide (b≤a∧a≤c)),st)
 v:∀ st,aS (call G Ω0) Ω0 E0 st 0 115 [I s.Kind]=some (.b (ey s.Kind),st)
 e:∀ st,aS (call G Ω0) Ω0 E0 st 0 77 [I s.Kind]=some (.b (eu s.Kind),st)
 o:∀ st,aS (call G Ω0) Ω0 E0 st 0 50 [I s.Kind,I 2,I 4]=some (.b (fO s.Kind),st)
set_option maxHeartbeats 16000000 in
theorem ajm{k:Nat}{s:Stmt}(hbd:p.Vars.length≤1000000∧-1000000≤pa p i s.Kind∧pa p i s.Kind≤1000000)(C:Cs s):run G Ω0 E0 (MF (MF (acR Vc))) (tR p i l k s [(9,I s.Kind),(10,I (pa p i s.Kind))])=some (.nrm,tR p i l k s [(9,I s.Kind),(63,.b (sG p i s))]):=by
 obtain ⟨hB,hV,hE,hO⟩:=C
 have w1:IntKind.i64.wrap ((p.Vars.length:Int) - 1)=(p.Vars.length:Int) - 1:=wrap64 (by omega) (by omega)
 have w2:IntKind.i64.wrap (pa p i s.Kind - 1)=pa p i s.Kind - 1:=wrap64 (by omega) (by omega)
 have b1:(!decide (0≤s.Var∧s.Var≤(p.Vars.length:Int) - 1))=(decide (s.Var<0)||decide ((p.Vars.length:Int)≤s.Var)):=by
  rw [lH];simp;omega
 have b2:fO s.Kind=true→(!decide (0≤s.Other∧s.Other≤pa p i s.Kind - 1))=(decide (s.Other<0)||decide (gI p i s.Kind≤s.Other)):=by
  intro ho
  have e:pa p i s.Kind=gI p i s.Kind:=by
   have ho:2≤s.Kind∧s.Kind≤4:=by simpa [fO] using ho
   unfold pa gI
   by_cases e2:s.Kind=2
   ·rw [aa e2,aa e2]
   ·by_cases e3:s.Kind=3
    ·rw [ab e2,ab e2,aa e3,aa e3]
    ·rw [ab e2,ab e2,ab e3,ab e3,aa (by omega)]
  rw [e,lH];simp;omega
 apply PM rfl
 refine qy (v1:=tR p i l k s [(9,I s.Kind),(10,I (pa p i s.Kind)),(52,.b (ey s.Kind&&(decide (s.Var<0)||decide ((p.Vars.length:Int)≤s.Var))))]) 13 [1,2,3,7,8,9,10,52] ?_ ?_
 ·rw [←b1]
  cases hv:ey s.Kind<;>((repeat refine s9 (by simp [-aS,hV,hv,hB,w1];rfl) ?_);exact ta (by simp))
 unfold sG
 generalize (ey s.Kind&&(decide (s.Var<0)||decide ((p.Vars.length:Int)≤s.Var)))=c0
 refine L9 ?_ (by simp)
 cases ho:fO s.Kind
 ·cases c0<;>((repeat refine s9 (by simp [-aS,hO,ho];rfl) ?_);exact ta (by simp))
 ·rw [←b2 ho]
  cases c0<;>((repeat refine s9 (by simp [-aS,hO,ho,hB,w2];rfl) ?_);exact ta (by simp))
set_option maxHeartbeats 16000000 in
theorem ag2{k:Nat}{s:Stmt}(C:Cs s):run G Ω0 E0 (MF (MF (acR Pc))) (tR p i l k s [(9,I s.Kind),(11,.b (kB s))])=some (.nrm,tR p i l k s [(9,I s.Kind),(137,.b (xr s))]):=by
 obtain ⟨hB,hV,hE,hO⟩:=C
 apply PM rfl
 refine qy (v1:=tR p i l k s [(9,I s.Kind),(11,.b (kB s)),(89,.b (!ey s.Kind&&decide (s.Var≠0)))]) 9 [1,2,3,7,8,9,11,89] ?_ ?_
 ·cases hv:ey s.Kind<;>by_cases q:s.Var=0<;>((repeat refine s9 (by simp [-aS,hV,hv,q];rfl) ?_);exact ta (by simp [q]))
 unfold xr
 generalize (!ey s.Kind&&decide (s.Var≠0))=c1
 refine qy (v1:=tR p i l k s [(9,I s.Kind),(11,.b (kB s)),(99,.b (c1||(!fO s.Kind&&decide (s.Other≠0))))]) 10 [1,2,3,7,8,9,11,99] ?_ ?_
 ·cases c1<;>cases ho:fO s.Kind<;>by_cases q:s.Other=0<;>((repeat refine s9 (by simp [-aS,hO,ho,q];rfl) ?_);exact ta (by simp [q]))
 generalize (c1||(!fO s.Kind&&decide (s.Other≠0)))=c2
 refine qy (v1:=tR p i l k s [(9,I s.Kind),(11,.b (kB s)),(108,.b (c2||(!eu s.Kind&&!kB s)))]) 9 [1,2,3,7,8,9,11,108] ?_ ?_
 ·cases c2<;>cases he:eu s.Kind<;>cases hb:kB s<;>((repeat refine s9 (by simp [-aS,hE,he,hb];rfl) ?_);exact ta (by simp [hb]))
 generalize (c2||(!eu s.Kind&&!kB s))=c3
 refine qy (v1:=tR p i l k s [(9,I s.Kind),(118,.b (c3||(s.Kind !=2&&decide (0<s.Args.length))))]) 10 [1,2,3,7,8,9,118] ?_ ?_
 ·cases c3<;>cases q:(s.Kind !=2)<;>((repeat refine s9 (by simp [-aS,q];rfl) ?_);exact ta (by simp [q]))
 generalize (c3||(s.Kind !=2&&decide (0<s.Args.length)))=c4
 refine qy (v1:=tR p i l k s [(9,I s.Kind),(128,.b (c4||(!decide (7≤s.Kind)&&decide (0<s.Then.length))))]) 10 [1,2,3,7,8,9,128] ?_ ?_
 ·have q7:decide (s.Kind<7)=!decide (7≤s.Kind):=by rw [lH];simp
  cases c4<;>cases q:decide (7≤s.Kind)<;>((repeat refine s9 (by simp [-aS,q,q7];rfl) ?_);exact ta (by simp [q]))
 generalize (c4||(!decide (7≤s.Kind)&&decide (0<s.Then.length)))=c5
 refine L9 ?_ (by simp)
 cases c5<;>cases q:(s.Kind !=7)<;>((repeat refine s9 (by simp [-aS,q];rfl) ?_);exact ta (by simp [q]))
set_option maxHeartbeats 16000000 in
theorem ag3{k:Nat}{s:Stmt}{b:Bool}(hn:sG p i s=false)(hb:(if s.Kind=2 then (p.Funcs[s.Other.toNat]?).map fun f=>decide (s.Args.length≠f.Params.length) else some false)=some b):run G Ω0 E0 (MF (MF Vb)) (tR p i l k s [(9,I s.Kind)])=some (.nrm,tR p i l k s [(9,I s.Kind),(153,.b b)]):=by
 apply PN rfl (by simp)
 refine Mc ?_ (by simp)
 cases q:(s.Kind==2)
 ·rw [ab (ne_of_beq_false q)] at hb
  obtain rfl:=ad hb
  ((repeat refine yj (by simp [-aS,q];rfl) ?_);exact yk (by simp [q]))
 ·have q1:=eq_of_beq q
  rw [aa q1] at hb
  obtain ⟨f,hf1,hf2⟩:=dN.1 hb
  have hnn:¬s.Other<0:=fun hlt=>by simp [sG,fO,q1,hlt] at hn
  obtain ⟨j,hj⟩:∃ j:Nat,s.Other=j:=⟨s.Other.toNat,by omega⟩
  rw [hj] at hf1
  have hf1:p.Funcs[j]? =some f:=by simpa using hf1
  subst hf2
  have q2:((s.Args.length:Int) !=(f.Params.length:Int))=decide (s.Args.length≠f.Params.length):=by
   by_cases q3:s.Args.length=f.Params.length
   ·simp [q3]
   ·rw [av q3]
    simp only [tA,ne_eq]
    omega
  ((repeat refine yj (by simp [-aS,q,hj,hf1,ct];rfl) ?_);exact yk (by simp [q,q2]))
theorem ajn{k:Nat}{s:Stmt} : run G Ω0 E0 (MF Pc) (tR p i l k s [(9,I s.Kind)])=some (.nrm,tR p i l k s [(9,I s.Kind),(11,.b (kB s))]):=by
 show run G Ω0 E0 (.rg _ _ _ _) _=_
 by_cases a1:s.Expr.Kind=0<;>by_cases a2:s.Expr.N=0<;>by_cases a3:s.Expr.Args.length=0<;>simp [a1,a2,a3,kB]
abbrev sR(k:Nat):St:=⟨[(1,I i),(2,.l 92 (l.map aV)),(3,.p ⟨0,3⟩ 0),(7,I k)],[(3,ar p)],H0⟩
set_option maxHeartbeats 16000000 in
theorem WK{k:Nat}(hk:k<l.length)(hl:l.length≤9223372036854775807){s:Stmt}(hs:l[k]? =some s)
  (hrec:∀ t r,(t=s.Then∨t=s.Else)→cH p i t=some r→call G Ω0 E0 51 [.a (ar p),I i,.l 92 (t.map aV)] H0=some (.ret (I r),H0)) {y:Int} (h:OH p i s=some y) :
  Nx E0 K5 (sR p i l k) fun q=>(y≠0∧q=(.ret,⟨[(6,I y)],[],H0⟩))∨(y=0∧q=(.nrm,sR p i l (k+1))):=by
 have hw:IntKind.i64.wrap ((k:Int)+1)=(k:Int)+1:=wrap64 (by omega) (by omega)
 have hB:∀ a b c:Int,∀ st,aS (call G Ω0) Ω0 E0 st 0 50 [I a,I b,I c]=some (.b (decide (b≤a∧a≤c)),st):=fun a b c=>bM (E:=E0) (fY a b c _ (zV a b c)) (by simp) (by simp)
 rw [abY] at h
 obtain ⟨x,hx,h⟩:=af.1 h
 unfold ME at hx
 apply bq
 apply bq
 apply cy (by simp [hk];rfl)
 refine iL true (by simp [hk]) (fun _=>?_) (fun hq=>by cases hq)
 apply mH
 apply ov
 apply bq
 apply zL
 apply bq
 apply cy (st1:=tR p i l k s []) (by simp [hs,ie])
 apply bq
 apply cy (st1:=tR p i l k s [(9,I s.Kind)]) (by simp)
 apply bq
 apply bq
 apply cy (st1:=tR p i l k s [(9,I s.Kind),(28,.b (!decide (1≤s.Kind∧s.Kind≤8)))]) (by simp [-aS,hB])
 apply iL (!decide (1≤s.Kind∧s.Kind≤8)) (by simp)
 ·intro hq
  have hq:¬(1≤s.Kind∧s.Kind≤8):=zb ((gu _).mp hq)
  rw [aa hq] at hx
  obtain rfl:=ad hx
  rw [aa (by decide)] at h
  obtain rfl:=ad h
  apply bq
  apply cy (by simp;rfl)
  exact nv (.inl ⟨by decide,rfl⟩)
 intro hq
 have hq:1≤s.Kind∧s.Kind≤8:=ob ((Bool.not_eq_false' _).mp hq)
 rw [ab (fun hn=>hn hq)] at hx
 by_cases hbd:p.Vars.length≤1000000∧-1000000≤pa p i s.Kind∧pa p i s.Kind≤1000000
 case neg=>rw [aa hbd] at hx;cases hx
 rw [ab (fun hn=>hn hbd)] at hx
 unfold IS at hx
 have hV:∀ st,aS (call G Ω0) Ω0 E0 st 0 115 [I s.Kind]=some (.b (ey s.Kind),st):=bM (E:=E0) (KD s.Kind _ (RW hq)) (by simp) (by simp)
 have hE:∀ st,aS (call G Ω0) Ω0 E0 st 0 77 [I s.Kind]=some (.b (eu s.Kind),st):=bM (E:=E0) (Jk s.Kind _ (P1 hq)) (by simp) (by simp)
 have C:Cs s:=⟨hB,hV,hE,hB _ _ _⟩
 apply mH
 apply ov
 apply bq
 apply cy (st1:=tR p i l k s [(9,I s.Kind),(10,I (pa p i s.Kind))])
 ·obtain ⟨j,hj⟩:∃ j:Nat,s.Kind=j:=⟨s.Kind.toNat,by omega⟩
  have hg:=WJ p i (j:=j) (by omega)
  simp [hj,hg]
 apply bq
 apply bq
 refine cy (ajm p i l hbd C) ?_
 apply iL (sG p i s) (by simp)
 ·intro hn
  rw [aa hn] at hx
  obtain rfl:=ad hx
  rw [aa (by decide)] at h
  obtain rfl:=ad h
  apply bq
  apply cy (by simp;rfl)
  exact nv (.inl ⟨by decide,rfl⟩)
 intro hn
 rw [ab (by simp [hn])] at hx
 apply mH
 apply ov
 apply bq
 refine cy (ajn p i l) ?_
 apply bq
 apply bq
 refine cy (ag2 p i l C) ?_
 apply iL (xr s) (by simp)
 ·intro hf
  rw [aa hf] at hx
  obtain rfl:=ad hx
  rw [aa (by decide)] at h
  obtain rfl:=ad h
  apply bq
  apply cy (by simp;rfl)
  exact nv (.inl ⟨by decide,rfl⟩)
 intro hf
 rw [ab (by simp [hf])] at hx
 obtain ⟨b,hb,hx⟩:=af.1 hx
 apply mH
 apply ov
 apply bq
 apply bq
 refine cy (ag3 p i l hn hb) ?_
 apply iL b (by simp)
 ·intro hq2
  rw [aa hq2] at hx
  obtain rfl:=ad hx
  rw [aa (by decide)] at h
  obtain rfl:=ad h
  apply bq
  apply cy (by simp;rfl)
  exact nv (.inl ⟨by decide,rfl⟩)
 intro hq2
 rw [ab (by simp [hq2])] at hx
 obtain ⟨x0,hx0,hx⟩:=af.1 hx
 have e5:x0=0→s.Args.length≤9223372036854775807:=fun h0=>by
  rw [ab (by simp [h0])] at hx
  split at hx
  ·assumption
  ·cases hx
 have e6:(if x0≠0 then some x0 else ug (fun e=>eM e p.Vars.length) s.Args)=some x:=by
  by_cases h0:x0=0
  ·rw [ab (by simp [h0])] at hx ⊢
   rw [aa (e5 h0)] at hx;exact hx
  ·rw [aa h0] at hx ⊢;exact hx
 apply mH
 apply ov
 apply bq
 apply cy (st1:=tR p i l k s [(9,I s.Kind),(12,I 0)]) (by simp)
 apply bq
 apply bq
 apply cy (st1:=tR p i l k s [(12,I 0),(155,.b (eu s.Kind))]) (by simp [-aS,hE])
 apply iL (eu s.Kind) (by simp)
 ·intro he
  rw [aa he] at hx0
  have hX:=bM (E:=E0) (oE s.Expr p.Vars.length x0 hx0) (by simp) (by simp)
  apply cy (by simp [-aS,hX];rfl)
  refine R0 (l:=l) (k:=k) (fun h0=>.inl ⟨h0,rfl⟩) (fun h0=>cy (st1:=sR p i l (k+1)) (by simp [hw]) (.inr ⟨h0,rfl⟩)) hrec ?_ e5 e6 h
  simp
 ·intro he
  rw [ab (by simp [he])] at hx0
  obtain rfl:=ad hx0
  apply mH
  refine R0 (l:=l) (k:=k) (fun h0=>.inl ⟨h0,rfl⟩) (fun h0=>cy (st1:=sR p i l (k+1)) (by simp [hw]) (.inr ⟨h0,rfl⟩)) hrec ?_ e5 e6 h
  simp
theorem R1(hl:l.length≤9223372036854775807)
  (hrec:∀ s∈l,∀ t r,(t=s.Then∨t=s.Else)→cH p i t=some r→call G Ω0 E0 51 [.a (ar p),I i,.l 92 (t.map aV)] H0=some (.ret (I r),H0)) {r:Int} :
  ∀ (rest:List Stmt)(k:Nat),l.drop k=rest→Fg p i rest=some r→∃ q,fL G Ω0 E0 Vd (sR p i l k)=some q∧(q=(.ret,⟨[(6,I r)],[],H0⟩)∨r=0∧∃ z,q=(.ex 0,z)∧z.hp=H0)
 | [],k,hd,h=>by
  rw [Fg] at h
  obtain rfl:=ad h
  have hk:¬((k:Int)<(l.length:Int)):=by
   have:=eo.1 hd;omega
  apply Exists.intro
  apply And.intro
  ·refine cT (r:=(.ex 0,?_)) ?_ (by simp)
   rotate_left
   ·show run G Ω0 _ K5 (sR p i l k)=_
    apply ig
    apply aj (by simp [hk];rfl)
    apply bQ (by simp [hk])
    exact du _ _ _
  ·exact .inr ⟨rfl,_,rfl,rfl⟩
 | s::rest,k,hd,h=>by
  rw [Fg] at h
  obtain ⟨y,hy,h⟩:=af.1 h
  have hlt:k<l.length:=by
   have h1:=ak List.length hd
   simp only [hZ,bD] at h1
   omega
  have hg:l[k]? =some s:=by
   have:=ak (fun l=>l[0]?) hd
   simpa using this
  have hd2:l.drop (k+1)=rest:=by
   have:=ak List.tail hd
   simpa using this
  obtain ⟨q,h1,h2⟩:=WK p i l hlt hl hg (hrec s (aP hg)) hy
  rcases h2 with ⟨h0,rfl⟩ | ⟨h0,rfl⟩
  ·rw [aa h0] at h
   obtain rfl:=ad h
   exact ⟨_,cT (by exact h1) (by simp),.inl rfl⟩
  ·rw [ab (by simp [h0])] at h
   obtain ⟨q,g1,g2⟩:=R1 hl hrec rest (k+1) hd2 h
   refine ⟨q,?_,g2⟩
   rw [cP]
   exact g1
   show (run G Ω0 _ K5 (sR p i l k)).bind _=_
   rw [h1];rfl
theorem OI:∀ (n:Nat)(l:List Stmt)(r:Int),SizeOf.sizeOf l≤n→cH p i l=some r→call G Ω0 E0 51 [.a (ar p),I i,.l 92 (l.map aV)] H0=some (.ret (I r),H0)
 | 0,l,r,hn,h=>by cases l<;>simp at hn
 | n+1,l,r,hn,h=>by
  unfold cH at h
  split at h
  ·rename_i hl
   obtain ⟨q,q1,q2⟩:=R1 p i l hl (fun s hs t r ht hr=>OI n t r (by
    have h1:=List.sizeOf_lt_of_mem hs
    obtain ⟨_,_,_,_,_,_,_⟩:=s
    simp only [Stmt.mk.sizeOf_spec] at h1
    rcases ht with rfl | rfl<;>first | omega | (simp only;omega)) hr) l 0 rfl h
   refine IQ (st:=⟨[(6,I r)],[],H0⟩) G51 ?_ (by simp [Ve]) rfl
   apply bq
   apply cy (by simp;rfl)
   apply bq
   apply bq
   apply cy (st1:=sR p i l 0) (by simp)
   apply zL
   refine PO q1 ?_
   rcases q2 with rfl | ⟨rfl,z,rfl,hz⟩
   ·rfl
   ·refine Eq.mpr (aa rfl) ?_
    apply bq
    apply cy (by simp [hz];rfl)
    exact nv rfl
  ·cases h
end
theorem wY(p:Program)(i:Int)(l:List Stmt)(r:Int)(h:cH p i l=some r):call G Ω0 E0 51 [.a (ar p),I i,.l 92 (l.map aV)] H0=some (.ret (I r),H0):=OI p i _ l r (aT _) h
end Go.Proofs.YtkkkkondjclcnaaGreat.A
