/- Functions of the program as plain functions, by program. -/
import Derived.Test.YtkkkkondjclcnaaGreatTypes
import Derived.Test.YtkkkkondjclcnaaGreatBase
import Derived.Test.YtkkkkondjclcnaaGreatFE
import Derived.Test.YtkkkkondjclcnaaGreatFA
set_option linter.all false
set_option maxRecDepth 100000
set_option maxHeartbeats 16000000
namespace Go.Proofs.YtkkkkondjclcnaaGreat.A
open Go
noncomputable section
variable [Lp]
section
variable (a0:aB)(a1:Int)
abbrev Nr(a0:aB)(a1:Int)(r:Int):bH×HP:=(.ret (I r),H0)
abbrev zo(r:Int):Prop:=call G Ω0 E0 53 [(.a (ep a0)),(I a1)] H0=some (Nr a0 a1 r)
end
structure zp where
 f_R_exprParts:aB→Int→Option Int
structure xK(R:zp):Prop where
 f_R_exprParts:∀ (a0:aB)(a1:Int)(r:Int),R.f_R_exprParts a0 a1=some r→zo a0 a1 r
section
variable (R:zp)(a0:aB)(a1:Int)(g:Int)(d:Nat)
def rK:Option ((Int×Nat)⊕(Bool×Int×Nat)):=
 if (d:Int)<(a0.Args.length:Int) then
  if g≤a1 then
   (a0.Args[d]?).bind fun y3=>
   if IntKind.i64.wrap (a1 - g)=a1 - g then
    (R.f_R_exprParts y3 (a1 - g)).bind fun r6=>
    if IntKind.i64.wrap (g+r6)=g+r6 then
     if IntKind.i64.wrap ((d:Int)+1)=((d+1:Nat):Int) then
      some (.inl (g+r6,d+1))
     else none
    else none
   else none
  else
   some (.inr (decide (g≤a1),g,d))
 else
  some (.inr (false,g,d))
abbrev Ki(v:(Int×Nat)):St:=⟨[(1,(I a1)),zP 2,(5,(I v.1)),(6,(I (v.2:Int)))],[(2,(ep a0))],H0⟩
abbrev Cc(x:(Bool×Int×Nat)):aN×St:=((.ex 0),⟨[(1,(I a1)),zP 2,(5,(I x.2.1)),(6,(I (x.2.2:Int))),(16,(.b x.1))],[(2,(ep a0))],H0⟩)
theorem IN(hR:xK R)(a0:aB)(a1:Int)(g:Int)(d:Nat)(o:(Int×Nat)⊕(Bool×Int×Nat))(h:rK R a0 a1 g d=some o):bO E0 Yf (Ki a0 a1) (Cc a0 a1) (g,d) o:=
 bZ (bt<|ao (.i (a0.Args.length:Int))<|.or (rz<|.or (fN<|ao (.n d)<|.ex fun (y3:aB)=>ao (.v (.a (ep y3)))<|ao (.i (a1 - g))<|xI fun r6=>ao (.i (g+r6))<|ao (.i ((d+1:Nat):Int))<|.nil) (bf<|.nil)) (Wp<|.nil)) fun L=>ai (rfl:Z0)<|ai (aJ aT a0.Args)<|cp h (fun h1 h=>FQ (aA h1)<|cp h (fun h2 h=>oY (aA h2)<|ai (rI d)<|cn h fun y3 h4 h=>ai (kS aT h4 (dj _))<|aW h fun w5 h=>ai w5<|bJ h (hR.f_R_exprParts y3 (a1 - g)) fun r6 h=>aW h fun w8 h=>ai w8<|aW h fun w9 h=>ai w9<|L h) (fun h2 h=>ai (ay h2)<|L h)) (fun h1 h=>cu (ay h1)<|nB (ay h1)<|ai ff<|L h)
def tG:Option Int:=
 (lp (fun v=>rK R a0 a1 v.1 v.2) (1,0)).bind fun x1=>
 some x1.2.1
theorem HE(hR:xK R)(a0:aB)(a1:Int)(r:Int)(h:tG R a0 a1=some r):zo a0 a1 r:=
 bu G53 (.ex fun (x1:(Bool×Int×Nat))=>ao (.cD (Cc a0 a1 x1))<|.nil) fun L=>ai tt<|bJ h (fC (fun v=>IN R hR a0 a1 v.1 v.2) (1,0)) fun x1 h=>L h
def nP:Nat→zp
 | 0=>⟨fun z0 z1=>none⟩
 | n+1=>⟨tG (nP n)⟩
theorem DG:∀ n,xK (nP n)
 | 0=>⟨fun _ _ r h=>(by cases h)⟩
 | n+1=>⟨fun a0 a1 r h=>HE _ (DG n) a0 a1 r h⟩
def zq:Option Int:=ev fun n=>(nP n).f_R_exprParts a0 a1
theorem IP(r:Int)(h:zq a0 a1=some r):zo a0 a1 r:=by
 obtain ⟨n,hn⟩:=xb h
 exact (DG n).f_R_exprParts a0 a1 r hn
abbrev Pz(a0:aB)(r:(List aB)):bH×HP:=(.ret (.l 37 (r.map aT)),H0)
abbrev A9(r:(List aB)):Prop:=call G Ω0 E0 54 [(.a (ep a0))] H0=some (Pz a0 r)
end
structure Ba where
 f_R_allParts:aB→Option (List aB)
structure zr(R:Ba):Prop where
 f_R_allParts:∀ (a0:aB)(r:(List aB)),R.f_R_allParts a0=some r→A9 a0 r
section
variable (R:Ba)(a0:aB)(w:(List aB))(m:Nat)
def tH:Option (((List aB)×Nat)⊕((List aB)×Nat×Bool)):=
 if (m:Int)<(a0.Args.length:Int) then
  (a0.Args[m]?).bind fun y2=>
  (R.f_R_allParts y2).bind fun r4=>
  if w.length+r4.length≤1000000000 then
   if IntKind.i64.wrap ((m:Int)+1)=((m+1:Nat):Int) then
    some (.inl (w++r4,m+1))
   else none
  else none
 else
  some (.inr (w,m,decide ((m:Int)<(a0.Args.length:Int))))
abbrev LS(v:((List aB)×Nat)):St:=⟨[zP 1,(3,(.o 37 (v.1.map aT))),(4,(I (v.2:Int)))],[(1,(ep a0))],H0⟩
abbrev DH(x:((List aB)×Nat×Bool)):aN×St:=((.ex 0),⟨[zP 1,(3,(.o 37 (x.1.map aT))),(4,(I (x.2.1:Int))),(11,(.b x.2.2))],[(1,(ep a0))],H0⟩)
theorem Kj(hR:zr R)(a0:aB)(w:(List aB))(m:Nat)(o:((List aB)×Nat)⊕((List aB)×Nat×Bool))(h:tH R a0 w m=some o):bO E0 Yg (LS a0) (DH a0) (w,m) o:=
 bZ (bt<|ao (.i (a0.Args.length:Int))<|.or (fN<|ao (.n m)<|.ex fun (y2:aB)=>ao (.v (.a (ep y2)))<|.ex fun (r4:(List aB))=>ao (.v (dO r4))<|ao (.l ((w++r4).map aT))<|ao (.i ((m+1:Nat):Int))<|.nil) (bf<|.nil)) fun L=>ai (rfl:Z0)<|ai (aJ aT a0.Args)<|cp h (fun h1 h=>oY (aA h1)<|ai (rI m)<|cn h fun y2 h3 h=>ai (kS aT h3 (dj _))<|bJ h (hR.f_R_allParts y2) fun r4 h=>ai ff<|aW h fun h6 h=>ai ((mY aT (n:=3) (fun a=>by rw [dj];rfl) r4):(r4.map aT).all (fun e=>e.nc==3)=true)<|ai ((rr h6 (by decide)):((w.map aT).length+(r4.map aT).length)*40≤140737488355328)<|ai ((rv h6):(w.map aT).length+(r4.map aT).length≤maxLen)<|ai (ei.symm:w.map aT++r4.map aT=(w++r4).map aT)<|aW h fun w7 h=>ai w7<|L h) (fun h1 h=>ai (ay h1)<|L h)
def uN:Option (List aB):=
 (lp (fun v=>tH R a0 v.1 v.2) ([a0],0)).bind fun x1=>
 some x1.1
theorem IQ(hR:zr R)(a0:aB)(r:(List aB))(h:uN R a0=some r):A9 a0 r:=
 bu G54 (bt<|ao (.l ([a0].map aT))<|.ex fun (x1:((List aB)×Nat×Bool))=>ao (.cD (DH a0 x1))<|.nil) fun L=>vX<|ai ((by simp only [fj,u5,dj]):[(.a (ep a0))]=[a0].map aT)<|bJ h (fC (fun v=>Kj R hR a0 v.1 v.2) ([a0],0)) fun x1 h=>L h
def pC:Nat→Ba
 | 0=>⟨fun z0=>none⟩
 | n+1=>⟨uN (pC n)⟩
theorem ER:∀ n,zr (pC n)
 | 0=>⟨fun _ r h=>(by cases h)⟩
 | n+1=>⟨fun a0 r h=>IQ _ (ER n) a0 r h⟩
def pD:Option (List aB):=ev fun n=>(pC n).f_R_allParts a0
theorem rL(r:(List aB))(h:pD a0=some r):A9 a0 r:=by
 obtain ⟨n,hn⟩:=xb h
 exact (ER n).f_R_allParts a0 r hn
end
section
variable (a0:Int)(a1:Int)(a2:Int)(y7:aB)(r4:(List aB))(d:Nat)
abbrev QQ(a0:Int)(a1:Int)(a2:Int)(r:Bool):bH×HP:=(.ret (.b r),H0)
def im:Option Bool:=
 if a1≤a0 then
  some (decide (a0≤a2))
 else
  some false
theorem iD(r:Bool)(h:im a0 a1 a2=some r):call G Ω0 E0 50 [(I a0),(I a1),(I a2)] H0=some (QQ a0 a1 a2 r):=
 bu G50 (.or (rz<|.nil) (UC<|.nil)) fun L=>cp h (fun h1 h=>FQ (aA h1)<|L h) (fun h1 h=>FQ (ay h1)<|L h)
def IS:List de:=(gF 27 0 7)::(gQ 28 27)::(gB 29 .leq 28 (kI 2))::(gM 30 29)::⟨some 31,.fa 2 7,some ⟨30,true⟩,false⟩::⟨some 32,.ld none 31,some ⟨30,true⟩,false⟩::⟨some 33,.ln false 32,some ⟨30,true⟩,false⟩::⟨some 34,.bo .neq false 33 (kI 0),some ⟨30,true⟩,false⟩::(gk 35 30 34 (.c (.b false)))::(gM 36 35)::⟨some 37,.fa 0 7,some ⟨36,false⟩,false⟩::⟨some 38,.ld none 37,some ⟨36,false⟩,false⟩::⟨some 39,.bo .gtr false 38 (kI 2),some ⟨36,false⟩,false⟩::⟨some 40,.mv 39,some ⟨36,false⟩,false⟩::⟨some 41,.fa 2 7,some ⟨40,true⟩,false⟩::⟨some 42,.ld none 41,some ⟨40,true⟩,false⟩::⟨some 43,.ln false 42,some ⟨40,true⟩,false⟩::⟨some 44,.bo .neq false 43 (kI 2),some ⟨40,true⟩,false⟩::⟨some 45,.pk 40 44 (.c (.b false)),some ⟨36,false⟩,false⟩::(gp 46 (.pk 36 (.c (.b true)) 45))::[]
def vg:Option Bool:=
 if y7.Kind≤2 then
  if ((y7.Args.length:Int) !=0)=true then
   some true
  else
   if 2<y7.Kind then
    some ((y7.Args.length:Int) !=2)
   else
    some false
 else
  if 2<y7.Kind then
   some ((y7.Args.length:Int) !=2)
  else
   some false
abbrev Bb(y7:aB)(x:Bool):St:=⟨[(1,(I a1)),(5,(dO r4)),(6,(zI d)),zP 7,(46,(.b x))],[(7,(ep y7))],H0⟩
theorem HF(y7:aB)(x:Bool)(h:vg y7=some x):uc G Ω0 E0 [1,5,6,7,46] [7] IS ⟨[(1,(I a1)),(5,(dO r4)),(6,(zI d)),zP 7],[(7,(ep y7))],H0⟩=some (Bb a1 r4 d y7 x):=
 ur (bt<|.or (rz<|ao (.i (y7.Args.length:Int))<|fN<|.or (Wq<|.nil) (wP<|.or (rz<|ao (.i (y7.Args.length:Int))<|bt<|bt<|bt<|bf<|.nil) (bf<|bf<|bf<|bf<|bt<|bf<|bf<|.nil))) (aeX<|.or (rz<|ao (.i (y7.Args.length:Int))<|bt<|bt<|bt<|bf<|.nil) (bf<|bf<|bf<|bf<|bt<|bf<|bf<|.nil))) fun L=>ai (rfl:Z0)<|cp h (fun V h=>Rq (aA V)<|ai (aJ aT y7.Args)<|nB (aA V)<|cG h (fun D h=>ev9 D<|L h) (fun D h=>cq D<|ai (rfl:Z0)<|cq D<|cp h (fun F h=>Rq (aA F)<|ai (aJ aT y7.Args)<|ai (g1 (aA F))<|ai (g0 D)<|ai (aA F)<|ai D<|L h) (fun F h=>cu (ay F)<|cu (ay F)<|ai (g0 D)<|ai (ay F)<|ai D<|L h))) (fun V h=>cu (ay V)<|cu (ay V)<|ai (ay V)<|ai hf<|ai hf<|ai (rfl:Z0)<|ai hf<|ai hf<|cp h (fun D h=>Rq (aA D)<|ai (aJ aT y7.Args)<|ai (g1 (aA D))<|ai hf<|ai (aA D)<|ai ff<|L h) (fun D h=>cu (ay D)<|cu (ay D)<|ai hf<|ai (ay D)<|ai ff<|L h))
def IT:List de:=(gF 47 0 7)::(gQ 48 47)::(gB 49 .eql 48 (kI 1))::(gM 50 49)::⟨some 51,.fa 1 7,some ⟨50,true⟩,false⟩::⟨some 52,.ld none 51,some ⟨50,true⟩,false⟩::⟨some 53,.ca 0 50 [52,(kI (-9999999)),(kI 9999999)],some ⟨50,true⟩,false⟩::⟨some 54,.no 53,some ⟨50,true⟩,false⟩::(gk 55 50 54 (.c (.b false)))::(gM 56 55)::⟨some 57,.fa 0 7,some ⟨56,false⟩,false⟩::⟨some 58,.ld none 57,some ⟨56,false⟩,false⟩::⟨some 59,.bo .gtr false 58 (kI 2),some ⟨56,false⟩,false⟩::⟨some 60,.mv 59,some ⟨56,false⟩,false⟩::⟨some 61,.fa 1 7,some ⟨60,true⟩,false⟩::⟨some 62,.ld none 61,some ⟨60,true⟩,false⟩::⟨some 63,.bo .neq false 62 (kI 0),some ⟨60,true⟩,false⟩::⟨some 64,.pk 60 63 (.c (.b false)),some ⟨56,false⟩,false⟩::(gp 65 (.pk 56 (.c (.b true)) 64))::[]
def vj:Option Bool:=
 if (y7.Kind==1)=true then
  (im y7.N (-9999999) 9999999).bind fun al=>
  if al=true then
   if 2<y7.Kind then
    some (y7.N !=0)
   else
    some false
  else
   some true
 else
  if 2<y7.Kind then
   some (y7.N !=0)
  else
   some false
abbrev Bc(y7:aB)(x:Bool):St:=⟨[(1,(I a1)),(5,(dO r4)),(6,(zI d)),zP 7,(65,(.b x))],[(7,(ep y7))],H0⟩
theorem HG(y7:aB)(x:Bool)(h:vj y7=some x):uc G Ω0 E0 [1,5,6,7,65] [7] IT ⟨[(1,(I a1)),(5,(dO r4)),(6,(zI d)),zP 7],[(7,(ep y7))],H0⟩=some (Bc a1 r4 d y7 x):=
 ur (bt<|.or (rz<|xB fun al=>fN<|.or (wP<|.or (UB<|.nil) (YF<|.nil)) (Wq<|.nil)) (aeX<|.or (UB<|.nil) (YF<|.nil))) fun L=>ai (rfl:Z0)<|cG h (fun U h=>Rq U<|bJ h (iD y7.N (-9999999) 9999999) fun al h=>nB U<|cG h (fun B h=>cq (an not B)<|ai (rfl:Z0)<|cq (an not B)<|cp h (fun W h=>Rq (aA W)<|ai (g0 (an not B))<|ai (aA W)<|ai (an not B)<|L h) (fun W h=>Rr (ay W)<|ai (g0 (an not B))<|ai (ay W)<|ai (an not B)<|L h)) (fun B h=>ev9 (an not B)<|L h)) (fun U h=>cu U<|cu U<|ai U<|ai hf<|ai hf<|ai (rfl:Z0)<|ai hf<|ai hf<|cp h (fun T h=>cu (aA T)<|ai (rfl:Z0)<|ai (g1 (aA T))<|ai hf<|ai (aA T)<|ai ff<|L h) (fun T h=>cu (ay T)<|ai (g1 (ay T))<|ai hf<|ai (ay T)<|ai ff<|L h))
def j0:Option (Nat⊕(Unit⊕(Unit⊕(Unit⊕(Unit⊕(Nat×Bool)))))):=
 if (d:Int)<(r4.length:Int) then
  (r4[d]?).bind fun y7=>
  (im y7.Kind 1 7).bind fun r9=>
  if r9=true then
   (vg y7).bind fun Y=>
   if Y=true then
    some (.inr (.inl ()))
   else
    (vj y7).bind fun X=>
    if X=true then
     some (.inr (.inr (.inl ())))
    else
     if (y7.Kind==2)=true then
      if IntKind.i64.wrap (a1 - 1)=a1 - 1 then
       (im y7.N 0 (a1 - 1)).bind fun ak=>
       if ak=true then
        if IntKind.i64.wrap ((d:Int)+1)=((d+1:Nat):Int) then
         some (.inl (d+1))
        else none
       else
        some (.inr (.inr (.inr (.inl ()))))
      else none
     else
      if IntKind.i64.wrap ((d:Int)+1)=((d+1:Nat):Int) then
       some (.inl (d+1))
      else none
  else
   some (.inr (.inr (.inr (.inr (.inl ())))))
 else
  some (.inr (.inr (.inr (.inr (.inr (d,decide ((d:Int)<(r4.length:Int))))))))
abbrev Kk(v:Nat):St:=⟨[(1,(I a1)),(5,(dO r4)),(6,(I (v:Int)))],[],H0⟩
abbrev lK(x:(Unit⊕(Unit⊕(Unit⊕(Unit⊕(Nat×Bool)))))):aN×St:=match x with | .inl ()=>(.ret,⟨[(4,(I 1))],[],H0⟩) | .inr (.inl ())=>(.ret,⟨[(4,(I 3))],[],H0⟩) | .inr (.inr (.inl ()))=>(.ret,⟨[(4,(I 5))],[],H0⟩) | .inr (.inr (.inr (.inl ())))=>(.ret,⟨[(4,(I 7))],[],H0⟩) | .inr (.inr (.inr (.inr (z1,z2))))=>((.ex 0),⟨[(1,(I a1)),(5,(dO r4)),(6,(I (z1:Int))),(16,(.b z2))],[],H0⟩)
theorem IU(o:Nat⊕(Unit⊕(Unit⊕(Unit⊕(Unit⊕(Nat×Bool))))))(h:j0 a1 r4 d=some o):bO E0 XD (Kk a1 r4) (lK a1 r4) d o:=
 bZ (ao (.i (r4.length:Int))<|.or (bt<|ao (.n d)<|.ex fun (y7:aB)=>ao (.v (.a (ep y7)))<|ja<|xB fun r9=>.or (bf<|.jb (some 27) 19<|.ex fun (Y:Bool)=>ao (.jn (Bb a1 r4 d y7 Y))<|oN (.jb (some 47) 18<|.ex fun (X:Bool)=>ao (.jn (Bc a1 r4 d y7 X))<|oN (bt<|.or (wP<|ao (.i (a1 - 1))<|bt<|xB fun ak=>fN<|.or (bf<|ao (.i ((d+1:Nat):Int))<|.nil) (bt<|.nil)) (bf<|bf<|bf<|bf<|bf<|bf<|bf<|bf<|ao (.i ((d+1:Nat):Int))<|.nil)))) (bt<|.nil)) (bf<|.nil)) fun L=>ai (aJ aT r4)<|cp h (fun h6 h=>ai (aA h6)<|ai (rI d)<|cn h fun y7 h8 h=>ai (kS aT h8 (dj _))<|Mu<|bJ h (iD y7.Kind 1 7) fun r9 h=>cG h (fun au h=>ai (an not au)<|bJ h (HF a1 r4 d y7) fun Y h=>cG h (fun F h=>ai F<|L h) (fun F h=>ai F<|bJ h (HG a1 r4 d y7) fun X h=>cG h (fun ar h=>ai ar<|L h) (fun ar h=>oY ar<|cG h (fun B h=>cu B<|ai (rfl:Z0)<|cu B<|aW h fun ag h=>ai ag<|ai (g1 B)<|bJ h (iD y7.N 0 (a1 - 1)) fun ak h=>nB B<|cG h (fun aq h=>ai (an not aq)<|aW h fun aw h=>ai aw<|L h) (fun aq h=>ai (an not aq)<|L h)) (fun B h=>cu B<|cu B<|cu B<|ai B<|ai ff<|aW h fun ag h=>ai ag<|L h)))) (fun au h=>ai (an not au)<|L h)) (fun h6 h=>ai (ay h6)<|L h)
end
section
variable (a0:aB)(a1:Int)
abbrev Ns(a0:aB)(a1:Int)(r:Int):bH×HP:=(.ret (I r),H0)
def kx:Option Int:=
 (zq a0 15).bind fun r1=>
 if 15<r1 then
  some 2
 else
  (pD a0).bind fun r4=>
  (lp (fun v=>j0 a1 r4 v) 0).bind fun (x6:(Unit⊕(Unit⊕(Unit⊕(Unit⊕(Nat×Bool))))))=>match x6 with
  | .inl O=>
   some 1
  | .inr (.inl M)=>
   some 3
  | .inr (.inr (.inl K))=>
   some 5
  | .inr (.inr (.inr (.inl J)))=>
   some 7
  | .inr (.inr (.inr (.inr H)))=>
   some 0
theorem vk(r:Int)(h:kx a0 a1=some r):call G Ω0 E0 12 [(.a (ep a0)),(I a1)] H0=some (Ns a0 a1 r):=
 bu G12 (bt<|xI fun r1=>oN (bt<|.ex fun (r4:(List aB))=>ao (.v (dO r4))<|.or (.ex fun (O:Unit)=>ao (.cD (lK a1 r4 (.inl O)))<|.nil) (.or (.ex fun (M:Unit)=>ao (.cD (lK a1 r4 (.inr (.inl M))))<|.nil) (.or (.ex fun (K:Unit)=>ao (.cD (lK a1 r4 (.inr (.inr (.inl K)))))<|.nil) (.or (.ex fun (J:Unit)=>ao (.cD (lK a1 r4 (.inr (.inr (.inr (.inl J))))))<|.nil) (.ex fun (H:(Nat×Bool))=>ao (.cD (lK a1 r4 (.inr (.inr (.inr (.inr H))))))<|.nil)))))) fun L=>vX<|bJ h (IP a0 15) fun r1 h=>cp h (fun h3 h=>ai (aA h3)<|L h) (fun h3 h=>oY (ay h3)<|bJ h (rL a0) fun r4 h=>YC h (fC (IU a1 r4) 0) (fun O h=>L h) (fun M h=>L h) (fun K h=>L h) (fun J h=>L h) (fun H h=>L h))
end
section
variable (a0:Int)
abbrev Tj(a0:Int)(r:Bool):bH×HP:=(.ret (.b r),H0)
def Ev:Option Bool:=
 (im a0 1 3).bind fun r1=>
 if r1=true then
  some true
 else
  if (a0==5)=true then
   some true
  else
   some (a0==6)
theorem Nt(r:Bool)(h:Ev a0=some r):call G Ω0 E0 115 [(I a0)] H0=some (Tj a0 r):=
 bu alV (xB fun r1=>.or (bf<|bf<|bt<|bf<|bf<|bt<|.nil) (bt<|bt<|bf<|.or (bf<|bf<|bt<|.nil) (bt<|bt<|bf<|.nil))) fun L=>bJ h (iD a0 1 3) fun r1 h=>cG h (fun h3 h=>cq h3<|ai h3<|oD<|ai tt<|L h) (fun h3 h=>SY h3<|cG h (fun h4 h=>SY h4<|L h) (fun h4 h=>SY h4<|L h))
abbrev QR(a0:Int)(r:Bool):bH×HP:=(.ret (.b r),H0)
def ye:Option Bool:=
 if (a0==1)=true then
  some true
 else
  (im a0 4 8).bind fun r2=>
  some r2
theorem DI(r:Bool)(h:ye a0=some r):call G Ω0 E0 77 [(I a0)] H0=some (QR a0 r):=
 bu G77 (.or (bf<|bf<|bt<|.nil) (fN<|xB fun r2=>bf<|.nil)) fun L=>cG h (fun h1 h=>SY h1<|L h) (fun h1 h=>cq h1<|bJ h (iD a0 4 8) fun r2 h=>ai h1<|L h)
end
end
variable [Lp]
attribute [local simp] gp execOp okB gv df fT pJ iZ ir ft St.end_ St.fU List.filter eV wN view EL O0 RE HW plain
theorem Cd(n x y:Int):im n x y=some (decide (x≤n∧n≤y)):=by
 unfold im
 by_cases h:x≤n<;>simp [h]
theorem DJ(a b c:Int):im a b c=some (decide (b≤a∧a≤c)):=Cd a b c
theorem Vh{k:Int}(h:1≤k∧k≤8):Ev k=some (fv k):=by
 unfold Ev fv
 rw [DJ,ad]
 by_cases h1:1≤k∧k≤3
 ·rw [ab (aA h1)];congr 1;symm;simp;omega
 ·rw [aa (by simpa using h1)]
  by_cases h5:k=5
  ·simp [h5]
  ·rw [aa (by simpa using h5)];congr 1
   rw [lN];simp;omega
theorem Kl{k:Int}(h:1≤k∧k≤8):ye k=some (eP k):=by
 unfold ye eP
 by_cases h1:k=1
 ·simp [h1]
 ·rw [aa (by simpa using h1),DJ,ad];congr 1
  rw [lN];simp;omega
def rj(p:Program)(i k:Int):Int:=if k=2 then i else if k=3 then p.Ins.length else if k=4 then p.Outs.length else 0
noncomputable def PA(p:Program)(i:Int)(s:Stmt):Option Int:=
 if ¬(1≤s.Kind∧s.Kind≤8) then some 7
 else if ¬(p.Vars.length≤1000000∧-1000000≤rj p i s.Kind∧rj p i s.Kind≤1000000) then none
 else Lo (fun e=>kx e p.Vars.length) p i s
mutual
noncomputable def R2(p:Program)(i:Int):Stmt→Option Int
 | ⟨k,v,o,e,args,th,el⟩=>(PA p i ⟨k,v,o,e,args,th,el⟩).bind fun x=>if x≠0 then some x else
   (if th.length≤9223372036854775807 then HX p i th else none).bind fun x=>if x≠0 then some x else if el.length≤9223372036854775807 then HX p i el else none
noncomputable def HX(p:Program)(i:Int):List Stmt→Option Int
 | []=>some 0
 | s::r=>(R2 p i s).bind fun x=>if x≠0 then some x else HX p i r
end
noncomputable def c9(p:Program)(i:Int)(l:List Stmt):Option Int:=if l.length≤9223372036854775807 then HX p i l else none
theorem afX(p:Program)(i:Int)(s:Stmt):R2 p i s=(PA p i s).bind fun x=>if x≠0 then some x else
   (c9 p i s.Then).bind fun x=>if x≠0 then some x else c9 p i s.Else:=by cases s;rw [R2];rfl
section
variable (p:Program)(i:Int)(l:List Stmt)
abbrev tR(p:Program)(i:Int)(l:List Stmt)(k:Nat)(s:Stmt)(xs:List (Nat×AV)):St:=⟨(1,I i)::(2,.l 92 (l.map bK))::(3,.p ⟨0,3⟩ 0)::(7,I k)::(8,.p ⟨0,8⟩ 0)::xs,[(3,av p),(8,aD s)],H0⟩
abbrev aR(p:Program)(i:Int)(l:List Stmt)(k:Nat)(s:Stmt)(e:Int)(n:Nat):St:=⟨[(1,I i),(2,.l 92 (l.map bK)),(3,.p ⟨0,3⟩ 0),(7,I k),(8,.p ⟨0,8⟩ 0),(12,I e),(13,I n)],[(3,av p),(8,aD s)],H0⟩
theorem Vi(k:Nat)(s:Stmt):∀ (rest:List aB)(n:Nat)(e r:Int),(e=0→s.Args.length≤9223372036854775807)→s.Args.drop n=rest→(if e≠0 then some e else wo (fun e=>kx e p.Vars.length) rest)=some r→
  ∃ z,fH G Ω0 E0 X7 (aR p i l k s e n)=some (.ex 2,z)∧z.aG [1,2,3,7,8,12] [3,8]=(aR p i l k s r n).aG [1,2,3,7,8,12] [3,8]
 | [],n,e,r,hl,hd,h=>by
  have hk:¬((n:Int)<(s.Args.length:Int)):=by
   have:=gP.1 hd;omega
  obtain rfl:e=r:=by
   by_cases h0:e=0
   ·rw [aa (by simp [h0])] at h
    exact h0.trans (af h)
   ·rw [ab h0] at h;exact af h
  apply Exists.intro
  apply And.intro
  ·refine dD (r:=(.ex 2,?_)) ?_ (by simp)
   rotate_left
   ·show run G Ω0 _ Js (aR p i l k s e n)=_
    apply iu
    apply aj (by simp [hk];rfl)
    apply ba (by simp [hk])
    exact dR _ _ _
  ·simp
 | a::rest,n,e,r,hl,hd,h=>by
  have S:n<s.Args.length:=by
   have h1:=an List.length hd
   simp only [kQ,cC] at h1
   omega
  have hg:s.Args[n]? =some a:=by
   have:=an (fun l=>l[0]?) hd
   simpa using this
  have ap:s.Args.drop (n+1)=rest:=by
   have:=an List.tail hd
   simpa using this
  by_cases h0:e=0
  ·subst h0
   have hl:=hl rfl
   have hw:IntKind.i64.wrap ((n:Int)+1)=(n:Int)+1:=wrap64 (by omega) (by omega)
   rw [aa (by simp)] at h
   obtain ⟨x,hx,h⟩:=ah.1 h
   have hX:=aZ (E:=E0) (vk a p.Vars.length x hx) (by simp) (by simp)
   obtain ⟨z,h1,h2⟩:=Vi k s rest (n+1) x r (fun _=>hl) ap h
   refine ⟨z,?_,h2⟩
   rw [dz]
   exact h1
   show (run G Ω0 _ Js (aR p i l k s 0 n)).bind _=_
   have body:run G Ω0 E0 Js (aR p i l k s 0 n)=some (.nrm,aR p i l k s x (n+1)):=by
    apply O1
    apply bI
    apply bI
    apply cR (by simp [S];rfl)
    apply jW true (by simp [S])
    ·intro _
     apply ob
     apply qh
     apply bI
     apply B0
     apply cR (by simp [-aF,hg,dj,hX];rfl)
     refine cR (st1:=aR p i l k s x (n+1)) ?_ rfl
     simp [hw]
    ·intro hq;cases hq
   rw [body];rfl
  ·rw [ab h0] at h
   obtain rfl:=af h
   apply Exists.intro
   apply And.intro
   ·refine dD (r:=(.ex 2,?_)) ?_ (by simp)
    rotate_left
    ·show run G Ω0 _ Js (aR p i l k s e n)=_
     apply iu
     apply aj (by simp [S,h0];rfl)
     apply ba (by simp [h0])
     exact dR _ _ _
   ·simp
theorem ZK{j:Nat}(h:1≤j∧j≤8):([I 0,I 0,I i,I p.Ins.length,I p.Outs.length,I 0,I 0,I 0,I 0]:List AV)[j]? =some (I (rj p i j)):=by
 obtain ⟨h1,h2⟩:=h
 match j,h1,h2 with
 | 1,_,_=>rfl
 | 2,_,_=>rfl
 | 3,_,_=>rfl
 | 4,_,_=>rfl
 | 5,_,_=>rfl
 | 6,_,_=>rfl
 | 7,_,_=>rfl
 | 8,_,_=>rfl
section
variable {p i l}{k:Nat}{s:Stmt}{y:Int}{P:aN×St→Prop}(hr:y≠0→P (.ret,⟨[(6,I y)],[],H0⟩))(hn:y=0→P (.nrm,⟨[(1,I i),(2,.l 92 (l.map bK)),(3,.p ⟨0,3⟩ 0),(7,I k),(12,I 0),(197,.b false)],[(3,av p)],H0⟩))
include hr hn
theorem Vj{st:St}(Q:st.aG [1,2,3,7,12] [3]=⟨[(1,I i),(2,.l 92 (l.map bK)),(3,.p ⟨0,3⟩ 0),(7,I k),(12,I y)],[(3,av p)],H0⟩):Nx E0 X8 st P:=by
 apply qh
 rw [Q]
 apply bI
 by_cases h0:y=0
 ·subst h0
  apply cR (by simp;rfl)
  refine jW false (by simp) (fun hq=>by cases hq) (fun _=>?_)
  exact ob (hn rfl)
 ·apply cR (by simp [h0];rfl)
  refine jW true (by simp [h0]) (fun _=>?_) (fun hq=>by cases hq)
  apply bI
  apply cR (by simp;rfl)
  exact oP (hr h0)
variable (u:∀ t r,(t=s.Then∨t=s.Else)→c9 p i t=some r→call G Ω0 E0 51 [.a (av p),I i,.l 92 (t.map bK)] H0=some (.ret (I r),H0))
include u
theorem Vk{st:St}{x:Int}(Q:st.aG [1,2,3,7,8,12] [3,8]=tR p i l k s [(12,I x)])(h:(if x≠0 then some x else c9 p i s.Else)=some y):Nx E0 X9 st P:=by
 apply qh
 rw [Q]
 apply bI
 apply bI
 by_cases h0:x=0
 ·subst h0
  rw [aa (by simp)] at h
  have hT:=aZ (E:=E0) (u s.Else y (.inr rfl) h) (by simp) (by simp)
  apply cR (by simp;rfl)
  refine jW true (by simp) (fun _=>?_) (fun hq=>by cases hq)
  apply cR (by simp [-aF,hT];rfl)
  exact Vj hr hn (by simp)
 ·rw [ab h0] at h
  obtain rfl:=af h
  apply cR (by simp [h0];rfl)
  refine jW false (by simp [h0]) (fun hq=>by cases hq) (fun _=>?_)
  apply ob
  exact Vj hr hn (by simp)
theorem afY{st:St}{x:Int}(Q:st.aG [1,2,3,7,8,12] [3,8]=tR p i l k s [(12,I x)])(h:(if x≠0 then some x else (c9 p i s.Then).bind fun x=>if x≠0 then some x else c9 p i s.Else)=some y):Nx E0 Ya st P:=by
 apply qh
 rw [Q]
 apply bI
 apply bI
 by_cases h0:x=0
 ·subst h0
  rw [aa (by simp)] at h
  obtain ⟨x,hx,h⟩:=ah.1 h
  have hT:=aZ (E:=E0) (u s.Then x (.inl rfl) hx) (by simp) (by simp)
  apply cR (by simp;rfl)
  refine jW true (by simp) (fun _=>?_) (fun hq=>by cases hq)
  apply cR (by simp [-aF,hT];rfl)
  exact Vk hr hn u (by simp) h
 ·rw [ab h0] at h
  obtain rfl:=af h
  apply cR (by simp [h0];rfl)
  refine jW false (by simp [h0]) (fun hq=>by cases hq) (fun _=>?_)
  apply ob
  exact Vk hr hn u (x:=x) (by simp) (ab h0)
theorem Vl{st:St}{e x:Int}(Q:st.aG [1,2,3,7,8,12] [3,8]=tR p i l k s [(12,I e)])(hl:e=0→s.Args.length≤9223372036854775807)(he:(if e≠0 then some e else wo (fun e=>kx e p.Vars.length) s.Args)=some x)
  (h:(if x≠0 then some x else (c9 p i s.Then).bind fun x=>if x≠0 then some x else c9 p i s.Else)=some y):Nx E0 Yb st P:=by
 obtain ⟨z,z1,z2⟩:=Vi p i l k s s.Args 0 e x hl rfl he
 apply qh
 rw [Q]
 apply bI
 apply bI
 apply cR (st1:=aR p i l k s e 0) (by simp)
 apply B0
 refine S8 z1 ?_
 refine Eq.mpr (ab rfl) ?_
 exact afY hr hn u (by rw [z2];simp) h
end
def HY:AC→AC
 | .sq x _=>x
 | x=>x
def MS:AC→AC
 | .sq _ y=>y
 | x=>x
structure Cs(s:Stmt):Prop where
 b:∀ a b c:Int,∀ st,aF (call G Ω0) Ω0 E0 st 0 50 [I a,I b,I c]=some (.b (decide (b≤a∧a≤c)),st)
 v:∀ st,aF (call G Ω0) Ω0 E0 st 0 115 [I s.Kind]=some (.b (fv s.Kind),st)
 e:∀ st,aF (call G Ω0) Ω0 E0 st 0 77 [I s.Kind]=some (.b (eP s.Kind),st)
 o:∀ st,aF (call G Ω0) Ω0 E0 st 0 50 [I s.Kind,I 2,I 4]=some (.b (iv s.Kind),st)
theorem amL{k:Nat}{s:Stmt}(ae:p.Vars.length≤1000000∧-1000000≤rj p i s.Kind∧rj p i s.Kind≤1000000)(C:Cs s):run G Ω0 E0 (HY (HY (MS Yd))) (tR p i l k s [(9,I s.Kind),(10,I (rj p i s.Kind))])=some (.nrm,tR p i l k s [(9,I s.Kind),(63,.b (uD p i s))]):=by
 obtain ⟨hB,hV,hE,hO⟩:=C
 have w1:IntKind.i64.wrap ((p.Vars.length:Int) - 1)=(p.Vars.length:Int) - 1:=wrap64 (by omega) (by omega)
 have w2:IntKind.i64.wrap (rj p i s.Kind - 1)=rj p i s.Kind - 1:=wrap64 (by omega) (by omega)
 have b1:(!decide (0≤s.Var∧s.Var≤(p.Vars.length:Int) - 1))=(decide (s.Var<0)||decide ((p.Vars.length:Int)≤s.Var)):=by
  rw [lN];simp;omega
 have b2:iv s.Kind=true→(!decide (0≤s.Other∧s.Other≤rj p i s.Kind - 1))=(decide (s.Other<0)||decide (fD p i s.Kind≤s.Other)):=by
  intro ho
  have e:rj p i s.Kind=fD p i s.Kind:=by
   have ho:2≤s.Kind∧s.Kind≤4:=by simpa [iv] using ho
   unfold rj fD
   by_cases e2:s.Kind=2
   ·rw [ab e2,ab e2]
   ·by_cases e3:s.Kind=3
    ·rw [aa e2,aa e2,ab e3,ab e3]
    ·rw [aa e2,aa e2,aa e3,aa e3,ab (by omega)]
  rw [e,lN];simp;omega
 apply G8 rfl
 refine qG (v1:=tR p i l k s [(9,I s.Kind),(10,I (rj p i s.Kind)),(52,.b (fv s.Kind&&(decide (s.Var<0)||decide ((p.Vars.length:Int)≤s.Var))))]) 13 [1,2,3,7,8,9,10,52] ?_ ?_
 ·rw [←b1]
  cases hv:fv s.Kind<;>((repeat refine qc (by simp [-aF,hV,hv,hB,w1];rfl) ?_);exact qf (by simp))
 unfold uD
 generalize (fv s.Kind&&(decide (s.Var<0)||decide ((p.Vars.length:Int)≤s.Var)))=c0
 refine Dd ?_ (by simp)
 cases ho:iv s.Kind
 ·cases c0<;>((repeat refine qc (by simp [-aF,hO,ho];rfl) ?_);exact qf (by simp))
 ·rw [←b2 ho]
  cases c0<;>((repeat refine qc (by simp [-aF,hO,ho,hB,w2];rfl) ?_);exact qf (by simp))
theorem aks{k:Nat}{s:Stmt}(C:Cs s):run G Ω0 E0 (HY (HY (MS SE))) (tR p i l k s [(9,I s.Kind),(11,.b (lS s))])=some (.nrm,tR p i l k s [(9,I s.Kind),(137,.b (zX s))]):=by
 obtain ⟨hB,hV,hE,hO⟩:=C
 apply G8 rfl
 refine qG (v1:=tR p i l k s [(9,I s.Kind),(11,.b (lS s)),(89,.b (!fv s.Kind&&decide (s.Var≠0)))]) 9 [1,2,3,7,8,9,11,89] ?_ ?_
 ·cases hv:fv s.Kind<;>by_cases q:s.Var=0<;>((repeat refine qc (by simp [-aF,hV,hv,q];rfl) ?_);exact qf (by simp [q]))
 unfold zX
 generalize (!fv s.Kind&&decide (s.Var≠0))=c1
 refine qG (v1:=tR p i l k s [(9,I s.Kind),(11,.b (lS s)),(99,.b (c1||(!iv s.Kind&&decide (s.Other≠0))))]) 10 [1,2,3,7,8,9,11,99] ?_ ?_
 ·cases c1<;>cases ho:iv s.Kind<;>by_cases q:s.Other=0<;>((repeat refine qc (by simp [-aF,hO,ho,q];rfl) ?_);exact qf (by simp [q]))
 generalize (c1||(!iv s.Kind&&decide (s.Other≠0)))=c2
 refine qG (v1:=tR p i l k s [(9,I s.Kind),(11,.b (lS s)),(108,.b (c2||(!eP s.Kind&&!lS s)))]) 9 [1,2,3,7,8,9,11,108] ?_ ?_
 ·cases c2<;>cases he:eP s.Kind<;>cases hb:lS s<;>((repeat refine qc (by simp [-aF,hE,he,hb];rfl) ?_);exact qf (by simp [hb]))
 generalize (c2||(!eP s.Kind&&!lS s))=c3
 refine qG (v1:=tR p i l k s [(9,I s.Kind),(118,.b (c3||(s.Kind !=2&&decide (0<s.Args.length))))]) 10 [1,2,3,7,8,9,118] ?_ ?_
 ·cases c3<;>cases q:(s.Kind !=2)<;>((repeat refine qc (by simp [-aF,q];rfl) ?_);exact qf (by simp [q]))
 generalize (c3||(s.Kind !=2&&decide (0<s.Args.length)))=c4
 refine qG (v1:=tR p i l k s [(9,I s.Kind),(128,.b (c4||(!decide (7≤s.Kind)&&decide (0<s.Then.length))))]) 10 [1,2,3,7,8,9,128] ?_ ?_
 ·have q7:decide (s.Kind<7)=!decide (7≤s.Kind):=by rw [lN];simp
  cases c4<;>cases q:decide (7≤s.Kind)<;>((repeat refine qc (by simp [-aF,q,q7];rfl) ?_);exact qf (by simp [q]))
 generalize (c4||(!decide (7≤s.Kind)&&decide (0<s.Then.length)))=c5
 refine Dd ?_ (by simp)
 cases c5<;>cases q:(s.Kind !=7)<;>((repeat refine qc (by simp [-aF,q];rfl) ?_);exact qf (by simp [q]))
theorem akt{k:Nat}{s:Stmt}{b:Bool}(hn:uD p i s=false)(hb:(if s.Kind=2 then (p.Funcs[s.Other.toNat]?).map fun f=>decide (s.Args.length≠f.Params.length) else some false)=some b):run G Ω0 E0 (HY (HY Yc)) (tR p i l k s [(9,I s.Kind)])=some (.nrm,tR p i l k s [(9,I s.Kind),(153,.b b)]):=by
 apply N3 rfl (by simp)
 refine De ?_ (by simp)
 cases q:(s.Kind==2)
 ·rw [aa (ne_of_beq_false q)] at hb
  obtain rfl:=af hb
  ((repeat refine wk (by simp [-aF,q];rfl) ?_);exact wm (by simp [q]))
 ·have q1:=eq_of_beq q
  rw [ab q1] at hb
  obtain ⟨f,ac,ax⟩:=db.1 hb
  have az:¬s.Other<0:=fun S=>by simp [uD,iv,q1,S] at hn
  obtain ⟨j,hj⟩:∃ j:Nat,s.Other=j:=⟨s.Other.toNat,by omega⟩
  rw [hj] at ac
  have ac:p.Funcs[j]? =some f:=by simpa using ac
  subst ax
  have q2:((s.Args.length:Int) !=(f.Params.length:Int))=decide (s.Args.length≠f.Params.length):=by
   by_cases q3:s.Args.length=f.Params.length
   ·simp [q3]
   ·rw [aA q3]
    simp only [uP,ne_eq]
    omega
  ((repeat refine wk (by simp [-aF,q,hj,ac,eO];rfl) ?_);exact wm (by simp [q,q2]))
theorem amM{k:Nat}{s:Stmt} : run G Ω0 E0 (HY SE) (tR p i l k s [(9,I s.Kind)])=some (.nrm,tR p i l k s [(9,I s.Kind),(11,.b (lS s))]):=by
 show run G Ω0 E0 (.rg _ _ _ _) _=_
 by_cases a1:s.Expr.Kind=0<;>by_cases a2:s.Expr.N=0<;>by_cases a3:s.Expr.Args.length=0<;>simp [a1,a2,a3,lS]
abbrev sR(k:Nat):St:=⟨[(1,I i),(2,.l 92 (l.map bK)),(3,.p ⟨0,3⟩ 0),(7,I k)],[(3,av p)],H0⟩
theorem ZL{k:Nat}(hk:k<l.length)(hl:l.length≤9223372036854775807){s:Stmt}(hs:l[k]? =some s)
  (u:∀ t r,(t=s.Then∨t=s.Else)→c9 p i t=some r→call G Ω0 E0 51 [.a (av p),I i,.l 92 (t.map bK)] H0=some (.ret (I r),H0)) {y:Int} (h:R2 p i s=some y) :
  Nx E0 NS (sR p i l k) fun q=>(y≠0∧q=(.ret,⟨[(6,I y)],[],H0⟩))∨(y=0∧q=(.nrm,sR p i l (k+1))):=by
 have hw:IntKind.i64.wrap ((k:Int)+1)=(k:Int)+1:=wrap64 (by omega) (by omega)
 have hB:∀ a b c:Int,∀ st,aF (call G Ω0) Ω0 E0 st 0 50 [I a,I b,I c]=some (.b (decide (b≤a∧a≤c)),st):=fun a b c=>aZ (E:=E0) (iD a b c _ (Cd a b c)) (by simp) (by simp)
 rw [afX] at h
 obtain ⟨x,hx,h⟩:=ah.1 h
 unfold PA at hx
 apply bI
 apply bI
 apply cR (by simp [hk];rfl)
 refine jW true (by simp [hk]) (fun _=>?_) (fun hq=>by cases hq)
 apply ob
 apply qh
 apply bI
 apply B0
 apply bI
 apply cR (st1:=tR p i l k s []) (by simp [hs,jm])
 apply bI
 apply cR (st1:=tR p i l k s [(9,I s.Kind)]) (by simp)
 apply bI
 apply bI
 apply cR (st1:=tR p i l k s [(9,I s.Kind),(28,.b (!decide (1≤s.Kind∧s.Kind≤8)))]) (by simp [-aF,hB])
 apply jW (!decide (1≤s.Kind∧s.Kind≤8)) (by simp)
 ·intro hq
  have hq:¬(1≤s.Kind∧s.Kind≤8):=BB ((gO _).mp hq)
  rw [ab hq] at hx
  obtain rfl:=af hx
  rw [ab (by decide)] at h
  obtain rfl:=af h
  apply bI
  apply cR (by simp;rfl)
  exact oP (.inl ⟨by decide,rfl⟩)
 intro hq
 have hq:1≤s.Kind∧s.Kind≤8:=rW ((Bool.not_eq_false' _).mp hq)
 rw [aa (fun hn=>hn hq)] at hx
 by_cases ae:p.Vars.length≤1000000∧-1000000≤rj p i s.Kind∧rj p i s.Kind≤1000000
 case neg=>rw [ab ae] at hx;cases hx
 rw [aa (fun hn=>hn ae)] at hx
 unfold Lo at hx
 have hV:∀ st,aF (call G Ω0) Ω0 E0 st 0 115 [I s.Kind]=some (.b (fv s.Kind),st):=aZ (E:=E0) (Nt s.Kind _ (Vh hq)) (by simp) (by simp)
 have hE:∀ st,aF (call G Ω0) Ω0 E0 st 0 77 [I s.Kind]=some (.b (eP s.Kind),st):=aZ (E:=E0) (DI s.Kind _ (Kl hq)) (by simp) (by simp)
 have C:Cs s:=⟨hB,hV,hE,hB _ _ _⟩
 apply ob
 apply qh
 apply bI
 apply cR (st1:=tR p i l k s [(9,I s.Kind),(10,I (rj p i s.Kind))])
 ·obtain ⟨j,hj⟩:∃ j:Nat,s.Kind=j:=⟨s.Kind.toNat,by omega⟩
  have hg:=ZK p i (j:=j) (by omega)
  simp [hj,hg]
 apply bI
 apply bI
 refine cR (amL p i l ae C) ?_
 apply jW (uD p i s) (by simp)
 ·intro hn
  rw [ab hn] at hx
  obtain rfl:=af hx
  rw [ab (by decide)] at h
  obtain rfl:=af h
  apply bI
  apply cR (by simp;rfl)
  exact oP (.inl ⟨by decide,rfl⟩)
 intro hn
 rw [aa (by simp [hn])] at hx
 apply ob
 apply qh
 apply bI
 refine cR (amM p i l) ?_
 apply bI
 apply bI
 refine cR (aks p i l C) ?_
 apply jW (zX s) (by simp)
 ·intro hf
  rw [ab hf] at hx
  obtain rfl:=af hx
  rw [ab (by decide)] at h
  obtain rfl:=af h
  apply bI
  apply cR (by simp;rfl)
  exact oP (.inl ⟨by decide,rfl⟩)
 intro hf
 rw [aa (by simp [hf])] at hx
 obtain ⟨b,hb,hx⟩:=ah.1 hx
 apply ob
 apply qh
 apply bI
 apply bI
 refine cR (akt p i l hn hb) ?_
 apply jW b (by simp)
 ·intro am
  rw [ab am] at hx
  obtain rfl:=af hx
  rw [ab (by decide)] at h
  obtain rfl:=af h
  apply bI
  apply cR (by simp;rfl)
  exact oP (.inl ⟨by decide,rfl⟩)
 intro am
 rw [aa (by simp [am])] at hx
 obtain ⟨x0,Z,hx⟩:=ah.1 hx
 have e5:x0=0→s.Args.length≤9223372036854775807:=fun h0=>by
  rw [aa (by simp [h0])] at hx
  split at hx
  ·assumption
  ·cases hx
 have e6:(if x0≠0 then some x0 else wo (fun e=>kx e p.Vars.length) s.Args)=some x:=by
  by_cases h0:x0=0
  ·rw [aa (by simp [h0])] at hx ⊢
   rw [ab (e5 h0)] at hx;exact hx
  ·rw [ab h0] at hx ⊢;exact hx
 apply ob
 apply qh
 apply bI
 apply cR (st1:=tR p i l k s [(9,I s.Kind),(12,I 0)]) (by simp)
 apply bI
 apply bI
 apply cR (st1:=tR p i l k s [(12,I 0),(155,.b (eP s.Kind))]) (by simp [-aF,hE])
 apply jW (eP s.Kind) (by simp)
 ·intro he
  rw [ab he] at Z
  have hX:=aZ (E:=E0) (vk s.Expr p.Vars.length x0 Z) (by simp) (by simp)
  apply cR (by simp [-aF,hX];rfl)
  refine Vl (l:=l) (k:=k) (fun h0=>.inl ⟨h0,rfl⟩) (fun h0=>cR (st1:=sR p i l (k+1)) (by simp [hw]) (.inr ⟨h0,rfl⟩)) u ?_ e5 e6 h
  simp
 ·intro he
  rw [aa (by simp [he])] at Z
  obtain rfl:=af Z
  apply ob
  refine Vl (l:=l) (k:=k) (fun h0=>.inl ⟨h0,rfl⟩) (fun h0=>cR (st1:=sR p i l (k+1)) (by simp [hw]) (.inr ⟨h0,rfl⟩)) u ?_ e5 e6 h
  simp
theorem Vm(hl:l.length≤9223372036854775807)
  (u:∀ s∈l,∀ t r,(t=s.Then∨t=s.Else)→c9 p i t=some r→call G Ω0 E0 51 [.a (av p),I i,.l 92 (t.map bK)] H0=some (.ret (I r),H0)) {r:Int} :
  ∀ (rest:List Stmt)(k:Nat),l.drop k=rest→HX p i rest=some r→∃ q,fH G Ω0 E0 Ye (sR p i l k)=some q∧(q=(.ret,⟨[(6,I r)],[],H0⟩)∨r=0∧∃ z,q=(.ex 0,z)∧z.hp=H0)
 | [],k,hd,h=>by
  rw [HX] at h
  obtain rfl:=af h
  have hk:¬((k:Int)<(l.length:Int)):=by
   have:=gP.1 hd;omega
  apply Exists.intro
  apply And.intro
  ·refine dD (r:=(.ex 0,?_)) ?_ (by simp)
   rotate_left
   ·show run G Ω0 _ NS (sR p i l k)=_
    apply iu
    apply aj (by simp [hk];rfl)
    apply ba (by simp [hk])
    exact dR _ _ _
  ·exact .inr ⟨rfl,_,rfl,rfl⟩
 | s::rest,k,hd,h=>by
  rw [HX] at h
  obtain ⟨y,hy,h⟩:=ah.1 h
  have S:k<l.length:=by
   have h1:=an List.length hd
   simp only [kQ,cC] at h1
   omega
  have hg:l[k]? =some s:=by
   have:=an (fun l=>l[0]?) hd
   simpa using this
  have ap:l.drop (k+1)=rest:=by
   have:=an List.tail hd
   simpa using this
  obtain ⟨q,h1,h2⟩:=ZL p i l S hl hg (u s (bg hg)) hy
  rcases h2 with ⟨h0,rfl⟩ | ⟨h0,rfl⟩
  ·rw [ab h0] at h
   obtain rfl:=af h
   exact ⟨_,dD (by exact h1) (by simp),.inl rfl⟩
  ·rw [aa (by simp [h0])] at h
   obtain ⟨q,g1,g2⟩:=Vm hl u rest (k+1) ap h
   refine ⟨q,?_,g2⟩
   rw [dz]
   exact g1
   show (run G Ω0 _ NS (sR p i l k)).bind _=_
   rw [h1];rfl
theorem R3:∀ (n:Nat)(l:List Stmt)(r:Int),SizeOf.sizeOf l≤n→c9 p i l=some r→call G Ω0 E0 51 [.a (av p),I i,.l 92 (l.map bK)] H0=some (.ret (I r),H0)
 | 0,l,r,hn,h=>by cases l<;>simp at hn
 | n+1,l,r,hn,h=>by
  unfold c9 at h
  split at h
  ·rename_i hl
   obtain ⟨q,q1,q2⟩:=Vm p i l hl (fun s hs t r ht hr=>R3 n t r (by
    have h1:=List.sizeOf_lt_of_mem hs
    obtain ⟨_,_,_,_,_,_,_⟩:=s
    simp only [Stmt.mk.sizeOf_spec] at h1
    rcases ht with rfl | rfl<;>first | omega | (simp only;omega)) hr) l 0 rfl h
   refine Ln (st:=⟨[(6,I r)],[],H0⟩) G51 ?_ (by simp [c51]) rfl
   apply bI
   apply cR (by simp;rfl)
   apply bI
   apply bI
   apply cR (st1:=sR p i l 0) (by simp)
   apply B0
   refine S8 q1 ?_
   rcases q2 with rfl | ⟨rfl,z,rfl,hz⟩
   ·rfl
   ·refine Eq.mpr (ab rfl) ?_
    apply bI
    apply cR (by simp [hz];rfl)
    exact oP rfl
  ·cases h
end
theorem zA(p:Program)(i:Int)(l:List Stmt)(r:Int)(h:c9 p i l=some r):call G Ω0 E0 51 [.a (av p),I i,.l 92 (l.map bK)] H0=some (.ret (I r),H0):=R3 p i _ l r (aV _) h
end Go.Proofs.YtkkkkondjclcnaaGreat.A
