/- Functions of the program as plain functions, by program. -/
import Derived.Test.YtlmphbbhaeampaaGreatTypes
import Derived.Test.YtlmphbbhaeampaaGreatBase
import Derived.Test.YtlmphbbhaeampaaGreatFG
set_option linter.all false
set_option maxRecDepth 100000
namespace Go.Proofs.YtlmphbbhaeampaaGreat.A
open Go
noncomputable section
variable [Lp]
section
variable (a0:ak)(a1:Int)(y:Nat)
abbrev RN(a0:ak)(a1:Int)(r:Bool):bC×HP:=(.ret (.b r),H0)
def mV:Option Bool:=
 if IntKind.i64.wrap (a0.Many - 1)=a0.Many - 1 then
  (fx a1 0 (a0.Many - 1)).bind fun r2=>
  some r2
 else none
theorem pK(r:Bool)(h:mV a0 a1=some r):call G Ω0 E0 29 [(.a [(I a0.Many),(.l 79 (a0.Grants.map bT))]),(I a1)] H0=some (RN a0 a1 r):=
 bj G29 (bt<|ao (.i (a0.Many - 1))<|xB fun r2=>.nil) fun L=>uq<|aO h fun w1 h=>ai w1<|bq h (fu a1 0 (a0.Many - 1)) fun r2 h=>L h
def kg:Option (Nat⊕(Unit⊕(Nat×Bool))):=
 if (y:Int)<(a0.Grants.length:Int) then
  (a0.Grants[y]?).bind fun y6=>
  (mV a0 y6.Who).bind fun r8=>
  if r8=true then
   (mV a0 y6.For).bind fun Z=>
   if Z=true then
    if IntKind.i64.wrap ((y:Int)+1)=((y+1:Nat):Int) then
     some (.inl (y+1))
    else none
   else
    some (.inr (.inl ()))
  else
   some (.inr (.inl ()))
 else
  some (.inr (.inr (y,decide ((y:Int)<(a0.Grants.length:Int)))))
abbrev Ip(v:Nat):St:=⟨[zP 1,(3,(I (v:Int)))],[(1,[(I a0.Many),(aX a0.Grants)])],H0⟩
abbrev uh(x:(Unit⊕(Nat×Bool))):bc×St:=match x with | .inl ()=>(.ret,⟨[(2,(I 5))],[],H0⟩) | .inr (z1,z2)=>((.ex 0),⟨[zP 1,(3,(I (z1:Int))),(16,(.b z2))],[(1,[(I a0.Many),(aX a0.Grants)])],H0⟩)
theorem G9(o:Nat⊕(Unit⊕(Nat×Bool)))(h:kg a0 y=some o):bQ E0 Yv (Ip a0) (uh a0) y o:=
 bZ (bt<|ao (.i (a0.Grants.length:Int))<|.or (ea<|ao (.n y)<|.ex fun (y6:dO)=>let A:=[(I y6.Who),(I y6.For)];ao (.v (.a A))<|xB fun r8=>.or (PI<|ao (.n y)<|ao (.v (.a A))<|ea<|xB fun Z=>gZ<|.or (bf<|ao (.i ((y+1:Nat):Int))<|.nil) (bt<|.nil)) (bf<|bf<|bf<|bf<|bf<|bf<|bf<|bf<|bf<|bt<|bt<|.nil)) (bf<|.nil)) fun L=>ai (rfl:Z0)<|ai (aP bT a0.Grants)<|cw h (fun h5 h=>ai (aF h5)<|ai tt<|ai (rfl:Z0)<|aZ<|ai (rfl:Z0)<|aZ<|ai (rI y)<|ba h fun y6 h7 h=>ai (aB bT h7)<|eH<|bq h (pK a0 y6.Who) fun r8 h=>eH<|bB h (fun aK h=>let B:=az not aK;ai (g0 B)<|ai (rfl:Z0)<|wc B<|ai (rfl:Z0)<|wc B<|ai (rI y)<|ai (aB bT h7)<|wc B<|ai tt<|ai (g0 B)<|bq h (pK a0 y6.For) fun Z h=>iD B<|bB h (fun a4 h=>ai (az not a4)<|aO h fun bu h=>ai bu<|L h) (fun a4 h=>ai (az not a4)<|L h)) (fun aK h=>let C:=az not aK;fy C<|fy C<|fy C<|ai C<|ai tt<|L h)) (fun h5 h=>ai (aD h5)<|L h)
abbrev Lk(a0:ak)(r:Int):bC×HP:=(.ret (I r),H0)
def rL:Option Int:=
 (fx a0.Many 1 6).bind fun r1=>
 if r1=true then
  if 20<(a0.Grants.length:Int) then
   some 2
  else
   (lp (fun v=>kg a0 v) 0).bind fun x5=>match x5 with
   | .inl aY=>
    some 5
   | .inr aV=>
    some 0
 else
  some 3
theorem Ha(r:Int)(h:rL a0=some r):call G Ω0 E0 40 [(.a [(I a0.Many),(.l 79 (a0.Grants.map bT))])] H0=some (Lk a0 r):=
 bj G40 (bt<|xB fun r1=>.or (we<|ao (.i (a0.Grants.length:Int))<|oN (.or (.ex fun (aY:Unit)=>ao (.cA (uh a0 (.inl aY)))<|.nil) (.ex fun (aV:(Nat×Bool))=>ao (.cA (uh a0 (.inr aV)))<|.nil))) (bt<|.nil)) fun L=>uq<|bq h (fu a0.Many 1 6) fun r1 h=>bB h (fun h3 h=>lG (az not h3)<|ai (aP bT a0.Grants)<|cw h (fun h4 h=>ai (aF h4)<|L h) (fun h4 h=>ai (aD h4)<|dv h (dT (G9 a0) 0) (fun aY h=>L h) (fun aV h=>L h))) (fun h3 h=>ai (az not h3)<|L h)
end
section
variable (a0:ak)(a1:(List cp))(f:Nat)(k:Nat)(j:Nat)
def fW:Option (Nat⊕(Unit⊕(Nat×Bool))):=
 (a1[f]?).bind fun y9=>
 if (k:Int)<(y9.Names.length:Int) then
  (y9.Names[k]?).bind fun T=>
  (mV a0 T).bind fun bz=>
  if bz=true then
   if IntKind.i64.wrap ((k:Int)+1)=((k+1:Nat):Int) then
    some (.inl (k+1))
   else none
  else
   some (.inr (.inl ()))
 else
  some (.inr (.inr (k,decide ((k:Int)<(y9.Names.length:Int)))))
abbrev FE(v:Nat):St:=⟨[(1,(bE a1)),zP 2,(5,(zI f)),(6,(I (v:Int)))],[(2,[(I a0.Many),(aX a0.Grants)])],H0⟩
abbrev rm(x:(Unit⊕(Nat×Bool))):bc×St:=match x with | .inl ()=>(.ret,⟨[(4,(I 5))],[],H0⟩) | .inr (z1,z2)=>((.ex 2),⟨[(1,(bE a1)),zP 2,(5,(zI f)),(6,(I (z1:Int))),(39,(.b z2))],[(2,[(I a0.Many),(aX a0.Grants)])],H0⟩)
theorem E9(o:Nat⊕(Unit⊕(Nat×Bool)))(h:fW a0 a1 f k=some o):bQ E0 YV (FE a0 a1 f) (rm a0 a1 f) k o:=
 bZ (ao (.n f)<|.ex fun (y9:cp)=>let A:=[(I y9.Owner),(aS y9.Names)];ao (.v (.a A))<|ao (.i (y9.Names.length:Int))<|.or (cM<|ao (.n f)<|ao (.v (.a A))<|ao (.n k)<|xI fun T=>xB fun bz=>.or (bf<|ao (.i ((k+1:Nat):Int))<|.nil) (bt<|.nil)) (bf<|.nil)) fun L=>ai (rI f)<|ba h fun y9 aK h=>ai (aB bV aK)<|ai (aP I y9.Names)<|cw h (fun a7 h=>TI (aF a7)<|ai (rI f)<|ai (aB bV aK)<|fH<|ai (rI k)<|ba h fun T a4 h=>ai (aB I a4)<|aZ<|bq h (pK a0 T) fun bz h=>bB h (fun aM h=>ai (az not aM)<|aO h fun br h=>ai br<|L h) (fun aM h=>ai (az not aM)<|L h)) (fun a7 h=>ai (aD a7)<|L h)
def fc:Option (Nat⊕(Unit⊕(Nat×Bool))):=
 (a1[f]?).bind fun T=>
 if (j:Int)<(T.Names.length:Int) then
  (T.Names[j]?).bind fun aE=>
  if IntKind.i64.wrap ((j:Int) - 1)=(j:Int) - 1 then
   (cU ((j:Int) - 1)).bind fun j18=>
   (T.Names[j18]?).bind fun bn=>
   if aE≤bn then
    some (.inr (.inl ()))
   else
    if IntKind.i64.wrap ((j:Int)+1)=((j+1:Nat):Int) then
     some (.inl (j+1))
    else none
  else none
 else
  some (.inr (.inr (j,decide ((j:Int)<(T.Names.length:Int)))))
abbrev FF(v:Nat):St:=⟨[(1,(bE a1)),zP 2,(5,(zI f)),(7,(I (v:Int)))],[(2,[(I a0.Many),(aX a0.Grants)])],H0⟩
abbrev rn(x:(Unit⊕(Nat×Bool))):bc×St:=match x with | .inl ()=>(.ret,⟨[(4,(I 4))],[],H0⟩) | .inr (z1,z2)=>((.ex 4),⟨[(1,(bE a1)),zP 2,(5,(zI f)),(7,(I (z1:Int))),(60,(.b z2))],[(2,[(I a0.Many),(aX a0.Grants)])],H0⟩)
theorem Fa(o:Nat⊕(Unit⊕(Nat×Bool)))(h:fc a1 f j=some o):bQ E0 YW (FF a0 a1 f) (rn a0 a1 f) j o:=
 bZ (ao (.n f)<|.ex fun (T:cp)=>let A:=[(I T.Owner),(aS T.Names)];ao (.v (.a A))<|ao (.i (T.Names.length:Int))<|.or (bt<|ao (.n f)<|ao (.v (.a A))<|ao (.n j)<|xI fun aE=>ao (.n f)<|ao (.v (.a A))<|ao (.i ((j:Int) - 1))<|xN fun j18=>xI fun bn=>oN (ao (.i ((j+1:Nat):Int))<|.nil)) (bf<|.nil)) fun L=>ai (rI f)<|ba h fun T a4 h=>let B:=aB bV a4;ai B<|ai (aP I T.Names)<|cw h (fun aJ h=>wa (aF aJ)<|ai (rI f)<|ai B<|fH<|ai (rI j)<|ba h fun aE aM h=>ai (aB I aM)<|fH<|ai (rI f)<|ai B<|fH<|aO h fun br h=>ai br<|ai tt<|dM h fun j18 a3 h=>ai a3<|ba h fun bn aA h=>ai (aB I aA)<|aZ<|cw h (fun ay h=>ai (aF ay)<|L h) (fun ay h=>ai (aD ay)<|aO h fun bp h=>ai bp<|L h)) (fun aJ h=>ai (aD aJ)<|L h)
def eg:Option (Nat⊕(Unit⊕(Unit⊕(Unit⊕(Nat×Bool))))):=
 if (f:Int)<(a1.length:Int) then
  (a1[f]?).bind fun y3=>
  (mV a0 y3.Owner).bind fun r5=>
  if r5=true then
   if 6<(y3.Names.length:Int) then
    some (.inr (.inl ()))
   else
    (lp (fun v=>fW a0 a1 f v) 0).bind fun x9=>match x9 with
    | .inl aw=>
     some (.inr (.inr (.inl ())))
    | .inr an=>
     (lp (fun v=>fc a1 f v) 1).bind fun O=>match O with
     | .inl av=>
      some (.inr (.inr (.inr (.inl ()))))
     | .inr am=>
      if IntKind.i64.wrap ((f:Int)+1)=((f+1:Nat):Int) then
       some (.inl (f+1))
      else none
  else
   some (.inr (.inr (.inl ())))
 else
  some (.inr (.inr (.inr (.inr (f,decide ((f:Int)<(a1.length:Int)))))))
abbrev FG(v:Nat):St:=⟨[(1,(bE a1)),zP 2,(5,(I (v:Int)))],[(2,[(I a0.Many),(aX a0.Grants)])],H0⟩
abbrev kD(x:(Unit⊕(Unit⊕(Unit⊕(Nat×Bool))))):bc×St:=match x with | .inl ()=>(.ret,⟨[(4,(I 2))],[],H0⟩) | .inr (.inl ())=>(.ret,⟨[(4,(I 5))],[],H0⟩) | .inr (.inr (.inl ()))=>(.ret,⟨[(4,(I 4))],[],H0⟩) | .inr (.inr (.inr (z1,z2)))=>((.ex 0),⟨[(1,(bE a1)),zP 2,(5,(I (z1:Int))),(14,(.b z2))],[(2,[(I a0.Many),(aX a0.Grants)])],H0⟩)
theorem Fb(o:Nat⊕(Unit⊕(Unit⊕(Unit⊕(Nat×Bool)))))(h:eg a0 a1 f=some o):bQ E0 YX (FG a0 a1) (kD a0 a1) f o:=
 bZ (ao (.i (a1.length:Int))<|.or (cM<|ao (.n f)<|.ex fun (y3:cp)=>let A:=[(I y3.Owner),(aS y3.Names)];ao (.v (.a A))<|xB fun r5=>.or (bf<|ao (.n f)<|ao (.v (.a A))<|ao (.i (y3.Names.length:Int))<|oN (.or (.ex fun (aw:Unit)=>ao (.cA (rm a0 a1 f (.inl aw)))<|.nil) (.ex fun (an:(Nat×Bool))=>ao (.cA (rm a0 a1 f (.inr an)))<|.or (.ex fun (av:Unit)=>ao (.cA (rn a0 a1 f (.inl av)))<|.nil) (.ex fun (am:(Nat×Bool))=>ao (.cA (rn a0 a1 f (.inr am)))<|ao (.i ((f+1:Nat):Int))<|.nil)))) (bt<|.nil)) (bf<|.nil)) fun L=>ai (aP bV a1)<|cw h (fun h2 h=>TI (aF h2)<|ai (rI f)<|ba h fun y3 h4 h=>ai (aB bV h4)<|eH<|bq h (pK a0 y3.Owner) fun r5 h=>bB h (fun h7 h=>ai (az not h7)<|ai (rI f)<|ai (aB bV h4)<|ai (aP I y3.Names)<|cw h (fun h8 h=>ai (aF h8)<|L h) (fun h8 h=>ai (aD h8)<|dv h (dT (E9 a0 a1 f) 0) (fun aw h=>L h) (fun an h=>dv h (dT (Fa a0 a1 f) 1) (fun av h=>L h) (fun am h=>aO h fun bs h=>ai bs<|L h)))) (fun h7 h=>ai (az not h7)<|L h)) (fun h2 h=>ai (aD h2)<|L h)
abbrev Iq(a0:ak)(a1:(List cp))(r:Int):bC×HP:=(.ret (I r),H0)
def mm:Option Int:=
 if 4<(a1.length:Int) then
  some 2
 else
  (lp (fun v=>eg a0 a1 v) 0).bind fun (x2:(Unit⊕(Unit⊕(Unit⊕(Nat×Bool)))))=>match x2 with
  | .inl S=>
   some 2
  | .inr (.inl Q)=>
   some 5
  | .inr (.inr (.inl aR))=>
   some 4
  | .inr (.inr (.inr aQ))=>
   some 0
theorem wF(r:Int)(h:mm a0 a1=some r):call G Ω0 E0 92 [(.a [(I a0.Many),(.l 79 (a0.Grants.map bT))]),(.l 155 (a1.map bV))] H0=some (Iq a0 a1 r):=
 bj G92 (ao (.i (a1.length:Int))<|oN (.or (.ex fun (S:Unit)=>ao (.cA (kD a0 a1 (.inl S)))<|.nil) (.or (.ex fun (Q:Unit)=>ao (.cA (kD a0 a1 (.inr (.inl Q))))<|.nil) (.or (.ex fun (aR:Unit)=>ao (.cA (kD a0 a1 (.inr (.inr (.inl aR)))))<|.nil) (.ex fun (aQ:(Nat×Bool))=>ao (.cA (kD a0 a1 (.inr (.inr (.inr aQ)))))<|.nil))))) fun L=>ai tt<|ai (aP bV a1)<|cw h (fun h1 h=>ai (aF h1)<|L h) (fun h1 h=>ai (aD h1)<|Kx h (dT (Fb a0 a1) 0) (fun S h=>L h) (fun Q h=>L h) (fun aR h=>L h) (fun aQ h=>L h))
end
section
variable (a0:ak)(a1:Label)
abbrev M1(a0:ak)(a1:Label)(r:Int):bC×HP:=(.ret (I r),H0)
def tK:Option Int:=
 (mm a0 a1.Read).bind fun r1=>
 if (r1==0)=true then
  (mm a0 a1.Write).bind fun r4=>
  some r4
 else
  some r1
theorem Ir(r:Int)(h:tK a0 a1=some r):call G Ω0 E0 41 [(.a [(I a0.Many),(.l 79 (a0.Grants.map bT))]),(.a [(.l 155 (a1.Read.map bV)),(.l 155 (a1.Write.map bV))])] H0=some (M1 a0 a1 r):=
 bj G41 (cM<|xI fun r1=>.or (ea<|xI fun r4=>.nil) (bf<|.nil)) fun L=>Mg<|bq h (wF a0 a1.Read) fun r1 h=>bB h (fun h3 h=>TE h3<|bq h (wF a0 a1.Write) fun r4 h=>L h) (fun h3 h=>ai h3<|L h)
end
section
variable (a0:(List Stmt))(a1:Int)
abbrev Ov(a0:(List Stmt))(a1:Int)(r:Int):bC×HP:=(.ret (I r),H0)
abbrev z6(r:Int):Prop:=call G Ω0 E0 42 [(.l 111 (a0.map bK)),(I a1)] H0=some (Ov a0 a1 r)
end
structure z7 where
 f_R_ManyStmts:(List Stmt)→Int→Option Int
structure tL(R:z7):Prop where
 f_R_ManyStmts:∀ (a0:(List Stmt))(a1:Int)(r:Int),R.f_R_ManyStmts a0 a1=some r→z6 a0 a1 r
section
variable (R:z7)(a0:(List Stmt))(a1:Int)(f:Int)(u:Nat)
def rM:Option ((Int×Nat)⊕(Bool×Int×Nat)):=
 if (u:Int)<(a0.length:Int) then
  if f≤50 then
   (a0[u]?).bind fun y5=>
   if IntKind.i64.wrap (a1+1)=a1+1 then
    (R.f_R_ManyStmts y5.Then (a1+1)).bind fun r8=>
    if IntKind.i64.wrap (1+r8)=1+r8 then
     (R.f_R_ManyStmts y5.Else (a1+1)).bind fun Z=>
     if IntKind.i64.wrap ((1+r8)+Z)=(1+r8)+Z then
      if IntKind.i64.wrap (f+((1+r8)+Z))=f+((1+r8)+Z) then
       if IntKind.i64.wrap ((u:Int)+1)=((u+1:Nat):Int) then
        some (.inl (f+((1+r8)+Z),u+1))
       else none
      else none
     else none
    else none
   else none
  else
   some (.inr (decide (f≤50),f,u))
 else
  some (.inr (false,f,u))
abbrev Ll(v:(Int×Nat)):St:=⟨[(0,(bh a0)),(1,(I a1)),(5,(I v.1)),(6,(I (v.2:Int)))],[],H0⟩
abbrev CQ(x:(Bool×Int×Nat)):bc×St:=((.ex 0),⟨[(0,(bh a0)),(1,(I a1)),(5,(I x.2.1)),(6,(I (x.2.2:Int))),(21,(.b x.1))],[],H0⟩)
theorem JO(hR:tL R)(a0:(List Stmt))(a1:Int)(f:Int)(u:Nat)(o:(Int×Nat)⊕(Bool×Int×Nat))(h:rM R a0 a1 f u=some o):bQ E0 Yw (Ll a0 a1) (CQ a0 a1) (f,u) o:=
 bZ (ao (.i (a0.length:Int))<|.or (ea<|.or (bt<|ao (.n u)<|.ex fun (y5:Stmt)=>ao (.v (.a (ax y5)))<|ao (.i (a1+1))<|xI fun r8=>ao (.i (1+r8))<|ao (.n u)<|ao (.v (.a (ax y5)))<|ao (.i (a1+1))<|xI fun Z=>ao (.i ((1+r8)+Z))<|ao (.i (f+((1+r8)+Z)))<|ao (.i ((u+1:Nat):Int))<|.nil) (bf<|.nil)) (TN<|.nil)) fun L=>ai (aP bK a0)<|cw h (fun h3 h=>ur (aF h3)<|cw h (fun h4 h=>A3 (aF h4)<|ai (rI u)<|ba h fun y5 h6 h=>ai (dR bK h6 (gE _))<|fH<|aO h fun w7 h=>ai w7<|ai tt<|bq h (hR.f_R_ManyStmts y5.Then (a1+1)) fun r8 h=>ai tt<|aO h fun cb h=>ai cb<|eH<|ai (rI u)<|ai (dR bK h6 (gE _))<|fH<|ai w7<|ai tt<|bq h (hR.f_R_ManyStmts y5.Else (a1+1)) fun Z h=>ai tt<|aO h fun bv h=>ai bv<|ai tt<|aO h fun bu h=>ai bu<|aO h fun bs h=>ai bs<|L h) (fun h4 h=>ai (aD h4)<|L h)) (fun h3 h=>dC (aD h3)<|ai (aD h3)<|ai ff<|L h)
def nF:Option (Unit⊕Int):=
 (lp (fun v=>rM R a0 a1 v.1 v.2) (0,0)).bind fun x3=>
 if 51<x3.2.1 then
  some (.inl ())
 else
  some (.inr x3.2.1)
abbrev nG(x:(Unit⊕Int)):bc×St:=match x with | .inl ()=>(.ret,⟨[(4,(I 51))],[],H0⟩) | .inr z1=>(.ret,⟨[(4,(I z1))],[],H0⟩)
theorem Ac(hR:tL R)(a0:(List Stmt))(a1:Int)(x:(Unit⊕Int))(h:nF R a0 a1=some x):run G Ω0 E0 Yx ⟨[(0,(bh a0)),(1,(I a1))],[],H0⟩=some (nG x):=
 oi (.ex fun (x3:(Bool×Int×Nat))=>ao (.cA (CQ a0 a1 x3))<|oN (.nil)) fun L=>bq h (dT (fun v=>JO R hR a0 a1 v.1 v.2) (0,0)) fun x3 h=>cw h (fun h5 h=>ai (aF h5)<|L h) (fun h5 h=>ai (aD h5)<|L h)
def tM:Option Int:=
 if 0<(a0.length:Int) then
  if 6<a1 then
   some 51
  else
   (nF R a0 a1).bind fun x3=>match x3 with
   | .inl a2=>
    some 51
   | .inr aH=>
    some aH
 else
  (nF R a0 a1).bind fun x2=>match x2 with
  | .inl S=>
   some 51
  | .inr Q=>
   some Q
theorem Is(hR:tL R)(a0:(List Stmt))(a1:Int)(r:Int)(h:tM R a0 a1=some r):z6 a0 a1 r:=
 bj G42 (ao (.i (a0.length:Int))<|.or (ea<|oN (.fb<|.or (.ex fun (a2:Unit)=>ao (.ei (nG (.inl a2)))<|.nil) (.ex fun (aH:Int)=>ao (.ei (nG (.inr aH)))<|.nil))) (TN<|.fb<|.or (.ex fun (S:Unit)=>ao (.ei (nG (.inl S)))<|.nil) (.ex fun (Q:Int)=>ao (.ei (nG (.inr Q)))<|.nil))) fun L=>ai (aP bK a0)<|cw h (fun h1 h=>ur (aF h1)<|cw h (fun h2 h=>ai (aF h2)<|L h) (fun h2 h=>ai (aD h2)<|dv h (Ac R hR a0 a1) (fun a2 h=>L h) (fun aH h=>L h))) (fun h1 h=>dC (aD h1)<|ai (aD h1)<|ai ff<|dv h (Ac R hR a0 a1) (fun S h=>L h) (fun Q h=>L h))
def ma:Nat→z7
 | 0=>⟨fun z0 z1=>none⟩
 | n+1=>⟨tM (ma n)⟩
theorem Ee:∀ n,tL (ma n)
 | 0=>⟨fun _ _ r h=>(by cases h)⟩
 | n+1=>⟨fun a0 a1 r h=>Is _ (Ee n) a0 a1 r h⟩
def uT:Option Int:=ev fun n=>(ma n).f_R_ManyStmts a0 a1
theorem BD(r:Int)(h:uT a0 a1=some r):z6 a0 a1 r:=by
 obtain ⟨n,hn⟩:=nW h
 exact (Ee n).f_R_ManyStmts a0 a1 r hn
def xa:List dE:=(gM 45 44)::⟨some 46,.fa 2 1,some ⟨45,false⟩,false⟩::⟨some 47,.ld none 46,some ⟨45,false⟩,false⟩::⟨some 48,.ln false 47,some ⟨45,false⟩,false⟩::⟨some 49,.fa 0 1,some ⟨45,false⟩,false⟩::⟨some 50,.fa 0 49,some ⟨45,false⟩,false⟩::⟨some 51,.ld none 50,some ⟨45,false⟩,false⟩::⟨some 52,.bo .gtr false 48 51,some ⟨45,false⟩,false⟩::(gp 53 (.pk 45 (.c (.b true)) 52))::[]
end
section
variable (a0:Program)(z:Nat)(N:(List Label))(k:Nat)(O:((List Label)×Nat×Bool))(j:Nat)(t:Nat)(M:Int)(s:Nat)(m:Func)(g:Nat)(q:Nat)(d:Nat)(P:Int)
def iS(aI:Bool):Option Bool:=
 if aI=true then
  some true
 else
  some (decide (a0.ak.Many<(a0.Speak.length:Int)))
abbrev kE(x:Bool):St:=⟨[zP 1,(53,(.b x))],[(1,(aL a0))],H0⟩
theorem mM(aI:Bool)(w:List AV)(x:Bool)(h:iS a0 aI=some x):q9 G Ω0 E0 [1,53] [1] xa ⟨[(44,(.b aI)),(43,(W w 0)),(42,(W w 1)),(41,(W w 2)),(40,(W w 3)),(39,(W w 4)),(38,(W w 5)),(37,(W w 6)),(36,(W w 7)),(35,(W w 8)),(34,(W w 9)),(33,(W w 10)),(32,(W w 11)),(31,(W w 12)),(30,(W w 13)),(29,(W w 14)),(28,(W w 15)),(27,(.b (decide (16<(a0.Vars.length:Int))))),(26,(.b (decide (16<(a0.Vars.length:Int))))),(25,(zI a0.Vars.length)),(24,(cF a0.Vars)),(23,(.p ⟨0,1⟩ 5)),zP 1],[(1,(aL a0))],H0⟩=some (kE a0 x):=
 qJ (.or (bf<|bf<|bf<|bf<|bf<|bf<|bf<|bt<|.nil) (mg<|ao (.i (a0.Speak.length:Int))<|TM<|.nil)) fun L=>bB h (fun h7 h=>fy h7<|fy h7<|iD h7<|L h) (fun h7 h=>Ky h7<|ai (aP I a0.Speak)<|fy h7<|ai (rfl:Z0)<|iD h7<|L h)
def FH:List dE:=(gF 23 5 1)::(gQ 24 23)::(gl 25 24)::(gB 26 .gtr 25 (kI 16))::(gM 27 26)::⟨some 28,.fa 3 1,some ⟨27,false⟩,false⟩::⟨some 29,.ld none 28,some ⟨27,false⟩,false⟩::⟨some 30,.ln false 29,some ⟨27,false⟩,false⟩::⟨some 31,.bo .gtr false 30 (kI 5),some ⟨27,false⟩,false⟩::(gp 32 (.pk 27 (.c (.b true)) 31))::(gM 33 32)::⟨some 34,.fa 4 1,some ⟨33,false⟩,false⟩::⟨some 35,.ld none 34,some ⟨33,false⟩,false⟩::⟨some 36,.ln false 35,some ⟨33,false⟩,false⟩::⟨some 37,.bo .gtr false 36 (kI 5),some ⟨33,false⟩,false⟩::(gp 38 (.pk 33 (.c (.b true)) 37))::(gM 39 38)::⟨some 40,.fa 6 1,some ⟨39,false⟩,false⟩::⟨some 41,.ld none 40,some ⟨39,false⟩,false⟩::⟨some 42,.ln false 41,some ⟨39,false⟩,false⟩::⟨some 43,.bo .gtr false 42 (kI 5),some ⟨39,false⟩,false⟩::(gp 44 (.pk 39 (.c (.b true)) 43))::xa
def nM:Option Bool:=
 if 16<(a0.Vars.length:Int) then
  (iS a0 true).bind fun x5=>
  some x5
 else
  if 5<(a0.Ins.length:Int) then
   (iS a0 true).bind fun x6=>
   some x6
  else
   if 5<(a0.Outs.length:Int) then
    (iS a0 true).bind fun x7=>
    some x7
   else
    (iS a0 (decide (5<(a0.Funcs.length:Int)))).bind fun x7=>
    some x7
abbrev xb(x:Bool):St:=⟨[zP 1,(53,(.b x))],[(1,(aL a0))],H0⟩
theorem Fc(x:Bool)(h:nM a0=some x):q9 G Ω0 E0 [1,53] [1] FH ⟨[zP 1],[(1,(aL a0))],H0⟩=some (xb a0 x):=
 let H:=zI a0.Outs.length;let F:=aN a0.Ins;let E:=some 45;let D:=zI a0.Ins.length;let C:=(a0.Funcs.length:Int);let B:=decide (5<(a0.Outs.length:Int));let A:=decide (5<(a0.Ins.length:Int));qJ (bt<|ao (.i (a0.Vars.length:Int))<|.or (ahG<|.jb E 8<|.ex fun (x5:Bool)=>ao (.jn (kE a0 x5))<|.nil) (mg<|ao (.i (a0.Ins.length:Int))<|gZ<|.or (ahH<|.jb E 8<|.ex fun (x6:Bool)=>ao (.jn (kE a0 x6))<|.nil) (mg<|ao (.i (a0.Outs.length:Int))<|gZ<|.or (TJ<|.jb E 8<|.ex fun (x7:Bool)=>ao (.jn (kE a0 x7))<|.nil) (mg<|ao (.i C)<|gZ<|.jb E 8<|.ex fun (x7:Bool)=>ao (.jn (kE a0 x7))<|.nil)))) fun L=>ai (rfl:Z0)<|ai (aP dk a0.Vars)<|cw h (fun h4 h=>fy (aF h4)<|iD (aF h4)<|nR<|nR<|ai tt<|nR<|nR<|ai tt<|bq h (mM a0 true [.sk,.sk,.sk,.sk,(.b true),(.b true),.sk,.sk,.sk,.sk,(.b true),(.b true),.sk,.sk,.sk,.sk]) fun x5 h=>L h) (fun h4 h=>Ky (aD h4)<|ai (aP aT a0.Ins)<|iD (aD h4)<|cw h (fun h5 h=>fy (aF h5)<|iD (aF h5)<|nR<|nR<|ai tt<|bq h (mM a0 true [.sk,.sk,.sk,.sk,(.b true),(.b true),.sk,.sk,.sk,.sk,(.b A),(.b A),(.b A),D,F,(.p ⟨0,1⟩ 3)]) fun x6 h=>L h) (fun h5 h=>Ky (aD h5)<|ai (aP aT a0.Outs)<|iD (aD h5)<|cw h (fun h6 h=>Zg (aF h6)<|bq h (mM a0 true [.sk,.sk,.sk,.sk,(.b B),(.b B),(.b B),H,(aN a0.Outs),(.p ⟨0,1⟩ 4),(.b A),(.b A),(.b A),D,F,(.p ⟨0,1⟩ 3)]) fun x7 h=>L h) (fun h6 h=>Ky (aD h6)<|ai (aP cS a0.Funcs)<|iD (aD h6)<|bq h (mM a0 (decide (5<C)) [(.b (decide (5<C))),(zI a0.Funcs.length),(b8 a0.Funcs),(.p ⟨0,1⟩ 6),(.b B),(.b B),(.b B),H,(aN a0.Outs),(.p ⟨0,1⟩ 4),(.b A),(.b A),(.b A),D,F,(.p ⟨0,1⟩ 3)]) fun x7 h=>L h)))
def gO:Option (Nat⊕(Unit⊕(Nat×Bool))):=
 if (z:Int)<(a0.Speak.length:Int) then
  (a0.Speak[z]?).bind fun y8=>
  (mV a0.ak y8).bind fun bA=>
  if bA=true then
   if IntKind.i64.wrap ((z:Int)+1)=((z+1:Nat):Int) then
    some (.inl (z+1))
   else none
  else
   some (.inr (.inl ()))
 else
  some (.inr (.inr (z,decide ((z:Int)<(a0.Speak.length:Int)))))
abbrev Hb(v:Nat):St:=⟨[zP 1,(4,(I (v:Int)))],[(1,(aL a0))],H0⟩
abbrev sH(x:(Unit⊕(Nat×Bool))):bc×St:=match x with | .inl ()=>(.ret,⟨[(2,(I 5))],[],H0⟩) | .inr (z1,z2)=>((.ex 0),⟨[zP 1,(4,(I (z1:Int))),(58,(.b z2))],[(1,(aL a0))],H0⟩)
theorem FI(o:Nat⊕(Unit⊕(Nat×Bool)))(h:gO a0 z=some o):bQ E0 Ya (Hb a0) (sH a0) z o:=
 bZ (bt<|ao (.i (a0.Speak.length:Int))<|.or (ea<|ao (.n z)<|xI fun y8=>xB fun bA=>.or (bf<|ao (.i ((z+1:Nat):Int))<|.nil) (bt<|.nil)) (bf<|.nil)) fun L=>ai (rfl:Z0)<|ai (aP I a0.Speak)<|cw h (fun h7 h=>ai (aF h7)<|aZ<|ai (rfl:Z0)<|aZ<|ai (rfl:Z0)<|aZ<|ai (rI z)<|ba h fun y8 h9 h=>ai (aB I h9)<|aZ<|bq h (pK a0.ak y8) fun bA h=>bB h (fun a5 h=>ai (az not a5)<|aO h fun bv h=>ai bv<|L h) (fun a5 h=>ai (az not a5)<|L h)) (fun h7 h=>ai (aD h7)<|L h)
def oC:Option (((List Label)×Nat)⊕((List Label)×Nat×Bool)):=
 if (k:Int)<(a0.Vars.length:Int) then
  (a0.Vars[k]?).bind fun aG=>
  if N.length + [aG.Label].length≤1000000000 then
   if IntKind.i64.wrap ((k:Int)+1)=((k+1:Nat):Int) then
    some (.inl (N++[aG.Label],k+1))
   else none
  else none
 else
  some (.inr (N,k,decide ((k:Int)<(a0.Vars.length:Int))))
abbrev Hc(v:((List Label)×Nat)):St:=⟨[zP 1,(5,(qY v.1)),(6,(I (v.2:Int)))],[(1,(aL a0))],H0⟩
abbrev zq(x:((List Label)×Nat×Bool)):bc×St:=((.ex 2),⟨[zP 1,(5,(qY x.1)),(6,(I (x.2.1:Int))),(81,(.b x.2.2))],[(1,(aL a0))],H0⟩)
theorem FJ(o:((List Label)×Nat)⊕((List Label)×Nat×Bool))(h:oC a0 N k=some o):bQ E0 Yb (Hc a0) (zq a0) (N,k) o:=
 bZ (bt<|ao (.i (a0.Vars.length:Int))<|.or (cM<|ao (.n k)<|.ex fun (aG:Var)=>ao (.v (.a (jk aG)))<|ao (.l ([aG.Label].map aT))<|ao (.l ((N++[aG.Label]).map aT))<|ao (.i ((k+1:Nat):Int))<|.nil) (bf<|.nil)) fun L=>ai (rfl:Z0)<|ai (aP dk a0.Vars)<|cw h (fun a5 h=>lG (aF a5)<|ai (rI k)<|ba h fun aG aJ h=>let A:=[aG.Label];let B:=A.map aT;ai (aB dk aJ)<|ai (rfl:[(.a [(bE aG.Label.Read),(bE aG.Label.Write)])]=A.map aT)<|ai ff<|aO h fun bP h=>ai ((dS aT (n:=2) (fun _=>rfl) A):B.all (fun e=>e.nc==2)=true)<|ai ((eJ bP (by decide)):((N.map aT).length+B.length)*48≤140737488355328)<|ai ((eK bP):(N.map aT).length+B.length≤maxLen)<|ai (cQ.symm:N.map aT++A.map aT=(N++A).map aT)<|aO h fun ca h=>ai ca<|L h) (fun a5 h=>ai (aD a5)<|L h)
def lx:Option (Nat⊕(Int⊕(Nat×Bool))):=
 if (j:Int)<(O.1.length:Int) then
  (O.1[j]?).bind fun aE=>
  (tK a0.ak aE).bind fun bk=>
  if (bk !=0)=true then
   some (.inr (.inl bk))
  else
   if IntKind.i64.wrap ((j:Int)+1)=((j+1:Nat):Int) then
    some (.inl (j+1))
   else none
 else
  some (.inr (.inr (j,decide ((j:Int)<(O.1.length:Int)))))
abbrev Hd(v:Nat):St:=⟨[zP 1,(5,(qY O.1)),(7,(I (v:Int)))],[(1,(aL a0))],H0⟩
abbrev sI(x:(Int⊕(Nat×Bool))):bc×St:=match x with | .inl z1=>(.ret,⟨[(2,(I z1))],[],H0⟩) | .inr (z1,z2)=>((.ex 4),⟨[zP 1,(5,(qY O.1)),(7,(I (z1:Int))),(96,(.b z2))],[(1,(aL a0))],H0⟩)
theorem FK(o:Nat⊕(Int⊕(Nat×Bool)))(h:lx a0 O j=some o):bQ E0 Yc (Hd a0 O) (sI a0 O) j o:=
 bZ (ao (.i (O.1.length:Int))<|.or (cM<|ao (.n j)<|.ex fun (aE:Label)=>let A:=[(bE aE.Read),(bE aE.Write)];ao (.v (.a A))<|ao (.v (.a A))<|xI fun bk=>oN (ao (.i ((j+1:Nat):Int))<|.nil)) (bf<|.nil)) fun L=>ai (aP aT O.1)<|cw h (fun aJ h=>ai (aF aJ)<|aZ<|ai (rfl:Z0)<|aZ<|ai tt<|ai (rI j)<|ba h fun aE aM h=>ai (aB aT aM)<|ai tt<|ai (aB aT aM)<|ai tt<|bq h (Ir a0.ak aE) fun bk h=>bB h (fun a3 h=>ai a3<|L h) (fun a3 h=>ai a3<|aO h fun b9 h=>ai b9<|L h)) (fun aJ h=>ai (aD aJ)<|L h)
def gP:Option (Nat⊕(Unit⊕(Nat×Bool))):=
 if (t:Int)<(a0.Vars.length:Int) then
  (a0.Vars[t]?).bind fun aC=>
  if aC.Known=true then
   if IntKind.i64.wrap ((t:Int)+1)=((t+1:Nat):Int) then
    some (.inl (t+1))
   else none
  else
   if 0<(aC.Label.Read.length:Int) then
    some (.inr (.inl ()))
   else
    if 0<(aC.Label.Write.length:Int) then
     some (.inr (.inl ()))
    else
     if IntKind.i64.wrap ((t:Int)+1)=((t+1:Nat):Int) then
      some (.inl (t+1))
     else none
 else
  some (.inr (.inr (t,decide ((t:Int)<(a0.Vars.length:Int)))))
abbrev He(v:Nat):St:=⟨[zP 1,(9,(I (v:Int)))],[(1,(aL a0))],H0⟩
abbrev sJ(x:(Unit⊕(Nat×Bool))):bc×St:=match x with | .inl ()=>(.ret,⟨[(2,(I 1))],[],H0⟩) | .inr (z1,z2)=>((.ex 6),⟨[zP 1,(9,(I (z1:Int))),(113,(.b z2))],[(1,(aL a0))],H0⟩)
theorem FL(o:Nat⊕(Unit⊕(Nat×Bool)))(h:gP a0 t=some o):bQ E0 Yd (He a0) (sJ a0) t o:=
 bZ (bt<|ao (.i (a0.Vars.length:Int))<|.or (cM<|ao (.n t)<|.ex fun (aC:Var)=>ao (.v (.a (jk aC)))<|ea<|.or (ahK<|ao (.i ((t+1:Nat):Int))<|.nil) (pn<|ao (.i (aC.Label.Read.length:Int))<|cM<|.or (bf<|bf<|bf<|bf<|bf<|bt<|bt<|bt<|bt<|.nil) (pn<|ao (.i (aC.Label.Write.length:Int))<|bt<|bt<|bf<|bt<|oN (ao (.i ((t+1:Nat):Int))<|.nil)))) (bf<|.nil)) fun L=>ai (rfl:Z0)<|ai (aP dk a0.Vars)<|cw h (fun bO h=>lG (aF bO)<|ai (rI t)<|ba h fun aC a3 h=>ai (aB dk a3)<|IF<|bB h (fun bN h=>let A:=az not bN;dC A<|dC A<|dC A<|qg A<|ai ff<|aO h fun b7 h=>ai b7<|L h) (fun bN h=>let B:=az not bN;dC B<|ai (g1 B)<|ai (rfl:Z0)<|ai (g1 B)<|ai (aP bV aC.Label.Read)<|dC B<|cw h (fun aA h=>fy (aF aA)<|ai (g0 (aF aA))<|ai (g0 (aF aA))<|ai (g1 B)<|ai (aF aA)<|ai B<|ai tt<|L h) (fun aA h=>fy (aD aA)<|ai (rfl:Z0)<|ai (g0 (aD aA))<|ai (aP bV aC.Label.Write)<|ai (g0 (aD aA))<|ai (g1 B)<|ai (aD aA)<|ai B<|cw h (fun ay h=>ai (aF ay)<|L h) (fun ay h=>ai (aD ay)<|aO h fun bp h=>ai bp<|L h)))) (fun bO h=>ai (aD bO)<|L h)
def oD:Option ((Int×Nat)⊕(Int×Nat×Bool)):=
 if (s:Int)<(a0.Funcs.length:Int) then
  (a0.Funcs[s]?).bind fun a8=>
  (uT a8.Body 1).bind fun a6=>
  if IntKind.i64.wrap (M+a6)=M+a6 then
   if IntKind.i64.wrap ((s:Int)+1)=((s+1:Nat):Int) then
    some (.inl (M+a6,s+1))
   else none
  else none
 else
  some (.inr (M,s,decide ((s:Int)<(a0.Funcs.length:Int))))
abbrev Hf(v:(Int×Nat)):St:=⟨[zP 1,(11,(I v.1)),(12,(I (v.2:Int)))],[(1,(aL a0))],H0⟩
abbrev zr(x:(Int×Nat×Bool)):bc×St:=((.ex 8),⟨[zP 1,(11,(I x.1)),(12,(I (x.2.1:Int))),(145,(.b x.2.2))],[(1,(aL a0))],H0⟩)
theorem FM(o:(Int×Nat)⊕(Int×Nat×Bool))(h:oD a0 M s=some o):bQ E0 Ye (Hf a0) (zr a0) (M,s) o:=
 bZ (bt<|ao (.i (a0.Funcs.length:Int))<|.or (cM<|ao (.n s)<|.ex fun (a8:Func)=>ao (.v (.a (cB a8)))<|xI fun a6=>ao (.i (M+a6))<|ao (.i ((s+1:Nat):Int))<|.nil) (bf<|.nil)) fun L=>ai (rfl:Z0)<|ai (aP cS a0.Funcs)<|cw h (fun ay h=>lG (aF ay)<|ai (rI s)<|ba h fun a8 bb h=>ai (aB cS bb)<|bq h (BD a8.Body 1) fun a6 h=>aO h fun b6 h=>ai b6<|aO h fun b5 h=>ai b5<|L h) (fun ay h=>ai (aD ay)<|L h)
def gR:Option (Nat⊕(Unit⊕(Nat×Bool))):=
 if (q:Int)<(g:Int) then
  (m.Params[q]?).bind fun bm=>
  (m.Params[g]?).bind fun bl=>
  if (bm==bl)=true then
   some (.inr (.inl ()))
  else
   if IntKind.i64.wrap ((q:Int)+1)=((q+1:Nat):Int) then
    some (.inl (q+1))
   else none
 else
  some (.inr (.inr (q,decide ((q:Int)<(g:Int)))))
abbrev Hg(m:Func)(g:Nat)(v:Nat):St:=⟨[zP 1,(13,(zI d)),zP 14,(15,(zI g)),(16,(I (v:Int)))],[(1,(aL a0)),(14,(cB m))],H0⟩
abbrev sK(m:Func)(g:Nat)(x:(Unit⊕(Nat×Bool))):bc×St:=match x with | .inl ()=>(.ret,⟨[(2,(I 6))],[],H0⟩) | .inr (z1,z2)=>((.ex 14),⟨[zP 1,(13,(zI d)),zP 14,(15,(zI g)),(16,(I (z1:Int))),(195,(.b z2))],[(1,(aL a0)),(14,(cB m))],H0⟩)
theorem FN(m:Func)(g:Nat)(q:Nat)(o:Nat⊕(Unit⊕(Nat×Bool)))(h:gR m g q=some o):bQ E0 Yf (Hg a0 d m g) (sK a0 d m g) q o:=
 bZ (.or (cM<|ao (.n q)<|xI fun bm=>bt<|ao (.n g)<|xI fun bl=>oN (ao (.i ((q+1:Nat):Int))<|.nil)) (bf<|.nil)) fun L=>cw h (fun bG h=>ai (aF bG)<|aZ<|ai (rfl:Z0)<|aZ<|ai (rI q)<|ba h fun bm cd h=>ai (aB I cd)<|aZ<|ai tt<|ai (rfl:Z0)<|aZ<|ai (rI g)<|ba h fun bl cc h=>ai (aB I cc)<|aZ<|bB h (fun bD h=>ai bD<|L h) (fun bD h=>ai bD<|aO h fun b1 h=>ai b1<|L h)) (fun bG h=>ai (aD bG)<|L h)
def oE:Option (Nat⊕(Unit⊕(Unit⊕(Nat×Bool)))):=
 if (g:Int)<(m.Params.length:Int) then
  (m.Params[g]?).bind fun bd=>
  if IntKind.i64.wrap ((a0.Vars.length:Int) - 1)=(a0.Vars.length:Int) - 1 then
   (fx bd 0 ((a0.Vars.length:Int) - 1)).bind fun bw=>
   if bw=true then
    (lp (fun v=>gR m g v) 0).bind fun bS=>match bS with
    | .inl ap=>
     some (.inr (.inl ()))
    | .inr ae=>
     if IntKind.i64.wrap ((g:Int)+1)=((g+1:Nat):Int) then
      some (.inl (g+1))
     else none
   else
    some (.inr (.inr (.inl ())))
  else none
 else
  some (.inr (.inr (.inr (g,decide ((g:Int)<(m.Params.length:Int))))))
abbrev Hh(m:Func)(v:Nat):St:=⟨[zP 1,(13,(zI d)),zP 14,(15,(I (v:Int)))],[(1,(aL a0)),(14,(cB m))],H0⟩
abbrev oF(m:Func)(x:(Unit⊕(Unit⊕(Nat×Bool)))):bc×St:=match x with | .inl ()=>(.ret,⟨[(2,(I 6))],[],H0⟩) | .inr (.inl ())=>(.ret,⟨[(2,(I 5))],[],H0⟩) | .inr (.inr (z1,z2))=>((.ex 12),⟨[zP 1,(13,(zI d)),zP 14,(15,(I (z1:Int))),(179,(.b z2))],[(1,(aL a0)),(14,(cB m))],H0⟩)
theorem FO(m:Func)(g:Nat)(o:Nat⊕(Unit⊕(Unit⊕(Nat×Bool))))(h:oE a0 m g=some o):bQ E0 Yg (Hh a0 d m) (oF a0 d m) g o:=
 let A:=(a0.Vars.length:Int);bZ (bt<|ao (.i (m.Params.length:Int))<|.or (cM<|ao (.n g)<|xI fun bd=>bt<|ao (.i A)<|ao (.i (A - 1))<|xB fun bw=>.or (bf<|.or (.ex fun (ap:Unit)=>ao (.cA (sK a0 d m g (.inl ap)))<|.nil) (.ex fun (ae:(Nat×Bool))=>ao (.cA (sK a0 d m g (.inr ae)))<|ao (.i ((g+1:Nat):Int))<|.nil)) (bt<|.nil)) (bf<|.nil)) fun L=>ai (rfl:Z0)<|ai (aP I m.Params)<|cw h (fun bJ h=>ai (aF bJ)<|aZ<|ai (rfl:Z0)<|aZ<|ai (rI g)<|ba h fun bd ce h=>ai (aB I ce)<|aZ<|ai tt<|l3<|ai (aP dk a0.Vars)<|ai tt<|aO h fun II h=>ai II<|ai tt<|bq h (fu bd 0 (A - 1)) fun bw h=>bB h (fun bH h=>ai (az not bH)<|dv h (dT (FN a0 d m g) 0) (fun ap h=>L h) (fun ae h=>aO h fun b3 h=>ai b3<|L h)) (fun bH h=>ai (az not bH)<|L h)) (fun bJ h=>ai (aD bJ)<|L h)
def j0:Option (Int⊕(Int×Bool)):=
 if (P !=0)=true then
  some (.inl P)
 else
  some (.inr (P,P !=0))
abbrev ka(x:(Int⊕(Int×Bool))):bc×St:=match x with | .inl z1=>(.ret,⟨[(2,(I z1))],[],H0⟩) | .inr (z1,z2)=>(.nrm,⟨[zP 1,(3,(I z1)),(13,(zI d)),(223,(.b z2))],[(1,(aL a0))],H0⟩)
theorem vJ(x:(Int⊕(Int×Bool)))(h:j0 P=some x):run G Ω0 E0 Uw ⟨[zP 1,(3,(I P)),(13,(zI d))],[(1,(aL a0))],H0⟩=some (ka a0 d x):=
 oi (oN (.nil)) fun L=>bB h (fun bF h=>ai bF<|L h) (fun bF h=>ai bF<|L h)
def oG:Option (Nat⊕(Unit⊕(Unit⊕(Unit⊕(Int⊕(Nat×Bool)))))):=
 if (d:Int)<(a0.Funcs.length:Int) then
  (a0.Funcs[d]?).bind fun m=>
  if 4<(m.Params.length:Int) then
   some (.inr (.inl ()))
  else
   (lp (fun v=>oE a0 m v) 0).bind fun bW=>match bW with
   | .inl aq=>
    some (.inr (.inr (.inl ())))
   | .inr (.inl ag)=>
    some (.inr (.inr (.inr (.inl ()))))
   | .inr (.inr ab)=>
    (dI a0 (d:Int) m.Body).bind fun a9=>
    if (a9==0)=true then
     (ko m.Result (a0.Vars.length:Int)).bind fun bg=>
     (j0 bg).bind fun bR=>match bR with
     | .inl V=>
      some (.inr (.inr (.inr (.inr (.inl V)))))
     | .inr ad=>
      if IntKind.i64.wrap ((d:Int)+1)=((d+1:Nat):Int) then
       some (.inl (d+1))
      else none
    else
     (j0 a9).bind fun bU=>match bU with
     | .inl X=>
      some (.inr (.inr (.inr (.inr (.inl X)))))
     | .inr af=>
      if IntKind.i64.wrap ((d:Int)+1)=((d+1:Nat):Int) then
       some (.inl (d+1))
      else none
 else
  some (.inr (.inr (.inr (.inr (.inr (d,decide ((d:Int)<(a0.Funcs.length:Int))))))))
abbrev Hi(v:Nat):St:=⟨[zP 1,(13,(I (v:Int)))],[(1,(aL a0))],H0⟩
abbrev ju(x:(Unit⊕(Unit⊕(Unit⊕(Int⊕(Nat×Bool)))))):bc×St:=match x with | .inl ()=>(.ret,⟨[(2,(I 2))],[],H0⟩) | .inr (.inl ())=>(.ret,⟨[(2,(I 6))],[],H0⟩) | .inr (.inr (.inl ()))=>(.ret,⟨[(2,(I 5))],[],H0⟩) | .inr (.inr (.inr (.inl z1)))=>(.ret,⟨[(2,(I z1))],[],H0⟩) | .inr (.inr (.inr (.inr (z1,z2))))=>((.ex 10),⟨[zP 1,(13,(I (z1:Int))),(163,(.b z2))],[(1,(aL a0))],H0⟩)
theorem FP(o:Nat⊕(Unit⊕(Unit⊕(Unit⊕(Int⊕(Nat×Bool))))))(h:oG a0 d=some o):bQ E0 Yh (Hi a0) (ju a0) d o:=
 let B:=((d+1:Nat):Int);let A:=(a0.Vars.length:Int);bZ (bt<|ao (.i (a0.Funcs.length:Int))<|.or (cM<|ao (.n d)<|.ex fun (m:Func)=>ao (.v (.a (cB m)))<|ea<|ao (.i (m.Params.length:Int))<|oN (.or (.ex fun (aq:Unit)=>ao (.cA (oF a0 d m (.inl aq)))<|.nil) (.or (.ex fun (ag:Unit)=>ao (.cA (oF a0 d m (.inr (.inl ag))))<|.nil) (.ex fun (ab:(Nat×Bool))=>ao (.cA (oF a0 d m (.inr (.inr ab))))<|cM<|xI fun a9=>.or (ea<|ao (.i A)<|xI fun bg=>.fb<|.or (.ex fun (V:Int)=>ao (.ei (ka a0 d (.inl V)))<|.nil) (.ex fun (ad:(Int×Bool))=>ao (.ei (ka a0 d (.inr ad)))<|ao (.i B)<|.nil)) (bf<|.fb<|.or (.ex fun (X:Int)=>ao (.ei (ka a0 d (.inl X)))<|.nil) (.ex fun (af:(Int×Bool))=>ao (.ei (ka a0 d (.inr af)))<|ao (.i B)<|.nil)))))) (bf<|.nil)) fun L=>ai (rfl:Z0)<|ai (aP cS a0.Funcs)<|cw h (fun bM h=>lG (aF bM)<|ai (rI d)<|ba h fun m cf h=>ai (aB cS cf)<|IF<|ai (aP I m.Params)<|cw h (fun bL h=>ai (aF bL)<|L h) (fun bL h=>ai (aD bL)<|TC h (dT (FO a0 d m) 0) (fun aq h=>L h) (fun ag h=>L h) (fun ab h=>zF<|bq h (Ab a0 (d:Int) m.Body) fun a9 h=>bB h (fun bI h=>TE bI<|ai (aP dk a0.Vars)<|bq h (vo m.Result A) fun bg h=>dv h (vJ a0 d bg) (fun V h=>L h) (fun ad h=>aO h fun b2 h=>ai b2<|L h)) (fun bI h=>ai bI<|dv h (vJ a0 d a9) (fun X h=>L h) (fun af h=>aO h fun b4 h=>ai b4<|L h))))) (fun bM h=>ai (aD bM)<|L h)
abbrev JP(a0:Program)(r:Int):bC×HP:=(.ret (I r),H0)
def qC:Option Int:=
 (rL a0.ak).bind fun r1=>
 if (r1 !=0)=true then
  some r1
 else
  (nM a0).bind fun x4=>
  if x4=true then
   some 2
  else
   (lp (fun v=>gO a0 v) 0).bind fun x7=>match x7 with
   | .inl aW=>
    some 5
   | .inr aU=>
    if ([]:List Label).length+a0.Ins.length≤1000000000 then
     if (([]:List Label)++a0.Ins).length+a0.Outs.length≤1000000000 then
      (lp (fun v=>oC a0 v.1 v.2) (((([]:List Label)++a0.Ins)++a0.Outs),0)).bind fun O=>
      (lp (fun v=>lx a0 O v) 0).bind fun b0=>match b0 with
      | .inl Y=>
       some Y
      | .inr al=>
       (lp (fun v=>gP a0 v) 0).bind fun bY=>match bY with
       | .inl au=>
        some 1
       | .inr aj=>
        (uT a0.Main 1).bind fun bi=>
        (lp (fun v=>oD a0 v.1 v.2) (bi,0)).bind fun be=>
        if 50<be.1 then
         some 2
        else
         (lp (fun v=>oG a0 v) 0).bind fun (bX:(Unit⊕(Unit⊕(Unit⊕(Int⊕(Nat×Bool))))))=>match bX with
         | .inl ar=>
          some 2
         | .inr (.inl ah)=>
          some 6
         | .inr (.inr (.inl ac))=>
          some 5
         | .inr (.inr (.inr (.inl U)))=>
          some U
         | .inr (.inr (.inr (.inr aa)))=>
          (dI a0 (a0.Funcs.length:Int) a0.Main).bind fun bx=>
          some bx
     else none
    else none
theorem FQ(r:Int)(h:qC a0=some r):call G Ω0 E0 10 [(.a (aL a0))] H0=some (JP a0 r):=
 let F:=(a0.Funcs.length:Int);let D:=a0.Ins.map aT;let C:=a0.Outs.map aT;let B:=([]:List Label);let H:=B.map aT;let A:=B++a0.Ins;let J:=A.map aT;let E:=A++a0.Outs;bj G10 (bt<|xI fun r1=>oN (.jb (some 23) 30<|.ex fun (x4:Bool)=>ao (.jn (xb a0 x4))<|oN (.or (.ex fun (aW:Unit)=>ao (.cA (sH a0 (.inl aW)))<|.nil) (.ex fun (aU:(Nat×Bool))=>ao (.cA (sH a0 (.inr aU)))<|ao (.l H)<|bt<|ao (.l J)<|bt<|ao (.l (E.map aT))<|.ex fun (O:((List Label)×Nat×Bool))=>let K:=Nat×Bool;ao (.cA (zq a0 O))<|.or (.ex fun (Y:Int)=>ao (.cA (sI a0 O (.inl Y)))<|.nil) (.ex fun (al:K)=>ao (.cA (sI a0 O (.inr al)))<|.or (.ex fun (au:Unit)=>ao (.cA (sJ a0 (.inl au)))<|.nil) (.ex fun (aj:K)=>ao (.cA (sJ a0 (.inr aj)))<|bt<|xI fun bi=>.ex fun (be:(Int×Nat×Bool))=>ao (.cA (zr a0 be))<|oN (.or (.ex fun (ar:Unit)=>ao (.cA (ju a0 (.inl ar)))<|.nil) (.or (.ex fun (ah:Unit)=>ao (.cA (ju a0 (.inr (.inl ah))))<|.nil) (.or (.ex fun (ac:Unit)=>ao (.cA (ju a0 (.inr (.inr (.inl ac)))))<|.nil) (.or (.ex fun (U:Int)=>ao (.cA (ju a0 (.inr (.inr (.inr (.inl U))))))<|.nil) (.ex fun (aa:K)=>ao (.cA (ju a0 (.inr (.inr (.inr (.inr aa))))))<|cM<|ao (.i F)<|bt<|xI fun bx=>.nil))))))))))) fun L=>uq<|bq h (Ha a0.ak) fun r1 h=>bB h (fun h3 h=>ai h3<|L h) (fun h3 h=>ai h3<|bq h (Fc a0) fun x4 h=>bB h (fun h6 h=>ai h6<|L h) (fun h6 h=>ai h6<|dv h (dT (FI a0) 0) (fun aW h=>L h) (fun aU h=>ai tt<|ai (rfl:([]:List AV)=B.map aT)<|Je<|aO h fun aK h=>ai ((dS aT (n:=2) (fun _=>rfl) a0.Ins):D.all (fun e=>e.nc==2)=true)<|ai ((eJ aK (by decide)):(H.length+D.length)*48≤140737488355328)<|ai ((eK aK):H.length+D.length≤maxLen)<|ai (cQ.symm:B.map aT++a0.Ins.map aT=A.map aT)<|Je<|aO h fun a7 h=>ai ((dS aT (n:=2) (fun _=>rfl) a0.Outs):C.all (fun e=>e.nc==2)=true)<|ai ((eJ a7 (by decide)):(J.length+C.length)*48≤140737488355328)<|ai ((eK a7):J.length+C.length≤maxLen)<|ai (cQ.symm:A.map aT++a0.Outs.map aT=E.map aT)<|bq h (dT (fun v=>FJ a0 v.1 v.2) (E,0)) fun O h=>dv h (dT (FK a0 O) 0) (fun Y h=>L h) (fun al h=>dv h (dT (FL a0) 0) (fun au h=>L h) (fun aj h=>ai (rfl:Z0)<|bq h (BD a0.Main 1) fun bi h=>bq h (dT (fun v=>FM a0 v.1 v.2) (bi,0)) fun be h=>cw h (fun bb h=>ai (aF bb)<|L h) (fun bb h=>ai (aD bb)<|Zf h (dT (FP a0) 0) (fun ar h=>L h) (fun ah h=>L h) (fun ac h=>L h) (fun U h=>L h) (fun aa h=>zF<|ai (aP cS a0.Funcs)<|ai (rfl:Z0)<|bq h (Ab a0 F a0.Main) fun bx h=>L h)))))))
end
section
variable (a0:Int)
abbrev QM(a0:Int)(r:Bool):bC×HP:=(.ret (.b r),H0)
def wG:Option Bool:=
 (fx a0 (-2147483648) 2147483647).bind fun r1=>
 some r1
theorem Lm(r:Bool)(h:wG a0=some r):call G Ω0 E0 62 [(I a0)] H0=some (QM a0 r):=
 bj G62 (xB fun r1=>.nil) fun L=>bq h (fu a0 (-2147483648) 2147483647) fun r1 h=>L h
end
end
end Go.Proofs.YtlmphbbhaeampaaGreat.A
