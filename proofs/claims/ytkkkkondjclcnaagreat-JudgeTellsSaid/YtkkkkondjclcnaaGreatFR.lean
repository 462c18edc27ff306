/- Functions of the program as plain functions, by program. -/
import Derived.Test.YtkkkkondjclcnaaGreatTypes
import Derived.Test.YtkkkkondjclcnaaGreatBase
import Derived.Test.YtkkkkondjclcnaaGreatFG
set_option linter.all false
set_option maxRecDepth 100000
namespace Go.Proofs.YtkkkkondjclcnaaGreat.A
open Go
noncomputable section
variable [Lp]
section
variable (a0:ak)(a1:Int)(y:Nat)
abbrev QS(a0:ak)(a1:Int)(r:Bool):bH×HP:=(.ret (.b r),H0)
def mB:Option Bool:=
 if IntKind.i64.wrap (a0.Many - 1)=a0.Many - 1 then
  (im a1 0 (a0.Many - 1)).bind fun r2=>
  some r2
 else none
theorem pE(r:Bool)(h:mB a0 a1=some r):call G Ω0 E0 21 [(.a [(I a0.Many),(.l 166 (a0.Grants.map ct))]),(I a1)] H0=some (QS a0 a1 r):=
 bu G21 (bt<|ao (.i (a0.Many - 1))<|xB fun r2=>.nil) fun L=>vX<|aW h fun w1 h=>ai w1<|bJ h (iD a1 0 (a0.Many - 1)) fun r2 h=>L h
def ko:Option (Nat⊕(Unit⊕(Nat×Bool))):=
 if (y:Int)<(a0.Grants.length:Int) then
  (a0.Grants[y]?).bind fun y6=>
  (mB a0 y6.Who).bind fun r8=>
  if r8=true then
   (mB a0 y6.For).bind fun S=>
   if S=true then
    if IntKind.i64.wrap ((y:Int)+1)=((y+1:Nat):Int) then
     some (.inl (y+1))
    else none
   else
    some (.inr (.inl ()))
  else
   some (.inr (.inl ()))
 else
  some (.inr (.inr (y,decide ((y:Int)<(a0.Grants.length:Int)))))
abbrev HH(v:Nat):St:=⟨[zP 1,(3,(I (v:Int)))],[(1,[(I a0.Many),(aQ a0.Grants)])],H0⟩
abbrev uf(x:(Unit⊕(Nat×Bool))):aN×St:=match x with | .inl ()=>(.ret,⟨[(2,(I 5))],[],H0⟩) | .inr (z1,z2)=>((.ex 0),⟨[zP 1,(3,(I (z1:Int))),(16,(.b z2))],[(1,[(I a0.Many),(aQ a0.Grants)])],H0⟩)
theorem Gm(o:Nat⊕(Unit⊕(Nat×Bool)))(h:ko a0 y=some o):bO E0 X4 (HH a0) (uf a0) y o:=
 bZ (bt<|ao (.i (a0.Grants.length:Int))<|.or (ja<|ao (.n y)<|.ex fun (y6:dv)=>ao (.v (.a [(I y6.Who),(I y6.For)]))<|xB fun r8=>.or (Wr<|ao (.n y)<|ao (.v (.a [(I y6.Who),(I y6.For)]))<|ja<|xB fun S=>yG<|.or (bf<|ao (.i ((y+1:Nat):Int))<|.nil) (bt<|.nil)) (bf<|bf<|bf<|bf<|bf<|bf<|bf<|bf<|bf<|bt<|bt<|.nil)) (bf<|.nil)) fun L=>ai (rfl:Z0)<|ai (aJ ct a0.Grants)<|cp h (fun h5 h=>ai (aA h5)<|ai tt<|ai (rfl:Z0)<|cg<|ai (rfl:Z0)<|cg<|ai (rI y)<|cn h fun y6 h7 h=>ai (aM ct h7)<|zb<|bJ h (pE a0 y6.Who) fun r8 h=>zb<|cG h (fun H h=>ai (g0 (an not H))<|gT<|FT (an not H)<|gT<|FT (an not H)<|ai (rI y)<|ai (aM ct h7)<|ai tt<|FT (an not H)<|ai tt<|ai (g0 (an not H))<|bJ h (pE a0 y6.For) fun S h=>oL (an not H)<|cG h (fun aE h=>ai (an not aE)<|aW h fun be h=>ai be<|L h) (fun aE h=>ai (an not aE)<|L h)) (fun H h=>cq (an not H)<|cq (an not H)<|cq (an not H)<|cq (an not H)<|oL (an not H)<|ai tt<|L h)) (fun h5 h=>ai (ay h5)<|L h)
abbrev Km(a0:ak)(r:Int):bH×HP:=(.ret (I r),H0)
def rM:Option Int:=
 (im a0.Many 1 6).bind fun r1=>
 if r1=true then
  if 20<(a0.Grants.length:Int) then
   some 2
  else
   (lp (fun v=>ko a0 v) 0).bind fun x5=>match x5 with
   | .inl aP=>
    some 5
   | .inr aL=>
    some 0
 else
  some 3
theorem Gn(r:Int)(h:rM a0=some r):call G Ω0 E0 47 [(.a [(I a0.Many),(.l 166 (a0.Grants.map ct))])] H0=some (Km a0 r):=
 bu G47 (bt<|xB fun r1=>.or (bf<|bt<|ao (.i (a0.Grants.length:Int))<|oN (.or (.ex fun (aP:Unit)=>ao (.cD (uf a0 (.inl aP)))<|.nil) (.ex fun (aL:(Nat×Bool))=>ao (.cD (uf a0 (.inr aL)))<|.nil))) (bt<|.nil)) fun L=>vX<|bJ h (iD a0.Many 1 6) fun r1 h=>cG h (fun h3 h=>oY (an not h3)<|ai (aJ ct a0.Grants)<|cp h (fun h4 h=>ai (aA h4)<|L h) (fun h4 h=>ai (ay h4)<|fc h (fC (Gm a0) 0) (fun aP h=>L h) (fun aL h=>L h))) (fun h3 h=>ai (an not h3)<|L h)
end
section
variable (a0:ak)(a1:(List bz))(f:Nat)(k:Nat)(j:Nat)
def gu:Option (Nat⊕(Unit⊕(Nat×Bool))):=
 (a1[f]?).bind fun y9=>
 if (k:Int)<(y9.Names.length:Int) then
  (y9.Names[k]?).bind fun F=>
  (mB a0 F).bind fun bk=>
  if bk=true then
   if IntKind.i64.wrap ((k:Int)+1)=((k+1:Nat):Int) then
    some (.inl (k+1))
   else none
  else
   some (.inr (.inl ()))
 else
  some (.inr (.inr (k,decide ((k:Int)<(y9.Names.length:Int)))))
abbrev E2(v:Nat):St:=⟨[(1,(bm a1)),zP 2,(5,(zI f)),(6,(I (v:Int)))],[(2,[(I a0.Many),(aQ a0.Grants)])],H0⟩
abbrev rk(x:(Unit⊕(Nat×Bool))):aN×St:=match x with | .inl ()=>(.ret,⟨[(4,(I 5))],[],H0⟩) | .inr (z1,z2)=>((.ex 2),⟨[(1,(bm a1)),zP 2,(5,(zI f)),(6,(I (z1:Int))),(39,(.b z2))],[(2,[(I a0.Many),(aQ a0.Grants)])],H0⟩)
theorem Ew(o:Nat⊕(Unit⊕(Nat×Bool)))(h:gu a0 a1 f k=some o):bO E0 TX (E2 a0 a1 f) (rk a0 a1 f) k o:=
 bZ (ao (.n f)<|.ex fun (y9:bz)=>ao (.v (.a [(I y9.Owner),(dx y9.Names)]))<|ao (.i (y9.Names.length:Int))<|.or (fN<|ao (.n f)<|ao (.v (.a [(I y9.Owner),(dx y9.Names)]))<|ao (.n k)<|xI fun F=>xB fun bk=>.or (bf<|ao (.i ((k+1:Nat):Int))<|.nil) (bt<|.nil)) (bf<|.nil)) fun L=>ai (rI f)<|cn h fun y9 H h=>ai (aM bj H)<|ai (aJ (I) y9.Names)<|cp h (fun aX h=>ai (aA aX)<|ai tt<|ai (rfl:Z0)<|cg<|ai tt<|ai (rI f)<|ai (aM bj H)<|Cw<|ai (rI k)<|cn h fun F aE h=>ai (aM (I) aE)<|cg<|bJ h (pE a0 F) fun bk h=>cG h (fun aF h=>ai (an not aF)<|aW h fun bc h=>ai bc<|L h) (fun aF h=>ai (an not aF)<|L h)) (fun aX h=>ai (ay aX)<|L h)
def fh:Option (Nat⊕(Unit⊕(Nat×Bool))):=
 (a1[f]?).bind fun F=>
 if (j:Int)<(F.Names.length:Int) then
  (F.Names[j]?).bind fun U=>
  if IntKind.i64.wrap ((j:Int) - 1)=(j:Int) - 1 then
   (dV ((j:Int) - 1)).bind fun j18=>
   (F.Names[j18]?).bind fun ba=>
   if U≤ba then
    some (.inr (.inl ()))
   else
    if IntKind.i64.wrap ((j:Int)+1)=((j+1:Nat):Int) then
     some (.inl (j+1))
    else none
  else none
 else
  some (.inr (.inr (j,decide ((j:Int)<(F.Names.length:Int)))))
abbrev E3(v:Nat):St:=⟨[(1,(bm a1)),zP 2,(5,(zI f)),(7,(I (v:Int)))],[(2,[(I a0.Many),(aQ a0.Grants)])],H0⟩
abbrev rl(x:(Unit⊕(Nat×Bool))):aN×St:=match x with | .inl ()=>(.ret,⟨[(4,(I 4))],[],H0⟩) | .inr (z1,z2)=>((.ex 4),⟨[(1,(bm a1)),zP 2,(5,(zI f)),(7,(I (z1:Int))),(60,(.b z2))],[(2,[(I a0.Many),(aQ a0.Grants)])],H0⟩)
theorem Ex(o:Nat⊕(Unit⊕(Nat×Bool)))(h:fh a1 f j=some o):bO E0 TY (E3 a0 a1 f) (rl a0 a1 f) j o:=
 bZ (ao (.n f)<|.ex fun (F:bz)=>ao (.v (.a [(I F.Owner),(dx F.Names)]))<|ao (.i (F.Names.length:Int))<|.or (bt<|ao (.n f)<|ao (.v (.a [(I F.Owner),(dx F.Names)]))<|ao (.n j)<|xI fun U=>ao (.n f)<|ao (.v (.a [(I F.Owner),(dx F.Names)]))<|ao (.i ((j:Int) - 1))<|xN fun j18=>xI fun ba=>oN (ao (.i ((j+1:Nat):Int))<|.nil)) (bf<|.nil)) fun L=>ai (rI f)<|cn h fun F aE h=>ai (aM bj aE)<|ai (aJ (I) F.Names)<|cp h (fun aC h=>Oz (aA aC)<|ai (rI f)<|ai (aM bj aE)<|Cw<|ai (rI j)<|cn h fun U aF h=>ai (aM (I) aF)<|Cw<|ai (rI f)<|ai (aM bj aE)<|Cw<|aW h fun bc h=>ai bc<|ai tt<|mZ h fun j18 aT h=>ai aT<|cn h fun ba V h=>ai (aM (I) V)<|cg<|cp h (fun aw h=>ai (aA aw)<|L h) (fun aw h=>ai (ay aw)<|aW h fun bb h=>ai bb<|L h)) (fun aC h=>ai (ay aC)<|L h)
def dY:Option (Nat⊕(Unit⊕(Unit⊕(Unit⊕(Nat×Bool))))):=
 if (f:Int)<(a1.length:Int) then
  (a1[f]?).bind fun y3=>
  (mB a0 y3.Owner).bind fun r5=>
  if r5=true then
   if 6<(y3.Names.length:Int) then
    some (.inr (.inl ()))
   else
    (lp (fun v=>gu a0 a1 f v) 0).bind fun x9=>match x9 with
    | .inl au=>
     some (.inr (.inr (.inl ())))
    | .inr aj=>
     (lp (fun v=>fh a1 f v) 1).bind fun D=>match D with
     | .inl ar=>
      some (.inr (.inr (.inr (.inl ()))))
     | .inr ah=>
      if IntKind.i64.wrap ((f:Int)+1)=((f+1:Nat):Int) then
       some (.inl (f+1))
      else none
  else
   some (.inr (.inr (.inl ())))
 else
  some (.inr (.inr (.inr (.inr (f,decide ((f:Int)<(a1.length:Int)))))))
abbrev E4(v:Nat):St:=⟨[(1,(bm a1)),zP 2,(5,(I (v:Int)))],[(2,[(I a0.Many),(aQ a0.Grants)])],H0⟩
abbrev kK(x:(Unit⊕(Unit⊕(Unit⊕(Nat×Bool))))):aN×St:=match x with | .inl ()=>(.ret,⟨[(4,(I 2))],[],H0⟩) | .inr (.inl ())=>(.ret,⟨[(4,(I 5))],[],H0⟩) | .inr (.inr (.inl ()))=>(.ret,⟨[(4,(I 4))],[],H0⟩) | .inr (.inr (.inr (z1,z2)))=>((.ex 0),⟨[(1,(bm a1)),zP 2,(5,(I (z1:Int))),(14,(.b z2))],[(2,[(I a0.Many),(aQ a0.Grants)])],H0⟩)
theorem Ey(o:Nat⊕(Unit⊕(Unit⊕(Unit⊕(Nat×Bool)))))(h:dY a0 a1 f=some o):bO E0 TZ (E4 a0 a1) (kK a0 a1) f o:=
 bZ (ao (.i (a1.length:Int))<|.or (fN<|ao (.n f)<|.ex fun (y3:bz)=>ao (.v (.a [(I y3.Owner),(dx y3.Names)]))<|xB fun r5=>.or (bf<|ao (.n f)<|ao (.v (.a [(I y3.Owner),(dx y3.Names)]))<|ao (.i (y3.Names.length:Int))<|oN (.or (.ex fun (au:Unit)=>ao (.cD (rk a0 a1 f (.inl au)))<|.nil) (.ex fun (aj:(Nat×Bool))=>ao (.cD (rk a0 a1 f (.inr aj)))<|.or (.ex fun (ar:Unit)=>ao (.cD (rl a0 a1 f (.inl ar)))<|.nil) (.ex fun (ah:(Nat×Bool))=>ao (.cD (rl a0 a1 f (.inr ah)))<|ao (.i ((f+1:Nat):Int))<|.nil)))) (bt<|.nil)) (bf<|.nil)) fun L=>ai (aJ bj a1)<|cp h (fun h2 h=>ai (aA h2)<|ai tt<|ai (rfl:Z0)<|cg<|ai tt<|ai (rI f)<|cn h fun y3 h4 h=>ai (aM bj h4)<|zb<|bJ h (pE a0 y3.Owner) fun r5 h=>cG h (fun h7 h=>ai (an not h7)<|ai (rI f)<|ai (aM bj h4)<|ai (aJ (I) y3.Names)<|cp h (fun h8 h=>ai (aA h8)<|L h) (fun h8 h=>ai (ay h8)<|fc h (fC (Ew a0 a1 f) 0) (fun au h=>L h) (fun aj h=>fc h (fC (Ex a0 a1 f) 1) (fun ar h=>L h) (fun ah h=>aW h fun bd h=>ai bd<|L h)))) (fun h7 h=>ai (an not h7)<|L h)) (fun h2 h=>ai (ay h2)<|L h)
abbrev HI(a0:ak)(a1:(List bz))(r:Int):bH×HP:=(.ret (I r),H0)
def lU:Option Int:=
 if 4<(a1.length:Int) then
  some 2
 else
  (lp (fun v=>dY a0 a1 v) 0).bind fun (x2:(Unit⊕(Unit⊕(Unit⊕(Nat×Bool)))))=>match x2 with
  | .inl M=>
   some 2
  | .inr (.inl J)=>
   some 5
  | .inr (.inr (.inl aI))=>
   some 4
  | .inr (.inr (.inr aG))=>
   some 0
theorem wD(r:Int)(h:lU a0 a1=some r):call G Ω0 E0 114 [(.a [(I a0.Many),(.l 166 (a0.Grants.map ct))]),(.l 138 (a1.map bj))] H0=some (HI a0 a1 r):=
 bu alU (ao (.i (a1.length:Int))<|oN (.or (.ex fun (M:Unit)=>ao (.cD (kK a0 a1 (.inl M)))<|.nil) (.or (.ex fun (J:Unit)=>ao (.cD (kK a0 a1 (.inr (.inl J))))<|.nil) (.or (.ex fun (aI:Unit)=>ao (.cD (kK a0 a1 (.inr (.inr (.inl aI)))))<|.nil) (.ex fun (aG:(Nat×Bool))=>ao (.cD (kK a0 a1 (.inr (.inr (.inr aG)))))<|.nil))))) fun L=>ai tt<|ai (aJ bj a1)<|cp h (fun h1 h=>ai (aA h1)<|L h) (fun h1 h=>ai (ay h1)<|SW h (fC (Ey a0 a1) 0) (fun M h=>L h) (fun J h=>L h) (fun aI h=>L h) (fun aG h=>L h))
end
section
variable (a0:ak)(a1:Label)
abbrev LU(a0:ak)(a1:Label)(r:Int):bH×HP:=(.ret (I r),H0)
def tI:Option Int:=
 (lU a0 a1.Read).bind fun r1=>
 if (r1==0)=true then
  (lU a0 a1.Write).bind fun r4=>
  some r4
 else
  some r1
theorem HJ(r:Int)(h:tI a0 a1=some r):call G Ω0 E0 48 [(.a [(I a0.Many),(.l 166 (a0.Grants.map ct))]),(.a [(.l 138 (a1.Read.map bj)),(.l 138 (a1.Write.map bj))])] H0=some (LU a0 a1 r):=
 bu G48 (fN<|xI fun r1=>.or (ja<|xI fun r4=>.nil) (bf<|.nil)) fun L=>cg<|lZ<|bJ h (wD a0 a1.Read) fun r1 h=>cG h (fun h3 h=>SX h3<|bJ h (wD a0 a1.Write) fun r4 h=>L h) (fun h3 h=>ai h3<|L h)
end
section
variable (a0:(List Stmt))(a1:Int)
abbrev Nu(a0:(List Stmt))(a1:Int)(r:Int):bH×HP:=(.ret (I r),H0)
abbrev zt(r:Int):Prop:=call G Ω0 E0 49 [(.l 92 (a0.map bK)),(I a1)] H0=some (Nu a0 a1 r)
end
structure zu where
 f_R_ManyStmts:(List Stmt)→Int→Option Int
structure tJ(R:zu):Prop where
 f_R_ManyStmts:∀ (a0:(List Stmt))(a1:Int)(r:Int),R.f_R_ManyStmts a0 a1=some r→zt a0 a1 r
section
variable (R:zu)(a0:(List Stmt))(a1:Int)(f:Int)(u:Nat)
def rO:Option ((Int×Nat)⊕(Bool×Int×Nat)):=
 if (u:Int)<(a0.length:Int) then
  if f≤50 then
   (a0[u]?).bind fun y5=>
   if IntKind.i64.wrap (a1+1)=a1+1 then
    (R.f_R_ManyStmts y5.Then (a1+1)).bind fun r8=>
    if IntKind.i64.wrap (1+r8)=1+r8 then
     (R.f_R_ManyStmts y5.Else (a1+1)).bind fun S=>
     if IntKind.i64.wrap ((1+r8)+S)=(1+r8)+S then
      if IntKind.i64.wrap (f+((1+r8)+S))=f+((1+r8)+S) then
       if IntKind.i64.wrap ((u:Int)+1)=((u+1:Nat):Int) then
        some (.inl (f+((1+r8)+S),u+1))
       else none
      else none
     else none
    else none
   else none
  else
   some (.inr (decide (f≤50),f,u))
 else
  some (.inr (false,f,u))
abbrev Kn(v:(Int×Nat)):St:=⟨[(0,(cM a0)),(1,(I a1)),(5,(I v.1)),(6,(I (v.2:Int)))],[],H0⟩
abbrev Ce(x:(Bool×Int×Nat)):aN×St:=((.ex 0),⟨[(0,(cM a0)),(1,(I a1)),(5,(I x.2.1)),(6,(I (x.2.2:Int))),(21,(.b x.1))],[],H0⟩)
theorem IV(hR:tJ R)(a0:(List Stmt))(a1:Int)(f:Int)(u:Nat)(o:(Int×Nat)⊕(Bool×Int×Nat))(h:rO R a0 a1 f u=some o):bO E0 X5 (Kn a0 a1) (Ce a0 a1) (f,u) o:=
 bZ (ao (.i (a0.length:Int))<|.or (ja<|.or (bt<|ao (.n u)<|.ex fun (y5:Stmt)=>ao (.v (.a (aD y5)))<|ao (.i (a1+1))<|xI fun r8=>ao (.i (1+r8))<|ao (.n u)<|ao (.v (.a (aD y5)))<|ao (.i (a1+1))<|xI fun S=>ao (.i ((1+r8)+S))<|ao (.i (f+((1+r8)+S)))<|ao (.i ((u+1:Nat):Int))<|.nil) (bf<|.nil)) (UC<|.nil)) fun L=>ai (aJ bK a0)<|cp h (fun h3 h=>vY (aA h3)<|cp h (fun h4 h=>ai (aA h4)<|cg<|cg<|ai (rI u)<|cn h fun y5 h6 h=>ai (kS bK h6 (jm _))<|Cw<|aW h fun w7 h=>ai w7<|ai tt<|bJ h (hR.f_R_ManyStmts y5.Then (a1+1)) fun r8 h=>ai tt<|aW h fun bW h=>ai bW<|zb<|ai (rI u)<|ai (kS bK h6 (jm _))<|Cw<|ai w7<|ai tt<|bJ h (hR.f_R_ManyStmts y5.Else (a1+1)) fun S h=>ai tt<|aW h fun bg h=>ai bg<|ai tt<|aW h fun be h=>ai be<|aW h fun bd h=>ai bd<|L h) (fun h4 h=>ai (ay h4)<|L h)) (fun h3 h=>cu (ay h3)<|ai (ay h3)<|ai ff<|L h)
def nr:Option (Unit⊕Int):=
 (lp (fun v=>rO R a0 a1 v.1 v.2) (0,0)).bind fun x3=>
 if 51<x3.2.1 then
  some (.inl ())
 else
  some (.inr x3.2.1)
abbrev nu(x:(Unit⊕Int)):aN×St:=match x with | .inl ()=>(.ret,⟨[(4,(I 51))],[],H0⟩) | .inr z1=>(.ret,⟨[(4,(I z1))],[],H0⟩)
theorem zB(hR:tJ R)(a0:(List Stmt))(a1:Int)(x:(Unit⊕Int))(h:nr R a0 a1=some x):run G Ω0 E0 X6 ⟨[(0,(cM a0)),(1,(I a1))],[],H0⟩=some (nu x):=
 NY (.ex fun (x3:(Bool×Int×Nat))=>ao (.cD (Ce a0 a1 x3))<|oN (.nil)) fun L=>bJ h (fC (fun v=>IV R hR a0 a1 v.1 v.2) (0,0)) fun x3 h=>cp h (fun h5 h=>ai (aA h5)<|L h) (fun h5 h=>ai (ay h5)<|L h)
def tK:Option Int:=
 if 0<(a0.length:Int) then
  if 6<a1 then
   some 51
  else
   (nr R a0 a1).bind fun x3=>match x3 with
   | .inl aR=>
    some 51
   | .inr az=>
    some az
 else
  (nr R a0 a1).bind fun x2=>match x2 with
  | .inl M=>
   some 51
  | .inr J=>
   some J
theorem HK(hR:tJ R)(a0:(List Stmt))(a1:Int)(r:Int)(h:tK R a0 a1=some r):zt a0 a1 r:=
 bu G49 (ao (.i (a0.length:Int))<|.or (ja<|oN (.fb<|.or (.ex fun (aR:Unit)=>ao (.wO (nu (.inl aR)))<|.nil) (.ex fun (az:Int)=>ao (.wO (nu (.inr az)))<|.nil))) (UC<|.fb<|.or (.ex fun (M:Unit)=>ao (.wO (nu (.inl M)))<|.nil) (.ex fun (J:Int)=>ao (.wO (nu (.inr J)))<|.nil))) fun L=>ai (aJ bK a0)<|cp h (fun h1 h=>vY (aA h1)<|cp h (fun h2 h=>ai (aA h2)<|L h) (fun h2 h=>ai (ay h2)<|fc h (zB R hR a0 a1) (fun aR h=>L h) (fun az h=>L h))) (fun h1 h=>cu (ay h1)<|ai (ay h1)<|ai ff<|fc h (zB R hR a0 a1) (fun M h=>L h) (fun J h=>L h))
def lQ:Nat→zu
 | 0=>⟨fun z0 z1=>none⟩
 | n+1=>⟨tK (lQ n)⟩
theorem DK:∀ n,tJ (lQ n)
 | 0=>⟨fun _ _ r h=>(by cases h)⟩
 | n+1=>⟨fun a0 a1 r h=>HK _ (DK n) a0 a1 r h⟩
def uO:Option Int:=ev fun n=>(lQ n).f_R_ManyStmts a0 a1
theorem Bd(r:Int)(h:uO a0 a1=some r):zt a0 a1 r:=by
 obtain ⟨n,hn⟩:=xb h
 exact (DK n).f_R_ManyStmts a0 a1 r hn
def wT:List de:=(gM 45 44)::⟨some 46,.fa 2 1,some ⟨45,false⟩,false⟩::⟨some 47,.ld none 46,some ⟨45,false⟩,false⟩::⟨some 48,.ln false 47,some ⟨45,false⟩,false⟩::⟨some 49,.fa 0 1,some ⟨45,false⟩,false⟩::⟨some 50,.fa 0 49,some ⟨45,false⟩,false⟩::⟨some 51,.ld none 50,some ⟨45,false⟩,false⟩::⟨some 52,.bo .gtr false 48 51,some ⟨45,false⟩,false⟩::(gp 53 (.pk 45 (.c (.b true)) 52))::[]
end
section
variable (a0:Program)(z:Nat)(C:(List Label))(k:Nat)(D:((List Label)×Nat×Bool))(j:Nat)(t:Nat)(B:Int)(s:Nat)(m:Func)(g:Nat)(q:Nat)(d:Nat)(E:Int)
def iY(aB:Bool):Option Bool:=
 if aB=true then
  some true
 else
  some (decide (a0.ak.Many<(a0.Speak.length:Int)))
abbrev kL(x:Bool):St:=⟨[zP 1,(53,(.b x))],[(1,(av a0))],H0⟩
theorem mm(aB:Bool)(w:List AV)(x:Bool)(h:iY a0 aB=some x):uc G Ω0 E0 [1,53] [1] wT ⟨[(44,(.b aB)),(43,(W w 0)),(42,(W w 1)),(41,(W w 2)),(40,(W w 3)),(39,(W w 4)),(38,(W w 5)),(37,(W w 6)),(36,(W w 7)),(35,(W w 8)),(34,(W w 9)),(33,(W w 10)),(32,(W w 11)),(31,(W w 12)),(30,(W w 13)),(29,(W w 14)),(28,(W w 15)),(27,(.b (decide (16<(a0.Vars.length:Int))))),(26,(.b (decide (16<(a0.Vars.length:Int))))),(25,(zI a0.Vars.length)),(24,(ey a0.Vars)),(23,(.p ⟨0,1⟩ 5)),zP 1],[(1,(av a0))],H0⟩=some (kL a0 x):=
 ur (.or (bf<|bf<|bf<|bf<|bf<|bf<|bf<|bt<|.nil) (rz<|ao (.i (a0.Speak.length:Int))<|bt<|bt<|bt<|bt<|bt<|bf<|.nil)) fun L=>cG h (fun h7 h=>cq h7<|cq h7<|cq h7<|oL h7<|L h) (fun h7 h=>JB h7<|ai (aJ (I) a0.Speak)<|cq h7<|ai (g0 h7)<|ai (rfl:Z0)<|oL h7<|L h)
def E5:List de:=(gF 23 5 1)::(gQ 24 23)::(gl 25 24)::(gB 26 .gtr 25 (kI 16))::(gM 27 26)::⟨some 28,.fa 3 1,some ⟨27,false⟩,false⟩::⟨some 29,.ld none 28,some ⟨27,false⟩,false⟩::⟨some 30,.ln false 29,some ⟨27,false⟩,false⟩::⟨some 31,.bo .gtr false 30 (kI 5),some ⟨27,false⟩,false⟩::(gp 32 (.pk 27 (.c (.b true)) 31))::(gM 33 32)::⟨some 34,.fa 4 1,some ⟨33,false⟩,false⟩::⟨some 35,.ld none 34,some ⟨33,false⟩,false⟩::⟨some 36,.ln false 35,some ⟨33,false⟩,false⟩::⟨some 37,.bo .gtr false 36 (kI 5),some ⟨33,false⟩,false⟩::(gp 38 (.pk 33 (.c (.b true)) 37))::(gM 39 38)::⟨some 40,.fa 6 1,some ⟨39,false⟩,false⟩::⟨some 41,.ld none 40,some ⟨39,false⟩,false⟩::⟨some 42,.ln false 41,some ⟨39,false⟩,false⟩::⟨some 43,.bo .gtr false 42 (kI 5),some ⟨39,false⟩,false⟩::(gp 44 (.pk 39 (.c (.b true)) 43))::wT
def nz:Option Bool:=
 if 16<(a0.Vars.length:Int) then
  (iY a0 true).bind fun x5=>
  some x5
 else
  if 5<(a0.Ins.length:Int) then
   (iY a0 true).bind fun x6=>
   some x6
  else
   if 5<(a0.Outs.length:Int) then
    (iY a0 true).bind fun x7=>
    some x7
   else
    (iY a0 (decide (5<(a0.Funcs.length:Int)))).bind fun x7=>
    some x7
abbrev wU(x:Bool):St:=⟨[zP 1,(53,(.b x))],[(1,(av a0))],H0⟩
theorem Ez(x:Bool)(h:nz a0=some x):uc G Ω0 E0 [1,53] [1] E5 ⟨[zP 1],[(1,(av a0))],H0⟩=some (wU a0 x):=
 ur (bt<|ao (.i (a0.Vars.length:Int))<|.or (aeT<|.jb (some 45) 8<|.ex fun (x5:Bool)=>ao (.jn (kL a0 x5))<|.nil) (rz<|ao (.i (a0.Ins.length:Int))<|yG<|.or (aeU<|.jb (some 45) 8<|.ex fun (x6:Bool)=>ao (.jn (kL a0 x6))<|.nil) (rz<|ao (.i (a0.Outs.length:Int))<|yG<|.or (YE<|.jb (some 45) 8<|.ex fun (x7:Bool)=>ao (.jn (kL a0 x7))<|.nil) (rz<|ao (.i (a0.Funcs.length:Int))<|yG<|.jb (some 45) 8<|.ex fun (x7:Bool)=>ao (.jn (kL a0 x7))<|.nil)))) fun L=>ai (rfl:Z0)<|ai (aJ eo a0.Vars)<|cp h (fun h4 h=>cq (aA h4)<|cq (aA h4)<|ai (aA h4)<|oD<|oD<|ai tt<|oD<|oD<|ai tt<|bJ h (mm a0 true [.sk,.sk,.sk,.sk,(.b true),(.b true),.sk,.sk,.sk,.sk,(.b true),(.b true),.sk,.sk,.sk,.sk]) fun x5 h=>L h) (fun h4 h=>JB (ay h4)<|ai (aJ aH a0.Ins)<|oL (ay h4)<|cp h (fun h5 h=>cq (aA h5)<|cq (aA h5)<|ai (aA h5)<|oD<|oD<|ai tt<|bJ h (mm a0 true [.sk,.sk,.sk,.sk,(.b true),(.b true),.sk,.sk,.sk,.sk,(.b (decide (5<(a0.Ins.length:Int)))),(.b (decide (5<(a0.Ins.length:Int)))),(.b (decide (5<(a0.Ins.length:Int)))),(zI a0.Ins.length),(aS a0.Ins),(.p ⟨0,1⟩ 3)]) fun x6 h=>L h) (fun h5 h=>JB (ay h5)<|ai (aJ aH a0.Outs)<|oL (ay h5)<|cp h (fun h6 h=>YD (aA h6)<|bJ h (mm a0 true [.sk,.sk,.sk,.sk,(.b (decide (5<(a0.Outs.length:Int)))),(.b (decide (5<(a0.Outs.length:Int)))),(.b (decide (5<(a0.Outs.length:Int)))),(zI a0.Outs.length),(aS a0.Outs),(.p ⟨0,1⟩ 4),(.b (decide (5<(a0.Ins.length:Int)))),(.b (decide (5<(a0.Ins.length:Int)))),(.b (decide (5<(a0.Ins.length:Int)))),(zI a0.Ins.length),(aS a0.Ins),(.p ⟨0,1⟩ 3)]) fun x7 h=>L h) (fun h6 h=>JB (ay h6)<|ai (aJ eO a0.Funcs)<|oL (ay h6)<|bJ h (mm a0 (decide (5<(a0.Funcs.length:Int))) [(.b (decide (5<(a0.Funcs.length:Int)))),(zI a0.Funcs.length),(cV a0.Funcs),(.p ⟨0,1⟩ 6),(.b (decide (5<(a0.Outs.length:Int)))),(.b (decide (5<(a0.Outs.length:Int)))),(.b (decide (5<(a0.Outs.length:Int)))),(zI a0.Outs.length),(aS a0.Outs),(.p ⟨0,1⟩ 4),(.b (decide (5<(a0.Ins.length:Int)))),(.b (decide (5<(a0.Ins.length:Int)))),(.b (decide (5<(a0.Ins.length:Int)))),(zI a0.Ins.length),(aS a0.Ins),(.p ⟨0,1⟩ 3)]) fun x7 h=>L h)))
def ie:Option (Nat⊕(Unit⊕(Nat×Bool))):=
 if (z:Int)<(a0.Speak.length:Int) then
  (a0.Speak[z]?).bind fun y8=>
  (mB a0.ak y8).bind fun bl=>
  if bl=true then
   if IntKind.i64.wrap ((z:Int)+1)=((z+1:Nat):Int) then
    some (.inl (z+1))
   else none
  else
   some (.inr (.inl ()))
 else
  some (.inr (.inr (z,decide ((z:Int)<(a0.Speak.length:Int)))))
abbrev Gq(v:Nat):St:=⟨[zP 1,(4,(I (v:Int)))],[(1,(av a0))],H0⟩
abbrev sG(x:(Unit⊕(Nat×Bool))):aN×St:=match x with | .inl ()=>(.ret,⟨[(2,(I 5))],[],H0⟩) | .inr (z1,z2)=>((.ex 0),⟨[zP 1,(4,(I (z1:Int))),(58,(.b z2))],[(1,(av a0))],H0⟩)
theorem E6(o:Nat⊕(Unit⊕(Nat×Bool)))(h:ie a0 z=some o):bO E0 Xv (Gq a0) (sG a0) z o:=
 bZ (bt<|ao (.i (a0.Speak.length:Int))<|.or (ja<|ao (.n z)<|xI fun y8=>xB fun bl=>.or (bf<|ao (.i ((z+1:Nat):Int))<|.nil) (bt<|.nil)) (bf<|.nil)) fun L=>ai (rfl:Z0)<|ai (aJ (I) a0.Speak)<|cp h (fun h7 h=>ai (aA h7)<|cg<|ai (rfl:Z0)<|cg<|ai (rfl:Z0)<|cg<|ai (rI z)<|cn h fun y8 h9 h=>ai (aM (I) h9)<|cg<|bJ h (pE a0.ak y8) fun bl h=>cG h (fun aU h=>ai (an not aU)<|aW h fun bg h=>ai bg<|L h) (fun aU h=>ai (an not aU)<|L h)) (fun h7 h=>ai (ay h7)<|L h)
def oi:Option (((List Label)×Nat)⊕((List Label)×Nat×Bool)):=
 if (k:Int)<(a0.Vars.length:Int) then
  (a0.Vars[k]?).bind fun K=>
  if C.length + [K.Label].length≤1000000000 then
   if IntKind.i64.wrap ((k:Int)+1)=((k+1:Nat):Int) then
    some (.inl (C++[K.Label],k+1))
   else none
  else none
 else
  some (.inr (C,k,decide ((k:Int)<(a0.Vars.length:Int))))
abbrev Gr(v:((List Label)×Nat)):St:=⟨[zP 1,(5,(qV v.1)),(6,(I (v.2:Int)))],[(1,(av a0))],H0⟩
abbrev yU(x:((List Label)×Nat×Bool)):aN×St:=((.ex 2),⟨[zP 1,(5,(qV x.1)),(6,(I (x.2.1:Int))),(81,(.b x.2.2))],[(1,(av a0))],H0⟩)
theorem E7(o:((List Label)×Nat)⊕((List Label)×Nat×Bool))(h:oi a0 C k=some o):bO E0 Xw (Gr a0) (yU a0) (C,k) o:=
 bZ (bt<|ao (.i (a0.Vars.length:Int))<|.or (fN<|ao (.n k)<|.ex fun (K:Var)=>ao (.v (.a (FU K)))<|ao (.l ([K.Label].map aH))<|ao (.l ((C++[K.Label]).map aH))<|ao (.i ((k+1:Nat):Int))<|.nil) (bf<|.nil)) fun L=>ai (rfl:Z0)<|ai (aJ eo a0.Vars)<|cp h (fun aU h=>oY (aA aU)<|ai (rI k)<|cn h fun K aC h=>ai (aM eo aC)<|ai (rfl:[(.a [(bm K.Label.Read),(bm K.Label.Write)])]=[K.Label].map aH)<|ai ff<|aW h fun bB h=>ai ((mY aH (n:=2) (fun _=>rfl) [K.Label]):([K.Label].map aH).all (fun e=>e.nc==2)=true)<|ai ((rr bB (by decide)):((C.map aH).length+([K.Label].map aH).length)*48≤140737488355328)<|ai ((rv bB):(C.map aH).length+([K.Label].map aH).length≤maxLen)<|ai (ei.symm:C.map aH++[K.Label].map aH=(C++[K.Label]).map aH)<|aW h fun bV h=>ai bV<|L h) (fun aU h=>ai (ay aU)<|L h)
def lA:Option (Nat⊕(Int⊕(Nat×Bool))):=
 if (j:Int)<(D.1.length:Int) then
  (D.1[j]?).bind fun U=>
  (tI a0.ak U).bind fun a7=>
  if (a7 !=0)=true then
   some (.inr (.inl a7))
  else
   if IntKind.i64.wrap ((j:Int)+1)=((j+1:Nat):Int) then
    some (.inl (j+1))
   else none
 else
  some (.inr (.inr (j,decide ((j:Int)<(D.1.length:Int)))))
abbrev Gs(v:Nat):St:=⟨[zP 1,(5,(qV D.1)),(7,(I (v:Int)))],[(1,(av a0))],H0⟩
abbrev sH(x:(Int⊕(Nat×Bool))):aN×St:=match x with | .inl z1=>(.ret,⟨[(2,(I z1))],[],H0⟩) | .inr (z1,z2)=>((.ex 4),⟨[zP 1,(5,(qV D.1)),(7,(I (z1:Int))),(96,(.b z2))],[(1,(av a0))],H0⟩)
theorem E8(o:Nat⊕(Int⊕(Nat×Bool)))(h:lA a0 D j=some o):bO E0 Xx (Gs a0 D) (sH a0 D) j o:=
 bZ (ao (.i (D.1.length:Int))<|.or (fN<|ao (.n j)<|.ex fun (U:Label)=>ao (.v (.a [(bm U.Read),(bm U.Write)]))<|ao (.v (.a [(bm U.Read),(bm U.Write)]))<|xI fun a7=>oN (ao (.i ((j+1:Nat):Int))<|.nil)) (bf<|.nil)) fun L=>ai (aJ aH D.1)<|cp h (fun aC h=>ai (aA aC)<|cg<|ai (rfl:Z0)<|cg<|ai tt<|ai (rI j)<|cn h fun U aF h=>ai (aM aH aF)<|ai tt<|ai (aM aH aF)<|ai tt<|bJ h (HJ a0.ak U) fun a7 h=>cG h (fun aT h=>ai aT<|L h) (fun aT h=>ai aT<|aW h fun bU h=>ai bU<|L h)) (fun aC h=>ai (ay aC)<|L h)
def ig:Option (Nat⊕(Unit⊕(Nat×Bool))):=
 if (t:Int)<(a0.Vars.length:Int) then
  (a0.Vars[t]?).bind fun ax=>
  if ax.Known=true then
   if IntKind.i64.wrap ((t:Int)+1)=((t+1:Nat):Int) then
    some (.inl (t+1))
   else none
  else
   if 0<(ax.Label.Read.length:Int) then
    some (.inr (.inl ()))
   else
    if 0<(ax.Label.Write.length:Int) then
     some (.inr (.inl ()))
    else
     if IntKind.i64.wrap ((t:Int)+1)=((t+1:Nat):Int) then
      some (.inl (t+1))
     else none
 else
  some (.inr (.inr (t,decide ((t:Int)<(a0.Vars.length:Int)))))
abbrev Gt(v:Nat):St:=⟨[zP 1,(9,(I (v:Int)))],[(1,(av a0))],H0⟩
abbrev sI(x:(Unit⊕(Nat×Bool))):aN×St:=match x with | .inl ()=>(.ret,⟨[(2,(I 1))],[],H0⟩) | .inr (z1,z2)=>((.ex 6),⟨[zP 1,(9,(I (z1:Int))),(113,(.b z2))],[(1,(av a0))],H0⟩)
theorem E9(o:Nat⊕(Unit⊕(Nat×Bool)))(h:ig a0 t=some o):bO E0 Xy (Gt a0) (sI a0) t o:=
 bZ (bt<|ao (.i (a0.Vars.length:Int))<|.or (fN<|ao (.n t)<|.ex fun (ax:Var)=>ao (.v (.a (FU ax)))<|ja<|.or (bf<|bf<|bf<|bf<|bf<|bf<|bf<|bf<|bf<|ao (.i ((t+1:Nat):Int))<|.nil) (wP<|ao (.i (ax.Label.Read.length:Int))<|fN<|.or (bf<|bf<|bf<|bf<|bf<|bt<|bt<|bt<|bt<|.nil) (wP<|ao (.i (ax.Label.Write.length:Int))<|bt<|bt<|bf<|bt<|oN (ao (.i ((t+1:Nat):Int))<|.nil)))) (bf<|.nil)) fun L=>ai (rfl:Z0)<|ai (aJ eo a0.Vars)<|cp h (fun bA h=>oY (aA bA)<|ai (rI t)<|cn h fun ax aT h=>ai (aM eo aT)<|Mu<|cG h (fun T h=>cu (an not T)<|cu (an not T)<|cu (an not T)<|nB (an not T)<|ai ff<|aW h fun bT h=>ai bT<|L h) (fun T h=>cu (an not T)<|ai (g1 (an not T))<|ai (rfl:Z0)<|ai (g1 (an not T))<|ai (aJ bj ax.Label.Read)<|cu (an not T)<|cp h (fun V h=>cq (aA V)<|cq (aA V)<|ai (g0 (aA V))<|ai (g1 (an not T))<|ai (aA V)<|ai (an not T)<|ai tt<|L h) (fun V h=>cq (ay V)<|ai (g0 (ay V))<|ai (rfl:Z0)<|ai (g0 (ay V))<|ai (aJ bj ax.Label.Write)<|ai (g0 (ay V))<|ai (g1 (an not T))<|ai (ay V)<|ai (an not T)<|cp h (fun aw h=>ai (aA aw)<|L h) (fun aw h=>ai (ay aw)<|aW h fun bb h=>ai bb<|L h)))) (fun bA h=>ai (ay bA)<|L h)
def oj:Option ((Int×Nat)⊕(Int×Nat×Bool)):=
 if (s:Int)<(a0.Funcs.length:Int) then
  (a0.Funcs[s]?).bind fun aY=>
  (uO aY.Body 1).bind fun aV=>
  if IntKind.i64.wrap (B+aV)=B+aV then
   if IntKind.i64.wrap ((s:Int)+1)=((s+1:Nat):Int) then
    some (.inl (B+aV,s+1))
   else none
  else none
 else
  some (.inr (B,s,decide ((s:Int)<(a0.Funcs.length:Int))))
abbrev Gu(v:(Int×Nat)):St:=⟨[zP 1,(11,(I v.1)),(12,(I (v.2:Int)))],[(1,(av a0))],H0⟩
abbrev yV(x:(Int×Nat×Bool)):aN×St:=((.ex 8),⟨[zP 1,(11,(I x.1)),(12,(I (x.2.1:Int))),(145,(.b x.2.2))],[(1,(av a0))],H0⟩)
theorem Fa(o:(Int×Nat)⊕(Int×Nat×Bool))(h:oj a0 B s=some o):bO E0 Xz (Gu a0) (yV a0) (B,s) o:=
 bZ (bt<|ao (.i (a0.Funcs.length:Int))<|.or (fN<|ao (.n s)<|.ex fun (aY:Func)=>ao (.v (.a (eu aY)))<|xI fun aV=>ao (.i (B+aV))<|ao (.i ((s+1:Nat):Int))<|.nil) (bf<|.nil)) fun L=>ai (rfl:Z0)<|ai (aJ eO a0.Funcs)<|cp h (fun aw h=>oY (aA aw)<|ai (rI s)<|cn h fun aY a2 h=>ai (aM eO a2)<|bJ h (Bd aY.Body 1) fun aV h=>aW h fun bS h=>ai bS<|aW h fun bR h=>ai bR<|L h) (fun aw h=>ai (ay aw)<|L h)
def ij:Option (Nat⊕(Unit⊕(Nat×Bool))):=
 if (q:Int)<(g:Int) then
  (m.Params[q]?).bind fun a9=>
  (m.Params[g]?).bind fun a8=>
  if (a9==a8)=true then
   some (.inr (.inl ()))
  else
   if IntKind.i64.wrap ((q:Int)+1)=((q+1:Nat):Int) then
    some (.inl (q+1))
   else none
 else
  some (.inr (.inr (q,decide ((q:Int)<(g:Int)))))
abbrev Gv(m:Func)(g:Nat)(v:Nat):St:=⟨[zP 1,(13,(zI d)),zP 14,(15,(zI g)),(16,(I (v:Int)))],[(1,(av a0)),(14,(eu m))],H0⟩
abbrev sJ(m:Func)(g:Nat)(x:(Unit⊕(Nat×Bool))):aN×St:=match x with | .inl ()=>(.ret,⟨[(2,(I 6))],[],H0⟩) | .inr (z1,z2)=>((.ex 14),⟨[zP 1,(13,(zI d)),zP 14,(15,(zI g)),(16,(I (z1:Int))),(195,(.b z2))],[(1,(av a0)),(14,(eu m))],H0⟩)
theorem Fb(m:Func)(g:Nat)(q:Nat)(o:Nat⊕(Unit⊕(Nat×Bool)))(h:ij m g q=some o):bO E0 XA (Gv a0 d m g) (sJ a0 d m g) q o:=
 bZ (.or (fN<|ao (.n q)<|xI fun a9=>bt<|ao (.n g)<|xI fun a8=>oN (ao (.i ((q+1:Nat):Int))<|.nil)) (bf<|.nil)) fun L=>cp h (fun bq h=>ai (aA bq)<|cg<|ai (rfl:Z0)<|cg<|ai (rI q)<|cn h fun a9 bY h=>ai (aM (I) bY)<|cg<|ai tt<|ai (rfl:Z0)<|cg<|ai (rI g)<|cn h fun a8 bX h=>ai (aM (I) bX)<|cg<|cG h (fun bn h=>ai bn<|L h) (fun bn h=>ai bn<|aW h fun bM h=>ai bM<|L h)) (fun bq h=>ai (ay bq)<|L h)
def om:Option (Nat⊕(Unit⊕(Unit⊕(Nat×Bool)))):=
 if (g:Int)<(m.Params.length:Int) then
  (m.Params[g]?).bind fun a3=>
  if IntKind.i64.wrap ((a0.Vars.length:Int) - 1)=(a0.Vars.length:Int) - 1 then
   (im a3 0 ((a0.Vars.length:Int) - 1)).bind fun bh=>
   if bh=true then
    (lp (fun v=>ij m g v) 0).bind fun bD=>match bD with
    | .inl al=>
     some (.inr (.inl ()))
    | .inr ab=>
     if IntKind.i64.wrap ((g:Int)+1)=((g+1:Nat):Int) then
      some (.inl (g+1))
     else none
   else
    some (.inr (.inr (.inl ())))
  else none
 else
  some (.inr (.inr (.inr (g,decide ((g:Int)<(m.Params.length:Int))))))
abbrev Gw(m:Func)(v:Nat):St:=⟨[zP 1,(13,(zI d)),zP 14,(15,(I (v:Int)))],[(1,(av a0)),(14,(eu m))],H0⟩
abbrev oo(m:Func)(x:(Unit⊕(Unit⊕(Nat×Bool)))):aN×St:=match x with | .inl ()=>(.ret,⟨[(2,(I 6))],[],H0⟩) | .inr (.inl ())=>(.ret,⟨[(2,(I 5))],[],H0⟩) | .inr (.inr (z1,z2))=>((.ex 12),⟨[zP 1,(13,(zI d)),zP 14,(15,(I (z1:Int))),(179,(.b z2))],[(1,(av a0)),(14,(eu m))],H0⟩)
theorem Fc(m:Func)(g:Nat)(o:Nat⊕(Unit⊕(Unit⊕(Nat×Bool))))(h:om a0 m g=some o):bO E0 XB (Gw a0 d m) (oo a0 d m) g o:=
 bZ (bt<|ao (.i (m.Params.length:Int))<|.or (fN<|ao (.n g)<|xI fun a3=>bt<|ao (.i (a0.Vars.length:Int))<|ao (.i ((a0.Vars.length:Int) - 1))<|xB fun bh=>.or (bf<|.or (.ex fun (al:Unit)=>ao (.cD (sJ a0 d m g (.inl al)))<|.nil) (.ex fun (ab:(Nat×Bool))=>ao (.cD (sJ a0 d m g (.inr ab)))<|ao (.i ((g+1:Nat):Int))<|.nil)) (bt<|.nil)) (bf<|.nil)) fun L=>ai (rfl:Z0)<|ai (aJ (I) m.Params)<|cp h (fun bv h=>ai (aA bv)<|cg<|ai (rfl:Z0)<|cg<|ai (rI g)<|cn h fun a3 b0 h=>ai (aM (I) b0)<|cg<|ai tt<|gT<|ai (aJ eo a0.Vars)<|ai tt<|aW h fun w32 h=>ai w32<|ai tt<|bJ h (iD a3 0 ((a0.Vars.length:Int) - 1)) fun bh h=>cG h (fun br h=>ai (an not br)<|fc h (fC (Fb a0 d m g) 0) (fun al h=>L h) (fun ab h=>aW h fun bP h=>ai bP<|L h)) (fun br h=>ai (an not br)<|L h)) (fun bv h=>ai (ay bv)<|L h)
def ka:Option (Int⊕(Int×Bool)):=
 if (E !=0)=true then
  some (.inl E)
 else
  some (.inr (E,E !=0))
abbrev kg(x:(Int⊕(Int×Bool))):aN×St:=match x with | .inl z1=>(.ret,⟨[(2,(I z1))],[],H0⟩) | .inr (z1,z2)=>(.nrm,⟨[zP 1,(3,(I z1)),(13,(zI d)),(223,(.b z2))],[(1,(av a0))],H0⟩)
theorem vO(x:(Int⊕(Int×Bool)))(h:ka E=some x):run G Ω0 E0 TO ⟨[zP 1,(3,(I E)),(13,(zI d))],[(1,(av a0))],H0⟩=some (kg a0 d x):=
 NY (oN (.nil)) fun L=>cG h (fun bp h=>ai bp<|L h) (fun bp h=>ai bp<|L h)
def oq:Option (Nat⊕(Unit⊕(Unit⊕(Unit⊕(Int⊕(Nat×Bool)))))):=
 if (d:Int)<(a0.Funcs.length:Int) then
  (a0.Funcs[d]?).bind fun m=>
  if 4<(m.Params.length:Int) then
   some (.inr (.inl ()))
  else
   (lp (fun v=>om a0 m v) 0).bind fun bF=>match bF with
   | .inl am=>
    some (.inr (.inr (.inl ())))
   | .inr (.inl ad)=>
    some (.inr (.inr (.inr (.inl ()))))
   | .inr (.inr Y)=>
    (c9 a0 (d:Int) m.Body).bind fun aZ=>
    if (aZ==0)=true then
     (kx m.Result (a0.Vars.length:Int)).bind fun a5=>
     (ka a5).bind fun bC=>match bC with
     | .inl O=>
      some (.inr (.inr (.inr (.inr (.inl O)))))
     | .inr aa=>
      if IntKind.i64.wrap ((d:Int)+1)=((d+1:Nat):Int) then
       some (.inl (d+1))
      else none
    else
     (ka aZ).bind fun bE=>match bE with
     | .inl P=>
      some (.inr (.inr (.inr (.inr (.inl P)))))
     | .inr ac=>
      if IntKind.i64.wrap ((d:Int)+1)=((d+1:Nat):Int) then
       some (.inl (d+1))
      else none
 else
  some (.inr (.inr (.inr (.inr (.inr (d,decide ((d:Int)<(a0.Funcs.length:Int))))))))
abbrev Gx(v:Nat):St:=⟨[zP 1,(13,(I (v:Int)))],[(1,(av a0))],H0⟩
abbrev jv(x:(Unit⊕(Unit⊕(Unit⊕(Int⊕(Nat×Bool)))))):aN×St:=match x with | .inl ()=>(.ret,⟨[(2,(I 2))],[],H0⟩) | .inr (.inl ())=>(.ret,⟨[(2,(I 6))],[],H0⟩) | .inr (.inr (.inl ()))=>(.ret,⟨[(2,(I 5))],[],H0⟩) | .inr (.inr (.inr (.inl z1)))=>(.ret,⟨[(2,(I z1))],[],H0⟩) | .inr (.inr (.inr (.inr (z1,z2))))=>((.ex 10),⟨[zP 1,(13,(I (z1:Int))),(163,(.b z2))],[(1,(av a0))],H0⟩)
theorem Fe(o:Nat⊕(Unit⊕(Unit⊕(Unit⊕(Int⊕(Nat×Bool))))))(h:oq a0 d=some o):bO E0 XC (Gx a0) (jv a0) d o:=
 bZ (bt<|ao (.i (a0.Funcs.length:Int))<|.or (fN<|ao (.n d)<|.ex fun (m:Func)=>ao (.v (.a (eu m)))<|ja<|ao (.i (m.Params.length:Int))<|oN (.or (.ex fun (am:Unit)=>ao (.cD (oo a0 d m (.inl am)))<|.nil) (.or (.ex fun (ad:Unit)=>ao (.cD (oo a0 d m (.inr (.inl ad))))<|.nil) (.ex fun (Y:(Nat×Bool))=>ao (.cD (oo a0 d m (.inr (.inr Y))))<|fN<|xI fun aZ=>.or (ja<|ao (.i (a0.Vars.length:Int))<|xI fun a5=>.fb<|.or (.ex fun (O:Int)=>ao (.wO (kg a0 d (.inl O)))<|.nil) (.ex fun (aa:(Int×Bool))=>ao (.wO (kg a0 d (.inr aa)))<|ao (.i ((d+1:Nat):Int))<|.nil)) (bf<|.fb<|.or (.ex fun (P:Int)=>ao (.wO (kg a0 d (.inl P)))<|.nil) (.ex fun (ac:(Int×Bool))=>ao (.wO (kg a0 d (.inr ac)))<|ao (.i ((d+1:Nat):Int))<|.nil)))))) (bf<|.nil)) fun L=>ai (rfl:Z0)<|ai (aJ eO a0.Funcs)<|cp h (fun bx h=>oY (aA bx)<|ai (rI d)<|cn h fun m b1 h=>ai (aM eO b1)<|Mu<|ai (aJ (I) m.Params)<|cp h (fun bw h=>ai (aA bw)<|L h) (fun bw h=>ai (ay bw)<|SV h (fC (Fc a0 d m) 0) (fun am h=>L h) (fun ad h=>L h) (fun Y h=>lZ<|bJ h (zA a0 (d:Int) m.Body) fun aZ h=>cG h (fun bs h=>SX bs<|ai (aJ eo a0.Vars)<|bJ h (vk m.Result (a0.Vars.length:Int)) fun a5 h=>fc h (vO a0 d a5) (fun O h=>L h) (fun aa h=>aW h fun bN h=>ai bN<|L h)) (fun bs h=>ai bs<|fc h (vO a0 d aZ) (fun P h=>L h) (fun ac h=>aW h fun bQ h=>ai bQ<|L h))))) (fun bx h=>ai (ay bx)<|L h)
abbrev IW(a0:Program)(r:Int):bH×HP:=(.ret (I r),H0)
def qy:Option Int:=
 (rM a0.ak).bind fun r1=>
 if (r1 !=0)=true then
  some r1
 else
  (nz a0).bind fun x4=>
  if x4=true then
   some 2
  else
   (lp (fun v=>ie a0 v) 0).bind fun x7=>match x7 with
   | .inl aO=>
    some 5
   | .inr aK=>
    if ([]:List Label).length+a0.Ins.length≤1000000000 then
     if (([]:List Label)++a0.Ins).length+a0.Outs.length≤1000000000 then
      (lp (fun v=>oi a0 v.1 v.2) (((([]:List Label)++a0.Ins)++a0.Outs),0)).bind fun D=>
      (lp (fun v=>lA a0 D v) 0).bind fun bL=>match bL with
      | .inl Q=>
       some Q
      | .inr ag=>
       (lp (fun v=>ig a0 v) 0).bind fun bI=>match bI with
       | .inl aq=>
        some 1
       | .inr af=>
        (uO a0.Main 1).bind fun a6=>
        (lp (fun v=>oj a0 v.1 v.2) (a6,0)).bind fun a4=>
        if 50<a4.1 then
         some 2
        else
         (lp (fun v=>oq a0 v) 0).bind fun (bG:(Unit⊕(Unit⊕(Unit⊕(Int⊕(Nat×Bool))))))=>match bG with
         | .inl ap=>
          some 2
         | .inr (.inl ae)=>
          some 6
         | .inr (.inr (.inl Z))=>
          some 5
         | .inr (.inr (.inr (.inl N)))=>
          some N
         | .inr (.inr (.inr (.inr X)))=>
          (c9 a0 (a0.Funcs.length:Int) a0.Main).bind fun bi=>
          some bi
     else none
    else none
theorem Ff(r:Int)(h:qy a0=some r):call G Ω0 E0 10 [(.a (av a0))] H0=some (IW a0 r):=
 bu G10 (bt<|xI fun r1=>oN (.jb (some 23) 30<|.ex fun (x4:Bool)=>ao (.jn (wU a0 x4))<|oN (.or (.ex fun (aO:Unit)=>ao (.cD (sG a0 (.inl aO)))<|.nil) (.ex fun (aK:(Nat×Bool))=>ao (.cD (sG a0 (.inr aK)))<|ao (.l (([]:List Label).map aH))<|bt<|ao (.l ((([]:List Label)++a0.Ins).map aH))<|bt<|ao (.l (((([]:List Label)++a0.Ins)++a0.Outs).map aH))<|.ex fun (D:((List Label)×Nat×Bool))=>ao (.cD (yU a0 D))<|.or (.ex fun (Q:Int)=>ao (.cD (sH a0 D (.inl Q)))<|.nil) (.ex fun (ag:(Nat×Bool))=>ao (.cD (sH a0 D (.inr ag)))<|.or (.ex fun (aq:Unit)=>ao (.cD (sI a0 (.inl aq)))<|.nil) (.ex fun (af:(Nat×Bool))=>ao (.cD (sI a0 (.inr af)))<|bt<|xI fun a6=>.ex fun (a4:(Int×Nat×Bool))=>ao (.cD (yV a0 a4))<|oN (.or (.ex fun (ap:Unit)=>ao (.cD (jv a0 (.inl ap)))<|.nil) (.or (.ex fun (ae:Unit)=>ao (.cD (jv a0 (.inr (.inl ae))))<|.nil) (.or (.ex fun (Z:Unit)=>ao (.cD (jv a0 (.inr (.inr (.inl Z)))))<|.nil) (.or (.ex fun (N:Int)=>ao (.cD (jv a0 (.inr (.inr (.inr (.inl N))))))<|.nil) (.ex fun (X:(Nat×Bool))=>ao (.cD (jv a0 (.inr (.inr (.inr (.inr X))))))<|fN<|ao (.i (a0.Funcs.length:Int))<|bt<|xI fun bi=>.nil))))))))))) fun L=>vX<|bJ h (Gn a0.ak) fun r1 h=>cG h (fun h3 h=>ai h3<|L h) (fun h3 h=>ai h3<|bJ h (Ez a0) fun x4 h=>cG h (fun h6 h=>ai h6<|L h) (fun h6 h=>ai h6<|fc h (fC (E6 a0) 0) (fun aO h=>L h) (fun aK h=>ai tt<|ai (rfl:([]:List AV)=([]:List Label).map aH)<|cg<|gT<|aW h fun H h=>ai ((mY aH (n:=2) (fun _=>rfl) a0.Ins):(a0.Ins.map aH).all (fun e=>e.nc==2)=true)<|ai ((rr H (by decide)):((([]:List Label).map aH).length+(a0.Ins.map aH).length)*48≤140737488355328)<|ai ((rv H):(([]:List Label).map aH).length+(a0.Ins.map aH).length≤maxLen)<|ai (ei.symm:([]:List Label).map aH++a0.Ins.map aH=(([]:List Label)++a0.Ins).map aH)<|cg<|gT<|aW h fun aX h=>ai ((mY aH (n:=2) (fun _=>rfl) a0.Outs):(a0.Outs.map aH).all (fun e=>e.nc==2)=true)<|ai ((rr aX (by decide)):(((([]:List Label)++a0.Ins).map aH).length+(a0.Outs.map aH).length)*48≤140737488355328)<|ai ((rv aX):((([]:List Label)++a0.Ins).map aH).length+(a0.Outs.map aH).length≤maxLen)<|ai (ei.symm:(([]:List Label)++a0.Ins).map aH++a0.Outs.map aH=((([]:List Label)++a0.Ins)++a0.Outs).map aH)<|bJ h (fC (fun v=>E7 a0 v.1 v.2) (((([]:List Label)++a0.Ins)++a0.Outs),0)) fun D h=>fc h (fC (E8 a0 D) 0) (fun Q h=>L h) (fun ag h=>fc h (fC (E9 a0) 0) (fun aq h=>L h) (fun af h=>ai (rfl:Z0)<|bJ h (Bd a0.Main 1) fun a6 h=>bJ h (fC (fun v=>Fa a0 v.1 v.2) (a6,0)) fun a4 h=>cp h (fun a2 h=>ai (aA a2)<|L h) (fun a2 h=>ai (ay a2)<|YC h (fC (Fe a0) 0) (fun ap h=>L h) (fun ae h=>L h) (fun Z h=>L h) (fun N h=>L h) (fun X h=>lZ<|ai (aJ eO a0.Funcs)<|ai (rfl:Z0)<|bJ h (zA a0 (a0.Funcs.length:Int) a0.Main) fun bi h=>L h)))))))
end
end
end Go.Proofs.YtkkkkondjclcnaaGreat.A
