/- Functions of the program as plain functions, by program. -/
import Derived.Test.YtkkkkondjclcnaaGreatTypes
import Derived.Test.YtkkkkondjclcnaaGreatBase
import Derived.Test.YtkkkkondjclcnaaGreatFA
import Derived.Test.YtkkkkondjclcnaaGreatStepF
set_option linter.all false
set_option maxRecDepth 100000
namespace Go.Proofs.YtkkkkondjclcnaaGreat.A
open Go
noncomputable section
variable [Lp]
section
variable (a0:ak)(a1:Int)
abbrev QG(a0:ak)(a1:Int)(r:Bool):bH×HP:=(.ret (.b r),H0)
def mx:Option Bool:=
 if 0≤a1 then
  some (decide (a1<a0.Many))
 else
  some false
theorem pb(r:Bool)(h:mx a0 a1=some r):call G Ω0 E0 119 [(.a [(I a0.Many),(.l 166 (a0.Grants.map ct))]),(I a1)] H0=some (QG a0 a1 r):=
 bu alZ (.or (Wo<|.nil) (Wp<|.nil)) fun L=>ai tt<|cp h (fun h1 h=>cu (aA h1)<|ai (g1 (aA h1))<|ai (rfl:Z0)<|nB (aA h1)<|L h) (fun h1 h=>cu (ay h1)<|cu (ay h1)<|ai (ay h1)<|L h)
end
section
variable (a0:dv)(a1:ak)
abbrev IA(a0:dv)(a1:ak)(r:Bool):bH×HP:=(.ret (.b r),H0)
def na:Option Bool:=
 (mx a1 a0.Who).bind fun r1=>
 if r1=true then
  (mx a1 a0.For).bind fun r4=>
  some (!r4)
 else
  some true
theorem EX(r:Bool)(h:na a0 a1=some r):call G Ω0 E0 153 [(.a [(I a0.Who),(I a0.For)]),(.e (.a [(I a1.Many),(.l 166 (a1.Grants.map ct))]) 0)] H0=some (IA a0 a1 r):=
 bu amj (bt<|xB fun r1=>.or (wP<|xB fun r4=>yG<|.nil) (Wq<|.nil)) fun L=>vX<|bJ h (pb a1 a0.Who) fun r1 h=>cG h (fun h3 h=>cq (an not h3)<|ai (g0 (an not h3))<|ai (rfl:Z0)<|ai (g0 (an not h3))<|bJ h (pb a1 a0.For) fun r4 h=>oL (an not h3)<|L h) (fun h3 h=>ev9 (an not h3)<|L h)
end
section
variable (a0:(List dv))(a1:ak)
abbrev rQ(r:Bool):Prop:=call G Ω0 E0 152 [(.l 166 (a0.map ct)),(.f 153 [(.e (.a [(.i .i64 a1.Many),(.l 166 (a1.Grants.map ct))]) 0)])] H0=some (.ret (.b r),H0)
def gD:Option Bool:=O2 (fun y=>na y a1) a0
theorem qi(r:Bool)(h:gD a0 a1=some r):rQ a0 a1 r:=Ar (n:=2) (ld:=(some 2)) (by decide) (fun _=>⟨rfl,rfl,_,rfl,rfl⟩) rfl (fun y b hb=>EX y a1 b hb) ami amt h
end
section
variable (a0:ak)
abbrev Lq(a0:ak)(r:Int):bH×HP:=(.ret (I r),H0)
def tj:Option Int:=
 if a0.Many<1 then
  some 3
 else
  if 6<a0.Many then
   some 3
  else
   if 20<(a0.Grants.length:Int) then
    some 2
   else
    (gD a0.Grants a0).bind fun r4=>
    if r4=true then
     some 5
    else
     some 0
theorem Hw(r:Int)(h:tj a0=some r):call G Ω0 E0 128 [(.a [(I a0.Many),(.l 166 (a0.Grants.map ct))])] H0=some (Lq a0 r):=
 bu al5 (bt<|.or (bf<|bf<|bf<|bt<|bt<|.nil) (bt<|bt<|bt<|bt<|bf<|oN (bt<|ao (.i (a0.Grants.length:Int))<|oN (xB fun r4=>oN (.nil))))) fun L=>vX<|cp h (fun h1 h=>cq (aA h1)<|oL (aA h1)<|ai tt<|L h) (fun h1 h=>cq (ay h1)<|ai (rfl:Z0)<|oL (ay h1)<|cp h (fun h2 h=>ai (aA h2)<|L h) (fun h2 h=>oY (ay h2)<|ai (aJ ct a0.Grants)<|cp h (fun h3 h=>ai (aA h3)<|L h) (fun h3 h=>oY (ay h3)<|bJ h (qi a0.Grants a0) fun r4 h=>cG h (fun h6 h=>ai h6<|L h) (fun h6 h=>ai h6<|L h))))
end
section
variable (a0:Int)(a1:Program)
abbrev Lr(a0:Int)(a1:Program)(r:Bool):bH×HP:=(.ret (.b r),H0)
def tk:Option Bool:=
 (mx a1.ak a0).bind fun r1=>
 some (!r1)
theorem Hx(r:Bool)(h:tk a0 a1=some r):call G Ω0 E0 132 [(I a0),(.e (.a (av a1)) 0)] H0=some (Lr a0 a1 r):=
 bu al7 (xB fun r1=>.nil) fun L=>bJ h (pb a1.ak a0) fun r1 h=>L h
end
section
variable (a0:(List Int))(a1:Program)
abbrev tm(r:Bool):Prop:=call G Ω0 E0 105 [(.l 3 (a0.map (AV.i .i64))),(.f 132 [(.e (.a (av a1)) 0)])] H0=some (.ret (.b r),H0)
def ix:Option Bool:=O2 (fun y=>tk y a1) a0
theorem q8(r:Bool)(h:ix a0 a1=some r):tm a0 a1 r:=Ar (n:=1) (ld:=none) (by decide) (fun _=>⟨rfl,rfl,rfl,rfl⟩) rfl (fun y b hb=>Hx y a1 b hb) Oh Oi h
end
section
variable (a0:(List (List Label)))(M:Int)(k:Nat)(H:(List Label))(U:Nat)
def eA:Option ((Int×Nat)⊕(Int×Nat×Bool)):=
 if (k:Int)<(a0.length:Int) then
  (a0[k]?).bind fun y2=>
  if IntKind.i64.wrap (M+(y2.length:Int))=M+(y2.length:Int) then
   if (M+(y2.length:Int))<0 then
    none
   else
    if IntKind.i64.wrap ((k:Int)+1)=((k+1:Nat):Int) then
     some (.inl (M+(y2.length:Int),k+1))
    else none
  else none
 else
  some (.inr (M,k,decide ((k:Int)<(a0.length:Int))))
abbrev yM(v:(Int×Nat)):St:=⟨[(0,(.l 26 (a0.map (eW 81 aH)))),(3,(I v.1)),(9,(.l 26 (a0.map (eW 81 aH)))),(10,(zI a0.length)),(11,(I (v.2:Int)))],[],H0⟩
abbrev pN(x:(Int×Nat×Bool)):aN×St:=((.ex 0),⟨[(0,(.l 26 (a0.map (eW 81 aH)))),(3,(I x.1)),(9,(.l 26 (a0.map (eW 81 aH)))),(10,(zI a0.length)),(11,(I (x.2.1:Int))),(12,(.b x.2.2))],[],H0⟩)
theorem xq(o:(Int×Nat)⊕(Int×Nat×Bool))(h:eA a0 M k=some o):bO E0 Uf (yM a0) (pN a0) (M,k) o:=
 bZ (.or (bt<|ao (.n k)<|.ex fun (y2:(List Label))=>ao (.v (aS y2))<|ao (.i (y2.length:Int))<|ao (.i (M+(y2.length:Int)))<|bf<|ao (.i ((k+1:Nat):Int))<|.nil) (bf<|.nil)) fun L=>cp h (fun h1 h=>ai (aA h1)<|ai (rI k)<|cn h fun y2 h3 h=>ai (aM (eW 81 aH) h3)<|ai (aJ aH y2)<|aW h fun w4 h=>ai w4<|Wl h (fun _ h=>aj8 h) (fun h5 h=>ai (ay h5)<|aW h fun w6 h=>ai w6<|L h)) (fun h1 h=>ai (ay h1)<|L h)
def eB:Option (((List Label)×Nat)⊕((List Label)×Nat×Bool)):=
 if (U:Int)<(a0.length:Int) then
  (a0[U]?).bind fun y5=>
  if H.length+y5.length≤1000000000 then
   if IntKind.i64.wrap ((U:Int)+1)=((U+1:Nat):Int) then
    some (.inl (H++y5,U+1))
   else none
  else none
 else
  some (.inr (H,U,decide ((U:Int)<(a0.length:Int))))
abbrev yN(v:((List Label)×Nat)):St:=⟨[(6,(qV v.1)),(25,(.l 26 (a0.map (eW 81 aH)))),(26,(zI a0.length)),(27,(I (v.2:Int)))],[],H0⟩
abbrev pO(x:((List Label)×Nat×Bool)):aN×St:=((.ex 2),⟨[(6,(qV x.1)),(25,(.l 26 (a0.map (eW 81 aH)))),(26,(zI a0.length)),(27,(I (x.2.1:Int))),(28,(.b x.2.2))],[],H0⟩)
theorem xr(o:((List Label)×Nat)⊕((List Label)×Nat×Bool))(h:eB a0 H U=some o):bO E0 Ug (yN a0) (pO a0) (H,U) o:=
 bZ (.or (bt<|ao (.n U)<|.ex fun (y5:(List Label))=>ao (.v (aS y5))<|ao (.l ((H++y5).map aH))<|ao (.i ((U+1:Nat):Int))<|.nil) (bf<|.nil)) fun L=>cp h (fun h4 h=>ai (aA h4)<|ai (rI U)<|cn h fun y5 h6 h=>ai (aM (eW 81 aH) h6)<|ai ff<|aW h fun h7 h=>ai ((mY aH (n:=2) (fun _=>rfl) y5):(y5.map aH).all (fun e=>e.nc==2)=true)<|ai ((rr h7 (by decide)):((H.map aH).length+(y5.map aH).length)*48≤140737488355328)<|ai ((rv h7):(H.map aH).length+(y5.map aH).length≤maxLen)<|ai (ei.symm:H.map aH++y5.map aH=(H++y5).map aH)<|aW h fun w8 h=>ai w8<|L h) (fun h4 h=>ai (ay h4)<|L h)
abbrev zY(a0:(List (List Label)))(r:(List Label)):bH×HP:=(.ret (.l 81 (r.map aH)),H0)
def jz:Option (List Label):=
 (lp (fun v=>eA a0 v.1 v.2) (0,0)).bind fun x1=>
 if 0≤x1.1∧x1.1≤1000000 then
  (lp (fun v=>eB a0 v.1 v.2) (([]:List Label),0)).bind fun x4=>
  some x4.1
 else none
theorem xt(r:(List Label))(h:jz a0=some r):call G Ω0 E0 133 [(.l 26 (a0.map (eW 81 aH)))] H0=some (zY a0 r):=
 bu al8 (ao (.i (a0.length:Int))<|.ex fun (x1:(Int×Nat×Bool))=>ao (.cD (pN a0 x1))<|ao (.i (a0.length:Int))<|.ex fun (x4:((List Label)×Nat×Bool))=>ao (.cD (pO a0 x4))<|.nil) fun L=>ai (aJ (eW 81 aH) a0)<|bJ h (fC (fun v=>xq a0 v.1 v.2) (0,0)) fun x1 h=>aW h fun h3 h=>ai (Wm h3:Ω0 155 [.n,(I x1.1)]=some (.o 81 []))<|ai (aJ (eW 81 aH) a0)<|bJ h (fC (fun v=>xr a0 v.1 v.2) (([]:List Label),0)) fun x4 h=>L h
end
section
variable (a0:Int)(a1:ak)
abbrev IB(a0:Int)(a1:ak)(r:Bool):bH×HP:=(.ret (.b r),H0)
def qj:Option Bool:=
 (mx a1 a0).bind fun r1=>
 some (!r1)
theorem EY(r:Bool)(h:qj a0 a1=some r):call G Ω0 E0 167 [(I a0),(.e (.a [(I a1.Many),(.l 166 (a1.Grants.map ct))]) 0)] H0=some (IB a0 a1 r):=
 bu amu (xB fun r1=>.nil) fun L=>bJ h (pb a1 a0) fun r1 h=>L h
end
section
variable (a0:(List Int))(a1:ak)
abbrev rR(r:Bool):Prop:=call G Ω0 E0 105 [(.l 3 (a0.map (AV.i .i64))),(.f 167 [(.e (.a [(.i .i64 a1.Many),(.l 166 (a1.Grants.map ct))]) 0)])] H0=some (.ret (.b r),H0)
def gE:Option Bool:=O2 (fun y=>qj y a1) a0
theorem qm(r:Bool)(h:gE a0 a1=some r):rR a0 a1 r:=Ar (n:=1) (ld:=none) (by decide) (fun _=>⟨rfl,rfl,rfl,rfl⟩) rfl (fun y b hb=>EY y a1 b hb) Oh Oi h
end
section
variable (a1:bz)(q:Nat)(a0:ak)(y2:(List bz))(Q:Nat)
def gY:Option (Nat⊕(Unit⊕(Nat×Bool))):=
 if (q:Int)<(a1.Names.length:Int) then
  (a1.Names[q]?).bind fun y9=>
  if IntKind.i64.wrap ((q:Int) - 1)=(q:Int) - 1 then
   (dV ((q:Int) - 1)).bind fun j12=>
   (a1.Names[j12]?).bind fun az=>
   if y9≤az then
    some (.inr (.inl ()))
   else
    if IntKind.i64.wrap ((q:Int)+1)=((q+1:Nat):Int) then
     some (.inl (q+1))
    else none
  else none
 else
  some (.inr (.inr (q,decide ((q:Int)<(a1.Names.length:Int)))))
abbrev IC(v:Nat):St:=⟨[zP 3,(5,(I (v:Int)))],[(3,[(I a1.Owner),(dx a1.Names)])],H0⟩
abbrev ve(x:(Unit⊕(Nat×Bool))):aN×St:=match x with | .inl ()=>(.ret,⟨[(4,(I 4))],[],H0⟩) | .inr (z1,z2)=>((.ex 1),⟨[zP 3,(5,(I (z1:Int))),(26,(.b z2))],[(3,[(I a1.Owner),(dx a1.Names)])],H0⟩)
theorem Hy(o:Nat⊕(Unit⊕(Nat×Bool)))(h:gY a1 q=some o):bO E0 Un (IC a1) (ve a1) q o:=
 bZ (bt<|ao (.i (a1.Names.length:Int))<|.or (fN<|ao (.n q)<|xI fun y9=>bt<|ao (.i ((q:Int) - 1))<|xN fun j12=>xI fun az=>oN (ao (.i ((q+1:Nat):Int))<|.nil)) (bf<|.nil)) fun L=>ai (rfl:Z0)<|ai (aJ (I) a1.Names)<|cp h (fun h8 h=>ai (aA h8)<|cg<|ai (rfl:Z0)<|cg<|ai (rI q)<|cn h fun y9 ab h=>ai (aM (I) ab)<|cg<|ai tt<|ai (rfl:Z0)<|cg<|aW h fun a7 h=>ai a7<|ai tt<|mZ h fun j12 am h=>ai am<|cn h fun az aB h=>ai (aM (I) aB)<|cg<|cp h (fun a3 h=>ai (aA a3)<|L h) (fun a3 h=>ai (ay a3)<|aW h fun bl h=>ai bl<|L h)) (fun h8 h=>ai (ay h8)<|L h)
abbrev Ls(a0:ak)(a1:bz)(r:Int):bH×HP:=(.ret (I r),H0)
def tn(a1:bz):Option Int:=
 (mx a0 a1.Owner).bind fun r1=>
 if r1=true then
  if 6<(a1.Names.length:Int) then
   some 2
  else
   (gE a1.Names a0).bind fun r5=>
   if r5=true then
    some 5
   else
    (lp (fun v=>gY a1 v) 1).bind fun x8=>match x8 with
    | .inl aY=>
     some 4
    | .inr aR=>
     some 0
 else
  some 5
theorem Hz(a1:bz)(r:Int)(h:tn a0 a1=some r):call G Ω0 E0 154 [(.a [(I a0.Many),(.l 166 (a0.Grants.map ct))]),(.a [(I a1.Owner),(.l 3 (a1.Names.map (I)))])] H0=some (Ls a0 a1 r):=
 bu amk (fN<|xB fun r1=>.or (bf<|bt<|ao (.i (a1.Names.length:Int))<|oN (bt<|xB fun r5=>oN (.or (.ex fun (aY:Unit)=>ao (.cD (ve a1 (.inl aY)))<|.nil) (.ex fun (aR:(Nat×Bool))=>ao (.cD (ve a1 (.inr aR)))<|.nil)))) (bt<|.nil)) fun L=>cg<|lZ<|bJ h (pb a0 a1.Owner) fun r1 h=>cG h (fun h3 h=>oY (an not h3)<|ai (aJ (I) a1.Names)<|cp h (fun h4 h=>ai (aA h4)<|L h) (fun h4 h=>SX (ay h4)<|bJ h (qm a1.Names a0) fun r5 h=>cG h (fun h7 h=>ai h7<|L h) (fun h7 h=>ai h7<|fc h (fC (Hy a1) 1) (fun aY h=>L h) (fun aR h=>L h)))) (fun h3 h=>ai (an not h3)<|L h)
def js:Option (Nat⊕(Int⊕(Nat×Bool))):=
 if (Q:Int)<(y2.length:Int) then
  (y2[Q]?).bind fun y6=>
  (tn a0 y6).bind fun r8=>
  if (r8 !=0)=true then
   some (.inr (.inl r8))
  else
   if IntKind.i64.wrap ((Q:Int)+1)=((Q+1:Nat):Int) then
    some (.inl (Q+1))
   else none
 else
  some (.inr (.inr (Q,decide ((Q:Int)<(y2.length:Int)))))
end
section
variable (a0:ak)(a1:Label)(N:Nat)(y2:(List bz))(Q:Nat)
abbrev Lt(v:Nat):St:=⟨[zP 2,(14,(.l 79 (([a1.Read,a1.Write]).map (eW 138 bj)))),(15,(I ((([a1.Read,a1.Write]).length:Nat):Int))),(16,(zI N)),(23,(bm y2)),(24,(zI y2.length)),(25,(I (v:Int)))],[(2,[(I a0.Many),(aQ a0.Grants)])],H0⟩
abbrev xu(x:(Int⊕(Nat×Bool))):aN×St:=match x with | .inl z1=>(.ret,⟨[(4,(I z1))],[],H0⟩) | .inr (z1,z2)=>((.ex 2),⟨[zP 2,(14,(.l 79 (([a1.Read,a1.Write]).map (eW 138 bj)))),(15,(I ((([a1.Read,a1.Write]).length:Nat):Int))),(16,(zI N)),(23,(bm y2)),(24,(zI y2.length)),(25,(I (z1:Int))),(26,(.b z2))],[(2,[(I a0.Many),(aQ a0.Grants)])],H0⟩)
theorem JR(o:Nat⊕(Int⊕(Nat×Bool)))(h:js a0 y2 Q=some o):bO E0 Ud (Lt a0 a1 N y2) (xu a0 a1 N y2) Q o:=
 bZ (.or (bt<|ao (.n Q)<|.ex fun (y6:bz)=>ao (.v (.a [(I y6.Owner),(dx y6.Names)]))<|rz<|xI fun r8=>oN (ao (.i ((Q+1:Nat):Int))<|.nil)) (bf<|.nil)) fun L=>cp h (fun h5 h=>ai (aA h5)<|ai (rI Q)<|cn h fun y6 h7 h=>ai (aM bj h7)<|ai tt<|ai ff<|gT<|lZ<|ai (rfl:Z0)<|bJ h (Hz a0 y6) fun r8 h=>cG h (fun ab h=>ai ab<|L h) (fun ab h=>ai ab<|aW h fun a7 h=>ai a7<|L h)) (fun h5 h=>ai (ay h5)<|L h)
def c8:Option (Nat⊕(Unit⊕(Int⊕(Nat×Bool)))):=
 if (N:Int)<((([a1.Read,a1.Write]).length:Nat):Int) then
  (([a1.Read,a1.Write])[N]?).bind fun y2=>
  if 4<(y2.length:Int) then
   some (.inr (.inl ()))
  else
   (lp (fun v=>js a0 y2 v) 0).bind fun x5=>match x5 with
   | .inl aE=>
    some (.inr (.inr (.inl aE)))
   | .inr aV=>
    if IntKind.i64.wrap ((N:Int)+1)=((N+1:Nat):Int) then
     some (.inl (N+1))
    else none
 else
  some (.inr (.inr (.inr (N,decide ((N:Int)<((([a1.Read,a1.Write]).length:Nat):Int))))))
abbrev Lu(v:Nat):St:=⟨[zP 2,(14,(.l 79 (([a1.Read,a1.Write]).map (eW 138 bj)))),(15,(I ((([a1.Read,a1.Write]).length:Nat):Int))),(16,(I (v:Int)))],[(2,[(I a0.Many),(aQ a0.Grants)])],H0⟩
abbrev tq(x:(Unit⊕(Int⊕(Nat×Bool)))):aN×St:=match x with | .inl ()=>(.ret,⟨[(4,(I 2))],[],H0⟩) | .inr (.inl z1)=>(.ret,⟨[(4,(I z1))],[],H0⟩) | .inr (.inr (z1,z2))=>((.ex 0),⟨[zP 2,(14,(.l 79 (([a1.Read,a1.Write]).map (eW 138 bj)))),(15,(I ((([a1.Read,a1.Write]).length:Nat):Int))),(16,(I (z1:Int))),(17,(.b z2))],[(2,[(I a0.Many),(aQ a0.Grants)])],H0⟩)
theorem JS(o:Nat⊕(Unit⊕(Int⊕(Nat×Bool))))(h:c8 a0 a1 N=some o):bO E0 Ue (Lu a0 a1) (tq a0 a1) N o:=
 bZ (.or (bt<|ao (.n N)<|.ex fun (y2:(List bz))=>ao (.v (bm y2))<|ao (.i (y2.length:Int))<|oN (ao (.i (y2.length:Int))<|.or (.ex fun (aE:Int)=>ao (.cD (xu a0 a1 N y2 (.inl aE)))<|.nil) (.ex fun (aV:(Nat×Bool))=>ao (.cD (xu a0 a1 N y2 (.inr aV)))<|ao (.i ((N+1:Nat):Int))<|.nil))) (bf<|.nil)) fun L=>cp h (fun h1 h=>ai (aA h1)<|ai (rI N)<|cn h fun y2 h3 h=>ai (aM (eW 138 bj) h3)<|ai (aJ bj y2)<|cp h (fun h4 h=>ai (aA h4)<|L h) (fun h4 h=>ai (ay h4)<|ai (aJ bj y2)<|fc h (fC (JR a0 a1 N y2) 0) (fun aE h=>L h) (fun aV h=>aW h fun w8 h=>ai w8<|L h))) (fun h1 h=>ai (ay h1)<|L h)
abbrev O3(a0:ak)(a1:Label)(r:Int):bH×HP:=(.ret (I r),H0)
def sr:Option Int:=
 (lp (fun v=>c8 a0 a1 v) 0).bind fun x1=>match x1 with
 | .inl F=>
  some 2
 | .inr (.inl E)=>
  some E
 | .inr (.inr aP)=>
  some 0
theorem B3(r:Int)(h:sr a0 a1=some r):call G Ω0 E0 129 [(.a [(I a0.Many),(.l 166 (a0.Grants.map ct))]),(.a [(.l 138 (a1.Read.map bj)),(.l 138 (a1.Write.map bj))])] H0=some (O3 a0 a1 r):=
 bu al6 (fN<|ao (.l (([a1.Read,a1.Write]).map (eW 138 bj)))<|ao (.i ((([a1.Read,a1.Write]).length:Nat):Int))<|.or (.ex fun (F:Unit)=>ao (.cD (tq a0 a1 (.inl F)))<|.nil) (.or (.ex fun (E:Int)=>ao (.cD (tq a0 a1 (.inr (.inl E))))<|.nil) (.ex fun (aP:(Nat×Bool))=>ao (.cD (tq a0 a1 (.inr (.inr aP))))<|.nil))) fun L=>cg<|lZ<|ai (rfl:[(bm a1.Read),(bm a1.Write)]=([a1.Read,a1.Write]).map (eW 138 bj))<|ai (aJ (eW 138 bj) ([a1.Read,a1.Write]))<|SV h (fC (JS a0 a1) 0) (fun F h=>L h) (fun E h=>L h) (fun aP h=>L h)
end
section
variable (a0:Var)
abbrev Lv(a0:Var)(r:Bool):bH×HP:=(.ret (.b r),H0)
def tr:Option Bool:=
 if a0.Known=true then
  some false
 else
  if IntKind.i64.wrap ((a0.Label.Read.length:Int)+(a0.Label.Write.length:Int))=(a0.Label.Read.length:Int)+(a0.Label.Write.length:Int) then
   some (decide (0<((a0.Label.Read.length:Int)+(a0.Label.Write.length:Int))))
  else none
theorem HA(r:Bool)(h:tr a0=some r):call G Ω0 E0 135 [(.a (FU a0))] H0=some (Lv a0 r):=
 bu ama (bt<|.or (bf<|bf<|bf<|bf<|bf<|bf<|bf<|bf<|bf<|bf<|bf<|.nil) (wP<|ao (.i (a0.Label.Read.length:Int))<|wP<|ao (.i (a0.Label.Write.length:Int))<|bt<|ao (.i ((a0.Label.Read.length:Int)+(a0.Label.Write.length:Int)))<|fN<|.nil)) fun L=>vX<|cG h (fun h1 h=>cu (an not h1)<|cu (an not h1)<|cu (an not h1)<|cu (an not h1)<|cu (an not h1)<|ai (an not h1)<|L h) (fun h1 h=>cu (an not h1)<|ai (g1 (an not h1))<|ai (rfl:Z0)<|ai (g1 (an not h1))<|ai (aJ bj a0.Label.Read)<|cu (an not h1)<|ai (g1 (an not h1))<|ai (rfl:Z0)<|ai (g1 (an not h1))<|ai (aJ bj a0.Label.Write)<|ai (g1 (an not h1))<|aW h fun w2 h=>ai w2<|nB (an not h1)<|L h)
end
section
variable (a0:(List Var))
abbrev tu(r:Bool):Prop:=call G Ω0 E0 134 [(.l 83 (a0.map eo)),(.f 135 [])] H0=some (.ret (.b r),H0)
def iy:Option Bool:=O2 (fun y=>tr y) a0
theorem q9(r:Bool)(h:iy a0=some r):tu a0 r:=Ar (n:=3) (ld:=(some 3)) (by decide) (fun _=>⟨rfl,rfl,_,rfl,rfl⟩) rfl (fun y b hb=>HA y b hb) al9 aml h
def B4:List de:=(gM 38 37)::⟨some 39,.fa 2 1,some ⟨38,false⟩,false⟩::⟨some 40,.ld none 39,some ⟨38,false⟩,false⟩::⟨some 41,.ln false 40,some ⟨38,false⟩,false⟩::⟨some 42,.fa 0 1,some ⟨38,false⟩,false⟩::⟨some 43,.fa 0 42,some ⟨38,false⟩,false⟩::⟨some 44,.ld none 43,some ⟨38,false⟩,false⟩::⟨some 45,.bo .gtr false 41 44,some ⟨38,false⟩,false⟩::(gp 46 (.pk 38 (.c (.b true)) 45))::[]
end
section
variable (a0:Program)(Z:(List Label))(V:Nat)(T:Nat)
def lF(aF:Bool):Option Bool:=
 if aF=true then
  some true
 else
  some (decide (a0.ak.Many<(a0.Speak.length:Int)))
abbrev oc(x:Bool):St:=⟨[zP 1,(46,(.b x))],[(1,(av a0))],H0⟩
theorem qn(aF:Bool)(w:List AV)(x:Bool)(h:lF a0 aF=some x):uc G Ω0 E0 [1,46] [1] B4 ⟨[(37,(.b aF)),(36,(W w 0)),(35,(W w 1)),(34,(W w 2)),(33,(W w 3)),(32,(W w 4)),(31,(W w 5)),(30,(W w 6)),(29,(W w 7)),(28,(W w 8)),(27,(W w 9)),(26,(W w 10)),(25,(W w 11)),(24,(W w 12)),(23,(W w 13)),(22,(W w 14)),(21,(W w 15)),(20,(.b (decide (16<(a0.Vars.length:Int))))),(19,(.b (decide (16<(a0.Vars.length:Int))))),(18,(zI a0.Vars.length)),(17,(ey a0.Vars)),(16,(.p ⟨0,1⟩ 5)),zP 1],[(1,(av a0))],H0⟩=some (oc a0 x):=
 ur (.or (bf<|bf<|bf<|bf<|bf<|bf<|bf<|bt<|.nil) (rz<|ao (.i (a0.Speak.length:Int))<|bt<|bt<|bt<|bt<|bt<|bf<|.nil)) fun L=>cG h (fun h7 h=>cq h7<|cq h7<|cq h7<|oL h7<|L h) (fun h7 h=>JB h7<|ai (aJ (I) a0.Speak)<|cq h7<|ai (g0 h7)<|ai (rfl:Z0)<|oL h7<|L h)
def JT:List de:=(gF 16 5 1)::(gQ 17 16)::(gl 18 17)::(gB 19 .gtr 18 (kI 16))::(gM 20 19)::⟨some 21,.fa 3 1,some ⟨20,false⟩,false⟩::⟨some 22,.ld none 21,some ⟨20,false⟩,false⟩::⟨some 23,.ln false 22,some ⟨20,false⟩,false⟩::⟨some 24,.bo .gtr false 23 (kI 5),some ⟨20,false⟩,false⟩::(gp 25 (.pk 20 (.c (.b true)) 24))::(gM 26 25)::⟨some 27,.fa 4 1,some ⟨26,false⟩,false⟩::⟨some 28,.ld none 27,some ⟨26,false⟩,false⟩::⟨some 29,.ln false 28,some ⟨26,false⟩,false⟩::⟨some 30,.bo .gtr false 29 (kI 5),some ⟨26,false⟩,false⟩::(gp 31 (.pk 26 (.c (.b true)) 30))::(gM 32 31)::⟨some 33,.fa 6 1,some ⟨32,false⟩,false⟩::⟨some 34,.ld none 33,some ⟨32,false⟩,false⟩::⟨some 35,.ln false 34,some ⟨32,false⟩,false⟩::⟨some 36,.bo .gtr false 35 (kI 5),some ⟨32,false⟩,false⟩::(gp 37 (.pk 32 (.c (.b true)) 36))::B4
def rF:Option Bool:=
 if 16<(a0.Vars.length:Int) then
  (lF a0 true).bind fun x5=>
  some x5
 else
  if 5<(a0.Ins.length:Int) then
   (lF a0 true).bind fun x6=>
   some x6
  else
   if 5<(a0.Outs.length:Int) then
    (lF a0 true).bind fun x7=>
    some x7
   else
    (lF a0 (decide (5<(a0.Funcs.length:Int)))).bind fun x7=>
    some x7
abbrev B5(x:Bool):St:=⟨[zP 1,(46,(.b x))],[(1,(av a0))],H0⟩
theorem ID(x:Bool)(h:rF a0=some x):uc G Ω0 E0 [1,46] [1] JT ⟨[zP 1],[(1,(av a0))],H0⟩=some (B5 a0 x):=
 ur (bt<|ao (.i (a0.Vars.length:Int))<|.or (aeT<|.jb (some 38) 8<|.ex fun (x5:Bool)=>ao (.jn (oc a0 x5))<|.nil) (rz<|ao (.i (a0.Ins.length:Int))<|yG<|.or (aeU<|.jb (some 38) 8<|.ex fun (x6:Bool)=>ao (.jn (oc a0 x6))<|.nil) (rz<|ao (.i (a0.Outs.length:Int))<|yG<|.or (YE<|.jb (some 38) 8<|.ex fun (x7:Bool)=>ao (.jn (oc a0 x7))<|.nil) (rz<|ao (.i (a0.Funcs.length:Int))<|yG<|.jb (some 38) 8<|.ex fun (x7:Bool)=>ao (.jn (oc a0 x7))<|.nil)))) fun L=>ai (rfl:Z0)<|ai (aJ eo a0.Vars)<|cp h (fun h4 h=>cq (aA h4)<|cq (aA h4)<|ai (aA h4)<|oD<|oD<|ai tt<|oD<|oD<|ai tt<|bJ h (qn a0 true [.sk,.sk,.sk,.sk,(.b true),(.b true),.sk,.sk,.sk,.sk,(.b true),(.b true),.sk,.sk,.sk,.sk]) fun x5 h=>L h) (fun h4 h=>JB (ay h4)<|ai (aJ aH a0.Ins)<|oL (ay h4)<|cp h (fun h5 h=>cq (aA h5)<|cq (aA h5)<|ai (aA h5)<|oD<|oD<|ai tt<|bJ h (qn a0 true [.sk,.sk,.sk,.sk,(.b true),(.b true),.sk,.sk,.sk,.sk,(.b (decide (5<(a0.Ins.length:Int)))),(.b (decide (5<(a0.Ins.length:Int)))),(.b (decide (5<(a0.Ins.length:Int)))),(zI a0.Ins.length),(aS a0.Ins),(.p ⟨0,1⟩ 3)]) fun x6 h=>L h) (fun h5 h=>JB (ay h5)<|ai (aJ aH a0.Outs)<|oL (ay h5)<|cp h (fun h6 h=>YD (aA h6)<|bJ h (qn a0 true [.sk,.sk,.sk,.sk,(.b (decide (5<(a0.Outs.length:Int)))),(.b (decide (5<(a0.Outs.length:Int)))),(.b (decide (5<(a0.Outs.length:Int)))),(zI a0.Outs.length),(aS a0.Outs),(.p ⟨0,1⟩ 4),(.b (decide (5<(a0.Ins.length:Int)))),(.b (decide (5<(a0.Ins.length:Int)))),(.b (decide (5<(a0.Ins.length:Int)))),(zI a0.Ins.length),(aS a0.Ins),(.p ⟨0,1⟩ 3)]) fun x7 h=>L h) (fun h6 h=>JB (ay h6)<|ai (aJ eO a0.Funcs)<|oL (ay h6)<|bJ h (qn a0 (decide (5<(a0.Funcs.length:Int))) [(.b (decide (5<(a0.Funcs.length:Int)))),(zI a0.Funcs.length),(cV a0.Funcs),(.p ⟨0,1⟩ 6),(.b (decide (5<(a0.Outs.length:Int)))),(.b (decide (5<(a0.Outs.length:Int)))),(.b (decide (5<(a0.Outs.length:Int)))),(zI a0.Outs.length),(aS a0.Outs),(.p ⟨0,1⟩ 4),(.b (decide (5<(a0.Ins.length:Int)))),(.b (decide (5<(a0.Ins.length:Int)))),(.b (decide (5<(a0.Ins.length:Int)))),(zI a0.Ins.length),(aS a0.Ins),(.p ⟨0,1⟩ 3)]) fun x7 h=>L h)))
def pc:Option (Nat⊕(Int⊕(Nat×Bool))):=
 if (V:Int)<(Z.length:Int) then
  (Z[V]?).bind fun a5=>
  (sr a0.ak a5).bind fun ba=>
  if (ba !=0)=true then
   some (.inr (.inl ba))
  else
   if IntKind.i64.wrap ((V:Int)+1)=((V+1:Nat):Int) then
    some (.inl (V+1))
   else none
 else
  some (.inr (.inr (V,decide ((V:Int)<(Z.length:Int)))))
abbrev Lw(v:Nat):St:=⟨[(1,(.e (.a (av a0)) 0)),(56,(aS Z)),(57,(zI Z.length)),(58,(I (v:Int)))],[],H0⟩
abbrev xv(x:(Int⊕(Nat×Bool))):aN×St:=match x with | .inl z1=>(.ret,⟨[(2,(I z1))],[],H0⟩) | .inr (z1,z2)=>((.ex 0),⟨[(1,(.e (.a (av a0)) 0)),(56,(aS Z)),(57,(zI Z.length)),(58,(I (z1:Int))),(59,(.b z2))],[],H0⟩)
theorem JU(o:Nat⊕(Int⊕(Nat×Bool)))(h:pc a0 Z V=some o):bO E0 Yu (Lw a0 Z) (xv a0 Z) V o:=
 bZ (.or (bt<|ao (.n V)<|.ex fun (a5:Label)=>ao (.v (.a [(bm a5.Read),(bm a5.Write)]))<|ja<|xI fun ba=>oN (ao (.i ((V+1:Nat):Int))<|.nil)) (bf<|.nil)) fun L=>cp h (fun a4 h=>ai (aA a4)<|ai (rI V)<|cn h fun a5 bq h=>ai (aM aH bq)<|Mu<|bJ h (B3 a0.ak a5) fun ba h=>cG h (fun aG h=>ai aG<|L h) (fun aG h=>ai aG<|aW h fun bk h=>ai bk<|L h)) (fun a4 h=>ai (ay a4)<|L h)
def pd:Option (Nat⊕(Int⊕(Nat×Bool))):=
 if (T:Int)<(a0.Vars.length:Int) then
  (a0.Vars[T]?).bind fun a6=>
  (sr a0.ak a6.Label).bind fun aI=>
  if (aI !=0)=true then
   some (.inr (.inl aI))
  else
   if IntKind.i64.wrap ((T:Int)+1)=((T+1:Nat):Int) then
    some (.inl (T+1))
   else none
 else
  some (.inr (.inr (T,decide ((T:Int)<(a0.Vars.length:Int)))))
abbrev Lx(v:Nat):St:=⟨[(1,(.e (.a (av a0)) 0)),(71,(ey a0.Vars)),(72,(zI a0.Vars.length)),(73,(I (v:Int)))],[],H0⟩
abbrev xw(x:(Int⊕(Nat×Bool))):aN×St:=match x with | .inl z1=>(.ret,⟨[(2,(I z1))],[],H0⟩) | .inr (z1,z2)=>((.ex 2),⟨[(1,(.e (.a (av a0)) 0)),(71,(ey a0.Vars)),(72,(zI a0.Vars.length)),(73,(I (z1:Int))),(74,(.b z2))],[],H0⟩)
theorem JV(o:Nat⊕(Int⊕(Nat×Bool)))(h:pd a0 T=some o):bO E0 Yv (Lx a0) (xw a0) T o:=
 bZ (.or (bt<|ao (.n T)<|.ex fun (a6:Var)=>ao (.v (.a (FU a6)))<|ja<|xI fun aI=>oN (ao (.i ((T+1:Nat):Int))<|.nil)) (bf<|.nil)) fun L=>cp h (fun aB h=>ai (aA aB)<|ai (rI T)<|cn h fun a6 aG h=>ai (aM eo aG)<|Mu<|bJ h (B3 a0.ak a6.Label) fun aI h=>cG h (fun au h=>ai au<|L h) (fun au h=>ai au<|aW h fun bb h=>ai bb<|L h)) (fun aB h=>ai (ay aB)<|L h)
abbrev O4(a0:Program)(r:Int):bH×HP:=(.ret (I r),H0)
def wu:Option Int:=
 (tj a0.ak).bind fun r1=>
 if (r1 !=0)=true then
  some r1
 else
  (rF a0).bind fun x4=>
  if x4=true then
   some 2
  else
   (ix a0.Speak a0).bind fun r7=>
   if r7=true then
    some 5
   else
    (jz ([a0.Ins,a0.Outs])).bind fun Z=>
    (lp (fun v=>pc a0 Z v) 0).bind fun bh=>match bh with
    | .inl al=>
     some al
    | .inr aq=>
     (lp (fun v=>pd a0 v) 0).bind fun bg=>match bg with
     | .inl aj=>
      some aj
     | .inr ap=>
      (iy a0.Vars).bind fun aI=>
      if aI=true then
       some 1
      else
       some 0
theorem JW(r:Int)(h:wu a0=some r):call G Ω0 E0 92 [(.a (av a0))] H0=some (O4 a0 r):=
 bu G92 (bt<|xI fun r1=>oN (.jb (some 16) 30<|.ex fun (x4:Bool)=>ao (.jn (B5 a0 x4))<|oN (xB fun r7=>oN (ao (.l (([a0.Ins,a0.Outs]).map (eW 81 aH)))<|.ex fun (Z:(List Label))=>ao (.v (aS Z))<|ao (.i (Z.length:Int))<|.or (.ex fun (al:Int)=>ao (.cD (xv a0 Z (.inl al)))<|.nil) (.ex fun (aq:(Nat×Bool))=>ao (.cD (xv a0 Z (.inr aq)))<|ao (.i (a0.Vars.length:Int))<|.or (.ex fun (aj:Int)=>ao (.cD (xw a0 (.inl aj)))<|.nil) (.ex fun (ap:(Nat×Bool))=>ao (.cD (xw a0 (.inr ap)))<|xB fun aI=>oN (.nil))))))) fun L=>vX<|bJ h (Hw a0.ak) fun r1 h=>cG h (fun h3 h=>ai h3<|L h) (fun h3 h=>ai h3<|bJ h (ID a0) fun x4 h=>cG h (fun h6 h=>ai h6<|L h) (fun h6 h=>oY h6<|bJ h (q8 a0.Speak a0) fun r7 h=>cG h (fun h9 h=>ai h9<|L h) (fun h9 h=>ai h9<|ai (rfl:[(aS a0.Ins),(aS a0.Outs)]=([a0.Ins,a0.Outs]).map (eW 81 aH))<|bJ h (xt ([a0.Ins,a0.Outs])) fun Z h=>ai (aJ aH Z)<|fc h (fC (JU a0 Z) 0) (fun al h=>L h) (fun aq h=>ai (aJ eo a0.Vars)<|fc h (fC (JV a0) 0) (fun aj h=>L h) (fun ap h=>bJ h (q9 a0.Vars) fun aI h=>cG h (fun au h=>ai au<|L h) (fun au h=>ai au<|L h))))))
end
section
variable (dp:Nat)(hp:HP)(k0:Key)
abbrev Ni(dp:Nat)(hp:HP)(k0:Key)(a0:Stmt)(a1:Int)(c0:Int)(r:(Bool×Int)):bH×HP:=(.ret (.b r.1),ar hp k0 [(I r.2)])
def zk(a0:Stmt)(a1:Int)(c0:Int):Option (Bool×Int):=
 if IntKind.i64.wrap (c0+1)=c0+1 then
  if (c0+1)≤50 then
   some ((decide (a1≤6)),(c0+1))
  else
   some (false,(c0+1))
 else none
theorem IE(d:k0.dp<dp)(hz:aO dp hp)(a0:Stmt)(a1:Int)(c0:Int)(r:(Bool×Int))(h:zk a0 a1 c0=some r):call G Ω0 ⟨dp,false⟩ 136 [(.a (aD a0)),(I a1),(.p k0 0)] (ar hp k0 [(I c0)])=some (Ni dp hp k0 a0 a1 c0 r):=
 bu amb (bf<|ao (.l [(I c0)])<|ao (.i (c0+1))<|bf<|ao (.l [(I c0)])<|bf<|ao (.h (ar hp k0 [(I (c0+1))]))<|bf<|ao (.l [(I (c0+1))])<|.or (ja<|.nil) (Mv<|.nil)) fun L=>ai ((by simp [aD,AV.cb,AV.dm,AV.deep,AV.dt,bD d,ec d]):(((.a (aD a0)):AV).deep dp&&(([(0,(.a (aD a0))),(1,(I a1)),(2,(.p k0 0))]:List (Nat×AV)).all (fun y=>y.2.cb ⟨dp,3⟩)&&([]:List (Nat×List AV)).all (fun y=>AV.dm ⟨dp,3⟩ y.2)))=true)<|ai (bQ d)<|ai (iK hp k0 [(I c0)])<|aW h fun w1 h=>ai w1<|ai ff<|ai (bQ d)<|ai (iK hp k0 [(I c0)])<|ai tt<|ai (bQ d)<|ai (fW hp k0 [(I c0)] [(I (c0+1))])<|ai (bQ d)<|ai (iK hp k0 [(I (c0+1))])<|cp h (fun h2 h=>vY (aA h2)<|L h) (fun h2 h=>vY (ay h2)<|L h)
end
section
variable (dp:Nat)(hp:HP)(k0:Key)(a0:(List Stmt))(a1:Int)(c0:Int)
abbrev zZ(dp:Nat)(hp:HP)(k0:Key)(a0:(List Stmt))(a1:Int)(c0:Int)(r:(Bool×Int)):bH×HP:=(.ret (.b r.1),ar hp k0 [(I r.2)])
abbrev l9(r:(Bool×Int)):Prop:=call G Ω0 ⟨dp,false⟩ 137 [(.l 92 (a0.map bK)),(I a1),(.f 136 [(.p k0 0)])] (ar hp k0 [(I c0)])=some (zZ dp hp k0 a0 a1 c0 r)
end
structure ma where
 f_scope_Walk__scope_few_1:(List Stmt)→Int→Int→Option (Bool×Int)
structure lO(R:ma):Prop where
 f_scope_Walk__scope_few_1:∀ (dp:Nat)(hp:HP)(k0:Key)(d:k0.dp<dp)(hz:aO dp hp)(a0:(List Stmt))(a1:Int)(c0:Int)(r:(Bool×Int)),R.f_scope_Walk__scope_few_1 a0 a1 c0=some r→l9 dp hp k0 a0 a1 c0 r
section
variable (R:ma)(a0:(List Stmt))(a1:Int)(k:Nat)(hp:HP)(k0:Key)(dp:Nat)(c0:Int)
def iR(v0_k0_0:Int):Option ((Nat×Int)⊕(Int⊕(Nat×Bool×Int))):=
 if (k:Int)<(a0.length:Int) then
  (a0[k]?).bind fun y2=>
  (zk y2 a1 v0_k0_0).bind fun r4=>
  if r4.1=true then
   if IntKind.i64.wrap (a1+1)=a1+1 then
    (R.f_scope_Walk__scope_few_1 y2.Then (a1+1) r4.2).bind fun r8=>
    if r8.1=true then
     (R.f_scope_Walk__scope_few_1 y2.Else (a1+1) r8.2).bind fun ah=>
     if ah.1=true then
      if IntKind.i64.wrap ((k:Int)+1)=((k+1:Nat):Int) then
       some (.inl (k+1,ah.2))
      else none
     else
      some (.inr (.inl ah.2))
    else
     some (.inr (.inl r8.2))
   else none
  else
   some (.inr (.inl r4.2))
 else
  some (.inr (.inr (k,decide ((k:Int)<(a0.length:Int)),v0_k0_0)))
abbrev yO(a0:(List Stmt))(a1:Int)(v:(Nat×Int)):St:=⟨[(1,(I a1)),(2,(.f 136 [(.p k0 0)])),(9,(cM a0)),(10,(zI a0.length)),(11,(I (v.1:Int)))],[],ar hp k0 [(I v.2)]⟩
abbrev lx(a0:(List Stmt))(a1:Int)(x:(Int⊕(Nat×Bool×Int))):aN×St:=match x with | .inl z1=>(.ret,⟨[(6,(.b false))],[],ar hp k0 [(I z1)]⟩) | .inr (z1,z2,z3)=>((.ex 0),⟨[(1,(I a1)),(2,(.f 136 [(.p k0 0)])),(9,(cM a0)),(10,(zI a0.length)),(11,(I (z1:Int))),(12,(.b z2))],[],ar hp k0 [(I z3)]⟩)
theorem xx(hR:lO R)(dp:Nat)(hp:HP)(k0:Key)(d:k0.dp<dp)(hz:aO dp hp)(a0:(List Stmt))(a1:Int)(k:Nat)(v0_k0_0:Int)(o:(Nat×Int)⊕(Int⊕(Nat×Bool×Int)))(h:iR R a0 a1 k v0_k0_0=some o):bO ⟨dp,false⟩ Of (yO hp k0 a0 a1) (lx hp k0 a0 a1) (k,v0_k0_0) o:=
 bZ (.or (bt<|ao (.n k)<|.ex fun (y2:Stmt)=>ao (.v (.a (aD y2)))<|ja<|.ex fun (r4:(Bool×Int))=>ao (.v (.b r4.1))<|ao (.h (boxes dp [(8,(aD y2))] (ar hp k0 [(I r4.2)])))<|ao (.bx [(8,(aD y2))])<|ao (.h (ar hp k0 [(I r4.2)]))<|.or (wP<|ao (.i (a1+1))<|fN<|.ex fun (r8:(Bool×Int))=>ao (.v (.b r8.1))<|ao (.h (boxes dp [(8,(aD y2))] (ar hp k0 [(I r8.2)])))<|ao (.bx [(8,(aD y2))])<|ao (.h (ar hp k0 [(I r8.2)]))<|yG<|.or (wP<|ao (.i (a1+1))<|fN<|.ex fun (ah:(Bool×Int))=>ao (.v (.b ah.1))<|ao (.h (boxes dp [(8,(aD y2))] (ar hp k0 [(I ah.2)])))<|ao (.bx [(8,(aD y2))])<|ao (.h (ar hp k0 [(I ah.2)]))<|yG<|.or (bf<|ao (.i ((k+1:Nat):Int))<|.nil) (bt<|.nil)) (aeV<|.nil)) (aeW<|.nil)) (bf<|.nil)) fun L=>cp h (fun h1 h=>ai (aA h1)<|ai (rI k)<|cn h fun y2 h3 h=>ai (kS bK h3 (jm _))<|ai ((by simp [aD,AV.cb,AV.dm,AV.deep,AV.dt,bD d,ec d]):(([(14,(.a (aD y2))),(13,(.e (.a (aD y2)) 0)),(1,(I a1)),(2,(.f 136 [(.p k0 0)])),(9,(.l 92 (a0.map bK))),(10,(I (a0.length:Int))),(11,(I (k:Int)))]:List (Nat×AV)).all (fun y=>y.2.cb ⟨dp,8⟩)&&([]:List (Nat×List AV)).all (fun y=>AV.dm ⟨dp,8⟩ y.2))=true)<|ai ff<|ai (rN dp)<|ai tt<|ai (rN dp)<|ai (rN dp)<|p7<|cn h fun r4 aa h=>have aa:=cO d (IE (dp+1) (boxes dp [(8,(aD y2))] (ar hp k0 [(I v0_k0_0)])) k0 (cT d) (dJ (aU d (hz))) y2 a1 v0_k0_0 _ aa);ai aa<|ai (sh aa (by kernel_rfl) (by kernel_rfl))<|ai (si aa (aU d (hz)))<|cG h (fun h6 h=>cq (an not h6)<|ai (rN dp)<|cq (an not h6)<|aW h fun w7 h=>ai w7<|cq (an not h6)<|p7<|cn h fun r8 ax h=>have ax:=cO d (hR.f_scope_Walk__scope_few_1 (dp+1) (boxes dp [(8,(aD y2))] (ar hp k0 [(I r4.2)])) k0 (cT d) (dJ (aU d (hz))) y2.Then (a1+1) r4.2 _ ax);ai ax<|ai (sh ax (by kernel_rfl) (by kernel_rfl))<|ai (si ax (aU d (hz)))<|oL (an not h6)<|cG h (fun ab h=>cq (an not ab)<|ai (rN dp)<|cq (an not ab)<|ai w7<|cq (an not ab)<|p7<|cn h fun ah ad h=>have ad:=cO d (hR.f_scope_Walk__scope_few_1 (dp+1) (boxes dp [(8,(aD y2))] (ar hp k0 [(I r8.2)])) k0 (cT d) (dJ (aU d (hz))) y2.Else (a1+1) r8.2 _ ad);ai ad<|ai (sh ad (by kernel_rfl) (by kernel_rfl))<|ai (si ad (aU d (hz)))<|oL (an not ab)<|cG h (fun am h=>ai (an not am)<|aW h fun bc h=>ai bc<|L h) (fun am h=>ai (an not am)<|L h)) (fun ab h=>cq (an not ab)<|cq (an not ab)<|cq (an not ab)<|oL (an not ab)<|ai tt<|L h)) (fun h6 h=>cq (an not h6)<|cq (an not h6)<|cq (an not h6)<|oL (an not h6)<|oD<|oD<|oD<|ai ht<|cg<|L h)) (fun h1 h=>ai (ay h1)<|L h)
def jf:Option (Bool×Int):=
 (lp (fun v=>iR R a0 a1 v.1 v.2) (0,c0)).bind fun x1=>match x1 with
 | .inl F=>
  some (false,F)
 | .inr E=>
  some (true,E.2.2)
theorem wL(hR:lO R)(dp:Nat)(hp:HP)(k0:Key)(d:k0.dp<dp)(hz:aO dp hp)(a0:(List Stmt))(a1:Int)(c0:Int)(r:(Bool×Int))(h:jf R a0 a1 c0=some r):l9 dp hp k0 a0 a1 c0 r:=
 bu aes (ao (.i (a0.length:Int))<|.or (.ex fun (F:Int)=>ao (.cD (lx hp k0 a0 a1 (.inl F)))<|.nil) (.ex fun (E:(Nat×Bool×Int))=>ao (.cD (lx hp k0 a0 a1 (.inr E)))<|.nil)) fun L=>ai (aJ bK a0)<|fc h (fC (fun v=>xx R hR dp hp k0 d hz a0 a1 v.1 v.2) (0,c0)) (fun F h=>L h) (fun E h=>L h)
def fe:Nat→ma
 | 0=>⟨fun z0 z1 z2=>none⟩
 | n+1=>⟨jf (fe n)⟩
theorem qH:∀ n,lO (fe n)
 | 0=>⟨fun _ _ _ _ _ _ _ _ r h=>(by cases h)⟩
 | n+1=>⟨fun dp hp k0 d hz a0 a1 c0 r h=>wL _ (qH n) dp hp k0 d hz a0 a1 c0 r h⟩
def jA:Option (Bool×Int):=ev fun n=>(fe n).f_scope_Walk__scope_few_1 a0 a1 c0
theorem pf(hp:HP)(k0:Key)(d:k0.dp<dp)(hz:aO dp hp)(a0:(List Stmt))(a1:Int)(c0:Int)(r:(Bool×Int))(h:jA a0 a1 c0=some r):l9 dp hp k0 a0 a1 c0 r:=by
 obtain ⟨n,hn⟩:=xb h
 exact (qH n).f_scope_Walk__scope_few_1 dp hp k0 d hz a0 a1 c0 r hn
end
section
variable (a0:Program)(k:Nat)(Y:Int)
def uE:Option ((Nat×Int)⊕(Unit⊕(Nat×Bool×Int))):=
 if (k:Int)<(a0.Funcs.length:Int) then
  (a0.Funcs[k]?).bind fun y2=>
  (jA y2.Body 1 Y).bind fun r4=>
  if r4.1=true then
   if IntKind.i64.wrap ((k:Int)+1)=((k+1:Nat):Int) then
    some (.inl (k+1,r4.2))
   else none
  else
   some (.inr (.inl ()))
 else
  some (.inr (.inr (k,decide ((k:Int)<(a0.Funcs.length:Int)),Y)))
abbrev Nj(v:(Nat×Int)):St:=⟨[zP 1,(4,(.f 136 [(zQ 3)])),(9,(cV a0.Funcs)),(10,(zI a0.Funcs.length)),(11,(I (v.1:Int)))],[(1,(av a0)),(3,[(I v.2)])],H0⟩
abbrev zl(x:(Unit⊕(Nat×Bool×Int))):aN×St:=match x with | .inl ()=>(.ret,⟨[(2,(.b false))],[],H0⟩) | .inr (z1,z2,z3)=>((.ex 0),⟨[zP 1,(4,(.f 136 [(zQ 3)])),(9,(cV a0.Funcs)),(10,(zI a0.Funcs.length)),(11,(I (z1:Int))),(12,(.b z2))],[(1,(av a0)),(3,[(I z3)])],H0⟩)
theorem Ly(o:(Nat×Int)⊕(Unit⊕(Nat×Bool×Int)))(h:uE a0 k Y=some o):bO E0 Yw (Nj a0) (zl a0) (k,Y) o:=
 bZ (.or (bt<|ao (.n k)<|.ex fun (y2:Func)=>ao (.v (.a (eu y2)))<|ja<|.ex fun (r4:(Bool×Int))=>ao (.v (.b r4.1))<|ao (.h (boxes 0 [(1,(av a0)),(3,[(I r4.2)]),(6,(eu y2))] H0))<|ao (.bx [(1,(av a0)),(3,[(I r4.2)]),(6,(eu y2))])<|ao (.h (H0))<|.or (bf<|ao (.i ((k+1:Nat):Int))<|.nil) (bt<|.nil)) (bf<|.nil)) fun L=>cp h (fun h1 h=>ai (aA h1)<|ai (rI k)<|cn h fun y2 h3 h=>ai (aM eO h3)<|ai tt<|ai ff<|gT<|lZ<|p7<|cn h fun r4 aa h=>have aa:call G Ω0 ⟨0+1,false⟩ 137 [(cM y2.Body),(I 1),(.f 136 [(zQ 3)])] (boxes 0 [(1,(av a0)),(3,[(I Y)]),(6,(eu y2))] H0)=some (.ret (.b r4.1),boxes 0 [(1,(av a0)),(3,[(I r4.2)]),(6,(eu y2))] H0):=mJ (gj (bx1:=[(1,(av a0)),(3,[(I Y)]),(6,(eu y2))]) (by kernel_rfl) (by kernel_rfl)) (gj (bx1:=[(1,(av a0)),(3,[(I r4.2)]),(6,(eu y2))]) (by kernel_rfl) (by kernel_rfl)) (pf (0+1) (boxes 0 [(1,(av a0)),(3,[(I Y)]),(6,(eu y2))] H0) ⟨0,3⟩ (mR 0) (dJ (sf 0)) y2.Body 1 Y _ aa);ai aa<|ai (sh aa (by kernel_rfl) (by kernel_rfl))<|ai (si aa (sf 0))<|cG h (fun h6 h=>ai (an not h6)<|aW h fun w7 h=>ai w7<|L h) (fun h6 h=>ai (an not h6)<|L h)) (fun h1 h=>ai (ay h1)<|L h)
abbrev QH(a0:Program)(r:Bool):bH×HP:=(.ret (.b r),H0)
def yc:Option Bool:=
 (lp (fun v=>uE a0 v.1 v.2) (0,0)).bind fun x1=>match x1 with
 | .inl F=>
  some false
 | .inr E=>
  (jA a0.Main 1 E.2.2).bind fun r4=>
  some r4.1
theorem Lz(r:Bool)(h:yc a0=some r):call G Ω0 E0 93 [(.a (av a0))] H0=some (QH a0 r):=
 bu G93 (ja<|ao (.i (a0.Funcs.length:Int))<|.or (.ex fun (F:Unit)=>ao (.cD (zl a0 (.inl F)))<|.nil) (.ex fun (E:(Nat×Bool×Int))=>ao (.cD (zl a0 (.inr E)))<|bt<|.ex fun (r4:(Bool×Int))=>ao (.v (.b r4.1))<|ao (.h (boxes 0 [(1,(av a0)),(3,[(I r4.2)])] H0))<|ao (.bx [(1,(av a0)),(3,[(I r4.2)])])<|ao (.h (H0))<|.nil)) fun L=>cg<|ai ff<|gT<|lZ<|ai (aJ eO a0.Funcs)<|fc h (fC (fun v=>Ly a0 v.1 v.2) (0,0)) (fun F h=>L h) (fun E h=>ai (rfl:Z0)<|p7<|cn h fun r4 aa h=>have aa:call G Ω0 ⟨0+1,false⟩ 137 [(cM a0.Main),(I 1),(.f 136 [(zQ 3)])] (boxes 0 [(1,(av a0)),(3,[(I E.2.2)])] H0)=some (.ret (.b r4.1),boxes 0 [(1,(av a0)),(3,[(I r4.2)])] H0):=mJ (gj (bx1:=[(1,(av a0)),(3,[(I E.2.2)])]) (by kernel_rfl) (by kernel_rfl)) (gj (bx1:=[(1,(av a0)),(3,[(I r4.2)])]) (by kernel_rfl) (by kernel_rfl)) (pf (0+1) (boxes 0 [(1,(av a0)),(3,[(I E.2.2)])] H0) ⟨0,3⟩ (mR 0) (dJ (sf 0)) a0.Main 1 E.2.2 _ aa);ai aa<|ai (sh aa (by kernel_rfl) (by kernel_rfl))<|ai (si aa (sf 0))<|L h)
end
section
variable (a0:(List Int))(a1:Int)(B:Nat)
def mb:Option (Nat⊕(Nat⊕(Nat×Bool))):=
 if (B:Int)<(a0.length:Int) then
  (a0[B]?).bind fun y2=>
  if (a1==y2)=true then
   some (.inr (.inl B))
  else
   if IntKind.i64.wrap ((B:Int)+1)=((B+1:Nat):Int) then
    some (.inl (B+1))
   else none
 else
  some (.inr (.inr (B,decide ((B:Int)<(a0.length:Int)))))
abbrev Ek(v:Nat):St:=⟨[(0,(dx a0)),(1,(I a1)),(7,(zI a0.length)),(8,(I (v:Int)))],[],H0⟩
abbrev qp(x:(Nat⊕(Nat×Bool))):aN×St:=match x with | .inl z1=>(.ret,⟨[(4,(I (z1:Int)))],[],H0⟩) | .inr (z1,z2)=>((.ex 0),⟨[(0,(dx a0)),(1,(I a1)),(7,(zI a0.length)),(8,(I (z1:Int))),(9,(.b z2))],[],H0⟩)
theorem Df(o:Nat⊕(Nat⊕(Nat×Bool)))(h:mb a0 a1 B=some o):bO E0 Uo (Ek a0 a1) (qp a0 a1) B o:=
 bZ (.or (bt<|ao (.n B)<|xI fun y2=>oN (ao (.i ((B+1:Nat):Int))<|.nil)) (bf<|.nil)) fun L=>cp h (fun h1 h=>ai (aA h1)<|ai (rI B)<|cn h fun y2 h3 h=>ai (aM (I) h3)<|cG h (fun h4 h=>ai h4<|L h) (fun h4 h=>ai h4<|aW h fun w5 h=>ai w5<|L h)) (fun h1 h=>ai (ay h1)<|L h)
abbrev F8(a0:(List Int))(a1:Int)(r:Int):bH×HP:=(.ret (I r),H0)
def ss:Option Int:=
 (lp (fun v=>mb a0 a1 v) 0).bind fun x1=>match x1 with
 | .inl F=>
  some (F:Int)
 | .inr E=>
  some (-1)
theorem Dg(r:Int)(h:ss a0 a1=some r):call G Ω0 E0 157 [(.l 3 (a0.map (I))),(I a1)] H0=some (F8 a0 a1 r):=
 bu amm (ao (.i (a0.length:Int))<|.or (.ex fun (F:Nat)=>ao (.cD (qp a0 a1 (.inl F)))<|.nil) (.ex fun (E:(Nat×Bool))=>ao (.cD (qp a0 a1 (.inr E)))<|.nil)) fun L=>ai (aJ (I) a0)<|fc h (fC (Df a0 a1) 0) (fun F h=>L h) (fun E h=>L h)
abbrev Dh(a0:(List Int))(a1:Int)(r:Bool):bH×HP:=(.ret (.b r),H0)
def lG:Option Bool:=
 (ss a0 a1).bind fun r1=>
 some (decide (0≤r1))
theorem AX(r:Bool)(h:lG a0 a1=some r):call G Ω0 E0 138 [(.l 3 (a0.map (I))),(I a1)] H0=some (Dh a0 a1 r):=
 bu amc (xI fun r1=>.nil) fun L=>bJ h (Dg a0 a1) fun r1 h=>L h
end
section
variable (dp:Nat)(hp:HP)(k0:Key)(a0:Stmt)
abbrev Bw(dp:Nat)(hp:HP)(k0:Key)(k1:Key)(k2:Key)(a0:Stmt)(a1:Int)(c0:Unit)(c1:Checker)(c2:Int)(r:(Bool×Unit×Int)):bH×HP:=(.ret (.b r.1),ar (ar (ar hp k0 [(.p k1 0)]) k1 (bA c1)) k2 [(I r.2.2)])
def nC(a1:Int)(c0:Unit)(c1:Checker)(c2:Int):Option (Bool×Unit×Int):=
 (iw c1 a0).bind fun r1=>
 some ((r1==0),(),r1)
theorem zm(d:k0.dp<dp)(k1:Key)(j:k1.dp<dp)(k2:Key)(C:k2.dp<dp)(g:k0≠k1)(z:k0≠k2)(t:k1≠k2)(hz:aO dp hp)(a0:Stmt)(a1:Int)(c0:Unit)(c1:Checker)(c2:Int)(r:(Bool×Unit×Int))(h:nC a0 a1 c0 c1 c2=some r):call G Ω0 ⟨dp,false⟩ 139 [(.a (aD a0)),(I a1),(.p k0 0),(.p k2 0)] (ar (ar (ar hp k0 [(.p k1 0)]) k1 (bA c1)) k2 [(I c2)])=some (Bw dp hp k0 k1 k2 a0 a1 c0 c1 c2 r):=
 bu amd (bf<|ao (.l [(.p k1 0)])<|bt<|xI fun r1=>ao (.h (boxes dp [(4,(aD a0))] (ar (ar (ar hp k0 [(.p k1 0)]) k1 (bA c1)) k2 [(I c2)])))<|bf<|ao (.l [(I c2)])<|bf<|ao (.h (ar (ar (ar hp k0 [(.p k1 0)]) k1 (bA c1)) k2 [(I r1)]))<|bf<|ao (.l [(I r1)])<|.nil) fun L=>ai ((by simp [aD,AV.cb,AV.dm,AV.deep,AV.dt,bD d,ec d,bD j,ec j,bD C,ec C]):(((.a (aD a0)):AV).deep dp&&(([(0,(.a (aD a0))),(1,(I a1)),(2,(.p k0 0)),(3,(.p k2 0))]:List (Nat×AV)).all (fun y=>y.2.cb ⟨dp,4⟩)&&([]:List (Nat×List AV)).all (fun y=>AV.dm ⟨dp,4⟩ y.2)))=true)<|ai (bQ d)<|ai (amH g z:(ar (ar (ar hp k0 [(.p k1 0)]) k1 (bA c1)) k2 [(I c2)]) k0=some [(.p k1 0)])<|ai (rN dp)<|ai tt<|cn h fun r1 P h=>have P:call G Ω0 ⟨dp+1,true⟩ 140 [(.p k1 0),(.a (aD a0))] (boxes dp [(4,(aD a0))] (ar (ar (ar hp k0 [(.p k1 0)]) k1 (bA c1)) k2 [(I c2)]))=some (.ret (I r1),boxes dp [(4,(aD a0))] (ar (ar (ar hp k0 [(.p k1 0)]) k1 (bA c1)) k2 [(I c2)])):=mJ (fI (hp1:=ar (ar (ar hp k0 [(.p k1 0)]) k1 (bA c1)) k2 [(I c2)]) (bQ j) (xa (pT t) (fW ..))) (fI (hp1:=ar (ar (ar hp k0 [(.p k1 0)]) k1 (bA c1)) k2 [(I c2)]) (bQ j) (xa (pT t) (fW ..))) (Bv (dp+1) (boxes dp [(4,(aD a0))] (ar (ar (ar hp k0 [(.p k1 0)]) k1 (bA c1)) k2 [(I c2)])) k1 (cT j) (dJ (aU C (aU j (aU d (hz))))) c1 a0 _ P);ai P<|ai ff<|ai (bQ C)<|ai (iK (ar (ar hp k0 [(.p k1 0)]) k1 (bA c1)) k2 [(I c2)])<|ai tt<|ai (bQ C)<|ai (fW (ar (ar hp k0 [(.p k1 0)]) k1 (bA c1)) k2 [(I c2)] [(I r1)])<|ai (bQ C)<|ai (iK (ar (ar hp k0 [(.p k1 0)]) k1 (bA c1)) k2 [(I r1)])<|L h
end
section
variable (dp:Nat)(hp:HP)(k0:Key)(k1:Key)(k2:Key)(a0:(List Stmt))(a1:Int)(c0:Unit)(c1:Checker)(c2:Int)
abbrev tw(dp:Nat)(hp:HP)(k0:Key)(k1:Key)(k2:Key)(a0:(List Stmt))(a1:Int)(c0:Unit)(c1:Checker)(c2:Int)(r:(Bool×Unit×Int)):bH×HP:=(.ret (.b r.1),ar (ar (ar hp k0 [(.p k1 0)]) k1 (bA c1)) k2 [(I r.2.2)])
abbrev iz(r:(Bool×Unit×Int)):Prop:=call G Ω0 ⟨dp,false⟩ 137 [(.l 92 (a0.map bK)),(I a1),(.f 139 [(.p k0 0),(.p k2 0)])] (ar (ar (ar hp k0 [(.p k1 0)]) k1 (bA c1)) k2 [(I c2)])=some (tw dp hp k0 k1 k2 a0 a1 c0 c1 c2 r)
end
structure iA where
 f_scope_Walk__scope_checker_stmts_1:(List Stmt)→Int→Unit→Checker→Int→Option (Bool×Unit×Int)
structure gZ(R:iA):Prop where
 f_scope_Walk__scope_checker_stmts_1:∀ (dp:Nat)(hp:HP)(k0:Key)(d:k0.dp<dp)(k1:Key)(j:k1.dp<dp)(k2:Key)(C:k2.dp<dp)(g:k0≠k1)(z:k0≠k2)(t:k1≠k2)(hz:aO dp hp)(a0:(List Stmt))(a1:Int)(c0:Unit)(c1:Checker)(c2:Int)(r:(Bool×Unit×Int)),R.f_scope_Walk__scope_checker_stmts_1 a0 a1 c0 c1 c2=some r→iz dp hp k0 k1 k2 a0 a1 c0 c1 c2 r
section
variable (R:iA)(a0:(List Stmt))(a1:Int)(c1:Checker)(k:Nat)(hp:HP)(k0:Key)(k1:Key)(k2:Key)(dp:Nat)(c0:Unit)
def eH(v0_k2_0:Int):Option ((Nat×Int)⊕(Int⊕(Nat×Bool×Int))):=
 if (k:Int)<(a0.length:Int) then
  (a0[k]?).bind fun y2=>
  (nC y2 a1 () c1 v0_k2_0).bind fun r4=>
  if r4.1=true then
   if IntKind.i64.wrap (a1+1)=a1+1 then
    (R.f_scope_Walk__scope_checker_stmts_1 y2.Then (a1+1) () c1 r4.2.2).bind fun r8=>
    if r8.1=true then
     (R.f_scope_Walk__scope_checker_stmts_1 y2.Else (a1+1) () c1 r8.2.2).bind fun ah=>
     if ah.1=true then
      if IntKind.i64.wrap ((k:Int)+1)=((k+1:Nat):Int) then
       some (.inl (k+1,ah.2.2))
      else none
     else
      some (.inr (.inl ah.2.2))
    else
     some (.inr (.inl r8.2.2))
   else none
  else
   some (.inr (.inl r4.2.2))
 else
  some (.inr (.inr (k,decide ((k:Int)<(a0.length:Int)),v0_k2_0)))
abbrev rS(a0:(List Stmt))(a1:Int)(c1:Checker)(v:(Nat×Int)):St:=⟨[(1,(I a1)),(2,(.f 139 [(.p k0 0),(.p k2 0)])),(9,(cM a0)),(10,(zI a0.length)),(11,(I (v.1:Int)))],[],ar (ar (ar hp k0 [(.p k1 0)]) k1 (bA c1)) k2 [(I v.2)]⟩
abbrev gG(a0:(List Stmt))(a1:Int)(c1:Checker)(x:(Int⊕(Nat×Bool×Int))):aN×St:=match x with | .inl z1=>(.ret,⟨[(6,(.b false))],[],ar (ar (ar hp k0 [(.p k1 0)]) k1 (bA c1)) k2 [(I z1)]⟩) | .inr (z1,z2,z3)=>((.ex 0),⟨[(1,(I a1)),(2,(.f 139 [(.p k0 0),(.p k2 0)])),(9,(cM a0)),(10,(zI a0.length)),(11,(I (z1:Int))),(12,(.b z2))],[],ar (ar (ar hp k0 [(.p k1 0)]) k1 (bA c1)) k2 [(I z3)]⟩)
theorem ra(hR:gZ R)(dp:Nat)(hp:HP)(k0:Key)(d:k0.dp<dp)(k1:Key)(j:k1.dp<dp)(k2:Key)(C:k2.dp<dp)(g:k0≠k1)(z:k0≠k2)(t:k1≠k2)(hz:aO dp hp)(a0:(List Stmt))(a1:Int)(c1:Checker)(k:Nat)(v0_k2_0:Int)(o:(Nat×Int)⊕(Int⊕(Nat×Bool×Int)))(h:eH R a0 a1 c1 k v0_k2_0=some o):bO ⟨dp,false⟩ Of (rS hp k0 k1 k2 a0 a1 c1) (gG hp k0 k1 k2 a0 a1 c1) (k,v0_k2_0) o:=
 bZ (.or (bt<|ao (.n k)<|.ex fun (y2:Stmt)=>ao (.v (.a (aD y2)))<|ja<|.ex fun (r4:(Bool×Unit×Int))=>ao (.v (.b r4.1))<|ao (.h (boxes dp [(8,(aD y2))] (ar (ar (ar hp k0 [(.p k1 0)]) k1 (bA c1)) k2 [(I r4.2.2)])))<|ao (.bx [(8,(aD y2))])<|ao (.h (ar (ar (ar hp k0 [(.p k1 0)]) k1 (bA c1)) k2 [(I r4.2.2)]))<|.or (wP<|ao (.i (a1+1))<|fN<|.ex fun (r8:(Bool×Unit×Int))=>ao (.v (.b r8.1))<|ao (.h (boxes dp [(8,(aD y2))] (ar (ar (ar hp k0 [(.p k1 0)]) k1 (bA c1)) k2 [(I r8.2.2)])))<|ao (.bx [(8,(aD y2))])<|ao (.h (ar (ar (ar hp k0 [(.p k1 0)]) k1 (bA c1)) k2 [(I r8.2.2)]))<|yG<|.or (wP<|ao (.i (a1+1))<|fN<|.ex fun (ah:(Bool×Unit×Int))=>ao (.v (.b ah.1))<|ao (.h (boxes dp [(8,(aD y2))] (ar (ar (ar hp k0 [(.p k1 0)]) k1 (bA c1)) k2 [(I ah.2.2)])))<|ao (.bx [(8,(aD y2))])<|ao (.h (ar (ar (ar hp k0 [(.p k1 0)]) k1 (bA c1)) k2 [(I ah.2.2)]))<|yG<|.or (bf<|ao (.i ((k+1:Nat):Int))<|.nil) (bt<|.nil)) (aeV<|.nil)) (aeW<|.nil)) (bf<|.nil)) fun L=>cp h (fun h1 h=>ai (aA h1)<|ai (rI k)<|cn h fun y2 h3 h=>ai (kS bK h3 (jm _))<|ai ((by simp [aD,AV.cb,AV.dm,AV.deep,AV.dt,bD d,ec d,bD j,ec j,bD C,ec C]):(([(14,(.a (aD y2))),(13,(.e (.a (aD y2)) 0)),(1,(I a1)),(2,(.f 139 [(.p k0 0),(.p k2 0)])),(9,(.l 92 (a0.map bK))),(10,(I (a0.length:Int))),(11,(I (k:Int)))]:List (Nat×AV)).all (fun y=>y.2.cb ⟨dp,8⟩)&&([]:List (Nat×List AV)).all (fun y=>AV.dm ⟨dp,8⟩ y.2))=true)<|ai ff<|ai (rN dp)<|ai tt<|ai (rN dp)<|ai (rN dp)<|p7<|cn h fun r4 aa h=>have aa:=cO3 d j C g z t (zm (dp+1) (boxes dp [(8,(aD y2))] (ar (ar (ar hp k0 [(.p k1 0)]) k1 (bA c1)) k2 [(I v0_k2_0)])) k0 (cT d) k1 (cT j) k2 (cT C) (g) (z) (t) (dJ (aU C (aU j (aU d (hz))))) y2 a1 () c1 v0_k2_0 _ aa);ai aa<|ai (sh aa (by kernel_rfl) (by kernel_rfl))<|ai (si aa (aU C (aU j (aU d (hz)))))<|cG h (fun h6 h=>cq (an not h6)<|ai (rN dp)<|cq (an not h6)<|aW h fun w7 h=>ai w7<|cq (an not h6)<|p7<|cn h fun r8 ax h=>have ax:=cO3 d j C g z t (hR.f_scope_Walk__scope_checker_stmts_1 (dp+1) (boxes dp [(8,(aD y2))] (ar (ar (ar hp k0 [(.p k1 0)]) k1 (bA c1)) k2 [(I r4.2.2)])) k0 (cT d) k1 (cT j) k2 (cT C) (g) (z) (t) (dJ (aU C (aU j (aU d (hz))))) y2.Then (a1+1) () c1 r4.2.2 _ ax);ai ax<|ai (sh ax (by kernel_rfl) (by kernel_rfl))<|ai (si ax (aU C (aU j (aU d (hz)))))<|oL (an not h6)<|cG h (fun ab h=>cq (an not ab)<|ai (rN dp)<|cq (an not ab)<|ai w7<|cq (an not ab)<|p7<|cn h fun ah ad h=>have ad:=cO3 d j C g z t (hR.f_scope_Walk__scope_checker_stmts_1 (dp+1) (boxes dp [(8,(aD y2))] (ar (ar (ar hp k0 [(.p k1 0)]) k1 (bA c1)) k2 [(I r8.2.2)])) k0 (cT d) k1 (cT j) k2 (cT C) (g) (z) (t) (dJ (aU C (aU j (aU d (hz))))) y2.Else (a1+1) () c1 r8.2.2 _ ad);ai ad<|ai (sh ad (by kernel_rfl) (by kernel_rfl))<|ai (si ad (aU C (aU j (aU d (hz)))))<|oL (an not ab)<|cG h (fun am h=>ai (an not am)<|aW h fun bc h=>ai bc<|L h) (fun am h=>ai (an not am)<|L h)) (fun ab h=>cq (an not ab)<|cq (an not ab)<|cq (an not ab)<|oL (an not ab)<|ai tt<|L h)) (fun h6 h=>cq (an not h6)<|cq (an not h6)<|cq (an not h6)<|oL (an not h6)<|oD<|oD<|oD<|ai ht<|cg<|L h)) (fun h1 h=>ai (ay h1)<|L h)
def eQ(c0:Unit)(c1:Checker)(c2:Int):Option (Bool×Unit×Int):=
 (lp (fun v=>eH R a0 a1 c1 v.1 v.2) (0,c2)).bind fun x1=>match x1 with
 | .inl F=>
  some (false,(),F)
 | .inr E=>
  some (true,(),E.2.2)
theorem qI(hR:gZ R)(dp:Nat)(hp:HP)(k0:Key)(d:k0.dp<dp)(k1:Key)(j:k1.dp<dp)(k2:Key)(C:k2.dp<dp)(g:k0≠k1)(z:k0≠k2)(t:k1≠k2)(hz:aO dp hp)(a0:(List Stmt))(a1:Int)(c0:Unit)(c1:Checker)(c2:Int)(r:(Bool×Unit×Int))(h:eQ R a0 a1 c0 c1 c2=some r):iz dp hp k0 k1 k2 a0 a1 c0 c1 c2 r:=
 bu aes (ao (.i (a0.length:Int))<|.or (.ex fun (F:Int)=>ao (.cD (gG hp k0 k1 k2 a0 a1 c1 (.inl F)))<|.nil) (.ex fun (E:(Nat×Bool×Int))=>ao (.cD (gG hp k0 k1 k2 a0 a1 c1 (.inr E)))<|.nil)) fun L=>ai (aJ bK a0)<|fc h (fC (fun v=>ra R hR dp hp k0 d k1 j k2 C g z t hz a0 a1 c1 v.1 v.2) (0,c2)) (fun F h=>L h) (fun E h=>L h)
def dh:Nat→iA
 | 0=>⟨fun z0 z1 z2 z3 z4=>none⟩
 | n+1=>⟨eQ (dh n)⟩
theorem ly:∀ n,gZ (dh n)
 | 0=>⟨fun _ _ _ _ _ _ _ _ _ _ _ _ _ _ _ _ _ r h=>(by cases h)⟩
 | n+1=>⟨fun dp hp k0 d k1 j k2 C g z t hz a0 a1 c0 c1 c2 r h=>qI _ (ly n) dp hp k0 d k1 j k2 C g z t hz a0 a1 c0 c1 c2 r h⟩
def iB(c1:Checker)(c2:Int):Option (Bool×Unit×Int):=ev fun n=>(dh n).f_scope_Walk__scope_checker_stmts_1 a0 a1 c0 c1 c2
theorem rb(hp:HP)(k0:Key)(d:k0.dp<dp)(k1:Key)(j:k1.dp<dp)(k2:Key)(C:k2.dp<dp)(g:k0≠k1)(z:k0≠k2)(t:k1≠k2)(hz:aO dp hp)(a0:(List Stmt))(a1:Int)(c0:Unit)(c1:Checker)(c2:Int)(r:(Bool×Unit×Int))(h:iB a0 a1 c0 c1 c2=some r):iz dp hp k0 k1 k2 a0 a1 c0 c1 c2 r:=by
 obtain ⟨n,hn⟩:=xb h
 exact (ly n).f_scope_Walk__scope_checker_stmts_1 dp hp k0 d k1 j k2 C g z t hz a0 a1 c0 c1 c2 r hn
end
section
variable (dp:Nat)(hp:HP)(k0:Key)(c0:Checker)(a0:(List Stmt))
abbrev Di(dp:Nat)(hp:HP)(k0:Key)(c0:Checker)(a0:(List Stmt))(r:Int):bH×HP:=(.ret (I r),ar hp k0 (bA c0))
def jt:Option Int:=
 (iB a0 1 () c0 0).bind fun r1=>
 some r1.2.2
theorem su(d:k0.dp<dp)(hz:aO dp hp)(c0:Checker)(a0:(List Stmt))(r:Int)(h:jt c0 a0=some r):call G Ω0 ⟨dp,false⟩ 95 [(.p k0 0),(.l 92 (a0.map bK))] (ar hp k0 (bA c0))=some (Di dp hp k0 c0 a0 r):=
 bu G95 (fN<|.ex fun (r1:(Bool×Unit×Int))=>ao (.v (.b r1.1))<|ao (.h (boxes dp [(2,[(.p k0 0)]),(5,[(I r1.2.2)])] (ar hp k0 (bA c0))))<|ao (.bx [(2,[(.p k0 0)]),(5,[(I r1.2.2)])])<|ao (.h (ar hp k0 (bA c0)))<|bt<|.nil) fun L=>ai ((by simp [AV.cb,AV.dm,AV.deep,AV.dt,bD d,ec d]):(((.p k0 0):AV).deep dp&&(([(0,(.p k0 0)),(1,(.l 92 (a0.map bK)))]:List (Nat×AV)).all (fun y=>y.2.cb ⟨dp,2⟩)&&([]:List (Nat×List AV)).all (fun y=>AV.dm ⟨dp,2⟩ y.2)))=true)<|ai ((by simp [AV.cb,AV.dm,AV.deep,AV.dt,bD d,ec d]):(([(1,(.l 92 (a0.map bK))),(2,(.p ⟨dp,2⟩ 0))]:List (Nat×AV)).all (fun y=>y.2.cb ⟨dp,5⟩)&&([(2,[(.p k0 0)])]:List (Nat×List AV)).all (fun y=>AV.dm ⟨dp,5⟩ y.2))=true)<|ai ff<|ai (rN dp)<|ai tt<|ai (rN dp)<|ai ff<|ai ((by simp [AV.deep,AV.dt,ec d]):([(2,[(.p k0 0)]),(5,[(I 0)])]:List (Nat×List AV)).all (fun y=>AV.dt dp y.2)=true)<|cn h fun r1 P h=>have P:call G Ω0 ⟨dp+1,false⟩ 137 [(cM a0),(I 1),(.f 139 [(.p ⟨dp,2⟩ 0),(.p ⟨dp,5⟩ 0)])] (boxes dp [(2,[(.p k0 0)]),(5,[(I 0)])] (ar hp k0 (bA c0)))=some (.ret (.b r1.1),boxes dp [(2,[(.p k0 0)]),(5,[(I r1.2.2)])] (ar hp k0 (bA c0))):=mJ (kT (kT (gj (bx1:=[(2,[(.p k0 0)]),(5,[(I 0)])]) (by kernel_rfl) (by kernel_rfl)) (fI (hp1:=ar hp k0 (bA c0)) (bQ d) (fW ..))) (gj (bx1:=[(2,[(.p k0 0)]),(5,[(I 0)])]) (by kernel_rfl) (by kernel_rfl))) (kT (kT (gj (bx1:=[(2,[(.p k0 0)]),(5,[(I 0)])]) (by kernel_rfl) (by kernel_rfl)) (fI (hp1:=ar hp k0 (bA c0)) (bQ d) (fW ..))) (gj (bx1:=[(2,[(.p k0 0)]),(5,[(I r1.2.2)])]) (by kernel_rfl) (by kernel_rfl))) (rb (dp+1) (boxes dp [(2,[(.p k0 0)]),(5,[(I 0)])] (ar hp k0 (bA c0))) ⟨dp,2⟩ (mR dp) k0 (cT d) ⟨dp,5⟩ (mR dp) (CS d) (aeP (by decide)) (bD d) (dJ (aU d (hz))) a0 1 () c0 0 _ P);ai P<|ai (sh P (by kernel_rfl) (by kernel_rfl))<|ai (si P (aU d (hz)))<|ai (rN dp)<|L h
end
section
variable (c0:Checker)(a0:Func)(K:Nat)(dp:Nat)(hp:HP)(k0:Key)
def mc:Option (Nat⊕(Unit⊕(Unit⊕(Nat×Bool)))):=
 if (K:Int)<(a0.Params.length:Int) then
  (a0.Params[K]?).bind fun y3=>
  if y3<0 then
   some (.inr (.inl ()))
  else
   if (c0.p.Vars.length:Int)≤y3 then
    some (.inr (.inl ()))
   else
    if K≤a0.Params.length then
     (lG ((a0.Params.take K).drop 0) y3).bind fun r8=>
     if r8=true then
      some (.inr (.inr (.inl ())))
     else
      if IntKind.i64.wrap ((K:Int)+1)=((K+1:Nat):Int) then
       some (.inl (K+1))
      else none
    else none
 else
  some (.inr (.inr (.inr (K,decide ((K:Int)<(a0.Params.length:Int))))))
abbrev El(c0:Checker)(a0:Func)(v:Nat):St:=⟨[(0,(.p k0 0)),(3,(.p ⟨dp,3⟩ 0)),(13,(dx a0.Params)),(14,(zI a0.Params.length)),(15,(I (v:Int)))],[(3,(eu a0))],ar hp k0 (bA c0)⟩
abbrev me(c0:Checker)(a0:Func)(x:(Unit⊕(Unit⊕(Nat×Bool)))):aN×St:=match x with | .inl ()=>(.ret,⟨[(4,(I 5))],[],ar hp k0 (bA c0)⟩) | .inr (.inl ())=>(.ret,⟨[(4,(I 6))],[],ar hp k0 (bA c0)⟩) | .inr (.inr (z1,z2))=>((.ex 0),⟨[(0,(.p k0 0)),(3,(.p ⟨dp,3⟩ 0)),(13,(dx a0.Params)),(14,(zI a0.Params.length)),(15,(I (z1:Int))),(16,(.b z2))],[(3,(eu a0))],ar hp k0 (bA c0)⟩)
theorem Dj(d:k0.dp<dp)(hz:aO dp hp)(c0:Checker)(a0:Func)(K:Nat)(o:Nat⊕(Unit⊕(Unit⊕(Nat×Bool))))(h:mc c0 a0 K=some o):bO ⟨dp,false⟩ Yx (El dp hp k0 c0 a0) (me dp hp k0 c0 a0) K o:=
 bZ (.or (bt<|ao (.n K)<|xI fun y3=>.or (bf<|bf<|bf<|bf<|bf<|bf<|bf<|bf<|bt<|bt<|.nil) (UB<|ao (.l (bA c0))<|bt<|ao (.i (c0.p.Vars.length:Int))<|yG<|oN (bt<|ao (.n K)<|ao (.l (((a0.Params.take K).drop 0).map (I)))<|xB fun r8=>oN (ao (.i ((K+1:Nat):Int))<|.nil)))) (bf<|.nil)) fun L=>cp h (fun h2 h=>ai (aA h2)<|ai (rI K)<|cn h fun y3 h4 h=>ai (aM (I) h4)<|cp h (fun h5 h=>cq (aA h5)<|cq (aA h5)<|cq (aA h5)<|cq (aA h5)<|ai (aA h5)<|ai tt<|L h) (fun h5 h=>cq (ay h5)<|cq (ay h5)<|cq (ay h5)<|ai (bQ d)<|ai (iK hp k0 (bA c0))<|ai (g0 (ay h5))<|ai (aJ eo c0.p.Vars)<|oL (ay h5)<|cp h (fun h6 h=>ai (aA h6)<|L h) (fun h6 h=>ai (ay h6)<|ai (rN dp)<|ai (rI K)<|ai ((by decide):3≠0)<|ai ((mY (I) (n:=1) (fun _=>rfl) a0.Params):(a0.Params.map (I)).all (fun e=>e.nc==1)=true)<|ai (dc _:0≤K)<|aW h fun h7 h=>ai ((by rw [eY];exact h7):K≤(a0.Params.map (I)).length)<|ai (Nb (I) a0.Params 0 K)<|bJ h (AX ((a0.Params.take K).drop 0) y3) fun r8 h=>cG h (fun ab h=>ai ab<|L h) (fun ab h=>ai ab<|aW h fun a7 h=>ai a7<|L h)))) (fun h2 h=>ai (ay h2)<|L h)
abbrev F9(dp:Nat)(hp:HP)(k0:Key)(c0:Checker)(a0:Func)(r:Int):bH×HP:=(.ret (I r),ar hp k0 (bA c0))
def od:Option Int:=
 if 4<(a0.Params.length:Int) then
  some 2
 else
  (lp (fun v=>mc c0 a0 v) 0).bind fun x2=>match x2 with
  | .inl aZ=>
   some 5
  | .inr (.inl aX)=>
   some 6
  | .inr (.inr aL)=>
   (jt c0 a0.Body).bind fun r5=>
   if (r5 !=0)=true then
    some r5
   else
    (m7 a0.Result (c0.p.Vars.length:Int)).bind fun r8=>
    some r8
theorem Dk(d:k0.dp<dp)(hz:aO dp hp)(c0:Checker)(a0:Func)(r:Int)(h:od c0 a0=some r):call G Ω0 ⟨dp,false⟩ 94 [(.p k0 0),(.a (eu a0))] (ar hp k0 (bA c0))=some (F9 dp hp k0 c0 a0 r):=
 bu G94 (bt<|ao (.i (a0.Params.length:Int))<|oN (bt<|ao (.i (a0.Params.length:Int))<|.or (.ex fun (aZ:Unit)=>ao (.cD (me dp hp k0 c0 a0 (.inl aZ)))<|.nil) (.or (.ex fun (aX:Unit)=>ao (.cD (me dp hp k0 c0 a0 (.inr (.inl aX))))<|.nil) (.ex fun (aL:(Nat×Bool))=>ao (.cD (me dp hp k0 c0 a0 (.inr (.inr aL))))<|bt<|xI fun r5=>ao (.h (boxes dp [(3,(eu a0))] (ar hp k0 (bA c0))))<|ao (.bx [(3,(eu a0))])<|ao (.h (ar hp k0 (bA c0)))<|oN (yG<|ao (.l (bA c0))<|ao (.i (c0.p.Vars.length:Int))<|xI fun r8=>.nil))))) fun L=>ai ((by simp [eu,AV.cb,AV.dm,AV.deep,AV.dt,bD d,ec d]):(((.a (eu a0)):AV).deep dp&&(([(0,(.p k0 0)),(1,(.a (eu a0)))]:List (Nat×AV)).all (fun y=>y.2.cb ⟨dp,3⟩)&&([]:List (Nat×List AV)).all (fun y=>AV.dm ⟨dp,3⟩ y.2)))=true)<|ai (rN dp)<|ai (aJ (I) a0.Params)<|cp h (fun h1 h=>ai (aA h1)<|L h) (fun h1 h=>ai (ay h1)<|ai (rN dp)<|ai (aJ (I) a0.Params)<|SV h (fC (Dj dp hp k0 d hz c0 a0) 0) (fun aZ h=>L h) (fun aX h=>L h) (fun aL h=>ai (rN dp)<|p7<|cn h fun r5 a8 h=>have a8:=cO d (su (dp+1) (boxes dp [(3,(eu a0))] (ar hp k0 (bA c0))) k0 (cT d) (dJ (aU d (hz))) c0 a0.Body _ a8);ai a8<|ai (sh a8 (by kernel_rfl) (by kernel_rfl))<|ai (si a8 (aU d (hz)))<|cG h (fun h7 h=>ai h7<|L h) (fun h7 h=>ai h7<|cg<|ai (rN dp)<|cg<|cg<|ai tt<|ai (bQ d)<|ai (iK hp k0 (bA c0))<|ai tt<|ai (aJ eo c0.p.Vars)<|ai tt<|bJ h (wc a0.Result (c0.p.Vars.length:Int)) fun r8 h=>L h)))
end
section
variable (a0:Program)(J:Nat)(af:Nat)
def oe:Option ((Nat×Nat)⊕(Int⊕(Nat×Bool×Nat))):=
 if (J:Int)<(a0.Funcs.length:Int) then
  (a0.Funcs[J]?).bind fun y8=>
  (od (⟨a0,(J:Int)⟩:Checker) y8).bind fun Z=>
  if (Z !=0)=true then
   some (.inr (.inl Z))
  else
   if IntKind.i64.wrap ((J:Int)+1)=((J+1:Nat):Int) then
    some (.inl (J+1,J))
   else none
 else
  some (.inr (.inr (J,decide ((J:Int)<(a0.Funcs.length:Int)),af)))
abbrev JX(v:(Nat×Nat)):St:=⟨[zP 1,(4,(zQ 18)),(20,(cV a0.Funcs)),(21,(zI a0.Funcs.length)),(22,(I (v.1:Int)))],[(1,(av a0)),(18,[(I a0.ak.Many),(aQ a0.ak.Grants),(dx a0.Speak),(aS a0.Ins),(aS a0.Outs),(ey a0.Vars),(cV a0.Funcs),(cM a0.Main),(I (v.2:Int))])],H0⟩
abbrev wv(x:(Int⊕(Nat×Bool×Nat))):aN×St:=match x with | .inl z1=>(.ret,⟨[(2,(I z1))],[],H0⟩) | .inr (z1,z2,z3)=>((.ex 0),⟨[zP 1,(4,(zQ 18)),(20,(cV a0.Funcs)),(21,(zI a0.Funcs.length)),(22,(I (z1:Int))),(23,(.b z2))],[(1,(av a0)),(18,[(I a0.ak.Many),(aQ a0.ak.Grants),(dx a0.Speak),(aS a0.Ins),(aS a0.Outs),(ey a0.Vars),(cV a0.Funcs),(cM a0.Main),(I (z3:Int))])],H0⟩)
theorem IF(o:(Nat×Nat)⊕(Int⊕(Nat×Bool×Nat)))(h:oe a0 J af=some o):bO E0 XT (JX a0) (wv a0) (J,af) o:=
 bZ (.or (bt<|ao (.n J)<|.ex fun (y8:Func)=>ao (.v (.a (eu y8)))<|wP<|xI fun Z=>ao (.h (boxes 0 [(1,(av a0)),(6,(eu y8)),(18,[(I a0.ak.Many),(aQ a0.ak.Grants),(dx a0.Speak),(aS a0.Ins),(aS a0.Outs),(ey a0.Vars),(cV a0.Funcs),(cM a0.Main),(zI J)])] H0))<|ao (.bx [(1,(av a0)),(6,(eu y8)),(18,[(I a0.ak.Many),(aQ a0.ak.Grants),(dx a0.Speak),(aS a0.Ins),(aS a0.Outs),(ey a0.Vars),(cV a0.Funcs),(cM a0.Main),(zI J)])])<|ao (.h (H0))<|oN (ao (.i ((J+1:Nat):Int))<|.nil)) (bf<|.nil)) fun L=>cp h (fun h7 h=>ai (aA h7)<|ai (rI J)<|cn h fun y8 h9 h=>ai (aM eO h9)<|ai tt<|ai ff<|gT<|ai (rfl:Z0)<|ai ff<|gT<|lZ<|p7<|cn h fun Z ae h=>have ae:call G Ω0 ⟨0+1,false⟩ 94 [(zQ 18),(.a (eu y8))] (boxes 0 [(1,(av a0)),(6,(eu y8)),(18,[(I a0.ak.Many),(aQ a0.ak.Grants),(dx a0.Speak),(aS a0.Ins),(aS a0.Outs),(ey a0.Vars),(cV a0.Funcs),(cM a0.Main),(zI J)])] H0)=some (.ret (I Z),boxes 0 [(1,(av a0)),(6,(eu y8)),(18,[(I a0.ak.Many),(aQ a0.ak.Grants),(dx a0.Speak),(aS a0.Ins),(aS a0.Outs),(ey a0.Vars),(cV a0.Funcs),(cM a0.Main),(zI J)])] H0):=mJ (gj (bx1:=[(1,(av a0)),(6,(eu y8)),(18,[(I a0.ak.Many),(aQ a0.ak.Grants),(dx a0.Speak),(aS a0.Ins),(aS a0.Outs),(ey a0.Vars),(cV a0.Funcs),(cM a0.Main),(zI J)])]) (by kernel_rfl) (by kernel_rfl)) (gj (bx1:=[(1,(av a0)),(6,(eu y8)),(18,[(I a0.ak.Many),(aQ a0.ak.Grants),(dx a0.Speak),(aS a0.Ins),(aS a0.Outs),(ey a0.Vars),(cV a0.Funcs),(cM a0.Main),(zI J)])]) (by kernel_rfl) (by kernel_rfl)) (Dk (0+1) (boxes 0 [(1,(av a0)),(6,(eu y8)),(18,[(I a0.ak.Many),(aQ a0.ak.Grants),(dx a0.Speak),(aS a0.Ins),(aS a0.Outs),(ey a0.Vars),(cV a0.Funcs),(cM a0.Main),(zI J)])] H0) ⟨0,18⟩ (mR 0) (dJ (sf 0)) (⟨a0,(J:Int)⟩:Checker) y8 _ ae);ai ae<|ai (sh ae (by kernel_rfl) (by kernel_rfl))<|ai (si ae (sf 0))<|cG h (fun a4 h=>ai a4<|L h) (fun a4 h=>ai a4<|aW h fun bn h=>ai bn<|L h)) (fun h7 h=>ai (ay h7)<|L h)
abbrev Nk(a0:Program)(r:Int):bH×HP:=(.ret (I r),H0)
def uG:Option Int:=
 (wu a0).bind fun r1=>
 if (r1 !=0)=true then
  some r1
 else
  (yc a0).bind fun r4=>
  if r4=true then
   (lp (fun v=>oe a0 v.1 v.2) (0,0)).bind fun x7=>match x7 with
   | .inl aC=>
    some aC
   | .inr aT=>
    (jt (⟨a0,(a0.Funcs.length:Int)⟩:Checker) a0.Main).bind fun Z=>
    some Z
  else
   some 2
theorem IG(r:Int)(h:uG a0=some r):call G Ω0 E0 36 [(.a (av a0))] H0=some (Nk a0 r):=
 bu G36 (bt<|xI fun r1=>oN (bt<|xB fun r4=>.or (bf<|bt<|bt<|ao (.i (a0.Funcs.length:Int))<|.or (.ex fun (aC:Int)=>ao (.cD (wv a0 (.inl aC)))<|.nil) (.ex fun (aT:(Nat×Bool×Nat))=>ao (.cD (wv a0 (.inr aT)))<|bt<|ao (.i (a0.Funcs.length:Int))<|ja<|xI fun Z=>ao (.h (boxes 0 [(1,(av a0)),(18,[(I a0.ak.Many),(aQ a0.ak.Grants),(dx a0.Speak),(aS a0.Ins),(aS a0.Outs),(ey a0.Vars),(cV a0.Funcs),(cM a0.Main),(zI a0.Funcs.length)])] H0))<|ao (.bx [(1,(av a0)),(18,[(I a0.ak.Many),(aQ a0.ak.Grants),(dx a0.Speak),(aS a0.Ins),(aS a0.Outs),(ey a0.Vars),(cV a0.Funcs),(cM a0.Main),(zI a0.Funcs.length)])])<|ao (.h (H0))<|.nil)) (bt<|.nil))) fun L=>vX<|bJ h (JW a0) fun r1 h=>cG h (fun h3 h=>ai h3<|L h) (fun h3 h=>oY h3<|bJ h (Lz a0) fun r4 h=>cG h (fun h6 h=>ai (an not h6)<|gT<|ai (rfl:Z0)<|ai (aJ eO a0.Funcs)<|fc h (fC (fun v=>IF a0 v.1 v.2) (0,0)) (fun aC h=>L h) (fun aT h=>ai (rfl:Z0)<|ai (aJ eO a0.Funcs)<|ai ff<|gT<|lZ<|p7<|cn h fun Z ae h=>have ae:call G Ω0 ⟨0+1,false⟩ 95 [(zQ 18),(cM a0.Main)] (boxes 0 [(1,(av a0)),(18,[(I a0.ak.Many),(aQ a0.ak.Grants),(dx a0.Speak),(aS a0.Ins),(aS a0.Outs),(ey a0.Vars),(cV a0.Funcs),(cM a0.Main),(zI a0.Funcs.length)])] H0)=some (.ret (I Z),boxes 0 [(1,(av a0)),(18,[(I a0.ak.Many),(aQ a0.ak.Grants),(dx a0.Speak),(aS a0.Ins),(aS a0.Outs),(ey a0.Vars),(cV a0.Funcs),(cM a0.Main),(zI a0.Funcs.length)])] H0):=mJ (gj (bx1:=[(1,(av a0)),(18,[(I a0.ak.Many),(aQ a0.ak.Grants),(dx a0.Speak),(aS a0.Ins),(aS a0.Outs),(ey a0.Vars),(cV a0.Funcs),(cM a0.Main),(zI a0.Funcs.length)])]) (by kernel_rfl) (by kernel_rfl)) (gj (bx1:=[(1,(av a0)),(18,[(I a0.ak.Many),(aQ a0.ak.Grants),(dx a0.Speak),(aS a0.Ins),(aS a0.Outs),(ey a0.Vars),(cV a0.Funcs),(cM a0.Main),(zI a0.Funcs.length)])]) (by kernel_rfl) (by kernel_rfl)) (su (0+1) (boxes 0 [(1,(av a0)),(18,[(I a0.ak.Many),(aQ a0.ak.Grants),(dx a0.Speak),(aS a0.Ins),(aS a0.Outs),(ey a0.Vars),(cV a0.Funcs),(cM a0.Main),(zI a0.Funcs.length)])] H0) ⟨0,18⟩ (mR 0) (dJ (sf 0)) (⟨a0,(a0.Funcs.length:Int)⟩:Checker) a0.Main _ ae);ai ae<|ai (sh ae (by kernel_rfl) (by kernel_rfl))<|ai (si ae (sf 0))<|L h)) (fun h6 h=>ai (an not h6)<|L h))
end
section
variable (a0:(List Bool))(a1:(List Bool))(q:(List Bool))(m:Nat)
def nL:Option (((List Bool)×Nat)⊕((List Bool)×Nat×Bool)):=
 if (m:Int)<(a0.length:Int) then
  (a0[m]?).bind fun y2=>
  if y2=true then
   (a1[m]?).bind fun y5=>
   if q.length + [y5].length≤1000000000 then
    if IntKind.i64.wrap ((m:Int)+1)=((m+1:Nat):Int) then
     some (.inl (q++[y5],m+1))
    else none
   else none
  else
   if q.length + [false].length≤1000000000 then
    if IntKind.i64.wrap ((m:Int)+1)=((m+1:Nat):Int) then
     some (.inl (q++[false],m+1))
    else none
   else none
 else
  some (.inr (q,m,decide ((m:Int)<(a0.length:Int))))
abbrev Nl(v:((List Bool)×Nat)):St:=⟨[(1,(dQ a1)),(5,(iW v.1)),(8,(dQ a0)),(9,(zI a0.length)),(10,(I (v.2:Int)))],[],H0⟩
abbrev EP(x:((List Bool)×Nat×Bool)):aN×St:=((.ex 0),⟨[(1,(dQ a1)),(5,(iW x.1)),(8,(dQ a0)),(9,(zI a0.length)),(10,(I (x.2.1:Int))),(11,(.b x.2.2))],[],H0⟩)
theorem LA(o:((List Bool)×Nat)⊕((List Bool)×Nat×Bool))(h:nL a0 a1 q m=some o):bO E0 Uc (Nl a0 a1) (EP a0 a1) (q,m) o:=
 bZ (.or (bt<|ao (.n m)<|xB fun y2=>.or (ja<|ao (.n m)<|xB fun y5=>fN<|ao (.l ([y5].map AV.b))<|ao (.l ((q++[y5]).map AV.b))<|ao (.i ((m+1:Nat):Int))<|.nil) (Wp<|ao (.l ([false].map AV.b))<|ao (.l ((q++[false]).map AV.b))<|ao (.i ((m+1:Nat):Int))<|.nil)) (bf<|.nil)) fun L=>cp h (fun h1 h=>ai (aA h1)<|ai (rI m)<|cn h fun y2 h3 h=>ai (aM AV.b h3)<|cG h (fun h4 h=>Rr h4<|ai (rI m)<|cn h fun y5 h6 h=>ai (aM AV.b h6)<|nB h4<|ai (rfl:[(.b y5)]=[y5].map AV.b)<|ai ff<|aW h fun h7 h=>ai ((mY AV.b (n:=1) (fun _=>rfl) [y5]):([y5].map AV.b).all (fun e=>e.nc==1)=true)<|ai ((rr h7 (by decide)):((q.map AV.b).length+([y5].map AV.b).length)*1≤140737488355328)<|ai ((rv h7):(q.map AV.b).length+([y5].map AV.b).length≤maxLen)<|ai (ei.symm:q.map AV.b++[y5].map AV.b=(q++[y5]).map AV.b)<|aW h fun w8 h=>ai w8<|L h) (fun h4 h=>cu h4<|cu h4<|ai h4<|ai (rfl:[(.b false)]=[false].map AV.b)<|ai ff<|aW h fun h5 h=>ai ((mY AV.b (n:=1) (fun _=>rfl) [false]):([false].map AV.b).all (fun e=>e.nc==1)=true)<|ai ((rr h5 (by decide)):((q.map AV.b).length+([false].map AV.b).length)*1≤140737488355328)<|ai ((rv h5):(q.map AV.b).length+([false].map AV.b).length≤maxLen)<|ai (ei.symm:q.map AV.b++[false].map AV.b=(q++[false]).map AV.b)<|aW h fun w6 h=>ai w6<|L h)) (fun h1 h=>ai (ay h1)<|L h)
abbrev QI(a0:(List Bool))(a1:(List Bool))(r:(List Bool)):bH×HP:=(.ret (.l 4 (r.map AV.b)),H0)
def yd:Option (List Bool):=
 (lp (fun v=>nL a0 a1 v.1 v.2) (([]:List Bool),0)).bind fun x1=>
 some x1.1
theorem LB(r:(List Bool))(h:yd a0 a1=some r):call G Ω0 E0 127 [(.l 4 (a0.map AV.b)),(.l 4 (a1.map AV.b))] H0=some (QI a0 a1 r):=
 bu al4 (ao (.i (a0.length:Int))<|.ex fun (x1:((List Bool)×Nat×Bool))=>ao (.cD (EP a0 a1 x1))<|.nil) fun L=>ai (aJ AV.b a0)<|bJ h (fC (fun v=>LA a0 a1 v.1 v.2) (([]:List Bool),0)) fun x1 h=>L h
def ph:Option (((List Bool)×Nat)⊕((List Bool)×Nat×Bool)):=
 if (m:Int)<(a0.length:Int) then
  (a0[m]?).bind fun y2=>
  if y2=true then
   if q.length + [true].length≤1000000000 then
    if IntKind.i64.wrap ((m:Int)+1)=((m+1:Nat):Int) then
     some (.inl (q++[true],m+1))
    else none
   else none
  else
   (a1[m]?).bind fun y5=>
   if q.length + [y5].length≤1000000000 then
    if IntKind.i64.wrap ((m:Int)+1)=((m+1:Nat):Int) then
     some (.inl (q++[y5],m+1))
    else none
   else none
 else
  some (.inr (q,m,decide ((m:Int)<(a0.length:Int))))
abbrev O5(v:((List Bool)×Nat)):St:=⟨[(1,(dQ a1)),(5,(iW v.1)),(8,(dQ a0)),(9,(zI a0.length)),(10,(I (v.2:Int)))],[],H0⟩
abbrev Ga(x:((List Bool)×Nat×Bool)):aN×St:=((.ex 0),⟨[(1,(dQ a1)),(5,(iW x.1)),(8,(dQ a0)),(9,(zI a0.length)),(10,(I (x.2.1:Int))),(11,(.b x.2.2))],[],H0⟩)
theorem Nn(o:((List Bool)×Nat)⊕((List Bool)×Nat×Bool))(h:ph a0 a1 q m=some o):bO E0 Ub (O5 a0 a1) (Ga a0 a1) (q,m) o:=
 bZ (.or (bt<|ao (.n m)<|xB fun y2=>.or (YE<|ao (.l ([true].map AV.b))<|ao (.l ((q++[true]).map AV.b))<|ao (.i ((m+1:Nat):Int))<|.nil) (ja<|ao (.n m)<|xB fun y5=>yG<|ao (.l ([y5].map AV.b))<|ao (.l ((q++[y5]).map AV.b))<|ao (.i ((m+1:Nat):Int))<|.nil)) (bf<|.nil)) fun L=>cp h (fun h1 h=>ai (aA h1)<|ai (rI m)<|cn h fun y2 h3 h=>ai (aM AV.b h3)<|cG h (fun h4 h=>YD h4<|ai (rfl:[(.b true)]=[true].map AV.b)<|ai ff<|aW h fun h5 h=>ai ((mY AV.b (n:=1) (fun _=>rfl) [true]):([true].map AV.b).all (fun e=>e.nc==1)=true)<|ai ((rr h5 (by decide)):((q.map AV.b).length+([true].map AV.b).length)*1≤140737488355328)<|ai ((rv h5):(q.map AV.b).length+([true].map AV.b).length≤maxLen)<|ai (ei.symm:q.map AV.b++[true].map AV.b=(q++[true]).map AV.b)<|aW h fun w6 h=>ai w6<|L h) (fun h4 h=>cq h4<|ai (g0 h4)<|ai (rI m)<|cn h fun y5 h6 h=>ai (aM AV.b h6)<|oL h4<|ai (rfl:[(.b y5)]=[y5].map AV.b)<|ai ff<|aW h fun h7 h=>ai ((mY AV.b (n:=1) (fun _=>rfl) [y5]):([y5].map AV.b).all (fun e=>e.nc==1)=true)<|ai ((rr h7 (by decide)):((q.map AV.b).length+([y5].map AV.b).length)*1≤140737488355328)<|ai ((rv h7):(q.map AV.b).length+([y5].map AV.b).length≤maxLen)<|ai (ei.symm:q.map AV.b++[y5].map AV.b=(q++[y5]).map AV.b)<|aW h fun w8 h=>ai w8<|L h)) (fun h1 h=>ai (ay h1)<|L h)
abbrev S9(a0:(List Bool))(a1:(List Bool))(r:(List Bool)):bH×HP:=(.ret (.l 4 (r.map AV.b)),H0)
def Aa:Option (List Bool):=
 (lp (fun v=>ph a0 a1 v.1 v.2) (([]:List Bool),0)).bind fun x1=>
 some x1.1
theorem No(r:(List Bool))(h:Aa a0 a1=some r):call G Ω0 E0 126 [(.l 4 (a0.map AV.b)),(.l 4 (a1.map AV.b))] H0=some (S9 a0 a1 r):=
 bu al3 (ao (.i (a0.length:Int))<|.ex fun (x1:((List Bool)×Nat×Bool))=>ao (.cD (Ga a0 a1 x1))<|.nil) fun L=>ai (aJ AV.b a0)<|bJ h (fC (fun v=>Nn a0 a1 v.1 v.2) (([]:List Bool),0)) fun x1 h=>L h
end
section
variable (a0:Level)(a1:Level)
abbrev O6(a0:Level)(a1:Level)(r:Level):bH×HP:=(.ret (.a [(.l 4 (r.Readers.map AV.b)),(.l 4 (r.Writers.map AV.b))]),H0)
def er:Option Level:=
 (yd a0.Readers a1.Readers).bind fun r1=>
 (Aa a0.Writers a1.Writers).bind fun r3=>
 some (⟨r1,r3⟩:Level)
theorem jX(r:Level)(h:er a0 a1=some r):call G Ω0 E0 98 [(.a [(.l 4 (a0.Readers.map AV.b)),(.l 4 (a0.Writers.map AV.b))]),(.a [(.l 4 (a1.Readers.map AV.b)),(.l 4 (a1.Writers.map AV.b))])] H0=some (O6 a0 a1 r):=
 bu G98 (fN<|.ex fun (r1:(List Bool))=>ao (.v (dQ r1))<|fN<|.ex fun (r3:(List Bool))=>ao (.v (dQ r3))<|fN<|.nil) fun L=>cg<|cg<|ai tt<|ai (rfl:Z0)<|cg<|gT<|bJ h (LB a0.Readers a1.Readers) fun r1 h=>cg<|ai (rfl:Z0)<|cg<|gT<|bJ h (No a0.Writers a1.Writers) fun r3 h=>ai ff<|gT<|lZ<|L h
end
section
variable (a0:ak)
abbrev LC(a0:ak)(r:Level):bH×HP:=(.ret (.a [(.l 4 (r.Readers.map AV.b)),(.l 4 (r.Writers.map AV.b))]),H0)
def ju:Option Level:=
 (SU true a0.Many).bind fun r1=>
 (dV a0.Many).bind fun j3=>
 if j3≤1000000000 then
  some (⟨r1,List.replicate j3 false⟩:Level)
 else none
theorem oQ(r:Level)(h:ju a0=some r):call G Ω0 E0 96 [(.a [(I a0.Many),(.l 166 (a0.Grants.map ct))])] H0=some (LC a0 r):=
 bu G96 (ao (.l ([true].map AV.b))<|bt<|.ex fun (r1:(List Bool))=>ao (.v (dQ r1))<|bt<|xN fun j3=>ao (.l ((List.replicate j3 false).map AV.b))<|fN<|.nil) fun L=>zb<|ai (rfl:[(.b true)]=[true].map AV.b)<|cg<|gT<|cn h fun r1 P h=>have P:Ω0 141 [(dQ [true]),(I a0.Many)]=some (dQ r1):=Zb P;ai P<|cg<|gT<|mZ h fun j3 h4 h=>ai h4<|aW h fun h5 h=>ai ((NV h5 (by decide)):j3*1≤140737488355328)<|ai ((NW h5):j3≤maxLen)<|ai ((BC ..).symm:List.replicate j3 (.b false)=(List.replicate j3 false).map AV.b)<|Mu<|L h
end
section
variable (a0:(List Bool))(a1:(List Bool))(S:Nat)
def nM:Option (Nat⊕(Unit⊕(Nat×Bool))):=
 if (S:Int)<(a0.length:Int) then
  (a0[S]?).bind fun y2=>
  if y2=true then
   (a1[S]?).bind fun y5=>
   if y5=true then
    if IntKind.i64.wrap ((S:Int)+1)=((S+1:Nat):Int) then
     some (.inl (S+1))
    else none
   else
    some (.inr (.inl ()))
  else
   if IntKind.i64.wrap ((S:Int)+1)=((S+1:Nat):Int) then
    some (.inl (S+1))
   else none
 else
  some (.inr (.inr (S,decide ((S:Int)<(a0.length:Int)))))
abbrev Np(v:Nat):St:=⟨[(1,(dQ a1)),(7,(dQ a0)),(8,(zI a0.length)),(9,(I (v:Int)))],[],H0⟩
abbrev zn(x:(Unit⊕(Nat×Bool))):aN×St:=match x with | .inl ()=>(.ret,⟨[(4,(.b false))],[],H0⟩) | .inr (z1,z2)=>((.ex 0),⟨[(1,(dQ a1)),(7,(dQ a0)),(8,(zI a0.length)),(9,(I (z1:Int))),(10,(.b z2))],[],H0⟩)
theorem LD(o:Nat⊕(Unit⊕(Nat×Bool)))(h:nM a0 a1 S=some o):bO E0 TT (Np a0 a1) (zn a0 a1) S o:=
 bZ (.or (bt<|ao (.n S)<|xB fun y2=>.or (ja<|ao (.n S)<|xB fun y5=>ja<|.or (bf<|ao (.i ((S+1:Nat):Int))<|.nil) (bt<|.nil)) (Wn<|ao (.i ((S+1:Nat):Int))<|.nil)) (bf<|.nil)) fun L=>cp h (fun h1 h=>ai (aA h1)<|ai (rI S)<|cn h fun y2 h3 h=>ai (aM AV.b h3)<|cG h (fun h4 h=>Rr h4<|ai (rI S)<|cn h fun y5 h6 h=>ai (aM AV.b h6)<|vY h4<|cG h (fun h7 h=>ai (an not h7)<|aW h fun w8 h=>ai w8<|L h) (fun h7 h=>ai (an not h7)<|L h)) (fun h4 h=>cu h4<|cu h4<|nB h4<|ai ff<|aW h fun w5 h=>ai w5<|L h)) (fun h1 h=>ai (ay h1)<|L h)
abbrev QJ(a0:(List Bool))(a1:(List Bool))(r:Bool):bH×HP:=(.ret (.b r),H0)
def oE:Option Bool:=
 (lp (fun v=>nM a0 a1 v) 0).bind fun x1=>match x1 with
 | .inl F=>
  some false
 | .inr E=>
  some true
theorem tz(r:Bool)(h:oE a0 a1=some r):call G Ω0 E0 109 [(.l 4 (a0.map AV.b)),(.l 4 (a1.map AV.b))] H0=some (QJ a0 a1 r):=
 bu alQ (ao (.i (a0.length:Int))<|.or (.ex fun (F:Unit)=>ao (.cD (zn a0 a1 (.inl F)))<|.nil) (.ex fun (E:(Nat×Bool))=>ao (.cD (zn a0 a1 (.inr E)))<|.nil)) fun L=>ai (aJ AV.b a0)<|fc h (fC (LD a0 a1) 0) (fun F h=>L h) (fun E h=>L h)
end
section
variable (a0:Level)(a1:Level)
abbrev Nq(a0:Level)(a1:Level)(r:Bool):bH×HP:=(.ret (.b r),H0)
def fQ:Option Bool:=
 (oE a1.Readers a0.Readers).bind fun r1=>
 if r1=true then
  (oE a0.Writers a1.Writers).bind fun r4=>
  some r4
 else
  some false
theorem nh(r:Bool)(h:fQ a0 a1=some r):call G Ω0 E0 43 [(.a [(.l 4 (a0.Readers.map AV.b)),(.l 4 (a0.Writers.map AV.b))]),(.a [(.l 4 (a1.Readers.map AV.b)),(.l 4 (a1.Writers.map AV.b))])] H0=some (Nq a0 a1 r):=
 bu G43 (fN<|xB fun r1=>.or (Wr<|xB fun r4=>bt<|.nil) (Ws<|.nil)) fun L=>cg<|lZ<|bJ h (tz a1.Readers a0.Readers) fun r1 h=>cG h (fun h3 h=>cu h3<|ai (rfl:Z0)<|cu h3<|ai (rfl:Z0)<|ai (g1 h3)<|bJ h (tz a0.Writers a1.Writers) fun r4 h=>ai h3<|L h) (fun h3 h=>cu h3<|cu h3<|nB h3<|L h)
end
section
variable (a0:ak)(y9:Int)(ac:(List Int))(O:Nat)(M:(List (List Bool)))(D:Nat)(X:(List Bool))(H:(List Int))
def mK:Option (((List Int)×Nat)⊕((List Int)×Nat×Bool)):=
 if (O:Int)<(a0.Grants.length:Int) then
  (a0.Grants[O]?).bind fun ag=>
  if (ag.Who==y9)=true then
   if ac.length + [ag.For].length≤1000000000 then
    if IntKind.i64.wrap ((O:Int)+1)=((O+1:Nat):Int) then
     some (.inl (ac++[ag.For],O+1))
    else none
   else none
  else
   if IntKind.i64.wrap ((O:Int)+1)=((O+1:Nat):Int) then
    some (.inl (ac,O+1))
   else none
 else
  some (.inr (ac,O,decide ((O:Int)<(a0.Grants.length:Int))))
abbrev LF(y9:Int)(j12:Nat)(v:((List Int)×Nat)):St:=⟨[zP 1,(3,(.o 43 (M.map (eW 4 AV.b)))),(5,(iW (X.set j12 true))),(6,(.o 3 (v.1.map (I)))),(7,(I y9)),(11,(I a0.Many)),(12,(zI D)),(29,.u),(42,(aQ a0.Grants)),(43,(zI a0.Grants.length)),(44,(I (v.2:Int)))],[(1,[(I a0.Many),(aQ a0.Grants)])],H0⟩
abbrev Dl(y9:Int)(j12:Nat)(x:((List Int)×Nat×Bool)):aN×St:=((.ex 4),⟨[zP 1,(3,(.o 43 (M.map (eW 4 AV.b)))),(5,(iW (X.set j12 true))),(6,(.o 3 (x.1.map (I)))),(7,(I y9)),(11,(I a0.Many)),(12,(zI D)),(29,.u),(42,(aQ a0.Grants)),(43,(zI a0.Grants.length)),(44,(I (x.2.1:Int))),(45,(.b x.2.2))],[(1,[(I a0.Many),(aQ a0.Grants)])],H0⟩)
theorem JY(y9:Int)(j12:Nat)(ac:(List Int))(O:Nat)(o:((List Int)×Nat)⊕((List Int)×Nat×Bool))(h:mK a0 y9 ac O=some o):bO E0 TP (LF a0 M D X y9 j12) (Dl a0 M D X y9 j12) (ac,O) o:=
 bZ (.or (bt<|ao (.n O)<|.ex fun (ag:dv)=>ao (.v (.a [(I ag.Who),(I ag.For)]))<|ja<|.or (fN<|ao (.l ([ag.For].map (I)))<|ao (.l ((ac++[ag.For]).map (I)))<|ao (.i ((O+1:Nat):Int))<|.nil) (bf<|ao (.i ((O+1:Nat):Int))<|.nil)) (bf<|.nil)) fun L=>cp h (fun aG h=>ai (aA aG)<|ai (rI O)<|cn h fun ag bp h=>ai (aM ct bp)<|Mu<|cG h (fun au h=>oY au<|ai (rfl:[(I ag.For)]=[ag.For].map (I))<|ai ff<|aW h fun bd h=>ai ((mY (I) (n:=1) (fun _=>rfl) [ag.For]):([ag.For].map (I)).all (fun e=>e.nc==1)=true)<|ai ((rr bd (by decide)):((ac.map (I)).length+([ag.For].map (I)).length)*8≤140737488355328)<|ai ((rv bd):(ac.map (I)).length+([ag.For].map (I)).length≤maxLen)<|ai (ei.symm:ac.map (I)++[ag.For].map (I)=(ac++[ag.For]).map (I))<|aW h fun bi h=>ai bi<|L h) (fun au h=>ai au<|aW h fun bb h=>ai bb<|L h)) (fun aG h=>ai (ay aG)<|L h)
def kW(X:(List Bool)):Option (((List Int)×(List Bool))⊕((List Bool)×(List Int)×Bool)):=
 if 0<(H.length:Int) then
  if IntKind.i64.wrap ((H.length:Int) - 1)=(H.length:Int) - 1 then
   (dV ((H.length:Int) - 1)).bind fun j7=>
   (H[j7]?).bind fun y9=>
   if j7≤H.length then
    (dV y9).bind fun j12=>
    (X[j12]?).bind fun az=>
    if az=true then
     some (.inl (H.take j7,X))
    else
     (lp (fun v=>mK a0 y9 v.1 v.2) ((H.take j7),0)).bind fun a9=>
     some (.inl (a9.1,X.set j12 true))
   else none
  else none
 else
  some (.inr (X,H,decide (0<(H.length:Int))))
abbrev LG(v:((List Int)×(List Bool))):St:=⟨[zP 1,(3,(.o 43 (M.map (eW 4 AV.b)))),(5,(iW v.2)),(6,(.o 3 (v.1.map (I)))),(11,(I a0.Many)),(12,(zI D)),(29,.u)],[(1,[(I a0.Many),(aQ a0.Grants)])],H0⟩
abbrev Dm(x:((List Bool)×(List Int)×Bool)):aN×St:=((.ex 2),⟨[zP 1,(3,(.o 43 (M.map (eW 4 AV.b)))),(5,(iW x.1)),(6,(.o 3 (x.2.1.map (I)))),(11,(I a0.Many)),(12,(zI D)),(22,(.b x.2.2)),(29,.u)],[(1,[(I a0.Many),(aQ a0.Grants)])],H0⟩)
theorem JZ(X:(List Bool))(o:((List Int)×(List Bool))⊕((List Bool)×(List Int)×Bool))(h:kW a0 H X=some o):bO E0 TQ (LG a0 M D) (Dm a0 M D) (H,X) o:=
 bZ (ao (.i (H.length:Int))<|.or (bt<|ao (.i (H.length:Int))<|ao (.i ((H.length:Int) - 1))<|xN fun j7=>xI fun y9=>ao (.v (I y9))<|ao (.i (H.length:Int))<|ao (.i ((H.length:Int) - 1))<|ao (.n j7)<|ao (.n j7)<|bt<|ao (.l ((H.take j7).map (I)))<|xN fun j12=>xB fun az=>ao (.v (.b az))<|oN (ao (.n j12)<|ao (.v (.b az))<|ao (.v (.b az))<|ao (.l ((X.set j12 true).map AV.b))<|bt<|ao (.i (a0.Grants.length:Int))<|.ex fun (a9:((List Int)×Nat×Bool))=>ao (.cD (Dl a0 M D X y9 j12 a9))<|.nil)) (bf<|.nil)) fun L=>ai (aJ (I) H)<|cp h (fun h5 h=>ai (aA h5)<|ai (aJ (I) H)<|aW h fun w6 h=>ai w6<|mZ h fun j7 h8 h=>ai h8<|cn h fun y9 ab h=>ai (aM (I) ab)<|ai (aM (I) ab)<|ai (aJ (I) H)<|ai w6<|ai h8<|ai (dc _:0≤j7)<|aW h fun be h=>ai ((by rw [eY];exact be):j7≤(H.map (I)).length)<|ai ((by simp):j7 - 0=j7)<|ai (rfl:((.s 6):Pl)=(.s 6))<|ai ((by rw [eY];exact be):j7≤(H.map (I)).length)<|ai (map_take (I) H j7)<|mZ h fun j12 am h=>ai am<|cn h fun az aB h=>ai (aM AV.b aB)<|ai (aM AV.b aB)<|cG h (fun a3 h=>ai a3<|L h) (fun a3 h=>ai a3<|ai am<|ai (aM AV.b aB)<|ai ff<|ai (aM AV.b aB)<|ai (map_set .. : (X.map AV.b).set j12 (.b true)=(X.set j12 true).map AV.b)<|ai (rfl:Z0)<|ai (aJ ct a0.Grants)<|bJ h (fC (fun v=>JY a0 M D X y9 j12 v.1 v.2) ((H.take j7),0)) fun a9 h=>L h)) (fun h5 h=>ai (ay h5)<|L h)
def pj:Option (((List (List Bool))×Nat)⊕((List (List Bool))×Nat×Bool)):=
 if (D:Int)<a0.Many then
  (dV a0.Many).bind fun j2=>
  if j2≤1000000000 then
   (lp (fun v=>kW a0 v.1 v.2) (([(D:Int)]),(List.replicate j2 false))).bind fun x5=>
   if M.length + [x5.1].length≤1000000000 then
    if IntKind.i64.wrap ((D:Int)+1)=((D+1:Nat):Int) then
     some (.inl (M++[x5.1],D+1))
    else none
   else none
  else none
 else
  some (.inr (M,D,decide ((D:Int)<a0.Many)))
abbrev LH(v:((List (List Bool))×Nat)):St:=⟨[zP 1,(3,(.o 43 (v.1.map (eW 4 AV.b)))),(11,(I a0.Many)),(12,(I (v.2:Int)))],[(1,[(I a0.Many),(aQ a0.Grants)])],H0⟩
abbrev Dn(x:((List (List Bool))×Nat×Bool)):aN×St:=((.ex 0),⟨[zP 1,(3,(.o 43 (x.1.map (eW 4 AV.b)))),(11,(I a0.Many)),(12,(I (x.2.1:Int))),(13,(.b x.2.2))],[(1,[(I a0.Many),(aQ a0.Grants)])],H0⟩)
theorem J0(o:((List (List Bool))×Nat)⊕((List (List Bool))×Nat×Bool))(h:pj a0 M D=some o):bO E0 TR (LH a0) (Dn a0) (M,D) o:=
 bZ (.or (fN<|xN fun j2=>ao (.l ((List.replicate j2 false).map AV.b))<|ao (.l (([(D:Int)]).map (I)))<|.ex fun (x5:((List Bool)×(List Int)×Bool))=>ao (.cD (Dm a0 M D x5))<|ao (.l ([x5.1].map (eW 4 AV.b)))<|ao (.l ((M++[x5.1]).map (eW 4 AV.b)))<|ao (.i ((D+1:Nat):Int))<|.nil) (bf<|.nil)) fun L=>cp h (fun h1 h=>oY (aA h1)<|mZ h fun j2 h3 h=>ai h3<|aW h fun h4 h=>ai ((NV h4 (by decide)):j2*1≤140737488355328)<|ai ((NW h4):j2≤maxLen)<|ai ((BC ..).symm:List.replicate j2 (.b false)=(List.replicate j2 false).map AV.b)<|ai (rfl:[(zI D)]=([(D:Int)]).map (I))<|bJ h (fC (fun v=>JZ a0 M D v.1 v.2) (([(D:Int)]),(List.replicate j2 false))) fun x5 h=>ai (rfl:[(dQ x5.1)]=[x5.1].map (eW 4 AV.b))<|ai ff<|aW h fun h7 h=>ai ((mY (eW 4 AV.b) (n:=1) (fun _=>rfl) [x5.1]):([x5.1].map (eW 4 AV.b)).all (fun e=>e.nc==1)=true)<|ai ((rr h7 (by decide)):((M.map (eW 4 AV.b)).length+([x5.1].map (eW 4 AV.b)).length)*24≤140737488355328)<|ai ((rv h7):(M.map (eW 4 AV.b)).length+([x5.1].map (eW 4 AV.b)).length≤maxLen)<|ai (ei.symm:M.map (eW 4 AV.b)++[x5.1].map (eW 4 AV.b)=(M++[x5.1]).map (eW 4 AV.b))<|aW h fun w8 h=>ai w8<|L h) (fun h1 h=>ai (ay h1)<|L h)
abbrev O7(a0:ak)(r:(List (List Bool))):bH×HP:=(.ret (.l 43 (r.map (eW 4 AV.b))),H0)
def sw:Option (List (List Bool)):=
 (lp (fun v=>pj a0 v.1 v.2) (([]:List (List Bool)),0)).bind fun x1=>
 some x1.1
theorem B6(r:(List (List Bool)))(h:sw a0=some r):call G Ω0 E0 102 [(.a [(I a0.Many),(.l 166 (a0.Grants.map ct))])] H0=some (O7 a0 r):=
 bu alL (bt<|.ex fun (x1:((List (List Bool))×Nat×Bool))=>ao (.cD (Dn a0 x1))<|.nil) fun L=>vX<|bJ h (fC (fun v=>J0 a0 v.1 v.2) (([]:List (List Bool)),0)) fun x1 h=>L h
end
section
variable (a0:Int)(a1:(List (List Bool)))(a2:Int)
abbrev IH(a0:Int)(a1:(List (List Bool)))(a2:Int)(r:Bool):bH×HP:=(.ret (.b r),H0)
def nj:Option Bool:=
 (dV a2).bind fun j1=>
 (a1[j1]?).bind fun y3=>
 (dV a0).bind fun j5=>
 (y3[j5]?).bind fun y7=>
 some y7
theorem EZ(r:Bool)(h:nj a0 a1 a2=some r):call G Ω0 E0 106 [(I a0),(.e (.l 43 (a1.map (eW 4 AV.b))) 0),(.e (I a2) 0)] H0=some (IH a0 a1 a2 r):=
 bu alO (xN fun j1=>.ex fun (y3:(List Bool))=>ao (.v (dQ y3))<|xN fun j5=>xB fun y7=>.nil) fun L=>mZ h fun j1 h2 h=>ai h2<|cn h fun y3 h4 h=>ai (aM (eW 4 AV.b) h4)<|mZ h fun j5 h6 h=>ai h6<|cn h fun y7 h8 h=>ai (aM AV.b h8)<|L h
end
section
variable (a0:(List Int))(a1:(List (List Bool)))(a2:Int)
abbrev rT(r:Bool):Prop:=call G Ω0 E0 105 [(.l 3 (a0.map (AV.i .i64))),(.f 106 [(.e (.l 43 (a1.map (eW 4 AV.b))) 0),(.e (.i .i64 a2) 0)])] H0=some (.ret (.b r),H0)
def gI:Option Bool:=O2 (fun y=>nj y a1 a2) a0
theorem qu(r:Bool)(h:gI a0 a1 a2=some r):rT a0 a1 a2 r:=Ar (n:=1) (ld:=none) (by decide) (fun _=>⟨rfl,rfl,rfl,rfl⟩) rfl (fun y b hb=>EZ y a1 a2 b hb) Oh Oi h
end
section
variable (a0:bz)(a1:(List (List Bool)))(a2:Int)
abbrev LI(a0:bz)(a1:(List (List Bool)))(a2:Int)(r:Bool):bH×HP:=(.ret (.b r),H0)
def pn:Option Bool:=
 (dV a2).bind fun j1=>
 (a1[j1]?).bind fun y3=>
 (dV a0.Owner).bind fun j5=>
 (y3[j5]?).bind fun y7=>
 if y7=true then
  some false
 else
  (gI a0.Names a1 a2).bind fun Z=>
  some (!Z)
theorem HC(r:Bool)(h:pn a0 a1 a2=some r):call G Ω0 E0 104 [(.a [(I a0.Owner),(.l 3 (a0.Names.map (I)))]),(.e (.l 43 (a1.map (eW 4 AV.b))) 0),(.e (I a2) 0)] H0=some (LI a0 a1 a2 r):=
 bu alN (xN fun j1=>.ex fun (y3:(List Bool))=>ao (.v (dQ y3))<|bt<|xN fun j5=>xB fun y7=>.or (Ws<|.nil) (wP<|xB fun Z=>fN<|.nil)) fun L=>Cw<|mZ h fun j1 h2 h=>ai h2<|cn h fun y3 h4 h=>ai (aM (eW 4 AV.b) h4)<|cg<|ai tt<|gT<|mZ h fun j5 h6 h=>ai h6<|cn h fun y7 h8 h=>ai (aM AV.b h8)<|Cw<|cG h (fun h9 h=>cu (an not h9)<|cu (an not h9)<|nB (an not h9)<|L h) (fun h9 h=>Cy (an not h9)<|gT<|Cy (an not h9)<|bJ h (qu a0.Names a1 a2) fun Z h=>nB (an not h9)<|L h)
end
section
variable (a0:(List bz))(a1:(List (List Bool)))(a2:Int)
abbrev tA(r:Bool):Prop:=call G Ω0 E0 107 [(.l 138 (a0.map bj)),(.f 104 [(.e (.l 43 (a1.map (eW 4 AV.b))) 0),(.e (.i .i64 a2) 0)])] H0=some (.ret (.b r),H0)
def iC:Option Bool:=O2 (fun y=>pn y a1 a2) a0
theorem rf(r:Bool)(h:iC a0 a1 a2=some r):tA a0 a1 a2 r:=Ar (n:=2) (ld:=(some 2)) (by decide) (fun _=>⟨rfl,rfl,_,rfl,rfl⟩) rfl (fun y b hb=>HC y a1 a2 b hb) aer aet h
end
section
variable (a0:(List bz))(a1:ak)(a2:(List (List Bool)))(q:(List Bool))(m:Nat)
def po:Option (((List Bool)×Nat)⊕((List Bool)×Nat×Bool)):=
 if (m:Int)<a1.Many then
  (iC a0 a2 (m:Int)).bind fun r2=>
  if q.length+([!r2]).length≤1000000000 then
   if IntKind.i64.wrap ((m:Int)+1)=((m+1:Nat):Int) then
    some (.inl (q++([!r2]),m+1))
   else none
  else none
 else
  some (.inr (q,m,decide ((m:Int)<a1.Many)))
abbrev LJ(v:((List Bool)×Nat)):St:=⟨[(0,(bm a0)),(2,(.e (.l 43 (a2.map (eW 4 AV.b))) 0)),(5,(iW v.1)),(9,(I a1.Many)),(10,(I (v.2:Int)))],[],H0⟩
abbrev Dp(x:((List Bool)×Nat×Bool)):aN×St:=((.ex 0),⟨[(0,(bm a0)),(2,(.e (.l 43 (a2.map (eW 4 AV.b))) 0)),(5,(iW x.1)),(9,(I a1.Many)),(10,(I (x.2.1:Int))),(11,(.b x.2.2))],[],H0⟩)
theorem J1(o:((List Bool)×Nat)⊕((List Bool)×Nat×Bool))(h:po a0 a1 a2 q m=some o):bO E0 TS (LJ a0 a1 a2) (Dp a0 a1 a2) (q,m) o:=
 bZ (.or (ja<|xB fun r2=>ao (.l (([!r2]).map AV.b))<|ao (.l ((q++([!r2])).map AV.b))<|ao (.i ((m+1:Nat):Int))<|.nil) (bf<|.nil)) fun L=>cp h (fun h1 h=>ai (aA h1)<|ai tt<|ai ff<|gT<|lZ<|bJ h (rf a0 a2 (m:Int)) fun r2 h=>ai (rfl:[(.b (!r2))]=([!r2]).map AV.b)<|ai ff<|aW h fun h4 h=>ai ((mY AV.b (n:=1) (fun _=>rfl) ([!r2])):(([!r2]).map AV.b).all (fun e=>e.nc==1)=true)<|ai ((rr h4 (by decide)):((q.map AV.b).length+(([!r2]).map AV.b).length)*1≤140737488355328)<|ai ((rv h4):(q.map AV.b).length+(([!r2]).map AV.b).length≤maxLen)<|ai (ei.symm:q.map AV.b++([!r2]).map AV.b=(q++([!r2])).map AV.b)<|aW h fun w5 h=>ai w5<|L h) (fun h1 h=>ai (ay h1)<|L h)
abbrev O8(a0:(List bz))(a1:ak)(a2:(List (List Bool)))(r:(List Bool)):bH×HP:=(.ret (.l 4 (r.map AV.b)),H0)
def sA:Option (List Bool):=
 (lp (fun v=>po a0 a1 a2 v.1 v.2) (([]:List Bool),0)).bind fun x1=>
 some x1.1
theorem B7(r:(List Bool))(h:sA a0 a1 a2=some r):call G Ω0 E0 103 [(.l 138 (a0.map bj)),(.e (.a [(I a1.Many),(.l 166 (a1.Grants.map ct))]) 0),(.e (.l 43 (a2.map (eW 4 AV.b))) 0)] H0=some (O8 a0 a1 a2 r):=
 bu alM (.ex fun (x1:((List Bool)×Nat×Bool))=>ao (.cD (Dp a0 a1 a2 x1))<|.nil) fun L=>bJ h (fC (fun v=>J1 a0 a1 a2 v.1 v.2) (([]:List Bool),0)) fun x1 h=>L h
end
section
variable (a0:ak)(a1:Label)
abbrev Ta(a0:ak)(a1:Label)(r:Level):bH×HP:=(.ret (.a [(.l 4 (r.Readers.map AV.b)),(.l 4 (r.Writers.map AV.b))]),H0)
def mg:Option Level:=
 (sw a0).bind fun r1=>
 (sA a1.Read a0 r1).bind fun r3=>
 (sA a1.Write a0 r1).bind fun r5=>
 some (⟨r3,r5⟩:Level)
theorem uH(r:Level)(h:mg a0 a1=some r):call G Ω0 E0 40 [(.a [(I a0.Many),(.l 166 (a0.Grants.map ct))]),(.a [(.l 138 (a1.Read.map bj)),(.l 138 (a1.Write.map bj))])] H0=some (Ta a0 a1 r):=
 bu G40 (bt<|.ex fun (r1:(List (List Bool)))=>ao (.v (.l 43 (r1.map (eW 4 AV.b))))<|ja<|.ex fun (r3:(List Bool))=>ao (.v (dQ r3))<|bt<|.ex fun (r5:(List Bool))=>ao (.v (dQ r5))<|fN<|.nil) fun L=>cg<|ai tt<|ai (rfl:Z0)<|bJ h (B6 a0) fun r1 h=>ai tt<|ai ff<|gT<|lZ<|ai (rfl:Z0)<|cg<|ai tt<|gT<|bJ h (B7 a1.Read a0 r1) fun r3 h=>cg<|ai tt<|gT<|bJ h (B7 a1.Write a0 r1) fun r5 h=>ai ff<|gT<|lZ<|L h
end
section
variable (dp:Nat)(hp:HP)(k0:Key)(a0:Int)
abbrev Dq(dp:Nat)(hp:HP)(k0:Key)(k1:Key)(a0:Int)(c0:Unit)(c1:aK)(a1:Int)(r:(Bool×Unit)):bH×HP:=(.ret (.b r.1),ar (ar hp k0 [(.p k1 0)]) k1 (aw c1))
def lH(c0:Unit)(c1:aK)(a1:Int):Option (Bool×Unit):=
 (dV a0).bind fun j1=>
 (c1.dT[j1]?).bind fun y3=>
 (dV a1).bind fun j5=>
 (y3[j5]?).bind fun y7=>
 some (y7,())
theorem AY(d:k0.dp<dp)(k1:Key)(j:k1.dp<dp)(g:k0≠k1)(hz:aO dp hp)(a0:Int)(c0:Unit)(c1:aK)(a1:Int)(r:(Bool×Unit))(h:lH a0 c0 c1 a1=some r):call G Ω0 ⟨dp,false⟩ 176 [(I a0),(.p k0 0),(.e (I a1) 0)] (ar (ar hp k0 [(.p k1 0)]) k1 (aw c1))=some (Dq dp hp k0 k1 a0 c0 c1 a1 r):=
 bu amA (bf<|ao (.l [(.p k1 0)])<|bf<|ao (.l (aw c1))<|xN fun j1=>.ex fun (y3:(List Bool))=>ao (.v (dQ y3))<|xN fun j5=>xB fun y7=>.nil) fun L=>ai tt<|ai (bQ d)<|ai (SS g:(ar (ar hp k0 [(.p k1 0)]) k1 (aw c1)) k0=some [(.p k1 0)])<|zb<|ai (bQ j)<|ai (iK (ar hp k0 [(.p k1 0)]) k1 (aw c1))<|cg<|mZ h fun j1 h2 h=>ai h2<|cn h fun y3 h4 h=>ai (aM (eW 4 AV.b) h4)<|zb<|mZ h fun j5 h6 h=>ai h6<|cn h fun y7 h8 h=>ai (aM AV.b h8)<|L h
end
section
variable (a0:(List Int))(c1:aK)(a1:Int)(B:Nat)(hp:HP)(k0:Key)(k1:Key)(dp:Nat)
def jH:Option (Nat⊕(Nat⊕(Nat×Bool))):=
 if (B:Int)<(a0.length:Int) then
  (a0[B]?).bind fun y2=>
  (lH y2 () c1 a1).bind fun r4=>
  if r4.1=true then
   some (.inr (.inl B))
  else
   if IntKind.i64.wrap ((B:Int)+1)=((B+1:Nat):Int) then
    some (.inl (B+1))
   else none
 else
  some (.inr (.inr (B,decide ((B:Int)<(a0.length:Int)))))
abbrev pH(a0:(List Int))(c1:aK)(a1:Int)(v:Nat):St:=⟨[(0,(dx a0)),(1,(.f 176 [(.p k0 0),(.e (I a1) 0)])),(7,(zI a0.length)),(8,(I (v:Int)))],[],ar (ar hp k0 [(.p k1 0)]) k1 (aw c1)⟩
abbrev fw(a0:(List Int))(c1:aK)(a1:Int)(x:(Nat⊕(Nat×Bool))):aN×St:=match x with | .inl z1=>(.ret,⟨[(4,(I (z1:Int)))],[],ar (ar hp k0 [(.p k1 0)]) k1 (aw c1)⟩) | .inr (z1,z2)=>((.ex 0),⟨[(0,(dx a0)),(1,(.f 176 [(.p k0 0),(.e (I a1) 0)])),(7,(zI a0.length)),(8,(I (z1:Int))),(9,(.b z2))],[],ar (ar hp k0 [(.p k1 0)]) k1 (aw c1)⟩)
theorem pv(hp:HP)(k0:Key)(d:k0.dp<dp)(k1:Key)(j:k1.dp<dp)(g:k0≠k1)(hz:aO dp hp)(a0:(List Int))(c1:aK)(a1:Int)(B:Nat)(o:Nat⊕(Nat⊕(Nat×Bool)))(h:jH a0 c1 a1 B=some o):bO ⟨dp,false⟩ Og (pH hp k0 k1 a0 c1 a1) (fw hp k0 k1 a0 c1 a1) B o:=
 bZ (.or (bt<|ao (.n B)<|xI fun y2=>.ex fun (r4:(Bool×Unit))=>ao (.v (.b r4.1))<|ao (.h (boxes dp [] (ar (ar hp k0 [(.p k1 0)]) k1 (aw c1))))<|ao (.bx [])<|ao (.h (ar (ar hp k0 [(.p k1 0)]) k1 (aw c1)))<|oN (ao (.i ((B+1:Nat):Int))<|.nil)) (bf<|.nil)) fun L=>cp h (fun h1 h=>ai (aA h1)<|ai (rI B)<|cn h fun y2 h3 h=>ai (aM (I) h3)<|p7<|cn h fun r4 aa h=>have aa:=Rp d j g (AY (dp+1) (boxes dp [] (ar (ar hp k0 [(.p k1 0)]) k1 (aw c1))) k0 (cT d) k1 (cT j) (g) (dJ (aU j (aU d (hz)))) y2 () c1 a1 _ aa);ai aa<|ai (sh aa (by kernel_rfl) (by kernel_rfl))<|ai (si aa (aU j (aU d (hz))))<|cG h (fun h6 h=>ai h6<|L h) (fun h6 h=>ai h6<|aW h fun w7 h=>ai w7<|L h)) (fun h1 h=>ai (ay h1)<|L h)
abbrev qJ(dp:Nat)(hp:HP)(k0:Key)(k1:Key)(a0:(List Int))(c0:Unit)(c1:aK)(a1:Int)(r:(Int×Unit)):bH×HP:=(.ret (I r.1),ar (ar hp k0 [(.p k1 0)]) k1 (aw c1))
def ku(c0:Unit)(c1:aK)(a1:Int):Option (Int×Unit):=
 (lp (fun v=>jH a0 c1 a1 v) 0).bind fun x1=>match x1 with
 | .inl F=>
  some ((F:Int),())
 | .inr E=>
  some ((-1),())
theorem pw(hp:HP)(k0:Key)(d:k0.dp<dp)(k1:Key)(j:k1.dp<dp)(g:k0≠k1)(hz:aO dp hp)(a0:(List Int))(c0:Unit)(c1:aK)(a1:Int)(r:(Int×Unit))(h:ku a0 c0 c1 a1=some r):call G Ω0 ⟨dp,false⟩ 143 [(.l 3 (a0.map (I))),(.f 176 [(.p k0 0),(.e (I a1) 0)])] (ar (ar hp k0 [(.p k1 0)]) k1 (aw c1))=some (qJ dp hp k0 k1 a0 c0 c1 a1 r):=
 bu Oi (ao (.i (a0.length:Int))<|.or (.ex fun (F:Nat)=>ao (.cD (fw hp k0 k1 a0 c1 a1 (.inl F)))<|.nil) (.ex fun (E:(Nat×Bool))=>ao (.cD (fw hp k0 k1 a0 c1 a1 (.inr E)))<|.nil)) fun L=>ai (aJ (I) a0)<|fc h (fC (pv dp hp k0 d k1 j g hz a0 c1 a1) 0) (fun F h=>L h) (fun E h=>L h)
abbrev px(dp:Nat)(hp:HP)(k0:Key)(k1:Key)(a0:(List Int))(c0:Unit)(c1:aK)(a1:Int)(r:(Bool×Unit)):bH×HP:=(.ret (.b r.1),ar (ar hp k0 [(.p k1 0)]) k1 (aw c1))
def fp(c0:Unit)(c1:aK)(a1:Int):Option (Bool×Unit):=
 (ku a0 () c1 a1).bind fun r1=>
 some ((decide (0≤r1.1)),())
theorem og(hp:HP)(k0:Key)(d:k0.dp<dp)(k1:Key)(j:k1.dp<dp)(g:k0≠k1)(hz:aO dp hp)(a0:(List Int))(c0:Unit)(c1:aK)(a1:Int)(r:(Bool×Unit))(h:fp a0 c0 c1 a1=some r):call G Ω0 ⟨dp,false⟩ 105 [(.l 3 (a0.map (I))),(.f 176 [(.p k0 0),(.e (I a1) 0)])] (ar (ar hp k0 [(.p k1 0)]) k1 (aw c1))=some (px dp hp k0 k1 a0 c0 c1 a1 r):=
 bu Oh (.ex fun (r1:(Int×Unit))=>ao (.v (I r1.1))<|ao (.h (boxes dp [] (ar (ar hp k0 [(.p k1 0)]) k1 (aw c1))))<|ao (.bx [])<|ao (.h (ar (ar hp k0 [(.p k1 0)]) k1 (aw c1)))<|.nil) fun L=>p7<|cn h fun r1 P h=>have P:=Rp d j g (pw (dp+1) (boxes dp [] (ar (ar hp k0 [(.p k1 0)]) k1 (aw c1))) k0 (cT d) k1 (cT j) (g) (dJ (aU j (aU d (hz)))) a0 () c1 a1 _ P);ai P<|ai (sh P (by kernel_rfl) (by kernel_rfl))<|ai (si P (aU j (aU d (hz))))<|L h
end
section
variable (dp:Nat)(hp:HP)(k0:Key)(c0:aK)(a0:Int)
abbrev E1(dp:Nat)(hp:HP)(k0:Key)(c0:aK)(a0:Int)(r:Bool):bH×HP:=(.ret (.b r),ar hp k0 (aw c0))
def nx:Option Bool:=
 (fp c0.p.Speak () c0 a0).bind fun r1=>
 some r1.1
theorem CH(d:k0.dp<dp)(hz:aO dp hp)(c0:aK)(a0:Int)(r:Bool)(h:nx c0 a0=some r):call G Ω0 ⟨dp,false⟩ 174 [(.p k0 0),(I a0)] (ar hp k0 (aw c0))=some (E1 dp hp k0 c0 a0 r):=
 bu amy (yG<|ao (.l (aw c0))<|.ex fun (r1:(Bool×Unit))=>ao (.v (.b r1.1))<|ao (.h (boxes dp [(2,[(.p k0 0)])] (ar hp k0 (aw c0))))<|ao (.bx [(2,[(.p k0 0)])])<|ao (.h (ar hp k0 (aw c0)))<|.nil) fun L=>ai ((by simp [AV.cb,AV.dm,AV.deep,AV.dt,bD d,ec d]):(((.p k0 0):AV).deep dp&&(([(0,(.p k0 0)),(1,(I a0))]:List (Nat×AV)).all (fun y=>y.2.cb ⟨dp,2⟩)&&([]:List (Nat×List AV)).all (fun y=>AV.dm ⟨dp,2⟩ y.2)))=true)<|ai ((by simp [AV.cb,AV.dm,AV.deep,AV.dt,bD d,ec d]):(((I a0):AV).deep dp&&(([(2,(.p ⟨dp,2⟩ 0)),(0,(.p k0 0)),(1,(I a0))]:List (Nat×AV)).all (fun y=>y.2.cb ⟨dp,3⟩)&&([(2,[(.p k0 0)])]:List (Nat×List AV)).all (fun y=>AV.dm ⟨dp,3⟩ y.2)))=true)<|ai (rN dp)<|ai (rN dp)<|ai (bQ d)<|ai (iK hp k0 (aw c0))<|ai ff<|ai ((by simp [AV.deep,AV.dt,ec d]):([(2,[(.p k0 0)])]:List (Nat×List AV)).all (fun y=>AV.dt dp y.2)=true)<|cn h fun r1 P h=>have P:call G Ω0 ⟨dp+1,false⟩ 105 [(dx c0.p.Speak),(.f 176 [(.p ⟨dp,2⟩ 0),(.e (I a0) 0)])] (boxes dp [(2,[(.p k0 0)])] (ar hp k0 (aw c0)))=some (.ret (.b r1.1),boxes dp [(2,[(.p k0 0)])] (ar hp k0 (aw c0))):=mJ (kT (gj (bx1:=[(2,[(.p k0 0)])]) (by kernel_rfl) (by kernel_rfl)) (fI (hp1:=ar hp k0 (aw c0)) (bQ d) (fW ..))) (kT (gj (bx1:=[(2,[(.p k0 0)])]) (by kernel_rfl) (by kernel_rfl)) (fI (hp1:=ar hp k0 (aw c0)) (bQ d) (fW ..))) (og (dp+1) (boxes dp [(2,[(.p k0 0)])] (ar hp k0 (aw c0))) ⟨dp,2⟩ (mR dp) k0 (cT d) (CS d) (dJ (aU d (hz))) c0.p.Speak () c0 a0 _ P);ai P<|ai (sh P (by kernel_rfl) (by kernel_rfl))<|ai (si P (aU d (hz)))<|L h
end
section
variable (dp:Nat)(hp:HP)(k0:Key)(a0:bz)
abbrev Dr(dp:Nat)(hp:HP)(k0:Key)(k1:Key)(a0:bz)(c0:Unit)(c1:aK)(r:(Bool×Unit)):bH×HP:=(.ret (.b r.1),ar (ar hp k0 [(.p k1 0)]) k1 (aw c1))
def lI(c0:Unit)(c1:aK):Option (Bool×Unit):=
 (nx c1 a0.Owner).bind fun r1=>
 some ((!r1),())
theorem AZ(d:k0.dp<dp)(k1:Key)(j:k1.dp<dp)(g:k0≠k1)(hz:aO dp hp)(a0:bz)(c0:Unit)(c1:aK)(r:(Bool×Unit))(h:lI a0 c0 c1=some r):call G Ω0 ⟨dp,false⟩ 173 [(.a [(I a0.Owner),(.l 3 (a0.Names.map (I)))]),(.p k0 0)] (ar (ar hp k0 [(.p k1 0)]) k1 (aw c1))=some (Dr dp hp k0 k1 a0 c0 c1 r):=
 bu amx (bf<|ao (.l [(.p k1 0)])<|bt<|xB fun r1=>ao (.h (boxes dp [(2,[(I a0.Owner),(dx a0.Names)])] (ar (ar hp k0 [(.p k1 0)]) k1 (aw c1))))<|ao (.bx [(2,[(I a0.Owner),(dx a0.Names)])])<|ao (.h (ar (ar hp k0 [(.p k1 0)]) k1 (aw c1)))<|.nil) fun L=>ai ((by simp [AV.cb,AV.dm,AV.deep,AV.dt,bD d,ec d,bD j,ec j]):(((.a [(I a0.Owner),(.l 3 (a0.Names.map (I)))]):AV).deep dp&&(([(0,(.a [(I a0.Owner),(.l 3 (a0.Names.map (I)))])),(1,(.p k0 0))]:List (Nat×AV)).all (fun y=>y.2.cb ⟨dp,2⟩)&&([]:List (Nat×List AV)).all (fun y=>AV.dm ⟨dp,2⟩ y.2)))=true)<|ai (bQ d)<|ai (SS g:(ar (ar hp k0 [(.p k1 0)]) k1 (aw c1)) k0=some [(.p k1 0)])<|ai (rN dp)<|p7<|cn h fun r1 P h=>have P:call G Ω0 ⟨dp+1,false⟩ 174 [(.p k1 0),(I a0.Owner)] (boxes dp [(2,[(I a0.Owner),(dx a0.Names)])] (ar (ar hp k0 [(.p k1 0)]) k1 (aw c1)))=some (.ret (.b r1),boxes dp [(2,[(I a0.Owner),(dx a0.Names)])] (ar (ar hp k0 [(.p k1 0)]) k1 (aw c1))):=mJ (fI (hp1:=ar (ar hp k0 [(.p k1 0)]) k1 (aw c1)) (bQ j) (fW ..)) (fI (hp1:=ar (ar hp k0 [(.p k1 0)]) k1 (aw c1)) (bQ j) (fW ..)) (CH (dp+1) (boxes dp [(2,[(I a0.Owner),(dx a0.Names)])] (ar (ar hp k0 [(.p k1 0)]) k1 (aw c1))) k1 (cT j) (dJ (aU j (aU d (hz)))) c1 a0.Owner _ P);ai P<|ai (sh P (by kernel_rfl) (by kernel_rfl))<|ai (si P (aU j (aU d (hz))))<|L h
end
section
variable (a0:(List bz))(c1:aK)(B:Nat)(hp:HP)(k0:Key)(k1:Key)(dp:Nat)
def jI:Option (Nat⊕(Nat⊕(Nat×Bool))):=
 if (B:Int)<(a0.length:Int) then
  (a0[B]?).bind fun y2=>
  (lI y2 () c1).bind fun r4=>
  if r4.1=true then
   some (.inr (.inl B))
  else
   if IntKind.i64.wrap ((B:Int)+1)=((B+1:Nat):Int) then
    some (.inl (B+1))
   else none
 else
  some (.inr (.inr (B,decide ((B:Int)<(a0.length:Int)))))
abbrev pI(a0:(List bz))(c1:aK)(v:Nat):St:=⟨[(0,(bm a0)),(1,(.f 173 [(.p k0 0)])),(7,(zI a0.length)),(8,(I (v:Int)))],[],ar (ar hp k0 [(.p k1 0)]) k1 (aw c1)⟩
abbrev fx(a0:(List bz))(c1:aK)(x:(Nat⊕(Nat×Bool))):aN×St:=match x with | .inl z1=>(.ret,⟨[(4,(I (z1:Int)))],[],ar (ar hp k0 [(.p k1 0)]) k1 (aw c1)⟩) | .inr (z1,z2)=>((.ex 0),⟨[(0,(bm a0)),(1,(.f 173 [(.p k0 0)])),(7,(zI a0.length)),(8,(I (z1:Int))),(9,(.b z2))],[],ar (ar hp k0 [(.p k1 0)]) k1 (aw c1)⟩)
theorem py(hp:HP)(k0:Key)(d:k0.dp<dp)(k1:Key)(j:k1.dp<dp)(g:k0≠k1)(hz:aO dp hp)(a0:(List bz))(c1:aK)(B:Nat)(o:Nat⊕(Nat⊕(Nat×Bool)))(h:jI a0 c1 B=some o):bO ⟨dp,false⟩ Uj (pI hp k0 k1 a0 c1) (fx hp k0 k1 a0 c1) B o:=
 bZ (.or (bt<|ao (.n B)<|.ex fun (y2:bz)=>ao (.v (.a [(I y2.Owner),(dx y2.Names)]))<|.ex fun (r4:(Bool×Unit))=>ao (.v (.b r4.1))<|ao (.h (boxes dp [] (ar (ar hp k0 [(.p k1 0)]) k1 (aw c1))))<|ao (.bx [])<|ao (.h (ar (ar hp k0 [(.p k1 0)]) k1 (aw c1)))<|oN (ao (.i ((B+1:Nat):Int))<|.nil)) (bf<|.nil)) fun L=>cp h (fun h1 h=>ai (aA h1)<|ai (rI B)<|cn h fun y2 h3 h=>ai (aM bj h3)<|p7<|cn h fun r4 aa h=>have aa:=Rp d j g (AZ (dp+1) (boxes dp [] (ar (ar hp k0 [(.p k1 0)]) k1 (aw c1))) k0 (cT d) k1 (cT j) (g) (dJ (aU j (aU d (hz)))) y2 () c1 _ aa);ai aa<|ai (sh aa (by kernel_rfl) (by kernel_rfl))<|ai (si aa (aU j (aU d (hz))))<|cG h (fun h6 h=>ai h6<|L h) (fun h6 h=>ai h6<|aW h fun w7 h=>ai w7<|L h)) (fun h1 h=>ai (ay h1)<|L h)
abbrev qK(dp:Nat)(hp:HP)(k0:Key)(k1:Key)(a0:(List bz))(c0:Unit)(c1:aK)(r:(Int×Unit)):bH×HP:=(.ret (I r.1),ar (ar hp k0 [(.p k1 0)]) k1 (aw c1))
def kv(c0:Unit)(c1:aK):Option (Int×Unit):=
 (lp (fun v=>jI a0 c1 v) 0).bind fun x1=>match x1 with
 | .inl F=>
  some ((F:Int),())
 | .inr E=>
  some ((-1),())
theorem pz(hp:HP)(k0:Key)(d:k0.dp<dp)(k1:Key)(j:k1.dp<dp)(g:k0≠k1)(hz:aO dp hp)(a0:(List bz))(c0:Unit)(c1:aK)(r:(Int×Unit))(h:kv a0 c0 c1=some r):call G Ω0 ⟨dp,false⟩ 144 [(.l 138 (a0.map bj)),(.f 173 [(.p k0 0)])] (ar (ar hp k0 [(.p k1 0)]) k1 (aw c1))=some (qK dp hp k0 k1 a0 c0 c1 r):=
 bu aet (ao (.i (a0.length:Int))<|.or (.ex fun (F:Nat)=>ao (.cD (fx hp k0 k1 a0 c1 (.inl F)))<|.nil) (.ex fun (E:(Nat×Bool))=>ao (.cD (fx hp k0 k1 a0 c1 (.inr E)))<|.nil)) fun L=>ai (aJ bj a0)<|fc h (fC (py dp hp k0 d k1 j g hz a0 c1) 0) (fun F h=>L h) (fun E h=>L h)
abbrev pA(dp:Nat)(hp:HP)(k0:Key)(k1:Key)(a0:(List bz))(c0:Unit)(c1:aK)(r:(Bool×Unit)):bH×HP:=(.ret (.b r.1),ar (ar hp k0 [(.p k1 0)]) k1 (aw c1))
def fq(c0:Unit)(c1:aK):Option (Bool×Unit):=
 (kv a0 () c1).bind fun r1=>
 some ((decide (0≤r1.1)),())
theorem oh(hp:HP)(k0:Key)(d:k0.dp<dp)(k1:Key)(j:k1.dp<dp)(g:k0≠k1)(hz:aO dp hp)(a0:(List bz))(c0:Unit)(c1:aK)(r:(Bool×Unit))(h:fq a0 c0 c1=some r):call G Ω0 ⟨dp,false⟩ 107 [(.l 138 (a0.map bj)),(.f 173 [(.p k0 0)])] (ar (ar hp k0 [(.p k1 0)]) k1 (aw c1))=some (pA dp hp k0 k1 a0 c0 c1 r):=
 bu aer (.ex fun (r1:(Int×Unit))=>ao (.v (I r1.1))<|ao (.h (boxes dp [] (ar (ar hp k0 [(.p k1 0)]) k1 (aw c1))))<|ao (.bx [])<|ao (.h (ar (ar hp k0 [(.p k1 0)]) k1 (aw c1)))<|.nil) fun L=>p7<|cn h fun r1 P h=>have P:=Rp d j g (pz (dp+1) (boxes dp [] (ar (ar hp k0 [(.p k1 0)]) k1 (aw c1))) k0 (cT d) k1 (cT j) (g) (dJ (aU j (aU d (hz)))) a0 () c1 _ P);ai P<|ai (sh P (by kernel_rfl) (by kernel_rfl))<|ai (si P (aU j (aU d (hz))))<|L h
end
section
variable (dp:Nat)(hp:HP)(k0:Key)(c0:aK)(a0:(List bz))
abbrev wR(dp:Nat)(hp:HP)(k0:Key)(c0:aK)(a0:(List bz))(r:Bool):bH×HP:=(.ret (.b r),ar hp k0 (aw c0))
abbrev wS(r:Bool):Prop:=call G Ω0 ⟨dp,false⟩ 171 [(.p k0 0),(.l 138 (a0.map bj))] (ar hp k0 (aw c0))=some (wR dp hp k0 c0 a0 r)
def gq:Option Bool:=
 (fq a0 () c0).bind fun r1=>
 some (!r1.1)
theorem CI(d:k0.dp<dp)(hz:aO dp hp)(c0:aK)(a0:(List bz))(r:Bool)(h:gq c0 a0=some r):wS dp hp k0 c0 a0 r:=
 bu amv (.ex fun (r1:(Bool×Unit))=>ao (.v (.b r1.1))<|ao (.h (boxes dp [(2,[(.p k0 0)])] (ar hp k0 (aw c0))))<|ao (.bx [(2,[(.p k0 0)])])<|ao (.h (ar hp k0 (aw c0)))<|.nil) fun L=>ai ((by simp [AV.cb,AV.dm,AV.deep,AV.dt,bD d,ec d]):(((.p k0 0):AV).deep dp&&(([(0,(.p k0 0)),(1,(.l 138 (a0.map bj)))]:List (Nat×AV)).all (fun y=>y.2.cb ⟨dp,2⟩)&&([]:List (Nat×List AV)).all (fun y=>AV.dm ⟨dp,2⟩ y.2)))=true)<|ai ff<|ai ((by simp [AV.deep,AV.dt,ec d]):([(2,[(.p k0 0)])]:List (Nat×List AV)).all (fun y=>AV.dt dp y.2)=true)<|cn h fun r1 P h=>have P:call G Ω0 ⟨dp+1,false⟩ 107 [(bm a0),(.f 173 [(.p ⟨dp,2⟩ 0)])] (boxes dp [(2,[(.p k0 0)])] (ar hp k0 (aw c0)))=some (.ret (.b r1.1),boxes dp [(2,[(.p k0 0)])] (ar hp k0 (aw c0))):=mJ (kT (gj (bx1:=[(2,[(.p k0 0)])]) (by kernel_rfl) (by kernel_rfl)) (fI (hp1:=ar hp k0 (aw c0)) (bQ d) (fW ..))) (kT (gj (bx1:=[(2,[(.p k0 0)])]) (by kernel_rfl) (by kernel_rfl)) (fI (hp1:=ar hp k0 (aw c0)) (bQ d) (fW ..))) (oh (dp+1) (boxes dp [(2,[(.p k0 0)])] (ar hp k0 (aw c0))) ⟨dp,2⟩ (mR dp) k0 (cT d) (CS d) (dJ (aU d (hz))) a0 () c0 _ P);ai P<|ai (sh P (by kernel_rfl) (by kernel_rfl))<|ai (si P (aU d (hz)))<|L h
end
end
end Go.Proofs.YtkkkkondjclcnaaGreat.A
