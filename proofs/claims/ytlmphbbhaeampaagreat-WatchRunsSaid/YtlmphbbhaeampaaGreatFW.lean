/- Functions of the program as plain functions, by program. -/
import Derived.Test.YtlmphbbhaeampaaGreatTypes
import Derived.Test.YtlmphbbhaeampaaGreatBase
import Derived.Test.YtlmphbbhaeampaaGreatFE
import Derived.Test.YtlmphbbhaeampaaGreatLevelF
import Derived.Test.YtlmphbbhaeampaaGreatSpeakF
set_option linter.all false
set_option maxRecDepth 100000
namespace Go.Proofs.YtlmphbbhaeampaaGreat.A
open Go
noncomputable section
variable [Lp]
attribute [local simp] dY iY okB kL AV.dD AV.jI AV.fX AV.deep AV.jJ ee bH
section
variable (a0:(List Int))
abbrev Om(a0:(List Int))(r:Bool):bC×HP:=(.ret (.b r),H0)
def zU:Option Bool:=
 some (decide (100<(a0.length:Int)))
theorem JB(r:Bool)(h:zU a0=some r):call G Ω0 E0 108 [(.l 3 (a0.map (I)))] H0=some (Om a0 r):=
 bj anQ (ao (.i (a0.length:Int))<|.nil) fun L=>ai (aP I a0)<|L h
end
section
variable (a0:(List (List Int)))
abbrev ue(r:Bool):Prop:=call G Ω0 E0 107 [(.l 25 (a0.map (db 3 (AV.i .i64)))),(.f 108 [])] H0=some (.ret (.b r),H0)
def iF:Option Bool:=IJ (fun y=>zU y) a0
theorem rT(r:Bool)(h:iF a0=some r):ue a0 r:=tj (n:=1) (ld:=none) (by decide) (fun _=>⟨rfl,rfl,rfl,rfl⟩) rfl (fun y b hb=>JB y b hb) agG agH h
end
section
variable (a0:Int)
abbrev La(a0:Int)(r:Bool):bC×HP:=(.ret (.b r),H0)
def rE:Option Bool:=
 (wv a0).bind fun r1=>
 some (!r1)
theorem GX(r:Bool)(h:rE a0=some r):call G Ω0 E0 110 [(I a0)] H0=some (La a0 r):=
 bj anS (xB fun r1=>.nil) fun L=>bq h (KZ a0) fun r1 h=>L h
end
section
variable (a0:(List Int))
abbrev sF(r:Bool):Prop:=call G Ω0 E0 103 [(.l 3 (a0.map (AV.i .i64))),(.f 110 [])] H0=some (.ret (.b r),H0)
def gK:Option Bool:=IJ (fun y=>rE y) a0
theorem qS(r:Bool)(h:gK a0=some r):sF a0 r:=tj (n:=1) (ld:=none) (by decide) (fun _=>⟨rfl,rfl,rfl,rfl⟩) rfl (fun y b hb=>GX y b hb) OY OZ h
abbrev On(a0:(List Int))(r:Bool):bC×HP:=(.ret (.b r),H0)
def uP:Option Bool:=
 (gK a0).bind fun r1=>
 some r1
theorem JC(r:Bool)(h:uP a0=some r):call G Ω0 E0 109 [(.l 3 (a0.map (I)))] H0=some (On a0 r):=
 bj anR (xB fun r1=>.nil) fun L=>bq h (qS a0) fun r1 h=>L h
end
section
variable (a0:(List (List Int)))
abbrev uf(r:Bool):Prop:=call G Ω0 E0 107 [(.l 25 (a0.map (db 3 (AV.i .i64)))),(.f 109 [])] H0=some (.ret (.b r),H0)
def iG:Option Bool:=IJ (fun y=>uP y) a0
theorem rU(r:Bool)(h:iG a0=some r):uf a0 r:=tj (n:=1) (ld:=none) (by decide) (fun _=>⟨rfl,rfl,rfl,rfl⟩) rfl (fun y b hb=>JC y b hb) agG agH h
end
section
variable (a0:Program)(a1:(List (List Int)))(a2:Int)
abbrev RI(a0:Program)(a1:(List (List Int)))(a2:Int)(r:Int):bC×HP:=(.ret (I r),H0)
def yO:Option Int:=
 (uL a0).bind fun r1=>
 if (r1 !=0)=true then
  some r1
 else
  if ((a1.length:Int) !=(a0.Ins.length:Int))=true then
   some 1
  else
   (iF a1).bind fun r5=>
   if r5=true then
    some 2
   else
    (iG a1).bind fun r8=>
    if r8=true then
     some 3
    else
     if a2<0 then
      some 3
     else
      if 2000<a2 then
       some 3
      else
       some 0
theorem MX(r:Int)(h:yO a0 a1 a2=some r):call G Ω0 E0 63 [(.a (aL a0)),(.l 25 (a1.map (db 3 (I)))),(I a2)] H0=some (RI a0 a1 a2 r):=
 bj G63 (bt<|xI fun r1=>oN (ao (.i (a1.length:Int))<|bt<|ao (.i (a0.Ins.length:Int))<|oN (xB fun r5=>oN (xB fun r8=>.or (bf<|bf<|bt<|bf<|bf<|bt<|bt<|.nil) (Jf<|.or (bf<|bf<|bt<|bt<|.nil) (Jf<|oN (.nil))))))) fun L=>uq<|bq h (Jt a0) fun r1 h=>bB h (fun h3 h=>ai h3<|L h) (fun h3 h=>ai h3<|ai (aP (db 3 I) a1)<|ai (rfl:Z0)<|ai (aP aT a0.Ins)<|bB h (fun h4 h=>ai h4<|L h) (fun h4 h=>ai h4<|bq h (rT a1) fun r5 h=>bB h (fun h7 h=>ai h7<|L h) (fun h7 h=>ai h7<|bq h (rU a1) fun r8 h=>bB h (fun a4 h=>ai (g0 a4)<|iD a4<|nR<|aZ<|L h) (fun a4 h=>Mj a4<|cw h (fun bD h=>ai (g0 (aF bD))<|iD (aF bD)<|ai tt<|L h) (fun bD h=>Mj (aD bD)<|cw h (fun b0 h=>ai (aF b0)<|L h) (fun b0 h=>ai (aD b0)<|L h))))))
end
section
variable (dp:Nat)(hp:HP)(k0:Key)
abbrev Qy(dp:Nat)(hp:HP)(k0:Key)(a0:Stmt)(a1:Int)(c0:Int)(r:(Bool×Int)):bC×HP:=(.ret (.b r.1),ar hp k0 [(I r.2)])
def Bq(a0:Stmt)(a1:Int)(c0:Int):Option (Bool×Int):=
 if IntKind.i64.wrap (c0+1)=c0+1 then
  some (true,(c0+1))
 else none
theorem Lb(g:k0.dp<dp)(hz:bF dp hp)(a0:Stmt)(a1:Int)(c0:Int)(r:(Bool×Int))(h:Bq a0 a1 c0=some r):call G Ω0 ⟨dp,false⟩ 135 [(.a (ax a0)),(I a1),(.p k0 0)] (ar hp k0 [(I c0)])=some (Qy dp hp k0 a0 a1 c0 r):=
 let B:=aj g;let A:=aA hp k0 [(I c0)];bj an8 (bf<|ao (.l [(I c0)])<|ao (.i (c0+1))<|bf<|ao (.l [(I c0)])<|bf<|ao (.h (ar hp k0 [(I (c0+1))]))<|.nil) fun L=>ai ((by simp [ax,aV g,bm g]):(((.a (ax a0)):AV).deep dp&&(dY dp 3 [(0,(.a (ax a0))),(1,(I a1)),(2,(.p k0 0))] []))=true)<|ai B<|ai A<|aO h fun w1 h=>ai w1<|ai ff<|ai B<|ai A<|ai tt<|ai B<|ai (bA hp k0 [(I c0)] [(I (c0+1))])<|L h
end
section
variable (dp:Nat)(hp:HP)(k0:Key)(a0:(List Stmt))(a1:Int)(c0:Int)
abbrev Br(dp:Nat)(hp:HP)(k0:Key)(a0:(List Stmt))(a1:Int)(c0:Int)(r:(Bool×Int)):bC×HP:=(.ret (.b r.1),ar hp k0 [(I r.2)])
abbrev nA(r:(Bool×Int)):Prop:=call G Ω0 ⟨dp,false⟩ 134 [(.l 111 (a0.map bK)),(I a1),(.f 135 [(.p k0 0)])] (ar hp k0 [(I c0)])=some (Br dp hp k0 a0 a1 c0 r)
end
structure nB where
 f_scope_Walk__run_Many_1:(List Stmt)→Int→Int→Option (Bool×Int)
structure mG(R:nB):Prop where
 f_scope_Walk__run_Many_1:∀ (dp:Nat)(hp:HP)(k0:Key)(g:k0.dp<dp)(hz:bF dp hp)(a0:(List Stmt))(a1:Int)(c0:Int)(r:(Bool×Int)),R.f_scope_Walk__run_Many_1 a0 a1 c0=some r→nA dp hp k0 a0 a1 c0 r
section
variable (R:nB)(a0:(List Stmt))(a1:Int)(w:Nat)(hp:HP)(k0:Key)(dp:Nat)(c0:Int)
def jc(v0_k0_0:Int):Option ((Nat×Int)⊕(Int⊕(Nat×Bool×Int))):=
 if (w:Int)<(a0.length:Int) then
  (a0[w]?).bind fun y2=>
  (Bq y2 a1 v0_k0_0).bind fun r4=>
  if r4.1=true then
   if IntKind.i64.wrap (a1+1)=a1+1 then
    (R.f_scope_Walk__run_Many_1 y2.Then (a1+1) r4.2).bind fun r8=>
    if r8.1=true then
     (R.f_scope_Walk__run_Many_1 y2.Else (a1+1) r8.2).bind fun al=>
     if al.1=true then
      if IntKind.i64.wrap ((w:Int)+1)=((w+1:Nat):Int) then
       some (.inl (w+1,al.2))
      else none
     else
      some (.inr (.inl al.2))
    else
     some (.inr (.inl r8.2))
   else none
  else
   some (.inr (.inl r4.2))
 else
  some (.inr (.inr (w,decide ((w:Int)<(a0.length:Int)),v0_k0_0)))
abbrev zV(a0:(List Stmt))(a1:Int)(v:(Nat×Int)):St:=⟨[(1,(I a1)),(2,(.f 135 [(.p k0 0)])),(9,(bh a0)),(10,(zI a0.length)),(11,(I (v.1:Int)))],[],ar hp k0 [(I v.2)]⟩
abbrev l8(a0:(List Stmt))(a1:Int)(x:(Int⊕(Nat×Bool×Int))):bc×St:=match x with | .inl z1=>(.ret,⟨[(6,(.b false))],[],ar hp k0 [(I z1)]⟩) | .inr (z1,z2,z3)=>((.ex 0),⟨[(1,(I a1)),(2,(.f 135 [(.p k0 0)])),(9,(bh a0)),(10,(zI a0.length)),(11,(I (z1:Int))),(12,(.b z2))],[],ar hp k0 [(I z3)]⟩)
theorem zo(hR:mG R)(dp:Nat)(hp:HP)(k0:Key)(g:k0.dp<dp)(hz:bF dp hp)(a0:(List Stmt))(a1:Int)(w:Nat)(v0_k0_0:Int)(o:(Nat×Int)⊕(Int⊕(Nat×Bool×Int)))(h:jc R a0 a1 w v0_k0_0=some o):bQ ⟨dp,false⟩ Kf (zV hp k0 a0 a1) (l8 hp k0 a0 a1) (w,v0_k0_0) o:=
 let B:=aJ g;let A:=Bool×Int;bZ (.or (bt<|ao (.n w)<|.ex fun (y2:Stmt)=>let C:=(8,(ax y2));ao (.v (.a (ax y2)))<|ea<|.ex fun (r4:A)=>let D:=ar hp k0 [(I r4.2)];ao (.v (.b r4.1))<|ao (.h (boxes dp [C] D))<|ao (.bx [C])<|ao (.h D)<|.or (pn<|ao (.i (a1+1))<|cM<|.ex fun (r8:A)=>let E:=ar hp k0 [(I r8.2)];ao (.v (.b r8.1))<|ao (.h (boxes dp [C] E))<|ao (.bx [C])<|ao (.h E)<|gZ<|.or (pn<|ao (.i (a1+1))<|cM<|.ex fun (al:A)=>let F:=ar hp k0 [(I al.2)];ao (.v (.b al.1))<|ao (.h (boxes dp [C] F))<|ao (.bx [C])<|ao (.h F)<|gZ<|.or (bf<|ao (.i ((w+1:Nat):Int))<|.nil) (bt<|.nil)) (Xp<|.nil)) (Xq<|.nil)) (bf<|.nil)) fun L=>cw h (fun h1 h=>ai (aF h1)<|ai (rI w)<|ba h fun y2 h3 h=>let G:=(8,(ax y2));ai (dR bK h3 (gE _))<|ai ((by simp [ax,aV g,bm g]):(dY dp 8 [(14,(.a (ax y2))),(13,(.e (.a (ax y2)) 0)),(1,(I a1)),(2,(.f 135 [(.p k0 0)])),(9,(.l 111 (a0.map bK))),(10,(I (a0.length:Int))),(11,(I (w:Int)))] [])=true)<|ai ff<|ai (rN dp)<|ai tt<|ai (rN dp)<|ai (rN dp)<|ew<|ba h fun r4 au h=>have au:=cO g (Lb (dp+1) (boxes dp [G] (ar hp k0 [(I v0_k0_0)])) k0 B (aU (an g hz)) y2 a1 v0_k0_0 _ au);eo au (an g hz)<|bB h (fun h6 h=>let H:=az not h6;xS H<|ai (rN dp)<|xS H<|aO h fun w7 h=>ai w7<|Mh H<|ba h fun r8 bJ h=>have bJ:=cO g (hR.f_scope_Walk__run_Many_1 (dp+1) (boxes dp [G] (ar hp k0 [(I r4.2)])) k0 B (aU (an g hz)) y2.Then (a1+1) r4.2 _ bJ);eo bJ (an g hz)<|iD H<|bB h (fun a4 h=>let J:=az not a4;xS J<|ai (rN dp)<|xS J<|ai w7<|Mh J<|ba h fun al bi h=>have bi:=cO g (hR.f_scope_Walk__run_Many_1 (dp+1) (boxes dp [G] (ar hp k0 [(I r8.2)])) k0 B (aU (an g hz)) y2.Else (a1+1) r8.2 _ bi);eo bi (an g hz)<|iD J<|bB h (fun a7 h=>ai (az not a7)<|aO h fun ci h=>ai ci<|L h) (fun a7 h=>ai (az not a7)<|L h)) (fun a4 h=>Xl (az not a4)<|L h)) (fun h6 h=>Xm (az not h6)<|L h)) (fun h1 h=>ai (aD h1)<|L h)
def jA:Option (Bool×Int):=
 (lp (fun v=>jc R a0 a1 v.1 v.2) (0,c0)).bind fun x1=>match x1 with
 | .inl bl=>
  some (false,bl)
 | .inr bk=>
  some (true,bk.2.2)
theorem ym(hR:mG R)(dp:Nat)(hp:HP)(k0:Key)(g:k0.dp<dp)(hz:bF dp hp)(a0:(List Stmt))(a1:Int)(c0:Int)(r:(Bool×Int))(h:jA R a0 a1 c0=some r):nA dp hp k0 a0 a1 c0 r:=
 bj WU (ao (.i (a0.length:Int))<|.or (.ex fun (bl:Int)=>ao (.cA (l8 hp k0 a0 a1 (.inl bl)))<|.nil) (.ex fun (bk:(Nat×Bool×Int))=>ao (.cA (l8 hp k0 a0 a1 (.inr bk)))<|.nil)) fun L=>ai (aP bK a0)<|dv h (dT (fun v=>zo R hR dp hp k0 g hz a0 a1 v.1 v.2) (0,c0)) (fun bl h=>L h) (fun bk h=>L h)
def fq:Nat→nB
 | 0=>⟨fun z0 z1 z2=>none⟩
 | n+1=>⟨jA (fq n)⟩
theorem rF:∀ n,mG (fq n)
 | 0=>⟨fun _ _ _ _ _ _ _ _ r h=>(by cases h)⟩
 | n+1=>⟨fun dp hp k0 g hz a0 a1 c0 r h=>ym _ (rF n) dp hp k0 g hz a0 a1 c0 r h⟩
def nC:Option (Bool×Int):=ev fun n=>(fq n).f_scope_Walk__run_Many_1 a0 a1 c0
theorem zp(hp:HP)(k0:Key)(g:k0.dp<dp)(hz:bF dp hp)(a0:(List Stmt))(a1:Int)(c0:Int)(r:(Bool×Int))(h:nC a0 a1 c0=some r):nA dp hp k0 a0 a1 c0 r:=by
 obtain ⟨n,hn⟩:=nW h
 exact (rF n).f_scope_Walk__run_Many_1 dp hp k0 g hz a0 a1 c0 r hn
abbrev Ub(a0:(List Stmt))(r:Int):bC×HP:=(.ret (I r),H0)
def qB:Option Int:=
 (nC a0 1 0).bind fun r1=>
 some r1.2
theorem uR(r:Int)(h:qB a0=some r):call G Ω0 E0 89 [(.l 111 (a0.map bK))] H0=some (Ub a0 r):=
 let A:=boxes 0 [(3,[(I 0)])] H0;bj G89 (cM<|.ex fun (r1:(Bool×Int))=>ao (.v (.b r1.1))<|ao (.h (boxes 0 [(3,[(I r1.2)])] H0))<|ao (.bx [(3,[(I r1.2)])])<|ao (.h H0)<|bt<|.nil) fun L=>ai tt<|lZ<|ew<|ba h fun r1 aK h=>have aK:call G Ω0 ⟨0+1,false⟩ 134 [(bh a0),(I 1),(.f 135 [(zQ 3)])] A=some (.ret (.b r1.1),boxes 0 [(3,[(I r1.2)])] H0):=ek (dB (bx1:=[(3,[(I 0)])]) (by kernel_rfl) (by kernel_rfl)) (dB (bx1:=[(3,[(I r1.2)])]) (by kernel_rfl) (by kernel_rfl)) (zp (0+1) A ⟨0,3⟩ (fR 0) (aU (eT 0)) a0 1 0 _ aK);eo aK (eT 0)<|ai (rfl:Z0)<|L h
end
section
variable (a0:Program)(aE:Int)(am:Nat)(z:(List Int))(dp:Nat)(hp:HP)(a1:(List (List Int)))(a2:Int)
def yP:Option ((Int×Nat×(List Int))⊕(Int×Nat×Bool×(List Int))):=
 if (am:Int)<(a0.Funcs.length:Int) then
  (a0.Funcs[am]?).bind fun y4=>
  if z.length + [aE].length≤1000000000 then
   (qB y4.Body).bind fun r7=>
   if IntKind.i64.wrap (aE+r7)=aE+r7 then
    if IntKind.i64.wrap ((am:Int)+1)=((am+1:Nat):Int) then
     some (.inl (aE+r7,am+1,z++[aE]))
    else none
   else none
  else none
 else
  some (.inr (aE,am,decide ((am:Int)<(a0.Funcs.length:Int)),z))
abbrev RJ(a0:Program)(a1:(List (List Int)))(a2:Int)(v:(Int×Nat×(List Int))):St:=⟨[(7,(.p ⟨dp,15⟩ 0)),(8,(I v.1)),(33,(b8 a0.Funcs)),(34,(zI a0.Funcs.length)),(35,(I (v.2.1:Int)))],[(15,[(I a0.ak.Many),(aX a0.ak.Grants),(aS a0.Speak),(aN a0.Ins),(aN a0.Outs),(cF a0.Vars),(b8 a0.Funcs),(bh a0.Main),(fZ a1),(I a2),(aG v.2.2),(dN ([]:List Event)),(aG (List.replicate a0.Vars.length 0)),(aG (List.replicate a0.Ins.length 0)),(I 0),(I 0),(I 0)])],hp⟩
abbrev IL(a0:Program)(a1:(List (List Int)))(a2:Int)(x:(Int×Nat×Bool×(List Int))):bc×St:=((.ex 0),⟨[(7,(.p ⟨dp,15⟩ 0)),(8,(I x.1)),(33,(b8 a0.Funcs)),(34,(zI a0.Funcs.length)),(35,(I (x.2.1:Int))),(36,(.b x.2.2.1))],[(15,[(I a0.ak.Many),(aX a0.ak.Grants),(aS a0.Speak),(aN a0.Ins),(aN a0.Outs),(cF a0.Vars),(b8 a0.Funcs),(bh a0.Main),(fZ a1),(I a2),(aG x.2.2.2),(dN ([]:List Event)),(aG (List.replicate a0.Vars.length 0)),(aG (List.replicate a0.Ins.length 0)),(I 0),(I 0),(I 0)])],hp⟩)
theorem Qz(hz:bF dp hp)(a0:Program)(a1:(List (List Int)))(a2:Int)(aE:Int)(am:Nat)(z:(List Int))(o:(Int×Nat×(List Int))⊕(Int×Nat×Bool×(List Int)))(h:yP a0 aE am z=some o):bQ ⟨dp,false⟩ YK (RJ dp hp a0 a1 a2) (IL dp hp a0 a1 a2) (aE,am,z) o:=
 let A:=[aE].map I;bZ (.or (bt<|ao (.n am)<|.ex fun (y4:Func)=>ao (.v (.a (cB y4)))<|ea<|ao (.l A)<|ea<|ao (.l ((z++[aE]).map I))<|ea<|xI fun r7=>ao (.i (aE+r7))<|ao (.i ((am+1:Nat):Int))<|.nil) (bf<|.nil)) fun L=>cw h (fun h3 h=>ai (aF h3)<|ai (rI am)<|ba h fun y4 h5 h=>ai (aB cS h5)<|ai ((by simp [cB]):(dY dp 10 [(38,(.a (cB y4))),(37,(.e (.a (cB y4)) 0)),(7,(.p ⟨dp,15⟩ 0)),(8,(I aE)),(33,(.l 91 (a0.Funcs.map cS))),(34,(I (a0.Funcs.length:Int))),(35,(I (am:Int)))] [(15,[(I a0.ak.Many),(.l 79 (a0.ak.Grants.map bT)),(.l 3 (a0.Speak.map I)),(.l 83 (a0.Ins.map aT)),(.l 83 (a0.Outs.map aT)),(.l 86 (a0.Vars.map dk)),(.l 91 (a0.Funcs.map cS)),(.l 111 (a0.Main.map bK)),(.l 25 (a1.map (db 3 I))),(I a2),(.o 3 (z.map I)),(.o 128 (([]:List Event).map bS)),(.o 3 ((List.replicate a0.Vars.length 0).map I)),(.o 3 ((List.replicate a0.Ins.length 0).map I)),(I 0),(I 0),(I 0)])])=true)<|ai ff<|ai (rN dp)<|ai tt<|ai (rN dp)<|ai (rN dp)<|ai (rfl:[(I aE)]=[aE].map I)<|ai ff<|ai (rN dp)<|ai (rN dp)<|ai (rN dp)<|aO h fun h6 h=>ai ((dS I (n:=1) (fun _=>rfl) [aE]):A.all (fun e=>e.nc==1)=true)<|ai ((eJ h6 (by decide)):((z.map I).length+A.length)*8≤140737488355328)<|ai ((eK h6):(z.map I).length+A.length≤maxLen)<|ai (cQ.symm:z.map (I)++[aE].map (I)=(z++[aE]).map I)<|ai ff<|ai (rN dp)<|ai (rN dp)<|ai (rN dp)<|bq h (uR y4.Body) fun r7 h=>aO h fun w9 h=>ai w9<|aO h fun cx h=>ai cx<|L h) (fun h3 h=>ai (aD h3)<|L h)
abbrev Wb(dp:Nat)(hp:HP)(a0:Program)(a1:(List (List Int)))(a2:Int)(r:Runner):bC×HP:=(.new (ad r),hp)
def CK:Option Runner:=
 if a0.Vars.length≤1000000000 then
  if a0.Ins.length≤1000000000 then
   (lp (fun v=>yP a0 v.1 v.2.1 v.2.2) (0,0,([]:List Int))).bind fun x3=>
   if x3.2.2.2.length + [x3.1].length≤1000000000 then
    some (⟨a0,a1,a2,x3.2.2.2++[x3.1],(⟨([]:List Event),List.replicate a0.Vars.length 0,List.replicate a0.Ins.length 0,0,0,0⟩:RunT)⟩:Runner)
   else none
  else none
 else none
theorem QA(hz:bF dp hp)(a0:Program)(a1:(List (List Int)))(a2:Int)(r:Runner)(h:CK a0 a1 a2=some r):call G Ω0 ⟨dp,false⟩ 64 [(.a (aL a0)),(.l 25 (a1.map (db 3 (I)))),(I a2)] hp=some (Wb dp hp a0 a1 a2 r):=
 let D:=List.replicate a0.Ins.length 0;let C:=List.replicate a0.Vars.length 0;let B:=(a0.Ins.length:Int);let A:=(a0.Vars.length:Int);Sw G64 (ahI<|ao (.i A)<|ao (.n a0.Vars.length)<|ao (.l (C.map I))<|bt<|ao (.i B)<|ao (.n a0.Ins.length)<|ao (.l (D.map I))<|pn<|ao (.i (a0.Funcs.length:Int))<|.ex fun (x3:(Int×Nat×Bool×(List Int)))=>ao (.cA (IL dp hp a0 a1 a2 x3))<|bt<|ao (.l ([x3.1].map I))<|ea<|ao (.l ((x3.2.2.2++[x3.1]).map I))<|cM<|.nil) fun L=>ai tt<|ai (rN dp)<|ai ((by simp [aL]):(((.a [(I a0.ak.Many),(.l 79 (a0.ak.Grants.map bT)),(.l 3 (a0.Speak.map I)),(.l 83 (a0.Ins.map aT)),(.l 83 (a0.Outs.map aT)),(.l 86 (a0.Vars.map dk)),(.l 91 (a0.Funcs.map cS)),(.l 111 (a0.Main.map bK)),(.l 25 (a1.map (db 3 I))),(I a2),.n,.n,.n,.n,(I 0),(I 0),(I 0)]):AV).deep dp&&(dY dp 15 [(14,(.a [(I a0.ak.Many),(.l 79 (a0.ak.Grants.map bT)),(.l 3 (a0.Speak.map I)),(.l 83 (a0.Ins.map aT)),(.l 83 (a0.Outs.map aT)),(.l 86 (a0.Vars.map dk)),(.l 91 (a0.Funcs.map cS)),(.l 111 (a0.Main.map bK)),(.l 25 (a1.map (db 3 I))),(I a2),.n,.n,.n,.n,(I 0),(I 0),(I 0)])),(13,(I a2)),(12,(.l 25 (a1.map (db 3 I)))),(11,(.a (aL a0))),(1,(.l 25 (a1.map (db 3 I)))),(2,(I a2)),(3,(.p ⟨dp,3⟩ 0))] [(3,(aL a0))]))=true)<|ai ff<|ai (rN dp)<|ai (rN dp)<|ai ff<|ai (rN dp)<|ai (rN dp)<|ai ff<|ai (rN dp)<|ai (rN dp)<|ai ff<|ai (rN dp)<|ai (rN dp)<|ai ((by simp [aL]):(([21,25]:List Nat).all (ee dp (⟨[(3,(.p ⟨dp,3⟩ 0)),(7,(.p ⟨dp,15⟩ 0))],[(3,(aL a0)),(15,[(I a0.ak.Many),(.l 79 (a0.ak.Grants.map bT)),(.l 3 (a0.Speak.map I)),(.l 83 (a0.Ins.map aT)),(.l 83 (a0.Outs.map aT)),(.l 86 (a0.Vars.map dk)),(.l 91 (a0.Funcs.map cS)),(.l 111 (a0.Main.map bK)),(.l 25 (a1.map (db 3 I))),(I a2),(.o 3 (([]:List Int).map I)),(.o 128 (([]:List Event).map bS)),(.o 3 (([]:List Int).map I)),(.o 3 (([]:List Int).map I)),(I 0),(I 0),(I 0)])],H0⟩:St))&&true)=true)<|ai (ji dp [21,25] [15] 15 0)<|ai (ji dp [21,25] [15] 15 0)<|ai (ji dp [21,25] [15] 3 5)<|ai (rN dp)<|ai tt<|ai (aP dk a0.Vars)<|ai tt<|ai (rfl:A=A)<|aO h fun h1 h=>ai ((Cr h1 (by decide)):a0.Vars.length*8≤140737488355328)<|ai ((Ct h1):a0.Vars.length≤maxLen)<|ai ((sc ..).symm:List.replicate a0.Vars.length (I 0)=C.map I)<|ai tt<|ai (ji dp [21,25] [15] 3 3)<|ai (rN dp)<|ai tt<|ai (aP aT a0.Ins)<|ai tt<|ai (rfl:B=B)<|aO h fun h2 h=>ai ((Cr h2 (by decide)):a0.Ins.length*8≤140737488355328)<|ai ((Ct h2):a0.Ins.length≤maxLen)<|ai ((sc ..).symm:List.replicate a0.Ins.length (I 0)=D.map I)<|ai tt<|ai (ji dp [25] [15] 15 0)<|ai (ji dp [25] [15] 15 11)<|ai (ji dp [25] [15] 15 12)<|ai (rN dp)<|ai ff<|ai (rN dp)<|ai (rN dp)<|mw<|ai (rN dp)<|ai (rN dp)<|ai (rN dp)<|ai (aP cS a0.Funcs)<|bq h (dT (fun v=>Qz dp hp hz a0 a1 a2 v.1 v.2.1 v.2.2) (0,0,([]:List Int))) fun x3 h=>let E:=[x3.1].map I;ai (rN dp)<|ai (rfl:[(I x3.1)]=[x3.1].map I)<|ai ff<|ai (rN dp)<|ai (rN dp)<|ai (rN dp)<|aO h fun h5 h=>ai ((dS I (n:=1) (fun _=>rfl) [x3.1]):E.all (fun e=>e.nc==1)=true)<|ai ((eJ h5 (by decide)):((x3.2.2.2.map I).length+E.length)*8≤140737488355328)<|ai ((eK h5):(x3.2.2.2.map I).length+E.length≤maxLen)<|ai (cQ.symm:x3.2.2.2.map (I)++[x3.1].map (I)=(x3.2.2.2++[x3.1]).map I)<|ai ff<|ai (rN dp)<|ai (rN dp)<|ai (rN dp)<|ai tt<|L h
end
section
variable (dp:Nat)(hp:HP)(k0:Key)(c0:Runner)(a0:Int)
abbrev GY(dp:Nat)(hp:HP)(k0:Key)(c0:Runner)(a0:Int)(r:Int):bC×HP:=(.ret (I r),ar hp k0 (ad c0))
def gN:Option Int:=
 (cU a0).bind fun j1=>
 (c0.first[j1]?).bind fun y3=>
 some y3
theorem vH(g:k0.dp<dp)(hz:bF dp hp)(c0:Runner)(a0:Int)(r:Int)(h:gN c0 a0=some r):call G Ω0 ⟨dp,true⟩ 69 [(.p k0 0),(I a0)] (ar hp k0 (ad c0))=some (GY dp hp k0 c0 a0 r):=
 let B:=aj g;let A:=aA hp k0 (ad c0);bj G69 (bf<|ao (.l (ad c0))<|xN fun j1=>bf<|ao (.l (ad c0))<|xI fun y3=>bf<|ao (.l (ad c0))<|ao (.v (I y3))<|.nil) fun L=>ai B<|ai A<|dM h fun j1 h2 h=>ai h2<|ai B<|ai A<|ba h fun y3 h4 h=>ai (aB I h4)<|ai B<|ai A<|ai (aB I h4)<|L h
abbrev Ii(dp:Nat)(hp:HP)(k0:Key)(c0:Runner)(r:(Bool×Runner)):bC×HP:=(.ret (.b r.1),ar hp k0 (ad r.2))
def mj:Option (Bool×Runner):=
 if (c0.bz.Steps==c0.fuel)=true then
  some (false,(⟨c0.p,c0.ins,c0.fuel,c0.first,(⟨c0.bz.Events,c0.bz.Vars,c0.bz.Taken,c0.bz.Steps,2,c0.bz.Stop⟩:RunT)⟩:Runner))
 else
  if IntKind.i64.wrap (c0.bz.Steps+1)=c0.bz.Steps+1 then
   some (true,(⟨c0.p,c0.ins,c0.fuel,c0.first,(⟨c0.bz.Events,c0.bz.Vars,c0.bz.Taken,c0.bz.Steps+1,c0.bz.End,c0.bz.Stop⟩:RunT)⟩:Runner))
  else none
theorem wA(g:k0.dp<dp)(hz:bF dp hp)(c0:Runner)(r:(Bool×Runner))(h:mj c0=some r):call G Ω0 ⟨dp,false⟩ 149 [(.p k0 0)] (ar hp k0 (ad c0))=some (Ii dp hp k0 c0 r):=
 let D:=(ad c0).set 15 (I 2);let C:=(ad c0).set 14 (I (c0.bz.Steps+1));let B:=aj g;let A:=aA hp k0 (ad c0);bj aoe (bf<|ao (.l (ad c0))<|bf<|ao (.l (ad c0))<|.or (gZ<|ao (.l (ad c0))<|bf<|ao (.h (ar hp k0 D))<|.nil) (IG<|ao (.l (ad c0))<|ao (.i (c0.bz.Steps+1))<|bf<|ao (.l (ad c0))<|bf<|ao (.h (ar hp k0 C))<|.nil)) fun L=>mu<|ai B<|ai A<|fH<|ai B<|ai A<|ai tt<|bB h (fun h1 h=>ai h1<|ai ff<|ai B<|ai A<|ai tt<|ai B<|ai (bA hp k0 (ad c0) D)<|L h) (fun h1 h=>ai h1<|ai B<|ai A<|aO h fun w2 h=>ai w2<|ai ff<|ai B<|ai A<|ai tt<|ai B<|ai (bA hp k0 (ad c0) C)<|L h)
end
section
variable (dp:Nat)(hp:HP)(k0:Key)(c0:aI)(c1:Runner)(c2:aW)(a0:ay)
abbrev D1(dp:Nat)(hp:HP)(k0:Key)(k1:Key)(k2:Key)(c0:aI)(c1:Runner)(c2:aW)(r:Level):bC×HP:=(.ret (.a [(.l 4 (r.Readers.map AV.b)),(.l 4 (r.Writers.map AV.b))]),bn hp k0 k1 k2 c0 c1 c2)
def ft(c1:Runner)(c2:aW):Option Level:=
 if IntKind.i64.wrap ((c0.places.length:Int) - 1)=(c0.places.length:Int) - 1 then
  (cU ((c0.places.length:Int) - 1)).bind fun j2=>
  (c0.places[j2]?).bind fun y4=>
  some y4
 else none
theorem jX(g:k0.dp<dp)(k1:Key)(q:k1.dp<dp)(k2:Key)(t:k2.dp<dp)(k:k0≠k1)(j:k0≠k2)(m:k1≠k2)(hz:bF dp hp)(c0:aI)(c1:Runner)(c2:aW)(r:Level)(h:ft c0 c1 c2=some r):call G Ω0 ⟨dp,true⟩ 198 [(.p k0 0)] (bn hp k0 k1 k2 c0 c1 c2)=some (D1 dp hp k0 k1 k2 c0 c1 c2 r):=
 let D:=(c0.places.length:Int);let C:=aj g;let B:=dc k1 k2 c0;let A:=(eb k j:(bn hp k0 k1 k2 c0 c1 c2) k0=some B);bj aoN (bf<|ao (.l B)<|bf<|ao (.l B)<|bf<|ao (.l B)<|ao (.i D)<|ao (.i (D - 1))<|xN fun j2=>bf<|ao (.l B)<|.ex fun (y4:Level)=>let E:=[(aw y4.Readers),(aw y4.Writers)];ao (.v (.a E))<|bf<|ao (.l B)<|ao (.v (.a E))<|cM<|.nil) fun L=>ai ((by simp [aV g,bm g,aV q,bm q,aV t,bm t]):(dY dp 2 [(0,(.p k0 0))] [])=true)<|fH<|ai C<|ai A<|fH<|ai C<|ai A<|ai tt<|ai C<|ai A<|ai (aP aC c0.places)<|ai tt<|aO h fun w1 h=>ai w1<|ai tt<|dM h fun j2 h3 h=>ai h3<|ai C<|ai A<|ba h fun y4 h5 h=>ai (aB aC h5)<|ai C<|ai A<|ai (aB aC h5)<|ai (rfl:dp=dp)<|ai (rN dp)<|ai tt<|ai (rN dp)<|ai (rN dp)<|L h
abbrev GZ(dp:Nat)(hp:HP)(k0:Key)(k1:Key)(k2:Key)(c0:aI)(c1:Runner)(c2:aW)(a0:ay)(r:Level):bC×HP:=(.ret (.a [(.l 4 (r.Readers.map AV.b)),(.l 4 (r.Writers.map AV.b))]),bn hp k0 k1 k2 c0 c1 c2)
def eR:Option Level:=
 (ft c0 c1 c2).bind fun r1=>
 (qR c0.p c0.vars a0).bind fun r3=>
 (nr r1 r3).bind fun r5=>
 some r5
theorem gv(g:k0.dp<dp)(k1:Key)(q:k1.dp<dp)(k2:Key)(t:k2.dp<dp)(k:k0≠k1)(j:k0≠k2)(m:k1≠k2)(hz:bF dp hp)(c0:aI)(c1:Runner)(c2:aW)(a0:ay)(r:Level)(h:eR c0 c1 c2 a0=some r):call G Ω0 ⟨dp,true⟩ 193 [(.p k0 0),(.a (bL a0))] (bn hp k0 k1 k2 c0 c1 c2)=some (GZ dp hp k0 k1 k2 c0 c1 c2 a0 r):=
 let D:=aj g;let C:=dc k1 k2 c0;let B:=boxes dp [] (bn hp k0 k1 k2 c0 c1 c2);let A:=(eb k j:(bn hp k0 k1 k2 c0 c1 c2) k0=some C);bj aoI (.ex fun (r1:Level)=>ao (.v (.a [(aw r1.Readers),(aw r1.Writers)]))<|ao (.h B)<|bf<|ao (.l C)<|bf<|ao (.l C)<|gZ<|ao (.l C)<|.ex fun (r3:Level)=>ao (.v (.a [(aw r3.Readers),(aw r3.Writers)]))<|.ex fun (r5:Level)=>ao (.v (.a [(aw r5.Readers),(aw r5.Writers)]))<|cM<|.nil) fun L=>ai ((by simp [bL,aV g,bm g,aV q,bm q,aV t,bm t]):(((.a (bL a0)):AV).deep dp&&(dY dp 3 [(0,(.p k0 0)),(1,(.a (bL a0)))] []))=true)<|ai ((by simp [bL,aV g,bm g,aV q,bm q,aV t,bm t]):(dY dp 4 [(3,(.p ⟨dp,3⟩ 0)),(0,(.p k0 0)),(1,(.a (bL a0)))] [(3,(bL a0))])=true)<|eH<|ba h fun r1 aK h=>have aK:=mc g q t k j m (jX (dp+1) B k0 (aJ g) k1 (aJ q) k2 (aJ t) k j m (aU (an t (an q (an g hz)))) c0 c1 c2 _ aK);ai aK<|fH<|ai D<|ai A<|fH<|ai D<|ai A<|ai tt<|ai (rN dp)<|ai tt<|ai D<|ai A<|bq h (Jz c0.p c0.vars a0) fun r3 h=>ai tt<|ai ((by simp [AV.off,AV.tZ,PB,PC,PD,AJ]):((.a [(.l 4 (r3.Readers.map AV.b)),(.l 4 (r3.Writers.map AV.b))]):AV).off [113]=true)<|bq h (rC r1 r3) fun r5 h=>ai (rfl:dp=dp)<|ai (rN dp)<|ai tt<|ai (rN dp)<|ai (rN dp)<|L h
end
section
variable (dp:Nat)(hp:HP)(k0:Key)(c0:aI)(c1:Runner)(c2:aW)(a0:Int)(a1:Level)
abbrev Fz(dp:Nat)(hp:HP)(k0:Key)(k1:Key)(k2:Key)(c0:aI)(c1:Runner)(c2:aW)(a0:Int)(a1:Level)(r:Bool):bC×HP:=(.ret (.b r),bn hp k0 k1 k2 c0 c1 c2)
def kC:Option Bool:=
 (ft c0 c1 c2).bind fun r1=>
 (cU a0).bind fun j3=>
 (c0.vars[j3]?).bind fun y5=>
 (l6 r1 y5).bind fun r7=>
 if r7=true then
  (c0.p.Vars[j3]?).bind fun bG=>
  if bG.Known=true then
   (qv c0.p.ak bG.Label).bind fun cg=>
   (l6 a1 cg).bind fun bY=>
   some bY
  else
   some true
 else
  some false
theorem uA(g:k0.dp<dp)(k1:Key)(q:k1.dp<dp)(k2:Key)(t:k2.dp<dp)(k:k0≠k1)(j:k0≠k2)(m:k1≠k2)(hz:bF dp hp)(c0:aI)(c1:Runner)(c2:aW)(a0:Int)(a1:Level)(r:Bool)(h:kC c0 c1 c2 a0 a1=some r):call G Ω0 ⟨dp,true⟩ 224 [(.p k0 0),(I a0),(.a [(.l 4 (a1.Readers.map AV.b)),(.l 4 (a1.Writers.map AV.b))])] (bn hp k0 k1 k2 c0 c1 c2)=some (Fz dp hp k0 k1 k2 c0 c1 c2 a0 a1 r):=
 let D:=aj g;let C:=boxes dp [] (bn hp k0 k1 k2 c0 c1 c2);let B:=dc k1 k2 c0;let A:=(eb k j:(bn hp k0 k1 k2 c0 c1 c2) k0=some B);bj ao4 (.ex fun (r1:Level)=>ao (.v (.a [(aw r1.Readers),(aw r1.Writers)]))<|ao (.h C)<|bf<|ao (.l B)<|xN fun j3=>bf<|ao (.l B)<|.ex fun (y5:Level)=>let E:=[(aw y5.Readers),(aw y5.Writers)];ao (.v (.a E))<|bf<|ao (.l B)<|ao (.v (.a E))<|xB fun r7=>.or (IG<|ao (.l B)<|ao (.n j3)<|.ex fun (bG:Var)=>ao (.v (.a (jk bG)))<|ea<|.or (bt<|bt<|bt<|bt<|bt<|bt<|bt<|bf<|ao (.l B)<|mg<|.ex fun (cg:Level)=>ao (.v (.a [(aw cg.Readers),(aw cg.Writers)]))<|bt<|xB fun bY=>bf<|.nil) (bf<|bf<|bf<|bf<|bf<|bf<|bf<|bf<|bf<|bf<|bt<|.nil)) (bt<|.nil)) fun L=>ai ((by simp [aV g,bm g,aV q,bm q,aV t,bm t]):(((.a [(.l 4 (a1.Readers.map AV.b)),(.l 4 (a1.Writers.map AV.b))]):AV).deep dp&&(dY dp 5 [(0,(.p k0 0)),(1,(I a0)),(2,(.a [(.l 4 (a1.Readers.map AV.b)),(.l 4 (a1.Writers.map AV.b))]))] []))=true)<|eH<|ba h fun r1 aK h=>have aK:=mc g q t k j m (jX (dp+1) C k0 (aJ g) k1 (aJ q) k2 (aJ t) k j m (aU (an t (an q (an g hz)))) c0 c1 c2 _ aK);ai aK<|fH<|ai D<|ai A<|aZ<|dM h fun j3 h4 h=>ai h4<|ai D<|ai A<|ba h fun y5 h6 h=>ai (aB aC h6)<|ai tt<|ai D<|ai A<|ai (aB aC h6)<|ai tt<|bq h (qt r1 y5) fun r7 h=>bB h (fun h9 h=>ai (az not h9)<|ai D<|ai A<|ai h4<|ba h fun bG bD h=>ai (aB dk bD)<|ai ((by simp [jk,aV g,bm g,aV q,bm q,aV t,bm t]):(dY dp 7 [(26,(.a (jk bG))),(25,(.e (.a (jk bG)) 0)),(24,(I a0)),(23,(.l 86 (c0.p.Vars.map dk))),(22,(.p k0 6)),(21,(.p k0 1)),(20,(.p k0 0)),(19,(.p k0 0)),(0,(.p k0 0)),(1,(I a0)),(5,(.p ⟨dp,5⟩ 0))] [(5,[(.l 4 (a1.Readers.map AV.b)),(.l 4 (a1.Writers.map AV.b))])])=true)<|ai (rfl:dp=dp)<|ai (rN dp)<|ai tt<|ai (rN dp)<|aZ<|ai (rN dp)<|eH<|bB h (fun b0 h=>let F:=az not b0;ai (g0 F)<|ai (rN dp)<|wc F<|wc F<|ai tt<|ai (g0 F)<|ai D<|ai A<|wc F<|ai (rN dp)<|Db F<|bq h (uN c0.p.ak bG.Label) fun cg h=>Db F<|bq h (qt a1 cg) fun bY h=>ai F<|L h) (fun b0 h=>let H:=az not b0;fy H<|fy H<|fy H<|iD H<|L h)) (fun h9 h=>ai (az not h9)<|L h)
end
section
variable (c0:aI)(c1:Runner)(c2:aW)(a0:Stmt)(y3:Func)(a8:(List Level))(ac:Nat)(hp:HP)(k0:Key)(k1:Key)(k2:Key)(dp:Nat)
def kv:Option (((List Level)×Nat)⊕(Unit⊕((List Level)×Nat×Bool))):=
 if (ac:Int)<(a0.Args.length:Int) then
  (a0.Args[ac]?).bind fun y6=>
  (eR c0 c1 c2 y6).bind fun r8=>
  if a8.length + [r8].length≤1000000000 then
   (y3.Params[ac]?).bind fun bo=>
   ((a8++[r8])[ac]?).bind fun cd=>
   (kC c0 c1 c2 bo cd).bind fun bY=>
   if bY=true then
    if IntKind.i64.wrap ((ac:Int)+1)=((ac+1:Nat):Int) then
     some (.inl (a8++[r8],ac+1))
    else none
   else
    some (.inr (.inl ()))
  else none
 else
  some (.inr (.inr (a8,ac,decide ((ac:Int)<(a0.Args.length:Int)))))
abbrev BR(c0:aI)(c1:Runner)(c2:aW)(a0:Stmt)(y3:Func)(v:((List Level)×Nat)):St:=⟨[(0,(.p k0 0)),(5,(aS y3.Params)),(6,(av v.1)),(22,(cL a0.Args)),(23,(zI a0.Args.length)),(24,(I (v.2:Int)))],[],bn hp k0 k1 k2 c0 c1 c2⟩
abbrev nT(c0:aI)(c1:Runner)(c2:aW)(a0:Stmt)(y3:Func)(x:(Unit⊕((List Level)×Nat×Bool))):bc×St:=match x with | .inl ()=>(.ret,⟨[(4,(.b false))],[],bn hp k0 k1 k2 c0 c1 c2⟩) | .inr (z1,z2,z3)=>((.ex 0),⟨[(0,(.p k0 0)),(5,(aS y3.Params)),(6,(av z1)),(22,(cL a0.Args)),(23,(zI a0.Args.length)),(24,(I (z2:Int))),(25,(.b z3))],[],bn hp k0 k1 k2 c0 c1 c2⟩)
theorem Bs(hp:HP)(k0:Key)(g:k0.dp<dp)(k1:Key)(q:k1.dp<dp)(k2:Key)(t:k2.dp<dp)(k:k0≠k1)(j:k0≠k2)(m:k1≠k2)(hz:bF dp hp)(c0:aI)(c1:Runner)(c2:aW)(a0:Stmt)(y3:Func)(a8:(List Level))(ac:Nat)(o:((List Level)×Nat)⊕(Unit⊕((List Level)×Nat×Bool)))(h:kv c0 c1 c2 a0 y3 a8 ac=some o):bQ ⟨dp,false⟩ U6 (BR hp k0 k1 k2 c0 c1 c2 a0 y3) (nT hp k0 k1 k2 c0 c1 c2 a0 y3) (a8,ac) o:=
 let B:=rI ac;let A:=bn hp k0 k1 k2 c0 c1 c2;bZ (.or (bt<|ao (.n ac)<|.ex fun (y6:ay)=>ao (.v (.a (bL y6)))<|ea<|.ex fun (r8:Level)=>ao (.v (.a [(aw r8.Readers),(aw r8.Writers)]))<|ao (.h (boxes dp [(8,(bL y6))] A))<|ao (.l ([r8].map aC))<|ao (.l ((a8++[r8]).map aC))<|ao (.n ac)<|xI fun bo=>ao (.n ac)<|.ex fun (cd:Level)=>let C:=[(aw cd.Readers),(aw cd.Writers)];ao (.v (.a C))<|ao (.v (.a C))<|xB fun bY=>ao (.h (boxes dp [] A))<|.or (bf<|ao (.i ((ac+1:Nat):Int))<|.nil) (bt<|.nil)) (bf<|.nil)) fun L=>cw h (fun h5 h=>ai (aF h5)<|ai B<|ba h fun y6 h7 h=>ai (dR bw h7 (di _))<|ai ((by simp [bL,aV g,bm g,aV q,bm q,aV t,bm t]):(dY dp 8 [(28,(.a (bL y6))),(27,(.e (.a (bL y6)) 0)),(26,(I (ac:Int))),(0,(.p k0 0)),(5,(.l 3 (y3.Params.map I))),(6,(.o 113 (a8.map aC))),(22,(.l 89 (a0.Args.map bw))),(23,(I (a0.Args.length:Int))),(24,(I (ac:Int)))] [])=true)<|ai ff<|ai (rN dp)<|ai tt<|ai (rN dp)<|ai (rN dp)<|ai tt<|ba h fun r8 bJ h=>let D:=[r8].map aC;have bJ:=mc g q t k j m (gv (dp+1) (boxes dp [(8,(bL y6))] A) k0 (aJ g) k1 (aJ q) k2 (aJ t) k j m (aU (an t (an q (an g hz)))) c0 c1 c2 y6 _ bJ);ai bJ<|ai (rfl:[(.a [(aw r8.Readers),(aw r8.Writers)])]=[r8].map aC)<|ai ff<|aO h fun a4 h=>ai ((dS aC (n:=2) (fun _=>rfl) [r8]):D.all (fun e=>e.nc==2)=true)<|ai ((eJ a4 (by decide)):((a8.map aC).length+D.length)*48≤140737488355328)<|ai ((eK a4):(a8.map aC).length+D.length≤maxLen)<|ai (cQ.symm:a8.map aC++[r8].map aC=(a8++[r8]).map aC)<|fH<|ai B<|ba h fun bo b0 h=>ai (aB I b0)<|fH<|ai B<|ba h fun cd b6 h=>ai (aB aC b6)<|ai tt<|ai (aB aC b6)<|aZ<|ba h fun bY bU h=>have bU:=mc g q t k j m (uA (dp+1) (boxes dp [] A) k0 (aJ g) k1 (aJ q) k2 (aJ t) k j m (aU (an t (an q (an g hz)))) c0 c1 c2 bo cd _ bU);ai bU<|bB h (fun ca h=>ai (az not ca)<|aO h fun cs h=>ai cs<|L h) (fun ca h=>ai (az not ca)<|L h)) (fun h5 h=>ai (aD h5)<|L h)
def kx(ap:((List Level)×Nat×Bool))(ae:Nat)(v1_k0_9:(List Level)):Option ((Nat×(List Level))⊕(Nat×Bool×(List Level))):=
 if (ae:Int)<(y3.Params.length:Int) then
  (y3.Params[ae]?).bind fun y9=>
  (ap.1[ae]?).bind fun bo=>
  (cU y9).bind fun j13=>
  (v1_k0_9[j13]?).bind fun bv=>
  if IntKind.i64.wrap ((ae:Int)+1)=((ae+1:Nat):Int) then
   some (.inl (ae+1,v1_k0_9.set j13 bo))
  else none
 else
  some (.inr (ae,decide ((ae:Int)<(y3.Params.length:Int)),v1_k0_9))
abbrev BS(c0:aI)(c1:Runner)(c2:aW)(y3:Func)(ap:((List Level)×Nat×Bool))(v:(Nat×(List Level))):St:=⟨[(0,(.p k0 0)),(6,(av ap.1)),(47,(aS y3.Params)),(48,(zI y3.Params.length)),(49,(I (v.1:Int)))],[],ar (ar (ar hp k0 ((((dL c0).set 0 (.p k1 0)).set 9 (av v.2)).set 11 (.p k2 0))) k1 (ad c1)) k2 (aM c2)⟩
abbrev tX(c0:aI)(c1:Runner)(c2:aW)(y3:Func)(ap:((List Level)×Nat×Bool))(x:(Nat×Bool×(List Level))):bc×St:=((.ex 2),⟨[(0,(.p k0 0)),(6,(av ap.1)),(47,(aS y3.Params)),(48,(zI y3.Params.length)),(49,(I (x.1:Int))),(50,(.b x.2.1))],[],ar (ar (ar hp k0 ((((dL c0).set 0 (.p k1 0)).set 9 (av x.2.2)).set 11 (.p k2 0))) k1 (ad c1)) k2 (aM c2)⟩)
theorem Bt(hp:HP)(k0:Key)(g:k0.dp<dp)(k1:Key)(k2:Key)(k:k0≠k1)(j:k0≠k2)(hz:bF dp hp)(c0:aI)(c1:Runner)(c2:aW)(y3:Func)(ap:((List Level)×Nat×Bool))(ae:Nat)(v1_k0_9:(List Level))(o:(Nat×(List Level))⊕(Nat×Bool×(List Level)))(h:kx y3 ap ae v1_k0_9=some o):bQ ⟨dp,false⟩ U7 (BS hp k0 k1 k2 c0 c1 c2 y3 ap) (tX hp k0 k1 k2 c0 c1 c2 y3 ap) (ae,v1_k0_9) o:=
 let D:=aj g;let C:=(dL c0).set 0 (.p k1 0);let A:=(C.set 9 (av v1_k0_9)).set 11 (.p k2 0);let B:=(eb k j:(ar (ar (ar hp k0 A) k1 (ad c1)) k2 (aM c2)) k0=some A);bZ (.or (bt<|ao (.n ae)<|xI fun y9=>bf<|ao (.l A)<|ao (.n ae)<|.ex fun (bo:Level)=>let E:=[(aw bo.Readers),(aw bo.Writers)];ao (.v (.a E))<|ao (.v (.a E))<|xN fun j13=>let F:=v1_k0_9.set j13 bo;bf<|ao (.l A)<|.ex fun (bv:Level)=>let G:=[(aw bv.Readers),(aw bv.Writers)];ao (.v (.a G))<|bf<|ao (.l A)<|ao (.v (.a G))<|ao (.l (F.map aC))<|bf<|ao (.l A)<|bf<|ao (.h (ar (ar (ar hp k0 ((C.set 9 (av F)).set 11 (.p k2 0))) k1 (ad c1)) k2 (aM c2)))<|ao (.i ((ae+1:Nat):Int))<|.nil) (bf<|.nil)) fun L=>cw h (fun h8 h=>ai (aF h8)<|ai (rI ae)<|ba h fun y9 a4 h=>ai (aB I a4)<|fH<|ai D<|ai B<|fH<|ai (rI ae)<|ba h fun bo b0 h=>ai (aB aC b0)<|ai tt<|ai (aB aC b0)<|ai tt<|dM h fun j13 b6 h=>let H:=(C.set 9 (av (v1_k0_9.set j13 bo))).set 11 (.p k2 0);ai b6<|ai D<|ai B<|ba h fun bv b3 h=>ai (aB aC b3)<|ai ff<|ai D<|ai B<|ai (aB aC b3)<|ai (map_set .. : (v1_k0_9.map aC).set j13 (.a [(aw bo.Readers),(aw bo.Writers)])=(v1_k0_9.set j13 bo).map aC)<|ai D<|ai B<|ai D<|ai (dj (dh j) (dj (dh k) (bA ..)):ar (ar (ar (ar hp k0 A) k1 (ad c1)) k2 (aM c2)) k0 H=ar (ar (ar hp k0 H) k1 (ad c1)) k2 (aM c2))<|aO h fun cl h=>ai cl<|L h) (fun h8 h=>ai (aD h8)<|L h)
abbrev D2(dp:Nat)(hp:HP)(k0:Key)(k1:Key)(k2:Key)(c0:aI)(c1:Runner)(c2:aW)(a0:Stmt)(r:(Bool×aI)):bC×HP:=(.ret (.b r.1),bn hp k0 k1 k2 r.2 c1 c2)
def lN:Option (Bool×aI):=
 (cU a0.Other).bind fun j1=>
 (c0.p.Funcs[j1]?).bind fun y3=>
 (lp (fun v=>kv c0 c1 c2 a0 y3 v.1 v.2) (([]:List Level),0)).bind fun x5=>match x5 with
 | .inl bu=>
  some (false,c0)
 | .inr ap=>
  (lp (fun v=>kx y3 ap v.1 v.2) (0,c0.vars)).bind fun x8=>
  some (true,(⟨(),c0.p,x8.2.2,c0.places,()⟩:aI))
theorem Bu(hp:HP)(k0:Key)(g:k0.dp<dp)(k1:Key)(q:k1.dp<dp)(k2:Key)(t:k2.dp<dp)(k:k0≠k1)(j:k0≠k2)(m:k1≠k2)(hz:bF dp hp)(c0:aI)(c1:Runner)(c2:aW)(a0:Stmt)(r:(Bool×aI))(h:lN c0 c1 c2 a0=some r):call G Ω0 ⟨dp,false⟩ 190 [(.p k0 0),(.a (ax a0))] (bn hp k0 k1 k2 c0 c1 c2)=some (D2 dp hp k0 k1 k2 c0 c1 c2 a0 r):=
 bj aoF (bf<|ao (.l (dc k1 k2 c0))<|bt<|xN fun j1=>.ex fun (y3:Func)=>ao (.v (.a (cB y3)))<|bt<|ao (.i (a0.Args.length:Int))<|.or (.ex fun (bu:Unit)=>ao (.cA (nT hp k0 k1 k2 c0 c1 c2 a0 y3 (.inl bu)))<|.nil) (.ex fun (ap:((List Level)×Nat×Bool))=>ao (.cA (nT hp k0 k1 k2 c0 c1 c2 a0 y3 (.inr ap)))<|ao (.i (y3.Params.length:Int))<|.ex fun (x8:(Nat×Bool×(List Level)))=>ao (.cA (tX hp k0 k1 k2 c0 c1 c2 y3 ap x8))<|.nil)) fun L=>ai ((by simp [ax,aV g,bm g,aV q,bm q,aV t,bm t]):(((.a (ax a0)):AV).deep dp&&(dY dp 3 [(0,(.p k0 0)),(1,(.a (ax a0)))] []))=true)<|mu<|ai (aj g)<|ai (eb k j:(bn hp k0 k1 k2 c0 c1 c2) k0=some (dc k1 k2 c0))<|aZ<|ai (rN dp)<|ai tt<|dM h fun j1 h2 h=>ai h2<|ba h fun y3 h4 h=>ai (aB cS h4)<|ai (rN dp)<|ai (aP bw a0.Args)<|dv h (dT (fun v=>Bs dp hp k0 g k1 q k2 t k j m hz c0 c1 c2 a0 y3 v.1 v.2) (([]:List Level),0)) (fun bu h=>L h) (fun ap h=>ai (aP I y3.Params)<|bq h (dT (fun v=>Bt dp hp k0 g k1 k2 k j hz c0 c1 c2 y3 ap v.1 v.2) (0,c0.vars)) fun x8 h=>L h)
end
section
variable (dp:Nat)(hp:HP)(k0:Key)
abbrev BT(dp:Nat)(hp:HP)(k0:Key)(k1:Key)(k2:Key)(c0:aI)(c1:Runner)(c2:aW)(a0:Int)(r:(Bool×Runner)):bC×HP:=(.ret (.b r.1),bn hp k0 k1 k2 c0 r.2 c2)
def ix(c0:aI)(c1:Runner)(c2:aW)(a0:Int):Option (Bool×Runner):=
 some (false,(⟨c1.p,c1.ins,c1.fuel,c1.first,(⟨c1.bz.Events,c1.bz.Vars,c1.bz.Taken,c1.bz.Steps,3,a0⟩:RunT)⟩:Runner))
theorem l9(g:k0.dp<dp)(k1:Key)(q:k1.dp<dp)(k2:Key)(t:k2.dp<dp)(k:k0≠k1)(j:k0≠k2)(m:k1≠k2)(hz:bF dp hp)(c0:aI)(c1:Runner)(c2:aW)(a0:Int)(r:(Bool×Runner))(h:ix c0 c1 c2 a0=some r):call G Ω0 ⟨dp,false⟩ 153 [(.p k0 0),(I a0)] (bn hp k0 k1 k2 c0 c1 c2)=some (BT dp hp k0 k1 k2 c0 c1 c2 a0 r):=
 let H:=aj q;let C:=bn hp k0 k1 k2 c0 c1 c2;let E:=(eb k j:C k0=some (dc k1 k2 c0));let B:=ar hp k0 (dc k1 k2 c0);let A:=(ad c1).set 15 (I 3);let F:=A.set 16 (I a0);let D:=ar (ar B k1 A) k2 (aM c2);bj aoi (bf<|ao (.l (dc k1 k2 c0))<|bf<|ao (.l (dc k1 k2 c0))<|bf<|ao (.l (ad c1))<|bf<|ao (.h D)<|bf<|ao (.l A)<|bf<|ao (.h (ar (ar B k1 F) k2 (aM c2)))<|.nil) fun L=>fH<|ai (aj g)<|ai E<|fH<|ai (aj g)<|ai E<|aZ<|aZ<|ai tt<|ai ff<|ai H<|ai (PA m:C k1=some (ad c1))<|ai tt<|ai H<|ai (dj (dh m) (bA ..):ar C k1 A=ar (ar B k1 A) k2 (aM c2))<|mw<|ai H<|ai (PA m:D k1=some A)<|ai tt<|ai H<|ai (dj (dh m) (bA ..):ar D k1 F=ar (ar B k1 F) k2 (aM c2))<|L h
end
section
variable (c0:Runner)(a0:Stmt)(a9:(List Int))(ah:Nat)(dp:Nat)(hp:HP)(k0:Key)(x1:((List Int)×Nat×Bool))(y5:Func)(af:Nat)
def mH:Option (((List Int)×Nat)⊕((List Int)×Nat×Bool)):=
 if (ah:Int)<(a0.Args.length:Int) then
  (a0.Args[ah]?).bind fun y2=>
  (oS y2 c0.bz.Vars).bind fun r4=>
  if a9.length + [r4].length≤1000000000 then
   if IntKind.i64.wrap ((ah:Int)+1)=((ah+1:Nat):Int) then
    some (.inl (a9++[r4],ah+1))
   else none
  else none
 else
  some (.inr (a9,ah,decide ((ah:Int)<(a0.Args.length:Int))))
abbrev EZ(c0:Runner)(a0:Stmt)(v:((List Int)×Nat)):St:=⟨[(0,(.p k0 0)),(3,(.p ⟨dp,3⟩ 0)),(4,(aG v.1)),(10,(cL a0.Args)),(11,(zI a0.Args.length)),(12,(I (v.2:Int)))],[(3,(ax a0))],ar hp k0 (ad c0)⟩
abbrev wB(c0:Runner)(a0:Stmt)(x:((List Int)×Nat×Bool)):bc×St:=((.ex 0),⟨[(0,(.p k0 0)),(3,(.p ⟨dp,3⟩ 0)),(4,(aG x.1)),(10,(cL a0.Args)),(11,(zI a0.Args.length)),(12,(I (x.2.1:Int))),(13,(.b x.2.2))],[(3,(ax a0))],ar hp k0 (ad c0)⟩)
theorem D3(g:k0.dp<dp)(hz:bF dp hp)(c0:Runner)(a0:Stmt)(a9:(List Int))(ah:Nat)(o:((List Int)×Nat)⊕((List Int)×Nat×Bool))(h:mH c0 a0 a9 ah=some o):bQ ⟨dp,false⟩ U8 (EZ dp hp k0 c0 a0) (wB dp hp k0 c0 a0) (a9,ah) o:=
 bZ (.or (bt<|ao (.n ah)<|.ex fun (y2:ay)=>ao (.v (.a (bL y2)))<|PL<|ao (.l (ad c0))<|bf<|ao (.l (ad c0))<|xI fun r4=>ao (.l ([r4].map I))<|ao (.l ((a9++[r4]).map I))<|ao (.i ((ah+1:Nat):Int))<|.nil) (bf<|.nil)) fun L=>cw h (fun h1 h=>ai (aF h1)<|ai (rI ah)<|ba h fun y2 h3 h=>ai (dR bw h3 (di _))<|ai ((by simp [bL,ax,aV g,bm g]):(dY dp 6 [(15,(.a (bL y2))),(14,(.e (.a (bL y2)) 0)),(0,(.p k0 0)),(3,(.p ⟨dp,3⟩ 0)),(4,(.o 3 (a9.map I))),(10,(.l 89 (a0.Args.map bw))),(11,(I (a0.Args.length:Int))),(12,(I (ah:Int)))] [(3,(ax a0))])=true)<|ai ff<|ai (rN dp)<|ai tt<|ai (rN dp)<|ai ((by simp [bL,ax,aV g]):(([24]:List Nat).all (ee dp (⟨[(0,(.p k0 0)),(3,(.p ⟨dp,3⟩ 0)),(4,(.o 3 (a9.map I))),(6,(.p ⟨dp,6⟩ 0)),(10,(.l 89 (a0.Args.map bw))),(11,(I (a0.Args.length:Int))),(12,(I (ah:Int)))],[(3,(ax a0)),(6,(bL y2))],H0⟩:St))&&true)=true)<|ai tt<|ai (rN dp)<|ai tt<|ai (gu g [24])<|ai (gu g [24])<|ai (eu g [24] [] 11)<|ai (eu g [24] [] 12)<|ai (aj g)<|ai (aA hp k0 (ad c0))<|ai (v8 g [24] 12)<|ai (aj g)<|ai (aA hp k0 (ad c0))<|bq h (tC y2 c0.bz.Vars) fun r4 h=>let A:=[r4].map I;eH<|ai (rfl:[(I r4)]=[r4].map I)<|mw<|aO h fun h6 h=>ai ((dS I (n:=1) (fun _=>rfl) [r4]):A.all (fun e=>e.nc==1)=true)<|ai ((eJ h6 (by decide)):((a9.map I).length+A.length)*8≤140737488355328)<|ai ((eK h6):(a9.map I).length+A.length≤maxLen)<|ai (cQ.symm:a9.map (I)++[r4].map (I)=(a9++[r4]).map I)<|aO h fun w7 h=>ai w7<|L h) (fun h1 h=>ai (aD h1)<|L h)
def mI(v1_k0_12:(List Int)):Option ((Nat×(List Int))⊕(Nat×Bool×(List Int))):=
 if (af:Int)<(y5.Params.length:Int) then
  (y5.Params[af]?).bind fun y8=>
  (x1.1[af]?).bind fun bG=>
  (cU y8).bind fun j12=>
  (v1_k0_12[j12]?).bind fun ck=>
  if IntKind.i64.wrap ((af:Int)+1)=((af+1:Nat):Int) then
   some (.inl (af+1,v1_k0_12.set j12 bG))
  else none
 else
  some (.inr (af,decide ((af:Int)<(y5.Params.length:Int)),v1_k0_12))
abbrev E1(c0:Runner)(x1:((List Int)×Nat×Bool))(y5:Func)(v:(Nat×(List Int))):St:=⟨[(0,(.p k0 0)),(4,(aG x1.1)),(36,(aS y5.Params)),(37,(zI y5.Params.length)),(38,(I (v.1:Int)))],[],ar hp k0 ((cI c0).set 12 (aG v.2))⟩
abbrev wC(c0:Runner)(x1:((List Int)×Nat×Bool))(y5:Func)(x:(Nat×Bool×(List Int))):bc×St:=((.ex 2),⟨[(0,(.p k0 0)),(4,(aG x1.1)),(36,(aS y5.Params)),(37,(zI y5.Params.length)),(38,(I (x.1:Int))),(39,(.b x.2.1))],[],ar hp k0 ((cI c0).set 12 (aG x.2.2))⟩)
theorem D4(g:k0.dp<dp)(hz:bF dp hp)(c0:Runner)(x1:((List Int)×Nat×Bool))(y5:Func)(af:Nat)(v1_k0_12:(List Int))(o:(Nat×(List Int))⊕(Nat×Bool×(List Int)))(h:mI x1 y5 af v1_k0_12=some o):bQ ⟨dp,false⟩ U9 (E1 hp k0 c0 x1 y5) (wC hp k0 c0 x1 y5) (af,v1_k0_12) o:=
 let B:=aj g;let A:=(cI c0).set 12 (aG v1_k0_12);let C:=aA hp k0 A;bZ (.or (bt<|ao (.n af)<|xI fun y8=>bf<|ao (.l A)<|ao (.n af)<|xI fun bG=>ao (.v (I bG))<|xN fun j12=>let D:=v1_k0_12.set j12 bG;bf<|ao (.l A)<|xI fun ck=>bf<|ao (.l A)<|ao (.v (I ck))<|ao (.l (D.map I))<|bf<|ao (.l A)<|bf<|ao (.h (ar hp k0 ((cI c0).set 12 (aG D))))<|ao (.i ((af+1:Nat):Int))<|.nil) (bf<|.nil)) fun L=>cw h (fun h7 h=>ai (aF h7)<|ai (rI af)<|ba h fun y8 h9 h=>ai (aB I h9)<|mu<|ai B<|ai C<|fH<|ai (rI af)<|ba h fun bG bD h=>ai (aB I bD)<|ai tt<|ai (aB I bD)<|ai tt<|dM h fun j12 a7 h=>let E:=v1_k0_12.set j12 bG;ai a7<|ai B<|ai C<|ba h fun ck cq h=>ai (aB I cq)<|ai ff<|ai B<|ai C<|ai (aB I cq)<|ai (map_set .. : (v1_k0_12.map I).set j12 (I bG)=E.map I)<|ai B<|ai C<|ai B<|ai (bA hp k0 A ((cI c0).set 12 (aG E)))<|aO h fun ct h=>ai ct<|L h) (fun h7 h=>ai (aD h7)<|L h)
abbrev G0(dp:Nat)(hp:HP)(k0:Key)(c0:Runner)(a0:Stmt)(r:Runner):bC×HP:=(.ret (.tp []),ar hp k0 (ad r))
def oy:Option Runner:=
 (lp (fun v=>mH c0 a0 v.1 v.2) (([]:List Int),0)).bind fun x1=>
 (cU a0.Other).bind fun j3=>
 (c0.p.Funcs[j3]?).bind fun y5=>
 (lp (fun v=>mI x1 y5 v.1 v.2) (0,c0.bz.Vars)).bind fun x7=>
 some (⟨c0.p,c0.ins,c0.fuel,c0.first,(⟨c0.bz.Events,x7.2.2,c0.bz.Taken,c0.bz.Steps,c0.bz.End,c0.bz.Stop⟩:RunT)⟩:Runner)
theorem D5(g:k0.dp<dp)(hz:bF dp hp)(c0:Runner)(a0:Stmt)(r:Runner)(h:oy c0 a0=some r):call G Ω0 ⟨dp,false⟩ 191 [(.p k0 0),(.a (ax a0))] (ar hp k0 (ad c0))=some (G0 dp hp k0 c0 a0 r):=
 bj aoG (bt<|ao (.i (a0.Args.length:Int))<|.ex fun (x1:((List Int)×Nat×Bool))=>ao (.cA (wB dp hp k0 c0 a0 x1))<|bf<|ao (.l (ad c0))<|bt<|xN fun j3=>.ex fun (y5:Func)=>ao (.v (.a (cB y5)))<|ao (.i (y5.Params.length:Int))<|.ex fun (x7:(Nat×Bool×(List Int)))=>ao (.cA (wC hp k0 c0 x1 y5 x7))<|.nil) fun L=>ai ((by simp [ax,aV g,bm g]):(((.a (ax a0)):AV).deep dp&&(dY dp 3 [(0,(.p k0 0)),(1,(.a (ax a0)))] []))=true)<|ai (rN dp)<|ai (aP bw a0.Args)<|bq h (dT (fun v=>D3 dp hp k0 g hz c0 a0 v.1 v.2) (([]:List Int),0)) fun x1 h=>mu<|ai (aj g)<|ai (aA hp k0 (ad c0))<|aZ<|ai (rN dp)<|ai tt<|dM h fun j3 h4 h=>ai h4<|ba h fun y5 h6 h=>ai (aB cS h6)<|eH<|ai (aP I y5.Params)<|aZ<|bq h (dT (fun v=>D4 dp hp k0 g hz c0 x1 y5 v.1 v.2) (0,c0.bz.Vars)) fun x7 h=>L h
end
section
variable (dp:Nat)(hp:HP)(k0:Key)(c0:aI)(c1:Runner)(c2:aW)(a0:Int)(a1:Level)
abbrev FA(dp:Nat)(hp:HP)(k0:Key)(k1:Key)(k2:Key)(c0:aI)(c1:Runner)(c2:aW)(a0:Int)(a1:Level)(r:(Bool×aI)):bC×HP:=(.ret (.b r.1),bn hp k0 k1 k2 r.2 c1 c2)
def fV:Option (Bool×aI):=
 (kC c0 c1 c2 a0 a1).bind fun r1=>
 if r1=true then
  (cU a0).bind fun j4=>
  (c0.vars[j4]?).bind fun y6=>
  some (true,(⟨(),c0.p,c0.vars.set j4 a1,c0.places,()⟩:aI))
 else
  some (false,c0)
theorem kZ(g:k0.dp<dp)(k1:Key)(q:k1.dp<dp)(k2:Key)(t:k2.dp<dp)(k:k0≠k1)(j:k0≠k2)(m:k1≠k2)(hz:bF dp hp)(c0:aI)(c1:Runner)(c2:aW)(a0:Int)(a1:Level)(r:(Bool×aI))(h:fV c0 c1 c2 a0 a1=some r):call G Ω0 ⟨dp,false⟩ 192 [(.p k0 0),(I a0),(.a [(.l 4 (a1.Readers.map AV.b)),(.l 4 (a1.Writers.map AV.b))])] (bn hp k0 k1 k2 c0 c1 c2)=some (FA dp hp k0 k1 k2 c0 c1 c2 a0 a1 r):=
 let E:=aj g;let D:=dc k1 k2 c0;let C:=(dL c0).set 0 (.p k1 0);let B:=boxes dp [(5,[(aw a1.Readers),(aw a1.Writers)])] (bn hp k0 k1 k2 c0 c1 c2);let A:=(eb k j:(bn hp k0 k1 k2 c0 c1 c2) k0=some D);bj aoH (bt<|xB fun r1=>ao (.h B)<|.or (IG<|ao (.l D)<|bt<|xN fun j4=>let F:=c0.vars.set j4 a1;bf<|ao (.l D)<|.ex fun (y6:Level)=>let H:=[(aw y6.Readers),(aw y6.Writers)];ao (.v (.a H))<|bf<|ao (.l D)<|ao (.v (.a H))<|ao (.l (F.map aC))<|bf<|ao (.l D)<|bf<|ao (.h (ar (ar (ar hp k0 ((C.set 9 (av F)).set 11 (.p k2 0))) k1 (ad c1)) k2 (aM c2)))<|.nil) (bt<|.nil)) fun L=>ai ((by simp [aV g,bm g,aV q,bm q,aV t,bm t]):(((.a [(.l 4 (a1.Readers.map AV.b)),(.l 4 (a1.Writers.map AV.b))]):AV).deep dp&&(dY dp 5 [(0,(.p k0 0)),(1,(I a0)),(2,(.a [(.l 4 (a1.Readers.map AV.b)),(.l 4 (a1.Writers.map AV.b))]))] []))=true)<|ai (rN dp)<|ai tt<|ba h fun r1 aK h=>have aK:=mc g q t k j m (uA (dp+1) B k0 (aJ g) k1 (aJ q) k2 (aJ t) k j m (aU (an t (an q (an g hz)))) c0 c1 c2 a0 a1 _ aK);ai aK<|bB h (fun h3 h=>A3 (az not h3)<|ai E<|ai A<|aZ<|ai (rN dp)<|ai tt<|dM h fun j4 h5 h=>let J:=(C.set 9 (av (c0.vars.set j4 a1))).set 11 (.p k2 0);ai h5<|ai E<|ai A<|ba h fun y6 h7 h=>ai (aB aC h7)<|ai ff<|ai E<|ai A<|ai (aB aC h7)<|ai (map_set .. : (c0.vars.map aC).set j4 (.a [(aw a1.Readers),(aw a1.Writers)])=(c0.vars.set j4 a1).map aC)<|ai E<|ai A<|ai E<|ai (dj (dh j) (dj (dh k) (bA ..)):ar (bn hp k0 k1 k2 c0 c1 c2) k0 J=ar (ar (ar hp k0 J) k1 (ad c1)) k2 (aM c2))<|L h) (fun h3 h=>ai (az not h3)<|L h)
end
section
variable (dp:Nat)(hp:HP)(k0:Key)(c0:Runner)(a0:Stmt)
abbrev G1(dp:Nat)(hp:HP)(k0:Key)(c0:Runner)(a0:Stmt)(r:Runner):bC×HP:=(.ret (.tp []),ar hp k0 (ad r))
def oz:Option Runner:=
 (cU a0.Other).bind fun j1=>
 (c0.p.Funcs[j1]?).bind fun y3=>
 (oS y3.Result c0.bz.Vars).bind fun r5=>
 (cU a0.Var).bind fun j7=>
 (c0.bz.Vars[j7]?).bind fun y9=>
 some (⟨c0.p,c0.ins,c0.fuel,c0.first,(⟨c0.bz.Events,c0.bz.Vars.set j7 r5,c0.bz.Taken,c0.bz.Steps,c0.bz.End,c0.bz.Stop⟩:RunT)⟩:Runner)
theorem D6(g:k0.dp<dp)(hz:bF dp hp)(c0:Runner)(a0:Stmt)(r:Runner)(h:oz c0 a0=some r):call G Ω0 ⟨dp,false⟩ 194 [(.p k0 0),(.a (ax a0))] (ar hp k0 (ad c0))=some (G1 dp hp k0 c0 a0 r):=
 let B:=aj g;let A:=aA hp k0 (ad c0);bj aoJ (bf<|ao (.l (ad c0))<|gZ<|ao (.l (ad c0))<|bt<|xN fun j1=>.ex fun (y3:Func)=>ao (.v (.a (cB y3)))<|bf<|ao (.l (ad c0))<|bf<|ao (.l (ad c0))<|xI fun r5=>xN fun j7=>let C:=c0.bz.Vars.set j7 r5;bf<|ao (.l (ad c0))<|xI fun y9=>bf<|ao (.l (ad c0))<|ao (.v (I y9))<|ao (.l (C.map I))<|bf<|ao (.l (ad c0))<|bf<|ao (.h (ar hp k0 ((cI c0).set 12 (aG C))))<|.nil) fun L=>ai ((by simp [ax,aV g,bm g]):(((.a (ax a0)):AV).deep dp&&(dY dp 3 [(0,(.p k0 0)),(1,(.a (ax a0)))] []))=true)<|mu<|ai B<|ai A<|aZ<|ai (rN dp)<|mu<|ai B<|ai A<|aZ<|ai (rN dp)<|ai tt<|dM h fun j1 h2 h=>ai h2<|ba h fun y3 h4 h=>ai (aB cS h4)<|aZ<|aZ<|aZ<|ai tt<|ai B<|ai A<|ai tt<|ai B<|ai A<|bq h (tC y3.Result c0.bz.Vars) fun r5 h=>eH<|dM h fun j7 h8 h=>let D:=c0.bz.Vars.set j7 r5;ai h8<|ai B<|ai A<|ba h fun y9 a4 h=>ai (aB I a4)<|ai ff<|ai B<|ai A<|ai (aB I a4)<|ai (map_set .. : (c0.bz.Vars.map I).set j7 (I r5)=D.map I)<|ai B<|ai A<|ai B<|ai (bA hp k0 (ad c0) ((cI c0).set 12 (aG D)))<|L h
end
section
variable (dp:Nat)(hp:HP)(k0:Key)(c0:aI)(c1:Runner)(c2:aW)(a0:ay)
abbrev E2(dp:Nat)(hp:HP)(k0:Key)(k1:Key)(k2:Key)(c0:aI)(c1:Runner)(c2:aW)(a0:ay)(r:aI):bC×HP:=(.ret (.tp []),bn hp k0 k1 k2 r c1 c2)
def jY:Option aI:=
 (eR c0 c1 c2 a0).bind fun r1=>
 if c0.places.length + [r1].length≤1000000000 then
  some (⟨(),c0.p,c0.vars,c0.places++[r1],()⟩:aI)
 else none
theorem tY(g:k0.dp<dp)(k1:Key)(q:k1.dp<dp)(k2:Key)(t:k2.dp<dp)(k:k0≠k1)(j:k0≠k2)(m:k1≠k2)(hz:bF dp hp)(c0:aI)(c1:Runner)(c2:aW)(a0:ay)(r:aI)(h:jY c0 c1 c2 a0=some r):call G Ω0 ⟨dp,false⟩ 195 [(.p k0 0),(.a (bL a0))] (bn hp k0 k1 k2 c0 c1 c2)=some (E2 dp hp k0 k1 k2 c0 c1 c2 a0 r):=
 let J:=dc k1 k2 c0;let H:=aj g;let F:=(ie c0).set 0 (.p k1 0);let E:=bn hp k0 k1 k2 c0 c1 c2;let D:=eu g [12,13] [] 0;let B:=(eb k j:E k0=some J);let A:=(F.set 10 .u).set 11 (.p k2 0);let C:=ar (ar (ar hp k0 A) k1 (ad c1)) k2 (aM c2);bj aoK (bf<|ao (.l J)<|bt<|.ex fun (r1:Level)=>ao (.v (.a [(aw r1.Readers),(aw r1.Writers)]))<|ao (.h (boxes dp [] E))<|ao (.l ([r1].map aC))<|bf<|ao (.l J)<|bf<|ao (.l J)<|bf<|ao (.h C)<|ao (.l ((c0.places++[r1]).map aC))<|bf<|ao (.l A)<|bf<|ao (.h (ar (ar (ar hp k0 ((F.set 10 (av (c0.places++[r1]))).set 11 (.p k2 0))) k1 (ad c1)) k2 (aM c2)))<|.nil) fun L=>ai ((by simp [bL,aV g,bm g,aV q,bm q,aV t,bm t]):(((.a (bL a0)):AV).deep dp&&(dY dp 3 [(0,(.p k0 0)),(1,(.a (bL a0)))] []))=true)<|ai ((by simp [bL,aV g,aV q,aV t]):(([12,13]:List Nat).all (ee dp (⟨[(0,(.p k0 0)),(3,(.p ⟨dp,3⟩ 0))],[(3,(bL a0))],H0⟩:St))&&true)=true)<|ai D<|ai D<|ai D<|ai (eu g [12,13] [] 10)<|ai H<|ai B<|ai (v8 g [12,13] 10)<|ai D<|ai (rN dp)<|aZ<|ba h fun r1 aK h=>let M:=[r1].map aC;let K:=(F.set 10 (av (c0.places++[r1]))).set 11 (.p k2 0);have aK:=mc g q t k j m (gv (dp+1) (boxes dp [] E) k0 (aJ g) k1 (aJ q) k2 (aJ t) k j m (aU (an t (an q (an g hz)))) c0 c1 c2 a0 _ aK);ai aK<|ai tt<|ai (rfl:[(.a [(aw r1.Readers),(aw r1.Writers)])]=[r1].map aC)<|mw<|ai H<|ai B<|ai H<|ai B<|ai H<|ai (dj (dh j) (dj (dh k) (bA ..)):ar E k0 A=ar (ar (ar hp k0 A) k1 (ad c1)) k2 (aM c2))<|aO h fun h3 h=>ai ((dS aC (n:=2) (fun _=>rfl) [r1]):M.all (fun e=>e.nc==2)=true)<|ai ((eJ h3 (by decide)):((c0.places.map aC).length+M.length)*48≤140737488355328)<|ai ((eK h3):(c0.places.map aC).length+M.length≤maxLen)<|ai (cQ.symm:c0.places.map aC++[r1].map aC=(c0.places++[r1]).map aC)<|mw<|ai H<|ai (eb k j:C k0=some A)<|ai H<|ai (dj (dh j) (dj (dh k) (bA ..)):ar C k0 K=ar (ar (ar hp k0 K) k1 (ad c1)) k2 (aM c2))<|L h
end
section
variable (dp:Nat)(hp:HP)(k0:Key)(c0:Runner)(a0:ay)
abbrev Ij(dp:Nat)(hp:HP)(k0:Key)(c0:Runner)(a0:ay)(r:Bool):bC×HP:=(.ret (.b r),ar hp k0 (ad c0))
def ml:Option Bool:=
 (oS a0 c0.bz.Vars).bind fun r1=>
 some (r1 !=0)
theorem wD(g:k0.dp<dp)(hz:bF dp hp)(c0:Runner)(a0:ay)(r:Bool)(h:ml c0 a0=some r):call G Ω0 ⟨dp,true⟩ 197 [(.p k0 0),(.a (bL a0))] (ar hp k0 (ad c0))=some (Ij dp hp k0 c0 a0 r):=
 bj aoM (gZ<|ao (.l (ad c0))<|bf<|ao (.l (ad c0))<|xI fun r1=>.nil) fun L=>ai ((by simp [bL,aV g,bm g]):(((.a (bL a0)):AV).deep dp&&(dY dp 3 [(0,(.p k0 0)),(1,(.a (bL a0)))] []))=true)<|ai tt<|ai (rN dp)<|mu<|ai (aj g)<|ai (aA hp k0 (ad c0))<|ai tt<|ai (aj g)<|ai (aA hp k0 (ad c0))<|bq h (tC a0 c0.bz.Vars) fun r1 h=>aZ<|L h
end
section
variable (dp:Nat)(hp:HP)(k0:Key)(c0:Runner)(a0:Stmt)(a1:Int)
abbrev Ik(dp:Nat)(hp:HP)(k0:Key)(c0:Runner)(a0:Stmt)(a1:Int)(r:((List Stmt)×Int)):bC×HP:=(.ret (.tp [(.l 111 (r.1.map bK)),(I r.2)]),ar hp k0 (ad c0))
def ug:Option ((List Stmt)×Int):=
 (ml c0 a0.Expr).bind fun r1=>
 if r1=true then
  if IntKind.i64.wrap (a1+1)=a1+1 then
   some (a0.Then,(a1+1))
  else none
 else
  if IntKind.i64.wrap (a1+1)=a1+1 then
   (qB a0.Then).bind fun r5=>
   if IntKind.i64.wrap ((a1+1)+r5)=(a1+1)+r5 then
    some (a0.Else,((a1+1)+r5))
   else none
  else none
theorem E3(g:k0.dp<dp)(hz:bF dp hp)(c0:Runner)(a0:Stmt)(a1:Int)(r:((List Stmt)×Int))(h:ug c0 a0 a1=some r):call G Ω0 ⟨dp,true⟩ 196 [(.p k0 0),(.a (ax a0)),(I a1)] (ar hp k0 (ad c0))=some (Ik dp hp k0 c0 a0 a1 r):=
 let A:=boxes dp [(4,(ax a0))] (ar hp k0 (ad c0));bj aoL (bt<|xB fun r1=>ao (.h A)<|.or (cM<|ao (.i (a1+1))<|.nil) (we<|ao (.i (a1+1))<|bt<|xI fun r5=>ao (.i ((a1+1)+r5))<|.nil)) fun L=>ai ((by simp [ax,aV g,bm g]):(((.a (ax a0)):AV).deep dp&&(dY dp 4 [(0,(.p k0 0)),(1,(.a (ax a0))),(2,(I a1))] []))=true)<|ai (rN dp)<|ai tt<|ba h fun r1 aK h=>have aK:=cO g (wD (dp+1) A k0 (aJ g) (aU (an g hz)) c0 a0.Expr _ aK);ai aK<|bB h (fun h3 h=>ai h3<|ai (rN dp)<|aO h fun w4 h=>ai w4<|L h) (fun h3 h=>PF h3<|ai (rN dp)<|aZ<|aO h fun w4 h=>ai w4<|aZ<|ai (rN dp)<|ai tt<|bq h (uR a0.Then) fun r5 h=>ai tt<|aO h fun w7 h=>ai w7<|aZ<|L h)
end
section
variable (c0:aI)(c1:Runner)(c2:aW)(a0:Stmt)(b2:(List Bool))(b1:(List Bool))(hp:HP)(k0:Key)(k1:Key)(k2:Key)(dp:Nat)
def gd:Option (Bool×aI):=
 (fV c0 c1 c2 a0.Var (⟨b2,b1⟩:Level)).bind fun bd=>
 some (bd.1,bd.2)
abbrev mJ(c1:Runner)(c2:aW)(x:(Bool×aI)):bc×St:=(.ret,⟨[(4,(.b x.1))],[],bn hp k0 k1 k2 x.2 c1 c2⟩)
theorem qT(hp:HP)(k0:Key)(g:k0.dp<dp)(k1:Key)(q:k1.dp<dp)(k2:Key)(t:k2.dp<dp)(k:k0≠k1)(j:k0≠k2)(m:k1≠k2)(hz:bF dp hp)(c0:aI)(c1:Runner)(c2:aW)(a0:Stmt)(b2:(List Bool))(b1:(List Bool))(x:(Bool×aI))(h:gd c0 c1 c2 a0 b2 b1=some x):run G Ω0 ⟨dp,false⟩ Va ⟨[(0,(.p k0 0)),(3,(.p ⟨dp,3⟩ 0)),(6,(.p ⟨dp,6⟩ 0))],[(3,(ax a0)),(6,[(aw b2),(aw b1)])],bn hp k0 k1 k2 c0 c1 c2⟩=some (mJ hp k0 k1 k2 c1 c2 x):=
 let B:=(3,(ax a0));let A:=(6,[(aw b2),(aw b1)]);oi (cM<|.ex fun (bd:(Bool×aI))=>let C:=bn hp k0 k1 k2 bd.2 c1 c2;ao (.v (.b bd.1))<|ao (.h (boxes dp [B,A] C))<|ao (.bx [B,A])<|ao (.h C)<|.nil) fun L=>ai (rN dp)<|ai (rN dp)<|ew<|ba h fun bd bR h=>have bR:=mc g q t k j m (kZ (dp+1) (boxes dp [B,A] (bn hp k0 k1 k2 c0 c1 c2)) k0 (aJ g) k1 (aJ q) k2 (aJ t) k j m (aU (an t (an q (an g hz)))) c0 c1 c2 a0.Var (⟨b2,b1⟩:Level) _ bR);eo bR (an t (an q (an g hz)))<|L h
abbrev Dm(dp:Nat)(hp:HP)(k0:Key)(k1:Key)(k2:Key)(c0:aI)(c1:Runner)(c2:aW)(a0:Stmt)(r:(Bool×aI)):bC×HP:=(.ret (.b r.1),bn hp k0 k1 k2 r.2 c1 c2)
def k9:Option (Bool×aI):=
 (cU a0.Var).bind fun j1=>
 (c0.p.Vars[j1]?).bind fun y3=>
 if y3.Known=true then
  (iV c2 a0).bind fun r6=>
  if r6=true then
   some (false,c0)
  else
   (iU c2 a0).bind fun r9=>
   if r9=true then
    some (false,c0)
   else
    (qv c0.p.ak y3.Label).bind fun ag=>
    (eR c0 c1 c2 a0.Expr).bind fun aa=>
    if (a0.Kind==5)=true then
     (gd c0 c1 c2 a0 ag.Readers aa.Writers).bind fun a6=>
     some (a6.1,a6.2)
    else
     (gd c0 c1 c2 a0 aa.Readers ag.Writers).bind fun a6=>
     some (a6.1,a6.2)
 else
  some (false,c0)
theorem Ay(hp:HP)(k0:Key)(g:k0.dp<dp)(k1:Key)(q:k1.dp<dp)(k2:Key)(t:k2.dp<dp)(k:k0≠k1)(j:k0≠k2)(m:k1≠k2)(hz:bF dp hp)(c0:aI)(c1:Runner)(c2:aW)(a0:Stmt)(r:(Bool×aI))(h:k9 c0 c1 c2 a0=some r):call G Ω0 ⟨dp,false⟩ 199 [(.p k0 0),(.a (ax a0))] (bn hp k0 k1 k2 c0 c1 c2)=some (Dm dp hp k0 k1 k2 c0 c1 c2 a0 r):=
 let M:=aJ t;let K:=eu g [5] [] 0;let J:=eu g [6,7] [] 1;let H:=aj t;let F:=aj g;let E:=dc k1 k2 c0;let D:=eu g [6,7] [] 0;let C:=(3,(ax a0));let A:=bn hp k0 k1 k2 c0 c1 c2;let B:=(eb k j:A k0=some E);bj aoO (bf<|ao (.l E)<|bt<|xN fun j1=>.ex fun (y3:Var)=>let N:=[C,(5,(jk y3))];ao (.v (.a (jk y3)))<|ea<|.or (PH<|ao (.l E)<|ea<|xB fun r6=>ao (.h (boxes dp N A))<|ao (.bx N)<|ao (.h A)<|bf<|.or (Xr<|.nil) (PH<|ao (.l E)<|ea<|xB fun r9=>ao (.h (boxes dp N A))<|ao (.bx N)<|ao (.h A)<|bf<|oN (bf<|ao (.l E)<|bt<|.ex fun (ag:Level)=>ao (.v (.a [(aw ag.Readers),(aw ag.Writers)]))<|bt<|.ex fun (aa:Level)=>ao (.v (.a [(aw aa.Readers),(aw aa.Writers)]))<|ao (.h (boxes dp [] A))<|pn<|.or (mg<|.fb<|.ex fun (a6:(Bool×aI))=>ao (.ei (mJ hp k0 k1 k2 c1 c2 a6))<|.nil) (bf<|bt<|bt<|bt<|.fb<|.ex fun (a6:(Bool×aI))=>ao (.ei (mJ hp k0 k1 k2 c1 c2 a6))<|.nil)))) (ahJ<|.nil)) fun L=>ai ((by simp [ax,aV g,bm g,aV q,bm q,aV t,bm t]):(((.a (ax a0)):AV).deep dp&&(dY dp 3 [(0,(.p k0 0)),(1,(.a (ax a0)))] []))=true)<|ai ((by simp [ax,aV g,aV q,aV t]):(([5]:List Nat).all (ee dp (⟨[(0,(.p k0 0)),(3,(.p ⟨dp,3⟩ 0))],[(3,(ax a0))],H0⟩:St))&&true)=true)<|ai K<|ai K<|ai (eu g [5] [] 1)<|ai (eu g [5] [] 6)<|ai F<|ai B<|ai tt<|ai (ji dp [5] [] 3 1)<|ai (rN dp)<|ai tt<|dM h fun j1 h2 h=>ai h2<|ba h fun y3 h4 h=>let O:=boxes dp [C,(5,(jk y3))] A;ai (aB dk h4)<|aZ<|aZ<|ai ff<|ai (rN dp)<|ai tt<|ai (rN dp)<|aZ<|ai (rN dp)<|eH<|bB h (fun h5 h=>let P:=az not h5;TG P<|ai F<|ai B<|Db P<|ai (rN dp)<|ai tt<|ai (g0 P)<|ew<|ba h fun r6 bO h=>have bO:call G Ω0 ⟨dp+1,false⟩ 219 [(.p k2 0),(.a (ax a0))] O=some (.ret (.b r6),boxes dp [C,(5,(jk y3))] A):=ek (c8 (hp1:=bn hp k0 k1 k2 c0 c1 c2) H (bA ..)) (c8 (hp1:=bn hp k0 k1 k2 c0 c1 c2) H (bA ..)) (Ax (dp+1) O k2 M (aU (an t (an q (an g hz)))) c2 a0 _ bO);eo bO (an t (an q (an g hz)))<|PF P<|bB h (fun h8 h=>Xn h8<|L h) (fun h8 h=>TG h8<|ai F<|ai B<|Db h8<|ai (rN dp)<|ai tt<|ai (g0 h8)<|ew<|ba h fun r9 aY h=>have aY:call G Ω0 ⟨dp+1,false⟩ 220 [(.p k2 0),(.a (ax a0))] O=some (.ret (.b r9),boxes dp [C,(5,(jk y3))] A):=ek (c8 (hp1:=bn hp k0 k1 k2 c0 c1 c2) H (bA ..)) (c8 (hp1:=bn hp k0 k1 k2 c0 c1 c2) H (bA ..)) (Aw (dp+1) O k2 M (aU (an t (an q (an g hz)))) c2 a0 _ aY);eo aY (an t (an q (an g hz)))<|ai h8<|bB h (fun bD h=>ai bD<|L h) (fun bD h=>ai bD<|ai ((by simp [ax,jk,aV g,aV q,aV t]):(([6,7]:List Nat).all (ee dp (⟨[(0,(.p k0 0)),(3,(.p ⟨dp,3⟩ 0)),(5,(.p ⟨dp,5⟩ 0))],[(3,(ax a0)),(5,(jk y3))],H0⟩:St))&&true)=true)<|ai D<|ai D<|ai J<|ai J<|ai F<|ai B<|ai tt<|ai (ji dp [6,7] [] 5 1)<|ai (rN dp)<|ai tt<|bq h (uN c0.p.ak y3.Label) fun ag h=>ai tt<|ai D<|ai (ji dp [6,7] [] 3 3)<|ai (rN dp)<|aZ<|ba h fun aa aR h=>have aR:=mc g q t k j m (gv (dp+1) (boxes dp [] A) k0 (aJ g) k1 (aJ q) k2 M k j m (aU (an t (an q (an g hz)))) c0 c1 c2 a0.Expr _ aR);ai aR<|aZ<|ai (ji dp [7] [] 6 0)<|ai tt<|ai (ji dp [6] [] 7 0)<|ai ff<|ai (rN dp)<|ai tt<|ai (rN dp)<|ai ff<|ai (rN dp)<|ai tt<|ai (rN dp)<|ai (rN dp)<|bB h (fun b3 h=>ai b3<|ai (rN dp)<|ai ff<|ai (rN dp)<|ai tt<|ai (rN dp)<|bq h (qT dp hp k0 g k1 q k2 t k j m hz c0 c1 c2 a0 ag.Readers aa.Writers) fun a6 h=>L h) (fun b3 h=>ai b3<|ai (rN dp)<|ai ff<|ai (rN dp)<|ai tt<|ai (rN dp)<|bq h (qT dp hp k0 g k1 q k2 t k j m hz c0 c1 c2 a0 aa.Readers ag.Writers) fun a6 h=>L h)))) (fun h5 h=>let Q:=az not h5;fy Q<|fy Q<|ai Q<|aZ<|nR<|nR<|nR<|aZ<|L h)
abbrev D7(dp:Nat)(hp:HP)(k0:Key)(k1:Key)(k2:Key)(c0:aI)(c1:Runner)(c2:aW)(a0:Stmt)(r:(Bool×aI)):bC×HP:=(.ret (.b r.1),bn hp k0 k1 k2 r.2 c1 c2)
def lO:Option (Bool×aI):=
 if (a0.Kind==1)=true then
  (eR c0 c1 c2 a0.Expr).bind fun r2=>
  (fV c0 c1 c2 a0.Var r2).bind fun r4=>
  some (r4.1,r4.2)
 else
  if (a0.Kind==3)=true then
   (cU a0.Other).bind fun j3=>
   (c0.p.Ins[j3]?).bind fun y5=>
   (qv c0.p.ak y5).bind fun r7=>
   (ft c0 c1 c2).bind fun r9=>
   (l6 r9 r7).bind fun al=>
   if al=true then
    (ft c0 c1 c2).bind fun aa=>
    (nr aa r7).bind fun cf=>
    (fV c0 c1 c2 a0.Var cf).bind fun ce=>
    some (ce.1,ce.2)
   else
    some (false,c0)
  else
   if (a0.Kind==4)=true then
    (eR c0 c1 c2 a0.Expr).bind fun r4=>
    (cU a0.Other).bind fun j6=>
    (c0.p.Outs[j6]?).bind fun y8=>
    (qv c0.p.ak y8).bind fun bb=>
    (l6 r4 bb).bind fun ag=>
    some (ag,c0)
   else
    (k9 c0 c1 c2 a0).bind fun r4=>
    some (r4.1,r4.2)
theorem Bv(hp:HP)(k0:Key)(g:k0.dp<dp)(k1:Key)(q:k1.dp<dp)(k2:Key)(t:k2.dp<dp)(k:k0≠k1)(j:k0≠k2)(m:k1≠k2)(hz:bF dp hp)(c0:aI)(c1:Runner)(c2:aW)(a0:Stmt)(r:(Bool×aI))(h:lO c0 c1 c2 a0=some r):call G Ω0 ⟨dp,false⟩ 152 [(.p k0 0),(.a (ax a0))] (bn hp k0 k1 k2 c0 c1 c2)=some (D7 dp hp k0 k1 k2 c0 c1 c2 a0 r):=
 let N:=aj g;let M:=dc k1 k2 c0;let K:=eu g [5] [] 1;let J:=aJ t;let H:=aJ q;let F:=aJ g;let E:=eu g [5] [] 0;let D:=(3,(ax a0));let A:=bn hp k0 k1 k2 c0 c1 c2;let C:=boxes dp [] A;let B:=(eb k j:A k0=some M);bj aoh (bt<|.or (ea<|.ex fun (r2:Level)=>ao (.v (.a [(aw r2.Readers),(aw r2.Writers)]))<|ao (.h C)<|.ex fun (r4:(Bool×aI))=>let O:=bn hp k0 k1 k2 r4.2 c1 c2;ao (.v (.b r4.1))<|ao (.h (boxes dp [D] O))<|ao (.bx [D])<|ao (.h O)<|.nil) (bf<|.or (gZ<|ao (.l M)<|bf<|ao (.l M)<|bt<|xN fun j3=>.ex fun (y5:Label)=>ao (.v (.a [(bE y5.Read),(bE y5.Write)]))<|.ex fun (r7:Level)=>let P:=[(aw r7.Readers),(aw r7.Writers)];ao (.v (.a P))<|cM<|.ex fun (r9:Level)=>ao (.v (.a [(aw r9.Readers),(aw r9.Writers)]))<|ao (.h C)<|bt<|xB fun al=>.or (PK<|.ex fun (aa:Level)=>ao (.v (.a [(aw aa.Readers),(aw aa.Writers)]))<|ao (.h C)<|ea<|.ex fun (cf:Level)=>ao (.v (.a [(aw cf.Readers),(aw cf.Writers)]))<|bt<|.ex fun (ce:(Bool×aI))=>let Q:=bn hp k0 k1 k2 ce.2 c1 c2;ao (.v (.b ce.1))<|ao (.h (boxes dp [D,(5,P)] Q))<|ao (.bx [D,(5,P)])<|ao (.h Q)<|bt<|.nil) (ahK<|.nil)) (bf<|.or (cM<|.ex fun (r4:Level)=>ao (.v (.a [(aw r4.Readers),(aw r4.Writers)]))<|ao (.h C)<|bf<|ao (.l M)<|bf<|ao (.l M)<|bt<|xN fun j6=>.ex fun (y8:Label)=>ao (.v (.a [(bE y8.Read),(bE y8.Write)]))<|.ex fun (bb:Level)=>ao (.v (.a [(aw bb.Readers),(aw bb.Writers)]))<|xB fun ag=>.nil) (we<|.ex fun (r4:(Bool×aI))=>let R:=bn hp k0 k1 k2 r4.2 c1 c2;ao (.v (.b r4.1))<|ao (.h (boxes dp [D] R))<|ao (.bx [D])<|ao (.h R)<|.nil)))) fun L=>ai ((by simp [ax,aV g,bm g,aV q,bm q,aV t,bm t]):(((.a (ax a0)):AV).deep dp&&(dY dp 3 [(0,(.p k0 0)),(1,(.a (ax a0)))] []))=true)<|ai (rN dp)<|bB h (fun h1 h=>wa h1<|ai (rN dp)<|eH<|ai (rN dp)<|aZ<|ba h fun r2 cn h=>have cn:=mc g q t k j m (gv (dp+1) C k0 F k1 H k2 J k j m (aU (an t (an q (an g hz)))) c0 c1 c2 a0.Expr _ cn);ai cn<|EN<|ba h fun r4 au h=>have au:=mc g q t k j m (kZ (dp+1) (boxes dp [D] A) k0 F k1 H k2 J k j m (aU (an t (an q (an g hz)))) c0 c1 c2 a0.Var r2 _ au);eo au (an t (an q (an g hz)))<|L h) (fun h1 h=>ai h1<|bB h (fun h2 h=>ai h2<|ai ((by simp [ax,aV g,aV q,aV t]):(([5]:List Nat).all (ee dp (⟨[(0,(.p k0 0)),(3,(.p ⟨dp,3⟩ 0)),(7,(I a0.Kind)),(18,(.b (a0.Kind==3)))],[(3,(ax a0))],H0⟩:St))&&true)=true)<|ai E<|ai E<|ai K<|ai K<|ai N<|ai B<|ai tt<|ai E<|ai E<|ai K<|ai (eu g [5] [] 4)<|ai N<|ai B<|ai tt<|ai (ji dp [5] [] 3 2)<|ai (rN dp)<|ai tt<|dM h fun j3 h4 h=>ai h4<|ba h fun y5 h6 h=>ai (aB aT h6)<|aZ<|bq h (uN c0.p.ak y5) fun r7 h=>aZ<|ai tt<|ai ff<|ai (rN dp)<|ai tt<|ai (rN dp)<|eH<|ba h fun r9 aY h=>have aY:=mc g q t k j m (jX (dp+1) C k0 F k1 H k2 J k j m (aU (an t (an q (an g hz)))) c0 c1 c2 _ aY);ai aY<|ai tt<|ai (rN dp)<|ai tt<|bq h (qt r9 r7) fun al h=>aZ<|bB h (fun a7 h=>ai (g1 a7)<|iT a7<|iT a7<|ai (rN dp)<|iT a7<|iT a7<|ai tt<|ba h fun aa aR h=>have aR:=mc g q t k j m (jX (dp+1) C k0 F k1 H k2 J k j m (aU (an t (an q (an g hz)))) c0 c1 c2 _ aR);ai aR<|iT a7<|ai (rN dp)<|iT a7<|bq h (rC aa r7) fun cf h=>iT a7<|ew<|ba h fun ce cb h=>have cb:=mc g q t k j m (kZ (dp+1) (boxes dp [D,(5,[(aw r7.Readers),(aw r7.Writers)])] A) k0 F k1 H k2 J k j m (aU (an t (an q (an g hz)))) c0 c1 c2 a0.Var cf _ cb);eo cb (an t (an q (an g hz)))<|ai a7<|L h) (fun a7 h=>dC a7<|dC a7<|dC a7<|dC a7<|ai a7<|L h)) (fun h2 h=>ai h2<|bB h (fun h3 h=>wa h3<|ai (rN dp)<|aZ<|ba h fun r4 au h=>have au:=mc g q t k j m (gv (dp+1) C k0 F k1 H k2 J k j m (aU (an t (an q (an g hz)))) c0 c1 c2 a0.Expr _ au);ai au<|mu<|ai N<|ai B<|mu<|ai N<|ai B<|aZ<|ai (rN dp)<|ai tt<|dM h fun j6 h7 h=>ai h7<|ba h fun y8 h9 h=>ai (aB aT h9)<|aZ<|bq h (uN c0.p.ak y8) fun bb h=>bq h (qt r4 bb) fun ag h=>L h) (fun h3 h=>ai h3<|ai (rN dp)<|ew<|ba h fun r4 au h=>have au:=mc g q t k j m (Ay (dp+1) (boxes dp [D] A) k0 F k1 H k2 J k j m (aU (an t (an q (an g hz)))) c0 c1 c2 a0 _ au);eo au (an t (an q (an g hz)))<|L h)))
end
section
variable (dp:Nat)(hp:HP)(k0:Key)(c0:Runner)(a0:Int)(a1:Int)(a2:Int)(a3:Int)
abbrev FB(dp:Nat)(hp:HP)(k0:Key)(c0:Runner)(a0:Int)(a1:Int)(a2:Int)(a3:Int)(r:Runner):bC×HP:=(.ret (.tp []),ar hp k0 (ad r))
def iR:Option Runner:=
 if c0.bz.Events.length+([(⟨a0,a1,a2,a3⟩:Event)]).length≤1000000000 then
  some (⟨c0.p,c0.ins,c0.fuel,c0.first,(⟨c0.bz.Events++([(⟨a0,a1,a2,a3⟩:Event)]),c0.bz.Vars,c0.bz.Taken,c0.bz.Steps,c0.bz.End,c0.bz.Stop⟩:RunT)⟩:Runner)
 else none
theorem oV(g:k0.dp<dp)(hz:bF dp hp)(c0:Runner)(a0:Int)(a1:Int)(a2:Int)(a3:Int)(r:Runner)(h:iR c0 a0 a1 a2 a3=some r):call G Ω0 ⟨dp,false⟩ 200 [(.p k0 0),(I a0),(I a1),(I a2),(I a3)] (ar hp k0 (ad c0))=some (FB dp hp k0 c0 a0 a1 a2 a3 r):=
 let J:=c0.bz.Events.map bS;let E:=aA hp k0 (ad c0);let D:=aj g;let B:=(jj c0).set 11 .u;let A:=[(⟨a0,a1,a2,a3⟩:Event)];let F:=A.map bS;let C:=c0.bz.Events++A;let H:=(jj c0).set 11 (dN C);bj aoP (bf<|ao (.l (ad c0))<|ao (.l F)<|bf<|ao (.l (ad c0))<|bf<|ao (.l (ad c0))<|bf<|ao (.h (ar hp k0 B))<|ao (.l (C.map bS))<|bf<|ao (.l B)<|bf<|ao (.h (ar hp k0 H))<|.nil) fun L=>ai D<|ai E<|ai (rfl:[(.a [(I a0),(I a1),(I a2),(I a3)])]=A.map bS)<|ai ff<|ai D<|ai E<|ai D<|ai E<|ai D<|ai (bA hp k0 (ad c0) B)<|aO h fun h1 h=>ai ((dS bS (n:=4) (fun _=>rfl) A):F.all (fun e=>e.nc==4)=true)<|ai ((eJ h1 (by decide)):(J.length+F.length)*32≤140737488355328)<|ai ((eK h1):J.length+F.length≤maxLen)<|ai (cQ.symm:c0.bz.Events.map bS++A.map bS=C.map bS)<|ai ff<|ai D<|ai (aA hp k0 B)<|ai D<|ai (bA hp k0 B H)<|L h
end
section
variable (c0:Runner)(a0:Stmt)(bI:Int)(hp:HP)(k0:Key)(dp:Nat)(a1:Int)(r2:Int)(bs:(List Int))
def lq:Option ((List Int)×(List Int)):=
 (cU a0.Other).bind fun j13=>
 (c0.bz.Taken[j13]?).bind fun bv=>
 if IntKind.i64.wrap (bv+1)=bv+1 then
  (cU a0.Var).bind fun j18=>
  (c0.bz.Vars[j18]?).bind fun cj=>
  some (c0.bz.Vars.set j18 bI,c0.bz.Taken.set j13 (bv+1))
 else none
abbrev sG(c0:Runner)(x:((List Int)×(List Int))):bc×St:=(.ret,⟨[],[],ar hp k0 (((zG c0).set 12 (aG x.1)).set 13 (aG x.2))⟩)
theorem wX(hp:HP)(k0:Key)(g:k0.dp<dp)(hz:bF dp hp)(c0:Runner)(a0:Stmt)(bI:Int)(x:((List Int)×(List Int)))(h:lq c0 a0 bI=some x):run G Ω0 ⟨dp,false⟩ UP ⟨[(0,(.p k0 0)),(4,(.p ⟨dp,4⟩ 0)),(6,(I bI))],[(4,(ax a0))],ar hp k0 (ad c0)⟩=some (sG hp k0 c0 x):=
 let B:=aA hp k0 (ad c0);let A:=aj g;oi (bf<|ao (.l (ad c0))<|bt<|xN fun j13=>bf<|ao (.l (ad c0))<|xI fun bv=>let D:=c0.bz.Taken.set j13 (bv+1);let C:=(eD c0).set 13 (aG D);bf<|ao (.l (ad c0))<|ao (.v (I bv))<|ao (.i (bv+1))<|ao (.n j13)<|bf<|ao (.l (ad c0))<|ao (.v (I bv))<|bf<|ao (.l (ad c0))<|ao (.v (I bv))<|ao (.l (D.map I))<|bf<|ao (.l (ad c0))<|bf<|ao (.h (ar hp k0 C))<|bf<|ao (.l C)<|bt<|xN fun j18=>let E:=c0.bz.Vars.set j18 bI;bf<|ao (.l C)<|xI fun cj=>bf<|ao (.l C)<|ao (.v (I cj))<|ao (.l (E.map I))<|bf<|ao (.l C)<|bf<|ao (.h (ar hp k0 (((zG c0).set 12 (aG E)).set 13 (aG D))))<|.nil) fun L=>mu<|ai A<|ai B<|aZ<|ai (rN dp)<|ai tt<|dM h fun j13 b6 h=>ai b6<|ai A<|ai B<|ba h fun bv b3 h=>let K:=aB I b3;let J:=c0.bz.Taken.set j13 (bv+1);let F:=(eD c0).set 13 (aG J);let H:=aA hp k0 F;ai K<|ai A<|ai B<|ai K<|aO h fun cl h=>ai cl<|ai b6<|ai A<|ai B<|ai K<|ai ff<|ai A<|ai B<|ai K<|ai (map_set .. : (c0.bz.Taken.map I).set j13 (I (bv+1))=J.map I)<|ai A<|ai B<|ai A<|ai (bA hp k0 (ad c0) F)<|mu<|ai A<|ai H<|aZ<|ai (rN dp)<|aZ<|dM h fun j18 b7 h=>let M:=c0.bz.Vars.set j18 bI;ai b7<|ai A<|ai H<|ba h fun cj cp h=>ai (aB I cp)<|ai ff<|ai A<|ai H<|ai (aB I cp)<|ai (map_set .. : (c0.bz.Vars.map I).set j18 (I bI)=M.map I)<|ai A<|ai H<|ai A<|ai (bA hp k0 F (((zG c0).set 12 (aG M)).set 13 (aG J)))<|L h
def lr:Option (Runner⊕Runner):=
 if (a0.Kind==4)=true then
  (iR (⟨c0.p,c0.ins,c0.fuel,c0.first,(⟨c0.bz.Events,bs,c0.bz.Taken,c0.bz.Steps,c0.bz.End,c0.bz.Stop⟩:RunT)⟩:Runner) 1 a1 a0.Other r2).bind fun bb=>
  some (.inl bb)
 else
  if (a0.Kind==5)=true then
   (iR (⟨c0.p,c0.ins,c0.fuel,c0.first,(⟨c0.bz.Events,bs,c0.bz.Taken,c0.bz.Steps,c0.bz.End,c0.bz.Stop⟩:RunT)⟩:Runner) 2 a1 a0.Var r2).bind fun al=>
   some (.inl al)
  else
   if (a0.Kind==6)=true then
    (iR (⟨c0.p,c0.ins,c0.fuel,c0.first,(⟨c0.bz.Events,bs,c0.bz.Taken,c0.bz.Steps,c0.bz.End,c0.bz.Stop⟩:RunT)⟩:Runner) 3 a1 a0.Var r2).bind fun ag=>
    some (.inl ag)
   else
    some (.inr (⟨c0.p,c0.ins,c0.fuel,c0.first,(⟨c0.bz.Events,bs,c0.bz.Taken,c0.bz.Steps,c0.bz.End,c0.bz.Stop⟩:RunT)⟩:Runner))
abbrev lu(hp:HP)(k0:Key)(a0:Stmt)(a1:Int)(r2:Int)(x:(Runner⊕Runner)):bc×St:=match x with | .inl z1=>(.nrm,⟨[],[],ar hp k0 (ad z1)⟩) | .inr z1=>(.nrm,⟨[(0,(.p k0 0)),(2,(I a1)),(4,(.p ⟨dp,4⟩ 0)),(8,(I r2)),(102,(.b (a0.Kind==6)))],[(4,(ax a0))],ar hp k0 (ad z1)⟩)
theorem wY(hp:HP)(k0:Key)(g:k0.dp<dp)(hz:bF dp hp)(c0:Runner)(a0:Stmt)(a1:Int)(r2:Int)(bs:(List Int))(x:(Runner⊕Runner))(h:lr c0 a0 a1 r2 bs=some x):run G Ω0 ⟨dp,false⟩ UQ ⟨[(0,(.p k0 0)),(2,(I a1)),(4,(.p ⟨dp,4⟩ 0)),(8,(I r2))],[(4,(ax a0))],ar hp k0 ((cI c0).set 12 (aG bs))⟩=some (lu dp hp k0 a0 a1 r2 x):=
 let D:=aJ g;let C:=(4,(ax a0));let B:=boxes dp [C] (ar hp k0 ((cI c0).set 12 (aG bs)));let A:=(⟨c0.p,c0.ins,c0.fuel,c0.first,(⟨c0.bz.Events,bs,c0.bz.Taken,c0.bz.Steps,c0.bz.End,c0.bz.Stop⟩:RunT)⟩:Runner);oi (bt<|.or (cM<|.ex fun (bb:Runner)=>let E:=ar hp k0 (ad bb);ao (.v (.tp []))<|ao (.h (boxes dp [C] E))<|ao (.bx [C])<|ao (.h E)<|.nil) (bf<|.or (cM<|.ex fun (al:Runner)=>let F:=ar hp k0 (ad al);ao (.v (.tp []))<|ao (.h (boxes dp [C] F))<|ao (.bx [C])<|ao (.h F)<|.nil) (bf<|.or (cM<|.ex fun (ag:Runner)=>let H:=ar hp k0 (ad ag);ao (.v (.tp []))<|ao (.h (boxes dp [C] H))<|ao (.bx [C])<|ao (.h H)<|.nil) (bf<|.nil)))) fun L=>ai (rN dp)<|bB h (fun h9 h=>ai h9<|ai (rN dp)<|ew<|ba h fun bb bV h=>have bV:=cO g (oV (dp+1) B k0 D (aU (an g hz)) A 1 a1 a0.Other r2 _ bV);eo bV (an g hz)<|L h) (fun h9 h=>ai h9<|bB h (fun a4 h=>ai a4<|ai (rN dp)<|ew<|ba h fun al bi h=>have bi:=cO g (oV (dp+1) B k0 D (aU (an g hz)) A 2 a1 a0.Var r2 _ bi);eo bi (an g hz)<|L h) (fun a4 h=>ai a4<|bB h (fun bD h=>ai bD<|ai (rN dp)<|ew<|ba h fun ag bg h=>have bg:=cO g (oV (dp+1) B k0 D (aU (an g hz)) A 3 a1 a0.Var r2 _ bg);eo bg (an g hz)<|L h) (fun bD h=>ai bD<|L h)))
abbrev Lc(dp:Nat)(hp:HP)(k0:Key)(c0:Runner)(a0:Stmt)(a1:Int)(r:Runner):bC×HP:=(.ret (.tp []),ar hp k0 (ad r))
def rH:Option Runner:=
 if (a0.Kind==3)=true then
  (cU a0.Other).bind fun j2=>
  (c0.ins[j2]?).bind fun y4=>
  (c0.bz.Taken[j2]?).bind fun y6=>
  if y6<(y4.length:Int) then
   (cU y6).bind fun j9=>
   (y4[j9]?).bind fun bo=>
   (lq c0 a0 bo).bind fun ch=>
   some (⟨c0.p,c0.ins,c0.fuel,c0.first,(⟨c0.bz.Events,ch.1,ch.2,c0.bz.Steps,c0.bz.End,c0.bz.Stop⟩:RunT)⟩:Runner)
  else
   (lq c0 a0 0).bind fun x9=>
   some (⟨c0.p,c0.ins,c0.fuel,c0.first,(⟨c0.bz.Events,x9.1,x9.2,c0.bz.Steps,c0.bz.End,c0.bz.Stop⟩:RunT)⟩:Runner)
 else
  (oS a0.Expr c0.bz.Vars).bind fun r2=>
  if (a0.Kind !=4)=true then
   (cU a0.Var).bind fun j5=>
   (c0.bz.Vars[j5]?).bind fun y7=>
   (lr c0 a0 a1 r2 (c0.bz.Vars.set j5 r2)).bind fun x9=>match x9 with
   | .inl bX=>
    some bX
   | .inr bW=>
    some bW
  else
   (lr c0 a0 a1 r2 c0.bz.Vars).bind fun x5=>match x5 with
   | .inl bu=>
    some bu
   | .inr ap=>
    some ap
theorem G2(hp:HP)(k0:Key)(g:k0.dp<dp)(hz:bF dp hp)(c0:Runner)(a0:Stmt)(a1:Int)(r:Runner)(h:rH c0 a0 a1=some r):call G Ω0 ⟨dp,false⟩ 154 [(.p k0 0),(.a (ax a0)),(I a1)] (ar hp k0 (ad c0))=some (Lc dp hp k0 c0 a0 a1 r):=
 let B:=aj g;let A:=aA hp k0 (ad c0);bj aoj (bt<|.or (gZ<|ao (.l (ad c0))<|bt<|xN fun j2=>.ex fun (y4:(List Int))=>ao (.v (aS y4))<|bf<|ao (.l (ad c0))<|bt<|ao (.n j2)<|bf<|ao (.l (ad c0))<|xI fun y6=>bf<|ao (.l (ad c0))<|ao (.v (I y6))<|ao (.i (y4.length:Int))<|.or (gZ<|ao (.l (ad c0))<|bt<|ao (.n j2)<|bf<|ao (.l (ad c0))<|ao (.v (I y6))<|bf<|ao (.l (ad c0))<|ao (.v (I y6))<|xN fun j9=>xI fun bo=>.fb<|.ex fun (ch:((List Int)×(List Int)))=>ao (.ei (sG hp k0 c0 ch))<|.nil) (bf<|.fb<|.ex fun (x9:((List Int)×(List Int)))=>ao (.ei (sG hp k0 c0 x9))<|.nil)) (bf<|bt<|bf<|ao (.l (ad c0))<|bf<|ao (.l (ad c0))<|xI fun r2=>bt<|.or (gZ<|ao (.l (ad c0))<|bt<|xN fun j5=>let C:=c0.bz.Vars.set j5 r2;bf<|ao (.l (ad c0))<|xI fun y7=>bf<|ao (.l (ad c0))<|ao (.v (I y7))<|ao (.l (C.map I))<|bf<|ao (.l (ad c0))<|bf<|ao (.h (ar hp k0 ((cI c0).set 12 (aG C))))<|.fb<|.or (.ex fun (bX:Runner)=>ao (.ei (lu dp hp k0 a0 a1 r2 (.inl bX)))<|.nil) (.ex fun (bW:Runner)=>ao (.ei (lu dp hp k0 a0 a1 r2 (.inr bW)))<|.nil)) (bf<|.fb<|.or (.ex fun (bu:Runner)=>ao (.ei (lu dp hp k0 a0 a1 r2 (.inl bu)))<|.nil) (.ex fun (ap:Runner)=>ao (.ei (lu dp hp k0 a0 a1 r2 (.inr ap)))<|.nil)))) fun L=>ai ((by simp [ax,aV g,bm g]):(((.a (ax a0)):AV).deep dp&&(dY dp 4 [(0,(.p k0 0)),(1,(.a (ax a0))),(2,(I a1))] []))=true)<|ai (rN dp)<|bB h (fun h1 h=>A3 h1<|ai B<|ai A<|aZ<|ai (rN dp)<|ai tt<|dM h fun j2 h3 h=>ai h3<|ba h fun y4 h5 h=>ai (aB (db 3 I) h5)<|aZ<|aZ<|aZ<|aZ<|ai B<|ai A<|aZ<|ai (rN dp)<|ai tt<|ai h3<|ai B<|ai A<|ba h fun y6 h7 h=>let D:=aB I h7;ai D<|ai tt<|ai B<|ai A<|ai D<|aZ<|ai (aP I y4)<|ai tt<|cw h (fun h8 h=>ai (aF h8)<|aZ<|aZ<|aZ<|ai B<|ai A<|aZ<|ai (rN dp)<|ai tt<|ai h3<|ai B<|ai A<|ai D<|ai tt<|ai B<|ai A<|ai D<|ai tt<|dM h fun j9 a4 h=>ai a4<|ba h fun bo b0 h=>ai (aB I b0)<|bq h (wX dp hp k0 g hz c0 a0 bo) fun ch h=>L h) (fun h8 h=>ai (aD h8)<|bq h (wX dp hp k0 g hz c0 a0 0) fun x9 h=>L h)) (fun h1 h=>PF h1<|ai (rN dp)<|mu<|ai B<|ai A<|ai tt<|ai B<|ai A<|bq h (tC a0.Expr c0.bz.Vars) fun r2 h=>aZ<|ai (rN dp)<|bB h (fun h4 h=>TH h4<|ai B<|ai A<|aZ<|ai (rN dp)<|aZ<|dM h fun j5 h6 h=>let E:=c0.bz.Vars.set j5 r2;ai h6<|ai B<|ai A<|ba h fun y7 h8 h=>ai (aB I h8)<|ai ff<|ai B<|ai A<|ai (aB I h8)<|ai (map_set .. : (c0.bz.Vars.map I).set j5 (I r2)=E.map I)<|ai B<|ai A<|ai B<|ai (bA hp k0 (ad c0) ((cI c0).set 12 (aG E)))<|dv h (wY dp hp k0 g hz c0 a0 a1 r2 E) (fun bX h=>L h) (fun bW h=>L h)) (fun h4 h=>ai h4<|dv h (wY dp hp k0 g hz c0 a0 a1 r2 c0.bz.Vars) (fun bu h=>L h) (fun ap h=>L h)))
end
section
variable (dp:Nat)(hp:HP)(k0:Key)(k1:Key)(k2:Key)(c0:aI)(c1:Runner)(c2:aW)(a0:(List Stmt))(a1:Int)
abbrev FC(dp:Nat)(hp:HP)(k0:Key)(k1:Key)(k2:Key)(c0:aI)(c1:Runner)(c2:aW)(a0:(List Stmt))(a1:Int)(r:(Bool×aI×Runner)):bC×HP:=(.ret (.b r.1),bn hp k0 k1 k2 r.2.1 r.2.2 c2)
abbrev rk(r:(Bool×aI×Runner)):Prop:=call G Ω0 ⟨dp,false⟩ 68 [(.p k0 0),(.l 111 (a0.map bK)),(I a1)] (bn hp k0 k1 k2 c0 c1 c2)=some (FC dp hp k0 k1 k2 c0 c1 c2 a0 a1 r)
end
section
variable (dp:Nat)(hp:HP)(k0:Key)(k1:Key)(k2:Key)(c0:aI)(c1:Runner)(c2:aW)(a0:Stmt)(a1:Int)
abbrev E4(dp:Nat)(hp:HP)(k0:Key)(k1:Key)(k2:Key)(c0:aI)(c1:Runner)(c2:aW)(a0:Stmt)(a1:Int)(r:(Bool×aI×Runner)):bC×HP:=(.ret (.b r.1),bn hp k0 k1 k2 r.2.1 r.2.2 c2)
abbrev wE(r:(Bool×aI×Runner)):Prop:=call G Ω0 ⟨dp,false⟩ 150 [(.p k0 0),(.a (ax a0)),(I a1)] (bn hp k0 k1 k2 c0 c1 c2)=some (E4 dp hp k0 k1 k2 c0 c1 c2 a0 a1 r)
abbrev D8(dp:Nat)(hp:HP)(k0:Key)(k1:Key)(k2:Key)(c0:aI)(c1:Runner)(c2:aW)(a0:Stmt)(a1:Int)(r:(Bool×aI×Runner)):bC×HP:=(.ret (.b r.1),bn hp k0 k1 k2 r.2.1 r.2.2 c2)
abbrev vI(r:(Bool×aI×Runner)):Prop:=call G Ω0 ⟨dp,false⟩ 151 [(.p k0 0),(.a (ax a0)),(I a1)] (bn hp k0 k1 k2 c0 c1 c2)=some (D8 dp hp k0 k1 k2 c0 c1 c2 a0 a1 r)
abbrev FD(dp:Nat)(hp:HP)(k0:Key)(k1:Key)(k2:Key)(c0:aI)(c1:Runner)(c2:aW)(a0:Stmt)(a1:Int)(r:(Bool×aI×Runner)):bC×HP:=(.ret (.b r.1),bn hp k0 k1 k2 r.2.1 r.2.2 c2)
abbrev wZ(r:(Bool×aI×Runner)):Prop:=call G Ω0 ⟨dp,false⟩ 114 [(.p k0 0),(.a (ax a0)),(I a1)] (bn hp k0 k1 k2 c0 c1 c2)=some (FD dp hp k0 k1 k2 c0 c1 c2 a0 a1 r)
end
structure cX where
 f_watch_watcher_all:aI→Runner→aW→(List Stmt)→Int→Option (Bool×aI×Runner)
 f_watch_watcher_call:aI→Runner→aW→Stmt→Int→Option (Bool×aI×Runner)
 f_watch_watcher_inner:aI→Runner→aW→Stmt→Int→Option (Bool×aI×Runner)
 f_watch_watcher_one:aI→Runner→aW→Stmt→Int→Option (Bool×aI×Runner)
structure bM(R:cX):Prop where
 f_watch_watcher_all:∀ (dp:Nat)(hp:HP)(k0:Key)(g:k0.dp<dp)(k1:Key)(q:k1.dp<dp)(k2:Key)(t:k2.dp<dp)(k:k0≠k1)(j:k0≠k2)(m:k1≠k2)(hz:bF dp hp)(c0:aI)(c1:Runner)(c2:aW)(a0:(List Stmt))(a1:Int)(r:(Bool×aI×Runner)),R.f_watch_watcher_all c0 c1 c2 a0 a1=some r→rk dp hp k0 k1 k2 c0 c1 c2 a0 a1 r
 f_watch_watcher_call:∀ (dp:Nat)(hp:HP)(k0:Key)(g:k0.dp<dp)(k1:Key)(q:k1.dp<dp)(k2:Key)(t:k2.dp<dp)(k:k0≠k1)(j:k0≠k2)(m:k1≠k2)(hz:bF dp hp)(c0:aI)(c1:Runner)(c2:aW)(a0:Stmt)(a1:Int)(r:(Bool×aI×Runner)),R.f_watch_watcher_call c0 c1 c2 a0 a1=some r→wE dp hp k0 k1 k2 c0 c1 c2 a0 a1 r
 f_watch_watcher_inner:∀ (dp:Nat)(hp:HP)(k0:Key)(g:k0.dp<dp)(k1:Key)(q:k1.dp<dp)(k2:Key)(t:k2.dp<dp)(k:k0≠k1)(j:k0≠k2)(m:k1≠k2)(hz:bF dp hp)(c0:aI)(c1:Runner)(c2:aW)(a0:Stmt)(a1:Int)(r:(Bool×aI×Runner)),R.f_watch_watcher_inner c0 c1 c2 a0 a1=some r→vI dp hp k0 k1 k2 c0 c1 c2 a0 a1 r
 f_watch_watcher_one:∀ (dp:Nat)(hp:HP)(k0:Key)(g:k0.dp<dp)(k1:Key)(q:k1.dp<dp)(k2:Key)(t:k2.dp<dp)(k:k0≠k1)(j:k0≠k2)(m:k1≠k2)(hz:bF dp hp)(c0:aI)(c1:Runner)(c2:aW)(a0:Stmt)(a1:Int)(r:(Bool×aI×Runner)),R.f_watch_watcher_one c0 c1 c2 a0 a1=some r→wZ dp hp k0 k1 k2 c0 c1 c2 a0 a1 r
section
variable (R:cX)(c2:aW)(a0:(List Stmt))(hp:HP)(k0:Key)(k1:Key)(k2:Key)(c0:aI)(c1:Runner)
def lP(v0_k0:aI)(v0_k1:Runner)(be:Int)(w:Nat):Option ((aI×Runner×Int×Nat)⊕((aI×Runner)⊕(Int×Nat×Bool×aI×Runner))):=
 if (w:Int)<(a0.length:Int) then
  (a0[w]?).bind fun y2=>
  (R.f_watch_watcher_one v0_k0 v0_k1 c2 y2 be).bind fun r4=>
  if r4.1=true then
   (qB y2.Then).bind fun r7=>
   if IntKind.i64.wrap (1+r7)=1+r7 then
    (qB y2.Else).bind fun bb=>
    if IntKind.i64.wrap ((1+r7)+bb)=(1+r7)+bb then
     if IntKind.i64.wrap (be+((1+r7)+bb))=be+((1+r7)+bb) then
      if IntKind.i64.wrap ((w:Int)+1)=((w+1:Nat):Int) then
       some (.inl (r4.2.1,r4.2.2,be+((1+r7)+bb),w+1))
      else none
     else none
    else none
   else none
  else
   some (.inr (.inl (r4.2.1,r4.2.2)))
 else
  some (.inr (.inr (be,w,decide ((w:Int)<(a0.length:Int)),v0_k0,v0_k1)))
abbrev D9(c2:aW)(a0:(List Stmt))(v:(aI×Runner×Int×Nat)):St:=⟨[(0,(.p k0 0)),(2,(I v.2.2.1)),(9,(bh a0)),(10,(zI a0.length)),(11,(I (v.2.2.2:Int)))],[],bn hp k0 k1 k2 v.1 v.2.1 c2⟩
abbrev pH(c2:aW)(a0:(List Stmt))(x:((aI×Runner)⊕(Int×Nat×Bool×aI×Runner))):bc×St:=match x with | .inl (z1,z2)=>(.ret,⟨[(6,(.b false))],[],bn hp k0 k1 k2 z1 z2 c2⟩) | .inr (z1,z2,z3,z4,z5)=>((.ex 0),⟨[(0,(.p k0 0)),(2,(I z1)),(9,(bh a0)),(10,(zI a0.length)),(11,(I (z2:Int))),(12,(.b z3))],[],bn hp k0 k1 k2 z4 z5 c2⟩)
theorem Dn(hR:bM R)(dp:Nat)(hp:HP)(k0:Key)(g:k0.dp<dp)(k1:Key)(q:k1.dp<dp)(k2:Key)(t:k2.dp<dp)(k:k0≠k1)(j:k0≠k2)(m:k1≠k2)(hz:bF dp hp)(c2:aW)(a0:(List Stmt))(v0_k0:aI)(v0_k1:Runner)(be:Int)(w:Nat)(o:(aI×Runner×Int×Nat)⊕((aI×Runner)⊕(Int×Nat×Bool×aI×Runner)))(h:lP R c2 a0 v0_k0 v0_k1 be w=some o):bQ ⟨dp,false⟩ YL (D9 hp k0 k1 k2 c2 a0) (pH hp k0 k1 k2 c2 a0) (v0_k0,v0_k1,be,w) o:=
 bZ (.or (bt<|ao (.n w)<|.ex fun (y2:Stmt)=>ao (.v (.a (ax y2)))<|ea<|.ex fun (r4:(Bool×aI×Runner))=>let A:=bn hp k0 k1 k2 r4.2.1 r4.2.2 c2;ao (.v (.b r4.1))<|ao (.h (boxes dp [(8,(ax y2))] A))<|ao (.bx [(8,(ax y2))])<|ao (.h A)<|.or (we<|xI fun r7=>ao (.i (1+r7))<|bt<|xI fun bb=>ao (.i ((1+r7)+bb))<|ao (.i (be+((1+r7)+bb)))<|ao (.i ((w+1:Nat):Int))<|.nil) (bt<|.nil)) (bf<|.nil)) fun L=>cw h (fun h1 h=>ai (aF h1)<|ai (rI w)<|ba h fun y2 h3 h=>ai (dR bK h3 (gE _))<|ai ((by simp [ax,aV g,bm g,aV q,bm q,aV t,bm t]):(dY dp 8 [(14,(.a (ax y2))),(13,(.e (.a (ax y2)) 0)),(0,(.p k0 0)),(2,(I be)),(9,(.l 111 (a0.map bK))),(10,(I (a0.length:Int))),(11,(I (w:Int)))] [])=true)<|ai ff<|ai (rN dp)<|ai tt<|ai (rN dp)<|ai (rN dp)<|ew<|ba h fun r4 au h=>have au:=mc g q t k j m (hR.f_watch_watcher_one (dp+1) (boxes dp [(8,(ax y2))] (bn hp k0 k1 k2 v0_k0 v0_k1 c2)) k0 (aJ g) k1 (aJ q) k2 (aJ t) k j m (aU (an t (an q (an g hz)))) v0_k0 v0_k1 c2 y2 be _ au);eo au (an t (an q (an g hz)))<|bB h (fun h6 h=>wa (az not h6)<|ai (rN dp)<|ai tt<|bq h (uR y2.Then) fun r7 h=>ai tt<|aO h fun w9 h=>ai w9<|aZ<|ai (rN dp)<|ai tt<|bq h (uR y2.Else) fun bb h=>ai tt<|aO h fun cv h=>ai cv<|ai tt<|aO h fun cu h=>ai cu<|aO h fun ci h=>ai ci<|L h) (fun h6 h=>ai (az not h6)<|L h)) (fun h1 h=>ai (aD h1)<|L h)
def mK(c2:aW)(a0:(List Stmt))(a1:Int):Option (Bool×aI×Runner):=
 (lp (fun v=>lP R c2 a0 v.1 v.2.1 v.2.2.1 v.2.2.2) (c0,c1,a1,0)).bind fun x1=>match x1 with
 | .inl bl=>
  some (false,bl.1,bl.2)
 | .inr bk=>
  some (true,bk.2.2.2.1,bk.2.2.2.2)
theorem BU(hR:bM R)(dp:Nat)(hp:HP)(k0:Key)(g:k0.dp<dp)(k1:Key)(q:k1.dp<dp)(k2:Key)(t:k2.dp<dp)(k:k0≠k1)(j:k0≠k2)(m:k1≠k2)(hz:bF dp hp)(c0:aI)(c1:Runner)(c2:aW)(a0:(List Stmt))(a1:Int)(r:(Bool×aI×Runner))(h:mK R c0 c1 c2 a0 a1=some r):rk dp hp k0 k1 k2 c0 c1 c2 a0 a1 r:=
 bj G68 (ao (.i (a0.length:Int))<|.or (.ex fun (bl:(aI×Runner))=>ao (.cA (pH hp k0 k1 k2 c2 a0 (.inl bl)))<|.nil) (.ex fun (bk:(Int×Nat×Bool×aI×Runner))=>ao (.cA (pH hp k0 k1 k2 c2 a0 (.inr bk)))<|.nil)) fun L=>ai (aP bK a0)<|dv h (dT (fun v=>Dn R hR dp hp k0 g k1 q k2 t k j m hz c2 a0 v.1 v.2.1 v.2.2.1 v.2.2.2) (c0,c1,a1,0)) (fun bl h=>L h) (fun bk h=>L h)
end
section
variable (R:cX)(c0:aI)(c1:Runner)(c2:aW)(a0:Stmt)(a1:Int)(dp:Nat)(hp:HP)(k0:Key)(k1:Key)(k2:Key)
def lQ:Option (Bool×aI×Runner):=
 (lN c0 c1 c2 a0).bind fun r1=>
 if r1.1=true then
  (oy c1 a0).bind fun r4=>
  (cU a0.Other).bind fun j6=>
  (r1.2.p.Funcs[j6]?).bind fun y8=>
  (gN r4 a0.Other).bind fun bb=>
  (R.f_watch_watcher_all r1.2 r4 c2 y8.Body bb).bind fun ag=>
  if ag.1=true then
   (eR ag.2.1 ag.2.2 c2 y8.Result).bind fun bY=>
   (fV ag.2.1 ag.2.2 c2 a0.Var bY).bind fun bd=>
   if bd.1=true then
    (oz ag.2.2 a0).bind fun a5=>
    some (true,bd.2,a5)
   else
    (ix bd.2 ag.2.2 c2 a1).bind fun a5=>
    some (a5.1,bd.2,a5.2)
  else
   some (false,ag.2.1,ag.2.2)
 else
  (ix r1.2 c1 c2 a1).bind fun r4=>
  some (r4.1,r1.2,r4.2)
theorem Bw(hR:bM R)(dp:Nat)(hp:HP)(k0:Key)(g:k0.dp<dp)(k1:Key)(q:k1.dp<dp)(k2:Key)(t:k2.dp<dp)(k:k0≠k1)(j:k0≠k2)(m:k1≠k2)(hz:bF dp hp)(c0:aI)(c1:Runner)(c2:aW)(a0:Stmt)(a1:Int)(r:(Bool×aI×Runner))(h:lQ R c0 c1 c2 a0 a1=some r):wE dp hp k0 k1 k2 c0 c1 c2 a0 a1 r:=
 let J:=eu g [7] [] 0;let H:=aj g;let F:=aj q;let E:=aJ t;let D:=aJ g;let C:=dh m;let B:=aJ q;let A:=(4,(ax a0));bj aof (bt<|.ex fun (r1:(Bool×aI))=>let M:=bn hp k0 k1 k2 r1.2 c1 c2;let K:=dc k1 k2 r1.2;ao (.v (.b r1.1))<|ao (.h (boxes dp [A] M))<|ao (.bx [A])<|ao (.h M)<|.or (IG<|ao (.l K)<|bt<|.ex fun (r4:Runner)=>let N:=bn hp k0 k1 k2 r1.2 r4 c2;ao (.v (.tp []))<|ao (.h (boxes dp [A] N))<|ao (.bx [A])<|ao (.h N)<|bf<|ao (.l K)<|bt<|xN fun j6=>.ex fun (y8:Func)=>let O:=[A,(7,(cB y8))];ao (.v (.a (cB y8)))<|PL<|ao (.l K)<|bt<|xI fun bb=>ao (.h (boxes dp [] N))<|.ex fun (ag:(Bool×aI×Runner))=>let P:=bn hp k0 k1 k2 ag.2.1 ag.2.2 c2;ao (.v (.b ag.1))<|ao (.h (boxes dp O P))<|ao (.bx O)<|ao (.h P)<|.or (bf<|bt<|bt<|.ex fun (bY:Level)=>ao (.v (.a [(aw bY.Readers),(aw bY.Writers)]))<|ao (.h (boxes dp [] P))<|.ex fun (bd:(Bool×aI))=>let Q:=bn hp k0 k1 k2 bd.2 ag.2.2 c2;ao (.v (.b bd.1))<|ao (.h (boxes dp O Q))<|ao (.bx O)<|ao (.h Q)<|.or (IG<|ao (.l (dc k1 k2 bd.2))<|bt<|.ex fun (a5:Runner)=>let S:=bn hp k0 k1 k2 bd.2 a5 c2;ao (.v (.tp []))<|ao (.h (boxes dp [A] S))<|ao (.bx [A])<|ao (.h S)<|.nil) (bt<|.ex fun (a5:(Bool×Runner))=>let T:=bn hp k0 k1 k2 bd.2 a5.2 c2;ao (.v (.b a5.1))<|ao (.h (boxes dp [A] T))<|ao (.bx [A])<|ao (.h T)<|.nil)) (bt<|.nil)) (bt<|.ex fun (r4:(Bool×Runner))=>let U:=bn hp k0 k1 k2 r1.2 r4.2 c2;ao (.v (.b r4.1))<|ao (.h (boxes dp [A] U))<|ao (.bx [A])<|ao (.h U)<|.nil)) fun L=>ai ((by simp [ax,aV g,bm g,aV q,bm q,aV t,bm t]):(((.a (ax a0)):AV).deep dp&&(dY dp 4 [(0,(.p k0 0)),(1,(.a (ax a0))),(2,(I a1))] []))=true)<|ai (rN dp)<|ew<|ba h fun r1 aK h=>let W:=dc k1 k2 r1.2;let V:=boxes dp [A] (bn hp k0 k1 k2 r1.2 c1 c2);have aK:=mc g q t k j m (Bu (dp+1) (boxes dp [A] (bn hp k0 k1 k2 c0 c1 c2)) k0 D k1 B k2 E k j m (aU (an t (an q (an g hz)))) c0 c1 c2 a0 _ aK);eo aK (an t (an q (an g hz)))<|bB h (fun h3 h=>A3 (az not h3)<|ai H<|ai (eb k j:(bn hp k0 k1 k2 r1.2 c1 c2) k0=some W)<|ai tt<|ai (rN dp)<|EN<|ba h fun r4 au h=>let X:=bn hp k0 k1 k2 r1.2 r4 c2;let Y:=(eb k j:X k0=some W);have au:call G Ω0 ⟨dp+1,false⟩ 191 [(.p k1 0),(.a (ax a0))] V=some (.ret (.tp []),boxes dp [A] X):=ek (c8 (hp1:=bn hp k0 k1 k2 r1.2 c1 c2) F (dj C (bA ..))) (c8 (hp1:=bn hp k0 k1 k2 r1.2 r4 c2) F (dj C (bA ..))) (D5 (dp+1) V k1 B (aU (an t (an q (an g hz)))) c1 a0 _ au);eo au (an t (an q (an g hz)))<|ai ((by simp [ax,aV g,aV q,aV t]):(([7]:List Nat).all (ee dp (⟨[(0,(.p k0 0)),(2,(I a1)),(4,(.p ⟨dp,4⟩ 0))],[(4,(ax a0))],H0⟩:St))&&true)=true)<|ai J<|ai J<|ai (eu g [7] [] 1)<|ai (eu g [7] [] 7)<|ai H<|ai Y<|ai tt<|ai (ji dp [7] [] 4 2)<|ai (rN dp)<|ai tt<|dM h fun j6 h7 h=>ai h7<|ba h fun y8 h9 h=>ai (aB cS h9)<|aZ<|aZ<|ai ff<|ai (rN dp)<|ai tt<|ai (rN dp)<|eH<|ai (rN dp)<|fH<|ai H<|ai Y<|aZ<|ai (rN dp)<|aZ<|ba h fun bb bV h=>have bV:call G Ω0 ⟨dp+1,true⟩ 69 [(.p k1 0),(I a0.Other)] (boxes dp [] X)=some (.ret (I bb),boxes dp [] X):=ek (c8 (hp1:=bn hp k0 k1 k2 r1.2 r4 c2) F (dj C (bA ..))) (c8 (hp1:=bn hp k0 k1 k2 r1.2 r4 c2) F (dj C (bA ..))) (vH (dp+1) (boxes dp [] X) k1 B (aU (an t (an q (an g hz)))) r4 a0.Other _ bV);ai bV<|EN<|ba h fun ag bg h=>let Z:=bn hp k0 k1 k2 ag.2.1 ag.2.2 c2;have bg:=mc g q t k j m (hR.f_watch_watcher_all (dp+1) (boxes dp [A,(7,(cB y8))] X) k0 D k1 B k2 E k j m (aU (an t (an q (an g hz)))) r1.2 r4 c2 y8.Body bb _ bg);eo bg (an t (an q (an g hz)))<|bB h (fun b6 h=>wa (az not b6)<|ai (rN dp)<|eH<|ai (rN dp)<|aZ<|ba h fun bY bU h=>have bU:=mc g q t k j m (gv (dp+1) (boxes dp [] Z) k0 D k1 B k2 E k j m (aU (an t (an q (an g hz)))) ag.2.1 ag.2.2 c2 y8.Result _ bU);ai bU<|EN<|ba h fun bd bR h=>let c:=bn hp k0 k1 k2 bd.2 ag.2.2 c2;let d:=boxes dp [A] c;have bR:=mc g q t k j m (kZ (dp+1) (boxes dp [A,(7,(cB y8))] Z) k0 D k1 B k2 E k j m (aU (an t (an q (an g hz)))) ag.2.1 ag.2.2 c2 a0.Var bY _ bR);eo bR (an t (an q (an g hz)))<|bB h (fun b7 h=>A3 (az not b7)<|ai H<|ai (eb k j:c k0=some (dc k1 k2 bd.2))<|ai tt<|ai (rN dp)<|EN<|ba h fun a5 bP h=>have bP:call G Ω0 ⟨dp+1,false⟩ 194 [(.p k1 0),(.a (ax a0))] d=some (.ret (.tp []),boxes dp [A] (bn hp k0 k1 k2 bd.2 a5 c2)):=ek (c8 (hp1:=bn hp k0 k1 k2 bd.2 ag.2.2 c2) F (dj C (bA ..))) (c8 (hp1:=bn hp k0 k1 k2 bd.2 a5 c2) F (dj C (bA ..))) (D6 (dp+1) d k1 B (aU (an t (an q (an g hz)))) ag.2.2 a0 _ bP);eo bP (an t (an q (an g hz)))<|L h) (fun b7 h=>ai (az not b7)<|ew<|ba h fun a5 bP h=>have bP:=mc g q t k j m (l9 (dp+1) d k0 D k1 B k2 E k j m (aU (an t (an q (an g hz)))) bd.2 ag.2.2 c2 a1 _ bP);eo bP (an t (an q (an g hz)))<|L h)) (fun b6 h=>ai (az not b6)<|L h)) (fun h3 h=>ai (az not h3)<|ew<|ba h fun r4 au h=>have au:=mc g q t k j m (l9 (dp+1) V k0 D k1 B k2 E k j m (aU (an t (an q (an g hz)))) r1.2 c1 c2 a1 _ au);eo au (an t (an q (an g hz)))<|L h)
def ky(v0_k0:aI)(v0_k1:Runner):Option ((aI×Runner)⊕((aI×Runner)⊕(Bool×aI×Runner))):=
 (ml v0_k1 a0.Expr).bind fun r4=>
 if r4=true then
  if IntKind.i64.wrap (a1+1)=a1+1 then
   (R.f_watch_watcher_all v0_k0 v0_k1 c2 a0.Then (a1+1)).bind fun r8=>
   if r8.1=true then
    (mj r8.2.2).bind fun al=>
    if al.1=true then
     (jY r8.2.1 al.2 c2 a0.Expr).bind fun aa=>
     some (.inl (aa,al.2))
    else
     some (.inr (.inl (r8.2.1,al.2)))
   else
    some (.inr (.inl (r8.2.1,r8.2.2)))
  else none
 else
  some (.inr (.inr (r4,v0_k0,v0_k1)))
abbrev BV(c2:aW)(a0:Stmt)(a1:Int)(v:(aI×Runner)):St:=⟨[(0,(.p k0 0)),(2,(I a1)),(4,(.p ⟨dp,4⟩ 0))],[(4,(ax a0))],bn hp k0 k1 k2 v.1 v.2 c2⟩
abbrev nU(c2:aW)(a0:Stmt)(a1:Int)(x:((aI×Runner)⊕(Bool×aI×Runner))):bc×St:=match x with | .inl (z1,z2)=>(.ret,⟨[(6,(.b false))],[],bn hp k0 k1 k2 z1 z2 c2⟩) | .inr (z1,z2,z3)=>((.ex 0),⟨[(0,(.p k0 0)),(2,(I a1)),(4,(.p ⟨dp,4⟩ 0)),(36,(.b z1))],[(4,(ax a0))],bn hp k0 k1 k2 z2 z3 c2⟩)
theorem Bx(hR:bM R)(dp:Nat)(hp:HP)(k0:Key)(g:k0.dp<dp)(k1:Key)(q:k1.dp<dp)(k2:Key)(t:k2.dp<dp)(k:k0≠k1)(j:k0≠k2)(m:k1≠k2)(hz:bF dp hp)(c2:aW)(a0:Stmt)(a1:Int)(v0_k0:aI)(v0_k1:Runner)(o:(aI×Runner)⊕((aI×Runner)⊕(Bool×aI×Runner)))(h:ky R c2 a0 a1 v0_k0 v0_k1=some o):bQ ⟨dp,false⟩ UO (BV dp hp k0 k1 k2 c2 a0 a1) (nU dp hp k0 k1 k2 c2 a0 a1) (v0_k0,v0_k1) o:=
 let F:=aJ q;let E:=aj q;let D:=bn hp k0 k1 k2 v0_k0 v0_k1 c2;let C:=dh m;let B:=(4,(ax a0));let A:=boxes dp [B] D;bZ (bf<|ao (.l (dc k1 k2 v0_k0))<|bt<|xB fun r4=>ao (.h A)<|.or (cM<|ao (.i (a1+1))<|.ex fun (r8:(Bool×aI×Runner))=>let H:=bn hp k0 k1 k2 r8.2.1 r8.2.2 c2;ao (.v (.b r8.1))<|ao (.h (boxes dp [B] H))<|ao (.bx [B])<|ao (.h H)<|.or (PH<|ao (.l (dc k1 k2 r8.2.1))<|bt<|.ex fun (al:(Bool×Runner))=>let J:=bn hp k0 k1 k2 r8.2.1 al.2 c2;ao (.v (.b al.1))<|ao (.h (boxes dp [B] J))<|ao (.bx [B])<|ao (.h J)<|gZ<|.or (we<|.ex fun (aa:aI)=>let K:=bn hp k0 k1 k2 aa al.2 c2;ao (.v (.tp []))<|ao (.h (boxes dp [B] K))<|ao (.bx [B])<|ao (.h K)<|.nil) (bt<|.nil)) (Xr<|.nil)) (bf<|.nil)) fun L=>fH<|ai (aj g)<|ai (eb k j:D k0=some (dc k1 k2 v0_k0))<|aZ<|ai (rN dp)<|aZ<|ba h fun r4 au h=>have au:call G Ω0 ⟨dp+1,true⟩ 197 [(.p k1 0),(.a (bL a0.Expr))] A=some (.ret (.b r4),boxes dp [B] D):=ek (c8 (hp1:=bn hp k0 k1 k2 v0_k0 v0_k1 c2) E (dj C (bA ..))) (c8 (hp1:=bn hp k0 k1 k2 v0_k0 v0_k1 c2) E (dj C (bA ..))) (wD (dp+1) A k1 F (aU (an t (an q (an g hz)))) v0_k1 a0.Expr _ au);ai au<|bB h (fun h6 h=>ai h6<|ai (rN dp)<|aO h fun w7 h=>ai w7<|ew<|ba h fun r8 bJ h=>let M:=bn hp k0 k1 k2 r8.2.1 r8.2.2 c2;have bJ:=mc g q t k j m (hR.f_watch_watcher_all (dp+1) A k0 (aJ g) k1 F k2 (aJ t) k j m (aU (an t (an q (an g hz)))) v0_k0 v0_k1 c2 a0.Then (a1+1) _ bJ);eo bJ (an t (an q (an g hz)))<|bB h (fun a4 h=>let N:=az not a4;fy N<|ai (g0 N)<|ai (aj g)<|ai (eb k j:M k0=some (dc k1 k2 r8.2.1))<|ai (g0 N)<|ew<|ba h fun al bi h=>let O:=bn hp k0 k1 k2 r8.2.1 al.2 c2;have bi:call G Ω0 ⟨dp+1,false⟩ 149 [(.p k1 0)] (boxes dp [B] M)=some (.ret (.b al.1),boxes dp [B] O):=ek (c8 (hp1:=bn hp k0 k1 k2 r8.2.1 r8.2.2 c2) E (dj C (bA ..))) (c8 (hp1:=bn hp k0 k1 k2 r8.2.1 al.2 c2) E (dj C (bA ..))) (wA (dp+1) (boxes dp [B] M) k1 F (aU (an t (an q (an g hz)))) r8.2.2 _ bi);eo bi (an t (an q (an g hz)))<|iD N<|bB h (fun a7 h=>ai (az not a7)<|ai (rN dp)<|ew<|ba h fun aa aR h=>have aR:=mc g q t k j m (tY (dp+1) (boxes dp [B] O) k0 (aJ g) k1 F k2 (aJ t) k j m (aU (an t (an q (an g hz)))) r8.2.1 al.2 c2 a0.Expr _ aR);eo aR (an t (an q (an g hz)))<|L h) (fun a7 h=>ai (az not a7)<|L h)) (fun a4 h=>Xn (az not a4)<|L h)) (fun h6 h=>ai h6<|L h)
def la:Option (Bool×aI×Runner):=
 (jY c0 c1 c2 a0.Expr).bind fun r1=>
 if (a0.Kind==7)=true then
  (ug c1 a0 a1).bind fun r4=>
  (R.f_watch_watcher_all r1 c1 c2 r4.1 r4.2).bind fun r6=>
  some (r6.1,r6.2.1,r6.2.2)
 else
  (lp (fun v=>ky R c2 a0 a1 v.1 v.2) (r1,c1)).bind fun x4=>match x4 with
  | .inl b5=>
   some (false,b5.1,b5.2)
  | .inr b4=>
   some (true,b4.2.1,b4.2.2)
theorem Az(hR:bM R)(dp:Nat)(hp:HP)(k0:Key)(g:k0.dp<dp)(k1:Key)(q:k1.dp<dp)(k2:Key)(t:k2.dp<dp)(k:k0≠k1)(j:k0≠k2)(m:k1≠k2)(hz:bF dp hp)(c0:aI)(c1:Runner)(c2:aW)(a0:Stmt)(a1:Int)(r:(Bool×aI×Runner))(h:la R c0 c1 c2 a0 a1=some r):vI dp hp k0 k1 k2 c0 c1 c2 a0 a1 r:=
 let B:=aJ q;let A:=(4,(ax a0));bj aog (bt<|.ex fun (r1:aI)=>let C:=bn hp k0 k1 k2 r1 c1 c2;ao (.v (.tp []))<|ao (.h (boxes dp [A] C))<|ao (.bx [A])<|ao (.h C)<|bt<|.or (gZ<|ao (.l (dc k1 k2 r1))<|bt<|.ex fun (r4:((List Stmt)×Int))=>ao (.v (.tp [(bh r4.1),(I r4.2)]))<|ao (.h (boxes dp [] C))<|.ex fun (r6:(Bool×aI×Runner))=>let D:=bn hp k0 k1 k2 r6.2.1 r6.2.2 c2;ao (.v (.b r6.1))<|ao (.h (boxes dp [] D))<|ao (.bx [])<|ao (.h D)<|.nil) (bf<|.or (.ex fun (b5:(aI×Runner))=>ao (.cA (nU dp hp k0 k1 k2 c2 a0 a1 (.inl b5)))<|.nil) (.ex fun (b4:(Bool×aI×Runner))=>ao (.cA (nU dp hp k0 k1 k2 c2 a0 a1 (.inr b4)))<|.nil))) fun L=>ai ((by simp [ax,aV g,bm g,aV q,bm q,aV t,bm t]):(((.a (ax a0)):AV).deep dp&&(dY dp 4 [(0,(.p k0 0)),(1,(.a (ax a0))),(2,(I a1))] []))=true)<|ai (rN dp)<|ew<|ba h fun r1 aK h=>let E:=bn hp k0 k1 k2 r1 c1 c2;let F:=boxes dp [] E;have aK:=mc g q t k j m (tY (dp+1) (boxes dp [A] (bn hp k0 k1 k2 c0 c1 c2)) k0 (aJ g) k1 B k2 (aJ t) k j m (aU (an t (an q (an g hz)))) c0 c1 c2 a0.Expr _ aK);eo aK (an t (an q (an g hz)))<|ai (rN dp)<|bB h (fun h3 h=>A3 h3<|ai (aj g)<|ai (eb k j:E k0=some (dc k1 k2 r1))<|ai tt<|ai (rN dp)<|eH<|ba h fun r4 au h=>have au:call G Ω0 ⟨dp+1,true⟩ 196 [(.p k1 0),(.a (ax a0)),(I a1)] F=some (.ret (.tp [(bh r4.1),(I r4.2)]),boxes dp [] E):=ek (c8 (hp1:=bn hp k0 k1 k2 r1 c1 c2) (aj q) (dj (dh m) (bA ..))) (c8 (hp1:=bn hp k0 k1 k2 r1 c1 c2) (aj q) (dj (dh m) (bA ..))) (E3 (dp+1) F k1 B (aU (an t (an q (an g hz)))) c1 a0 a1 _ au);ai au<|aZ<|aZ<|ai tt<|ew<|ba h fun r6 bO h=>have bO:=mc g q t k j m (hR.f_watch_watcher_all (dp+1) F k0 (aJ g) k1 B k2 (aJ t) k j m (aU (an t (an q (an g hz)))) r1 c1 c2 r4.1 r4.2 _ bO);eo bO (an t (an q (an g hz)))<|L h) (fun h3 h=>ai h3<|dv h (dT (fun v=>Bx R hR dp hp k0 g k1 q k2 t k j m hz c2 a0 a1 v.1 v.2) (r1,c1)) (fun b5 h=>L h) (fun b4 h=>L h))
def mL:Option (Bool×aI×Runner):=
 (mj c1).bind fun r1=>
 if r1.1=true then
  if (a0.Kind==2)=true then
   (R.f_watch_watcher_call c0 r1.2 c2 a0 a1).bind fun r5=>
   some (r5.1,r5.2.1,r5.2.2)
  else
   if 7≤a0.Kind then
    (R.f_watch_watcher_inner c0 r1.2 c2 a0 a1).bind fun r6=>
    if c0.places.length≤r6.2.1.places.length then
     some (r6.1,(⟨(),r6.2.1.p,r6.2.1.vars,r6.2.1.places.take c0.places.length,()⟩:aI),r6.2.2)
    else none
   else
    (lO c0 r1.2 c2 a0).bind fun r6=>
    if r6.1=true then
     (rH r1.2 a0 a1).bind fun r9=>
     some (true,r6.2,r9)
    else
     (ix r6.2 r1.2 c2 a1).bind fun r9=>
     some (r9.1,r6.2,r9.2)
 else
  some (false,c0,r1.2)
theorem BW(hR:bM R)(dp:Nat)(hp:HP)(k0:Key)(g:k0.dp<dp)(k1:Key)(q:k1.dp<dp)(k2:Key)(t:k2.dp<dp)(k:k0≠k1)(j:k0≠k2)(m:k1≠k2)(hz:bF dp hp)(c0:aI)(c1:Runner)(c2:aW)(a0:Stmt)(a1:Int)(r:(Bool×aI×Runner))(h:mL R c0 c1 c2 a0 a1=some r):wZ dp hp k0 k1 k2 c0 c1 c2 a0 a1 r:=
 let M:=aJ t;let K:=aJ g;let J:=aj q;let H:=dh m;let F:=(c0.places.length:Int);let E:=aJ q;let D:=bn hp k0 k1 k2 c0 c1 c2;let C:=dc k1 k2 c0;let B:=aj g;let A:=(4,(ax a0));bj anU (bf<|ao (.l C)<|.ex fun (r1:(Bool×Runner))=>let N:=bn hp k0 k1 k2 c0 r1.2 c2;ao (.v (.b r1.1))<|ao (.h (boxes dp [A] N))<|ao (.bx [A])<|ao (.h N)<|.or (we<|.or (cM<|.ex fun (r5:(Bool×aI×Runner))=>let O:=bn hp k0 k1 k2 r5.2.1 r5.2.2 c2;ao (.v (.b r5.1))<|ao (.h (boxes dp [A] O))<|ao (.bx [A])<|ao (.h O)<|.nil) (we<|.or (gZ<|ao (.l C)<|bf<|ao (.l C)<|ao (.i F)<|bt<|.ex fun (r6:(Bool×aI×Runner))=>let S:=bn hp k0 k1 k2 r6.2.1 r6.2.2 c2;let Q:=r6.2.1.places.take c0.places.length;let P:=dc k1 k2 r6.2.1;ao (.v (.b r6.1))<|ao (.h (boxes dp [A] S))<|ao (.bx [A])<|ao (.h S)<|bf<|ao (.l P)<|bf<|ao (.l P)<|ao (.n c0.places.length)<|ao (.n c0.places.length)<|bf<|ao (.l P)<|bf<|ao (.l P)<|ao (.l (Q.map aC))<|bf<|ao (.h (ar (ar (ar hp k0 ((((ie r6.2.1).set 0 (.p k1 0)).set 10 (av Q)).set 11 (.p k2 0))) k1 (ad r6.2.2)) k2 (aM c2)))<|.nil) (we<|.ex fun (r6:(Bool×aI))=>let T:=bn hp k0 k1 k2 r6.2 r1.2 c2;ao (.v (.b r6.1))<|ao (.h (boxes dp [A] T))<|ao (.bx [A])<|ao (.h T)<|.or (IG<|ao (.l (dc k1 k2 r6.2))<|bt<|.ex fun (r9:Runner)=>let U:=bn hp k0 k1 k2 r6.2 r9 c2;ao (.v (.tp []))<|ao (.h (boxes dp [A] U))<|ao (.bx [A])<|ao (.h U)<|.nil) (bt<|.ex fun (r9:(Bool×Runner))=>let V:=bn hp k0 k1 k2 r6.2 r9.2 c2;ao (.v (.b r9.1))<|ao (.h (boxes dp [A] V))<|ao (.bx [A])<|ao (.h V)<|.nil)))) (bt<|.nil)) fun L=>ai ((by simp [ax,aV g,bm g,aV q,bm q,aV t,bm t]):(((.a (ax a0)):AV).deep dp&&(dY dp 4 [(0,(.p k0 0)),(1,(.a (ax a0))),(2,(I a1))] []))=true)<|ai B<|ai (eb k j:D k0=some C)<|ew<|ba h fun r1 aK h=>let W:=bn hp k0 k1 k2 c0 r1.2 c2;let Y:=boxes dp [A] W;let X:=(eb k j:W k0=some C);have aK:call G Ω0 ⟨dp+1,false⟩ 149 [(.p k1 0)] (boxes dp [A] D)=some (.ret (.b r1.1),boxes dp [A] W):=ek (c8 (hp1:=bn hp k0 k1 k2 c0 c1 c2) J (dj H (bA ..))) (c8 (hp1:=bn hp k0 k1 k2 c0 r1.2 c2) J (dj H (bA ..))) (wA (dp+1) (boxes dp [A] D) k1 E (aU (an t (an q (an g hz)))) c1 _ aK);eo aK (an t (an q (an g hz)))<|bB h (fun h3 h=>ai (az not h3)<|ai (rN dp)<|bB h (fun h4 h=>ai h4<|ai (rN dp)<|ew<|ba h fun r5 cm h=>have cm:=mc g q t k j m (hR.f_watch_watcher_call (dp+1) Y k0 K k1 E k2 M k j m (aU (an t (an q (an g hz)))) c0 r1.2 c2 a0 a1 _ cm);eo cm (an t (an q (an g hz)))<|L h) (fun h4 h=>ai h4<|ai (rN dp)<|cw h (fun h5 h=>ai (aF h5)<|ai B<|ai X<|ai B<|ai X<|ai (aP aC c0.places)<|ai (rN dp)<|ew<|ba h fun r6 bO h=>let d:=(((ie r6.2.1).set 0 (.p k1 0)).set 10 (av (r6.2.1.places.take c0.places.length))).set 11 (.p k2 0);let Z:=(eb k j:(bn hp k0 k1 k2 r6.2.1 r6.2.2 c2) k0=some (dc k1 k2 r6.2.1));have bO:=mc g q t k j m (hR.f_watch_watcher_inner (dp+1) Y k0 K k1 E k2 M k j m (aU (an t (an q (an g hz)))) c0 r1.2 c2 a0 a1 _ bO);eo bO (an t (an q (an g hz)))<|ai B<|ai Z<|ai B<|ai Z<|ai (rfl:F=F)<|ai (du _:0≤c0.places.length)<|aO h fun h8 h=>ai ((by rw [jf];exact h8):c0.places.length≤(r6.2.1.places.map aC).length)<|ai ((by simp):c0.places.length - 0=c0.places.length)<|ai ff<|ai B<|ai Z<|ai (rfl:((.c k0 10):Pl)=(.c k0 10))<|ai B<|ai Z<|ai ((by rw [jf];exact h8):c0.places.length≤(r6.2.1.places.map aC).length)<|ai (map_take aC r6.2.1.places c0.places.length)<|ai B<|ai (dj (dh j) (dj (dh k) (bA ..)):ar (bn hp k0 k1 k2 r6.2.1 r6.2.2 c2) k0 d=ar (ar (ar hp k0 d) k1 (ad r6.2.2)) k2 (aM c2))<|L h) (fun h5 h=>ai (aD h5)<|ai (rN dp)<|ew<|ba h fun r6 bO h=>let e:=boxes dp [A] (bn hp k0 k1 k2 r6.2 r1.2 c2);have bO:=mc g q t k j m (Bv (dp+1) Y k0 K k1 E k2 M k j m (aU (an t (an q (an g hz)))) c0 r1.2 c2 a0 _ bO);eo bO (an t (an q (an g hz)))<|bB h (fun h8 h=>A3 (az not h8)<|ai B<|ai (eb k j:(bn hp k0 k1 k2 r6.2 r1.2 c2) k0=some (dc k1 k2 r6.2))<|ai tt<|ai (rN dp)<|aZ<|ew<|ba h fun r9 aY h=>have aY:call G Ω0 ⟨dp+1,false⟩ 154 [(.p k1 0),(.a (ax a0)),(I a1)] e=some (.ret (.tp []),boxes dp [A] (bn hp k0 k1 k2 r6.2 r9 c2)):=ek (c8 (hp1:=bn hp k0 k1 k2 r6.2 r1.2 c2) J (dj H (bA ..))) (c8 (hp1:=bn hp k0 k1 k2 r6.2 r9 c2) J (dj H (bA ..))) (G2 (dp+1) e k1 E (aU (an t (an q (an g hz)))) r1.2 a0 a1 _ aY);eo aY (an t (an q (an g hz)))<|L h) (fun h8 h=>ai (az not h8)<|ew<|ba h fun r9 aY h=>have aY:=mc g q t k j m (l9 (dp+1) e k0 K k1 E k2 M k j m (aU (an t (an q (an g hz)))) r6.2 r1.2 c2 a1 _ aY);eo aY (an t (an q (an g hz)))<|L h)))) (fun h3 h=>ai (az not h3)<|L h)
def bN:Nat→cX
 | 0=>⟨fun z0 z1 z2 z3 z4=>none,fun z0 z1 z2 z3 z4=>none,fun z0 z1 z2 z3 z4=>none,fun z0 z1 z2 z3 z4=>none⟩
 | n+1=>⟨mK (bN n),lQ (bN n),la (bN n),mL (bN n)⟩
theorem cD:∀ n,bM (bN n)
 | 0=>⟨fun _ _ _ _ _ _ _ _ _ _ _ _ _ _ _ _ _ r h=>(by cases h),fun _ _ _ _ _ _ _ _ _ _ _ _ _ _ _ _ _ r h=>(by cases h),fun _ _ _ _ _ _ _ _ _ _ _ _ _ _ _ _ _ r h=>(by cases h),fun _ _ _ _ _ _ _ _ _ _ _ _ _ _ _ _ _ r h=>(by cases h)⟩
 | n+1=>⟨fun dp hp k0 g k1 q k2 t k j m hz c0 c1 c2 a0 a1 r h=>BU _ (cD n) dp hp k0 g k1 q k2 t k j m hz c0 c1 c2 a0 a1 r h,fun dp hp k0 g k1 q k2 t k j m hz c0 c1 c2 a0 a1 r h=>Bw _ (cD n) dp hp k0 g k1 q k2 t k j m hz c0 c1 c2 a0 a1 r h,fun dp hp k0 g k1 q k2 t k j m hz c0 c1 c2 a0 a1 r h=>Az _ (cD n) dp hp k0 g k1 q k2 t k j m hz c0 c1 c2 a0 a1 r h,fun dp hp k0 g k1 q k2 t k j m hz c0 c1 c2 a0 a1 r h=>BW _ (cD n) dp hp k0 g k1 q k2 t k j m hz c0 c1 c2 a0 a1 r h⟩
end
section
variable (c0:aI)(c1:Runner)(c2:aW)(a0:(List Stmt))(a1:Int)(dp:Nat)(hp:HP)(k0:Key)
def nL:Option (Bool×aI×Runner):=ev fun n=>(bN n).f_watch_watcher_all c0 c1 c2 a0 a1
theorem Dp(g:k0.dp<dp)(k1:Key)(q:k1.dp<dp)(k2:Key)(t:k2.dp<dp)(k:k0≠k1)(j:k0≠k2)(m:k1≠k2)(hz:bF dp hp)(c0:aI)(c1:Runner)(c2:aW)(a0:(List Stmt))(a1:Int)(r:(Bool×aI×Runner))(h:nL c0 c1 c2 a0 a1=some r):rk dp hp k0 k1 k2 c0 c1 c2 a0 a1 r:=by
 obtain ⟨n,hn⟩:=nW h
 exact (cD n).f_watch_watcher_all dp hp k0 g k1 q k2 t k j m hz c0 c1 c2 a0 a1 r hn
end
section
variable (a0:Program)(aQ:Nat)(ab:(List Level))(r4:Runner)(r6:Level)(r8:aW)(aa:(Bool×aI×Runner))(aH:(List Level))(aq:Nat)(bp:Int)(a1:(List (List Int)))(a2:Int)
def oA:Option ((Nat×(List Level))⊕(Nat×Bool×(List Level))):=
 if (aQ:Int)<(a0.Vars.length:Int) then
  (mZ a0.ak).bind fun al=>
  if ab.length + [al].length≤1000000000 then
   if IntKind.i64.wrap ((aQ:Int)+1)=((aQ+1:Nat):Int) then
    some (.inl (aQ+1,ab++[al]))
   else none
  else none
 else
  some (.inr (aQ,decide ((aQ:Int)<(a0.Vars.length:Int)),ab))
abbrev Ld(v:(Nat×(List Level))):St:=⟨[zP 3,zP 6,(10,(zQ 34)),zP 25,(37,(zI a0.Vars.length)),(38,(I (v.1:Int)))],[(3,(aL a0)),(6,[(br ([]:List Event)),(aS ([]:List Int)),(aS ([]:List Int)),(I 0),(I 0),(I 0)]),(25,(ad r4)),(32,(aM r8)),(34,[(zQ 25),(I a0.ak.Many),(aX a0.ak.Grants),(aS a0.Speak),(aN a0.Ins),(aN a0.Outs),(cF a0.Vars),(b8 a0.Funcs),(bh a0.Main),(av v.2),(av [r6]),(zQ 32)])],H0⟩
abbrev CL(x:(Nat×Bool×(List Level))):bc×St:=((.ex 0),⟨[zP 3,zP 6,(10,(zQ 34)),zP 25,(37,(zI a0.Vars.length)),(38,(I (x.1:Int))),(39,(.b x.2.1))],[(3,(aL a0)),(6,[(br ([]:List Event)),(aS ([]:List Int)),(aS ([]:List Int)),(I 0),(I 0),(I 0)]),(25,(ad r4)),(32,(aM r8)),(34,[(zQ 25),(I a0.ak.Many),(aX a0.ak.Grants),(aS a0.Speak),(aN a0.Ins),(aN a0.Outs),(cF a0.Vars),(b8 a0.Funcs),(bh a0.Main),(av x.2.2),(av [r6]),(zQ 32)])],H0⟩)
theorem JD(aQ:Nat)(ab:(List Level))(o:(Nat×(List Level))⊕(Nat×Bool×(List Level)))(h:oA a0 aQ ab=some o):bQ E0 Yn (Ld a0 r4 r6 r8) (CL a0 r4 r6 r8) (aQ,ab) o:=
 bZ (.or (ea<|.ex fun (al:Level)=>ao (.v (.a [(aw al.Readers),(aw al.Writers)]))<|ao (.l ([al].map aC))<|ea<|ao (.l ((ab++[al]).map aC))<|cM<|ao (.i ((aQ+1:Nat):Int))<|.nil) (bf<|.nil)) fun L=>cw h (fun a4 h=>ai (aF a4)<|aZ<|aZ<|ai tt<|ai (rfl:Z0)<|aZ<|l3<|bq h (ub a0.ak) fun al h=>let A:=[al].map aC;ai tt<|ai (rfl:[(.a [(aw al.Readers),(aw al.Writers)])]=[al].map aC)<|PG<|aO h fun a7 h=>ai ((dS aC (n:=2) (fun _=>rfl) [al]):A.all (fun e=>e.nc==2)=true)<|ai ((eJ a7 (by decide)):((ab.map aC).length+A.length)*48≤140737488355328)<|ai ((eK a7):(ab.map aC).length+A.length≤maxLen)<|ai (cQ.symm:ab.map aC++[al].map aC=(ab++[al]).map aC)<|ai tt<|lh<|aO h fun ci h=>ai ci<|L h) (fun a4 h=>ai (aD a4)<|L h)
def oB:Option (((List Level)×Nat)⊕((List Level)×Nat×Bool)):=
 if (aq:Int)<(aa.2.1.vars.length:Int) then
  (aa.2.1.vars[aq]?).bind fun cc=>
  (yK cc).bind fun a5=>
  if aH.length + [a5].length≤1000000000 then
   if IntKind.i64.wrap ((aq:Int)+1)=((aq+1:Nat):Int) then
    some (.inl (aH++[a5],aq+1))
   else none
  else none
 else
  some (.inr (aH,aq,decide ((aq:Int)<(aa.2.1.vars.length:Int))))
abbrev Lf(v:((List Level)×Nat)):St:=⟨[zP 6,(10,(zQ 34)),(11,(av v.1)),zP 25,(75,(.r (.c ⟨0,34⟩ 9))),(76,(zI aa.2.1.vars.length)),(77,(I (v.2:Int)))],[(6,[(br ([]:List Event)),(aS ([]:List Int)),(aS ([]:List Int)),(I 0),(I 0),(I 0)]),(25,((ad aa.2.2).set 15 (I bp))),(32,(aM r8)),(34,(((gY aa.2.1).set 0 (zQ 25)).set 11 (zQ 32)))],H0⟩
abbrev CM(x:((List Level)×Nat×Bool)):bc×St:=((.ex 2),⟨[zP 6,(10,(zQ 34)),(11,(av x.1)),zP 25,(75,(.r (.c ⟨0,34⟩ 9))),(76,(zI aa.2.1.vars.length)),(77,(I (x.2.1:Int))),(78,(.b x.2.2))],[(6,[(br ([]:List Event)),(aS ([]:List Int)),(aS ([]:List Int)),(I 0),(I 0),(I 0)]),(25,((ad aa.2.2).set 15 (I bp))),(32,(aM r8)),(34,(((gY aa.2.1).set 0 (zQ 25)).set 11 (zQ 32)))],H0⟩)
theorem JE(aH:(List Level))(aq:Nat)(o:((List Level)×Nat)⊕((List Level)×Nat×Bool))(h:oB aa aH aq=some o):bQ E0 Yo (Lf r8 aa bp) (CM r8 aa bp) (aH,aq) o:=
 bZ (.or (bt<|ao (.n aq)<|bt<|.ex fun (cc:Level)=>let A:=[(aw cc.Readers),(aw cc.Writers)];ao (.v (.a A))<|bt<|ao (.v (.a A))<|ea<|.ex fun (a5:Level)=>ao (.v (.a [(aw a5.Readers),(aw a5.Writers)]))<|ao (.l ([a5].map aC))<|ao (.l ((aH++[a5]).map aC))<|ao (.i ((aq+1:Nat):Int))<|.nil) (bf<|.nil)) fun L=>cw h (fun ca h=>ai (aF ca)<|ai (rI aq)<|ai (rfl:Z0)<|ba h fun cc b7 h=>ai (aB aC b7)<|ai (rfl:Z0)<|ai (aB aC b7)<|IF<|bq h (MP cc) fun a5 h=>let B:=[a5].map aC;ai (rfl:[(.a [(aw a5.Readers),(aw a5.Writers)])]=[a5].map aC)<|ai ff<|aO h fun co h=>ai ((dS aC (n:=2) (fun _=>rfl) [a5]):B.all (fun e=>e.nc==2)=true)<|ai ((eJ co (by decide)):((aH.map aC).length+B.length)*48≤140737488355328)<|ai ((eK co):(aH.map aC).length+B.length≤maxLen)<|ai (cQ.symm:aH.map aC++[a5].map aC=(aH++[a5]).map aC)<|aO h fun cr h=>ai cr<|L h) (fun ca h=>ai (aD ca)<|L h)
def nD:Option ((List Level)×Int):=
 (lp (fun v=>oB aa v.1 v.2) (([]:List Level),0)).bind fun a6=>
 some (a6.1,bp)
abbrev vk(x:((List Level)×Int)):bc×St:=(.ret,⟨[zP 6,(7,(.r (.s 11))),(8,(I 0)),(11,(av x.1))],[(6,((o7 aa.2.2.bz).set 4 (I x.2)))],H0⟩)
theorem Aa(x:((List Level)×Int))(h:nD aa bp=some x):run G Ω0 E0 Yp ⟨[zP 6,(10,(zQ 34)),zP 25],[(6,[(br ([]:List Event)),(aS ([]:List Int)),(aS ([]:List Int)),(I 0),(I 0),(I 0)]),(25,((ad aa.2.2).set 15 (I bp))),(32,(aM r8)),(34,(((gY aa.2.1).set 0 (zQ 25)).set 11 (zQ 32)))],H0⟩=some (vk aa x):=
 oi (cM<|ao (.i (aa.2.1.vars.length:Int))<|.ex fun (a6:((List Level)×Nat×Bool))=>ao (.cA (CM r8 aa bp a6))<|ahI<|.nil) fun L=>zF<|ai (aP aC aa.2.1.vars)<|bq h (dT (fun v=>JE r8 aa bp v.1 v.2) (([]:List Level),0)) fun a6 h=>lh<|lh<|lh<|zF<|lZ<|L h
abbrev Oo(a0:Program)(a1:(List (List Int)))(a2:Int)(r:(RunT×(List Level)×Int)):bC×HP:=(.ret (.tp [(.a (o7 r.1)),(.l 113 (r.2.1.map aC)),(I r.2.2)]),H0)
def qU:Option (RunT×(List Level)×Int):=
 (yO a0 a1 a2).bind fun r1=>
 if (r1 !=0)=true then
  some ((⟨([]:List Event),([]:List Int),([]:List Int),0,0,0⟩:RunT),([]:List Level),r1)
 else
  (CK a0 a1 a2).bind fun r4=>
  (mZ a0.ak).bind fun r6=>
  (yL a0).bind fun r8=>
  (lp (fun v=>oA a0 v.1 v.2) (0,([]:List Level))).bind fun b9=>
  (gN r4 (a0.Funcs.length:Int)).bind fun ag=>
  (nL (⟨(),a0,b9.2.2,[r6],()⟩:aI) r4 r8 a0.Main ag).bind fun aa=>
  if aa.1=true then
   (nD aa 1).bind fun a6=>
   some ((⟨aa.2.2.bz.Events,aa.2.2.bz.Vars,aa.2.2.bz.Taken,aa.2.2.bz.Steps,a6.2,aa.2.2.bz.Stop⟩:RunT),a6.1,0)
  else
   (nD aa aa.2.2.bz.End).bind fun a6=>
   some ((⟨aa.2.2.bz.Events,aa.2.2.bz.Vars,aa.2.2.bz.Taken,aa.2.2.bz.Steps,a6.2,aa.2.2.bz.Stop⟩:RunT),a6.1,0)
theorem JF(r:(RunT×(List Level)×Int))(h:qU a0 a1 a2=some r):call G Ω0 E0 21 [(.a (aL a0)),(.l 25 (a1.map (db 3 (I)))),(I a2)] H0=some (Oo a0 a1 a2 r):=
 let N:=List Level;let M:=(3,(aL a0));let K:=aN a0.Ins;let J:=cF a0.Vars;let H:=aN a0.Outs;let F:=b8 a0.Funcs;let E:=aS a0.Speak;let D:=bh a0.Main;let C:=I a0.ak.Many;let B:=aX a0.ak.Grants;let A:=br ([]:List Event);bj G21 (bt<|xI fun r1=>let O:=(6,[A,(aS ([]:List Int)),(aS ([]:List Int)),(I 0),(I 0),(I 0)]);.or (ea<|.nil) (we<|.ex fun (r4:Runner)=>ao (.l (ad r4))<|ao (.h H0)<|cM<|.ex fun (r6:Level)=>ao (.v (.a [(aw r6.Readers),(aw r6.Writers)]))<|ao (.l ([r6].map aC))<|bt<|.ex fun (r8:aW)=>let P:=(32,(aM r8));ao (.l (aM r8))<|ao (.h H0)<|mg<|ao (.i (a0.Vars.length:Int))<|.ex fun (b9:(Nat×Bool×N))=>ao (.cA (CL a0 r4 r6 r8 b9))<|ea<|ao (.i (a0.Funcs.length:Int))<|xI fun ag=>ao (.h (boxes 0 [(25,(ad r4)),P,(34,[(zQ 25),C,B,E,K,H,J,F,D,(av b9.2.2),(av [r6]),(zQ 32)])] H0))<|.ex fun (aa:(Bool×aI×Runner))=>let Q:=[M,O,(25,(ad aa.2.2)),P,(34,(((gY aa.2.1).set 0 (zQ 25)).set 11 (zQ 32)))];ao (.v (.b aa.1))<|ao (.h (boxes 0 Q H0))<|ao (.bx Q)<|ao (.h H0)<|.or (mg<|.fb<|.ex fun (a6:(N×Int))=>ao (.ei (vk aa a6))<|.nil) (bf<|.fb<|.ex fun (a6:(N×Int))=>ao (.ei (vk aa a6))<|.nil))) fun L=>let R:=(6,[A,(aS ([]:List Int)),(aS ([]:List Int)),(I 0),(I 0),(I 0)]);aZ<|ai (rfl:Z0)<|bq h (MX a0 a1 a2) fun r1 h=>bB h (fun h3 h=>ai h3<|lZ<|ai (rfl:Z0)<|L h) (fun h3 h=>TI h3<|ba h fun r4 au h=>let S:=(25,(ad r4));have au:call G Ω0 ⟨0+1,false⟩ 64 [(.a (aL a0)),(fZ a1),(I a2)] H0=some (.new (ad r4),H0):=QA (0+1) H0 (eT (0+1)) a0 a1 a2 _ au;ai au<|aZ<|ai (rfl:Z0)<|aZ<|l3<|bq h (ub a0.ak) fun r6 h=>let T:=av [r6];ai tt<|ai (rfl:[(.a [(aw r6.Readers),(aw r6.Writers)])]=[r6].map aC)<|ai tt<|l3<|ba h fun r8 bJ h=>let U:=(32,(aM r8));have bJ:call G Ω0 ⟨0+1,false⟩ 67 [(.a (aL a0))] H0=some (.new (aM r8),H0):=MQ (0+1) H0 (eT (0+1)) a0 _ bJ;ai bJ<|aZ<|lh<|lh<|ai (aP dk a0.Vars)<|bq h (dT (fun v=>JD a0 r4 r6 r8 v.1 v.2) (0,([]:List Level))) fun b9 h=>let V:=(34,[(zQ 25),C,B,E,K,H,J,F,D,(av b9.2.2),T,(zQ 32)]);let X:=boxes 0 [S,U,V] H0;let W:=[M,R,S,U,V];aZ<|ai tt<|ai (rfl:Z0)<|aZ<|aZ<|ai (rfl:Z0)<|aZ<|l3<|ai (aP cS a0.Funcs)<|aZ<|ba h fun ag bg h=>have bg:call G Ω0 ⟨0+1,true⟩ 69 [(zQ 25),(zI a0.Funcs.length)] X=some (.ret (I ag),boxes 0 [S,U,V] H0):=ek (dB (bx1:=[S,U,V]) (by kernel_rfl) (by kernel_rfl)) (dB (bx1:=[S,U,V]) (by kernel_rfl) (by kernel_rfl)) (vH (0+1) X ⟨0,25⟩ (fR 0) (aU (eT 0)) r4 (a0.Funcs.length:Int) _ bg);ai bg<|EN<|ba h fun aa aR h=>let Y:=[M,R,(25,(ad aa.2.2)),U,(34,(((gY aa.2.1).set 0 (zQ 25)).set 11 (zQ 32)))];have aR:call G Ω0 ⟨0+1,false⟩ 68 [(zQ 34),D,(I ag)] (boxes 0 W H0)=some (.ret (.b aa.1),boxes 0 Y H0):=ek (jh (jh (dB (bx1:=W) (by kernel_rfl) (by kernel_rfl)) (dB (bx1:=W) (by kernel_rfl) (by kernel_rfl))) (dB (bx1:=W) (by kernel_rfl) (by kernel_rfl))) (jh (jh (dB (bx1:=[M,R,S,U,(34,(((gY aa.2.1).set 0 (zQ 25)).set 11 (zQ 32)))]) (by kernel_rfl) (by kernel_rfl)) (dB (bx1:=Y) (by kernel_rfl) (by kernel_rfl))) (dB (bx1:=Y) (by kernel_rfl) (by kernel_rfl))) (Dp (0+1) (boxes 0 W H0) ⟨0,34⟩ (fR 0) ⟨0,25⟩ (fR 0) ⟨0,32⟩ (fR 0) (Kw (by decide)) (Kw (by decide)) (Kw (by decide)) (aU (eT 0)) (⟨(),a0,b9.2.2,[r6],()⟩:aI) r4 r8 a0.Main ag _ aR);eo aR (eT 0)<|bB h (fun b3 h=>ai b3<|ai (rfl:Z0)<|lZ<|bq h (Aa r8 aa 1) fun a6 h=>ai (rfl:Z0)<|L h) (fun b3 h=>ai b3<|bq h (Aa r8 aa aa.2.2.bz.End) fun a6 h=>ai (rfl:Z0)<|L h))
end
end
end Go.Proofs.YtlmphbbhaeampaaGreat.A
