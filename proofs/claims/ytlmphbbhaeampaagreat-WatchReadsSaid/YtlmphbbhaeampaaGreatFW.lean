/- Functions of the program as plain functions, by program. -/
import Derived.Test.YtlmphbbhaeampaaGreatTypes
import Derived.Test.YtlmphbbhaeampaaGreatBase
import Derived.Test.YtlmphbbhaeampaaGreatFE
import Derived.Test.YtlmphbbhaeampaaGreatLevelF
import Derived.Test.YtlmphbbhaeampaaGreatSpeakF
set_option linter.all false
set_option maxRecDepth 100000
namespace Go.Proofs.YtlmphbbhaeampaaGreat.A
open Go
noncomputable section
variable [Lp]
attribute [local simp] eA gZ okB jF AV.cU AV.iE AV.fG AV.deep AV.fJ jg aZ
section
variable (a0:(List Int))
abbrev KY(a0:(List Int))(r:Bool):bA×HP:=(.ret (.b r),H0)
def xh:Option Bool:=
 some (decide (100<(a0.length:Int)))
theorem Gs(r:Bool)(h:xh a0=some r):call G Ω0 E0 108 [(.l 3 (a0.map (I)))] H0=some (KY a0 r):=
 a8 agJ (ao (.i (a0.length:Int))<|.nil) fun L=>ai (bn I a0)<|L h
end
section
variable (a0:(List (List Int)))
abbrev rZ(r:Bool):Prop:=call G Ω0 E0 107 [(.l 25 (a0.map (bO 3 (AV.i .i64)))),(.f 108 [])] H0=some (.ret (.b r),H0)
def gT:Option Bool:=FF (fun y=>xh y) a0
theorem qA(r:Bool)(h:gT a0=some r):rZ a0 r:=rz (n:=1) (ld:=none) (by decide) (fun _=>⟨rfl,rfl,rfl,rfl⟩) rfl (fun y b hb=>Gs y b hb) abW abX h
end
section
variable (a0:Int)
abbrev HZ(a0:Int)(r:Bool):bA×HP:=(.ret (.b r),H0)
def qn:Option Bool:=
 (tZ a0).bind fun r1=>
 some (!r1)
theorem Ei(r:Bool)(h:qn a0=some r):call G Ω0 E0 110 [(I a0)] H0=some (HZ a0 r):=
 a8 agL (xB fun r1=>.nil) fun L=>bI h (HS a0) fun r1 h=>L h
end
section
variable (a0:(List Int))
abbrev qZ(r:Bool):Prop:=call G Ω0 E0 103 [(.l 3 (a0.map (AV.i .i64))),(.f 110 [])] H0=some (.ret (.b r),H0)
def fY:Option Bool:=FF (fun y=>qn y) a0
theorem pL(r:Bool)(h:fY a0=some r):qZ a0 r:=rz (n:=1) (ld:=none) (by decide) (fun _=>⟨rfl,rfl,rfl,rfl⟩) rfl (fun y b hb=>Ei y b hb) Lu Lv h
abbrev KZ(a0:(List Int))(r:Bool):bA×HP:=(.ret (.b r),H0)
def sD:Option Bool:=
 (fY a0).bind fun r1=>
 some r1
theorem Gt(r:Bool)(h:sD a0=some r):call G Ω0 E0 109 [(.l 3 (a0.map (I)))] H0=some (KZ a0 r):=
 a8 agK (xB fun r1=>.nil) fun L=>bI h (pL a0) fun r1 h=>L h
end
section
variable (a0:(List (List Int)))
abbrev sa(r:Bool):Prop:=call G Ω0 E0 107 [(.l 25 (a0.map (bO 3 (AV.i .i64)))),(.f 109 [])] H0=some (.ret (.b r),H0)
def gY:Option Bool:=FF (fun y=>sD y) a0
theorem qB(r:Bool)(h:gY a0=some r):sa a0 r:=rz (n:=1) (ld:=none) (by decide) (fun _=>⟨rfl,rfl,rfl,rfl⟩) rfl (fun y b hb=>Gt y b hb) abW abX h
end
section
variable (a0:Program)(a1:(List (List Int)))(a2:Int)
abbrev N8(a0:Program)(a1:(List (List Int)))(a2:Int)(r:Int):bA×HP:=(.ret (I r),H0)
def vZ:Option Int:=
 (pG a0).bind fun r1=>
 if (r1 !=0)=true then
  some r1
 else
  if ((a1.length:Int) !=(a0.Ins.length:Int))=true then
   some 1
  else
   (gT a1).bind fun r5=>
   if r5=true then
    some 2
   else
    (gY a1).bind fun r8=>
    if r8=true then
     some 3
    else
     if a2<0 then
      some 3
     else
      if 2000<a2 then
       some 3
      else
       some 0
theorem Jn(r:Int)(h:vZ a0 a1 a2=some r):call G Ω0 E0 63 [(.a (aD a0)),(.l 25 (a1.map (bO 3 (I)))),(I a2)] H0=some (N8 a0 a1 a2 r):=
 a8 G63 (bt<|xI fun r1=>oN (ao (.i (a1.length:Int))<|bt<|ao (.i (a0.Ins.length:Int))<|oN (xB fun r5=>oN (xB fun r8=>.or (bf<|bf<|bt<|bf<|bf<|bt<|bt<|.nil) (bt<|bt<|bf<|.or (bf<|bf<|bt<|bt<|.nil) (bt<|bt<|bf<|oN (.nil))))))) fun L=>xn<|bI h (yG a0) fun r1 h=>b9 h (fun h3 h=>ai h3<|L h) (fun h3 h=>ai h3<|ai (bn (bO 3 I) a1)<|ai (rfl:Z0)<|ai (bn aS a0.Ins)<|b9 h (fun h4 h=>ai h4<|L h) (fun h4 h=>ai h4<|bI h (qA a1) fun r5 h=>b9 h (fun h7 h=>ai h7<|L h) (fun h7 h=>ai h7<|bI h (qB a1) fun r8 h=>b9 h (fun aV h=>cm aV<|ai aV<|ai ht<|ai ht<|bE<|L h) (fun aV h=>cm aV<|ai aV<|da h (fun bv h=>cm (aE bv)<|rY (aE bv)<|L h) (fun bv h=>cm (aG bv)<|ai (aG bv)<|da h (fun bY h=>ai (aE bY)<|L h) (fun bY h=>ai (aG bY)<|L h))))))
end
section
variable (dp:Nat)(hp:HP)(k0:Key)
abbrev MX(dp:Nat)(hp:HP)(k0:Key)(a0:Stmt)(a1:Int)(c0:Int)(r:(Bool×Int)):bA×HP:=(.ret (.b r.1),aq hp k0 [(I r.2)])
def yV(a0:Stmt)(a1:Int)(c0:Int):Option (Bool×Int):=
 if IntKind.i64.wrap (c0+1)=c0+1 then
  some (true,(c0+1))
 else none
theorem H8(g:k0.dp<dp)(hz:aT dp hp)(a0:Stmt)(a1:Int)(c0:Int)(r:(Bool×Int))(h:yV a0 a1 c0=some r):call G Ω0 ⟨dp,false⟩ 135 [(.a (ar a0)),(I a1),(.p k0 0)] (aq hp k0 [(I c0)])=some (MX dp hp k0 a0 a1 c0 r):=
 let B:=au g;let A:=a7 hp k0 [(I c0)];a8 agY (bf<|ao (.l [(I c0)])<|ao (.i (c0+1))<|bf<|ao (.l [(I c0)])<|bf<|ao (.h (aq hp k0 [(I (c0+1))]))<|.nil) fun L=>ai ((by simp [ar,aM g,aR g]):(((.a (ar a0)):AV).deep dp&&(eA dp 3 [(0,(.a (ar a0))),(1,(I a1)),(2,(.p k0 0))] []))=true)<|ai B<|ai A<|bc h fun w1 h=>ai w1<|ai ff<|ai B<|ai A<|ai tt<|ai B<|ai (bP hp k0 [(I c0)] [(I (c0+1))])<|L h
end
section
variable (dp:Nat)(hp:HP)(k0:Key)(a0:(List Stmt))(a1:Int)(c0:Int)
abbrev yW(dp:Nat)(hp:HP)(k0:Key)(a0:(List Stmt))(a1:Int)(c0:Int)(r:(Bool×Int)):bA×HP:=(.ret (.b r.1),aq hp k0 [(I r.2)])
abbrev mJ(r:(Bool×Int)):Prop:=call G Ω0 ⟨dp,false⟩ 134 [(.l 111 (a0.map bK)),(I a1),(.f 135 [(.p k0 0)])] (aq hp k0 [(I c0)])=some (yW dp hp k0 a0 a1 c0 r)
end
structure mK where
 f_scope_Walk__run_Many_1:(List Stmt)→Int→Int→Option (Bool×Int)
structure lW(R:mK):Prop where
 f_scope_Walk__run_Many_1:∀ (dp:Nat)(hp:HP)(k0:Key)(g:k0.dp<dp)(hz:aT dp hp)(a0:(List Stmt))(a1:Int)(c0:Int)(r:(Bool×Int)),R.f_scope_Walk__run_Many_1 a0 a1 c0=some r→mJ dp hp k0 a0 a1 c0 r
section
variable (R:mK)(a0:(List Stmt))(a1:Int)(w:Nat)(hp:HP)(k0:Key)(dp:Nat)(c0:Int)
def iC(v0_k0_0:Int):Option ((Nat×Int)⊕(Int⊕(Nat×Bool×Int))):=
 if (w:Int)<(a0.length:Int) then
  (a0[w]?).bind fun y2=>
  (yV y2 a1 v0_k0_0).bind fun r4=>
  if r4.1=true then
   if IntKind.i64.wrap (a1+1)=a1+1 then
    (R.f_scope_Walk__run_Many_1 y2.Then (a1+1) r4.2).bind fun r8=>
    if r8.1=true then
     (R.f_scope_Walk__run_Many_1 y2.Else (a1+1) r8.2).bind fun aj=>
     if aj.1=true then
      if IntKind.i64.wrap ((w:Int)+1)=((w+1:Nat):Int) then
       some (.inl (w+1,aj.2))
      else none
     else
      some (.inr (.inl aj.2))
    else
     some (.inr (.inl r8.2))
   else none
  else
   some (.inr (.inl r4.2))
 else
  some (.inr (.inr (w,decide ((w:Int)<(a0.length:Int)),v0_k0_0)))
abbrev xj(a0:(List Stmt))(a1:Int)(v:(Nat×Int)):St:=⟨[(1,(I a1)),(2,(.f 135 [(.p k0 0)])),(9,(bj a0)),(10,(zI a0.length)),(11,(I (v.1:Int)))],[],aq hp k0 [(I v.2)]⟩
abbrev lB(a0:(List Stmt))(a1:Int)(x:(Int⊕(Nat×Bool×Int))):bh×St:=match x with | .inl z1=>(.ret,⟨[(6,(.b false))],[],aq hp k0 [(I z1)]⟩) | .inr (z1,z2,z3)=>((.ex 0),⟨[(1,(I a1)),(2,(.f 135 [(.p k0 0)])),(9,(bj a0)),(10,(zI a0.length)),(11,(I (z1:Int))),(12,(.b z2))],[],aq hp k0 [(I z3)]⟩)
theorem wL(hR:lW R)(dp:Nat)(hp:HP)(k0:Key)(g:k0.dp<dp)(hz:aT dp hp)(a0:(List Stmt))(a1:Int)(w:Nat)(v0_k0_0:Int)(o:(Nat×Int)⊕(Int⊕(Nat×Bool×Int)))(h:iC R a0 a1 w v0_k0_0=some o):cG ⟨dp,false⟩ G6 (xj hp k0 a0 a1) (lB hp k0 a0 a1) (w,v0_k0_0) o:=
 let B:=aB g;let A:=Bool×Int;cT (.or (bt<|ao (.n w)<|.ex fun (y2:Stmt)=>let C:=(8,(ar y2));ao (.v (.a (ar y2)))<|fh<|.ex fun (r4:A)=>let D:=aq hp k0 [(I r4.2)];ao (.v (.b r4.1))<|ao (.h (boxes dp [C] D))<|ao (.bx [C])<|ao (.h D)<|.or (tn<|ao (.i (a1+1))<|ee<|.ex fun (r8:A)=>let E:=aq hp k0 [(I r8.2)];ao (.v (.b r8.1))<|ao (.h (boxes dp [C] E))<|ao (.bx [C])<|ao (.h E)<|nz<|.or (tn<|ao (.i (a1+1))<|ee<|.ex fun (aj:A)=>let F:=aq hp k0 [(I aj.2)];ao (.v (.b aj.1))<|ao (.h (boxes dp [C] F))<|ao (.bx [C])<|ao (.h F)<|nz<|.or (bf<|ao (.i ((w+1:Nat):Int))<|.nil) (bt<|.nil)) (TV<|.nil)) (TW<|.nil)) (bf<|.nil)) fun L=>da h (fun h1 h=>ai (aE h1)<|ai (rI w)<|bm h fun y2 h3 h=>let G:=(8,(ar y2));ai (nZ bK h3 (mA _))<|ai ((by simp [ar,aM g,aR g]):(eA dp 8 [(14,(.a (ar y2))),(13,(.e (.a (ar y2)) 0)),(1,(I a1)),(2,(.f 135 [(.p k0 0)])),(9,(.l 111 (a0.map bK))),(10,(I (a0.length:Int))),(11,(I (w:Int)))] [])=true)<|ai ff<|ai (rN dp)<|ai tt<|ai (rN dp)<|ai (rN dp)<|ep<|bm h fun r4 aw h=>have aw:=cO g (H8 (dp+1) (boxes dp [G] (aq hp k0 [(I v0_k0_0)])) k0 B (aQ (ak g hz)) y2 a1 v0_k0_0 _ aw);eW aw (ak g hz)<|b9 h (fun h6 h=>let H:=av not h6;cm H<|ai (rN dp)<|cm H<|bc h fun w7 h=>ai w7<|IQ H<|bm h fun r8 bF h=>have bF:=cO g (hR.f_scope_Walk__run_Many_1 (dp+1) (boxes dp [G] (aq hp k0 [(I r4.2)])) k0 B (aQ (ak g hz)) y2.Then (a1+1) r4.2 _ bF);eW bF (ak g hz)<|wG H<|b9 h (fun aV h=>let J:=av not aV;cm J<|ai (rN dp)<|cm J<|ai w7<|IQ J<|bm h fun aj bk h=>have bk:=cO g (hR.f_scope_Walk__run_Many_1 (dp+1) (boxes dp [G] (aq hp k0 [(I r8.2)])) k0 B (aQ (ak g hz)) y2.Else (a1+1) r8.2 _ bk);eW bk (ak g hz)<|wG J<|b9 h (fun bd h=>ai (av not bd)<|bc h fun ch h=>ai ch<|L h) (fun bd h=>ai (av not bd)<|L h)) (fun aV h=>TR (av not aV)<|L h)) (fun h6 h=>TS (av not h6)<|L h)) (fun h1 h=>ai (aG h1)<|L h)
def iX:Option (Bool×Int):=
 (lp (fun v=>iC R a0 a1 v.1 v.2) (0,c0)).bind fun x1=>match x1 with
 | .inl bo=>
  some (false,bo)
 | .inr bl=>
  some (true,bl.2.2)
theorem vD(hR:lW R)(dp:Nat)(hp:HP)(k0:Key)(g:k0.dp<dp)(hz:aT dp hp)(a0:(List Stmt))(a1:Int)(c0:Int)(r:(Bool×Int))(h:iX R a0 a1 c0=some r):mJ dp hp k0 a0 a1 c0 r:=
 a8 Ts (ao (.i (a0.length:Int))<|.or (.ex fun (bo:Int)=>ao (.dJ (lB hp k0 a0 a1 (.inl bo)))<|.nil) (.ex fun (bl:(Nat×Bool×Int))=>ao (.dJ (lB hp k0 a0 a1 (.inr bl)))<|.nil)) fun L=>ai (bn bK a0)<|iy h (im (fun v=>wL R hR dp hp k0 g hz a0 a1 v.1 v.2) (0,c0)) (fun bo h=>L h) (fun bl h=>L h)
def eQ:Nat→mK
 | 0=>⟨fun z0 z1 z2=>none⟩
 | n+1=>⟨iX (eQ n)⟩
theorem qo:∀ n,lW (eQ n)
 | 0=>⟨fun _ _ _ _ _ _ _ _ r h=>(by cases h)⟩
 | n+1=>⟨fun dp hp k0 g hz a0 a1 c0 r h=>vD _ (qo n) dp hp k0 g hz a0 a1 c0 r h⟩
def mL:Option (Bool×Int):=ev fun n=>(eQ n).f_scope_Walk__run_Many_1 a0 a1 c0
theorem wM(hp:HP)(k0:Key)(g:k0.dp<dp)(hz:aT dp hp)(a0:(List Stmt))(a1:Int)(c0:Int)(r:(Bool×Int))(h:mL a0 a1 c0=some r):mJ dp hp k0 a0 a1 c0 r:=by
 obtain ⟨n,hn⟩:=u9 h
 exact (qo n).f_scope_Walk__run_Many_1 dp hp k0 g hz a0 a1 c0 r hn
abbrev Qj(a0:(List Stmt))(r:Int):bA×HP:=(.ret (I r),H0)
def px:Option Int:=
 (mL a0 1 0).bind fun r1=>
 some r1.2
theorem sE(r:Int)(h:px a0=some r):call G Ω0 E0 89 [(.l 111 (a0.map bK))] H0=some (Qj a0 r):=
 let A:=boxes 0 [(3,[(I 0)])] H0;a8 G89 (ee<|.ex fun (r1:(Bool×Int))=>ao (.v (.b r1.1))<|ao (.h (boxes 0 [(3,[(I r1.2)])] H0))<|ao (.bx [(3,[(I r1.2)])])<|ao (.h H0)<|bt<|.nil) fun L=>ai tt<|oq<|ep<|bm h fun r1 aL h=>have aL:call G Ω0 ⟨0+1,false⟩ 134 [(bj a0),(I 1),(.f 135 [(zQ 3)])] A=some (.ret (.b r1.1),boxes 0 [(3,[(I r1.2)])] H0):=dX (dt (bx1:=[(3,[(I 0)])]) (by kernel_rfl) (by kernel_rfl)) (dt (bx1:=[(3,[(I r1.2)])]) (by kernel_rfl) (by kernel_rfl)) (wM (0+1) A ⟨0,3⟩ (gP 0) (aQ (fq 0)) a0 1 0 _ aL);eW aL (fq 0)<|ai (rfl:Z0)<|L h
end
section
variable (a0:Program)(az:Int)(al:Nat)(z:(List Int))(dp:Nat)(hp:HP)(a1:(List (List Int)))(a2:Int)
def v7:Option ((Int×Nat×(List Int))⊕(Int×Nat×Bool×(List Int))):=
 if (al:Int)<(a0.Funcs.length:Int) then
  (a0.Funcs[al]?).bind fun y4=>
  if z.length + [az].length≤1000000000 then
   (px y4.Body).bind fun r7=>
   if IntKind.i64.wrap (az+r7)=az+r7 then
    if IntKind.i64.wrap ((al:Int)+1)=((al+1:Nat):Int) then
     some (.inl (az+r7,al+1,z++[az]))
    else none
   else none
  else none
 else
  some (.inr (az,al,decide ((al:Int)<(a0.Funcs.length:Int)),z))
abbrev N9(a0:Program)(a1:(List (List Int)))(a2:Int)(v:(Int×Nat×(List Int))):St:=⟨[(7,(.p ⟨dp,15⟩ 0)),(8,(I v.1)),(33,(bQ a0.Funcs)),(34,(zI a0.Funcs.length)),(35,(I (v.2.1:Int)))],[(15,[(I a0.an.Many),(aX a0.an.Grants),(bw a0.Speak),(aJ a0.Ins),(aJ a0.Outs),(ct a0.Vars),(bQ a0.Funcs),(bj a0.Main),(nA a1),(I a2),(cR v.2.2),(ot ([]:List Event)),(cR (List.replicate a0.Vars.length 0)),(cR (List.replicate a0.Ins.length 0)),(I 0),(I 0),(I 0)])],hp⟩
abbrev FJ(a0:Program)(a1:(List (List Int)))(a2:Int)(x:(Int×Nat×Bool×(List Int))):bh×St:=((.ex 0),⟨[(7,(.p ⟨dp,15⟩ 0)),(8,(I x.1)),(33,(bQ a0.Funcs)),(34,(zI a0.Funcs.length)),(35,(I (x.2.1:Int))),(36,(.b x.2.2.1))],[(15,[(I a0.an.Many),(aX a0.an.Grants),(bw a0.Speak),(aJ a0.Ins),(aJ a0.Outs),(ct a0.Vars),(bQ a0.Funcs),(bj a0.Main),(nA a1),(I a2),(cR x.2.2.2),(ot ([]:List Event)),(cR (List.replicate a0.Vars.length 0)),(cR (List.replicate a0.Ins.length 0)),(I 0),(I 0),(I 0)])],hp⟩)
theorem MY(hz:aT dp hp)(a0:Program)(a1:(List (List Int)))(a2:Int)(az:Int)(al:Nat)(z:(List Int))(o:(Int×Nat×(List Int))⊕(Int×Nat×Bool×(List Int)))(h:v7 a0 az al z=some o):cG ⟨dp,false⟩ U3 (N9 dp hp a0 a1 a2) (FJ dp hp a0 a1 a2) (az,al,z) o:=
 let A:=[az].map I;cT (.or (bt<|ao (.n al)<|.ex fun (y4:Func)=>ao (.v (.a (dB y4)))<|fh<|ao (.l A)<|fh<|ao (.l ((z++[az]).map I))<|fh<|xI fun r7=>ao (.i (az+r7))<|ao (.i ((al+1:Nat):Int))<|.nil) (bf<|.nil)) fun L=>da h (fun h3 h=>ai (aE h3)<|ai (rI al)<|bm h fun y4 h5 h=>ai (aI cQ h5)<|ai ((by simp [dB]):(eA dp 10 [(38,(.a (dB y4))),(37,(.e (.a (dB y4)) 0)),(7,(.p ⟨dp,15⟩ 0)),(8,(I az)),(33,(.l 91 (a0.Funcs.map cQ))),(34,(I (a0.Funcs.length:Int))),(35,(I (al:Int)))] [(15,[(I a0.an.Many),(.l 79 (a0.an.Grants.map bW)),(.l 3 (a0.Speak.map I)),(.l 83 (a0.Ins.map aS)),(.l 83 (a0.Outs.map aS)),(.l 86 (a0.Vars.map dA)),(.l 91 (a0.Funcs.map cQ)),(.l 111 (a0.Main.map bK)),(.l 25 (a1.map (bO 3 I))),(I a2),(.o 3 (z.map I)),(.o 128 (([]:List Event).map bS)),(.o 3 ((List.replicate a0.Vars.length 0).map I)),(.o 3 ((List.replicate a0.Ins.length 0).map I)),(I 0),(I 0),(I 0)])])=true)<|ai ff<|ai (rN dp)<|ai tt<|ai (rN dp)<|ai (rN dp)<|ai (rfl:[(I az)]=[az].map I)<|ai ff<|ai (rN dp)<|ai (rN dp)<|ai (rN dp)<|bc h fun h6 h=>ai ((fS I (n:=1) (fun _=>rfl) [az]):A.all (fun e=>e.nc==1)=true)<|ai ((jO h6 (by decide)):((z.map I).length+A.length)*8≤140737488355328)<|ai ((jP h6):(z.map I).length+A.length≤maxLen)<|ai (dI.symm:z.map (I)++[az].map (I)=(z++[az]).map I)<|ai ff<|ai (rN dp)<|ai (rN dp)<|ai (rN dp)<|bI h (sE y4.Body) fun r7 h=>bc h fun w9 h=>ai w9<|bc h fun cy h=>ai cy<|L h) (fun h3 h=>ai (aG h3)<|L h)
abbrev Sz(dp:Nat)(hp:HP)(a0:Program)(a1:(List (List Int)))(a2:Int)(r:Runner):bA×HP:=(.new (aa r),hp)
def Ai:Option Runner:=
 if a0.Vars.length≤1000000000 then
  if a0.Ins.length≤1000000000 then
   (lp (fun v=>v7 a0 v.1 v.2.1 v.2.2) (0,0,([]:List Int))).bind fun x3=>
   if x3.2.2.2.length + [x3.1].length≤1000000000 then
    some (⟨a0,a1,a2,x3.2.2.2++[x3.1],(⟨([]:List Event),List.replicate a0.Vars.length 0,List.replicate a0.Ins.length 0,0,0,0⟩:RunT)⟩:Runner)
   else none
  else none
 else none
theorem MZ(hz:aT dp hp)(a0:Program)(a1:(List (List Int)))(a2:Int)(r:Runner)(h:Ai a0 a1 a2=some r):call G Ω0 ⟨dp,false⟩ 64 [(.a (aD a0)),(.l 25 (a1.map (bO 3 (I)))),(I a2)] hp=some (Sz dp hp a0 a1 a2 r):=
 let D:=List.replicate a0.Ins.length 0;let C:=List.replicate a0.Vars.length 0;let B:=(a0.Ins.length:Int);let A:=(a0.Vars.length:Int);IP G64 (ac4<|ao (.i A)<|ao (.n a0.Vars.length)<|ao (.l (C.map I))<|bt<|ao (.i B)<|ao (.n a0.Ins.length)<|ao (.l (D.map I))<|tn<|ao (.i (a0.Funcs.length:Int))<|.ex fun (x3:(Int×Nat×Bool×(List Int)))=>ao (.dJ (FJ dp hp a0 a1 a2 x3))<|bt<|ao (.l ([x3.1].map I))<|fh<|ao (.l ((x3.2.2.2++[x3.1]).map I))<|ee<|.nil) fun L=>ai tt<|ai (rN dp)<|ai ((by simp [aD]):(((.a [(I a0.an.Many),(.l 79 (a0.an.Grants.map bW)),(.l 3 (a0.Speak.map I)),(.l 83 (a0.Ins.map aS)),(.l 83 (a0.Outs.map aS)),(.l 86 (a0.Vars.map dA)),(.l 91 (a0.Funcs.map cQ)),(.l 111 (a0.Main.map bK)),(.l 25 (a1.map (bO 3 I))),(I a2),.n,.n,.n,.n,(I 0),(I 0),(I 0)]):AV).deep dp&&(eA dp 15 [(14,(.a [(I a0.an.Many),(.l 79 (a0.an.Grants.map bW)),(.l 3 (a0.Speak.map I)),(.l 83 (a0.Ins.map aS)),(.l 83 (a0.Outs.map aS)),(.l 86 (a0.Vars.map dA)),(.l 91 (a0.Funcs.map cQ)),(.l 111 (a0.Main.map bK)),(.l 25 (a1.map (bO 3 I))),(I a2),.n,.n,.n,.n,(I 0),(I 0),(I 0)])),(13,(I a2)),(12,(.l 25 (a1.map (bO 3 I)))),(11,(.a (aD a0))),(1,(.l 25 (a1.map (bO 3 I)))),(2,(I a2)),(3,(.p ⟨dp,3⟩ 0))] [(3,(aD a0))]))=true)<|ai ff<|ai (rN dp)<|ai (rN dp)<|ai ff<|ai (rN dp)<|ai (rN dp)<|ai ff<|ai (rN dp)<|ai (rN dp)<|ai ff<|ai (rN dp)<|ai (rN dp)<|ai ((by simp [aD]):(([21,25]:List Nat).all (jg dp (⟨[(3,(.p ⟨dp,3⟩ 0)),(7,(.p ⟨dp,15⟩ 0))],[(3,(aD a0)),(15,[(I a0.an.Many),(.l 79 (a0.an.Grants.map bW)),(.l 3 (a0.Speak.map I)),(.l 83 (a0.Ins.map aS)),(.l 83 (a0.Outs.map aS)),(.l 86 (a0.Vars.map dA)),(.l 91 (a0.Funcs.map cQ)),(.l 111 (a0.Main.map bK)),(.l 25 (a1.map (bO 3 I))),(I a2),(.o 3 (([]:List Int).map I)),(.o 128 (([]:List Event).map bS)),(.o 3 (([]:List Int).map I)),(.o 3 (([]:List Int).map I)),(I 0),(I 0),(I 0)])],H0⟩:St))&&true)=true)<|ai (tN dp [21,25] [15] 15 0)<|ai (tN dp [21,25] [15] 15 0)<|ai (tN dp [21,25] [15] 3 5)<|ai (rN dp)<|ai tt<|ai (bn dA a0.Vars)<|ai tt<|ai (rfl:A=A)<|bc h fun h1 h=>ai ((EW h1 (by decide)):a0.Vars.length*8≤140737488355328)<|ai ((EX h1):a0.Vars.length≤maxLen)<|ai ((uR ..).symm:List.replicate a0.Vars.length (I 0)=C.map I)<|ai tt<|ai (tN dp [21,25] [15] 3 3)<|ai (rN dp)<|ai tt<|ai (bn aS a0.Ins)<|ai tt<|ai (rfl:B=B)<|bc h fun h2 h=>ai ((EW h2 (by decide)):a0.Ins.length*8≤140737488355328)<|ai ((EX h2):a0.Ins.length≤maxLen)<|ai ((uR ..).symm:List.replicate a0.Ins.length (I 0)=D.map I)<|ai tt<|ai (tN dp [25] [15] 15 0)<|ai (tN dp [25] [15] 15 11)<|ai (tN dp [25] [15] 15 12)<|ai (rN dp)<|ai ff<|ai (rN dp)<|ai (rN dp)<|ai tt<|ai ff<|ai (rN dp)<|ai (rN dp)<|ai (rN dp)<|ai (bn cQ a0.Funcs)<|bI h (im (fun v=>MY dp hp hz a0 a1 a2 v.1 v.2.1 v.2.2) (0,0,([]:List Int))) fun x3 h=>let E:=[x3.1].map I;ai (rN dp)<|ai (rfl:[(I x3.1)]=[x3.1].map I)<|ai ff<|ai (rN dp)<|ai (rN dp)<|ai (rN dp)<|bc h fun h5 h=>ai ((fS I (n:=1) (fun _=>rfl) [x3.1]):E.all (fun e=>e.nc==1)=true)<|ai ((jO h5 (by decide)):((x3.2.2.2.map I).length+E.length)*8≤140737488355328)<|ai ((jP h5):(x3.2.2.2.map I).length+E.length≤maxLen)<|ai (dI.symm:x3.2.2.2.map (I)++[x3.1].map (I)=(x3.2.2.2++[x3.1]).map I)<|ai ff<|ai (rN dp)<|ai (rN dp)<|ai (rN dp)<|ai tt<|L h
end
section
variable (dp:Nat)(hp:HP)(k0:Key)(c0:Runner)(a0:Int)
abbrev Ej(dp:Nat)(hp:HP)(k0:Key)(c0:Runner)(a0:Int)(r:Int):bA×HP:=(.ret (I r),aq hp k0 (aa c0))
def fZ:Option Int:=
 (cV a0).bind fun j1=>
 (c0.first[j1]?).bind fun y3=>
 some y3
theorem tw(g:k0.dp<dp)(hz:aT dp hp)(c0:Runner)(a0:Int)(r:Int)(h:fZ c0 a0=some r):call G Ω0 ⟨dp,true⟩ 69 [(.p k0 0),(I a0)] (aq hp k0 (aa c0))=some (Ej dp hp k0 c0 a0 r):=
 let B:=au g;let A:=a7 hp k0 (aa c0);a8 G69 (bf<|ao (.l (aa c0))<|xN fun j1=>bf<|ao (.l (aa c0))<|xI fun y3=>bf<|ao (.l (aa c0))<|ao (.v (I y3))<|.nil) fun L=>ai B<|ai A<|ez h fun j1 h2 h=>ai h2<|ai B<|ai A<|bm h fun y3 h4 h=>ai (aI I h4)<|ai B<|ai A<|ai (aI I h4)<|L h
abbrev Fm(dp:Nat)(hp:HP)(k0:Key)(c0:Runner)(r:(Bool×Runner)):bA×HP:=(.ret (.b r.1),aq hp k0 (aa r.2))
def lJ:Option (Bool×Runner):=
 if (c0.aU.Steps==c0.fuel)=true then
  some (false,(⟨c0.p,c0.ins,c0.fuel,c0.first,(⟨c0.aU.Events,c0.aU.Vars,c0.aU.Taken,c0.aU.Steps,2,c0.aU.Stop⟩:RunT)⟩:Runner))
 else
  if IntKind.i64.wrap (c0.aU.Steps+1)=c0.aU.Steps+1 then
   some (true,(⟨c0.p,c0.ins,c0.fuel,c0.first,(⟨c0.aU.Events,c0.aU.Vars,c0.aU.Taken,c0.aU.Steps+1,c0.aU.End,c0.aU.Stop⟩:RunT)⟩:Runner))
  else none
theorem uc(g:k0.dp<dp)(hz:aT dp hp)(c0:Runner)(r:(Bool×Runner))(h:lJ c0=some r):call G Ω0 ⟨dp,false⟩ 149 [(.p k0 0)] (aq hp k0 (aa c0))=some (Fm dp hp k0 c0 r):=
 let D:=(aa c0).set 15 (I 2);let C:=(aa c0).set 14 (I (c0.aU.Steps+1));let B:=au g;let A:=a7 hp k0 (aa c0);a8 ag3 (bf<|ao (.l (aa c0))<|bf<|ao (.l (aa c0))<|.or (nz<|ao (.l (aa c0))<|bf<|ao (.h (aq hp k0 D))<|.nil) (bf<|bf<|ao (.l (aa c0))<|ao (.i (c0.aU.Steps+1))<|bf<|ao (.l (aa c0))<|bf<|ao (.h (aq hp k0 C))<|.nil)) fun L=>tO<|ai B<|ai A<|oo<|ai B<|ai A<|ai tt<|b9 h (fun h1 h=>ai h1<|ai ff<|ai B<|ai A<|ai tt<|ai B<|ai (bP hp k0 (aa c0) D)<|L h) (fun h1 h=>ai h1<|ai B<|ai A<|bc h fun w2 h=>ai w2<|ai ff<|ai B<|ai A<|ai tt<|ai B<|ai (bP hp k0 (aa c0) C)<|L h)
end
section
variable (dp:Nat)(hp:HP)(k0:Key)(c0:ax)(c1:Runner)(c2:aH)(a0:aK)
abbrev BD(dp:Nat)(hp:HP)(k0:Key)(k1:Key)(k2:Key)(c0:ax)(c1:Runner)(c2:aH)(r:Level):bA×HP:=(.ret (.a [(.l 4 (r.Readers.map AV.b)),(.l 4 (r.Writers.map AV.b))]),aP hp k0 k1 k2 c0 c1 c2)
def eR(c1:Runner)(c2:aH):Option Level:=
 if IntKind.i64.wrap ((c0.places.length:Int) - 1)=(c0.places.length:Int) - 1 then
  (cV ((c0.places.length:Int) - 1)).bind fun j2=>
  (c0.places[j2]?).bind fun y4=>
  some y4
 else none
theorem jt(g:k0.dp<dp)(k1:Key)(q:k1.dp<dp)(k2:Key)(t:k2.dp<dp)(k:k0≠k1)(j:k0≠k2)(m:k1≠k2)(hz:aT dp hp)(c0:ax)(c1:Runner)(c2:aH)(r:Level)(h:eR c0 c1 c2=some r):call G Ω0 ⟨dp,true⟩ 198 [(.p k0 0)] (aP hp k0 k1 k2 c0 c1 c2)=some (BD dp hp k0 k1 k2 c0 c1 c2 r):=
 let D:=(c0.places.length:Int);let C:=au g;let B:=cE k1 k2 c0;let A:=(dD k j:(aP hp k0 k1 k2 c0 c1 c2) k0=some B);a8 ahB (bf<|ao (.l B)<|bf<|ao (.l B)<|bf<|ao (.l B)<|ao (.i D)<|ao (.i (D - 1))<|xN fun j2=>bf<|ao (.l B)<|.ex fun (y4:Level)=>let E:=[(aC y4.Readers),(aC y4.Writers)];ao (.v (.a E))<|bf<|ao (.l B)<|ao (.v (.a E))<|ee<|.nil) fun L=>ai ((by simp [aM g,aR g,aM q,aR q,aM t,aR t]):(eA dp 2 [(0,(.p k0 0))] [])=true)<|oo<|ai C<|ai A<|oo<|ai C<|ai A<|ai tt<|ai C<|ai A<|ai (bn aF c0.places)<|ai tt<|bc h fun w1 h=>ai w1<|ai tt<|ez h fun j2 h3 h=>ai h3<|ai C<|ai A<|bm h fun y4 h5 h=>ai (aI aF h5)<|ai C<|ai A<|ai (aI aF h5)<|ai (rfl:dp=dp)<|ai (rN dp)<|ai tt<|ai (rN dp)<|ai (rN dp)<|L h
abbrev Ek(dp:Nat)(hp:HP)(k0:Key)(k1:Key)(k2:Key)(c0:ax)(c1:Runner)(c2:aH)(a0:aK)(r:Level):bA×HP:=(.ret (.a [(.l 4 (r.Readers.map AV.b)),(.l 4 (r.Writers.map AV.b))]),aP hp k0 k1 k2 c0 c1 c2)
def et:Option Level:=
 (eR c0 c1 c2).bind fun r1=>
 (jD c0.p c0.vars a0).bind fun r3=>
 (dL r1 r3).bind fun r5=>
 some r5
theorem fI(g:k0.dp<dp)(k1:Key)(q:k1.dp<dp)(k2:Key)(t:k2.dp<dp)(k:k0≠k1)(j:k0≠k2)(m:k1≠k2)(hz:aT dp hp)(c0:ax)(c1:Runner)(c2:aH)(a0:aK)(r:Level)(h:et c0 c1 c2 a0=some r):call G Ω0 ⟨dp,true⟩ 193 [(.p k0 0),(.a (cL a0))] (aP hp k0 k1 k2 c0 c1 c2)=some (Ek dp hp k0 k1 k2 c0 c1 c2 a0 r):=
 let D:=au g;let C:=cE k1 k2 c0;let B:=boxes dp [] (aP hp k0 k1 k2 c0 c1 c2);let A:=(dD k j:(aP hp k0 k1 k2 c0 c1 c2) k0=some C);a8 ahw (.ex fun (r1:Level)=>ao (.v (.a [(aC r1.Readers),(aC r1.Writers)]))<|ao (.h B)<|bf<|ao (.l C)<|bf<|ao (.l C)<|nz<|ao (.l C)<|.ex fun (r3:Level)=>ao (.v (.a [(aC r3.Readers),(aC r3.Writers)]))<|.ex fun (r5:Level)=>ao (.v (.a [(aC r5.Readers),(aC r5.Writers)]))<|ee<|.nil) fun L=>ai ((by simp [cL,aM g,aR g,aM q,aR q,aM t,aR t]):(((.a (cL a0)):AV).deep dp&&(eA dp 3 [(0,(.p k0 0)),(1,(.a (cL a0)))] []))=true)<|ai ((by simp [cL,aM g,aR g,aM q,aR q,aM t,aR t]):(eA dp 4 [(3,(.p ⟨dp,3⟩ 0)),(0,(.p k0 0)),(1,(.a (cL a0)))] [(3,(cL a0))])=true)<|n4<|bm h fun r1 aL h=>have aL:=lE g q t k j m (jt (dp+1) B k0 (aB g) k1 (aB q) k2 (aB t) k j m (aQ (ak t (ak q (ak g hz)))) c0 c1 c2 _ aL);ai aL<|oo<|ai D<|ai A<|oo<|ai D<|ai A<|ai tt<|ai (rN dp)<|ai tt<|ai D<|ai A<|bI h (Gr c0.p c0.vars a0) fun r3 h=>ai tt<|ai ((by simp [AV.off,AV.sJ,TP,Mb,TQ,Bb]):((.a [(.l 4 (r3.Readers.map AV.b)),(.l 4 (r3.Writers.map AV.b))]):AV).off [113]=true)<|bI h (ie r1 r3) fun r5 h=>ai (rfl:dp=dp)<|ai (rN dp)<|ai tt<|ai (rN dp)<|ai (rN dp)<|L h
end
section
variable (dp:Nat)(hp:HP)(k0:Key)(c0:ax)(c1:Runner)(c2:aH)(a0:Int)(a1:Level)
abbrev Dd(dp:Nat)(hp:HP)(k0:Key)(k1:Key)(k2:Key)(c0:ax)(c1:Runner)(c2:aH)(a0:Int)(a1:Level)(r:Bool):bA×HP:=(.ret (.b r),aP hp k0 k1 k2 c0 c1 c2)
def jX:Option Bool:=
 (eR c0 c1 c2).bind fun r1=>
 (cV a0).bind fun j3=>
 (c0.vars[j3]?).bind fun y5=>
 (gd r1 y5).bind fun r7=>
 if r7=true then
  (c0.p.Vars[j3]?).bind fun bC=>
  if bC.Known=true then
   (iB c0.p.an bC.Label).bind fun cf=>
   (gd a1 cf).bind fun bX=>
   some bX
  else
   some true
 else
  some false
theorem so(g:k0.dp<dp)(k1:Key)(q:k1.dp<dp)(k2:Key)(t:k2.dp<dp)(k:k0≠k1)(j:k0≠k2)(m:k1≠k2)(hz:aT dp hp)(c0:ax)(c1:Runner)(c2:aH)(a0:Int)(a1:Level)(r:Bool)(h:jX c0 c1 c2 a0 a1=some r):call G Ω0 ⟨dp,true⟩ 224 [(.p k0 0),(I a0),(.a [(.l 4 (a1.Readers.map AV.b)),(.l 4 (a1.Writers.map AV.b))])] (aP hp k0 k1 k2 c0 c1 c2)=some (Dd dp hp k0 k1 k2 c0 c1 c2 a0 a1 r):=
 let D:=au g;let C:=boxes dp [] (aP hp k0 k1 k2 c0 c1 c2);let B:=cE k1 k2 c0;let A:=(dD k j:(aP hp k0 k1 k2 c0 c1 c2) k0=some B);a8 ahS (.ex fun (r1:Level)=>ao (.v (.a [(aC r1.Readers),(aC r1.Writers)]))<|ao (.h C)<|bf<|ao (.l B)<|xN fun j3=>bf<|ao (.l B)<|.ex fun (y5:Level)=>let E:=[(aC y5.Readers),(aC y5.Writers)];ao (.v (.a E))<|bf<|ao (.l B)<|ao (.v (.a E))<|xB fun r7=>.or (bf<|bf<|ao (.l B)<|ao (.n j3)<|.ex fun (bC:Var)=>ao (.v (.a (pn bC)))<|fh<|.or (bt<|bt<|bt<|bt<|bt<|bt<|bt<|bf<|ao (.l B)<|xp<|.ex fun (cf:Level)=>ao (.v (.a [(aC cf.Readers),(aC cf.Writers)]))<|bt<|xB fun bX=>bf<|.nil) (bf<|bf<|bf<|bf<|bf<|bf<|bf<|bf<|bf<|bf<|bt<|.nil)) (bt<|.nil)) fun L=>ai ((by simp [aM g,aR g,aM q,aR q,aM t,aR t]):(((.a [(.l 4 (a1.Readers.map AV.b)),(.l 4 (a1.Writers.map AV.b))]):AV).deep dp&&(eA dp 5 [(0,(.p k0 0)),(1,(I a0)),(2,(.a [(.l 4 (a1.Readers.map AV.b)),(.l 4 (a1.Writers.map AV.b))]))] []))=true)<|n4<|bm h fun r1 aL h=>have aL:=lE g q t k j m (jt (dp+1) C k0 (aB g) k1 (aB q) k2 (aB t) k j m (aQ (ak t (ak q (ak g hz)))) c0 c1 c2 _ aL);ai aL<|oo<|ai D<|ai A<|bE<|ez h fun j3 h4 h=>ai h4<|ai D<|ai A<|bm h fun y5 h6 h=>ai (aI aF h6)<|ai tt<|ai D<|ai A<|ai (aI aF h6)<|ai tt<|bI h (mD r1 y5) fun r7 h=>b9 h (fun h9 h=>ai (av not h9)<|ai D<|ai A<|ai h4<|bm h fun bC bv h=>ai (aI dA bv)<|ai ((by simp [pn,aM g,aR g,aM q,aR q,aM t,aR t]):(eA dp 7 [(26,(.a (pn bC))),(25,(.e (.a (pn bC)) 0)),(24,(I a0)),(23,(.l 86 (c0.p.Vars.map dA))),(22,(.p k0 6)),(21,(.p k0 1)),(20,(.p k0 0)),(19,(.p k0 0)),(0,(.p k0 0)),(1,(I a0)),(5,(.p ⟨dp,5⟩ 0))] [(5,[(.l 4 (a1.Readers.map AV.b)),(.l 4 (a1.Writers.map AV.b))])])=true)<|ai (rfl:dp=dp)<|ai (rN dp)<|ai tt<|ai (rN dp)<|bE<|ai (rN dp)<|n4<|b9 h (fun bY h=>let F:=av not bY;ai (g0 F)<|ai (rN dp)<|jl F<|jl F<|jl F<|jl F<|jl F<|ai D<|ai A<|jl F<|jl F<|ai (rN dp)<|jl F<|bI h (lz c0.p.an bC.Label) fun cf h=>jl F<|bI h (mD a1 cf) fun bX h=>ai F<|L h) (fun bY h=>let H:=av not bY;cm H<|cm H<|cm H<|cm H<|cm H<|ai H<|L h)) (fun h9 h=>ai (av not h9)<|L h)
end
section
variable (c0:ax)(c1:Runner)(c2:aH)(a0:Stmt)(y3:Func)(a6:(List Level))(ad:Nat)(hp:HP)(k0:Key)(k1:Key)(k2:Key)(dp:Nat)
def jR:Option (((List Level)×Nat)⊕(Unit⊕((List Level)×Nat×Bool))):=
 if (ad:Int)<(a0.Args.length:Int) then
  (a0.Args[ad]?).bind fun y6=>
  (et c0 c1 c2 y6).bind fun r8=>
  if a6.length + [r8].length≤1000000000 then
   (y3.Params[ad]?).bind fun bp=>
   ((a6++[r8])[ad]?).bind fun cc=>
   (jX c0 c1 c2 bp cc).bind fun bX=>
   if bX=true then
    if IntKind.i64.wrap ((ad:Int)+1)=((ad+1:Nat):Int) then
     some (.inl (a6++[r8],ad+1))
    else none
   else
    some (.inr (.inl ()))
  else none
 else
  some (.inr (.inr (a6,ad,decide ((ad:Int)<(a0.Args.length:Int)))))
abbrev zq(c0:ax)(c1:Runner)(c2:aH)(a0:Stmt)(y3:Func)(v:((List Level)×Nat)):St:=⟨[(0,(.p k0 0)),(5,(bw y3.Params)),(6,(aO v.1)),(22,(ku a0.Args)),(23,(zI a0.Args.length)),(24,(I (v.2:Int)))],[],aP hp k0 k1 k2 c0 c1 c2⟩
abbrev mW(c0:ax)(c1:Runner)(c2:aH)(a0:Stmt)(y3:Func)(x:(Unit⊕((List Level)×Nat×Bool))):bh×St:=match x with | .inl ()=>(.ret,⟨[(4,(.b false))],[],aP hp k0 k1 k2 c0 c1 c2⟩) | .inr (z1,z2,z3)=>((.ex 0),⟨[(0,(.p k0 0)),(5,(bw y3.Params)),(6,(aO z1)),(22,(ku a0.Args)),(23,(zI a0.Args.length)),(24,(I (z2:Int))),(25,(.b z3))],[],aP hp k0 k1 k2 c0 c1 c2⟩)
theorem yX(hp:HP)(k0:Key)(g:k0.dp<dp)(k1:Key)(q:k1.dp<dp)(k2:Key)(t:k2.dp<dp)(k:k0≠k1)(j:k0≠k2)(m:k1≠k2)(hz:aT dp hp)(c0:ax)(c1:Runner)(c2:aH)(a0:Stmt)(y3:Func)(a6:(List Level))(ad:Nat)(o:((List Level)×Nat)⊕(Unit⊕((List Level)×Nat×Bool)))(h:jR c0 c1 c2 a0 y3 a6 ad=some o):cG ⟨dp,false⟩ Rn (zq hp k0 k1 k2 c0 c1 c2 a0 y3) (mW hp k0 k1 k2 c0 c1 c2 a0 y3) (a6,ad) o:=
 let B:=rI ad;let A:=aP hp k0 k1 k2 c0 c1 c2;cT (.or (bt<|ao (.n ad)<|.ex fun (y6:aK)=>ao (.v (.a (cL y6)))<|fh<|.ex fun (r8:Level)=>ao (.v (.a [(aC r8.Readers),(aC r8.Writers)]))<|ao (.h (boxes dp [(8,(cL y6))] A))<|ao (.l ([r8].map aF))<|ao (.l ((a6++[r8]).map aF))<|ao (.n ad)<|xI fun bp=>ao (.n ad)<|.ex fun (cc:Level)=>let C:=[(aC cc.Readers),(aC cc.Writers)];ao (.v (.a C))<|ao (.v (.a C))<|xB fun bX=>ao (.h (boxes dp [] A))<|.or (bf<|ao (.i ((ad+1:Nat):Int))<|.nil) (bt<|.nil)) (bf<|.nil)) fun L=>da h (fun h5 h=>ai (aE h5)<|ai B<|bm h fun y6 h7 h=>ai (nZ bM h7 (fT _))<|ai ((by simp [cL,aM g,aR g,aM q,aR q,aM t,aR t]):(eA dp 8 [(28,(.a (cL y6))),(27,(.e (.a (cL y6)) 0)),(26,(I (ad:Int))),(0,(.p k0 0)),(5,(.l 3 (y3.Params.map I))),(6,(.o 113 (a6.map aF))),(22,(.l 89 (a0.Args.map bM))),(23,(I (a0.Args.length:Int))),(24,(I (ad:Int)))] [])=true)<|ai ff<|ai (rN dp)<|ai tt<|ai (rN dp)<|ai (rN dp)<|ai tt<|bm h fun r8 bF h=>let D:=[r8].map aF;have bF:=lE g q t k j m (fI (dp+1) (boxes dp [(8,(cL y6))] A) k0 (aB g) k1 (aB q) k2 (aB t) k j m (aQ (ak t (ak q (ak g hz)))) c0 c1 c2 y6 _ bF);ai bF<|ai (rfl:[(.a [(aC r8.Readers),(aC r8.Writers)])]=[r8].map aF)<|ai ff<|bc h fun aV h=>ai ((fS aF (n:=2) (fun _=>rfl) [r8]):D.all (fun e=>e.nc==2)=true)<|ai ((jO aV (by decide)):((a6.map aF).length+D.length)*48≤140737488355328)<|ai ((jP aV):(a6.map aF).length+D.length≤maxLen)<|ai (dI.symm:a6.map aF++[r8].map aF=(a6++[r8]).map aF)<|oo<|ai B<|bm h fun bp bY h=>ai (aI I bY)<|oo<|ai B<|bm h fun cc b5 h=>ai (aI aF b5)<|ai tt<|ai (aI aF b5)<|bE<|bm h fun bX bL h=>have bL:=lE g q t k j m (so (dp+1) (boxes dp [] A) k0 (aB g) k1 (aB q) k2 (aB t) k j m (aQ (ak t (ak q (ak g hz)))) c0 c1 c2 bp cc _ bL);ai bL<|b9 h (fun b8 h=>ai (av not b8)<|bc h fun cs h=>ai cs<|L h) (fun b8 h=>ai (av not b8)<|L h)) (fun h5 h=>ai (aG h5)<|L h)
def jS(am:((List Level)×Nat×Bool))(ae:Nat)(v1_k0_9:(List Level)):Option ((Nat×(List Level))⊕(Nat×Bool×(List Level))):=
 if (ae:Int)<(y3.Params.length:Int) then
  (y3.Params[ae]?).bind fun y9=>
  (am.1[ae]?).bind fun bp=>
  (cV y9).bind fun j13=>
  (v1_k0_9[j13]?).bind fun bB=>
  if IntKind.i64.wrap ((ae:Int)+1)=((ae+1:Nat):Int) then
   some (.inl (ae+1,v1_k0_9.set j13 bp))
  else none
 else
  some (.inr (ae,decide ((ae:Int)<(y3.Params.length:Int)),v1_k0_9))
abbrev zr(c0:ax)(c1:Runner)(c2:aH)(y3:Func)(am:((List Level)×Nat×Bool))(v:(Nat×(List Level))):St:=⟨[(0,(.p k0 0)),(6,(aO am.1)),(47,(bw y3.Params)),(48,(zI y3.Params.length)),(49,(I (v.1:Int)))],[],aq (aq (aq hp k0 ((((df c0).set 0 (.p k1 0)).set 9 (aO v.2)).set 11 (.p k2 0))) k1 (aa c1)) k2 (ay c2)⟩
abbrev rT(c0:ax)(c1:Runner)(c2:aH)(y3:Func)(am:((List Level)×Nat×Bool))(x:(Nat×Bool×(List Level))):bh×St:=((.ex 2),⟨[(0,(.p k0 0)),(6,(aO am.1)),(47,(bw y3.Params)),(48,(zI y3.Params.length)),(49,(I (x.1:Int))),(50,(.b x.2.1))],[],aq (aq (aq hp k0 ((((df c0).set 0 (.p k1 0)).set 9 (aO x.2.2)).set 11 (.p k2 0))) k1 (aa c1)) k2 (ay c2)⟩)
theorem yY(hp:HP)(k0:Key)(g:k0.dp<dp)(k1:Key)(k2:Key)(k:k0≠k1)(j:k0≠k2)(hz:aT dp hp)(c0:ax)(c1:Runner)(c2:aH)(y3:Func)(am:((List Level)×Nat×Bool))(ae:Nat)(v1_k0_9:(List Level))(o:(Nat×(List Level))⊕(Nat×Bool×(List Level)))(h:jS y3 am ae v1_k0_9=some o):cG ⟨dp,false⟩ Ro (zr hp k0 k1 k2 c0 c1 c2 y3 am) (rT hp k0 k1 k2 c0 c1 c2 y3 am) (ae,v1_k0_9) o:=
 let D:=au g;let C:=(df c0).set 0 (.p k1 0);let A:=(C.set 9 (aO v1_k0_9)).set 11 (.p k2 0);let B:=(dD k j:(aq (aq (aq hp k0 A) k1 (aa c1)) k2 (ay c2)) k0=some A);cT (.or (bt<|ao (.n ae)<|xI fun y9=>bf<|ao (.l A)<|ao (.n ae)<|.ex fun (bp:Level)=>let E:=[(aC bp.Readers),(aC bp.Writers)];ao (.v (.a E))<|ao (.v (.a E))<|xN fun j13=>let F:=v1_k0_9.set j13 bp;bf<|ao (.l A)<|.ex fun (bB:Level)=>let G:=[(aC bB.Readers),(aC bB.Writers)];ao (.v (.a G))<|bf<|ao (.l A)<|ao (.v (.a G))<|ao (.l (F.map aF))<|bf<|ao (.l A)<|bf<|ao (.h (aq (aq (aq hp k0 ((C.set 9 (aO F)).set 11 (.p k2 0))) k1 (aa c1)) k2 (ay c2)))<|ao (.i ((ae+1:Nat):Int))<|.nil) (bf<|.nil)) fun L=>da h (fun h8 h=>ai (aE h8)<|ai (rI ae)<|bm h fun y9 aV h=>ai (aI I aV)<|oo<|ai D<|ai B<|oo<|ai (rI ae)<|bm h fun bp bY h=>ai (aI aF bY)<|ai tt<|ai (aI aF bY)<|ai tt<|ez h fun j13 b5 h=>let H:=(C.set 9 (aO (v1_k0_9.set j13 bp))).set 11 (.p k2 0);ai b5<|ai D<|ai B<|bm h fun bB b2 h=>ai (aI aF b2)<|ai ff<|ai D<|ai B<|ai (aI aF b2)<|ai (map_set .. : (v1_k0_9.map aF).set j13 (.a [(aC bp.Readers),(aC bp.Writers)])=(v1_k0_9.set j13 bp).map aF)<|ai D<|ai B<|ai D<|ai (cJ (cC j) (cJ (cC k) (bP ..)):aq (aq (aq (aq hp k0 A) k1 (aa c1)) k2 (ay c2)) k0 H=aq (aq (aq hp k0 H) k1 (aa c1)) k2 (ay c2))<|bc h fun ck h=>ai ck<|L h) (fun h8 h=>ai (aG h8)<|L h)
abbrev BE(dp:Nat)(hp:HP)(k0:Key)(k1:Key)(k2:Key)(c0:ax)(c1:Runner)(c2:aH)(a0:Stmt)(r:(Bool×ax)):bA×HP:=(.ret (.b r.1),aP hp k0 k1 k2 r.2 c1 c2)
def lf:Option (Bool×ax):=
 (cV a0.Other).bind fun j1=>
 (c0.p.Funcs[j1]?).bind fun y3=>
 (lp (fun v=>jR c0 c1 c2 a0 y3 v.1 v.2) (([]:List Level),0)).bind fun x5=>match x5 with
 | .inl bz=>
  some (false,c0)
 | .inr am=>
  (lp (fun v=>jS y3 am v.1 v.2) (0,c0.vars)).bind fun x8=>
  some (true,(⟨(),c0.p,x8.2.2,c0.places,()⟩:ax))
theorem yZ(hp:HP)(k0:Key)(g:k0.dp<dp)(k1:Key)(q:k1.dp<dp)(k2:Key)(t:k2.dp<dp)(k:k0≠k1)(j:k0≠k2)(m:k1≠k2)(hz:aT dp hp)(c0:ax)(c1:Runner)(c2:aH)(a0:Stmt)(r:(Bool×ax))(h:lf c0 c1 c2 a0=some r):call G Ω0 ⟨dp,false⟩ 190 [(.p k0 0),(.a (ar a0))] (aP hp k0 k1 k2 c0 c1 c2)=some (BE dp hp k0 k1 k2 c0 c1 c2 a0 r):=
 a8 aht (bf<|ao (.l (cE k1 k2 c0))<|bt<|xN fun j1=>.ex fun (y3:Func)=>ao (.v (.a (dB y3)))<|bt<|ao (.i (a0.Args.length:Int))<|.or (.ex fun (bz:Unit)=>ao (.dJ (mW hp k0 k1 k2 c0 c1 c2 a0 y3 (.inl bz)))<|.nil) (.ex fun (am:((List Level)×Nat×Bool))=>ao (.dJ (mW hp k0 k1 k2 c0 c1 c2 a0 y3 (.inr am)))<|ao (.i (y3.Params.length:Int))<|.ex fun (x8:(Nat×Bool×(List Level)))=>ao (.dJ (rT hp k0 k1 k2 c0 c1 c2 y3 am x8))<|.nil)) fun L=>ai ((by simp [ar,aM g,aR g,aM q,aR q,aM t,aR t]):(((.a (ar a0)):AV).deep dp&&(eA dp 3 [(0,(.p k0 0)),(1,(.a (ar a0)))] []))=true)<|tO<|ai (au g)<|ai (dD k j:(aP hp k0 k1 k2 c0 c1 c2) k0=some (cE k1 k2 c0))<|bE<|ai (rN dp)<|ai tt<|ez h fun j1 h2 h=>ai h2<|bm h fun y3 h4 h=>ai (aI cQ h4)<|ai (rN dp)<|ai (bn bM a0.Args)<|iy h (im (fun v=>yX dp hp k0 g k1 q k2 t k j m hz c0 c1 c2 a0 y3 v.1 v.2) (([]:List Level),0)) (fun bz h=>L h) (fun am h=>ai (bn I y3.Params)<|bI h (im (fun v=>yY dp hp k0 g k1 k2 k j hz c0 c1 c2 y3 am v.1 v.2) (0,c0.vars)) fun x8 h=>L h)
end
section
variable (dp:Nat)(hp:HP)(k0:Key)
abbrev zt(dp:Nat)(hp:HP)(k0:Key)(k1:Key)(k2:Key)(c0:ax)(c1:Runner)(c2:aH)(a0:Int)(r:(Bool×Runner)):bA×HP:=(.ret (.b r.1),aP hp k0 k1 k2 c0 r.2 c2)
def gK(c0:ax)(c1:Runner)(c2:aH)(a0:Int):Option (Bool×Runner):=
 some (false,(⟨c1.p,c1.ins,c1.fuel,c1.first,(⟨c1.aU.Events,c1.aU.Vars,c1.aU.Taken,c1.aU.Steps,3,a0⟩:RunT)⟩:Runner))
theorem lC(g:k0.dp<dp)(k1:Key)(q:k1.dp<dp)(k2:Key)(t:k2.dp<dp)(k:k0≠k1)(j:k0≠k2)(m:k1≠k2)(hz:aT dp hp)(c0:ax)(c1:Runner)(c2:aH)(a0:Int)(r:(Bool×Runner))(h:gK c0 c1 c2 a0=some r):call G Ω0 ⟨dp,false⟩ 153 [(.p k0 0),(I a0)] (aP hp k0 k1 k2 c0 c1 c2)=some (zt dp hp k0 k1 k2 c0 c1 c2 a0 r):=
 let H:=au q;let C:=aP hp k0 k1 k2 c0 c1 c2;let E:=(dD k j:C k0=some (cE k1 k2 c0));let B:=aq hp k0 (cE k1 k2 c0);let A:=(aa c1).set 15 (I 3);let F:=A.set 16 (I a0);let D:=aq (aq B k1 A) k2 (ay c2);a8 ag7 (bf<|ao (.l (cE k1 k2 c0))<|bf<|ao (.l (cE k1 k2 c0))<|bf<|ao (.l (aa c1))<|bf<|ao (.h D)<|bf<|ao (.l A)<|bf<|ao (.h (aq (aq B k1 F) k2 (ay c2)))<|.nil) fun L=>oo<|ai (au g)<|ai E<|oo<|ai (au g)<|ai E<|bE<|bE<|ai tt<|ai ff<|ai H<|ai (Ma m:C k1=some (aa c1))<|ai tt<|ai H<|ai (cJ (cC m) (bP ..):aq C k1 A=aq (aq B k1 A) k2 (ay c2))<|ai tt<|ai ff<|ai H<|ai (Ma m:D k1=some A)<|ai tt<|ai H<|ai (cJ (cC m) (bP ..):aq D k1 F=aq (aq B k1 F) k2 (ay c2))<|L h
end
section
variable (c0:Runner)(a0:Stmt)(a9:(List Int))(ah:Nat)(dp:Nat)(hp:HP)(k0:Key)(x1:((List Int)×Nat×Bool))(y5:Func)(af:Nat)
def lX:Option (((List Int)×Nat)⊕((List Int)×Nat×Bool)):=
 if (ah:Int)<(a0.Args.length:Int) then
  (a0.Args[ah]?).bind fun y2=>
  (n7 y2 c0.aU.Vars).bind fun r4=>
  if a9.length + [r4].length≤1000000000 then
   if IntKind.i64.wrap ((ah:Int)+1)=((ah+1:Nat):Int) then
    some (.inl (a9++[r4],ah+1))
   else none
  else none
 else
  some (.inr (a9,ah,decide ((ah:Int)<(a0.Args.length:Int))))
abbrev CF(c0:Runner)(a0:Stmt)(v:((List Int)×Nat)):St:=⟨[(0,(.p k0 0)),(3,(.p ⟨dp,3⟩ 0)),(4,(cR v.1)),(10,(ku a0.Args)),(11,(zI a0.Args.length)),(12,(I (v.2:Int)))],[(3,(ar a0))],aq hp k0 (aa c0)⟩
abbrev ud(c0:Runner)(a0:Stmt)(x:((List Int)×Nat×Bool)):bh×St:=((.ex 0),⟨[(0,(.p k0 0)),(3,(.p ⟨dp,3⟩ 0)),(4,(cR x.1)),(10,(ku a0.Args)),(11,(zI a0.Args.length)),(12,(I (x.2.1:Int))),(13,(.b x.2.2))],[(3,(ar a0))],aq hp k0 (aa c0)⟩)
theorem BF(g:k0.dp<dp)(hz:aT dp hp)(c0:Runner)(a0:Stmt)(a9:(List Int))(ah:Nat)(o:((List Int)×Nat)⊕((List Int)×Nat×Bool))(h:lX c0 a0 a9 ah=some o):cG ⟨dp,false⟩ Rp (CF dp hp k0 c0 a0) (ud dp hp k0 c0 a0) (a9,ah) o:=
 cT (.or (bt<|ao (.n ah)<|.ex fun (y2:aK)=>ao (.v (.a (cL y2)))<|bt<|bt<|bt<|bf<|ao (.l (aa c0))<|bf<|ao (.l (aa c0))<|xI fun r4=>ao (.l ([r4].map I))<|ao (.l ((a9++[r4]).map I))<|ao (.i ((ah+1:Nat):Int))<|.nil) (bf<|.nil)) fun L=>da h (fun h1 h=>ai (aE h1)<|ai (rI ah)<|bm h fun y2 h3 h=>ai (nZ bM h3 (fT _))<|ai ((by simp [cL,ar,aM g,aR g]):(eA dp 6 [(15,(.a (cL y2))),(14,(.e (.a (cL y2)) 0)),(0,(.p k0 0)),(3,(.p ⟨dp,3⟩ 0)),(4,(.o 3 (a9.map I))),(10,(.l 89 (a0.Args.map bM))),(11,(I (a0.Args.length:Int))),(12,(I (ah:Int)))] [(3,(ar a0))])=true)<|ai ff<|ai (rN dp)<|ai tt<|ai (rN dp)<|ai ((by simp [cL,ar,aM g]):(([24]:List Nat).all (jg dp (⟨[(0,(.p k0 0)),(3,(.p ⟨dp,3⟩ 0)),(4,(.o 3 (a9.map I))),(6,(.p ⟨dp,6⟩ 0)),(10,(.l 89 (a0.Args.map bM))),(11,(I (a0.Args.length:Int))),(12,(I (ah:Int)))],[(3,(ar a0)),(6,(cL y2))],H0⟩:St))&&true)=true)<|ai tt<|ai (rN dp)<|ai tt<|ai (okR g [24])<|ai (okR g [24])<|ai (jG g [24] [] 11)<|ai (jG g [24] [] 12)<|ai (au g)<|ai (a7 hp k0 (aa c0))<|ai (ac0 g [24] 12)<|ai (au g)<|ai (a7 hp k0 (aa c0))<|bI h (rL y2 c0.aU.Vars) fun r4 h=>let A:=[r4].map I;n4<|ai (rfl:[(I r4)]=[r4].map I)<|ai tt<|ai ff<|bc h fun h6 h=>ai ((fS I (n:=1) (fun _=>rfl) [r4]):A.all (fun e=>e.nc==1)=true)<|ai ((jO h6 (by decide)):((a9.map I).length+A.length)*8≤140737488355328)<|ai ((jP h6):(a9.map I).length+A.length≤maxLen)<|ai (dI.symm:a9.map (I)++[r4].map (I)=(a9++[r4]).map I)<|bc h fun w7 h=>ai w7<|L h) (fun h1 h=>ai (aG h1)<|L h)
def lZ(v1_k0_12:(List Int)):Option ((Nat×(List Int))⊕(Nat×Bool×(List Int))):=
 if (af:Int)<(y5.Params.length:Int) then
  (y5.Params[af]?).bind fun y8=>
  (x1.1[af]?).bind fun bC=>
  (cV y8).bind fun j12=>
  (v1_k0_12[j12]?).bind fun cj=>
  if IntKind.i64.wrap ((af:Int)+1)=((af+1:Nat):Int) then
   some (.inl (af+1,v1_k0_12.set j12 bC))
  else none
 else
  some (.inr (af,decide ((af:Int)<(y5.Params.length:Int)),v1_k0_12))
abbrev CH(c0:Runner)(x1:((List Int)×Nat×Bool))(y5:Func)(v:(Nat×(List Int))):St:=⟨[(0,(.p k0 0)),(4,(cR x1.1)),(36,(bw y5.Params)),(37,(zI y5.Params.length)),(38,(I (v.1:Int)))],[],aq hp k0 ((bZ c0).set 12 (cR v.2))⟩
abbrev ue(c0:Runner)(x1:((List Int)×Nat×Bool))(y5:Func)(x:(Nat×Bool×(List Int))):bh×St:=((.ex 2),⟨[(0,(.p k0 0)),(4,(cR x1.1)),(36,(bw y5.Params)),(37,(zI y5.Params.length)),(38,(I (x.1:Int))),(39,(.b x.2.1))],[],aq hp k0 ((bZ c0).set 12 (cR x.2.2))⟩)
theorem BG(g:k0.dp<dp)(hz:aT dp hp)(c0:Runner)(x1:((List Int)×Nat×Bool))(y5:Func)(af:Nat)(v1_k0_12:(List Int))(o:(Nat×(List Int))⊕(Nat×Bool×(List Int)))(h:lZ x1 y5 af v1_k0_12=some o):cG ⟨dp,false⟩ Rq (CH hp k0 c0 x1 y5) (ue hp k0 c0 x1 y5) (af,v1_k0_12) o:=
 let B:=au g;let A:=(bZ c0).set 12 (cR v1_k0_12);let C:=a7 hp k0 A;cT (.or (bt<|ao (.n af)<|xI fun y8=>bf<|ao (.l A)<|ao (.n af)<|xI fun bC=>ao (.v (I bC))<|xN fun j12=>let D:=v1_k0_12.set j12 bC;bf<|ao (.l A)<|xI fun cj=>bf<|ao (.l A)<|ao (.v (I cj))<|ao (.l (D.map I))<|bf<|ao (.l A)<|bf<|ao (.h (aq hp k0 ((bZ c0).set 12 (cR D))))<|ao (.i ((af+1:Nat):Int))<|.nil) (bf<|.nil)) fun L=>da h (fun h7 h=>ai (aE h7)<|ai (rI af)<|bm h fun y8 h9 h=>ai (aI I h9)<|tO<|ai B<|ai C<|oo<|ai (rI af)<|bm h fun bC bv h=>ai (aI I bv)<|ai tt<|ai (aI I bv)<|ai tt<|ez h fun j12 bd h=>let E:=v1_k0_12.set j12 bC;ai bd<|ai B<|ai C<|bm h fun cj cq h=>ai (aI I cq)<|ai ff<|ai B<|ai C<|ai (aI I cq)<|ai (map_set .. : (v1_k0_12.map I).set j12 (I bC)=E.map I)<|ai B<|ai C<|ai B<|ai (bP hp k0 A ((bZ c0).set 12 (cR E)))<|bc h fun cu h=>ai cu<|L h) (fun h7 h=>ai (aG h7)<|L h)
abbrev El(dp:Nat)(hp:HP)(k0:Key)(c0:Runner)(a0:Stmt)(r:Runner):bA×HP:=(.ret (.tp []),aq hp k0 (aa r))
def nL:Option Runner:=
 (lp (fun v=>lX c0 a0 v.1 v.2) (([]:List Int),0)).bind fun x1=>
 (cV a0.Other).bind fun j3=>
 (c0.p.Funcs[j3]?).bind fun y5=>
 (lp (fun v=>lZ x1 y5 v.1 v.2) (0,c0.aU.Vars)).bind fun x7=>
 some (⟨c0.p,c0.ins,c0.fuel,c0.first,(⟨c0.aU.Events,x7.2.2,c0.aU.Taken,c0.aU.Steps,c0.aU.End,c0.aU.Stop⟩:RunT)⟩:Runner)
theorem BH(g:k0.dp<dp)(hz:aT dp hp)(c0:Runner)(a0:Stmt)(r:Runner)(h:nL c0 a0=some r):call G Ω0 ⟨dp,false⟩ 191 [(.p k0 0),(.a (ar a0))] (aq hp k0 (aa c0))=some (El dp hp k0 c0 a0 r):=
 a8 ahu (bt<|ao (.i (a0.Args.length:Int))<|.ex fun (x1:((List Int)×Nat×Bool))=>ao (.dJ (ud dp hp k0 c0 a0 x1))<|bf<|ao (.l (aa c0))<|bt<|xN fun j3=>.ex fun (y5:Func)=>ao (.v (.a (dB y5)))<|ao (.i (y5.Params.length:Int))<|.ex fun (x7:(Nat×Bool×(List Int)))=>ao (.dJ (ue hp k0 c0 x1 y5 x7))<|.nil) fun L=>ai ((by simp [ar,aM g,aR g]):(((.a (ar a0)):AV).deep dp&&(eA dp 3 [(0,(.p k0 0)),(1,(.a (ar a0)))] []))=true)<|ai (rN dp)<|ai (bn bM a0.Args)<|bI h (im (fun v=>BF dp hp k0 g hz c0 a0 v.1 v.2) (([]:List Int),0)) fun x1 h=>tO<|ai (au g)<|ai (a7 hp k0 (aa c0))<|bE<|ai (rN dp)<|ai tt<|ez h fun j3 h4 h=>ai h4<|bm h fun y5 h6 h=>ai (aI cQ h6)<|n4<|ai (bn I y5.Params)<|bE<|bI h (im (fun v=>BG dp hp k0 g hz c0 x1 y5 v.1 v.2) (0,c0.aU.Vars)) fun x7 h=>L h
end
section
variable (dp:Nat)(hp:HP)(k0:Key)(c0:ax)(c1:Runner)(c2:aH)(a0:Int)(a1:Level)
abbrev De(dp:Nat)(hp:HP)(k0:Key)(k1:Key)(k2:Key)(c0:ax)(c1:Runner)(c2:aH)(a0:Int)(a1:Level)(r:(Bool×ax)):bA×HP:=(.ret (.b r.1),aP hp k0 k1 k2 r.2 c1 c2)
def fu:Option (Bool×ax):=
 (jX c0 c1 c2 a0 a1).bind fun r1=>
 if r1=true then
  (cV a0).bind fun j4=>
  (c0.vars[j4]?).bind fun y6=>
  some (true,(⟨(),c0.p,c0.vars.set j4 a1,c0.places,()⟩:ax))
 else
  some (false,c0)
theorem kz(g:k0.dp<dp)(k1:Key)(q:k1.dp<dp)(k2:Key)(t:k2.dp<dp)(k:k0≠k1)(j:k0≠k2)(m:k1≠k2)(hz:aT dp hp)(c0:ax)(c1:Runner)(c2:aH)(a0:Int)(a1:Level)(r:(Bool×ax))(h:fu c0 c1 c2 a0 a1=some r):call G Ω0 ⟨dp,false⟩ 192 [(.p k0 0),(I a0),(.a [(.l 4 (a1.Readers.map AV.b)),(.l 4 (a1.Writers.map AV.b))])] (aP hp k0 k1 k2 c0 c1 c2)=some (De dp hp k0 k1 k2 c0 c1 c2 a0 a1 r):=
 let E:=au g;let D:=cE k1 k2 c0;let C:=(df c0).set 0 (.p k1 0);let B:=boxes dp [(5,[(aC a1.Readers),(aC a1.Writers)])] (aP hp k0 k1 k2 c0 c1 c2);let A:=(dD k j:(aP hp k0 k1 k2 c0 c1 c2) k0=some D);a8 ahv (bt<|xB fun r1=>ao (.h B)<|.or (bf<|bf<|ao (.l D)<|bt<|xN fun j4=>let F:=c0.vars.set j4 a1;bf<|ao (.l D)<|.ex fun (y6:Level)=>let H:=[(aC y6.Readers),(aC y6.Writers)];ao (.v (.a H))<|bf<|ao (.l D)<|ao (.v (.a H))<|ao (.l (F.map aF))<|bf<|ao (.l D)<|bf<|ao (.h (aq (aq (aq hp k0 ((C.set 9 (aO F)).set 11 (.p k2 0))) k1 (aa c1)) k2 (ay c2)))<|.nil) (bt<|.nil)) fun L=>ai ((by simp [aM g,aR g,aM q,aR q,aM t,aR t]):(((.a [(.l 4 (a1.Readers.map AV.b)),(.l 4 (a1.Writers.map AV.b))]):AV).deep dp&&(eA dp 5 [(0,(.p k0 0)),(1,(I a0)),(2,(.a [(.l 4 (a1.Readers.map AV.b)),(.l 4 (a1.Writers.map AV.b))]))] []))=true)<|ai (rN dp)<|ai tt<|bm h fun r1 aL h=>have aL:=lE g q t k j m (so (dp+1) B k0 (aB g) k1 (aB q) k2 (aB t) k j m (aQ (ak t (ak q (ak g hz)))) c0 c1 c2 a0 a1 _ aL);ai aL<|b9 h (fun h3 h=>IT (av not h3)<|ai E<|ai A<|bE<|ai (rN dp)<|ai tt<|ez h fun j4 h5 h=>let J:=(C.set 9 (aO (c0.vars.set j4 a1))).set 11 (.p k2 0);ai h5<|ai E<|ai A<|bm h fun y6 h7 h=>ai (aI aF h7)<|ai ff<|ai E<|ai A<|ai (aI aF h7)<|ai (map_set .. : (c0.vars.map aF).set j4 (.a [(aC a1.Readers),(aC a1.Writers)])=(c0.vars.set j4 a1).map aF)<|ai E<|ai A<|ai E<|ai (cJ (cC j) (cJ (cC k) (bP ..)):aq (aP hp k0 k1 k2 c0 c1 c2) k0 J=aq (aq (aq hp k0 J) k1 (aa c1)) k2 (ay c2))<|L h) (fun h3 h=>ai (av not h3)<|L h)
end
section
variable (dp:Nat)(hp:HP)(k0:Key)(c0:Runner)(a0:Stmt)
abbrev Em(dp:Nat)(hp:HP)(k0:Key)(c0:Runner)(a0:Stmt)(r:Runner):bA×HP:=(.ret (.tp []),aq hp k0 (aa r))
def nM:Option Runner:=
 (cV a0.Other).bind fun j1=>
 (c0.p.Funcs[j1]?).bind fun y3=>
 (n7 y3.Result c0.aU.Vars).bind fun r5=>
 (cV a0.Var).bind fun j7=>
 (c0.aU.Vars[j7]?).bind fun y9=>
 some (⟨c0.p,c0.ins,c0.fuel,c0.first,(⟨c0.aU.Events,c0.aU.Vars.set j7 r5,c0.aU.Taken,c0.aU.Steps,c0.aU.End,c0.aU.Stop⟩:RunT)⟩:Runner)
theorem BI(g:k0.dp<dp)(hz:aT dp hp)(c0:Runner)(a0:Stmt)(r:Runner)(h:nM c0 a0=some r):call G Ω0 ⟨dp,false⟩ 194 [(.p k0 0),(.a (ar a0))] (aq hp k0 (aa c0))=some (Em dp hp k0 c0 a0 r):=
 let B:=au g;let A:=a7 hp k0 (aa c0);a8 ahx (bf<|ao (.l (aa c0))<|nz<|ao (.l (aa c0))<|bt<|xN fun j1=>.ex fun (y3:Func)=>ao (.v (.a (dB y3)))<|bf<|ao (.l (aa c0))<|bf<|ao (.l (aa c0))<|xI fun r5=>xN fun j7=>let C:=c0.aU.Vars.set j7 r5;bf<|ao (.l (aa c0))<|xI fun y9=>bf<|ao (.l (aa c0))<|ao (.v (I y9))<|ao (.l (C.map I))<|bf<|ao (.l (aa c0))<|bf<|ao (.h (aq hp k0 ((bZ c0).set 12 (cR C))))<|.nil) fun L=>ai ((by simp [ar,aM g,aR g]):(((.a (ar a0)):AV).deep dp&&(eA dp 3 [(0,(.p k0 0)),(1,(.a (ar a0)))] []))=true)<|tO<|ai B<|ai A<|bE<|ai (rN dp)<|tO<|ai B<|ai A<|bE<|ai (rN dp)<|ai tt<|ez h fun j1 h2 h=>ai h2<|bm h fun y3 h4 h=>ai (aI cQ h4)<|bE<|bE<|bE<|ai tt<|ai B<|ai A<|ai tt<|ai B<|ai A<|bI h (rL y3.Result c0.aU.Vars) fun r5 h=>n4<|ez h fun j7 h8 h=>let D:=c0.aU.Vars.set j7 r5;ai h8<|ai B<|ai A<|bm h fun y9 aV h=>ai (aI I aV)<|ai ff<|ai B<|ai A<|ai (aI I aV)<|ai (map_set .. : (c0.aU.Vars.map I).set j7 (I r5)=D.map I)<|ai B<|ai A<|ai B<|ai (bP hp k0 (aa c0) ((bZ c0).set 12 (cR D)))<|L h
end
section
variable (dp:Nat)(hp:HP)(k0:Key)(c0:ax)(c1:Runner)(c2:aH)(a0:aK)
abbrev CI(dp:Nat)(hp:HP)(k0:Key)(k1:Key)(k2:Key)(c0:ax)(c1:Runner)(c2:aH)(a0:aK)(r:ax):bA×HP:=(.ret (.tp []),aP hp k0 k1 k2 r c1 c2)
def ju:Option ax:=
 (et c0 c1 c2 a0).bind fun r1=>
 if c0.places.length + [r1].length≤1000000000 then
  some (⟨(),c0.p,c0.vars,c0.places++[r1],()⟩:ax)
 else none
theorem rU(g:k0.dp<dp)(k1:Key)(q:k1.dp<dp)(k2:Key)(t:k2.dp<dp)(k:k0≠k1)(j:k0≠k2)(m:k1≠k2)(hz:aT dp hp)(c0:ax)(c1:Runner)(c2:aH)(a0:aK)(r:ax)(h:ju c0 c1 c2 a0=some r):call G Ω0 ⟨dp,false⟩ 195 [(.p k0 0),(.a (cL a0))] (aP hp k0 k1 k2 c0 c1 c2)=some (CI dp hp k0 k1 k2 c0 c1 c2 a0 r):=
 let J:=cE k1 k2 c0;let H:=au g;let F:=(gu c0).set 0 (.p k1 0);let E:=aP hp k0 k1 k2 c0 c1 c2;let D:=jG g [12,13] [] 0;let B:=(dD k j:E k0=some J);let A:=(F.set 10 .u).set 11 (.p k2 0);let C:=aq (aq (aq hp k0 A) k1 (aa c1)) k2 (ay c2);a8 ahy (bf<|ao (.l J)<|bt<|.ex fun (r1:Level)=>ao (.v (.a [(aC r1.Readers),(aC r1.Writers)]))<|ao (.h (boxes dp [] E))<|ao (.l ([r1].map aF))<|bf<|ao (.l J)<|bf<|ao (.l J)<|bf<|ao (.h C)<|ao (.l ((c0.places++[r1]).map aF))<|bf<|ao (.l A)<|bf<|ao (.h (aq (aq (aq hp k0 ((F.set 10 (aO (c0.places++[r1]))).set 11 (.p k2 0))) k1 (aa c1)) k2 (ay c2)))<|.nil) fun L=>ai ((by simp [cL,aM g,aR g,aM q,aR q,aM t,aR t]):(((.a (cL a0)):AV).deep dp&&(eA dp 3 [(0,(.p k0 0)),(1,(.a (cL a0)))] []))=true)<|ai ((by simp [cL,aM g,aM q,aM t]):(([12,13]:List Nat).all (jg dp (⟨[(0,(.p k0 0)),(3,(.p ⟨dp,3⟩ 0))],[(3,(cL a0))],H0⟩:St))&&true)=true)<|ai D<|ai D<|ai D<|ai (jG g [12,13] [] 10)<|ai H<|ai B<|ai (ac0 g [12,13] 10)<|ai D<|ai (rN dp)<|bE<|bm h fun r1 aL h=>let M:=[r1].map aF;let K:=(F.set 10 (aO (c0.places++[r1]))).set 11 (.p k2 0);have aL:=lE g q t k j m (fI (dp+1) (boxes dp [] E) k0 (aB g) k1 (aB q) k2 (aB t) k j m (aQ (ak t (ak q (ak g hz)))) c0 c1 c2 a0 _ aL);ai aL<|ai tt<|ai (rfl:[(.a [(aC r1.Readers),(aC r1.Writers)])]=[r1].map aF)<|ai tt<|ai ff<|ai H<|ai B<|ai H<|ai B<|ai H<|ai (cJ (cC j) (cJ (cC k) (bP ..)):aq E k0 A=aq (aq (aq hp k0 A) k1 (aa c1)) k2 (ay c2))<|bc h fun h3 h=>ai ((fS aF (n:=2) (fun _=>rfl) [r1]):M.all (fun e=>e.nc==2)=true)<|ai ((jO h3 (by decide)):((c0.places.map aF).length+M.length)*48≤140737488355328)<|ai ((jP h3):(c0.places.map aF).length+M.length≤maxLen)<|ai (dI.symm:c0.places.map aF++[r1].map aF=(c0.places++[r1]).map aF)<|ai tt<|ai ff<|ai H<|ai (dD k j:C k0=some A)<|ai H<|ai (cJ (cC j) (cJ (cC k) (bP ..)):aq C k0 K=aq (aq (aq hp k0 K) k1 (aa c1)) k2 (ay c2))<|L h
end
section
variable (dp:Nat)(hp:HP)(k0:Key)(c0:Runner)(a0:aK)
abbrev Fp(dp:Nat)(hp:HP)(k0:Key)(c0:Runner)(a0:aK)(r:Bool):bA×HP:=(.ret (.b r),aq hp k0 (aa c0))
def lK:Option Bool:=
 (n7 a0 c0.aU.Vars).bind fun r1=>
 some (r1 !=0)
theorem uf(g:k0.dp<dp)(hz:aT dp hp)(c0:Runner)(a0:aK)(r:Bool)(h:lK c0 a0=some r):call G Ω0 ⟨dp,true⟩ 197 [(.p k0 0),(.a (cL a0))] (aq hp k0 (aa c0))=some (Fp dp hp k0 c0 a0 r):=
 a8 ahA (nz<|ao (.l (aa c0))<|bf<|ao (.l (aa c0))<|xI fun r1=>.nil) fun L=>ai ((by simp [cL,aM g,aR g]):(((.a (cL a0)):AV).deep dp&&(eA dp 3 [(0,(.p k0 0)),(1,(.a (cL a0)))] []))=true)<|ai tt<|ai (rN dp)<|tO<|ai (au g)<|ai (a7 hp k0 (aa c0))<|ai tt<|ai (au g)<|ai (a7 hp k0 (aa c0))<|bI h (rL a0 c0.aU.Vars) fun r1 h=>bE<|L h
end
section
variable (dp:Nat)(hp:HP)(k0:Key)(c0:Runner)(a0:Stmt)(a1:Int)
abbrev Fq(dp:Nat)(hp:HP)(k0:Key)(c0:Runner)(a0:Stmt)(a1:Int)(r:((List Stmt)×Int)):bA×HP:=(.ret (.tp [(.l 111 (r.1.map bK)),(I r.2)]),aq hp k0 (aa c0))
def sb:Option ((List Stmt)×Int):=
 (lK c0 a0.Expr).bind fun r1=>
 if r1=true then
  if IntKind.i64.wrap (a1+1)=a1+1 then
   some (a0.Then,(a1+1))
  else none
 else
  if IntKind.i64.wrap (a1+1)=a1+1 then
   (px a0.Then).bind fun r5=>
   if IntKind.i64.wrap ((a1+1)+r5)=(a1+1)+r5 then
    some (a0.Else,((a1+1)+r5))
   else none
  else none
theorem CJ(g:k0.dp<dp)(hz:aT dp hp)(c0:Runner)(a0:Stmt)(a1:Int)(r:((List Stmt)×Int))(h:sb c0 a0 a1=some r):call G Ω0 ⟨dp,true⟩ 196 [(.p k0 0),(.a (ar a0)),(I a1)] (aq hp k0 (aa c0))=some (Fq dp hp k0 c0 a0 a1 r):=
 let A:=boxes dp [(4,(ar a0))] (aq hp k0 (aa c0));a8 ahz (bt<|xB fun r1=>ao (.h A)<|.or (ee<|ao (.i (a1+1))<|.nil) (D3<|ao (.i (a1+1))<|bt<|xI fun r5=>ao (.i ((a1+1)+r5))<|.nil)) fun L=>ai ((by simp [ar,aM g,aR g]):(((.a (ar a0)):AV).deep dp&&(eA dp 4 [(0,(.p k0 0)),(1,(.a (ar a0))),(2,(I a1))] []))=true)<|ai (rN dp)<|ai tt<|bm h fun r1 aL h=>have aL:=cO g (uf (dp+1) A k0 (aB g) (aQ (ak g hz)) c0 a0.Expr _ aL);ai aL<|b9 h (fun h3 h=>ai h3<|ai (rN dp)<|bc h fun w4 h=>ai w4<|L h) (fun h3 h=>IS h3<|ai (rN dp)<|bE<|bc h fun w4 h=>ai w4<|bE<|ai (rN dp)<|ai tt<|bI h (sE a0.Then) fun r5 h=>ai tt<|bc h fun w7 h=>ai w7<|bE<|L h)
end
section
variable (c0:ax)(c1:Runner)(c2:aH)(a0:Stmt)(b1:(List Bool))(b0:(List Bool))(hp:HP)(k0:Key)(k1:Key)(k2:Key)(dp:Nat)
def fA:Option (Bool×ax):=
 (fu c0 c1 c2 a0.Var (⟨b1,b0⟩:Level)).bind fun be=>
 some (be.1,be.2)
abbrev l6(c1:Runner)(c2:aH)(x:(Bool×ax)):bh×St:=(.ret,⟨[(4,(.b x.1))],[],aP hp k0 k1 k2 x.2 c1 c2⟩)
theorem pM(hp:HP)(k0:Key)(g:k0.dp<dp)(k1:Key)(q:k1.dp<dp)(k2:Key)(t:k2.dp<dp)(k:k0≠k1)(j:k0≠k2)(m:k1≠k2)(hz:aT dp hp)(c0:ax)(c1:Runner)(c2:aH)(a0:Stmt)(b1:(List Bool))(b0:(List Bool))(x:(Bool×ax))(h:fA c0 c1 c2 a0 b1 b0=some x):run G Ω0 ⟨dp,false⟩ Rr ⟨[(0,(.p k0 0)),(3,(.p ⟨dp,3⟩ 0)),(6,(.p ⟨dp,6⟩ 0))],[(3,(ar a0)),(6,[(aC b1),(aC b0)])],aP hp k0 k1 k2 c0 c1 c2⟩=some (l6 hp k0 k1 k2 c1 c2 x):=
 let B:=(3,(ar a0));let A:=(6,[(aC b1),(aC b0)]);Cn (ee<|.ex fun (be:(Bool×ax))=>let C:=aP hp k0 k1 k2 be.2 c1 c2;ao (.v (.b be.1))<|ao (.h (boxes dp [B,A] C))<|ao (.bx [B,A])<|ao (.h C)<|.nil) fun L=>ai (rN dp)<|ai (rN dp)<|ep<|bm h fun be bJ h=>have bJ:=lE g q t k j m (kz (dp+1) (boxes dp [B,A] (aP hp k0 k1 k2 c0 c1 c2)) k0 (aB g) k1 (aB q) k2 (aB t) k j m (aQ (ak t (ak q (ak g hz)))) c0 c1 c2 a0.Var (⟨b1,b0⟩:Level) _ bJ);eW bJ (ak t (ak q (ak g hz)))<|L h
abbrev AR(dp:Nat)(hp:HP)(k0:Key)(k1:Key)(k2:Key)(c0:ax)(c1:Runner)(c2:aH)(a0:Stmt)(r:(Bool×ax)):bA×HP:=(.ret (.b r.1),aP hp k0 k1 k2 r.2 c1 c2)
def kA:Option (Bool×ax):=
 (cV a0.Var).bind fun j1=>
 (c0.p.Vars[j1]?).bind fun y3=>
 if y3.Known=true then
  (iw c2 a0).bind fun r6=>
  if r6=true then
   some (false,c0)
  else
   (iv c2 a0).bind fun r9=>
   if r9=true then
    some (false,c0)
   else
    (iB c0.p.an y3.Label).bind fun ag=>
    (et c0 c1 c2 a0.Expr).bind fun ab=>
    if (a0.Kind==5)=true then
     (fA c0 c1 c2 a0 ag.Readers ab.Writers).bind fun a5=>
     some (a5.1,a5.2)
    else
     (fA c0 c1 c2 a0 ab.Readers ag.Writers).bind fun a5=>
     some (a5.1,a5.2)
 else
  some (false,c0)
theorem xU(hp:HP)(k0:Key)(g:k0.dp<dp)(k1:Key)(q:k1.dp<dp)(k2:Key)(t:k2.dp<dp)(k:k0≠k1)(j:k0≠k2)(m:k1≠k2)(hz:aT dp hp)(c0:ax)(c1:Runner)(c2:aH)(a0:Stmt)(r:(Bool×ax))(h:kA c0 c1 c2 a0=some r):call G Ω0 ⟨dp,false⟩ 199 [(.p k0 0),(.a (ar a0))] (aP hp k0 k1 k2 c0 c1 c2)=some (AR dp hp k0 k1 k2 c0 c1 c2 a0 r):=
 let M:=aB t;let K:=jG g [5] [] 0;let J:=jG g [6,7] [] 1;let H:=au t;let F:=au g;let E:=cE k1 k2 c0;let D:=jG g [6,7] [] 0;let C:=(3,(ar a0));let A:=aP hp k0 k1 k2 c0 c1 c2;let B:=(dD k j:A k0=some E);a8 ahC (bf<|ao (.l E)<|bt<|xN fun j1=>.ex fun (y3:Var)=>let N:=[C,(5,(pn y3))];ao (.v (.a (pn y3)))<|fh<|.or (OV<|ao (.l E)<|fh<|xB fun r6=>ao (.h (boxes dp N A))<|ao (.bx N)<|ao (.h A)<|bf<|.or (bf<|bf<|bf<|bf<|bf<|bf<|bt<|bt<|.nil) (OV<|ao (.l E)<|fh<|xB fun r9=>ao (.h (boxes dp N A))<|ao (.bx N)<|ao (.h A)<|bf<|oN (bf<|ao (.l E)<|bt<|.ex fun (ag:Level)=>ao (.v (.a [(aC ag.Readers),(aC ag.Writers)]))<|bt<|.ex fun (ab:Level)=>ao (.v (.a [(aC ab.Readers),(aC ab.Writers)]))<|ao (.h (boxes dp [] A))<|tn<|.or (xp<|.fb<|.ex fun (a5:(Bool×ax))=>ao (.oe (l6 hp k0 k1 k2 c1 c2 a5))<|.nil) (bf<|bt<|bt<|bt<|.fb<|.ex fun (a5:(Bool×ax))=>ao (.oe (l6 hp k0 k1 k2 c1 c2 a5))<|.nil)))) (bf<|bf<|bf<|bf<|bf<|bf<|bt<|bf<|bf<|bf<|bf<|bf<|bf<|bt<|bt<|.nil)) fun L=>ai ((by simp [ar,aM g,aR g,aM q,aR q,aM t,aR t]):(((.a (ar a0)):AV).deep dp&&(eA dp 3 [(0,(.p k0 0)),(1,(.a (ar a0)))] []))=true)<|ai ((by simp [ar,aM g,aM q,aM t]):(([5]:List Nat).all (jg dp (⟨[(0,(.p k0 0)),(3,(.p ⟨dp,3⟩ 0))],[(3,(ar a0))],H0⟩:St))&&true)=true)<|ai K<|ai K<|ai (jG g [5] [] 1)<|ai (jG g [5] [] 6)<|ai F<|ai B<|ai tt<|ai (tN dp [5] [] 3 1)<|ai (rN dp)<|ai tt<|ez h fun j1 h2 h=>ai h2<|bm h fun y3 h4 h=>let O:=boxes dp [C,(5,(pn y3))] A;ai (aI dA h4)<|bE<|bE<|ai ff<|ai (rN dp)<|ai tt<|ai (rN dp)<|bE<|ai (rN dp)<|n4<|b9 h (fun h5 h=>let P:=av not h5;ai (g0 P)<|jl P<|jl P<|jl P<|ai F<|ai B<|jl P<|ai (rN dp)<|jl P<|ep<|bm h fun r6 bG h=>have bG:call G Ω0 ⟨dp+1,false⟩ 219 [(.p k2 0),(.a (ar a0))] O=some (.ret (.b r6),boxes dp [C,(5,(pn y3))] A):=dX (cD (hp1:=aP hp k0 k1 k2 c0 c1 c2) H (bP ..)) (cD (hp1:=aP hp k0 k1 k2 c0 c1 c2) H (bP ..)) (xS (dp+1) O k2 M (aQ (ak t (ak q (ak g hz)))) c2 a0 _ bG);eW bG (ak t (ak q (ak g hz)))<|IS P<|b9 h (fun h8 h=>cm h8<|cm h8<|cm h8<|rY h8<|L h) (fun h8 h=>ai (g0 h8)<|jl h8<|jl h8<|jl h8<|ai F<|ai B<|jl h8<|ai (rN dp)<|jl h8<|ep<|bm h fun r9 aY h=>have aY:call G Ω0 ⟨dp+1,false⟩ 220 [(.p k2 0),(.a (ar a0))] O=some (.ret (.b r9),boxes dp [C,(5,(pn y3))] A):=dX (cD (hp1:=aP hp k0 k1 k2 c0 c1 c2) H (bP ..)) (cD (hp1:=aP hp k0 k1 k2 c0 c1 c2) H (bP ..)) (xR (dp+1) O k2 M (aQ (ak t (ak q (ak g hz)))) c2 a0 _ aY);eW aY (ak t (ak q (ak g hz)))<|ai h8<|b9 h (fun bv h=>ai bv<|L h) (fun bv h=>ai bv<|ai ((by simp [ar,pn,aM g,aM q,aM t]):(([6,7]:List Nat).all (jg dp (⟨[(0,(.p k0 0)),(3,(.p ⟨dp,3⟩ 0)),(5,(.p ⟨dp,5⟩ 0))],[(3,(ar a0)),(5,(pn y3))],H0⟩:St))&&true)=true)<|ai D<|ai D<|ai J<|ai J<|ai F<|ai B<|ai tt<|ai (tN dp [6,7] [] 5 1)<|ai (rN dp)<|ai tt<|bI h (lz c0.p.an y3.Label) fun ag h=>ai tt<|ai D<|ai (tN dp [6,7] [] 3 3)<|ai (rN dp)<|bE<|bm h fun ab aW h=>have aW:=lE g q t k j m (fI (dp+1) (boxes dp [] A) k0 (aB g) k1 (aB q) k2 M k j m (aQ (ak t (ak q (ak g hz)))) c0 c1 c2 a0.Expr _ aW);ai aW<|bE<|ai (tN dp [7] [] 6 0)<|ai tt<|ai (tN dp [6] [] 7 0)<|ai ff<|ai (rN dp)<|ai tt<|ai (rN dp)<|ai ff<|ai (rN dp)<|ai tt<|ai (rN dp)<|ai (rN dp)<|b9 h (fun b2 h=>ai b2<|ai (rN dp)<|ai ff<|ai (rN dp)<|ai tt<|ai (rN dp)<|bI h (pM dp hp k0 g k1 q k2 t k j m hz c0 c1 c2 a0 ag.Readers ab.Writers) fun a5 h=>L h) (fun b2 h=>ai b2<|ai (rN dp)<|ai ff<|ai (rN dp)<|ai tt<|ai (rN dp)<|bI h (pM dp hp k0 g k1 q k2 t k j m hz c0 c1 c2 a0 ab.Readers ag.Writers) fun a5 h=>L h)))) (fun h5 h=>let Q:=av not h5;cm Q<|cm Q<|cm Q<|ai Q<|bE<|ai ht<|ai ht<|ai ht<|ai ht<|ai ht<|ai ht<|bE<|L h)
abbrev BJ(dp:Nat)(hp:HP)(k0:Key)(k1:Key)(k2:Key)(c0:ax)(c1:Runner)(c2:aH)(a0:Stmt)(r:(Bool×ax)):bA×HP:=(.ret (.b r.1),aP hp k0 k1 k2 r.2 c1 c2)
def lg:Option (Bool×ax):=
 if (a0.Kind==1)=true then
  (et c0 c1 c2 a0.Expr).bind fun r2=>
  (fu c0 c1 c2 a0.Var r2).bind fun r4=>
  some (r4.1,r4.2)
 else
  if (a0.Kind==3)=true then
   (cV a0.Other).bind fun j3=>
   (c0.p.Ins[j3]?).bind fun y5=>
   (iB c0.p.an y5).bind fun r7=>
   (eR c0 c1 c2).bind fun r9=>
   (gd r9 r7).bind fun aj=>
   if aj=true then
    (eR c0 c1 c2).bind fun ab=>
    (dL ab r7).bind fun ce=>
    (fu c0 c1 c2 a0.Var ce).bind fun cd=>
    some (cd.1,cd.2)
   else
    some (false,c0)
  else
   if (a0.Kind==4)=true then
    (et c0 c1 c2 a0.Expr).bind fun r4=>
    (cV a0.Other).bind fun j6=>
    (c0.p.Outs[j6]?).bind fun y8=>
    (iB c0.p.an y8).bind fun bb=>
    (gd r4 bb).bind fun ag=>
    some (ag,c0)
   else
    (kA c0 c1 c2 a0).bind fun r4=>
    some (r4.1,r4.2)
theorem y0(hp:HP)(k0:Key)(g:k0.dp<dp)(k1:Key)(q:k1.dp<dp)(k2:Key)(t:k2.dp<dp)(k:k0≠k1)(j:k0≠k2)(m:k1≠k2)(hz:aT dp hp)(c0:ax)(c1:Runner)(c2:aH)(a0:Stmt)(r:(Bool×ax))(h:lg c0 c1 c2 a0=some r):call G Ω0 ⟨dp,false⟩ 152 [(.p k0 0),(.a (ar a0))] (aP hp k0 k1 k2 c0 c1 c2)=some (BJ dp hp k0 k1 k2 c0 c1 c2 a0 r):=
 let N:=au g;let M:=cE k1 k2 c0;let K:=jG g [5] [] 1;let J:=aB t;let H:=aB q;let F:=aB g;let E:=jG g [5] [] 0;let D:=(3,(ar a0));let A:=aP hp k0 k1 k2 c0 c1 c2;let C:=boxes dp [] A;let B:=(dD k j:A k0=some M);a8 ag6 (bt<|.or (fh<|.ex fun (r2:Level)=>ao (.v (.a [(aC r2.Readers),(aC r2.Writers)]))<|ao (.h C)<|.ex fun (r4:(Bool×ax))=>let O:=aP hp k0 k1 k2 r4.2 c1 c2;ao (.v (.b r4.1))<|ao (.h (boxes dp [D] O))<|ao (.bx [D])<|ao (.h O)<|.nil) (bf<|.or (nz<|ao (.l M)<|bf<|ao (.l M)<|bt<|xN fun j3=>.ex fun (y5:Label)=>ao (.v (.a [(bU y5.Read),(bU y5.Write)]))<|.ex fun (r7:Level)=>let P:=[(aC r7.Readers),(aC r7.Writers)];ao (.v (.a P))<|ee<|.ex fun (r9:Level)=>ao (.v (.a [(aC r9.Readers),(aC r9.Writers)]))<|ao (.h C)<|bt<|xB fun aj=>.or (Vm<|.ex fun (ab:Level)=>ao (.v (.a [(aC ab.Readers),(aC ab.Writers)]))<|ao (.h C)<|fh<|.ex fun (ce:Level)=>ao (.v (.a [(aC ce.Readers),(aC ce.Writers)]))<|bt<|.ex fun (cd:(Bool×ax))=>let Q:=aP hp k0 k1 k2 cd.2 c1 c2;ao (.v (.b cd.1))<|ao (.h (boxes dp [D,(5,P)] Q))<|ao (.bx [D,(5,P)])<|ao (.h Q)<|bt<|.nil) (bf<|bf<|bf<|bf<|bf<|bf<|bf<|bf<|bf<|.nil)) (bf<|.or (ee<|.ex fun (r4:Level)=>ao (.v (.a [(aC r4.Readers),(aC r4.Writers)]))<|ao (.h C)<|bf<|ao (.l M)<|bf<|ao (.l M)<|bt<|xN fun j6=>.ex fun (y8:Label)=>ao (.v (.a [(bU y8.Read),(bU y8.Write)]))<|.ex fun (bb:Level)=>ao (.v (.a [(aC bb.Readers),(aC bb.Writers)]))<|xB fun ag=>.nil) (D3<|.ex fun (r4:(Bool×ax))=>let R:=aP hp k0 k1 k2 r4.2 c1 c2;ao (.v (.b r4.1))<|ao (.h (boxes dp [D] R))<|ao (.bx [D])<|ao (.h R)<|.nil)))) fun L=>ai ((by simp [ar,aM g,aR g,aM q,aR q,aM t,aR t]):(((.a (ar a0)):AV).deep dp&&(eA dp 3 [(0,(.p k0 0)),(1,(.a (ar a0)))] []))=true)<|ai (rN dp)<|b9 h (fun h1 h=>IU h1<|ai (rN dp)<|n4<|ai (rN dp)<|bE<|bm h fun r2 cn h=>have cn:=lE g q t k j m (fI (dp+1) C k0 F k1 H k2 J k j m (aQ (ak t (ak q (ak g hz)))) c0 c1 c2 a0.Expr _ cn);ai cn<|ai tt<|ep<|bm h fun r4 aw h=>have aw:=lE g q t k j m (kz (dp+1) (boxes dp [D] A) k0 F k1 H k2 J k j m (aQ (ak t (ak q (ak g hz)))) c0 c1 c2 a0.Var r2 _ aw);eW aw (ak t (ak q (ak g hz)))<|L h) (fun h1 h=>ai h1<|b9 h (fun h2 h=>ai h2<|ai ((by simp [ar,aM g,aM q,aM t]):(([5]:List Nat).all (jg dp (⟨[(0,(.p k0 0)),(3,(.p ⟨dp,3⟩ 0)),(7,(I a0.Kind)),(18,(.b (a0.Kind==3)))],[(3,(ar a0))],H0⟩:St))&&true)=true)<|ai E<|ai E<|ai K<|ai K<|ai N<|ai B<|ai tt<|ai E<|ai E<|ai K<|ai (jG g [5] [] 4)<|ai N<|ai B<|ai tt<|ai (tN dp [5] [] 3 2)<|ai (rN dp)<|ai tt<|ez h fun j3 h4 h=>ai h4<|bm h fun y5 h6 h=>ai (aI aS h6)<|bE<|bI h (lz c0.p.an y5) fun r7 h=>bE<|ai tt<|ai ff<|ai (rN dp)<|ai tt<|ai (rN dp)<|n4<|bm h fun r9 aY h=>have aY:=lE g q t k j m (jt (dp+1) C k0 F k1 H k2 J k j m (aQ (ak t (ak q (ak g hz)))) c0 c1 c2 _ aY);ai aY<|ai tt<|ai (rN dp)<|ai tt<|bI h (mD r9 r7) fun aj h=>bE<|b9 h (fun bd h=>P3 bd<|ai (rN dp)<|kh bd<|kh bd<|ai tt<|bm h fun ab aW h=>have aW:=lE g q t k j m (jt (dp+1) C k0 F k1 H k2 J k j m (aQ (ak t (ak q (ak g hz)))) c0 c1 c2 _ aW);ai aW<|kh bd<|ai (rN dp)<|kh bd<|bI h (ie ab r7) fun ce h=>kh bd<|ep<|bm h fun cd ca h=>have ca:=lE g q t k j m (kz (dp+1) (boxes dp [D,(5,[(aC r7.Readers),(aC r7.Writers)])] A) k0 F k1 H k2 J k j m (aQ (ak t (ak q (ak g hz)))) c0 c1 c2 a0.Var ce _ ca);eW ca (ak t (ak q (ak g hz)))<|ai bd<|L h) (fun bd h=>dE bd<|dE bd<|dE bd<|dE bd<|ai bd<|L h)) (fun h2 h=>ai h2<|b9 h (fun h3 h=>IU h3<|ai (rN dp)<|bE<|bm h fun r4 aw h=>have aw:=lE g q t k j m (fI (dp+1) C k0 F k1 H k2 J k j m (aQ (ak t (ak q (ak g hz)))) c0 c1 c2 a0.Expr _ aw);ai aw<|tO<|ai N<|ai B<|tO<|ai N<|ai B<|bE<|ai (rN dp)<|ai tt<|ez h fun j6 h7 h=>ai h7<|bm h fun y8 h9 h=>ai (aI aS h9)<|bE<|bI h (lz c0.p.an y8) fun bb h=>bI h (mD r4 bb) fun ag h=>L h) (fun h3 h=>ai h3<|ai (rN dp)<|ep<|bm h fun r4 aw h=>have aw:=lE g q t k j m (xU (dp+1) (boxes dp [D] A) k0 F k1 H k2 J k j m (aQ (ak t (ak q (ak g hz)))) c0 c1 c2 a0 _ aw);eW aw (ak t (ak q (ak g hz)))<|L h)))
end
section
variable (dp:Nat)(hp:HP)(k0:Key)(c0:Runner)(a0:Int)(a1:Int)(a2:Int)(a3:Int)
abbrev Df(dp:Nat)(hp:HP)(k0:Key)(c0:Runner)(a0:Int)(a1:Int)(a2:Int)(a3:Int)(r:Runner):bA×HP:=(.ret (.tp []),aq hp k0 (aa r))
def il:Option Runner:=
 if c0.aU.Events.length+([(⟨a0,a1,a2,a3⟩:Event)]).length≤1000000000 then
  some (⟨c0.p,c0.ins,c0.fuel,c0.first,(⟨c0.aU.Events++([(⟨a0,a1,a2,a3⟩:Event)]),c0.aU.Vars,c0.aU.Taken,c0.aU.Steps,c0.aU.End,c0.aU.Stop⟩:RunT)⟩:Runner)
 else none
theorem oc(g:k0.dp<dp)(hz:aT dp hp)(c0:Runner)(a0:Int)(a1:Int)(a2:Int)(a3:Int)(r:Runner)(h:il c0 a0 a1 a2 a3=some r):call G Ω0 ⟨dp,false⟩ 200 [(.p k0 0),(I a0),(I a1),(I a2),(I a3)] (aq hp k0 (aa c0))=some (Df dp hp k0 c0 a0 a1 a2 a3 r):=
 let J:=c0.aU.Events.map bS;let E:=a7 hp k0 (aa c0);let D:=au g;let B:=(iK c0).set 11 .u;let A:=[(⟨a0,a1,a2,a3⟩:Event)];let F:=A.map bS;let C:=c0.aU.Events++A;let H:=(iK c0).set 11 (ot C);a8 ahD (bf<|ao (.l (aa c0))<|ao (.l F)<|bf<|ao (.l (aa c0))<|bf<|ao (.l (aa c0))<|bf<|ao (.h (aq hp k0 B))<|ao (.l (C.map bS))<|bf<|ao (.l B)<|bf<|ao (.h (aq hp k0 H))<|.nil) fun L=>ai D<|ai E<|ai (rfl:[(.a [(I a0),(I a1),(I a2),(I a3)])]=A.map bS)<|ai ff<|ai D<|ai E<|ai D<|ai E<|ai D<|ai (bP hp k0 (aa c0) B)<|bc h fun h1 h=>ai ((fS bS (n:=4) (fun _=>rfl) A):F.all (fun e=>e.nc==4)=true)<|ai ((jO h1 (by decide)):(J.length+F.length)*32≤140737488355328)<|ai ((jP h1):J.length+F.length≤maxLen)<|ai (dI.symm:c0.aU.Events.map bS++A.map bS=C.map bS)<|ai ff<|ai D<|ai (a7 hp k0 B)<|ai D<|ai (bP hp k0 B H)<|L h
end
section
variable (c0:Runner)(a0:Stmt)(bD:Int)(hp:HP)(k0:Key)(dp:Nat)(a1:Int)(r2:Int)(bu:(List Int))
def kJ:Option ((List Int)×(List Int)):=
 (cV a0.Other).bind fun j13=>
 (c0.aU.Taken[j13]?).bind fun bB=>
 if IntKind.i64.wrap (bB+1)=bB+1 then
  (cV a0.Var).bind fun j18=>
  (c0.aU.Vars[j18]?).bind fun ci=>
  some (c0.aU.Vars.set j18 bD,c0.aU.Taken.set j13 (bB+1))
 else none
abbrev q6(c0:Runner)(x:((List Int)×(List Int))):bh×St:=(.ret,⟨[],[],aq hp k0 (((wV c0).set 12 (cR x.1)).set 13 (cR x.2))⟩)
theorem uy(hp:HP)(k0:Key)(g:k0.dp<dp)(hz:aT dp hp)(c0:Runner)(a0:Stmt)(bD:Int)(x:((List Int)×(List Int)))(h:kJ c0 a0 bD=some x):run G Ω0 ⟨dp,false⟩ Q5 ⟨[(0,(.p k0 0)),(4,(.p ⟨dp,4⟩ 0)),(6,(I bD))],[(4,(ar a0))],aq hp k0 (aa c0)⟩=some (q6 hp k0 c0 x):=
 let B:=a7 hp k0 (aa c0);let A:=au g;Cn (bf<|ao (.l (aa c0))<|bt<|xN fun j13=>bf<|ao (.l (aa c0))<|xI fun bB=>let D:=c0.aU.Taken.set j13 (bB+1);let C:=(dT c0).set 13 (cR D);bf<|ao (.l (aa c0))<|ao (.v (I bB))<|ao (.i (bB+1))<|ao (.n j13)<|bf<|ao (.l (aa c0))<|ao (.v (I bB))<|bf<|ao (.l (aa c0))<|ao (.v (I bB))<|ao (.l (D.map I))<|bf<|ao (.l (aa c0))<|bf<|ao (.h (aq hp k0 C))<|bf<|ao (.l C)<|bt<|xN fun j18=>let E:=c0.aU.Vars.set j18 bD;bf<|ao (.l C)<|xI fun ci=>bf<|ao (.l C)<|ao (.v (I ci))<|ao (.l (E.map I))<|bf<|ao (.l C)<|bf<|ao (.h (aq hp k0 (((wV c0).set 12 (cR E)).set 13 (cR D))))<|.nil) fun L=>tO<|ai A<|ai B<|bE<|ai (rN dp)<|ai tt<|ez h fun j13 b5 h=>ai b5<|ai A<|ai B<|bm h fun bB b2 h=>let K:=aI I b2;let J:=c0.aU.Taken.set j13 (bB+1);let F:=(dT c0).set 13 (cR J);let H:=a7 hp k0 F;ai K<|ai A<|ai B<|ai K<|bc h fun ck h=>ai ck<|ai b5<|ai A<|ai B<|ai K<|ai ff<|ai A<|ai B<|ai K<|ai (map_set .. : (c0.aU.Taken.map I).set j13 (I (bB+1))=J.map I)<|ai A<|ai B<|ai A<|ai (bP hp k0 (aa c0) F)<|tO<|ai A<|ai H<|bE<|ai (rN dp)<|bE<|ez h fun j18 b6 h=>let M:=c0.aU.Vars.set j18 bD;ai b6<|ai A<|ai H<|bm h fun ci cp h=>ai (aI I cp)<|ai ff<|ai A<|ai H<|ai (aI I cp)<|ai (map_set .. : (c0.aU.Vars.map I).set j18 (I bD)=M.map I)<|ai A<|ai H<|ai A<|ai (bP hp k0 F (((wV c0).set 12 (cR M)).set 13 (cR J)))<|L h
def kK:Option (Runner⊕Runner):=
 if (a0.Kind==4)=true then
  (il (⟨c0.p,c0.ins,c0.fuel,c0.first,(⟨c0.aU.Events,bu,c0.aU.Taken,c0.aU.Steps,c0.aU.End,c0.aU.Stop⟩:RunT)⟩:Runner) 1 a1 a0.Other r2).bind fun bb=>
  some (.inl bb)
 else
  if (a0.Kind==5)=true then
   (il (⟨c0.p,c0.ins,c0.fuel,c0.first,(⟨c0.aU.Events,bu,c0.aU.Taken,c0.aU.Steps,c0.aU.End,c0.aU.Stop⟩:RunT)⟩:Runner) 2 a1 a0.Var r2).bind fun aj=>
   some (.inl aj)
  else
   if (a0.Kind==6)=true then
    (il (⟨c0.p,c0.ins,c0.fuel,c0.first,(⟨c0.aU.Events,bu,c0.aU.Taken,c0.aU.Steps,c0.aU.End,c0.aU.Stop⟩:RunT)⟩:Runner) 3 a1 a0.Var r2).bind fun ag=>
    some (.inl ag)
   else
    some (.inr (⟨c0.p,c0.ins,c0.fuel,c0.first,(⟨c0.aU.Events,bu,c0.aU.Taken,c0.aU.Steps,c0.aU.End,c0.aU.Stop⟩:RunT)⟩:Runner))
abbrev kL(hp:HP)(k0:Key)(a0:Stmt)(a1:Int)(r2:Int)(x:(Runner⊕Runner)):bh×St:=match x with | .inl z1=>(.nrm,⟨[],[],aq hp k0 (aa z1)⟩) | .inr z1=>(.nrm,⟨[(0,(.p k0 0)),(2,(I a1)),(4,(.p ⟨dp,4⟩ 0)),(8,(I r2)),(102,(.b (a0.Kind==6)))],[(4,(ar a0))],aq hp k0 (aa z1)⟩)
theorem uz(hp:HP)(k0:Key)(g:k0.dp<dp)(hz:aT dp hp)(c0:Runner)(a0:Stmt)(a1:Int)(r2:Int)(bu:(List Int))(x:(Runner⊕Runner))(h:kK c0 a0 a1 r2 bu=some x):run G Ω0 ⟨dp,false⟩ Q6 ⟨[(0,(.p k0 0)),(2,(I a1)),(4,(.p ⟨dp,4⟩ 0)),(8,(I r2))],[(4,(ar a0))],aq hp k0 ((bZ c0).set 12 (cR bu))⟩=some (kL dp hp k0 a0 a1 r2 x):=
 let D:=aB g;let C:=(4,(ar a0));let B:=boxes dp [C] (aq hp k0 ((bZ c0).set 12 (cR bu)));let A:=(⟨c0.p,c0.ins,c0.fuel,c0.first,(⟨c0.aU.Events,bu,c0.aU.Taken,c0.aU.Steps,c0.aU.End,c0.aU.Stop⟩:RunT)⟩:Runner);Cn (bt<|.or (ee<|.ex fun (bb:Runner)=>let E:=aq hp k0 (aa bb);ao (.v (.tp []))<|ao (.h (boxes dp [C] E))<|ao (.bx [C])<|ao (.h E)<|.nil) (bf<|.or (ee<|.ex fun (aj:Runner)=>let F:=aq hp k0 (aa aj);ao (.v (.tp []))<|ao (.h (boxes dp [C] F))<|ao (.bx [C])<|ao (.h F)<|.nil) (bf<|.or (ee<|.ex fun (ag:Runner)=>let H:=aq hp k0 (aa ag);ao (.v (.tp []))<|ao (.h (boxes dp [C] H))<|ao (.bx [C])<|ao (.h H)<|.nil) (bf<|.nil)))) fun L=>ai (rN dp)<|b9 h (fun h9 h=>ai h9<|ai (rN dp)<|ep<|bm h fun bb bN h=>have bN:=cO g (oc (dp+1) B k0 D (aQ (ak g hz)) A 1 a1 a0.Other r2 _ bN);eW bN (ak g hz)<|L h) (fun h9 h=>ai h9<|b9 h (fun aV h=>ai aV<|ai (rN dp)<|ep<|bm h fun aj bk h=>have bk:=cO g (oc (dp+1) B k0 D (aQ (ak g hz)) A 2 a1 a0.Var r2 _ bk);eW bk (ak g hz)<|L h) (fun aV h=>ai aV<|b9 h (fun bv h=>ai bv<|ai (rN dp)<|ep<|bm h fun ag bi h=>have bi:=cO g (oc (dp+1) B k0 D (aQ (ak g hz)) A 3 a1 a0.Var r2 _ bi);eW bi (ak g hz)<|L h) (fun bv h=>ai bv<|L h)))
abbrev H9(dp:Nat)(hp:HP)(k0:Key)(c0:Runner)(a0:Stmt)(a1:Int)(r:Runner):bA×HP:=(.ret (.tp []),aq hp k0 (aa r))
def qp:Option Runner:=
 if (a0.Kind==3)=true then
  (cV a0.Other).bind fun j2=>
  (c0.ins[j2]?).bind fun y4=>
  (c0.aU.Taken[j2]?).bind fun y6=>
  if y6<(y4.length:Int) then
   (cV y6).bind fun j9=>
   (y4[j9]?).bind fun bp=>
   (kJ c0 a0 bp).bind fun cg=>
   some (⟨c0.p,c0.ins,c0.fuel,c0.first,(⟨c0.aU.Events,cg.1,cg.2,c0.aU.Steps,c0.aU.End,c0.aU.Stop⟩:RunT)⟩:Runner)
  else
   (kJ c0 a0 0).bind fun x9=>
   some (⟨c0.p,c0.ins,c0.fuel,c0.first,(⟨c0.aU.Events,x9.1,x9.2,c0.aU.Steps,c0.aU.End,c0.aU.Stop⟩:RunT)⟩:Runner)
 else
  (n7 a0.Expr c0.aU.Vars).bind fun r2=>
  if (a0.Kind !=4)=true then
   (cV a0.Var).bind fun j5=>
   (c0.aU.Vars[j5]?).bind fun y7=>
   (kK c0 a0 a1 r2 (c0.aU.Vars.set j5 r2)).bind fun x9=>match x9 with
   | .inl bV=>
    some bV
   | .inr bR=>
    some bR
  else
   (kK c0 a0 a1 r2 c0.aU.Vars).bind fun x5=>match x5 with
   | .inl bz=>
    some bz
   | .inr am=>
    some am
theorem En(hp:HP)(k0:Key)(g:k0.dp<dp)(hz:aT dp hp)(c0:Runner)(a0:Stmt)(a1:Int)(r:Runner)(h:qp c0 a0 a1=some r):call G Ω0 ⟨dp,false⟩ 154 [(.p k0 0),(.a (ar a0)),(I a1)] (aq hp k0 (aa c0))=some (H9 dp hp k0 c0 a0 a1 r):=
 let B:=au g;let A:=a7 hp k0 (aa c0);a8 ag8 (bt<|.or (nz<|ao (.l (aa c0))<|bt<|xN fun j2=>.ex fun (y4:(List Int))=>ao (.v (bw y4))<|bf<|ao (.l (aa c0))<|bt<|ao (.n j2)<|bf<|ao (.l (aa c0))<|xI fun y6=>bf<|ao (.l (aa c0))<|ao (.v (I y6))<|ao (.i (y4.length:Int))<|.or (nz<|ao (.l (aa c0))<|bt<|ao (.n j2)<|bf<|ao (.l (aa c0))<|ao (.v (I y6))<|bf<|ao (.l (aa c0))<|ao (.v (I y6))<|xN fun j9=>xI fun bp=>.fb<|.ex fun (cg:((List Int)×(List Int)))=>ao (.oe (q6 hp k0 c0 cg))<|.nil) (bf<|.fb<|.ex fun (x9:((List Int)×(List Int)))=>ao (.oe (q6 hp k0 c0 x9))<|.nil)) (bf<|bt<|bf<|ao (.l (aa c0))<|bf<|ao (.l (aa c0))<|xI fun r2=>bt<|.or (nz<|ao (.l (aa c0))<|bt<|xN fun j5=>let C:=c0.aU.Vars.set j5 r2;bf<|ao (.l (aa c0))<|xI fun y7=>bf<|ao (.l (aa c0))<|ao (.v (I y7))<|ao (.l (C.map I))<|bf<|ao (.l (aa c0))<|bf<|ao (.h (aq hp k0 ((bZ c0).set 12 (cR C))))<|.fb<|.or (.ex fun (bV:Runner)=>ao (.oe (kL dp hp k0 a0 a1 r2 (.inl bV)))<|.nil) (.ex fun (bR:Runner)=>ao (.oe (kL dp hp k0 a0 a1 r2 (.inr bR)))<|.nil)) (bf<|.fb<|.or (.ex fun (bz:Runner)=>ao (.oe (kL dp hp k0 a0 a1 r2 (.inl bz)))<|.nil) (.ex fun (am:Runner)=>ao (.oe (kL dp hp k0 a0 a1 r2 (.inr am)))<|.nil)))) fun L=>ai ((by simp [ar,aM g,aR g]):(((.a (ar a0)):AV).deep dp&&(eA dp 4 [(0,(.p k0 0)),(1,(.a (ar a0))),(2,(I a1))] []))=true)<|ai (rN dp)<|b9 h (fun h1 h=>IT h1<|ai B<|ai A<|bE<|ai (rN dp)<|ai tt<|ez h fun j2 h3 h=>ai h3<|bm h fun y4 h5 h=>ai (aI (bO 3 I) h5)<|bE<|bE<|bE<|bE<|ai B<|ai A<|bE<|ai (rN dp)<|ai tt<|ai h3<|ai B<|ai A<|bm h fun y6 h7 h=>let D:=aI I h7;ai D<|ai tt<|ai B<|ai A<|ai D<|bE<|ai (bn I y4)<|ai tt<|da h (fun h8 h=>ai (aE h8)<|bE<|bE<|bE<|ai B<|ai A<|bE<|ai (rN dp)<|ai tt<|ai h3<|ai B<|ai A<|ai D<|ai tt<|ai B<|ai A<|ai D<|ai tt<|ez h fun j9 aV h=>ai aV<|bm h fun bp bY h=>ai (aI I bY)<|bI h (uy dp hp k0 g hz c0 a0 bp) fun cg h=>L h) (fun h8 h=>ai (aG h8)<|bI h (uy dp hp k0 g hz c0 a0 0) fun x9 h=>L h)) (fun h1 h=>IS h1<|ai (rN dp)<|tO<|ai B<|ai A<|ai tt<|ai B<|ai A<|bI h (rL a0.Expr c0.aU.Vars) fun r2 h=>bE<|ai (rN dp)<|b9 h (fun h4 h=>ai h4<|bE<|bE<|ai tt<|ai B<|ai A<|bE<|ai (rN dp)<|bE<|ez h fun j5 h6 h=>let E:=c0.aU.Vars.set j5 r2;ai h6<|ai B<|ai A<|bm h fun y7 h8 h=>ai (aI I h8)<|ai ff<|ai B<|ai A<|ai (aI I h8)<|ai (map_set .. : (c0.aU.Vars.map I).set j5 (I r2)=E.map I)<|ai B<|ai A<|ai B<|ai (bP hp k0 (aa c0) ((bZ c0).set 12 (cR E)))<|iy h (uz dp hp k0 g hz c0 a0 a1 r2 E) (fun bV h=>L h) (fun bR h=>L h)) (fun h4 h=>ai h4<|iy h (uz dp hp k0 g hz c0 a0 a1 r2 c0.aU.Vars) (fun bz h=>L h) (fun am h=>L h)))
end
section
variable (dp:Nat)(hp:HP)(k0:Key)(k1:Key)(k2:Key)(c0:ax)(c1:Runner)(c2:aH)(a0:(List Stmt))(a1:Int)
abbrev Dg(dp:Nat)(hp:HP)(k0:Key)(k1:Key)(k2:Key)(c0:ax)(c1:Runner)(c2:aH)(a0:(List Stmt))(a1:Int)(r:(Bool×ax×Runner)):bA×HP:=(.ret (.b r.1),aP hp k0 k1 k2 r.2.1 r.2.2 c2)
abbrev p9(r:(Bool×ax×Runner)):Prop:=call G Ω0 ⟨dp,false⟩ 68 [(.p k0 0),(.l 111 (a0.map bK)),(I a1)] (aP hp k0 k1 k2 c0 c1 c2)=some (Dg dp hp k0 k1 k2 c0 c1 c2 a0 a1 r)
end
section
variable (dp:Nat)(hp:HP)(k0:Key)(k1:Key)(k2:Key)(c0:ax)(c1:Runner)(c2:aH)(a0:Stmt)(a1:Int)
abbrev CK(dp:Nat)(hp:HP)(k0:Key)(k1:Key)(k2:Key)(c0:ax)(c1:Runner)(c2:aH)(a0:Stmt)(a1:Int)(r:(Bool×ax×Runner)):bA×HP:=(.ret (.b r.1),aP hp k0 k1 k2 r.2.1 r.2.2 c2)
abbrev ug(r:(Bool×ax×Runner)):Prop:=call G Ω0 ⟨dp,false⟩ 150 [(.p k0 0),(.a (ar a0)),(I a1)] (aP hp k0 k1 k2 c0 c1 c2)=some (CK dp hp k0 k1 k2 c0 c1 c2 a0 a1 r)
abbrev BK(dp:Nat)(hp:HP)(k0:Key)(k1:Key)(k2:Key)(c0:ax)(c1:Runner)(c2:aH)(a0:Stmt)(a1:Int)(r:(Bool×ax×Runner)):bA×HP:=(.ret (.b r.1),aP hp k0 k1 k2 r.2.1 r.2.2 c2)
abbrev tz(r:(Bool×ax×Runner)):Prop:=call G Ω0 ⟨dp,false⟩ 151 [(.p k0 0),(.a (ar a0)),(I a1)] (aP hp k0 k1 k2 c0 c1 c2)=some (BK dp hp k0 k1 k2 c0 c1 c2 a0 a1 r)
abbrev Dh(dp:Nat)(hp:HP)(k0:Key)(k1:Key)(k2:Key)(c0:ax)(c1:Runner)(c2:aH)(a0:Stmt)(a1:Int)(r:(Bool×ax×Runner)):bA×HP:=(.ret (.b r.1),aP hp k0 k1 k2 r.2.1 r.2.2 c2)
abbrev uA(r:(Bool×ax×Runner)):Prop:=call G Ω0 ⟨dp,false⟩ 114 [(.p k0 0),(.a (ar a0)),(I a1)] (aP hp k0 k1 k2 c0 c1 c2)=some (Dh dp hp k0 k1 k2 c0 c1 c2 a0 a1 r)
end
structure cw where
 f_watch_watcher_all:ax→Runner→aH→(List Stmt)→Int→Option (Bool×ax×Runner)
 f_watch_watcher_call:ax→Runner→aH→Stmt→Int→Option (Bool×ax×Runner)
 f_watch_watcher_inner:ax→Runner→aH→Stmt→Int→Option (Bool×ax×Runner)
 f_watch_watcher_one:ax→Runner→aH→Stmt→Int→Option (Bool×ax×Runner)
structure bq(R:cw):Prop where
 f_watch_watcher_all:∀ (dp:Nat)(hp:HP)(k0:Key)(g:k0.dp<dp)(k1:Key)(q:k1.dp<dp)(k2:Key)(t:k2.dp<dp)(k:k0≠k1)(j:k0≠k2)(m:k1≠k2)(hz:aT dp hp)(c0:ax)(c1:Runner)(c2:aH)(a0:(List Stmt))(a1:Int)(r:(Bool×ax×Runner)),R.f_watch_watcher_all c0 c1 c2 a0 a1=some r→p9 dp hp k0 k1 k2 c0 c1 c2 a0 a1 r
 f_watch_watcher_call:∀ (dp:Nat)(hp:HP)(k0:Key)(g:k0.dp<dp)(k1:Key)(q:k1.dp<dp)(k2:Key)(t:k2.dp<dp)(k:k0≠k1)(j:k0≠k2)(m:k1≠k2)(hz:aT dp hp)(c0:ax)(c1:Runner)(c2:aH)(a0:Stmt)(a1:Int)(r:(Bool×ax×Runner)),R.f_watch_watcher_call c0 c1 c2 a0 a1=some r→ug dp hp k0 k1 k2 c0 c1 c2 a0 a1 r
 f_watch_watcher_inner:∀ (dp:Nat)(hp:HP)(k0:Key)(g:k0.dp<dp)(k1:Key)(q:k1.dp<dp)(k2:Key)(t:k2.dp<dp)(k:k0≠k1)(j:k0≠k2)(m:k1≠k2)(hz:aT dp hp)(c0:ax)(c1:Runner)(c2:aH)(a0:Stmt)(a1:Int)(r:(Bool×ax×Runner)),R.f_watch_watcher_inner c0 c1 c2 a0 a1=some r→tz dp hp k0 k1 k2 c0 c1 c2 a0 a1 r
 f_watch_watcher_one:∀ (dp:Nat)(hp:HP)(k0:Key)(g:k0.dp<dp)(k1:Key)(q:k1.dp<dp)(k2:Key)(t:k2.dp<dp)(k:k0≠k1)(j:k0≠k2)(m:k1≠k2)(hz:aT dp hp)(c0:ax)(c1:Runner)(c2:aH)(a0:Stmt)(a1:Int)(r:(Bool×ax×Runner)),R.f_watch_watcher_one c0 c1 c2 a0 a1=some r→uA dp hp k0 k1 k2 c0 c1 c2 a0 a1 r
section
variable (R:cw)(c2:aH)(a0:(List Stmt))(hp:HP)(k0:Key)(k1:Key)(k2:Key)(c0:ax)(c1:Runner)
def lh(v0_k0:ax)(v0_k1:Runner)(bg:Int)(w:Nat):Option ((ax×Runner×Int×Nat)⊕((ax×Runner)⊕(Int×Nat×Bool×ax×Runner))):=
 if (w:Int)<(a0.length:Int) then
  (a0[w]?).bind fun y2=>
  (R.f_watch_watcher_one v0_k0 v0_k1 c2 y2 bg).bind fun r4=>
  if r4.1=true then
   (px y2.Then).bind fun r7=>
   if IntKind.i64.wrap (1+r7)=1+r7 then
    (px y2.Else).bind fun bb=>
    if IntKind.i64.wrap ((1+r7)+bb)=(1+r7)+bb then
     if IntKind.i64.wrap (bg+((1+r7)+bb))=bg+((1+r7)+bb) then
      if IntKind.i64.wrap ((w:Int)+1)=((w+1:Nat):Int) then
       some (.inl (r4.2.1,r4.2.2,bg+((1+r7)+bb),w+1))
      else none
     else none
    else none
   else none
  else
   some (.inr (.inl (r4.2.1,r4.2.2)))
 else
  some (.inr (.inr (bg,w,decide ((w:Int)<(a0.length:Int)),v0_k0,v0_k1)))
abbrev BL(c2:aH)(a0:(List Stmt))(v:(ax×Runner×Int×Nat)):St:=⟨[(0,(.p k0 0)),(2,(I v.2.2.1)),(9,(bj a0)),(10,(zI a0.length)),(11,(I (v.2.2.2:Int)))],[],aP hp k0 k1 k2 v.1 v.2.1 c2⟩
abbrev oO(c2:aH)(a0:(List Stmt))(x:((ax×Runner)⊕(Int×Nat×Bool×ax×Runner))):bh×St:=match x with | .inl (z1,z2)=>(.ret,⟨[(6,(.b false))],[],aP hp k0 k1 k2 z1 z2 c2⟩) | .inr (z1,z2,z3,z4,z5)=>((.ex 0),⟨[(0,(.p k0 0)),(2,(I z1)),(9,(bj a0)),(10,(zI a0.length)),(11,(I (z2:Int))),(12,(.b z3))],[],aP hp k0 k1 k2 z4 z5 c2⟩)
theorem AS(hR:bq R)(dp:Nat)(hp:HP)(k0:Key)(g:k0.dp<dp)(k1:Key)(q:k1.dp<dp)(k2:Key)(t:k2.dp<dp)(k:k0≠k1)(j:k0≠k2)(m:k1≠k2)(hz:aT dp hp)(c2:aH)(a0:(List Stmt))(v0_k0:ax)(v0_k1:Runner)(bg:Int)(w:Nat)(o:(ax×Runner×Int×Nat)⊕((ax×Runner)⊕(Int×Nat×Bool×ax×Runner)))(h:lh R c2 a0 v0_k0 v0_k1 bg w=some o):cG ⟨dp,false⟩ U4 (BL hp k0 k1 k2 c2 a0) (oO hp k0 k1 k2 c2 a0) (v0_k0,v0_k1,bg,w) o:=
 cT (.or (bt<|ao (.n w)<|.ex fun (y2:Stmt)=>ao (.v (.a (ar y2)))<|fh<|.ex fun (r4:(Bool×ax×Runner))=>let A:=aP hp k0 k1 k2 r4.2.1 r4.2.2 c2;ao (.v (.b r4.1))<|ao (.h (boxes dp [(8,(ar y2))] A))<|ao (.bx [(8,(ar y2))])<|ao (.h A)<|.or (D3<|xI fun r7=>ao (.i (1+r7))<|bt<|xI fun bb=>ao (.i ((1+r7)+bb))<|ao (.i (bg+((1+r7)+bb)))<|ao (.i ((w+1:Nat):Int))<|.nil) (bt<|.nil)) (bf<|.nil)) fun L=>da h (fun h1 h=>ai (aE h1)<|ai (rI w)<|bm h fun y2 h3 h=>ai (nZ bK h3 (mA _))<|ai ((by simp [ar,aM g,aR g,aM q,aR q,aM t,aR t]):(eA dp 8 [(14,(.a (ar y2))),(13,(.e (.a (ar y2)) 0)),(0,(.p k0 0)),(2,(I bg)),(9,(.l 111 (a0.map bK))),(10,(I (a0.length:Int))),(11,(I (w:Int)))] [])=true)<|ai ff<|ai (rN dp)<|ai tt<|ai (rN dp)<|ai (rN dp)<|ep<|bm h fun r4 aw h=>have aw:=lE g q t k j m (hR.f_watch_watcher_one (dp+1) (boxes dp [(8,(ar y2))] (aP hp k0 k1 k2 v0_k0 v0_k1 c2)) k0 (aB g) k1 (aB q) k2 (aB t) k j m (aQ (ak t (ak q (ak g hz)))) v0_k0 v0_k1 c2 y2 bg _ aw);eW aw (ak t (ak q (ak g hz)))<|b9 h (fun h6 h=>IU (av not h6)<|ai (rN dp)<|ai tt<|bI h (sE y2.Then) fun r7 h=>ai tt<|bc h fun w9 h=>ai w9<|bE<|ai (rN dp)<|ai tt<|bI h (sE y2.Else) fun bb h=>ai tt<|bc h fun cx h=>ai cx<|ai tt<|bc h fun cv h=>ai cv<|bc h fun ch h=>ai ch<|L h) (fun h6 h=>ai (av not h6)<|L h)) (fun h1 h=>ai (aG h1)<|L h)
def l7(c2:aH)(a0:(List Stmt))(a1:Int):Option (Bool×ax×Runner):=
 (lp (fun v=>lh R c2 a0 v.1 v.2.1 v.2.2.1 v.2.2.2) (c0,c1,a1,0)).bind fun x1=>match x1 with
 | .inl bo=>
  some (false,bo.1,bo.2)
 | .inr bl=>
  some (true,bl.2.2.2.1,bl.2.2.2.2)
theorem zu(hR:bq R)(dp:Nat)(hp:HP)(k0:Key)(g:k0.dp<dp)(k1:Key)(q:k1.dp<dp)(k2:Key)(t:k2.dp<dp)(k:k0≠k1)(j:k0≠k2)(m:k1≠k2)(hz:aT dp hp)(c0:ax)(c1:Runner)(c2:aH)(a0:(List Stmt))(a1:Int)(r:(Bool×ax×Runner))(h:l7 R c0 c1 c2 a0 a1=some r):p9 dp hp k0 k1 k2 c0 c1 c2 a0 a1 r:=
 a8 G68 (ao (.i (a0.length:Int))<|.or (.ex fun (bo:(ax×Runner))=>ao (.dJ (oO hp k0 k1 k2 c2 a0 (.inl bo)))<|.nil) (.ex fun (bl:(Int×Nat×Bool×ax×Runner))=>ao (.dJ (oO hp k0 k1 k2 c2 a0 (.inr bl)))<|.nil)) fun L=>ai (bn bK a0)<|iy h (im (fun v=>AS R hR dp hp k0 g k1 q k2 t k j m hz c2 a0 v.1 v.2.1 v.2.2.1 v.2.2.2) (c0,c1,a1,0)) (fun bo h=>L h) (fun bl h=>L h)
end
section
variable (R:cw)(c0:ax)(c1:Runner)(c2:aH)(a0:Stmt)(a1:Int)(dp:Nat)(hp:HP)(k0:Key)(k1:Key)(k2:Key)
def lj:Option (Bool×ax×Runner):=
 (lf c0 c1 c2 a0).bind fun r1=>
 if r1.1=true then
  (nL c1 a0).bind fun r4=>
  (cV a0.Other).bind fun j6=>
  (r1.2.p.Funcs[j6]?).bind fun y8=>
  (fZ r4 a0.Other).bind fun bb=>
  (R.f_watch_watcher_all r1.2 r4 c2 y8.Body bb).bind fun ag=>
  if ag.1=true then
   (et ag.2.1 ag.2.2 c2 y8.Result).bind fun bX=>
   (fu ag.2.1 ag.2.2 c2 a0.Var bX).bind fun be=>
   if be.1=true then
    (nM ag.2.2 a0).bind fun a4=>
    some (true,be.2,a4)
   else
    (gK be.2 ag.2.2 c2 a1).bind fun a4=>
    some (a4.1,be.2,a4.2)
  else
   some (false,ag.2.1,ag.2.2)
 else
  (gK r1.2 c1 c2 a1).bind fun r4=>
  some (r4.1,r1.2,r4.2)
theorem y1(hR:bq R)(dp:Nat)(hp:HP)(k0:Key)(g:k0.dp<dp)(k1:Key)(q:k1.dp<dp)(k2:Key)(t:k2.dp<dp)(k:k0≠k1)(j:k0≠k2)(m:k1≠k2)(hz:aT dp hp)(c0:ax)(c1:Runner)(c2:aH)(a0:Stmt)(a1:Int)(r:(Bool×ax×Runner))(h:lj R c0 c1 c2 a0 a1=some r):ug dp hp k0 k1 k2 c0 c1 c2 a0 a1 r:=
 let J:=jG g [7] [] 0;let H:=au g;let F:=au q;let E:=aB t;let D:=aB g;let C:=cC m;let B:=aB q;let A:=(4,(ar a0));a8 ag4 (bt<|.ex fun (r1:(Bool×ax))=>let M:=aP hp k0 k1 k2 r1.2 c1 c2;let K:=cE k1 k2 r1.2;ao (.v (.b r1.1))<|ao (.h (boxes dp [A] M))<|ao (.bx [A])<|ao (.h M)<|.or (bf<|bf<|ao (.l K)<|bt<|.ex fun (r4:Runner)=>let N:=aP hp k0 k1 k2 r1.2 r4 c2;ao (.v (.tp []))<|ao (.h (boxes dp [A] N))<|ao (.bx [A])<|ao (.h N)<|bf<|ao (.l K)<|bt<|xN fun j6=>.ex fun (y8:Func)=>let O:=[A,(7,(dB y8))];ao (.v (.a (dB y8)))<|bt<|bt<|bt<|bf<|ao (.l K)<|bt<|xI fun bb=>ao (.h (boxes dp [] N))<|.ex fun (ag:(Bool×ax×Runner))=>let P:=aP hp k0 k1 k2 ag.2.1 ag.2.2 c2;ao (.v (.b ag.1))<|ao (.h (boxes dp O P))<|ao (.bx O)<|ao (.h P)<|.or (bf<|bt<|bt<|.ex fun (bX:Level)=>ao (.v (.a [(aC bX.Readers),(aC bX.Writers)]))<|ao (.h (boxes dp [] P))<|.ex fun (be:(Bool×ax))=>let Q:=aP hp k0 k1 k2 be.2 ag.2.2 c2;ao (.v (.b be.1))<|ao (.h (boxes dp O Q))<|ao (.bx O)<|ao (.h Q)<|.or (bf<|bf<|ao (.l (cE k1 k2 be.2))<|bt<|.ex fun (a4:Runner)=>let S:=aP hp k0 k1 k2 be.2 a4 c2;ao (.v (.tp []))<|ao (.h (boxes dp [A] S))<|ao (.bx [A])<|ao (.h S)<|.nil) (bt<|.ex fun (a4:(Bool×Runner))=>let T:=aP hp k0 k1 k2 be.2 a4.2 c2;ao (.v (.b a4.1))<|ao (.h (boxes dp [A] T))<|ao (.bx [A])<|ao (.h T)<|.nil)) (bt<|.nil)) (bt<|.ex fun (r4:(Bool×Runner))=>let U:=aP hp k0 k1 k2 r1.2 r4.2 c2;ao (.v (.b r4.1))<|ao (.h (boxes dp [A] U))<|ao (.bx [A])<|ao (.h U)<|.nil)) fun L=>ai ((by simp [ar,aM g,aR g,aM q,aR q,aM t,aR t]):(((.a (ar a0)):AV).deep dp&&(eA dp 4 [(0,(.p k0 0)),(1,(.a (ar a0))),(2,(I a1))] []))=true)<|ai (rN dp)<|ep<|bm h fun r1 aL h=>let W:=cE k1 k2 r1.2;let V:=boxes dp [A] (aP hp k0 k1 k2 r1.2 c1 c2);have aL:=lE g q t k j m (yZ (dp+1) (boxes dp [A] (aP hp k0 k1 k2 c0 c1 c2)) k0 D k1 B k2 E k j m (aQ (ak t (ak q (ak g hz)))) c0 c1 c2 a0 _ aL);eW aL (ak t (ak q (ak g hz)))<|b9 h (fun h3 h=>IT (av not h3)<|ai H<|ai (dD k j:(aP hp k0 k1 k2 r1.2 c1 c2) k0=some W)<|ai tt<|ai (rN dp)<|ai tt<|ep<|bm h fun r4 aw h=>let X:=aP hp k0 k1 k2 r1.2 r4 c2;let Y:=(dD k j:X k0=some W);have aw:call G Ω0 ⟨dp+1,false⟩ 191 [(.p k1 0),(.a (ar a0))] V=some (.ret (.tp []),boxes dp [A] X):=dX (cD (hp1:=aP hp k0 k1 k2 r1.2 c1 c2) F (cJ C (bP ..))) (cD (hp1:=aP hp k0 k1 k2 r1.2 r4 c2) F (cJ C (bP ..))) (BH (dp+1) V k1 B (aQ (ak t (ak q (ak g hz)))) c1 a0 _ aw);eW aw (ak t (ak q (ak g hz)))<|ai ((by simp [ar,aM g,aM q,aM t]):(([7]:List Nat).all (jg dp (⟨[(0,(.p k0 0)),(2,(I a1)),(4,(.p ⟨dp,4⟩ 0))],[(4,(ar a0))],H0⟩:St))&&true)=true)<|ai J<|ai J<|ai (jG g [7] [] 1)<|ai (jG g [7] [] 7)<|ai H<|ai Y<|ai tt<|ai (tN dp [7] [] 4 2)<|ai (rN dp)<|ai tt<|ez h fun j6 h7 h=>ai h7<|bm h fun y8 h9 h=>ai (aI cQ h9)<|bE<|bE<|ai ff<|ai (rN dp)<|ai tt<|ai (rN dp)<|n4<|ai (rN dp)<|oo<|ai H<|ai Y<|bE<|ai (rN dp)<|bE<|bm h fun bb bN h=>have bN:call G Ω0 ⟨dp+1,true⟩ 69 [(.p k1 0),(I a0.Other)] (boxes dp [] X)=some (.ret (I bb),boxes dp [] X):=dX (cD (hp1:=aP hp k0 k1 k2 r1.2 r4 c2) F (cJ C (bP ..))) (cD (hp1:=aP hp k0 k1 k2 r1.2 r4 c2) F (cJ C (bP ..))) (tw (dp+1) (boxes dp [] X) k1 B (aQ (ak t (ak q (ak g hz)))) r4 a0.Other _ bN);ai bN<|ai tt<|ep<|bm h fun ag bi h=>let Z:=aP hp k0 k1 k2 ag.2.1 ag.2.2 c2;have bi:=lE g q t k j m (hR.f_watch_watcher_all (dp+1) (boxes dp [A,(7,(dB y8))] X) k0 D k1 B k2 E k j m (aQ (ak t (ak q (ak g hz)))) r1.2 r4 c2 y8.Body bb _ bi);eW bi (ak t (ak q (ak g hz)))<|b9 h (fun b5 h=>IU (av not b5)<|ai (rN dp)<|n4<|ai (rN dp)<|bE<|bm h fun bX bL h=>have bL:=lE g q t k j m (fI (dp+1) (boxes dp [] Z) k0 D k1 B k2 E k j m (aQ (ak t (ak q (ak g hz)))) ag.2.1 ag.2.2 c2 y8.Result _ bL);ai bL<|ai tt<|ep<|bm h fun be bJ h=>let c:=aP hp k0 k1 k2 be.2 ag.2.2 c2;let d:=boxes dp [A] c;have bJ:=lE g q t k j m (kz (dp+1) (boxes dp [A,(7,(dB y8))] Z) k0 D k1 B k2 E k j m (aQ (ak t (ak q (ak g hz)))) ag.2.1 ag.2.2 c2 a0.Var bX _ bJ);eW bJ (ak t (ak q (ak g hz)))<|b9 h (fun b6 h=>IT (av not b6)<|ai H<|ai (dD k j:c k0=some (cE k1 k2 be.2))<|ai tt<|ai (rN dp)<|ai tt<|ep<|bm h fun a4 bH h=>have bH:call G Ω0 ⟨dp+1,false⟩ 194 [(.p k1 0),(.a (ar a0))] d=some (.ret (.tp []),boxes dp [A] (aP hp k0 k1 k2 be.2 a4 c2)):=dX (cD (hp1:=aP hp k0 k1 k2 be.2 ag.2.2 c2) F (cJ C (bP ..))) (cD (hp1:=aP hp k0 k1 k2 be.2 a4 c2) F (cJ C (bP ..))) (BI (dp+1) d k1 B (aQ (ak t (ak q (ak g hz)))) ag.2.2 a0 _ bH);eW bH (ak t (ak q (ak g hz)))<|L h) (fun b6 h=>ai (av not b6)<|ep<|bm h fun a4 bH h=>have bH:=lE g q t k j m (lC (dp+1) d k0 D k1 B k2 E k j m (aQ (ak t (ak q (ak g hz)))) be.2 ag.2.2 c2 a1 _ bH);eW bH (ak t (ak q (ak g hz)))<|L h)) (fun b5 h=>ai (av not b5)<|L h)) (fun h3 h=>ai (av not h3)<|ep<|bm h fun r4 aw h=>have aw:=lE g q t k j m (lC (dp+1) V k0 D k1 B k2 E k j m (aQ (ak t (ak q (ak g hz)))) r1.2 c1 c2 a1 _ aw);eW aw (ak t (ak q (ak g hz)))<|L h)
def jT(v0_k0:ax)(v0_k1:Runner):Option ((ax×Runner)⊕((ax×Runner)⊕(Bool×ax×Runner))):=
 (lK v0_k1 a0.Expr).bind fun r4=>
 if r4=true then
  if IntKind.i64.wrap (a1+1)=a1+1 then
   (R.f_watch_watcher_all v0_k0 v0_k1 c2 a0.Then (a1+1)).bind fun r8=>
   if r8.1=true then
    (lJ r8.2.2).bind fun aj=>
    if aj.1=true then
     (ju r8.2.1 aj.2 c2 a0.Expr).bind fun ab=>
     some (.inl (ab,aj.2))
    else
     some (.inr (.inl (r8.2.1,aj.2)))
   else
    some (.inr (.inl (r8.2.1,r8.2.2)))
  else none
 else
  some (.inr (.inr (r4,v0_k0,v0_k1)))
abbrev zw(c2:aH)(a0:Stmt)(a1:Int)(v:(ax×Runner)):St:=⟨[(0,(.p k0 0)),(2,(I a1)),(4,(.p ⟨dp,4⟩ 0))],[(4,(ar a0))],aP hp k0 k1 k2 v.1 v.2 c2⟩
abbrev mX(c2:aH)(a0:Stmt)(a1:Int)(x:((ax×Runner)⊕(Bool×ax×Runner))):bh×St:=match x with | .inl (z1,z2)=>(.ret,⟨[(6,(.b false))],[],aP hp k0 k1 k2 z1 z2 c2⟩) | .inr (z1,z2,z3)=>((.ex 0),⟨[(0,(.p k0 0)),(2,(I a1)),(4,(.p ⟨dp,4⟩ 0)),(36,(.b z1))],[(4,(ar a0))],aP hp k0 k1 k2 z2 z3 c2⟩)
theorem za(hR:bq R)(dp:Nat)(hp:HP)(k0:Key)(g:k0.dp<dp)(k1:Key)(q:k1.dp<dp)(k2:Key)(t:k2.dp<dp)(k:k0≠k1)(j:k0≠k2)(m:k1≠k2)(hz:aT dp hp)(c2:aH)(a0:Stmt)(a1:Int)(v0_k0:ax)(v0_k1:Runner)(o:(ax×Runner)⊕((ax×Runner)⊕(Bool×ax×Runner)))(h:jT R c2 a0 a1 v0_k0 v0_k1=some o):cG ⟨dp,false⟩ Q4 (zw dp hp k0 k1 k2 c2 a0 a1) (mX dp hp k0 k1 k2 c2 a0 a1) (v0_k0,v0_k1) o:=
 let F:=aB q;let E:=au q;let D:=aP hp k0 k1 k2 v0_k0 v0_k1 c2;let C:=cC m;let B:=(4,(ar a0));let A:=boxes dp [B] D;cT (bf<|ao (.l (cE k1 k2 v0_k0))<|bt<|xB fun r4=>ao (.h A)<|.or (ee<|ao (.i (a1+1))<|.ex fun (r8:(Bool×ax×Runner))=>let H:=aP hp k0 k1 k2 r8.2.1 r8.2.2 c2;ao (.v (.b r8.1))<|ao (.h (boxes dp [B] H))<|ao (.bx [B])<|ao (.h H)<|.or (OV<|ao (.l (cE k1 k2 r8.2.1))<|bt<|.ex fun (aj:(Bool×Runner))=>let J:=aP hp k0 k1 k2 r8.2.1 aj.2 c2;ao (.v (.b aj.1))<|ao (.h (boxes dp [B] J))<|ao (.bx [B])<|ao (.h J)<|nz<|.or (D3<|.ex fun (ab:ax)=>let K:=aP hp k0 k1 k2 ab aj.2 c2;ao (.v (.tp []))<|ao (.h (boxes dp [B] K))<|ao (.bx [B])<|ao (.h K)<|.nil) (bt<|.nil)) (bf<|bf<|bf<|bf<|bf<|bf<|bt<|bt<|.nil)) (bf<|.nil)) fun L=>oo<|ai (au g)<|ai (dD k j:D k0=some (cE k1 k2 v0_k0))<|bE<|ai (rN dp)<|bE<|bm h fun r4 aw h=>have aw:call G Ω0 ⟨dp+1,true⟩ 197 [(.p k1 0),(.a (cL a0.Expr))] A=some (.ret (.b r4),boxes dp [B] D):=dX (cD (hp1:=aP hp k0 k1 k2 v0_k0 v0_k1 c2) E (cJ C (bP ..))) (cD (hp1:=aP hp k0 k1 k2 v0_k0 v0_k1 c2) E (cJ C (bP ..))) (uf (dp+1) A k1 F (aQ (ak t (ak q (ak g hz)))) v0_k1 a0.Expr _ aw);ai aw<|b9 h (fun h6 h=>ai h6<|ai (rN dp)<|bc h fun w7 h=>ai w7<|ep<|bm h fun r8 bF h=>let M:=aP hp k0 k1 k2 r8.2.1 r8.2.2 c2;have bF:=lE g q t k j m (hR.f_watch_watcher_all (dp+1) A k0 (aB g) k1 F k2 (aB t) k j m (aQ (ak t (ak q (ak g hz)))) v0_k0 v0_k1 c2 a0.Then (a1+1) _ bF);eW bF (ak t (ak q (ak g hz)))<|b9 h (fun aV h=>let N:=av not aV;cm N<|cm N<|ai (au g)<|ai (dD k j:M k0=some (cE k1 k2 r8.2.1))<|ai (g0 N)<|ep<|bm h fun aj bk h=>let O:=aP hp k0 k1 k2 r8.2.1 aj.2 c2;have bk:call G Ω0 ⟨dp+1,false⟩ 149 [(.p k1 0)] (boxes dp [B] M)=some (.ret (.b aj.1),boxes dp [B] O):=dX (cD (hp1:=aP hp k0 k1 k2 r8.2.1 r8.2.2 c2) E (cJ C (bP ..))) (cD (hp1:=aP hp k0 k1 k2 r8.2.1 aj.2 c2) E (cJ C (bP ..))) (uc (dp+1) (boxes dp [B] M) k1 F (aQ (ak t (ak q (ak g hz)))) r8.2.2 _ bk);eW bk (ak t (ak q (ak g hz)))<|wG N<|b9 h (fun bd h=>ai (av not bd)<|ai (rN dp)<|ep<|bm h fun ab aW h=>have aW:=lE g q t k j m (rU (dp+1) (boxes dp [B] O) k0 (aB g) k1 F k2 (aB t) k j m (aQ (ak t (ak q (ak g hz)))) r8.2.1 aj.2 c2 a0.Expr _ aW);eW aW (ak t (ak q (ak g hz)))<|L h) (fun bd h=>ai (av not bd)<|L h)) (fun aV h=>let P:=av not aV;cm P<|cm P<|cm P<|rY P<|L h)) (fun h6 h=>ai h6<|L h)
def kB:Option (Bool×ax×Runner):=
 (ju c0 c1 c2 a0.Expr).bind fun r1=>
 if (a0.Kind==7)=true then
  (sb c1 a0 a1).bind fun r4=>
  (R.f_watch_watcher_all r1 c1 c2 r4.1 r4.2).bind fun r6=>
  some (r6.1,r6.2.1,r6.2.2)
 else
  (lp (fun v=>jT R c2 a0 a1 v.1 v.2) (r1,c1)).bind fun x4=>match x4 with
  | .inl b4=>
   some (false,b4.1,b4.2)
  | .inr b3=>
   some (true,b3.2.1,b3.2.2)
theorem xV(hR:bq R)(dp:Nat)(hp:HP)(k0:Key)(g:k0.dp<dp)(k1:Key)(q:k1.dp<dp)(k2:Key)(t:k2.dp<dp)(k:k0≠k1)(j:k0≠k2)(m:k1≠k2)(hz:aT dp hp)(c0:ax)(c1:Runner)(c2:aH)(a0:Stmt)(a1:Int)(r:(Bool×ax×Runner))(h:kB R c0 c1 c2 a0 a1=some r):tz dp hp k0 k1 k2 c0 c1 c2 a0 a1 r:=
 let B:=aB q;let A:=(4,(ar a0));a8 ag5 (bt<|.ex fun (r1:ax)=>let C:=aP hp k0 k1 k2 r1 c1 c2;ao (.v (.tp []))<|ao (.h (boxes dp [A] C))<|ao (.bx [A])<|ao (.h C)<|bt<|.or (nz<|ao (.l (cE k1 k2 r1))<|bt<|.ex fun (r4:((List Stmt)×Int))=>ao (.v (.tp [(bj r4.1),(I r4.2)]))<|ao (.h (boxes dp [] C))<|.ex fun (r6:(Bool×ax×Runner))=>let D:=aP hp k0 k1 k2 r6.2.1 r6.2.2 c2;ao (.v (.b r6.1))<|ao (.h (boxes dp [] D))<|ao (.bx [])<|ao (.h D)<|.nil) (bf<|.or (.ex fun (b4:(ax×Runner))=>ao (.dJ (mX dp hp k0 k1 k2 c2 a0 a1 (.inl b4)))<|.nil) (.ex fun (b3:(Bool×ax×Runner))=>ao (.dJ (mX dp hp k0 k1 k2 c2 a0 a1 (.inr b3)))<|.nil))) fun L=>ai ((by simp [ar,aM g,aR g,aM q,aR q,aM t,aR t]):(((.a (ar a0)):AV).deep dp&&(eA dp 4 [(0,(.p k0 0)),(1,(.a (ar a0))),(2,(I a1))] []))=true)<|ai (rN dp)<|ep<|bm h fun r1 aL h=>let E:=aP hp k0 k1 k2 r1 c1 c2;let F:=boxes dp [] E;have aL:=lE g q t k j m (rU (dp+1) (boxes dp [A] (aP hp k0 k1 k2 c0 c1 c2)) k0 (aB g) k1 B k2 (aB t) k j m (aQ (ak t (ak q (ak g hz)))) c0 c1 c2 a0.Expr _ aL);eW aL (ak t (ak q (ak g hz)))<|ai (rN dp)<|b9 h (fun h3 h=>IT h3<|ai (au g)<|ai (dD k j:E k0=some (cE k1 k2 r1))<|ai tt<|ai (rN dp)<|n4<|bm h fun r4 aw h=>have aw:call G Ω0 ⟨dp+1,true⟩ 196 [(.p k1 0),(.a (ar a0)),(I a1)] F=some (.ret (.tp [(bj r4.1),(I r4.2)]),boxes dp [] E):=dX (cD (hp1:=aP hp k0 k1 k2 r1 c1 c2) (au q) (cJ (cC m) (bP ..))) (cD (hp1:=aP hp k0 k1 k2 r1 c1 c2) (au q) (cJ (cC m) (bP ..))) (CJ (dp+1) F k1 B (aQ (ak t (ak q (ak g hz)))) c1 a0 a1 _ aw);ai aw<|bE<|bE<|ai tt<|ep<|bm h fun r6 bG h=>have bG:=lE g q t k j m (hR.f_watch_watcher_all (dp+1) F k0 (aB g) k1 B k2 (aB t) k j m (aQ (ak t (ak q (ak g hz)))) r1 c1 c2 r4.1 r4.2 _ bG);eW bG (ak t (ak q (ak g hz)))<|L h) (fun h3 h=>ai h3<|iy h (im (fun v=>za R hR dp hp k0 g k1 q k2 t k j m hz c2 a0 a1 v.1 v.2) (r1,c1)) (fun b4 h=>L h) (fun b3 h=>L h))
def l8:Option (Bool×ax×Runner):=
 (lJ c1).bind fun r1=>
 if r1.1=true then
  if (a0.Kind==2)=true then
   (R.f_watch_watcher_call c0 r1.2 c2 a0 a1).bind fun r5=>
   some (r5.1,r5.2.1,r5.2.2)
  else
   if 7≤a0.Kind then
    (R.f_watch_watcher_inner c0 r1.2 c2 a0 a1).bind fun r6=>
    if c0.places.length≤r6.2.1.places.length then
     some (r6.1,(⟨(),r6.2.1.p,r6.2.1.vars,r6.2.1.places.take c0.places.length,()⟩:ax),r6.2.2)
    else none
   else
    (lg c0 r1.2 c2 a0).bind fun r6=>
    if r6.1=true then
     (qp r1.2 a0 a1).bind fun r9=>
     some (true,r6.2,r9)
    else
     (gK r6.2 r1.2 c2 a1).bind fun r9=>
     some (r9.1,r6.2,r9.2)
 else
  some (false,c0,r1.2)
theorem zx(hR:bq R)(dp:Nat)(hp:HP)(k0:Key)(g:k0.dp<dp)(k1:Key)(q:k1.dp<dp)(k2:Key)(t:k2.dp<dp)(k:k0≠k1)(j:k0≠k2)(m:k1≠k2)(hz:aT dp hp)(c0:ax)(c1:Runner)(c2:aH)(a0:Stmt)(a1:Int)(r:(Bool×ax×Runner))(h:l8 R c0 c1 c2 a0 a1=some r):uA dp hp k0 k1 k2 c0 c1 c2 a0 a1 r:=
 let M:=aB t;let K:=aB g;let J:=au q;let H:=cC m;let F:=(c0.places.length:Int);let E:=aB q;let D:=aP hp k0 k1 k2 c0 c1 c2;let C:=cE k1 k2 c0;let B:=au g;let A:=(4,(ar a0));a8 agN (bf<|ao (.l C)<|.ex fun (r1:(Bool×Runner))=>let N:=aP hp k0 k1 k2 c0 r1.2 c2;ao (.v (.b r1.1))<|ao (.h (boxes dp [A] N))<|ao (.bx [A])<|ao (.h N)<|.or (D3<|.or (ee<|.ex fun (r5:(Bool×ax×Runner))=>let O:=aP hp k0 k1 k2 r5.2.1 r5.2.2 c2;ao (.v (.b r5.1))<|ao (.h (boxes dp [A] O))<|ao (.bx [A])<|ao (.h O)<|.nil) (D3<|.or (nz<|ao (.l C)<|bf<|ao (.l C)<|ao (.i F)<|bt<|.ex fun (r6:(Bool×ax×Runner))=>let S:=aP hp k0 k1 k2 r6.2.1 r6.2.2 c2;let Q:=r6.2.1.places.take c0.places.length;let P:=cE k1 k2 r6.2.1;ao (.v (.b r6.1))<|ao (.h (boxes dp [A] S))<|ao (.bx [A])<|ao (.h S)<|bf<|ao (.l P)<|bf<|ao (.l P)<|ao (.n c0.places.length)<|ao (.n c0.places.length)<|bf<|ao (.l P)<|bf<|ao (.l P)<|ao (.l (Q.map aF))<|bf<|ao (.h (aq (aq (aq hp k0 ((((gu r6.2.1).set 0 (.p k1 0)).set 10 (aO Q)).set 11 (.p k2 0))) k1 (aa r6.2.2)) k2 (ay c2)))<|.nil) (D3<|.ex fun (r6:(Bool×ax))=>let T:=aP hp k0 k1 k2 r6.2 r1.2 c2;ao (.v (.b r6.1))<|ao (.h (boxes dp [A] T))<|ao (.bx [A])<|ao (.h T)<|.or (bf<|bf<|ao (.l (cE k1 k2 r6.2))<|bt<|.ex fun (r9:Runner)=>let U:=aP hp k0 k1 k2 r6.2 r9 c2;ao (.v (.tp []))<|ao (.h (boxes dp [A] U))<|ao (.bx [A])<|ao (.h U)<|.nil) (bt<|.ex fun (r9:(Bool×Runner))=>let V:=aP hp k0 k1 k2 r6.2 r9.2 c2;ao (.v (.b r9.1))<|ao (.h (boxes dp [A] V))<|ao (.bx [A])<|ao (.h V)<|.nil)))) (bt<|.nil)) fun L=>ai ((by simp [ar,aM g,aR g,aM q,aR q,aM t,aR t]):(((.a (ar a0)):AV).deep dp&&(eA dp 4 [(0,(.p k0 0)),(1,(.a (ar a0))),(2,(I a1))] []))=true)<|ai B<|ai (dD k j:D k0=some C)<|ep<|bm h fun r1 aL h=>let W:=aP hp k0 k1 k2 c0 r1.2 c2;let Y:=boxes dp [A] W;let X:=(dD k j:W k0=some C);have aL:call G Ω0 ⟨dp+1,false⟩ 149 [(.p k1 0)] (boxes dp [A] D)=some (.ret (.b r1.1),boxes dp [A] W):=dX (cD (hp1:=aP hp k0 k1 k2 c0 c1 c2) J (cJ H (bP ..))) (cD (hp1:=aP hp k0 k1 k2 c0 r1.2 c2) J (cJ H (bP ..))) (uc (dp+1) (boxes dp [A] D) k1 E (aQ (ak t (ak q (ak g hz)))) c1 _ aL);eW aL (ak t (ak q (ak g hz)))<|b9 h (fun h3 h=>ai (av not h3)<|ai (rN dp)<|b9 h (fun h4 h=>ai h4<|ai (rN dp)<|ep<|bm h fun r5 cl h=>have cl:=lE g q t k j m (hR.f_watch_watcher_call (dp+1) Y k0 K k1 E k2 M k j m (aQ (ak t (ak q (ak g hz)))) c0 r1.2 c2 a0 a1 _ cl);eW cl (ak t (ak q (ak g hz)))<|L h) (fun h4 h=>ai h4<|ai (rN dp)<|da h (fun h5 h=>ai (aE h5)<|ai B<|ai X<|ai B<|ai X<|ai (bn aF c0.places)<|ai (rN dp)<|ep<|bm h fun r6 bG h=>let d:=(((gu r6.2.1).set 0 (.p k1 0)).set 10 (aO (r6.2.1.places.take c0.places.length))).set 11 (.p k2 0);let Z:=(dD k j:(aP hp k0 k1 k2 r6.2.1 r6.2.2 c2) k0=some (cE k1 k2 r6.2.1));have bG:=lE g q t k j m (hR.f_watch_watcher_inner (dp+1) Y k0 K k1 E k2 M k j m (aQ (ak t (ak q (ak g hz)))) c0 r1.2 c2 a0 a1 _ bG);eW bG (ak t (ak q (ak g hz)))<|ai B<|ai Z<|ai B<|ai Z<|ai (rfl:F=F)<|ai (dy _:0≤c0.places.length)<|bc h fun h8 h=>ai ((by rw [iH];exact h8):c0.places.length≤(r6.2.1.places.map aF).length)<|ai ((by simp):c0.places.length - 0=c0.places.length)<|ai ff<|ai B<|ai Z<|ai (rfl:((.c k0 10):Pl)=(.c k0 10))<|ai B<|ai Z<|ai ((by rw [iH];exact h8):c0.places.length≤(r6.2.1.places.map aF).length)<|ai (map_take aF r6.2.1.places c0.places.length)<|ai B<|ai (cJ (cC j) (cJ (cC k) (bP ..)):aq (aP hp k0 k1 k2 r6.2.1 r6.2.2 c2) k0 d=aq (aq (aq hp k0 d) k1 (aa r6.2.2)) k2 (ay c2))<|L h) (fun h5 h=>ai (aG h5)<|ai (rN dp)<|ep<|bm h fun r6 bG h=>let e:=boxes dp [A] (aP hp k0 k1 k2 r6.2 r1.2 c2);have bG:=lE g q t k j m (y0 (dp+1) Y k0 K k1 E k2 M k j m (aQ (ak t (ak q (ak g hz)))) c0 r1.2 c2 a0 _ bG);eW bG (ak t (ak q (ak g hz)))<|b9 h (fun h8 h=>IT (av not h8)<|ai B<|ai (dD k j:(aP hp k0 k1 k2 r6.2 r1.2 c2) k0=some (cE k1 k2 r6.2))<|ai tt<|ai (rN dp)<|bE<|ep<|bm h fun r9 aY h=>have aY:call G Ω0 ⟨dp+1,false⟩ 154 [(.p k1 0),(.a (ar a0)),(I a1)] e=some (.ret (.tp []),boxes dp [A] (aP hp k0 k1 k2 r6.2 r9 c2)):=dX (cD (hp1:=aP hp k0 k1 k2 r6.2 r1.2 c2) J (cJ H (bP ..))) (cD (hp1:=aP hp k0 k1 k2 r6.2 r9 c2) J (cJ H (bP ..))) (En (dp+1) e k1 E (aQ (ak t (ak q (ak g hz)))) r1.2 a0 a1 _ aY);eW aY (ak t (ak q (ak g hz)))<|L h) (fun h8 h=>ai (av not h8)<|ep<|bm h fun r9 aY h=>have aY:=lE g q t k j m (lC (dp+1) e k0 K k1 E k2 M k j m (aQ (ak t (ak q (ak g hz)))) r6.2 r1.2 c2 a1 _ aY);eW aY (ak t (ak q (ak g hz)))<|L h)))) (fun h3 h=>ai (av not h3)<|L h)
def br:Nat→cw
 | 0=>⟨fun z0 z1 z2 z3 z4=>none,fun z0 z1 z2 z3 z4=>none,fun z0 z1 z2 z3 z4=>none,fun z0 z1 z2 z3 z4=>none⟩
 | n+1=>⟨l7 (br n),lj (br n),kB (br n),l8 (br n)⟩
theorem bT:∀ n,bq (br n)
 | 0=>⟨fun _ _ _ _ _ _ _ _ _ _ _ _ _ _ _ _ _ r h=>(by cases h),fun _ _ _ _ _ _ _ _ _ _ _ _ _ _ _ _ _ r h=>(by cases h),fun _ _ _ _ _ _ _ _ _ _ _ _ _ _ _ _ _ r h=>(by cases h),fun _ _ _ _ _ _ _ _ _ _ _ _ _ _ _ _ _ r h=>(by cases h)⟩
 | n+1=>⟨fun dp hp k0 g k1 q k2 t k j m hz c0 c1 c2 a0 a1 r h=>zu _ (bT n) dp hp k0 g k1 q k2 t k j m hz c0 c1 c2 a0 a1 r h,fun dp hp k0 g k1 q k2 t k j m hz c0 c1 c2 a0 a1 r h=>y1 _ (bT n) dp hp k0 g k1 q k2 t k j m hz c0 c1 c2 a0 a1 r h,fun dp hp k0 g k1 q k2 t k j m hz c0 c1 c2 a0 a1 r h=>xV _ (bT n) dp hp k0 g k1 q k2 t k j m hz c0 c1 c2 a0 a1 r h,fun dp hp k0 g k1 q k2 t k j m hz c0 c1 c2 a0 a1 r h=>zx _ (bT n) dp hp k0 g k1 q k2 t k j m hz c0 c1 c2 a0 a1 r h⟩
end
section
variable (c0:ax)(c1:Runner)(c2:aH)(a0:(List Stmt))(a1:Int)(dp:Nat)(hp:HP)(k0:Key)
def mQ:Option (Bool×ax×Runner):=ev fun n=>(br n).f_watch_watcher_all c0 c1 c2 a0 a1
theorem AU(g:k0.dp<dp)(k1:Key)(q:k1.dp<dp)(k2:Key)(t:k2.dp<dp)(k:k0≠k1)(j:k0≠k2)(m:k1≠k2)(hz:aT dp hp)(c0:ax)(c1:Runner)(c2:aH)(a0:(List Stmt))(a1:Int)(r:(Bool×ax×Runner))(h:mQ c0 c1 c2 a0 a1=some r):p9 dp hp k0 k1 k2 c0 c1 c2 a0 a1 r:=by
 obtain ⟨n,hn⟩:=u9 h
 exact (bT n).f_watch_watcher_all dp hp k0 g k1 q k2 t k j m hz c0 c1 c2 a0 a1 r hn
end
section
variable (a0:Program)(aN:Nat)(ac:(List Level))(r4:Runner)(r6:Level)(r8:aH)(ab:(Bool×ax×Runner))(aA:(List Level))(ap:Nat)(bs:Int)(a1:(List (List Int)))(a2:Int)
def nN:Option ((Nat×(List Level))⊕(Nat×Bool×(List Level))):=
 if (aN:Int)<(a0.Vars.length:Int) then
  (fk a0.an).bind fun aj=>
  if ac.length + [aj].length≤1000000000 then
   if IntKind.i64.wrap ((aN:Int)+1)=((aN+1:Nat):Int) then
    some (.inl (aN+1,ac++[aj]))
   else none
  else none
 else
  some (.inr (aN,decide ((aN:Int)<(a0.Vars.length:Int)),ac))
abbrev Ia(v:(Nat×(List Level))):St:=⟨[zP 3,zP 6,(10,(zQ 34)),zP 25,(37,(zI a0.Vars.length)),(38,(I (v.1:Int)))],[(3,(aD a0)),(6,[(ba ([]:List Event)),(bw ([]:List Int)),(bw ([]:List Int)),(I 0),(I 0),(I 0)]),(25,(aa r4)),(32,(ay r8)),(34,[(zQ 25),(I a0.an.Many),(aX a0.an.Grants),(bw a0.Speak),(aJ a0.Ins),(aJ a0.Outs),(ct a0.Vars),(bQ a0.Funcs),(bj a0.Main),(aO v.2),(aO [r6]),(zQ 32)])],H0⟩
abbrev Aj(x:(Nat×Bool×(List Level))):bh×St:=((.ex 0),⟨[zP 3,zP 6,(10,(zQ 34)),zP 25,(37,(zI a0.Vars.length)),(38,(I (x.1:Int))),(39,(.b x.2.1))],[(3,(aD a0)),(6,[(ba ([]:List Event)),(bw ([]:List Int)),(bw ([]:List Int)),(I 0),(I 0),(I 0)]),(25,(aa r4)),(32,(ay r8)),(34,[(zQ 25),(I a0.an.Many),(aX a0.an.Grants),(bw a0.Speak),(aJ a0.Ins),(aJ a0.Outs),(ct a0.Vars),(bQ a0.Funcs),(bj a0.Main),(aO x.2.2),(aO [r6]),(zQ 32)])],H0⟩)
theorem Gu(aN:Nat)(ac:(List Level))(o:(Nat×(List Level))⊕(Nat×Bool×(List Level)))(h:nN a0 aN ac=some o):cG E0 UX (Ia a0 r4 r6 r8) (Aj a0 r4 r6 r8) (aN,ac) o:=
 cT (.or (fh<|.ex fun (aj:Level)=>ao (.v (.a [(aC aj.Readers),(aC aj.Writers)]))<|ao (.l ([aj].map aF))<|fh<|ao (.l ((ac++[aj]).map aF))<|ee<|ao (.i ((aN+1:Nat):Int))<|.nil) (bf<|.nil)) fun L=>da h (fun aV h=>ai (aE aV)<|bE<|bE<|ai tt<|ai (rfl:Z0)<|bE<|ph<|bI h (jy a0.an) fun aj h=>let A:=[aj].map aF;ai tt<|ai (rfl:[(.a [(aC aj.Readers),(aC aj.Writers)])]=[aj].map aF)<|ai tt<|ai ff<|kg<|ai (rfl:Z0)<|bc h fun bd h=>ai ((fS aF (n:=2) (fun _=>rfl) [aj]):A.all (fun e=>e.nc==2)=true)<|ai ((jO bd (by decide)):((ac.map aF).length+A.length)*48≤140737488355328)<|ai ((jP bd):(ac.map aF).length+A.length≤maxLen)<|ai (dI.symm:ac.map aF++[aj].map aF=(ac++[aj]).map aF)<|ai tt<|ai ff<|kg<|bc h fun ch h=>ai ch<|L h) (fun aV h=>ai (aG aV)<|L h)
def nO:Option (((List Level)×Nat)⊕((List Level)×Nat×Bool)):=
 if (ap:Int)<(ab.2.1.vars.length:Int) then
  (ab.2.1.vars[ap]?).bind fun cb=>
  (vU cb).bind fun a4=>
  if aA.length + [a4].length≤1000000000 then
   if IntKind.i64.wrap ((ap:Int)+1)=((ap+1:Nat):Int) then
    some (.inl (aA++[a4],ap+1))
   else none
  else none
 else
  some (.inr (aA,ap,decide ((ap:Int)<(ab.2.1.vars.length:Int))))
abbrev Ib(v:((List Level)×Nat)):St:=⟨[zP 6,(10,(zQ 34)),(11,(aO v.1)),zP 25,(75,(.r (.c ⟨0,34⟩ 9))),(76,(zI ab.2.1.vars.length)),(77,(I (v.2:Int)))],[(6,[(ba ([]:List Event)),(bw ([]:List Int)),(bw ([]:List Int)),(I 0),(I 0),(I 0)]),(25,((aa ab.2.2).set 15 (I bs))),(32,(ay r8)),(34,(((gb ab.2.1).set 0 (zQ 25)).set 11 (zQ 32)))],H0⟩
abbrev Ak(x:((List Level)×Nat×Bool)):bh×St:=((.ex 2),⟨[zP 6,(10,(zQ 34)),(11,(aO x.1)),zP 25,(75,(.r (.c ⟨0,34⟩ 9))),(76,(zI ab.2.1.vars.length)),(77,(I (x.2.1:Int))),(78,(.b x.2.2))],[(6,[(ba ([]:List Event)),(bw ([]:List Int)),(bw ([]:List Int)),(I 0),(I 0),(I 0)]),(25,((aa ab.2.2).set 15 (I bs))),(32,(ay r8)),(34,(((gb ab.2.1).set 0 (zQ 25)).set 11 (zQ 32)))],H0⟩)
theorem Gv(aA:(List Level))(ap:Nat)(o:((List Level)×Nat)⊕((List Level)×Nat×Bool))(h:nO ab aA ap=some o):cG E0 UY (Ib r8 ab bs) (Ak r8 ab bs) (aA,ap) o:=
 cT (.or (bt<|ao (.n ap)<|bt<|.ex fun (cb:Level)=>let A:=[(aC cb.Readers),(aC cb.Writers)];ao (.v (.a A))<|bt<|ao (.v (.a A))<|fh<|.ex fun (a4:Level)=>ao (.v (.a [(aC a4.Readers),(aC a4.Writers)]))<|ao (.l ([a4].map aF))<|ao (.l ((aA++[a4]).map aF))<|ao (.i ((ap+1:Nat):Int))<|.nil) (bf<|.nil)) fun L=>da h (fun b8 h=>ai (aE b8)<|ai (rI ap)<|ai (rfl:Z0)<|bm h fun cb b6 h=>ai (aI aF b6)<|ai (rfl:Z0)<|ai (aI aF b6)<|OU<|bI h (Jj cb) fun a4 h=>let B:=[a4].map aF;ai (rfl:[(.a [(aC a4.Readers),(aC a4.Writers)])]=[a4].map aF)<|ai ff<|bc h fun co h=>ai ((fS aF (n:=2) (fun _=>rfl) [a4]):B.all (fun e=>e.nc==2)=true)<|ai ((jO co (by decide)):((aA.map aF).length+B.length)*48≤140737488355328)<|ai ((jP co):(aA.map aF).length+B.length≤maxLen)<|ai (dI.symm:aA.map aF++[a4].map aF=(aA++[a4]).map aF)<|bc h fun cr h=>ai cr<|L h) (fun b8 h=>ai (aG b8)<|L h)
def mM:Option ((List Level)×Int):=
 (lp (fun v=>nO ab v.1 v.2) (([]:List Level),0)).bind fun a5=>
 some (a5.1,bs)
abbrev s7(x:((List Level)×Int)):bh×St:=(.ret,⟨[zP 6,(7,(.r (.s 11))),(8,(I 0)),(11,(aO x.1))],[(6,((Li ab.2.2.aU).set 4 (I x.2)))],H0⟩)
theorem xr(x:((List Level)×Int))(h:mM ab bs=some x):run G Ω0 E0 UZ ⟨[zP 6,(10,(zQ 34)),zP 25],[(6,[(ba ([]:List Event)),(bw ([]:List Int)),(bw ([]:List Int)),(I 0),(I 0),(I 0)]),(25,((aa ab.2.2).set 15 (I bs))),(32,(ay r8)),(34,(((gb ab.2.1).set 0 (zQ 25)).set 11 (zQ 32)))],H0⟩=some (s7 ab x):=
 Cn (ee<|ao (.i (ab.2.1.vars.length:Int))<|.ex fun (a5:((List Level)×Nat×Bool))=>ao (.dJ (Ak r8 ab bs a5))<|ac4<|.nil) fun L=>kg<|ai (bn aF ab.2.1.vars)<|bI h (im (fun v=>Gv r8 ab bs v.1 v.2) (([]:List Level),0)) fun a5 h=>ai ff<|kg<|ai ff<|kg<|ai ff<|kg<|kg<|oq<|L h
abbrev K1(a0:Program)(a1:(List (List Int)))(a2:Int)(r:(RunT×(List Level)×Int)):bA×HP:=(.ret (.tp [(.a (Li r.1)),(.l 113 (r.2.1.map aF)),(I r.2.2)]),H0)
def m9:Option (RunT×(List Level)×Int):=
 (vZ a0 a1 a2).bind fun r1=>
 if (r1 !=0)=true then
  some ((⟨([]:List Event),([]:List Int),([]:List Int),0,0,0⟩:RunT),([]:List Level),r1)
 else
  (Ai a0 a1 a2).bind fun r4=>
  (fk a0.an).bind fun r6=>
  (vV a0).bind fun r8=>
  (lp (fun v=>nN a0 v.1 v.2) (0,([]:List Level))).bind fun b7=>
  (fZ r4 (a0.Funcs.length:Int)).bind fun ag=>
  (mQ (⟨(),a0,b7.2.2,[r6],()⟩:ax) r4 r8 a0.Main ag).bind fun ab=>
  if ab.1=true then
   (mM ab 1).bind fun a5=>
   some ((⟨ab.2.2.aU.Events,ab.2.2.aU.Vars,ab.2.2.aU.Taken,ab.2.2.aU.Steps,a5.2,ab.2.2.aU.Stop⟩:RunT),a5.1,0)
  else
   (mM ab ab.2.2.aU.End).bind fun a5=>
   some ((⟨ab.2.2.aU.Events,ab.2.2.aU.Vars,ab.2.2.aU.Taken,ab.2.2.aU.Steps,a5.2,ab.2.2.aU.Stop⟩:RunT),a5.1,0)
theorem zb(r:(RunT×(List Level)×Int))(h:m9 a0 a1 a2=some r):call G Ω0 E0 21 [(.a (aD a0)),(.l 25 (a1.map (bO 3 (I)))),(I a2)] H0=some (K1 a0 a1 a2 r):=
 let N:=List Level;let M:=(3,(aD a0));let K:=aJ a0.Ins;let J:=ct a0.Vars;let H:=aJ a0.Outs;let F:=bQ a0.Funcs;let E:=bw a0.Speak;let D:=bj a0.Main;let C:=I a0.an.Many;let B:=aX a0.an.Grants;let A:=ba ([]:List Event);a8 G21 (bt<|xI fun r1=>let O:=(6,[A,(bw ([]:List Int)),(bw ([]:List Int)),(I 0),(I 0),(I 0)]);.or (fh<|.nil) (D3<|.ex fun (r4:Runner)=>ao (.l (aa r4))<|ao (.h H0)<|ee<|.ex fun (r6:Level)=>ao (.v (.a [(aC r6.Readers),(aC r6.Writers)]))<|ao (.l ([r6].map aF))<|bt<|.ex fun (r8:aH)=>let P:=(32,(ay r8));ao (.l (ay r8))<|ao (.h H0)<|xp<|ao (.i (a0.Vars.length:Int))<|.ex fun (b7:(Nat×Bool×N))=>ao (.dJ (Aj a0 r4 r6 r8 b7))<|fh<|ao (.i (a0.Funcs.length:Int))<|xI fun ag=>ao (.h (boxes 0 [(25,(aa r4)),P,(34,[(zQ 25),C,B,E,K,H,J,F,D,(aO b7.2.2),(aO [r6]),(zQ 32)])] H0))<|.ex fun (ab:(Bool×ax×Runner))=>let Q:=[M,O,(25,(aa ab.2.2)),P,(34,(((gb ab.2.1).set 0 (zQ 25)).set 11 (zQ 32)))];ao (.v (.b ab.1))<|ao (.h (boxes 0 Q H0))<|ao (.bx Q)<|ao (.h H0)<|.or (xp<|.fb<|.ex fun (a5:(N×Int))=>ao (.oe (s7 ab a5))<|.nil) (bf<|.fb<|.ex fun (a5:(N×Int))=>ao (.oe (s7 ab a5))<|.nil))) fun L=>let R:=(6,[A,(bw ([]:List Int)),(bw ([]:List Int)),(I 0),(I 0),(I 0)]);bE<|ai (rfl:Z0)<|bI h (Jn a0 a1 a2) fun r1 h=>b9 h (fun h3 h=>ai h3<|oq<|ai (rfl:Z0)<|L h) (fun h3 h=>rY h3<|ai (rfl:Z0)<|bE<|ai tt<|bm h fun r4 aw h=>let S:=(25,(aa r4));have aw:call G Ω0 ⟨0+1,false⟩ 64 [(.a (aD a0)),(nA a1),(I a2)] H0=some (.new (aa r4),H0):=MZ (0+1) H0 (fq (0+1)) a0 a1 a2 _ aw;ai aw<|bE<|ai (rfl:Z0)<|bE<|ph<|bI h (jy a0.an) fun r6 h=>let T:=aO [r6];ai tt<|ai (rfl:[(.a [(aC r6.Readers),(aC r6.Writers)])]=[r6].map aF)<|ai tt<|ph<|bm h fun r8 bF h=>let U:=(32,(ay r8));have bF:call G Ω0 ⟨0+1,false⟩ 67 [(.a (aD a0))] H0=some (.new (ay r8),H0):=Jk (0+1) H0 (fq (0+1)) a0 _ bF;ai bF<|bE<|ai ff<|kg<|ai ff<|kg<|ai (bn dA a0.Vars)<|bI h (im (fun v=>Gu a0 r4 r6 r8 v.1 v.2) (0,([]:List Level))) fun b7 h=>let V:=(34,[(zQ 25),C,B,E,K,H,J,F,D,(aO b7.2.2),T,(zQ 32)]);let X:=boxes 0 [S,U,V] H0;let W:=[M,R,S,U,V];bE<|ai tt<|ai (rfl:Z0)<|bE<|bE<|ai (rfl:Z0)<|bE<|ph<|ai (bn cQ a0.Funcs)<|bE<|bm h fun ag bi h=>have bi:call G Ω0 ⟨0+1,true⟩ 69 [(zQ 25),(zI a0.Funcs.length)] X=some (.ret (I ag),boxes 0 [S,U,V] H0):=dX (dt (bx1:=[S,U,V]) (by kernel_rfl) (by kernel_rfl)) (dt (bx1:=[S,U,V]) (by kernel_rfl) (by kernel_rfl)) (tw (0+1) X ⟨0,25⟩ (gP 0) (aQ (fq 0)) r4 (a0.Funcs.length:Int) _ bi);ai bi<|ai tt<|ep<|bm h fun ab aW h=>let Y:=[M,R,(25,(aa ab.2.2)),U,(34,(((gb ab.2.1).set 0 (zQ 25)).set 11 (zQ 32)))];have aW:call G Ω0 ⟨0+1,false⟩ 68 [(zQ 34),D,(I ag)] (boxes 0 W H0)=some (.ret (.b ab.1),boxes 0 Y H0):=dX (iJ (iJ (dt (bx1:=W) (by kernel_rfl) (by kernel_rfl)) (dt (bx1:=W) (by kernel_rfl) (by kernel_rfl))) (dt (bx1:=W) (by kernel_rfl) (by kernel_rfl))) (iJ (iJ (dt (bx1:=[M,R,S,U,(34,(((gb ab.2.1).set 0 (zQ 25)).set 11 (zQ 32)))]) (by kernel_rfl) (by kernel_rfl)) (dt (bx1:=Y) (by kernel_rfl) (by kernel_rfl))) (dt (bx1:=Y) (by kernel_rfl) (by kernel_rfl))) (AU (0+1) (boxes 0 W H0) ⟨0,34⟩ (gP 0) ⟨0,25⟩ (gP 0) ⟨0,32⟩ (gP 0) (Hr (by decide)) (Hr (by decide)) (Hr (by decide)) (aQ (fq 0)) (⟨(),a0,b7.2.2,[r6],()⟩:ax) r4 r8 a0.Main ag _ aW);eW aW (fq 0)<|b9 h (fun b2 h=>ai b2<|ai (rfl:Z0)<|oq<|bI h (xr r8 ab 1) fun a5 h=>ai (rfl:Z0)<|L h) (fun b2 h=>ai b2<|bI h (xr r8 ab ab.2.2.aU.End) fun a5 h=>ai (rfl:Z0)<|L h))
end
end
end Go.Proofs.YtlmphbbhaeampaaGreat.A
