/- Functions of the program as plain functions, by program. -/
import Derived.Test.YtogbakbmphadfaaGreatDoorTypes
import Derived.Test.YtogbakbmphadfaaGreatDoorLift
import Derived.Test.YtogbakbmphadfaaGreatDoorFT
set_option maxRecDepth 100000
set_option linter.unusedSectionVars false
set_option linter.unusedVariables false
set_option linter.unusedSimpArgs false
set_option linter.constructorNameAsVariable false
namespace Go.Proofs.YtogbakbmphadfaaGreatDoor.A
open Go
noncomputable section
variable [Lp]
section
variable (a0:ad)
abbrev G1(a0:ad)(r:(List UInt8)):aZ×HP:=(.ret (.s r),H0)
abbrev uP(r:(List UInt8)):Prop:=call G Ω0 E0 28 [(.a (aY a0))] H0=some (G1 a0 r)
end
structure uQ where
 f_show_expr:ad→Option (List UInt8)
structure xE(R:uQ):Prop where
 f_show_expr:∀ (a0:ad)(r:(List UInt8)),R.f_show_expr a0=some r→uP a0 r
section
variable (R:uQ)(a0:ad)
def p7:Option (List UInt8):=
 if (a0.Kind==1)=true then
  (yi a0.N).bind fun (r2:(List UInt8))=>
  some r2
 else
  if (a0.Kind==2)=true then
   some a0.Name
  else
   if IntKind.i64.wrap (a0.Kind - 3)=a0.Kind - 3 then
    (dG (a0.Kind - 3)).bind fun (j4:Nat)=>
    (([[43],[45],[42],[60],[61,61]])[j4]?).bind fun (y6:(List UInt8))=>
    (a0.Args[0]?).bind fun (y8:ad)=>
    (R.f_show_expr y8).bind fun (r10:(List UInt8))=>
    if [40].length+r10.length≤4611686018427387904 then
     if ([40]++r10).length + [32].length≤4611686018427387904 then
      if (([40]++r10)++[32]).length+y6.length≤4611686018427387904 then
       if ((([40]++r10)++[32])++y6).length + [32].length≤4611686018427387904 then
        (a0.Args[1]?).bind fun (y16:ad)=>
        (R.f_show_expr y16).bind fun (r18:(List UInt8))=>
        if (((([40]++r10)++[32])++y6)++[32]).length+r18.length≤4611686018427387904 then
         if ((((([40]++r10)++[32])++y6)++[32])++r18).length + [41].length≤4611686018427387904 then
          some (((((([40]++r10)++[32])++y6)++[32])++r18)++[41])
         else none
        else none
       else none
      else none
     else none
    else none
   else none
theorem Bf(hR:xE R)(a0:ad)(r:(List UInt8))(h:p7 R a0=some r):uP a0 r:=
 aH G28 (bt<|.or (cu<|.ex fun (r2:(List UInt8))=>ao (.v (.s r2))<|.nil) (bf<|.or (cu<|.nil) (bf<|ao (.l (([[43],[45],[42],[60],[61,61]]).map AV.s))<|bt<|ao (.i (a0.Kind - 3))<|xN fun j4=>.ex fun (y6:(List UInt8))=>ao (.v (.s y6))<|bt<|ao (.n 0)<|.ex fun (y8:ad)=>ao (.v (.a (aY y8)))<|.ex fun (r10:(List UInt8))=>ao (.v (.s r10))<|ao (.s ([40]++r10))<|ao (.s (([40]++r10)++[32]))<|ao (.s ((([40]++r10)++[32])++y6))<|ao (.s (((([40]++r10)++[32])++y6)++[32]))<|bt<|ao (.n 1)<|.ex fun (y16:ad)=>ao (.v (.a (aY y16)))<|.ex fun (r18:(List UInt8))=>ao (.v (.s r18))<|ao (.s ((((([40]++r10)++[32])++y6)++[32])++r18))<|ao (.s (((((([40]++r10)++[32])++y6)++[32])++r18)++[41]))<|.nil))) fun L=>od<|aJ h (fun h1 h=>fO h1<|br h fun r2 ek3 h=>have ek3:Ω0 64 [(I a0.N)]=some (.s r2):=Ka ek3;ai ek3<|L h) (fun h1 h=>ai h1<|aJ h (fun h2 h=>fO h2<|L h) (fun h2 h=>ai h2<|ai (rfl:[(.s [43]),(.s [45]),(.s [42]),(.s [60]),(.s ([61,61]))]=([[43],[45],[42],[60],[61,61]]).map AV.s)<|ai (rfl:Z0)<|aj h fun w3 h=>ai w3<|lB h fun j4 h5 h=>ai h5<|br h fun y6 h7 h=>ai (cj AV.s h7)<|oO<|ai (rI 0)<|br h fun y8 h9 h=>ai (cX av h9 (b9 _))<|ai tt<|ai tt<|aw h (hR.f_show_expr y8) fun r10 h=>ai tt<|aj h fun h12 h=>ai h12<|ai (rfl:[40]++r10=[40]++r10)<|ai tt<|aj h fun h13 h=>ai h13<|ai (rfl:([40]++r10)++[32]=([40]++r10)++[32])<|ai tt<|ai tt<|aj h fun h14 h=>ai h14<|ai (rfl:(([40]++r10)++[32])++y6=(([40]++r10)++[32])++y6)<|ai tt<|aj h fun h15 h=>ai h15<|ai (rfl:((([40]++r10)++[32])++y6)++[32]=((([40]++r10)++[32])++y6)++[32])<|oO<|ai (rI 1)<|br h fun y16 h17 h=>ai (cX av h17 (b9 _))<|ai tt<|ai tt<|aw h (hR.f_show_expr y16) fun r18 h=>ai tt<|aj h fun h20 h=>ai h20<|ai (rfl:(((([40]++r10)++[32])++y6)++[32])++r18=(((([40]++r10)++[32])++y6)++[32])++r18)<|aj h fun h21 h=>ai h21<|ai (rfl:((((([40]++r10)++[32])++y6)++[32])++r18)++[41]=((((([40]++r10)++[32])++y6)++[32])++r18)++[41])<|L h))
def ov:Nat→uQ
 | 0=>⟨fun z0=>none⟩
 | n+1=>⟨p7 (ov n)⟩
theorem xF:∀ n,xE (ov n)
 | 0=>⟨fun _ r h=>(by cases h)⟩
 | n+1=>⟨fun a0 r h=>Bf _ (xF n) a0 r h⟩
def eF:Option (List UInt8):=ev fun n=>(ov n).f_show_expr a0
theorem eQ(r:(List UInt8))(h:eF a0=some r):uP a0 r:=by
 obtain ⟨n,hn⟩:=iD h
 exact (xF n).f_show_expr a0 r hn
end
section
variable (a0:aD)
def jg(w0_1:(List UInt8)):Option (List UInt8):=
 if 0<(a0.Names.length:Int) then
  (oz a0.Names ([44,32])).bind fun (r5:(List UInt8))=>
  if [32].length+r5.length≤4611686018427387904 then
   if w0_1.length+([32]++r5).length≤4611686018427387904 then
    some (w0_1++([32]++r5))
   else none
  else none
 else
  some w0_1
abbrev zO(a0:aD)(w0_1:(List UInt8))(x:(List UInt8)):aK×St:=(.ret,⟨[(2,(.s x))],[],H0⟩)
theorem rV(w0_1:(List UInt8))(x:(List UInt8))(h:jg a0 w0_1=some x):run G Ω0 E0 Mc ⟨[(1,(.p ⟨0,1⟩ 0)),(3,(.s w0_1))],[(1,(cY a0))],H0⟩=some (zO a0 w0_1 x):=
 fP (bt<|ao (.i (a0.Names.length:Int))<|.or (cu<|.ex fun (r5:(List UInt8))=>ao (.v (.s r5))<|ao (.s ([32]++r5))<|ao (.s (w0_1++([32]++r5)))<|.nil) (bf<|.nil)) fun L=>ai (rfl:Z0)<|ai (aO AV.s a0.Names)<|bu h (fun h4 h=>fO (decide_eq_true h4)<|br h fun r5 ek6 h=>have ek6:Ω0 27 [(.l 9 (a0.Names.map AV.s)),(.s ([44,32]))]=some (.s r5):=sJ (t:=9) ek6;ai ek6<|aj h fun h7 h=>ai h7<|ai (rfl:[32]++r5=[32]++r5)<|aj h fun h8 h=>ai h8<|ai (rfl:w0_1++([32]++r5)=w0_1++([32]++r5))<|L h) (fun h4 h=>ai (decide_eq_false h4)<|L h)
abbrev Er(a0:aD)(r:(List UInt8)):aZ×HP:=(.ret (.s r),H0)
def oJ:Option (List UInt8):=
 if a0.Owner.length + [58].length≤4611686018427387904 then
  if a0.Write=true then
   if a0.Owner.length + [33].length≤4611686018427387904 then
    (jg a0 (a0.Owner++[33])).bind fun (x4:(List UInt8))=>
    some x4
   else none
  else
   (jg a0 (a0.Owner++[58])).bind fun (x3:(List UInt8))=>
   some x3
 else none
theorem zP(r:(List UInt8))(h:oJ a0=some r):call G Ω0 E0 66 [(.a (cY a0))] H0=some (Er a0 r):=
 aH G66 (bt<|ao (.s (a0.Owner++[58]))<|bt<|.or (cu<|ao (.s (a0.Owner++[33]))<|.fb<|.ex fun (x4:(List UInt8))=>ao (.fr .ret ⟨[(2,(.s x4))],[],H0⟩)<|.nil) (bf<|.fb<|.ex fun (x3:(List UInt8))=>ao (.fr .ret ⟨[(2,(.s x3))],[],H0⟩)<|.nil)) fun L=>od<|aj h fun h1 h=>ai h1<|ai (rfl:a0.Owner++[58]=a0.Owner++[58])<|ai (rfl:Z0)<|aJ h (fun h2 h=>fO h2<|aj h fun h3 h=>ai h3<|ai (rfl:a0.Owner++[33]=a0.Owner++[33])<|aw h (rV a0 (a0.Owner++[33])) fun x4 h=>L h) (fun h2 h=>ai h2<|aw h (rV a0 (a0.Owner++[58])) fun x3 h=>L h)
end
section
variable (a0:(List aD))(a1:(List UInt8))
def cE(a1:(List UInt8))(v0_7:(List (List UInt8)))(v0_12:Nat):Option (((List (List UInt8))×Nat)⊕((List (List UInt8))×Nat×Bool)):=
 if (v0_12:Int)<(a0.length:Int) then
  (a0[v0_12]?).bind fun (y2:aD)=>
  (oJ y2).bind fun (r4:(List UInt8))=>
  if v0_7.length + [r4].length≤1000000000 then
   if IntKind.i64.wrap ((v0_12:Int)+1)=((v0_12+1:Nat):Int) then
    some (.inl (v0_7++[r4],v0_12+1))
   else none
  else none
 else
  some (.inr (v0_7,v0_12,decide ((v0_12:Int)<(a0.length:Int))))
abbrev rG(v:((List (List UInt8))×Nat)):St:=⟨[(1,(.s a1)),(2,(.f 66 [])),(7,(.o 9 (v.1.map AV.s))),(10,(.l 74 (a0.map aA))),(11,(I (a0.length:Int))),(12,(I (v.2:Int)))],[],H0⟩
abbrev rH(x:((List (List UInt8))×Nat×Bool)):aK×St:=((.ex 0),⟨[(1,(.s a1)),(2,(.f 66 [])),(7,(.o 9 (x.1.map AV.s))),(10,(.l 74 (a0.map aA))),(11,(I (a0.length:Int))),(12,(I (x.2.1:Int))),(13,(.b x.2.2))],[],H0⟩)
theorem rf(v0_7:(List (List UInt8)))(v0_12:Nat)(o:((List (List UInt8))×Nat)⊕((List (List UInt8))×Nat×Bool))(h:cE a0 a1 v0_7 v0_12=some o):bH E0 Mb (rG a0 a1) (rH a0 a1) (v0_7,v0_12) o:=
 bV (.or (bt<|ao (.n v0_12)<|.ex fun (y2:aD)=>ao (.v (.a (cY y2)))<|eI<|.ex fun (r4:(List UInt8))=>ao (.v (.s r4))<|ao (.l ([r4].map AV.s))<|ao (.l ((v0_7++[r4]).map AV.s))<|ao (.i ((v0_12+1:Nat):Int))<|.nil) (bf<|.nil)) fun L=>bu h (fun h1 h=>ai (decide_eq_true h1)<|ai (rI v0_12)<|br h fun y2 h3 h=>ai (cj aA h3)<|Hu<|aw h (zP y2) fun r4 h=>ai (rfl:[(.s r4)]=[r4].map AV.s)<|ai ff<|aj h fun h6 h=>ai ((Am AV.s (n:=1) (fun _=>rfl) [r4]):([r4].map AV.s).all (fun e=>e.nc==1)=true)<|ai ((Ez h6 (by decide)):((v0_7.map AV.s).length+([r4].map AV.s).length)*16≤140737488355328)<|ai ((EA h6):(v0_7.map AV.s).length+([r4].map AV.s).length≤maxLen)<|ai (List.map_append.symm:v0_7.map AV.s++[r4].map AV.s=(v0_7++[r4]).map AV.s)<|aj h fun w7 h=>ai w7<|L h) (fun h1 h=>ai (decide_eq_false h1)<|L h)
abbrev tf(a0:(List aD))(a1:(List UInt8))(r:(List UInt8)):aZ×HP:=(.ret (.s r),H0)
def jh:Option (List UInt8):=
 (lp (fun v=>cE a0 a1 v.1 v.2) (([]:List (List UInt8)),0)).bind fun (x1:((List (List UInt8))×Nat×Bool))=>
 (oz x1.1 a1).bind fun (r3:(List UInt8))=>
 some r3
theorem rh(r:(List UInt8))(h:jh a0 a1=some r):call G Ω0 E0 65 [(.l 74 (a0.map aA)),(.s a1),(.f 66 [])] H0=some (tf a0 a1 r):=
 aH G65 (ao (.i (a0.length:Int))<|.ex fun (x1:((List (List UInt8))×Nat×Bool))=>ao (.lp (.ex 0) ⟨[(1,(.s a1)),(2,(.f 66 [])),(7,(.o 9 (x1.1.map AV.s))),(10,(.l 74 (a0.map aA))),(11,(I (a0.length:Int))),(12,(I (x1.2.1:Int))),(13,(.b x1.2.2))],[],H0⟩)<|.ex fun (r3:(List UInt8))=>ao (.v (.s r3))<|.nil) fun L=>ai (aO aA a0)<|aw h (eH (fun v=>rf a0 a1 v.1 v.2) (([]:List (List UInt8)),0)) fun x1 h=>br h fun r3 ek4 h=>have ek4:Ω0 27 [(.l 9 (x1.1.map AV.s)),(.s a1)]=some (.s r3):=sJ (t:=9) ek4;ai ek4<|ai tt<|ai tt<|L h
abbrev F1(a0:(List aD))(r:(List UInt8)):aZ×HP:=(.ret (.s r),H0)
def p8:Option (List UInt8):=
 (jh a0 ([59,32])).bind fun (r1:(List UInt8))=>
 if ([32,123]).length+r1.length≤4611686018427387904 then
  if (([32,123])++r1).length + [125].length≤4611686018427387904 then
   some ((([32,123])++r1)++[125])
  else none
 else none
theorem Bg(r:(List UInt8))(h:p8 a0=some r):call G Ω0 E0 29 [(.l 74 (a0.map aA))] H0=some (F1 a0 r):=
 aH G29 (.ex fun (r1:(List UInt8))=>ao (.v (.s r1))<|ao (.s (([32,123])++r1))<|ao (.s ((([32,123])++r1)++[125]))<|.nil) fun L=>aw h (rh a0 ([59,32])) fun r1 h=>aj h fun h3 h=>ai h3<|ai (rfl:([32,123])++r1=([32,123])++r1)<|aj h fun h4 h=>ai h4<|ai (rfl:(([32,123])++r1)++[125]=(([32,123])++r1)++[125])<|L h
end
end
end Go.Proofs.YtogbakbmphadfaaGreatDoor.A
