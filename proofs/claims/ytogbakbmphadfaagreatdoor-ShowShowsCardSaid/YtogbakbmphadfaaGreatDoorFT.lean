/- Functions of the program as plain functions, by program. -/
import Derived.Test.YtogbakbmphadfaaGreatDoorTypes
import Derived.Test.YtogbakbmphadfaaGreatDoorLift
import Derived.Test.YtogbakbmphadfaaGreatDoorFR
set_option maxRecDepth 100000
set_option linter.unusedSectionVars false
set_option linter.unusedVariables false
set_option linter.unusedSimpArgs false
set_option linter.constructorNameAsVariable false
namespace Go.Proofs.YtogbakbmphadfaaGreatDoor.A
open Go
noncomputable section
variable [Lp]
section
variable (a0:(List (List UInt8)))
def lh(v0_4:Nat)(w1_1:(List UInt8)):Option (List UInt8):=
 (a0[v0_4]?).bind fun (y4:(List UInt8))=>
 if w1_1.length+y4.length≤4611686018427387904 then
  some (w1_1++y4)
 else none
abbrev El(v0_4:Nat)(w1_1:(List UInt8))(x:(List UInt8)):aK×St:=(.nrm,⟨[(0,(.l 9 (a0.map AV.s))),(3,(.s x)),(4,(I (v0_4:Int)))],[],H0⟩)
theorem vq(v0_4:Nat)(w1_1:(List UInt8))(x:(List UInt8))(h:lh a0 v0_4 w1_1=some x):run G Ω0 E0 LO ⟨[(0,(.l 9 (a0.map AV.s))),(3,(.s w1_1)),(4,(I (v0_4:Int)))],[],H0⟩=some (El a0 v0_4 w1_1 x):=
 fP (ao (.n v0_4)<|.ex fun (y4:(List UInt8))=>ao (.v (.s y4))<|ao (.s (w1_1++y4))<|.nil) fun L=>ai (rI v0_4)<|br h fun y4 h5 h=>ai (cj AV.s h5)<|aj h fun h6 h=>ai h6<|ai (rfl:w1_1++y4=w1_1++y4)<|L h
def dU(v0_3:(List UInt8))(v0_4:Nat):Option (((List UInt8)×Nat)⊕((List UInt8)×Nat×Bool)):=
 if (v0_4:Int)<(a0.length:Int) then
  if 0<(v0_4:Int) then
   if v0_3.length+([44,32]).length≤4611686018427387904 then
    (lh a0 v0_4 (v0_3++([44,32]))).bind fun (x4:(List UInt8))=>
    if IntKind.i64.wrap ((v0_4:Int)+1)=((v0_4+1:Nat):Int) then
     some (.inl (x4,v0_4+1))
    else none
   else none
  else
   (lh a0 v0_4 v0_3).bind fun (x3:(List UInt8))=>
   if IntKind.i64.wrap ((v0_4:Int)+1)=((v0_4+1:Nat):Int) then
    some (.inl (x3,v0_4+1))
   else none
 else
  some (.inr (v0_3,v0_4,decide ((v0_4:Int)<(a0.length:Int))))
abbrev FX(v:((List UInt8)×Nat)):St:=⟨[(0,(.l 9 (a0.map AV.s))),(3,(.s v.1)),(4,(I (v.2:Int)))],[],H0⟩
abbrev FY(x:((List UInt8)×Nat×Bool)):aK×St:=((.ex 0),⟨[(0,(.l 9 (a0.map AV.s))),(3,(.s x.1)),(4,(I (x.2.1:Int))),(8,(.b x.2.2))],[],H0⟩)
theorem Em(v0_3:(List UInt8))(v0_4:Nat)(o:((List UInt8)×Nat)⊕((List UInt8)×Nat×Bool))(h:dU a0 v0_3 v0_4=some o):bH E0 LP (FX a0) (FY a0) (v0_3,v0_4) o:=
 bV (ao (.i (a0.length:Int))<|.or (bt<|.or (bt<|ao (.s (v0_3++([44,32])))<|.fb<|.ex fun (x4:(List UInt8))=>ao (.fr .nrm ⟨[(0,(.l 9 (a0.map AV.s))),(3,(.s x4)),(4,(I (v0_4:Int)))],[],H0⟩)<|ao (.i ((v0_4+1:Nat):Int))<|.nil) (bf<|.fb<|.ex fun (x3:(List UInt8))=>ao (.fr .nrm ⟨[(0,(.l 9 (a0.map AV.s))),(3,(.s x3)),(4,(I (v0_4:Int)))],[],H0⟩)<|ao (.i ((v0_4+1:Nat):Int))<|.nil)) (bf<|.nil)) fun L=>ai (aO AV.s a0)<|bu h (fun h1 h=>ai (decide_eq_true h1)<|bu h (fun h2 h=>ai (decide_eq_true h2)<|aj h fun h3 h=>ai h3<|ai (rfl:v0_3++([44,32])=v0_3++([44,32]))<|aw h (vq a0 v0_4 (v0_3++([44,32]))) fun x4 h=>aj h fun w6 h=>ai w6<|L h) (fun h2 h=>ai (decide_eq_false h2)<|aw h (vq a0 v0_4 v0_3) fun x3 h=>aj h fun w5 h=>ai w5<|L h)) (fun h1 h=>ai (decide_eq_false h1)<|L h)
abbrev IA(a0:(List (List UInt8)))(r:(List UInt8)):aZ×HP:=(.ret (.s r),H0)
def kW:Option (List UInt8):=
 (lp (fun v=>dU a0 v.1 v.2) (([]:List UInt8),0)).bind fun (x1:((List UInt8)×Nat×Bool))=>
 some x1.1
theorem rE(r:(List UInt8))(h:kW a0=some r):call G Ω0 E0 16 [(.l 9 (a0.map AV.s))] H0=some (IA a0 r):=
 aH Z1 (.ex fun (x1:((List UInt8)×Nat×Bool))=>ao (.lp (.ex 0) ⟨[(0,(.l 9 (a0.map AV.s))),(3,(.s x1.1)),(4,(I (x1.2.1:Int))),(8,(.b x1.2.2))],[],H0⟩)<|.nil) fun L=>aw h (eH (fun v=>Em a0 v.1 v.2) (([]:List UInt8),0)) fun x1 h=>L h
end
section
variable (a0:Int)
abbrev IB(a0:Int)(r:(List UInt8)):aZ×HP:=(.ret (.s r),H0)
abbrev vW(r:(List UInt8)):Prop:=call G Ω0 E0 39 [(I a0)] H0=some (IB a0 r)
end
structure vX where
 f_R_Digits:Int→Option (List UInt8)
structure yX(R:vX):Prop where
 f_R_Digits:∀ (a0:Int)(r:(List UInt8)),R.f_R_Digits a0=some r→vW a0 r
section
variable (R:vX)(a0:Int)
def lr:Option (List UInt8):=
 if a0<0 then
  if -10<a0 then
   if IntKind.i64.wrap (0 - a0)= -a0 then
    (R.f_R_Digits (-a0)).bind fun (r4:(List UInt8))=>
    if [45].length+r4.length≤4611686018427387904 then
     some ([45]++r4)
    else none
   else none
  else
   if IntKind.i64.wrap (0 - (IntKind.i64.wrap (a0.tdiv 10)))= -(IntKind.i64.wrap (a0.tdiv 10)) then
    (R.f_R_Digits (-(IntKind.i64.wrap (a0.tdiv 10)))).bind fun (r4:(List UInt8))=>
    if [45].length+r4.length≤4611686018427387904 then
     if IntKind.i64.wrap (0 - (a0.tmod 10))= -(a0.tmod 10) then
      (R.f_R_Digits (-(a0.tmod 10))).bind fun (r8:(List UInt8))=>
      if ([45]++r4).length+r8.length≤4611686018427387904 then
       some (([45]++r4)++r8)
      else none
     else none
    else none
   else none
 else
  if a0<10 then
   if IntKind.i64.wrap (48+a0)=48+a0 then
    if 0≤(IntKind.u8.wrap (48+a0))∧(IntKind.u8.wrap (48+a0))<256 then
     if ([UInt8.ofNat (IntKind.u8.wrap (48+a0)).toNat])≠[] then
      some ([UInt8.ofNat (IntKind.u8.wrap (48+a0)).toNat])
     else none
    else none
   else none
  else
   (R.f_R_Digits (IntKind.i64.wrap (a0.tdiv 10))).bind fun (r3:(List UInt8))=>
   (R.f_R_Digits (a0.tmod 10)).bind fun (r5:(List UInt8))=>
   if r3.length+r5.length≤4611686018427387904 then
    some (r3++r5)
   else none
theorem CX(hR:yX R)(a0:Int)(r:(List UInt8))(h:lr R a0=some r):vW a0 r:=
 aH G39 (.or (bt<|.or (bt<|ao (.i (-a0))<|.ex fun (r4:(List UInt8))=>ao (.v (.s r4))<|ao (.s ([45]++r4))<|.nil) (bf<|ao (.i (IntKind.i64.wrap (a0.tdiv 10)))<|ao (.i (-(IntKind.i64.wrap (a0.tdiv 10))))<|.ex fun (r4:(List UInt8))=>ao (.v (.s r4))<|ao (.s ([45]++r4))<|ao (.i (a0.tmod 10))<|ao (.i (-(a0.tmod 10)))<|.ex fun (r8:(List UInt8))=>ao (.v (.s r8))<|ao (.s (([45]++r4)++r8))<|.nil)) (bf<|.or (bt<|ao (.i (48+a0))<|ao (.i (IntKind.u8.wrap (48+a0)))<|ao (.l (([UInt8.ofNat (IntKind.u8.wrap (48+a0)).toNat]).map af))<|ao (.s ([UInt8.ofNat (IntKind.u8.wrap (48+a0)).toNat]))<|.nil) (bf<|ao (.i (IntKind.i64.wrap (a0.tdiv 10)))<|.ex fun (r3:(List UInt8))=>ao (.v (.s r3))<|ao (.i (a0.tmod 10))<|.ex fun (r5:(List UInt8))=>ao (.v (.s r5))<|ao (.s (r3++r5))<|.nil))) fun L=>bu h (fun h1 h=>ai (decide_eq_true h1)<|bu h (fun h2 h=>ai (decide_eq_true h2)<|aj h fun h3 h=>ai h3<|aw h (hR.f_R_Digits (-a0)) fun r4 h=>aj h fun h6 h=>ai h6<|ai (rfl:[45]++r4=[45]++r4)<|L h) (fun h2 h=>ai (decide_eq_false h2)<|ai ((by decide):(10:Int)≠0)<|ai (rfl:IntKind.i64.wrap (a0.tdiv 10)=IntKind.i64.wrap (a0.tdiv 10))<|aj h fun h3 h=>ai h3<|aw h (hR.f_R_Digits (-(IntKind.i64.wrap (a0.tdiv 10)))) fun r4 h=>aj h fun h6 h=>ai h6<|ai (rfl:[45]++r4=[45]++r4)<|ai ((by decide):(10:Int)≠0)<|ai (rfl:a0.tmod 10=a0.tmod 10)<|aj h fun h7 h=>ai h7<|aw h (hR.f_R_Digits (-(a0.tmod 10))) fun r8 h=>aj h fun h10 h=>ai h10<|ai (rfl:([45]++r4)++r8=([45]++r4)++r8)<|L h)) (fun h1 h=>ai (decide_eq_false h1)<|bu h (fun h2 h=>ai (decide_eq_true h2)<|aj h fun w3 h=>ai w3<|ai (rfl:IntKind.u8.wrap (48+a0)=IntKind.u8.wrap (48+a0))<|aj h fun h4 h=>ai ((H9 h4 rfl):[(.i .u8 (IntKind.u8.wrap (48+a0)))]=([UInt8.ofNat (IntKind.u8.wrap (48+a0)).toNat]).map af)<|aj h fun h5 h=>ai ((ux ([UInt8.ofNat (IntKind.u8.wrap (48+a0)).toNat])):bytesOf (([UInt8.ofNat (IntKind.u8.wrap (48+a0)).toNat]).map af)=some ([UInt8.ofNat (IntKind.u8.wrap (48+a0)).toNat]))<|ai h5<|L h) (fun h2 h=>ai (decide_eq_false h2)<|ai ((by decide):(10:Int)≠0)<|ai (rfl:IntKind.i64.wrap (a0.tdiv 10)=IntKind.i64.wrap (a0.tdiv 10))<|aw h (hR.f_R_Digits (IntKind.i64.wrap (a0.tdiv 10))) fun r3 h=>ai ((by decide):(10:Int)≠0)<|ai (rfl:a0.tmod 10=a0.tmod 10)<|aw h (hR.f_R_Digits (a0.tmod 10)) fun r5 h=>aj h fun h7 h=>ai h7<|ai (rfl:r3++r5=r3++r5)<|L h))
def nr:Nat→vX
 | 0=>⟨fun z0=>none⟩
 | n+1=>⟨lr (nr n)⟩
theorem yY:∀ n,yX (nr n)
 | 0=>⟨fun _ r h=>(by cases h)⟩
 | n+1=>⟨fun a0 r h=>CX _ (yY n) a0 r h⟩
def vY:Option (List UInt8):=ev fun n=>(nr n).f_R_Digits a0
theorem En(r:(List UInt8))(h:vY a0=some r):vW a0 r:=by
 obtain ⟨n,hn⟩:=iD h
 exact (yY n).f_R_Digits a0 r hn
end
section
variable (a0:ad)
abbrev FZ(a0:ad)(r:(List UInt8)):aZ×HP:=(.ret (.s r),H0)
abbrev s9(r:(List UInt8)):Prop:=call G Ω0 E0 18 [(.a (aY a0))] H0=some (FZ a0 r)
end
structure ta where
 f_R_ExprText:ad→Option (List UInt8)
structure wK(R:ta):Prop where
 f_R_ExprText:∀ (a0:ad)(r:(List UInt8)),R.f_R_ExprText a0=some r→s9 a0 r
section
variable (R:ta)(a0:ad)
def oG:Option (List UInt8):=
 if (a0.Kind==1)=true then
  (vY a0.N).bind fun (r2:(List UInt8))=>
  some r2
 else
  if (a0.Kind==2)=true then
   some a0.Name
  else
   (dG a0.Kind).bind fun (j3:Nat)=>
   (([([]:List UInt8),([]:List UInt8),([]:List UInt8),[43],[45],[42],[60],[61,61]])[j3]?).bind fun (y5:(List UInt8))=>
   (a0.Args[0]?).bind fun (y7:ad)=>
   (R.f_R_ExprText y7).bind fun (r9:(List UInt8))=>
   if [40].length+r9.length≤4611686018427387904 then
    if ([40]++r9).length + [32].length≤4611686018427387904 then
     if (([40]++r9)++[32]).length+y5.length≤4611686018427387904 then
      if ((([40]++r9)++[32])++y5).length + [32].length≤4611686018427387904 then
       (a0.Args[1]?).bind fun (y15:ad)=>
       (R.f_R_ExprText y15).bind fun (r17:(List UInt8))=>
       if (((([40]++r9)++[32])++y5)++[32]).length+r17.length≤4611686018427387904 then
        if ((((([40]++r9)++[32])++y5)++[32])++r17).length + [41].length≤4611686018427387904 then
         some (((((([40]++r9)++[32])++y5)++[32])++r17)++[41])
        else none
       else none
      else none
     else none
    else none
   else none
theorem zF(hR:wK R)(a0:ad)(r:(List UInt8))(h:oG R a0=some r):s9 a0 r:=
 aH Z3 (bt<|.or (cu<|.ex fun (r2:(List UInt8))=>ao (.v (.s r2))<|.nil) (bf<|.or (cu<|.nil) (bf<|ao (.l (([([]:List UInt8),([]:List UInt8),([]:List UInt8),[43],[45],[42],[60],[61,61]]).map AV.s))<|bt<|xN fun j3=>.ex fun (y5:(List UInt8))=>ao (.v (.s y5))<|bt<|ao (.n 0)<|.ex fun (y7:ad)=>ao (.v (.a (aY y7)))<|.ex fun (r9:(List UInt8))=>ao (.v (.s r9))<|ao (.s ([40]++r9))<|ao (.s (([40]++r9)++[32]))<|ao (.s ((([40]++r9)++[32])++y5))<|ao (.s (((([40]++r9)++[32])++y5)++[32]))<|bt<|ao (.n 1)<|.ex fun (y15:ad)=>ao (.v (.a (aY y15)))<|.ex fun (r17:(List UInt8))=>ao (.v (.s r17))<|ao (.s ((((([40]++r9)++[32])++y5)++[32])++r17))<|ao (.s (((((([40]++r9)++[32])++y5)++[32])++r17)++[41]))<|.nil))) fun L=>od<|aJ h (fun h1 h=>fO h1<|aw h (En a0.N) fun r2 h=>L h) (fun h1 h=>ai h1<|aJ h (fun h2 h=>fO h2<|L h) (fun h2 h=>ai h2<|ai (rfl:[(.s ([]:List UInt8)),(.s ([]:List UInt8)),(.s ([]:List UInt8)),(.s [43]),(.s [45]),(.s [42]),(.s [60]),(.s ([61,61]))]=([([]:List UInt8),([]:List UInt8),([]:List UInt8),[43],[45],[42],[60],[61,61]]).map AV.s)<|ai (rfl:Z0)<|lB h fun j3 h4 h=>ai h4<|br h fun y5 h6 h=>ai (cj AV.s h6)<|oO<|ai (rI 0)<|br h fun y7 h8 h=>ai (cX av h8 (b9 _))<|ai tt<|ai tt<|aw h (hR.f_R_ExprText y7) fun r9 h=>ai tt<|aj h fun h11 h=>ai h11<|ai (rfl:[40]++r9=[40]++r9)<|ai tt<|aj h fun h12 h=>ai h12<|ai (rfl:([40]++r9)++[32]=([40]++r9)++[32])<|ai tt<|ai tt<|aj h fun h13 h=>ai h13<|ai (rfl:(([40]++r9)++[32])++y5=(([40]++r9)++[32])++y5)<|ai tt<|aj h fun h14 h=>ai h14<|ai (rfl:((([40]++r9)++[32])++y5)++[32]=((([40]++r9)++[32])++y5)++[32])<|oO<|ai (rI 1)<|br h fun y15 h16 h=>ai (cX av h16 (b9 _))<|ai tt<|ai tt<|aw h (hR.f_R_ExprText y15) fun r17 h=>ai tt<|aj h fun h19 h=>ai h19<|ai (rfl:(((([40]++r9)++[32])++y5)++[32])++r17=(((([40]++r9)++[32])++y5)++[32])++r17)<|aj h fun h20 h=>ai h20<|ai (rfl:((((([40]++r9)++[32])++y5)++[32])++r17)++[41]=((((([40]++r9)++[32])++y5)++[32])++r17)++[41])<|L h))
def mi:Nat→ta
 | 0=>⟨fun z0=>none⟩
 | n+1=>⟨oG (mi n)⟩
theorem wL:∀ n,wK (mi n)
 | 0=>⟨fun _ r h=>(by cases h)⟩
 | n+1=>⟨fun a0 r h=>zF _ (wL n) a0 r h⟩
def mj:Option (List UInt8):=ev fun n=>(mi n).f_R_ExprText a0
theorem p5(r:(List UInt8))(h:mj a0=some r):s9 a0 r:=by
 obtain ⟨n,hn⟩:=iD h
 exact (wL n).f_R_ExprText a0 r hn
end
section
variable (a0:(List aa))(a1:(List UInt8))
abbrev Eo(a0:(List aa))(a1:(List UInt8))(r:(List UInt8)):aZ×HP:=(.ret (.s r),H0)
abbrev rF(r:(List UInt8)):Prop:=call G Ω0 E0 17 [(.l 68 (a0.map ab)),(.s a1)] H0=some (Eo a0 a1 r)
end
structure jD where
 f_R_StmtsText:(List aa)→(List UInt8)→Option (List UInt8)
structure iP(R:jD):Prop where
 f_R_StmtsText:∀ (a0:(List aa))(a1:(List UInt8))(r:(List UInt8)),R.f_R_StmtsText a0 a1=some r→rF a0 a1 r
section
variable (R:jD)(a0:(List aa))(a1:(List UInt8))
def eu(R:jD)(a0:(List aa))(a1:(List UInt8))(v0_5:(List UInt8))(v0_6:Nat)(y2:aa)(v1_9:(List (List UInt8)))(v1_10:Nat):Option (((List (List UInt8))×Nat)⊕((List (List UInt8))×Nat×Bool)):=
 if (v1_10:Int)<(y2.Args.length:Int) then
  (y2.Args[v1_10]?).bind fun (y12:ad)=>
  (mj y12).bind fun (r14:(List UInt8))=>
  if v1_9.length + [r14].length≤1000000000 then
   if IntKind.i64.wrap ((v1_10:Int)+1)=((v1_10+1:Nat):Int) then
    some (.inl (v1_9++[r14],v1_10+1))
   else none
  else none
 else
  some (.inr (v1_9,v1_10,decide ((v1_10:Int)<(y2.Args.length:Int))))
abbrev A6(v0_5:(List UInt8))(v0_6:Nat)(y2:aa)(v:((List (List UInt8))×Nat)):St:=⟨[(0,(.l 68 (a0.map ab))),(1,(.s a1)),(5,(.s v0_5)),(6,(I (v0_6:Int))),(7,(.p ⟨0,7⟩ 0)),(9,(.o 9 (v.1.map AV.s))),(10,(I (v.2:Int)))],[(7,(ag y2))],H0⟩
abbrev A7(v0_5:(List UInt8))(v0_6:Nat)(y2:aa)(x:((List (List UInt8))×Nat×Bool)):aK×St:=((.ex 3),⟨[(0,(.l 68 (a0.map ab))),(1,(.s a1)),(5,(.s v0_5)),(6,(I (v0_6:Int))),(7,(.p ⟨0,7⟩ 0)),(9,(.o 9 (x.1.map AV.s))),(10,(I (x.2.1:Int))),(48,(.b x.2.2))],[(7,(ag y2))],H0⟩)
theorem zG(hR:iP R)(a0:(List aa))(a1:(List UInt8))(v0_5:(List UInt8))(v0_6:Nat)(y2:aa)(v1_9:(List (List UInt8)))(v1_10:Nat)(o:((List (List UInt8))×Nat)⊕((List (List UInt8))×Nat×Bool))(h:eu R a0 a1 v0_5 v0_6 y2 v1_9 v1_10=some o):bH E0 LQ (A6 a0 a1 v0_5 v0_6 y2) (A7 a0 a1 v0_5 v0_6 y2) (v1_9,v1_10) o:=
 bV (bt<|ao (.i (y2.Args.length:Int))<|.or (cu<|ao (.n v1_10)<|.ex fun (y12:ad)=>ao (.v (.a (aY y12)))<|.ex fun (r14:(List UInt8))=>ao (.v (.s r14))<|ao (.l ([r14].map AV.s))<|ao (.l ((v1_9++[r14]).map AV.s))<|ao (.i ((v1_10+1:Nat):Int))<|.nil) (bf<|.nil)) fun L=>ai (rfl:Z0)<|ai (aO av y2.Args)<|bu h (fun h11 h=>fO (decide_eq_true h11)<|ai (rI v1_10)<|br h fun y12 h13 h=>ai (cX av h13 (b9 _))<|aw h (p5 y12) fun r14 h=>ai (rfl:[(.s r14)]=[r14].map AV.s)<|ai ff<|aj h fun h16 h=>ai ((Am AV.s (n:=1) (fun _=>rfl) [r14]):([r14].map AV.s).all (fun e=>e.nc==1)=true)<|ai ((Ez h16 (by decide)):((v1_9.map AV.s).length+([r14].map AV.s).length)*16≤140737488355328)<|ai ((EA h16):(v1_9.map AV.s).length+([r14].map AV.s).length≤maxLen)<|ai (List.map_append.symm:v1_9.map AV.s++[r14].map AV.s=(v1_9++[r14]).map AV.s)<|aj h fun w17 h=>ai w17<|L h) (fun h11 h=>ai (decide_eq_false h11)<|L h)
def kX(R:jD)(a0:(List aa))(a1:(List UInt8))(v0_6:Nat)(w4_1:(List UInt8)):Option (List UInt8):=
 if a1.length+([125,10]).length≤4611686018427387904 then
  if w4_1.length+(a1++([125,10])).length≤4611686018427387904 then
   some (w4_1++(a1++([125,10])))
  else none
 else none
abbrev zH(v0_6:Nat)(w4_1:(List UInt8))(x:(List UInt8)):aK×St:=(.nrm,⟨[(0,(.l 68 (a0.map ab))),(1,(.s a1)),(5,(.s x)),(6,(I (v0_6:Int)))],[],H0⟩)
theorem rR(hR:iP R)(a0:(List aa))(a1:(List UInt8))(v0_6:Nat)(w4_1:(List UInt8))(x:(List UInt8))(h:kX R a0 a1 v0_6 w4_1=some x):run G Ω0 E0 LR ⟨[(0,(.l 68 (a0.map ab))),(1,(.s a1)),(5,(.s w4_1)),(6,(I (v0_6:Int)))],[],H0⟩=some (zH a0 a1 v0_6 w4_1 x):=
 fP (ao (.s (a1++([125,10])))<|ao (.s (w4_1++(a1++([125,10]))))<|.nil) fun L=>aj h fun h30 h=>ai h30<|ai (rfl:a1++([125,10])=a1++([125,10]))<|aj h fun h31 h=>ai h31<|ai (rfl:w4_1++(a1++([125,10]))=w4_1++(a1++([125,10])))<|L h
def jd(v0_5:(List UInt8))(v0_6:Nat)(y2:aa)(w1_1:(List UInt8)):Option ((List UInt8)⊕(Unit⊕(List UInt8))):=
 if (y2.Kind==1)=true then
  if a1.length+y2.Name.length≤4611686018427387904 then
   if (a1++y2.Name).length+([32,61,32]).length≤4611686018427387904 then
    if ((a1++y2.Name)++([32,61,32])).length+w1_1.length≤4611686018427387904 then
     if (((a1++y2.Name)++([32,61,32]))++w1_1).length+([59,10]).length≤4611686018427387904 then
      if v0_5.length+((((a1++y2.Name)++([32,61,32]))++w1_1)++([59,10])).length≤4611686018427387904 then
       some (.inl (v0_5++((((a1++y2.Name)++([32,61,32]))++w1_1)++([59,10]))))
      else none
     else none
    else none
   else none
  else none
 else
  if (y2.Kind==2)=true then
   (lp (fun v=>eu R a0 a1 v0_5 v0_6 y2 v.1 v.2) (([]:List (List UInt8)),0)).bind fun (x11:((List (List UInt8))×Nat×Bool))=>
   if a1.length+y2.Name.length≤4611686018427387904 then
    if (a1++y2.Name).length+([32,61,32]).length≤4611686018427387904 then
     if ((a1++y2.Name)++([32,61,32])).length+y2.Other.length≤4611686018427387904 then
      if (((a1++y2.Name)++([32,61,32]))++y2.Other).length + [40].length≤4611686018427387904 then
       (kW x11.1).bind fun (r17:(List UInt8))=>
       if ((((a1++y2.Name)++([32,61,32]))++y2.Other)++[40]).length+r17.length≤4611686018427387904 then
        if (((((a1++y2.Name)++([32,61,32]))++y2.Other)++[40])++r17).length+([41,59,10]).length≤4611686018427387904 then
         if v0_5.length+((((((a1++y2.Name)++([32,61,32]))++y2.Other)++[40])++r17)++([41,59,10])).length≤4611686018427387904 then
          some (.inl (v0_5++((((((a1++y2.Name)++([32,61,32]))++y2.Other)++[40])++r17)++([41,59,10]))))
         else none
        else none
       else none
      else none
     else none
    else none
   else none
  else
   if (y2.Kind==3)=true then
    if a1.length+([103,101,116,32]).length≤4611686018427387904 then
     if (a1++([103,101,116,32])).length+y2.Name.length≤4611686018427387904 then
      if ((a1++([103,101,116,32]))++y2.Name).length + [32].length≤4611686018427387904 then
       if (((a1++([103,101,116,32]))++y2.Name)++[32]).length+y2.Other.length≤4611686018427387904 then
        if ((((a1++([103,101,116,32]))++y2.Name)++[32])++y2.Other).length+([59,10]).length≤4611686018427387904 then
         if v0_5.length+(((((a1++([103,101,116,32]))++y2.Name)++[32])++y2.Other)++([59,10])).length≤4611686018427387904 then
          some (.inr (.inl ()))
         else none
        else none
       else none
      else none
     else none
    else none
   else
    if (y2.Kind==4)=true then
     if a1.length+([112,117,116,32]).length≤4611686018427387904 then
      if (a1++([112,117,116,32])).length+y2.Other.length≤4611686018427387904 then
       if ((a1++([112,117,116,32]))++y2.Other).length + [32].length≤4611686018427387904 then
        if (((a1++([112,117,116,32]))++y2.Other)++[32]).length+w1_1.length≤4611686018427387904 then
         if ((((a1++([112,117,116,32]))++y2.Other)++[32])++w1_1).length+([59,10]).length≤4611686018427387904 then
          if v0_5.length+(((((a1++([112,117,116,32]))++y2.Other)++[32])++w1_1)++([59,10])).length≤4611686018427387904 then
           some (.inl (v0_5++(((((a1++([112,117,116,32]))++y2.Other)++[32])++w1_1)++([59,10]))))
          else none
         else none
        else none
       else none
      else none
     else none
    else
     if (y2.Kind==5)=true then
      if a1.length+([114,101,118,101,97,108,32]).length≤4611686018427387904 then
       if (a1++([114,101,118,101,97,108,32])).length+y2.Name.length≤4611686018427387904 then
        if ((a1++([114,101,118,101,97,108,32]))++y2.Name).length + [32].length≤4611686018427387904 then
         if (((a1++([114,101,118,101,97,108,32]))++y2.Name)++[32]).length+w1_1.length≤4611686018427387904 then
          if ((((a1++([114,101,118,101,97,108,32]))++y2.Name)++[32])++w1_1).length+([59,10]).length≤4611686018427387904 then
           if v0_5.length+(((((a1++([114,101,118,101,97,108,32]))++y2.Name)++[32])++w1_1)++([59,10])).length≤4611686018427387904 then
            some (.inl (v0_5++(((((a1++([114,101,118,101,97,108,32]))++y2.Name)++[32])++w1_1)++([59,10]))))
           else none
          else none
         else none
        else none
       else none
      else none
     else
      if (y2.Kind==6)=true then
       if a1.length+([116,114,117,115,116,32]).length≤4611686018427387904 then
        if (a1++([116,114,117,115,116,32])).length+y2.Name.length≤4611686018427387904 then
         if ((a1++([116,114,117,115,116,32]))++y2.Name).length + [32].length≤4611686018427387904 then
          if (((a1++([116,114,117,115,116,32]))++y2.Name)++[32]).length+w1_1.length≤4611686018427387904 then
           if ((((a1++([116,114,117,115,116,32]))++y2.Name)++[32])++w1_1).length+([59,10]).length≤4611686018427387904 then
            if v0_5.length+(((((a1++([116,114,117,115,116,32]))++y2.Name)++[32])++w1_1)++([59,10])).length≤4611686018427387904 then
             some (.inl (v0_5++(((((a1++([116,114,117,115,116,32]))++y2.Name)++[32])++w1_1)++([59,10]))))
            else none
           else none
          else none
         else none
        else none
       else none
      else
       if (y2.Kind==7)=true then
        if a1.length+([105,102,32]).length≤4611686018427387904 then
         if (a1++([105,102,32])).length+w1_1.length≤4611686018427387904 then
          if ((a1++([105,102,32]))++w1_1).length+([32,123,10]).length≤4611686018427387904 then
           if a1.length+([32,32]).length≤4611686018427387904 then
            (R.f_R_StmtsText y2.Then (a1++([32,32]))).bind fun (r20:(List UInt8))=>
            if (((a1++([105,102,32]))++w1_1)++([32,123,10])).length+r20.length≤4611686018427387904 then
             if v0_5.length+((((a1++([105,102,32]))++w1_1)++([32,123,10]))++r20).length≤4611686018427387904 then
              if 0<(y2.Else.length:Int) then
               if a1.length+([125,32,101,108,115,101,32,123,10]).length≤4611686018427387904 then
                (R.f_R_StmtsText y2.Else (a1++([32,32]))).bind fun (r26:(List UInt8))=>
                if (a1++([125,32,101,108,115,101,32,123,10])).length+r26.length≤4611686018427387904 then
                 if (v0_5++((((a1++([105,102,32]))++w1_1)++([32,123,10]))++r20)).length+((a1++([125,32,101,108,115,101,32,123,10]))++r26).length≤4611686018427387904 then
                  (kX R a0 a1 v0_6 ((v0_5++((((a1++([105,102,32]))++w1_1)++([32,123,10]))++r20))++((a1++([125,32,101,108,115,101,32,123,10]))++r26))).bind fun (x30:(List UInt8))=>
                  some (.inl x30)
                 else none
                else none
               else none
              else
               (kX R a0 a1 v0_6 (v0_5++((((a1++([105,102,32]))++w1_1)++([32,123,10]))++r20))).bind fun (x25:(List UInt8))=>
               some (.inl x25)
             else none
            else none
           else none
          else none
         else none
        else none
       else
        if (y2.Kind==8)=true then
         if a1.length+([119,104,105,108,101,32]).length≤4611686018427387904 then
          if (a1++([119,104,105,108,101,32])).length+w1_1.length≤4611686018427387904 then
           if ((a1++([119,104,105,108,101,32]))++w1_1).length+([32,123,10]).length≤4611686018427387904 then
            if a1.length+([32,32]).length≤4611686018427387904 then
             (R.f_R_StmtsText y2.Then (a1++([32,32]))).bind fun (r21:(List UInt8))=>
             if (((a1++([119,104,105,108,101,32]))++w1_1)++([32,123,10])).length+r21.length≤4611686018427387904 then
              if ((((a1++([119,104,105,108,101,32]))++w1_1)++([32,123,10]))++r21).length+a1.length≤4611686018427387904 then
               if (((((a1++([119,104,105,108,101,32]))++w1_1)++([32,123,10]))++r21)++a1).length+([125,10]).length≤4611686018427387904 then
                if v0_5.length+((((((a1++([119,104,105,108,101,32]))++w1_1)++([32,123,10]))++r21)++a1)++([125,10])).length≤4611686018427387904 then
                 some (.inl (v0_5++((((((a1++([119,104,105,108,101,32]))++w1_1)++([32,123,10]))++r21)++a1)++([125,10]))))
                else none
               else none
              else none
             else none
            else none
           else none
          else none
         else none
        else
         some (.inr (.inr w1_1))
abbrev zI(v0_5:(List UInt8))(v0_6:Nat)(y2:aa)(w1_1:(List UInt8))(x:((List UInt8)⊕(Unit⊕(List UInt8)))):aK×St:=match x with | .inl z1=>(.nrm,⟨[(0,(.l 68 (a0.map ab))),(1,(.s a1)),(5,(.s z1)),(6,(I (v0_6:Int)))],[],H0⟩) | .inr (.inl ())=>(.nrm,⟨[(0,(.l 68 (a0.map ab))),(1,(.s a1)),(5,(.s (v0_5++(((((a1++([103,101,116,32]))++y2.Name)++[32])++y2.Other)++([59,10]))))),(6,(I (v0_6:Int)))],[],H0⟩) | .inr (.inr z1)=>(.nrm,⟨[(0,(.l 68 (a0.map ab))),(1,(.s a1)),(5,(.s v0_5)),(6,(I (v0_6:Int))),(7,(.p ⟨0,7⟩ 0)),(8,(.s z1)),(161,(.b (y2.Kind==8)))],[(7,(ag y2))],H0⟩)
theorem rS(hR:iP R)(a0:(List aa))(a1:(List UInt8))(v0_5:(List UInt8))(v0_6:Nat)(y2:aa)(w1_1:(List UInt8))(x:((List UInt8)⊕(Unit⊕(List UInt8))))(h:jd R a0 a1 v0_5 v0_6 y2 w1_1=some x):run G Ω0 E0 LS ⟨[(0,(.l 68 (a0.map ab))),(1,(.s a1)),(5,(.s v0_5)),(6,(I (v0_6:Int))),(7,(.p ⟨0,7⟩ 0)),(8,(.s w1_1))],[(7,(ag y2))],H0⟩=some (zI a0 a1 v0_5 v0_6 y2 w1_1 x):=
 fP (bt<|.or (cu<|ao (.s (a1++y2.Name))<|ao (.s ((a1++y2.Name)++([32,61,32])))<|ao (.s (((a1++y2.Name)++([32,61,32]))++w1_1))<|ao (.s ((((a1++y2.Name)++([32,61,32]))++w1_1)++([59,10])))<|ao (.s (v0_5++((((a1++y2.Name)++([32,61,32]))++w1_1)++([59,10]))))<|.nil) (bf<|.or (bt<|.ex fun (x11:((List (List UInt8))×Nat×Bool))=>ao (.lp (.ex 3) ⟨[(0,(.l 68 (a0.map ab))),(1,(.s a1)),(5,(.s v0_5)),(6,(I (v0_6:Int))),(7,(.p ⟨0,7⟩ 0)),(9,(.o 9 (x11.1.map AV.s))),(10,(I (x11.2.1:Int))),(48,(.b x11.2.2))],[(7,(ag y2))],H0⟩)<|bt<|ao (.s (a1++y2.Name))<|ao (.s ((a1++y2.Name)++([32,61,32])))<|bt<|ao (.s (((a1++y2.Name)++([32,61,32]))++y2.Other))<|ao (.s ((((a1++y2.Name)++([32,61,32]))++y2.Other)++[40]))<|.ex fun (r17:(List UInt8))=>ao (.v (.s r17))<|ao (.s (((((a1++y2.Name)++([32,61,32]))++y2.Other)++[40])++r17))<|ao (.s ((((((a1++y2.Name)++([32,61,32]))++y2.Other)++[40])++r17)++([41,59,10])))<|ao (.s (v0_5++((((((a1++y2.Name)++([32,61,32]))++y2.Other)++[40])++r17)++([41,59,10]))))<|.nil) (bf<|.or (bt<|ao (.s (a1++([103,101,116,32])))<|bt<|ao (.s ((a1++([103,101,116,32]))++y2.Name))<|ao (.s (((a1++([103,101,116,32]))++y2.Name)++[32]))<|bt<|ao (.s ((((a1++([103,101,116,32]))++y2.Name)++[32])++y2.Other))<|ao (.s (((((a1++([103,101,116,32]))++y2.Name)++[32])++y2.Other)++([59,10])))<|ao (.s (v0_5++(((((a1++([103,101,116,32]))++y2.Name)++[32])++y2.Other)++([59,10]))))<|.nil) (bf<|.or (bt<|ao (.s (a1++([112,117,116,32])))<|bt<|ao (.s ((a1++([112,117,116,32]))++y2.Other))<|ao (.s (((a1++([112,117,116,32]))++y2.Other)++[32]))<|ao (.s ((((a1++([112,117,116,32]))++y2.Other)++[32])++w1_1))<|ao (.s (((((a1++([112,117,116,32]))++y2.Other)++[32])++w1_1)++([59,10])))<|ao (.s (v0_5++(((((a1++([112,117,116,32]))++y2.Other)++[32])++w1_1)++([59,10]))))<|.nil) (bf<|.or (bt<|ao (.s (a1++([114,101,118,101,97,108,32])))<|bt<|ao (.s ((a1++([114,101,118,101,97,108,32]))++y2.Name))<|ao (.s (((a1++([114,101,118,101,97,108,32]))++y2.Name)++[32]))<|ao (.s ((((a1++([114,101,118,101,97,108,32]))++y2.Name)++[32])++w1_1))<|ao (.s (((((a1++([114,101,118,101,97,108,32]))++y2.Name)++[32])++w1_1)++([59,10])))<|ao (.s (v0_5++(((((a1++([114,101,118,101,97,108,32]))++y2.Name)++[32])++w1_1)++([59,10]))))<|.nil) (bf<|.or (bt<|ao (.s (a1++([116,114,117,115,116,32])))<|bt<|ao (.s ((a1++([116,114,117,115,116,32]))++y2.Name))<|ao (.s (((a1++([116,114,117,115,116,32]))++y2.Name)++[32]))<|ao (.s ((((a1++([116,114,117,115,116,32]))++y2.Name)++[32])++w1_1))<|ao (.s (((((a1++([116,114,117,115,116,32]))++y2.Name)++[32])++w1_1)++([59,10])))<|ao (.s (v0_5++(((((a1++([116,114,117,115,116,32]))++y2.Name)++[32])++w1_1)++([59,10]))))<|.nil) (bf<|.or (bt<|ao (.s (a1++([105,102,32])))<|ao (.s ((a1++([105,102,32]))++w1_1))<|ao (.s (((a1++([105,102,32]))++w1_1)++([32,123,10])))<|bt<|ao (.s (a1++([32,32])))<|.ex fun (r20:(List UInt8))=>ao (.v (.s r20))<|ao (.s ((((a1++([105,102,32]))++w1_1)++([32,123,10]))++r20))<|ao (.s (v0_5++((((a1++([105,102,32]))++w1_1)++([32,123,10]))++r20)))<|bt<|ao (.i (y2.Else.length:Int))<|.or (bt<|ao (.s (a1++([125,32,101,108,115,101,32,123,10])))<|bt<|ao (.s (a1++([32,32])))<|.ex fun (r26:(List UInt8))=>ao (.v (.s r26))<|ao (.s ((a1++([125,32,101,108,115,101,32,123,10]))++r26))<|ao (.s ((v0_5++((((a1++([105,102,32]))++w1_1)++([32,123,10]))++r20))++((a1++([125,32,101,108,115,101,32,123,10]))++r26)))<|.fb<|.ex fun (x30:(List UInt8))=>ao (.fr .nrm ⟨[(0,(.l 68 (a0.map ab))),(1,(.s a1)),(5,(.s x30)),(6,(I (v0_6:Int)))],[],H0⟩)<|.nil) (bf<|.fb<|.ex fun (x25:(List UInt8))=>ao (.fr .nrm ⟨[(0,(.l 68 (a0.map ab))),(1,(.s a1)),(5,(.s x25)),(6,(I (v0_6:Int)))],[],H0⟩)<|.nil)) (bf<|.or (bt<|ao (.s (a1++([119,104,105,108,101,32])))<|ao (.s ((a1++([119,104,105,108,101,32]))++w1_1))<|ao (.s (((a1++([119,104,105,108,101,32]))++w1_1)++([32,123,10])))<|bt<|ao (.s (a1++([32,32])))<|.ex fun (r21:(List UInt8))=>ao (.v (.s r21))<|ao (.s ((((a1++([119,104,105,108,101,32]))++w1_1)++([32,123,10]))++r21))<|ao (.s (((((a1++([119,104,105,108,101,32]))++w1_1)++([32,123,10]))++r21)++a1))<|ao (.s ((((((a1++([119,104,105,108,101,32]))++w1_1)++([32,123,10]))++r21)++a1)++([125,10])))<|ao (.s (v0_5++((((((a1++([119,104,105,108,101,32]))++w1_1)++([32,123,10]))++r21)++a1)++([125,10]))))<|.nil) (bf<|.nil))))))))) fun L=>ai (rfl:Z0)<|aJ h (fun h9 h=>fO h9<|aj h fun h10 h=>ai h10<|ai (rfl:a1++y2.Name=a1++y2.Name)<|aj h fun h11 h=>ai h11<|ai (rfl:(a1++y2.Name)++([32,61,32])=(a1++y2.Name)++([32,61,32]))<|aj h fun h12 h=>ai h12<|ai (rfl:((a1++y2.Name)++([32,61,32]))++w1_1=((a1++y2.Name)++([32,61,32]))++w1_1)<|aj h fun h13 h=>ai h13<|ai (rfl:(((a1++y2.Name)++([32,61,32]))++w1_1)++([59,10])=(((a1++y2.Name)++([32,61,32]))++w1_1)++([59,10]))<|aj h fun h14 h=>ai h14<|ai (rfl:v0_5++((((a1++y2.Name)++([32,61,32]))++w1_1)++([59,10]))=v0_5++((((a1++y2.Name)++([32,61,32]))++w1_1)++([59,10])))<|L h) (fun h9 h=>ai h9<|aJ h (fun h10 h=>ai h10<|aw h (eH (fun v=>zG R hR a0 a1 v0_5 v0_6 y2 v.1 v.2) (([]:List (List UInt8)),0)) fun x11 h=>ai tt<|ai tt<|ai tt<|ai tt<|ai (rfl:Z0)<|ai tt<|aj h fun h13 h=>ai h13<|ai (rfl:a1++y2.Name=a1++y2.Name)<|ai tt<|aj h fun h14 h=>ai h14<|ai (rfl:(a1++y2.Name)++([32,61,32])=(a1++y2.Name)++([32,61,32]))<|oO<|aj h fun h15 h=>ai h15<|ai (rfl:((a1++y2.Name)++([32,61,32]))++y2.Other=((a1++y2.Name)++([32,61,32]))++y2.Other)<|ai tt<|aj h fun h16 h=>ai h16<|ai (rfl:(((a1++y2.Name)++([32,61,32]))++y2.Other)++[40]=(((a1++y2.Name)++([32,61,32]))++y2.Other)++[40])<|ai tt<|ai tt<|aw h (rE x11.1) fun r17 h=>ai tt<|ai tt<|ai tt<|aj h fun h19 h=>ai h19<|ai (rfl:((((a1++y2.Name)++([32,61,32]))++y2.Other)++[40])++r17=((((a1++y2.Name)++([32,61,32]))++y2.Other)++[40])++r17)<|ai tt<|aj h fun h20 h=>ai h20<|ai (rfl:(((((a1++y2.Name)++([32,61,32]))++y2.Other)++[40])++r17)++([41,59,10])=(((((a1++y2.Name)++([32,61,32]))++y2.Other)++[40])++r17)++([41,59,10]))<|ai tt<|aj h fun h21 h=>ai h21<|ai (rfl:v0_5++((((((a1++y2.Name)++([32,61,32]))++y2.Other)++[40])++r17)++([41,59,10]))=v0_5++((((((a1++y2.Name)++([32,61,32]))++y2.Other)++[40])++r17)++([41,59,10])))<|L h) (fun h10 h=>ai h10<|aJ h (fun h11 h=>ai h11<|aj h fun h12 h=>ai h12<|ai (rfl:a1++([103,101,116,32])=a1++([103,101,116,32]))<|ai (rfl:Z0)<|aj h fun h13 h=>ai h13<|ai (rfl:(a1++([103,101,116,32]))++y2.Name=(a1++([103,101,116,32]))++y2.Name)<|aj h fun h14 h=>ai h14<|ai (rfl:((a1++([103,101,116,32]))++y2.Name)++[32]=((a1++([103,101,116,32]))++y2.Name)++[32])<|ai (rfl:Z0)<|aj h fun h15 h=>ai h15<|ai (rfl:(((a1++([103,101,116,32]))++y2.Name)++[32])++y2.Other=(((a1++([103,101,116,32]))++y2.Name)++[32])++y2.Other)<|aj h fun h16 h=>ai h16<|ai (rfl:((((a1++([103,101,116,32]))++y2.Name)++[32])++y2.Other)++([59,10])=((((a1++([103,101,116,32]))++y2.Name)++[32])++y2.Other)++([59,10]))<|aj h fun h17 h=>ai h17<|ai (rfl:v0_5++(((((a1++([103,101,116,32]))++y2.Name)++[32])++y2.Other)++([59,10]))=v0_5++(((((a1++([103,101,116,32]))++y2.Name)++[32])++y2.Other)++([59,10])))<|L h) (fun h11 h=>ai h11<|aJ h (fun h12 h=>ai h12<|aj h fun h13 h=>ai h13<|ai (rfl:a1++([112,117,116,32])=a1++([112,117,116,32]))<|ai (rfl:Z0)<|aj h fun h14 h=>ai h14<|ai (rfl:(a1++([112,117,116,32]))++y2.Other=(a1++([112,117,116,32]))++y2.Other)<|aj h fun h15 h=>ai h15<|ai (rfl:((a1++([112,117,116,32]))++y2.Other)++[32]=((a1++([112,117,116,32]))++y2.Other)++[32])<|aj h fun h16 h=>ai h16<|ai (rfl:(((a1++([112,117,116,32]))++y2.Other)++[32])++w1_1=(((a1++([112,117,116,32]))++y2.Other)++[32])++w1_1)<|aj h fun h17 h=>ai h17<|ai (rfl:((((a1++([112,117,116,32]))++y2.Other)++[32])++w1_1)++([59,10])=((((a1++([112,117,116,32]))++y2.Other)++[32])++w1_1)++([59,10]))<|aj h fun h18 h=>ai h18<|ai (rfl:v0_5++(((((a1++([112,117,116,32]))++y2.Other)++[32])++w1_1)++([59,10]))=v0_5++(((((a1++([112,117,116,32]))++y2.Other)++[32])++w1_1)++([59,10])))<|L h) (fun h12 h=>ai h12<|aJ h (fun h13 h=>ai h13<|aj h fun h14 h=>ai h14<|ai (rfl:a1++([114,101,118,101,97,108,32])=a1++([114,101,118,101,97,108,32]))<|ai (rfl:Z0)<|aj h fun h15 h=>ai h15<|ai (rfl:(a1++([114,101,118,101,97,108,32]))++y2.Name=(a1++([114,101,118,101,97,108,32]))++y2.Name)<|aj h fun h16 h=>ai h16<|ai (rfl:((a1++([114,101,118,101,97,108,32]))++y2.Name)++[32]=((a1++([114,101,118,101,97,108,32]))++y2.Name)++[32])<|aj h fun h17 h=>ai h17<|ai (rfl:(((a1++([114,101,118,101,97,108,32]))++y2.Name)++[32])++w1_1=(((a1++([114,101,118,101,97,108,32]))++y2.Name)++[32])++w1_1)<|aj h fun h18 h=>ai h18<|ai (rfl:((((a1++([114,101,118,101,97,108,32]))++y2.Name)++[32])++w1_1)++([59,10])=((((a1++([114,101,118,101,97,108,32]))++y2.Name)++[32])++w1_1)++([59,10]))<|aj h fun h19 h=>ai h19<|ai (rfl:v0_5++(((((a1++([114,101,118,101,97,108,32]))++y2.Name)++[32])++w1_1)++([59,10]))=v0_5++(((((a1++([114,101,118,101,97,108,32]))++y2.Name)++[32])++w1_1)++([59,10])))<|L h) (fun h13 h=>ai h13<|aJ h (fun h14 h=>ai h14<|aj h fun h15 h=>ai h15<|ai (rfl:a1++([116,114,117,115,116,32])=a1++([116,114,117,115,116,32]))<|ai (rfl:Z0)<|aj h fun h16 h=>ai h16<|ai (rfl:(a1++([116,114,117,115,116,32]))++y2.Name=(a1++([116,114,117,115,116,32]))++y2.Name)<|aj h fun h17 h=>ai h17<|ai (rfl:((a1++([116,114,117,115,116,32]))++y2.Name)++[32]=((a1++([116,114,117,115,116,32]))++y2.Name)++[32])<|aj h fun h18 h=>ai h18<|ai (rfl:(((a1++([116,114,117,115,116,32]))++y2.Name)++[32])++w1_1=(((a1++([116,114,117,115,116,32]))++y2.Name)++[32])++w1_1)<|aj h fun h19 h=>ai h19<|ai (rfl:((((a1++([116,114,117,115,116,32]))++y2.Name)++[32])++w1_1)++([59,10])=((((a1++([116,114,117,115,116,32]))++y2.Name)++[32])++w1_1)++([59,10]))<|aj h fun h20 h=>ai h20<|ai (rfl:v0_5++(((((a1++([116,114,117,115,116,32]))++y2.Name)++[32])++w1_1)++([59,10]))=v0_5++(((((a1++([116,114,117,115,116,32]))++y2.Name)++[32])++w1_1)++([59,10])))<|L h) (fun h14 h=>ai h14<|aJ h (fun h15 h=>ai h15<|aj h fun h16 h=>ai h16<|ai (rfl:a1++([105,102,32])=a1++([105,102,32]))<|aj h fun h17 h=>ai h17<|ai (rfl:(a1++([105,102,32]))++w1_1=(a1++([105,102,32]))++w1_1)<|aj h fun h18 h=>ai h18<|ai (rfl:((a1++([105,102,32]))++w1_1)++([32,123,10])=((a1++([105,102,32]))++w1_1)++([32,123,10]))<|ai (rfl:Z0)<|aj h fun h19 h=>ai h19<|ai (rfl:a1++([32,32])=a1++([32,32]))<|aw h (hR.f_R_StmtsText y2.Then (a1++([32,32]))) fun r20 h=>aj h fun h22 h=>ai h22<|ai (rfl:(((a1++([105,102,32]))++w1_1)++([32,123,10]))++r20=(((a1++([105,102,32]))++w1_1)++([32,123,10]))++r20)<|aj h fun h23 h=>ai h23<|ai (rfl:v0_5++((((a1++([105,102,32]))++w1_1)++([32,123,10]))++r20)=v0_5++((((a1++([105,102,32]))++w1_1)++([32,123,10]))++r20))<|ai (rfl:Z0)<|ai (aO ab y2.Else)<|bu h (fun h24 h=>ai (decide_eq_true h24)<|aj h fun h25 h=>ai h25<|ai (rfl:a1++([125,32,101,108,115,101,32,123,10])=a1++([125,32,101,108,115,101,32,123,10]))<|ai (rfl:Z0)<|ai h19<|ai (rfl:a1++([32,32])=a1++([32,32]))<|aw h (hR.f_R_StmtsText y2.Else (a1++([32,32]))) fun r26 h=>aj h fun h28 h=>ai h28<|ai (rfl:(a1++([125,32,101,108,115,101,32,123,10]))++r26=(a1++([125,32,101,108,115,101,32,123,10]))++r26)<|aj h fun h29 h=>ai h29<|ai (rfl:(v0_5++((((a1++([105,102,32]))++w1_1)++([32,123,10]))++r20))++((a1++([125,32,101,108,115,101,32,123,10]))++r26)=(v0_5++((((a1++([105,102,32]))++w1_1)++([32,123,10]))++r20))++((a1++([125,32,101,108,115,101,32,123,10]))++r26))<|aw h (rR R hR a0 a1 v0_6 ((v0_5++((((a1++([105,102,32]))++w1_1)++([32,123,10]))++r20))++((a1++([125,32,101,108,115,101,32,123,10]))++r26))) fun x30 h=>L h) (fun h24 h=>ai (decide_eq_false h24)<|aw h (rR R hR a0 a1 v0_6 (v0_5++((((a1++([105,102,32]))++w1_1)++([32,123,10]))++r20))) fun x25 h=>L h)) (fun h15 h=>ai h15<|aJ h (fun h16 h=>ai h16<|aj h fun h17 h=>ai h17<|ai (rfl:a1++([119,104,105,108,101,32])=a1++([119,104,105,108,101,32]))<|aj h fun h18 h=>ai h18<|ai (rfl:(a1++([119,104,105,108,101,32]))++w1_1=(a1++([119,104,105,108,101,32]))++w1_1)<|aj h fun h19 h=>ai h19<|ai (rfl:((a1++([119,104,105,108,101,32]))++w1_1)++([32,123,10])=((a1++([119,104,105,108,101,32]))++w1_1)++([32,123,10]))<|ai (rfl:Z0)<|aj h fun h20 h=>ai h20<|ai (rfl:a1++([32,32])=a1++([32,32]))<|aw h (hR.f_R_StmtsText y2.Then (a1++([32,32]))) fun r21 h=>aj h fun h23 h=>ai h23<|ai (rfl:(((a1++([119,104,105,108,101,32]))++w1_1)++([32,123,10]))++r21=(((a1++([119,104,105,108,101,32]))++w1_1)++([32,123,10]))++r21)<|aj h fun h24 h=>ai h24<|ai (rfl:((((a1++([119,104,105,108,101,32]))++w1_1)++([32,123,10]))++r21)++a1=((((a1++([119,104,105,108,101,32]))++w1_1)++([32,123,10]))++r21)++a1)<|aj h fun h25 h=>ai h25<|ai (rfl:(((((a1++([119,104,105,108,101,32]))++w1_1)++([32,123,10]))++r21)++a1)++([125,10])=(((((a1++([119,104,105,108,101,32]))++w1_1)++([32,123,10]))++r21)++a1)++([125,10]))<|aj h fun h26 h=>ai h26<|ai (rfl:v0_5++((((((a1++([119,104,105,108,101,32]))++w1_1)++([32,123,10]))++r21)++a1)++([125,10]))=v0_5++((((((a1++([119,104,105,108,101,32]))++w1_1)++([32,123,10]))++r21)++a1)++([125,10])))<|L h) (fun h16 h=>ai h16<|L h))))))))
def e9(v0_5:(List UInt8))(v0_6:Nat):Option (((List UInt8)×Nat)⊕((List UInt8)×Nat×Bool)):=
 if (v0_6:Int)<(a0.length:Int) then
  (a0[v0_6]?).bind fun (y2:aa)=>
  (nj y2.Expr).bind fun (r4:Bool)=>
  if r4=true then
   (jd R a0 a1 v0_5 v0_6 y2 ([]:List UInt8)).bind fun (x7:((List UInt8)⊕(Unit⊕(List UInt8))))=>match x7 with
   | .inl ya_8=>
    if IntKind.i64.wrap ((v0_6:Int)+1)=((v0_6+1:Nat):Int) then
     some (.inl (ya_8,v0_6+1))
    else none
   | .inr (.inl yb_8)=>
    if IntKind.i64.wrap ((v0_6:Int)+1)=((v0_6+1:Nat):Int) then
     some (.inl (v0_5++(((((a1++([103,101,116,32]))++y2.Name)++[32])++y2.Other)++([59,10])),v0_6+1))
    else none
   | .inr (.inr yc_8)=>
    if IntKind.i64.wrap ((v0_6:Int)+1)=((v0_6+1:Nat):Int) then
     some (.inl (v0_5,v0_6+1))
    else none
  else
   (mj y2.Expr).bind fun (r7:(List UInt8))=>
   (jd R a0 a1 v0_5 v0_6 y2 r7).bind fun (x9:((List UInt8)⊕(Unit⊕(List UInt8))))=>match x9 with
   | .inl ya_10=>
    if IntKind.i64.wrap ((v0_6:Int)+1)=((v0_6+1:Nat):Int) then
     some (.inl (ya_10,v0_6+1))
    else none
   | .inr (.inl yb_10)=>
    if IntKind.i64.wrap ((v0_6:Int)+1)=((v0_6+1:Nat):Int) then
     some (.inl (v0_5++(((((a1++([103,101,116,32]))++y2.Name)++[32])++y2.Other)++([59,10])),v0_6+1))
    else none
   | .inr (.inr yc_10)=>
    if IntKind.i64.wrap ((v0_6:Int)+1)=((v0_6+1:Nat):Int) then
     some (.inl (v0_5,v0_6+1))
    else none
 else
  some (.inr (v0_5,v0_6,decide ((v0_6:Int)<(a0.length:Int))))
abbrev A8(v:((List UInt8)×Nat)):St:=⟨[(0,(.l 68 (a0.map ab))),(1,(.s a1)),(5,(.s v.1)),(6,(I (v.2:Int)))],[],H0⟩
abbrev A9(x:((List UInt8)×Nat×Bool)):aK×St:=((.ex 0),⟨[(0,(.l 68 (a0.map ab))),(1,(.s a1)),(5,(.s x.1)),(6,(I (x.2.1:Int))),(14,(.b x.2.2))],[],H0⟩)
theorem zJ(hR:iP R)(a0:(List aa))(a1:(List UInt8))(v0_5:(List UInt8))(v0_6:Nat)(o:((List UInt8)×Nat)⊕((List UInt8)×Nat×Bool))(h:e9 R a0 a1 v0_5 v0_6=some o):bH E0 LU (A8 a0 a1) (A9 a0 a1) (v0_5,v0_6) o:=
 bV (ao (.i (a0.length:Int))<|.or (bt<|ao (.n v0_6)<|.ex fun (y2:aa)=>ao (.v (.a (ag y2)))<|eI<|xB fun r4=>.or (bf<|.fb<|.or (.ex fun (ya_8:(List UInt8))=>ao (.fr .nrm ⟨[(0,(.l 68 (a0.map ab))),(1,(.s a1)),(5,(.s ya_8)),(6,(I (v0_6:Int)))],[],H0⟩)<|ao (.i ((v0_6+1:Nat):Int))<|.nil) (.or (.ex fun (yb_8:Unit)=>ao (.fr .nrm ⟨[(0,(.l 68 (a0.map ab))),(1,(.s a1)),(5,(.s (v0_5++(((((a1++([103,101,116,32]))++y2.Name)++[32])++y2.Other)++([59,10]))))),(6,(I (v0_6:Int)))],[],H0⟩)<|ao (.i ((v0_6+1:Nat):Int))<|.nil) (.ex fun (yc_8:(List UInt8))=>ao (.fr .nrm ⟨[(0,(.l 68 (a0.map ab))),(1,(.s a1)),(5,(.s v0_5)),(6,(I (v0_6:Int))),(7,(.p ⟨0,7⟩ 0)),(8,(.s yc_8)),(161,(.b (y2.Kind==8)))],[(7,(ag y2))],H0⟩)<|ao (.i ((v0_6+1:Nat):Int))<|.nil))) (cu<|.ex fun (r7:(List UInt8))=>ao (.v (.s r7))<|.fb<|.or (.ex fun (ya_10:(List UInt8))=>ao (.fr .nrm ⟨[(0,(.l 68 (a0.map ab))),(1,(.s a1)),(5,(.s ya_10)),(6,(I (v0_6:Int)))],[],H0⟩)<|ao (.i ((v0_6+1:Nat):Int))<|.nil) (.or (.ex fun (yb_10:Unit)=>ao (.fr .nrm ⟨[(0,(.l 68 (a0.map ab))),(1,(.s a1)),(5,(.s (v0_5++(((((a1++([103,101,116,32]))++y2.Name)++[32])++y2.Other)++([59,10]))))),(6,(I (v0_6:Int)))],[],H0⟩)<|ao (.i ((v0_6+1:Nat):Int))<|.nil) (.ex fun (yc_10:(List UInt8))=>ao (.fr .nrm ⟨[(0,(.l 68 (a0.map ab))),(1,(.s a1)),(5,(.s v0_5)),(6,(I (v0_6:Int))),(7,(.p ⟨0,7⟩ 0)),(8,(.s yc_10)),(161,(.b (y2.Kind==8)))],[(7,(ag y2))],H0⟩)<|ao (.i ((v0_6+1:Nat):Int))<|.nil)))) (bf<|.nil)) fun L=>ai (aO ab a0)<|bu h (fun h1 h=>ai (decide_eq_true h1)<|ai (rI v0_6)<|br h fun y2 h3 h=>ai (cX ab h3 (dR _))<|Hu<|aw h (rA y2.Expr) fun r4 h=>aJ h (fun h6 h=>ai (congrArg not h6)<|An h (rS R hR a0 a1 v0_5 v0_6 y2 ([]:List UInt8)) (fun ya_8 h=>aj h fun w10 h=>ai w10<|L h) (fun yb_8 h=>aj h fun w10 h=>ai w10<|L h) (fun yc_8 h=>aj h fun w10 h=>ai w10<|L h)) (fun h6 h=>fO (congrArg not h6)<|aw h (p5 y2.Expr) fun r7 h=>An h (rS R hR a0 a1 v0_5 v0_6 y2 r7) (fun ya_10 h=>aj h fun w12 h=>ai w12<|L h) (fun yb_10 h=>aj h fun w12 h=>ai w12<|L h) (fun yc_10 h=>aj h fun w12 h=>ai w12<|L h))) (fun h1 h=>ai (decide_eq_false h1)<|L h)
def nu:Option (List UInt8):=
 (lp (fun v=>e9 R a0 a1 v.1 v.2) (([]:List UInt8),0)).bind fun (x1:((List UInt8)×Nat×Bool))=>
 some x1.1
theorem yK(hR:iP R)(a0:(List aa))(a1:(List UInt8))(r:(List UInt8))(h:nu R a0 a1=some r):rF a0 a1 r:=
 aH Z2 (.ex fun (x1:((List UInt8)×Nat×Bool))=>ao (.lp (.ex 0) ⟨[(0,(.l 68 (a0.map ab))),(1,(.s a1)),(5,(.s x1.1)),(6,(I (x1.2.1:Int))),(14,(.b x1.2.2))],[],H0⟩)<|.nil) fun L=>aw h (eH (fun v=>zJ R hR a0 a1 v.1 v.2) (([]:List UInt8),0)) fun x1 h=>L h
def fp:Nat→jD
 | 0=>⟨fun z0 z1=>none⟩
 | n+1=>⟨nu (fp n)⟩
theorem vt:∀ n,iP (fp n)
 | 0=>⟨fun _ _ r h=>(by cases h)⟩
 | n+1=>⟨fun a0 a1 r h=>yK _ (vt n) a0 a1 r h⟩
def oH:Option (List UInt8):=ev fun n=>(fp n).f_R_StmtsText a0 a1
theorem tc(r:(List UInt8))(h:oH a0 a1=some r):rF a0 a1 r:=by
 obtain ⟨n,hn⟩:=iD h
 exact (vt n).f_R_StmtsText a0 a1 r hn
end
section
variable (a0:(List aD))
def je(v0_4:Nat)(w2_1:(List UInt8)):Option ((List UInt8)⊕((List UInt8)×Bool)):=
 (a0[v0_4]?).bind fun (y9:aD)=>
 if 0<(y9.Names.length:Int) then
  (kW y9.Names).bind fun (r12:(List UInt8))=>
  if [32].length+r12.length≤4611686018427387904 then
   if w2_1.length+([32]++r12).length≤4611686018427387904 then
    some (.inl (w2_1++([32]++r12)))
   else none
  else none
 else
  some (.inr (w2_1,decide (0<(y9.Names.length:Int))))
abbrev zK(v0_4:Nat)(w2_1:(List UInt8))(x:((List UInt8)⊕((List UInt8)×Bool))):aK×St:=match x with | .inl z1=>(.nrm,⟨[(0,(.l 74 (a0.map aA))),(3,(.s z1)),(4,(I (v0_4:Int)))],[],H0⟩) | .inr (z1,z2)=>(.nrm,⟨[(0,(.l 74 (a0.map aA))),(3,(.s z1)),(4,(I (v0_4:Int))),(37,(.b z2))],[],H0⟩)
theorem rT(v0_4:Nat)(w2_1:(List UInt8))(x:((List UInt8)⊕((List UInt8)×Bool)))(h:je a0 v0_4 w2_1=some x):run G Ω0 E0 LV ⟨[(0,(.l 74 (a0.map aA))),(3,(.s w2_1)),(4,(I (v0_4:Int)))],[],H0⟩=some (zK a0 v0_4 w2_1 x):=
 fP (ao (.n v0_4)<|.ex fun (y9:aD)=>ao (.v (.a (cY y9)))<|ao (.i (y9.Names.length:Int))<|.or (bt<|ao (.n v0_4)<|ao (.v (.a (cY y9)))<|.ex fun (r12:(List UInt8))=>ao (.v (.s r12))<|ao (.s ([32]++r12))<|ao (.s (w2_1++([32]++r12)))<|.nil) (bf<|.nil)) fun L=>ai (rI v0_4)<|br h fun y9 h10 h=>ai (cj aA h10)<|ai (aO AV.s y9.Names)<|bu h (fun h11 h=>ai (decide_eq_true h11)<|ai (rI v0_4)<|ai (cj aA h10)<|aw h (rE y9.Names) fun r12 h=>aj h fun h14 h=>ai h14<|ai (rfl:[32]++r12=[32]++r12)<|aj h fun h15 h=>ai h15<|ai (rfl:w2_1++([32]++r12)=w2_1++([32]++r12))<|L h) (fun h11 h=>ai (decide_eq_false h11)<|L h)
def jf(v0_4:Nat)(w1_1:(List UInt8)):Option ((List UInt8)⊕((List UInt8)×Bool)):=
 (a0[v0_4]?).bind fun (y4:aD)=>
 if w1_1.length+y4.Owner.length≤4611686018427387904 then
  if y4.Write=true then
   if (w1_1++y4.Owner).length + [33].length≤4611686018427387904 then
    (je a0 v0_4 ((w1_1++y4.Owner)++[33])).bind fun (x9:((List UInt8)⊕((List UInt8)×Bool)))=>match x9 with
    | .inl ya_10=>
     some (.inl ya_10)
    | .inr yb_10=>
     some (.inr (yb_10.1,yb_10.2))
   else none
  else
   if (w1_1++y4.Owner).length + [58].length≤4611686018427387904 then
    (je a0 v0_4 ((w1_1++y4.Owner)++[58])).bind fun (x9:((List UInt8)⊕((List UInt8)×Bool)))=>match x9 with
    | .inl ya_10=>
     some (.inl ya_10)
    | .inr yb_10=>
     some (.inr (yb_10.1,yb_10.2))
   else none
 else none
abbrev zL(v0_4:Nat)(w1_1:(List UInt8))(x:((List UInt8)⊕((List UInt8)×Bool))):aK×St:=match x with | .inl z1=>(.nrm,⟨[(0,(.l 74 (a0.map aA))),(3,(.s z1)),(4,(I (v0_4:Int)))],[],H0⟩) | .inr (z1,z2)=>(.nrm,⟨[(0,(.l 74 (a0.map aA))),(3,(.s z1)),(4,(I (v0_4:Int))),(37,(.b z2))],[],H0⟩)
theorem rU(v0_4:Nat)(w1_1:(List UInt8))(x:((List UInt8)⊕((List UInt8)×Bool)))(h:jf a0 v0_4 w1_1=some x):run G Ω0 E0 LX ⟨[(0,(.l 74 (a0.map aA))),(3,(.s w1_1)),(4,(I (v0_4:Int)))],[],H0⟩=some (zL a0 v0_4 w1_1 x):=
 fP (ao (.n v0_4)<|.ex fun (y4:aD)=>ao (.v (.a (cY y4)))<|ao (.s (w1_1++y4.Owner))<|ao (.n v0_4)<|ao (.v (.a (cY y4)))<|.or (bt<|ao (.s ((w1_1++y4.Owner)++[33]))<|.fb<|.or (.ex fun (ya_10:(List UInt8))=>ao (.fr .nrm ⟨[(0,(.l 74 (a0.map aA))),(3,(.s ya_10)),(4,(I (v0_4:Int)))],[],H0⟩)<|.nil) (.ex fun (yb_10:((List UInt8)×Bool))=>ao (.fr .nrm ⟨[(0,(.l 74 (a0.map aA))),(3,(.s yb_10.1)),(4,(I (v0_4:Int))),(37,(.b yb_10.2))],[],H0⟩)<|.nil)) (bf<|ao (.s ((w1_1++y4.Owner)++[58]))<|.fb<|.or (.ex fun (ya_10:(List UInt8))=>ao (.fr .nrm ⟨[(0,(.l 74 (a0.map aA))),(3,(.s ya_10)),(4,(I (v0_4:Int)))],[],H0⟩)<|.nil) (.ex fun (yb_10:((List UInt8)×Bool))=>ao (.fr .nrm ⟨[(0,(.l 74 (a0.map aA))),(3,(.s yb_10.1)),(4,(I (v0_4:Int))),(37,(.b yb_10.2))],[],H0⟩)<|.nil))) fun L=>ai (rI v0_4)<|br h fun y4 h5 h=>ai (cj aA h5)<|aj h fun h6 h=>ai h6<|ai (rfl:w1_1++y4.Owner=w1_1++y4.Owner)<|ai (rI v0_4)<|ai (cj aA h5)<|aJ h (fun h7 h=>ai h7<|aj h fun h8 h=>ai h8<|ai (rfl:(w1_1++y4.Owner)++[33]=(w1_1++y4.Owner)++[33])<|bW h (rT a0 v0_4 ((w1_1++y4.Owner)++[33])) (fun ya_10 h=>L h) (fun yb_10 h=>L h)) (fun h7 h=>ai h7<|aj h fun h8 h=>ai h8<|ai (rfl:(w1_1++y4.Owner)++[58]=(w1_1++y4.Owner)++[58])<|bW h (rT a0 v0_4 ((w1_1++y4.Owner)++[58])) (fun ya_10 h=>L h) (fun yb_10 h=>L h))
def cK(v0_3:(List UInt8))(v0_4:Nat):Option (((List UInt8)×Nat)⊕((List UInt8)×Nat×Bool)):=
 if (v0_4:Int)<(a0.length:Int) then
  if 0<(v0_4:Int) then
   if v0_3.length+([59,32]).length≤4611686018427387904 then
    (jf a0 v0_4 (v0_3++([59,32]))).bind fun (x4:((List UInt8)⊕((List UInt8)×Bool)))=>match x4 with
    | .inl ya_5=>
     if IntKind.i64.wrap ((v0_4:Int)+1)=((v0_4+1:Nat):Int) then
      some (.inl (ya_5,v0_4+1))
     else none
    | .inr yb_5=>
     if IntKind.i64.wrap ((v0_4:Int)+1)=((v0_4+1:Nat):Int) then
      some (.inl (yb_5.1,v0_4+1))
     else none
   else none
  else
   (jf a0 v0_4 v0_3).bind fun (x3:((List UInt8)⊕((List UInt8)×Bool)))=>match x3 with
   | .inl ya_4=>
    if IntKind.i64.wrap ((v0_4:Int)+1)=((v0_4+1:Nat):Int) then
     some (.inl (ya_4,v0_4+1))
    else none
   | .inr yb_4=>
    if IntKind.i64.wrap ((v0_4:Int)+1)=((v0_4+1:Nat):Int) then
     some (.inl (yb_4.1,v0_4+1))
    else none
 else
  some (.inr (v0_3,v0_4,decide ((v0_4:Int)<(a0.length:Int))))
abbrev Ba(v:((List UInt8)×Nat)):St:=⟨[(0,(.l 74 (a0.map aA))),(3,(.s v.1)),(4,(I (v.2:Int)))],[],H0⟩
abbrev Bb(x:((List UInt8)×Nat×Bool)):aK×St:=((.ex 0),⟨[(0,(.l 74 (a0.map aA))),(3,(.s x.1)),(4,(I (x.2.1:Int))),(8,(.b x.2.2))],[],H0⟩)
theorem zM(v0_3:(List UInt8))(v0_4:Nat)(o:((List UInt8)×Nat)⊕((List UInt8)×Nat×Bool))(h:cK a0 v0_3 v0_4=some o):bH E0 LY (Ba a0) (Bb a0) (v0_3,v0_4) o:=
 bV (ao (.i (a0.length:Int))<|.or (bt<|.or (bt<|ao (.s (v0_3++([59,32])))<|.fb<|.or (.ex fun (ya_5:(List UInt8))=>ao (.fr .nrm ⟨[(0,(.l 74 (a0.map aA))),(3,(.s ya_5)),(4,(I (v0_4:Int)))],[],H0⟩)<|ao (.i ((v0_4+1:Nat):Int))<|.nil) (.ex fun (yb_5:((List UInt8)×Bool))=>ao (.fr .nrm ⟨[(0,(.l 74 (a0.map aA))),(3,(.s yb_5.1)),(4,(I (v0_4:Int))),(37,(.b yb_5.2))],[],H0⟩)<|ao (.i ((v0_4+1:Nat):Int))<|.nil)) (bf<|.fb<|.or (.ex fun (ya_4:(List UInt8))=>ao (.fr .nrm ⟨[(0,(.l 74 (a0.map aA))),(3,(.s ya_4)),(4,(I (v0_4:Int)))],[],H0⟩)<|ao (.i ((v0_4+1:Nat):Int))<|.nil) (.ex fun (yb_4:((List UInt8)×Bool))=>ao (.fr .nrm ⟨[(0,(.l 74 (a0.map aA))),(3,(.s yb_4.1)),(4,(I (v0_4:Int))),(37,(.b yb_4.2))],[],H0⟩)<|ao (.i ((v0_4+1:Nat):Int))<|.nil))) (bf<|.nil)) fun L=>ai (aO aA a0)<|bu h (fun h1 h=>ai (decide_eq_true h1)<|bu h (fun h2 h=>ai (decide_eq_true h2)<|aj h fun h3 h=>ai h3<|ai (rfl:v0_3++([59,32])=v0_3++([59,32]))<|bW h (rU a0 v0_4 (v0_3++([59,32]))) (fun ya_5 h=>aj h fun w7 h=>ai w7<|L h) (fun yb_5 h=>aj h fun w7 h=>ai w7<|L h)) (fun h2 h=>ai (decide_eq_false h2)<|bW h (rU a0 v0_4 v0_3) (fun ya_4 h=>aj h fun w6 h=>ai w6<|L h) (fun yb_4 h=>aj h fun w6 h=>ai w6<|L h))) (fun h1 h=>ai (decide_eq_false h1)<|L h)
abbrev Ep(a0:(List aD))(r:(List UInt8)):aZ×HP:=(.ret (.s r),H0)
def oI:Option (List UInt8):=
 (lp (fun v=>cK a0 v.1 v.2) ([123],0)).bind fun (x1:((List UInt8)×Nat×Bool))=>
 if x1.1.length + [125].length≤4611686018427387904 then
  some (x1.1++[125])
 else none
theorem zN(r:(List UInt8))(h:oI a0=some r):call G Ω0 E0 19 [(.l 74 (a0.map aA))] H0=some (Ep a0 r):=
 aH Z4 (.ex fun (x1:((List UInt8)×Nat×Bool))=>ao (.lp (.ex 0) ⟨[(0,(.l 74 (a0.map aA))),(3,(.s x1.1)),(4,(I (x1.2.1:Int))),(8,(.b x1.2.2))],[],H0⟩)<|ao (.s (x1.1++[125]))<|.nil) fun L=>aw h (eH (fun v=>zM a0 v.1 v.2) ([123],0)) fun x1 h=>aj h fun h3 h=>ai h3<|ai (rfl:x1.1++[125]=x1.1++[125])<|L h
end
section
variable (a0:Tree)
def jR(a0:Tree)(v0_4:Nat)(y2:aE)(w2_1:(List UInt8)):Option (List UInt8):=
 if y2.Given=true then
  (oI y2.Label).bind fun (r15:(List UInt8))=>
  if [32].length+r15.length≤4611686018427387904 then
   if w2_1.length+([32]++r15).length≤4611686018427387904 then
    if (w2_1++([32]++r15)).length+([59,10]).length≤4611686018427387904 then
     some ((w2_1++([32]++r15))++([59,10]))
    else none
   else none
  else none
 else
  if w2_1.length+([59,10]).length≤4611686018427387904 then
   some (w2_1++([59,10]))
  else none
abbrev Bc(v0_4:Nat)(y2:aE)(w2_1:(List UInt8))(x:(List UInt8)):aK×St:=(.nrm,⟨[(1,(.p ⟨0,1⟩ 0)),(3,(.s x)),(4,(I (v0_4:Int)))],[(1,[(.l 46 (a0.Decls.map au)),(.l 68 (a0.Main.map ab))])],H0⟩)
theorem td(v0_4:Nat)(y2:aE)(w2_1:(List UInt8))(x:(List UInt8))(h:jR a0 v0_4 y2 w2_1=some x):run G Ω0 E0 NT ⟨[(1,(.p ⟨0,1⟩ 0)),(3,(.s w2_1)),(4,(I (v0_4:Int))),(5,(.p ⟨0,5⟩ 0))],[(1,[(.l 46 (a0.Decls.map au)),(.l 68 (a0.Main.map ab))]),(5,(ak y2))],H0⟩=some (Bc a0 v0_4 y2 w2_1 x):=
 fP (bt<|.or (cu<|.ex fun (r15:(List UInt8))=>ao (.v (.s r15))<|ao (.s ([32]++r15))<|ao (.s (w2_1++([32]++r15)))<|ao (.s ((w2_1++([32]++r15))++([59,10])))<|.nil) (bf<|ao (.s (w2_1++([59,10])))<|.nil)) fun L=>ai (rfl:Z0)<|aJ h (fun h14 h=>fO h14<|aw h (zN y2.Label) fun r15 h=>aj h fun h17 h=>ai h17<|ai (rfl:[32]++r15=[32]++r15)<|aj h fun h18 h=>ai h18<|ai (rfl:w2_1++([32]++r15)=w2_1++([32]++r15))<|aj h fun h19 h=>ai h19<|ai (rfl:(w2_1++([32]++r15))++([59,10])=(w2_1++([32]++r15))++([59,10]))<|L h) (fun h14 h=>ai h14<|aj h fun h15 h=>ai h15<|ai (rfl:w2_1++([59,10])=w2_1++([59,10]))<|L h)
def eP(v0_3:(List UInt8))(v0_4:Nat):Option (((List UInt8)×Nat)⊕((List UInt8)×Nat×Bool)):=
 if (v0_4:Int)<(a0.Decls.length:Int) then
  (a0.Decls[v0_4]?).bind fun (y2:aE)=>
  (dG y2.Kind).bind fun (j4:Nat)=>
  (([([]:List UInt8),[97,99,116,111,114,32],[103,114,97,110,116,32],[115,112,101,97,107,32],[105,110,32],[111,117,116,32],[118,97,114,32],[102,117,110,99,32]])[j4]?).bind fun (y6:(List UInt8))=>
  if y6.length+y2.Name.length≤4611686018427387904 then
   if v0_3.length+(y6++y2.Name).length≤4611686018427387904 then
    if (y2.Kind==7)=true then
     (kW y2.Params).bind fun (r11:(List UInt8))=>
     if [40].length+r11.length≤4611686018427387904 then
      if ([40]++r11).length+([41,32,123,10]).length≤4611686018427387904 then
       (oH y2.Body ([32,32])).bind fun (r15:(List UInt8))=>
       if (([40]++r11)++([41,32,123,10])).length+r15.length≤4611686018427387904 then
        if ((([40]++r11)++([41,32,123,10]))++r15).length+([32,32,114,101,116,117,114,110,32]).length≤4611686018427387904 then
         (mj y2.Result).bind fun (r19:(List UInt8))=>
         if (((([40]++r11)++([41,32,123,10]))++r15)++([32,32,114,101,116,117,114,110,32])).length+r19.length≤4611686018427387904 then
          if ((((([40]++r11)++([41,32,123,10]))++r15)++([32,32,114,101,116,117,114,110,32]))++r19).length+([59,10,125,10]).length≤4611686018427387904 then
           if (v0_3++(y6++y2.Name)).length+(((((([40]++r11)++([41,32,123,10]))++r15)++([32,32,114,101,116,117,114,110,32]))++r19)++([59,10,125,10])).length≤4611686018427387904 then
            if IntKind.i64.wrap ((v0_4:Int)+1)=((v0_4+1:Nat):Int) then
             some (.inl ((v0_3++(y6++y2.Name))++(((((([40]++r11)++([41,32,123,10]))++r15)++([32,32,114,101,116,117,114,110,32]))++r19)++([59,10,125,10])),v0_4+1))
            else none
           else none
          else none
         else none
        else none
       else none
      else none
     else none
    else
     if (y2.Kind==2)=true then
      if [32].length+y2.Other.length≤4611686018427387904 then
       if (v0_3++(y6++y2.Name)).length+([32]++y2.Other).length≤4611686018427387904 then
        (jR a0 v0_4 y2 ((v0_3++(y6++y2.Name))++([32]++y2.Other))).bind fun (x14:(List UInt8))=>
        if IntKind.i64.wrap ((v0_4:Int)+1)=((v0_4+1:Nat):Int) then
         some (.inl (x14,v0_4+1))
        else none
       else none
      else none
     else
      (jR a0 v0_4 y2 (v0_3++(y6++y2.Name))).bind fun (x12:(List UInt8))=>
      if IntKind.i64.wrap ((v0_4:Int)+1)=((v0_4+1:Nat):Int) then
       some (.inl (x12,v0_4+1))
      else none
   else none
  else none
 else
  some (.inr (v0_3,v0_4,decide ((v0_4:Int)<(a0.Decls.length:Int))))
abbrev CY(v:((List UInt8)×Nat)):St:=⟨[(1,(.p ⟨0,1⟩ 0)),(3,(.s v.1)),(4,(I (v.2:Int)))],[(1,[(.l 46 (a0.Decls.map au)),(.l 68 (a0.Main.map ab))])],H0⟩
abbrev CZ(x:((List UInt8)×Nat×Bool)):aK×St:=((.ex 0),⟨[(1,(.p ⟨0,1⟩ 0)),(3,(.s x.1)),(4,(I (x.2.1:Int))),(10,(.b x.2.2))],[(1,[(.l 46 (a0.Decls.map au)),(.l 68 (a0.Main.map ab))])],H0⟩)
theorem Bd(v0_3:(List UInt8))(v0_4:Nat)(o:((List UInt8)×Nat)⊕((List UInt8)×Nat×Bool))(h:eP a0 v0_3 v0_4=some o):bH E0 NU (CY a0) (CZ a0) (v0_3,v0_4) o:=
 bV (bt<|ao (.i (a0.Decls.length:Int))<|.or (cu<|ao (.n v0_4)<|.ex fun (y2:aE)=>ao (.v (.a (ak y2)))<|cu<|ao (.l (([([]:List UInt8),[97,99,116,111,114,32],[103,114,97,110,116,32],[115,112,101,97,107,32],[105,110,32],[111,117,116,32],[118,97,114,32],[102,117,110,99,32]]).map AV.s))<|bt<|xN fun j4=>.ex fun (y6:(List UInt8))=>ao (.v (.s y6))<|bt<|ao (.s (y6++y2.Name))<|ao (.s (v0_3++(y6++y2.Name)))<|bt<|.or (cu<|.ex fun (r11:(List UInt8))=>ao (.v (.s r11))<|ao (.s ([40]++r11))<|ao (.s (([40]++r11)++([41,32,123,10])))<|bt<|.ex fun (r15:(List UInt8))=>ao (.v (.s r15))<|ao (.s ((([40]++r11)++([41,32,123,10]))++r15))<|ao (.s (((([40]++r11)++([41,32,123,10]))++r15)++([32,32,114,101,116,117,114,110,32])))<|bt<|.ex fun (r19:(List UInt8))=>ao (.v (.s r19))<|ao (.s ((((([40]++r11)++([41,32,123,10]))++r15)++([32,32,114,101,116,117,114,110,32]))++r19))<|ao (.s (((((([40]++r11)++([41,32,123,10]))++r15)++([32,32,114,101,116,117,114,110,32]))++r19)++([59,10,125,10])))<|ao (.s ((v0_3++(y6++y2.Name))++(((((([40]++r11)++([41,32,123,10]))++r15)++([32,32,114,101,116,117,114,110,32]))++r19)++([59,10,125,10]))))<|ao (.i ((v0_4+1:Nat):Int))<|.nil) (yT<|.or (cu<|ao (.s ([32]++y2.Other))<|ao (.s ((v0_3++(y6++y2.Name))++([32]++y2.Other)))<|.fb<|.ex fun (x14:(List UInt8))=>ao (.fr .nrm ⟨[(1,(.p ⟨0,1⟩ 0)),(3,(.s x14)),(4,(I (v0_4:Int)))],[(1,[(.l 46 (a0.Decls.map au)),(.l 68 (a0.Main.map ab))])],H0⟩)<|ao (.i ((v0_4+1:Nat):Int))<|.nil) (bf<|.fb<|.ex fun (x12:(List UInt8))=>ao (.fr .nrm ⟨[(1,(.p ⟨0,1⟩ 0)),(3,(.s x12)),(4,(I (v0_4:Int)))],[(1,[(.l 46 (a0.Decls.map au)),(.l 68 (a0.Main.map ab))])],H0⟩)<|ao (.i ((v0_4+1:Nat):Int))<|.nil))) (bf<|.nil)) fun L=>ai (rfl:Z0)<|ai (aO au a0.Decls)<|bu h (fun h1 h=>fO (decide_eq_true h1)<|ai (rI v0_4)<|br h fun y2 h3 h=>ai (cj au h3)<|ai tt<|ai ff<|ai (rfl:Z0)<|ai tt<|ai (rfl:Z0)<|ai tt<|ai tt<|ai (rfl:[(.s ([]:List UInt8)),(.s ([97,99,116,111,114,32])),(.s ([103,114,97,110,116,32])),(.s ([115,112,101,97,107,32])),(.s ([105,110,32])),(.s ([111,117,116,32])),(.s ([118,97,114,32])),(.s ([102,117,110,99,32]))]=([([]:List UInt8),[97,99,116,111,114,32],[103,114,97,110,116,32],[115,112,101,97,107,32],[105,110,32],[111,117,116,32],[118,97,114,32],[102,117,110,99,32]]).map AV.s)<|oO<|lB h fun j4 h5 h=>ai h5<|br h fun y6 h7 h=>ai (cj AV.s h7)<|ai tt<|ai tt<|ai tt<|ai (rfl:Z0)<|ai tt<|aj h fun h8 h=>ai h8<|ai (rfl:y6++y2.Name=y6++y2.Name)<|ai tt<|aj h fun h9 h=>ai h9<|ai (rfl:v0_3++(y6++y2.Name)=v0_3++(y6++y2.Name))<|ai (rfl:Z0)<|aJ h (fun h10 h=>ai h10<|ai tt<|ai tt<|ai tt<|ai (rfl:Z0)<|ai tt<|aw h (rE y2.Params) fun r11 h=>ai tt<|aj h fun h13 h=>ai h13<|ai (rfl:[40]++r11=[40]++r11)<|ai tt<|aj h fun h14 h=>ai h14<|ai (rfl:([40]++r11)++([41,32,123,10])=([40]++r11)++([41,32,123,10]))<|oO<|aw h (tc y2.Body ([32,32])) fun r15 h=>ai tt<|aj h fun h17 h=>ai h17<|ai (rfl:(([40]++r11)++([41,32,123,10]))++r15=(([40]++r11)++([41,32,123,10]))++r15)<|ai tt<|aj h fun h18 h=>ai h18<|ai (rfl:((([40]++r11)++([41,32,123,10]))++r15)++([32,32,114,101,116,117,114,110,32])=((([40]++r11)++([41,32,123,10]))++r15)++([32,32,114,101,116,117,114,110,32]))<|oO<|aw h (p5 y2.Result) fun r19 h=>ai tt<|aj h fun h21 h=>ai h21<|ai (rfl:(((([40]++r11)++([41,32,123,10]))++r15)++([32,32,114,101,116,117,114,110,32]))++r19=(((([40]++r11)++([41,32,123,10]))++r15)++([32,32,114,101,116,117,114,110,32]))++r19)<|ai tt<|aj h fun h22 h=>ai h22<|ai (rfl:((((([40]++r11)++([41,32,123,10]))++r15)++([32,32,114,101,116,117,114,110,32]))++r19)++([59,10,125,10])=((((([40]++r11)++([41,32,123,10]))++r15)++([32,32,114,101,116,117,114,110,32]))++r19)++([59,10,125,10]))<|ai tt<|aj h fun h23 h=>ai h23<|ai (rfl:(v0_3++(y6++y2.Name))++(((((([40]++r11)++([41,32,123,10]))++r15)++([32,32,114,101,116,117,114,110,32]))++r19)++([59,10,125,10]))=(v0_3++(y6++y2.Name))++(((((([40]++r11)++([41,32,123,10]))++r15)++([32,32,114,101,116,117,114,110,32]))++r19)++([59,10,125,10])))<|aj h fun w24 h=>ai w24<|L h) (fun h10 h=>fO h10<|aJ h (fun h11 h=>fO h11<|aj h fun h12 h=>ai h12<|ai (rfl:[32]++y2.Other=[32]++y2.Other)<|aj h fun h13 h=>ai h13<|ai (rfl:(v0_3++(y6++y2.Name))++([32]++y2.Other)=(v0_3++(y6++y2.Name))++([32]++y2.Other))<|aw h (td a0 v0_4 y2 ((v0_3++(y6++y2.Name))++([32]++y2.Other))) fun x14 h=>aj h fun w16 h=>ai w16<|L h) (fun h11 h=>ai h11<|aw h (td a0 v0_4 y2 (v0_3++(y6++y2.Name))) fun x12 h=>aj h fun w14 h=>ai w14<|L h))) (fun h1 h=>ai (decide_eq_false h1)<|L h)
abbrev F0(a0:Tree)(r:(List UInt8)):aZ×HP:=(.ret (.s r),H0)
def p6:Option (List UInt8):=
 (lp (fun v=>eP a0 v.1 v.2) (([]:List UInt8),0)).bind fun (x1:((List UInt8)×Nat×Bool))=>
 if x1.1.length+([109,97,105,110,32,123,10]).length≤4611686018427387904 then
  (oH a0.Main ([32,32])).bind fun (r4:(List UInt8))=>
  if (x1.1++([109,97,105,110,32,123,10])).length+r4.length≤4611686018427387904 then
   if ((x1.1++([109,97,105,110,32,123,10]))++r4).length+([125,10]).length≤4611686018427387904 then
    some (((x1.1++([109,97,105,110,32,123,10]))++r4)++([125,10]))
   else none
  else none
 else none
theorem Be(r:(List UInt8))(h:p6 a0=some r):call G Ω0 E0 6 [(.a [(.l 46 (a0.Decls.map au)),(.l 68 (a0.Main.map ab))])] H0=some (F0 a0 r):=
 aH G6 (.ex fun (x1:((List UInt8)×Nat×Bool))=>ao (.lp (.ex 0) ⟨[(1,(.p ⟨0,1⟩ 0)),(3,(.s x1.1)),(4,(I (x1.2.1:Int))),(10,(.b x1.2.2))],[(1,[(.l 46 (a0.Decls.map au)),(.l 68 (a0.Main.map ab))])],H0⟩)<|ao (.s (x1.1++([109,97,105,110,32,123,10])))<|bt<|.ex fun (r4:(List UInt8))=>ao (.v (.s r4))<|ao (.s ((x1.1++([109,97,105,110,32,123,10]))++r4))<|ao (.s (((x1.1++([109,97,105,110,32,123,10]))++r4)++([125,10])))<|.nil) fun L=>ai tt<|aw h (eH (fun v=>Bd a0 v.1 v.2) (([]:List UInt8),0)) fun x1 h=>aj h fun h3 h=>ai h3<|ai (rfl:x1.1++([109,97,105,110,32,123,10])=x1.1++([109,97,105,110,32,123,10]))<|ai (rfl:Z0)<|aw h (tc a0.Main ([32,32])) fun r4 h=>aj h fun h6 h=>ai h6<|ai (rfl:(x1.1++([109,97,105,110,32,123,10]))++r4=(x1.1++([109,97,105,110,32,123,10]))++r4)<|aj h fun h7 h=>ai h7<|ai (rfl:((x1.1++([109,97,105,110,32,123,10]))++r4)++([125,10])=((x1.1++([109,97,105,110,32,123,10]))++r4)++([125,10]))<|L h
end
end
end Go.Proofs.YtogbakbmphadfaaGreatDoor.A
