/- Functions of the program as plain functions, by program. -/
import Derived.Test.YtlmphbbhaeampaaGreatTypes
import Derived.Test.YtlmphbbhaeampaaGreatBase
import Derived.Test.YtlmphbbhaeampaaGreatFV
import Derived.Test.YtlmphbbhaeampaaGreatFW
import Derived.Test.YtlmphbbhaeampaaGreatFQ
set_option linter.all false
set_option maxRecDepth 100000
namespace Go.Proofs.YtlmphbbhaeampaaGreat.A
open Go
noncomputable section
variable [Lp]
section
variable (a0:Level)(a1:Int)(a2:Bool)
abbrev JD(r:Bool):Prop:=call G Ω0 E0 23 [] H0=some (.ret (.b r),H0)
def vI:Option Bool:=some true
theorem Fu(r:Bool)(h:vI=some r):JD r:=by
 obtain rfl:=ah h
 exact rh (np 100000) E0 23 [] H0 _ (by kernel_rfl)
abbrev K7(r:Bool):Prop:=call G Ω0 E0 28 [] H0=some (.ret (.b r),H0)
def xk:Option Bool:=some true
theorem GL(r:Bool)(h:xk=some r):K7 r:=by
 obtain rfl:=ah h
 exact rh (np 100000) E0 28 [] H0 _ (by kernel_rfl)
abbrev UI(a0:Level)(a1:Int)(a2:Bool)(r:Bool):bA×HP:=(.ret (.b r),H0)
def zk:Option Bool:=
 if a2=true then
  (cV a1).bind fun j2=>
  (a0.Writers[j2]?).bind fun y4=>
  some (!y4)
 else
  (cV a1).bind fun j2=>
  (a0.Readers[j2]?).bind fun y4=>
  some y4
theorem Oi(r:Bool)(h:zk a0 a1 a2=some r):call G Ω0 E0 131 [(.a [(.l 4 (a0.Readers.map AV.b)),(.l 4 (a0.Writers.map AV.b))]),(I a1),(.b a2)] H0=some (UI a0 a1 a2 r):=
 a8 agV (.or (ee<|xN fun j2=>xB fun y4=>.nil) (D3<|xN fun j2=>xB fun y4=>.nil)) fun L=>ai tt<|b9 h (fun h1 h=>qO h1<|ez h fun j2 h3 h=>ai h3<|bm h fun y4 h5 h=>ai (aI AV.b h5)<|L h) (fun h1 h=>qO h1<|ez h fun j2 h3 h=>ai h3<|bm h fun y4 h5 h=>ai (aI AV.b h5)<|L h)
end
section
variable (a0:Program)(a1:Int)(a2:Bool)(a3:Int)
abbrev Qz(a0:Program)(a1:Int)(a2:Bool)(a3:Int)(r:Bool):bA×HP:=(.ret (.b r),H0)
def xX:Option Bool:=
 (cV a3).bind fun j1=>
 (a0.Ins[j1]?).bind fun y3=>
 (wa a0.an y3).bind fun r5=>
 (zk r5 a1 a2).bind fun r7=>
 some r7
theorem K8(r:Bool)(h:xX a0 a1 a2 a3=some r):call G Ω0 E0 84 [(.a (aD a0)),(I a1),(.b a2),(I a3)] H0=some (Qz a0 a1 a2 a3 r):=
 a8 G84 (ee<|xN fun j1=>.ex fun (y3:Label)=>ao (.v (.a [(bU y3.Read),(bU y3.Write)]))<|.ex fun (r5:Level)=>ao (.v (.a [(aC r5.Readers),(aC r5.Writers)]))<|xB fun r7=>.nil) fun L=>bE<|ai tt<|ai (rfl:Z0)<|bE<|ai (rfl:Z0)<|bE<|ez h fun j1 h2 h=>ai h2<|bm h fun y3 h4 h=>ai (aI aS h4)<|bE<|bI h (Jz a0.an y3) fun r5 h=>n4<|bI h (Oi r5 a1 a2) fun r7 h=>L h
end
section
variable (a0:Program)(a1:Int)(a2:Bool)(a3:(List (List Int)))(a4:(List (List Int)))(g:(List (List Int)))(f:Nat)
def pT:Option (((List (List Int))×Nat)⊕((List (List Int))×Nat×Bool)):=
 if (f:Int)<(a3.length:Int) then
  (xX a0 a1 a2 (f:Int)).bind fun r2=>
  if r2=true then
   (a3[f]?).bind fun y5=>
   if g.length + [y5].length≤1000000000 then
    if IntKind.i64.wrap ((f:Int)+1)=((f+1:Nat):Int) then
     some (.inl (g++[y5],f+1))
    else none
   else none
  else
   if (a4.length:Int)≤(f:Int) then
    (a3[f]?).bind fun y6=>
    if g.length + [y6].length≤1000000000 then
     if IntKind.i64.wrap ((f:Int)+1)=((f+1:Nat):Int) then
      some (.inl (g++[y6],f+1))
     else none
    else none
   else
    (a4[f]?).bind fun y6=>
    if g.length + [y6].length≤1000000000 then
     if IntKind.i64.wrap ((f:Int)+1)=((f+1:Nat):Int) then
      some (.inl (g++[y6],f+1))
     else none
    else none
 else
  some (.inr (g,f,decide ((f:Int)<(a3.length:Int))))
abbrev Oj(v:((List (List Int))×Nat)):St:=⟨[(1,(I a1)),(2,(.b a2)),(3,(nA a3)),(4,(nA a4)),zP 5,(11,(.o 25 (v.1.map (bO 3 (I))))),(12,(I (v.2:Int)))],[(5,(aD a0))],H0⟩
abbrev FK(x:((List (List Int))×Nat×Bool)):bh×St:=((.ex 0),⟨[(1,(I a1)),(2,(.b a2)),(3,(nA a3)),(4,(nA a4)),zP 5,(11,(.o 25 (x.1.map (bO 3 (I))))),(12,(I (x.2.1:Int))),(16,(.b x.2.2))],[(5,(aD a0))],H0⟩)
theorem Nr(o:((List (List Int))×Nat)⊕((List (List Int))×Nat×Bool))(h:pT a0 a1 a2 a3 a4 g f=some o):cG E0 U0 (Oj a0 a1 a2 a3 a4) (FK a0 a1 a2 a3 a4) (g,f) o:=
 let D:=rI f;let C:=List Int;let B:=((f+1:Nat):Int);let A:=g.map (bO 3 I);cT (ao (.i (a3.length:Int))<|.or (ee<|xB fun r2=>.or (bf<|bf<|bf<|bf<|bt<|bt<|ao (.n f)<|.ex fun (y5:C)=>ao (.v (bw y5))<|ao (.l ([y5].map (bO 3 I)))<|ao (.l ((g++[y5]).map (bO 3 I)))<|ao (.i B)<|.nil) (fh<|ao (.i (a4.length:Int))<|nz<|.or (bt<|ao (.n f)<|.ex fun (y6:C)=>ao (.v (bw y6))<|ao (.l ([y6].map (bO 3 I)))<|ao (.l ((g++[y6]).map (bO 3 I)))<|ao (.i B)<|.nil) (bf<|ao (.n f)<|.ex fun (y6:C)=>ao (.v (bw y6))<|ao (.l ([y6].map (bO 3 I)))<|ao (.l ((g++[y6]).map (bO 3 I)))<|ao (.i B)<|.nil))) (bf<|.nil)) fun L=>ai (bn (bO 3 I) a3)<|da h (fun h1 h=>qO (aE h1)<|bI h (K8 a0 a1 a2 (f:Int)) fun r2 h=>b9 h (fun h4 h=>cm h4<|cm h4<|rY h4<|ai D<|bm h fun y5 h6 h=>let E:=[y5].map (bO 3 I);ai (aI (bO 3 I) h6)<|ai (rfl:[(bw y5)]=[y5].map (bO 3 I))<|ai ff<|bc h fun h7 h=>ai ((fS (bO 3 I) (n:=1) (fun _=>rfl) [y5]):E.all (fun e=>e.nc==1)=true)<|ai ((jO h7 (by decide)):(A.length+E.length)*24≤140737488355328)<|ai ((jP h7):A.length+E.length≤maxLen)<|ai (dI.symm:g.map (bO 3 I)++[y5].map (bO 3 I)=(g++[y5]).map (bO 3 I))<|bc h fun w8 h=>ai w8<|L h) (fun h4 h=>cm h4<|ai (g0 h4)<|ai (bn (bO 3 I) a4)<|wG h4<|da h (fun h5 h=>ai (aE h5)<|ai D<|bm h fun y6 h7 h=>let F:=[y6].map (bO 3 I);ai (aI (bO 3 I) h7)<|ai (rfl:[(bw y6)]=[y6].map (bO 3 I))<|ai ff<|bc h fun h8 h=>ai ((fS (bO 3 I) (n:=1) (fun _=>rfl) [y6]):F.all (fun e=>e.nc==1)=true)<|ai ((jO h8 (by decide)):(A.length+F.length)*24≤140737488355328)<|ai ((jP h8):A.length+F.length≤maxLen)<|ai (dI.symm:g.map (bO 3 I)++[y6].map (bO 3 I)=(g++[y6]).map (bO 3 I))<|bc h fun w9 h=>ai w9<|L h) (fun h5 h=>ai (aG h5)<|ai D<|bm h fun y6 h7 h=>let G:=[y6].map (bO 3 I);ai (aI (bO 3 I) h7)<|ai (rfl:[(bw y6)]=[y6].map (bO 3 I))<|ai ff<|bc h fun h8 h=>ai ((fS (bO 3 I) (n:=1) (fun _=>rfl) [y6]):G.all (fun e=>e.nc==1)=true)<|ai ((jO h8 (by decide)):(A.length+G.length)*24≤140737488355328)<|ai ((jP h8):A.length+G.length≤maxLen)<|ai (dI.symm:g.map (bO 3 I)++[y6].map (bO 3 I)=(g++[y6]).map (bO 3 I))<|bc h fun w9 h=>ai w9<|L h))) (fun h1 h=>ai (aG h1)<|L h)
abbrev S1(a0:Program)(a1:Int)(a2:Bool)(a3:(List (List Int)))(a4:(List (List Int)))(r:(List (List Int))):bA×HP:=(.ret (.l 25 (r.map (bO 3 (I)))),H0)
def Ap:Option (List (List Int)):=
 (lp (fun v=>pT a0 a1 a2 a3 a4 v.1 v.2) (([]:List (List Int)),0)).bind fun x1=>
 some x1.1
theorem Ns(r:(List (List Int)))(h:Ap a0 a1 a2 a3 a4=some r):call G Ω0 E0 30 [(.a (aD a0)),(I a1),(.b a2),(.l 25 (a3.map (bO 3 (I)))),(.l 25 (a4.map (bO 3 (I))))] H0=some (S1 a0 a1 a2 a3 a4 r):=
 a8 G30 (.ex fun (x1:((List (List Int))×Nat×Bool))=>ao (.dJ (FK a0 a1 a2 a3 a4 x1))<|.nil) fun L=>ai tt<|bI h (im (fun v=>Nr a0 a1 a2 a3 a4 v.1 v.2) (([]:List (List Int)),0)) fun x1 h=>L h
def ED:List bR:=gH (gA 8 72)::[]
def oQ(t:Bool):Option Bool:=
 some t
abbrev ra(x:Bool):St:=⟨[(8,(.b x))],[],H0⟩
end
section
variable (a0:(List Event))(a1:(List Event))(a2:Int)(d:Nat)(y8:Event)(a3:Bool)
theorem sI(t:Bool)(w:List AV)(x:Bool)(h:oQ t=some x):DZ G Ω0 E0 [8] [] ED ⟨[(72,(.b t)),(71,(W w 0)),(70,(W w 1)),(69,(W w 2)),(68,(W w 3)),(67,(W w 4)),(66,(W w 5)),(65,(W w 6)),(64,(W w 7)),(63,(W w 8)),(62,(W w 9)),(61,(W w 10)),(60,(W w 11)),(59,(W w 12)),(58,(W w 13)),(57,(W w 14)),(56,(W w 15)),(55,(W w 16)),(54,(W w 17)),(53,(W w 18)),(52,(W w 19)),(51,(W w 20)),(50,(W w 21)),(49,(W w 22)),(48,(W w 23)),(47,(W w 24)),(46,(W w 25)),(45,(W w 26)),(44,(W w 27)),(43,(W w 28)),(42,(W w 29)),(41,(W w 30)),(40,(W w 31)),(39,(W w 32)),(38,(.b (y8.Kind==a2))),(37,(.b (y8.Kind==a2))),(36,(I a2)),(35,(I y8.Kind)),(34,(.e (.a (cH y8)) 0)),(33,(.e (.a (cH y8)) 0)),(32,(zI d)),(31,(ba a0)),(0,(ba a0)),(1,(ba a1)),(2,(I a2)),(9,(zI d))],[],H0⟩=some (ra x):=
 R2 (.nil) fun L=>L h
def Nt:List bR:=uM 31 0::uM 32 9::ui 33 4 31 32::uF 34 0 33::uQ 35 34::uM 36 2::gU (gB 37 .eql 35 36) [35,36]::uM 38 37::⟨⟨some 39,.mv 1,some ⟨38,true⟩,false⟩,true,[1],[],false,[],[],[]⟩::⟨⟨some 40,.mv 9,some ⟨38,true⟩,false⟩,true,[9],[],false,[],[],[]⟩::⟨⟨some 41,.ia 4 none 39 40,some ⟨38,true⟩,false⟩,true,[39,40],[],false,[],[],[]⟩::⟨⟨some 42,.fa 0 41,some ⟨38,true⟩,false⟩,true,[41],[],false,[],[],[]⟩::⟨⟨some 43,.ld none 42,some ⟨38,true⟩,false⟩,true,[42],[],false,[],[],[]⟩::⟨⟨some 44,.mv 2,some ⟨38,true⟩,false⟩,true,[2],[],false,[],[],[]⟩::⟨⟨some 45,.bo .eql false 43 44,some ⟨38,true⟩,false⟩,true,[43,44],[],false,[],[],[]⟩::gU (gk 46 38 45 (.c (.b false))) [38,45]::uM 47 46::⟨⟨some 48,.mv 0,some ⟨47,true⟩,false⟩,true,[0],[],false,[],[],[]⟩::⟨⟨some 49,.mv 9,some ⟨47,true⟩,false⟩,true,[9],[],false,[],[],[]⟩::⟨⟨some 50,.ia 4 none 48 49,some ⟨47,true⟩,false⟩,true,[48,49],[],false,[],[],[]⟩::⟨⟨some 51,.fa 1 50,some ⟨47,true⟩,false⟩,true,[50],[],false,[],[],[]⟩::⟨⟨some 52,.ld none 51,some ⟨47,true⟩,false⟩,true,[51],[],false,[],[],[]⟩::⟨⟨some 53,.mv 1,some ⟨47,true⟩,false⟩,true,[1],[],false,[],[],[]⟩::⟨⟨some 54,.mv 9,some ⟨47,true⟩,false⟩,true,[9],[],false,[],[],[]⟩::⟨⟨some 55,.ia 4 none 53 54,some ⟨47,true⟩,false⟩,true,[53,54],[],false,[],[],[]⟩::⟨⟨some 56,.fa 1 55,some ⟨47,true⟩,false⟩,true,[55],[],false,[],[],[]⟩::⟨⟨some 57,.ld none 56,some ⟨47,true⟩,false⟩,true,[56],[],false,[],[],[]⟩::⟨⟨some 58,.bo .eql false 52 57,some ⟨47,true⟩,false⟩,true,[52,57],[],false,[],[],[]⟩::gU (gk 59 47 58 (.c (.b false))) [47,58]::uM 60 59::⟨⟨some 61,.mv 0,some ⟨60,true⟩,false⟩,true,[0],[],false,[],[],[]⟩::⟨⟨some 62,.mv 9,some ⟨60,true⟩,false⟩,true,[9],[],false,[],[],[]⟩::⟨⟨some 63,.ia 4 none 61 62,some ⟨60,true⟩,false⟩,true,[61,62],[],false,[],[],[]⟩::⟨⟨some 64,.fa 2 63,some ⟨60,true⟩,false⟩,true,[63],[],false,[],[],[]⟩::⟨⟨some 65,.ld none 64,some ⟨60,true⟩,false⟩,true,[64],[],false,[],[],[]⟩::⟨⟨some 66,.mv 1,some ⟨60,true⟩,false⟩,true,[1],[],false,[],[],[]⟩::⟨⟨some 67,.mv 9,some ⟨60,true⟩,false⟩,true,[9],[],false,[],[],[]⟩::⟨⟨some 68,.ia 4 none 66 67,some ⟨60,true⟩,false⟩,true,[66,67],[],false,[],[],[]⟩::⟨⟨some 69,.fa 2 68,some ⟨60,true⟩,false⟩,true,[68],[],false,[],[],[]⟩::⟨⟨some 70,.ld none 69,some ⟨60,true⟩,false⟩,true,[69],[],false,[],[],[]⟩::⟨⟨some 71,.bo .eql false 65 70,some ⟨60,true⟩,false⟩,false,[],[],false,[],[],[]⟩::gH (gk 72 60 71 (.c (.b false)))::ED
def zl:Option Bool:=
 (a0[d]?).bind fun y8=>
 if (y8.Kind==a2)=true then
  (a1[d]?).bind fun j=>
  if (j.Kind==a2)=true then
   if (y8.At==j.At)=true then
    (oQ (y8.Which==j.Which)).bind fun s=>
    some s
   else
    (oQ false).bind fun s=>
    some s
  else
   (oQ false).bind fun O=>
   some O
 else
  (oQ false).bind fun P=>
  some P
abbrev EE(x:Bool):St:=⟨[(8,(.b x))],[],H0⟩
theorem K9(x:Bool)(h:zl a0 a1 a2 d=some x):DZ G Ω0 E0 [8] [] Nt ⟨[(0,(ba a0)),(1,(ba a1)),(2,(I a2)),(9,(zI d))],[],H0⟩=some (EE x):=
 let B:=rI d;let A:=zI d;R2 (ao (.n d)<|.ex fun (y8:Event)=>ao (.v (.a (cH y8)))<|.or (fh<|ao (.n d)<|.ex fun (j:Event)=>ao (.v (.a (cH j)))<|tn<|.or (fh<|ao (.n d)<|ao (.v (.a (cH y8)))<|tn<|ao (.n d)<|ao (.v (.a (cH j)))<|xp<|.or (fh<|ao (.n d)<|ao (.v (.a (cH y8)))<|tn<|ao (.n d)<|ao (.v (.a (cH j)))<|xp<|.jb (some 8) 0<|.ex fun (s:Bool)=>ao (.jn (ra s))<|.nil) (bf<|bf<|bf<|bf<|bf<|bf<|bf<|bf<|bf<|bf<|bf<|bf<|.jb (some 8) 0<|.ex fun (s:Bool)=>ao (.jn (ra s))<|.nil)) (bf<|bf<|bf<|bf<|bf<|bf<|bf<|bf<|bf<|bf<|bf<|bf<|bf<|bf<|bf<|bf<|bf<|bf<|bf<|bf<|bf<|bf<|bf<|bf<|.jb (some 8) 0<|.ex fun (O:Bool)=>ao (.jn (ra O))<|.nil)) (bf<|bf<|bf<|bf<|bf<|bf<|bf<|bf<|bf<|bf<|bf<|bf<|bf<|bf<|bf<|bf<|bf<|bf<|bf<|bf<|bf<|bf<|bf<|bf<|bf<|bf<|bf<|bf<|bf<|bf<|bf<|bf<|.jb (some 8) 0<|.ex fun (P:Bool)=>ao (.jn (ra P))<|.nil)) fun L=>bE<|ai B<|bm h fun y8 h9 h=>let C:=aI bS h9;ai C<|bE<|bE<|bE<|b9 h (fun p h=>P3 p<|ai B<|bm h fun j N h=>let J:=aI bS N;let H:=y8.Which==j.Which;let F:=I j.Kind;let E:=y8.At==j.At;let D:=j.Kind==a2;ai J<|kh p<|kh p<|kh p<|kh p<|ai tt<|ai p<|bE<|b9 h (fun k h=>P3 k<|ai B<|ai C<|kh k<|kh k<|kh k<|kh k<|kh k<|ai B<|ai J<|kh k<|kh k<|kh k<|ai tt<|ai k<|bE<|b9 h (fun m h=>P3 m<|ai B<|ai C<|kh m<|kh m<|kh m<|kh m<|kh m<|ai B<|ai J<|kh m<|kh m<|ai tt<|rX m<|bI h (sI a0 a1 a2 d y8 H [(.b H),(I j.Which),(.e (.a (cH j)) 2),(.e (.a (cH j)) 0),A,(ba a1),(I y8.Which),(.e (.a (cH y8)) 2),(.e (.a (cH y8)) 0),A,(ba a0),(.b E),(.b E),(.b E),(I j.At),(.e (.a (cH j)) 1),(.e (.a (cH j)) 0),A,(ba a1),(I y8.At),(.e (.a (cH y8)) 1),(.e (.a (cH y8)) 0),A,(ba a0),(.b D),(.b D),(.b D),(I a2),F,(.e (.a (cH j)) 0),(.e (.a (cH j)) 0),A,(ba a1)]) fun s h=>L h) (fun m h=>dE m<|dE m<|dE m<|dE m<|dE m<|rX m<|bI h (sI a0 a1 a2 d y8 false [.sk,.sk,.sk,.sk,.sk,.sk,.sk,.sk,.sk,.sk,.sk,(.b E),(.b E),(.b E),(I j.At),(.e (.a (cH j)) 1),(.e (.a (cH j)) 0),A,(ba a1),(I y8.At),(.e (.a (cH y8)) 1),(.e (.a (cH y8)) 0),A,(ba a0),(.b D),(.b D),(.b D),(I a2),F,(.e (.a (cH j)) 0),(.e (.a (cH j)) 0),A,(ba a1)]) fun s h=>L h)) (fun k h=>dE k<|dE k<|dE k<|dE k<|dE k<|rX k<|bE<|ai gf<|ai gf<|ai gf<|ai gf<|ai gf<|ai gf<|ai gf<|ai gf<|ai gf<|ai gf<|ai gf<|ai ff<|bI h (sI a0 a1 a2 d y8 false [.sk,.sk,.sk,.sk,.sk,.sk,.sk,.sk,.sk,.sk,.sk,(.b false),(.b false),.sk,.sk,.sk,.sk,.sk,.sk,.sk,.sk,.sk,.sk,.sk,(.b D),(.b D),(.b D),(I a2),F,(.e (.a (cH j)) 0),(.e (.a (cH j)) 0),A,(ba a1)]) fun O h=>L h)) (fun p h=>dE p<|dE p<|dE p<|rX p<|bE<|ai gf<|ai gf<|ai gf<|ai gf<|ai gf<|ai gf<|ai gf<|ai gf<|ai gf<|ai gf<|ai gf<|ai ff<|bE<|ai gf<|ai gf<|ai gf<|ai gf<|ai gf<|ai gf<|ai gf<|ai gf<|ai gf<|ai gf<|ai gf<|ai ff<|bI h (sI a0 a1 a2 d y8 false [.sk,.sk,.sk,.sk,.sk,.sk,.sk,.sk,.sk,.sk,.sk,(.b false),(.b false),.sk,.sk,.sk,.sk,.sk,.sk,.sk,.sk,.sk,.sk,.sk,(.b false),(.b false),.sk,.sk,.sk,.sk,.sk,.sk,.sk]) fun P h=>L h)
def jd:Option (Nat⊕(Bool⊕(Bool×Nat))):=
 if (d:Int)<(a0.length:Int) then
  if (d:Int)<(a1.length:Int) then
   (a0[d]?).bind fun y3=>
   (a1[d]?).bind fun y5=>
   if ((y3.Kind==y5.Kind)&&((y3.At==y5.At)&&((y3.Which==y5.Which)&&((y3.Value==y5.Value)&&true))))=true then
    if IntKind.i64.wrap ((d:Int)+1)=((d+1:Nat):Int) then
     some (.inl (d+1))
    else none
   else
    (zl a0 a1 a2 d).bind fun x8=>
    some (.inr (.inl x8))
  else
   some (.inr (.inr (decide ((d:Int)<(a1.length:Int)),d)))
 else
  some (.inr (.inr (false,d)))
abbrev Ok(v:Nat):St:=⟨[(0,(ba a0)),(1,(ba a1)),(2,(I a2)),(3,(.b a3)),(9,(I (v:Int)))],[],H0⟩
abbrev AX(x:(Bool⊕(Bool×Nat))):bh×St:=match x with | .inl z1=>(.ret,⟨[(8,(.b z1))],[],H0⟩) | .inr (U,z1)=>((.ex 0),⟨[(0,(ba a0)),(1,(ba a1)),(2,(I a2)),(3,(.b a3)),(9,(I (z1:Int))),(19,(.b U))],[],H0⟩)
theorem Nu(d:Nat)(o:Nat⊕(Bool⊕(Bool×Nat)))(h:jd a0 a1 a2 d=some o):cG E0 U2 (Ok a0 a1 a2 a3) (AX a0 a1 a2 a3) d o:=
 cT (ao (.i (a0.length:Int))<|.or (fh<|ao (.i (a1.length:Int))<|ee<|.or (bt<|ao (.n d)<|.ex fun (y3:Event)=>ao (.v (.a (cH y3)))<|ao (.n d)<|.ex fun (y5:Event)=>ao (.v (.a (cH y5)))<|ao (.b ((y3.Kind==y5.Kind)&&((y3.At==y5.At)&&((y3.Which==y5.Which)&&((y3.Value==y5.Value)&&true)))))<|.or (bt<|ao (.i ((d+1:Nat):Int))<|.nil) (bf<|.jb (some 31) 42<|.ex fun (x8:Bool)=>ao (.jn (EE x8))<|.nil)) (bf<|.nil)) (TX<|.nil)) fun L=>ai (bn bS a0)<|da h (fun h1 h=>R4 (aE h1)<|ai (bn bS a1)<|rX (aE h1)<|da h (fun h2 h=>IU (aE h2)<|ai (rI d)<|bm h fun y3 h4 h=>ai (aI bS h4)<|oo<|ai (rI d)<|bm h fun y5 h6 h=>ai (aI bS h6)<|bE<|ai (rfl:jA [1,1,1,1] (cH y3) (cH y5)=some ((y3.Kind==y5.Kind)&&((y3.At==y5.At)&&((y3.Which==y5.Which)&&((y3.Value==y5.Value)&&true)))))<|b9 h (fun h7 h=>ai h7<|bc h fun w8 h=>ai w8<|L h) (fun h7 h=>rY h7<|bI h (K9 a0 a1 a2 d) fun x8 h=>L h)) (fun h2 h=>ai (aG h2)<|L h)) (fun h1 h=>dE (aG h1)<|dE (aG h1)<|ai (aG h1)<|ai ff<|L h)
abbrev S2(a0:(List Event))(a1:(List Event))(a2:Int)(a3:Bool)(r:Bool):bA×HP:=(.ret (.b r),H0)
def Aq:Option Bool:=
 (lp (fun v=>jd a0 a1 a2 v) 0).bind fun x1=>match x1 with
 | .inl q=>
  some q
 | .inr y=>
  if a3=true then
   some ((a0.length:Int)==(a1.length:Int))
  else
   some true
theorem Nv(r:Bool)(h:Aq a0 a1 a2 a3=some r):call G Ω0 E0 32 [(.l 128 (a0.map bS)),(.l 128 (a1.map bS)),(I a2),(.b a3)] H0=some (S2 a0 a1 a2 a3 r):=
 a8 G32 (.or (.ex fun (q:Bool)=>ao (.dJ (AX a0 a1 a2 a3 (.inl q)))<|.nil) (.ex fun (y:(Bool×Nat))=>ao (.dJ (AX a0 a1 a2 a3 (.inr y)))<|.or (ee<|ao (.i (a0.length:Int))<|ee<|ao (.i (a1.length:Int))<|nz<|.nil) (bf<|bf<|bf<|bf<|bf<|bt<|.nil))) fun L=>iy h (im (Nu a0 a1 a2 a3) 0) (fun q h=>L h) (fun y h=>b9 h (fun h4 h=>let A:=av not h4;cm A<|ai (bn bS a0)<|cm A<|ai (bn bS a1)<|wG A<|L h) (fun h4 h=>let B:=av not h4;cm B<|cm B<|ai (g0 B)<|ai B<|L h))
end
section
variable (a0:Program)(a1:Int)(a2:(List (List Int)))(a3:(List (List Int)))(a4:Int)
abbrev JE(a0:Program)(a1:Int)(a2:(List (List Int)))(a3:(List (List Int)))(a4:Int)(r:Bool):bA×HP:=(.ret (.b r),H0)
def vJ:Option Bool:=
 (vI).bind fun r1=>
 if r1=true then
  (xk).bind fun r4=>
  if r4=true then
   (m9 a0 a2 a4).bind fun r7=>
   if (r7.2.2 !=0)=true then
    some true
   else
    (we a0.an a1).bind fun R=>
    if R=true then
     (Ap a0 a1 false a2 a3).bind fun M=>
     (m9 a0 M a4).bind fun u=>
     if (u.2.2 !=0)=true then
      some true
     else
      (pO a0 a1 false r7.1.Events).bind fun K=>
      (pO a0 a1 false u.1.Events).bind fun z=>
      if (K.2==0)=true then
       if (z.2==0)=true then
        (Aq K.1 z.1 2 false).bind fun Q=>
        some Q
       else
        none
      else
       none
    else
     some true
  else
   none
 else
  none
theorem Fv(r:Bool)(h:vJ a0 a1 a2 a3 a4=some r):call G Ω0 E0 7 [(.a (aD a0)),(I a1),(.l 25 (a2.map (bO 3 (I)))),(.l 25 (a3.map (bO 3 (I)))),(I a4)] H0=some (JE a0 a1 a2 a3 a4 r):=
 a8 G7 (xB fun r1=>bt<|xB fun r4=>bt<|bf<|bf<|bt<|.ex fun (r7:(RunT×(List Level)×Int))=>ao (.v (.tp [(.a (Li r7.1)),(.l 113 (r7.2.1.map aF)),(I r7.2.2)]))<|ee<|.or (bf<|bf<|bf<|bf<|bf<|bt<|bt<|.nil) (tn<|xB fun R=>nz<|.or (bf<|bt<|bt<|.ex fun (M:(List (List Int)))=>ao (.v (nA M))<|.ex fun (u:(RunT×(List Level)×Int))=>ao (.v (.tp [(.a (Li u.1)),(.l 113 (u.2.1.map aF)),(I u.2.2)]))<|ee<|oN (ee<|.ex fun (K:((List Event)×Int))=>ao (.v (.tp [(ba K.1),(I K.2)]))<|ee<|.ex fun (z:((List Event)×Int))=>ao (.v (.tp [(ba z.1),(I z.2)]))<|Vm<|xB fun Q=>bt<|.nil)) (bt<|.nil))) fun L=>ai tt<|bI h Fu fun r1 h=>L9 h (fun h3 h=>ai (g0 (av not h3))<|bI h GL fun r4 h=>wG (av not h3)<|L9 h (fun h6 h=>qO (av not h6)<|bI h (zb a0 a2 a4) fun r7 h=>ai tt<|oq<|b9 h (fun h9 h=>cm h9<|cm h9<|ai (g0 h9)<|rY h9<|L h) (fun h9 h=>cm h9<|ai (rfl:Z0)<|cm h9<|bI h (JB a0.an a1) fun R h=>wG h9<|b9 h (fun N h=>rY (av not N)<|ph<|ai (rfl:Z0)<|bE<|bE<|bI h (Ns a0 a1 false a2 a3) fun M h=>bE<|bI h (zb a0 M a4) fun u h=>bE<|bE<|bE<|ai tt<|oq<|bE<|b9 h (fun S h=>ai S<|L h) (fun S h=>ai S<|kg<|bI h (zj a0 a1 false r7.1.Events) fun K h=>kg<|bI h (zj a0 a1 false u.1.Events) fun z h=>L9 h (fun V h=>tm V<|L9 h (fun T h=>R4 T<|bI h (Nv K.1 z.1 2 false) fun Q h=>ai T<|L h) (fun _ h=>Hs h)) (fun _ h=>Hs h))) (fun N h=>ai (av not N)<|L h))) (fun _ h=>Hs h)) (fun _ h=>Hs h)
end
end
end Go.Proofs.YtlmphbbhaeampaaGreat.A
