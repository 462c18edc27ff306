/- Functions of the program as plain functions, by program. -/
import Derived.Test.YtkkkkondjclcnaaTypes
import Derived.Test.YtkkkkondjclcnaaLift
import Derived.Test.YtkkkkondjclcnaaFI
import Derived.Test.YtkkkkondjclcnaaFitsF
set_option maxRecDepth 100000
set_option linter.unusedSectionVars false
set_option linter.unusedVariables false
set_option linter.unusedSimpArgs false
set_option linter.constructorNameAsVariable false
namespace Go.Proofs.Ytkkkkondjclcnaa.A
open Go
noncomputable section
variable [Lp]
section
variable (a0:Program)(a1:aT)
def ic(r1:(aT×Int))(v0_10:Nat):Option (Nat⊕(Nat×Bool)):=
 if (v0_10:Int)<((((([]:List Level)++r1.1.Vars)++r1.1.Funcs).length:Nat):Int) then
  (((([]:List Level)++r1.1.Vars)++r1.1.Funcs)[v0_10]?).bind fun (y23:Level)=>
  (((([]:List Level)++a1.Vars)++a1.Funcs)[v0_10]?).bind fun (y25:Level)=>
  (ny a0.aa y23 y25).bind fun (r27:(Bool×Int))=>
  if (r27.2 !=0)=true then
   none
  else
   if r27.1=true then
    if IntKind.i64.wrap ((v0_10:Int)+1)=((v0_10+1:Nat):Int) then
     some (.inl (v0_10+1))
    else none
   else
    none
 else
  some (.inr (v0_10,decide ((v0_10:Int)<((((([]:List Level)++r1.1.Vars)++r1.1.Funcs).length:Nat):Int))))
abbrev xT(r1:(aT×Int))(v:Nat):St:=⟨[(2,(.p ⟨0,2⟩ 0)),(8,(.l 44 (((([]:List Level)++r1.1.Vars)++r1.1.Funcs).map ah))),(9,(.l 44 (((([]:List Level)++a1.Vars)++a1.Funcs).map ah))),(10,(I (v:Int)))],[(2,(an a0))],H0⟩
abbrev xU(r1:(aT×Int))(x:(Nat×Bool)):aE×St:=((.ex 0),⟨[(2,(.p ⟨0,2⟩ 0)),(8,(.l 44 (((([]:List Level)++r1.1.Vars)++r1.1.Funcs).map ah))),(9,(.l 44 (((([]:List Level)++a1.Vars)++a1.Funcs).map ah))),(10,(I (x.1:Int))),(71,(.b x.2))],[(2,(an a0))],H0⟩)
theorem wN(r1:(aT×Int))(v0_10:Nat)(o:Nat⊕(Nat×Bool))(h:ic a0 a1 r1 v0_10=some o):bG E0 KV (xT a0 a1 r1) (xU a0 a1 r1) v0_10 o:=
 bO (ao (.i ((((([]:List Level)++r1.1.Vars)++r1.1.Funcs).length:Nat):Int))<|.or (iI<|ao (.n v0_10)<|.ex fun (y23:Level)=>ao (.v (.a [(.l 4 (y23.Readers.map AV.b)),(.l 4 (y23.Writers.map AV.b))]))<|ao (.n v0_10)<|.ex fun (y25:Level)=>ao (.v (.a [(.l 4 (y25.Readers.map AV.b)),(.l 4 (y25.Writers.map AV.b))]))<|.ex fun (r27:(Bool×Int))=>ao (.v (.tp [(.b r27.1),(I r27.2)]))<|bt<|bt<|bf<|bf<|ao (.i ((v0_10+1:Nat):Int))<|.nil) (bf<|.nil)) fun L=>ai (ay ah ((([]:List Level)++r1.1.Vars)++r1.1.Funcs))<|bQ h (fun h22 h=>ai (decide_eq_true h22)<|ai tt<|ai tt<|ai (rfl:Z0)<|ai tt<|ai tt<|ai tt<|ai (rI v0_10)<|cw h fun y23 h24 h=>ai (aZ ah h24)<|ai tt<|ai tt<|ai tt<|ai tt<|ai (rI v0_10)<|cw h fun y25 h26 h=>ai (aZ ah h26)<|ai tt<|ai tt<|aJ h (xD a0.aa y23 y25) fun r27 h=>ai tt<|ai tt<|ai tt<|ai tt<|ai tt<|xl h (fun _ h=>tU h) (fun h29 h=>FA h29<|xl h (fun h30 h=>ai (congrArg not h30)<|aV h fun w31 h=>ai w31<|L h) (fun _ h=>tU h))) (fun h22 h=>ai (decide_eq_false h22)<|L h)
abbrev Az(a0:Program)(a1:aT)(r:Bool):aR×HP:=(.ret (.b r),H0)
def o6:Option Bool:=
 (p5 a0).bind fun (r1:(aT×Int))=>
 (oQ).bind fun (r3:Bool)=>
 if r3=true then
  (oR).bind fun (r6:Bool)=>
  if r6=true then
   if (r1.2 !=0)=true then
    some ((r1.1.Vars.length:Int)==0)
   else
    (jx a0 r1.1).bind fun (r10:(Bool×Int))=>
    if (r10.2 !=0)=true then
     none
    else
     if r10.1=true then
      (jx a0 a1).bind fun (r14:(Bool×Int))=>
      if (r14.2 !=0)=true then
       some true
      else
       if r14.1=true then
        if ([]:List Level).length+r1.1.Vars.length≤1000000000 then
         if (([]:List Level)++r1.1.Vars).length+r1.1.Funcs.length≤1000000000 then
          if ([]:List Level).length+a1.Vars.length≤1000000000 then
           if (([]:List Level)++a1.Vars).length+a1.Funcs.length≤1000000000 then
            (lp (fun v=>ic a0 a1 r1 v) 0).bind fun (x22:(Nat×Bool))=>
            some true
           else none
          else none
         else none
        else none
       else
        some true
     else
      none
  else
   none
 else
  none
theorem wO(r:Bool)(h:o6 a0 a1=some r):call G Ω0 E0 3 [(.a (an a0)),(.a [(.l 44 (a1.Vars.map ah)),(.l 44 (a1.Funcs.map ah))])] H0=some (Az a0 a1 r):=
 aH G3 (bt<|.ex fun (r1:(aT×Int))=>ao (.v (.tp [(.a [(.l 44 (r1.1.Vars.map ah)),(.l 44 (r1.1.Funcs.map ah))]),(I r1.2)]))<|iI<|xB fun r3=>bt<|xB fun r6=>bt<|bf<|bf<|.or (iI<|ao (.i (r1.1.Vars.length:Int))<|.nil) (bf<|bt<|bt<|.ex fun (r10:(Bool×Int))=>ao (.v (.tp [(.b r10.1),(I r10.2)]))<|bt<|bt<|bf<|bf<|bt<|bt<|.ex fun (r14:(Bool×Int))=>ao (.v (.tp [(.b r14.1),(I r14.2)]))<|.or (bf<|bf<|bt<|bt<|.nil) (bt<|bt<|bf<|.or (bf<|ao (.l (([]:List Level).map ah))<|bt<|ao (.l ((([]:List Level)++r1.1.Vars).map ah))<|bt<|ao (.l (((([]:List Level)++r1.1.Vars)++r1.1.Funcs).map ah))<|ao (.l (([]:List Level).map ah))<|bt<|ao (.l ((([]:List Level)++a1.Vars).map ah))<|bt<|ao (.l (((([]:List Level)++a1.Vars)++a1.Funcs).map ah))<|.ex fun (x22:(Nat×Bool))=>ao (.lp (.ex 0) ⟨[(2,(.p ⟨0,2⟩ 0)),(8,(.l 44 (((([]:List Level)++r1.1.Vars)++r1.1.Funcs).map ah))),(9,(.l 44 (((([]:List Level)++a1.Vars)++a1.Funcs).map ah))),(10,(I (x22.1:Int))),(71,(.b x22.2))],[(2,(an a0))],H0⟩)<|.nil) (bt<|.nil)))) fun L=>ai tt<|ai tt<|ai (rfl:Z0)<|aJ h (xS a0) fun r1 h=>ai tt<|ai ff<|ai (rfl:Z0)<|ai tt<|ai (rfl:Z0)<|aJ h (wD) fun r3 h=>xl h (fun h5 h=>ai (g0 (congrArg not h5))<|aJ h (wE) fun r6 h=>uL (congrArg not h5)<|xl h (fun h8 h=>ai (congrArg not h8)<|bb h (fun h9 h=>p9 h9<|ai (ay ah r1.1.Vars)<|L h) (fun h9 h=>Js h9<|aJ h (sn a0 r1.1) fun r10 h=>xl h (fun _ h=>tU h) (fun h12 h=>FA h12<|xl h (fun h13 h=>Js (congrArg not h13)<|aJ h (sn a0 a1) fun r14 h=>bb h (fun h16 h=>ai (g0 h16)<|ai (g0 h16)<|ai h16<|ai tt<|L h) (fun h16 h=>FA h16<|bb h (fun h17 h=>ai (congrArg not h17)<|ai tt<|ai (rfl:([]:List AV)=([]:List Level).map ah)<|zM<|aV h fun h18 h=>ai ((jg ah (n:=2) (fun _=>rfl) r1.1.Vars):(r1.1.Vars.map ah).all (fun e=>e.nc==2)=true)<|ai ((np h18 (by decide)):((([]:List Level).map ah).length+(r1.1.Vars.map ah).length)*48≤140737488355328)<|ai ((nq h18):(([]:List Level).map ah).length+(r1.1.Vars.map ah).length≤maxLen)<|ai (List.map_append.symm:([]:List Level).map ah++r1.1.Vars.map ah=(([]:List Level)++r1.1.Vars).map ah)<|zM<|aV h fun h19 h=>ai ((jg ah (n:=2) (fun _=>rfl) r1.1.Funcs):(r1.1.Funcs.map ah).all (fun e=>e.nc==2)=true)<|ai ((np h19 (by decide)):(((([]:List Level)++r1.1.Vars).map ah).length+(r1.1.Funcs.map ah).length)*48≤140737488355328)<|ai ((nq h19):((([]:List Level)++r1.1.Vars).map ah).length+(r1.1.Funcs.map ah).length≤maxLen)<|ai (List.map_append.symm:(([]:List Level)++r1.1.Vars).map ah++r1.1.Funcs.map ah=((([]:List Level)++r1.1.Vars)++r1.1.Funcs).map ah)<|ai tt<|ai (rfl:([]:List AV)=([]:List Level).map ah)<|zM<|aV h fun h20 h=>ai ((jg ah (n:=2) (fun _=>rfl) a1.Vars):(a1.Vars.map ah).all (fun e=>e.nc==2)=true)<|ai ((np h20 (by decide)):((([]:List Level).map ah).length+(a1.Vars.map ah).length)*48≤140737488355328)<|ai ((nq h20):(([]:List Level).map ah).length+(a1.Vars.map ah).length≤maxLen)<|ai (List.map_append.symm:([]:List Level).map ah++a1.Vars.map ah=(([]:List Level)++a1.Vars).map ah)<|zM<|aV h fun h21 h=>ai ((jg ah (n:=2) (fun _=>rfl) a1.Funcs):(a1.Funcs.map ah).all (fun e=>e.nc==2)=true)<|ai ((np h21 (by decide)):(((([]:List Level)++a1.Vars).map ah).length+(a1.Funcs.map ah).length)*48≤140737488355328)<|ai ((nq h21):((([]:List Level)++a1.Vars).map ah).length+(a1.Funcs.map ah).length≤maxLen)<|ai (List.map_append.symm:(([]:List Level)++a1.Vars).map ah++a1.Funcs.map ah=((([]:List Level)++a1.Vars)++a1.Funcs).map ah)<|aJ h (gu (wN a0 a1 r1) 0) fun x22 h=>L h) (fun h17 h=>ai (congrArg not h17)<|L h))) (fun _ h=>tU h)))) (fun _ h=>tU h)) (fun _ h=>tU h)
end
end
end Go.Proofs.Ytkkkkondjclcnaa.A
