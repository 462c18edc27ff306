/- The types of the program, by program. -/
import Derived.Test.YtdpjofmmokaobaaGreatBase
set_option linter.unusedSectionVars false
set_option linter.unusedVariables false
set_option linter.unusedSimpArgs false
namespace Go.Proofs.YtdpjofmmokaobaaGreat.A
open Go
structure aC where
 Kind:Int
 N:Int
 Args:(List aC)
mutual
def aR:aC→AV
 | ⟨x0,x1,x2⟩=>.a [(.i .i64 x0),(.i .i64 x1),(.l 86 (qa x2))]
def qa:List aC→List AV
 | []=>[]
 | x::r=>aR x::qa r
end
theorem Aj:∀ l:List aC,qa l=l.map aR
 | []=>by rw [qa];rfl
 | x::r=>by rw [qa,Aj r];rfl
theorem eN(x:aC):aR x= .a [(.i .i64 x.Kind),(.i .i64 x.N),(.l 86 (x.Args.map aR))]:=by
 cases x
 simp only [aR,Aj]
@[simp] theorem GR (x:aC):(aR x).pure=true:=by rw [eN];rfl
@[simp] theorem R0 (l:List aC):AV.bK (l.map aR)=true:=cY _ GR l
structure Level where
 Readers:(List Bool)
 Writers:(List Bool)
def au(x:Level):AV:=.a [(.l 4 (x.Readers.map AV.b)),(.l 4 (x.Writers.map AV.b))]
@[simp] theorem T8 (x:Level):(au x).pure=true:=rfl
@[simp] theorem R1 (l:List Level):AV.bK (l.map au)=true:=cY _ (fun _=>rfl) l
structure b9 where
 Who:Int
 For:Int
def az(x:b9):AV:=.a [(.i .i64 x.Who),(.i .i64 x.For)]
@[simp] theorem T9 (x:b9):(az x).pure=true:=rfl
@[simp] theorem R2 (l:List b9):AV.bK (l.map az)=true:=cY _ (fun _=>rfl) l
structure af where
 Many:Int
 Grants:(List b9)
def Hy(x:af):AV:=.a [(.i .i64 x.Many),(.l 136 (x.Grants.map az))]
@[simp] theorem R3 (x:af):(Hy x).pure=true:=rfl
@[simp] theorem OI (l:List af):AV.bK (l.map Hy)=true:=cY _ (fun _=>rfl) l
structure bw where
 Owner:Int
 Names:(List Int)
def aT(x:bw):AV:=.a [(.i .i64 x.Owner),(.l 3 (x.Names.map (AV.i .i64)))]
@[simp] theorem R4 (x:bw):(aT x).pure=true:=rfl
@[simp] theorem OJ (l:List bw):AV.bK (l.map aT)=true:=cY _ (fun _=>rfl) l
structure Label where
 Read:(List bw)
 Write:(List bw)
def av(x:Label):AV:=.a [(.l 134 (x.Read.map aT)),(.l 134 (x.Write.map aT))]
@[simp] theorem Ua (x:Label):(av x).pure=true:=rfl
@[simp] theorem R5 (l:List Label):AV.bK (l.map av)=true:=cY _ (fun _=>rfl) l
structure Var where
 Known:Bool
 Label:Label
def bm(x:Var):AV:=.a [(.b x.Known),(.l 134 (x.Label.Read.map aT)),(.l 134 (x.Label.Write.map aT))]
@[simp] theorem YP (x:Var):(bm x).pure=true:=rfl
@[simp] theorem WO (l:List Var):AV.bK (l.map bm)=true:=cY _ (fun _=>rfl) l
structure Stmt where
 Kind:Int
 Var:Int
 Other:Int
 Expr:aC
 Args:(List aC)
 Then:(List Stmt)
 Else:(List Stmt)
mutual
def aH:Stmt→AV
 | ⟨x0,x1,x2,x3,x4,x5,x6⟩=>.a [(.i .i64 x0),(.i .i64 x1),(.i .i64 x2),(.i .i64 x3.Kind),(.i .i64 x3.N),(.l 86 (x3.Args.map aR)),(.l 86 (x4.map aR)),(.l 88 (vZ x5)),(.l 88 (vZ x6))]
def vZ:List Stmt→List AV
 | []=>[]
 | x::r=>aH x::vZ r
end
theorem BC:∀ l:List Stmt,vZ l=l.map aH
 | []=>by rw [vZ];rfl
 | x::r=>by rw [vZ,BC r];rfl
theorem lJ(x:Stmt):aH x= .a [(.i .i64 x.Kind),(.i .i64 x.Var),(.i .i64 x.Other),(.i .i64 x.Expr.Kind),(.i .i64 x.Expr.N),(.l 86 (x.Expr.Args.map aR)),(.l 86 (x.Args.map aR)),(.l 88 (x.Then.map aH)),(.l 88 (x.Else.map aH))]:=by
 cases x
 simp only [aH,BC]
@[simp] theorem IH (x:Stmt):(aH x).pure=true:=by rw [lJ];rfl
@[simp] theorem Ub (l:List Stmt):AV.bK (l.map aH)=true:=cY _ IH l
structure Func where
 Params:(List Int)
 Body:(List Stmt)
 Result:aC
def a7(x:Func):AV:=.a [(.l 3 (x.Params.map (AV.i .i64))),(.l 88 (x.Body.map aH)),(.i .i64 x.Result.Kind),(.i .i64 x.Result.N),(.l 86 (x.Result.Args.map aR))]
@[simp] theorem WQ (x:Func):(a7 x).pure=true:=rfl
@[simp] theorem Uc (l:List Func):AV.bK (l.map a7)=true:=cY _ (fun _=>rfl) l
structure Program where
 af:af
 Speak:(List Int)
 Ins:(List Label)
 Outs:(List Label)
 Vars:(List Var)
 Funcs:(List Func)
 Main:(List Stmt)
def m5(x:Program):AV:=.a [(.i .i64 x.af.Many),(.l 136 (x.af.Grants.map az)),(.l 3 (x.Speak.map (AV.i .i64))),(.l 49 (x.Ins.map av)),(.l 49 (x.Outs.map av)),(.l 51 (x.Vars.map bm)),(.l 112 (x.Funcs.map a7)),(.l 88 (x.Main.map aH))]
@[simp] theorem OK (x:Program):(m5 x).pure=true:=rfl
@[simp] theorem NO (l:List Program):AV.bK (l.map m5)=true:=cY _ (fun _=>rfl) l
structure aw where
 p:Program
 gh:(List (List Bool))
def Fj(x:aw):AV:=.a [(.i .i64 x.p.af.Many),(.l 136 (x.p.af.Grants.map az)),(.l 3 (x.p.Speak.map (AV.i .i64))),(.l 49 (x.p.Ins.map av)),(.l 49 (x.p.Outs.map av)),(.l 51 (x.p.Vars.map bm)),(.l 112 (x.p.Funcs.map a7)),(.l 88 (x.p.Main.map aH)),(.l 52 (x.gh.map (bB 4 AV.b)))]
@[simp] theorem OL (x:aw):(Fj x).pure=true:=rfl
@[simp] theorem NP (l:List aw):AV.bK (l.map Fj)=true:=cY _ (fun _=>rfl) l
structure Event where
 Kind:Int
 At:Int
 Which:Int
 Value:Int
def bL(x:Event):AV:=.a [(.i .i64 x.Kind),(.i .i64 x.At),(.i .i64 x.Which),(.i .i64 x.Value)]
@[simp] theorem Ud (x:Event):(bL x).pure=true:=rfl
@[simp] theorem R6 (l:List Event):AV.bK (l.map bL)=true:=cY _ (fun _=>rfl) l
structure Checker where
 p:Program
 funcs:Int
def Fk(x:Checker):AV:=.a [(.i .i64 x.p.af.Many),(.l 136 (x.p.af.Grants.map az)),(.l 3 (x.p.Speak.map (AV.i .i64))),(.l 49 (x.p.Ins.map av)),(.l 49 (x.p.Outs.map av)),(.l 51 (x.p.Vars.map bm)),(.l 112 (x.p.Funcs.map a7)),(.l 88 (x.p.Main.map aH)),(.i .i64 x.funcs)]
@[simp] theorem OM (x:Checker):(Fk x).pure=true:=rfl
@[simp] theorem NQ (l:List Checker):AV.bK (l.map Fk)=true:=cY _ (fun _=>rfl) l
structure RunT where
 Events:(List Event)
 Vars:(List Int)
 Taken:(List Int)
 Steps:Int
 End:Int
 Stop:Int
def Nb(x:RunT):AV:=.a [(.l 106 (x.Events.map bL)),(.l 3 (x.Vars.map (AV.i .i64))),(.l 3 (x.Taken.map (AV.i .i64))),(.i .i64 x.Steps),(.i .i64 x.End),(.i .i64 x.Stop)]
@[simp] theorem WR (x:RunT):(Nb x).pure=true:=rfl
@[simp] theorem Ue (l:List RunT):AV.bK (l.map Nb)=true:=cY _ (fun _=>rfl) l
structure Runner where
 p:Program
 ins:(List (List Int))
 fuel:Int
 first:(List Int)
 aK:RunT
def Hz(x:Runner):AV:=.a [(.i .i64 x.p.af.Many),(.l 136 (x.p.af.Grants.map az)),(.l 3 (x.p.Speak.map (AV.i .i64))),(.l 49 (x.p.Ins.map av)),(.l 49 (x.p.Outs.map av)),(.l 51 (x.p.Vars.map bm)),(.l 112 (x.p.Funcs.map a7)),(.l 88 (x.p.Main.map aH)),(.l 25 (x.ins.map (bB 3 (AV.i .i64)))),(.i .i64 x.fuel),(.l 3 (x.first.map (AV.i .i64))),(.l 106 (x.aK.Events.map bL)),(.l 3 (x.aK.Vars.map (AV.i .i64))),(.l 3 (x.aK.Taken.map (AV.i .i64))),(.i .i64 x.aK.Steps),(.i .i64 x.aK.End),(.i .i64 x.aK.Stop)]
@[simp] theorem R7 (x:Runner):(Hz x).pure=true:=rfl
@[simp] theorem ON (l:List Runner):AV.bK (l.map Hz)=true:=cY _ (fun _=>rfl) l
structure ak where
 Runner:Unit
 p:Program
 vars:(List Level)
 places:(List Level)
 speak:Unit
structure Task where
 Kind:Int
 At:Int
 S:Stmt
 Places:Int
def II(x:Task):AV:=.a [(.i .i64 x.Kind),(.i .i64 x.At),(.i .i64 x.S.Kind),(.i .i64 x.S.Var),(.i .i64 x.S.Other),(.i .i64 x.S.Expr.Kind),(.i .i64 x.S.Expr.N),(.l 86 (x.S.Expr.Args.map aR)),(.l 86 (x.S.Args.map aR)),(.l 88 (x.S.Then.map aH)),(.l 88 (x.S.Else.map aH)),(.i .i64 x.Places)]
@[simp] theorem WS (x:Task):(II x).pure=true:=rfl
@[simp] theorem Uf (l:List Task):AV.bK (l.map II)=true:=cY _ (fun _=>rfl) l
structure Machine where
 P:Program
 Ins:(List (List Int))
 Fuel:Int
 R:RunT
 Tasks:(List Task)
 Watch:Bool
 Levels:(List Level)
 Places:(List Level)
def Fl(x:Machine):AV:=.a [(.i .i64 x.P.af.Many),(.l 136 (x.P.af.Grants.map az)),(.l 3 (x.P.Speak.map (AV.i .i64))),(.l 49 (x.P.Ins.map av)),(.l 49 (x.P.Outs.map av)),(.l 51 (x.P.Vars.map bm)),(.l 112 (x.P.Funcs.map a7)),(.l 88 (x.P.Main.map aH)),(.l 25 (x.Ins.map (bB 3 (AV.i .i64)))),(.i .i64 x.Fuel),(.l 106 (x.R.Events.map bL)),(.l 3 (x.R.Vars.map (AV.i .i64))),(.l 3 (x.R.Taken.map (AV.i .i64))),(.i .i64 x.R.Steps),(.i .i64 x.R.End),(.i .i64 x.R.Stop),(.l 90 (x.Tasks.map II)),(.b x.Watch),(.l 54 (x.Levels.map au)),(.l 54 (x.Places.map au))]
@[simp] theorem OO (x:Machine):(Fl x).pure=true:=rfl
@[simp] theorem NR (l:List Machine):AV.bK (l.map Fl)=true:=cY _ (fun _=>rfl) l
abbrev aq(x:Checker):List AV:=[(I x.p.af.Many),(.l 136 (x.p.af.Grants.map az)),(.l 3 (x.p.Speak.map (I))),(.l 49 (x.p.Ins.map av)),(.l 49 (x.p.Outs.map av)),(.l 51 (x.p.Vars.map bm)),(.l 112 (x.p.Funcs.map a7)),(.l 88 (x.p.Main.map aH)),(I x.funcs)]
abbrev bA(x:aC):List AV:=[(I x.Kind),(I x.N),(.l 86 (x.Args.map aR))]
abbrev ct(x:Func):List AV:=[(.l 3 (x.Params.map (I))),(.l 88 (x.Body.map aH)),(I x.Result.Kind),(I x.Result.N),(.l 86 (x.Result.Args.map aR))]
abbrev aA(x:Program):List AV:=[(I x.af.Many),(.l 136 (x.af.Grants.map az)),(.l 3 (x.Speak.map (I))),(.l 49 (x.Ins.map av)),(.l 49 (x.Outs.map av)),(.l 51 (x.Vars.map bm)),(.l 112 (x.Funcs.map a7)),(.l 88 (x.Main.map aH))]
abbrev BD(x:RunT):List AV:=[(.l 106 (x.Events.map bL)),(.l 3 (x.Vars.map (I))),(.l 3 (x.Taken.map (I))),(I x.Steps),(I x.End),(I x.Stop)]
abbrev lU(x:Runner):List AV:=[(I x.p.af.Many),(.l 136 (x.p.af.Grants.map az)),(.l 3 (x.p.Speak.map (I))),(.l 49 (x.p.Ins.map av)),(.l 49 (x.p.Outs.map av)),(.l 51 (x.p.Vars.map bm)),(.l 112 (x.p.Funcs.map a7)),(.l 88 (x.p.Main.map aH)),(.l 25 (x.ins.map (bB 3 (I)))),(I x.fuel),(.o 3 (x.first.map (I))),(.o 106 (x.aK.Events.map bL)),(.l 3 (x.aK.Vars.map (I))),(.l 3 (x.aK.Taken.map (I))),(I x.aK.Steps),(I x.aK.End),(I x.aK.Stop)]
abbrev cH(x:Runner):List AV:=[(I x.p.af.Many),(.l 136 (x.p.af.Grants.map az)),(.l 3 (x.p.Speak.map (I))),(.l 49 (x.p.Ins.map av)),(.l 49 (x.p.Outs.map av)),(.l 51 (x.p.Vars.map bm)),(.l 112 (x.p.Funcs.map a7)),(.l 88 (x.p.Main.map aH)),(.l 25 (x.ins.map (bB 3 (I)))),(I x.fuel),(.o 3 (x.first.map (I))),(.o 106 (x.aK.Events.map bL)),(.o 3 (x.aK.Vars.map (I))),(.l 3 (x.aK.Taken.map (I))),(I x.aK.Steps),(I x.aK.End),(I x.aK.Stop)]
abbrev aa(x:Runner):List AV:=[(I x.p.af.Many),(.l 136 (x.p.af.Grants.map az)),(.l 3 (x.p.Speak.map (I))),(.l 49 (x.p.Ins.map av)),(.l 49 (x.p.Outs.map av)),(.l 51 (x.p.Vars.map bm)),(.l 112 (x.p.Funcs.map a7)),(.l 88 (x.p.Main.map aH)),(.l 25 (x.ins.map (bB 3 (I)))),(I x.fuel),(.o 3 (x.first.map (I))),(.o 106 (x.aK.Events.map bL)),(.o 3 (x.aK.Vars.map (I))),(.o 3 (x.aK.Taken.map (I))),(I x.aK.Steps),(I x.aK.End),(I x.aK.Stop)]
abbrev br(x:Runner):List AV:=[(I x.p.af.Many),(.l 136 (x.p.af.Grants.map az)),(.l 3 (x.p.Speak.map (I))),(.l 49 (x.p.Ins.map av)),(.l 49 (x.p.Outs.map av)),(.l 51 (x.p.Vars.map bm)),(.l 112 (x.p.Funcs.map a7)),(.l 88 (x.p.Main.map aH)),(.l 25 (x.ins.map (bB 3 (I)))),(I x.fuel),(.o 3 (x.first.map (I))),(.o 106 (x.aK.Events.map bL)),(.l 3 (x.aK.Vars.map (I))),(.o 3 (x.aK.Taken.map (I))),(I x.aK.Steps),(I x.aK.End),(I x.aK.Stop)]
abbrev e9(x:Runner):List AV:=[(I x.p.af.Many),(.l 136 (x.p.af.Grants.map az)),(.l 3 (x.p.Speak.map (I))),(.l 49 (x.p.Ins.map av)),(.l 49 (x.p.Outs.map av)),(.l 51 (x.p.Vars.map bm)),(.l 112 (x.p.Funcs.map a7)),(.l 88 (x.p.Main.map aH)),(.l 25 (x.ins.map (bB 3 (I)))),(I x.fuel),(.o 3 (x.first.map (I))),(.l 106 (x.aK.Events.map bL)),(.o 3 (x.aK.Vars.map (I))),(.o 3 (x.aK.Taken.map (I))),(I x.aK.Steps),(I x.aK.End),(I x.aK.Stop)]
abbrev ar(x:aw):List AV:=[(I x.p.af.Many),(.l 136 (x.p.af.Grants.map az)),(.l 3 (x.p.Speak.map (I))),(.l 49 (x.p.Ins.map av)),(.l 49 (x.p.Outs.map av)),(.l 51 (x.p.Vars.map bm)),(.l 112 (x.p.Funcs.map a7)),(.l 88 (x.p.Main.map aH)),(.l 52 (x.gh.map (bB 4 AV.b)))]
abbrev ah(x:Stmt):List AV:=[(I x.Kind),(I x.Var),(I x.Other),(I x.Expr.Kind),(I x.Expr.N),(.l 86 (x.Expr.Args.map aR)),(.l 86 (x.Args.map aR)),(.l 88 (x.Then.map aH)),(.l 88 (x.Else.map aH))]
abbrev jW(x:Var):List AV:=[(.b x.Known),(.l 134 (x.Label.Read.map aT)),(.l 134 (x.Label.Write.map aT))]
abbrev bY(x:ak):List AV:=[.u,(I x.p.af.Many),(.l 136 (x.p.af.Grants.map az)),(.l 3 (x.p.Speak.map (I))),(.l 49 (x.p.Ins.map av)),(.l 49 (x.p.Outs.map av)),(.l 51 (x.p.Vars.map bm)),(.l 112 (x.p.Funcs.map a7)),(.l 88 (x.p.Main.map aH)),(.l 54 (x.vars.map au)),(.o 54 (x.places.map au)),.u]
abbrev ep(x:ak):List AV:=[.u,(I x.p.af.Many),(.l 136 (x.p.af.Grants.map az)),(.l 3 (x.p.Speak.map (I))),(.l 49 (x.p.Ins.map av)),(.l 49 (x.p.Outs.map av)),(.l 51 (x.p.Vars.map bm)),(.l 112 (x.p.Funcs.map a7)),(.l 88 (x.p.Main.map aH)),(.o 54 (x.vars.map au)),(.l 54 (x.places.map au)),.u]
abbrev dG(x:ak):List AV:=[.u,(I x.p.af.Many),(.l 136 (x.p.af.Grants.map az)),(.l 3 (x.p.Speak.map (I))),(.l 49 (x.p.Ins.map av)),(.l 49 (x.p.Outs.map av)),(.l 51 (x.p.Vars.map bm)),(.l 112 (x.p.Funcs.map a7)),(.l 88 (x.p.Main.map aH)),(.o 54 (x.vars.map au)),(.o 54 (x.places.map au)),.u]
abbrev bF(k1 k2:Key)(c:ak):List AV:=(((dG c).set 0 (.p k1 0)).set 11 (.p k2 0))
abbrev aB(hp:HP)(k0 k1 k2:Key)(c0:ak)(c1:Runner)(c2:aw):HP:=ad (ad (ad hp k0 (bF k1 k2 c0)) k1 (aa c1)) k2 (ar c2)
end Go.Proofs.YtdpjofmmokaobaaGreat.A
