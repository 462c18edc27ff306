/- The types of the program, by program. -/
import Derived.Test.YtdpjofmmokaobaaGreatBase
set_option linter.unusedSectionVars false
set_option linter.unusedVariables false
set_option linter.unusedSimpArgs false
namespace Go.Proofs.YtdpjofmmokaobaaGreat.A
open Go
structure aE where
 Kind:Int
 N:Int
 Args:(List aE)
mutual
def aT:aE→AV
 | ⟨x0,x1,x2⟩=>.a [(.i .i64 x0),(.i .i64 x1),(.l 86 (qi x2))]
def qi:List aE→List AV
 | []=>[]
 | x::r=>aT x::qi r
end
theorem AO:∀ l:List aE,qi l=l.map aT
 | []=>by rw [qi];rfl
 | x::r=>by rw [qi,AO r];rfl
theorem eS(x:aE):aT x= .a [(.i .i64 x.Kind),(.i .i64 x.N),(.l 86 (x.Args.map aT))]:=by
 cases x
 simp only [aT,AO]
@[simp] theorem Hy (x:aE):(aT x).pure=true:=by rw [eS];rfl
@[simp] theorem SU (l:List aE):AV.bS (l.map aT)=true:=dh _ Hy l
structure Level where
 Readers:(List Bool)
 Writers:(List Bool)
def av(x:Level):AV:=.a [(.l 4 (x.Readers.map AV.b)),(.l 4 (x.Writers.map AV.b))]
@[simp] theorem UZ (x:Level):(av x).pure=true:=rfl
@[simp] theorem SV (l:List Level):AV.bS (l.map av)=true:=dh _ (fun _=>rfl) l
structure cq where
 Who:Int
 For:Int
def aF(x:cq):AV:=.a [(.i .i64 x.Who),(.i .i64 x.For)]
@[simp] theorem U0 (x:cq):(aF x).pure=true:=rfl
@[simp] theorem SW (l:List cq):AV.bS (l.map aF)=true:=dh _ (fun _=>rfl) l
structure ah where
 Many:Int
 Grants:(List cq)
def Ik(x:ah):AV:=.a [(.i .i64 x.Many),(.l 136 (x.Grants.map aF))]
@[simp] theorem SX (x:ah):(Ik x).pure=true:=rfl
@[simp] theorem PG (l:List ah):AV.bS (l.map Ik)=true:=dh _ (fun _=>rfl) l
structure bC where
 Owner:Int
 Names:(List Int)
def a7(x:bC):AV:=.a [(.i .i64 x.Owner),(.l 3 (x.Names.map (AV.i .i64)))]
@[simp] theorem SY (x:bC):(a7 x).pure=true:=rfl
@[simp] theorem PH (l:List bC):AV.bS (l.map a7)=true:=dh _ (fun _=>rfl) l
structure Label where
 Read:(List bC)
 Write:(List bC)
def au(x:Label):AV:=.a [(.l 134 (x.Read.map a7)),(.l 134 (x.Write.map a7))]
@[simp] theorem U1 (x:Label):(au x).pure=true:=rfl
@[simp] theorem SZ (l:List Label):AV.bS (l.map au)=true:=dh _ (fun _=>rfl) l
structure Var where
 Known:Bool
 Label:Label
def bz(x:Var):AV:=.a [(.b x.Known),(.l 134 (x.Label.Read.map a7)),(.l 134 (x.Label.Write.map a7))]
@[simp] theorem YV (x:Var):(bz x).pure=true:=rfl
@[simp] theorem Xt (l:List Var):AV.bS (l.map bz)=true:=dh _ (fun _=>rfl) l
structure Stmt where
 Kind:Int
 Var:Int
 Other:Int
 Expr:aE
 Args:(List aE)
 Then:(List Stmt)
 Else:(List Stmt)
mutual
def aH:Stmt→AV
 | ⟨x0,x1,x2,x3,x4,x5,x6⟩=>.a [(.i .i64 x0),(.i .i64 x1),(.i .i64 x2),(.i .i64 x3.Kind),(.i .i64 x3.N),(.l 86 (x3.Args.map aT)),(.l 86 (x4.map aT)),(.l 88 (wF x5)),(.l 88 (wF x6))]
def wF:List Stmt→List AV
 | []=>[]
 | x::r=>aH x::wF r
end
theorem Ca:∀ l:List Stmt,wF l=l.map aH
 | []=>by rw [wF];rfl
 | x::r=>by rw [wF,Ca r];rfl
theorem kY(x:Stmt):aH x= .a [(.i .i64 x.Kind),(.i .i64 x.Var),(.i .i64 x.Other),(.i .i64 x.Expr.Kind),(.i .i64 x.Expr.N),(.l 86 (x.Expr.Args.map aT)),(.l 86 (x.Args.map aT)),(.l 88 (x.Then.map aH)),(.l 88 (x.Else.map aH))]:=by
 cases x
 simp only [aH,Ca]
@[simp] theorem Jo (x:Stmt):(aH x).pure=true:=by rw [kY];rfl
@[simp] theorem U2 (l:List Stmt):AV.bS (l.map aH)=true:=dh _ Jo l
structure Func where
 Params:(List Int)
 Body:(List Stmt)
 Result:aE
def ba(x:Func):AV:=.a [(.l 3 (x.Params.map (AV.i .i64))),(.l 88 (x.Body.map aH)),(.i .i64 x.Result.Kind),(.i .i64 x.Result.N),(.l 86 (x.Result.Args.map aT))]
@[simp] theorem Xu (x:Func):(ba x).pure=true:=rfl
@[simp] theorem U3 (l:List Func):AV.bS (l.map ba)=true:=dh _ (fun _=>rfl) l
structure Program where
 ah:ah
 Speak:(List Int)
 Ins:(List Label)
 Outs:(List Label)
 Vars:(List Var)
 Funcs:(List Func)
 Main:(List Stmt)
def ny(x:Program):AV:=.a [(.i .i64 x.ah.Many),(.l 136 (x.ah.Grants.map aF)),(.l 3 (x.Speak.map (AV.i .i64))),(.l 49 (x.Ins.map au)),(.l 49 (x.Outs.map au)),(.l 51 (x.Vars.map bz)),(.l 112 (x.Funcs.map ba)),(.l 88 (x.Main.map aH))]
@[simp] theorem PI (x:Program):(ny x).pure=true:=rfl
@[simp] theorem OP (l:List Program):AV.bS (l.map ny)=true:=dh _ (fun _=>rfl) l
structure aw where
 p:Program
 iB:(List (List Bool))
def F3(x:aw):AV:=.a [(.i .i64 x.p.ah.Many),(.l 136 (x.p.ah.Grants.map aF)),(.l 3 (x.p.Speak.map (AV.i .i64))),(.l 49 (x.p.Ins.map au)),(.l 49 (x.p.Outs.map au)),(.l 51 (x.p.Vars.map bz)),(.l 112 (x.p.Funcs.map ba)),(.l 88 (x.p.Main.map aH)),(.l 52 (x.iB.map (bD 4 AV.b)))]
@[simp] theorem PJ (x:aw):(F3 x).pure=true:=rfl
@[simp] theorem OQ (l:List aw):AV.bS (l.map F3)=true:=dh _ (fun _=>rfl) l
structure Event where
 Kind:Int
 At:Int
 Which:Int
 Value:Int
def aO(x:Event):AV:=.a [(.i .i64 x.Kind),(.i .i64 x.At),(.i .i64 x.Which),(.i .i64 x.Value)]
@[simp] theorem U4 (x:Event):(aO x).pure=true:=rfl
@[simp] theorem S0 (l:List Event):AV.bS (l.map aO)=true:=dh _ (fun _=>rfl) l
structure Checker where
 p:Program
 funcs:Int
def F4(x:Checker):AV:=.a [(.i .i64 x.p.ah.Many),(.l 136 (x.p.ah.Grants.map aF)),(.l 3 (x.p.Speak.map (AV.i .i64))),(.l 49 (x.p.Ins.map au)),(.l 49 (x.p.Outs.map au)),(.l 51 (x.p.Vars.map bz)),(.l 112 (x.p.Funcs.map ba)),(.l 88 (x.p.Main.map aH)),(.i .i64 x.funcs)]
@[simp] theorem PK (x:Checker):(F4 x).pure=true:=rfl
@[simp] theorem OR (l:List Checker):AV.bS (l.map F4)=true:=dh _ (fun _=>rfl) l
structure RunT where
 Events:(List Event)
 Vars:(List Int)
 Taken:(List Int)
 Steps:Int
 End:Int
 Stop:Int
def N9(x:RunT):AV:=.a [(.l 106 (x.Events.map aO)),(.l 3 (x.Vars.map (AV.i .i64))),(.l 3 (x.Taken.map (AV.i .i64))),(.i .i64 x.Steps),(.i .i64 x.End),(.i .i64 x.Stop)]
@[simp] theorem Xv (x:RunT):(N9 x).pure=true:=rfl
@[simp] theorem U5 (l:List RunT):AV.bS (l.map N9)=true:=dh _ (fun _=>rfl) l
structure Runner where
 p:Program
 ins:(List (List Int))
 fuel:Int
 first:(List Int)
 aA:RunT
def Il(x:Runner):AV:=.a [(.i .i64 x.p.ah.Many),(.l 136 (x.p.ah.Grants.map aF)),(.l 3 (x.p.Speak.map (AV.i .i64))),(.l 49 (x.p.Ins.map au)),(.l 49 (x.p.Outs.map au)),(.l 51 (x.p.Vars.map bz)),(.l 112 (x.p.Funcs.map ba)),(.l 88 (x.p.Main.map aH)),(.l 25 (x.ins.map (bD 3 (AV.i .i64)))),(.i .i64 x.fuel),(.l 3 (x.first.map (AV.i .i64))),(.l 106 (x.aA.Events.map aO)),(.l 3 (x.aA.Vars.map (AV.i .i64))),(.l 3 (x.aA.Taken.map (AV.i .i64))),(.i .i64 x.aA.Steps),(.i .i64 x.aA.End),(.i .i64 x.aA.Stop)]
@[simp] theorem S1 (x:Runner):(Il x).pure=true:=rfl
@[simp] theorem PL (l:List Runner):AV.bS (l.map Il)=true:=dh _ (fun _=>rfl) l
structure ak where
 Runner:Unit
 p:Program
 vars:(List Level)
 places:(List Level)
 speak:Unit
structure Task where
 Kind:Int
 At:Int
 S:Stmt
 Places:Int
def Jp(x:Task):AV:=.a [(.i .i64 x.Kind),(.i .i64 x.At),(.i .i64 x.S.Kind),(.i .i64 x.S.Var),(.i .i64 x.S.Other),(.i .i64 x.S.Expr.Kind),(.i .i64 x.S.Expr.N),(.l 86 (x.S.Expr.Args.map aT)),(.l 86 (x.S.Args.map aT)),(.l 88 (x.S.Then.map aH)),(.l 88 (x.S.Else.map aH)),(.i .i64 x.Places)]
@[simp] theorem Xw (x:Task):(Jp x).pure=true:=rfl
@[simp] theorem U6 (l:List Task):AV.bS (l.map Jp)=true:=dh _ (fun _=>rfl) l
structure Machine where
 P:Program
 Ins:(List (List Int))
 Fuel:Int
 R:RunT
 Tasks:(List Task)
 Watch:Bool
 Levels:(List Level)
 Places:(List Level)
def F5(x:Machine):AV:=.a [(.i .i64 x.P.ah.Many),(.l 136 (x.P.ah.Grants.map aF)),(.l 3 (x.P.Speak.map (AV.i .i64))),(.l 49 (x.P.Ins.map au)),(.l 49 (x.P.Outs.map au)),(.l 51 (x.P.Vars.map bz)),(.l 112 (x.P.Funcs.map ba)),(.l 88 (x.P.Main.map aH)),(.l 25 (x.Ins.map (bD 3 (AV.i .i64)))),(.i .i64 x.Fuel),(.l 106 (x.R.Events.map aO)),(.l 3 (x.R.Vars.map (AV.i .i64))),(.l 3 (x.R.Taken.map (AV.i .i64))),(.i .i64 x.R.Steps),(.i .i64 x.R.End),(.i .i64 x.R.Stop),(.l 90 (x.Tasks.map Jp)),(.b x.Watch),(.l 54 (x.Levels.map av)),(.l 54 (x.Places.map av))]
@[simp] theorem PM (x:Machine):(F5 x).pure=true:=rfl
@[simp] theorem OS (l:List Machine):AV.bS (l.map F5)=true:=dh _ (fun _=>rfl) l
abbrev aq(x:Checker):List AV:=[(I x.p.ah.Many),(.l 136 (x.p.ah.Grants.map aF)),(.l 3 (x.p.Speak.map (I))),(.l 49 (x.p.Ins.map au)),(.l 49 (x.p.Outs.map au)),(.l 51 (x.p.Vars.map bz)),(.l 112 (x.p.Funcs.map ba)),(.l 88 (x.p.Main.map aH)),(I x.funcs)]
abbrev Cb(x:Event):List AV:=[(I x.Kind),(I x.At),(I x.Which),(I x.Value)]
abbrev bF(x:aE):List AV:=[(I x.Kind),(I x.N),(.l 86 (x.Args.map aT))]
abbrev cD(x:Func):List AV:=[(.l 3 (x.Params.map (I))),(.l 88 (x.Body.map aH)),(I x.Result.Kind),(I x.Result.N),(.l 86 (x.Result.Args.map aT))]
abbrev ay(x:Program):List AV:=[(I x.ah.Many),(.l 136 (x.ah.Grants.map aF)),(.l 3 (x.Speak.map (I))),(.l 49 (x.Ins.map au)),(.l 49 (x.Outs.map au)),(.l 51 (x.Vars.map bz)),(.l 112 (x.Funcs.map ba)),(.l 88 (x.Main.map aH))]
abbrev iU(x:RunT):List AV:=[(.l 106 (x.Events.map aO)),(.l 3 (x.Vars.map (I))),(.l 3 (x.Taken.map (I))),(I x.Steps),(I x.End),(I x.Stop)]
abbrev e8(x:Runner):List AV:=[(I x.p.ah.Many),(.l 136 (x.p.ah.Grants.map aF)),(.l 3 (x.p.Speak.map (I))),(.l 49 (x.p.Ins.map au)),(.l 49 (x.p.Outs.map au)),(.l 51 (x.p.Vars.map bz)),(.l 112 (x.p.Funcs.map ba)),(.l 88 (x.p.Main.map aH)),(.l 25 (x.ins.map (bD 3 (I)))),(I x.fuel),(.o 3 (x.first.map (I))),(.l 106 (x.aA.Events.map aO)),(.l 3 (x.aA.Vars.map (I))),(.l 3 (x.aA.Taken.map (I))),(I x.aA.Steps),(I x.aA.End),(I x.aA.Stop)]
abbrev mr(x:Runner):List AV:=[(I x.p.ah.Many),(.l 136 (x.p.ah.Grants.map aF)),(.l 3 (x.p.Speak.map (I))),(.l 49 (x.p.Ins.map au)),(.l 49 (x.p.Outs.map au)),(.l 51 (x.p.Vars.map bz)),(.l 112 (x.p.Funcs.map ba)),(.l 88 (x.p.Main.map aH)),(.l 25 (x.ins.map (bD 3 (I)))),(I x.fuel),(.o 3 (x.first.map (I))),(.o 106 (x.aA.Events.map aO)),(.l 3 (x.aA.Vars.map (I))),(.l 3 (x.aA.Taken.map (I))),(I x.aA.Steps),(I x.aA.End),(I x.aA.Stop)]
abbrev cS(x:Runner):List AV:=[(I x.p.ah.Many),(.l 136 (x.p.ah.Grants.map aF)),(.l 3 (x.p.Speak.map (I))),(.l 49 (x.p.Ins.map au)),(.l 49 (x.p.Outs.map au)),(.l 51 (x.p.Vars.map bz)),(.l 112 (x.p.Funcs.map ba)),(.l 88 (x.p.Main.map aH)),(.l 25 (x.ins.map (bD 3 (I)))),(I x.fuel),(.o 3 (x.first.map (I))),(.o 106 (x.aA.Events.map aO)),(.o 3 (x.aA.Vars.map (I))),(.l 3 (x.aA.Taken.map (I))),(I x.aA.Steps),(I x.aA.End),(I x.aA.Stop)]
abbrev aa(x:Runner):List AV:=[(I x.p.ah.Many),(.l 136 (x.p.ah.Grants.map aF)),(.l 3 (x.p.Speak.map (I))),(.l 49 (x.p.Ins.map au)),(.l 49 (x.p.Outs.map au)),(.l 51 (x.p.Vars.map bz)),(.l 112 (x.p.Funcs.map ba)),(.l 88 (x.p.Main.map aH)),(.l 25 (x.ins.map (bD 3 (I)))),(I x.fuel),(.o 3 (x.first.map (I))),(.o 106 (x.aA.Events.map aO)),(.o 3 (x.aA.Vars.map (I))),(.o 3 (x.aA.Taken.map (I))),(I x.aA.Steps),(I x.aA.End),(I x.aA.Stop)]
abbrev bA(x:Runner):List AV:=[(I x.p.ah.Many),(.l 136 (x.p.ah.Grants.map aF)),(.l 3 (x.p.Speak.map (I))),(.l 49 (x.p.Ins.map au)),(.l 49 (x.p.Outs.map au)),(.l 51 (x.p.Vars.map bz)),(.l 112 (x.p.Funcs.map ba)),(.l 88 (x.p.Main.map aH)),(.l 25 (x.ins.map (bD 3 (I)))),(I x.fuel),(.o 3 (x.first.map (I))),(.o 106 (x.aA.Events.map aO)),(.l 3 (x.aA.Vars.map (I))),(.o 3 (x.aA.Taken.map (I))),(I x.aA.Steps),(I x.aA.End),(I x.aA.Stop)]
abbrev cG(x:Runner):List AV:=[(I x.p.ah.Many),(.l 136 (x.p.ah.Grants.map aF)),(.l 3 (x.p.Speak.map (I))),(.l 49 (x.p.Ins.map au)),(.l 49 (x.p.Outs.map au)),(.l 51 (x.p.Vars.map bz)),(.l 112 (x.p.Funcs.map ba)),(.l 88 (x.p.Main.map aH)),(.l 25 (x.ins.map (bD 3 (I)))),(I x.fuel),(.o 3 (x.first.map (I))),(.l 106 (x.aA.Events.map aO)),(.o 3 (x.aA.Vars.map (I))),(.o 3 (x.aA.Taken.map (I))),(I x.aA.Steps),(I x.aA.End),(I x.aA.Stop)]
abbrev mu(x:Runner):List AV:=[(I x.p.ah.Many),(.l 136 (x.p.ah.Grants.map aF)),(.l 3 (x.p.Speak.map (I))),(.l 49 (x.p.Ins.map au)),(.l 49 (x.p.Outs.map au)),(.l 51 (x.p.Vars.map bz)),(.l 112 (x.p.Funcs.map ba)),(.l 88 (x.p.Main.map aH)),(.l 25 (x.ins.map (bD 3 (I)))),(I x.fuel),(.o 3 (x.first.map (I))),(.l 106 (x.aA.Events.map aO)),(.l 3 (x.aA.Vars.map (I))),(.o 3 (x.aA.Taken.map (I))),(I x.aA.Steps),(I x.aA.End),(I x.aA.Stop)]
abbrev ar(x:aw):List AV:=[(I x.p.ah.Many),(.l 136 (x.p.ah.Grants.map aF)),(.l 3 (x.p.Speak.map (I))),(.l 49 (x.p.Ins.map au)),(.l 49 (x.p.Outs.map au)),(.l 51 (x.p.Vars.map bz)),(.l 112 (x.p.Funcs.map ba)),(.l 88 (x.p.Main.map aH)),(.l 52 (x.iB.map (bD 4 AV.b)))]
abbrev af(x:Stmt):List AV:=[(I x.Kind),(I x.Var),(I x.Other),(I x.Expr.Kind),(I x.Expr.N),(.l 86 (x.Expr.Args.map aT)),(.l 86 (x.Args.map aT)),(.l 88 (x.Then.map aH)),(.l 88 (x.Else.map aH))]
abbrev lA(x:Var):List AV:=[(.b x.Known),(.l 134 (x.Label.Read.map a7)),(.l 134 (x.Label.Write.map a7))]
abbrev cg(x:ak):List AV:=[.u,(I x.p.ah.Many),(.l 136 (x.p.ah.Grants.map aF)),(.l 3 (x.p.Speak.map (I))),(.l 49 (x.p.Ins.map au)),(.l 49 (x.p.Outs.map au)),(.l 51 (x.p.Vars.map bz)),(.l 112 (x.p.Funcs.map ba)),(.l 88 (x.p.Main.map aH)),(.l 54 (x.vars.map av)),(.o 54 (x.places.map av)),.u]
abbrev ez(x:ak):List AV:=[.u,(I x.p.ah.Many),(.l 136 (x.p.ah.Grants.map aF)),(.l 3 (x.p.Speak.map (I))),(.l 49 (x.p.Ins.map au)),(.l 49 (x.p.Outs.map au)),(.l 51 (x.p.Vars.map bz)),(.l 112 (x.p.Funcs.map ba)),(.l 88 (x.p.Main.map aH)),(.o 54 (x.vars.map av)),(.l 54 (x.places.map av)),.u]
abbrev dN(x:ak):List AV:=[.u,(I x.p.ah.Many),(.l 136 (x.p.ah.Grants.map aF)),(.l 3 (x.p.Speak.map (I))),(.l 49 (x.p.Ins.map au)),(.l 49 (x.p.Outs.map au)),(.l 51 (x.p.Vars.map bz)),(.l 112 (x.p.Funcs.map ba)),(.l 88 (x.p.Main.map aH)),(.o 54 (x.vars.map av)),(.o 54 (x.places.map av)),.u]
abbrev bL(k1 k2:Key)(c:ak):List AV:=(((dN c).set 0 (.p k1 0)).set 11 (.p k2 0))
abbrev aB(hp:HP)(k0 k1 k2:Key)(c0:ak)(c1:Runner)(c2:aw):HP:=ad (ad (ad hp k0 (bL k1 k2 c0)) k1 (aa c1)) k2 (ar c2)
end Go.Proofs.YtdpjofmmokaobaaGreat.A
