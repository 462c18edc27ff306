/- The types of the program, by program. -/
import Derived.Test.YtndeklbmglgonaaGreatBase
set_option linter.unusedSectionVars false
set_option linter.unusedVariables false
set_option linter.unusedSimpArgs false
namespace Go.Proofs.YtndeklbmglgonaaGreat.A
open Go
structure ag where
 Kind:Int
 N:Int
 Args:(List ag)
mutual
def aD:ag→AV
 | ⟨x0,x1,x2⟩=>.a [(.i .i64 x0),(.i .i64 x1),(.l 63 (uN x2))]
def uN:List ag→List AV
 | []=>[]
 | x::r=>aD x::uN r
end
theorem Ar:∀ l:List ag,uN l=l.map aD
 | []=>by rw [uN];rfl
 | x::r=>by rw [uN,Ar r];rfl
theorem dm(x:ag):aD x= .a [(.i .i64 x.Kind),(.i .i64 x.N),(.l 63 (x.Args.map aD))]:=by
 cases x
 simp only [aD,Ar]
@[simp] theorem Hc (x:ag):(aD x).pure=true:=by rw [dm];rfl
@[simp] theorem Qq (l:List ag):AV.cq (l.map aD)=true:=dC _ Hc l
structure il where
 Who:Int
 For:Int
def aF(x:il):AV:=.a [(.i .i64 x.Who),(.i .i64 x.For)]
@[simp] theorem RP (x:il):(aF x).pure=true:=rfl
@[simp] theorem Qr (l:List il):AV.cq (l.map aF)=true:=dC _ (fun _=>rfl) l
structure an where
 Many:Int
 Grants:(List il)
def HX(x:an):AV:=.a [(.i .i64 x.Many),(.l 115 (x.Grants.map aF))]
@[simp] theorem Qs (x:an):(HX x).pure=true:=rfl
@[simp] theorem Nx (l:List an):AV.cq (l.map HX)=true:=dC _ (fun _=>rfl) l
structure b9 where
 Owner:Int
 Names:(List Int)
def aY(x:b9):AV:=.a [(.i .i64 x.Owner),(.l 3 (x.Names.map (AV.i .i64)))]
@[simp] theorem Qt (x:b9):(aY x).pure=true:=rfl
@[simp] theorem Ny (l:List b9):AV.cq (l.map aY)=true:=dC _ (fun _=>rfl) l
structure Label where
 Read:(List b9)
 Write:(List b9)
def ar(x:Label):AV:=.a [(.l 134 (x.Read.map aY)),(.l 134 (x.Write.map aY))]
@[simp] theorem RQ (x:Label):(ar x).pure=true:=rfl
@[simp] theorem Qu (l:List Label):AV.cq (l.map ar)=true:=dC _ (fun _=>rfl) l
structure Var where
 Known:Bool
 Label:Label
def bH(x:Var):AV:=.a [(.b x.Known),(.l 134 (x.Label.Read.map aY)),(.l 134 (x.Label.Write.map aY))]
@[simp] theorem ZT (x:Var):(bH x).pure=true:=rfl
@[simp] theorem XO (l:List Var):AV.cq (l.map bH)=true:=dC _ (fun _=>rfl) l
structure Stmt where
 Kind:Int
 Var:Int
 Other:Int
 Expr:ag
 Args:(List ag)
 Then:(List Stmt)
 Else:(List Stmt)
mutual
def au:Stmt→AV
 | ⟨x0,x1,x2,x3,x4,x5,x6⟩=>.a [(.i .i64 x0),(.i .i64 x1),(.i .i64 x2),(.i .i64 x3.Kind),(.i .i64 x3.N),(.l 63 (x3.Args.map aD)),(.l 63 (x4.map aD)),(.l 65 (uO x5)),(.l 65 (uO x6))]
def uO:List Stmt→List AV
 | []=>[]
 | x::r=>au x::uO r
end
theorem B4:∀ l:List Stmt,uO l=l.map au
 | []=>by rw [uO];rfl
 | x::r=>by rw [uO,B4 r];rfl
theorem ea(x:Stmt):au x= .a [(.i .i64 x.Kind),(.i .i64 x.Var),(.i .i64 x.Other),(.i .i64 x.Expr.Kind),(.i .i64 x.Expr.N),(.l 63 (x.Expr.Args.map aD)),(.l 63 (x.Args.map aD)),(.l 65 (x.Then.map au)),(.l 65 (x.Else.map au))]:=by
 cases x
 simp only [au,B4]
@[simp] theorem IM (x:Stmt):(au x).pure=true:=by rw [ea];rfl
@[simp] theorem RR (l:List Stmt):AV.cq (l.map au)=true:=dC _ IM l
structure Func where
 Params:(List Int)
 Body:(List Stmt)
 Result:ag
def bc(x:Func):AV:=.a [(.l 3 (x.Params.map (AV.i .i64))),(.l 65 (x.Body.map au)),(.i .i64 x.Result.Kind),(.i .i64 x.Result.N),(.l 63 (x.Result.Args.map aD))]
@[simp] theorem XQ (x:Func):(bc x).pure=true:=rfl
@[simp] theorem RS (l:List Func):AV.cq (l.map bc)=true:=dC _ (fun _=>rfl) l
structure Program where
 an:an
 Speak:(List Int)
 Ins:(List Label)
 Outs:(List Label)
 Vars:(List Var)
 Funcs:(List Func)
 Main:(List Stmt)
def AJ(x:Program):AV:=.a [(.i .i64 x.an.Many),(.l 115 (x.an.Grants.map aF)),(.l 3 (x.Speak.map (AV.i .i64))),(.l 89 (x.Ins.map ar)),(.l 89 (x.Outs.map ar)),(.l 91 (x.Vars.map bH)),(.l 82 (x.Funcs.map bc)),(.l 65 (x.Main.map au))]
@[simp] theorem Nz (x:Program):(AJ x).pure=true:=rfl
@[simp] theorem MR (l:List Program):AV.cq (l.map AJ)=true:=dC _ (fun _=>rfl) l
structure Event where
 Kind:Int
 At:Int
 Which:Int
 Value:Int
def aw(x:Event):AV:=.a [(.i .i64 x.Kind),(.i .i64 x.At),(.i .i64 x.Which),(.i .i64 x.Value)]
@[simp] theorem RT (x:Event):(aw x).pure=true:=rfl
@[simp] theorem Qv (l:List Event):AV.cq (l.map aw)=true:=dC _ (fun _=>rfl) l
structure Checker where
 p:Program
 funcs:Int
def FJ(x:Checker):AV:=.a [(.i .i64 x.p.an.Many),(.l 115 (x.p.an.Grants.map aF)),(.l 3 (x.p.Speak.map (AV.i .i64))),(.l 89 (x.p.Ins.map ar)),(.l 89 (x.p.Outs.map ar)),(.l 91 (x.p.Vars.map bH)),(.l 82 (x.p.Funcs.map bc)),(.l 65 (x.p.Main.map au)),(.i .i64 x.funcs)]
@[simp] theorem NA (x:Checker):(FJ x).pure=true:=rfl
@[simp] theorem MS (l:List Checker):AV.cq (l.map FJ)=true:=dC _ (fun _=>rfl) l
structure RunT where
 Events:(List Event)
 Vars:(List Int)
 Taken:(List Int)
 Steps:Int
 End:Int
 Stop:Int
def Mw(x:RunT):AV:=.a [(.l 73 (x.Events.map aw)),(.l 3 (x.Vars.map (AV.i .i64))),(.l 3 (x.Taken.map (AV.i .i64))),(.i .i64 x.Steps),(.i .i64 x.End),(.i .i64 x.Stop)]
@[simp] theorem XR (x:RunT):(Mw x).pure=true:=rfl
@[simp] theorem RU (l:List RunT):AV.cq (l.map Mw)=true:=dC _ (fun _=>rfl) l
structure Runner where
 p:Program
 ins:(List (List Int))
 fuel:Int
 first:(List Int)
 aE:RunT
def HY(x:Runner):AV:=.a [(.i .i64 x.p.an.Many),(.l 115 (x.p.an.Grants.map aF)),(.l 3 (x.p.Speak.map (AV.i .i64))),(.l 89 (x.p.Ins.map ar)),(.l 89 (x.p.Outs.map ar)),(.l 91 (x.p.Vars.map bH)),(.l 82 (x.p.Funcs.map bc)),(.l 65 (x.p.Main.map au)),(.l 25 (x.ins.map (bM 3 (AV.i .i64)))),(.i .i64 x.fuel),(.l 3 (x.first.map (AV.i .i64))),(.l 73 (x.aE.Events.map aw)),(.l 3 (x.aE.Vars.map (AV.i .i64))),(.l 3 (x.aE.Taken.map (AV.i .i64))),(.i .i64 x.aE.Steps),(.i .i64 x.aE.End),(.i .i64 x.aE.Stop)]
@[simp] theorem Qw (x:Runner):(HY x).pure=true:=rfl
@[simp] theorem NB (l:List Runner):AV.cq (l.map HY)=true:=dC _ (fun _=>rfl) l
structure Level where
 Readers:(List Bool)
 Writers:(List Bool)
def bk(x:Level):AV:=.a [(.l 4 (x.Readers.map AV.b)),(.l 4 (x.Writers.map AV.b))]
@[simp] theorem RW (x:Level):(bk x).pure=true:=rfl
@[simp] theorem Qx (l:List Level):AV.cq (l.map bk)=true:=dC _ (fun _=>rfl) l
structure Task where
 Kind:Int
 At:Int
 S:Stmt
 Places:Int
def az(x:Task):AV:=.a [(.i .i64 x.Kind),(.i .i64 x.At),(.i .i64 x.S.Kind),(.i .i64 x.S.Var),(.i .i64 x.S.Other),(.i .i64 x.S.Expr.Kind),(.i .i64 x.S.Expr.N),(.l 63 (x.S.Expr.Args.map aD)),(.l 63 (x.S.Args.map aD)),(.l 65 (x.S.Then.map au)),(.l 65 (x.S.Else.map au)),(.i .i64 x.Places)]
@[simp] theorem XS (x:Task):(az x).pure=true:=rfl
@[simp] theorem RX (l:List Task):AV.cq (l.map az)=true:=dC _ (fun _=>rfl) l
structure Machine where
 P:Program
 Ins:(List (List Int))
 Fuel:Int
 R:RunT
 Tasks:(List Task)
 Watch:Unit
 Levels:(List Level)
 Places:(List Level)
abbrev ak(x:Checker):List AV:=[(I x.p.an.Many),(.l 115 (x.p.an.Grants.map aF)),(.l 3 (x.p.Speak.map (I))),(.l 89 (x.p.Ins.map ar)),(.l 89 (x.p.Outs.map ar)),(.l 91 (x.p.Vars.map bH)),(.l 82 (x.p.Funcs.map bc)),(.l 65 (x.p.Main.map au)),(I x.funcs)]
abbrev B5(x:Event):List AV:=[(I x.Kind),(I x.At),(I x.Which),(I x.Value)]
abbrev bn(x:ag):List AV:=[(I x.Kind),(I x.N),(.l 63 (x.Args.map aD))]
abbrev bL(x:Func):List AV:=[(.l 3 (x.Params.map (I))),(.l 65 (x.Body.map au)),(I x.Result.Kind),(I x.Result.N),(.l 63 (x.Result.Args.map aD))]
abbrev ab(x:Machine):List AV:=[(I x.P.an.Many),(.l 115 (x.P.an.Grants.map aF)),(.l 3 (x.P.Speak.map (I))),(.l 89 (x.P.Ins.map ar)),(.l 89 (x.P.Outs.map ar)),(.l 91 (x.P.Vars.map bH)),(.l 82 (x.P.Funcs.map bc)),(.l 65 (x.P.Main.map au)),(.l 25 (x.Ins.map (bM 3 (I)))),(I x.Fuel),(.o 73 (x.R.Events.map aw)),(.o 3 (x.R.Vars.map (I))),(.o 3 (x.R.Taken.map (I))),(I x.R.Steps),(I x.R.End),(I x.R.Stop),(.o 67 (x.Tasks.map az)),.u,(.o 57 (x.Levels.map bk)),(.o 57 (x.Places.map bk))]
abbrev aj(x:Machine):List AV:=[(I x.P.an.Many),(.l 115 (x.P.an.Grants.map aF)),(.l 3 (x.P.Speak.map (I))),(.l 89 (x.P.Ins.map ar)),(.l 89 (x.P.Outs.map ar)),(.l 91 (x.P.Vars.map bH)),(.l 82 (x.P.Funcs.map bc)),(.l 65 (x.P.Main.map au)),(.l 25 (x.Ins.map (bM 3 (I)))),(I x.Fuel),(.o 73 (x.R.Events.map aw)),(.o 3 (x.R.Vars.map (I))),(.o 3 (x.R.Taken.map (I))),(I x.R.Steps),(I x.R.End),(I x.R.Stop),(.l 67 (x.Tasks.map az)),.u,(.o 57 (x.Levels.map bk)),(.o 57 (x.Places.map bk))]
abbrev bE(x:Machine):List AV:=[(I x.P.an.Many),(.l 115 (x.P.an.Grants.map aF)),(.l 3 (x.P.Speak.map (I))),(.l 89 (x.P.Ins.map ar)),(.l 89 (x.P.Outs.map ar)),(.l 91 (x.P.Vars.map bH)),(.l 82 (x.P.Funcs.map bc)),(.l 65 (x.P.Main.map au)),(.l 25 (x.Ins.map (bM 3 (I)))),(I x.Fuel),(.o 73 (x.R.Events.map aw)),(.o 3 (x.R.Vars.map (I))),(.l 3 (x.R.Taken.map (I))),(I x.R.Steps),(I x.R.End),(I x.R.Stop),(.o 67 (x.Tasks.map az)),.u,(.o 57 (x.Levels.map bk)),(.o 57 (x.Places.map bk))]
abbrev aK(x:Machine):List AV:=[(I x.P.an.Many),(.l 115 (x.P.an.Grants.map aF)),(.l 3 (x.P.Speak.map (I))),(.l 89 (x.P.Ins.map ar)),(.l 89 (x.P.Outs.map ar)),(.l 91 (x.P.Vars.map bH)),(.l 82 (x.P.Funcs.map bc)),(.l 65 (x.P.Main.map au)),(.l 25 (x.Ins.map (bM 3 (I)))),(I x.Fuel),(.o 73 (x.R.Events.map aw)),(.l 3 (x.R.Vars.map (I))),(.o 3 (x.R.Taken.map (I))),(I x.R.Steps),(I x.R.End),(I x.R.Stop),(.o 67 (x.Tasks.map az)),.u,(.o 57 (x.Levels.map bk)),(.o 57 (x.Places.map bk))]
abbrev cu(x:Machine):List AV:=[(I x.P.an.Many),(.l 115 (x.P.an.Grants.map aF)),(.l 3 (x.P.Speak.map (I))),(.l 89 (x.P.Ins.map ar)),(.l 89 (x.P.Outs.map ar)),(.l 91 (x.P.Vars.map bH)),(.l 82 (x.P.Funcs.map bc)),(.l 65 (x.P.Main.map au)),(.l 25 (x.Ins.map (bM 3 (I)))),(I x.Fuel),(.o 73 (x.R.Events.map aw)),(.l 3 (x.R.Vars.map (I))),(.o 3 (x.R.Taken.map (I))),(I x.R.Steps),(I x.R.End),(I x.R.Stop),(.l 67 (x.Tasks.map az)),.u,(.o 57 (x.Levels.map bk)),(.o 57 (x.Places.map bk))]
abbrev aI(x:Machine):List AV:=[(I x.P.an.Many),(.l 115 (x.P.an.Grants.map aF)),(.l 3 (x.P.Speak.map (I))),(.l 89 (x.P.Ins.map ar)),(.l 89 (x.P.Outs.map ar)),(.l 91 (x.P.Vars.map bH)),(.l 82 (x.P.Funcs.map bc)),(.l 65 (x.P.Main.map au)),(.l 25 (x.Ins.map (bM 3 (I)))),(I x.Fuel),(.o 73 (x.R.Events.map aw)),(.l 3 (x.R.Vars.map (I))),(.l 3 (x.R.Taken.map (I))),(I x.R.Steps),(I x.R.End),(I x.R.Stop),(.o 67 (x.Tasks.map az)),.u,(.o 57 (x.Levels.map bk)),(.o 57 (x.Places.map bk))]
abbrev aL(x:Machine):List AV:=[(I x.P.an.Many),(.l 115 (x.P.an.Grants.map aF)),(.l 3 (x.P.Speak.map (I))),(.l 89 (x.P.Ins.map ar)),(.l 89 (x.P.Outs.map ar)),(.l 91 (x.P.Vars.map bH)),(.l 82 (x.P.Funcs.map bc)),(.l 65 (x.P.Main.map au)),(.l 25 (x.Ins.map (bM 3 (I)))),(I x.Fuel),(.l 73 (x.R.Events.map aw)),(.l 3 (x.R.Vars.map (I))),(.l 3 (x.R.Taken.map (I))),(I x.R.Steps),(I x.R.End),(I x.R.Stop),(.o 67 (x.Tasks.map az)),.u,(.o 57 (x.Levels.map bk)),(.o 57 (x.Places.map bk))]
abbrev ah(x:Program):List AV:=[(I x.an.Many),(.l 115 (x.an.Grants.map aF)),(.l 3 (x.Speak.map (I))),(.l 89 (x.Ins.map ar)),(.l 89 (x.Outs.map ar)),(.l 91 (x.Vars.map bH)),(.l 82 (x.Funcs.map bc)),(.l 65 (x.Main.map au))]
abbrev fp(x:RunT):List AV:=[(.l 73 (x.Events.map aw)),(.l 3 (x.Vars.map (I))),(.l 3 (x.Taken.map (I))),(I x.Steps),(I x.End),(I x.Stop)]
abbrev eX(x:Runner):List AV:=[(I x.p.an.Many),(.l 115 (x.p.an.Grants.map aF)),(.l 3 (x.p.Speak.map (I))),(.l 89 (x.p.Ins.map ar)),(.l 89 (x.p.Outs.map ar)),(.l 91 (x.p.Vars.map bH)),(.l 82 (x.p.Funcs.map bc)),(.l 65 (x.p.Main.map au)),(.l 25 (x.ins.map (bM 3 (I)))),(I x.fuel),(.o 3 (x.first.map (I))),(.l 73 (x.aE.Events.map aw)),(.l 3 (x.aE.Vars.map (I))),(.l 3 (x.aE.Taken.map (I))),(I x.aE.Steps),(I x.aE.End),(I x.aE.Stop)]
abbrev ly(x:Runner):List AV:=[(I x.p.an.Many),(.l 115 (x.p.an.Grants.map aF)),(.l 3 (x.p.Speak.map (I))),(.l 89 (x.p.Ins.map ar)),(.l 89 (x.p.Outs.map ar)),(.l 91 (x.p.Vars.map bH)),(.l 82 (x.p.Funcs.map bc)),(.l 65 (x.p.Main.map au)),(.l 25 (x.ins.map (bM 3 (I)))),(I x.fuel),(.o 3 (x.first.map (I))),(.o 73 (x.aE.Events.map aw)),(.l 3 (x.aE.Vars.map (I))),(.l 3 (x.aE.Taken.map (I))),(I x.aE.Steps),(I x.aE.End),(I x.aE.Stop)]
abbrev cN(x:Runner):List AV:=[(I x.p.an.Many),(.l 115 (x.p.an.Grants.map aF)),(.l 3 (x.p.Speak.map (I))),(.l 89 (x.p.Ins.map ar)),(.l 89 (x.p.Outs.map ar)),(.l 91 (x.p.Vars.map bH)),(.l 82 (x.p.Funcs.map bc)),(.l 65 (x.p.Main.map au)),(.l 25 (x.ins.map (bM 3 (I)))),(I x.fuel),(.o 3 (x.first.map (I))),(.o 73 (x.aE.Events.map aw)),(.o 3 (x.aE.Vars.map (I))),(.l 3 (x.aE.Taken.map (I))),(I x.aE.Steps),(I x.aE.End),(I x.aE.Stop)]
abbrev aa(x:Runner):List AV:=[(I x.p.an.Many),(.l 115 (x.p.an.Grants.map aF)),(.l 3 (x.p.Speak.map (I))),(.l 89 (x.p.Ins.map ar)),(.l 89 (x.p.Outs.map ar)),(.l 91 (x.p.Vars.map bH)),(.l 82 (x.p.Funcs.map bc)),(.l 65 (x.p.Main.map au)),(.l 25 (x.ins.map (bM 3 (I)))),(I x.fuel),(.o 3 (x.first.map (I))),(.o 73 (x.aE.Events.map aw)),(.o 3 (x.aE.Vars.map (I))),(.o 3 (x.aE.Taken.map (I))),(I x.aE.Steps),(I x.aE.End),(I x.aE.Stop)]
abbrev bF(x:Runner):List AV:=[(I x.p.an.Many),(.l 115 (x.p.an.Grants.map aF)),(.l 3 (x.p.Speak.map (I))),(.l 89 (x.p.Ins.map ar)),(.l 89 (x.p.Outs.map ar)),(.l 91 (x.p.Vars.map bH)),(.l 82 (x.p.Funcs.map bc)),(.l 65 (x.p.Main.map au)),(.l 25 (x.ins.map (bM 3 (I)))),(I x.fuel),(.o 3 (x.first.map (I))),(.o 73 (x.aE.Events.map aw)),(.l 3 (x.aE.Vars.map (I))),(.o 3 (x.aE.Taken.map (I))),(I x.aE.Steps),(I x.aE.End),(I x.aE.Stop)]
abbrev cG(x:Runner):List AV:=[(I x.p.an.Many),(.l 115 (x.p.an.Grants.map aF)),(.l 3 (x.p.Speak.map (I))),(.l 89 (x.p.Ins.map ar)),(.l 89 (x.p.Outs.map ar)),(.l 91 (x.p.Vars.map bH)),(.l 82 (x.p.Funcs.map bc)),(.l 65 (x.p.Main.map au)),(.l 25 (x.ins.map (bM 3 (I)))),(I x.fuel),(.o 3 (x.first.map (I))),(.l 73 (x.aE.Events.map aw)),(.o 3 (x.aE.Vars.map (I))),(.o 3 (x.aE.Taken.map (I))),(I x.aE.Steps),(I x.aE.End),(I x.aE.Stop)]
abbrev lz(x:Runner):List AV:=[(I x.p.an.Many),(.l 115 (x.p.an.Grants.map aF)),(.l 3 (x.p.Speak.map (I))),(.l 89 (x.p.Ins.map ar)),(.l 89 (x.p.Outs.map ar)),(.l 91 (x.p.Vars.map bH)),(.l 82 (x.p.Funcs.map bc)),(.l 65 (x.p.Main.map au)),(.l 25 (x.ins.map (bM 3 (I)))),(I x.fuel),(.o 3 (x.first.map (I))),(.l 73 (x.aE.Events.map aw)),(.l 3 (x.aE.Vars.map (I))),(.o 3 (x.aE.Taken.map (I))),(I x.aE.Steps),(I x.aE.End),(I x.aE.Stop)]
abbrev af(x:Stmt):List AV:=[(I x.Kind),(I x.Var),(I x.Other),(I x.Expr.Kind),(I x.Expr.N),(.l 63 (x.Expr.Args.map aD)),(.l 63 (x.Args.map aD)),(.l 65 (x.Then.map au)),(.l 65 (x.Else.map au))]
abbrev aS(x:Task):List AV:=[(I x.Kind),(I x.At),(I x.S.Kind),(I x.S.Var),(I x.S.Other),(I x.S.Expr.Kind),(I x.S.Expr.N),(.l 63 (x.S.Expr.Args.map aD)),(.l 63 (x.S.Args.map aD)),(.l 65 (x.S.Then.map au)),(.l 65 (x.S.Else.map au)),(I x.Places)]
abbrev FK(x:Var):List AV:=[(.b x.Known),(.l 134 (x.Label.Read.map aY)),(.l 134 (x.Label.Write.map aY))]
end Go.Proofs.YtndeklbmglgonaaGreat.A
