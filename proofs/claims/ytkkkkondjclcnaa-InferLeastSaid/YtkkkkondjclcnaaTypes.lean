/- The types of the program, by program. -/
import Derived.Test.YtkkkkondjclcnaaBase
set_option linter.unusedSectionVars false
set_option linter.unusedVariables false
set_option linter.unusedSimpArgs false
namespace Go.Proofs.Ytkkkkondjclcnaa.A
open Go
structure bu where
 Who:Int
 For:Int
def ax(x:bu):AV:=.a [(.i .i64 x.Who),(.i .i64 x.For)]
@[simp] theorem Nz (x:bu):(ax x).pure=true:=rfl
@[simp] theorem Mp (l:List bu):AV.aO (l.map ax)=true:=dq _ (fun _=>rfl) l
structure aa where
 Many:Int
 Grants:(List bu)
def Ek(x:aa):AV:=.a [(.i .i64 x.Many),(.l 93 (x.Grants.map ax))]
@[simp] theorem Mq (x:aa):(Ek x).pure=true:=rfl
@[simp] theorem KM (l:List aa):AV.aO (l.map Ek)=true:=dq _ (fun _=>rfl) l
structure bq where
 Owner:Int
 Names:(List Int)
def aK(x:bq):AV:=.a [(.i .i64 x.Owner),(.l 3 (x.Names.map (AV.i .i64)))]
@[simp] theorem Mr (x:bq):(aK x).pure=true:=rfl
@[simp] theorem KN (l:List bq):AV.aO (l.map aK)=true:=dq _ (fun _=>rfl) l
structure Label where
 Read:(List bq)
 Write:(List bq)
def ar(x:Label):AV:=.a [(.l 95 (x.Read.map aK)),(.l 95 (x.Write.map aK))]
@[simp] theorem NA (x:Label):(ar x).pure=true:=rfl
@[simp] theorem Ms (l:List Label):AV.aO (l.map ar)=true:=dq _ (fun _=>rfl) l
structure Var where
 Known:Bool
 Label:Label
def bB(x:Var):AV:=.a [(.b x.Known),(.l 95 (x.Label.Read.map aK)),(.l 95 (x.Label.Write.map aK))]
@[simp] theorem SB (x:Var):(bB x).pure=true:=rfl
@[simp] theorem QB (l:List Var):AV.aO (l.map bB)=true:=dq _ (fun _=>rfl) l
structure aw where
 Kind:Int
 N:Int
 Args:(List aw)
mutual
def aG:aw→AV
 | ⟨x0,x1,x2⟩=>.a [(.i .i64 x0),(.i .i64 x1),(.l 53 (nU x2))]
def nU:List aw→List AV
 | []=>[]
 | x::r=>aG x::nU r
end
theorem wS:∀ l:List aw,nU l=l.map aG
 | []=>by rw [nU];rfl
 | x::r=>by rw [nU,wS r];rfl
theorem iJ(x:aw):aG x= .a [(.i .i64 x.Kind),(.i .i64 x.N),(.l 53 (x.Args.map aG))]:=by
 cases x
 simp only [aG,wS]
@[simp] theorem DR (x:aw):(aG x).pure=true:=by rw [iJ];rfl
@[simp] theorem Mt (l:List aw):AV.aO (l.map aG)=true:=dq _ DR l
structure Stmt where
 Kind:Int
 Var:Int
 Other:Int
 Expr:aw
 Args:(List aw)
 Then:(List Stmt)
 Else:(List Stmt)
mutual
def aI:Stmt→AV
 | ⟨x0,x1,x2,x3,x4,x5,x6⟩=>.a [(.i .i64 x0),(.i .i64 x1),(.i .i64 x2),(.i .i64 x3.Kind),(.i .i64 x3.N),(.l 53 (x3.Args.map aG)),(.l 53 (x4.map aG)),(.l 74 (sY x5)),(.l 74 (sY x6))]
def sY:List Stmt→List AV
 | []=>[]
 | x::r=>aI x::sY r
end
theorem yA:∀ l:List Stmt,sY l=l.map aI
 | []=>by rw [sY];rfl
 | x::r=>by rw [sY,yA r];rfl
theorem jH(x:Stmt):aI x= .a [(.i .i64 x.Kind),(.i .i64 x.Var),(.i .i64 x.Other),(.i .i64 x.Expr.Kind),(.i .i64 x.Expr.N),(.l 53 (x.Expr.Args.map aG)),(.l 53 (x.Args.map aG)),(.l 74 (x.Then.map aI)),(.l 74 (x.Else.map aI))]:=by
 cases x
 simp only [aI,yA]
@[simp] theorem FC (x:Stmt):(aI x).pure=true:=by rw [jH];rfl
@[simp] theorem NB (l:List Stmt):AV.aO (l.map aI)=true:=dq _ FC l
structure Func where
 Params:(List Int)
 Body:(List Stmt)
 Result:aw
def bC(x:Func):AV:=.a [(.l 3 (x.Params.map (AV.i .i64))),(.l 74 (x.Body.map aI)),(.i .i64 x.Result.Kind),(.i .i64 x.Result.N),(.l 53 (x.Result.Args.map aG))]
@[simp] theorem QC (x:Func):(bC x).pure=true:=rfl
@[simp] theorem NC (l:List Func):AV.aO (l.map bC)=true:=dq _ (fun _=>rfl) l
structure Program where
 aa:aa
 Speak:(List Int)
 Ins:(List Label)
 Outs:(List Label)
 Vars:(List Var)
 Funcs:(List Func)
 Main:(List Stmt)
def k4(x:Program):AV:=.a [(.i .i64 x.aa.Many),(.l 93 (x.aa.Grants.map ax)),(.l 3 (x.Speak.map (AV.i .i64))),(.l 60 (x.Ins.map ar)),(.l 60 (x.Outs.map ar)),(.l 67 (x.Vars.map bB)),(.l 85 (x.Funcs.map bC)),(.l 74 (x.Main.map aI))]
@[simp] theorem KO (x:Program):(k4 x).pure=true:=rfl
@[simp] theorem J2 (l:List Program):AV.aO (l.map k4)=true:=dq _ (fun _=>rfl) l
structure Checker where
 p:Program
 funcs:Int
def Cq(x:Checker):AV:=.a [(.i .i64 x.p.aa.Many),(.l 93 (x.p.aa.Grants.map ax)),(.l 3 (x.p.Speak.map (AV.i .i64))),(.l 60 (x.p.Ins.map ar)),(.l 60 (x.p.Outs.map ar)),(.l 67 (x.p.Vars.map bB)),(.l 85 (x.p.Funcs.map bC)),(.l 74 (x.p.Main.map aI)),(.i .i64 x.funcs)]
@[simp] theorem KP (x:Checker):(Cq x).pure=true:=rfl
@[simp] theorem J3 (l:List Checker):AV.aO (l.map Cq)=true:=dq _ (fun _=>rfl) l
structure Level where
 Readers:(List Bool)
 Writers:(List Bool)
def ah(x:Level):AV:=.a [(.l 4 (x.Readers.map AV.b)),(.l 4 (x.Writers.map AV.b))]
@[simp] theorem ND (x:Level):(ah x).pure=true:=rfl
@[simp] theorem Mu (l:List Level):AV.aO (l.map ah)=true:=dq _ (fun _=>rfl) l
structure aT where
 Vars:(List Level)
 Funcs:(List Level)
def zN(x:aT):AV:=.a [(.l 44 (x.Vars.map ah)),(.l 44 (x.Funcs.map ah))]
@[simp] theorem Mv (x:aT):(zN x).pure=true:=rfl
@[simp] theorem KQ (l:List aT):AV.aO (l.map zN)=true:=dq _ (fun _=>rfl) l
structure bJ where
 Level:Level
 To:Int
 Func:Bool
def cC(x:bJ):AV:=.a [(.l 4 (x.Level.Readers.map AV.b)),(.l 4 (x.Level.Writers.map AV.b)),(.i .i64 x.To),(.b x.Func)]
@[simp] theorem QD (x:bJ):(cC x).pure=true:=rfl
@[simp] theorem NF (l:List bJ):AV.aO (l.map cC)=true:=dq _ (fun _=>rfl) l
abbrev ad(x:Checker):List AV:=[(I x.p.aa.Many),(.l 93 (x.p.aa.Grants.map ax)),(.l 3 (x.p.Speak.map (I))),(.l 60 (x.p.Ins.map ar)),(.l 60 (x.p.Outs.map ar)),(.l 67 (x.p.Vars.map bB)),(.l 85 (x.p.Funcs.map bC)),(.l 74 (x.p.Main.map aI)),(I x.funcs)]
abbrev dc(x:aw):List AV:=[(I x.Kind),(I x.N),(.l 53 (x.Args.map aG))]
abbrev cN(x:Func):List AV:=[(.l 3 (x.Params.map (I))),(.l 74 (x.Body.map aI)),(I x.Result.Kind),(I x.Result.N),(.l 53 (x.Result.Args.map aG))]
abbrev an(x:Program):List AV:=[(I x.aa.Many),(.l 93 (x.aa.Grants.map ax)),(.l 3 (x.Speak.map (I))),(.l 60 (x.Ins.map ar)),(.l 60 (x.Outs.map ar)),(.l 67 (x.Vars.map bB)),(.l 85 (x.Funcs.map bC)),(.l 74 (x.Main.map aI))]
abbrev av(x:Stmt):List AV:=[(I x.Kind),(I x.Var),(I x.Other),(I x.Expr.Kind),(I x.Expr.N),(.l 53 (x.Expr.Args.map aG)),(.l 53 (x.Args.map aG)),(.l 74 (x.Then.map aI)),(.l 74 (x.Else.map aI))]
abbrev HK(x:Var):List AV:=[(.b x.Known),(.l 95 (x.Label.Read.map aK)),(.l 95 (x.Label.Write.map aK))]
end Go.Proofs.Ytkkkkondjclcnaa.A
