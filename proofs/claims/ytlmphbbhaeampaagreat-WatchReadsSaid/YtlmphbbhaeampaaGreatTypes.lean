/- The types of the program, by program. -/
import Derived.Test.YtlmphbbhaeampaaGreatBase
set_option linter.all false
namespace Go.Proofs.YtlmphbbhaeampaaGreat.A
open Go
structure aK where
 Kind:Int
 N:Int
 Args:(List aK)
mutual
def bM:aK→AV
 | ⟨x0,x1,x2⟩=>.a [(.i .i64 x0),(.i .i64 x1),(.l 89 (tq x2))]
def tq:List aK→List AV
 | []=>[]
 | x::r=>bM x::tq r
end
theorem FE:∀ l:List aK,tq l=l.map bM
 | []=>by rw [tq];rfl
 | x::r=>by rw [tq,FE r];rfl
theorem fT(x:aK):bM x= .a [(.i .i64 x.Kind),(.i .i64 x.N),(.l 89 (x.Args.map bM))]:=by
 cases x
 simp only [bM,FE]
@[simp] theorem NS (x:aK):(bM x).pure=true:=by rw [fT];rfl
@[simp] theorem ac5 (l:List aK):AV.bJ (l.map bM)=true:=de _ NS l
structure dv where
 Who:Int
 For:Int
def bW(x:dv):AV:=.a [(.i .i64 x.Who),(.i .i64 x.For)]
@[simp] theorem adK (x:dv):(bW x).pure=true:=rfl
@[simp] theorem ac6 (l:List dv):AV.bJ (l.map bW)=true:=de _ (fun _=>rfl) l
structure an where
 Many:Int
 Grants:(List dv)
def OW(x:an):AV:=.a [(.i .i64 x.Many),(.l 79 (x.Grants.map bW))]
@[simp] theorem ac7 (x:an):(OW x).pure=true:=rfl
@[simp] theorem WI (l:List an):AV.bJ (l.map OW)=true:=de _ (fun _=>rfl) l
structure cb where
 Owner:Int
 Names:(List Int)
def cg(x:cb):AV:=.a [(.i .i64 x.Owner),(.l 3 (x.Names.map (AV.i .i64)))]
@[simp] theorem ac8 (x:cb):(cg x).pure=true:=rfl
@[simp] theorem WJ (l:List cb):AV.bJ (l.map cg)=true:=de _ (fun _=>rfl) l
structure Label where
 Read:(List cb)
 Write:(List cb)
def aS(x:Label):AV:=.a [(.l 155 (x.Read.map cg)),(.l 155 (x.Write.map cg))]
@[simp] theorem adL (x:Label):(aS x).pure=true:=rfl
@[simp] theorem ac9 (l:List Label):AV.bJ (l.map aS)=true:=de _ (fun _=>rfl) l
structure Var where
 Known:Bool
 Label:Label
def dA(x:Var):AV:=.a [(.b x.Known),(.l 155 (x.Label.Read.map cg)),(.l 155 (x.Label.Write.map cg))]
@[simp] theorem agr (x:Var):(dA x).pure=true:=rfl
@[simp] theorem afB (l:List Var):AV.bJ (l.map dA)=true:=de _ (fun _=>rfl) l
structure Stmt where
 Kind:Int
 Var:Int
 Other:Int
 Expr:aK
 Args:(List aK)
 Then:(List Stmt)
 Else:(List Stmt)
mutual
def bK:Stmt→AV
 | ⟨x0,x1,x2,x3,x4,x5,x6⟩=>.a [(.i .i64 x0),(.i .i64 x1),(.i .i64 x2),(.i .i64 x3.Kind),(.i .i64 x3.N),(.l 89 (x3.Args.map bM)),(.l 89 (x4.map bM)),(.l 111 (Bc x5)),(.l 111 (Bc x6))]
def Bc:List Stmt→List AV
 | []=>[]
 | x::r=>bK x::Bc r
end
theorem Hv:∀ l:List Stmt,Bc l=l.map bK
 | []=>by rw [Bc];rfl
 | x::r=>by rw [Bc,Hv r];rfl
theorem mA(x:Stmt):bK x= .a [(.i .i64 x.Kind),(.i .i64 x.Var),(.i .i64 x.Other),(.i .i64 x.Expr.Kind),(.i .i64 x.Expr.N),(.l 89 (x.Expr.Args.map bM)),(.l 89 (x.Args.map bM)),(.l 111 (x.Then.map bK)),(.l 111 (x.Else.map bK))]:=by
 cases x
 simp only [bK,Hv]
@[simp] theorem P4 (x:Stmt):(bK x).pure=true:=by rw [mA];rfl
@[simp] theorem adM (l:List Stmt):AV.bJ (l.map bK)=true:=de _ P4 l
structure Func where
 Params:(List Int)
 Body:(List Stmt)
 Result:aK
def cQ(x:Func):AV:=.a [(.l 3 (x.Params.map (AV.i .i64))),(.l 111 (x.Body.map bK)),(.i .i64 x.Result.Kind),(.i .i64 x.Result.N),(.l 89 (x.Result.Args.map bM))]
@[simp] theorem afC (x:Func):(cQ x).pure=true:=rfl
@[simp] theorem adN (l:List Func):AV.bJ (l.map cQ)=true:=de _ (fun _=>rfl) l
structure Program where
 an:an
 Speak:(List Int)
 Ins:(List Label)
 Outs:(List Label)
 Vars:(List Var)
 Funcs:(List Func)
 Main:(List Stmt)
def qP(x:Program):AV:=.a [(.i .i64 x.an.Many),(.l 79 (x.an.Grants.map bW)),(.l 3 (x.Speak.map (AV.i .i64))),(.l 83 (x.Ins.map aS)),(.l 83 (x.Outs.map aS)),(.l 86 (x.Vars.map dA)),(.l 91 (x.Funcs.map cQ)),(.l 111 (x.Main.map bK))]
@[simp] theorem WK (x:Program):(qP x).pure=true:=rfl
@[simp] theorem V0 (l:List Program):AV.bJ (l.map qP)=true:=de _ (fun _=>rfl) l
structure Checker where
 p:Program
 funcs:Int
def Mc(x:Checker):AV:=.a [(.i .i64 x.p.an.Many),(.l 79 (x.p.an.Grants.map bW)),(.l 3 (x.p.Speak.map (AV.i .i64))),(.l 83 (x.p.Ins.map aS)),(.l 83 (x.p.Outs.map aS)),(.l 86 (x.p.Vars.map dA)),(.l 91 (x.p.Funcs.map cQ)),(.l 111 (x.p.Main.map bK)),(.i .i64 x.funcs)]
@[simp] theorem WL (x:Checker):(Mc x).pure=true:=rfl
@[simp] theorem V1 (l:List Checker):AV.bJ (l.map Mc)=true:=de _ (fun _=>rfl) l
structure Level where
 Readers:(List Bool)
 Writers:(List Bool)
def aF(x:Level):AV:=.a [(.l 4 (x.Readers.map AV.b)),(.l 4 (x.Writers.map AV.b))]
@[simp] theorem adO (x:Level):(aF x).pure=true:=rfl
@[simp] theorem ada (l:List Level):AV.bJ (l.map aF)=true:=de _ (fun _=>rfl) l
structure aH where
 p:Program
 eU:(List (List Bool))
def Md(x:aH):AV:=.a [(.i .i64 x.p.an.Many),(.l 79 (x.p.an.Grants.map bW)),(.l 3 (x.p.Speak.map (AV.i .i64))),(.l 83 (x.p.Ins.map aS)),(.l 83 (x.p.Outs.map aS)),(.l 86 (x.p.Vars.map dA)),(.l 91 (x.p.Funcs.map cQ)),(.l 111 (x.p.Main.map bK)),(.l 32 (x.eU.map (bO 4 AV.b)))]
@[simp] theorem WM (x:aH):(Md x).pure=true:=rfl
@[simp] theorem V2 (l:List aH):AV.bJ (l.map Md)=true:=de _ (fun _=>rfl) l
structure Event where
 Kind:Int
 At:Int
 Which:Int
 Value:Int
def bS(x:Event):AV:=.a [(.i .i64 x.Kind),(.i .i64 x.At),(.i .i64 x.Which),(.i .i64 x.Value)]
@[simp] theorem adP (x:Event):(bS x).pure=true:=rfl
@[simp] theorem adb (l:List Event):AV.bJ (l.map bS)=true:=de _ (fun _=>rfl) l
structure RunT where
 Events:(List Event)
 Vars:(List Int)
 Taken:(List Int)
 Steps:Int
 End:Int
 Stop:Int
def Vp(x:RunT):AV:=.a [(.l 128 (x.Events.map bS)),(.l 3 (x.Vars.map (AV.i .i64))),(.l 3 (x.Taken.map (AV.i .i64))),(.i .i64 x.Steps),(.i .i64 x.End),(.i .i64 x.Stop)]
@[simp] theorem afD (x:RunT):(Vp x).pure=true:=rfl
@[simp] theorem adQ (l:List RunT):AV.bJ (l.map Vp)=true:=de _ (fun _=>rfl) l
structure Runner where
 p:Program
 ins:(List (List Int))
 fuel:Int
 first:(List Int)
 aU:RunT
def OX(x:Runner):AV:=.a [(.i .i64 x.p.an.Many),(.l 79 (x.p.an.Grants.map bW)),(.l 3 (x.p.Speak.map (AV.i .i64))),(.l 83 (x.p.Ins.map aS)),(.l 83 (x.p.Outs.map aS)),(.l 86 (x.p.Vars.map dA)),(.l 91 (x.p.Funcs.map cQ)),(.l 111 (x.p.Main.map bK)),(.l 25 (x.ins.map (bO 3 (AV.i .i64)))),(.i .i64 x.fuel),(.l 3 (x.first.map (AV.i .i64))),(.l 128 (x.aU.Events.map bS)),(.l 3 (x.aU.Vars.map (AV.i .i64))),(.l 3 (x.aU.Taken.map (AV.i .i64))),(.i .i64 x.aU.Steps),(.i .i64 x.aU.End),(.i .i64 x.aU.Stop)]
@[simp] theorem ade (x:Runner):(OX x).pure=true:=rfl
@[simp] theorem WN (l:List Runner):AV.bJ (l.map OX)=true:=de _ (fun _=>rfl) l
structure ax where
 Runner:Unit
 p:Program
 vars:(List Level)
 places:(List Level)
 speak:Unit
structure pD where
 Vars:(List Level)
 Funcs:(List Level)
def OY(x:pD):AV:=.a [(.l 113 (x.Vars.map aF)),(.l 113 (x.Funcs.map aF))]
@[simp] theorem adf (x:pD):(OY x).pure=true:=rfl
@[simp] theorem WO (l:List pD):AV.bJ (l.map OY)=true:=de _ (fun _=>rfl) l
structure si where
 p:Program
 l:pD
 who:Int
 touch:Bool
def adg(x:si):AV:=.a [(.i .i64 x.p.an.Many),(.l 79 (x.p.an.Grants.map bW)),(.l 3 (x.p.Speak.map (AV.i .i64))),(.l 83 (x.p.Ins.map aS)),(.l 83 (x.p.Outs.map aS)),(.l 86 (x.p.Vars.map dA)),(.l 91 (x.p.Funcs.map cQ)),(.l 111 (x.p.Main.map bK)),(.l 113 (x.l.Vars.map aF)),(.l 113 (x.l.Funcs.map aF)),(.i .i64 x.who),(.b x.touch)]
@[simp] theorem ags (x:si):(adg x).pure=true:=rfl
@[simp] theorem afE (l:List si):AV.bJ (l.map adg)=true:=de _ (fun _=>rfl) l
structure Me where
 p:Program
 channel:Int
 first:(List Int)
 vars:(List Bool)
 ins:(List Bool)
 stmts:(List Bool)
 changed:Bool
def OZ(x:Me):AV:=.a [(.i .i64 x.p.an.Many),(.l 79 (x.p.an.Grants.map bW)),(.l 3 (x.p.Speak.map (AV.i .i64))),(.l 83 (x.p.Ins.map aS)),(.l 83 (x.p.Outs.map aS)),(.l 86 (x.p.Vars.map dA)),(.l 91 (x.p.Funcs.map cQ)),(.l 111 (x.p.Main.map bK)),(.i .i64 x.channel),(.l 3 (x.first.map (AV.i .i64))),(.l 4 (x.vars.map AV.b)),(.l 4 (x.ins.map AV.b)),(.l 4 (x.stmts.map AV.b)),(.b x.changed)]
@[simp] theorem adh (x:Me):(OZ x).pure=true:=rfl
@[simp] theorem WQ (l:List Me):AV.bJ (l.map OZ)=true:=de _ (fun _=>rfl) l
structure Mf where
 S:Stmt
 At:Int
 Place:Level
def O0(x:Mf):AV:=.a [(.i .i64 x.S.Kind),(.i .i64 x.S.Var),(.i .i64 x.S.Other),(.i .i64 x.S.Expr.Kind),(.i .i64 x.S.Expr.N),(.l 89 (x.S.Expr.Args.map bM)),(.l 89 (x.S.Args.map bM)),(.l 111 (x.S.Then.map bK)),(.l 111 (x.S.Else.map bK)),(.i .i64 x.At),(.l 4 (x.Place.Readers.map AV.b)),(.l 4 (x.Place.Writers.map AV.b))]
@[simp] theorem adi (x:Mf):(O0 x).pure=true:=rfl
@[simp] theorem WR (l:List Mf):AV.bJ (l.map O0)=true:=de _ (fun _=>rfl) l
structure Task where
 Kind:Int
 At:Int
 S:Stmt
 Places:Int
def P5(x:Task):AV:=.a [(.i .i64 x.Kind),(.i .i64 x.At),(.i .i64 x.S.Kind),(.i .i64 x.S.Var),(.i .i64 x.S.Other),(.i .i64 x.S.Expr.Kind),(.i .i64 x.S.Expr.N),(.l 89 (x.S.Expr.Args.map bM)),(.l 89 (x.S.Args.map bM)),(.l 111 (x.S.Then.map bK)),(.l 111 (x.S.Else.map bK)),(.i .i64 x.Places)]
@[simp] theorem afF (x:Task):(P5 x).pure=true:=rfl
@[simp] theorem adR (l:List Task):AV.bJ (l.map P5)=true:=de _ (fun _=>rfl) l
structure Machine where
 P:Program
 Ins:(List (List Int))
 Fuel:Int
 R:RunT
 Tasks:(List Task)
 Watch:Bool
 pD:(List Level)
 Places:(List Level)
def Mg(x:Machine):AV:=.a [(.i .i64 x.P.an.Many),(.l 79 (x.P.an.Grants.map bW)),(.l 3 (x.P.Speak.map (AV.i .i64))),(.l 83 (x.P.Ins.map aS)),(.l 83 (x.P.Outs.map aS)),(.l 86 (x.P.Vars.map dA)),(.l 91 (x.P.Funcs.map cQ)),(.l 111 (x.P.Main.map bK)),(.l 25 (x.Ins.map (bO 3 (AV.i .i64)))),(.i .i64 x.Fuel),(.l 128 (x.R.Events.map bS)),(.l 3 (x.R.Vars.map (AV.i .i64))),(.l 3 (x.R.Taken.map (AV.i .i64))),(.i .i64 x.R.Steps),(.i .i64 x.R.End),(.i .i64 x.R.Stop),(.l 148 (x.Tasks.map P5)),(.b x.Watch),(.l 113 (x.pD.map aF)),(.l 113 (x.Places.map aF))]
@[simp] theorem WS (x:Machine):(Mg x).pure=true:=rfl
@[simp] theorem V3 (l:List Machine):AV.bJ (l.map Mg)=true:=de _ (fun _=>rfl) l
structure P6 where
 At:Int
 Kind:Int
def R5(x:P6):AV:=.a [(.i .i64 x.At),(.i .i64 x.Kind)]
@[simp] theorem adS (x:P6):(R5 x).pure=true:=rfl
@[simp] theorem adj (l:List P6):AV.bJ (l.map R5)=true:=de _ (fun _=>rfl) l
structure P7 where
 L:Level
 To:Int
def R6(x:P7):AV:=.a [(.l 4 (x.L.Readers.map AV.b)),(.l 4 (x.L.Writers.map AV.b)),(.i .i64 x.To)]
@[simp] theorem adT (x:P7):(R6 x).pure=true:=rfl
@[simp] theorem adk (l:List P7):AV.bJ (l.map R6)=true:=de _ (fun _=>rfl) l
structure eJ where
 Level:Level
 To:Int
 Func:Bool
def e9(x:eJ):AV:=.a [(.l 4 (x.Level.Readers.map AV.b)),(.l 4 (x.Level.Writers.map AV.b)),(.i .i64 x.To),(.b x.Func)]
@[simp] theorem afG (x:eJ):(e9 x).pure=true:=rfl
@[simp] theorem adU (l:List eJ):AV.bJ (l.map e9)=true:=de _ (fun _=>rfl) l
abbrev bH(x:Checker):List AV:=[(I x.p.an.Many),(.l 79 (x.p.an.Grants.map bW)),(.l 3 (x.p.Speak.map (I))),(.l 83 (x.p.Ins.map aS)),(.l 83 (x.p.Outs.map aS)),(.l 86 (x.p.Vars.map dA)),(.l 91 (x.p.Funcs.map cQ)),(.l 111 (x.p.Main.map bK)),(I x.funcs)]
abbrev cH(x:Event):List AV:=[(I x.Kind),(I x.At),(I x.Which),(I x.Value)]
abbrev cL(x:aK):List AV:=[(I x.Kind),(I x.N),(.l 89 (x.Args.map bM))]
abbrev fU(x:si):List AV:=[(I x.p.an.Many),(.l 79 (x.p.an.Grants.map bW)),(.l 3 (x.p.Speak.map (I))),(.l 83 (x.p.Ins.map aS)),(.l 83 (x.p.Outs.map aS)),(.l 86 (x.p.Vars.map dA)),(.l 91 (x.p.Funcs.map cQ)),(.l 111 (x.p.Main.map bK)),(.l 113 (x.l.Vars.map aF)),(.l 113 (x.l.Funcs.map aF)),(I x.who),(.b x.touch)]
abbrev dB(x:Func):List AV:=[(.l 3 (x.Params.map (I))),(.l 111 (x.Body.map bK)),(I x.Result.Kind),(I x.Result.N),(.l 89 (x.Result.Args.map bM))]
abbrev aD(x:Program):List AV:=[(I x.an.Many),(.l 79 (x.an.Grants.map bW)),(.l 3 (x.Speak.map (I))),(.l 83 (x.Ins.map aS)),(.l 83 (x.Outs.map aS)),(.l 86 (x.Vars.map dA)),(.l 91 (x.Funcs.map cQ)),(.l 111 (x.Main.map bK))]
abbrev Li(x:RunT):List AV:=[(.l 128 (x.Events.map bS)),(.l 3 (x.Vars.map (I))),(.l 3 (x.Taken.map (I))),(I x.Steps),(I x.End),(I x.Stop)]
abbrev wV(x:Runner):List AV:=[(I x.p.an.Many),(.l 79 (x.p.an.Grants.map bW)),(.l 3 (x.p.Speak.map (I))),(.l 83 (x.p.Ins.map aS)),(.l 83 (x.p.Outs.map aS)),(.l 86 (x.p.Vars.map dA)),(.l 91 (x.p.Funcs.map cQ)),(.l 111 (x.p.Main.map bK)),(.l 25 (x.ins.map (bO 3 (I)))),(I x.fuel),(.o 3 (x.first.map (I))),(.o 128 (x.aU.Events.map bS)),(.l 3 (x.aU.Vars.map (I))),(.l 3 (x.aU.Taken.map (I))),(I x.aU.Steps),(I x.aU.End),(I x.aU.Stop)]
abbrev dT(x:Runner):List AV:=[(I x.p.an.Many),(.l 79 (x.p.an.Grants.map bW)),(.l 3 (x.p.Speak.map (I))),(.l 83 (x.p.Ins.map aS)),(.l 83 (x.p.Outs.map aS)),(.l 86 (x.p.Vars.map dA)),(.l 91 (x.p.Funcs.map cQ)),(.l 111 (x.p.Main.map bK)),(.l 25 (x.ins.map (bO 3 (I)))),(I x.fuel),(.o 3 (x.first.map (I))),(.o 128 (x.aU.Events.map bS)),(.o 3 (x.aU.Vars.map (I))),(.l 3 (x.aU.Taken.map (I))),(I x.aU.Steps),(I x.aU.End),(I x.aU.Stop)]
abbrev aa(x:Runner):List AV:=[(I x.p.an.Many),(.l 79 (x.p.an.Grants.map bW)),(.l 3 (x.p.Speak.map (I))),(.l 83 (x.p.Ins.map aS)),(.l 83 (x.p.Outs.map aS)),(.l 86 (x.p.Vars.map dA)),(.l 91 (x.p.Funcs.map cQ)),(.l 111 (x.p.Main.map bK)),(.l 25 (x.ins.map (bO 3 (I)))),(I x.fuel),(.o 3 (x.first.map (I))),(.o 128 (x.aU.Events.map bS)),(.o 3 (x.aU.Vars.map (I))),(.o 3 (x.aU.Taken.map (I))),(I x.aU.Steps),(I x.aU.End),(I x.aU.Stop)]
abbrev bZ(x:Runner):List AV:=[(I x.p.an.Many),(.l 79 (x.p.an.Grants.map bW)),(.l 3 (x.p.Speak.map (I))),(.l 83 (x.p.Ins.map aS)),(.l 83 (x.p.Outs.map aS)),(.l 86 (x.p.Vars.map dA)),(.l 91 (x.p.Funcs.map cQ)),(.l 111 (x.p.Main.map bK)),(.l 25 (x.ins.map (bO 3 (I)))),(I x.fuel),(.o 3 (x.first.map (I))),(.o 128 (x.aU.Events.map bS)),(.l 3 (x.aU.Vars.map (I))),(.o 3 (x.aU.Taken.map (I))),(I x.aU.Steps),(I x.aU.End),(I x.aU.Stop)]
abbrev iK(x:Runner):List AV:=[(I x.p.an.Many),(.l 79 (x.p.an.Grants.map bW)),(.l 3 (x.p.Speak.map (I))),(.l 83 (x.p.Ins.map aS)),(.l 83 (x.p.Outs.map aS)),(.l 86 (x.p.Vars.map dA)),(.l 91 (x.p.Funcs.map cQ)),(.l 111 (x.p.Main.map bK)),(.l 25 (x.ins.map (bO 3 (I)))),(I x.fuel),(.o 3 (x.first.map (I))),(.l 128 (x.aU.Events.map bS)),(.o 3 (x.aU.Vars.map (I))),(.o 3 (x.aU.Taken.map (I))),(I x.aU.Steps),(I x.aU.End),(I x.aU.Stop)]
abbrev ay(x:aH):List AV:=[(I x.p.an.Many),(.l 79 (x.p.an.Grants.map bW)),(.l 3 (x.p.Speak.map (I))),(.l 83 (x.p.Ins.map aS)),(.l 83 (x.p.Outs.map aS)),(.l 86 (x.p.Vars.map dA)),(.l 91 (x.p.Funcs.map cQ)),(.l 111 (x.p.Main.map bK)),(.l 32 (x.eU.map (bO 4 AV.b)))]
abbrev ar(x:Stmt):List AV:=[(I x.Kind),(I x.Var),(I x.Other),(I x.Expr.Kind),(I x.Expr.N),(.l 89 (x.Expr.Args.map bM)),(.l 89 (x.Args.map bM)),(.l 111 (x.Then.map bK)),(.l 111 (x.Else.map bK))]
abbrev pn(x:Var):List AV:=[(.b x.Known),(.l 155 (x.Label.Read.map cg)),(.l 155 (x.Label.Write.map cg))]
abbrev df(x:ax):List AV:=[.u,(I x.p.an.Many),(.l 79 (x.p.an.Grants.map bW)),(.l 3 (x.p.Speak.map (I))),(.l 83 (x.p.Ins.map aS)),(.l 83 (x.p.Outs.map aS)),(.l 86 (x.p.Vars.map dA)),(.l 91 (x.p.Funcs.map cQ)),(.l 111 (x.p.Main.map bK)),(.l 113 (x.vars.map aF)),(.o 113 (x.places.map aF)),.u]
abbrev gu(x:ax):List AV:=[.u,(I x.p.an.Many),(.l 79 (x.p.an.Grants.map bW)),(.l 3 (x.p.Speak.map (I))),(.l 83 (x.p.Ins.map aS)),(.l 83 (x.p.Outs.map aS)),(.l 86 (x.p.Vars.map dA)),(.l 91 (x.p.Funcs.map cQ)),(.l 111 (x.p.Main.map bK)),(.o 113 (x.vars.map aF)),(.l 113 (x.places.map aF)),.u]
abbrev gb(x:ax):List AV:=[.u,(I x.p.an.Many),(.l 79 (x.p.an.Grants.map bW)),(.l 3 (x.p.Speak.map (I))),(.l 83 (x.p.Ins.map aS)),(.l 83 (x.p.Outs.map aS)),(.l 86 (x.p.Vars.map dA)),(.l 91 (x.p.Funcs.map cQ)),(.l 111 (x.p.Main.map bK)),(.o 113 (x.vars.map aF)),(.o 113 (x.places.map aF)),.u]
abbrev cE(k1 k2:Key)(c:ax):List AV:=(((gb c).set 0 (.p k1 0)).set 11 (.p k2 0))
abbrev aP(hp:HP)(k0 k1 k2:Key)(c0:ax)(c1:Runner)(c2:aH):HP:=aq (aq (aq hp k0 (cE k1 k2 c0)) k1 (aa c1)) k2 (ay c2)
abbrev zP(d:Nat):Nat×AV:=(d,.p ⟨0,d⟩ 0)
abbrev zQ(d:Nat):AV:=.p ⟨0,d⟩ 0
abbrev zI(n:Nat):AV:=.i .i64 (n:Int)
abbrev ku(x:List (aK)):AV:=.l 89 (x.map bM)
abbrev aJ(x:List (Label)):AV:=.l 83 (x.map aS)
abbrev bw(x:List (Int)):AV:=.l 3 (x.map (AV.i .i64))
abbrev bU(x:List (cb)):AV:=.l 155 (x.map cg)
abbrev aX(x:List (dv)):AV:=.l 79 (x.map bW)
abbrev ct(x:List (Var)):AV:=.l 86 (x.map dA)
abbrev bQ(x:List (Func)):AV:=.l 91 (x.map cQ)
abbrev bj(x:List (Stmt)):AV:=.l 111 (x.map bK)
abbrev aC(x:List (Bool)):AV:=.l 4 (x.map AV.b)
abbrev ig(x:List (Bool)):AV:=.o 4 (x.map AV.b)
abbrev cR(x:List (Int)):AV:=.o 3 (x.map (AV.i .i64))
abbrev nA(x:List (List Int)):AV:=.l 25 (x.map (bO 3 (AV.i .i64)))
abbrev ot(x:List (Event)):AV:=.o 128 (x.map bS)
abbrev aO(x:List (Level)):AV:=.o 113 (x.map aF)
abbrev ba(x:List (Event)):AV:=.l 128 (x.map bS)
end Go.Proofs.YtlmphbbhaeampaaGreat.A
