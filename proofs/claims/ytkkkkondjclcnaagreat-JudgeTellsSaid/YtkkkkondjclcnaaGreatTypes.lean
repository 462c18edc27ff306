/- The types of the program, by program. -/
import Derived.Test.YtkkkkondjclcnaaGreatBase
set_option linter.all false
namespace Go.Proofs.YtkkkkondjclcnaaGreat.A
open Go
structure aB where
 Kind:Int
 N:Int
 Args:(List aB)
mutual
def aT:aB→AV
 | ⟨x0,x1,x2⟩=>.a [(.i .i64 x0),(.i .i64 x1),(.l 37 (vI x2))]
def vI:List aB→List AV
 | []=>[]
 | x::r=>aT x::vI r
end
theorem HU:∀ l:List aB,vI l=l.map aT
 | []=>by rw [vI];rfl
 | x::r=>by rw [vI,HU r];rfl
theorem dj(x:aB):aT x= .a [(.i .i64 x.Kind),(.i .i64 x.N),(.l 37 (x.Args.map aT))]:=by
 cases x
 simp only [aT,HU]
@[simp] theorem Qy (x:aB):(aT x).pure=true:=by rw [dj];rfl
@[simp] theorem aeY (l:List aB):AV.aX (l.map aT)=true:=ej _ Qy l
structure dv where
 Who:Int
 For:Int
def ct(x:dv):AV:=.a [(.i .i64 x.Who),(.i .i64 x.For)]
@[simp] theorem agI (x:dv):(ct x).pure=true:=rfl
@[simp] theorem aeZ (l:List dv):AV.aX (l.map ct)=true:=ej _ (fun _=>rfl) l
structure ak where
 Many:Int
 Grants:(List dv)
def Rs(x:ak):AV:=.a [(.i .i64 x.Many),(.l 166 (x.Grants.map ct))]
@[simp] theorem ae0 (x:ak):(Rs x).pure=true:=rfl
@[simp] theorem aam (l:List ak):AV.aX (l.map Rs)=true:=ej _ (fun _=>rfl) l
structure bz where
 Owner:Int
 Names:(List Int)
def bj(x:bz):AV:=.a [(.i .i64 x.Owner),(.l 3 (x.Names.map (AV.i .i64)))]
@[simp] theorem ae1 (x:bz):(bj x).pure=true:=rfl
@[simp] theorem aan (l:List bz):AV.aX (l.map bj)=true:=ej _ (fun _=>rfl) l
structure Label where
 Read:(List bz)
 Write:(List bz)
def aH(x:Label):AV:=.a [(.l 138 (x.Read.map bj)),(.l 138 (x.Write.map bj))]
@[simp] theorem agJ (x:Label):(aH x).pure=true:=rfl
@[simp] theorem ae2 (l:List Label):AV.aX (l.map aH)=true:=ej _ (fun _=>rfl) l
structure Var where
 Known:Bool
 Label:Label
def eo(x:Var):AV:=.a [(.b x.Known),(.l 138 (x.Label.Read.map bj)),(.l 138 (x.Label.Write.map bj))]
@[simp] theorem als (x:Var):(eo x).pure=true:=rfl
@[simp] theorem akb (l:List Var):AV.aX (l.map eo)=true:=ej _ (fun _=>rfl) l
structure Stmt where
 Kind:Int
 Var:Int
 Other:Int
 Expr:aB
 Args:(List aB)
 Then:(List Stmt)
 Else:(List Stmt)
mutual
def bK:Stmt→AV
 | ⟨x0,x1,x2,x3,x4,x5,x6⟩=>.a [(.i .i64 x0),(.i .i64 x1),(.i .i64 x2),(.i .i64 x3.Kind),(.i .i64 x3.N),(.l 37 (x3.Args.map aT)),(.l 37 (x4.map aT)),(.l 92 (CT x5)),(.l 92 (CT x6))]
def CT:List Stmt→List AV
 | []=>[]
 | x::r=>bK x::CT r
end
theorem JC:∀ l:List Stmt,CT l=l.map bK
 | []=>by rw [CT];rfl
 | x::r=>by rw [CT,JC r];rfl
theorem jm(x:Stmt):bK x= .a [(.i .i64 x.Kind),(.i .i64 x.Var),(.i .i64 x.Other),(.i .i64 x.Expr.Kind),(.i .i64 x.Expr.N),(.l 37 (x.Expr.Args.map aT)),(.l 37 (x.Args.map aT)),(.l 92 (x.Then.map bK)),(.l 92 (x.Else.map bK))]:=by
 cases x
 simp only [bK,JC]
@[simp] theorem SZ (x:Stmt):(bK x).pure=true:=by rw [jm];rfl
@[simp] theorem agK (l:List Stmt):AV.aX (l.map bK)=true:=ej _ SZ l
structure Func where
 Params:(List Int)
 Body:(List Stmt)
 Result:aB
def eO(x:Func):AV:=.a [(.l 3 (x.Params.map (AV.i .i64))),(.l 92 (x.Body.map bK)),(.i .i64 x.Result.Kind),(.i .i64 x.Result.N),(.l 37 (x.Result.Args.map aT))]
@[simp] theorem akc (x:Func):(eO x).pure=true:=rfl
@[simp] theorem agL (l:List Func):AV.aX (l.map eO)=true:=ej _ (fun _=>rfl) l
structure Program where
 ak:ak
 Speak:(List Int)
 Ins:(List Label)
 Outs:(List Label)
 Vars:(List Var)
 Funcs:(List Func)
 Main:(List Stmt)
def sj(x:Program):AV:=.a [(.i .i64 x.ak.Many),(.l 166 (x.ak.Grants.map ct)),(.l 3 (x.Speak.map (AV.i .i64))),(.l 81 (x.Ins.map aH)),(.l 81 (x.Outs.map aH)),(.l 83 (x.Vars.map eo)),(.l 101 (x.Funcs.map eO)),(.l 92 (x.Main.map bK))]
@[simp] theorem aao (x:Program):(sj x).pure=true:=rfl
@[simp] theorem Zd (l:List Program):AV.aX (l.map sj)=true:=ej _ (fun _=>rfl) l
structure Checker where
 p:Program
 funcs:Int
def OA(x:Checker):AV:=.a [(.i .i64 x.p.ak.Many),(.l 166 (x.p.ak.Grants.map ct)),(.l 3 (x.p.Speak.map (AV.i .i64))),(.l 81 (x.p.Ins.map aH)),(.l 81 (x.p.Outs.map aH)),(.l 83 (x.p.Vars.map eo)),(.l 101 (x.p.Funcs.map eO)),(.l 92 (x.p.Main.map bK)),(.i .i64 x.funcs)]
@[simp] theorem aap (x:Checker):(OA x).pure=true:=rfl
@[simp] theorem Ze (l:List Checker):AV.aX (l.map OA)=true:=ej _ (fun _=>rfl) l
structure Level where
 Readers:(List Bool)
 Writers:(List Bool)
def aI(x:Level):AV:=.a [(.l 4 (x.Readers.map AV.b)),(.l 4 (x.Writers.map AV.b))]
@[simp] theorem agM (x:Level):(aI x).pure=true:=rfl
@[simp] theorem ae3 (l:List Level):AV.aX (l.map aI)=true:=ej _ (fun _=>rfl) l
structure aK where
 p:Program
 dT:(List (List Bool))
def OB(x:aK):AV:=.a [(.i .i64 x.p.ak.Many),(.l 166 (x.p.ak.Grants.map ct)),(.l 3 (x.p.Speak.map (AV.i .i64))),(.l 81 (x.p.Ins.map aH)),(.l 81 (x.p.Outs.map aH)),(.l 83 (x.p.Vars.map eo)),(.l 101 (x.p.Funcs.map eO)),(.l 92 (x.p.Main.map bK)),(.l 43 (x.dT.map (eW 4 AV.b)))]
@[simp] theorem aaq (x:aK):(OB x).pure=true:=rfl
@[simp] theorem Zf (l:List aK):AV.aX (l.map OB)=true:=ej _ (fun _=>rfl) l
structure dw where
 At:Int
 Kind:Int
def jc(x:dw):AV:=.a [(.i .i64 x.At),(.i .i64 x.Kind)]
@[simp] theorem agN (x:dw):(jc x).pure=true:=rfl
@[simp] theorem ae4 (l:List dw):AV.aX (l.map jc)=true:=ej _ (fun _=>rfl) l
structure eD where
 Vars:(List Level)
 Funcs:(List Level)
def Rt(x:eD):AV:=.a [(.l 45 (x.Vars.map aI)),(.l 45 (x.Funcs.map aI))]
@[simp] theorem ae5 (x:eD):(Rt x).pure=true:=rfl
@[simp] theorem aar (l:List eD):AV.aX (l.map Rt)=true:=ej _ (fun _=>rfl) l
structure dq where
 Level:Level
 To:Int
 Func:Bool
def ee(x:dq):AV:=.a [(.l 4 (x.Level.Readers.map AV.b)),(.l 4 (x.Level.Writers.map AV.b)),(.i .i64 x.To),(.b x.Func)]
@[simp] theorem akd (x:dq):(ee x).pure=true:=rfl
@[simp] theorem agO (l:List dq):AV.aX (l.map ee)=true:=ej _ (fun _=>rfl) l
structure bq where
 S:Stmt
 At:Int
 Place:Level
def cY(x:bq):AV:=.a [(.i .i64 x.S.Kind),(.i .i64 x.S.Var),(.i .i64 x.S.Other),(.i .i64 x.S.Expr.Kind),(.i .i64 x.S.Expr.N),(.l 37 (x.S.Expr.Args.map aT)),(.l 37 (x.S.Args.map aT)),(.l 92 (x.S.Then.map bK)),(.l 92 (x.S.Else.map bK)),(.i .i64 x.At),(.l 4 (x.Place.Readers.map AV.b)),(.l 4 (x.Place.Writers.map AV.b))]
@[simp] theorem ae6 (x:bq):(cY x).pure=true:=rfl
@[simp] theorem aas (l:List bq):AV.aX (l.map cY)=true:=ej _ (fun _=>rfl) l
structure eF where
 L:Level
 To:Int
def dG(x:eF):AV:=.a [(.l 4 (x.L.Readers.map AV.b)),(.l 4 (x.L.Writers.map AV.b)),(.i .i64 x.To)]
@[simp] theorem agP (x:eF):(dG x).pure=true:=rfl
@[simp] theorem ae7 (l:List eF):AV.aX (l.map dG)=true:=ej _ (fun _=>rfl) l
structure Event where
 Kind:Int
 At:Int
 Which:Int
 Value:Int
def UD(x:Event):AV:=.a [(.i .i64 x.Kind),(.i .i64 x.At),(.i .i64 x.Which),(.i .i64 x.Value)]
@[simp] theorem agQ (x:Event):(UD x).pure=true:=rfl
@[simp] theorem ae8 (l:List Event):AV.aX (l.map UD)=true:=ej _ (fun _=>rfl) l
structure Eye where
 p:Program
 l:eD
 who:Int
 touch:Bool
def afa(x:Eye):AV:=.a [(.i .i64 x.p.ak.Many),(.l 166 (x.p.ak.Grants.map ct)),(.l 3 (x.p.Speak.map (AV.i .i64))),(.l 81 (x.p.Ins.map aH)),(.l 81 (x.p.Outs.map aH)),(.l 83 (x.p.Vars.map eo)),(.l 101 (x.p.Funcs.map eO)),(.l 92 (x.p.Main.map bK)),(.l 45 (x.l.Vars.map aI)),(.l 45 (x.l.Funcs.map aI)),(.i .i64 x.who),(.b x.touch)]
@[simp] theorem alu (x:Eye):(afa x).pure=true:=rfl
@[simp] theorem ake (l:List Eye):AV.aX (l.map afa)=true:=ej _ (fun _=>rfl) l
abbrev bA(x:Checker):List AV:=[(I x.p.ak.Many),(.l 166 (x.p.ak.Grants.map ct)),(.l 3 (x.p.Speak.map (I))),(.l 81 (x.p.Ins.map aH)),(.l 81 (x.p.Outs.map aH)),(.l 83 (x.p.Vars.map eo)),(.l 101 (x.p.Funcs.map eO)),(.l 92 (x.p.Main.map bK)),(I x.funcs)]
abbrev ep(x:aB):List AV:=[(I x.Kind),(I x.N),(.l 37 (x.Args.map aT))]
abbrev eu(x:Func):List AV:=[(.l 3 (x.Params.map (I))),(.l 92 (x.Body.map bK)),(I x.Result.Kind),(I x.Result.N),(.l 37 (x.Result.Args.map aT))]
abbrev dE(x:bq):List AV:=[(I x.S.Kind),(I x.S.Var),(I x.S.Other),(I x.S.Expr.Kind),(I x.S.Expr.N),(.l 37 (x.S.Expr.Args.map aT)),(.l 37 (x.S.Args.map aT)),(.l 92 (x.S.Then.map bK)),(.l 92 (x.S.Else.map bK)),(I x.At),(.l 4 (x.Place.Readers.map AV.b)),(.l 4 (x.Place.Writers.map AV.b))]
abbrev av(x:Program):List AV:=[(I x.ak.Many),(.l 166 (x.ak.Grants.map ct)),(.l 3 (x.Speak.map (I))),(.l 81 (x.Ins.map aH)),(.l 81 (x.Outs.map aH)),(.l 83 (x.Vars.map eo)),(.l 101 (x.Funcs.map eO)),(.l 92 (x.Main.map bK))]
abbrev aw(x:aK):List AV:=[(I x.p.ak.Many),(.l 166 (x.p.ak.Grants.map ct)),(.l 3 (x.p.Speak.map (I))),(.l 81 (x.p.Ins.map aH)),(.l 81 (x.p.Outs.map aH)),(.l 83 (x.p.Vars.map eo)),(.l 101 (x.p.Funcs.map eO)),(.l 92 (x.p.Main.map bK)),(.l 43 (x.dT.map (eW 4 AV.b)))]
abbrev aD(x:Stmt):List AV:=[(I x.Kind),(I x.Var),(I x.Other),(I x.Expr.Kind),(I x.Expr.N),(.l 37 (x.Expr.Args.map aT)),(.l 37 (x.Args.map aT)),(.l 92 (x.Then.map bK)),(.l 92 (x.Else.map bK))]
abbrev FU(x:Var):List AV:=[(.b x.Known),(.l 138 (x.Label.Read.map bj)),(.l 138 (x.Label.Write.map bj))]
abbrev zP(d:Nat):Nat×AV:=(d,.p ⟨0,d⟩ 0)
abbrev zQ(d:Nat):AV:=.p ⟨0,d⟩ 0
abbrev zI(n:Nat):AV:=.i .i64 (n:Int)
abbrev dO(x:List (aB)):AV:=.l 37 (x.map aT)
abbrev aS(x:List (Label)):AV:=.l 81 (x.map aH)
abbrev qV(x:List (Label)):AV:=.o 81 (x.map aH)
abbrev dx(x:List (Int)):AV:=.l 3 (x.map (AV.i .i64))
abbrev bm(x:List (bz)):AV:=.l 138 (x.map bj)
abbrev aQ(x:List (dv)):AV:=.l 166 (x.map ct)
abbrev ey(x:List (Var)):AV:=.l 83 (x.map eo)
abbrev cV(x:List (Func)):AV:=.l 101 (x.map eO)
abbrev cM(x:List (Stmt)):AV:=.l 92 (x.map bK)
abbrev dQ(x:List (Bool)):AV:=.l 4 (x.map AV.b)
abbrev iW(x:List (Bool)):AV:=.o 4 (x.map AV.b)
abbrev dH(x:List (dw)):AV:=.l 133 (x.map jc)
end Go.Proofs.YtkkkkondjclcnaaGreat.A
