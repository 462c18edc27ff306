/- The types of the program, by program. -/
import Derived.Test.YtkkkkondjclcnaaGreatBase
set_option linter.all false
namespace Go.Proofs.YtkkkkondjclcnaaGreat.A
open Go
structure ax where
 Kind:Int
 N:Int
 Args:(List ax)
mutual
def aL:ax→AV
 | ⟨x0,x1,x2⟩=>.a [(.i .i64 x0),(.i .i64 x1),(.l 37 (tN x2))]
def tN:List ax→List AV
 | []=>[]
 | x::r=>aL x::tN r
end
theorem Fc:∀ l:List ax,tN l=l.map aL
 | []=>by rw [tN];rfl
 | x::r=>by rw [tN,Fc r];rfl
theorem dm(x:ax):aL x= .a [(.i .i64 x.Kind),(.i .i64 x.N),(.l 37 (x.Args.map aL))]:=by
 cases x
 simp only [aL,Fc]
@[simp] theorem Ns (x:ax):(aL x).pure=true:=by rw [dm];rfl
@[simp] theorem aaX (l:List ax):AV.bk (l.map aL)=true:=dv _ Ns l
structure cB where
 Who:Int
 For:Int
def aE(x:cB):AV:=.a [(.i .i64 x.Who),(.i .i64 x.For)]
@[simp] theorem adb (x:cB):(aE x).pure=true:=rfl
@[simp] theorem aaY (l:List cB):AV.bk (l.map aE)=true:=dv _ (fun _=>rfl) l
structure ah where
 Many:Int
 Grants:(List cB)
def N9(x:ah):AV:=.a [(.i .i64 x.Many),(.l 166 (x.Grants.map aE))]
@[simp] theorem aaZ (x:ah):(N9 x).pure=true:=rfl
@[simp] theorem Xh (l:List ah):AV.bk (l.map N9)=true:=dv _ (fun _=>rfl) l
structure br where
 Owner:Int
 Names:(List Int)
def aF(x:br):AV:=.a [(.i .i64 x.Owner),(.l 3 (x.Names.map (AV.i .i64)))]
@[simp] theorem aa0 (x:br):(aF x).pure=true:=rfl
@[simp] theorem Xi (l:List br):AV.bk (l.map aF)=true:=dv _ (fun _=>rfl) l
structure Label where
 Read:(List br)
 Write:(List br)
def az(x:Label):AV:=.a [(.l 138 (x.Read.map aF)),(.l 138 (x.Write.map aF))]
@[simp] theorem ade (x:Label):(az x).pure=true:=rfl
@[simp] theorem aa1 (l:List Label):AV.bk (l.map az)=true:=dv _ (fun _=>rfl) l
structure Var where
 Known:Bool
 Label:Label
def cn(x:Var):AV:=.a [(.b x.Known),(.l 138 (x.Label.Read.map aF)),(.l 138 (x.Label.Write.map aF))]
@[simp] theorem ah9 (x:Var):(cn x).pure=true:=rfl
@[simp] theorem agJ (l:List Var):AV.bk (l.map cn)=true:=dv _ (fun _=>rfl) l
structure Stmt where
 Kind:Int
 Var:Int
 Other:Int
 Expr:ax
 Args:(List ax)
 Then:(List Stmt)
 Else:(List Stmt)
mutual
def aV:Stmt→AV
 | ⟨x0,x1,x2,x3,x4,x5,x6⟩=>.a [(.i .i64 x0),(.i .i64 x1),(.i .i64 x2),(.i .i64 x3.Kind),(.i .i64 x3.N),(.l 37 (x3.Args.map aL)),(.l 37 (x4.map aL)),(.l 92 (AA x5)),(.l 92 (AA x6))]
def AA:List Stmt→List AV
 | []=>[]
 | x::r=>aV x::AA r
end
theorem GQ:∀ l:List Stmt,AA l=l.map aV
 | []=>by rw [AA];rfl
 | x::r=>by rw [AA,GQ r];rfl
theorem ie(x:Stmt):aV x= .a [(.i .i64 x.Kind),(.i .i64 x.Var),(.i .i64 x.Other),(.i .i64 x.Expr.Kind),(.i .i64 x.Expr.N),(.l 37 (x.Expr.Args.map aL)),(.l 37 (x.Args.map aL)),(.l 92 (x.Then.map aV)),(.l 92 (x.Else.map aV))]:=by
 cases x
 simp only [aV,GQ]
@[simp] theorem PG (x:Stmt):(aV x).pure=true:=by rw [ie];rfl
@[simp] theorem adf (l:List Stmt):AV.bk (l.map aV)=true:=dv _ PG l
structure Func where
 Params:(List Int)
 Body:(List Stmt)
 Result:ax
def ct(x:Func):AV:=.a [(.l 3 (x.Params.map (AV.i .i64))),(.l 92 (x.Body.map aV)),(.i .i64 x.Result.Kind),(.i .i64 x.Result.N),(.l 37 (x.Result.Args.map aL))]
@[simp] theorem agK (x:Func):(ct x).pure=true:=rfl
@[simp] theorem adg (l:List Func):AV.bk (l.map ct)=true:=dv _ (fun _=>rfl) l
structure Program where
 ah:ah
 Speak:(List Int)
 Ins:(List Label)
 Outs:(List Label)
 Vars:(List Var)
 Funcs:(List Func)
 Main:(List Stmt)
def qt(x:Program):AV:=.a [(.i .i64 x.ah.Many),(.l 166 (x.ah.Grants.map aE)),(.l 3 (x.Speak.map (AV.i .i64))),(.l 81 (x.Ins.map az)),(.l 81 (x.Outs.map az)),(.l 83 (x.Vars.map cn)),(.l 101 (x.Funcs.map ct)),(.l 92 (x.Main.map aV))]
@[simp] theorem Xj (x:Program):(qt x).pure=true:=rfl
@[simp] theorem V9 (l:List Program):AV.bk (l.map qt)=true:=dv _ (fun _=>rfl) l
structure Checker where
 p:Program
 funcs:Int
def LJ(x:Checker):AV:=.a [(.i .i64 x.p.ah.Many),(.l 166 (x.p.ah.Grants.map aE)),(.l 3 (x.p.Speak.map (AV.i .i64))),(.l 81 (x.p.Ins.map az)),(.l 81 (x.p.Outs.map az)),(.l 83 (x.p.Vars.map cn)),(.l 101 (x.p.Funcs.map ct)),(.l 92 (x.p.Main.map aV)),(.i .i64 x.funcs)]
@[simp] theorem Xk (x:Checker):(LJ x).pure=true:=rfl
@[simp] theorem Wa (l:List Checker):AV.bk (l.map LJ)=true:=dv _ (fun _=>rfl) l
structure Level where
 Readers:(List Bool)
 Writers:(List Bool)
def aq(x:Level):AV:=.a [(.l 4 (x.Readers.map AV.b)),(.l 4 (x.Writers.map AV.b))]
@[simp] theorem adh (x:Level):(aq x).pure=true:=rfl
@[simp] theorem aa2 (l:List Level):AV.bk (l.map aq)=true:=dv _ (fun _=>rfl) l
structure aM where
 Vars:(List Level)
 Funcs:(List Level)
def IC(x:aM):AV:=.a [(.l 45 (x.Vars.map aq)),(.l 45 (x.Funcs.map aq))]
@[simp] theorem aa3 (x:aM):(IC x).pure=true:=rfl
@[simp] theorem Xl (l:List aM):AV.bk (l.map IC)=true:=dv _ (fun _=>rfl) l
structure aZ where
 S:Stmt
 At:Int
 Place:Level
def cg(x:aZ):AV:=.a [(.i .i64 x.S.Kind),(.i .i64 x.S.Var),(.i .i64 x.S.Other),(.i .i64 x.S.Expr.Kind),(.i .i64 x.S.Expr.N),(.l 37 (x.S.Expr.Args.map aL)),(.l 37 (x.S.Args.map aL)),(.l 92 (x.S.Then.map aV)),(.l 92 (x.S.Else.map aV)),(.i .i64 x.At),(.l 4 (x.Place.Readers.map AV.b)),(.l 4 (x.Place.Writers.map AV.b))]
@[simp] theorem aa4 (x:aZ):(cg x).pure=true:=rfl
@[simp] theorem Xm (l:List aZ):AV.bk (l.map cg)=true:=dv _ (fun _=>rfl) l
structure cD where
 L:Level
 To:Int
def cG(x:cD):AV:=.a [(.l 4 (x.L.Readers.map AV.b)),(.l 4 (x.L.Writers.map AV.b)),(.i .i64 x.To)]
@[simp] theorem adi (x:cD):(cG x).pure=true:=rfl
@[simp] theorem aa5 (l:List cD):AV.bk (l.map cG)=true:=dv _ (fun _=>rfl) l
structure cY where
 Level:Level
 To:Int
 Func:Bool
def en(x:cY):AV:=.a [(.l 4 (x.Level.Readers.map AV.b)),(.l 4 (x.Level.Writers.map AV.b)),(.i .i64 x.To),(.b x.Func)]
@[simp] theorem agL (x:cY):(en x).pure=true:=rfl
@[simp] theorem adj (l:List cY):AV.bk (l.map en)=true:=dv _ (fun _=>rfl) l
structure Event where
 Kind:Int
 At:Int
 Which:Int
 Value:Int
def Rg(x:Event):AV:=.a [(.i .i64 x.Kind),(.i .i64 x.At),(.i .i64 x.Which),(.i .i64 x.Value)]
@[simp] theorem adk (x:Event):(Rg x).pure=true:=rfl
@[simp] theorem aa6 (l:List Event):AV.bk (l.map Rg)=true:=dv _ (fun _=>rfl) l
structure PH where
 At:Int
 Kind:Int
def Rh(x:PH):AV:=.a [(.i .i64 x.At),(.i .i64 x.Kind)]
@[simp] theorem adl (x:PH):(Rh x).pure=true:=rfl
@[simp] theorem aa7 (l:List PH):AV.bk (l.map Rh)=true:=dv _ (fun _=>rfl) l
structure Eye where
 p:Program
 l:aM
 who:Int
 touch:Bool
def aa9(x:Eye):AV:=.a [(.i .i64 x.p.ah.Many),(.l 166 (x.p.ah.Grants.map aE)),(.l 3 (x.p.Speak.map (AV.i .i64))),(.l 81 (x.p.Ins.map az)),(.l 81 (x.p.Outs.map az)),(.l 83 (x.p.Vars.map cn)),(.l 101 (x.p.Funcs.map ct)),(.l 92 (x.p.Main.map aV)),(.l 45 (x.l.Vars.map aq)),(.l 45 (x.l.Funcs.map aq)),(.i .i64 x.who),(.b x.touch)]
@[simp] theorem aia (x:Eye):(aa9 x).pure=true:=rfl
@[simp] theorem agM (l:List Eye):AV.bk (l.map aa9)=true:=dv _ (fun _=>rfl) l
structure ID where
 p:Program
 dK:(List (List Bool))
def LK(x:ID):AV:=.a [(.i .i64 x.p.ah.Many),(.l 166 (x.p.ah.Grants.map aE)),(.l 3 (x.p.Speak.map (AV.i .i64))),(.l 81 (x.p.Ins.map az)),(.l 81 (x.p.Outs.map az)),(.l 83 (x.p.Vars.map cn)),(.l 101 (x.p.Funcs.map ct)),(.l 92 (x.p.Main.map aV)),(.l 43 (x.dK.map (eg 4 AV.b)))]
@[simp] theorem Xn (x:ID):(LK x).pure=true:=rfl
@[simp] theorem Wb (l:List ID):AV.bk (l.map LK)=true:=dv _ (fun _=>rfl) l
abbrev Dd(x:cD):List AV:=[(.l 4 (x.L.Readers.map AV.b)),(.l 4 (x.L.Writers.map AV.b)),(I x.To)]
abbrev bj(x:Checker):List AV:=[(I x.p.ah.Many),(.l 166 (x.p.ah.Grants.map aE)),(.l 3 (x.p.Speak.map (I))),(.l 81 (x.p.Ins.map az)),(.l 81 (x.p.Outs.map az)),(.l 83 (x.p.Vars.map cn)),(.l 101 (x.p.Funcs.map ct)),(.l 92 (x.p.Main.map aV)),(I x.funcs)]
abbrev dw(x:ax):List AV:=[(I x.Kind),(I x.N),(.l 37 (x.Args.map aL))]
abbrev dB(x:Func):List AV:=[(.l 3 (x.Params.map (I))),(.l 92 (x.Body.map aV)),(I x.Result.Kind),(I x.Result.N),(.l 37 (x.Result.Args.map aL))]
abbrev xF(x:aZ):List AV:=[(I x.S.Kind),(I x.S.Var),(I x.S.Other),(I x.S.Expr.Kind),(I x.S.Expr.N),(.l 37 (x.S.Expr.Args.map aL)),(.l 37 (x.S.Args.map aL)),(.l 92 (x.S.Then.map aV)),(.l 92 (x.S.Else.map aV)),(I x.At),(.l 4 (x.Place.Readers.map AV.b)),(.l 4 (x.Place.Writers.map AV.b))]
abbrev ar(x:Program):List AV:=[(I x.ah.Many),(.l 166 (x.ah.Grants.map aE)),(.l 3 (x.Speak.map (I))),(.l 81 (x.Ins.map az)),(.l 81 (x.Outs.map az)),(.l 83 (x.Vars.map cn)),(.l 101 (x.Funcs.map ct)),(.l 92 (x.Main.map aV))]
abbrev bC(x:Stmt):List AV:=[(I x.Kind),(I x.Var),(I x.Other),(I x.Expr.Kind),(I x.Expr.N),(.l 37 (x.Expr.Args.map aL)),(.l 37 (x.Args.map aL)),(.l 92 (x.Then.map aV)),(.l 92 (x.Else.map aV))]
abbrev De(x:Var):List AV:=[(.b x.Known),(.l 138 (x.Label.Read.map aF)),(.l 138 (x.Label.Write.map aF))]
end Go.Proofs.YtkkkkondjclcnaaGreat.A
