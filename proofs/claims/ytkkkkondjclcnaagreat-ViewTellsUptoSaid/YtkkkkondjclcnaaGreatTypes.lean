/- The types of the program, by program. -/
import Derived.Test.YtkkkkondjclcnaaGreatBase
set_option linter.all false
namespace Go.Proofs.YtkkkkondjclcnaaGreat.A
open Go
structure az where
 Kind:Int
 N:Int
 Args:(List az)
mutual
def aQ:az→AV
 | ⟨x0,x1,x2⟩=>.a [(.i .i64 x0),(.i .i64 x1),(.l 37 (tL x2))]
def tL:List az→List AV
 | []=>[]
 | x::r=>aQ x::tL r
end
theorem ET:∀ l:List az,tL l=l.map aQ
 | []=>by rw [tL];rfl
 | x::r=>by rw [tL,ET r];rfl
theorem dI(x:az):aQ x= .a [(.i .i64 x.Kind),(.i .i64 x.N),(.l 37 (x.Args.map aQ))]:=by
 cases x
 simp only [aQ,ET]
@[simp] theorem Ni (x:az):(aQ x).pure=true:=by rw [dI];rfl
@[simp] theorem abi (l:List az):AV.bk (l.map aQ)=true:=dv _ Ni l
structure cG where
 Who:Int
 For:Int
def aG(x:cG):AV:=.a [(.i .i64 x.Who),(.i .i64 x.For)]
@[simp] theorem adC (x:cG):(aG x).pure=true:=rfl
@[simp] theorem abj (l:List cG):AV.bk (l.map aG)=true:=dv _ (fun _=>rfl) l
structure aj where
 Many:Int
 Grants:(List cG)
def N3(x:aj):AV:=.a [(.i .i64 x.Many),(.l 166 (x.Grants.map aG))]
@[simp] theorem abk (x:aj):(N3 x).pure=true:=rfl
@[simp] theorem Xp (l:List aj):AV.bk (l.map N3)=true:=dv _ (fun _=>rfl) l
structure bD where
 Owner:Int
 Names:(List Int)
def aE(x:bD):AV:=.a [(.i .i64 x.Owner),(.l 3 (x.Names.map (AV.i .i64)))]
@[simp] theorem abl (x:bD):(aE x).pure=true:=rfl
@[simp] theorem Xq (l:List bD):AV.bk (l.map aE)=true:=dv _ (fun _=>rfl) l
structure Label where
 Read:(List bD)
 Write:(List bD)
def ay(x:Label):AV:=.a [(.l 138 (x.Read.map aE)),(.l 138 (x.Write.map aE))]
@[simp] theorem adD (x:Label):(ay x).pure=true:=rfl
@[simp] theorem abm (l:List Label):AV.bk (l.map ay)=true:=dv _ (fun _=>rfl) l
structure Var where
 Known:Bool
 Label:Label
def cJ(x:Var):AV:=.a [(.b x.Known),(.l 138 (x.Label.Read.map aE)),(.l 138 (x.Label.Write.map aE))]
@[simp] theorem ai1 (x:Var):(cJ x).pure=true:=rfl
@[simp] theorem ahu (l:List Var):AV.bk (l.map cJ)=true:=dv _ (fun _=>rfl) l
structure Stmt where
 Kind:Int
 Var:Int
 Other:Int
 Expr:az
 Args:(List az)
 Then:(List Stmt)
 Else:(List Stmt)
mutual
def aV:Stmt→AV
 | ⟨x0,x1,x2,x3,x4,x5,x6⟩=>.a [(.i .i64 x0),(.i .i64 x1),(.i .i64 x2),(.i .i64 x3.Kind),(.i .i64 x3.N),(.l 37 (x3.Args.map aQ)),(.l 37 (x4.map aQ)),(.l 92 (Ak x5)),(.l 92 (Ak x6))]
def Ak:List Stmt→List AV
 | []=>[]
 | x::r=>aV x::Ak r
end
theorem GL:∀ l:List Stmt,Ak l=l.map aV
 | []=>by rw [Ak];rfl
 | x::r=>by rw [Ak,GL r];rfl
theorem ij(x:Stmt):aV x= .a [(.i .i64 x.Kind),(.i .i64 x.Var),(.i .i64 x.Other),(.i .i64 x.Expr.Kind),(.i .i64 x.Expr.N),(.l 37 (x.Expr.Args.map aQ)),(.l 37 (x.Args.map aQ)),(.l 92 (x.Then.map aV)),(.l 92 (x.Else.map aV))]:=by
 cases x
 simp only [aV,GL]
@[simp] theorem Pu (x:Stmt):(aV x).pure=true:=by rw [ij];rfl
@[simp] theorem adE (l:List Stmt):AV.bk (l.map aV)=true:=dv _ Pu l
structure Func where
 Params:(List Int)
 Body:(List Stmt)
 Result:az
def cA(x:Func):AV:=.a [(.l 3 (x.Params.map (AV.i .i64))),(.l 92 (x.Body.map aV)),(.i .i64 x.Result.Kind),(.i .i64 x.Result.N),(.l 37 (x.Result.Args.map aQ))]
@[simp] theorem ahv (x:Func):(cA x).pure=true:=rfl
@[simp] theorem adF (l:List Func):AV.bk (l.map cA)=true:=dv _ (fun _=>rfl) l
structure Program where
 aj:aj
 Speak:(List Int)
 Ins:(List Label)
 Outs:(List Label)
 Vars:(List Var)
 Funcs:(List Func)
 Main:(List Stmt)
def qy(x:Program):AV:=.a [(.i .i64 x.aj.Many),(.l 166 (x.aj.Grants.map aG)),(.l 3 (x.Speak.map (AV.i .i64))),(.l 81 (x.Ins.map ay)),(.l 81 (x.Outs.map ay)),(.l 83 (x.Vars.map cJ)),(.l 101 (x.Funcs.map cA)),(.l 92 (x.Main.map aV))]
@[simp] theorem Xr (x:Program):(qy x).pure=true:=rfl
@[simp] theorem Wh (l:List Program):AV.bk (l.map qy)=true:=dv _ (fun _=>rfl) l
structure Checker where
 p:Program
 funcs:Int
def Lw(x:Checker):AV:=.a [(.i .i64 x.p.aj.Many),(.l 166 (x.p.aj.Grants.map aG)),(.l 3 (x.p.Speak.map (AV.i .i64))),(.l 81 (x.p.Ins.map ay)),(.l 81 (x.p.Outs.map ay)),(.l 83 (x.p.Vars.map cJ)),(.l 101 (x.p.Funcs.map cA)),(.l 92 (x.p.Main.map aV)),(.i .i64 x.funcs)]
@[simp] theorem Xs (x:Checker):(Lw x).pure=true:=rfl
@[simp] theorem Wi (l:List Checker):AV.bk (l.map Lw)=true:=dv _ (fun _=>rfl) l
structure Level where
 Readers:(List Bool)
 Writers:(List Bool)
def aT(x:Level):AV:=.a [(.l 4 (x.Readers.map AV.b)),(.l 4 (x.Writers.map AV.b))]
@[simp] theorem adG (x:Level):(aT x).pure=true:=rfl
@[simp] theorem abn (l:List Level):AV.bk (l.map aT)=true:=dv _ (fun _=>rfl) l
structure gm where
 Vars:(List Level)
 Funcs:(List Level)
def N4(x:gm):AV:=.a [(.l 45 (x.Vars.map aT)),(.l 45 (x.Funcs.map aT))]
@[simp] theorem abo (x:gm):(N4 x).pure=true:=rfl
@[simp] theorem Xt (l:List gm):AV.bk (l.map N4)=true:=dv _ (fun _=>rfl) l
structure mH where
 p:Program
 l:gm
 who:Int
 touch:Bool
def abp(x:mH):AV:=.a [(.i .i64 x.p.aj.Many),(.l 166 (x.p.aj.Grants.map aG)),(.l 3 (x.p.Speak.map (AV.i .i64))),(.l 81 (x.p.Ins.map ay)),(.l 81 (x.p.Outs.map ay)),(.l 83 (x.p.Vars.map cJ)),(.l 101 (x.p.Funcs.map cA)),(.l 92 (x.p.Main.map aV)),(.l 45 (x.l.Vars.map aT)),(.l 45 (x.l.Funcs.map aT)),(.i .i64 x.who),(.b x.touch)]
@[simp] theorem ai2 (x:mH):(abp x).pure=true:=rfl
@[simp] theorem ahw (l:List mH):AV.bk (l.map abp)=true:=dv _ (fun _=>rfl) l
structure Event where
 Kind:Int
 At:Int
 Which:Int
 Value:Int
def aH(x:Event):AV:=.a [(.i .i64 x.Kind),(.i .i64 x.At),(.i .i64 x.Which),(.i .i64 x.Value)]
@[simp] theorem adH (x:Event):(aH x).pure=true:=rfl
@[simp] theorem abq (l:List Event):AV.bk (l.map aH)=true:=dv _ (fun _=>rfl) l
structure dL where
 Level:Level
 To:Int
 Func:Bool
def eL(x:dL):AV:=.a [(.l 4 (x.Level.Readers.map AV.b)),(.l 4 (x.Level.Writers.map AV.b)),(.i .i64 x.To),(.b x.Func)]
@[simp] theorem ahx (x:dL):(eL x).pure=true:=rfl
@[simp] theorem adI (l:List dL):AV.bk (l.map eL)=true:=dv _ (fun _=>rfl) l
structure bS where
 S:Stmt
 At:Int
 Place:Level
def db(x:bS):AV:=.a [(.i .i64 x.S.Kind),(.i .i64 x.S.Var),(.i .i64 x.S.Other),(.i .i64 x.S.Expr.Kind),(.i .i64 x.S.Expr.N),(.l 37 (x.S.Expr.Args.map aQ)),(.l 37 (x.S.Args.map aQ)),(.l 92 (x.S.Then.map aV)),(.l 92 (x.S.Else.map aV)),(.i .i64 x.At),(.l 4 (x.Place.Readers.map AV.b)),(.l 4 (x.Place.Writers.map AV.b))]
@[simp] theorem abr (x:bS):(db x).pure=true:=rfl
@[simp] theorem Xu (l:List bS):AV.bk (l.map db)=true:=dv _ (fun _=>rfl) l
structure fR where
 L:Level
 To:Int
def dO(x:fR):AV:=.a [(.l 4 (x.L.Readers.map AV.b)),(.l 4 (x.L.Writers.map AV.b)),(.i .i64 x.To)]
@[simp] theorem adJ (x:fR):(dO x).pure=true:=rfl
@[simp] theorem abt (l:List fR):AV.bk (l.map dO)=true:=dv _ (fun _=>rfl) l
structure Pv where
 At:Int
 Kind:Int
def Q4(x:Pv):AV:=.a [(.i .i64 x.At),(.i .i64 x.Kind)]
@[simp] theorem adK (x:Pv):(Q4 x).pure=true:=rfl
@[simp] theorem abu (l:List Pv):AV.bk (l.map Q4)=true:=dv _ (fun _=>rfl) l
structure Is where
 p:Program
 dM:(List (List Bool))
def Lx(x:Is):AV:=.a [(.i .i64 x.p.aj.Many),(.l 166 (x.p.aj.Grants.map aG)),(.l 3 (x.p.Speak.map (AV.i .i64))),(.l 81 (x.p.Ins.map ay)),(.l 81 (x.p.Outs.map ay)),(.l 83 (x.p.Vars.map cJ)),(.l 101 (x.p.Funcs.map cA)),(.l 92 (x.p.Main.map aV)),(.l 43 (x.dM.map (bc 4 AV.b)))]
@[simp] theorem Xv (x:Is):(Lx x).pure=true:=rfl
@[simp] theorem Wj (l:List Is):AV.bk (l.map Lx)=true:=dv _ (fun _=>rfl) l
abbrev bj(x:Checker):List AV:=[(I x.p.aj.Many),(.l 166 (x.p.aj.Grants.map aG)),(.l 3 (x.p.Speak.map (I))),(.l 81 (x.p.Ins.map ay)),(.l 81 (x.p.Outs.map ay)),(.l 83 (x.p.Vars.map cJ)),(.l 101 (x.p.Funcs.map cA)),(.l 92 (x.p.Main.map aV)),(I x.funcs)]
abbrev dS(x:Event):List AV:=[(I x.Kind),(I x.At),(I x.Which),(I x.Value)]
abbrev ey(x:az):List AV:=[(I x.Kind),(I x.N),(.l 37 (x.Args.map aQ))]
abbrev dc(x:mH):List AV:=[(I x.p.aj.Many),(.l 166 (x.p.aj.Grants.map aG)),(.l 3 (x.p.Speak.map (I))),(.l 81 (x.p.Ins.map ay)),(.l 81 (x.p.Outs.map ay)),(.l 83 (x.p.Vars.map cJ)),(.l 101 (x.p.Funcs.map cA)),(.l 92 (x.p.Main.map aV)),(.l 45 (x.l.Vars.map aT)),(.l 45 (x.l.Funcs.map aT)),(I x.who),(.b x.touch)]
abbrev dD(x:Func):List AV:=[(.l 3 (x.Params.map (I))),(.l 92 (x.Body.map aV)),(I x.Result.Kind),(I x.Result.N),(.l 37 (x.Result.Args.map aQ))]
abbrev Al(x:bS):List AV:=[(I x.S.Kind),(I x.S.Var),(I x.S.Other),(I x.S.Expr.Kind),(I x.S.Expr.N),(.l 37 (x.S.Expr.Args.map aQ)),(.l 37 (x.S.Args.map aQ)),(.l 92 (x.S.Then.map aV)),(.l 92 (x.S.Else.map aV)),(I x.At),(.l 4 (x.Place.Readers.map AV.b)),(.l 4 (x.Place.Writers.map AV.b))]
abbrev ar(x:Program):List AV:=[(I x.aj.Many),(.l 166 (x.aj.Grants.map aG)),(.l 3 (x.Speak.map (I))),(.l 81 (x.Ins.map ay)),(.l 81 (x.Outs.map ay)),(.l 83 (x.Vars.map cJ)),(.l 101 (x.Funcs.map cA)),(.l 92 (x.Main.map aV))]
abbrev bN(x:Stmt):List AV:=[(I x.Kind),(I x.Var),(I x.Other),(I x.Expr.Kind),(I x.Expr.N),(.l 37 (x.Expr.Args.map aQ)),(.l 37 (x.Args.map aQ)),(.l 92 (x.Then.map aV)),(.l 92 (x.Else.map aV))]
abbrev Ly(x:Var):List AV:=[(.b x.Known),(.l 138 (x.Label.Read.map aE)),(.l 138 (x.Label.Write.map aE))]
end Go.Proofs.YtkkkkondjclcnaaGreat.A
