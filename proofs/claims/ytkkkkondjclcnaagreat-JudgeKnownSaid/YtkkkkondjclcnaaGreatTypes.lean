/- The types of the program, by program. -/
import Derived.Test.YtkkkkondjclcnaaGreatBase
set_option linter.unusedSectionVars false
set_option linter.unusedVariables false
set_option linter.unusedSimpArgs false
namespace Go.Proofs.YtkkkkondjclcnaaGreat.A
open Go
structure bc where
 Who:Int
 For:Int
def aB(x:bc):AV:=.a [(.i .i64 x.Who),(.i .i64 x.For)]
@[simp] theorem Xu (x:bc):(aB x).pure=true:=rfl
@[simp] theorem U6 (l:List bc):AV.aK (l.map aB)=true:=cw _ (fun _=>rfl) l
structure aa where
 Many:Int
 Grants:(List bc)
def JX(x:aa):AV:=.a [(.i .i64 x.Many),(.l 166 (x.Grants.map aB))]
@[simp] theorem U7 (x:aa):(JX x).pure=true:=rfl
@[simp] theorem Sb (l:List aa):AV.aK (l.map JX)=true:=cw _ (fun _=>rfl) l
structure aD where
 Owner:Int
 Names:(List Int)
def au(x:aD):AV:=.a [(.i .i64 x.Owner),(.l 3 (x.Names.map (AV.i .i64)))]
@[simp] theorem U8 (x:aD):(au x).pure=true:=rfl
@[simp] theorem Sc (l:List aD):AV.aK (l.map au)=true:=cw _ (fun _=>rfl) l
structure Label where
 Read:(List aD)
 Write:(List aD)
def ah(x:Label):AV:=.a [(.l 138 (x.Read.map au)),(.l 138 (x.Write.map au))]
@[simp] theorem Xv (x:Label):(ah x).pure=true:=rfl
@[simp] theorem U9 (l:List Label):AV.aK (l.map ah)=true:=cw _ (fun _=>rfl) l
structure Var where
 Known:Bool
 Label:Label
def aW(x:Var):AV:=.a [(.b x.Known),(.l 138 (x.Label.Read.map au)),(.l 138 (x.Label.Write.map au))]
@[simp] theorem aaZ (x:Var):(aW x).pure=true:=rfl
@[simp] theorem ZB (l:List Var):AV.aK (l.map aW)=true:=cw _ (fun _=>rfl) l
structure ak where
 Kind:Int
 N:Int
 Args:(List ak)
mutual
def az:ak→AV
 | ⟨x0,x1,x2⟩=>.a [(.i .i64 x0),(.i .i64 x1),(.l 37 (rA x2))]
def rA:List ak→List AV
 | []=>[]
 | x::r=>az x::rA r
end
theorem BL:∀ l:List ak,rA l=l.map az
 | []=>by rw [rA];rfl
 | x::r=>by rw [rA,BL r];rfl
theorem dt(x:ak):az x= .a [(.i .i64 x.Kind),(.i .i64 x.N),(.l 37 (x.Args.map az))]:=by
 cases x
 simp only [az,BL]
@[simp] theorem Jd (x:ak):(az x).pure=true:=by rw [dt];rfl
@[simp] theorem Va (l:List ak):AV.aK (l.map az)=true:=cw _ Jd l
structure Stmt where
 Kind:Int
 Var:Int
 Other:Int
 Expr:ak
 Args:(List ak)
 Then:(List Stmt)
 Else:(List Stmt)
mutual
def ay:Stmt→AV
 | ⟨x0,x1,x2,x3,x4,x5,x6⟩=>.a [(.i .i64 x0),(.i .i64 x1),(.i .i64 x2),(.i .i64 x3.Kind),(.i .i64 x3.N),(.l 37 (x3.Args.map az)),(.l 37 (x4.map az)),(.l 92 (xF x5)),(.l 92 (xF x6))]
def xF:List Stmt→List AV
 | []=>[]
 | x::r=>ay x::xF r
end
theorem Dc:∀ l:List Stmt,xF l=l.map ay
 | []=>by rw [xF];rfl
 | x::r=>by rw [xF,Dc r];rfl
theorem je(x:Stmt):ay x= .a [(.i .i64 x.Kind),(.i .i64 x.Var),(.i .i64 x.Other),(.i .i64 x.Expr.Kind),(.i .i64 x.Expr.N),(.l 37 (x.Expr.Args.map az)),(.l 37 (x.Args.map az)),(.l 92 (x.Then.map ay)),(.l 92 (x.Else.map ay))]:=by
 cases x
 simp only [ay,Dc]
@[simp] theorem Lo (x:Stmt):(ay x).pure=true:=by rw [je];rfl
@[simp] theorem Xw (l:List Stmt):AV.aK (l.map ay)=true:=cw _ Lo l
structure Func where
 Params:(List Int)
 Body:(List Stmt)
 Result:ak
def aS(x:Func):AV:=.a [(.l 3 (x.Params.map (AV.i .i64))),(.l 92 (x.Body.map ay)),(.i .i64 x.Result.Kind),(.i .i64 x.Result.N),(.l 37 (x.Result.Args.map az))]
@[simp] theorem ZC (x:Func):(aS x).pure=true:=rfl
@[simp] theorem Xx (l:List Func):AV.aK (l.map aS)=true:=cw _ (fun _=>rfl) l
structure Program where
 aa:aa
 Speak:(List Int)
 Ins:(List Label)
 Outs:(List Label)
 Vars:(List Var)
 Funcs:(List Func)
 Main:(List Stmt)
def om(x:Program):AV:=.a [(.i .i64 x.aa.Many),(.l 166 (x.aa.Grants.map aB)),(.l 3 (x.Speak.map (AV.i .i64))),(.l 81 (x.Ins.map ah)),(.l 81 (x.Outs.map ah)),(.l 83 (x.Vars.map aW)),(.l 101 (x.Funcs.map aS)),(.l 92 (x.Main.map ay))]
@[simp] theorem Sd (x:Program):(om x).pure=true:=rfl
@[simp] theorem Rg (l:List Program):AV.aK (l.map om)=true:=cw _ (fun _=>rfl) l
structure Checker where
 p:Program
 funcs:Int
def Hl(x:Checker):AV:=.a [(.i .i64 x.p.aa.Many),(.l 166 (x.p.aa.Grants.map aB)),(.l 3 (x.p.Speak.map (AV.i .i64))),(.l 81 (x.p.Ins.map ah)),(.l 81 (x.p.Outs.map ah)),(.l 83 (x.p.Vars.map aW)),(.l 101 (x.p.Funcs.map aS)),(.l 92 (x.p.Main.map ay)),(.i .i64 x.funcs)]
@[simp] theorem Sf (x:Checker):(Hl x).pure=true:=rfl
@[simp] theorem Rh (l:List Checker):AV.aK (l.map Hl)=true:=cw _ (fun _=>rfl) l
structure Level where
 Readers:(List Bool)
 Writers:(List Bool)
def aE(x:Level):AV:=.a [(.l 4 (x.Readers.map AV.b)),(.l 4 (x.Writers.map AV.b))]
@[simp] theorem Xy (x:Level):(aE x).pure=true:=rfl
@[simp] theorem Vb (l:List Level):AV.aK (l.map aE)=true:=cw _ (fun _=>rfl) l
structure aA where
 p:Program
 eG:(List (List Bool))
def Hm(x:aA):AV:=.a [(.i .i64 x.p.aa.Many),(.l 166 (x.p.aa.Grants.map aB)),(.l 3 (x.p.Speak.map (AV.i .i64))),(.l 81 (x.p.Ins.map ah)),(.l 81 (x.p.Outs.map ah)),(.l 83 (x.p.Vars.map aW)),(.l 101 (x.p.Funcs.map aS)),(.l 92 (x.p.Main.map ay)),(.l 43 (x.eG.map (cz 4 AV.b)))]
@[simp] theorem Sg (x:aA):(Hm x).pure=true:=rfl
@[simp] theorem Ri (l:List aA):AV.aK (l.map Hm)=true:=cw _ (fun _=>rfl) l
structure fp where
 Vars:(List Level)
 Funcs:(List Level)
def JY(x:fp):AV:=.a [(.l 45 (x.Vars.map aE)),(.l 45 (x.Funcs.map aE))]
@[simp] theorem Vc (x:fp):(JY x).pure=true:=rfl
@[simp] theorem Sh (l:List fp):AV.aK (l.map JY)=true:=cw _ (fun _=>rfl) l
structure nL where
 At:Int
 Kind:Int
def vv(x:nL):AV:=.a [(.i .i64 x.At),(.i .i64 x.Kind)]
@[simp] theorem Xz (x:nL):(vv x).pure=true:=rfl
@[simp] theorem Vd (l:List nL):AV.aK (l.map vv)=true:=cw _ (fun _=>rfl) l
structure cb where
 Level:Level
 To:Int
 Func:Bool
def cp(x:cb):AV:=.a [(.l 4 (x.Level.Readers.map AV.b)),(.l 4 (x.Level.Writers.map AV.b)),(.i .i64 x.To),(.b x.Func)]
@[simp] theorem ZD (x:cb):(cp x).pure=true:=rfl
@[simp] theorem XA (l:List cb):AV.aK (l.map cp)=true:=cw _ (fun _=>rfl) l
structure Hn where
 S:Stmt
 At:Int
 Place:Level
def JZ(x:Hn):AV:=.a [(.i .i64 x.S.Kind),(.i .i64 x.S.Var),(.i .i64 x.S.Other),(.i .i64 x.S.Expr.Kind),(.i .i64 x.S.Expr.N),(.l 37 (x.S.Expr.Args.map az)),(.l 37 (x.S.Args.map az)),(.l 92 (x.S.Then.map ay)),(.l 92 (x.S.Else.map ay)),(.i .i64 x.At),(.l 4 (x.Place.Readers.map AV.b)),(.l 4 (x.Place.Writers.map AV.b))]
@[simp] theorem Ve (x:Hn):(JZ x).pure=true:=rfl
@[simp] theorem Si (l:List Hn):AV.aK (l.map JZ)=true:=cw _ (fun _=>rfl) l
structure Lq where
 L:Level
 To:Int
def MQ(x:Lq):AV:=.a [(.l 4 (x.L.Readers.map AV.b)),(.l 4 (x.L.Writers.map AV.b)),(.i .i64 x.To)]
@[simp] theorem XB (x:Lq):(MQ x).pure=true:=rfl
@[simp] theorem Vf (l:List Lq):AV.aK (l.map MQ)=true:=cw _ (fun _=>rfl) l
structure Event where
 Kind:Int
 At:Int
 Which:Int
 Value:Int
def MR(x:Event):AV:=.a [(.i .i64 x.Kind),(.i .i64 x.At),(.i .i64 x.Which),(.i .i64 x.Value)]
@[simp] theorem XC (x:Event):(MR x).pure=true:=rfl
@[simp] theorem Vg (l:List Event):AV.aK (l.map MR)=true:=cw _ (fun _=>rfl) l
structure Vh where
 p:Program
 l:fp
 who:Int
 touch:Bool
def Vi(x:Vh):AV:=.a [(.i .i64 x.p.aa.Many),(.l 166 (x.p.aa.Grants.map aB)),(.l 3 (x.p.Speak.map (AV.i .i64))),(.l 81 (x.p.Ins.map ah)),(.l 81 (x.p.Outs.map ah)),(.l 83 (x.p.Vars.map aW)),(.l 101 (x.p.Funcs.map aS)),(.l 92 (x.p.Main.map ay)),(.l 45 (x.l.Vars.map aE)),(.l 45 (x.l.Funcs.map aE)),(.i .i64 x.who),(.b x.touch)]
@[simp] theorem aa0 (x:Vh):(Vi x).pure=true:=rfl
@[simp] theorem ZE (l:List Vh):AV.aK (l.map Vi)=true:=cw _ (fun _=>rfl) l
abbrev an(x:Checker):List AV:=[(I x.p.aa.Many),(.l 166 (x.p.aa.Grants.map aB)),(.l 3 (x.p.Speak.map (I))),(.l 81 (x.p.Ins.map ah)),(.l 81 (x.p.Outs.map ah)),(.l 83 (x.p.Vars.map aW)),(.l 101 (x.p.Funcs.map aS)),(.l 92 (x.p.Main.map ay)),(I x.funcs)]
abbrev dc(x:ak):List AV:=[(I x.Kind),(I x.N),(.l 37 (x.Args.map az))]
abbrev dB(x:Func):List AV:=[(.l 3 (x.Params.map (I))),(.l 92 (x.Body.map ay)),(I x.Result.Kind),(I x.Result.N),(.l 37 (x.Result.Args.map az))]
abbrev ar(x:Program):List AV:=[(I x.aa.Many),(.l 166 (x.aa.Grants.map aB)),(.l 3 (x.Speak.map (I))),(.l 81 (x.Ins.map ah)),(.l 81 (x.Outs.map ah)),(.l 83 (x.Vars.map aW)),(.l 101 (x.Funcs.map aS)),(.l 92 (x.Main.map ay))]
abbrev af(x:aA):List AV:=[(I x.p.aa.Many),(.l 166 (x.p.aa.Grants.map aB)),(.l 3 (x.p.Speak.map (I))),(.l 81 (x.p.Ins.map ah)),(.l 81 (x.p.Outs.map ah)),(.l 83 (x.p.Vars.map aW)),(.l 101 (x.p.Funcs.map aS)),(.l 92 (x.p.Main.map ay)),(.l 43 (x.eG.map (cz 4 AV.b)))]
abbrev aw(x:Stmt):List AV:=[(I x.Kind),(I x.Var),(I x.Other),(I x.Expr.Kind),(I x.Expr.N),(.l 37 (x.Expr.Args.map az)),(.l 37 (x.Args.map az)),(.l 92 (x.Then.map ay)),(.l 92 (x.Else.map ay))]
abbrev Ho(x:Var):List AV:=[(.b x.Known),(.l 138 (x.Label.Read.map au)),(.l 138 (x.Label.Write.map au))]
end Go.Proofs.YtkkkkondjclcnaaGreat.A
