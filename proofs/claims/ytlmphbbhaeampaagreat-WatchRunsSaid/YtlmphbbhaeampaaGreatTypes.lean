/- The types of the program, by program. -/
import Derived.Test.YtlmphbbhaeampaaGreatBase
set_option linter.all false
namespace Go.Proofs.YtlmphbbhaeampaaGreat.A
open Go
structure ay where
 Kind:Int
 N:Int
 Args:(List ay)
mutual
def bw:ay→AV
 | ⟨x0,x1,x2⟩=>.a [(.i .i64 x0),(.i .i64 x1),(.l 89 (vD x2))]
def vD:List ay→List AV
 | []=>[]
 | x::r=>bw x::vD r
end
theorem IH:∀ l:List ay,vD l=l.map bw
 | []=>by rw [vD];rfl
 | x::r=>by rw [vD,IH r];rfl
theorem di(x:ay):bw x= .a [(.i .i64 x.Kind),(.i .i64 x.N),(.l 89 (x.Args.map bw))]:=by
 cases x
 simp only [bw,IH]
@[simp] theorem Rt (x:ay):(bw x).pure=true:=by rw [di];rfl
@[simp] theorem ahN (l:List ay):AV.cG (l.map bw)=true:=dQ _ Rt l
structure dO where
 Who:Int
 For:Int
def bT(x:dO):AV:=.a [(.i .i64 x.Who),(.i .i64 x.For)]
@[simp] theorem aiC (x:dO):(bT x).pure=true:=rfl
@[simp] theorem ahO (l:List dO):AV.cG (l.map bT)=true:=dQ _ (fun _=>rfl) l
structure ak where
 Many:Int
 Grants:(List dO)
def Sy(x:ak):AV:=.a [(.i .i64 x.Many),(.l 79 (x.Grants.map bT))]
@[simp] theorem ahP (x:ak):(Sy x).pure=true:=rfl
@[simp] theorem aaA (l:List ak):AV.cG (l.map Sy)=true:=dQ _ (fun _=>rfl) l
structure cp where
 Owner:Int
 Names:(List Int)
def bV(x:cp):AV:=.a [(.i .i64 x.Owner),(.l 3 (x.Names.map (AV.i .i64)))]
@[simp] theorem ahQ (x:cp):(bV x).pure=true:=rfl
@[simp] theorem aaB (l:List cp):AV.cG (l.map bV)=true:=dQ _ (fun _=>rfl) l
structure Label where
 Read:(List cp)
 Write:(List cp)
def aT(x:Label):AV:=.a [(.l 155 (x.Read.map bV)),(.l 155 (x.Write.map bV))]
@[simp] theorem aiD (x:Label):(aT x).pure=true:=rfl
@[simp] theorem ahR (l:List Label):AV.cG (l.map aT)=true:=dQ _ (fun _=>rfl) l
structure Var where
 Known:Bool
 Label:Label
def dk(x:Var):AV:=.a [(.b x.Known),(.l 155 (x.Label.Read.map bV)),(.l 155 (x.Label.Write.map bV))]
@[simp] theorem anD (x:Var):(dk x).pure=true:=rfl
@[simp] theorem amp (l:List Var):AV.cG (l.map dk)=true:=dQ _ (fun _=>rfl) l
structure Stmt where
 Kind:Int
 Var:Int
 Other:Int
 Expr:ay
 Args:(List ay)
 Then:(List Stmt)
 Else:(List Stmt)
mutual
def bK:Stmt→AV
 | ⟨x0,x1,x2,x3,x4,x5,x6⟩=>.a [(.i .i64 x0),(.i .i64 x1),(.i .i64 x2),(.i .i64 x3.Kind),(.i .i64 x3.N),(.l 89 (x3.Args.map bw)),(.l 89 (x4.map bw)),(.l 111 (DE x5)),(.l 111 (DE x6))]
def DE:List Stmt→List AV
 | []=>[]
 | x::r=>bK x::DE r
end
theorem KA:∀ l:List Stmt,DE l=l.map bK
 | []=>by rw [DE];rfl
 | x::r=>by rw [DE,KA r];rfl
theorem gE(x:Stmt):bK x= .a [(.i .i64 x.Kind),(.i .i64 x.Var),(.i .i64 x.Other),(.i .i64 x.Expr.Kind),(.i .i64 x.Expr.N),(.l 89 (x.Expr.Args.map bw)),(.l 89 (x.Args.map bw)),(.l 111 (x.Then.map bK)),(.l 111 (x.Else.map bK))]:=by
 cases x
 simp only [bK,KA]
@[simp] theorem TP (x:Stmt):(bK x).pure=true:=by rw [gE];rfl
@[simp] theorem aiE (l:List Stmt):AV.cG (l.map bK)=true:=dQ _ TP l
structure Func where
 Params:(List Int)
 Body:(List Stmt)
 Result:ay
def cS(x:Func):AV:=.a [(.l 3 (x.Params.map (AV.i .i64))),(.l 111 (x.Body.map bK)),(.i .i64 x.Result.Kind),(.i .i64 x.Result.N),(.l 89 (x.Result.Args.map bw))]
@[simp] theorem amq (x:Func):(cS x).pure=true:=rfl
@[simp] theorem aiF (l:List Func):AV.cG (l.map cS)=true:=dQ _ (fun _=>rfl) l
structure Program where
 ak:ak
 Speak:(List Int)
 Ins:(List Label)
 Outs:(List Label)
 Vars:(List Var)
 Funcs:(List Func)
 Main:(List Stmt)
def sn(x:Program):AV:=.a [(.i .i64 x.ak.Many),(.l 79 (x.ak.Grants.map bT)),(.l 3 (x.Speak.map (AV.i .i64))),(.l 83 (x.Ins.map aT)),(.l 83 (x.Outs.map aT)),(.l 86 (x.Vars.map dk)),(.l 91 (x.Funcs.map cS)),(.l 111 (x.Main.map bK))]
@[simp] theorem aaC (x:Program):(sn x).pure=true:=rfl
@[simp] theorem ZW (l:List Program):AV.cG (l.map sn)=true:=dQ _ (fun _=>rfl) l
structure Checker where
 p:Program
 funcs:Int
def PM(x:Checker):AV:=.a [(.i .i64 x.p.ak.Many),(.l 79 (x.p.ak.Grants.map bT)),(.l 3 (x.p.Speak.map (AV.i .i64))),(.l 83 (x.p.Ins.map aT)),(.l 83 (x.p.Outs.map aT)),(.l 86 (x.p.Vars.map dk)),(.l 91 (x.p.Funcs.map cS)),(.l 111 (x.p.Main.map bK)),(.i .i64 x.funcs)]
@[simp] theorem aaD (x:Checker):(PM x).pure=true:=rfl
@[simp] theorem ZX (l:List Checker):AV.cG (l.map PM)=true:=dQ _ (fun _=>rfl) l
structure Level where
 Readers:(List Bool)
 Writers:(List Bool)
def aC(x:Level):AV:=.a [(.l 4 (x.Readers.map AV.b)),(.l 4 (x.Writers.map AV.b))]
@[simp] theorem aiG (x:Level):(aC x).pure=true:=rfl
@[simp] theorem ahS (l:List Level):AV.cG (l.map aC)=true:=dQ _ (fun _=>rfl) l
structure aW where
 p:Program
 eV:(List (List Bool))
def PN(x:aW):AV:=.a [(.i .i64 x.p.ak.Many),(.l 79 (x.p.ak.Grants.map bT)),(.l 3 (x.p.Speak.map (AV.i .i64))),(.l 83 (x.p.Ins.map aT)),(.l 83 (x.p.Outs.map aT)),(.l 86 (x.p.Vars.map dk)),(.l 91 (x.p.Funcs.map cS)),(.l 111 (x.p.Main.map bK)),(.l 32 (x.eV.map (db 4 AV.b)))]
@[simp] theorem aaE (x:aW):(PN x).pure=true:=rfl
@[simp] theorem ZY (l:List aW):AV.cG (l.map PN)=true:=dQ _ (fun _=>rfl) l
structure Event where
 Kind:Int
 At:Int
 Which:Int
 Value:Int
def bS(x:Event):AV:=.a [(.i .i64 x.Kind),(.i .i64 x.At),(.i .i64 x.Which),(.i .i64 x.Value)]
@[simp] theorem aiH (x:Event):(bS x).pure=true:=rfl
@[simp] theorem ahT (l:List Event):AV.cG (l.map bS)=true:=dQ _ (fun _=>rfl) l
structure RunT where
 Events:(List Event)
 Vars:(List Int)
 Taken:(List Int)
 Steps:Int
 End:Int
 Stop:Int
def Zk(x:RunT):AV:=.a [(.l 128 (x.Events.map bS)),(.l 3 (x.Vars.map (AV.i .i64))),(.l 3 (x.Taken.map (AV.i .i64))),(.i .i64 x.Steps),(.i .i64 x.End),(.i .i64 x.Stop)]
@[simp] theorem amr (x:RunT):(Zk x).pure=true:=rfl
@[simp] theorem aiI (l:List RunT):AV.cG (l.map Zk)=true:=dQ _ (fun _=>rfl) l
structure Runner where
 p:Program
 ins:(List (List Int))
 fuel:Int
 first:(List Int)
 bz:RunT
def Sz(x:Runner):AV:=.a [(.i .i64 x.p.ak.Many),(.l 79 (x.p.ak.Grants.map bT)),(.l 3 (x.p.Speak.map (AV.i .i64))),(.l 83 (x.p.Ins.map aT)),(.l 83 (x.p.Outs.map aT)),(.l 86 (x.p.Vars.map dk)),(.l 91 (x.p.Funcs.map cS)),(.l 111 (x.p.Main.map bK)),(.l 25 (x.ins.map (db 3 (AV.i .i64)))),(.i .i64 x.fuel),(.l 3 (x.first.map (AV.i .i64))),(.l 128 (x.bz.Events.map bS)),(.l 3 (x.bz.Vars.map (AV.i .i64))),(.l 3 (x.bz.Taken.map (AV.i .i64))),(.i .i64 x.bz.Steps),(.i .i64 x.bz.End),(.i .i64 x.bz.Stop)]
@[simp] theorem ahU (x:Runner):(Sz x).pure=true:=rfl
@[simp] theorem aaF (l:List Runner):AV.cG (l.map Sz)=true:=dQ _ (fun _=>rfl) l
structure aI where
 Runner:Unit
 p:Program
 vars:(List Level)
 places:(List Level)
 speak:Unit
structure Task where
 Kind:Int
 At:Int
 S:Stmt
 Places:Int
def bP(x:Task):AV:=.a [(.i .i64 x.Kind),(.i .i64 x.At),(.i .i64 x.S.Kind),(.i .i64 x.S.Var),(.i .i64 x.S.Other),(.i .i64 x.S.Expr.Kind),(.i .i64 x.S.Expr.N),(.l 89 (x.S.Expr.Args.map bw)),(.l 89 (x.S.Args.map bw)),(.l 111 (x.S.Then.map bK)),(.l 111 (x.S.Else.map bK)),(.i .i64 x.Places)]
@[simp] theorem ams (x:Task):(bP x).pure=true:=rfl
@[simp] theorem aiJ (l:List Task):AV.cG (l.map bP)=true:=dQ _ (fun _=>rfl) l
structure Machine where
 P:Program
 Ins:(List (List Int))
 Fuel:Int
 R:RunT
 Tasks:(List Task)
 Watch:Unit
 bW:(List Level)
 Places:(List Level)
structure PO where
 p:Program
 channel:Int
 first:(List Int)
 vars:(List Bool)
 ins:(List Bool)
 stmts:(List Bool)
 changed:Bool
def SA(x:PO):AV:=.a [(.i .i64 x.p.ak.Many),(.l 79 (x.p.ak.Grants.map bT)),(.l 3 (x.p.Speak.map (AV.i .i64))),(.l 83 (x.p.Ins.map aT)),(.l 83 (x.p.Outs.map aT)),(.l 86 (x.p.Vars.map dk)),(.l 91 (x.p.Funcs.map cS)),(.l 111 (x.p.Main.map bK)),(.i .i64 x.channel),(.l 3 (x.first.map (AV.i .i64))),(.l 4 (x.vars.map AV.b)),(.l 4 (x.ins.map AV.b)),(.l 4 (x.stmts.map AV.b)),(.b x.changed)]
@[simp] theorem ahV (x:PO):(SA x).pure=true:=rfl
@[simp] theorem aaG (l:List PO):AV.cG (l.map SA)=true:=dQ _ (fun _=>rfl) l
structure bW where
 Vars:(List Level)
 Funcs:(List Level)
def SB(x:bW):AV:=.a [(.l 113 (x.Vars.map aC)),(.l 113 (x.Funcs.map aC))]
@[simp] theorem ahW (x:bW):(SB x).pure=true:=rfl
@[simp] theorem aaH (l:List bW):AV.cG (l.map SB)=true:=dQ _ (fun _=>rfl) l
structure PQ where
 S:Stmt
 At:Int
 Place:Level
def SC(x:PQ):AV:=.a [(.i .i64 x.S.Kind),(.i .i64 x.S.Var),(.i .i64 x.S.Other),(.i .i64 x.S.Expr.Kind),(.i .i64 x.S.Expr.N),(.l 89 (x.S.Expr.Args.map bw)),(.l 89 (x.S.Args.map bw)),(.l 111 (x.S.Then.map bK)),(.l 111 (x.S.Else.map bK)),(.i .i64 x.At),(.l 4 (x.Place.Readers.map AV.b)),(.l 4 (x.Place.Writers.map AV.b))]
@[simp] theorem ahX (x:PQ):(SC x).pure=true:=rfl
@[simp] theorem aaI (l:List PQ):AV.cG (l.map SC)=true:=dQ _ (fun _=>rfl) l
structure TQ where
 At:Int
 Kind:Int
def VN(x:TQ):AV:=.a [(.i .i64 x.At),(.i .i64 x.Kind)]
@[simp] theorem aiK (x:TQ):(VN x).pure=true:=rfl
@[simp] theorem ahY (l:List TQ):AV.cG (l.map VN)=true:=dQ _ (fun _=>rfl) l
structure TR where
 L:Level
 To:Int
def VO(x:TR):AV:=.a [(.l 4 (x.L.Readers.map AV.b)),(.l 4 (x.L.Writers.map AV.b)),(.i .i64 x.To)]
@[simp] theorem aiL (x:TR):(VO x).pure=true:=rfl
@[simp] theorem ahZ (l:List TR):AV.cG (l.map VO)=true:=dQ _ (fun _=>rfl) l
structure Eye where
 p:Program
 l:bW
 who:Int
 touch:Bool
def ah1(x:Eye):AV:=.a [(.i .i64 x.p.ak.Many),(.l 79 (x.p.ak.Grants.map bT)),(.l 3 (x.p.Speak.map (AV.i .i64))),(.l 83 (x.p.Ins.map aT)),(.l 83 (x.p.Outs.map aT)),(.l 86 (x.p.Vars.map dk)),(.l 91 (x.p.Funcs.map cS)),(.l 111 (x.p.Main.map bK)),(.l 113 (x.l.Vars.map aC)),(.l 113 (x.l.Funcs.map aC)),(.i .i64 x.who),(.b x.touch)]
@[simp] theorem anE (x:Eye):(ah1 x).pure=true:=rfl
@[simp] theorem amt (l:List Eye):AV.cG (l.map ah1)=true:=dQ _ (fun _=>rfl) l
structure Xs where
 Level:Level
 To:Int
 Func:Bool
def Zl(x:Xs):AV:=.a [(.l 4 (x.Level.Readers.map AV.b)),(.l 4 (x.Level.Writers.map AV.b)),(.i .i64 x.To),(.b x.Func)]
@[simp] theorem amu (x:Xs):(Zl x).pure=true:=rfl
@[simp] theorem aiM (l:List Xs):AV.cG (l.map Zl)=true:=dQ _ (fun _=>rfl) l
abbrev cq(x:Checker):List AV:=[(I x.p.ak.Many),(.l 79 (x.p.ak.Grants.map bT)),(.l 3 (x.p.Speak.map (I))),(.l 83 (x.p.Ins.map aT)),(.l 83 (x.p.Outs.map aT)),(.l 86 (x.p.Vars.map dk)),(.l 91 (x.p.Funcs.map cS)),(.l 111 (x.p.Main.map bK)),(I x.funcs)]
abbrev KB(x:Event):List AV:=[(I x.Kind),(I x.At),(I x.Which),(I x.Value)]
abbrev bL(x:ay):List AV:=[(I x.Kind),(I x.N),(.l 89 (x.Args.map bw))]
abbrev cB(x:Func):List AV:=[(.l 3 (x.Params.map (I))),(.l 111 (x.Body.map bK)),(I x.Result.Kind),(I x.Result.N),(.l 89 (x.Result.Args.map bw))]
abbrev dt(x:Machine):List AV:=[(I x.P.ak.Many),(.l 79 (x.P.ak.Grants.map bT)),(.l 3 (x.P.Speak.map (I))),(.l 83 (x.P.Ins.map aT)),(.l 83 (x.P.Outs.map aT)),(.l 86 (x.P.Vars.map dk)),(.l 91 (x.P.Funcs.map cS)),(.l 111 (x.P.Main.map bK)),(.l 25 (x.Ins.map (db 3 (I)))),(I x.Fuel),(.o 128 (x.R.Events.map bS)),(.o 3 (x.R.Vars.map (I))),(.o 3 (x.R.Taken.map (I))),(I x.R.Steps),(I x.R.End),(I x.R.Stop),(.o 148 (x.Tasks.map bP)),.u,(.o 113 (x.bW.map aC)),(.l 113 (x.Places.map aC))]
abbrev aa(x:Machine):List AV:=[(I x.P.ak.Many),(.l 79 (x.P.ak.Grants.map bT)),(.l 3 (x.P.Speak.map (I))),(.l 83 (x.P.Ins.map aT)),(.l 83 (x.P.Outs.map aT)),(.l 86 (x.P.Vars.map dk)),(.l 91 (x.P.Funcs.map cS)),(.l 111 (x.P.Main.map bK)),(.l 25 (x.Ins.map (db 3 (I)))),(I x.Fuel),(.o 128 (x.R.Events.map bS)),(.o 3 (x.R.Vars.map (I))),(.o 3 (x.R.Taken.map (I))),(I x.R.Steps),(I x.R.End),(I x.R.Stop),(.o 148 (x.Tasks.map bP)),.u,(.o 113 (x.bW.map aC)),(.o 113 (x.Places.map aC))]
abbrev cj(x:Machine):List AV:=[(I x.P.ak.Many),(.l 79 (x.P.ak.Grants.map bT)),(.l 3 (x.P.Speak.map (I))),(.l 83 (x.P.Ins.map aT)),(.l 83 (x.P.Outs.map aT)),(.l 86 (x.P.Vars.map dk)),(.l 91 (x.P.Funcs.map cS)),(.l 111 (x.P.Main.map bK)),(.l 25 (x.Ins.map (db 3 (I)))),(I x.Fuel),(.o 128 (x.R.Events.map bS)),(.o 3 (x.R.Vars.map (I))),(.o 3 (x.R.Taken.map (I))),(I x.R.Steps),(I x.R.End),(I x.R.Stop),(.o 148 (x.Tasks.map bP)),.u,(.l 113 (x.bW.map aC)),(.o 113 (x.Places.map aC))]
abbrev aK(x:Machine):List AV:=[(I x.P.ak.Many),(.l 79 (x.P.ak.Grants.map bT)),(.l 3 (x.P.Speak.map (I))),(.l 83 (x.P.Ins.map aT)),(.l 83 (x.P.Outs.map aT)),(.l 86 (x.P.Vars.map dk)),(.l 91 (x.P.Funcs.map cS)),(.l 111 (x.P.Main.map bK)),(.l 25 (x.Ins.map (db 3 (I)))),(I x.Fuel),(.o 128 (x.R.Events.map bS)),(.o 3 (x.R.Vars.map (I))),(.o 3 (x.R.Taken.map (I))),(I x.R.Steps),(I x.R.End),(I x.R.Stop),(.l 148 (x.Tasks.map bP)),.u,(.o 113 (x.bW.map aC)),(.o 113 (x.Places.map aC))]
abbrev cP(x:Machine):List AV:=[(I x.P.ak.Many),(.l 79 (x.P.ak.Grants.map bT)),(.l 3 (x.P.Speak.map (I))),(.l 83 (x.P.Ins.map aT)),(.l 83 (x.P.Outs.map aT)),(.l 86 (x.P.Vars.map dk)),(.l 91 (x.P.Funcs.map cS)),(.l 111 (x.P.Main.map bK)),(.l 25 (x.Ins.map (db 3 (I)))),(I x.Fuel),(.o 128 (x.R.Events.map bS)),(.o 3 (x.R.Vars.map (I))),(.l 3 (x.R.Taken.map (I))),(I x.R.Steps),(I x.R.End),(I x.R.Stop),(.o 148 (x.Tasks.map bP)),.u,(.o 113 (x.bW.map aC)),(.o 113 (x.Places.map aC))]
abbrev bk(x:Machine):List AV:=[(I x.P.ak.Many),(.l 79 (x.P.ak.Grants.map bT)),(.l 3 (x.P.Speak.map (I))),(.l 83 (x.P.Ins.map aT)),(.l 83 (x.P.Outs.map aT)),(.l 86 (x.P.Vars.map dk)),(.l 91 (x.P.Funcs.map cS)),(.l 111 (x.P.Main.map bK)),(.l 25 (x.Ins.map (db 3 (I)))),(I x.Fuel),(.o 128 (x.R.Events.map bS)),(.l 3 (x.R.Vars.map (I))),(.o 3 (x.R.Taken.map (I))),(I x.R.Steps),(I x.R.End),(I x.R.Stop),(.o 148 (x.Tasks.map bP)),.u,(.l 113 (x.bW.map aC)),(.o 113 (x.Places.map aC))]
abbrev eI(x:Machine):List AV:=[(I x.P.ak.Many),(.l 79 (x.P.ak.Grants.map bT)),(.l 3 (x.P.Speak.map (I))),(.l 83 (x.P.Ins.map aT)),(.l 83 (x.P.Outs.map aT)),(.l 86 (x.P.Vars.map dk)),(.l 91 (x.P.Funcs.map cS)),(.l 111 (x.P.Main.map bK)),(.l 25 (x.Ins.map (db 3 (I)))),(I x.Fuel),(.o 128 (x.R.Events.map bS)),(.l 3 (x.R.Vars.map (I))),(.o 3 (x.R.Taken.map (I))),(I x.R.Steps),(I x.R.End),(I x.R.Stop),(.l 148 (x.Tasks.map bP)),.u,(.l 113 (x.bW.map aC)),(.o 113 (x.Places.map aC))]
abbrev bJ(x:Machine):List AV:=[(I x.P.ak.Many),(.l 79 (x.P.ak.Grants.map bT)),(.l 3 (x.P.Speak.map (I))),(.l 83 (x.P.Ins.map aT)),(.l 83 (x.P.Outs.map aT)),(.l 86 (x.P.Vars.map dk)),(.l 91 (x.P.Funcs.map cS)),(.l 111 (x.P.Main.map bK)),(.l 25 (x.Ins.map (db 3 (I)))),(I x.Fuel),(.o 128 (x.R.Events.map bS)),(.l 3 (x.R.Vars.map (I))),(.l 3 (x.R.Taken.map (I))),(I x.R.Steps),(I x.R.End),(I x.R.Stop),(.o 148 (x.Tasks.map bP)),.u,(.o 113 (x.bW.map aC)),(.o 113 (x.Places.map aC))]
abbrev b9(x:Machine):List AV:=[(I x.P.ak.Many),(.l 79 (x.P.ak.Grants.map bT)),(.l 3 (x.P.Speak.map (I))),(.l 83 (x.P.Ins.map aT)),(.l 83 (x.P.Outs.map aT)),(.l 86 (x.P.Vars.map dk)),(.l 91 (x.P.Funcs.map cS)),(.l 111 (x.P.Main.map bK)),(.l 25 (x.Ins.map (db 3 (I)))),(I x.Fuel),(.l 128 (x.R.Events.map bS)),(.l 3 (x.R.Vars.map (I))),(.l 3 (x.R.Taken.map (I))),(I x.R.Steps),(I x.R.End),(I x.R.Stop),(.o 148 (x.Tasks.map bP)),.u,(.o 113 (x.bW.map aC)),(.o 113 (x.Places.map aC))]
abbrev aL(x:Program):List AV:=[(I x.ak.Many),(.l 79 (x.ak.Grants.map bT)),(.l 3 (x.Speak.map (I))),(.l 83 (x.Ins.map aT)),(.l 83 (x.Outs.map aT)),(.l 86 (x.Vars.map dk)),(.l 91 (x.Funcs.map cS)),(.l 111 (x.Main.map bK))]
abbrev o7(x:RunT):List AV:=[(.l 128 (x.Events.map bS)),(.l 3 (x.Vars.map (I))),(.l 3 (x.Taken.map (I))),(I x.Steps),(I x.End),(I x.Stop)]
abbrev zG(x:Runner):List AV:=[(I x.p.ak.Many),(.l 79 (x.p.ak.Grants.map bT)),(.l 3 (x.p.Speak.map (I))),(.l 83 (x.p.Ins.map aT)),(.l 83 (x.p.Outs.map aT)),(.l 86 (x.p.Vars.map dk)),(.l 91 (x.p.Funcs.map cS)),(.l 111 (x.p.Main.map bK)),(.l 25 (x.ins.map (db 3 (I)))),(I x.fuel),(.o 3 (x.first.map (I))),(.o 128 (x.bz.Events.map bS)),(.l 3 (x.bz.Vars.map (I))),(.l 3 (x.bz.Taken.map (I))),(I x.bz.Steps),(I x.bz.End),(I x.bz.Stop)]
abbrev eD(x:Runner):List AV:=[(I x.p.ak.Many),(.l 79 (x.p.ak.Grants.map bT)),(.l 3 (x.p.Speak.map (I))),(.l 83 (x.p.Ins.map aT)),(.l 83 (x.p.Outs.map aT)),(.l 86 (x.p.Vars.map dk)),(.l 91 (x.p.Funcs.map cS)),(.l 111 (x.p.Main.map bK)),(.l 25 (x.ins.map (db 3 (I)))),(I x.fuel),(.o 3 (x.first.map (I))),(.o 128 (x.bz.Events.map bS)),(.o 3 (x.bz.Vars.map (I))),(.l 3 (x.bz.Taken.map (I))),(I x.bz.Steps),(I x.bz.End),(I x.bz.Stop)]
abbrev ad(x:Runner):List AV:=[(I x.p.ak.Many),(.l 79 (x.p.ak.Grants.map bT)),(.l 3 (x.p.Speak.map (I))),(.l 83 (x.p.Ins.map aT)),(.l 83 (x.p.Outs.map aT)),(.l 86 (x.p.Vars.map dk)),(.l 91 (x.p.Funcs.map cS)),(.l 111 (x.p.Main.map bK)),(.l 25 (x.ins.map (db 3 (I)))),(I x.fuel),(.o 3 (x.first.map (I))),(.o 128 (x.bz.Events.map bS)),(.o 3 (x.bz.Vars.map (I))),(.o 3 (x.bz.Taken.map (I))),(I x.bz.Steps),(I x.bz.End),(I x.bz.Stop)]
abbrev cI(x:Runner):List AV:=[(I x.p.ak.Many),(.l 79 (x.p.ak.Grants.map bT)),(.l 3 (x.p.Speak.map (I))),(.l 83 (x.p.Ins.map aT)),(.l 83 (x.p.Outs.map aT)),(.l 86 (x.p.Vars.map dk)),(.l 91 (x.p.Funcs.map cS)),(.l 111 (x.p.Main.map bK)),(.l 25 (x.ins.map (db 3 (I)))),(I x.fuel),(.o 3 (x.first.map (I))),(.o 128 (x.bz.Events.map bS)),(.l 3 (x.bz.Vars.map (I))),(.o 3 (x.bz.Taken.map (I))),(I x.bz.Steps),(I x.bz.End),(I x.bz.Stop)]
abbrev jj(x:Runner):List AV:=[(I x.p.ak.Many),(.l 79 (x.p.ak.Grants.map bT)),(.l 3 (x.p.Speak.map (I))),(.l 83 (x.p.Ins.map aT)),(.l 83 (x.p.Outs.map aT)),(.l 86 (x.p.Vars.map dk)),(.l 91 (x.p.Funcs.map cS)),(.l 111 (x.p.Main.map bK)),(.l 25 (x.ins.map (db 3 (I)))),(I x.fuel),(.o 3 (x.first.map (I))),(.l 128 (x.bz.Events.map bS)),(.o 3 (x.bz.Vars.map (I))),(.o 3 (x.bz.Taken.map (I))),(I x.bz.Steps),(I x.bz.End),(I x.bz.Stop)]
abbrev aM(x:aW):List AV:=[(I x.p.ak.Many),(.l 79 (x.p.ak.Grants.map bT)),(.l 3 (x.p.Speak.map (I))),(.l 83 (x.p.Ins.map aT)),(.l 83 (x.p.Outs.map aT)),(.l 86 (x.p.Vars.map dk)),(.l 91 (x.p.Funcs.map cS)),(.l 111 (x.p.Main.map bK)),(.l 32 (x.eV.map (db 4 AV.b)))]
abbrev ax(x:Stmt):List AV:=[(I x.Kind),(I x.Var),(I x.Other),(I x.Expr.Kind),(I x.Expr.N),(.l 89 (x.Expr.Args.map bw)),(.l 89 (x.Args.map bw)),(.l 111 (x.Then.map bK)),(.l 111 (x.Else.map bK))]
abbrev bD(x:Task):List AV:=[(I x.Kind),(I x.At),(I x.S.Kind),(I x.S.Var),(I x.S.Other),(I x.S.Expr.Kind),(I x.S.Expr.N),(.l 89 (x.S.Expr.Args.map bw)),(.l 89 (x.S.Args.map bw)),(.l 111 (x.S.Then.map bK)),(.l 111 (x.S.Else.map bK)),(I x.Places)]
abbrev jk(x:Var):List AV:=[(.b x.Known),(.l 155 (x.Label.Read.map bV)),(.l 155 (x.Label.Write.map bV))]
abbrev dL(x:aI):List AV:=[.u,(I x.p.ak.Many),(.l 79 (x.p.ak.Grants.map bT)),(.l 3 (x.p.Speak.map (I))),(.l 83 (x.p.Ins.map aT)),(.l 83 (x.p.Outs.map aT)),(.l 86 (x.p.Vars.map dk)),(.l 91 (x.p.Funcs.map cS)),(.l 111 (x.p.Main.map bK)),(.l 113 (x.vars.map aC)),(.o 113 (x.places.map aC)),.u]
abbrev ie(x:aI):List AV:=[.u,(I x.p.ak.Many),(.l 79 (x.p.ak.Grants.map bT)),(.l 3 (x.p.Speak.map (I))),(.l 83 (x.p.Ins.map aT)),(.l 83 (x.p.Outs.map aT)),(.l 86 (x.p.Vars.map dk)),(.l 91 (x.p.Funcs.map cS)),(.l 111 (x.p.Main.map bK)),(.o 113 (x.vars.map aC)),(.l 113 (x.places.map aC)),.u]
abbrev gY(x:aI):List AV:=[.u,(I x.p.ak.Many),(.l 79 (x.p.ak.Grants.map bT)),(.l 3 (x.p.Speak.map (I))),(.l 83 (x.p.Ins.map aT)),(.l 83 (x.p.Outs.map aT)),(.l 86 (x.p.Vars.map dk)),(.l 91 (x.p.Funcs.map cS)),(.l 111 (x.p.Main.map bK)),(.o 113 (x.vars.map aC)),(.o 113 (x.places.map aC)),.u]
abbrev dc(k1 k2:Key)(c:aI):List AV:=(((gY c).set 0 (.p k1 0)).set 11 (.p k2 0))
abbrev bn(hp:HP)(k0 k1 k2:Key)(c0:aI)(c1:Runner)(c2:aW):HP:=ar (ar (ar hp k0 (dc k1 k2 c0)) k1 (ad c1)) k2 (aM c2)
abbrev zP(d:Nat):Nat×AV:=(d,.p ⟨0,d⟩ 0)
abbrev zQ(d:Nat):AV:=.p ⟨0,d⟩ 0
abbrev zI(n:Nat):AV:=.i .i64 (n:Int)
abbrev cL(x:List (ay)):AV:=.l 89 (x.map bw)
abbrev aN(x:List (Label)):AV:=.l 83 (x.map aT)
abbrev qY(x:List (Label)):AV:=.o 83 (x.map aT)
abbrev aS(x:List (Int)):AV:=.l 3 (x.map (AV.i .i64))
abbrev bE(x:List (cp)):AV:=.l 155 (x.map bV)
abbrev aX(x:List (dO)):AV:=.l 79 (x.map bT)
abbrev cF(x:List (Var)):AV:=.l 86 (x.map dk)
abbrev b8(x:List (Func)):AV:=.l 91 (x.map cS)
abbrev bh(x:List (Stmt)):AV:=.l 111 (x.map bK)
abbrev aw(x:List (Bool)):AV:=.l 4 (x.map AV.b)
abbrev iO(x:List (Bool)):AV:=.o 4 (x.map AV.b)
abbrev aG(x:List (Int)):AV:=.o 3 (x.map (AV.i .i64))
abbrev fZ(x:List (List Int)):AV:=.l 25 (x.map (db 3 (AV.i .i64)))
abbrev dN(x:List (Event)):AV:=.o 128 (x.map bS)
abbrev av(x:List (Level)):AV:=.o 113 (x.map aC)
abbrev br(x:List (Event)):AV:=.l 128 (x.map bS)
abbrev bX(x:List (Task)):AV:=.o 148 (x.map bP)
abbrev jR(x:List (Level)):AV:=.l 113 (x.map aC)
end Go.Proofs.YtlmphbbhaeampaaGreat.A
