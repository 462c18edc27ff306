/- The types of the program, by program. -/
import Derived.Test.YtdoiklliklkbgaaBase
set_option linter.unusedSectionVars false
set_option linter.unusedVariables false
set_option linter.unusedSimpArgs false
namespace Go.Proofs.Ytdoiklliklkbgaa.A
open Go
structure ExprT where
  Kind : Int
  N : Int
  Args : (List ExprT)

mutual
def eExprT : ExprT → AV
  | ⟨x0, x1, x2⟩ => .a [(.i .i64 x0), (.i .i64 x1), (.l 24 (eExprTL x2))]
def eExprTL : List ExprT → List AV
  | [] => []
  | x :: r => eExprT x :: eExprTL r
end
theorem eExprTL_map : ∀ l : List ExprT, eExprTL l = l.map eExprT
  | [] => by rw [eExprTL]; rfl
  | x :: r => by rw [eExprTL, eExprTL_map r]; rfl
theorem eExprT_eq (x : ExprT) : eExprT x = .a [(.i .i64 x.Kind), (.i .i64 x.N), (.l 24 (x.Args.map eExprT))] := by
  cases x
  simp only [eExprT, eExprTL_map]
@[simp] theorem pure_eExprT (x : ExprT) : (eExprT x).pure = true := by rw [eExprT_eq]; rfl
@[simp] theorem pureL_eExprT (l : List ExprT) : AV.pureL (l.map eExprT) = true := pureL_map _ pure_eExprT l
structure Grant where
  Who : Int
  For : Int

def eGrant (x : Grant) : AV := .a [(.i .i64 x.Who), (.i .i64 x.For)]
@[simp] theorem pure_eGrant (x : Grant) : (eGrant x).pure = true := rfl
@[simp] theorem pureL_eGrant (l : List Grant) : AV.pureL (l.map eGrant) = true := pureL_map _ (fun _ => rfl) l
structure Actors where
  Many : Int
  Grants : (List Grant)

def eActors (x : Actors) : AV := .a [(.i .i64 x.Many), (.l 106 (x.Grants.map eGrant))]
@[simp] theorem pure_eActors (x : Actors) : (eActors x).pure = true := rfl
@[simp] theorem pureL_eActors (l : List Actors) : AV.pureL (l.map eActors) = true := pureL_map _ (fun _ => rfl) l
structure Policy where
  Owner : Int
  Names : (List Int)

def ePolicy (x : Policy) : AV := .a [(.i .i64 x.Owner), (.l 3 (x.Names.map (AV.i .i64)))]
@[simp] theorem pure_ePolicy (x : Policy) : (ePolicy x).pure = true := rfl
@[simp] theorem pureL_ePolicy (l : List Policy) : AV.pureL (l.map ePolicy) = true := pureL_map _ (fun _ => rfl) l
structure Label where
  Read : (List Policy)
  Write : (List Policy)

def eLabel (x : Label) : AV := .a [(.l 112 (x.Read.map ePolicy)), (.l 112 (x.Write.map ePolicy))]
@[simp] theorem pure_eLabel (x : Label) : (eLabel x).pure = true := rfl
@[simp] theorem pureL_eLabel (l : List Label) : AV.pureL (l.map eLabel) = true := pureL_map _ (fun _ => rfl) l
structure Var where
  Known : Bool
  Label : Label

def eVar (x : Var) : AV := .a [(.b x.Known), (.l 112 (x.Label.Read.map ePolicy)), (.l 112 (x.Label.Write.map ePolicy))]
@[simp] theorem pure_eVar (x : Var) : (eVar x).pure = true := rfl
@[simp] theorem pureL_eVar (l : List Var) : AV.pureL (l.map eVar) = true := pureL_map _ (fun _ => rfl) l
structure Stmt where
  Kind : Int
  Var : Int
  Other : Int
  Expr : ExprT
  Args : (List ExprT)
  Then : (List Stmt)
  Else : (List Stmt)

mutual
def eStmt : Stmt → AV
  | ⟨x0, x1, x2, x3, x4, x5, x6⟩ => .a [(.i .i64 x0), (.i .i64 x1), (.i .i64 x2), (.i .i64 x3.Kind), (.i .i64 x3.N), (.l 24 (x3.Args.map eExprT)), (.l 24 (x4.map eExprT)), (.l 75 (eStmtL x5)), (.l 75 (eStmtL x6))]
def eStmtL : List Stmt → List AV
  | [] => []
  | x :: r => eStmt x :: eStmtL r
end
theorem eStmtL_map : ∀ l : List Stmt, eStmtL l = l.map eStmt
  | [] => by rw [eStmtL]; rfl
  | x :: r => by rw [eStmtL, eStmtL_map r]; rfl
theorem eStmt_eq (x : Stmt) : eStmt x = .a [(.i .i64 x.Kind), (.i .i64 x.Var), (.i .i64 x.Other), (.i .i64 x.Expr.Kind), (.i .i64 x.Expr.N), (.l 24 (x.Expr.Args.map eExprT)), (.l 24 (x.Args.map eExprT)), (.l 75 (x.Then.map eStmt)), (.l 75 (x.Else.map eStmt))] := by
  cases x
  simp only [eStmt, eStmtL_map]
@[simp] theorem pure_eStmt (x : Stmt) : (eStmt x).pure = true := by rw [eStmt_eq]; rfl
@[simp] theorem pureL_eStmt (l : List Stmt) : AV.pureL (l.map eStmt) = true := pureL_map _ pure_eStmt l
structure Func where
  Params : (List Int)
  Body : (List Stmt)
  Result : ExprT

def eFunc (x : Func) : AV := .a [(.l 3 (x.Params.map (AV.i .i64))), (.l 75 (x.Body.map eStmt)), (.i .i64 x.Result.Kind), (.i .i64 x.Result.N), (.l 24 (x.Result.Args.map eExprT))]
@[simp] theorem pure_eFunc (x : Func) : (eFunc x).pure = true := rfl
@[simp] theorem pureL_eFunc (l : List Func) : AV.pureL (l.map eFunc) = true := pureL_map _ (fun _ => rfl) l
structure Program where
  Actors : Actors
  Speak : (List Int)
  Ins : (List Label)
  Outs : (List Label)
  Vars : (List Var)
  Funcs : (List Func)
  Main : (List Stmt)

def eProgram (x : Program) : AV := .a [(.i .i64 x.Actors.Many), (.l 106 (x.Actors.Grants.map eGrant)), (.l 3 (x.Speak.map (AV.i .i64))), (.l 71 (x.Ins.map eLabel)), (.l 71 (x.Outs.map eLabel)), (.l 73 (x.Vars.map eVar)), (.l 82 (x.Funcs.map eFunc)), (.l 75 (x.Main.map eStmt))]
@[simp] theorem pure_eProgram (x : Program) : (eProgram x).pure = true := rfl
@[simp] theorem pureL_eProgram (l : List Program) : AV.pureL (l.map eProgram) = true := pureL_map _ (fun _ => rfl) l
structure Event where
  Kind : Int
  At : Int
  Which : Int
  Value : Int

def eEvent (x : Event) : AV := .a [(.i .i64 x.Kind), (.i .i64 x.At), (.i .i64 x.Which), (.i .i64 x.Value)]
@[simp] theorem pure_eEvent (x : Event) : (eEvent x).pure = true := rfl
@[simp] theorem pureL_eEvent (l : List Event) : AV.pureL (l.map eEvent) = true := pureL_map _ (fun _ => rfl) l
structure Checker where
  p : Program
  funcs : Int

def eChecker (x : Checker) : AV := .a [(.i .i64 x.p.Actors.Many), (.l 106 (x.p.Actors.Grants.map eGrant)), (.l 3 (x.p.Speak.map (AV.i .i64))), (.l 71 (x.p.Ins.map eLabel)), (.l 71 (x.p.Outs.map eLabel)), (.l 73 (x.p.Vars.map eVar)), (.l 82 (x.p.Funcs.map eFunc)), (.l 75 (x.p.Main.map eStmt)), (.i .i64 x.funcs)]
@[simp] theorem pure_eChecker (x : Checker) : (eChecker x).pure = true := rfl
@[simp] theorem pureL_eChecker (l : List Checker) : AV.pureL (l.map eChecker) = true := pureL_map _ (fun _ => rfl) l
structure RunT where
  Events : (List Event)
  Vars : (List Int)
  Taken : (List Int)
  Steps : Int
  End : Int
  Stop : Int

def eRunT (x : RunT) : AV := .a [(.l 58 (x.Events.map eEvent)), (.l 3 (x.Vars.map (AV.i .i64))), (.l 3 (x.Taken.map (AV.i .i64))), (.i .i64 x.Steps), (.i .i64 x.End), (.i .i64 x.Stop)]
@[simp] theorem pure_eRunT (x : RunT) : (eRunT x).pure = true := rfl
@[simp] theorem pureL_eRunT (l : List RunT) : AV.pureL (l.map eRunT) = true := pureL_map _ (fun _ => rfl) l
structure Runner where
  p : Program
  ins : (List (List Int))
  fuel : Int
  first : (List Int)
  Run : RunT

def eRunner (x : Runner) : AV := .a [(.i .i64 x.p.Actors.Many), (.l 106 (x.p.Actors.Grants.map eGrant)), (.l 3 (x.p.Speak.map (AV.i .i64))), (.l 71 (x.p.Ins.map eLabel)), (.l 71 (x.p.Outs.map eLabel)), (.l 73 (x.p.Vars.map eVar)), (.l 82 (x.p.Funcs.map eFunc)), (.l 75 (x.p.Main.map eStmt)), (.l 25 (x.ins.map (eLs 3 (AV.i .i64)))), (.i .i64 x.fuel), (.l 3 (x.first.map (AV.i .i64))), (.l 58 (x.Run.Events.map eEvent)), (.l 3 (x.Run.Vars.map (AV.i .i64))), (.l 3 (x.Run.Taken.map (AV.i .i64))), (.i .i64 x.Run.Steps), (.i .i64 x.Run.End), (.i .i64 x.Run.Stop)]
@[simp] theorem pure_eRunner (x : Runner) : (eRunner x).pure = true := rfl
@[simp] theorem pureL_eRunner (l : List Runner) : AV.pureL (l.map eRunner) = true := pureL_map _ (fun _ => rfl) l
structure BoundsError where
  x : Int
  y : Int
  signed : Bool
  code : Int

def eBoundsError (x : BoundsError) : AV := .a [(.i .i64 x.x), (.i .i64 x.y), (.b x.signed), (.i .u8 x.code)]
@[simp] theorem pure_eBoundsError (x : BoundsError) : (eBoundsError x).pure = true := rfl
@[simp] theorem pureL_eBoundsError (l : List BoundsError) : AV.pureL (l.map eBoundsError) = true := pureL_map _ (fun _ => rfl) l
structure ErrorAddressString where
  msg : (List UInt8)
  addr : Int

def eErrorAddressString (x : ErrorAddressString) : AV := .a [(.s x.msg), (.i .u64 x.addr)]
@[simp] theorem pure_eErrorAddressString (x : ErrorAddressString) : (eErrorAddressString x).pure = true := rfl
@[simp] theorem pureL_eErrorAddressString (l : List ErrorAddressString) : AV.pureL (l.map eErrorAddressString) = true := pureL_map _ (fun _ => rfl) l
abbrev kChecker (x : Checker) : List AV := [(I x.p.Actors.Many), (.l 106 (x.p.Actors.Grants.map eGrant)), (.l 3 (x.p.Speak.map (I))), (.l 71 (x.p.Ins.map eLabel)), (.l 71 (x.p.Outs.map eLabel)), (.l 73 (x.p.Vars.map eVar)), (.l 82 (x.p.Funcs.map eFunc)), (.l 75 (x.p.Main.map eStmt)), (I x.funcs)]
abbrev kEvent (x : Event) : List AV := [(I x.Kind), (I x.At), (I x.Which), (I x.Value)]
abbrev kExprT (x : ExprT) : List AV := [(I x.Kind), (I x.N), (.l 24 (x.Args.map eExprT))]
abbrev kFunc (x : Func) : List AV := [(.l 3 (x.Params.map (I))), (.l 75 (x.Body.map eStmt)), (I x.Result.Kind), (I x.Result.N), (.l 24 (x.Result.Args.map eExprT))]
abbrev kProgram (x : Program) : List AV := [(I x.Actors.Many), (.l 106 (x.Actors.Grants.map eGrant)), (.l 3 (x.Speak.map (I))), (.l 71 (x.Ins.map eLabel)), (.l 71 (x.Outs.map eLabel)), (.l 73 (x.Vars.map eVar)), (.l 82 (x.Funcs.map eFunc)), (.l 75 (x.Main.map eStmt))]
abbrev kRunT (x : RunT) : List AV := [(.l 58 (x.Events.map eEvent)), (.l 3 (x.Vars.map (I))), (.l 3 (x.Taken.map (I))), (I x.Steps), (I x.End), (I x.Stop)]
abbrev kRunner_10 (x : Runner) : List AV := [(I x.p.Actors.Many), (.l 106 (x.p.Actors.Grants.map eGrant)), (.l 3 (x.p.Speak.map (I))), (.l 71 (x.p.Ins.map eLabel)), (.l 71 (x.p.Outs.map eLabel)), (.l 73 (x.p.Vars.map eVar)), (.l 82 (x.p.Funcs.map eFunc)), (.l 75 (x.p.Main.map eStmt)), (.l 25 (x.ins.map (eLs 3 (I)))), (I x.fuel), (.o 3 (x.first.map (I))), (.l 58 (x.Run.Events.map eEvent)), (.l 3 (x.Run.Vars.map (I))), (.l 3 (x.Run.Taken.map (I))), (I x.Run.Steps), (I x.Run.End), (I x.Run.Stop)]
abbrev kRunner_10_11 (x : Runner) : List AV := [(I x.p.Actors.Many), (.l 106 (x.p.Actors.Grants.map eGrant)), (.l 3 (x.p.Speak.map (I))), (.l 71 (x.p.Ins.map eLabel)), (.l 71 (x.p.Outs.map eLabel)), (.l 73 (x.p.Vars.map eVar)), (.l 82 (x.p.Funcs.map eFunc)), (.l 75 (x.p.Main.map eStmt)), (.l 25 (x.ins.map (eLs 3 (I)))), (I x.fuel), (.o 3 (x.first.map (I))), (.o 58 (x.Run.Events.map eEvent)), (.l 3 (x.Run.Vars.map (I))), (.l 3 (x.Run.Taken.map (I))), (I x.Run.Steps), (I x.Run.End), (I x.Run.Stop)]
abbrev kRunner_10_11_12 (x : Runner) : List AV := [(I x.p.Actors.Many), (.l 106 (x.p.Actors.Grants.map eGrant)), (.l 3 (x.p.Speak.map (I))), (.l 71 (x.p.Ins.map eLabel)), (.l 71 (x.p.Outs.map eLabel)), (.l 73 (x.p.Vars.map eVar)), (.l 82 (x.p.Funcs.map eFunc)), (.l 75 (x.p.Main.map eStmt)), (.l 25 (x.ins.map (eLs 3 (I)))), (I x.fuel), (.o 3 (x.first.map (I))), (.o 58 (x.Run.Events.map eEvent)), (.o 3 (x.Run.Vars.map (I))), (.l 3 (x.Run.Taken.map (I))), (I x.Run.Steps), (I x.Run.End), (I x.Run.Stop)]
abbrev kRunner_10_11_12_13 (x : Runner) : List AV := [(I x.p.Actors.Many), (.l 106 (x.p.Actors.Grants.map eGrant)), (.l 3 (x.p.Speak.map (I))), (.l 71 (x.p.Ins.map eLabel)), (.l 71 (x.p.Outs.map eLabel)), (.l 73 (x.p.Vars.map eVar)), (.l 82 (x.p.Funcs.map eFunc)), (.l 75 (x.p.Main.map eStmt)), (.l 25 (x.ins.map (eLs 3 (I)))), (I x.fuel), (.o 3 (x.first.map (I))), (.o 58 (x.Run.Events.map eEvent)), (.o 3 (x.Run.Vars.map (I))), (.o 3 (x.Run.Taken.map (I))), (I x.Run.Steps), (I x.Run.End), (I x.Run.Stop)]
abbrev kRunner_10_11_13 (x : Runner) : List AV := [(I x.p.Actors.Many), (.l 106 (x.p.Actors.Grants.map eGrant)), (.l 3 (x.p.Speak.map (I))), (.l 71 (x.p.Ins.map eLabel)), (.l 71 (x.p.Outs.map eLabel)), (.l 73 (x.p.Vars.map eVar)), (.l 82 (x.p.Funcs.map eFunc)), (.l 75 (x.p.Main.map eStmt)), (.l 25 (x.ins.map (eLs 3 (I)))), (I x.fuel), (.o 3 (x.first.map (I))), (.o 58 (x.Run.Events.map eEvent)), (.l 3 (x.Run.Vars.map (I))), (.o 3 (x.Run.Taken.map (I))), (I x.Run.Steps), (I x.Run.End), (I x.Run.Stop)]
abbrev kRunner_10_12_13 (x : Runner) : List AV := [(I x.p.Actors.Many), (.l 106 (x.p.Actors.Grants.map eGrant)), (.l 3 (x.p.Speak.map (I))), (.l 71 (x.p.Ins.map eLabel)), (.l 71 (x.p.Outs.map eLabel)), (.l 73 (x.p.Vars.map eVar)), (.l 82 (x.p.Funcs.map eFunc)), (.l 75 (x.p.Main.map eStmt)), (.l 25 (x.ins.map (eLs 3 (I)))), (I x.fuel), (.o 3 (x.first.map (I))), (.l 58 (x.Run.Events.map eEvent)), (.o 3 (x.Run.Vars.map (I))), (.o 3 (x.Run.Taken.map (I))), (I x.Run.Steps), (I x.Run.End), (I x.Run.Stop)]
abbrev kRunner_10_13 (x : Runner) : List AV := [(I x.p.Actors.Many), (.l 106 (x.p.Actors.Grants.map eGrant)), (.l 3 (x.p.Speak.map (I))), (.l 71 (x.p.Ins.map eLabel)), (.l 71 (x.p.Outs.map eLabel)), (.l 73 (x.p.Vars.map eVar)), (.l 82 (x.p.Funcs.map eFunc)), (.l 75 (x.p.Main.map eStmt)), (.l 25 (x.ins.map (eLs 3 (I)))), (I x.fuel), (.o 3 (x.first.map (I))), (.l 58 (x.Run.Events.map eEvent)), (.l 3 (x.Run.Vars.map (I))), (.o 3 (x.Run.Taken.map (I))), (I x.Run.Steps), (I x.Run.End), (I x.Run.Stop)]
abbrev kStmt (x : Stmt) : List AV := [(I x.Kind), (I x.Var), (I x.Other), (I x.Expr.Kind), (I x.Expr.N), (.l 24 (x.Expr.Args.map eExprT)), (.l 24 (x.Args.map eExprT)), (.l 75 (x.Then.map eStmt)), (.l 75 (x.Else.map eStmt))]
abbrev kVar (x : Var) : List AV := [(.b x.Known), (.l 112 (x.Label.Read.map ePolicy)), (.l 112 (x.Label.Write.map ePolicy))]
end Go.Proofs.Ytdoiklliklkbgaa.A
