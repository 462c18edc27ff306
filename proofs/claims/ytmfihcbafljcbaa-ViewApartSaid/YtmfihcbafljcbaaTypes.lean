/- The types of the program, by program. -/
import Derived.Test.YtmfihcbafljcbaaBase
set_option linter.unusedSectionVars false
set_option linter.unusedVariables false
set_option linter.unusedSimpArgs false
namespace Go.Proofs.Ytmfihcbafljcbaa.A
open Go
structure Event where
  Kind : Int
  At : Int
  Which : Int
  Value : Int

def eEvent (x : Event) : AV := .a [(.i .i64 x.Kind), (.i .i64 x.At), (.i .i64 x.Which), (.i .i64 x.Value)]
@[simp] theorem pure_eEvent (x : Event) : (eEvent x).pure = true := rfl
@[simp] theorem pureL_eEvent (l : List Event) : AV.pureL (l.map eEvent) = true := pureL_map _ (fun _ => rfl) l
structure Grant where
  Who : Int
  For : Int

def eGrant (x : Grant) : AV := .a [(.i .i64 x.Who), (.i .i64 x.For)]
@[simp] theorem pure_eGrant (x : Grant) : (eGrant x).pure = true := rfl
@[simp] theorem pureL_eGrant (l : List Grant) : AV.pureL (l.map eGrant) = true := pureL_map _ (fun _ => rfl) l
structure Actors where
  Many : Int
  Grants : (List Grant)

def eActors (x : Actors) : AV := .a [(.i .i64 x.Many), (.l 120 (x.Grants.map eGrant))]
@[simp] theorem pure_eActors (x : Actors) : (eActors x).pure = true := rfl
@[simp] theorem pureL_eActors (l : List Actors) : AV.pureL (l.map eActors) = true := pureL_map _ (fun _ => rfl) l
structure Policy where
  Owner : Int
  Names : (List Int)

def ePolicy (x : Policy) : AV := .a [(.i .i64 x.Owner), (.l 3 (x.Names.map (AV.i .i64)))]
@[simp] theorem pure_ePolicy (x : Policy) : (ePolicy x).pure = true := rfl
@[simp] theorem pureL_ePolicy (l : List Policy) : AV.pureL (l.map ePolicy) = true := pureL_map _ (fun _ => rfl) l
structure Label where
  Read : (List Policy)
  Write : (List Policy)

def eLabel (x : Label) : AV := .a [(.l 51 (x.Read.map ePolicy)), (.l 51 (x.Write.map ePolicy))]
@[simp] theorem pure_eLabel (x : Label) : (eLabel x).pure = true := rfl
@[simp] theorem pureL_eLabel (l : List Label) : AV.pureL (l.map eLabel) = true := pureL_map _ (fun _ => rfl) l
structure Var where
  Known : Bool
  Label : Label

def eVar (x : Var) : AV := .a [(.b x.Known), (.l 51 (x.Label.Read.map ePolicy)), (.l 51 (x.Label.Write.map ePolicy))]
@[simp] theorem pure_eVar (x : Var) : (eVar x).pure = true := rfl
@[simp] theorem pureL_eVar (l : List Var) : AV.pureL (l.map eVar) = true := pureL_map _ (fun _ => rfl) l
structure ExprT where
  Kind : Int
  N : Int
  Args : (List ExprT)

mutual
def eExprT : ExprT → AV
  | ⟨x0, x1, x2⟩ => .a [(.i .i64 x0), (.i .i64 x1), (.l 74 (eExprTL x2))]
def eExprTL : List ExprT → List AV
  | [] => []
  | x :: r => eExprT x :: eExprTL r
end
theorem eExprTL_map : ∀ l : List ExprT, eExprTL l = l.map eExprT
  | [] => by rw [eExprTL]; rfl
  | x :: r => by rw [eExprTL, eExprTL_map r]; rfl
theorem eExprT_eq (x : ExprT) : eExprT x = .a [(.i .i64 x.Kind), (.i .i64 x.N), (.l 74 (x.Args.map eExprT))] := by
  cases x
  simp only [eExprT, eExprTL_map]
@[simp] theorem pure_eExprT (x : ExprT) : (eExprT x).pure = true := by rw [eExprT_eq]; rfl
@[simp] theorem pureL_eExprT (l : List ExprT) : AV.pureL (l.map eExprT) = true := pureL_map _ pure_eExprT l
structure Stmt where
  Kind : Int
  Var : Int
  Other : Int
  Expr : ExprT
  Args : (List ExprT)
  Then : (List Stmt)
  Else : (List Stmt)

mutual
def eStmt : Stmt → AV
  | ⟨x0, x1, x2, x3, x4, x5, x6⟩ => .a [(.i .i64 x0), (.i .i64 x1), (.i .i64 x2), (.i .i64 x3.Kind), (.i .i64 x3.N), (.l 74 (x3.Args.map eExprT)), (.l 74 (x4.map eExprT)), (.l 76 (eStmtL x5)), (.l 76 (eStmtL x6))]
def eStmtL : List Stmt → List AV
  | [] => []
  | x :: r => eStmt x :: eStmtL r
end
theorem eStmtL_map : ∀ l : List Stmt, eStmtL l = l.map eStmt
  | [] => by rw [eStmtL]; rfl
  | x :: r => by rw [eStmtL, eStmtL_map r]; rfl
theorem eStmt_eq (x : Stmt) : eStmt x = .a [(.i .i64 x.Kind), (.i .i64 x.Var), (.i .i64 x.Other), (.i .i64 x.Expr.Kind), (.i .i64 x.Expr.N), (.l 74 (x.Expr.Args.map eExprT)), (.l 74 (x.Args.map eExprT)), (.l 76 (x.Then.map eStmt)), (.l 76 (x.Else.map eStmt))] := by
  cases x
  simp only [eStmt, eStmtL_map]
@[simp] theorem pure_eStmt (x : Stmt) : (eStmt x).pure = true := by rw [eStmt_eq]; rfl
@[simp] theorem pureL_eStmt (l : List Stmt) : AV.pureL (l.map eStmt) = true := pureL_map _ pure_eStmt l
structure Func where
  Params : (List Int)
  Body : (List Stmt)
  Result : ExprT

def eFunc (x : Func) : AV := .a [(.l 3 (x.Params.map (AV.i .i64))), (.l 76 (x.Body.map eStmt)), (.i .i64 x.Result.Kind), (.i .i64 x.Result.N), (.l 74 (x.Result.Args.map eExprT))]
@[simp] theorem pure_eFunc (x : Func) : (eFunc x).pure = true := rfl
@[simp] theorem pureL_eFunc (l : List Func) : AV.pureL (l.map eFunc) = true := pureL_map _ (fun _ => rfl) l
structure Program where
  Actors : Actors
  Speak : (List Int)
  Ins : (List Label)
  Outs : (List Label)
  Vars : (List Var)
  Funcs : (List Func)
  Main : (List Stmt)

def eProgram (x : Program) : AV := .a [(.i .i64 x.Actors.Many), (.l 120 (x.Actors.Grants.map eGrant)), (.l 3 (x.Speak.map (AV.i .i64))), (.l 54 (x.Ins.map eLabel)), (.l 54 (x.Outs.map eLabel)), (.l 71 (x.Vars.map eVar)), (.l 83 (x.Funcs.map eFunc)), (.l 76 (x.Main.map eStmt))]
@[simp] theorem pure_eProgram (x : Program) : (eProgram x).pure = true := rfl
@[simp] theorem pureL_eProgram (l : List Program) : AV.pureL (l.map eProgram) = true := pureL_map _ (fun _ => rfl) l
structure Level where
  Readers : (List Bool)
  Writers : (List Bool)

def eLevel (x : Level) : AV := .a [(.l 4 (x.Readers.map AV.b)), (.l 4 (x.Writers.map AV.b))]
@[simp] theorem pure_eLevel (x : Level) : (eLevel x).pure = true := rfl
@[simp] theorem pureL_eLevel (l : List Level) : AV.pureL (l.map eLevel) = true := pureL_map _ (fun _ => rfl) l
structure Levels where
  Vars : (List Level)
  Funcs : (List Level)

def eLevels (x : Levels) : AV := .a [(.l 68 (x.Vars.map eLevel)), (.l 68 (x.Funcs.map eLevel))]
@[simp] theorem pure_eLevels (x : Levels) : (eLevels x).pure = true := rfl
@[simp] theorem pureL_eLevels (l : List Levels) : AV.pureL (l.map eLevels) = true := pureL_map _ (fun _ => rfl) l
structure Eye where
  p : Program
  l : Levels
  who : Int
  touch : Bool

def eEye (x : Eye) : AV := .a [(.i .i64 x.p.Actors.Many), (.l 120 (x.p.Actors.Grants.map eGrant)), (.l 3 (x.p.Speak.map (AV.i .i64))), (.l 54 (x.p.Ins.map eLabel)), (.l 54 (x.p.Outs.map eLabel)), (.l 71 (x.p.Vars.map eVar)), (.l 83 (x.p.Funcs.map eFunc)), (.l 76 (x.p.Main.map eStmt)), (.l 68 (x.l.Vars.map eLevel)), (.l 68 (x.l.Funcs.map eLevel)), (.i .i64 x.who), (.b x.touch)]
@[simp] theorem pure_eEye (x : Eye) : (eEye x).pure = true := rfl
@[simp] theorem pureL_eEye (l : List Eye) : AV.pureL (l.map eEye) = true := pureL_map _ (fun _ => rfl) l
structure Checker where
  p : Program
  funcs : Int

def eChecker (x : Checker) : AV := .a [(.i .i64 x.p.Actors.Many), (.l 120 (x.p.Actors.Grants.map eGrant)), (.l 3 (x.p.Speak.map (AV.i .i64))), (.l 54 (x.p.Ins.map eLabel)), (.l 54 (x.p.Outs.map eLabel)), (.l 71 (x.p.Vars.map eVar)), (.l 83 (x.p.Funcs.map eFunc)), (.l 76 (x.p.Main.map eStmt)), (.i .i64 x.funcs)]
@[simp] theorem pure_eChecker (x : Checker) : (eChecker x).pure = true := rfl
@[simp] theorem pureL_eChecker (l : List Checker) : AV.pureL (l.map eChecker) = true := pureL_map _ (fun _ => rfl) l
structure Walker where
  P : Program
  L : Levels
  Do : Unit
  at_ : Int

structure Flow where
  Level : Level
  To : Int
  Func : Bool

def eFlow (x : Flow) : AV := .a [(.l 4 (x.Level.Readers.map AV.b)), (.l 4 (x.Level.Writers.map AV.b)), (.i .i64 x.To), (.b x.Func)]
@[simp] theorem pure_eFlow (x : Flow) : (eFlow x).pure = true := rfl
@[simp] theorem pureL_eFlow (l : List Flow) : AV.pureL (l.map eFlow) = true := pureL_map _ (fun _ => rfl) l
abbrev kEvent (x : Event) : List AV := [(I x.Kind), (I x.At), (I x.Which), (I x.Value)]
end Go.Proofs.Ytmfihcbafljcbaa.A
