/- The types of the program, by program. -/
import Derived.Test.YtkmmjfjikmeidaaGreatDoorBase
set_option linter.unusedSectionVars false
set_option linter.unusedVariables false
set_option linter.unusedSimpArgs false
namespace Go.Proofs.YtkmmjfjikmeidaaGreatDoor.A
open Go
structure TreePolicy where
  At : Int
  Owner : (List UInt8)
  Write : Bool
  Names : (List (List UInt8))

def eTreePolicy (x : TreePolicy) : AV := .a [(.i .i64 x.At), (.s x.Owner), (.b x.Write), (.l 9 (x.Names.map AV.s))]
@[simp] theorem pure_eTreePolicy (x : TreePolicy) : (eTreePolicy x).pure = true := rfl
@[simp] theorem pureL_eTreePolicy (l : List TreePolicy) : AV.pureL (l.map eTreePolicy) = true := pureL_map _ (fun _ => rfl) l
structure TreeExpr where
  Kind : Int
  At : Int
  N : Int
  Name : (List UInt8)
  Args : (List TreeExpr)

mutual
def eTreeExpr : TreeExpr → AV
  | ⟨x0, x1, x2, x3, x4⟩ => .a [(.i .i64 x0), (.i .i64 x1), (.i .i64 x2), (.s x3), (.l 39 (eTreeExprL x4))]
def eTreeExprL : List TreeExpr → List AV
  | [] => []
  | x :: r => eTreeExpr x :: eTreeExprL r
end
theorem eTreeExprL_map : ∀ l : List TreeExpr, eTreeExprL l = l.map eTreeExpr
  | [] => by rw [eTreeExprL]; rfl
  | x :: r => by rw [eTreeExprL, eTreeExprL_map r]; rfl
theorem eTreeExpr_eq (x : TreeExpr) : eTreeExpr x = .a [(.i .i64 x.Kind), (.i .i64 x.At), (.i .i64 x.N), (.s x.Name), (.l 39 (x.Args.map eTreeExpr))] := by
  cases x
  simp only [eTreeExpr, eTreeExprL_map]
@[simp] theorem pure_eTreeExpr (x : TreeExpr) : (eTreeExpr x).pure = true := by rw [eTreeExpr_eq]; rfl
@[simp] theorem pureL_eTreeExpr (l : List TreeExpr) : AV.pureL (l.map eTreeExpr) = true := pureL_map _ pure_eTreeExpr l
structure TreeStmt where
  Kind : Int
  At : Int
  Name : (List UInt8)
  Other : (List UInt8)
  Expr : TreeExpr
  Args : (List TreeExpr)
  Then : (List TreeStmt)
  Else : (List TreeStmt)

mutual
def eTreeStmt : TreeStmt → AV
  | ⟨x0, x1, x2, x3, x4, x5, x6, x7⟩ => .a [(.i .i64 x0), (.i .i64 x1), (.s x2), (.s x3), (.i .i64 x4.Kind), (.i .i64 x4.At), (.i .i64 x4.N), (.s x4.Name), (.l 39 (x4.Args.map eTreeExpr)), (.l 39 (x5.map eTreeExpr)), (.l 45 (eTreeStmtL x6)), (.l 45 (eTreeStmtL x7))]
def eTreeStmtL : List TreeStmt → List AV
  | [] => []
  | x :: r => eTreeStmt x :: eTreeStmtL r
end
theorem eTreeStmtL_map : ∀ l : List TreeStmt, eTreeStmtL l = l.map eTreeStmt
  | [] => by rw [eTreeStmtL]; rfl
  | x :: r => by rw [eTreeStmtL, eTreeStmtL_map r]; rfl
theorem eTreeStmt_eq (x : TreeStmt) : eTreeStmt x = .a [(.i .i64 x.Kind), (.i .i64 x.At), (.s x.Name), (.s x.Other), (.i .i64 x.Expr.Kind), (.i .i64 x.Expr.At), (.i .i64 x.Expr.N), (.s x.Expr.Name), (.l 39 (x.Expr.Args.map eTreeExpr)), (.l 39 (x.Args.map eTreeExpr)), (.l 45 (x.Then.map eTreeStmt)), (.l 45 (x.Else.map eTreeStmt))] := by
  cases x
  simp only [eTreeStmt, eTreeStmtL_map]
@[simp] theorem pure_eTreeStmt (x : TreeStmt) : (eTreeStmt x).pure = true := by rw [eTreeStmt_eq]; rfl
@[simp] theorem pureL_eTreeStmt (l : List TreeStmt) : AV.pureL (l.map eTreeStmt) = true := pureL_map _ pure_eTreeStmt l
structure TreeDecl where
  Kind : Int
  At : Int
  Name : (List UInt8)
  Other : (List UInt8)
  Given : Bool
  Label : (List TreePolicy)
  Params : (List (List UInt8))
  Body : (List TreeStmt)
  Result : TreeExpr

def eTreeDecl (x : TreeDecl) : AV := .a [(.i .i64 x.Kind), (.i .i64 x.At), (.s x.Name), (.s x.Other), (.b x.Given), (.l 51 (x.Label.map eTreePolicy)), (.l 9 (x.Params.map AV.s)), (.l 45 (x.Body.map eTreeStmt)), (.i .i64 x.Result.Kind), (.i .i64 x.Result.At), (.i .i64 x.Result.N), (.s x.Result.Name), (.l 39 (x.Result.Args.map eTreeExpr))]
@[simp] theorem pure_eTreeDecl (x : TreeDecl) : (eTreeDecl x).pure = true := rfl
@[simp] theorem pureL_eTreeDecl (l : List TreeDecl) : AV.pureL (l.map eTreeDecl) = true := pureL_map _ (fun _ => rfl) l
structure Tree where
  Decls : (List TreeDecl)
  Main : (List TreeStmt)

def eTree (x : Tree) : AV := .a [(.l 41 (x.Decls.map eTreeDecl)), (.l 45 (x.Main.map eTreeStmt))]
@[simp] theorem pure_eTree (x : Tree) : (eTree x).pure = true := rfl
@[simp] theorem pureL_eTree (l : List Tree) : AV.pureL (l.map eTree) = true := pureL_map _ (fun _ => rfl) l
structure Token where
  Kind : Int
  At : Int
  Text : (List UInt8)

def eToken (x : Token) : AV := .a [(.i .i64 x.Kind), (.i .i64 x.At), (.s x.Text)]
@[simp] theorem pure_eToken (x : Token) : (eToken x).pure = true := rfl
@[simp] theorem pureL_eToken (l : List Token) : AV.pureL (l.map eToken) = true := pureL_map _ (fun _ => rfl) l
structure Reader where
  L : (List Token)
  At : Int
  End : Int
  Failed : Bool

def eReader (x : Reader) : AV := .a [(.l 82 (x.L.map eToken)), (.i .i64 x.At), (.i .i64 x.End), (.b x.Failed)]
@[simp] theorem pure_eReader (x : Reader) : (eReader x).pure = true := rfl
@[simp] theorem pureL_eReader (l : List Reader) : AV.pureL (l.map eReader) = true := pureL_map _ (fun _ => rfl) l
structure Builder where
  addr : Unit
  buf : (List Int)

structure Printer where
  Builder : Builder
  deep : Int

structure Counter where
  stmts : Int

def eCounter (x : Counter) : AV := .a [(.i .i64 x.stmts)]
@[simp] theorem pure_eCounter (x : Counter) : (eCounter x).pure = true := rfl
@[simp] theorem pureL_eCounter (l : List Counter) : AV.pureL (l.map eCounter) = true := pureL_map _ (fun _ => rfl) l
structure Scanner where
  s : (List UInt8)
  at_ : Int

def eScanner (x : Scanner) : AV := .a [(.s x.s), (.i .i64 x.at_)]
@[simp] theorem pure_eScanner (x : Scanner) : (eScanner x).pure = true := rfl
@[simp] theorem pureL_eScanner (l : List Scanner) : AV.pureL (l.map eScanner) = true := pureL_map _ (fun _ => rfl) l
abbrev kTreeDecl (x : TreeDecl) : List AV := [(I x.Kind), (I x.At), (.s x.Name), (.s x.Other), (.b x.Given), (.l 51 (x.Label.map eTreePolicy)), (.l 9 (x.Params.map AV.s)), (.l 45 (x.Body.map eTreeStmt)), (I x.Result.Kind), (I x.Result.At), (I x.Result.N), (.s x.Result.Name), (.l 39 (x.Result.Args.map eTreeExpr))]
abbrev kTreeExpr (x : TreeExpr) : List AV := [(I x.Kind), (I x.At), (I x.N), (.s x.Name), (.l 39 (x.Args.map eTreeExpr))]
abbrev kTreePolicy (x : TreePolicy) : List AV := [(I x.At), (.s x.Owner), (.b x.Write), (.l 9 (x.Names.map AV.s))]
abbrev kTreeStmt (x : TreeStmt) : List AV := [(I x.Kind), (I x.At), (.s x.Name), (.s x.Other), (I x.Expr.Kind), (I x.Expr.At), (I x.Expr.N), (.s x.Expr.Name), (.l 39 (x.Expr.Args.map eTreeExpr)), (.l 39 (x.Args.map eTreeExpr)), (.l 45 (x.Then.map eTreeStmt)), (.l 45 (x.Else.map eTreeStmt))]
end Go.Proofs.YtkmmjfjikmeidaaGreatDoor.A
