/- The types of the program, by program. -/
import Derived.Test.YthfllmkfgdknkaaBase
set_option linter.unusedSectionVars false
set_option linter.unusedVariables false
set_option linter.unusedSimpArgs false
namespace Go.Proofs.Ythfllmkfgdknkaa.A
open Go
structure Token where
  Kind : Int
  At : Int
  Text : (List UInt8)

def eToken (x : Token) : AV := .a [(.i .i64 x.Kind), (.i .i64 x.At), (.s x.Text)]
@[simp] theorem pure_eToken (x : Token) : (eToken x).pure = true := rfl
@[simp] theorem pureL_eToken (l : List Token) : AV.pureL (l.map eToken) = true := pureL_map _ (fun _ => rfl) l
structure Scanner where
  s : (List UInt8)
  at_ : Int

def eScanner (x : Scanner) : AV := .a [(.s x.s), (.i .i64 x.at_)]
@[simp] theorem pure_eScanner (x : Scanner) : (eScanner x).pure = true := rfl
@[simp] theorem pureL_eScanner (l : List Scanner) : AV.pureL (l.map eScanner) = true := pureL_map _ (fun _ => rfl) l
structure BoundsError where
  x : Int
  y : Int
  signed : Bool
  code : Int

def eBoundsError (x : BoundsError) : AV := .a [(.i .i64 x.x), (.i .i64 x.y), (.b x.signed), (.i .u8 x.code)]
@[simp] theorem pure_eBoundsError (x : BoundsError) : (eBoundsError x).pure = true := rfl
@[simp] theorem pureL_eBoundsError (l : List BoundsError) : AV.pureL (l.map eBoundsError) = true := pureL_map _ (fun _ => rfl) l
structure ErrorAddressString where
  msg : (List UInt8)
  addr : Int

def eErrorAddressString (x : ErrorAddressString) : AV := .a [(.s x.msg), (.i .u64 x.addr)]
@[simp] theorem pure_eErrorAddressString (x : ErrorAddressString) : (eErrorAddressString x).pure = true := rfl
@[simp] theorem pureL_eErrorAddressString (l : List ErrorAddressString) : AV.pureL (l.map eErrorAddressString) = true := pureL_map _ (fun _ => rfl) l
end Go.Proofs.Ythfllmkfgdknkaa.A
