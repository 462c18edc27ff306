/- The types of the program, by program. -/
import Derived.Test.YtjnhiggknkflfaaBase
set_option linter.unusedSectionVars false
set_option linter.unusedVariables false
set_option linter.unusedSimpArgs false
namespace Go.Proofs.Ytjnhiggknkflfaa.A
open Go
structure Grant where
  Who : Int
  For : Int

def eGrant (x : Grant) : AV := .a [(.i .i64 x.Who), (.i .i64 x.For)]
@[simp] theorem pure_eGrant (x : Grant) : (eGrant x).pure = true := rfl
@[simp] theorem pureL_eGrant (l : List Grant) : AV.pureL (l.map eGrant) = true := pureL_map _ (fun _ => rfl) l
structure Actors where
  Many : Int
  Grants : (List Grant)

def eActors (x : Actors) : AV := .a [(.i .i64 x.Many), (.l 53 (x.Grants.map eGrant))]
@[simp] theorem pure_eActors (x : Actors) : (eActors x).pure = true := rfl
@[simp] theorem pureL_eActors (l : List Actors) : AV.pureL (l.map eActors) = true := pureL_map _ (fun _ => rfl) l
structure Policy where
  Owner : Int
  Names : (List Int)

def ePolicy (x : Policy) : AV := .a [(.i .i64 x.Owner), (.l 3 (x.Names.map (AV.i .i64)))]
@[simp] theorem pure_ePolicy (x : Policy) : (ePolicy x).pure = true := rfl
@[simp] theorem pureL_ePolicy (l : List Policy) : AV.pureL (l.map ePolicy) = true := pureL_map _ (fun _ => rfl) l
structure Label where
  Read : (List Policy)
  Write : (List Policy)

def eLabel (x : Label) : AV := .a [(.l 61 (x.Read.map ePolicy)), (.l 61 (x.Write.map ePolicy))]
@[simp] theorem pure_eLabel (x : Label) : (eLabel x).pure = true := rfl
@[simp] theorem pureL_eLabel (l : List Label) : AV.pureL (l.map eLabel) = true := pureL_map _ (fun _ => rfl) l
structure Level where
  Readers : (List Bool)
  Writers : (List Bool)

def eLevel (x : Level) : AV := .a [(.l 4 (x.Readers.map AV.b)), (.l 4 (x.Writers.map AV.b))]
@[simp] theorem pure_eLevel (x : Level) : (eLevel x).pure = true := rfl
@[simp] theorem pureL_eLevel (l : List Level) : AV.pureL (l.map eLevel) = true := pureL_map _ (fun _ => rfl) l
structure BoundsError where
  x : Int
  y : Int
  signed : Bool
  code : Int

def eBoundsError (x : BoundsError) : AV := .a [(.i .i64 x.x), (.i .i64 x.y), (.b x.signed), (.i .u8 x.code)]
@[simp] theorem pure_eBoundsError (x : BoundsError) : (eBoundsError x).pure = true := rfl
@[simp] theorem pureL_eBoundsError (l : List BoundsError) : AV.pureL (l.map eBoundsError) = true := pureL_map _ (fun _ => rfl) l
structure ErrorAddressString where
  msg : (List UInt8)
  addr : Int

def eErrorAddressString (x : ErrorAddressString) : AV := .a [(.s x.msg), (.i .u64 x.addr)]
@[simp] theorem pure_eErrorAddressString (x : ErrorAddressString) : (eErrorAddressString x).pure = true := rfl
@[simp] theorem pureL_eErrorAddressString (l : List ErrorAddressString) : AV.pureL (l.map eErrorAddressString) = true := pureL_map _ (fun _ => rfl) l
def e0Level (x : Level) : AV := .a [(.l 0 (x.Readers.map AV.b)), (.l 0 (x.Writers.map AV.b))]
@[simp] theorem pure_e0Level (x : Level) : (e0Level x).pure = true := rfl
@[simp] theorem pureL_e0Level (l : List Level) : AV.pureL (l.map e0Level) = true := pureL_map _ (fun _ => rfl) l
end Go.Proofs.Ytjnhiggknkflfaa.A
