/- The types of the program, by program. -/
import Derived.Test.YtphgedfhcncobaaGreatDoorBase
set_option linter.unusedSectionVars false
set_option linter.unusedVariables false
set_option linter.unusedSimpArgs false
namespace Go.Proofs.YtphgedfhcncobaaGreatDoor.A
open Go
structure aS where
 At:Int
 Owner:(List UInt8)
 Write:Bool
 Names:(List (List UInt8))
def aL(x:aS):AV:=.a [(.i .i64 x.At),(.s x.Owner),(.b x.Write),(.l 9 (x.Names.map AV.s))]
@[simp] theorem EW (x:aS):(aL x).pure=true:=rfl
@[simp] theorem EF (l:List aS):AV.bB (l.map aL)=true:=eG _ (fun _=>rfl) l
structure ad where
 Kind:Int
 At:Int
 N:Int
 Name:(List UInt8)
 Args:(List ad)
mutual
def aj:ad→AV
 | ⟨x0,x1,x2,x3,x4⟩=>.a [(.i .i64 x0),(.i .i64 x1),(.i .i64 x2),(.s x3),(.l 34 (mN x4))]
def mN:List ad→List AV
 | []=>[]
 | x::r=>aj x::mN r
end
theorem ri:∀ l:List ad,mN l=l.map aj
 | []=>by rw [mN];rfl
 | x::r=>by rw [mN,ri r];rfl
theorem cD(x:ad):aj x= .a [(.i .i64 x.Kind),(.i .i64 x.At),(.i .i64 x.N),(.s x.Name),(.l 34 (x.Args.map aj))]:=by
 cases x
 simp only [aj,ri]
@[simp] theorem w3 (x:ad):(aj x).pure=true:=by rw [cD];rfl
@[simp] theorem Gj (l:List ad):AV.bB (l.map aj)=true:=eG _ w3 l
structure aa where
 Kind:Int
 At:Int
 Name:(List UInt8)
 Other:(List UInt8)
 Expr:ad
 Args:(List ad)
 Then:(List aa)
 Else:(List aa)
mutual
def ab:aa→AV
 | ⟨x0,x1,x2,x3,x4,x5,x6,x7⟩=>.a [(.i .i64 x0),(.i .i64 x1),(.s x2),(.s x3),(.i .i64 x4.Kind),(.i .i64 x4.At),(.i .i64 x4.N),(.s x4.Name),(.l 34 (x4.Args.map aj)),(.l 34 (x5.map aj)),(.l 36 (kc x6)),(.l 36 (kc x7))]
def kc:List aa→List AV
 | []=>[]
 | x::r=>ab x::kc r
end
theorem rj:∀ l:List aa,kc l=l.map ab
 | []=>by rw [kc];rfl
 | x::r=>by rw [kc,rj r];rfl
theorem dN(x:aa):ab x= .a [(.i .i64 x.Kind),(.i .i64 x.At),(.s x.Name),(.s x.Other),(.i .i64 x.Expr.Kind),(.i .i64 x.Expr.At),(.i .i64 x.Expr.N),(.s x.Expr.Name),(.l 34 (x.Expr.Args.map aj)),(.l 34 (x.Args.map aj)),(.l 36 (x.Then.map ab)),(.l 36 (x.Else.map ab))]:=by
 cases x
 simp only [ab,rj]
@[simp] theorem w4 (x:aa):(ab x).pure=true:=by rw [dN];rfl
@[simp] theorem Gk (l:List aa):AV.bB (l.map ab)=true:=eG _ w4 l
structure aJ where
 Kind:Int
 At:Int
 Name:(List UInt8)
 Other:(List UInt8)
 Given:Bool
 Label:(List aS)
 Params:(List (List UInt8))
 Body:(List aa)
 Result:ad
def ay(x:aJ):AV:=.a [(.i .i64 x.Kind),(.i .i64 x.At),(.s x.Name),(.s x.Other),(.b x.Given),(.l 56 (x.Label.map aL)),(.l 9 (x.Params.map AV.s)),(.l 36 (x.Body.map ab)),(.i .i64 x.Result.Kind),(.i .i64 x.Result.At),(.i .i64 x.Result.N),(.s x.Result.Name),(.l 34 (x.Result.Args.map aj))]
@[simp] theorem GN (x:aJ):(ay x).pure=true:=rfl
@[simp] theorem Gl (l:List aJ):AV.bB (l.map ay)=true:=eG _ (fun _=>rfl) l
structure Tree where
 Decls:(List aJ)
 Main:(List aa)
def C7(x:Tree):AV:=.a [(.l 41 (x.Decls.map ay)),(.l 36 (x.Main.map ab))]
@[simp] theorem NG (x:Tree):(C7 x).pure=true:=rfl
@[simp] theorem J8 (l:List Tree):AV.bB (l.map C7)=true:=eG _ (fun _=>rfl) l
structure bu where
 stmts:Int
def Ay(x:bu):AV:=.a [(.i .i64 x.stmts)]
@[simp] theorem Ht (x:bu):(Ay x).pure=true:=rfl
@[simp] theorem GO (l:List bu):AV.bB (l.map Ay)=true:=eG _ (fun _=>rfl) l
structure Token where
 Kind:Int
 At:Int
 Text:(List UInt8)
def bK(x:Token):AV:=.a [(.i .i64 x.Kind),(.i .i64 x.At),(.s x.Text)]
@[simp] theorem J9 (x:Token):(bK x).pure=true:=rfl
@[simp] theorem I3 (l:List Token):AV.bB (l.map bK)=true:=eG _ (fun _=>rfl) l
structure ax where
 s:(List UInt8)
 at_:Int
def Az(x:ax):AV:=.a [(.s x.s),(.i .i64 x.at_)]
@[simp] theorem Hu (x:ax):(Az x).pure=true:=rfl
@[simp] theorem GP (l:List ax):AV.bB (l.map Az)=true:=eG _ (fun _=>rfl) l
structure Parser where
 l:(List Token)
 at_:Int
 end_:Int
def Ck(x:Parser):AV:=.a [(.l 75 (x.l.map bK)),(.i .i64 x.at_),(.i .i64 x.end_)]
@[simp] theorem I4 (x:Parser):(Ck x).pure=true:=rfl
@[simp] theorem Hv (l:List Parser):AV.bB (l.map Ck)=true:=eG _ (fun _=>rfl) l
abbrev jf(x:Token):List AV:=[(I x.Kind),(I x.At),(.s x.Text)]
abbrev aq(x:aJ):List AV:=[(I x.Kind),(I x.At),(.s x.Name),(.s x.Other),(.b x.Given),(.l 56 (x.Label.map aL)),(.l 9 (x.Params.map AV.s)),(.l 36 (x.Body.map ab)),(I x.Result.Kind),(I x.Result.At),(I x.Result.N),(.s x.Result.Name),(.l 34 (x.Result.Args.map aj))]
abbrev aT(x:ad):List AV:=[(I x.Kind),(I x.At),(I x.N),(.s x.Name),(.l 34 (x.Args.map aj))]
abbrev fu(x:aS):List AV:=[(I x.At),(.s x.Owner),(.b x.Write),(.l 9 (x.Names.map AV.s))]
abbrev aO(x:aa):List AV:=[(I x.Kind),(I x.At),(.s x.Name),(.s x.Other),(I x.Expr.Kind),(I x.Expr.At),(I x.Expr.N),(.s x.Expr.Name),(.l 34 (x.Expr.Args.map aj)),(.l 34 (x.Args.map aj)),(.l 36 (x.Then.map ab)),(.l 36 (x.Else.map ab))]
end Go.Proofs.YtphgedfhcncobaaGreatDoor.A
