/- The types of the program, by program. -/
import Derived.Test.YtogbakbmphadfaaGreatDoorBase
set_option linter.unusedSectionVars false
set_option linter.unusedVariables false
set_option linter.unusedSimpArgs false
namespace Go.Proofs.YtogbakbmphadfaaGreatDoor.A
open Go
structure aD where
 At:Int
 Owner:(List UInt8)
 Write:Bool
 Names:(List (List UInt8))
def aA(x:aD):AV:=.a [(.i .i64 x.At),(.s x.Owner),(.b x.Write),(.l 9 (x.Names.map AV.s))]
@[simp] theorem KI (x:aD):(aA x).pure=true:=rfl
@[simp] theorem J8 (l:List aD):AV.b7 (l.map aA)=true:=ga _ (fun _=>rfl) l
structure ad where
 Kind:Int
 At:Int
 N:Int
 Name:(List UInt8)
 Args:(List ad)
mutual
def av:ad→AV
 | ⟨x0,x1,x2,x3,x4⟩=>.a [(.i .i64 x0),(.i .i64 x1),(.i .i64 x2),(.s x3),(.l 44 (pK x4))]
def pK:List ad→List AV
 | []=>[]
 | x::r=>av x::pK r
end
theorem u3:∀ l:List ad,pK l=l.map av
 | []=>by rw [pK];rfl
 | x::r=>by rw [pK,u3 r];rfl
theorem b9(x:ad):av x= .a [(.i .i64 x.Kind),(.i .i64 x.At),(.i .i64 x.N),(.s x.Name),(.l 44 (x.Args.map av))]:=by
 cases x
 simp only [av,u3]
@[simp] theorem BJ (x:ad):(av x).pure=true:=by rw [b9];rfl
@[simp] theorem Mt (l:List ad):AV.b7 (l.map av)=true:=ga _ BJ l
structure aa where
 Kind:Int
 At:Int
 Name:(List UInt8)
 Other:(List UInt8)
 Expr:ad
 Args:(List ad)
 Then:(List aa)
 Else:(List aa)
mutual
def ab:aa→AV
 | ⟨x0,x1,x2,x3,x4,x5,x6,x7⟩=>.a [(.i .i64 x0),(.i .i64 x1),(.s x2),(.s x3),(.i .i64 x4.Kind),(.i .i64 x4.At),(.i .i64 x4.N),(.s x4.Name),(.l 44 (x4.Args.map av)),(.l 44 (x5.map av)),(.l 68 (mz x6)),(.l 68 (mz x7))]
def mz:List aa→List AV
 | []=>[]
 | x::r=>ab x::mz r
end
theorem u4:∀ l:List aa,mz l=l.map ab
 | []=>by rw [mz];rfl
 | x::r=>by rw [mz,u4 r];rfl
theorem dR(x:aa):ab x= .a [(.i .i64 x.Kind),(.i .i64 x.At),(.s x.Name),(.s x.Other),(.i .i64 x.Expr.Kind),(.i .i64 x.Expr.At),(.i .i64 x.Expr.N),(.s x.Expr.Name),(.l 44 (x.Expr.Args.map av)),(.l 44 (x.Args.map av)),(.l 68 (x.Then.map ab)),(.l 68 (x.Else.map ab))]:=by
 cases x
 simp only [ab,u4]
@[simp] theorem BK (x:aa):(ab x).pure=true:=by rw [dR];rfl
@[simp] theorem Mu (l:List aa):AV.b7 (l.map ab)=true:=ga _ BK l
structure aE where
 Kind:Int
 At:Int
 Name:(List UInt8)
 Other:(List UInt8)
 Given:Bool
 Label:(List aD)
 Params:(List (List UInt8))
 Body:(List aa)
 Result:ad
def au(x:aE):AV:=.a [(.i .i64 x.Kind),(.i .i64 x.At),(.s x.Name),(.s x.Other),(.b x.Given),(.l 74 (x.Label.map aA)),(.l 9 (x.Params.map AV.s)),(.l 68 (x.Body.map ab)),(.i .i64 x.Result.Kind),(.i .i64 x.Result.At),(.i .i64 x.Result.N),(.s x.Result.Name),(.l 44 (x.Result.Args.map av))]
@[simp] theorem MX (x:aE):(au x).pure=true:=rfl
@[simp] theorem Mv (l:List aE):AV.b7 (l.map au)=true:=ga _ (fun _=>rfl) l
structure Tree where
 Decls:(List aE)
 Main:(List aa)
def Ij(x:Tree):AV:=.a [(.l 46 (x.Decls.map au)),(.l 68 (x.Main.map ab))]
@[simp] theorem WV (x:Tree):(Ij x).pure=true:=rfl
@[simp] theorem RS (l:List Tree):AV.b7 (l.map Ij)=true:=ga _ (fun _=>rfl) l
structure bU where
 stmts:Int
def Fe(x:bU):AV:=.a [(.i .i64 x.stmts)]
@[simp] theorem NI (x:bU):(Fe x).pure=true:=rfl
@[simp] theorem MY (l:List bU):AV.b7 (l.map Fe)=true:=ga _ (fun _=>rfl) l
structure Token where
 Kind:Int
 At:Int
 Text:(List UInt8)
def cz(x:Token):AV:=.a [(.i .i64 x.Kind),(.i .i64 x.At),(.s x.Text)]
@[simp] theorem RT (x:Token):(cz x).pure=true:=rfl
@[simp] theorem Qg (l:List Token):AV.b7 (l.map cz)=true:=ga _ (fun _=>rfl) l
structure aN where
 s:(List UInt8)
 at_:Int
def Ff(x:aN):AV:=.a [(.s x.s),(.i .i64 x.at_)]
@[simp] theorem NJ (x:aN):(Ff x).pure=true:=rfl
@[simp] theorem MZ (l:List aN):AV.b7 (l.map Ff)=true:=ga _ (fun _=>rfl) l
structure Builder where
 addr:Bool
 buf:(List UInt8)
structure Printer where
 Builder:Builder
 deep:Int
structure Reader where
 L:(List Token)
 At:Int
 End:Int
 Failed:Bool
def Hv(x:Reader):AV:=.a [(.l 118 (x.L.map cz)),(.i .i64 x.At),(.i .i64 x.End),(.b x.Failed)]
@[simp] theorem Qh (x:Reader):(Hv x).pure=true:=rfl
@[simp] theorem NK (l:List Reader):AV.b7 (l.map Hv)=true:=ga _ (fun _=>rfl) l
abbrev k9(x:Token):List AV:=[(I x.Kind),(I x.At),(.s x.Text)]
abbrev ak(x:aE):List AV:=[(I x.Kind),(I x.At),(.s x.Name),(.s x.Other),(.b x.Given),(.l 74 (x.Label.map aA)),(.l 9 (x.Params.map AV.s)),(.l 68 (x.Body.map ab)),(I x.Result.Kind),(I x.Result.At),(I x.Result.N),(.s x.Result.Name),(.l 44 (x.Result.Args.map av))]
abbrev aY(x:ad):List AV:=[(I x.Kind),(I x.At),(I x.N),(.s x.Name),(.l 44 (x.Args.map av))]
abbrev cY(x:aD):List AV:=[(I x.At),(.s x.Owner),(.b x.Write),(.l 9 (x.Names.map AV.s))]
abbrev ag(x:aa):List AV:=[(I x.Kind),(I x.At),(.s x.Name),(.s x.Other),(I x.Expr.Kind),(I x.Expr.At),(I x.Expr.N),(.s x.Expr.Name),(.l 44 (x.Expr.Args.map av)),(.l 44 (x.Args.map av)),(.l 68 (x.Then.map ab)),(.l 68 (x.Else.map ab))]
end Go.Proofs.YtogbakbmphadfaaGreatDoor.A
