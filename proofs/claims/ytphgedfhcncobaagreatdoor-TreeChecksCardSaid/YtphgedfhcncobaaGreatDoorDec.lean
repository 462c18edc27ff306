/- How the arguments of the laws are read, by program. -/
import Derived.Test.YtphgedfhcncobaaGreatDoorFrame
import Derived.Test.YtphgedfhcncobaaGreatDoorTypes
import Derived.Test.YtphgedfhcncobaaGreatDoorProg
set_option maxRecDepth 100000
set_option linter.unusedSectionVars false
set_option linter.unusedVariables false
set_option linter.unusedSimpArgs false
namespace Go.Proofs.YtphgedfhcncobaaGreatDoor.A
open Go Go.Proofs
def tO(x:aS):Prop:=(Lit.int .i64 x.At).wf=true∧x.Owner.length≤maxLen∧True∧(x.Names.length≤maxLen∧∀ y∈x.Names,(fun v:(List UInt8)=>v.length≤maxLen) y)
theorem J5[bg](N:Nat):nA Tryz.prog N 56 aS (fun x:aS=>[(.i .i64 x.At),(.s x.Owner),(.b x.Write),(.l 9 (x.Names.map AV.s))]) tO:=
 (nB Tryz.underlying56 (by kernel_rfl) (br rfl 1 (by kernel_rfl) (mA Tryz.underlying3 (by kernel_rfl)) (br rfl 1 (by kernel_rfl) (ie Tryz.underlying9 (by kernel_rfl)) (br rfl 1 (by kernel_rfl) (BF Tryz.underlying4 (by kernel_rfl)) (br rfl 1 (by kernel_rfl) (fE AV.s Tryz.underlying39 (by kernel_rfl) (ie Tryz.underlying9 (by kernel_rfl)) (fun _=>⟨rfl,by kernel_rfl,rfl⟩) (by decide)) (pX)))))).map (fun p=>(⟨p.1,p.2.1,p.2.2.1,p.2.2.2.1⟩:aS)) (fun x=>(x.At,x.Owner,x.Write,x.Names,())) (fun _=>rfl) (fun _=>rfl) (fun _ h=>⟨h.1,h.2.1,h.2.2.1,h.2.2.2.1⟩)
def sF(_:ad):Prop:=True
theorem Hq[bg]:∀ N M,M≤N→nA Tryz.prog M 34 ad (fun x:ad=>[(.i .i64 x.Kind),(.i .i64 x.At),(.i .i64 x.N),(.s x.Name),(.l 34 (x.Args.map aj))]) sF:=by
 intro N
 induction N with
 | zero=>
   intro M hM;obtain rfl:M=0:=by omega
   exact BE (fun _=>by kernel_rfl) (fun _=>by kernel_rfl)
 | succ N ih=>intro M hM;exact (nB Tryz.underlying34 (by kernel_rfl) (br rfl 1 (by kernel_rfl) (mA Tryz.underlying3 (by kernel_rfl)) (br rfl 1 (by kernel_rfl) (mA Tryz.underlying3 (by kernel_rfl)) (br rfl 1 (by kernel_rfl) (mA Tryz.underlying3 (by kernel_rfl)) (br rfl 1 (by kernel_rfl) (ie Tryz.underlying9 (by kernel_rfl)) (br rfl 1 (by kernel_rfl) (fE aj Tryz.underlying32 (by kernel_rfl) (ih _ (by omega)) (fun _=>by rw [cD];exact ⟨rfl,by kernel_rfl,rfl⟩) (by decide)) (pX))))))).map (fun p=>(⟨p.1,p.2.1,p.2.2.1,p.2.2.2.1,p.2.2.2.2.1⟩:ad)) (fun x=>(x.Kind,x.At,x.N,x.Name,x.Args,())) (fun _=>rfl) (fun _=>rfl) (fun _ _=>trivial)
theorem BH[bg](N:Nat):nA Tryz.prog N 34 ad (fun x:ad=>[(.i .i64 x.Kind),(.i .i64 x.At),(.i .i64 x.N),(.s x.Name),(.l 34 (x.Args.map aj))]) sF:=Hq N N (Nat.le_refl _)
def o9(_:aa):Prop:=True
theorem Hr[bg]:∀ N M,M≤N→nA Tryz.prog M 36 aa (fun x:aa=>[(.i .i64 x.Kind),(.i .i64 x.At),(.s x.Name),(.s x.Other),(.i .i64 x.Expr.Kind),(.i .i64 x.Expr.At),(.i .i64 x.Expr.N),(.s x.Expr.Name),(.l 34 (x.Expr.Args.map aj)),(.l 34 (x.Args.map aj)),(.l 36 (x.Then.map ab)),(.l 36 (x.Else.map ab))]) o9:=by
 intro N
 induction N with
 | zero=>
   intro M hM;obtain rfl:M=0:=by omega
   exact BE (fun _=>by kernel_rfl) (fun _=>by kernel_rfl)
 | succ N ih=>intro M hM;exact (nB Tryz.underlying36 (by kernel_rfl) (br rfl 1 (by kernel_rfl) (mA Tryz.underlying3 (by kernel_rfl)) (br rfl 1 (by kernel_rfl) (mA Tryz.underlying3 (by kernel_rfl)) (br rfl 1 (by kernel_rfl) (ie Tryz.underlying9 (by kernel_rfl)) (br rfl 1 (by kernel_rfl) (ie Tryz.underlying9 (by kernel_rfl)) (br rfl 5 (by kernel_rfl) (BH _) (br rfl 1 (by kernel_rfl) (fE aj Tryz.underlying32 (by kernel_rfl) (BH _) (fun _=>by rw [cD];exact ⟨rfl,by kernel_rfl,rfl⟩) (by decide)) (br rfl 1 (by kernel_rfl) (fE ab Tryz.underlying23 (by kernel_rfl) (ih _ (by omega)) (fun _=>by rw [dN];exact ⟨rfl,by kernel_rfl,rfl⟩) (by decide)) (br rfl 1 (by kernel_rfl) (fE ab Tryz.underlying23 (by kernel_rfl) (ih _ (by omega)) (fun _=>by rw [dN];exact ⟨rfl,by kernel_rfl,rfl⟩) (by decide)) (pX)))))))))).map (fun p=>(⟨p.1,p.2.1,p.2.2.1,p.2.2.2.1,p.2.2.2.2.1,p.2.2.2.2.2.1,p.2.2.2.2.2.2.1,p.2.2.2.2.2.2.2.1⟩:aa)) (fun x=>(x.Kind,x.At,x.Name,x.Other,x.Expr,x.Args,x.Then,x.Else,())) (fun _=>rfl) (fun _=>rfl) (fun _ _=>trivial)
theorem ED[bg](N:Nat):nA Tryz.prog N 36 aa (fun x:aa=>[(.i .i64 x.Kind),(.i .i64 x.At),(.s x.Name),(.s x.Other),(.i .i64 x.Expr.Kind),(.i .i64 x.Expr.At),(.i .i64 x.Expr.N),(.s x.Expr.Name),(.l 34 (x.Expr.Args.map aj)),(.l 34 (x.Args.map aj)),(.l 36 (x.Then.map ab)),(.l 36 (x.Else.map ab))]) o9:=Hr N N (Nat.le_refl _)
def wF(x:aJ):Prop:=(Lit.int .i64 x.Kind).wf=true∧(Lit.int .i64 x.At).wf=true∧x.Name.length≤maxLen∧x.Other.length≤maxLen∧True∧(x.Label.length≤maxLen∧∀ y∈x.Label,(tO) y)∧(x.Params.length≤maxLen∧∀ y∈x.Params,(fun v:(List UInt8)=>v.length≤maxLen) y)∧(x.Body.length≤maxLen∧∀ y∈x.Body,(o9) y)∧sF x.Result
theorem J6[bg](N:Nat):nA Tryz.prog N 41 aJ (fun x:aJ=>[(.i .i64 x.Kind),(.i .i64 x.At),(.s x.Name),(.s x.Other),(.b x.Given),(.l 56 (x.Label.map aL)),(.l 9 (x.Params.map AV.s)),(.l 36 (x.Body.map ab)),(.i .i64 x.Result.Kind),(.i .i64 x.Result.At),(.i .i64 x.Result.N),(.s x.Result.Name),(.l 34 (x.Result.Args.map aj))]) wF:=
 (nB Tryz.underlying41 (by kernel_rfl) (br rfl 1 (by kernel_rfl) (mA Tryz.underlying3 (by kernel_rfl)) (br rfl 1 (by kernel_rfl) (mA Tryz.underlying3 (by kernel_rfl)) (br rfl 1 (by kernel_rfl) (ie Tryz.underlying9 (by kernel_rfl)) (br rfl 1 (by kernel_rfl) (ie Tryz.underlying9 (by kernel_rfl)) (br rfl 1 (by kernel_rfl) (BF Tryz.underlying4 (by kernel_rfl)) (br rfl 1 (by kernel_rfl) (fE aL Tryz.underlying38 (by kernel_rfl) (J5 _) (fun _=>⟨rfl,by kernel_rfl,rfl⟩) (by decide)) (br rfl 1 (by kernel_rfl) (fE AV.s Tryz.underlying39 (by kernel_rfl) (ie Tryz.underlying9 (by kernel_rfl)) (fun _=>⟨rfl,by kernel_rfl,rfl⟩) (by decide)) (br rfl 1 (by kernel_rfl) (fE ab Tryz.underlying23 (by kernel_rfl) (ED _) (fun _=>by rw [dN];exact ⟨rfl,by kernel_rfl,rfl⟩) (by decide)) (br rfl 5 (by kernel_rfl) (BH _) (pX))))))))))).map (fun p=>(⟨p.1,p.2.1,p.2.2.1,p.2.2.2.1,p.2.2.2.2.1,p.2.2.2.2.2.1,p.2.2.2.2.2.2.1,p.2.2.2.2.2.2.2.1,p.2.2.2.2.2.2.2.2.1⟩:aJ)) (fun x=>(x.Kind,x.At,x.Name,x.Other,x.Given,x.Label,x.Params,x.Body,x.Result,())) (fun _=>rfl) (fun _=>rfl) (fun _ h=>⟨h.1,h.2.1,h.2.2.1,h.2.2.2.1,h.2.2.2.2.1,h.2.2.2.2.2.1,h.2.2.2.2.2.2.1,h.2.2.2.2.2.2.2.1,h.2.2.2.2.2.2.2.2.1⟩)
def EE(x:Tree):Prop:=(x.Decls.length≤maxLen∧∀ y∈x.Decls,(wF) y)∧(x.Main.length≤maxLen∧∀ y∈x.Main,(o9) y)
theorem J7[bg](N:Nat):nA Tryz.prog N 25 Tree (fun x:Tree=>[(.l 41 (x.Decls.map ay)),(.l 36 (x.Main.map ab))]) EE:=
 (nB Tryz.underlying25 (by kernel_rfl) (br rfl 1 (by kernel_rfl) (fE ay Tryz.underlying22 (by kernel_rfl) (J6 _) (fun _=>⟨rfl,by kernel_rfl,rfl⟩) (by decide)) (br rfl 1 (by kernel_rfl) (fE ab Tryz.underlying23 (by kernel_rfl) (ED _) (fun _=>by rw [dN];exact ⟨rfl,by kernel_rfl,rfl⟩) (by decide)) (pX)))).map (fun p=>(⟨p.1,p.2.1⟩:Tree)) (fun x=>(x.Decls,x.Main,())) (fun _=>rfl) (fun _=>rfl) (fun _ h=>⟨h.1,h.2.1⟩)
def jI(ys:List AV):Prop:=∃ (a0:Tree),(EE a0)∧ys=[(.a [(.l 41 (a0.Decls.map ay)),(.l 36 (a0.Main.map ab))])]
theorem wG(B:bg):BG Tryz.prog [25] jI:=by
 intro H enc W vs ds ps base hb hok h
 obtain ⟨ys,⟨hg,hbk⟩,hl⟩:=(EC (Cd C7 Tryz.underlying25 (fun N=>J7 N) (fun _=>rfl)) (FB)) H enc W vs ds ps base hb hok h
 refine ⟨ys,⟨?_,hbk⟩,hl⟩
 obtain ⟨a0,_,v0,rfl,rfl⟩:=hg
 exact ⟨a0,v0,rfl⟩
end Go.Proofs.YtphgedfhcncobaaGreatDoor.A
