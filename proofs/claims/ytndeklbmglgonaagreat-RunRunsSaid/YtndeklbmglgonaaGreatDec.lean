/- How the arguments of the laws are read, by program. -/
import Derived.Test.YtndeklbmglgonaaGreatFrame
import Derived.Test.YtndeklbmglgonaaGreatTypes
import Derived.Test.YtndeklbmglgonaaGreatProg
set_option maxRecDepth 100000
set_option linter.unusedSectionVars false
set_option linter.unusedVariables false
set_option linter.unusedSimpArgs false
namespace Go.Proofs.YtndeklbmglgonaaGreat.A
open Go Go.Proofs
def Is(x:il):Prop:=(Lit.int .i64 x.Who).wf=true∧(Lit.int .i64 x.For).wf=true
theorem Nt[bR](N:Nat):mZ Tryz.prog N 115 il (fun x:il=>[(.i .i64 x.Who),(.i .i64 x.For)]) Is:=
 (iE Tryz.underlying115 (by kernel_rfl) (bU rfl 1 (by kernel_rfl) (gE Tryz.underlying3 (by kernel_rfl)) (bU rfl 1 (by kernel_rfl) (gE Tryz.underlying3 (by kernel_rfl)) (lx)))).map (fun p=>(⟨p.1,p.2.1⟩:il)) (fun x=>(x.Who,x.For,())) (fun _=>rfl) (fun _=>rfl) (fun _ h=>⟨h.1,h.2.1⟩)
def GY(x:an):Prop:=(Lit.int .i64 x.Many).wf=true∧(x.Grants.length≤maxLen∧∀ y∈x.Grants,(Is) y)
theorem RL[bR](N:Nat):mZ Tryz.prog N 24 an (fun x:an=>[(.i .i64 x.Many),(.l 115 (x.Grants.map aF))]) GY:=
 (iE Tryz.underlying24 (by kernel_rfl) (bU rfl 1 (by kernel_rfl) (gE Tryz.underlying3 (by kernel_rfl)) (bU rfl 1 (by kernel_rfl) (du aF Tryz.underlying22 (by kernel_rfl) (Nt _) (fun _=>⟨rfl,by kernel_rfl,rfl⟩) (by decide)) (lx)))).map (fun p=>(⟨p.1,p.2.1⟩:an)) (fun x=>(x.Many,x.Grants,())) (fun _=>rfl) (fun _=>rfl) (fun _ h=>⟨h.1,h.2.1⟩)
def BL(x:b9):Prop:=(Lit.int .i64 x.Owner).wf=true∧(x.Names.length≤maxLen∧∀ y∈x.Names,(fun v:Int=>(Lit.int .i64 v).wf=true) y)
theorem It[bR](N:Nat):mZ Tryz.prog N 134 b9 (fun x:b9=>[(.i .i64 x.Owner),(.l 3 (x.Names.map (AV.i .i64)))]) BL:=
 (iE Tryz.underlying134 (by kernel_rfl) (bU rfl 1 (by kernel_rfl) (gE Tryz.underlying3 (by kernel_rfl)) (bU rfl 1 (by kernel_rfl) (du (AV.i .i64) Tryz.underlying25 (by kernel_rfl) (gE Tryz.underlying3 (by kernel_rfl)) (fun _=>⟨rfl,by kernel_rfl,rfl⟩) (by decide)) (lx)))).map (fun p=>(⟨p.1,p.2.1⟩:b9)) (fun x=>(x.Owner,x.Names,())) (fun _=>rfl) (fun _=>rfl) (fun _ h=>⟨h.1,h.2.1⟩)
def zz(x:Label):Prop:=(x.Read.length≤maxLen∧∀ y∈x.Read,(BL) y)∧(x.Write.length≤maxLen∧∀ y∈x.Write,(BL) y)
theorem GZ[bR](N:Nat):mZ Tryz.prog N 89 Label (fun x:Label=>[(.l 134 (x.Read.map aY)),(.l 134 (x.Write.map aY))]) zz:=
 (iE Tryz.underlying89 (by kernel_rfl) (bU rfl 1 (by kernel_rfl) (du aY Tryz.underlying87 (by kernel_rfl) (It _) (fun _=>⟨rfl,by kernel_rfl,rfl⟩) (by decide)) (bU rfl 1 (by kernel_rfl) (du aY Tryz.underlying87 (by kernel_rfl) (It _) (fun _=>⟨rfl,by kernel_rfl,rfl⟩) (by decide)) (lx)))).map (fun p=>(⟨p.1,p.2.1⟩:Label)) (fun x=>(x.Read,x.Write,())) (fun _=>rfl) (fun _=>rfl) (fun _ h=>⟨h.1,h.2.1⟩)
def MI(x:Var):Prop:=True∧zz x.Label
theorem RM[bR](N:Nat):mZ Tryz.prog N 91 Var (fun x:Var=>[(.b x.Known),(.l 134 (x.Label.Read.map aY)),(.l 134 (x.Label.Write.map aY))]) MI:=
 (iE Tryz.underlying91 (by kernel_rfl) (bU rfl 1 (by kernel_rfl) (Lf Tryz.underlying4 (by kernel_rfl)) (bU rfl 2 (by kernel_rfl) (GZ _) (lx)))).map (fun p=>(⟨p.1,p.2.1⟩:Var)) (fun x=>(x.Known,x.Label,())) (fun _=>rfl) (fun _=>rfl) (fun _ h=>⟨h.1,h.2.1⟩)
def Er(_:ag):Prop:=True
theorem Nu[bR]:∀ N M,M≤N→mZ Tryz.prog M 63 ag (fun x:ag=>[(.i .i64 x.Kind),(.i .i64 x.N),(.l 63 (x.Args.map aD))]) Er:=by
 intro N
 induction N with
 | zero=>
   intro M hM;obtain rfl:M=0:=by omega
   exact GV (fun _=>by kernel_rfl) (fun _=>by kernel_rfl)
 | succ N ih=>intro M hM;exact (iE Tryz.underlying63 (by kernel_rfl) (bU rfl 1 (by kernel_rfl) (gE Tryz.underlying3 (by kernel_rfl)) (bU rfl 1 (by kernel_rfl) (gE Tryz.underlying3 (by kernel_rfl)) (bU rfl 1 (by kernel_rfl) (du aD Tryz.underlying61 (by kernel_rfl) (ih _ (by omega)) (fun _=>by rw [dm];exact ⟨rfl,by kernel_rfl,rfl⟩) (by decide)) (lx))))).map (fun p=>(⟨p.1,p.2.1,p.2.2.1⟩:ag)) (fun x=>(x.Kind,x.N,x.Args,())) (fun _=>rfl) (fun _=>rfl) (fun _ _=>trivial)
theorem G0[bR](N:Nat):mZ Tryz.prog N 63 ag (fun x:ag=>[(.i .i64 x.Kind),(.i .i64 x.N),(.l 63 (x.Args.map aD))]) Er:=Nu N N (Nat.le_refl _)
def Dc(_:Stmt):Prop:=True
theorem Nv[bR]:∀ N M,M≤N→mZ Tryz.prog M 65 Stmt (fun x:Stmt=>[(.i .i64 x.Kind),(.i .i64 x.Var),(.i .i64 x.Other),(.i .i64 x.Expr.Kind),(.i .i64 x.Expr.N),(.l 63 (x.Expr.Args.map aD)),(.l 63 (x.Args.map aD)),(.l 65 (x.Then.map au)),(.l 65 (x.Else.map au))]) Dc:=by
 intro N
 induction N with
 | zero=>
   intro M hM;obtain rfl:M=0:=by omega
   exact GV (fun _=>by kernel_rfl) (fun _=>by kernel_rfl)
 | succ N ih=>intro M hM;exact (iE Tryz.underlying65 (by kernel_rfl) (bU rfl 1 (by kernel_rfl) (gE Tryz.underlying3 (by kernel_rfl)) (bU rfl 1 (by kernel_rfl) (gE Tryz.underlying3 (by kernel_rfl)) (bU rfl 1 (by kernel_rfl) (gE Tryz.underlying3 (by kernel_rfl)) (bU rfl 3 (by kernel_rfl) (G0 _) (bU rfl 1 (by kernel_rfl) (du aD Tryz.underlying61 (by kernel_rfl) (G0 _) (fun _=>by rw [dm];exact ⟨rfl,by kernel_rfl,rfl⟩) (by decide)) (bU rfl 1 (by kernel_rfl) (du au Tryz.underlying29 (by kernel_rfl) (ih _ (by omega)) (fun _=>by rw [ea];exact ⟨rfl,by kernel_rfl,rfl⟩) (by decide)) (bU rfl 1 (by kernel_rfl) (du au Tryz.underlying29 (by kernel_rfl) (ih _ (by omega)) (fun _=>by rw [ea];exact ⟨rfl,by kernel_rfl,rfl⟩) (by decide)) (lx))))))))).map (fun p=>(⟨p.1,p.2.1,p.2.2.1,p.2.2.2.1,p.2.2.2.2.1,p.2.2.2.2.2.1,p.2.2.2.2.2.2.1⟩:Stmt)) (fun x=>(x.Kind,x.Var,x.Other,x.Expr,x.Args,x.Then,x.Else,())) (fun _=>rfl) (fun _=>rfl) (fun _ _=>trivial)
theorem J8[bR](N:Nat):mZ Tryz.prog N 65 Stmt (fun x:Stmt=>[(.i .i64 x.Kind),(.i .i64 x.Var),(.i .i64 x.Other),(.i .i64 x.Expr.Kind),(.i .i64 x.Expr.N),(.l 63 (x.Expr.Args.map aD)),(.l 63 (x.Args.map aD)),(.l 65 (x.Then.map au)),(.l 65 (x.Else.map au))]) Dc:=Nv N N (Nat.le_refl _)
def J9(x:Func):Prop:=(x.Params.length≤maxLen∧∀ y∈x.Params,(fun v:Int=>(Lit.int .i64 v).wf=true) y)∧(x.Body.length≤maxLen∧∀ y∈x.Body,(Dc) y)∧Er x.Result
theorem RN[bR](N:Nat):mZ Tryz.prog N 82 Func (fun x:Func=>[(.l 3 (x.Params.map (AV.i .i64))),(.l 65 (x.Body.map au)),(.i .i64 x.Result.Kind),(.i .i64 x.Result.N),(.l 63 (x.Result.Args.map aD))]) J9:=
 (iE Tryz.underlying82 (by kernel_rfl) (bU rfl 1 (by kernel_rfl) (du (AV.i .i64) Tryz.underlying25 (by kernel_rfl) (gE Tryz.underlying3 (by kernel_rfl)) (fun _=>⟨rfl,by kernel_rfl,rfl⟩) (by decide)) (bU rfl 1 (by kernel_rfl) (du au Tryz.underlying29 (by kernel_rfl) (J8 _) (fun _=>by rw [ea];exact ⟨rfl,by kernel_rfl,rfl⟩) (by decide)) (bU rfl 3 (by kernel_rfl) (G0 _) (lx))))).map (fun p=>(⟨p.1,p.2.1,p.2.2.1⟩:Func)) (fun x=>(x.Params,x.Body,x.Result,())) (fun _=>rfl) (fun _=>rfl) (fun _ h=>⟨h.1,h.2.1,h.2.2.1⟩)
def EP(x:Program):Prop:=GY x.an∧(x.Speak.length≤maxLen∧∀ y∈x.Speak,(fun v:Int=>(Lit.int .i64 v).wf=true) y)∧(x.Ins.length≤maxLen∧∀ y∈x.Ins,(zz) y)∧(x.Outs.length≤maxLen∧∀ y∈x.Outs,(zz) y)∧(x.Vars.length≤maxLen∧∀ y∈x.Vars,(MI) y)∧(x.Funcs.length≤maxLen∧∀ y∈x.Funcs,(J9) y)∧(x.Main.length≤maxLen∧∀ y∈x.Main,(Dc) y)
theorem RO[bR](N:Nat):mZ Tryz.prog N 31 Program (fun x:Program=>[(.i .i64 x.an.Many),(.l 115 (x.an.Grants.map aF)),(.l 3 (x.Speak.map (AV.i .i64))),(.l 89 (x.Ins.map ar)),(.l 89 (x.Outs.map ar)),(.l 91 (x.Vars.map bH)),(.l 82 (x.Funcs.map bc)),(.l 65 (x.Main.map au))]) EP:=
 (iE Tryz.underlying31 (by kernel_rfl) (bU rfl 2 (by kernel_rfl) (RL _) (bU rfl 1 (by kernel_rfl) (du (AV.i .i64) Tryz.underlying25 (by kernel_rfl) (gE Tryz.underlying3 (by kernel_rfl)) (fun _=>⟨rfl,by kernel_rfl,rfl⟩) (by decide)) (bU rfl 1 (by kernel_rfl) (du ar Tryz.underlying26 (by kernel_rfl) (GZ _) (fun _=>⟨rfl,by kernel_rfl,rfl⟩) (by decide)) (bU rfl 1 (by kernel_rfl) (du ar Tryz.underlying26 (by kernel_rfl) (GZ _) (fun _=>⟨rfl,by kernel_rfl,rfl⟩) (by decide)) (bU rfl 1 (by kernel_rfl) (du bH Tryz.underlying27 (by kernel_rfl) (RM _) (fun _=>⟨rfl,by kernel_rfl,rfl⟩) (by decide)) (bU rfl 1 (by kernel_rfl) (du bc Tryz.underlying28 (by kernel_rfl) (RN _) (fun _=>⟨rfl,by kernel_rfl,rfl⟩) (by decide)) (bU rfl 1 (by kernel_rfl) (du au Tryz.underlying29 (by kernel_rfl) (J8 _) (fun _=>by rw [ea];exact ⟨rfl,by kernel_rfl,rfl⟩) (by decide)) (lx))))))))).map (fun p=>(⟨p.1,p.2.1,p.2.2.1,p.2.2.2.1,p.2.2.2.2.1,p.2.2.2.2.2.1,p.2.2.2.2.2.2.1⟩:Program)) (fun x=>(x.an,x.Speak,x.Ins,x.Outs,x.Vars,x.Funcs,x.Main,())) (fun _=>rfl) (fun _=>rfl) (fun _ h=>⟨h.1,h.2.1,h.2.2.1,h.2.2.2.1,h.2.2.2.2.1,h.2.2.2.2.2.1,h.2.2.2.2.2.2.1⟩)
def p6(ys:List AV):Prop:=∃ (a0:Program)(a1:(List (List Int)))(a2:Int),(EP a0)∧((a1.length≤maxLen∧∀ y∈a1,(fun v:(List Int)=>(v.length≤maxLen∧∀ y∈v,(fun v:Int=>(Lit.int .i64 v).wf=true) y)) y))∧((Lit.int .i64 a2).wf=true)∧ys=[(.a (ah a0)),(.l 25 (a1.map (bM 3 (AV.i .i64)))),(.i .i64 a2)]
theorem G1(B:bR):GX Tryz.prog [31,32,3] p6:=by
 intro H enc W vs ds ps base hb hok h
 obtain ⟨ys,⟨hg,hbk⟩,hl⟩:=(zd (HN AJ Tryz.underlying31 (fun N=>RO N) (fun _=>rfl)) (zd (GW (fun x:(List (List Int))=>(.l 25 (x.map (bM 3 (AV.i .i64))))) (fun _=>(du (bM 3 (AV.i .i64)) Tryz.underlying32 (by kernel_rfl) (du (AV.i .i64) Tryz.underlying25 (by kernel_rfl) (gE Tryz.underlying3 (by kernel_rfl)) (fun _=>⟨rfl,by kernel_rfl,rfl⟩) (by decide)) (fun _=>⟨rfl,by kernel_rfl,rfl⟩) (by decide))) (Lh Tryz.underlying32)) (zd (GW (fun x:Int=>(.i .i64 x)) (fun _=>(gE Tryz.underlying3 (by kernel_rfl))) (RK Tryz.underlying3)) (Li)))) H enc W vs ds ps base hb hok h
 refine ⟨ys,⟨?_,hbk⟩,hl⟩
 obtain ⟨a0,_,v0,⟨a1,_,v1,⟨a2,_,v2,rfl,rfl⟩,rfl⟩,rfl⟩:=hg
 exact ⟨a0,a1,a2,v0,v1,v2,rfl⟩
end Go.Proofs.YtndeklbmglgonaaGreat.A
