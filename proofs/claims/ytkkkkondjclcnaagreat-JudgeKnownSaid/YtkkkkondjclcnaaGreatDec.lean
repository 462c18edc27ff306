/- How the arguments of the laws are read, by program. -/
import Derived.Test.YtkkkkondjclcnaaGreatFrame
import Derived.Test.YtkkkkondjclcnaaGreatTypes
import Derived.Test.YtkkkkondjclcnaaGreatProg
set_option maxRecDepth 100000
set_option linter.unusedSectionVars false
set_option linter.unusedVariables false
set_option linter.unusedSimpArgs false
namespace Go.Proofs.YtkkkkondjclcnaaGreat.A
open Go Go.Proofs
def KT(x:bc):Prop:=(Lit.int .i64 x.Who).wf=true∧(Lit.int .i64 x.For).wf=true
theorem R6[aY](N:Nat):pZ Tryz.prog N 166 bc (fun x:bc=>[(.i .i64 x.Who),(.i .i64 x.For)]) KT:=
 (jI Tryz.underlying166 (by kernel_rfl) (bD rfl 1 (by kernel_rfl) (kX Tryz.underlying3 (by kernel_rfl)) (bD rfl 1 (by kernel_rfl) (kX Tryz.underlying3 (by kernel_rfl)) (mX)))).map (fun p=>(⟨p.1,p.2.1⟩:bc)) (fun x=>(x.Who,x.For,())) (fun _=>rfl) (fun _=>rfl) (fun _ h=>⟨h.1,h.2.1⟩)
def I0(x:aa):Prop:=(Lit.int .i64 x.Many).wf=true∧(x.Grants.length≤maxLen∧∀ y∈x.Grants,(KT) y)
theorem Xr[aY](N:Nat):pZ Tryz.prog N 24 aa (fun x:aa=>[(.i .i64 x.Many),(.l 166 (x.Grants.map aB))]) I0:=
 (jI Tryz.underlying24 (by kernel_rfl) (bD rfl 1 (by kernel_rfl) (kX Tryz.underlying3 (by kernel_rfl)) (bD rfl 1 (by kernel_rfl) (dM aB Tryz.underlying22 (by kernel_rfl) (R6 _) (fun _=>⟨rfl,by kernel_rfl,rfl⟩) (by decide)) (mX)))).map (fun p=>(⟨p.1,p.2.1⟩:aa)) (fun x=>(x.Many,x.Grants,())) (fun _=>rfl) (fun _=>rfl) (fun _ h=>⟨h.1,h.2.1⟩)
def CL(x:aD):Prop:=(Lit.int .i64 x.Owner).wf=true∧(x.Names.length≤maxLen∧∀ y∈x.Names,(fun v:Int=>(Lit.int .i64 v).wf=true) y)
theorem KU[aY](N:Nat):pZ Tryz.prog N 138 aD (fun x:aD=>[(.i .i64 x.Owner),(.l 3 (x.Names.map (AV.i .i64)))]) CL:=
 (jI Tryz.underlying138 (by kernel_rfl) (bD rfl 1 (by kernel_rfl) (kX Tryz.underlying3 (by kernel_rfl)) (bD rfl 1 (by kernel_rfl) (dM (AV.i .i64) Tryz.underlying25 (by kernel_rfl) (kX Tryz.underlying3 (by kernel_rfl)) (fun _=>⟨rfl,by kernel_rfl,rfl⟩) (by decide)) (mX)))).map (fun p=>(⟨p.1,p.2.1⟩:aD)) (fun x=>(x.Owner,x.Names,())) (fun _=>rfl) (fun _=>rfl) (fun _ h=>⟨h.1,h.2.1⟩)
def By(x:Label):Prop:=(x.Read.length≤maxLen∧∀ y∈x.Read,(CL) y)∧(x.Write.length≤maxLen∧∀ y∈x.Write,(CL) y)
theorem I1[aY](N:Nat):pZ Tryz.prog N 81 Label (fun x:Label=>[(.l 138 (x.Read.map au)),(.l 138 (x.Write.map au))]) By:=
 (jI Tryz.underlying81 (by kernel_rfl) (bD rfl 1 (by kernel_rfl) (dM au Tryz.underlying79 (by kernel_rfl) (KU _) (fun _=>⟨rfl,by kernel_rfl,rfl⟩) (by decide)) (bD rfl 1 (by kernel_rfl) (dM au Tryz.underlying79 (by kernel_rfl) (KU _) (fun _=>⟨rfl,by kernel_rfl,rfl⟩) (by decide)) (mX)))).map (fun p=>(⟨p.1,p.2.1⟩:Label)) (fun x=>(x.Read,x.Write,())) (fun _=>rfl) (fun _=>rfl) (fun _ h=>⟨h.1,h.2.1⟩)
def Q9(x:Var):Prop:=True∧By x.Label
theorem Xs[aY](N:Nat):pZ Tryz.prog N 83 Var (fun x:Var=>[(.b x.Known),(.l 138 (x.Label.Read.map au)),(.l 138 (x.Label.Write.map au))]) Q9:=
 (jI Tryz.underlying83 (by kernel_rfl) (bD rfl 1 (by kernel_rfl) (Qe Tryz.underlying4 (by kernel_rfl)) (bD rfl 2 (by kernel_rfl) (I1 _) (mX)))).map (fun p=>(⟨p.1,p.2.1⟩:Var)) (fun x=>(x.Known,x.Label,())) (fun _=>rfl) (fun _=>rfl) (fun _ h=>⟨h.1,h.2.1⟩)
inductive kY:ak→Prop where
 | mk (x:ak) (h0:(Lit.int .i64 x.Kind).wf=true) (h1:(Lit.int .i64 x.N).wf=true) (h2:x.Args.length≤maxLen) (g2:∀ y∈x.Args,kY y):kY x
theorem kY.inv{x:ak}(h:kY x):((Lit.int .i64 x.Kind).wf=true)∧((Lit.int .i64 x.N).wf=true)∧(x.Args.length≤maxLen∧∀ y∈x.Args,kY y):=by
 cases h with
 | mk _ h0 h1 h2 g2=>exact ⟨h0,h1,⟨h2,g2⟩⟩
theorem R7[aY]:∀ N M,M≤N→pZ Tryz.prog M 37 ak (fun x:ak=>[(.i .i64 x.Kind),(.i .i64 x.N),(.l 37 (x.Args.map az))]) kY:=by
 intro N
 induction N with
 | zero=>
   intro M hM;obtain rfl:M=0:=by omega
   exact IY (fun _=>by kernel_rfl) (fun _=>by kernel_rfl)
 | succ N ih=>intro M hM;exact (jI Tryz.underlying37 (by kernel_rfl) (bD rfl 1 (by kernel_rfl) (kX Tryz.underlying3 (by kernel_rfl)) (bD rfl 1 (by kernel_rfl) (kX Tryz.underlying3 (by kernel_rfl)) (bD rfl 1 (by kernel_rfl) (dM az Tryz.underlying35 (by kernel_rfl) (ih _ (by omega)) (fun _=>by rw [dt];exact ⟨rfl,by kernel_rfl,rfl⟩) (by decide)) (mX))))).map (fun p=>(⟨p.1,p.2.1,p.2.2.1⟩:ak)) (fun x=>(x.Kind,x.N,x.Args,())) (fun _=>rfl) (fun _=>rfl) (fun _ h=>.mk _ h.1 h.2.1 h.2.2.1.1 h.2.2.1.2)
theorem I3[aY](N:Nat):pZ Tryz.prog N 37 ak (fun x:ak=>[(.i .i64 x.Kind),(.i .i64 x.N),(.l 37 (x.Args.map az))]) kY:=R7 N N (Nat.le_refl _)
inductive oT:Stmt→Prop where
 | mk (x:Stmt) (h0:(Lit.int .i64 x.Kind).wf=true) (h1:(Lit.int .i64 x.Var).wf=true) (h2:(Lit.int .i64 x.Other).wf=true) (h3:kY x.Expr) (h4:(x.Args.length≤maxLen∧∀ y∈x.Args,(kY) y)) (h5:x.Then.length≤maxLen) (g5:∀ y∈x.Then,oT y) (h6:x.Else.length≤maxLen) (g6:∀ y∈x.Else,oT y):oT x
theorem oT.inv{x:Stmt}(h:oT x):((Lit.int .i64 x.Kind).wf=true)∧((Lit.int .i64 x.Var).wf=true)∧((Lit.int .i64 x.Other).wf=true)∧(kY x.Expr)∧((x.Args.length≤maxLen∧∀ y∈x.Args,(kY) y))∧(x.Then.length≤maxLen∧∀ y∈x.Then,oT y)∧(x.Else.length≤maxLen∧∀ y∈x.Else,oT y):=by
 cases h with
 | mk _ h0 h1 h2 h3 h4 h5 g5 h6 g6=>exact ⟨h0,h1,h2,h3,h4,⟨h5,g5⟩,⟨h6,g6⟩⟩
theorem R8[aY]:∀ N M,M≤N→pZ Tryz.prog M 92 Stmt (fun x:Stmt=>[(.i .i64 x.Kind),(.i .i64 x.Var),(.i .i64 x.Other),(.i .i64 x.Expr.Kind),(.i .i64 x.Expr.N),(.l 37 (x.Expr.Args.map az)),(.l 37 (x.Args.map az)),(.l 92 (x.Then.map ay)),(.l 92 (x.Else.map ay))]) oT:=by
 intro N
 induction N with
 | zero=>
   intro M hM;obtain rfl:M=0:=by omega
   exact IY (fun _=>by kernel_rfl) (fun _=>by kernel_rfl)
 | succ N ih=>intro M hM;exact (jI Tryz.underlying92 (by kernel_rfl) (bD rfl 1 (by kernel_rfl) (kX Tryz.underlying3 (by kernel_rfl)) (bD rfl 1 (by kernel_rfl) (kX Tryz.underlying3 (by kernel_rfl)) (bD rfl 1 (by kernel_rfl) (kX Tryz.underlying3 (by kernel_rfl)) (bD rfl 3 (by kernel_rfl) (I3 _) (bD rfl 1 (by kernel_rfl) (dM az Tryz.underlying35 (by kernel_rfl) (I3 _) (fun _=>by rw [dt];exact ⟨rfl,by kernel_rfl,rfl⟩) (by decide)) (bD rfl 1 (by kernel_rfl) (dM ay Tryz.underlying29 (by kernel_rfl) (ih _ (by omega)) (fun _=>by rw [je];exact ⟨rfl,by kernel_rfl,rfl⟩) (by decide)) (bD rfl 1 (by kernel_rfl) (dM ay Tryz.underlying29 (by kernel_rfl) (ih _ (by omega)) (fun _=>by rw [je];exact ⟨rfl,by kernel_rfl,rfl⟩) (by decide)) (mX))))))))).map (fun p=>(⟨p.1,p.2.1,p.2.2.1,p.2.2.2.1,p.2.2.2.2.1,p.2.2.2.2.2.1,p.2.2.2.2.2.2.1⟩:Stmt)) (fun x=>(x.Kind,x.Var,x.Other,x.Expr,x.Args,x.Then,x.Else,())) (fun _=>rfl) (fun _=>rfl) (fun _ h=>.mk _ h.1 h.2.1 h.2.2.1 h.2.2.2.1 h.2.2.2.2.1 h.2.2.2.2.2.1.1 h.2.2.2.2.2.1.2 h.2.2.2.2.2.2.1.1 h.2.2.2.2.2.2.1.2)
theorem N8[aY](N:Nat):pZ Tryz.prog N 92 Stmt (fun x:Stmt=>[(.i .i64 x.Kind),(.i .i64 x.Var),(.i .i64 x.Other),(.i .i64 x.Expr.Kind),(.i .i64 x.Expr.N),(.l 37 (x.Expr.Args.map az)),(.l 37 (x.Args.map az)),(.l 92 (x.Then.map ay)),(.l 92 (x.Else.map ay))]) oT:=R8 N N (Nat.le_refl _)
def N9(x:Func):Prop:=(x.Params.length≤maxLen∧∀ y∈x.Params,(fun v:Int=>(Lit.int .i64 v).wf=true) y)∧(x.Body.length≤maxLen∧∀ y∈x.Body,(oT) y)∧kY x.Result
theorem R9[aY](N:Nat):pZ Tryz.prog N 101 Func (fun x:Func=>[(.l 3 (x.Params.map (AV.i .i64))),(.l 92 (x.Body.map ay)),(.i .i64 x.Result.Kind),(.i .i64 x.Result.N),(.l 37 (x.Result.Args.map az))]) N9:=
 (jI Tryz.underlying101 (by kernel_rfl) (bD rfl 1 (by kernel_rfl) (dM (AV.i .i64) Tryz.underlying25 (by kernel_rfl) (kX Tryz.underlying3 (by kernel_rfl)) (fun _=>⟨rfl,by kernel_rfl,rfl⟩) (by decide)) (bD rfl 1 (by kernel_rfl) (dM ay Tryz.underlying29 (by kernel_rfl) (N8 _) (fun _=>by rw [je];exact ⟨rfl,by kernel_rfl,rfl⟩) (by decide)) (bD rfl 3 (by kernel_rfl) (I3 _) (mX))))).map (fun p=>(⟨p.1,p.2.1,p.2.2.1⟩:Func)) (fun x=>(x.Params,x.Body,x.Result,())) (fun _=>rfl) (fun _=>rfl) (fun _ h=>⟨h.1,h.2.1,h.2.2.1⟩)
def F1(x:Program):Prop:=I0 x.aa∧(x.Speak.length≤maxLen∧∀ y∈x.Speak,(fun v:Int=>(Lit.int .i64 v).wf=true) y)∧(x.Ins.length≤maxLen∧∀ y∈x.Ins,(By) y)∧(x.Outs.length≤maxLen∧∀ y∈x.Outs,(By) y)∧(x.Vars.length≤maxLen∧∀ y∈x.Vars,(Q9) y)∧(x.Funcs.length≤maxLen∧∀ y∈x.Funcs,(N9) y)∧(x.Main.length≤maxLen∧∀ y∈x.Main,(oT) y)
theorem Xt[aY](N:Nat):pZ Tryz.prog N 31 Program (fun x:Program=>[(.i .i64 x.aa.Many),(.l 166 (x.aa.Grants.map aB)),(.l 3 (x.Speak.map (AV.i .i64))),(.l 81 (x.Ins.map ah)),(.l 81 (x.Outs.map ah)),(.l 83 (x.Vars.map aW)),(.l 101 (x.Funcs.map aS)),(.l 92 (x.Main.map ay))]) F1:=
 (jI Tryz.underlying31 (by kernel_rfl) (bD rfl 2 (by kernel_rfl) (Xr _) (bD rfl 1 (by kernel_rfl) (dM (AV.i .i64) Tryz.underlying25 (by kernel_rfl) (kX Tryz.underlying3 (by kernel_rfl)) (fun _=>⟨rfl,by kernel_rfl,rfl⟩) (by decide)) (bD rfl 1 (by kernel_rfl) (dM ah Tryz.underlying26 (by kernel_rfl) (I1 _) (fun _=>⟨rfl,by kernel_rfl,rfl⟩) (by decide)) (bD rfl 1 (by kernel_rfl) (dM ah Tryz.underlying26 (by kernel_rfl) (I1 _) (fun _=>⟨rfl,by kernel_rfl,rfl⟩) (by decide)) (bD rfl 1 (by kernel_rfl) (dM aW Tryz.underlying27 (by kernel_rfl) (Xs _) (fun _=>⟨rfl,by kernel_rfl,rfl⟩) (by decide)) (bD rfl 1 (by kernel_rfl) (dM aS Tryz.underlying28 (by kernel_rfl) (R9 _) (fun _=>⟨rfl,by kernel_rfl,rfl⟩) (by decide)) (bD rfl 1 (by kernel_rfl) (dM ay Tryz.underlying29 (by kernel_rfl) (N8 _) (fun _=>by rw [je];exact ⟨rfl,by kernel_rfl,rfl⟩) (by decide)) (mX))))))))).map (fun p=>(⟨p.1,p.2.1,p.2.2.1,p.2.2.2.1,p.2.2.2.2.1,p.2.2.2.2.2.1,p.2.2.2.2.2.2.1⟩:Program)) (fun x=>(x.aa,x.Speak,x.Ins,x.Outs,x.Vars,x.Funcs,x.Main,())) (fun _=>rfl) (fun _=>rfl) (fun _ h=>⟨h.1,h.2.1,h.2.2.1,h.2.2.2.1,h.2.2.2.2.1,h.2.2.2.2.2.1,h.2.2.2.2.2.2.1⟩)
def nU(ys:List AV):Prop:=∃ (a0:Program),(F1 a0)∧ys=[(.a (ar a0))]
theorem D6(B:aY):IZ Tryz.prog [31] nU:=by
 intro H enc W vs ds ps base hb hok h
 obtain ⟨ys,⟨hg,hbk⟩,hl⟩:=(N7 (JJ om Tryz.underlying31 (fun N=>Xt N) (fun _=>rfl)) (Qf)) H enc W vs ds ps base hb hok h
 refine ⟨ys,⟨?_,hbk⟩,hl⟩
 obtain ⟨a0,_,v0,rfl,rfl⟩:=hg
 exact ⟨a0,v0,rfl⟩
end Go.Proofs.YtkkkkondjclcnaaGreat.A
