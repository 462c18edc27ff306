/- How the arguments of the laws are read, by program. -/
import Derived.Test.YtdpjofmmokaobaaGreatFrame
import Derived.Test.YtdpjofmmokaobaaGreatTypes
import Derived.Test.YtdpjofmmokaobaaGreatProg
set_option maxRecDepth 100000
set_option linter.unusedSectionVars false
set_option linter.unusedVariables false
set_option linter.unusedSimpArgs false
namespace Go.Proofs.YtdpjofmmokaobaaGreat.A
open Go Go.Proofs
def Ij(x:b9):Prop:=(Lit.int .i64 x.Who).wf=true∧(Lit.int .i64 x.For).wf=true
theorem OD[bE](N:Nat):nL Tryz.prog N 136 b9 (fun x:b9=>[(.i .i64 x.Who),(.i .i64 x.For)]) Ij:=
 (iX Tryz.underlying136 (by kernel_rfl) (bT rfl 1 (by kernel_rfl) (ik Tryz.underlying3 (by kernel_rfl)) (bT rfl 1 (by kernel_rfl) (ik Tryz.underlying3 (by kernel_rfl)) (lR)))).map (fun p=>(⟨p.1,p.2.1⟩:b9)) (fun x=>(x.Who,x.For,())) (fun _=>rfl) (fun _=>rfl) (fun _ h=>⟨h.1,h.2.1⟩)
def GK(x:af):Prop:=(Lit.int .i64 x.Many).wf=true∧(x.Grants.length≤maxLen∧∀ y∈x.Grants,(Ij) y)
theorem T5[bE](N:Nat):nL Tryz.prog N 24 af (fun x:af=>[(.i .i64 x.Many),(.l 136 (x.Grants.map az))]) GK:=
 (iX Tryz.underlying24 (by kernel_rfl) (bT rfl 1 (by kernel_rfl) (ik Tryz.underlying3 (by kernel_rfl)) (bT rfl 1 (by kernel_rfl) (df az Tryz.underlying22 (by kernel_rfl) (OD _) (fun _=>⟨rfl,by kernel_rfl,rfl⟩) (by decide)) (lR)))).map (fun p=>(⟨p.1,p.2.1⟩:af)) (fun x=>(x.Many,x.Grants,())) (fun _=>rfl) (fun _=>rfl) (fun _ h=>⟨h.1,h.2.1⟩)
def Bo(x:bw):Prop:=(Lit.int .i64 x.Owner).wf=true∧(x.Names.length≤maxLen∧∀ y∈x.Names,(fun v:Int=>(Lit.int .i64 v).wf=true) y)
theorem Ik[bE](N:Nat):nL Tryz.prog N 134 bw (fun x:bw=>[(.i .i64 x.Owner),(.l 3 (x.Names.map (AV.i .i64)))]) Bo:=
 (iX Tryz.underlying134 (by kernel_rfl) (bT rfl 1 (by kernel_rfl) (ik Tryz.underlying3 (by kernel_rfl)) (bT rfl 1 (by kernel_rfl) (df (AV.i .i64) Tryz.underlying25 (by kernel_rfl) (ik Tryz.underlying3 (by kernel_rfl)) (fun _=>⟨rfl,by kernel_rfl,rfl⟩) (by decide)) (lR)))).map (fun p=>(⟨p.1,p.2.1⟩:bw)) (fun x=>(x.Owner,x.Names,())) (fun _=>rfl) (fun _=>rfl) (fun _ h=>⟨h.1,h.2.1⟩)
def zU(x:Label):Prop:=(x.Read.length≤maxLen∧∀ y∈x.Read,(Bo) y)∧(x.Write.length≤maxLen∧∀ y∈x.Write,(Bo) y)
theorem GL[bE](N:Nat):nL Tryz.prog N 49 Label (fun x:Label=>[(.l 134 (x.Read.map aT)),(.l 134 (x.Write.map aT))]) zU:=
 (iX Tryz.underlying49 (by kernel_rfl) (bT rfl 1 (by kernel_rfl) (df aT Tryz.underlying47 (by kernel_rfl) (Ik _) (fun _=>⟨rfl,by kernel_rfl,rfl⟩) (by decide)) (bT rfl 1 (by kernel_rfl) (df aT Tryz.underlying47 (by kernel_rfl) (Ik _) (fun _=>⟨rfl,by kernel_rfl,rfl⟩) (by decide)) (lR)))).map (fun p=>(⟨p.1,p.2.1⟩:Label)) (fun x=>(x.Read,x.Write,())) (fun _=>rfl) (fun _=>rfl) (fun _ h=>⟨h.1,h.2.1⟩)
def NB(x:Var):Prop:=True∧zU x.Label
theorem T6[bE](N:Nat):nL Tryz.prog N 51 Var (fun x:Var=>[(.b x.Known),(.l 134 (x.Label.Read.map aT)),(.l 134 (x.Label.Write.map aT))]) NB:=
 (iX Tryz.underlying51 (by kernel_rfl) (bT rfl 1 (by kernel_rfl) (MF Tryz.underlying4 (by kernel_rfl)) (bT rfl 2 (by kernel_rfl) (GL _) (lR)))).map (fun p=>(⟨p.1,p.2.1⟩:Var)) (fun x=>(x.Known,x.Label,())) (fun _=>rfl) (fun _=>rfl) (fun _ h=>⟨h.1,h.2.1⟩)
inductive kh:aC→Prop where
 | mk (x:aC) (h0:(Lit.int .i64 x.Kind).wf=true) (h1:(Lit.int .i64 x.N).wf=true) (h2:x.Args.length≤maxLen) (g2:∀ y∈x.Args,kh y):kh x
theorem kh.inv{x:aC}(h:kh x):((Lit.int .i64 x.Kind).wf=true)∧((Lit.int .i64 x.N).wf=true)∧(x.Args.length≤maxLen∧∀ y∈x.Args,kh y):=by
 cases h with
 | mk _ h0 h1 h2 g2=>exact ⟨h0,h1,⟨h2,g2⟩⟩
theorem OE[bE]:∀ N M,M≤N→nL Tryz.prog M 86 aC (fun x:aC=>[(.i .i64 x.Kind),(.i .i64 x.N),(.l 86 (x.Args.map aR))]) kh:=by
 intro N
 induction N with
 | zero=>
   intro M hM;obtain rfl:M=0:=by omega
   exact GH (fun _=>by kernel_rfl) (fun _=>by kernel_rfl)
 | succ N ih=>intro M hM;exact (iX Tryz.underlying86 (by kernel_rfl) (bT rfl 1 (by kernel_rfl) (ik Tryz.underlying3 (by kernel_rfl)) (bT rfl 1 (by kernel_rfl) (ik Tryz.underlying3 (by kernel_rfl)) (bT rfl 1 (by kernel_rfl) (df aR Tryz.underlying84 (by kernel_rfl) (ih _ (by omega)) (fun _=>by rw [eN];exact ⟨rfl,by kernel_rfl,rfl⟩) (by decide)) (lR))))).map (fun p=>(⟨p.1,p.2.1,p.2.2.1⟩:aC)) (fun x=>(x.Kind,x.N,x.Args,())) (fun _=>rfl) (fun _=>rfl) (fun _ h=>.mk _ h.1 h.2.1 h.2.2.1.1 h.2.2.1.2)
theorem GM[bE](N:Nat):nL Tryz.prog N 86 aC (fun x:aC=>[(.i .i64 x.Kind),(.i .i64 x.N),(.l 86 (x.Args.map aR))]) kh:=OE N N (Nat.le_refl _)
inductive nM:Stmt→Prop where
 | mk (x:Stmt) (h0:(Lit.int .i64 x.Kind).wf=true) (h1:(Lit.int .i64 x.Var).wf=true) (h2:(Lit.int .i64 x.Other).wf=true) (h3:kh x.Expr) (h4:(x.Args.length≤maxLen∧∀ y∈x.Args,(kh) y)) (h5:x.Then.length≤maxLen) (g5:∀ y∈x.Then,nM y) (h6:x.Else.length≤maxLen) (g6:∀ y∈x.Else,nM y):nM x
theorem nM.inv{x:Stmt}(h:nM x):((Lit.int .i64 x.Kind).wf=true)∧((Lit.int .i64 x.Var).wf=true)∧((Lit.int .i64 x.Other).wf=true)∧(kh x.Expr)∧((x.Args.length≤maxLen∧∀ y∈x.Args,(kh) y))∧(x.Then.length≤maxLen∧∀ y∈x.Then,nM y)∧(x.Else.length≤maxLen∧∀ y∈x.Else,nM y):=by
 cases h with
 | mk _ h0 h1 h2 h3 h4 h5 g5 h6 g6=>exact ⟨h0,h1,h2,h3,h4,⟨h5,g5⟩,⟨h6,g6⟩⟩
theorem OF[bE]:∀ N M,M≤N→nL Tryz.prog M 88 Stmt (fun x:Stmt=>[(.i .i64 x.Kind),(.i .i64 x.Var),(.i .i64 x.Other),(.i .i64 x.Expr.Kind),(.i .i64 x.Expr.N),(.l 86 (x.Expr.Args.map aR)),(.l 86 (x.Args.map aR)),(.l 88 (x.Then.map aH)),(.l 88 (x.Else.map aH))]) nM:=by
 intro N
 induction N with
 | zero=>
   intro M hM;obtain rfl:M=0:=by omega
   exact GH (fun _=>by kernel_rfl) (fun _=>by kernel_rfl)
 | succ N ih=>intro M hM;exact (iX Tryz.underlying88 (by kernel_rfl) (bT rfl 1 (by kernel_rfl) (ik Tryz.underlying3 (by kernel_rfl)) (bT rfl 1 (by kernel_rfl) (ik Tryz.underlying3 (by kernel_rfl)) (bT rfl 1 (by kernel_rfl) (ik Tryz.underlying3 (by kernel_rfl)) (bT rfl 3 (by kernel_rfl) (GM _) (bT rfl 1 (by kernel_rfl) (df aR Tryz.underlying84 (by kernel_rfl) (GM _) (fun _=>by rw [eN];exact ⟨rfl,by kernel_rfl,rfl⟩) (by decide)) (bT rfl 1 (by kernel_rfl) (df aH Tryz.underlying29 (by kernel_rfl) (ih _ (by omega)) (fun _=>by rw [lJ];exact ⟨rfl,by kernel_rfl,rfl⟩) (by decide)) (bT rfl 1 (by kernel_rfl) (df aH Tryz.underlying29 (by kernel_rfl) (ih _ (by omega)) (fun _=>by rw [lJ];exact ⟨rfl,by kernel_rfl,rfl⟩) (by decide)) (lR))))))))).map (fun p=>(⟨p.1,p.2.1,p.2.2.1,p.2.2.2.1,p.2.2.2.2.1,p.2.2.2.2.2.1,p.2.2.2.2.2.2.1⟩:Stmt)) (fun x=>(x.Kind,x.Var,x.Other,x.Expr,x.Args,x.Then,x.Else,())) (fun _=>rfl) (fun _=>rfl) (fun _ h=>.mk _ h.1 h.2.1 h.2.2.1 h.2.2.2.1 h.2.2.2.2.1 h.2.2.2.2.2.1.1 h.2.2.2.2.2.1.2 h.2.2.2.2.2.2.1.1 h.2.2.2.2.2.2.1.2)
theorem KG[bE](N:Nat):nL Tryz.prog N 88 Stmt (fun x:Stmt=>[(.i .i64 x.Kind),(.i .i64 x.Var),(.i .i64 x.Other),(.i .i64 x.Expr.Kind),(.i .i64 x.Expr.N),(.l 86 (x.Expr.Args.map aR)),(.l 86 (x.Args.map aR)),(.l 88 (x.Then.map aH)),(.l 88 (x.Else.map aH))]) nM:=OF N N (Nat.le_refl _)
def KH(x:Func):Prop:=(x.Params.length≤maxLen∧∀ y∈x.Params,(fun v:Int=>(Lit.int .i64 v).wf=true) y)∧(x.Body.length≤maxLen∧∀ y∈x.Body,(nM) y)∧kh x.Result
theorem OG[bE](N:Nat):nL Tryz.prog N 112 Func (fun x:Func=>[(.l 3 (x.Params.map (AV.i .i64))),(.l 88 (x.Body.map aH)),(.i .i64 x.Result.Kind),(.i .i64 x.Result.N),(.l 86 (x.Result.Args.map aR))]) KH:=
 (iX Tryz.underlying112 (by kernel_rfl) (bT rfl 1 (by kernel_rfl) (df (AV.i .i64) Tryz.underlying25 (by kernel_rfl) (ik Tryz.underlying3 (by kernel_rfl)) (fun _=>⟨rfl,by kernel_rfl,rfl⟩) (by decide)) (bT rfl 1 (by kernel_rfl) (df aH Tryz.underlying29 (by kernel_rfl) (KG _) (fun _=>by rw [lJ];exact ⟨rfl,by kernel_rfl,rfl⟩) (by decide)) (bT rfl 3 (by kernel_rfl) (GM _) (lR))))).map (fun p=>(⟨p.1,p.2.1,p.2.2.1⟩:Func)) (fun x=>(x.Params,x.Body,x.Result,())) (fun _=>rfl) (fun _=>rfl) (fun _ h=>⟨h.1,h.2.1,h.2.2.1⟩)
def Ef(x:Program):Prop:=GK x.af∧(x.Speak.length≤maxLen∧∀ y∈x.Speak,(fun v:Int=>(Lit.int .i64 v).wf=true) y)∧(x.Ins.length≤maxLen∧∀ y∈x.Ins,(zU) y)∧(x.Outs.length≤maxLen∧∀ y∈x.Outs,(zU) y)∧(x.Vars.length≤maxLen∧∀ y∈x.Vars,(NB) y)∧(x.Funcs.length≤maxLen∧∀ y∈x.Funcs,(KH) y)∧(x.Main.length≤maxLen∧∀ y∈x.Main,(nM) y)
theorem T7[bE](N:Nat):nL Tryz.prog N 31 Program (fun x:Program=>[(.i .i64 x.af.Many),(.l 136 (x.af.Grants.map az)),(.l 3 (x.Speak.map (AV.i .i64))),(.l 49 (x.Ins.map av)),(.l 49 (x.Outs.map av)),(.l 51 (x.Vars.map bm)),(.l 112 (x.Funcs.map a7)),(.l 88 (x.Main.map aH))]) Ef:=
 (iX Tryz.underlying31 (by kernel_rfl) (bT rfl 2 (by kernel_rfl) (T5 _) (bT rfl 1 (by kernel_rfl) (df (AV.i .i64) Tryz.underlying25 (by kernel_rfl) (ik Tryz.underlying3 (by kernel_rfl)) (fun _=>⟨rfl,by kernel_rfl,rfl⟩) (by decide)) (bT rfl 1 (by kernel_rfl) (df av Tryz.underlying26 (by kernel_rfl) (GL _) (fun _=>⟨rfl,by kernel_rfl,rfl⟩) (by decide)) (bT rfl 1 (by kernel_rfl) (df av Tryz.underlying26 (by kernel_rfl) (GL _) (fun _=>⟨rfl,by kernel_rfl,rfl⟩) (by decide)) (bT rfl 1 (by kernel_rfl) (df bm Tryz.underlying27 (by kernel_rfl) (T6 _) (fun _=>⟨rfl,by kernel_rfl,rfl⟩) (by decide)) (bT rfl 1 (by kernel_rfl) (df a7 Tryz.underlying28 (by kernel_rfl) (OG _) (fun _=>⟨rfl,by kernel_rfl,rfl⟩) (by decide)) (bT rfl 1 (by kernel_rfl) (df aH Tryz.underlying29 (by kernel_rfl) (KG _) (fun _=>by rw [lJ];exact ⟨rfl,by kernel_rfl,rfl⟩) (by decide)) (lR))))))))).map (fun p=>(⟨p.1,p.2.1,p.2.2.1,p.2.2.2.1,p.2.2.2.2.1,p.2.2.2.2.2.1,p.2.2.2.2.2.2.1⟩:Program)) (fun x=>(x.af,x.Speak,x.Ins,x.Outs,x.Vars,x.Funcs,x.Main,())) (fun _=>rfl) (fun _=>rfl) (fun _ h=>⟨h.1,h.2.1,h.2.2.1,h.2.2.2.1,h.2.2.2.2.1,h.2.2.2.2.2.1,h.2.2.2.2.2.2.1⟩)
def mJ(ys:List AV):Prop:=∃ (a0:Program)(a1:(List (List Int)))(a2:Int),(Ef a0)∧((a1.length≤maxLen∧∀ y∈a1,(fun v:(List Int)=>(v.length≤maxLen∧∀ y∈v,(fun v:Int=>(Lit.int .i64 v).wf=true) y)) y))∧((Lit.int .i64 a2).wf=true)∧ys=[(.a (aA a0)),(.l 25 (a1.map (bB 3 (AV.i .i64)))),(.i .i64 a2)]
theorem Cz(B:bE):GJ Tryz.prog [31,32,3] mJ:=by
 intro H enc W vs ds ps base hb hok h
 obtain ⟨ys,⟨hg,hbk⟩,hl⟩:=(zy (Ho m5 Tryz.underlying31 (fun N=>T7 N) (fun _=>rfl)) (zy (GI (fun x:(List (List Int))=>(.l 25 (x.map (bB 3 (AV.i .i64))))) (fun _=>(df (bB 3 (AV.i .i64)) Tryz.underlying32 (by kernel_rfl) (df (AV.i .i64) Tryz.underlying25 (by kernel_rfl) (ik Tryz.underlying3 (by kernel_rfl)) (fun _=>⟨rfl,by kernel_rfl,rfl⟩) (by decide)) (fun _=>⟨rfl,by kernel_rfl,rfl⟩) (by decide))) (MH Tryz.underlying32)) (zy (GI (fun x:Int=>(.i .i64 x)) (fun _=>(ik Tryz.underlying3 (by kernel_rfl))) (TZ Tryz.underlying3)) (MI)))) H enc W vs ds ps base hb hok h
 refine ⟨ys,⟨?_,hbk⟩,hl⟩
 obtain ⟨a0,_,v0,⟨a1,_,v1,⟨a2,_,v2,rfl,rfl⟩,rfl⟩,rfl⟩:=hg
 exact ⟨a0,a1,a2,v0,v1,v2,rfl⟩
end Go.Proofs.YtdpjofmmokaobaaGreat.A
