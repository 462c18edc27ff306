/- How the arguments of the laws are read, by program. -/
import Derived.Test.YtdpjofmmokaobaaGreatFrame
import Derived.Test.YtdpjofmmokaobaaGreatTypes
import Derived.Test.YtdpjofmmokaobaaGreatProg
set_option maxRecDepth 100000
set_option linter.unusedSectionVars false
set_option linter.unusedVariables false
set_option linter.unusedSimpArgs false
namespace Go.Proofs.YtdpjofmmokaobaaGreat.A
open Go Go.Proofs
def I1(x:cq):Prop:=(Lit.int .i64 x.Who).wf=true∧(Lit.int .i64 x.For).wf=true
theorem PB[bJ](N:Nat):nY Tryz.prog N 136 cq (fun x:cq=>[(.i .i64 x.Who),(.i .i64 x.For)]) I1:=
 (jl Tryz.underlying136 (by kernel_rfl) (bV rfl 1 (by kernel_rfl) (ix Tryz.underlying3 (by kernel_rfl)) (bV rfl 1 (by kernel_rfl) (ix Tryz.underlying3 (by kernel_rfl)) (mn)))).map (fun p=>(⟨p.1,p.2.1⟩:cq)) (fun x=>(x.Who,x.For,())) (fun _=>rfl) (fun _=>rfl) (fun _ h=>⟨h.1,h.2.1⟩)
def Hr(x:ah):Prop:=(Lit.int .i64 x.Many).wf=true∧(x.Grants.length≤maxLen∧∀ y∈x.Grants,(I1) y)
theorem UW[bJ](N:Nat):nY Tryz.prog N 24 ah (fun x:ah=>[(.i .i64 x.Many),(.l 136 (x.Grants.map aF))]) Hr:=
 (jl Tryz.underlying24 (by kernel_rfl) (bV rfl 1 (by kernel_rfl) (ix Tryz.underlying3 (by kernel_rfl)) (bV rfl 1 (by kernel_rfl) (dv aF Tryz.underlying22 (by kernel_rfl) (PB _) (fun _=>⟨rfl,by kernel_rfl,rfl⟩) (by decide)) (mn)))).map (fun p=>(⟨p.1,p.2.1⟩:ah)) (fun x=>(x.Many,x.Grants,())) (fun _=>rfl) (fun _=>rfl) (fun _ h=>⟨h.1,h.2.1⟩)
def BS(x:bC):Prop:=(Lit.int .i64 x.Owner).wf=true∧(x.Names.length≤maxLen∧∀ y∈x.Names,(fun v:Int=>(Lit.int .i64 v).wf=true) y)
theorem I2[bJ](N:Nat):nY Tryz.prog N 134 bC (fun x:bC=>[(.i .i64 x.Owner),(.l 3 (x.Names.map (AV.i .i64)))]) BS:=
 (jl Tryz.underlying134 (by kernel_rfl) (bV rfl 1 (by kernel_rfl) (ix Tryz.underlying3 (by kernel_rfl)) (bV rfl 1 (by kernel_rfl) (dv (AV.i .i64) Tryz.underlying25 (by kernel_rfl) (ix Tryz.underlying3 (by kernel_rfl)) (fun _=>⟨rfl,by kernel_rfl,rfl⟩) (by decide)) (mn)))).map (fun p=>(⟨p.1,p.2.1⟩:bC)) (fun x=>(x.Owner,x.Names,())) (fun _=>rfl) (fun _=>rfl) (fun _ h=>⟨h.1,h.2.1⟩)
def Aw(x:Label):Prop:=(x.Read.length≤maxLen∧∀ y∈x.Read,(BS) y)∧(x.Write.length≤maxLen∧∀ y∈x.Write,(BS) y)
theorem Hs[bJ](N:Nat):nY Tryz.prog N 49 Label (fun x:Label=>[(.l 134 (x.Read.map a7)),(.l 134 (x.Write.map a7))]) Aw:=
 (jl Tryz.underlying49 (by kernel_rfl) (bV rfl 1 (by kernel_rfl) (dv a7 Tryz.underlying47 (by kernel_rfl) (I2 _) (fun _=>⟨rfl,by kernel_rfl,rfl⟩) (by decide)) (bV rfl 1 (by kernel_rfl) (dv a7 Tryz.underlying47 (by kernel_rfl) (I2 _) (fun _=>⟨rfl,by kernel_rfl,rfl⟩) (by decide)) (mn)))).map (fun p=>(⟨p.1,p.2.1⟩:Label)) (fun x=>(x.Read,x.Write,())) (fun _=>rfl) (fun _=>rfl) (fun _ h=>⟨h.1,h.2.1⟩)
def OD(x:Var):Prop:=True∧Aw x.Label
theorem UX[bJ](N:Nat):nY Tryz.prog N 51 Var (fun x:Var=>[(.b x.Known),(.l 134 (x.Label.Read.map a7)),(.l 134 (x.Label.Write.map a7))]) OD:=
 (jl Tryz.underlying51 (by kernel_rfl) (bV rfl 1 (by kernel_rfl) (Ny Tryz.underlying4 (by kernel_rfl)) (bV rfl 2 (by kernel_rfl) (Hs _) (mn)))).map (fun p=>(⟨p.1,p.2.1⟩:Var)) (fun x=>(x.Known,x.Label,())) (fun _=>rfl) (fun _=>rfl) (fun _ h=>⟨h.1,h.2.1⟩)
inductive ky:aE→Prop where
 | mk (x:aE) (h0:(Lit.int .i64 x.Kind).wf=true) (h1:(Lit.int .i64 x.N).wf=true) (h2:x.Args.length≤maxLen) (g2:∀ y∈x.Args,ky y):ky x
theorem ky.inv{x:aE}(h:ky x):((Lit.int .i64 x.Kind).wf=true)∧((Lit.int .i64 x.N).wf=true)∧(x.Args.length≤maxLen∧∀ y∈x.Args,ky y):=by
 cases h with
 | mk _ h0 h1 h2 g2=>exact ⟨h0,h1,⟨h2,g2⟩⟩
theorem PC[bJ]:∀ N M,M≤N→nY Tryz.prog M 86 aE (fun x:aE=>[(.i .i64 x.Kind),(.i .i64 x.N),(.l 86 (x.Args.map aT))]) ky:=by
 intro N
 induction N with
 | zero=>
   intro M hM;obtain rfl:M=0:=by omega
   exact Ho (fun _=>by kernel_rfl) (fun _=>by kernel_rfl)
 | succ N ih=>intro M hM;exact (jl Tryz.underlying86 (by kernel_rfl) (bV rfl 1 (by kernel_rfl) (ix Tryz.underlying3 (by kernel_rfl)) (bV rfl 1 (by kernel_rfl) (ix Tryz.underlying3 (by kernel_rfl)) (bV rfl 1 (by kernel_rfl) (dv aT Tryz.underlying84 (by kernel_rfl) (ih _ (by omega)) (fun _=>by rw [eS];exact ⟨rfl,by kernel_rfl,rfl⟩) (by decide)) (mn))))).map (fun p=>(⟨p.1,p.2.1,p.2.2.1⟩:aE)) (fun x=>(x.Kind,x.N,x.Args,())) (fun _=>rfl) (fun _=>rfl) (fun _ h=>.mk _ h.1 h.2.1 h.2.2.1.1 h.2.2.1.2)
theorem Ht[bJ](N:Nat):nY Tryz.prog N 86 aE (fun x:aE=>[(.i .i64 x.Kind),(.i .i64 x.N),(.l 86 (x.Args.map aT))]) ky:=PC N N (Nat.le_refl _)
inductive nZ:Stmt→Prop where
 | mk (x:Stmt) (h0:(Lit.int .i64 x.Kind).wf=true) (h1:(Lit.int .i64 x.Var).wf=true) (h2:(Lit.int .i64 x.Other).wf=true) (h3:ky x.Expr) (h4:(x.Args.length≤maxLen∧∀ y∈x.Args,(ky) y)) (h5:x.Then.length≤maxLen) (g5:∀ y∈x.Then,nZ y) (h6:x.Else.length≤maxLen) (g6:∀ y∈x.Else,nZ y):nZ x
theorem nZ.inv{x:Stmt}(h:nZ x):((Lit.int .i64 x.Kind).wf=true)∧((Lit.int .i64 x.Var).wf=true)∧((Lit.int .i64 x.Other).wf=true)∧(ky x.Expr)∧((x.Args.length≤maxLen∧∀ y∈x.Args,(ky) y))∧(x.Then.length≤maxLen∧∀ y∈x.Then,nZ y)∧(x.Else.length≤maxLen∧∀ y∈x.Else,nZ y):=by
 cases h with
 | mk _ h0 h1 h2 h3 h4 h5 g5 h6 g6=>exact ⟨h0,h1,h2,h3,h4,⟨h5,g5⟩,⟨h6,g6⟩⟩
theorem PD[bJ]:∀ N M,M≤N→nY Tryz.prog M 88 Stmt (fun x:Stmt=>[(.i .i64 x.Kind),(.i .i64 x.Var),(.i .i64 x.Other),(.i .i64 x.Expr.Kind),(.i .i64 x.Expr.N),(.l 86 (x.Expr.Args.map aT)),(.l 86 (x.Args.map aT)),(.l 88 (x.Then.map aH)),(.l 88 (x.Else.map aH))]) nZ:=by
 intro N
 induction N with
 | zero=>
   intro M hM;obtain rfl:M=0:=by omega
   exact Ho (fun _=>by kernel_rfl) (fun _=>by kernel_rfl)
 | succ N ih=>intro M hM;exact (jl Tryz.underlying88 (by kernel_rfl) (bV rfl 1 (by kernel_rfl) (ix Tryz.underlying3 (by kernel_rfl)) (bV rfl 1 (by kernel_rfl) (ix Tryz.underlying3 (by kernel_rfl)) (bV rfl 1 (by kernel_rfl) (ix Tryz.underlying3 (by kernel_rfl)) (bV rfl 3 (by kernel_rfl) (Ht _) (bV rfl 1 (by kernel_rfl) (dv aT Tryz.underlying84 (by kernel_rfl) (Ht _) (fun _=>by rw [eS];exact ⟨rfl,by kernel_rfl,rfl⟩) (by decide)) (bV rfl 1 (by kernel_rfl) (dv aH Tryz.underlying29 (by kernel_rfl) (ih _ (by omega)) (fun _=>by rw [kY];exact ⟨rfl,by kernel_rfl,rfl⟩) (by decide)) (bV rfl 1 (by kernel_rfl) (dv aH Tryz.underlying29 (by kernel_rfl) (ih _ (by omega)) (fun _=>by rw [kY];exact ⟨rfl,by kernel_rfl,rfl⟩) (by decide)) (mn))))))))).map (fun p=>(⟨p.1,p.2.1,p.2.2.1,p.2.2.2.1,p.2.2.2.2.1,p.2.2.2.2.2.1,p.2.2.2.2.2.2.1⟩:Stmt)) (fun x=>(x.Kind,x.Var,x.Other,x.Expr,x.Args,x.Then,x.Else,())) (fun _=>rfl) (fun _=>rfl) (fun _ h=>.mk _ h.1 h.2.1 h.2.2.1 h.2.2.2.1 h.2.2.2.2.1 h.2.2.2.2.2.1.1 h.2.2.2.2.2.1.2 h.2.2.2.2.2.2.1.1 h.2.2.2.2.2.2.1.2)
theorem Lx[bJ](N:Nat):nY Tryz.prog N 88 Stmt (fun x:Stmt=>[(.i .i64 x.Kind),(.i .i64 x.Var),(.i .i64 x.Other),(.i .i64 x.Expr.Kind),(.i .i64 x.Expr.N),(.l 86 (x.Expr.Args.map aT)),(.l 86 (x.Args.map aT)),(.l 88 (x.Then.map aH)),(.l 88 (x.Else.map aH))]) nZ:=PD N N (Nat.le_refl _)
def Ly(x:Func):Prop:=(x.Params.length≤maxLen∧∀ y∈x.Params,(fun v:Int=>(Lit.int .i64 v).wf=true) y)∧(x.Body.length≤maxLen∧∀ y∈x.Body,(nZ) y)∧ky x.Result
theorem PE[bJ](N:Nat):nY Tryz.prog N 112 Func (fun x:Func=>[(.l 3 (x.Params.map (AV.i .i64))),(.l 88 (x.Body.map aH)),(.i .i64 x.Result.Kind),(.i .i64 x.Result.N),(.l 86 (x.Result.Args.map aT))]) Ly:=
 (jl Tryz.underlying112 (by kernel_rfl) (bV rfl 1 (by kernel_rfl) (dv (AV.i .i64) Tryz.underlying25 (by kernel_rfl) (ix Tryz.underlying3 (by kernel_rfl)) (fun _=>⟨rfl,by kernel_rfl,rfl⟩) (by decide)) (bV rfl 1 (by kernel_rfl) (dv aH Tryz.underlying29 (by kernel_rfl) (Lx _) (fun _=>by rw [kY];exact ⟨rfl,by kernel_rfl,rfl⟩) (by decide)) (bV rfl 3 (by kernel_rfl) (Ht _) (mn))))).map (fun p=>(⟨p.1,p.2.1,p.2.2.1⟩:Func)) (fun x=>(x.Params,x.Body,x.Result,())) (fun _=>rfl) (fun _=>rfl) (fun _ h=>⟨h.1,h.2.1,h.2.2.1⟩)
def E1(x:Program):Prop:=Hr x.ah∧(x.Speak.length≤maxLen∧∀ y∈x.Speak,(fun v:Int=>(Lit.int .i64 v).wf=true) y)∧(x.Ins.length≤maxLen∧∀ y∈x.Ins,(Aw) y)∧(x.Outs.length≤maxLen∧∀ y∈x.Outs,(Aw) y)∧(x.Vars.length≤maxLen∧∀ y∈x.Vars,(OD) y)∧(x.Funcs.length≤maxLen∧∀ y∈x.Funcs,(Ly) y)∧(x.Main.length≤maxLen∧∀ y∈x.Main,(nZ) y)
theorem UY[bJ](N:Nat):nY Tryz.prog N 31 Program (fun x:Program=>[(.i .i64 x.ah.Many),(.l 136 (x.ah.Grants.map aF)),(.l 3 (x.Speak.map (AV.i .i64))),(.l 49 (x.Ins.map au)),(.l 49 (x.Outs.map au)),(.l 51 (x.Vars.map bz)),(.l 112 (x.Funcs.map ba)),(.l 88 (x.Main.map aH))]) E1:=
 (jl Tryz.underlying31 (by kernel_rfl) (bV rfl 2 (by kernel_rfl) (UW _) (bV rfl 1 (by kernel_rfl) (dv (AV.i .i64) Tryz.underlying25 (by kernel_rfl) (ix Tryz.underlying3 (by kernel_rfl)) (fun _=>⟨rfl,by kernel_rfl,rfl⟩) (by decide)) (bV rfl 1 (by kernel_rfl) (dv au Tryz.underlying26 (by kernel_rfl) (Hs _) (fun _=>⟨rfl,by kernel_rfl,rfl⟩) (by decide)) (bV rfl 1 (by kernel_rfl) (dv au Tryz.underlying26 (by kernel_rfl) (Hs _) (fun _=>⟨rfl,by kernel_rfl,rfl⟩) (by decide)) (bV rfl 1 (by kernel_rfl) (dv bz Tryz.underlying27 (by kernel_rfl) (UX _) (fun _=>⟨rfl,by kernel_rfl,rfl⟩) (by decide)) (bV rfl 1 (by kernel_rfl) (dv ba Tryz.underlying28 (by kernel_rfl) (PE _) (fun _=>⟨rfl,by kernel_rfl,rfl⟩) (by decide)) (bV rfl 1 (by kernel_rfl) (dv aH Tryz.underlying29 (by kernel_rfl) (Lx _) (fun _=>by rw [kY];exact ⟨rfl,by kernel_rfl,rfl⟩) (by decide)) (mn))))))))).map (fun p=>(⟨p.1,p.2.1,p.2.2.1,p.2.2.2.1,p.2.2.2.2.1,p.2.2.2.2.2.1,p.2.2.2.2.2.2.1⟩:Program)) (fun x=>(x.ah,x.Speak,x.Ins,x.Outs,x.Vars,x.Funcs,x.Main,())) (fun _=>rfl) (fun _=>rfl) (fun _ h=>⟨h.1,h.2.1,h.2.2.1,h.2.2.2.1,h.2.2.2.2.1,h.2.2.2.2.2.1,h.2.2.2.2.2.2.1⟩)
def mo(ys:List AV):Prop:=∃ (a0:Program)(a1:(List (List Int)))(a2:Int),(E1 a0)∧((a1.length≤maxLen∧∀ y∈a1,(fun v:(List Int)=>(v.length≤maxLen∧∀ y∈v,(fun v:Int=>(Lit.int .i64 v).wf=true) y)) y))∧((Lit.int .i64 a2).wf=true)∧ys=[(.a (ay a0)),(.l 25 (a1.map (bD 3 (AV.i .i64)))),(.i .i64 a2)]
theorem BT(B:bJ):Hq Tryz.prog [31,32,3] mo:=by
 intro H enc W vs ds ps base hb hok h
 obtain ⟨ys,⟨hg,hbk⟩,hl⟩:=(zZ (H9 ny Tryz.underlying31 (fun N=>UY N) (fun _=>rfl)) (zZ (Hp (fun x:(List (List Int))=>(.l 25 (x.map (bD 3 (AV.i .i64))))) (fun _=>(dv (bD 3 (AV.i .i64)) Tryz.underlying32 (by kernel_rfl) (dv (AV.i .i64) Tryz.underlying25 (by kernel_rfl) (ix Tryz.underlying3 (by kernel_rfl)) (fun _=>⟨rfl,by kernel_rfl,rfl⟩) (by decide)) (fun _=>⟨rfl,by kernel_rfl,rfl⟩) (by decide))) (NA Tryz.underlying32)) (zZ (Hp (fun x:Int=>(.i .i64 x)) (fun _=>(ix Tryz.underlying3 (by kernel_rfl))) (UU Tryz.underlying3)) (NB)))) H enc W vs ds ps base hb hok h
 refine ⟨ys,⟨?_,hbk⟩,hl⟩
 obtain ⟨a0,_,v0,⟨a1,_,v1,⟨a2,_,v2,rfl,rfl⟩,rfl⟩,rfl⟩:=hg
 exact ⟨a0,a1,a2,v0,v1,v2,rfl⟩
end Go.Proofs.YtdpjofmmokaobaaGreat.A
