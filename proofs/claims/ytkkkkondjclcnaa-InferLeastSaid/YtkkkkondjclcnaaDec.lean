/- How the arguments of the laws are read, by program. -/
import Derived.Test.YtkkkkondjclcnaaFrame
import Derived.Test.YtkkkkondjclcnaaTypes
import Derived.Test.YtkkkkondjclcnaaProg
set_option maxRecDepth 100000
set_option linter.unusedSectionVars false
set_option linter.unusedVariables false
set_option linter.unusedSimpArgs false
namespace Go.Proofs.Ytkkkkondjclcnaa.A
open Go Go.Proofs
def Fe(x:bu):Prop:=(Lit.int .i64 x.Who).wf=true∧(Lit.int .i64 x.For).wf=true
theorem Nt[aP](N:Nat):kJ Try.prog N 93 bu (fun x:bu=>[(.i .i64 x.Who),(.i .i64 x.For)]) Fe:=
 (eF Try.underlying93 (by kernel_rfl) (aU rfl 1 (by kernel_rfl) (iB Try.underlying3 (by kernel_rfl)) (aU rfl 1 (by kernel_rfl) (iB Try.underlying3 (by kernel_rfl)) (il)))).map (fun p=>(⟨p.1,p.2.1⟩:bu)) (fun x=>(x.Who,x.For,())) (fun _=>rfl) (fun _=>rfl) (fun _ h=>⟨h.1,h.2.1⟩)
def DJ(x:aa):Prop:=(Lit.int .i64 x.Many).wf=true∧(x.Grants.length≤maxLen∧∀ y∈x.Grants,(Fe) y)
theorem Nu[aP](N:Nat):kJ Try.prog N 24 aa (fun x:aa=>[(.i .i64 x.Many),(.l 93 (x.Grants.map ax))]) DJ:=
 (eF Try.underlying24 (by kernel_rfl) (aU rfl 1 (by kernel_rfl) (iB Try.underlying3 (by kernel_rfl)) (aU rfl 1 (by kernel_rfl) (b6 ax Try.underlying22 (by kernel_rfl) (Nt _) (fun _=>⟨rfl,by kernel_rfl,rfl⟩) (by decide)) (il)))).map (fun p=>(⟨p.1,p.2.1⟩:aa)) (fun x=>(x.Many,x.Grants,())) (fun _=>rfl) (fun _=>rfl) (fun _ h=>⟨h.1,h.2.1⟩)
def yg(x:bq):Prop:=(Lit.int .i64 x.Owner).wf=true∧(x.Names.length≤maxLen∧∀ y∈x.Names,(fun v:Int=>(Lit.int .i64 v).wf=true) y)
theorem Hp[aP](N:Nat):kJ Try.prog N 95 bq (fun x:bq=>[(.i .i64 x.Owner),(.l 3 (x.Names.map (AV.i .i64)))]) yg:=
 (eF Try.underlying95 (by kernel_rfl) (aU rfl 1 (by kernel_rfl) (iB Try.underlying3 (by kernel_rfl)) (aU rfl 1 (by kernel_rfl) (b6 (AV.i .i64) Try.underlying25 (by kernel_rfl) (iB Try.underlying3 (by kernel_rfl)) (fun _=>⟨rfl,by kernel_rfl,rfl⟩) (by decide)) (il)))).map (fun p=>(⟨p.1,p.2.1⟩:bq)) (fun x=>(x.Owner,x.Names,())) (fun _=>rfl) (fun _=>rfl) (fun _ h=>⟨h.1,h.2.1⟩)
def wC(x:Label):Prop:=(x.Read.length≤maxLen∧∀ y∈x.Read,(yg) y)∧(x.Write.length≤maxLen∧∀ y∈x.Write,(yg) y)
theorem DK[aP](N:Nat):kJ Try.prog N 60 Label (fun x:Label=>[(.l 95 (x.Read.map aK)),(.l 95 (x.Write.map aK))]) wC:=
 (eF Try.underlying60 (by kernel_rfl) (aU rfl 1 (by kernel_rfl) (b6 aK Try.underlying58 (by kernel_rfl) (Hp _) (fun _=>⟨rfl,by kernel_rfl,rfl⟩) (by decide)) (aU rfl 1 (by kernel_rfl) (b6 aK Try.underlying58 (by kernel_rfl) (Hp _) (fun _=>⟨rfl,by kernel_rfl,rfl⟩) (by decide)) (il)))).map (fun p=>(⟨p.1,p.2.1⟩:Label)) (fun x=>(x.Read,x.Write,())) (fun _=>rfl) (fun _=>rfl) (fun _ h=>⟨h.1,h.2.1⟩)
def JR(x:Var):Prop:=True∧wC x.Label
theorem Nv[aP](N:Nat):kJ Try.prog N 67 Var (fun x:Var=>[(.b x.Known),(.l 95 (x.Label.Read.map aK)),(.l 95 (x.Label.Write.map aK))]) JR:=
 (eF Try.underlying67 (by kernel_rfl) (aU rfl 1 (by kernel_rfl) (yf Try.underlying4 (by kernel_rfl)) (aU rfl 2 (by kernel_rfl) (DK _) (il)))).map (fun p=>(⟨p.1,p.2.1⟩:Var)) (fun x=>(x.Known,x.Label,())) (fun _=>rfl) (fun _=>rfl) (fun _ h=>⟨h.1,h.2.1⟩)
inductive iC:aw→Prop where
 | mk (x:aw) (h0:(Lit.int .i64 x.Kind).wf=true) (h1:(Lit.int .i64 x.N).wf=true) (h2:x.Args.length≤maxLen) (g2:∀ y∈x.Args,iC y):iC x
theorem iC.inv{x:aw}(h:iC x):((Lit.int .i64 x.Kind).wf=true)∧((Lit.int .i64 x.N).wf=true)∧(x.Args.length≤maxLen∧∀ y∈x.Args,iC y):=by
 cases h with
 | mk _ h0 h1 h2 g2=>exact ⟨h0,h1,⟨h2,g2⟩⟩
theorem KJ[aP]:∀ N M,M≤N→kJ Try.prog M 53 aw (fun x:aw=>[(.i .i64 x.Kind),(.i .i64 x.N),(.l 53 (x.Args.map aG))]) iC:=by
 intro N
 induction N with
 | zero=>
   intro M hM;obtain rfl:M=0:=by omega
   exact DH (fun _=>by kernel_rfl) (fun _=>by kernel_rfl)
 | succ N ih=>intro M hM;exact (eF Try.underlying53 (by kernel_rfl) (aU rfl 1 (by kernel_rfl) (iB Try.underlying3 (by kernel_rfl)) (aU rfl 1 (by kernel_rfl) (iB Try.underlying3 (by kernel_rfl)) (aU rfl 1 (by kernel_rfl) (b6 aG Try.underlying51 (by kernel_rfl) (ih _ (by omega)) (fun _=>by rw [iJ];exact ⟨rfl,by kernel_rfl,rfl⟩) (by decide)) (il))))).map (fun p=>(⟨p.1,p.2.1,p.2.2.1⟩:aw)) (fun x=>(x.Kind,x.N,x.Args,())) (fun _=>rfl) (fun _=>rfl) (fun _ h=>.mk _ h.1 h.2.1 h.2.2.1.1 h.2.2.1.2)
theorem DL[aP](N:Nat):kJ Try.prog N 53 aw (fun x:aw=>[(.i .i64 x.Kind),(.i .i64 x.N),(.l 53 (x.Args.map aG))]) iC:=KJ N N (Nat.le_refl _)
inductive lN:Stmt→Prop where
 | mk (x:Stmt) (h0:(Lit.int .i64 x.Kind).wf=true) (h1:(Lit.int .i64 x.Var).wf=true) (h2:(Lit.int .i64 x.Other).wf=true) (h3:iC x.Expr) (h4:(x.Args.length≤maxLen∧∀ y∈x.Args,(iC) y)) (h5:x.Then.length≤maxLen) (g5:∀ y∈x.Then,lN y) (h6:x.Else.length≤maxLen) (g6:∀ y∈x.Else,lN y):lN x
theorem lN.inv{x:Stmt}(h:lN x):((Lit.int .i64 x.Kind).wf=true)∧((Lit.int .i64 x.Var).wf=true)∧((Lit.int .i64 x.Other).wf=true)∧(iC x.Expr)∧((x.Args.length≤maxLen∧∀ y∈x.Args,(iC) y))∧(x.Then.length≤maxLen∧∀ y∈x.Then,lN y)∧(x.Else.length≤maxLen∧∀ y∈x.Else,lN y):=by
 cases h with
 | mk _ h0 h1 h2 h3 h4 h5 g5 h6 g6=>exact ⟨h0,h1,h2,h3,h4,⟨h5,g5⟩,⟨h6,g6⟩⟩
theorem KK[aP]:∀ N M,M≤N→kJ Try.prog M 74 Stmt (fun x:Stmt=>[(.i .i64 x.Kind),(.i .i64 x.Var),(.i .i64 x.Other),(.i .i64 x.Expr.Kind),(.i .i64 x.Expr.N),(.l 53 (x.Expr.Args.map aG)),(.l 53 (x.Args.map aG)),(.l 74 (x.Then.map aI)),(.l 74 (x.Else.map aI))]) lN:=by
 intro N
 induction N with
 | zero=>
   intro M hM;obtain rfl:M=0:=by omega
   exact DH (fun _=>by kernel_rfl) (fun _=>by kernel_rfl)
 | succ N ih=>intro M hM;exact (eF Try.underlying74 (by kernel_rfl) (aU rfl 1 (by kernel_rfl) (iB Try.underlying3 (by kernel_rfl)) (aU rfl 1 (by kernel_rfl) (iB Try.underlying3 (by kernel_rfl)) (aU rfl 1 (by kernel_rfl) (iB Try.underlying3 (by kernel_rfl)) (aU rfl 3 (by kernel_rfl) (DL _) (aU rfl 1 (by kernel_rfl) (b6 aG Try.underlying51 (by kernel_rfl) (DL _) (fun _=>by rw [iJ];exact ⟨rfl,by kernel_rfl,rfl⟩) (by decide)) (aU rfl 1 (by kernel_rfl) (b6 aI Try.underlying29 (by kernel_rfl) (ih _ (by omega)) (fun _=>by rw [jH];exact ⟨rfl,by kernel_rfl,rfl⟩) (by decide)) (aU rfl 1 (by kernel_rfl) (b6 aI Try.underlying29 (by kernel_rfl) (ih _ (by omega)) (fun _=>by rw [jH];exact ⟨rfl,by kernel_rfl,rfl⟩) (by decide)) (il))))))))).map (fun p=>(⟨p.1,p.2.1,p.2.2.1,p.2.2.2.1,p.2.2.2.2.1,p.2.2.2.2.2.1,p.2.2.2.2.2.2.1⟩:Stmt)) (fun x=>(x.Kind,x.Var,x.Other,x.Expr,x.Args,x.Then,x.Else,())) (fun _=>rfl) (fun _=>rfl) (fun _ h=>.mk _ h.1 h.2.1 h.2.2.1 h.2.2.2.1 h.2.2.2.2.1 h.2.2.2.2.2.1.1 h.2.2.2.2.2.1.2 h.2.2.2.2.2.2.1.1 h.2.2.2.2.2.2.1.2)
theorem Hq[aP](N:Nat):kJ Try.prog N 74 Stmt (fun x:Stmt=>[(.i .i64 x.Kind),(.i .i64 x.Var),(.i .i64 x.Other),(.i .i64 x.Expr.Kind),(.i .i64 x.Expr.N),(.l 53 (x.Expr.Args.map aG)),(.l 53 (x.Args.map aG)),(.l 74 (x.Then.map aI)),(.l 74 (x.Else.map aI))]) lN:=KK N N (Nat.le_refl _)
def Hr(x:Func):Prop:=(x.Params.length≤maxLen∧∀ y∈x.Params,(fun v:Int=>(Lit.int .i64 v).wf=true) y)∧(x.Body.length≤maxLen∧∀ y∈x.Body,(lN) y)∧iC x.Result
theorem Nw[aP](N:Nat):kJ Try.prog N 85 Func (fun x:Func=>[(.l 3 (x.Params.map (AV.i .i64))),(.l 74 (x.Body.map aI)),(.i .i64 x.Result.Kind),(.i .i64 x.Result.N),(.l 53 (x.Result.Args.map aG))]) Hr:=
 (eF Try.underlying85 (by kernel_rfl) (aU rfl 1 (by kernel_rfl) (b6 (AV.i .i64) Try.underlying25 (by kernel_rfl) (iB Try.underlying3 (by kernel_rfl)) (fun _=>⟨rfl,by kernel_rfl,rfl⟩) (by decide)) (aU rfl 1 (by kernel_rfl) (b6 aI Try.underlying29 (by kernel_rfl) (Hq _) (fun _=>by rw [jH];exact ⟨rfl,by kernel_rfl,rfl⟩) (by decide)) (aU rfl 3 (by kernel_rfl) (DL _) (il))))).map (fun p=>(⟨p.1,p.2.1,p.2.2.1⟩:Func)) (fun x=>(x.Params,x.Body,x.Result,())) (fun _=>rfl) (fun _=>rfl) (fun _ h=>⟨h.1,h.2.1,h.2.2.1⟩)
def Br(x:Program):Prop:=DJ x.aa∧(x.Speak.length≤maxLen∧∀ y∈x.Speak,(fun v:Int=>(Lit.int .i64 v).wf=true) y)∧(x.Ins.length≤maxLen∧∀ y∈x.Ins,(wC) y)∧(x.Outs.length≤maxLen∧∀ y∈x.Outs,(wC) y)∧(x.Vars.length≤maxLen∧∀ y∈x.Vars,(JR) y)∧(x.Funcs.length≤maxLen∧∀ y∈x.Funcs,(Hr) y)∧(x.Main.length≤maxLen∧∀ y∈x.Main,(lN) y)
theorem Nx[aP](N:Nat):kJ Try.prog N 31 Program (fun x:Program=>[(.i .i64 x.aa.Many),(.l 93 (x.aa.Grants.map ax)),(.l 3 (x.Speak.map (AV.i .i64))),(.l 60 (x.Ins.map ar)),(.l 60 (x.Outs.map ar)),(.l 67 (x.Vars.map bB)),(.l 85 (x.Funcs.map bC)),(.l 74 (x.Main.map aI))]) Br:=
 (eF Try.underlying31 (by kernel_rfl) (aU rfl 2 (by kernel_rfl) (Nu _) (aU rfl 1 (by kernel_rfl) (b6 (AV.i .i64) Try.underlying25 (by kernel_rfl) (iB Try.underlying3 (by kernel_rfl)) (fun _=>⟨rfl,by kernel_rfl,rfl⟩) (by decide)) (aU rfl 1 (by kernel_rfl) (b6 ar Try.underlying26 (by kernel_rfl) (DK _) (fun _=>⟨rfl,by kernel_rfl,rfl⟩) (by decide)) (aU rfl 1 (by kernel_rfl) (b6 ar Try.underlying26 (by kernel_rfl) (DK _) (fun _=>⟨rfl,by kernel_rfl,rfl⟩) (by decide)) (aU rfl 1 (by kernel_rfl) (b6 bB Try.underlying27 (by kernel_rfl) (Nv _) (fun _=>⟨rfl,by kernel_rfl,rfl⟩) (by decide)) (aU rfl 1 (by kernel_rfl) (b6 bC Try.underlying28 (by kernel_rfl) (Nw _) (fun _=>⟨rfl,by kernel_rfl,rfl⟩) (by decide)) (aU rfl 1 (by kernel_rfl) (b6 aI Try.underlying29 (by kernel_rfl) (Hq _) (fun _=>by rw [jH];exact ⟨rfl,by kernel_rfl,rfl⟩) (by decide)) (il))))))))).map (fun p=>(⟨p.1,p.2.1,p.2.2.1,p.2.2.2.1,p.2.2.2.2.1,p.2.2.2.2.2.1,p.2.2.2.2.2.2.1⟩:Program)) (fun x=>(x.aa,x.Speak,x.Ins,x.Outs,x.Vars,x.Funcs,x.Main,())) (fun _=>rfl) (fun _=>rfl) (fun _ h=>⟨h.1,h.2.1,h.2.2.1,h.2.2.2.1,h.2.2.2.2.1,h.2.2.2.2.2.1,h.2.2.2.2.2.2.1⟩)
def AM(x:Level):Prop:=(x.Readers.length≤maxLen∧∀ y∈x.Readers,(fun v:Bool=>True) y)∧(x.Writers.length≤maxLen∧∀ y∈x.Writers,(fun v:Bool=>True) y)
theorem Hs[aP](N:Nat):kJ Try.prog N 44 Level (fun x:Level=>[(.l 4 (x.Readers.map AV.b)),(.l 4 (x.Writers.map AV.b))]) AM:=
 (eF Try.underlying44 (by kernel_rfl) (aU rfl 1 (by kernel_rfl) (b6 AV.b Try.underlying42 (by kernel_rfl) (yf Try.underlying4 (by kernel_rfl)) (fun _=>⟨rfl,by kernel_rfl,rfl⟩) (by decide)) (aU rfl 1 (by kernel_rfl) (b6 AV.b Try.underlying42 (by kernel_rfl) (yf Try.underlying4 (by kernel_rfl)) (fun _=>⟨rfl,by kernel_rfl,rfl⟩) (by decide)) (il)))).map (fun p=>(⟨p.1,p.2.1⟩:Level)) (fun x=>(x.Readers,x.Writers,())) (fun _=>rfl) (fun _=>rfl) (fun _ h=>⟨h.1,h.2.1⟩)
def DM(x:aT):Prop:=(x.Vars.length≤maxLen∧∀ y∈x.Vars,(AM) y)∧(x.Funcs.length≤maxLen∧∀ y∈x.Funcs,(AM) y)
theorem Ny[aP](N:Nat):kJ Try.prog N 34 aT (fun x:aT=>[(.l 44 (x.Vars.map ah)),(.l 44 (x.Funcs.map ah))]) DM:=
 (eF Try.underlying34 (by kernel_rfl) (aU rfl 1 (by kernel_rfl) (b6 ah Try.underlying32 (by kernel_rfl) (Hs _) (fun _=>⟨rfl,by kernel_rfl,rfl⟩) (by decide)) (aU rfl 1 (by kernel_rfl) (b6 ah Try.underlying32 (by kernel_rfl) (Hs _) (fun _=>⟨rfl,by kernel_rfl,rfl⟩) (by decide)) (il)))).map (fun p=>(⟨p.1,p.2.1⟩:aT)) (fun x=>(x.Vars,x.Funcs,())) (fun _=>rfl) (fun _=>rfl) (fun _ h=>⟨h.1,h.2.1⟩)
def kK(ys:List AV):Prop:=∃ (a0:Program)(a1:aT),(Br a0)∧(DM a1)∧ys=[(.a (an a0)),(.a [(.l 44 (a1.Vars.map ah)),(.l 44 (a1.Funcs.map ah))])]
theorem zA(B:aP):DI Try.prog [31,34] kK:=by
 intro H enc W vs ds ps base hb hok h
 obtain ⟨ys,⟨hg,hbk⟩,hl⟩:=(Bq (xf k4 Try.underlying31 (fun N=>Nx N) (fun _=>rfl)) (Bq (xf zN Try.underlying34 (fun N=>Ny N) (fun _=>rfl)) (IB))) H enc W vs ds ps base hb hok h
 refine ⟨ys,⟨?_,hbk⟩,hl⟩
 obtain ⟨a0,_,v0,⟨a1,_,v1,rfl,rfl⟩,rfl⟩:=hg
 exact ⟨a0,a1,v0,v1,rfl⟩
end Go.Proofs.Ytkkkkondjclcnaa.A
