/- How the arguments of the laws are read, by program. -/
import Derived.Test.YtkkkkondjclcnaaGreatFrame
import Derived.Test.YtkkkkondjclcnaaGreatTypes
import Derived.Test.YtkkkkondjclcnaaGreatProg
import Derived.Test.YtkkkkondjclcnaaGreatJBegin
set_option linter.all false
set_option maxRecDepth 100000
namespace Go.Proofs.YtkkkkondjclcnaaGreat.A
open Go Go.Proofs
def Sx(x:dv):Prop:=(Lit.int .i64 x.Who).wf=true∧(Lit.int .i64 x.For).wf=true
theorem aah[bM](N:Nat):ua Tryz.prog N 166 dv (fun x:dv=>[(.i .i64 x.Who),(.i .i64 x.For)]) Sx:=
 (mq Tryz.underlying166 (by kernel_rfl) (cN rfl 1 (by kernel_rfl) (nT Tryz.underlying3 (by kernel_rfl)) (cN rfl 1 (by kernel_rfl) (nT Tryz.underlying3 (by kernel_rfl)) (qz)))).map (fun p=>(⟨p.1,p.2.1⟩:dv)) (fun x=>(x.Who,x.For,())) (fun _=>rfl) (fun _=>rfl) (fun _ h=>⟨h.1,h.2.1⟩)
def Qr(x:ak):Prop:=(Lit.int .i64 x.Many).wf=true∧(x.Grants.length≤maxLen∧∀ y∈x.Grants,(Sx) y)
theorem agF[bM](N:Nat):ua Tryz.prog N 24 ak (fun x:ak=>[(.i .i64 x.Many),(.l 166 (x.Grants.map ct))]) Qr:=
 (mq Tryz.underlying24 (by kernel_rfl) (cN rfl 1 (by kernel_rfl) (nT Tryz.underlying3 (by kernel_rfl)) (cN rfl 1 (by kernel_rfl) (gd ct Tryz.underlying22 (by kernel_rfl) (aah _) (fun _=>⟨rfl,by kernel_rfl,rfl⟩) (by decide)) (qz)))).map (fun p=>(⟨p.1,p.2.1⟩:ak)) (fun x=>(x.Many,x.Grants,())) (fun _=>rfl) (fun _=>rfl) (fun _ h=>⟨h.1,h.2.1⟩)
def Jh(x:bz):Prop:=(Lit.int .i64 x.Owner).wf=true∧(x.Names.length≤maxLen∧∀ y∈x.Names,(fun v:Int=>(Lit.int .i64 v).wf=true) y)
theorem Sy[bM](N:Nat):ua Tryz.prog N 138 bz (fun x:bz=>[(.i .i64 x.Owner),(.l 3 (x.Names.map (AV.i .i64)))]) Jh:=
 (mq Tryz.underlying138 (by kernel_rfl) (cN rfl 1 (by kernel_rfl) (nT Tryz.underlying3 (by kernel_rfl)) (cN rfl 1 (by kernel_rfl) (gd (AV.i .i64) Tryz.underlying25 (by kernel_rfl) (nT Tryz.underlying3 (by kernel_rfl)) (fun _=>⟨rfl,by kernel_rfl,rfl⟩) (by decide)) (qz)))).map (fun p=>(⟨p.1,p.2.1⟩:bz)) (fun x=>(x.Owner,x.Names,())) (fun _=>rfl) (fun _=>rfl) (fun _ h=>⟨h.1,h.2.1⟩)
def Hu(x:Label):Prop:=(x.Read.length≤maxLen∧∀ y∈x.Read,(Jh) y)∧(x.Write.length≤maxLen∧∀ y∈x.Write,(Jh) y)
theorem Qs[bM](N:Nat):ua Tryz.prog N 81 Label (fun x:Label=>[(.l 138 (x.Read.map bj)),(.l 138 (x.Write.map bj))]) Hu:=
 (mq Tryz.underlying81 (by kernel_rfl) (cN rfl 1 (by kernel_rfl) (gd bj Tryz.underlying79 (by kernel_rfl) (Sy _) (fun _=>⟨rfl,by kernel_rfl,rfl⟩) (by decide)) (cN rfl 1 (by kernel_rfl) (gd bj Tryz.underlying79 (by kernel_rfl) (Sy _) (fun _=>⟨rfl,by kernel_rfl,rfl⟩) (by decide)) (qz)))).map (fun p=>(⟨p.1,p.2.1⟩:Label)) (fun x=>(x.Read,x.Write,())) (fun _=>rfl) (fun _=>rfl) (fun _ h=>⟨h.1,h.2.1⟩)
def Y6(x:Var):Prop:=True∧Hu x.Label
theorem agG[bM](N:Nat):ua Tryz.prog N 83 Var (fun x:Var=>[(.b x.Known),(.l 138 (x.Label.Read.map bj)),(.l 138 (x.Label.Write.map bj))]) Y6:=
 (mq Tryz.underlying83 (by kernel_rfl) (cN rfl 1 (by kernel_rfl) (Xn Tryz.underlying4 (by kernel_rfl)) (cN rfl 2 (by kernel_rfl) (Qs _) (qz)))).map (fun p=>(⟨p.1,p.2.1⟩:Var)) (fun x=>(x.Known,x.Label,())) (fun _=>rfl) (fun _=>rfl) (fun _ h=>⟨h.1,h.2.1⟩)
inductive nU:aB→Prop where
 | mk (x:aB) (h0:(Lit.int .i64 x.Kind).wf=true) (h1:(Lit.int .i64 x.N).wf=true) (h2:x.Args.length≤maxLen) (g2:∀ y∈x.Args,nU y):nU x
theorem nU.inv{x:aB}(h:nU x):((Lit.int .i64 x.Kind).wf=true)∧((Lit.int .i64 x.N).wf=true)∧(x.Args.length≤maxLen∧∀ y∈x.Args,nU y):=by
 cases h with
 | mk _ h0 h1 h2 g2=>exact ⟨h0,h1,⟨h2,g2⟩⟩
theorem aai[bM]:∀ N M,M≤N→ua Tryz.prog M 37 aB (fun x:aB=>[(.i .i64 x.Kind),(.i .i64 x.N),(.l 37 (x.Args.map aT))]) nU:=by
 intro N
 induction N with
 | zero=>
   intro M hM;obtain rfl:M=0:=by omega
   exact Qp (fun _=>by kernel_rfl) (fun _=>by kernel_rfl)
 | succ N ih=>intro M hM;exact (mq Tryz.underlying37 (by kernel_rfl) (cN rfl 1 (by kernel_rfl) (nT Tryz.underlying3 (by kernel_rfl)) (cN rfl 1 (by kernel_rfl) (nT Tryz.underlying3 (by kernel_rfl)) (cN rfl 1 (by kernel_rfl) (gd aT Tryz.underlying35 (by kernel_rfl) (ih _ (by omega)) (fun _=>by rw [dj];exact ⟨rfl,by kernel_rfl,rfl⟩) (by decide)) (qz))))).map (fun p=>(⟨p.1,p.2.1,p.2.2.1⟩:aB)) (fun x=>(x.Kind,x.N,x.Args,())) (fun _=>rfl) (fun _=>rfl) (fun _ h=>.mk _ h.1 h.2.1 h.2.2.1.1 h.2.2.1.2)
theorem Qt[bM](N:Nat):ua Tryz.prog N 37 aB (fun x:aB=>[(.i .i64 x.Kind),(.i .i64 x.N),(.l 37 (x.Args.map aT))]) nU:=aai N N (aV _)
inductive sV:Stmt→Prop where
 | mk (x:Stmt) (h0:(Lit.int .i64 x.Kind).wf=true) (h1:(Lit.int .i64 x.Var).wf=true) (h2:(Lit.int .i64 x.Other).wf=true) (h3:nU x.Expr) (h4:(x.Args.length≤maxLen∧∀ y∈x.Args,(nU) y)) (h5:x.Then.length≤maxLen) (g5:∀ y∈x.Then,sV y) (h6:x.Else.length≤maxLen) (g6:∀ y∈x.Else,sV y):sV x
theorem sV.inv{x:Stmt}(h:sV x):((Lit.int .i64 x.Kind).wf=true)∧((Lit.int .i64 x.Var).wf=true)∧((Lit.int .i64 x.Other).wf=true)∧(nU x.Expr)∧((x.Args.length≤maxLen∧∀ y∈x.Args,(nU) y))∧(x.Then.length≤maxLen∧∀ y∈x.Then,sV y)∧(x.Else.length≤maxLen∧∀ y∈x.Else,sV y):=by
 cases h with
 | mk _ h0 h1 h2 h3 h4 h5 g5 h6 g6=>exact ⟨h0,h1,h2,h3,h4,⟨h5,g5⟩,⟨h6,g6⟩⟩
theorem aaj[bM]:∀ N M,M≤N→ua Tryz.prog M 92 Stmt (fun x:Stmt=>[(.i .i64 x.Kind),(.i .i64 x.Var),(.i .i64 x.Other),(.i .i64 x.Expr.Kind),(.i .i64 x.Expr.N),(.l 37 (x.Expr.Args.map aT)),(.l 37 (x.Args.map aT)),(.l 92 (x.Then.map bK)),(.l 92 (x.Else.map bK))]) sV:=by
 intro N
 induction N with
 | zero=>
   intro M hM;obtain rfl:M=0:=by omega
   exact Qp (fun _=>by kernel_rfl) (fun _=>by kernel_rfl)
 | succ N ih=>intro M hM;exact (mq Tryz.underlying92 (by kernel_rfl) (cN rfl 1 (by kernel_rfl) (nT Tryz.underlying3 (by kernel_rfl)) (cN rfl 1 (by kernel_rfl) (nT Tryz.underlying3 (by kernel_rfl)) (cN rfl 1 (by kernel_rfl) (nT Tryz.underlying3 (by kernel_rfl)) (cN rfl 3 (by kernel_rfl) (Qt _) (cN rfl 1 (by kernel_rfl) (gd aT Tryz.underlying35 (by kernel_rfl) (Qt _) (fun _=>by rw [dj];exact ⟨rfl,by kernel_rfl,rfl⟩) (by decide)) (cN rfl 1 (by kernel_rfl) (gd bK Tryz.underlying29 (by kernel_rfl) (ih _ (by omega)) (fun _=>by rw [jm];exact ⟨rfl,by kernel_rfl,rfl⟩) (by decide)) (cN rfl 1 (by kernel_rfl) (gd bK Tryz.underlying29 (by kernel_rfl) (ih _ (by omega)) (fun _=>by rw [jm];exact ⟨rfl,by kernel_rfl,rfl⟩) (by decide)) (qz))))))))).map (fun p=>(⟨p.1,p.2.1,p.2.2.1,p.2.2.2.1,p.2.2.2.2.1,p.2.2.2.2.2.1,p.2.2.2.2.2.2.1⟩:Stmt)) (fun x=>(x.Kind,x.Var,x.Other,x.Expr,x.Args,x.Then,x.Else,())) (fun _=>rfl) (fun _=>rfl) (fun _ h=>.mk _ h.1 h.2.1 h.2.2.1 h.2.2.2.1 h.2.2.2.2.1 h.2.2.2.2.2.1.1 h.2.2.2.2.2.1.2 h.2.2.2.2.2.2.1.1 h.2.2.2.2.2.2.1.2)
theorem V3[bM](N:Nat):ua Tryz.prog N 92 Stmt (fun x:Stmt=>[(.i .i64 x.Kind),(.i .i64 x.Var),(.i .i64 x.Other),(.i .i64 x.Expr.Kind),(.i .i64 x.Expr.N),(.l 37 (x.Expr.Args.map aT)),(.l 37 (x.Args.map aT)),(.l 92 (x.Then.map bK)),(.l 92 (x.Else.map bK))]) sV:=aaj N N (aV _)
def V4(x:Func):Prop:=(x.Params.length≤maxLen∧∀ y∈x.Params,(fun v:Int=>(Lit.int .i64 v).wf=true) y)∧(x.Body.length≤maxLen∧∀ y∈x.Body,(sV) y)∧nU x.Result
theorem aak[bM](N:Nat):ua Tryz.prog N 101 Func (fun x:Func=>[(.l 3 (x.Params.map (AV.i .i64))),(.l 92 (x.Body.map bK)),(.i .i64 x.Result.Kind),(.i .i64 x.Result.N),(.l 37 (x.Result.Args.map aT))]) V4:=
 (mq Tryz.underlying101 (by kernel_rfl) (cN rfl 1 (by kernel_rfl) (gd (AV.i .i64) Tryz.underlying25 (by kernel_rfl) (nT Tryz.underlying3 (by kernel_rfl)) (fun _=>⟨rfl,by kernel_rfl,rfl⟩) (by decide)) (cN rfl 1 (by kernel_rfl) (gd bK Tryz.underlying29 (by kernel_rfl) (V3 _) (fun _=>by rw [jm];exact ⟨rfl,by kernel_rfl,rfl⟩) (by decide)) (cN rfl 3 (by kernel_rfl) (Qt _) (qz))))).map (fun p=>(⟨p.1,p.2.1,p.2.2.1⟩:Func)) (fun x=>(x.Params,x.Body,x.Result,())) (fun _=>rfl) (fun _=>rfl) (fun _ h=>⟨h.1,h.2.1,h.2.2.1⟩)
def Na(x:Program):Prop:=Qr x.ak∧(x.Speak.length≤maxLen∧∀ y∈x.Speak,(fun v:Int=>(Lit.int .i64 v).wf=true) y)∧(x.Ins.length≤maxLen∧∀ y∈x.Ins,(Hu) y)∧(x.Outs.length≤maxLen∧∀ y∈x.Outs,(Hu) y)∧(x.Vars.length≤maxLen∧∀ y∈x.Vars,(Y6) y)∧(x.Funcs.length≤maxLen∧∀ y∈x.Funcs,(V4) y)∧(x.Main.length≤maxLen∧∀ y∈x.Main,(sV) y)
theorem agH[bM](N:Nat):ua Tryz.prog N 31 Program (fun x:Program=>[(.i .i64 x.ak.Many),(.l 166 (x.ak.Grants.map ct)),(.l 3 (x.Speak.map (AV.i .i64))),(.l 81 (x.Ins.map aH)),(.l 81 (x.Outs.map aH)),(.l 83 (x.Vars.map eo)),(.l 101 (x.Funcs.map eO)),(.l 92 (x.Main.map bK))]) Na:=
 (mq Tryz.underlying31 (by kernel_rfl) (cN rfl 2 (by kernel_rfl) (agF _) (cN rfl 1 (by kernel_rfl) (gd (AV.i .i64) Tryz.underlying25 (by kernel_rfl) (nT Tryz.underlying3 (by kernel_rfl)) (fun _=>⟨rfl,by kernel_rfl,rfl⟩) (by decide)) (cN rfl 1 (by kernel_rfl) (gd aH Tryz.underlying26 (by kernel_rfl) (Qs _) (fun _=>⟨rfl,by kernel_rfl,rfl⟩) (by decide)) (cN rfl 1 (by kernel_rfl) (gd aH Tryz.underlying26 (by kernel_rfl) (Qs _) (fun _=>⟨rfl,by kernel_rfl,rfl⟩) (by decide)) (cN rfl 1 (by kernel_rfl) (gd eo Tryz.underlying27 (by kernel_rfl) (agG _) (fun _=>⟨rfl,by kernel_rfl,rfl⟩) (by decide)) (cN rfl 1 (by kernel_rfl) (gd eO Tryz.underlying28 (by kernel_rfl) (aak _) (fun _=>⟨rfl,by kernel_rfl,rfl⟩) (by decide)) (cN rfl 1 (by kernel_rfl) (gd bK Tryz.underlying29 (by kernel_rfl) (V3 _) (fun _=>by rw [jm];exact ⟨rfl,by kernel_rfl,rfl⟩) (by decide)) (qz))))))))).map (fun p=>(⟨p.1,p.2.1,p.2.2.1,p.2.2.2.1,p.2.2.2.2.1,p.2.2.2.2.2.1,p.2.2.2.2.2.2.1⟩:Program)) (fun x=>(x.ak,x.Speak,x.Ins,x.Outs,x.Vars,x.Funcs,x.Main,())) (fun _=>rfl) (fun _=>rfl) (fun _ h=>⟨h.1,h.2.1,h.2.2.1,h.2.2.2.1,h.2.2.2.2.1,h.2.2.2.2.2.1,h.2.2.2.2.2.2.1⟩)
def rP(ys:List AV):Prop:=∃ (a0:Program),(Na a0)∧ys=[(.a (av a0))]
theorem KV(B:bM):Qq Tryz.prog [31] rP:=by
 intro H enc W vs ds ps base hb d h
 obtain ⟨ys,⟨hg,e⟩,hl⟩:=(V2 (Rb sj Tryz.underlying31 (fun N=>agH N) (fun _=>rfl)) (Xo)) H enc W vs ds ps base hb d h
 refine ⟨ys,⟨?_,e⟩,hl⟩
 obtain ⟨a0,_,v0,rfl,rfl⟩:=hg
 exact ⟨a0,v0,rfl⟩
end Go.Proofs.YtkkkkondjclcnaaGreat.A
namespace Go.Proofs.YtkkkkondjclcnaaGreat.A
open Go Go.Proofs Go.ChangeShapes Go.WideShapes Go.ChangeAt Go.RowKit
theorem amT:ownKnob Tryz.prog.godebug=none:=by kernel_rfl
def S5:List TypeId:=[31,24,25,26,27,28,29,3,22,81,83,101,92,166,79,4,37,35,138]
theorem aal(hc:∀ ys,rP ys→call G Ω0 ⟨0,false⟩ 5 ys (fun _=>none)=some (.ret (.b true),fun _=>none))(os:Os)(started:os.Started)(H:Type)(enc:TypeId×Value→H) :
  ReturnsInHanded {} Tryz.checked os 5 .any (Rows.judgeTellsSpec.pre6 enc Tryz.prog Tryz.f5 Rows.judgeTellsRow.domain false) (Rows.judgeTellsSpec.post enc Tryz.prog Tryz.f5 false true false false):=by
 refine returnsInHanded_of_change (C:=Tryz.checked) amT started (by kernel_rfl) Tryz.func5
  (ChangeSpec.witness6 (enc:=enc) (C:=Tryz.checked) false ⟨#[],#[.agg #[.int .i64 0,.slice none 0 0,.slice none 0 0,.slice none 0 0,.slice none 0 0,.slice none 0 0,.slice none 0 0,.slice none 0 0]],[]⟩ 8 (by kernel_rfl) (by kernel_rfl) (by kernel_rfl) (by kernel_rfl)) ?_
 intro W base args ds gs before c hW _ _
 exact Rc (P:=Tryz.prog) (R:=call G Ω0) (fn:=Tryz.f5) (S:=S5) (tb:=4) (Good:=fun _=>rP) (by kernel_rfl) (fun B=>@sound B) rfl (by kernel_rfl) Tryz.underlying4
  (fun ds h=>by
   have hl:ds.length=1:=by rw [h];rw [Tryz.params5];rfl
   match ds,hl with
   | [d0],_=>rfl)
  (by rw [Tryz.params5];exact fun t ht=>by have:=(cJ.1 (show ([31]:List TypeId).all (fun t=>S5.contains t)=true by kernel_rfl)) t ht;simpa using this)
  (by rw [Tryz.params5];exact KV) (fun _=>hc) W base args ds gs before c hW (fun q hq=>by cases hq)
theorem Mg(hc:∀ ys,rP ys→call G Ω0 ⟨0,false⟩ 5 ys (fun _=>none)=some (.ret (.b true),fun _=>none)):Rows.JudgeTellsSaid:=
 OpenClaim.holds_of_wide 5 Tryz.f5 rfl rfl rfl rfl rfl rfl rfl ⟨rfl,rfl,rfl,rfl,rfl⟩ rfl rfl rfl rfl rfl (by kernel_rfl) Tryz.func5 (by kernel_rfl)
  (rW (by kernel_rfl)) (by unfold Func.isWrapper;first | (rw [ab (by decide +kernel)];kernel_rfl) | (rw [aa (by decide +kernel)];exact ⟨rfl,rfl⟩))
  (fun os started H enc _=>aal hc os started H enc)
end Go.Proofs.YtkkkkondjclcnaaGreat.A
