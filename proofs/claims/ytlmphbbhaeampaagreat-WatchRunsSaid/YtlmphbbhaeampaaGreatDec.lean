/- How the arguments of the laws are read, by program. -/
import Derived.Test.YtlmphbbhaeampaaGreatFrame
import Derived.Test.YtlmphbbhaeampaaGreatTypes
import Derived.Test.YtlmphbbhaeampaaGreatProg
import Derived.Test.YtlmphbbhaeampaaGreatTab
set_option linter.all false
set_option maxRecDepth 100000
namespace Go.Proofs.YtlmphbbhaeampaaGreat.A
open Go Go.Proofs
def S4(x:dO):Prop:=(Lit.int .i64 x.Who).wf=true∧(Lit.int .i64 x.For).wf=true
theorem aix[cN](N:Nat):sT Tryz.prog N 79 dO (fun x:dO=>[(.i .i64 x.Who),(.i .i64 x.For)]) S4:=
 (mO Tryz.underlying79 (by kernel_rfl) (dq rfl 1 (by kernel_rfl) (lT Tryz.underlying3 (by kernel_rfl)) (dq rfl 1 (by kernel_rfl) (lT Tryz.underlying3 (by kernel_rfl)) (qG)))).map (fun p=>(⟨p.1,p.2.1⟩:dO)) (fun x=>(x.Who,x.For,())) (fun _=>rfl) (fun _=>rfl) (fun _ h=>⟨h.1,h.2.1⟩)
def Ra(x:ak):Prop:=(Lit.int .i64 x.Many).wf=true∧(x.Grants.length≤maxLen∧∀ y∈x.Grants,(S4) y)
theorem aiy[cN](N:Nat):sT Tryz.prog N 24 ak (fun x:ak=>[(.i .i64 x.Many),(.l 79 (x.Grants.map bT))]) Ra:=
 (mO Tryz.underlying24 (by kernel_rfl) (dq rfl 1 (by kernel_rfl) (lT Tryz.underlying3 (by kernel_rfl)) (dq rfl 1 (by kernel_rfl) (fe bT Tryz.underlying22 (by kernel_rfl) (aix _) (fun _=>⟨rfl,by kernel_rfl,rfl⟩) (by decide)) (qG)))).map (fun p=>(⟨p.1,p.2.1⟩:ak)) (fun x=>(x.Many,x.Grants,())) (fun _=>rfl) (fun _=>rfl) (fun _ h=>⟨h.1,h.2.1⟩)
def J5(x:cp):Prop:=(Lit.int .i64 x.Owner).wf=true∧(x.Names.length≤maxLen∧∀ y∈x.Names,(fun v:Int=>(Lit.int .i64 v).wf=true) y)
theorem S6[cN](N:Nat):sT Tryz.prog N 155 cp (fun x:cp=>[(.i .i64 x.Owner),(.l 3 (x.Names.map (AV.i .i64)))]) J5:=
 (mO Tryz.underlying155 (by kernel_rfl) (dq rfl 1 (by kernel_rfl) (lT Tryz.underlying3 (by kernel_rfl)) (dq rfl 1 (by kernel_rfl) (fe (AV.i .i64) Tryz.underlying25 (by kernel_rfl) (lT Tryz.underlying3 (by kernel_rfl)) (fun _=>⟨rfl,by kernel_rfl,rfl⟩) (by decide)) (qG)))).map (fun p=>(⟨p.1,p.2.1⟩:cp)) (fun x=>(x.Owner,x.Names,())) (fun _=>rfl) (fun _=>rfl) (fun _ h=>⟨h.1,h.2.1⟩)
def H7(x:Label):Prop:=(x.Read.length≤maxLen∧∀ y∈x.Read,(J5) y)∧(x.Write.length≤maxLen∧∀ y∈x.Write,(J5) y)
theorem Rb[cN](N:Nat):sT Tryz.prog N 83 Label (fun x:Label=>[(.l 155 (x.Read.map bV)),(.l 155 (x.Write.map bV))]) H7:=
 (mO Tryz.underlying83 (by kernel_rfl) (dq rfl 1 (by kernel_rfl) (fe bV Tryz.underlying81 (by kernel_rfl) (S6 _) (fun _=>⟨rfl,by kernel_rfl,rfl⟩) (by decide)) (dq rfl 1 (by kernel_rfl) (fe bV Tryz.underlying81 (by kernel_rfl) (S6 _) (fun _=>⟨rfl,by kernel_rfl,rfl⟩) (by decide)) (qG)))).map (fun p=>(⟨p.1,p.2.1⟩:Label)) (fun x=>(x.Read,x.Write,())) (fun _=>rfl) (fun _=>rfl) (fun _ h=>⟨h.1,h.2.1⟩)
def Zy(x:Var):Prop:=True∧H7 x.Label
theorem aiz[cN](N:Nat):sT Tryz.prog N 86 Var (fun x:Var=>[(.b x.Known),(.l 155 (x.Label.Read.map bV)),(.l 155 (x.Label.Write.map bV))]) Zy:=
 (mO Tryz.underlying86 (by kernel_rfl) (dq rfl 1 (by kernel_rfl) (XY Tryz.underlying4 (by kernel_rfl)) (dq rfl 2 (by kernel_rfl) (Rb _) (qG)))).map (fun p=>(⟨p.1,p.2.1⟩:Var)) (fun x=>(x.Known,x.Label,())) (fun _=>rfl) (fun _=>rfl) (fun _ h=>⟨h.1,h.2.1⟩)
inductive yE:ay→Prop where
 | mk (x:ay) (h0:(Lit.int .i64 x.Kind).wf=true) (h1:(Lit.int .i64 x.N).wf=true) (h2:x.Args.length≤maxLen) (g2:∀ y∈x.Args,yE y):yE x
theorem aay[cN]:∀ N M,M≤N→sT Tryz.prog M 89 ay (fun x:ay=>[(.i .i64 x.Kind),(.i .i64 x.N),(.l 89 (x.Args.map bw))]) yE:=by
 intro N
 induction N with
 | zero=>
   intro M hM;obtain rfl:M=0:=by omega
   exact Q7 (fun _=>by kernel_rfl) (fun _=>by kernel_rfl)
 | succ N ih=>intro M hM;exact (mO Tryz.underlying89 (by kernel_rfl) (dq rfl 1 (by kernel_rfl) (lT Tryz.underlying3 (by kernel_rfl)) (dq rfl 1 (by kernel_rfl) (lT Tryz.underlying3 (by kernel_rfl)) (dq rfl 1 (by kernel_rfl) (fe bw Tryz.underlying87 (by kernel_rfl) (ih _ (by omega)) (fun _=>by rw [di];exact ⟨rfl,by kernel_rfl,rfl⟩) (by decide)) (qG))))).map (fun p=>(⟨p.1,p.2.1,p.2.2.1⟩:ay)) (fun x=>(x.Kind,x.N,x.Args,())) (fun _=>rfl) (fun _=>rfl) (fun _ h=>.mk _ h.1 h.2.1 h.2.2.1.1 h.2.2.1.2)
theorem Rc[cN](N:Nat):sT Tryz.prog N 89 ay (fun x:ay=>[(.i .i64 x.Kind),(.i .i64 x.N),(.l 89 (x.Args.map bw))]) yE:=aay N N (bG _)
inductive BO:Stmt→Prop where
 | mk (x:Stmt) (h0:(Lit.int .i64 x.Kind).wf=true) (h1:(Lit.int .i64 x.Var).wf=true) (h2:(Lit.int .i64 x.Other).wf=true) (h3:yE x.Expr) (h4:(x.Args.length≤maxLen∧∀ y∈x.Args,(yE) y)) (h5:x.Then.length≤maxLen) (g5:∀ y∈x.Then,BO y) (h6:x.Else.length≤maxLen) (g6:∀ y∈x.Else,BO y):BO x
theorem X2[cN]:∀ N M,M≤N→sT Tryz.prog M 111 Stmt (fun x:Stmt=>[(.i .i64 x.Kind),(.i .i64 x.Var),(.i .i64 x.Other),(.i .i64 x.Expr.Kind),(.i .i64 x.Expr.N),(.l 89 (x.Expr.Args.map bw)),(.l 89 (x.Args.map bw)),(.l 111 (x.Then.map bK)),(.l 111 (x.Else.map bK))]) BO:=by
 intro N
 induction N with
 | zero=>
   intro M hM;obtain rfl:M=0:=by omega
   exact Q7 (fun _=>by kernel_rfl) (fun _=>by kernel_rfl)
 | succ N ih=>intro M hM;exact (mO Tryz.underlying111 (by kernel_rfl) (dq rfl 1 (by kernel_rfl) (lT Tryz.underlying3 (by kernel_rfl)) (dq rfl 1 (by kernel_rfl) (lT Tryz.underlying3 (by kernel_rfl)) (dq rfl 1 (by kernel_rfl) (lT Tryz.underlying3 (by kernel_rfl)) (dq rfl 3 (by kernel_rfl) (Rc _) (dq rfl 1 (by kernel_rfl) (fe bw Tryz.underlying87 (by kernel_rfl) (Rc _) (fun _=>by rw [di];exact ⟨rfl,by kernel_rfl,rfl⟩) (by decide)) (dq rfl 1 (by kernel_rfl) (fe bK Tryz.underlying29 (by kernel_rfl) (ih _ (by omega)) (fun _=>by rw [gE];exact ⟨rfl,by kernel_rfl,rfl⟩) (by decide)) (dq rfl 1 (by kernel_rfl) (fe bK Tryz.underlying29 (by kernel_rfl) (ih _ (by omega)) (fun _=>by rw [gE];exact ⟨rfl,by kernel_rfl,rfl⟩) (by decide)) (qG))))))))).map (fun p=>(⟨p.1,p.2.1,p.2.2.1,p.2.2.2.1,p.2.2.2.2.1,p.2.2.2.2.2.1,p.2.2.2.2.2.2.1⟩:Stmt)) (fun x=>(x.Kind,x.Var,x.Other,x.Expr,x.Args,x.Then,x.Else,())) (fun _=>rfl) (fun _=>rfl) (fun _ h=>.mk _ h.1 h.2.1 h.2.2.1 h.2.2.2.1 h.2.2.2.2.1 h.2.2.2.2.2.1.1 h.2.2.2.2.2.1.2 h.2.2.2.2.2.2.1.1 h.2.2.2.2.2.2.1.2)
theorem S7[cN](N:Nat):sT Tryz.prog N 111 Stmt (fun x:Stmt=>[(.i .i64 x.Kind),(.i .i64 x.Var),(.i .i64 x.Other),(.i .i64 x.Expr.Kind),(.i .i64 x.Expr.N),(.l 89 (x.Expr.Args.map bw)),(.l 89 (x.Args.map bw)),(.l 111 (x.Then.map bK)),(.l 111 (x.Else.map bK))]) BO:=X2 N N (bG _)
def WG(x:Func):Prop:=(x.Params.length≤maxLen∧∀ y∈x.Params,(fun v:Int=>(Lit.int .i64 v).wf=true) y)∧(x.Body.length≤maxLen∧∀ y∈x.Body,(BO) y)∧yE x.Result
theorem aiA[cN](N:Nat):sT Tryz.prog N 91 Func (fun x:Func=>[(.l 3 (x.Params.map (AV.i .i64))),(.l 111 (x.Body.map bK)),(.i .i64 x.Result.Kind),(.i .i64 x.Result.N),(.l 89 (x.Result.Args.map bw))]) WG:=
 (mO Tryz.underlying91 (by kernel_rfl) (dq rfl 1 (by kernel_rfl) (fe (AV.i .i64) Tryz.underlying25 (by kernel_rfl) (lT Tryz.underlying3 (by kernel_rfl)) (fun _=>⟨rfl,by kernel_rfl,rfl⟩) (by decide)) (dq rfl 1 (by kernel_rfl) (fe bK Tryz.underlying29 (by kernel_rfl) (S7 _) (fun _=>by rw [gE];exact ⟨rfl,by kernel_rfl,rfl⟩) (by decide)) (dq rfl 3 (by kernel_rfl) (Rc _) (qG))))).map (fun p=>(⟨p.1,p.2.1,p.2.2.1⟩:Func)) (fun x=>(x.Params,x.Body,x.Result,())) (fun _=>rfl) (fun _=>rfl) (fun _ h=>⟨h.1,h.2.1,h.2.2.1⟩)
def N4(x:Program):Prop:=Ra x.ak∧(x.Speak.length≤maxLen∧∀ y∈x.Speak,(fun v:Int=>(Lit.int .i64 v).wf=true) y)∧(x.Ins.length≤maxLen∧∀ y∈x.Ins,(H7) y)∧(x.Outs.length≤maxLen∧∀ y∈x.Outs,(H7) y)∧(x.Vars.length≤maxLen∧∀ y∈x.Vars,(Zy) y)∧(x.Funcs.length≤maxLen∧∀ y∈x.Funcs,(WG) y)∧(x.Main.length≤maxLen∧∀ y∈x.Main,(BO) y)
theorem aiB[cN](N:Nat):sT Tryz.prog N 31 Program (fun x:Program=>[(.i .i64 x.ak.Many),(.l 79 (x.ak.Grants.map bT)),(.l 3 (x.Speak.map (AV.i .i64))),(.l 83 (x.Ins.map aT)),(.l 83 (x.Outs.map aT)),(.l 86 (x.Vars.map dk)),(.l 91 (x.Funcs.map cS)),(.l 111 (x.Main.map bK))]) N4:=
 (mO Tryz.underlying31 (by kernel_rfl) (dq rfl 2 (by kernel_rfl) (aiy _) (dq rfl 1 (by kernel_rfl) (fe (AV.i .i64) Tryz.underlying25 (by kernel_rfl) (lT Tryz.underlying3 (by kernel_rfl)) (fun _=>⟨rfl,by kernel_rfl,rfl⟩) (by decide)) (dq rfl 1 (by kernel_rfl) (fe aT Tryz.underlying26 (by kernel_rfl) (Rb _) (fun _=>⟨rfl,by kernel_rfl,rfl⟩) (by decide)) (dq rfl 1 (by kernel_rfl) (fe aT Tryz.underlying26 (by kernel_rfl) (Rb _) (fun _=>⟨rfl,by kernel_rfl,rfl⟩) (by decide)) (dq rfl 1 (by kernel_rfl) (fe dk Tryz.underlying27 (by kernel_rfl) (aiz _) (fun _=>⟨rfl,by kernel_rfl,rfl⟩) (by decide)) (dq rfl 1 (by kernel_rfl) (fe cS Tryz.underlying28 (by kernel_rfl) (aiA _) (fun _=>⟨rfl,by kernel_rfl,rfl⟩) (by decide)) (dq rfl 1 (by kernel_rfl) (fe bK Tryz.underlying29 (by kernel_rfl) (S7 _) (fun _=>by rw [gE];exact ⟨rfl,by kernel_rfl,rfl⟩) (by decide)) (qG))))))))).map (fun p=>(⟨p.1,p.2.1,p.2.2.1,p.2.2.2.1,p.2.2.2.2.1,p.2.2.2.2.2.1,p.2.2.2.2.2.2.1⟩:Program)) (fun x=>(x.ak,x.Speak,x.Ins,x.Outs,x.Vars,x.Funcs,x.Main,())) (fun _=>rfl) (fun _=>rfl) (fun _ h=>⟨h.1,h.2.1,h.2.2.1,h.2.2.2.1,h.2.2.2.2.1,h.2.2.2.2.2.1,h.2.2.2.2.2.2.1⟩)
def tV(ys:List AV):Prop:=∃ (a0:Program)(a1:(List (List Int)))(a2:Int),(N4 a0)∧((a1.length≤maxLen∧∀ y∈a1,(fun v:(List Int)=>(v.length≤maxLen∧∀ y∈v,(fun v:Int=>(Lit.int .i64 v).wf=true) y)) y))∧((Lit.int .i64 a2).wf=true)∧ys=[(.a (aL a0)),(.l 25 (a1.map (db 3 (AV.i .i64)))),(.i .i64 a2)]
theorem Np(B:cN):Q9 Tryz.prog [31,46,3] tV:=by
 intro H enc W vs ds ps base hb d h
 obtain ⟨ys,⟨hg,e⟩,hl⟩:=(HG (R2 sn Tryz.underlying31 (fun N=>aiB N) (fun _=>rfl)) (HG (Q8 (fun x:(List (List Int))=>(.l 25 (x.map (db 3 (AV.i .i64))))) (fun _=>(fe (db 3 (AV.i .i64)) Tryz.underlying46 (by kernel_rfl) (fe (AV.i .i64) Tryz.underlying25 (by kernel_rfl) (lT Tryz.underlying3 (by kernel_rfl)) (fun _=>⟨rfl,by kernel_rfl,rfl⟩) (by decide)) (fun _=>⟨rfl,by kernel_rfl,rfl⟩) (by decide))) (X0 Tryz.underlying46)) (HG (Q8 (fun x:Int=>(.i .i64 x)) (fun _=>(lT Tryz.underlying3 (by kernel_rfl))) (aiw Tryz.underlying3)) (X1)))) H enc W vs ds ps base hb d h
 refine ⟨ys,⟨?_,e⟩,hl⟩
 obtain ⟨a0,_,v0,⟨a1,_,v1,⟨a2,_,v2,rfl,rfl⟩,rfl⟩,rfl⟩:=hg
 exact ⟨a0,a1,a2,v0,v1,v2,rfl⟩
end Go.Proofs.YtlmphbbhaeampaaGreat.A
namespace Go.Proofs.YtlmphbbhaeampaaGreat.A
open Go Go.Proofs Go.ChangeShapes Go.WideShapes Go.ChangeAt Go.RowKit
theorem apr:ownKnob Tryz.prog.godebug=none:=by kernel_rfl
def S5:List TypeId:=[31,46,3,24,25,26,27,28,29,22,83,86,91,111,79,81,4,89,87,155]
theorem aaz(hc:∀ ys,tV ys→call G Ω0 ⟨0,false⟩ 5 ys (fun _=>none)=some (.ret (.b true),fun _=>none))(os:Os)(started:os.Started)(H:Type)(enc:TypeId×Value→H) :
  ReturnsInHanded {} Tryz.checked os 5 .any (Rows.watchRunsSpec.pre6 enc Tryz.prog Tryz.f5 Rows.watchRunsRow.domain false) (Rows.watchRunsSpec.post enc Tryz.prog Tryz.f5 false true false false):=by
 refine returnsInHanded_of_change (C:=Tryz.checked) apr started (by kernel_rfl) Tryz.func5
  (ChangeSpec.witness6 (enc:=enc) (C:=Tryz.checked) false ⟨#[],#[.agg #[.int .i64 0,.slice none 0 0,.slice none 0 0,.slice none 0 0,.slice none 0 0,.slice none 0 0,.slice none 0 0,.slice none 0 0],.slice none 0 0,.int .i64 0],[]⟩ 8 (by kernel_rfl) (by kernel_rfl) (by kernel_rfl) (by kernel_rfl)) ?_
 intro W base args ds gs before c hW _ _
 exact R3 (P:=Tryz.prog) (R:=call G Ω0) (fn:=Tryz.f5) (S:=S5) (tb:=4) (Good:=fun _=>tV) (by kernel_rfl) (fun B=>@sound B) rfl (by kernel_rfl) Tryz.underlying4
  (fun ds h=>by
   have hl:ds.length=3:=by rw [h];rw [Tryz.params5];rfl
   match ds,hl with
   | [d0,d1,d2],_=>rfl)
  (by rw [Tryz.params5];exact fun t ht=>by have:=(dz.1 (show ([31,46,3]:List TypeId).all (fun t=>S5.contains t)=true by kernel_rfl)) t ht;simpa using this)
  (by rw [Tryz.params5];exact Np) (fun _=>hc) W base args ds gs before c hW (fun q hq=>by cases hq)
theorem OL(hc:∀ ys,tV ys→call G Ω0 ⟨0,false⟩ 5 ys (fun _=>none)=some (.ret (.b true),fun _=>none)):Rows.WatchRunsSaid:=
 OpenClaim.holds_of_wide 5 Tryz.f5 rfl rfl rfl rfl rfl rfl rfl ⟨rfl,rfl,rfl,rfl,rfl⟩ rfl rfl rfl rfl rfl (by kernel_rfl) Tryz.func5 (by kernel_rfl)
  (uX (by kernel_rfl)) (by unfold Func.isWrapper;first | (rw [af (by decide +kernel)];kernel_rfl) | (rw [ah (by decide +kernel)];exact ⟨rfl,rfl⟩))
  (fun os started H enc _=>aaz hc os started H enc)
end Go.Proofs.YtlmphbbhaeampaaGreat.A
