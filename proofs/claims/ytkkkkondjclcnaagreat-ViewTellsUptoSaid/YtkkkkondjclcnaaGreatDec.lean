/- How the arguments of the laws are read, by program. -/
import Derived.Test.YtkkkkondjclcnaaGreatFrame
import Derived.Test.YtkkkkondjclcnaaGreatTypes
import Derived.Test.YtkkkkondjclcnaaGreatProg
import Derived.Test.YtkkkkondjclcnaaGreatTab
set_option linter.all false
set_option maxRecDepth 100000
namespace Go.Proofs.YtkkkkondjclcnaaGreat.A
open Go Go.Proofs
def OY(x:cG):Prop:=(Lit.int .i64 x.Who).wf=true∧(Lit.int .i64 x.For).wf=true
theorem Xk[bJ](N:Nat):pR Tryz.prog N 166 cG (fun x:cG=>[(.i .i64 x.Who),(.i .i64 x.For)]) OY:=
 (jQ Tryz.underlying166 (by kernel_rfl) (b9 rfl 1 (by kernel_rfl) (gT Tryz.underlying3 (by kernel_rfl)) (b9 rfl 1 (by kernel_rfl) (gT Tryz.underlying3 (by kernel_rfl)) (nG)))).map (fun p=>(⟨p.1,p.2.1⟩:cG)) (fun x=>(x.Who,x.For,())) (fun _=>rfl) (fun _=>rfl) (fun _ h=>⟨h.1,h.2.1⟩)
def Na(x:aj):Prop:=(Lit.int .i64 x.Many).wf=true∧(x.Grants.length≤maxLen∧∀ y∈x.Grants,(OY) y)
theorem adz[bJ](N:Nat):pR Tryz.prog N 24 aj (fun x:aj=>[(.i .i64 x.Many),(.l 166 (x.Grants.map aG))]) Na:=
 (jQ Tryz.underlying24 (by kernel_rfl) (b9 rfl 1 (by kernel_rfl) (gT Tryz.underlying3 (by kernel_rfl)) (b9 rfl 1 (by kernel_rfl) (dY aG Tryz.underlying22 (by kernel_rfl) (Xk _) (fun _=>⟨rfl,by kernel_rfl,rfl⟩) (by decide)) (nG)))).map (fun p=>(⟨p.1,p.2.1⟩:aj)) (fun x=>(x.Many,x.Grants,())) (fun _=>rfl) (fun _=>rfl) (fun _ h=>⟨h.1,h.2.1⟩)
def Gl(x:bD):Prop:=(Lit.int .i64 x.Owner).wf=true∧(x.Names.length≤maxLen∧∀ y∈x.Names,(fun v:Int=>(Lit.int .i64 v).wf=true) y)
theorem OZ[bJ](N:Nat):pR Tryz.prog N 138 bD (fun x:bD=>[(.i .i64 x.Owner),(.l 3 (x.Names.map (AV.i .i64)))]) Gl:=
 (jQ Tryz.underlying138 (by kernel_rfl) (b9 rfl 1 (by kernel_rfl) (gT Tryz.underlying3 (by kernel_rfl)) (b9 rfl 1 (by kernel_rfl) (dY (AV.i .i64) Tryz.underlying25 (by kernel_rfl) (gT Tryz.underlying3 (by kernel_rfl)) (fun _=>⟨rfl,by kernel_rfl,rfl⟩) (by decide)) (nG)))).map (fun p=>(⟨p.1,p.2.1⟩:bD)) (fun x=>(x.Owner,x.Names,())) (fun _=>rfl) (fun _=>rfl) (fun _ h=>⟨h.1,h.2.1⟩)
def Eu(x:Label):Prop:=(x.Read.length≤maxLen∧∀ y∈x.Read,(Gl) y)∧(x.Write.length≤maxLen∧∀ y∈x.Write,(Gl) y)
theorem Nb[bJ](N:Nat):pR Tryz.prog N 81 Label (fun x:Label=>[(.l 138 (x.Read.map aE)),(.l 138 (x.Write.map aE))]) Eu:=
 (jQ Tryz.underlying81 (by kernel_rfl) (b9 rfl 1 (by kernel_rfl) (dY aE Tryz.underlying79 (by kernel_rfl) (OZ _) (fun _=>⟨rfl,by kernel_rfl,rfl⟩) (by decide)) (b9 rfl 1 (by kernel_rfl) (dY aE Tryz.underlying79 (by kernel_rfl) (OZ _) (fun _=>⟨rfl,by kernel_rfl,rfl⟩) (by decide)) (nG)))).map (fun p=>(⟨p.1,p.2.1⟩:Label)) (fun x=>(x.Read,x.Write,())) (fun _=>rfl) (fun _=>rfl) (fun _ h=>⟨h.1,h.2.1⟩)
def V3(x:Var):Prop:=True∧Eu x.Label
theorem adA[bJ](N:Nat):pR Tryz.prog N 83 Var (fun x:Var=>[(.b x.Known),(.l 138 (x.Label.Read.map aE)),(.l 138 (x.Label.Write.map aE))]) V3:=
 (jQ Tryz.underlying83 (by kernel_rfl) (b9 rfl 1 (by kernel_rfl) (M7 Tryz.underlying4 (by kernel_rfl)) (b9 rfl 2 (by kernel_rfl) (Nb _) (nG)))).map (fun p=>(⟨p.1,p.2.1⟩:Var)) (fun x=>(x.Known,x.Label,())) (fun _=>rfl) (fun _=>rfl) (fun _ h=>⟨h.1,h.2.1⟩)
inductive vp:az→Prop where
 | mk (x:az) (h0:(Lit.int .i64 x.Kind).wf=true) (h1:(Lit.int .i64 x.N).wf=true) (h2:x.Args.length≤maxLen) (g2:∀ y∈x.Args,vp y):vp x
theorem Xl[bJ]:∀ N M,M≤N→pR Tryz.prog M 37 az (fun x:az=>[(.i .i64 x.Kind),(.i .i64 x.N),(.l 37 (x.Args.map aQ))]) vp:=by
 intro N
 induction N with
 | zero=>
   intro M hM;obtain rfl:M=0:=by omega
   exact M6 (fun _=>by kernel_rfl) (fun _=>by kernel_rfl)
 | succ N ih=>intro M hM;exact (jQ Tryz.underlying37 (by kernel_rfl) (b9 rfl 1 (by kernel_rfl) (gT Tryz.underlying3 (by kernel_rfl)) (b9 rfl 1 (by kernel_rfl) (gT Tryz.underlying3 (by kernel_rfl)) (b9 rfl 1 (by kernel_rfl) (dY aQ Tryz.underlying35 (by kernel_rfl) (ih _ (by omega)) (fun _=>by rw [dI];exact ⟨rfl,by kernel_rfl,rfl⟩) (by decide)) (nG))))).map (fun p=>(⟨p.1,p.2.1,p.2.2.1⟩:az)) (fun x=>(x.Kind,x.N,x.Args,())) (fun _=>rfl) (fun _=>rfl) (fun _ h=>.mk _ h.1 h.2.1 h.2.2.1.1 h.2.2.1.2)
theorem Nc[bJ](N:Nat):pR Tryz.prog N 37 az (fun x:az=>[(.i .i64 x.Kind),(.i .i64 x.N),(.l 37 (x.Args.map aQ))]) vp:=Xl N N (aS _)
inductive yF:Stmt→Prop where
 | mk (x:Stmt) (h0:(Lit.int .i64 x.Kind).wf=true) (h1:(Lit.int .i64 x.Var).wf=true) (h2:(Lit.int .i64 x.Other).wf=true) (h3:vp x.Expr) (h4:(x.Args.length≤maxLen∧∀ y∈x.Args,(vp) y)) (h5:x.Then.length≤maxLen) (g5:∀ y∈x.Then,yF y) (h6:x.Else.length≤maxLen) (g6:∀ y∈x.Else,yF y):yF x
theorem Xm[bJ]:∀ N M,M≤N→pR Tryz.prog M 92 Stmt (fun x:Stmt=>[(.i .i64 x.Kind),(.i .i64 x.Var),(.i .i64 x.Other),(.i .i64 x.Expr.Kind),(.i .i64 x.Expr.N),(.l 37 (x.Expr.Args.map aQ)),(.l 37 (x.Args.map aQ)),(.l 92 (x.Then.map aV)),(.l 92 (x.Else.map aV))]) yF:=by
 intro N
 induction N with
 | zero=>
   intro M hM;obtain rfl:M=0:=by omega
   exact M6 (fun _=>by kernel_rfl) (fun _=>by kernel_rfl)
 | succ N ih=>intro M hM;exact (jQ Tryz.underlying92 (by kernel_rfl) (b9 rfl 1 (by kernel_rfl) (gT Tryz.underlying3 (by kernel_rfl)) (b9 rfl 1 (by kernel_rfl) (gT Tryz.underlying3 (by kernel_rfl)) (b9 rfl 1 (by kernel_rfl) (gT Tryz.underlying3 (by kernel_rfl)) (b9 rfl 3 (by kernel_rfl) (Nc _) (b9 rfl 1 (by kernel_rfl) (dY aQ Tryz.underlying35 (by kernel_rfl) (Nc _) (fun _=>by rw [dI];exact ⟨rfl,by kernel_rfl,rfl⟩) (by decide)) (b9 rfl 1 (by kernel_rfl) (dY aV Tryz.underlying29 (by kernel_rfl) (ih _ (by omega)) (fun _=>by rw [ij];exact ⟨rfl,by kernel_rfl,rfl⟩) (by decide)) (b9 rfl 1 (by kernel_rfl) (dY aV Tryz.underlying29 (by kernel_rfl) (ih _ (by omega)) (fun _=>by rw [ij];exact ⟨rfl,by kernel_rfl,rfl⟩) (by decide)) (nG))))))))).map (fun p=>(⟨p.1,p.2.1,p.2.2.1,p.2.2.2.1,p.2.2.2.2.1,p.2.2.2.2.2.1,p.2.2.2.2.2.2.1⟩:Stmt)) (fun x=>(x.Kind,x.Var,x.Other,x.Expr,x.Args,x.Then,x.Else,())) (fun _=>rfl) (fun _=>rfl) (fun _ h=>.mk _ h.1 h.2.1 h.2.2.1 h.2.2.2.1 h.2.2.2.2.1 h.2.2.2.2.2.1.1 h.2.2.2.2.2.1.2 h.2.2.2.2.2.2.1.1 h.2.2.2.2.2.2.1.2)
theorem Sm[bJ](N:Nat):pR Tryz.prog N 92 Stmt (fun x:Stmt=>[(.i .i64 x.Kind),(.i .i64 x.Var),(.i .i64 x.Other),(.i .i64 x.Expr.Kind),(.i .i64 x.Expr.N),(.l 37 (x.Expr.Args.map aQ)),(.l 37 (x.Args.map aQ)),(.l 92 (x.Then.map aV)),(.l 92 (x.Else.map aV))]) yF:=Xm N N (aS _)
def Sn(x:Func):Prop:=(x.Params.length≤maxLen∧∀ y∈x.Params,(fun v:Int=>(Lit.int .i64 v).wf=true) y)∧(x.Body.length≤maxLen∧∀ y∈x.Body,(yF) y)∧vp x.Result
theorem Xn[bJ](N:Nat):pR Tryz.prog N 101 Func (fun x:Func=>[(.l 3 (x.Params.map (AV.i .i64))),(.l 92 (x.Body.map aV)),(.i .i64 x.Result.Kind),(.i .i64 x.Result.N),(.l 37 (x.Result.Args.map aQ))]) Sn:=
 (jQ Tryz.underlying101 (by kernel_rfl) (b9 rfl 1 (by kernel_rfl) (dY (AV.i .i64) Tryz.underlying25 (by kernel_rfl) (gT Tryz.underlying3 (by kernel_rfl)) (fun _=>⟨rfl,by kernel_rfl,rfl⟩) (by decide)) (b9 rfl 1 (by kernel_rfl) (dY aV Tryz.underlying29 (by kernel_rfl) (Sm _) (fun _=>by rw [ij];exact ⟨rfl,by kernel_rfl,rfl⟩) (by decide)) (b9 rfl 3 (by kernel_rfl) (Nc _) (nG))))).map (fun p=>(⟨p.1,p.2.1,p.2.2.1⟩:Func)) (fun x=>(x.Params,x.Body,x.Result,())) (fun _=>rfl) (fun _=>rfl) (fun _ h=>⟨h.1,h.2.1,h.2.2.1⟩)
def J8(x:Program):Prop:=Na x.aj∧(x.Speak.length≤maxLen∧∀ y∈x.Speak,(fun v:Int=>(Lit.int .i64 v).wf=true) y)∧(x.Ins.length≤maxLen∧∀ y∈x.Ins,(Eu) y)∧(x.Outs.length≤maxLen∧∀ y∈x.Outs,(Eu) y)∧(x.Vars.length≤maxLen∧∀ y∈x.Vars,(V3) y)∧(x.Funcs.length≤maxLen∧∀ y∈x.Funcs,(Sn) y)∧(x.Main.length≤maxLen∧∀ y∈x.Main,(yF) y)
theorem adB[bJ](N:Nat):pR Tryz.prog N 31 Program (fun x:Program=>[(.i .i64 x.aj.Many),(.l 166 (x.aj.Grants.map aG)),(.l 3 (x.Speak.map (AV.i .i64))),(.l 81 (x.Ins.map ay)),(.l 81 (x.Outs.map ay)),(.l 83 (x.Vars.map cJ)),(.l 101 (x.Funcs.map cA)),(.l 92 (x.Main.map aV))]) J8:=
 (jQ Tryz.underlying31 (by kernel_rfl) (b9 rfl 2 (by kernel_rfl) (adz _) (b9 rfl 1 (by kernel_rfl) (dY (AV.i .i64) Tryz.underlying25 (by kernel_rfl) (gT Tryz.underlying3 (by kernel_rfl)) (fun _=>⟨rfl,by kernel_rfl,rfl⟩) (by decide)) (b9 rfl 1 (by kernel_rfl) (dY ay Tryz.underlying26 (by kernel_rfl) (Nb _) (fun _=>⟨rfl,by kernel_rfl,rfl⟩) (by decide)) (b9 rfl 1 (by kernel_rfl) (dY ay Tryz.underlying26 (by kernel_rfl) (Nb _) (fun _=>⟨rfl,by kernel_rfl,rfl⟩) (by decide)) (b9 rfl 1 (by kernel_rfl) (dY cJ Tryz.underlying27 (by kernel_rfl) (adA _) (fun _=>⟨rfl,by kernel_rfl,rfl⟩) (by decide)) (b9 rfl 1 (by kernel_rfl) (dY cA Tryz.underlying28 (by kernel_rfl) (Xn _) (fun _=>⟨rfl,by kernel_rfl,rfl⟩) (by decide)) (b9 rfl 1 (by kernel_rfl) (dY aV Tryz.underlying29 (by kernel_rfl) (Sm _) (fun _=>by rw [ij];exact ⟨rfl,by kernel_rfl,rfl⟩) (by decide)) (nG))))))))).map (fun p=>(⟨p.1,p.2.1,p.2.2.1,p.2.2.2.1,p.2.2.2.2.1,p.2.2.2.2.2.1,p.2.2.2.2.2.2.1⟩:Program)) (fun x=>(x.aj,x.Speak,x.Ins,x.Outs,x.Vars,x.Funcs,x.Main,())) (fun _=>rfl) (fun _=>rfl) (fun _ h=>⟨h.1,h.2.1,h.2.2.1,h.2.2.2.1,h.2.2.2.2.1,h.2.2.2.2.2.1,h.2.2.2.2.2.2.1⟩)
def O0(x:Event):Prop:=(Lit.int .i64 x.Kind).wf=true∧(Lit.int .i64 x.At).wf=true∧(Lit.int .i64 x.Which).wf=true∧(Lit.int .i64 x.Value).wf=true
theorem Xo[bJ](N:Nat):pR Tryz.prog N 125 Event (fun x:Event=>[(.i .i64 x.Kind),(.i .i64 x.At),(.i .i64 x.Which),(.i .i64 x.Value)]) O0:=
 (jQ Tryz.underlying125 (by kernel_rfl) (b9 rfl 1 (by kernel_rfl) (gT Tryz.underlying3 (by kernel_rfl)) (b9 rfl 1 (by kernel_rfl) (gT Tryz.underlying3 (by kernel_rfl)) (b9 rfl 1 (by kernel_rfl) (gT Tryz.underlying3 (by kernel_rfl)) (b9 rfl 1 (by kernel_rfl) (gT Tryz.underlying3 (by kernel_rfl)) (nG)))))).map (fun p=>(⟨p.1,p.2.1,p.2.2.1,p.2.2.2.1⟩:Event)) (fun x=>(x.Kind,x.At,x.Which,x.Value,())) (fun _=>rfl) (fun _=>rfl) (fun _ h=>⟨h.1,h.2.1,h.2.2.1,h.2.2.2.1⟩)
def rU(ys:List AV):Prop:=∃ (a0:Program)(a1:Int)(a2:Bool)(a3:(List (List Int)))(a4:(List Event)),(J8 a0)∧((Lit.int .i64 a1).wf=true)∧(True)∧((a3.length≤maxLen∧∀ y∈a3,(fun v:(List Int)=>(v.length≤maxLen∧∀ y∈v,(fun v:Int=>(Lit.int .i64 v).wf=true) y)) y))∧((a4.length≤maxLen∧∀ y∈a4,(O0) y))∧ys=[(.a (ar a0)),(.i .i64 a1),(.b a2),(.l 25 (a3.map (bc 3 (AV.i .i64)))),(.l 125 (a4.map aH))]
theorem Jq(B:bJ):M9 Tryz.prog [31,3,4,58,59] rU:=by
 intro H enc W vs ds ps base hb hok h
 obtain ⟨ys,⟨hg,hbk⟩,hl⟩:=(wy (NT qy Tryz.underlying31 (fun N=>adB N) (fun _=>rfl)) (wy (BW (fun x:Int=>(.i .i64 x)) (fun _=>(gT Tryz.underlying3 (by kernel_rfl))) (ady Tryz.underlying3)) (wy (BW (fun x:Bool=>(.b x)) (fun _=>(M7 Tryz.underlying4 (by kernel_rfl))) (Xj Tryz.underlying4)) (wy (BW (fun x:(List (List Int))=>(.l 25 (x.map (bc 3 (AV.i .i64))))) (fun _=>(dY (bc 3 (AV.i .i64)) Tryz.underlying58 (by kernel_rfl) (dY (AV.i .i64) Tryz.underlying25 (by kernel_rfl) (gT Tryz.underlying3 (by kernel_rfl)) (fun _=>⟨rfl,by kernel_rfl,rfl⟩) (by decide)) (fun _=>⟨rfl,by kernel_rfl,rfl⟩) (by decide))) (M8 Tryz.underlying58)) (wy (BW (fun x:(List Event)=>(.l 125 (x.map aH))) (fun _=>(dY aH Tryz.underlying59 (by kernel_rfl) (Xo _) (fun _=>⟨rfl,by kernel_rfl,rfl⟩) (by decide))) (M8 Tryz.underlying59)) (Uk)))))) H enc W vs ds ps base hb hok h
 refine ⟨ys,⟨?_,hbk⟩,hl⟩
 obtain ⟨a0,_,v0,⟨a1,_,v1,⟨a2,_,v2,⟨a3,_,v3,⟨a4,_,v4,rfl,rfl⟩,rfl⟩,rfl⟩,rfl⟩,rfl⟩:=hg
 exact ⟨a0,a1,a2,a3,a4,v0,v1,v2,v3,v4,rfl⟩
end Go.Proofs.YtkkkkondjclcnaaGreat.A
namespace Go.Proofs.YtkkkkondjclcnaaGreat.A
open Go Go.Proofs Go.ChangeShapes Go.WideShapes Go.ChangeAt Go.RowKit
theorem akh:ownKnob Tryz.prog.godebug=none:=by kernel_rfl
def S4:List TypeId:=[31,3,4,58,59,24,25,26,27,28,29,125,22,81,83,101,92,166,79,37,35,138]
set_option maxRecDepth 100000 in
theorem Ul(hc:∀ ys,rU ys→AV.dQ ys≤1048576→call G Ω0 ⟨0,false⟩ 4 ys (fun _=>none)=some (.ret (.b true),fun _=>none))(os:Os)(started:os.Started)(H:Type)(enc:TypeId×Value→H)(F:Stop.Interp) :
  ReturnsInHanded {} Tryz.checked os 4 .any ((Rows.OpenSpec.upto Rows.viewTellsSpec).pre6 enc Tryz.prog Tryz.f4 Rows.viewTellsUptoRow.domain false) (((Rows.OpenSpec.upto Rows.viewTellsSpec).at F).post enc Tryz.prog Tryz.f4 false true false false):=by
 refine returnsInHanded_of_cond (C:=Tryz.checked) (s:=Rows.OpenSpec.upto Rows.viewTellsSpec) (k:=Rows.uptoSmall) rfl akh started (by kernel_rfl) Tryz.func4
  (OpenSpec.witness (enc:=enc) (C:=Tryz.checked) (s:=Rows.OpenSpec.upto Rows.viewTellsSpec) (k:=Rows.uptoSmall) rfl false ⟨#[],#[.agg #[.int .i64 0,.slice none 0 0,.slice none 0 0,.slice none 0 0,.slice none 0 0,.slice none 0 0,.slice none 0 0,.slice none 0 0],.int .i64 0,.bool false,.slice none 0 0,.slice none 0 0],[]⟩ 8 (by kernel_rfl) (by kernel_rfl) (by kernel_rfl)
   (x:=([.agg [.agg [.lit (.int .i64 0),.nil],.nil,.nil,.nil,.nil,.nil,.nil],.lit (.int .i64 0),.lit (.bool false),.nil,.nil],[],[])) (by kernel_rfl) rfl (by kernel_rfl)) ?_
 intro W base args ds gs before hval hW _ hk _
 exact KJ (P:=Tryz.prog) (R:=call G Ω0) (fn:=Tryz.f4) (S:=S4) (tb:=4) (Good:=fun _=>rU) (by kernel_rfl) (fun B=>@sound B) rfl (by kernel_rfl) Tryz.underlying4
  (fun ds h=>by
   have hl:ds.length=5:=by rw [h];rw [Tryz.params4];rfl
   match ds,hl with
   | [d0,d1,d2,d3,d4],_=>rfl)
  (by rw [Tryz.params4];exact fun t ht=>by have:=(bH.1 (show ([31,3,4,58,59]:List TypeId).all (fun t=>S4.contains t)=true by kernel_rfl)) t ht;simpa using this)
  (by rw [Tryz.params4];exact Jq) (fun _=>hc) W base args ds gs before hval hW hk (fun q hq=>by cases hq)
theorem Jr(hc:∀ ys,rU ys→AV.dQ ys≤1048576→call G Ω0 ⟨0,false⟩ 4 ys (fun _=>none)=some (.ret (.b true),fun _=>none)):Rows.ViewTellsUptoSaid:=
 OpenClaim.holds_of_cond 4 Tryz.f4 rfl rfl rfl rfl rfl rfl rfl ⟨rfl,rfl,rfl,rfl,rfl⟩ rfl rfl rfl rfl rfl (by kernel_rfl) Tryz.func4 (by kernel_rfl)
  (nj (by kernel_rfl)) (by unfold Func.isWrapper;first | (rw [ab (by decide +kernel)];kernel_rfl) | (rw [ad (by decide +kernel)];exact ⟨rfl,rfl⟩))
  (fun os started H enc _ F=>Ul hc os started H enc F)
end Go.Proofs.YtkkkkondjclcnaaGreat.A
