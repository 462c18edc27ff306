/- How the arguments of the laws are read, by program. -/
import Derived.Test.YtkkkkondjclcnaaGreatFrame
import Derived.Test.YtkkkkondjclcnaaGreatTypes
import Derived.Test.YtkkkkondjclcnaaGreatProg
import Derived.Test.YtkkkkondjclcnaaGreatTab
set_option linter.all false
set_option maxRecDepth 100000
namespace Go.Proofs.YtkkkkondjclcnaaGreat.A
open Go Go.Proofs
def O7(x:cB):Prop:=(Lit.int .i64 x.Who).wf=true∧(Lit.int .i64 x.For).wf=true
theorem Xc[bI](N:Nat):pG Tryz.prog N 166 cB (fun x:cB=>[(.i .i64 x.Who),(.i .i64 x.For)]) O7:=
 (iS Tryz.underlying166 (by kernel_rfl) (bX rfl 1 (by kernel_rfl) (mB Tryz.underlying3 (by kernel_rfl)) (bX rfl 1 (by kernel_rfl) (mB Tryz.underlying3 (by kernel_rfl)) (l9)))).map (fun p=>(⟨p.1,p.2.1⟩:cB)) (fun x=>(x.Who,x.For,())) (fun _=>rfl) (fun _=>rfl) (fun _ h=>⟨h.1,h.2.1⟩)
def Nk(x:ah):Prop:=(Lit.int .i64 x.Many).wf=true∧(x.Grants.length≤maxLen∧∀ y∈x.Grants,(O7) y)
theorem ac7[bI](N:Nat):pG Tryz.prog N 24 ah (fun x:ah=>[(.i .i64 x.Many),(.l 166 (x.Grants.map aE))]) Nk:=
 (iS Tryz.underlying24 (by kernel_rfl) (bX rfl 1 (by kernel_rfl) (mB Tryz.underlying3 (by kernel_rfl)) (bX rfl 1 (by kernel_rfl) (dJ aE Tryz.underlying22 (by kernel_rfl) (Xc _) (fun _=>⟨rfl,by kernel_rfl,rfl⟩) (by decide)) (l9)))).map (fun p=>(⟨p.1,p.2.1⟩:ah)) (fun x=>(x.Many,x.Grants,())) (fun _=>rfl) (fun _=>rfl) (fun _ h=>⟨h.1,h.2.1⟩)
def Gu(x:br):Prop:=(Lit.int .i64 x.Owner).wf=true∧(x.Names.length≤maxLen∧∀ y∈x.Names,(fun v:Int=>(Lit.int .i64 v).wf=true) y)
theorem O8[bI](N:Nat):pG Tryz.prog N 138 br (fun x:br=>[(.i .i64 x.Owner),(.l 3 (x.Names.map (AV.i .i64)))]) Gu:=
 (iS Tryz.underlying138 (by kernel_rfl) (bX rfl 1 (by kernel_rfl) (mB Tryz.underlying3 (by kernel_rfl)) (bX rfl 1 (by kernel_rfl) (dJ (AV.i .i64) Tryz.underlying25 (by kernel_rfl) (mB Tryz.underlying3 (by kernel_rfl)) (fun _=>⟨rfl,by kernel_rfl,rfl⟩) (by decide)) (l9)))).map (fun p=>(⟨p.1,p.2.1⟩:br)) (fun x=>(x.Owner,x.Names,())) (fun _=>rfl) (fun _=>rfl) (fun _ h=>⟨h.1,h.2.1⟩)
def EL(x:Label):Prop:=(x.Read.length≤maxLen∧∀ y∈x.Read,(Gu) y)∧(x.Write.length≤maxLen∧∀ y∈x.Write,(Gu) y)
theorem Nl[bI](N:Nat):pG Tryz.prog N 81 Label (fun x:Label=>[(.l 138 (x.Read.map aF)),(.l 138 (x.Write.map aF))]) EL:=
 (iS Tryz.underlying81 (by kernel_rfl) (bX rfl 1 (by kernel_rfl) (dJ aF Tryz.underlying79 (by kernel_rfl) (O8 _) (fun _=>⟨rfl,by kernel_rfl,rfl⟩) (by decide)) (bX rfl 1 (by kernel_rfl) (dJ aF Tryz.underlying79 (by kernel_rfl) (O8 _) (fun _=>⟨rfl,by kernel_rfl,rfl⟩) (by decide)) (l9)))).map (fun p=>(⟨p.1,p.2.1⟩:Label)) (fun x=>(x.Read,x.Write,())) (fun _=>rfl) (fun _=>rfl) (fun _ h=>⟨h.1,h.2.1⟩)
def VX(x:Var):Prop:=True∧EL x.Label
theorem ac8[bI](N:Nat):pG Tryz.prog N 83 Var (fun x:Var=>[(.b x.Known),(.l 138 (x.Label.Read.map aF)),(.l 138 (x.Label.Write.map aF))]) VX:=
 (iS Tryz.underlying83 (by kernel_rfl) (bX rfl 1 (by kernel_rfl) (Gt Tryz.underlying4 (by kernel_rfl)) (bX rfl 2 (by kernel_rfl) (Nl _) (l9)))).map (fun p=>(⟨p.1,p.2.1⟩:Var)) (fun x=>(x.Known,x.Label,())) (fun _=>rfl) (fun _=>rfl) (fun _ h=>⟨h.1,h.2.1⟩)
inductive tW:ax→Prop where
 | mk (x:ax) (h0:(Lit.int .i64 x.Kind).wf=true) (h1:(Lit.int .i64 x.N).wf=true) (h2:x.Args.length≤maxLen) (g2:∀ y∈x.Args,tW y):tW x
theorem Xd[bI]:∀ N M,M≤N→pG Tryz.prog M 37 ax (fun x:ax=>[(.i .i64 x.Kind),(.i .i64 x.N),(.l 37 (x.Args.map aL))]) tW:=by
 intro N
 induction N with
 | zero=>
   intro M hM;obtain rfl:M=0:=by omega
   exact Ni (fun _=>by kernel_rfl) (fun _=>by kernel_rfl)
 | succ N ih=>intro M hM;exact (iS Tryz.underlying37 (by kernel_rfl) (bX rfl 1 (by kernel_rfl) (mB Tryz.underlying3 (by kernel_rfl)) (bX rfl 1 (by kernel_rfl) (mB Tryz.underlying3 (by kernel_rfl)) (bX rfl 1 (by kernel_rfl) (dJ aL Tryz.underlying35 (by kernel_rfl) (ih _ (by omega)) (fun _=>by rw [dm];exact ⟨rfl,by kernel_rfl,rfl⟩) (by decide)) (l9))))).map (fun p=>(⟨p.1,p.2.1,p.2.2.1⟩:ax)) (fun x=>(x.Kind,x.N,x.Args,())) (fun _=>rfl) (fun _=>rfl) (fun _ h=>.mk _ h.1 h.2.1 h.2.2.1.1 h.2.2.1.2)
theorem Il[bI](N:Nat):pG Tryz.prog N 37 ax (fun x:ax=>[(.i .i64 x.Kind),(.i .i64 x.N),(.l 37 (x.Args.map aL))]) tW:=Xd N N (aT _)
inductive yY:Stmt→Prop where
 | mk (x:Stmt) (h0:(Lit.int .i64 x.Kind).wf=true) (h1:(Lit.int .i64 x.Var).wf=true) (h2:(Lit.int .i64 x.Other).wf=true) (h3:tW x.Expr) (h4:(x.Args.length≤maxLen∧∀ y∈x.Args,(tW) y)) (h5:x.Then.length≤maxLen) (g5:∀ y∈x.Then,yY y) (h6:x.Else.length≤maxLen) (g6:∀ y∈x.Else,yY y):yY x
theorem Xe[bI]:∀ N M,M≤N→pG Tryz.prog M 92 Stmt (fun x:Stmt=>[(.i .i64 x.Kind),(.i .i64 x.Var),(.i .i64 x.Other),(.i .i64 x.Expr.Kind),(.i .i64 x.Expr.N),(.l 37 (x.Expr.Args.map aL)),(.l 37 (x.Args.map aL)),(.l 92 (x.Then.map aV)),(.l 92 (x.Else.map aV))]) yY:=by
 intro N
 induction N with
 | zero=>
   intro M hM;obtain rfl:M=0:=by omega
   exact Ni (fun _=>by kernel_rfl) (fun _=>by kernel_rfl)
 | succ N ih=>intro M hM;exact (iS Tryz.underlying92 (by kernel_rfl) (bX rfl 1 (by kernel_rfl) (mB Tryz.underlying3 (by kernel_rfl)) (bX rfl 1 (by kernel_rfl) (mB Tryz.underlying3 (by kernel_rfl)) (bX rfl 1 (by kernel_rfl) (mB Tryz.underlying3 (by kernel_rfl)) (bX rfl 3 (by kernel_rfl) (Il _) (bX rfl 1 (by kernel_rfl) (dJ aL Tryz.underlying35 (by kernel_rfl) (Il _) (fun _=>by rw [dm];exact ⟨rfl,by kernel_rfl,rfl⟩) (by decide)) (bX rfl 1 (by kernel_rfl) (dJ aV Tryz.underlying29 (by kernel_rfl) (ih _ (by omega)) (fun _=>by rw [ie];exact ⟨rfl,by kernel_rfl,rfl⟩) (by decide)) (bX rfl 1 (by kernel_rfl) (dJ aV Tryz.underlying29 (by kernel_rfl) (ih _ (by omega)) (fun _=>by rw [ie];exact ⟨rfl,by kernel_rfl,rfl⟩) (by decide)) (l9))))))))).map (fun p=>(⟨p.1,p.2.1,p.2.2.1,p.2.2.2.1,p.2.2.2.2.1,p.2.2.2.2.2.1,p.2.2.2.2.2.2.1⟩:Stmt)) (fun x=>(x.Kind,x.Var,x.Other,x.Expr,x.Args,x.Then,x.Else,())) (fun _=>rfl) (fun _=>rfl) (fun _ h=>.mk _ h.1 h.2.1 h.2.2.1 h.2.2.2.1 h.2.2.2.2.1 h.2.2.2.2.2.1.1 h.2.2.2.2.2.1.2 h.2.2.2.2.2.2.1.1 h.2.2.2.2.2.2.1.2)
theorem Sv[bI](N:Nat):pG Tryz.prog N 92 Stmt (fun x:Stmt=>[(.i .i64 x.Kind),(.i .i64 x.Var),(.i .i64 x.Other),(.i .i64 x.Expr.Kind),(.i .i64 x.Expr.N),(.l 37 (x.Expr.Args.map aL)),(.l 37 (x.Args.map aL)),(.l 92 (x.Then.map aV)),(.l 92 (x.Else.map aV))]) yY:=Xe N N (aT _)
def Sw(x:Func):Prop:=(x.Params.length≤maxLen∧∀ y∈x.Params,(fun v:Int=>(Lit.int .i64 v).wf=true) y)∧(x.Body.length≤maxLen∧∀ y∈x.Body,(yY) y)∧tW x.Result
theorem Xf[bI](N:Nat):pG Tryz.prog N 101 Func (fun x:Func=>[(.l 3 (x.Params.map (AV.i .i64))),(.l 92 (x.Body.map aV)),(.i .i64 x.Result.Kind),(.i .i64 x.Result.N),(.l 37 (x.Result.Args.map aL))]) Sw:=
 (iS Tryz.underlying101 (by kernel_rfl) (bX rfl 1 (by kernel_rfl) (dJ (AV.i .i64) Tryz.underlying25 (by kernel_rfl) (mB Tryz.underlying3 (by kernel_rfl)) (fun _=>⟨rfl,by kernel_rfl,rfl⟩) (by decide)) (bX rfl 1 (by kernel_rfl) (dJ aV Tryz.underlying29 (by kernel_rfl) (Sv _) (fun _=>by rw [ie];exact ⟨rfl,by kernel_rfl,rfl⟩) (by decide)) (bX rfl 3 (by kernel_rfl) (Il _) (l9))))).map (fun p=>(⟨p.1,p.2.1,p.2.2.1⟩:Func)) (fun x=>(x.Params,x.Body,x.Result,())) (fun _=>rfl) (fun _=>rfl) (fun _ h=>⟨h.1,h.2.1,h.2.2.1⟩)
def Kk(x:Program):Prop:=Nk x.ah∧(x.Speak.length≤maxLen∧∀ y∈x.Speak,(fun v:Int=>(Lit.int .i64 v).wf=true) y)∧(x.Ins.length≤maxLen∧∀ y∈x.Ins,(EL) y)∧(x.Outs.length≤maxLen∧∀ y∈x.Outs,(EL) y)∧(x.Vars.length≤maxLen∧∀ y∈x.Vars,(VX) y)∧(x.Funcs.length≤maxLen∧∀ y∈x.Funcs,(Sw) y)∧(x.Main.length≤maxLen∧∀ y∈x.Main,(yY) y)
theorem ac9[bI](N:Nat):pG Tryz.prog N 31 Program (fun x:Program=>[(.i .i64 x.ah.Many),(.l 166 (x.ah.Grants.map aE)),(.l 3 (x.Speak.map (AV.i .i64))),(.l 81 (x.Ins.map az)),(.l 81 (x.Outs.map az)),(.l 83 (x.Vars.map cn)),(.l 101 (x.Funcs.map ct)),(.l 92 (x.Main.map aV))]) Kk:=
 (iS Tryz.underlying31 (by kernel_rfl) (bX rfl 2 (by kernel_rfl) (ac7 _) (bX rfl 1 (by kernel_rfl) (dJ (AV.i .i64) Tryz.underlying25 (by kernel_rfl) (mB Tryz.underlying3 (by kernel_rfl)) (fun _=>⟨rfl,by kernel_rfl,rfl⟩) (by decide)) (bX rfl 1 (by kernel_rfl) (dJ az Tryz.underlying26 (by kernel_rfl) (Nl _) (fun _=>⟨rfl,by kernel_rfl,rfl⟩) (by decide)) (bX rfl 1 (by kernel_rfl) (dJ az Tryz.underlying26 (by kernel_rfl) (Nl _) (fun _=>⟨rfl,by kernel_rfl,rfl⟩) (by decide)) (bX rfl 1 (by kernel_rfl) (dJ cn Tryz.underlying27 (by kernel_rfl) (ac8 _) (fun _=>⟨rfl,by kernel_rfl,rfl⟩) (by decide)) (bX rfl 1 (by kernel_rfl) (dJ ct Tryz.underlying28 (by kernel_rfl) (Xf _) (fun _=>⟨rfl,by kernel_rfl,rfl⟩) (by decide)) (bX rfl 1 (by kernel_rfl) (dJ aV Tryz.underlying29 (by kernel_rfl) (Sv _) (fun _=>by rw [ie];exact ⟨rfl,by kernel_rfl,rfl⟩) (by decide)) (l9))))))))).map (fun p=>(⟨p.1,p.2.1,p.2.2.1,p.2.2.2.1,p.2.2.2.2.1,p.2.2.2.2.2.1,p.2.2.2.2.2.2.1⟩:Program)) (fun x=>(x.ah,x.Speak,x.Ins,x.Outs,x.Vars,x.Funcs,x.Main,())) (fun _=>rfl) (fun _=>rfl) (fun _ h=>⟨h.1,h.2.1,h.2.2.1,h.2.2.2.1,h.2.2.2.2.1,h.2.2.2.2.2.1,h.2.2.2.2.2.2.1⟩)
def JC(x:Level):Prop:=(x.Readers.length≤maxLen∧∀ y∈x.Readers,(fun v:Bool=>True) y)∧(x.Writers.length≤maxLen∧∀ y∈x.Writers,(fun v:Bool=>True) y)
theorem Sx[bI](N:Nat):pG Tryz.prog N 45 Level (fun x:Level=>[(.l 4 (x.Readers.map AV.b)),(.l 4 (x.Writers.map AV.b))]) JC:=
 (iS Tryz.underlying45 (by kernel_rfl) (bX rfl 1 (by kernel_rfl) (dJ AV.b Tryz.underlying43 (by kernel_rfl) (Gt Tryz.underlying4 (by kernel_rfl)) (fun _=>⟨rfl,by kernel_rfl,rfl⟩) (by decide)) (bX rfl 1 (by kernel_rfl) (dJ AV.b Tryz.underlying43 (by kernel_rfl) (Gt Tryz.underlying4 (by kernel_rfl)) (fun _=>⟨rfl,by kernel_rfl,rfl⟩) (by decide)) (l9)))).map (fun p=>(⟨p.1,p.2.1⟩:Level)) (fun x=>(x.Readers,x.Writers,())) (fun _=>rfl) (fun _=>rfl) (fun _ h=>⟨h.1,h.2.1⟩)
def Nn(x:aM):Prop:=(x.Vars.length≤maxLen∧∀ y∈x.Vars,(JC) y)∧(x.Funcs.length≤maxLen∧∀ y∈x.Funcs,(JC) y)
theorem ada[bI](N:Nat):pG Tryz.prog N 34 aM (fun x:aM=>[(.l 45 (x.Vars.map aq)),(.l 45 (x.Funcs.map aq))]) Nn:=
 (iS Tryz.underlying34 (by kernel_rfl) (bX rfl 1 (by kernel_rfl) (dJ aq Tryz.underlying32 (by kernel_rfl) (Sx _) (fun _=>⟨rfl,by kernel_rfl,rfl⟩) (by decide)) (bX rfl 1 (by kernel_rfl) (dJ aq Tryz.underlying32 (by kernel_rfl) (Sx _) (fun _=>⟨rfl,by kernel_rfl,rfl⟩) (by decide)) (l9)))).map (fun p=>(⟨p.1,p.2.1⟩:aM)) (fun x=>(x.Vars,x.Funcs,())) (fun _=>rfl) (fun _=>rfl) (fun _ h=>⟨h.1,h.2.1⟩)
def pH(ys:List AV):Prop:=∃ (a0:Program)(a1:aM)(a2:ax),(Kk a0)∧(Nn a1)∧(tW a2)∧ys=[(.a (ar a0)),(.a [(.l 45 (a1.Vars.map aq)),(.l 45 (a1.Funcs.map aq))]),(aL a2)]
theorem Im(B:bI):Nj Tryz.prog [31,34,37] pH:=by
 intro H enc W vs ds ps base hb hok h
 obtain ⟨ys,⟨hg,hbk⟩,hl⟩:=(Eh (Au qt Tryz.underlying31 (fun N=>ac9 N) (fun _=>rfl)) (Eh (Au IC Tryz.underlying34 (fun N=>ada N) (fun _=>rfl)) (Eh (Au aL Tryz.underlying37 (fun N=>Il N) dm) (Um)))) H enc W vs ds ps base hb hok h
 refine ⟨ys,⟨?_,hbk⟩,hl⟩
 obtain ⟨a0,_,v0,⟨a1,_,v1,⟨a2,_,v2,rfl,rfl⟩,rfl⟩,rfl⟩:=hg
 exact ⟨a0,a1,a2,v0,v1,v2,rfl⟩
end Go.Proofs.YtkkkkondjclcnaaGreat.A
namespace Go.Proofs.YtkkkkondjclcnaaGreat.A
open Go Go.Proofs Go.ChangeShapes Go.WideShapes Go.ChangeAt Go.RowKit
theorem ajy:ownKnob Tryz.prog.godebug=none:=by kernel_rfl
def S3:List TypeId:=[31,34,37,24,25,26,27,28,29,32,3,35,22,81,83,101,92,45,166,79,4,43,138]
set_option maxRecDepth 100000 in
theorem Xg(hc:∀ ys,pH ys→call G Ω0 ⟨0,false⟩ 3 ys (fun _=>none)=some (.ret (.b true),fun _=>none))(os:Os)(started:os.Started)(H:Type)(enc:TypeId×Value→H) :
  ReturnsInHanded {} Tryz.checked os 3 .any (Rows.inferTellsSpec.pre6 enc Tryz.prog Tryz.f3 Rows.inferTellsRow.domain false) (Rows.inferTellsSpec.post enc Tryz.prog Tryz.f3 false true false false):=by
 refine returnsInHanded_of_change (C:=Tryz.checked) ajy started (by kernel_rfl) Tryz.func3
  (ChangeSpec.witness6 (enc:=enc) (C:=Tryz.checked) false ⟨#[],#[.agg #[.int .i64 0,.slice none 0 0,.slice none 0 0,.slice none 0 0,.slice none 0 0,.slice none 0 0,.slice none 0 0,.slice none 0 0],.agg #[.slice none 0 0,.slice none 0 0],.agg #[.int .i64 0,.int .i64 0,.slice none 0 0]],[]⟩ 8 (by kernel_rfl) (by kernel_rfl) (by kernel_rfl) (by kernel_rfl)) ?_
 intro W base args ds gs before hval hW _ _
 exact N0 (P:=Tryz.prog) (R:=call G Ω0) (fn:=Tryz.f3) (S:=S3) (tb:=4) (Good:=fun _=>pH) (by kernel_rfl) (fun B=>@sound B) rfl (by kernel_rfl) Tryz.underlying4
  (fun ds h=>by
   have hl:ds.length=3:=by rw [h];rw [Tryz.params3];rfl
   match ds,hl with
   | [d0,d1,d2],_=>rfl)
  (by rw [Tryz.params3];exact fun t ht=>by have:=(bO.1 (show ([31,34,37]:List TypeId).all (fun t=>S3.contains t)=true by kernel_rfl)) t ht;simpa using this)
  (by rw [Tryz.params3];exact Im) (fun _=>hc) W base args ds gs before hval hW (fun q hq=>by cases hq)
theorem JD(hc:∀ ys,pH ys→call G Ω0 ⟨0,false⟩ 3 ys (fun _=>none)=some (.ret (.b true),fun _=>none)):Rows.InferTellsSaid:=
 OpenClaim.holds_of_wide 3 Tryz.f3 rfl rfl rfl rfl rfl rfl rfl ⟨rfl,rfl,rfl,rfl,rfl⟩ rfl rfl rfl rfl rfl (by kernel_rfl) Tryz.func3 (by kernel_rfl)
  (ob (by kernel_rfl)) (by unfold Func.isWrapper;first | (rw [aa (by decide +kernel)];kernel_rfl) | (rw [ab (by decide +kernel)];exact ⟨rfl,rfl⟩))
  (fun os started H enc _=>Xg hc os started H enc)
end Go.Proofs.YtkkkkondjclcnaaGreat.A
