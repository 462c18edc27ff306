/- How the arguments of the laws are read, by program. -/
import Derived.Test.YtlmphbbhaeampaaGreatFrame
import Derived.Test.YtlmphbbhaeampaaGreatTypes
import Derived.Test.YtlmphbbhaeampaaGreatProg
import Derived.Test.YtlmphbbhaeampaaGreatTab
set_option linter.all false
set_option maxRecDepth 100000
namespace Go.Proofs.YtlmphbbhaeampaaGreat.A
open Go Go.Proofs
def PA(x:dv):Prop:=(Lit.int .i64 x.Who).wf=true∧(Lit.int .i64 x.For).wf=true
theorem adF[cj](N:Nat):rb Tryz.prog N 79 dv (fun x:dv=>[(.i .i64 x.Who),(.i .i64 x.For)]) PA:=
 (l9 Tryz.underlying79 (by kernel_rfl) (cK rfl 1 (by kernel_rfl) (jz Tryz.underlying3 (by kernel_rfl)) (cK rfl 1 (by kernel_rfl) (jz Tryz.underlying3 (by kernel_rfl)) (pA)))).map (fun p=>(⟨p.1,p.2.1⟩:dv)) (fun x=>(x.Who,x.For,())) (fun _=>rfl) (fun _=>rfl) (fun _ h=>⟨h.1,h.2.1⟩)
def NC(x:an):Prop:=(Lit.int .i64 x.Many).wf=true∧(x.Grants.length≤maxLen∧∀ y∈x.Grants,(PA) y)
theorem adG[cj](N:Nat):rb Tryz.prog N 24 an (fun x:an=>[(.i .i64 x.Many),(.l 79 (x.Grants.map bW))]) NC:=
 (l9 Tryz.underlying24 (by kernel_rfl) (cK rfl 1 (by kernel_rfl) (jz Tryz.underlying3 (by kernel_rfl)) (cK rfl 1 (by kernel_rfl) (ed bW Tryz.underlying22 (by kernel_rfl) (adF _) (fun _=>⟨rfl,by kernel_rfl,rfl⟩) (by decide)) (pA)))).map (fun p=>(⟨p.1,p.2.1⟩:an)) (fun x=>(x.Many,x.Grants,())) (fun _=>rfl) (fun _=>rfl) (fun _ h=>⟨h.1,h.2.1⟩)
def GP(x:cb):Prop:=(Lit.int .i64 x.Owner).wf=true∧(x.Names.length≤maxLen∧∀ y∈x.Names,(fun v:Int=>(Lit.int .i64 v).wf=true) y)
theorem PB[cj](N:Nat):rb Tryz.prog N 155 cb (fun x:cb=>[(.i .i64 x.Owner),(.l 3 (x.Names.map (AV.i .i64)))]) GP:=
 (l9 Tryz.underlying155 (by kernel_rfl) (cK rfl 1 (by kernel_rfl) (jz Tryz.underlying3 (by kernel_rfl)) (cK rfl 1 (by kernel_rfl) (ed (AV.i .i64) Tryz.underlying25 (by kernel_rfl) (jz Tryz.underlying3 (by kernel_rfl)) (fun _=>⟨rfl,by kernel_rfl,rfl⟩) (by decide)) (pA)))).map (fun p=>(⟨p.1,p.2.1⟩:cb)) (fun x=>(x.Owner,x.Names,())) (fun _=>rfl) (fun _=>rfl) (fun _ h=>⟨h.1,h.2.1⟩)
def Fe(x:Label):Prop:=(x.Read.length≤maxLen∧∀ y∈x.Read,(GP) y)∧(x.Write.length≤maxLen∧∀ y∈x.Write,(GP) y)
theorem ND[cj](N:Nat):rb Tryz.prog N 83 Label (fun x:Label=>[(.l 155 (x.Read.map cg)),(.l 155 (x.Write.map cg))]) Fe:=
 (l9 Tryz.underlying83 (by kernel_rfl) (cK rfl 1 (by kernel_rfl) (ed cg Tryz.underlying81 (by kernel_rfl) (PB _) (fun _=>⟨rfl,by kernel_rfl,rfl⟩) (by decide)) (cK rfl 1 (by kernel_rfl) (ed cg Tryz.underlying81 (by kernel_rfl) (PB _) (fun _=>⟨rfl,by kernel_rfl,rfl⟩) (by decide)) (pA)))).map (fun p=>(⟨p.1,p.2.1⟩:Label)) (fun x=>(x.Read,x.Write,())) (fun _=>rfl) (fun _=>rfl) (fun _ h=>⟨h.1,h.2.1⟩)
def VD(x:Var):Prop:=True∧Fe x.Label
theorem adH[cj](N:Nat):rb Tryz.prog N 86 Var (fun x:Var=>[(.b x.Known),(.l 155 (x.Label.Read.map cg)),(.l 155 (x.Label.Write.map cg))]) VD:=
 (l9 Tryz.underlying86 (by kernel_rfl) (cK rfl 1 (by kernel_rfl) (UQ Tryz.underlying4 (by kernel_rfl)) (cK rfl 2 (by kernel_rfl) (ND _) (pA)))).map (fun p=>(⟨p.1,p.2.1⟩:Var)) (fun x=>(x.Known,x.Label,())) (fun _=>rfl) (fun _=>rfl) (fun _ h=>⟨h.1,h.2.1⟩)
inductive vK:aK→Prop where
 | mk (x:aK) (h0:(Lit.int .i64 x.Kind).wf=true) (h1:(Lit.int .i64 x.N).wf=true) (h2:x.Args.length≤maxLen) (g2:∀ y∈x.Args,vK y):vK x
theorem WG[cj]:∀ N M,M≤N→rb Tryz.prog M 89 aK (fun x:aK=>[(.i .i64 x.Kind),(.i .i64 x.N),(.l 89 (x.Args.map bM))]) vK:=by
 intro N
 induction N with
 | zero=>
   intro M hM;obtain rfl:M=0:=by omega
   exact Nz (fun _=>by kernel_rfl) (fun _=>by kernel_rfl)
 | succ N ih=>intro M hM;exact (l9 Tryz.underlying89 (by kernel_rfl) (cK rfl 1 (by kernel_rfl) (jz Tryz.underlying3 (by kernel_rfl)) (cK rfl 1 (by kernel_rfl) (jz Tryz.underlying3 (by kernel_rfl)) (cK rfl 1 (by kernel_rfl) (ed bM Tryz.underlying87 (by kernel_rfl) (ih _ (by omega)) (fun _=>by rw [fT];exact ⟨rfl,by kernel_rfl,rfl⟩) (by decide)) (pA))))).map (fun p=>(⟨p.1,p.2.1,p.2.2.1⟩:aK)) (fun x=>(x.Kind,x.N,x.Args,())) (fun _=>rfl) (fun _=>rfl) (fun _ h=>.mk _ h.1 h.2.1 h.2.2.1.1 h.2.2.1.2)
theorem NF[cj](N:Nat):rb Tryz.prog N 89 aK (fun x:aK=>[(.i .i64 x.Kind),(.i .i64 x.N),(.l 89 (x.Args.map bM))]) vK:=WG N N (aY _)
inductive zn:Stmt→Prop where
 | mk (x:Stmt) (h0:(Lit.int .i64 x.Kind).wf=true) (h1:(Lit.int .i64 x.Var).wf=true) (h2:(Lit.int .i64 x.Other).wf=true) (h3:vK x.Expr) (h4:(x.Args.length≤maxLen∧∀ y∈x.Args,(vK) y)) (h5:x.Then.length≤maxLen) (g5:∀ y∈x.Then,zn y) (h6:x.Else.length≤maxLen) (g6:∀ y∈x.Else,zn y):zn x
theorem UT[cj]:∀ N M,M≤N→rb Tryz.prog M 111 Stmt (fun x:Stmt=>[(.i .i64 x.Kind),(.i .i64 x.Var),(.i .i64 x.Other),(.i .i64 x.Expr.Kind),(.i .i64 x.Expr.N),(.l 89 (x.Expr.Args.map bM)),(.l 89 (x.Args.map bM)),(.l 111 (x.Then.map bK)),(.l 111 (x.Else.map bK))]) zn:=by
 intro N
 induction N with
 | zero=>
   intro M hM;obtain rfl:M=0:=by omega
   exact Nz (fun _=>by kernel_rfl) (fun _=>by kernel_rfl)
 | succ N ih=>intro M hM;exact (l9 Tryz.underlying111 (by kernel_rfl) (cK rfl 1 (by kernel_rfl) (jz Tryz.underlying3 (by kernel_rfl)) (cK rfl 1 (by kernel_rfl) (jz Tryz.underlying3 (by kernel_rfl)) (cK rfl 1 (by kernel_rfl) (jz Tryz.underlying3 (by kernel_rfl)) (cK rfl 3 (by kernel_rfl) (NF _) (cK rfl 1 (by kernel_rfl) (ed bM Tryz.underlying87 (by kernel_rfl) (NF _) (fun _=>by rw [fT];exact ⟨rfl,by kernel_rfl,rfl⟩) (by decide)) (cK rfl 1 (by kernel_rfl) (ed bK Tryz.underlying29 (by kernel_rfl) (ih _ (by omega)) (fun _=>by rw [mA];exact ⟨rfl,by kernel_rfl,rfl⟩) (by decide)) (cK rfl 1 (by kernel_rfl) (ed bK Tryz.underlying29 (by kernel_rfl) (ih _ (by omega)) (fun _=>by rw [mA];exact ⟨rfl,by kernel_rfl,rfl⟩) (by decide)) (pA))))))))).map (fun p=>(⟨p.1,p.2.1,p.2.2.1,p.2.2.2.1,p.2.2.2.2.1,p.2.2.2.2.2.1,p.2.2.2.2.2.2.1⟩:Stmt)) (fun x=>(x.Kind,x.Var,x.Other,x.Expr,x.Args,x.Then,x.Else,())) (fun _=>rfl) (fun _=>rfl) (fun _ h=>.mk _ h.1 h.2.1 h.2.2.1 h.2.2.2.1 h.2.2.2.2.1 h.2.2.2.2.2.1.1 h.2.2.2.2.2.1.2 h.2.2.2.2.2.2.1.1 h.2.2.2.2.2.2.1.2)
theorem PC[cj](N:Nat):rb Tryz.prog N 111 Stmt (fun x:Stmt=>[(.i .i64 x.Kind),(.i .i64 x.Var),(.i .i64 x.Other),(.i .i64 x.Expr.Kind),(.i .i64 x.Expr.N),(.l 89 (x.Expr.Args.map bM)),(.l 89 (x.Args.map bM)),(.l 111 (x.Then.map bK)),(.l 111 (x.Else.map bK))]) zn:=UT N N (aY _)
def Tb(x:Func):Prop:=(x.Params.length≤maxLen∧∀ y∈x.Params,(fun v:Int=>(Lit.int .i64 v).wf=true) y)∧(x.Body.length≤maxLen∧∀ y∈x.Body,(zn) y)∧vK x.Result
theorem adI[cj](N:Nat):rb Tryz.prog N 91 Func (fun x:Func=>[(.l 3 (x.Params.map (AV.i .i64))),(.l 111 (x.Body.map bK)),(.i .i64 x.Result.Kind),(.i .i64 x.Result.N),(.l 89 (x.Result.Args.map bM))]) Tb:=
 (l9 Tryz.underlying91 (by kernel_rfl) (cK rfl 1 (by kernel_rfl) (ed (AV.i .i64) Tryz.underlying25 (by kernel_rfl) (jz Tryz.underlying3 (by kernel_rfl)) (fun _=>⟨rfl,by kernel_rfl,rfl⟩) (by decide)) (cK rfl 1 (by kernel_rfl) (ed bK Tryz.underlying29 (by kernel_rfl) (PC _) (fun _=>by rw [mA];exact ⟨rfl,by kernel_rfl,rfl⟩) (by decide)) (cK rfl 3 (by kernel_rfl) (NF _) (pA))))).map (fun p=>(⟨p.1,p.2.1,p.2.2.1⟩:Func)) (fun x=>(x.Params,x.Body,x.Result,())) (fun _=>rfl) (fun _=>rfl) (fun _ h=>⟨h.1,h.2.1,h.2.2.1⟩)
def KC(x:Program):Prop:=NC x.an∧(x.Speak.length≤maxLen∧∀ y∈x.Speak,(fun v:Int=>(Lit.int .i64 v).wf=true) y)∧(x.Ins.length≤maxLen∧∀ y∈x.Ins,(Fe) y)∧(x.Outs.length≤maxLen∧∀ y∈x.Outs,(Fe) y)∧(x.Vars.length≤maxLen∧∀ y∈x.Vars,(VD) y)∧(x.Funcs.length≤maxLen∧∀ y∈x.Funcs,(Tb) y)∧(x.Main.length≤maxLen∧∀ y∈x.Main,(zn) y)
theorem adJ[cj](N:Nat):rb Tryz.prog N 31 Program (fun x:Program=>[(.i .i64 x.an.Many),(.l 79 (x.an.Grants.map bW)),(.l 3 (x.Speak.map (AV.i .i64))),(.l 83 (x.Ins.map aS)),(.l 83 (x.Outs.map aS)),(.l 86 (x.Vars.map dA)),(.l 91 (x.Funcs.map cQ)),(.l 111 (x.Main.map bK))]) KC:=
 (l9 Tryz.underlying31 (by kernel_rfl) (cK rfl 2 (by kernel_rfl) (adG _) (cK rfl 1 (by kernel_rfl) (ed (AV.i .i64) Tryz.underlying25 (by kernel_rfl) (jz Tryz.underlying3 (by kernel_rfl)) (fun _=>⟨rfl,by kernel_rfl,rfl⟩) (by decide)) (cK rfl 1 (by kernel_rfl) (ed aS Tryz.underlying26 (by kernel_rfl) (ND _) (fun _=>⟨rfl,by kernel_rfl,rfl⟩) (by decide)) (cK rfl 1 (by kernel_rfl) (ed aS Tryz.underlying26 (by kernel_rfl) (ND _) (fun _=>⟨rfl,by kernel_rfl,rfl⟩) (by decide)) (cK rfl 1 (by kernel_rfl) (ed dA Tryz.underlying27 (by kernel_rfl) (adH _) (fun _=>⟨rfl,by kernel_rfl,rfl⟩) (by decide)) (cK rfl 1 (by kernel_rfl) (ed cQ Tryz.underlying28 (by kernel_rfl) (adI _) (fun _=>⟨rfl,by kernel_rfl,rfl⟩) (by decide)) (cK rfl 1 (by kernel_rfl) (ed bK Tryz.underlying29 (by kernel_rfl) (PC _) (fun _=>by rw [mA];exact ⟨rfl,by kernel_rfl,rfl⟩) (by decide)) (pA))))))))).map (fun p=>(⟨p.1,p.2.1,p.2.2.1,p.2.2.2.1,p.2.2.2.2.1,p.2.2.2.2.2.1,p.2.2.2.2.2.2.1⟩:Program)) (fun x=>(x.an,x.Speak,x.Ins,x.Outs,x.Vars,x.Funcs,x.Main,())) (fun _=>rfl) (fun _=>rfl) (fun _ h=>⟨h.1,h.2.1,h.2.2.1,h.2.2.2.1,h.2.2.2.2.1,h.2.2.2.2.2.1,h.2.2.2.2.2.2.1⟩)
def qv(ys:List AV):Prop:=∃ (a0:Program)(a1:Int)(a2:(List (List Int)))(a3:(List (List Int)))(a4:Int),(KC a0)∧((Lit.int .i64 a1).wf=true)∧((a2.length≤maxLen∧∀ y∈a2,(fun v:(List Int)=>(v.length≤maxLen∧∀ y∈v,(fun v:Int=>(Lit.int .i64 v).wf=true) y)) y))∧((a3.length≤maxLen∧∀ y∈a3,(fun v:(List Int)=>(v.length≤maxLen∧∀ y∈v,(fun v:Int=>(Lit.int .i64 v).wf=true) y)) y))∧((Lit.int .i64 a4).wf=true)∧ys=[(.a (aD a0)),(.i .i64 a1),(.l 25 (a2.map (bO 3 (AV.i .i64)))),(.l 25 (a3.map (bO 3 (AV.i .i64)))),(.i .i64 a4)]
theorem Iu(B:cj):NB Tryz.prog [31,3,46,46,3] qv:=by
 intro H enc W vs ds ps base hb d h
 obtain ⟨ys,⟨hg,e⟩,hl⟩:=(wS (Oo qP Tryz.underlying31 (fun N=>adJ N) (fun _=>rfl)) (wS (CW (fun x:Int=>(.i .i64 x)) (fun _=>(jz Tryz.underlying3 (by kernel_rfl))) (Ta Tryz.underlying3)) (wS (CW (fun x:(List (List Int))=>(.l 25 (x.map (bO 3 (AV.i .i64))))) (fun _=>(ed (bO 3 (AV.i .i64)) Tryz.underlying46 (by kernel_rfl) (ed (AV.i .i64) Tryz.underlying25 (by kernel_rfl) (jz Tryz.underlying3 (by kernel_rfl)) (fun _=>⟨rfl,by kernel_rfl,rfl⟩) (by decide)) (fun _=>⟨rfl,by kernel_rfl,rfl⟩) (by decide))) (NA Tryz.underlying46)) (wS (CW (fun x:(List (List Int))=>(.l 25 (x.map (bO 3 (AV.i .i64))))) (fun _=>(ed (bO 3 (AV.i .i64)) Tryz.underlying46 (by kernel_rfl) (ed (AV.i .i64) Tryz.underlying25 (by kernel_rfl) (jz Tryz.underlying3 (by kernel_rfl)) (fun _=>⟨rfl,by kernel_rfl,rfl⟩) (by decide)) (fun _=>⟨rfl,by kernel_rfl,rfl⟩) (by decide))) (NA Tryz.underlying46)) (wS (CW (fun x:Int=>(.i .i64 x)) (fun _=>(jz Tryz.underlying3 (by kernel_rfl))) (Ta Tryz.underlying3)) (US)))))) H enc W vs ds ps base hb d h
 refine ⟨ys,⟨?_,e⟩,hl⟩
 obtain ⟨a0,_,v0,⟨a1,_,v1,⟨a2,_,v2,⟨a3,_,v3,⟨a4,_,v4,rfl,rfl⟩,rfl⟩,rfl⟩,rfl⟩,rfl⟩:=hg
 exact ⟨a0,a1,a2,a3,a4,v0,v1,v2,v3,v4,rfl⟩
end Go.Proofs.YtlmphbbhaeampaaGreat.A
namespace Go.Proofs.YtlmphbbhaeampaaGreat.A
open Go Go.Proofs Go.ChangeShapes Go.WideShapes Go.ChangeAt Go.RowKit
theorem aia:ownKnob Tryz.prog.godebug=none:=by kernel_rfl
def S7:List TypeId:=[31,3,46,24,25,26,27,28,29,22,83,86,91,111,79,81,4,89,87,155]
theorem WH(hc:∀ ys,qv ys→call G Ω0 ⟨0,false⟩ 7 ys (fun _=>none)=some (.ret (.b true),fun _=>none))(os:Os)(started:os.Started)(H:Type)(enc:TypeId×Value→H) :
  ReturnsInHanded {} Tryz.checked os 7 .any (Rows.watchReadsSpec.pre6 enc Tryz.prog Tryz.f7 Rows.watchReadsRow.domain false) (Rows.watchReadsSpec.post enc Tryz.prog Tryz.f7 false true false false):=by
 refine returnsInHanded_of_change (C:=Tryz.checked) aia started (by kernel_rfl) Tryz.func7
  (ChangeSpec.witness6 (enc:=enc) (C:=Tryz.checked) false ⟨#[],#[.agg #[.int .i64 0,.slice none 0 0,.slice none 0 0,.slice none 0 0,.slice none 0 0,.slice none 0 0,.slice none 0 0,.slice none 0 0],.int .i64 0,.slice none 0 0,.slice none 0 0,.int .i64 0],[]⟩ 8 (by kernel_rfl) (by kernel_rfl) (by kernel_rfl) (by kernel_rfl)) ?_
 intro W base args ds gs before c hW _ _
 exact Oq (P:=Tryz.prog) (R:=call G Ω0) (fn:=Tryz.f7) (S:=S7) (tb:=4) (Good:=fun _=>qv) (by kernel_rfl) (fun B=>@sound B) rfl (by kernel_rfl) Tryz.underlying4
  (fun ds h=>by
   have hl:ds.length=5:=by rw [h];rw [Tryz.params7];rfl
   match ds,hl with
   | [d0,d1,d2,d3,d4],_=>rfl)
  (by rw [Tryz.params7];exact fun t ht=>by have:=(cI.1 (show ([31,3,46,46,3]:List TypeId).all (fun t=>S7.contains t)=true by kernel_rfl)) t ht;simpa using this)
  (by rw [Tryz.params7];exact Iu) (fun _=>hc) W base args ds gs before c hW (fun q hq=>by cases hq)
theorem JI(hc:∀ ys,qv ys→call G Ω0 ⟨0,false⟩ 7 ys (fun _=>none)=some (.ret (.b true),fun _=>none)):Rows.WatchReadsSaid:=
 OpenClaim.holds_of_wide 7 Tryz.f7 rfl rfl rfl rfl rfl rfl rfl ⟨rfl,rfl,rfl,rfl,rfl⟩ rfl rfl rfl rfl rfl (by kernel_rfl) Tryz.func7 (by kernel_rfl)
  (sM (by kernel_rfl)) (by unfold Func.isWrapper;first | (rw [af (by decide +kernel)];kernel_rfl) | (rw [ab (by decide +kernel)];exact ⟨rfl,rfl⟩))
  (fun os started H enc _=>WH hc os started H enc)
end Go.Proofs.YtlmphbbhaeampaaGreat.A
