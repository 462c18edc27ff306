/- How the arguments of the laws are read, by program. -/
import Derived.Test.YtogbakbmphadfaaGreatDoorFrame
import Derived.Test.YtogbakbmphadfaaGreatDoorTypes
import Derived.Test.YtogbakbmphadfaaGreatDoorProg
set_option maxRecDepth 100000
set_option linter.unusedSectionVars false
set_option linter.unusedVariables false
set_option linter.unusedSimpArgs false
namespace Go.Proofs.YtogbakbmphadfaaGreatDoor.A
open Go Go.Proofs
def yd(x:aD):Prop:=(Lit.int .i64 x.At).wf=true∧x.Owner.length≤maxLen∧True∧(x.Names.length≤maxLen∧∀ y∈x.Names,(fun v:(List UInt8)=>v.length≤maxLen) y)
theorem RP[bJ](N:Nat):qi Tryz.prog N 74 aD (fun x:aD=>[(.i .i64 x.At),(.s x.Owner),(.b x.Write),(.l 9 (x.Names.map AV.s))]) yd:=
 (qj Tryz.underlying74 (by kernel_rfl) (bS rfl 1 (by kernel_rfl) (pv Tryz.underlying3 (by kernel_rfl)) (bS rfl 1 (by kernel_rfl) (jW Tryz.underlying9 (by kernel_rfl)) (bS rfl 1 (by kernel_rfl) (GF Tryz.underlying4 (by kernel_rfl)) (bS rfl 1 (by kernel_rfl) (iB AV.s Tryz.underlying41 (by kernel_rfl) (jW Tryz.underlying9 (by kernel_rfl)) (fun _=>⟨rfl,by kernel_rfl,rfl⟩) (by decide)) (tz)))))).map (fun p=>(⟨p.1,p.2.1,p.2.2.1,p.2.2.2.1⟩:aD)) (fun x=>(x.At,x.Owner,x.Write,x.Names,())) (fun _=>rfl) (fun _=>rfl) (fun _ h=>⟨h.1,h.2.1,h.2.2.1,h.2.2.2.1⟩)
inductive eG:ad→Prop where
 | mk (x:ad) (h0:(Lit.int .i64 x.Kind).wf=true) (h1:(Lit.int .i64 x.At).wf=true) (h2:(Lit.int .i64 x.N).wf=true) (h3:x.Name.length≤maxLen) (h4:x.Args.length≤maxLen) (g4:∀ y∈x.Args,eG y):eG x
theorem eG.inv{x:ad}(h:eG x):((Lit.int .i64 x.Kind).wf=true)∧((Lit.int .i64 x.At).wf=true)∧((Lit.int .i64 x.N).wf=true)∧(x.Name.length≤maxLen)∧(x.Args.length≤maxLen∧∀ y∈x.Args,eG y):=by
 cases h with
 | mk _ h0 h1 h2 h3 h4 g4=>exact ⟨h0,h1,h2,h3,⟨h4,g4⟩⟩
theorem NF[bJ]:∀ N M,M≤N→qi Tryz.prog M 44 ad (fun x:ad=>[(.i .i64 x.Kind),(.i .i64 x.At),(.i .i64 x.N),(.s x.Name),(.l 44 (x.Args.map av))]) eG:=by
 intro N
 induction N with
 | zero=>
   intro M hM;obtain rfl:M=0:=by omega
   exact GD (fun _=>by kernel_rfl) (fun _=>by kernel_rfl)
 | succ N ih=>intro M hM;exact (qj Tryz.underlying44 (by kernel_rfl) (bS rfl 1 (by kernel_rfl) (pv Tryz.underlying3 (by kernel_rfl)) (bS rfl 1 (by kernel_rfl) (pv Tryz.underlying3 (by kernel_rfl)) (bS rfl 1 (by kernel_rfl) (pv Tryz.underlying3 (by kernel_rfl)) (bS rfl 1 (by kernel_rfl) (jW Tryz.underlying9 (by kernel_rfl)) (bS rfl 1 (by kernel_rfl) (iB av Tryz.underlying42 (by kernel_rfl) (ih _ (by omega)) (fun _=>by rw [b9];exact ⟨rfl,by kernel_rfl,rfl⟩) (by decide)) (tz))))))).map (fun p=>(⟨p.1,p.2.1,p.2.2.1,p.2.2.2.1,p.2.2.2.2.1⟩:ad)) (fun x=>(x.Kind,x.At,x.N,x.Name,x.Args,())) (fun _=>rfl) (fun _=>rfl) (fun _ h=>.mk _ h.1 h.2.1 h.2.2.1 h.2.2.2.1 h.2.2.2.2.1.1 h.2.2.2.2.1.2)
theorem GH[bJ](N:Nat):qi Tryz.prog N 44 ad (fun x:ad=>[(.i .i64 x.Kind),(.i .i64 x.At),(.i .i64 x.N),(.s x.Name),(.l 44 (x.Args.map av))]) eG:=NF N N (Nat.le_refl _)
inductive fg:aa→Prop where
 | mk (x:aa) (h0:(Lit.int .i64 x.Kind).wf=true) (h1:(Lit.int .i64 x.At).wf=true) (h2:x.Name.length≤maxLen) (h3:x.Other.length≤maxLen) (h4:eG x.Expr) (h5:(x.Args.length≤maxLen∧∀ y∈x.Args,(eG) y)) (h6:x.Then.length≤maxLen) (g6:∀ y∈x.Then,fg y) (h7:x.Else.length≤maxLen) (g7:∀ y∈x.Else,fg y):fg x
theorem fg.inv{x:aa}(h:fg x):((Lit.int .i64 x.Kind).wf=true)∧((Lit.int .i64 x.At).wf=true)∧(x.Name.length≤maxLen)∧(x.Other.length≤maxLen)∧(eG x.Expr)∧((x.Args.length≤maxLen∧∀ y∈x.Args,(eG) y))∧(x.Then.length≤maxLen∧∀ y∈x.Then,fg y)∧(x.Else.length≤maxLen∧∀ y∈x.Else,fg y):=by
 cases h with
 | mk _ h0 h1 h2 h3 h4 h5 h6 g6 h7 g7=>exact ⟨h0,h1,h2,h3,h4,h5,⟨h6,g6⟩,⟨h7,g7⟩⟩
theorem NG[bJ]:∀ N M,M≤N→qi Tryz.prog M 68 aa (fun x:aa=>[(.i .i64 x.Kind),(.i .i64 x.At),(.s x.Name),(.s x.Other),(.i .i64 x.Expr.Kind),(.i .i64 x.Expr.At),(.i .i64 x.Expr.N),(.s x.Expr.Name),(.l 44 (x.Expr.Args.map av)),(.l 44 (x.Args.map av)),(.l 68 (x.Then.map ab)),(.l 68 (x.Else.map ab))]) fg:=by
 intro N
 induction N with
 | zero=>
   intro M hM;obtain rfl:M=0:=by omega
   exact GD (fun _=>by kernel_rfl) (fun _=>by kernel_rfl)
 | succ N ih=>intro M hM;exact (qj Tryz.underlying68 (by kernel_rfl) (bS rfl 1 (by kernel_rfl) (pv Tryz.underlying3 (by kernel_rfl)) (bS rfl 1 (by kernel_rfl) (pv Tryz.underlying3 (by kernel_rfl)) (bS rfl 1 (by kernel_rfl) (jW Tryz.underlying9 (by kernel_rfl)) (bS rfl 1 (by kernel_rfl) (jW Tryz.underlying9 (by kernel_rfl)) (bS rfl 5 (by kernel_rfl) (GH _) (bS rfl 1 (by kernel_rfl) (iB av Tryz.underlying42 (by kernel_rfl) (GH _) (fun _=>by rw [b9];exact ⟨rfl,by kernel_rfl,rfl⟩) (by decide)) (bS rfl 1 (by kernel_rfl) (iB ab Tryz.underlying23 (by kernel_rfl) (ih _ (by omega)) (fun _=>by rw [dR];exact ⟨rfl,by kernel_rfl,rfl⟩) (by decide)) (bS rfl 1 (by kernel_rfl) (iB ab Tryz.underlying23 (by kernel_rfl) (ih _ (by omega)) (fun _=>by rw [dR];exact ⟨rfl,by kernel_rfl,rfl⟩) (by decide)) (tz)))))))))).map (fun p=>(⟨p.1,p.2.1,p.2.2.1,p.2.2.2.1,p.2.2.2.2.1,p.2.2.2.2.2.1,p.2.2.2.2.2.2.1,p.2.2.2.2.2.2.2.1⟩:aa)) (fun x=>(x.Kind,x.At,x.Name,x.Other,x.Expr,x.Args,x.Then,x.Else,())) (fun _=>rfl) (fun _=>rfl) (fun _ h=>.mk _ h.1 h.2.1 h.2.2.1 h.2.2.2.1 h.2.2.2.2.1 h.2.2.2.2.2.1 h.2.2.2.2.2.2.1.1 h.2.2.2.2.2.2.1.2 h.2.2.2.2.2.2.2.1.1 h.2.2.2.2.2.2.2.1.2)
theorem J6[bJ](N:Nat):qi Tryz.prog N 68 aa (fun x:aa=>[(.i .i64 x.Kind),(.i .i64 x.At),(.s x.Name),(.s x.Other),(.i .i64 x.Expr.Kind),(.i .i64 x.Expr.At),(.i .i64 x.Expr.N),(.s x.Expr.Name),(.l 44 (x.Expr.Args.map av)),(.l 44 (x.Args.map av)),(.l 68 (x.Then.map ab)),(.l 68 (x.Else.map ab))]) fg:=NG N N (Nat.le_refl _)
def Bp(x:aE):Prop:=(Lit.int .i64 x.Kind).wf=true∧(Lit.int .i64 x.At).wf=true∧x.Name.length≤maxLen∧x.Other.length≤maxLen∧True∧(x.Label.length≤maxLen∧∀ y∈x.Label,(yd) y)∧(x.Params.length≤maxLen∧∀ y∈x.Params,(fun v:(List UInt8)=>v.length≤maxLen) y)∧(x.Body.length≤maxLen∧∀ y∈x.Body,(fg) y)∧eG x.Result
theorem RQ[bJ](N:Nat):qi Tryz.prog N 46 aE (fun x:aE=>[(.i .i64 x.Kind),(.i .i64 x.At),(.s x.Name),(.s x.Other),(.b x.Given),(.l 74 (x.Label.map aA)),(.l 9 (x.Params.map AV.s)),(.l 68 (x.Body.map ab)),(.i .i64 x.Result.Kind),(.i .i64 x.Result.At),(.i .i64 x.Result.N),(.s x.Result.Name),(.l 44 (x.Result.Args.map av))]) Bp:=
 (qj Tryz.underlying46 (by kernel_rfl) (bS rfl 1 (by kernel_rfl) (pv Tryz.underlying3 (by kernel_rfl)) (bS rfl 1 (by kernel_rfl) (pv Tryz.underlying3 (by kernel_rfl)) (bS rfl 1 (by kernel_rfl) (jW Tryz.underlying9 (by kernel_rfl)) (bS rfl 1 (by kernel_rfl) (jW Tryz.underlying9 (by kernel_rfl)) (bS rfl 1 (by kernel_rfl) (GF Tryz.underlying4 (by kernel_rfl)) (bS rfl 1 (by kernel_rfl) (iB aA Tryz.underlying40 (by kernel_rfl) (RP _) (fun _=>⟨rfl,by kernel_rfl,rfl⟩) (by decide)) (bS rfl 1 (by kernel_rfl) (iB AV.s Tryz.underlying41 (by kernel_rfl) (jW Tryz.underlying9 (by kernel_rfl)) (fun _=>⟨rfl,by kernel_rfl,rfl⟩) (by decide)) (bS rfl 1 (by kernel_rfl) (iB ab Tryz.underlying23 (by kernel_rfl) (J6 _) (fun _=>by rw [dR];exact ⟨rfl,by kernel_rfl,rfl⟩) (by decide)) (bS rfl 5 (by kernel_rfl) (GH _) (tz))))))))))).map (fun p=>(⟨p.1,p.2.1,p.2.2.1,p.2.2.2.1,p.2.2.2.2.1,p.2.2.2.2.2.1,p.2.2.2.2.2.2.1,p.2.2.2.2.2.2.2.1,p.2.2.2.2.2.2.2.2.1⟩:aE)) (fun x=>(x.Kind,x.At,x.Name,x.Other,x.Given,x.Label,x.Params,x.Body,x.Result,())) (fun _=>rfl) (fun _=>rfl) (fun _ h=>⟨h.1,h.2.1,h.2.2.1,h.2.2.2.1,h.2.2.2.2.1,h.2.2.2.2.2.1,h.2.2.2.2.2.2.1,h.2.2.2.2.2.2.2.1,h.2.2.2.2.2.2.2.2.1⟩)
def J7(x:Tree):Prop:=(x.Decls.length≤maxLen∧∀ y∈x.Decls,(Bp) y)∧(x.Main.length≤maxLen∧∀ y∈x.Main,(fg) y)
theorem RR[bJ](N:Nat):qi Tryz.prog N 25 Tree (fun x:Tree=>[(.l 46 (x.Decls.map au)),(.l 68 (x.Main.map ab))]) J7:=
 (qj Tryz.underlying25 (by kernel_rfl) (bS rfl 1 (by kernel_rfl) (iB au Tryz.underlying22 (by kernel_rfl) (RQ _) (fun _=>⟨rfl,by kernel_rfl,rfl⟩) (by decide)) (bS rfl 1 (by kernel_rfl) (iB ab Tryz.underlying23 (by kernel_rfl) (J6 _) (fun _=>by rw [dR];exact ⟨rfl,by kernel_rfl,rfl⟩) (by decide)) (tz)))).map (fun p=>(⟨p.1,p.2.1⟩:Tree)) (fun x=>(x.Decls,x.Main,())) (fun _=>rfl) (fun _=>rfl) (fun _ h=>⟨h.1,h.2.1⟩)
def nB(ys:List AV):Prop:=∃ (a0:Tree),(J7 a0)∧ys=[(.a [(.l 46 (a0.Decls.map au)),(.l 68 (a0.Main.map ab))])]
theorem Df(B:bJ):GG Tryz.prog [25] nB:=by
 intro H enc W vs ds ps base hb hok h
 obtain ⟨ys,⟨hg,hbk⟩,hl⟩:=(J5 (Hm Ij Tryz.underlying25 (fun N=>RR N) (fun _=>rfl)) (Lz)) H enc W vs ds ps base hb hok h
 refine ⟨ys,⟨?_,hbk⟩,hl⟩
 obtain ⟨a0,_,v0,rfl,rfl⟩:=hg
 exact ⟨a0,v0,rfl⟩
end Go.Proofs.YtogbakbmphadfaaGreatDoor.A
