/- What judge.Raw tells of each command, and of all. -/
import Derived.Test.YtkkkkondjclcnaaGreatPlace
import Derived.Test.YtkkkkondjclcnaaGreatInfP
import Derived.Test.YtkkkkondjclcnaaGreatSpkS
import Derived.Test.YtkkkkondjclcnaaGreatJudgeF
set_option linter.unusedSectionVars false
set_option linter.unusedVariables false
set_option linter.unusedSimpArgs false
set_option linter.constructorNameAsVariable false
namespace Go.Proofs.YtkkkkondjclcnaaGreat.A
open Go
def lA(a k:Int)(b:Bool):List (Int×Int):=if b=true then [(a,k)] else []
theorem oL(f:List (Int×Int))(a k:Int)(b:Bool):cF f a k b=f++lA a k b:=by
 unfold cF lA
 cases b<;>simp
theorem Ns(a k:Int)(b:Bool):(lA a k b).length≤1:=by unfold lA;split<;>simp
def EN(l:List Label)(k:Int):Label:=l.getD k.toNat ⟨[],[]⟩
variable [Lp]
noncomputable def vW(p:Program)(V:List Level)(s:Stmt)(pl:Level):List cb:=(fw p V s pl).getD []
def okF(p:Program)(V:List Level)(f:cb):Bool:=f.Func||ly (MM p) f.Level (V.getD f.To.toNat (dZ (MM p)))
noncomputable def DL(p:Program)(V:List Level)(s:Stmt)(pl:Level):Bool:=(vW p V s pl).all (okF p V)
noncomputable def tT(p:Program)(V:List Level)(s:Stmt)(a:Int)(pl:Level):List (Int×Int):=
 if s.Kind=1 then lA a 1 (!DL p V s pl)
 else if s.Kind=2 then lA a 2 (!DL p V s pl)
 else if s.Kind=3 then lA a 3 (if DL p V s pl=true then !ly (MM p) pl (fZ p.aa (EN p.Ins s.Other)) else true)
 else if s.Kind=4 then lA a 4 (!ly (MM p) (cg (MM p) pl (gX (MM p) V s.Expr)) (fZ p.aa (EN p.Outs s.Other)))
 else if s.Kind=5∨s.Kind=6 then
  lA a 5 (!ly (MM p) pl (V.getD s.Var.toNat (dZ (MM p))))++(lA a 6 (Bn p s)++(lA a 7 (Bo p s)++
   (if s.Kind=5 then lA a 8 (!sO (MM p) (gX (MM p) V s.Expr).Writers (V.getD s.Var.toNat (dZ (MM p))).Writers)++lA a 9 (yW p (cg (MM p) (gX (MM p) V s.Expr) pl))
    else lA a 8 (!sO (MM p) (V.getD s.Var.toNat (dZ (MM p))).Readers (gX (MM p) V s.Expr).Readers))))
 else []
theorem LF(p:Program)(V:List Level)(s:Stmt)(a:Int)(pl:Level):(tT p V s a pl).length≤5:=by
 have t:∀ k b,(lA a k b).length≤1:=Ns a
 unfold tT
 split
 ·exact Nat.le_trans (t _ _) (by decide)
 split
 ·exact Nat.le_trans (t _ _) (by decide)
 split
 ·exact Nat.le_trans (t _ _) (by decide)
 split
 ·exact Nat.le_trans (t _ _) (by decide)
 split
 ·simp only [List.length_append]
  have a5:=t 5 (!ly (MM p) pl (V.getD s.Var.toNat (dZ (MM p))))
  have a6:=t 6 (Bn p s)
  have a7:=t 7 (Bo p s)
  split
  ·have a8:=t 8 (!sO (MM p) (gX (MM p) V s.Expr).Writers (V.getD s.Var.toNat (dZ (MM p))).Writers)
   have a9:=t 9 (yW p (cg (MM p) (gX (MM p) V s.Expr) pl))
   rw [List.length_append];omega
  ·have a8:=t 8 (!sO (MM p) (V.getD s.Var.toNat (dZ (MM p))).Readers (gX (MM p) V s.Expr).Readers)
   omega
 ·simp
section
variable {p:Program}(h:pV p)(ho:zy p){V F:List Level}(hV:gY p V F)
include h ho hV
theorem Vy{n:Int}(h0:0≤n)(h1:n<p.Vars.length):V[n.toNat]? =some (V.getD n.toNat (dZ (MM p)))∧bz (MM p) (V.getD n.toNat (dZ (MM p))):=by
 have hi:n.toNat<V.length:=by rw [hV.vl];omega
 have hq:=List.getElem?_eq_getElem hi
 have hd:V.getD n.toNat (dZ (MM p))=V[n.toNat]:=by rw [List.getD_eq_getElem?_getD,hq];rfl
 rw [hd]
 exact ⟨hq,hV.vs _ (List.getElem_mem hi)⟩
theorem LG{f:cb}(hf:sa p f):yj V f=some (!okF p V f):=by
 obtain ⟨h1,h2,h3⟩:=hf
 unfold yj okF
 cases hfn:f.Func with
 | true=>rw [if_pos rfl];rfl
 | false=>
  rw [hfn,if_neg (by simp)] at h3
  obtain ⟨g1,g2⟩:=Vy h ho hV h2 (by omega)
  rw [if_neg (by simp),eb h2,Option.bind_some,g1,Option.bind_some,sQ h.small h1 g2]
  rfl
theorem Ii:∀ fs:List cb,(∀ f∈fs,sa p f)→yX V fs=some (!fs.all (okF p V))
 | [],_=>rfl
 | f::r,hf=>by
  rw [yX,LG h ho hV (hf f (by simp)),Option.bind_some,List.all_cons]
  cases okF p V f with
  | true=>rw [if_neg (by simp)];simpa using Ii r fun x hx=>hf x (by simp [hx])
  | false=>rw [if_pos (by simp)];rfl
section
variable {i:Nat}(hi:i≤p.Funcs.length){s:Stmt}(hs:bg p i s=0){pl:Level}(hpl:bz (MM p) pl)
include hi hs hpl
theorem Nt:fw p V s pl=some (vW p V s pl)∧(∀ f∈vW p V s pl,sa p f)∧(vW p V s pl).length≤10:=by
 obtain ⟨_,r,r',a1,a2,a3,a4,a5⟩:=yS h ho hi hV hV (HR _ _) hpl hpl (le_refl _ _) hs
 have:vW p V s pl=r:=by unfold vW;rw [a1];rfl
 rw [this]
 exact ⟨a1,a4,a5⟩
theorem Nu:sb p V s pl=some (DL p V s pl):=by
 obtain ⟨a1,a2,a3⟩:=Nt h ho hV hi hs hpl
 unfold sb DL
 rw [a1,Option.bind_some,if_pos (by omega),Ii h ho hV _ a2]
 simp
theorem PO{a:Nat}{f:List (Int×Int)}(hf:f.length≤999990):uW p (nj p) V a s pl f=some (f++tT p V s a pl):=by
 obtain ⟨g1,g2,g3,g4,g5,g6⟩:=vd hs
 have hfl:=Nu h ho hV hi hs hpl
 unfold uW tT
 rw [if_pos hf]
 by_cases k1:s.Kind=1
 ·rw [if_pos k1,if_pos k1,hfl,Option.map_some,oL]
 rw [if_neg k1,if_neg k1]
 by_cases k2:s.Kind=2
 ·rw [if_pos k2,if_pos k2,hfl,Option.map_some,oL]
 rw [if_neg k2,if_neg k2]
 by_cases k3:s.Kind=3
 ·rw [if_pos k3,if_pos k3]
  have v2:=g3 (by rw [k3];rfl)
  have e3:fY p i s.Kind=p.Ins.length:=by rw [k3];rfl
  have hlt:s.Other.toNat<p.Ins.length:=by omega
  have hd:EN p.Ins s.Other=p.Ins[s.Other.toNat]:=by unfold EN;rw [List.getD_eq_getElem?_getD,List.getElem?_eq_getElem hlt];rfl
  have hl:=h.ins _ (List.getElem_mem hlt)
  unfold Ig
  rw [hfl,Option.bind_some,hd]
  cases DL p V s pl with
  | false=>rw [if_neg (by simp),if_neg (by simp),Option.map_some,oL]
  | true=>
   rw [if_pos rfl,if_pos rfl,eb v2.1,Option.bind_some,List.getElem?_eq_getElem hlt,Option.bind_some,Lw _ h.eG _ hl,Option.bind_some,sQ h.small hpl (tq _ _)]
   simp only [Option.map_some,oL]
 rw [if_neg k3,if_neg k3]
 by_cases k4:s.Kind=4
 ·rw [if_pos k4,if_pos k4]
  have v2:=g3 (by rw [k4];rfl)
  have e3:fY p i s.Kind=p.Outs.length:=by rw [k4];rfl
  have hlt:s.Other.toNat<p.Outs.length:=by omega
  have hd:EN p.Outs s.Other=p.Outs[s.Other.toNat]:=by unfold EN;rw [List.getD_eq_getElem?_getD,List.getElem?_eq_getElem hlt];rfl
  have hl:=h.outs _ (List.getElem_mem hlt)
  have he:=g5 (by rw [k4];rfl)
  obtain ⟨l1,l2⟩:=Cm h hV he
  unfold Ih
  rw [l1,Option.bind_some,tP h.small hpl l2,Option.bind_some,eb v2.1,Option.bind_some,List.getElem?_eq_getElem hlt,Option.bind_some,Lw _ h.eG _ hl,Option.bind_some,sQ h.small (dC _ _ _) (tq _ _),hd]
  simp only [Option.map_some,oL]
 rw [if_neg k4,if_neg k4]
 by_cases k56:s.Kind=5∨s.Kind=6
 ·rw [if_pos k56,if_pos k56]
  have v1:=g2 (by rcases k56 with k | k<;>(rw [k];rfl))
  have he:=g5 (by rcases k56 with k | k<;>(rw [k];rfl))
  obtain ⟨l1,l2⟩:=Cm h hV he
  obtain ⟨q1,q2⟩:=Vy h ho hV v1.1 v1.2
  unfold vg
  rw [l1,Option.bind_some,eb v1.1,Option.bind_some,q1,Option.bind_some,sQ h.small hpl q2,Option.bind_some,Nn h v1 he,Option.bind_some,No h v1 he,Option.bind_some]
  by_cases k5:s.Kind=5
  ·rw [if_pos k5,if_pos k5,DB h.small l2.2 q2.2,Option.bind_some,tP h.small l2 hpl,Option.bind_some,LD h (dC _ _ _),Option.bind_some]
   simp only [oL,List.append_assoc]
  ·rw [if_neg k5,if_neg k5,DB h.small q2.1 l2.1,Option.bind_some]
   simp only [oL,List.append_assoc]
 ·rw [if_neg k56,if_neg k56,List.append_nil]
end
theorem Kn:∀ (L:List Kj)(f:List (Int×Int)),(∀ x∈L,(∃ i:Nat,i≤p.Funcs.length∧bg p i x.s=0)∧bz (MM p) x.pl)→f.length+5*L.length≤999990→lX (DK (uW p (nj p) V)) L f=some (f++L.flatMap fun x=>tT p V x.s x.a x.pl)
 | [],f,_,_=>by simp [lX]
 | x::L,f,hL,hf=>by
  obtain ⟨⟨i,hi,hs⟩,hpl⟩:=hL x (by simp)
  have hl:=LF p V x.s x.a x.pl
  simp only [List.length_cons] at hf
  show (uW p (nj p) V x.a x.s x.pl f).bind _=_
  rw [PO h ho hV hi hs hpl (by omega),Option.bind_some]
  show lX _ L _=_
  rw [Kn L _ (fun y hy=>hL y (by simp [hy])) (by rw [List.length_append];omega),List.flatMap_cons,List.append_assoc]
end
noncomputable def EO(p:Program)(m:fp):List (Int×Int):=(qJ (MM p) m.Vars p m.Funcs).flatMap fun x=>tT p m.Vars x.s x.a x.pl
theorem Vz{p:Program}(h:pV p):tu p=some (nj p):=by
 unfold tu
 rw [QO p.aa h.eG];rfl
theorem Jt{p:Program}(h:pV p)(ho:zy p){m:fp}(hm:jL p=some m)(hV:gY p m.Vars m.Funcs):tw p=some ((EO p m).map fun x=>⟨x.1,x.2⟩):=by
 obtain ⟨a,ha⟩:=ZO h ho hV (uW p (nj p) m.Vars) []
 have hl:=LA h ho hV
 unfold tw
 rw [hm,Option.bind_some,Vz h,Option.bind_some,ha,Kn h ho hV _ _ (FE h ho hV) (by simp;omega)]
 rfl
end Go.Proofs.YtkkkkondjclcnaaGreat.A
