/- What judge.Raw tells of each command, and of all. -/
import Derived.Test.YtkkkkondjclcnaaGreatPlace
import Derived.Test.YtkkkkondjclcnaaGreatInfP
import Derived.Test.YtkkkkondjclcnaaGreatSpeakF
import Derived.Test.YtkkkkondjclcnaaGreatJudgeF
set_option linter.all false
namespace Go.Proofs.YtkkkkondjclcnaaGreat.A
open Go
def dU(a k:Int)(b:Bool):List (Int×Int):=if b=true then [(a,k)] else []
theorem sS(f:List (Int×Int))(a k:Int)(b:Bool):et f a k b=f++dU a k b:=by
 grind [et,dU]
theorem yY(a k:Int)(b:Bool):(dU a k b).length≤1:=by grind [dU]
def CN(l:List Label)(k:Int):Label:=l.getD k.toNat ⟨[],[]⟩
variable [Lp]
noncomputable def wF(p:Program)(V:List Level)(s:Stmt)(pl:Level):List dq:=(nN p V s pl).getD []
def okF(p:Program)(V:List Level)(f:dq):Bool:=f.Func||jY (MM p) f.Level (V.getD f.To.toNat (fA (MM p)))
noncomputable def GI(p:Program)(V:List Level)(s:Stmt)(pl:Level):Bool:=(wF p V s pl).all (okF p V)
noncomputable def jd(p:Program)(V:List Level)(s:Stmt)(a:Int)(pl:Level):List (Int×Int):=
 if s.Kind=1 then dU a 1 (!GI p V s pl)
 else if s.Kind=2 then dU a 2 (!GI p V s pl)
 else if s.Kind=3 then dU a 3 (if GI p V s pl=true then !jY (MM p) pl (fg p.ak (CN p.Ins s.Other)) else true)
 else if s.Kind=4 then dU a 4 (!jY (MM p) (cU (MM p) pl (iH (MM p) V s.Expr)) (fg p.ak (CN p.Outs s.Other)))
 else if s.Kind=5∨s.Kind=6 then
  dU a 5 (!jY (MM p) pl (V.getD s.Var.toNat (fA (MM p))))++(dU a 6 (DT p s)++(dU a 7 (DU p s)++
   (if s.Kind=5 then dU a 8 (!wy (MM p) (iH (MM p) V s.Expr).Writers (V.getD s.Var.toNat (fA (MM p))).Writers)++dU a 9 (Bq p (cU (MM p) (iH (MM p) V s.Expr) pl))
    else dU a 8 (!wy (MM p) (V.getD s.Var.toNat (fA (MM p))).Readers (iH (MM p) V s.Expr).Readers))))
 else []
theorem EF(p:Program)(V:List Level)(s:Stmt)(a:Int)(pl:Level):(jd p V s a pl).length≤5:=by
 grind [yY,jd]
section
variable {p:Program}(h:nA p)(ho:Dt p){V F:List Level}(hV:eS p V F)
include h ho hV
theorem W8{n:Int}(h0:0≤n)(h1:n<p.Vars.length):V[n.toNat]? =some (V.getD n.toNat (fA (MM p)))∧bw (MM p) (V.getD n.toNat (fA (MM p))):=by
 have hi:n.toNat<V.length:=by rw [hV.vl];omega
 have hq:=aP hi
 have hd:V.getD n.toNat (fA (MM p))=V[n.toNat]:=by grind
 rw [hd]
 exact ⟨hq,hV.vs _ (bN hi)⟩
theorem Tx{f:dq}(hf:sE p f):DW V f=some (!okF p V f):=by
 obtain ⟨h1,h2,h3⟩:=hf
 unfold DW okF
 cases e:f.Func with
 | true=>grind
 | false=>
  rw [e,aa (by simp)] at h3
  obtain ⟨g1,g2⟩:=W8 h ho hV h2 (by omega)
  rw [aa (by simp),cX h2,ad,g1,ad,vL h.small h1 g2]
  rfl
theorem P4:∀ fs:List dq,(∀ f∈fs,sE p f)→ED V fs=some (!fs.all (okF p V))
 | [],_=>rfl
 | f::r,hf=>by
  rw [ED,Tx h ho hV (hf f (by simp)),ad,vu]
  cases okF p V f with
  | true=>rw [aa (by simp)];simpa using P4 r fun x hx=>hf x (by simp [hx])
  | false=>grind
section
variable {i:Nat}(hi:i≤p.Funcs.length){s:Stmt}(hs:bW p i s=0){pl:Level}(c:bw (MM p) pl)
include hi hs c
theorem M5:nN p V s pl=some (wF p V s pl)∧(∀ f∈wF p V s pl,sE p f)∧(wF p V s pl).length≤10:=by
 obtain ⟨_,r,r',a1,a2,a3,a4,a5⟩:=xH h ho hi hV hV (Es _ _) c c (le_refl _ _) hs
 grind [wF]
theorem VG:wE p V s pl=some (GI p V s pl):=by
 grind [M5,wE,GI,P4]
theorem W9{a:Nat}{f:List (Int×Int)}(hf:f.length≤999990):Ak p (qQ p) V a s pl f=some (f++jd p V s a pl):=by
 obtain ⟨g1,g2,g3,g4,g5,g6⟩:=vK hs
 have g:=VG h ho hV hi hs c
 unfold Ak jd
 rw [ab hf]
 by_cases k1:s.Kind=1
 ·grind [sS]
 rw [aa k1,aa k1]
 by_cases k2:s.Kind=2
 ·grind [sS]
 rw [aa k2,aa k2]
 by_cases k3:s.Kind=3
 ·rw [ab k3,ab k3]
  have v2:=g3 (by rw [k3];rfl)
  have e3:fD p i s.Kind=p.Ins.length:=by rw [k3];rfl
  have d:s.Other.toNat<p.Ins.length:=by omega
  have hd:CN p.Ins s.Other=p.Ins[s.Other.toNat]:=by grind [CN]
  have hl:=h.ins _ (bN d)
  unfold P1
  rw [g,ad,hd]
  cases GI p V s pl with
  | false=>grind [sS]
  | true=>
   rw [ab rfl,ab rfl,cX v2.1,ad,aP d,ad,Pm _ h.dT _ hl,ad,vL h.small c (oH _ _)]
   grind [sS]
 rw [aa k3,aa k3]
 by_cases k4:s.Kind=4
 ·rw [ab k4,ab k4]
  have v2:=g3 (by rw [k4];rfl)
  have e3:fD p i s.Kind=p.Outs.length:=by rw [k4];rfl
  have d:s.Other.toNat<p.Outs.length:=by omega
  have hd:CN p.Outs s.Other=p.Outs[s.Other.toNat]:=by grind [CN]
  have hl:=h.outs _ (bN d)
  have he:=g5 (by rw [k4];rfl)
  obtain ⟨l1,l2⟩:=xG h hV he
  unfold P3
  rw [l1,ad,sC h.small c l2,ad,cX v2.1,ad,aP d,ad,Pm _ h.dT _ hl,ad,vL h.small (dX _ _ _) (oH _ _),hd]
  grind [sS]
 rw [aa k4,aa k4]
 by_cases k56:s.Kind=5∨s.Kind=6
 ·rw [ab k56,ab k56]
  have v1:=g2 (by rcases k56 with k | k<;>(rw [k];rfl))
  have he:=g5 (by rcases k56 with k | k<;>(rw [k];rfl))
  obtain ⟨l1,l2⟩:=xG h hV he
  obtain ⟨q1,q2⟩:=W8 h ho hV v1.1 v1.2
  unfold Aw
  rw [l1,ad,cX v1.1,ad,q1,ad,vL h.small c q2,ad,VA h v1 he,ad,VB h v1 he,ad]
  by_cases k5:s.Kind=5
  ·rw [ab k5,ab k5,J7 h.small l2.2 q2.2,ad,sC h.small l2 c,ad,Tw h (dX _ _ _),ad]
   grind [sS]
  ·rw [aa k5,aa k5,J7 h.small q2.1 l2.1,ad]
   grind [sS]
 grind
end
theorem R7:∀ (L:List A6)(f:List (Int×Int)),(∀ x∈L,(∃ i:Nat,i≤p.Funcs.length∧bW p i x.s=0)∧bw (MM p) x.pl)→f.length+5*L.length≤999990→oS (Kh (Ak p (qQ p) V)) L f=some (f++L.flatMap fun x=>jd p V x.s x.a x.pl)
 | [],f,_,_=>by simp [oS]
 | x::L,f,hL,hf=>by
  obtain ⟨⟨i,hi,hs⟩,c⟩:=hL x (by simp)
  have hl:=EF p V x.s x.a x.pl
  simp only [cC] at hf
  show (Ak p (qQ p) V x.a x.s x.pl f).bind _=_
  rw [W9 h ho hV hi hs c (by omega),ad]
  show oS _ L _=_
  rw [R7 L _ (fun y hy=>hL y (by simp [hy])) (by grind),uY,ox]
end
noncomputable def tP(p:Program)(m:eD):List (Int×Int):=(nq (MM p) m.Vars p m.Funcs).flatMap fun x=>jd p m.Vars x.s x.a x.pl
theorem agj{p:Program}(h:nA p):yf p=some (qQ p):=by
 unfold yf
 rw [YS p.ak h.dT];rfl
theorem Q4{p:Program}(h:nA p)(ho:Dt p){m:eD}(hm:mA p=some m)(hV:eS p m.Vars m.Funcs):uy p=some ((tP p m).map fun x=>⟨x.1,x.2⟩):=by
 obtain ⟨a,ha⟩:=akr h ho hV (Ak p (qQ p) m.Vars) []
 have hl:=Ad h ho hV
 unfold uy
 rw [hm,ad,agj h,ad,ha,R7 h ho hV _ _ (Cb h ho hV) (by simp;omega)]
 rfl
end Go.Proofs.YtkkkkondjclcnaaGreat.A
