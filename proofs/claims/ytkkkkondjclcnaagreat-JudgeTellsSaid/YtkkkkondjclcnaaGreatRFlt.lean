/- What the reference tells of each command. -/
import Derived.Test.YtkkkkondjclcnaaGreatRLv
import Derived.Test.YtkkkkondjclcnaaGreatJudP
import Derived.Test.YtkkkkondjclcnaaGreatPlacF
set_option linter.all false
set_option maxRecDepth 100000
set_option maxHeartbeats 16000000
namespace Go.Proofs.YtkkkkondjclcnaaGreat.A
open Go
variable [Lp]
def kj(x:Int×Int):dw:=⟨x.1,x.2⟩
theorem Ty(n:Nat)(a b:Level):cU n a b=cU n b a:=by
 simp [cU,qx,wz,Bool.and_comm,Bool.or_comm]
section
variable {p:Program}(h:nA p)
include h
theorem VH{w:Int}(hw:cw p.ak.Many w=true):kY p w=some (kh p w):=by
 have hl:=Ck h
 have q:=sg (B:=fun v=>jw p w v) p.Speak (fun n=>EC p w n) id (x:=.inl ()) (y:=.inr (p.Speak.length,false))
  (fun k hk hp=>by
   have ha:=yW p.ak h.dT w p.Speak[k] hw (h.speak _ (bN hk))
   grind [jw,gJ])
  (fun k hk hp=>by
   have ha:=yW p.ak h.dT w p.Speak[k] hw (h.speak _ (bN hk))
   grind [jw])
  (by simp [jw])
 grind [kY,kh]
theorem R8{o:Int}(ho:cw p.ak.Many o=true):Ae p o=some (I3 p o):=by
 have hl:=Ck h
 have q:=sg (B:=fun v=>pF p o v) p.Speak (fun n=>EC p n o) id (x:=.inl ()) (y:=.inr (p.Speak.length,false))
  (fun k hk hp=>by
   have ha:=yW p.ak h.dT p.Speak[k] o (h.speak _ (bN hk)) ho
   grind [pF,gJ])
  (fun k hk hp=>by
   have ha:=yW p.ak h.dT p.Speak[k] o (h.speak _ (bN hk)) ho
   grind [pF])
  (by simp [pF])
 grind [Ae,I3]
theorem GJ{l:List bz}(hl:tB p.ak.Many l=0):sL p l=some (!yX p l):=by
 obtain ⟨l4,lo⟩:=xy hl
 have q:=sg (B:=fun v=>mM p l v) l (fun x=>!I3 p x.Owner) id (x:=.inl ()) (y:=.inr (l.length,false))
  ((by grind [R8,wx,mM,gJ]))
  ((by grind [R8,wx,mM]))
  (by simp [mM])
 grind [yX,sL]
theorem P5{n:Int}(h0:0≤n)(h1:n.toNat<p.Vars.length):p.Vars[n.toNat]? =some (sP p n)∧sP p n∈p.Vars:=by
 have:=DV h h0 h1
 unfold EA at this
 rw [cX h0,ad] at this
 exact this
theorem R9(φ:Int→Bool)(e:aB):((mj e).any φ)=(gy e).any fun x=>decide (x.Kind=2)&&φ x.N:=by
 grind [I0]
theorem Z1{s:Stmt}(hv:0≤s.Var∧s.Var<p.Vars.length)(he:fL p s.Expr=0):sM p s=some (DT p s):=by
 unfold sM DT
 by_cases k6:s.Kind=6
 ·obtain ⟨h1,h2⟩:=P5 h hv.1 (by omega)
  rw [ab (by simp [k6]),ab k6,cX hv.1,ad,h1,ad,GJ h (qw (h.vars _ h2)).2];rfl
 ·have hs:=I1 he
  have hlen:=AI s.Expr
  have q:=sg (B:=fun v=>kZ p (gy s.Expr) v) (gy s.Expr) (fun x=>decide (x.Kind=2)&&!yX p (sP p x.N).Label.Read) id (x:=.inl ()) (y:=.inr ((gy s.Expr).length,false))
   (fun k hk hp=>by
    by_cases k2:(gy s.Expr)[k].Kind=2
    ·have hu:=(xd (xA he _ (bN hk))).2.2.2.2 k2
     obtain ⟨h1,h2⟩:=P5 h (n:=(gy s.Expr)[k].N) (by omega) (by omega)
     have ha:=GJ h (qw (h.vars _ h2)).1
     grind [kZ,cX,gJ]
    grind [kZ,gJ])
   (fun k hk hp=>by
    have hp:(gy s.Expr)[k].Kind=2∧yX p (sP p (gy s.Expr)[k].N).Label.Read=false:=by simpa using hp
    have hu:=(xd (xA he _ (bN hk))).2.2.2.2 hp.1
    obtain ⟨h1,h2⟩:=P5 h (n:=(gy s.Expr)[k].N) (by omega) (by omega)
    have ha:=GJ h (qw (h.vars _ h2)).1
    grind [kZ,cX])
   (by simp [kZ])
  grind [Hl,R9]
theorem Z2{s:Stmt}(hv:0≤s.Var∧s.Var<p.Vars.length)(he:fL p s.Expr=0):sN p s=some (DU p s):=by
 unfold sN DU
 by_cases k6:s.Kind=6
 ·grind [P5,cX]
 ·have hs:=I1 he
  have hlen:=AI s.Expr
  have q:=sg (B:=fun v=>k7 p (gy s.Expr) v) (gy s.Expr) (fun x=>decide (x.Kind=2)&&!(sP p x.N).Known) id (x:=.inl ()) (y:=.inr ((gy s.Expr).length,false))
   (fun k hk hp=>by
    by_cases k2:(gy s.Expr)[k].Kind=2
    ·have hu:=(xd (xA he _ (bN hk))).2.2.2.2 k2
     grind [sP,k7,cX,gJ]
    grind [k7,gJ])
   (fun k hk hp=>by
    have hp:(gy s.Expr)[k].Kind=2∧(sP p (gy s.Expr)[k].N).Known=false:=by simpa using hp
    have hu:=(xd (xA he _ (bN hk))).2.2.2.2 hp.1
    grind [P5,k7,cX])
   (by simp [k7])
  grind [Hl,R9]
end
variable [Lp]
attribute [local simp] gp execOp okB gv df fT pJ iZ ir ft St.end_ St.fU List.filter eV wN view EL O0 RE HW plain
def zz(n:Nat)(φ:Nat→Bool):Bool:=(List.range n).any φ
theorem M6(n:Nat)(φ:Nat→Bool):zz (n+1) φ=(zz n φ||φ n):=by simp [zz,vB]
theorem VI(n:Nat)(x y:List Bool):(!wy n x y)=zz n fun k=>on x k&&!on y k:=by
 unfold zz
 rw [←RK];simp
abbrev YW(m:eD):List AV:=[.l 45 (m.Vars.map aI),.l 45 (m.Funcs.map aI)]
section
variable (p:Program)(m:eD)(L:List bq)
abbrev qS(l:List dw)(k:Nat)(xs:List (Nat×AV))(bs:List (Nat×List AV)):St:=
 ⟨(1,.p ⟨0,1⟩ 0)::(3,.p ⟨0,3⟩ 0)::(4,.l 113 (L.map cY))::(5,.p ⟨0,5⟩ 0)::(6,.f 76 [.p ⟨0,5⟩ 0])::(7,I k)::xs,(1,av p)::(3,YW m)::(5,[.o 133 (l.map jc)])::bs,H0⟩
end
theorem yg(B:Nat→Option (List AV)){l:List dw}(hB:B 5=some [.o 133 (l.map jc)])(hl:l.length≤1000000)(a k:Int)(b:Bool) :
  call G Ω0 ⟨1,false⟩ 76 [I a,I k,.b b,.p ⟨0,5⟩ 0] (fun q=>if q.dp=0 then B q.d else H0 q)=some (.ret (.tp []),fun q=>if q.dp=0 then (if 5=q.d then some [.o 133 ((l++(dU a k b).map kj).map jc)] else B q.d) else H0 q):=by
 have hm:l.length+1≤maxLen:=bS (show l.length+1≤1000001 by omega) (by decide)
 have P:(l.length+1)*16≤140737488355328:=by omega
 cases b with
 | true=>
  apply m9 G76
  ·apply aj (by simp;rfl)
   apply bT (by simp)
   simp [hB,hm,P]
   rfl
  ·rfl
  ·funext q
   obtain ⟨qd,q5⟩:=q
   by_cases h0:qd=0
   ·by_cases h5:q5=5
    ·simp [h0,h5,ar,dU,kj,jc]
    ·simp [h0,h5,show ¬5=q5 from fun e=>h5 e.symm,ar]
   ·simp [h0,ar]
 | false=>
  apply m9 G76
  ·apply aj (by simp;rfl)
   apply ba (by simp)
   exact bh _ _
  ·rfl
  ·funext q
   obtain ⟨qd,q5⟩:=q
   by_cases h0:qd=0<;>by_cases h5:5=q5<;>simp [h0,h5,dU]
   subst h5;exact hB
section
variable {p:Program}{m:eD}{L:List bq}{l:List dw}{k:Nat}{y:bq}{e t:Level}
abbrev qW(p:Program)(m:eD)(L:List bq)(l:List dw)(k:Nat)(y:bq)(e t:Level)(v s:Bool)(j:Nat):St:=
 qS p m L l k [(8,.p ⟨0,8⟩ 0),(9,.p ⟨0,9⟩ 0),(13,.p ⟨0,13⟩ 0),(14,.p ⟨0,14⟩ 0),(15,.b v),(16,.b s),(17,I j)] [(8,dE y),(9,aD y.S),(13,ax e),(14,ax t)]
theorem akE{v s a b c d:Bool}{j:Nat}(h1:e.Writers[j]? =some a)(h2:t.Writers[j]? =some b)(h3:y.Place.Writers[j]? =some c)(hT:kY p (j:Int)=some d)(hk:y.S.Kind=5)(hj:(j:Int)<p.ak.Many)(hm:p.ak.Many≤6) :
  run G Ω0 E0 NK (qW p m L l k y e t v s j)=some (.nrm,qW p m L l k y e t (v||(a&&!b)) (s||((a||c)&&!d)) (j+1)):=by
 have hA:=aZ (E:=E0) (Fh p (j:Int) _ hT) (by simp) (by simp)
 have hw:IntKind.i64.wrap ((j:Int)+1)=(j:Int)+1:=wrap64 (by omega) (by omega)
 apply aj
 ·apply aj (by simp [hj];rfl)
  apply bT (by simp [hj])
  exact bh _ _
 apply di
 apply aj (st1:=qW p m L l k y e t (v||(a&&!b)) (s||((a||c)&&!d)) j)
 ·apply dI
  apply aj (by simp [hk];rfl)
  apply bT (by simp [hk])
  apply aj (st1:=qW p m L l k y e t (v||(a&&!b)) s j)
  ·apply G8 rfl
   refine Dd ?_ (by simp)
   cases v<;>cases a<;>((repeat refine qc (by simp [h1,h2];rfl) ?_);exact qf (by simp))
  apply G8 rfl
  generalize (v||(a&&!b))=v1
  refine qG (v1:=qS p m L l k [(8,.p ⟨0,8⟩ 0),(9,.p ⟨0,9⟩ 0),(13,.p ⟨0,13⟩ 0),(14,.p ⟨0,14⟩ 0),(15,.b v1),(17,I j),(205,.b s),(219,if s=true then .sk else .b (a||c))] [(8,dE y),(9,aD y.S),(13,ax e),(14,ax t)]) 16 [1,3,4,5,6,7,8,9,13,14,15,17,205,219] ?_ ?_
  ·cases s<;>cases a<;>((repeat refine qc (by simp [h1,h3];rfl) ?_);exact qf (by simp))
  refine Dd ?_ (by simp)
  cases s<;>cases q:(a||c)<;>((repeat refine qc (by simp [-aF,hA];rfl) ?_);exact qf (by simp))
 simp [hw]
theorem akF{v s a b:Bool}{j:Nat}(h1:t.Readers[j]? =some a)(h2:e.Readers[j]? =some b)(hk:¬y.S.Kind=5)(hj:(j:Int)<p.ak.Many)(hm:p.ak.Many≤6) :
  run G Ω0 E0 NK (qW p m L l k y e t v s j)=some (.nrm,qW p m L l k y e t (v||(a&&!b)) s (j+1)):=by
 have hw:IntKind.i64.wrap ((j:Int)+1)=(j:Int)+1:=wrap64 (by omega) (by omega)
 apply aj
 ·apply aj (by simp [hj];rfl)
  apply bT (by simp [hj])
  exact bh _ _
 apply di
 apply aj (st1:=qW p m L l k y e t (v||(a&&!b)) s j)
 ·apply dI
  apply aj (by simp [hk];rfl)
  apply ba (by simp [hk])
  apply G8 rfl
  refine Dd ?_ (by simp)
  cases v<;>cases a<;>((repeat refine qc (by simp [h1,h2];rfl) ?_);exact qf (by simp))
 simp [hw]
theorem Z3{n:Nat}(hm:p.ak.Many=(n:Int))(hn:n≤6)(he:bw n e)(ht:bw n t)(hp:bw n y.Place)(hT:∀ j:Nat,j<n→kY p (j:Int)=some (kh p j)) :
  fH G Ω0 E0 XO (qW p m L l k y e t false false 0)=some (.ex 5,qS p m L l k [(8,.p ⟨0,8⟩ 0),(9,.p ⟨0,9⟩ 0),(13,.p ⟨0,13⟩ 0),(14,.p ⟨0,14⟩ 0),
   (15,.b (if y.S.Kind=5 then !wy n e.Writers t.Writers else !wy n t.Readers e.Readers)),(16,.b (if y.S.Kind=5 then zz n (fun j=>(on e.Writers j||on y.Place.Writers j)&&!kh p j) else false)),(17,I n),(182,.b false)] [(8,dE y),(9,aD y.S),(13,ax e),(14,ax t)]):=by
 obtain ⟨e1,e2⟩:=he
 obtain ⟨t1,t2⟩:=ht
 have p2:=hp.2
 have fin:∀ v s,run G Ω0 E0 NK (qW p m L l k y e t v s n)=some (.ex 5,qS p m L l k [(8,.p ⟨0,8⟩ 0),(9,.p ⟨0,9⟩ 0),(13,.p ⟨0,13⟩ 0),(14,.p ⟨0,14⟩ 0),(15,.b v),(16,.b s),(17,I n),(182,.b false)] [(8,dE y),(9,aD y.S),(13,ax e),(14,ax t)]):=fun v s=>by
  apply iu
  apply aj (by simp [hm];rfl)
  apply ba (by simp)
  exact dR _ _ _
 by_cases hk:y.S.Kind=5
 ·rw [ab hk,ab hk,VI]
  exact Dc (fun j=>qW p m L l k y e t (zz j fun j=>on e.Writers j&&!on t.Writers j) (zz j fun j=>(on e.Writers j||on y.Place.Writers j)&&!kh p j) j) n (fun j=>rfl)
   (fun j hj=>by
    simp only [M6]
    exact akE (ic (by omega)) (ic (by omega)) (ic (by omega)) (hT j hj) hk (by omega) (by omega)) (fin _ _)
 ·rw [aa hk,aa hk,VI]
  exact Dc (fun j=>qW p m L l k y e t (zz j fun j=>on t.Readers j&&!on e.Readers j) false j) n (fun j=>rfl)
   (fun j hj=>by
    simp only [M6]
    exact akF (ic (by omega)) (ic (by omega)) hk (by omega) (by omega)) (fin _ _)
abbrev qF(p:Program)(m:eD)(L:List bq)(l:List dw)(k:Nat)(y:bq)(fs:List eF)(v:Bool)(j:Nat):St:=
 qS p m L l k [(8,.p ⟨0,8⟩ 0),(9,.p ⟨0,9⟩ 0),(10,.b v),(11,.l 115 (fs.map dG)),(12,I j)] [(8,dE y),(9,aD y.S)]
theorem agk{fs:List eF}{v r:Bool}{j:Nat}{a:eF}(hj:fs[j]? =some a)(hl:fs.length≤1000)(hr:¬a.To<0→∃ (i:Nat)(b:Level),a.To=(i:Int)∧m.Vars[i]? =some b∧fu a.L b=some r)(h0:a.To<0→r=true) :
  run G Ω0 E0 XN (qF p m L l k y fs v j)=some (.nrm,qF p m L l k y fs (v&&r) (j+1)):=by
 have g:=(eb.1 hj).1
 have hw:IntKind.i64.wrap ((j:Int)+1)=(j:Int)+1:=wrap64 (by omega) (by omega)
 apply aj
 ·apply aj (by simp [g];rfl)
  apply bT (by simp [g])
  exact bh _ _
 apply di
 apply aj (st1:=qF p m L l k y fs (v&&r) j)
 ·apply dI
  apply N3 rfl (by simp)
  cases v
  ·refine De ?_ (by simp)
   ((repeat refine wk (by simp;rfl) ?_);exact wm (by simp))
  by_cases hn:a.To<0
  ·obtain rfl:=h0 hn
   refine De ?_ (by simp)
   ((repeat refine wk (by simp [hj,hn,dG];rfl) ?_);exact wm (by simp))
  ·obtain ⟨i,b,hi,hb,hF⟩:=hr hn
   have hA:=aZ (E:=E0) (mL a.L b r hF) (by simp) (by simp)
   have R:¬((i:Int)<0):=by omega
   refine De ?_ (by simp)
   ((repeat refine wk (by simp [-aF,hj,hi,hb,hA,dG,aI];rfl) ?_);exact wm (by simp))
 simp [hw]
theorem Xa{fs:List eF}(ok:eF→Bool)(hl:fs.length≤1000)(hf:∀ a∈fs,(a.To<0→ok a=true)∧(¬a.To<0→∃ (i:Nat)(b:Level),a.To=(i:Int)∧m.Vars[i]? =some b∧fu a.L b=some (ok a))) :
  fH G Ω0 E0 NJ (qF p m L l k y fs true 0)=some (.ex 2,qS p m L l k [(8,.p ⟨0,8⟩ 0),(9,.p ⟨0,9⟩ 0),(10,.b (fs.all ok)),(11,.l 115 (fs.map dG)),(12,I fs.length),(43,.b false)] [(8,dE y),(9,aD y.S)]):=by
 have h:=Dc (c:=NJ) (fun j=>qF p m L l k y fs ((fs.take j).all ok) j) fs.length (e:=2) (z:=qS p m L l k [(8,.p ⟨0,8⟩ 0),(9,.p ⟨0,9⟩ 0),(10,.b (fs.all ok)),(11,.l 115 (fs.map dG)),(12,I fs.length),(43,.b false)] [(8,dE y),(9,aD y.S)]) (fun j=>rfl)
  (fun j hj=>by
   obtain ⟨h1,h2⟩:=hf _ (bN hj)
   simp only [pP hj,List.all_append,vu,List.all_nil,uR]
   exact agk (aP hj) hl h2 h1) (by
   simp only [Fy]
   apply iu
   apply aj (by simp;rfl)
   apply ba (by simp)
   exact dR _ _ _)
 exact h
abbrev qT(p:Program)(m:eD)(L:List bq)(l:List dw)(k:Nat)(y:bq)(e:Level)(ok:Bool):St:=
 qS p m L l k [(8,.p ⟨0,8⟩ 0),(9,.p ⟨0,9⟩ 0),(10,.b ok),(13,.p ⟨0,13⟩ 0)] [(8,dE y),(9,aD y.S),(13,ax e)]
abbrev qB(p:Program)(m:eD)(l:List dw)(y:bq)(bs:Nat→Option (List AV)):Nat→Option (List AV):=fun d=>if 1=d then some (av p) else if 3=d then some (YW m) else if 5=d then some [.o 133 (l.map jc)] else if 8=d then some (dE y) else bs d
theorem agl{ok:Bool}(hl:l.length≤999990)(hk:y.S.Kind=1):run G Ω0 E0 zL (qT p m L l k y e ok)=some (.nrm,qS p m L (l++(dU y.At 1 (!ok)).map kj) k [] []):=by
 have c1:=yg (qB p m l y fun d=>if 9=d then some (aD y.S) else if 13=d then some (ax e) else none) (l:=l) rfl (by omega) y.At 1 (!ok)
 apply aj (by simp [hk];rfl)
 apply dI
 apply aj (by simp;rfl)
 apply bT (by simp)
 simp [bC,AV.cL,c1,St.back,bY,qB]
theorem agm{ok:Bool}(hl:l.length≤999990)(hk:y.S.Kind=2):run G Ω0 E0 zL (qT p m L l k y e ok)=some (.nrm,qS p m L (l++(dU y.At 2 (!ok)).map kj) k [] []):=by
 have c1:=yg (qB p m l y fun d=>if 9=d then some (aD y.S) else if 13=d then some (ax e) else none) (l:=l) rfl (by omega) y.At 2 (!ok)
 apply aj (by simp [hk];rfl)
 apply dI
 apply aj (by simp;rfl)
 apply ba (by simp)
 apply aj (by simp;rfl)
 apply bT (by simp)
 simp [bC,AV.cL,c1,St.back,bY,qB]
theorem agn{ok r:Bool}(hl:l.length≤999990)(hk:y.S.Kind=3)(hr:ok=true→∃ (i:Nat)(b:Label)(o:Level),y.S.Other=(i:Int)∧p.Ins[i]? =some b∧lh p.ak b=some o∧fu y.Place o=some r) :
  run G Ω0 E0 zL (qT p m L l k y e ok)=some (.nrm,qS p m L (l++(dU y.At 3 (if ok=true then !r else true)).map kj) k [] []):=by
 apply aj (by simp [hk];rfl)
 apply dI
 apply aj (by simp;rfl)
 apply ba (by simp)
 apply aj (by simp;rfl)
 apply ba (by simp)
 apply aj (by simp;rfl)
 apply bT (by simp)
 cases ok with
 | false=>
  rw [aa (by simp)]
  have c1:=yg (qB p m l y fun d=>if 9=d then some (aD y.S) else if 13=d then some (ax e) else none) (l:=l) rfl (by omega) y.At 3 true
  exact dM 10 rfl (by simp) (by simp;rfl) (iQ 10 (by simp;rfl) (by simp [bC,AV.cL,c1,St.back,bY,qB];rfl)) (by simp)
 | true=>
  rw [ab rfl]
  have c1:=yg (qB p m l y fun d=>if 9=d then some (aD y.S) else if 13=d then some (ax e) else none) (l:=l) rfl (by omega) y.At 3 (!r)
  obtain ⟨i,b,o,hi,hb,ho,hF⟩:=hr rfl
  have hO:=aZ (E:=E0) (tM p.ak b o ho) (by simp) (by simp)
  have hA:=aZ (E:=E0) (mL y.Place o r hF) (by simp) (by simp)
  exact dM 10 rfl (by simp) (by simp;rfl) (iQ 10 (by simp [-aF,hi,hb,hO,hA,aH];rfl) (by simp [bC,AV.cL,c1,St.back,bY,qB];rfl)) (by simp)
theorem ago{ok r:Bool}(hl:l.length≤999990)(hk:y.S.Kind=4){i:Nat}{b:Label}{o j:Level}(hi:y.S.Other=(i:Int))(hb:p.Outs[i]? =some b)(ho:lh p.ak b=some o)(hj:dN e y.Place=some j)(hF:fu j o=some r) :
  run G Ω0 E0 zL (qT p m L l k y e ok)=some (.nrm,qS p m L (l++(dU y.At 4 (!r)).map kj) k [] []):=by
 have c1:=yg (qB p m l y fun d=>if 9=d then some (aD y.S) else if 13=d then some (ax e) else none) (l:=l) rfl (by omega) y.At 4 (!r)
 have hJ:=aZ (E:=E0) (iM e y.Place j hj) (by simp) (by simp)
 have hO:=aZ (E:=E0) (tM p.ak b o ho) (by simp) (by simp)
 have hA:=aZ (E:=E0) (mL j o r hF) (by simp) (by simp)
 apply aj (by simp [hk];rfl)
 apply dI
 apply aj (by simp;rfl)
 apply ba (by simp)
 apply aj (by simp;rfl)
 apply ba (by simp)
 apply aj (by simp;rfl)
 apply ba (by simp)
 apply aj (by simp;rfl)
 apply bT (by simp)
 exact dM 9 rfl (by simp) (by simp [-aF,hJ];rfl) (iQ 9 (by simp [-aF,hi,hb,hO,hA,aH];rfl) (by simp [bC,AV.cL,c1,St.back,bY,qB];rfl)) (by simp)
theorem agp{ok:Bool}(hk:7≤y.S.Kind):run G Ω0 E0 zL (qT p m L l k y e ok)=some (.nrm,qS p m L l k [(8,.p ⟨0,8⟩ 0),(9,.p ⟨0,9⟩ 0),(13,.p ⟨0,13⟩ 0),(146,.b false)] [(8,dE y),(9,aD y.S),(13,ax e)]):=by
 have f1:¬y.S.Kind=1:=by omega
 have f2:¬y.S.Kind=2:=by omega
 have f3:¬y.S.Kind=3:=by omega
 have f4:¬y.S.Kind=4:=by omega
 have f5:¬y.S.Kind=5:=by omega
 have f6:¬y.S.Kind=6:=by omega
 apply aj (by simp;rfl)
 apply dI
 apply aj (by simp;rfl)
 apply ba (by simp [f1])
 apply aj (by simp;rfl)
 apply ba (by simp [f2])
 apply aj (by simp;rfl)
 apply ba (by simp [f3])
 apply aj (by simp;rfl)
 apply ba (by simp [f4])
 apply aj (st1:=qS p m L l k [(8,.p ⟨0,8⟩ 0),(9,.p ⟨0,9⟩ 0),(13,.p ⟨0,13⟩ 0),(146,.b false)] [(8,dE y),(9,aD y.S),(13,ax e)])
 ·apply aj (by simp;rfl)
  apply ba (by simp [f5])
  simp [f6]
 apply di
 apply ba (by simp)
 exact bh _ _
abbrev qU(p:Program)(m:eD)(L:List bq)(l:List dw)(k:Nat)(y:bq)(e t:Level):St:=
 qS p m L l k [(8,.p ⟨0,8⟩ 0),(9,.p ⟨0,9⟩ 0),(13,.p ⟨0,13⟩ 0),(14,.p ⟨0,14⟩ 0)] [(8,dE y),(9,aD y.S),(13,ax e),(14,ax t)]
def acT:AC→AC
 | .ite _ x _=>x
 | x=>x
theorem agr{b:Bool}(hl:l.length≤999990)(hF:fu y.Place t=some b):run G Ω0 E0 (HY (MS (acT NL))) (qU p m L l k y e t)=some (.nrm,qU p m L (l++(dU y.At 5 (!b)).map kj) k y e t):=by
 have c1:=yg (qB p m l y fun d=>if 9=d then some (aD y.S) else if 13=d then some (ax e) else if 14=d then some (ax t) else none) (l:=l) rfl (by omega) y.At 5 (!b)
 have hA:=aZ (E:=E0) (mL y.Place t b hF) (by simp) (by simp)
 exact dM 8 rfl (by simp) (by simp [-aF,hA];rfl) (by simp [bC,AV.cL,c1,St.back,bY,qB];rfl) (by simp)
theorem ags{b:Bool}(hl:l.length≤999990)(hF:sM p y.S=some b):run G Ω0 E0 (HY (MS (MS (acT NL)))) (qU p m L l k y e t)=some (.nrm,qU p m L (l++(dU y.At 6 b).map kj) k y e t):=by
 have c1:=yg (qB p m l y fun d=>if 9=d then some (aD y.S) else if 13=d then some (ax e) else if 14=d then some (ax t) else none) (l:=l) rfl (by omega) y.At 6 b
 have hA:=aZ (E:=E0) (Kx p y.S b hF) (by simp) (by simp)
 exact dM 6 rfl (by simp) (by simp [-aF,hA];rfl) (by simp [bC,AV.cL,c1,St.back,bY,qB];rfl) (by simp)
theorem agt{b:Bool}(hl:l.length≤999990)(hF:sN p y.S=some b):run G Ω0 E0 (HY (MS (MS (MS (acT NL))))) (qU p m L l k y e t)=some (.nrm,qU p m L (l++(dU y.At 7 b).map kj) k y e t):=by
 have c1:=yg (qB p m l y fun d=>if 9=d then some (aD y.S) else if 13=d then some (ax e) else if 14=d then some (ax t) else none) (l:=l) rfl (by omega) y.At 7 b
 have hA:=aZ (E:=E0) (Kz p y.S b hF) (by simp) (by simp)
 exact dM 6 rfl (by simp) (by simp [-aF,hA];rfl) (by simp [bC,AV.cL,c1,St.back,bY,qB];rfl) (by simp)
theorem Z4{v s:Bool}(hl:l.length≤999980):run G Ω0 E0 XQ (qS p m L l k [(8,.p ⟨0,8⟩ 0),(15,.b v),(16,.b s)] [(8,dE y)])=some (.nrm,qS p m L (l++(dU y.At 8 v).map kj++(dU y.At 9 s).map kj) k [] []):=by
 have c1:=yg (qB p m l y fun _=>none) (l:=l) rfl (by omega) y.At 8 v
 have F:(l++(dU y.At 8 v).map kj).length≤1000000:=by
  have:=yY y.At 8 v
  simp only [eK,eY];omega
 have c2:=yg (qB p m (l++(dU y.At 8 v).map kj) y fun _=>none) rfl F y.At 9 s
 apply aj (st1:=qS p m L (l++(dU y.At 8 v).map kj) k [(8,.p ⟨0,8⟩ 0),(16,.b s)] [(8,dE y)])
 ·simp [bC,AV.cL,c1,St.back,bY,qB]
 ·generalize l++(dU y.At 8 v).map kj=l1 at c2 ⊢
  simp [bC,AV.cL,c2,St.back,bY,qB]
theorem Z5{ok b5 b6 b7:Bool}{n i:Nat}(hl:l.length≤999970)(hk:y.S.Kind=5∨y.S.Kind=6)(hi:y.S.Var=(i:Int))(ht:m.Vars[i]? =some t)(h5:fu y.Place t=some b5)(h6:sM p y.S=some b6)(h7:sN p y.S=some b7)
  (hm:p.ak.Many=(n:Int)) (hn:n≤6) (he:bw n e) (hs:bw n t) (hp:bw n y.Place) (hT:∀ j:Nat,j<n→kY p (j:Int)=some (kh p j)) :
  run G Ω0 E0 zL (qT p m L l k y e ok)=some (.nrm,qS p m L (l++(dU y.At 5 (!b5)).map kj++(dU y.At 6 b6).map kj++(dU y.At 7 b7).map kj++
   (dU y.At 8 (if y.S.Kind=5 then !wy n e.Writers t.Writers else !wy n t.Readers e.Readers)).map kj++(dU y.At 9 (if y.S.Kind=5 then zz n (fun j=>(on e.Writers j||on y.Place.Writers j)&&!kh p j) else false)).map kj) k [] []):=by
 have f1:¬y.S.Kind=1:=by omega
 have f2:¬y.S.Kind=2:=by omega
 have f3:¬y.S.Kind=3:=by omega
 have f4:¬y.S.Kind=4:=by omega
 have l5:=yY y.At 5 (!b5)
 have l6:=yY y.At 6 b6
 have l7:=yY y.At 7 b7
 have w:=Z3 (p:=p) (m:=m) (L:=L) (l:=l++(dU y.At 5 (!b5)).map kj++(dU y.At 6 b6).map kj++(dU y.At 7 b7).map kj) (k:=k) (y:=y) hm hn he hs hp hT
 apply aj (by simp;rfl)
 apply dI
 apply aj (by simp;rfl)
 apply ba (by simp [f1])
 apply aj (by simp;rfl)
 apply ba (by simp [f2])
 apply aj (by simp;rfl)
 apply ba (by simp [f3])
 apply aj (by simp;rfl)
 apply ba (by simp [f4])
 apply aj (st1:=if y.S.Kind=5 then qS p m L l k [(8,.p ⟨0,8⟩ 0),(9,.p ⟨0,9⟩ 0),(13,.p ⟨0,13⟩ 0),(85,I y.S.Kind),(146,.b true)] [(8,dE y),(9,aD y.S),(13,ax e)] else qS p m L l k [(8,.p ⟨0,8⟩ 0),(9,.p ⟨0,9⟩ 0),(13,.p ⟨0,13⟩ 0),(146,.b true)] [(8,dE y),(9,aD y.S),(13,ax e)])
 ·apply aj (by simp;rfl)
  rcases hk with hk | hk
  ·rw [ab hk]
   apply bT (by simp [hk])
   simp [hk]
  ·rw [aa (by omega)]
   apply ba (by simp [hk])
   simp [hk]
 apply di
 rw [show (if y.S.Kind=5 then qS p m L l k [(8,.p ⟨0,8⟩ 0),(9,.p ⟨0,9⟩ 0),(13,.p ⟨0,13⟩ 0),(85,I y.S.Kind),(146,.b true)] [(8,dE y),(9,aD y.S),(13,ax e)] else qS p m L l k [(8,.p ⟨0,8⟩ 0),(9,.p ⟨0,9⟩ 0),(13,.p ⟨0,13⟩ 0),(146,.b true)] [(8,dE y),(9,aD y.S),(13,ax e)]).aG [1,3,4,5,6,7,8,9,13,146] [1,3,5,8,9,13]=qS p m L l k [(8,.p ⟨0,8⟩ 0),(9,.p ⟨0,9⟩ 0),(13,.p ⟨0,13⟩ 0),(146,.b true)] [(8,dE y),(9,aD y.S),(13,ax e)] by split<;>rfl]
 apply bT (by simp)
 apply aj (st1:=qU p m L l k y e t) (by simp [hi,ht,aI])
 apply aj (agr (by omega) h5)
 apply aj (ags (by simp only [eK,eY];omega) h6)
 apply aj (agt (by simp only [eK,eY];omega) h7)
 generalize F:l++(dU y.At 5 (!b5)).map kj++(dU y.At 6 b6).map kj++(dU y.At 7 b7).map kj=l2 at w ⊢
 have hlen:l2.length≤999980:=by rw [←F];simp only [eK,eY];omega
 apply aj (by simp;rfl)
 apply aj
 ·apply aj (by simp;rfl)
  apply lu
  rw [dL]
  exact w
 apply di
 exact Z4 hlen
theorem Z6{fs:List eF}{ok hx:Bool}{bt:Level}{l2:List dw}{xs:List (Nat×AV)}{bs:List (Nat×List AV)}{z:St}(hk:L[k]? =some y)(hA:oJ p m y=some fs)
  (hf:fH G Ω0 E0 NJ (qF p m L l k y fs true 0)=some (.ex 2,qS p m L l k [(8,.p ⟨0,8⟩ 0),(9,.p ⟨0,9⟩ 0),(10,.b ok),(11,.l 115 (fs.map dG)),(12,I fs.length),(43,.b false)] [(8,dE y),(9,aD y.S)]))
  (hb:fR p.ak=some bt) (hh:ye y.S.Kind=some hx) (he:if hx=true then nS p m.Vars y.S.Expr=some e else e=bt)
  (hT:run G Ω0 E0 zL (qT p m L l k y e ok)=some (.nrm,qS p m L l2 k xs bs)) (hL:L.length≤1000000) :
  run G Ω0 E0 NM (qS p m L l k [] [])=some (.nrm,qS p m L l2 (k+1) [] []):=by
 have g:=(eb.1 hk).1
 have hw:IntKind.i64.wrap ((k:Int)+1)=(k:Int)+1:=wrap64 (by omega) (by omega)
 have cA:=aZ (E:=E0) (L4 p m y fs hA) (by simp) (by simp)
 have cB:=aZ (E:=E0) (lL p.ak bt hb) (by simp) (by simp)
 have cH:=aZ (E:=E0) (DI y.S.Kind hx hh) (by simp) (by simp)
 apply aj
 ·apply aj (by simp [g];rfl)
  apply bT (by simp [g])
  exact bh _ _
 apply di
 apply aj (st1:=qS p m L l2 k xs bs)
 ·apply dI
  apply aj (st1:=qS p m L l k [(8,.p ⟨0,8⟩ 0)] [(8,dE y)]) (by simp [hk,cY])
  apply aj (st1:=qS p m L l k [(8,.p ⟨0,8⟩ 0),(9,.p ⟨0,9⟩ 0)] [(8,dE y),(9,aD y.S)]) (by simp)
  apply aj (by simp;rfl)
  apply aj (st1:=qS p m L l k [(8,.p ⟨0,8⟩ 0),(9,.p ⟨0,9⟩ 0),(10,.b true),(11,.l 115 (fs.map dG))] [(8,dE y),(9,aD y.S)]) (by simp [-aF,cA])
  apply aj
  ·apply aj (by simp;rfl)
   apply lu
   rw [dL]
   exact hf
  apply di
  apply aj (st1:=qS p m L l k [(8,.p ⟨0,8⟩ 0),(9,.p ⟨0,9⟩ 0),(10,.b ok),(13,.p ⟨0,13⟩ 0)] [(8,dE y),(9,aD y.S),(13,ax bt)]) (by simp [-aF,cB])
  apply aj (st1:=if hx=true then qT p m L l k y e ok else qS p m L l k [(8,.p ⟨0,8⟩ 0),(9,.p ⟨0,9⟩ 0),(10,.b ok),(13,.p ⟨0,13⟩ 0),(77,.b hx)] [(8,dE y),(9,aD y.S),(13,ax e)])
  ·apply aj (st1:=qS p m L l k [(8,.p ⟨0,8⟩ 0),(9,.p ⟨0,9⟩ 0),(10,.b ok),(13,.p ⟨0,13⟩ 0),(77,.b hx)] [(8,dE y),(9,aD y.S),(13,ax bt)]) (by simp [-aF,cH])
   cases hx with
   | true=>
    rw [ab rfl] at he
    have cE:=aZ (E:=E0) (IZ p m.Vars y.S.Expr e he) (by simp) (by simp)
    rw [ab rfl]
    apply bT (by simp)
    simp [-aF,cE]
   | false=>
    rw [aa (by simp)] at he
    subst he
    rw [aa (by simp)]
    apply ba (by simp)
    exact bh _ _
  apply di
  rw [show (if hx=true then qT p m L l k y e ok else qS p m L l k [(8,.p ⟨0,8⟩ 0),(9,.p ⟨0,9⟩ 0),(10,.b ok),(13,.p ⟨0,13⟩ 0),(77,.b hx)] [(8,dE y),(9,aD y.S),(13,ax e)]).aG [1,3,4,5,6,7,8,9,10,13] [1,3,5,8,9,13]=qT p m L l k y e ok by split<;>rfl]
  exact hT
 simp [hw]
end
section
variable {p:Program}(h:nA p)(ho:Dt p){m:eD}(hV:eS p m.Vars m.Funcs){i:Nat}(hi:i≤p.Funcs.length){x:A6}(hs:bW p i x.s=0)(u:bw (MM p) x.pl)
include h ho hV hi hs u
theorem agu{L:List bq}{l:List dw}{k:Nat}(hl:l.length≤999970){e:Level}(he:e=if eP x.s.Kind=true then iH (MM p) m.Vars x.s.Expr else fA (MM p)) :
  ∃ xs bs,run G Ω0 E0 zL (qT p m L l k (mF x) e (GI p m.Vars x.s x.pl))=some (.nrm,qS p m L (l++(jd p m.Vars x.s x.a x.pl).map kj) k xs bs):=by
 obtain ⟨g1,g2,g3,g4,g5,g6⟩:=vK hs
 by_cases k1:x.s.Kind=1
 ·refine ⟨[],[],?_⟩
  unfold jd;rw [ab k1]
  exact agl (y:=mF x) (by omega) k1
 by_cases k2:x.s.Kind=2
 ·refine ⟨[],[],?_⟩
  unfold jd;rw [aa k1,ab k2]
  exact agm (y:=mF x) (by omega) k2
 by_cases k3:x.s.Kind=3
 ·have v2:=g3 (by rw [k3];rfl)
  have e3:fD p i x.s.Kind=p.Ins.length:=by rw [k3];rfl
  have g:x.s.Other.toNat<p.Ins.length:=by omega
  have hd:CN p.Ins x.s.Other=p.Ins[x.s.Other.toNat]:=by unfold CN;rw [lM,aP g];rfl
  have D:=h.ins _ (bN g)
  refine ⟨[],[],?_⟩
  unfold jd
  rw [aa k1,aa k2,ab k3,hd]
  exact agn (y:=mF x) (by omega) k3 fun _=>⟨x.s.Other.toNat,_,_,show x.s.Other=_ by omega,aP g,Cj _ h.dT _ D,vR h.small u (oH _ _)⟩
 by_cases k4:x.s.Kind=4
 ·have v2:=g3 (by rw [k4];rfl)
  have e3:fD p i x.s.Kind=p.Outs.length:=by rw [k4];rfl
  have g:x.s.Other.toNat<p.Outs.length:=by omega
  have hd:CN p.Outs x.s.Other=p.Outs[x.s.Other.toNat]:=by unfold CN;rw [lM,aP g];rfl
  have D:=h.outs _ (bN g)
  have hh:eP x.s.Kind=true:=by rw [k4];rfl
  obtain ⟨l1,l2⟩:=xG h hV (g5 hh)
  rw [ab hh] at he
  subst he
  refine ⟨[],[],?_⟩
  unfold jd
  rw [aa k1,aa k2,aa k3,ab k4,hd,Ty (MM p) x.pl]
  exact ago (y:=mF x) (by omega) k4 (i:=x.s.Other.toNat) (show x.s.Other=_ by omega) (aP g) (Cj _ h.dT _ D) (pG h.small l2 u) (vR h.small (dX _ _ _) (oH _ _))
 have hh:eP x.s.Kind=true:=by unfold eP;exact aA ⟨k2,k3⟩
 rw [ab hh] at he
 subst he
 by_cases k56:x.s.Kind=5∨x.s.Kind=6
 ·have hm:=Dv h.dT
  have v1:=g2 (by rcases k56 with k | k<;>(rw [k];rfl))
  have hx:=g5 hh
  obtain ⟨l1,l2⟩:=xG h hV hx
  obtain ⟨q1,q2⟩:=W8 h ho hV v1.1 v1.2
  refine ⟨[],[],?_⟩
  have hj:∀ j,j<MM p→on (cU (MM p) (iH (MM p) m.Vars x.s.Expr) x.pl).Writers j=(on (iH (MM p) m.Vars x.s.Expr).Writers j||on x.pl.Writers j):=fun j hj=>Ke hj
  have K:Bq p (cU (MM p) (iH (MM p) m.Vars x.s.Expr) x.pl)=zz (MM p) fun j=>(on (iH (MM p) m.Vars x.s.Expr).Writers j||on x.pl.Writers j)&&!kh p j:=by
   unfold Bq zz
   rw [lN]
   simp only [jK,yt]
   exact ⟨fun ⟨j,h1,h2⟩=>⟨j,h1,by rw [←hj j h1];exact h2⟩,fun ⟨j,h1,h2⟩=>⟨j,h1,by rw [hj j h1];exact h2⟩⟩
  have w:=Z5 (p:=p) (m:=m) (L:=L) (l:=l) (k:=k) (y:=mF x) (ok:=GI p m.Vars x.s x.pl) (n:=MM p) (i:=x.s.Var.toNat) hl k56 (show x.s.Var=_ by omega) q1 (vR h.small u q2) (Z1 h v1 hx) (Z2 h v1 hx)
   (show p.ak.Many=((p.ak.Many.toNat:Nat):Int) by omega) (by unfold MM;omega) l2 q2 u fun j hj=>VH h (qX.2 ⟨by omega,by unfold MM at hj;omega⟩)
  unfold jd
  rw [aa k1,aa k2,aa k3,aa k4,ab k56,K,w]
  rcases k56 with k5 | k6
  ·have k5':(mF x).S.Kind=5:=k5
   simp only [ab k5,ab k5',ei,ox]
   rfl
  ·have n5:¬x.s.Kind=5:=by omega
   have n5':¬(mF x).S.Kind=5:=n5
   have e9:dU (mF x).At 9 false=[]:=rfl
   simp only [aa n5,aa n5',e9,ei,ox,u5,mW]
   rfl
 ·have t0:=agp (p:=p) (m:=m) (L:=L) (l:=l) (k:=k) (y:=mF x) (e:=iH (MM p) m.Vars x.s.Expr) (ok:=GI p m.Vars x.s x.pl) (show 7≤x.s.Kind by omega)
  have e0:jd p m.Vars x.s x.a x.pl=[]:=by
   unfold jd
   rw [aa k1,aa k2,aa k3,aa k4,aa k56]
  rw [e0,u5,mW]
  exact ⟨_,_,t0⟩
theorem akG{L:List bq}{l:List dw}{k:Nat}(hk:L[k]? =some (mF x))(hl:l.length≤999970)(hL:L.length≤1000000) :
  run G Ω0 E0 NM (qS p m L l k [] [])=some (.nrm,qS p m L (l++(jd p m.Vars x.s x.a x.pl).map kj) (k+1) [] []):=by
 obtain ⟨a1,a2,a3⟩:=M5 h ho hV hi hs u
 obtain ⟨g1,g2,g3,g4,g5,g6⟩:=vK hs
 have hA:oJ p m (mF x)=some ((wF p m.Vars x.s x.pl).map vS):=by
  show L3 p m.Vars x.s x.pl=_
  rw [MY h ho hV hi u hs,a1];rfl
 have hf:=Xa (p:=p) (m:=m) (L:=L) (l:=l) (k:=k) (y:=mF x) (fs:=(wF p m.Vars x.s x.pl).map vS) (fun a=>decide (a.To<0)||jY (MM p) a.L (m.Vars.getD a.To.toNat (fA (MM p)))) (by simp;omega) (fun a ha=>by
  obtain ⟨f,hf,rfl⟩:=iJ.1 ha
  obtain ⟨f1,f2,f3⟩:=a2 f hf
  refine ⟨fun hn=>by simp [hn],fun hn=>?_⟩
  cases C:f.Func with
  | true=>exact absurd (show (vS f).To<0 by unfold vS;rw [C];simp only [az];omega) hn
  | false=>
   rw [C,aa (by simp)] at f3
   have e2:(vS f).To=f.To:=by unfold vS;rw [C];simp
   have M:f.To.toNat<m.Vars.length:=by rw [hV.vl];exact f3
   have ht:=aP M
   refine ⟨f.To.toNat,m.Vars[f.To.toNat],by omega,ht,?_⟩
   rw [ay hn,pS,e2,lM,ht]
   exact vR h.small f1 (DB hV.vs ht))
 have H:((wF p m.Vars x.s x.pl).map vS).all (fun a=>decide (a.To<0)||jY (MM p) a.L (m.Vars.getD a.To.toNat (fA (MM p))))=GI p m.Vars x.s x.pl:=by
  unfold GI
  rw [yk,lN]
  simp only [cJ]
  have e:∀ f∈wF p m.Vars x.s x.pl,((fun a:eF=>decide (a.To<0)||jY (MM p) a.L (m.Vars.getD a.To.toNat (fA (MM p))))∘vS) f=okF p m.Vars f:=fun f hf=>by
   obtain ⟨f1,f2,f3⟩:=a2 f hf
   unfold okF vS
   cases C:f.Func with
   | true=>simp [C,show -1 - f.To<0 by omega]
   | false=>simp [C,show ¬f.To<0 by omega]
  exact ⟨fun hq f hf=>by rw [←e f hf];exact hq f hf,fun hq f hf=>by rw [e f hf];exact hq f hf⟩
 rw [H] at hf
 obtain ⟨xs,bs,hT⟩:=agu h ho hV hi hs u (L:=L) (l:=l) (k:=k) hl rfl
 refine Z6 (y:=mF x) (z:=qS p m L l k [] []) (hx:=eP x.s.Kind) hk hA hf (tO _ h.dT) (Kl g1) ?_ hT hL
 cases hh:eP x.s.Kind with
 | true=>rw [ab rfl,ab rfl];exact MX h hV (g5 hh)
 | false=>rw [aa (by simp),aa (by simp)]
end
theorem Tz{p:Program}(h:nA p)(ho:Dt p){m:eD}(hm:mE p=some m)(hV:eS p m.Vars m.Funcs):call G Ω0 E0 30 [.a (av p)] H0=some (.ret (.l 133 (((tP p m).map kj).map jc)),H0):=by
 have hlen:=Ad h ho hV
 have J:=Cb h ho hV
 have hP:=KG h ho hV
 have cI:=aZ (E:=E0) (L7 p m hm) (by simp) (by simp)
 have cP:=aZ (E:=E0) (KA p m _ hP) (by simp) (by simp)
 unfold tP
 generalize nq (MM p) m.Vars p m.Funcs=L at hlen J cP ⊢
 have O:∀ k,(((L.take k).flatMap fun x=>jd p m.Vars x.s x.a x.pl).map kj).length≤5*k:=by
  intro k
  induction k with
  | zero=>simp
  | succ k ih=>
   by_cases hk:k<L.length
   ·have:=EF p m.Vars L[k].s L[k].a L[k].pl
    rw [pP hk,List.flatMap_append,ei,eK]
    simp only [uY,List.flatMap_nil,mW,eY] at ih ⊢
    omega
   ·rw [jL (by omega)]
    rw [jL (by omega)] at ih
    omega
 have fin:∀ (Q:List bq)(l:List dw),run G Ω0 E0 NM (qS p m Q l Q.length [] [])=some (.ex 0,qS p m Q l Q.length [(27,.b false)] []):=fun Q l=>by
  apply iu
  apply aj (by simp;rfl)
  apply ba (by simp)
  exact dR _ _ _
 have q:=Dc (E:=E0) (c:=XR) (fun k=>qS p m (L.map mF) (((L.take k).flatMap fun x=>jd p m.Vars x.s x.a x.pl).map kj) k [] []) L.length (e:=0) (z:=qS p m (L.map mF) ((L.flatMap fun x=>jd p m.Vars x.s x.a x.pl).map kj) L.length [(27,.b false)] []) (fun k=>rfl)
  (fun k hk=>by
   obtain ⟨⟨i,hi,hs⟩,u⟩:=J _ (bN hk)
   have T:=O k
   have hg:(L.map mF)[k]? =some (mF L[k]):=by rw [yl,aP hk];rfl
   have w:=akG h ho hV hi hs u hg (l:=((L.take k).flatMap fun x=>jd p m.Vars x.s x.a x.pl).map kj) (by omega) (by simp;omega)
   simp only [pP hk,List.flatMap_append,ei,uY,List.flatMap_nil,mW]
   exact w)
  (by
   have w:=fin (L.map mF) ((L.flatMap fun x=>jd p m.Vars x.s x.a x.pl).map kj)
   rw [eY] at w
   simp only [Fy]
   exact w)
 apply dS G30
 ·apply aj (by simp;rfl)
  apply aj (st1:=⟨[(1,.p ⟨0,1⟩ 0),(3,.p ⟨0,3⟩ 0)],[(1,av p),(3,YW m)],H0⟩) (by simp [-aF,cI])
  apply aj (st1:=⟨[(1,.p ⟨0,1⟩ 0),(3,.p ⟨0,3⟩ 0),(4,.l 113 ((L.map mF).map cY))],[(1,av p),(3,YW m)],H0⟩) (by simp [-aF,cP])
  apply aj (by simp;rfl)
  apply aj (by simp;rfl)
  apply aj
  ·apply aj (st1:=qS p m (L.map mF) [] 0 [] []) (by simp)
   apply lu
   rw [dL]
   exact q
  apply aj (by simp;rfl)
  exact cQ _ _
 ·simp [c30]
 ·rfl
noncomputable def sT(p:Program):Option (List dw):=open Classical in if sB p=0 then (mE p).bind fun m=>some ((tP p m).map kj) else none
theorem KI(p:Program)(r:List dw)(h:sT p=some r):call G Ω0 E0 30 [.a (av p)] H0=some (.ret (.l 133 (r.map jc)),H0):=by
 unfold sT at h
 split at h
 ·rename_i hc
  obtain ⟨m,m1,m2,m3⟩:=M1 (Pp hc) (CJ hc)
  rw [m2] at h
  obtain rfl:=af h
  exact Tz (Pp hc) (CJ hc) m2 m3
 ·cases h
theorem Z7{p:Program}(hc:sB p=0){m:eD}(hm:mE p=some m):sT p=some ((tP p m).map kj):=by
 unfold sT
 rw [ab hc,hm];rfl
end Go.Proofs.YtkkkkondjclcnaaGreat.A
