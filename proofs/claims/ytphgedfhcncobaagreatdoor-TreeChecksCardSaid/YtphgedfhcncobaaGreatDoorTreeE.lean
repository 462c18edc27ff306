/- expressions of trees: how great they are, and which are right: the program's and the document's are the same plain functions. -/
import Derived.Test.YtphgedfhcncobaaGreatDoorNameP
set_option linter.unusedSectionVars false
set_option linter.unusedVariables false
set_option linter.unusedSimpArgs false
namespace Go.Proofs.YtphgedfhcncobaaGreatDoor.A
open Go
mutual
def mw:ad→Int→Int
 | ⟨_,_,_,_,args⟩,m=>tv args 1 m
def tv:List ad→Int→Int→Int
 | [],n,_=>n
 | x::r,n,m=>if m<n then n else tv r (n+mw x (m - n)) m
end
theorem D5(e:ad)(m:Int):mw e m=tv e.Args 1 m:=by cases e;simp only [mw]
mutual
theorem A0:∀ (e:ad)(m:Int),0≤m→1≤mw e m∧mw e m≤m+1
 | ⟨_,_,_,_,args⟩,m,h=>by
  have:=D6 args 1 m (by omega) (by omega)
  simp only [mw];exact this
theorem D6:∀ (l:List ad)(n m:Int),1≤n→n≤m+1→n≤tv l n m∧tv l n m≤m+1
 | [],n,m,h1,h2=>by simp only [tv];omega
 | x::r,n,m,h1,h2=>by
  simp only [tv]
  split
  ·omega
  ·have h3:=A0 x (m - n) (by omega)
   have h4:=D6 r (n+mw x (m - n)) m (by omega) (by omega)
   omega
end
mutual
def eN:ad→Bool
 | ⟨k,_,n,nm,args⟩=>
  if k=1 then nm==[]&&(args.length==0&&decide (-9999999≤n∧n≤9999999))
  else if k=2 then decide (n=0)&&(args.length==0&&bO nm)
  else if 3≤k∧k≤7 then decide (n=0)&&(nm==[]&&(args.length==2&&Dh args))
  else false
def Dh:List ad→Bool
 | []=>true
 | x::r=>eN x&&Dh r
end
theorem A1:∀ l:List ad,Dh l=l.all eN
 | []=>rfl
 | x::r=>by rw [Dh,A1 r];rfl
theorem D7(e:ad):eN e=if e.Kind=1 then e.Name==[]&&(e.Args.length==0&&decide (-9999999≤e.N∧e.N≤9999999))
  else if e.Kind=2 then decide (e.N=0)&&(e.Args.length==0&&bO e.Name)
  else if 3≤e.Kind∧e.Kind≤7 then decide (e.N=0)&&(e.Name==[]&&(e.Args.length==2&&e.Args.all eN))
  else false:=by
 cases e;simp only [eN,A1]
mutual
def wu:ad→Nat
 | ⟨_,_,_,_,args⟩=>1+D8 args
def D8:List ad→Nat
 | []=>0
 | x::r=>max (wu x) (D8 r)
end
theorem wv(e:ad):wu e=1+D8 e.Args:=by cases e;simp only [wu]
theorem yt:∀ {l:List ad}{x:ad},x∈l→wu x≤D8 l
 | y::r,x,h=>by
  simp only [D8]
  rcases List.mem_cons.1 h with rfl | h
  ·omega
  ·have:=yt h;omega
def A2(e:ad):Bool:=e.Kind==0&&(e.N==0&&(e.Name==[]&&e.Args.length==0))
variable [Lp]
theorem Gn:∀ (k:Nat)(e:ad)(m:Int),0≤m→m<100→m<k→(fv k).f_tree_size e m=some (mw e m)
 | 0,e,m,h0,_,h=>by omega
 | k+1,e,m,h0,h1,h=>by
  show mP (fv k) e m=_
  have loop:∀ (rest:List ad)(i:Nat)(n:Int),e.Args.drop i=rest→1≤n→(i:Int)+1≤n→n≤m+1→∃ x,lp (fun v=>dT (fv k) e m v.1 v.2) (n,i)=some x∧(match x with | .inl y=>y.1 | .inr y=>y.1)=tv rest n m:=by
   intro rest
   induction rest with
   | nil=>
    intro i n hd _ _ _
    have hlen:¬(i:Int)<(e.Args.length:Int):=by
     have:=List.drop_eq_nil_iff.1 hd;omega
    exact ⟨_,b5 (B:=fun v:Int×Nat=>dT (fv k) e m v.1 v.2) (x:=.inr (n,i,false)) (by simp [dT,hlen]),rfl⟩
   | cons x r ih=>
    intro i n hd h2 h3 h4
    have hlt:i<e.Args.length:=by
     apply Classical.byContradiction
     intro hn
     rw [List.drop_eq_nil_of_le (by omega)] at hd;cases hd
    rw [List.drop_eq_getElem_cons hlt] at hd
    obtain ⟨hx,hr⟩:=List.cons.inj hd
    have hg:e.Args[i]? =some x:=by rw [List.getElem?_eq_getElem hlt,hx]
    simp only [tv]
    by_cases hm:m<n
    ·rw [if_pos hm]
     exact ⟨_,b5 (B:=fun v:Int×Nat=>dT (fv k) e m v.1 v.2) (x:=.inl (n,i,decide (m<n),x)) (by simp only [dT,hg,Option.bind_some];rw [if_pos (by omega),if_pos hm]),rfl⟩
    ·rw [if_neg hm]
     have hs:=A0 x (m - n) (by omega)
     obtain ⟨y,hy1,hy2⟩:=ih (i+1) (n+mw x (m - n)) hr (by omega) (by omega) (by omega)
     refine ⟨y,?_,hy2⟩
     rw [←hy1]
     refine fG ?_
     simp only [dT,hg,Option.bind_some]
     rw [if_pos (by omega),if_neg hm,if_pos (eR (by omega) (by omega)),Gn k x (m - n) (by omega) (by omega) (by omega)]
     simp only [Option.bind_some]
     rw [if_pos (eR (by omega) (by omega)),if_pos (fk i (by omega))]
  obtain ⟨x,h2,h3⟩:=loop e.Args 0 1 (List.drop_zero ..) (by omega) (by omega) (by omega)
  unfold mP
  rw [h2,D5,←h3]
  cases x<;>rfl
theorem yu(e:ad)(m:Int)(h0:0≤m)(h1:m<100):lL e m=some (mw e m):=
 qn 100 fun n hn=>Gn n e m h0 h1 (by omega)
theorem D9:∀ (k:Nat)(e:ad)(m:Int),0≤m→m<100→m<k→(fB k).f_R_partsOf e m=some (mw e m)
 | 0,e,m,h0,_,h=>by omega
 | k+1,e,m,h0,h1,h=>by
  show mZ (fB k) e m=_
  have loop:∀ (rest:List ad)(i:Nat)(n:Int),e.Args.drop i=rest→1≤n→(i:Int)+1≤n→n≤m+1→∃ x,lp (fun v=>dV (fB k) e m v.1 v.2) (n,i)=some x∧x.2.1=tv rest n m:=by
   intro rest
   induction rest with
   | nil=>
    intro i n hd _ _ _
    have hlen:¬(i:Int)<(e.Args.length:Int):=by
     have:=List.drop_eq_nil_iff.1 hd;omega
    exact ⟨_,b5 (B:=fun v:Int×Nat=>dV (fB k) e m v.1 v.2) (x:=(false,n,i)) (by simp only [dV];rw [if_neg hlen]),rfl⟩
   | cons x r ih=>
    intro i n hd h2 h3 h4
    have hlt:i<e.Args.length:=by
     apply Classical.byContradiction
     intro hn
     rw [List.drop_eq_nil_of_le (by omega)] at hd;cases hd
    rw [List.drop_eq_getElem_cons hlt] at hd
    obtain ⟨hx,hr⟩:=List.cons.inj hd
    have hg:e.Args[i]? =some x:=by rw [List.getElem?_eq_getElem hlt,hx]
    simp only [tv]
    by_cases hm:m<n
    ·rw [if_pos hm]
     exact ⟨_,b5 (B:=fun v:Int×Nat=>dV (fB k) e m v.1 v.2) (x:=(decide (n≤m),n,i)) (by simp only [dV];rw [if_pos (by omega),if_neg (by omega)]),rfl⟩
    ·rw [if_neg hm]
     have hs:=A0 x (m - n) (by omega)
     obtain ⟨y,hy1,hy2⟩:=ih (i+1) (n+mw x (m - n)) hr (by omega) (by omega) (by omega)
     refine ⟨y,?_,hy2⟩
     rw [←hy1]
     refine fG ?_
     simp only [dV,hg,Option.bind_some]
     rw [if_pos (by omega),if_pos (by omega),if_pos (eR (by omega) (by omega)),D9 k x (m - n) (by omega) (by omega) (by omega)]
     simp only [Option.bind_some]
     rw [if_pos (eR (by omega) (by omega)),if_pos (fk i (by omega))]
  obtain ⟨x,h2,h3⟩:=loop e.Args 0 1 (List.drop_zero ..) (by omega) (by omega) (by omega)
  unfold mZ
  rw [h2,D5,←h3]
  rfl
theorem sb(e:ad)(m:Int)(h0:0≤m)(h1:m<100):lT e m=some (mw e m):=
 qn 100 fun n hn=>D9 n e m h0 h1 (by omega)
theorem E6(l:List ad):((l.length:Int)==0)=(l.length==0):=by rw [Bool.eq_iff_iff];simp
theorem Qa(l:List ad):((l.length:Int)==2)=(l.length==2):=by rw [Bool.eq_iff_iff];simp;omega
theorem GR(e:ad):oa e=some (A2 e):=by
 unfold oa nN fJ A2
 rw [E6]
 cases (e.Kind==0)<;>cases (e.N==0)<;>cases (e.Name==[])<;>rfl
theorem yW(e:ad):nj e=some (A2 e):=by
 unfold nj oK gJ A2
 rw [E6]
 cases (e.Kind==0)<;>cases (e.N==0)<;>cases (e.Name==[])<;>rfl
theorem Cm:∀ (k:Nat)(e:ad),wu e≤k→(kM k).f_R_isExpr e=some (eN e)
 | 0,e,h=>by rw [wv] at h;omega
 | k+1,e,h=>by
  have ih:∀ y∈e.Args,(kM k).f_R_isExpr y=some (eN y):=fun y hy=>Cm k y (by
   have:=yt hy
   rw [wv] at h;omega)
  show og (kM k) e=_
  rw [D7]
  unfold og oL gK
  simp only [qz,nr,Option.bind_some,E6,Qa]
  by_cases h1:e.Kind=1
  ·simp only [h1,beq_self_eq_true,if_true]
   cases (e.Name==[])<;>cases (e.Args.length==0)<;>simp
  have e1:(e.Kind==1)=false:=by simpa using h1
  simp only [e1,Bool.false_eq_true,if_false,h1]
  by_cases h2:e.Kind=2
  ·simp only [h2,beq_self_eq_true,if_true]
   have:(e.N==0)=decide (e.N=0):=by rw [Bool.eq_iff_iff];simp
   rw [this]
   cases decide (e.N=0)<;>cases (e.Args.length==0)<;>simp
  have e2:(e.Kind==2)=false:=by simpa using h2
  simp only [e2,Bool.false_eq_true,if_false,h2]
  by_cases h3:3≤e.Kind∧e.Kind≤7
  ·rw [if_pos h3]
   simp only [h3,and_self,decide_true,if_true]
   have:(e.N==0)=decide (e.N=0):=by rw [Bool.eq_iff_iff];simp
   rw [this]
   cases decide (e.N=0) with
   | false=>simp
   | true=>
    cases (e.Name==[]) with
    | false=>simp
    | true=>
     by_cases hl:e.Args.length=2
     ·have hl':(e.Args.length==2)=true:=by simpa using hl
      rw [hl']
      generalize hA:e.Args=A at *
      match A,hl with
      | [a,b],_=>
       have ha:=ih a (by simp)
       have hb:=ih b (by simp)
       simp only [if_true,List.getElem?_cons_zero,List.getElem?_cons_succ,Option.bind_some,ha,hb,List.all_cons,List.all_nil,Bool.and_true,Bool.true_and]
       cases eN a<;>rfl
     ·have hl':(e.Args.length==2)=false:=by simpa using hl
      rw [hl'];simp
  ·rw [if_neg h3]
   have:decide (3≤e.Kind∧e.Kind≤7)=false:=by simpa using h3
   rw [this];rfl
theorem tw(e:ad):hU e=some (eN e):=qn (wu e) fun n hn=>Cm n e hn
theorem Gp:∀ (k:Nat)(e:ad),wu e≤k→∀ n,4*k≤n→(ah n).f_tree_expr e=some (eN e)
 | 0,e,h,_,_=>by rw [wv] at h;omega
 | k+1,e,h,n,hn=>by
  obtain ⟨m,rfl⟩:∃ m,n=m+4:=⟨n - 4,by omega⟩
  have ih:∀ y∈e.Args,(ah m).f_tree_expr y=some (eN y):=fun y hy=>Gp k y (by
   have:=yt hy
   rw [wv] at h;omega) m (by omega)
  have hc:e.Args.length≤1000→(ah (m+3)).f_slices_ContainsFunc__tree_expr_1 e.Args=some (e.Args.any fun y=>!eN y):=fun hl=>
   im (fun y=>(ah (m+1)).f_tree_expr_1 y) (fun y=>!eN y) e.Args (by omega) fun y hy=>by
    show kz (ah m) y=_
    unfold kz
    rw [ih y hy];rfl
  show mV (ah (m+3)) e=_
  rw [D7]
  unfold mV ky nL nM
  simp only [rD,Option.bind_some]
  have hN:(e.N !=0)=!decide (e.N=0):=by rw [bne,Bool.eq_iff_iff];simp
  by_cases h1:e.Kind=1
  ·simp only [h1]
   by_cases hl:e.Args.length=0
   ·have:e.Args=[]:=List.length_eq_zero_iff.1 hl
    rw [this] at hc ⊢
    rw [hc (by simp)]
    cases e.Name==[]<;>by_cases g1:e.N < -9999999<;>by_cases g2:9999999<e.N<;>simp [g1,g2]<;>omega
   ·have:¬((e.Args.length:Int)=0):=by omega
    simp [hl,this]
  by_cases h2:e.Kind=2
  ·simp only [h2]
   by_cases hl:e.Args.length=0
   ·have:e.Args=[]:=List.length_eq_zero_iff.1 hl
    rw [this] at hc ⊢
    rw [hc (by simp)]
    by_cases g0:e.N=0
    ·by_cases hm:e.Name=[]
     ·simp [g0,hm,D4]
     ·cases hnm:bO e.Name<;>simp [g0,hm]
    ·simp [g0]
   ·have:¬((e.Args.length:Int)=0):=by omega
    simp [hl,this]
  by_cases h3:3≤e.Kind∧e.Kind≤7
  ·have k1:¬e.Kind<1:=by omega
   have k2:¬7<e.Kind:=by omega
   have k3:2<e.Kind:=by omega
   have e1:(e.Kind !=1)=true:=by simpa using h1
   have e2:(e.Kind==2)=false:=by simpa using h2
   simp only [if_neg k1,if_neg k2,if_pos k3,if_neg h1,if_neg h2,if_pos h3,e1,e2]
   by_cases hl:e.Args.length=2
   ·rw [hc (by omega)]
    have hl':(e.Args.length==2)=true:=by simpa using hl
    have hl2:((e.Args.length:Int) !=((2:Nat):Int))=false:=by rw [hl];rfl
    have hl3:(e.Args.length:Int)=2:=by omega
    have hall:(!e.Args.any fun y=>!eN y)=e.Args.all eN:=by rw [List.not_any_eq_all_not];simp
    by_cases g0:e.N=0
    ·by_cases hm:e.Name=[]
     ·simp [g0,hm,hl',hl2,hl3,←hall]
     ·simp [g0,hm,hl',hl2,hl3]
    ·simp [g0,hl2,hl3]
   ·have hl2:((e.Args.length:Int) !=((2:Nat):Int))=true:=by simp;omega
    have hl':(e.Args.length==2)=false:=by simpa using hl
    have hl3:¬(e.Args.length:Int)=2:=by omega
    simp [hl2,hl',hl3]
  ·rw [if_neg h1,if_neg h2,if_neg h3]
   by_cases k1:e.Kind<1
   ·rw [if_pos k1]
   ·rw [if_neg k1,if_pos (by omega)]
theorem Cn(e:ad):n9 e=some (eN e):=qn (4*wu e) fun n hn=>Gp (wu e) e (Nat.le_refl _) n hn
def q5(e:ad)(b:Bool):Bool:=if b then eN e else A2 e
theorem Ea(e:ad)(b:Bool):cY e b=some (q5 e b):=by
 unfold cY q5
 rw [Cn,GR]
 cases b<;>cases eN e<;>rfl
def iJ(t:List UInt8)(b:Bool):Bool:=if b then bO t else t==[]
theorem A3(t:List UInt8)(b:Bool):du t b=some (iJ t b):=by
 unfold du iJ
 rw [rD]
 cases b<;>cases bO t<;>rfl
end Go.Proofs.YtphgedfhcncobaaGreatDoor.A
