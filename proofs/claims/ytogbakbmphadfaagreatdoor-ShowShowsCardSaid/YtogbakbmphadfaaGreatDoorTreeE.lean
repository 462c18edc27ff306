/- expressions of trees: how great they are, and which are right: the program's and the document's are the same plain functions. -/
import Derived.Test.YtogbakbmphadfaaGreatDoorNameP
set_option linter.unusedSectionVars false
set_option linter.unusedVariables false
set_option linter.unusedSimpArgs false
namespace Go.Proofs.YtogbakbmphadfaaGreatDoor.A
open Go
mutual
def ky:ad→Int→Int
 | ⟨_,_,_,_,args⟩,m=>sZ args 1 m
def sZ:List ad→Int→Int→Int
 | [],n,_=>n
 | x::r,n,m=>if m<n then n else sZ r (n+ky x (m - n)) m
end
theorem Js(e:ad)(m:Int):ky e m=sZ e.Args 1 m:=by cases e;simp only [ky]
mutual
theorem AZ:∀ (e:ad)(m:Int),0≤m→1≤ky e m∧ky e m≤m+1
 | ⟨_,_,_,_,args⟩,m,h=>by
  have:=FF args 1 m (by omega) (by omega)
  simp only [ky];exact this
theorem FF:∀ (l:List ad)(n m:Int),1≤n→n≤m+1→n≤sZ l n m∧sZ l n m≤m+1
 | [],n,m,h1,h2=>by simp only [sZ];omega
 | x::r,n,m,h1,h2=>by
  simp only [sZ]
  split
  ·omega
  ·have h3:=AZ x (m - n) (by omega)
   have h4:=FF r (n+ky x (m - n)) m (by omega) (by omega)
   omega
end
mutual
def df:ad→Bool
 | ⟨k,_,n,nm,args⟩=>
  if k=1 then nm==[]&&(args.length==0&&decide (-9999999≤n∧n≤9999999))
  else if k=2 then decide (n=0)&&(args.length==0&&cA nm)
  else if 3≤k∧k≤7 then decide (n=0)&&(nm==[]&&(args.length==2&&vR args))
  else false
def vR:List ad→Bool
 | []=>true
 | x::r=>df x&&vR r
end
theorem FG:∀ l:List ad,vR l=l.all df
 | []=>rfl
 | x::r=>by rw [vR,FG r];rfl
theorem A0(e:ad):df e=if e.Kind=1 then e.Name==[]&&(e.Args.length==0&&decide (-9999999≤e.N∧e.N≤9999999))
  else if e.Kind=2 then decide (e.N=0)&&(e.Args.length==0&&cA e.Name)
  else if 3≤e.Kind∧e.Kind≤7 then decide (e.N=0)&&(e.Name==[]&&(e.Args.length==2&&e.Args.all df))
  else false:=by
 cases e;simp only [df,FG]
mutual
def A1:ad→Nat
 | ⟨_,_,_,_,args⟩=>1+Jt args
def Jt:List ad→Nat
 | []=>0
 | x::r=>max (A1 x) (Jt r)
end
theorem A2(e:ad):A1 e=1+Jt e.Args:=by cases e;simp only [A1]
theorem CQ:∀ {l:List ad}{x:ad},x∈l→A1 x≤Jt l
 | y::r,x,h=>by
  simp only [Jt]
  rcases List.mem_cons.1 h with rfl | h
  ·omega
  ·have:=CQ h;omega
def ua(e:ad):Bool:=e.Kind==0&&(e.N==0&&(e.Name==[]&&e.Args.length==0))
variable [Lp]
theorem Mx:∀ (k:Nat)(e:ad)(m:Int),0≤m→m<100→m<k→(ir k).f_tree_size e m=some (ky e m)
 | 0,e,m,h0,_,h=>by omega
 | k+1,e,m,h0,h1,h=>by
  show pM (ir k) e m=_
  have loop:∀ (rest:List ad)(i:Nat)(n:Int),e.Args.drop i=rest→1≤n→(i:Int)+1≤n→n≤m+1→∃ x,lp (fun v=>fj (ir k) e m v.1 v.2) (n,i)=some x∧(match x with | .inl y=>y.1 | .inr y=>y.1)=sZ rest n m:=by
   intro rest
   induction rest with
   | nil=>
    intro i n hd _ _ _
    have hlen:¬(i:Int)<(e.Args.length:Int):=by
     have:=List.drop_eq_nil_iff.1 hd;omega
    exact ⟨_,bZ (B:=fun v:Int×Nat=>fj (ir k) e m v.1 v.2) (x:=.inr (n,i,false)) (by simp [fj,hlen]),rfl⟩
   | cons x r ih=>
    intro i n hd h2 h3 h4
    have hlt:i<e.Args.length:=by
     apply Classical.byContradiction
     intro hn
     rw [List.drop_eq_nil_of_le (by omega)] at hd;cases hd
    rw [List.drop_eq_getElem_cons hlt] at hd
    obtain ⟨hx,hr⟩:=List.cons.inj hd
    have hg:e.Args[i]? =some x:=by rw [List.getElem?_eq_getElem hlt,hx]
    simp only [sZ]
    by_cases hm:m<n
    ·rw [if_pos hm]
     exact ⟨_,bZ (B:=fun v:Int×Nat=>fj (ir k) e m v.1 v.2) (x:=.inl (n,i,decide (m<n),x)) (by simp only [fj,hg,Option.bind_some];rw [if_pos (by omega),if_pos hm]),rfl⟩
    ·rw [if_neg hm]
     have hs:=AZ x (m - n) (by omega)
     obtain ⟨y,hy1,hy2⟩:=ih (i+1) (n+ky x (m - n)) hr (by omega) (by omega) (by omega)
     refine ⟨y,?_,hy2⟩
     rw [←hy1]
     refine de ?_
     simp only [fj,hg,Option.bind_some]
     rw [if_pos (by omega),if_neg hm,if_pos (eY (by omega) (by omega)),Mx k x (m - n) (by omega) (by omega) (by omega)]
     simp only [Option.bind_some]
     rw [if_pos (eY (by omega) (by omega)),if_pos (dq i (by omega))]
  obtain ⟨x,h2,h3⟩:=loop e.Args 0 1 (List.drop_zero ..) (by omega) (by omega) (by omega)
  unfold pM
  rw [h2,Js,←h3]
  cases x<;>rfl
theorem CS(e:ad)(m:Int)(h0:0≤m)(h1:m<100):oe e m=some (ky e m):=
 my 100 fun n hn=>Mx n e m h0 h1 (by omega)
theorem Ju:∀ (k:Nat)(e:ad)(m:Int),0≤m→m<100→m<k→(iz k).f_R_partsOf e m=some (ky e m)
 | 0,e,m,h0,_,h=>by omega
 | k+1,e,m,h0,h1,h=>by
  show pU (iz k) e m=_
  have loop:∀ (rest:List ad)(i:Nat)(n:Int),e.Args.drop i=rest→1≤n→(i:Int)+1≤n→n≤m+1→∃ x,lp (fun v=>fl (iz k) e m v.1 v.2) (n,i)=some x∧x.2.1=sZ rest n m:=by
   intro rest
   induction rest with
   | nil=>
    intro i n hd _ _ _
    have hlen:¬(i:Int)<(e.Args.length:Int):=by
     have:=List.drop_eq_nil_iff.1 hd;omega
    exact ⟨_,bZ (B:=fun v:Int×Nat=>fl (iz k) e m v.1 v.2) (x:=(false,n,i)) (by simp only [fl];rw [if_neg hlen]),rfl⟩
   | cons x r ih=>
    intro i n hd h2 h3 h4
    have hlt:i<e.Args.length:=by
     apply Classical.byContradiction
     intro hn
     rw [List.drop_eq_nil_of_le (by omega)] at hd;cases hd
    rw [List.drop_eq_getElem_cons hlt] at hd
    obtain ⟨hx,hr⟩:=List.cons.inj hd
    have hg:e.Args[i]? =some x:=by rw [List.getElem?_eq_getElem hlt,hx]
    simp only [sZ]
    by_cases hm:m<n
    ·rw [if_pos hm]
     exact ⟨_,bZ (B:=fun v:Int×Nat=>fl (iz k) e m v.1 v.2) (x:=(decide (n≤m),n,i)) (by simp only [fl];rw [if_pos (by omega),if_neg (by omega)]),rfl⟩
    ·rw [if_neg hm]
     have hs:=AZ x (m - n) (by omega)
     obtain ⟨y,hy1,hy2⟩:=ih (i+1) (n+ky x (m - n)) hr (by omega) (by omega) (by omega)
     refine ⟨y,?_,hy2⟩
     rw [←hy1]
     refine de ?_
     simp only [fl,hg,Option.bind_some]
     rw [if_pos (by omega),if_pos (by omega),if_pos (eY (by omega) (by omega)),Ju k x (m - n) (by omega) (by omega) (by omega)]
     simp only [Option.bind_some]
     rw [if_pos (eY (by omega) (by omega)),if_pos (dq i (by omega))]
  obtain ⟨x,h2,h3⟩:=loop e.Args 0 1 (List.drop_zero ..) (by omega) (by omega) (by omega)
  unfold pU
  rw [h2,Js,←h3]
  rfl
theorem vS(e:ad)(m:Int)(h0:0≤m)(h1:m<100):ou e m=some (ky e m):=
 my 100 fun n hn=>Ju n e m h0 h1 (by omega)
theorem KR(l:List ad):((l.length:Int)==0)=(l.length==0):=by rw [Bool.eq_iff_iff];simp
theorem ZF(l:List ad):((l.length:Int)==2)=(l.length==2):=by rw [Bool.eq_iff_iff];simp;omega
theorem M1(e:ad):qV e=some (ua e):=by
 unfold qV qB iG ua
 rw [KR]
 cases (e.Kind==0)<;>cases (e.N==0)<;>cases (e.Name==[])<;>rfl
theorem xz(e:ad):nj e=some (ua e):=by
 unfold nj rz jA ua
 rw [KR]
 cases (e.Kind==0)<;>cases (e.N==0)<;>cases (e.Name==[])<;>rfl
theorem Hx:∀ (k:Nat)(e:ad),A1 e≤k→(nq k).f_R_isExpr e=some (df e)
 | 0,e,h=>by rw [A2] at h;omega
 | k+1,e,h=>by
  have ih:∀ y∈e.Args,(nq k).f_R_isExpr y=some (df y):=fun y hy=>Hx k y (by
   have:=CQ hy
   rw [A2] at h;omega)
  show q0 (nq k) e=_
  rw [A0]
  unfold q0 rB jB
  simp only [tZ,pZ,Option.bind_some,KR,ZF]
  by_cases h1:e.Kind=1
  ·simp only [h1,beq_self_eq_true,if_true]
   cases (e.Name==[])<;>cases (e.Args.length==0)<;>simp
  have e1:(e.Kind==1)=false:=by simpa using h1
  simp only [e1,Bool.false_eq_true,if_false,h1]
  by_cases h2:e.Kind=2
  ·simp only [h2,beq_self_eq_true,if_true]
   have:(e.N==0)=decide (e.N=0):=by rw [Bool.eq_iff_iff];simp
   rw [this]
   cases decide (e.N=0)<;>cases (e.Args.length==0)<;>simp
  have e2:(e.Kind==2)=false:=by simpa using h2
  simp only [e2,Bool.false_eq_true,if_false,h2]
  by_cases h3:3≤e.Kind∧e.Kind≤7
  ·rw [if_pos h3]
   simp only [h3,and_self,decide_true,if_true]
   have:(e.N==0)=decide (e.N=0):=by rw [Bool.eq_iff_iff];simp
   rw [this]
   cases decide (e.N=0) with
   | false=>simp
   | true=>
    cases (e.Name==[]) with
    | false=>simp
    | true=>
     by_cases hl:e.Args.length=2
     ·have hl':(e.Args.length==2)=true:=by simpa using hl
      rw [hl']
      generalize hA:e.Args=A at *
      match A,hl with
      | [a,b],_=>
       have ha:=ih a (by simp)
       have hb:=ih b (by simp)
       simp only [if_true,List.getElem?_cons_zero,List.getElem?_cons_succ,Option.bind_some,ha,hb,List.all_cons,List.all_nil,Bool.and_true,Bool.true_and]
       cases df a<;>rfl
     ·have hl':(e.Args.length==2)=false:=by simpa using hl
      rw [hl'];simp
  ·rw [if_neg h3]
   have:decide (3≤e.Kind∧e.Kind≤7)=false:=by simpa using h3
   rw [this];rfl
theorem xA(e:ad):jO e=some (df e):=my (A1 e) fun n hn=>Hx n e hn
theorem My:∀ (k:Nat)(e:ad),A1 e≤k→∀ n,4*k≤n→(ax n).f_tree_expr e=some (df e)
 | 0,e,h,_,_=>by rw [A2] at h;omega
 | k+1,e,h,n,hn=>by
  obtain ⟨m,rfl⟩:∃ m,n=m+4:=⟨n - 4,by omega⟩
  have ih:∀ y∈e.Args,(ax m).f_tree_expr y=some (df y):=fun y hy=>My k y (by
   have:=CQ hy
   rw [A2] at h;omega) m (by omega)
  have hc:e.Args.length≤1000→(ax (m+3)).f_slices_ContainsFunc__tree_expr_1 e.Args=some (e.Args.any fun y=>!df y):=fun hl=>
   j0 (fun y=>(ax (m+1)).f_tree_expr_1 y) (fun y=>!df y) e.Args (by omega) fun y hy=>by
    show mP (ax m) y=_
    unfold mP
    rw [ih y hy];rfl
  show pQ (ax (m+3)) e=_
  rw [A0]
  unfold pQ mO qz qA
  simp only [vo,Option.bind_some]
  have hN:(e.N !=0)=!decide (e.N=0):=by rw [bne,Bool.eq_iff_iff];simp
  by_cases h1:e.Kind=1
  ·simp only [h1]
   by_cases hl:e.Args.length=0
   ·have:e.Args=[]:=List.length_eq_zero_iff.1 hl
    rw [this] at hc ⊢
    rw [hc (by simp)]
    cases e.Name==[]<;>by_cases g1:e.N < -9999999<;>by_cases g2:9999999<e.N<;>simp [g1,g2]<;>omega
   ·have:¬((e.Args.length:Int)=0):=by omega
    simp [hl,this]
  by_cases h2:e.Kind=2
  ·simp only [h2]
   by_cases hl:e.Args.length=0
   ·have:e.Args=[]:=List.length_eq_zero_iff.1 hl
    rw [this] at hc ⊢
    rw [hc (by simp)]
    by_cases g0:e.N=0
    ·by_cases hm:e.Name=[]
     ·simp [g0,hm,Jr]
     ·cases hnm:cA e.Name<;>simp [g0,hm]
    ·simp [g0]
   ·have:¬((e.Args.length:Int)=0):=by omega
    simp [hl,this]
  by_cases h3:3≤e.Kind∧e.Kind≤7
  ·have k1:¬e.Kind<1:=by omega
   have k2:¬7<e.Kind:=by omega
   have k3:2<e.Kind:=by omega
   have e1:(e.Kind !=1)=true:=by simpa using h1
   have e2:(e.Kind==2)=false:=by simpa using h2
   simp only [if_neg k1,if_neg k2,if_pos k3,if_neg h1,if_neg h2,if_pos h3,e1,e2]
   by_cases hl:e.Args.length=2
   ·rw [hc (by omega)]
    have hl':(e.Args.length==2)=true:=by simpa using hl
    have hl2:((e.Args.length:Int) !=((2:Nat):Int))=false:=by rw [hl];rfl
    have hl3:(e.Args.length:Int)=2:=by omega
    have hall:(!e.Args.any fun y=>!df y)=e.Args.all df:=by rw [List.not_any_eq_all_not];simp
    by_cases g0:e.N=0
    ·by_cases hm:e.Name=[]
     ·simp [g0,hm,hl',hl2,hl3,←hall]
     ·simp [g0,hm,hl',hl2,hl3]
    ·simp [g0,hl2,hl3]
   ·have hl2:((e.Args.length:Int) !=((2:Nat):Int))=true:=by simp;omega
    have hl':(e.Args.length==2)=false:=by simpa using hl
    have hl3:¬(e.Args.length:Int)=2:=by omega
    simp [hl2,hl',hl3]
  ·rw [if_neg h1,if_neg h2,if_neg h3]
   by_cases k1:e.Kind<1
   ·rw [if_pos k1]
   ·rw [if_neg k1,if_pos (by omega)]
theorem Hy(e:ad):qU e=some (df e):=my (4*A1 e) fun n hn=>My (A1 e) e (Nat.le_refl _) n hn
def qK(e:ad)(b:Bool):Bool:=if b then df e else ua e
theorem Jv(e:ad)(b:Bool):kR e b=some (qK e b):=by
 unfold kR qK
 rw [Hy,M1]
 cases b<;>cases df e<;>rfl
def gl(t:List UInt8)(b:Bool):Bool:=if b then cA t else t==[]
theorem FH(t:List UInt8)(b:Bool):eC t b=some (gl t b):=by
 unfold eC gl
 rw [vo]
 cases b<;>cases cA t<;>rfl
end Go.Proofs.YtogbakbmphadfaaGreatDoor.A
