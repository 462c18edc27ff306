/- trees that are too great: the program's and the document's are the same plain function. -/
import Derived.Test.YtogbakbmphadfaaGreatDoorTreeE
set_option linter.unusedSectionVars false
set_option linter.unusedVariables false
set_option linter.unusedSimpArgs false
namespace Go.Proofs.YtogbakbmphadfaaGreatDoor.A
open Go
def dN(e:ad):Bool:=decide (15<ky e 15)
def kT(s:aa):Bool:=dN s.Expr||(decide (4<s.Args.length)||s.Args.any dN)
mutual
def xC:aa→Int→Option Int
 | ⟨_,_,_,_,ex,args,th,el⟩,d=>if (dN ex||(decide (4<args.length)||args.any dN))=true then none else
  (if 0<th.length∧6<d+1 then none else dO th (d+1)).bind fun a=>(if 0<el.length∧6<d+1 then none else dO el (d+1)).bind fun b=>some (1+a+b)
def dO:List aa→Int→Option Int
 | [],_=>some 0
 | s::r,d=>(xC s d).bind fun a=>(dO r d).bind fun b=>some (a+b)
end
def bQ(l:List aa)(d:Int):Option Int:=if 0<l.length∧6<d then none else dO l d
theorem sA(s:aa)(d:Int):xC s d=if kT s=true then none else (bQ s.Then (d+1)).bind fun a=>(bQ s.Else (d+1)).bind fun b=>some (1+a+b):=by
 cases s;simp only [xC,bQ,kT]
mutual
theorem zB:∀ (s:aa)(d n:Int),xC s d=some n→1≤n
 | ⟨_,_,_,_,ex,args,th,el⟩,d,n,h=>by
  simp only [xC] at h
  split at h
  ·cases h
  ·obtain ⟨a,ha,h1⟩:=Option.bind_eq_some_iff.1 h
   obtain ⟨b,hb,h2⟩:=Option.bind_eq_some_iff.1 h1
   obtain rfl:=Option.some.inj h2
   have h3:0≤a:=by
    split at ha
    ·cases ha
    ·have:=j8 th _ a ha;omega
   have h4:0≤b:=by
    split at hb
    ·cases hb
    ·have:=j8 el _ b hb;omega
   omega
theorem j8:∀ (l:List aa)(d n:Int),dO l d=some n→(l.length:Int)≤n
 | [],d,n,h=>by
  simp only [dO] at h
  obtain rfl:=Option.some.inj h
  simp
 | s::r,d,n,h=>by
  simp only [dO] at h
  obtain ⟨a,ha,h1⟩:=Option.bind_eq_some_iff.1 h
  obtain ⟨b,hb,h2⟩:=Option.bind_eq_some_iff.1 h1
  obtain rfl:=Option.some.inj h2
  have h3:=zB s d a ha
  have h4:=j8 r d b hb
  simp only [List.length_cons];omega
end
theorem dI{l:List aa}{d n:Int}(h:bQ l d=some n):0≤n:=by
 unfold bQ at h
 split at h
 ·cases h
 ·have:=j8 l d n h;omega
theorem KT{s:aa}{r:List aa}{d:Int}(h:kT s=true):dO (s::r) d=none:=by
 simp only [dO,sA,h,if_true];rfl
theorem Dt{s:aa}{r:List aa}{d:Int}(h:kT s=false):dO (s::r) d=(bQ s.Then (d+1)).bind fun a=>(bQ s.Else (d+1)).bind fun b=>(dO r d).bind fun n=>some (1+a+b+n):=by
 simp only [dO,sA,h,Bool.false_eq_true,if_false]
 cases bQ s.Then (d+1) with
 | none=>rfl
 | some a=>
  cases bQ s.Else (d+1) with
  | none=>rfl
  | some b=>rfl
def over(c:Int)(o:Option Int):Prop:=∀ n,o=some n→50<c+n
theorem mg(c:Int):over c none:=fun n h=>by cases h
theorem Jw{s:aa}{r:List aa}{d c:Int}(h:kT s=false)(hk:∀ a b n,bQ s.Then (d+1)=some a→bQ s.Else (d+1)=some b→dO r d=some n→50<c+(1+a+b+n)):over c (dO (s::r) d):=by
 intro n hn
 rw [Dt h] at hn
 obtain ⟨a,ha,h1⟩:=Option.bind_eq_some_iff.1 hn
 obtain ⟨b,hb,h2⟩:=Option.bind_eq_some_iff.1 h1
 obtain ⟨m,hm,h3⟩:=Option.bind_eq_some_iff.1 h2
 obtain rfl:=Option.some.inj h3
 exact hk a b m ha hb hm
theorem Jx{s:aa}{r:List aa}{d a b n:Int}(h:kT s=false)(ha:bQ s.Then (d+1)=some a)(hb:bQ s.Else (d+1)=some b)(hn:dO r d=some n):dO (s::r) d=some (1+a+b+n):=by
 rw [Dt h,ha,hb,hn];rfl
theorem fM{β:Type}{l:List β}{i:Nat}{x:β}{r:List β}(hd:l.drop i=x::r):i<l.length∧l[i]? =some x∧l.drop (i+1)=r:=by
 have hlt:i<l.length:=by
  apply Classical.byContradiction
  intro hn
  rw [List.drop_eq_nil_of_le (by omega)] at hd;cases hd
 rw [List.drop_eq_getElem_cons hlt] at hd
 obtain ⟨hx,hr⟩:=List.cons.inj hd
 exact ⟨hlt,by rw [List.getElem?_eq_getElem hlt,hx],hr⟩
mutual
def mS:aa→Int→Int→Bool×Int
 | ⟨_,_,_,_,ex,args,th,el⟩,d,c=>
  if (decide (50<c+1)||(dN ex||(decide (4<args.length)||args.any dN)))=true then (true,c+1) else
  let x:=if 0<th.length∧6<d+1 then (true,c+1) else mL th (d+1) (c+1)
  if x.1=true then x else if 0<el.length∧6<d+1 then (true,x.2) else mL el (d+1) x.2
def mL:List aa→Int→Int→Bool×Int
 | [],_,c=>(false,c)
 | s::r,d,c=>let x:=mS s d c;if x.1=true then x else mL r d x.2
end
def mT(l:List aa)(d c:Int):Bool×Int:=if 0<l.length∧6<d then (true,c) else mL l d c
theorem Mz(s:aa)(d c:Int):mS s d c=if (decide (50<c+1)||kT s)=true then (true,c+1) else
  if (mT s.Then (d+1) (c+1)).1=true then mT s.Then (d+1) (c+1) else mT s.Else (d+1) (mT s.Then (d+1) (c+1)).2:=by
 cases s;simp only [mS,mT,kT]
def told(c:Int)(x:Bool×Int)(o:Option Int):Prop:=(x.1=true∧over c o)∨(x.1=false∧∃ n,o=some n∧c+n≤50∧x.2=c+n)
mutual
theorem M3:∀ (s:aa)(d c:Int),c≤50→told c (mS s d c) (xC s d)
 | ⟨k,a,nm,ot,ex,args,th,el⟩,d,c,hc=>by
  have hth:c+1≤50→told (c+1) (mT th (d+1) (c+1)) (bQ th (d+1)):=fun h=>by
   unfold mT bQ
   split
   ·exact .inl ⟨rfl,mg _⟩
   ·exact yn th (d+1) (c+1) h
  have hel:∀ c',c'≤50→told c' (mT el (d+1) c') (bQ el (d+1)):=fun c' h=>by
   unfold mT bQ
   split
   ·exact .inl ⟨rfl,mg _⟩
   ·exact yn el (d+1) c' h
  rw [Mz,sA]
  split
  ·rename_i hx
   refine .inl ⟨rfl,?_⟩
   split
   ·exact mg _
   ·rename_i hs
    have h50:50<c+1:=by
     rw [Bool.or_eq_true] at hx
     rcases hx with h | h
     ·simpa using h
     ·exact absurd h hs
    intro n hn
    obtain ⟨a,ha,h1⟩:=Option.bind_eq_some_iff.1 hn
    obtain ⟨b,hb,h2⟩:=Option.bind_eq_some_iff.1 h1
    obtain rfl:=Option.some.inj h2
    have:=dI ha;have:=dI hb
    omega
  ·rename_i hx
   simp only [Bool.not_eq_true,Bool.or_eq_false_iff,decide_eq_false_iff_not] at hx
   obtain ⟨h50,hs⟩:=hx
   rw [hs]
   simp only [Bool.false_eq_true,if_false]
   rcases hth (by omega) with ⟨g1,g2⟩ | ⟨g1,a,g2,g3,g4⟩
   ·rw [if_pos g1]
    refine .inl ⟨g1,?_⟩
    intro n hn
    obtain ⟨a,ha,h1⟩:=Option.bind_eq_some_iff.1 hn
    obtain ⟨b,hb,h2⟩:=Option.bind_eq_some_iff.1 h1
    obtain rfl:=Option.some.inj h2
    have:=g2 a ha;have:=dI hb
    omega
   ·rw [if_neg (by rw [g1];simp)]
    have e1:(mT th (d+1) (c+1)).2=c+1+a:=g4
    have e2:bQ th (d+1)=some a:=g2
    show told c (mT el (d+1) (mT th (d+1) (c+1)).2) ((bQ th (d+1)).bind _)
    rw [e1,e2]
    rcases hel (c+1+a) g3 with ⟨k1,k2⟩ | ⟨k1,b,k2,k3,k4⟩
    ·refine .inl ⟨k1,?_⟩
     intro n hn
     rw [Option.bind_some] at hn
     obtain ⟨b,hb,h2⟩:=Option.bind_eq_some_iff.1 hn
     obtain rfl:=Option.some.inj h2
     have:=k2 b hb
     omega
    ·refine .inr ⟨k1,1+a+b,?_,by omega,by rw [k4];omega⟩
     show (bQ el (d+1)).bind _=_
     rw [k2];rfl
theorem yn:∀ (l:List aa)(d c:Int),c≤50→told c (mL l d c) (dO l d)
 | [],d,c,hc=>by
  simp only [mL,dO]
  exact .inr ⟨rfl,0,rfl,by omega,by simp⟩
 | s::r,d,c,hc=>by
  simp only [mL,dO]
  rcases M3 s d c hc with ⟨g1,g2⟩ | ⟨g1,a,g2,g3,g4⟩
  ·rw [if_pos g1]
   refine .inl ⟨g1,?_⟩
   intro n hn
   obtain ⟨a,ha,h1⟩:=Option.bind_eq_some_iff.1 hn
   obtain ⟨b,hb,h2⟩:=Option.bind_eq_some_iff.1 h1
   obtain rfl:=Option.some.inj h2
   have:=g2 a ha;have:=j8 _ _ _ hb
   omega
  ·rw [if_neg (by rw [g1];simp),g4,g2]
   rcases yn r d (c+a) g3 with ⟨k1,k2⟩ | ⟨k1,b,k2,k3,k4⟩
   ·refine .inl ⟨k1,?_⟩
    intro n hn
    rw [Option.bind_some] at hn
    obtain ⟨b,hb,h2⟩:=Option.bind_eq_some_iff.1 hn
    obtain rfl:=Option.some.inj h2
    have:=k2 b hb
    omega
   ·refine .inr ⟨k1,a+b,?_,by omega,by rw [k4];omega⟩
    rw [k2];rfl
end
theorem CT(l:List aa)(d c:Int)(hc:c≤50):told c (mT l d c) (bQ l d):=by
 unfold mT bQ
 split
 ·exact .inl ⟨rfl,mg _⟩
 ·exact yn l d c hc
theorem MA{l:List aa}{d c:Int}(hc:c≤50)(h:(mT l d c).1=false):c≤(mT l d c).2∧(mT l d c).2≤50:=by
 rcases CT l d c hc with ⟨g1,_⟩ | ⟨_,n,g2,g3,g4⟩
 ·rw [h] at g1;cases g1
 ·have:=dI g2;omega
variable [Lp]
theorem M4(R:fD)(a0:List aa)(a1:Int)(i:Nat)(c:Int)(y:aa):fQ R a0 a1 i c y=some (decide (50<c+1)||kT y):=by
 unfold fQ kT
 rw [CS _ _ (by omega) (by omega)]
 simp only [Option.bind_some,dN]
 by_cases h1:50<c+1
 ·simp [h1]
 by_cases h2:15<ky y.Expr 15
 ·simp [h1,h2]
 by_cases h3:4<y.Args.length
 ·have:(4:Int)<(y.Args.length:Int):=by omega
  simp [h1,h2,h3,this]
 ·have h3':¬(4:Int)<(y.Args.length:Int):=by omega
  have hc:dk y.Args=some (y.Args.any dN):=j0 gy dN y.Args (by omega) fun z _=>by
   unfold gy
   rw [CS _ _ (by omega) (by omega)];rfl
  rw [hc]
  have hf:y.Args.any dN=y.Args.any fun e=>decide (15<ky e 15):=rfl
  simp [h1,h2,h3,h3',hf]
theorem Iu:∀ (k:Nat)(l:List aa)(d c:Int),1≤d→d≤7→8 - d≤k→0≤c→c≤50→
  (bB k).f_tree_counter_much ⟨c⟩ l d=some ((mT l d c).1,⟨(mT l d c).2⟩)
 | 0,l,d,c,h1,h2,h3,_,_=>by omega
 | k+1,l,d,c,h1,h2,h3,h4,h5=>by
  have loop:d≤6→∀ (rest:List aa)(i:Nat)(c:Int),l.drop i=rest→(i:Int)≤c→c≤50→∃ x,lp (fun v=>bC (bB k) l d v.1 v.2) (i,c)=some x∧
    mL rest d c=(match x with | .inl y=>(true,y) | .inr y=>(false,y.2.2)):=by
   intro hd6 rest
   induction rest with
   | nil=>
    intro i c hd _ hc
    have hlen:¬(i:Int)<(l.length:Int):=by
     have:=List.drop_eq_nil_iff.1 hd;omega
    exact ⟨_,bZ (B:=fun v:Nat×Int=>bC (bB k) l d v.1 v.2) (x:=.inr (i,false,c)) (by simp [bC,hlen]),by simp only [mL]⟩
   | cons s r ih=>
    intro i c hd hi hc
    obtain ⟨hlt,hg,hr⟩:=fM hd
    have hw:=dq i (by omega)
    have hB:bC (bB k) l d i c=(if (decide (50<c+1)||kT s)=true then some (.inr (.inl (c+1))) else
      ((bB k).f_tree_counter_much ⟨c+1⟩ s.Then (d+1)).bind fun r11=>if r11.1=true then some (.inr (.inl r11.2.stmts)) else
       ((bB k).f_tree_counter_much r11.2 s.Else (d+1)).bind fun r14=>if r14.1=true then some (.inr (.inl r14.2.stmts)) else some (.inl (i+1,r14.2.stmts))):=by
     simp only [bC,hg,Option.bind_some,M4,hw,if_true]
     rw [if_pos (by omega),if_pos (eY (by omega) (by omega)),if_pos (eY (by omega) (by omega))]
    simp only [mL]
    rw [Mz]
    by_cases hx:(decide (50<c+1)||kT s)=true
    ·rw [if_pos hx] at hB ⊢
     exact ⟨_,bZ (B:=fun v:Nat×Int=>bC (bB k) l d v.1 v.2) hB,by simp⟩
    ·rw [if_neg hx] at hB ⊢
     simp only [Bool.not_eq_true,Bool.or_eq_false_iff,decide_eq_false_iff_not] at hx
     have e1:=Iu k s.Then (d+1) (c+1) (by omega) (by omega) (by omega) (by omega) (by omega)
     rw [e1] at hB
     simp only [Option.bind_some] at hB
     cases hb1:(mT s.Then (d+1) (c+1)).1 with
     | true=>
      rw [hb1] at hB
      simp only [if_true] at hB ⊢
      refine ⟨_,bZ (B:=fun v:Nat×Int=>bC (bB k) l d v.1 v.2) hB,?_⟩
      rw [if_pos hb1,←hb1]
     | false=>
      have hle:=MA (by omega) hb1
      rw [hb1] at hB
      simp only [Bool.false_eq_true,if_false] at hB ⊢
      generalize hc1:(mT s.Then (d+1) (c+1)).2=c1 at *
      have e2:=Iu k s.Else (d+1) c1 (by omega) (by omega) (by omega) (by omega) (by omega)
      rw [e2] at hB
      simp only [Option.bind_some] at hB
      cases hb2:(mT s.Else (d+1) c1).1 with
      | true=>
       rw [hb2] at hB
       simp only [if_true] at hB ⊢
       refine ⟨_,bZ (B:=fun v:Nat×Int=>bC (bB k) l d v.1 v.2) hB,?_⟩
       show _=(true,(mT s.Else (d+1) c1).2)
       rw [←hb2]
      | false=>
       have hle2:=MA (by omega) hb2
       rw [hb2] at hB
       simp only [Bool.false_eq_true,if_false] at hB ⊢
       obtain ⟨x,hx1,hx2⟩:=ih (i+1) (mT s.Else (d+1) c1).2 hr (by omega) (by omega)
       exact ⟨x,(de (B:=fun v:Nat×Int=>bC (bB k) l d v.1 v.2) (v:=(i,c)) hB).trans hx1,hx2⟩
  show ig (bB k) ⟨c⟩ l d=_
  unfold ig fR mT
  by_cases hl:0<l.length
  ·rw [if_pos (by omega)]
   by_cases h6:6<d
   ·rw [if_pos h6,if_pos ⟨hl,h6⟩]
   ·rw [if_neg h6,if_neg (by omega)]
    obtain ⟨x,hx1,hx2⟩:=loop (by omega) l 0 c (List.drop_zero ..) (by simpa using h4) h5
    rw [hx1,hx2]
    cases x<;>rfl
  ·rw [if_neg (by omega),if_neg (by omega)]
   obtain rfl:l=[]:=List.length_eq_zero_iff.1 (by omega)
   have hx1:=bZ (B:=fun v:Nat×Int=>bC (bB k) [] d v.1 v.2) (v:=(0,c)) (x:=.inr (0,false,c)) (by simp [bC])
   rw [hx1]
   simp only [mL];rfl
theorem Hz(l:List aa)(c:Int)(h4:0≤c)(h5:c≤50):jo ⟨c⟩ l 1=some ((mT l 1 c).1,⟨(mT l 1 c).2⟩):=
 my 7 fun n hn=>Iu n l 1 c (by omega) (by omega) (by omega) h4 h5
def da:Option Int→Int
 | some n=>if n≤50 then n else 51
 | none=>51
theorem FI:∀ (k:Nat)(l:List aa)(d:Int),1≤d→d≤7→8 - d≤k→(cm k).f_R_countStmts l d=some (da (bQ l d))
 | 0,l,d,h1,h2,h3=>by omega
 | k+1,l,d,h1,h2,h3=>by
  have hargs:∀ (i:Nat)(n:Int)(y:aa),y.Args.length≤4→∃ x,lp (fun v=>dT (cm k) l d n i y v) 0=some x∧(match x with | .inl _=>y.Args.any dN=true | .inr _=>y.Args.any dN=false):=by
   intro i n y hy
   have:=pI (B:=fun v=>dT (cm k) l d n i y v) y.Args dN (fun k=>k) (x:=.inl ()) (y:=.inr (y.Args.length,false))
    (fun j hj hp=>by
     simp only [dN,decide_eq_false_iff_not] at hp
     simp only [dT,List.getElem?_eq_getElem hj,Option.bind_some,vS _ 15 (by omega) (by omega)]
     rw [if_pos (by omega),if_neg hp,if_pos (dq j (by omega))])
    (fun j hj hp=>by
     simp only [dN,decide_eq_true_eq] at hp
     simp only [dT,List.getElem?_eq_getElem hj,Option.bind_some,vS _ 15 (by omega) (by omega)]
     rw [if_pos (by omega),if_pos hp])
    (by simp [dT])
   refine ⟨_,this,?_⟩
   cases h:y.Args.any dN<;>rfl
  have loop:d≤6→∀ (rest:List aa)(i:Nat)(n:Int),l.drop i=rest→(i:Int)≤n→n≤200→∃ x,lp (fun v=>ck (cm k) l d v.1 v.2) (n,i)=some x∧
    (match x with | .inl _=>over n (dO rest d) | .inr y=>n≤y.2.1∧y.2.1≤200∧(y.2.1≤50→∃ t,dO rest d=some t∧y.2.1=n+t)∧(50<y.2.1→over n (dO rest d))):=by
   intro hd6 rest
   induction rest with
   | nil=>
    intro i n hd hi hn
    have hlen:¬(i:Int)<(l.length:Int):=by
     have:=List.drop_eq_nil_iff.1 hd;omega
    refine ⟨_,bZ (B:=fun v:Int×Nat=>ck (cm k) l d v.1 v.2) (x:=.inr (false,n,i)) (by simp only [ck];rw [if_neg hlen]),?_⟩
    simp only [dO]
    exact ⟨by omega,hn,fun _=>⟨0,rfl,by omega⟩,fun h t ht=>by obtain rfl:=Option.some.inj ht;omega⟩
   | cons s r ih=>
    intro i n hd hi hn
    obtain ⟨hlt,hg,hr⟩:=fM hd
    by_cases h50:n≤50
    ·obtain ⟨xa,ha1,ha2⟩:∃ x,(s.Args.length≤4→lp (fun v=>dT (cm k) l d n i s v) 0=some x)∧(s.Args.length≤4→match x with | .inl _=>s.Args.any dN=true | .inr _=>s.Args.any dN=false):=by
      by_cases h:s.Args.length≤4
      ·obtain ⟨x,h1,h2⟩:=hargs i n s h
       exact ⟨x,fun _=>h1,fun _=>h2⟩
      ·exact ⟨.inl (),fun h'=>absurd h' h,fun h'=>absurd h' h⟩
     have e1:=FI k s.Then (d+1) (by omega) (by omega) (by omega)
     have e2:=FI k s.Else (d+1) (by omega) (by omega) (by omega)
     have b1:0≤da (bQ s.Then (d+1))∧da (bQ s.Then (d+1))≤51:=by
      cases ht:bQ s.Then (d+1) with
      | none=>simp [da]
      | some a=>have:=dI ht;simp only [da];split<;>omega
     have b2:0≤da (bQ s.Else (d+1))∧da (bQ s.Else (d+1))≤51:=by
      cases ht:bQ s.Else (d+1) with
      | none=>simp [da]
      | some a=>have:=dI ht;simp only [da];split<;>omega
     have hw:=dq i (by omega)
     have hB:ck (cm k) l d n i=if kT s=true then some (.inr (.inl ())) else some (.inl (n+((1+da (bQ s.Then (d+1)))+da (bQ s.Else (d+1))),i+1)):=by
      simp only [ck,hg,Option.bind_some,vS _ 15 (by omega) (by omega)]
      rw [if_pos (by omega),if_pos h50]
      unfold kT dN
      by_cases g1:15<ky s.Expr 15
      ·simp [g1]
      rw [if_neg g1]
      by_cases g2:4<s.Args.length
      ·rw [if_pos (by omega)];simp [g2]
      rw [if_neg (by omega),ha1 (by omega)]
      have ha3:=ha2 (by omega)
      have hf:s.Args.any dN=s.Args.any fun e=>decide (15<ky e 15):=rfl
      cases xa with
      | inl y=>
       rw [hf] at ha3
       simp only [Option.bind_some]
       rw [if_pos (by simp only [ha3,Bool.or_true])]
      | inr y=>
       rw [hf] at ha3
       simp only [Option.bind_some]
       rw [if_pos (eY (by omega) (by omega)),e1]
       simp only [Option.bind_some]
       rw [if_pos (eY (by omega) (by omega)),e2]
       simp only [Option.bind_some]
       rw [if_pos (eY (by omega) (by omega)),if_pos (eY (by omega) (by omega)),if_pos hw,if_neg (by simp only [ha3,g1,g2,decide_false,Bool.or_false];simp)]
     cases hs:kT s with
     | true=>
      rw [hs,if_pos rfl] at hB
      refine ⟨_,bZ (B:=fun v:Int×Nat=>ck (cm k) l d v.1 v.2) hB,?_⟩
      rw [KT hs];exact mg _
     | false=>
      rw [hs] at hB
      simp only [Bool.false_eq_true,if_false] at hB
      obtain ⟨x,hx1,hx2⟩:=ih (i+1) (n+((1+da (bQ s.Then (d+1)))+da (bQ s.Else (d+1)))) hr (by omega) (by omega)
      refine ⟨x,(de (B:=fun v:Int×Nat=>ck (cm k) l d v.1 v.2) (v:=(n,i)) hB).trans hx1,?_⟩
      have key:∀ o,(∀ t,o=some t→0≤t)→da o=51∨∃ t,o=some t∧t≤50∧da o=t:=by
       intro o ho
       cases o with
       | none=>exact .inl rfl
       | some t=>
        by_cases h:t≤50
        ·exact .inr ⟨t,rfl,h,by simp [da,h]⟩
        ·exact .inl (by simp [da,h])
      have big:∀ o t,o=some t→da o=51→51≤t∨t=51:=by
       intro o t ho h
       subst ho
       simp only [da] at h
       split at h<;>omega
      have hover:over (n+((1+da (bQ s.Then (d+1)))+da (bQ s.Else (d+1)))) (dO r d)→over n (dO (s::r) d):=by
       intro h
       refine Jw hs fun a b t ha hb ht=>?_
       have h1:=h t ht
       have:=dI ha;have:=dI hb;have:=j8 _ _ _ ht
       have hca:da (bQ s.Then (d+1))≤a:=by rw [ha];simp only [da];split<;>omega
       have hcb:da (bQ s.Else (d+1))≤b:=by rw [hb];simp only [da];split<;>omega
       omega
      cases x with
      | inl y=>exact hover hx2
      | inr y=>
       obtain ⟨g1,g2,g3,g4⟩:=hx2
       refine ⟨by omega,g2,fun h=>?_,fun h=>hover (g4 h)⟩
       obtain ⟨t,ht,ht2⟩:=g3 h
       have ht0:=j8 _ _ _ ht
       rcases key (bQ s.Then (d+1)) (fun t h=>dI h) with c1 | ⟨a,ha,_,ca⟩
       ·omega
       rcases key (bQ s.Else (d+1)) (fun t h=>dI h) with c2 | ⟨b,hb,_,cb⟩
       ·omega
       exact ⟨1+a+b+t,Jx hs ha hb ht,by omega⟩
    ·refine ⟨_,bZ (B:=fun v:Int×Nat=>ck (cm k) l d v.1 v.2) (x:=.inr (decide (n≤50),n,i)) (by simp only [ck];rw [if_pos (by omega),if_neg h50]),Int.le_refl _,hn,fun h=>absurd h h50,fun _ t ht=>?_⟩
     have:=j8 _ _ _ ht
     omega
  show lR (cm k) l d=_
  unfold lR kc bQ
  by_cases hl:0<l.length
  ·rw [if_pos (by omega)]
   by_cases h6:6<d
   ·rw [if_pos h6,if_pos ⟨hl,h6⟩];rfl
   ·rw [if_neg h6,if_neg (by omega)]
    obtain ⟨x,hx1,hx2⟩:=loop (by omega) l 0 0 (List.drop_zero ..) (by simp) (by omega)
    rw [hx1]
    have hov:over 0 (dO l d)→da (dO l d)=51:=by
     intro h
     cases ht:dO l d with
     | none=>rfl
     | some t=>have:=h t ht;simp only [da];rw [if_neg (by omega)]
    cases x with
    | inl y=>rw [hov hx2];rfl
    | inr y=>
     obtain ⟨g1,g2,g3,g4⟩:=hx2
     by_cases h51:50<y.2.1
     ·rw [hov (g4 h51)]
      simp only [Option.bind_some]
      by_cases h52:51<y.2.1
      ·rw [if_pos h52];rfl
      ·rw [if_neg h52]
       simp only [Option.bind_some]
       congr 1;omega
     ·obtain ⟨t,ht,ht2⟩:=g3 (by omega)
      rw [ht]
      simp only [Option.bind_some,da]
      rw [if_neg (by omega),if_pos (by omega)]
      simp only [Option.bind_some]
      congr 1;omega
  ·rw [if_neg (by omega),if_neg (by omega)]
   obtain rfl:l=[]:=List.length_eq_zero_iff.1 (by omega)
   have hx1:=bZ (B:=fun v:Int×Nat=>ck (cm k) [] d v.1 v.2) (v:=(0,0)) (x:=.inr (false,0,0)) (by simp [ck])
   rw [hx1]
   simp only [dO];rfl
theorem FJ(l:List aa):nd l 1=some (da (bQ l 1)):=
 my 7 fun n hn=>FI n l 1 (by omega) (by omega) (by omega)
end Go.Proofs.YtogbakbmphadfaaGreatDoor.A
