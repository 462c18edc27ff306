/- trees that are too great: the program's and the document's are the same plain function. -/
import Derived.Test.YtphgedfhcncobaaGreatDoorTreeE
set_option linter.unusedSectionVars false
set_option linter.unusedVariables false
set_option linter.unusedSimpArgs false
namespace Go.Proofs.YtphgedfhcncobaaGreatDoor.A
open Go
def gj(e:ad):Bool:=decide (15<mw e 15)
def lC(s:aa):Bool:=gj s.Expr||(decide (4<s.Args.length)||s.Args.any gj)
mutual
def u3:aa→Int→Option Int
 | ⟨_,_,_,_,ex,args,th,el⟩,d=>if (gj ex||(decide (4<args.length)||args.any gj))=true then none else
  (if 0<th.length∧6<d+1 then none else dz th (d+1)).bind fun a=>(if 0<el.length∧6<d+1 then none else dz el (d+1)).bind fun b=>some (1+a+b)
def dz:List aa→Int→Option Int
 | [],_=>some 0
 | s::r,d=>(u3 s d).bind fun a=>(dz r d).bind fun b=>some (a+b)
end
def bw(l:List aa)(d:Int):Option Int:=if 0<l.length∧6<d then none else dz l d
theorem tZ(s:aa)(d:Int):u3 s d=if lC s=true then none else (bw s.Then (d+1)).bind fun a=>(bw s.Else (d+1)).bind fun b=>some (1+a+b):=by
 cases s;simp only [u3,bw,lC]
mutual
theorem A4:∀ (s:aa)(d n:Int),u3 s d=some n→1≤n
 | ⟨_,_,_,_,ex,args,th,el⟩,d,n,h=>by
  simp only [u3] at h
  split at h
  ·cases h
  ·obtain ⟨a,ha,h1⟩:=Option.bind_eq_some_iff.1 h
   obtain ⟨b,hb,h2⟩:=Option.bind_eq_some_iff.1 h1
   obtain rfl:=Option.some.inj h2
   have h3:0≤a:=by
    split at ha
    ·cases ha
    ·have:=iu th _ a ha;omega
   have h4:0≤b:=by
    split at hb
    ·cases hb
    ·have:=iu el _ b hb;omega
   omega
theorem iu:∀ (l:List aa)(d n:Int),dz l d=some n→(l.length:Int)≤n
 | [],d,n,h=>by
  simp only [dz] at h
  obtain rfl:=Option.some.inj h
  simp
 | s::r,d,n,h=>by
  simp only [dz] at h
  obtain ⟨a,ha,h1⟩:=Option.bind_eq_some_iff.1 h
  obtain ⟨b,hb,h2⟩:=Option.bind_eq_some_iff.1 h1
  obtain rfl:=Option.some.inj h2
  have h3:=A4 s d a ha
  have h4:=iu r d b hb
  simp only [List.length_cons];omega
end
theorem cI{l:List aa}{d n:Int}(h:bw l d=some n):0≤n:=by
 unfold bw at h
 split at h
 ·cases h
 ·have:=iu l d n h;omega
theorem E7{s:aa}{r:List aa}{d:Int}(h:lC s=true):dz (s::r) d=none:=by
 simp only [dz,tZ,h,if_true];rfl
theorem yX{s:aa}{r:List aa}{d:Int}(h:lC s=false):dz (s::r) d=(bw s.Then (d+1)).bind fun a=>(bw s.Else (d+1)).bind fun b=>(dz r d).bind fun n=>some (1+a+b+n):=by
 simp only [dz,tZ,h,Bool.false_eq_true,if_false]
 cases bw s.Then (d+1) with
 | none=>rfl
 | some a=>
  cases bw s.Else (d+1) with
  | none=>rfl
  | some b=>rfl
def over(c:Int)(o:Option Int):Prop:=∀ n,o=some n→50<c+n
theorem jV(c:Int):over c none:=fun n h=>by cases h
theorem Eb{s:aa}{r:List aa}{d c:Int}(h:lC s=false)(hk:∀ a b n,bw s.Then (d+1)=some a→bw s.Else (d+1)=some b→dz r d=some n→50<c+(1+a+b+n)):over c (dz (s::r) d):=by
 intro n hn
 rw [yX h] at hn
 obtain ⟨a,ha,h1⟩:=Option.bind_eq_some_iff.1 hn
 obtain ⟨b,hb,h2⟩:=Option.bind_eq_some_iff.1 h1
 obtain ⟨m,hm,h3⟩:=Option.bind_eq_some_iff.1 h2
 obtain rfl:=Option.some.inj h3
 exact hk a b m ha hb hm
theorem Ec{s:aa}{r:List aa}{d a b n:Int}(h:lC s=false)(ha:bw s.Then (d+1)=some a)(hb:bw s.Else (d+1)=some b)(hn:dz r d=some n):dz (s::r) d=some (1+a+b+n):=by
 rw [yX h,ha,hb,hn];rfl
theorem sd{β:Type}{l:List β}{i:Nat}{x:β}{r:List β}(hd:l.drop i=x::r):i<l.length∧l[i]? =some x∧l.drop (i+1)=r:=by
 have hlt:i<l.length:=by
  apply Classical.byContradiction
  intro hn
  rw [List.drop_eq_nil_of_le (by omega)] at hd;cases hd
 rw [List.drop_eq_getElem_cons hlt] at hd
 obtain ⟨hx,hr⟩:=List.cons.inj hd
 exact ⟨hlt,by rw [List.getElem?_eq_getElem hlt,hx],hr⟩
mutual
def mS:aa→Int→Int→Bool×Int
 | ⟨_,_,_,_,ex,args,th,el⟩,d,c=>
  if (decide (50<c+1)||(gj ex||(decide (4<args.length)||args.any gj)))=true then (true,c+1) else
  let x:=if 0<th.length∧6<d+1 then (true,c+1) else mL th (d+1) (c+1)
  if x.1=true then x else if 0<el.length∧6<d+1 then (true,x.2) else mL el (d+1) x.2
def mL:List aa→Int→Int→Bool×Int
 | [],_,c=>(false,c)
 | s::r,d,c=>let x:=mS s d c;if x.1=true then x else mL r d x.2
end
def mT(l:List aa)(d c:Int):Bool×Int:=if 0<l.length∧6<d then (true,c) else mL l d c
theorem Gq(s:aa)(d c:Int):mS s d c=if (decide (50<c+1)||lC s)=true then (true,c+1) else
  if (mT s.Then (d+1) (c+1)).1=true then mT s.Then (d+1) (c+1) else mT s.Else (d+1) (mT s.Then (d+1) (c+1)).2:=by
 cases s;simp only [mS,mT,lC]
def told(c:Int)(x:Bool×Int)(o:Option Int):Prop:=(x.1=true∧over c o)∨(x.1=false∧∃ n,o=some n∧c+n≤50∧x.2=c+n)
mutual
theorem GS:∀ (s:aa)(d c:Int),c≤50→told c (mS s d c) (u3 s d)
 | ⟨k,a,nm,ot,ex,args,th,el⟩,d,c,hc=>by
  have hth:c+1≤50→told (c+1) (mT th (d+1) (c+1)) (bw th (d+1)):=fun h=>by
   unfold mT bw
   split
   ·exact .inl ⟨rfl,jV _⟩
   ·exact ua th (d+1) (c+1) h
  have hel:∀ c',c'≤50→told c' (mT el (d+1) c') (bw el (d+1)):=fun c' h=>by
   unfold mT bw
   split
   ·exact .inl ⟨rfl,jV _⟩
   ·exact ua el (d+1) c' h
  rw [Gq,tZ]
  split
  ·rename_i hx
   refine .inl ⟨rfl,?_⟩
   split
   ·exact jV _
   ·rename_i hs
    have h50:50<c+1:=by
     rw [Bool.or_eq_true] at hx
     rcases hx with h | h
     ·simpa using h
     ·exact absurd h hs
    intro n hn
    obtain ⟨a,ha,h1⟩:=Option.bind_eq_some_iff.1 hn
    obtain ⟨b,hb,h2⟩:=Option.bind_eq_some_iff.1 h1
    obtain rfl:=Option.some.inj h2
    have:=cI ha;have:=cI hb
    omega
  ·rename_i hx
   simp only [Bool.not_eq_true,Bool.or_eq_false_iff,decide_eq_false_iff_not] at hx
   obtain ⟨h50,hs⟩:=hx
   rw [hs]
   simp only [Bool.false_eq_true,if_false]
   rcases hth (by omega) with ⟨g1,g2⟩ | ⟨g1,a,g2,g3,g4⟩
   ·rw [if_pos g1]
    refine .inl ⟨g1,?_⟩
    intro n hn
    obtain ⟨a,ha,h1⟩:=Option.bind_eq_some_iff.1 hn
    obtain ⟨b,hb,h2⟩:=Option.bind_eq_some_iff.1 h1
    obtain rfl:=Option.some.inj h2
    have:=g2 a ha;have:=cI hb
    omega
   ·rw [if_neg (by rw [g1];simp)]
    have e1:(mT th (d+1) (c+1)).2=c+1+a:=g4
    have e2:bw th (d+1)=some a:=g2
    show told c (mT el (d+1) (mT th (d+1) (c+1)).2) ((bw th (d+1)).bind _)
    rw [e1,e2]
    rcases hel (c+1+a) g3 with ⟨k1,k2⟩ | ⟨k1,b,k2,k3,k4⟩
    ·refine .inl ⟨k1,?_⟩
     intro n hn
     rw [Option.bind_some] at hn
     obtain ⟨b,hb,h2⟩:=Option.bind_eq_some_iff.1 hn
     obtain rfl:=Option.some.inj h2
     have:=k2 b hb
     omega
    ·refine .inr ⟨k1,1+a+b,?_,by omega,by rw [k4];omega⟩
     show (bw el (d+1)).bind _=_
     rw [k2];rfl
theorem ua:∀ (l:List aa)(d c:Int),c≤50→told c (mL l d c) (dz l d)
 | [],d,c,hc=>by
  simp only [mL,dz]
  exact .inr ⟨rfl,0,rfl,by omega,by simp⟩
 | s::r,d,c,hc=>by
  simp only [mL,dz]
  rcases GS s d c hc with ⟨g1,g2⟩ | ⟨g1,a,g2,g3,g4⟩
  ·rw [if_pos g1]
   refine .inl ⟨g1,?_⟩
   intro n hn
   obtain ⟨a,ha,h1⟩:=Option.bind_eq_some_iff.1 hn
   obtain ⟨b,hb,h2⟩:=Option.bind_eq_some_iff.1 h1
   obtain rfl:=Option.some.inj h2
   have:=g2 a ha;have:=iu _ _ _ hb
   omega
  ·rw [if_neg (by rw [g1];simp),g4,g2]
   rcases ua r d (c+a) g3 with ⟨k1,k2⟩ | ⟨k1,b,k2,k3,k4⟩
   ·refine .inl ⟨k1,?_⟩
    intro n hn
    rw [Option.bind_some] at hn
    obtain ⟨b,hb,h2⟩:=Option.bind_eq_some_iff.1 hn
    obtain rfl:=Option.some.inj h2
    have:=k2 b hb
    omega
   ·refine .inr ⟨k1,a+b,?_,by omega,by rw [k4];omega⟩
    rw [k2];rfl
end
theorem yv(l:List aa)(d c:Int)(hc:c≤50):told c (mT l d c) (bw l d):=by
 unfold mT bw
 split
 ·exact .inl ⟨rfl,jV _⟩
 ·exact ua l d c hc
theorem Gr{l:List aa}{d c:Int}(hc:c≤50)(h:(mT l d c).1=false):c≤(mT l d c).2∧(mT l d c).2≤50:=by
 rcases yv l d c hc with ⟨g1,_⟩ | ⟨_,n,g2,g3,g4⟩
 ·rw [h] at g1;cases g1
 ·have:=cI g2;omega
variable [Lp]
theorem GU(R:eh)(a0:List aa)(a1:Int)(i:Nat)(c:Int)(y:aa):ew R a0 a1 i c y=some (decide (50<c+1)||lC y):=by
 unfold ew lC
 rw [yu _ _ (by omega) (by omega)]
 simp only [Option.bind_some,gj]
 by_cases h1:50<c+1
 ·simp [h1]
 by_cases h2:15<mw y.Expr 15
 ·simp [h1,h2]
 by_cases h3:4<y.Args.length
 ·have:(4:Int)<(y.Args.length:Int):=by omega
  simp [h1,h2,h3,this]
 ·have h3':¬(4:Int)<(y.Args.length:Int):=by omega
  have hc:cm y.Args=some (y.Args.any gj):=im eS gj y.Args (by omega) fun z _=>by
   unfold eS
   rw [yu _ _ (by omega) (by omega)];rfl
  rw [hc]
  have hf:y.Args.any gj=y.Args.any fun e=>decide (15<mw e 15):=rfl
  simp [h1,h2,h3,h3',hf]
theorem Di:∀ (k:Nat)(l:List aa)(d c:Int),1≤d→d≤7→8 - d≤k→0≤c→c≤50→
  (a6 k).f_tree_counter_much ⟨c⟩ l d=some ((mT l d c).1,⟨(mT l d c).2⟩)
 | 0,l,d,c,h1,h2,h3,_,_=>by omega
 | k+1,l,d,c,h1,h2,h3,h4,h5=>by
  have loop:d≤6→∀ (rest:List aa)(i:Nat)(c:Int),l.drop i=rest→(i:Int)≤c→c≤50→∃ x,lp (fun v=>a8 (a6 k) l d v.1 v.2) (i,c)=some x∧
    mL rest d c=(match x with | .inl y=>(true,y) | .inr y=>(false,y.2.2)):=by
   intro hd6 rest
   induction rest with
   | nil=>
    intro i c hd _ hc
    have hlen:¬(i:Int)<(l.length:Int):=by
     have:=List.drop_eq_nil_iff.1 hd;omega
    exact ⟨_,b5 (B:=fun v:Nat×Int=>a8 (a6 k) l d v.1 v.2) (x:=.inr (i,false,c)) (by simp [a8,hlen]),by simp only [mL]⟩
   | cons s r ih=>
    intro i c hd hi hc
    obtain ⟨hlt,hg,hr⟩:=sd hd
    have hw:=fk i (by omega)
    have hB:a8 (a6 k) l d i c=(if (decide (50<c+1)||lC s)=true then some (.inr (.inl (c+1))) else
      ((a6 k).f_tree_counter_much ⟨c+1⟩ s.Then (d+1)).bind fun r11=>if r11.1=true then some (.inr (.inl r11.2.stmts)) else
       ((a6 k).f_tree_counter_much r11.2 s.Else (d+1)).bind fun r14=>if r14.1=true then some (.inr (.inl r14.2.stmts)) else some (.inl (i+1,r14.2.stmts))):=by
     simp only [a8,hg,Option.bind_some,GU,hw,if_true]
     rw [if_pos (by omega),if_pos (eR (by omega) (by omega)),if_pos (eR (by omega) (by omega))]
    simp only [mL]
    rw [Gq]
    by_cases hx:(decide (50<c+1)||lC s)=true
    ·rw [if_pos hx] at hB ⊢
     exact ⟨_,b5 (B:=fun v:Nat×Int=>a8 (a6 k) l d v.1 v.2) hB,by simp⟩
    ·rw [if_neg hx] at hB ⊢
     simp only [Bool.not_eq_true,Bool.or_eq_false_iff,decide_eq_false_iff_not] at hx
     have e1:=Di k s.Then (d+1) (c+1) (by omega) (by omega) (by omega) (by omega) (by omega)
     rw [e1] at hB
     simp only [Option.bind_some] at hB
     cases hb1:(mT s.Then (d+1) (c+1)).1 with
     | true=>
      rw [hb1] at hB
      simp only [if_true] at hB ⊢
      refine ⟨_,b5 (B:=fun v:Nat×Int=>a8 (a6 k) l d v.1 v.2) hB,?_⟩
      rw [if_pos hb1,←hb1]
     | false=>
      have hle:=Gr (by omega) hb1
      rw [hb1] at hB
      simp only [Bool.false_eq_true,if_false] at hB ⊢
      generalize hc1:(mT s.Then (d+1) (c+1)).2=c1 at *
      have e2:=Di k s.Else (d+1) c1 (by omega) (by omega) (by omega) (by omega) (by omega)
      rw [e2] at hB
      simp only [Option.bind_some] at hB
      cases hb2:(mT s.Else (d+1) c1).1 with
      | true=>
       rw [hb2] at hB
       simp only [if_true] at hB ⊢
       refine ⟨_,b5 (B:=fun v:Nat×Int=>a8 (a6 k) l d v.1 v.2) hB,?_⟩
       show _=(true,(mT s.Else (d+1) c1).2)
       rw [←hb2]
      | false=>
       have hle2:=Gr (by omega) hb2
       rw [hb2] at hB
       simp only [Bool.false_eq_true,if_false] at hB ⊢
       obtain ⟨x,hx1,hx2⟩:=ih (i+1) (mT s.Else (d+1) c1).2 hr (by omega) (by omega)
       exact ⟨x,(fG (B:=fun v:Nat×Int=>a8 (a6 k) l d v.1 v.2) (v:=(i,c)) hB).trans hx1,hx2⟩
  show fl (a6 k) ⟨c⟩ l d=_
  unfold fl ey mT
  by_cases hl:0<l.length
  ·rw [if_pos (by omega)]
   by_cases h6:6<d
   ·rw [if_pos h6,if_pos ⟨hl,h6⟩]
   ·rw [if_neg h6,if_neg (by omega)]
    obtain ⟨x,hx1,hx2⟩:=loop (by omega) l 0 c (List.drop_zero ..) (by simpa using h4) h5
    rw [hx1,hx2]
    cases x<;>rfl
  ·rw [if_neg (by omega),if_neg (by omega)]
   obtain rfl:l=[]:=List.length_eq_zero_iff.1 (by omega)
   have hx1:=b5 (B:=fun v:Nat×Int=>a8 (a6 k) [] d v.1 v.2) (v:=(0,c)) (x:=.inr (0,false,c)) (by simp [a8])
   rw [hx1]
   simp only [mL];rfl
theorem Co(l:List aa)(c:Int)(h4:0≤c)(h5:c≤50):gm ⟨c⟩ l 1=some ((mT l 1 c).1,⟨(mT l 1 c).2⟩):=
 qn 7 fun n hn=>Di n l 1 c (by omega) (by omega) (by omega) h4 h5
def b8:Option Int→Int
 | some n=>if n≤50 then n else 51
 | none=>51
theorem A5:∀ (k:Nat)(l:List aa)(d:Int),1≤d→d≤7→8 - d≤k→(bI k).f_R_countStmts l d=some (b8 (bw l d))
 | 0,l,d,h1,h2,h3=>by omega
 | k+1,l,d,h1,h2,h3=>by
  have hargs:∀ (i:Nat)(n:Int)(y:aa),y.Args.length≤4→∃ x,lp (fun v=>cP (bI k) l d n i y v) 0=some x∧(match x with | .inl _=>y.Args.any gj=true | .inr _=>y.Args.any gj=false):=by
   intro i n y hy
   have:=mM (B:=fun v=>cP (bI k) l d n i y v) y.Args gj (fun k=>k) (x:=.inl ()) (y:=.inr (y.Args.length,false))
    (fun j hj hp=>by
     simp only [gj,decide_eq_false_iff_not] at hp
     simp only [cP,List.getElem?_eq_getElem hj,Option.bind_some,sb _ 15 (by omega) (by omega)]
     rw [if_pos (by omega),if_neg hp,if_pos (fk j (by omega))])
    (fun j hj hp=>by
     simp only [gj,decide_eq_true_eq] at hp
     simp only [cP,List.getElem?_eq_getElem hj,Option.bind_some,sb _ 15 (by omega) (by omega)]
     rw [if_pos (by omega),if_pos hp])
    (by simp [cP])
   refine ⟨_,this,?_⟩
   cases h:y.Args.any gj<;>rfl
  have loop:d≤6→∀ (rest:List aa)(i:Nat)(n:Int),l.drop i=rest→(i:Int)≤n→n≤200→∃ x,lp (fun v=>bH (bI k) l d v.1 v.2) (n,i)=some x∧
    (match x with | .inl _=>over n (dz rest d) | .inr y=>n≤y.2.1∧y.2.1≤200∧(y.2.1≤50→∃ t,dz rest d=some t∧y.2.1=n+t)∧(50<y.2.1→over n (dz rest d))):=by
   intro hd6 rest
   induction rest with
   | nil=>
    intro i n hd hi hn
    have hlen:¬(i:Int)<(l.length:Int):=by
     have:=List.drop_eq_nil_iff.1 hd;omega
    refine ⟨_,b5 (B:=fun v:Int×Nat=>bH (bI k) l d v.1 v.2) (x:=.inr (false,n,i)) (by simp only [bH];rw [if_neg hlen]),?_⟩
    simp only [dz]
    exact ⟨by omega,hn,fun _=>⟨0,rfl,by omega⟩,fun h t ht=>by obtain rfl:=Option.some.inj ht;omega⟩
   | cons s r ih=>
    intro i n hd hi hn
    obtain ⟨hlt,hg,hr⟩:=sd hd
    by_cases h50:n≤50
    ·obtain ⟨xa,ha1,ha2⟩:∃ x,(s.Args.length≤4→lp (fun v=>cP (bI k) l d n i s v) 0=some x)∧(s.Args.length≤4→match x with | .inl _=>s.Args.any gj=true | .inr _=>s.Args.any gj=false):=by
      by_cases h:s.Args.length≤4
      ·obtain ⟨x,h1,h2⟩:=hargs i n s h
       exact ⟨x,fun _=>h1,fun _=>h2⟩
      ·exact ⟨.inl (),fun h'=>absurd h' h,fun h'=>absurd h' h⟩
     have e1:=A5 k s.Then (d+1) (by omega) (by omega) (by omega)
     have e2:=A5 k s.Else (d+1) (by omega) (by omega) (by omega)
     have b1:0≤b8 (bw s.Then (d+1))∧b8 (bw s.Then (d+1))≤51:=by
      cases ht:bw s.Then (d+1) with
      | none=>simp [b8]
      | some a=>have:=cI ht;simp only [b8];split<;>omega
     have b2:0≤b8 (bw s.Else (d+1))∧b8 (bw s.Else (d+1))≤51:=by
      cases ht:bw s.Else (d+1) with
      | none=>simp [b8]
      | some a=>have:=cI ht;simp only [b8];split<;>omega
     have hw:=fk i (by omega)
     have hB:bH (bI k) l d n i=if lC s=true then some (.inr (.inl ())) else some (.inl (n+((1+b8 (bw s.Then (d+1)))+b8 (bw s.Else (d+1))),i+1)):=by
      simp only [bH,hg,Option.bind_some,sb _ 15 (by omega) (by omega)]
      rw [if_pos (by omega),if_pos h50]
      unfold lC gj
      by_cases g1:15<mw s.Expr 15
      ·simp [g1]
      rw [if_neg g1]
      by_cases g2:4<s.Args.length
      ·rw [if_pos (by omega)];simp [g2]
      rw [if_neg (by omega),ha1 (by omega)]
      have ha3:=ha2 (by omega)
      have hf:s.Args.any gj=s.Args.any fun e=>decide (15<mw e 15):=rfl
      cases xa with
      | inl y=>
       rw [hf] at ha3
       simp only [Option.bind_some]
       rw [if_pos (by simp only [ha3,Bool.or_true])]
      | inr y=>
       rw [hf] at ha3
       simp only [Option.bind_some]
       rw [if_pos (eR (by omega) (by omega)),e1]
       simp only [Option.bind_some]
       rw [if_pos (eR (by omega) (by omega)),e2]
       simp only [Option.bind_some]
       rw [if_pos (eR (by omega) (by omega)),if_pos (eR (by omega) (by omega)),if_pos hw,if_neg (by simp only [ha3,g1,g2,decide_false,Bool.or_false];simp)]
     cases hs:lC s with
     | true=>
      rw [hs,if_pos rfl] at hB
      refine ⟨_,b5 (B:=fun v:Int×Nat=>bH (bI k) l d v.1 v.2) hB,?_⟩
      rw [E7 hs];exact jV _
     | false=>
      rw [hs] at hB
      simp only [Bool.false_eq_true,if_false] at hB
      obtain ⟨x,hx1,hx2⟩:=ih (i+1) (n+((1+b8 (bw s.Then (d+1)))+b8 (bw s.Else (d+1)))) hr (by omega) (by omega)
      refine ⟨x,(fG (B:=fun v:Int×Nat=>bH (bI k) l d v.1 v.2) (v:=(n,i)) hB).trans hx1,?_⟩
      have key:∀ o,(∀ t,o=some t→0≤t)→b8 o=51∨∃ t,o=some t∧t≤50∧b8 o=t:=by
       intro o ho
       cases o with
       | none=>exact .inl rfl
       | some t=>
        by_cases h:t≤50
        ·exact .inr ⟨t,rfl,h,by simp [b8,h]⟩
        ·exact .inl (by simp [b8,h])
      have big:∀ o t,o=some t→b8 o=51→51≤t∨t=51:=by
       intro o t ho h
       subst ho
       simp only [b8] at h
       split at h<;>omega
      have hover:over (n+((1+b8 (bw s.Then (d+1)))+b8 (bw s.Else (d+1)))) (dz r d)→over n (dz (s::r) d):=by
       intro h
       refine Eb hs fun a b t ha hb ht=>?_
       have h1:=h t ht
       have:=cI ha;have:=cI hb;have:=iu _ _ _ ht
       have hca:b8 (bw s.Then (d+1))≤a:=by rw [ha];simp only [b8];split<;>omega
       have hcb:b8 (bw s.Else (d+1))≤b:=by rw [hb];simp only [b8];split<;>omega
       omega
      cases x with
      | inl y=>exact hover hx2
      | inr y=>
       obtain ⟨g1,g2,g3,g4⟩:=hx2
       refine ⟨by omega,g2,fun h=>?_,fun h=>hover (g4 h)⟩
       obtain ⟨t,ht,ht2⟩:=g3 h
       have ht0:=iu _ _ _ ht
       rcases key (bw s.Then (d+1)) (fun t h=>cI h) with c1 | ⟨a,ha,_,ca⟩
       ·omega
       rcases key (bw s.Else (d+1)) (fun t h=>cI h) with c2 | ⟨b,hb,_,cb⟩
       ·omega
       exact ⟨1+a+b+t,Ec hs ha hb ht,by omega⟩
    ·refine ⟨_,b5 (B:=fun v:Int×Nat=>bH (bI k) l d v.1 v.2) (x:=.inr (decide (n≤50),n,i)) (by simp only [bH];rw [if_pos (by omega),if_neg h50]),Int.le_refl _,hn,fun h=>absurd h h50,fun _ t ht=>?_⟩
     have:=iu _ _ _ ht
     omega
  show jF (bI k) l d=_
  unfold jF iy bw
  by_cases hl:0<l.length
  ·rw [if_pos (by omega)]
   by_cases h6:6<d
   ·rw [if_pos h6,if_pos ⟨hl,h6⟩];rfl
   ·rw [if_neg h6,if_neg (by omega)]
    obtain ⟨x,hx1,hx2⟩:=loop (by omega) l 0 0 (List.drop_zero ..) (by simp) (by omega)
    rw [hx1]
    have hov:over 0 (dz l d)→b8 (dz l d)=51:=by
     intro h
     cases ht:dz l d with
     | none=>rfl
     | some t=>have:=h t ht;simp only [b8];rw [if_neg (by omega)]
    cases x with
    | inl y=>rw [hov hx2];rfl
    | inr y=>
     obtain ⟨g1,g2,g3,g4⟩:=hx2
     by_cases h51:50<y.2.1
     ·rw [hov (g4 h51)]
      simp only [Option.bind_some]
      by_cases h52:51<y.2.1
      ·rw [if_pos h52];rfl
      ·rw [if_neg h52]
       simp only [Option.bind_some]
       congr 1;omega
     ·obtain ⟨t,ht,ht2⟩:=g3 (by omega)
      rw [ht]
      simp only [Option.bind_some,b8]
      rw [if_neg (by omega),if_pos (by omega)]
      simp only [Option.bind_some]
      congr 1;omega
  ·rw [if_neg (by omega),if_neg (by omega)]
   obtain rfl:l=[]:=List.length_eq_zero_iff.1 (by omega)
   have hx1:=b5 (B:=fun v:Int×Nat=>bH (bI k) [] d v.1 v.2) (v:=(0,0)) (x:=.inr (false,0,0)) (by simp [bH])
   rw [hx1]
   simp only [dz];rfl
theorem A6(l:List aa):kJ l 1=some (b8 (bw l 1)):=
 qn 7 fun n hn=>A5 n l 1 (by omega) (by omega) (by omega)
end Go.Proofs.YtphgedfhcncobaaGreatDoor.A
