/- Who acts for whom, as plain mathematics: what can be reached; roundsR of rows; rows that are closed. -/
import Derived.Test.YtkkkkondjclcnaaGreatHeadF
import Derived.Test.YtkkkkondjclcnaaGreatFE
set_option linter.all false
namespace Go.Proofs.YtkkkkondjclcnaaGreat.A
open Go
inductive Reach(gs:List dv)(i:Nat):Nat→Prop where
 | refl:Reach gs i i
 | step {j:Nat} (g:dv) (h:Reach gs i j) (hg:g∈gs) (hw:g.Who=(j:Int)):Reach gs i g.For.toNat
def on(row:List Bool)(k:Nat):Bool:=row.getD k false
def Du(gs:List dv)(row:List Bool):Prop:=∀ g∈gs,on row g.Who.toNat=true→on row g.For.toNat=true
variable {row:List Bool}{j k:Nat}
theorem Ph(hj:j<row.length):on (row.set j true) k=(decide (j=k)||on row k):=by
 grind [on]
variable {gs:List dv}{i:Nat}
theorem Gc(hc:Du gs row)(hi:on row i=true):∀ k,Reach gs i k→on row k=true:=by
 intro k h
 induction h with
 | refl=>exact hi
 | step g h hg hw ih=>exact hc g hg (by grind)
theorem afS{row':List Bool}(hl:row.length=row'.length)(hc:Du gs row)(hi:on row i=true)(hs:∀ k,on row k=true→Reach gs i k)(aw:Du gs row')(av:on row' i=true)(ap:∀ k,on row' k=true→Reach gs i k):row=row':=by
 apply List.ext_getElem hl
 intro k h1 h2
 have he:∀ {r:List Bool}(h:k<r.length),on r k=r[k]:=by grind [on]
 rw [←he h1,←he h2]
 cases hk:on row k with
 | true=>grind [Gc]
 | false=>
  grind [Gc]
def lT(row:List Bool)(g:dv):List Bool:=if on row g.Who.toNat=true then row.set g.For.toNat true else row
def jB(gs:List dv)(row:List Bool):List Bool:=gs.foldl lT row
def iX(gs:List dv):Nat→List Bool→List Bool
 | 0,row=>row
 | n+1,row=>jB gs (iX gs n row)
theorem Ab(row:List Bool)(g:dv):(lT row g).length=row.length:=by grind [lT]
theorem MH(gs:List dv):∀ row,(jB gs row).length=row.length:=by
 induction gs with
 | nil=>intro row;rfl
 | cons g gs ih=>grind [jB,Ab]
theorem oG(gs:List dv)(row:List Bool):∀ n,(iX gs n row).length=row.length
 | 0=>rfl
 | n+1=>(MH gs _).trans (oG gs row n)
def Good(m:Nat)(gs:List dv):Prop:=∀ g∈gs,(0≤g.Who∧g.Who<m)∧0≤g.For∧g.For<m
variable {g:dv}
theorem MI{m:Nat}(hl:row.length=m)(hg:0≤g.For∧g.For<m)(k:Nat):on (lT row g) k=(on row k||(on row g.Who.toNat&&decide (g.For.toNat=k))):=by
 grind [lT,on]
theorem Td{m:Nat}(hg:Good m gs):∀ row,row.length=m→∀ k,on row k=true→on (jB gs row) k=true:=by
 induction gs with
 | nil=>intro row _ k h;exact h
 | cons g gs ih=>
  intro row hl k h
  rw [jB,ym]
  exact ih (fun x hx=>hg x (by simp [hx])) _ ((Ab row g).trans hl) k (by rw [MI hl (hg g (by simp)).2,h];rfl)
theorem QM{m:Nat}{gs':List dv}(hg:Good m gs)(o:∀ g∈gs,g∈gs'):∀ row,row.length=m→(∀ k,on row k=true→Reach gs' i k)→∀ k,on (jB gs row) k=true→Reach gs' i k:=by
 induction gs with
 | nil=>intro row _ h k hk;exact h k hk
 | cons g gs ih=>
  intro row hl h k hk
  rw [jB,ym] at hk
  refine ih (fun x hx=>hg x (by simp [hx])) (fun x hx=>o x (by simp [hx])) _ ((Ab row g).trans hl) (fun k hk=>?_) k hk
  have aa:=hg g (by simp)
  rw [MI hl aa.2] at hk
  simp only [u0,aC,eI] at hk
  rcases hk with hk | ⟨hk,rfl⟩
  ·exact h k hk
  ·exact .step g (h _ hk) (o g (by simp)) (by omega)
def mi(row:List Bool):Nat:=row.countP id
theorem U2(row:List Bool):mi row≤row.length:=List.countP_le_length
theorem LL(hj:j<row.length)(h:on row j=false):mi (row.set j true)=mi row+1:=by
 grind [on,mi]
theorem Pj(h:on row j=true):row.set j true=row:=by
 apply List.ext_getElem?
 grind [on]
theorem Te{m:Nat}(hl:row.length=m)(hg:0≤g.For∧g.For<m):mi row≤mi (lT row g)∧(on row g.Who.toNat=true→on row g.For.toNat=false→mi row<mi (lT row g)):=by
 unfold lT
 split
 ·cases hf:on row g.For.toNat with
  | true=>grind [Pj]
  | false=>grind [LL]
 grind
theorem U3{m:Nat}(hg:Good m gs):∀ row,row.length=m→mi row≤mi (jB gs row)∧(mi row=mi (jB gs row)→Du gs row∧jB gs row=row):=by
 induction gs with
 | nil=>intro row _;exact ⟨aV _,fun _=>⟨fun g h=>by simp at h,rfl⟩⟩
 | cons g gs ih=>
  intro row hl
  obtain ⟨h1,h2⟩:=Te (row:=row) hl (hg g (by simp)).2
  obtain ⟨h3,h4⟩:=ih (fun x hx=>hg x (by simp [hx])) (lT row g) ((Ab row g).trans hl)
  have e:jB (g::gs) row=jB gs (lT row g):=rfl
  rw [e]
  refine ⟨by omega,fun hc=>?_⟩
  obtain ⟨h5,h6⟩:=h4 (by omega)
  have u:lT row g=row:=by
   grind [lT,Pj]
  rw [u] at h5 h6 ⊢
  refine ⟨fun x hx ho=>?_,h6⟩
  rcases eX.1 hx with rfl | hx
  ·grind
  ·exact h5 x hx ho
theorem J5{m:Nat}{gs:List dv}(hg:Good m gs)(row:List Bool)(hl:row.length=m)(h1:1≤mi row):∀ n,Du gs (iX gs n row)∨n+1≤mi (iX gs n row)
 | 0=>.inr h1
 | n+1=>by
  have hlen:=(oG gs row n).trans hl
  obtain ⟨h2,h3⟩:=U3 hg (iX gs n row) hlen
  by_cases hc:mi (iX gs n row)=mi (jB gs (iX gs n row))
  ·grind [iX]
  ·rcases J5 hg row hl h1 n with h4 | h4
   ·
    exfalso
    apply hc
    have:∀ (gs':List dv),(∀ g∈gs',g∈gs)→jB gs' (iX gs n row)=iX gs n row:=by
     intro gs' hs
     induction gs' with
     | nil=>rfl
     | cons g gs' ih=>
      rw [jB,ym]
      have:lT (iX gs n row) g=iX gs n row:=by
       unfold lT
       split
       ·rename_i ho;exact Pj (h4 g (hs g (by simp)) ho)
       ·rfl
      rw [this]
      exact ih fun x hx=>hs x (by simp [hx])
    grind
   grind [iX]
theorem Gd{m i:Nat}{gs:List dv}(hg:Good m gs)(row:List Bool)(hl:row.length=m)(h:∀ k,on row k=true→Reach gs i k):∀ n k,on (iX gs n row) k=true→Reach gs i k
 | 0,k,hk=>h k hk
 | n+1,k,hk=>QM hg (fun _ h=>h) _ ((oG gs row n).trans hl) (Gd hg row hl h n) k hk
theorem Ge{m:Nat}{gs:List dv}(hg:Good m gs)(row:List Bool)(hl:row.length=m)(k:Nat)(h:on row k=true):∀ n,on (iX gs n row) k=true
 | 0=>h
 | n+1=>Td hg _ ((oG gs row n).trans hl) k (Ge hg row hl k h n)
def A3(m i:Nat):List Bool:=(List.replicate m false).set i true
def iL(m:Nat)(gs:List dv)(i:Nat):List Bool:=iX gs m (A3 m i)
def dT(m:Nat)(gs:List dv)(i k:Nat):Bool:=on (iL m gs i) k
theorem ZB{m:Nat}(hi:i<m)(k:Nat):on (A3 m i) k=decide (i=k):=by
 grind [A3,on]
theorem A4(m:Nat)(gs:List dv)(i:Nat):(iL m gs i).length=m:=(oG _ _ _).trans (by simp [A3])
theorem QN{m:Nat}(hg:Good m gs)(hi:i<m):Du gs (iL m gs i)∧on (iL m gs i) i=true∧∀ k,on (iL m gs i) k=true→Reach gs i k:=by
 have hl:(A3 m i).length=m:=by simp [A3]
 have N:=fun k=>ZB (m:=m) hi k
 have J:1≤mi (A3 m i):=by
  simp_all [LL,on,A3]
 refine ⟨?_,Ge hg _ hl i (by rw [N];simp) m,Gd hg _ hl (fun k hk=>?_) m⟩
 ·rcases J5 hg _ hl J m with h | h
  ·exact h
  grind [U2,oG]
 ·rw [N] at hk
  obtain rfl:i=k:=by simpa using hk
  exact .refl
variable [Lp]
theorem ic(h:k<row.length):row[k]? =some (on row k):=by
 grind [on]
theorem pP{α:Type}{l:List α}(h:k<l.length):l.take (k+1)=l.take k++[l[k]]:=by
 grind [List.take_add_one]
section
variable (a:ak)(s:iG a=0)
include s
theorem RJ:Good a.Many.toNat a.Grants:=by
 obtain ⟨h1,h2,h3,h4⟩:=my s
 intro g hg
 grind
end
def allRows(m:Nat)(gs:List dv):List (List Bool):=(List.range m).map (iL m gs)
section
variable (a:ak)(s:iG a=0)
include s
theorem YS:sw a=some (allRows a.Many.toNat a.Grants):=by
 obtain ⟨h1,h2,h3,h4⟩:=my s
 have hg:=RJ a s
 have inner:∀ (out:List (List Bool))(n:Nat)(row:List Bool)(c:Nat)(y:Int)(left:List Int),left.length≤1000→
   lp (fun v=>mK a y v.1 v.2) (left,0)=some (left++(a.Grants.filter (fun g=>g.Who==y)).map (·.For),a.Grants.length,false):=by
  intro out n row c y left au
  have h:=uq (B:=fun v=>mK a y v.1 v.2) a.Grants.length (fun j=>(left++((a.Grants.take j).filter (fun g=>g.Who==y)).map (·.For),j))
   (x:=(left++(a.Grants.filter (fun g=>g.Who==y)).map (·.For),a.Grants.length,false))
   (fun j hj=>by
    have ae:((a.Grants.take j).filter (fun g=>g.Who==y)).length≤20:=by grind
    have L:(left++((a.Grants.take j).filter (fun g=>g.Who==y)).map (·.For)).length + [a.Grants[j].For].length≤1000000000:=by
     grind
    grind [mK,gJ,pP])
   (by simp [mK])
  simpa using h
 have middle:∀ (out:List (List Bool))(n:Nat),n<a.Many.toNat→∃ z2 z3,lp (fun v=>kW a v.1 v.2) ([(n:Int)],List.replicate a.Many.toNat false)=some (iL a.Many.toNat a.Grants n,z2,z3):=by
  intro out n hn
  have hw:=kA (B:=fun v=>kW a v.1 v.2)
   (fun q=>(a.Many.toNat - mi q.2)*(a.Grants.length+1)+q.1.length)
   (fun q=>q.2.length=a.Many.toNat∧(∀ x∈q.1,0≤x∧x<a.Many∧Reach a.Grants n x.toNat)∧(∀ k,on q.2 k=true→Reach a.Grants n k)∧(on q.2 n=true∨(n:Int)∈q.1)∧
    (∀ g∈a.Grants,on q.2 g.Who.toNat=true→on q.2 g.For.toNat=true∨g.For∈q.1)∧(a.Many.toNat - mi q.2)*(a.Grants.length+1)+q.1.length≤500)
   (fun r=>∃ z2 z3,r=(iL a.Many.toNat a.Grants n,z2,z3))
   (fun ⟨left,row⟩ ⟨hl,f,t,d,R,hm⟩=>by
    simp only at hl f t d R hm ⊢
    by_cases hz:0<left.length
    ·
     right
     have F:0<(left.length:Int):=by omega
     have O:left.length - 1<left.length:=by omega
     have hy:=aP O
     generalize S:left[left.length - 1]=y at hy
     have U:y∈left:=bg hy
     obtain ⟨W,an,V⟩:=f y U
     have E:left=left.take (left.length - 1)++[y]:=by
      have:=pP (l:=left) (k:=left.length - 1) O
      rw [S,show left.length - 1+1=left.length by omega,Fy] at this
      exact this
     have X:IntKind.i64.wrap ((left.length:Int) - 1)=(left.length:Int) - 1:=wrap64 (by omega) (by omega)
     have I:dV ((left.length:Int) - 1)=some (left.length - 1):=by rw [cX (by omega)];congr 1;omega
     have C:row[y.toNat]? =some (on row y.toNat):=ic (by omega)
     have o:∀ x∈left.take (left.length - 1),x∈left:=by grind
     have M:∀ x∈left,x=y∨x∈left.take (left.length - 1):=by
      grind
     have z:(left.take (left.length - 1)).length=left.length - 1:=by simp
     cases ho:on row y.toNat with
     | true=>
      refine ⟨(left.take (left.length - 1),row),?_,⟨hl,fun x hx=>f x (o x hx),t,?_,fun g D hw=>?_,?_⟩,?_⟩
      ·simp only [kW,F,az,X,I,ad,hy,show left.length - 1≤left.length by omega,cX W,C,ho]
      ·rcases d with h | h
       ·exact .inl h
       ·rcases M _ h with rfl | h
        ·left;simpa using ho
        ·exact .inr h
      ·rcases R g D hw with h | h
       ·exact .inl h
       ·rcases M _ h with h | h
        ·left;simp only;rw [h];exact ho
        ·exact .inr h
      ·grind
      grind
     | false=>
      have am:(left.take (left.length - 1)).length≤1000:=by
       grind
      have P:=inner out n row y.toNat y (left.take (left.length - 1)) am
      have ae:((a.Grants.filter (fun g=>g.Who==y)).map (·.For)).length≤a.Grants.length:=by grind
      have T:y.toNat<row.length:=by omega
      have ah:=LL T ho
      have K:=U2 (row.set y.toNat true)
      rw [vA,hl] at K
      have w:(a.Many.toNat - mi (row.set y.toNat true))*(a.Grants.length+1)+(left.take (left.length - 1)++(a.Grants.filter (fun g=>g.Who==y)).map (·.For)).length<(a.Many.toNat - mi row)*(a.Grants.length+1)+left.length:=by
       rw [eK,z,ah]
       have e:a.Many.toNat - mi row=(a.Many.toNat - (mi row+1))+1:=by omega
       grind [Nat.add_mul]
      refine ⟨(left.take (left.length - 1)++(a.Grants.filter (fun g=>g.Who==y)).map (·.For),row.set y.toNat true),?_,⟨by simpa using hl,fun x hx=>?_,fun k hk=>?_,?_,fun g D hw=>?_,?_⟩,w⟩
      ·grind [kW,cX]
      ·rcases dk.1 hx with hx | hx
       ·grind
       ·obtain ⟨g,D,rfl⟩:=iJ.1 hx
        obtain ⟨Q,ac⟩:=List.mem_filter.1 D
        have ao:g.Who=y:=by simpa using ac
        obtain ⟨_,ag,af⟩:=h4 g Q
        exact ⟨ag,af,.step g V Q (by grind)⟩
      ·grind [Ph]
      ·grind [Ph]
      ·grind [Ph]
      grind
    ·left
     have H:left=[]:=by grind
     subst H
     obtain ⟨al,aj,ai⟩:=QN hg hn
     have heq:row=iL a.Many.toNat a.Grants n:=afS (hl.trans (A4 ..).symm) (fun g D hw=>by grind) (d.resolve_right (by simp)) t al aj ai
     simp_all [kW])
  obtain ⟨r,h5,z2,z3,rfl⟩:=hw ([(n:Int)],List.replicate a.Many.toNat false) ⟨by simp,fun x hx=>by
    simp_all [Reach.refl],by grind [on],.inr (by simp),by grind [on],by
    simp only [List.length_singleton]
    have h6:(a.Many.toNat - mi (List.replicate a.Many.toNat false))*(a.Grants.length+1)≤6*21:=Nat.mul_le_mul (by omega) (by omega)
    omega⟩
  grind
 have outer:=uq (B:=fun v=>pj a v.1 v.2) a.Many.toNat (fun n=>((List.range n).map (iL a.Many.toNat a.Grants),n)) (x:=(allRows a.Many.toNat a.Grants,a.Many.toNat,false))
   (fun n hn=>by
    obtain ⟨z2,z3,P⟩:=middle ((List.range n).map (iL a.Many.toNat a.Grants)) n hn
    grind [pj,cX,gJ,List.range_succ])
   (by grind [pj,allRows])
 grind [sw]
end
theorem CK{m:Nat}(h:i<m):(allRows m gs)[i]? =some (iL m gs i):=by
 grind [allRows]
theorem LM{m:Nat}(h:k<m):(iL m gs i)[k]? =some (dT m gs i k):=ic (by rw [A4];exact h)
def xD(m:Nat)(gs:List dv)(ps:List bz)(who:Nat):Bool:=ps.all fun p=>dT m gs who p.Owner.toNat||p.Names.any fun n=>dT m gs who n.toNat
def fg(a:ak)(l:Label):Level:=⟨(List.range a.Many.toNat).map (xD a.Many.toNat a.Grants l.Read),(List.range a.Many.toNat).map (xD a.Many.toNat a.Grants l.Write)⟩
def Tf(m:Int)(ps:List bz):Prop:=ps.length≤4∧∀ p∈ps,cw m p.Owner=true∧p.Names.length≤6∧∀ n∈p.Names,cw m n=true
theorem Pk{m:Int}{ps:List bz}(h:tB m ps=0):Tf m ps:=⟨(xy h).1,fun p hp=>wx ((xy h).2 p hp)⟩
theorem J6{β:Type}(l:List β)(p:β→Bool):(!l.any fun x=>!p x)=l.all p:=by
 grind
section
variable (a:ak)(s:iG a=0)
include s
theorem akp(ps:List bz)(hp:Tf a.Many ps):sA ps a (allRows a.Many.toNat a.Grants)=some ((List.range a.Many.toNat).map (xD a.Many.toNat a.Grants ps)):=by
 obtain ⟨h1,h2,h3,h4⟩:=my s
 have P:∀ (n:Int),cw a.Many n=true→∀ who:Nat,who<a.Many.toNat→nj n (allRows a.Many.toNat a.Grants) (who:Int)=some (dT a.Many.toNat a.Grants who n.toNat):=by
  intro n hn who hw
  obtain ⟨I,ar⟩:=qX.1 hn
  simp [nj,Oy,CK hw,cX I,LM (gs:=a.Grants) (i:=who) (show n.toNat<a.Many.toNat by omega)]
 have G:∀ p∈ps,∀ who:Nat,who<a.Many.toNat→pn p (allRows a.Many.toNat a.Grants) (who:Int)=some (!(dT a.Many.toNat a.Grants who p.Owner.toNat||p.Names.any fun n=>dT a.Many.toNat a.Grants who n.toNat)):=by
  intro p Y who hw
  obtain ⟨ho,hl,hn⟩:=hp.2 p Y
  obtain ⟨Z,aq⟩:=qX.1 ho
  have hc:gI p.Names (allRows a.Many.toNat a.Grants) (who:Int)=some (p.Names.any fun n=>dT a.Many.toNat a.Grants who n.toNat):=
   xc (fun y=>nj y (allRows a.Many.toNat a.Grants) (who:Int)) _ p.Names (by omega) ((by grind))
  simp only [pn,Oy,ad,CK hw,cX Z,LM (gs:=a.Grants) (i:=who) (show p.Owner.toNat<a.Many.toNat by omega),hc]
  grind
 have hl:=uq (B:=fun v=>po ps a (allRows a.Many.toNat a.Grants) v.1 v.2) a.Many.toNat (fun k=>((List.range k).map (xD a.Many.toNat a.Grants ps),k)) (x:=((List.range a.Many.toNat).map (xD a.Many.toNat a.Grants ps),a.Many.toNat,false))
  (fun k hk=>by
   have hc:iC ps (allRows a.Many.toNat a.Grants) (k:Int)=some (ps.any fun p=>!(dT a.Many.toNat a.Grants k p.Owner.toNat||p.Names.any fun n=>dT a.Many.toNat a.Grants k n.toNat)):=
    xc (fun y=>pn y (allRows a.Many.toNat a.Grants) (k:Int)) _ ps (by have:=hp.1;omega) (fun y hy=>G y hy k hk)
   have hr:((List.range k).map (xD a.Many.toNat a.Grants ps)).length + [xD a.Many.toNat a.Grants ps k].length≤1000000000:=by simp;omega
   simp only [po,show (k:Int)<a.Many by omega,az,hc,ad,gJ k (by omega),J6]
   rw [vB,ei]
   simp only [fj,u5]
   exact ab hr)
  (by grind [po])
 grind [sA]
theorem Pm(l:Label)(hf:fK a.Many l=0):mg a l=some (fg a l):=by
 grind [qw,mg,YS,akp,Pk,fg]
end
def bw(n:Nat)(l:Level):Prop:=l.Readers.length=n∧l.Writers.length=n
def wy(n:Nat)(x y:List Bool):Bool:=(List.range n).all fun k=>!on x k||on y k
def qx(n:Nat)(x y:List Bool):List Bool:=(List.range n).map fun k=>on x k&&on y k
def wz(n:Nat)(x y:List Bool):List Bool:=(List.range n).map fun k=>on x k||on y k
theorem RK(n:Nat)(x y:List Bool):(!(List.range n).any fun k=>on x k&&!on y k)=wy n x y:=by
 grind [wy]
section
variable {n:Nat}(hn:n≤1000000)
include hn
theorem J7{x y:List Bool}(hx:x.length=n)(hy:y.length=n):oE x y=some (wy n x y):=by
 have h:=Zs (B:=fun v=>nM x y v) n (fun k=>on x k&&!on y k) id (x:=.inl ()) (y:=.inr (n,false))
  ((by grind [nM,gJ,on]))
  ((by grind [nM,ic]))
  (by simp [nM,hx])
 grind [oE,RK]
theorem afT{x y:List Bool}(hx:x.length=n)(hy:y.length=n):yd x y=some (qx n x y):=by
 have h:=uq (B:=fun v=>nL x y v.1 v.2) n (fun k=>(qx k x y,k)) (x:=(qx n x y,n,false))
  (fun k hk=>by
   have r:∀ b:Bool,(qx k x y).length + [b].length≤1000000000:=fun b=>by simp [qx];omega
   simp only [nL,show (k:Int)<(x.length:Int) by omega,az,ic (show k<x.length by omega),ic (show k<y.length by omega),ad,gJ k (by omega),r,
    show qx (k+1) x y=qx k x y++[on x k&&on y k] by simp [qx,vB]]
   grind)
  (by simp [nL,hx])
 have h':lp (fun v=>nL x y v.1 v.2) (([]:List Bool),0)=_:=h
 grind [yd]
theorem akq{x y:List Bool}(hx:x.length=n)(hy:y.length=n):Aa x y=some (wz n x y):=by
 have h:=uq (B:=fun v=>ph x y v.1 v.2) n (fun k=>(wz k x y,k)) (x:=(wz n x y,n,false))
  (fun k hk=>by
   have r:∀ b:Bool,(wz k x y).length + [b].length≤1000000000:=fun b=>by simp [wz];omega
   simp only [ph,show (k:Int)<(x.length:Int) by omega,az,ic (show k<x.length by omega),ic (show k<y.length by omega),ad,gJ k (by omega),r,
    show wz (k+1) x y=wz k x y++[on x k||on y k] by simp [wz,vB]]
   grind)
  (by simp [ph,hx])
 have h':lp (fun v=>ph x y v.1 v.2) (([]:List Bool),0)=_:=h
 grind [Aa]
end
def jY(n:Nat)(l m:Level):Bool:=wy n m.Readers l.Readers&&wy n l.Writers m.Writers
def cU(n:Nat)(l m:Level):Level:=⟨qx n l.Readers m.Readers,wz n l.Writers m.Writers⟩
theorem Dv{a:ak}(h:iG a=0):a.Many.toNat≤6∧1≤a.Many.toNat∧((a.Many.toNat:Nat):Int)=a.Many:=by
 obtain ⟨h1,h2,_⟩:=my h
 omega
section
variable {n:Nat}(hn:n≤1000000){l m:Level}(hl:bw n l)(hm:bw n m)
include hn hl hm
theorem vL:fQ l m=some (jY n l m):=by
 unfold fQ jY
 rw [J7 hn hm.1 hl.1,J7 hn hl.2 hm.2,ad]
 grind
theorem sC:er l m=some (cU n l m):=by
 simp only [er,afT hn hl.1 hm.1,akq hn hl.2 hm.2,ad,cU]
end
theorem dX(n:Nat)(l m:Level):bw n (cU n l m):=by simp [bw,cU,qx,wz]
theorem oH(a:ak)(l:Label):bw a.Many.toNat (fg a l):=by simp [bw,fg]
end Go.Proofs.YtkkkkondjclcnaaGreat.A
