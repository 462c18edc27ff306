/- Who acts for whom, as plain mathematics: what can be reached; roundsR of rows; rows that are closed. -/
import Derived.Test.YtkkkkondjclcnaaGreatHeadF
import Derived.Test.YtkkkkondjclcnaaGreatFE
set_option linter.all false
namespace Go.Proofs.YtkkkkondjclcnaaGreat.A
open Go
inductive Reach(gs:List cB)(i:Nat):Nat→Prop where
 | refl:Reach gs i i
 | step {j:Nat} (g:cB) (h:Reach gs i j) (hg:g∈gs) (hw:g.Who=(j:Int)):Reach gs i g.For.toNat
def on(row:List Bool)(k:Nat):Bool:=row.getD k false
def yt(gs:List cB)(row:List Bool):Prop:=∀ g∈gs,on row g.Who.toNat=true→on row g.For.toNat=true
theorem Dz{row:List Bool}{j k:Nat}(hj:j<row.length):on (row.set j true) k=(decide (j=k)||on row k):=by
 unfold on
 rw [cp,cp,kj]
 by_cases h:j=k
 ·subst h;simp [hj]
 ·simp [h]
theorem agZ{row:List Bool}{k:Nat}(h:on row k=true):k<row.length:=by
 apply km
 intro hn
 unfold on at h
 rw [cp,vJ (by omega)] at h
 cases h
theorem DA{gs:List cB}{row:List Bool}{i:Nat}(hc:yt gs row)(hi:on row i=true):∀ k,Reach gs i k→on row k=true:=by
 intro k h
 induction h with
 | refl=>exact hi
 | step g h hg hw ih=>exact hc g hg (by rw [hw];simpa using ih)
theorem abQ{gs:List cB}{row row':List Bool}{i:Nat}(hl:row.length=row'.length)(hc:yt gs row)(hi:on row i=true)(hs:∀ k,on row k=true→Reach gs i k)
  (hc':yt gs row') (hi':on row' i=true) (hs':∀ k,on row' k=true→Reach gs i k):row=row':=by
 apply CQ hl
 intro k h1 h2
 have he:∀ {r:List Bool}(h:k<r.length),on r k=r[k]:=fun {r} h=>by unfold on;rw [cp,aA h];rfl
 rw [←he h1,←he h2]
 cases hk:on row k with
 | true=>exact (DA hc' hi' k (hs k hk)).symm
 | false=>
  cases ha:on row' k with
  | false=>rfl
  | true=>
   rw [DA hc hi k (hs' k ha)] at hk;cases hk
def kK(row:List Bool)(g:cB):List Bool:=if on row g.Who.toNat=true then row.set g.For.toNat true else row
def fW(gs:List cB)(row:List Bool):List Bool:=gs.foldl kK row
def fX(gs:List cB):Nat→List Bool→List Bool
 | 0,row=>row
 | n+1,row=>fW gs (fX gs n row)
theorem xw(row:List Bool)(g:cB):(kK row g).length=row.length:=by unfold kK;split<;>simp
theorem JZ(gs:List cB):∀ row,(fW gs row).length=row.length:=by
 induction gs with
 | nil=>intro row;rfl
 | cons g gs ih=>intro row;rw [fW,pY];exact (ih _).trans (xw row g)
theorem m8(gs:List cB)(row:List Bool):∀ n,(fX gs n row).length=row.length
 | 0=>rfl
 | n+1=>(JZ gs _).trans (m8 gs row n)
def Good(m:Nat)(gs:List cB):Prop:=∀ g∈gs,(0≤g.Who∧g.Who<m)∧0≤g.For∧g.For<m
theorem J0{m:Nat}{row:List Bool}{g:cB}(hl:row.length=m)(hg:0≤g.For∧g.For<m)(k:Nat):on (kK row g) k=(on row k||(on row g.Who.toNat&&decide (g.For.toNat=k))):=by
 unfold kK
 split
 ·rename_i h
  rw [Dz (by omega),h]
  cases on row k<;>simp
 ·rename_i h
  simp [h]
theorem PT{m:Nat}{gs:List cB}(hg:Good m gs):∀ row,row.length=m→∀ k,on row k=true→on (fW gs row) k=true:=by
 induction gs with
 | nil=>intro row _ k h;exact h
 | cons g gs ih=>
  intro row hl k h
  rw [fW,pY]
  exact ih (fun x hx=>hg x (by simp [hx])) _ ((xw row g).trans hl) k (by rw [J0 hl (hg g (by simp)).2,h];rfl)
theorem NF{m:Nat}{i:Nat}{gs gs':List cB}(hg:Good m gs)(hsub:∀ g∈gs,g∈gs'):∀ row,row.length=m→(∀ k,on row k=true→Reach gs' i k)→∀ k,on (fW gs row) k=true→Reach gs' i k:=by
 induction gs with
 | nil=>intro row _ h k hk;exact h k hk
 | cons g gs ih=>
  intro row hl h k hk
  rw [fW,pY] at hk
  refine ih (fun x hx=>hg x (by simp [hx])) (fun x hx=>hsub x (by simp [hx])) _ ((xw row g).trans hl) (fun k hk=>?_) k hk
  have hgg:=hg g (by simp)
  rw [J0 hl hgg.2] at hk
  simp only [jq,aB,cE] at hk
  rcases hk with hk | ⟨hk,rfl⟩
  ·exact h k hk
  ·exact .step g (h _ hk) (hsub g (by simp)) (by omega)
def jR(row:List Bool):Nat:=row.countP id
theorem RC(row:List Bool):jR row≤row.length:=List.countP_le_length
theorem Jd{row:List Bool}{j:Nat}(hj:j<row.length)(h:on row j=false):jR (row.set j true)=jR row+1:=by
 induction row generalizing j with
 | nil=>simp at hj
 | cons b row ih=>
  cases j with
  | zero=>
   have:b=false:=by simpa [on] using h
   subst this
   simp [jR]
  | succ j=>
   have:=ih (j:=j) (by simpa using hj) (by simpa [on] using h)
   simp only [jR,List.set_cons_succ,List.countP_cons] at this ⊢
   omega
theorem Mv{row:List Bool}{j:Nat}(h:on row j=true):row.set j true=row:=by
 apply List.ext_getElem?
 intro k
 rw [kj]
 by_cases hk:j=k
 ·subst hk
  have hl:=agZ h
  unfold on at h
  rw [cp,aA hl] at h
  simp only [an,aa hl,aA hl]
  simpa using h.symm
 ·rw [ab hk]
theorem PU{m:Nat}{row:List Bool}{g:cB}(hl:row.length=m)(hg:0≤g.For∧g.For<m):jR row≤jR (kK row g)∧(on row g.Who.toNat=true→on row g.For.toNat=false→jR row<jR (kK row g)):=by
 unfold kK
 split
 ·cases hf:on row g.For.toNat with
  | true=>rw [Mv hf];exact ⟨aT _,fun _ h=>by cases h⟩
  | false=>rw [Jd (by omega) hf];exact ⟨by omega,fun _ _=>by omega⟩
 ·rename_i h;exact ⟨aT _,fun h'=>absurd h' h⟩
theorem RD{m:Nat}{gs:List cB}(hg:Good m gs):∀ row,row.length=m→jR row≤jR (fW gs row)∧(jR row=jR (fW gs row)→yt gs row∧fW gs row=row):=by
 induction gs with
 | nil=>intro row _;exact ⟨aT _,fun _=>⟨fun g h=>by simp at h,rfl⟩⟩
 | cons g gs ih=>
  intro row hl
  obtain ⟨h1,h2⟩:=PU (row:=row) hl (hg g (by simp)).2
  obtain ⟨h3,h4⟩:=ih (fun x hx=>hg x (by simp [hx])) (kK row g) ((xw row g).trans hl)
  have e:fW (g::gs) row=fW gs (kK row g):=rfl
  rw [e]
  refine ⟨by omega,fun hc=>?_⟩
  obtain ⟨h5,h6⟩:=h4 (by omega)
  have hsame:kK row g=row:=by
   unfold kK
   split
   ·rename_i ho
    cases hf:on row g.For.toNat with
    | true=>exact Mv hf
    | false=>have:=h2 ho hf;omega
   ·rfl
  rw [hsame] at h5 h6 ⊢
  refine ⟨fun x hx ho=>?_,h6⟩
  rcases cQ.1 hx with rfl | hx
  ·cases hf:on row x.For.toNat with
   | true=>rfl
   | false=>have:=h2 ho hf;rw [hsame] at this;omega
  ·exact h5 x hx ho
theorem Ht{m:Nat}{gs:List cB}(hg:Good m gs)(row:List Bool)(hl:row.length=m)(h1:1≤jR row):∀ n,yt gs (fX gs n row)∨n+1≤jR (fX gs n row)
 | 0=>.inr h1
 | n+1=>by
  have hlen:=(m8 gs row n).trans hl
  obtain ⟨h2,h3⟩:=RD hg (fX gs n row) hlen
  by_cases hc:jR (fX gs n row)=jR (fW gs (fX gs n row))
  ·obtain ⟨h4,h5⟩:=h3 hc
   left
   show yt gs (fW gs (fX gs n row))
   rw [h5];exact h4
  ·rcases Ht hg row hl h1 n with h4 | h4
   ·
    exfalso
    apply hc
    have:∀ (gs':List cB),(∀ g∈gs',g∈gs)→fW gs' (fX gs n row)=fX gs n row:=by
     intro gs' hs
     induction gs' with
     | nil=>rfl
     | cons g gs' ih=>
      rw [fW,pY]
      have:kK (fX gs n row) g=fX gs n row:=by
       unfold kK
       split
       ·rename_i ho;exact Mv (h4 g (hs g (by simp)) ho)
       ·rfl
      rw [this]
      exact ih fun x hx=>hs x (by simp [hx])
    rw [this gs fun _ h=>h]
   ·right
    show n+1+1≤jR (fW gs (fX gs n row))
    omega
theorem DB{m i:Nat}{gs:List cB}(hg:Good m gs)(row:List Bool)(hl:row.length=m)(h:∀ k,on row k=true→Reach gs i k):∀ n k,on (fX gs n row) k=true→Reach gs i k
 | 0,k,hk=>h k hk
 | n+1,k,hk=>NF hg (fun _ h=>h) _ ((m8 gs row n).trans hl) (DB hg row hl h n) k hk
theorem DC{m:Nat}{gs:List cB}(hg:Good m gs)(row:List Bool)(hl:row.length=m)(k:Nat)(h:on row k=true):∀ n,on (fX gs n row) k=true
 | 0=>h
 | n+1=>PT hg _ ((m8 gs row n).trans hl) k (DC hg row hl k h n)
def wO(m i:Nat):List Bool:=(List.replicate m false).set i true
def eT(m:Nat)(gs:List cB)(i:Nat):List Bool:=fX gs m (wO m i)
def dK(m:Nat)(gs:List cB)(i k:Nat):Bool:=on (eT m gs i) k
theorem Ww{m i:Nat}(hi:i<m)(k:Nat):on (wO m i) k=decide (i=k):=by
 unfold wO
 rw [Dz (by simpa using hi)]
 have:on (List.replicate m false) k=false:=by
  unfold on
  rw [cp,ko]
  split<;>rfl
 rw [this,Bool.or_false]
theorem yu(m:Nat)(gs:List cB)(i:Nat):(eT m gs i).length=m:=(m8 _ _ _).trans (by simp [wO])
theorem NG{m i:Nat}{gs:List cB}(hg:Good m gs)(hi:i<m):yt gs (eT m gs i)∧on (eT m gs i) i=true∧∀ k,on (eT m gs i) k=true→Reach gs i k:=by
 have hl:(wO m i).length=m:=by simp [wO]
 have hon:=fun k=>Ww (m:=m) hi k
 have hcnt:1≤jR (wO m i):=by
  have:=Jd (row:=List.replicate m false) (j:=i) (by simpa using hi) (by
   unfold on
   rw [cp,ko]
   split<;>rfl)
  unfold wO
  omega
 refine ⟨?_,DC hg _ hl i (by rw [hon];simp) m,DB hg _ hl (fun k hk=>?_) m⟩
 ·rcases Ht hg _ hl hcnt m with h | h
  ·exact h
  ·have:=RC (fX gs m (wO m i))
   rw [m8,hl] at this
   omega
 ·rw [hon] at hk
  obtain rfl:i=k:=by simpa using hk
  exact .refl
variable [Lp]
theorem gN{row:List Bool}{k:Nat}(h:k<row.length):row[k]? =some (on row k):=by
 unfold on;rw [cp,aA h];rfl
theorem zQ{α:Type}{l:List α}{k:Nat}(h:k<l.length):l.take (k+1)=l.take k++[l[k]]:=by
 rw [pW,aA h];rfl
theorem cast_toNat{n:Int}(h:0≤n):n=((n.toNat:Nat):Int):=by omega
section
variable (a:ah)(hok:eL a=0)
include hok
theorem Oq:Good a.Many.toNat a.Grants:=by
 obtain ⟨h1,h2,h3,h4⟩:=lj hok
 intro g hg
 have:=h4 g hg
 omega
end
def allRows(m:Nat)(gs:List cB):List (List Bool):=(List.range m).map (eT m gs)
section
variable (a:ah)(hok:eL a=0)
include hok
theorem ag0:uj a=some (allRows a.Many.toNat a.Grants):=by
 obtain ⟨h1,h2,h3,h4⟩:=lj hok
 have hg:=Oq a hok
 have inner:∀ (out:List (List Bool))(n:Nat)(row:List Bool)(c:Nat)(y:Int)(left:List Int),left.length≤1000→
   lp (fun v=>ly a out n row y c v.1 v.2) (left,0)=some (left++(a.Grants.filter (fun g=>g.Who==y)).map (·.For),a.Grants.length,false):=by
  intro out n row c y left hll
  have h:=sx (B:=fun v=>ly a out n row y c v.1 v.2) a.Grants.length (fun j=>(left++((a.Grants.take j).filter (fun g=>g.Who==y)).map (·.For),j))
   (x:=(left++(a.Grants.filter (fun g=>g.Who==y)).map (·.For),a.Grants.length,false))
   (fun j hj=>by
    have hfl:((a.Grants.take j).filter (fun g=>g.Who==y)).length≤20:=bU (List.length_filter_le ..) (by simp;omega)
    have hroom:(left++((a.Grants.take j).filter (fun g=>g.Who==y)).map (·.For)).length + [a.Grants[j].For].length≤1000000000:=by
     simp only [cC,fh,vC];omega
    simp only [ly,show (j:Int)<(a.Grants.length:Int) by omega,an,aA hj,ae,fM j (by omega),hroom]
    rw [zQ hj,CS,dc,←lE]
    cases ho:(a.Grants[j].Who==y) with
    | true=>simp [ho]
    | false=>simp [ho])
   (by simp [ly])
  simpa using h
 have middle:∀ (out:List (List Bool))(n:Nat),n<a.Many.toNat→∃ z2 z3,lp (fun v=>jw a out n v.1 v.2) ([(n:Int)],List.replicate a.Many.toNat false)=some (eT a.Many.toNat a.Grants n,z2,z3):=by
  intro out n hn
  have hw:=j0 (B:=fun v=>jw a out n v.1 v.2)
   (fun q=>(a.Many.toNat - jR q.2)*(a.Grants.length+1)+q.1.length)
   (fun q=>q.2.length=a.Many.toNat∧(∀ x∈q.1,0≤x∧x<a.Many∧Reach a.Grants n x.toNat)∧(∀ k,on q.2 k=true→Reach a.Grants n k)∧(on q.2 n=true∨(n:Int)∈q.1)∧
    (∀ g∈a.Grants,on q.2 g.Who.toNat=true→on q.2 g.For.toNat=true∨g.For∈q.1)∧(a.Many.toNat - jR q.2)*(a.Grants.length+1)+q.1.length≤500)
   (fun r=>∃ z2 z3,r=(eT a.Many.toNat a.Grants n,z2,z3))
   (fun ⟨left,row⟩ ⟨hl,hleft,hrow,hself,hcl,hm⟩=>by
    simp only at hl hleft hrow hself hcl hm ⊢
    by_cases hz:0<left.length
    ·
     right
     have hpos:0<(left.length:Int):=by omega
     have hlt:left.length - 1<left.length:=by omega
     have hy:=aA hlt
     generalize hyy:left[left.length - 1]=y at hy
     have hym:y∈left:=aP hy
     obtain ⟨hy1,hy2,hy3⟩:=hleft y hym
     have hsplit:left=left.take (left.length - 1)++[y]:=by
      have:=zQ (l:=left) (k:=left.length - 1) hlt
      rw [hyy,show left.length - 1+1=left.length by omega,List.take_length] at this
      exact this
     have hw1:IntKind.i64.wrap ((left.length:Int) - 1)=(left.length:Int) - 1:=wrap64 (by omega) (by omega)
     have hn1:eI ((left.length:Int) - 1)=some (left.length - 1):=by rw [dP (by omega)];congr 1;omega
     have hgety:row[y.toNat]? =some (on row y.toNat):=gN (by omega)
     have hsub:∀ x∈left.take (left.length - 1),x∈left:=fun x hx=>eC hx
     have hor:∀ x∈left,x=y∨x∈left.take (left.length - 1):=by
      intro x hx
      rw [hsplit] at hx
      rcases bJ.1 hx with hx | hx
      ·exact .inr hx
      ·exact .inl (by simpa using hx)
     have hlen1:(left.take (left.length - 1)).length=left.length - 1:=by simp
     cases ho:on row y.toNat with
     | true=>
      refine ⟨(left.take (left.length - 1),row),?_,⟨hl,fun x hx=>hleft x (hsub x hx),hrow,?_,fun g hg' hw=>?_,?_⟩,?_⟩
      ·simp only [jw,hpos,an,hw1,hn1,ae,hy,show left.length - 1≤left.length by omega,dP hy1,hgety,ho]
      ·rcases hself with h | h
       ·exact .inl h
       ·rcases hor _ h with rfl | h
        ·left;simpa using ho
        ·exact .inr h
      ·rcases hcl g hg' hw with h | h
       ·exact .inl h
       ·rcases hor _ h with h | h
        ·left;simp only;rw [h];exact ho
        ·exact .inr h
      ·simp only [hlen1];omega
      ·simp only [hlen1];omega
     | false=>
      have hbl:(left.take (left.length - 1)).length≤1000:=by
       have:left.length≤500:=bU (Nat.le_add_left _ _) hm
       omega
      have hin:=inner out n row y.toNat y (left.take (left.length - 1)) hbl
      have hfl:((a.Grants.filter (fun g=>g.Who==y)).map (·.For)).length≤a.Grants.length:=by rw [fh];exact List.length_filter_le ..
      have hyr:y.toNat<row.length:=by omega
      have hcs:=Jd hyr ho
      have hcle:=RC (row.set y.toNat true)
      rw [tI,hl] at hcle
      have hmeas:(a.Many.toNat - jR (row.set y.toNat true))*(a.Grants.length+1)+(left.take (left.length - 1)++(a.Grants.filter (fun g=>g.Who==y)).map (·.For)).length<(a.Many.toNat - jR row)*(a.Grants.length+1)+left.length:=by
       rw [cC,hlen1,hcs]
       have e:a.Many.toNat - jR row=(a.Many.toNat - (jR row+1))+1:=by omega
       rw [e,da]
       omega
      refine ⟨(left.take (left.length - 1)++(a.Grants.filter (fun g=>g.Who==y)).map (·.For),row.set y.toNat true),?_,⟨by simpa using hl,fun x hx=>?_,fun k hk=>?_,?_,fun g hg' hw=>?_,?_⟩,hmeas⟩
      ·simp only [jw,hpos,an,hw1,hn1,ae,hy,show left.length - 1≤left.length by omega,dP hy1,hgety,ho,hin,bn,aI]
      ·rcases bJ.1 hx with hx | hx
       ·exact hleft x (hsub x hx)
       ·obtain ⟨g,hg',rfl⟩:=gZ.1 hx
        obtain ⟨hg1,hg2⟩:=tJ.1 hg'
        have hwy:g.Who=y:=by simpa using hg2
        obtain ⟨_,hf1,hf2⟩:=h4 g hg1
        exact ⟨hf1,hf2,.step g hy3 hg1 (by rw [hwy];exact cast_toNat hy1)⟩
      ·simp only at hk
       rw [Dz hyr] at hk
       simp only [jq,cE] at hk
       rcases hk with rfl | hk
       ·exact hy3
       ·exact hrow k hk
      ·simp only
       rw [Dz hyr]
       rcases hself with h | h
       ·left;rw [h];simp
       ·rcases hor _ h with h | h
        ·left;rw [←h];simp
        ·exact .inr (gq _ h)
      ·simp only at hw ⊢
       rw [Dz hyr] at hw ⊢
       simp only [jq,cE] at hw ⊢
       rcases hw with hw | hw
       ·right
        refine jo _ (gZ.2 ⟨g,tJ.2 ⟨hg',?_⟩,rfl⟩)
        obtain ⟨⟨hf1,_⟩,_⟩:=h4 g hg'
        have:g.Who=y:=by omega
        simpa using this
       ·rcases hcl g hg' hw with h | h
        ·exact .inl (.inr h)
        ·rcases hor _ h with h | h
         ·left;left;rw [h]
         ·exact .inr (gq _ h)
      ·exact bU (iE hmeas) hm
    ·left
     have hnil:left=[]:=p7 (by omega)
     subst hnil
     obtain ⟨hc1,hc2,hc3⟩:=NG hg hn
     have heq:row=eT a.Many.toNat a.Grants n:=abQ (hl.trans (yu ..).symm) (fun g hg' hw=>(hcl g hg' hw).resolve_right (by simp)) (hself.resolve_right (by simp)) hrow hc1 hc2 hc3
     exact ⟨(row,[],false),by simp [jw],[],false,by rw [←heq]⟩)
  obtain ⟨r,h5,z2,z3,rfl⟩:=hw ([(n:Int)],List.replicate a.Many.toNat false) ⟨by simp,fun x hx=>by
    obtain rfl:x=(n:Int):=by simpa using hx
    exact ⟨by omega,by omega,by simpa using Reach.refl⟩,fun k hk=>by
    exfalso
    unfold on at hk
    rw [cp,ko] at hk
    (split at hk<;>cases hk),.inr (by simp),fun g _ hw=>by
    exfalso
    simp only at hw
    unfold on at hw
    rw [cp,ko] at hw
    (split at hw<;>cases hw),by
    simp only [vC]
    have h6:(a.Many.toNat - jR (List.replicate a.Many.toNat false))*(a.Grants.length+1)≤6*21:=Nat.mul_le_mul (by omega) (by omega)
    omega⟩
  exact ⟨z2,z3,h5⟩
 have outer:=sx (B:=fun v=>lz a v.1 v.2) a.Many.toNat (fun n=>((List.range n).map (eT a.Many.toNat a.Grants),n)) (x:=(allRows a.Many.toNat a.Grants,a.Many.toNat,false))
   (fun n hn=>by
    obtain ⟨z2,z3,hin⟩:=middle ((List.range n).map (eT a.Many.toNat a.Grants)) n hn
    simp only [lz,show (n:Int)<a.Many by omega,an,dP (show 0≤a.Many by omega),ae,show a.Many.toNat≤1000000000 by omega,hin,fM n (by omega),
     show ((List.range n).map (eT a.Many.toNat a.Grants)).length + [eT a.Many.toNat a.Grants n].length≤1000000000 by simp;omega,qf,dc,cq,mW])
   (by simp only [lz,show ¬((a.Many.toNat:Nat):Int)<a.Many by omega,aI,allRows,p6])
 have outer':lp (fun v=>lz a v.1 v.2) (([]:List (List Bool)),0)=_:=outer
 simp only [uj,outer',ae]
end
theorem Ff{m:Nat}{gs:List cB}{i:Nat}(h:i<m):(allRows m gs)[i]? =some (eT m gs i):=by
 unfold allRows;rw [gh,zu h];rfl
theorem Ot{m:Nat}{gs:List cB}{i k:Nat}(h:k<m):(eT m gs i)[k]? =some (dK m gs i k):=gN (by rw [yu];exact h)
def qH(m:Nat)(gs:List cB)(ps:List br)(who:Nat):Bool:=ps.all fun p=>dK m gs who p.Owner.toNat||p.Names.any fun n=>dK m gs who n.toNat
def cw(a:ah)(l:Label):Level:=⟨(List.range a.Many.toNat).map (qH a.Many.toNat a.Grants l.Read),(List.range a.Many.toNat).map (qH a.Many.toNat a.Grants l.Write)⟩
def PV(m:Int)(ps:List br):Prop:=ps.length≤4∧∀ p∈ps,bN m p.Owner=true∧p.Names.length≤6∧∀ n∈p.Names,bN m n=true
theorem BT{m:Int}{ps:List br}(h:sJ m ps=0):PV m ps:=⟨(BP h).1,fun p hp=>Hp ((BP h).2 p hp)⟩
theorem Hu{β:Type}(l:List β)(p:β→Bool):(!l.any fun x=>!p x)=l.all p:=by
 induction l with
 | nil=>rfl
 | cons x l ih=>simp only [vz,zg,←ih];cases p x<;>simp
section
variable (a:ah)(hok:eL a=0)
include hok
theorem VO(ps:List br)(hp:PV a.Many ps):qF ps a (allRows a.Many.toNat a.Grants)=some ((List.range a.Many.toNat).map (qH a.Many.toNat a.Grants ps)):=by
 obtain ⟨h1,h2,h3,h4⟩:=lj hok
 have hin:∀ (n:Int),bN a.Many n=true→∀ who:Nat,who<a.Many.toNat→lS n (allRows a.Many.toNat a.Grants) (who:Int)=some (dK a.Many.toNat a.Grants who n.toNat):=by
  intro n hn who hw
  obtain ⟨hn1,hn2⟩:=Ao.1 hn
  simp [lS,LD,Ff hw,dP hn1,Ot (gs:=a.Grants) (i:=who) (show n.toNat<a.Many.toNat by omega)]
 have hnot:∀ p∈ps,∀ who:Nat,who<a.Many.toNat→nP p (allRows a.Many.toNat a.Grants) (who:Int)=some (!(dK a.Many.toNat a.Grants who p.Owner.toNat||p.Names.any fun n=>dK a.Many.toNat a.Grants who n.toNat)):=by
  intro p hpp who hw
  obtain ⟨ho,hl,hn⟩:=hp.2 p hpp
  obtain ⟨ho1,ho2⟩:=Ao.1 ho
  have hc:fc p.Names (allRows a.Many.toNat a.Grants) (who:Int)=some (p.Names.any fun n=>dK a.Many.toNat a.Grants who n.toNat):=
   sZ (fun y=>lS y (allRows a.Many.toNat a.Grants) (who:Int)) _ p.Names (by omega) (fun y hy=>hin y (hn y hy) who hw)
  simp only [nP,LD,ae,Ff hw,dP ho1,Ot (gs:=a.Grants) (i:=who) (show p.Owner.toNat<a.Many.toNat by omega),hc]
  cases dK a.Many.toNat a.Grants who p.Owner.toNat<;>simp
 have hl:=sx (B:=fun v=>lA ps a (allRows a.Many.toNat a.Grants) v.1 v.2) a.Many.toNat (fun k=>((List.range k).map (qH a.Many.toNat a.Grants ps),k)) (x:=((List.range a.Many.toNat).map (qH a.Many.toNat a.Grants ps),a.Many.toNat,false))
  (fun k hk=>by
   have hc:fV ps (allRows a.Many.toNat a.Grants) (k:Int)=some (ps.any fun p=>!(dK a.Many.toNat a.Grants k p.Owner.toNat||p.Names.any fun n=>dK a.Many.toNat a.Grants k n.toNat)):=
    sZ (fun y=>nP y (allRows a.Many.toNat a.Grants) (k:Int)) _ ps (by have:=hp.1;omega) (fun y hy=>hnot y hy k hk)
   have hr:((List.range k).map (qH a.Many.toNat a.Grants ps)).length + [qH a.Many.toNat a.Grants ps k].length≤1000000000:=by simp;omega
   simp only [lA,show (k:Int)<a.Many by omega,an,hc,ae,fM k (by omega),Hu]
   rw [qf,dc]
   simp only [cq,mW]
   exact aa hr)
  (by simp only [lA,show ¬((a.Many.toNat:Nat):Int)<a.Many by omega,aI,p6])
 have hl':lp (fun v=>lA ps a (allRows a.Many.toNat a.Grants) v.1 v.2) (([]:List Bool),0)=_:=hl
 simp only [qF,hl',ae]
theorem PW(l:Label)(hf:dC a.Many l=0):jD a l=some (cw a l):=by
 obtain ⟨hr,hw⟩:=BQ hf
 simp only [jD,ag0 a hok,ae,VO a hok _ (BT hr),VO a hok _ (BT hw),cw]
end
def bc(n:Nat)(l:Level):Prop:=l.Readers.length=n∧l.Writers.length=n
def gO(a:ah)(l:Level):Bool:=decide ((l.Readers.length:Int)=a.Many∧(l.Writers.length:Int)=a.Many)
theorem Wx(a:ah)(l:Level):sI a l=some (gO a l):=by
 unfold sI gO
 by_cases h:(l.Readers.length:Int)=a.Many<;>simp [h]
 rw [lH];simp
def DD(n:Nat)(x y:List Bool):Bool:=(List.range n).all fun k=>!on x k||on y k
def o7(n:Nat)(x y:List Bool):List Bool:=(List.range n).map fun k=>on x k&&on y k
def uH(n:Nat)(x y:List Bool):List Bool:=(List.range n).map fun k=>on x k||on y k
theorem Wy(n:Nat)(x y:List Bool):(!(List.range n).any fun k=>on x k&&!on y k)=DD n x y:=by
 unfold DD
 rw [←Hu]
 congr 2
 funext k
 cases on x k<;>cases on y k<;>rfl
section
variable {n:Nat}(hn:n≤1000000)
include hn
theorem RE{x y:List Bool}(hx:x.length=n)(hy:y.length=n):sy x y=some (DD n x y):=by
 have h:=Wn (B:=fun v=>kt x y v) n (fun k=>on x k&&!on y k) id (x:=.inl ()) (y:=.inr (n,false))
  (fun k hk hp=>by
   simp only [kt,id,show (k:Int)<(x.length:Int) by omega,an,gN (show k<x.length by omega),gN (show k<y.length by omega),ae,fM k (by omega)]
   cases hxk:on x k with
   | false=>simp
   | true=>
    have:on y k=true:=by simpa [hxk] using hp
    simp [this])
  (fun k hk hp=>by
   have he:on x k=true∧on y k=false:=by simpa using hp
   simp only [kt,id,show (k:Int)<(x.length:Int) by omega,an,gN (show k<x.length by omega),gN (show k<y.length by omega),ae,he.1,he.2]
   simp)
  (by simp [kt,hx])
 have h':lp (fun v=>kt x y v) 0=_:=h
 simp only [sy,h',ae,←Wy]
 cases (List.range n).any (fun k=>on x k&&!on y k)<;>simp
theorem abR{x y:List Bool}(hx:x.length=n)(hy:y.length=n):vu x y=some (o7 n x y):=by
 have h:=sx (B:=fun v=>mm x y v.1 v.2) n (fun k=>(o7 k x y,k)) (x:=(o7 n x y,n,false))
  (fun k hk=>by
   have r:∀ b:Bool,(o7 k x y).length + [b].length≤1000000000:=fun b=>by simp [o7];omega
   simp only [mm,show (k:Int)<(x.length:Int) by omega,an,gN (show k<x.length by omega),gN (show k<y.length by omega),ae,fM k (by omega),r,
    show o7 (k+1) x y=o7 k x y++[on x k&&on y k] by simp [o7,qf]]
   cases on x k<;>simp)
  (by simp [mm,hx])
 have h':lp (fun v=>mm x y v.1 v.2) (([]:List Bool),0)=_:=h
 simp only [vu,h',ae]
theorem ag1{x y:List Bool}(hx:x.length=n)(hy:y.length=n):xv x y=some (uH n x y):=by
 have h:=sx (B:=fun v=>nO x y v.1 v.2) n (fun k=>(uH k x y,k)) (x:=(uH n x y,n,false))
  (fun k hk=>by
   have r:∀ b:Bool,(uH k x y).length + [b].length≤1000000000:=fun b=>by simp [uH];omega
   simp only [nO,show (k:Int)<(x.length:Int) by omega,an,gN (show k<x.length by omega),gN (show k<y.length by omega),ae,fM k (by omega),r,
    show uH (k+1) x y=uH k x y++[on x k||on y k] by simp [uH,qf]]
   cases on x k<;>simp)
  (by simp [nO,hx])
 have h':lp (fun v=>nO x y v.1 v.2) (([]:List Bool),0)=_:=h
 simp only [xv,h',ae]
end
def jS(n:Nat)(l m:Level):Bool:=DD n m.Readers l.Readers&&DD n l.Writers m.Writers
def cV(n:Nat)(l m:Level):Level:=⟨o7 n l.Readers m.Readers,uH n l.Writers m.Writers⟩
theorem Ev{a:ah}(h:eL a=0):a.Many.toNat≤6∧1≤a.Many.toNat∧((a.Many.toNat:Nat):Int)=a.Many:=by
 obtain ⟨h1,h2,_⟩:=lj h
 omega
section
variable {n:Nat}(hn:n≤1000000){l m:Level}(hl:bc n l)(hm:bc n m)
include hn hl hm
theorem tP:fG l m=some (jS n l m):=by
 unfold fG jS
 rw [RE hn hm.1 hl.1,RE hn hl.2 hm.2,ae]
 cases DD n m.Readers l.Readers<;>simp
theorem um:ew l m=some (cV n l m):=by
 simp only [ew,abR hn hl.1 hm.1,ag1 hn hl.2 hm.2,ae,cV]
end
theorem dU(n:Nat)(l m:Level):bc n (cV n l m):=by simp [bc,cV,o7,uH]
theorem sB(a:ah)(l:Label):bc a.Many.toNat (cw a l):=by simp [bc,cw]
end Go.Proofs.YtkkkkondjclcnaaGreat.A
