/- Who acts for whom, as plain mathematics: what can be reached; roundsR of rows; rows that are closed. -/
import Derived.Test.YtkkkkondjclcnaaGreatHeadF
import Derived.Test.YtkkkkondjclcnaaGreatFE
set_option linter.unusedSectionVars false
set_option linter.unusedVariables false
set_option linter.unusedSimpArgs false
set_option linter.constructorNameAsVariable false
namespace Go.Proofs.YtkkkkondjclcnaaGreat.A
open Go
inductive Reach(gs:List bc)(i:Nat):Nat→Prop where
 | refl:Reach gs i i
 | step {j:Nat} (g:bc) (h:Reach gs i j) (hg:g∈gs) (hw:g.Who=(j:Int)):Reach gs i g.For.toNat
def on(row:List Bool)(k:Nat):Bool:=row.getD k false
def vM(gs:List bc)(row:List Bool):Prop:=∀ g∈gs,on row g.Who.toNat=true→on row g.For.toNat=true
theorem Ah{row:List Bool}{j k:Nat}(hj:j<row.length):on (row.set j true) k=(decide (j=k)||on row k):=by
 unfold on
 rw [List.getD_eq_getElem?_getD,List.getD_eq_getElem?_getD,List.getElem?_set]
 by_cases h:j=k
 ·subst h;simp [hj]
 ·simp [h]
theorem ZL{row:List Bool}{k:Nat}(h:on row k=true):k<row.length:=by
 apply Classical.byContradiction
 intro hn
 unfold on at h
 rw [List.getD_eq_getElem?_getD,List.getElem?_eq_none (by omega)] at h
 cases h
theorem Ai{gs:List bc}{row:List Bool}{i:Nat}(hc:vM gs row)(hi:on row i=true):∀ k,Reach gs i k→on row k=true:=by
 intro k h
 induction h with
 | refl=>exact hi
 | step g h hg hw ih=>exact hc g hg (by rw [hw];simpa using ih)
theorem Vk{gs:List bc}{row row':List Bool}{i:Nat}(hl:row.length=row'.length)(hc:vM gs row)(hi:on row i=true)(hs:∀ k,on row k=true→Reach gs i k)
  (hc':vM gs row') (hi':on row' i=true) (hs':∀ k,on row' k=true→Reach gs i k):row=row':=by
 apply List.ext_getElem hl
 intro k h1 h2
 have he:∀ {r:List Bool}(h:k<r.length),on r k=r[k]:=fun {r} h=>by unfold on;rw [List.getD_eq_getElem?_getD,List.getElem?_eq_getElem h];rfl
 rw [←he h1,←he h2]
 cases hk:on row k with
 | true=>exact (Ai hc' hi' k (hs k hk)).symm
 | false=>
  cases ha:on row' k with
  | false=>rfl
  | true=>
   rw [Ai hc hi k (hs' k ha)] at hk;cases hk
def lu(row:List Bool)(g:bc):List Bool:=if on row g.Who.toNat=true then row.set g.For.toNat true else row
def lx(gs:List bc)(row:List Bool):List Bool:=gs.foldl lu row
def fv(gs:List bc):Nat→List Bool→List Bool
 | 0,row=>row
 | n+1,row=>lx gs (fv gs n row)
theorem uO(row:List Bool)(g:bc):(lu row g).length=row.length:=by unfold lu;split<;>simp
theorem MZ(gs:List bc):∀ row,(lx gs row).length=row.length:=by
 induction gs with
 | nil=>intro row;rfl
 | cons g gs ih=>intro row;rw [lx,List.foldl_cons];exact (ih _).trans (uO row g)
theorem nq(gs:List bc)(row:List Bool):∀ n,(fv gs n row).length=row.length
 | 0=>rfl
 | n+1=>(MZ gs _).trans (nq gs row n)
def Good(m:Nat)(gs:List bc):Prop:=∀ g∈gs,(0≤g.Who∧g.Who<m)∧0≤g.For∧g.For<m
theorem Fv{m:Nat}{row:List Bool}{g:bc}(hl:row.length=m)(hg:0≤g.For∧g.For<m)(k:Nat):on (lu row g) k=(on row k||(on row g.Who.toNat&&decide (g.For.toNat=k))):=by
 unfold lu
 split
 ·rename_i h
  rw [Ah (by omega),h]
  cases on row k<;>simp
 ·rename_i h
  simp [h]
theorem Lu{m:Nat}{gs:List bc}(hg:Good m gs):∀ row,row.length=m→∀ k,on row k=true→on (lx gs row) k=true:=by
 induction gs with
 | nil=>intro row _ k h;exact h
 | cons g gs ih=>
  intro row hl k h
  rw [lx,List.foldl_cons]
  exact ih (fun x hx=>hg x (by simp [hx])) _ ((uO row g).trans hl) k (by rw [Fv hl (hg g (by simp)).2,h];rfl)
theorem Jk{m:Nat}{i:Nat}{gs gs':List bc}(hg:Good m gs)(hsub:∀ g∈gs,g∈gs'):∀ row,row.length=m→(∀ k,on row k=true→Reach gs' i k)→∀ k,on (lx gs row) k=true→Reach gs' i k:=by
 induction gs with
 | nil=>intro row _ h k hk;exact h k hk
 | cons g gs ih=>
  intro row hl h k hk
  rw [lx,List.foldl_cons] at hk
  refine ih (fun x hx=>hg x (by simp [hx])) (fun x hx=>hsub x (by simp [hx])) _ ((uO row g).trans hl) (fun k hk=>?_) k hk
  have hgg:=hg g (by simp)
  rw [Fv hl hgg.2] at hk
  simp only [Bool.or_eq_true,Bool.and_eq_true,decide_eq_true_eq] at hk
  rcases hk with hk | ⟨hk,rfl⟩
  ·exact h k hk
  ·exact .step g (h _ hk) (hsub g (by simp)) (by omega)
def iK(row:List Bool):Nat:=row.countP id
theorem M0(row:List Bool):iK row≤row.length:=List.countP_le_length
theorem ED{row:List Bool}{j:Nat}(hj:j<row.length)(h:on row j=false):iK (row.set j true)=iK row+1:=by
 induction row generalizing j with
 | nil=>simp at hj
 | cons b row ih=>
  cases j with
  | zero=>
   have:b=false:=by simpa [on] using h
   subst this
   simp [iK]
  | succ j=>
   have:=ih (j:=j) (by simpa using hj) (by simpa [on] using h)
   simp only [iK,List.set_cons_succ,List.countP_cons] at this ⊢
   omega
theorem HH{row:List Bool}{j:Nat}(h:on row j=true):row.set j true=row:=by
 apply List.ext_getElem?
 intro k
 rw [List.getElem?_set]
 by_cases hk:j=k
 ·subst hk
  have hl:=ZL h
  unfold on at h
  rw [List.getD_eq_getElem?_getD,List.getElem?_eq_getElem hl] at h
  simp only [if_true,if_pos hl,List.getElem?_eq_getElem hl]
  simpa using h.symm
 ·rw [if_neg hk]
theorem Lv{m:Nat}{row:List Bool}{g:bc}(hl:row.length=m)(hg:0≤g.For∧g.For<m):iK row≤iK (lu row g)∧(on row g.Who.toNat=true→on row g.For.toNat=false→iK row<iK (lu row g)):=by
 unfold lu
 split
 ·cases hf:on row g.For.toNat with
  | true=>rw [HH hf];exact ⟨Nat.le_refl _,fun _ h=>by cases h⟩
  | false=>rw [ED (by omega) hf];exact ⟨by omega,fun _ _=>by omega⟩
 ·rename_i h;exact ⟨Nat.le_refl _,fun h'=>absurd h' h⟩
theorem M1{m:Nat}{gs:List bc}(hg:Good m gs):∀ row,row.length=m→iK row≤iK (lx gs row)∧(iK row=iK (lx gs row)→vM gs row∧lx gs row=row):=by
 induction gs with
 | nil=>intro row _;exact ⟨Nat.le_refl _,fun _=>⟨fun g h=>by simp at h,rfl⟩⟩
 | cons g gs ih=>
  intro row hl
  obtain ⟨h1,h2⟩:=Lv (row:=row) hl (hg g (by simp)).2
  obtain ⟨h3,h4⟩:=ih (fun x hx=>hg x (by simp [hx])) (lu row g) ((uO row g).trans hl)
  have e:lx (g::gs) row=lx gs (lu row g):=rfl
  rw [e]
  refine ⟨by omega,fun hc=>?_⟩
  obtain ⟨h5,h6⟩:=h4 (by omega)
  have hsame:lu row g=row:=by
   unfold lu
   split
   ·rename_i ho
    cases hf:on row g.For.toNat with
    | true=>exact HH hf
    | false=>have:=h2 ho hf;omega
   ·rfl
  rw [hsame] at h5 h6 ⊢
  refine ⟨fun x hx ho=>?_,h6⟩
  rcases List.mem_cons.1 hx with rfl | hx
  ·cases hf:on row x.For.toNat with
   | true=>rfl
   | false=>have:=h2 ho hf;rw [hsame] at this;omega
  ·exact h5 x hx ho
theorem Dz{m:Nat}{gs:List bc}(hg:Good m gs)(row:List Bool)(hl:row.length=m)(h1:1≤iK row):∀ n,vM gs (fv gs n row)∨n+1≤iK (fv gs n row)
 | 0=>.inr h1
 | n+1=>by
  have hlen:=(nq gs row n).trans hl
  obtain ⟨h2,h3⟩:=M1 hg (fv gs n row) hlen
  by_cases hc:iK (fv gs n row)=iK (lx gs (fv gs n row))
  ·obtain ⟨h4,h5⟩:=h3 hc
   left
   show vM gs (lx gs (fv gs n row))
   rw [h5];exact h4
  ·rcases Dz hg row hl h1 n with h4 | h4
   ·
    exfalso
    apply hc
    have:∀ (gs':List bc),(∀ g∈gs',g∈gs)→lx gs' (fv gs n row)=fv gs n row:=by
     intro gs' hs
     induction gs' with
     | nil=>rfl
     | cons g gs' ih=>
      rw [lx,List.foldl_cons]
      have:lu (fv gs n row) g=fv gs n row:=by
       unfold lu
       split
       ·rename_i ho;exact HH (h4 g (hs g (by simp)) ho)
       ·rfl
      rw [this]
      exact ih fun x hx=>hs x (by simp [hx])
    rw [this gs fun _ h=>h]
   ·right
    show n+1+1≤iK (lx gs (fv gs n row))
    omega
theorem Aj{m i:Nat}{gs:List bc}(hg:Good m gs)(row:List Bool)(hl:row.length=m)(h:∀ k,on row k=true→Reach gs i k):∀ n k,on (fv gs n row) k=true→Reach gs i k
 | 0,k,hk=>h k hk
 | n+1,k,hk=>Jk hg (fun _ h=>h) _ ((nq gs row n).trans hl) (Aj hg row hl h n) k hk
theorem Ak{m:Nat}{gs:List bc}(hg:Good m gs)(row:List Bool)(hl:row.length=m)(k:Nat)(h:on row k=true):∀ n,on (fv gs n row) k=true
 | 0=>h
 | n+1=>Lu hg _ ((nq gs row n).trans hl) k (Ak hg row hl k h n)
def yN(m i:Nat):List Bool:=(List.replicate m false).set i true
def eT(m:Nat)(gs:List bc)(i:Nat):List Bool:=fv gs m (yN m i)
def eG(m:Nat)(gs:List bc)(i k:Nat):Bool:=on (eT m gs i) k
theorem Rt{m i:Nat}(hi:i<m)(k:Nat):on (yN m i) k=decide (i=k):=by
 unfold yN
 rw [Ah (by simpa using hi)]
 have:on (List.replicate m false) k=false:=by
  unfold on
  rw [List.getD_eq_getElem?_getD,List.getElem?_replicate]
  split<;>rfl
 rw [this,Bool.or_false]
theorem Al(m:Nat)(gs:List bc)(i:Nat):(eT m gs i).length=m:=(nq _ _ _).trans (by simp [yN])
theorem Jl{m i:Nat}{gs:List bc}(hg:Good m gs)(hi:i<m):vM gs (eT m gs i)∧on (eT m gs i) i=true∧∀ k,on (eT m gs i) k=true→Reach gs i k:=by
 have hl:(yN m i).length=m:=by simp [yN]
 have hon:=fun k=>Rt (m:=m) hi k
 have hcnt:1≤iK (yN m i):=by
  have:=ED (row:=List.replicate m false) (j:=i) (by simpa using hi) (by
   unfold on
   rw [List.getD_eq_getElem?_getD,List.getElem?_replicate]
   split<;>rfl)
  unfold yN
  omega
 refine ⟨?_,Ak hg _ hl i (by rw [hon];simp) m,Aj hg _ hl (fun k hk=>?_) m⟩
 ·rcases Dz hg _ hl hcnt m with h | h
  ·exact h
  ·have:=M0 (fv gs m (yN m i))
   rw [nq,hl] at this
   omega
 ·rw [hon] at hk
  obtain rfl:i=k:=by simpa using hk
  exact .refl
variable [Lp]
theorem qF{row:List Bool}{k:Nat}(h:k<row.length):row[k]? =some (on row k):=by
 unfold on;rw [List.getD_eq_getElem?_getD,List.getElem?_eq_getElem h];rfl
theorem tO{α:Type}{l:List α}{k:Nat}(h:k<l.length):l.take (k+1)=l.take k++[l[k]]:=by
 rw [List.take_add_one,List.getElem?_eq_getElem h];rfl
theorem cast_toNat{n:Int}(h:0≤n):n=((n.toNat:Nat):Int):=by omega
section
variable (a:aa)(hok:eO a=0)
include hok
theorem Ru:Good a.Many.toNat a.Grants:=by
 obtain ⟨h1,h2,h3,h4⟩:=rB hok
 intro g hg
 have:=h4 g hg
 omega
end
def allRows(m:Nat)(gs:List bc):List (List Bool):=(List.range m).map (eT m gs)
section
variable (a:aa)(hok:eO a=0)
include hok
theorem QO:oB a=some (allRows a.Many.toNat a.Grants):=by
 obtain ⟨h1,h2,h3,h4⟩:=rB hok
 have hg:=Ru a hok
 have inner:∀ (out:List (List Bool))(n:Nat)(row:List Bool)(c:Nat)(y:Int)(left:List Int),left.length≤1000→
   lp (fun v=>jR a out n row y c v.1 v.2) (left,0)=some (left++(a.Grants.filter (fun g=>g.Who==y)).map (·.For),a.Grants.length,false):=by
  intro out n row c y left hll
  have h:=vp (B:=fun v=>jR a out n row y c v.1 v.2) a.Grants.length (fun j=>(left++((a.Grants.take j).filter (fun g=>g.Who==y)).map (·.For),j))
   (x:=(left++(a.Grants.filter (fun g=>g.Who==y)).map (·.For),a.Grants.length,false))
   (fun j hj=>by
    have hfl:((a.Grants.take j).filter (fun g=>g.Who==y)).length≤20:=Nat.le_trans (List.length_filter_le ..) (by simp;omega)
    have hroom:(left++((a.Grants.take j).filter (fun g=>g.Who==y)).map (·.For)).length + [a.Grants[j].For].length≤1000000000:=by
     simp only [List.length_append,List.length_map,List.length_singleton];omega
    simp only [jR,show (j:Int)<(a.Grants.length:Int) by omega,if_true,List.getElem?_eq_getElem hj,Option.bind_some,tk j (by omega),hroom]
    rw [tO hj,List.filter_append,List.map_append,←List.append_assoc]
    cases ho:(a.Grants[j].Who==y) with
    | true=>simp [ho]
    | false=>simp [ho])
   (by simp [jR])
  simpa using h
 have middle:∀ (out:List (List Bool))(n:Nat),n<a.Many.toNat→∃ z2 z3,lp (fun v=>im a out n v.1 v.2) ([(n:Int)],List.replicate a.Many.toNat false)=some (eT a.Many.toNat a.Grants n,z2,z3):=by
  intro out n hn
  have hw:=oX (B:=fun v=>im a out n v.1 v.2)
   (fun q=>(a.Many.toNat - iK q.2)*(a.Grants.length+1)+q.1.length)
   (fun q=>q.2.length=a.Many.toNat∧(∀ x∈q.1,0≤x∧x<a.Many∧Reach a.Grants n x.toNat)∧(∀ k,on q.2 k=true→Reach a.Grants n k)∧(on q.2 n=true∨(n:Int)∈q.1)∧
    (∀ g∈a.Grants,on q.2 g.Who.toNat=true→on q.2 g.For.toNat=true∨g.For∈q.1)∧(a.Many.toNat - iK q.2)*(a.Grants.length+1)+q.1.length≤500)
   (fun r=>∃ z2 z3,r=(eT a.Many.toNat a.Grants n,z2,z3))
   (fun ⟨left,row⟩ ⟨hl,hleft,hrow,hself,hcl,hm⟩=>by
    simp only at hl hleft hrow hself hcl hm ⊢
    by_cases hz:0<left.length
    ·
     right
     have hpos:0<(left.length:Int):=by omega
     have hlt:left.length - 1<left.length:=by omega
     have hy:=List.getElem?_eq_getElem hlt
     generalize hyy:left[left.length - 1]=y at hy
     have hym:y∈left:=List.mem_of_getElem? hy
     obtain ⟨hy1,hy2,hy3⟩:=hleft y hym
     have hsplit:left=left.take (left.length - 1)++[y]:=by
      have:=tO (l:=left) (k:=left.length - 1) hlt
      rw [hyy,show left.length - 1+1=left.length by omega,List.take_length] at this
      exact this
     have hw1:IntKind.i64.wrap ((left.length:Int) - 1)=(left.length:Int) - 1:=wrap64 (by omega) (by omega)
     have hn1:dG ((left.length:Int) - 1)=some (left.length - 1):=by rw [eb (by omega)];congr 1;omega
     have hgety:row[y.toNat]? =some (on row y.toNat):=qF (by omega)
     have hsub:∀ x∈left.take (left.length - 1),x∈left:=fun x hx=>List.mem_of_mem_take hx
     have hor:∀ x∈left,x=y∨x∈left.take (left.length - 1):=by
      intro x hx
      rw [hsplit] at hx
      rcases List.mem_append.1 hx with hx | hx
      ·exact .inr hx
      ·exact .inl (by simpa using hx)
     have hlen1:(left.take (left.length - 1)).length=left.length - 1:=by simp
     cases ho:on row y.toNat with
     | true=>
      refine ⟨(left.take (left.length - 1),row),?_,⟨hl,fun x hx=>hleft x (hsub x hx),hrow,?_,fun g hg' hw=>?_,?_⟩,?_⟩
      ·simp only [im,hpos,if_true,hw1,hn1,Option.bind_some,hy,show left.length - 1≤left.length by omega,eb hy1,hgety,ho]
      ·rcases hself with h | h
       ·exact .inl h
       ·rcases hor _ h with rfl | h
        ·left;simpa using ho
        ·exact .inr h
      ·rcases hcl g hg' hw with h | h
       ·exact .inl h
       ·rcases hor _ h with h | h
        ·left;simp only;rw [h];exact ho
        ·exact .inr h
      ·simp only [hlen1];omega
      ·simp only [hlen1];omega
     | false=>
      have hbl:(left.take (left.length - 1)).length≤1000:=by
       have:left.length≤500:=Nat.le_trans (Nat.le_add_left _ _) hm
       omega
      have hin:=inner out n row y.toNat y (left.take (left.length - 1)) hbl
      have hfl:((a.Grants.filter (fun g=>g.Who==y)).map (·.For)).length≤a.Grants.length:=by rw [List.length_map];exact List.length_filter_le ..
      have hyr:y.toNat<row.length:=by omega
      have hcs:=ED hyr ho
      have hcle:=M0 (row.set y.toNat true)
      rw [List.length_set,hl] at hcle
      have hmeas:(a.Many.toNat - iK (row.set y.toNat true))*(a.Grants.length+1)+(left.take (left.length - 1)++(a.Grants.filter (fun g=>g.Who==y)).map (·.For)).length<(a.Many.toNat - iK row)*(a.Grants.length+1)+left.length:=by
       rw [List.length_append,hlen1,hcs]
       have e:a.Many.toNat - iK row=(a.Many.toNat - (iK row+1))+1:=by omega
       rw [e,Nat.add_mul]
       omega
      refine ⟨(left.take (left.length - 1)++(a.Grants.filter (fun g=>g.Who==y)).map (·.For),row.set y.toNat true),?_,⟨by simpa using hl,fun x hx=>?_,fun k hk=>?_,?_,fun g hg' hw=>?_,?_⟩,hmeas⟩
      ·simp only [im,hpos,if_true,hw1,hn1,Option.bind_some,hy,show left.length - 1≤left.length by omega,eb hy1,hgety,ho,hin,Bool.false_eq_true,if_false]
      ·rcases List.mem_append.1 hx with hx | hx
       ·exact hleft x (hsub x hx)
       ·obtain ⟨g,hg',rfl⟩:=List.mem_map.1 hx
        obtain ⟨hg1,hg2⟩:=List.mem_filter.1 hg'
        have hwy:g.Who=y:=by simpa using hg2
        obtain ⟨_,hf1,hf2⟩:=h4 g hg1
        exact ⟨hf1,hf2,.step g hy3 hg1 (by rw [hwy];exact cast_toNat hy1)⟩
      ·simp only at hk
       rw [Ah hyr] at hk
       simp only [Bool.or_eq_true,decide_eq_true_eq] at hk
       rcases hk with rfl | hk
       ·exact hy3
       ·exact hrow k hk
      ·simp only
       rw [Ah hyr]
       rcases hself with h | h
       ·left;rw [h];simp
       ·rcases hor _ h with h | h
        ·left;rw [←h];simp
        ·exact .inr (List.mem_append_left _ h)
      ·simp only at hw ⊢
       rw [Ah hyr] at hw ⊢
       simp only [Bool.or_eq_true,decide_eq_true_eq] at hw ⊢
       rcases hw with hw | hw
       ·right
        refine List.mem_append_right _ (List.mem_map.2 ⟨g,List.mem_filter.2 ⟨hg',?_⟩,rfl⟩)
        obtain ⟨⟨hf1,_⟩,_⟩:=h4 g hg'
        have:g.Who=y:=by omega
        simpa using this
       ·rcases hcl g hg' hw with h | h
        ·exact .inl (.inr h)
        ·rcases hor _ h with h | h
         ·left;left;rw [h]
         ·exact .inr (List.mem_append_left _ h)
      ·exact Nat.le_trans (Nat.le_of_lt hmeas) hm
    ·left
     have hnil:left=[]:=List.eq_nil_of_length_eq_zero (by omega)
     subst hnil
     obtain ⟨hc1,hc2,hc3⟩:=Jl hg hn
     have heq:row=eT a.Many.toNat a.Grants n:=Vk (hl.trans (Al ..).symm) (fun g hg' hw=>(hcl g hg' hw).resolve_right (by simp)) (hself.resolve_right (by simp)) hrow hc1 hc2 hc3
     exact ⟨(row,[],false),by simp [im],[],false,by rw [←heq]⟩)
  obtain ⟨r,h5,z2,z3,rfl⟩:=hw ([(n:Int)],List.replicate a.Many.toNat false) ⟨by simp,fun x hx=>by
    obtain rfl:x=(n:Int):=by simpa using hx
    exact ⟨by omega,by omega,by simpa using Reach.refl⟩,fun k hk=>by
    exfalso
    unfold on at hk
    rw [List.getD_eq_getElem?_getD,List.getElem?_replicate] at hk
    (split at hk<;>cases hk),.inr (by simp),fun g _ hw=>by
    exfalso
    simp only at hw
    unfold on at hw
    rw [List.getD_eq_getElem?_getD,List.getElem?_replicate] at hw
    (split at hw<;>cases hw),by
    simp only [List.length_singleton]
    have h6:(a.Many.toNat - iK (List.replicate a.Many.toNat false))*(a.Grants.length+1)≤6*21:=Nat.mul_le_mul (by omega) (by omega)
    omega⟩
  exact ⟨z2,z3,h5⟩
 have outer:=vp (B:=fun v=>jS a v.1 v.2) a.Many.toNat (fun n=>((List.range n).map (eT a.Many.toNat a.Grants),n)) (x:=(allRows a.Many.toNat a.Grants,a.Many.toNat,false))
   (fun n hn=>by
    obtain ⟨z2,z3,hin⟩:=middle ((List.range n).map (eT a.Many.toNat a.Grants)) n hn
    simp only [jS,show (n:Int)<a.Many by omega,if_true,eb (show 0≤a.Many by omega),Option.bind_some,show a.Many.toNat≤1000000000 by omega,hin,tk n (by omega),
     show ((List.range n).map (eT a.Many.toNat a.Grants)).length + [eT a.Many.toNat a.Grants n].length≤1000000000 by simp;omega,List.range_succ,List.map_append,List.map_cons,List.map_nil])
   (by simp only [jS,show ¬((a.Many.toNat:Nat):Int)<a.Many by omega,if_false,allRows,decide_false])
 have outer':lp (fun v=>jS a v.1 v.2) (([]:List (List Bool)),0)=_:=outer
 simp only [oB,outer',Option.bind_some]
end
theorem xt{m:Nat}{gs:List bc}{i:Nat}(h:i<m):(allRows m gs)[i]? =some (eT m gs i):=by
 unfold allRows;rw [List.getElem?_map,List.getElem?_range h];rfl
theorem EE{m:Nat}{gs:List bc}{i k:Nat}(h:k<m):(eT m gs i)[k]? =some (eG m gs i k):=qF (by rw [Al];exact h)
def Cj(m:Nat)(gs:List bc)(ps:List aD)(who:Nat):Bool:=ps.all fun p=>eG m gs who p.Owner.toNat||p.Names.any fun n=>eG m gs who n.toNat
def fZ(a:aa)(l:Label):Level:=⟨(List.range a.Many.toNat).map (Cj a.Many.toNat a.Grants l.Read),(List.range a.Many.toNat).map (Cj a.Many.toNat a.Grants l.Write)⟩
def QP(m:Int)(ps:List aD):Prop:=ps.length≤4∧∀ p∈ps,ct m p.Owner=true∧p.Names.length≤6∧∀ n∈p.Names,ct m n=true
theorem HI{m:Int}{ps:List aD}(h:qX m ps=0):QP m ps:=⟨(sL h).1,fun p hp=>yL ((sL h).2 p hp)⟩
theorem HJ{β:Type}(l:List β)(p:β→Bool):(!l.any fun x=>!p x)=l.all p:=by
 induction l with
 | nil=>rfl
 | cons x l ih=>simp only [List.any_cons,List.all_cons,←ih];cases p x<;>simp
section
variable (a:aa)(hok:eO a=0)
include hok
theorem QQ(ps:List aD)(hp:QP a.Many ps):oD ps a (allRows a.Many.toNat a.Grants)=some ((List.range a.Many.toNat).map (Cj a.Many.toNat a.Grants ps)):=by
 obtain ⟨h1,h2,h3,h4⟩:=rB hok
 have hin:∀ (n:Int),ct a.Many n=true→∀ who:Nat,who<a.Many.toNat→km n (allRows a.Many.toNat a.Grants) (who:Int)=some (eG a.Many.toNat a.Grants who n.toNat):=by
  intro n hn who hw
  obtain ⟨hn1,hn2⟩:=qE.1 hn
  simp [km,Hi,xt hw,eb hn1,EE (gs:=a.Grants) (i:=who) (show n.toNat<a.Many.toNat by omega)]
 have hnot:∀ p∈ps,∀ who:Nat,who<a.Many.toNat→ml p (allRows a.Many.toNat a.Grants) (who:Int)=some (!(eG a.Many.toNat a.Grants who p.Owner.toNat||p.Names.any fun n=>eG a.Many.toNat a.Grants who n.toNat)):=by
  intro p hpp who hw
  obtain ⟨ho,hl,hn⟩:=hp.2 p hpp
  obtain ⟨ho1,ho2⟩:=qE.1 ho
  have hc:dY p.Names (allRows a.Many.toNat a.Grants) (who:Int)=some (p.Names.any fun n=>eG a.Many.toNat a.Grants who n.toNat):=
   rk (fun y=>km y (allRows a.Many.toNat a.Grants) (who:Int)) _ p.Names (by omega) (fun y hy=>hin y (hn y hy) who hw)
  simp only [ml,Hi,Option.bind_some,xt hw,eb ho1,EE (gs:=a.Grants) (i:=who) (show p.Owner.toNat<a.Many.toNat by omega),hc]
  cases eG a.Many.toNat a.Grants who p.Owner.toNat<;>simp
 have hl:=vp (B:=fun v=>jT ps a (allRows a.Many.toNat a.Grants) v.1 v.2) a.Many.toNat (fun k=>((List.range k).map (Cj a.Many.toNat a.Grants ps),k)) (x:=((List.range a.Many.toNat).map (Cj a.Many.toNat a.Grants ps),a.Many.toNat,false))
  (fun k hk=>by
   have hc:eE ps (allRows a.Many.toNat a.Grants) (k:Int)=some (ps.any fun p=>!(eG a.Many.toNat a.Grants k p.Owner.toNat||p.Names.any fun n=>eG a.Many.toNat a.Grants k n.toNat)):=
    rk (fun y=>ml y (allRows a.Many.toNat a.Grants) (k:Int)) _ ps (by have:=hp.1;omega) (fun y hy=>hnot y hy k hk)
   have hr:((List.range k).map (Cj a.Many.toNat a.Grants ps)).length + [Cj a.Many.toNat a.Grants ps k].length≤1000000000:=by simp;omega
   simp only [jT,show (k:Int)<a.Many by omega,if_true,hc,Option.bind_some,tk k (by omega),HJ]
   rw [List.range_succ,List.map_append]
   simp only [List.map_cons,List.map_nil]
   exact if_pos hr)
  (by simp only [jT,show ¬((a.Many.toNat:Nat):Int)<a.Many by omega,if_false,decide_false])
 have hl':lp (fun v=>jT ps a (allRows a.Many.toNat a.Grants) v.1 v.2) (([]:List Bool),0)=_:=hl
 simp only [oD,hl',Option.bind_some]
theorem Lw(l:Label)(hf:fB a.Many l=0):jD a l=some (fZ a l):=by
 obtain ⟨hr,hw⟩:=sM hf
 simp only [jD,QO a hok,Option.bind_some,QQ a hok _ (HI hr),QQ a hok _ (HI hw),fZ]
end
def bz(n:Nat)(l:Level):Prop:=l.Readers.length=n∧l.Writers.length=n
def xX(a:aa)(l:Level):Bool:=decide ((l.Readers.length:Int)=a.Many∧(l.Writers.length:Int)=a.Many)
def DA(a:aa)(ls:List Level):Int:=if eO a≠0 then eO a else if ls.any (fun l=>!xX a l) then 1 else 0
theorem Rv(a:aa)(l:Level):qU a l=some (xX a l):=by
 unfold qU xX
 by_cases h:(l.Readers.length:Int)=a.Many<;>simp [h]
 rw [Bool.eq_iff_iff];simp
theorem Rw(a:aa)(ls:List Level)(hl:ls.length≤1000):qV a ls=some (DA a ls):=by
 unfold qV DA
 rw [J2,Option.bind_some]
 have hc:er ls a=some (ls.any fun l=>!xX a l):=rk (fun y=>nP y a) _ ls (by omega) (fun y _=>by simp [nP,Rv])
 by_cases h:eO a=0
 ·simp only [h,hc,Option.bind_some]
  cases ls.any (fun l=>!xX a l)<;>simp
 ·simp [h]
def sO(n:Nat)(x y:List Bool):Bool:=(List.range n).all fun k=>!on x k||on y k
def vN(n:Nat)(x y:List Bool):List Bool:=(List.range n).map fun k=>on x k&&on y k
def Am(n:Nat)(x y:List Bool):List Bool:=(List.range n).map fun k=>on x k||on y k
theorem Rx(n:Nat)(x y:List Bool):(!(List.range n).any fun k=>on x k&&!on y k)=sO n x y:=by
 unfold sO
 rw [←HJ]
 congr 2
 funext k
 cases on x k<;>cases on y k<;>rfl
section
variable {n:Nat}(hn:n≤1000000)
include hn
theorem DB{x y:List Bool}(hx:x.length=n)(hy:y.length=n):lM x y=some (sO n x y):=by
 have h:=Rj (B:=fun v=>jg x y v) n (fun k=>on x k&&!on y k) id (x:=.inl ()) (y:=.inr (n,false))
  (fun k hk hp=>by
   simp only [jg,id,show (k:Int)<(x.length:Int) by omega,if_true,qF (show k<x.length by omega),qF (show k<y.length by omega),Option.bind_some,tk k (by omega)]
   cases hxk:on x k with
   | false=>simp
   | true=>
    have:on y k=true:=by simpa [hxk] using hp
    simp [this])
  (fun k hk hp=>by
   have he:on x k=true∧on y k=false:=by simpa using hp
   simp only [jg,id,show (k:Int)<(x.length:Int) by omega,if_true,qF (show k<x.length by omega),qF (show k<y.length by omega),Option.bind_some,he.1,he.2]
   simp)
  (by simp [jg,hx])
 have h':lp (fun v=>jg x y v) 0=_:=h
 simp only [lM,h',Option.bind_some,←Rx]
 cases (List.range n).any (fun k=>on x k&&!on y k)<;>simp
theorem Vl{x y:List Bool}(hx:x.length=n)(hy:y.length=n):tn x y=some (vN n x y):=by
 have h:=vp (B:=fun v=>kT x y v.1 v.2) n (fun k=>(vN k x y,k)) (x:=(vN n x y,n,false))
  (fun k hk=>by
   have r:∀ b:Bool,(vN k x y).length + [b].length≤1000000000:=fun b=>by simp [vN];omega
   simp only [kT,show (k:Int)<(x.length:Int) by omega,if_true,qF (show k<x.length by omega),qF (show k<y.length by omega),Option.bind_some,tk k (by omega),r,
    show vN (k+1) x y=vN k x y++[on x k&&on y k] by simp [vN,List.range_succ]]
   cases on x k<;>simp)
  (by simp [kT,hx])
 have h':lp (fun v=>kT x y v.1 v.2) (([]:List Bool),0)=_:=h
 simp only [tn,h',Option.bind_some]
theorem ZM{x y:List Bool}(hx:x.length=n)(hy:y.length=n):uN x y=some (Am n x y):=by
 have h:=vp (B:=fun v=>mj x y v.1 v.2) n (fun k=>(Am k x y,k)) (x:=(Am n x y,n,false))
  (fun k hk=>by
   have r:∀ b:Bool,(Am k x y).length + [b].length≤1000000000:=fun b=>by simp [Am];omega
   simp only [mj,show (k:Int)<(x.length:Int) by omega,if_true,qF (show k<x.length by omega),qF (show k<y.length by omega),Option.bind_some,tk k (by omega),r,
    show Am (k+1) x y=Am k x y++[on x k||on y k] by simp [Am,List.range_succ]]
   cases on x k<;>simp)
  (by simp [mj,hx])
 have h':lp (fun v=>mj x y v.1 v.2) (([]:List Bool),0)=_:=h
 simp only [uN,h',Option.bind_some]
end
def ly(n:Nat)(l m:Level):Bool:=sO n m.Readers l.Readers&&sO n l.Writers m.Writers
def cg(n:Nat)(l m:Level):Level:=⟨vN n l.Readers m.Readers,Am n l.Writers m.Writers⟩
theorem sP{a:aa}(h:eO a=0):a.Many.toNat≤6∧1≤a.Many.toNat∧((a.Many.toNat:Nat):Int)=a.Many:=by
 obtain ⟨h1,h2,_⟩:=rB h
 omega
section
variable {n:Nat}(hn:n≤1000000){l m:Level}(hl:bz n l)(hm:bz n m)
include hn hl hm
theorem sQ:df l m=some (ly n l m):=by
 unfold df ly
 rw [DB hn hm.1 hl.1,DB hn hl.2 hm.2,Option.bind_some]
 cases sO n m.Readers l.Readers<;>simp
theorem tP:cE l m=some (cg n l m):=by
 simp only [cE,Vl hn hl.1 hm.1,ZM hn hl.2 hm.2,Option.bind_some,cg]
end
theorem dC(n:Nat)(l m:Level):bz n (cg n l m):=by simp [bz,cg,vN,Am]
theorem tq(a:aa)(l:Label):bz a.Many.toNat (fZ a l):=by simp [bz,fZ]
end Go.Proofs.YtkkkkondjclcnaaGreat.A
