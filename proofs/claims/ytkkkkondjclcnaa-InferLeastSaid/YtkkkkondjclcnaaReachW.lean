/- Who acts for whom, as plain mathematics: what can be reached; roundsR of rows; rows that are closed. -/
import Derived.Test.YtkkkkondjclcnaaHeadF
set_option linter.unusedSectionVars false
set_option linter.unusedVariables false
set_option linter.unusedSimpArgs false
set_option linter.constructorNameAsVariable false
namespace Go.Proofs.Ytkkkkondjclcnaa.A
open Go
inductive Reach(gs:List bu)(i:Nat):Nat→Prop where
 | refl:Reach gs i i
 | step {j:Nat} (g:bu) (h:Reach gs i j) (hg:g∈gs) (hw:g.Who=(j:Int)):Reach gs i g.For.toNat
def on(row:List Bool)(k:Nat):Bool:=row.getD k false
def rf(gs:List bu)(row:List Bool):Prop:=∀ g∈gs,on row g.Who.toNat=true→on row g.For.toNat=true
theorem vj{row:List Bool}{j k:Nat}(hj:j<row.length):on (row.set j true) k=(decide (j=k)||on row k):=by
 unfold on
 rw [List.getD_eq_getElem?_getD,List.getD_eq_getElem?_getD,List.getElem?_set]
 by_cases h:j=k
 ·subst h;simp [hj]
 ·simp [h]
theorem QK{row:List Bool}{k:Nat}(h:on row k=true):k<row.length:=by
 apply Classical.byContradiction
 intro hn
 unfold on at h
 rw [List.getD_eq_getElem?_getD,List.getElem?_eq_none (by omega)] at h
 cases h
theorem vk{gs:List bu}{row:List Bool}{i:Nat}(hc:rf gs row)(hi:on row i=true):∀ k,Reach gs i k→on row k=true:=by
 intro k h
 induction h with
 | refl=>exact hi
 | step g h hg hw ih=>exact hc g hg (by rw [hw];simpa using ih)
theorem My{gs:List bu}{row row':List Bool}{i:Nat}(hl:row.length=row'.length)(hc:rf gs row)(hi:on row i=true)(hs:∀ k,on row k=true→Reach gs i k)
  (hc':rf gs row') (hi':on row' i=true) (hs':∀ k,on row' k=true→Reach gs i k):row=row':=by
 apply List.ext_getElem hl
 intro k h1 h2
 have he:∀ {r:List Bool}(h:k<r.length),on r k=r[k]:=fun {r} h=>by unfold on;rw [List.getD_eq_getElem?_getD,List.getElem?_eq_getElem h];rfl
 rw [←he h1,←he h2]
 cases hk:on row k with
 | true=>exact (vk hc' hi' k (hs k hk)).symm
 | false=>
  cases ha:on row' k with
  | false=>rfl
  | true=>
   rw [vk hc hi k (hs' k ha)] at hk;cases hk
def iO(row:List Bool)(g:bu):List Bool:=if on row g.Who.toNat=true then row.set g.For.toNat true else row
def iP(gs:List bu)(row:List Bool):List Bool:=gs.foldl iO row
def ed(gs:List bu):Nat→List Bool→List Bool
 | 0,row=>row
 | n+1,row=>iP gs (ed gs n row)
theorem qt(row:List Bool)(g:bu):(iO row g).length=row.length:=by unfold iO;split<;>simp
theorem Gv(gs:List bu):∀ row,(iP gs row).length=row.length:=by
 induction gs with
 | nil=>intro row;rfl
 | cons g gs ih=>intro row;rw [iP,List.foldl_cons];exact (ih _).trans (qt row g)
theorem jZ(gs:List bu)(row:List Bool):∀ n,(ed gs n row).length=row.length
 | 0=>rfl
 | n+1=>(Gv gs _).trans (jZ gs row n)
def Good(m:Nat)(gs:List bu):Prop:=∀ g∈gs,(0≤g.Who∧g.Who<m)∧0≤g.For∧g.For<m
theorem A1{m:Nat}{row:List Bool}{g:bu}(hl:row.length=m)(hg:0≤g.For∧g.For<m)(k:Nat):on (iO row g) k=(on row k||(on row g.Who.toNat&&decide (g.For.toNat=k))):=by
 unfold iO
 split
 ·rename_i h
  rw [vj (by omega),h]
  cases on row k<;>simp
 ·rename_i h
  simp [h]
theorem FI{m:Nat}{gs:List bu}(hg:Good m gs):∀ row,row.length=m→∀ k,on row k=true→on (iP gs row) k=true:=by
 induction gs with
 | nil=>intro row _ k h;exact h
 | cons g gs ih=>
  intro row hl k h
  rw [iP,List.foldl_cons]
  exact ih (fun x hx=>hg x (by simp [hx])) _ ((qt row g).trans hl) k (by rw [A1 hl (hg g (by simp)).2,h];rfl)
theorem DY{m:Nat}{i:Nat}{gs gs':List bu}(hg:Good m gs)(hsub:∀ g∈gs,g∈gs'):∀ row,row.length=m→(∀ k,on row k=true→Reach gs' i k)→∀ k,on (iP gs row) k=true→Reach gs' i k:=by
 induction gs with
 | nil=>intro row _ h k hk;exact h k hk
 | cons g gs ih=>
  intro row hl h k hk
  rw [iP,List.foldl_cons] at hk
  refine ih (fun x hx=>hg x (by simp [hx])) (fun x hx=>hsub x (by simp [hx])) _ ((qt row g).trans hl) (fun k hk=>?_) k hk
  have hgg:=hg g (by simp)
  rw [A1 hl hgg.2] at hk
  simp only [Bool.or_eq_true,Bool.and_eq_true,decide_eq_true_eq] at hk
  rcases hk with hk | ⟨hk,rfl⟩
  ·exact h k hk
  ·exact .step g (h _ hk) (hsub g (by simp)) (by omega)
def ft(row:List Bool):Nat:=row.countP id
theorem Gw(row:List Bool):ft row≤row.length:=List.countP_le_length
theorem As{row:List Bool}{j:Nat}(hj:j<row.length)(h:on row j=false):ft (row.set j true)=ft row+1:=by
 induction row generalizing j with
 | nil=>simp at hj
 | cons b row ih=>
  cases j with
  | zero=>
   have:b=false:=by simpa [on] using h
   subst this
   simp [ft]
  | succ j=>
   have:=ih (j:=j) (by simpa using hj) (by simpa [on] using h)
   simp only [ft,List.set_cons_succ,List.countP_cons] at this ⊢
   omega
theorem CS{row:List Bool}{j:Nat}(h:on row j=true):row.set j true=row:=by
 apply List.ext_getElem?
 intro k
 rw [List.getElem?_set]
 by_cases hk:j=k
 ·subst hk
  have hl:=QK h
  unfold on at h
  rw [List.getD_eq_getElem?_getD,List.getElem?_eq_getElem hl] at h
  simp only [if_true,if_pos hl,List.getElem?_eq_getElem hl]
  simpa using h.symm
 ·rw [if_neg hk]
theorem FJ{m:Nat}{row:List Bool}{g:bu}(hl:row.length=m)(hg:0≤g.For∧g.For<m):ft row≤ft (iO row g)∧(on row g.Who.toNat=true→on row g.For.toNat=false→ft row<ft (iO row g)):=by
 unfold iO
 split
 ·cases hf:on row g.For.toNat with
  | true=>rw [CS hf];exact ⟨Nat.le_refl _,fun _ h=>by cases h⟩
  | false=>rw [As (by omega) hf];exact ⟨by omega,fun _ _=>by omega⟩
 ·rename_i h;exact ⟨Nat.le_refl _,fun h'=>absurd h' h⟩
theorem Gx{m:Nat}{gs:List bu}(hg:Good m gs):∀ row,row.length=m→ft row≤ft (iP gs row)∧(ft row=ft (iP gs row)→rf gs row∧iP gs row=row):=by
 induction gs with
 | nil=>intro row _;exact ⟨Nat.le_refl _,fun _=>⟨fun g h=>by simp at h,rfl⟩⟩
 | cons g gs ih=>
  intro row hl
  obtain ⟨h1,h2⟩:=FJ (row:=row) hl (hg g (by simp)).2
  obtain ⟨h3,h4⟩:=ih (fun x hx=>hg x (by simp [hx])) (iO row g) ((qt row g).trans hl)
  have e:iP (g::gs) row=iP gs (iO row g):=rfl
  rw [e]
  refine ⟨by omega,fun hc=>?_⟩
  obtain ⟨h5,h6⟩:=h4 (by omega)
  have hsame:iO row g=row:=by
   unfold iO
   split
   ·rename_i ho
    cases hf:on row g.For.toNat with
    | true=>exact CS hf
    | false=>have:=h2 ho hf;omega
   ·rfl
  rw [hsame] at h5 h6 ⊢
  refine ⟨fun x hx ho=>?_,h6⟩
  rcases List.mem_cons.1 hx with rfl | hx
  ·cases hf:on row x.For.toNat with
   | true=>rfl
   | false=>have:=h2 ho hf;rw [hsame] at this;omega
  ·exact h5 x hx ho
theorem zc{m:Nat}{gs:List bu}(hg:Good m gs)(row:List Bool)(hl:row.length=m)(h1:1≤ft row):∀ n,rf gs (ed gs n row)∨n+1≤ft (ed gs n row)
 | 0=>.inr h1
 | n+1=>by
  have hlen:=(jZ gs row n).trans hl
  obtain ⟨h2,h3⟩:=Gx hg (ed gs n row) hlen
  by_cases hc:ft (ed gs n row)=ft (iP gs (ed gs n row))
  ·obtain ⟨h4,h5⟩:=h3 hc
   left
   show rf gs (iP gs (ed gs n row))
   rw [h5];exact h4
  ·rcases zc hg row hl h1 n with h4 | h4
   ·
    exfalso
    apply hc
    have:∀ (gs':List bu),(∀ g∈gs',g∈gs)→iP gs' (ed gs n row)=ed gs n row:=by
     intro gs' hs
     induction gs' with
     | nil=>rfl
     | cons g gs' ih=>
      rw [iP,List.foldl_cons]
      have:iO (ed gs n row) g=ed gs n row:=by
       unfold iO
       split
       ·rename_i ho;exact CS (h4 g (hs g (by simp)) ho)
       ·rfl
      rw [this]
      exact ih fun x hx=>hs x (by simp [hx])
    rw [this gs fun _ h=>h]
   ·right
    show n+1+1≤ft (iP gs (ed gs n row))
    omega
theorem vm{m i:Nat}{gs:List bu}(hg:Good m gs)(row:List Bool)(hl:row.length=m)(h:∀ k,on row k=true→Reach gs i k):∀ n k,on (ed gs n row) k=true→Reach gs i k
 | 0,k,hk=>h k hk
 | n+1,k,hk=>DY hg (fun _ h=>h) _ ((jZ gs row n).trans hl) (vm hg row hl h n) k hk
theorem vn{m:Nat}{gs:List bu}(hg:Good m gs)(row:List Bool)(hl:row.length=m)(k:Nat)(h:on row k=true):∀ n,on (ed gs n row) k=true
 | 0=>h
 | n+1=>FI hg _ ((jZ gs row n).trans hl) k (vn hg row hl k h n)
def ue(m i:Nat):List Bool:=(List.replicate m false).set i true
def dY(m:Nat)(gs:List bu)(i:Nat):List Bool:=ed gs m (ue m i)
def jv(m:Nat)(gs:List bu)(i k:Nat):Bool:=on (dY m gs i) k
theorem Ke{m i:Nat}(hi:i<m)(k:Nat):on (ue m i) k=decide (i=k):=by
 unfold ue
 rw [vj (by simpa using hi)]
 have:on (List.replicate m false) k=false:=by
  unfold on
  rw [List.getD_eq_getElem?_getD,List.getElem?_replicate]
  split<;>rfl
 rw [this,Bool.or_false]
theorem vo(m:Nat)(gs:List bu)(i:Nat):(dY m gs i).length=m:=(jZ _ _ _).trans (by simp [ue])
theorem DZ{m i:Nat}{gs:List bu}(hg:Good m gs)(hi:i<m):rf gs (dY m gs i)∧on (dY m gs i) i=true∧∀ k,on (dY m gs i) k=true→Reach gs i k:=by
 have hl:(ue m i).length=m:=by simp [ue]
 have hon:=fun k=>Ke (m:=m) hi k
 have hcnt:1≤ft (ue m i):=by
  have:=As (row:=List.replicate m false) (j:=i) (by simpa using hi) (by
   unfold on
   rw [List.getD_eq_getElem?_getD,List.getElem?_replicate]
   split<;>rfl)
  unfold ue
  omega
 refine ⟨?_,vn hg _ hl i (by rw [hon];simp) m,vm hg _ hl (fun k hk=>?_) m⟩
 ·rcases zc hg _ hl hcnt m with h | h
  ·exact h
  ·have:=Gw (ed gs m (ue m i))
   rw [jZ,hl] at this
   omega
 ·rw [hon] at hk
  obtain rfl:i=k:=by simpa using hk
  exact .refl
end Go.Proofs.Ytkkkkondjclcnaa.A
