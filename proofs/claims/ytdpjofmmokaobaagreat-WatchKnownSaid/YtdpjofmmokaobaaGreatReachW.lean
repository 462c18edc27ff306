/- Who acts for whom, as plain mathematics: what can be reached; roundsR of rows; rows that are closed. -/
import Derived.Test.YtdpjofmmokaobaaGreatHeadF
set_option linter.unusedSectionVars false
set_option linter.unusedVariables false
set_option linter.unusedSimpArgs false
set_option linter.constructorNameAsVariable false
namespace Go.Proofs.YtdpjofmmokaobaaGreat.A
open Go
inductive Reach(gs:List b9)(i:Nat):Nat→Prop where
 | refl:Reach gs i i
 | step {j:Nat} (g:b9) (h:Reach gs i j) (hg:g∈gs) (hw:g.Who=(j:Int)):Reach gs i g.For.toNat
def on(row:List Bool)(k:Nat):Bool:=row.getD k false
def ua(gs:List b9)(row:List Bool):Prop:=∀ g∈gs,on row g.Who.toNat=true→on row g.For.toNat=true
theorem yQ{row:List Bool}{j k:Nat}(hj:j<row.length):on (row.set j true) k=(decide (j=k)||on row k):=by
 unfold on
 rw [List.getD_eq_getElem?_getD,List.getD_eq_getElem?_getD,List.getElem?_set]
 by_cases h:j=k
 ·subst h;simp [hj]
 ·simp [h]
theorem W4{row:List Bool}{k:Nat}(h:on row k=true):k<row.length:=by
 apply Classical.byContradiction
 intro hn
 unfold on at h
 rw [List.getD_eq_getElem?_getD,List.getElem?_eq_none (by omega)] at h
 cases h
theorem yR{gs:List b9}{row:List Bool}{i:Nat}(hc:ua gs row)(hi:on row i=true):∀ k,Reach gs i k→on row k=true:=by
 intro k h
 induction h with
 | refl=>exact hi
 | step g h hg hw ih=>exact hc g hg (by rw [hw];simpa using ih)
theorem Sd{gs:List b9}{row row':List Bool}{i:Nat}(hl:row.length=row'.length)(hc:ua gs row)(hi:on row i=true)(hs:∀ k,on row k=true→Reach gs i k)
  (hc':ua gs row') (hi':on row' i=true) (hs':∀ k,on row' k=true→Reach gs i k):row=row':=by
 apply List.ext_getElem hl
 intro k h1 h2
 have he:∀ {r:List Bool}(h:k<r.length),on r k=r[k]:=fun {r} h=>by unfold on;rw [List.getD_eq_getElem?_getD,List.getElem?_eq_getElem h];rfl
 rw [←he h1,←he h2]
 cases hk:on row k with
 | true=>exact (yR hc' hi' k (hs k hk)).symm
 | false=>
  cases ha:on row' k with
  | false=>rfl
  | true=>
   rw [yR hc hi k (hs' k ha)] at hk;cases hk
def kx(row:List Bool)(g:b9):List Bool:=if on row g.Who.toNat=true then row.set g.For.toNat true else row
def ky(gs:List b9)(row:List Bool):List Bool:=gs.foldl kx row
def fj(gs:List b9):Nat→List Bool→List Bool
 | 0,row=>row
 | n+1,row=>ky gs (fj gs n row)
theorem sV(row:List Bool)(g:b9):(kx row g).length=row.length:=by unfold kx;split<;>simp
theorem J0(gs:List b9):∀ row,(ky gs row).length=row.length:=by
 induction gs with
 | nil=>intro row;rfl
 | cons g gs ih=>intro row;rw [ky,List.foldl_cons];exact (ih _).trans (sV row g)
theorem mb(gs:List b9)(row:List Bool):∀ n,(fj gs n row).length=row.length
 | 0=>rfl
 | n+1=>(J0 gs _).trans (mb gs row n)
def Good(m:Nat)(gs:List b9):Prop:=∀ g∈gs,(0≤g.Who∧g.Who<m)∧0≤g.For∧g.For<m
theorem D1{m:Nat}{row:List Bool}{g:b9}(hl:row.length=m)(hg:0≤g.For∧g.For<m)(k:Nat):on (kx row g) k=(on row k||(on row g.Who.toNat&&decide (g.For.toNat=k))):=by
 unfold kx
 split
 ·rename_i h
  rw [yQ (by omega),h]
  cases on row k<;>simp
 ·rename_i h
  simp [h]
theorem IN{m:Nat}{gs:List b9}(hg:Good m gs):∀ row,row.length=m→∀ k,on row k=true→on (ky gs row) k=true:=by
 induction gs with
 | nil=>intro row _ k h;exact h
 | cons g gs ih=>
  intro row hl k h
  rw [ky,List.foldl_cons]
  exact ih (fun x hx=>hg x (by simp [hx])) _ ((sV row g).trans hl) k (by rw [D1 hl (hg g (by simp)).2,h];rfl)
theorem G3{m:Nat}{i:Nat}{gs gs':List b9}(hg:Good m gs)(hsub:∀ g∈gs,g∈gs'):∀ row,row.length=m→(∀ k,on row k=true→Reach gs' i k)→∀ k,on (ky gs row) k=true→Reach gs' i k:=by
 induction gs with
 | nil=>intro row _ h k hk;exact h k hk
 | cons g gs ih=>
  intro row hl h k hk
  rw [ky,List.foldl_cons] at hk
  refine ih (fun x hx=>hg x (by simp [hx])) (fun x hx=>hsub x (by simp [hx])) _ ((sV row g).trans hl) (fun k hk=>?_) k hk
  have hgg:=hg g (by simp)
  rw [D1 hl hgg.2] at hk
  simp only [Bool.or_eq_true,Bool.and_eq_true,decide_eq_true_eq] at hk
  rcases hk with hk | ⟨hk,rfl⟩
  ·exact h k hk
  ·exact .step g (h _ hk) (hsub g (by simp)) (by omega)
def gG(row:List Bool):Nat:=row.countP id
theorem J1(row:List Bool):gG row≤row.length:=List.countP_le_length
theorem Dk{row:List Bool}{j:Nat}(hj:j<row.length)(h:on row j=false):gG (row.set j true)=gG row+1:=by
 induction row generalizing j with
 | nil=>simp at hj
 | cons b row ih=>
  cases j with
  | zero=>
   have:b=false:=by simpa [on] using h
   subst this
   simp [gG]
  | succ j=>
   have:=ih (j:=j) (by simpa using hj) (by simpa [on] using h)
   simp only [gG,List.set_cons_succ,List.countP_cons] at this ⊢
   omega
theorem FT{row:List Bool}{j:Nat}(h:on row j=true):row.set j true=row:=by
 apply List.ext_getElem?
 intro k
 rw [List.getElem?_set]
 by_cases hk:j=k
 ·subst hk
  have hl:=W4 h
  unfold on at h
  rw [List.getD_eq_getElem?_getD,List.getElem?_eq_getElem hl] at h
  simp only [if_true,if_pos hl,List.getElem?_eq_getElem hl]
  simpa using h.symm
 ·rw [if_neg hk]
theorem IP{m:Nat}{row:List Bool}{g:b9}(hl:row.length=m)(hg:0≤g.For∧g.For<m):gG row≤gG (kx row g)∧(on row g.Who.toNat=true→on row g.For.toNat=false→gG row<gG (kx row g)):=by
 unfold kx
 split
 ·cases hf:on row g.For.toNat with
  | true=>rw [FT hf];exact ⟨Nat.le_refl _,fun _ h=>by cases h⟩
  | false=>rw [Dk (by omega) hf];exact ⟨by omega,fun _ _=>by omega⟩
 ·rename_i h;exact ⟨Nat.le_refl _,fun h'=>absurd h' h⟩
theorem J2{m:Nat}{gs:List b9}(hg:Good m gs):∀ row,row.length=m→gG row≤gG (ky gs row)∧(gG row=gG (ky gs row)→ua gs row∧ky gs row=row):=by
 induction gs with
 | nil=>intro row _;exact ⟨Nat.le_refl _,fun _=>⟨fun g h=>by simp at h,rfl⟩⟩
 | cons g gs ih=>
  intro row hl
  obtain ⟨h1,h2⟩:=IP (row:=row) hl (hg g (by simp)).2
  obtain ⟨h3,h4⟩:=ih (fun x hx=>hg x (by simp [hx])) (kx row g) ((sV row g).trans hl)
  have e:ky (g::gs) row=ky gs (kx row g):=rfl
  rw [e]
  refine ⟨by omega,fun hc=>?_⟩
  obtain ⟨h5,h6⟩:=h4 (by omega)
  have hsame:kx row g=row:=by
   unfold kx
   split
   ·rename_i ho
    cases hf:on row g.For.toNat with
    | true=>exact FT hf
    | false=>have:=h2 ho hf;omega
   ·rfl
  rw [hsame] at h5 h6 ⊢
  refine ⟨fun x hx ho=>?_,h6⟩
  rcases List.mem_cons.1 hx with rfl | hx
  ·cases hf:on row x.For.toNat with
   | true=>rfl
   | false=>have:=h2 ho hf;rw [hsame] at this;omega
  ·exact h5 x hx ho
theorem B9{m:Nat}{gs:List b9}(hg:Good m gs)(row:List Bool)(hl:row.length=m)(h1:1≤gG row):∀ n,ua gs (fj gs n row)∨n+1≤gG (fj gs n row)
 | 0=>.inr h1
 | n+1=>by
  have hlen:=(mb gs row n).trans hl
  obtain ⟨h2,h3⟩:=J2 hg (fj gs n row) hlen
  by_cases hc:gG (fj gs n row)=gG (ky gs (fj gs n row))
  ·obtain ⟨h4,h5⟩:=h3 hc
   left
   show ua gs (ky gs (fj gs n row))
   rw [h5];exact h4
  ·rcases B9 hg row hl h1 n with h4 | h4
   ·
    exfalso
    apply hc
    have:∀ (gs':List b9),(∀ g∈gs',g∈gs)→ky gs' (fj gs n row)=fj gs n row:=by
     intro gs' hs
     induction gs' with
     | nil=>rfl
     | cons g gs' ih=>
      rw [ky,List.foldl_cons]
      have:kx (fj gs n row) g=fj gs n row:=by
       unfold kx
       split
       ·rename_i ho;exact FT (h4 g (hs g (by simp)) ho)
       ·rfl
      rw [this]
      exact ih fun x hx=>hs x (by simp [hx])
    rw [this gs fun _ h=>h]
   ·right
    show n+1+1≤gG (ky gs (fj gs n row))
    omega
theorem yS{m i:Nat}{gs:List b9}(hg:Good m gs)(row:List Bool)(hl:row.length=m)(h:∀ k,on row k=true→Reach gs i k):∀ n k,on (fj gs n row) k=true→Reach gs i k
 | 0,k,hk=>h k hk
 | n+1,k,hk=>G3 hg (fun _ h=>h) _ ((mb gs row n).trans hl) (yS hg row hl h n) k hk
theorem yT{m:Nat}{gs:List b9}(hg:Good m gs)(row:List Bool)(hl:row.length=m)(k:Nat)(h:on row k=true):∀ n,on (fj gs n row) k=true
 | 0=>h
 | n+1=>IN hg _ ((mb gs row n).trans hl) k (yT hg row hl k h n)
def xw(m i:Nat):List Bool:=(List.replicate m false).set i true
def eL(m:Nat)(gs:List b9)(i:Nat):List Bool:=fj gs m (xw m i)
def gh(m:Nat)(gs:List b9)(i k:Nat):Bool:=on (eL m gs i) k
theorem N5{m i:Nat}(hi:i<m)(k:Nat):on (xw m i) k=decide (i=k):=by
 unfold xw
 rw [yQ (by simpa using hi)]
 have:on (List.replicate m false) k=false:=by
  unfold on
  rw [List.getD_eq_getElem?_getD,List.getElem?_replicate]
  split<;>rfl
 rw [this,Bool.or_false]
theorem yU(m:Nat)(gs:List b9)(i:Nat):(eL m gs i).length=m:=(mb _ _ _).trans (by simp [xw])
theorem G5{m i:Nat}{gs:List b9}(hg:Good m gs)(hi:i<m):ua gs (eL m gs i)∧on (eL m gs i) i=true∧∀ k,on (eL m gs i) k=true→Reach gs i k:=by
 have hl:(xw m i).length=m:=by simp [xw]
 have hon:=fun k=>N5 (m:=m) hi k
 have hcnt:1≤gG (xw m i):=by
  have:=Dk (row:=List.replicate m false) (j:=i) (by simpa using hi) (by
   unfold on
   rw [List.getD_eq_getElem?_getD,List.getElem?_replicate]
   split<;>rfl)
  unfold xw
  omega
 refine ⟨?_,yT hg _ hl i (by rw [hon];simp) m,yS hg _ hl (fun k hk=>?_) m⟩
 ·rcases B9 hg _ hl hcnt m with h | h
  ·exact h
  ·have:=J1 (fj gs m (xw m i))
   rw [mb,hl] at this
   omega
 ·rw [hon] at hk
  obtain rfl:i=k:=by simpa using hk
  exact .refl
end Go.Proofs.YtdpjofmmokaobaaGreat.A
