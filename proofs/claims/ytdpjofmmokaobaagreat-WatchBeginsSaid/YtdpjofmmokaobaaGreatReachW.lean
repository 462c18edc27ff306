/- Who acts for whom, as plain mathematics: what can be reached; roundsR of rows; rows that are closed. -/
import Derived.Test.YtdpjofmmokaobaaGreatHeadF
set_option linter.unusedSectionVars false
set_option linter.unusedVariables false
set_option linter.unusedSimpArgs false
namespace Go.Proofs.YtdpjofmmokaobaaGreat.A
open Go
inductive Reach(gs:List cq)(i:Nat):Nat→Prop where
 | refl:Reach gs i i
 | step {j:Nat} (g:cq) (h:Reach gs i j) (hg:g∈gs) (hw:g.Who=(j:Int)):Reach gs i g.For.toNat
def on(row:List Bool)(k:Nat):Bool:=row.getD k false
def uB(gs:List cq)(row:List Bool):Prop:=∀ g∈gs,on row g.Who.toNat=true→on row g.For.toNat=true
theorem zq{row:List Bool}{j k:Nat}(hj:j<row.length):on (row.set j true) k=(decide (j=k)||on row k):=by
 unfold on
 rw [List.getD_eq_getElem?_getD,List.getD_eq_getElem?_getD,List.getElem?_set]
 by_cases h:j=k
 ·subst h;simp [hj]
 ·simp [h]
theorem XD{row:List Bool}{k:Nat}(h:on row k=true):k<row.length:=by
 apply Classical.byContradiction
 intro hn
 unfold on at h
 rw [List.getD_eq_getElem?_getD,List.getElem?_eq_none (by omega)] at h
 cases h
theorem zr{gs:List cq}{row:List Bool}{i:Nat}(hc:uB gs row)(hi:on row i=true):∀ k,Reach gs i k→on row k=true:=by
 intro k h
 induction h with
 | refl=>exact hi
 | step g h hg hw ih=>exact hc g hg (by rw [hw];simpa using ih)
theorem S9{gs:List cq}{row row':List Bool}{i:Nat}(hl:row.length=row'.length)(hc:uB gs row)(hi:on row i=true)(hs:∀ k,on row k=true→Reach gs i k)
  (hc':uB gs row') (hi':on row' i=true) (hs':∀ k,on row' k=true→Reach gs i k):row=row':=by
 apply List.ext_getElem hl
 intro k h1 h2
 have he:∀ {r:List Bool}(h:k<r.length),on r k=r[k]:=fun {r} h=>by unfold on;rw [List.getD_eq_getElem?_getD,List.getElem?_eq_getElem h];rfl
 rw [←he h1,←he h2]
 cases hk:on row k with
 | true=>exact (zr hc' hi' k (hs k hk)).symm
 | false=>
  cases ha:on row' k with
  | false=>rfl
  | true=>
   rw [zr hc hi k (hs' k ha)] at hk;cases hk
def kO(row:List Bool)(g:cq):List Bool:=if on row g.Who.toNat=true then row.set g.For.toNat true else row
def kP(gs:List cq)(row:List Bool):List Bool:=gs.foldl kO row
def fu(gs:List cq):Nat→List Bool→List Bool
 | 0,row=>row
 | n+1,row=>kP gs (fu gs n row)
theorem tm(row:List Bool)(g:cq):(kO row g).length=row.length:=by unfold kO;split<;>simp
theorem KL(gs:List cq):∀ row,(kP gs row).length=row.length:=by
 induction gs with
 | nil=>intro row;rfl
 | cons g gs ih=>intro row;rw [kP,List.foldl_cons];exact (ih _).trans (tm row g)
theorem mG(gs:List cq)(row:List Bool):∀ n,(fu gs n row).length=row.length
 | 0=>rfl
 | n+1=>(KL gs _).trans (mG gs row n)
def Good(m:Nat)(gs:List cq):Prop:=∀ g∈gs,(0≤g.Who∧g.Who<m)∧0≤g.For∧g.For<m
theorem EL{m:Nat}{row:List Bool}{g:cq}(hl:row.length=m)(hg:0≤g.For∧g.For<m)(k:Nat):on (kO row g) k=(on row k||(on row g.Who.toNat&&decide (g.For.toNat=k))):=by
 unfold kO
 split
 ·rename_i h
  rw [zq (by omega),h]
  cases on row k<;>simp
 ·rename_i h
  simp [h]
theorem Jw{m:Nat}{gs:List cq}(hg:Good m gs):∀ row,row.length=m→∀ k,on row k=true→on (kP gs row) k=true:=by
 induction gs with
 | nil=>intro row _ k h;exact h
 | cons g gs ih=>
  intro row hl k h
  rw [kP,List.foldl_cons]
  exact ih (fun x hx=>hg x (by simp [hx])) _ ((tm row g).trans hl) k (by rw [EL hl (hg g (by simp)).2,h];rfl)
theorem HK{m:Nat}{i:Nat}{gs gs':List cq}(hg:Good m gs)(hsub:∀ g∈gs,g∈gs'):∀ row,row.length=m→(∀ k,on row k=true→Reach gs' i k)→∀ k,on (kP gs row) k=true→Reach gs' i k:=by
 induction gs with
 | nil=>intro row _ h k hk;exact h k hk
 | cons g gs ih=>
  intro row hl h k hk
  rw [kP,List.foldl_cons] at hk
  refine ih (fun x hx=>hg x (by simp [hx])) (fun x hx=>hsub x (by simp [hx])) _ ((tm row g).trans hl) (fun k hk=>?_) k hk
  have hgg:=hg g (by simp)
  rw [EL hl hgg.2] at hk
  simp only [Bool.or_eq_true,Bool.and_eq_true,decide_eq_true_eq] at hk
  rcases hk with hk | ⟨hk,rfl⟩
  ·exact h k hk
  ·exact .step g (h _ hk) (hsub g (by simp)) (by omega)
def gU(row:List Bool):Nat:=row.countP id
theorem KM(row:List Bool):gU row≤row.length:=List.countP_le_length
theorem DZ{row:List Bool}{j:Nat}(hj:j<row.length)(h:on row j=false):gU (row.set j true)=gU row+1:=by
 induction row generalizing j with
 | nil=>simp at hj
 | cons b row ih=>
  cases j with
  | zero=>
   have:b=false:=by simpa [on] using h
   subst this
   simp [gU]
  | succ j=>
   have:=ih (j:=j) (by simpa using hj) (by simpa [on] using h)
   simp only [gU,List.set_cons_succ,List.countP_cons] at this ⊢
   omega
theorem GB{row:List Bool}{j:Nat}(h:on row j=true):row.set j true=row:=by
 apply List.ext_getElem?
 intro k
 rw [List.getElem?_set]
 by_cases hk:j=k
 ·subst hk
  have hl:=XD h
  unfold on at h
  rw [List.getD_eq_getElem?_getD,List.getElem?_eq_getElem hl] at h
  simp only [if_true,if_pos hl,List.getElem?_eq_getElem hl]
  simpa using h.symm
 ·rw [if_neg hk]
theorem Jy{m:Nat}{row:List Bool}{g:cq}(hl:row.length=m)(hg:0≤g.For∧g.For<m):gU row≤gU (kO row g)∧(on row g.Who.toNat=true→on row g.For.toNat=false→gU row<gU (kO row g)):=by
 unfold kO
 split
 ·cases hf:on row g.For.toNat with
  | true=>rw [GB hf];exact ⟨Nat.le_refl _,fun _ h=>by cases h⟩
  | false=>rw [DZ (by omega) hf];exact ⟨by omega,fun _ _=>by omega⟩
 ·rename_i h;exact ⟨Nat.le_refl _,fun h'=>absurd h' h⟩
theorem KN{m:Nat}{gs:List cq}(hg:Good m gs):∀ row,row.length=m→gU row≤gU (kP gs row)∧(gU row=gU (kP gs row)→uB gs row∧kP gs row=row):=by
 induction gs with
 | nil=>intro row _;exact ⟨Nat.le_refl _,fun _=>⟨fun g h=>by simp at h,rfl⟩⟩
 | cons g gs ih=>
  intro row hl
  obtain ⟨h1,h2⟩:=Jy (row:=row) hl (hg g (by simp)).2
  obtain ⟨h3,h4⟩:=ih (fun x hx=>hg x (by simp [hx])) (kO row g) ((tm row g).trans hl)
  have e:kP (g::gs) row=kP gs (kO row g):=rfl
  rw [e]
  refine ⟨by omega,fun hc=>?_⟩
  obtain ⟨h5,h6⟩:=h4 (by omega)
  have hsame:kO row g=row:=by
   unfold kO
   split
   ·rename_i ho
    cases hf:on row g.For.toNat with
    | true=>exact GB hf
    | false=>have:=h2 ho hf;omega
   ·rfl
  rw [hsame] at h5 h6 ⊢
  refine ⟨fun x hx ho=>?_,h6⟩
  rcases List.mem_cons.1 hx with rfl | hx
  ·cases hf:on row x.For.toNat with
   | true=>rfl
   | false=>have:=h2 ho hf;rw [hsame] at this;omega
  ·exact h5 x hx ho
theorem CK{m:Nat}{gs:List cq}(hg:Good m gs)(row:List Bool)(hl:row.length=m)(h1:1≤gU row):∀ n,uB gs (fu gs n row)∨n+1≤gU (fu gs n row)
 | 0=>.inr h1
 | n+1=>by
  have hlen:=(mG gs row n).trans hl
  obtain ⟨h2,h3⟩:=KN hg (fu gs n row) hlen
  by_cases hc:gU (fu gs n row)=gU (kP gs (fu gs n row))
  ·obtain ⟨h4,h5⟩:=h3 hc
   left
   show uB gs (kP gs (fu gs n row))
   rw [h5];exact h4
  ·rcases CK hg row hl h1 n with h4 | h4
   ·
    exfalso
    apply hc
    have:∀ (gs':List cq),(∀ g∈gs',g∈gs)→kP gs' (fu gs n row)=fu gs n row:=by
     intro gs' hs
     induction gs' with
     | nil=>rfl
     | cons g gs' ih=>
      rw [kP,List.foldl_cons]
      have:kO (fu gs n row) g=fu gs n row:=by
       unfold kO
       split
       ·rename_i ho;exact GB (h4 g (hs g (by simp)) ho)
       ·rfl
      rw [this]
      exact ih fun x hx=>hs x (by simp [hx])
    rw [this gs fun _ h=>h]
   ·right
    show n+1+1≤gU (kP gs (fu gs n row))
    omega
theorem zt{m i:Nat}{gs:List cq}(hg:Good m gs)(row:List Bool)(hl:row.length=m)(h:∀ k,on row k=true→Reach gs i k):∀ n k,on (fu gs n row) k=true→Reach gs i k
 | 0,k,hk=>h k hk
 | n+1,k,hk=>HK hg (fun _ h=>h) _ ((mG gs row n).trans hl) (zt hg row hl h n) k hk
theorem zu{m:Nat}{gs:List cq}(hg:Good m gs)(row:List Bool)(hl:row.length=m)(k:Nat)(h:on row k=true):∀ n,on (fu gs n row) k=true
 | 0=>h
 | n+1=>Jw hg _ ((mG gs row n).trans hl) k (zu hg row hl k h n)
def xU(m i:Nat):List Bool:=(List.replicate m false).set i true
def eR(m:Nat)(gs:List cq)(i:Nat):List Bool:=fu gs m (xU m i)
def iB(m:Nat)(gs:List cq)(i k:Nat):Bool:=on (eR m gs i) k
theorem O6{m i:Nat}(hi:i<m)(k:Nat):on (xU m i) k=decide (i=k):=by
 unfold xU
 rw [zq (by simpa using hi)]
 have:on (List.replicate m false) k=false:=by
  unfold on
  rw [List.getD_eq_getElem?_getD,List.getElem?_replicate]
  split<;>rfl
 rw [this,Bool.or_false]
theorem zw(m:Nat)(gs:List cq)(i:Nat):(eR m gs i).length=m:=(mG _ _ _).trans (by simp [xU])
theorem HL{m i:Nat}{gs:List cq}(hg:Good m gs)(hi:i<m):uB gs (eR m gs i)∧on (eR m gs i) i=true∧∀ k,on (eR m gs i) k=true→Reach gs i k:=by
 have hl:(xU m i).length=m:=by simp [xU]
 have hon:=fun k=>O6 (m:=m) hi k
 have hcnt:1≤gU (xU m i):=by
  have:=DZ (row:=List.replicate m false) (j:=i) (by simpa using hi) (by
   unfold on
   rw [List.getD_eq_getElem?_getD,List.getElem?_replicate]
   split<;>rfl)
  unfold xU
  omega
 refine ⟨?_,zu hg _ hl i (by rw [hon];simp) m,zt hg _ hl (fun k hk=>?_) m⟩
 ·rcases CK hg _ hl hcnt m with h | h
  ·exact h
  ·have:=KM (fu gs m (xU m i))
   rw [mG,hl] at this
   omega
 ·rw [hon] at hk
  obtain rfl:i=k:=by simpa using hk
  exact .refl
end Go.Proofs.YtdpjofmmokaobaaGreat.A
