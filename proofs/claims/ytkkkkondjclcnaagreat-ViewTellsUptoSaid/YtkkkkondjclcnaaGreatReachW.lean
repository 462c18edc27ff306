/- Who acts for whom, as plain mathematics: what can be reached; roundsR of rows; rows that are closed. -/
import Derived.Test.YtkkkkondjclcnaaGreatHeadF
import Derived.Test.YtkkkkondjclcnaaGreatFE
set_option linter.all false
namespace Go.Proofs.YtkkkkondjclcnaaGreat.A
open Go
inductive Reach(gs:List cG)(i:Nat):Nat→Prop where
 | refl:Reach gs i i
 | step {j:Nat} (g:cG) (h:Reach gs i j) (hg:g∈gs) (hw:g.Who=(j:Int)):Reach gs i g.For.toNat
def on(row:List Bool)(k:Nat):Bool:=row.getD k false
def yg(gs:List cG)(row:List Bool):Prop:=∀ g∈gs,on row g.Who.toNat=true→on row g.For.toNat=true
theorem Di{row:List Bool}{j k:Nat}(hj:j<row.length):on (row.set j true) k=(decide (j=k)||on row k):=by
 unfold on
 rw [cb,cb,kx]
 by_cases h:j=k
 ·subst h;simp [hj]
 ·simp [h]
theorem ahJ{row:List Bool}{k:Nat}(h:on row k=true):k<row.length:=by
 apply lT
 intro hn
 unfold on at h
 rw [cb,vM (by omega)] at h
 cases h
theorem Dj{gs:List cG}{row:List Bool}{i:Nat}(hc:yg gs row)(hi:on row i=true):∀ k,Reach gs i k→on row k=true:=by
 intro k h
 induction h with
 | refl=>exact hi
 | step g h hg hw ih=>exact hc g hg (by rw [hw];simpa using ih)
theorem acb{gs:List cG}{row row':List Bool}{i:Nat}(hl:row.length=row'.length)(hc:yg gs row)(hi:on row i=true)(hs:∀ k,on row k=true→Reach gs i k)
  (hc':yg gs row') (hi':on row' i=true) (hs':∀ k,on row' k=true→Reach gs i k):row=row':=by
 apply CH hl
 intro k h1 h2
 have he:∀ {r:List Bool}(h:k<r.length),on r k=r[k]:=fun {r} h=>by unfold on;rw [cb,aB h];rfl
 rw [←he h1,←he h2]
 cases hk:on row k with
 | true=>exact (Dj hc' hi' k (hs k hk)).symm
 | false=>
  cases ha:on row' k with
  | false=>rfl
  | true=>
   rw [Dj hc hi k (hs' k ha)] at hk;cases hk
def kY(row:List Bool)(g:cG):List Bool:=if on row g.Who.toNat=true then row.set g.For.toNat true else row
def gd(gs:List cG)(row:List Bool):List Bool:=gs.foldl kY row
def gh(gs:List cG):Nat→List Bool→List Bool
 | 0,row=>row
 | n+1,row=>gd gs (gh gs n row)
theorem xw(row:List Bool)(g:cG):(kY row g).length=row.length:=by unfold kY;split<;>simp
theorem JO(gs:List cG):∀ row,(gd gs row).length=row.length:=by
 induction gs with
 | nil=>intro row;rfl
 | cons g gs ih=>intro row;rw [gd,qb];exact (ih _).trans (xw row g)
theorem nB(gs:List cG)(row:List Bool):∀ n,(gh gs n row).length=row.length
 | 0=>rfl
 | n+1=>(JO gs _).trans (nB gs row n)
def Good(m:Nat)(gs:List cG):Prop:=∀ g∈gs,(0≤g.Who∧g.Who<m)∧0≤g.For∧g.For<m
theorem JP{m:Nat}{row:List Bool}{g:cG}(hl:row.length=m)(hg:0≤g.For∧g.For<m)(k:Nat):on (kY row g) k=(on row k||(on row g.Who.toNat&&decide (g.For.toNat=k))):=by
 unfold kY
 split
 ·rename_i h
  rw [Di (by omega),h]
  cases on row k<;>simp
 ·rename_i h
  simp [h]
theorem PJ{m:Nat}{gs:List cG}(hg:Good m gs):∀ row,row.length=m→∀ k,on row k=true→on (gd gs row) k=true:=by
 induction gs with
 | nil=>intro row _ k h;exact h
 | cons g gs ih=>
  intro row hl k h
  rw [gd,qb]
  exact ih (fun x hx=>hg x (by simp [hx])) _ ((xw row g).trans hl) k (by rw [JP hl (hg g (by simp)).2,h];rfl)
theorem Nz{m:Nat}{i:Nat}{gs gs':List cG}(hg:Good m gs)(hsub:∀ g∈gs,g∈gs'):∀ row,row.length=m→(∀ k,on row k=true→Reach gs' i k)→∀ k,on (gd gs row) k=true→Reach gs' i k:=by
 induction gs with
 | nil=>intro row _ h k hk;exact h k hk
 | cons g gs ih=>
  intro row hl h k hk
  rw [gd,qb] at hk
  refine ih (fun x hx=>hg x (by simp [hx])) (fun x hx=>hsub x (by simp [hx])) _ ((xw row g).trans hl) (fun k hk=>?_) k hk
  have hgg:=hg g (by simp)
  rw [JP hl hgg.2] at hk
  simp only [jw,aA,df] at hk
  rcases hk with hk | ⟨hk,rfl⟩
  ·exact h k hk
  ·exact .step g (h _ hk) (hsub g (by simp)) (by omega)
def j0(row:List Bool):Nat:=row.countP id
theorem Rq(row:List Bool):j0 row≤row.length:=List.countP_le_length
theorem I3{row:List Bool}{j:Nat}(hj:j<row.length)(h:on row j=false):j0 (row.set j true)=j0 row+1:=by
 induction row generalizing j with
 | nil=>simp at hj
 | cons b row ih=>
  cases j with
  | zero=>
   have:b=false:=by simpa [on] using h
   subst this
   simp [j0]
  | succ j=>
   have:=ih (j:=j) (by simpa using hj) (by simpa [on] using h)
   simp only [j0,List.set_cons_succ,List.countP_cons] at this ⊢
   omega
theorem Mj{row:List Bool}{j:Nat}(h:on row j=true):row.set j true=row:=by
 apply List.ext_getElem?
 intro k
 rw [kx]
 by_cases hk:j=k
 ·subst hk
  have hl:=ahJ h
  unfold on at h
  rw [cb,aB hl] at h
  simp only [aq,ab hl,aB hl]
  simpa using h.symm
 ·rw [ad hk]
theorem PK{m:Nat}{row:List Bool}{g:cG}(hl:row.length=m)(hg:0≤g.For∧g.For<m):j0 row≤j0 (kY row g)∧(on row g.Who.toNat=true→on row g.For.toNat=false→j0 row<j0 (kY row g)):=by
 unfold kY
 split
 ·cases hf:on row g.For.toNat with
  | true=>rw [Mj hf];exact ⟨aS _,fun _ h=>by cases h⟩
  | false=>rw [I3 (by omega) hf];exact ⟨by omega,fun _ _=>by omega⟩
 ·rename_i h;exact ⟨aS _,fun h'=>absurd h' h⟩
theorem Rr{m:Nat}{gs:List cG}(hg:Good m gs):∀ row,row.length=m→j0 row≤j0 (gd gs row)∧(j0 row=j0 (gd gs row)→yg gs row∧gd gs row=row):=by
 induction gs with
 | nil=>intro row _;exact ⟨aS _,fun _=>⟨fun g h=>by simp at h,rfl⟩⟩
 | cons g gs ih=>
  intro row hl
  obtain ⟨h1,h2⟩:=PK (row:=row) hl (hg g (by simp)).2
  obtain ⟨h3,h4⟩:=ih (fun x hx=>hg x (by simp [hx])) (kY row g) ((xw row g).trans hl)
  have e:gd (g::gs) row=gd gs (kY row g):=rfl
  rw [e]
  refine ⟨by omega,fun hc=>?_⟩
  obtain ⟨h5,h6⟩:=h4 (by omega)
  have hsame:kY row g=row:=by
   unfold kY
   split
   ·rename_i ho
    cases hf:on row g.For.toNat with
    | true=>exact Mj hf
    | false=>have:=h2 ho hf;omega
   ·rfl
  rw [hsame] at h5 h6 ⊢
  refine ⟨fun x hx ho=>?_,h6⟩
  rcases cR.1 hx with rfl | hx
  ·cases hf:on row x.For.toNat with
   | true=>rfl
   | false=>have:=h2 ho hf;rw [hsame] at this;omega
  ·exact h5 x hx ho
theorem Hl{m:Nat}{gs:List cG}(hg:Good m gs)(row:List Bool)(hl:row.length=m)(h1:1≤j0 row):∀ n,yg gs (gh gs n row)∨n+1≤j0 (gh gs n row)
 | 0=>.inr h1
 | n+1=>by
  have hlen:=(nB gs row n).trans hl
  obtain ⟨h2,h3⟩:=Rr hg (gh gs n row) hlen
  by_cases hc:j0 (gh gs n row)=j0 (gd gs (gh gs n row))
  ·obtain ⟨h4,h5⟩:=h3 hc
   left
   show yg gs (gd gs (gh gs n row))
   rw [h5];exact h4
  ·rcases Hl hg row hl h1 n with h4 | h4
   ·
    exfalso
    apply hc
    have:∀ (gs':List cG),(∀ g∈gs',g∈gs)→gd gs' (gh gs n row)=gh gs n row:=by
     intro gs' hs
     induction gs' with
     | nil=>rfl
     | cons g gs' ih=>
      rw [gd,qb]
      have:kY (gh gs n row) g=gh gs n row:=by
       unfold kY
       split
       ·rename_i ho;exact Mj (h4 g (hs g (by simp)) ho)
       ·rfl
      rw [this]
      exact ih fun x hx=>hs x (by simp [hx])
    rw [this gs fun _ h=>h]
   ·right
    show n+1+1≤j0 (gd gs (gh gs n row))
    omega
theorem Dk{m i:Nat}{gs:List cG}(hg:Good m gs)(row:List Bool)(hl:row.length=m)(h:∀ k,on row k=true→Reach gs i k):∀ n k,on (gh gs n row) k=true→Reach gs i k
 | 0,k,hk=>h k hk
 | n+1,k,hk=>Nz hg (fun _ h=>h) _ ((nB gs row n).trans hl) (Dk hg row hl h n) k hk
theorem Dl{m:Nat}{gs:List cG}(hg:Good m gs)(row:List Bool)(hl:row.length=m)(k:Nat)(h:on row k=true):∀ n,on (gh gs n row) k=true
 | 0=>h
 | n+1=>PJ hg _ ((nB gs row n).trans hl) k (Dl hg row hl k h n)
def wN(m i:Nat):List Bool:=(List.replicate m false).set i true
def e7(m:Nat)(gs:List cG)(i:Nat):List Bool:=gh gs m (wN m i)
def dM(m:Nat)(gs:List cG)(i k:Nat):Bool:=on (e7 m gs i) k
theorem WD{m i:Nat}(hi:i<m)(k:Nat):on (wN m i) k=decide (i=k):=by
 unfold wN
 rw [Di (by simpa using hi)]
 have:on (List.replicate m false) k=false:=by
  unfold on
  rw [cb,kA]
  split<;>rfl
 rw [this,Bool.or_false]
theorem yh(m:Nat)(gs:List cG)(i:Nat):(e7 m gs i).length=m:=(nB _ _ _).trans (by simp [wN])
theorem NA{m i:Nat}{gs:List cG}(hg:Good m gs)(hi:i<m):yg gs (e7 m gs i)∧on (e7 m gs i) i=true∧∀ k,on (e7 m gs i) k=true→Reach gs i k:=by
 have hl:(wN m i).length=m:=by simp [wN]
 have hon:=fun k=>WD (m:=m) hi k
 have hcnt:1≤j0 (wN m i):=by
  have:=I3 (row:=List.replicate m false) (j:=i) (by simpa using hi) (by
   unfold on
   rw [cb,kA]
   split<;>rfl)
  unfold wN
  omega
 refine ⟨?_,Dl hg _ hl i (by rw [hon];simp) m,Dk hg _ hl (fun k hk=>?_) m⟩
 ·rcases Hl hg _ hl hcnt m with h | h
  ·exact h
  ·have:=Rq (gh gs m (wN m i))
   rw [nB,hl] at this
   omega
 ·rw [hon] at hk
  obtain rfl:i=k:=by simpa using hk
  exact .refl
variable [Lp]
theorem fJ{row:List Bool}{k:Nat}(h:k<row.length):row[k]? =some (on row k):=by
 unfold on;rw [cb,aB h];rfl
theorem wh{α:Type}{l:List α}{k:Nat}(h:k<l.length):l.take (k+1)=l.take k++[l[k]]:=by
 rw [p9,aB h];rfl
theorem cast_toNat{n:Int}(h:0≤n):n=((n.toNat:Nat):Int):=by omega
section
variable (a:aj)(hok:eP a=0)
include hok
theorem Oj:Good a.Many.toNat a.Grants:=by
 obtain ⟨h1,h2,h3,h4⟩:=lB hok
 intro g hg
 have:=h4 g hg
 omega
end
def allRows(m:Nat)(gs:List cG):List (List Bool):=(List.range m).map (e7 m gs)
section
variable (a:aj)(hok:eP a=0)
include hok
theorem ahK:ue a=some (allRows a.Many.toNat a.Grants):=by
 obtain ⟨h1,h2,h3,h4⟩:=lB hok
 have hg:=Oj a hok
 have inner:∀ (out:List (List Bool))(n:Nat)(row:List Bool)(c:Nat)(y:Int)(left:List Int),left.length≤1000→
   lp (fun v=>lH a out n row y c v.1 v.2) (left,0)=some (left++(a.Grants.filter (fun g=>g.Who==y)).map (·.For),a.Grants.length,false):=by
  intro out n row c y left hll
  have h:=kO (B:=fun v=>lH a out n row y c v.1 v.2) a.Grants.length (fun j=>(left++((a.Grants.take j).filter (fun g=>g.Who==y)).map (·.For),j))
   (x:=(left++(a.Grants.filter (fun g=>g.Who==y)).map (·.For),a.Grants.length,false))
   (fun j hj=>by
    have hfl:((a.Grants.take j).filter (fun g=>g.Who==y)).length≤20:=bQ (za ..) (by simp;omega)
    have hroom:(left++((a.Grants.take j).filter (fun g=>g.Who==y)).map (·.For)).length + [a.Grants[j].For].length≤1000000000:=by
     simp only [cH,dC,ov];omega
    simp only [lH,show (j:Int)<(a.Grants.length:Int) by omega,aq,aB hj,af,eQ j (by omega),hroom]
    rw [wh hj,zb,cI,←lO]
    cases ho:(a.Grants[j].Who==y) with
    | true=>simp [ho]
    | false=>simp [ho])
   (by simp [lH])
  simpa using h
 have middle:∀ (out:List (List Bool))(n:Nat),n<a.Many.toNat→∃ z2 z3,lp (fun v=>jA a out n v.1 v.2) ([(n:Int)],List.replicate a.Many.toNat false)=some (e7 a.Many.toNat a.Grants n,z2,z3):=by
  intro out n hn
  have hw:=ke (B:=fun v=>jA a out n v.1 v.2)
   (fun q=>(a.Many.toNat - j0 q.2)*(a.Grants.length+1)+q.1.length)
   (fun q=>q.2.length=a.Many.toNat∧(∀ x∈q.1,0≤x∧x<a.Many∧Reach a.Grants n x.toNat)∧(∀ k,on q.2 k=true→Reach a.Grants n k)∧(on q.2 n=true∨(n:Int)∈q.1)∧
    (∀ g∈a.Grants,on q.2 g.Who.toNat=true→on q.2 g.For.toNat=true∨g.For∈q.1)∧(a.Many.toNat - j0 q.2)*(a.Grants.length+1)+q.1.length≤500)
   (fun r=>∃ z2 z3,r=(e7 a.Many.toNat a.Grants n,z2,z3))
   (fun ⟨left,row⟩ ⟨hl,hleft,hrow,hself,hcl,hm⟩=>by
    simp only at hl hleft hrow hself hcl hm ⊢
    by_cases hz:0<left.length
    ·
     right
     have hpos:0<(left.length:Int):=by omega
     have hlt:left.length - 1<left.length:=by omega
     have hy:=aB hlt
     generalize hyy:left[left.length - 1]=y at hy
     have hym:y∈left:=aL hy
     obtain ⟨hy1,hy2,hy3⟩:=hleft y hym
     have hsplit:left=left.take (left.length - 1)++[y]:=by
      have:=wh (l:=left) (k:=left.length - 1) hlt
      rw [hyy,show left.length - 1+1=left.length by omega,CI] at this
      exact this
     have hw1:IntKind.i64.wrap ((left.length:Int) - 1)=(left.length:Int) - 1:=wrap64 (by omega) (by omega)
     have hn1:ed ((left.length:Int) - 1)=some (left.length - 1):=by rw [dx (by omega)];congr 1;omega
     have hgety:row[y.toNat]? =some (on row y.toNat):=fJ (by omega)
     have hsub:∀ x∈left.take (left.length - 1),x∈left:=fun x hx=>eI hx
     have hor:∀ x∈left,x=y∨x∈left.take (left.length - 1):=by
      intro x hx
      rw [hsplit] at hx
      rcases bU.1 hx with hx | hx
      ·exact .inr hx
      ·exact .inl (by simpa using hx)
     have hlen1:(left.take (left.length - 1)).length=left.length - 1:=by simp
     cases ho:on row y.toNat with
     | true=>
      refine ⟨(left.take (left.length - 1),row),?_,⟨hl,fun x hx=>hleft x (hsub x hx),hrow,?_,fun g hg' hw=>?_,?_⟩,?_⟩
      ·simp only [jA,hpos,aq,hw1,hn1,af,hy,show left.length - 1≤left.length by omega,dx hy1,hgety,ho]
      ·rcases hself with h | h
       ·exact .inl h
       ·rcases hor _ h with rfl | h
        ·left;simpa using ho
        ·exact .inr h
      ·rcases hcl g hg' hw with h | h
       ·exact .inl h
       ·rcases hor _ h with h | h
        ·left;simp only;rw [h];exact ho
        ·exact .inr h
      ·simp only [hlen1];omega
      ·simp only [hlen1];omega
     | false=>
      have hbl:(left.take (left.length - 1)).length≤1000:=by
       have:left.length≤500:=bQ (Nat.le_add_left _ _) hm
       omega
      have hin:=inner out n row y.toNat y (left.take (left.length - 1)) hbl
      have hfl:((a.Grants.filter (fun g=>g.Who==y)).map (·.For)).length≤a.Grants.length:=by rw [dC];exact za ..
      have hyr:y.toNat<row.length:=by omega
      have hcs:=I3 hyr ho
      have hcle:=Rq (row.set y.toNat true)
      rw [tG,hl] at hcle
      have hmeas:(a.Many.toNat - j0 (row.set y.toNat true))*(a.Grants.length+1)+(left.take (left.length - 1)++(a.Grants.filter (fun g=>g.Who==y)).map (·.For)).length<(a.Many.toNat - j0 row)*(a.Grants.length+1)+left.length:=by
       rw [cH,hlen1,hcs]
       have e:a.Many.toNat - j0 row=(a.Many.toNat - (j0 row+1))+1:=by omega
       rw [e,da]
       omega
      refine ⟨(left.take (left.length - 1)++(a.Grants.filter (fun g=>g.Who==y)).map (·.For),row.set y.toNat true),?_,⟨by simpa using hl,fun x hx=>?_,fun k hk=>?_,?_,fun g hg' hw=>?_,?_⟩,hmeas⟩
      ·simp only [jA,hpos,aq,hw1,hn1,af,hy,show left.length - 1≤left.length by omega,dx hy1,hgety,ho,hin,bB,aM]
      ·rcases bU.1 hx with hx | hx
       ·exact hleft x (hsub x hx)
       ·obtain ⟨g,hg',rfl⟩:=eH.1 hx
        obtain ⟨hg1,hg2⟩:=tH.1 hg'
        have hwy:g.Who=y:=by simpa using hg2
        obtain ⟨_,hf1,hf2⟩:=h4 g hg1
        exact ⟨hf1,hf2,.step g hy3 hg1 (by rw [hwy];exact cast_toNat hy1)⟩
      ·simp only at hk
       rw [Di hyr] at hk
       simp only [jw,df] at hk
       rcases hk with rfl | hk
       ·exact hy3
       ·exact hrow k hk
      ·simp only
       rw [Di hyr]
       rcases hself with h | h
       ·left;rw [h];simp
       ·rcases hor _ h with h | h
        ·left;rw [←h];simp
        ·exact .inr (gD _ h)
      ·simp only at hw ⊢
       rw [Di hyr] at hw ⊢
       simp only [jw,df] at hw ⊢
       rcases hw with hw | hw
       ·right
        refine jv _ (eH.2 ⟨g,tH.2 ⟨hg',?_⟩,rfl⟩)
        obtain ⟨⟨hf1,_⟩,_⟩:=h4 g hg'
        have:g.Who=y:=by omega
        simpa using this
       ·rcases hcl g hg' hw with h | h
        ·exact .inl (.inr h)
        ·rcases hor _ h with h | h
         ·left;left;rw [h]
         ·exact .inr (gD _ h)
      ·exact bQ (fx hmeas) hm
    ·left
     have hnil:left=[]:=oy (by omega)
     subst hnil
     obtain ⟨hc1,hc2,hc3⟩:=NA hg hn
     have heq:row=e7 a.Many.toNat a.Grants n:=acb (hl.trans (yh ..).symm) (fun g hg' hw=>(hcl g hg' hw).resolve_right (by simp)) (hself.resolve_right (by simp)) hrow hc1 hc2 hc3
     exact ⟨(row,[],false),by simp [jA],[],false,by rw [←heq]⟩)
  obtain ⟨r,h5,z2,z3,rfl⟩:=hw ([(n:Int)],List.replicate a.Many.toNat false) ⟨by simp,fun x hx=>by
    obtain rfl:x=(n:Int):=by simpa using hx
    exact ⟨by omega,by omega,by simpa using Reach.refl⟩,fun k hk=>by
    exfalso
    unfold on at hk
    rw [cb,kA] at hk
    (split at hk<;>cases hk),.inr (by simp),fun g _ hw=>by
    exfalso
    simp only at hw
    unfold on at hw
    rw [cb,kA] at hw
    (split at hw<;>cases hw),by
    simp only [ov]
    have h6:(a.Many.toNat - j0 (List.replicate a.Many.toNat false))*(a.Grants.length+1)≤6*21:=Nat.mul_le_mul (by omega) (by omega)
    omega⟩
  exact ⟨z2,z3,h5⟩
 have outer:=kO (B:=fun v=>lI a v.1 v.2) a.Many.toNat (fun n=>((List.range n).map (e7 a.Many.toNat a.Grants),n)) (x:=(allRows a.Many.toNat a.Grants,a.Many.toNat,false))
   (fun n hn=>by
    obtain ⟨z2,z3,hin⟩:=middle ((List.range n).map (e7 a.Many.toNat a.Grants)) n hn
    simp only [lI,show (n:Int)<a.Many by omega,aq,dx (show 0≤a.Many by omega),af,show a.Many.toNat≤1000000000 by omega,hin,eQ n (by omega),
     show ((List.range n).map (e7 a.Many.toNat a.Grants)).length + [e7 a.Many.toNat a.Grants n].length≤1000000000 by simp;omega,oA,cI,bZ,kB])
   (by simp only [lI,show ¬((a.Many.toNat:Nat):Int)<a.Many by omega,aM,allRows,qc])
 have outer':lp (fun v=>lI a v.1 v.2) (([]:List (List Bool)),0)=_:=outer
 simp only [ue,outer',af]
end
theorem EW{m:Nat}{gs:List cG}{i:Nat}(h:i<m):(allRows m gs)[i]? =some (e7 m gs i):=by
 unfold allRows;rw [gw,zc h];rfl
theorem Ok{m:Nat}{gs:List cG}{i k:Nat}(h:k<m):(e7 m gs i)[k]? =some (dM m gs i k):=fJ (by rw [yh];exact h)
def qL(m:Nat)(gs:List cG)(ps:List bD)(who:Nat):Bool:=ps.all fun p=>dM m gs who p.Owner.toNat||p.Names.any fun n=>dM m gs who n.toNat
def cY(a:aj)(l:Label):Level:=⟨(List.range a.Many.toNat).map (qL a.Many.toNat a.Grants l.Read),(List.range a.Many.toNat).map (qL a.Many.toNat a.Grants l.Write)⟩
def PL(m:Int)(ps:List bD):Prop:=ps.length≤4∧∀ p∈ps,bL m p.Owner=true∧p.Names.length≤6∧∀ n∈p.Names,bL m n=true
theorem BD{m:Int}{ps:List bD}(h:sM m ps=0):PL m ps:=⟨(Bz h).1,fun p hp=>Hf ((Bz h).2 p hp)⟩
theorem Hm{β:Type}(l:List β)(p:β→Bool):(!l.any fun x=>!p x)=l.all p:=by
 induction l with
 | nil=>rfl
 | cons x l ih=>simp only [yN,yQ,←ih];cases p x<;>simp
section
variable (a:aj)(hok:eP a=0)
include hok
theorem VV(ps:List bD)(hp:PL a.Many ps):qJ ps a (allRows a.Many.toNat a.Grants)=some ((List.range a.Many.toNat).map (qL a.Many.toNat a.Grants ps)):=by
 obtain ⟨h1,h2,h3,h4⟩:=lB hok
 have hin:∀ (n:Int),bL a.Many n=true→∀ who:Nat,who<a.Many.toNat→l8 n (allRows a.Many.toNat a.Grants) (who:Int)=some (dM a.Many.toNat a.Grants who n.toNat):=by
  intro n hn who hw
  obtain ⟨hn1,hn2⟩:=z7.1 hn
  simp [l8,Bg,EW hw,dx hn1,Ok (gs:=a.Grants) (i:=who) (show n.toNat<a.Many.toNat by omega)]
 have hnot:∀ p∈ps,∀ who:Nat,who<a.Many.toNat→n9 p (allRows a.Many.toNat a.Grants) (who:Int)=some (!(dM a.Many.toNat a.Grants who p.Owner.toNat||p.Names.any fun n=>dM a.Many.toNat a.Grants who n.toNat)):=by
  intro p hpp who hw
  obtain ⟨ho,hl,hn⟩:=hp.2 p hpp
  obtain ⟨ho1,ho2⟩:=z7.1 ho
  have hc:fq p.Names (allRows a.Many.toNat a.Grants) (who:Int)=some (p.Names.any fun n=>dM a.Many.toNat a.Grants who n.toNat):=
   uT (fun y=>l8 y (allRows a.Many.toNat a.Grants) (who:Int)) _ p.Names (by omega) (fun y hy=>hin y (hn y hy) who hw)
  simp only [n9,Bg,af,EW hw,dx ho1,Ok (gs:=a.Grants) (i:=who) (show p.Owner.toNat<a.Many.toNat by omega),hc]
  cases dM a.Many.toNat a.Grants who p.Owner.toNat<;>simp
 have hl:=kO (B:=fun v=>lJ ps a (allRows a.Many.toNat a.Grants) v.1 v.2) a.Many.toNat (fun k=>((List.range k).map (qL a.Many.toNat a.Grants ps),k)) (x:=((List.range a.Many.toNat).map (qL a.Many.toNat a.Grants ps),a.Many.toNat,false))
  (fun k hk=>by
   have hc:gb ps (allRows a.Many.toNat a.Grants) (k:Int)=some (ps.any fun p=>!(dM a.Many.toNat a.Grants k p.Owner.toNat||p.Names.any fun n=>dM a.Many.toNat a.Grants k n.toNat)):=
    uT (fun y=>n9 y (allRows a.Many.toNat a.Grants) (k:Int)) _ ps (by have:=hp.1;omega) (fun y hy=>hnot y hy k hk)
   have hr:((List.range k).map (qL a.Many.toNat a.Grants ps)).length + [qL a.Many.toNat a.Grants ps k].length≤1000000000:=by simp;omega
   simp only [lJ,show (k:Int)<a.Many by omega,aq,hc,af,eQ k (by omega),Hm]
   rw [oA,cI]
   simp only [bZ,kB]
   exact ab hr)
  (by simp only [lJ,show ¬((a.Many.toNat:Nat):Int)<a.Many by omega,aM,qc])
 have hl':lp (fun v=>lJ ps a (allRows a.Many.toNat a.Grants) v.1 v.2) (([]:List Bool),0)=_:=hl
 simp only [qJ,hl',af]
theorem Mk(l:Label)(hf:dE a.Many l=0):lx a l=some (cY a l):=by
 obtain ⟨hr,hw⟩:=BA hf
 simp only [lx,ahK a hok,af,VV a hok _ (BD hr),VV a hok _ (BD hw),cY]
end
def bA(n:Nat)(l:Level):Prop:=l.Readers.length=n∧l.Writers.length=n
def Dm(n:Nat)(x y:List Bool):Bool:=(List.range n).all fun k=>!on x k||on y k
def pn(n:Nat)(x y:List Bool):List Bool:=(List.range n).map fun k=>on x k&&on y k
def uH(n:Nat)(x y:List Bool):List Bool:=(List.range n).map fun k=>on x k||on y k
theorem WE(n:Nat)(x y:List Bool):(!(List.range n).any fun k=>on x k&&!on y k)=Dm n x y:=by
 unfold Dm
 rw [←Hm]
 congr 2
 funext k
 cases on x k<;>cases on y k<;>rfl
section
variable {n:Nat}(hn:n≤1000000)
include hn
theorem Rs{x y:List Bool}(hx:x.length=n)(hy:y.length=n):sw x y=some (Dm n x y):=by
 have h:=Wu (B:=fun v=>kG x y v) n (fun k=>on x k&&!on y k) id (x:=.inl ()) (y:=.inr (n,false))
  (fun k hk hp=>by
   simp only [kG,id,show (k:Int)<(x.length:Int) by omega,aq,fJ (show k<x.length by omega),fJ (show k<y.length by omega),af,eQ k (by omega)]
   cases hxk:on x k with
   | false=>simp
   | true=>
    have:on y k=true:=by simpa [hxk] using hp
    simp [this])
  (fun k hk hp=>by
   have he:on x k=true∧on y k=false:=by simpa using hp
   simp only [kG,id,show (k:Int)<(x.length:Int) by omega,aq,fJ (show k<x.length by omega),fJ (show k<y.length by omega),af,he.1,he.2]
   simp)
  (by simp [kG,hx])
 have h':lp (fun v=>kG x y v) 0=_:=h
 simp only [sw,h',af,←WE]
 cases (List.range n).any (fun k=>on x k&&!on y k)<;>simp
theorem acd{x y:List Bool}(hx:x.length=n)(hy:y.length=n):vB x y=some (pn n x y):=by
 have h:=kO (B:=fun v=>mn x y v.1 v.2) n (fun k=>(pn k x y,k)) (x:=(pn n x y,n,false))
  (fun k hk=>by
   have r:∀ b:Bool,(pn k x y).length + [b].length≤1000000000:=fun b=>by simp [pn];omega
   simp only [mn,show (k:Int)<(x.length:Int) by omega,aq,fJ (show k<x.length by omega),fJ (show k<y.length by omega),af,eQ k (by omega),r,
    show pn (k+1) x y=pn k x y++[on x k&&on y k] by simp [pn,oA]]
   cases on x k<;>simp)
  (by simp [mn,hx])
 have h':lp (fun v=>mn x y v.1 v.2) (([]:List Bool),0)=_:=h
 simp only [vB,h',af]
theorem ahL{x y:List Bool}(hx:x.length=n)(hy:y.length=n):xv x y=some (uH n x y):=by
 have h:=kO (B:=fun v=>n7 x y v.1 v.2) n (fun k=>(uH k x y,k)) (x:=(uH n x y,n,false))
  (fun k hk=>by
   have r:∀ b:Bool,(uH k x y).length + [b].length≤1000000000:=fun b=>by simp [uH];omega
   simp only [n7,show (k:Int)<(x.length:Int) by omega,aq,fJ (show k<x.length by omega),fJ (show k<y.length by omega),af,eQ k (by omega),r,
    show uH (k+1) x y=uH k x y++[on x k||on y k] by simp [uH,oA]]
   cases on x k<;>simp)
  (by simp [n7,hx])
 have h':lp (fun v=>n7 x y v.1 v.2) (([]:List Bool),0)=_:=h
 simp only [xv,h',af]
end
def o6(n:Nat)(l m:Level):Bool:=Dm n m.Readers l.Readers&&Dm n l.Writers m.Writers
def cZ(n:Nat)(l m:Level):Level:=⟨pn n l.Readers m.Readers,uH n l.Writers m.Writers⟩
theorem I4{a:aj}(h:eP a=0):a.Many.toNat≤6∧1≤a.Many.toNat∧((a.Many.toNat:Nat):Int)=a.Many:=by
 obtain ⟨h1,h2,_⟩:=lB h
 omega
section
variable {n:Nat}(hn:n≤1000000){l m:Level}(hl:bA n l)(hm:bA n m)
include hn hl hm
theorem Ef:mo l m=some (o6 n l m):=by
 unfold mo o6
 rw [Rs hn hm.1 hl.1,Rs hn hl.2 hm.2,af]
 cases Dm n m.Readers l.Readers<;>simp
theorem uf:ez l m=some (cZ n l m):=by
 simp only [ez,acd hn hl.1 hm.1,ahL hn hl.2 hm.2,af,cZ]
end
theorem et(n:Nat)(l m:Level):bA n (cZ n l m):=by simp [bA,cZ,pn,uH]
theorem sD(a:aj)(l:Label):bA a.Many.toNat (cY a l):=by simp [bA,cY]
end Go.Proofs.YtkkkkondjclcnaaGreat.A
