/- Who acts for whom, as plain mathematics: what can be reached; roundsR of rows; rows that are closed. -/
import Derived.Test.YtlmphbbhaeampaaGreatHeadF
import Derived.Test.YtlmphbbhaeampaaGreatFE
set_option linter.all false
namespace Go.Proofs.YtlmphbbhaeampaaGreat.A
open Go
inductive Reach(gs:List dv)(i:Nat):Nat→Prop where
 | refl:Reach gs i i
 | step {j:Nat} (g:dv) (h:Reach gs i j) (hg:g∈gs) (hw:g.Who=(j:Int)):Reach gs i g.For.toNat
def on(row:List Bool)(k:Nat):Bool:=row.getD k false
def Bv(gs:List dv)(row:List Bool):Prop:=∀ g∈gs,on row g.Who.toNat=true→on row g.For.toNat=true
variable {row:List Bool}{j k:Nat}
theorem MK(hj:j<row.length):on (row.set j true) k=(decide (j=k)||on row k):=by
 grind [on]
variable {gs:List dv}{i:Nat}
theorem Ed(hc:Bv gs row)(hi:on row i=true):∀ k,Reach gs i k→on row k=true:=by
 intro k h
 induction h with
 | refl=>exact hi
 | step g h hg hw ih=>exact hc g hg (by grind)
theorem adr{row':List Bool}(hl:row.length=row'.length)(hc:Bv gs row)(hi:on row i=true)(hs:∀ k,on row k=true→Reach gs i k)(aw:Bv gs row')(av:on row' i=true)(ap:∀ k,on row' k=true→Reach gs i k):row=row':=by
 apply List.ext_getElem hl
 intro k h1 h2
 have he:∀ {r:List Bool}(h:k<r.length),on r k=r[k]:=by grind [on]
 rw [←he h1,←he h2]
 cases hk:on row k with
 | true=>grind [Ed]
 | false=>
  grind [Ed]
def lF(row:List Bool)(g:dv):List Bool:=if on row g.Who.toNat=true then row.set g.For.toNat true else row
def iW(gs:List dv)(row:List Bool):List Bool:=gs.foldl lF row
def ik(gs:List dv):Nat→List Bool→List Bool
 | 0,row=>row
 | n+1,row=>iW gs (ik gs n row)
theorem xP(row:List Bool)(g:dv):(lF row g).length=row.length:=by grind [lF]
theorem Kg(gs:List dv):∀ row,(iW gs row).length=row.length:=by
 induction gs with
 | nil=>intro row;rfl
 | cons g gs ih=>grind [iW,xP]
theorem oa(gs:List dv)(row:List Bool):∀ n,(ik gs n row).length=row.length
 | 0=>rfl
 | n+1=>(Kg gs _).trans (oa gs row n)
def Good(m:Nat)(gs:List dv):Prop:=∀ g∈gs,(0≤g.Who∧g.Who<m)∧0≤g.For∧g.For<m
variable {g:dv}
theorem Kh{m:Nat}(hl:row.length=m)(hg:0≤g.For∧g.For<m)(k:Nat):on (lF row g) k=(on row k||(on row g.Who.toNat&&decide (g.For.toNat=k))):=by
 grind [lF,on]
theorem Qe{m:Nat}(hg:Good m gs):∀ row,row.length=m→∀ k,on row k=true→on (iW gs row) k=true:=by
 induction gs with
 | nil=>intro row _ k h;exact h
 | cons g gs ih=>
  intro row hl k h
  rw [iW,wh]
  exact ih (fun x hx=>hg x (by simp [hx])) _ ((xP row g).trans hl) k (by rw [Kh hl (hg g (by simp)).2,h];rfl)
theorem N4{m:Nat}{gs':List dv}(hg:Good m gs)(o:∀ g∈gs,g∈gs'):∀ row,row.length=m→(∀ k,on row k=true→Reach gs' i k)→∀ k,on (iW gs row) k=true→Reach gs' i k:=by
 induction gs with
 | nil=>intro row _ h k hk;exact h k hk
 | cons g gs ih=>
  intro row hl h k hk
  rw [iW,wh] at hk
  refine ih (fun x hx=>hg x (by simp [hx])) (fun x hx=>o x (by simp [hx])) _ ((xP row g).trans hl) (fun k hk=>?_) k hk
  have aa:=hg g (by simp)
  rw [Kh hl aa.2] at hk
  simp only [zF,aL,eg] at hk
  rcases hk with hk | ⟨hk,rfl⟩
  ·exact h k hk
  ·exact .step g (h _ hk) (o g (by simp)) (by omega)
def lV(row:List Bool):Nat:=row.countP id
theorem So(row:List Bool):lV row≤row.length:=List.countP_le_length
theorem Jl(hj:j<row.length)(h:on row j=false):lV (row.set j true)=lV row+1:=by
 grind [on,lV]
theorem ML(h:on row j=true):row.set j true=row:=by
 apply Dr
 grind [on]
theorem Qf{m:Nat}(hl:row.length=m)(hg:0≤g.For∧g.For<m):lV row≤lV (lF row g)∧(on row g.Who.toNat=true→on row g.For.toNat=false→lV row<lV (lF row g)):=by
 unfold lF
 split
 ·cases hf:on row g.For.toNat with
  | true=>grind [ML]
  | false=>grind [Jl]
 grind
theorem Sq{m:Nat}(hg:Good m gs):∀ row,row.length=m→lV row≤lV (iW gs row)∧(lV row=lV (iW gs row)→Bv gs row∧iW gs row=row):=by
 induction gs with
 | nil=>intro row _;exact ⟨aY _,fun _=>⟨fun g h=>by simp at h,rfl⟩⟩
 | cons g gs ih=>
  intro row hl
  obtain ⟨h1,h2⟩:=Qf (row:=row) hl (hg g (by simp)).2
  obtain ⟨h3,h4⟩:=ih (fun x hx=>hg x (by simp [hx])) (lF row g) ((xP row g).trans hl)
  have e:iW (g::gs) row=iW gs (lF row g):=rfl
  rw [e]
  refine ⟨by omega,fun hc=>?_⟩
  obtain ⟨h5,h6⟩:=h4 (by omega)
  have u:lF row g=row:=by
   grind [lF,ML]
  rw [u] at h5 h6 ⊢
  refine ⟨fun x hx ho=>?_,h6⟩
  rcases dh.1 hx with rfl | hx
  ·grind
  ·exact h5 x hx ho
theorem HV{m:Nat}{gs:List dv}(hg:Good m gs)(row:List Bool)(hl:row.length=m)(h1:1≤lV row):∀ n,Bv gs (ik gs n row)∨n+1≤lV (ik gs n row)
 | 0=>.inr h1
 | n+1=>by
  have hlen:=(oa gs row n).trans hl
  obtain ⟨h2,h3⟩:=Sq hg (ik gs n row) hlen
  by_cases hc:lV (ik gs n row)=lV (iW gs (ik gs n row))
  ·grind [ik]
  ·rcases HV hg row hl h1 n with h4 | h4
   ·
    exfalso
    apply hc
    have:∀ (gs':List dv),(∀ g∈gs',g∈gs)→iW gs' (ik gs n row)=ik gs n row:=by
     intro gs' hs
     induction gs' with
     | nil=>rfl
     | cons g gs' ih=>
      rw [iW,wh]
      have:lF (ik gs n row) g=ik gs n row:=by
       unfold lF
       split
       ·rename_i ho;exact ML (h4 g (hs g (by simp)) ho)
       ·rfl
      rw [this]
      exact ih fun x hx=>hs x (by simp [hx])
    grind
   grind [ik]
theorem Ee{m i:Nat}{gs:List dv}(hg:Good m gs)(row:List Bool)(hl:row.length=m)(h:∀ k,on row k=true→Reach gs i k):∀ n k,on (ik gs n row) k=true→Reach gs i k
 | 0,k,hk=>h k hk
 | n+1,k,hk=>N4 hg (fun _ h=>h) _ ((oa gs row n).trans hl) (Ee hg row hl h n) k hk
theorem Ef{m:Nat}{gs:List dv}(hg:Good m gs)(row:List Bool)(hl:row.length=m)(k:Nat)(h:on row k=true):∀ n,on (ik gs n row) k=true
 | 0=>h
 | n+1=>Qe hg _ ((oa gs row n).trans hl) k (Ef hg row hl k h n)
def yP(m i:Nat):List Bool:=(List.replicate m false).set i true
def gR(m:Nat)(gs:List dv)(i:Nat):List Bool:=ik gs m (yP m i)
def eU(m:Nat)(gs:List dv)(i k:Nat):Bool:=on (gR m gs i) k
theorem Wk{m:Nat}(hi:i<m)(k:Nat):on (yP m i) k=decide (i=k):=by
 grind [yP,on]
theorem yR(m:Nat)(gs:List dv)(i:Nat):(gR m gs i).length=m:=(oa _ _ _).trans (by simp [yP])
theorem N5{m:Nat}(hg:Good m gs)(hi:i<m):Bv gs (gR m gs i)∧on (gR m gs i) i=true∧∀ k,on (gR m gs i) k=true→Reach gs i k:=by
 have hl:(yP m i).length=m:=by simp [yP]
 have N:=fun k=>Wk (m:=m) hi k
 have J:1≤lV (yP m i):=by
  simp_all [Jl,on,yP]
 refine ⟨?_,Ef hg _ hl i (by rw [N];simp) m,Ee hg _ hl (fun k hk=>?_) m⟩
 ·rcases HV hg _ hl J m with h | h
  ·exact h
  grind [So,oa]
 ·rw [N] at hk
  obtain rfl:i=k:=by simpa using hk
  exact .refl
variable [Lp]
theorem pK(h:k<row.length):row[k]? =some (on row k):=by
 grind [on]
theorem oZ{α:Type}{l:List α}(h:k<l.length):l.take (k+1)=l.take k++[l[k]]:=by
 grind [List.take_add_one]
section
variable (a:an)(s:jV a=0)
include s
theorem Pc:Good a.Many.toNat a.Grants:=by
 obtain ⟨h1,h2,h3,h4⟩:=oY s
 intro g hg
 grind
end
def allRows(m:Nat)(gs:List dv):List (List Bool):=(List.range m).map (gR m gs)
section
variable (a:an)(s:jV a=0)
include s
theorem Vx:qU a=some (allRows a.Many.toNat a.Grants):=by
 obtain ⟨h1,h2,h3,h4⟩:=oY s
 have hg:=Pc a s
 have inner:∀ (out:List (List Bool))(n:Nat)(row:List Bool)(c:Nat)(y:Int)(left:List Int),left.length≤1000→
   lp (fun v=>ml a y v.1 v.2) (left,0)=some (left++(a.Grants.filter (fun g=>g.Who==y)).map (·.For),a.Grants.length,false):=by
  intro out n row c y left au
  have h:=ny (B:=fun v=>ml a y v.1 v.2) a.Grants.length (fun j=>(left++((a.Grants.take j).filter (fun g=>g.Who==y)).map (·.For),j))
   (x:=(left++(a.Grants.filter (fun g=>g.Who==y)).map (·.For),a.Grants.length,false))
   (fun j hj=>by
    have ac:((a.Grants.take j).filter (fun g=>g.Who==y)).length≤20:=by grind
    have L:(left++((a.Grants.take j).filter (fun g=>g.Who==y)).map (·.For)).length + [a.Grants[j].For].length≤1000000000:=by
     grind
    grind [ml,kt,oZ])
   (by simp [ml])
  simpa using h
 have middle:∀ (out:List (List Bool))(n:Nat),n<a.Many.toNat→∃ z2 z3,lp (fun v=>kl a v.1 v.2) ([(n:Int)],List.replicate a.Many.toNat false)=some (gR a.Many.toNat a.Grants n,z2,z3):=by
  intro out n hn
  have hw:=kT (B:=fun v=>kl a v.1 v.2)
   (fun q=>(a.Many.toNat - lV q.2)*(a.Grants.length+1)+q.1.length)
   (fun q=>q.2.length=a.Many.toNat∧(∀ x∈q.1,0≤x∧x<a.Many∧Reach a.Grants n x.toNat)∧(∀ k,on q.2 k=true→Reach a.Grants n k)∧(on q.2 n=true∨(n:Int)∈q.1)∧
    (∀ g∈a.Grants,on q.2 g.Who.toNat=true→on q.2 g.For.toNat=true∨g.For∈q.1)∧(a.Many.toNat - lV q.2)*(a.Grants.length+1)+q.1.length≤500)
   (fun r=>∃ z2 z3,r=(gR a.Many.toNat a.Grants n,z2,z3))
   (fun ⟨left,row⟩ ⟨hl,f,t,d,R,hm⟩=>by
    simp only at hl f t d R hm ⊢
    by_cases hz:0<left.length
    ·
     right
     have F:0<(left.length:Int):=by omega
     have O:left.length - 1<left.length:=by omega
     have hy:=aV O
     generalize S:left[left.length - 1]=y at hy
     have U:y∈left:=bu hy
     obtain ⟨W,am,V⟩:=f y U
     have E:left=left.take (left.length - 1)++[y]:=by
      have:=oZ (l:=left) (k:=left.length - 1) O
      rw [S,show left.length - 1+1=left.length by omega,List.take_length] at this
      exact this
     have X:IntKind.i64.wrap ((left.length:Int) - 1)=(left.length:Int) - 1:=wrap64 (by omega) (by omega)
     have I:cV ((left.length:Int) - 1)=some (left.length - 1):=by rw [cA (by omega)];congr 1;omega
     have C:row[y.toNat]? =some (on row y.toNat):=pK (by omega)
     have o:∀ x∈left.take (left.length - 1),x∈left:=by grind
     have M:∀ x∈left,x=y∨x∈left.take (left.length - 1):=by
      grind
     have z:(left.take (left.length - 1)).length=left.length - 1:=by simp
     cases ho:on row y.toNat with
     | true=>
      refine ⟨(left.take (left.length - 1),row),?_,⟨hl,fun x hx=>f x (o x hx),t,?_,fun g D hw=>?_,?_⟩,?_⟩
      ·simp only [kl,F,aA,X,I,ad,hy,show left.length - 1≤left.length by omega,cA W,C,ho]
      ·rcases d with h | h
       ·exact .inl h
       ·rcases M _ h with rfl | h
        ·left;simpa using ho
        ·exact .inr h
      ·rcases R g D hw with h | h
       ·exact .inl h
       ·rcases M _ h with h | h
        ·left;simp only;rw [h];exact ho
        ·exact .inr h
      ·grind
      grind
     | false=>
      have al:(left.take (left.length - 1)).length≤1000:=by
       grind
      have P:=inner out n row y.toNat y (left.take (left.length - 1)) al
      have ac:((a.Grants.filter (fun g=>g.Who==y)).map (·.For)).length≤a.Grants.length:=by grind
      have T:y.toNat<row.length:=by omega
      have ah:=Jl T ho
      have K:=So (row.set y.toNat true)
      rw [pc,hl] at K
      have w:(a.Many.toNat - lV (row.set y.toNat true))*(a.Grants.length+1)+(left.take (left.length - 1)++(a.Grants.filter (fun g=>g.Who==y)).map (·.For)).length<(a.Many.toNat - lV row)*(a.Grants.length+1)+left.length:=by
       rw [nU,z,ah]
       have e:a.Many.toNat - lV row=(a.Many.toNat - (lV row+1))+1:=by omega
       grind [Nat.add_mul]
      refine ⟨(left.take (left.length - 1)++(a.Grants.filter (fun g=>g.Who==y)).map (·.For),row.set y.toNat true),?_,⟨by simpa using hl,fun x hx=>?_,fun k hk=>?_,?_,fun g D hw=>?_,?_⟩,w⟩
      ·grind [kl,cA]
      ·rcases eh.1 hx with hx | hx
       ·grind
       ·obtain ⟨g,D,rfl⟩:=iG.1 hx
        obtain ⟨Q,ab⟩:=List.mem_filter.1 D
        have ao:g.Who=y:=by simpa using ab
        obtain ⟨_,ag,ae⟩:=h4 g Q
        exact ⟨ag,ae,.step g V Q (by grind)⟩
      ·grind [MK]
      ·grind [MK]
      ·grind [MK]
      grind
    ·left
     have H:left=[]:=by grind
     subst H
     obtain ⟨ak,aj,ai⟩:=N5 hg hn
     have heq:row=gR a.Many.toNat a.Grants n:=adr (hl.trans (yR ..).symm) (fun g D hw=>by grind) (d.resolve_right (by simp)) t ak aj ai
     simp_all [kl])
  obtain ⟨r,h5,z2,z3,rfl⟩:=hw ([(n:Int)],List.replicate a.Many.toNat false) ⟨by simp,fun x hx=>by
    simp_all [Reach.refl],by grind [on],.inr (by simp),by grind [on],by
    simp only [wq]
    have h6:(a.Many.toNat - lV (List.replicate a.Many.toNat false))*(a.Grants.length+1)≤6*21:=Nat.mul_le_mul (by omega) (by omega)
    omega⟩
  grind
 have outer:=ny (B:=fun v=>oA a v.1 v.2) a.Many.toNat (fun n=>((List.range n).map (gR a.Many.toNat a.Grants),n)) (x:=(allRows a.Many.toNat a.Grants,a.Many.toNat,false))
   (fun n hn=>by
    obtain ⟨z2,z3,P⟩:=middle ((List.range n).map (gR a.Many.toNat a.Grants)) n hn
    grind [oA,cA,kt,List.range_succ])
   (by grind [oA,allRows])
 grind [qU]
end
theorem AN{m:Nat}(h:i<m):(allRows m gs)[i]? =some (gR m gs i):=by
 grind [allRows]
theorem Jm{m:Nat}(h:k<m):(gR m gs i)[k]? =some (eU m gs i k):=pK (by rw [yR];exact h)
def vt(m:Nat)(gs:List dv)(ps:List cb)(who:Nat):Bool:=ps.all fun p=>eU m gs who p.Owner.toNat||p.Names.any fun n=>eU m gs who n.toNat
def dm(a:an)(l:Label):Level:=⟨(List.range a.Many.toNat).map (vt a.Many.toNat a.Grants l.Read),(List.range a.Many.toNat).map (vt a.Many.toNat a.Grants l.Write)⟩
def Qg(m:Int)(ps:List cb):Prop:=ps.length≤4∧∀ p∈ps,dk m p.Owner=true∧p.Names.length≤6∧∀ n∈p.Names,dk m n=true
theorem MN{m:Int}{ps:List cb}(h:vX m ps=0):Qg m ps:=⟨(yJ h).1,fun p hp=>HT ((yJ h).2 p hp)⟩
theorem MO{β:Type}(l:List β)(p:β→Bool):(!l.any fun x=>!p x)=l.all p:=by
 grind
section
variable (a:an)(s:jV a=0)
include s
theorem afN(ps:List cb)(hp:Qg a.Many ps):qV ps a (allRows a.Many.toNat a.Grants)=some ((List.range a.Many.toNat).map (vt a.Many.toNat a.Grants ps)):=by
 obtain ⟨h1,h2,h3,h4⟩:=oY s
 have P:∀ (n:Int),dk a.Many n=true→∀ who:Nat,who<a.Many.toNat→mE n (allRows a.Many.toNat a.Grants) (who:Int)=some (eU a.Many.toNat a.Grants who n.toNat):=by
  intro n hn who hw
  obtain ⟨I,ar⟩:=vY.1 hn
  simp [mE,F6,AN hw,cA I,Jm (gs:=a.Grants) (i:=who) (show n.toNat<a.Many.toNat by omega)]
 have G:∀ p∈ps,∀ who:Nat,who<a.Many.toNat→oB p (allRows a.Many.toNat a.Grants) (who:Int)=some (!(eU a.Many.toNat a.Grants who p.Owner.toNat||p.Names.any fun n=>eU a.Many.toNat a.Grants who n.toNat)):=by
  intro p Y who hw
  obtain ⟨ho,hl,hn⟩:=hp.2 p Y
  obtain ⟨Z,aq⟩:=vY.1 ho
  have hc:fE p.Names (allRows a.Many.toNat a.Grants) (who:Int)=some (p.Names.any fun n=>eU a.Many.toNat a.Grants who n.toNat):=
   pj (fun y=>mE y (allRows a.Many.toNat a.Grants) (who:Int)) _ p.Names (by omega) ((by grind))
  simp only [oB,F6,ad,AN hw,cA Z,Jm (gs:=a.Grants) (i:=who) (show p.Owner.toNat<a.Many.toNat by omega),hc]
  grind
 have hl:=ny (B:=fun v=>oC ps a (allRows a.Many.toNat a.Grants) v.1 v.2) a.Many.toNat (fun k=>((List.range k).map (vt a.Many.toNat a.Grants ps),k)) (x:=((List.range a.Many.toNat).map (vt a.Many.toNat a.Grants ps),a.Many.toNat,false))
  (fun k hk=>by
   have hc:gI ps (allRows a.Many.toNat a.Grants) (k:Int)=some (ps.any fun p=>!(eU a.Many.toNat a.Grants k p.Owner.toNat||p.Names.any fun n=>eU a.Many.toNat a.Grants k n.toNat)):=
    pj (fun y=>oB y (allRows a.Many.toNat a.Grants) (k:Int)) _ ps (by have:=hp.1;omega) (fun y hy=>G y hy k hk)
   have hr:((List.range k).map (vt a.Many.toNat a.Grants ps)).length + [vt a.Many.toNat a.Grants ps k].length≤1000000000:=by simp;omega
   simp only [oC,show (k:Int)<a.Many by omega,aA,hc,ad,kt k (by omega),MO]
   rw [zH,dI]
   simp only [eu,List.map_nil]
   exact af hr)
  (by grind [oC])
 grind [qV]
theorem Gp(l:Label)(hf:kx a.Many l=0):iB a l=some (dm a l):=by
 grind [vo,iB,Vx,afN,MN,dm]
end
def cN(n:Nat)(l:Level):Prop:=l.Readers.length=n∧l.Writers.length=n
def Gq(n:Nat)(x y:List Bool):Bool:=(List.range n).all fun k=>!on x k||on y k
def xg(n:Nat)(x y:List Bool):List Bool:=(List.range n).map fun k=>on x k&&on y k
def C5(n:Nat)(x y:List Bool):List Bool:=(List.range n).map fun k=>on x k||on y k
theorem Wl(n:Nat)(x y:List Bool):(!(List.range n).any fun k=>on x k&&!on y k)=Gq n x y:=by
 grind [Gq]
section
variable {n:Nat}(hn:n≤1000000)
include hn
theorem Sr{x y:List Bool}(hx:x.length=n)(hy:y.length=n):sj x y=some (Gq n x y):=by
 have h:=V7 (B:=fun v=>m8 x y v) n (fun k=>on x k&&!on y k) id (x:=.inl ()) (y:=.inr (n,false))
  ((by grind [m8,kt,on]))
  ((by grind [m8,pK]))
  (by simp [m8,hx])
 grind [sj,Wl]
theorem ads{x y:List Bool}(hx:x.length=n)(hy:y.length=n):vT x y=some (xg n x y):=by
 have h:=ny (B:=fun v=>m7 x y v.1 v.2) n (fun k=>(xg k x y,k)) (x:=(xg n x y,n,false))
  (fun k hk=>by
   have r:∀ b:Bool,(xg k x y).length + [b].length≤1000000000:=fun b=>by simp [xg];omega
   simp only [m7,show (k:Int)<(x.length:Int) by omega,aA,pK (show k<x.length by omega),pK (show k<y.length by omega),ad,kt k (by omega),r,
    show xg (k+1) x y=xg k x y++[on x k&&on y k] by simp [xg,zH]]
   grind)
  (by simp [m7,hx])
 have h':lp (fun v=>m7 x y v.1 v.2) (([]:List Bool),0)=_:=h
 grind [vT]
theorem afO{x y:List Bool}(hx:x.length=n)(hy:y.length=n):xO x y=some (C5 n x y):=by
 have h:=ny (B:=fun v=>oz x y v.1 v.2) n (fun k=>(C5 k x y,k)) (x:=(C5 n x y,n,false))
  (fun k hk=>by
   have r:∀ b:Bool,(C5 k x y).length + [b].length≤1000000000:=fun b=>by simp [C5];omega
   simp only [oz,show (k:Int)<(x.length:Int) by omega,aA,pK (show k<x.length by omega),pK (show k<y.length by omega),ad,kt k (by omega),r,
    show C5 (k+1) x y=C5 k x y++[on x k||on y k] by simp [C5,zH]]
   grind)
  (by simp [oz,hx])
 have h':lp (fun v=>oz x y v.1 v.2) (([]:List Bool),0)=_:=h
 grind [xO]
end
def iu(n:Nat)(l m:Level):Bool:=Gq n m.Readers l.Readers&&Gq n l.Writers m.Writers
def eF(n:Nat)(l m:Level):Level:=⟨xg n l.Readers m.Readers,C5 n l.Writers m.Writers⟩
theorem E2{a:an}(h:jV a=0):a.Many.toNat≤6∧1≤a.Many.toNat∧((a.Many.toNat:Nat):Int)=a.Many:=by
 obtain ⟨h1,h2,_⟩:=oY h
 omega
section
variable {n:Nat}(hn:n≤1000000){l m:Level}(hl:cN n l)(hm:cN n m)
include hn hl hm
theorem ye:gd l m=some (iu n l m):=by
 unfold gd iu
 rw [Sr hn hm.1 hl.1,Sr hn hl.2 hm.2,ad]
 grind
theorem ua:dL l m=some (eF n l m):=by
 simp only [dL,ads hn hl.1 hm.1,afO hn hl.2 hm.2,ad,eF]
end
theorem fx(n:Nat)(l m:Level):cN n (eF n l m):=by simp [cN,eF,xg,C5]
theorem jc(a:an)(l:Label):cN a.Many.toNat (dm a l):=by simp [cN,dm]
end Go.Proofs.YtlmphbbhaeampaaGreat.A
