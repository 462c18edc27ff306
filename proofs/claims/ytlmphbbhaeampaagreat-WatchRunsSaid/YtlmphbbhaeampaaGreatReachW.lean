/- Who acts for whom, as plain mathematics: what can be reached; roundsR of rows; rows that are closed. -/
import Derived.Test.YtlmphbbhaeampaaGreatHeadF
import Derived.Test.YtlmphbbhaeampaaGreatFE
set_option linter.all false
namespace Go.Proofs.YtlmphbbhaeampaaGreat.A
open Go
inductive Reach(gs:List dO)(i:Nat):Nat→Prop where
 | refl:Reach gs i i
 | step {j:Nat} (g:dO) (h:Reach gs i j) (hg:g∈gs) (hw:g.Who=(j:Int)):Reach gs i g.For.toNat
def on(row:List Bool)(k:Nat):Bool:=row.getD k false
def DU(gs:List dO)(row:List Bool):Prop:=∀ g∈gs,on row g.Who.toNat=true→on row g.For.toNat=true
variable {row:List Bool}{j k:Nat}
theorem Qk(hj:j<row.length):on (row.set j true) k=(decide (j=k)||on row k):=by
 grind [on]
variable {gs:List dO}{i:Nat}
theorem GP(hc:DU gs row)(hi:on row i=true):∀ k,Reach gs i k→on row k=true:=by
 intro k h
 induction h with
 | refl=>exact hi
 | step g h hg hw ih=>exact hc g hg (by grind)
theorem ah8{row':List Bool}(hl:row.length=row'.length)(hc:DU gs row)(hi:on row i=true)(hs:∀ k,on row k=true→Reach gs i k)(aw:DU gs row')(av:on row' i=true)(ap:∀ k,on row' k=true→Reach gs i k):row=row':=by
 apply List.ext_getElem hl
 intro k h1 h2
 have he:∀ {r:List Bool}(h:k<r.length),on r k=r[k]:=by grind [on]
 rw [←he h1,←he h2]
 cases hk:on row k with
 | true=>grind [GP]
 | false=>
  grind [GP]
def mi(row:List Bool)(g:dO):List Bool:=if on row g.Who.toNat=true then row.set g.For.toNat true else row
def jz(gs:List dO)(row:List Bool):List Bool:=gs.foldl mi row
def iP(gs:List dO):Nat→List Bool→List Bool
 | 0,row=>row
 | n+1,row=>jz gs (iP gs n row)
theorem Av(row:List Bool)(g:dO):(mi row g).length=row.length:=by grind [mi]
theorem NS(gs:List dO):∀ row,(jz gs row).length=row.length:=by
 induction gs with
 | nil=>intro row;rfl
 | cons g gs ih=>grind [jz,Av]
theorem oU(gs:List dO)(row:List Bool):∀ n,(iP gs n row).length=row.length
 | 0=>rfl
 | n+1=>(NS gs _).trans (oU gs row n)
def Good(m:Nat)(gs:List dO):Prop:=∀ g∈gs,(0≤g.Who∧g.Who<m)∧0≤g.For∧g.For<m
variable {g:dO}
theorem NT{m:Nat}(hl:row.length=m)(hg:0≤g.For∧g.For<m)(k:Nat):on (mi row g) k=(on row k||(on row g.Who.toNat&&decide (g.For.toNat=k))):=by
 grind [mi,on]
theorem T7{m:Nat}(hg:Good m gs):∀ row,row.length=m→∀ k,on row k=true→on (jz gs row) k=true:=by
 induction gs with
 | nil=>intro row _ k h;exact h
 | cons g gs ih=>
  intro row hl k h
  rw [jz,AO]
  exact ih (fun x hx=>hg x (by simp [hx])) _ ((Av row g).trans hl) k (by rw [NT hl (hg g (by simp)).2,h];rfl)
theorem RE{m:Nat}{gs':List dO}(hg:Good m gs)(o:∀ g∈gs,g∈gs'):∀ row,row.length=m→(∀ k,on row k=true→Reach gs' i k)→∀ k,on (jz gs row) k=true→Reach gs' i k:=by
 induction gs with
 | nil=>intro row _ h k hk;exact h k hk
 | cons g gs ih=>
  intro row hl h k hk
  rw [jz,AO] at hk
  refine ih (fun x hx=>hg x (by simp [hx])) (fun x hx=>o x (by simp [hx])) _ ((Av row g).trans hl) (fun k hk=>?_) k hk
  have aa:=hg g (by simp)
  rw [NT hl aa.2] at hk
  simp only [B7,aY,eS] at hk
  rcases hk with hk | ⟨hk,rfl⟩
  ·exact h k hk
  ·exact .step g (h _ hk) (o g (by simp)) (by omega)
def mD(row:List Bool):Nat:=row.countP id
theorem V4(row:List Bool):mD row≤row.length:=List.countP_le_length
theorem MS(hj:j<row.length)(h:on row j=false):mD (row.set j true)=mD row+1:=by
 grind [on,mD]
theorem Ql(h:on row j=true):row.set j true=row:=by
 apply F7
 grind [on]
theorem T8{m:Nat}(hl:row.length=m)(hg:0≤g.For∧g.For<m):mD row≤mD (mi row g)∧(on row g.Who.toNat=true→on row g.For.toNat=false→mD row<mD (mi row g)):=by
 unfold mi
 split
 ·cases hf:on row g.For.toNat with
  | true=>grind [Ql]
  | false=>grind [MS]
 grind
theorem V5{m:Nat}(hg:Good m gs):∀ row,row.length=m→mD row≤mD (jz gs row)∧(mD row=mD (jz gs row)→DU gs row∧jz gs row=row):=by
 induction gs with
 | nil=>intro row _;exact ⟨bG _,fun _=>⟨fun g h=>by simp at h,rfl⟩⟩
 | cons g gs ih=>
  intro row hl
  obtain ⟨h1,h2⟩:=T8 (row:=row) hl (hg g (by simp)).2
  obtain ⟨h3,h4⟩:=ih (fun x hx=>hg x (by simp [hx])) (mi row g) ((Av row g).trans hl)
  have e:jz (g::gs) row=jz gs (mi row g):=rfl
  rw [e]
  refine ⟨by omega,fun hc=>?_⟩
  obtain ⟨h5,h6⟩:=h4 (by omega)
  have u:mi row g=row:=by
   grind [mi,Ql]
  rw [u] at h5 h6 ⊢
  refine ⟨fun x hx ho=>?_,h6⟩
  rcases eA.1 hx with rfl | hx
  ·grind
  ·exact h5 x hx ho
theorem K4{m:Nat}{gs:List dO}(hg:Good m gs)(row:List Bool)(hl:row.length=m)(h1:1≤mD row):∀ n,DU gs (iP gs n row)∨n+1≤mD (iP gs n row)
 | 0=>.inr h1
 | n+1=>by
  have hlen:=(oU gs row n).trans hl
  obtain ⟨h2,h3⟩:=V5 hg (iP gs n row) hlen
  by_cases hc:mD (iP gs n row)=mD (jz gs (iP gs n row))
  ·grind [iP]
  ·rcases K4 hg row hl h1 n with h4 | h4
   ·
    exfalso
    apply hc
    have:∀ (gs':List dO),(∀ g∈gs',g∈gs)→jz gs' (iP gs n row)=iP gs n row:=by
     intro gs' hs
     induction gs' with
     | nil=>rfl
     | cons g gs' ih=>
      rw [jz,AO]
      have:mi (iP gs n row) g=iP gs n row:=by
       unfold mi
       split
       ·rename_i ho;exact Ql (h4 g (hs g (by simp)) ho)
       ·rfl
      rw [this]
      exact ih fun x hx=>hs x (by simp [hx])
    grind
   grind [iP]
theorem GQ{m i:Nat}{gs:List dO}(hg:Good m gs)(row:List Bool)(hl:row.length=m)(h:∀ k,on row k=true→Reach gs i k):∀ n k,on (iP gs n row) k=true→Reach gs i k
 | 0,k,hk=>h k hk
 | n+1,k,hk=>RE hg (fun _ h=>h) _ ((oU gs row n).trans hl) (GQ hg row hl h n) k hk
theorem GR{m:Nat}{gs:List dO}(hg:Good m gs)(row:List Bool)(hl:row.length=m)(k:Nat)(h:on row k=true):∀ n,on (iP gs n row) k=true
 | 0=>h
 | n+1=>T7 hg _ ((oU gs row n).trans hl) k (GR hg row hl k h n)
def Bj(m i:Nat):List Bool:=(List.replicate m false).set i true
def iE(m:Nat)(gs:List dO)(i:Nat):List Bool:=iP gs m (Bj m i)
def eV(m:Nat)(gs:List dO)(i k:Nat):Bool:=on (iE m gs i) k
theorem aae{m:Nat}(hi:i<m)(k:Nat):on (Bj m i) k=decide (i=k):=by
 grind [Bj,on]
theorem Bk(m:Nat)(gs:List dO)(i:Nat):(iE m gs i).length=m:=(oU _ _ _).trans (by simp [Bj])
theorem RF{m:Nat}(hg:Good m gs)(hi:i<m):DU gs (iE m gs i)∧on (iE m gs i) i=true∧∀ k,on (iE m gs i) k=true→Reach gs i k:=by
 have hl:(Bj m i).length=m:=by simp [Bj]
 have N:=fun k=>aae (m:=m) hi k
 have J:1≤mD (Bj m i):=by
  simp_all [MS,on,Bj]
 refine ⟨?_,GR hg _ hl i (by rw [N];simp) m,GQ hg _ hl (fun k hk=>?_) m⟩
 ·rcases K4 hg _ hl J m with h | h
  ·exact h
  grind [V4,oU]
 ·rw [N] at hk
  obtain rfl:i=k:=by simpa using hk
  exact .refl
variable [Lp]
theorem jW(h:k<row.length):row[k]? =some (on row k):=by
 grind [on]
theorem sE{α:Type}{l:List α}(h:k<l.length):l.take (k+1)=l.take k++[l[k]]:=by
 grind [List.take_add_one]
section
variable (a:ak)(s:iw a=0)
include s
theorem SL:Good a.Many.toNat a.Grants:=by
 obtain ⟨h1,h2,h3,h4⟩:=mU s
 intro g hg
 grind
end
def allRows(m:Nat)(gs:List dO):List (List Bool):=(List.range m).map (iE m gs)
section
variable (a:ak)(s:iw a=0)
include s
theorem Zq:sw a=some (allRows a.Many.toNat a.Grants):=by
 obtain ⟨h1,h2,h3,h4⟩:=mU s
 have hg:=SL a s
 have inner:∀ (out:List (List Bool))(n:Nat)(row:List Bool)(c:Nat)(y:Int)(left:List Int),left.length≤1000→
   lp (fun v=>m0 a y v.1 v.2) (left,0)=some (left++(a.Grants.filter (fun g=>g.Who==y)).map (·.For),a.Grants.length,false):=by
  intro out n row c y left au
  have h:=me (B:=fun v=>m0 a y v.1 v.2) a.Grants.length (fun j=>(left++((a.Grants.take j).filter (fun g=>g.Who==y)).map (·.For),j))
   (x:=(left++(a.Grants.filter (fun g=>g.Who==y)).map (·.For),a.Grants.length,false))
   (fun j hj=>by
    have ad:((a.Grants.take j).filter (fun g=>g.Who==y)).length≤20:=by grind
    have L:(left++((a.Grants.take j).filter (fun g=>g.Who==y)).map (·.For)).length + [a.Grants[j].For].length≤1000000000:=by
     grind
    grind [m0,iL,sE])
   (by simp [m0])
  simpa using h
 have middle:∀ (out:List (List Bool))(n:Nat),n<a.Many.toNat→∃ z2 z3,lp (fun v=>kP a v.1 v.2) ([(n:Int)],List.replicate a.Many.toNat false)=some (iE a.Many.toNat a.Grants n,z2,z3):=by
  intro out n hn
  have hw:=eX (B:=fun v=>kP a v.1 v.2)
   (fun q=>(a.Many.toNat - mD q.2)*(a.Grants.length+1)+q.1.length)
   (fun q=>q.2.length=a.Many.toNat∧(∀ x∈q.1,0≤x∧x<a.Many∧Reach a.Grants n x.toNat)∧(∀ k,on q.2 k=true→Reach a.Grants n k)∧(on q.2 n=true∨(n:Int)∈q.1)∧
    (∀ g∈a.Grants,on q.2 g.Who.toNat=true→on q.2 g.For.toNat=true∨g.For∈q.1)∧(a.Many.toNat - mD q.2)*(a.Grants.length+1)+q.1.length≤500)
   (fun r=>∃ z2 z3,r=(iE a.Many.toNat a.Grants n,z2,z3))
   (fun ⟨left,row⟩ ⟨hl,f,t,d,R,hm⟩=>by
    simp only at hl f t d R hm ⊢
    by_cases hz:0<left.length
    ·
     right
     have F:0<(left.length:Int):=by omega
     have O:left.length - 1<left.length:=by omega
     have hy:=bu O
     generalize S:left[left.length - 1]=y at hy
     have U:y∈left:=cm hy
     obtain ⟨W,an,V⟩:=f y U
     have E:left=left.take (left.length - 1)++[y]:=by
      have:=sE (l:=left) (k:=left.length - 1) O
      rw [S,show left.length - 1+1=left.length by omega,List.take_length] at this
      exact this
     have X:IntKind.i64.wrap ((left.length:Int) - 1)=(left.length:Int) - 1:=wrap64 (by omega) (by omega)
     have I:cU ((left.length:Int) - 1)=some (left.length - 1):=by rw [cb (by omega)];congr 1;omega
     have C:row[y.toNat]? =some (on row y.toNat):=jW (by omega)
     have o:∀ x∈left.take (left.length - 1),x∈left:=by grind
     have M:∀ x∈left,x=y∨x∈left.take (left.length - 1):=by
      grind
     have z:(left.take (left.length - 1)).length=left.length - 1:=by simp
     cases ho:on row y.toNat with
     | true=>
      refine ⟨(left.take (left.length - 1),row),?_,⟨hl,fun x hx=>f x (o x hx),t,?_,fun g D hw=>?_,?_⟩,?_⟩
      ·simp only [kP,F,aH,X,I,ab,hy,show left.length - 1≤left.length by omega,cb W,C,ho]
      ·rcases d with h | h
       ·exact .inl h
       ·rcases M _ h with rfl | h
        ·left;simpa using ho
        ·exact .inr h
      ·rcases R g D hw with h | h
       ·exact .inl h
       ·rcases M _ h with h | h
        ·left;simp only;rw [h];exact ho
        ·exact .inr h
      ·grind
      grind
     | false=>
      have am:(left.take (left.length - 1)).length≤1000:=by
       grind
      have P:=inner out n row y.toNat y (left.take (left.length - 1)) am
      have ad:((a.Grants.filter (fun g=>g.Who==y)).map (·.For)).length≤a.Grants.length:=by grind
      have T:y.toNat<row.length:=by omega
      have ah:=MS T ho
      have K:=V4 (row.set y.toNat true)
      rw [yV,hl] at K
      have w:(a.Many.toNat - mD (row.set y.toNat true))*(a.Grants.length+1)+(left.take (left.length - 1)++(a.Grants.filter (fun g=>g.Who==y)).map (·.For)).length<(a.Many.toNat - mD row)*(a.Grants.length+1)+left.length:=by
       rw [oQ,z,ah]
       have e:a.Many.toNat - mD row=(a.Many.toNat - (mD row+1))+1:=by omega
       grind [Nat.add_mul]
      refine ⟨(left.take (left.length - 1)++(a.Grants.filter (fun g=>g.Who==y)).map (·.For),row.set y.toNat true),?_,⟨by simpa using hl,fun x hx=>?_,fun k hk=>?_,?_,fun g D hw=>?_,?_⟩,w⟩
      ·grind [kP,cb]
      ·rcases iA.1 hx with hx | hx
       ·grind
       ·obtain ⟨g,D,rfl⟩:=oO.1 hx
        obtain ⟨Q,ac⟩:=List.mem_filter.1 D
        have ao:g.Who=y:=by simpa using ac
        obtain ⟨_,ag,ae⟩:=h4 g Q
        exact ⟨ag,ae,.step g V Q (by grind)⟩
      ·grind [Qk]
      ·grind [Qk]
      ·grind [Qk]
      grind
    ·left
     have H:left=[]:=by grind
     subst H
     obtain ⟨al,aj,ai⟩:=RF hg hn
     have heq:row=iE a.Many.toNat a.Grants n:=ah8 (hl.trans (Bk ..).symm) (fun g D hw=>by grind) (d.resolve_right (by simp)) t al aj ai
     simp_all [kP])
  obtain ⟨r,h5,z2,z3,rfl⟩:=hw ([(n:Int)],List.replicate a.Many.toNat false) ⟨by simp,fun x hx=>by
    simp_all [Reach.refl],by grind [on],.inr (by simp),by grind [on],by
    simp only [xz]
    have h6:(a.Many.toNat - mD (List.replicate a.Many.toNat false))*(a.Grants.length+1)≤6*21:=Nat.mul_le_mul (by omega) (by omega)
    omega⟩
  grind
 have outer:=me (B:=fun v=>px a v.1 v.2) a.Many.toNat (fun n=>((List.range n).map (iE a.Many.toNat a.Grants),n)) (x:=(allRows a.Many.toNat a.Grants,a.Many.toNat,false))
   (fun n hn=>by
    obtain ⟨z2,z3,P⟩:=middle ((List.range n).map (iE a.Many.toNat a.Grants)) n hn
    grind [px,cb,iL,List.range_succ])
   (by grind [px,allRows])
 grind [sw]
end
theorem Dj{m:Nat}(h:i<m):(allRows m gs)[i]? =some (iE m gs i):=by
 grind [allRows]
theorem MT{m:Nat}(h:k<m):(iE m gs i)[k]? =some (eV m gs i k):=jW (by rw [Bk];exact h)
def yg(m:Nat)(gs:List dO)(ps:List cp)(who:Nat):Bool:=ps.all fun p=>eV m gs who p.Owner.toNat||p.Names.any fun n=>eV m gs who n.toNat
def iQ(a:ak)(l:Label):Level:=⟨(List.range a.Many.toNat).map (yg a.Many.toNat a.Grants l.Read),(List.range a.Many.toNat).map (yg a.Many.toNat a.Grants l.Write)⟩
def T9(m:Int)(ps:List cp):Prop:=ps.length≤4∧∀ p∈ps,de m p.Owner=true∧p.Names.length≤6∧∀ n∈p.Names,de m n=true
theorem Qm{m:Int}{ps:List cp}(h:tD m ps=0):T9 m ps:=⟨(yd h).1,fun p hp=>wx ((yd h).2 p hp)⟩
theorem K5{β:Type}(l:List β)(p:β→Bool):(!l.any fun x=>!p x)=l.all p:=by
 grind
section
variable (a:ak)(s:iw a=0)
include s
theorem amz(ps:List cp)(hp:T9 a.Many ps):sA ps a (allRows a.Many.toNat a.Grants)=some ((List.range a.Many.toNat).map (yg a.Many.toNat a.Grants ps)):=by
 obtain ⟨h1,h2,h3,h4⟩:=mU s
 have P:∀ (n:Int),de a.Many n=true→∀ who:Nat,who<a.Many.toNat→nu n (allRows a.Many.toNat a.Grants) (who:Int)=some (eV a.Many.toNat a.Grants who n.toNat):=by
  intro n hn who hw
  obtain ⟨I,ar⟩:=yN.1 hn
  simp [nu,Jd,Dj hw,cb I,MT (gs:=a.Grants) (i:=who) (show n.toNat<a.Many.toNat by omega)]
 have G:∀ p∈ps,∀ who:Nat,who<a.Many.toNat→py p (allRows a.Many.toNat a.Grants) (who:Int)=some (!(eV a.Many.toNat a.Grants who p.Owner.toNat||p.Names.any fun n=>eV a.Many.toNat a.Grants who n.toNat)):=by
  intro p Y who hw
  obtain ⟨ho,hl,hn⟩:=hp.2 p Y
  obtain ⟨Z,aq⟩:=yN.1 ho
  have hc:gq p.Names (allRows a.Many.toNat a.Grants) (who:Int)=some (p.Names.any fun n=>eV a.Many.toNat a.Grants who n.toNat):=
   qh (fun y=>nu y (allRows a.Many.toNat a.Grants) (who:Int)) _ p.Names (by omega) ((by grind))
  simp only [py,Jd,ab,Dj hw,cb Z,MT (gs:=a.Grants) (i:=who) (show p.Owner.toNat<a.Many.toNat by omega),hc]
  grind
 have hl:=me (B:=fun v=>pz ps a (allRows a.Many.toNat a.Grants) v.1 v.2) a.Many.toNat (fun k=>((List.range k).map (yg a.Many.toNat a.Grants ps),k)) (x:=((List.range a.Many.toNat).map (yg a.Many.toNat a.Grants ps),a.Many.toNat,false))
  (fun k hk=>by
   have hc:ir ps (allRows a.Many.toNat a.Grants) (k:Int)=some (ps.any fun p=>!(eV a.Many.toNat a.Grants k p.Owner.toNat||p.Names.any fun n=>eV a.Many.toNat a.Grants k n.toNat)):=
    qh (fun y=>py y (allRows a.Many.toNat a.Grants) (k:Int)) _ ps (by have:=hp.1;omega) (fun y hy=>G y hy k hk)
   have hr:((List.range k).map (yg a.Many.toNat a.Grants ps)).length + [yg a.Many.toNat a.Grants ps k].length≤1000000000:=by simp;omega
   simp only [pz,show (k:Int)<a.Many by omega,aH,hc,ab,iL k (by omega),K5]
   rw [yW,cQ]
   simp only [je,List.map_nil]
   exact af hr)
  (by grind [pz])
 grind [sA]
theorem Ua(l:Label)(hf:fw a.Many l=0):qv a l=some (iQ a l):=by
 grind [qx,qv,Zq,amz,Qm,iQ]
end
def dH(n:Nat)(l:Level):Prop:=l.Readers.length=n∧l.Writers.length=n
def MU(n:Nat)(x y:List Bool):Bool:=(List.range n).all fun k=>!on x k||on y k
def qy(n:Nat)(x y:List Bool):List Bool:=(List.range n).map fun k=>on x k&&on y k
def wz(n:Nat)(x y:List Bool):List Bool:=(List.range n).map fun k=>on x k||on y k
theorem aaf(n:Nat)(x y:List Bool):(!(List.range n).any fun k=>on x k&&!on y k)=MU n x y:=by
 grind [MU]
section
variable {n:Nat}(hn:n≤1000000)
include hn
theorem V6{x y:List Bool}(hx:x.length=n)(hy:y.length=n):uw x y=some (MU n x y):=by
 have h:=Z4 (B:=fun v=>nZ x y v) n (fun k=>on x k&&!on y k) id (x:=.inl ()) (y:=.inr (n,false))
  ((by grind [nZ,iL,on]))
  ((by grind [nZ,jW]))
  (by simp [nZ,hx])
 grind [uw,aaf]
theorem ah9{x y:List Bool}(hx:x.length=n)(hy:y.length=n):yJ x y=some (qy n x y):=by
 have h:=me (B:=fun v=>nY x y v.1 v.2) n (fun k=>(qy k x y,k)) (x:=(qy n x y,n,false))
  (fun k hk=>by
   have r:∀ b:Bool,(qy k x y).length + [b].length≤1000000000:=fun b=>by simp [qy];omega
   simp only [nY,show (k:Int)<(x.length:Int) by omega,aH,jW (show k<x.length by omega),jW (show k<y.length by omega),ab,iL k (by omega),r,
    show qy (k+1) x y=qy k x y++[on x k&&on y k] by simp [qy,yW]]
   grind)
  (by simp [nY,hx])
 have h':lp (fun v=>nY x y v.1 v.2) (([]:List Bool),0)=_:=h
 grind [yJ]
theorem amA{x y:List Bool}(hx:x.length=n)(hy:y.length=n):Au x y=some (wz n x y):=by
 have h:=me (B:=fun v=>pw x y v.1 v.2) n (fun k=>(wz k x y,k)) (x:=(wz n x y,n,false))
  (fun k hk=>by
   have r:∀ b:Bool,(wz k x y).length + [b].length≤1000000000:=fun b=>by simp [wz];omega
   simp only [pw,show (k:Int)<(x.length:Int) by omega,aH,jW (show k<x.length by omega),jW (show k<y.length by omega),ab,iL k (by omega),r,
    show wz (k+1) x y=wz k x y++[on x k||on y k] by simp [wz,yW]]
   grind)
  (by simp [pw,hx])
 have h':lp (fun v=>pw x y v.1 v.2) (([]:List Bool),0)=_:=h
 grind [Au]
end
def nx(n:Nat)(l m:Level):Bool:=MU n m.Readers l.Readers&&MU n l.Writers m.Writers
def o9(n:Nat)(l m:Level):Level:=⟨qy n l.Readers m.Readers,wz n l.Writers m.Writers⟩
theorem MV{a:ak}(h:iw a=0):a.Many.toNat≤6∧1≤a.Many.toNat∧((a.Many.toNat:Nat):Int)=a.Many:=by
 obtain ⟨h1,h2,_⟩:=mU h
 omega
section
variable {n:Nat}(hn:n≤1000000){l m:Level}(hl:dH n l)(hm:dH n m)
include hn hl hm
theorem HX:l6 l m=some (nx n l m):=by
 unfold l6 nx
 rw [V6 hn hm.1 hl.1,V6 hn hl.2 hm.2,ab]
 grind
theorem K6:nr l m=some (o9 n l m):=by
 simp only [nr,ah9 hn hl.1 hm.1,amA hn hl.2 hm.2,ab,o9]
end
theorem tF(n:Nat)(l m:Level):dH n (o9 n l m):=by simp [dH,o9,qy,wz]
theorem kY(a:ak)(l:Label):dH a.Many.toNat (iQ a l):=by simp [dH,iQ]
end Go.Proofs.YtlmphbbhaeampaaGreat.A
