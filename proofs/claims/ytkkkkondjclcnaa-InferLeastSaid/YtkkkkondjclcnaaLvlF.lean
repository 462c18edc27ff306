/- Levels: what the functions of label and actors answer. -/
import Derived.Test.YtkkkkondjclcnaaHeadF
import Derived.Test.YtkkkkondjclcnaaReachW
import Derived.Test.YtkkkkondjclcnaaFE
set_option linter.unusedSectionVars false
set_option linter.unusedVariables false
set_option linter.unusedSimpArgs false
namespace Go.Proofs.Ytkkkkondjclcnaa.A
open Go
variable [Lp]
theorem m7{row:List Bool}{k:Nat}(h:k<row.length):row[k]? =some (on row k):=by
 unfold on;rw [List.getD_eq_getElem?_getD,List.getElem?_eq_getElem h];rfl
theorem A2{α:Type}{l:List α}{k:Nat}(h:k<l.length):l.take (k+1)=l.take k++[l[k]]:=by
 rw [List.take_add_one,List.getElem?_eq_getElem h];rfl
theorem cast_toNat{n:Int}(h:0≤n):n=((n.toNat:Nat):Int):=by omega
section
variable (a:aa)(hok:dy a=0)
include hok
theorem Kf:Good a.Many.toNat a.Grants:=by
 obtain ⟨h1,h2,h3,h4⟩:=pG hok
 intro g hg
 have:=h4 g hg
 omega
end
def allRows(m:Nat)(gs:List bu):List (List Bool):=(List.range m).map (dY m gs)
section
variable (a:aa)(hok:dy a=0)
include hok
theorem QL:ot a=some (allRows a.Many.toNat a.Grants):=by
 obtain ⟨h1,h2,h3,h4⟩:=pG hok
 have hg:=Kf a hok
 have inner:∀ (out:List (List Bool))(n:Nat)(row:List Bool)(c:Nat)(y:Int)(left:List Int),left.length≤1000→
   lp (fun v=>gC a out n row y c v.1 v.2) (left,0)=some (left++(a.Grants.filter (fun g=>g.Who==y)).map (·.For),a.Grants.length,false):=by
  intro out n row c y left hll
  have h:=sX (B:=fun v=>gC a out n row y c v.1 v.2) a.Grants.length (fun j=>(left++((a.Grants.take j).filter (fun g=>g.Who==y)).map (·.For),j))
   (x:=(left++(a.Grants.filter (fun g=>g.Who==y)).map (·.For),a.Grants.length,false))
   (fun j hj=>by
    have hfl:((a.Grants.take j).filter (fun g=>g.Who==y)).length≤20:=Nat.le_trans (List.length_filter_le ..) (by simp;omega)
    have hroom:(left++((a.Grants.take j).filter (fun g=>g.Who==y)).map (·.For)).length + [a.Grants[j].For].length≤1000000000:=by
     simp only [List.length_append,List.length_map,List.length_singleton];omega
    simp only [gC,show (j:Int)<(a.Grants.length:Int) by omega,if_true,List.getElem?_eq_getElem hj,Option.bind_some,pc j (by omega),hroom]
    rw [A2 hj,List.filter_append,List.map_append,←List.append_assoc]
    cases ho:(a.Grants[j].Who==y) with
    | true=>simp [ho]
    | false=>simp [ho])
   (by simp [gC])
  simpa using h
 have middle:∀ (out:List (List Bool))(n:Nat),n<a.Many.toNat→∃ z2 z3,lp (fun v=>eY a out n v.1 v.2) ([(n:Int)],List.replicate a.Many.toNat false)=some (dY a.Many.toNat a.Grants n,z2,z3):=by
  intro out n hn
  have hw:=oh (B:=fun v=>eY a out n v.1 v.2)
   (fun q=>(a.Many.toNat - ft q.2)*(a.Grants.length+1)+q.1.length)
   (fun q=>q.2.length=a.Many.toNat∧(∀ x∈q.1,0≤x∧x<a.Many∧Reach a.Grants n x.toNat)∧(∀ k,on q.2 k=true→Reach a.Grants n k)∧(on q.2 n=true∨(n:Int)∈q.1)∧
    (∀ g∈a.Grants,on q.2 g.Who.toNat=true→on q.2 g.For.toNat=true∨g.For∈q.1)∧(a.Many.toNat - ft q.2)*(a.Grants.length+1)+q.1.length≤500)
   (fun r=>∃ z2 z3,r=(dY a.Many.toNat a.Grants n,z2,z3))
   (fun ⟨left,row⟩ ⟨hl,hleft,hrow,hself,hcl,hm⟩=>by
    simp only at hl hleft hrow hself hcl hm ⊢
    by_cases hz:0<left.length
    ·
     right
     have hpos:0<(left.length:Int):=by omega
     have hlt:left.length - 1<left.length:=by omega
     have hy:=List.getElem?_eq_getElem hlt
     generalize hyy:left[left.length - 1]=y at hy
     have hym:y∈left:=List.mem_of_getElem? hy
     obtain ⟨hy1,hy2,hy3⟩:=hleft y hym
     have hsplit:left=left.take (left.length - 1)++[y]:=by
      have:=A2 (l:=left) (k:=left.length - 1) hlt
      rw [hyy,show left.length - 1+1=left.length by omega,List.take_length] at this
      exact this
     have hw1:IntKind.i64.wrap ((left.length:Int) - 1)=(left.length:Int) - 1:=wrap64 (by omega) (by omega)
     have hn1:fY ((left.length:Int) - 1)=some (left.length - 1):=by rw [fB (by omega)];congr 1;omega
     have hgety:row[y.toNat]? =some (on row y.toNat):=m7 (by omega)
     have hsub:∀ x∈left.take (left.length - 1),x∈left:=fun x hx=>List.mem_of_mem_take hx
     have hor:∀ x∈left,x=y∨x∈left.take (left.length - 1):=by
      intro x hx
      rw [hsplit] at hx
      rcases List.mem_append.1 hx with hx | hx
      ·exact .inr hx
      ·exact .inl (by simpa using hx)
     have hlen1:(left.take (left.length - 1)).length=left.length - 1:=by simp
     cases ho:on row y.toNat with
     | true=>
      refine ⟨(left.take (left.length - 1),row),?_,⟨hl,fun x hx=>hleft x (hsub x hx),hrow,?_,fun g hg' hw=>?_,?_⟩,?_⟩
      ·simp only [eY,hpos,if_true,hw1,hn1,Option.bind_some,hy,show left.length - 1≤left.length by omega,fB hy1,hgety,ho]
      ·rcases hself with h | h
       ·exact .inl h
       ·rcases hor _ h with rfl | h
        ·left;simpa using ho
        ·exact .inr h
      ·rcases hcl g hg' hw with h | h
       ·exact .inl h
       ·rcases hor _ h with h | h
        ·left;simp only;rw [h];exact ho
        ·exact .inr h
      ·simp only [hlen1];omega
      ·simp only [hlen1];omega
     | false=>
      have hbl:(left.take (left.length - 1)).length≤1000:=by
       have:left.length≤500:=Nat.le_trans (Nat.le_add_left _ _) hm
       omega
      have hin:=inner out n row y.toNat y (left.take (left.length - 1)) hbl
      have hfl:((a.Grants.filter (fun g=>g.Who==y)).map (·.For)).length≤a.Grants.length:=by rw [List.length_map];exact List.length_filter_le ..
      have hyr:y.toNat<row.length:=by omega
      have hcs:=As hyr ho
      have hcle:=Gw (row.set y.toNat true)
      rw [List.length_set,hl] at hcle
      have hmeas:(a.Many.toNat - ft (row.set y.toNat true))*(a.Grants.length+1)+(left.take (left.length - 1)++(a.Grants.filter (fun g=>g.Who==y)).map (·.For)).length<(a.Many.toNat - ft row)*(a.Grants.length+1)+left.length:=by
       rw [List.length_append,hlen1,hcs]
       have e:a.Many.toNat - ft row=(a.Many.toNat - (ft row+1))+1:=by omega
       rw [e,Nat.add_mul]
       omega
      refine ⟨(left.take (left.length - 1)++(a.Grants.filter (fun g=>g.Who==y)).map (·.For),row.set y.toNat true),?_,⟨by simpa using hl,fun x hx=>?_,fun k hk=>?_,?_,fun g hg' hw=>?_,?_⟩,hmeas⟩
      ·simp only [eY,hpos,if_true,hw1,hn1,Option.bind_some,hy,show left.length - 1≤left.length by omega,fB hy1,hgety,ho,hin,Bool.false_eq_true,if_false]
      ·rcases List.mem_append.1 hx with hx | hx
       ·exact hleft x (hsub x hx)
       ·obtain ⟨g,hg',rfl⟩:=List.mem_map.1 hx
        obtain ⟨hg1,hg2⟩:=List.mem_filter.1 hg'
        have hwy:g.Who=y:=by simpa using hg2
        obtain ⟨_,hf1,hf2⟩:=h4 g hg1
        exact ⟨hf1,hf2,.step g hy3 hg1 (by rw [hwy];exact cast_toNat hy1)⟩
      ·simp only at hk
       rw [vj hyr] at hk
       simp only [Bool.or_eq_true,decide_eq_true_eq] at hk
       rcases hk with rfl | hk
       ·exact hy3
       ·exact hrow k hk
      ·simp only
       rw [vj hyr]
       rcases hself with h | h
       ·left;rw [h];simp
       ·rcases hor _ h with h | h
        ·left;rw [←h];simp
        ·exact .inr (List.mem_append_left _ h)
      ·simp only at hw ⊢
       rw [vj hyr] at hw ⊢
       simp only [Bool.or_eq_true,decide_eq_true_eq] at hw ⊢
       rcases hw with hw | hw
       ·right
        refine List.mem_append_right _ (List.mem_map.2 ⟨g,List.mem_filter.2 ⟨hg',?_⟩,rfl⟩)
        obtain ⟨⟨hf1,_⟩,_⟩:=h4 g hg'
        have:g.Who=y:=by omega
        simpa using this
       ·rcases hcl g hg' hw with h | h
        ·exact .inl (.inr h)
        ·rcases hor _ h with h | h
         ·left;left;rw [h]
         ·exact .inr (List.mem_append_left _ h)
      ·exact Nat.le_trans (Nat.le_of_lt hmeas) hm
    ·left
     have hnil:left=[]:=List.eq_nil_of_length_eq_zero (by omega)
     subst hnil
     obtain ⟨hc1,hc2,hc3⟩:=DZ hg hn
     have heq:row=dY a.Many.toNat a.Grants n:=My (hl.trans (vo ..).symm) (fun g hg' hw=>(hcl g hg' hw).resolve_right (by simp)) (hself.resolve_right (by simp)) hrow hc1 hc2 hc3
     exact ⟨(row,[],false),by simp [eY],[],false,by rw [←heq]⟩)
  obtain ⟨r,h5,z2,z3,rfl⟩:=hw ([(n:Int)],List.replicate a.Many.toNat false) ⟨by simp,fun x hx=>by
    obtain rfl:x=(n:Int):=by simpa using hx
    exact ⟨by omega,by omega,by simpa using Reach.refl⟩,fun k hk=>by
    exfalso
    unfold on at hk
    rw [List.getD_eq_getElem?_getD,List.getElem?_replicate] at hk
    (split at hk<;>cases hk),.inr (by simp),fun g _ hw=>by
    exfalso
    simp only at hw
    unfold on at hw
    rw [List.getD_eq_getElem?_getD,List.getElem?_replicate] at hw
    (split at hw<;>cases hw),by
    simp only [List.length_singleton]
    have h6:(a.Many.toNat - ft (List.replicate a.Many.toNat false))*(a.Grants.length+1)≤6*21:=Nat.mul_le_mul (by omega) (by omega)
    omega⟩
  exact ⟨z2,z3,h5⟩
 have outer:=sX (B:=fun v=>gD a v.1 v.2) a.Many.toNat (fun n=>((List.range n).map (dY a.Many.toNat a.Grants),n)) (x:=(allRows a.Many.toNat a.Grants,a.Many.toNat,false))
   (fun n hn=>by
    obtain ⟨z2,z3,hin⟩:=middle ((List.range n).map (dY a.Many.toNat a.Grants)) n hn
    simp only [gD,show (n:Int)<a.Many by omega,if_true,fB (show 0≤a.Many by omega),Option.bind_some,show a.Many.toNat≤1000000000 by omega,hin,pc n (by omega),
     show ((List.range n).map (dY a.Many.toNat a.Grants)).length + [dY a.Many.toNat a.Grants n].length≤1000000000 by simp;omega,List.range_succ,List.map_append,List.map_cons,List.map_nil])
   (by simp only [gD,show ¬((a.Many.toNat:Nat):Int)<a.Many by omega,if_false,allRows,decide_false])
 have outer':lp (fun v=>gD a v.1 v.2) (([]:List (List Bool)),0)=_:=outer
 simp only [ot,outer',Option.bind_some]
end
theorem wU{m:Nat}{gs:List bu}{i:Nat}(h:i<m):(allRows m gs)[i]? =some (dY m gs i):=by
 unfold allRows;rw [List.getElem?_map,List.getElem?_range h];rfl
theorem Eu{m:Nat}{gs:List bu}{i k:Nat}(h:k<m):(dY m gs i)[k]? =some (jv m gs i k):=m7 (by rw [vo];exact h)
def xJ(m:Nat)(gs:List bu)(ps:List bq)(who:Nat):Bool:=ps.all fun p=>jv m gs who p.Owner.toNat||p.Names.any fun n=>jv m gs who n.toNat
def cG(a:aa)(l:Label):Level:=⟨(List.range a.Many.toNat).map (xJ a.Many.toNat a.Grants l.Read),(List.range a.Many.toNat).map (xJ a.Many.toNat a.Grants l.Write)⟩
def JA(m:Int)(ps:List bq):Prop:=ps.length≤4∧∀ p∈ps,cA m p.Owner=true∧p.Names.length≤6∧∀ n∈p.Names,cA m n=true
theorem CT{m:Int}{ps:List bq}(h:qp m ps=0):JA m ps:=⟨(uc h).1,fun p hp=>FF ((uc h).2 p hp)⟩
theorem Gy{β:Type}(l:List β)(p:β→Bool):(!l.any fun x=>!p x)=l.all p:=by
 induction l with
 | nil=>rfl
 | cons x l ih=>simp only [List.any_cons,List.all_cons,←ih];cases p x<;>simp
section
variable (a:aa)(hok:dy a=0)
include hok
theorem JB(ps:List bq)(hp:JA a.Many ps):lx ps a (allRows a.Many.toNat a.Grants)=some ((List.range a.Many.toNat).map (xJ a.Many.toNat a.Grants ps)):=by
 obtain ⟨h1,h2,h3,h4⟩:=pG hok
 have hin:∀ (n:Int),cA a.Many n=true→∀ who:Nat,who<a.Many.toNat→gZ n (allRows a.Many.toNat a.Grants) (who:Int)=some (jv a.Many.toNat a.Grants who n.toNat):=by
  intro n hn who hw
  obtain ⟨hn1,hn2⟩:=wT.1 hn
  simp [gZ,Co,wU hw,fB hn1,Eu (gs:=a.Grants) (i:=who) (show n.toNat<a.Many.toNat by omega)]
 have hnot:∀ p∈ps,∀ who:Nat,who<a.Many.toNat→ju p (allRows a.Many.toNat a.Grants) (who:Int)=some (!(jv a.Many.toNat a.Grants who p.Owner.toNat||p.Names.any fun n=>jv a.Many.toNat a.Grants who n.toNat)):=by
  intro p hpp who hw
  obtain ⟨ho,hl,hn⟩:=hp.2 p hpp
  obtain ⟨ho1,ho2⟩:=wT.1 ho
  have hc:di p.Names (allRows a.Many.toNat a.Grants) (who:Int)=some (p.Names.any fun n=>jv a.Many.toNat a.Grants who n.toNat):=
   k3 (fun y=>gZ y (allRows a.Many.toNat a.Grants) (who:Int)) _ p.Names (by omega) (fun y hy=>hin y (hn y hy) who hw)
  simp only [ju,Co,Option.bind_some,wU hw,fB ho1,Eu (gs:=a.Grants) (i:=who) (show p.Owner.toNat<a.Many.toNat by omega),hc]
  cases jv a.Many.toNat a.Grants who p.Owner.toNat<;>simp
 have hl:=sX (B:=fun v=>gE ps a (allRows a.Many.toNat a.Grants) v.1 v.2) a.Many.toNat (fun k=>((List.range k).map (xJ a.Many.toNat a.Grants ps),k)) (x:=((List.range a.Many.toNat).map (xJ a.Many.toNat a.Grants ps),a.Many.toNat,false))
  (fun k hk=>by
   have hc:dG ps (allRows a.Many.toNat a.Grants) (k:Int)=some (ps.any fun p=>!(jv a.Many.toNat a.Grants k p.Owner.toNat||p.Names.any fun n=>jv a.Many.toNat a.Grants k n.toNat)):=
    k3 (fun y=>ju y (allRows a.Many.toNat a.Grants) (k:Int)) _ ps (by have:=hp.1;omega) (fun y hy=>hnot y hy k hk)
   have hr:((List.range k).map (xJ a.Many.toNat a.Grants ps)).length + [xJ a.Many.toNat a.Grants ps k].length≤1000000000:=by simp;omega
   simp only [gE,show (k:Int)<a.Many by omega,if_true,hc,Option.bind_some,pc k (by omega),Gy]
   rw [List.range_succ,List.map_append]
   simp only [List.map_cons,List.map_nil]
   exact if_pos hr)
  (by simp only [gE,show ¬((a.Many.toNat:Nat):Int)<a.Many by omega,if_false,decide_false])
 have hl':lp (fun v=>gE ps a (allRows a.Many.toNat a.Grants) v.1 v.2) (([]:List Bool),0)=_:=hl
 simp only [lx,hl',Option.bind_some]
theorem HW(l:Label)(hf:e9 a.Many l=0):e7 a l=some (cG a l):=by
 obtain ⟨hr,hw⟩:=xE hf
 simp only [e7,QL a hok,Option.bind_some,JB a hok _ (CT hr),JB a hok _ (CT hw),cG]
end
def br(n:Nat)(l:Level):Prop:=l.Readers.length=n∧l.Writers.length=n
def eA(a:aa)(l:Level):Bool:=decide ((l.Readers.length:Int)=a.Many∧(l.Writers.length:Int)=a.Many)
def ou(a:aa)(ls:List Level):Int:=if dy a≠0 then dy a else if ls.any (fun l=>!eA a l) then 1 else 0
theorem Ev(a:aa)(l:Level):jV a l=some (eA a l):=by
 unfold jV eA
 by_cases h:(l.Readers.length:Int)=a.Many<;>simp [h]
 rw [Bool.eq_iff_iff];simp
theorem Kg(a:aa)(ls:List Level)(hl:ls.length≤1000):nx a ls=some (ou a ls):=by
 unfold nx ou
 rw [Eo,Option.bind_some]
 have hc:dx ls a=some (ls.any fun l=>!eA a l):=k3 (fun y=>kC y a) _ ls (by omega) (fun y _=>by simp [kC,Ev])
 by_cases h:dy a=0
 ·simp only [h,hc,Option.bind_some]
  cases ls.any (fun l=>!eA a l)<;>simp
 ·simp [h]
def xK(n:Nat)(x y:List Bool):Bool:=(List.range n).all fun k=>!on x k||on y k
def rh(n:Nat)(x y:List Bool):List Bool:=(List.range n).map fun k=>on x k&&on y k
def vp(n:Nat)(x y:List Bool):List Bool:=(List.range n).map fun k=>on x k||on y k
theorem Kh(n:Nat)(x y:List Bool):(!(List.range n).any fun k=>on x k&&!on y k)=xK n x y:=by
 unfold xK
 rw [←Gy]
 congr 2
 funext k
 cases on x k<;>cases on y k<;>rfl
section
variable {n:Nat}(hn:n≤1000000)
include hn
theorem Gz{x y:List Bool}(hx:x.length=n)(hy:y.length=n):mY x y=some (xK n x y):=by
 have h:=J4 (B:=fun v=>fL x y v) n (fun k=>on x k&&!on y k) id (x:=.inl ()) (y:=.inr (n,false))
  (fun k hk hp=>by
   simp only [fL,id,show (k:Int)<(x.length:Int) by omega,if_true,m7 (show k<x.length by omega),m7 (show k<y.length by omega),Option.bind_some,pc k (by omega)]
   cases hxk:on x k with
   | false=>simp
   | true=>
    have:on y k=true:=by simpa [hxk] using hp
    simp [this])
  (fun k hk hp=>by
   have he:on x k=true∧on y k=false:=by simpa using hp
   simp only [fL,id,show (k:Int)<(x.length:Int) by omega,if_true,m7 (show k<x.length by omega),m7 (show k<y.length by omega),Option.bind_some,he.1,he.2]
   simp)
  (by simp [fL,hx])
 have h':lp (fun v=>fL x y v) 0=_:=h
 simp only [mY,h',Option.bind_some,←Kh]
 cases (List.range n).any (fun k=>on x k&&!on y k)<;>simp
theorem Mz{x y:List Bool}(hx:x.length=n)(hy:y.length=n):pf x y=some (rh n x y):=by
 have h:=sX (B:=fun v=>iy x y v.1 v.2) n (fun k=>(rh k x y,k)) (x:=(rh n x y,n,false))
  (fun k hk=>by
   have r:∀ b:Bool,(rh k x y).length + [b].length≤1000000000:=fun b=>by simp [rh];omega
   simp only [iy,show (k:Int)<(x.length:Int) by omega,if_true,m7 (show k<x.length by omega),m7 (show k<y.length by omega),Option.bind_some,pc k (by omega),r,
    show rh (k+1) x y=rh k x y++[on x k&&on y k] by simp [rh,List.range_succ]]
   cases on x k<;>simp)
  (by simp [iy,hx])
 have h':lp (fun v=>iy x y v.1 v.2) (([]:List Bool),0)=_:=h
 simp only [pf,h',Option.bind_some]
theorem QM{x y:List Bool}(hx:x.length=n)(hy:y.length=n):qo x y=some (vp n x y):=by
 have h:=sX (B:=fun v=>jt x y v.1 v.2) n (fun k=>(vp k x y,k)) (x:=(vp n x y,n,false))
  (fun k hk=>by
   have r:∀ b:Bool,(vp k x y).length + [b].length≤1000000000:=fun b=>by simp [vp];omega
   simp only [jt,show (k:Int)<(x.length:Int) by omega,if_true,m7 (show k<x.length by omega),m7 (show k<y.length by omega),Option.bind_some,pc k (by omega),r,
    show vp (k+1) x y=vp k x y++[on x k||on y k] by simp [vp,List.range_succ]]
   cases on x k<;>simp)
  (by simp [jt,hx])
 have h':lp (fun v=>jt x y v.1 v.2) (([]:List Bool),0)=_:=h
 simp only [qo,h',Option.bind_some]
end
def lD(n:Nat)(l m:Level):Bool:=xK n m.Readers l.Readers&&xK n l.Writers m.Writers
def cQ(n:Nat)(l m:Level):Level:=⟨rh n l.Readers m.Readers,vp n l.Writers m.Writers⟩
theorem GA{a:aa}{ls:List Level}(h:ou a ls=0):dy a=0∧∀ l∈ls,br a.Many.toNat l:=by
 unfold ou at h
 split at h
 ·rename_i h1;exact absurd h h1
 ·rename_i h1
  split at h
  ·cases h
  ·rename_i h2
   refine ⟨Classical.not_not.1 h1,fun l hl=>?_⟩
   have:¬eA a l=false:=fun he=>h2 (List.any_eq_true.2 ⟨l,hl,by rw [he];rfl⟩)
   have hs:eA a l=true:=by simpa using this
   unfold eA at hs
   obtain ⟨h3,h4⟩:=of_decide_eq_true hs
   exact ⟨by omega,by omega⟩
theorem tk{a:aa}(h:dy a=0):a.Many.toNat≤6∧1≤a.Many.toNat∧((a.Many.toNat:Nat):Int)=a.Many:=by
 obtain ⟨h1,h2,_⟩:=pG h
 omega
section
variable {n:Nat}(hn:n≤1000000){l m:Level}(hl:br n l)(hm:br n m)
include hn hl hm
theorem oY:cT l m=some (lD n l m):=by
 unfold cT lD
 rw [Gz hn hm.1 hl.1,Gz hn hl.2 hm.2,Option.bind_some]
 cases xK n m.Readers l.Readers<;>simp
theorem tm:cE l m=some (cQ n l m):=by
 simp only [cE,Mz hn hl.1 hm.1,QM hn hl.2 hm.2,Option.bind_some,cQ]
end
theorem dV(n:Nat)(l m:Level):br n (cQ n l m):=by simp [br,cQ,rh,vp]
theorem sO(a:aa)(l:Label):br a.Many.toNat (cG a l):=by simp [br,cG]
theorem Ki(a:aa)(l m:Level):ny a l m=some (if ou a [l,m]=0 then (lD a.Many.toNat l m,0) else (false,ou a [l,m])):=by
 unfold ny
 rw [Kg a _ (by simp),Option.bind_some]
 by_cases h:ou a [l,m]=0
 ·obtain ⟨hok,hs⟩:=GA h
  have hm:=tk hok
  simp [h,oY (n:=a.Many.toNat) (by omega) (hs l (by simp)) (hs m (by simp))]
 ·simp [h]
end Go.Proofs.Ytkkkkondjclcnaa.A
