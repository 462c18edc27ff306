/- Levels: what the functions of label and actors answer. -/
import Derived.Test.YtdpjofmmokaobaaGreatHeadF
import Derived.Test.YtdpjofmmokaobaaGreatReachW
import Derived.Test.YtdpjofmmokaobaaGreatFL
set_option linter.unusedSectionVars false
set_option linter.unusedVariables false
set_option linter.unusedSimpArgs false
namespace Go.Proofs.YtdpjofmmokaobaaGreat.A
open Go
variable [Lp]
theorem nF{row:List Bool}{k:Nat}(h:k<row.length):row[k]? =some (on row k):=by
 unfold on;rw [List.getD_eq_getElem?_getD,List.getElem?_eq_getElem h];rfl
theorem y0{α:Type}{l:List α}{k:Nat}(h:k<l.length):l.take (k+1)=l.take k++[l[k]]:=by
 rw [List.take_add_one,List.getElem?_eq_getElem h];rfl
theorem cast_toNat{n:Int}(h:0≤n):n=((n.toNat:Nat):Int):=by omega
section
variable (a:af)(hok:de a=0)
include hok
theorem N6:Good a.Many.toNat a.Grants:=by
 obtain ⟨h1,h2,h3,h4⟩:=sf hok
 intro g hg
 have:=h4 g hg
 omega
end
def allRows(m:Nat)(gs:List b9):List (List Bool):=(List.range m).map (eL m gs)
section
variable (a:af)(hok:de a=0)
include hok
theorem Nh:ny a=some (allRows a.Many.toNat a.Grants):=by
 obtain ⟨h1,h2,h3,h4⟩:=sf hok
 have hg:=N6 a hok
 have inner:∀ (out:List (List Bool))(n:Nat)(row:List Bool)(c:Nat)(y:Int)(left:List Int),left.length≤1000→
   lp (fun v=>jk a out n row y c v.1 v.2) (left,0)=some (left++(a.Grants.filter (fun g=>g.Who==y)).map (·.For),a.Grants.length,false):=by
  intro out n row c y left hll
  have h:=rV (B:=fun v=>jk a out n row y c v.1 v.2) a.Grants.length (fun j=>(left++((a.Grants.take j).filter (fun g=>g.Who==y)).map (·.For),j))
   (x:=(left++(a.Grants.filter (fun g=>g.Who==y)).map (·.For),a.Grants.length,false))
   (fun j hj=>by
    have hfl:((a.Grants.take j).filter (fun g=>g.Who==y)).length≤20:=Nat.le_trans (List.length_filter_le ..) (by simp;omega)
    have hroom:(left++((a.Grants.take j).filter (fun g=>g.Who==y)).map (·.For)).length + [a.Grants[j].For].length≤1000000000:=by
     simp only [List.length_append,List.length_map,List.length_singleton];omega
    simp only [jk,show (j:Int)<(a.Grants.length:Int) by omega,if_true,List.getElem?_eq_getElem hj,Option.bind_some,pA j (by omega),hroom]
    rw [y0 hj,List.filter_append,List.map_append,←List.append_assoc]
    cases ho:(a.Grants[j].Who==y) with
    | true=>simp [ho]
    | false=>simp [ho])
   (by simp [jk])
  simpa using h
 have middle:∀ (out:List (List Bool))(n:Nat),n<a.Many.toNat→∃ z2 z3,lp (fun v=>gi a out n v.1 v.2) ([(n:Int)],List.replicate a.Many.toNat false)=some (eL a.Many.toNat a.Grants n,z2,z3):=by
  intro out n hn
  have hw:=gR (B:=fun v=>gi a out n v.1 v.2)
   (fun q=>(a.Many.toNat - gG q.2)*(a.Grants.length+1)+q.1.length)
   (fun q=>q.2.length=a.Many.toNat∧(∀ x∈q.1,0≤x∧x<a.Many∧Reach a.Grants n x.toNat)∧(∀ k,on q.2 k=true→Reach a.Grants n k)∧(on q.2 n=true∨(n:Int)∈q.1)∧
    (∀ g∈a.Grants,on q.2 g.Who.toNat=true→on q.2 g.For.toNat=true∨g.For∈q.1)∧(a.Many.toNat - gG q.2)*(a.Grants.length+1)+q.1.length≤500)
   (fun r=>∃ z2 z3,r=(eL a.Many.toNat a.Grants n,z2,z3))
   (fun ⟨left,row⟩ ⟨hl,hleft,hrow,hself,hcl,hm⟩=>by
    simp only at hl hleft hrow hself hcl hm ⊢
    by_cases hz:0<left.length
    ·
     right
     have hpos:0<(left.length:Int):=by omega
     have hlt:left.length - 1<left.length:=by omega
     have hy:=List.getElem?_eq_getElem hlt
     generalize hyy:left[left.length - 1]=y at hy
     have hym:y∈left:=List.mem_of_getElem? hy
     obtain ⟨hy1,hy2,hy3⟩:=hleft y hym
     have hsplit:left=left.take (left.length - 1)++[y]:=by
      have:=y0 (l:=left) (k:=left.length - 1) hlt
      rw [hyy,show left.length - 1+1=left.length by omega,List.take_length] at this
      exact this
     have hw1:IntKind.i64.wrap ((left.length:Int) - 1)=(left.length:Int) - 1:=wrap64 (by omega) (by omega)
     have hn1:cQ ((left.length:Int) - 1)=some (left.length - 1):=by rw [b8 (by omega)];congr 1;omega
     have hgety:row[y.toNat]? =some (on row y.toNat):=nF (by omega)
     have hsub:∀ x∈left.take (left.length - 1),x∈left:=fun x hx=>List.mem_of_mem_take hx
     have hor:∀ x∈left,x=y∨x∈left.take (left.length - 1):=by
      intro x hx
      rw [hsplit] at hx
      rcases List.mem_append.1 hx with hx | hx
      ·exact .inr hx
      ·exact .inl (by simpa using hx)
     have hlen1:(left.take (left.length - 1)).length=left.length - 1:=by simp
     cases ho:on row y.toNat with
     | true=>
      refine ⟨(left.take (left.length - 1),row),?_,⟨hl,fun x hx=>hleft x (hsub x hx),hrow,?_,fun g hg' hw=>?_,?_⟩,?_⟩
      ·simp only [gi,hpos,if_true,hw1,hn1,Option.bind_some,hy,show left.length - 1≤left.length by omega,b8 hy1,hgety,ho]
      ·rcases hself with h | h
       ·exact .inl h
       ·rcases hor _ h with rfl | h
        ·left;simpa using ho
        ·exact .inr h
      ·rcases hcl g hg' hw with h | h
       ·exact .inl h
       ·rcases hor _ h with h | h
        ·left;simp only;rw [h];exact ho
        ·exact .inr h
      ·simp only [hlen1];omega
      ·simp only [hlen1];omega
     | false=>
      have hbl:(left.take (left.length - 1)).length≤1000:=by
       have:left.length≤500:=Nat.le_trans (Nat.le_add_left _ _) hm
       omega
      have hin:=inner out n row y.toNat y (left.take (left.length - 1)) hbl
      have hfl:((a.Grants.filter (fun g=>g.Who==y)).map (·.For)).length≤a.Grants.length:=by rw [List.length_map];exact List.length_filter_le ..
      have hyr:y.toNat<row.length:=by omega
      have hcs:=Dk hyr ho
      have hcle:=J1 (row.set y.toNat true)
      rw [List.length_set,hl] at hcle
      have hmeas:(a.Many.toNat - gG (row.set y.toNat true))*(a.Grants.length+1)+(left.take (left.length - 1)++(a.Grants.filter (fun g=>g.Who==y)).map (·.For)).length<(a.Many.toNat - gG row)*(a.Grants.length+1)+left.length:=by
       rw [List.length_append,hlen1,hcs]
       have e:a.Many.toNat - gG row=(a.Many.toNat - (gG row+1))+1:=by omega
       rw [e,Nat.add_mul]
       omega
      refine ⟨(left.take (left.length - 1)++(a.Grants.filter (fun g=>g.Who==y)).map (·.For),row.set y.toNat true),?_,⟨by simpa using hl,fun x hx=>?_,fun k hk=>?_,?_,fun g hg' hw=>?_,?_⟩,hmeas⟩
      ·simp only [gi,hpos,if_true,hw1,hn1,Option.bind_some,hy,show left.length - 1≤left.length by omega,b8 hy1,hgety,ho,hin,Bool.false_eq_true,if_false]
      ·rcases List.mem_append.1 hx with hx | hx
       ·exact hleft x (hsub x hx)
       ·obtain ⟨g,hg',rfl⟩:=List.mem_map.1 hx
        obtain ⟨hg1,hg2⟩:=List.mem_filter.1 hg'
        have hwy:g.Who=y:=by simpa using hg2
        obtain ⟨_,hf1,hf2⟩:=h4 g hg1
        exact ⟨hf1,hf2,.step g hy3 hg1 (by rw [hwy];exact cast_toNat hy1)⟩
      ·simp only at hk
       rw [yQ hyr] at hk
       simp only [Bool.or_eq_true,decide_eq_true_eq] at hk
       rcases hk with rfl | hk
       ·exact hy3
       ·exact hrow k hk
      ·simp only
       rw [yQ hyr]
       rcases hself with h | h
       ·left;rw [h];simp
       ·rcases hor _ h with h | h
        ·left;rw [←h];simp
        ·exact .inr (List.mem_append_left _ h)
      ·simp only at hw ⊢
       rw [yQ hyr] at hw ⊢
       simp only [Bool.or_eq_true,decide_eq_true_eq] at hw ⊢
       rcases hw with hw | hw
       ·right
        refine List.mem_append_right _ (List.mem_map.2 ⟨g,List.mem_filter.2 ⟨hg',?_⟩,rfl⟩)
        obtain ⟨⟨hf1,_⟩,_⟩:=h4 g hg'
        have:g.Who=y:=by omega
        simpa using this
       ·rcases hcl g hg' hw with h | h
        ·exact .inl (.inr h)
        ·rcases hor _ h with h | h
         ·left;left;rw [h]
         ·exact .inr (List.mem_append_left _ h)
      ·exact Nat.le_trans (Nat.le_of_lt hmeas) hm
    ·left
     have hnil:left=[]:=List.eq_nil_of_length_eq_zero (by omega)
     subst hnil
     obtain ⟨hc1,hc2,hc3⟩:=G5 hg hn
     have heq:row=eL a.Many.toNat a.Grants n:=Sd (hl.trans (yU ..).symm) (fun g hg' hw=>(hcl g hg' hw).resolve_right (by simp)) (hself.resolve_right (by simp)) hrow hc1 hc2 hc3
     exact ⟨(row,[],false),by simp [gi],[],false,by rw [←heq]⟩)
  obtain ⟨r,h5,z2,z3,rfl⟩:=hw ([(n:Int)],List.replicate a.Many.toNat false) ⟨by simp,fun x hx=>by
    obtain rfl:x=(n:Int):=by simpa using hx
    exact ⟨by omega,by omega,by simpa using Reach.refl⟩,fun k hk=>by
    exfalso
    unfold on at hk
    rw [List.getD_eq_getElem?_getD,List.getElem?_replicate] at hk
    (split at hk<;>cases hk),.inr (by simp),fun g _ hw=>by
    exfalso
    simp only at hw
    unfold on at hw
    rw [List.getD_eq_getElem?_getD,List.getElem?_replicate] at hw
    (split at hw<;>cases hw),by
    simp only [List.length_singleton]
    have h6:(a.Many.toNat - gG (List.replicate a.Many.toNat false))*(a.Grants.length+1)≤6*21:=Nat.mul_le_mul (by omega) (by omega)
    omega⟩
  exact ⟨z2,z3,h5⟩
 have outer:=rV (B:=fun v=>jl a v.1 v.2) a.Many.toNat (fun n=>((List.range n).map (eL a.Many.toNat a.Grants),n)) (x:=(allRows a.Many.toNat a.Grants,a.Many.toNat,false))
   (fun n hn=>by
    obtain ⟨z2,z3,hin⟩:=middle ((List.range n).map (eL a.Many.toNat a.Grants)) n hn
    simp only [jl,show (n:Int)<a.Many by omega,if_true,b8 (show 0≤a.Many by omega),Option.bind_some,show a.Many.toNat≤1000000000 by omega,hin,pA n (by omega),
     show ((List.range n).map (eL a.Many.toNat a.Grants)).length + [eL a.Many.toNat a.Grants n].length≤1000000000 by simp;omega,List.range_succ,List.map_append,List.map_cons,List.map_nil])
   (by simp only [jl,show ¬((a.Many.toNat:Nat):Int)<a.Many by omega,if_false,allRows,decide_false])
 have outer':lp (fun v=>jl a v.1 v.2) (([]:List (List Bool)),0)=_:=outer
 simp only [ny,outer',Option.bind_some]
end
theorem vM{m:Nat}{gs:List b9}{i:Nat}(h:i<m):(allRows m gs)[i]? =some (eL m gs i):=by
 unfold allRows;rw [List.getElem?_map,List.getElem?_range h];rfl
theorem DA{m:Nat}{gs:List b9}{i k:Nat}(h:k<m):(eL m gs i)[k]? =some (gh m gs i k):=nF (by rw [yU];exact h)
def sg(a:af)(l:Label):Int:=if de a≠0 then de a else fB a.Many l
theorem F2(a:af)(l:Label):pK a l=some (sg a l):=by
 unfold pK sg
 rw [Di,Option.bind_some]
 by_cases h:de a=0<;>simp [h,FD]
def Bb(m:Nat)(gs:List b9)(ps:List bw)(who:Nat):Bool:=ps.all fun p=>gh m gs who p.Owner.toNat||p.Names.any fun n=>gh m gs who n.toNat
def lx(a:af)(l:Label):Level:=⟨(List.range a.Many.toNat).map (Bb a.Many.toNat a.Grants l.Read),(List.range a.Many.toNat).map (Bb a.Many.toNat a.Grants l.Write)⟩
def Ni(m:Int)(ps:List bw):Prop:=ps.length≤4∧∀ p∈ps,cU m p.Owner=true∧p.Names.length≤6∧∀ n∈p.Names,cU m n=true
theorem F3{m:Int}{ps:List bw}(h:rJ m ps=0):Ni m ps:=⟨(tV h).1,fun p hp=>B5 ((tV h).2 p hp)⟩
theorem J3{β:Type}(l:List β)(p:β→Bool):(!l.any fun x=>!p x)=l.all p:=by
 induction l with
 | nil=>rfl
 | cons x l ih=>simp only [List.any_cons,List.all_cons,←ih];cases p x<;>simp
section
variable (a:af)(hok:de a=0)
include hok
theorem Nj(ps:List bw)(hp:Ni a.Many ps):nB ps a (allRows a.Many.toNat a.Grants)=some ((List.range a.Many.toNat).map (Bb a.Many.toNat a.Grants ps)):=by
 obtain ⟨h1,h2,h3,h4⟩:=sf hok
 have hin:∀ (n:Int),cU a.Many n=true→∀ who:Nat,who<a.Many.toNat→jJ n (allRows a.Many.toNat a.Grants) (who:Int)=some (gh a.Many.toNat a.Grants who n.toNat):=by
  intro n hn who hw
  obtain ⟨hn1,hn2⟩:=rK.1 hn
  simp [jJ,Fc,vM hw,b8 hn1,DA (gs:=a.Grants) (i:=who) (show n.toNat<a.Many.toNat by omega)]
 have hnot:∀ p∈ps,∀ who:Nat,who<a.Many.toNat→lu p (allRows a.Many.toNat a.Grants) (who:Int)=some (!(gh a.Many.toNat a.Grants who p.Owner.toNat||p.Names.any fun n=>gh a.Many.toNat a.Grants who n.toNat)):=by
  intro p hpp who hw
  obtain ⟨ho,hl,hn⟩:=hp.2 p hpp
  obtain ⟨ho1,ho2⟩:=rK.1 ho
  have hc:dV p.Names (allRows a.Many.toNat a.Grants) (who:Int)=some (p.Names.any fun n=>gh a.Many.toNat a.Grants who n.toNat):=
   kH (fun y=>jJ y (allRows a.Many.toNat a.Grants) (who:Int)) _ p.Names (by omega) (fun y hy=>hin y (hn y hy) who hw)
  simp only [lu,Fc,Option.bind_some,vM hw,b8 ho1,DA (gs:=a.Grants) (i:=who) (show p.Owner.toNat<a.Many.toNat by omega),hc]
  cases gh a.Many.toNat a.Grants who p.Owner.toNat<;>simp
 have hl:=rV (B:=fun v=>jm ps a (allRows a.Many.toNat a.Grants) v.1 v.2) a.Many.toNat (fun k=>((List.range k).map (Bb a.Many.toNat a.Grants ps),k)) (x:=((List.range a.Many.toNat).map (Bb a.Many.toNat a.Grants ps),a.Many.toNat,false))
  (fun k hk=>by
   have hc:eA ps (allRows a.Many.toNat a.Grants) (k:Int)=some (ps.any fun p=>!(gh a.Many.toNat a.Grants k p.Owner.toNat||p.Names.any fun n=>gh a.Many.toNat a.Grants k n.toNat)):=
    kH (fun y=>lu y (allRows a.Many.toNat a.Grants) (k:Int)) _ ps (by have:=hp.1;omega) (fun y hy=>hnot y hy k hk)
   have hr:((List.range k).map (Bb a.Many.toNat a.Grants ps)).length + [Bb a.Many.toNat a.Grants ps k].length≤1000000000:=by simp;omega
   simp only [jm,show (k:Int)<a.Many by omega,if_true,hc,Option.bind_some,pA k (by omega),J3]
   rw [List.range_succ,List.map_append]
   simp only [List.map_cons,List.map_nil]
   exact if_pos hr)
  (by simp only [jm,show ¬((a.Many.toNat:Nat):Int)<a.Many by omega,if_false,decide_false])
 have hl':lp (fun v=>jm ps a (allRows a.Many.toNat a.Grants) v.1 v.2) (([]:List Bool),0)=_:=hl
 simp only [nB,hl',Option.bind_some]
theorem F4(l:Label)(hf:fB a.Many l=0):kz a l=some (lx a l):=by
 obtain ⟨hr,hw⟩:=tW hf
 simp only [kz,Nh a hok,Option.bind_some,Nj a hok _ (F3 hr),Nj a hok _ (F3 hw),lx]
end
theorem N7(a:af)(l:Label):pL a l=some (if sg a l=0 then (lx a l,0) else (⟨[],[]⟩,sg a l)):=by
 unfold pL
 rw [F2,Option.bind_some]
 by_cases h:sg a l=0
 ·have hc:de a=0∧fB a.Many l=0:=by
   unfold sg at h
   split at h
   ·rename_i h1;exact absurd h h1
   ·rename_i h1;exact ⟨Classical.not_not.1 h1,h⟩
  simp [h,F4 a hc.1 l hc.2]
 ·simp [h]
def dv(n:Nat)(l:Level):Prop:=l.Readers.length=n∧l.Writers.length=n
def ma(a:af)(l:Level):Bool:=decide ((l.Readers.length:Int)=a.Many∧(l.Writers.length:Int)=a.Many)
def qH(a:af)(ls:List Level):Int:=if de a≠0 then de a else if ls.any (fun l=>!ma a l) then 1 else 0
theorem N8(a:af)(l:Level):pM a l=some (ma a l):=by
 unfold pM ma
 by_cases h:(l.Readers.length:Int)=a.Many<;>simp [h]
 rw [Bool.eq_iff_iff];simp
theorem N9(a:af)(ls:List Level)(hl:ls.length≤1000):pN a ls=some (qH a ls):=by
 unfold pN qH
 rw [Di,Option.bind_some]
 have hc:ei ls a=some (ls.any fun l=>!ma a l):=kH (fun y=>mG y a) _ ls (by omega) (fun y _=>by simp [mG,N8])
 by_cases h:de a=0
 ·simp only [h,hc,Option.bind_some]
  cases ls.any (fun l=>!ma a l)<;>simp
 ·simp [h]
def Bc(n:Nat)(x y:List Bool):Bool:=(List.range n).all fun k=>!on x k||on y k
def uk(n:Nat)(x y:List Bool):List Bool:=(List.range n).map fun k=>on x k&&on y k
def y1(n:Nat)(x y:List Bool):List Bool:=(List.range n).map fun k=>on x k||on y k
theorem Oa(n:Nat)(x y:List Bool):(!(List.range n).any fun k=>on x k&&!on y k)=Bc n x y:=by
 unfold Bc
 rw [←J3]
 congr 2
 funext k
 cases on x k<;>cases on y k<;>rfl
section
variable {n:Nat}(hn:n≤1000000)
include hn
theorem J4{x y:List Bool}(hx:x.length=n)(hy:y.length=n):po x y=some (Bc n x y):=by
 have h:=NS (B:=fun v=>ir x y v) n (fun k=>on x k&&!on y k) id (x:=.inl ()) (y:=.inr (n,false))
  (fun k hk hp=>by
   simp only [ir,id,show (k:Int)<(x.length:Int) by omega,if_true,nF (show k<x.length by omega),nF (show k<y.length by omega),Option.bind_some,pA k (by omega)]
   cases hxk:on x k with
   | false=>simp
   | true=>
    have:on y k=true:=by simpa [hxk] using hp
    simp [this])
  (fun k hk hp=>by
   have he:on x k=true∧on y k=false:=by simpa using hp
   simp only [ir,id,show (k:Int)<(x.length:Int) by omega,if_true,nF (show k<x.length by omega),nF (show k<y.length by omega),Option.bind_some,he.1,he.2]
   simp)
  (by simp [ir,hx])
 have h':lp (fun v=>ir x y v) 0=_:=h
 simp only [po,h',Option.bind_some,←Oa]
 cases (List.range n).any (fun k=>on x k&&!on y k)<;>simp
theorem Sg{x y:List Bool}(hx:x.length=n)(hy:y.length=n):rE x y=some (uk n x y):=by
 have h:=rV (B:=fun v=>kc x y v.1 v.2) n (fun k=>(uk k x y,k)) (x:=(uk n x y,n,false))
  (fun k hk=>by
   have r:∀ b:Bool,(uk k x y).length + [b].length≤1000000000:=fun b=>by simp [uk];omega
   simp only [kc,show (k:Int)<(x.length:Int) by omega,if_true,nF (show k<x.length by omega),nF (show k<y.length by omega),Option.bind_some,pA k (by omega),r,
    show uk (k+1) x y=uk k x y++[on x k&&on y k] by simp [uk,List.range_succ]]
   cases on x k<;>simp)
  (by simp [kc,hx])
 have h':lp (fun v=>kc x y v.1 v.2) (([]:List Bool),0)=_:=h
 simp only [rE,h',Option.bind_some]
theorem W5{x y:List Bool}(hx:x.length=n)(hy:y.length=n):sR x y=some (y1 n x y):=by
 have h:=rV (B:=fun v=>kV x y v.1 v.2) n (fun k=>(y1 k x y,k)) (x:=(y1 n x y,n,false))
  (fun k hk=>by
   have r:∀ b:Bool,(y1 k x y).length + [b].length≤1000000000:=fun b=>by simp [y1];omega
   simp only [kV,show (k:Int)<(x.length:Int) by omega,if_true,nF (show k<x.length by omega),nF (show k<y.length by omega),Option.bind_some,pA k (by omega),r,
    show y1 (k+1) x y=y1 k x y++[on x k||on y k] by simp [y1,List.range_succ]]
   cases on x k<;>simp)
  (by simp [kV,hx])
 have h':lp (fun v=>kV x y v.1 v.2) (([]:List Bool),0)=_:=h
 simp only [sR,h',Option.bind_some]
end
def pv(n:Nat)(l m:Level):Bool:=Bc n m.Readers l.Readers&&Bc n l.Writers m.Writers
def zH(n:Nat)(l m:Level):Level:=⟨uk n l.Readers m.Readers,y1 n l.Writers m.Writers⟩
theorem J5{a:af}{ls:List Level}(h:qH a ls=0):de a=0∧∀ l∈ls,dv a.Many.toNat l:=by
 unfold qH at h
 split at h
 ·rename_i h1;exact absurd h h1
 ·rename_i h1
  split at h
  ·cases h
  ·rename_i h2
   refine ⟨Classical.not_not.1 h1,fun l hl=>?_⟩
   have:¬ma a l=false:=fun he=>h2 (List.any_eq_true.2 ⟨l,hl,by rw [he];rfl⟩)
   have hs:ma a l=true:=by simpa using this
   unfold ma at hs
   obtain ⟨h3,h4⟩:=of_decide_eq_true hs
   exact ⟨by omega,by omega⟩
theorem wJ{a:af}(h:de a=0):a.Many.toNat≤6∧1≤a.Many.toNat∧((a.Many.toNat:Nat):Int)=a.Many:=by
 obtain ⟨h1,h2,_⟩:=sf h
 omega
section
variable {n:Nat}(hn:n≤1000000){l m:Level}(hl:dv n l)(hm:dv n m)
include hn hl hm
theorem wK:fK l m=some (pv n l m):=by
 unfold fK pv
 rw [J4 hn hm.1 hl.1,J4 hn hl.2 hm.2,Option.bind_some]
 cases Bc n m.Readers l.Readers<;>simp
theorem Ck:ju l m=some (zH n l m):=by
 simp only [ju,Sg hn hl.1 hm.1,W5 hn hl.2 hm.2,Option.bind_some,zH]
end
theorem xz(n:Nat)(l m:Level):dv n (zH n l m):=by simp [dv,zH,uk,y1]
theorem pw(a:af)(l:Label):dv a.Many.toNat (lx a l):=by simp [dv,lx]
theorem Ob(a:af)(l m:Level):pO a l m=some (if qH a [l,m]=0 then (pv a.Many.toNat l m,0) else (false,qH a [l,m])):=by
 unfold pO
 rw [N9 a _ (by simp),Option.bind_some]
 by_cases h:qH a [l,m]=0
 ·obtain ⟨hok,hs⟩:=J5 h
  have hm:=wJ hok
  simp [h,wK (n:=a.Many.toNat) (by omega) (hs l (by simp)) (hs m (by simp))]
 ·simp [h]
end Go.Proofs.YtdpjofmmokaobaaGreat.A
