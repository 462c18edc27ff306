/- Levels: what the functions of label and actors answer. -/
import Derived.Test.YtdpjofmmokaobaaGreatHeadF
import Derived.Test.YtdpjofmmokaobaaGreatReachW
import Derived.Test.YtdpjofmmokaobaaGreatFL
set_option linter.unusedSectionVars false
set_option linter.unusedVariables false
set_option linter.unusedSimpArgs false
namespace Go.Proofs.YtdpjofmmokaobaaGreat.A
open Go
variable [Lp]
theorem nS{row:List Bool}{k:Nat}(h:k<row.length):row[k]? =some (on row k):=by
 unfold on;rw [List.getD_eq_getElem?_getD,List.getElem?_eq_getElem h];rfl
theorem zB{α:Type}{l:List α}{k:Nat}(h:k<l.length):l.take (k+1)=l.take k++[l[k]]:=by
 rw [List.take_add_one,List.getElem?_eq_getElem h];rfl
theorem cast_toNat{n:Int}(h:0≤n):n=((n.toNat:Nat):Int):=by omega
section
variable (a:ah)(hok:fH a=0)
include hok
theorem O7:Good a.Many.toNat a.Grants:=by
 obtain ⟨h1,h2,h3,h4⟩:=sD hok
 intro g hg
 have:=h4 g hg
 omega
end
def allRows(m:Nat)(gs:List cq):List (List Bool):=(List.range m).map (eR m gs)
section
variable (a:ah)(hok:fH a=0)
include hok
theorem Of:nO a=some (allRows a.Many.toNat a.Grants):=by
 obtain ⟨h1,h2,h3,h4⟩:=sD hok
 have hg:=O7 a hok
 have inner:∀ (out:List (List Bool))(n:Nat)(row:List Bool)(c:Nat)(y:Int)(left:List Int),left.length≤1000→
   lp (fun v=>jx a out n row y c v.1 v.2) (left,0)=some (left++(a.Grants.filter (fun g=>g.Who==y)).map (·.For),a.Grants.length,false):=by
  intro out n row c y left hll
  have h:=qC (B:=fun v=>jx a out n row y c v.1 v.2) a.Grants.length (fun j=>(left++((a.Grants.take j).filter (fun g=>g.Who==y)).map (·.For),j))
   (x:=(left++(a.Grants.filter (fun g=>g.Who==y)).map (·.For),a.Grants.length,false))
   (fun j hj=>by
    have hfl:((a.Grants.take j).filter (fun g=>g.Who==y)).length≤20:=Nat.le_trans (List.length_filter_le ..) (by simp;omega)
    have hroom:(left++((a.Grants.take j).filter (fun g=>g.Who==y)).map (·.For)).length + [a.Grants[j].For].length≤1000000000:=by
     simp only [List.length_append,List.length_map,List.length_singleton];omega
    simp only [jx,show (j:Int)<(a.Grants.length:Int) by omega,if_true,List.getElem?_eq_getElem hj,Option.bind_some,pK j (by omega),hroom]
    rw [zB hj,List.filter_append,List.map_append,←List.append_assoc]
    cases ho:(a.Grants[j].Who==y) with
    | true=>simp [ho]
    | false=>simp [ho])
   (by simp [jx])
  simpa using h
 have middle:∀ (out:List (List Bool))(n:Nat),n<a.Many.toNat→∃ z2 z3,lp (fun v=>gv a out n v.1 v.2) ([(n:Int)],List.replicate a.Many.toNat false)=some (eR a.Many.toNat a.Grants n,z2,z3):=by
  intro out n hn
  have hw:=fU (B:=fun v=>gv a out n v.1 v.2)
   (fun q=>(a.Many.toNat - gU q.2)*(a.Grants.length+1)+q.1.length)
   (fun q=>q.2.length=a.Many.toNat∧(∀ x∈q.1,0≤x∧x<a.Many∧Reach a.Grants n x.toNat)∧(∀ k,on q.2 k=true→Reach a.Grants n k)∧(on q.2 n=true∨(n:Int)∈q.1)∧
    (∀ g∈a.Grants,on q.2 g.Who.toNat=true→on q.2 g.For.toNat=true∨g.For∈q.1)∧(a.Many.toNat - gU q.2)*(a.Grants.length+1)+q.1.length≤500)
   (fun r=>∃ z2 z3,r=(eR a.Many.toNat a.Grants n,z2,z3))
   (fun ⟨left,row⟩ ⟨hl,hleft,hrow,hself,hcl,hm⟩=>by
    simp only at hl hleft hrow hself hcl hm ⊢
    by_cases hz:0<left.length
    ·
     right
     have hpos:0<(left.length:Int):=by omega
     have hlt:left.length - 1<left.length:=by omega
     have hy:=List.getElem?_eq_getElem hlt
     generalize hyy:left[left.length - 1]=y at hy
     have hym:y∈left:=List.mem_of_getElem? hy
     obtain ⟨hy1,hy2,hy3⟩:=hleft y hym
     have hsplit:left=left.take (left.length - 1)++[y]:=by
      have:=zB (l:=left) (k:=left.length - 1) hlt
      rw [hyy,show left.length - 1+1=left.length by omega,List.take_length] at this
      exact this
     have hw1:IntKind.i64.wrap ((left.length:Int) - 1)=(left.length:Int) - 1:=wrap64 (by omega) (by omega)
     have hn1:cX ((left.length:Int) - 1)=some (left.length - 1):=by rw [cj (by omega)];congr 1;omega
     have hgety:row[y.toNat]? =some (on row y.toNat):=nS (by omega)
     have hsub:∀ x∈left.take (left.length - 1),x∈left:=fun x hx=>List.mem_of_mem_take hx
     have hor:∀ x∈left,x=y∨x∈left.take (left.length - 1):=by
      intro x hx
      rw [hsplit] at hx
      rcases List.mem_append.1 hx with hx | hx
      ·exact .inr hx
      ·exact .inl (by simpa using hx)
     have hlen1:(left.take (left.length - 1)).length=left.length - 1:=by simp
     cases ho:on row y.toNat with
     | true=>
      refine ⟨(left.take (left.length - 1),row),?_,⟨hl,fun x hx=>hleft x (hsub x hx),hrow,?_,fun g hg' hw=>?_,?_⟩,?_⟩
      ·simp only [gv,hpos,if_true,hw1,hn1,Option.bind_some,hy,show left.length - 1≤left.length by omega,cj hy1,hgety,ho]
      ·rcases hself with h | h
       ·exact .inl h
       ·rcases hor _ h with rfl | h
        ·left;simpa using ho
        ·exact .inr h
      ·rcases hcl g hg' hw with h | h
       ·exact .inl h
       ·rcases hor _ h with h | h
        ·left;simp only;rw [h];exact ho
        ·exact .inr h
      ·simp only [hlen1];omega
      ·simp only [hlen1];omega
     | false=>
      have hbl:(left.take (left.length - 1)).length≤1000:=by
       have:left.length≤500:=Nat.le_trans (Nat.le_add_left _ _) hm
       omega
      have hin:=inner out n row y.toNat y (left.take (left.length - 1)) hbl
      have hfl:((a.Grants.filter (fun g=>g.Who==y)).map (·.For)).length≤a.Grants.length:=by rw [List.length_map];exact List.length_filter_le ..
      have hyr:y.toNat<row.length:=by omega
      have hcs:=DZ hyr ho
      have hcle:=KM (row.set y.toNat true)
      rw [List.length_set,hl] at hcle
      have hmeas:(a.Many.toNat - gU (row.set y.toNat true))*(a.Grants.length+1)+(left.take (left.length - 1)++(a.Grants.filter (fun g=>g.Who==y)).map (·.For)).length<(a.Many.toNat - gU row)*(a.Grants.length+1)+left.length:=by
       rw [List.length_append,hlen1,hcs]
       have e:a.Many.toNat - gU row=(a.Many.toNat - (gU row+1))+1:=by omega
       rw [e,Nat.add_mul]
       omega
      refine ⟨(left.take (left.length - 1)++(a.Grants.filter (fun g=>g.Who==y)).map (·.For),row.set y.toNat true),?_,⟨by simpa using hl,fun x hx=>?_,fun k hk=>?_,?_,fun g hg' hw=>?_,?_⟩,hmeas⟩
      ·simp only [gv,hpos,if_true,hw1,hn1,Option.bind_some,hy,show left.length - 1≤left.length by omega,cj hy1,hgety,ho,hin,Bool.false_eq_true,if_false]
      ·rcases List.mem_append.1 hx with hx | hx
       ·exact hleft x (hsub x hx)
       ·obtain ⟨g,hg',rfl⟩:=List.mem_map.1 hx
        obtain ⟨hg1,hg2⟩:=List.mem_filter.1 hg'
        have hwy:g.Who=y:=by simpa using hg2
        obtain ⟨_,hf1,hf2⟩:=h4 g hg1
        exact ⟨hf1,hf2,.step g hy3 hg1 (by rw [hwy];exact cast_toNat hy1)⟩
      ·simp only at hk
       rw [zq hyr] at hk
       simp only [Bool.or_eq_true,decide_eq_true_eq] at hk
       rcases hk with rfl | hk
       ·exact hy3
       ·exact hrow k hk
      ·simp only
       rw [zq hyr]
       rcases hself with h | h
       ·left;rw [h];simp
       ·rcases hor _ h with h | h
        ·left;rw [←h];simp
        ·exact .inr (List.mem_append_left _ h)
      ·simp only at hw ⊢
       rw [zq hyr] at hw ⊢
       simp only [Bool.or_eq_true,decide_eq_true_eq] at hw ⊢
       rcases hw with hw | hw
       ·right
        refine List.mem_append_right _ (List.mem_map.2 ⟨g,List.mem_filter.2 ⟨hg',?_⟩,rfl⟩)
        obtain ⟨⟨hf1,_⟩,_⟩:=h4 g hg'
        have:g.Who=y:=by omega
        simpa using this
       ·rcases hcl g hg' hw with h | h
        ·exact .inl (.inr h)
        ·rcases hor _ h with h | h
         ·left;left;rw [h]
         ·exact .inr (List.mem_append_left _ h)
      ·exact Nat.le_trans (Nat.le_of_lt hmeas) hm
    ·left
     have hnil:left=[]:=List.eq_nil_of_length_eq_zero (by omega)
     subst hnil
     obtain ⟨hc1,hc2,hc3⟩:=HL hg hn
     have heq:row=eR a.Many.toNat a.Grants n:=S9 (hl.trans (zw ..).symm) (fun g hg' hw=>(hcl g hg' hw).resolve_right (by simp)) (hself.resolve_right (by simp)) hrow hc1 hc2 hc3
     exact ⟨(row,[],false),by simp [gv],[],false,by rw [←heq]⟩)
  obtain ⟨r,h5,z2,z3,rfl⟩:=hw ([(n:Int)],List.replicate a.Many.toNat false) ⟨by simp,fun x hx=>by
    obtain rfl:x=(n:Int):=by simpa using hx
    exact ⟨by omega,by omega,by simpa using Reach.refl⟩,fun k hk=>by
    exfalso
    unfold on at hk
    rw [List.getD_eq_getElem?_getD,List.getElem?_replicate] at hk
    (split at hk<;>cases hk),.inr (by simp),fun g _ hw=>by
    exfalso
    simp only at hw
    unfold on at hw
    rw [List.getD_eq_getElem?_getD,List.getElem?_replicate] at hw
    (split at hw<;>cases hw),by
    simp only [List.length_singleton]
    have h6:(a.Many.toNat - gU (List.replicate a.Many.toNat false))*(a.Grants.length+1)≤6*21:=Nat.mul_le_mul (by omega) (by omega)
    omega⟩
  exact ⟨z2,z3,h5⟩
 have outer:=qC (B:=fun v=>jy a v.1 v.2) a.Many.toNat (fun n=>((List.range n).map (eR a.Many.toNat a.Grants),n)) (x:=(allRows a.Many.toNat a.Grants,a.Many.toNat,false))
   (fun n hn=>by
    obtain ⟨z2,z3,hin⟩:=middle ((List.range n).map (eR a.Many.toNat a.Grants)) n hn
    simp only [jy,show (n:Int)<a.Many by omega,if_true,cj (show 0≤a.Many by omega),Option.bind_some,show a.Many.toNat≤1000000000 by omega,hin,pK n (by omega),
     show ((List.range n).map (eR a.Many.toNat a.Grants)).length + [eR a.Many.toNat a.Grants n].length≤1000000000 by simp;omega,List.range_succ,List.map_append,List.map_cons,List.map_nil])
   (by simp only [jy,show ¬((a.Many.toNat:Nat):Int)<a.Many by omega,if_false,allRows,decide_false])
 have outer':lp (fun v=>jy a v.1 v.2) (([]:List (List Bool)),0)=_:=outer
 simp only [nO,outer',Option.bind_some]
end
theorem wm{m:Nat}{gs:List cq}{i:Nat}(h:i<m):(allRows m gs)[i]? =some (eR m gs i):=by
 unfold allRows;rw [List.getElem?_map,List.getElem?_range h];rfl
theorem Ec{m:Nat}{gs:List cq}{i k:Nat}(h:k<m):(eR m gs i)[k]? =some (iB m gs i k):=nS (by rw [zw];exact h)
def BD(m:Nat)(gs:List cq)(ps:List bC)(who:Nat):Bool:=ps.all fun p=>iB m gs who p.Owner.toNat||p.Names.any fun n=>iB m gs who n.toNat
def mH(a:ah)(l:Label):Level:=⟨(List.range a.Many.toNat).map (BD a.Many.toNat a.Grants l.Read),(List.range a.Many.toNat).map (BD a.Many.toNat a.Grants l.Write)⟩
def Og(m:Int)(ps:List bC):Prop:=ps.length≤4∧∀ p∈ps,dc m p.Owner=true∧p.Names.length≤6∧∀ n∈p.Names,dc m n=true
theorem GL{m:Int}{ps:List bC}(h:rR m ps=0):Og m ps:=⟨(ur h).1,fun p hp=>CF ((ur h).2 p hp)⟩
theorem KO{β:Type}(l:List β)(p:β→Bool):(!l.any fun x=>!p x)=l.all p:=by
 induction l with
 | nil=>rfl
 | cons x l ih=>simp only [List.any_cons,List.all_cons,←ih];cases p x<;>simp
section
variable (a:ah)(hok:fH a=0)
include hok
theorem Oh(ps:List bC)(hp:Og a.Many ps):nR ps a (allRows a.Many.toNat a.Grants)=some ((List.range a.Many.toNat).map (BD a.Many.toNat a.Grants ps)):=by
 obtain ⟨h1,h2,h3,h4⟩:=sD hok
 have hin:∀ (n:Int),dc a.Many n=true→∀ who:Nat,who<a.Many.toNat→jU n (allRows a.Many.toNat a.Grants) (who:Int)=some (iB a.Many.toNat a.Grants who n.toNat):=by
  intro n hn who hw
  obtain ⟨hn1,hn2⟩:=rS.1 hn
  simp [jU,FW,wm hw,cj hn1,Ec (gs:=a.Grants) (i:=who) (show n.toNat<a.Many.toNat by omega)]
 have hnot:∀ p∈ps,∀ who:Nat,who<a.Many.toNat→lQ p (allRows a.Many.toNat a.Grants) (who:Int)=some (!(iB a.Many.toNat a.Grants who p.Owner.toNat||p.Names.any fun n=>iB a.Many.toNat a.Grants who n.toNat)):=by
  intro p hpp who hw
  obtain ⟨ho,hl,hn⟩:=hp.2 p hpp
  obtain ⟨ho1,ho2⟩:=rS.1 ho
  have hc:ee p.Names (allRows a.Many.toNat a.Grants) (who:Int)=some (p.Names.any fun n=>iB a.Many.toNat a.Grants who n.toNat):=
   l9 (fun y=>jU y (allRows a.Many.toNat a.Grants) (who:Int)) _ p.Names (by omega) (fun y hy=>hin y (hn y hy) who hw)
  simp only [lQ,FW,Option.bind_some,wm hw,cj ho1,Ec (gs:=a.Grants) (i:=who) (show p.Owner.toNat<a.Many.toNat by omega),hc]
  cases iB a.Many.toNat a.Grants who p.Owner.toNat<;>simp
 have hl:=qC (B:=fun v=>jz ps a (allRows a.Many.toNat a.Grants) v.1 v.2) a.Many.toNat (fun k=>((List.range k).map (BD a.Many.toNat a.Grants ps),k)) (x:=((List.range a.Many.toNat).map (BD a.Many.toNat a.Grants ps),a.Many.toNat,false))
  (fun k hk=>by
   have hc:eF ps (allRows a.Many.toNat a.Grants) (k:Int)=some (ps.any fun p=>!(iB a.Many.toNat a.Grants k p.Owner.toNat||p.Names.any fun n=>iB a.Many.toNat a.Grants k n.toNat)):=
    l9 (fun y=>lQ y (allRows a.Many.toNat a.Grants) (k:Int)) _ ps (by have:=hp.1;omega) (fun y hy=>hnot y hy k hk)
   have hr:((List.range k).map (BD a.Many.toNat a.Grants ps)).length + [BD a.Many.toNat a.Grants ps k].length≤1000000000:=by simp;omega
   simp only [jz,show (k:Int)<a.Many by omega,if_true,hc,Option.bind_some,pK k (by omega),KO]
   rw [List.range_succ,List.map_append]
   simp only [List.map_cons,List.map_nil]
   exact if_pos hr)
  (by simp only [jz,show ¬((a.Many.toNat:Nat):Int)<a.Many by omega,if_false,decide_false])
 have hl':lp (fun v=>jz ps a (allRows a.Many.toNat a.Grants) v.1 v.2) (([]:List Bool),0)=_:=hl
 simp only [nR,hl',Option.bind_some]
theorem JA(l:Label)(hf:gy a.Many l=0):ml a l=some (mH a l):=by
 obtain ⟨hr,hw⟩:=uu hf
 simp only [ml,Of a hok,Option.bind_some,Oh a hok _ (GL hr),Oh a hok _ (GL hw),mH]
end
def dY(n:Nat)(l:Level):Prop:=l.Readers.length=n∧l.Writers.length=n
def BE(n:Nat)(x y:List Bool):Bool:=(List.range n).all fun k=>!on x k||on y k
def uL(n:Nat)(x y:List Bool):List Bool:=(List.range n).map fun k=>on x k&&on y k
def zC(n:Nat)(x y:List Bool):List Bool:=(List.range n).map fun k=>on x k||on y k
theorem O8(n:Nat)(x y:List Bool):(!(List.range n).any fun k=>on x k&&!on y k)=BE n x y:=by
 unfold BE
 rw [←KO]
 congr 2
 funext k
 cases on x k<;>cases on y k<;>rfl
section
variable {n:Nat}(hn:n≤1000000)
include hn
theorem KP{x y:List Bool}(hx:x.length=n)(hy:y.length=n):pF x y=some (BE n x y):=by
 have h:=OU (B:=fun v=>iC x y v) n (fun k=>on x k&&!on y k) id (x:=.inl ()) (y:=.inr (n,false))
  (fun k hk hp=>by
   simp only [iC,id,show (k:Int)<(x.length:Int) by omega,if_true,nS (show k<x.length by omega),nS (show k<y.length by omega),Option.bind_some,pK k (by omega)]
   cases hxk:on x k with
   | false=>simp
   | true=>
    have:on y k=true:=by simpa [hxk] using hp
    simp [this])
  (fun k hk hp=>by
   have he:on x k=true∧on y k=false:=by simpa using hp
   simp only [iC,id,show (k:Int)<(x.length:Int) by omega,if_true,nS (show k<x.length by omega),nS (show k<y.length by omega),Option.bind_some,he.1,he.2]
   simp)
  (by simp [iC,hx])
 have h':lp (fun v=>iC x y v) 0=_:=h
 simp only [pF,h',Option.bind_some,←O8]
 cases (List.range n).any (fun k=>on x k&&!on y k)<;>simp
theorem Tb{x y:List Bool}(hx:x.length=n)(hy:y.length=n):rO x y=some (uL n x y):=by
 have h:=qC (B:=fun v=>ku x y v.1 v.2) n (fun k=>(uL k x y,k)) (x:=(uL n x y,n,false))
  (fun k hk=>by
   have r:∀ b:Bool,(uL k x y).length + [b].length≤1000000000:=fun b=>by simp [uL];omega
   simp only [ku,show (k:Int)<(x.length:Int) by omega,if_true,nS (show k<x.length by omega),nS (show k<y.length by omega),Option.bind_some,pK k (by omega),r,
    show uL (k+1) x y=uL k x y++[on x k&&on y k] by simp [uL,List.range_succ]]
   cases on x k<;>simp)
  (by simp [ku,hx])
 have h':lp (fun v=>ku x y v.1 v.2) (([]:List Bool),0)=_:=h
 simp only [rO,h',Option.bind_some]
theorem XE{x y:List Bool}(hx:x.length=n)(hy:y.length=n):td x y=some (zC n x y):=by
 have h:=qC (B:=fun v=>lC x y v.1 v.2) n (fun k=>(zC k x y,k)) (x:=(zC n x y,n,false))
  (fun k hk=>by
   have r:∀ b:Bool,(zC k x y).length + [b].length≤1000000000:=fun b=>by simp [zC];omega
   simp only [lC,show (k:Int)<(x.length:Int) by omega,if_true,nS (show k<x.length by omega),nS (show k<y.length by omega),Option.bind_some,pK k (by omega),r,
    show zC (k+1) x y=zC k x y++[on x k||on y k] by simp [zC,List.range_succ]]
   cases on x k<;>simp)
  (by simp [lC,hx])
 have h':lp (fun v=>lC x y v.1 v.2) (([]:List Bool),0)=_:=h
 simp only [td,h',Option.bind_some]
end
def qN(n:Nat)(l m:Level):Bool:=BE n m.Readers l.Readers&&BE n l.Writers m.Writers
def Ag(n:Nat)(l m:Level):Level:=⟨uL n l.Readers m.Readers,zC n l.Writers m.Writers⟩
theorem Ed{a:ah}(h:fH a=0):a.Many.toNat≤6∧1≤a.Many.toNat∧((a.Many.toNat:Nat):Int)=a.Many:=by
 obtain ⟨h1,h2,_⟩:=sD h
 omega
section
variable {n:Nat}(hn:n≤1000000){l m:Level}(hl:dY n l)(hm:dY n m)
include hn hl hm
theorem Ah:iD l m=some (qN n l m):=by
 unfold iD qN
 rw [KP hn hm.1 hl.1,KP hn hl.2 hm.2,Option.bind_some]
 cases BE n m.Readers l.Readers<;>simp
theorem CV:jE l m=some (Ag n l m):=by
 simp only [jE,Tb hn hl.1 hm.1,XE hn hl.2 hm.2,Option.bind_some,Ag]
end
theorem xX(n:Nat)(l m:Level):dY n (Ag n l m):=by simp [dY,Ag,uL,zC]
theorem rV(a:ah)(l:Label):dY a.Many.toNat (mH a l):=by simp [dY,mH]
end Go.Proofs.YtdpjofmmokaobaaGreat.A
