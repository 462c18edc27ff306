/- commands of trees: which are right: the program's and the document's are the same plain function. -/
import Derived.Test.YtphgedfhcncobaaGreatDoorTreeD
set_option linter.unusedSectionVars false
set_option linter.unusedVariables false
set_option linter.unusedSimpArgs false
namespace Go.Proofs.YtphgedfhcncobaaGreatDoor.A
open Go
mutual
def pP:aa→Bool
 | ⟨k,_,nm,ot,ex,args,th,el⟩=>
  decide (1≤k∧k≤8)&&(iJ nm (decide (k≠4∧k<7))&&(iJ ot (decide (2≤k∧k≤4))&&(q5 ex (decide (k≠2∧k≠3))&&
   ((decide (k=2)||args.isEmpty)&&((decide (7≤k)||th.isEmpty)&&((decide (k=7)||el.isEmpty)&&(args.all eN&&(eZ th&&eZ el))))))))
def eZ:List aa→Bool
 | []=>true
 | s::r=>pP s&&eZ r
end
theorem u4:∀ l:List aa,eZ l=l.all pP
 | []=>rfl
 | x::r=>by rw [eZ,u4 r];rfl
mutual
def Cp:aa→Nat
 | ⟨_,_,_,_,_,_,th,el⟩=>1+max (q6 th) (q6 el)
def q6:List aa→Nat
 | []=>0
 | x::r=>max (Cp x) (q6 r)
end
theorem A8(s:aa):Cp s=1+max (q6 s.Then) (q6 s.Else):=by cases s;simp only [Cp]
theorem pQ:∀ {l:List aa}{x:aa},x∈l→Cp x≤q6 l
 | y::r,x,h=>by
  simp only [q6]
  rcases List.mem_cons.1 h with rfl | h
  ·omega
  ·have:=pQ h;omega
def E9(s:aa):Prop:=∃ d n,u3 s d=some n∧n≤50
def q7(l:List aa):Prop:=∃ d n,dz l d=some n∧n≤50
theorem pR{l:List aa}(h:q7 l):l.length≤50:=by
 obtain ⟨d,n,h1,h2⟩:=h
 have:=iu l d n h1
 omega
theorem pS:∀ {l:List aa}{s:aa},q7 l→s∈l→E9 s
 | y::r,s,h,hm=>by
  obtain ⟨d,n,h1,h2⟩:=h
  simp only [dz] at h1
  obtain ⟨a,ha,h3⟩:=Option.bind_eq_some_iff.1 h1
  obtain ⟨b,hb,h4⟩:=Option.bind_eq_some_iff.1 h3
  obtain rfl:=Option.some.inj h4
  have ha0:=A4 _ _ _ ha
  have hb0:=iu _ _ _ hb
  rcases List.mem_cons.1 hm with rfl | hm
  ·exact ⟨d,a,ha,by omega⟩
  ·exact pS ⟨d,b,hb,by omega⟩ hm
theorem Dk{l:List aa}{d n:Int}(h:bw l d=some n)(hn:n≤50):q7 l:=by
 unfold bw at h
 split at h
 ·cases h
 ·exact ⟨d,n,h,hn⟩
theorem Cq{s:aa}(h:E9 s):s.Args.length≤4∧q7 s.Then∧q7 s.Else:=by
 obtain ⟨d,n,h1,h2⟩:=h
 rw [tZ] at h1
 split at h1
 ·cases h1
 ·rename_i hs
  obtain ⟨a,ha,h3⟩:=Option.bind_eq_some_iff.1 h1
  obtain ⟨b,hb,h4⟩:=Option.bind_eq_some_iff.1 h3
  obtain rfl:=Option.some.inj h4
  have ha0:=cI ha
  have hb0:=cI hb
  refine ⟨?_,Dk ha (by omega),Dk hb (by omega)⟩
  unfold lC at hs
  simp only [Bool.not_eq_true,Bool.or_eq_false_iff,decide_eq_false_iff_not] at hs
  omega
theorem yw{β:Type}(l:List β):(0<(l.length:Int))=(l.isEmpty=false):=by
 cases l with
 | nil=>simp
 | cons x r=>simp
theorem A9{β:Type}(l:List β):((l.length:Int)==0)=l.isEmpty:=by
 cases l with
 | nil=>rfl
 | cons x r=>rw [Bool.eq_iff_iff];simp;omega
variable [Lp]
theorem Jd(l:List ad)(hl:l.length≤1000):dj l=some (l.any fun e=>!eN e):=
 im l3 (fun e=>!eN e) l (by omega) fun e _=>by
  unfold l3
  rw [Cn];rfl
noncomputable abbrev NS:=aw
theorem Ba(m:Nat)(l:List aa)(hl:l.length≤50)(h:∀ s∈l,(NS m).f_tree_stmt s=some (pP s)):(NS (m+4)).f_tree_stmts l=some (eZ l):=by
 show l4 (NS (m+3)) l=_
 unfold l4
 have hc:(NS (m+3)).f_slices_ContainsFunc__tree_stmts_1 l=some (l.any fun y=>!pP y):=
  im (fun y=>(NS (m+1)).f_tree_stmts_1 y) (fun y=>!pP y) l (by omega) fun y hy=>by
   show jB (NS m) y=_
   unfold jB
   rw [h y hy];rfl
 rw [hc]
 simp only [Option.bind_some]
 rw [u4,List.not_any_eq_all_not]
 simp
theorem Dl:∀ (k:Nat)(s:aa),Cp s≤k→E9 s→∀ n,5*k≤n→(NS n).f_tree_stmt s=some (pP s)
 | 0,s,h,_,_,_=>by rw [A8] at h;omega
 | k+1,s,h,hf,n,hn=>by
  obtain ⟨m,rfl⟩:∃ m,n=m+5:=⟨n - 5,by omega⟩
  obtain ⟨h4,hth,hel⟩:=Cq hf
  rw [A8] at h
  have e1:(NS (m+4)).f_tree_stmts s.Then=some (eZ s.Then):=Ba m s.Then (pR hth) fun y hy=>Dl k y (by have:=pQ hy;omega) (pS hth hy) m (by omega)
  have e2:(NS (m+4)).f_tree_stmts s.Else=some (eZ s.Else):=Ba m s.Else (pR hel) fun y hy=>Dl k y (by have:=pQ hy;omega) (pS hel hy) m (by omega)
  have e3:=Jd s.Args (by omega)
  have hall:(s.Args.any fun y=>!eN y)=!s.Args.all eN:=by
   rw [←Bool.not_inj_iff,List.not_any_eq_all_not];simp
  rw [hall] at e3
  show mW (NS (m+4)) s=_
  unfold mW nO nP ep
  simp only [A3,Ea,e1,e2,e3,Option.bind_some,yw]
  clear e1 e2 e3 hall hth hel h4 hf h hn
  obtain ⟨kd,at_,nm,ot,ex,args,th,el⟩:=s
  simp only [pP]
  by_cases g1:kd<1
  ·rw [if_pos g1]
   have:decide (1≤kd∧kd≤8)=false:=by simp;omega
   rw [this];rfl
  rw [if_neg g1]
  by_cases g2:8<kd
  ·rw [if_pos g2]
   have:decide (1≤kd∧kd≤8)=false:=by simp;omega
   rw [this];rfl
  rw [if_neg g2]
  have hk:kd=1∨kd=2∨kd=3∨kd=4∨kd=5∨kd=6∨kd=7∨kd=8:=by omega
  generalize args.all eN=ao
  generalize eZ th=tho
  generalize eZ el=elo
  generalize args.isEmpty=ae
  generalize th.isEmpty=te
  generalize el.isEmpty=ee
  rcases hk with rfl | rfl | rfl | rfl | rfl | rfl | rfl | rfl<;>
   (simp (decide:=true) only [↓reduceIte,Int.reduceBNe,Int.reduceBEq,decide_true,decide_false,Bool.not_true,Bool.not_false,Bool.true_and,Bool.true_or,Bool.false_or]
    generalize iJ nm true=n1
    generalize iJ nm false=n0
    generalize iJ ot true=o1
    generalize iJ ot false=o0
    generalize q5 ex true=x1
    generalize q5 ex false=x0
    first
    | (cases n1<;>cases o0<;>cases x1<;>cases ae<;>cases te<;>cases ee<;>cases ao<;>cases tho<;>cases elo<;>rfl)
    | (cases n1<;>cases o1<;>cases x0<;>cases ae<;>cases te<;>cases ee<;>cases ao<;>cases tho<;>cases elo<;>rfl)
    | (cases n0<;>cases o1<;>cases x1<;>cases ae<;>cases te<;>cases ee<;>cases ao<;>cases tho<;>cases elo<;>rfl)
    | (cases n0<;>cases o0<;>cases x1<;>cases ae<;>cases te<;>cases ee<;>cases ao<;>cases tho<;>cases elo<;>rfl))
end Go.Proofs.YtphgedfhcncobaaGreatDoor.A
