/- commands of trees: the document's side. -/
import Derived.Test.YtphgedfhcncobaaGreatDoorTreeS
set_option linter.unusedSectionVars false
set_option linter.unusedVariables false
set_option linter.unusedSimpArgs false
namespace Go.Proofs.YtphgedfhcncobaaGreatDoor.A
open Go
variable [Lp]
theorem Ed(R:iI)(a0:List aa)(i:Nat)(y:aa)(p q r:Bool)(hl:y.Args.length≤4):lp (fun v=>fQ R a0 i y p q r v.1 v.2) (true,0)=some (y.Args.all eN,y.Args.length,false):=by
 have:=IY (B:=fun v:Bool×Nat=>fQ R a0 i y p q r v.1 v.2) y.Args.length (fun k=>((y.Args.take k).all eN,k)) (x:=(y.Args.all eN,y.Args.length,false))
  (fun k hk=>by
   have ht:(y.Args.take (k+1)).all eN=((y.Args.take k).all eN&&eN y.Args[k]):=by
    rw [List.take_succ_eq_append_getElem hk,List.all_append]
    simp
   have hw:=fk k (by omega)
   simp only [fQ,List.getElem?_eq_getElem hk,Option.bind_some,tw,hw,if_true,ht]
   rw [if_pos (by omega)]
   cases (y.Args.take k).all eN<;>simp)
  (by simp [fQ])
 simpa using this
theorem Fa:∀ (n:Nat)(l:List aa),q6 l<n→q7 l→(eK n).f_R_areStmts l=some (eZ l)
 | 0,l,h,_=>by omega
 | m+1,l,h,hf=>by
  have hlen:=pR hf
  have hB:∀ (i:Nat)(s:aa),l[i]? =some s→fR (eK m) l i=if pP s=true then some (.inl (i+1)) else some (.inr (.inl ())):=by
   intro i s hg
   obtain ⟨hi,hs⟩:=List.getElem?_eq_some_iff.1 hg
   have hm:s∈l:=hs▸List.getElem_mem hi
   have hht:=pQ hm
   rw [A8] at hht
   obtain ⟨h4,hth,hel⟩:=Cq (pS hf hm)
   have e1:=Fa m s.Then (by omega) hth
   have e2:=Fa m s.Else (by omega) hel
   have hw:=fk i (by omega)
   have hal:=fun p q r=>Ed (eK m) l i s p q r h4
   have hte:s.Then.isEmpty=true→eZ s.Then=true:=fun h=>by rw [List.isEmpty_iff.1 h];rfl
   have hee:s.Else.isEmpty=true→eZ s.Else=true:=fun h=>by rw [List.isEmpty_iff.1 h];rfl
   have hae:s.Args.isEmpty=true→s.Args.all eN=true:=fun h=>by rw [List.isEmpty_iff.1 h];rfl
   simp only [fR,hg,Option.bind_some,yW]
   rw [if_pos (by omega)]
   unfold hY dq np eW
   simp only [nr,tw,e1,e2,hal,Option.bind_some,A9,hw,if_true]
   clear e1 e2 hal hth hel h4 hht hm hs hi hg
   obtain ⟨kd,at_,nm,ot,ex,args,th,el⟩:=s
   simp only [pP,iJ,q5] at *
   by_cases hk:1≤kd∧kd≤8
   ·have hk':kd=1∨kd=2∨kd=3∨kd=4∨kd=5∨kd=6∨kd=7∨kd=8:=by omega
    rcases hk' with rfl | rfl | rfl | rfl | rfl | rfl | rfl | rfl<;>
     (simp (decide:=true) only [↓reduceIte,Int.reduceBNe,Int.reduceBEq,decide_true,decide_false,Bool.not_true,Bool.not_false,Bool.true_and,Bool.true_or,Bool.false_or,Option.bind_some]
      generalize args.all eN=ao at *
      generalize eZ th=tho at *
      generalize eZ el=elo at *
      generalize args.isEmpty=ae at *
      generalize th.isEmpty=te at *
      generalize el.isEmpty=ee at *
      generalize bO nm=n1
      generalize (nm==[])=n0
      generalize bO ot=o1
      generalize (ot==[])=o0
      generalize eN ex=x1
      generalize A2 ex=x0
      first
      | (cases n1<;>cases o0<;>cases x1<;>cases ae<;>cases te<;>cases ee<;>cases ao<;>cases tho<;>cases elo<;>first | rfl | (cases hte rfl;done) | (cases hee rfl;done) | (cases hae rfl;done))
      | (cases n1<;>cases o1<;>cases x0<;>cases ae<;>cases te<;>cases ee<;>cases ao<;>cases tho<;>cases elo<;>first | rfl | (cases hte rfl;done) | (cases hee rfl;done) | (cases hae rfl;done))
      | (cases n0<;>cases o1<;>cases x1<;>cases ae<;>cases te<;>cases ee<;>cases ao<;>cases tho<;>cases elo<;>first | rfl | (cases hte rfl;done) | (cases hee rfl;done) | (cases hae rfl;done))
      | (cases n0<;>cases o0<;>cases x1<;>cases ae<;>cases te<;>cases ee<;>cases ao<;>cases tho<;>cases elo<;>first | rfl | (cases hte rfl;done) | (cases hee rfl;done) | (cases hae rfl;done)))
   ·have k1:(kd==1)=false:=by simp;omega
    have k2:(kd==2)=false:=by simp;omega
    have k3:(kd==3)=false:=by simp;omega
    have k4:(kd==4)=false:=by simp;omega
    have k5:(kd==5)=false:=by simp;omega
    have k6:(kd==6)=false:=by simp;omega
    have k7:(kd==7)=false:=by simp;omega
    have k8:(kd==8)=false:=by simp;omega
    simp only [k1,k2,k3,k4,k5,k6,k7,k8,hk,Bool.false_eq_true,if_false,decide_false,Bool.false_and,Option.bind_some]
  show l5 (eK m) l=_
  unfold l5
  have:=mM (B:=fun v=>fR (eK m) l v) l (fun s=>!pP s) (fun k=>k) (x:=.inl ()) (y:=.inr (l.length,false))
   (fun k hk hp=>by
    have hp':pP l[k]=true:=by simpa using hp
    rw [hB k _ (List.getElem?_eq_getElem hk),hp',if_pos rfl])
   (fun k hk hp=>by
    have hp':pP l[k]=false:=by simpa using hp
    rw [hB k _ (List.getElem?_eq_getElem hk),hp'];rfl)
   (by simp [fR])
  rw [this,u4]
  have hall:(l.any fun s=>!pP s)=!l.all pP:=by
   rw [←Bool.not_inj_iff,List.not_any_eq_all_not];simp
  rw [hall]
  cases l.all pP<;>rfl
theorem uB(l:List aa)(h:q7 l):nq l=some (eZ l):=qn (q6 l+1) fun n hn=>Fa n l (by omega) h
theorem Bb(l:List aa)(h:q7 l):mX l=some (eZ l):=qn (5*q6 l+10) fun n hn=>by
 obtain ⟨m,rfl⟩:∃ m,n=m+4:=⟨n - 4,by omega⟩
 exact Ba m l (pR h) fun s hs=>Dl (Cp s) s (Nat.le_refl _) (pS h hs) m (by have:=pQ hs;omega)
end Go.Proofs.YtphgedfhcncobaaGreatDoor.A
