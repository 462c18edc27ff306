/- declarations of trees, and the whole check: the program's and the document's are the same plain function. -/
import Derived.Test.YtphgedfhcncobaaGreatDoorTreeR
set_option linter.unusedSectionVars false
set_option linter.unusedVariables false
set_option linter.unusedSimpArgs false
namespace Go.Proofs.YtphgedfhcncobaaGreatDoor.A
open Go
def oV(p:aS):Bool:=bO p.Owner&&p.Names.all bO
def sO(d:aJ):Bool:=
 decide (1≤d.Kind∧d.Kind≤7)&&(bO d.Name&&(iJ d.Other (decide (d.Kind=2))&&((decide (d.Kind=6)||d.Given==decide (d.Kind=4∨d.Kind=5))&&((d.Given||d.Label.isEmpty)&&(d.Label.all oV&&
  ((decide (d.Kind=7)||(d.Params.isEmpty&&d.Body.isEmpty))&&(q5 d.Result (decide (d.Kind=7))&&(d.Params.all bO&&eZ d.Body))))))))
structure Dm(d:aJ):Prop where
 la:d.Label.length≤4
 na:∀ p∈d.Label,p.Names.length≤6
 pa:d.Params.length≤4
 bo:q7 d.Body
theorem Cr:∀ {l:List aJ}{n:Int},fo l=some n→n≤50→∀ d∈l,Dm d
 | e::r,n,h,hn,d,hd=>by
  simp only [fo] at h
  split at h
  ·cases h
  ·rename_i hb
   obtain ⟨a,ha,h1⟩:=Option.bind_eq_some_iff.1 h
   obtain ⟨b,hb',h2⟩:=Option.bind_eq_some_iff.1 h1
   obtain rfl:=Option.some.inj h2
   have ha0:=cI ha
   have hb0:=mm hb'
   rcases List.mem_cons.1 hd with rfl | hd
   ·unfold pO at hb
    simp only [Bool.not_eq_true,Bool.or_eq_false_iff,decide_eq_false_iff_not] at hb
    obtain ⟨b1,b2,b3,b4⟩:=hb
    refine ⟨by omega,fun p hp=>?_,by omega,Dk ha (by omega)⟩
    have:=List.any_eq_false.1 b2 p hp
    simp only [oh,decide_eq_true_eq] at this
    omega
   ·exact Cr hb' (by omega) d hd
theorem Bc{t:Tree}(h:kN t=false):t.Decls.length≤30∧(∀ d∈t.Decls,Dm d)∧q7 t.Main:=by
 unfold kN at h
 simp only [Bool.or_eq_false_iff,decide_eq_false_iff_not] at h
 obtain ⟨h1,h2⟩:=h
 split at h2
 ·rename_i a b ha hb
  simp only [decide_eq_false_iff_not] at h2
  have:=mm ha
  have:=cI hb
  exact ⟨by omega,Cr ha (by omega),Dk hb (by omega)⟩
 ·cases h2
theorem Fb{β γ:Type}(l:List β)(m:List γ):(0<(l.length:Int)+(m.length:Int))=((l.isEmpty&&m.isEmpty)=false):=by
 cases l with
 | nil=>cases m<;>simp
 | cons x r=>
  simp
  omega
theorem mx{β:Type}(p:β→Bool)(l:List β):(l.any fun y=>!p y)=!l.all p:=by
 rw [←Bool.not_inj_iff,List.not_any_eq_all_not];simp
variable [Lp]
theorem Fc(l:List aS)(h1:l.length≤4)(h2:∀ p∈l,p.Names.length≤6):jS l=some (l.all oV):=by
 unfold jS
 have hc:cX l=some (l.any fun p=>!oV p):=im kr (fun p=>!oV p) l (by omega) fun p hp=>by
  have hn:cL p.Names=some (p.Names.any fun s=>!bO s):=im iY (fun s=>!bO s) p.Names (by have:=h2 p hp;omega) fun s _=>by
   unfold iY
   rw [rD];rfl
  unfold kr oV
  rw [rD,hn,mx]
  cases bO p.Owner<;>rfl
 rw [hc,mx]
 simp
theorem Ee(l:List (List UInt8))(h:l.length≤4):di l=some (!l.all bO):=by
 rw [←mx]
 exact im lZ (fun s=>!bO s) l (by omega) fun s _=>by
  unfold lZ
  rw [rD];rfl
theorem GW(d:aJ)(h:Dm d):ob d=some (sO d):=by
 have e1:=Fc d.Label h.la h.na
 have e2:=Ee d.Params h.pa
 have e3:=Bb d.Body h.bo
 have hw:IntKind.i64.wrap ((d.Params.length:Int)+(d.Body.length:Int))=(d.Params.length:Int)+(d.Body.length:Int):=eR (by omega) (by have:=h.pa;have:=pR h.bo;omega)
 have hle:d.Label.isEmpty=true→d.Label.all oV=true:=fun h=>by rw [List.isEmpty_iff.1 h];rfl
 have hpe:d.Params.isEmpty=true→d.Params.all bO=true:=fun h=>by rw [List.isEmpty_iff.1 h];rfl
 have hbe:d.Body.isEmpty=true→eZ d.Body=true:=fun h=>by rw [List.isEmpty_iff.1 h];rfl
 unfold ob nQ kC fK fM nR fL
 simp only [rD,A3,Ea,e1,e2,e3,hw,Option.bind_some,yw,Fb,if_true]
 clear e1 e2 e3 hw h
 obtain ⟨kd,at_,nm,ot,gv,la,pa,bd,re⟩:=d
 simp only [sO] at *
 by_cases g1:kd<1
 ·have:decide (1≤kd∧kd≤7)=false:=by simp;omega
  rw [if_pos g1,this];rfl
 rw [if_neg g1]
 by_cases g2:7<kd
 ·have:decide (1≤kd∧kd≤7)=false:=by simp;omega
  rw [if_pos g2,this];rfl
 rw [if_neg g2]
 have hk:kd=1∨kd=2∨kd=3∨kd=4∨kd=5∨kd=6∨kd=7:=by omega
 rcases hk with rfl | rfl | rfl | rfl | rfl | rfl | rfl<;>
  (simp (decide:=true) only [↓reduceIte,Int.reduceBNe,Int.reduceBEq,decide_true,decide_false,Bool.not_true,Bool.not_false,Bool.true_and,Bool.true_or,Bool.false_or,Option.bind_some]
   generalize la.all oV=lo at *
   generalize pa.all bO=po at *
   generalize eZ bd=bo at *
   generalize la.isEmpty=le at *
   generalize pa.isEmpty=pe at *
   generalize bd.isEmpty=be at *
   generalize bO nm=n1
   generalize iJ ot true=o1
   generalize iJ ot false=o0
   generalize q5 re true=x1
   generalize q5 re false=x0
   first
   | (cases n1<;>cases o0<;>cases gv<;>cases x0<;>cases le<;>cases lo<;>cases pe<;>cases po<;>cases be<;>cases bo<;>first | rfl | (cases hle rfl;done) | (cases hpe rfl;done) | (cases hbe rfl;done))
   | (cases n1<;>cases o1<;>cases gv<;>cases x0<;>cases le<;>cases lo<;>cases pe<;>cases po<;>cases be<;>cases bo<;>first | rfl | (cases hle rfl;done) | (cases hpe rfl;done) | (cases hbe rfl;done))
   | (cases n1<;>cases o0<;>cases gv<;>cases x1<;>cases le<;>cases lo<;>cases pe<;>cases po<;>cases be<;>cases bo<;>first | rfl | (cases hle rfl;done) | (cases hpe rfl;done) | (cases hbe rfl;done)))
end Go.Proofs.YtphgedfhcncobaaGreatDoor.A
