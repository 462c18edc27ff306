/- declarations of trees, the document's side; the whole check. -/
import Derived.Test.YtphgedfhcncobaaGreatDoorTreeK
import Derived.Test.YtphgedfhcncobaaGreatDoorFL
set_option linter.unusedSectionVars false
set_option linter.unusedVariables false
set_option linter.unusedSimpArgs false
namespace Go.Proofs.YtphgedfhcncobaaGreatDoor.A
open Go
variable [Lp]
theorem wy(d:aJ)(i:Nat)(p:aS)(hg:d.Label[i]? =some p)(h:p.Names.length≤6):∃ x,lp (fun v=>gi d i v) 0=some x∧(match x with | .inl _=>p.Names.all bO=false | .inr _=>p.Names.all bO=true):=by
 have:=mM (B:=fun v=>gi d i v) p.Names (fun s=>!bO s) (fun k=>k) (x:=.inl ()) (y:=.inr (p.Names.length,false))
  (fun k hk hp=>by
   have hp':bO p.Names[k]=true:=by simpa using hp
   have hw:=fk k (by omega)
   simp only [gi,hg,Option.bind_some,List.getElem?_eq_getElem hk,nr,hp',hw,if_true]
   rw [if_pos (by omega)])
  (fun k hk hp=>by
   have hp':bO p.Names[k]=false:=by simpa using hp
   simp only [gi,hg,Option.bind_some,List.getElem?_eq_getElem hk,nr,hp',Bool.false_eq_true,if_false]
   rw [if_pos (by omega)])
  (by simp [gi,hg])
 rw [mx] at this
 refine ⟨_,this,?_⟩
 cases p.Names.all bO<;>rfl
theorem Dn(d:aJ)(h1:d.Label.length≤4)(h2:∀ p∈d.Label,p.Names.length≤6):lp (fun v=>eL d v) 0=some (if d.Label.all oV=true then .inr (d.Label.length,false) else .inl ()):=by
 have:=mM (B:=fun v=>eL d v) d.Label (fun p=>!oV p) (fun k=>k) (x:=.inl ()) (y:=.inr (d.Label.length,false))
  (fun k hk hp=>by
   have hp':oV d.Label[k]=true:=by simpa using hp
   unfold oV at hp'
   obtain ⟨p1,p2⟩:=Bool.and_eq_true_iff.1 hp'
   have hw:=fk k (by omega)
   obtain ⟨x,hx1,hx2⟩:=wy d k d.Label[k] (List.getElem?_eq_getElem hk) (h2 _ (List.getElem_mem hk))
   simp only [eL,Option.bind_some,List.getElem?_eq_getElem hk,nr,p1,hw,if_true,hx1]
   rw [if_pos (by omega)]
   cases x with
   | inl y=>simp only [p2] at hx2;cases hx2
   | inr y=>rfl)
  (fun k hk hp=>by
   have hp':oV d.Label[k]=false:=by simpa using hp
   unfold oV at hp'
   obtain ⟨x,hx1,hx2⟩:=wy d k d.Label[k] (List.getElem?_eq_getElem hk) (h2 _ (List.getElem_mem hk))
   simp only [eL,Option.bind_some,List.getElem?_eq_getElem hk,nr,hx1]
   rw [if_pos (by omega)]
   cases p1:bO d.Label[k].Owner with
   | false=>simp
   | true=>
    rw [p1,Bool.true_and] at hp'
    simp only [if_true]
    cases x with
    | inl y=>rfl
    | inr y=>simp only [hp'] at hx2;cases hx2)
  (by simp [eL])
 rw [mx] at this
 show lp (fun v=>eL d v) 0=_
 rw [this]
 cases d.Label.all oV<;>rfl
theorem Dp(d:aJ)(h:d.Params.length≤4):lp (fun v=>eM d v) 0=some (if d.Params.all bO=true then .inr (d.Params.length,false) else .inl ()):=by
 have:=mM (B:=fun v=>eM d v) d.Params (fun s=>!bO s) (fun k=>k) (x:=.inl ()) (y:=.inr (d.Params.length,false))
  (fun k hk hp=>by
   have hp':bO d.Params[k]=true:=by simpa using hp
   have hw:=fk k (by omega)
   simp only [eM,Option.bind_some,List.getElem?_eq_getElem hk,nr,hp',hw,if_true]
   rw [if_pos (by omega)])
  (fun k hk hp=>by
   have hp':bO d.Params[k]=false:=by simpa using hp
   simp only [eM,Option.bind_some,List.getElem?_eq_getElem hk,nr,hp',Bool.false_eq_true,if_false]
   rw [if_pos (by omega)])
  (by simp [eM])
 rw [mx] at this
 show lp (fun v=>eM d v) 0=_
 rw [this]
 cases d.Params.all bO<;>rfl
theorem yY(d:aJ)(h:Dm d):o4 d=some (sO d):=by
 have e1:=Dn d h.la h.na
 have e2:=Dp d h.pa
 have e3:=uB d.Body h.bo
 have hle:d.Label.isEmpty=true→d.Label.all oV=true:=fun h=>by rw [List.isEmpty_iff.1 h];rfl
 have hpe:d.Params.isEmpty=true→d.Params.all bO=true:=fun h=>by rw [List.isEmpty_iff.1 h];rfl
 have hbe:d.Body.isEmpty=true→eZ d.Body=true:=fun h=>by rw [List.isEmpty_iff.1 h];rfl
 unfold o4 oM oO cR
 simp only [nr,qz,e1,e2,e3,yW,tw,Option.bind_some,yw,A9]
 clear e1 e2 e3 h
 obtain ⟨kd,at_,nm,ot,gv,la,pa,bd,re⟩:=d
 simp only [sO,iJ,q5] at *
 by_cases hk:1≤kd∧kd≤7
 ·have hk':kd=1∨kd=2∨kd=3∨kd=4∨kd=5∨kd=6∨kd=7:=by omega
  rcases hk' with rfl | rfl | rfl | rfl | rfl | rfl | rfl<;>
   (simp (decide:=true) only [↓reduceIte,Int.reduceBNe,Int.reduceBEq,decide_true,decide_false,Bool.not_true,Bool.not_false,Bool.true_and,Bool.true_or,Bool.false_or,Option.bind_some]
    generalize la.all oV=lo at *
    generalize pa.all bO=po at *
    generalize eZ bd=bo at *
    generalize la.isEmpty=le at *
    generalize pa.isEmpty=pe at *
    generalize bd.isEmpty=be at *
    generalize bO nm=n1
    generalize bO ot=o1
    generalize (ot==[])=o0
    generalize eN re=x1
    generalize A2 re=x0
    first
    | (cases n1<;>cases o0<;>cases gv<;>cases x0<;>cases le<;>cases lo<;>cases pe<;>cases po<;>cases be<;>cases bo<;>first | rfl | (cases hle rfl;done) | (cases hpe rfl;done) | (cases hbe rfl;done))
    | (cases n1<;>cases o1<;>cases gv<;>cases x0<;>cases le<;>cases lo<;>cases pe<;>cases po<;>cases be<;>cases bo<;>first | rfl | (cases hle rfl;done) | (cases hpe rfl;done) | (cases hbe rfl;done))
    | (cases n1<;>cases o0<;>cases gv<;>cases x1<;>cases le<;>cases lo<;>cases pe<;>cases po<;>cases be<;>cases bo<;>first | rfl | (cases hle rfl;done) | (cases hpe rfl;done) | (cases hbe rfl;done)))
 ·simp [hk]
def Dq(t:Tree):Int:=if kN t=true then 2 else if (t.Decls.all sO&&eZ t.Main)=true then 0 else 1
theorem Fe(t:Tree):mY t=some (Dq t):=by
 unfold mY Dq
 rw [E8]
 simp only [Option.bind_some]
 cases hm:kN t with
 | true=>rfl
 | false=>
  obtain ⟨h1,h2,h3⟩:=Bc hm
  have hc:cZ t.Decls=some (t.Decls.any fun d=>!sO d):=im kD (fun d=>!sO d) t.Decls (by omega) fun d hd=>by
   unfold kD
   rw [GW d (h2 d hd)];rfl
  simp only [Bool.false_eq_true,if_false]
  rw [hc,mx,Bb _ h3]
  cases t.Decls.all sO<;>cases eZ t.Main<;>rfl
theorem Bd(t:Tree):l6 t=some (Dq t):=by
 unfold l6 Dq
 rw [BY]
 simp only [Option.bind_some]
 cases hm:kN t with
 | true=>rfl
 | false=>
  obtain ⟨h1,h2,h3⟩:=Bc hm
  have hl:=mM (B:=fun v=>eX t v) t.Decls (fun d=>!sO d) (fun k=>k) (x:=.inl ()) (y:=.inr (t.Decls.length,false))
   (fun k hk hp=>by
    have hp':sO t.Decls[k]=true:=by simpa using hp
    have hw:=fk k (by omega)
    simp only [eX,Option.bind_some,List.getElem?_eq_getElem hk,yY _ (h2 _ (List.getElem_mem hk)),hp',hw,if_true]
    rw [if_pos (by omega)])
   (fun k hk hp=>by
    have hp':sO t.Decls[k]=false:=by simpa using hp
    simp only [eX,Option.bind_some,List.getElem?_eq_getElem hk,yY _ (h2 _ (List.getElem_mem hk)),hp',Bool.false_eq_true,if_false]
    rw [if_pos (by omega)])
   (by simp [eX])
  rw [mx] at hl
  simp only [Bool.false_eq_true,if_false]
  rw [hl,uB _ h3]
  cases t.Decls.all sO<;>cases eZ t.Main<;>rfl
theorem zR(t:Tree):nX t=some true:=by
 unfold nX oI
 simp only [Option.bind_some,if_true,Fe,Bd,beq_self_eq_true]
end Go.Proofs.YtphgedfhcncobaaGreatDoor.A
