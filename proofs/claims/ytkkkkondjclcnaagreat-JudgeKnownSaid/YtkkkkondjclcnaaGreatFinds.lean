/- Plain facts of loops that search; numbers. -/
import Derived.Test.YtkkkkondjclcnaaGreatLift
set_option linter.unusedSectionVars false
set_option linter.unusedVariables false
set_option linter.unusedSimpArgs false
set_option linter.constructorNameAsVariable false
namespace Go.Proofs.YtkkkkondjclcnaaGreat.A
open Go
theorem tk(k:Nat)(h:k<9223372036854775807):IntKind.i64.wrap ((k:Int)+1)=((k+1:Nat):Int):=(wrap64 (by omega) (by omega)).trans (by omega)
variable [Lp]
def Bb{β:Type}(φ:β→Option Bool)(es:List β)(k:Nat):Option (Nat⊕(Nat⊕(Nat×Bool))):=
 if (k:Int)<(es.length:Int) then
  (es[k]?).bind fun (y:β)=>
  (φ y).bind fun (r:Bool)=>
  if r=true then
   some (.inr (.inl k))
  else
   if IntKind.i64.wrap ((k:Int)+1)=((k+1:Nat):Int) then
    some (.inl (k+1))
   else none
 else
  some (.inr (.inr (k,decide ((k:Int)<(es.length:Int)))))
def QK{β:Type}(p:β→Bool)(es:List β):Nat⊕(Nat×Bool):=match es.findIdx? p with
 | some k=>.inl k
 | none=>.inr (es.length,false)
theorem find_spec{β:Type}(φ:β→Option Bool)(p:β→Bool)(es:List β)(hl:es.length≤9223372036854775807)(h:∀ y∈es,φ y=some (p y)):lp (fun v=>Bb φ es v) 0=some (QK p es):=by
 have:∀ m k,k+m=es.length→lp (fun v=>Bb φ es v) k=some (match (es.drop k).findIdx? p with
   | some j=>.inl (k+j)
   | none=>.inr (es.length,false)):=by
  intro m
  induction m with
  | zero=>
   intro k hk
   obtain rfl:k=es.length:=by omega
   rw [List.drop_length]
   exact ji (by simp [Bb])
  | succ m ih=>
   intro k hk
   have hlt:k<es.length:=by omega
   have hp:=h es[k] (List.getElem_mem hlt)
   rw [List.drop_eq_getElem_cons hlt,List.findIdx?_cons]
   cases hq:p es[k] with
   | true=>exact ji (by simp [Bb,hlt,hp,hq])
   | false=>
    rw [ma (w:=k+1) (by simp [Bb,hlt,hp,hq,tk k (by omega)]),ih (k+1) (by omega)]
    simp only [Bool.false_eq_true,if_false]
    cases List.findIdx? p (List.drop (k+1) es) with
    | none=>rfl
    | some j=>simp only [Option.map_some];congr 2;omega
 have h0:=this es.length 0 (by omega)
 simp only [List.drop_zero,Nat.zero_add] at h0
 exact h0
theorem rk{β:Type}(φ:β→Option Bool)(p:β→Bool)(es:List β)(hl:es.length≤9223372036854775807)(h:∀ y∈es,φ y=some (p y)) :
  (((lp (fun v=>Bb φ es v) 0).bind fun (x1:(Nat⊕(Nat×Bool)))=>match x1 with
  | .inl z=>some (z:Int)
  | .inr _=>some (-1)).bind fun (r1:Int)=>some (decide (0≤r1)))=some (es.any p):=by
 rw [find_spec φ p es hl h,Option.bind_some]
 unfold QK
 cases hf:es.findIdx? p with
 | none=>
  have:=List.findIdx?_eq_none_iff.1 hf
  have hany:es.any p=false:=by
   rw [Bool.eq_false_iff]
   intro ha
   obtain ⟨x,hx,hpx⟩:=List.any_eq_true.1 ha
   rw [this x hx] at hpx;cases hpx
  rw [hany];rfl
 | some k=>
  obtain ⟨h1,h2,_⟩:=List.findIdx?_eq_some_iff_getElem.1 hf
  have hany:es.any p=true:=List.any_eq_true.2 ⟨_,List.getElem_mem h1,h2⟩
  rw [hany]
  simp only [Option.bind_some]
  rw [show decide ((0:Int)≤(k:Int))=true by simp]
end Go.Proofs.YtkkkkondjclcnaaGreat.A
