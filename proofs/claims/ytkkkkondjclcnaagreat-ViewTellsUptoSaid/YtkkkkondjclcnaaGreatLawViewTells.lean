/- ViewTells: Inputs and Events answer what the document says. For every input whose bulk is at most 1048576. -/
import Derived.Test.YtkkkkondjclcnaaGreatViewX
import Derived.Test.YtkkkkondjclcnaaGreatDec
set_option linter.all false
namespace Go.Proofs.YtkkkkondjclcnaaGreat.A
open Go
theorem J9:∀ l:List Int,AV.dQ (l.map (AV.i .i64))=l.length
 | []=>rfl
 | x::l=>by rw [bZ,AV.dQ,J9 l,AV.uB,bu];omega
theorem Ic:∀ (l:List (List Int))(x:List Int),x∈l→x.length≤AV.dQ (l.map (bc 3 (AV.i .i64)))
 | y::l,x,h=>by
  rw [bZ,AV.dQ]
  have hy:AV.uB (bc 3 (AV.i .i64) y)=y.length+1:=by unfold bc;rw [AV.uB,J9]
  rcases cR.1 h with rfl | h
  ·omega
  ·have:=Ic l x h;omega
theorem E8:∀ l:List Event,l.length≤AV.dQ (l.map aH)
 | []=>ct _
 | x::l=>by
  have h1:=E8 l
  have h2:AV.uB (aH x)=4:=by simp [aH,AV.uB,AV.dQ]
  rw [bZ,AV.dQ,bu];omega
end Go.Proofs.YtkkkkondjclcnaaGreat.A
namespace Go.Proofs.YtkkkkondjclcnaaGreat
open A Go
theorem viewTells_proved:Rows.ViewTellsUptoSaid:=by
 obtain ⟨L⟩:=Q0
 refine Jr fun ys hg hb=>?_
 obtain ⟨p,who,touch,ins,l,hv,_,_,_,_,rfl⟩:=hg
 have hp:∀ f∈p.Funcs,f.Params.length≤9223372036854775807:=fun f hf=>bQ (hv.2.2.2.2.2.1.2 f hf).1.1 (by decide)
 have h2:=E8 l
 simp only [AV.dQ,AV.uB] at hb
 refine Gd p who touch ins l true (KH p who touch ins l hp (fun x hx=>?_) (by omega))
 have h1:=Ic ins x hx
 omega
end Go.Proofs.YtkkkkondjclcnaaGreat
