/- Watched runs: what happens watched is the beginning of what happens unwatched. -/
import Derived.Test.YtdpjofmmokaobaaGreatWatS
import Derived.Test.YtdpjofmmokaobaaGreatRunL
set_option linter.unusedSectionVars false
set_option linter.unusedVariables false
set_option linter.unusedSimpArgs false
namespace Go.Proofs.YtdpjofmmokaobaaGreat.A
open Go
theorem Pe{X:Ctx}(c:js):c.2.Steps≤(fg X c).2.Steps:=by
 obtain ⟨ts,r⟩:=c
 match ts with
 | []=>exact Int.le_refl _
 | .leave s::K=>exact Int.le_refl _
 | .run [] _::K=>exact Int.le_refl _
 | .run (s::l) a::K=>
  simp only [fg]
  split
  ·exact Int.le_refl _
  ·rw [(oz X s a l K r.tick).2.1]
   show r.Steps≤r.Steps+1
   omega
theorem IA{X:Ctx} : ∀ (n:Nat)(c:js),c.2.Steps≤(iter X n c).2.Steps
 | 0,c=>Int.le_refl _
 | n+1,c=>Int.le_trans (Pe c) (IA n (fg X c))
theorem Pf{X:Ctx}{c q:js}{s:RunT} : bW X c q→bW X c ([],s)→q.2.Steps≤s.Steps∧∃ es,s.Events=q.2.Events++es
 | ⟨n,h⟩,⟨m,h'⟩=>by
  rcases Nat.le_total n m with hm | hm
  ·obtain ⟨k,rfl⟩:=Nat.exists_eq_add_of_le hm
   rw [ry,h] at h'
   have h1:=IA (X:=X) k q
   have h2:=AR X k q
   rw [h'] at h1 h2
   exact ⟨h1,h2⟩
  ·obtain ⟨k,rfl⟩:=Nat.exists_eq_add_of_le hm
   rw [ry,h',xS] at h
   subst h
   exact ⟨Int.le_refl _,[],by simp⟩
theorem K1{X:Ctx}{c:js}{r s:RunT}(h:Td X c r)(hs:Comes X c s):r.Steps≤s.Steps∧∃ es,s.Events=r.Events++es:=by
 obtain ⟨_,q,h1,h2,es,h3⟩:=h
 have:∀ t:RunT,bW X c ([],t)→r.Steps≤t.Steps∧∃ es,t.Events=r.Events++es:=fun t ht=>by
  obtain ⟨g1,fs,g2⟩:=Pf h1 ht
  exact ⟨by omega,es++fs,by rw [g2,h3,List.append_assoc]⟩
 rcases hs with ⟨t,k1,_,rfl⟩ | ⟨k1,_⟩
 ·exact this t k1
 ·exact this s k1
variable [Lp]
theorem K2{a es:List Event}(h:(a++es).length≤9223372036854775807):tz a (a++es)=some true:=by
 unfold tz
 have hl:a.length≤(a++es).length:=by rw [List.length_append];omega
 rw [if_pos (by omega),if_pos hl,List.drop_zero,List.take_left,vI (by omega)];rfl
theorem C2(p:Program)(ins:List (List Int))(fuel:Int)(hp:∀ f∈p.Funcs,f.Params.length≤9223372036854775807):qP p ins fuel=some true:=by
 unfold qP
 have hb:rk=some true:=rfl
 have hb2:tX=some true:=rfl
 obtain ⟨a1,a2⟩:=Nd (ins:=ins) (fuel:=fuel) hp
 obtain ⟨b1,b2⟩:=S8 (ins:=ins) (fuel:=fuel) hp
 by_cases hx:lP p ins fuel=0
 rotate_left
 ·rw [a1 hx,b1 hx,hb,hb2]
  simp [hx]
 obtain ⟨r,vs,e1,_,e2⟩:=a2 hx
 obtain ⟨s,e3,e4⟩:=b2 hx
 obtain ⟨d1,d2,d3,d4,d5⟩:=HU hx e4
 rw [e1,e3,hb,hb2]
 simp only [Option.bind_some,if_true,bne_self_eq_false,Bool.false_eq_true,if_false]
 rcases e2 with e2 | e2
 ·obtain rfl:=e2.eq e4
  rw [if_pos (by rcases d5 with d5 | d5<;>simp [d5]),GR (by omega) (by rw [d1.vars];omega) (by rw [d1.taken];omega)];rfl
 ·obtain ⟨g1,es,g2⟩:=K1 e2 e4
  rw [if_neg (by simp [e2.1]),g2,K2 (by rw [←g2];omega),Option.bind_some,if_pos rfl,decide_eq_true g1]
end Go.Proofs.YtdpjofmmokaobaaGreat.A
