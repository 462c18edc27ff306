/- What holds of a command, of a function that is right. -/
import Derived.Test.YtkkkkondjclcnaaGreatScopeP
import Derived.Test.YtkkkkondjclcnaaGreatReachW
import Derived.Test.YtkkkkondjclcnaaGreatLevelF
set_option linter.all false
namespace Go.Proofs.YtkkkkondjclcnaaGreat.A
open Go
theorem AY[Lp]{p:Program}{i:Int}{s:Stmt}(h:bw p i s=0):(1≤s.Kind∧s.Kind≤8)∧(ey s.Kind=true→0≤s.Var∧s.Var<p.Vars.length)∧(fO s.Kind=true→0≤s.Other∧s.Other<gI p i s.Kind)∧(s.Kind=2→s.Args.length=yq p s.Other)∧(eu s.Kind=true→dT p s.Expr=0)∧(∀ e∈s.Args,dT p e=0):=by
 unfold bw at h
 by_cases h1:s.Kind<1∨8<s.Kind
 ·rw [aa h1] at h;exact absurd h (by decide)
 rw [ab h1] at h
 by_cases h2:(ey s.Kind=true∧(s.Var<0∨(p.Vars.length:Int)≤s.Var))∨(fO s.Kind=true∧(s.Other<0∨gI p i s.Kind≤s.Other))
 ·rw [aa h2] at h;exact absurd h (by decide)
 rw [ab h2] at h
 split at h
 ·exact absurd h (by decide)
 by_cases h4:s.Kind=2∧s.Args.length≠yq p s.Other
 ·rw [aa h4] at h;exact absurd h (by decide)
 rw [ab h4] at h
 by_cases h5:eu s.Kind=true∧bw.dT p s.Expr≠0
 ·rw [aa h5] at h;exact absurd h h5.2
 rw [ab h5] at h
 have g1:∀ hv:ey s.Kind=true,¬(s.Var<0∨(p.Vars.length:Int)≤s.Var):=fun hv hh=>h2 (.inl ⟨hv,hh⟩)
 have g2:∀ hv:fO s.Kind=true,¬(s.Other<0∨gI p i s.Kind≤s.Other):=fun hv hh=>h2 (.inr ⟨hv,hh⟩)
 exact ⟨by omega,fun hv=>by have:=g1 hv;omega,fun hv=>by have:=g2 hv;omega,fun k=>sU.1 fun hn=>h4 ⟨k,hn⟩,fun he=>sU.1 fun hn=>h5 ⟨he,hn⟩,oP h⟩
theorem Mu{p:Program}{e:ax}(h:dT p e=0):∀ x∈mX e,jd p.Vars.length x=0:=by
 unfold dT bw.dT at h
 split at h
 ·exact absurd h (by decide)
 ·exact Ob h
theorem Eu{p:Program}{i:Int}{f:Func}(h:sA p i f=0):f.Params.length≤4∧(∀ n∈f.Params,0≤n∧n<p.Vars.length)∧cZ (bw p i) f.Body=0∧dT p f.Result=0:=by
 unfold sA at h
 split at h
 ·exact absurd h (by decide)
 split at h
 ·rename_i h1;exact absurd h h1
 split at h
 ·rename_i h1;exact absurd h h1
 rename_i h1 h2 h3
 exact ⟨by omega,On (sU.1 h2),sU.1 h3,h⟩
structure oS(p:Program):Prop where
 dK:eL p.ah=0
 speak:∀ n∈p.Speak,bN p.ah.Many n=true
 few:(p.Speak.length:Int)≤p.ah.Many
 ins:∀ l∈p.Ins,dC p.ah.Many l=0
 outs:∀ l∈p.Outs,dC p.ah.Many l=0
 vars:∀ v∈p.Vars,dC p.ah.Many v.Label=0
variable [Lp]
theorem we{p:Program}(h:dh p=0):oS p:=by
 unfold dh at h
 by_cases h1:px p=0
 ·unfold px at h1
  by_cases a1:eL p.ah=0
  ·rw [ab (by simp [a1])] at h1
   split at h1
   ·exact absurd h1 (by decide)
   ·rename_i a2
    split at h1
    ·exact absurd h1 (by decide)
    ·rename_i a3
     split at h1
     ·rename_i a4;exact absurd h1 a4
     ·rename_i a4
      split at h1
      ·rename_i a5;exact absurd h1 a5
      ·rename_i a5
       have g4:=oP (sU.1 a4)
       have g5:=oP (sU.1 a5)
       refine ⟨a1,fun n hn=>?_,by omega,fun l hl=>g4 l (gq _ hl),fun l hl=>g4 l (jo _ hl),fun v hv=>g5 v hv⟩
       cases hi:bN p.ah.Many n with
       | true=>rfl
       | false=>exact absurd (lD.2 ⟨n,hn,by simp [hi]⟩) a3
  ·rw [aa a1] at h1;exact absurd h1 a1
 ·rw [aa h1] at h;exact absurd h h1
abbrev MM(p:Program):Nat:=p.ah.Many.toNat
theorem oS.small{p:Program}(h:oS p):MM p≤1000000:=by have:=Ev h.dK;unfold MM;omega
mutual
theorem J1:∀ (e:ax),∀ n∈py e,∃ x∈mX e,x.Kind=2∧x.N=n
 | ⟨k,m,args⟩,n,hn=>by
  have hr:n∈oR args→∃ x∈mX ⟨k,m,args⟩,x.Kind=2∧x.N=n:=fun hn=>by
   obtain ⟨x,hx,h⟩:=Hw args n hn
   exact ⟨x,by rw [AB];exact vy _ hx,h⟩
  rw [py] at hn
  split at hn
  ·rename_i hk
   rcases cQ.1 hn with rfl | hn
   ·exact ⟨⟨k,n,args⟩,by rw [AB];simp,hk,rfl⟩
   ·exact hr hn
  ·exact hr hn
theorem Hw:∀ (l:List ax),∀ n∈oR l,∃ x∈eN l,x.Kind=2∧x.N=n
 | [],n,hn=>by rw [oR] at hn;cases hn
 | e::r,n,hn=>by
  rw [oR] at hn
  rcases bJ.1 hn with hn | hn
  ·obtain ⟨x,hx,h⟩:=J1 e n hn
   exact ⟨x,by rw [eN];exact gq _ hx,h⟩
  ·obtain ⟨x,hx,h⟩:=Hw r n hn
   exact ⟨x,by rw [eN];exact jo _ hx,h⟩
end
theorem abU{p:Program}{e:ax}(h:dT p e=0):∀ n∈py e,0≤n∧n.toNat<p.Vars.length:=fun n hn=>by
 obtain ⟨x,hx,hk,rfl⟩:=J1 e n hn
 have:=(LL (Mu h x hx)).2.2.2.2 hk
 omega
def ij(n:Nat):Level:=⟨List.replicate n true,List.replicate n false⟩
theorem lk(n:Nat):bc n (ij n):=by simp [bc,ij]
theorem wg{p:Program}(h:oS p):ir p.ah=some (ij (MM p)):=by
 have hm:=Ev h.dK
 unfold ir Pw
 rw [aa (by omega),ae,dP (by omega),ae,aa (by omega)]
 rfl
end Go.Proofs.YtkkkkondjclcnaaGreat.A
