/- What holds of a command, of a function that is right. -/
import Derived.Test.YtkkkkondjclcnaaGreatScopeP
import Derived.Test.YtkkkkondjclcnaaGreatReachW
import Derived.Test.YtkkkkondjclcnaaGreatLevelF
set_option linter.all false
namespace Go.Proofs.YtkkkkondjclcnaaGreat.A
open Go
variable {p:Program}{i:Int}
theorem vK[Lp]{s:Stmt}(h:bW p i s=0):(1≤s.Kind∧s.Kind≤8)∧(fv s.Kind=true→0≤s.Var∧s.Var<p.Vars.length)∧(iv s.Kind=true→0≤s.Other∧s.Other<fD p i s.Kind)∧(s.Kind=2→s.Args.length=Gb p s.Other)∧(eP s.Kind=true→fL p s.Expr=0)∧(∀ e∈s.Args,fL p e=0):=by
 unfold bW at h
 by_cases h1:s.Kind<1∨8<s.Kind
 ·rw [ab h1] at h;exact absurd h (by decide)
 rw [aa h1] at h
 by_cases h2:(fv s.Kind=true∧(s.Var<0∨(p.Vars.length:Int)≤s.Var))∨(iv s.Kind=true∧(s.Other<0∨fD p i s.Kind≤s.Other))
 ·rw [ab h2] at h;exact absurd h (by decide)
 rw [aa h2] at h
 split at h
 ·exact absurd h (by decide)
 by_cases h4:s.Kind=2∧s.Args.length≠Gb p s.Other
 ·rw [ab h4] at h;exact absurd h (by decide)
 rw [aa h4] at h
 by_cases h5:eP s.Kind=true∧bW.fL p s.Expr≠0
 ·rw [ab h5] at h;exact absurd h h5.2
 rw [aa h5] at h
 have g1:∀ hv:fv s.Kind=true,¬(s.Var<0∨(p.Vars.length:Int)≤s.Var):=fun hv hh=>h2 (.inl ⟨hv,hh⟩)
 have g2:∀ hv:iv s.Kind=true,¬(s.Other<0∨fD p i s.Kind≤s.Other):=fun hv hh=>h2 (.inr ⟨hv,hh⟩)
 exact ⟨by omega,fun hv=>by have:=g1 hv;omega,fun hv=>by have:=g2 hv;omega,fun k=>uT.1 fun hn=>h4 ⟨k,hn⟩,fun he=>uT.1 fun hn=>h5 ⟨he,hn⟩,qL h⟩
variable {e:aB}
theorem xA(h:fL p e=0):∀ x∈gy e,lf p.Vars.length x=0:=by
 unfold fL bW.fL at h
 split at h
 ·exact absurd h (by decide)
 ·exact Rv h
theorem G9{f:Func}(h:uu p i f=0):f.Params.length≤4∧(∀ n∈f.Params,0≤n∧n<p.Vars.length)∧eg (bW p i) f.Body=0∧fL p f.Result=0:=by
 unfold uu at h
 split at h
 ·exact absurd h (by decide)
 split at h
 ·rename_i h1;exact absurd h h1
 split at h
 ·rename_i h1;exact absurd h h1
 rename_i h1 h2 h3
 exact ⟨by omega,RH (uT.1 h2),uT.1 h3,h⟩
structure nA(p:Program):Prop where
 dT:iG p.ak=0
 speak:∀ n∈p.Speak,cw p.ak.Many n=true
 few:(p.Speak.length:Int)≤p.ak.Many
 ins:∀ l∈p.Ins,fK p.ak.Many l=0
 outs:∀ l∈p.Outs,fK p.ak.Many l=0
 vars:∀ v∈p.Vars,fK p.ak.Many v.Label=0
variable [Lp]
theorem Pp(h:sB p=0):nA p:=by
 unfold sB at h
 by_cases h1:tC p=0
 ·unfold tC at h1
  by_cases a1:iG p.ak=0
  ·rw [aa (by simp [a1])] at h1
   split at h1
   ·exact absurd h1 (by decide)
   ·rename_i a2
    split at h1
    ·exact absurd h1 (by decide)
    ·rename_i a3
     split at h1
     ·rename_i a4;exact absurd h1 a4
     ·rename_i a4
      split at h1
      ·rename_i a5;exact absurd h1 a5
      ·rename_i a5
       have g4:=qL (uT.1 a4)
       have g5:=qL (uT.1 a5)
       refine ⟨a1,fun n hn=>?_,by omega,fun l hl=>g4 l (pW _ hl),fun l hl=>g4 l (pX _ hl),fun v hv=>g5 v hv⟩
       cases hi:cw p.ak.Many n with
       | true=>rfl
       | false=>exact absurd (jK.2 ⟨n,hn,by simp [hi]⟩) a3
  ·rw [ab a1] at h1;exact absurd h1 a1
 ·rw [ab h1] at h;exact absurd h h1
abbrev MM(p:Program):Nat:=p.ak.Many.toNat
theorem nA.small(h:nA p):MM p≤1000000:=by have:=Dv h.dT;unfold MM;omega
mutual
theorem MJ:∀ (e:aB),∀ n∈mj e,∃ x∈gy e,x.Kind=2∧x.N=n
 | ⟨k,m,args⟩,n,hn=>by
  have hr:n∈qN args→∃ x∈gy ⟨k,m,args⟩,x.Kind=2∧x.N=n:=fun hn=>by
   obtain ⟨x,hx,h⟩:=J9 args n hn
   exact ⟨x,by rw [CU];exact Fl _ hx,h⟩
  rw [mj] at hn
  split at hn
  ·rename_i hk
   rcases eX.1 hn with rfl | hn
   ·exact ⟨⟨k,n,args⟩,by rw [CU];simp,hk,rfl⟩
   ·exact hr hn
  ·exact hr hn
theorem J9:∀ (l:List aB),∀ n∈qN l,∃ x∈fV l,x.Kind=2∧x.N=n
 | [],n,hn=>by rw [qN] at hn;cases hn
 | e::r,n,hn=>by
  rw [qN] at hn
  rcases dk.1 hn with hn | hn
  ·obtain ⟨x,hx,h⟩:=MJ e n hn
   exact ⟨x,by rw [fV];exact pW _ hx,h⟩
  ·obtain ⟨x,hx,h⟩:=J9 r n hn
   exact ⟨x,by rw [fV];exact pX _ hx,h⟩
end
theorem Pq(h:fL p e=0):∀ n∈mj e,0≤n∧n.toNat<p.Vars.length:=fun n hn=>by
 obtain ⟨x,hx,hk,rfl⟩:=MJ e n hn
 have:=(xd (xA h x hx)).2.2.2.2 hk
 omega
def fA(n:Nat):Level:=⟨List.replicate n true,List.replicate n false⟩
theorem mz(n:Nat):bw n (fA n):=by simp [bw,fA]
theorem yR(h:nA p):ju p.ak=some (fA (MM p)):=by
 have hm:=Dv h.dT
 unfold ju SU
 rw [ab (by omega),ad,cX (by omega),ad,ab (by omega)]
 rfl
end Go.Proofs.YtkkkkondjclcnaaGreat.A
