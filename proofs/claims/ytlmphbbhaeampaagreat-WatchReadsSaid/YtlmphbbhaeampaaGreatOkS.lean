/- What holds of a command, of a function that is right. -/
import Derived.Test.YtlmphbbhaeampaaGreatScopeP
import Derived.Test.YtlmphbbhaeampaaGreatReachW
import Derived.Test.YtlmphbbhaeampaaGreatLevelF
set_option linter.all false
namespace Go.Proofs.YtlmphbbhaeampaaGreat.A
open Go
variable {p:Program}{i:Int}
theorem oL[Lp]{s:Stmt}(h:dc p i s=0):(1≤s.Kind∧s.Kind≤8)∧(ir s.Kind=true→0≤s.Var∧s.Var<p.Vars.length)∧(lP s.Kind=true→0≤s.Other∧s.Other<ij p i s.Kind)∧(s.Kind=2→s.Args.length=Bu p s.Other)∧(jI s.Kind=true→fK p s.Expr=0)∧(∀ e∈s.Args,fK p e=0):=by
 unfold dc at h
 by_cases h1:s.Kind<1∨8<s.Kind
 ·rw [af h1] at h;exact absurd h (by decide)
 rw [ab h1] at h
 by_cases h2:(ir s.Kind=true∧(s.Var<0∨(p.Vars.length:Int)≤s.Var))∨(lP s.Kind=true∧(s.Other<0∨ij p i s.Kind≤s.Other))
 ·rw [af h2] at h;exact absurd h (by decide)
 rw [ab h2] at h
 split at h
 ·exact absurd h (by decide)
 by_cases h4:s.Kind=2∧s.Args.length≠Bu p s.Other
 ·rw [af h4] at h;exact absurd h (by decide)
 rw [ab h4] at h
 by_cases h5:jI s.Kind=true∧dc.fK p s.Expr≠0
 ·rw [af h5] at h;exact absurd h h5.2
 rw [ab h5] at h
 have g1:∀ hv:ir s.Kind=true,¬(s.Var<0∨(p.Vars.length:Int)≤s.Var):=fun hv hh=>h2 (.inl ⟨hv,hh⟩)
 have g2:∀ hv:lP s.Kind=true,¬(s.Other<0∨ij p i s.Kind≤s.Other):=fun hv hh=>h2 (.inr ⟨hv,hh⟩)
 exact ⟨by omega,fun hv=>by have:=g1 hv;omega,fun hv=>by have:=g2 hv;omega,fun k=>sQ.1 fun hn=>h4 ⟨k,hn⟩,fun he=>sQ.1 fun hn=>h5 ⟨he,hn⟩,pJ h⟩
variable {e:aK}
theorem MJ(h:fK p e=0):∀ x∈mU e,jm p.Vars.length x=0:=by
 unfold fK dc.fK at h
 split at h
 ·exact absurd h (by decide)
 ·exact O5 h
theorem CD{f:Func}(h:C2 p i f=0):f.Params.length≤4∧(∀ n∈f.Params,0≤n∧n<p.Vars.length)∧fF (dc p i) f.Body=0∧fK p f.Result=0:=by
 unfold C2 at h
 split at h
 ·exact absurd h (by decide)
 split at h
 ·rename_i h1;exact absurd h h1
 split at h
 ·rename_i h1;exact absurd h h1
 rename_i h1 h2 h3
 exact ⟨by omega,Pa (sQ.1 h2),sQ.1 h3,h⟩
structure nJ(p:Program):Prop where
 eU:jV p.an=0
 speak:∀ n∈p.Speak,dk p.an.Many n=true
 few:(p.Speak.length:Int)≤p.an.Many
 ins:∀ l∈p.Ins,kx p.an.Many l=0
 outs:∀ l∈p.Outs,kx p.an.Many l=0
 vars:∀ v∈p.Vars,kx p.an.Many v.Label=0
variable [Lp]
theorem Ss(h:nI p=0):nJ p:=by
 unfold nI at h
 by_cases h1:sC p=0
 ·unfold sC at h1
  by_cases a1:jV p.an=0
  ·rw [ab (by simp [a1])] at h1
   split at h1
   ·exact absurd h1 (by decide)
   ·rename_i a2
    split at h1
    ·exact absurd h1 (by decide)
    ·rename_i a3
     split at h1
     ·rename_i a4;exact absurd h1 a4
     ·rename_i a4
      split at h1
      ·rename_i a5;exact absurd h1 a5
      ·rename_i a5
       have g4:=pJ (sQ.1 a4)
       have g5:=pJ (sQ.1 a5)
       refine ⟨a1,fun n hn=>?_,by omega,fun l hl=>g4 l (o9 _ hl),fun l hl=>g4 l (qF _ hl),fun v hv=>g5 v hv⟩
       cases hi:dk p.an.Many n with
       | true=>rfl
       | false=>exact absurd (zB.2 ⟨n,hn,by simp [hi]⟩) a3
  ·rw [af a1] at h1;exact absurd h1 a1
 ·rw [af h1] at h;exact absurd h h1
abbrev MM(p:Program):Nat:=p.an.Many.toNat
theorem nJ.small(h:nJ p):MM p≤1000000:=by have:=E2 h.eU;unfold MM;omega
mutual
theorem Ki:∀ (e:aK),∀ n∈jQ e,∃ x∈mU e,x.Kind=2∧x.N=n
 | ⟨k,m,args⟩,n,hn=>by
  have hr:n∈oM args→∃ x∈mU ⟨k,m,args⟩,x.Kind=2∧x.N=n:=fun hn=>by
   obtain ⟨x,hx,h⟩:=HX args n hn
   exact ⟨x,by rw [yd];exact zz _ hx,h⟩
  rw [jQ] at hn
  split at hn
  ·rename_i hk
   rcases dh.1 hn with rfl | hn
   ·exact ⟨⟨k,n,args⟩,by rw [yd];simp,hk,rfl⟩
   ·exact hr hn
  ·exact hr hn
theorem HX:∀ (l:List aK),∀ n∈oM l,∃ x∈iz l,x.Kind=2∧x.N=n
 | [],n,hn=>by rw [oM] at hn;cases hn
 | e::r,n,hn=>by
  rw [oM] at hn
  rcases eh.1 hn with hn | hn
  ·obtain ⟨x,hx,h⟩:=Ki e n hn
   exact ⟨x,by rw [iz];exact o9 _ hx,h⟩
  ·obtain ⟨x,hx,h⟩:=HX r n hn
   exact ⟨x,by rw [iz];exact qF _ hx,h⟩
end
theorem MR(h:fK p e=0):∀ n∈jQ e,0≤n∧n.toNat<p.Vars.length:=fun n hn=>by
 obtain ⟨x,hx,hk,rfl⟩:=Ki e n hn
 have:=(F7 (MJ h x hx)).2.2.2.2 hk
 omega
def fc(n:Nat):Level:=⟨List.replicate n true,List.replicate n false⟩
theorem nK(n:Nat):cN n (fc n):=by simp [cN,fc]
theorem tu(h:nJ p):fk p.an=some (fc (MM p)):=by
 have hm:=E2 h.eU
 unfold fk P2
 rw [af (by omega),ad,cA (by omega),ad,af (by omega)]
 rfl
end Go.Proofs.YtlmphbbhaeampaaGreat.A
