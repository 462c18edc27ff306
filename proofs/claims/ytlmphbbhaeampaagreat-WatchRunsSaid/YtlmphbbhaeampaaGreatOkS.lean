/- What holds of a command, of a function that is right. -/
import Derived.Test.YtlmphbbhaeampaaGreatScopeP
import Derived.Test.YtlmphbbhaeampaaGreatReachW
import Derived.Test.YtlmphbbhaeampaaGreatLevelF
set_option linter.all false
namespace Go.Proofs.YtlmphbbhaeampaaGreat.A
open Go
variable {p:Program}{i:Int}
theorem lM[Lp]{s:Stmt}(h:cV p i s=0):(1≤s.Kind∧s.Kind≤8)∧(fI s.Kind=true→0≤s.Var∧s.Var<p.Vars.length)∧(jC s.Kind=true→0≤s.Other∧s.Other<fL p i s.Kind)∧(s.Kind=2→s.Args.length=GN p s.Other)∧(gG s.Kind=true→eP p s.Expr=0)∧(∀ e∈s.Args,eP p e=0):=by
 unfold cV at h
 by_cases h1:s.Kind<1∨8<s.Kind
 ·rw [af h1] at h;exact absurd h (by decide)
 rw [ah h1] at h
 by_cases h2:(fI s.Kind=true∧(s.Var<0∨(p.Vars.length:Int)≤s.Var))∨(jC s.Kind=true∧(s.Other<0∨fL p i s.Kind≤s.Other))
 ·rw [af h2] at h;exact absurd h (by decide)
 rw [ah h2] at h
 split at h
 ·exact absurd h (by decide)
 by_cases h4:s.Kind=2∧s.Args.length≠GN p s.Other
 ·rw [af h4] at h;exact absurd h (by decide)
 rw [ah h4] at h
 by_cases h5:gG s.Kind=true∧cV.eP p s.Expr≠0
 ·rw [af h5] at h;exact absurd h h5.2
 rw [ah h5] at h
 have g1:∀ hv:fI s.Kind=true,¬(s.Var<0∨(p.Vars.length:Int)≤s.Var):=fun hv hh=>h2 (.inl ⟨hv,hh⟩)
 have g2:∀ hv:jC s.Kind=true,¬(s.Other<0∨fL p i s.Kind≤s.Other):=fun hv hh=>h2 (.inr ⟨hv,hh⟩)
 exact ⟨by omega,fun hv=>by have:=g1 hv;omega,fun hv=>by have:=g2 hv;omega,fun k=>u0.1 fun hn=>h4 ⟨k,hn⟩,fun he=>u0.1 fun hn=>h5 ⟨he,hn⟩,qP h⟩
variable {e:ay}
theorem sD(h:eP p e=0):∀ x∈ey e,fg p.Vars.length x=0:=by
 unfold eP cV.eP at h
 split at h
 ·exact absurd h (by decide)
 ·exact SE h
theorem EX{f:Func}(h:uy p i f=0):f.Params.length≤4∧(∀ n∈f.Params,0≤n∧n<p.Vars.length)∧eU (cV p i) f.Body=0∧eP p f.Result=0:=by
 unfold uy at h
 split at h
 ·exact absurd h (by decide)
 split at h
 ·rename_i h1;exact absurd h h1
 split at h
 ·rename_i h1;exact absurd h h1
 rename_i h1 h2 h3
 exact ⟨by omega,SI (u0.1 h2),u0.1 h3,h⟩
structure nz(p:Program):Prop where
 eV:iw p.ak=0
 speak:∀ n∈p.Speak,de p.ak.Many n=true
 few:(p.Speak.length:Int)≤p.ak.Many
 ins:∀ l∈p.Ins,fw p.ak.Many l=0
 outs:∀ l∈p.Outs,fw p.ak.Many l=0
 vars:∀ v∈p.Vars,fw p.ak.Many v.Label=0
variable [Lp]
theorem Qp(h:jV p=0):nz p:=by
 unfold jV at h
 by_cases h1:tE p=0
 ·unfold tE at h1
  by_cases a1:iw p.ak=0
  ·rw [ah (by simp [a1])] at h1
   split at h1
   ·exact absurd h1 (by decide)
   ·rename_i a2
    split at h1
    ·exact absurd h1 (by decide)
    ·rename_i a3
     split at h1
     ·rename_i a4;exact absurd h1 a4
     ·rename_i a4
      split at h1
      ·rename_i a5;exact absurd h1 a5
      ·rename_i a5
       have g4:=qP (u0.1 a4)
       have g5:=qP (u0.1 a5)
       refine ⟨a1,fun n hn=>?_,by omega,fun l hl=>g4 l (sa _ hl),fun l hl=>g4 l (sb _ hl),fun v hv=>g5 v hv⟩
       cases hi:de p.ak.Many n with
       | true=>rfl
       | false=>exact absurd (xh.2 ⟨n,hn,by simp [hi]⟩) a3
  ·rw [af a1] at h1;exact absurd h1 a1
 ·rw [af h1] at h;exact absurd h h1
abbrev MM(p:Program):Nat:=p.ak.Many.toNat
theorem nz.small(h:nz p):MM p≤1000000:=by have:=MV h.eV;unfold MM;omega
mutual
theorem NU:∀ (e:ay),∀ n∈mE e,∃ x∈ey e,x.Kind=2∧x.N=n
 | ⟨k,m,args⟩,n,hn=>by
  have hr:n∈qQ args→∃ x∈ey ⟨k,m,args⟩,x.Kind=2∧x.N=n:=fun hn=>by
   obtain ⟨x,hx,h⟩:=K8 args n hn
   exact ⟨x,by rw [s9];exact BY _ hx,h⟩
  rw [mE] at hn
  split at hn
  ·rename_i hk
   rcases eA.1 hn with rfl | hn
   ·exact ⟨⟨k,n,args⟩,by rw [s9];simp,hk,rfl⟩
   ·exact hr hn
  ·exact hr hn
theorem K8:∀ (l:List ay),∀ n∈qQ l,∃ x∈fv l,x.Kind=2∧x.N=n
 | [],n,hn=>by rw [qQ] at hn;cases hn
 | e::r,n,hn=>by
  rw [qQ] at hn
  rcases iA.1 hn with hn | hn
  ·obtain ⟨x,hx,h⟩:=NU e n hn
   exact ⟨x,by rw [fv];exact sa _ hx,h⟩
  ·obtain ⟨x,hx,h⟩:=K8 r n hn
   exact ⟨x,by rw [fv];exact sb _ hx,h⟩
end
theorem Qq(h:eP p e=0):∀ n∈mE e,0≤n∧n.toNat<p.Vars.length:=fun n hn=>by
 obtain ⟨x,hx,hk,rfl⟩:=NU e n hn
 have:=(qi (sD h x hx)).2.2.2.2 hk
 omega
def jl(n:Nat):Level:=⟨List.replicate n true,List.replicate n false⟩
theorem vG(n:Nat):dH n (jl n):=by simp [dH,jl]
theorem GV(h:nz p):mZ p.ak=some (jl (MM p)):=by
 have hm:=MV h.eV
 unfold mZ TB
 rw [af (by omega),ab,cb (by omega),ab,af (by omega)]
 rfl
end Go.Proofs.YtlmphbbhaeampaaGreat.A
