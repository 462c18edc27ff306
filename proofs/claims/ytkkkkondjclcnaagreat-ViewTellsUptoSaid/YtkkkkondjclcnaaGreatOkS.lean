/- What holds of a command, of a function that is right. -/
import Derived.Test.YtkkkkondjclcnaaGreatScopeP
import Derived.Test.YtkkkkondjclcnaaGreatReachW
import Derived.Test.YtkkkkondjclcnaaGreatLevelF
set_option linter.all false
namespace Go.Proofs.YtkkkkondjclcnaaGreat.A
open Go
theorem Ee[Lp]{p:Program}{i:Int}{s:Stmt}(h:bO p i s=0):(1≤s.Kind∧s.Kind≤8)∧(eC s.Kind=true→0≤s.Var∧s.Var<p.Vars.length)∧(fT s.Kind=true→0≤s.Other∧s.Other<gP p i s.Kind)∧(s.Kind=2→s.Args.length=yf p s.Other)∧(eD s.Kind=true→er p s.Expr=0)∧(∀ e∈s.Args,er p e=0):=by
 unfold bO at h
 by_cases h1:s.Kind<1∨8<s.Kind
 ·rw [ab h1] at h;exact absurd h (by decide)
 rw [ad h1] at h
 by_cases h2:(eC s.Kind=true∧(s.Var<0∨(p.Vars.length:Int)≤s.Var))∨(fT s.Kind=true∧(s.Other<0∨gP p i s.Kind≤s.Other))
 ·rw [ab h2] at h;exact absurd h (by decide)
 rw [ad h2] at h
 split at h
 ·exact absurd h (by decide)
 by_cases h4:s.Kind=2∧s.Args.length≠yf p s.Other
 ·rw [ab h4] at h;exact absurd h (by decide)
 rw [ad h4] at h
 by_cases h5:eD s.Kind=true∧bO.er p s.Expr≠0
 ·rw [ab h5] at h;exact absurd h h5.2
 rw [ad h5] at h
 have g1:∀ hv:eC s.Kind=true,¬(s.Var<0∨(p.Vars.length:Int)≤s.Var):=fun hv hh=>h2 (.inl ⟨hv,hh⟩)
 have g2:∀ hv:fT s.Kind=true,¬(s.Other<0∨gP p i s.Kind≤s.Other):=fun hv hh=>h2 (.inr ⟨hv,hh⟩)
 exact ⟨by omega,fun hv=>by have:=g1 hv;omega,fun hv=>by have:=g2 hv;omega,fun k=>qm.1 fun hn=>h4 ⟨k,hn⟩,fun he=>qm.1 fun hn=>h5 ⟨he,hn⟩,mq h⟩
theorem Mi{p:Program}{e:az}(h:er p e=0):∀ x∈nv e,jg p.Vars.length x=0:=by
 unfold er bO.er at h
 split at h
 ·exact absurd h (by decide)
 ·exact N6 h
theorem Hk{p:Program}{i:Int}{f:Func}(h:sB p i f=0):f.Params.length≤4∧(∀ n∈f.Params,0≤n∧n<p.Vars.length)∧dj (bO p i) f.Body=0∧er p f.Result=0:=by
 unfold sB at h
 split at h
 ·exact absurd h (by decide)
 split at h
 ·rename_i h1;exact absurd h h1
 split at h
 ·rename_i h1;exact absurd h h1
 rename_i h1 h2 h3
 exact ⟨by omega,Oh (qm.1 h2),qm.1 h3,h⟩
structure pJ(p:Program):Prop where
 dM:eP p.aj=0
 speak:∀ n∈p.Speak,bL p.aj.Many n=true
 few:(p.Speak.length:Int)≤p.aj.Many
 ins:∀ l∈p.Ins,dE p.aj.Many l=0
 outs:∀ l∈p.Outs,dE p.aj.Many l=0
 vars:∀ v∈p.Vars,dE p.aj.Many v.Label=0
variable [Lp]
theorem acg{p:Program}(h:sC p=0):pJ p:=by
 unfold sC at h
 by_cases h1:pH p=0
 ·unfold pH at h1
  by_cases a1:eP p.aj=0
  ·rw [ad (by simp [a1])] at h1
   split at h1
   ·exact absurd h1 (by decide)
   ·rename_i a2
    split at h1
    ·exact absurd h1 (by decide)
    ·rename_i a3
     split at h1
     ·rename_i a4;exact absurd h1 a4
     ·rename_i a4
      split at h1
      ·rename_i a5;exact absurd h1 a5
      ·rename_i a5
       have g4:=mq (qm.1 a4)
       have g5:=mq (qm.1 a5)
       refine ⟨a1,fun n hn=>?_,by omega,fun l hl=>g4 l (gD _ hl),fun l hl=>g4 l (jv _ hl),fun v hv=>g5 v hv⟩
       cases hi:bL p.aj.Many n with
       | true=>rfl
       | false=>exact absurd (lN.2 ⟨n,hn,by simp [hi]⟩) a3
  ·rw [ab a1] at h1;exact absurd h1 a1
 ·rw [ab h1] at h;exact absurd h h1
abbrev MM(p:Program):Nat:=p.aj.Many.toNat
theorem pJ.small{p:Program}(h:pJ p):MM p≤1000000:=by have:=I4 h.dM;unfold MM;omega
mutual
theorem JQ:∀ (e:az),∀ n∈pI e,∃ x∈nv e,x.Kind=2∧x.N=n
 | ⟨k,m,args⟩,n,hn=>by
  have hr:n∈o7 args→∃ x∈nv ⟨k,m,args⟩,x.Kind=2∧x.N=n:=fun hn=>by
   obtain ⟨x,hx,h⟩:=Ho args n hn
   exact ⟨x,by rw [Am];exact vD _ hx,h⟩
  rw [pI] at hn
  split at hn
  ·rename_i hk
   rcases cR.1 hn with rfl | hn
   ·exact ⟨⟨k,n,args⟩,by rw [Am];simp,hk,rfl⟩
   ·exact hr hn
  ·exact hr hn
theorem Ho:∀ (l:List az),∀ n∈o7 l,∃ x∈eR l,x.Kind=2∧x.N=n
 | [],n,hn=>by rw [o7] at hn;cases hn
 | e::r,n,hn=>by
  rw [o7] at hn
  rcases bU.1 hn with hn | hn
  ·obtain ⟨x,hx,h⟩:=JQ e n hn
   exact ⟨x,by rw [eR];exact gD _ hx,h⟩
  ·obtain ⟨x,hx,h⟩:=Ho r n hn
   exact ⟨x,by rw [eR];exact jv _ hx,h⟩
end
theorem ach{p:Program}{e:az}(h:er p e=0):∀ n∈pI e,0≤n∧n.toNat<p.Vars.length:=fun n hn=>by
 obtain ⟨x,hx,hk,rfl⟩:=JQ e n hn
 have:=(Lz (Mi h x hx)).2.2.2.2 hk
 omega
def iF(n:Nat):Level:=⟨List.replicate n true,List.replicate n false⟩
theorem mS(n:Nat):bA n (iF n):=by simp [bA,iF]
theorem zB{p:Program}(h:pJ p):ix p.aj=some (iF (MM p)):=by
 have hm:=I4 h.dM
 unfold ix Pq
 rw [ab (by omega),af,dx (by omega),af,ab (by omega)]
 rfl
end Go.Proofs.YtkkkkondjclcnaaGreat.A
