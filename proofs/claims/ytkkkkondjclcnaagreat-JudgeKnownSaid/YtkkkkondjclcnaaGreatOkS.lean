/- What holds of a command, of a function that is right. -/
import Derived.Test.YtkkkkondjclcnaaGreatScopeP
import Derived.Test.YtkkkkondjclcnaaGreatReachW
import Derived.Test.YtkkkkondjclcnaaGreatLevelF
set_option linter.unusedSectionVars false
set_option linter.unusedVariables false
set_option linter.unusedSimpArgs false
set_option linter.constructorNameAsVariable false
namespace Go.Proofs.YtkkkkondjclcnaaGreat.A
open Go
theorem vd[Lp]{p:Program}{i:Int}{s:Stmt}(h:bg p i s=0):(1≤s.Kind∧s.Kind≤8)∧(gu s.Kind=true→0≤s.Var∧s.Var<p.Vars.length)∧(gv s.Kind=true→0≤s.Other∧s.Other<fY p i s.Kind)∧(s.Kind=2→s.Args.length=tN p s.Other)∧(fF s.Kind=true→cq p s.Expr=0)∧(∀ e∈s.Args,cq p e=0):=by
 unfold bg at h
 by_cases h1:s.Kind<1∨8<s.Kind
 ·rw [if_pos h1] at h;exact absurd h (by decide)
 rw [if_neg h1] at h
 by_cases h2:(gu s.Kind=true∧(s.Var<0∨(p.Vars.length:Int)≤s.Var))∨(gv s.Kind=true∧(s.Other<0∨fY p i s.Kind≤s.Other))
 ·rw [if_pos h2] at h;exact absurd h (by decide)
 rw [if_neg h2] at h
 split at h
 ·exact absurd h (by decide)
 by_cases h4:s.Kind=2∧s.Args.length≠tN p s.Other
 ·rw [if_pos h4] at h;exact absurd h (by decide)
 rw [if_neg h4] at h
 by_cases h5:fF s.Kind=true∧bg.cq p s.Expr≠0
 ·rw [if_pos h5] at h;exact absurd h h5.2
 rw [if_neg h5] at h
 have g1:∀ hv:gu s.Kind=true,¬(s.Var<0∨(p.Vars.length:Int)≤s.Var):=fun hv hh=>h2 (.inl ⟨hv,hh⟩)
 have g2:∀ hv:gv s.Kind=true,¬(s.Other<0∨fY p i s.Kind≤s.Other):=fun hv hh=>h2 (.inr ⟨hv,hh⟩)
 exact ⟨by omega,fun hv=>by have:=g1 hv;omega,fun hv=>by have:=g2 hv;omega,fun k=>Decidable.not_not.1 fun hn=>h4 ⟨k,hn⟩,fun he=>Decidable.not_not.1 fun hn=>h5 ⟨he,hn⟩,kU h⟩
theorem Pv{p:Program}{e:ak}(h:cq p e=0):∀ x∈rT e,lU p.Vars.length x=0:=by
 unfold cq bg.cq at h
 split at h
 ·exact absurd h (by decide)
 ·exact J1 h
theorem Bd{p:Program}{i:Int}{f:Func}(h:wR p i f=0):f.Params.length≤4∧(∀ n∈f.Params,0≤n∧n<p.Vars.length)∧cM (bg p i) f.Body=0∧cq p f.Result=0:=by
 unfold wR at h
 split at h
 ·exact absurd h (by decide)
 split at h
 ·rename_i h1;exact absurd h h1
 split at h
 ·rename_i h1;exact absurd h h1
 rename_i h1 h2 h3
 exact ⟨by omega,J5 (Decidable.not_not.1 h2),Decidable.not_not.1 h3,h⟩
structure pV(p:Program):Prop where
 eG:eO p.aa=0
 speak:∀ n∈p.Speak,ct p.aa.Many n=true
 few:(p.Speak.length:Int)≤p.aa.Many
 ins:∀ l∈p.Ins,fB p.aa.Many l=0
 outs:∀ l∈p.Outs,fB p.aa.Many l=0
 vars:∀ v∈p.Vars,fB p.aa.Many v.Label=0
variable [Lp]
theorem M3{p:Program}(h:oI p=0):pV p:=by
 unfold oI at h
 by_cases h1:lr p=0
 ·unfold lr at h1
  by_cases a1:eO p.aa=0
  ·rw [if_neg (by simp [a1])] at h1
   split at h1
   ·exact absurd h1 (by decide)
   ·rename_i a2
    split at h1
    ·exact absurd h1 (by decide)
    ·rename_i a3
     split at h1
     ·rename_i a4;exact absurd h1 a4
     ·rename_i a4
      split at h1
      ·rename_i a5;exact absurd h1 a5
      ·rename_i a5
       have g4:=kU (Decidable.not_not.1 a4)
       have g5:=kU (Decidable.not_not.1 a5)
       refine ⟨a1,fun n hn=>?_,by omega,fun l hl=>g4 l (List.mem_append_left _ hl),fun l hl=>g4 l (List.mem_append_right _ hl),fun v hv=>g5 v hv⟩
       cases hi:ct p.aa.Many n with
       | true=>rfl
       | false=>exact absurd (List.any_eq_true.2 ⟨n,hn,by simp [hi]⟩) a3
  ·rw [if_pos a1] at h1;exact absurd h1 a1
 ·rw [if_pos h1] at h;exact absurd h h1
abbrev MM(p:Program):Nat:=p.aa.Many.toNat
theorem pV.small{p:Program}(h:pV p):MM p≤1000000:=by have:=sP h.eG;unfold MM;omega
mutual
theorem Fw:∀ (e:ak),∀ n∈lW e,∃ x∈rT e,x.Kind=2∧x.N=n
 | ⟨k,m,args⟩,n,hn=>by
  have hr:n∈qG args→∃ x∈rT ⟨k,m,args⟩,x.Kind=2∧x.N=n:=fun hn=>by
   obtain ⟨x,hx,h⟩:=DD args n hn
   exact ⟨x,by rw [Eg];exact List.mem_cons_of_mem _ hx,h⟩
  rw [lW] at hn
  split at hn
  ·rename_i hk
   rcases List.mem_cons.1 hn with rfl | hn
   ·exact ⟨⟨k,n,args⟩,by rw [Eg];simp,hk,rfl⟩
   ·exact hr hn
  ·exact hr hn
theorem DD:∀ (l:List ak),∀ n∈qG l,∃ x∈fR l,x.Kind=2∧x.N=n
 | [],n,hn=>by rw [qG] at hn;cases hn
 | e::r,n,hn=>by
  rw [qG] at hn
  rcases List.mem_append.1 hn with hn | hn
  ·obtain ⟨x,hx,h⟩:=Fw e n hn
   exact ⟨x,by rw [fR];exact List.mem_append_left _ hx,h⟩
  ·obtain ⟨x,hx,h⟩:=DD r n hn
   exact ⟨x,by rw [fR];exact List.mem_append_right _ hx,h⟩
end
theorem HM{p:Program}{e:ak}(h:cq p e=0):∀ n∈lW e,0≤n∧n.toNat<p.Vars.length:=fun n hn=>by
 obtain ⟨x,hx,hk,rfl⟩:=Fw e n hn
 have:=(Pn (Pv h x hx)).2.2.2.2 hk
 omega
def dZ(n:Nat):Level:=⟨List.replicate n true,List.replicate n false⟩
theorem mI(n:Nat):bz n (dZ n):=by simp [bz,dZ]
theorem tQ{p:Program}(h:pV p):fu p.aa=some (dZ (MM p)):=by
 have hm:=sP h.eG
 unfold fu Lj
 rw [if_pos (by omega),Option.bind_some,eb (by omega),Option.bind_some,if_pos (by omega)]
 rfl
end Go.Proofs.YtkkkkondjclcnaaGreat.A
