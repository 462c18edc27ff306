/- What holds of a command, of a function that is right. -/
import Derived.Test.YtkkkkondjclcnaaScopeP
import Derived.Test.YtkkkkondjclcnaaLvlF
import Derived.Test.YtkkkkondjclcnaaLevelF
set_option linter.unusedSectionVars false
set_option linter.unusedVariables false
set_option linter.unusedSimpArgs false
set_option linter.constructorNameAsVariable false
namespace Go.Proofs.Ytkkkkondjclcnaa.A
open Go
theorem Ar[Lp]{p:Program}{i:Int}{s:Stmt}(h:bI p i s=0):(1≤s.Kind∧s.Kind≤8)∧(eJ s.Kind=true→0≤s.Var∧s.Var<p.Vars.length)∧(eZ s.Kind=true→0≤s.Other∧s.Other<iz p i s.Kind)∧(s.Kind=2→s.Args.length=tj p s.Other)∧(ez s.Kind=true→cP p s.Expr=0)∧(∀ e∈s.Args,cP p e=0):=by
 unfold bI at h
 by_cases h1:s.Kind<1∨8<s.Kind
 ·rw [if_pos h1] at h;exact absurd h (by decide)
 rw [if_neg h1] at h
 by_cases h2:(eJ s.Kind=true∧(s.Var<0∨(p.Vars.length:Int)≤s.Var))∨(eZ s.Kind=true∧(s.Other<0∨iz p i s.Kind≤s.Other))
 ·rw [if_pos h2] at h;exact absurd h (by decide)
 rw [if_neg h2] at h
 split at h
 ·exact absurd h (by decide)
 by_cases h4:s.Kind=2∧s.Args.length≠tj p s.Other
 ·rw [if_pos h4] at h;exact absurd h (by decide)
 rw [if_neg h4] at h
 by_cases h5:ez s.Kind=true∧bI.cP p s.Expr≠0
 ·rw [if_pos h5] at h;exact absurd h h5.2
 rw [if_neg h5] at h
 have g1:∀ hv:eJ s.Kind=true,¬(s.Var<0∨(p.Vars.length:Int)≤s.Var):=fun hv hh=>h2 (.inl ⟨hv,hh⟩)
 have g2:∀ hv:eZ s.Kind=true,¬(s.Other<0∨iz p i s.Kind≤s.Other):=fun hv hh=>h2 (.inr ⟨hv,hh⟩)
 exact ⟨by omega,fun hv=>by have:=g1 hv;omega,fun hv=>by have:=g2 hv;omega,fun k=>Decidable.not_not.1 fun hn=>h4 ⟨k,hn⟩,fun he=>Decidable.not_not.1 fun hn=>h5 ⟨he,hn⟩,jX h⟩
theorem HV{p:Program}{e:aw}(h:cP p e=0):∀ x∈oj e,ja p.Vars.length x=0:=by
 unfold cP bI.cP at h
 split at h
 ·exact absurd h (by decide)
 ·exact En h
theorem FH{p:Program}{i:Int}{f:Func}(h:vi p i f=0):f.Params.length≤4∧(∀ n∈f.Params,0≤n∧n<p.Vars.length)∧cH (bI p i) f.Body=0∧cP p f.Result=0:=by
 unfold vi at h
 split at h
 ·exact absurd h (by decide)
 split at h
 ·rename_i h1;exact absurd h h1
 split at h
 ·rename_i h1;exact absurd h h1
 rename_i h1 h2 h3
 exact ⟨by omega,Es (Decidable.not_not.1 h2),Decidable.not_not.1 h3,h⟩
structure ri(p:Program):Prop where
 jv:dy p.aa=0
 speak:∀ n∈p.Speak,cA p.aa.Many n=true
 few:(p.Speak.length:Int)≤p.aa.Many
 ins:∀ l∈p.Ins,e9 p.aa.Many l=0
 outs:∀ l∈p.Outs,e9 p.aa.Many l=0
 vars:∀ v∈p.Vars,e9 p.aa.Many v.Label=0
variable [Lp]
theorem CU{p:Program}(h:jY p=0):ri p:=by
 unfold jY at h
 by_cases h1:mj p=0
 ·unfold mj at h1
  by_cases a1:dy p.aa=0
  ·rw [if_neg (by simp [a1])] at h1
   split at h1
   ·exact absurd h1 (by decide)
   ·rename_i a2
    split at h1
    ·exact absurd h1 (by decide)
    ·rename_i a3
     split at h1
     ·rename_i a4;exact absurd h1 a4
     ·rename_i a4
      split at h1
      ·rename_i a5;exact absurd h1 a5
      ·rename_i a5
       have g4:=jX (Decidable.not_not.1 a4)
       have g5:=jX (Decidable.not_not.1 a5)
       refine ⟨a1,fun n hn=>?_,by omega,fun l hl=>g4 l (List.mem_append_left _ hl),fun l hl=>g4 l (List.mem_append_right _ hl),fun v hv=>g5 v hv⟩
       cases hi:cA p.aa.Many n with
       | true=>rfl
       | false=>exact absurd (List.any_eq_true.2 ⟨n,hn,by simp [hi]⟩) a3
  ·rw [if_pos a1] at h1;exact absurd h1 a1
 ·rw [if_pos h1] at h;exact absurd h h1
abbrev MM(p:Program):Nat:=p.aa.Many.toNat
theorem ri.small{p:Program}(h:ri p):MM p≤1000000:=by have:=tk h.jv;unfold MM;omega
mutual
theorem A3:∀ (e:aw),∀ n∈nz e,∃ x∈oj e,x.Kind=2∧x.N=n
 | ⟨k,m,args⟩,n,hn=>by
  have hr:n∈m8 args→∃ x∈oj ⟨k,m,args⟩,x.Kind=2∧x.N=n:=fun hn=>by
   obtain ⟨x,hx,h⟩:=ze args n hn
   exact ⟨x,by rw [zO];exact List.mem_cons_of_mem _ hx,h⟩
  rw [nz] at hn
  split at hn
  ·rename_i hk
   rcases List.mem_cons.1 hn with rfl | hn
   ·exact ⟨⟨k,n,args⟩,by rw [zO];simp,hk,rfl⟩
   ·exact hr hn
  ·exact hr hn
theorem ze:∀ (l:List aw),∀ n∈m8 l,∃ x∈ew l,x.Kind=2∧x.N=n
 | [],n,hn=>by rw [m8] at hn;cases hn
 | e::r,n,hn=>by
  rw [m8] at hn
  rcases List.mem_append.1 hn with hn | hn
  ·obtain ⟨x,hx,h⟩:=A3 e n hn
   exact ⟨x,by rw [ew];exact List.mem_append_left _ hx,h⟩
  ·obtain ⟨x,hx,h⟩:=ze r n hn
   exact ⟨x,by rw [ew];exact List.mem_append_right _ hx,h⟩
end
theorem MC{p:Program}{e:aw}(h:cP p e=0):∀ n∈nz e,0≤n∧n.toNat<p.Vars.length:=fun n hn=>by
 obtain ⟨x,hx,hk,rfl⟩:=A3 e n hn
 have:=(HM (HV h x hx)).2.2.2.2 hk
 omega
def jO(n:Nat):Level:=⟨List.replicate n true,List.replicate n false⟩
theorem nX(n:Nat):br n (jO n):=by simp [br,jO]
theorem pH{p:Program}(h:ri p):ec p.aa=some (jO (MM p)):=by
 have hm:=tk h.jv
 unfold ec Fy
 rw [if_pos (by omega),Option.bind_some,fB (by omega),Option.bind_some,if_pos (by omega)]
 rfl
end Go.Proofs.Ytkkkkondjclcnaa.A
