/- Programs: the program's own check of them answers as plain mathematics says. -/
import Derived.Test.YtdpjofmmokaobaaGreatScopeS
import Derived.Test.YtdpjofmmokaobaaGreatEvalP
set_option linter.unusedSectionVars false
set_option linter.unusedVariables false
set_option linter.unusedSimpArgs false
set_option linter.constructorNameAsVariable false
namespace Go.Proofs.YtdpjofmmokaobaaGreat.A
open Go
variable [Lp]
theorem aac(n:Nat):∀ (l:List Stmt)(d c:Int),1≤d→d≤7→8 - d≤n→0≤c→c≤50→(dq n).f_scope_Walk__scope_few_1 l d c=some (lf l d c):=by
 induction n with
 | zero=>intro l d c h1 h2 h3;omega
 | succ n ih=>
  intro l d c h1 h2 h3 h4 h5
  show fc (dq n) l d c=_
  unfold fc
  obtain ⟨x,hx,hQ⟩:=fU (B:=fun v=>eU (dq n) l d v.1 v.2) (fun v=>l.length - v.1)
   (fun v=>v.1≤l.length∧lf l d c=lf (l.drop v.1) d v.2∧0≤v.2∧v.2≤50∧(v.1:Int)≤v.2)
   (fun x=>(match x with
    | .inl y=>(false,y)
    | .inr (_,_,y)=>(true,y))=lf l d c) (by
    rintro ⟨k,c'⟩ ⟨hk,he,g1,g2,g3⟩
    simp only at hk he g1 g2 g3 ⊢
    unfold eU sQ
    by_cases hlt:k<l.length
    ·rw [List.drop_eq_getElem_cons hlt,lf,OV] at he
     rw [if_pos (by omega),List.getElem?_eq_getElem hlt,Option.bind_some,if_pos (jQ (by omega) (by omega))]
     generalize l[k]=s at *
     by_cases hc:c'+1≤50
     ·rw [if_pos hc]
      by_cases hd:d≤6
      ·rw [if_pos ⟨hc,hd⟩] at he
       simp only [Option.bind_some,hd,decide_true,if_true]
       rw [if_pos (jQ (by omega) (by omega)),ih _ _ _ (by omega) (by omega) (by omega) (by omega) (by omega),Option.bind_some]
       cases ht:lf s.Then (d+1) (c'+1) with
       | mk b m=>
        cases b with
        | false=>
         rw [ht] at he
         refine .inl ⟨_,rfl,?_⟩
         rw [he];rfl
        | true=>
         obtain ⟨rfl,q1,q2⟩:=(jP _ _ _ _ (by omega) (by omega)).1 ht
         rw [ht] at he
         simp only [if_true]
         rw [ih _ _ _ (by omega) (by omega) (by omega) (by omega) (by omega),Option.bind_some]
         simp only [andThen,if_true] at he
         cases hel:lf s.Else (d+1) (c'+1+(cp s.Then:Int)) with
         | mk b m=>
          rw [hel] at he
          cases b with
          | false=>exact .inl ⟨_,rfl,by rw [he];rfl⟩
          | true=>
           obtain ⟨rfl,q3,q4⟩:=(jP _ _ _ _ (by omega) (by omega)).1 hel
           simp only [if_true] at he ⊢
           rw [if_pos (jR (by omega))]
           exact .inr ⟨_,rfl,⟨by simp only;omega,he,by simp only;omega,by simp only;omega,by simp only;omega⟩,by simp only;omega⟩
      ·rw [if_neg (by omega)] at he
       simp only [Option.bind_some,hd,decide_false,Bool.false_eq_true,if_false]
       exact .inl ⟨_,rfl,by rw [he];rfl⟩
     ·rw [if_neg hc]
      rw [if_neg (by omega)] at he
      simp only [Option.bind_some,Bool.false_eq_true,if_false]
      exact .inl ⟨_,rfl,by rw [he];rfl⟩
    ·rw [List.drop_eq_nil_of_le (by omega),lf] at he
     rw [if_neg (by omega)]
     exact .inl ⟨_,rfl,he.symm⟩) (0,c) ⟨Nat.zero_le _,rfl,h4,h5,by simpa using h4⟩
  rw [hx,Option.bind_some]
  rcases x with a | ⟨a,b,e⟩
  ·exact congrArg some hQ
  ·exact congrArg some hQ
theorem KF{l:List Stmt}{c:Int}(h1:0≤c)(h2:c≤50):fy l 1 c=some (lf l 1 c):=
 vB 8 fun n hn=>aac n l 1 c (by decide) (by decide) (by omega) h1 h2
theorem HI{p:Program}(hf:p.Funcs.length≤5):rP p=some (mO p.Main p.Funcs 0).1:=by
 unfold rP
 obtain ⟨x,hx,hQ⟩:=fU (B:=fun v=>pM p v.1 v.2) (fun v=>p.Funcs.length - v.1)
  (fun v=>v.1≤p.Funcs.length∧mO p.Main p.Funcs 0=mO p.Main (p.Funcs.drop v.1) v.2∧0≤v.2∧v.2≤50)
  (fun x=>(match x with
   | .inl _=>(mO p.Main p.Funcs 0).1=false
   | .inr (_,_,y)=>mO p.Main p.Funcs 0=lf p.Main 1 y∧0≤y∧y≤50)) (by
   rintro ⟨k,c⟩ ⟨hk,he,g1,g2⟩
   simp only at hk he g1 g2 ⊢
   unfold pM
   by_cases hlt:k<p.Funcs.length
   ·rw [List.drop_eq_getElem_cons hlt,mO] at he
    rw [if_pos (by omega),List.getElem?_eq_getElem hlt,Option.bind_some,KF g1 g2,Option.bind_some]
    cases hl:lf p.Funcs[k].Body 1 c with
    | mk b m=>
     rw [hl] at he
     cases b with
     | false=>exact .inl ⟨_,rfl,by simp only;rw [he];rfl⟩
     | true=>
      obtain ⟨rfl,q1,q2⟩:=(jP _ _ _ _ g2 (by decide)).1 hl
      simp only [andThen,if_true] at he ⊢
      rw [if_pos (jR (by omega))]
      exact .inr ⟨_,rfl,⟨by simp only;omega,he,by simp only;omega,by simp only;omega⟩,by simp only;omega⟩
   ·rw [List.drop_eq_nil_of_le (by omega),mO] at he
    rw [if_neg (by omega)]
    exact .inl ⟨_,rfl,he,g1,g2⟩) (0,0) ⟨Nat.zero_le _,rfl,by decide,by decide⟩
 rw [hx,Option.bind_some]
 rcases x with a | ⟨a,b,y⟩
 ·simp only at hQ ⊢
  rw [hQ]
 ·obtain ⟨h1,h2,h3⟩:=hQ
  simp only
  rw [KF h2 h3,Option.bind_some,h1]
def Jt{α:Type} : Int⊕α→Int
 | .inl y=>y
 | .inr _=>0
theorem Fg{β:Type}(f:β→Int)(x:β)(l:List β):bR f (x::l)=if f x≠0 then f x else bR f l:=by
 unfold bR
 rw [List.findSome?_cons]
 by_cases h:f x=0<;>simp [h]
theorem Gs{β ζ:Type}{B:Nat→Option (Nat⊕(Int⊕ζ))}(es:List β)(f:β→Int)(hs:∀ k (h:k<es.length),B k=if f es[k]≠0 then some (.inr (.inl (f es[k]))) else some (.inl (k+1)))(he:∃ z,B es.length=some (.inr (.inr z))) :
  ∃ x,lp B 0=some x∧Jt x=bR f es∧(bR f es=0→∃ z,x= .inr z):=by
 refine fU (B:=B) (fun k=>es.length - k) (fun k=>k≤es.length∧bR f es=bR f (es.drop k)) (fun x=>Jt x=bR f es∧(bR f es=0→∃ z,x= .inr z)) ?_ 0 ⟨Nat.zero_le _,rfl⟩
 rintro k ⟨hk,hf⟩
 by_cases hlt:k<es.length
 ·rw [List.drop_eq_getElem_cons hlt,Fg] at hf
  rw [hs k hlt]
  by_cases h0:f es[k]=0
  ·rw [if_neg (by simp [h0])] at hf ⊢
   exact .inr ⟨_,rfl,⟨by omega,hf⟩,by omega⟩
  ·rw [if_pos h0] at hf ⊢
   exact .inl ⟨_,rfl,hf.symm,fun hz=>absurd (hf.symm.trans hz) h0⟩
 ·obtain rfl:k=es.length:=by omega
  rw [List.drop_length] at hf
  obtain ⟨z,hz⟩:=he
  exact .inl ⟨_,hz,hf.symm,fun _=>⟨z,rfl⟩⟩
theorem MZ(k:Int):pN k=some (jj k,iA k,fR k):=by
 unfold pN jj iA fR
 by_cases h4:k=4
 ·subst h4;rfl
 by_cases h2:k=2
 ·subst h2;rfl
 by_cases h22:2≤k
 ·by_cases h3:k=3<;>simp [h4,h2,h22,h3]
 ·have h3:¬k=3:=by omega
  simp [h4,h2,h22,h3]
theorem KG(c:Checker)(k:Int):gx c k=some (il c.p c.funcs k):=by
 unfold gx il
 by_cases h2:k=2
 ·simp [h2]
 by_cases h3:k=3<;>simp [h2,h3]
theorem Bv(p:Program)(e:aE):jD e (p.Vars.length:Int)=some (da p e):=O0 e _
variable [Lp]
theorem Xx(c:Checker)(s:Stmt)(r:Bool×Bool×Bool):fV c s r=some (decide (s.Expr.Kind=0∧s.Expr.N=0∧s.Expr.Args.length=0)):=by
 unfold fV eH
 by_cases h1:s.Expr.Kind=0
 ·by_cases h2:s.Expr.N=0
  ·by_cases h3:s.Expr.Args=[]<;>simp [h1,h2,h3]
  ·simp [h1,h2]
 ·simp [h1]
theorem Xy(c:Checker)(s:Stmt)(x:Bool):fW c s (jj s.Kind,iA s.Kind,fR s.Kind) x=
  some (decide ((jj s.Kind=true∧(s.Var<0∨(c.p.Vars.length:Int)≤s.Var))∨(iA s.Kind=true∧(s.Other<0∨il c.p c.funcs s.Kind≤s.Other)))):=by
 have j4:∀ u,dG c s (jj s.Kind,iA s.Kind,fR s.Kind) x u=some (u||decide (iA s.Kind=true∧(s.Other<0∨il c.p c.funcs s.Kind≤s.Other))):=by
  intro u
  unfold dG dF
  simp only [KG,Option.bind_some]
  cases u with
  | true=>simp
  | false=>
   cases iA s.Kind with
   | false=>simp
   | true=>by_cases h:s.Other<0<;>simp [h]
 unfold fW
 simp only [j4,Option.bind_some]
 cases jj s.Kind with
 | false=>simp
 | true=>by_cases h:s.Var<0<;>simp [h]
theorem Xz(c:Checker)(s:Stmt)(x:Bool):fX c s (jj s.Kind,iA s.Kind,fR s.Kind) (decide (s.Expr.Kind=0∧s.Expr.N=0∧s.Expr.Args.length=0)) x=
  some (decide ((jj s.Kind=false∧s.Var≠0)∨(iA s.Kind=false∧s.Other≠0)∨(fR s.Kind=false∧¬(s.Expr.Kind=0∧s.Expr.N=0∧s.Expr.Args.length=0))∨(s.Kind≠2∧0<s.Args.length)∨(s.Kind<7∧0<s.Then.length)∨(s.Kind≠7∧0<s.Else.length))):=by
 generalize hn:decide (s.Expr.Kind=0∧s.Expr.N=0∧s.Expr.Args.length=0)=no
 have hn':(s.Expr.Kind=0∧s.Expr.N=0∧s.Expr.Args.length=0)↔no=true:=by rw [←hn];simp
 rw [decide_eq_decide.2 (by rw [hn'])]
 have j10:∀ a b d u,dz c s (jj s.Kind,iA s.Kind,fR s.Kind) no x a b d u=some (u||decide (s.Kind≠7∧0<s.Else.length)):=by
  intro a b d u
  unfold dz ek
  cases u with
  | true=>simp
  | false=>by_cases h:s.Kind=7<;>simp [h]
 have j9:∀ a b u,dH c s (jj s.Kind,iA s.Kind,fR s.Kind) no x a b u=some (u||(decide (s.Kind<7∧0<s.Then.length)||decide (s.Kind≠7∧0<s.Else.length))):=by
  intro a b u
  unfold dH
  simp only [j10,Option.bind_some]
  cases u with
  | true=>simp
  | false=>
   by_cases h:7≤s.Kind
   ·have:¬s.Kind<7:=by omega
    simp [h,this]
   ·have:s.Kind<7:=by omega
    simp [h,this]
 have j8:∀ a u,dI c s (jj s.Kind,iA s.Kind,fR s.Kind) no x a u=some (u||(decide (s.Kind≠2∧0<s.Args.length)||(decide (s.Kind<7∧0<s.Then.length)||decide (s.Kind≠7∧0<s.Else.length)))):=by
  intro a u
  unfold dI
  simp only [j9,Option.bind_some]
  cases u with
  | true=>simp
  | false=>by_cases h:s.Kind=2<;>simp [h]
 have j7:∀ u,cH c s (jj s.Kind,iA s.Kind,fR s.Kind) no x u=some (u||(decide (fR s.Kind=false∧¬no=true)||(decide (s.Kind≠2∧0<s.Args.length)||(decide (s.Kind<7∧0<s.Then.length)||decide (s.Kind≠7∧0<s.Else.length))))):=by
  intro u
  unfold cH
  simp only [j8,Option.bind_some]
  cases u with
  | true=>simp
  | false=>cases fR s.Kind<;>cases no<;>simp
 unfold fX
 simp only [j7,Option.bind_some]
 have e:decide ((jj s.Kind=false∧s.Var≠0)∨(iA s.Kind=false∧s.Other≠0)∨(fR s.Kind=false∧¬no=true)∨(s.Kind≠2∧0<s.Args.length)∨(s.Kind<7∧0<s.Then.length)∨(s.Kind≠7∧0<s.Else.length))=
   (decide (jj s.Kind=false∧s.Var≠0)||(decide (iA s.Kind=false∧s.Other≠0)||(decide (fR s.Kind=false∧¬no=true)||(decide (s.Kind≠2∧0<s.Args.length)||(decide (s.Kind<7∧0<s.Then.length)||decide (s.Kind≠7∧0<s.Else.length)))))):=by
  simp only [Bool.decide_or]
 rw [e]
 generalize (decide (fR s.Kind=false∧¬no=true)||(decide (s.Kind≠2∧0<s.Args.length)||(decide (s.Kind<7∧0<s.Then.length)||decide (s.Kind≠7∧0<s.Else.length))))=w
 cases jj s.Kind with
 | true=>
  cases iA s.Kind with
  | true=>simp
  | false=>by_cases h:s.Other=0<;>simp [h]
 | false=>
  by_cases hv:s.Var=0
  ·cases iA s.Kind with
   | true=>simp [hv]
   | false=>by_cases h:s.Other=0<;>simp [h,hv]
  ·simp [hv]
theorem O3(c:Checker)(s:Stmt)(hl:s.Args.length≤9223372036854775807):eI c s=some (if bR (da c.p) s.Args≠0 then .inl (bR (da c.p) s.Args) else .inr ()):=by
 unfold eI
 obtain ⟨x,hx,h1,h2⟩:=Gs (B:=fun v=>eZ c s v) s.Args (da c.p) (fun k hk=>by
  unfold eZ
  rw [if_pos (by omega),List.getElem?_eq_getElem hk,Option.bind_some,Bv,Option.bind_some]
  by_cases h0:da c.p s.Args[k]=0
  ·rw [if_neg (by simp [h0]),if_pos (jR (by omega)),if_neg (by simp [h0])]
  ·rw [if_pos (by simp [h0]),if_pos h0]) ⟨_,by unfold eZ;rw [if_neg (by omega)]⟩
 rw [hx,Option.bind_some]
 rcases x with y | ⟨a,b⟩
 ·have hy:y=bR (da c.p) s.Args:=h1
  by_cases h0:bR (da c.p) s.Args=0
  ·obtain ⟨z,hz⟩:=h2 h0;cases hz
  ·rw [if_pos h0,hy]
 ·have hy:(0:Int)=bR (da c.p) s.Args:=h1
  rw [if_neg (by simp [←hy])]
theorem Od(c:Checker)(s:Stmt)(a b:Bool)(hl:s.Args.length≤9223372036854775807) :
  ((eJ c s (a,b,fR s.Kind)).bind fun (x19:(Int⊕Unit))=>match x19 with
   | .inl y=>some y
   | .inr ()=>some (0:Int))=some (if fR s.Kind=true∧da c.p s.Expr≠0 then da c.p s.Expr else bR (da c.p) s.Args):=by
 unfold eJ
 rw [O3 c s hl,Bv]
 simp only [Option.bind_some]
 by_cases hf:bR (da c.p) s.Args=0
 ·cases fR s.Kind with
  | false=>simp [hf]
  | true=>by_cases h0:da c.p s.Expr=0<;>simp [h0,hf]
 ·cases fR s.Kind with
  | false=>simp [hf]
  | true=>by_cases h0:da c.p s.Expr=0<;>simp [h0,hf]
theorem O4{c:Checker}{s:Stmt}(h0:c.funcs≤c.p.Funcs.length)(hp:∀ f∈c.p.Funcs,f.Params.length≤9223372036854775807):ja c s=some (cC c.p c.funcs s):=by
 unfold ja cC
 by_cases k1:s.Kind<1
 ·rw [if_pos k1,if_pos (.inl k1)]
 rw [if_neg k1]
 by_cases k8:8<s.Kind
 ·rw [if_pos k8,if_pos (.inr k8)]
 rw [if_neg k8,if_neg (by omega),MZ,Option.bind_some,Xx,Option.bind_some,Xy,Option.bind_some]
 by_cases h5:(jj s.Kind=true∧(s.Var<0∨(c.p.Vars.length:Int)≤s.Var))∨(iA s.Kind=true∧(s.Other<0∨il c.p c.funcs s.Kind≤s.Other))
 ·rw [if_pos (decide_eq_true h5),if_pos h5]
 rw [if_neg (by simpa using h5),if_neg h5,Xz,Option.bind_some]
 by_cases h1:(jj s.Kind=false∧s.Var≠0)∨(iA s.Kind=false∧s.Other≠0)∨(fR s.Kind=false∧¬(s.Expr.Kind=0∧s.Expr.N=0∧s.Expr.Args.length=0))∨(s.Kind≠2∧0<s.Args.length)∨(s.Kind<7∧0<s.Then.length)∨(s.Kind≠7∧0<s.Else.length)
 ·rw [if_pos (decide_eq_true h1),if_pos h1]
 rw [if_neg (by rw [decide_eq_true_iff];exact h1),if_neg h1]
 by_cases k2:s.Kind=2
 ·have ho:0≤s.Other∧s.Other<c.funcs:=by
   have:iA s.Kind=true:=by rw [k2];rfl
   have e:il c.p c.funcs s.Kind=c.funcs:=by rw [k2];rfl
   rw [e] at h5
   have h6:¬(s.Other<0∨c.funcs≤s.Other):=fun h=>h5 (.inr ⟨this,h⟩)
   omega
  have hi:s.Other.toNat<c.p.Funcs.length:=by omega
  have hpo:wW c.p s.Other=(c.p.Funcs[s.Other.toNat]).Params.length:=by unfold wW;rw [List.getElem?_eq_getElem hi];rfl
  rw [if_pos (by simp [k2]),cj ho.1,Option.bind_some,List.getElem?_eq_getElem hi,Option.bind_some,hpo]
  have hpl:=hp _ (List.getElem_mem hi)
  generalize (c.p.Funcs[s.Other.toNat]).Params.length=n at *
  by_cases hn:s.Args.length=n
  ·rw [if_neg (by simp [hn]),if_neg (fun h=>h.2 hn)]
   exact Od c s _ _ (by omega)
  ·rw [if_pos (by simp;omega),if_pos ⟨k2,hn⟩]
 ·rw [if_neg (by simp [k2]),if_neg (fun h=>k2 h.1)]
  have ha:¬0<s.Args.length:=fun h=>h1 (.inr (.inr (.inr (.inl ⟨k2,h⟩))))
  exact Od c s _ _ (by omega)
theorem XA{c:Checker}(h0:c.funcs≤c.p.Funcs.length)(hp:∀ f∈c.p.Funcs,f.Params.length≤9223372036854775807)(n:Nat):∀ (l:List Stmt)(d:Int),gu l+1≤n→cp l≤50→1≤d→d+gu l≤100→
  (ct n).f_scope_Walk__scope_checker_stmts_1 l d () c 0=some (ed (cC c.p c.funcs) l==0,(),ed (cC c.p c.funcs) l):=by
 induction n with
 | zero=>intro l d h;omega
 | succ n ih=>
  intro l d h1 h2 h3 h4
  show di (ct n) l d () c 0=_
  unfold di
  have hlen:=uw l
  obtain ⟨x,hx,hQ⟩:=fU (B:=fun v=>c8 (ct n) l d c v.1 v.2) (fun v=>l.length - v.1)
   (fun v=>v.1≤l.length∧ed (cC c.p c.funcs) l=ed (cC c.p c.funcs) (l.drop v.1)∧v.2=0)
   (fun x=>(match x with
    | .inl y=>y≠0∧y=ed (cC c.p c.funcs) l
    | .inr (_,_,y)=>y=0∧ed (cC c.p c.funcs) l=0)) (by
    rintro ⟨k,e⟩ ⟨hk,he,hz⟩
    simp only at hk he hz ⊢
    subst hz
    unfold c8 kq
    by_cases hlt:k<l.length
    ·rw [List.drop_eq_getElem_cons hlt,ed,It] at he
     have hm:=List.getElem_mem hlt
     have g1:=ux hm
     have g2:=uy hm
     rw [if_pos (by omega),List.getElem?_eq_getElem hlt,Option.bind_some]
     generalize l[k]=s at *
     have g3:=sE s
     have g4:=mC s
     rw [O4 h0 hp,Option.bind_some,Option.bind_some]
     by_cases e1:cC c.p c.funcs s=0
     ·simp only [e1,beq_self_eq_true,if_true,ne_eq,not_true_eq_false,if_false] at he ⊢
      rw [if_pos (jQ (by omega) (by omega)),ih _ _ (by omega) (by omega) (by omega) (by omega),Option.bind_some]
      by_cases e2:ed (cC c.p c.funcs) s.Then=0
      ·simp only [e2,beq_self_eq_true,if_true,not_true_eq_false,if_false] at he ⊢
       rw [ih _ _ (by omega) (by omega) (by omega) (by omega),Option.bind_some]
       by_cases e3:ed (cC c.p c.funcs) s.Else=0
       ·simp only [e3,beq_self_eq_true,if_true,not_true_eq_false,if_false] at he ⊢
        rw [if_pos (jR (by omega))]
        exact .inr ⟨_,rfl,⟨by simp only;omega,he,rfl⟩,by simp only;omega⟩
       ·have:(ed (cC c.p c.funcs) s.Else==0)=false:=by simp [e3]
        simp only [e3,not_false_eq_true,if_true] at he
        simp only [this,Bool.false_eq_true,if_false]
        exact .inl ⟨_,rfl,e3,he.symm⟩
      ·have:(ed (cC c.p c.funcs) s.Then==0)=false:=by simp [e2]
       simp only [e2,not_false_eq_true,if_true] at he
       simp only [this,Bool.false_eq_true,if_false]
       exact .inl ⟨_,rfl,e2,he.symm⟩
     ·have:(cC c.p c.funcs s==0)=false:=by simp [e1]
      simp only [e1,ne_eq,not_false_eq_true,if_true] at he
      simp only [this,Bool.false_eq_true,if_false]
      exact .inl ⟨_,rfl,e1,he.symm⟩
    ·rw [List.drop_eq_nil_of_le (by omega),ed] at he
     rw [if_neg (by omega)]
     exact .inl ⟨_,rfl,rfl,he⟩) (0,0) ⟨Nat.zero_le _,rfl,rfl⟩
  rw [hx,Option.bind_some]
  rcases x with y | ⟨a,b,y⟩
  ·obtain ⟨q1,q2⟩:=hQ
   have:(ed (cC c.p c.funcs) l==0)=false:=by rw [←q2];simp [q1]
   simp only [this]
   rw [q2]
  ·obtain ⟨q1,q2⟩:=hQ
   simp only [q2,q1];rfl
theorem Gt{c:Checker}{l:List Stmt}(h0:c.funcs≤c.p.Funcs.length)(hp:∀ f∈c.p.Funcs,f.Params.length≤9223372036854775807)(hc:cp l≤50)(hd:gu l≤6):ft c l=some (ed (cC c.p c.funcs) l):=by
 unfold ft
 have:eE l 1 () c 0=some (ed (cC c.p c.funcs) l==0,(),ed (cC c.p c.funcs) l):=
  vB 8 fun n hn=>XA h0 hp n l 1 (by omega) hc (by decide) (by omega)
 rw [this];rfl
theorem HJ{l:List Int}{a:Int}(hl:l.length≤9223372036854775807):ij l a=some (decide (a∈l)):=by
 unfold ij nE
 obtain ⟨x,hx,hQ⟩:=fU (B:=fun v=>iX l a v) (fun k=>l.length - k) (fun k=>k≤l.length∧¬a∈l.take k)
  (fun x=>match x with
   | .inl _=>a∈l
   | .inr _=>¬a∈l) (by
   rintro k ⟨hk,hn⟩
   unfold iX
   by_cases hlt:k<l.length
   ·rw [if_pos (by omega),List.getElem?_eq_getElem hlt,Option.bind_some]
    by_cases h:a=l[k]
    ·rw [if_pos (by simp [h])]
     exact .inl ⟨_,rfl,by rw [h];exact List.getElem_mem hlt⟩
    ·rw [if_neg (by simp [h]),if_pos (jR (by omega))]
     refine .inr ⟨_,rfl,⟨by omega,fun hm=>?_⟩,by omega⟩
     rw [List.take_add_one,List.getElem?_eq_getElem hlt] at hm
     rcases List.mem_append.1 hm with hm | hm
     ·exact hn hm
     ·exact h (by simpa using hm)
   ·rw [if_neg (by omega)]
    rw [List.take_of_length_le (by omega)] at hn
    exact .inl ⟨_,rfl,hn⟩) 0 ⟨Nat.zero_le _,by simp⟩
 rw [hx]
 simp only [Option.bind_some]
 rcases x with y | ⟨y,z⟩
 ·have h:a∈l:=hQ
  simp [h]
 ·have h:¬a∈l:=hQ
  simp [h]
theorem XB{c:Checker}{f:Func}(h0:c.funcs≤c.p.Funcs.length)(hp:∀ f∈c.p.Funcs,f.Params.length≤9223372036854775807)(hc:cp f.Body≤50)(hd:gu f.Body≤6):kH c f=some (zn c.p c.funcs f):=by
 unfold kH zn
 by_cases h4:4<f.Params.length
 ·rw [if_pos (by omega),if_pos h4]
 rw [if_neg (by omega),if_neg h4]
 obtain ⟨x,hx,hQ⟩:=fU (B:=fun v=>jc c f v) (fun k=>f.Params.length - k)
  (fun k=>k≤f.Params.length∧rv c.p.Vars.length [] f.Params=rv c.p.Vars.length (f.Params.take k) (f.Params.drop k))
  (fun x=>(match x with
   | .inl _=>(5:Int)
   | .inr (.inl _)=>6
   | .inr (.inr _)=>0)=rv c.p.Vars.length [] f.Params) (by
   rintro k ⟨hk,he⟩
   unfold jc
   by_cases hlt:k<f.Params.length
   ·rw [List.drop_eq_getElem_cons hlt,rv] at he
    rw [if_pos (by omega),List.getElem?_eq_getElem hlt,Option.bind_some]
    have htk:f.Params.take k++[f.Params[k]]=f.Params.take (k+1):=by rw [List.take_add_one,List.getElem?_eq_getElem hlt];rfl
    rw [htk] at he
    by_cases g1:f.Params[k]<0
    ·rw [if_pos g1]
     rw [if_pos (.inl g1)] at he
     exact .inl ⟨_,rfl,he.symm⟩
    rw [if_neg g1]
    by_cases g2:(c.p.Vars.length:Int)≤f.Params[k]
    ·rw [if_pos g2]
     rw [if_pos (.inr g2)] at he
     exact .inl ⟨_,rfl,he.symm⟩
    rw [if_neg g2,if_pos (by omega),List.drop_zero,HJ (by rw [List.length_take];omega),Option.bind_some]
    rw [if_neg (by omega)] at he
    by_cases g3:f.Params[k]∈f.Params.take k
    ·rw [if_pos (decide_eq_true g3)]
     rw [if_pos g3] at he
     exact .inl ⟨_,rfl,he.symm⟩
    ·rw [if_neg (by simpa using g3),if_pos (jR (by omega))]
     rw [if_neg g3] at he
     exact .inr ⟨_,rfl,⟨by omega,he⟩,by omega⟩
   ·rw [List.drop_eq_nil_of_le (by omega),rv] at he
    rw [if_neg (by omega)]
    exact .inl ⟨_,rfl,he.symm⟩) 0 ⟨Nat.zero_le _,by simp⟩
 rw [hx,Option.bind_some]
 rcases x with _ | _ | ⟨a,b⟩
 ·have h:(5:Int)=rv c.p.Vars.length [] f.Params:=hQ
  rw [←h];rfl
 ·have h:(6:Int)=rv c.p.Vars.length [] f.Params:=hQ
  rw [←h];rfl
 ·have h:(0:Int)=rv c.p.Vars.length [] f.Params:=hQ
  rw [←h,if_neg (by decide)]
  simp only [Gt h0 hp hc hd,Option.bind_some]
  by_cases he:ed (cC c.p c.funcs) f.Body=0
  ·rw [if_neg (by simp [he]),if_neg (by simp [he]),Bv];rfl
  ·rw [if_pos (by simp [he]),if_pos he]
theorem KH(a b:List Label)(ha:a.length≤5)(hb:b.length≤5):fx [a,b]=some (a++b):=by
 unfold fx
 have z1:IntKind.i64.wrap 1=1:=by decide
 have z2:IntKind.i64.wrap 2=2:=by decide
 have w1:IntKind.i64.wrap (0+(a.length:Int))=0+(a.length:Int):=jQ (by omega) (by omega)
 have w2:IntKind.i64.wrap (0+(a.length:Int)+(b.length:Int))=0+(a.length:Int)+(b.length:Int):=jQ (by omega) (by omega)
 have n1:¬(0+(a.length:Int))<0:=by omega
 have n2:¬(0+(a.length:Int)+(b.length:Int))<0:=by omega
 have l0:lp (fun v=>cU [a,b] v.1 v.2) (0,0)=some (0+(a.length:Int)+(b.length:Int),2,false):=by
  rw [ly (w:=(0+(a.length:Int),1)) (by simp only [cU];simp only [List.length_cons,List.length_nil,List.getElem?_cons_zero,Option.bind_some,w1,n1,if_false,if_true];simp [z1]),
   ly (w:=(0+(a.length:Int)+(b.length:Int),2)) (by simp only [cU];simp only [List.length_cons,List.length_nil,List.getElem?_cons_succ,List.getElem?_cons_zero,Option.bind_some,w2,n2,if_false,if_true];simp [z2])]
  exact iG (by simp [cU])
 have l1:lp (fun v=>cV [a,b] v.1 v.2) (([]:List Label),0)=some (a++b,2,false):=by
  rw [ly (w:=(a,1)) (by simp [cV,z1];omega),
   ly (w:=(a++b,2)) (by simp [cV,z2];omega)]
  exact iG (by simp [cV])
 rw [l0,Option.bind_some,if_pos (by simp only;omega),l1];rfl
variable [Lp]
theorem XC(p:Program):mW p=some (decide (16<p.Vars.length∨5<p.Ins.length∨5<p.Outs.length∨5<p.Funcs.length∨p.ah.Many<(p.Speak.length:Int))):=by
 unfold mW ig
 by_cases h1:16<p.Vars.length
 ·have:(16:Int)<(p.Vars.length:Int):=by omega
  simp [h1,this]
 have h1':¬(16:Int)<(p.Vars.length:Int):=by omega
 by_cases h2:5<p.Ins.length
 ·have:(5:Int)<(p.Ins.length:Int):=by omega
  simp [h1',h2,this]
 have h2':¬(5:Int)<(p.Ins.length:Int):=by omega
 by_cases h3:5<p.Outs.length
 ·have:(5:Int)<(p.Outs.length:Int):=by omega
  simp [h1',h2',h3,this]
 have h3':¬(5:Int)<(p.Outs.length:Int):=by omega
 by_cases h4:5<p.Funcs.length
 ·have:(5:Int)<(p.Funcs.length:Int):=by omega
  simp [h1',h2',h3',h4,this]
 have h4':¬(5:Int)<(p.Funcs.length:Int):=by omega
 simp [h1,h1',h2,h2',h3,h3',h4,h4']
theorem M0{m:Int}{l:Label}(h:gy m l=0):l.Read.length≤4∧l.Write.length≤4:=⟨(ur (uu h).1).1,(ur (uu h).2).1⟩
theorem O5(p:Program):qJ p=some (oy p):=by
 unfold qJ oy
 rw [OT,Option.bind_some]
 by_cases a1:fH p.ah=0
 rotate_left
 ·rw [if_pos (show (fH p.ah !=0)=true by simp [a1]),if_pos a1]
 rw [if_neg (show ¬(fH p.ah !=0)=true by simp [a1]),if_neg (show ¬fH p.ah≠0 from fun h=>h a1),XC,Option.bind_some]
 obtain ⟨c1,c2,c3,c4⟩:=sD a1
 by_cases a4:16<p.Vars.length∨5<p.Ins.length∨5<p.Outs.length∨5<p.Funcs.length∨p.ah.Many<(p.Speak.length:Int)
 ·rw [if_pos (decide_eq_true a4),if_pos a4]
 rw [if_neg (by simpa using a4),if_neg a4]
 have hs:eA p.Speak p=some (p.Speak.any (fun n=>!dc p.ah.Many n)):=l9 (fun y=>oe y p) _ p.Speak (by omega) (fun y _=>by simp [oe,Gk])
 rw [hs,Option.bind_some]
 cases a5:p.Speak.any (fun n=>!dc p.ah.Many n) with
 | true=>rfl
 | false=>
  simp only [Bool.false_eq_true,if_false]
  rw [KH _ _ (by omega) (by omega),Option.bind_some]
  obtain ⟨x,hx,e1,e2⟩:=Gs (B:=fun v=>lM p (p.Ins++p.Outs) v) (p.Ins++p.Outs) (gy p.ah.Many) (fun k hk=>by
   unfold lM
   rw [if_pos (by omega),List.getElem?_eq_getElem hk,Option.bind_some,KC,Option.bind_some]
   rw [List.length_append] at hk
   by_cases h0:gy p.ah.Many (p.Ins++p.Outs)[k]=0
   ·rw [if_neg (by simp [h0]),if_pos (jR (by omega)),if_neg (by simp [h0])]
   ·rw [if_pos (by simp [h0]),if_pos h0]) ⟨_,by unfold lM;rw [if_neg (by omega)]⟩
  rw [hx,Option.bind_some]
  by_cases h6:bR (gy p.ah.Many) (p.Ins++p.Outs)=0
  rotate_left
  ·rcases x with y | ⟨a,b⟩
   ·have hy:y=_:=e1
    rw [if_pos h6,←hy]
   ·have hy:(0:Int)=_:=e1
    exact absurd hy.symm h6
  obtain ⟨z,rfl⟩:=e2 h6
  rw [if_neg (show ¬bR (gy p.ah.Many) (p.Ins++p.Outs)≠0 from fun h=>h h6)]
  obtain ⟨z1,z2⟩:=z
  simp only
  obtain ⟨x,hx,e3,e4⟩:=Gs (B:=fun v=>lN p v) p.Vars (fun v:Var=>gy p.ah.Many v.Label) (fun k hk=>by
   unfold lN
   rw [if_pos (by omega),List.getElem?_eq_getElem hk,Option.bind_some,KC,Option.bind_some]
   by_cases h0:gy p.ah.Many p.Vars[k].Label=0
   ·rw [if_neg (by simp [h0]),if_pos (jR (by omega)),if_neg (by simp [h0])]
   ·rw [if_pos (by simp [h0]),if_pos h0]) ⟨_,by unfold lN;rw [if_neg (by omega)]⟩
  rw [hx,Option.bind_some]
  by_cases h7:bR (fun v:Var=>gy p.ah.Many v.Label) p.Vars=0
  rotate_left
  ·rcases x with y | ⟨a,b⟩
   ·have hy:y=_:=e3
    rw [if_pos h7,←hy]
   ·have hy:(0:Int)=_:=e3
    exact absurd hy.symm h7
  obtain ⟨z,rfl⟩:=e4 h7
  rw [if_neg (show ¬bR (fun v:Var=>gy p.ah.Many v.Label) p.Vars≠0 from fun h=>h h7)]
  obtain ⟨z1,z2⟩:=z
  simp only
  have hv:eB p.Vars=some (p.Vars.any (fun v=>!v.Known&&decide (0<v.Label.Read.length+v.Label.Write.length))):=l9 om _ p.Vars (by omega) (fun y hy=>by
   have hl:=M0 (mB h7 y hy)
   unfold om
   rw [if_pos (c:=IntKind.i64.wrap _=_) (jQ (by omega) (by omega))]
   cases y.Known with
   | true=>simp
   | false=>simp;omega)
  rw [hv,Option.bind_some]
  cases p.Vars.any (fun v=>!v.Known&&decide (0<v.Label.Read.length+v.Label.Write.length))<;>rfl
theorem M1{p:Program}(hf:p.Funcs.length≤5)(hp:∀ f∈p.Funcs,f.Params.length≤9223372036854775807)(hc:∀ f∈p.Funcs,cp f.Body≤50∧gu f.Body≤6) :
  ∃ x,lp (fun v=>kJ p v.1 v.2) (0,0)=some x∧Jt x=pd p 0 p.Funcs∧(pd p 0 p.Funcs=0→∃ z,x= .inr z):=by
 refine fU (B:=fun v=>kJ p v.1 v.2) (fun v=>p.Funcs.length - v.1) (fun v=>v.1≤p.Funcs.length∧pd p 0 p.Funcs=pd p v.1 (p.Funcs.drop v.1)) (fun x=>Jt x=pd p 0 p.Funcs∧(pd p 0 p.Funcs=0→∃ z,x= .inr z)) ?_ (0,0) ⟨Nat.zero_le _,rfl⟩
 rintro ⟨k,m⟩ ⟨hk,he⟩
 simp only at hk he ⊢
 unfold kJ
 by_cases hlt:k<p.Funcs.length
 ·rw [List.drop_eq_getElem_cons hlt,pd] at he
  have hm:=hc _ (List.getElem_mem hlt)
  rw [if_pos (by omega),List.getElem?_eq_getElem hlt,Option.bind_some,XB (c:=⟨p,(k:Int)⟩) (by simp only;omega) hp hm.1 hm.2,Option.bind_some]
  simp only
  by_cases h0:zn p k p.Funcs[k]=0
  ·rw [if_neg (by simp [h0])] at he
   rw [if_neg (by simp [h0]),if_pos (jR (by omega))]
   exact .inr ⟨_,rfl,⟨by simp only;omega,he⟩,by simp only;omega⟩
  ·rw [if_pos h0] at he
   rw [if_pos (by simp [h0])]
   exact .inl ⟨_,rfl,he.symm,fun hz=>absurd (he.symm.trans hz) h0⟩
 ·rw [List.drop_eq_nil_of_le (by omega),pd] at he
  rw [if_neg (by omega)]
  exact .inl ⟨_,rfl,he.symm,fun _=>⟨_,rfl⟩⟩
theorem M3{p:Program}(hp:∀ f∈p.Funcs,f.Params.length≤9223372036854775807):pO p=some (iN p):=by
 unfold pO iN
 rw [O5,Option.bind_some]
 by_cases h1:oy p=0
 rotate_left
 ·rw [if_pos (show (oy p !=0)=true by simp [h1]),if_pos h1]
 rw [if_neg (show ¬(oy p !=0)=true by simp [h1]),if_neg (show ¬oy p≠0 from fun h=>h h1)]
 have hf:p.Funcs.length≤5:=by
  unfold oy at h1
  by_cases a1:fH p.ah=0
  ·rw [if_neg (by simp [a1])] at h1
   by_cases a2:16<p.Vars.length∨5<p.Ins.length∨5<p.Outs.length∨5<p.Funcs.length∨p.ah.Many<(p.Speak.length:Int)
   ·rw [if_pos a2] at h1;exact absurd h1 (by decide)
   ·omega
  ·rw [if_pos a1] at h1;exact absurd h1 a1
 rw [HI hf,Option.bind_some]
 cases h2:(mO p.Main p.Funcs 0).1 with
 | false=>rfl
 | true=>
  have h2':mO p.Main p.Funcs 0=(true,(mO p.Main p.Funcs 0).2):=Prod.ext h2 rfl
  obtain ⟨g1,g2,g3,_⟩:=Bt (by decide) (by decide) h2'
  obtain ⟨x,hx,e1,e2⟩:=M1 hf hp g1
  simp only [if_true,hx,Option.bind_some,Bool.true_eq_false,if_false]
  by_cases h3:pd p 0 p.Funcs=0
  rotate_left
  ·rcases x with y | ⟨a,b,e⟩
   ·have hy:y=_:=e1
    rw [if_pos h3,←hy]
   ·have hy:(0:Int)=_:=e1
    exact absurd hy.symm h3
  obtain ⟨⟨z1,z2,z3⟩,rfl⟩:=e2 h3
  rw [if_neg (show ¬pd p 0 p.Funcs≠0 from fun h=>h h3)]
  simp only [Gt (c:=⟨p,(p.Funcs.length:Int)⟩) (l:=p.Main) (Int.le_refl _) hp g2 g3,Option.bind_some]
end Go.Proofs.YtdpjofmmokaobaaGreat.A
