/- Programs: the program's own check of them answers as plain mathematics says. -/
import Derived.Test.YtkkkkondjclcnaaGreatScopeS
set_option linter.unusedSectionVars false
set_option linter.unusedVariables false
set_option linter.unusedSimpArgs false
set_option linter.constructorNameAsVariable false
namespace Go.Proofs.YtkkkkondjclcnaaGreat.A
open Go
variable [Lp]
theorem acv(n:Nat):∀ (l:List Stmt)(d c:Int),1≤d→d≤7→8 - d≤n→0≤c→c≤50→(cZ n).f_scope_Walk__scope_few_1 l d c=some (lO l d c):=by
 induction n with
 | zero=>intro l d c h1 h2 h3;omega
 | succ n ih=>
  intro l d c h1 h2 h3 h4 h5
  show e6 (cZ n) l d c=_
  unfold e6
  obtain ⟨x,hx,hQ⟩:=oX (B:=fun v=>eU (cZ n) l d v.1 v.2) (fun v=>l.length - v.1)
   (fun v=>v.1≤l.length∧lO l d c=lO (l.drop v.1) d v.2∧0≤v.2∧v.2≤50∧(v.1:Int)≤v.2)
   (fun x=>(match x with
    | .inl y=>(false,y)
    | .inr (_,_,y)=>(true,y))=lO l d c) (by
    rintro ⟨k,c'⟩ ⟨hk,he,g1,g2,g3⟩
    simp only at hk he g1 g2 g3 ⊢
    unfold eU uc
    by_cases hlt:k<l.length
    ·rw [List.drop_eq_getElem_cons hlt,lO,Rk] at he
     rw [if_pos (by omega),List.getElem?_eq_getElem hlt,Option.bind_some,if_pos (Fu (by omega) (by omega))]
     generalize l[k]=s at *
     by_cases hc:c'+1≤50
     ·rw [if_pos hc]
      by_cases hd:d≤6
      ·rw [if_pos ⟨hc,hd⟩] at he
       simp only [Option.bind_some,hd,decide_true,if_true]
       rw [if_pos (Fu (by omega) (by omega)),ih _ _ _ (by omega) (by omega) (by omega) (by omega) (by omega),Option.bind_some]
       cases ht:lO s.Then (d+1) (c'+1) with
       | mk b m=>
        cases b with
        | false=>
         rw [ht] at he
         refine .inl ⟨_,rfl,?_⟩
         rw [he];rfl
        | true=>
         obtain ⟨rfl,q1,q2⟩:=(kr _ _ _ _ (by omega) (by omega)).1 ht
         rw [ht] at he
         simp only [if_true]
         rw [ih _ _ _ (by omega) (by omega) (by omega) (by omega) (by omega),Option.bind_some]
         simp only [andThen,if_true] at he
         cases hel:lO s.Else (d+1) (c'+1+(bK s.Then:Int)) with
         | mk b m=>
          rw [hel] at he
          cases b with
          | false=>exact .inl ⟨_,rfl,by rw [he];rfl⟩
          | true=>
           obtain ⟨rfl,q3,q4⟩:=(kr _ _ _ _ (by omega) (by omega)).1 hel
           simp only [if_true] at he ⊢
           rw [if_pos (lP (by omega))]
           exact .inr ⟨_,rfl,⟨by simp only;omega,he,by simp only;omega,by simp only;omega,by simp only;omega⟩,by simp only;omega⟩
      ·rw [if_neg (by omega)] at he
       simp only [Option.bind_some,hd,decide_false,Bool.false_eq_true,if_false]
       exact .inl ⟨_,rfl,by rw [he];rfl⟩
     ·rw [if_neg hc]
      rw [if_neg (by omega)] at he
      simp only [Option.bind_some,Bool.false_eq_true,if_false]
      exact .inl ⟨_,rfl,by rw [he];rfl⟩
    ·rw [List.drop_eq_nil_of_le (by omega),lO] at he
     rw [if_neg (by omega)]
     exact .inl ⟨_,rfl,he.symm⟩) (0,c) ⟨Nat.zero_le _,rfl,h4,h5,by simpa using h4⟩
  rw [hx,Option.bind_some]
  rcases x with a | ⟨a,b,e⟩
  ·exact congrArg some hQ
  ·exact congrArg some hQ
theorem MW{l:List Stmt}{c:Int}(h1:0≤c)(h2:c≤50):fA l 1 c=some (lO l 1 c):=
 Ba 8 fun n hn=>acv n l 1 c (by decide) (by decide) (by omega) h1 h2
theorem Ji{p:Program}(hf:p.Funcs.length≤5):tm p=some (nC p.Main p.Funcs 0).1:=by
 unfold tm
 obtain ⟨x,hx,hQ⟩:=oX (B:=fun v=>qQ p v.1 v.2) (fun v=>p.Funcs.length - v.1)
  (fun v=>v.1≤p.Funcs.length∧nC p.Main p.Funcs 0=nC p.Main (p.Funcs.drop v.1) v.2∧0≤v.2∧v.2≤50)
  (fun x=>(match x with
   | .inl _=>(nC p.Main p.Funcs 0).1=false
   | .inr (_,_,y)=>nC p.Main p.Funcs 0=lO p.Main 1 y∧0≤y∧y≤50)) (by
   rintro ⟨k,c⟩ ⟨hk,he,g1,g2⟩
   simp only at hk he g1 g2 ⊢
   unfold qQ
   by_cases hlt:k<p.Funcs.length
   ·rw [List.drop_eq_getElem_cons hlt,nC] at he
    rw [if_pos (by omega),List.getElem?_eq_getElem hlt,Option.bind_some,MW g1 g2,Option.bind_some]
    cases hl:lO p.Funcs[k].Body 1 c with
    | mk b m=>
     rw [hl] at he
     cases b with
     | false=>exact .inl ⟨_,rfl,by simp only;rw [he];rfl⟩
     | true=>
      obtain ⟨rfl,q1,q2⟩:=(kr _ _ _ _ g2 (by decide)).1 hl
      simp only [andThen,if_true] at he ⊢
      rw [if_pos (lP (by omega))]
      exact .inr ⟨_,rfl,⟨by simp only;omega,he,by simp only;omega,by simp only;omega⟩,by simp only;omega⟩
   ·rw [List.drop_eq_nil_of_le (by omega),nC] at he
    rw [if_neg (by omega)]
    exact .inl ⟨_,rfl,he,g1,g2⟩) (0,0) ⟨Nat.zero_le _,rfl,by decide,by decide⟩
 rw [hx,Option.bind_some]
 rcases x with a | ⟨a,b,y⟩
 ·simp only at hQ ⊢
  rw [hQ]
 ·obtain ⟨h1,h2,h3⟩:=hQ
  simp only
  rw [MW h2 h3,Option.bind_some,h1]
def Lt{α:Type} : Int⊕α→Int
 | .inl y=>y
 | .inr _=>0
theorem zz{β:Type}(f:β→Int)(x:β)(l:List β):br f (x::l)=if f x≠0 then f x else br f l:=by
 unfold br
 rw [List.findSome?_cons]
 by_cases h:f x=0<;>simp [h]
theorem HE{β ζ:Type}{B:Nat→Option (Nat⊕(Int⊕ζ))}(es:List β)(f:β→Int)(hs:∀ k (h:k<es.length),B k=if f es[k]≠0 then some (.inr (.inl (f es[k]))) else some (.inl (k+1)))(he:∃ z,B es.length=some (.inr (.inr z))) :
  ∃ x,lp B 0=some x∧Lt x=br f es∧(br f es=0→∃ z,x= .inr z):=by
 refine oX (B:=B) (fun k=>es.length - k) (fun k=>k≤es.length∧br f es=br f (es.drop k)) (fun x=>Lt x=br f es∧(br f es=0→∃ z,x= .inr z)) ?_ 0 ⟨Nat.zero_le _,rfl⟩
 rintro k ⟨hk,hf⟩
 by_cases hlt:k<es.length
 ·rw [List.drop_eq_getElem_cons hlt,zz] at hf
  rw [hs k hlt]
  by_cases h0:f es[k]=0
  ·rw [if_neg (by simp [h0])] at hf ⊢
   exact .inr ⟨_,rfl,⟨by omega,hf⟩,by omega⟩
  ·rw [if_pos h0] at hf ⊢
   exact .inl ⟨_,rfl,hf.symm,fun hz=>absurd (hf.symm.trans hz) h0⟩
 ·obtain rfl:k=es.length:=by omega
  rw [List.drop_length] at hf
  obtain ⟨z,hz⟩:=he
  exact .inl ⟨_,hz,hf.symm,fun _=>⟨z,rfl⟩⟩
theorem Ps(k:Int):qR k=some (gu k,gv k,fF k):=by
 unfold qR gu gv fF
 by_cases h4:k=4
 ·subst h4;rfl
 by_cases h2:k=2
 ·subst h2;rfl
 by_cases h22:2≤k
 ·by_cases h3:k=3<;>simp [h4,h2,h22,h3]
 ·have h3:¬k=3:=by omega
  simp [h4,h2,h22,h3]
theorem MX(c:Checker)(k:Int):iv c k=some (fY c.p c.funcs k):=by
 unfold iv fY
 by_cases h2:k=2
 ·simp [h2]
 by_cases h3:k=3<;>simp [h2,h3]
theorem Ci(p:Program)(e:ak):ka e (p.Vars.length:Int)=some (cq p e):=Rp e _
variable [Lp]
theorem ZF(c:Checker)(s:Stmt)(r:Bool×Bool×Bool):gy c s r=some (decide (s.Expr.Kind=0∧s.Expr.N=0∧s.Expr.Args.length=0)):=by
 unfold gy eI
 by_cases h1:s.Expr.Kind=0
 ·by_cases h2:s.Expr.N=0
  ·by_cases h3:s.Expr.Args=[]<;>simp [h1,h2,h3]
  ·simp [h1,h2]
 ·simp [h1]
theorem ZG(c:Checker)(s:Stmt)(x:Bool):gD c s (gu s.Kind,gv s.Kind,fF s.Kind) x=
  some (decide ((gu s.Kind=true∧(s.Var<0∨(c.p.Vars.length:Int)≤s.Var))∨(gv s.Kind=true∧(s.Other<0∨fY c.p c.funcs s.Kind≤s.Other)))):=by
 have j4:∀ u,dw c s (gu s.Kind,gv s.Kind,fF s.Kind) x u=some (u||decide (gv s.Kind=true∧(s.Other<0∨fY c.p c.funcs s.Kind≤s.Other))):=by
  intro u
  unfold dw dv
  simp only [MX,Option.bind_some]
  cases u with
  | true=>simp
  | false=>
   cases gv s.Kind with
   | false=>simp
   | true=>by_cases h:s.Other<0<;>simp [h]
 unfold gD
 simp only [j4,Option.bind_some]
 cases gu s.Kind with
 | false=>simp
 | true=>by_cases h:s.Var<0<;>simp [h]
theorem ZH(c:Checker)(s:Stmt)(x:Bool):gI c s (gu s.Kind,gv s.Kind,fF s.Kind) (decide (s.Expr.Kind=0∧s.Expr.N=0∧s.Expr.Args.length=0)) x=
  some (decide ((gu s.Kind=false∧s.Var≠0)∨(gv s.Kind=false∧s.Other≠0)∨(fF s.Kind=false∧¬(s.Expr.Kind=0∧s.Expr.N=0∧s.Expr.Args.length=0))∨(s.Kind≠2∧0<s.Args.length)∨(s.Kind<7∧0<s.Then.length)∨(s.Kind≠7∧0<s.Else.length))):=by
 generalize hn:decide (s.Expr.Kind=0∧s.Expr.N=0∧s.Expr.Args.length=0)=no
 have hn':(s.Expr.Kind=0∧s.Expr.N=0∧s.Expr.Args.length=0)↔no=true:=by rw [←hn];simp
 rw [decide_eq_decide.2 (by rw [hn'])]
 have j10:∀ a b d u,dh c s (gu s.Kind,gv s.Kind,fF s.Kind) no x a b d u=some (u||decide (s.Kind≠7∧0<s.Else.length)):=by
  intro a b d u
  unfold dh ej
  cases u with
  | true=>simp
  | false=>by_cases h:s.Kind=7<;>simp [h]
 have j9:∀ a b u,dx c s (gu s.Kind,gv s.Kind,fF s.Kind) no x a b u=some (u||(decide (s.Kind<7∧0<s.Then.length)||decide (s.Kind≠7∧0<s.Else.length))):=by
  intro a b u
  unfold dx
  simp only [j10,Option.bind_some]
  cases u with
  | true=>simp
  | false=>
   by_cases h:7≤s.Kind
   ·have:¬s.Kind<7:=by omega
    simp [h,this]
   ·have:s.Kind<7:=by omega
    simp [h,this]
 have j8:∀ a u,dy c s (gu s.Kind,gv s.Kind,fF s.Kind) no x a u=some (u||(decide (s.Kind≠2∧0<s.Args.length)||(decide (s.Kind<7∧0<s.Then.length)||decide (s.Kind≠7∧0<s.Else.length)))):=by
  intro a u
  unfold dy
  simp only [j9,Option.bind_some]
  cases u with
  | true=>simp
  | false=>by_cases h:s.Kind=2<;>simp [h]
 have j7:∀ u,cn c s (gu s.Kind,gv s.Kind,fF s.Kind) no x u=some (u||(decide (fF s.Kind=false∧¬no=true)||(decide (s.Kind≠2∧0<s.Args.length)||(decide (s.Kind<7∧0<s.Then.length)||decide (s.Kind≠7∧0<s.Else.length))))):=by
  intro u
  unfold cn
  simp only [j8,Option.bind_some]
  cases u with
  | true=>simp
  | false=>cases fF s.Kind<;>cases no<;>simp
 unfold gI
 simp only [j7,Option.bind_some]
 have e:decide ((gu s.Kind=false∧s.Var≠0)∨(gv s.Kind=false∧s.Other≠0)∨(fF s.Kind=false∧¬no=true)∨(s.Kind≠2∧0<s.Args.length)∨(s.Kind<7∧0<s.Then.length)∨(s.Kind≠7∧0<s.Else.length))=
   (decide (gu s.Kind=false∧s.Var≠0)||(decide (gv s.Kind=false∧s.Other≠0)||(decide (fF s.Kind=false∧¬no=true)||(decide (s.Kind≠2∧0<s.Args.length)||(decide (s.Kind<7∧0<s.Then.length)||decide (s.Kind≠7∧0<s.Else.length)))))):=by
  simp only [Bool.decide_or]
 rw [e]
 generalize (decide (fF s.Kind=false∧¬no=true)||(decide (s.Kind≠2∧0<s.Args.length)||(decide (s.Kind<7∧0<s.Then.length)||decide (s.Kind≠7∧0<s.Else.length))))=w
 cases gu s.Kind with
 | true=>
  cases gv s.Kind with
  | true=>simp
  | false=>by_cases h:s.Other=0<;>simp [h]
 | false=>
  by_cases hv:s.Var=0
  ·cases gv s.Kind with
   | true=>simp [hv]
   | false=>by_cases h:s.Other=0<;>simp [h,hv]
  ·simp [hv]
theorem Rq(c:Checker)(s:Stmt)(hl:s.Args.length≤9223372036854775807):eK c s=some (if br (cq c.p) s.Args≠0 then .inl (br (cq c.p) s.Args) else .inr ()):=by
 unfold eK
 obtain ⟨x,hx,h1,h2⟩:=HE (B:=fun v=>eZ c s v) s.Args (cq c.p) (fun k hk=>by
  unfold eZ
  rw [if_pos (by omega),List.getElem?_eq_getElem hk,Option.bind_some,Ci,Option.bind_some]
  by_cases h0:cq c.p s.Args[k]=0
  ·rw [if_neg (by simp [h0]),if_pos (lP (by omega)),if_neg (by simp [h0])]
  ·rw [if_pos (by simp [h0]),if_pos h0]) ⟨_,by unfold eZ;rw [if_neg (by omega)]⟩
 rw [hx,Option.bind_some]
 rcases x with y | ⟨a,b⟩
 ·have hy:y=br (cq c.p) s.Args:=h1
  by_cases h0:br (cq c.p) s.Args=0
  ·obtain ⟨z,hz⟩:=h2 h0;cases hz
  ·rw [if_pos h0,hy]
 ·have hy:(0:Int)=br (cq c.p) s.Args:=h1
  rw [if_neg (by simp [←hy])]
theorem QN(c:Checker)(s:Stmt)(a b:Bool)(hl:s.Args.length≤9223372036854775807) :
  ((eM c s (a,b,fF s.Kind)).bind fun (x19:(Int⊕Unit))=>match x19 with
   | .inl y=>some y
   | .inr ()=>some (0:Int))=some (if fF s.Kind=true∧cq c.p s.Expr≠0 then cq c.p s.Expr else br (cq c.p) s.Args):=by
 unfold eM
 rw [Rq c s hl,Ci]
 simp only [Option.bind_some]
 by_cases hf:br (cq c.p) s.Args=0
 ·cases fF s.Kind with
  | false=>simp [hf]
  | true=>by_cases h0:cq c.p s.Expr=0<;>simp [h0,hf]
 ·cases fF s.Kind with
  | false=>simp [hf]
  | true=>by_cases h0:cq c.p s.Expr=0<;>simp [h0,hf]
theorem Rr{c:Checker}{s:Stmt}(h0:c.funcs≤c.p.Funcs.length)(hp:∀ f∈c.p.Funcs,f.Params.length≤9223372036854775807):jA c s=some (bg c.p c.funcs s):=by
 unfold jA bg
 by_cases k1:s.Kind<1
 ·rw [if_pos k1,if_pos (.inl k1)]
 rw [if_neg k1]
 by_cases k8:8<s.Kind
 ·rw [if_pos k8,if_pos (.inr k8)]
 rw [if_neg k8,if_neg (by omega),Ps,Option.bind_some,ZF,Option.bind_some,ZG,Option.bind_some]
 by_cases h5:(gu s.Kind=true∧(s.Var<0∨(c.p.Vars.length:Int)≤s.Var))∨(gv s.Kind=true∧(s.Other<0∨fY c.p c.funcs s.Kind≤s.Other))
 ·rw [if_pos (decide_eq_true h5),if_pos h5]
 rw [if_neg (by simpa using h5),if_neg h5,ZH,Option.bind_some]
 by_cases h1:(gu s.Kind=false∧s.Var≠0)∨(gv s.Kind=false∧s.Other≠0)∨(fF s.Kind=false∧¬(s.Expr.Kind=0∧s.Expr.N=0∧s.Expr.Args.length=0))∨(s.Kind≠2∧0<s.Args.length)∨(s.Kind<7∧0<s.Then.length)∨(s.Kind≠7∧0<s.Else.length)
 ·rw [if_pos (decide_eq_true h1),if_pos h1]
 rw [if_neg (by rw [decide_eq_true_iff];exact h1),if_neg h1]
 by_cases k2:s.Kind=2
 ·have ho:0≤s.Other∧s.Other<c.funcs:=by
   have:gv s.Kind=true:=by rw [k2];rfl
   have e:fY c.p c.funcs s.Kind=c.funcs:=by rw [k2];rfl
   rw [e] at h5
   have h6:¬(s.Other<0∨c.funcs≤s.Other):=fun h=>h5 (.inr ⟨this,h⟩)
   omega
  have hi:s.Other.toNat<c.p.Funcs.length:=by omega
  have hpo:tN c.p s.Other=(c.p.Funcs[s.Other.toNat]).Params.length:=by unfold tN;rw [List.getElem?_eq_getElem hi];rfl
  rw [if_pos (by simp [k2]),eb ho.1,Option.bind_some,List.getElem?_eq_getElem hi,Option.bind_some,hpo]
  have hpl:=hp _ (List.getElem_mem hi)
  generalize (c.p.Funcs[s.Other.toNat]).Params.length=n at *
  by_cases hn:s.Args.length=n
  ·rw [if_neg (by simp [hn]),if_neg (fun h=>h.2 hn)]
   exact QN c s _ _ (by omega)
  ·rw [if_pos (by simp;omega),if_pos ⟨k2,hn⟩]
 ·rw [if_neg (by simp [k2]),if_neg (fun h=>k2 h.1)]
  have ha:¬0<s.Args.length:=fun h=>h1 (.inr (.inr (.inr (.inl ⟨k2,h⟩))))
  exact QN c s _ _ (by omega)
theorem ZI{c:Checker}(h0:c.funcs≤c.p.Funcs.length)(hp:∀ f∈c.p.Funcs,f.Params.length≤9223372036854775807)(n:Nat):∀ (l:List Stmt)(d:Int),lN l+1≤n→bK l≤50→1≤d→d+lN l≤100→
  (bQ n).f_scope_Walk__scope_checker_stmts_1 l d () c 0=some (cM (bg c.p c.funcs) l==0,(),cM (bg c.p c.funcs) l):=by
 induction n with
 | zero=>intro l d h;omega
 | succ n ih=>
  intro l d h1 h2 h3 h4
  show cU (bQ n) l d () c 0=_
  unfold cU
  have hlen:=kq l
  obtain ⟨x,hx,hQ⟩:=oX (B:=fun v=>cL (bQ n) l d c v.1 v.2) (fun v=>l.length - v.1)
   (fun v=>v.1≤l.length∧cM (bg c.p c.funcs) l=cM (bg c.p c.funcs) (l.drop v.1)∧v.2=0)
   (fun x=>(match x with
    | .inl y=>y≠0∧y=cM (bg c.p c.funcs) l
    | .inr (_,_,y)=>y=0∧cM (bg c.p c.funcs) l=0)) (by
    rintro ⟨k,e⟩ ⟨hk,he,hz⟩
    simp only at hk he hz ⊢
    subst hz
    unfold cL kL
    by_cases hlt:k<l.length
    ·rw [List.drop_eq_getElem_cons hlt,cM,J4] at he
     have hm:=List.getElem_mem hlt
     have g1:=Cf hm
     have g2:=Cg hm
     rw [if_pos (by omega),List.getElem?_eq_getElem hlt,Option.bind_some]
     generalize l[k]=s at *
     have g3:=xW s
     have g4:=MU s
     rw [Rr h0 hp,Option.bind_some,Option.bind_some]
     by_cases e1:bg c.p c.funcs s=0
     ·simp only [e1,beq_self_eq_true,if_true,ne_eq,not_true_eq_false,if_false] at he ⊢
      rw [if_pos (Fu (by omega) (by omega)),ih _ _ (by omega) (by omega) (by omega) (by omega),Option.bind_some]
      by_cases e2:cM (bg c.p c.funcs) s.Then=0
      ·simp only [e2,beq_self_eq_true,if_true,not_true_eq_false,if_false] at he ⊢
       rw [ih _ _ (by omega) (by omega) (by omega) (by omega),Option.bind_some]
       by_cases e3:cM (bg c.p c.funcs) s.Else=0
       ·simp only [e3,beq_self_eq_true,if_true,not_true_eq_false,if_false] at he ⊢
        rw [if_pos (lP (by omega))]
        exact .inr ⟨_,rfl,⟨by simp only;omega,he,rfl⟩,by simp only;omega⟩
       ·have:(cM (bg c.p c.funcs) s.Else==0)=false:=by simp [e3]
        simp only [e3,not_false_eq_true,if_true] at he
        simp only [this,Bool.false_eq_true,if_false]
        exact .inl ⟨_,rfl,e3,he.symm⟩
      ·have:(cM (bg c.p c.funcs) s.Then==0)=false:=by simp [e2]
       simp only [e2,not_false_eq_true,if_true] at he
       simp only [this,Bool.false_eq_true,if_false]
       exact .inl ⟨_,rfl,e2,he.symm⟩
     ·have:(bg c.p c.funcs s==0)=false:=by simp [e1]
      simp only [e1,ne_eq,not_false_eq_true,if_true] at he
      simp only [this,Bool.false_eq_true,if_false]
      exact .inl ⟨_,rfl,e1,he.symm⟩
    ·rw [List.drop_eq_nil_of_le (by omega),cM] at he
     rw [if_neg (by omega)]
     exact .inl ⟨_,rfl,rfl,he⟩) (0,0) ⟨Nat.zero_le _,rfl,rfl⟩
  rw [hx,Option.bind_some]
  rcases x with y | ⟨a,b,y⟩
  ·obtain ⟨q1,q2⟩:=hQ
   have:(cM (bg c.p c.funcs) l==0)=false:=by rw [←q2];simp [q1]
   simp only [this]
   rw [q2]
  ·obtain ⟨q1,q2⟩:=hQ
   simp only [q2,q1];rfl
theorem HF{c:Checker}{l:List Stmt}(h0:c.funcs≤c.p.Funcs.length)(hp:∀ f∈c.p.Funcs,f.Params.length≤9223372036854775807)(hc:bK l≤50)(hd:lN l≤6):ft c l=some (cM (bg c.p c.funcs) l):=by
 unfold ft
 have:eD l 1 () c 0=some (cM (bg c.p c.funcs) l==0,(),cM (bg c.p c.funcs) l):=
  Ba 8 fun n hn=>ZI h0 hp n l 1 (by omega) hc (by decide) (by omega)
 rw [this];rfl
theorem Jj{l:List Int}{a:Int}(hl:l.length≤9223372036854775807):iU l a=some (decide (a∈l)):=by
 unfold iU ou
 obtain ⟨x,hx,hQ⟩:=oX (B:=fun v=>jx l a v) (fun k=>l.length - k) (fun k=>k≤l.length∧¬a∈l.take k)
  (fun x=>match x with
   | .inl _=>a∈l
   | .inr _=>¬a∈l) (by
   rintro k ⟨hk,hn⟩
   unfold jx
   by_cases hlt:k<l.length
   ·rw [if_pos (by omega),List.getElem?_eq_getElem hlt,Option.bind_some]
    by_cases h:a=l[k]
    ·rw [if_pos (by simp [h])]
     exact .inl ⟨_,rfl,by rw [h];exact List.getElem_mem hlt⟩
    ·rw [if_neg (by simp [h]),if_pos (lP (by omega))]
     refine .inr ⟨_,rfl,⟨by omega,fun hm=>?_⟩,by omega⟩
     rw [List.take_add_one,List.getElem?_eq_getElem hlt] at hm
     rcases List.mem_append.1 hm with hm | hm
     ·exact hn hm
     ·exact h (by simpa using hm)
   ·rw [if_neg (by omega)]
    rw [List.take_of_length_le (by omega)] at hn
    exact .inl ⟨_,rfl,hn⟩) 0 ⟨Nat.zero_le _,by simp⟩
 rw [hx]
 simp only [Option.bind_some]
 rcases x with y | ⟨y,z⟩
 ·have h:a∈l:=hQ
  simp [h]
 ·have h:¬a∈l:=hQ
  simp [h]
theorem ZJ{c:Checker}{f:Func}(h0:c.funcs≤c.p.Funcs.length)(hp:∀ f∈c.p.Funcs,f.Params.length≤9223372036854775807)(hc:bK f.Body≤50)(hd:lN f.Body≤6):lh c f=some (wR c.p c.funcs f):=by
 unfold lh wR
 by_cases h4:4<f.Params.length
 ·rw [if_pos (by omega),if_pos h4]
 rw [if_neg (by omega),if_neg h4]
 obtain ⟨x,hx,hQ⟩:=oX (B:=fun v=>jB c f v) (fun k=>f.Params.length - k)
  (fun k=>k≤f.Params.length∧sN c.p.Vars.length [] f.Params=sN c.p.Vars.length (f.Params.take k) (f.Params.drop k))
  (fun x=>(match x with
   | .inl _=>(5:Int)
   | .inr (.inl _)=>6
   | .inr (.inr _)=>0)=sN c.p.Vars.length [] f.Params) (by
   rintro k ⟨hk,he⟩
   unfold jB
   by_cases hlt:k<f.Params.length
   ·rw [List.drop_eq_getElem_cons hlt,sN] at he
    rw [if_pos (by omega),List.getElem?_eq_getElem hlt,Option.bind_some]
    have htk:f.Params.take k++[f.Params[k]]=f.Params.take (k+1):=by rw [List.take_add_one,List.getElem?_eq_getElem hlt];rfl
    rw [htk] at he
    by_cases g1:f.Params[k]<0
    ·rw [if_pos g1]
     rw [if_pos (.inl g1)] at he
     exact .inl ⟨_,rfl,he.symm⟩
    rw [if_neg g1]
    by_cases g2:(c.p.Vars.length:Int)≤f.Params[k]
    ·rw [if_pos g2]
     rw [if_pos (.inr g2)] at he
     exact .inl ⟨_,rfl,he.symm⟩
    rw [if_neg g2,if_pos (by omega),List.drop_zero,Jj (by rw [List.length_take];omega),Option.bind_some]
    rw [if_neg (by omega)] at he
    by_cases g3:f.Params[k]∈f.Params.take k
    ·rw [if_pos (decide_eq_true g3)]
     rw [if_pos g3] at he
     exact .inl ⟨_,rfl,he.symm⟩
    ·rw [if_neg (by simpa using g3),if_pos (lP (by omega))]
     rw [if_neg g3] at he
     exact .inr ⟨_,rfl,⟨by omega,he⟩,by omega⟩
   ·rw [List.drop_eq_nil_of_le (by omega),sN] at he
    rw [if_neg (by omega)]
    exact .inl ⟨_,rfl,he.symm⟩) 0 ⟨Nat.zero_le _,by simp⟩
 rw [hx,Option.bind_some]
 rcases x with _ | _ | ⟨a,b⟩
 ·have h:(5:Int)=sN c.p.Vars.length [] f.Params:=hQ
  rw [←h];rfl
 ·have h:(6:Int)=sN c.p.Vars.length [] f.Params:=hQ
  rw [←h];rfl
 ·have h:(0:Int)=sN c.p.Vars.length [] f.Params:=hQ
  rw [←h,if_neg (by decide)]
  simp only [HF h0 hp hc hd,Option.bind_some]
  by_cases he:cM (bg c.p c.funcs) f.Body=0
  ·rw [if_neg (by simp [he]),if_neg (by simp [he]),Ci];rfl
  ·rw [if_pos (by simp [he]),if_pos he]
theorem MY(a b:List Label)(ha:a.length≤5)(hb:b.length≤5):fx [a,b]=some (a++b):=by
 unfold fx
 have z1:IntKind.i64.wrap 1=1:=by decide
 have z2:IntKind.i64.wrap 2=2:=by decide
 have w1:IntKind.i64.wrap (0+(a.length:Int))=0+(a.length:Int):=Fu (by omega) (by omega)
 have w2:IntKind.i64.wrap (0+(a.length:Int)+(b.length:Int))=0+(a.length:Int)+(b.length:Int):=Fu (by omega) (by omega)
 have n1:¬(0+(a.length:Int))<0:=by omega
 have n2:¬(0+(a.length:Int)+(b.length:Int))<0:=by omega
 have l0:lp (fun v=>cI [a,b] v.1 v.2) (0,0)=some (0+(a.length:Int)+(b.length:Int),2,false):=by
  rw [ma (w:=(0+(a.length:Int),1)) (by simp only [cI];simp only [List.length_cons,List.length_nil,List.getElem?_cons_zero,Option.bind_some,w1,n1,if_false,if_true];simp [z1]),
   ma (w:=(0+(a.length:Int)+(b.length:Int),2)) (by simp only [cI];simp only [List.length_cons,List.length_nil,List.getElem?_cons_succ,List.getElem?_cons_zero,Option.bind_some,w2,n2,if_false,if_true];simp [z2])]
  exact ji (by simp [cI])
 have l1:lp (fun v=>cJ [a,b] v.1 v.2) (([]:List Label),0)=some (a++b,2,false):=by
  rw [ma (w:=(a,1)) (by simp [cJ,z1];omega),
   ma (w:=(a++b,2)) (by simp [cJ,z2];omega)]
  exact ji (by simp [cJ])
 rw [l0,Option.bind_some,if_pos (by simp only;omega),l1];rfl
variable [Lp]
theorem ZK(p:Program):nM p=some (decide (16<p.Vars.length∨5<p.Ins.length∨5<p.Outs.length∨5<p.Funcs.length∨p.aa.Many<(p.Speak.length:Int))):=by
 unfold nM iT
 by_cases h1:16<p.Vars.length
 ·have:(16:Int)<(p.Vars.length:Int):=by omega
  simp [h1,this]
 have h1':¬(16:Int)<(p.Vars.length:Int):=by omega
 by_cases h2:5<p.Ins.length
 ·have:(5:Int)<(p.Ins.length:Int):=by omega
  simp [h1',h2,this]
 have h2':¬(5:Int)<(p.Ins.length:Int):=by omega
 by_cases h3:5<p.Outs.length
 ·have:(5:Int)<(p.Outs.length:Int):=by omega
  simp [h1',h2',h3,this]
 have h3':¬(5:Int)<(p.Outs.length:Int):=by omega
 by_cases h4:5<p.Funcs.length
 ·have:(5:Int)<(p.Funcs.length:Int):=by omega
  simp [h1',h2',h3',h4,this]
 have h4':¬(5:Int)<(p.Funcs.length:Int):=by omega
 simp [h1,h1',h2,h2',h3,h3',h4,h4']
theorem Pt{m:Int}{l:Label}(h:fB m l=0):l.Read.length≤4∧l.Write.length≤4:=⟨(sL (sM h).1).1,(sL (sM h).2).1⟩
theorem Rs(p:Program):rU p=some (lr p):=by
 unfold rU lr
 rw [J2,Option.bind_some]
 by_cases a1:eO p.aa=0
 rotate_left
 ·rw [if_pos (show (eO p.aa !=0)=true by simp [a1]),if_pos a1]
 rw [if_neg (show ¬(eO p.aa !=0)=true by simp [a1]),if_neg (show ¬eO p.aa≠0 from fun h=>h a1),ZK,Option.bind_some]
 obtain ⟨c1,c2,c3,c4⟩:=rB a1
 by_cases a4:16<p.Vars.length∨5<p.Ins.length∨5<p.Outs.length∨5<p.Funcs.length∨p.aa.Many<(p.Speak.length:Int)
 ·rw [if_pos (decide_eq_true a4),if_pos a4]
 rw [if_neg (by simpa using a4),if_neg a4]
 have hs:ez p.Speak p=some (p.Speak.any (fun n=>!ct p.aa.Many n)):=rk (fun y=>oY y p) _ p.Speak (by omega) (fun y _=>by simp [oY,Hy])
 rw [hs,Option.bind_some]
 cases a5:p.Speak.any (fun n=>!ct p.aa.Many n) with
 | true=>rfl
 | false=>
  simp only [Bool.false_eq_true,if_false]
  rw [MY _ _ (by omega) (by omega),Option.bind_some]
  obtain ⟨x,hx,e1,e2⟩:=HE (B:=fun v=>me p (p.Ins++p.Outs) v) (p.Ins++p.Outs) (fB p.aa.Many) (fun k hk=>by
   unfold me
   rw [if_pos (by omega),List.getElem?_eq_getElem hk,Option.bind_some,MT,Option.bind_some]
   rw [List.length_append] at hk
   by_cases h0:fB p.aa.Many (p.Ins++p.Outs)[k]=0
   ·rw [if_neg (by simp [h0]),if_pos (lP (by omega)),if_neg (by simp [h0])]
   ·rw [if_pos (by simp [h0]),if_pos h0]) ⟨_,by unfold me;rw [if_neg (by omega)]⟩
  rw [hx,Option.bind_some]
  by_cases h6:br (fB p.aa.Many) (p.Ins++p.Outs)=0
  rotate_left
  ·rcases x with y | ⟨a,b⟩
   ·have hy:y=_:=e1
    rw [if_pos h6,←hy]
   ·have hy:(0:Int)=_:=e1
    exact absurd hy.symm h6
  obtain ⟨z,rfl⟩:=e2 h6
  rw [if_neg (show ¬br (fB p.aa.Many) (p.Ins++p.Outs)≠0 from fun h=>h h6)]
  obtain ⟨z1,z2⟩:=z
  simp only
  obtain ⟨x,hx,e3,e4⟩:=HE (B:=fun v=>mg p v) p.Vars (fun v:Var=>fB p.aa.Many v.Label) (fun k hk=>by
   unfold mg
   rw [if_pos (by omega),List.getElem?_eq_getElem hk,Option.bind_some,MT,Option.bind_some]
   by_cases h0:fB p.aa.Many p.Vars[k].Label=0
   ·rw [if_neg (by simp [h0]),if_pos (lP (by omega)),if_neg (by simp [h0])]
   ·rw [if_pos (by simp [h0]),if_pos h0]) ⟨_,by unfold mg;rw [if_neg (by omega)]⟩
  rw [hx,Option.bind_some]
  by_cases h7:br (fun v:Var=>fB p.aa.Many v.Label) p.Vars=0
  rotate_left
  ·rcases x with y | ⟨a,b⟩
   ·have hy:y=_:=e3
    rw [if_pos h7,←hy]
   ·have hy:(0:Int)=_:=e3
    exact absurd hy.symm h7
  obtain ⟨z,rfl⟩:=e4 h7
  rw [if_neg (show ¬br (fun v:Var=>fB p.aa.Many v.Label) p.Vars≠0 from fun h=>h h7)]
  obtain ⟨z1,z2⟩:=z
  simp only
  have hv:eA p.Vars=some (p.Vars.any (fun v=>!v.Known&&decide (0<v.Label.Read.length+v.Label.Write.length))):=rk pd _ p.Vars (by omega) (fun y hy=>by
   have hl:=Pt (kU h7 y hy)
   unfold pd
   rw [if_pos (c:=IntKind.i64.wrap _=_) (Fu (by omega) (by omega))]
   cases y.Known with
   | true=>simp
   | false=>simp;omega)
  rw [hv,Option.bind_some]
  cases p.Vars.any (fun v=>!v.Known&&decide (0<v.Label.Read.length+v.Label.Write.length))<;>rfl
theorem Pu{p:Program}(hf:p.Funcs.length≤5)(hp:∀ f∈p.Funcs,f.Params.length≤9223372036854775807)(hc:∀ f∈p.Funcs,bK f.Body≤50∧lN f.Body≤6) :
  ∃ x,lp (fun v=>lj p v.1 v.2) (0,0)=some x∧Lt x=mx p 0 p.Funcs∧(mx p 0 p.Funcs=0→∃ z,x= .inr z):=by
 refine oX (B:=fun v=>lj p v.1 v.2) (fun v=>p.Funcs.length - v.1) (fun v=>v.1≤p.Funcs.length∧mx p 0 p.Funcs=mx p v.1 (p.Funcs.drop v.1)) (fun x=>Lt x=mx p 0 p.Funcs∧(mx p 0 p.Funcs=0→∃ z,x= .inr z)) ?_ (0,0) ⟨Nat.zero_le _,rfl⟩
 rintro ⟨k,m⟩ ⟨hk,he⟩
 simp only at hk he ⊢
 unfold lj
 by_cases hlt:k<p.Funcs.length
 ·rw [List.drop_eq_getElem_cons hlt,mx] at he
  have hm:=hc _ (List.getElem_mem hlt)
  rw [if_pos (by omega),List.getElem?_eq_getElem hlt,Option.bind_some,ZJ (c:=⟨p,(k:Int)⟩) (by simp only;omega) hp hm.1 hm.2,Option.bind_some]
  simp only
  by_cases h0:wR p k p.Funcs[k]=0
  ·rw [if_neg (by simp [h0])] at he
   rw [if_neg (by simp [h0]),if_pos (lP (by omega))]
   exact .inr ⟨_,rfl,⟨by simp only;omega,he⟩,by simp only;omega⟩
  ·rw [if_pos h0] at he
   rw [if_pos (by simp [h0])]
   exact .inl ⟨_,rfl,he.symm,fun hz=>absurd (he.symm.trans hz) h0⟩
 ·rw [List.drop_eq_nil_of_le (by omega),mx] at he
  rw [if_neg (by omega)]
  exact .inl ⟨_,rfl,he.symm,fun _=>⟨_,rfl⟩⟩
theorem HG{p:Program}(hp:∀ f∈p.Funcs,f.Params.length≤9223372036854775807):kS p=some (oI p):=by
 unfold kS oI
 rw [Rs,Option.bind_some]
 by_cases h1:lr p=0
 rotate_left
 ·rw [if_pos (show (lr p !=0)=true by simp [h1]),if_pos h1]
 rw [if_neg (show ¬(lr p !=0)=true by simp [h1]),if_neg (show ¬lr p≠0 from fun h=>h h1)]
 have hf:p.Funcs.length≤5:=by
  unfold lr at h1
  by_cases a1:eO p.aa=0
  ·rw [if_neg (by simp [a1])] at h1
   by_cases a2:16<p.Vars.length∨5<p.Ins.length∨5<p.Outs.length∨5<p.Funcs.length∨p.aa.Many<(p.Speak.length:Int)
   ·rw [if_pos a2] at h1;exact absurd h1 (by decide)
   ·omega
  ·rw [if_pos a1] at h1;exact absurd h1 a1
 rw [Ji hf,Option.bind_some]
 cases h2:(nC p.Main p.Funcs 0).1 with
 | false=>rfl
 | true=>
  have h2':nC p.Main p.Funcs 0=(true,(nC p.Main p.Funcs 0).2):=Prod.ext h2 rfl
  obtain ⟨g1,g2,g3,_⟩:=Ch (by decide) (by decide) h2'
  obtain ⟨x,hx,e1,e2⟩:=Pu hf hp g1
  simp only [if_true,hx,Option.bind_some,Bool.true_eq_false,if_false]
  by_cases h3:mx p 0 p.Funcs=0
  rotate_left
  ·rcases x with y | ⟨a,b,e⟩
   ·have hy:y=_:=e1
    rw [if_pos h3,←hy]
   ·have hy:(0:Int)=_:=e1
    exact absurd hy.symm h3
  obtain ⟨⟨z1,z2,z3⟩,rfl⟩:=e2 h3
  rw [if_neg (show ¬mx p 0 p.Funcs≠0 from fun h=>h h3)]
  simp only [HF (c:=⟨p,(p.Funcs.length:Int)⟩) (l:=p.Main) (Int.le_refl _) hp g2 g3,Option.bind_some]
end Go.Proofs.YtkkkkondjclcnaaGreat.A
