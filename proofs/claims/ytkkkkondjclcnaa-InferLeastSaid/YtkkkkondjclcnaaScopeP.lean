/- Programs: the program's own check of them answers as plain mathematics says. -/
import Derived.Test.YtkkkkondjclcnaaScopeS
import Derived.Test.YtkkkkondjclcnaaEvalP
set_option linter.unusedSectionVars false
set_option linter.unusedVariables false
set_option linter.unusedSimpArgs false
set_option linter.constructorNameAsVariable false
namespace Go.Proofs.Ytkkkkondjclcnaa.A
open Go
variable [Lp]
theorem Ti(n:Nat):∀ (l:List Stmt)(d c:Int),1≤d→d≤7→8 - d≤n→0≤c→c≤50→(cz n).f_scope_Walk__scope_few_1 l d c=some (iY l d c):=by
 induction n with
 | zero=>intro l d c h1 h2 h3;omega
 | succ n ih=>
  intro l d c h1 h2 h3 h4 h5
  show dU (cz n) l d c=_
  unfold dU
  obtain ⟨x,hx,hQ⟩:=oh (B:=fun v=>dP (cz n) l d v.1 v.2) (fun v=>l.length - v.1)
   (fun v=>v.1≤l.length∧iY l d c=iY (l.drop v.1) d v.2∧0≤v.2∧v.2≤50∧(v.1:Int)≤v.2)
   (fun x=>(match x with
    | .inl y=>(false,y)
    | .inr (_,_,y)=>(true,y))=iY l d c) (by
    rintro ⟨k,c'⟩ ⟨hk,he,g1,g2,g3⟩
    simp only at hk he g1 g2 g3 ⊢
    unfold dP pS
    by_cases hlt:k<l.length
    ·rw [List.drop_eq_getElem_cons hlt,iY,J5] at he
     rw [if_pos (by omega),List.getElem?_eq_getElem hlt,Option.bind_some,if_pos (A0 (by omega) (by omega))]
     generalize l[k]=s at *
     by_cases hc:c'+1≤50
     ·rw [if_pos hc]
      by_cases hd:d≤6
      ·rw [if_pos ⟨hc,hd⟩] at he
       simp only [Option.bind_some,hd,decide_true,if_true]
       rw [if_pos (A0 (by omega) (by omega)),ih _ _ _ (by omega) (by omega) (by omega) (by omega) (by omega),Option.bind_some]
       cases ht:iY s.Then (d+1) (c'+1) with
       | mk b m=>
        cases b with
        | false=>
         rw [ht] at he
         refine .inl ⟨_,rfl,?_⟩
         rw [he];rfl
        | true=>
         obtain ⟨rfl,q1,q2⟩:=(hZ _ _ _ _ (by omega) (by omega)).1 ht
         rw [ht] at he
         simp only [if_true]
         rw [ih _ _ _ (by omega) (by omega) (by omega) (by omega) (by omega),Option.bind_some]
         simp only [andThen,if_true] at he
         cases hel:iY s.Else (d+1) (c'+1+(bU s.Then:Int)) with
         | mk b m=>
          rw [hel] at he
          cases b with
          | false=>exact .inl ⟨_,rfl,by rw [he];rfl⟩
          | true=>
           obtain ⟨rfl,q3,q4⟩:=(hZ _ _ _ _ (by omega) (by omega)).1 hel
           simp only [if_true] at he ⊢
           rw [if_pos (pZ (by omega))]
           exact .inr ⟨_,rfl,⟨by simp only;omega,he,by simp only;omega,by simp only;omega,by simp only;omega⟩,by simp only;omega⟩
      ·rw [if_neg (by omega)] at he
       simp only [Option.bind_some,hd,decide_false,Bool.false_eq_true,if_false]
       exact .inl ⟨_,rfl,by rw [he];rfl⟩
     ·rw [if_neg hc]
      rw [if_neg (by omega)] at he
      simp only [Option.bind_some,Bool.false_eq_true,if_false]
      exact .inl ⟨_,rfl,by rw [he];rfl⟩
    ·rw [List.drop_eq_nil_of_le (by omega),iY] at he
     rw [if_neg (by omega)]
     exact .inl ⟨_,rfl,he.symm⟩) (0,c) ⟨Nat.zero_le _,rfl,h4,h5,by simpa using h4⟩
  rw [hx,Option.bind_some]
  rcases x with a | ⟨a,b,e⟩
  ·exact congrArg some hQ
  ·exact congrArg some hQ
theorem Gs{l:List Stmt}{c:Int}(h1:0≤c)(h2:c≤50):eh l 1 c=some (iY l 1 c):=
 BZ 8 fun n hn=>Ti n l 1 c (by decide) (by decide) (by omega) h1 h2
theorem DW{p:Program}(hf:p.Funcs.length≤5):pd p=some (ko p.Main p.Funcs 0).1:=by
 unfold pd
 obtain ⟨x,hx,hQ⟩:=oh (B:=fun v=>nr p v.1 v.2) (fun v=>p.Funcs.length - v.1)
  (fun v=>v.1≤p.Funcs.length∧ko p.Main p.Funcs 0=ko p.Main (p.Funcs.drop v.1) v.2∧0≤v.2∧v.2≤50)
  (fun x=>(match x with
   | .inl _=>(ko p.Main p.Funcs 0).1=false
   | .inr (_,_,y)=>ko p.Main p.Funcs 0=iY p.Main 1 y∧0≤y∧y≤50)) (by
   rintro ⟨k,c⟩ ⟨hk,he,g1,g2⟩
   simp only at hk he g1 g2 ⊢
   unfold nr
   by_cases hlt:k<p.Funcs.length
   ·rw [List.drop_eq_getElem_cons hlt,ko] at he
    rw [if_pos (by omega),List.getElem?_eq_getElem hlt,Option.bind_some,Gs g1 g2,Option.bind_some]
    cases hl:iY p.Funcs[k].Body 1 c with
    | mk b m=>
     rw [hl] at he
     cases b with
     | false=>exact .inl ⟨_,rfl,by simp only;rw [he];rfl⟩
     | true=>
      obtain ⟨rfl,q1,q2⟩:=(hZ _ _ _ _ g2 (by decide)).1 hl
      simp only [andThen,if_true] at he ⊢
      rw [if_pos (pZ (by omega))]
      exact .inr ⟨_,rfl,⟨by simp only;omega,he,by simp only;omega,by simp only;omega⟩,by simp only;omega⟩
   ·rw [List.drop_eq_nil_of_le (by omega),ko] at he
    rw [if_neg (by omega)]
    exact .inl ⟨_,rfl,he,g1,g2⟩) (0,0) ⟨Nat.zero_le _,rfl,by decide,by decide⟩
 rw [hx,Option.bind_some]
 rcases x with a | ⟨a,b,y⟩
 ·simp only at hQ ⊢
  rw [hQ]
 ·obtain ⟨h1,h2,h3⟩:=hQ
  simp only
  rw [Gs h2 h3,Option.bind_some,h1]
def FG{α:Type} : Int⊕α→Int
 | .inl y=>y
 | .inr _=>0
theorem BK{β:Type}(f:β→Int)(x:β)(l:List β):a7 f (x::l)=if f x≠0 then f x else a7 f l:=by
 unfold a7
 rw [List.findSome?_cons]
 by_cases h:f x=0<;>simp [h]
theorem CO{β ζ:Type}{B:Nat→Option (Nat⊕(Int⊕ζ))}(es:List β)(f:β→Int)(hs:∀ k (h:k<es.length),B k=if f es[k]≠0 then some (.inr (.inl (f es[k]))) else some (.inl (k+1)))(he:∃ z,B es.length=some (.inr (.inr z))) :
  ∃ x,lp B 0=some x∧FG x=a7 f es∧(a7 f es=0→∃ z,x= .inr z):=by
 refine oh (B:=B) (fun k=>es.length - k) (fun k=>k≤es.length∧a7 f es=a7 f (es.drop k)) (fun x=>FG x=a7 f es∧(a7 f es=0→∃ z,x= .inr z)) ?_ 0 ⟨Nat.zero_le _,rfl⟩
 rintro k ⟨hk,hf⟩
 by_cases hlt:k<es.length
 ·rw [List.drop_eq_getElem_cons hlt,BK] at hf
  rw [hs k hlt]
  by_cases h0:f es[k]=0
  ·rw [if_neg (by simp [h0])] at hf ⊢
   exact .inr ⟨_,rfl,⟨by omega,hf⟩,by omega⟩
  ·rw [if_pos h0] at hf ⊢
   exact .inl ⟨_,rfl,hf.symm,fun hz=>absurd (hf.symm.trans hz) h0⟩
 ·obtain rfl:k=es.length:=by omega
  rw [List.drop_length] at hf
  obtain ⟨z,hz⟩:=he
  exact .inl ⟨_,hz,hf.symm,fun _=>⟨z,rfl⟩⟩
theorem HS(k:Int):nu k=some (eJ k,eZ k,ez k):=by
 unfold nu eJ eZ ez
 by_cases h4:k=4
 ·subst h4;rfl
 by_cases h2:k=2
 ·subst h2;rfl
 by_cases h22:2≤k
 ·by_cases h3:k=3<;>simp [h4,h2,h22,h3]
 ·have h3:¬k=3:=by omega
  simp [h4,h2,h22,h3]
theorem Gt(c:Checker)(k:Int):e6 c k=some (iz c.p c.funcs k):=by
 unfold e6 iz
 by_cases h2:k=2
 ·simp [h2]
 by_cases h3:k=3<;>simp [h2,h3]
theorem xH(p:Program)(e:aw):gR e (p.Vars.length:Int)=some (cP p e):=Ka e _
variable [Lp]
theorem QE(c:Checker)(s:Stmt)(r:Bool×Bool×Bool):eN c s r=some (decide (s.Expr.Kind=0∧s.Expr.N=0∧s.Expr.Args.length=0)):=by
 unfold eN dK
 by_cases h1:s.Expr.Kind=0
 ·by_cases h2:s.Expr.N=0
  ·by_cases h3:s.Expr.Args=[]<;>simp [h1,h2,h3]
  ·simp [h1,h2]
 ·simp [h1]
theorem QF(c:Checker)(s:Stmt)(x:Bool):eO c s (eJ s.Kind,eZ s.Kind,ez s.Kind) x=
  some (decide ((eJ s.Kind=true∧(s.Var<0∨(c.p.Vars.length:Int)≤s.Var))∨(eZ s.Kind=true∧(s.Other<0∨iz c.p c.funcs s.Kind≤s.Other)))):=by
 have j4:∀ u,cK c s (eJ s.Kind,eZ s.Kind,ez s.Kind) x u=some (u||decide (eZ s.Kind=true∧(s.Other<0∨iz c.p c.funcs s.Kind≤s.Other))):=by
  intro u
  unfold cK cJ
  simp only [Gt,Option.bind_some]
  cases u with
  | true=>simp
  | false=>
   cases eZ s.Kind with
   | false=>simp
   | true=>by_cases h:s.Other<0<;>simp [h]
 unfold eO
 simp only [j4,Option.bind_some]
 cases eJ s.Kind with
 | false=>simp
 | true=>by_cases h:s.Var<0<;>simp [h]
theorem QG(c:Checker)(s:Stmt)(x:Bool):eP c s (eJ s.Kind,eZ s.Kind,ez s.Kind) (decide (s.Expr.Kind=0∧s.Expr.N=0∧s.Expr.Args.length=0)) x=
  some (decide ((eJ s.Kind=false∧s.Var≠0)∨(eZ s.Kind=false∧s.Other≠0)∨(ez s.Kind=false∧¬(s.Expr.Kind=0∧s.Expr.N=0∧s.Expr.Args.length=0))∨(s.Kind≠2∧0<s.Args.length)∨(s.Kind<7∧0<s.Then.length)∨(s.Kind≠7∧0<s.Else.length))):=by
 generalize hn:decide (s.Expr.Kind=0∧s.Expr.N=0∧s.Expr.Args.length=0)=no
 have hn':(s.Expr.Kind=0∧s.Expr.N=0∧s.Expr.Args.length=0)↔no=true:=by rw [←hn];simp
 rw [decide_eq_decide.2 (by rw [hn'])]
 have j10:∀ a b d u,cD c s (eJ s.Kind,eZ s.Kind,ez s.Kind) no x a b d u=some (u||decide (s.Kind≠7∧0<s.Else.length)):=by
  intro a b d u
  unfold cD du
  cases u with
  | true=>simp
  | false=>by_cases h:s.Kind=7<;>simp [h]
 have j9:∀ a b u,cL c s (eJ s.Kind,eZ s.Kind,ez s.Kind) no x a b u=some (u||(decide (s.Kind<7∧0<s.Then.length)||decide (s.Kind≠7∧0<s.Else.length))):=by
  intro a b u
  unfold cL
  simp only [j10,Option.bind_some]
  cases u with
  | true=>simp
  | false=>
   by_cases h:7≤s.Kind
   ·have:¬s.Kind<7:=by omega
    simp [h,this]
   ·have:s.Kind<7:=by omega
    simp [h,this]
 have j8:∀ a u,cM c s (eJ s.Kind,eZ s.Kind,ez s.Kind) no x a u=some (u||(decide (s.Kind≠2∧0<s.Args.length)||(decide (s.Kind<7∧0<s.Then.length)||decide (s.Kind≠7∧0<s.Else.length)))):=by
  intro a u
  unfold cM
  simp only [j9,Option.bind_some]
  cases u with
  | true=>simp
  | false=>by_cases h:s.Kind=2<;>simp [h]
 have j7:∀ u,bK c s (eJ s.Kind,eZ s.Kind,ez s.Kind) no x u=some (u||(decide (ez s.Kind=false∧¬no=true)||(decide (s.Kind≠2∧0<s.Args.length)||(decide (s.Kind<7∧0<s.Then.length)||decide (s.Kind≠7∧0<s.Else.length))))):=by
  intro u
  unfold bK
  simp only [j8,Option.bind_some]
  cases u with
  | true=>simp
  | false=>cases ez s.Kind<;>cases no<;>simp
 unfold eP
 simp only [j7,Option.bind_some]
 have e:decide ((eJ s.Kind=false∧s.Var≠0)∨(eZ s.Kind=false∧s.Other≠0)∨(ez s.Kind=false∧¬no=true)∨(s.Kind≠2∧0<s.Args.length)∨(s.Kind<7∧0<s.Then.length)∨(s.Kind≠7∧0<s.Else.length))=
   (decide (eJ s.Kind=false∧s.Var≠0)||(decide (eZ s.Kind=false∧s.Other≠0)||(decide (ez s.Kind=false∧¬no=true)||(decide (s.Kind≠2∧0<s.Args.length)||(decide (s.Kind<7∧0<s.Then.length)||decide (s.Kind≠7∧0<s.Else.length)))))):=by
  simp only [Bool.decide_or]
 rw [e]
 generalize (decide (ez s.Kind=false∧¬no=true)||(decide (s.Kind≠2∧0<s.Args.length)||(decide (s.Kind<7∧0<s.Then.length)||decide (s.Kind≠7∧0<s.Else.length))))=w
 cases eJ s.Kind with
 | true=>
  cases eZ s.Kind with
  | true=>simp
  | false=>by_cases h:s.Other=0<;>simp [h]
 | false=>
  by_cases hv:s.Var=0
  ·cases eZ s.Kind with
   | true=>simp [hv]
   | false=>by_cases h:s.Other=0<;>simp [h,hv]
  ·simp [hv]
theorem Kb(c:Checker)(s:Stmt)(hl:s.Args.length≤9223372036854775807):dL c s=some (if a7 (cP c.p) s.Args≠0 then .inl (a7 (cP c.p) s.Args) else .inr ()):=by
 unfold dL
 obtain ⟨x,hx,h1,h2⟩:=CO (B:=fun v=>dS c s v) s.Args (cP c.p) (fun k hk=>by
  unfold dS
  rw [if_pos (by omega),List.getElem?_eq_getElem hk,Option.bind_some,xH,Option.bind_some]
  by_cases h0:cP c.p s.Args[k]=0
  ·rw [if_neg (by simp [h0]),if_pos (pZ (by omega)),if_neg (by simp [h0])]
  ·rw [if_pos (by simp [h0]),if_pos h0]) ⟨_,by unfold dS;rw [if_neg (by omega)]⟩
 rw [hx,Option.bind_some]
 rcases x with y | ⟨a,b⟩
 ·have hy:y=a7 (cP c.p) s.Args:=h1
  by_cases h0:a7 (cP c.p) s.Args=0
  ·obtain ⟨z,hz⟩:=h2 h0;cases hz
  ·rw [if_pos h0,hy]
 ·have hy:(0:Int)=a7 (cP c.p) s.Args:=h1
  rw [if_neg (by simp [←hy])]
theorem Jz(c:Checker)(s:Stmt)(a b:Bool)(hl:s.Args.length≤9223372036854775807) :
  ((dM c s (a,b,ez s.Kind)).bind fun (x19:(Int⊕Unit))=>match x19 with
   | .inl y=>some y
   | .inr ()=>some (0:Int))=some (if ez s.Kind=true∧cP c.p s.Expr≠0 then cP c.p s.Expr else a7 (cP c.p) s.Args):=by
 unfold dM
 rw [Kb c s hl,xH]
 simp only [Option.bind_some]
 by_cases hf:a7 (cP c.p) s.Args=0
 ·cases ez s.Kind with
  | false=>simp [hf]
  | true=>by_cases h0:cP c.p s.Expr=0<;>simp [h0,hf]
 ·cases ez s.Kind with
  | false=>simp [hf]
  | true=>by_cases h0:cP c.p s.Expr=0<;>simp [h0,hf]
theorem Kc{c:Checker}{s:Stmt}(h0:c.funcs≤c.p.Funcs.length)(hp:∀ f∈c.p.Funcs,f.Params.length≤9223372036854775807):gi c s=some (bI c.p c.funcs s):=by
 unfold gi bI
 by_cases k1:s.Kind<1
 ·rw [if_pos k1,if_pos (.inl k1)]
 rw [if_neg k1]
 by_cases k8:8<s.Kind
 ·rw [if_pos k8,if_pos (.inr k8)]
 rw [if_neg k8,if_neg (by omega),HS,Option.bind_some,QE,Option.bind_some,QF,Option.bind_some]
 by_cases h5:(eJ s.Kind=true∧(s.Var<0∨(c.p.Vars.length:Int)≤s.Var))∨(eZ s.Kind=true∧(s.Other<0∨iz c.p c.funcs s.Kind≤s.Other))
 ·rw [if_pos (decide_eq_true h5),if_pos h5]
 rw [if_neg (by simpa using h5),if_neg h5,QG,Option.bind_some]
 by_cases h1:(eJ s.Kind=false∧s.Var≠0)∨(eZ s.Kind=false∧s.Other≠0)∨(ez s.Kind=false∧¬(s.Expr.Kind=0∧s.Expr.N=0∧s.Expr.Args.length=0))∨(s.Kind≠2∧0<s.Args.length)∨(s.Kind<7∧0<s.Then.length)∨(s.Kind≠7∧0<s.Else.length)
 ·rw [if_pos (decide_eq_true h1),if_pos h1]
 rw [if_neg (by rw [decide_eq_true_iff];exact h1),if_neg h1]
 by_cases k2:s.Kind=2
 ·have ho:0≤s.Other∧s.Other<c.funcs:=by
   have:eZ s.Kind=true:=by rw [k2];rfl
   have e:iz c.p c.funcs s.Kind=c.funcs:=by rw [k2];rfl
   rw [e] at h5
   have h6:¬(s.Other<0∨c.funcs≤s.Other):=fun h=>h5 (.inr ⟨this,h⟩)
   omega
  have hi:s.Other.toNat<c.p.Funcs.length:=by omega
  have hpo:tj c.p s.Other=(c.p.Funcs[s.Other.toNat]).Params.length:=by unfold tj;rw [List.getElem?_eq_getElem hi];rfl
  rw [if_pos (by simp [k2]),fB ho.1,Option.bind_some,List.getElem?_eq_getElem hi,Option.bind_some,hpo]
  have hpl:=hp _ (List.getElem_mem hi)
  generalize (c.p.Funcs[s.Other.toNat]).Params.length=n at *
  by_cases hn:s.Args.length=n
  ·rw [if_neg (by simp [hn]),if_neg (fun h=>h.2 hn)]
   exact Jz c s _ _ (by omega)
  ·rw [if_pos (by simp;omega),if_pos ⟨k2,hn⟩]
 ·rw [if_neg (by simp [k2]),if_neg (fun h=>k2 h.1)]
  have ha:¬0<s.Args.length:=fun h=>h1 (.inr (.inr (.inr (.inl ⟨k2,h⟩))))
  exact Jz c s _ _ (by omega)
theorem QH{c:Checker}(h0:c.funcs≤c.p.Funcs.length)(hp:∀ f∈c.p.Funcs,f.Params.length≤9223372036854775807)(n:Nat):∀ (l:List Stmt)(d:Int),jN l+1≤n→bU l≤50→1≤d→d+jN l≤100→
  (bw n).f_scope_Walk__scope_checker_stmts_1 l d () c 0=some (cH (bI c.p c.funcs) l==0,(),cH (bI c.p c.funcs) l):=by
 induction n with
 | zero=>intro l d h;omega
 | succ n ih=>
  intro l d h1 h2 h3 h4
  show ct (bw n) l d () c 0=_
  unfold ct
  have hlen:=iZ l
  obtain ⟨x,hx,hQ⟩:=oh (B:=fun v=>cb (bw n) l d c v.1 v.2) (fun v=>l.length - v.1)
   (fun v=>v.1≤l.length∧cH (bI c.p c.funcs) l=cH (bI c.p c.funcs) (l.drop v.1)∧v.2=0)
   (fun x=>(match x with
    | .inl y=>y≠0∧y=cH (bI c.p c.funcs) l
    | .inr (_,_,y)=>y=0∧cH (bI c.p c.funcs) l=0)) (by
    rintro ⟨k,e⟩ ⟨hk,he,hz⟩
    simp only at hk he hz ⊢
    subst hz
    unfold cb ir
    by_cases hlt:k<l.length
    ·rw [List.drop_eq_getElem_cons hlt,cH,Er] at he
     have hm:=List.getElem_mem hlt
     have g1:=CJ hm
     have g2:=CK hm
     rw [if_pos (by omega),List.getElem?_eq_getElem hlt,Option.bind_some]
     generalize l[k]=s at *
     have g3:=zb s
     have g4:=Mw s
     rw [Kc h0 hp,Option.bind_some,Option.bind_some]
     by_cases e1:bI c.p c.funcs s=0
     ·simp only [e1,beq_self_eq_true,if_true,ne_eq,not_true_eq_false,if_false] at he ⊢
      rw [if_pos (A0 (by omega) (by omega)),ih _ _ (by omega) (by omega) (by omega) (by omega),Option.bind_some]
      by_cases e2:cH (bI c.p c.funcs) s.Then=0
      ·simp only [e2,beq_self_eq_true,if_true,not_true_eq_false,if_false] at he ⊢
       rw [ih _ _ (by omega) (by omega) (by omega) (by omega),Option.bind_some]
       by_cases e3:cH (bI c.p c.funcs) s.Else=0
       ·simp only [e3,beq_self_eq_true,if_true,not_true_eq_false,if_false] at he ⊢
        rw [if_pos (pZ (by omega))]
        exact .inr ⟨_,rfl,⟨by simp only;omega,he,rfl⟩,by simp only;omega⟩
       ·have:(cH (bI c.p c.funcs) s.Else==0)=false:=by simp [e3]
        simp only [e3,not_false_eq_true,if_true] at he
        simp only [this,Bool.false_eq_true,if_false]
        exact .inl ⟨_,rfl,e3,he.symm⟩
      ·have:(cH (bI c.p c.funcs) s.Then==0)=false:=by simp [e2]
       simp only [e2,not_false_eq_true,if_true] at he
       simp only [this,Bool.false_eq_true,if_false]
       exact .inl ⟨_,rfl,e2,he.symm⟩
     ·have:(bI c.p c.funcs s==0)=false:=by simp [e1]
      simp only [e1,ne_eq,not_false_eq_true,if_true] at he
      simp only [this,Bool.false_eq_true,if_false]
      exact .inl ⟨_,rfl,e1,he.symm⟩
    ·rw [List.drop_eq_nil_of_le (by omega),cH] at he
     rw [if_neg (by omega)]
     exact .inl ⟨_,rfl,rfl,he⟩) (0,0) ⟨Nat.zero_le _,rfl,rfl⟩
  rw [hx,Option.bind_some]
  rcases x with y | ⟨a,b,y⟩
  ·obtain ⟨q1,q2⟩:=hQ
   have:(cH (bI c.p c.funcs) l==0)=false:=by rw [←q2];simp [q1]
   simp only [this]
   rw [q2]
  ·obtain ⟨q1,q2⟩:=hQ
   simp only [q2,q1];rfl
theorem CP{c:Checker}{l:List Stmt}(h0:c.funcs≤c.p.Funcs.length)(hp:∀ f∈c.p.Funcs,f.Params.length≤9223372036854775807)(hc:bU l≤50)(hd:jN l≤6):eb c l=some (cH (bI c.p c.funcs) l):=by
 unfold eb
 have:dF l 1 () c 0=some (cH (bI c.p c.funcs) l==0,(),cH (bI c.p c.funcs) l):=
  BZ 8 fun n hn=>QH h0 hp n l 1 (by omega) hc (by decide) (by omega)
 rw [this];rfl
theorem DX{l:List Int}{a:Int}(hl:l.length≤9223372036854775807):fD l a=some (decide (a∈l)):=by
 unfold fD lf
 obtain ⟨x,hx,hQ⟩:=oh (B:=fun v=>gb l a v) (fun k=>l.length - k) (fun k=>k≤l.length∧¬a∈l.take k)
  (fun x=>match x with
   | .inl _=>a∈l
   | .inr _=>¬a∈l) (by
   rintro k ⟨hk,hn⟩
   unfold gb
   by_cases hlt:k<l.length
   ·rw [if_pos (by omega),List.getElem?_eq_getElem hlt,Option.bind_some]
    by_cases h:a=l[k]
    ·rw [if_pos (by simp [h])]
     exact .inl ⟨_,rfl,by rw [h];exact List.getElem_mem hlt⟩
    ·rw [if_neg (by simp [h]),if_pos (pZ (by omega))]
     refine .inr ⟨_,rfl,⟨by omega,fun hm=>?_⟩,by omega⟩
     rw [List.take_add_one,List.getElem?_eq_getElem hlt] at hm
     rcases List.mem_append.1 hm with hm | hm
     ·exact hn hm
     ·exact h (by simpa using hm)
   ·rw [if_neg (by omega)]
    rw [List.take_of_length_le (by omega)] at hn
    exact .inl ⟨_,rfl,hn⟩) 0 ⟨Nat.zero_le _,by simp⟩
 rw [hx]
 simp only [Option.bind_some]
 rcases x with y | ⟨y,z⟩
 ·have h:a∈l:=hQ
  simp [h]
 ·have h:¬a∈l:=hQ
  simp [h]
theorem QI{c:Checker}{f:Func}(h0:c.funcs≤c.p.Funcs.length)(hp:∀ f∈c.p.Funcs,f.Params.length≤9223372036854775807)(hc:bU f.Body≤50)(hd:jN f.Body≤6):iL c f=some (vi c.p c.funcs f):=by
 unfold iL vi
 by_cases h4:4<f.Params.length
 ·rw [if_pos (by omega),if_pos h4]
 rw [if_neg (by omega),if_neg h4]
 obtain ⟨x,hx,hQ⟩:=oh (B:=fun v=>gj c f v) (fun k=>f.Params.length - k)
  (fun k=>k≤f.Params.length∧oX c.p.Vars.length [] f.Params=oX c.p.Vars.length (f.Params.take k) (f.Params.drop k))
  (fun x=>(match x with
   | .inl _=>(5:Int)
   | .inr (.inl _)=>6
   | .inr (.inr _)=>0)=oX c.p.Vars.length [] f.Params) (by
   rintro k ⟨hk,he⟩
   unfold gj
   by_cases hlt:k<f.Params.length
   ·rw [List.drop_eq_getElem_cons hlt,oX] at he
    rw [if_pos (by omega),List.getElem?_eq_getElem hlt,Option.bind_some]
    have htk:f.Params.take k++[f.Params[k]]=f.Params.take (k+1):=by rw [List.take_add_one,List.getElem?_eq_getElem hlt];rfl
    rw [htk] at he
    by_cases g1:f.Params[k]<0
    ·rw [if_pos g1]
     rw [if_pos (.inl g1)] at he
     exact .inl ⟨_,rfl,he.symm⟩
    rw [if_neg g1]
    by_cases g2:(c.p.Vars.length:Int)≤f.Params[k]
    ·rw [if_pos g2]
     rw [if_pos (.inr g2)] at he
     exact .inl ⟨_,rfl,he.symm⟩
    rw [if_neg g2,if_pos (by omega),List.drop_zero,DX (by rw [List.length_take];omega),Option.bind_some]
    rw [if_neg (by omega)] at he
    by_cases g3:f.Params[k]∈f.Params.take k
    ·rw [if_pos (decide_eq_true g3)]
     rw [if_pos g3] at he
     exact .inl ⟨_,rfl,he.symm⟩
    ·rw [if_neg (by simpa using g3),if_pos (pZ (by omega))]
     rw [if_neg g3] at he
     exact .inr ⟨_,rfl,⟨by omega,he⟩,by omega⟩
   ·rw [List.drop_eq_nil_of_le (by omega),oX] at he
    rw [if_neg (by omega)]
    exact .inl ⟨_,rfl,he.symm⟩) 0 ⟨Nat.zero_le _,by simp⟩
 rw [hx,Option.bind_some]
 rcases x with _ | _ | ⟨a,b⟩
 ·have h:(5:Int)=oX c.p.Vars.length [] f.Params:=hQ
  rw [←h];rfl
 ·have h:(6:Int)=oX c.p.Vars.length [] f.Params:=hQ
  rw [←h];rfl
 ·have h:(0:Int)=oX c.p.Vars.length [] f.Params:=hQ
  rw [←h,if_neg (by decide)]
  simp only [CP h0 hp hc hd,Option.bind_some]
  by_cases he:cH (bI c.p c.funcs) f.Body=0
  ·rw [if_neg (by simp [he]),if_neg (by simp [he]),xH];rfl
  ·rw [if_pos (by simp [he]),if_pos he]
theorem Gu(a b:List Label)(ha:a.length≤5)(hb:b.length≤5):eg [a,b]=some (a++b):=by
 unfold eg
 have z1:IntKind.i64.wrap 1=1:=by decide
 have z2:IntKind.i64.wrap 2=2:=by decide
 have w1:IntKind.i64.wrap (0+(a.length:Int))=0+(a.length:Int):=A0 (by omega) (by omega)
 have w2:IntKind.i64.wrap (0+(a.length:Int)+(b.length:Int))=0+(a.length:Int)+(b.length:Int):=A0 (by omega) (by omega)
 have n1:¬(0+(a.length:Int))<0:=by omega
 have n2:¬(0+(a.length:Int)+(b.length:Int))<0:=by omega
 have l0:lp (fun v=>bY [a,b] v.1 v.2) (0,0)=some (0+(a.length:Int)+(b.length:Int),2,false):=by
  rw [ji (w:=(0+(a.length:Int),1)) (by simp only [bY];simp only [List.length_cons,List.length_nil,List.getElem?_cons_zero,Option.bind_some,w1,n1,if_false,if_true];simp [z1]),
   ji (w:=(0+(a.length:Int)+(b.length:Int),2)) (by simp only [bY];simp only [List.length_cons,List.length_nil,List.getElem?_cons_succ,List.getElem?_cons_zero,Option.bind_some,w2,n2,if_false,if_true];simp [z2])]
  exact fN (by simp [bY])
 have l1:lp (fun v=>bZ [a,b] v.1 v.2) (([]:List Label),0)=some (a++b,2,false):=by
  rw [ji (w:=(a,1)) (by simp [bZ,z1];omega),
   ji (w:=(a++b,2)) (by simp [bZ,z2];omega)]
  exact fN (by simp [bZ])
 rw [l0,Option.bind_some,if_pos (by simp only;omega),l1];rfl
variable [Lp]
theorem QJ(p:Program):kz p=some (decide (16<p.Vars.length∨5<p.Ins.length∨5<p.Outs.length∨5<p.Funcs.length∨p.aa.Many<(p.Speak.length:Int))):=by
 unfold kz fC
 by_cases h1:16<p.Vars.length
 ·have:(16:Int)<(p.Vars.length:Int):=by omega
  simp [h1,this]
 have h1':¬(16:Int)<(p.Vars.length:Int):=by omega
 by_cases h2:5<p.Ins.length
 ·have:(5:Int)<(p.Ins.length:Int):=by omega
  simp [h1',h2,this]
 have h2':¬(5:Int)<(p.Ins.length:Int):=by omega
 by_cases h3:5<p.Outs.length
 ·have:(5:Int)<(p.Outs.length:Int):=by omega
  simp [h1',h2',h3,this]
 have h3':¬(5:Int)<(p.Outs.length:Int):=by omega
 by_cases h4:5<p.Funcs.length
 ·have:(5:Int)<(p.Funcs.length:Int):=by omega
  simp [h1',h2',h3',h4,this]
 have h4':¬(5:Int)<(p.Funcs.length:Int):=by omega
 simp [h1,h1',h2,h2',h3,h3',h4,h4']
theorem HT{m:Int}{l:Label}(h:e9 m l=0):l.Read.length≤4∧l.Write.length≤4:=⟨(uc (xE h).1).1,(uc (xE h).2).1⟩
theorem Kd(p:Program):om p=some (mj p):=by
 unfold om mj
 rw [Eo,Option.bind_some]
 by_cases a1:dy p.aa=0
 rotate_left
 ·rw [if_pos (show (dy p.aa !=0)=true by simp [a1]),if_pos a1]
 rw [if_neg (show ¬(dy p.aa !=0)=true by simp [a1]),if_neg (show ¬dy p.aa≠0 from fun h=>h a1),QJ,Option.bind_some]
 obtain ⟨c1,c2,c3,c4⟩:=pG a1
 by_cases a4:16<p.Vars.length∨5<p.Ins.length∨5<p.Outs.length∨5<p.Funcs.length∨p.aa.Many<(p.Speak.length:Int)
 ·rw [if_pos (decide_eq_true a4),if_pos a4]
 rw [if_neg (by simpa using a4),if_neg a4]
 have hs:dB p.Speak p=some (p.Speak.any (fun n=>!cA p.aa.Many n)):=k3 (fun y=>lT y p) _ p.Speak (by omega) (fun y _=>by simp [lT,CF])
 rw [hs,Option.bind_some]
 cases a5:p.Speak.any (fun n=>!cA p.aa.Many n) with
 | true=>rfl
 | false=>
  simp only [Bool.false_eq_true,if_false]
  rw [Gu _ _ (by omega) (by omega),Option.bind_some]
  obtain ⟨x,hx,e1,e2⟩:=CO (B:=fun v=>jo p (p.Ins++p.Outs) v) (p.Ins++p.Outs) (e9 p.aa.Many) (fun k hk=>by
   unfold jo
   rw [if_pos (by omega),List.getElem?_eq_getElem hk,Option.bind_some,Gq,Option.bind_some]
   rw [List.length_append] at hk
   by_cases h0:e9 p.aa.Many (p.Ins++p.Outs)[k]=0
   ·rw [if_neg (by simp [h0]),if_pos (pZ (by omega)),if_neg (by simp [h0])]
   ·rw [if_pos (by simp [h0]),if_pos h0]) ⟨_,by unfold jo;rw [if_neg (by omega)]⟩
  rw [hx,Option.bind_some]
  by_cases h6:a7 (e9 p.aa.Many) (p.Ins++p.Outs)=0
  rotate_left
  ·rcases x with y | ⟨a,b⟩
   ·have hy:y=_:=e1
    rw [if_pos h6,←hy]
   ·have hy:(0:Int)=_:=e1
    exact absurd hy.symm h6
  obtain ⟨z,rfl⟩:=e2 h6
  rw [if_neg (show ¬a7 (e9 p.aa.Many) (p.Ins++p.Outs)≠0 from fun h=>h h6)]
  obtain ⟨z1,z2⟩:=z
  simp only
  obtain ⟨x,hx,e3,e4⟩:=CO (B:=fun v=>jq p v) p.Vars (fun v:Var=>e9 p.aa.Many v.Label) (fun k hk=>by
   unfold jq
   rw [if_pos (by omega),List.getElem?_eq_getElem hk,Option.bind_some,Gq,Option.bind_some]
   by_cases h0:e9 p.aa.Many p.Vars[k].Label=0
   ·rw [if_neg (by simp [h0]),if_pos (pZ (by omega)),if_neg (by simp [h0])]
   ·rw [if_pos (by simp [h0]),if_pos h0]) ⟨_,by unfold jq;rw [if_neg (by omega)]⟩
  rw [hx,Option.bind_some]
  by_cases h7:a7 (fun v:Var=>e9 p.aa.Many v.Label) p.Vars=0
  rotate_left
  ·rcases x with y | ⟨a,b⟩
   ·have hy:y=_:=e3
    rw [if_pos h7,←hy]
   ·have hy:(0:Int)=_:=e3
    exact absurd hy.symm h7
  obtain ⟨z,rfl⟩:=e4 h7
  rw [if_neg (show ¬a7 (fun v:Var=>e9 p.aa.Many v.Label) p.Vars≠0 from fun h=>h h7)]
  obtain ⟨z1,z2⟩:=z
  simp only
  have hv:dC p.Vars=some (p.Vars.any (fun v=>!v.Known&&decide (0<v.Label.Read.length+v.Label.Write.length))):=k3 lZ _ p.Vars (by omega) (fun y hy=>by
   have hl:=HT (jX h7 y hy)
   unfold lZ
   rw [if_pos (c:=IntKind.i64.wrap _=_) (A0 (by omega) (by omega))]
   cases y.Known with
   | true=>simp
   | false=>simp;omega)
  rw [hv,Option.bind_some]
  cases p.Vars.any (fun v=>!v.Known&&decide (0<v.Label.Read.length+v.Label.Write.length))<;>rfl
theorem HU{p:Program}(hf:p.Funcs.length≤5)(hp:∀ f∈p.Funcs,f.Params.length≤9223372036854775807)(hc:∀ f∈p.Funcs,bU f.Body≤50∧jN f.Body≤6) :
  ∃ x,lp (fun v=>iM p v.1 v.2) (0,0)=some x∧FG x=mS p 0 p.Funcs∧(mS p 0 p.Funcs=0→∃ z,x= .inr z):=by
 refine oh (B:=fun v=>iM p v.1 v.2) (fun v=>p.Funcs.length - v.1) (fun v=>v.1≤p.Funcs.length∧mS p 0 p.Funcs=mS p v.1 (p.Funcs.drop v.1)) (fun x=>FG x=mS p 0 p.Funcs∧(mS p 0 p.Funcs=0→∃ z,x= .inr z)) ?_ (0,0) ⟨Nat.zero_le _,rfl⟩
 rintro ⟨k,m⟩ ⟨hk,he⟩
 simp only at hk he ⊢
 unfold iM
 by_cases hlt:k<p.Funcs.length
 ·rw [List.drop_eq_getElem_cons hlt,mS] at he
  have hm:=hc _ (List.getElem_mem hlt)
  rw [if_pos (by omega),List.getElem?_eq_getElem hlt,Option.bind_some,QI (c:=⟨p,(k:Int)⟩) (by simp only;omega) hp hm.1 hm.2,Option.bind_some]
  simp only
  by_cases h0:vi p k p.Funcs[k]=0
  ·rw [if_neg (by simp [h0])] at he
   rw [if_neg (by simp [h0]),if_pos (pZ (by omega))]
   exact .inr ⟨_,rfl,⟨by simp only;omega,he⟩,by simp only;omega⟩
  ·rw [if_pos h0] at he
   rw [if_pos (by simp [h0])]
   exact .inl ⟨_,rfl,he.symm,fun hz=>absurd (he.symm.trans hz) h0⟩
 ·rw [List.drop_eq_nil_of_le (by omega),mS] at he
  rw [if_neg (by omega)]
  exact .inl ⟨_,rfl,he.symm,fun _=>⟨_,rfl⟩⟩
theorem CQ{p:Program}(hp:∀ f∈p.Funcs,f.Params.length≤9223372036854775807):jU p=some (jY p):=by
 unfold jU jY
 rw [Kd,Option.bind_some]
 by_cases h1:mj p=0
 rotate_left
 ·rw [if_pos (show (mj p !=0)=true by simp [h1]),if_pos h1]
 rw [if_neg (show ¬(mj p !=0)=true by simp [h1]),if_neg (show ¬mj p≠0 from fun h=>h h1)]
 have hf:p.Funcs.length≤5:=by
  unfold mj at h1
  by_cases a1:dy p.aa=0
  ·rw [if_neg (by simp [a1])] at h1
   by_cases a2:16<p.Vars.length∨5<p.Ins.length∨5<p.Outs.length∨5<p.Funcs.length∨p.aa.Many<(p.Speak.length:Int)
   ·rw [if_pos a2] at h1;exact absurd h1 (by decide)
   ·omega
  ·rw [if_pos a1] at h1;exact absurd h1 a1
 rw [DW hf,Option.bind_some]
 cases h2:(ko p.Main p.Funcs 0).1 with
 | false=>rfl
 | true=>
  have h2':ko p.Main p.Funcs 0=(true,(ko p.Main p.Funcs 0).2):=Prod.ext h2 rfl
  obtain ⟨g1,g2,g3,_⟩:=xG (by decide) (by decide) h2'
  obtain ⟨x,hx,e1,e2⟩:=HU hf hp g1
  simp only [if_true,hx,Option.bind_some,Bool.true_eq_false,if_false]
  by_cases h3:mS p 0 p.Funcs=0
  rotate_left
  ·rcases x with y | ⟨a,b,e⟩
   ·have hy:y=_:=e1
    rw [if_pos h3,←hy]
   ·have hy:(0:Int)=_:=e1
    exact absurd hy.symm h3
  obtain ⟨⟨z1,z2,z3⟩,rfl⟩:=e2 h3
  rw [if_neg (show ¬mS p 0 p.Funcs≠0 from fun h=>h h3)]
  simp only [CP (c:=⟨p,(p.Funcs.length:Int)⟩) (l:=p.Main) (Int.le_refl _) hp g2 g3,Option.bind_some]
end Go.Proofs.Ytkkkkondjclcnaa.A
