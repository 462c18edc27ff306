/- All commands with their numbers and places, in order; walks as rounds over them. -/
import Derived.Test.YtkkkkondjclcnaaGreatInfP
set_option linter.all false
namespace Go.Proofs.YtkkkkondjclcnaaGreat.A
open Go
structure A6 where
 s:Stmt
 a:Nat
 pl:Level
section
variable (n:Nat)(V:List Level)
mutual
def Ca:Stmt→Nat→Level→List A6
 | ⟨k,v,o,e,args,th,el⟩,a,pl=>⟨⟨k,v,o,e,args,th,el⟩,a,pl⟩::if 7≤k then lJ th (a+1) (cU n pl (iH n V e))++lJ el (a+1+bn th) (cU n pl (iH n V e)) else []
def lJ:List Stmt→Nat→Level→List A6
 | [],_,_=>[]
 | x::r,a,pl=>Ca x a pl++lJ r (a+qM x) pl
end
theorem DD(s:Stmt)(a:Nat)(pl:Level):Ca n V s a pl=⟨s,a,pl⟩::if 7≤s.Kind then lJ n V s.Then (a+1) (cU n pl (iH n V s.Expr))++lJ n V s.Else (a+1+bn s.Then) (cU n pl (iH n V s.Expr)) else []:=by
 cases s;rw [Ca]
def wC(F:List Level):List Func→Nat→Nat→List A6
 | [],_,_=>[]
 | f::r,i,a=>lJ n V f.Body a (F.getD i (fA n))++wC F r (i+1) (a+bn f.Body)
def nq(p:Program)(F:List Level):List A6:=wC n V F p.Funcs 0 0++lJ n V p.Main (jG p.Funcs) (fA n)
variable {n V}{T:Stmt→Level→Prop}
mutual
theorem ZH:∀ (s:Stmt)(a:Nat)(pl:Level),Et n V T s pl↔∀ x∈Ca n V s a pl,T x.s x.pl
 | ⟨k,v,o,e,args,th,el⟩,a,pl=>by
  rw [Et,Ca,List.forall_mem_cons]
  refine and_congr_right fun _=>?_
  by_cases h7:7≤k
  ·rw [ab h7,BM,←DE th,←DE el]
   grind
  grind
theorem DE:∀ (l:List Stmt)(a:Nat)(pl:Level),ri n V T l pl↔∀ x∈lJ n V l a pl,T x.s x.pl
 | [],a,pl=>by grind [ri,lJ]
 | x::r,a,pl=>by rw [ri,lJ,BM,←ZH x,←DE r]
end
theorem RY{F:List Level} : ∀ (l:List Func)(i a:Nat),i+l.length≤F.length→(IL n V T F l i↔∀ x∈wC n V F l i a,T x.s x.pl)
 | [],i,a,_=>⟨by grind [wC],fun _=>trivial⟩
 | f::r,i,a,h=>by
  have hi:i<F.length:=by grind
  have hq:F[i]? =some F[i]:=aP hi
  have hd:F.getD i (fA n)=F[i]:=by grind
  rw [IL,wC,BM,←RY r (i+1) (a+bn f.Body) (by grind),←DE f.Body,hd]
  grind
theorem RZ{p:Program}{F:List Level}(h:F.length=p.Funcs.length):xJ n V T p F↔∀ x∈nq n V p F,T x.s x.pl:=by
 unfold xJ nq
 rw [BM,←RY p.Funcs 0 0 (by omega),←DE p.Main]
end
def oS{σ β:Type}(g:σ→β→Option σ):List β→σ→Option σ
 | [],s=>some s
 | x::r,s=>(g s x).bind fun t=>oS g r t
theorem sF{σ β:Type}(g:σ→β→Option σ):∀ (a b:List β)(s:σ),oS g (a++b) s=(oS g a s).bind fun t=>oS g b t
 | [],b,s=>rfl
 | x::a,b,s=>by
  show (g s x).bind _=((g s x).bind _).bind _
  rw [Option.bind_assoc]
  cases g s x with
  | none=>rfl
  | some t=>exact sF g a b t
variable [Lp]
section
variable {p:Program}(h:nA p)(ho:Dt p){V F:List Level}(hV:eS p V F){σ:Type}(dof:Nat→Stmt→Level→σ→Option σ)
def Kh(s:σ)(x:A6):Option σ:=dof x.a x.s x.pl s
theorem R0{i:Int}{s:Stmt}(h:bW p i s=0)(hk:¬7≤s.Kind):s.Then=[]∧s.Else=[]:=by
 grind [bW,List.length_eq_zero_iff]
include h ho hV
mutual
theorem WQ{i:Nat}(hi:i≤p.Funcs.length):∀ (st:Stmt)(a:Nat)(pl:Level)(s:σ),xz (bW p i) st=0→qM st≤50→a+qM st≤1000→bw (MM p) pl→
  Ha p (fun _=>V) dof st a pl s=(oS (Kh dof) (Ca (MM p) V st a pl) s).map fun t=>(a+qM st,t)
 | ⟨k,v,o,e,args,th,el⟩,a,pl,s,he,hc,ha,d=>by
  obtain ⟨e1,e2,e3⟩:=Em he
  have hlen:=(xH h ho hi hV hV (Es _ _) d d (le_refl _ _) e1).1
  have j:=A0 ⟨k,v,o,e,args,th,el⟩
  have l1:=ib th
  have l2:=ib el
  simp only at hlen j e2 e3
  rw [IK,ab ⟨by omega,by simp only;omega,by simp only;omega,by simp only;omega⟩,DD]
  show (dof a _ pl s).bind _=((dof a _ pl s).bind _).map _
  cases dof a ⟨k,v,o,e,args,th,el⟩ pl s with
  | none=>rfl
  | some t=>
   simp only [ad]
   by_cases h7:7≤k
   ·have hex:=(vK e1).2.2.2.2.1 (by grind [eP])
    simp only at hex
    have m:=dX (MM p) pl (iH (MM p) V e)
    rw [ab h7,ab h7,of_eq h hV hex d,ad,A7 hi th (a+1) _ t e2 (by omega) (by omega) m,sF]
    cases oS (Kh dof) (lJ (MM p) V th (a+1) (cU (MM p) pl (iH (MM p) V e))) t with
    | none=>rfl
    | some u=>
     simp only [fE,ad]
     rw [A7 hi el (a+1+bn th) _ u e3 (by omega) (by omega) m,j,show a+(1+bn th+bn el)=a+1+bn th+bn el by omega]
   ·rw [aa h7,aa h7]
    obtain ⟨z1,z2⟩:=R0 e1 h7
    simp only at z1 z2
    subst z1 z2
    rw [j];simp [bn,oS]
theorem A7{i:Nat}(hi:i≤p.Funcs.length):∀ (l:List Stmt)(a:Nat)(pl:Level)(s:σ),eg (bW p i) l=0→bn l≤50→a+bn l≤1000→bw (MM p) pl→
  ml p (fun _=>V) dof l a pl s=(oS (Kh dof) (lJ (MM p) V l a pl) s).map fun t=>(a+bn l,t)
 | [],a,pl,s,he,hc,ha,d=>by rw [ml,lJ,bn];rfl
 | x::r,a,pl,s,he,hc,ha,d=>by
  rw [bn] at hc ha
  have B:=A2 he x (by simp)
  have z:eg (bW p i) r=0:=by
   grind [eg]
  rw [ml,lJ,WQ hi x a pl s B (by omega) (by omega) d,sF]
  cases oS (Kh dof) (Ca (MM p) V x a pl) s with
  | none=>rfl
  | some t=>
   simp only [fE,ad]
   rw [A7 hi r (a+qM x) pl t z (by omega) (by omega) d,bn,uV]
end
theorem Pw(i:Nat):bw (MM p) (F.getD i (fA (MM p))):=by
 rw [lM]
 cases hq:F[i]? with
 | none=>exact mz _
 | some q=>exact DB hV.fs hq
theorem Px:∀ (rest:List Func)(i a:Nat)(s:σ),p.Funcs.drop i=rest→jG rest≤50→a+jG rest≤1000→
  Ac p (fun _=>V) (fun _=>F) dof rest i a s=(oS (Kh dof) (wC (MM p) V F rest i a) s).map fun t=>(a+jG rest,t)
 | [],i,a,s,hd,hs,ha=>rfl
 | f::rest,i,a,s,hd,hs,ha=>by
  obtain ⟨hg,C,hi,w⟩:=Hk h ho hd
  obtain ⟨_,_,f3,_⟩:=G9 w
  have c:jG (f::rest)=bn f.Body+jG rest:=by simp [jG]
  rw [c] at hs ha
  have hl:=ib f.Body
  have D:i<F.length:=by rw [hV.fl];exact hi
  have hq:=aP D
  have hd:F.getD i (fA (MM p))=F[i]:=by grind
  have hz:=Pw h ho hV i
  rw [Ac,ab (by omega),hq,ad,wC,hd,sF]
  rw [hd] at hz
  rw [A7 h ho hV dof (by omega) f.Body a _ s f3 (by omega) (by omega) hz]
  cases oS (Kh dof) (lJ (MM p) V f.Body a F[i]) s with
  | none=>rfl
  | some t=>
   simp only [fE,ad]
   rw [Px rest (i+1) (a+bn f.Body) t C (by omega) (by omega),c,uV]
theorem akr(s:σ):∃ a,A5 p (fun _=>V) (fun _=>F) dof s=(oS (Kh dof) (nq (MM p) V p F) s).map fun t=>(a,t):=by
 have c:=ho.sum
 have hf:=ho.funcs
 have hm:=ho.main
 have hl:=ib p.Main
 refine ⟨jG p.Funcs+bn p.Main,?_⟩
 unfold A5 nq
 rw [ab (by omega),Px h ho hV dof p.Funcs 0 0 s rfl (show jG p.Funcs≤50 by grind) (show 0+jG p.Funcs≤1000 by grind),sF]
 cases oS (Kh dof) (wC (MM p) V F p.Funcs 0 0) s with
 | none=>rfl
 | some t=>
  simp only [fE,ad]
  rw [yR h,ad,gh,A7 h ho hV dof (aV _) p.Main _ _ t ho.mains (by omega) (by grind) (mz _)]
omit h ho hV in
mutual
theorem afW{i:Nat}(hi:i≤p.Funcs.length):∀ (st:Stmt)(a:Nat)(pl:Level),xz (bW p i) st=0→bw (MM p) pl→∀ x∈Ca (MM p) V st a pl,(∃ i:Nat,i≤p.Funcs.length∧bW p i x.s=0)∧bw (MM p) x.pl
 | ⟨k,v,o,e,args,th,el⟩,a,pl,he,d,x,hx=>by
  obtain ⟨e1,e2,e3⟩:=Em he
  rw [DD] at hx
  rcases eX.1 hx with rfl | hx
  ·grind
  ·split at hx
   ·have m:=dX (MM p) pl (iH (MM p) V e)
    rcases dk.1 hx with hx | hx
    ·exact Gk hi th _ _ e2 m x hx
    ·exact Gk hi el _ _ e3 m x hx
   grind
theorem Gk{i:Nat}(hi:i≤p.Funcs.length):∀ (l:List Stmt)(a:Nat)(pl:Level),eg (bW p i) l=0→bw (MM p) pl→∀ x∈lJ (MM p) V l a pl,(∃ i:Nat,i≤p.Funcs.length∧bW p i x.s=0)∧bw (MM p) x.pl
 | [],a,pl,he,d,x,hx=>by grind [lJ]
 | y::r,a,pl,he,d,x,hx=>by
  have B:=A2 he y (by simp)
  have z:eg (bW p i) r=0:=by
   grind [eg]
  rw [lJ] at hx
  rcases dk.1 hx with hx | hx
  ·exact afW hi y _ _ B d x hx
  ·exact Gk hi r _ _ z d x hx
end
omit h ho hV in
mutual
theorem ZI:∀ (st:Stmt)(a:Nat)(pl:Level),(Ca (MM p) V st a pl).length≤qM st
 | ⟨k,v,o,e,args,th,el⟩,a,pl=>by
  have hc:=A0 ⟨k,v,o,e,args,th,el⟩
  simp only at hc
  rw [DD,cC]
  split
  ·have h1:=DF th (a+1) (cU (MM p) pl (iH (MM p) V e))
   have h2:=DF el (a+1+bn th) (cU (MM p) pl (iH (MM p) V e))
   grind
  ·simp;omega
theorem DF:∀ (l:List Stmt)(a:Nat)(pl:Level),(lJ (MM p) V l a pl).length≤bn l
 | [],a,pl=>by rw [lJ];simp
 | y::r,a,pl=>by
  have h1:=ZI y a pl
  have h2:=DF r (a+qM y) pl
  grind [lJ,bn]
end
theorem Vg:∀ (rest:List Func)(i a:Nat),p.Funcs.drop i=rest→∀ x∈wC (MM p) V F rest i a,(∃ i:Nat,i≤p.Funcs.length∧bW p i x.s=0)∧bw (MM p) x.pl
 | [],i,a,hd,x,hx=>absurd hx (by simp [wC])
 | f::rest,i,a,hd,x,hx=>by
  obtain ⟨hg,C,hi,w⟩:=Hk h ho hd
  obtain ⟨_,_,f3,_⟩:=G9 w
  rw [wC] at hx
  rcases dk.1 hx with hx | hx
  ·exact Gk (by omega) f.Body _ _ f3 (Pw h ho hV i) x hx
  ·exact Vg rest (i+1) _ C x hx
theorem Cb:∀ x∈nq (MM p) V p F,(∃ i:Nat,i≤p.Funcs.length∧bW p i x.s=0)∧bw (MM p) x.pl:=by
 intro x hx
 unfold nq at hx
 rcases dk.1 hx with hx | hx
 ·exact Vg h ho hV p.Funcs 0 0 rfl x hx
 ·exact Gk (aV _) p.Main _ _ ho.mains (mz _) x hx
omit h ho hV in
theorem R1:∀ (l:List Func)(i a:Nat),(wC (MM p) V F l i a).length≤jG l
 | [],i,a=>by simp [wC]
 | f::r,i,a=>by
  have h1:=DF (p:=p) (V:=V) f.Body a (F.getD i (fA (MM p)))
  have h2:=R1 r (i+1) (a+bn f.Body)
  have c:jG (f::r)=bn f.Body+jG r:=by simp [jG]
  rw [wC,eK,c];omega
theorem Ad:(nq (MM p) V p F).length≤50:=by
 have c:=ho.sum
 grind [R1,DF,nq]
end
end Go.Proofs.YtkkkkondjclcnaaGreat.A
