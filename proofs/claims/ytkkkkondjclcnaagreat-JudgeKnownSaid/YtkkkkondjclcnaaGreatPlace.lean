/- All commands with their numbers and places, in order; walks as rounds over them. -/
import Derived.Test.YtkkkkondjclcnaaGreatInfP
set_option linter.unusedSectionVars false
set_option linter.unusedVariables false
set_option linter.unusedSimpArgs false
set_option linter.constructorNameAsVariable false
namespace Go.Proofs.YtkkkkondjclcnaaGreat.A
open Go
structure Kj where
 s:Stmt
 a:Nat
 pl:Level
section
variable (n:Nat)(V:List Level)
mutual
def DJ:Stmt→Nat→Level→List Kj
 | ⟨k,v,o,e,args,th,el⟩,a,pl=>⟨⟨k,v,o,e,args,th,el⟩,a,pl⟩::if 7≤k then qI th (a+1) (cg n pl (gX n V e))++qI el (a+1+bK th) (cg n pl (gX n V e)) else []
def qI:List Stmt→Nat→Level→List Kj
 | [],_,_=>[]
 | x::r,a,pl=>DJ x a pl++qI r (a+rZ x) pl
end
theorem HY(s:Stmt)(a:Nat)(pl:Level):DJ n V s a pl=⟨s,a,pl⟩::if 7≤s.Kind then qI n V s.Then (a+1) (cg n pl (gX n V s.Expr))++qI n V s.Else (a+1+bK s.Then) (cg n pl (gX n V s.Expr)) else []:=by
 cases s;rw [DJ]
def wT(F:List Level):List Func→Nat→Nat→List Kj
 | [],_,_=>[]
 | f::r,i,a=>qI n V f.Body a (F.getD i (dZ n))++wT F r (i+1) (a+bK f.Body)
def qJ(p:Program)(F:List Level):List Kj:=wT n V F p.Funcs 0 0++qI n V p.Main (fi p.Funcs) (dZ n)
variable {n V}{T:Stmt→Level→Prop}
mutual
theorem RD:∀ (s:Stmt)(a:Nat)(pl:Level),yT n V T s pl↔∀ x∈DJ n V s a pl,T x.s x.pl
 | ⟨k,v,o,e,args,th,el⟩,a,pl=>by
  rw [yT,DJ,List.forall_mem_cons]
  refine and_congr_right fun _=>?_
  by_cases h7:7≤k
  ·rw [if_pos h7,List.forall_mem_append,←yh th,←yh el]
   exact ⟨fun h=>h h7,fun h _=>h⟩
  ·rw [if_neg h7]
   exact ⟨fun _ _ h=>absurd h (by simp),fun _ h=>absurd h h7⟩
theorem yh:∀ (l:List Stmt)(a:Nat)(pl:Level),nE n V T l pl↔∀ x∈qI n V l a pl,T x.s x.pl
 | [],a,pl=>by rw [nE,qI];exact ⟨fun _ _ h=>absurd h (by simp),fun _=>trivial⟩
 | x::r,a,pl=>by rw [nE,qI,List.forall_mem_append,←RD x,←yh r]
end
theorem Kk{F:List Level} : ∀ (l:List Func)(i a:Nat),i+l.length≤F.length→(Cn n V T F l i↔∀ x∈wT n V F l i a,T x.s x.pl)
 | [],i,a,_=>⟨fun _ _ h=>absurd h (by simp [wT]),fun _=>trivial⟩
 | f::r,i,a,h=>by
  have hi:i<F.length:=by simp only [List.length_cons] at h;omega
  have hq:F[i]? =some F[i]:=List.getElem?_eq_getElem hi
  have hd:F.getD i (dZ n)=F[i]:=by rw [List.getD_eq_getElem?_getD,hq];rfl
  rw [Cn,wT,List.forall_mem_append,←Kk r (i+1) (a+bK f.Body) (by simp only [List.length_cons] at h;omega),←yh f.Body,hd]
  exact and_congr_left fun _=>⟨fun g=>g _ hq,fun g q hq'=>by rw [hq] at hq';cases hq';exact g⟩
theorem Kl{p:Program}{F:List Level}(h:F.length=p.Funcs.length):vP n V T p F↔∀ x∈qJ n V p F,T x.s x.pl:=by
 unfold vP qJ
 rw [List.forall_mem_append,←Kk p.Funcs 0 0 (by omega),←yh p.Main]
end
def lX{σ β:Type}(g:σ→β→Option σ):List β→σ→Option σ
 | [],s=>some s
 | x::r,s=>(g s x).bind fun t=>lX g r t
theorem oJ{σ β:Type}(g:σ→β→Option σ):∀ (a b:List β)(s:σ),lX g (a++b) s=(lX g a s).bind fun t=>lX g b t
 | [],b,s=>rfl
 | x::a,b,s=>by
  show (g s x).bind _=((g s x).bind _).bind _
  rw [Option.bind_assoc]
  cases g s x with
  | none=>rfl
  | some t=>exact oJ g a b t
variable [Lp]
section
variable {p:Program}(h:pV p)(ho:zy p){V F:List Level}(hV:gY p V F){σ:Type}(dof:Nat→Stmt→Level→σ→Option σ)
def DK(s:σ)(x:Kj):Option σ:=dof x.a x.s x.pl s
theorem RE{i:Int}{s:Stmt}(h:bg p i s=0)(hk:¬7≤s.Kind):s.Then=[]∧s.Else=[]:=by
 have hk0:s.Kind<7:=by omega
 unfold bg at h
 split at h
 ·exact absurd h (by decide)
 split at h
 ·exact absurd h (by decide)
 split at h
 ·exact absurd h (by decide)
 ·rename_i h3
  constructor
  ·rcases Nat.eq_zero_or_pos s.Then.length with hz | hz
   ·exact List.length_eq_zero_iff.1 hz
   ·exact absurd (.inr (.inr (.inr (.inr (.inl ⟨hk0,hz⟩))))) h3
  ·rcases Nat.eq_zero_or_pos s.Else.length with hz | hz
   ·exact List.length_eq_zero_iff.1 hz
   ·exact absurd (.inr (.inr (.inr (.inr (.inr ⟨by omega,hz⟩))))) h3
include h ho hV
mutual
theorem PE{i:Nat}(hi:i≤p.Funcs.length):∀ (st:Stmt)(a:Nat)(pl:Level)(s:σ),xr (bg p i) st=0→rZ st≤50→a+rZ st≤1000→bz (MM p) pl→
  Be p (fun _=>V) dof st a pl s=(lX (DK dof) (DJ (MM p) V st a pl) s).map fun t=>(a+rZ st,t)
 | ⟨k,v,o,e,args,th,el⟩,a,pl,s,he,hc,ha,hpl=>by
  obtain ⟨e1,e2,e3⟩:=yM he
  have hlen:=(yS h ho hi hV hV (HR _ _) hpl hpl (le_refl _ _) e1).1
  have hcnt:=xW ⟨k,v,o,e,args,th,el⟩
  have l1:=kq th
  have l2:=kq el
  simp only at hlen hcnt e2 e3
  rw [Cl,if_pos ⟨by omega,by simp only;omega,by simp only;omega,by simp only;omega⟩,HY]
  show (dof a _ pl s).bind _=((dof a _ pl s).bind _).map _
  cases dof a ⟨k,v,o,e,args,th,el⟩ pl s with
  | none=>rfl
  | some t=>
   simp only [Option.bind_some]
   by_cases h7:7≤k
   ·have hex:=(vd e1).2.2.2.2.1 (by simp only [fF];exact decide_eq_true ⟨by omega,by omega⟩)
    simp only at hex
    have hsz:=dC (MM p) pl (gX (MM p) V e)
    rw [if_pos h7,if_pos h7,of_eq h hV hex hpl,Option.bind_some,vQ hi th (a+1) _ t e2 (by omega) (by omega) hsz,oJ]
    cases lX (DK dof) (qI (MM p) V th (a+1) (cg (MM p) pl (gX (MM p) V e))) t with
    | none=>rfl
    | some u=>
     simp only [Option.map_some,Option.bind_some]
     rw [vQ hi el (a+1+bK th) _ u e3 (by omega) (by omega) hsz,hcnt,show a+(1+bK th+bK el)=a+1+bK th+bK el by omega]
   ·rw [if_neg h7,if_neg h7]
    obtain ⟨z1,z2⟩:=RE e1 h7
    simp only at z1 z2
    subst z1 z2
    rw [hcnt];simp [bK,lX]
theorem vQ{i:Nat}(hi:i≤p.Funcs.length):∀ (l:List Stmt)(a:Nat)(pl:Level)(s:σ),cM (bg p i) l=0→bK l≤50→a+bK l≤1000→bz (MM p) pl→
  jE p (fun _=>V) dof l a pl s=(lX (DK dof) (qI (MM p) V l a pl) s).map fun t=>(a+bK l,t)
 | [],a,pl,s,he,hc,ha,hpl=>by rw [jE,qI,bK];rfl
 | x::r,a,pl,s,he,hc,ha,hpl=>by
  rw [bK] at hc ha
  have he1:=vL he x (by simp)
  have he2:cM (bg p i) r=0:=by
   rw [cM,if_neg (by simp [he1])] at he;exact he
  rw [jE,qI,PE hi x a pl s he1 (by omega) (by omega) hpl,oJ]
  cases lX (DK dof) (DJ (MM p) V x a pl) s with
  | none=>rfl
  | some t=>
   simp only [Option.map_some,Option.bind_some]
   rw [vQ hi r (a+rZ x) pl t he2 (by omega) (by omega) hpl,bK,Nat.add_assoc]
end
theorem Ni(i:Nat):bz (MM p) (F.getD i (dZ (MM p))):=by
 rw [List.getD_eq_getElem?_getD]
 cases hq:F[i]? with
 | none=>exact mI _
 | some q=>exact HU hV.fs hq
theorem HZ:∀ (rest:List Func)(i a:Nat)(s:σ),p.Funcs.drop i=rest→fi rest≤50→a+fi rest≤1000→
  uP p (fun _=>V) (fun _=>F) dof rest i a s=(lX (DK dof) (wT (MM p) V F rest i a) s).map fun t=>(a+fi rest,t)
 | [],i,a,s,hd,hs,ha=>rfl
 | f::rest,i,a,s,hd,hs,ha=>by
  obtain ⟨hg,hd2,hi,hfn⟩:=EJ h ho hd
  obtain ⟨_,_,f3,_⟩:=Bd hfn
  have hsum:fi (f::rest)=bK f.Body+fi rest:=by simp [fi]
  rw [hsum] at hs ha
  have hl:=kq f.Body
  have hiF:i<F.length:=by rw [hV.fl];exact hi
  have hq:=List.getElem?_eq_getElem hiF
  have hd:F.getD i (dZ (MM p))=F[i]:=by rw [List.getD_eq_getElem?_getD,hq];rfl
  have hz:=Ni h ho hV i
  rw [uP,if_pos (by omega),hq,Option.bind_some,wT,hd,oJ]
  rw [hd] at hz
  rw [vQ h ho hV dof (by omega) f.Body a _ s f3 (by omega) (by omega) hz]
  cases lX (DK dof) (qI (MM p) V f.Body a F[i]) s with
  | none=>rfl
  | some t=>
   simp only [Option.map_some,Option.bind_some]
   rw [HZ rest (i+1) (a+bK f.Body) t hd2 (by omega) (by omega),hsum,Nat.add_assoc]
theorem ZO(s:σ):∃ a,vO p (fun _=>V) (fun _=>F) dof s=(lX (DK dof) (qJ (MM p) V p F) s).map fun t=>(a,t):=by
 have hsum:=ho.sum
 have hf:=ho.funcs
 have hm:=ho.main
 have hl:=kq p.Main
 refine ⟨fi p.Funcs+bK p.Main,?_⟩
 unfold vO qJ
 rw [if_pos (by omega),HZ h ho hV dof p.Funcs 0 0 s rfl (show fi p.Funcs≤50 by unfold fi;omega) (show 0+fi p.Funcs≤1000 by unfold fi;omega),oJ]
 cases lX (DK dof) (wT (MM p) V F p.Funcs 0 0) s with
 | none=>rfl
 | some t=>
  simp only [Option.map_some,Option.bind_some]
  rw [tQ h,Option.bind_some,Nat.zero_add,vQ h ho hV dof (Nat.le_refl _) p.Main _ _ t ho.mains (by omega) (by unfold fi;omega) (mI _)]
omit h ho hV in
mutual
theorem Vp{i:Nat}(hi:i≤p.Funcs.length):∀ (st:Stmt)(a:Nat)(pl:Level),xr (bg p i) st=0→bz (MM p) pl→∀ x∈DJ (MM p) V st a pl,(∃ i:Nat,i≤p.Funcs.length∧bg p i x.s=0)∧bz (MM p) x.pl
 | ⟨k,v,o,e,args,th,el⟩,a,pl,he,hpl,x,hx=>by
  obtain ⟨e1,e2,e3⟩:=yM he
  rw [HY] at hx
  rcases List.mem_cons.1 hx with rfl | hx
  ·exact ⟨⟨i,hi,e1⟩,hpl⟩
  ·split at hx
   ·have hsz:=dC (MM p) pl (gX (MM p) V e)
    rcases List.mem_append.1 hx with hx | hx
    ·exact Aw hi th _ _ e2 hsz x hx
    ·exact Aw hi el _ _ e3 hsz x hx
   ·exact absurd hx (by simp)
theorem Aw{i:Nat}(hi:i≤p.Funcs.length):∀ (l:List Stmt)(a:Nat)(pl:Level),cM (bg p i) l=0→bz (MM p) pl→∀ x∈qI (MM p) V l a pl,(∃ i:Nat,i≤p.Funcs.length∧bg p i x.s=0)∧bz (MM p) x.pl
 | [],a,pl,he,hpl,x,hx=>by rw [qI] at hx;exact absurd hx (by simp)
 | y::r,a,pl,he,hpl,x,hx=>by
  have he1:=vL he y (by simp)
  have he2:cM (bg p i) r=0:=by
   rw [cM,if_neg (by simp [he1])] at he;exact he
  rw [qI] at hx
  rcases List.mem_append.1 hx with hx | hx
  ·exact Vp hi y _ _ he1 hpl x hx
  ·exact Aw hi r _ _ he2 hpl x hx
end
omit h ho hV in
mutual
theorem RF:∀ (st:Stmt)(a:Nat)(pl:Level),(DJ (MM p) V st a pl).length≤rZ st
 | ⟨k,v,o,e,args,th,el⟩,a,pl=>by
  have hc:=xW ⟨k,v,o,e,args,th,el⟩
  simp only at hc
  rw [HY,List.length_cons]
  split
  ·have h1:=yi th (a+1) (cg (MM p) pl (gX (MM p) V e))
   have h2:=yi el (a+1+bK th) (cg (MM p) pl (gX (MM p) V e))
   rw [List.length_append];simp only;omega
  ·simp;omega
theorem yi:∀ (l:List Stmt)(a:Nat)(pl:Level),(qI (MM p) V l a pl).length≤bK l
 | [],a,pl=>by rw [qI];simp
 | y::r,a,pl=>by
  have h1:=RF y a pl
  have h2:=yi r (a+rZ y) pl
  rw [qI,List.length_append,bK];omega
end
theorem Nj:∀ (rest:List Func)(i a:Nat),p.Funcs.drop i=rest→∀ x∈wT (MM p) V F rest i a,(∃ i:Nat,i≤p.Funcs.length∧bg p i x.s=0)∧bz (MM p) x.pl
 | [],i,a,hd,x,hx=>absurd hx (by simp [wT])
 | f::rest,i,a,hd,x,hx=>by
  obtain ⟨hg,hd2,hi,hfn⟩:=EJ h ho hd
  obtain ⟨_,_,f3,_⟩:=Bd hfn
  rw [wT] at hx
  rcases List.mem_append.1 hx with hx | hx
  ·exact Aw (by omega) f.Body _ _ f3 (Ni h ho hV i) x hx
  ·exact Nj rest (i+1) _ hd2 x hx
theorem FE:∀ x∈qJ (MM p) V p F,(∃ i:Nat,i≤p.Funcs.length∧bg p i x.s=0)∧bz (MM p) x.pl:=by
 intro x hx
 unfold qJ at hx
 rcases List.mem_append.1 hx with hx | hx
 ·exact Nj h ho hV p.Funcs 0 0 rfl x hx
 ·exact Aw (Nat.le_refl _) p.Main _ _ ho.mains (mI _) x hx
omit h ho hV in
theorem Km:∀ (l:List Func)(i a:Nat),(wT (MM p) V F l i a).length≤fi l
 | [],i,a=>by simp [wT]
 | f::r,i,a=>by
  have h1:=yi (p:=p) (V:=V) f.Body a (F.getD i (dZ (MM p)))
  have h2:=Km r (i+1) (a+bK f.Body)
  have hsum:fi (f::r)=bK f.Body+fi r:=by simp [fi]
  rw [wT,List.length_append,hsum];omega
theorem LA:(qJ (MM p) V p F).length≤50:=by
 have hsum:=ho.sum
 have h1:=Km (p:=p) (V:=V) (F:=F) p.Funcs 0 0
 have h2:=yi (p:=p) (V:=V) p.Main (fi p.Funcs) (dZ (MM p))
 have h3:fi p.Funcs+bK p.Main≤50:=hsum
 unfold qJ
 rw [List.length_append]
 omega
end
end Go.Proofs.YtkkkkondjclcnaaGreat.A
