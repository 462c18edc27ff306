/- Programs: how many commands there are, how deep they stand, what is wrong first; as plain mathematics. -/
import Derived.Test.YtkkkkondjclcnaaGreatEvalS
import Derived.Test.YtkkkkondjclcnaaGreatHeadF
import Derived.Test.YtkkkkondjclcnaaGreatFA
import Derived.Test.YtkkkkondjclcnaaGreatFE
set_option linter.all false
namespace Go.Proofs.YtkkkkondjclcnaaGreat.A
open Go
mutual
def oQ:Stmt→Nat
 | ⟨_,_,_,_,_,t,e⟩=>1+bb t+bb e
def bb:List Stmt→Nat
 | []=>0
 | x::r=>oQ x+bb r
end
mutual
def dep:Stmt→Nat
 | ⟨_,_,_,_,_,t,e⟩=>1+max (dS t) (dS e)
def dS:List Stmt→Nat
 | []=>0
 | x::r=>max (dep x) (dS r)
end
def andThen(q:Bool×Int)(k:Int→Bool×Int):Bool×Int:=if q.1=true then k q.2 else q
mutual
def Mo:Stmt→Int→Int→Bool×Int
 | ⟨_,_,_,_,_,t,e⟩,d,n=>if n+1≤50∧d≤6 then andThen (mY t (d+1) (n+1)) (mY e (d+1)) else (false,n+1)
def mY:List Stmt→Int→Int→Bool×Int
 | [],_,n=>(true,n)
 | x::r,d,n=>andThen (Mo x d n) (mY r d)
end
mutual
def uk(ck:Stmt→Int):Stmt→Int
 | ⟨k,v,o,x,a,t,e⟩=>if ck ⟨k,v,o,x,a,t,e⟩≠0 then ck ⟨k,v,o,x,a,t,e⟩ else if cZ ck t≠0 then cZ ck t else cZ ck e
def cZ(ck:Stmt→Int):List Stmt→Int
 | []=>0
 | x::r=>if uk ck x≠0 then uk ck x else cZ ck r
end
theorem yn(s:Stmt):oQ s=1+bb s.Then+bb s.Else:=by cases s;rw [oQ]
theorem Hr(s:Stmt):dep s=1+max (dS s.Then) (dS s.Else):=by cases s;rw [dep]
theorem Wo(s:Stmt)(d n:Int):Mo s d n=if n+1≤50∧d≤6 then andThen (mY s.Then (d+1) (n+1)) (mY s.Else (d+1)) else (false,n+1):=by cases s;rw [Mo]
theorem Om(ck:Stmt→Int)(s:Stmt):uk ck s=if ck s≠0 then ck s else if cZ ck s.Then≠0 then cZ ck s.Then else cZ ck s.Else:=by cases s;rw [uk]
theorem Wp(s:Stmt):0<oQ s:=by rw [yn];omega
theorem fA:∀ l:List Stmt,l.length≤bb l
 | []=>b9 _
 | x::l=>by have:=fA l;have:=Wp x;rw [bb,bD];omega
theorem FY:∀ {l:List Stmt}{x:Stmt},x∈l→oQ x≤bb l
 | y::l,x,h=>by
  rw [bb]
  rcases cQ.1 h with rfl | h
  ·omega
  ·have:=FY h;omega
theorem FZ:∀ {l:List Stmt}{x:Stmt},x∈l→dep x≤dS l
 | y::l,x,h=>by
  rw [dS]
  rcases cQ.1 h with rfl | h
  ·omega
  ·have:=FZ h;omega
theorem yp{q:Bool×Int}{k:Int→Bool×Int}{m:Int} : andThen q k=(true,m)↔∃ j,q=(true,j)∧k j=(true,m):=by
 obtain ⟨b,j⟩:=q
 cases b with
 | true=>simp [andThen]
 | false=>simp [andThen]
mutual
theorem Mp(s:Stmt)(d n m:Int)(hn:n≤50)(hd:d≤7):Mo s d n=(true,m)↔m=n+oQ s∧n+oQ s≤50∧d+dep s≤7:=by
 match s with
 | ⟨k,v,o,x,a,t,e⟩=>
  rw [Mo,oQ,dep]
  by_cases h:n+1≤50∧d≤6
  ·rw [aa h,yp]
   constructor
   ·rintro ⟨j,h1,h2⟩
    obtain ⟨rfl,h3,h4⟩:=(jx t (d+1) (n+1) j h.1 (by omega)).1 h1
    obtain ⟨rfl,h5,h6⟩:=(jx e (d+1) _ m h3 (by omega)).1 h2
    exact ⟨by omega,by omega,by omega⟩
   ·rintro ⟨rfl,h1,h2⟩
    exact ⟨_,(jx t (d+1) (n+1) _ h.1 (by omega)).2 ⟨rfl,by omega,by omega⟩,(jx e (d+1) _ _ (by omega) (by omega)).2 ⟨by omega,by omega,by omega⟩⟩
  ·rw [ab h]
   constructor
   ·intro h1;cases h1
   ·rintro ⟨rfl,h1,h2⟩;exact absurd ⟨by omega,by omega⟩ h
theorem jx(l:List Stmt)(d n m:Int)(hn:n≤50)(hd:d≤7):mY l d n=(true,m)↔m=n+bb l∧n+bb l≤50∧d+dS l≤7:=by
 match l with
 | []=>
  rw [mY,bb,dS]
  constructor
  ·intro h;obtain ⟨_,rfl⟩:=eR h;exact ⟨by omega,by omega,by omega⟩
  ·rintro ⟨rfl,_,_⟩;simp
 | x::r=>
  rw [mY,bb,dS,yp]
  constructor
  ·rintro ⟨j,h1,h2⟩
   obtain ⟨rfl,h3,h4⟩:=(Mp x d n j hn hd).1 h1
   obtain ⟨rfl,h5,h6⟩:=(jx r d _ m h3 hd).1 h2
   exact ⟨by omega,by omega,by omega⟩
  ·rintro ⟨rfl,h1,h2⟩
   exact ⟨_,(Mp x d n _ hn hd).2 ⟨rfl,by omega,by omega⟩,(jx r d _ _ (by omega) hd).2 ⟨by omega,by omega,by omega⟩⟩
end
def yq(p:Program)(n:Int):Nat:=((p.Funcs[n.toNat]?).map fun f=>f.Params.length).getD 0
def bw(p:Program)(i:Int)(s:Stmt):Int:=
 if s.Kind<1∨8<s.Kind then 7
 else if (ey s.Kind=true∧(s.Var<0∨(p.Vars.length:Int)≤s.Var))∨(fO s.Kind=true∧(s.Other<0∨gI p i s.Kind≤s.Other)) then 5
 else if (ey s.Kind=false∧s.Var≠0)∨(fO s.Kind=false∧s.Other≠0)∨(eu s.Kind=false∧¬(s.Expr.Kind=0∧s.Expr.N=0∧s.Expr.Args.length=0))∨(s.Kind≠2∧0<s.Args.length)∨(s.Kind<7∧0<s.Then.length)∨(s.Kind≠7∧0<s.Else.length) then 1
 else if s.Kind=2∧s.Args.length≠yq p s.Other then 1
 else if eu s.Kind=true∧dT p s.Expr≠0 then dT p s.Expr
 else bK (dT p) s.Args
where
 dT (p:Program) (e:ax):Int:=if 15<sz e then 2 else jH p.Vars.length (mX e)
def oD(v:Int):List Int→List Int→Int
 | _,[]=>0
 | seen,n::r=>if n<0∨v≤n then 5 else if n∈seen then 6 else oD v (seen++[n]) r
def sA(p:Program)(i:Int)(f:Func):Int:=
 if 4<f.Params.length then 2
 else if oD p.Vars.length [] f.Params≠0 then oD p.Vars.length [] f.Params
 else if cZ (bw p i) f.Body≠0 then cZ (bw p i) f.Body
 else bw.dT p f.Result
def kv(p:Program):Nat→List Func→Int
 | _,[]=>0
 | i,f::r=>if sA p i f≠0 then sA p i f else kv p (i+1) r
def kx(main:List Stmt):List Func→Int→Bool×Int
 | [],n=>mY main 1 n
 | f::r,n=>andThen (mY f.Body 1 n) (kx main r)
def px(p:Program):Int:=
 if eL p.ah≠0 then eL p.ah
 else if 16<p.Vars.length∨5<p.Ins.length∨5<p.Outs.length∨5<p.Funcs.length∨p.ah.Many<(p.Speak.length:Int) then 2
 else if p.Speak.any (fun n=>!bN p.ah.Many n) then 5
 else if bK (dC p.ah.Many) (p.Ins++p.Outs)≠0 then bK (dC p.ah.Many) (p.Ins++p.Outs)
 else if bK (fun v:Var=>dC p.ah.Many v.Label) p.Vars≠0 then bK (fun v:Var=>dC p.ah.Many v.Label) p.Vars
 else if p.Vars.any (fun v=>!v.Known&&decide (0<v.Label.Read.length+v.Label.Write.length)) then 1 else 0
def dh(p:Program):Int:=
 if px p≠0 then px p
 else if (kx p.Main p.Funcs 0).1=false then 2
 else if kv p 0 p.Funcs≠0 then kv p 0 p.Funcs
 else cZ (bw p p.Funcs.length) p.Main
abbrev dT(p:Program)(e:ax):Int:=bw.dT p e
mutual
theorem BR{ck:Stmt→Int}{s:Stmt}(h:uk ck s=0):ck s=0∧cZ ck s.Then=0∧cZ ck s.Else=0:=by
 rw [Om] at h
 by_cases h1:ck s=0
 ·rw [ab (by simp [h1])] at h
  by_cases h2:cZ ck s.Then=0
  ·rw [ab (by simp [h2])] at h;exact ⟨h1,h2,h⟩
  ·rw [aa h2] at h;exact absurd h h2
 ·rw [aa h1] at h;exact absurd h h1
end
theorem yr{ck:Stmt→Int} : ∀ {l:List Stmt},cZ ck l=0→∀ s∈l,uk ck s=0
 | y::l,h,x,hx=>by
  rw [cZ] at h
  by_cases hy:uk ck y=0
  ·rw [ab (by simpa using hy)] at h
   rcases cQ.1 hx with rfl | hx
   ·exact hy
   ·exact yr h x hx
  ·rw [aa hy] at h;exact absurd h hy
theorem Mq{p:Program} : ∀ {l:List Func}{i:Nat},kv p i l=0→∀ (k:Nat)(h:k<l.length),sA p (i+k:Nat) l[k]=0
 | y::l,i,h,k,hk=>by
  rw [kv] at h
  by_cases hy:sA p i y=0
  ·rw [ab (by simpa using hy)] at h
   cases k with
   | zero=>simpa using hy
   | succ k=>
    have:=Mq h k (by simpa using hk)
    rw [show i+(k+1)=i+1+k by omega]
    simpa using this
  ·rw [aa hy] at h;exact absurd h hy
theorem On{v:Int} : ∀ {seen l:List Int},oD v seen l=0→∀ n∈l,0≤n∧n<v
 | seen,y::l,h,n,hn=>by
  rw [oD] at h
  split at h
  ·exact absurd h (by decide)
  ·rename_i h1
   split at h
   ·exact absurd h (by decide)
   ·rcases cQ.1 hn with rfl | hn
    ·omega
    ·exact On h n hn
theorem BS{main:List Stmt} : ∀ {l:List Func}{n m:Int},0≤n→n≤50→kx main l n=(true,m)→(∀ f∈l,bb f.Body≤50∧dS f.Body≤6)∧bb main≤50∧dS main≤6∧n≤m∧m≤50∧m=n+((l.map fun f=>bb f.Body).sum:Nat)+bb main
 | [],n,m,h0,hn,h=>by
  rw [kx,jx _ _ _ _ hn (by omega)] at h
  obtain ⟨rfl,h2,h3⟩:=h
  exact ⟨fun f hf=>(by cases hf),by omega,by omega,by omega,by omega,by simp⟩
 | f::r,n,m,h0,hn,h=>by
  rw [kx,yp] at h
  obtain ⟨j,h1,h2⟩:=h
  obtain ⟨rfl,h3,h4⟩:=(jx _ _ _ _ hn (by omega)).1 h1
  obtain ⟨h5,h6,h7,h8,h9,h10⟩:=BS (by omega) h3 h2
  refine ⟨fun g hg=>?_,h6,h7,by omega,h9,?_⟩
  ·rcases cQ.1 hg with rfl | hg
   ·exact ⟨by omega,by omega⟩
   ·exact h5 g hg
  ·rw [h10,cq,vI];omega
structure Dy(p:Program):Prop where
 dK:eL p.ah=0
 vars:p.Vars.length≤16
 ins:p.Ins.length≤5
 outs:p.Outs.length≤5
 funcs:p.Funcs.length≤5
 few:∀ f∈p.Funcs,bb f.Body≤50∧dS f.Body≤6
 main:bb p.Main≤50∧dS p.Main≤6
 fns:∀ (k:Nat)(h:k<p.Funcs.length),sA p k p.Funcs[k]=0
 mains:cZ (bw p p.Funcs.length) p.Main=0
 sum:((p.Funcs.map fun f=>bb f.Body).sum:Nat)+bb p.Main≤50
theorem mZ{p:Program}(h:dh p=0):Dy p:=by
 unfold dh at h
 by_cases h1:px p=0
 ·rw [ab (by simp [h1])] at h
  by_cases h2:(kx p.Main p.Funcs 0).1=false
  ·rw [aa h2] at h;exact absurd h (by decide)
  ·rw [ab h2] at h
   by_cases h3:kv p 0 p.Funcs=0
   ·rw [ab (by simp [h3])] at h
    have h2':kx p.Main p.Funcs 0=(true,(kx p.Main p.Funcs 0).2):=Prod.ext (by simpa using h2) rfl
    obtain ⟨g1,g2,g3,g4,g5,g6⟩:=BS (by decide) (by decide) h2'
    unfold px at h1
    by_cases a1:eL p.ah=0
    ·rw [ab (by simp [a1])] at h1
     by_cases a2:16<p.Vars.length∨5<p.Ins.length∨5<p.Outs.length∨5<p.Funcs.length∨p.ah.Many<(p.Speak.length:Int)
     ·rw [aa a2] at h1;exact absurd h1 (by decide)
     ·exact ⟨a1,by omega,by omega,by omega,by omega,g1,⟨g2,g3⟩,fun k hk=>by simpa using Mq h3 k hk,h,by omega⟩
    ·rw [aa a1] at h1;exact absurd h1 a1
   ·rw [aa h3] at h;exact absurd h h3
 ·rw [aa h1] at h;exact absurd h h1
variable [Lp]
def TN{β γ:Type} : (Int×β)⊕(Int×γ)→Int
 | .inl p=>p.1
 | .inr p=>p.1
theorem wc{n:Int}(h1 : -9223372036854775808≤n)(h2:n≤9223372036854775807):IntKind.i64.wrap n=n:=wrap64 (by omega) (by omega)
theorem m7{k:Nat}(h:k<9223372036854775807):IntKind.i64.wrap ((k:Int)+1)=((k+1:Nat):Int):=fM k h
theorem abP(n:Nat):∀ (e:ax)(m:Int),sz e≤n→0≤m→m≤15→(nJ n).f_scope_size e m=some (min (sz e:Int) (m+1)):=by
 induction n with
 | zero=>intro e m h;have:=xX e;omega
 | succ n ih=>
  intro e m h hm hm15
  show sF (nJ n) e m=_
  unfold sF
  have he:=Ep e
  obtain ⟨x,hx,hQ⟩:=j0 (B:=fun v=>ra (nJ n) e m v.1 v.2) (fun v=>e.Args.length - v.2)
   (fun v=>v.2≤e.Args.length∧v.1=min (1+(oK (e.Args.take v.2):Int)) (m+1)∧(v.2:Int)<v.1+1) (fun x=>TN x=min (sz e:Int) (m+1)) (by
    rintro ⟨v,k⟩ ⟨hk,hv,hkv⟩
    simp only at hk hv hkv ⊢
    have ht:=By e.Args k
    unfold ra
    by_cases hlt:k<e.Args.length
    ·rw [aa (by omega),aA hlt,ae]
     by_cases hmv:m<v
     ·rw [aa hmv]
      exact .inl ⟨_,rfl,by simp only [TN];omega⟩
     ·rw [ab hmv,aa (wc (by omega) (by omega)),ih _ _ (by have:=AD hlt;omega) (by omega) (by omega),ae]
      have hs:=wA hlt
      have hp:=xX e.Args[k]
      rw [aa (wc (by omega) (by omega)),aa (m7 (by omega))]
      exact .inr ⟨_,rfl,⟨by simp only;omega,by simp only;omega,by simp only;omega⟩,by simp only;omega⟩
    ·rw [ab (by omega)]
     have hl:e.Args.take k=e.Args:=lG (by omega)
     rw [hl] at hv
     exact .inl ⟨_,rfl,by simp only [TN];omega⟩) (1,0) ⟨b9 _,by simp [oK];omega,by simp⟩
  rw [hx,ae]
  rcases x with ⟨a,b,c,d⟩ | ⟨a,b,c⟩
  ·exact ak some hQ
  ·exact ak some hQ
theorem Wq{e:ax}{m:Int}(h0:0≤m)(h:m≤15):yb e m=some (min (sz e:Int) (m+1)):=
 Bu (sz e) fun n hn=>abP n e m hn h0 h
theorem Wr(e:ax)(v:Int):ub e v=some (jd v e):=by
 have j1:∀ w:Nat,w=(if 2<e.Kind then 2 else 0)→pn e v w=some (decide ((e.Kind=1∧(e.N < -9999999∨9999999<e.N))∨(2<e.Kind∧e.N≠0))):=by
  intro w hw
  unfold pn gE
  by_cases h2:2<e.Kind
  ·rw [aa h2] at hw
   subst hw
   have h1:¬e.Kind=1:=by omega
   by_cases hn:e.N=0<;>simp [h1,h2,hn]
  ·rw [ab h2] at hw
   subst hw
   by_cases h1:e.Kind=1
   ·by_cases h3:e.N < -9999999
    ·simp [h1,h3]
    ·by_cases h4:9999999<e.N<;>simp [h1,h3,h4]
   ·simp [h1,h2]
 have d1:∀ w:Nat,w=(if 2<e.Kind then 2 else 0)→¬(e.Kind<1∨7<e.Kind)→((mE e v w).bind fun (x4:(Unit⊕(Unit⊕(Unit⊕Unit))))=>match x4 with
   | .inl ()=>some (1:Int)
   | .inr (.inl ())=>some 3
   | .inr (.inr (.inl ()))=>some 5
   | .inr (.inr (.inr ()))=>some 0)=some (jd v e):=by
  intro w hw hk
  unfold mE jd
  rw [ab hk,←hw]
  by_cases hl:e.Args.length=w
  ·rw [j1 w hw,ab (show ¬((e.Args.length:Int) !=(w:Int))=true by simp [hl]),ab (show ¬e.Args.length≠w from fun h=>h hl),ae]
   by_cases hc:(e.Kind=1∧(e.N < -9999999∨9999999<e.N))∨(2<e.Kind∧e.N≠0)
   ·rw [aa hc,av hc];rfl
   ·rw [ab hc,aw hc,ab (by decide)]
    by_cases h2:e.Kind=2
    ·by_cases h3:e.N<0
     ·simp [h2,h3]
     ·by_cases h4:v≤e.N<;>simp [h2,h3,h4]
    ·simp [h2]
  ·rw [aa (show ((e.Args.length:Int) !=(w:Int))=true by simp;omega),aa (show e.Args.length≠w from hl)];rfl
 unfold ub
 by_cases h1:e.Kind<1
 ·rw [aa h1];simp [jd,h1]
 rw [ab h1]
 by_cases h7:7<e.Kind
 ·rw [aa h7];simp [jd,h7]
 rw [ab h7]
 by_cases h2:2<e.Kind
 ·rw [aa h2]
  exact d1 2 (by rw [aa h2]) (by omega)
 ·rw [ab h2]
  exact d1 0 (by rw [ab h2]) (by omega)
theorem Rz(v:Int)(e:ax):jH v (mX e)=if jd v e≠0 then jd v e else jH v (eN e.Args):=by rw [AB,jH]
theorem Ws(v:Int)(n:Nat):∀ (e:ax),sz e≤n→sz e≤15→(ml n).f_scope_parts e v=some (jH v (mX e)):=by
 induction n with
 | zero=>intro e h;have:=xX e;omega
 | succ n ih=>
  intro e h h15
  show rb (ml n) e v=_
  unfold rb
  rw [Wr,ae,Rz]
  have he:=Ep e
  have hlen:=IE e.Args
  by_cases hp:jd v e=0
  ·rw [ab (by simp [hp]),ab (by simp [hp])]
   obtain ⟨x,hx,hQ⟩:=j0 (B:=fun k=>po (ml n) e v k) (fun k=>e.Args.length - k)
    (fun k=>k≤e.Args.length∧jH v (eN (e.Args.take k))=0) (fun x=>(match x with
     | .inl y=>y
     | .inr _=>0)=jH v (eN e.Args)) (by
     rintro k ⟨hk,hv⟩
     unfold po
     by_cases hlt:k<e.Args.length
     ·rw [aa (by omega),aA hlt,ae,ih _ (by have:=AD hlt;omega) (by have:=AD hlt;omega),ae]
      have hs:=zE hlt
      have hf:=Aj v (eN (e.Args.take k)) (mX e.Args[k])
      rw [←hs,ab (by simp [hv])] at hf
      by_cases h0:jH v (mX e.Args[k])=0
      ·rw [ab (by simp [h0]),aa (m7 (by omega))]
       exact .inr ⟨_,rfl,⟨by omega,by rw [hf,h0]⟩,by omega⟩
      ·rw [aa (by simp [h0])]
       refine .inl ⟨_,rfl,?_⟩
       have hd:eN e.Args=eN (e.Args.take (k+1))++eN (e.Args.drop (k+1)):=by rw [←xY,vA]
       rw [hd,Aj,hf,aa h0]
     ·rw [ab (by omega)]
      have hl:e.Args.take k=e.Args:=lG (by omega)
      rw [hl] at hv
      exact .inl ⟨_,rfl,hv.symm⟩) 0 ⟨b9 _,by simp [eN,jH]⟩
   rw [hx,ae]
   rcases x with a | ⟨a,b⟩
   ·exact ak some hQ
   ·exact ak some hQ
  ·rw [aa (by simp [hp]),aa hp]
theorem TO{e:ax}{v:Int}(h:sz e≤15):wE e v=some (jH v (mX e)):=Bu (sz e) fun n hn=>Ws v n e hn h
def Hs(v:Int)(e:ax):Int:=if 15<sz e then 2 else jH v (mX e)
theorem Wt(e:ax)(v:Int):jI e v=some (Hs v e):=by
 unfold jI Hs
 rw [Wq (by decide) (by decide),ae]
 by_cases h:15<sz e
 ·rw [aa (by omega),aa h]
 ·rw [ab (by omega),ab h,TO (by omega)];rfl
end Go.Proofs.YtkkkkondjclcnaaGreat.A
