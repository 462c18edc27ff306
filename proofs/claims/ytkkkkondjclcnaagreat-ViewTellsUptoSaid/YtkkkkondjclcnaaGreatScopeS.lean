/- Programs: how many commands there are, how deep they stand, what is wrong first; as plain mathematics. -/
import Derived.Test.YtkkkkondjclcnaaGreatEvalS
import Derived.Test.YtkkkkondjclcnaaGreatHeadF
import Derived.Test.YtkkkkondjclcnaaGreatFA
import Derived.Test.YtkkkkondjclcnaaGreatFE
set_option linter.all false
namespace Go.Proofs.YtkkkkondjclcnaaGreat.A
open Go
mutual
def sA:Stmt→Nat
 | ⟨_,_,_,_,_,t,e⟩=>1+br t+br e
def br:List Stmt→Nat
 | []=>0
 | x::r=>sA x+br r
end
mutual
def dep:Stmt→Nat
 | ⟨_,_,_,_,_,t,e⟩=>1+max (dX t) (dX e)
def dX:List Stmt→Nat
 | []=>0
 | x::r=>max (dep x) (dX r)
end
def andThen(q:Bool×Int)(k:Int→Bool×Int):Bool×Int:=if q.1=true then k q.2 else q
mutual
def Md:Stmt→Int→Int→Bool×Int
 | ⟨_,_,_,_,_,t,e⟩,d,n=>if n+1≤50∧d≤6 then andThen (nz t (d+1) (n+1)) (nz e (d+1)) else (false,n+1)
def nz:List Stmt→Int→Int→Bool×Int
 | [],_,n=>(true,n)
 | x::r,d,n=>andThen (Md x d n) (nz r d)
end
mutual
def vf(ck:Stmt→Int):Stmt→Int
 | ⟨k,v,o,x,a,t,e⟩=>if ck ⟨k,v,o,x,a,t,e⟩≠0 then ck ⟨k,v,o,x,a,t,e⟩ else if dj ck t≠0 then dj ck t else dj ck e
def dj(ck:Stmt→Int):List Stmt→Int
 | []=>0
 | x::r=>if vf ck x≠0 then vf ck x else dj ck r
end
theorem AK(s:Stmt):sA s=1+br s.Then+br s.Else:=by cases s;rw [sA]
theorem Hh(s:Stmt):dep s=1+max (dX s.Then) (dX s.Else):=by cases s;rw [dep]
theorem Wv(s:Stmt)(d n:Int):Md s d n=if n+1≤50∧d≤6 then andThen (nz s.Then (d+1) (n+1)) (nz s.Else (d+1)) else (false,n+1):=by cases s;rw [Md]
theorem Og(ck:Stmt→Int)(s:Stmt):vf ck s=if ck s≠0 then ck s else if dj ck s.Then≠0 then dj ck s.Then else dj ck s.Else:=by cases s;rw [vf]
theorem Ww(s:Stmt):0<sA s:=by rw [AK];omega
theorem jB:∀ l:List Stmt,l.length≤br l
 | []=>ct _
 | x::l=>by have:=jB l;have:=Ww x;rw [br,bu];omega
theorem FH:∀ {l:List Stmt}{x:Stmt},x∈l→sA x≤br l
 | y::l,x,h=>by
  rw [br]
  rcases cR.1 h with rfl | h
  ·omega
  ·have:=FH h;omega
theorem FI:∀ {l:List Stmt}{x:Stmt},x∈l→dep x≤dX l
 | y::l,x,h=>by
  rw [dX]
  rcases cR.1 h with rfl | h
  ·omega
  ·have:=FI h;omega
theorem ye{q:Bool×Int}{k:Int→Bool×Int}{m:Int} : andThen q k=(true,m)↔∃ j,q=(true,j)∧k j=(true,m):=by
 obtain ⟨b,j⟩:=q
 cases b with
 | true=>simp [andThen]
 | false=>simp [andThen]
mutual
theorem Me(s:Stmt)(d n m:Int)(hn:n≤50)(hd:d≤7):Md s d n=(true,m)↔m=n+sA s∧n+sA s≤50∧d+dep s≤7:=by
 match s with
 | ⟨k,v,o,x,a,t,e⟩=>
  rw [Md,sA,dep]
  by_cases h:n+1≤50∧d≤6
  ·rw [ab h,ye]
   constructor
   ·rintro ⟨j,h1,h2⟩
    obtain ⟨rfl,h3,h4⟩:=(jC t (d+1) (n+1) j h.1 (by omega)).1 h1
    obtain ⟨rfl,h5,h6⟩:=(jC e (d+1) _ m h3 (by omega)).1 h2
    exact ⟨by omega,by omega,by omega⟩
   ·rintro ⟨rfl,h1,h2⟩
    exact ⟨_,(jC t (d+1) (n+1) _ h.1 (by omega)).2 ⟨rfl,by omega,by omega⟩,(jC e (d+1) _ _ (by omega) (by omega)).2 ⟨by omega,by omega,by omega⟩⟩
  ·rw [ad h]
   constructor
   ·intro h1;cases h1
   ·rintro ⟨rfl,h1,h2⟩;exact absurd ⟨by omega,by omega⟩ h
theorem jC(l:List Stmt)(d n m:Int)(hn:n≤50)(hd:d≤7):nz l d n=(true,m)↔m=n+br l∧n+br l≤50∧d+dX l≤7:=by
 match l with
 | []=>
  rw [nz,br,dX]
  constructor
  ·intro h;obtain ⟨_,rfl⟩:=eJ h;exact ⟨by omega,by omega,by omega⟩
  ·rintro ⟨rfl,_,_⟩;simp
 | x::r=>
  rw [nz,br,dX,ye]
  constructor
  ·rintro ⟨j,h1,h2⟩
   obtain ⟨rfl,h3,h4⟩:=(Me x d n j hn hd).1 h1
   obtain ⟨rfl,h5,h6⟩:=(jC r d _ m h3 hd).1 h2
   exact ⟨by omega,by omega,by omega⟩
  ·rintro ⟨rfl,h1,h2⟩
   exact ⟨_,(Me x d n _ hn hd).2 ⟨rfl,by omega,by omega⟩,(jC r d _ _ (by omega) hd).2 ⟨by omega,by omega,by omega⟩⟩
end
def yf(p:Program)(n:Int):Nat:=((p.Funcs[n.toNat]?).map fun f=>f.Params.length).getD 0
def bO(p:Program)(i:Int)(s:Stmt):Int:=
 if s.Kind<1∨8<s.Kind then 7
 else if (eC s.Kind=true∧(s.Var<0∨(p.Vars.length:Int)≤s.Var))∨(fT s.Kind=true∧(s.Other<0∨gP p i s.Kind≤s.Other)) then 5
 else if (eC s.Kind=false∧s.Var≠0)∨(fT s.Kind=false∧s.Other≠0)∨(eD s.Kind=false∧¬(s.Expr.Kind=0∧s.Expr.N=0∧s.Expr.Args.length=0))∨(s.Kind≠2∧0<s.Args.length)∨(s.Kind<7∧0<s.Then.length)∨(s.Kind≠7∧0<s.Else.length) then 1
 else if s.Kind=2∧s.Args.length≠yf p s.Other then 1
 else if eD s.Kind=true∧er p s.Expr≠0 then er p s.Expr
 else bg (er p) s.Args
where
 er (p:Program) (e:az):Int:=if 15<sz e then 2 else jS p.Vars.length (nv e)
def oO(v:Int):List Int→List Int→Int
 | _,[]=>0
 | seen,n::r=>if n<0∨v≤n then 5 else if n∈seen then 6 else oO v (seen++[n]) r
def sB(p:Program)(i:Int)(f:Func):Int:=
 if 4<f.Params.length then 2
 else if oO p.Vars.length [] f.Params≠0 then oO p.Vars.length [] f.Params
 else if dj (bO p i) f.Body≠0 then dj (bO p i) f.Body
 else bO.er p f.Result
def kJ(p:Program):Nat→List Func→Int
 | _,[]=>0
 | i,f::r=>if sB p i f≠0 then sB p i f else kJ p (i+1) r
def kK(main:List Stmt):List Func→Int→Bool×Int
 | [],n=>nz main 1 n
 | f::r,n=>andThen (nz f.Body 1 n) (kK main r)
def pH(p:Program):Int:=
 if eP p.aj≠0 then eP p.aj
 else if 16<p.Vars.length∨5<p.Ins.length∨5<p.Outs.length∨5<p.Funcs.length∨p.aj.Many<(p.Speak.length:Int) then 2
 else if p.Speak.any (fun n=>!bL p.aj.Many n) then 5
 else if bg (dE p.aj.Many) (p.Ins++p.Outs)≠0 then bg (dE p.aj.Many) (p.Ins++p.Outs)
 else if bg (fun v:Var=>dE p.aj.Many v.Label) p.Vars≠0 then bg (fun v:Var=>dE p.aj.Many v.Label) p.Vars
 else if p.Vars.any (fun v=>!v.Known&&decide (0<v.Label.Read.length+v.Label.Write.length)) then 1 else 0
def sC(p:Program):Int:=
 if pH p≠0 then pH p
 else if (kK p.Main p.Funcs 0).1=false then 2
 else if kJ p 0 p.Funcs≠0 then kJ p 0 p.Funcs
 else dj (bO p p.Funcs.length) p.Main
abbrev er(p:Program)(e:az):Int:=bO.er p e
mutual
theorem FJ{ck:Stmt→Int}{s:Stmt}(h:vf ck s=0):ck s=0∧dj ck s.Then=0∧dj ck s.Else=0:=by
 rw [Og] at h
 by_cases h1:ck s=0
 ·rw [ad (by simp [h1])] at h
  by_cases h2:dj ck s.Then=0
  ·rw [ad (by simp [h2])] at h;exact ⟨h1,h2,h⟩
  ·rw [ab h2] at h;exact absurd h h2
 ·rw [ab h1] at h;exact absurd h h1
end
theorem BB{ck:Stmt→Int} : ∀ {l:List Stmt},dj ck l=0→∀ s∈l,vf ck s=0
 | y::l,h,x,hx=>by
  rw [dj] at h
  by_cases hy:vf ck y=0
  ·rw [ad (by simpa using hy)] at h
   rcases cR.1 hx with rfl | hx
   ·exact hy
   ·exact BB h x hx
  ·rw [ab hy] at h;exact absurd h hy
theorem Mf{p:Program} : ∀ {l:List Func}{i:Nat},kJ p i l=0→∀ (k:Nat)(h:k<l.length),sB p (i+k:Nat) l[k]=0
 | y::l,i,h,k,hk=>by
  rw [kJ] at h
  by_cases hy:sB p i y=0
  ·rw [ad (by simpa using hy)] at h
   cases k with
   | zero=>simpa using hy
   | succ k=>
    have:=Mf h k (by simpa using hk)
    rw [show i+(k+1)=i+1+k by omega]
    simpa using this
  ·rw [ab hy] at h;exact absurd h hy
theorem Oh{v:Int} : ∀ {seen l:List Int},oO v seen l=0→∀ n∈l,0≤n∧n<v
 | seen,y::l,h,n,hn=>by
  rw [oO] at h
  split at h
  ·exact absurd h (by decide)
  ·rename_i h1
   split at h
   ·exact absurd h (by decide)
   ·rcases cR.1 hn with rfl | hn
    ·omega
    ·exact Oh h n hn
theorem BC{main:List Stmt} : ∀ {l:List Func}{n m:Int},0≤n→n≤50→kK main l n=(true,m)→(∀ f∈l,br f.Body≤50∧dX f.Body≤6)∧br main≤50∧dX main≤6∧n≤m∧m≤50∧m=n+((l.map fun f=>br f.Body).sum:Nat)+br main
 | [],n,m,h0,hn,h=>by
  rw [kK,jC _ _ _ _ hn (by omega)] at h
  obtain ⟨rfl,h2,h3⟩:=h
  exact ⟨fun f hf=>(by cases hf),by omega,by omega,by omega,by omega,by simp⟩
 | f::r,n,m,h0,hn,h=>by
  rw [kK,ye] at h
  obtain ⟨j,h1,h2⟩:=h
  obtain ⟨rfl,h3,h4⟩:=(jC _ _ _ _ hn (by omega)).1 h1
  obtain ⟨h5,h6,h7,h8,h9,h10⟩:=BC (by omega) h3 h2
  refine ⟨fun g hg=>?_,h6,h7,by omega,h9,?_⟩
  ·rcases cR.1 hg with rfl | hg
   ·exact ⟨by omega,by omega⟩
   ·exact h5 g hg
  ·rw [h10,bZ,vL];omega
structure EV(p:Program):Prop where
 dM:eP p.aj=0
 vars:p.Vars.length≤16
 ins:p.Ins.length≤5
 outs:p.Outs.length≤5
 funcs:p.Funcs.length≤5
 few:∀ f∈p.Funcs,br f.Body≤50∧dX f.Body≤6
 main:br p.Main≤50∧dX p.Main≤6
 fns:∀ (k:Nat)(h:k<p.Funcs.length),sB p k p.Funcs[k]=0
 mains:dj (bO p p.Funcs.length) p.Main=0
 sum:((p.Funcs.map fun f=>br f.Body).sum:Nat)+br p.Main≤50
theorem Nv{p:Program}(h:sC p=0):EV p:=by
 unfold sC at h
 by_cases h1:pH p=0
 ·rw [ad (by simp [h1])] at h
  by_cases h2:(kK p.Main p.Funcs 0).1=false
  ·rw [ab h2] at h;exact absurd h (by decide)
  ·rw [ad h2] at h
   by_cases h3:kJ p 0 p.Funcs=0
   ·rw [ad (by simp [h3])] at h
    have h2':kK p.Main p.Funcs 0=(true,(kK p.Main p.Funcs 0).2):=Prod.ext (by simpa using h2) rfl
    obtain ⟨g1,g2,g3,g4,g5,g6⟩:=BC (by decide) (by decide) h2'
    unfold pH at h1
    by_cases a1:eP p.aj=0
    ·rw [ad (by simp [a1])] at h1
     by_cases a2:16<p.Vars.length∨5<p.Ins.length∨5<p.Outs.length∨5<p.Funcs.length∨p.aj.Many<(p.Speak.length:Int)
     ·rw [ab a2] at h1;exact absurd h1 (by decide)
     ·exact ⟨a1,by omega,by omega,by omega,by omega,g1,⟨g2,g3⟩,fun k hk=>by simpa using Mf h3 k hk,h,by omega⟩
    ·rw [ab a1] at h1;exact absurd h1 a1
   ·rw [ab h3] at h;exact absurd h h3
 ·rw [ab h1] at h;exact absurd h h1
variable [Lp]
def TI{β γ:Type} : (Int×β)⊕(Int×γ)→Int
 | .inl p=>p.1
 | .inr p=>p.1
theorem wg{n:Int}(h1 : -9223372036854775808≤n)(h2:n≤9223372036854775807):IntKind.i64.wrap n=n:=wrap64 (by omega) (by omega)
theorem nA{k:Nat}(h:k<9223372036854775807):IntKind.i64.wrap ((k:Int)+1)=((k+1:Nat):Int):=eQ k h
theorem aca(n:Nat):∀ (e:az)(m:Int),sz e≤n→0≤m→m≤15→(nY n).f_scope_size e m=some (min (sz e:Int) (m+1)):=by
 induction n with
 | zero=>intro e m h;have:=xQ e;omega
 | succ n ih=>
  intro e m h hm hm15
  show sH (nY n) e m=_
  unfold sH
  have he:=D9 e
  obtain ⟨x,hx,hQ⟩:=ke (B:=fun v=>qZ (nY n) e m v.1 v.2) (fun v=>e.Args.length - v.2)
   (fun v=>v.2≤e.Args.length∧v.1=min (1+(oZ (e.Args.take v.2):Int)) (m+1)∧(v.2:Int)<v.1+1) (fun x=>TI x=min (sz e:Int) (m+1)) (by
    rintro ⟨v,k⟩ ⟨hk,hv,hkv⟩
    simp only at hk hv hkv ⊢
    have ht:=Bj e.Args k
    unfold qZ
    by_cases hlt:k<e.Args.length
    ·rw [ab (by omega),aB hlt,af]
     by_cases hmv:m<v
     ·rw [ab hmv]
      exact .inl ⟨_,rfl,by simp only [TI];omega⟩
     ·rw [ad hmv,ab (wg (by omega) (by omega)),ih _ _ (by have:=An hlt;omega) (by omega) (by omega),af]
      have hs:=wA hlt
      have hp:=xQ e.Args[k]
      rw [ab (wg (by omega) (by omega)),ab (nA (by omega))]
      exact .inr ⟨_,rfl,⟨by simp only;omega,by simp only;omega,by simp only;omega⟩,by simp only;omega⟩
    ·rw [ad (by omega)]
     have hl:e.Args.take k=e.Args:=lU (by omega)
     rw [hl] at hv
     exact .inl ⟨_,rfl,by simp only [TI];omega⟩) (1,0) ⟨ct _,by simp [oZ];omega,by simp⟩
  rw [hx,af]
  rcases x with ⟨a,b,c,d⟩ | ⟨a,b,c⟩
  ·exact an some hQ
  ·exact an some hQ
theorem Wx{e:az}{m:Int}(h0:0≤m)(h:m≤15):xU e m=some (min (sz e:Int) (m+1)):=
 Bh (sz e) fun n hn=>aca n e m hn h0 h
theorem Wy(e:az)(v:Int):tV e v=some (jg v e):=by
 have j1:∀ w:Nat,w=(if 2<e.Kind then 2 else 0)→pB e v w=some (decide ((e.Kind=1∧(e.N < -9999999∨9999999<e.N))∨(2<e.Kind∧e.N≠0))):=by
  intro w hw
  unfold pB gK
  by_cases h2:2<e.Kind
  ·rw [ab h2] at hw
   subst hw
   have h1:¬e.Kind=1:=by omega
   by_cases hn:e.N=0<;>simp [h1,h2,hn]
  ·rw [ad h2] at hw
   subst hw
   by_cases h1:e.Kind=1
   ·by_cases h3:e.N < -9999999
    ·simp [h1,h3]
    ·by_cases h4:9999999<e.N<;>simp [h1,h3,h4]
   ·simp [h1,h2]
 have d1:∀ w:Nat,w=(if 2<e.Kind then 2 else 0)→¬(e.Kind<1∨7<e.Kind)→((mI e v w).bind fun (x4:(Unit⊕(Unit⊕(Unit⊕Unit))))=>match x4 with
   | .inl ()=>some (1:Int)
   | .inr (.inl ())=>some 3
   | .inr (.inr (.inl ()))=>some 5
   | .inr (.inr (.inr ()))=>some 0)=some (jg v e):=by
  intro w hw hk
  unfold mI jg
  rw [ad hk,←hw]
  by_cases hl:e.Args.length=w
  ·rw [j1 w hw,ad (show ¬((e.Args.length:Int) !=(w:Int))=true by simp [hl]),ad (show ¬e.Args.length≠w from fun h=>h hl),af]
   by_cases hc:(e.Kind=1∧(e.N < -9999999∨9999999<e.N))∨(2<e.Kind∧e.N≠0)
   ·rw [ab hc,av hc];rfl
   ·rw [ad hc,aw hc,ad (by decide)]
    by_cases h2:e.Kind=2
    ·by_cases h3:e.N<0
     ·simp [h2,h3]
     ·by_cases h4:v≤e.N<;>simp [h2,h3,h4]
    ·simp [h2]
  ·rw [ab (show ((e.Args.length:Int) !=(w:Int))=true by simp;omega),ab (show e.Args.length≠w from hl)];rfl
 unfold tV
 by_cases h1:e.Kind<1
 ·rw [ab h1];simp [jg,h1]
 rw [ad h1]
 by_cases h7:7<e.Kind
 ·rw [ab h7];simp [jg,h7]
 rw [ad h7]
 by_cases h2:2<e.Kind
 ·rw [ab h2]
  exact d1 2 (by rw [ab h2]) (by omega)
 ·rw [ad h2]
  exact d1 0 (by rw [ad h2]) (by omega)
theorem Rn(v:Int)(e:az):jS v (nv e)=if jg v e≠0 then jg v e else jS v (eR e.Args):=by rw [Am,jS]
theorem Wz(v:Int)(n:Nat):∀ (e:az),sz e≤n→sz e≤15→(mm n).f_scope_parts e v=some (jS v (nv e)):=by
 induction n with
 | zero=>intro e h;have:=xQ e;omega
 | succ n ih=>
  intro e h h15
  show q8 (mm n) e v=_
  unfold q8
  rw [Wy,af,Rn]
  have he:=D9 e
  have hlen:=It e.Args
  by_cases hp:jg v e=0
  ·rw [ad (by simp [hp]),ad (by simp [hp])]
   obtain ⟨x,hx,hQ⟩:=ke (B:=fun k=>pC (mm n) e v k) (fun k=>e.Args.length - k)
    (fun k=>k≤e.Args.length∧jS v (eR (e.Args.take k))=0) (fun x=>(match x with
     | .inl y=>y
     | .inr _=>0)=jS v (eR e.Args)) (by
     rintro k ⟨hk,hv⟩
     unfold pC
     by_cases hlt:k<e.Args.length
     ·rw [ab (by omega),aB hlt,af,ih _ (by have:=An hlt;omega) (by have:=An hlt;omega),af]
      have hs:=zo hlt
      have hf:=zV v (eR (e.Args.take k)) (nv e.Args[k])
      rw [←hs,ad (by simp [hv])] at hf
      by_cases h0:jS v (nv e.Args[k])=0
      ·rw [ad (by simp [h0]),ab (nA (by omega))]
       exact .inr ⟨_,rfl,⟨by omega,by rw [hf,h0]⟩,by omega⟩
      ·rw [ab (by simp [h0])]
       refine .inl ⟨_,rfl,?_⟩
       have hd:eR e.Args=eR (e.Args.take (k+1))++eR (e.Args.drop (k+1)):=by rw [←xR,vE]
       rw [hd,zV,hf,ab h0]
     ·rw [ad (by omega)]
      have hl:e.Args.take k=e.Args:=lU (by omega)
      rw [hl] at hv
      exact .inl ⟨_,rfl,hv.symm⟩) 0 ⟨ct _,by simp [eR,jS]⟩
   rw [hx,af]
   rcases x with a | ⟨a,b⟩
   ·exact an some hQ
   ·exact an some hQ
  ·rw [ab (by simp [hp]),ab hp]
theorem TJ{e:az}{v:Int}(h:sz e≤15):wE e v=some (jS v (nv e)):=Bh (sz e) fun n hn=>Wz v n e hn h
def Hi(v:Int)(e:az):Int:=if 15<sz e then 2 else jS v (nv e)
theorem WA(e:az)(v:Int):lW e v=some (Hi v e):=by
 unfold lW Hi
 rw [Wx (by decide) (by decide),af]
 by_cases h:15<sz e
 ·rw [ab (by omega),ab h]
 ·rw [ad (by omega),ad h,TJ (by omega)];rfl
end Go.Proofs.YtkkkkondjclcnaaGreat.A
