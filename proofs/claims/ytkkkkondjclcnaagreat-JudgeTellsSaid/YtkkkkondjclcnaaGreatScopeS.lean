/- Programs: how many commands there are, how deep they stand, what is wrong first; as plain mathematics. -/
import Derived.Test.YtkkkkondjclcnaaGreatEvalS
import Derived.Test.YtkkkkondjclcnaaGreatHeadF
import Derived.Test.YtkkkkondjclcnaaGreatFA
import Derived.Test.YtkkkkondjclcnaaGreatFE
set_option linter.all false
namespace Go.Proofs.YtkkkkondjclcnaaGreat.A
open Go
mutual
def qM:Stmt→Nat
 | ⟨_,_,_,_,_,t,e⟩=>1+bn t+bn e
def bn:List Stmt→Nat
 | []=>0
 | x::r=>qM x+bn r
end
mutual
def dep:Stmt→Nat
 | ⟨_,_,_,_,_,t,e⟩=>1+max (eR t) (eR e)
def eR:List Stmt→Nat
 | []=>0
 | x::r=>max (dep x) (eR r)
end
def andThen(q:Bool×Int)(k:Int→Bool×Int):Bool×Int:=if q.1=true then k q.2 else q
mutual
def Pb:Stmt→Int→Int→Bool×Int
 | ⟨_,_,_,_,_,t,e⟩,d,n=>if n+1≤50∧d≤6 then andThen (oF t (d+1) (n+1)) (oF e (d+1)) else (false,n+1)
def oF:List Stmt→Int→Int→Bool×Int
 | [],_,n=>(true,n)
 | x::r,d,n=>andThen (Pb x d n) (oF r d)
end
mutual
def xz(ck:Stmt→Int):Stmt→Int
 | ⟨k,v,o,x,a,t,e⟩=>if ck ⟨k,v,o,x,a,t,e⟩≠0 then ck ⟨k,v,o,x,a,t,e⟩ else if eg ck t≠0 then eg ck t else eg ck e
def eg(ck:Stmt→Int):List Stmt→Int
 | []=>0
 | x::r=>if xz ck x≠0 then xz ck x else eg ck r
end
theorem A0(s:Stmt):qM s=1+bn s.Then+bn s.Else:=by cases s;rw [qM]
theorem J3(s:Stmt):dep s=1+max (eR s.Then) (eR s.Else):=by cases s;rw [dep]
theorem Zt(s:Stmt)(d n:Int):Pb s d n=if n+1≤50∧d≤6 then andThen (oF s.Then (d+1) (n+1)) (oF s.Else (d+1)) else (false,n+1):=by cases s;rw [Pb]
theorem RG(ck:Stmt→Int)(s:Stmt):xz ck s=if ck s≠0 then ck s else if eg ck s.Then≠0 then eg ck s.Then else eg ck s.Else:=by cases s;rw [xz]
theorem Zu(s:Stmt):0<qM s:=by rw [A0];omega
theorem ib:∀ l:List Stmt,l.length≤bn l
 | []=>dc _
 | x::l=>by have:=ib l;grind [Zu,bn]
theorem II:∀ {l:List Stmt}{x:Stmt},x∈l→qM x≤bn l
 | y::l,x,h=>by
  rw [bn]
  rcases eX.1 h with rfl | h
  ·omega
  ·have:=II h;omega
theorem IJ:∀ {l:List Stmt}{x:Stmt},x∈l→dep x≤eR l
 | y::l,x,h=>by
  rw [eR]
  rcases eX.1 h with rfl | h
  ·omega
  ·have:=IJ h;omega
variable {m:Int}
theorem A1{q:Bool×Int}{k:Int→Bool×Int}: andThen q k=(true,m)↔∃ j,q=(true,j)∧k j=(true,m):=by
 grind [andThen]
mutual
theorem Pc(s:Stmt)(d n m:Int)(hn:n≤50)(hd:d≤7):Pb s d n=(true,m)↔m=n+qM s∧n+qM s≤50∧d+dep s≤7:=by
 match s with
 | ⟨k,v,o,x,a,t,e⟩=>
  rw [Pb,qM,dep]
  by_cases h:n+1≤50∧d≤6
  ·rw [ab h,A1]
   constructor
   ·rintro ⟨j,h1,h2⟩
    obtain ⟨rfl,h3,h4⟩:=(kX t (d+1) (n+1) j h.1 (by omega)).1 h1
    obtain ⟨rfl,h5,h6⟩:=(kX e (d+1) _ m h3 (by omega)).1 h2
    grind
   ·rintro ⟨rfl,h1,h2⟩
    exact ⟨_,(kX t (d+1) (n+1) _ h.1 (by omega)).2 ⟨rfl,by omega,by omega⟩,(kX e (d+1) _ _ (by omega) (by omega)).2 (by grind)⟩
  grind
theorem kX(l:List Stmt)(d n m:Int)(hn:n≤50)(hd:d≤7):oF l d n=(true,m)↔m=n+bn l∧n+bn l≤50∧d+eR l≤7:=by
 match l with
 | []=>
  grind [oF,bn,eR]
 | x::r=>
  rw [oF,bn,eR,A1]
  constructor
  ·rintro ⟨j,h1,h2⟩
   obtain ⟨rfl,h3,h4⟩:=(Pc x d n j hn hd).1 h1
   obtain ⟨rfl,h5,h6⟩:=(kX r d _ m h3 hd).1 h2
   grind
  ·rintro ⟨rfl,h1,h2⟩
   exact ⟨_,(Pc x d n _ hn hd).2 ⟨rfl,by omega,by omega⟩,(kX r d _ _ (by omega) hd).2 (by grind)⟩
end
def Gb(p:Program)(n:Int):Nat:=((p.Funcs[n.toNat]?).map fun f=>f.Params.length).getD 0
def bW(p:Program)(i:Int)(s:Stmt):Int:=
 if s.Kind<1∨8<s.Kind then 7
 else if (fv s.Kind=true∧(s.Var<0∨(p.Vars.length:Int)≤s.Var))∨(iv s.Kind=true∧(s.Other<0∨fD p i s.Kind≤s.Other)) then 5
 else if (fv s.Kind=false∧s.Var≠0)∨(iv s.Kind=false∧s.Other≠0)∨(eP s.Kind=false∧¬(s.Expr.Kind=0∧s.Expr.N=0∧s.Expr.Args.length=0))∨(s.Kind≠2∧0<s.Args.length)∨(s.Kind<7∧0<s.Then.length)∨(s.Kind≠7∧0<s.Else.length) then 1
 else if s.Kind=2∧s.Args.length≠Gb p s.Other then 1
 else if eP s.Kind=true∧fL p s.Expr≠0 then fL p s.Expr
 else cj (fL p) s.Args
where
 fL (p:Program) (e:aB):Int:=if 15<sz e then 2 else ll p.Vars.length (gy e)
def ue(v:Int):List Int→List Int→Int
 | _,[]=>0
 | seen,n::r=>if n<0∨v≤n then 5 else if n∈seen then 6 else ue v (seen++[n]) r
def uu(p:Program)(i:Int)(f:Func):Int:=
 if 4<f.Params.length then 2
 else if ue p.Vars.length [] f.Params≠0 then ue p.Vars.length [] f.Params
 else if eg (bW p i) f.Body≠0 then eg (bW p i) f.Body
 else bW.fL p f.Result
def mh(p:Program):Nat→List Func→Int
 | _,[]=>0
 | i,f::r=>if uu p i f≠0 then uu p i f else mh p (i+1) r
def lP(main:List Stmt):List Func→Int→Bool×Int
 | [],n=>oF main 1 n
 | f::r,n=>andThen (oF f.Body 1 n) (lP main r)
def tC(p:Program):Int:=
 if iG p.ak≠0 then iG p.ak
 else if 16<p.Vars.length∨5<p.Ins.length∨5<p.Outs.length∨5<p.Funcs.length∨p.ak.Many<(p.Speak.length:Int) then 2
 else if p.Speak.any (fun n=>!cw p.ak.Many n) then 5
 else if cj (fK p.ak.Many) (p.Ins++p.Outs)≠0 then cj (fK p.ak.Many) (p.Ins++p.Outs)
 else if cj (fun v:Var=>fK p.ak.Many v.Label) p.Vars≠0 then cj (fun v:Var=>fK p.ak.Many v.Label) p.Vars
 else if p.Vars.any (fun v=>!v.Known&&decide (0<v.Label.Read.length+v.Label.Write.length)) then 1 else 0
def sB(p:Program):Int:=
 if tC p≠0 then tC p
 else if (lP p.Main p.Funcs 0).1=false then 2
 else if mh p 0 p.Funcs≠0 then mh p 0 p.Funcs
 else eg (bW p p.Funcs.length) p.Main
abbrev fL(p:Program)(e:aB):Int:=bW.fL p e
mutual
theorem Em{ck:Stmt→Int}{s:Stmt}(h:xz ck s=0):ck s=0∧eg ck s.Then=0∧eg ck s.Else=0:=by
 grind [RG]
end
theorem A2{ck:Stmt→Int} : ∀ {l:List Stmt},eg ck l=0→∀ s∈l,xz ck s=0
 | y::l,h,x,hx=>by
  rw [eg] at h
  by_cases hy:xz ck y=0
  ·rw [aa (by simpa using hy)] at h
   rcases eX.1 hx with rfl | hx
   ·exact hy
   ·exact A2 h x hx
  grind
theorem Pd{p:Program} : ∀ {l:List Func}{i:Nat},mh p i l=0→∀ (k:Nat)(h:k<l.length),uu p (i+k:Nat) l[k]=0
 | y::l,i,h,k,hk=>by
  rw [mh] at h
  by_cases hy:uu p i y=0
  ·rw [aa (by simpa using hy)] at h
   cases k with
   | zero=>simpa using hy
   | succ k=>
    have:=Pd h k (by simpa using hk)
    grind
  grind
theorem RH{v:Int} : ∀ {seen l:List Int},ue v seen l=0→∀ n∈l,0≤n∧n<v
 | seen,y::l,h,n,hn=>by
  rw [ue] at h
  split at h
  ·grind
  ·rename_i h1
   split at h
   ·grind
   ·rcases eX.1 hn with rfl | hn
    ·omega
    ·exact RH h n hn
theorem En{main:List Stmt} : ∀ {l:List Func}{n m:Int},0≤n→n≤50→lP main l n=(true,m)→(∀ f∈l,bn f.Body≤50∧eR f.Body≤6)∧bn main≤50∧eR main≤6∧n≤m∧m≤50∧m=n+((l.map fun f=>bn f.Body).sum:Nat)+bn main
 | [],n,m,h0,hn,h=>by
  grind [lP,kX]
 | f::r,n,m,h0,hn,h=>by
  rw [lP,A1] at h
  obtain ⟨j,h1,h2⟩:=h
  obtain ⟨rfl,h3,h4⟩:=(kX _ _ _ _ hn (by omega)).1 h1
  obtain ⟨h5,h6,h7,h8,h9,F⟩:=En (by omega) h3 h2
  grind
structure Dt(p:Program):Prop where
 dT:iG p.ak=0
 vars:p.Vars.length≤16
 ins:p.Ins.length≤5
 outs:p.Outs.length≤5
 funcs:p.Funcs.length≤5
 few:∀ f∈p.Funcs,bn f.Body≤50∧eR f.Body≤6
 main:bn p.Main≤50∧eR p.Main≤6
 fns:∀ (k:Nat)(h:k<p.Funcs.length),uu p k p.Funcs[k]=0
 mains:eg (bW p p.Funcs.length) p.Main=0
 sum:((p.Funcs.map fun f=>bn f.Body).sum:Nat)+bn p.Main≤50
theorem CJ{p:Program}(h:sB p=0):Dt p:=by
 unfold sB at h
 by_cases h1:tC p=0
 ·rw [aa (by simp [h1])] at h
  by_cases h2:(lP p.Main p.Funcs 0).1=false
  ·grind
  ·rw [aa h2] at h
   by_cases h3:mh p 0 p.Funcs=0
   ·rw [aa (by simp [h3])] at h
    have D:lP p.Main p.Funcs 0=(true,(lP p.Main p.Funcs 0).2):=Prod.ext (by simpa using h2) rfl
    obtain ⟨g1,g2,g3,g4,g5,g6⟩:=En (by decide) (by decide) D
    unfold tC at h1
    by_cases a1:iG p.ak=0
    ·rw [aa (by simp [a1])] at h1
     by_cases a2:16<p.Vars.length∨5<p.Ins.length∨5<p.Outs.length∨5<p.Funcs.length∨p.ak.Many<(p.Speak.length:Int)
     ·grind
     ·exact ⟨a1,by omega,by omega,by omega,by omega,g1,⟨g2,g3⟩,fun k hk=>by simpa using Pd h3 k hk,h,by omega⟩
    grind
   grind
 grind
variable [Lp]
def WC{β γ:Type} : (Int×β)⊕(Int×γ)→Int
 | .inl p=>p.1
 | .inr p=>p.1
theorem yP{n:Int}(h1 : -9223372036854775808≤n)(h2:n≤9223372036854775807):IntKind.i64.wrap n=n:=wrap64 (by omega) (by omega)
theorem nm{k:Nat}(h:k<9223372036854775807):IntKind.i64.wrap ((k:Int)+1)=((k+1:Nat):Int):=gJ k h
theorem afR(n:Nat):∀ (e:aB)(m:Int),sz e≤n→0≤m→m≤15→(oZ n).f_scope_size e m=some (min (sz e:Int) (m+1)):=by
 induction n with
 | zero=>intro e m h;have:=AH e;omega
 | succ n ih=>
  intro e m h hm z
  show uB (oZ n) e m=_
  unfold uB
  have he:=G1 e
  obtain ⟨x,hx,hQ⟩:=kA (B:=fun v=>s7 (oZ n) e m v.1 v.2) (fun v=>e.Args.length - v.2)
   (fun v=>v.2≤e.Args.length∧v.1=min (1+(qE (e.Args.take v.2):Int)) (m+1)∧(v.2:Int)<v.1+1) (fun x=>WC x=min (sz e:Int) (m+1)) (by
    rintro ⟨v,k⟩ ⟨hk,hv,C⟩
    simp only at hk hv C ⊢
    have ht:=D7 e.Args k
    unfold s7
    by_cases g:k<e.Args.length
    ·rw [ab (by omega),aP g,ad]
     by_cases u:m<v
     ·rw [ab u]
      exact .inl ⟨_,rfl,by simp only [WC];omega⟩
     ·rw [aa u,ab (yP (by omega) (by omega)),ih _ _ (by have:=CV g;omega) (by omega) (by omega),ad]
      have hs:=zc g
      have hp:=AH e.Args[k]
      rw [ab (yP (by omega) (by omega)),ab (nm (by omega))]
      exact .inr ⟨_,rfl,⟨by simp only;omega,by simp only;omega,by simp only;omega⟩,by simp only;omega⟩
    ·rw [aa (by omega)]
     have hl:e.Args.take k=e.Args:=jL (by omega)
     rw [hl] at hv
     exact .inl ⟨_,rfl,by simp only [WC];omega⟩) (1,0) ⟨dc _,by simp [qE];omega,by simp⟩
  rw [hx,ad]
  rcases x with ⟨a,b,c,d⟩ | ⟨a,b,c⟩
  ·exact an some hQ
  ·exact an some hQ
variable {e:aB}
theorem Zv(h0:0≤m)(h:m≤15):AM e m=some (min (sz e:Int) (m+1)):=
 D5 (sz e) fun n hn=>afR n e m hn h0 h
theorem Zw(e:aB)(v:Int):vZ e v=some (lf v e):=by
 have j1:∀ w:Nat,w=(if 2<e.Kind then 2 else 0)→rA e w=some (decide ((e.Kind=1∧(e.N < -9999999∨9999999<e.N))∨(2<e.Kind∧e.N≠0))):=by
  intro w hw
  unfold rA iP
  by_cases h2:2<e.Kind
  ·rw [ab h2] at hw
   subst hw
   have h1:¬e.Kind=1:=by omega
   by_cases hn:e.N=0<;>simp [h1,h2,hn]
  ·rw [aa h2] at hw
   subst hw
   by_cases h1:e.Kind=1
   ·by_cases h3:e.N < -9999999
    ·simp [h1,h3]
    ·by_cases h4:9999999<e.N<;>simp [h1,h3,h4]
   ·simp [h1,h2]
 have d1:∀ w:Nat,w=(if 2<e.Kind then 2 else 0)→¬(e.Kind<1∨7<e.Kind)→((n7 e v w).bind fun (x4:(Unit⊕(Unit⊕(Unit⊕Unit))))=>match x4 with
   | .inl ()=>some (1:Int)
   | .inr (.inl ())=>some 3
   | .inr (.inr (.inl ()))=>some 5
   | .inr (.inr (.inr ()))=>some 0)=some (lf v e):=by
  intro w hw hk
  unfold n7 lf
  rw [aa hk,←hw]
  by_cases hl:e.Args.length=w
  ·rw [j1 w hw,aa (show ¬((e.Args.length:Int) !=(w:Int))=true by simp [hl]),aa (show ¬e.Args.length≠w from fun h=>h hl),ad]
   by_cases hc:(e.Kind=1∧(e.N < -9999999∨9999999<e.N))∨(2<e.Kind∧e.N≠0)
   ·rw [ab hc,aA hc];rfl
   ·rw [aa hc,ay hc,aa (by decide)]
    by_cases h2:e.Kind=2
    ·by_cases h3:e.N<0
     ·simp [h2,h3]
     ·by_cases h4:v≤e.N<;>simp [h2,h3,h4]
    ·simp [h2]
  ·rw [ab (show ((e.Args.length:Int) !=(w:Int))=true by simp;omega),ab (show e.Args.length≠w from hl)];rfl
 unfold vZ
 by_cases h1:e.Kind<1
 ·rw [ab h1];simp [lf,h1]
 rw [aa h1]
 by_cases h7:7<e.Kind
 ·rw [ab h7];simp [lf,h7]
 rw [aa h7]
 by_cases h2:2<e.Kind
 ·rw [ab h2]
  exact d1 2 (by rw [ab h2]) (by omega)
 ·rw [aa h2]
  exact d1 0 (by rw [aa h2]) (by omega)
theorem UZ(v:Int)(e:aB):ll v (gy e)=if lf v e≠0 then lf v e else ll v (fV e.Args):=by rw [CU,ll]
theorem Zx(v:Int)(n:Nat):∀ (e:aB),sz e≤n→sz e≤15→(nK n).f_scope_parts e v=some (ll v (gy e)):=by
 induction n with
 | zero=>intro e h;have:=AH e;omega
 | succ n ih=>
  intro e h E
  show s8 (nK n) e v=_
  unfold s8
  rw [Zw,ad,UZ]
  have he:=G1 e
  have hlen:=La e.Args
  by_cases hp:lf v e=0
  ·rw [aa (by simp [hp]),aa (by simp [hp])]
   obtain ⟨x,hx,hQ⟩:=kA (B:=fun k=>rB (nK n) e v k) (fun k=>e.Args.length - k)
    (fun k=>k≤e.Args.length∧ll v (fV (e.Args.take k))=0) (fun x=>(match x with
     | .inl y=>y
     | .inr _=>0)=ll v (fV e.Args)) (by
     rintro k ⟨hk,hv⟩
     unfold rB
     by_cases g:k<e.Args.length
     ·rw [ab (by omega),aP g,ad,ih _ (by have:=CV g;omega) (by have:=CV g;omega),ad]
      have hs:=BS g
      have hf:=Cz v (fV (e.Args.take k)) (gy e.Args[k])
      rw [←hs,aa (by simp [hv])] at hf
      by_cases h0:ll v (gy e.Args[k])=0
      ·rw [aa (by simp [h0]),ab (nm (by omega))]
       exact .inr ⟨_,rfl,⟨by omega,by rw [hf,h0]⟩,by omega⟩
      ·rw [ab (by simp [h0])]
       refine .inl ⟨_,rfl,?_⟩
       have hd:fV e.Args=fV (e.Args.take (k+1))++fV (e.Args.drop (k+1)):=by rw [←AJ,BF]
       rw [hd,Cz,hf,ab h0]
     ·rw [aa (by omega)]
      have hl:e.Args.take k=e.Args:=jL (by omega)
      rw [hl] at hv
      exact .inl ⟨_,rfl,hv.symm⟩) 0 ⟨dc _,by simp [fV,ll]⟩
   rw [hx,ad]
   rcases x with a | ⟨a,b⟩
   ·exact an some hQ
   ·exact an some hQ
  ·rw [ab (by simp [hp]),ab hp]
theorem WD{v:Int}(h:sz e≤15):zg e v=some (ll v (gy e)):=D5 (sz e) fun n hn=>Zx v n e hn h
def J4(v:Int)(e:aB):Int:=if 15<sz e then 2 else ll v (gy e)
theorem Zy(e:aB)(v:Int):m7 e v=some (J4 v e):=by
 unfold m7 J4
 rw [Zv (by decide) (by decide),ad]
 by_cases h:15<sz e
 ·rw [ab (by omega),ab h]
 ·rw [aa (by omega),aa h,WD (by omega)];rfl
end Go.Proofs.YtkkkkondjclcnaaGreat.A
