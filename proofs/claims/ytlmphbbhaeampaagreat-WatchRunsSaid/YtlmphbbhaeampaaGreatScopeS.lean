/- Programs: how many commands there are, how deep they stand, what is wrong first; as plain mathematics. -/
import Derived.Test.YtlmphbbhaeampaaGreatEvalS
import Derived.Test.YtlmphbbhaeampaaGreatHeadF
import Derived.Test.YtlmphbbhaeampaaGreatFA
import Derived.Test.YtlmphbbhaeampaaGreatFE
set_option linter.all false
namespace Go.Proofs.YtlmphbbhaeampaaGreat.A
open Go
mutual
def fD:Stmt→Nat
 | ⟨_,_,_,_,_,t,e⟩=>1+bR t+bR e
def bR:List Stmt→Nat
 | []=>0
 | x::r=>fD x+bR r
end
mutual
def dep:Stmt→Nat
 | ⟨_,_,_,_,_,t,e⟩=>1+max (ed t) (ed e)
def ed:List Stmt→Nat
 | []=>0
 | x::r=>max (dep x) (ed r)
end
def andThen(q:Bool×Int)(k:Int→Bool×Int):Bool×Int:=if q.1=true then k q.2 else q
mutual
def Qe:Stmt→Int→Int→Bool×Int
 | ⟨_,_,_,_,_,t,e⟩,d,n=>if n+1≤50∧d≤6 then andThen (oT t (d+1) (n+1)) (oT e (d+1)) else (false,n+1)
def oT:List Stmt→Int→Int→Bool×Int
 | [],_,n=>(true,n)
 | x::r,d,n=>andThen (Qe x d n) (oT r d)
end
mutual
def vi(ck:Stmt→Int):Stmt→Int
 | ⟨k,v,o,x,a,t,e⟩=>if ck ⟨k,v,o,x,a,t,e⟩≠0 then ck ⟨k,v,o,x,a,t,e⟩ else if eU ck t≠0 then eU ck t else eU ck e
def eU(ck:Stmt→Int):List Stmt→Int
 | []=>0
 | x::r=>if vi ck x≠0 then vi ck x else eU ck r
end
theorem sB(s:Stmt):fD s=1+bR s.Then+bR s.Else:=by cases s;rw [fD]
theorem sC(s:Stmt):dep s=1+max (ed s.Then) (ed s.Else):=by cases s;rw [dep]
theorem Z5(s:Stmt)(d n:Int):Qe s d n=if n+1≤50∧d≤6 then andThen (oT s.Then (d+1) (n+1)) (oT s.Else (d+1)) else (false,n+1):=by cases s;rw [Qe]
theorem SH(ck:Stmt→Int)(s:Stmt):vi ck s=if ck s≠0 then ck s else if eU ck s.Then≠0 then eU ck s.Then else eU ck s.Else:=by cases s;rw [vi]
theorem Z6(s:Stmt):0<fD s:=by rw [sB];omega
theorem jU:∀ l:List Stmt,l.length≤bR l
 | []=>du _
 | x::l=>by have:=jU l;grind [Z6,bR]
theorem vj:∀ {l:List Stmt}{x:Stmt},x∈l→fD x≤bR l
 | y::l,x,h=>by
  rw [bR]
  rcases eA.1 h with rfl | h
  ·omega
  ·have:=vj h;omega
theorem ye:∀ {l:List Stmt}{x:Stmt},x∈l→dep x≤ed l
 | y::l,x,h=>by
  rw [ed]
  rcases eA.1 h with rfl | h
  ·omega
  ·have:=ye h;omega
variable {m:Int}
theorem Bh{q:Bool×Int}{k:Int→Bool×Int}: andThen q k=(true,m)↔∃ j,q=(true,j)∧k j=(true,m):=by
 grind [andThen]
mutual
theorem Qf(s:Stmt)(d n m:Int)(hn:n≤50)(hd:d≤7):Qe s d n=(true,m)↔m=n+fD s∧n+fD s≤50∧d+dep s≤7:=by
 match s with
 | ⟨k,v,o,x,a,t,e⟩=>
  rw [Qe,fD,dep]
  by_cases h:n+1≤50∧d≤6
  ·rw [af h,Bh]
   constructor
   ·rintro ⟨j,h1,h2⟩
    obtain ⟨rfl,h3,h4⟩:=(kR t (d+1) (n+1) j h.1 (by omega)).1 h1
    obtain ⟨rfl,h5,h6⟩:=(kR e (d+1) _ m h3 (by omega)).1 h2
    grind
   ·rintro ⟨rfl,h1,h2⟩
    exact ⟨_,(kR t (d+1) (n+1) _ h.1 (by omega)).2 ⟨rfl,by omega,by omega⟩,(kR e (d+1) _ _ (by omega) (by omega)).2 (by grind)⟩
  grind
theorem kR(l:List Stmt)(d n m:Int)(hn:n≤50)(hd:d≤7):oT l d n=(true,m)↔m=n+bR l∧n+bR l≤50∧d+ed l≤7:=by
 match l with
 | []=>
  grind [oT,bR,ed]
 | x::r=>
  rw [oT,bR,ed,Bh]
  constructor
  ·rintro ⟨j,h1,h2⟩
   obtain ⟨rfl,h3,h4⟩:=(Qf x d n j hn hd).1 h1
   obtain ⟨rfl,h5,h6⟩:=(kR r d _ m h3 hd).1 h2
   grind
  ·rintro ⟨rfl,h1,h2⟩
   exact ⟨_,(Qf x d n _ hn hd).2 ⟨rfl,by omega,by omega⟩,(kR r d _ _ (by omega) hd).2 (by grind)⟩
end
def GN(p:Program)(n:Int):Nat:=((p.Funcs[n.toNat]?).map fun f=>f.Params.length).getD 0
def cV(p:Program)(i:Int)(s:Stmt):Int:=
 if s.Kind<1∨8<s.Kind then 7
 else if (fI s.Kind=true∧(s.Var<0∨(p.Vars.length:Int)≤s.Var))∨(jC s.Kind=true∧(s.Other<0∨fL p i s.Kind≤s.Other)) then 5
 else if (fI s.Kind=false∧s.Var≠0)∨(jC s.Kind=false∧s.Other≠0)∨(gG s.Kind=false∧¬(s.Expr.Kind=0∧s.Expr.N=0∧s.Expr.Args.length=0))∨(s.Kind≠2∧0<s.Args.length)∨(s.Kind<7∧0<s.Then.length)∨(s.Kind≠7∧0<s.Else.length) then 1
 else if s.Kind=2∧s.Args.length≠GN p s.Other then 1
 else if gG s.Kind=true∧eP p s.Expr≠0 then eP p s.Expr
 else cT (eP p) s.Args
where
 eP (p:Program) (e:ay):Int:=if 15<sz e then 2 else lj p.Vars.length (ey e)
def uc(v:Int):List Int→List Int→Int
 | _,[]=>0
 | seen,n::r=>if n<0∨v≤n then 5 else if n∈seen then 6 else uc v (seen++[n]) r
def uy(p:Program)(i:Int)(f:Func):Int:=
 if 4<f.Params.length then 2
 else if uc p.Vars.length [] f.Params≠0 then uc p.Vars.length [] f.Params
 else if eU (cV p i) f.Body≠0 then eU (cV p i) f.Body
 else cV.eP p f.Result
def mC(p:Program):Nat→List Func→Int
 | _,[]=>0
 | i,f::r=>if uy p i f≠0 then uy p i f else mC p (i+1) r
def l7(main:List Stmt):List Func→Int→Bool×Int
 | [],n=>oT main 1 n
 | f::r,n=>andThen (oT f.Body 1 n) (l7 main r)
def tE(p:Program):Int:=
 if iw p.ak≠0 then iw p.ak
 else if 16<p.Vars.length∨5<p.Ins.length∨5<p.Outs.length∨5<p.Funcs.length∨p.ak.Many<(p.Speak.length:Int) then 2
 else if p.Speak.any (fun n=>!de p.ak.Many n) then 5
 else if cT (fw p.ak.Many) (p.Ins++p.Outs)≠0 then cT (fw p.ak.Many) (p.Ins++p.Outs)
 else if cT (fun v:Var=>fw p.ak.Many v.Label) p.Vars≠0 then cT (fun v:Var=>fw p.ak.Many v.Label) p.Vars
 else if p.Vars.any (fun v=>!v.Known&&decide (0<v.Label.Read.length+v.Label.Write.length)) then 1 else 0
def jV(p:Program):Int:=
 if tE p≠0 then tE p
 else if (l7 p.Main p.Funcs 0).1=false then 2
 else if mC p 0 p.Funcs≠0 then mC p 0 p.Funcs
 else eU (cV p p.Funcs.length) p.Main
abbrev eP(p:Program)(e:ay):Int:=cV.eP p e
mutual
theorem ET{ck:Stmt→Int}{s:Stmt}(h:vi ck s=0):ck s=0∧eU ck s.Then=0∧eU ck s.Else=0:=by
 grind [SH]
end
theorem Jv{ck:Stmt→Int} : ∀ {l:List Stmt},eU ck l=0→∀ s∈l,vi ck s=0
 | y::l,h,x,hx=>by
  rw [eU] at h
  by_cases hy:vi ck y=0
  ·rw [ah (by simpa using hy)] at h
   rcases eA.1 hx with rfl | hx
   ·exact hy
   ·exact Jv h x hx
  grind
theorem Qg{p:Program} : ∀ {l:List Func}{i:Nat},mC p i l=0→∀ (k:Nat)(h:k<l.length),uy p (i+k:Nat) l[k]=0
 | y::l,i,h,k,hk=>by
  rw [mC] at h
  by_cases hy:uy p i y=0
  ·rw [ah (by simpa using hy)] at h
   cases k with
   | zero=>simpa using hy
   | succ k=>
    have:=Qg h k (by simpa using hk)
    grind
  grind
theorem SI{v:Int} : ∀ {seen l:List Int},uc v seen l=0→∀ n∈l,0≤n∧n<v
 | seen,y::l,h,n,hn=>by
  rw [uc] at h
  split at h
  ·grind
  ·rename_i h1
   split at h
   ·grind
   ·rcases eA.1 hn with rfl | hn
    ·omega
    ·exact SI h n hn
theorem EU{main:List Stmt} : ∀ {l:List Func}{n m:Int},0≤n→n≤50→l7 main l n=(true,m)→(∀ f∈l,bR f.Body≤50∧ed f.Body≤6)∧bR main≤50∧ed main≤6∧n≤m∧m≤50∧m=n+((l.map fun f=>bR f.Body).sum:Nat)+bR main
 | [],n,m,h0,hn,h=>by
  grind [l7,kR]
 | f::r,n,m,h0,hn,h=>by
  rw [l7,Bh] at h
  obtain ⟨j,h1,h2⟩:=h
  obtain ⟨rfl,h3,h4⟩:=(kR _ _ _ _ hn (by omega)).1 h1
  obtain ⟨h5,h6,h7,h8,h9,I⟩:=EU (by omega) h3 h2
  grind
structure Zp(p:Program):Prop where
 eV:iw p.ak=0
 vars:p.Vars.length≤16
 ins:p.Ins.length≤5
 outs:p.Outs.length≤5
 funcs:p.Funcs.length≤5
 few:∀ f∈p.Funcs,bR f.Body≤50∧ed f.Body≤6
 main:bR p.Main≤50∧ed p.Main≤6
 fns:∀ (k:Nat)(h:k<p.Funcs.length),uy p k p.Funcs[k]=0
 mains:eU (cV p p.Funcs.length) p.Main=0
 sum:((p.Funcs.map fun f=>bR f.Body).sum:Nat)+bR p.Main≤50
theorem Di{p:Program}(h:jV p=0):Zp p:=by
 unfold jV at h
 by_cases h1:tE p=0
 ·rw [ah (by simp [h1])] at h
  by_cases h2:(l7 p.Main p.Funcs 0).1=false
  ·grind
  ·rw [ah h2] at h
   by_cases h3:mC p 0 p.Funcs=0
   ·rw [ah (by simp [h3])] at h
    have G:l7 p.Main p.Funcs 0=(true,(l7 p.Main p.Funcs 0).2):=Prod.ext (by simpa using h2) rfl
    obtain ⟨g1,g2,g3,g4,g5,g6⟩:=EU (by decide) (by decide) G
    unfold tE at h1
    by_cases a1:iw p.ak=0
    ·rw [ah (by simp [a1])] at h1
     by_cases a2:16<p.Vars.length∨5<p.Ins.length∨5<p.Outs.length∨5<p.Funcs.length∨p.ak.Many<(p.Speak.length:Int)
     ·grind
     ·exact ⟨a1,by omega,by omega,by omega,by omega,g1,⟨g2,g3⟩,fun k hk=>by simpa using Qg h3 k hk,h,by omega⟩
    grind
   grind
 grind
variable [Lp]
def Xy{β γ:Type} : (Int×β)⊕(Int×γ)→Int
 | .inl p=>p.1
 | .inr p=>p.1
variable {n:Int}
theorem fG(h1 : -9223372036854775808≤n)(h2:n≤9223372036854775807):IntKind.i64.wrap n=n:=wrap64 (by omega) (by omega)
variable {k:Nat}
theorem eQ(h:k<9223372036854775807):IntKind.i64.wrap ((k:Int)+1)=((k+1:Nat):Int):=iL k h
theorem ah7(n:Nat):∀ (e:ay)(m:Int),sz e≤n→0≤m→m≤15→(po n).f_scope_size e m=some (min (sz e:Int) (m+1)):=by
 induction n with
 | zero=>intro e m h;have:=uu e;omega
 | succ n ih=>
  intro e m h hm E
  show uI (po n) e m=_
  unfold uI
  have he:=HU e
  obtain ⟨x,hx,hQ⟩:=eX (B:=fun v=>tc (po n) e m v.1 v.2) (fun v=>e.Args.length - v.2)
   (fun v=>v.2≤e.Args.length∧v.1=min (1+(qK (e.Args.take v.2):Int)) (m+1)∧(v.2:Int)<v.1+1) (fun x=>Xy x=min (sz e:Int) (m+1)) (by
    rintro ⟨v,k⟩ ⟨hk,hv,F⟩
    simp only at hk hv F ⊢
    have ht:=EP e.Args k
    unfold tc
    by_cases g:k<e.Args.length
    ·rw [af (by omega),bu g,ab]
     by_cases C:m<v
     ·rw [af C]
      exact .inl ⟨_,rfl,by simp only [Xy];omega⟩
     ·rw [ah C,af (fG (by omega) (by omega)),ih _ _ (by have:=uv g;omega) (by omega) (by omega),ab]
      have hs:=zH g
      have hp:=uu e.Args[k]
      rw [af (fG (by omega) (by omega)),af (eQ (by omega))]
      exact .inr ⟨_,rfl,⟨by simp only;omega,by simp only;omega,by simp only;omega⟩,by simp only;omega⟩
    ·rw [ah (by omega)]
     have hl:e.Args.take k=e.Args:=iC (by omega)
     rw [hl] at hv
     exact .inl ⟨_,rfl,by simp only [Xy];omega⟩) (1,0) ⟨du _,by simp [qK];omega,by simp⟩
  rw [hx,ab]
  rcases x with ⟨a,b,c,d⟩ | ⟨a,b,c⟩
  ·exact az some hQ
  ·exact az some hQ
variable {e:ay}
theorem Z7(h0:0≤m)(h:m≤15):A8 e m=some (min (sz e:Int) (m+1)):=
 uH (sz e) fun n hn=>ah7 n e m hn h0 h
theorem Z8(e:ay)(v:Int):wg e v=some (fg v e):=by
 have j1:∀ w:Nat,w=(if 2<e.Kind then 2 else 0)→rz e w=some (decide ((e.Kind=1∧(e.N < -9999999∨9999999<e.N))∨(2<e.Kind∧e.N≠0))):=by
  intro w hw
  unfold rz iM
  by_cases h2:2<e.Kind
  ·rw [af h2] at hw
   subst hw
   have h1:¬e.Kind=1:=by omega
   by_cases hn:e.N=0<;>simp [h1,h2,hn]
  ·rw [ah h2] at hw
   subst hw
   by_cases h1:e.Kind=1
   ·by_cases h3:e.N < -9999999
    ·simp [h1,h3]
    ·by_cases h4:9999999<e.N<;>simp [h1,h3,h4]
   ·simp [h1,h2]
 have d1:∀ w:Nat,w=(if 2<e.Kind then 2 else 0)→¬(e.Kind<1∨7<e.Kind)→((oj e v w).bind fun (x4:(Unit⊕(Unit⊕(Unit⊕Unit))))=>match x4 with
   | .inl ()=>some (1:Int)
   | .inr (.inl ())=>some 3
   | .inr (.inr (.inl ()))=>some 5
   | .inr (.inr (.inr ()))=>some 0)=some (fg v e):=by
  intro w hw hk
  unfold oj fg
  rw [ah hk,←hw]
  by_cases hl:e.Args.length=w
  ·rw [j1 w hw,ah (show ¬((e.Args.length:Int) !=(w:Int))=true by simp [hl]),ah (show ¬e.Args.length≠w from fun h=>h hl),ab]
   by_cases hc:(e.Kind=1∧(e.N < -9999999∨9999999<e.N))∨(2<e.Kind∧e.N≠0)
   ·rw [af hc,aF hc];rfl
   ·rw [ah hc,aD hc,ah (by decide)]
    by_cases h2:e.Kind=2
    ·by_cases h3:e.N<0
     ·simp [h2,h3]
     ·by_cases h4:v≤e.N<;>simp [h2,h3,h4]
    ·simp [h2]
  ·rw [af (show ((e.Args.length:Int) !=(w:Int))=true by simp;omega),af (show e.Args.length≠w from hl)];rfl
 unfold wg
 by_cases h1:e.Kind<1
 ·rw [af h1];simp [fg,h1]
 rw [ah h1]
 by_cases h7:7<e.Kind
 ·rw [af h7];simp [fg,h7]
 rw [ah h7]
 by_cases h2:2<e.Kind
 ·rw [af h2]
  exact d1 2 (by rw [af h2]) (by omega)
 ·rw [ah h2]
  exact d1 0 (by rw [ah h2]) (by omega)
theorem V0(v:Int)(e:ay):lj v (ey e)=if fg v e≠0 then fg v e else lj v (fv e.Args):=by rw [s9,lj]
theorem Z9(v:Int)(n:Nat):∀ (e:ay),sz e≤n→sz e≤15→(nX n).f_scope_parts e v=some (lj v (ey e)):=by
 induction n with
 | zero=>intro e h;have:=uu e;omega
 | succ n ih=>
  intro e h H
  show td (nX n) e v=_
  unfold td
  rw [Z8,ab,V0]
  have he:=HU e
  have hlen:=Mp e.Args
  by_cases hp:fg v e=0
  ·rw [ah (by simp [hp]),ah (by simp [hp])]
   obtain ⟨x,hx,hQ⟩:=eX (B:=fun k=>rA (nX n) e v k) (fun k=>e.Args.length - k)
    (fun k=>k≤e.Args.length∧lj v (fv (e.Args.take k))=0) (fun x=>(match x with
     | .inl y=>y
     | .inr _=>0)=lj v (fv e.Args)) (by
     rintro k ⟨hk,hv⟩
     unfold rA
     by_cases g:k<e.Args.length
     ·rw [af (by omega),bu g,ab,ih _ (by have:=uv g;omega) (by have:=uv g;omega),ab]
      have hs:=Cu g
      have hf:=Dc v (fv (e.Args.take k)) (ey e.Args[k])
      rw [←hs,ah (by simp [hv])] at hf
      by_cases h0:lj v (ey e.Args[k])=0
      ·rw [ah (by simp [h0]),af (eQ (by omega))]
       exact .inr ⟨_,rfl,⟨by omega,by rw [hf,h0]⟩,by omega⟩
      ·rw [af (by simp [h0])]
       refine .inl ⟨_,rfl,?_⟩
       have hd:fv e.Args=fv (e.Args.take (k+1))++fv (e.Args.drop (k+1)):=by rw [←A5,List.take_append_drop]
       rw [hd,Dc,hf,af h0]
     ·rw [ah (by omega)]
      have hl:e.Args.take k=e.Args:=iC (by omega)
      rw [hl] at hv
      exact .inl ⟨_,rfl,hv.symm⟩) 0 ⟨du _,by simp [fv,lj]⟩
   rw [hx,ab]
   rcases x with a | ⟨a,b⟩
   ·exact az some hQ
   ·exact az some hQ
  ·rw [af (by simp [hp]),af hp]
theorem Xz{v:Int}(h:sz e≤15):zM e v=some (lj v (ey e)):=uH (sz e) fun n hn=>Z9 v n e hn h
def K3(v:Int)(e:ay):Int:=if 15<sz e then 2 else lj v (ey e)
theorem aaa(e:ay)(v:Int):np e v=some (K3 v e):=by
 unfold np K3
 rw [Z7 (by decide) (by decide),ab]
 by_cases h:15<sz e
 ·rw [af (by omega),af h]
 ·rw [ah (by omega),ah h,Xz (by omega)];rfl
theorem V1(n:Int):wv n=some (fT n):=by
 unfold wv fT
 by_cases h : -2147483648≤n<;>simp [h]
theorem XA(b:Bool):yM b=some (if b=true then 1 else 0):=by cases b<;>rfl
theorem Jy: fT n=true↔-2147483648≤n∧n≤2147483647:=by simp [fT]
theorem SJ{a b:Int}(ha:fT a=true)(hb:fT b=true) : -4611686018427387904≤a*b∧a*b≤4611686018427387904:=by
 rw [Jy] at ha hb
 have h:(a*b).natAbs≤2147483648*2147483648:=by
  rw [Int.natAbs_mul]
  exact Nat.mul_le_mul (by omega) (by omega)
 omega
theorem EW(hk:k<e.Args.length){x:ay}(hx:x∈ey e.Args[k]):x∈ey e:=by
 rw [s9]
 exact BY _ (NN (cg hk) hx)
variable {vs:List Int}
theorem aab(hv:∀ x∈vs,fT x=true)(n:Nat):∀ (e:ay),sz e≤n→(∀ x∈ey e,fg vs.length x=0)→(ux n).f_run_Value e vs=some (c9 vs e):=by
 induction n with
 | zero=>intro e h;have:=uu e;omega
 | succ n ih=>
  intro e h z
  show wu (ux n) e vs=_
  unfold wu jt
  have hp:fg vs.length e=0:=z e (by rw [s9];simp)
  obtain ⟨p1,p2,p3,p4,p5⟩:=qi hp
  rw [Mo,Jg]
  unfold VP
  by_cases k1:e.Kind=1
  ·rw [af (by simp [k1]),af k1]
  rw [ah (by simp [k1]),ah k1]
  by_cases k2:e.Kind=2
  ·have h3:=p5 k2
   have h4:e.N.toNat<vs.length:=by omega
   rw [af (by simp [k2]),af k2,cb h3.1,ab,bu h4,xA,bu h4];rfl
  rw [ah (by simp [k2]),ah k2]
  have hl:e.Args.length=2:=by rw [p2,af (by omega)]
  have h0:0<e.Args.length:=by omega
  have h1:1<e.Args.length:=by omega
  have g0:=uv h0
  have g1:=uv h1
  have q0:∀ x∈ey e.Args[0],fg vs.length x=0:=fun x hx=>z x (EW h0 hx)
  have q1:∀ x∈ey e.Args[1],fg vs.length x=0:=fun x hx=>z x (EW h1 hx)
  have n0:=AK hv _ e.Args[0] (bG _) q0
  have n1:=AK hv _ e.Args[1] (bG _) q1
  rw [bu h0,ab,ih _ (by omega) q0,ab,bu h1,ab,ih _ (by omega) q1,ab]
  have e0:(e.Args.map (c9 vs)).getD 0 0=c9 vs e.Args[0]:=by rw [xA,xp,bu h0];rfl
  have e1:(e.Args.map (c9 vs)).getD 1 0=c9 vs e.Args[1]:=by rw [xA,xp,bu h1];rfl
  rw [e0,e1]
  generalize c9 vs e.Args[0]=a at *
  generalize c9 vs e.Args[1]=b at *
  have hm:=SJ n0 n1
  rw [Jy] at n0 n1
  have D:∀ w,IntKind.i64.wrap (IntKind.i32.wrap w)=II w:=fun w=>Xt (HV w)
  simp only [ab,XA,D]
  by_cases k3:e.Kind=3
  ·rw [af (by simp [k3]),af k3,af (fG (by omega) (by omega))]
  rw [ah (by simp [k3]),ah k3]
  by_cases k4:e.Kind=4
  ·rw [af (by simp [k4]),af k4,af (fG (by omega) (by omega))]
  rw [ah (by simp [k4]),ah k4]
  by_cases k5:e.Kind=5
  ·rw [af (by simp [k5]),af k5,af (fG (by omega) (by omega))]
  rw [ah (by simp [k5]),ah k5]
  by_cases k6:e.Kind=6
  ·rw [af (by simp [k6]),af k6]
   by_cases u:a<b
   ·simp only [u,rV,aH];rfl
   ·simp only [u,decide_false,cH];rfl
  rw [ah (by simp [k6]),ah k6]
  have k7:e.Kind=7:=by omega
  rw [af (by simp [k7]),af k7]
  by_cases u:a=b
  ·simp only [u,xG,aH];rfl
  ·have:(a==b)=false:=by simp [u]
   simp only [u,this,cH];rfl
theorem XB(hv:∀ x∈vs,fT x=true)(z:∀ x∈ey e,fg vs.length x=0):oS e vs=some (c9 vs e):=
 uH (sz e) fun n hn=>aab hv n e hn z
end Go.Proofs.YtlmphbbhaeampaaGreat.A
