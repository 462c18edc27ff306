/- Programs: how many commands there are, how deep they stand, what is wrong first; as plain mathematics. -/
import Derived.Test.YtkkkkondjclcnaaGreatEvalS
import Derived.Test.YtkkkkondjclcnaaGreatHeadF
import Derived.Test.YtkkkkondjclcnaaGreatFE
set_option linter.unusedSectionVars false
set_option linter.unusedVariables false
set_option linter.unusedSimpArgs false
set_option linter.constructorNameAsVariable false
namespace Go.Proofs.YtkkkkondjclcnaaGreat.A
open Go
mutual
def rZ:Stmt→Nat
 | ⟨_,_,_,_,_,t,e⟩=>1+bK t+bK e
def bK:List Stmt→Nat
 | []=>0
 | x::r=>rZ x+bK r
end
mutual
def dep:Stmt→Nat
 | ⟨_,_,_,_,_,t,e⟩=>1+max (lN t) (lN e)
def lN:List Stmt→Nat
 | []=>0
 | x::r=>max (dep x) (lN r)
end
def andThen(q:Bool×Int)(k:Int→Bool×Int):Bool×Int:=if q.1=true then k q.2 else q
mutual
def HA:Stmt→Int→Int→Bool×Int
 | ⟨_,_,_,_,_,t,e⟩,d,n=>if n+1≤50∧d≤6 then andThen (lO t (d+1) (n+1)) (lO e (d+1)) else (false,n+1)
def lO:List Stmt→Int→Int→Bool×Int
 | [],_,n=>(true,n)
 | x::r,d,n=>andThen (HA x d n) (lO r d)
end
mutual
def xr(ck:Stmt→Int):Stmt→Int
 | ⟨k,v,o,x,a,t,e⟩=>if ck ⟨k,v,o,x,a,t,e⟩≠0 then ck ⟨k,v,o,x,a,t,e⟩ else if cM ck t≠0 then cM ck t else cM ck e
def cM(ck:Stmt→Int):List Stmt→Int
 | []=>0
 | x::r=>if xr ck x≠0 then xr ck x else cM ck r
end
theorem xW(s:Stmt):rZ s=1+bK s.Then+bK s.Else:=by cases s;rw [rZ]
theorem MU(s:Stmt):dep s=1+max (lN s.Then) (lN s.Else):=by cases s;rw [dep]
theorem Rk(s:Stmt)(d n:Int):HA s d n=if n+1≤50∧d≤6 then andThen (lO s.Then (d+1) (n+1)) (lO s.Else (d+1)) else (false,n+1):=by cases s;rw [HA]
theorem J4(ck:Stmt→Int)(s:Stmt):xr ck s=if ck s≠0 then ck s else if cM ck s.Then≠0 then cM ck s.Then else cM ck s.Else:=by cases s;rw [xr]
theorem Rl(s:Stmt):0<rZ s:=by rw [xW];omega
theorem kq:∀ l:List Stmt,l.length≤bK l
 | []=>Nat.zero_le _
 | x::l=>by have:=kq l;have:=Rl x;rw [bK,List.length_cons];omega
theorem Cf:∀ {l:List Stmt}{x:Stmt},x∈l→rZ x≤bK l
 | y::l,x,h=>by
  rw [bK]
  rcases List.mem_cons.1 h with rfl | h
  ·omega
  ·have:=Cf h;omega
theorem Cg:∀ {l:List Stmt}{x:Stmt},x∈l→dep x≤lN l
 | y::l,x,h=>by
  rw [lN]
  rcases List.mem_cons.1 h with rfl | h
  ·omega
  ·have:=Cg h;omega
theorem vK{q:Bool×Int}{k:Int→Bool×Int}{m:Int} : andThen q k=(true,m)↔∃ j,q=(true,j)∧k j=(true,m):=by
 obtain ⟨b,j⟩:=q
 cases b with
 | true=>simp [andThen]
 | false=>simp [andThen]
mutual
theorem HC(s:Stmt)(d n m:Int)(hn:n≤50)(hd:d≤7):HA s d n=(true,m)↔m=n+rZ s∧n+rZ s≤50∧d+dep s≤7:=by
 match s with
 | ⟨k,v,o,x,a,t,e⟩=>
  rw [HA,rZ,dep]
  by_cases h:n+1≤50∧d≤6
  ·rw [if_pos h,vK]
   constructor
   ·rintro ⟨j,h1,h2⟩
    obtain ⟨rfl,h3,h4⟩:=(kr t (d+1) (n+1) j h.1 (by omega)).1 h1
    obtain ⟨rfl,h5,h6⟩:=(kr e (d+1) _ m h3 (by omega)).1 h2
    exact ⟨by omega,by omega,by omega⟩
   ·rintro ⟨rfl,h1,h2⟩
    exact ⟨_,(kr t (d+1) (n+1) _ h.1 (by omega)).2 ⟨rfl,by omega,by omega⟩,(kr e (d+1) _ _ (by omega) (by omega)).2 ⟨by omega,by omega,by omega⟩⟩
  ·rw [if_neg h]
   constructor
   ·intro h1;cases h1
   ·rintro ⟨rfl,h1,h2⟩;exact absurd ⟨by omega,by omega⟩ h
theorem kr(l:List Stmt)(d n m:Int)(hn:n≤50)(hd:d≤7):lO l d n=(true,m)↔m=n+bK l∧n+bK l≤50∧d+lN l≤7:=by
 match l with
 | []=>
  rw [lO,bK,lN]
  constructor
  ·intro h;obtain ⟨_,rfl⟩:=Prod.mk.inj h;exact ⟨by omega,by omega,by omega⟩
  ·rintro ⟨rfl,_,_⟩;simp
 | x::r=>
  rw [lO,bK,lN,vK]
  constructor
  ·rintro ⟨j,h1,h2⟩
   obtain ⟨rfl,h3,h4⟩:=(HC x d n j hn hd).1 h1
   obtain ⟨rfl,h5,h6⟩:=(kr r d _ m h3 hd).1 h2
   exact ⟨by omega,by omega,by omega⟩
  ·rintro ⟨rfl,h1,h2⟩
   exact ⟨_,(HC x d n _ hn hd).2 ⟨rfl,by omega,by omega⟩,(kr r d _ _ (by omega) hd).2 ⟨by omega,by omega,by omega⟩⟩
end
def gu(k:Int):Bool:=decide (k≠4∧k<7)
def gv(k:Int):Bool:=decide (2≤k∧k≤4)
def fF(k:Int):Bool:=decide (k≠2∧k≠3)
def fY(p:Program)(i k:Int):Int:=if k=2 then i else if k=3 then p.Ins.length else p.Outs.length
def tN(p:Program)(n:Int):Nat:=((p.Funcs[n.toNat]?).map fun f=>f.Params.length).getD 0
def bg(p:Program)(i:Int)(s:Stmt):Int:=
 if s.Kind<1∨8<s.Kind then 7
 else if (gu s.Kind=true∧(s.Var<0∨(p.Vars.length:Int)≤s.Var))∨(gv s.Kind=true∧(s.Other<0∨fY p i s.Kind≤s.Other)) then 5
 else if (gu s.Kind=false∧s.Var≠0)∨(gv s.Kind=false∧s.Other≠0)∨(fF s.Kind=false∧¬(s.Expr.Kind=0∧s.Expr.N=0∧s.Expr.Args.length=0))∨(s.Kind≠2∧0<s.Args.length)∨(s.Kind<7∧0<s.Then.length)∨(s.Kind≠7∧0<s.Else.length) then 1
 else if s.Kind=2∧s.Args.length≠tN p s.Other then 1
 else if fF s.Kind=true∧cq p s.Expr≠0 then cq p s.Expr
 else br (cq p) s.Args
where
 cq (p:Program) (e:ak):Int:=if 15<sz e then 2 else lK p.Vars.length (rT e)
def sN(v:Int):List Int→List Int→Int
 | _,[]=>0
 | seen,n::r=>if n<0∨v≤n then 5 else if n∈seen then 6 else sN v (seen++[n]) r
def wR(p:Program)(i:Int)(f:Func):Int:=
 if 4<f.Params.length then 2
 else if sN p.Vars.length [] f.Params≠0 then sN p.Vars.length [] f.Params
 else if cM (bg p i) f.Body≠0 then cM (bg p i) f.Body
 else bg.cq p f.Result
def mx(p:Program):Nat→List Func→Int
 | _,[]=>0
 | i,f::r=>if wR p i f≠0 then wR p i f else mx p (i+1) r
def nC(main:List Stmt):List Func→Int→Bool×Int
 | [],n=>lO main 1 n
 | f::r,n=>andThen (lO f.Body 1 n) (nC main r)
def lr(p:Program):Int:=
 if eO p.aa≠0 then eO p.aa
 else if 16<p.Vars.length∨5<p.Ins.length∨5<p.Outs.length∨5<p.Funcs.length∨p.aa.Many<(p.Speak.length:Int) then 2
 else if p.Speak.any (fun n=>!ct p.aa.Many n) then 5
 else if br (fB p.aa.Many) (p.Ins++p.Outs)≠0 then br (fB p.aa.Many) (p.Ins++p.Outs)
 else if br (fun v:Var=>fB p.aa.Many v.Label) p.Vars≠0 then br (fun v:Var=>fB p.aa.Many v.Label) p.Vars
 else if p.Vars.any (fun v=>!v.Known&&decide (0<v.Label.Read.length+v.Label.Write.length)) then 1 else 0
def oI(p:Program):Int:=
 if lr p≠0 then lr p
 else if (nC p.Main p.Funcs 0).1=false then 2
 else if mx p 0 p.Funcs≠0 then mx p 0 p.Funcs
 else cM (bg p p.Funcs.length) p.Main
abbrev cq(p:Program)(e:ak):Int:=bg.cq p e
mutual
theorem yM{ck:Stmt→Int}{s:Stmt}(h:xr ck s=0):ck s=0∧cM ck s.Then=0∧cM ck s.Else=0:=by
 rw [J4] at h
 by_cases h1:ck s=0
 ·rw [if_neg (by simp [h1])] at h
  by_cases h2:cM ck s.Then=0
  ·rw [if_neg (by simp [h2])] at h;exact ⟨h1,h2,h⟩
  ·rw [if_pos h2] at h;exact absurd h h2
 ·rw [if_pos h1] at h;exact absurd h h1
end
theorem vL{ck:Stmt→Int} : ∀ {l:List Stmt},cM ck l=0→∀ s∈l,xr ck s=0
 | y::l,h,x,hx=>by
  rw [cM] at h
  by_cases hy:xr ck y=0
  ·rw [if_neg (by simpa using hy)] at h
   rcases List.mem_cons.1 hx with rfl | hx
   ·exact hy
   ·exact vL h x hx
  ·rw [if_pos hy] at h;exact absurd h hy
theorem HD{p:Program} : ∀ {l:List Func}{i:Nat},mx p i l=0→∀ (k:Nat)(h:k<l.length),wR p (i+k:Nat) l[k]=0
 | y::l,i,h,k,hk=>by
  rw [mx] at h
  by_cases hy:wR p i y=0
  ·rw [if_neg (by simpa using hy)] at h
   cases k with
   | zero=>simpa using hy
   | succ k=>
    have:=HD h k (by simpa using hk)
    rw [show i+(k+1)=i+1+k by omega]
    simpa using this
  ·rw [if_pos hy] at h;exact absurd h hy
theorem J5{v:Int} : ∀ {seen l:List Int},sN v seen l=0→∀ n∈l,0≤n∧n<v
 | seen,y::l,h,n,hn=>by
  rw [sN] at h
  split at h
  ·exact absurd h (by decide)
  ·rename_i h1
   split at h
   ·exact absurd h (by decide)
   ·rcases List.mem_cons.1 hn with rfl | hn
    ·omega
    ·exact J5 h n hn
theorem Ch{main:List Stmt} : ∀ {l:List Func}{n m:Int},0≤n→n≤50→nC main l n=(true,m)→(∀ f∈l,bK f.Body≤50∧lN f.Body≤6)∧bK main≤50∧lN main≤6∧n≤m∧m≤50∧m=n+((l.map fun f=>bK f.Body).sum:Nat)+bK main
 | [],n,m,h0,hn,h=>by
  rw [nC,kr _ _ _ _ hn (by omega)] at h
  obtain ⟨rfl,h2,h3⟩:=h
  exact ⟨fun f hf=>(by cases hf),by omega,by omega,by omega,by omega,by simp⟩
 | f::r,n,m,h0,hn,h=>by
  rw [nC,vK] at h
  obtain ⟨j,h1,h2⟩:=h
  obtain ⟨rfl,h3,h4⟩:=(kr _ _ _ _ hn (by omega)).1 h1
  obtain ⟨h5,h6,h7,h8,h9,h10⟩:=Ch (by omega) h3 h2
  refine ⟨fun g hg=>?_,h6,h7,by omega,h9,?_⟩
  ·rcases List.mem_cons.1 hg with rfl | hg
   ·exact ⟨by omega,by omega⟩
   ·exact h5 g hg
  ·rw [h10,List.map_cons,List.sum_cons];omega
structure zy(p:Program):Prop where
 eG:eO p.aa=0
 vars:p.Vars.length≤16
 ins:p.Ins.length≤5
 outs:p.Outs.length≤5
 funcs:p.Funcs.length≤5
 few:∀ f∈p.Funcs,bK f.Body≤50∧lN f.Body≤6
 main:bK p.Main≤50∧lN p.Main≤6
 fns:∀ (k:Nat)(h:k<p.Funcs.length),wR p k p.Funcs[k]=0
 mains:cM (bg p p.Funcs.length) p.Main=0
 sum:((p.Funcs.map fun f=>bK f.Body).sum:Nat)+bK p.Main≤50
theorem BM{p:Program}(h:oI p=0):zy p:=by
 unfold oI at h
 by_cases h1:lr p=0
 ·rw [if_neg (by simp [h1])] at h
  by_cases h2:(nC p.Main p.Funcs 0).1=false
  ·rw [if_pos h2] at h;exact absurd h (by decide)
  ·rw [if_neg h2] at h
   by_cases h3:mx p 0 p.Funcs=0
   ·rw [if_neg (by simp [h3])] at h
    have h2':nC p.Main p.Funcs 0=(true,(nC p.Main p.Funcs 0).2):=Prod.ext (by simpa using h2) rfl
    obtain ⟨g1,g2,g3,g4,g5,g6⟩:=Ch (by decide) (by decide) h2'
    unfold lr at h1
    by_cases a1:eO p.aa=0
    ·rw [if_neg (by simp [a1])] at h1
     by_cases a2:16<p.Vars.length∨5<p.Ins.length∨5<p.Outs.length∨5<p.Funcs.length∨p.aa.Many<(p.Speak.length:Int)
     ·rw [if_pos a2] at h1;exact absurd h1 (by decide)
     ·exact ⟨a1,by omega,by omega,by omega,by omega,g1,⟨g2,g3⟩,fun k hk=>by simpa using HD h3 k hk,h,by omega⟩
    ·rw [if_pos a1] at h1;exact absurd h1 a1
   ·rw [if_pos h3] at h;exact absurd h h3
 ·rw [if_pos h1] at h;exact absurd h h1
variable [Lp]
def Pq{β γ:Type} : (Int×β)⊕(Int×γ)→Int
 | .inl p=>p.1
 | .inr p=>p.1
theorem Fu{n:Int}(h1 : -9223372036854775808≤n)(h2:n≤9223372036854775807):IntKind.i64.wrap n=n:=wrap64 (by omega) (by omega)
theorem lP{k:Nat}(h:k<9223372036854775807):IntKind.i64.wrap ((k:Int)+1)=((k+1:Nat):Int):=tk k h
theorem Vj(n:Nat):∀ (e:ak)(m:Int),sz e≤n→0≤m→m≤15→(mi n).f_scope_size e m=some (min (sz e:Int) (m+1)):=by
 induction n with
 | zero=>intro e m h;have:=Ac e;omega
 | succ n ih=>
  intro e m h hm hm15
  show qS (mi n) e m=_
  unfold qS
  have he:=Bc e
  obtain ⟨x,hx,hQ⟩:=oX (B:=fun v=>pn (mi n) e m v.1 v.2) (fun v=>e.Args.length - v.2)
   (fun v=>v.2≤e.Args.length∧v.1=min (1+(qC (e.Args.take v.2):Int)) (m+1)∧(v.2:Int)<v.1+1) (fun x=>Pq x=min (sz e:Int) (m+1)) (by
    rintro ⟨v,k⟩ ⟨hk,hv,hkv⟩
    simp only at hk hv hkv ⊢
    have ht:=Pm e.Args k
    unfold pn
    by_cases hlt:k<e.Args.length
    ·rw [if_pos (by omega),List.getElem?_eq_getElem hlt,Option.bind_some]
     by_cases hmv:m<v
     ·rw [if_pos hmv]
      exact .inl ⟨_,rfl,by simp only [Pq];omega⟩
     ·rw [if_neg hmv,if_pos (Fu (by omega) (by omega)),ih _ _ (by have:=Dd hlt;omega) (by omega) (by omega),Option.bind_some]
      have hs:=F4 hlt
      have hp:=Ac e.Args[k]
      rw [if_pos (Fu (by omega) (by omega)),if_pos (lP (by omega))]
      exact .inr ⟨_,rfl,⟨by simp only;omega,by simp only;omega,by simp only;omega⟩,by simp only;omega⟩
    ·rw [if_neg (by omega)]
     have hl:e.Args.take k=e.Args:=List.take_of_length_le (by omega)
     rw [hl] at hv
     exact .inl ⟨_,rfl,by simp only [Pq];omega⟩) (1,0) ⟨Nat.zero_le _,by simp [qC];omega,by simp⟩
  rw [hx,Option.bind_some]
  rcases x with ⟨a,b,c,d⟩ | ⟨a,b,c⟩
  ·exact congrArg some hQ
  ·exact congrArg some hQ
theorem Rm{e:ak}{m:Int}(h0:0≤m)(h:m≤15):vC e m=some (min (sz e:Int) (m+1)):=
 Ba (sz e) fun n hn=>Vj n e m hn h0 h
theorem Rn(e:ak)(v:Int):rV e v=some (lU v e):=by
 have j1:∀ w:Nat,w=(if 2<e.Kind then 2 else 0)→nN e v w=some (decide ((e.Kind=1∧(e.N < -9999999∨9999999<e.N))∨(2<e.Kind∧e.N≠0))):=by
  intro w hw
  unfold nN eV
  by_cases h2:2<e.Kind
  ·rw [if_pos h2] at hw
   subst hw
   have h1:¬e.Kind=1:=by omega
   by_cases hn:e.N=0<;>simp [h1,h2,hn]
  ·rw [if_neg h2] at hw
   subst hw
   by_cases h1:e.Kind=1
   ·by_cases h3:e.N < -9999999
    ·simp [h1,h3]
    ·by_cases h4:9999999<e.N<;>simp [h1,h3,h4]
   ·simp [h1,h2]
 have d1:∀ w:Nat,w=(if 2<e.Kind then 2 else 0)→¬(e.Kind<1∨7<e.Kind)→((lg e v w).bind fun (x4:(Unit⊕(Unit⊕(Unit⊕Unit))))=>match x4 with
   | .inl ()=>some (1:Int)
   | .inr (.inl ())=>some 3
   | .inr (.inr (.inl ()))=>some 5
   | .inr (.inr (.inr ()))=>some 0)=some (lU v e):=by
  intro w hw hk
  unfold lg lU
  rw [if_neg hk,←hw]
  by_cases hl:e.Args.length=w
  ·rw [j1 w hw,if_neg (show ¬((e.Args.length:Int) !=(w:Int))=true by simp [hl]),if_neg (show ¬e.Args.length≠w from fun h=>h hl),Option.bind_some]
   by_cases hc:(e.Kind=1∧(e.N < -9999999∨9999999<e.N))∨(2<e.Kind∧e.N≠0)
   ·rw [if_pos hc,decide_eq_true hc];rfl
   ·rw [if_neg hc,decide_eq_false hc,if_neg (by decide)]
    by_cases h2:e.Kind=2
    ·by_cases h3:e.N<0
     ·simp [h2,h3]
     ·by_cases h4:v≤e.N<;>simp [h2,h3,h4]
    ·simp [h2]
  ·rw [if_pos (show ((e.Args.length:Int) !=(w:Int))=true by simp;omega),if_pos (show e.Args.length≠w from hl)];rfl
 unfold rV
 by_cases h1:e.Kind<1
 ·rw [if_pos h1];simp [lU,h1]
 rw [if_neg h1]
 by_cases h7:7<e.Kind
 ·rw [if_pos h7];simp [lU,h7]
 rw [if_neg h7]
 by_cases h2:2<e.Kind
 ·rw [if_pos h2]
  exact d1 2 (by rw [if_pos h2]) (by omega)
 ·rw [if_neg h2]
  exact d1 0 (by rw [if_neg h2]) (by omega)
theorem MV(v:Int)(e:ak):lK v (rT e)=if lU v e≠0 then lU v e else lK v (fR e.Args):=by rw [Eg,lK]
theorem Ro(v:Int)(n:Nat):∀ (e:ak),sz e≤n→sz e≤15→(kR n).f_scope_parts e v=some (lK v (rT e)):=by
 induction n with
 | zero=>intro e h;have:=Ac e;omega
 | succ n ih=>
  intro e h h15
  show po (kR n) e v=_
  unfold po
  rw [Rn,Option.bind_some,MV]
  have he:=Bc e
  have hlen:=Eh e.Args
  by_cases hp:lU v e=0
  ·rw [if_neg (by simp [hp]),if_neg (by simp [hp])]
   obtain ⟨x,hx,hQ⟩:=oX (B:=fun k=>nO (kR n) e v k) (fun k=>e.Args.length - k)
    (fun k=>k≤e.Args.length∧lK v (fR (e.Args.take k))=0) (fun x=>(match x with
     | .inl y=>y
     | .inr _=>0)=lK v (fR e.Args)) (by
     rintro k ⟨hk,hv⟩
     unfold nO
     by_cases hlt:k<e.Args.length
     ·rw [if_pos (by omega),List.getElem?_eq_getElem hlt,Option.bind_some,ih _ (by have:=Dd hlt;omega) (by have:=Dd hlt;omega),Option.bind_some]
      have hs:=De hlt
      have hf:=xl v (fR (e.Args.take k)) (rT e.Args[k])
      rw [←hs,if_neg (by simp [hv])] at hf
      by_cases h0:lK v (rT e.Args[k])=0
      ·rw [if_neg (by simp [h0]),if_pos (lP (by omega))]
       exact .inr ⟨_,rfl,⟨by omega,by rw [hf,h0]⟩,by omega⟩
      ·rw [if_pos (by simp [h0])]
       refine .inl ⟨_,rfl,?_⟩
       have hd:fR e.Args=fR (e.Args.take (k+1))++fR (e.Args.drop (k+1)):=by rw [←vy,List.take_append_drop]
       rw [hd,xl,hf,if_pos h0]
     ·rw [if_neg (by omega)]
      have hl:e.Args.take k=e.Args:=List.take_of_length_le (by omega)
      rw [hl] at hv
      exact .inl ⟨_,rfl,hv.symm⟩) 0 ⟨Nat.zero_le _,by simp [fR,lK]⟩
   rw [hx,Option.bind_some]
   rcases x with a | ⟨a,b⟩
   ·exact congrArg some hQ
   ·exact congrArg some hQ
  ·rw [if_pos (by simp [hp]),if_pos hp]
theorem Pr{e:ak}{v:Int}(h:sz e≤15):uh e v=some (lK v (rT e)):=Ba (sz e) fun n hn=>Ro v n e hn h
def QM(v:Int)(e:ak):Int:=if 15<sz e then 2 else lK v (rT e)
theorem Rp(e:ak)(v:Int):ka e v=some (QM v e):=by
 unfold ka QM
 rw [Rm (by decide) (by decide),Option.bind_some]
 by_cases h:15<sz e
 ·rw [if_pos (by omega),if_pos h]
 ·rw [if_neg (by omega),if_neg h,Pr (by omega)];rfl
end Go.Proofs.YtkkkkondjclcnaaGreat.A
