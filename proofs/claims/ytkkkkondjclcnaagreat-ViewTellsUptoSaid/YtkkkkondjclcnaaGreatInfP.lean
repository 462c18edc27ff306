/- Levels in order; how much they hold; flows of commands that are right. -/
import Derived.Test.YtkkkkondjclcnaaGreatOkS
import Derived.Test.YtkkkkondjclcnaaGreatRawF
set_option linter.all false
namespace Go.Proofs.YtkkkkondjclcnaaGreat.A
open Go
abbrev iy(n:Nat)(l m:Level):Prop:=o6 n l m=true
theorem le_iff{n:Nat}{l m:Level} : iy n l m↔∀ k,k<n→(on m.Readers k=true→on l.Readers k=true)∧(on l.Writers k=true→on m.Writers k=true):=by
 unfold iy o6 Dm
 simp only [aA,bH,yY,jw,iI]
 constructor
 ·rintro ⟨h1,h2⟩ k hk
  exact ⟨fun h=>(h1 k hk).resolve_left (by simp [h]),fun h=>(h2 k hk).resolve_left (by simp [h])⟩
 ·intro h
  refine ⟨fun k hk=>?_,fun k hk=>?_⟩
  ·have:=(h k hk).1
   cases hq:on m.Readers k with
   | true=>exact .inr (this hq)
   | false=>exact .inl rfl
  ·have:=(h k hk).2
   cases hq:on l.Writers k with
   | true=>exact .inr (this hq)
   | false=>exact .inl rfl
theorem RF{n:Nat}(f:Nat→Bool){k:Nat}(hk:k<n):on ((List.range n).map f) k=f k:=by
 unfold on
 rw [cb,gw,zc hk]
 rfl
theorem Ht{n:Nat}{x y:List Bool}{k:Nat}(hk:k<n):on (pn n x y) k=(on x k&&on y k):=RF _ hk
theorem K9{n:Nat}{x y:List Bool}{k:Nat}(hk:k<n):on (uH n x y) k=(on x k||on y k):=RF _ hk
theorem le_refl(n:Nat)(l:Level):iy n l l:=le_iff.2 fun _ _=>⟨id,id⟩
theorem le_trans{n:Nat}{a b c:Level}(h:iy n a b)(h':iy n b c):iy n a c:=
 le_iff.2 fun k hk=>⟨fun hc=>(le_iff.1 h k hk).1 ((le_iff.1 h' k hk).1 hc),fun ha=>(le_iff.1 h' k hk).2 ((le_iff.1 h k hk).2 ha)⟩
theorem Ot(n:Nat)(a b:Level):iy n a (cZ n a b):=
 le_iff.2 fun k hk=>⟨fun h=>by rw [cZ,Ht hk,aA] at h;exact h.1,fun h=>by rw [cZ,K9 hk,h];rfl⟩
theorem TT(n:Nat)(a b:Level):iy n b (cZ n a b):=
 le_iff.2 fun k hk=>⟨fun h=>by rw [cZ,Ht hk,aA] at h;exact h.2,fun h=>by rw [cZ,K9 hk,h,vK]⟩
theorem join_le{n:Nat}{a b c:Level}(h:iy n a c)(h':iy n b c):iy n (cZ n a b) c:=
 le_iff.2 fun k hk=>⟨fun hc=>by rw [cZ,Ht hk,(le_iff.1 h k hk).1 hc,(le_iff.1 h' k hk).1 hc];rfl,fun hj=>by
  rw [cZ,K9 hk,jw] at hj
  exact hj.elim (le_iff.1 h k hk).2 (le_iff.1 h' k hk).2⟩
theorem join_mono{n:Nat}{a b c d:Level}(h:iy n a c)(h':iy n b d):iy n (cZ n a b) (cZ n c d):=join_le (le_trans h (Ot n c d)) (le_trans h' (TT n c d))
theorem bot_le(n:Nat)(l:Level):iy n (iF n) l:=
 le_iff.2 fun k hk=>⟨fun _=>by simp [iF,on,kA,hk],fun h=>by simp [iF,on,kA,hk] at h⟩
def bit(l:Level)(k:Nat):Nat:=(if on l.Readers k=true then 0 else 1)+(if on l.Writers k=true then 1 else 0)
def wt:Nat→Level→Nat
 | 0,_=>0
 | n+1,l=>wt n l+bit l n
theorem aci{l m:Level}{k:Nat}(h:(on m.Readers k=true→on l.Readers k=true)∧(on l.Writers k=true→on m.Writers k=true)):bit l k≤bit m k:=by
 unfold bit
 cases h1:on l.Readers k<;>cases h2:on m.Readers k<;>cases h3:on l.Writers k<;>cases h4:on m.Writers k<;>simp_all
theorem acj(n:Nat)(l:Level):wt n l≤2*n:=by
 induction n with
 | zero=>simp [wt]
 | succ n ih=>
  have:bit l n≤2:=by unfold bit;split<;>split<;>omega
  rw [wt];omega
theorem Ou{l m:Level} : ∀ {n:Nat},(∀ k,k<n→bit l k≤bit m k)→wt n l≤wt n m
 | 0,_=>aS _
 | n+1,h=>by
  have:=Ou (n:=n) fun k hk=>h k (by omega)
  have:=h n (by omega)
  rw [wt,wt];omega
theorem VW{l m:Level} : ∀ {n:Nat}{j:Nat},(∀ k,k<n→bit l k≤bit m k)→j<n→bit l j<bit m j→wt n l<wt n m
 | n+1,j,h,hj,hb=>by
  have h1:=Ou (n:=n) fun k hk=>h k (by omega)
  have h2:=h n (by omega)
  rw [wt,wt]
  by_cases he:j=n
  ·subst he;omega
  ·have:=VW (n:=n) (fun k hk=>h k (by omega)) (show j<n by omega) hb
   omega
theorem Ov{n:Nat}{t f:Level}(h:o6 n f t=false):wt n t<wt n (cZ n t f):=by
 have hle:=le_iff.1 (Ot n t f)
 have:¬iy n f t:=by unfold iy;rw [h];simp
 rw [le_iff] at this
 simp only [Classical.not_forall] at this
 obtain ⟨k,hk,hn⟩:=this
 refine VW (fun k hk=>aci (hle k hk)) hk ?_
 have ha:=Ht (x:=t.Readers) (y:=f.Readers) hk
 have ho:=K9 (x:=t.Writers) (y:=f.Writers) hk
 unfold bit cZ
 rw [ha,ho]
 revert hn
 cases on t.Readers k<;>cases on f.Readers k<;>cases on t.Writers k<;>cases on f.Writers k<;>simp
def Hu(n:Nat)(V:List Level):Nat:=(V.map (wt n)).sum
theorem Dt(n:Nat):∀ V:List Level,Hu n V≤2*n*V.length
 | []=>by simp [Hu]
 | l::V=>by
  have:=Dt n V
  have:=acj n l
  unfold Hu at *
  rw [bZ,vL,bu,Nat.mul_add]
  omega
theorem I8(n:Nat)(u:Level):∀ {V:List Level}{j:Nat}{t:Level},V[j]? =some t→Hu n (V.set j u)+wt n t=Hu n V+wt n u
 | [],j,t,h=>by simp at h
 | l::V,0,t,h=>by
  obtain rfl:l=t:=by simpa using h
  simp only [Hu,List.set_cons_zero,bZ,vL];omega
 | l::V,j+1,t,h=>by
  have:=I8 n u (V:=V) (j:=j) (t:=t) (by simpa using h)
  simp only [Hu,List.set_cons_succ,bZ,vL] at this ⊢;omega
def ug(n:Nat)(V W:List Level):Prop:=V.length=W.length∧∀ (i:Nat)(a b:Level),V[i]? =some a→W[i]? =some b→iy n a b
theorem Mo(n:Nat)(V:List Level):ug n V V:=⟨rfl,fun i a b h h'=>by rw [h] at h';cases h';exact le_refl n a⟩
theorem Ow{n:Nat}{V W:List Level}{j:Nat}{u:Level}(h:ug n V W)(hu:∀ b,W[j]? =some b→iy n u b):ug n (V.set j u) W:=⟨by rw [tG];exact h.1,fun i a b ha hb=>by
 rw [kx] at ha
 split at ha
 ·rename_i he
  subst he
  split at ha
  ·cases ha;exact hu b hb
  ·cases ha
 ·exact h.2 i a b ha hb⟩
def Hv(n:Nat)(V:List Level):List Int→Level→Level
 | [],v=>v
 | k::ns,v=>Hv n V ns (cZ n v (V.getD k.toNat (iF n)))
def km(n:Nat)(V:List Level)(e:az):Level:=Hv n V (pI e) (iF n)
theorem JX{n:Nat}{V W:List Level}(h:ug n V W)(k:Nat):iy n (V.getD k (iF n)) (W.getD k (iF n)):=by
 rw [cb,cb]
 by_cases hk:k<V.length
 ·have hk2:k<W.length:=by rw [←h.1];exact hk
  rw [aB hk,aB hk2]
  exact h.2 k _ _ (aB hk) (aB hk2)
 ·rw [vM (by omega)]
  exact bot_le n _
theorem Mp{n:Nat}{V W:List Level}(h:ug n V W):∀ (ns:List Int)(v w:Level),iy n v w→iy n (Hv n V ns v) (Hv n W ns w)
 | [],v,w,hv=>hv
 | k::ns,v,w,hv=>Mp h ns _ _ (join_mono hv (JX h k.toNat))
theorem td{n:Nat}{V W:List Level}(h:ug n V W)(e:az):iy n (km n V e) (km n W e):=Mp h _ _ _ (le_refl n _)
variable [Lp]
theorem go_eq{p:Program}(h:pJ p){vars:List Level}(hs:∀ l∈vars,bA (MM p) l):∀ (ns:List Int)(v:Level),bA (MM p) v→(∀ n∈ns,0≤n∧n.toNat<vars.length)→AL vars ns v=some (Hv (MM p) vars ns v)∧bA (MM p) (Hv (MM p) vars ns v)
 | [],v,hv,_=>⟨rfl,hv⟩
 | n::ns,v,hv,hn=>by
  obtain ⟨h0,h1⟩:=hn n (by simp)
  have hd:vars.getD n.toNat (iF (MM p))=vars[n.toNat]:=by rw [cb,aB h1];rfl
  rw [AL,dx h0,af,aB h1,af,uf h.small hv (hs _ (cq h1)),af,Hv,hd]
  exact go_eq h hs ns _ (et _ _ _) fun m hm=>hn m (by simp [hm])
structure eF(p:Program)(V F:List Level):Prop where
 vl:V.length=p.Vars.length
 fl:F.length=p.Funcs.length
 vs:∀ l∈V,bA (MM p) l
 fs:∀ l∈F,bA (MM p) l
theorem Mq{p:Program}(h:pJ p){V F:List Level}(hV:eF p V F){e:az}(he:er p e=0):mr p V e=some (km (MM p) V e)∧bA (MM p) (km (MM p) V e):=by
 have:=go_eq h hV.vs (pI e) _ (mS (MM p)) fun n hn=>by rw [hV.vl];exact ach he n hn
 refine ⟨?_,this.2⟩
 unfold mr
 rw [zB h,af]
 exact this.1
theorem of_eq{p:Program}(h:pJ p){V F:List Level}(hV:eF p V F){e:az}(he:er p e=0){pl:Level}(hpl:bA (MM p) pl):oa p V pl e=some (cZ (MM p) pl (km (MM p) V e)):=by
 obtain ⟨h1,h2⟩:=Mq h hV he
 unfold oa
 rw [h1,af,uf h.small hpl h2]
def LeF(n:Nat)(f g:dL):Prop:=iy n f.Level g.Level∧f.To=g.To∧f.Func=g.Func
def wo(p:Program)(f:dL):Prop:=bA (MM p) f.Level∧0≤f.To∧(if f.Func=true then f.To.toNat<p.Funcs.length else f.To.toNat<p.Vars.length)
inductive F2(n:Nat):List dL→List dL→Prop where
 | nil:F2 n [] []
 | cons {f g:dL} {r q:List dL} (h:LeF n f g) (t:F2 n r q):F2 n (f::r) (g::q)
theorem F2.append{n:Nat}{a b c d:List dL}(h:F2 n a b)(h':F2 n c d):F2 n (a++c) (b++d):=by
 induction h with
 | nil=>exact h'
 | cons h _ ih=>exact .cons h ih
theorem Ox{p:Program}(h:pJ p){V F W E:List Level}(hV:eF p V F)(hW:eF p W E)(hle:ug (MM p) V W){pl ql:Level}(hpl:bA (MM p) pl)(hql:bA (MM p) ql)(hpq:iy (MM p) pl ql){ps:List Int}(hps:∀ n∈ps,0≤n∧n<p.Vars.length) :
  ∀ (es:List az)(i:Nat)(o o':List dL),(∀ e∈es,er p e=0)→i+es.length≤ps.length→(∀ f∈o,wo p f)→F2 (MM p) o o'→
   ∃ r r',o8 p V pl ps es i o=some r∧o8 p W ql ps es i o'=some r'∧F2 (MM p) r r'∧(∀ f∈r,wo p f)∧r.length=o.length+es.length
 | [],i,o,o',_,_,ho,h2=>⟨o,o',rfl,rfl,h2,ho,rfl⟩
 | e::es,i,o,o',he,hi,ho,h2=>by
  have hi2:i<ps.length:=by simp only [bu] at hi;omega
  have hn:=hps _ (cq hi2)
  have hs:=et (MM p) pl (km (MM p) V e)
  rw [o8,of_eq h hV (he e (by simp)) hpl,af,aB hi2,af,o8,of_eq h hW (he e (by simp)) hql,af,aB hi2,af]
  obtain ⟨r,r',a1,a2,a3,a4,a5⟩:=Ox h hV hW hle hpl hql hpq hps es (i+1) (o++[⟨cZ (MM p) pl (km (MM p) V e),ps[i],false⟩]) (o'++[⟨cZ (MM p) ql (km (MM p) W e),ps[i],false⟩]) (fun x hx=>he x (by simp [hx])) (by simp only [bu] at hi;omega)
   (fun f hf=>by
    rcases bU.1 hf with hf | hf
    ·exact ho f hf
    ·obtain rfl:=fw.1 hf
     exact ⟨hs,hn.1,by simp;omega⟩) (h2.append (.cons ⟨join_mono hpq (td hle e),rfl,rfl⟩ .nil))
  exact ⟨r,r',a1,a2,a3,a4,by rw [a5];simp;omega⟩
theorem BH{p:Program}(h:pJ p)(ho:EV p){i:Nat}(hi:i≤p.Funcs.length){V F W E:List Level}(hV:eF p V F)(hW:eF p W E)(hle:ug (MM p) V W){pl ql:Level}(hpl:bA (MM p) pl)(hql:bA (MM p) ql)(hpq:iy (MM p) pl ql){s:Stmt}(hs:bO p i s=0) :
  s.Args.length≤4∧∃ r r',rC p V s pl=some r∧rC p W s ql=some r'∧F2 (MM p) r r'∧(∀ f∈r,wo p f)∧r.length≤10:=by
 obtain ⟨g1,g2,g3,g4,g5,g6⟩:=Ee hs
 have one:∀ {x y:Level},bA (MM p) x→iy (MM p) x y→eC s.Kind=true→F2 (MM p) [⟨x,s.Var,false⟩] [⟨y,s.Var,false⟩]∧(∀ f∈([⟨x,s.Var,false⟩]:List dL),wo p f)∧([⟨x,s.Var,false⟩]:List dL).length≤10:=fun hx hxy hv=>by
  have:=g2 hv
  exact ⟨.cons ⟨hxy,rfl,rfl⟩ .nil,fun f hf=>by obtain rfl:=fw.1 hf;exact ⟨hx,this.1,by simp;omega⟩,by simp⟩
 have noA:s.Kind≠2→s.Args.length≤4:=fun hk=>by
  unfold bO at hs
  split at hs
  ·exact absurd hs (by decide)
  split at hs
  ·exact absurd hs (by decide)
  split at hs
  ·exact absurd hs (by decide)
  ·rename_i h3
   have:¬(s.Kind≠2∧0<s.Args.length):=fun hh=>h3 (.inr (.inr (.inr (.inl hh))))
   have:s.Args.length=0:=by
    rcases tI s.Args.length with h | h
    ·exact h
    ·exact absurd ⟨hk,h⟩ this
   omega
 unfold rC
 by_cases h1:s.Kind=1
 ·rw [ab h1,ab h1]
  have he:=g5 (by simp [eD,h1])
  rw [of_eq h hV he hpl,of_eq h hW he hql]
  obtain ⟨a1,a2,a3⟩:=one (et (MM p) pl (km (MM p) V s.Expr)) (join_mono hpq (td hle s.Expr)) (by simp [eC,h1])
  exact ⟨noA (by omega),_,_,rfl,rfl,a1,a2,a3⟩
 rw [ad h1,ad h1]
 by_cases h2:s.Kind=2
 ·rw [ab h2,ab h2]
  obtain ⟨o1,o2⟩:=g3 (by simp [fT,h2])
  have o3:s.Other<i:=by simpa [gP,h2] using o2
  have o4:s.Other.toNat<p.Funcs.length:=by omega
  have hfn:=ho.fns _ o4
  obtain ⟨f1,f2,_,f4⟩:=Hk hfn
  have hal:s.Args.length=(p.Funcs[s.Other.toNat]).Params.length:=by
   rw [g4 h2,yf,aB o4];rfl
  rw [dx o1,af,af,aB o4,af,af]
  obtain ⟨r,r',a1,a2,a3,a4,a5⟩:=Ox h hV hW hle hpl hql hpq f2 s.Args 0 [] [] g6 (by omega) (fun _ h=>absurd h (by simp)) .nil
  rw [a1,a2,af,af,of_eq h hV f4 hpl,of_eq h hW f4 hql,af,af]
  have hv:=g2 (by simp [eC,h2])
  refine ⟨by omega,_,_,rfl,rfl,a3.append (.cons ⟨join_mono hpq (td hle _),rfl,rfl⟩ (.cons ⟨hpq,rfl,rfl⟩ .nil)),fun f hf=>?_,?_⟩
  ·rcases bU.1 hf with hf | hf
   ·exact a4 f hf
   ·rcases cR.1 hf with rfl | hf
    ·exact ⟨et _ _ _,hv.1,by simp;omega⟩
    ·obtain rfl:=fw.1 hf
     exact ⟨hpl,o1,by simp;omega⟩
  ·rw [cH,a5];simp;omega
 rw [ad h2,ad h2]
 by_cases h3:s.Kind=3
 ·rw [ab h3,ab h3]
  obtain ⟨o1,o2⟩:=g3 (by simp [fT,h3])
  have o3:s.Other<p.Ins.length:=by simpa [gP,h3] using o2
  have o4:s.Other.toNat<p.Ins.length:=by omega
  have hlab:=h.ins _ (cq o4)
  have hsz:=sD p.aj (p.Ins[s.Other.toNat])
  rw [dx o1,af,af,aB o4,af,af,Mk p.aj h.dM _ hlab,af,af,uf h.small hpl hsz,uf h.small hql hsz,af,af]
  obtain ⟨a1,a2,a3⟩:=one (et (MM p) pl (cY p.aj (p.Ins[s.Other.toNat]))) (join_mono hpq (le_refl (MM p) (cY p.aj (p.Ins[s.Other.toNat])))) (by simp [eC,h3])
  exact ⟨noA (by omega),_,_,rfl,rfl,a1,a2,a3⟩
 rw [ad h3,ad h3]
 by_cases h5:s.Kind=5
 ·rw [ab h5,ab h5]
  have he:=g5 (by simp [eD,h5])
  rw [of_eq h hV he hpl,of_eq h hW he hql]
  have hj:=et (MM p) pl (km (MM p) V s.Expr)
  have hm:=le_iff.1 (join_mono hpq (td hle s.Expr))
  obtain ⟨a1,a2,a3⟩:=one (x:=⟨pl.Readers,(cZ (MM p) pl (km (MM p) V s.Expr)).Writers⟩) (y:=⟨ql.Readers,(cZ (MM p) ql (km (MM p) W s.Expr)).Writers⟩) ⟨hpl.1,hj.2⟩ (le_iff.2 fun k hk=>⟨(le_iff.1 hpq k hk).1,(hm k hk).2⟩) (by simp [eC,h5])
  exact ⟨noA (by omega),_,_,rfl,rfl,a1,a2,a3⟩
 rw [ad h5,ad h5]
 by_cases h6:s.Kind=6
 ·rw [ab h6,ab h6]
  have he:=g5 (by simp [eD,h6])
  rw [of_eq h hV he hpl,of_eq h hW he hql]
  have hj:=et (MM p) pl (km (MM p) V s.Expr)
  have hm:=le_iff.1 (join_mono hpq (td hle s.Expr))
  obtain ⟨a1,a2,a3⟩:=one (x:=⟨(cZ (MM p) pl (km (MM p) V s.Expr)).Readers,pl.Writers⟩) (y:=⟨(cZ (MM p) ql (km (MM p) W s.Expr)).Readers,ql.Writers⟩) ⟨hj.1,hpl.2⟩ (le_iff.2 fun k hk=>⟨(hm k hk).1,(le_iff.1 hpq k hk).2⟩) (by simp [eC,h6])
  exact ⟨noA (by omega),_,_,rfl,rfl,a1,a2,a3⟩
 rw [ad h6,ad h6]
 exact ⟨noA (by omega),_,_,rfl,rfl,.nil,fun _ h=>(by cases h),by simp⟩
def z8(p:Program)(n:Nat)(V F:List Level)(f:dL):Prop:=
 if f.Func=true then ∀ t,F[f.To.toNat]? =some t→iy n f.Level t
 else ∀ v t,p.Vars[f.To.toNat]? =some v→v.Known=false→V[f.To.toNat]? =some t→iy n f.Level t
section
variable (n:Nat)(V:List Level)(T:Stmt→Level→Prop)
mutual
def BI:Stmt→Level→Prop
 | ⟨k,v,o,e,args,th,el⟩,pl=>T ⟨k,v,o,e,args,th,el⟩ pl∧(7≤k→pq th (cZ n pl (km n V e))∧pq el (cZ n pl (km n V e)))
def pq:List Stmt→Level→Prop
 | [],_=>True
 | x::r,pl=>BI x pl∧pq r pl
end
theorem I9(s:Stmt)(pl:Level):BI n V T s pl↔T s pl∧(7≤s.Kind→pq n V T s.Then (cZ n pl (km n V s.Expr))∧pq n V T s.Else (cZ n pl (km n V s.Expr))):=by
 cases s;rw [BI]
def FK(F:List Level):List Func→Nat→Prop
 | [],_=>True
 | f::r,i=>(∀ q,F[i]? =some q→pq n V T f.Body q)∧FK F r (i+1)
def vi(p:Program)(F:List Level):Prop:=FK n V T F p.Funcs 0∧pq n V T p.Main (iF n)
end
variable [Lp]
def asks(p:Program)(V F:List Level)(st:Stmt)(pl:Level):Prop:=∀ fs,rC p V st pl=some fs→∀ f∈fs,z8 p (MM p) V F f
structure pL(p:Program)(W E:List Level)(s:bW):Prop where
 ok:eF p s.V s.F
 v:ug (MM p) s.V W
 f:ug (MM p) s.F E
def mu(p:Program)(s:bW):Nat:=Hu (MM p) s.V+Hu (MM p) s.F
structure Grow(p:Program)(s t:bW):Prop where
 mu:mu p s≤mu p t
 ch:t.ch=true→s.ch=true∨A.mu p s<A.mu p t
 up:s.ch=true→t.ch=true
 kn:∀ (i:Nat)(v:Var),p.Vars[i]? =some v→v.Known=true→t.V[i]? =s.V[i]?
theorem Grow.refl(p:Program)(s:bW):Grow p s s:=⟨aS _,fun h=>.inl h,fun h=>h,fun _ _ _ _=>rfl⟩
theorem Grow.trans{p:Program}{s t u:bW}(h:Grow p s t)(h':Grow p t u):Grow p s u:=
 ⟨bQ h.mu h'.mu,fun hu=>(h'.ch hu).elim (fun ht=>(h.ch ht).imp id fun hlt=>eb hlt h'.mu) fun hlt=>.inr (Nat.lt_of_le_of_lt h.mu hlt),fun hs=>h'.up (h.up hs),fun i v hv hk=>(h'.kn i v hv hk).trans (h.kn i v hv hk)⟩
theorem Du{n:Nat}{V:List Level}{i:Nat}{t:Level}(h:∀ l∈V,bA n l)(ht:V[i]? =some t):bA n t:=h t (aL ht)
theorem BJ{V:List Level}{j:Nat}{u l:Level}(h:l∈V.set j u):l∈V∨l=u:=(iH h)
theorem WI{p:Program}(h:pJ p){W E:List Level}{s:bW}(hb:pL p W E s){f g:dL}(hf:wo p f)(hfg:LeF (MM p) f g)(hg:z8 p (MM p) W E g) :
  ∃ t,qM p s f=some t∧pL p W E t∧Grow p s t∧(t.ch=false→t=s∧z8 p (MM p) s.V s.F f):=by
 obtain ⟨h1,h2,h3⟩:=hf
 obtain ⟨l1,l2,l3⟩:=hfg
 unfold qM
 rw [dx h2,af]
 unfold z8 at hg
 cases hfn:f.Func with
 | true=>
  rw [ab rfl]
  rw [hfn,ab rfl] at h3
  rw [←l3,hfn,ab rfl,←l2] at hg
  have hi:f.To.toNat<s.F.length:=by rw [hb.ok.fl];exact h3
  have ht:=aB hi
  generalize s.F[f.To.toNat]=t at ht
  have hts:=Du hb.ok.fs ht
  rw [ht,af,Ef h.small h1 hts,af]
  cases hu:o6 (MM p) f.Level t with
  | true=>
   rw [ab rfl]
   exact ⟨s,rfl,hb,.refl p s,fun _=>⟨rfl,by unfold z8;rw [hfn,ab rfl];intro t' ht';rw [ht] at ht';cases ht';exact hu⟩⟩
  | false=>
   rw [ad (by simp),uf h.small hts h1,af]
   have hw:=I8 (MM p) (cZ (MM p) t f.Level) ht
   have hj:=Ov hu
   refine ⟨_,rfl,⟨⟨hb.ok.vl,by simp [hb.ok.fl],hb.ok.vs,fun l hl=>(BJ hl).elim (hb.ok.fs l) fun e=>by rw [e];exact et _ _ _⟩,hb.v,Ow hb.f fun b hbb=>join_le (hb.f.2 _ _ _ ht hbb) (le_trans l1 (hg b hbb))⟩,⟨by simp only [mu];omega,fun _=>.inr (by simp only [mu];omega),fun _=>rfl,fun _ _ _ _=>rfl⟩,fun hc=>by cases hc⟩
 | false=>
  rw [ad (by simp)]
  rw [hfn,ad (by simp)] at h3
  rw [←l3,hfn,ad (by simp),←l2] at hg
  have hv:=aB h3
  generalize p.Vars[f.To.toNat]=v at hv
  rw [hv,af]
  cases hk:v.Known with
  | true=>
   rw [ab rfl]
   exact ⟨s,rfl,hb,.refl p s,fun _=>⟨rfl,by unfold z8;rw [hfn,ad (by simp)];intro v' t' hv' hk';rw [hv] at hv';cases hv';rw [hk] at hk';cases hk'⟩⟩
  | false=>
   rw [ad (by simp)]
   have hi:f.To.toNat<s.V.length:=by rw [hb.ok.vl];exact h3
   have ht:=aB hi
   generalize s.V[f.To.toNat]=t at ht
   have hts:=Du hb.ok.vs ht
   rw [ht,af,Ef h.small h1 hts,af]
   cases hu:o6 (MM p) f.Level t with
   | true=>
    rw [ab rfl]
    exact ⟨s,rfl,hb,.refl p s,fun _=>⟨rfl,by unfold z8;rw [hfn,ad (by simp)];intro v' t' _ _ ht';rw [ht] at ht';cases ht';exact hu⟩⟩
   | false=>
    rw [ad (by simp),uf h.small hts h1,af]
    have hw:=I8 (MM p) (cZ (MM p) t f.Level) ht
    have hj:=Ov hu
    refine ⟨_,rfl,⟨⟨by simp [hb.ok.vl],hb.ok.fl,fun l hl=>(BJ hl).elim (hb.ok.vs l) fun e=>by rw [e];exact et _ _ _,hb.ok.fs⟩,Ow hb.v fun b hbb=>join_le (hb.v.2 _ _ _ ht hbb) (le_trans l1 (hg v b hv hk hbb)),hb.f⟩,⟨by simp only [mu];omega,fun _=>.inr (by simp only [mu];omega),fun _=>rfl,fun i v' hv' hk'=>?_⟩,fun hc=>by cases hc⟩
    show (s.V.set _ _)[i]? =s.V[i]?
    rw [List.getElem?_set_ne]
    intro e
    rw [e,hv'] at hv
    cases hv
    rw [hk'] at hk;cases hk
theorem Mr{p:Program}(h:pJ p){W E:List Level} : ∀ {fs gs:List dL}{s:bW},F2 (MM p) fs gs→pL p W E s→(∀ f∈fs,wo p f)→(∀ g∈gs,z8 p (MM p) W E g)→
  ∃ t,vg p fs s=some t∧pL p W E t∧Grow p s t∧(t.ch=false→t=s∧∀ f∈fs,z8 p (MM p) s.V s.F f)
 | _,_,s,.nil,hb,_,_=>⟨s,rfl,hb,.refl p s,fun _=>⟨rfl,fun _ h=>absurd h (by simp)⟩⟩
 | _,_,s,.cons (f:=f) (g:=g) (r:=r) (q:=q) hfg ht,hb,hf,hg=>by
  obtain ⟨t,t1,t2,t3,t4⟩:=WI h hb (hf f (by simp)) hfg (hg g (by simp))
  obtain ⟨u,u1,u2,u3,u4⟩:=Mr h ht t2 (fun x hx=>hf x (by simp [hx])) fun x hx=>hg x (by simp [hx])
  refine ⟨u,by rw [vg,t1,af,u1],u2,t3.trans u3,fun hc=>?_⟩
  obtain ⟨rfl,b⟩:=u4 hc
  obtain ⟨rfl,c⟩:=t4 hc
  refine ⟨rfl,fun x hx=>?_⟩
  rcases cR.1 hx with rfl | hx
  ·exact c
  ·exact b x hx
section
variable {p:Program}(h:pJ p)(ho:EV p){W E:List Level}(hW:eF p W E){i:Nat}(hi:i≤p.Funcs.length)
include h ho hW hi
theorem Ms{st:Stmt}{a:Nat}{pl ql:Level}{s:bW}(hs:bO p i st=0)(hb:pL p W E s)(hpl:bA (MM p) pl)(hql:bA (MM p) ql)(hpq:iy (MM p) pl ql)(hT:asks p W E st ql) :
  ∃ t,rE p a st pl s=some t∧pL p W E t∧Grow p s t∧(t.ch=false→t=s∧asks p s.V s.F st pl):=by
 obtain ⟨_,r,r',a1,a2,a3,a4,a5⟩:=BH h ho hi hb.ok hW hb.v hpl hql hpq hs
 obtain ⟨t,t1,t2,t3,t4⟩:=Mr h a3 hb a4 (hT r' a2)
 refine ⟨t,by unfold rE;rw [a1,af,ab (by omega),t1],t2,t3,fun hc=>⟨(t4 hc).1,fun fs hfs=>?_⟩⟩
 rw [a1] at hfs;cases hfs
 exact (t4 hc).2
mutual
theorem WJ:∀ (st:Stmt)(a:Nat)(pl ql:Level)(s:bW),vf (bO p i) st=0→sA st≤50→a+sA st≤1000→pL p W E s→bA (MM p) pl→bA (MM p) ql→iy (MM p) pl ql→BI (MM p) W (asks p W E) st ql→
  ∃ t,Hp p bW.V (rE p) st a pl s=some (a+sA st,t)∧pL p W E t∧Grow p s t∧(t.ch=false→t=s∧BI (MM p) s.V (asks p s.V s.F) st pl)
 | ⟨k,v,o,e,args,th,el⟩,a,pl,ql,s,he,hc,ha,hb,hpl,hql,hpq,hT=>by
  obtain ⟨e1,e2,e3⟩:=FJ he
  obtain ⟨T1,T2⟩:=(I9 _ _ _ _ _).1 hT
  have hlen:=(BH h ho hi hb.ok hW hb.v hpl hql hpq e1).1
  have hcnt:=AK ⟨k,v,o,e,args,th,el⟩
  have l1:=jB th
  have l2:=jB el
  simp only at hlen hcnt e2 e3
  obtain ⟨t,t1,t2,t3,t4⟩:=Ms h ho hW hi (a:=a) e1 hb hpl hql hpq T1
  rw [Mn,ab ⟨by omega,by simp only;omega,by simp only;omega,by simp only;omega⟩,t1,af]
  by_cases h7:7≤k
  ·rw [ab h7]
   obtain ⟨T3,T4⟩:=T2 h7
   have hex:=(Ee e1).2.2.2.2.1 (by simp only [eD];exact av ⟨by omega,by omega⟩)
   simp only at hex
   have hq:=of_eq h t2.ok hex hpl
   have hsz:=et (MM p) pl (km (MM p) t.V e)
   have hsz2:=et (MM p) ql (km (MM p) W e)
   have hle:=join_mono hpq (td t2.v e)
   simp only
   rw [hq,af]
   obtain ⟨u,u1,u2,u3,u4⟩:=AP th (a+1) _ _ t e2 (by omega) (by omega) t2 hsz hsz2 hle T3
   obtain ⟨w,w1,w2,w3,w4⟩:=AP el (a+1+br th) _ _ u e3 (by omega) (by omega) u2 hsz hsz2 hle T4
   rw [u1,af,w1]
   refine ⟨w,by rw [hcnt];congr 2;omega,w2,(t3.trans u3).trans w3,fun hc=>?_⟩
   obtain ⟨rfl,c1⟩:=w4 hc
   obtain ⟨rfl,c2⟩:=u4 hc
   obtain ⟨rfl,c3⟩:=t4 hc
   exact ⟨rfl,(I9 _ _ _ _ _).2 ⟨c3,fun _=>⟨c2,c1⟩⟩⟩
  ·rw [ad h7]
   have hk0:k<7:=by omega
   have z:th.length=0∧el.length=0:=by
    unfold bO at e1
    split at e1
    ·exact absurd e1 (by decide)
    split at e1
    ·exact absurd e1 (by decide)
    split at e1
    ·exact absurd e1 (by decide)
    ·rename_i h3
     simp only at h3
     constructor
     ·rcases tI th.length with hz | hz
      ·exact hz
      ·exact absurd (.inr (.inr (.inr (.inr (.inl ⟨hk0,hz⟩))))) h3
     ·rcases tI el.length with hz | hz
      ·exact hz
      ·exact absurd (.inr (.inr (.inr (.inr (.inr ⟨by omega,hz⟩))))) h3
   have z1:th=[]:=vN.1 z.1
   have z2:el=[]:=vN.1 z.2
   subst z1 z2
   refine ⟨t,by rw [hcnt];simp [br],t2,t3,fun hc=>?_⟩
   obtain ⟨rfl,c3⟩:=t4 hc
   exact ⟨rfl,(I9 _ _ _ _ _).2 ⟨c3,fun hh=>absurd hh h7⟩⟩
theorem AP:∀ (l:List Stmt)(a:Nat)(pl ql:Level)(s:bW),dj (bO p i) l=0→br l≤50→a+br l≤1000→pL p W E s→bA (MM p) pl→bA (MM p) ql→iy (MM p) pl ql→pq (MM p) W (asks p W E) l ql→
  ∃ t,nL p bW.V (rE p) l a pl s=some (a+br l,t)∧pL p W E t∧Grow p s t∧(t.ch=false→t=s∧pq (MM p) s.V (asks p s.V s.F) l pl)
 | [],a,pl,ql,s,he,hc,ha,hb,hpl,hql,hpq,hT=>⟨s,by rw [nL,br];rfl,hb,.refl p s,fun _=>⟨rfl,by rw [pq];trivial⟩⟩
 | x::r,a,pl,ql,s,he,hc,ha,hb,hpl,hql,hpq,hT=>by
  rw [br] at hc ha
  rw [pq] at hT
  have he1:=BB he x (by simp)
  have he2:dj (bO p i) r=0:=by
   rw [dj,ad (by simp [he1])] at he;exact he
  obtain ⟨t,t1,t2,t3,t4⟩:=WJ x a pl ql s he1 (by omega) (by omega) hb hpl hql hpq hT.1
  obtain ⟨u,u1,u2,u3,u4⟩:=AP r (a+sA x) pl ql t he2 (by omega) (by omega) t2 hpl hql hpq hT.2
  refine ⟨u,by rw [nL,t1,af,u1,br];congr 2;omega,u2,t3.trans u3,fun hc=>?_⟩
  obtain ⟨rfl,c1⟩:=u4 hc
  obtain ⟨rfl,c2⟩:=t4 hc
  exact ⟨rfl,by rw [pq];exact ⟨c2,c1⟩⟩
end
end
variable [Lp]
abbrev iG(l:List Func):Nat:=(l.map fun f=>br f.Body).sum
section
variable {p:Program}(h:pJ p)(ho:EV p)
include h ho
theorem Ja{rest:List Func}{f:Func}{i:Nat}(hd:p.Funcs.drop i=f::rest):p.Funcs[i]? =some f∧p.Funcs.drop (i+1)=rest∧i<p.Funcs.length∧sB p i f=0:=by
 have hg:p.Funcs[i]? =some f:=by
  have:=an (fun l=>l[0]?) hd
  simpa using this
 have hd2:p.Funcs.drop (i+1)=rest:=by
  have:=an List.tail hd
  simpa using this
 have hi:=(dh.1 hg).1
 have:=ho.fns i hi
 rw [(dh.1 hg).2] at this
 exact ⟨hg,hd2,hi,this⟩
theorem Oy{W E:List Level}(hW:eF p W E):∀ (rest:List Func)(i a:Nat)(s:bW),p.Funcs.drop i=rest→iG rest≤50→a+iG rest≤1000→pL p W E s→FK (MM p) W (asks p W E) E rest i→
  ∃ t,BE p bW.V bW.F (rE p) rest i a s=some (a+iG rest,t)∧pL p W E t∧Grow p s t∧(t.ch=false→t=s∧FK (MM p) s.V (asks p s.V s.F) s.F rest i)
 | [],i,a,s,hd,hs,ha,hb,hT=>⟨s,rfl,hb,.refl p s,fun _=>⟨rfl,trivial⟩⟩
 | f::rest,i,a,s,hd,hs,ha,hb,hT=>by
  obtain ⟨hg,hd2,hi,hfn⟩:=Ja h ho hd
  obtain ⟨_,_,f3,_⟩:=Hk hfn
  have hsum:iG (f::rest)=br f.Body+iG rest:=by simp [iG]
  rw [hsum] at hs ha
  have hl:=jB f.Body
  have hiF:i<s.F.length:=by rw [hb.ok.fl];exact hi
  have hiE:i<E.length:=by rw [hW.fl];exact hi
  have hq:=aB hiF
  have hq2:=aB hiE
  rw [BE,ab (by omega),hq,af]
  obtain ⟨t,t1,t2,t3,t4⟩:=AP h ho hW (by omega) f.Body a _ _ s f3 (by omega) (by omega) hb (hb.ok.fs _ (cq hiF)) (hW.fs _ (cq hiE)) (hb.f.2 i _ _ hq hq2) (hT.1 _ hq2)
  obtain ⟨u,u1,u2,u3,u4⟩:=Oy hW rest (i+1) (a+br f.Body) t hd2 (by omega) (by omega) t2 hT.2
  refine ⟨u,by rw [t1,af,u1,hsum];congr 2;omega,u2,t3.trans u3,fun hc=>?_⟩
  obtain ⟨rfl,c1⟩:=u4 hc
  obtain ⟨rfl,c2⟩:=t4 hc
  exact ⟨rfl,fun q hq'=>by rw [hq] at hq';cases hq';exact c2,c1⟩
theorem WK{W E:List Level}(hW:eF p W E){s:bW}(hb:pL p W E s)(hT:vi (MM p) W (asks p W E) p E) :
  ∃ a t,Dp p bW.V bW.F (rE p) s=some (a,t)∧pL p W E t∧Grow p s t∧(t.ch=false→t=s∧vi (MM p) s.V (asks p s.V s.F) p s.F):=by
 have hsum:=ho.sum
 have hf:=ho.funcs
 have hm:=ho.main
 have hl:=jB p.Main
 obtain ⟨t,t1,t2,t3,t4⟩:=Oy h ho hW p.Funcs 0 0 s rfl (show iG p.Funcs≤50 by unfold iG;omega) (show 0+iG p.Funcs≤1000 by unfold iG;omega) hb hT.1
 obtain ⟨u,u1,u2,u3,u4⟩:=AP h ho hW (aS _) p.Main (0+iG p.Funcs) (iF (MM p)) (iF (MM p)) t ho.mains (by omega) (by unfold iG;omega) t2 (mS _) (mS _) (le_refl _ _) hT.2
 refine ⟨_,u,by unfold Dp;rw [ab (by omega),t1,af,zB h,af,u1],u2,t3.trans u3,fun hc=>?_⟩
 obtain ⟨rfl,c1⟩:=u4 hc
 obtain ⟨rfl,c2⟩:=t4 hc
 exact ⟨rfl,c2,c1⟩
def nM(p:Program):List Level:=p.Vars.map fun v=>if v.Known=true then cY p.aj v.Label else iF (MM p)
def sP(p:Program):List Level:=p.Funcs.map fun _=>iF (MM p)
theorem FL:∀ (l:List Var)(o:List Level),(∀ v∈l,v∈p.Vars)→Ej p l o=some (o++l.map fun v=>if v.Known=true then cY p.aj v.Label else iF (MM p))
 | [],o,_=>by simp [Ej]
 | v::r,o,hv=>by
  have hlab:=h.vars v (hv v (by simp))
  rw [Ej,zB h,af]
  cases hk:v.Known with
  | true=>
   rw [ab rfl,Mk p.aj h.dM _ hlab,af,FL r _ fun w hw=>hv w (by simp [hw])]
   simp [hk]
  | false=>
   rw [ad (by simp),af,FL r _ fun w hw=>hv w (by simp [hw])]
   simp [hk]
theorem Mt:∀ (l:List Func)(o:List Level),Ek p l o=some (o++l.map fun _=>iF (MM p))
 | [],o=>by simp [Ek]
 | v::r,o=>by
  rw [Ek,zB h,af,Mt r]
  simp
theorem VX:eF p (nM p) (sP p):=by
 refine ⟨by simp [nM],by simp [sP],fun l hl=>?_,fun l hl=>?_⟩
 ·obtain ⟨v,_,rfl⟩:=eH.1 hl
  split
  ·exact sD _ _
  ·exact mS _
 ·obtain ⟨v,_,rfl⟩:=eH.1 hl
  exact mS _
theorem RG{W E:List Level}(hW:eF p W E)(hK:∀ (i:Nat)(v:Var)(b:Level),p.Vars[i]? =some v→v.Known=true→W[i]? =some b→iy (MM p) (cY p.aj v.Label) b)(hT:vi (MM p) W (asks p W E) p E) :
  ∃ m,lC p=some m∧eF p m.Vars m.Funcs∧vi (MM p) m.Vars (asks p m.Vars m.Funcs) p m.Funcs∧ug (MM p) m.Vars W∧ug (MM p) m.Funcs E∧∀ (i:Nat)(v:Var),p.Vars[i]? =some v→v.Known=true→m.Vars[i]? =some (cY p.aj v.Label):=by
 have hv16:=ho.vars
 have hf5:=ho.funcs
 have b0:pL p W E ⟨nM p,sP p,true⟩:=by
  refine ⟨VX h ho,⟨by rw [hW.vl];simp [nM],fun i a b ha hb=>?_⟩,⟨by rw [hW.fl];simp [sP],fun i a b ha hb=>?_⟩⟩
  ·rw [nM,gw] at ha
   obtain ⟨v,hv,rfl⟩:=c9.1 ha
   split
   ·rename_i hk;exact hK i v b hv hk hb
   ·exact bot_le _ _
  ·rw [sP,gw] at ha
   obtain ⟨v,hv,rfl⟩:=c9.1 ha
   exact bot_le _ _
 have k0:∀ (i:Nat)(v:Var),p.Vars[i]? =some v→v.Known=true→(nM p)[i]? =some (cY p.aj v.Label):=fun i v hv hk=>by
  rw [nM,gw,hv];simp [hk]
 obtain ⟨s,hs,hQ⟩:=ke (B:=BG p) (fun s=>2*(2*MM p*(p.Vars.length+p.Funcs.length) - mu p s)+(if s.ch=true then 1 else 0))
  (fun s=>pL p W E s∧(∀ (i:Nat)(v:Var),p.Vars[i]? =some v→v.Known=true→s.V[i]? =some (cY p.aj v.Label))∧(s.ch=false→vi (MM p) s.V (asks p s.V s.F) p s.F))
  (fun s=>pL p W E s∧(∀ (i:Nat)(v:Var),p.Vars[i]? =some v→v.Known=true→s.V[i]? =some (cY p.aj v.Label))∧vi (MM p) s.V (asks p s.V s.F) p s.F) (by
   rintro s ⟨hb,hkn,hal⟩
   unfold BG
   cases hc:s.ch with
   | false=>
    rw [ad (by simp)]
    exact .inl ⟨s,rfl,hb,hkn,hal hc⟩
   | true=>
    rw [ab rfl]
    have hb2:pL p W E ⟨s.V,s.F,false⟩:=⟨hb.ok,hb.v,hb.f⟩
    obtain ⟨a,t,t1,t2,t3,t4⟩:=WK h ho hW hb2 hT
    refine .inr ⟨t,by rw [t1];rfl,⟨t2,fun i v hv hk=>(t3.kn i v hv hk).trans (hkn i v hv hk),fun hc2=>?_⟩,?_⟩
    ·obtain ⟨rfl,c⟩:=t4 hc2
     exact c
    ·have m1:mu p ⟨s.V,s.F,false⟩=mu p s:=rfl
     have m2:=t3.mu
     have m3:mu p t≤2*MM p*(p.Vars.length+p.Funcs.length):=by
      have q1:=Dt (MM p) t.V
      have q2:=Dt (MM p) t.F
      rw [t2.ok.vl] at q1
      rw [t2.ok.fl] at q2
      unfold mu
      rw [Nat.mul_add];omega
     cases hc2:t.ch with
     | false=>simp only [bB,aM,aq];omega
     | true=>
      have:=t3.ch hc2
      simp only [aq]
      rcases this with h1 | h1
      ·cases h1
      ·omega) ⟨nM p,sP p,true⟩ ⟨b0,k0,fun hc=>by cases hc⟩
 refine ⟨⟨s.V,s.F⟩,?_,hQ.1.ok,hQ.2.2,hQ.1.v,hQ.1.f,hQ.2.1⟩
 unfold lC
 have e1:=FL h ho p.Vars [] fun v hv=>hv
 have e2:=Mt h ho p.Funcs []
 rw [ea] at e1 e2
 rw [ab (by omega),e1,af,e2,af]
 show (lp (BG p) ⟨nM p,sP p,true⟩).bind _=_
 rw [hs];rfl
end
variable [Lp]
mutual
theorem TU{n:Nat}{V:List Level}{T:Stmt→Level→Prop}(hT:∀ s pl,T s pl):∀ (s:Stmt)(pl:Level),BI n V T s pl
 | ⟨k,v,o,e,args,th,el⟩,pl=>by rw [BI];exact ⟨hT _ _,fun _=>⟨yi hT th _,yi hT el _⟩⟩
theorem yi{n:Nat}{V:List Level}{T:Stmt→Level→Prop}(hT:∀ s pl,T s pl):∀ (l:List Stmt)(pl:Level),pq n V T l pl
 | [],pl=>by rw [pq];trivial
 | x::r,pl=>by rw [pq];exact ⟨TU hT x pl,yi hT r pl⟩
end
theorem Mu{n:Nat}{V:List Level}{T:Stmt→Level→Prop}(hT:∀ s pl,T s pl)(F:List Level):∀ (l:List Func)(i:Nat),FK n V T F l i
 | [],_=>trivial
 | f::r,i=>⟨fun q _=>yi hT f.Body q,Mu hT F r (i+1)⟩
def yj(n:Nat):Level:=⟨List.replicate n false,List.replicate n true⟩
theorem le_top(n:Nat)(l:Level):iy n l (yj n):=
 le_iff.2 fun k hk=>⟨fun h=>by simp [yj,on,kA,hk] at h,fun _=>by simp [yj,on,kA,hk]⟩
theorem Jb{n k i:Nat}{t:Level}(h:(List.replicate k (yj n))[i]? =some t):t=yj n:=by
 rw [kA] at h
 split at h
 ·exact (aa h).symm
 ·cases h
theorem WO{p:Program}(h:pJ p)(ho:EV p):∃ m,lC p=some m∧eF p m.Vars m.Funcs∧vi (MM p) m.Vars (asks p m.Vars m.Funcs) p m.Funcs∧∀ (i:Nat)(v:Var),p.Vars[i]? =some v→v.Known=true→m.Vars[i]? =some (cY p.aj v.Label):=by
 have hs:bA (MM p) (yj (MM p)):=by simp [bA,yj]
 have hT:∀ s pl,asks p (List.replicate p.Vars.length (yj (MM p))) (List.replicate p.Funcs.length (yj (MM p))) s pl:=fun s pl fs _ f _=>by
  unfold z8
  split
  ·intro t ht;rw [Jb ht];exact le_top _ _
  ·intro v t _ _ ht;rw [Jb ht];exact le_top _ _
 obtain ⟨m,m1,m2,m3,_,_,m6⟩:=RG h ho (W:=List.replicate p.Vars.length (yj (MM p))) (E:=List.replicate p.Funcs.length (yj (MM p))) ⟨by simp,by simp,fun l hl=>by rw [(Cz.1 hl).2];exact hs,fun l hl=>by rw [(Cz.1 hl).2];exact hs⟩
  (fun i v b _ _ hb=>by rw [Jb hb];exact le_top _ _) ⟨Mu hT _ _ _,yi hT _ _⟩
 exact ⟨m,m1,m2,m3,m6⟩
end Go.Proofs.YtkkkkondjclcnaaGreat.A
