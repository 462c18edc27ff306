/- Levels in order; how much they hold; flows of commands that are right. -/
import Derived.Test.YtkkkkondjclcnaaGreatOkS
import Derived.Test.YtkkkkondjclcnaaGreatRawF
set_option linter.unusedSectionVars false
set_option linter.unusedVariables false
set_option linter.unusedSimpArgs false
set_option linter.constructorNameAsVariable false
namespace Go.Proofs.YtkkkkondjclcnaaGreat.A
open Go
abbrev iY(n:Nat)(l m:Level):Prop:=ly n l m=true
theorem le_iff{n:Nat}{l m:Level} : iY n l m↔∀ k,k<n→(on m.Readers k=true→on l.Readers k=true)∧(on l.Writers k=true→on m.Writers k=true):=by
 unfold iY ly sO
 simp only [Bool.and_eq_true,List.all_eq_true,List.mem_range,Bool.or_eq_true,Bool.not_eq_true']
 constructor
 ·rintro ⟨h1,h2⟩ k hk
  exact ⟨fun h=>(h1 k hk).resolve_left (by simp [h]),fun h=>(h2 k hk).resolve_left (by simp [h])⟩
 ·intro h
  refine ⟨fun k hk=>?_,fun k hk=>?_⟩
  ·have:=(h k hk).1
   cases hq:on m.Readers k with
   | true=>exact .inr (this hq)
   | false=>exact .inl rfl
  ·have:=(h k hk).2
   cases hq:on l.Writers k with
   | true=>exact .inr (this hq)
   | false=>exact .inl rfl
theorem Nf{n:Nat}(f:Nat→Bool){k:Nat}(hk:k<n):on ((List.range n).map f) k=f k:=by
 unfold on
 rw [List.getD_eq_getElem?_getD,List.getElem?_map,List.getElem?_range hk]
 rfl
theorem Av{n:Nat}{x y:List Bool}{k:Nat}(hk:k<n):on (vN n x y) k=(on x k&&on y k):=Nf _ hk
theorem DH{n:Nat}{x y:List Bool}{k:Nat}(hk:k<n):on (Am n x y) k=(on x k||on y k):=Nf _ hk
theorem le_refl(n:Nat)(l:Level):iY n l l:=le_iff.2 fun _ _=>⟨id,id⟩
theorem le_trans{n:Nat}{a b c:Level}(h:iY n a b)(h':iY n b c):iY n a c:=
 le_iff.2 fun k hk=>⟨fun hc=>(le_iff.1 h k hk).1 ((le_iff.1 h' k hk).1 hc),fun ha=>(le_iff.1 h' k hk).2 ((le_iff.1 h k hk).2 ha)⟩
theorem Kd(n:Nat)(a b:Level):iY n a (cg n a b):=
 le_iff.2 fun k hk=>⟨fun h=>by rw [cg,Av hk,Bool.and_eq_true] at h;exact h.1,fun h=>by rw [cg,DH hk,h];rfl⟩
theorem PC(n:Nat)(a b:Level):iY n b (cg n a b):=
 le_iff.2 fun k hk=>⟨fun h=>by rw [cg,Av hk,Bool.and_eq_true] at h;exact h.2,fun h=>by rw [cg,DH hk,h,Bool.or_true]⟩
theorem join_le{n:Nat}{a b c:Level}(h:iY n a c)(h':iY n b c):iY n (cg n a b) c:=
 le_iff.2 fun k hk=>⟨fun hc=>by rw [cg,Av hk,(le_iff.1 h k hk).1 hc,(le_iff.1 h' k hk).1 hc];rfl,fun hj=>by
  rw [cg,DH hk,Bool.or_eq_true] at hj
  exact hj.elim (le_iff.1 h k hk).2 (le_iff.1 h' k hk).2⟩
theorem join_mono{n:Nat}{a b c d:Level}(h:iY n a c)(h':iY n b d):iY n (cg n a b) (cg n c d):=join_le (le_trans h (Kd n c d)) (le_trans h' (PC n c d))
theorem bot_le(n:Nat)(l:Level):iY n (dZ n) l:=
 le_iff.2 fun k hk=>⟨fun _=>by simp [dZ,on,List.getElem?_replicate,hk],fun h=>by simp [dZ,on,List.getElem?_replicate,hk] at h⟩
def bit(l:Level)(k:Nat):Nat:=(if on l.Readers k=true then 0 else 1)+(if on l.Writers k=true then 1 else 0)
def wt:Nat→Level→Nat
 | 0,_=>0
 | n+1,l=>wt n l+bit l n
theorem Vm{l m:Level}{k:Nat}(h:(on m.Readers k=true→on l.Readers k=true)∧(on l.Writers k=true→on m.Writers k=true)):bit l k≤bit m k:=by
 unfold bit
 cases h1:on l.Readers k<;>cases h2:on m.Readers k<;>cases h3:on l.Writers k<;>cases h4:on m.Writers k<;>simp_all
theorem Vn(n:Nat)(l:Level):wt n l≤2*n:=by
 induction n with
 | zero=>simp [wt]
 | succ n ih=>
  have:bit l n≤2:=by unfold bit;split<;>split<;>omega
  rw [wt];omega
theorem Ke{l m:Level} : ∀ {n:Nat},(∀ k,k<n→bit l k≤bit m k)→wt n l≤wt n m
 | 0,_=>Nat.le_refl _
 | n+1,h=>by
  have:=Ke (n:=n) fun k hk=>h k (by omega)
  have:=h n (by omega)
  rw [wt,wt];omega
theorem QS{l m:Level} : ∀ {n:Nat}{j:Nat},(∀ k,k<n→bit l k≤bit m k)→j<n→bit l j<bit m j→wt n l<wt n m
 | n+1,j,h,hj,hb=>by
  have h1:=Ke (n:=n) fun k hk=>h k (by omega)
  have h2:=h n (by omega)
  rw [wt,wt]
  by_cases he:j=n
  ·subst he;omega
  ·have:=QS (n:=n) (fun k hk=>h k (by omega)) (show j<n by omega) hb
   omega
theorem Kf{n:Nat}{t f:Level}(h:ly n f t=false):wt n t<wt n (cg n t f):=by
 have hle:=le_iff.1 (Kd n t f)
 have:¬iY n f t:=by unfold iY;rw [h];simp
 rw [le_iff] at this
 simp only [Classical.not_forall] at this
 obtain ⟨k,hk,hn⟩:=this
 refine QS (fun k hk=>Vm (hle k hk)) hk ?_
 have ha:=Av (x:=t.Readers) (y:=f.Readers) hk
 have ho:=DH (x:=t.Writers) (y:=f.Writers) hk
 unfold bit cg
 rw [ha,ho]
 revert hn
 cases on t.Readers k<;>cases on f.Readers k<;>cases on t.Writers k<;>cases on f.Writers k<;>simp
def DI(n:Nat)(V:List Level):Nat:=(V.map (wt n)).sum
theorem HQ(n:Nat):∀ V:List Level,DI n V≤2*n*V.length
 | []=>by simp [DI]
 | l::V=>by
  have:=HQ n V
  have:=Vn n l
  unfold DI at *
  rw [List.map_cons,List.sum_cons,List.length_cons,Nat.mul_add]
  omega
theorem EH(n:Nat)(u:Level):∀ {V:List Level}{j:Nat}{t:Level},V[j]? =some t→DI n (V.set j u)+wt n t=DI n V+wt n u
 | [],j,t,h=>by simp at h
 | l::V,0,t,h=>by
  obtain rfl:l=t:=by simpa using h
  simp only [DI,List.set_cons_zero,List.map_cons,List.sum_cons];omega
 | l::V,j+1,t,h=>by
  have:=EH n u (V:=V) (j:=j) (t:=t) (by simpa using h)
  simp only [DI,List.set_cons_succ,List.map_cons,List.sum_cons] at this ⊢;omega
def zA(n:Nat)(V W:List Level):Prop:=V.length=W.length∧∀ (i:Nat)(a b:Level),V[i]? =some a→W[i]? =some b→iY n a b
theorem HR(n:Nat)(V:List Level):zA n V V:=⟨rfl,fun i a b h h'=>by rw [h] at h';cases h';exact le_refl n a⟩
theorem Kg{n:Nat}{V W:List Level}{j:Nat}{u:Level}(h:zA n V W)(hu:∀ b,W[j]? =some b→iY n u b):zA n (V.set j u) W:=⟨by rw [List.length_set];exact h.1,fun i a b ha hb=>by
 rw [List.getElem?_set] at ha
 split at ha
 ·rename_i he
  subst he
  split at ha
  ·cases ha;exact hu b hb
  ·cases ha
 ·exact h.2 i a b ha hb⟩
def HS(n:Nat)(V:List Level):List Int→Level→Level
 | [],v=>v
 | k::ns,v=>HS n V ns (cg n v (V.getD k.toNat (dZ n)))
def gX(n:Nat)(V:List Level)(e:ak):Level:=HS n V (lW e) (dZ n)
theorem Ng{n:Nat}{V W:List Level}(h:zA n V W)(k:Nat):iY n (V.getD k (dZ n)) (W.getD k (dZ n)):=by
 rw [List.getD_eq_getElem?_getD,List.getD_eq_getElem?_getD]
 by_cases hk:k<V.length
 ·have hk2:k<W.length:=by rw [←h.1];exact hk
  rw [List.getElem?_eq_getElem hk,List.getElem?_eq_getElem hk2]
  exact h.2 k _ _ (List.getElem?_eq_getElem hk) (List.getElem?_eq_getElem hk2)
 ·rw [List.getElem?_eq_none (by omega)]
  exact bot_le n _
theorem HT{n:Nat}{V W:List Level}(h:zA n V W):∀ (ns:List Int)(v w:Level),iY n v w→iY n (HS n V ns v) (HS n W ns w)
 | [],v,w,hv=>hv
 | k::ns,v,w,hv=>HT h ns _ _ (join_mono hv (Ng h k.toNat))
theorem sR{n:Nat}{V W:List Level}(h:zA n V W)(e:ak):iY n (gX n V e) (gX n W e):=HT h _ _ _ (le_refl n _)
variable [Lp]
theorem go_eq{p:Program}(h:pV p){vars:List Level}(hs:∀ l∈vars,bz (MM p) l):∀ (ns:List Int)(v:Level),bz (MM p) v→(∀ n∈ns,0≤n∧n.toNat<vars.length)→xY vars ns v=some (HS (MM p) vars ns v)∧bz (MM p) (HS (MM p) vars ns v)
 | [],v,hv,_=>⟨rfl,hv⟩
 | n::ns,v,hv,hn=>by
  obtain ⟨h0,h1⟩:=hn n (by simp)
  have hd:vars.getD n.toNat (dZ (MM p))=vars[n.toNat]:=by rw [List.getD_eq_getElem?_getD,List.getElem?_eq_getElem h1];rfl
  rw [xY,eb h0,Option.bind_some,List.getElem?_eq_getElem h1,Option.bind_some,tP h.small hv (hs _ (List.getElem_mem h1)),Option.bind_some,HS,hd]
  exact go_eq h hs ns _ (dC _ _ _) fun m hm=>hn m (by simp [hm])
structure gY(p:Program)(V F:List Level):Prop where
 vl:V.length=p.Vars.length
 fl:F.length=p.Funcs.length
 vs:∀ l∈V,bz (MM p) l
 fs:∀ l∈F,bz (MM p) l
theorem Cm{p:Program}(h:pV p){V F:List Level}(hV:gY p V F){e:ak}(he:cq p e=0):e7 p V e=some (gX (MM p) V e)∧bz (MM p) (gX (MM p) V e):=by
 have:=go_eq h hV.vs (lW e) _ (mI (MM p)) fun n hn=>by rw [hV.vl];exact HM he n hn
 refine ⟨?_,this.2⟩
 unfold e7
 rw [tQ h,Option.bind_some]
 exact this.1
theorem of_eq{p:Program}(h:pV p){V F:List Level}(hV:gY p V F){e:ak}(he:cq p e=0){pl:Level}(hpl:bz (MM p) pl):lQ p V pl e=some (cg (MM p) pl (gX (MM p) V e)):=by
 obtain ⟨h1,h2⟩:=Cm h hV he
 unfold lQ
 rw [h1,Option.bind_some,tP h.small hpl h2]
def LeF(n:Nat)(f g:cb):Prop:=iY n f.Level g.Level∧f.To=g.To∧f.Func=g.Func
def sa(p:Program)(f:cb):Prop:=bz (MM p) f.Level∧0≤f.To∧(if f.Func=true then f.To.toNat<p.Funcs.length else f.To.toNat<p.Vars.length)
inductive F2(n:Nat):List cb→List cb→Prop where
 | nil:F2 n [] []
 | cons {f g:cb} {r q:List cb} (h:LeF n f g) (t:F2 n r q):F2 n (f::r) (g::q)
theorem F2.append{n:Nat}{a b c d:List cb}(h:F2 n a b)(h':F2 n c d):F2 n (a++c) (b++d):=by
 induction h with
 | nil=>exact h'
 | cons h _ ih=>exact .cons h ih
theorem Kh{p:Program}(h:pV p){V F W E:List Level}(hV:gY p V F)(hW:gY p W E)(hle:zA (MM p) V W){pl ql:Level}(hpl:bz (MM p) pl)(hql:bz (MM p) ql)(hpq:iY (MM p) pl ql){ps:List Int}(hps:∀ n∈ps,0≤n∧n<p.Vars.length) :
  ∀ (es:List ak)(i:Nat)(o o':List cb),(∀ e∈es,cq p e=0)→i+es.length≤ps.length→(∀ f∈o,sa p f)→F2 (MM p) o o'→
   ∃ r r',my p V pl ps es i o=some r∧my p W ql ps es i o'=some r'∧F2 (MM p) r r'∧(∀ f∈r,sa p f)∧r.length=o.length+es.length
 | [],i,o,o',_,_,ho,h2=>⟨o,o',rfl,rfl,h2,ho,rfl⟩
 | e::es,i,o,o',he,hi,ho,h2=>by
  have hi2:i<ps.length:=by simp only [List.length_cons] at hi;omega
  have hn:=hps _ (List.getElem_mem hi2)
  have hs:=dC (MM p) pl (gX (MM p) V e)
  rw [my,of_eq h hV (he e (by simp)) hpl,Option.bind_some,List.getElem?_eq_getElem hi2,Option.bind_some,my,of_eq h hW (he e (by simp)) hql,Option.bind_some,List.getElem?_eq_getElem hi2,Option.bind_some]
  obtain ⟨r,r',a1,a2,a3,a4,a5⟩:=Kh h hV hW hle hpl hql hpq hps es (i+1) (o++[⟨cg (MM p) pl (gX (MM p) V e),ps[i],false⟩]) (o'++[⟨cg (MM p) ql (gX (MM p) W e),ps[i],false⟩]) (fun x hx=>he x (by simp [hx])) (by simp only [List.length_cons] at hi;omega)
   (fun f hf=>by
    rcases List.mem_append.1 hf with hf | hf
    ·exact ho f hf
    ·obtain rfl:=List.mem_singleton.1 hf
     exact ⟨hs,hn.1,by simp;omega⟩) (h2.append (.cons ⟨join_mono hpq (sR hle e),rfl,rfl⟩ .nil))
  exact ⟨r,r',a1,a2,a3,a4,by rw [a5];simp;omega⟩
theorem yS{p:Program}(h:pV p)(ho:zy p){i:Nat}(hi:i≤p.Funcs.length){V F W E:List Level}(hV:gY p V F)(hW:gY p W E)(hle:zA (MM p) V W){pl ql:Level}(hpl:bz (MM p) pl)(hql:bz (MM p) ql)(hpq:iY (MM p) pl ql){s:Stmt}(hs:bg p i s=0) :
  s.Args.length≤4∧∃ r r',fw p V s pl=some r∧fw p W s ql=some r'∧F2 (MM p) r r'∧(∀ f∈r,sa p f)∧r.length≤10:=by
 obtain ⟨g1,g2,g3,g4,g5,g6⟩:=vd hs
 have one:∀ {x y:Level},bz (MM p) x→iY (MM p) x y→gu s.Kind=true→F2 (MM p) [⟨x,s.Var,false⟩] [⟨y,s.Var,false⟩]∧(∀ f∈([⟨x,s.Var,false⟩]:List cb),sa p f)∧([⟨x,s.Var,false⟩]:List cb).length≤10:=fun hx hxy hv=>by
  have:=g2 hv
  exact ⟨.cons ⟨hxy,rfl,rfl⟩ .nil,fun f hf=>by obtain rfl:=List.mem_singleton.1 hf;exact ⟨hx,this.1,by simp;omega⟩,by simp⟩
 have noA:s.Kind≠2→s.Args.length≤4:=fun hk=>by
  unfold bg at hs
  split at hs
  ·exact absurd hs (by decide)
  split at hs
  ·exact absurd hs (by decide)
  split at hs
  ·exact absurd hs (by decide)
  ·rename_i h3
   have:¬(s.Kind≠2∧0<s.Args.length):=fun hh=>h3 (.inr (.inr (.inr (.inl hh))))
   have:s.Args.length=0:=by
    rcases Nat.eq_zero_or_pos s.Args.length with h | h
    ·exact h
    ·exact absurd ⟨hk,h⟩ this
   omega
 unfold fw
 by_cases h1:s.Kind=1
 ·rw [if_pos h1,if_pos h1]
  have he:=g5 (by simp [fF,h1])
  rw [of_eq h hV he hpl,of_eq h hW he hql]
  obtain ⟨a1,a2,a3⟩:=one (dC (MM p) pl (gX (MM p) V s.Expr)) (join_mono hpq (sR hle s.Expr)) (by simp [gu,h1])
  exact ⟨noA (by omega),_,_,rfl,rfl,a1,a2,a3⟩
 rw [if_neg h1,if_neg h1]
 by_cases h2:s.Kind=2
 ·rw [if_pos h2,if_pos h2]
  obtain ⟨o1,o2⟩:=g3 (by simp [gv,h2])
  have o3:s.Other<i:=by simpa [fY,h2] using o2
  have o4:s.Other.toNat<p.Funcs.length:=by omega
  have hfn:=ho.fns _ o4
  obtain ⟨f1,f2,_,f4⟩:=Bd hfn
  have hal:s.Args.length=(p.Funcs[s.Other.toNat]).Params.length:=by
   rw [g4 h2,tN,List.getElem?_eq_getElem o4];rfl
  rw [eb o1,Option.bind_some,Option.bind_some,List.getElem?_eq_getElem o4,Option.bind_some,Option.bind_some]
  obtain ⟨r,r',a1,a2,a3,a4,a5⟩:=Kh h hV hW hle hpl hql hpq f2 s.Args 0 [] [] g6 (by omega) (fun _ h=>absurd h (by simp)) .nil
  rw [a1,a2,Option.bind_some,Option.bind_some,of_eq h hV f4 hpl,of_eq h hW f4 hql,Option.bind_some,Option.bind_some]
  have hv:=g2 (by simp [gu,h2])
  refine ⟨by omega,_,_,rfl,rfl,a3.append (.cons ⟨join_mono hpq (sR hle _),rfl,rfl⟩ (.cons ⟨hpq,rfl,rfl⟩ .nil)),fun f hf=>?_,?_⟩
  ·rcases List.mem_append.1 hf with hf | hf
   ·exact a4 f hf
   ·rcases List.mem_cons.1 hf with rfl | hf
    ·exact ⟨dC _ _ _,hv.1,by simp;omega⟩
    ·obtain rfl:=List.mem_singleton.1 hf
     exact ⟨hpl,o1,by simp;omega⟩
  ·rw [List.length_append,a5];simp;omega
 rw [if_neg h2,if_neg h2]
 by_cases h3:s.Kind=3
 ·rw [if_pos h3,if_pos h3]
  obtain ⟨o1,o2⟩:=g3 (by simp [gv,h3])
  have o3:s.Other<p.Ins.length:=by simpa [fY,h3] using o2
  have o4:s.Other.toNat<p.Ins.length:=by omega
  have hlab:=h.ins _ (List.getElem_mem o4)
  have hsz:=tq p.aa (p.Ins[s.Other.toNat])
  rw [eb o1,Option.bind_some,Option.bind_some,List.getElem?_eq_getElem o4,Option.bind_some,Option.bind_some,Lw p.aa h.eG _ hlab,Option.bind_some,Option.bind_some,tP h.small hpl hsz,tP h.small hql hsz,Option.bind_some,Option.bind_some]
  obtain ⟨a1,a2,a3⟩:=one (dC (MM p) pl (fZ p.aa (p.Ins[s.Other.toNat]))) (join_mono hpq (le_refl (MM p) (fZ p.aa (p.Ins[s.Other.toNat])))) (by simp [gu,h3])
  exact ⟨noA (by omega),_,_,rfl,rfl,a1,a2,a3⟩
 rw [if_neg h3,if_neg h3]
 by_cases h5:s.Kind=5
 ·rw [if_pos h5,if_pos h5]
  have he:=g5 (by simp [fF,h5])
  rw [of_eq h hV he hpl,of_eq h hW he hql]
  have hj:=dC (MM p) pl (gX (MM p) V s.Expr)
  have hm:=le_iff.1 (join_mono hpq (sR hle s.Expr))
  obtain ⟨a1,a2,a3⟩:=one (x:=⟨pl.Readers,(cg (MM p) pl (gX (MM p) V s.Expr)).Writers⟩) (y:=⟨ql.Readers,(cg (MM p) ql (gX (MM p) W s.Expr)).Writers⟩) ⟨hpl.1,hj.2⟩ (le_iff.2 fun k hk=>⟨(le_iff.1 hpq k hk).1,(hm k hk).2⟩) (by simp [gu,h5])
  exact ⟨noA (by omega),_,_,rfl,rfl,a1,a2,a3⟩
 rw [if_neg h5,if_neg h5]
 by_cases h6:s.Kind=6
 ·rw [if_pos h6,if_pos h6]
  have he:=g5 (by simp [fF,h6])
  rw [of_eq h hV he hpl,of_eq h hW he hql]
  have hj:=dC (MM p) pl (gX (MM p) V s.Expr)
  have hm:=le_iff.1 (join_mono hpq (sR hle s.Expr))
  obtain ⟨a1,a2,a3⟩:=one (x:=⟨(cg (MM p) pl (gX (MM p) V s.Expr)).Readers,pl.Writers⟩) (y:=⟨(cg (MM p) ql (gX (MM p) W s.Expr)).Readers,ql.Writers⟩) ⟨hj.1,hpl.2⟩ (le_iff.2 fun k hk=>⟨(hm k hk).1,(le_iff.1 hpq k hk).2⟩) (by simp [gu,h6])
  exact ⟨noA (by omega),_,_,rfl,rfl,a1,a2,a3⟩
 rw [if_neg h6,if_neg h6]
 exact ⟨noA (by omega),_,_,rfl,rfl,.nil,fun _ h=>(by cases h),by simp⟩
def rr(p:Program)(n:Nat)(V F:List Level)(f:cb):Prop:=
 if f.Func=true then ∀ t,F[f.To.toNat]? =some t→iY n f.Level t
 else ∀ v t,p.Vars[f.To.toNat]? =some v→v.Known=false→V[f.To.toNat]? =some t→iY n f.Level t
section
variable (n:Nat)(V:List Level)(T:Stmt→Level→Prop)
mutual
def yT:Stmt→Level→Prop
 | ⟨k,v,o,e,args,th,el⟩,pl=>T ⟨k,v,o,e,args,th,el⟩ pl∧(7≤k→nE th (cg n pl (gX n V e))∧nE el (cg n pl (gX n V e)))
def nE:List Stmt→Level→Prop
 | [],_=>True
 | x::r,pl=>yT x pl∧nE r pl
end
theorem EI(s:Stmt)(pl:Level):yT n V T s pl↔T s pl∧(7≤s.Kind→nE n V T s.Then (cg n pl (gX n V s.Expr))∧nE n V T s.Else (cg n pl (gX n V s.Expr))):=by
 cases s;rw [yT]
def Cn(F:List Level):List Func→Nat→Prop
 | [],_=>True
 | f::r,i=>(∀ q,F[i]? =some q→nE n V T f.Body q)∧Cn F r (i+1)
def vP(p:Program)(F:List Level):Prop:=Cn n V T F p.Funcs 0∧nE n V T p.Main (dZ n)
end
variable [Lp]
def asks(p:Program)(V F:List Level)(st:Stmt)(pl:Level):Prop:=∀ fs,fw p V st pl=some fs→∀ f∈fs,rr p (MM p) V F f
structure sr(p:Program)(W E:List Level)(s:cy):Prop where
 ok:gY p s.V s.F
 v:zA (MM p) s.V W
 f:zA (MM p) s.F E
def mu(p:Program)(s:cy):Nat:=DI (MM p) s.V+DI (MM p) s.F
structure Grow(p:Program)(s t:cy):Prop where
 mu:mu p s≤mu p t
 ch:t.ch=true→s.ch=true∨A.mu p s<A.mu p t
 up:s.ch=true→t.ch=true
 kn:∀ (i:Nat)(v:Var),p.Vars[i]? =some v→v.Known=true→t.V[i]? =s.V[i]?
theorem Grow.refl(p:Program)(s:cy):Grow p s s:=⟨Nat.le_refl _,fun h=>.inl h,fun h=>h,fun _ _ _ _=>rfl⟩
theorem Grow.trans{p:Program}{s t u:cy}(h:Grow p s t)(h':Grow p t u):Grow p s u:=
 ⟨Nat.le_trans h.mu h'.mu,fun hu=>(h'.ch hu).elim (fun ht=>(h.ch ht).imp id fun hlt=>Nat.lt_of_lt_of_le hlt h'.mu) fun hlt=>.inr (Nat.lt_of_le_of_lt h.mu hlt),fun hs=>h'.up (h.up hs),fun i v hv hk=>(h'.kn i v hv hk).trans (h.kn i v hv hk)⟩
theorem HU{n:Nat}{V:List Level}{i:Nat}{t:Level}(h:∀ l∈V,bz n l)(ht:V[i]? =some t):bz n t:=h t (List.mem_of_getElem? ht)
theorem HV{V:List Level}{j:Nat}{u l:Level}(h:l∈V.set j u):l∈V∨l=u:=(List.mem_or_eq_of_mem_set h)
theorem RA{p:Program}(h:pV p){W E:List Level}{s:cy}(hb:sr p W E s){f g:cb}(hf:sa p f)(hfg:LeF (MM p) f g)(hg:rr p (MM p) W E g) :
  ∃ t,yQ p s f=some t∧sr p W E t∧Grow p s t∧(t.ch=false→t=s∧rr p (MM p) s.V s.F f):=by
 obtain ⟨h1,h2,h3⟩:=hf
 obtain ⟨l1,l2,l3⟩:=hfg
 unfold yQ
 rw [eb h2,Option.bind_some]
 unfold rr at hg
 cases hfn:f.Func with
 | true=>
  rw [if_pos rfl]
  rw [hfn,if_pos rfl] at h3
  rw [←l3,hfn,if_pos rfl,←l2] at hg
  have hi:f.To.toNat<s.F.length:=by rw [hb.ok.fl];exact h3
  have ht:=List.getElem?_eq_getElem hi
  generalize s.F[f.To.toNat]=t at ht
  have hts:=HU hb.ok.fs ht
  rw [ht,Option.bind_some,sQ h.small h1 hts,Option.bind_some]
  cases hu:ly (MM p) f.Level t with
  | true=>
   rw [if_pos rfl]
   exact ⟨s,rfl,hb,.refl p s,fun _=>⟨rfl,by unfold rr;rw [hfn,if_pos rfl];intro t' ht';rw [ht] at ht';cases ht';exact hu⟩⟩
  | false=>
   rw [if_neg (by simp),tP h.small hts h1,Option.bind_some]
   have hw:=EH (MM p) (cg (MM p) t f.Level) ht
   have hj:=Kf hu
   refine ⟨_,rfl,⟨⟨hb.ok.vl,by simp [hb.ok.fl],hb.ok.vs,fun l hl=>(HV hl).elim (hb.ok.fs l) fun e=>by rw [e];exact dC _ _ _⟩,hb.v,Kg hb.f fun b hbb=>join_le (hb.f.2 _ _ _ ht hbb) (le_trans l1 (hg b hbb))⟩,⟨by simp only [mu];omega,fun _=>.inr (by simp only [mu];omega),fun _=>rfl,fun _ _ _ _=>rfl⟩,fun hc=>by cases hc⟩
 | false=>
  rw [if_neg (by simp)]
  rw [hfn,if_neg (by simp)] at h3
  rw [←l3,hfn,if_neg (by simp),←l2] at hg
  have hv:=List.getElem?_eq_getElem h3
  generalize p.Vars[f.To.toNat]=v at hv
  rw [hv,Option.bind_some]
  cases hk:v.Known with
  | true=>
   rw [if_pos rfl]
   exact ⟨s,rfl,hb,.refl p s,fun _=>⟨rfl,by unfold rr;rw [hfn,if_neg (by simp)];intro v' t' hv' hk';rw [hv] at hv';cases hv';rw [hk] at hk';cases hk'⟩⟩
  | false=>
   rw [if_neg (by simp)]
   have hi:f.To.toNat<s.V.length:=by rw [hb.ok.vl];exact h3
   have ht:=List.getElem?_eq_getElem hi
   generalize s.V[f.To.toNat]=t at ht
   have hts:=HU hb.ok.vs ht
   rw [ht,Option.bind_some,sQ h.small h1 hts,Option.bind_some]
   cases hu:ly (MM p) f.Level t with
   | true=>
    rw [if_pos rfl]
    exact ⟨s,rfl,hb,.refl p s,fun _=>⟨rfl,by unfold rr;rw [hfn,if_neg (by simp)];intro v' t' _ _ ht';rw [ht] at ht';cases ht';exact hu⟩⟩
   | false=>
    rw [if_neg (by simp),tP h.small hts h1,Option.bind_some]
    have hw:=EH (MM p) (cg (MM p) t f.Level) ht
    have hj:=Kf hu
    refine ⟨_,rfl,⟨⟨by simp [hb.ok.vl],hb.ok.fl,fun l hl=>(HV hl).elim (hb.ok.vs l) fun e=>by rw [e];exact dC _ _ _,hb.ok.fs⟩,Kg hb.v fun b hbb=>join_le (hb.v.2 _ _ _ ht hbb) (le_trans l1 (hg v b hv hk hbb)),hb.f⟩,⟨by simp only [mu];omega,fun _=>.inr (by simp only [mu];omega),fun _=>rfl,fun i v' hv' hk'=>?_⟩,fun hc=>by cases hc⟩
    show (s.V.set _ _)[i]? =s.V[i]?
    rw [List.getElem?_set_ne]
    intro e
    rw [e,hv'] at hv
    cases hv
    rw [hk'] at hk;cases hk
theorem HW{p:Program}(h:pV p){W E:List Level} : ∀ {fs gs:List cb}{s:cy},F2 (MM p) fs gs→sr p W E s→(∀ f∈fs,sa p f)→(∀ g∈gs,rr p (MM p) W E g)→
  ∃ t,yd p fs s=some t∧sr p W E t∧Grow p s t∧(t.ch=false→t=s∧∀ f∈fs,rr p (MM p) s.V s.F f)
 | _,_,s,.nil,hb,_,_=>⟨s,rfl,hb,.refl p s,fun _=>⟨rfl,fun _ h=>absurd h (by simp)⟩⟩
 | _,_,s,.cons (f:=f) (g:=g) (r:=r) (q:=q) hfg ht,hb,hf,hg=>by
  obtain ⟨t,t1,t2,t3,t4⟩:=RA h hb (hf f (by simp)) hfg (hg g (by simp))
  obtain ⟨u,u1,u2,u3,u4⟩:=HW h ht t2 (fun x hx=>hf x (by simp [hx])) fun x hx=>hg x (by simp [hx])
  refine ⟨u,by rw [yd,t1,Option.bind_some,u1],u2,t3.trans u3,fun hc=>?_⟩
  obtain ⟨rfl,b⟩:=u4 hc
  obtain ⟨rfl,c⟩:=t4 hc
  refine ⟨rfl,fun x hx=>?_⟩
  rcases List.mem_cons.1 hx with rfl | hx
  ·exact c
  ·exact b x hx
section
variable {p:Program}(h:pV p)(ho:zy p){W E:List Level}(hW:gY p W E){i:Nat}(hi:i≤p.Funcs.length)
include h ho hW hi
theorem PD{st:Stmt}{a:Nat}{pl ql:Level}{s:cy}(hs:bg p i st=0)(hb:sr p W E s)(hpl:bz (MM p) pl)(hql:bz (MM p) ql)(hpq:iY (MM p) pl ql)(hT:asks p W E st ql) :
  ∃ t,q8 p a st pl s=some t∧sr p W E t∧Grow p s t∧(t.ch=false→t=s∧asks p s.V s.F st pl):=by
 obtain ⟨_,r,r',a1,a2,a3,a4,a5⟩:=yS h ho hi hb.ok hW hb.v hpl hql hpq hs
 obtain ⟨t,t1,t2,t3,t4⟩:=HW h a3 hb a4 (hT r' a2)
 refine ⟨t,by unfold q8;rw [a1,Option.bind_some,if_pos (by omega),t1],t2,t3,fun hc=>⟨(t4 hc).1,fun fs hfs=>?_⟩⟩
 rw [a1] at hfs;cases hfs
 exact (t4 hc).2
mutual
theorem RB:∀ (st:Stmt)(a:Nat)(pl ql:Level)(s:cy),xr (bg p i) st=0→rZ st≤50→a+rZ st≤1000→sr p W E s→bz (MM p) pl→bz (MM p) ql→iY (MM p) pl ql→yT (MM p) W (asks p W E) st ql→
  ∃ t,Be p cy.V (q8 p) st a pl s=some (a+rZ st,t)∧sr p W E t∧Grow p s t∧(t.ch=false→t=s∧yT (MM p) s.V (asks p s.V s.F) st pl)
 | ⟨k,v,o,e,args,th,el⟩,a,pl,ql,s,he,hc,ha,hb,hpl,hql,hpq,hT=>by
  obtain ⟨e1,e2,e3⟩:=yM he
  obtain ⟨T1,T2⟩:=(EI _ _ _ _ _).1 hT
  have hlen:=(yS h ho hi hb.ok hW hb.v hpl hql hpq e1).1
  have hcnt:=xW ⟨k,v,o,e,args,th,el⟩
  have l1:=kq th
  have l2:=kq el
  simp only at hlen hcnt e2 e3
  obtain ⟨t,t1,t2,t3,t4⟩:=PD h ho hW hi (a:=a) e1 hb hpl hql hpq T1
  rw [Cl,if_pos ⟨by omega,by simp only;omega,by simp only;omega,by simp only;omega⟩,t1,Option.bind_some]
  by_cases h7:7≤k
  ·rw [if_pos h7]
   obtain ⟨T3,T4⟩:=T2 h7
   have hex:=(vd e1).2.2.2.2.1 (by simp only [fF];exact decide_eq_true ⟨by omega,by omega⟩)
   simp only at hex
   have hq:=of_eq h t2.ok hex hpl
   have hsz:=dC (MM p) pl (gX (MM p) t.V e)
   have hsz2:=dC (MM p) ql (gX (MM p) W e)
   have hle:=join_mono hpq (sR t2.v e)
   simp only
   rw [hq,Option.bind_some]
   obtain ⟨u,u1,u2,u3,u4⟩:=yg th (a+1) _ _ t e2 (by omega) (by omega) t2 hsz hsz2 hle T3
   obtain ⟨w,w1,w2,w3,w4⟩:=yg el (a+1+bK th) _ _ u e3 (by omega) (by omega) u2 hsz hsz2 hle T4
   rw [u1,Option.bind_some,w1]
   refine ⟨w,by rw [hcnt];congr 2;omega,w2,(t3.trans u3).trans w3,fun hc=>?_⟩
   obtain ⟨rfl,c1⟩:=w4 hc
   obtain ⟨rfl,c2⟩:=u4 hc
   obtain ⟨rfl,c3⟩:=t4 hc
   exact ⟨rfl,(EI _ _ _ _ _).2 ⟨c3,fun _=>⟨c2,c1⟩⟩⟩
  ·rw [if_neg h7]
   have hk0:k<7:=by omega
   have z:th.length=0∧el.length=0:=by
    unfold bg at e1
    split at e1
    ·exact absurd e1 (by decide)
    split at e1
    ·exact absurd e1 (by decide)
    split at e1
    ·exact absurd e1 (by decide)
    ·rename_i h3
     simp only at h3
     constructor
     ·rcases Nat.eq_zero_or_pos th.length with hz | hz
      ·exact hz
      ·exact absurd (.inr (.inr (.inr (.inr (.inl ⟨hk0,hz⟩))))) h3
     ·rcases Nat.eq_zero_or_pos el.length with hz | hz
      ·exact hz
      ·exact absurd (.inr (.inr (.inr (.inr (.inr ⟨by omega,hz⟩))))) h3
   have z1:th=[]:=List.length_eq_zero_iff.1 z.1
   have z2:el=[]:=List.length_eq_zero_iff.1 z.2
   subst z1 z2
   refine ⟨t,by rw [hcnt];simp [bK],t2,t3,fun hc=>?_⟩
   obtain ⟨rfl,c3⟩:=t4 hc
   exact ⟨rfl,(EI _ _ _ _ _).2 ⟨c3,fun hh=>absurd hh h7⟩⟩
theorem yg:∀ (l:List Stmt)(a:Nat)(pl ql:Level)(s:cy),cM (bg p i) l=0→bK l≤50→a+bK l≤1000→sr p W E s→bz (MM p) pl→bz (MM p) ql→iY (MM p) pl ql→nE (MM p) W (asks p W E) l ql→
  ∃ t,jE p cy.V (q8 p) l a pl s=some (a+bK l,t)∧sr p W E t∧Grow p s t∧(t.ch=false→t=s∧nE (MM p) s.V (asks p s.V s.F) l pl)
 | [],a,pl,ql,s,he,hc,ha,hb,hpl,hql,hpq,hT=>⟨s,by rw [jE,bK];rfl,hb,.refl p s,fun _=>⟨rfl,by rw [nE];trivial⟩⟩
 | x::r,a,pl,ql,s,he,hc,ha,hb,hpl,hql,hpq,hT=>by
  rw [bK] at hc ha
  rw [nE] at hT
  have he1:=vL he x (by simp)
  have he2:cM (bg p i) r=0:=by
   rw [cM,if_neg (by simp [he1])] at he;exact he
  obtain ⟨t,t1,t2,t3,t4⟩:=RB x a pl ql s he1 (by omega) (by omega) hb hpl hql hpq hT.1
  obtain ⟨u,u1,u2,u3,u4⟩:=yg r (a+rZ x) pl ql t he2 (by omega) (by omega) t2 hpl hql hpq hT.2
  refine ⟨u,by rw [jE,t1,Option.bind_some,u1,bK];congr 2;omega,u2,t3.trans u3,fun hc=>?_⟩
  obtain ⟨rfl,c1⟩:=u4 hc
  obtain ⟨rfl,c2⟩:=t4 hc
  exact ⟨rfl,by rw [nE];exact ⟨c2,c1⟩⟩
end
end
variable [Lp]
abbrev fi(l:List Func):Nat:=(l.map fun f=>bK f.Body).sum
section
variable {p:Program}(h:pV p)(ho:zy p)
include h ho
theorem EJ{rest:List Func}{f:Func}{i:Nat}(hd:p.Funcs.drop i=f::rest):p.Funcs[i]? =some f∧p.Funcs.drop (i+1)=rest∧i<p.Funcs.length∧wR p i f=0:=by
 have hg:p.Funcs[i]? =some f:=by
  have:=congrArg (fun l=>l[0]?) hd
  simpa using this
 have hd2:p.Funcs.drop (i+1)=rest:=by
  have:=congrArg List.tail hd
  simpa using this
 have hi:=(List.getElem?_eq_some_iff.1 hg).1
 have:=ho.fns i hi
 rw [(List.getElem?_eq_some_iff.1 hg).2] at this
 exact ⟨hg,hd2,hi,this⟩
theorem Ki{W E:List Level}(hW:gY p W E):∀ (rest:List Func)(i a:Nat)(s:cy),p.Funcs.drop i=rest→fi rest≤50→a+fi rest≤1000→sr p W E s→Cn (MM p) W (asks p W E) E rest i→
  ∃ t,uP p cy.V cy.F (q8 p) rest i a s=some (a+fi rest,t)∧sr p W E t∧Grow p s t∧(t.ch=false→t=s∧Cn (MM p) s.V (asks p s.V s.F) s.F rest i)
 | [],i,a,s,hd,hs,ha,hb,hT=>⟨s,rfl,hb,.refl p s,fun _=>⟨rfl,trivial⟩⟩
 | f::rest,i,a,s,hd,hs,ha,hb,hT=>by
  obtain ⟨hg,hd2,hi,hfn⟩:=EJ h ho hd
  obtain ⟨_,_,f3,_⟩:=Bd hfn
  have hsum:fi (f::rest)=bK f.Body+fi rest:=by simp [fi]
  rw [hsum] at hs ha
  have hl:=kq f.Body
  have hiF:i<s.F.length:=by rw [hb.ok.fl];exact hi
  have hiE:i<E.length:=by rw [hW.fl];exact hi
  have hq:=List.getElem?_eq_getElem hiF
  have hq2:=List.getElem?_eq_getElem hiE
  rw [uP,if_pos (by omega),hq,Option.bind_some]
  obtain ⟨t,t1,t2,t3,t4⟩:=yg h ho hW (by omega) f.Body a _ _ s f3 (by omega) (by omega) hb (hb.ok.fs _ (List.getElem_mem hiF)) (hW.fs _ (List.getElem_mem hiE)) (hb.f.2 i _ _ hq hq2) (hT.1 _ hq2)
  obtain ⟨u,u1,u2,u3,u4⟩:=Ki hW rest (i+1) (a+bK f.Body) t hd2 (by omega) (by omega) t2 hT.2
  refine ⟨u,by rw [t1,Option.bind_some,u1,hsum];congr 2;omega,u2,t3.trans u3,fun hc=>?_⟩
  obtain ⟨rfl,c1⟩:=u4 hc
  obtain ⟨rfl,c2⟩:=t4 hc
  exact ⟨rfl,fun q hq'=>by rw [hq] at hq';cases hq';exact c2,c1⟩
theorem RC{W E:List Level}(hW:gY p W E){s:cy}(hb:sr p W E s)(hT:vP (MM p) W (asks p W E) p E) :
  ∃ a t,vO p cy.V cy.F (q8 p) s=some (a,t)∧sr p W E t∧Grow p s t∧(t.ch=false→t=s∧vP (MM p) s.V (asks p s.V s.F) p s.F):=by
 have hsum:=ho.sum
 have hf:=ho.funcs
 have hm:=ho.main
 have hl:=kq p.Main
 obtain ⟨t,t1,t2,t3,t4⟩:=Ki h ho hW p.Funcs 0 0 s rfl (show fi p.Funcs≤50 by unfold fi;omega) (show 0+fi p.Funcs≤1000 by unfold fi;omega) hb hT.1
 obtain ⟨u,u1,u2,u3,u4⟩:=yg h ho hW (Nat.le_refl _) p.Main (0+fi p.Funcs) (dZ (MM p)) (dZ (MM p)) t ho.mains (by omega) (by unfold fi;omega) t2 (mI _) (mI _) (le_refl _ _) hT.2
 refine ⟨_,u,by unfold vO;rw [if_pos (by omega),t1,Option.bind_some,tQ h,Option.bind_some,u1],u2,t3.trans u3,fun hc=>?_⟩
 obtain ⟨rfl,c1⟩:=u4 hc
 obtain ⟨rfl,c2⟩:=t4 hc
 exact ⟨rfl,c2,c1⟩
def uQ(p:Program):List Level:=p.Vars.map fun v=>if v.Known=true then fZ p.aa v.Label else dZ (MM p)
def yU(p:Program):List Level:=p.Funcs.map fun _=>dZ (MM p)
theorem Co:∀ (l:List Var)(o:List Level),(∀ v∈l,v∈p.Vars)→Bi p l o=some (o++l.map fun v=>if v.Known=true then fZ p.aa v.Label else dZ (MM p))
 | [],o,_=>by simp [Bi]
 | v::r,o,hv=>by
  have hlab:=h.vars v (hv v (by simp))
  rw [Bi,tQ h,Option.bind_some]
  cases hk:v.Known with
  | true=>
   rw [if_pos rfl,Lw p.aa h.eG _ hlab,Option.bind_some,Co r _ fun w hw=>hv w (by simp [hw])]
   simp [hk]
  | false=>
   rw [if_neg (by simp),Option.bind_some,Co r _ fun w hw=>hv w (by simp [hw])]
   simp [hk]
theorem HX:∀ (l:List Func)(o:List Level),Bj p l o=some (o++l.map fun _=>dZ (MM p))
 | [],o=>by simp [Bj]
 | v::r,o=>by
  rw [Bj,tQ h,Option.bind_some,HX r]
  simp
theorem ZN:gY p (uQ p) (yU p):=by
 refine ⟨by simp [uQ],by simp [yU],fun l hl=>?_,fun l hl=>?_⟩
 ·obtain ⟨v,_,rfl⟩:=List.mem_map.1 hl
  split
  ·exact tq _ _
  ·exact mI _
 ·obtain ⟨v,_,rfl⟩:=List.mem_map.1 hl
  exact mI _
theorem Nh{W E:List Level}(hW:gY p W E)(hK:∀ (i:Nat)(v:Var)(b:Level),p.Vars[i]? =some v→v.Known=true→W[i]? =some b→iY (MM p) (fZ p.aa v.Label) b)(hT:vP (MM p) W (asks p W E) p E) :
  ∃ m,jL p=some m∧gY p m.Vars m.Funcs∧vP (MM p) m.Vars (asks p m.Vars m.Funcs) p m.Funcs∧zA (MM p) m.Vars W∧zA (MM p) m.Funcs E∧∀ (i:Nat)(v:Var),p.Vars[i]? =some v→v.Known=true→m.Vars[i]? =some (fZ p.aa v.Label):=by
 have hv16:=ho.vars
 have hf5:=ho.funcs
 have b0:sr p W E ⟨uQ p,yU p,true⟩:=by
  refine ⟨ZN h ho,⟨by rw [hW.vl];simp [uQ],fun i a b ha hb=>?_⟩,⟨by rw [hW.fl];simp [yU],fun i a b ha hb=>?_⟩⟩
  ·rw [uQ,List.getElem?_map] at ha
   obtain ⟨v,hv,rfl⟩:=Option.map_eq_some_iff.1 ha
   split
   ·rename_i hk;exact hK i v b hv hk hb
   ·exact bot_le _ _
  ·rw [yU,List.getElem?_map] at ha
   obtain ⟨v,hv,rfl⟩:=Option.map_eq_some_iff.1 ha
   exact bot_le _ _
 have k0:∀ (i:Nat)(v:Var),p.Vars[i]? =some v→v.Known=true→(uQ p)[i]? =some (fZ p.aa v.Label):=fun i v hv hk=>by
  rw [uQ,List.getElem?_map,hv];simp [hk]
 obtain ⟨s,hs,hQ⟩:=oX (B:=yR p) (fun s=>2*(2*MM p*(p.Vars.length+p.Funcs.length) - mu p s)+(if s.ch=true then 1 else 0))
  (fun s=>sr p W E s∧(∀ (i:Nat)(v:Var),p.Vars[i]? =some v→v.Known=true→s.V[i]? =some (fZ p.aa v.Label))∧(s.ch=false→vP (MM p) s.V (asks p s.V s.F) p s.F))
  (fun s=>sr p W E s∧(∀ (i:Nat)(v:Var),p.Vars[i]? =some v→v.Known=true→s.V[i]? =some (fZ p.aa v.Label))∧vP (MM p) s.V (asks p s.V s.F) p s.F) (by
   rintro s ⟨hb,hkn,hal⟩
   unfold yR
   cases hc:s.ch with
   | false=>
    rw [if_neg (by simp)]
    exact .inl ⟨s,rfl,hb,hkn,hal hc⟩
   | true=>
    rw [if_pos rfl]
    have hb2:sr p W E ⟨s.V,s.F,false⟩:=⟨hb.ok,hb.v,hb.f⟩
    obtain ⟨a,t,t1,t2,t3,t4⟩:=RC h ho hW hb2 hT
    refine .inr ⟨t,by rw [t1];rfl,⟨t2,fun i v hv hk=>(t3.kn i v hv hk).trans (hkn i v hv hk),fun hc2=>?_⟩,?_⟩
    ·obtain ⟨rfl,c⟩:=t4 hc2
     exact c
    ·have m1:mu p ⟨s.V,s.F,false⟩=mu p s:=rfl
     have m2:=t3.mu
     have m3:mu p t≤2*MM p*(p.Vars.length+p.Funcs.length):=by
      have q1:=HQ (MM p) t.V
      have q2:=HQ (MM p) t.F
      rw [t2.ok.vl] at q1
      rw [t2.ok.fl] at q2
      unfold mu
      rw [Nat.mul_add];omega
     cases hc2:t.ch with
     | false=>simp only [Bool.false_eq_true,if_false,if_true];omega
     | true=>
      have:=t3.ch hc2
      simp only [if_true]
      rcases this with h1 | h1
      ·cases h1
      ·omega) ⟨uQ p,yU p,true⟩ ⟨b0,k0,fun hc=>by cases hc⟩
 refine ⟨⟨s.V,s.F⟩,?_,hQ.1.ok,hQ.2.2,hQ.1.v,hQ.1.f,hQ.2.1⟩
 unfold jL
 have e1:=Co h ho p.Vars [] fun v hv=>hv
 have e2:=HX h ho p.Funcs []
 rw [List.nil_append] at e1 e2
 rw [if_pos (by omega),e1,Option.bind_some,e2,Option.bind_some]
 show (lp (yR p) ⟨uQ p,yU p,true⟩).bind _=_
 rw [hs];rfl
end
variable [Lp]
mutual
theorem PF{n:Nat}{V:List Level}{T:Stmt→Level→Prop}(hT:∀ s pl,T s pl):∀ (s:Stmt)(pl:Level),yT n V T s pl
 | ⟨k,v,o,e,args,th,el⟩,pl=>by rw [yT];exact ⟨hT _ _,fun _=>⟨vR hT th _,vR hT el _⟩⟩
theorem vR{n:Nat}{V:List Level}{T:Stmt→Level→Prop}(hT:∀ s pl,T s pl):∀ (l:List Stmt)(pl:Level),nE n V T l pl
 | [],pl=>by rw [nE];trivial
 | x::r,pl=>by rw [nE];exact ⟨PF hT x pl,vR hT r pl⟩
end
theorem H8{n:Nat}{V:List Level}{T:Stmt→Level→Prop}(hT:∀ s pl,T s pl)(F:List Level):∀ (l:List Func)(i:Nat),Cn n V T F l i
 | [],_=>trivial
 | f::r,i=>⟨fun q _=>vR hT f.Body q,H8 hT F r (i+1)⟩
def vS(n:Nat):Level:=⟨List.replicate n false,List.replicate n true⟩
theorem le_top(n:Nat)(l:Level):iY n l (vS n):=
 le_iff.2 fun k hk=>⟨fun h=>by simp [vS,on,List.getElem?_replicate,hk] at h,fun _=>by simp [vS,on,List.getElem?_replicate,hk]⟩
theorem EK{n k i:Nat}{t:Level}(h:(List.replicate k (vS n))[i]? =some t):t=vS n:=by
 rw [List.getElem?_replicate] at h
 split at h
 ·exact (Option.some.inj h).symm
 ·cases h
theorem RG{p:Program}(h:pV p)(ho:zy p):∃ m,jL p=some m∧gY p m.Vars m.Funcs∧vP (MM p) m.Vars (asks p m.Vars m.Funcs) p m.Funcs∧∀ (i:Nat)(v:Var),p.Vars[i]? =some v→v.Known=true→m.Vars[i]? =some (fZ p.aa v.Label):=by
 have hs:bz (MM p) (vS (MM p)):=by simp [bz,vS]
 have hT:∀ s pl,asks p (List.replicate p.Vars.length (vS (MM p))) (List.replicate p.Funcs.length (vS (MM p))) s pl:=fun s pl fs _ f _=>by
  unfold rr
  split
  ·intro t ht;rw [EK ht];exact le_top _ _
  ·intro v t _ _ ht;rw [EK ht];exact le_top _ _
 obtain ⟨m,m1,m2,m3,_,_,m6⟩:=Nh h ho (W:=List.replicate p.Vars.length (vS (MM p))) (E:=List.replicate p.Funcs.length (vS (MM p))) ⟨by simp,by simp,fun l hl=>by rw [(List.mem_replicate.1 hl).2];exact hs,fun l hl=>by rw [(List.mem_replicate.1 hl).2];exact hs⟩
  (fun i v b _ _ hb=>by rw [EK hb];exact le_top _ _) ⟨H8 hT _ _ _,vR hT _ _⟩
 exact ⟨m,m1,m2,m3,m6⟩
end Go.Proofs.YtkkkkondjclcnaaGreat.A
