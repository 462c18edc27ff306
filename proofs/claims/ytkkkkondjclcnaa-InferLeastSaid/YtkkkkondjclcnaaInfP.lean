/- Levels in order; how much they hold; flows of commands that are right. -/
import Derived.Test.YtkkkkondjclcnaaOkS
import Derived.Test.YtkkkkondjclcnaaFitsF
set_option linter.unusedSectionVars false
set_option linter.unusedVariables false
set_option linter.unusedSimpArgs false
set_option linter.constructorNameAsVariable false
namespace Go.Proofs.Ytkkkkondjclcnaa.A
open Go
abbrev ee(n:Nat)(l m:Level):Prop:=lD n l m=true
theorem le_iff{n:Nat}{l m:Level} : ee n l m↔∀ k,k<n→(on m.Readers k=true→on l.Readers k=true)∧(on l.Writers k=true→on m.Writers k=true):=by
 unfold ee lD xK
 simp only [Bool.and_eq_true,List.all_eq_true,List.mem_range,Bool.or_eq_true,Bool.not_eq_true']
 constructor
 ·rintro ⟨h1,h2⟩ k hk
  exact ⟨fun h=>(h1 k hk).resolve_left (by simp [h]),fun h=>(h2 k hk).resolve_left (by simp [h])⟩
 ·intro h
  refine ⟨fun k hk=>?_,fun k hk=>?_⟩
  ·have:=(h k hk).1
   cases hq:on m.Readers k with
   | true=>exact .inr (this hq)
   | false=>exact .inl rfl
  ·have:=(h k hk).2
   cases hq:on l.Writers k with
   | true=>exact .inr (this hq)
   | false=>exact .inl rfl
theorem GO{n:Nat}(f:Nat→Bool){k:Nat}(hk:k<n):on ((List.range n).map f) k=f k:=by
 unfold on
 rw [List.getD_eq_getElem?_getD,List.getElem?_map,List.getElem?_range hk]
 rfl
theorem zk{n:Nat}{x y:List Bool}{k:Nat}(hk:k<n):on (rh n x y) k=(on x k&&on y k):=GO _ hk
theorem B5{n:Nat}{x y:List Bool}{k:Nat}(hk:k<n):on (vp n x y) k=(on x k||on y k):=GO _ hk
theorem le_refl(n:Nat)(l:Level):ee n l l:=le_iff.2 fun _ _=>⟨id,id⟩
theorem le_trans{n:Nat}{a b c:Level}(h:ee n a b)(h':ee n b c):ee n a c:=
 le_iff.2 fun k hk=>⟨fun hc=>(le_iff.1 h k hk).1 ((le_iff.1 h' k hk).1 hc),fun ha=>(le_iff.1 h' k hk).2 ((le_iff.1 h k hk).2 ha)⟩
theorem EC(n:Nat)(a b:Level):ee n a (cQ n a b):=
 le_iff.2 fun k hk=>⟨fun h=>by rw [cQ,zk hk,Bool.and_eq_true] at h;exact h.1,fun h=>by rw [cQ,B5 hk,h];rfl⟩
theorem Ib(n:Nat)(a b:Level):ee n b (cQ n a b):=
 le_iff.2 fun k hk=>⟨fun h=>by rw [cQ,zk hk,Bool.and_eq_true] at h;exact h.2,fun h=>by rw [cQ,B5 hk,h,Bool.or_true]⟩
theorem join_le{n:Nat}{a b c:Level}(h:ee n a c)(h':ee n b c):ee n (cQ n a b) c:=
 le_iff.2 fun k hk=>⟨fun hc=>by rw [cQ,zk hk,(le_iff.1 h k hk).1 hc,(le_iff.1 h' k hk).1 hc];rfl,fun hj=>by
  rw [cQ,B5 hk,Bool.or_eq_true] at hj
  exact hj.elim (le_iff.1 h k hk).2 (le_iff.1 h' k hk).2⟩
theorem join_mono{n:Nat}{a b c d:Level}(h:ee n a c)(h':ee n b d):ee n (cQ n a b) (cQ n c d):=join_le (le_trans h (EC n c d)) (le_trans h' (Ib n c d))
theorem bot_le(n:Nat)(l:Level):ee n (jO n) l:=
 le_iff.2 fun k hk=>⟨fun _=>by simp [jO,on,List.getElem?_replicate,hk],fun h=>by simp [jO,on,List.getElem?_replicate,hk] at h⟩
def bit(l:Level)(k:Nat):Nat:=(if on l.Readers k=true then 0 else 1)+(if on l.Writers k=true then 1 else 0)
def wt:Nat→Level→Nat
 | 0,_=>0
 | n+1,l=>wt n l+bit l n
theorem ME{l m:Level}{k:Nat}(h:(on m.Readers k=true→on l.Readers k=true)∧(on l.Writers k=true→on m.Writers k=true)):bit l k≤bit m k:=by
 unfold bit
 cases h1:on l.Readers k<;>cases h2:on m.Readers k<;>cases h3:on l.Writers k<;>cases h4:on m.Writers k<;>simp_all
theorem MF(n:Nat)(l:Level):wt n l≤2*n:=by
 induction n with
 | zero=>simp [wt]
 | succ n ih=>
  have:bit l n≤2:=by unfold bit;split<;>split<;>omega
  rw [wt];omega
theorem ED{l m:Level} : ∀ {n:Nat},(∀ k,k<n→bit l k≤bit m k)→wt n l≤wt n m
 | 0,_=>Nat.le_refl _
 | n+1,h=>by
  have:=ED (n:=n) fun k hk=>h k (by omega)
  have:=h n (by omega)
  rw [wt,wt];omega
theorem JD{l m:Level} : ∀ {n:Nat}{j:Nat},(∀ k,k<n→bit l k≤bit m k)→j<n→bit l j<bit m j→wt n l<wt n m
 | n+1,j,h,hj,hb=>by
  have h1:=ED (n:=n) fun k hk=>h k (by omega)
  have h2:=h n (by omega)
  rw [wt,wt]
  by_cases he:j=n
  ·subst he;omega
  ·have:=JD (n:=n) (fun k hk=>h k (by omega)) (show j<n by omega) hb
   omega
theorem EE{n:Nat}{t f:Level}(h:lD n f t=false):wt n t<wt n (cQ n t f):=by
 have hle:=le_iff.1 (EC n t f)
 have:¬ee n f t:=by unfold ee;rw [h];simp
 rw [le_iff] at this
 simp only [Classical.not_forall] at this
 obtain ⟨k,hk,hn⟩:=this
 refine JD (fun k hk=>ME (hle k hk)) hk ?_
 have ha:=zk (x:=t.Readers) (y:=f.Readers) hk
 have ho:=B5 (x:=t.Writers) (y:=f.Writers) hk
 unfold bit cQ
 rw [ha,ho]
 revert hn
 cases on t.Readers k<;>cases on f.Readers k<;>cases on t.Writers k<;>cases on f.Writers k<;>simp
def zl(n:Nat)(V:List Level):Nat:=(V.map (wt n)).sum
theorem C0(n:Nat):∀ V:List Level,zl n V≤2*n*V.length
 | []=>by simp [zl]
 | l::V=>by
  have:=C0 n V
  have:=MF n l
  unfold zl at *
  rw [List.map_cons,List.sum_cons,List.length_cons,Nat.mul_add]
  omega
theorem Ax(n:Nat)(u:Level):∀ {V:List Level}{j:Nat}{t:Level},V[j]? =some t→zl n (V.set j u)+wt n t=zl n V+wt n u
 | [],j,t,h=>by simp at h
 | l::V,0,t,h=>by
  obtain rfl:l=t:=by simpa using h
  simp only [zl,List.set_cons_zero,List.map_cons,List.sum_cons];omega
 | l::V,j+1,t,h=>by
  have:=Ax n u (V:=V) (j:=j) (t:=t) (by simpa using h)
  simp only [zl,List.set_cons_succ,List.map_cons,List.sum_cons] at this ⊢;omega
def uO(n:Nat)(V W:List Level):Prop:=V.length=W.length∧∀ (i:Nat)(a b:Level),V[i]? =some a→W[i]? =some b→ee n a b
theorem C2(n:Nat)(V:List Level):uO n V V:=⟨rfl,fun i a b h h'=>by rw [h] at h';cases h';exact le_refl n a⟩
theorem EF{n:Nat}{V W:List Level}{j:Nat}{u:Level}(h:uO n V W)(hu:∀ b,W[j]? =some b→ee n u b):uO n (V.set j u) W:=⟨by rw [List.length_set];exact h.1,fun i a b ha hb=>by
 rw [List.getElem?_set] at ha
 split at ha
 ·rename_i he
  subst he
  split at ha
  ·cases ha;exact hu b hb
  ·cases ha
 ·exact h.2 i a b ha hb⟩
def C4(n:Nat)(V:List Level):List Int→Level→Level
 | [],v=>v
 | k::ns,v=>C4 n V ns (cQ n v (V.getD k.toNat (jO n)))
def mG(n:Nat)(V:List Level)(e:aw):Level:=C4 n V (nz e) (jO n)
theorem GP{n:Nat}{V W:List Level}(h:uO n V W)(k:Nat):ee n (V.getD k (jO n)) (W.getD k (jO n)):=by
 rw [List.getD_eq_getElem?_getD,List.getD_eq_getElem?_getD]
 by_cases hk:k<V.length
 ·have hk2:k<W.length:=by rw [←h.1];exact hk
  rw [List.getElem?_eq_getElem hk,List.getElem?_eq_getElem hk2]
  exact h.2 k _ _ (List.getElem?_eq_getElem hk) (List.getElem?_eq_getElem hk2)
 ·rw [List.getElem?_eq_none (by omega)]
  exact bot_le n _
theorem C5{n:Nat}{V W:List Level}(h:uO n V W):∀ (ns:List Int)(v w:Level),ee n v w→ee n (C4 n V ns v) (C4 n W ns w)
 | [],v,w,hv=>hv
 | k::ns,v,w,hv=>C5 h ns _ _ (join_mono hv (GP h k.toNat))
theorem o0{n:Nat}{V W:List Level}(h:uO n V W)(e:aw):ee n (mG n V e) (mG n W e):=C5 h _ _ _ (le_refl n _)
variable [Lp]
theorem go_eq{p:Program}(h:ri p){vars:List Level}(hs:∀ l∈vars,br (MM p) l):∀ (ns:List Int)(v:Level),br (MM p) v→(∀ n∈ns,0≤n∧n.toNat<vars.length)→tn vars ns v=some (C4 (MM p) vars ns v)∧br (MM p) (C4 (MM p) vars ns v)
 | [],v,hv,_=>⟨rfl,hv⟩
 | n::ns,v,hv,hn=>by
  obtain ⟨h0,h1⟩:=hn n (by simp)
  have hd:vars.getD n.toNat (jO (MM p))=vars[n.toNat]:=by rw [List.getD_eq_getElem?_getD,List.getElem?_eq_getElem h1];rfl
  rw [tn,fB h0,Option.bind_some,List.getElem?_eq_getElem h1,Option.bind_some,tm h.small hv (hs _ (List.getElem_mem h1)),Option.bind_some,C4,hd]
  exact go_eq h hs ns _ (dV _ _ _) fun m hm=>hn m (by simp [hm])
structure eS(p:Program)(V F:List Level):Prop where
 vl:V.length=p.Vars.length
 fl:F.length=p.Funcs.length
 vs:∀ l∈V,br (MM p) l
 fs:∀ l∈F,br (MM p) l
theorem Ic{p:Program}(h:ri p){V F:List Level}(hV:eS p V F){e:aw}(he:cP p e=0):iA p V e=some (mG (MM p) V e)∧br (MM p) (mG (MM p) V e):=by
 have:=go_eq h hV.vs (nz e) _ (nX (MM p)) fun n hn=>by rw [hV.vl];exact MC he n hn
 refine ⟨?_,this.2⟩
 unfold iA
 rw [pH h,Option.bind_some]
 exact this.1
theorem of_eq{p:Program}(h:ri p){V F:List Level}(hV:eS p V F){e:aw}(he:cP p e=0){pl:Level}(hpl:br (MM p) pl):jw p V pl e=some (cQ (MM p) pl (mG (MM p) V e)):=by
 obtain ⟨h1,h2⟩:=Ic h hV he
 unfold jw
 rw [h1,Option.bind_some,tm h.small hpl h2]
def SC(n:Nat)(f g:bJ):Prop:=ee n f.Level g.Level∧f.To=g.To∧f.Func=g.Func
def pK(p:Program)(f:bJ):Prop:=br (MM p) f.Level∧0≤f.To∧(if f.Func=true then f.To.toNat<p.Funcs.length else f.To.toNat<p.Vars.length)
inductive F2(n:Nat):List bJ→List bJ→Prop where
 | nil:F2 n [] []
 | cons {f g:bJ} {r q:List bJ} (h:SC n f g) (t:F2 n r q):F2 n (f::r) (g::q)
theorem F2.append{n:Nat}{a b c d:List bJ}(h:F2 n a b)(h':F2 n c d):F2 n (a++c) (b++d):=by
 induction h with
 | nil=>exact h'
 | cons h _ ih=>exact .cons h ih
theorem EG{p:Program}(h:ri p){V F W E:List Level}(hV:eS p V F)(hW:eS p W E)(hle:uO (MM p) V W){pl ql:Level}(hpl:br (MM p) pl)(hql:br (MM p) ql)(hpq:ee (MM p) pl ql){ps:List Int}(hps:∀ n∈ps,0≤n∧n<p.Vars.length) :
  ∀ (es:List aw)(i:Nat)(o o':List bJ),(∀ e∈es,cP p e=0)→i+es.length≤ps.length→(∀ f∈o,pK p f)→F2 (MM p) o o'→
   ∃ r r',ov p V pl ps es i o=some r∧ov p W ql ps es i o'=some r'∧F2 (MM p) r r'∧(∀ f∈r,pK p f)∧r.length=o.length+es.length
 | [],i,o,o',_,_,ho,h2=>⟨o,o',rfl,rfl,h2,ho,rfl⟩
 | e::es,i,o,o',he,hi,ho,h2=>by
  have hi2:i<ps.length:=by simp only [List.length_cons] at hi;omega
  have hn:=hps _ (List.getElem_mem hi2)
  have hs:=dV (MM p) pl (mG (MM p) V e)
  rw [ov,of_eq h hV (he e (by simp)) hpl,Option.bind_some,List.getElem?_eq_getElem hi2,Option.bind_some,ov,of_eq h hW (he e (by simp)) hql,Option.bind_some,List.getElem?_eq_getElem hi2,Option.bind_some]
  obtain ⟨r,r',a1,a2,a3,a4,a5⟩:=EG h hV hW hle hpl hql hpq hps es (i+1) (o++[⟨cQ (MM p) pl (mG (MM p) V e),ps[i],false⟩]) (o'++[⟨cQ (MM p) ql (mG (MM p) W e),ps[i],false⟩]) (fun x hx=>he x (by simp [hx])) (by simp only [List.length_cons] at hi;omega)
   (fun f hf=>by
    rcases List.mem_append.1 hf with hf | hf
    ·exact ho f hf
    ·obtain rfl:=List.mem_singleton.1 hf
     exact ⟨hs,hn.1,by simp;omega⟩) (h2.append (.cons ⟨join_mono hpq (o0 hle e),rfl,rfl⟩ .nil))
  exact ⟨r,r',a1,a2,a3,a4,by rw [a5];simp;omega⟩
theorem uh{p:Program}(h:ri p)(ho:Et p){i:Nat}(hi:i≤p.Funcs.length){V F W E:List Level}(hV:eS p V F)(hW:eS p W E)(hle:uO (MM p) V W){pl ql:Level}(hpl:br (MM p) pl)(hql:br (MM p) ql)(hpq:ee (MM p) pl ql){s:Stmt}(hs:bI p i s=0) :
  s.Args.length≤4∧∃ r r',nY p V s pl=some r∧nY p W s ql=some r'∧F2 (MM p) r r'∧(∀ f∈r,pK p f)∧r.length≤10:=by
 obtain ⟨g1,g2,g3,g4,g5,g6⟩:=Ar hs
 have one:∀ {x y:Level},br (MM p) x→ee (MM p) x y→eJ s.Kind=true→F2 (MM p) [⟨x,s.Var,false⟩] [⟨y,s.Var,false⟩]∧(∀ f∈([⟨x,s.Var,false⟩]:List bJ),pK p f)∧([⟨x,s.Var,false⟩]:List bJ).length≤10:=fun hx hxy hv=>by
  have:=g2 hv
  exact ⟨.cons ⟨hxy,rfl,rfl⟩ .nil,fun f hf=>by obtain rfl:=List.mem_singleton.1 hf;exact ⟨hx,this.1,by simp;omega⟩,by simp⟩
 have noA:s.Kind≠2→s.Args.length≤4:=fun hk=>by
  unfold bI at hs
  split at hs
  ·exact absurd hs (by decide)
  split at hs
  ·exact absurd hs (by decide)
  split at hs
  ·exact absurd hs (by decide)
  ·rename_i h3
   have:¬(s.Kind≠2∧0<s.Args.length):=fun hh=>h3 (.inr (.inr (.inr (.inl hh))))
   have:s.Args.length=0:=by
    rcases Nat.eq_zero_or_pos s.Args.length with h | h
    ·exact h
    ·exact absurd ⟨hk,h⟩ this
   omega
 unfold nY
 by_cases h1:s.Kind=1
 ·rw [if_pos h1,if_pos h1]
  have he:=g5 (by simp [ez,h1])
  rw [of_eq h hV he hpl,of_eq h hW he hql]
  obtain ⟨a1,a2,a3⟩:=one (dV (MM p) pl (mG (MM p) V s.Expr)) (join_mono hpq (o0 hle s.Expr)) (by simp [eJ,h1])
  exact ⟨noA (by omega),_,_,rfl,rfl,a1,a2,a3⟩
 rw [if_neg h1,if_neg h1]
 by_cases h2:s.Kind=2
 ·rw [if_pos h2,if_pos h2]
  obtain ⟨o1,o2⟩:=g3 (by simp [eZ,h2])
  have o3:s.Other<i:=by simpa [iz,h2] using o2
  have o4:s.Other.toNat<p.Funcs.length:=by omega
  have hfn:=ho.fns _ o4
  obtain ⟨f1,f2,_,f4⟩:=FH hfn
  have hal:s.Args.length=(p.Funcs[s.Other.toNat]).Params.length:=by
   rw [g4 h2,tj,List.getElem?_eq_getElem o4];rfl
  rw [fB o1,Option.bind_some,Option.bind_some,List.getElem?_eq_getElem o4,Option.bind_some,Option.bind_some]
  obtain ⟨r,r',a1,a2,a3,a4,a5⟩:=EG h hV hW hle hpl hql hpq f2 s.Args 0 [] [] g6 (by omega) (fun _ h=>absurd h (by simp)) .nil
  rw [a1,a2,Option.bind_some,Option.bind_some,of_eq h hV f4 hpl,of_eq h hW f4 hql,Option.bind_some,Option.bind_some]
  have hv:=g2 (by simp [eJ,h2])
  refine ⟨by omega,_,_,rfl,rfl,a3.append (.cons ⟨join_mono hpq (o0 hle _),rfl,rfl⟩ (.cons ⟨hpq,rfl,rfl⟩ .nil)),fun f hf=>?_,?_⟩
  ·rcases List.mem_append.1 hf with hf | hf
   ·exact a4 f hf
   ·rcases List.mem_cons.1 hf with rfl | hf
    ·exact ⟨dV _ _ _,hv.1,by simp;omega⟩
    ·obtain rfl:=List.mem_singleton.1 hf
     exact ⟨hpl,o1,by simp;omega⟩
  ·rw [List.length_append,a5];simp;omega
 rw [if_neg h2,if_neg h2]
 by_cases h3:s.Kind=3
 ·rw [if_pos h3,if_pos h3]
  obtain ⟨o1,o2⟩:=g3 (by simp [eZ,h3])
  have o3:s.Other<p.Ins.length:=by simpa [iz,h3] using o2
  have o4:s.Other.toNat<p.Ins.length:=by omega
  have hlab:=h.ins _ (List.getElem_mem o4)
  have hsz:=sO p.aa (p.Ins[s.Other.toNat])
  rw [fB o1,Option.bind_some,Option.bind_some,List.getElem?_eq_getElem o4,Option.bind_some,Option.bind_some,HW p.aa h.jv _ hlab,Option.bind_some,Option.bind_some,tm h.small hpl hsz,tm h.small hql hsz,Option.bind_some,Option.bind_some]
  obtain ⟨a1,a2,a3⟩:=one (dV (MM p) pl (cG p.aa (p.Ins[s.Other.toNat]))) (join_mono hpq (le_refl (MM p) (cG p.aa (p.Ins[s.Other.toNat])))) (by simp [eJ,h3])
  exact ⟨noA (by omega),_,_,rfl,rfl,a1,a2,a3⟩
 rw [if_neg h3,if_neg h3]
 by_cases h5:s.Kind=5
 ·rw [if_pos h5,if_pos h5]
  have he:=g5 (by simp [ez,h5])
  rw [of_eq h hV he hpl,of_eq h hW he hql]
  have hj:=dV (MM p) pl (mG (MM p) V s.Expr)
  have hm:=le_iff.1 (join_mono hpq (o0 hle s.Expr))
  obtain ⟨a1,a2,a3⟩:=one (x:=⟨pl.Readers,(cQ (MM p) pl (mG (MM p) V s.Expr)).Writers⟩) (y:=⟨ql.Readers,(cQ (MM p) ql (mG (MM p) W s.Expr)).Writers⟩) ⟨hpl.1,hj.2⟩ (le_iff.2 fun k hk=>⟨(le_iff.1 hpq k hk).1,(hm k hk).2⟩) (by simp [eJ,h5])
  exact ⟨noA (by omega),_,_,rfl,rfl,a1,a2,a3⟩
 rw [if_neg h5,if_neg h5]
 by_cases h6:s.Kind=6
 ·rw [if_pos h6,if_pos h6]
  have he:=g5 (by simp [ez,h6])
  rw [of_eq h hV he hpl,of_eq h hW he hql]
  have hj:=dV (MM p) pl (mG (MM p) V s.Expr)
  have hm:=le_iff.1 (join_mono hpq (o0 hle s.Expr))
  obtain ⟨a1,a2,a3⟩:=one (x:=⟨(cQ (MM p) pl (mG (MM p) V s.Expr)).Readers,pl.Writers⟩) (y:=⟨(cQ (MM p) ql (mG (MM p) W s.Expr)).Readers,ql.Writers⟩) ⟨hj.1,hpl.2⟩ (le_iff.2 fun k hk=>⟨(hm k hk).1,(le_iff.1 hpq k hk).2⟩) (by simp [eJ,h6])
  exact ⟨noA (by omega),_,_,rfl,rfl,a1,a2,a3⟩
 rw [if_neg h6,if_neg h6]
 exact ⟨noA (by omega),_,_,rfl,rfl,.nil,fun _ h=>(by cases h),by simp⟩
def o5(p:Program)(n:Nat)(V F:List Level)(f:bJ):Prop:=
 if f.Func=true then ∀ t,F[f.To.toNat]? =some t→ee n f.Level t
 else ∀ v t,p.Vars[f.To.toNat]? =some v→v.Known=false→V[f.To.toNat]? =some t→ee n f.Level t
section
variable (n:Nat)(V:List Level)(T:Stmt→Level→Prop)
mutual
def vE:Stmt→Level→Prop
 | ⟨k,v,o,e,args,th,el⟩,pl=>T ⟨k,v,o,e,args,th,el⟩ pl∧(7≤k→kt th (cQ n pl (mG n V e))∧kt el (cQ n pl (mG n V e)))
def kt:List Stmt→Level→Prop
 | [],_=>True
 | x::r,pl=>vE x pl∧kt r pl
end
theorem wo(s:Stmt)(pl:Level):vE n V T s pl↔T s pl∧(7≤s.Kind→kt n V T s.Then (cQ n pl (mG n V s.Expr))∧kt n V T s.Else (cQ n pl (mG n V s.Expr))):=by
 cases s;rw [vE]
def xQ(F:List Level):List Func→Nat→Prop
 | [],_=>True
 | f::r,i=>(∀ q,F[i]? =some q→kt n V T f.Body q)∧xQ F r (i+1)
def ui(p:Program)(F:List Level):Prop:=xQ n V T F p.Funcs 0∧kt n V T p.Main (jO n)
end
variable [Lp]
def asks(p:Program)(V F:List Level)(st:Stmt)(pl:Level):Prop:=∀ fs,nY p V st pl=some fs→∀ f∈fs,o5 p (MM p) V F f
structure oI(p:Program)(W E:List Level)(s:bP):Prop where
 ok:eS p s.V s.F
 v:uO (MM p) s.V W
 f:uO (MM p) s.F E
def mu(p:Program)(s:bP):Nat:=zl (MM p) s.V+zl (MM p) s.F
structure Grow(p:Program)(s t:bP):Prop where
 mu:mu p s≤mu p t
 ch:t.ch=true→s.ch=true∨A.mu p s<A.mu p t
 up:s.ch=true→t.ch=true
 kn:∀ (i:Nat)(v:Var),p.Vars[i]? =some v→v.Known=true→t.V[i]? =s.V[i]?
theorem Grow.refl(p:Program)(s:bP):Grow p s s:=⟨Nat.le_refl _,fun h=>.inl h,fun h=>h,fun _ _ _ _=>rfl⟩
theorem Grow.trans{p:Program}{s t u:bP}(h:Grow p s t)(h':Grow p t u):Grow p s u:=
 ⟨Nat.le_trans h.mu h'.mu,fun hu=>(h'.ch hu).elim (fun ht=>(h.ch ht).imp id fun hlt=>Nat.lt_of_lt_of_le hlt h'.mu) fun hlt=>.inr (Nat.lt_of_le_of_lt h.mu hlt),fun hs=>h'.up (h.up hs),fun i v hv hk=>(h'.kn i v hv hk).trans (h.kn i v hv hk)⟩
theorem oA{n:Nat}{V:List Level}{i:Nat}{t:Level}(h:∀ l∈V,br n l)(ht:V[i]? =some t):br n t:=h t (List.mem_of_getElem? ht)
theorem C6{V:List Level}{j:Nat}{u l:Level}(h:l∈V.set j u):l∈V∨l=u:=(List.mem_or_eq_of_mem_set h)
theorem Kl{p:Program}(h:ri p){W E:List Level}{s:bP}(hb:oI p W E s){f g:bJ}(hf:pK p f)(hfg:SC (MM p) f g)(hg:o5 p (MM p) W E g) :
  ∃ t,uf p s f=some t∧oI p W E t∧Grow p s t∧(t.ch=false→t=s∧o5 p (MM p) s.V s.F f):=by
 obtain ⟨h1,h2,h3⟩:=hf
 obtain ⟨l1,l2,l3⟩:=hfg
 unfold uf
 rw [fB h2,Option.bind_some]
 unfold o5 at hg
 cases hfn:f.Func with
 | true=>
  rw [if_pos rfl]
  rw [hfn,if_pos rfl] at h3
  rw [←l3,hfn,if_pos rfl,←l2] at hg
  have hi:f.To.toNat<s.F.length:=by rw [hb.ok.fl];exact h3
  have ht:=List.getElem?_eq_getElem hi
  generalize s.F[f.To.toNat]=t at ht
  have hts:=oA hb.ok.fs ht
  rw [ht,Option.bind_some,oY h.small h1 hts,Option.bind_some]
  cases hu:lD (MM p) f.Level t with
  | true=>
   rw [if_pos rfl]
   exact ⟨s,rfl,hb,.refl p s,fun _=>⟨rfl,by unfold o5;rw [hfn,if_pos rfl];intro t' ht';rw [ht] at ht';cases ht';exact hu⟩⟩
  | false=>
   rw [if_neg (by simp),tm h.small hts h1,Option.bind_some]
   have hw:=Ax (MM p) (cQ (MM p) t f.Level) ht
   have hj:=EE hu
   refine ⟨_,rfl,⟨⟨hb.ok.vl,by simp [hb.ok.fl],hb.ok.vs,fun l hl=>(C6 hl).elim (hb.ok.fs l) fun e=>by rw [e];exact dV _ _ _⟩,hb.v,EF hb.f fun b hbb=>join_le (hb.f.2 _ _ _ ht hbb) (le_trans l1 (hg b hbb))⟩,⟨by simp only [mu];omega,fun _=>.inr (by simp only [mu];omega),fun _=>rfl,fun _ _ _ _=>rfl⟩,fun hc=>by cases hc⟩
 | false=>
  rw [if_neg (by simp)]
  rw [hfn,if_neg (by simp)] at h3
  rw [←l3,hfn,if_neg (by simp),←l2] at hg
  have hv:=List.getElem?_eq_getElem h3
  generalize p.Vars[f.To.toNat]=v at hv
  rw [hv,Option.bind_some]
  cases hk:v.Known with
  | true=>
   rw [if_pos rfl]
   exact ⟨s,rfl,hb,.refl p s,fun _=>⟨rfl,by unfold o5;rw [hfn,if_neg (by simp)];intro v' t' hv' hk';rw [hv] at hv';cases hv';rw [hk] at hk';cases hk'⟩⟩
  | false=>
   rw [if_neg (by simp)]
   have hi:f.To.toNat<s.V.length:=by rw [hb.ok.vl];exact h3
   have ht:=List.getElem?_eq_getElem hi
   generalize s.V[f.To.toNat]=t at ht
   have hts:=oA hb.ok.vs ht
   rw [ht,Option.bind_some,oY h.small h1 hts,Option.bind_some]
   cases hu:lD (MM p) f.Level t with
   | true=>
    rw [if_pos rfl]
    exact ⟨s,rfl,hb,.refl p s,fun _=>⟨rfl,by unfold o5;rw [hfn,if_neg (by simp)];intro v' t' _ _ ht';rw [ht] at ht';cases ht';exact hu⟩⟩
   | false=>
    rw [if_neg (by simp),tm h.small hts h1,Option.bind_some]
    have hw:=Ax (MM p) (cQ (MM p) t f.Level) ht
    have hj:=EE hu
    refine ⟨_,rfl,⟨⟨by simp [hb.ok.vl],hb.ok.fl,fun l hl=>(C6 hl).elim (hb.ok.vs l) fun e=>by rw [e];exact dV _ _ _,hb.ok.fs⟩,EF hb.v fun b hbb=>join_le (hb.v.2 _ _ _ ht hbb) (le_trans l1 (hg v b hv hk hbb)),hb.f⟩,⟨by simp only [mu];omega,fun _=>.inr (by simp only [mu];omega),fun _=>rfl,fun i v' hv' hk'=>?_⟩,fun hc=>by cases hc⟩
    show (s.V.set _ _)[i]? =s.V[i]?
    rw [List.getElem?_set_ne]
    intro e
    rw [e,hv'] at hv
    cases hv
    rw [hk'] at hk;cases hk
theorem C7{p:Program}(h:ri p){W E:List Level} : ∀ {fs gs:List bJ}{s:bP},F2 (MM p) fs gs→oI p W E s→(∀ f∈fs,pK p f)→(∀ g∈gs,o5 p (MM p) W E g)→
  ∃ t,tz p fs s=some t∧oI p W E t∧Grow p s t∧(t.ch=false→t=s∧∀ f∈fs,o5 p (MM p) s.V s.F f)
 | _,_,s,.nil,hb,_,_=>⟨s,rfl,hb,.refl p s,fun _=>⟨rfl,fun _ h=>absurd h (by simp)⟩⟩
 | _,_,s,.cons (f:=f) (g:=g) (r:=r) (q:=q) hfg ht,hb,hf,hg=>by
  obtain ⟨t,t1,t2,t3,t4⟩:=Kl h hb (hf f (by simp)) hfg (hg g (by simp))
  obtain ⟨u,u1,u2,u3,u4⟩:=C7 h ht t2 (fun x hx=>hf x (by simp [hx])) fun x hx=>hg x (by simp [hx])
  refine ⟨u,by rw [tz,t1,Option.bind_some,u1],u2,t3.trans u3,fun hc=>?_⟩
  obtain ⟨rfl,b⟩:=u4 hc
  obtain ⟨rfl,c⟩:=t4 hc
  refine ⟨rfl,fun x hx=>?_⟩
  rcases List.mem_cons.1 hx with rfl | hx
  ·exact c
  ·exact b x hx
section
variable {p:Program}(h:ri p)(ho:Et p){W E:List Level}(hW:eS p W E){i:Nat}(hi:i≤p.Funcs.length)
include h ho hW hi
theorem Ie{st:Stmt}{a:Nat}{pl ql:Level}{s:bP}(hs:bI p i st=0)(hb:oI p W E s)(hpl:br (MM p) pl)(hql:br (MM p) ql)(hpq:ee (MM p) pl ql)(hT:asks p W E st ql) :
  ∃ t,nC p a st pl s=some t∧oI p W E t∧Grow p s t∧(t.ch=false→t=s∧asks p s.V s.F st pl):=by
 obtain ⟨_,r,r',a1,a2,a3,a4,a5⟩:=uh h ho hi hb.ok hW hb.v hpl hql hpq hs
 obtain ⟨t,t1,t2,t3,t4⟩:=C7 h a3 hb a4 (hT r' a2)
 refine ⟨t,by unfold nC;rw [a1,Option.bind_some,if_pos (by omega),t1],t2,t3,fun hc=>⟨(t4 hc).1,fun fs hfs=>?_⟩⟩
 rw [a1] at hfs;cases hfs
 exact (t4 hc).2
mutual
theorem Km:∀ (st:Stmt)(a:Nat)(pl ql:Level)(s:bP),ud (bI p i) st=0→qb st≤50→a+qb st≤1000→oI p W E s→br (MM p) pl→br (MM p) ql→ee (MM p) pl ql→vE (MM p) W (asks p W E) st ql→
  ∃ t,we p bP.V (nC p) st a pl s=some (a+qb st,t)∧oI p W E t∧Grow p s t∧(t.ch=false→t=s∧vE (MM p) s.V (asks p s.V s.F) st pl)
 | ⟨k,v,o,e,args,th,el⟩,a,pl,ql,s,he,hc,ha,hb,hpl,hql,hpq,hT=>by
  obtain ⟨e1,e2,e3⟩:=CM he
  obtain ⟨T1,T2⟩:=(wo _ _ _ _ _).1 hT
  have hlen:=(uh h ho hi hb.ok hW hb.v hpl hql hpq e1).1
  have hcnt:=zb ⟨k,v,o,e,args,th,el⟩
  have l1:=iZ th
  have l2:=iZ el
  simp only at hlen hcnt e2 e3
  obtain ⟨t,t1,t2,t3,t4⟩:=Ie h ho hW hi (a:=a) e1 hb hpl hql hpq T1
  rw [xL,if_pos ⟨by omega,by simp only;omega,by simp only;omega,by simp only;omega⟩,t1,Option.bind_some]
  by_cases h7:7≤k
  ·rw [if_pos h7]
   obtain ⟨T3,T4⟩:=T2 h7
   have hex:=(Ar e1).2.2.2.2.1 (by simp only [ez];exact decide_eq_true ⟨by omega,by omega⟩)
   simp only at hex
   have hq:=of_eq h t2.ok hex hpl
   have hsz:=dV (MM p) pl (mG (MM p) t.V e)
   have hsz2:=dV (MM p) ql (mG (MM p) W e)
   have hle:=join_mono hpq (o0 t2.v e)
   simp only
   rw [hq,Option.bind_some]
   obtain ⟨u,u1,u2,u3,u4⟩:=tC th (a+1) _ _ t e2 (by omega) (by omega) t2 hsz hsz2 hle T3
   obtain ⟨w,w1,w2,w3,w4⟩:=tC el (a+1+bU th) _ _ u e3 (by omega) (by omega) u2 hsz hsz2 hle T4
   rw [u1,Option.bind_some,w1]
   refine ⟨w,by rw [hcnt];congr 2;omega,w2,(t3.trans u3).trans w3,fun hc=>?_⟩
   obtain ⟨rfl,c1⟩:=w4 hc
   obtain ⟨rfl,c2⟩:=u4 hc
   obtain ⟨rfl,c3⟩:=t4 hc
   exact ⟨rfl,(wo _ _ _ _ _).2 ⟨c3,fun _=>⟨c2,c1⟩⟩⟩
  ·rw [if_neg h7]
   have hk0:k<7:=by omega
   have z:th.length=0∧el.length=0:=by
    unfold bI at e1
    split at e1
    ·exact absurd e1 (by decide)
    split at e1
    ·exact absurd e1 (by decide)
    split at e1
    ·exact absurd e1 (by decide)
    ·rename_i h3
     simp only at h3
     constructor
     ·rcases Nat.eq_zero_or_pos th.length with hz | hz
      ·exact hz
      ·exact absurd (.inr (.inr (.inr (.inr (.inl ⟨hk0,hz⟩))))) h3
     ·rcases Nat.eq_zero_or_pos el.length with hz | hz
      ·exact hz
      ·exact absurd (.inr (.inr (.inr (.inr (.inr ⟨by omega,hz⟩))))) h3
   have z1:th=[]:=List.length_eq_zero_iff.1 z.1
   have z2:el=[]:=List.length_eq_zero_iff.1 z.2
   subst z1 z2
   refine ⟨t,by rw [hcnt];simp [bU],t2,t3,fun hc=>?_⟩
   obtain ⟨rfl,c3⟩:=t4 hc
   exact ⟨rfl,(wo _ _ _ _ _).2 ⟨c3,fun hh=>absurd hh h7⟩⟩
theorem tC:∀ (l:List Stmt)(a:Nat)(pl ql:Level)(s:bP),cH (bI p i) l=0→bU l≤50→a+bU l≤1000→oI p W E s→br (MM p) pl→br (MM p) ql→ee (MM p) pl ql→kt (MM p) W (asks p W E) l ql→
  ∃ t,gk p bP.V (nC p) l a pl s=some (a+bU l,t)∧oI p W E t∧Grow p s t∧(t.ch=false→t=s∧kt (MM p) s.V (asks p s.V s.F) l pl)
 | [],a,pl,ql,s,he,hc,ha,hb,hpl,hql,hpq,hT=>⟨s,by rw [gk,bU];rfl,hb,.refl p s,fun _=>⟨rfl,by rw [kt];trivial⟩⟩
 | x::r,a,pl,ql,s,he,hc,ha,hb,hpl,hql,hpq,hT=>by
  rw [bU] at hc ha
  rw [kt] at hT
  have he1:=xF he x (by simp)
  have he2:cH (bI p i) r=0:=by
   rw [cH,if_neg (by simp [he1])] at he;exact he
  obtain ⟨t,t1,t2,t3,t4⟩:=Km x a pl ql s he1 (by omega) (by omega) hb hpl hql hpq hT.1
  obtain ⟨u,u1,u2,u3,u4⟩:=tC r (a+qb x) pl ql t he2 (by omega) (by omega) t2 hpl hql hpq hT.2
  refine ⟨u,by rw [gk,t1,Option.bind_some,u1,bU];congr 2;omega,u2,t3.trans u3,fun hc=>?_⟩
  obtain ⟨rfl,c1⟩:=u4 hc
  obtain ⟨rfl,c2⟩:=t4 hc
  exact ⟨rfl,by rw [kt];exact ⟨c2,c1⟩⟩
end
end
variable [Lp]
abbrev gl(l:List Func):Nat:=(l.map fun f=>bU f.Body).sum
section
variable {p:Program}(h:ri p)(ho:Et p)
include h ho
theorem EH{rest:List Func}{f:Func}{i:Nat}(hd:p.Funcs.drop i=f::rest):p.Funcs[i]? =some f∧p.Funcs.drop (i+1)=rest∧i<p.Funcs.length∧vi p i f=0:=by
 have hg:p.Funcs[i]? =some f:=by
  have:=congrArg (fun l=>l[0]?) hd
  simpa using this
 have hd2:p.Funcs.drop (i+1)=rest:=by
  have:=congrArg List.tail hd
  simpa using this
 have hi:=(List.getElem?_eq_some_iff.1 hg).1
 have:=ho.fns i hi
 rw [(List.getElem?_eq_some_iff.1 hg).2] at this
 exact ⟨hg,hd2,hi,this⟩
theorem EI{W E:List Level}(hW:eS p W E):∀ (rest:List Func)(i a:Nat)(s:bP),p.Funcs.drop i=rest→gl rest≤50→a+gl rest≤1000→oI p W E s→xQ (MM p) W (asks p W E) E rest i→
  ∃ t,qu p bP.V bP.F (nC p) rest i a s=some (a+gl rest,t)∧oI p W E t∧Grow p s t∧(t.ch=false→t=s∧xQ (MM p) s.V (asks p s.V s.F) s.F rest i)
 | [],i,a,s,hd,hs,ha,hb,hT=>⟨s,rfl,hb,.refl p s,fun _=>⟨rfl,trivial⟩⟩
 | f::rest,i,a,s,hd,hs,ha,hb,hT=>by
  obtain ⟨hg,hd2,hi,hfn⟩:=EH h ho hd
  obtain ⟨_,_,f3,_⟩:=FH hfn
  have hsum:gl (f::rest)=bU f.Body+gl rest:=by simp [gl]
  rw [hsum] at hs ha
  have hl:=iZ f.Body
  have hiF:i<s.F.length:=by rw [hb.ok.fl];exact hi
  have hiE:i<E.length:=by rw [hW.fl];exact hi
  have hq:=List.getElem?_eq_getElem hiF
  have hq2:=List.getElem?_eq_getElem hiE
  rw [qu,if_pos (by omega),hq,Option.bind_some]
  obtain ⟨t,t1,t2,t3,t4⟩:=tC h ho hW (by omega) f.Body a _ _ s f3 (by omega) (by omega) hb (hb.ok.fs _ (List.getElem_mem hiF)) (hW.fs _ (List.getElem_mem hiE)) (hb.f.2 i _ _ hq hq2) (hT.1 _ hq2)
  obtain ⟨u,u1,u2,u3,u4⟩:=EI hW rest (i+1) (a+bU f.Body) t hd2 (by omega) (by omega) t2 hT.2
  refine ⟨u,by rw [t1,Option.bind_some,u1,hsum];congr 2;omega,u2,t3.trans u3,fun hc=>?_⟩
  obtain ⟨rfl,c1⟩:=u4 hc
  obtain ⟨rfl,c2⟩:=t4 hc
  exact ⟨rfl,fun q hq'=>by rw [hq] at hq';cases hq';exact c2,c1⟩
theorem Kn{W E:List Level}(hW:eS p W E){s:bP}(hb:oI p W E s)(hT:ui (MM p) W (asks p W E) p E) :
  ∃ a t,rj p bP.V bP.F (nC p) s=some (a,t)∧oI p W E t∧Grow p s t∧(t.ch=false→t=s∧ui (MM p) s.V (asks p s.V s.F) p s.F):=by
 have hsum:=ho.sum
 have hf:=ho.funcs
 have hm:=ho.main
 have hl:=iZ p.Main
 obtain ⟨t,t1,t2,t3,t4⟩:=EI h ho hW p.Funcs 0 0 s rfl (show gl p.Funcs≤50 by unfold gl;omega) (show 0+gl p.Funcs≤1000 by unfold gl;omega) hb hT.1
 obtain ⟨u,u1,u2,u3,u4⟩:=tC h ho hW (Nat.le_refl _) p.Main (0+gl p.Funcs) (jO (MM p)) (jO (MM p)) t ho.mains (by omega) (by unfold gl;omega) t2 (nX _) (nX _) (le_refl _ _) hT.2
 refine ⟨_,u,by unfold rj;rw [if_pos (by omega),t1,Option.bind_some,pH h,Option.bind_some,u1],u2,t3.trans u3,fun hc=>?_⟩
 obtain ⟨rfl,c1⟩:=u4 hc
 obtain ⟨rfl,c2⟩:=t4 hc
 exact ⟨rfl,c2,c1⟩
def qv(p:Program):List Level:=p.Vars.map fun v=>if v.Known=true then cG p.aa v.Label else jO (MM p)
def uj(p:Program):List Level:=p.Funcs.map fun _=>jO (MM p)
theorem xR:∀ (l:List Var)(o:List Level),(∀ v∈l,v∈p.Vars)→wi p l o=some (o++l.map fun v=>if v.Known=true then cG p.aa v.Label else jO (MM p))
 | [],o,_=>by simp [wi]
 | v::r,o,hv=>by
  have hlab:=h.vars v (hv v (by simp))
  rw [wi,pH h,Option.bind_some]
  cases hk:v.Known with
  | true=>
   rw [if_pos rfl,HW p.aa h.jv _ hlab,Option.bind_some,xR r _ fun w hw=>hv w (by simp [hw])]
   simp [hk]
  | false=>
   rw [if_neg (by simp),Option.bind_some,xR r _ fun w hw=>hv w (by simp [hw])]
   simp [hk]
theorem C8:∀ (l:List Func)(o:List Level),wj p l o=some (o++l.map fun _=>jO (MM p))
 | [],o=>by simp [wj]
 | v::r,o=>by
  rw [wj,pH h,Option.bind_some,C8 r]
  simp
theorem QN:eS p (qv p) (uj p):=by
 refine ⟨by simp [qv],by simp [uj],fun l hl=>?_,fun l hl=>?_⟩
 ·obtain ⟨v,_,rfl⟩:=List.mem_map.1 hl
  split
  ·exact sO _ _
  ·exact nX _
 ·obtain ⟨v,_,rfl⟩:=List.mem_map.1 hl
  exact nX _
theorem GQ{W E:List Level}(hW:eS p W E)(hK:∀ (i:Nat)(v:Var)(b:Level),p.Vars[i]? =some v→v.Known=true→W[i]? =some b→ee (MM p) (cG p.aa v.Label) b)(hT:ui (MM p) W (asks p W E) p E) :
  ∃ m,j0 p=some m∧eS p m.Vars m.Funcs∧ui (MM p) m.Vars (asks p m.Vars m.Funcs) p m.Funcs∧uO (MM p) m.Vars W∧uO (MM p) m.Funcs E∧∀ (i:Nat)(v:Var),p.Vars[i]? =some v→v.Known=true→m.Vars[i]? =some (cG p.aa v.Label):=by
 have hv16:=ho.vars
 have hf5:=ho.funcs
 have b0:oI p W E ⟨qv p,uj p,true⟩:=by
  refine ⟨QN h ho,⟨by rw [hW.vl];simp [qv],fun i a b ha hb=>?_⟩,⟨by rw [hW.fl];simp [uj],fun i a b ha hb=>?_⟩⟩
  ·rw [qv,List.getElem?_map] at ha
   obtain ⟨v,hv,rfl⟩:=Option.map_eq_some_iff.1 ha
   split
   ·rename_i hk;exact hK i v b hv hk hb
   ·exact bot_le _ _
  ·rw [uj,List.getElem?_map] at ha
   obtain ⟨v,hv,rfl⟩:=Option.map_eq_some_iff.1 ha
   exact bot_le _ _
 have k0:∀ (i:Nat)(v:Var),p.Vars[i]? =some v→v.Known=true→(qv p)[i]? =some (cG p.aa v.Label):=fun i v hv hk=>by
  rw [qv,List.getElem?_map,hv];simp [hk]
 obtain ⟨s,hs,hQ⟩:=oh (B:=ug p) (fun s=>2*(2*MM p*(p.Vars.length+p.Funcs.length) - mu p s)+(if s.ch=true then 1 else 0))
  (fun s=>oI p W E s∧(∀ (i:Nat)(v:Var),p.Vars[i]? =some v→v.Known=true→s.V[i]? =some (cG p.aa v.Label))∧(s.ch=false→ui (MM p) s.V (asks p s.V s.F) p s.F))
  (fun s=>oI p W E s∧(∀ (i:Nat)(v:Var),p.Vars[i]? =some v→v.Known=true→s.V[i]? =some (cG p.aa v.Label))∧ui (MM p) s.V (asks p s.V s.F) p s.F) (by
   rintro s ⟨hb,hkn,hal⟩
   unfold ug
   cases hc:s.ch with
   | false=>
    rw [if_neg (by simp)]
    exact .inl ⟨s,rfl,hb,hkn,hal hc⟩
   | true=>
    rw [if_pos rfl]
    have hb2:oI p W E ⟨s.V,s.F,false⟩:=⟨hb.ok,hb.v,hb.f⟩
    obtain ⟨a,t,t1,t2,t3,t4⟩:=Kn h ho hW hb2 hT
    refine .inr ⟨t,by rw [t1];rfl,⟨t2,fun i v hv hk=>(t3.kn i v hv hk).trans (hkn i v hv hk),fun hc2=>?_⟩,?_⟩
    ·obtain ⟨rfl,c⟩:=t4 hc2
     exact c
    ·have m1:mu p ⟨s.V,s.F,false⟩=mu p s:=rfl
     have m2:=t3.mu
     have m3:mu p t≤2*MM p*(p.Vars.length+p.Funcs.length):=by
      have q1:=C0 (MM p) t.V
      have q2:=C0 (MM p) t.F
      rw [t2.ok.vl] at q1
      rw [t2.ok.fl] at q2
      unfold mu
      rw [Nat.mul_add];omega
     cases hc2:t.ch with
     | false=>simp only [Bool.false_eq_true,if_false,if_true];omega
     | true=>
      have:=t3.ch hc2
      simp only [if_true]
      rcases this with h1 | h1
      ·cases h1
      ·omega) ⟨qv p,uj p,true⟩ ⟨b0,k0,fun hc=>by cases hc⟩
 refine ⟨⟨s.V,s.F⟩,?_,hQ.1.ok,hQ.2.2,hQ.1.v,hQ.1.f,hQ.2.1⟩
 unfold j0
 have e1:=xR h ho p.Vars [] fun v hv=>hv
 have e2:=C8 h ho p.Funcs []
 rw [List.nil_append] at e1 e2
 rw [if_pos (by omega),e1,Option.bind_some,e2,Option.bind_some]
 show (lp (ug p) ⟨qv p,uj p,true⟩).bind _=_
 rw [hs];rfl
end
variable [Lp]
mutual
theorem Ig{n:Nat}{V:List Level}{T:Stmt→Level→Prop}(hT:∀ s pl,T s pl):∀ (s:Stmt)(pl:Level),vE n V T s pl
 | ⟨k,v,o,e,args,th,el⟩,pl=>by rw [vE];exact ⟨hT _ _,fun _=>⟨rm hT th _,rm hT el _⟩⟩
theorem rm{n:Nat}{V:List Level}{T:Stmt→Level→Prop}(hT:∀ s pl,T s pl):∀ (l:List Stmt)(pl:Level),kt n V T l pl
 | [],pl=>by rw [kt];trivial
 | x::r,pl=>by rw [kt];exact ⟨Ig hT x pl,rm hT r pl⟩
end
theorem C9{n:Nat}{V:List Level}{T:Stmt→Level→Prop}(hT:∀ s pl,T s pl)(F:List Level):∀ (l:List Func)(i:Nat),xQ n V T F l i
 | [],_=>trivial
 | f::r,i=>⟨fun q _=>rm hT f.Body q,C9 hT F r (i+1)⟩
def rn(n:Nat):Level:=⟨List.replicate n false,List.replicate n true⟩
theorem le_top(n:Nat)(l:Level):ee n l (rn n):=
 le_iff.2 fun k hk=>⟨fun h=>by simp [rn,on,List.getElem?_replicate,hk] at h,fun _=>by simp [rn,on,List.getElem?_replicate,hk]⟩
theorem Ay{n k i:Nat}{t:Level}(h:(List.replicate k (rn n))[i]? =some t):t=rn n:=by
 rw [List.getElem?_replicate] at h
 split at h
 ·exact (Option.some.inj h).symm
 ·cases h
theorem Ko{p:Program}(h:ri p)(ho:Et p):∃ m,j0 p=some m∧eS p m.Vars m.Funcs∧ui (MM p) m.Vars (asks p m.Vars m.Funcs) p m.Funcs∧∀ (i:Nat)(v:Var),p.Vars[i]? =some v→v.Known=true→m.Vars[i]? =some (cG p.aa v.Label):=by
 have hs:br (MM p) (rn (MM p)):=by simp [br,rn]
 have hT:∀ s pl,asks p (List.replicate p.Vars.length (rn (MM p))) (List.replicate p.Funcs.length (rn (MM p))) s pl:=fun s pl fs _ f _=>by
  unfold o5
  split
  ·intro t ht;rw [Ay ht];exact le_top _ _
  ·intro v t _ _ ht;rw [Ay ht];exact le_top _ _
 obtain ⟨m,m1,m2,m3,_,_,m6⟩:=GQ h ho (W:=List.replicate p.Vars.length (rn (MM p))) (E:=List.replicate p.Funcs.length (rn (MM p))) ⟨by simp,by simp,fun l hl=>by rw [(List.mem_replicate.1 hl).2];exact hs,fun l hl=>by rw [(List.mem_replicate.1 hl).2];exact hs⟩
  (fun i v b _ _ hb=>by rw [Ay hb];exact le_top _ _) ⟨C9 hT _ _ _,rm hT _ _⟩
 exact ⟨m,m1,m2,m3,m6⟩
section
variable {p:Program}(h:ri p)(ho:Et p){l:aT}(hR:eS p l.Vars l.Funcs)
include h hR
theorem FP{f:bJ}(hf:pK p f)(ok:Bool):∃ b,rk p l ok f=some b∧(b=true↔ok=true∧o5 p (MM p) l.Vars l.Funcs f):=by
 obtain ⟨h1,h2,h3⟩:=hf
 unfold rk o5
 cases ok with
 | false=>exact ⟨false,rfl,by simp⟩
 | true=>
  rw [if_pos rfl,fB h2,Option.bind_some]
  cases hfn:f.Func with
  | true=>
   rw [hfn,if_pos rfl] at h3
   have hi:f.To.toNat<l.Funcs.length:=by rw [hR.fl];exact h3
   have ht:=List.getElem?_eq_getElem hi
   generalize l.Funcs[f.To.toNat]=t at ht
   rw [if_pos rfl,ht,Option.bind_some,oY h.small h1 (oA hR.fs ht)]
   refine ⟨_,rfl,?_⟩
   simp only [if_true,true_and]
   exact ⟨fun hu t' ht'=>by cases ht';exact hu,fun hu=>hu t rfl⟩
  | false=>
   rw [hfn,if_neg (by simp)] at h3
   have hv:=List.getElem?_eq_getElem h3
   generalize p.Vars[f.To.toNat]=v at hv
   rw [if_neg (by simp),hv,Option.bind_some]
   cases hk:v.Known with
   | true=>
    refine ⟨true,by rw [if_pos rfl],?_⟩
    simp only [true_and,Bool.false_eq_true,if_false,true_iff]
    intro v' t hv' hk'
    cases hv';rw [hk] at hk';cases hk'
   | false=>
    have hi:f.To.toNat<l.Vars.length:=by rw [hR.vl];exact h3
    have ht:=List.getElem?_eq_getElem hi
    generalize l.Vars[f.To.toNat]=t at ht
    rw [if_neg (by simp),ht,Option.bind_some,oY h.small h1 (oA hR.vs ht)]
    refine ⟨_,rfl,?_⟩
    simp only [true_and,Bool.false_eq_true,if_false]
    exact ⟨fun hu v' t' _ _ ht'=>by cases ht';exact hu,fun hu=>hu v t rfl hk rfl⟩
theorem Da:∀ (fs:List bJ)(ok:Bool),(∀ f∈fs,pK p f)→∃ b,vC p l fs ok=some b∧(b=true↔ok=true∧∀ f∈fs,o5 p (MM p) l.Vars l.Funcs f)
 | [],ok,_=>⟨ok,rfl,by simp⟩
 | f::r,ok,hf=>by
  obtain ⟨b,b1,b2⟩:=FP h hR (hf f (by simp)) ok
  obtain ⟨c,c1,c2⟩:=Da r b fun x hx=>hf x (by simp [hx])
  refine ⟨c,by rw [vC,b1,Option.bind_some,c1],?_⟩
  rw [c2,b2]
  simp [and_assoc]
include ho
theorem Ih{i:Nat}(hi:i≤p.Funcs.length){st:Stmt}{a:Nat}{pl:Level}{ok:Bool}(hs:bI p i st=0)(hpl:br (MM p) pl) :
  ∃ b,oz p l a st pl ok=some b∧(b=true↔ok=true∧asks p l.Vars l.Funcs st pl):=by
 obtain ⟨_,r,r',a1,a2,a3,a4,a5⟩:=uh h ho hi hR hR (C2 _ _) hpl hpl (le_refl _ _) hs
 obtain ⟨b,b1,b2⟩:=Da h hR r ok a4
 refine ⟨b,by unfold oz;rw [a1,Option.bind_some,if_pos (by omega),b1],?_⟩
 rw [b2]
 exact and_congr_right fun _=>⟨fun hh fs hfs=>by rw [a1] at hfs;cases hfs;exact hh,fun hh=>hh r a1⟩
mutual
theorem Kp{i:Nat}(hi:i≤p.Funcs.length):∀ (st:Stmt)(a:Nat)(pl:Level)(ok:Bool),ud (bI p i) st=0→qb st≤50→a+qb st≤1000→br (MM p) pl→
  ∃ b,we p (fun _=>l.Vars) (oz p l) st a pl ok=some (a+qb st,b)∧(b=true↔ok=true∧vE (MM p) l.Vars (asks p l.Vars l.Funcs) st pl)
 | ⟨k,v,o,e,args,th,el⟩,a,pl,ok,he,hc,ha,hpl=>by
  obtain ⟨e1,e2,e3⟩:=CM he
  have hlen:=(uh h ho hi hR hR (C2 _ _) hpl hpl (le_refl _ _) e1).1
  have hcnt:=zb ⟨k,v,o,e,args,th,el⟩
  have l1:=iZ th
  have l2:=iZ el
  simp only at hlen hcnt e2 e3
  obtain ⟨b,t1,t2⟩:=Ih h ho hR hi (a:=a) (ok:=ok) e1 hpl
  rw [xL,if_pos ⟨by omega,by simp only;omega,by simp only;omega,by simp only;omega⟩,t1,Option.bind_some,wo]
  by_cases h7:7≤k
  ·rw [if_pos h7]
   have hex:=(Ar e1).2.2.2.2.1 (by simp only [ez];exact decide_eq_true ⟨by omega,by omega⟩)
   simp only at hex
   have hq:=of_eq h hR hex hpl
   have hsz:=dV (MM p) pl (mG (MM p) l.Vars e)
   simp only
   rw [hq,Option.bind_some]
   obtain ⟨u,u1,u2⟩:=tD hi th (a+1) _ b e2 (by omega) (by omega) hsz
   obtain ⟨w,w1,w2⟩:=tD hi el (a+1+bU th) _ u e3 (by omega) (by omega) hsz
   rw [u1,Option.bind_some,w1]
   refine ⟨w,by rw [hcnt];congr 2;omega,?_⟩
   rw [w2,u2,t2]
   exact ⟨fun ⟨⟨⟨q1,q2⟩,q3⟩,q4⟩=>⟨q1,q2,fun _=>⟨q3,q4⟩⟩,fun ⟨q1,q2,q3⟩=>⟨⟨⟨q1,q2⟩,(q3 h7).1⟩,(q3 h7).2⟩⟩
  ·rw [if_neg h7]
   have hk0:k<7:=by omega
   have z:th.length=0∧el.length=0:=by
    unfold bI at e1
    split at e1
    ·exact absurd e1 (by decide)
    split at e1
    ·exact absurd e1 (by decide)
    split at e1
    ·exact absurd e1 (by decide)
    ·rename_i h3
     simp only at h3
     constructor
     ·rcases Nat.eq_zero_or_pos th.length with hz | hz
      ·exact hz
      ·exact absurd (.inr (.inr (.inr (.inr (.inl ⟨hk0,hz⟩))))) h3
     ·rcases Nat.eq_zero_or_pos el.length with hz | hz
      ·exact hz
      ·exact absurd (.inr (.inr (.inr (.inr (.inr ⟨by omega,hz⟩))))) h3
   have z1:th=[]:=List.length_eq_zero_iff.1 z.1
   have z2:el=[]:=List.length_eq_zero_iff.1 z.2
   subst z1 z2
   refine ⟨b,by rw [hcnt];simp [bU],?_⟩
   rw [t2]
   exact and_congr_right fun _=>⟨fun q=>⟨q,fun hh=>absurd hh h7⟩,fun q=>q.1⟩
theorem tD{i:Nat}(hi:i≤p.Funcs.length):∀ (L:List Stmt)(a:Nat)(pl:Level)(ok:Bool),cH (bI p i) L=0→bU L≤50→a+bU L≤1000→br (MM p) pl→
  ∃ b,gk p (fun _=>l.Vars) (oz p l) L a pl ok=some (a+bU L,b)∧(b=true↔ok=true∧kt (MM p) l.Vars (asks p l.Vars l.Funcs) L pl)
 | [],a,pl,ok,he,hc,ha,hpl=>⟨ok,by rw [gk,bU];rfl,by rw [kt];simp⟩
 | x::r,a,pl,ok,he,hc,ha,hpl=>by
  rw [bU] at hc ha
  have he1:=xF he x (by simp)
  have he2:cH (bI p i) r=0:=by
   rw [cH,if_neg (by simp [he1])] at he;exact he
  obtain ⟨t,t1,t2⟩:=Kp hi x a pl ok he1 (by omega) (by omega) hpl
  obtain ⟨u,u1,u2⟩:=tD hi r (a+qb x) pl t he2 (by omega) (by omega) hpl
  refine ⟨u,by rw [gk,t1,Option.bind_some,u1,bU];congr 2;omega,?_⟩
  rw [u2,t2,kt,and_assoc]
end
theorem EJ:∀ (rest:List Func)(i a:Nat)(ok:Bool),p.Funcs.drop i=rest→gl rest≤50→a+gl rest≤1000→
  ∃ b,qu p (fun _=>l.Vars) (fun _=>l.Funcs) (oz p l) rest i a ok=some (a+gl rest,b)∧(b=true↔ok=true∧xQ (MM p) l.Vars (asks p l.Vars l.Funcs) l.Funcs rest i)
 | [],i,a,ok,hd,hs,ha=>⟨ok,rfl,by simp [xQ]⟩
 | f::rest,i,a,ok,hd,hs,ha=>by
  obtain ⟨hg,hd2,hi,hfn⟩:=EH h ho hd
  obtain ⟨_,_,f3,_⟩:=FH hfn
  have hsum:gl (f::rest)=bU f.Body+gl rest:=by simp [gl]
  rw [hsum] at hs ha
  have hl:=iZ f.Body
  have hiF:i<l.Funcs.length:=by rw [hR.fl];exact hi
  have hq:=List.getElem?_eq_getElem hiF
  rw [qu,if_pos (by omega),hq,Option.bind_some]
  obtain ⟨t,t1,t2⟩:=tD h ho hR (by omega) f.Body a _ ok f3 (by omega) (by omega) (hR.fs _ (List.getElem_mem hiF))
  obtain ⟨u,u1,u2⟩:=EJ rest (i+1) (a+bU f.Body) t hd2 (by omega) (by omega)
  refine ⟨u,by rw [t1,Option.bind_some,u1,hsum];congr 2;omega,?_⟩
  rw [u2,t2,and_assoc]
  exact and_congr_right fun _=>⟨fun ⟨q1,q2⟩=>⟨fun q hq'=>by rw [hq] at hq';cases hq';exact q1,q2⟩,fun ⟨q1,q2⟩=>⟨q1 _ hq,q2⟩⟩
theorem Kq(ok:Bool):∃ a b,rj p (fun _=>l.Vars) (fun _=>l.Funcs) (oz p l) ok=some (a,b)∧(b=true↔ok=true∧ui (MM p) l.Vars (asks p l.Vars l.Funcs) p l.Funcs):=by
 have hsum:=ho.sum
 have hf:=ho.funcs
 have hm:=ho.main
 have hl:=iZ p.Main
 obtain ⟨t,t1,t2⟩:=EJ h ho hR p.Funcs 0 0 ok rfl (show gl p.Funcs≤50 by unfold gl;omega) (show 0+gl p.Funcs≤1000 by unfold gl;omega)
 obtain ⟨u,u1,u2⟩:=tD h ho hR (Nat.le_refl _) p.Main (0+gl p.Funcs) (jO (MM p)) t ho.mains (by omega) (by unfold gl;omega) (nX _)
 refine ⟨_,u,by unfold rj;rw [if_pos (by omega),t1,Option.bind_some,pH h,Option.bind_some,u1],?_⟩
 rw [u2,t2,and_assoc];rfl
theorem EK:∀ (rest:List Var)(i:Nat)(ok:Bool),p.Vars.drop i=rest→∃ b,vD p l rest i ok=some b∧(b=true↔ok=true∧∀ (j:Nat)(v:Var)(q:Level),i≤j→p.Vars[j]? =some v→v.Known=true→l.Vars[j]? =some q→ee (MM p) q (cG p.aa v.Label)∧ee (MM p) (cG p.aa v.Label) q)
 | [],i,ok,hd=>⟨ok,rfl,by
  have:=List.drop_eq_nil_iff.1 hd
  refine ⟨fun hh=>⟨hh,fun j v q hj hv=>?_⟩,fun hh=>hh.1⟩
  rw [List.getElem?_eq_none (by omega)] at hv;cases hv⟩
 | v::rest,i,ok,hd=>by
  have hg:p.Vars[i]? =some v:=by
   have:=congrArg (fun l=>l[0]?) hd
   simpa using this
  have hd2:p.Vars.drop (i+1)=rest:=by
   have:=congrArg List.tail hd
   simpa using this
  have hi:=(List.getElem?_eq_some_iff.1 hg).1
  have hiV:i<l.Vars.length:=by rw [hR.vl];exact hi
  have hq:=List.getElem?_eq_getElem hiV
  generalize l.Vars[i]=q at hq
  have one:∃ b,(if ok=true then (if v.Known=true then (l.Vars[i]?).bind fun q=>(e7 p.aa v.Label).bind fun o=>lB q o else some true) else some false)=some b∧(b=true↔ok=true∧(v.Known=true→ee (MM p) q (cG p.aa v.Label)∧ee (MM p) (cG p.aa v.Label) q)):=by
   cases ok with
   | false=>exact ⟨false,by simp,by simp⟩
   | true=>
    cases hk:v.Known with
    | false=>exact ⟨true,by simp,by simp⟩
    | true=>
     have hlab:=h.vars v (List.mem_of_getElem? hg)
     have s1:=oA hR.vs hq
     have s2:=sO p.aa v.Label
     refine ⟨lD (MM p) q (cG p.aa v.Label)&&lD (MM p) (cG p.aa v.Label) q,?_,by simp⟩
     rw [if_pos rfl,if_pos rfl,hq,Option.bind_some,HW p.aa h.jv _ hlab,Option.bind_some]
     unfold lB
     rw [oY h.small s1 s2,oY h.small s2 s1,Option.bind_some]
     cases lD (MM p) q (cG p.aa v.Label)<;>simp
  obtain ⟨b,b1,b2⟩:=one
  obtain ⟨c,c1,c2⟩:=EK rest (i+1) b hd2
  refine ⟨c,by rw [vD,b1,Option.bind_some,c1],?_⟩
  rw [c2,b2,and_assoc]
  refine and_congr_right fun _=>⟨fun ⟨q1,q2⟩ j w r hj hw hkw hr=>?_,fun q1=>⟨fun hk=>q1 i v q (Nat.le_refl _) hg hk hq,fun j w r hj hw hkw hr=>q1 j w r (by omega) hw hkw hr⟩⟩
  rcases Nat.lt_or_eq_of_le hj with hlt | rfl
  ·exact q2 j w r (by omega) hw hkw hr
  ·rw [hg] at hw;cases hw;rw [hq] at hr;cases hr;exact q1 hkw
end
def Fit(p:Program)(l:aT):Prop:=(∀ (j:Nat)(v:Var)(q:Level),p.Vars[j]? =some v→v.Known=true→l.Vars[j]? =some q→ee (MM p) q (cG p.aa v.Label)∧ee (MM p) (cG p.aa v.Label) q)∧ui (MM p) l.Vars (asks p l.Vars l.Funcs) p l.Funcs
theorem Ii{p:Program}(hp:∀ f∈p.Funcs,f.Params.length≤9223372036854775807)(l:aT):∃ e,nD p l=some e∧(jY p≠0→e=jY p)∧(jY p=0→(e=0↔eS p l.Vars l.Funcs)∧(e=0∨e=1)):=by
 unfold nD
 rw [CQ hp,Option.bind_some]
 by_cases hc:jY p=0
 ·have h:=CU hc
  have ho:=sN hc
  have hv16:=ho.vars
  have hf5:=ho.funcs
  rw [if_neg (by simp [hc])]
  have any:∀ L:List Level,L.length≤1000→cu L p=some (L.any fun x=>!eA p.aa x):=fun L hL=>
   k3 (fun y=>kE y p) _ L (by omega) (fun y _=>by simp [kE,Ev])
  have sz:∀ L:List Level,(L.any fun x=>!eA p.aa x)=false↔∀ x∈L,br (MM p) x:=fun L=>by
   rw [List.any_eq_false]
   refine forall_congr' fun x=>forall_congr' fun hx=>?_
   have hm:=tk h.jv
   unfold eA br MM
   simp only [Bool.not_eq_true',Bool.not_eq_false,decide_eq_true_eq]
   omega
  have hj:jP p l=some (decide (¬(l.Vars.length=p.Vars.length∧l.Funcs.length=p.Funcs.length))||(l.Vars.any fun x=>!eA p.aa x)||(l.Funcs.any fun x=>!eA p.aa x)):=by
   unfold jP
   by_cases h1:l.Vars.length=p.Vars.length
   ·rw [if_neg (by simp [h1])]
    by_cases h2:l.Funcs.length=p.Funcs.length
    ·rw [if_neg (by simp [h2]),any _ (by omega),any _ (by omega),Option.bind_some,Option.bind_some]
     cases (l.Vars.any fun x=>!eA p.aa x)<;>simp [h1,h2]
    ·rw [if_pos (by simp;omega)];simp [h2]
   ·rw [if_pos (by simp;omega)];simp [h1]
  rw [hj,Option.bind_some]
  have key:(decide (¬(l.Vars.length=p.Vars.length∧l.Funcs.length=p.Funcs.length))||(l.Vars.any fun x=>!eA p.aa x)||(l.Funcs.any fun x=>!eA p.aa x))=false↔eS p l.Vars l.Funcs:=by
   rw [Bool.or_eq_false_iff,Bool.or_eq_false_iff,sz,sz,decide_eq_false_iff_not,Classical.not_not]
   exact ⟨fun ⟨⟨⟨a,b⟩,c⟩,d⟩=>⟨a,b,c,d⟩,fun r=>⟨⟨⟨r.vl,r.fl⟩,r.vs⟩,r.fs⟩⟩
  generalize (decide (¬(l.Vars.length=p.Vars.length∧l.Funcs.length=p.Funcs.length))||(l.Vars.any fun x=>!eA p.aa x)||(l.Funcs.any fun x=>!eA p.aa x))=z at key
  cases z with
  | true=>exact ⟨1,by rw [if_pos rfl],fun hn=>absurd hc hn,fun _=>⟨⟨fun h1=>absurd h1 (by decide),fun r=>by simpa using key.2 r⟩,.inr rfl⟩⟩
  | false=>exact ⟨0,by rw [if_neg (by simp)],fun hn=>absurd hc hn,fun _=>⟨⟨fun _=>key.1 rfl,fun _=>rfl⟩,.inl rfl⟩⟩
 ·rw [if_pos (by simpa using hc)]
  exact ⟨_,rfl,fun _=>rfl,fun h0=>absurd h0 hc⟩
theorem EL{p:Program}(hp:∀ f∈p.Funcs,f.Params.length≤9223372036854775807)(hc:jY p=0)(l:aT):∃ b e,jx p l=some (b,e)∧(e=0↔eS p l.Vars l.Funcs)∧(e=0→(b=true↔Fit p l)):=by
 obtain ⟨e,e1,_,e2⟩:=Ii hp l
 have h:=CU hc
 have ho:=sN hc
 have hv16:=ho.vars
 unfold jx
 rw [e1,Option.bind_some]
 by_cases h0:e=0
 ·rw [if_neg (by simp [h0]),if_pos (by omega)]
  have hR:=(e2 hc).1.1 h0
  obtain ⟨a,a1,a2⟩:=EK h ho hR p.Vars 0 true rfl
  obtain ⟨x,b,b1,b2⟩:=Kq h ho hR a
  rw [a1,Option.bind_some,b1,Option.bind_some]
  refine ⟨b,0,rfl,⟨fun _=>hR,fun _=>rfl⟩,fun _=>?_⟩
  rw [b2,a2]
  exact ⟨fun ⟨⟨_,q1⟩,q2⟩=>⟨fun j v q=>q1 j v q (Nat.zero_le _),q2⟩,fun ⟨q1,q2⟩=>⟨⟨rfl,fun j v q _=>q1 j v q⟩,q2⟩⟩
 ·rw [if_pos (by simpa using h0)]
  exact ⟨false,e,rfl,(e2 hc).1,fun hh=>absurd hh h0⟩
end Go.Proofs.Ytkkkkondjclcnaa.A
