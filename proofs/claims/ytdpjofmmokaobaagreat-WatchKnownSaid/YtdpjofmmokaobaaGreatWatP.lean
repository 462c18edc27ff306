/- Watched runs: levels of expressions; what may become something. -/
import Derived.Test.YtdpjofmmokaobaaGreatRunP
import Derived.Test.YtdpjofmmokaobaaGreatLvlF
set_option linter.unusedSectionVars false
set_option linter.unusedVariables false
set_option linter.unusedSimpArgs false
set_option linter.constructorNameAsVariable false
namespace Go.Proofs.YtdpjofmmokaobaaGreat.A
open Go
structure nG(p:Program):Prop where
 gh:de p.af=0
 speak:∀ n∈p.Speak,cU p.af.Many n=true
 few:(p.Speak.length:Int)≤p.af.Many
 ins:∀ l∈p.Ins,fB p.af.Many l=0
 outs:∀ l∈p.Outs,fB p.af.Many l=0
 vars:∀ v∈p.Vars,fB p.af.Many v.Label=0
variable [Lp]
theorem J6{p:Program}(h:fV p=0):nG p:=by
 unfold fV at h
 by_cases h1:oc p=0
 ·unfold oc at h1
  by_cases a1:de p.af=0
  ·rw [if_neg (by simp [a1])] at h1
   split at h1
   ·exact absurd h1 (by decide)
   ·rename_i a2
    split at h1
    ·exact absurd h1 (by decide)
    ·rename_i a3
     split at h1
     ·rename_i a4;exact absurd h1 a4
     ·rename_i a4
      split at h1
      ·rename_i a5;exact absurd h1 a5
      ·rename_i a5
       have g4:=l5 (Decidable.not_not.1 a4)
       have g5:=l5 (Decidable.not_not.1 a5)
       refine ⟨a1,fun n hn=>?_,by omega,fun l hl=>g4 l (List.mem_append_left _ hl),fun l hl=>g4 l (List.mem_append_right _ hl),fun v hv=>g5 v hv⟩
       cases hi:cU p.af.Many n with
       | true=>rfl
       | false=>exact absurd (List.any_eq_true.2 ⟨n,hn,by simp [hi]⟩) a3
  ·rw [if_pos a1] at h1;exact absurd h1 a1
 ·rw [if_pos h1] at h;exact absurd h h1
abbrev MM(p:Program):Nat:=p.af.Many.toNat
theorem nG.small{p:Program}(h:nG p):MM p≤1000000:=by have:=wJ h.gh;unfold MM;omega
mutual
theorem D2:∀ (e:aC),∀ n∈pI e,∃ x∈jX e,x.Kind=2∧x.N=n
 | ⟨k,m,args⟩,n,hn=>by
  have hr:n∈pn args→∃ x∈jX ⟨k,m,args⟩,x.Kind=2∧x.N=n:=fun hn=>by
   obtain ⟨x,hx,h⟩:=Cl args n hn
   exact ⟨x,by rw [tj];exact List.mem_cons_of_mem _ hx,h⟩
  rw [pI] at hn
  split at hn
  ·rename_i hk
   rcases List.mem_cons.1 hn with rfl | hn
   ·exact ⟨⟨k,n,args⟩,by rw [tj];simp,hk,rfl⟩
   ·exact hr hn
  ·exact hr hn
theorem Cl:∀ (l:List aC),∀ n∈pn l,∃ x∈eX l,x.Kind=2∧x.N=n
 | [],n,hn=>by rw [pn] at hn;cases hn
 | e::r,n,hn=>by
  rw [pn] at hn
  rcases List.mem_append.1 hn with hn | hn
  ·obtain ⟨x,hx,h⟩:=D2 e n hn
   exact ⟨x,by rw [eX];exact List.mem_append_left _ hx,h⟩
  ·obtain ⟨x,hx,h⟩:=Cl r n hn
   exact ⟨x,by rw [eX];exact List.mem_append_right _ hx,h⟩
end
theorem F5{p:Program}{e:aC}(h:cN p e=0):∀ n∈pI e,0≤n∧n.toNat<p.Vars.length:=fun n hn=>by
 obtain ⟨x,hx,hk,rfl⟩:=D2 e n hn
 have:=(AB (FO h x hx)).2.2.2.2 hk
 omega
def qI(n:Nat):Level:=⟨List.replicate n true,List.replicate n false⟩
theorem za(n:Nat):dv n (qI n):=by simp [dv,qI]
theorem zb{p:Program}(h:nG p):jh p.af=some (qI (MM p)):=by
 have hm:=wJ h.gh
 unfold jh IB
 rw [if_pos (by omega),Option.bind_some,b8 (by omega),Option.bind_some,if_pos (by omega)]
 rfl
theorem Nk{p:Program}(h:nG p){vars:List Level}(hs:∀ l∈vars,dv (MM p) l):∀ (ns:List Int)(v:Level),dv (MM p) v→(∀ n∈ns,0≤n∧n.toNat<vars.length)→∃ l,wz vars ns v=some l∧dv (MM p) l
 | [],v,hv,_=>⟨v,rfl,hv⟩
 | n::ns,v,hv,hn=>by
  obtain ⟨h0,h1⟩:=hn n (by simp)
  rw [wz,b8 h0,Option.bind_some,List.getElem?_eq_getElem h1,Option.bind_some,Ck h.small hv (hs _ (List.getElem_mem h1)),Option.bind_some]
  exact Nk h hs ns _ (xz _ _ _) fun m hm=>hn m (by simp [hm])
theorem Mk{p:Program}(h:nG p){vars:List Level}(hl:vars.length=p.Vars.length)(hs:∀ l∈vars,dv (MM p) l){e:aC}(he:cN p e=0):∃ l,pJ p vars e=some l∧dv (MM p) l:=by
 unfold pJ
 rw [zb h,Option.bind_some]
 exact Nk h hs _ _ (za _) fun n hn=>by rw [hl];exact F5 he n hn
def dJ(p:Program):aw:=⟨p,allRows (MM p) p.af.Grants⟩
theorem Oc{p:Program}(h:nG p){o:Int}(ho:cU p.af.Many o=true):∃ b,jS (dJ p) o=some b:=by
 have hm:=wJ h.gh
 have hf:=h.few
 obtain ⟨o1,o2⟩:=rK.1 ho
 have hl:(dJ p).p.Speak.length≤6:=by show p.Speak.length≤6;omega
 obtain ⟨x,hx,_⟩:=gR (B:=fun v=>cA (dJ p).p.Speak (dJ p) o v) (fun v=>(dJ p).p.Speak.length - v) (fun v=>v≤(dJ p).p.Speak.length) (fun _=>True) (by
  intro v hv
  unfold cA kW
  by_cases hlt:v<(dJ p).p.Speak.length
  ·have hn:=h.speak _ (List.getElem_mem hlt)
   obtain ⟨n1,n2⟩:=rK.1 hn
   have hMM:((MM p:Nat):Int)=p.af.Many:=Int.toNat_of_nonneg (by omega)
   rw [if_pos (by omega),List.getElem?_eq_getElem hlt,Option.bind_some,b8 n1,Option.bind_some]
   have hr:(dJ p).gh[((dJ p).p.Speak[v]).toNat]? =some (eL (MM p) p.af.Grants ((dJ p).p.Speak[v]).toNat):=vM (by omega)
   rw [hr,Option.bind_some,b8 o1,Option.bind_some,DA (by omega),Option.bind_some,Option.bind_some]
   simp only
   split
   ·exact .inl ⟨_,rfl,trivial⟩
   ·rw [if_pos (pA v (by omega))]
    exact .inr ⟨_,rfl,by omega,by omega⟩
  ·rw [if_neg (by omega)]
   exact .inl ⟨_,rfl,trivial⟩) 0 (Nat.zero_le _)
 unfold jS di dH
 rw [hx]
 cases x<;>exact ⟨_,rfl⟩
theorem HN{p:Program}(h:nG p){l:List bw}(hl:rJ p.af.Many l=0):∃ b,dM (dJ p) l=some b:=by
 obtain ⟨l4,lo⟩:=tV hl
 obtain ⟨x,hx,_⟩:=gR (B:=fun v=>cB l (dJ p) v) (fun v=>l.length - v) (fun v=>v≤l.length) (fun _=>True) (by
  intro v hv
  unfold cB k9
  by_cases hlt:v<l.length
  ·have ho:=(B5 (lo _ (List.getElem_mem hlt))).1
   obtain ⟨b,hb⟩:=Oc h ho
   rw [if_pos (by omega),List.getElem?_eq_getElem hlt,Option.bind_some,hb,Option.bind_some,Option.bind_some]
   simp only
   split
   ·exact .inl ⟨_,rfl,trivial⟩
   ·rw [if_pos (pA v (by omega))]
    exact .inr ⟨_,rfl,by omega,by omega⟩
  ·rw [if_neg (by omega)]
   exact .inl ⟨_,rfl,trivial⟩) 0 (Nat.zero_le _)
 unfold dM dj dI
 rw [hx]
 cases x<;>exact ⟨_,rfl⟩
theorem xA{p:Program}{n:Int}(h0:0≤n)(h1:n.toNat<p.Vars.length):∃ v,zG (dJ p) n=some v∧v∈p.Vars:=by
 unfold zG
 rw [b8 h0,Option.bind_some]
 exact ⟨_,List.getElem?_eq_getElem h1,List.getElem_mem h1⟩
theorem IS{p:Program}(h:nG p){s:Stmt}(hv:0≤s.Var∧s.Var<p.Vars.length)(he:cN p s.Expr=0):∃ b,eV (dJ p) s=some b:=by
 have hgo:∀ ns:List Int,(∀ n∈ns,0≤n∧n.toNat<p.Vars.length)→∃ b,rp (dJ p) ns=some b:=by
  intro ns
  induction ns with
  | nil=>intro _;exact ⟨_,rfl⟩
  | cons n ns ih=>
   intro hn
   obtain ⟨v,h1,h2⟩:=xA (hn n (by simp)).1 (hn n (by simp)).2
   obtain ⟨b,hb⟩:=HN h (tW (h.vars v h2)).1
   rw [rp,h1,Option.bind_some,hb,Option.bind_some]
   split
   ·exact ih fun m hm=>hn m (by simp [hm])
   ·exact ⟨_,rfl⟩
 unfold eV
 split
 ·obtain ⟨v,h1,h2⟩:=xA (p:=p) hv.1 (by omega)
  obtain ⟨b,hb⟩:=HN h (tW (h.vars v h2)).2
  rw [h1,Option.bind_some,hb]
  exact ⟨_,rfl⟩
 ·exact hgo _ (F5 he)
theorem IT{p:Program}(h:nG p){s:Stmt}(hv:0≤s.Var∧s.Var<p.Vars.length)(he:cN p s.Expr=0):∃ b,eU (dJ p) s=some b:=by
 have hgo:∀ ns:List Int,(∀ n∈ns,0≤n∧n.toNat<p.Vars.length)→∃ b,rm (dJ p) ns=some b:=by
  intro ns
  induction ns with
  | nil=>intro _;exact ⟨_,rfl⟩
  | cons n ns ih=>
   intro hn
   obtain ⟨v,h1,h2⟩:=xA (hn n (by simp)).1 (hn n (by simp)).2
   rw [rm,h1,Option.bind_some]
   split
   ·exact ih fun m hm=>hn m (by simp [hm])
   ·exact ⟨_,rfl⟩
 unfold eU
 split
 ·obtain ⟨v,h1,h2⟩:=xA (p:=p) hv.1 (by omega)
  rw [h1]
  exact ⟨_,rfl⟩
 ·exact hgo _ (F5 he)
def cE(p:Program)(vars places:List Level):ak:=⟨(),p,vars,places,()⟩
structure WV(p:Program)(vars places:List Level):Prop where
 len:vars.length=p.Vars.length
 sz:∀ l∈vars,dv (MM p) l
 ne:0<places.length
 few:places.length≤3000
 psz:∀ l∈places,dv (MM p) l
 known:∀ (i:Nat)(v:Var)(l:Level),p.Vars[i]? =some v→v.Known=true→vars[i]? =some l→pv (MM p) l (lx p.af v.Label)=true
section
variable {p:Program}(h:nG p){vars places:List Level}(hw:WV p vars places)(c1:Runner)(c2:aw)
include hw
theorem zc:∃ l,dt (cE p vars places) c1 c2=some l∧dv (MM p) l:=by
 have h1:=hw.ne
 have h2:=hw.few
 have hw1:IntKind.i64.wrap ((places.length:Int) - 1)=(places.length:Int) - 1:=mE (by omega) (by omega)
 have hn1:cQ ((places.length:Int) - 1)=some ((places.length:Int) - 1).toNat:=b8 (by omega)
 unfold dt
 have hw2:IntKind.i64.wrap (((cE p vars places).places.length:Int) - 1)=((cE p vars places).places.length:Int) - 1:=hw1
 have hn2:cQ (((cE p vars places).places.length:Int) - 1)=some ((places.length:Int) - 1).toNat:=hn1
 rw [if_pos hw2,hn2,Option.bind_some]
 simp only [cE]
 rw [List.getElem?_eq_getElem (by omega),Option.bind_some]
 exact ⟨_,rfl,hw.psz _ (List.getElem_mem _)⟩
include h
theorem wL{e:aC}(he:cN p e=0):∃ l,da (cE p vars places) c1 c2 e=some l∧dv (MM p) l:=by
 obtain ⟨l1,h1,s1⟩:=zc hw c1 c2
 obtain ⟨l2,h2,s2⟩:=Mk h hw.len hw.sz he
 unfold da
 rw [h1,Option.bind_some]
 simp only [cE]
 rw [h2,Option.bind_some,Ck h.small s1 s2,Option.bind_some]
 exact ⟨_,rfl,xz _ _ _⟩
theorem HO{n:Int}(h0:0≤n)(h1:n<p.Vars.length){l:Level}(hl:dv (MM p) l):∃ b,fW (cE p vars places) c1 c2 n l=some b∧
  (b=true→∀ v,p.Vars[n.toNat]? =some v→v.Known=true→pv (MM p) l (lx p.af v.Label)=true):=by
 obtain ⟨l1,g1,s1⟩:=zc hw c1 c2
 have hlt:n.toNat<p.Vars.length:=by omega
 have hlt2:n.toNat<vars.length:=by rw [hw.len];exact hlt
 unfold fW
 rw [g1,Option.bind_some,b8 h0,Option.bind_some]
 simp only [cE]
 rw [List.getElem?_eq_getElem hlt2,Option.bind_some,wK h.small s1 (hw.sz _ (List.getElem_mem hlt2)),Option.bind_some]
 split
 ·rw [List.getElem?_eq_getElem hlt,Option.bind_some]
  split
  ·rw [F4 _ h.gh _ (h.vars _ (List.getElem_mem hlt)),Option.bind_some,wK h.small hl (pw _ _),Option.bind_some]
   refine ⟨_,rfl,fun hb v hv hk=>?_⟩
   obtain rfl:=Option.some.inj hv
   exact hb
  ·rename_i hk
   refine ⟨_,rfl,fun _ v hv hk'=>?_⟩
   obtain rfl:=Option.some.inj hv
   exact absurd hk' hk
 ·exact ⟨_,rfl,fun hb=>by cases hb⟩
omit h
theorem WV.put{n:Nat}{l:Level}(hl:dv (MM p) l)(hk:∀ v,p.Vars[n]? =some v→v.Known=true→pv (MM p) l (lx p.af v.Label)=true):WV p (vars.set n l) places:=
 ⟨by rw [List.length_set];exact hw.len,fun x hx=>(List.mem_or_eq_of_mem_set hx).elim (hw.sz x) fun e=>e▸hl,hw.ne,hw.few,hw.psz,fun i v x hv hkn hx=>by
  rw [List.getElem?_set] at hx
  split at hx
  ·rename_i e
   subst e
   split at hx
   ·obtain rfl:=Option.some.inj hx
    exact hk v hv hkn
   ·cases hx
  ·exact hw.known i v x hv hkn hx⟩
include h
theorem zI{n:Int}(h0:0≤n)(h1:n<p.Vars.length){l:Level}(hl:dv (MM p) l):∃ b vars',dN (cE p vars places) c1 c2 n l=some (b,cE p vars' places)∧WV p vars' places:=by
 obtain ⟨b,g1,g2⟩:=HO h hw c1 c2 h0 h1 hl
 unfold dN
 rw [g1,Option.bind_some]
 cases b with
 | false=>exact ⟨_,_,rfl,hw⟩
 | true=>
  rw [if_pos rfl,b8 h0,Option.bind_some]
  simp only [cE]
  rw [List.getElem?_eq_getElem (by rw [hw.len];omega),Option.bind_some]
  exact ⟨_,_,rfl,hw.put hl (g2 rfl)⟩
theorem F6{e:aC}(he:cN p e=0)(hf:places.length+1≤3000):∃ l,fE (cE p vars places) c1 c2 e=some (cE p vars (places++[l]))∧WV p vars (places++[l]):=by
 obtain ⟨l,g1,s1⟩:=wL h hw c1 c2 he
 unfold fE
 rw [g1,Option.bind_some,if_pos (by simp only [cE,List.length_singleton];omega)]
 exact ⟨l,rfl,hw.len,hw.sz,by simp,by simp;omega,fun x hx=>(List.mem_append.1 hx).elim (hw.psz x) fun e=>by rw [List.mem_singleton.1 e];exact s1,hw.known⟩
end
end Go.Proofs.YtdpjofmmokaobaaGreat.A
