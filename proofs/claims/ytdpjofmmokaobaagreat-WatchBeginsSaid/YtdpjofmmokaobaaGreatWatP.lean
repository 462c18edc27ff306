/- Watched runs: levels of expressions; what may become something. -/
import Derived.Test.YtdpjofmmokaobaaGreatRunP
import Derived.Test.YtdpjofmmokaobaaGreatLvlF
set_option linter.unusedSectionVars false
set_option linter.unusedVariables false
set_option linter.unusedSimpArgs false
namespace Go.Proofs.YtdpjofmmokaobaaGreat.A
open Go
structure oR(p:Program):Prop where
 iB:fH p.ah=0
 speak:∀ n∈p.Speak,dc p.ah.Many n=true
 few:(p.Speak.length:Int)≤p.ah.Many
 ins:∀ l∈p.Ins,gy p.ah.Many l=0
 outs:∀ l∈p.Outs,gy p.ah.Many l=0
 vars:∀ v∈p.Vars,gy p.ah.Many v.Label=0
variable [Lp]
theorem Tc{p:Program}(h:iN p=0):oR p:=by
 unfold iN at h
 by_cases h1:oy p=0
 ·unfold oy at h1
  by_cases a1:fH p.ah=0
  ·rw [if_neg (by simp [a1])] at h1
   split at h1
   ·exact absurd h1 (by decide)
   ·rename_i a2
    split at h1
    ·exact absurd h1 (by decide)
    ·rename_i a3
     split at h1
     ·rename_i a4;exact absurd h1 a4
     ·rename_i a4
      split at h1
      ·rename_i a5;exact absurd h1 a5
      ·rename_i a5
       have g4:=mB (Decidable.not_not.1 a4)
       have g5:=mB (Decidable.not_not.1 a5)
       refine ⟨a1,fun n hn=>?_,by omega,fun l hl=>g4 l (List.mem_append_left _ hl),fun l hl=>g4 l (List.mem_append_right _ hl),fun v hv=>g5 v hv⟩
       cases hi:dc p.ah.Many n with
       | true=>rfl
       | false=>exact absurd (List.any_eq_true.2 ⟨n,hn,by simp [hi]⟩) a3
  ·rw [if_pos a1] at h1;exact absurd h1 a1
 ·rw [if_pos h1] at h;exact absurd h h1
abbrev MM(p:Program):Nat:=p.ah.Many.toNat
theorem oR.small{p:Program}(h:oR p):MM p≤1000000:=by have:=Ed h.iB;unfold MM;omega
mutual
theorem EM:∀ (e:aE),∀ n∈pQ e,∃ x∈ko e,x.Kind=2∧x.N=n
 | ⟨k,m,args⟩,n,hn=>by
  have hr:n∈pE args→∃ x∈ko ⟨k,m,args⟩,x.Kind=2∧x.N=n:=fun hn=>by
   obtain ⟨x,hx,h⟩:=CW args n hn
   exact ⟨x,by rw [tJ];exact List.mem_cons_of_mem _ hx,h⟩
  rw [pQ] at hn
  split at hn
  ·rename_i hk
   rcases List.mem_cons.1 hn with rfl | hn
   ·exact ⟨⟨k,n,args⟩,by rw [tJ];simp,hk,rfl⟩
   ·exact hr hn
  ·exact hr hn
theorem CW:∀ (l:List aE),∀ n∈pE l,∃ x∈e9 l,x.Kind=2∧x.N=n
 | [],n,hn=>by rw [pE] at hn;cases hn
 | e::r,n,hn=>by
  rw [pE] at hn
  rcases List.mem_append.1 hn with hn | hn
  ·obtain ⟨x,hx,h⟩:=EM e n hn
   exact ⟨x,by rw [e9];exact List.mem_append_left _ hx,h⟩
  ·obtain ⟨x,hx,h⟩:=CW r n hn
   exact ⟨x,by rw [e9];exact List.mem_append_right _ hx,h⟩
end
theorem GM{p:Program}{e:aE}(h:da p e=0):∀ n∈pQ e,0≤n∧n.toNat<p.Vars.length:=fun n hn=>by
 obtain ⟨x,hx,hk,rfl⟩:=EM e n hn
 have:=(Ba (Gu h x hx)).2.2.2.2 hk
 omega
def qO(n:Nat):Level:=⟨List.replicate n true,List.replicate n false⟩
theorem zD(n:Nat):dY n (qO n):=by simp [dY,qO]
theorem zE{p:Program}(h:oR p):jw p.ah=some (qO (MM p)):=by
 have hm:=Ed h.iB
 unfold jw Jh
 rw [if_pos (by omega),Option.bind_some,cj (by omega),Option.bind_some,if_pos (by omega)]
 rfl
theorem Oi{p:Program}(h:oR p){vars:List Level}(hs:∀ l∈vars,dY (MM p) l):∀ (ns:List Int)(v:Level),dY (MM p) v→(∀ n∈ns,0≤n∧n.toNat<vars.length)→∃ l,wX vars ns v=some l∧dY (MM p) l
 | [],v,hv,_=>⟨v,rfl,hv⟩
 | n::ns,v,hv,hn=>by
  obtain ⟨h0,h1⟩:=hn n (by simp)
  rw [wX,cj h0,Option.bind_some,List.getElem?_eq_getElem h1,Option.bind_some,CV h.small hv (hs _ (List.getElem_mem h1)),Option.bind_some]
  exact Oi h hs ns _ (xX _ _ _) fun m hm=>hn m (by simp [hm])
theorem Nb{p:Program}(h:oR p){vars:List Level}(hl:vars.length=p.Vars.length)(hs:∀ l∈vars,dY (MM p) l){e:aE}(he:da p e=0):∃ l,pR p vars e=some l∧dY (MM p) l:=by
 unfold pR
 rw [zE h,Option.bind_some]
 exact Oi h hs _ _ (zD _) fun n hn=>by rw [hl];exact GM he n hn
def dQ(p:Program):aw:=⟨p,allRows (MM p) p.ah.Grants⟩
theorem O9{p:Program}(h:oR p){o:Int}(ho:dc p.ah.Many o=true):∃ b,kh (dQ p) o=some b:=by
 have hm:=Ed h.iB
 have hf:=h.few
 obtain ⟨o1,o2⟩:=rS.1 ho
 have hl:(dQ p).p.Speak.length≤6:=by show p.Speak.length≤6;omega
 obtain ⟨x,hx,_⟩:=fU (B:=fun v=>cI (dQ p).p.Speak (dQ p) o v) (fun v=>(dQ p).p.Speak.length - v) (fun v=>v≤(dQ p).p.Speak.length) (fun _=>True) (by
  intro v hv
  unfold cI lD
  by_cases hlt:v<(dQ p).p.Speak.length
  ·have hn:=h.speak _ (List.getElem_mem hlt)
   obtain ⟨n1,n2⟩:=rS.1 hn
   have hMM:((MM p:Nat):Int)=p.ah.Many:=Int.toNat_of_nonneg (by omega)
   rw [if_pos (by omega),List.getElem?_eq_getElem hlt,Option.bind_some,cj n1,Option.bind_some]
   have hr:(dQ p).iB[((dQ p).p.Speak[v]).toNat]? =some (eR (MM p) p.ah.Grants ((dQ p).p.Speak[v]).toNat):=wm (by omega)
   rw [hr,Option.bind_some,cj o1,Option.bind_some,Ec (by omega),Option.bind_some,Option.bind_some]
   simp only
   split
   ·exact .inl ⟨_,rfl,trivial⟩
   ·rw [if_pos (pK v (by omega))]
    exact .inr ⟨_,rfl,by omega,by omega⟩
  ·rw [if_neg (by omega)]
   exact .inl ⟨_,rfl,trivial⟩) 0 (Nat.zero_le _)
 unfold kh dx dO
 rw [hx]
 cases x<;>exact ⟨_,rfl⟩
theorem Iy{p:Program}(h:oR p){l:List bC}(hl:rR p.ah.Many l=0):∃ b,dS (dQ p) l=some b:=by
 obtain ⟨l4,lo⟩:=ur hl
 obtain ⟨x,hx,_⟩:=fU (B:=fun v=>cJ l (dQ p) v) (fun v=>l.length - v) (fun v=>v≤l.length) (fun _=>True) (by
  intro v hv
  unfold cJ lH
  by_cases hlt:v<l.length
  ·have ho:=(CF (lo _ (List.getElem_mem hlt))).1
   obtain ⟨b,hb⟩:=O9 h ho
   rw [if_pos (by omega),List.getElem?_eq_getElem hlt,Option.bind_some,hb,Option.bind_some,Option.bind_some]
   simp only
   split
   ·exact .inl ⟨_,rfl,trivial⟩
   ·rw [if_pos (pK v (by omega))]
    exact .inr ⟨_,rfl,by omega,by omega⟩
  ·rw [if_neg (by omega)]
   exact .inl ⟨_,rfl,trivial⟩) 0 (Nat.zero_le _)
 unfold dS dy dP
 rw [hx]
 cases x<;>exact ⟨_,rfl⟩
theorem xY{p:Program}{n:Int}(h0:0≤n)(h1:n.toNat<p.Vars.length):∃ v,Af (dQ p) n=some v∧v∈p.Vars:=by
 unfold Af
 rw [cj h0,Option.bind_some]
 exact ⟨_,List.getElem?_eq_getElem h1,List.getElem_mem h1⟩
theorem JB{p:Program}(h:oR p){s:Stmt}(hv:0≤s.Var∧s.Var<p.Vars.length)(he:da p s.Expr=0):∃ b,e6 (dQ p) s=some b:=by
 have hgo:∀ ns:List Int,(∀ n∈ns,0≤n∧n.toNat<p.Vars.length)→∃ b,rC (dQ p) ns=some b:=by
  intro ns
  induction ns with
  | nil=>intro _;exact ⟨_,rfl⟩
  | cons n ns ih=>
   intro hn
   obtain ⟨v,h1,h2⟩:=xY (hn n (by simp)).1 (hn n (by simp)).2
   obtain ⟨b,hb⟩:=Iy h (uu (h.vars v h2)).1
   rw [rC,h1,Option.bind_some,hb,Option.bind_some]
   split
   ·exact ih fun m hm=>hn m (by simp [hm])
   ·exact ⟨_,rfl⟩
 unfold e6
 split
 ·obtain ⟨v,h1,h2⟩:=xY (p:=p) hv.1 (by omega)
  obtain ⟨b,hb⟩:=Iy h (uu (h.vars v h2)).2
  rw [h1,Option.bind_some,hb]
  exact ⟨_,rfl⟩
 ·exact hgo _ (GM he)
theorem JC{p:Program}(h:oR p){s:Stmt}(hv:0≤s.Var∧s.Var<p.Vars.length)(he:da p s.Expr=0):∃ b,e5 (dQ p) s=some b:=by
 have hgo:∀ ns:List Int,(∀ n∈ns,0≤n∧n.toNat<p.Vars.length)→∃ b,rA (dQ p) ns=some b:=by
  intro ns
  induction ns with
  | nil=>intro _;exact ⟨_,rfl⟩
  | cons n ns ih=>
   intro hn
   obtain ⟨v,h1,h2⟩:=xY (hn n (by simp)).1 (hn n (by simp)).2
   rw [rA,h1,Option.bind_some]
   split
   ·exact ih fun m hm=>hn m (by simp [hm])
   ·exact ⟨_,rfl⟩
 unfold e5
 split
 ·obtain ⟨v,h1,h2⟩:=xY (p:=p) hv.1 (by omega)
  rw [h1]
  exact ⟨_,rfl⟩
 ·exact hgo _ (GM he)
def cP(p:Program)(vars places:List Level):ak:=⟨(),p,vars,places,()⟩
structure WV(p:Program)(vars places:List Level):Prop where
 len:vars.length=p.Vars.length
 sz:∀ l∈vars,dY (MM p) l
 ne:0<places.length
 few:places.length≤3000
 psz:∀ l∈places,dY (MM p) l
 known:∀ (i:Nat)(v:Var)(l:Level),p.Vars[i]? =some v→v.Known=true→vars[i]? =some l→qN (MM p) l (mH p.ah v.Label)=true
section
variable {p:Program}(h:oR p){vars places:List Level}(hw:WV p vars places)(c1:Runner)(c2:aw)
include hw
theorem zF:∃ l,dC (cP p vars places) c1 c2=some l∧dY (MM p) l:=by
 have h1:=hw.ne
 have h2:=hw.few
 have hw1:IntKind.i64.wrap ((places.length:Int) - 1)=(places.length:Int) - 1:=jQ (by omega) (by omega)
 have hn1:cX ((places.length:Int) - 1)=some ((places.length:Int) - 1).toNat:=cj (by omega)
 unfold dC
 have hw2:IntKind.i64.wrap (((cP p vars places).places.length:Int) - 1)=((cP p vars places).places.length:Int) - 1:=hw1
 have hn2:cX (((cP p vars places).places.length:Int) - 1)=some ((places.length:Int) - 1).toNat:=hn1
 rw [if_pos hw2,hn2,Option.bind_some]
 simp only [cP]
 rw [List.getElem?_eq_getElem (by omega),Option.bind_some]
 exact ⟨_,rfl,hw.psz _ (List.getElem_mem _)⟩
include h
theorem xh{e:aE}(he:da p e=0):∃ l,dj (cP p vars places) c1 c2 e=some l∧dY (MM p) l:=by
 obtain ⟨l1,h1,s1⟩:=zF hw c1 c2
 obtain ⟨l2,h2,s2⟩:=Nb h hw.len hw.sz he
 unfold dj
 rw [h1,Option.bind_some]
 simp only [cP]
 rw [h2,Option.bind_some,CV h.small s1 s2,Option.bind_some]
 exact ⟨_,rfl,xX _ _ _⟩
theorem Iz{n:Int}(h0:0≤n)(h1:n<p.Vars.length){l:Level}(hl:dY (MM p) l):∃ b,gj (cP p vars places) c1 c2 n l=some b∧
  (b=true→∀ v,p.Vars[n.toNat]? =some v→v.Known=true→qN (MM p) l (mH p.ah v.Label)=true):=by
 obtain ⟨l1,g1,s1⟩:=zF hw c1 c2
 have hlt:n.toNat<p.Vars.length:=by omega
 have hlt2:n.toNat<vars.length:=by rw [hw.len];exact hlt
 unfold gj
 rw [g1,Option.bind_some,cj h0,Option.bind_some]
 simp only [cP]
 rw [List.getElem?_eq_getElem hlt2,Option.bind_some,Ah h.small s1 (hw.sz _ (List.getElem_mem hlt2)),Option.bind_some]
 split
 ·rw [List.getElem?_eq_getElem hlt,Option.bind_some]
  split
  ·rw [JA _ h.iB _ (h.vars _ (List.getElem_mem hlt)),Option.bind_some,Ah h.small hl (rV _ _),Option.bind_some]
   refine ⟨_,rfl,fun hb v hv hk=>?_⟩
   obtain rfl:=Option.some.inj hv
   exact hb
  ·rename_i hk
   refine ⟨_,rfl,fun _ v hv hk'=>?_⟩
   obtain rfl:=Option.some.inj hv
   exact absurd hk' hk
 ·exact ⟨_,rfl,fun hb=>by cases hb⟩
omit h
theorem WV.put{n:Nat}{l:Level}(hl:dY (MM p) l)(hk:∀ v,p.Vars[n]? =some v→v.Known=true→qN (MM p) l (mH p.ah v.Label)=true):WV p (vars.set n l) places:=
 ⟨by rw [List.length_set];exact hw.len,fun x hx=>(List.mem_or_eq_of_mem_set hx).elim (hw.sz x) fun e=>e▸hl,hw.ne,hw.few,hw.psz,fun i v x hv hkn hx=>by
  rw [List.getElem?_set] at hx
  split at hx
  ·rename_i e
   subst e
   split at hx
   ·obtain rfl:=Option.some.inj hx
    exact hk v hv hkn
   ·cases hx
  ·exact hw.known i v x hv hkn hx⟩
include h
theorem Ai{n:Int}(h0:0≤n)(h1:n<p.Vars.length){l:Level}(hl:dY (MM p) l):∃ b vars',dT (cP p vars places) c1 c2 n l=some (b,cP p vars' places)∧WV p vars' places:=by
 obtain ⟨b,g1,g2⟩:=Iz h hw c1 c2 h0 h1 hl
 unfold dT
 rw [g1,Option.bind_some]
 cases b with
 | false=>exact ⟨_,_,rfl,hw⟩
 | true=>
  rw [if_pos rfl,cj h0,Option.bind_some]
  simp only [cP]
  rw [List.getElem?_eq_getElem (by rw [hw.len];omega),Option.bind_some]
  exact ⟨_,_,rfl,hw.put hl (g2 rfl)⟩
theorem GN{e:aE}(he:da p e=0)(hf:places.length+1≤3000):∃ l,fJ (cP p vars places) c1 c2 e=some (cP p vars (places++[l]))∧WV p vars (places++[l]):=by
 obtain ⟨l,g1,s1⟩:=xh h hw c1 c2 he
 unfold fJ
 rw [g1,Option.bind_some,if_pos (by simp only [cP,List.length_singleton];omega)]
 exact ⟨l,rfl,hw.len,hw.sz,by simp,by simp;omega,fun x hx=>(List.mem_append.1 hx).elim (hw.psz x) fun e=>by rw [List.mem_singleton.1 e];exact s1,hw.known⟩
end
end Go.Proofs.YtdpjofmmokaobaaGreat.A
