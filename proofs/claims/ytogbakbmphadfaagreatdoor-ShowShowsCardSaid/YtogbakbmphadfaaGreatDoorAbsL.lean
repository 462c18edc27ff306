/- Regions whose order is drawn: each step, and the whole. -/
import Derived.Test.YtogbakbmphadfaaGreatDoorAbsK
set_option linter.unusedSectionVars false
set_option linter.unusedVariables false
set_option linter.unusedSimpArgs false
set_option linter.constructorNameAsVariable false
namespace Go.Proofs.YtogbakbmphadfaaGreatDoor.A
open Go
variable [bJ]
def Gx:lJ→Bool
 | .al _=>true
 | .bs _ _ _=>true
 | .ms _ _ _ _ _=>true
 | .ap _ _ _ _ _=>true
 | _=>false
def bR(p:bI):Bool:=
 match p.p.o with
 | .bx _=>false
 | .c2 _ _=>false
 | .d2 _ _=>false
 | .cn _ _=>false
 | .cr _ _ _=>false
 | .cw _ _ _=>false
 | .vi _ _ _=>false
 | .ch _ _ _ _ _=>false
 | .bz _ _ _=>false
 | .lz _=>false
 | .pe _ _ _=>false
 | .cp _ _ _ _=>false
 | .aq _ _ _=>false
 | .sb _ _=>false
 | .tx _=>false
 | .sz _ _=>false
 | .xw _ _=>false
 | .sw _ _ _=>false
 | .lw _ _=>false
 | .sp _ _=>false
 | .st _ _ y=>p.p.d==none&&(p.cs==[]||match y with
  | .t m=>p.cs==[m]
  | .c _=>false)
 | .ap _ _ _ x _=>match x with
  | .t m=>p.cs==[m]||p.cs==[m,m]
  | .c _=>p.cs==[]
 | _=>p.cs==[]
structure im(dp:Nat)(s:St)(h:Nat):Prop where
 fr:∀ d,(an s.fr d).bn ⟨dp,h⟩=true∧(an s.fr d).cG (.s h)=false
 cs:∀ d cs,az s.bx d=some cs→∀ c∈cs,c.bn ⟨dp,h⟩=true
theorem im.of{dp:Nat}{s:St}{h:Nat}(hf:ez dp s h=true):im dp s h:=by
 simp only [ez,Bool.and_eq_true] at hf
 refine ⟨fun d=>?_,fun d cs hb c hc=>jY (ka _ hf.2 d cs hb) c hc⟩
 have:=jj (p:=fun y=>y.bn ⟨dp,h⟩&&!y.cG (.s h)) rfl _ hf.1.2 d
 simpa using this
theorem im.se{dp:Nat}{s s':St}{h:Nat}(hf:im dp s h)(hs:Se s s'):im dp s' h:=
 ⟨fun d=>by rw [←hs.fr];exact hf.fr d,fun d cs hb=>hf.cs d cs (by rw [hs.bx];exact hb)⟩
def nA(dp:Nat)(s:St)(h:Nat):Prop:=∀ d,fG ⟨dp,h⟩ (an s.fr d)=false
theorem nA.se{dp:Nat}{s s':St}{h:Nat}(hf:nA dp s h)(hs:Se s s'):nA dp s' h:=fun d=>by rw [←hs.fr];exact hf d
theorem Ll{k:Key}{off:Nat}{x:AV}(h:x.cG (.c k off)=true):fG k x=true:=by
 cases x with
 | r pl=>
   have:pl= .c k off:=by simpa [AV.cG] using h
   subst this;simp [fG]
 | v pl lo len=>
   have:pl= .c k off:=by simpa [AV.cG] using h
   subst this;simp [fG]
 | q pl i sz off'=>
   have:pl= .c k off:=by simpa [AV.cG] using h
   subst this;simp [fG]
 | _=>cases h
section
variable {C:Cx}{s:St}{a:Act}{w:World}{σ:Sp}{o:Oper}{R:Rec}{Ω:cI}
theorem De(p:bI)(s:St)(dp:Nat):Le dp (view p s) s:=by
 refine ⟨wi s.fr p.vw,fun k cs hk=>?_⟩
 by_cases hd:k.dp=dp
 ·simp only [St.box,view,hd,if_true] at hk ⊢
  exact b8 hk
 ·simp only [St.box,view,if_neg hd] at hk ⊢
  split at hk
  ·exact hk
  ·cases hk
theorem Bn{p:bI}{r:AV×St}(h1:n7 p.p.o=false)(h2:eU p=false):effect p r=⟨fZ p.p.d (eh p.p.fz r.1)++p.cs.map (fun m=>(m,.u)),[],[],none⟩:=by
 unfold effect
 split
 ·rename_i ho;rw [ho] at h1;cases h1
 ·rename_i ho;simp [eU,ho,n6] at h2
 ·rename_i ho
  have:(p.cs.length==2)=false:=by simpa [eU,iQ,ho,n6] using h2
  simp [this]
 ·rfl
theorem JW(d:Option Nat)(x:AV)(s:St)(d':Nat):an (fZ d x++s.fr) d'=an (A.put s d x).fr d':=by cases d<;>rfl
theorem kH(cs:List Nat)(fr:List (Nat×AV))(d:Nat):an (cs.map (fun m=>(m,AV.u))++fr) d=if d∈cs then .u else an fr d:=by
 induction cs with
 | nil=>simp
 | cons c cs ih=>
  simp only [List.map_cons,List.cons_append,an,List.mem_cons,ih]
  by_cases h:c=d
  ·subst h;simp
  ·have h':¬d=c:=fun e=>h e.symm
   simp [h,h']
theorem finish{p:bI}{q:bm}{x:AV}{s':St}{K:Act→World→Prop}{Q:Exit→Act→World→Prop}(hdst:o.dst=p.p.d)(hd:∀ dd,p.p.d=some dd→dd<C.nt)(hsim:b6 C o p.p.d a w σ s' x)
  (hfr:∀ d',an (q.app s).fr d'= .u∨an (q.app s).fr d'=an (A.put s' p.p.d (eh p.p.fz x)).fr d') (hbx:∀ k cs,(q.app s).box C.E.dp k=some cs→s'.box C.E.dp k=some cs)
  (hhp:∀ k cs,k.dp≠C.E.dp→(q.app s).hp k=some cs→s'.hp k=some cs) (hK:∀ a' w' σ',dA C w σ w' σ'→ah C (q.app s) a' w' σ'→K a' w'):o.wp C.P a w K Q:=by
 refine hsim _ _ fun cv w' σ' hop=>?_
 obtain ⟨σ'',hs,hc⟩:=hop.Rk hd p.p.fz
 rw [hdst]
 refine hK _ _ _ hs (hc.yA hfr (fun k cs hk=>?_) (fun k cs hk hc=>?_))
 ·have:=hbx k cs hk
  cases p.p.d<;>exact this
 ·have:=hhp k cs hk hc
  cases p.p.d<;>exact this
theorem zY{dp:Nat}{p:bI}{s:St}{k:Key}{cs nw:List AV}(fr:List (Nat×AV))(hb:(view p s).box dp k=some cs) :
  (∀ k' cs',((⟨fr,[],cg ((view p s).aL dp k nw).bx p.vb,if p.vh=true then some ((view p s).aL dp k nw).hp else none⟩:bm).app s).box dp k'=some cs'→(s.aL dp k nw).box dp k'=some cs')∧
  (∀ k' cs',k'.dp≠dp→((⟨fr,[],cg ((view p s).aL dp k nw).bx p.vb,if p.vh=true then some ((view p s).aL dp k nw).hp else none⟩:bm).app s).hp k'=some cs'→(s.aL dp k nw).hp k'=some cs'):=by
 have hb':=(De p s dp).bx k cs hb
 refine ⟨fun k' cs' hk'=>?_,fun k' cs' hkd hk'=>?_⟩
 ·rw [jU hb']
  by_cases hkd':k'.dp=dp
  ·simp only [St.box,hkd',if_true,bm.app,List.nil_append,nz] at hk'
   by_cases hkd:k.dp=dp
   ·simp only [St.aL,hkd,if_true] at hk'
    by_cases hkk:k'=k
    ·subst hkk
     rw [if_pos rfl]
     have hvb:az (view p s).bx k'.d=some cs:=by simpa [St.box,hkd] using hb
     have hin:k'.d∈p.vb:=by
      have:∀ ks,az (cg s.bx ks) k'.d=some cs→k'.d∈ks:=by
       intro ks hks
       refine uk s.bx ks ?_
       apply Classical.byContradiction
       intro hno
       rw [mu hno] at hks;cases hks
      exact this p.vb hvb
     have hkeep:∀ (bx:List (Nat×List AV))(ks:List Nat)(d:Nat),d∈ks→az (cg bx ks) d=az bx d:=by
      intro bx ks d
      induction ks with
      | nil=>intro h;cases h
      | cons c ks ih=>
       intro hm
       simp only [cg]
       cases hc2:az bx c with
       | none=>
        simp only
        rcases List.mem_cons.1 hm with rfl | hm
        ·cases hq2:az (cg bx ks) d with
         | none=>exact hc2.symm
         | some z=>have:=b8 hq2;rw [hc2] at this;cases this
        ·exact ih hm
       | some z=>
        simp only [az]
        by_cases hcd:c=d
        ·subst hcd;rw [if_pos rfl,hc2]
        ·rw [if_neg hcd]
         rcases List.mem_cons.1 hm with rfl | hm
         ·exact absurd rfl hcd
         ·exact ih hm
     rw [hkeep _ _ _ hin,rk,if_pos rfl,hvb] at hk'
     have hsb:az s.bx k'.d=some cs:=by simpa [St.box,hkd] using hb'
     rw [hsb] at hk'
     exact hk'
    ·rw [if_neg hkk]
     have hne:k'.d≠k.d:=fun e=>hkk (by cases k;cases k';simp at hkd hkd' e;rw [hkd,hkd',e])
     simp only [St.box,hkd',if_true]
     cases hq:az (cg (hY (view p s).bx k.d nw) p.vb) k'.d with
     | none=>rw [hq] at hk';exact hk'
     | some z=>
      rw [hq] at hk'
      have h1:=b8 hq
      rw [rk,if_neg hne] at h1
      have h2:az s.bx k'.d=some z:=b8 h1
      rw [h2] at hk' ⊢
      exact hk'
   ·simp only [St.aL,if_neg hkd] at hk'
    have hkk:k'≠k:=fun e=>hkd (e▸hkd')
    rw [if_neg hkk]
    simp only [St.box,hkd',if_true]
    cases hq:az (cg (view p s).bx p.vb) k'.d with
    | none=>rw [hq] at hk';exact hk'
    | some z=>
     rw [hq] at hk'
     have h1:=b8 hq
     have h2:az s.bx k'.d=some z:=b8 h1
     rw [h2] at hk' ⊢
     exact hk'
  ·simp only [St.box,if_neg hkd',bm.app] at hk' ⊢
   by_cases hkd:k.dp=dp
   ·have hkk:k'≠k:=fun e=>hkd' (e▸hkd)
    rw [if_neg hkk]
    simp only [St.aL,hkd,if_true] at hk'
    by_cases hv:p.vh=true
    ·simp only [hv,if_true,Option.getD_some,view] at hk';exact hk'
    ·simp only [if_neg hv,Option.getD_none] at hk';exact hk'
   ·by_cases hv:p.vh=true
    ·simp only [St.aL,if_neg hkd,hv,if_true,Option.getD_some,view,aB] at hk'
     exact hk'
    ·exfalso
     simp only [St.box,if_neg hkd,view,if_neg hv] at hb
     cases hb
 ·by_cases hkd2:k.dp=dp
  ·simp only [St.aL,hkd2,if_true] at hk' ⊢
   by_cases hv:p.vh=true
   ·simp only [bm.app,hv,if_true,Option.getD_some,view] at hk';exact hk'
   ·simp only [bm.app,if_neg hv,Option.getD_none] at hk';exact hk'
  ·simp only [St.aL,if_neg hkd2] at hk' ⊢
   by_cases hv:p.vh=true
   ·simp only [bm.app,hv,if_true,Option.getD_some,view] at hk';exact hk'
   ·exfalso
    simp only [St.box,if_neg hkd2,view,if_neg hv] at hb
    cases hb
theorem ah.No{p:bI}{r:AV×St}{K:Act→World→Prop}{Q:Exit→Act→World→Prop}(hR:kB C.P R)(hΩ:fe C.P Ω)(h:ah C s a w σ)(hlo:aI C.P p.p.o o.op=true)(hdst:o.dst=p.p.d)(hd:∀ dd,p.p.d=some dd→dd<C.nt)
  (hk:bR p=true) (hfree:Gx p.p.o=true→∀ dd,p.p.d=some dd→im C.E.dp s dd) (hlt:gx (view p s) p.p.o=true) (hls:kj C.E.dp p (view p s)=true) (hfb:qp p.p.o p.cs=true→∀ h∈p.vb,nA C.E.dp s h) (hr:execOp R Ω C.E (view p s) p.p.d p.p.o=some r)
  (hK:∀ a' w' σ',dA C w σ w' σ'→ah C ((effect p r).app s) a' w' σ'→K a' w'):o.wp C.P a w K Q:=by
 have hle:=De p s C.E.dp
 have rp:n7 p.p.o=false→eU p=false→∀ s',b6 C o p.p.d a w σ s' r.1→(∀ d',d'∈p.cs∨p.p.d=some d'∨an s.fr d'=an s'.fr d')→(∀ k,s'.box C.E.dp k=s.box C.E.dp k)→s'.hp=s.hp→o.wp C.P a w K Q:=by
  intro h1 h2 s' he hf hb hh
  have he2:=Bn (r:=r) h1 h2
  rw [he2] at hK
  refine finish hdst hd he (fun d'=>?_) (fun k cs hk=>?_) (fun k cs _ hk=>?_) hK
  ·simp only [bm.app,List.append_assoc]
   rw [fW,wu]
   cases hdd:p.p.d with
   | none=>
    rw [if_neg (by simp [o7]),kH]
    by_cases hm:d'∈p.cs
    ·rw [if_pos hm];exact .inl rfl
    ·rw [if_neg hm]
     rcases hf d' with h3 | h3 | h3
     ·exact absurd h3 hm
     ·rw [hdd] at h3;cases h3
     ·exact .inr h3
   | some dd=>
    by_cases hm:d'=dd
    ·subst hm
     rw [if_pos (by simp [o7])]
     exact .inr (by simp [fZ,an,A.put,St.b5])
    ·rw [if_neg (by simp [o7,hm]),kH]
     by_cases hm2:d'∈p.cs
     ·rw [if_pos hm2];exact .inl rfl
     ·rw [if_neg hm2]
      rcases hf d' with h3 | h3 | h3
      ·exact absurd h3 hm2
      ·rw [hdd] at h3;exact absurd (Option.some.inj h3).symm hm
      ·refine .inr ?_
       simp only [A.put,St.b5,an,if_neg (fun e=>hm (Eq.symm e))]
       exact h3
  ·rw [hb];exact hk
  ·rw [hh];exact hk
 have plain:n7 p.p.o=false→eU p=false→∀ s',execOp R Ω C.E s p.p.d p.p.o=some (r.1,s')→(∀ d',d'∈p.cs∨p.p.d=some d'∨an s.fr d'=an s'.fr d')→(∀ k,s'.box C.E.dp k=s.box C.E.dp k)→s'.hp=s.hp→o.wp C.P a w K Q:=
  fun h1 h2 s' he hf hb hh=>rp h1 h2 s' (xU hR hΩ p.p.o h hlo he) hf hb hh
 have hdrop:∀ {dd},p.p.d=some dd→im C.E.dp s dd→∀ d',d'∈p.cs∨p.p.d=some d'∨an s.fr d'=an (s.aT (.s dd)).fr d':=by
  intro dd _ hf d'
  refine .inr (.inr ?_)
  simp only [St.aT,jS,(hf.fr d').2,Bool.false_eq_true,if_false]
 cases hao:p.p.o with
 | bx x=>simp [bR,hao] at hk
 | c2 f args=>simp [bR,hao] at hk
 | d2 x args=>simp [bR,hao] at hk
 | cn f args=>simp [bR,hao] at hk
 | cw t f args=>simp [bR,hao] at hk
 | vi g f args=>simp [bR,hao] at hk
 | ch f args sl dl ow=>simp [bR,hao] at hk
 | bz t off x=>simp [bR,hao] at hk
 | lz x=>simp [bR,hao] at hk
 | pe ng x y=>simp [bR,hao] at hk
 | cp t n off x=>simp [bR,hao] at hk
 | aq t x y=>simp [bR,hao] at hk
 | sb f x=>simp [bR,hao] at hk
 | tx x=>simp [bR,hao] at hk
 | sz x y=>simp [bR,hao] at hk
 | xw x i=>simp [bR,hao] at hk
 | sw n x y=>simp [bR,hao] at hk
 | lw n x=>simp [bR,hao] at hk
 | sp f x=>simp [bR,hao] at hk
 | c3 f args=>
  rw [hao] at hr hlo
  obtain ⟨_,h2⟩:=HI (d:=p.p.d) hR.h h (fun x hx=>hle.ev rfl hx) hle.bx hlo hr
  exact rp (by rw [hao];rfl) (by simp [eU,iQ,hao,n6]) s h2 (fun d'=>.inr (.inr rfl)) (fun _=>rfl) rfl
 | d3 x args=>
  rw [hao] at hr hlo
  obtain ⟨_,h2⟩:=HJ (d:=p.p.d) hR.h h (fun x hx=>hle.ev rfl hx) hle.bx hlo hr
  exact rp (by rw [hao];rfl) (by simp [eU,iQ,hao,n6]) s h2 (fun d'=>.inr (.inr rfl)) (fun _=>rfl) rfl
 | cr t f args=>simp [bR,hao] at hk
 | as x=>
  rw [hao] at hr hlt hlo
  refine plain (by rw [hao];rfl) (by simp [eU,iQ,hao,n6]) s ?_ (fun d'=>.inr (.inr rfl)) (fun _=>rfl) rfl
  rw [hao]
  have hc:((view p s).ev x).copy=true:=hlt
  have hx:=hle.ev rfl (xW hc)
  cases x with
  | c z=>
   simp only [execOp] at hr ⊢
   split at hr
   ·rename_i hp
    obtain rfl:=Option.some.inj hr
    rw [if_pos hp]
   ·cases hr
  | t n=>
   have hx':an s.fr n=an (view p s).fr n:=hx
   simp only [execOp] at hr ⊢
   have hc':(an (view p s).fr n).copy=true:=hc
   rw [hx']
   generalize an (view p s).fr n=y at hr hc'
   cases y<;>first | (simp [AV.copy] at hc';done) | skip
   all_goals
    simp only [hc',Bool.true_or,if_true] at hr ⊢
    obtain rfl:=Option.some.inj hr
    rfl
 | bs t sz es=>
  rw [hao] at hr hlt hlo
  simp only [execOp] at hr
  obtain ⟨dd,hdd,hr1⟩:=Option.bind_eq_some_iff.1 hr
  have hf:=hfree (by rw [hao];rfl) dd hdd
  split at hr1
  ·rename_i hall
   obtain rfl:=Option.some.inj hr1
   refine plain (by rw [hao];rfl) (by simp [eU,iQ,hao,n6]) (s.aT (.s dd)) ?_ (hdrop hdd hf) (fun _=>rfl) rfl
   rw [hao]
   have hm:=hle.map (xs:=es) fun x hx=>by
    have:=List.all_eq_true.1 hall _ (List.mem_map_of_mem hx)
    simp only [Bool.and_eq_true] at this
    exact Rl this.1.1
   simp only [execOp,hdd,Option.bind_some,hm,if_pos hall]
  ·cases hr1
 | ms t sz by_ z n=>
  rw [hao] at hr hlt hlo
  simp only [execOp] at hr
  obtain ⟨dd,hdd,hr1⟩:=Option.bind_eq_some_iff.1 hr
  obtain ⟨m,hm,hr2⟩:=Option.bind_eq_some_iff.1 hr1
  have hf:=hfree (by rw [hao];rfl) dd hdd
  split at hr2
  ·rename_i hc
   obtain rfl:=Option.some.inj hr2
   refine plain (by rw [hao];rfl) (by simp [eU,iQ,hao,n6]) (s.aT (.s dd)) ?_ (hdrop hdd hf) (fun _=>rfl) rfl
   rw [hao]
   simp only [execOp,hdd,Option.bind_some,hle.nat hm,if_pos hc]
  ·cases hr2
 | ap t sz by_ x y=>
  rw [hao] at hr hlt hlo
  simp only [execOp] at hr
  obtain ⟨dd,hdd,hr1⟩:=Option.bind_eq_some_iff.1 hr
  obtain ⟨ys,hys,hr2⟩:=Option.bind_eq_some_iff.1 hr1
  obtain ⟨qq,hqq,hr3⟩:=Option.bind_eq_some_iff.1 hr2
  have hf:=hfree (by rw [hao];rfl) dd hdd
  split at hr3
  ·rename_i hc
   obtain rfl:=Option.some.inj hr3
   have hyu:(view p s).ev y≠.u:=by intro e;rw [e] at hys;cases hys
   by_cases hrc:Bt ((view p s).ev x)=true
   ·
    have h2:(p.cs.length==2)=true:=by
     have:=hls
     simp only [kj,hao,hrc] at this
     simpa using this
    cases x with
    | c z=>
     exfalso
     unfold A.consume at hqq
     cases z<;>first | (simp [St.ev,Bt] at hrc;done) | cases hqq
    | t m=>
     have hcs:p.cs=[m,m]:=by
      have:=hk
      simp only [bR,hao,Bool.or_eq_true,beq_iff_eq] at this
      rcases this with e | e
      ·rw [e] at h2;cases h2
      ·exact e
     have hx:∃ k off,an (view p s).fr m= .r (.c k off):=by
      have h3:Bt (an (view p s).fr m)=true:=hrc
      generalize an (view p s).fr m=z at h3
      cases z<;>first | (cases h3;done) | skip
      rename_i pl
      cases pl with
      | s d=>cases h3
      | c k off=>exact ⟨k,off,rfl⟩
     obtain ⟨k,off,hx⟩:=hx
     unfold A.consume at hqq
     simp only [hx] at hqq
     split at hqq
     ·rename_i hmine
      obtain ⟨rw1,hrow,hq1⟩:=Option.bind_eq_some_iff.1 hqq
      split at hq1
      ·rename_i htt
       obtain ⟨st',hput,hq2⟩:=Option.bind_eq_some_iff.1 hq1
       obtain rfl:=Option.some.inj hq2
       simp only [St.putAt] at hput
       split at hput
       ·rename_i cs0 hb
        obtain rfl:=Option.some.inj hput
        have hb':=hle.bx k cs0 hb
        have hrow':s.rowAt C.E.dp (.c k off)=some rw1:=by
         simp only [St.rowAt,hb] at hrow
         simp only [St.rowAt,hb']
         exact hrow
        have hcon:A.consume C.E s t (.t m)=some (rw1.2,s.aL C.E.dp k (cs0.set off .u)):=by
         simp only [A.consume,hle.slot hx (by simp),if_pos hmine,hrow',Option.bind_some,if_pos htt,St.putAt,hb']
        have hex:execOp R Ω C.E s p.p.d p.p.o=some (.o t (rw1.2++ys.2),(s.aL C.E.dp k (cs0.set off .u)).aT (.s dd)):=by
         rw [hao]
         simp only [execOp,hdd,Option.bind_some,hle.ev (x:=y) rfl hyu,hle.elems hys,hcon,if_pos hc]
        have hsim:=xU hR hΩ p.p.o h (by rw [hao];exact hlo) hex
        have he:∀ r:AV×St,effect p r=⟨fZ p.p.d (eh p.p.fz r.1)++p.cs.map (fun m=>(m,.u)),[],cg r.2.bx p.vb,if p.vh=true then some r.2.hp else none⟩:=by
         intro r
         unfold effect
         simp only [hao,h2,if_true,Bool.true_and]
        rw [he] at hK
        obtain ⟨sb1,sb2⟩:=zY (nw:=cs0.set off .u) (fZ p.p.d (eh p.p.fz (.o t (rw1.2++ys.2)))++p.cs.map (fun m=>(m,AV.u))) hb
        refine finish hdst hd hsim (fun d'=>?_) sb1 sb2 hK
        simp only [bm.app,List.append_assoc]
        rw [fW,wu,hdd]
        by_cases hm:d'=dd
        ·subst hm
         rw [if_pos (by simp [o7])]
         exact .inr (by simp [fZ,an,A.put,St.b5])
        ·rw [if_neg (by simp [o7,hm]),kH]
         split
         ·exact .inl rfl
         ·refine .inr ?_
          simp only [A.put,St.b5,an,if_neg (fun e=>hm (Eq.symm e)),St.aT,jS,kG,(hf.fr d').2,Bool.false_eq_true,if_false]
       ·cases hput
      ·cases hq1
     ·cases hqq
   have hnw:eU p=false:=by
    have:=hls
    simp only [kj,hao,beq_iff_eq] at this
    simp only [eU,iQ,hao,n6,Bool.false_or,←this]
    simpa using hrc
   have hcon:∃ s1:St,A.consume C.E s t x=some (qq.1,s1)∧(∀ d',d'∈p.cs∨an s.fr d'=an s1.fr d')∧(∀ k,s1.box C.E.dp k=s.box C.E.dp k)∧s1.hp=s.hp∧(∀ d',(an s1.fr d').cG (.s dd)=false):=by
    unfold A.consume at hqq
    split at hqq
    ·obtain rfl:=Option.some.inj hqq
     exact ⟨s,rfl,fun _=>.inr rfl,fun _=>rfl,rfl,fun d'=>(hf.fr d').2⟩
    ·cases hqq
    ·rename_i m
     have hcs:m∈p.cs:=by
      have:=hk
      simp only [bR,hao,Bool.or_eq_true,beq_iff_eq] at this
      rcases this with e | e<;>rw [e]<;>simp
     split at hqq
     ·rename_i hx
      obtain rfl:=Option.some.inj hqq
      refine ⟨s,?_,fun _=>.inr rfl,fun _=>rfl,rfl,fun d'=>(hf.fr d').2⟩
      simp only [A.consume,hle.slot hx (by simp)]
     ·rename_i t' es hx
      split at hqq
      ·rename_i htt
       obtain rfl:=Option.some.inj hqq
       refine ⟨s.b5 m .u,?_,fun d'=>?_,fun _=>rfl,rfl,fun d'=>?_⟩
       ·simp only [A.consume,hle.slot hx (by simp),if_pos htt]
       ·rw [iA]
        by_cases hm:m=d'
        ·exact .inl (hm▸hcs)
        ·exact .inr (by rw [if_neg hm])
       ·rw [iA]
        split
        ·rfl
        ·exact (hf.fr d').2
      ·cases hqq
     ·rename_i pl hx
      simp only [gx,St.ev,hx] at hlt
      simp only [Bt,St.ev,hx] at hrc
      cases pl with
      | s d=>cases hlt
      | c k off=>exact absurd rfl hrc
     ·rename_i pl lo len hx
      simp only [gx,St.ev,hx] at hlt
      cases hlt
     ·cases hqq
   obtain ⟨s1,h1,h2,h3,h4,h5⟩:=hcon
   refine plain (by rw [hao];rfl) hnw (s1.aT (.s dd)) ?_ (fun d'=>?_) (fun k=>h3 k) h4
   ·rw [hao]
    simp only [execOp,hdd,Option.bind_some,hle.ev (x:=y) rfl hyu,hle.elems hys,h1,if_pos hc]
   ·rcases h2 d' with h6 | h6
    ·exact .inl h6
    ·refine .inr (.inr ?_)
     simp only [St.aT,jS,h5 d',Bool.false_eq_true,if_false]
     exact h6
  ·cases hr3
 | al zs=>
  rw [hao] at hr hlt hlo
  simp only [execOp] at hr
  obtain ⟨dd,hdd,hr1⟩:=Option.bind_eq_some_iff.1 hr
  have hf:=hfree (by rw [hao];rfl) dd hdd
  split at hr1
  ·obtain rfl:=Option.some.inj hr1
   have he:effect p (.p ⟨C.E.dp,dd⟩ 0,{(view p s) with bx:=(dd,zs)::(view p s).bx})=⟨[(dd,.p ⟨C.E.dp,dd⟩ 0)],[(dd,zs)],[],none⟩:=by
    unfold effect
    rw [hao,hdd]
   rw [he] at hK
   refine finish (s:=s) hdst hd (HF (d:=p.p.d) h hlo hdd (fun d'=>(hf.fr d').1) (fun d' cs' hb c hc=>hf.cs d' cs' hb c hc)) (fun d'=>.inr ?_) (fun k cs hk=>?_) (fun k cs _ hk=>?_) hK
   ·rw [hdd]
    have:eh p.p.fz (.p ⟨C.E.dp,dd⟩ 0)= .p ⟨C.E.dp,dd⟩ 0:=by cases p.p.fz<;>rfl
    rw [this]
    rfl
   ·by_cases hkd:k.dp=C.E.dp
    ·simp only [St.box,bm.app,hkd,if_true,pB,List.cons_append,List.nil_append] at hk ⊢
     exact hk
    ·simp only [St.box,bm.app,if_neg hkd] at hk ⊢
     exact hk
   ·exact hk
  ·cases hr1
 | st n x y=>
  rw [hao] at hr hlt hlo
  have hdn:p.p.d=none:=by
   have:=hk
   simp only [bR,hao,Bool.and_eq_true,beq_iff_eq] at this
   exact this.1
  simp only [gx,Bool.and_eq_true,Bool.or_eq_true] at hlt
  obtain ⟨hyc,hxp⟩:=hlt
  have hyu:(view p s).ev y≠.u:=by
   intro e;rw [e] at hyc;rcases hyc with h | h<;>cases h
  have hy:=hle.ev rfl hyu
  have heff:∀ r:AV×St,effect p r=⟨p.cs.map (fun m=>(m,.u)),[],cg r.2.bx p.vb,if p.vh=true then some r.2.hp else none⟩:=by
   intro r
   unfold effect
   rw [hao]
  simp only [execOp] at hr
  split at hr
  ·rename_i k off hx
   split at hr
   ·rename_i hm
    obtain ⟨cs,hb,hr1⟩:=Option.bind_eq_some_iff.1 hr
    have hb':=hle.bx k cs hb
    split at hr1
    ·rename_i t' es hyy
     have hrow:LB ((view p s).ev y)=true:=by rw [hyy];rfl
     have hls2:=hls
     simp only [kj,hao,hrow,hx,Bool.not_true,Bool.false_or,Bool.and_eq_true,decide_eq_true_eq,beq_iff_eq] at hls2
     obtain ⟨⟨hkd,hvb⟩,hcs⟩:=hls2
     cases y with
     | c z=>cases hcs
     | t m=>
      have hcs':p.cs=[m]:=by simpa using hcs
      have hfb':nA C.E.dp s k.d:=hfb (by rw [hao];simp [qp,hcs']) k.d (by rw [hvb];simp)
      simp only at hr1
      split at hr1
      ·rename_i hc
       obtain rfl:=Option.some.inj hr1
       have hex:execOp R Ω C.E s p.p.d p.p.o=some (.u,((s.b5 m .u).aT (.c k off)).aL C.E.dp k (cs.set off (.o t' es))):=by
        rw [hao]
        simp only [execOp,hle.ev hx (by simp),if_pos hm,hb',Option.bind_some,hy,hyy]
        rw [if_pos hc]
       have hsim:=xU (r:=(.u,((s.b5 m .u).aT (.c k off)).aL C.E.dp k (cs.set off (.o t' es)))) hR hΩ p.p.o h (by rw [hao];exact hlo) hex
       rw [heff,hcs'] at hK
       have hbx0:∀ nw,(((view p s).b5 m .u).aT (.c k off)).aL C.E.dp k nw=({((view p s).aL C.E.dp k nw) with fr:=(((view p s).b5 m .u).aT (.c k off)).fr} : St):=by
        intro nw
        simp only [St.aL,hkd,if_true,St.aT,St.b5]
       rw [hbx0] at hK
       obtain ⟨sb1,sb2⟩:=zY (nw:=cs.set off (.o t' es)) [(m,.u)] hb
       have hbx1:∀ nw k',((((s.b5 m .u).aT (.c k off)).aL C.E.dp k nw).box C.E.dp k')=(s.aL C.E.dp k nw).box C.E.dp k':=by
        intro nw k'
        simp only [St.aL,hkd,if_true,St.aT,St.b5,St.box]
       have hhp1:∀ nw,((((s.b5 m .u).aT (.c k off)).aL C.E.dp k nw).hp)=(s.aL C.E.dp k nw).hp:=by
        intro nw
        simp only [St.aL,hkd,if_true,St.aT,St.b5]
       refine finish hdst hd hsim (fun d'=>?_) (fun k' cs' hk'=>?_) (fun k' cs' hkd' hk'=>?_) hK
       ·rw [hdn]
        simp only [bm.app,A.put,kG,List.map_cons,List.map_nil,List.cons_append,List.nil_append,an]
        by_cases hmd:m=d'
        ·rw [if_pos hmd];exact .inl rfl
        ·rw [if_neg hmd]
         refine .inr ?_
         simp only [St.aT,St.b5,jS,an,if_neg hmd]
         rw [if_neg]
         intro hbor
         have:=hfb' d'
         rw [←hkd] at this
         rw [Ll hbor] at this;cases this
       ·rw [hbx1];exact sb1 k' cs' hk'
       ·rw [hhp1];exact sb2 k' cs' hkd' hk'
      ·cases hr1
    ·rename_i pl lo len hyy
     rw [hyy] at hyc;rcases hyc with h | h<;>cases h
    ·rename_i hyo hyv
     have hyc':((view p s).ev y).copy=true:=by
      rcases hyc with h | h
      ·exact h
      ·exfalso
       generalize (view p s).ev y=z at h hyo
       cases z<;>first | (exact hyo _ _ rfl) | (exact absurd rfl (hyo _ _)) | (cases h;done)
     split at hr1
     ·rename_i hc
      obtain rfl:=Option.some.inj hr1
      have hex:execOp R Ω C.E s p.p.d p.p.o=some (.u,s.aL C.E.dp k (putCells cs off ((view p s).ev y).cl)):=by
       rw [hao]
       simp only [execOp,hle.ev hx (by simp),if_pos hm,hb',Option.bind_some,hy]
       rw [if_pos hc]
      have hsim:=xU (r:=(.u,s.aL C.E.dp k (putCells cs off ((view p s).ev y).cl))) hR hΩ p.p.o h (by rw [hao];exact hlo) hex
      rw [heff] at hK
      obtain ⟨sb1,sb2⟩:=zY (nw:=putCells cs off ((view p s).ev y).cl) (p.cs.map fun m=>(m,AV.u)) hb
      refine finish hdst hd hsim (fun d'=>?_) sb1 sb2 hK
      rw [hdn]
      simp only [bm.app,A.put,kG]
      rw [kH]
      split
      ·exact .inl rfl
      ·exact .inr rfl
     ·cases hr1
   ·cases hr
  ·rename_i hx
   rw [hx] at hxp;cases hxp
  ·cases hr
 | _=>
  have hqk:qk p.p.o=true:=by rw [hao];rfl
  obtain ⟨_,h2⟩:=W3 hle hqk hlt hr
  exact plain (by rw [hao];rfl) (by simp [eU,iQ,hao,n6]) s h2 (fun d'=>.inr (.inr rfl)) (fun _=>rfl) rfl
end
end Go.Proofs.YtogbakbmphadfaaGreatDoor.A
