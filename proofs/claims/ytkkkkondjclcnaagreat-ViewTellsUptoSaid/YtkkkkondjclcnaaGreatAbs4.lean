/- How an abstract state lies in the model: who owns which block of memory. -/
import Derived.Test.YtkkkkondjclcnaaGreatAbs3
import Derived.Test.YtkkkkondjclcnaaGreatGl
import Derived.ChangeKeysEq
import Derived.Laws.StructEq
set_option linter.all false
namespace Go.Proofs.YtkkkkondjclcnaaGreat.A
open Go
inductive dz where
 | box (k:Key)
 | rowS (dp d:Nat)
 | rowC (k:Key) (off:Nat)
 | grp (dp g:Nat)
 | mark (dp:Nat)
deriving DecidableEq
def Pl.pD(dp:Nat):Pl→dz
 | .s d=>.rowS dp d
 | .c k off=>.rowC k off
structure Sp where
 κ:Key→Nat
 ow:Nat→Option dz
 I:Nat→Prop
variable [bJ]
structure fg(P:Program)(W:Nat→Prop)(w:World)(σ:Sp)(L:dz)(wr:Prop)(t:TypeId)(es:List AV)(g cap:Nat)(cs:Array Value):Prop where
 ow:σ.ow g=some L
 wr:wr→W g
 hh:w.heap[g]? =some (.cells cs t (0,0))
 pos:0<P.cellsOf t
 nc:∀ e∈es,e.nc=P.cellsOf t
 ecap:es.length≤cap
 max:cap≤maxLen
 size:cs.size=cap*P.cellsOf t
 pure:∀ e∈es,e.pure=true
 one:∀ e∈es,∀ c∈e.cl,c.one=true
 cell:∀ (j:Nat)(e:AV)(m:Nat)(c:AV),es[j]? =some e→e.cl[m]? =some c→VR w σ.I σ.κ c (cs.getD (j*P.cellsOf t+m) undef)
 base:bJ.n0≤g
def OwnAt(P:Program)(W:Nat→Prop)(w:World)(σ:Sp)(L:dz)(wr:Prop)(t:TypeId)(es:List AV)(v:Value):Prop:=
 (es=[]∧v= .slice none 0 0)∨∃ g cap cs,v= .slice (some ⟨g,0,none⟩) es.length cap∧fg P W w σ L wr t es g cap cs
def pE(W:Nat→Prop)(dp:Nat)(w:World)(σ:Sp)(g:Nat)(t:TypeId)(x:AV)(v:Value):Prop:=
 x.pure=true∧VR w (fun b=>σ.ow b=some (.grp dp g)∧W b∧bJ.n0≤b∧∃ cs,w.heap[b]? =some (.cells cs t (0,0))) σ.κ x v
theorem pE.aP{W W':Nat→Prop}{dp:Nat}{w w':World}{σ σ':Sp}{g:Nat}{t:TypeId}{x:AV}{v:Value}(h:pE W dp w σ g t x v)
  (hb:∀ b,σ.ow b=some (.grp dp g)→w'.heap[b]? =w.heap[b]? ∧σ'.ow b=some (.grp dp g)) (hW:∀ b,W b→W' b):pE W' dp w' σ' g t x v:=
 ⟨h.1,h.2.mono ((by grind)) (fun b h1=>(hb b h1.1).1) (fun k hk=>by rw [lM _ h.1] at hk;cases hk)⟩
structure Cx where
 P:Program
 W:Nat→Prop
 E:Env
 nt:Nat
def fS(w:World)(σ:Sp)(a:Act):Pl→Value
 | .s d=>a.tmps.getD d undef
 | .c k off=>match w.heap[σ.κ k]? with
  | some (.cells vs _ _)=>vs.getD off undef
  | _=>undef
def CR(C:Cx)(w:World)(σ:Sp)(k:Key)(off:Nat)(c:AV)(v:Value):Prop:=
 match c with
 | .o t es=>OwnAt C.P C.W w σ (.rowC k off) ((Pl.c k off).iJ C.E=true) t es v
 | .w g t x=>pE C.W C.E.dp w σ g t x v
 | .bp _ k' u=>k'=k∧v=if u=true then .pointer (some ⟨σ.κ k,off,none⟩) else .pointer none
 | c=>VR w σ.I σ.κ c v
theorem Q5{C:Cx}{w:World}{σ:Sp}{k:Key}{off:Nat}{c:AV}{v:Value}(h:VR w σ.I σ.κ c v):CR C w σ k off c v:=by
 cases c<;>first | exact h | cases h
structure kg(C:Cx)(w:World)(σ:Sp)(k:Key)(cs:List AV)(vs:Array Value)(T:TypeId):Prop where
 hh:w.heap[σ.κ k]? =some (.cells vs T (0,0))
 size:cs.length≤vs.size
 ow:σ.ow (σ.κ k)=some (.box k)
 wr:(Pl.c k 0).iJ C.E=true→C.W (σ.κ k)
 one:∀ c∈cs,c.one=true∨c= .u
 cell:∀ (off:Nat)(c:AV),cs[off]? =some c→CR C w σ k off c (vs.getD off undef)
 ty:∀ t k u,AV.bp t k u∈cs→t=T∧vs.size=cs.length
 kb:(1000000≤k.d→T=(k.d - 1000000) / 1000)∧bJ.n0≤σ.κ k
def wG(C:Cx)(w:World)(σ:Sp)(st:St)(a:Act)(cs:List AV)(rs:List (Nat×Nat))(v:Value):Prop:=
 ∃ vs,v= .agg vs∧cs.length=vs.size∧(∀ c∈cs,c.one=true∨c= .u)∧(∀ (m:Nat)(c:AV),cs[m]? =some c→VR w σ.I σ.κ c (vs.getD m undef))∧
  ∀ q∈rs,(st.rowAt C.E.dp (.s q.2)).isSome=true→vs.getD q.1 undef=a.tmps.getD q.2 undef
theorem wG.to{C:Cx}{w w':World}{σ σ':Sp}{st st':St}{a a':Act}{cs:List AV}{rs:List (Nat×Nat)}{v:Value}(h:wG C w σ st a cs rs v)
  (hV:∀ c∈cs,∀ v,VR w σ.I σ.κ c v→VR w' σ'.I σ'.κ c v) (hR:∀ q∈rs,(st'.rowAt C.E.dp (.s q.2)).isSome=true→(st.rowAt C.E.dp (.s q.2)).isSome=true∧a'.tmps.getD q.2 undef=a.tmps.getD q.2 undef):wG C w' σ' st' a' cs rs v:=by
 obtain ⟨vs,h1,h2,h3,h4,h5⟩:=h
 exact ⟨vs,h1,h2,h3,by grind,by grind⟩
def SR(C:Cx)(w:World)(σ:Sp)(st:St)(a:Act)(d:Nat)(x:AV)(v:Value):Prop:=
 match x with
 | .o t es=>OwnAt C.P C.W w σ (.rowS C.E.dp d) True t es v
 | .r pl=>(st.rowAt C.E.dp pl).isSome=true→v=fS w σ a pl
 | .v pl lo len=>∀ t es,st.rowAt C.E.dp pl=some (t,es)→lo+len≤es.length→
   ∃ A n cap,fS w σ a pl= .slice A n cap∧v= .slice (if cap=lo then A else A.map (·.add (lo*C.P.cellsOf t))) len (cap - lo)
 | .q pl i sz off=>∀ t es,st.rowAt C.E.dp pl=some (t,es)→i<es.length→
   ∃ g n cap,fS w σ a pl= .slice (some ⟨g,0,none⟩) n cap∧v= .pointer (some ⟨g,i*sz+off,none⟩)
 | .w g t x=>pE C.W C.E.dp w σ g t x v
 | .ag cs rs=>wG C w σ st a cs rs v
 | x=>VR w σ.I σ.κ x v
def JC(w:World)(I:Nat→Prop):Prop:=∀ q∈glP,I q.1∧∃ T fz,w.heap[q.1]? =some (.cells q.2 T fz)
theorem JC.aP{w w':World}{I I':Nat→Prop}(h:JC w I)(hI:∀ b,I b→I' b)(hh:∀ b,I b→w'.heap[b]? =w.heap[b]?):JC w' I':=fun q hq=>by
 obtain ⟨h1,T,fz,h2⟩:=h q hq
 grind
def GR(D:Nat):Deferred:={target:=.collected D,args:=#[]}
def Marks(C:Cx)(ds:List Deferred)(w:World)(σ:Sp):Prop:=
 ∃ Ds:List Nat,Ds.Nodup∧ds=Ds.map GR∧∀ D∈Ds,σ.ow D=some (.mark C.E.dp)∧C.W D∧w.heap[D]? =some (.deferred (some []))
theorem Marks.nil{C:Cx}{w:World}{σ:Sp} : Marks C [] w σ:=⟨[],List.nodup_nil,rfl,fun _ h=>by cases h⟩
structure au(C:Cx)(st:St)(a:Act)(w:World)(σ:Sp):Prop where
 size:a.tmps.size=C.nt
 defers:Marks C a.defers w σ
 fr:∀ d,SR C w σ st a d (ax st.fr d) (a.tmps.getD d undef)
 bx:∀ k cs,st.box C.E.dp k=some cs→∃ vs T,kg C w σ k cs vs T
 hpd:∀ k cs,k.dp≠C.E.dp→st.hp k=some cs→k.dp<C.E.dp∧∀ c∈cs,c.deep k.dp=true
 own:∀ b l,σ.ow b=some l→b<w.heap.size
 bT:∀ b,σ.I b→b<w.heap.size∧σ.ow b=none
 new:∀ b,w.heap.size≤b→C.W b∧bJ.n0≤b
 lay:JC w σ.I
structure cM(C:Cx)(w:World)(σ:Sp)(w':World)(σ':Sp):Prop where
 size:w.heap.size≤w'.heap.size
 aP:∀ b,b<w.heap.size→¬C.W b→w'.heap[b]? =w.heap[b]?
 up:∀ b,σ.I b→σ'.I b
 bT:∀ b,σ.I b→w'.heap[b]? =w.heap[b]?
 dn:∀ b,σ'.I b→σ.I b∨C.W b
 kap:∀ k,k.dp<C.E.dp→σ'.κ k=σ.κ k
 ow:∀ b,b<w.heap.size→¬C.W b→σ'.ow b=σ.ow b
 io:w'.os=w.os∧w'.output=w.output
theorem cM.refl(C:Cx)(w:World)(σ:Sp):cM C w σ w σ:=⟨aS _,fun _ _ _=>rfl,fun _ h=>h,fun _ _=>rfl,fun _ h=>.inl h,fun _ _=>rfl,fun _ _ _=>rfl,rfl,rfl⟩
theorem cM.trans{C:Cx}{w w' w'':World}{σ σ' σ'':Sp}(h:cM C w σ w' σ')(h':cM C w' σ' w'' σ''):cM C w σ w'' σ'':=
 ⟨bQ h.size h'.size,fun b hb hW=>(h'.aP b (eb hb h.size) hW).trans (h.aP b hb hW),fun b hb=>h'.up b (h.up b hb),
  fun b hb=>(h'.bT b (h.up b hb)).trans (h.bT b hb),fun b hb=>(h'.dn b hb).elim (fun h1=>h.dn b h1) .inr,
  fun k hk=>(h'.kap k hk).trans (h.kap k hk),fun b hb hW=>(h'.ow b (eb hb h.size) hW).trans (h.ow b hb hW),h'.io.1.trans h.io.1,h'.io.2.trans h.io.2⟩
section
variable {C:Cx}{w w':World}{σ σ':Sp}
theorem fg.aP{L:dz}{wr:Prop}{t:TypeId}{es:List AV}{g cap:Nat}{cs:Array Value}(h:fg C.P C.W w σ L wr t es g cap cs)
  (hg:w'.heap[g]? =w.heap[g]?) (how:σ'.ow g=some L) (hI:∀ b,σ.I b→σ'.I b) (hh:∀ b,σ.I b→w'.heap[b]? =w.heap[b]?):fg C.P C.W w' σ' L wr t es g cap cs:=
 ⟨how,h.wr,hg.trans h.hh,h.pos,h.nc,h.ecap,h.max,h.size,h.pure,h.one,fun j e m c he hc=>(h.cell j e m c he hc).mono hI hh (fun k hk=>by
  have:=lM (k:=k) c (jq (h.pure e (aL he)) c (aL hc))
  grind),h.base⟩
theorem OwnAt.aP{L:dz}{wr:Prop}{t:TypeId}{es:List AV}{v:Value}(h:OwnAt C.P C.W w σ L wr t es v)
  (hg:∀ g,σ.ow g=some L→w'.heap[g]? =w.heap[g]? ∧σ'.ow g=some L) (hI:∀ b,σ.I b→σ'.I b) (hh:∀ b,σ.I b→w'.heap[b]? =w.heap[b]?):OwnAt C.P C.W w' σ' L wr t es v:=by
 rcases h with h | ⟨g,cap,cs,hv,hr⟩
 ·exact .inl h
 ·exact .inr ⟨g,cap,cs,hv,hr.aP (hg g hr.ow).1 (hg g hr.ow).2 hI hh⟩
theorem CR.aP{k:Key}{off:Nat}{c:AV}{v:Value}(h:CR C w σ k off c v)
  (hg:∀ g,σ.ow g=some (.rowC k off)→w'.heap[g]? =w.heap[g]? ∧σ'.ow g=some (.rowC k off)) (hI:∀ b,σ.I b→σ'.I b) (hh:∀ b,σ.I b→w'.heap[b]? =w.heap[b]?)
  (hk:∀ k,c.cC k=false→σ'.κ k=σ.κ k) (hw:∀ b g,σ.ow b=some (.grp C.E.dp g)→w'.heap[b]? =w.heap[b]? ∧σ'.ow b=some (.grp C.E.dp g)):CR C w' σ' k off c v:=by
 cases c with
 | o t es=>exact OwnAt.aP h hg hI hh
 | w g t x=>exact pE.aP h (fun b hb=>hw b g hb) fun _ h=>h
 | bp t k' u=>
  obtain ⟨rfl,h2⟩:=h
  exact ⟨rfl,by grind [AV.cC]⟩
 | _=>exact VR.mono h hI hh hk
structure iE(C:Cx)(w:World)(σ:Sp)(w':World)(σ':Sp)(L:Option dz):Prop where
 blk:∀ b l,σ.ow b=some l→some l≠L→w'.heap[b]? =w.heap[b]? ∧σ'.ow b=some l
 bT:∀ b,σ.I b→w'.heap[b]? =w.heap[b]?
 up:∀ b,σ.I b→σ'.I b
 kap:σ'.κ=σ.κ
 size:w.heap.size≤w'.heap.size
 own:∀ b l,σ'.ow b=some l→b<w'.heap.size
 dn:∀ b,σ'.I b→b<w'.heap.size∧σ'.ow b=none
theorem Marks.same{ds:List Deferred}{M:Option dz}(h:Marks C ds w σ)(hs:iE C w σ w' σ' M)(hM:some (.mark C.E.dp)≠M):Marks C ds w' σ':=by
 obtain ⟨Ds,h0,h1,h2⟩:=h
 refine ⟨Ds,h0,h1,fun D hD=>?_⟩
 obtain ⟨h3,h4,h5⟩:=h2 D hD
 obtain ⟨h6,h7⟩:=hs.blk D _ h3 hM
 grind
theorem OwnAt.same{L:dz}{M:Option dz}{wr:Prop}{t:TypeId}{es:List AV}{v:Value}(h:iE C w σ w' σ' M)(hL:some L≠M)(ho:OwnAt C.P C.W w σ L wr t es v) :
  OwnAt C.P C.W w' σ' L wr t es v:=ho.aP (fun g hg=>h.blk g L hg hL) h.up h.bT
theorem VR.same{M:Option dz}{x:AV}{v:Value}(h:iE C w σ w' σ' M)(hv:VR w σ.I σ.κ x v):VR w' σ'.I σ'.κ x v:=
 hv.mono h.up h.bT fun k _=>by rw [h.kap]
theorem CR.same{M:Option dz}{k:Key}{off:Nat}{c:AV}{v:Value}(h:iE C w σ w' σ' M)(hL:some (.rowC k off)≠M)(hc:CR C w σ k off c v)(hG:∀ g,some (.grp C.E.dp g)≠M:=by simp [Pl.pD]):CR C w' σ' k off c v:=
 hc.aP (fun g hg=>h.blk g _ hg hL) h.up h.bT (fun k _=>by rw [h.kap]) fun b g hb=>h.blk b _ hb (hG g)
theorem pE.same{M:Option dz}{g:Nat}{t:TypeId}{x:AV}{v:Value}(h:iE C w σ w' σ' M)(hG:some (.grp C.E.dp g)≠M)(hw:pE C.W C.E.dp w σ g t x v):pE C.W C.E.dp w' σ' g t x v:=
 hw.aP (fun b hb=>h.blk b _ hb hG) fun _ h=>h
end
theorem qz(d:Nat)(x:AV)(fr:List (Nat×AV))(d':Nat):ax ((d,x)::fr) d'=if d=d' then x else ax fr d':=rfl
theorem mJ(fr:List (Nat×AV))(pl:Pl)(d:Nat) :
  ax (fr.map fun x=>(x.1,if x.2.ji pl=true then .u else x.2)) d=if (ax fr d).ji pl=true then .u else ax fr d:=by
 induction fr with
 | nil=>simp [ax,AV.ji]
 | cons y fr ih=>
  grind [ax]
theorem jT(st:St)(pl:Pl)(d:Nat):(ax (st.aZ pl).fr d).ji pl=false:=by
 unfold St.aZ
 rw [mJ]
 split
 ·rfl
 grind
theorem Nj(dp:Nat)(st:St)(pl p:Pl):(st.aZ pl).rowAt dp p=st.rowAt dp p:=by
 cases p with
 | s d=>
  simp only [St.rowAt,St.aZ,mJ]
  grind [AV.ji]
 | c k off=>rfl
theorem C2(dp:Nat)(st:St)(pl:Pl)(k:Key):(st.aZ pl).box dp k=st.box dp k:=rfl
theorem Fl(a:Act)(d d':Nat)(v:Value)(hd:d<a.tmps.size):(a.put (some d) v).tmps.getD d' undef=if d=d' then v else a.tmps.getD d' undef:=by
 simp only [Act.put,bn,tD]
 grind
section
variable {C:Cx}{st:St}{a:Act}{w:World}{σ:Sp}
theorem Fm{d:Nat}{x:AV}{v:Value}(hx:x.copy=true∨x= .u)(h:VR w σ.I σ.κ x v):SR C w σ st a d x v:=by
 cases x<;>first | exact h | grind [AV.copy]
theorem SR.Bl{d:Nat}{x:AV}{v:Value}(hx:x.copy=true)(h:SR C w σ st a d x v):VR w σ.I σ.κ x v:=by
 cases x<;>first | exact h | (simp [AV.copy] at hx)
theorem SR.Fp{st':St}{a':Act}{d:Nat}{x:AV}{v:Value}(h:SR C w σ st a d x v)
  (hr:∀ pl,x.ji pl=true→(∃ r,st'.rowAt C.E.dp pl=some r)→st'.rowAt C.E.dp pl=st.rowAt C.E.dp pl∧fS w σ a' pl=fS w σ a pl):SR C w σ st' a' d x v:=by
 cases x with
 | r pl=>
  intro hs
  obtain ⟨r,hr'⟩:=gq.1 hs
  obtain ⟨h1,h2⟩:=hr pl (by simp [AV.ji]) ⟨r,hr'⟩
  exact (h (by grind)).trans h2.symm
 | v pl lo len=>
  intro t es ht hl
  obtain ⟨h1,h2⟩:=hr pl (by simp [AV.ji]) ⟨_,ht⟩
  rw [h2]
  exact h t es (h1▸ht) hl
 | q pl i sz off=>
  intro t es ht hl
  obtain ⟨h1,h2⟩:=hr pl (by simp [AV.ji]) ⟨_,ht⟩
  rw [h2]
  exact h t es (h1▸ht) hl
 | ag cs rs=>
  refine wG.to h (fun c _ v hv=>hv) (fun q hq hs=>?_)
  obtain ⟨r,hr'⟩:=gq.1 hs
  obtain ⟨h1,h2⟩:=hr (.s q.2) (lN.2 ⟨q,hq,by simp⟩) ⟨r,hr'⟩
  exact ⟨by grind,h2⟩
 | _=>exact h
theorem au.put{d:Nat}{x:AV}{v:Value}(h:au C st a w σ)(hd:d<C.nt)(hx:SR C w σ st a d x v)
  (hb:∀ t es,x= .o t es→∀ d',(ax st.fr d').ji (.s d)=false):au C (st.cV d x) (a.put (some d) v) w σ:=by
 have hd':d<a.tmps.size:=h.size▸hd
 have hrow:∀ pl,pl≠.s d→(st.cV d x).rowAt C.E.dp pl=st.rowAt C.E.dp pl∧fS w σ (a.put (some d) v) pl=fS w σ a pl:=by
  intro pl hne
  cases pl with
  | s d'=>
   grind [St.rowAt,St.cV,qz,fS,Fl]
  | c k off=>exact ⟨rfl,rfl⟩
 have hself:∀ r,(st.cV d x).rowAt C.E.dp (.s d)=some r→∃ t es,x= .o t es:=by
  grind [St.rowAt,St.cV,qz]
 refine ⟨by simp [Act.put,h.size],(show Marks C (a.put (some d) v).defers w σ from h.defers),fun d'=>?_,h.bx,h.hpd,h.own,h.bT,h.new,h.lay⟩
 rw [Fl a d d' v hd']
 simp only [St.cV,qz]
 split
 ·rename_i hdd
  subst hdd
  refine hx.Fp fun pl hpl ⟨r,hr⟩=>?_
  by_cases hp:pl= .s d
  ·subst hp
   obtain ⟨t,es,rfl⟩:=hself r hr
   simp [AV.ji] at hpl
  ·exact hrow pl hp
 ·refine (h.fr d').Fp fun pl hpl ⟨r,hr⟩=>?_
  by_cases hp:pl= .s d
  ·subst hp
   obtain ⟨t,es,rfl⟩:=hself r hr
   grind
  ·exact hrow pl hp
theorem au.forget{st':St}(h:au C st a w σ)(hfr:∀ d,ax st'.fr d= .u∨ax st'.fr d=ax st.fr d)
  (hbx:∀ k cs,st'.box C.E.dp k=some cs→st.box C.E.dp k=some cs) (hhp:st'.hp=st.hp):au C st' a w σ:=by
 refine ⟨h.size,h.defers,fun d=>?_,fun k cs hk=>h.bx k cs (hbx k cs hk),hhp▸h.hpd,h.own,h.bT,h.new,h.lay⟩
 have hrow:∀ pl r,st'.rowAt C.E.dp pl=some r→st.rowAt C.E.dp pl=some r:=by
  intro pl r hr
  cases pl with
  | s d'=>
   grind [St.rowAt]
  | c k off=>
   grind [St.rowAt]
 rcases hfr d with e | e
 ·rw [e];exact VR.u _
 ·rw [e]
  exact (h.fr d).Fp (by grind)
theorem au.aZ(h:au C st a w σ)(pl:Pl):au C (st.aZ pl) a w σ:=
 h.forget (fun d=>by
  simp only [St.aZ,mJ]
  grind) (fun _ _ h=>h) rfl
structure Idle(C:Cx)(st:St)(L:Option dz):Prop where
 sl:∀ d t es,ax st.fr d= .o t es→some (.rowS C.E.dp d)≠L
 bx:∀ k cs,st.box C.E.dp k=some cs→some (.box k)≠L
 ce:∀ k cs off t es,st.box C.E.dp k=some cs→cs[off]? =some (.o t es)→some (.rowC k off)≠L
 gr:∀ g,some (.grp C.E.dp g)≠L:=by simp
 mrk:some (.mark C.E.dp)≠L:=by simp
theorem Idle.none:Idle C st none:=⟨fun _ _ _ _=>by simp,fun _ _ _=>by simp,fun _ _ _ _ _ _ _=>by simp,fun _=>by simp,by simp⟩
structure ahy(C:Cx)(st:St)(L:Option dz):Prop where
 sl:∀ d t es,ax st.fr d= .o t es→some (.rowS C.E.dp d)≠L
 bx:∀ k cs,st.box C.E.dp k=some cs→some (.box k)≠L
 ce:∀ k cs off t es,st.box C.E.dp k=some cs→cs[off]? =some (.o t es)→some (.rowC k off)≠L
 gr:∀ g,some (.grp C.E.dp g)≠L
theorem au.Q6{w':World}{σ':Sp}{L:Option dz}(h:au C st a w σ)(hs:iE C w σ w' σ' L)(hi:ahy C st L)(hm:Marks C a.defers w' σ'):au C st a w' σ':=by
 have hbox:∀ k cs,st.box C.E.dp k=some cs→w'.heap[σ'.κ k]? =w.heap[σ.κ k]? :=by
  intro k cs hk
  obtain ⟨vs,T,hb⟩:=h.bx k cs hk
  rw [hs.kap]
  exact (hs.blk _ _ hb.ow (hi.bx k cs hk)).1
 refine ⟨h.size,hm,fun d=>?_,fun k cs hk=>?_,h.hpd,hs.own,hs.dn,fun b hb=>h.new b (bQ hs.size hb),h.lay.aP hs.up hs.bT⟩
 ·have:=h.fr d
  have hpv:∀ pl r,st.rowAt C.E.dp pl=some r→fS w' σ' a pl=fS w σ a pl:=by
   intro pl r hr
   cases pl with
   | s d'=>rfl
   | c k off=>
    grind [St.rowAt,fS]
  cases hx:ax st.fr d with
  | o t es=>rw [hx] at this;exact OwnAt.same hs (hi.sl d t es hx) this
  | r pl=>
   rw [hx] at this
   intro hsome
   obtain ⟨r,hr⟩:=gq.1 hsome
   rw [hpv pl r hr]
   exact this hsome
  | v pl lo len=>
   rw [hx] at this
   intro t es ht hl
   rw [hpv pl _ ht]
   exact this t es ht hl
  | q pl i sz off=>
   rw [hx] at this
   intro t es ht hl
   rw [hpv pl _ ht]
   exact this t es ht hl
  | w g t x=>rw [hx] at this;exact pE.same hs (hi.gr g) this
  | ag cs rs=>rw [hx] at this;exact wG.to this (fun c _ v hv=>VR.same hs hv) (fun _ _ hr=>⟨hr,rfl⟩)
  | _=>rw [hx] at this;exact VR.same hs this
 ·obtain ⟨vs,T,hb⟩:=h.bx k cs hk
  refine ⟨vs,T,(hbox k cs hk).trans hb.hh,hb.size,?_,fun hw=>?_,hb.one,fun off c hc=>?_,hb.ty,by rw [hs.kap];exact hb.kb⟩
  ·rw [hs.kap];exact (hs.blk _ _ hb.ow (hi.bx k cs hk)).2
  ·rw [hs.kap];exact hb.wr hw
  ·have:=hb.cell off c hc
   cases c with
   | o t es=>exact OwnAt.same hs (hi.ce k cs off t es hk hc) this
   | w g t x=>exact pE.same hs (hi.gr g) this
   | bp t k' u=>exact ⟨this.1,by rw [hs.kap];exact this.2⟩
   | _=>exact VR.same hs this
theorem au.GS{w':World}{σ':Sp}{L:Option dz}(h:au C st a w σ)(hs:iE C w σ w' σ' L)(hi:Idle C st L):au C st a w' σ':=
 h.Q6 hs ⟨hi.sl,hi.bx,hi.ce,hi.gr⟩ (h.defers.same hs hi.mrk)
theorem au.same{w':World}{σ':Sp}(h:au C st a w σ)(hs:iE C w σ w' σ' none):au C st a w' σ':=h.GS hs .none
end
variable [bJ]
mutual
def zW:Value→AV→Bool
 | .bool x,.b y=>x==y
 | .int k n,.i k' n'=>decide (k=k')&&n==n'
 | .string s,.s l=>s.data.toList==l
 | .slice none 0 0,.n=>true
 | .slice none 0 0,.l _ []=>true
 | .pointer none,.z=>true
 | .nilFunc,.nf=>true
 | .nilIface,.ni=>true
 | .agg vs,.a cs=>vv vs.toList cs&&cs.all AV.one
 | .tuple vs,.tp cs=>vv vs.toList cs
 | _,_=>false
def vv:List Value→List AV→Bool
 | [],[]=>true
 | v::vs,c::cs=>zW v c&&vv vs cs
 | _,_=>false
end
def bK:Operand→ba→Bool
 | .tmp t,.t n=>t==n
 | .const v,.c x=>zW v x
 | .func f,.c (.f g [])=>f==g&&decide (f<1000000)
 | _,_=>false
def dT:List Operand→List ba→Bool
 | [],[]=>true
 | y::ys,x::xs=>bK y x&&dT ys xs
 | _,_=>false
section
variable {w:World}{I:Nat→Prop}{κ:Key→Nat}
mutual
theorem Ea:(v:Value)→(x:AV)→zW v x=true→VR w I κ x v∧x.pure=true
 | .bool x,.b y,h=>by
  have:x=y:=by simpa [zW] using h
  subst this;exact ⟨.b _,rfl⟩
 | .int k n,.i k' n',h=>by
  obtain ⟨h1,h2⟩:k=k'∧n=n':=by simpa [zW] using h
  subst h1;subst h2;exact ⟨.i _ _,rfl⟩
 | .string s,.s l,h=>by
  have:s.data.toList=l:=by simpa [zW] using h
  subst this
  have e:s=⟨s.data.toList.toArray⟩:=by cases s;simp
  refine ⟨?_,rfl⟩
  rw [e]
  exact .s _
 | .slice none 0 0,.n,_=>⟨.n,rfl⟩
 | .slice none 0 0,.l t [],_=>⟨.lnil t none 0,rfl⟩
 | .pointer none,.z,_=>⟨.z,rfl⟩
 | .nilFunc,.nf,_=>⟨.nf,rfl⟩
 | .nilIface,.ni,_=>⟨.ni,rfl⟩
 | .agg vs,.a cs,h=>by
  obtain ⟨h1,h2⟩:vv vs.toList cs=true∧cs.all AV.one=true:=by simpa [zW] using h
  obtain ⟨hl,hc⟩:=uW vs.toList cs h1
  refine ⟨.a cs vs (by simpa using hl.symm) (fun c hc=>by simpa using List.all_eq_true.1 h2 c hc) fun m c hm=>?_,?_⟩
  ·have:=(hc m c hm).1;simpa using this
  ·exact jo fun x hx=>by
    obtain ⟨m,hm⟩:=ec.1 hx
    exact (hc m x hm).2
 | .tuple vs,.tp cs,h=>by
  have h1:vv vs.toList cs=true:=by simpa [zW] using h
  obtain ⟨hl,hc⟩:=uW vs.toList cs h1
  refine ⟨.tp cs vs (by simpa using hl.symm) fun m c hm=>?_,?_⟩
  ·have:=(hc m c hm).1;simpa using this
  ·exact jo fun x hx=>by
    obtain ⟨m,hm⟩:=ec.1 hx
    exact (hc m x hm).2
theorem uW:(vs:List Value)→(cs:List AV)→vv vs cs=true→
  vs.length=cs.length∧∀ (m:Nat)(c:AV),cs[m]? =some c→VR w I κ c (vs[m]?.getD undef)∧c.pure=true
 | [],[],_=>⟨rfl,fun m c h=>by simp at h⟩
 | v::vs,c::cs,h=>by
  obtain ⟨h1,h2⟩:zW v c=true∧vv vs cs=true:=by simpa [vv] using h
  obtain ⟨hl,hc⟩:=uW vs cs h2
  refine ⟨by simp [hl],fun m d hm=>?_⟩
  cases m with
  | zero=>
   have:c=d:=by simpa using hm
   subst this
   simpa using Ea v c h1
  | succ m=>simpa using hc m d (by simpa using hm)
end
end
section
variable {C:Cx}{st:St}{a:Act}{w:World}{σ:Sp}
theorem au.uG(h:au C st a w σ){y:Operand}{x:ba}(hl:bK y x=true)(hc:(st.ev x).copy=true):VR w σ.I σ.κ (st.ev x) (a.eval y):=by
 cases x with
 | t n=>
  cases y with
  | tmp t=>
   have:t=n:=by simpa [bK] using hl
   subst this
   exact (h.fr t).Bl hc
  | _=>simp [bK] at hl
 | c z=>
  cases y with
  | const v=>exact (Ea v z hl).1
  | func f=>
   cases z<;>simp [bK] at hl
   rename_i g caps
   cases caps<;>simp at hl
   obtain ⟨hl,hg⟩:=hl
   subst hl
   exact VR.f _ [] #[] hg rfl fun m c hm=>by simp at hm
  | _=>simp [bK] at hl
theorem sY{y:Operand}{z:AV}(hl:bK y (.c z)=true):z.pure=true:=by
 cases y with
 | const v=>exact (Ea (w:=default) (I:=fun _=>False) (κ:=fun _=>0) v z hl).2
 | func f=>
  cases z<;>simp [bK] at hl
  rename_i g caps
  cases caps<;>simp at hl
  rfl
 | _=>simp [bK] at hl
theorem Ap{y:Operand}{n:Nat}(hl:bK y (.t n)=true):y= .tmp n:=by
 cases y with
 | tmp t=>
  have:t=n:=by simpa [bK] using hl
  rw [this]
 | _=>simp [bK] at hl
theorem au.slot(h:au C st a w σ){y:Operand}{n:Nat}(hl:bK y (.t n)=true):SR C w σ st a n (ax st.fr n) (a.eval y):=by
 rw [Ap hl];exact h.fr n
theorem OwnAt.C4{P:Program}{W:Nat→Prop}{L:dz}{wr wr':Prop}{t:TypeId}{es:List AV}{v:Value}(h:OwnAt P W w σ L wr t es v)(hw:wr'→wr):OwnAt P W w σ L wr' t es v:=by
 rcases h with h | ⟨g,cap,cs,hv,hr⟩
 ·exact .inl h
 ·exact .inr ⟨g,cap,cs,hv,hr.ow,fun x=>hr.wr (hw x),hr.hh,hr.pos,hr.nc,hr.ecap,hr.max,hr.size,hr.pure,hr.one,hr.cell,hr.base⟩
theorem au.row(h:au C st a w σ){pl:Pl}{t:TypeId}{es:List AV}(hr:st.rowAt C.E.dp pl=some (t,es)) :
  OwnAt C.P C.W w σ (pl.pD C.E.dp) (pl.iJ C.E=true) t es (fS w σ a pl):=by
 cases pl with
 | s d=>
  simp only [St.rowAt] at hr
  have:=h.fr d
  cases hx:ax st.fr d<;>rw [hx] at hr this<;>simp at hr
  obtain ⟨rfl,rfl⟩:=hr
  exact OwnAt.C4 this fun _=>trivial
 | c k off=>
  simp only [St.rowAt] at hr
  cases hb:st.box C.E.dp k with
  | none=>simp [hb] at hr
  | some cs=>
   simp only [hb] at hr
   cases hc:cs[off]? with
   | none=>simp [hc] at hr
   | some c=>
    obtain ⟨vs,T,hbx⟩:=h.bx k cs hb
    have:=hbx.cell off c hc
    simp only [hc] at hr
    cases c<;>simp at hr
    obtain ⟨rfl,rfl⟩:=hr
    simp only [fS,hbx.hh]
    exact this
def xW(P:Program)(t:TypeId):Option Bool:=(P.underlying t).map fun
 | .struct _=>true
 | .array _ _=>true
 | _=>false
def sZ(P:Program)(t:TypeId)(n:Option Nat):Bool:=
 match n with
 | none=>xW P t==some false&&decide (P.cellsOf t=1)
 | some m=>xW P t==some true&&(P.info? t).isSome&&decide (P.cellsOf t=m)
theorem qA{P:Program}{t:TypeId}{x:Bool}(h:xW P t=some x)(w:World):(isAgg t).run P w= .ok x w:=by
 unfold xW at h
 cases hu:P.underlying t with
 | none=>simp [hu] at h
 | some d=>
  simp only [hu,gv,ju] at h
  unfold isAgg
  rw [Sem.run_bind,run_underlying hu w]
  cases d<;>simp_all
theorem jM{P:Program}{t:TypeId}(h:(P.info? t).isSome=true)(w:World):(sizeOf t).run P w= .ok (P.cellsOf t) w:=by
 obtain ⟨i,hi⟩:=gq.1 h
 simp [sizeOf,typeInfo,hi,Program.cellsOf]
theorem add_lit(g o j:Nat):(⟨g,o,none⟩:Addr).add j=⟨g,o+j,none⟩:=by unfold Addr.add;split<;>simp_all
theorem uX{g:Nat}{vs:Array Value}{T:TypeId}{fz:Nat×Nat}(hh:w.heap[g]? =some (.cells vs T fz))(o:Nat):w.cell? ⟨g,o,none⟩=vs[o]? :=by
 simp [World.cell?,hh]
theorem zr{P:Program}{I:Nat→Prop}{κ:Key→Nat}{g b:Nat}{vs:Array Value}{T:TypeId}{fz:Nat×Nat}{cs:List AV}{n:Option Nat}{off:Nat}{y:AV}{t:TypeId}
  (hh:w.heap[g]? =some (.cells vs T fz)) (hsize:b+cs.length≤vs.size) (hcell:∀ off c,cs[off]? =some c→c.copy=true→VR w I κ c (vs.getD (b+off) undef))
  (hone:∀ c∈cs,c.copy=true→c.one=true) (hy:y.copy=true) (hp:pick n off cs=some y) (hn:sZ P t n=true) :
  ∃ v,(loadVar t ⟨g,b+off,none⟩).run P w= .ok v w∧VR w I κ y v:=by
 cases n with
 | none=>
  simp only [pick] at hp
  have hlt:off<cs.length:=by
   rcases lP off cs.length with h | h
   ·exact h
   ·simp [h] at hp
  have hlt':b+off<vs.size:=by omega
  obtain ⟨h1,_⟩:xW P t=some false∧P.cellsOf t=1:=by simpa [sZ] using hn
  have hc:w.cell? ⟨g,b+off,none⟩=some vs[b+off]:=by rw [uX hh];simp [hlt']
  refine ⟨vs[b+off],?_,?_⟩
  ·unfold loadVar
   simp [qA h1 w,hc]
  ·have:=hcell off y hp hy
   simpa [hlt'] using this
 | some m=>
  simp only [pick] at hp
  split at hp
  ·rename_i hle
   have hy':y= .a ((cs.drop off).take m):=by simpa using hp.symm
   subst hy'
   have hcp:=yI (l:=(cs.drop off).take m) (by simpa [AV.copy] using hy)
   obtain ⟨⟨h1,h2⟩,h3⟩:(xW P t=some true∧(P.info? t).isSome=true)∧P.cellsOf t=m:=by simpa [sZ] using hn
   have hl:=run_loadCells (P:=P) w ⟨g,b+off,none⟩ m (fun j=>vs.getD (b+off+j) undef) (fun j hj=>by
    rw [add_lit,uX hh]
    have:b+off+j<vs.size:=by omega
    simp [this])
   refine ⟨.agg (((List.range m).map fun j=>vs.getD (b+off+j) undef).toArray),?_,?_⟩
   ·unfold loadVar
    simp only [Sem.run_bind,qA h1 w,Result.andThen_ok,aq,jM h2,h3,hl,Sem.run_pure]
   ·refine VR.a _ _ ?_ (fun c hc=>hone c (fu (eI hc)) (hcp c hc)) fun j c hj=>?_
    ·simp;omega
    ·have hjm:j<m:=by
      rcases lP j m with h | h
      ·exact h
      ·simp [eV,lQ.2 h] at hj
     have hj2:cs[off+j]? =some c:=by
      rw [eV,ab hjm,gx] at hj
      exact hj
     have hv:=hcell (off+j) c hj2 (hcp c (aL hj))
     simpa [hjm,qa] using hv
  ·cases hp
end
variable [bJ]
def tM(P:Program)(t:TypeId)(i:Nat):Option Field:=
 match P.underlying t with
 | some (.struct fs)=>fs[i]?
 | _=>none
def kh(P:Program)(t:TypeId):Option TypeId:=
 match P.underlying t with
 | some (.slice e)=>some e
 | _=>none
def xX(P:Program)(t:TypeId):Bool:=match P.underlying t with
 | some .string=>true
 | _=>false
def Iv(P:Program)(t:TypeId):Bool:=match P.underlying t with
 | some .bool=>true
 | _=>false
def sized(P:Program)(t sz:Nat):Bool:=(P.info? t).isSome&&decide (P.cellsOf t=sz)&&decide (0<sz)
def xl(y:Option Operand)(x:Option ba):Bool:=
 match y,x with
 | none,none=>true
 | some y,some x=>bK y x
 | _,_=>false
def uY(P:Program)(t:TypeId):List (Nat×Operand)→List (Nat×Nat×ba)→Bool
 | [],[]=>true
 | (i,y)::ys,(off,sz,x)::xs=>(match tM P t i with
  | some f=>f.offset==off&&sized P f.type sz
  | none=>false)&&bK y x&&uY P t ys xs
 | _,_=>false
def zeroOf(P:Program)(t:TypeId):Option Value:=(P.info? t).bind (·.zero)
def q9(P:Program):Nat→List Nat→List Field→Bool
 | _,[],[]=>true
 | i,k::ks,f::fs=>f.name != "_" &&f.offset==i&&P.plainKey f.type&&(match k,P.underlying f.type with
  | 0,some .bool=>true
  | 1,some (.int _)=>true
  | 2,some .string=>true
  | _,_=>false)&&q9 P (i+1) ks fs
 | _,_,_=>false
def Pw(P:Program)(ks:List Nat)(t:TypeId):Bool:=match P.underlying t with
 | some (.struct fs)=>q9 P 0 ks fs.toList&&!P.stoodInHeld t&&!(P.eqGuardType P.depth t)
 | _=>false
def bC(P:Program)(ao:oV)(op:Op):Bool:=
 match ao with
 | .mv x=>match op with | .move y=>bK y x | _=>false
 | .as x=>match op with | .assign y=>bK y x | _=>false
 | .pk c x y=>match op with | .pick c' x' y'=>bK c' c&&bK x' x&&bK y' y | _=>false
 | .bx x=>match op with | .box _ y=>bK y x | _=>false
 | .al zs=>match op with | .alloc t=>(match zeroOf P t with | some v=>vv v.cells.toList zs&&zs.all AV.one | none=>false) | _=>false
 | .ld n x=>match op with | .load t y=>bK y x&&sZ P t n | _=>false
 | .st n x y=>match op with | .store t x' y'=>bK x' x&&bK y' y&&sized P t n | _=>false
 | .fa off x=>match op with
  | .fieldAddr s y i=>bK y x&&(match tM P s i with | some f=>f.offset==off&&(P.info? f.type).isSome&&decide (0<P.cellsOf f.type) | none=>false)
  | _=>false
 | .fd n off x=>match op with
  | .field s y i=>bK y x&&(match tM P s i with | some f=>f.offset==off&&sZ P f.type n | none=>false)
  | _=>false
 | .ia sz arr x i=>match op with
  | .indexAddr t x' i'=>bK x' x&&bK i' i&&(match arr,P.underlying t with
   | none,some (.slice e)=>sized P e sz
   | some n,some (.array n' e)=>n==n'&&sized P e sz
   | _,_=>false)
  | _=>false
 | .bo o bl x y=>match op with
  | .binOp o' t x' y' _=>decide (o=o')&&bK x' x&&bK y' y&&(bl==Iv P t)&&decide (o≠.or)
  | .call c=>(match c.callee with | .builtin .max=>true | _=>false)&&(match c.args.toList with
   | [x',y']=>bK x' x&&bK y' y&&decide (o= .or)
   | _=>false)
  | _=>false
 | .no x=>match op with | .unOp .not _ y=>bK y x | _=>false
 | .ae ks ng x y=>match op with | .binOp o' t x' y' _=>decide (o'=if ng then .neq else .eql)&&bK x' x&&bK y' y&&Pw P ks t | _=>false
 | .bs t sz es=>match op with
  | .buildSlice ty len parts=>kh P ty==some t&&sized P t sz&&len==es.length&&decide (parts.toList.map (·.1)=List.range len)&&dT (parts.toList.map (·.2)) es&&decide (len*sz≤16777216)&&
    (match zeroOf P t with | some v=>v.cells.size==sz | none=>false)
  | _=>false
 | .bd zs fs=>match op with
  | .build t parts=>(match zeroOf P t with | some v=>vv v.cells.toList zs&&zs.all AV.one | none=>false)&&uY P t parts.toList fs&&(match P.underlying t with | some (.struct fs)=>fs.all (fun f=>(P.info? f.type).isSome) | _=>false)
  | _=>false
 | .ms t sz by_ z l=>match op with
  | .makeSlice ty l' c'=>kh P ty==some t&&sized P t sz&&(P.bytesOf t==by_)&&bK l' l&&bK c' l&&(match zeroOf P t with | some v=>zW v z&&v.cells.size==sz&&z.cl.all AV.one | none=>false)
  | _=>false
 | .sl t sz x lo hi=>match op with
  | .slice ty x' lo' hi' none=>bK x' x&&xl lo' lo&&xl hi' hi&&(if t=0 then xX P ty else kh P ty==some t&&sized P t sz)
  | _=>false
 | .ex x i=>match op with | .extract y i'=>bK y x&&i==i' | _=>false
 | .mf f caps=>match op with | .makeFunc (.func f') first caps'=>f==f'&&decide (f'<1000000)&&first.isEmpty&&dT caps'.toList caps||f==1000000+f'&&caps'.isEmpty&&dT first.toList caps | _=>false
 | .ca _ f args=>match op with
  | .call c=>(match c.callee with | .value (.func f')=>f==f' | _=>false)&&dT c.args.toList args
  | _=>false
 | .cf _ x args=>match op with
  | .call c=>(match c.callee with | .value y=>bK y x | _=>false)&&dT c.args.toList args
  | _=>false
 | .c2 f args=>match op with
  | .call c=>(match c.callee with | .value (.func f')=>f==f' | _=>false)&&dT c.args.toList args
  | _=>false
 | .d2 x args=>match op with
  | .call c=>(match c.callee with | .value y=>bK y x | _=>false)&&dT c.args.toList args
  | _=>false
 | .c3 f args=>match op with
  | .call c=>(match c.callee with | .value (.func f')=>f==f' | _=>false)&&dT c.args.toList args
  | _=>false
 | .d3 x args=>match op with
  | .call c=>(match c.callee with | .value y=>bK y x | _=>false)&&dT c.args.toList args
  | _=>false
 | .cn f args=>match op with
  | .call c=>(match c.callee with | .value (.func f')=>f==f' | _=>false)&&dT c.args.toList args
  | _=>false
 | .cr _ f args=>match op with
  | .call c=>(match c.callee with | .value (.func f')=>f==f' | _=>false)&&dT c.args.toList args
  | _=>false
 | .cm _ f args x=>match op with
  | .call c=>(match c.callee with | .value (.func f')=>f==f' | _=>false)&&dT c.args.toList (args++[x])
  | _=>false
 | .ln str x=>match op with
  | .call c=>(match c.callee with | .builtin .len=>true | _=>false)&&(match c.args.toList,c.argTypes.toList with
   | [y],[t]=>bK y x&&(if str then xX P t else (kh P t).isSome)
   | _,_=>false)
  | _=>false
 | .ap t sz by_ x y=>match op with
  | .call c=>(match c.callee with | .builtin .append=>true | _=>false)&&(match c.args.toList,c.argTypes.toList with
   | [x',y'],[t1,t2]=>bK x' x&&bK y' y&&t1==t2&&kh P t1==some t&&sized P t sz&&(P.bytesOf t==by_)&&(match zeroOf P t with | some v=>v.cells.size==sz | none=>false)
   | _,_=>false)
  | _=>false
 | .nc x=>match op with | .nilCheck y=>bK y x | _=>false
section
variable {w:World}{I:Nat→Prop}{κ:Key→Nat}{v:Value}
theorem VR.vz{x:Bool}(h:VR w I κ (.b x) v):v= .bool x:=by cases h;rfl
theorem VR.mK{k:IntKind}{n:Int}(h:VR w I κ (.i k n) v):v= .int k n:=by cases h;rfl
theorem VR.Eb{l:List UInt8}(h:VR w I κ (.s l) v):v= .string ⟨l.toArray⟩:=by cases h;rfl
theorem VR.Ec(h:VR w I κ .n v):v= .slice none 0 0:=by cases h;rfl
theorem VR.abv(h:VR w I κ .sk v):v=undef:=by cases h;rfl
theorem VR.Q7{k:Key}{off n sz:Nat}(h:VR w I κ (.sp k off n sz) v):∃ cap,n≤cap∧cap≤maxLen∧v= .slice (some ⟨κ k,off,none⟩) n cap:=by
 cases h with
 | sp _ _ _ _ cap h1 h2=>simp_all
theorem VR.xm{k:Key}{off:Nat}(h:VR w I κ (.p k off) v):v= .pointer (some ⟨κ k,off,none⟩):=by cases h;rfl
theorem VR.VL{cs:List AV}(h:VR w I κ (.a cs) v):∃ vs,v= .agg vs∧cs.length=vs.size∧(∀ c∈cs,c.one=true)∧∀ (m:Nat)(c:AV),cs[m]? =some c→VR w I κ c (vs.getD m undef):=by
 cases h with | a _ vs hl h1 hc=>grind
theorem VR.abw{cs:List AV}(h:VR w I κ (.tp cs) v):∃ vs,v= .tuple vs∧cs.length=vs.size∧∀ (m:Nat)(c:AV),cs[m]? =some c→VR w I κ c (vs.getD m undef):=by
 cases h with | tp _ vs hl hc=>grind
theorem VR.Iw{g:FuncId}{cs:List AV}(h:VR w I κ (.f g cs) v):∃ vs,(g<1000000∧v= .func (.func g) #[] vs∨¬g<1000000∧v= .func (.func (g - 1000000)) vs #[])∧cs.length=vs.size∧∀ (m:Nat)(c:AV),cs[m]? =some c→VR w I κ c (vs.getD m undef):=by
 cases h with
 | f _ _ vs hg hl hc=>grind
 | fm g0 _ vs hl hc=>grind
theorem VR.K1{g:FuncId}{cs:List AV}(h:VR w I κ (.f g cs) v)(hg:g<1000000):∃ vs,v= .func (.func g) #[] vs∧cs.length=vs.size∧∀ (m:Nat)(c:AV),cs[m]? =some c→VR w I κ c (vs.getD m undef):=by
 obtain ⟨vs,h1,h2,h3⟩:=h.Iw
 grind
theorem VR.abx{g:FuncId}{cs:List AV}(h:VR w I κ (.f g cs) v)(hg:¬g<1000000):∃ vs,v= .func (.func (g - 1000000)) vs #[]∧cs.length=vs.size∧∀ (m:Nat)(c:AV),cs[m]? =some c→VR w I κ c (vs.getD m undef):=by
 obtain ⟨vs,h1,h2,h3⟩:=h.Iw
 grind
theorem VR.K2{x:AV}{off:Nat}(h:VR w I κ (.e x off) v):∃ g o cs T fz,v= .pointer (some ⟨g,o+off,none⟩)∧I g∧w.heap[g]? =some (.cells cs T fz)∧x.pure=true∧o+x.nc≤cs.size∧
  (∀ c∈x.cl,c.one=true)∧∀ (m:Nat)(c:AV),x.cl[m]? =some c→VR w I κ c (cs.getD (o+m) undef):=by
 cases h with | e _ _ g o cs T fz hI hh hp hs h1 hc=>exact ⟨g,o,cs,T,fz,rfl,hI,hh,hp,hs,h1,hc⟩
theorem VR.K3{t:TypeId}{es:List AV}(h:VR w I κ (.l t es) v):∃ A cap,v= .slice A es.length cap∧(es=[]∨∃ g o cs T fz sz,A=some ⟨g,o,none⟩∧I g∧w.heap[g]? =some (.cells cs T fz)∧(t≠0→(bJ.n0≤g→T=t∧fz=(0,0))∧(g<bJ.n0→bJ.tg t=true))∧0<sz∧
  (∀ e∈es,e.nc=sz)∧o+es.length*sz≤cs.size∧(∀ e∈es,e.pure=true)∧(∀ e∈es,∀ c∈e.cl,c.one=true)∧es.length≤cap∧cap≤maxLen∧
  ∀ (j:Nat)(e:AV)(m:Nat)(c:AV),es[j]? =some e→e.cl[m]? =some c→VR w I κ c (cs.getD (o+j*sz+m) undef)):=by
 cases h with
 | lnil _ A cap=>simp_all
 | l _ _ g o cap cs T fz sz hI hh ht hsz hnc hsize hp h1 hcap hmax hc=>exact ⟨_,cap,rfl,.inr ⟨g,o,cs,T,fz,sz,rfl,hI,hh,ht,hsz,hnc,hsize,hp,h1,hcap,hmax,hc⟩⟩
end
structure JD(C:Cx)(st':St)(a:Act)(w:World)(σ:Sp)(d:Option Nat)(x:AV)(cv:Value)(w':World)(σ':Sp):Prop where
 stp:cM C w σ w' σ'
 conc:au C st' a w' σ'
 val:∀ dd,d=some dd→SR C w' σ' st' a dd x cv
 own:∀ dd t es,d=some dd→x= .o t es→∀ d',(ax st'.fr d').ji (.s dd)=false
def eo(C:Cx)(o:Oper)(d:Option Nat)(a:Act)(w:World)(σ:Sp)(st':St)(x:AV):Prop:=
 ∀ (K:Act→World→Prop)(Q:Exit→Act→World→Prop),(∀ cv w' σ',JD C st' a w σ d x cv w' σ'→K (a.put o.dst cv) w')→o.wp C.P a w K Q
section
variable {C:Cx}{st:St}{a:Act}{w:World}{σ:Sp}{o:Oper}{d:Option Nat}
theorem eo.jU{st':St}{x:AV}{cv:Value}{w':World}{σ':Sp}(hr:(Go.execOp a.eval o).run C.P w= .ok (.value cv) w')(h:JD C st' a w σ d x cv w' σ'):eo C o d a w σ st' x:=by
 intro K Q hK
 unfold Oper.wp
 rw [hr]
 exact hK _ _ _ h
theorem eo.Wk{st':St}{x:AV}{w':World}{σ':Sp}(hr:(Go.execOp a.eval o).run C.P w= .ok .skip w')(h:JD C st' a w σ d x undef w' σ'):eo C o d a w σ st' x:=by
 intro K Q hK
 unfold Oper.wp
 rw [hr]
 exact hK _ _ _ h
theorem eo.quiet{x:AV}{cv:Value}(h:au C st a w σ)(hr:(Go.execOp a.eval o).run C.P w= .ok (.value cv) w)(hx:x.copy=true)(hv:VR w σ.I σ.κ x cv) :
  eo C o d a w σ st x:=
 .jU hr ⟨.refl _ _ _,h,fun _ _=>Fm (.inl hx) hv,by grind [AV.copy]⟩
theorem eo.xY{x:AV}{cv:Value}(h:au C st a w σ)(hr:(Go.execOp a.eval o).run C.P w= .ok (.value cv) w)(hx:∀ t es,x≠.o t es)(hv:∀ dd,SR C w σ st a dd x cv) :
  eo C o d a w σ st x:=
 .jU hr ⟨.refl _ _ _,h,fun dd _=>hv dd,by grind⟩
theorem Wl{n:Nat}{x:AV}{v:Value}(hx:∀ t es,x≠.o t es)(hb:D2 x=false)(h:SR C w σ st a n x v):VR w σ.I σ.κ x v:=by
 cases x<;>first | exact h | exact absurd rfl (hx _ _) | (simp [D2] at hb)
theorem Q8{n m:Nat}{x:AV}{v:Value}(hx:∀ t es,x≠.o t es)(h:SR C w σ st a n x v):SR C w σ st a m x v:=by
 cases x<;>first | exact h | grind
theorem lg{d:Nat}{x:AV}{v:Value}(h:VR w σ.I σ.κ x v):SR C w σ st a d x v:=by
 cases x<;>first | exact h | cases h
theorem au.eM(h:au C st a w σ){y:Operand}{x:ba}(hl:bK y x=true)(ho:∀ t es,st.ev x≠.o t es)(hb:D2 (st.ev x)=false):VR w σ.I σ.κ (st.ev x) (a.eval y):=by
 cases x with
 | t n=>exact Wl ho hb (h.slot hl)
 | c z=>exact h.uG hl (dG z (sY hl))
theorem aby{R:Rec}{Ω:du}{x:ba}{r:AV×St}(h:au C st a w σ)(hl:bC C.P (.mv x) o.op=true)(he:execOp R Ω C.E st d (.mv x)=some r) :
  eo C o d a w σ r.2 r.1:=by
 obtain ⟨y,hop,hlo⟩:∃ y,o.op= .move y∧bK y x=true:=by
  simp only [bC] at hl;grind
 have hr:(Go.execOp a.eval o).run C.P w= .ok (.value (a.eval y)) w:=by unfold Go.execOp;simp [hop]
 simp only [execOp] at he
 cases x with
 | c z=>
  simp only [St.ev] at he
  have hp:=sY hlo
  have hc:z.copy=true:=dG z hp
  have hv:=h.uG (x:=.c z) hlo hc
  cases z<;>first | (simp [AV.copy] at hc;done) | skip
  all_goals
   obtain rfl:=aa he
   exact .quiet h hr hc hv
 | t n=>
  have hs:=h.slot hlo
  simp only [St.ev] at he
  cases hx:ax st.fr n with
  | o t es=>
   rw [hx] at he
   obtain rfl:=aa he
   refine .xY h hr (fun _ _ e=>by cases e) fun dd=>?_
   intro _
   rw [Ap hlo];rfl
  | _=>
   rw [hx] at he hs
   obtain rfl:=aa he
   exact .xY h hr (fun _ _ e=>by cases e) (by grind [Q8])
theorem abz{R:Rec}{Ω:du}{c x y:ba}{r:AV×St}(h:au C st a w σ)(hl:bC C.P (.pk c x y) o.op=true)(he:execOp R Ω C.E st d (.pk c x y)=some r) :
  eo C o d a w σ r.2 r.1:=by
 obtain ⟨c',x',y',hop,hc,hx,hy⟩:∃ c' x' y',o.op= .pick c' x' y'∧bK c' c=true∧bK x' x=true∧bK y' y=true:=by
  simp only [bC] at hl;grind
 simp only [execOp] at he
 obtain ⟨z,hz,he⟩:=ah.1 he
 have hcb:st.ev c= .b z:=by
  cases hcc:st.ev c<;>rw [hcc] at hz<;>simp [qu] at hz
  rw [hz]
 have hce:a.eval c'= .bool z:=by
  have:=h.uG hc (by rw [hcb];rfl)
  rw [hcb] at this
  exact this.vz
 have hr:(Go.execOp a.eval o).run C.P w= .ok (.value (if z=true then a.eval x' else a.eval y')) w:=by simp_all [Go.execOp,asBool]
 cases z with
 | true=>
  simp only [aq] at he hr
  split at he
  ·rename_i hcp
   obtain rfl:=aa he
   exact .quiet h hr hcp (h.uG hx hcp)
  ·cases he
 | false=>
  simp only [aM,bB] at he hr
  split at he
  ·rename_i hcp
   obtain rfl:=aa he
   exact .quiet h hr hcp (h.uG hy hcp)
  ·cases he
theorem abA{R:Rec}{Ω:du}{x:ba}{r:AV×St}(h:au C st a w σ)(hl:bC C.P (.no x) o.op=true)(he:execOp R Ω C.E st d (.no x)=some r) :
  eo C o d a w σ r.2 r.1:=by
 obtain ⟨t,y,hop,hlo⟩:∃ t y,o.op= .unOp .not t y∧bK y x=true:=by
  simp only [bC] at hl;grind
 simp only [execOp] at he
 obtain ⟨z,hz,he⟩:=ah.1 he
 have hcb:st.ev x= .b z:=by
  cases hcc:st.ev x<;>rw [hcc] at hz<;>simp [qu] at hz
  rw [hz]
 have hce:a.eval y= .bool z:=by
  have:=h.uG hlo (by rw [hcb];rfl)
  rw [hcb] at this
  exact this.vz
 obtain rfl:=aa he
 exact .quiet h (cv:=.bool (!z)) (by simp_all [Go.execOp,Op.unary]) rfl (.b _)
theorem abB{R:Rec}{Ω:du}{x:ba}{i:Nat}{r:AV×St}(h:au C st a w σ)(hl:bC C.P (.ex x i) o.op=true)(he:execOp R Ω C.E st d (.ex x i)=some r) :
  eo C o d a w σ r.2 r.1:=by
 obtain ⟨y,hop,hlo⟩:∃ y,o.op= .extract y i∧bK y x=true:=by
  simp only [bC] at hl;grind
 simp only [execOp] at he
 split at he
 ·rename_i vs hx
  obtain ⟨z,hz,he⟩:=ah.1 he
  obtain rfl:=aa he
  obtain ⟨us,hu,hlen,hc⟩:=(hx▸h.eM hlo (by rw [hx];simp) (by rw [hx];rfl)).abw
  have hv:=hc i z hz
  have hi:i<us.size:=by
   grind
  have hr:(Go.execOp a.eval o).run C.P w= .ok (.value us[i]) w:=by simp_all [Go.execOp,Instr.extract]
  simp only [hi,bn,getElem?_pos,kt] at hv
  exact .jU hr ⟨.refl _ _ _,h,fun _ _=>lg hv,fun _ _ _ _ e=>by subst e;cases hv⟩
 ·cases he
theorem JE:∀ {ys:List Operand}{xs:List ba},dT ys xs=true→ys.length=xs.length∧∀ (m:Nat) x,xs[m]? =some x→∃ y,ys[m]? =some y∧bK y x=true
 | [],[],_=>by grind
 | y::ys,x::xs,h=>by
  obtain ⟨h1,h2⟩:bK y x=true∧dT ys xs=true:=by simpa [dT] using h
  obtain ⟨hl,hm⟩:=JE h2
  grind
 | [],_::_,h=>by simp [dT] at h
 | _::_,[],h=>by simp [dT] at h
theorem abC{R:Rec}{Ω:du}{f:FuncId}{xs:List ba}{r:AV×St}(h:au C st a w σ)(hl:bC C.P (.mf f xs) o.op=true)(he:execOp R Ω C.E st d (.mf f xs)=some r) :
  eo C o d a w σ r.2 r.1:=by
 obtain ⟨ys,hop,hlo⟩:∃ ys,(o.op= .makeFunc (.func f) #[] ys∧f<1000000∨∃ g,f=1000000+g∧o.op= .makeFunc (.func g) ys #[])∧dT ys.toList xs=true:=by
  simp only [bC] at hl;grind
 obtain ⟨hlen,hm⟩:=JE hlo
 simp only [execOp] at he
 split at he
 ·rename_i hcp
  obtain rfl:=aa he
  have key:∀ (m:Nat)(c:AV),(xs.map st.ev)[m]? =some c→VR w σ.I σ.κ c ((ys.map a.eval).getD m undef):=fun m c hc'=>by
   rw [gw] at hc'
   obtain ⟨x,hx,rfl⟩:=c9.1 hc'
   obtain ⟨y,hy,hxy⟩:=hm m x hx
   have hv:=h.uG hxy ((by grind [yI]))
   simp_all
  rcases hop with ⟨hop,hg⟩ | ⟨g,rfl,hop⟩
  ·exact .quiet h (cv:=.func (.func f) #[] (ys.map a.eval)) (by unfold Go.execOp;simp [hop,Instr.makeFunc]) (by simpa [AV.copy] using hcp) (.f f _ _ hg (by grind) key)
  ·exact .quiet h (cv:=.func (.func g) (ys.map a.eval) #[]) (by unfold Go.execOp;simp [hop,Instr.makeFunc]) (by simpa [AV.copy] using hcp) (.fm g _ _ (by grind) key)
 ·cases he
theorem abD{R:Rec}{Ω:du}{x:ba}{r:AV×St}(h:au C st a w σ)(hl:bC C.P (.nc x) o.op=true)(he:execOp R Ω C.E st d (.nc x)=some r) :
  eo C o d a w σ r.2 r.1:=by
 obtain ⟨y,hop,hlo⟩:∃ y,o.op= .nilCheck y∧bK y x=true:=by
  simp only [bC] at hl;grind
 simp only [execOp] at he
 split at he
 ·rename_i k off hx
  obtain rfl:=aa he
  have hv:=(hx▸h.eM hlo (by rw [hx];simp) (by rw [hx];rfl))
  exact .quiet h (cv:=a.eval y) (by unfold Go.execOp;simp [hop,hv.xm]) rfl hv
 ·rename_i z off hx
  obtain rfl:=aa he
  have hv:=(hx▸h.eM hlo (by rw [hx];simp) (by rw [hx];rfl))
  obtain ⟨g,o',cs,T,fz,hvv,_⟩:=hv.K2
  exact .quiet h (cv:=a.eval y) (by simp_all [Go.execOp]) rfl hv
 ·cases he
 ·rename_i g caps hx
  obtain rfl:=aa he
  have hv:=(hx▸h.eM hlo (by rw [hx];simp) (by rw [hx];rfl))
  obtain ⟨vs,hvv,_⟩:=hv.Iw
  exact .jU (cv:=a.eval y) (by unfold Go.execOp;rcases hvv with ⟨_,hvv⟩ | ⟨_,hvv⟩<;>simp [hop,hvv]) ⟨.refl _ _ _,h,fun _ _=>lg hv,fun _ _ _ _ e=>by cases e⟩
 ·cases he
end
variable [bJ]
section
variable {C:Cx}{st:St}{a:Act}{w:World}{σ:Sp}{o:Oper}{d:Option Nat}{R:Rec}{Ω:du}{r:AV×St}
theorem zX{P:Program}{t:TypeId}{i:Nat}{f:Field}(h:tM P t i=some f):∃ fs,P.underlying t=some (.struct fs)∧fs[i]? =some f:=by
 unfold tM at h
 split at h
 ·rename_i fs hu;exact ⟨fs,hu,h⟩
 ·cases h
theorem Nk{P:Program}{s:TypeId}{i:Nat}{f:Field}(h:tM P s i=some f)(hi:(P.info? f.type).isSome=true)(hp:0<P.cellsOf f.type)(g b:Nat)(w:World) :
  (Instr.fieldAt s (.pointer (some ⟨g,b,none⟩)) i).run P w= .ok (.pointer (some ⟨g,b+f.offset,none⟩)) w:=by
 obtain ⟨fs,hu,hf⟩:=zX h
 have hne:¬P.cellsOf f.type=0:=by omega
 simp [Instr.fieldAt,run_underlying hu,hf,Instr.sureAddr,fieldPlace,jM hi,hne,add_lit]
theorem au.Bm(h:au C st a w σ){pl:Pl}{t:TypeId}{es:List AV}(hr:st.rowAt C.E.dp pl=some (t,es))(hne:es≠[]) :
  ∃ g cap cs,fS w σ a pl= .slice (some ⟨g,0,none⟩) es.length cap∧fg C.P C.W w σ (pl.pD C.E.dp) (pl.iJ C.E=true) t es g cap cs:=by
 rcases h.row hr with ⟨h1,_⟩ | h1
 ·exact absurd h1 hne
 ·exact h1
theorem au.GU(h:au C st a w σ){pl:Pl}{t:TypeId}{es:List AV}(hr:st.rowAt C.E.dp pl=some (t,es)) :
  ∃ A cap,fS w σ a pl= .slice A es.length cap∧es.length≤cap:=by
 rcases h.row hr with ⟨rfl,h2⟩ | ⟨g,cap,cs,hv,hr⟩
 ·exact ⟨_,_,h2,aS _⟩
 ·exact ⟨_,_,hv,hr.ecap⟩
theorem dR{x:ba}{y:AV}(h:st.ev x=y)(hp:y.pure=false){op:Operand}(hl:bK op x=true):∃ n,x= .t n∧ax st.fr n=y:=by
 cases x with
 | t n=>exact ⟨n,rfl,h⟩
 | c z=>
  have:=sY hl
  simp only [St.ev] at h
  rw [h,hp] at this
  cases this
theorem abE{off:Nat}{x:ba}(h:au C st a w σ)(hl:bC C.P (.fa off x) o.op=true)(he:execOp R Ω C.E st d (.fa off x)=some r) :
  eo C o d a w σ r.2 r.1:=by
 obtain ⟨s,y,i,f,hop,hlo,hf,rfl,hi,hp⟩:∃ s y i f,o.op= .fieldAddr s y i∧bK y x=true∧tM C.P s i=some f∧f.offset=off∧(C.P.info? f.type).isSome=true∧0<C.P.cellsOf f.type:=by
  simp only [bC] at hl;split at hl
  ·rename_i s y i hy
   simp only [aA] at hl
   obtain ⟨h1,h2⟩:=hl
   split at h2
   ·rename_i f hf
    simp only [aA,cS,df] at h2
    exact ⟨s,y,i,f,hy,h1,hf,h2.1.1,h2.1.2,h2.2⟩
   ·cases h2
  ·cases hl
 have hrun:∀ g b,a.eval y= .pointer (some ⟨g,b,none⟩)→(Go.execOp a.eval o).run C.P w= .ok (.value (.pointer (some ⟨g,b+f.offset,none⟩))) w:=by
  intro g b hv
  unfold Go.execOp
  simp [hop,hv,Nk hf hi hp]
 simp only [execOp] at he
 split at he
 ·rename_i k b hx
  obtain rfl:=aa he
  have hv:=(hx▸h.eM hlo (by rw [hx];simp) (by rw [hx];rfl)).xm
  exact .quiet h (hrun _ _ hv) rfl (.p _ _)
 ·rename_i z b hx
  obtain rfl:=aa he
  obtain ⟨g,b',cs,T,fz,hv,hI,hh,hpu,hs,h1,hc⟩:=(hx▸h.eM hlo (by rw [hx];simp) (by rw [hx];rfl)).K2
  exact .quiet h (by rw [hrun _ _ hv,qa]) rfl (.e z _ g b' cs T fz hI hh hpu hs h1 hc)
 ·rename_i pl j sz b hx
  obtain ⟨⟨t,es⟩,hrow,he⟩:=ah.1 he
  split at he
  ·rename_i hlt
   obtain rfl:=aa he
   obtain ⟨n,rfl,hn⟩:=dR hx rfl hlo
   have hs:=hn▸h.slot hlo
   obtain ⟨g,n',cap,hpv,hv⟩:=hs t es hrow hlt
   refine .xY h (hrun _ _ hv) (fun _ _ e=>by cases e) fun dd=>?_
   intro t' es' ht' hl'
   exact ⟨g,n',cap,hpv,by rw [qa]⟩
  ·cases he
 ·cases he
theorem abF{n:Option Nat}{off:Nat}{x:ba}(h:au C st a w σ)(hl:bC C.P (.fd n off x) o.op=true)(he:execOp R Ω C.E st d (.fd n off x)=some r) :
  eo C o d a w σ r.2 r.1:=by
 obtain ⟨s,y,i,f,hop,hlo,hf,rfl,hn⟩:∃ s y i f,o.op= .field s y i∧bK y x=true∧tM C.P s i=some f∧f.offset=off∧sZ C.P f.type n=true:=by
  simp only [bC] at hl;split at hl
  ·rename_i s y i hy
   simp only [aA] at hl
   obtain ⟨h1,h2⟩:=hl
   split at h2
   ·rename_i f hf
    simp only [aA,cS] at h2
    exact ⟨s,y,i,f,hy,h1,hf,h2.1,h2.2⟩
   ·cases h2
  ·cases hl
 obtain ⟨fs,hu,hfi⟩:=zX hf
 simp only [execOp] at he
 split at he
 ·rename_i cs hx
  obtain ⟨z,hz,he⟩:=ah.1 he
  obtain rfl:=aa he
  obtain ⟨vs,hv,hlen,h1,hc⟩:=(hx▸h.eM hlo (by rw [hx];simp) (by rw [hx];rfl)).VL
  cases n with
  | none=>
   obtain ⟨hag,_⟩:xW C.P f.type=some false∧C.P.cellsOf f.type=1:=by simpa [sZ] using hn
   have hz':cs[f.offset]? =some z:=hz
   have hlt:f.offset<vs.size:=by
    rcases lP f.offset cs.length with h2 | h2
    ·omega
    ·simp [h2] at hz'
   have hvr:=hc f.offset z hz'
   simp only [bn,hlt,getElem?_pos,kt] at hvr
   refine .jU (cv:=vs[f.offset]) ?_ ⟨.refl _ _ _,h,fun _ _=>lg hvr,fun _ _ _ _ e=>by subst e;cases hvr⟩
   unfold Go.execOp
   simp [hop,hv,Instr.field,run_underlying hu,hfi,asAgg,part,qA hag,hlt]
  | some m=>
   obtain ⟨⟨hag,hi⟩,hm⟩:(xW C.P f.type=some true∧(C.P.info? f.type).isSome=true)∧C.P.cellsOf f.type=m:=by simpa [sZ] using hn
   simp only [pick] at hz
   split at hz
   ·rename_i hle
    have hz':z= .a ((cs.drop f.offset).take m):=by simpa using hz.symm
    subst hz'
    have hvr:VR w σ.I σ.κ (.a ((cs.drop f.offset).take m)) (.agg (vs.extract f.offset (f.offset+m))):=by
     refine .a _ _ ?_ (fun c hc'=>h1 c (fu (eI hc'))) fun j c hj=>?_
     ·simp;omega
     ·have hjm:j<m:=by
       rcases lP j m with h2 | h2
       ·exact h2
       ·simp [eV,lQ.2 h2] at hj
      rw [eV,ab hjm,gx] at hj
      have hvv:=hc (f.offset+j) c hj
      have e1:f.offset+j<vs.size:=by omega
      have e2:j<min (f.offset+m) vs.size - f.offset:=by omega
      simpa [bn,Array.getElem?_extract,e1,e2] using hvv
    refine .jU (cv:=.agg (vs.extract f.offset (f.offset+m))) ?_ ⟨.refl _ _ _,h,fun _ _=>lg hvr,fun _ _ _ _ e=>by cases e⟩
    unfold Go.execOp
    simp [hop,hv,Instr.field,run_underlying hu,hfi,asAgg,part,qA hag,jM hi,hm]
   ·cases hz
 ·cases he
theorem abG{n:Option Nat}{x:ba}(h:au C st a w σ)(hl:bC C.P (.ld n x) o.op=true)(he:execOp R Ω C.E st d (.ld n x)=some r) :
  eo C o d a w σ r.2 r.1:=by
 obtain ⟨t,y,hop,hlo,hn⟩:∃ t y,o.op= .load t y∧bK y x=true∧sZ C.P t n=true:=by
  simp only [bC] at hl;split at hl
  ·rename_i t y hy
   simp only [aA] at hl
   exact ⟨t,y,hy,hl.1,hl.2⟩
  ·cases hl
 have hrun:∀ g b v,a.eval y= .pointer (some ⟨g,b,none⟩)→(loadVar t ⟨g,b,none⟩).run C.P w= .ok v w→(Go.execOp a.eval o).run C.P w= .ok (.value v) w:=by
  intro g b v hv hr
  unfold Go.execOp
  simp [hop,hv,Instr.loadAt,Instr.sureAddr,hr]
 simp only [execOp] at he
 split at he
 ·rename_i k b hx
  obtain ⟨cs,hbx,he⟩:=ah.1 he
  obtain ⟨z,hz,he⟩:=ah.1 he
  have hv:=(hx▸h.eM hlo (by rw [hx];simp) (by rw [hx];rfl)).xm
  obtain ⟨vs,T,hB⟩:=h.bx k cs hbx
  have hgen:z.copy=true→r=(z,st)→eo C o d a w σ r.2 r.1:=by
   intro hcp hre
   subst hre
   obtain ⟨v,hr,hvr⟩:=zr (P:=C.P) (I:=σ.I) (κ:=σ.κ) (b:=0) hB.hh (by have:=hB.size;omega) (fun off c hc hcc=>by
     have:=hB.cell off c hc
     rw [eU]
     cases c<;>first | exact this | (simp [AV.copy] at hcc)) (fun c hc hcc=>(hB.one c hc).resolve_right (fun e=>by subst e;simp [AV.copy] at hcc)) hcp hz hn
   rw [eU] at hr
   exact .quiet h (hrun _ _ _ hv hr) hcp hvr
  split at he
  ·rename_i t' es
   obtain rfl:=aa he
   cases n with
   | none=>
    obtain ⟨hag,_⟩:xW C.P t=some false∧C.P.cellsOf t=1:=by simpa [sZ] using hn
    have hz':cs[b]? =some (.o t' es):=hz
    have hlt:b<vs.size:=by
     refine eb ?_ hB.size
     rcases lP b cs.length with h2 | h2
     ·exact h2
     ·simp [h2] at hz'
    have hc:w.cell? ⟨σ.κ k,b,none⟩=some vs[b]:=by rw [uX hB.hh];simp [hlt]
    refine .xY h (hrun _ _ vs[b] hv ?_) (fun _ _ e=>by cases e) fun dd _=>?_
    ·unfold loadVar
     simp [qA hag w,hc]
    ·simp [fS,hB.hh,hlt]
   | some m=>
    simp only [pick] at hz
    split at hz<;>simp at hz
  ·split at he
   ·rename_i hcp
    exact hgen hcp (aa he).symm
   ·cases he
 ·rename_i z b hx
  obtain ⟨y',hz,he⟩:=ah.1 he
  obtain rfl:=aa he
  obtain ⟨g,b',cs,T,fz,hv,hI,hh,hpu,hs,h1,hc⟩:=(hx▸h.eM hlo (by rw [hx];simp) (by rw [hx];rfl)).K2
  have hcp:y'.copy=true:=by
   cases n with
   | none=>exact dG _ (jq hpu y' (aL hz))
   | some m=>
    simp only [pick] at hz
    split at hz
    ·have hz':y'= .a ((z.cl.drop b).take m):=by simpa using hz.symm
     subst hz'
     exact dG _ (jo fun c hc'=>jq hpu c (fu (eI hc')))
    ·cases hz
  obtain ⟨v,hr,hvr⟩:=zr (P:=C.P) (I:=σ.I) (κ:=σ.κ) (b:=b') hh hs (fun off c hc' _=>hc off c hc') (fun c hc' _=>h1 c hc') hcp hz hn
  exact .quiet h (hrun _ _ _ hv hr) hcp hvr
 ·rename_i pl i sz b hx
  obtain ⟨⟨t',es⟩,hrow,he⟩:=ah.1 he
  obtain ⟨e,hee,he⟩:=ah.1 he
  split at he
  ·rename_i hnc
   obtain ⟨y',hz,he⟩:=ah.1 he
   obtain rfl:=aa he
   have hlt:i<es.length:=by
    rcases lP i es.length with h2 | h2
    ·exact h2
    ·simp [h2] at hee
   obtain ⟨m,rfl,hm⟩:=dR hx rfl hlo
   obtain ⟨g,n',cap,hpv,hv⟩:=(hm▸h.slot hlo) t' es hrow hlt
   obtain ⟨g',cap',cs,hpv',hR⟩:=h.Bm hrow (fun e=>by subst e;simp at hlt)
   obtain ⟨rfl,rfl,rfl⟩:g=g'∧n'=es.length∧cap=cap':=by
    rw [hpv] at hpv';simpa using hpv'
   have hem:=aL hee
   have hszz:sz=C.P.cellsOf t':=hnc.symm.trans (hR.nc e hem)
   have hpu:=hR.pure e hem
   have hcp:y'.copy=true:=by
    cases n with
    | none=>exact dG _ (jq hpu y' (aL hz))
    | some m=>
     simp only [pick] at hz
     split at hz
     ·have hz':y'= .a ((e.cl.drop b).take m):=by simpa using hz.symm
      subst hz'
      exact dG _ (jo fun c hc'=>jq hpu c (fu (eI hc')))
     ·cases hz
   have hbound:i*sz+e.cl.length≤cs.size:=by
    have h3:e.cl.length=sz:=hnc
    rw [hR.size,h3,←hszz]
    have:(i+1)*sz≤cap*sz:=fv _ (by have:=hR.ecap;omega)
    rw [da] at this
    omega
   obtain ⟨v,hr,hvr⟩:=zr (P:=C.P) (I:=σ.I) (κ:=σ.κ) (b:=i*sz) hR.hh hbound (fun off c hc' _=>by have:=hR.cell i e off c hee hc';rwa [←hszz] at this)
    (fun c hc' _=>hR.one e hem c hc') hcp hz hn
   exact .quiet h (hrun _ _ _ hv hr) hcp hvr
  ·cases he
 ·cases he
end
end Go.Proofs.YtkkkkondjclcnaaGreat.A
