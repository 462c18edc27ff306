/- How an abstract state lies in the model: who owns which block of memory. -/
import Derived.Test.YtkkkkondjclcnaaGreatAbs3
import Derived.Test.YtkkkkondjclcnaaGreatGl
import Derived.ChangeKeysEq
import Derived.Laws.StructEq
set_option linter.all false
namespace Go.Proofs.YtkkkkondjclcnaaGreat.A
open Go
inductive dL where
 | box (k:Key)
 | rowS (dp d:Nat)
 | rowC (k:Key) (off:Nat)
 | grp (dp g:Nat)
 | mark (dp:Nat)
deriving DecidableEq
def Pl.pr(dp:Nat):Pl→dL
 | .s d=>.rowS dp d
 | .c k off=>.rowC k off
structure Sp where
 κ:Key→Nat
 ow:Nat→Option dL
 I:Nat→Prop
variable [bI]
structure eW(P:Program)(W:Nat→Prop)(w:World)(σ:Sp)(L:dL)(wr:Prop)(t:TypeId)(es:List AV)(g cap:Nat)(cs:Array Value):Prop where
 ow:σ.ow g=some L
 wr:wr→W g
 hh:w.heap[g]? =some (.cells cs t (0,0))
 pos:0<P.cellsOf t
 nc:∀ e∈es,e.nc=P.cellsOf t
 ecap:es.length≤cap
 max:cap≤maxLen
 size:cs.size=cap*P.cellsOf t
 pure:∀ e∈es,e.pure=true
 one:∀ e∈es,∀ c∈e.cl,c.one=true
 cell:∀ (j:Nat)(e:AV)(m:Nat)(c:AV),es[j]? =some e→e.cl[m]? =some c→VR w σ.I σ.κ c (cs.getD (j*P.cellsOf t+m) undef)
 base:bI.n0≤g
def OwnAt(P:Program)(W:Nat→Prop)(w:World)(σ:Sp)(L:dL)(wr:Prop)(t:TypeId)(es:List AV)(v:Value):Prop:=
 (es=[]∧v= .slice none 0 0)∨∃ g cap cs,v= .slice (some ⟨g,0,none⟩) es.length cap∧eW P W w σ L wr t es g cap cs
def pt(W:Nat→Prop)(dp:Nat)(w:World)(σ:Sp)(g:Nat)(t:TypeId)(x:AV)(v:Value):Prop:=
 x.pure=true∧VR w (fun b=>σ.ow b=some (.grp dp g)∧W b∧bI.n0≤b∧∃ cs,w.heap[b]? =some (.cells cs t (0,0))) σ.κ x v
theorem pt.aN{W W':Nat→Prop}{dp:Nat}{w w':World}{σ σ':Sp}{g:Nat}{t:TypeId}{x:AV}{v:Value}(h:pt W dp w σ g t x v)
  (hb:∀ b,σ.ow b=some (.grp dp g)→w'.heap[b]? =w.heap[b]? ∧σ'.ow b=some (.grp dp g)) (hW:∀ b,W b→W' b):pt W' dp w' σ' g t x v:=
 ⟨h.1,h.2.mono ((by grind)) (fun b h1=>(hb b h1.1).1) (fun k hk=>by rw [lC _ h.1] at hk;cases hk)⟩
structure Cx where
 P:Program
 W:Nat→Prop
 E:Env
 nt:Nat
def fN(w:World)(σ:Sp)(a:Act):Pl→Value
 | .s d=>a.tmps.getD d undef
 | .c k off=>match w.heap[σ.κ k]? with
  | some (.cells vs _ _)=>vs.getD off undef
  | _=>undef
def CR(C:Cx)(w:World)(σ:Sp)(k:Key)(off:Nat)(c:AV)(v:Value):Prop:=
 match c with
 | .o t es=>OwnAt C.P C.W w σ (.rowC k off) ((Pl.c k off).jr C.E=true) t es v
 | .w g t x=>pt C.W C.E.dp w σ g t x v
 | .bp _ k' u=>k'=k∧v=if u=true then .pointer (some ⟨σ.κ k,off,none⟩) else .pointer none
 | c=>VR w σ.I σ.κ c v
theorem Ri{C:Cx}{w:World}{σ:Sp}{k:Key}{off:Nat}{c:AV}{v:Value}(h:VR w σ.I σ.κ c v):CR C w σ k off c v:=by
 cases c<;>first | exact h | cases h
structure j6(C:Cx)(w:World)(σ:Sp)(k:Key)(cs:List AV)(vs:Array Value)(T:TypeId):Prop where
 hh:w.heap[σ.κ k]? =some (.cells vs T (0,0))
 size:cs.length≤vs.size
 ow:σ.ow (σ.κ k)=some (.box k)
 wr:(Pl.c k 0).jr C.E=true→C.W (σ.κ k)
 one:∀ c∈cs,c.one=true∨c= .u
 cell:∀ (off:Nat)(c:AV),cs[off]? =some c→CR C w σ k off c (vs.getD off undef)
 ty:∀ t k u,AV.bp t k u∈cs→t=T∧vs.size=cs.length
 kb:(1000000≤k.d→T=(k.d - 1000000) / 1000)∧bI.n0≤σ.κ k
def wG(C:Cx)(w:World)(σ:Sp)(st:St)(a:Act)(cs:List AV)(rs:List (Nat×Nat))(v:Value):Prop:=
 ∃ vs,v= .agg vs∧cs.length=vs.size∧(∀ c∈cs,c.one=true∨c= .u)∧(∀ (m:Nat)(c:AV),cs[m]? =some c→VR w σ.I σ.κ c (vs.getD m undef))∧
  ∀ q∈rs,(st.rowAt C.E.dp (.s q.2)).isSome=true→vs.getD q.1 undef=a.tmps.getD q.2 undef
theorem wG.to{C:Cx}{w w':World}{σ σ':Sp}{st st':St}{a a':Act}{cs:List AV}{rs:List (Nat×Nat)}{v:Value}(h:wG C w σ st a cs rs v)
  (hV:∀ c∈cs,∀ v,VR w σ.I σ.κ c v→VR w' σ'.I σ'.κ c v) (hR:∀ q∈rs,(st'.rowAt C.E.dp (.s q.2)).isSome=true→(st.rowAt C.E.dp (.s q.2)).isSome=true∧a'.tmps.getD q.2 undef=a.tmps.getD q.2 undef):wG C w' σ' st' a' cs rs v:=by
 obtain ⟨vs,h1,h2,h3,h4,h5⟩:=h
 exact ⟨vs,h1,h2,h3,by grind,by grind⟩
def SR(C:Cx)(w:World)(σ:Sp)(st:St)(a:Act)(d:Nat)(x:AV)(v:Value):Prop:=
 match x with
 | .o t es=>OwnAt C.P C.W w σ (.rowS C.E.dp d) True t es v
 | .r pl=>(st.rowAt C.E.dp pl).isSome=true→v=fN w σ a pl
 | .v pl lo len=>∀ t es,st.rowAt C.E.dp pl=some (t,es)→lo+len≤es.length→
   ∃ A n cap,fN w σ a pl= .slice A n cap∧v= .slice (if cap=lo then A else A.map (·.add (lo*C.P.cellsOf t))) len (cap - lo)
 | .q pl i sz off=>∀ t es,st.rowAt C.E.dp pl=some (t,es)→i<es.length→
   ∃ g n cap,fN w σ a pl= .slice (some ⟨g,0,none⟩) n cap∧v= .pointer (some ⟨g,i*sz+off,none⟩)
 | .w g t x=>pt C.W C.E.dp w σ g t x v
 | .ag cs rs=>wG C w σ st a cs rs v
 | x=>VR w σ.I σ.κ x v
def JN(w:World)(I:Nat→Prop):Prop:=∀ q∈glP,I q.1∧∃ T fz,w.heap[q.1]? =some (.cells q.2 T fz)
theorem JN.aN{w w':World}{I I':Nat→Prop}(h:JN w I)(hI:∀ b,I b→I' b)(hh:∀ b,I b→w'.heap[b]? =w.heap[b]?):JN w' I':=fun q hq=>by
 obtain ⟨h1,T,fz,h2⟩:=h q hq
 grind
def GX(D:Nat):Deferred:={target:=.collected D,args:=#[]}
def Marks(C:Cx)(ds:List Deferred)(w:World)(σ:Sp):Prop:=
 ∃ Ds:List Nat,Ds.Nodup∧ds=Ds.map GX∧∀ D∈Ds,σ.ow D=some (.mark C.E.dp)∧C.W D∧w.heap[D]? =some (.deferred (some []))
theorem Marks.nil{C:Cx}{w:World}{σ:Sp} : Marks C [] w σ:=⟨[],List.nodup_nil,rfl,fun _ h=>by cases h⟩
structure au(C:Cx)(st:St)(a:Act)(w:World)(σ:Sp):Prop where
 size:a.tmps.size=C.nt
 defers:Marks C a.defers w σ
 fr:∀ d,SR C w σ st a d (ay st.fr d) (a.tmps.getD d undef)
 bx:∀ k cs,st.box C.E.dp k=some cs→∃ vs T,j6 C w σ k cs vs T
 hpd:∀ k cs,k.dp≠C.E.dp→st.hp k=some cs→k.dp<C.E.dp∧∀ c∈cs,c.deep k.dp=true
 own:∀ b l,σ.ow b=some l→b<w.heap.size
 bS:∀ b,σ.I b→b<w.heap.size∧σ.ow b=none
 new:∀ b,w.heap.size≤b→C.W b∧bI.n0≤b
 lay:JN w σ.I
structure cK(C:Cx)(w:World)(σ:Sp)(w':World)(σ':Sp):Prop where
 size:w.heap.size≤w'.heap.size
 aN:∀ b,b<w.heap.size→¬C.W b→w'.heap[b]? =w.heap[b]?
 up:∀ b,σ.I b→σ'.I b
 bS:∀ b,σ.I b→w'.heap[b]? =w.heap[b]?
 dn:∀ b,σ'.I b→σ.I b∨C.W b
 kap:∀ k,k.dp<C.E.dp→σ'.κ k=σ.κ k
 ow:∀ b,b<w.heap.size→¬C.W b→σ'.ow b=σ.ow b
 io:w'.os=w.os∧w'.output=w.output
theorem cK.refl(C:Cx)(w:World)(σ:Sp):cK C w σ w σ:=⟨aT _,fun _ _ _=>rfl,fun _ h=>h,fun _ _=>rfl,fun _ h=>.inl h,fun _ _=>rfl,fun _ _ _=>rfl,rfl,rfl⟩
theorem cK.trans{C:Cx}{w w' w'':World}{σ σ' σ'':Sp}(h:cK C w σ w' σ')(h':cK C w' σ' w'' σ''):cK C w σ w'' σ'':=
 ⟨bU h.size h'.size,fun b hb hW=>(h'.aN b (eB hb h.size) hW).trans (h.aN b hb hW),fun b hb=>h'.up b (h.up b hb),
  fun b hb=>(h'.bS b (h.up b hb)).trans (h.bS b hb),fun b hb=>(h'.dn b hb).elim (fun h1=>h.dn b h1) .inr,
  fun k hk=>(h'.kap k hk).trans (h.kap k hk),fun b hb hW=>(h'.ow b (eB hb h.size) hW).trans (h.ow b hb hW),h'.io.1.trans h.io.1,h'.io.2.trans h.io.2⟩
section
variable {C:Cx}{w w':World}{σ σ':Sp}
theorem eW.aN{L:dL}{wr:Prop}{t:TypeId}{es:List AV}{g cap:Nat}{cs:Array Value}(h:eW C.P C.W w σ L wr t es g cap cs)
  (hg:w'.heap[g]? =w.heap[g]?) (how:σ'.ow g=some L) (hI:∀ b,σ.I b→σ'.I b) (hh:∀ b,σ.I b→w'.heap[b]? =w.heap[b]?):eW C.P C.W w' σ' L wr t es g cap cs:=
 ⟨how,h.wr,hg.trans h.hh,h.pos,h.nc,h.ecap,h.max,h.size,h.pure,h.one,fun j e m c he hc=>(h.cell j e m c he hc).mono hI hh (fun k hk=>by
  have:=lC (k:=k) c (jX (h.pure e (aP he)) c (aP hc))
  grind),h.base⟩
theorem OwnAt.aN{L:dL}{wr:Prop}{t:TypeId}{es:List AV}{v:Value}(h:OwnAt C.P C.W w σ L wr t es v)
  (hg:∀ g,σ.ow g=some L→w'.heap[g]? =w.heap[g]? ∧σ'.ow g=some L) (hI:∀ b,σ.I b→σ'.I b) (hh:∀ b,σ.I b→w'.heap[b]? =w.heap[b]?):OwnAt C.P C.W w' σ' L wr t es v:=by
 rcases h with h | ⟨g,cap,cs,hv,hr⟩
 ·exact .inl h
 ·exact .inr ⟨g,cap,cs,hv,hr.aN (hg g hr.ow).1 (hg g hr.ow).2 hI hh⟩
theorem CR.aN{k:Key}{off:Nat}{c:AV}{v:Value}(h:CR C w σ k off c v)
  (hg:∀ g,σ.ow g=some (.rowC k off)→w'.heap[g]? =w.heap[g]? ∧σ'.ow g=some (.rowC k off)) (hI:∀ b,σ.I b→σ'.I b) (hh:∀ b,σ.I b→w'.heap[b]? =w.heap[b]?)
  (hk:∀ k,c.cJ k=false→σ'.κ k=σ.κ k) (hw:∀ b g,σ.ow b=some (.grp C.E.dp g)→w'.heap[b]? =w.heap[b]? ∧σ'.ow b=some (.grp C.E.dp g)):CR C w' σ' k off c v:=by
 cases c with
 | o t es=>exact OwnAt.aN h hg hI hh
 | w g t x=>exact pt.aN h (fun b hb=>hw b g hb) fun _ h=>h
 | bp t k' u=>
  obtain ⟨rfl,h2⟩:=h
  exact ⟨rfl,by grind [AV.cJ]⟩
 | _=>exact VR.mono h hI hh hk
structure iB(C:Cx)(w:World)(σ:Sp)(w':World)(σ':Sp)(L:Option dL):Prop where
 blk:∀ b l,σ.ow b=some l→some l≠L→w'.heap[b]? =w.heap[b]? ∧σ'.ow b=some l
 bS:∀ b,σ.I b→w'.heap[b]? =w.heap[b]?
 up:∀ b,σ.I b→σ'.I b
 kap:σ'.κ=σ.κ
 size:w.heap.size≤w'.heap.size
 own:∀ b l,σ'.ow b=some l→b<w'.heap.size
 dn:∀ b,σ'.I b→b<w'.heap.size∧σ'.ow b=none
theorem Marks.same{ds:List Deferred}{M:Option dL}(h:Marks C ds w σ)(hs:iB C w σ w' σ' M)(hM:some (.mark C.E.dp)≠M):Marks C ds w' σ':=by
 obtain ⟨Ds,h0,h1,h2⟩:=h
 refine ⟨Ds,h0,h1,fun D hD=>?_⟩
 obtain ⟨h3,h4,h5⟩:=h2 D hD
 obtain ⟨h6,h7⟩:=hs.blk D _ h3 hM
 grind
theorem OwnAt.same{L:dL}{M:Option dL}{wr:Prop}{t:TypeId}{es:List AV}{v:Value}(h:iB C w σ w' σ' M)(hL:some L≠M)(ho:OwnAt C.P C.W w σ L wr t es v) :
  OwnAt C.P C.W w' σ' L wr t es v:=ho.aN (fun g hg=>h.blk g L hg hL) h.up h.bS
theorem VR.same{M:Option dL}{x:AV}{v:Value}(h:iB C w σ w' σ' M)(hv:VR w σ.I σ.κ x v):VR w' σ'.I σ'.κ x v:=
 hv.mono h.up h.bS fun k _=>by rw [h.kap]
theorem CR.same{M:Option dL}{k:Key}{off:Nat}{c:AV}{v:Value}(h:iB C w σ w' σ' M)(hL:some (.rowC k off)≠M)(hc:CR C w σ k off c v)(hG:∀ g,some (.grp C.E.dp g)≠M:=by simp [Pl.pr]):CR C w' σ' k off c v:=
 hc.aN (fun g hg=>h.blk g _ hg hL) h.up h.bS (fun k _=>by rw [h.kap]) fun b g hb=>h.blk b _ hb (hG g)
theorem pt.same{M:Option dL}{g:Nat}{t:TypeId}{x:AV}{v:Value}(h:iB C w σ w' σ' M)(hG:some (.grp C.E.dp g)≠M)(hw:pt C.W C.E.dp w σ g t x v):pt C.W C.E.dp w' σ' g t x v:=
 hw.aN (fun b hb=>h.blk b _ hb hG) fun _ h=>h
end
theorem qu(d:Nat)(x:AV)(fr:List (Nat×AV))(d':Nat):ay ((d,x)::fr) d'=if d=d' then x else ay fr d':=rfl
theorem mF(fr:List (Nat×AV))(pl:Pl)(d:Nat) :
  ay (fr.map fun x=>(x.1,if x.2.jf pl=true then .u else x.2)) d=if (ay fr d).jf pl=true then .u else ay fr d:=by
 induction fr with
 | nil=>simp [ay,AV.jf]
 | cons y fr ih=>
  grind [ay]
theorem jJ(st:St)(pl:Pl)(d:Nat):(ay (st.aX pl).fr d).jf pl=false:=by
 unfold St.aX
 rw [mF]
 split
 ·rfl
 grind
theorem Nt(dp:Nat)(st:St)(pl p:Pl):(st.aX pl).rowAt dp p=st.rowAt dp p:=by
 cases p with
 | s d=>
  simp only [St.rowAt,St.aX,mF]
  grind [AV.jf]
 | c k off=>rfl
theorem Dg(dp:Nat)(st:St)(pl:Pl)(k:Key):(st.aX pl).box dp k=st.box dp k:=rfl
theorem FG(a:Act)(d d':Nat)(v:Value)(hd:d<a.tmps.size):(a.put (some d) v).tmps.getD d' undef=if d=d' then v else a.tmps.getD d' undef:=by
 simp only [Act.put,bA,tE]
 grind
section
variable {C:Cx}{st:St}{a:Act}{w:World}{σ:Sp}
theorem FH{d:Nat}{x:AV}{v:Value}(hx:x.copy=true∨x= .u)(h:VR w σ.I σ.κ x v):SR C w σ st a d x v:=by
 cases x<;>first | exact h | grind [AV.copy]
theorem SR.Dh{d:Nat}{x:AV}{v:Value}(hx:x.copy=true)(h:SR C w σ st a d x v):VR w σ.I σ.κ x v:=by
 cases x<;>first | exact h | (simp [AV.copy] at hx)
theorem SR.FI{st':St}{a':Act}{d:Nat}{x:AV}{v:Value}(h:SR C w σ st a d x v)
  (hr:∀ pl,x.jf pl=true→(∃ r,st'.rowAt C.E.dp pl=some r)→st'.rowAt C.E.dp pl=st.rowAt C.E.dp pl∧fN w σ a' pl=fN w σ a pl):SR C w σ st' a' d x v:=by
 cases x with
 | r pl=>
  intro hs
  obtain ⟨r,hr'⟩:=gd.1 hs
  obtain ⟨h1,h2⟩:=hr pl (by simp [AV.jf]) ⟨r,hr'⟩
  exact (h (by grind)).trans h2.symm
 | v pl lo len=>
  intro t es ht hl
  obtain ⟨h1,h2⟩:=hr pl (by simp [AV.jf]) ⟨_,ht⟩
  rw [h2]
  exact h t es (h1▸ht) hl
 | q pl i sz off=>
  intro t es ht hl
  obtain ⟨h1,h2⟩:=hr pl (by simp [AV.jf]) ⟨_,ht⟩
  rw [h2]
  exact h t es (h1▸ht) hl
 | ag cs rs=>
  refine wG.to h (fun c _ v hv=>hv) (fun q hq hs=>?_)
  obtain ⟨r,hr'⟩:=gd.1 hs
  obtain ⟨h1,h2⟩:=hr (.s q.2) (lD.2 ⟨q,hq,by simp⟩) ⟨r,hr'⟩
  exact ⟨by grind,h2⟩
 | _=>exact h
theorem au.put{d:Nat}{x:AV}{v:Value}(h:au C st a w σ)(hd:d<C.nt)(hx:SR C w σ st a d x v)
  (hb:∀ t es,x= .o t es→∀ d',(ay st.fr d').jf (.s d)=false):au C (st.cS d x) (a.put (some d) v) w σ:=by
 have hd':d<a.tmps.size:=h.size▸hd
 have hrow:∀ pl,pl≠.s d→(st.cS d x).rowAt C.E.dp pl=st.rowAt C.E.dp pl∧fN w σ (a.put (some d) v) pl=fN w σ a pl:=by
  intro pl hne
  cases pl with
  | s d'=>
   grind [St.rowAt,St.cS,qu,fN,FG]
  | c k off=>exact ⟨rfl,rfl⟩
 have hself:∀ r,(st.cS d x).rowAt C.E.dp (.s d)=some r→∃ t es,x= .o t es:=by
  grind [St.rowAt,St.cS,qu]
 refine ⟨by simp [Act.put,h.size],(show Marks C (a.put (some d) v).defers w σ from h.defers),fun d'=>?_,h.bx,h.hpd,h.own,h.bS,h.new,h.lay⟩
 rw [FG a d d' v hd']
 simp only [St.cS,qu]
 split
 ·rename_i hdd
  subst hdd
  refine hx.FI fun pl hpl ⟨r,hr⟩=>?_
  by_cases hp:pl= .s d
  ·subst hp
   obtain ⟨t,es,rfl⟩:=hself r hr
   simp [AV.jf] at hpl
  ·exact hrow pl hp
 ·refine (h.fr d').FI fun pl hpl ⟨r,hr⟩=>?_
  by_cases hp:pl= .s d
  ·subst hp
   obtain ⟨t,es,rfl⟩:=hself r hr
   grind
  ·exact hrow pl hp
theorem au.forget{st':St}(h:au C st a w σ)(hfr:∀ d,ay st'.fr d= .u∨ay st'.fr d=ay st.fr d)
  (hbx:∀ k cs,st'.box C.E.dp k=some cs→st.box C.E.dp k=some cs) (hhp:st'.hp=st.hp):au C st' a w σ:=by
 refine ⟨h.size,h.defers,fun d=>?_,fun k cs hk=>h.bx k cs (hbx k cs hk),hhp▸h.hpd,h.own,h.bS,h.new,h.lay⟩
 have hrow:∀ pl r,st'.rowAt C.E.dp pl=some r→st.rowAt C.E.dp pl=some r:=by
  intro pl r hr
  cases pl with
  | s d'=>
   grind [St.rowAt]
  | c k off=>
   grind [St.rowAt]
 rcases hfr d with e | e
 ·rw [e];exact VR.u _
 ·rw [e]
  exact (h.fr d).FI (by grind)
theorem au.aX(h:au C st a w σ)(pl:Pl):au C (st.aX pl) a w σ:=
 h.forget (fun d=>by
  simp only [St.aX,mF]
  grind) (fun _ _ h=>h) rfl
structure Idle(C:Cx)(st:St)(L:Option dL):Prop where
 sl:∀ d t es,ay st.fr d= .o t es→some (.rowS C.E.dp d)≠L
 bx:∀ k cs,st.box C.E.dp k=some cs→some (.box k)≠L
 ce:∀ k cs off t es,st.box C.E.dp k=some cs→cs[off]? =some (.o t es)→some (.rowC k off)≠L
 gr:∀ g,some (.grp C.E.dp g)≠L:=by simp
 mrk:some (.mark C.E.dp)≠L:=by simp
theorem Idle.none:Idle C st none:=⟨fun _ _ _ _=>by simp,fun _ _ _=>by simp,fun _ _ _ _ _ _ _=>by simp,fun _=>by simp,by simp⟩
structure agN(C:Cx)(st:St)(L:Option dL):Prop where
 sl:∀ d t es,ay st.fr d= .o t es→some (.rowS C.E.dp d)≠L
 bx:∀ k cs,st.box C.E.dp k=some cs→some (.box k)≠L
 ce:∀ k cs off t es,st.box C.E.dp k=some cs→cs[off]? =some (.o t es)→some (.rowC k off)≠L
 gr:∀ g,some (.grp C.E.dp g)≠L
theorem au.Rj{w':World}{σ':Sp}{L:Option dL}(h:au C st a w σ)(hs:iB C w σ w' σ' L)(hi:agN C st L)(hm:Marks C a.defers w' σ'):au C st a w' σ':=by
 have hbox:∀ k cs,st.box C.E.dp k=some cs→w'.heap[σ'.κ k]? =w.heap[σ.κ k]? :=by
  intro k cs hk
  obtain ⟨vs,T,hb⟩:=h.bx k cs hk
  rw [hs.kap]
  exact (hs.blk _ _ hb.ow (hi.bx k cs hk)).1
 refine ⟨h.size,hm,fun d=>?_,fun k cs hk=>?_,h.hpd,hs.own,hs.dn,fun b hb=>h.new b (bU hs.size hb),h.lay.aN hs.up hs.bS⟩
 ·have:=h.fr d
  have hpv:∀ pl r,st.rowAt C.E.dp pl=some r→fN w' σ' a pl=fN w σ a pl:=by
   intro pl r hr
   cases pl with
   | s d'=>rfl
   | c k off=>
    grind [St.rowAt,fN]
  cases hx:ay st.fr d with
  | o t es=>rw [hx] at this;exact OwnAt.same hs (hi.sl d t es hx) this
  | r pl=>
   rw [hx] at this
   intro hsome
   obtain ⟨r,hr⟩:=gd.1 hsome
   rw [hpv pl r hr]
   exact this hsome
  | v pl lo len=>
   rw [hx] at this
   intro t es ht hl
   rw [hpv pl _ ht]
   exact this t es ht hl
  | q pl i sz off=>
   rw [hx] at this
   intro t es ht hl
   rw [hpv pl _ ht]
   exact this t es ht hl
  | w g t x=>rw [hx] at this;exact pt.same hs (hi.gr g) this
  | ag cs rs=>rw [hx] at this;exact wG.to this (fun c _ v hv=>VR.same hs hv) (fun _ _ hr=>⟨hr,rfl⟩)
  | _=>rw [hx] at this;exact VR.same hs this
 ·obtain ⟨vs,T,hb⟩:=h.bx k cs hk
  refine ⟨vs,T,(hbox k cs hk).trans hb.hh,hb.size,?_,fun hw=>?_,hb.one,fun off c hc=>?_,hb.ty,by rw [hs.kap];exact hb.kb⟩
  ·rw [hs.kap];exact (hs.blk _ _ hb.ow (hi.bx k cs hk)).2
  ·rw [hs.kap];exact hb.wr hw
  ·have:=hb.cell off c hc
   cases c with
   | o t es=>exact OwnAt.same hs (hi.ce k cs off t es hk hc) this
   | w g t x=>exact pt.same hs (hi.gr g) this
   | bp t k' u=>exact ⟨this.1,by rw [hs.kap];exact this.2⟩
   | _=>exact VR.same hs this
theorem au.GY{w':World}{σ':Sp}{L:Option dL}(h:au C st a w σ)(hs:iB C w σ w' σ' L)(hi:Idle C st L):au C st a w' σ':=
 h.Rj hs ⟨hi.sl,hi.bx,hi.ce,hi.gr⟩ (h.defers.same hs hi.mrk)
theorem au.same{w':World}{σ':Sp}(h:au C st a w σ)(hs:iB C w σ w' σ' none):au C st a w' σ':=h.GY hs .none
end
variable [bI]
mutual
def Ak:Value→AV→Bool
 | .bool x,.b y=>x==y
 | .int k n,.i k' n'=>decide (k=k')&&n==n'
 | .string s,.s l=>s.data.toList==l
 | .slice none 0 0,.n=>true
 | .slice none 0 0,.l _ []=>true
 | .pointer none,.z=>true
 | .nilFunc,.nf=>true
 | .nilIface,.ni=>true
 | .agg vs,.a cs=>vq vs.toList cs&&cs.all AV.one
 | .tuple vs,.tp cs=>vq vs.toList cs
 | _,_=>false
def vq:List Value→List AV→Bool
 | [],[]=>true
 | v::vs,c::cs=>Ak v c&&vq vs cs
 | _,_=>false
end
def bP:Operand→ba→Bool
 | .tmp t,.t n=>t==n
 | .const v,.c x=>Ak v x
 | .func f,.c (.f g [])=>f==g&&decide (f<1000000)
 | _,_=>false
def eb:List Operand→List ba→Bool
 | [],[]=>true
 | y::ys,x::xs=>bP y x&&eb ys xs
 | _,_=>false
section
variable {w:World}{I:Nat→Prop}{κ:Key→Nat}
mutual
theorem Er:(v:Value)→(x:AV)→Ak v x=true→VR w I κ x v∧x.pure=true
 | .bool x,.b y,h=>by
  have:x=y:=by simpa [Ak] using h
  subst this;exact ⟨.b _,rfl⟩
 | .int k n,.i k' n',h=>by
  obtain ⟨h1,h2⟩:k=k'∧n=n':=by simpa [Ak] using h
  subst h1;subst h2;exact ⟨.i _ _,rfl⟩
 | .string s,.s l,h=>by
  have:s.data.toList=l:=by simpa [Ak] using h
  subst this
  have e:s=⟨s.data.toList.toArray⟩:=by cases s;simp
  refine ⟨?_,rfl⟩
  rw [e]
  exact .s _
 | .slice none 0 0,.n,_=>⟨.n,rfl⟩
 | .slice none 0 0,.l t [],_=>⟨.lnil t none 0,rfl⟩
 | .pointer none,.z,_=>⟨.z,rfl⟩
 | .nilFunc,.nf,_=>⟨.nf,rfl⟩
 | .nilIface,.ni,_=>⟨.ni,rfl⟩
 | .agg vs,.a cs,h=>by
  obtain ⟨h1,h2⟩:vq vs.toList cs=true∧cs.all AV.one=true:=by simpa [Ak] using h
  obtain ⟨hl,hc⟩:=uW vs.toList cs h1
  refine ⟨.a cs vs (by simpa using hl.symm) (fun c hc=>by simpa using List.all_eq_true.1 h2 c hc) fun m c hm=>?_,?_⟩
  ·have:=(hc m c hm).1;simpa using this
  ·exact jk fun x hx=>by
    obtain ⟨m,hm⟩:=dZ.1 hx
    exact (hc m x hm).2
 | .tuple vs,.tp cs,h=>by
  have h1:vq vs.toList cs=true:=by simpa [Ak] using h
  obtain ⟨hl,hc⟩:=uW vs.toList cs h1
  refine ⟨.tp cs vs (by simpa using hl.symm) fun m c hm=>?_,?_⟩
  ·have:=(hc m c hm).1;simpa using this
  ·exact jk fun x hx=>by
    obtain ⟨m,hm⟩:=dZ.1 hx
    exact (hc m x hm).2
theorem uW:(vs:List Value)→(cs:List AV)→vq vs cs=true→
  vs.length=cs.length∧∀ (m:Nat)(c:AV),cs[m]? =some c→VR w I κ c (vs[m]?.getD undef)∧c.pure=true
 | [],[],_=>⟨rfl,fun m c h=>by simp at h⟩
 | v::vs,c::cs,h=>by
  obtain ⟨h1,h2⟩:Ak v c=true∧vq vs cs=true:=by simpa [vq] using h
  obtain ⟨hl,hc⟩:=uW vs cs h2
  refine ⟨by simp [hl],fun m d hm=>?_⟩
  cases m with
  | zero=>
   have:c=d:=by simpa using hm
   subst this
   simpa using Er v c h1
  | succ m=>simpa using hc m d (by simpa using hm)
end
end
section
variable {C:Cx}{st:St}{a:Act}{w:World}{σ:Sp}
theorem au.uG(h:au C st a w σ){y:Operand}{x:ba}(hl:bP y x=true)(hc:(st.ev x).copy=true):VR w σ.I σ.κ (st.ev x) (a.eval y):=by
 cases x with
 | t n=>
  cases y with
  | tmp t=>
   have:t=n:=by simpa [bP] using hl
   subst this
   exact (h.fr t).Dh hc
  | _=>simp [bP] at hl
 | c z=>
  cases y with
  | const v=>exact (Er v z hl).1
  | func f=>
   cases z<;>simp [bP] at hl
   rename_i g caps
   cases caps<;>simp at hl
   obtain ⟨hl,hg⟩:=hl
   subst hl
   exact VR.f _ [] #[] hg rfl fun m c hm=>by simp at hm
  | _=>simp [bP] at hl
theorem s0{y:Operand}{z:AV}(hl:bP y (.c z)=true):z.pure=true:=by
 cases y with
 | const v=>exact (Er (w:=default) (I:=fun _=>False) (κ:=fun _=>0) v z hl).2
 | func f=>
  cases z<;>simp [bP] at hl
  rename_i g caps
  cases caps<;>simp at hl
  rfl
 | _=>simp [bP] at hl
theorem AF{y:Operand}{n:Nat}(hl:bP y (.t n)=true):y= .tmp n:=by
 cases y with
 | tmp t=>
  have:t=n:=by simpa [bP] using hl
  rw [this]
 | _=>simp [bP] at hl
theorem au.slot(h:au C st a w σ){y:Operand}{n:Nat}(hl:bP y (.t n)=true):SR C w σ st a n (ay st.fr n) (a.eval y):=by
 rw [AF hl];exact h.fr n
theorem OwnAt.Di{P:Program}{W:Nat→Prop}{L:dL}{wr wr':Prop}{t:TypeId}{es:List AV}{v:Value}(h:OwnAt P W w σ L wr t es v)(hw:wr'→wr):OwnAt P W w σ L wr' t es v:=by
 rcases h with h | ⟨g,cap,cs,hv,hr⟩
 ·exact .inl h
 ·exact .inr ⟨g,cap,cs,hv,hr.ow,fun x=>hr.wr (hw x),hr.hh,hr.pos,hr.nc,hr.ecap,hr.max,hr.size,hr.pure,hr.one,hr.cell,hr.base⟩
theorem au.row(h:au C st a w σ){pl:Pl}{t:TypeId}{es:List AV}(hr:st.rowAt C.E.dp pl=some (t,es)) :
  OwnAt C.P C.W w σ (pl.pr C.E.dp) (pl.jr C.E=true) t es (fN w σ a pl):=by
 cases pl with
 | s d=>
  simp only [St.rowAt] at hr
  have:=h.fr d
  cases hx:ay st.fr d<;>rw [hx] at hr this<;>simp at hr
  obtain ⟨rfl,rfl⟩:=hr
  exact OwnAt.Di this fun _=>trivial
 | c k off=>
  simp only [St.rowAt] at hr
  cases hb:st.box C.E.dp k with
  | none=>simp [hb] at hr
  | some cs=>
   simp only [hb] at hr
   cases hc:cs[off]? with
   | none=>simp [hc] at hr
   | some c=>
    obtain ⟨vs,T,hbx⟩:=h.bx k cs hb
    have:=hbx.cell off c hc
    simp only [hc] at hr
    cases c<;>simp at hr
    obtain ⟨rfl,rfl⟩:=hr
    simp only [fN,hbx.hh]
    exact this
def yd(P:Program)(t:TypeId):Option Bool:=(P.underlying t).map fun
 | .struct _=>true
 | .array _ _=>true
 | _=>false
def s7(P:Program)(t:TypeId)(n:Option Nat):Bool:=
 match n with
 | none=>yd P t==some false&&decide (P.cellsOf t=1)
 | some m=>yd P t==some true&&(P.info? t).isSome&&decide (P.cellsOf t=m)
theorem qv{P:Program}{t:TypeId}{x:Bool}(h:yd P t=some x)(w:World):(isAgg t).run P w= .ok x w:=by
 unfold yd at h
 cases hu:P.underlying t with
 | none=>simp [hu] at h
 | some d=>
  simp only [hu,fg,jm] at h
  unfold isAgg
  rw [Sem.run_bind,run_underlying hu w]
  cases d<;>simp_all
theorem jC{P:Program}{t:TypeId}(h:(P.info? t).isSome=true)(w:World):(sizeOf t).run P w= .ok (P.cellsOf t) w:=by
 obtain ⟨i,hi⟩:=gd.1 h
 simp [sizeOf,typeInfo,hi,Program.cellsOf]
theorem add_lit(g o j:Nat):(⟨g,o,none⟩:Addr).add j=⟨g,o+j,none⟩:=by unfold Addr.add;split<;>simp_all
theorem uX{g:Nat}{vs:Array Value}{T:TypeId}{fz:Nat×Nat}(hh:w.heap[g]? =some (.cells vs T fz))(o:Nat):w.cell? ⟨g,o,none⟩=vs[o]? :=by
 simp [World.cell?,hh]
theorem zH{P:Program}{I:Nat→Prop}{κ:Key→Nat}{g b:Nat}{vs:Array Value}{T:TypeId}{fz:Nat×Nat}{cs:List AV}{n:Option Nat}{off:Nat}{y:AV}{t:TypeId}
  (hh:w.heap[g]? =some (.cells vs T fz)) (hsize:b+cs.length≤vs.size) (hcell:∀ off c,cs[off]? =some c→c.copy=true→VR w I κ c (vs.getD (b+off) undef))
  (hone:∀ c∈cs,c.copy=true→c.one=true) (hy:y.copy=true) (hp:pick n off cs=some y) (hn:s7 P t n=true) :
  ∃ v,(loadVar t ⟨g,b+off,none⟩).run P w= .ok v w∧VR w I κ y v:=by
 cases n with
 | none=>
  simp only [pick] at hp
  have hlt:off<cs.length:=by
   rcases lF off cs.length with h | h
   ·exact h
   ·simp [h] at hp
  have hlt':b+off<vs.size:=by omega
  obtain ⟨h1,_⟩:yd P t=some false∧P.cellsOf t=1:=by simpa [s7] using hn
  have hc:w.cell? ⟨g,b+off,none⟩=some vs[b+off]:=by rw [uX hh];simp [hlt']
  refine ⟨vs[b+off],?_,?_⟩
  ·unfold loadVar
   simp [qv h1 w,hc]
  ·have:=hcell off y hp hy
   simpa [hlt'] using this
 | some m=>
  simp only [pick] at hp
  split at hp
  ·rename_i hle
   have hy':y= .a ((cs.drop off).take m):=by simpa using hp.symm
   subst hy'
   have hcp:=za (l:=(cs.drop off).take m) (by simpa [AV.copy] using hy)
   obtain ⟨⟨h1,h2⟩,h3⟩:(yd P t=some true∧(P.info? t).isSome=true)∧P.cellsOf t=m:=by simpa [s7] using hn
   have hl:=run_loadCells (P:=P) w ⟨g,b+off,none⟩ m (fun j=>vs.getD (b+off+j) undef) (fun j hj=>by
    rw [add_lit,uX hh]
    have:b+off+j<vs.size:=by omega
    simp [this])
   refine ⟨.agg (((List.range m).map fun j=>vs.getD (b+off+j) undef).toArray),?_,?_⟩
   ·unfold loadVar
    simp only [Sem.run_bind,qv h1 w,Result.andThen_ok,an,jC h2,h3,hl,Sem.run_pure]
   ·refine VR.a _ _ ?_ (fun c hc=>hone c (fj (eC hc)) (hcp c hc)) fun j c hj=>?_
    ·simp;omega
    ·have hjm:j<m:=by
      rcases lF j m with h | h
      ·exact h
      ·simp [eQ,oc.2 h] at hj
     have hj2:cs[off+j]? =some c:=by
      rw [eQ,aa hjm,gj] at hj
      exact hj
     have hv:=hcell (off+j) c hj2 (hcp c (aP hj))
     simpa [hjm,pX] using hv
  ·cases hp
end
variable [bI]
def tO(P:Program)(t:TypeId)(i:Nat):Option Field:=
 match P.underlying t with
 | some (.struct fs)=>fs[i]?
 | _=>none
def j8(P:Program)(t:TypeId):Option TypeId:=
 match P.underlying t with
 | some (.slice e)=>some e
 | _=>none
def ye(P:Program)(t:TypeId):Bool:=match P.underlying t with
 | some .string=>true
 | _=>false
def IG(P:Program)(t:TypeId):Bool:=match P.underlying t with
 | some .bool=>true
 | _=>false
def sized(P:Program)(t sz:Nat):Bool:=(P.info? t).isSome&&decide (P.cellsOf t=sz)&&decide (0<sz)
def xl(y:Option Operand)(x:Option ba):Bool:=
 match y,x with
 | none,none=>true
 | some y,some x=>bP y x
 | _,_=>false
def uY(P:Program)(t:TypeId):List (Nat×Operand)→List (Nat×Nat×ba)→Bool
 | [],[]=>true
 | (i,y)::ys,(off,sz,x)::xs=>(match tO P t i with
  | some f=>f.offset==off&&sized P f.type sz
  | none=>false)&&bP y x&&uY P t ys xs
 | _,_=>false
def zeroOf(P:Program)(t:TypeId):Option Value:=(P.info? t).bind (·.zero)
def bG(P:Program)(ao:oG)(op:Op):Bool:=
 match ao with
 | .mv x=>match op with | .move y=>bP y x | _=>false
 | .as x=>match op with | .assign y=>bP y x | _=>false
 | .pk c x y=>match op with | .pick c' x' y'=>bP c' c&&bP x' x&&bP y' y | _=>false
 | .bx x=>match op with | .box _ y=>bP y x | _=>false
 | .al zs=>match op with | .alloc t=>(match zeroOf P t with | some v=>vq v.cells.toList zs&&zs.all AV.one | none=>false) | _=>false
 | .ld n x=>match op with | .load t y=>bP y x&&s7 P t n | _=>false
 | .st n x y=>match op with | .store t x' y'=>bP x' x&&bP y' y&&sized P t n | _=>false
 | .fa off x=>match op with
  | .fieldAddr s y i=>bP y x&&(match tO P s i with | some f=>f.offset==off&&(P.info? f.type).isSome&&decide (0<P.cellsOf f.type) | none=>false)
  | _=>false
 | .fd n off x=>match op with
  | .field s y i=>bP y x&&(match tO P s i with | some f=>f.offset==off&&s7 P f.type n | none=>false)
  | _=>false
 | .ia sz arr x i=>match op with
  | .indexAddr t x' i'=>bP x' x&&bP i' i&&(match arr,P.underlying t with
   | none,some (.slice e)=>sized P e sz
   | some n,some (.array n' e)=>n==n'&&sized P e sz
   | _,_=>false)
  | _=>false
 | .bo o bl x y=>match op with
  | .binOp o' t x' y' _=>decide (o=o')&&bP x' x&&bP y' y&&(bl==IG P t)&&decide (o≠.or)
  | .call c=>(match c.callee with | .builtin .max=>true | _=>false)&&(match c.args.toList with
   | [x',y']=>bP x' x&&bP y' y&&decide (o= .or)
   | _=>false)
  | _=>false
 | .no x=>match op with | .unOp .not _ y=>bP y x | _=>false
 | .bs t sz es=>match op with
  | .buildSlice ty len parts=>j8 P ty==some t&&sized P t sz&&len==es.length&&decide (parts.toList.map (·.1)=List.range len)&&eb (parts.toList.map (·.2)) es&&decide (len*sz≤16777216)&&
    (match zeroOf P t with | some v=>v.cells.size==sz | none=>false)
  | _=>false
 | .bd zs fs=>match op with
  | .build t parts=>(match zeroOf P t with | some v=>vq v.cells.toList zs&&zs.all AV.one | none=>false)&&uY P t parts.toList fs&&(match P.underlying t with | some (.struct fs)=>fs.all (fun f=>(P.info? f.type).isSome) | _=>false)
  | _=>false
 | .ms t sz by_ z l=>match op with
  | .makeSlice ty l' c'=>j8 P ty==some t&&sized P t sz&&(P.bytesOf t==by_)&&bP l' l&&bP c' l&&(match zeroOf P t with | some v=>Ak v z&&v.cells.size==sz&&z.cl.all AV.one | none=>false)
  | _=>false
 | .sl t sz x lo hi=>match op with
  | .slice ty x' lo' hi' none=>bP x' x&&xl lo' lo&&xl hi' hi&&(if t=0 then ye P ty else j8 P ty==some t&&sized P t sz)
  | _=>false
 | .ex x i=>match op with | .extract y i'=>bP y x&&i==i' | _=>false
 | .mf f caps=>match op with | .makeFunc (.func f') first caps'=>f==f'&&decide (f'<1000000)&&first.isEmpty&&eb caps'.toList caps||f==1000000+f'&&caps'.isEmpty&&eb first.toList caps | _=>false
 | .ca _ f args=>match op with
  | .call c=>(match c.callee with | .value (.func f')=>f==f' | _=>false)&&eb c.args.toList args
  | _=>false
 | .cf _ x args=>match op with
  | .call c=>(match c.callee with | .value y=>bP y x | _=>false)&&eb c.args.toList args
  | _=>false
 | .c2 f args=>match op with
  | .call c=>(match c.callee with | .value (.func f')=>f==f' | _=>false)&&eb c.args.toList args
  | _=>false
 | .d2 x args=>match op with
  | .call c=>(match c.callee with | .value y=>bP y x | _=>false)&&eb c.args.toList args
  | _=>false
 | .c3 f args=>match op with
  | .call c=>(match c.callee with | .value (.func f')=>f==f' | _=>false)&&eb c.args.toList args
  | _=>false
 | .d3 x args=>match op with
  | .call c=>(match c.callee with | .value y=>bP y x | _=>false)&&eb c.args.toList args
  | _=>false
 | .cr _ f args=>match op with
  | .call c=>(match c.callee with | .value (.func f')=>f==f' | _=>false)&&eb c.args.toList args
  | _=>false
 | .cm _ f args x=>match op with
  | .call c=>(match c.callee with | .value (.func f')=>f==f' | _=>false)&&eb c.args.toList (args++[x])
  | _=>false
 | .ln str x=>match op with
  | .call c=>(match c.callee with | .builtin .len=>true | _=>false)&&(match c.args.toList,c.argTypes.toList with
   | [y],[t]=>bP y x&&(if str then ye P t else (j8 P t).isSome)
   | _,_=>false)
  | _=>false
 | .ap t sz by_ x y=>match op with
  | .call c=>(match c.callee with | .builtin .append=>true | _=>false)&&(match c.args.toList,c.argTypes.toList with
   | [x',y'],[t1,t2]=>bP x' x&&bP y' y&&t1==t2&&j8 P t1==some t&&sized P t sz&&(P.bytesOf t==by_)&&(match zeroOf P t with | some v=>v.cells.size==sz | none=>false)
   | _,_=>false)
  | _=>false
 | .nc x=>match op with | .nilCheck y=>bP y x | _=>false
section
variable {w:World}{I:Nat→Prop}{κ:Key→Nat}{v:Value}
theorem VR.zI{x:Bool}(h:VR w I κ (.b x) v):v= .bool x:=by cases h;rfl
theorem VR.pv{k:IntKind}{n:Int}(h:VR w I κ (.i k n) v):v= .int k n:=by cases h;rfl
theorem VR.Lb{l:List UInt8}(h:VR w I κ (.s l) v):v= .string ⟨l.toArray⟩:=by cases h;rfl
theorem VR.Es(h:VR w I κ .n v):v= .slice none 0 0:=by cases h;rfl
theorem VR.aba(h:VR w I κ .sk v):v=undef:=by cases h;rfl
theorem VR.Rk{k:Key}{off n sz:Nat}(h:VR w I κ (.sp k off n sz) v):∃ cap,n≤cap∧cap≤maxLen∧v= .slice (some ⟨κ k,off,none⟩) n cap:=by
 cases h with
 | sp _ _ _ _ cap h1 h2=>simp_all
theorem VR.xm{k:Key}{off:Nat}(h:VR w I κ (.p k off) v):v= .pointer (some ⟨κ k,off,none⟩):=by cases h;rfl
theorem VR.VF{cs:List AV}(h:VR w I κ (.a cs) v):∃ vs,v= .agg vs∧cs.length=vs.size∧(∀ c∈cs,c.one=true)∧∀ (m:Nat)(c:AV),cs[m]? =some c→VR w I κ c (vs.getD m undef):=by
 cases h with | a _ vs hl h1 hc=>grind
theorem VR.abb{cs:List AV}(h:VR w I κ (.tp cs) v):∃ vs,v= .tuple vs∧cs.length=vs.size∧∀ (m:Nat)(c:AV),cs[m]? =some c→VR w I κ c (vs.getD m undef):=by
 cases h with | tp _ vs hl hc=>grind
theorem VR.IH{g:FuncId}{cs:List AV}(h:VR w I κ (.f g cs) v):∃ vs,(g<1000000∧v= .func (.func g) #[] vs∨¬g<1000000∧v= .func (.func (g - 1000000)) vs #[])∧cs.length=vs.size∧∀ (m:Nat)(c:AV),cs[m]? =some c→VR w I κ c (vs.getD m undef):=by
 cases h with
 | f _ _ vs hg hl hc=>grind
 | fm g0 _ vs hl hc=>grind
theorem VR.Lc{g:FuncId}{cs:List AV}(h:VR w I κ (.f g cs) v)(hg:g<1000000):∃ vs,v= .func (.func g) #[] vs∧cs.length=vs.size∧∀ (m:Nat)(c:AV),cs[m]? =some c→VR w I κ c (vs.getD m undef):=by
 obtain ⟨vs,h1,h2,h3⟩:=h.IH
 grind
theorem VR.abc{g:FuncId}{cs:List AV}(h:VR w I κ (.f g cs) v)(hg:¬g<1000000):∃ vs,v= .func (.func (g - 1000000)) vs #[]∧cs.length=vs.size∧∀ (m:Nat)(c:AV),cs[m]? =some c→VR w I κ c (vs.getD m undef):=by
 obtain ⟨vs,h1,h2,h3⟩:=h.IH
 grind
theorem VR.Ld{x:AV}{off:Nat}(h:VR w I κ (.e x off) v):∃ g o cs T fz,v= .pointer (some ⟨g,o+off,none⟩)∧I g∧w.heap[g]? =some (.cells cs T fz)∧x.pure=true∧o+x.nc≤cs.size∧
  (∀ c∈x.cl,c.one=true)∧∀ (m:Nat)(c:AV),x.cl[m]? =some c→VR w I κ c (cs.getD (o+m) undef):=by
 cases h with | e _ _ g o cs T fz hI hh hp hs h1 hc=>exact ⟨g,o,cs,T,fz,rfl,hI,hh,hp,hs,h1,hc⟩
theorem VR.Lf{t:TypeId}{es:List AV}(h:VR w I κ (.l t es) v):∃ A cap,v= .slice A es.length cap∧(es=[]∨∃ g o cs T fz sz,A=some ⟨g,o,none⟩∧I g∧w.heap[g]? =some (.cells cs T fz)∧(t≠0→(bI.n0≤g→T=t∧fz=(0,0))∧(g<bI.n0→bI.tg t=true))∧0<sz∧
  (∀ e∈es,e.nc=sz)∧o+es.length*sz≤cs.size∧(∀ e∈es,e.pure=true)∧(∀ e∈es,∀ c∈e.cl,c.one=true)∧es.length≤cap∧cap≤maxLen∧
  ∀ (j:Nat)(e:AV)(m:Nat)(c:AV),es[j]? =some e→e.cl[m]? =some c→VR w I κ c (cs.getD (o+j*sz+m) undef)):=by
 cases h with
 | lnil _ A cap=>simp_all
 | l _ _ g o cap cs T fz sz hI hh ht hsz hnc hsize hp h1 hcap hmax hc=>exact ⟨_,cap,rfl,.inr ⟨g,o,cs,T,fz,sz,rfl,hI,hh,ht,hsz,hnc,hsize,hp,h1,hcap,hmax,hc⟩⟩
end
structure JO(C:Cx)(st':St)(a:Act)(w:World)(σ:Sp)(d:Option Nat)(x:AV)(cv:Value)(w':World)(σ':Sp):Prop where
 stp:cK C w σ w' σ'
 conc:au C st' a w' σ'
 val:∀ dd,d=some dd→SR C w' σ' st' a dd x cv
 own:∀ dd t es,d=some dd→x= .o t es→∀ d',(ay st'.fr d').jf (.s dd)=false
def ez(C:Cx)(o:Oper)(d:Option Nat)(a:Act)(w:World)(σ:Sp)(st':St)(x:AV):Prop:=
 ∀ (K:Act→World→Prop)(Q:Exit→Act→World→Prop),(∀ cv w' σ',JO C st' a w σ d x cv w' σ'→K (a.put o.dst cv) w')→o.wp C.P a w K Q
section
variable {C:Cx}{st:St}{a:Act}{w:World}{σ:Sp}{o:Oper}{d:Option Nat}
theorem ez.jK{st':St}{x:AV}{cv:Value}{w':World}{σ':Sp}(hr:(Go.execOp a.eval o).run C.P w= .ok (.value cv) w')(h:JO C st' a w σ d x cv w' σ'):ez C o d a w σ st' x:=by
 intro K Q hK
 unfold Oper.wp
 rw [hr]
 exact hK _ _ _ h
theorem ez.Wd{st':St}{x:AV}{w':World}{σ':Sp}(hr:(Go.execOp a.eval o).run C.P w= .ok .skip w')(h:JO C st' a w σ d x undef w' σ'):ez C o d a w σ st' x:=by
 intro K Q hK
 unfold Oper.wp
 rw [hr]
 exact hK _ _ _ h
theorem ez.quiet{x:AV}{cv:Value}(h:au C st a w σ)(hr:(Go.execOp a.eval o).run C.P w= .ok (.value cv) w)(hx:x.copy=true)(hv:VR w σ.I σ.κ x cv) :
  ez C o d a w σ st x:=
 .jK hr ⟨.refl _ _ _,h,fun _ _=>FH (.inl hx) hv,by grind [AV.copy]⟩
theorem ez.yf{x:AV}{cv:Value}(h:au C st a w σ)(hr:(Go.execOp a.eval o).run C.P w= .ok (.value cv) w)(hx:∀ t es,x≠.o t es)(hv:∀ dd,SR C w σ st a dd x cv) :
  ez C o d a w σ st x:=
 .jK hr ⟨.refl _ _ _,h,fun dd _=>hv dd,by grind⟩
theorem We{n:Nat}{x:AV}{v:Value}(hx:∀ t es,x≠.o t es)(hb:Ei x=false)(h:SR C w σ st a n x v):VR w σ.I σ.κ x v:=by
 cases x<;>first | exact h | exact absurd rfl (hx _ _) | (simp [Ei] at hb)
theorem Rl{n m:Nat}{x:AV}{v:Value}(hx:∀ t es,x≠.o t es)(h:SR C w σ st a n x v):SR C w σ st a m x v:=by
 cases x<;>first | exact h | grind
theorem ma{d:Nat}{x:AV}{v:Value}(h:VR w σ.I σ.κ x v):SR C w σ st a d x v:=by
 cases x<;>first | exact h | cases h
theorem au.eS(h:au C st a w σ){y:Operand}{x:ba}(hl:bP y x=true)(ho:∀ t es,st.ev x≠.o t es)(hb:Ei (st.ev x)=false):VR w σ.I σ.κ (st.ev x) (a.eval y):=by
 cases x with
 | t n=>exact We ho hb (h.slot hl)
 | c z=>exact h.uG hl (dE z (s0 hl))
theorem abd{R:Rec}{Ω:dt}{x:ba}{r:AV×St}(h:au C st a w σ)(hl:bG C.P (.mv x) o.op=true)(he:execOp R Ω C.E st d (.mv x)=some r) :
  ez C o d a w σ r.2 r.1:=by
 obtain ⟨y,hop,hlo⟩:∃ y,o.op= .move y∧bP y x=true:=by
  simp only [bG] at hl;grind
 have hr:(Go.execOp a.eval o).run C.P w= .ok (.value (a.eval y)) w:=by unfold Go.execOp;simp [hop]
 simp only [execOp] at he
 cases x with
 | c z=>
  simp only [St.ev] at he
  have hp:=s0 hlo
  have hc:z.copy=true:=dE z hp
  have hv:=h.uG (x:=.c z) hlo hc
  cases z<;>first | (simp [AV.copy] at hc;done) | skip
  all_goals
   obtain rfl:=ad he
   exact .quiet h hr hc hv
 | t n=>
  have hs:=h.slot hlo
  simp only [St.ev] at he
  cases hx:ay st.fr n with
  | o t es=>
   rw [hx] at he
   obtain rfl:=ad he
   refine .yf h hr (fun _ _ e=>by cases e) fun dd=>?_
   intro _
   rw [AF hlo];rfl
  | _=>
   rw [hx] at he hs
   obtain rfl:=ad he
   exact .yf h hr (fun _ _ e=>by cases e) (by grind [Rl])
theorem abe{R:Rec}{Ω:dt}{c x y:ba}{r:AV×St}(h:au C st a w σ)(hl:bG C.P (.pk c x y) o.op=true)(he:execOp R Ω C.E st d (.pk c x y)=some r) :
  ez C o d a w σ r.2 r.1:=by
 obtain ⟨c',x',y',hop,hc,hx,hy⟩:∃ c' x' y',o.op= .pick c' x' y'∧bP c' c=true∧bP x' x=true∧bP y' y=true:=by
  simp only [bG] at hl;grind
 simp only [execOp] at he
 obtain ⟨z,hz,he⟩:=af.1 he
 have hcb:st.ev c= .b z:=by
  cases hcc:st.ev c<;>rw [hcc] at hz<;>simp [qh] at hz
  rw [hz]
 have hce:a.eval c'= .bool z:=by
  have:=h.uG hc (by rw [hcb];rfl)
  rw [hcb] at this
  exact this.zI
 have hr:(Go.execOp a.eval o).run C.P w= .ok (.value (if z=true then a.eval x' else a.eval y')) w:=by simp_all [Go.execOp,asBool]
 cases z with
 | true=>
  simp only [an] at he hr
  split at he
  ·rename_i hcp
   obtain rfl:=ad he
   exact .quiet h hr hcp (h.uG hx hcp)
  ·cases he
 | false=>
  simp only [aI,bn] at he hr
  split at he
  ·rename_i hcp
   obtain rfl:=ad he
   exact .quiet h hr hcp (h.uG hy hcp)
  ·cases he
theorem abf{R:Rec}{Ω:dt}{x:ba}{r:AV×St}(h:au C st a w σ)(hl:bG C.P (.no x) o.op=true)(he:execOp R Ω C.E st d (.no x)=some r) :
  ez C o d a w σ r.2 r.1:=by
 obtain ⟨t,y,hop,hlo⟩:∃ t y,o.op= .unOp .not t y∧bP y x=true:=by
  simp only [bG] at hl;grind
 simp only [execOp] at he
 obtain ⟨z,hz,he⟩:=af.1 he
 have hcb:st.ev x= .b z:=by
  cases hcc:st.ev x<;>rw [hcc] at hz<;>simp [qh] at hz
  rw [hz]
 have hce:a.eval y= .bool z:=by
  have:=h.uG hlo (by rw [hcb];rfl)
  rw [hcb] at this
  exact this.zI
 obtain rfl:=ad he
 exact .quiet h (cv:=.bool (!z)) (by simp_all [Go.execOp,Op.unary]) rfl (.b _)
theorem abg{R:Rec}{Ω:dt}{x:ba}{i:Nat}{r:AV×St}(h:au C st a w σ)(hl:bG C.P (.ex x i) o.op=true)(he:execOp R Ω C.E st d (.ex x i)=some r) :
  ez C o d a w σ r.2 r.1:=by
 obtain ⟨y,hop,hlo⟩:∃ y,o.op= .extract y i∧bP y x=true:=by
  simp only [bG] at hl;grind
 simp only [execOp] at he
 split at he
 ·rename_i vs hx
  obtain ⟨z,hz,he⟩:=af.1 he
  obtain rfl:=ad he
  obtain ⟨us,hu,hlen,hc⟩:=(hx▸h.eS hlo (by rw [hx];simp) (by rw [hx];rfl)).abb
  have hv:=hc i z hz
  have hi:i<us.size:=by
   grind
  have hr:(Go.execOp a.eval o).run C.P w= .ok (.value us[i]) w:=by simp_all [Go.execOp,Instr.extract]
  simp only [hi,bA,getElem?_pos,od] at hv
  exact .jK hr ⟨.refl _ _ _,h,fun _ _=>ma hv,fun _ _ _ _ e=>by subst e;cases hv⟩
 ·cases he
theorem JP:∀ {ys:List Operand}{xs:List ba},eb ys xs=true→ys.length=xs.length∧∀ (m:Nat) x,xs[m]? =some x→∃ y,ys[m]? =some y∧bP y x=true
 | [],[],_=>by grind
 | y::ys,x::xs,h=>by
  obtain ⟨h1,h2⟩:bP y x=true∧eb ys xs=true:=by simpa [eb] using h
  obtain ⟨hl,hm⟩:=JP h2
  grind
 | [],_::_,h=>by simp [eb] at h
 | _::_,[],h=>by simp [eb] at h
theorem abh{R:Rec}{Ω:dt}{f:FuncId}{xs:List ba}{r:AV×St}(h:au C st a w σ)(hl:bG C.P (.mf f xs) o.op=true)(he:execOp R Ω C.E st d (.mf f xs)=some r) :
  ez C o d a w σ r.2 r.1:=by
 obtain ⟨ys,hop,hlo⟩:∃ ys,(o.op= .makeFunc (.func f) #[] ys∧f<1000000∨∃ g,f=1000000+g∧o.op= .makeFunc (.func g) ys #[])∧eb ys.toList xs=true:=by
  simp only [bG] at hl;grind
 obtain ⟨hlen,hm⟩:=JP hlo
 simp only [execOp] at he
 split at he
 ·rename_i hcp
  obtain rfl:=ad he
  have key:∀ (m:Nat)(c:AV),(xs.map st.ev)[m]? =some c→VR w σ.I σ.κ c ((ys.map a.eval).getD m undef):=fun m c hc'=>by
   rw [gh] at hc'
   obtain ⟨x,hx,rfl⟩:=dN.1 hc'
   obtain ⟨y,hy,hxy⟩:=hm m x hx
   have hv:=h.uG hxy ((by grind [za]))
   simp_all
  rcases hop with ⟨hop,hg⟩ | ⟨g,rfl,hop⟩
  ·exact .quiet h (cv:=.func (.func f) #[] (ys.map a.eval)) (by unfold Go.execOp;simp [hop,Instr.makeFunc]) (by simpa [AV.copy] using hcp) (.f f _ _ hg (by grind) key)
  ·exact .quiet h (cv:=.func (.func g) (ys.map a.eval) #[]) (by unfold Go.execOp;simp [hop,Instr.makeFunc]) (by simpa [AV.copy] using hcp) (.fm g _ _ (by grind) key)
 ·cases he
theorem abi{R:Rec}{Ω:dt}{x:ba}{r:AV×St}(h:au C st a w σ)(hl:bG C.P (.nc x) o.op=true)(he:execOp R Ω C.E st d (.nc x)=some r) :
  ez C o d a w σ r.2 r.1:=by
 obtain ⟨y,hop,hlo⟩:∃ y,o.op= .nilCheck y∧bP y x=true:=by
  simp only [bG] at hl;grind
 simp only [execOp] at he
 split at he
 ·rename_i k off hx
  obtain rfl:=ad he
  have hv:=(hx▸h.eS hlo (by rw [hx];simp) (by rw [hx];rfl))
  exact .quiet h (cv:=a.eval y) (by unfold Go.execOp;simp [hop,hv.xm]) rfl hv
 ·rename_i z off hx
  obtain rfl:=ad he
  have hv:=(hx▸h.eS hlo (by rw [hx];simp) (by rw [hx];rfl))
  obtain ⟨g,o',cs,T,fz,hvv,_⟩:=hv.Ld
  exact .quiet h (cv:=a.eval y) (by simp_all [Go.execOp]) rfl hv
 ·cases he
 ·rename_i g caps hx
  obtain rfl:=ad he
  have hv:=(hx▸h.eS hlo (by rw [hx];simp) (by rw [hx];rfl))
  obtain ⟨vs,hvv,_⟩:=hv.IH
  exact .jK (cv:=a.eval y) (by unfold Go.execOp;rcases hvv with ⟨_,hvv⟩ | ⟨_,hvv⟩<;>simp [hop,hvv]) ⟨.refl _ _ _,h,fun _ _=>ma hv,fun _ _ _ _ e=>by cases e⟩
 ·cases he
end
variable [bI]
section
variable {C:Cx}{st:St}{a:Act}{w:World}{σ:Sp}{o:Oper}{d:Option Nat}{R:Rec}{Ω:dt}{r:AV×St}
theorem Al{P:Program}{t:TypeId}{i:Nat}{f:Field}(h:tO P t i=some f):∃ fs,P.underlying t=some (.struct fs)∧fs[i]? =some f:=by
 unfold tO at h
 split at h
 ·rename_i fs hu;exact ⟨fs,hu,h⟩
 ·cases h
theorem Nu{P:Program}{s:TypeId}{i:Nat}{f:Field}(h:tO P s i=some f)(hi:(P.info? f.type).isSome=true)(hp:0<P.cellsOf f.type)(g b:Nat)(w:World) :
  (Instr.fieldAt s (.pointer (some ⟨g,b,none⟩)) i).run P w= .ok (.pointer (some ⟨g,b+f.offset,none⟩)) w:=by
 obtain ⟨fs,hu,hf⟩:=Al h
 have hne:¬P.cellsOf f.type=0:=by omega
 simp [Instr.fieldAt,run_underlying hu,hf,Instr.sureAddr,fieldPlace,jC hi,hne,add_lit]
theorem au.BA(h:au C st a w σ){pl:Pl}{t:TypeId}{es:List AV}(hr:st.rowAt C.E.dp pl=some (t,es))(hne:es≠[]) :
  ∃ g cap cs,fN w σ a pl= .slice (some ⟨g,0,none⟩) es.length cap∧eW C.P C.W w σ (pl.pr C.E.dp) (pl.jr C.E=true) t es g cap cs:=by
 rcases h.row hr with ⟨h1,_⟩ | h1
 ·exact absurd h1 hne
 ·exact h1
theorem au.GZ(h:au C st a w σ){pl:Pl}{t:TypeId}{es:List AV}(hr:st.rowAt C.E.dp pl=some (t,es)) :
  ∃ A cap,fN w σ a pl= .slice A es.length cap∧es.length≤cap:=by
 rcases h.row hr with ⟨rfl,h2⟩ | ⟨g,cap,cs,hv,hr⟩
 ·exact ⟨_,_,h2,aT _⟩
 ·exact ⟨_,_,hv,hr.ecap⟩
theorem dQ{x:ba}{y:AV}(h:st.ev x=y)(hp:y.pure=false){op:Operand}(hl:bP op x=true):∃ n,x= .t n∧ay st.fr n=y:=by
 cases x with
 | t n=>exact ⟨n,rfl,h⟩
 | c z=>
  have:=s0 hl
  simp only [St.ev] at h
  rw [h,hp] at this
  cases this
theorem abj{off:Nat}{x:ba}(h:au C st a w σ)(hl:bG C.P (.fa off x) o.op=true)(he:execOp R Ω C.E st d (.fa off x)=some r) :
  ez C o d a w σ r.2 r.1:=by
 obtain ⟨s,y,i,f,hop,hlo,hf,rfl,hi,hp⟩:∃ s y i f,o.op= .fieldAddr s y i∧bP y x=true∧tO C.P s i=some f∧f.offset=off∧(C.P.info? f.type).isSome=true∧0<C.P.cellsOf f.type:=by
  simp only [bG] at hl;split at hl
  ·rename_i s y i hy
   simp only [aB] at hl
   obtain ⟨h1,h2⟩:=hl
   split at h2
   ·rename_i f hf
    simp only [aB,cR,cE] at h2
    exact ⟨s,y,i,f,hy,h1,hf,h2.1.1,h2.1.2,h2.2⟩
   ·cases h2
  ·cases hl
 have hrun:∀ g b,a.eval y= .pointer (some ⟨g,b,none⟩)→(Go.execOp a.eval o).run C.P w= .ok (.value (.pointer (some ⟨g,b+f.offset,none⟩))) w:=by
  intro g b hv
  unfold Go.execOp
  simp [hop,hv,Nu hf hi hp]
 simp only [execOp] at he
 split at he
 ·rename_i k b hx
  obtain rfl:=ad he
  have hv:=(hx▸h.eS hlo (by rw [hx];simp) (by rw [hx];rfl)).xm
  exact .quiet h (hrun _ _ hv) rfl (.p _ _)
 ·rename_i z b hx
  obtain rfl:=ad he
  obtain ⟨g,b',cs,T,fz,hv,hI,hh,hpu,hs,h1,hc⟩:=(hx▸h.eS hlo (by rw [hx];simp) (by rw [hx];rfl)).Ld
  exact .quiet h (by rw [hrun _ _ hv,pX]) rfl (.e z _ g b' cs T fz hI hh hpu hs h1 hc)
 ·rename_i pl j sz b hx
  obtain ⟨⟨t,es⟩,hrow,he⟩:=af.1 he
  split at he
  ·rename_i hlt
   obtain rfl:=ad he
   obtain ⟨n,rfl,hn⟩:=dQ hx rfl hlo
   have hs:=hn▸h.slot hlo
   obtain ⟨g,n',cap,hpv,hv⟩:=hs t es hrow hlt
   refine .yf h (hrun _ _ hv) (fun _ _ e=>by cases e) fun dd=>?_
   intro t' es' ht' hl'
   exact ⟨g,n',cap,hpv,by rw [pX]⟩
  ·cases he
 ·cases he
theorem abk{n:Option Nat}{off:Nat}{x:ba}(h:au C st a w σ)(hl:bG C.P (.fd n off x) o.op=true)(he:execOp R Ω C.E st d (.fd n off x)=some r) :
  ez C o d a w σ r.2 r.1:=by
 obtain ⟨s,y,i,f,hop,hlo,hf,rfl,hn⟩:∃ s y i f,o.op= .field s y i∧bP y x=true∧tO C.P s i=some f∧f.offset=off∧s7 C.P f.type n=true:=by
  simp only [bG] at hl;split at hl
  ·rename_i s y i hy
   simp only [aB] at hl
   obtain ⟨h1,h2⟩:=hl
   split at h2
   ·rename_i f hf
    simp only [aB,cR] at h2
    exact ⟨s,y,i,f,hy,h1,hf,h2.1,h2.2⟩
   ·cases h2
  ·cases hl
 obtain ⟨fs,hu,hfi⟩:=Al hf
 simp only [execOp] at he
 split at he
 ·rename_i cs hx
  obtain ⟨z,hz,he⟩:=af.1 he
  obtain rfl:=ad he
  obtain ⟨vs,hv,hlen,h1,hc⟩:=(hx▸h.eS hlo (by rw [hx];simp) (by rw [hx];rfl)).VF
  cases n with
  | none=>
   obtain ⟨hag,_⟩:yd C.P f.type=some false∧C.P.cellsOf f.type=1:=by simpa [s7] using hn
   have hz':cs[f.offset]? =some z:=hz
   have hlt:f.offset<vs.size:=by
    rcases lF f.offset cs.length with h2 | h2
    ·omega
    ·simp [h2] at hz'
   have hvr:=hc f.offset z hz'
   simp only [bA,hlt,getElem?_pos,od] at hvr
   refine .jK (cv:=vs[f.offset]) ?_ ⟨.refl _ _ _,h,fun _ _=>ma hvr,fun _ _ _ _ e=>by subst e;cases hvr⟩
   unfold Go.execOp
   simp [hop,hv,Instr.field,run_underlying hu,hfi,asAgg,part,qv hag,hlt]
  | some m=>
   obtain ⟨⟨hag,hi⟩,hm⟩:(yd C.P f.type=some true∧(C.P.info? f.type).isSome=true)∧C.P.cellsOf f.type=m:=by simpa [s7] using hn
   simp only [pick] at hz
   split at hz
   ·rename_i hle
    have hz':z= .a ((cs.drop f.offset).take m):=by simpa using hz.symm
    subst hz'
    have hvr:VR w σ.I σ.κ (.a ((cs.drop f.offset).take m)) (.agg (vs.extract f.offset (f.offset+m))):=by
     refine .a _ _ ?_ (fun c hc'=>h1 c (fj (eC hc'))) fun j c hj=>?_
     ·simp;omega
     ·have hjm:j<m:=by
       rcases lF j m with h2 | h2
       ·exact h2
       ·simp [eQ,oc.2 h2] at hj
      rw [eQ,aa hjm,gj] at hj
      have hvv:=hc (f.offset+j) c hj
      have e1:f.offset+j<vs.size:=by omega
      have e2:j<min (f.offset+m) vs.size - f.offset:=by omega
      simpa [bA,Array.getElem?_extract,e1,e2] using hvv
    refine .jK (cv:=.agg (vs.extract f.offset (f.offset+m))) ?_ ⟨.refl _ _ _,h,fun _ _=>ma hvr,fun _ _ _ _ e=>by cases e⟩
    unfold Go.execOp
    simp [hop,hv,Instr.field,run_underlying hu,hfi,asAgg,part,qv hag,jC hi,hm]
   ·cases hz
 ·cases he
theorem abl{n:Option Nat}{x:ba}(h:au C st a w σ)(hl:bG C.P (.ld n x) o.op=true)(he:execOp R Ω C.E st d (.ld n x)=some r) :
  ez C o d a w σ r.2 r.1:=by
 obtain ⟨t,y,hop,hlo,hn⟩:∃ t y,o.op= .load t y∧bP y x=true∧s7 C.P t n=true:=by
  simp only [bG] at hl;split at hl
  ·rename_i t y hy
   simp only [aB] at hl
   exact ⟨t,y,hy,hl.1,hl.2⟩
  ·cases hl
 have hrun:∀ g b v,a.eval y= .pointer (some ⟨g,b,none⟩)→(loadVar t ⟨g,b,none⟩).run C.P w= .ok v w→(Go.execOp a.eval o).run C.P w= .ok (.value v) w:=by
  intro g b v hv hr
  unfold Go.execOp
  simp [hop,hv,Instr.loadAt,Instr.sureAddr,hr]
 simp only [execOp] at he
 split at he
 ·rename_i k b hx
  obtain ⟨cs,hbx,he⟩:=af.1 he
  obtain ⟨z,hz,he⟩:=af.1 he
  have hv:=(hx▸h.eS hlo (by rw [hx];simp) (by rw [hx];rfl)).xm
  obtain ⟨vs,T,hB⟩:=h.bx k cs hbx
  have hgen:z.copy=true→r=(z,st)→ez C o d a w σ r.2 r.1:=by
   intro hcp hre
   subst hre
   obtain ⟨v,hr,hvr⟩:=zH (P:=C.P) (I:=σ.I) (κ:=σ.κ) (b:=0) hB.hh (by have:=hB.size;omega) (fun off c hc hcc=>by
     have:=hB.cell off c hc
     rw [fi]
     cases c<;>first | exact this | (simp [AV.copy] at hcc)) (fun c hc hcc=>(hB.one c hc).resolve_right (fun e=>by subst e;simp [AV.copy] at hcc)) hcp hz hn
   rw [fi] at hr
   exact .quiet h (hrun _ _ _ hv hr) hcp hvr
  split at he
  ·rename_i t' es
   obtain rfl:=ad he
   cases n with
   | none=>
    obtain ⟨hag,_⟩:yd C.P t=some false∧C.P.cellsOf t=1:=by simpa [s7] using hn
    have hz':cs[b]? =some (.o t' es):=hz
    have hlt:b<vs.size:=by
     refine eB ?_ hB.size
     rcases lF b cs.length with h2 | h2
     ·exact h2
     ·simp [h2] at hz'
    have hc:w.cell? ⟨σ.κ k,b,none⟩=some vs[b]:=by rw [uX hB.hh];simp [hlt]
    refine .yf h (hrun _ _ vs[b] hv ?_) (fun _ _ e=>by cases e) fun dd _=>?_
    ·unfold loadVar
     simp [qv hag w,hc]
    ·simp [fN,hB.hh,hlt]
   | some m=>
    simp only [pick] at hz
    split at hz<;>simp at hz
  ·split at he
   ·rename_i hcp
    exact hgen hcp (ad he).symm
   ·cases he
 ·rename_i z b hx
  obtain ⟨y',hz,he⟩:=af.1 he
  obtain rfl:=ad he
  obtain ⟨g,b',cs,T,fz,hv,hI,hh,hpu,hs,h1,hc⟩:=(hx▸h.eS hlo (by rw [hx];simp) (by rw [hx];rfl)).Ld
  have hcp:y'.copy=true:=by
   cases n with
   | none=>exact dE _ (jX hpu y' (aP hz))
   | some m=>
    simp only [pick] at hz
    split at hz
    ·have hz':y'= .a ((z.cl.drop b).take m):=by simpa using hz.symm
     subst hz'
     exact dE _ (jk fun c hc'=>jX hpu c (fj (eC hc')))
    ·cases hz
  obtain ⟨v,hr,hvr⟩:=zH (P:=C.P) (I:=σ.I) (κ:=σ.κ) (b:=b') hh hs (fun off c hc' _=>hc off c hc') (fun c hc' _=>h1 c hc') hcp hz hn
  exact .quiet h (hrun _ _ _ hv hr) hcp hvr
 ·rename_i pl i sz b hx
  obtain ⟨⟨t',es⟩,hrow,he⟩:=af.1 he
  obtain ⟨e,hee,he⟩:=af.1 he
  split at he
  ·rename_i hnc
   obtain ⟨y',hz,he⟩:=af.1 he
   obtain rfl:=ad he
   have hlt:i<es.length:=by
    rcases lF i es.length with h2 | h2
    ·exact h2
    ·simp [h2] at hee
   obtain ⟨m,rfl,hm⟩:=dQ hx rfl hlo
   obtain ⟨g,n',cap,hpv,hv⟩:=(hm▸h.slot hlo) t' es hrow hlt
   obtain ⟨g',cap',cs,hpv',hR⟩:=h.BA hrow (fun e=>by subst e;simp at hlt)
   obtain ⟨rfl,rfl,rfl⟩:g=g'∧n'=es.length∧cap=cap':=by
    rw [hpv] at hpv';simpa using hpv'
   have hem:=aP hee
   have hszz:sz=C.P.cellsOf t':=hnc.symm.trans (hR.nc e hem)
   have hpu:=hR.pure e hem
   have hcp:y'.copy=true:=by
    cases n with
    | none=>exact dE _ (jX hpu y' (aP hz))
    | some m=>
     simp only [pick] at hz
     split at hz
     ·have hz':y'= .a ((e.cl.drop b).take m):=by simpa using hz.symm
      subst hz'
      exact dE _ (jk fun c hc'=>jX hpu c (fj (eC hc')))
     ·cases hz
   have hbound:i*sz+e.cl.length≤cs.size:=by
    have h3:e.cl.length=sz:=hnc
    rw [hR.size,h3,←hszz]
    have:(i+1)*sz≤cap*sz:=fk _ (by have:=hR.ecap;omega)
    rw [da] at this
    omega
   obtain ⟨v,hr,hvr⟩:=zH (P:=C.P) (I:=σ.I) (κ:=σ.κ) (b:=i*sz) hR.hh hbound (fun off c hc' _=>by have:=hR.cell i e off c hee hc';rwa [←hszz] at this)
    (fun c hc' _=>hR.one e hem c hc') hcp hz hn
   exact .quiet h (hrun _ _ _ hv hr) hcp hvr
  ·cases he
 ·cases he
end
end Go.Proofs.YtkkkkondjclcnaaGreat.A
