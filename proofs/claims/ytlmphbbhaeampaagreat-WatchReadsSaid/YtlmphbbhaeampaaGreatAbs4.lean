/- How an abstract state lies in the model: who owns which block of memory. -/
import Derived.Test.YtlmphbbhaeampaaGreatAbs3
import Derived.Test.YtlmphbbhaeampaaGreatGl
import Derived.ChangeKeysEq
import Derived.Laws.StructEq
set_option linter.all false
namespace Go.Proofs.YtlmphbbhaeampaaGreat.A
open Go
inductive eI where
 | box (k:Key)
 | rowS (dp d:Nat)
 | rowC (k:Key) (off:Nat)
 | grp (dp g:Nat)
 | mark (dp:Nat)
deriving DecidableEq
def Pl.qf(dp:Nat):Pl→eI
 | .s d=>.rowS dp d
 | .c k off=>.rowC k off
structure Sp where
 κ:Key→Nat
 ow:Nat→Option eI
 I:Nat→Prop
variable [cj]
structure fv(P:Program)(W:Nat→Prop)(w:World)(σ:Sp)(L:eI)(wr:Prop)(t:TypeId)(es:List AV)(g cap:Nat)(cs:Array Value):Prop where
 ow:σ.ow g=some L
 wr:wr→W g
 hh:w.heap[g]? =some (.cells cs t (0,0))
 pos:0<P.cellsOf t
 nc:∀ e∈es,e.nc=P.cellsOf t
 ecap:es.length≤cap
 max:cap≤maxLen
 size:cs.size=cap*P.cellsOf t
 pure:∀ e∈es,e.pure=true
 one:∀ e∈es,∀ c∈e.cl,c.one=true
 cell:∀ (j:Nat)(e:AV)(m:Nat)(c:AV),es[j]? =some e→e.cl[m]? =some c→VR w σ.I σ.κ c (cs.getD (j*P.cellsOf t+m) undef)
 base:cj.n0≤g
def OwnAt(P:Program)(W:Nat→Prop)(w:World)(σ:Sp)(L:eI)(wr:Prop)(t:TypeId)(es:List AV)(v:Value):Prop:=
 (es=[]∧v= .slice none 0 0)∨∃ g cap cs,v= .slice (some ⟨g,0,none⟩) es.length cap∧fv P W w σ L wr t es g cap cs
def qg(W:Nat→Prop)(dp:Nat)(w:World)(σ:Sp)(g:Nat)(t:TypeId)(x:AV)(v:Value):Prop:=
 x.pure=true∧VR w (fun b=>σ.ow b=some (.grp dp g)∧W b∧cj.n0≤b∧∃ cs,w.heap[b]? =some (.cells cs t (0,0))) σ.κ x v
variable {W:Nat→Prop}{g:Nat}{t:TypeId}{x:AV}
theorem qg.bB{W':Nat→Prop}{dp:Nat}{w w':World}{σ σ':Sp}{v:Value}(h:qg W dp w σ g t x v)(hb:∀ b,σ.ow b=some (.grp dp g)→w'.heap[b]? =w.heap[b]? ∧σ'.ow b=some (.grp dp g))(hW:∀ b,W b→W' b):qg W' dp w' σ' g t x v:=
 ⟨h.1,h.2.mono ((by grind)) (fun b h1=>(hb b h1.1).1) (fun k hk=>by rw [lq _ h.1] at hk;cases hk)⟩
structure Cx where
 P:Program
 W:Nat→Prop
 E:Env
 nt:Nat
def gm(w:World)(σ:Sp)(a:Act):Pl→Value
 | .s d=>a.tmps.getD d undef
 | .c k off=>match w.heap[σ.κ k]? with
  | some (.cells vs _ _)=>vs.getD off undef
  | _=>undef
def CR(C:Cx)(w:World)(σ:Sp)(k:Key)(off:Nat)(c:AV)(v:Value):Prop:=
 match c with
 | .o t es=>OwnAt C.P C.W w σ (.rowC k off) ((Pl.c k off).iI C.E=true) t es v
 | .w g t x=>qg C.W C.E.dp w σ g t x v
 | .bp _ k' u=>k'=k∧v=if u=true then .pointer (some ⟨σ.κ k,off,none⟩) else .pointer none
 | c=>VR w σ.I σ.κ c v
variable {k:Key}{off:Nat}{c:AV}
theorem RC{C:Cx}{w:World}{σ:Sp}{v:Value}(h:VR w σ.I σ.κ c v):CR C w σ k off c v:=by
 cases c<;>first | exact h | cases h
structure kP(C:Cx)(w:World)(σ:Sp)(k:Key)(cs:List AV)(vs:Array Value)(T:TypeId):Prop where
 hh:w.heap[σ.κ k]? =some (.cells vs T (0,0))
 size:cs.length≤vs.size
 ow:σ.ow (σ.κ k)=some (.box k)
 wr:(Pl.c k 0).iI C.E=true→C.W (σ.κ k)
 one:∀ c∈cs,c.one=true∨c= .u
 cell:∀ (off:Nat)(c:AV),cs[off]? =some c→CR C w σ k off c (vs.getD off undef)
 ty:∀ t k u,AV.bp t k u∈cs→t=T∧vs.size=cs.length
 kb:(1000000≤k.d→T=(k.d - 1000000) / 1000)∧cj.n0≤σ.κ k
def wT(C:Cx)(w:World)(σ:Sp)(st:St)(a:Act)(cs:List AV)(rs:List (Nat×Nat))(v:Value):Prop:=
 ∃ vs,v= .agg vs∧cs.length=vs.size∧(∀ c∈cs,c.one=true∨c= .u)∧(∀ (m:Nat)(c:AV),cs[m]? =some c→VR w σ.I σ.κ c (vs.getD m undef))∧
  ∀ q∈rs,(st.rowAt C.E.dp (.s q.2)).isSome=true→vs.getD q.1 undef=a.tmps.getD q.2 undef
variable {st':St}{a':Act}{cs:List AV}
theorem wT.to{C:Cx}{w w':World}{σ σ':Sp}{st:St}{a:Act}{rs:List (Nat×Nat)}{v:Value}(h:wT C w σ st a cs rs v)(hV:∀ c∈cs,∀ v,VR w σ.I σ.κ c v→VR w' σ'.I σ'.κ c v)(hR:∀ q∈rs,(st'.rowAt C.E.dp (.s q.2)).isSome=true→(st.rowAt C.E.dp (.s q.2)).isSome=true∧a'.tmps.getD q.2 undef=a.tmps.getD q.2 undef):wT C w' σ' st' a' cs rs v:=by
 obtain ⟨vs,h1,h2,h3,h4,h5⟩:=h
 exact ⟨vs,h1,h2,h3,by grind,by grind⟩
def SR(C:Cx)(w:World)(σ:Sp)(st:St)(a:Act)(d:Nat)(x:AV)(v:Value):Prop:=
 match x with
 | .o t es=>OwnAt C.P C.W w σ (.rowS C.E.dp d) True t es v
 | .r pl=>(st.rowAt C.E.dp pl).isSome=true→v=gm w σ a pl
 | .v pl lo len=>∀ t es,st.rowAt C.E.dp pl=some (t,es)→lo+len≤es.length→
   ∃ A n cap,gm w σ a pl= .slice A n cap∧v= .slice (if cap=lo then A else A.map (·.add (lo*C.P.cellsOf t))) len (cap - lo)
 | .q pl i sz off=>∀ t es,st.rowAt C.E.dp pl=some (t,es)→i<es.length→
   ∃ g n cap,gm w σ a pl= .slice (some ⟨g,0,none⟩) n cap∧v= .pointer (some ⟨g,i*sz+off,none⟩)
 | .w g t x=>qg C.W C.E.dp w σ g t x v
 | .ag cs rs=>wT C w σ st a cs rs v
 | x=>VR w σ.I σ.κ x v
def JT(w:World)(I:Nat→Prop):Prop:=∀ q∈glP,I q.1∧∃ T fz,w.heap[q.1]? =some (.cells q.2 T fz)
theorem JT.bB{w w':World}{I I':Nat→Prop}(h:JT w I)(hI:∀ b,I b→I' b)(hh:∀ b,I b→w'.heap[b]? =w.heap[b]?):JT w' I':=fun q hq=>by
 obtain ⟨h1,T,fz,h2⟩:=h q hq
 grind
def He(D:Nat):Deferred:={target:=.collected D,args:=#[]}
def Marks(C:Cx)(ds:List Deferred)(w:World)(σ:Sp):Prop:=
 ∃ Ds:List Nat,Ds.Nodup∧ds=Ds.map He∧∀ D∈Ds,σ.ow D=some (.mark C.E.dp)∧C.W D∧w.heap[D]? =some (.deferred (some []))
theorem Marks.nil{C:Cx}{w:World}{σ:Sp} : Marks C [] w σ:=⟨[],List.nodup_nil,rfl,fun _ h=>by cases h⟩
structure aw(C:Cx)(st:St)(a:Act)(w:World)(σ:Sp):Prop where
 size:a.tmps.size=C.nt
 defers:Marks C a.defers w σ
 fr:∀ d,SR C w σ st a d (az st.fr d) (a.tmps.getD d undef)
 bx:∀ k cs,st.box C.E.dp k=some cs→∃ vs T,kP C w σ k cs vs T
 hpd:∀ k cs,k.dp≠C.E.dp→st.hp k=some cs→k.dp<C.E.dp∧∀ c∈cs,c.deep k.dp=true
 own:∀ b l,σ.ow b=some l→b<w.heap.size
 cz:∀ b,σ.I b→b<w.heap.size∧σ.ow b=none
 new:∀ b,w.heap.size≤b→C.W b∧cj.n0≤b
 lay:JT w σ.I
structure cX(C:Cx)(w:World)(σ:Sp)(w':World)(σ':Sp):Prop where
 size:w.heap.size≤w'.heap.size
 bB:∀ b,b<w.heap.size→¬C.W b→w'.heap[b]? =w.heap[b]?
 up:∀ b,σ.I b→σ'.I b
 cz:∀ b,σ.I b→w'.heap[b]? =w.heap[b]?
 dn:∀ b,σ'.I b→σ.I b∨C.W b
 kap:∀ k,k.dp<C.E.dp→σ'.κ k=σ.κ k
 ow:∀ b,b<w.heap.size→¬C.W b→σ'.ow b=σ.ow b
 io:w'.os=w.os∧w'.output=w.output
theorem cX.refl(C:Cx)(w:World)(σ:Sp):cX C w σ w σ:=⟨aY _,fun _ _ _=>rfl,fun _ h=>h,fun _ _=>rfl,fun _ h=>.inl h,fun _ _=>rfl,fun _ _ _=>rfl,rfl,rfl⟩
theorem cX.trans{C:Cx}{w w' w'':World}{σ σ' σ'':Sp}(h:cX C w σ w' σ')(h':cX C w' σ' w'' σ''):cX C w σ w'' σ'':=
 ⟨di h.size h'.size,fun b hb hW=>(h'.bB b (eK hb h.size) hW).trans (h.bB b hb hW),fun b hb=>h'.up b (h.up b hb),
  fun b hb=>(h'.cz b (h.up b hb)).trans (h.cz b hb),fun b hb=>(h'.dn b hb).elim (fun h1=>h.dn b h1) .inr,
  fun k hk=>(h'.kap k hk).trans (h.kap k hk),fun b hb hW=>(h'.ow b (eK hb h.size) hW).trans (h.ow b hb hW),h'.io.1.trans h.io.1,h'.io.2.trans h.io.2⟩
section
variable {C:Cx}{w w':World}{σ σ':Sp}
theorem fv.bB{L:eI}{wr:Prop}{es:List AV}{cap:Nat}{cs:Array Value}(h:fv C.P C.W w σ L wr t es g cap cs)(hg:w'.heap[g]? =w.heap[g]?)(aR:σ'.ow g=some L)(hI:∀ b,σ.I b→σ'.I b)(hh:∀ b,σ.I b→w'.heap[b]? =w.heap[b]?):fv C.P C.W w' σ' L wr t es g cap cs:=
 ⟨aR,h.wr,hg.trans h.hh,h.pos,h.nc,h.ecap,h.max,h.size,h.pure,h.one,fun j e m c he hc=>(h.cell j e m c he hc).mono hI hh (fun k hk=>by
  have:=lq (k:=k) c (j0 (h.pure e (bu he)) c (bu hc))
  grind),h.base⟩
theorem OwnAt.bB{L:eI}{wr:Prop}{es:List AV}{v:Value}(h:OwnAt C.P C.W w σ L wr t es v)(hg:∀ g,σ.ow g=some L→w'.heap[g]? =w.heap[g]? ∧σ'.ow g=some L)(hI:∀ b,σ.I b→σ'.I b)(hh:∀ b,σ.I b→w'.heap[b]? =w.heap[b]?):OwnAt C.P C.W w' σ' L wr t es v:=by
 rcases h with h | ⟨g,cap,cs,hv,hr⟩
 ·exact .inl h
 ·exact .inr ⟨g,cap,cs,hv,hr.bB (hg g hr.ow).1 (hg g hr.ow).2 hI hh⟩
theorem CR.bB{v:Value}(h:CR C w σ k off c v)(hg:∀ g,σ.ow g=some (.rowC k off)→w'.heap[g]? =w.heap[g]? ∧σ'.ow g=some (.rowC k off))(hI:∀ b,σ.I b→σ'.I b)(hh:∀ b,σ.I b→w'.heap[b]? =w.heap[b]?)(hk:∀ k,c.cU k=false→σ'.κ k=σ.κ k)(hw:∀ b g,σ.ow b=some (.grp C.E.dp g)→w'.heap[b]? =w.heap[b]? ∧σ'.ow b=some (.grp C.E.dp g)):CR C w' σ' k off c v:=by
 cases c with
 | o t es=>exact OwnAt.bB h hg hI hh
 | w g t x=>exact qg.bB h (fun b hb=>hw b g hb) fun _ h=>h
 | bp t k' u=>
  obtain ⟨rfl,h2⟩:=h
  exact ⟨rfl,by grind [AV.cU]⟩
 | _=>exact VR.mono h hI hh hk
structure iY(C:Cx)(w:World)(σ:Sp)(w':World)(σ':Sp)(L:Option eI):Prop where
 blk:∀ b l,σ.ow b=some l→some l≠L→w'.heap[b]? =w.heap[b]? ∧σ'.ow b=some l
 cz:∀ b,σ.I b→w'.heap[b]? =w.heap[b]?
 up:∀ b,σ.I b→σ'.I b
 kap:σ'.κ=σ.κ
 size:w.heap.size≤w'.heap.size
 own:∀ b l,σ'.ow b=some l→b<w'.heap.size
 dn:∀ b,σ'.I b→b<w'.heap.size∧σ'.ow b=none
theorem Marks.same{ds:List Deferred}{M:Option eI}(h:Marks C ds w σ)(hs:iY C w σ w' σ' M)(hM:some (.mark C.E.dp)≠M):Marks C ds w' σ':=by
 obtain ⟨Ds,h0,h1,h2⟩:=h
 refine ⟨Ds,h0,h1,fun D hD=>?_⟩
 obtain ⟨h3,h4,h5⟩:=h2 D hD
 obtain ⟨h6,h7⟩:=hs.blk D _ h3 hM
 grind
theorem OwnAt.same{L:eI}{M:Option eI}{wr:Prop}{es:List AV}{v:Value}(h:iY C w σ w' σ' M)(hL:some L≠M)(ho:OwnAt C.P C.W w σ L wr t es v):
  OwnAt C.P C.W w' σ' L wr t es v:=ho.bB (fun g hg=>h.blk g L hg hL) h.up h.cz
theorem VR.same{M:Option eI}{v:Value}(h:iY C w σ w' σ' M)(hv:VR w σ.I σ.κ x v):VR w' σ'.I σ'.κ x v:=
 hv.mono h.up h.cz fun k _=>by rw [h.kap]
theorem CR.same{M:Option eI}{v:Value}(h:iY C w σ w' σ' M)(hL:some (.rowC k off)≠M)(hc:CR C w σ k off c v)(hG:∀ g,some (.grp C.E.dp g)≠M:=by simp [Pl.qf]):CR C w' σ' k off c v:=
 hc.bB (fun g hg=>h.blk g _ hg hL) h.up h.cz (fun k _=>by rw [h.kap]) fun b g hb=>h.blk b _ hb (hG g)
theorem qg.same{M:Option eI}{v:Value}(h:iY C w σ w' σ' M)(hG:some (.grp C.E.dp g)≠M)(hw:qg C.W C.E.dp w σ g t x v):qg C.W C.E.dp w' σ' g t x v:=
 hw.bB (fun b hb=>h.blk b _ hb hG) fun _ h=>h
end
theorem nv(d:Nat)(x:AV)(fr:List (Nat×AV))(d':Nat):az ((d,x)::fr) d'=if d=d' then x else az fr d':=rfl
theorem oT(fr:List (Nat×AV))(pl:Pl)(d:Nat) :
  az (fr.map fun x=>(x.1,if x.2.fG pl=true then .u else x.2)) d=if (az fr d).fG pl=true then .u else az fr d:=by
 induction fr with
 | nil=>simp [az,AV.fG]
 | cons y fr ih=>
  grind [az]
theorem kD(st:St)(pl:Pl)(d:Nat):(az (st.bC pl).fr d).fG pl=false:=by
 unfold St.bC
 rw [oT]
 split
 ·rfl
 grind
theorem NI(dp:Nat)(st:St)(pl p:Pl):(st.bC pl).rowAt dp p=st.rowAt dp p:=by
 cases p with
 | s d=>
  simp only [St.rowAt,St.bC,oT]
  grind [AV.fG]
 | c k off=>rfl
theorem DO(dp:Nat)(st:St)(pl:Pl)(k:Key):(st.bC pl).box dp k=st.box dp k:=rfl
theorem FQ(a:Act)(d d':Nat)(v:Value)(hd:d<a.tmps.size):(a.put (some d) v).tmps.getD d' undef=if d=d' then v else a.tmps.getD d' undef:=by
 simp only [Act.put,eL,Dn]
 grind
section
variable {C:Cx}{st:St}{a:Act}{w:World}{σ:Sp}
theorem FT{d:Nat}{v:Value}(hx:x.copy=true∨x= .u)(h:VR w σ.I σ.κ x v):SR C w σ st a d x v:=by
 cases x<;>first | exact h | grind [AV.copy]
theorem SR.B0{d:Nat}{v:Value}(hx:x.copy=true)(h:SR C w σ st a d x v):VR w σ.I σ.κ x v:=by
 cases x<;>first | exact h | (simp [AV.copy] at hx)
theorem SR.FU{d:Nat}{v:Value}(h:SR C w σ st a d x v)(hr:∀ pl,x.fG pl=true→(∃ r,st'.rowAt C.E.dp pl=some r)→st'.rowAt C.E.dp pl=st.rowAt C.E.dp pl∧gm w σ a' pl=gm w σ a pl):SR C w σ st' a' d x v:=by
 cases x with
 | r pl=>
  intro hs
  obtain ⟨r,aB⟩:=je.1 hs
  obtain ⟨h1,h2⟩:=hr pl (by simp [AV.fG]) ⟨r,aB⟩
  exact (h (by grind)).trans h2.symm
 | v pl lo len=>
  intro t es ht hl
  obtain ⟨h1,h2⟩:=hr pl (by simp [AV.fG]) ⟨_,ht⟩
  rw [h2]
  exact h t es (h1▸ht) hl
 | q pl i sz off=>
  intro t es ht hl
  obtain ⟨h1,h2⟩:=hr pl (by simp [AV.fG]) ⟨_,ht⟩
  rw [h2]
  exact h t es (h1▸ht) hl
 | ag cs rs=>
  refine wT.to h (fun c _ v hv=>hv) (fun q hq hs=>?_)
  obtain ⟨r,aB⟩:=je.1 hs
  obtain ⟨h1,h2⟩:=hr (.s q.2) (zB.2 ⟨q,hq,by simp⟩) ⟨r,aB⟩
  exact ⟨by grind,h2⟩
 | _=>exact h
theorem aw.put{d:Nat}{v:Value}(h:aw C st a w σ)(hd:d<C.nt)(hx:SR C w σ st a d x v)(hb:∀ t es,x= .o t es→∀ d',(az st.fr d').fG (.s d)=false):aw C (st.cS d x) (a.put (some d) v) w σ:=by
 have aX:d<a.tmps.size:=h.size▸hd
 have J:∀ pl,pl≠.s d→(st.cS d x).rowAt C.E.dp pl=st.rowAt C.E.dp pl∧gm w σ (a.put (some d) v) pl=gm w σ a pl:=by
  intro pl av
  cases pl with
  | s d'=>
   grind [St.rowAt,St.cS,nv,gm,FQ]
  | c k off=>exact ⟨rfl,rfl⟩
 have Z:∀ r,(st.cS d x).rowAt C.E.dp (.s d)=some r→∃ t es,x= .o t es:=by
  grind [St.rowAt,St.cS,nv]
 refine ⟨by simp [Act.put,h.size],(show Marks C (a.put (some d) v).defers w σ from h.defers),fun d'=>?_,h.bx,h.hpd,h.own,h.cz,h.new,h.lay⟩
 rw [FQ a d d' v aX]
 simp only [St.cS,nv]
 split
 ·rename_i aW
  subst aW
  refine hx.FU fun pl aJ ⟨r,hr⟩=>?_
  by_cases hp:pl= .s d
  ·subst hp
   obtain ⟨t,es,rfl⟩:=Z r hr
   simp [AV.fG] at aJ
  ·exact J pl hp
 ·refine (h.fr d').FU fun pl aJ ⟨r,hr⟩=>?_
  by_cases hp:pl= .s d
  ·subst hp
   obtain ⟨t,es,rfl⟩:=Z r hr
   grind
  ·exact J pl hp
theorem aw.forget(h:aw C st a w σ)(aV:∀ d,az st'.fr d= .u∨az st'.fr d=az st.fr d)(ak:∀ k cs,st'.box C.E.dp k=some cs→st.box C.E.dp k=some cs)(aU:st'.hp=st.hp):aw C st' a w σ:=by
 refine ⟨h.size,h.defers,fun d=>?_,fun k cs hk=>h.bx k cs (ak k cs hk),aU▸h.hpd,h.own,h.cz,h.new,h.lay⟩
 have J:∀ pl r,st'.rowAt C.E.dp pl=some r→st.rowAt C.E.dp pl=some r:=by
  intro pl r hr
  cases pl with
  | s d'=>
   grind [St.rowAt]
  | c k off=>
   grind [St.rowAt]
 rcases aV d with e | e
 ·rw [e];exact VR.u _
 ·rw [e]
  exact (h.fr d).FU (by grind)
theorem aw.bC(h:aw C st a w σ)(pl:Pl):aw C (st.bC pl) a w σ:=
 h.forget (fun d=>by
  simp only [St.bC,oT]
  grind) (fun _ _ h=>h) rfl
structure Idle(C:Cx)(st:St)(L:Option eI):Prop where
 sl:∀ d t es,az st.fr d= .o t es→some (.rowS C.E.dp d)≠L
 bx:∀ k cs,st.box C.E.dp k=some cs→some (.box k)≠L
 ce:∀ k cs off t es,st.box C.E.dp k=some cs→cs[off]? =some (.o t es)→some (.rowC k off)≠L
 gr:∀ g,some (.grp C.E.dp g)≠L:=by simp
 mrk:some (.mark C.E.dp)≠L:=by simp
theorem Idle.none:Idle C st none:=⟨fun _ _ _ _=>by simp,fun _ _ _=>by simp,fun _ _ _ _ _ _ _=>by simp,fun _=>by simp,by simp⟩
structure afm(C:Cx)(st:St)(L:Option eI):Prop where
 sl:∀ d t es,az st.fr d= .o t es→some (.rowS C.E.dp d)≠L
 bx:∀ k cs,st.box C.E.dp k=some cs→some (.box k)≠L
 ce:∀ k cs off t es,st.box C.E.dp k=some cs→cs[off]? =some (.o t es)→some (.rowC k off)≠L
 gr:∀ g,some (.grp C.E.dp g)≠L
theorem aw.RD{w':World}{σ':Sp}{L:Option eI}(h:aw C st a w σ)(hs:iY C w σ w' σ' L)(hi:afm C st L)(hm:Marks C a.defers w' σ'):aw C st a w' σ':=by
 have aI:∀ k cs,st.box C.E.dp k=some cs→w'.heap[σ'.κ k]? =w.heap[σ.κ k]? :=by
  intro k cs hk
  obtain ⟨vs,T,hb⟩:=h.bx k cs hk
  rw [hs.kap]
  exact (hs.blk _ _ hb.ow (hi.bx k cs hk)).1
 refine ⟨h.size,hm,fun d=>?_,fun k cs hk=>?_,h.hpd,hs.own,hs.dn,fun b hb=>h.new b (di hs.size hb),h.lay.bB hs.up hs.cz⟩
 ·have:=h.fr d
  have ac:∀ pl r,st.rowAt C.E.dp pl=some r→gm w' σ' a pl=gm w σ a pl:=by
   intro pl r hr
   cases pl with
   | s d'=>rfl
   | c k off=>
    grind [St.rowAt,gm]
  cases hx:az st.fr d with
  | o t es=>rw [hx] at this;exact OwnAt.same hs (hi.sl d t es hx) this
  | r pl=>
   rw [hx] at this
   intro X
   obtain ⟨r,hr⟩:=je.1 X
   rw [ac pl r hr]
   exact this X
  | v pl lo len=>
   rw [hx] at this
   intro t es ht hl
   rw [ac pl _ ht]
   exact this t es ht hl
  | q pl i sz off=>
   rw [hx] at this
   intro t es ht hl
   rw [ac pl _ ht]
   exact this t es ht hl
  | w g t x=>rw [hx] at this;exact qg.same hs (hi.gr g) this
  | ag cs rs=>rw [hx] at this;exact wT.to this (fun c _ v hv=>VR.same hs hv) (fun _ _ hr=>⟨hr,rfl⟩)
  | _=>rw [hx] at this;exact VR.same hs this
 ·obtain ⟨vs,T,hb⟩:=h.bx k cs hk
  refine ⟨vs,T,(aI k cs hk).trans hb.hh,hb.size,?_,fun hw=>?_,hb.one,fun off c hc=>?_,hb.ty,by rw [hs.kap];exact hb.kb⟩
  ·rw [hs.kap];exact (hs.blk _ _ hb.ow (hi.bx k cs hk)).2
  ·rw [hs.kap];exact hb.wr hw
  ·have:=hb.cell off c hc
   cases c with
   | o t es=>exact OwnAt.same hs (hi.ce k cs off t es hk hc) this
   | w g t x=>exact qg.same hs (hi.gr g) this
   | bp t k' u=>exact ⟨this.1,by rw [hs.kap];exact this.2⟩
   | _=>exact VR.same hs this
theorem aw.Lb{w':World}{σ':Sp}{L:Option eI}(h:aw C st a w σ)(hs:iY C w σ w' σ' L)(hi:Idle C st L):aw C st a w' σ':=
 h.RD hs ⟨hi.sl,hi.bx,hi.ce,hi.gr⟩ (h.defers.same hs hi.mrk)
theorem aw.same{w':World}{σ':Sp}(h:aw C st a w σ)(hs:iY C w σ w' σ' none):aw C st a w' σ':=h.Lb hs .none
end
variable [cj]
mutual
def Ax:Value→AV→Bool
 | .bool x,.b y=>x==y
 | .int k n,.i k' n'=>decide (k=k')&&n==n'
 | .string s,.s l=>s.data.toList==l
 | .slice none 0 0,.n=>true
 | .slice none 0 0,.l _ []=>true
 | .pointer none,.z=>true
 | .nilFunc,.nf=>true
 | .nilIface,.ni=>true
 | .agg vs,.a cs=>tI vs.toList cs&&cs.all AV.one
 | .tuple vs,.tp cs=>tI vs.toList cs
 | _,_=>false
def tI:List Value→List AV→Bool
 | [],[]=>true
 | v::vs,c::cs=>Ax v c&&tI vs cs
 | _,_=>false
end
def bY:Operand→bz→Bool
 | .tmp t,.t n=>t==n
 | .const v,.c x=>Ax v x
 | .func f,.c (.f g [])=>f==g&&decide (f<1000000)
 | _,_=>false
def gq:List Operand→List bz→Bool
 | [],[]=>true
 | y::ys,x::xs=>bY y x&&gq ys xs
 | _,_=>false
section
variable {w:World}{I:Nat→Prop}{κ:Key→Nat}
mutual
theorem EN:(v:Value)→(x:AV)→Ax v x=true→VR w I κ x v∧x.pure=true
 | .bool x,.b y,h=>by
  have:x=y:=by simpa [Ax] using h
  subst this;exact ⟨.b _,rfl⟩
 | .int k n,.i k' n',h=>by
  obtain ⟨h1,h2⟩:k=k'∧n=n':=by simpa [Ax] using h
  subst h1;subst h2;exact ⟨.i _ _,rfl⟩
 | .string s,.s l,h=>by
  have:s.data.toList=l:=by simpa [Ax] using h
  subst this
  have e:s=⟨s.data.toList.toArray⟩:=by cases s;simp
  refine ⟨?_,rfl⟩
  rw [e]
  exact .s _
 | .slice none 0 0,.n,_=>⟨.n,rfl⟩
 | .slice none 0 0,.l t [],_=>⟨.lnil t none 0,rfl⟩
 | .pointer none,.z,_=>⟨.z,rfl⟩
 | .nilFunc,.nf,_=>⟨.nf,rfl⟩
 | .nilIface,.ni,_=>⟨.ni,rfl⟩
 | .agg vs,.a cs,h=>by
  obtain ⟨h1,h2⟩:tI vs.toList cs=true∧cs.all AV.one=true:=by simpa [Ax] using h
  obtain ⟨hl,hc⟩:=sX vs.toList cs h1
  refine ⟨.a cs vs (by simpa using hl.symm) (fun c hc=>by simpa using List.all_eq_true.1 h2 c hc) fun m c hm=>?_,?_⟩
  ·have:=(hc m c hm).1;simpa using this
  ·exact jY fun x hx=>by
    obtain ⟨m,hm⟩:=ey.1 hx
    exact (hc m x hm).2
 | .tuple vs,.tp cs,h=>by
  have h1:tI vs.toList cs=true:=by simpa [Ax] using h
  obtain ⟨hl,hc⟩:=sX vs.toList cs h1
  refine ⟨.tp cs vs (by simpa using hl.symm) fun m c hm=>?_,?_⟩
  ·have:=(hc m c hm).1;simpa using this
  ·exact jY fun x hx=>by
    obtain ⟨m,hm⟩:=ey.1 hx
    exact (hc m x hm).2
theorem sX:(vs:List Value)→(cs:List AV)→tI vs cs=true→
  vs.length=cs.length∧∀ (m:Nat)(c:AV),cs[m]? =some c→VR w I κ c (vs[m]?.getD undef)∧c.pure=true
 | [],[],_=>⟨rfl,fun m c h=>by simp at h⟩
 | v::vs,c::cs,h=>by
  obtain ⟨h1,h2⟩:Ax v c=true∧tI vs cs=true:=by simpa [tI] using h
  obtain ⟨hl,hc⟩:=sX vs cs h2
  refine ⟨by simp [hl],fun m d hm=>?_⟩
  cases m with
  | zero=>
   have:c=d:=by simpa using hm
   subst this
   simpa using EN v c h1
  | succ m=>simpa using hc m d (by simpa using hm)
end
end
section
variable {C:Cx}{st:St}{a:Act}{w:World}{σ:Sp}
theorem aw.ta(h:aw C st a w σ){y:Operand}{x:bz}(hl:bY y x=true)(hc:(st.ev x).copy=true):VR w σ.I σ.κ (st.ev x) (a.eval y):=by
 cases x with
 | t n=>
  cases y with
  | tmp t=>
   have:t=n:=by simpa [bY] using hl
   subst this
   exact (h.fr t).B0 hc
  | _=>simp [bY] at hl
 | c z=>
  cases y with
  | const v=>exact (EN v z hl).1
  | func f=>
   cases z<;>simp [bY] at hl
   rename_i g O
   cases O<;>simp at hl
   obtain ⟨hl,hg⟩:=hl
   subst hl
   exact VR.f _ [] #[] hg rfl fun m c hm=>by simp at hm
  | _=>simp [bY] at hl
theorem qL{y:Operand}{z:AV}(hl:bY y (.c z)=true):z.pure=true:=by
 cases y with
 | const v=>exact (EN (w:=default) (I:=fun _=>False) (κ:=fun _=>0) v z hl).2
 | func f=>
  cases z<;>simp [bY] at hl
  rename_i g O
  cases O<;>simp at hl
  rfl
 | _=>simp [bY] at hl
theorem yb{y:Operand}{n:Nat}(hl:bY y (.t n)=true):y= .tmp n:=by
 cases y with
 | tmp t=>
  have:t=n:=by simpa [bY] using hl
  rw [this]
 | _=>simp [bY] at hl
theorem aw.slot(h:aw C st a w σ){y:Operand}{n:Nat}(hl:bY y (.t n)=true):SR C w σ st a n (az st.fr n) (a.eval y):=by
 rw [yb hl];exact h.fr n
theorem OwnAt.DP{P:Program}{L:eI}{wr wr':Prop}{es:List AV}{v:Value}(h:OwnAt P W w σ L wr t es v)(hw:wr'→wr):OwnAt P W w σ L wr' t es v:=by
 rcases h with h | ⟨g,cap,cs,hv,hr⟩
 ·exact .inl h
 ·exact .inr ⟨g,cap,cs,hv,hr.ow,fun x=>hr.wr (hw x),hr.hh,hr.pos,hr.nc,hr.ecap,hr.max,hr.size,hr.pure,hr.one,hr.cell,hr.base⟩
theorem aw.row(h:aw C st a w σ){pl:Pl}{es:List AV}(hr:st.rowAt C.E.dp pl=some (t,es)):
  OwnAt C.P C.W w σ (pl.qf C.E.dp) (pl.iI C.E=true) t es (gm w σ a pl):=by
 cases pl with
 | s d=>
  simp only [St.rowAt] at hr
  have:=h.fr d
  cases hx:az st.fr d<;>rw [hx] at hr this<;>simp at hr
  obtain ⟨rfl,rfl⟩:=hr
  exact OwnAt.DP this fun _=>trivial
 | c k off=>
  simp only [St.rowAt] at hr
  cases hb:st.box C.E.dp k with
  | none=>simp [hb] at hr
  | some cs=>
   simp only [hb] at hr
   cases hc:cs[off]? with
   | none=>simp [hc] at hr
   | some c=>
    obtain ⟨vs,T,ak⟩:=h.bx k cs hb
    have:=ak.cell off c hc
    simp only [hc] at hr
    cases c<;>simp at hr
    obtain ⟨rfl,rfl⟩:=hr
    simp only [gm,ak.hh]
    exact this
def yp(P:Program)(t:TypeId):Option Bool:=(P.underlying t).map fun
 | .struct _=>true
 | .array _ _=>true
 | _=>false
def sY(P:Program)(t:TypeId)(n:Option Nat):Bool:=
 match n with
 | none=>yp P t==some false&&decide (P.cellsOf t=1)
 | some m=>yp P t==some true&&(P.info? t).isSome&&decide (P.cellsOf t=m)
theorem qM{P:Program}{x:Bool}(h:yp P t=some x)(w:World):(isAgg t).run P w= .ok x w:=by
 unfold yp at h
 cases hu:P.underlying t with
 | none=>simp [hu] at h
 | some d=>
  simp only [hu,jf,mm] at h
  unfold isAgg
  rw [Sem.run_bind,run_underlying hu w]
  cases d<;>simp_all
theorem kr{P:Program}(h:(P.info? t).isSome=true)(w:World):(sizeOf t).run P w= .ok (P.cellsOf t) w:=by
 obtain ⟨i,hi⟩:=je.1 h
 simp [sizeOf,typeInfo,hi,Program.cellsOf]
theorem add_lit(g o j:Nat):(⟨g,o,none⟩:Addr).add j=⟨g,o+j,none⟩:=by unfold Addr.add;split<;>simp_all
theorem uZ{vs:Array Value}{T:TypeId}{fz:Nat×Nat}(hh:w.heap[g]? =some (.cells vs T fz))(o:Nat):w.cell? ⟨g,o,none⟩=vs[o]? :=by
 simp [World.cell?,hh]
theorem zS{P:Program}{I:Nat→Prop}{κ:Key→Nat}{b:Nat}{vs:Array Value}{T:TypeId}{fz:Nat×Nat}{n:Option Nat}{y:AV}(hh:w.heap[g]? =some (.cells vs T fz))(Y:b+cs.length≤vs.size)(aa:∀ off c,cs[off]? =some c→c.copy=true→VR w I κ c (vs.getD (b+off) undef))(aC:∀ c∈cs,c.copy=true→c.one=true)(hy:y.copy=true)(hp:pick n off cs=some y)(hn:sY P t n=true):
  ∃ v,(loadVar t ⟨g,b+off,none⟩).run P w= .ok v w∧VR w I κ y v:=by
 cases n with
 | none=>
  simp only [pick] at hp
  have U:off<cs.length:=by
   rcases nQ off cs.length with h | h
   ·exact h
   ·simp [h] at hp
  have aq:b+off<vs.size:=by omega
  obtain ⟨h1,_⟩:yp P t=some false∧P.cellsOf t=1:=by simpa [sY] using hn
  have hc:w.cell? ⟨g,b+off,none⟩=some vs[b+off]:=by rw [uZ hh];simp [aq]
  refine ⟨vs[b+off],?_,?_⟩
  ·unfold loadVar
   simp [qM h1 w,hc]
  ·have:=aa off y hp hy
   simpa [aq] using this
 | some m=>
  simp only [pick] at hp
  split at hp
  ·rename_i hle
   have aN:y= .a ((cs.drop off).take m):=by simpa using hp.symm
   subst aN
   have F:=zy (l:=(cs.drop off).take m) (by simpa [AV.copy] using hy)
   obtain ⟨⟨h1,h2⟩,h3⟩:(yp P t=some true∧(P.info? t).isSome=true)∧P.cellsOf t=m:=by simpa [sY] using hn
   have hl:=run_loadCells (P:=P) w ⟨g,b+off,none⟩ m (fun j=>vs.getD (b+off+j) undef) (fun j hj=>by
    rw [add_lit,uZ hh]
    have:b+off+j<vs.size:=by omega
    simp [this])
   refine ⟨.agg (((List.range m).map fun j=>vs.getD (b+off+j) undef).toArray),?_,?_⟩
   ·unfold loadVar
    simp only [Sem.run_bind,qM h1 w,Result.andThen_ok,aA,kr h2,h3,hl,Sem.run_pure]
   ·refine VR.a _ _ ?_ (fun c hc=>aC c (sN (iF hc)) (F c hc)) fun j c hj=>?_
    ·simp;omega
    ·have ay:j<m:=by
      rcases nQ j m with h | h
      ·exact h
      ·simp [mn,nR.2 h] at hj
     have aS:cs[off+j]? =some c:=by
      rw [mn,af ay,nS] at hj
      exact hj
     have hv:=aa (off+j) c aS (F c (bu hj))
     simpa [ay,yf] using hv
  ·cases hp
end
variable [cj]
def tc(P:Program)(t:TypeId)(i:Nat):Option Field:=
 match P.underlying t with
 | some (.struct fs)=>fs[i]?
 | _=>none
def kQ(P:Program)(t:TypeId):Option TypeId:=
 match P.underlying t with
 | some (.slice e)=>some e
 | _=>none
def yq(P:Program)(t:TypeId):Bool:=match P.underlying t with
 | some .string=>true
 | _=>false
def IC(P:Program)(t:TypeId):Bool:=match P.underlying t with
 | some .bool=>true
 | _=>false
def ID(P:Program)(t:TypeId):Option IntKind:=match P.underlying t with
 | some (.int k)=>some k
 | _=>none
def sized(P:Program)(t sz:Nat):Bool:=(P.info? t).isSome&&decide (P.cellsOf t=sz)&&decide (0<sz)
def xA(y:Option Operand)(x:Option bz):Bool:=
 match y,x with
 | none,none=>true
 | some y,some x=>bY y x
 | _,_=>false
def mx(P:Program)(t:TypeId):List (Nat×Operand)→List (Nat×Nat×bz)→Bool
 | [],[]=>true
 | (i,y)::ys,(off,sz,x)::xs=>(match tc P t i with
  | some f=>f.offset==off&&sized P f.type sz
  | none=>false)&&bY y x&&mx P t ys xs
 | _,_=>false
def zeroOf(P:Program)(t:TypeId):Option Value:=(P.info? t).bind (·.zero)
def rk(P:Program):Nat→List Nat→List Field→Bool
 | _,[],[]=>true
 | i,k::ks,f::fs=>f.name != "_" &&f.offset==i&&P.plainKey f.type&&(match k,P.underlying f.type with
  | 0,some .bool=>true
  | 1,some (.int _)=>true
  | 2,some .string=>true
  | _,_=>false)&&rk P (i+1) ks fs
 | _,_,_=>false
def PL(P:Program)(ks:List Nat)(t:TypeId):Bool:=match P.underlying t with
 | some (.struct fs)=>rk P 0 ks fs.toList&&!P.stoodInHeld t&&!(P.eqGuardType P.depth t)
 | _=>false
def bN(P:Program)(ao:pC)(op:Op):Bool:=
 match ao with
 | .mv x=>match op with | .move y=>bY y x | _=>false
 | .as x=>match op with | .assign y=>bY y x | _=>false
 | .pk c x y=>match op with | .pick c' x' y'=>bY c' c&&bY x' x&&bY y' y | _=>false
 | .bx x=>match op with | .box _ y=>bY y x | _=>false
 | .bxg x=>match op with | .box _ y=>bY y x | _=>false
 | .al zs=>match op with | .alloc t=>(match zeroOf P t with | some v=>tI v.cells.toList zs&&zs.all AV.one | none=>false) | _=>false
 | .ld n x=>match op with | .load t y=>bY y x&&sY P t n | _=>false
 | .st n x y=>match op with | .store t x' y'=>bY x' x&&bY y' y&&sized P t n | _=>false
 | .fa off x=>match op with
  | .fieldAddr s y i=>bY y x&&(match tc P s i with | some f=>f.offset==off&&(P.info? f.type).isSome&&decide (0<P.cellsOf f.type) | none=>false)
  | _=>false
 | .fd n off x=>match op with
  | .field s y i=>bY y x&&(match tc P s i with | some f=>f.offset==off&&sY P f.type n | none=>false)
  | _=>false
 | .ia sz arr x i=>match op with
  | .indexAddr t x' i'=>bY x' x&&bY i' i&&(match arr,P.underlying t with
   | none,some (.slice e)=>sized P e sz
   | some n,some (.array n' e)=>n==n'&&sized P e sz
   | _,_=>false)
  | _=>false
 | .bo o bl x y=>match op with
  | .binOp o' t x' y' _=>decide (o=o')&&bY x' x&&bY y' y&&(bl==IC P t)&&decide (o≠.or)
  | .call c=>(match c.callee with | .builtin .max=>true | _=>false)&&(match c.args.toList with
   | [x',y']=>bY x' x&&bY y' y&&decide (o= .or)
   | _=>false)
  | _=>false
 | .no x=>match op with | .unOp .not _ y=>bY y x | _=>false
 | .cv k x=>match op with | .convert s d y=>bY y x&&(ID P d==some k)&&(ID P s).isSome | _=>false
 | .ae ks ng x y=>match op with | .binOp o' t x' y' _=>decide (o'=if ng then .neq else .eql)&&bY x' x&&bY y' y&&PL P ks t | _=>false
 | .bs t sz es=>match op with
  | .buildSlice ty len parts=>kQ P ty==some t&&sized P t sz&&len==es.length&&decide (parts.toList.map (·.1)=List.range len)&&gq (parts.toList.map (·.2)) es&&decide (len*sz≤16777216)&&
    (match zeroOf P t with | some v=>v.cells.size==sz | none=>false)
  | _=>false
 | .bd zs fs=>match op with
  | .build t parts=>(match zeroOf P t with | some v=>tI v.cells.toList zs&&zs.all AV.one | none=>false)&&mx P t parts.toList fs&&(match P.underlying t with | some (.struct fs)=>fs.all (fun f=>(P.info? f.type).isSome) | _=>false)
  | _=>false
 | .bg zs fs=>match op with
  | .build t parts=>(match zeroOf P t with | some v=>tI v.cells.toList zs&&zs.all AV.one | none=>false)&&mx P t parts.toList fs&&(match P.underlying t with | some (.struct fs)=>fs.all (fun f=>(P.info? f.type).isSome) | _=>false)
  | _=>false
 | .ms t sz by_ z l=>match op with
  | .makeSlice ty l' c'=>kQ P ty==some t&&sized P t sz&&(P.bytesOf t==by_)&&bY l' l&&bY c' l&&(match zeroOf P t with | some v=>Ax v z&&v.cells.size==sz&&z.cl.all AV.one | none=>false)
  | _=>false
 | .sl t sz x lo hi=>match op with
  | .slice ty x' lo' aT none=>bY x' x&&xA lo' lo&&xA aT hi&&(if t=0 then yq P ty else kQ P ty==some t&&sized P t sz)
  | _=>false
 | .ex x i=>match op with | .extract y i'=>bY y x&&i==i' | _=>false
 | .mf f O=>match op with | .makeFunc (.func f') first caps'=>f==f'&&decide (f'<1000000)&&first.isEmpty&&gq caps'.toList O||f==1000000+f'&&caps'.isEmpty&&gq first.toList O | _=>false
 | .ca _ f args=>match op with
  | .call c=>(match c.callee with | .value (.func f')=>f==f' | _=>false)&&gq c.args.toList args
  | _=>false
 | .cf _ x args=>match op with
  | .call c=>(match c.callee with | .value y=>bY y x | _=>false)&&gq c.args.toList args
  | _=>false
 | .c2 f args=>match op with
  | .call c=>(match c.callee with | .value (.func f')=>f==f' | _=>false)&&gq c.args.toList args
  | _=>false
 | .d2 x args=>match op with
  | .call c=>(match c.callee with | .value y=>bY y x | _=>false)&&gq c.args.toList args
  | _=>false
 | .c3 f args=>match op with
  | .call c=>(match c.callee with | .value (.func f')=>f==f' | _=>false)&&gq c.args.toList args
  | _=>false
 | .d3 x args=>match op with
  | .call c=>(match c.callee with | .value y=>bY y x | _=>false)&&gq c.args.toList args
  | _=>false
 | .cn f args=>match op with
  | .call c=>(match c.callee with | .value (.func f')=>f==f' | _=>false)&&gq c.args.toList args
  | _=>false
 | .cr _ f args=>match op with
  | .call c=>(match c.callee with | .value (.func f')=>f==f' | _=>false)&&gq c.args.toList args
  | _=>false
 | .ln str x=>match op with
  | .call c=>(match c.callee with | .builtin .len=>true | _=>false)&&(match c.args.toList,c.argTypes.toList with
   | [y],[t]=>bY y x&&(if str then yq P t else (kQ P t).isSome)
   | _,_=>false)
  | _=>false
 | .ap t sz by_ x y=>match op with
  | .call c=>(match c.callee with | .builtin .append=>true | _=>false)&&(match c.args.toList,c.argTypes.toList with
   | [x',y'],[t1,t2]=>bY x' x&&bY y' y&&t1==t2&&kQ P t1==some t&&sized P t sz&&(P.bytesOf t==by_)&&(match zeroOf P t with | some v=>v.cells.size==sz | none=>false)
   | _,_=>false)
  | _=>false
 | .nc x=>match op with | .nilCheck y=>bY y x | _=>false
 | .ck f args=>match op with
  | .call c=>(match c.callee with | .value (.func f')=>f==f' | _=>false)&&gq c.args.toList args
  | _=>false
section
variable {w:World}{I:Nat→Prop}{κ:Key→Nat}{v:Value}
theorem VR.vN{x:Bool}(h:VR w I κ (.b x) v):v= .bool x:=by cases h;rfl
theorem VR.mO{k:IntKind}{n:Int}(h:VR w I κ (.i k n) v):v= .int k n:=by cases h;rfl
theorem VR.EO{l:List UInt8}(h:VR w I κ (.s l) v):v= .string ⟨l.toArray⟩:=by cases h;rfl
theorem VR.EP(h:VR w I κ .n v):v= .slice none 0 0:=by cases h;rfl
theorem VR.ace(h:VR w I κ .sk v):v=undef:=by cases h;rfl
theorem VR.RE{n sz:Nat}(h:VR w I κ (.sp k off n sz) v):∃ cap,n≤cap∧cap≤maxLen∧v= .slice (some ⟨κ k,off,none⟩) n cap:=by
 cases h with
 | sp _ _ _ _ cap h1 h2=>simp_all
theorem VR.xD(h:VR w I κ (.p k off) v):v= .pointer (some ⟨κ k,off,none⟩):=by cases h;rfl
theorem VR.U9(h:VR w I κ (.a cs) v):∃ vs,v= .agg vs∧cs.length=vs.size∧(∀ c∈cs,c.one=true)∧∀ (m:Nat)(c:AV),cs[m]? =some c→VR w I κ c (vs.getD m undef):=by
 cases h with | a _ vs hl h1 hc=>grind
theorem VR.acf(h:VR w I κ (.tp cs) v):∃ vs,v= .tuple vs∧cs.length=vs.size∧∀ (m:Nat)(c:AV),cs[m]? =some c→VR w I κ c (vs.getD m undef):=by
 cases h with | tp _ vs hl hc=>grind
theorem VR.IE{g:FuncId}(h:VR w I κ (.f g cs) v):∃ vs,(g<1000000∧v= .func (.func g) #[] vs∨¬g<1000000∧v= .func (.func (g - 1000000)) vs #[])∧cs.length=vs.size∧∀ (m:Nat)(c:AV),cs[m]? =some c→VR w I κ c (vs.getD m undef):=by
 cases h with
 | f _ _ vs hg hl hc=>grind
 | fm g0 _ vs hl hc=>grind
theorem VR.Lc{g:FuncId}(h:VR w I κ (.f g cs) v)(hg:g<1000000):∃ vs,v= .func (.func g) #[] vs∧cs.length=vs.size∧∀ (m:Nat)(c:AV),cs[m]? =some c→VR w I κ c (vs.getD m undef):=by
 obtain ⟨vs,h1,h2,h3⟩:=h.IE
 grind
theorem VR.acg{g:FuncId}(h:VR w I κ (.f g cs) v)(hg:¬g<1000000):∃ vs,v= .func (.func (g - 1000000)) vs #[]∧cs.length=vs.size∧∀ (m:Nat)(c:AV),cs[m]? =some c→VR w I κ c (vs.getD m undef):=by
 obtain ⟨vs,h1,h2,h3⟩:=h.IE
 grind
theorem VR.Ld(h:VR w I κ (.e x off) v):∃ g o cs T fz,v= .pointer (some ⟨g,o+off,none⟩)∧I g∧w.heap[g]? =some (.cells cs T fz)∧x.pure=true∧o+x.nc≤cs.size∧
  (∀ c∈x.cl,c.one=true)∧∀ (m:Nat)(c:AV),x.cl[m]? =some c→VR w I κ c (cs.getD (o+m) undef):=by
 cases h with | e _ _ g o cs T fz hI hh hp hs h1 hc=>exact ⟨g,o,cs,T,fz,rfl,hI,hh,hp,hs,h1,hc⟩
theorem VR.Lf{es:List AV}(h:VR w I κ (.l t es) v):∃ A cap,v= .slice A es.length cap∧(es=[]∨∃ g o cs T fz sz,A=some ⟨g,o,none⟩∧I g∧w.heap[g]? =some (.cells cs T fz)∧(t≠0→(cj.n0≤g→T=t∧fz=(0,0))∧(g<cj.n0→cj.tg t=true))∧0<sz∧
  (∀ e∈es,e.nc=sz)∧o+es.length*sz≤cs.size∧(∀ e∈es,e.pure=true)∧(∀ e∈es,∀ c∈e.cl,c.one=true)∧es.length≤cap∧cap≤maxLen∧
  ∀ (j:Nat)(e:AV)(m:Nat)(c:AV),es[j]? =some e→e.cl[m]? =some c→VR w I κ c (cs.getD (o+j*sz+m) undef)):=by
 cases h with
 | lnil _ A cap=>simp_all
 | l _ _ g o cap cs T fz sz hI hh ht aP ax Y hp h1 aH aD hc=>exact ⟨_,cap,rfl,.inr ⟨g,o,cs,T,fz,sz,rfl,hI,hh,ht,aP,ax,Y,hp,h1,aH,aD,hc⟩⟩
end
structure JU(C:Cx)(st':St)(a:Act)(w:World)(σ:Sp)(d:Option Nat)(x:AV)(cv:Value)(w':World)(σ':Sp):Prop where
 stp:cX C w σ w' σ'
 conc:aw C st' a w' σ'
 val:∀ dd,d=some dd→SR C w' σ' st' a dd x cv
 own:∀ dd t es,d=some dd→x= .o t es→∀ d',(az st'.fr d').fG (.s dd)=false
def ei(C:Cx)(o:Oper)(d:Option Nat)(a:Act)(w:World)(σ:Sp)(st':St)(x:AV):Prop:=
 ∀ (K:Act→World→Prop)(Q:Exit→Act→World→Prop),(∀ cv w' σ',JU C st' a w σ d x cv w' σ'→K (a.put o.dst cv) w')→o.wp C.P a w K Q
section
variable {C:Cx}{st:St}{a:Act}{w:World}{σ:Sp}{o:Oper}{d:Option Nat}
theorem ei.jh{cv:Value}{w':World}{σ':Sp}(hr:(Go.execOp a.eval o).run C.P w= .ok (.value cv) w')(h:JU C st' a w σ d x cv w' σ'):ei C o d a w σ st' x:=by
 intro K Q hK
 unfold Oper.wp
 rw [hr]
 exact hK _ _ _ h
theorem ei.VK{w':World}{σ':Sp}(hr:(Go.execOp a.eval o).run C.P w= .ok .skip w')(h:JU C st' a w σ d x undef w' σ'):ei C o d a w σ st' x:=by
 intro K Q hK
 unfold Oper.wp
 rw [hr]
 exact hK _ _ _ h
theorem ei.quiet{cv:Value}(h:aw C st a w σ)(hr:(Go.execOp a.eval o).run C.P w= .ok (.value cv) w)(hx:x.copy=true)(hv:VR w σ.I σ.κ x cv):
  ei C o d a w σ st x:=
 .jh hr ⟨.refl _ _ _,h,fun _ _=>FT (.inl hx) hv,by grind [AV.copy]⟩
theorem ei.yr{cv:Value}(h:aw C st a w σ)(hr:(Go.execOp a.eval o).run C.P w= .ok (.value cv) w)(hx:∀ t es,x≠.o t es)(hv:∀ dd,SR C w σ st a dd x cv):
  ei C o d a w σ st x:=
 .jh hr ⟨.refl _ _ _,h,fun dd _=>hv dd,by grind⟩
theorem VL{n:Nat}{v:Value}(hx:∀ t es,x≠.o t es)(hb:EK x=false)(h:SR C w σ st a n x v):VR w σ.I σ.κ x v:=by
 cases x<;>first | exact h | exact absurd rfl (hx _ _) | (simp [EK] at hb)
theorem RF{n m:Nat}{v:Value}(hx:∀ t es,x≠.o t es)(h:SR C w σ st a n x v):SR C w σ st a m x v:=by
 cases x<;>first | exact h | grind
theorem kR{d:Nat}{v:Value}(h:VR w σ.I σ.κ x v):SR C w σ st a d x v:=by
 cases x<;>first | exact h | cases h
theorem aw.e7(h:aw C st a w σ){y:Operand}{x:bz}(hl:bY y x=true)(ho:∀ t es,st.ev x≠.o t es)(hb:EK (st.ev x)=false):VR w σ.I σ.κ (st.ev x) (a.eval y):=by
 cases x with
 | t n=>exact VL ho hb (h.slot hl)
 | c z=>exact h.ta hl (dO z (qL hl))
theorem ach{R:Rec}{Ω:dK}{x:bz}{r:AV×St}(h:aw C st a w σ)(hl:bN C.P (.mv x) o.op=true)(he:execOp R Ω C.E st d (.mv x)=some r) :
  ei C o d a w σ r.2 r.1:=by
 obtain ⟨y,G,B⟩:∃ y,o.op= .move y∧bY y x=true:=by
  simp only [bN] at hl;grind
 have hr:(Go.execOp a.eval o).run C.P w= .ok (.value (a.eval y)) w:=by unfold Go.execOp;simp [G]
 simp only [execOp] at he
 cases x with
 | c z=>
  simp only [St.ev] at he
  have hp:=qL B
  have hc:z.copy=true:=dO z hp
  have hv:=h.ta (x:=.c z) B hc
  cases z<;>first | (simp [AV.copy] at hc;done) | skip
  all_goals
   obtain rfl:=ah he
   exact .quiet h hr hc hv
 | t n=>
  have hs:=h.slot B
  simp only [St.ev] at he
  cases hx:az st.fr n with
  | o t es=>
   rw [hx] at he
   obtain rfl:=ah he
   refine .yr h hr (fun _ _ e=>by cases e) fun dd=>?_
   intro _
   rw [yb B];rfl
  | _=>
   rw [hx] at he hs
   obtain rfl:=ah he
   exact .yr h hr (fun _ _ e=>by cases e) (by grind [RF])
theorem aci{R:Rec}{Ω:dK}{c x y:bz}{r:AV×St}(h:aw C st a w σ)(hl:bN C.P (.pk c x y) o.op=true)(he:execOp R Ω C.E st d (.pk c x y)=some r) :
  ei C o d a w σ r.2 r.1:=by
 obtain ⟨c',x',y',G,hc,hx,hy⟩:∃ c' x' y',o.op= .pick c' x' y'∧bY c' c=true∧bY x' x=true∧bY y' y=true:=by
  simp only [bN] at hl;grind
 simp only [execOp] at he
 obtain ⟨z,hz,he⟩:=aj.1 he
 have ar:st.ev c= .b z:=by
  cases ai:st.ev c<;>rw [ai] at hz<;>simp [pB] at hz
  rw [hz]
 have aM:a.eval c'= .bool z:=by
  have:=h.ta hc (by rw [ar];rfl)
  rw [ar] at this
  exact this.vN
 have hr:(Go.execOp a.eval o).run C.P w= .ok (.value (if z=true then a.eval x' else a.eval y')) w:=by simp_all [Go.execOp,asBool]
 cases z with
 | true=>
  simp only [aA] at he hr
  split at he
  ·rename_i F
   obtain rfl:=ah he
   exact .quiet h hr F (h.ta hx F)
  ·cases he
 | false=>
  simp only [cF,dq] at he hr
  split at he
  ·rename_i F
   obtain rfl:=ah he
   exact .quiet h hr F (h.ta hy F)
  ·cases he
theorem acj{R:Rec}{Ω:dK}{x:bz}{r:AV×St}(h:aw C st a w σ)(hl:bN C.P (.no x) o.op=true)(he:execOp R Ω C.E st d (.no x)=some r) :
  ei C o d a w σ r.2 r.1:=by
 obtain ⟨t,y,G,B⟩:∃ t y,o.op= .unOp .not t y∧bY y x=true:=by
  simp only [bN] at hl;grind
 simp only [execOp] at he
 obtain ⟨z,hz,he⟩:=aj.1 he
 have ar:st.ev x= .b z:=by
  cases ai:st.ev x<;>rw [ai] at hz<;>simp [pB] at hz
  rw [hz]
 have aM:a.eval y= .bool z:=by
  have:=h.ta B (by rw [ar];rfl)
  rw [ar] at this
  exact this.vN
 obtain rfl:=ah he
 exact .quiet h (cv:=.bool (!z)) (by simp_all [Go.execOp,Op.unary]) rfl (.b _)
theorem ack{R:Rec}{Ω:dK}{k:IntKind}{x:bz}{r:AV×St}(h:aw C st a w σ)(hl:bN C.P (.cv k x) o.op=true)(he:execOp R Ω C.E st d (.cv k x)=some r) :
  ei C o d a w σ r.2 r.1:=by
 obtain ⟨s,t,y,G,B,hk,hs⟩:∃ s t y,o.op= .convert s t y∧bY y x=true∧ID C.P t=some k∧(ID C.P s).isSome=true:=by
  simp only [bN] at hl;grind
 have aZ:C.P.underlying t=some (.int k):=by
  grind [ID]
 obtain ⟨k',a3⟩:=je.1 hs
 have a0:C.P.underlying s=some (.int k'):=by
  grind [ID]
 simp only [execOp] at he
 split at he
 ·rename_i k0 n hx
  have aM:a.eval y= .int k0 n:=by
   have:=h.ta B (by rw [hx];rfl)
   rw [hx] at this
   exact this.mO
  obtain rfl:=ah he
  exact .quiet h (cv:=.int k (k.wrap n)) (by simp_all [Go.execOp,convert,run_underlying,Conv.intToInt]) rfl (.i _ _)
 ·cases he
theorem acm{R:Rec}{Ω:dK}{x:bz}{i:Nat}{r:AV×St}(h:aw C st a w σ)(hl:bN C.P (.ex x i) o.op=true)(he:execOp R Ω C.E st d (.ex x i)=some r) :
  ei C o d a w σ r.2 r.1:=by
 obtain ⟨y,G,B⟩:∃ y,o.op= .extract y i∧bY y x=true:=by
  simp only [bN] at hl;grind
 simp only [execOp] at he
 split at he
 ·rename_i vs hx
  obtain ⟨z,hz,he⟩:=aj.1 he
  obtain rfl:=ah he
  obtain ⟨us,hu,hlen,hc⟩:=(hx▸h.e7 B (by rw [hx];simp) (by rw [hx];rfl)).acf
  have hv:=hc i z hz
  have hi:i<us.size:=by
   grind
  have hr:(Go.execOp a.eval o).run C.P w= .ok (.value us[i]) w:=by simp_all [Go.execOp,Instr.extract]
  simp only [hi,eL,getElem?_pos,lr] at hv
  exact .jh hr ⟨.refl _ _ _,h,fun _ _=>kR hv,fun _ _ _ _ e=>by subst e;cases hv⟩
 ·cases he
theorem JV:∀ {ys:List Operand}{xs:List bz},gq ys xs=true→ys.length=xs.length∧∀ (m:Nat) x,xs[m]? =some x→∃ y,ys[m]? =some y∧bY y x=true
 | [],[],_=>by grind
 | y::ys,x::xs,h=>by
  obtain ⟨h1,h2⟩:bY y x=true∧gq ys xs=true:=by simpa [gq] using h
  obtain ⟨hl,hm⟩:=JV h2
  grind
 | [],_::_,h=>by simp [gq] at h
 | _::_,[],h=>by simp [gq] at h
theorem acn{R:Rec}{Ω:dK}{f:FuncId}{xs:List bz}{r:AV×St}(h:aw C st a w σ)(hl:bN C.P (.mf f xs) o.op=true)(he:execOp R Ω C.E st d (.mf f xs)=some r) :
  ei C o d a w σ r.2 r.1:=by
 obtain ⟨ys,G,B⟩:∃ ys,(o.op= .makeFunc (.func f) #[] ys∧f<1000000∨∃ g,f=1000000+g∧o.op= .makeFunc (.func g) ys #[])∧gq ys.toList xs=true:=by
  simp only [bN] at hl;grind
 obtain ⟨hlen,hm⟩:=JV B
 simp only [execOp] at he
 split at he
 ·rename_i F
  obtain rfl:=ah he
  have key:∀ (m:Nat)(c:AV),(xs.map st.ev)[m]? =some c→VR w σ.I σ.κ c ((ys.map a.eval).getD m undef):=fun m c N=>by
   rw [nT] at N
   obtain ⟨x,hx,rfl⟩:=ew.1 N
   obtain ⟨y,hy,aO⟩:=hm m x hx
   have hv:=h.ta aO ((by grind [zy]))
   simp_all
  rcases G with ⟨G,hg⟩ | ⟨g,rfl,G⟩
  ·exact .quiet h (cv:=.func (.func f) #[] (ys.map a.eval)) (by unfold Go.execOp;simp [G,Instr.makeFunc]) (by simpa [AV.copy] using F) (.f f _ _ hg (by grind) key)
  ·exact .quiet h (cv:=.func (.func g) (ys.map a.eval) #[]) (by unfold Go.execOp;simp [G,Instr.makeFunc]) (by simpa [AV.copy] using F) (.fm g _ _ (by grind) key)
 ·cases he
theorem aco{R:Rec}{Ω:dK}{x:bz}{r:AV×St}(h:aw C st a w σ)(hl:bN C.P (.nc x) o.op=true)(he:execOp R Ω C.E st d (.nc x)=some r) :
  ei C o d a w σ r.2 r.1:=by
 obtain ⟨y,G,B⟩:∃ y,o.op= .nilCheck y∧bY y x=true:=by
  simp only [bN] at hl;grind
 simp only [execOp] at he
 split at he
 ·rename_i k off hx
  obtain rfl:=ah he
  have hv:=(hx▸h.e7 B (by rw [hx];simp) (by rw [hx];rfl))
  exact .quiet h (cv:=a.eval y) (by unfold Go.execOp;simp [G,hv.xD]) rfl hv
 ·rename_i z off hx
  obtain rfl:=ah he
  have hv:=(hx▸h.e7 B (by rw [hx];simp) (by rw [hx];rfl))
  obtain ⟨g,o',cs,T,fz,ab,_⟩:=hv.Ld
  exact .quiet h (cv:=a.eval y) (by simp_all [Go.execOp]) rfl hv
 ·cases he
 ·rename_i g O hx
  obtain rfl:=ah he
  have hv:=(hx▸h.e7 B (by rw [hx];simp) (by rw [hx];rfl))
  obtain ⟨vs,ab,_⟩:=hv.IE
  exact .jh (cv:=a.eval y) (by unfold Go.execOp;rcases ab with ⟨_,ab⟩ | ⟨_,ab⟩<;>simp [G,ab]) ⟨.refl _ _ _,h,fun _ _=>kR hv,fun _ _ _ _ e=>by cases e⟩
 ·cases he
end
variable [cj]
section
variable {C:Cx}{st:St}{a:Act}{w:World}{σ:Sp}{o:Oper}{d:Option Nat}{R:Rec}{Ω:dK}{r:AV×St}
theorem vO{P:Program}{i:Nat}{f:Field}(h:tc P t i=some f):∃ fs,P.underlying t=some (.struct fs)∧fs[i]? =some f:=by
 unfold tc at h
 split at h
 ·rename_i fs hu;exact ⟨fs,hu,h⟩
 ·cases h
theorem NJ{P:Program}{s:TypeId}{i:Nat}{f:Field}(h:tc P s i=some f)(hi:(P.info? f.type).isSome=true)(hp:0<P.cellsOf f.type)(g b:Nat)(w:World) :
  (Instr.fieldAt s (.pointer (some ⟨g,b,none⟩)) i).run P w= .ok (.pointer (some ⟨g,b+f.offset,none⟩)) w:=by
 obtain ⟨fs,hu,hf⟩:=vO h
 have av:¬P.cellsOf f.type=0:=by omega
 simp [Instr.fieldAt,run_underlying hu,hf,Instr.sureAddr,fieldPlace,kr hi,av,add_lit]
theorem aw.B3(h:aw C st a w σ){pl:Pl}{es:List AV}(hr:st.rowAt C.E.dp pl=some (t,es))(av:es≠[]):
  ∃ g cap cs,gm w σ a pl= .slice (some ⟨g,0,none⟩) es.length cap∧fv C.P C.W w σ (pl.qf C.E.dp) (pl.iI C.E=true) t es g cap cs:=by
 rcases h.row hr with ⟨h1,_⟩ | h1
 ·exact absurd h1 av
 ·exact h1
theorem aw.Hf(h:aw C st a w σ){pl:Pl}{es:List AV}(hr:st.rowAt C.E.dp pl=some (t,es)):
  ∃ A cap,gm w σ a pl= .slice A es.length cap∧es.length≤cap:=by
 rcases h.row hr with ⟨rfl,h2⟩ | ⟨g,cap,cs,hv,hr⟩
 ·exact ⟨_,_,h2,aY _⟩
 ·exact ⟨_,_,hv,hr.ecap⟩
theorem ej{x:bz}{y:AV}(h:st.ev x=y)(hp:y.pure=false){op:Operand}(hl:bY op x=true):∃ n,x= .t n∧az st.fr n=y:=by
 cases x with
 | t n=>exact ⟨n,rfl,h⟩
 | c z=>
  have:=qL hl
  simp only [St.ev] at h
  rw [h,hp] at this
  cases this
theorem acp{x:bz}(h:aw C st a w σ)(hl:bN C.P (.fa off x) o.op=true)(he:execOp R Ω C.E st d (.fa off x)=some r):
  ei C o d a w σ r.2 r.1:=by
 obtain ⟨s,y,i,f,G,B,hf,rfl,hi,hp⟩:∃ s y i f,o.op= .fieldAddr s y i∧bY y x=true∧tc C.P s i=some f∧f.offset=off∧(C.P.info? f.type).isSome=true∧0<C.P.cellsOf f.type:=by
  simp only [bN] at hl;split at hl
  ·rename_i s y i hy
   simp only [aL] at hl
   obtain ⟨h1,h2⟩:=hl
   split at h2
   ·rename_i f hf
    simp only [aL,dH,eg] at h2
    exact ⟨s,y,i,f,hy,h1,hf,h2.1.1,h2.1.2,h2.2⟩
   ·cases h2
  ·cases hl
 have H:∀ g b,a.eval y= .pointer (some ⟨g,b,none⟩)→(Go.execOp a.eval o).run C.P w= .ok (.value (.pointer (some ⟨g,b+f.offset,none⟩))) w:=by
  intro g b hv
  unfold Go.execOp
  simp [G,hv,NJ hf hi hp]
 simp only [execOp] at he
 split at he
 ·rename_i k b hx
  obtain rfl:=ah he
  have hv:=(hx▸h.e7 B (by rw [hx];simp) (by rw [hx];rfl)).xD
  exact .quiet h (H _ _ hv) rfl (.p _ _)
 ·rename_i z b hx
  obtain rfl:=ah he
  obtain ⟨g,b',cs,T,fz,hv,hI,hh,ad,hs,h1,hc⟩:=(hx▸h.e7 B (by rw [hx];simp) (by rw [hx];rfl)).Ld
  exact .quiet h (by rw [H _ _ hv,yf]) rfl (.e z _ g b' cs T fz hI hh ad hs h1 hc)
 ·rename_i pl j sz b hx
  obtain ⟨⟨t,es⟩,J,he⟩:=aj.1 he
  split at he
  ·rename_i U
   obtain rfl:=ah he
   obtain ⟨n,rfl,hn⟩:=ej hx rfl B
   have hs:=hn▸h.slot B
   obtain ⟨g,n',cap,ac,hv⟩:=hs t es J U
   refine .yr h (H _ _ hv) (fun _ _ e=>by cases e) fun dd=>?_
   intro t' a4 a1 a2
   exact ⟨g,n',cap,ac,by rw [yf]⟩
  ·cases he
 ·cases he
theorem acq{n:Option Nat}{x:bz}(h:aw C st a w σ)(hl:bN C.P (.fd n off x) o.op=true)(he:execOp R Ω C.E st d (.fd n off x)=some r):
  ei C o d a w σ r.2 r.1:=by
 obtain ⟨s,y,i,f,G,B,hf,rfl,hn⟩:∃ s y i f,o.op= .field s y i∧bY y x=true∧tc C.P s i=some f∧f.offset=off∧sY C.P f.type n=true:=by
  simp only [bN] at hl;split at hl
  ·rename_i s y i hy
   simp only [aL] at hl
   obtain ⟨h1,h2⟩:=hl
   split at h2
   ·rename_i f hf
    simp only [aL,dH] at h2
    exact ⟨s,y,i,f,hy,h1,hf,h2.1,h2.2⟩
   ·cases h2
  ·cases hl
 obtain ⟨fs,hu,aK⟩:=vO hf
 simp only [execOp] at he
 split at he
 ·rename_i cs hx
  obtain ⟨z,hz,he⟩:=aj.1 he
  obtain rfl:=ah he
  obtain ⟨vs,hv,hlen,h1,hc⟩:=(hx▸h.e7 B (by rw [hx];simp) (by rw [hx];rfl)).U9
  cases n with
  | none=>
   obtain ⟨au,_⟩:yp C.P f.type=some false∧C.P.cellsOf f.type=1:=by simpa [sY] using hn
   have V:cs[f.offset]? =some z:=hz
   have U:f.offset<vs.size:=by
    rcases nQ f.offset cs.length with h2 | h2
    ·omega
    ·simp [h2] at V
   have S:=hc f.offset z V
   simp only [eL,U,getElem?_pos,lr] at S
   refine .jh (cv:=vs[f.offset]) ?_ ⟨.refl _ _ _,h,fun _ _=>kR S,fun _ _ _ _ e=>by subst e;cases S⟩
   unfold Go.execOp
   simp [G,hv,Instr.field,run_underlying hu,aK,asAgg,part,qM au,U]
  | some m=>
   obtain ⟨⟨au,hi⟩,hm⟩:(yp C.P f.type=some true∧(C.P.info? f.type).isSome=true)∧C.P.cellsOf f.type=m:=by simpa [sY] using hn
   simp only [pick] at hz
   split at hz
   ·rename_i hle
    have V:z= .a ((cs.drop f.offset).take m):=by simpa using hz.symm
    subst V
    have S:VR w σ.I σ.κ (.a ((cs.drop f.offset).take m)) (.agg (vs.extract f.offset (f.offset+m))):=by
     refine .a _ _ ?_ (fun c N=>h1 c (sN (iF N))) fun j c hj=>?_
     ·simp;omega
     ·have ay:j<m:=by
       rcases nQ j m with h2 | h2
       ·exact h2
       ·simp [mn,nR.2 h2] at hj
      rw [mn,af ay,nS] at hj
      have ab:=hc (f.offset+j) c hj
      have e1:f.offset+j<vs.size:=by omega
      have e2:j<min (f.offset+m) vs.size - f.offset:=by omega
      simpa [eL,Array.getElem?_extract,e1,e2] using ab
    refine .jh (cv:=.agg (vs.extract f.offset (f.offset+m))) ?_ ⟨.refl _ _ _,h,fun _ _=>kR S,fun _ _ _ _ e=>by cases e⟩
    unfold Go.execOp
    simp [G,hv,Instr.field,run_underlying hu,aK,asAgg,part,qM au,kr hi,hm]
   ·cases hz
 ·cases he
theorem acr{n:Option Nat}{x:bz}(h:aw C st a w σ)(hl:bN C.P (.ld n x) o.op=true)(he:execOp R Ω C.E st d (.ld n x)=some r) :
  ei C o d a w σ r.2 r.1:=by
 obtain ⟨t,y,G,B,hn⟩:∃ t y,o.op= .load t y∧bY y x=true∧sY C.P t n=true:=by
  simp only [bN] at hl;split at hl
  ·rename_i t y hy
   simp only [aL] at hl
   exact ⟨t,y,hy,hl.1,hl.2⟩
  ·cases hl
 have H:∀ g b v,a.eval y= .pointer (some ⟨g,b,none⟩)→(loadVar t ⟨g,b,none⟩).run C.P w= .ok v w→(Go.execOp a.eval o).run C.P w= .ok (.value v) w:=by
  intro g b v hv hr
  unfold Go.execOp
  simp [G,hv,Instr.loadAt,Instr.sureAddr,hr]
 simp only [execOp] at he
 split at he
 ·rename_i k b hx
  obtain ⟨cs,ak,he⟩:=aj.1 he
  obtain ⟨z,hz,he⟩:=aj.1 he
  have hv:=(hx▸h.e7 B (by rw [hx];simp) (by rw [hx];rfl)).xD
  obtain ⟨vs,T,hB⟩:=h.bx k cs ak
  have aE:z.copy=true→r=(z,st)→ei C o d a w σ r.2 r.1:=by
   intro F aQ
   subst aQ
   obtain ⟨v,hr,S⟩:=zS (P:=C.P) (I:=σ.I) (κ:=σ.κ) (b:=0) hB.hh (by have:=hB.size;omega) (fun off c hc ai=>by
     have:=hB.cell off c hc
     rw [gO]
     cases c<;>first | exact this | (simp [AV.copy] at ai)) (fun c hc ai=>(hB.one c hc).resolve_right (fun e=>by subst e;simp [AV.copy] at ai)) F hz hn
   rw [gO] at hr
   exact .quiet h (H _ _ _ hv hr) F S
  split at he
  ·rename_i t' es
   obtain rfl:=ah he
   cases n with
   | none=>
    obtain ⟨au,_⟩:yp C.P t=some false∧C.P.cellsOf t=1:=by simpa [sY] using hn
    have V:cs[b]? =some (.o t' es):=hz
    have U:b<vs.size:=by
     refine eK ?_ hB.size
     rcases nQ b cs.length with h2 | h2
     ·exact h2
     ·simp [h2] at V
    have hc:w.cell? ⟨σ.κ k,b,none⟩=some vs[b]:=by rw [uZ hB.hh];simp [U]
    refine .yr h (H _ _ vs[b] hv ?_) (fun _ _ e=>by cases e) fun dd _=>?_
    ·unfold loadVar
     simp [qM au w,hc]
    ·simp [gm,hB.hh,U]
   | some m=>
    simp only [pick] at hz
    split at hz<;>simp at hz
  ·split at he
   ·rename_i F
    exact aE F (ah he).symm
   ·cases he
 ·rename_i z b hx
  obtain ⟨y',hz,he⟩:=aj.1 he
  obtain rfl:=ah he
  obtain ⟨g,b',cs,T,fz,hv,hI,hh,ad,hs,h1,hc⟩:=(hx▸h.e7 B (by rw [hx];simp) (by rw [hx];rfl)).Ld
  have F:y'.copy=true:=by
   cases n with
   | none=>exact dO _ (j0 ad y' (bu hz))
   | some m=>
    simp only [pick] at hz
    split at hz
    ·have V:y'= .a ((z.cl.drop b).take m):=by simpa using hz.symm
     subst V
     exact dO _ (jY fun c N=>j0 ad c (sN (iF N)))
    ·cases hz
  obtain ⟨v,hr,S⟩:=zS (P:=C.P) (I:=σ.I) (κ:=σ.κ) (b:=b') hh hs (fun off c N _=>hc off c N) (fun c N _=>h1 c N) F hz hn
  exact .quiet h (H _ _ _ hv hr) F S
 ·rename_i pl i sz b hx
  obtain ⟨⟨t',es⟩,J,he⟩:=aj.1 he
  obtain ⟨e,aG,he⟩:=aj.1 he
  split at he
  ·rename_i ax
   obtain ⟨y',hz,he⟩:=aj.1 he
   obtain rfl:=ah he
   have U:i<es.length:=by
    rcases nQ i es.length with h2 | h2
    ·exact h2
    ·simp [h2] at aG
   obtain ⟨m,rfl,hm⟩:=ej hx rfl B
   obtain ⟨g,n',cap,ac,hv⟩:=(hm▸h.slot B) t' es J U
   obtain ⟨g',cap',cs,an,hR⟩:=h.B3 J (fun e=>by subst e;simp at U)
   obtain ⟨rfl,rfl,rfl⟩:g=g'∧n'=es.length∧cap=cap':=by
    rw [ac] at an;simpa using an
   have aF:=bu aG
   have am:sz=C.P.cellsOf t':=ax.symm.trans (hR.nc e aF)
   have ad:=hR.pure e aF
   have F:y'.copy=true:=by
    cases n with
    | none=>exact dO _ (j0 ad y' (bu hz))
    | some m=>
     simp only [pick] at hz
     split at hz
     ·have V:y'= .a ((e.cl.drop b).take m):=by simpa using hz.symm
      subst V
      exact dO _ (jY fun c N=>j0 ad c (sN (iF N)))
     ·cases hz
   have hbound:i*sz+e.cl.length≤cs.size:=by
    have h3:e.cl.length=sz:=ax
    rw [hR.size,h3,←am]
    have:(i+1)*sz≤cap*sz:=fL _ (by have:=hR.ecap;omega)
    rw [eY] at this
    omega
   obtain ⟨v,hr,S⟩:=zS (P:=C.P) (I:=σ.I) (κ:=σ.κ) (b:=i*sz) hR.hh hbound (fun off c N _=>by have:=hR.cell i e off c aG N;rwa [←am] at this)
    (fun c N _=>hR.one e aF c N) F hz hn
   exact .quiet h (H _ _ _ hv hr) F S
  ·cases he
 ·cases he
end
end Go.Proofs.YtlmphbbhaeampaaGreat.A
