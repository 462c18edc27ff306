/- How an abstract state lies in the model: who owns which block of memory. -/
import Derived.Test.YtlmphbbhaeampaaGreatAbs3
import Derived.Test.YtlmphbbhaeampaaGreatGl
import Derived.ChangeKeysEq
import Derived.Laws.StructEq
set_option linter.all false
namespace Go.Proofs.YtlmphbbhaeampaaGreat.A
open Go
inductive e8 where
 | box (k:Key)
 | rowS (dp d:Nat)
 | rowC (k:Key) (off:Nat)
 | grp (dp g:Nat)
 | mark (dp:Nat)
deriving DecidableEq
def Pl.rv(dp:Nat):Pl→e8
 | .s d=>.rowS dp d
 | .c k off=>.rowC k off
structure Sp where
 κ:Key→Nat
 ow:Nat→Option e8
 I:Nat→Prop
variable [cN]
structure fY(P:Program)(W:Nat→Prop)(w:World)(σ:Sp)(L:e8)(wr:Prop)(t:TypeId)(es:List AV)(g cap:Nat)(cs:Array Value):Prop where
 ow:σ.ow g=some L
 wr:wr→W g
 hh:w.heap[g]? =some (.cells cs t (0,0))
 pos:0<P.cellsOf t
 nc:∀ e∈es,e.nc=P.cellsOf t
 ecap:es.length≤cap
 max:cap≤maxLen
 size:cs.size=cap*P.cellsOf t
 pure:∀ e∈es,e.pure=true
 one:∀ e∈es,∀ c∈e.cl,c.one=true
 cell:∀ (j:Nat)(e:AV)(m:Nat)(c:AV),es[j]? =some e→e.cl[m]? =some c→VR w σ.I σ.κ c (cs.getD (j*P.cellsOf t+m) undef)
 base:cN.n0≤g
def OwnAt(P:Program)(W:Nat→Prop)(w:World)(σ:Sp)(L:e8)(wr:Prop)(t:TypeId)(es:List AV)(v:Value):Prop:=
 (es=[]∧v= .slice none 0 0)∨∃ g cap cs,v= .slice (some ⟨g,0,none⟩) es.length cap∧fY P W w σ L wr t es g cap cs
def ry(W:Nat→Prop)(dp:Nat)(w:World)(σ:Sp)(g:Nat)(t:TypeId)(x:AV)(v:Value):Prop:=
 x.pure=true∧VR w (fun b=>σ.ow b=some (.grp dp g)∧W b∧cN.n0≤b∧∃ cs,w.heap[b]? =some (.cells cs t (0,0))) σ.κ x v
variable {W:Nat→Prop}{g:Nat}{t:TypeId}{x:AV}
theorem ry.cn{W':Nat→Prop}{dp:Nat}{w w':World}{σ σ':Sp}{v:Value}(h:ry W dp w σ g t x v)(hb:∀ b,σ.ow b=some (.grp dp g)→w'.heap[b]? =w.heap[b]? ∧σ'.ow b=some (.grp dp g))(hW:∀ b,W b→W' b):ry W' dp w' σ' g t x v:=
 ⟨h.1,h.2.mono ((by grind)) (fun b h1=>(hb b h1.1).1) (fun k hk=>by rw [lW _ h.1] at hk;cases hk)⟩
structure Cx where
 P:Program
 W:Nat→Prop
 E:Env
 nt:Nat
def ic(w:World)(σ:Sp)(a:Act):Pl→Value
 | .s d=>a.tmps.getD d undef
 | .c k off=>match w.heap[σ.κ k]? with
  | some (.cells vs _ _)=>vs.getD off undef
  | _=>undef
def CR(C:Cx)(w:World)(σ:Sp)(k:Key)(off:Nat)(c:AV)(v:Value):Prop:=
 match c with
 | .o t es=>OwnAt C.P C.W w σ (.rowC k off) ((Pl.c k off).kq C.E=true) t es v
 | .w g t x=>ry C.W C.E.dp w σ g t x v
 | .bp _ k' u=>k'=k∧v=if u=true then .pointer (some ⟨σ.κ k,off,none⟩) else .pointer none
 | c=>VR w σ.I σ.κ c v
variable {k:Key}{off:Nat}{c:AV}
theorem Vm{C:Cx}{w:World}{σ:Sp}{v:Value}(h:VR w σ.I σ.κ c v):CR C w σ k off c v:=by
 cases c<;>first | exact h | cases h
structure lE(C:Cx)(w:World)(σ:Sp)(k:Key)(cs:List AV)(vs:Array Value)(T:TypeId):Prop where
 hh:w.heap[σ.κ k]? =some (.cells vs T (0,0))
 size:cs.length≤vs.size
 ow:σ.ow (σ.κ k)=some (.box k)
 wr:(Pl.c k 0).kq C.E=true→C.W (σ.κ k)
 one:∀ c∈cs,c.one=true∨c= .u
 cell:∀ (off:Nat)(c:AV),cs[off]? =some c→CR C w σ k off c (vs.getD off undef)
 ty:∀ t k u,AV.bp t k u∈cs→t=T∧vs.size=cs.length
 kb:(1000000≤k.d→T=(k.d - 1000000) / 1000)∧cN.n0≤σ.κ k
def zC(C:Cx)(w:World)(σ:Sp)(st:St)(a:Act)(cs:List AV)(rs:List (Nat×Nat))(v:Value):Prop:=
 ∃ vs,v= .agg vs∧cs.length=vs.size∧(∀ c∈cs,c.one=true∨c= .u)∧(∀ (m:Nat)(c:AV),cs[m]? =some c→VR w σ.I σ.κ c (vs.getD m undef))∧
  ∀ q∈rs,(st.rowAt C.E.dp (.s q.2)).isSome=true→vs.getD q.1 undef=a.tmps.getD q.2 undef
variable {st':St}{a':Act}{cs:List AV}
theorem zC.to{C:Cx}{w w':World}{σ σ':Sp}{st:St}{a:Act}{rs:List (Nat×Nat)}{v:Value}(h:zC C w σ st a cs rs v)(hV:∀ c∈cs,∀ v,VR w σ.I σ.κ c v→VR w' σ'.I σ'.κ c v)(hR:∀ q∈rs,(st'.rowAt C.E.dp (.s q.2)).isSome=true→(st.rowAt C.E.dp (.s q.2)).isSome=true∧a'.tmps.getD q.2 undef=a.tmps.getD q.2 undef):zC C w' σ' st' a' cs rs v:=by
 obtain ⟨vs,h1,h2,h3,h4,h5⟩:=h
 exact ⟨vs,h1,h2,h3,by grind,by grind⟩
def SR(C:Cx)(w:World)(σ:Sp)(st:St)(a:Act)(d:Nat)(x:AV)(v:Value):Prop:=
 match x with
 | .o t es=>OwnAt C.P C.W w σ (.rowS C.E.dp d) True t es v
 | .r pl=>(st.rowAt C.E.dp pl).isSome=true→v=ic w σ a pl
 | .v pl lo len=>∀ t es,st.rowAt C.E.dp pl=some (t,es)→lo+len≤es.length→
   ∃ A n cap,ic w σ a pl= .slice A n cap∧v= .slice (if cap=lo then A else A.map (·.add (lo*C.P.cellsOf t))) len (cap - lo)
 | .q pl i sz off=>∀ t es,st.rowAt C.E.dp pl=some (t,es)→i<es.length→
   ∃ g n cap,ic w σ a pl= .slice (some ⟨g,0,none⟩) n cap∧v= .pointer (some ⟨g,i*sz+off,none⟩)
 | .w g t x=>ry C.W C.E.dp w σ g t x v
 | .ag cs rs=>zC C w σ st a cs rs v
 | x=>VR w σ.I σ.κ x v
def Ny(w:World)(I:Nat→Prop):Prop:=∀ q∈glP,I q.1∧∃ T fz,w.heap[q.1]? =some (.cells q.2 T fz)
theorem Ny.cn{w w':World}{I I':Nat→Prop}(h:Ny w I)(hI:∀ b,I b→I' b)(hh:∀ b,I b→w'.heap[b]? =w.heap[b]?):Ny w' I':=fun q hq=>by
 obtain ⟨h1,T,fz,h2⟩:=h q hq
 grind
def Kj(D:Nat):Deferred:={target:=.collected D,args:=#[]}
def Marks(C:Cx)(ds:List Deferred)(w:World)(σ:Sp):Prop:=
 ∃ Ds:List Nat,Ds.Nodup∧ds=Ds.map Kj∧∀ D∈Ds,σ.ow D=some (.mark C.E.dp)∧C.W D∧w.heap[D]? =some (.deferred (some []))
theorem Marks.nil{C:Cx}{w:World}{σ:Sp} : Marks C [] w σ:=⟨[],List.nodup_nil,rfl,fun _ h=>by cases h⟩
structure aE(C:Cx)(st:St)(a:Act)(w:World)(σ:Sp):Prop where
 size:a.tmps.size=C.nt
 defers:Marks C a.defers w σ
 fr:∀ d,SR C w σ st a d (aQ st.fr d) (a.tmps.getD d undef)
 bx:∀ k cs,st.box C.E.dp k=some cs→∃ vs T,lE C w σ k cs vs T
 hpd:∀ k cs,k.dp≠C.E.dp→st.hp k=some cs→k.dp<C.E.dp∧∀ c∈cs,c.deep k.dp=true
 own:∀ b l,σ.ow b=some l→b<w.heap.size
 da:∀ b,σ.I b→b<w.heap.size∧σ.ow b=none
 new:∀ b,w.heap.size≤b→C.W b∧cN.n0≤b
 lay:Ny w σ.I
structure dJ(C:Cx)(w:World)(σ:Sp)(w':World)(σ':Sp):Prop where
 size:w.heap.size≤w'.heap.size
 cn:∀ b,b<w.heap.size→¬C.W b→w'.heap[b]? =w.heap[b]?
 up:∀ b,σ.I b→σ'.I b
 da:∀ b,σ.I b→w'.heap[b]? =w.heap[b]?
 dn:∀ b,σ'.I b→σ.I b∨C.W b
 kap:∀ k,k.dp<C.E.dp→σ'.κ k=σ.κ k
 ow:∀ b,b<w.heap.size→¬C.W b→σ'.ow b=σ.ow b
 io:w'.os=w.os∧w'.output=w.output
theorem dJ.refl(C:Cx)(w:World)(σ:Sp):dJ C w σ w σ:=⟨bG _,fun _ _ _=>rfl,fun _ h=>h,fun _ _=>rfl,fun _ h=>.inl h,fun _ _=>rfl,fun _ _ _=>rfl,rfl,rfl⟩
theorem dJ.trans{C:Cx}{w w' w'':World}{σ σ' σ'':Sp}(h:dJ C w σ w' σ')(h':dJ C w' σ' w'' σ''):dJ C w σ w'' σ'':=
 ⟨eC h.size h'.size,fun b hb hW=>(h'.cn b (fO hb h.size) hW).trans (h.cn b hb hW),fun b hb=>h'.up b (h.up b hb),
  fun b hb=>(h'.da b (h.up b hb)).trans (h.da b hb),fun b hb=>(h'.dn b hb).elim (fun h1=>h.dn b h1) .inr,
  fun k hk=>(h'.kap k hk).trans (h.kap k hk),fun b hb hW=>(h'.ow b (fO hb h.size) hW).trans (h.ow b hb hW),h'.io.1.trans h.io.1,h'.io.2.trans h.io.2⟩
section
variable {C:Cx}{w w':World}{σ σ':Sp}
theorem fY.cn{L:e8}{wr:Prop}{es:List AV}{cap:Nat}{cs:Array Value}(h:fY C.P C.W w σ L wr t es g cap cs)(hg:w'.heap[g]? =w.heap[g]?)(aN:σ'.ow g=some L)(hI:∀ b,σ.I b→σ'.I b)(hh:∀ b,σ.I b→w'.heap[b]? =w.heap[b]?):fY C.P C.W w' σ' L wr t es g cap cs:=
 ⟨aN,h.wr,hg.trans h.hh,h.pos,h.nc,h.ecap,h.max,h.size,h.pure,h.one,fun j e m c he hc=>(h.cell j e m c he hc).mono hI hh (fun k hk=>by
  have:=lW (k:=k) c (lA (h.pure e (cm he)) c (cm hc))
  grind),h.base⟩
theorem OwnAt.cn{L:e8}{wr:Prop}{es:List AV}{v:Value}(h:OwnAt C.P C.W w σ L wr t es v)(hg:∀ g,σ.ow g=some L→w'.heap[g]? =w.heap[g]? ∧σ'.ow g=some L)(hI:∀ b,σ.I b→σ'.I b)(hh:∀ b,σ.I b→w'.heap[b]? =w.heap[b]?):OwnAt C.P C.W w' σ' L wr t es v:=by
 rcases h with h | ⟨g,cap,cs,hv,hr⟩
 ·exact .inl h
 ·exact .inr ⟨g,cap,cs,hv,hr.cn (hg g hr.ow).1 (hg g hr.ow).2 hI hh⟩
theorem CR.cn{v:Value}(h:CR C w σ k off c v)(hg:∀ g,σ.ow g=some (.rowC k off)→w'.heap[g]? =w.heap[g]? ∧σ'.ow g=some (.rowC k off))(hI:∀ b,σ.I b→σ'.I b)(hh:∀ b,σ.I b→w'.heap[b]? =w.heap[b]?)(hk:∀ k,c.dD k=false→σ'.κ k=σ.κ k)(hw:∀ b g,σ.ow b=some (.grp C.E.dp g)→w'.heap[b]? =w.heap[b]? ∧σ'.ow b=some (.grp C.E.dp g)):CR C w' σ' k off c v:=by
 cases c with
 | o t es=>exact OwnAt.cn h hg hI hh
 | w g t x=>exact ry.cn h (fun b hb=>hw b g hb) fun _ h=>h
 | bp t k' u=>
  obtain ⟨rfl,h2⟩:=h
  exact ⟨rfl,by grind [AV.dD]⟩
 | _=>exact VR.mono h hI hh hk
structure jB(C:Cx)(w:World)(σ:Sp)(w':World)(σ':Sp)(L:Option e8):Prop where
 blk:∀ b l,σ.ow b=some l→some l≠L→w'.heap[b]? =w.heap[b]? ∧σ'.ow b=some l
 da:∀ b,σ.I b→w'.heap[b]? =w.heap[b]?
 up:∀ b,σ.I b→σ'.I b
 kap:σ'.κ=σ.κ
 size:w.heap.size≤w'.heap.size
 own:∀ b l,σ'.ow b=some l→b<w'.heap.size
 dn:∀ b,σ'.I b→b<w'.heap.size∧σ'.ow b=none
theorem Marks.same{ds:List Deferred}{M:Option e8}(h:Marks C ds w σ)(hs:jB C w σ w' σ' M)(hM:some (.mark C.E.dp)≠M):Marks C ds w' σ':=by
 obtain ⟨Ds,h0,h1,h2⟩:=h
 refine ⟨Ds,h0,h1,fun D hD=>?_⟩
 obtain ⟨h3,h4,h5⟩:=h2 D hD
 obtain ⟨h6,h7⟩:=hs.blk D _ h3 hM
 grind
theorem OwnAt.same{L:e8}{M:Option e8}{wr:Prop}{es:List AV}{v:Value}(h:jB C w σ w' σ' M)(hL:some L≠M)(ho:OwnAt C.P C.W w σ L wr t es v):
  OwnAt C.P C.W w' σ' L wr t es v:=ho.cn (fun g hg=>h.blk g L hg hL) h.up h.da
theorem VR.same{M:Option e8}{v:Value}(h:jB C w σ w' σ' M)(hv:VR w σ.I σ.κ x v):VR w' σ'.I σ'.κ x v:=
 hv.mono h.up h.da fun k _=>by rw [h.kap]
theorem CR.same{M:Option e8}{v:Value}(h:jB C w σ w' σ' M)(hL:some (.rowC k off)≠M)(hc:CR C w σ k off c v)(hG:∀ g,some (.grp C.E.dp g)≠M:=by simp [Pl.rv]):CR C w' σ' k off c v:=
 hc.cn (fun g hg=>h.blk g _ hg hL) h.up h.da (fun k _=>by rw [h.kap]) fun b g hb=>h.blk b _ hb (hG g)
theorem ry.same{M:Option e8}{v:Value}(h:jB C w σ w' σ' M)(hG:some (.grp C.E.dp g)≠M)(hw:ry C.W C.E.dp w σ g t x v):ry C.W C.E.dp w' σ' g t x v:=
 hw.cn (fun b hb=>h.blk b _ hb hG) fun _ h=>h
end
theorem oc(d:Nat)(x:AV)(fr:List (Nat×AV))(d':Nat):aQ ((d,x)::fr) d'=if d=d' then x else aQ fr d':=rfl
theorem pV(fr:List (Nat×AV))(pl:Pl)(d:Nat) :
  aQ (fr.map fun x=>(x.1,if x.2.fX pl=true then .u else x.2)) d=if (aQ fr d).fX pl=true then .u else aQ fr d:=by
 induction fr with
 | nil=>simp [aQ,AV.fX]
 | cons y fr ih=>
  grind [aQ]
theorem od(st:St)(pl:Pl)(d:Nat):(aQ (st.ct pl).fr d).fX pl=false:=by
 unfold St.ct
 rw [pV]
 split
 ·rfl
 grind
theorem Rf(dp:Nat)(st:St)(pl p:Pl):(st.ct pl).rowAt dp p=st.rowAt dp p:=by
 cases p with
 | s d=>
  simp only [St.rowAt,St.ct,pV]
  grind [AV.fX]
 | c k off=>rfl
theorem Vn(dp:Nat)(st:St)(pl:Pl)(k:Key):(st.ct pl).box dp k=st.box dp k:=rfl
theorem IZ(a:Act)(d d':Nat)(v:Value)(hd:d<a.tmps.size):(a.put (some d) v).tmps.getD d' undef=if d=d' then v else a.tmps.getD d' undef:=by
 simp only [Act.put,iy,F4]
 grind
section
variable {C:Cx}{st:St}{a:Act}{w:World}{σ:Sp}
theorem I0{d:Nat}{v:Value}(hx:x.copy=true∨x= .u)(h:VR w σ.I σ.κ x v):SR C w σ st a d x v:=by
 cases x<;>first | exact h | grind [AV.copy]
theorem SR.Gk{d:Nat}{v:Value}(hx:x.copy=true)(h:SR C w σ st a d x v):VR w σ.I σ.κ x v:=by
 cases x<;>first | exact h | (simp [AV.copy] at hx)
theorem SR.I1{d:Nat}{v:Value}(h:SR C w σ st a d x v)(hr:∀ pl,x.fX pl=true→(∃ r,st'.rowAt C.E.dp pl=some r)→st'.rowAt C.E.dp pl=st.rowAt C.E.dp pl∧ic w σ a' pl=ic w σ a pl):SR C w σ st' a' d x v:=by
 cases x with
 | r pl=>
  intro hs
  obtain ⟨r,aw⟩:=jK.1 hs
  obtain ⟨h1,h2⟩:=hr pl (by simp [AV.fX]) ⟨r,aw⟩
  exact (h (by grind)).trans h2.symm
 | v pl lo len=>
  intro t es ht hl
  obtain ⟨h1,h2⟩:=hr pl (by simp [AV.fX]) ⟨_,ht⟩
  rw [h2]
  exact h t es (h1▸ht) hl
 | q pl i sz off=>
  intro t es ht hl
  obtain ⟨h1,h2⟩:=hr pl (by simp [AV.fX]) ⟨_,ht⟩
  rw [h2]
  exact h t es (h1▸ht) hl
 | ag cs rs=>
  refine zC.to h (fun c _ v hv=>hv) (fun q hq hs=>?_)
  obtain ⟨r,aw⟩:=jK.1 hs
  obtain ⟨h1,h2⟩:=hr (.s q.2) (xh.2 ⟨q,hq,by simp⟩) ⟨r,aw⟩
  exact ⟨by grind,h2⟩
 | _=>exact h
theorem aE.put{d:Nat}{v:Value}(h:aE C st a w σ)(hd:d<C.nt)(hx:SR C w σ st a d x v)(hb:∀ t es,x= .o t es→∀ d',(aQ st.fr d').fX (.s d)=false):aE C (st.dA d x) (a.put (some d) v) w σ:=by
 have aU:d<a.tmps.size:=h.size▸hd
 have J:∀ pl,pl≠.s d→(st.dA d x).rowAt C.E.dp pl=st.rowAt C.E.dp pl∧ic w σ (a.put (some d) v) pl=ic w σ a pl:=by
  intro pl ar
  cases pl with
  | s d'=>
   grind [St.rowAt,St.dA,oc,ic,IZ]
  | c k off=>exact ⟨rfl,rfl⟩
 have V:∀ r,(st.dA d x).rowAt C.E.dp (.s d)=some r→∃ t es,x= .o t es:=by
  grind [St.rowAt,St.dA,oc]
 refine ⟨by simp [Act.put,h.size],(show Marks C (a.put (some d) v).defers w σ from h.defers),fun d'=>?_,h.bx,h.hpd,h.own,h.da,h.new,h.lay⟩
 rw [IZ a d d' v aU]
 simp only [St.dA,oc]
 split
 ·rename_i aT
  subst aT
  refine hx.I1 fun pl aF ⟨r,hr⟩=>?_
  by_cases hp:pl= .s d
  ·subst hp
   obtain ⟨t,es,rfl⟩:=V r hr
   simp [AV.fX] at aF
  ·exact J pl hp
 ·refine (h.fr d').I1 fun pl aF ⟨r,hr⟩=>?_
  by_cases hp:pl= .s d
  ·subst hp
   obtain ⟨t,es,rfl⟩:=V r hr
   grind
  ·exact J pl hp
theorem aE.forget(h:aE C st a w σ)(aS:∀ d,aQ st'.fr d= .u∨aQ st'.fr d=aQ st.fr d)(ac:∀ k cs,st'.box C.E.dp k=some cs→st.box C.E.dp k=some cs)(aR:st'.hp=st.hp):aE C st' a w σ:=by
 refine ⟨h.size,h.defers,fun d=>?_,fun k cs hk=>h.bx k cs (ac k cs hk),aR▸h.hpd,h.own,h.da,h.new,h.lay⟩
 have J:∀ pl r,st'.rowAt C.E.dp pl=some r→st.rowAt C.E.dp pl=some r:=by
  intro pl r hr
  cases pl with
  | s d'=>
   grind [St.rowAt]
  | c k off=>
   grind [St.rowAt]
 rcases aS d with e | e
 ·rw [e];exact VR.u _
 ·rw [e]
  exact (h.fr d).I1 (by grind)
theorem aE.ct(h:aE C st a w σ)(pl:Pl):aE C (st.ct pl) a w σ:=
 h.forget (fun d=>by
  simp only [St.ct,pV]
  grind) (fun _ _ h=>h) rfl
structure Idle(C:Cx)(st:St)(L:Option e8):Prop where
 sl:∀ d t es,aQ st.fr d= .o t es→some (.rowS C.E.dp d)≠L
 bx:∀ k cs,st.box C.E.dp k=some cs→some (.box k)≠L
 ce:∀ k cs off t es,st.box C.E.dp k=some cs→cs[off]? =some (.o t es)→some (.rowC k off)≠L
 gr:∀ g,some (.grp C.E.dp g)≠L:=by simp
 mrk:some (.mark C.E.dp)≠L:=by simp
theorem Idle.none:Idle C st none:=⟨fun _ _ _ _=>by simp,fun _ _ _=>by simp,fun _ _ _ _ _ _ _=>by simp,fun _=>by simp,by simp⟩
structure ama(C:Cx)(st:St)(L:Option e8):Prop where
 sl:∀ d t es,aQ st.fr d= .o t es→some (.rowS C.E.dp d)≠L
 bx:∀ k cs,st.box C.E.dp k=some cs→some (.box k)≠L
 ce:∀ k cs off t es,st.box C.E.dp k=some cs→cs[off]? =some (.o t es)→some (.rowC k off)≠L
 gr:∀ g,some (.grp C.E.dp g)≠L
theorem aE.Vo{w':World}{σ':Sp}{L:Option e8}(h:aE C st a w σ)(hs:jB C w σ w' σ' L)(hi:ama C st L)(hm:Marks C a.defers w' σ'):aE C st a w' σ':=by
 have aD:∀ k cs,st.box C.E.dp k=some cs→w'.heap[σ'.κ k]? =w.heap[σ.κ k]? :=by
  intro k cs hk
  obtain ⟨vs,T,hb⟩:=h.bx k cs hk
  rw [hs.kap]
  exact (hs.blk _ _ hb.ow (hi.bx k cs hk)).1
 refine ⟨h.size,hm,fun d=>?_,fun k cs hk=>?_,h.hpd,hs.own,hs.dn,fun b hb=>h.new b (eC hs.size hb),h.lay.cn hs.up hs.da⟩
 ·have:=h.fr d
  have Z:∀ pl r,st.rowAt C.E.dp pl=some r→ic w' σ' a pl=ic w σ a pl:=by
   intro pl r hr
   cases pl with
   | s d'=>rfl
   | c k off=>
    grind [St.rowAt,ic]
  cases hx:aQ st.fr d with
  | o t es=>rw [hx] at this;exact OwnAt.same hs (hi.sl d t es hx) this
  | r pl=>
   rw [hx] at this
   intro S
   obtain ⟨r,hr⟩:=jK.1 S
   rw [Z pl r hr]
   exact this S
  | v pl lo len=>
   rw [hx] at this
   intro t es ht hl
   rw [Z pl _ ht]
   exact this t es ht hl
  | q pl i sz off=>
   rw [hx] at this
   intro t es ht hl
   rw [Z pl _ ht]
   exact this t es ht hl
  | w g t x=>rw [hx] at this;exact ry.same hs (hi.gr g) this
  | ag cs rs=>rw [hx] at this;exact zC.to this (fun c _ v hv=>VR.same hs hv) (fun _ _ hr=>⟨hr,rfl⟩)
  | _=>rw [hx] at this;exact VR.same hs this
 ·obtain ⟨vs,T,hb⟩:=h.bx k cs hk
  refine ⟨vs,T,(aD k cs hk).trans hb.hh,hb.size,?_,fun hw=>?_,hb.one,fun off c hc=>?_,hb.ty,by rw [hs.kap];exact hb.kb⟩
  ·rw [hs.kap];exact (hs.blk _ _ hb.ow (hi.bx k cs hk)).2
  ·rw [hs.kap];exact hb.wr hw
  ·have:=hb.cell off c hc
   cases c with
   | o t es=>exact OwnAt.same hs (hi.ce k cs off t es hk hc) this
   | w g t x=>exact ry.same hs (hi.gr g) this
   | bp t k' u=>exact ⟨this.1,by rw [hs.kap];exact this.2⟩
   | _=>exact VR.same hs this
theorem aE.ON{w':World}{σ':Sp}{L:Option e8}(h:aE C st a w σ)(hs:jB C w σ w' σ' L)(hi:Idle C st L):aE C st a w' σ':=
 h.Vo hs ⟨hi.sl,hi.bx,hi.ce,hi.gr⟩ (h.defers.same hs hi.mrk)
theorem aE.same{w':World}{σ':Sp}(h:aE C st a w σ)(hs:jB C w σ w' σ' none):aE C st a w' σ':=h.ON hs .none
end
variable [cN]
mutual
def C5:Value→AV→Bool
 | .bool x,.b y=>x==y
 | .int k n,.i k' n'=>decide (k=k')&&n==n'
 | .string s,.s l=>s.data.toList==l
 | .slice none 0 0,.n=>true
 | .slice none 0 0,.l _ []=>true
 | .pointer none,.z=>true
 | .nilFunc,.nf=>true
 | .nilIface,.ni=>true
 | .agg vs,.a cs=>vU vs.toList cs&&cs.all AV.one
 | .tuple vs,.tp cs=>vU vs.toList cs
 | _,_=>false
def vU:List Value→List AV→Bool
 | [],[]=>true
 | v::vs,c::cs=>C5 v c&&vU vs cs
 | _,_=>false
end
def cJ:Operand→bY→Bool
 | .tmp t,.t n=>t==n
 | .const v,.c x=>C5 v x
 | .func f,.c (.f g [])=>f==g&&decide (f<1000000)
 | _,_=>false
def iZ:List Operand→List bY→Bool
 | [],[]=>true
 | y::ys,x::xs=>cJ y x&&iZ ys xs
 | _,_=>false
section
variable {w:World}{I:Nat→Prop}{κ:Key→Nat}
mutual
theorem HJ:(v:Value)→(x:AV)→C5 v x=true→VR w I κ x v∧x.pure=true
 | .bool x,.b y,h=>by
  have:x=y:=by simpa [C5] using h
  subst this;exact ⟨.b _,rfl⟩
 | .int k n,.i k' n',h=>by
  obtain ⟨h1,h2⟩:k=k'∧n=n':=by simpa [C5] using h
  subst h1;subst h2;exact ⟨.i _ _,rfl⟩
 | .string s,.s l,h=>by
  have:s.data.toList=l:=by simpa [C5] using h
  subst this
  have e:s=⟨s.data.toList.toArray⟩:=by cases s;simp
  refine ⟨?_,rfl⟩
  rw [e]
  exact .s _
 | .slice none 0 0,.n,_=>⟨.n,rfl⟩
 | .slice none 0 0,.l t [],_=>⟨.lnil t none 0,rfl⟩
 | .pointer none,.z,_=>⟨.z,rfl⟩
 | .nilFunc,.nf,_=>⟨.nf,rfl⟩
 | .nilIface,.ni,_=>⟨.ni,rfl⟩
 | .agg vs,.a cs,h=>by
  obtain ⟨h1,h2⟩:vU vs.toList cs=true∧cs.all AV.one=true:=by simpa [C5] using h
  obtain ⟨hl,hc⟩:=vd vs.toList cs h1
  refine ⟨.a cs vs (by simpa using hl.symm) (fun c hc=>by simpa using List.all_eq_true.1 h2 c hc) fun m c hm=>?_,?_⟩
  ·have:=(hc m c hm).1;simpa using this
  ·exact lU fun x hx=>by
    obtain ⟨m,hm⟩:=fP.1 hx
    exact (hc m x hm).2
 | .tuple vs,.tp cs,h=>by
  have h1:vU vs.toList cs=true:=by simpa [C5] using h
  obtain ⟨hl,hc⟩:=vd vs.toList cs h1
  refine ⟨.tp cs vs (by simpa using hl.symm) fun m c hm=>?_,?_⟩
  ·have:=(hc m c hm).1;simpa using this
  ·exact lU fun x hx=>by
    obtain ⟨m,hm⟩:=fP.1 hx
    exact (hc m x hm).2
theorem vd:(vs:List Value)→(cs:List AV)→vU vs cs=true→
  vs.length=cs.length∧∀ (m:Nat)(c:AV),cs[m]? =some c→VR w I κ c (vs[m]?.getD undef)∧c.pure=true
 | [],[],_=>⟨rfl,fun m c h=>by simp at h⟩
 | v::vs,c::cs,h=>by
  obtain ⟨h1,h2⟩:C5 v c=true∧vU vs cs=true:=by simpa [vU] using h
  obtain ⟨hl,hc⟩:=vd vs cs h2
  refine ⟨by simp [hl],fun m d hm=>?_⟩
  cases m with
  | zero=>
   have:c=d:=by simpa using hm
   subst this
   simpa using HJ v c h1
  | succ m=>simpa using hc m d (by simpa using hm)
end
end
section
variable {C:Cx}{st:St}{a:Act}{w:World}{σ:Sp}
theorem aE.vA(h:aE C st a w σ){y:Operand}{x:bY}(hl:cJ y x=true)(hc:(st.ev x).copy=true):VR w σ.I σ.κ (st.ev x) (a.eval y):=by
 cases x with
 | t n=>
  cases y with
  | tmp t=>
   have:t=n:=by simpa [cJ] using hl
   subst this
   exact (h.fr t).Gk hc
  | _=>simp [cJ] at hl
 | c z=>
  cases y with
  | const v=>exact (HJ v z hl).1
  | func f=>
   cases z<;>simp [cJ] at hl
   rename_i g N
   cases N<;>simp at hl
   obtain ⟨hl,hg⟩:=hl
   subst hl
   exact VR.f _ [] #[] hg rfl fun m c hm=>by simp at hm
  | _=>simp [cJ] at hl
theorem si{y:Operand}{z:AV}(hl:cJ y (.c z)=true):z.pure=true:=by
 cases y with
 | const v=>exact (HJ (w:=default) (I:=fun _=>False) (κ:=fun _=>0) v z hl).2
 | func f=>
  cases z<;>simp [cJ] at hl
  rename_i g N
  cases N<;>simp at hl
  rfl
 | _=>simp [cJ] at hl
theorem AG{y:Operand}{n:Nat}(hl:cJ y (.t n)=true):y= .tmp n:=by
 cases y with
 | tmp t=>
  have:t=n:=by simpa [cJ] using hl
  rw [this]
 | _=>simp [cJ] at hl
theorem aE.slot(h:aE C st a w σ){y:Operand}{n:Nat}(hl:cJ y (.t n)=true):SR C w σ st a n (aQ st.fr n) (a.eval y):=by
 rw [AG hl];exact h.fr n
theorem OwnAt.Gl{P:Program}{L:e8}{wr wr':Prop}{es:List AV}{v:Value}(h:OwnAt P W w σ L wr t es v)(hw:wr'→wr):OwnAt P W w σ L wr' t es v:=by
 rcases h with h | ⟨g,cap,cs,hv,hr⟩
 ·exact .inl h
 ·exact .inr ⟨g,cap,cs,hv,hr.ow,fun x=>hr.wr (hw x),hr.hh,hr.pos,hr.nc,hr.ecap,hr.max,hr.size,hr.pure,hr.one,hr.cell,hr.base⟩
theorem aE.row(h:aE C st a w σ){pl:Pl}{es:List AV}(hr:st.rowAt C.E.dp pl=some (t,es)):
  OwnAt C.P C.W w σ (pl.rv C.E.dp) (pl.kq C.E=true) t es (ic w σ a pl):=by
 cases pl with
 | s d=>
  simp only [St.rowAt] at hr
  have:=h.fr d
  cases hx:aQ st.fr d<;>rw [hx] at hr this<;>simp at hr
  obtain ⟨rfl,rfl⟩:=hr
  exact OwnAt.Gl this fun _=>trivial
 | c k off=>
  simp only [St.rowAt] at hr
  cases hb:st.box C.E.dp k with
  | none=>simp [hb] at hr
  | some cs=>
   simp only [hb] at hr
   cases hc:cs[off]? with
   | none=>simp [hc] at hr
   | some c=>
    obtain ⟨vs,T,ac⟩:=h.bx k cs hb
    have:=ac.cell off c hc
    simp only [hc] at hr
    cases c<;>simp at hr
    obtain ⟨rfl,rfl⟩:=hr
    simp only [ic,ac.hh]
    exact this
def Ev(P:Program)(t:TypeId):Option Bool:=(P.underlying t).map fun
 | .struct _=>true
 | .array _ _=>true
 | _=>false
def AW(P:Program)(t:TypeId)(n:Option Nat):Bool:=
 match n with
 | none=>Ev P t==some false&&decide (P.cellsOf t=1)
 | some m=>Ev P t==some true&&(P.info? t).isSome&&decide (P.cellsOf t=m)
theorem zf{P:Program}{x:Bool}(h:Ev P t=some x)(w:World):(isAgg t).run P w= .ok x w:=by
 unfold Ev at h
 cases hu:P.underlying t with
 | none=>simp [hu] at h
 | some d=>
  simp only [hu,kJ,p7] at h
  unfold isAgg
  rw [Sem.run_bind,run_underlying hu w]
  cases d<;>simp_all
theorem mQ{P:Program}(h:(P.info? t).isSome=true)(w:World):(sizeOf t).run P w= .ok (P.cellsOf t) w:=by
 obtain ⟨i,hi⟩:=jK.1 h
 simp [sizeOf,typeInfo,hi,Program.cellsOf]
theorem add_lit(g o j:Nat):(⟨g,o,none⟩:Addr).add j=⟨g,o+j,none⟩:=by unfold Addr.add;split<;>simp_all
theorem xM{vs:Array Value}{T:TypeId}{fz:Nat×Nat}(hh:w.heap[g]? =some (.cells vs T fz))(o:Nat):w.cell? ⟨g,o,none⟩=vs[o]? :=by
 simp [World.cell?,hh]
theorem Cl{P:Program}{I:Nat→Prop}{κ:Key→Nat}{b:Nat}{vs:Array Value}{T:TypeId}{fz:Nat×Nat}{n:Option Nat}{y:AV}(hh:w.heap[g]? =some (.cells vs T fz))(U:b+cs.length≤vs.size)(Y:∀ off c,cs[off]? =some c→c.copy=true→VR w I κ c (vs.getD (b+off) undef))(ax:∀ c∈cs,c.copy=true→c.one=true)(hy:y.copy=true)(hp:pick n off cs=some y)(hn:AW P t n=true):
  ∃ v,(loadVar t ⟨g,b+off,none⟩).run P w= .ok v w∧VR w I κ y v:=by
 cases n with
 | none=>
  simp only [pick] at hp
  have X:off<cs.length:=by
   rcases rW off cs.length with h | h
   ·exact h
   ·simp [h] at hp
  have am:b+off<vs.size:=by omega
  obtain ⟨h1,_⟩:Ev P t=some false∧P.cellsOf t=1:=by simpa [AW] using hn
  have hc:w.cell? ⟨g,b+off,none⟩=some vs[b+off]:=by rw [xM hh];simp [am]
  refine ⟨vs[b+off],?_,?_⟩
  ·unfold loadVar
   simp [zf h1 w,hc]
  ·have:=Y off y hp hy
   simpa [am] using this
 | some m=>
  simp only [pick] at hp
  split at hp
  ·rename_i hle
   have aJ:y= .a ((cs.drop off).take m):=by simpa using hp.symm
   subst aJ
   have F:=BX (l:=(cs.drop off).take m) (by simpa [AV.copy] using hy)
   obtain ⟨⟨h1,h2⟩,h3⟩:(Ev P t=some true∧(P.info? t).isSome=true)∧P.cellsOf t=m:=by simpa [AW] using hn
   have hl:=run_loadCells (P:=P) w ⟨g,b+off,none⟩ m (fun j=>vs.getD (b+off+j) undef) (fun j hj=>by
    rw [add_lit,xM hh]
    have:b+off+j<vs.size:=by omega
    simp [this])
   refine ⟨.agg (((List.range m).map fun j=>vs.getD (b+off+j) undef).toArray),?_,?_⟩
   ·unfold loadVar
    simp only [Sem.run_bind,zf h1 w,Result.andThen_ok,aH,mQ h2,h3,hl,Sem.run_pure]
   ·refine VR.a _ _ ?_ (fun c hc=>ax c (xj (oL hc)) (F c hc)) fun j c hj=>?_
    ·simp;omega
    ·have aG:j<m:=by
      rcases rW j m with h | h
      ·exact h
      ·simp [xk,rX.2 h] at hj
     have aO:cs[off+j]? =some c:=by
      rw [xk,af aG,xm] at hj
      exact hj
     have hv:=Y (off+j) c aO (F c (cm hj))
     simpa [aG,AM] using hv
  ·cases hp
end
variable [cN]
def AH(P:Program)(t:TypeId)(i:Nat):Option Field:=
 match P.underlying t with
 | some (.struct fs)=>fs[i]?
 | _=>none
def lF(P:Program)(t:TypeId):Option TypeId:=
 match P.underlying t with
 | some (.slice e)=>some e
 | _=>none
def AX(P:Program)(t:TypeId):Bool:=match P.underlying t with
 | some .string=>true
 | _=>false
def L1(P:Program)(t:TypeId):Bool:=match P.underlying t with
 | some .bool=>true
 | _=>false
def L2(P:Program)(t:TypeId):Option IntKind:=match P.underlying t with
 | some (.int k)=>some k
 | _=>none
def sized(P:Program)(t sz:Nat):Bool:=(P.info? t).isSome&&decide (P.cellsOf t=sz)&&decide (0<sz)
def Aj(y:Option Operand)(x:Option bY):Bool:=
 match y,x with
 | none,none=>true
 | some y,some x=>cJ y x
 | _,_=>false
def na(P:Program)(t:TypeId):List (Nat×Operand)→List (Nat×Nat×bY)→Bool
 | [],[]=>true
 | (i,y)::ys,(off,sz,x)::xs=>(match AH P t i with
  | some f=>f.offset==off&&sized P f.type sz
  | none=>false)&&cJ y x&&na P t ys xs
 | _,_=>false
def zeroOf(P:Program)(t:TypeId):Option Value:=(P.info? t).bind (·.zero)
def sZ(P:Program):Nat→List Nat→List Field→Bool
 | _,[],[]=>true
 | i,k::ks,f::fs=>f.name != "_" &&f.offset==i&&P.plainKey f.type&&(match k,P.underlying f.type with
  | 0,some .bool=>true
  | 1,some (.int _)=>true
  | 2,some .string=>true
  | _,_=>false)&&sZ P (i+1) ks fs
 | _,_,_=>false
def Th(P:Program)(ks:List Nat)(t:TypeId):Bool:=match P.underlying t with
 | some (.struct fs)=>sZ P 0 ks fs.toList&&!P.stoodInHeld t&&!(P.eqGuardType P.depth t)
 | _=>false
def cE(P:Program)(ao:qI)(op:Op):Bool:=
 match ao with
 | .mv x=>match op with | .move y=>cJ y x | _=>false
 | .as x=>match op with | .assign y=>cJ y x | _=>false
 | .pk c x y=>match op with | .pick c' x' y'=>cJ c' c&&cJ x' x&&cJ y' y | _=>false
 | .bx x=>match op with | .box _ y=>cJ y x | _=>false
 | .bxg x=>match op with | .box _ y=>cJ y x | _=>false
 | .al zs=>match op with | .alloc t=>(match zeroOf P t with | some v=>vU v.cells.toList zs&&zs.all AV.one | none=>false) | _=>false
 | .ld n x=>match op with | .load t y=>cJ y x&&AW P t n | _=>false
 | .st n x y=>match op with | .store t x' y'=>cJ x' x&&cJ y' y&&sized P t n | _=>false
 | .fa off x=>match op with
  | .fieldAddr s y i=>cJ y x&&(match AH P s i with | some f=>f.offset==off&&(P.info? f.type).isSome&&decide (0<P.cellsOf f.type) | none=>false)
  | _=>false
 | .ia sz arr x i=>match op with
  | .indexAddr t x' i'=>cJ x' x&&cJ i' i&&(match arr,P.underlying t with
   | none,some (.slice e)=>sized P e sz
   | some n,some (.array n' e)=>n==n'&&sized P e sz
   | _,_=>false)
  | _=>false
 | .bo o bl x y=>match op with
  | .binOp o' t x' y' _=>decide (o=o')&&cJ x' x&&cJ y' y&&(bl==L1 P t)&&decide (o≠.or)
  | .call c=>(match c.callee with | .builtin .max=>true | _=>false)&&(match c.args.toList with
   | [x',y']=>cJ x' x&&cJ y' y&&decide (o= .or)
   | _=>false)
  | _=>false
 | .no x=>match op with | .unOp .not _ y=>cJ y x | _=>false
 | .cv k x=>match op with | .convert s d y=>cJ y x&&(L2 P d==some k)&&(L2 P s).isSome | _=>false
 | .ae ks ng x y=>match op with | .binOp o' t x' y' _=>decide (o'=if ng then .neq else .eql)&&cJ x' x&&cJ y' y&&Th P ks t | _=>false
 | .bs t sz es=>match op with
  | .buildSlice ty len parts=>lF P ty==some t&&sized P t sz&&len==es.length&&decide (parts.toList.map (·.1)=List.range len)&&iZ (parts.toList.map (·.2)) es&&decide (len*sz≤16777216)&&
    (match zeroOf P t with | some v=>v.cells.size==sz | none=>false)
  | _=>false
 | .bd zs fs=>match op with
  | .build t parts=>(match zeroOf P t with | some v=>vU v.cells.toList zs&&zs.all AV.one | none=>false)&&na P t parts.toList fs&&(match P.underlying t with | some (.struct fs)=>fs.all (fun f=>(P.info? f.type).isSome) | _=>false)
  | _=>false
 | .bg zs fs=>match op with
  | .build t parts=>(match zeroOf P t with | some v=>vU v.cells.toList zs&&zs.all AV.one | none=>false)&&na P t parts.toList fs&&(match P.underlying t with | some (.struct fs)=>fs.all (fun f=>(P.info? f.type).isSome) | _=>false)
  | _=>false
 | .ms t sz by_ z l=>match op with
  | .makeSlice ty l' c'=>lF P ty==some t&&sized P t sz&&(P.bytesOf t==by_)&&cJ l' l&&cJ c' l&&(match zeroOf P t with | some v=>C5 v z&&v.cells.size==sz&&z.cl.all AV.one | none=>false)
  | _=>false
 | .sl t sz x lo hi=>match op with
  | .slice ty x' lo' aP none=>cJ x' x&&Aj lo' lo&&Aj aP hi&&(if t=0 then AX P ty else lF P ty==some t&&sized P t sz)
  | _=>false
 | .ex x i=>match op with | .extract y i'=>cJ y x&&i==i' | _=>false
 | .mf f N=>match op with | .makeFunc (.func f') first caps'=>f==f'&&decide (f'<1000000)&&first.isEmpty&&iZ caps'.toList N||f==1000000+f'&&caps'.isEmpty&&iZ first.toList N | _=>false
 | .ca _ f args=>match op with
  | .call c=>(match c.callee with | .value (.func f')=>f==f' | _=>false)&&iZ c.args.toList args
  | _=>false
 | .cf _ x args=>match op with
  | .call c=>(match c.callee with | .value y=>cJ y x | _=>false)&&iZ c.args.toList args
  | _=>false
 | .c2 f args=>match op with
  | .call c=>(match c.callee with | .value (.func f')=>f==f' | _=>false)&&iZ c.args.toList args
  | _=>false
 | .d2 x args=>match op with
  | .call c=>(match c.callee with | .value y=>cJ y x | _=>false)&&iZ c.args.toList args
  | _=>false
 | .c3 f args=>match op with
  | .call c=>(match c.callee with | .value (.func f')=>f==f' | _=>false)&&iZ c.args.toList args
  | _=>false
 | .cr _ f args=>match op with
  | .call c=>(match c.callee with | .value (.func f')=>f==f' | _=>false)&&iZ c.args.toList args
  | _=>false
 | .ln str x=>match op with
  | .call c=>(match c.callee with | .builtin .len=>true | _=>false)&&(match c.args.toList,c.argTypes.toList with
   | [y],[t]=>cJ y x&&(if str then AX P t else (lF P t).isSome)
   | _,_=>false)
  | _=>false
 | .ap t sz by_ x y=>match op with
  | .call c=>(match c.callee with | .builtin .append=>true | _=>false)&&(match c.args.toList,c.argTypes.toList with
   | [x',y'],[t1,t2]=>cJ x' x&&cJ y' y&&t1==t2&&lF P t1==some t&&sized P t sz&&(P.bytesOf t==by_)&&(match zeroOf P t with | some v=>v.cells.size==sz | none=>false)
   | _,_=>false)
  | _=>false
 | .nc x=>match op with | .nilCheck y=>cJ y x | _=>false
 | .ck f args=>match op with
  | .call c=>(match c.callee with | .value (.func f')=>f==f' | _=>false)&&iZ c.args.toList args
  | _=>false
section
variable {w:World}{I:Nat→Prop}{κ:Key→Nat}{v:Value}
theorem VR.yG{x:Bool}(h:VR w I κ (.b x) v):v= .bool x:=by cases h;rfl
theorem VR.oe{k:IntKind}{n:Int}(h:VR w I κ (.i k n) v):v= .int k n:=by cases h;rfl
theorem VR.HK{l:List UInt8}(h:VR w I κ (.s l) v):v= .string ⟨l.toArray⟩:=by cases h;rfl
theorem VR.HL(h:VR w I κ .n v):v= .slice none 0 0:=by cases h;rfl
theorem VR.agY(h:VR w I κ .sk v):v=undef:=by cases h;rfl
theorem VR.Vp{n sz:Nat}(h:VR w I κ (.sp k off n sz) v):∃ cap,n≤cap∧cap≤maxLen∧v= .slice (some ⟨κ k,off,none⟩) n cap:=by
 cases h with
 | sp _ _ _ _ cap h1 h2=>simp_all
theorem VR.Ak(h:VR w I κ (.p k off) v):v= .pointer (some ⟨κ k,off,none⟩):=by cases h;rfl
theorem VR.amb(h:VR w I κ (.a cs) v):∃ vs,v= .agg vs∧cs.length=vs.size∧(∀ c∈cs,c.one=true)∧∀ (m:Nat)(c:AV),cs[m]? =some c→VR w I κ c (vs.getD m undef):=by
 cases h with | a _ vs hl h1 hc=>grind
theorem VR.agZ(h:VR w I κ (.tp cs) v):∃ vs,v= .tuple vs∧cs.length=vs.size∧∀ (m:Nat)(c:AV),cs[m]? =some c→VR w I κ c (vs.getD m undef):=by
 cases h with | tp _ vs hl hc=>grind
theorem VR.L3{g:FuncId}(h:VR w I κ (.f g cs) v):∃ vs,(g<1000000∧v= .func (.func g) #[] vs∨¬g<1000000∧v= .func (.func (g - 1000000)) vs #[])∧cs.length=vs.size∧∀ (m:Nat)(c:AV),cs[m]? =some c→VR w I κ c (vs.getD m undef):=by
 cases h with
 | f _ _ vs hg hl hc=>grind
 | fm g0 _ vs hl hc=>grind
theorem VR.Ti{g:FuncId}(h:VR w I κ (.f g cs) v)(hg:g<1000000):∃ vs,v= .func (.func g) #[] vs∧cs.length=vs.size∧∀ (m:Nat)(c:AV),cs[m]? =some c→VR w I κ c (vs.getD m undef):=by
 obtain ⟨vs,h1,h2,h3⟩:=h.L3
 grind
theorem VR.ag0{g:FuncId}(h:VR w I κ (.f g cs) v)(hg:¬g<1000000):∃ vs,v= .func (.func (g - 1000000)) vs #[]∧cs.length=vs.size∧∀ (m:Nat)(c:AV),cs[m]? =some c→VR w I κ c (vs.getD m undef):=by
 obtain ⟨vs,h1,h2,h3⟩:=h.L3
 grind
theorem VR.OO(h:VR w I κ (.e x off) v):∃ g o cs T fz,v= .pointer (some ⟨g,o+off,none⟩)∧I g∧w.heap[g]? =some (.cells cs T fz)∧x.pure=true∧o+x.nc≤cs.size∧
  (∀ c∈x.cl,c.one=true)∧∀ (m:Nat)(c:AV),x.cl[m]? =some c→VR w I κ c (cs.getD (o+m) undef):=by
 cases h with | e _ _ g o cs T fz hI hh hp hs h1 hc=>exact ⟨g,o,cs,T,fz,rfl,hI,hh,hp,hs,h1,hc⟩
theorem VR.OP{es:List AV}(h:VR w I κ (.l t es) v):∃ A cap,v= .slice A es.length cap∧(es=[]∨∃ g o cs T fz sz,A=some ⟨g,o,none⟩∧I g∧w.heap[g]? =some (.cells cs T fz)∧(t≠0→(cN.n0≤g→T=t∧fz=(0,0))∧(g<cN.n0→cN.tg t=true))∧0<sz∧
  (∀ e∈es,e.nc=sz)∧o+es.length*sz≤cs.size∧(∀ e∈es,e.pure=true)∧(∀ e∈es,∀ c∈e.cl,c.one=true)∧es.length≤cap∧cap≤maxLen∧
  ∀ (j:Nat)(e:AV)(m:Nat)(c:AV),es[j]? =some e→e.cl[m]? =some c→VR w I κ c (cs.getD (o+j*sz+m) undef)):=by
 cases h with
 | lnil _ A cap=>simp_all
 | l _ _ g o cap cs T fz sz hI hh ht aL av U hp h1 aC ay hc=>exact ⟨_,cap,rfl,.inr ⟨g,o,cs,T,fz,sz,rfl,hI,hh,ht,aL,av,U,hp,h1,aC,ay,hc⟩⟩
end
structure Nz(C:Cx)(st':St)(a:Act)(w:World)(σ:Sp)(d:Option Nat)(x:AV)(cv:Value)(w':World)(σ':Sp):Prop where
 stp:dJ C w σ w' σ'
 conc:aE C st' a w' σ'
 val:∀ dd,d=some dd→SR C w' σ' st' a dd x cv
 own:∀ dd t es,d=some dd→x= .o t es→∀ d',(aQ st'.fr d').fX (.s dd)=false
def e9(C:Cx)(o:Oper)(d:Option Nat)(a:Act)(w:World)(σ:Sp)(st':St)(x:AV):Prop:=
 ∀ (K:Act→World→Prop)(Q:Exit→Act→World→Prop),(∀ cv w' σ',Nz C st' a w σ d x cv w' σ'→K (a.put o.dst cv) w')→o.wp C.P a w K Q
section
variable {C:Cx}{st:St}{a:Act}{w:World}{σ:Sp}{o:Oper}{d:Option Nat}
theorem e9.lg{cv:Value}{w':World}{σ':Sp}(hr:(Go.execOp a.eval o).run C.P w= .ok (.value cv) w')(h:Nz C st' a w σ d x cv w' σ'):e9 C o d a w σ st' x:=by
 intro K Q hK
 unfold Oper.wp
 rw [hr]
 exact hK _ _ _ h
theorem e9.ZH{w':World}{σ':Sp}(hr:(Go.execOp a.eval o).run C.P w= .ok .skip w')(h:Nz C st' a w σ d x undef w' σ'):e9 C o d a w σ st' x:=by
 intro K Q hK
 unfold Oper.wp
 rw [hr]
 exact hK _ _ _ h
theorem e9.quiet{cv:Value}(h:aE C st a w σ)(hr:(Go.execOp a.eval o).run C.P w= .ok (.value cv) w)(hx:x.copy=true)(hv:VR w σ.I σ.κ x cv):
  e9 C o d a w σ st x:=
 .lg hr ⟨.refl _ _ _,h,fun _ _=>I0 (.inl hx) hv,by grind [AV.copy]⟩
theorem e9.AY{cv:Value}(h:aE C st a w σ)(hr:(Go.execOp a.eval o).run C.P w= .ok (.value cv) w)(hx:∀ t es,x≠.o t es)(hv:∀ dd,SR C w σ st a dd x cv):
  e9 C o d a w σ st x:=
 .lg hr ⟨.refl _ _ _,h,fun dd _=>hv dd,by grind⟩
theorem ZI{n:Nat}{v:Value}(hx:∀ t es,x≠.o t es)(hb:HH x=false)(h:SR C w σ st a n x v):VR w σ.I σ.κ x v:=by
 cases x<;>first | exact h | exact absurd rfl (hx _ _) | (simp [HH] at hb)
theorem Vq{n m:Nat}{v:Value}(hx:∀ t es,x≠.o t es)(h:SR C w σ st a n x v):SR C w σ st a m x v:=by
 cases x<;>first | exact h | grind
theorem o0{d:Nat}{v:Value}(h:VR w σ.I σ.κ x v):SR C w σ st a d x v:=by
 cases x<;>first | exact h | cases h
theorem aE.fS(h:aE C st a w σ){y:Operand}{x:bY}(hl:cJ y x=true)(ho:∀ t es,st.ev x≠.o t es)(hb:HH (st.ev x)=false):VR w σ.I σ.κ (st.ev x) (a.eval y):=by
 cases x with
 | t n=>exact ZI ho hb (h.slot hl)
 | c z=>exact h.vA hl (er z (si hl))
theorem ag1{R:Rec}{Ω:ej}{x:bY}{r:AV×St}(h:aE C st a w σ)(hl:cE C.P (.mv x) o.op=true)(he:execOp R Ω C.E st d (.mv x)=some r) :
  e9 C o d a w σ r.2 r.1:=by
 obtain ⟨y,G,B⟩:∃ y,o.op= .move y∧cJ y x=true:=by
  simp only [cE] at hl;grind
 have hr:(Go.execOp a.eval o).run C.P w= .ok (.value (a.eval y)) w:=by unfold Go.execOp;simp [G]
 simp only [execOp] at he
 cases x with
 | c z=>
  simp only [St.ev] at he
  have hp:=si B
  have hc:z.copy=true:=er z hp
  have hv:=h.vA (x:=.c z) B hc
  cases z<;>first | (simp [AV.copy] at hc;done) | skip
  all_goals
   obtain rfl:=aq he
   exact .quiet h hr hc hv
 | t n=>
  have hs:=h.slot B
  simp only [St.ev] at he
  cases hx:aQ st.fr n with
  | o t es=>
   rw [hx] at he
   obtain rfl:=aq he
   refine .AY h hr (fun _ _ e=>by cases e) fun dd=>?_
   intro _
   rw [AG B];rfl
  | _=>
   rw [hx] at he hs
   obtain rfl:=aq he
   exact .AY h hr (fun _ _ e=>by cases e) (by grind [Vq])
theorem ag2{R:Rec}{Ω:ej}{c x y:bY}{r:AV×St}(h:aE C st a w σ)(hl:cE C.P (.pk c x y) o.op=true)(he:execOp R Ω C.E st d (.pk c x y)=some r) :
  e9 C o d a w σ r.2 r.1:=by
 obtain ⟨c',x',y',G,hc,hx,hy⟩:∃ c' x' y',o.op= .pick c' x' y'∧cJ c' c=true∧cJ x' x=true∧cJ y' y=true:=by
  simp only [cE] at hl;grind
 simp only [execOp] at he
 obtain ⟨z,hz,he⟩:=au.1 he
 have an:st.ev c= .b z:=by
  cases ab:st.ev c<;>rw [ab] at hz<;>simp [qH] at hz
  rw [hz]
 have aI:a.eval c'= .bool z:=by
  have:=h.vA hc (by rw [an];rfl)
  rw [an] at this
  exact this.yG
 have hr:(Go.execOp a.eval o).run C.P w= .ok (.value (if z=true then a.eval x' else a.eval y')) w:=by simp_all [Go.execOp,asBool]
 cases z with
 | true=>
  simp only [aH] at he hr
  split at he
  ·rename_i F
   obtain rfl:=aq he
   exact .quiet h hr F (h.vA hx F)
  ·cases he
 | false=>
  simp only [cH,dy] at he hr
  split at he
  ·rename_i F
   obtain rfl:=aq he
   exact .quiet h hr F (h.vA hy F)
  ·cases he
theorem ag3{R:Rec}{Ω:ej}{x:bY}{r:AV×St}(h:aE C st a w σ)(hl:cE C.P (.no x) o.op=true)(he:execOp R Ω C.E st d (.no x)=some r) :
  e9 C o d a w σ r.2 r.1:=by
 obtain ⟨t,y,G,B⟩:∃ t y,o.op= .unOp .not t y∧cJ y x=true:=by
  simp only [cE] at hl;grind
 simp only [execOp] at he
 obtain ⟨z,hz,he⟩:=au.1 he
 have an:st.ev x= .b z:=by
  cases ab:st.ev x<;>rw [ab] at hz<;>simp [qH] at hz
  rw [hz]
 have aI:a.eval y= .bool z:=by
  have:=h.vA B (by rw [an];rfl)
  rw [an] at this
  exact this.yG
 obtain rfl:=aq he
 exact .quiet h (cv:=.bool (!z)) (by simp_all [Go.execOp,Op.unary]) rfl (.b _)
theorem ag4{R:Rec}{Ω:ej}{k:IntKind}{x:bY}{r:AV×St}(h:aE C st a w σ)(hl:cE C.P (.cv k x) o.op=true)(he:execOp R Ω C.E st d (.cv k x)=some r) :
  e9 C o d a w σ r.2 r.1:=by
 obtain ⟨s,t,y,G,B,hk,hs⟩:∃ s t y,o.op= .convert s t y∧cJ y x=true∧L2 C.P t=some k∧(L2 C.P s).isSome=true:=by
  simp only [cE] at hl;grind
 have aW:C.P.underlying t=some (.int k):=by
  grind [L2]
 obtain ⟨k',a1⟩:=jK.1 hs
 have aX:C.P.underlying s=some (.int k'):=by
  grind [L2]
 simp only [execOp] at he
 split at he
 ·rename_i k0 n hx
  have aI:a.eval y= .int k0 n:=by
   have:=h.vA B (by rw [hx];rfl)
   rw [hx] at this
   exact this.oe
  obtain rfl:=aq he
  exact .quiet h (cv:=.int k (k.wrap n)) (by simp_all [Go.execOp,convert,run_underlying,Conv.intToInt]) rfl (.i _ _)
 ·cases he
theorem ag5{R:Rec}{Ω:ej}{x:bY}{i:Nat}{r:AV×St}(h:aE C st a w σ)(hl:cE C.P (.ex x i) o.op=true)(he:execOp R Ω C.E st d (.ex x i)=some r) :
  e9 C o d a w σ r.2 r.1:=by
 obtain ⟨y,G,B⟩:∃ y,o.op= .extract y i∧cJ y x=true:=by
  simp only [cE] at hl;grind
 simp only [execOp] at he
 split at he
 ·rename_i vs hx
  obtain ⟨z,hz,he⟩:=au.1 he
  obtain rfl:=aq he
  obtain ⟨us,hu,hlen,hc⟩:=(hx▸h.fS B (by rw [hx];simp) (by rw [hx];rfl)).agZ
  have hv:=hc i z hz
  have hi:i<us.size:=by
   grind
  have hr:(Go.execOp a.eval o).run C.P w= .ok (.value us[i]) w:=by simp_all [Go.execOp,Instr.extract]
  simp only [hi,iy,getElem?_pos,xn] at hv
  exact .lg hr ⟨.refl _ _ _,h,fun _ _=>o0 hv,fun _ _ _ _ e=>by subst e;cases hv⟩
 ·cases he
theorem NA:∀ {ys:List Operand}{xs:List bY},iZ ys xs=true→ys.length=xs.length∧∀ (m:Nat) x,xs[m]? =some x→∃ y,ys[m]? =some y∧cJ y x=true
 | [],[],_=>by grind
 | y::ys,x::xs,h=>by
  obtain ⟨h1,h2⟩:cJ y x=true∧iZ ys xs=true:=by simpa [iZ] using h
  obtain ⟨hl,hm⟩:=NA h2
  grind
 | [],_::_,h=>by simp [iZ] at h
 | _::_,[],h=>by simp [iZ] at h
theorem ag6{R:Rec}{Ω:ej}{f:FuncId}{xs:List bY}{r:AV×St}(h:aE C st a w σ)(hl:cE C.P (.mf f xs) o.op=true)(he:execOp R Ω C.E st d (.mf f xs)=some r) :
  e9 C o d a w σ r.2 r.1:=by
 obtain ⟨ys,G,B⟩:∃ ys,(o.op= .makeFunc (.func f) #[] ys∧f<1000000∨∃ g,f=1000000+g∧o.op= .makeFunc (.func g) ys #[])∧iZ ys.toList xs=true:=by
  simp only [cE] at hl;grind
 obtain ⟨hlen,hm⟩:=NA B
 simp only [execOp] at he
 split at he
 ·rename_i F
  obtain rfl:=aq he
  have key:∀ (m:Nat)(c:AV),(xs.map st.ev)[m]? =some c→VR w σ.I σ.κ c ((ys.map a.eval).getD m undef):=fun m c O=>by
   rw [xp] at O
   obtain ⟨x,hx,rfl⟩:=fi.1 O
   obtain ⟨y,hy,aK⟩:=hm m x hx
   have hv:=h.vA aK ((by grind [BX]))
   simp_all
  rcases G with ⟨G,hg⟩ | ⟨g,rfl,G⟩
  ·exact .quiet h (cv:=.func (.func f) #[] (ys.map a.eval)) (by unfold Go.execOp;simp [G,Instr.makeFunc]) (by simpa [AV.copy] using F) (.f f _ _ hg (by grind) key)
  ·exact .quiet h (cv:=.func (.func g) (ys.map a.eval) #[]) (by unfold Go.execOp;simp [G,Instr.makeFunc]) (by simpa [AV.copy] using F) (.fm g _ _ (by grind) key)
 ·cases he
theorem ag7{R:Rec}{Ω:ej}{x:bY}{r:AV×St}(h:aE C st a w σ)(hl:cE C.P (.nc x) o.op=true)(he:execOp R Ω C.E st d (.nc x)=some r) :
  e9 C o d a w σ r.2 r.1:=by
 obtain ⟨y,G,B⟩:∃ y,o.op= .nilCheck y∧cJ y x=true:=by
  simp only [cE] at hl;grind
 simp only [execOp] at he
 split at he
 ·rename_i k off hx
  obtain rfl:=aq he
  have hv:=(hx▸h.fS B (by rw [hx];simp) (by rw [hx];rfl))
  exact .quiet h (cv:=a.eval y) (by unfold Go.execOp;simp [G,hv.Ak]) rfl hv
 ·rename_i z off hx
  obtain rfl:=aq he
  have hv:=(hx▸h.fS B (by rw [hx];simp) (by rw [hx];rfl))
  obtain ⟨g,o',cs,T,fz,ah,_⟩:=hv.OO
  exact .quiet h (cv:=a.eval y) (by simp_all [Go.execOp]) rfl hv
 ·cases he
 ·rename_i g N hx
  obtain rfl:=aq he
  have hv:=(hx▸h.fS B (by rw [hx];simp) (by rw [hx];rfl))
  obtain ⟨vs,ah,_⟩:=hv.L3
  exact .lg (cv:=a.eval y) (by unfold Go.execOp;rcases ah with ⟨_,ah⟩ | ⟨_,ah⟩<;>simp [G,ah]) ⟨.refl _ _ _,h,fun _ _=>o0 hv,fun _ _ _ _ e=>by cases e⟩
 ·cases he
end
variable [cN]
section
variable {C:Cx}{st:St}{a:Act}{w:World}{σ:Sp}{o:Oper}{d:Option Nat}{R:Rec}{Ω:ej}{r:AV×St}
theorem C6{P:Program}{i:Nat}{f:Field}(h:AH P t i=some f):∃ fs,P.underlying t=some (.struct fs)∧fs[i]? =some f:=by
 unfold AH at h
 split at h
 ·rename_i fs hu;exact ⟨fs,hu,h⟩
 ·cases h
theorem Rg{P:Program}{s:TypeId}{i:Nat}{f:Field}(h:AH P s i=some f)(hi:(P.info? f.type).isSome=true)(hp:0<P.cellsOf f.type)(g b:Nat)(w:World) :
  (Instr.fieldAt s (.pointer (some ⟨g,b,none⟩)) i).run P w= .ok (.pointer (some ⟨g,b+f.offset,none⟩)) w:=by
 obtain ⟨fs,hu,hf⟩:=C6 h
 have ar:¬P.cellsOf f.type=0:=by omega
 simp [Instr.fieldAt,run_underlying hu,hf,Instr.sureAddr,fieldPlace,mQ hi,ar,add_lit]
theorem aE.Ew(h:aE C st a w σ){pl:Pl}{es:List AV}(hr:st.rowAt C.E.dp pl=some (t,es))(ar:es≠[]):
  ∃ g cap cs,ic w σ a pl= .slice (some ⟨g,0,none⟩) es.length cap∧fY C.P C.W w σ (pl.rv C.E.dp) (pl.kq C.E=true) t es g cap cs:=by
 rcases h.row hr with ⟨h1,_⟩ | h1
 ·exact absurd h1 ar
 ·exact h1
theorem aE.Kk(h:aE C st a w σ){pl:Pl}{es:List AV}(hr:st.rowAt C.E.dp pl=some (t,es)):
  ∃ A cap,ic w σ a pl= .slice A es.length cap∧es.length≤cap:=by
 rcases h.row hr with ⟨rfl,h2⟩ | ⟨g,cap,cs,hv,hr⟩
 ·exact ⟨_,_,h2,bG _⟩
 ·exact ⟨_,_,hv,hr.ecap⟩
theorem eM{x:bY}{y:AV}(h:st.ev x=y)(hp:y.pure=false){op:Operand}(hl:cJ op x=true):∃ n,x= .t n∧aQ st.fr n=y:=by
 cases x with
 | t n=>exact ⟨n,rfl,h⟩
 | c z=>
  have:=si hl
  simp only [St.ev] at h
  rw [h,hp] at this
  cases this
theorem ag8{x:bY}(h:aE C st a w σ)(hl:cE C.P (.fa off x) o.op=true)(he:execOp R Ω C.E st d (.fa off x)=some r):
  e9 C o d a w σ r.2 r.1:=by
 obtain ⟨s,y,i,f,G,B,hf,rfl,hi,hp⟩:∃ s y i f,o.op= .fieldAddr s y i∧cJ y x=true∧AH C.P s i=some f∧f.offset=off∧(C.P.info? f.type).isSome=true∧0<C.P.cellsOf f.type:=by
  simp only [cE] at hl;split at hl
  ·rename_i s y i hy
   simp only [aY] at hl
   obtain ⟨h1,h2⟩:=hl
   split at h2
   ·rename_i f hf
    simp only [aY,eB,eS] at h2
    exact ⟨s,y,i,f,hy,h1,hf,h2.1.1,h2.1.2,h2.2⟩
   ·cases h2
  ·cases hl
 have H:∀ g b,a.eval y= .pointer (some ⟨g,b,none⟩)→(Go.execOp a.eval o).run C.P w= .ok (.value (.pointer (some ⟨g,b+f.offset,none⟩))) w:=by
  intro g b hv
  unfold Go.execOp
  simp [G,hv,Rg hf hi hp]
 simp only [execOp] at he
 split at he
 ·rename_i k b hx
  obtain rfl:=aq he
  have hv:=(hx▸h.fS B (by rw [hx];simp) (by rw [hx];rfl)).Ak
  exact .quiet h (H _ _ hv) rfl (.p _ _)
 ·rename_i z b hx
  obtain rfl:=aq he
  obtain ⟨g,b',cs,T,fz,hv,hI,hh,aa,hs,h1,hc⟩:=(hx▸h.fS B (by rw [hx];simp) (by rw [hx];rfl)).OO
  exact .quiet h (by rw [H _ _ hv,AM]) rfl (.e z _ g b' cs T fz hI hh aa hs h1 hc)
 ·rename_i pl j sz b hx
  obtain ⟨⟨t,es⟩,J,he⟩:=au.1 he
  split at he
  ·rename_i X
   obtain rfl:=aq he
   obtain ⟨n,rfl,hn⟩:=eM hx rfl B
   have hs:=hn▸h.slot B
   obtain ⟨g,n',cap,Z,hv⟩:=hs t es J X
   refine .AY h (H _ _ hv) (fun _ _ e=>by cases e) fun dd=>?_
   intro t' a2 aZ a0
   exact ⟨g,n',cap,Z,by rw [AM]⟩
  ·cases he
 ·cases he
theorem ag9{n:Option Nat}{x:bY}(h:aE C st a w σ)(hl:cE C.P (.ld n x) o.op=true)(he:execOp R Ω C.E st d (.ld n x)=some r) :
  e9 C o d a w σ r.2 r.1:=by
 obtain ⟨t,y,G,B,hn⟩:∃ t y,o.op= .load t y∧cJ y x=true∧AW C.P t n=true:=by
  simp only [cE] at hl;split at hl
  ·rename_i t y hy
   simp only [aY] at hl
   exact ⟨t,y,hy,hl.1,hl.2⟩
  ·cases hl
 have H:∀ g b v,a.eval y= .pointer (some ⟨g,b,none⟩)→(loadVar t ⟨g,b,none⟩).run C.P w= .ok v w→(Go.execOp a.eval o).run C.P w= .ok (.value v) w:=by
  intro g b v hv hr
  unfold Go.execOp
  simp [G,hv,Instr.loadAt,Instr.sureAddr,hr]
 simp only [execOp] at he
 split at he
 ·rename_i k b hx
  obtain ⟨cs,ac,he⟩:=au.1 he
  obtain ⟨z,hz,he⟩:=au.1 he
  have hv:=(hx▸h.fS B (by rw [hx];simp) (by rw [hx];rfl)).Ak
  obtain ⟨vs,T,hB⟩:=h.bx k cs ac
  have az:z.copy=true→r=(z,st)→e9 C o d a w σ r.2 r.1:=by
   intro F aM
   subst aM
   obtain ⟨v,hr,ai⟩:=Cl (P:=C.P) (I:=σ.I) (κ:=σ.κ) (b:=0) hB.hh (by have:=hB.size;omega) (fun off c hc ab=>by
     have:=hB.cell off c hc
     rw [jL]
     cases c<;>first | exact this | (simp [AV.copy] at ab)) (fun c hc ab=>(hB.one c hc).resolve_right (fun e=>by subst e;simp [AV.copy] at ab)) F hz hn
   rw [jL] at hr
   exact .quiet h (H _ _ _ hv hr) F ai
  split at he
  ·rename_i t' es
   obtain rfl:=aq he
   cases n with
   | none=>
    obtain ⟨aV,_⟩:Ev C.P t=some false∧C.P.cellsOf t=1:=by simpa [AW] using hn
    have ad:cs[b]? =some (.o t' es):=hz
    have X:b<vs.size:=by
     refine fO ?_ hB.size
     rcases rW b cs.length with h2 | h2
     ·exact h2
     ·simp [h2] at ad
    have hc:w.cell? ⟨σ.κ k,b,none⟩=some vs[b]:=by rw [xM hB.hh];simp [X]
    refine .AY h (H _ _ vs[b] hv ?_) (fun _ _ e=>by cases e) fun dd _=>?_
    ·unfold loadVar
     simp [zf aV w,hc]
    ·simp [ic,hB.hh,X]
   | some m=>
    simp only [pick] at hz
    split at hz<;>simp at hz
  ·split at he
   ·rename_i F
    exact az F (aq he).symm
   ·cases he
 ·rename_i z b hx
  obtain ⟨y',hz,he⟩:=au.1 he
  obtain rfl:=aq he
  obtain ⟨g,b',cs,T,fz,hv,hI,hh,aa,hs,h1,hc⟩:=(hx▸h.fS B (by rw [hx];simp) (by rw [hx];rfl)).OO
  have F:y'.copy=true:=by
   cases n with
   | none=>exact er _ (lA aa y' (cm hz))
   | some m=>
    simp only [pick] at hz
    split at hz
    ·have ad:y'= .a ((z.cl.drop b).take m):=by simpa using hz.symm
     subst ad
     exact er _ (lU fun c O=>lA aa c (xj (oL O)))
    ·cases hz
  obtain ⟨v,hr,ai⟩:=Cl (P:=C.P) (I:=σ.I) (κ:=σ.κ) (b:=b') hh hs (fun off c O _=>hc off c O) (fun c O _=>h1 c O) F hz hn
  exact .quiet h (H _ _ _ hv hr) F ai
 ·rename_i pl i sz b hx
  obtain ⟨⟨t',es⟩,J,he⟩:=au.1 he
  obtain ⟨e,aB,he⟩:=au.1 he
  split at he
  ·rename_i av
   obtain ⟨y',hz,he⟩:=au.1 he
   obtain rfl:=aq he
   have X:i<es.length:=by
    rcases rW i es.length with h2 | h2
    ·exact h2
    ·simp [h2] at aB
   obtain ⟨m,rfl,hm⟩:=eM hx rfl B
   obtain ⟨g,n',cap,Z,hv⟩:=(hm▸h.slot B) t' es J X
   obtain ⟨g',cap',cs,ak,hR⟩:=h.Ew J (fun e=>by subst e;simp at X)
   obtain ⟨rfl,rfl,rfl⟩:g=g'∧n'=es.length∧cap=cap':=by
    rw [Z] at ak;simpa using ak
   have aA:=cm aB
   have aj:sz=C.P.cellsOf t':=av.symm.trans (hR.nc e aA)
   have aa:=hR.pure e aA
   have F:y'.copy=true:=by
    cases n with
    | none=>exact er _ (lA aa y' (cm hz))
    | some m=>
     simp only [pick] at hz
     split at hz
     ·have ad:y'= .a ((e.cl.drop b).take m):=by simpa using hz.symm
      subst ad
      exact er _ (lU fun c O=>lA aa c (xj (oL O)))
     ·cases hz
   have hbound:i*sz+e.cl.length≤cs.size:=by
    have h3:e.cl.length=sz:=av
    rw [hR.size,h3,←aj]
    have:(i+1)*sz≤cap*sz:=iz _ (by have:=hR.ecap;omega)
    rw [fQ] at this
    omega
   obtain ⟨v,hr,ai⟩:=Cl (P:=C.P) (I:=σ.I) (κ:=σ.κ) (b:=i*sz) hR.hh hbound (fun off c O _=>by have:=hR.cell i e off c aB O;rwa [←aj] at this)
    (fun c O _=>hR.one e aA c O) F hz hn
   exact .quiet h (H _ _ _ hv hr) F ai
  ·cases he
 ·cases he
end
end Go.Proofs.YtlmphbbhaeampaaGreat.A
