/- How an abstract state lies in the model: who owns which block of memory. -/
import Derived.Test.YtkkkkondjclcnaaGreatAbs3
import Derived.Test.YtkkkkondjclcnaaGreatGl
import Derived.ChangeKeysEq
import Derived.Laws.StructEq
set_option linter.unusedSectionVars false
set_option linter.unusedVariables false
set_option linter.unusedSimpArgs false
set_option linter.constructorNameAsVariable false
namespace Go.Proofs.YtkkkkondjclcnaaGreat.A
open Go
inductive cQ where
 | box (k:Key)
 | rowS (dp d:Nat)
 | rowC (k:Key) (off:Nat)
 | grp (dp g:Nat)
 | mark (dp:Nat)
deriving DecidableEq
def Pl.nS(dp:Nat):Pl→cQ
 | .s d=>.rowS dp d
 | .c k off=>.rowC k off
structure Sp where
 κ:Key→Nat
 ow:Nat→Option cQ
 I:Nat→Prop
variable [aY]
structure dT(P:Program)(W:Nat→Prop)(w:World)(σ:Sp)(L:cQ)(wr:Prop)(t:TypeId)(es:List AV)(g cap:Nat)(cs:Array Value):Prop where
 ow:σ.ow g=some L
 wr:wr→W g
 hh:w.heap[g]? =some (.cells cs t (0,0))
 pos:0<P.cellsOf t
 nc:∀ e∈es,e.nc=P.cellsOf t
 ecap:es.length≤cap
 max:cap≤maxLen
 size:cs.size=cap*P.cellsOf t
 pure:∀ e∈es,e.pure=true
 one:∀ e∈es,∀ c∈e.cl,c.one=true
 cell:∀ (j:Nat)(e:AV)(m:Nat)(c:AV),es[j]? =some e→e.cl[m]? =some c→VR w σ.I σ.κ c (cs.getD (j*P.cellsOf t+m) undef)
 base:aY.n0≤g
def OwnAt(P:Program)(W:Nat→Prop)(w:World)(σ:Sp)(L:cQ)(wr:Prop)(t:TypeId)(es:List AV)(v:Value):Prop:=
 (es=[]∧v= .slice none 0 0)∨∃ g cap cs,v= .slice (some ⟨g,0,none⟩) es.length cap∧dT P W w σ L wr t es g cap cs
def nT(W:Nat→Prop)(dp:Nat)(w:World)(σ:Sp)(g:Nat)(t:TypeId)(x:AV)(v:Value):Prop:=
 x.pure=true∧VR w (fun b=>σ.ow b=some (.grp dp g)∧W b∧aY.n0≤b∧∃ cs,w.heap[b]? =some (.cells cs t (0,0))) σ.κ x v
theorem nT.aH{W W':Nat→Prop}{dp:Nat}{w w':World}{σ σ':Sp}{g:Nat}{t:TypeId}{x:AV}{v:Value}(h:nT W dp w σ g t x v)
  (hb:∀ b,σ.ow b=some (.grp dp g)→w'.heap[b]? =w.heap[b]? ∧σ'.ow b=some (.grp dp g)) (hW:∀ b,W b→W' b):nT W' dp w' σ' g t x v:=
 ⟨h.1,h.2.mono (fun b h1=>⟨(hb b h1.1).2,hW _ h1.2.1,h1.2.2.1,by obtain ⟨cs,e⟩:=h1.2.2.2;exact ⟨cs,(hb b h1.1).1.trans e⟩⟩) (fun b h1=>(hb b h1.1).1) (fun k hk=>by rw [ic _ h.1] at hk;cases hk)⟩
structure Cx where
 P:Program
 W:Nat→Prop
 E:Env
 nt:Nat
def dQ(w:World)(σ:Sp)(a:Act):Pl→Value
 | .s d=>a.tmps.getD d undef
 | .c k off=>match w.heap[σ.κ k]? with
  | some (.cells vs _ _)=>vs.getD off undef
  | _=>undef
def CR(C:Cx)(w:World)(σ:Sp)(k:Key)(off:Nat)(c:AV)(v:Value):Prop:=
 match c with
 | .o t es=>OwnAt C.P C.W w σ (.rowC k off) ((Pl.c k off).fK C.E=true) t es v
 | .w g t x=>nT C.W C.E.dp w σ g t x v
 | .bp _ k' u=>k'=k∧v=if u=true then .pointer (some ⟨σ.κ k,off,none⟩) else .pointer none
 | c=>VR w σ.I σ.κ c v
theorem Nz{C:Cx}{w:World}{σ:Sp}{k:Key}{off:Nat}{c:AV}{v:Value}(h:VR w σ.I σ.κ c v):CR C w σ k off c v:=by
 cases c<;>first | exact h | cases h
structure e9(C:Cx)(w:World)(σ:Sp)(k:Key)(cs:List AV)(vs:Array Value)(T:TypeId):Prop where
 hh:w.heap[σ.κ k]? =some (.cells vs T (0,0))
 size:cs.length≤vs.size
 ow:σ.ow (σ.κ k)=some (.box k)
 wr:(Pl.c k 0).fK C.E=true→C.W (σ.κ k)
 one:∀ c∈cs,c.one=true∨c= .u
 cell:∀ (off:Nat)(c:AV),cs[off]? =some c→CR C w σ k off c (vs.getD off undef)
 ty:∀ t k u,AV.bp t k u∈cs→t=T∧vs.size=cs.length
 kb:(1000000≤k.d→T=(k.d - 1000000) / 1000)∧aY.n0≤σ.κ k
def uv(C:Cx)(w:World)(σ:Sp)(st:St)(a:Act)(cs:List AV)(rs:List (Nat×Nat))(v:Value):Prop:=
 ∃ vs,v= .agg vs∧cs.length=vs.size∧(∀ c∈cs,c.one=true∨c= .u)∧(∀ (m:Nat)(c:AV),cs[m]? =some c→VR w σ.I σ.κ c (vs.getD m undef))∧
  ∀ q∈rs,(st.rowAt C.E.dp (.s q.2)).isSome=true→vs.getD q.1 undef=a.tmps.getD q.2 undef
theorem uv.to{C:Cx}{w w':World}{σ σ':Sp}{st st':St}{a a':Act}{cs:List AV}{rs:List (Nat×Nat)}{v:Value}(h:uv C w σ st a cs rs v)
  (hV:∀ c∈cs,∀ v,VR w σ.I σ.κ c v→VR w' σ'.I σ'.κ c v) (hR:∀ q∈rs,(st'.rowAt C.E.dp (.s q.2)).isSome=true→(st.rowAt C.E.dp (.s q.2)).isSome=true∧a'.tmps.getD q.2 undef=a.tmps.getD q.2 undef):uv C w' σ' st' a' cs rs v:=by
 obtain ⟨vs,h1,h2,h3,h4,h5⟩:=h
 exact ⟨vs,h1,h2,h3,fun m c hc=>hV c (List.mem_of_getElem? hc) _ (h4 m c hc),fun q hq hr=>(h5 q hq (hR q hq hr).1).trans (hR q hq hr).2.symm⟩
def SR(C:Cx)(w:World)(σ:Sp)(st:St)(a:Act)(d:Nat)(x:AV)(v:Value):Prop:=
 match x with
 | .o t es=>OwnAt C.P C.W w σ (.rowS C.E.dp d) True t es v
 | .r pl=>(st.rowAt C.E.dp pl).isSome=true→v=dQ w σ a pl
 | .v pl lo len=>∀ t es,st.rowAt C.E.dp pl=some (t,es)→lo+len≤es.length→
   ∃ A n cap,dQ w σ a pl= .slice A n cap∧v= .slice (if cap=lo then A else A.map (·.add (lo*C.P.cellsOf t))) len (cap - lo)
 | .q pl i sz off=>∀ t es,st.rowAt C.E.dp pl=some (t,es)→i<es.length→
   ∃ g n cap,dQ w σ a pl= .slice (some ⟨g,0,none⟩) n cap∧v= .pointer (some ⟨g,i*sz+off,none⟩)
 | .w g t x=>nT C.W C.E.dp w σ g t x v
 | .ag cs rs=>uv C w σ st a cs rs v
 | x=>VR w σ.I σ.κ x v
def DT(w:World)(I:Nat→Prop):Prop:=∀ q∈glP,I q.1∧∃ T fz,w.heap[q.1]? =some (.cells q.2 T fz)
theorem DT.aH{w w':World}{I I':Nat→Prop}(h:DT w I)(hI:∀ b,I b→I' b)(hh:∀ b,I b→w'.heap[b]? =w.heap[b]?):DT w' I':=fun q hq=>by
 obtain ⟨h1,T,fz,h2⟩:=h q hq
 exact ⟨hI _ h1,T,fz,(hh _ h1).trans h2⟩
def DU(D:Nat):Deferred:={target:=.collected D,args:=#[]}
def Marks(C:Cx)(ds:List Deferred)(w:World)(σ:Sp):Prop:=
 ∃ Ds:List Nat,Ds.Nodup∧ds=Ds.map DU∧∀ D∈Ds,σ.ow D=some (.mark C.E.dp)∧C.W D∧w.heap[D]? =some (.deferred (some []))
theorem Marks.nil{C:Cx}{w:World}{σ:Sp} : Marks C [] w σ:=⟨[],List.nodup_nil,rfl,fun _ h=>by cases h⟩
structure ad(C:Cx)(st:St)(a:Act)(w:World)(σ:Sp):Prop where
 size:a.tmps.size=C.nt
 defers:Marks C a.defers w σ
 fr:∀ d,SR C w σ st a d (aj st.fr d) (a.tmps.getD d undef)
 bx:∀ k cs,st.box C.E.dp k=some cs→∃ vs T,e9 C w σ k cs vs T
 hpd:∀ k cs,k.dp≠C.E.dp→st.hp k=some cs→k.dp<C.E.dp∧∀ c∈cs,c.deep k.dp=true
 own:∀ b l,σ.ow b=some l→b<w.heap.size
 ba:∀ b,σ.I b→b<w.heap.size∧σ.ow b=none
 new:∀ b,w.heap.size≤b→C.W b∧aY.n0≤b
 lay:DT w σ.I
structure bN(C:Cx)(w:World)(σ:Sp)(w':World)(σ':Sp):Prop where
 size:w.heap.size≤w'.heap.size
 aH:∀ b,b<w.heap.size→¬C.W b→w'.heap[b]? =w.heap[b]?
 up:∀ b,σ.I b→σ'.I b
 ba:∀ b,σ.I b→w'.heap[b]? =w.heap[b]?
 dn:∀ b,σ'.I b→σ.I b∨C.W b
 kap:∀ k,k.dp<C.E.dp→σ'.κ k=σ.κ k
 ow:∀ b,b<w.heap.size→¬C.W b→σ'.ow b=σ.ow b
 io:w'.os=w.os∧w'.output=w.output
theorem bN.refl(C:Cx)(w:World)(σ:Sp):bN C w σ w σ:=⟨Nat.le_refl _,fun _ _ _=>rfl,fun _ h=>h,fun _ _=>rfl,fun _ h=>.inl h,fun _ _=>rfl,fun _ _ _=>rfl,rfl,rfl⟩
theorem bN.trans{C:Cx}{w w' w'':World}{σ σ' σ'':Sp}(h:bN C w σ w' σ')(h':bN C w' σ' w'' σ''):bN C w σ w'' σ'':=
 ⟨Nat.le_trans h.size h'.size,fun b hb hW=>(h'.aH b (Nat.lt_of_lt_of_le hb h.size) hW).trans (h.aH b hb hW),fun b hb=>h'.up b (h.up b hb),
  fun b hb=>(h'.ba b (h.up b hb)).trans (h.ba b hb),fun b hb=>(h'.dn b hb).elim (fun h1=>h.dn b h1) .inr,
  fun k hk=>(h'.kap k hk).trans (h.kap k hk),fun b hb hW=>(h'.ow b (Nat.lt_of_lt_of_le hb h.size) hW).trans (h.ow b hb hW),h'.io.1.trans h.io.1,h'.io.2.trans h.io.2⟩
section
variable {C:Cx}{w w':World}{σ σ':Sp}
theorem dT.aH{L:cQ}{wr:Prop}{t:TypeId}{es:List AV}{g cap:Nat}{cs:Array Value}(h:dT C.P C.W w σ L wr t es g cap cs)
  (hg:w'.heap[g]? =w.heap[g]?) (how:σ'.ow g=some L) (hI:∀ b,σ.I b→σ'.I b) (hh:∀ b,σ.I b→w'.heap[b]? =w.heap[b]?):dT C.P C.W w' σ' L wr t es g cap cs:=
 ⟨how,h.wr,hg.trans h.hh,h.pos,h.nc,h.ecap,h.max,h.size,h.pure,h.one,fun j e m c he hc=>(h.cell j e m c he hc).mono hI hh (fun k hk=>by
  have:=ic (k:=k) c (iQ (h.pure e (List.mem_of_getElem? he)) c (List.mem_of_getElem? hc))
  rw [this] at hk;cases hk),h.base⟩
theorem OwnAt.aH{L:cQ}{wr:Prop}{t:TypeId}{es:List AV}{v:Value}(h:OwnAt C.P C.W w σ L wr t es v)
  (hg:∀ g,σ.ow g=some L→w'.heap[g]? =w.heap[g]? ∧σ'.ow g=some L) (hI:∀ b,σ.I b→σ'.I b) (hh:∀ b,σ.I b→w'.heap[b]? =w.heap[b]?):OwnAt C.P C.W w' σ' L wr t es v:=by
 rcases h with h | ⟨g,cap,cs,hv,hr⟩
 ·exact .inl h
 ·exact .inr ⟨g,cap,cs,hv,hr.aH (hg g hr.ow).1 (hg g hr.ow).2 hI hh⟩
theorem CR.aH{k:Key}{off:Nat}{c:AV}{v:Value}(h:CR C w σ k off c v)
  (hg:∀ g,σ.ow g=some (.rowC k off)→w'.heap[g]? =w.heap[g]? ∧σ'.ow g=some (.rowC k off)) (hI:∀ b,σ.I b→σ'.I b) (hh:∀ b,σ.I b→w'.heap[b]? =w.heap[b]?)
  (hk:∀ k,c.bb k=false→σ'.κ k=σ.κ k) (hw:∀ b g,σ.ow b=some (.grp C.E.dp g)→w'.heap[b]? =w.heap[b]? ∧σ'.ow b=some (.grp C.E.dp g)):CR C w' σ' k off c v:=by
 cases c with
 | o t es=>exact OwnAt.aH h hg hI hh
 | w g t x=>exact nT.aH h (fun b hb=>hw b g hb) fun _ h=>h
 | bp t k' u=>
  obtain ⟨rfl,h2⟩:=h
  exact ⟨rfl,by rw [hk k' (by simp [AV.bb])];exact h2⟩
 | _=>exact VR.mono h hI hh hk
structure fj(C:Cx)(w:World)(σ:Sp)(w':World)(σ':Sp)(L:Option cQ):Prop where
 blk:∀ b l,σ.ow b=some l→some l≠L→w'.heap[b]? =w.heap[b]? ∧σ'.ow b=some l
 ba:∀ b,σ.I b→w'.heap[b]? =w.heap[b]?
 up:∀ b,σ.I b→σ'.I b
 kap:σ'.κ=σ.κ
 size:w.heap.size≤w'.heap.size
 own:∀ b l,σ'.ow b=some l→b<w'.heap.size
 dn:∀ b,σ'.I b→b<w'.heap.size∧σ'.ow b=none
theorem Marks.same{ds:List Deferred}{M:Option cQ}(h:Marks C ds w σ)(hs:fj C w σ w' σ' M)(hM:some (.mark C.E.dp)≠M):Marks C ds w' σ':=by
 obtain ⟨Ds,h0,h1,h2⟩:=h
 refine ⟨Ds,h0,h1,fun D hD=>?_⟩
 obtain ⟨h3,h4,h5⟩:=h2 D hD
 obtain ⟨h6,h7⟩:=hs.blk D _ h3 hM
 exact ⟨h7,h4,h6.trans h5⟩
theorem OwnAt.same{L:cQ}{M:Option cQ}{wr:Prop}{t:TypeId}{es:List AV}{v:Value}(h:fj C w σ w' σ' M)(hL:some L≠M)(ho:OwnAt C.P C.W w σ L wr t es v) :
  OwnAt C.P C.W w' σ' L wr t es v:=ho.aH (fun g hg=>h.blk g L hg hL) h.up h.ba
theorem VR.same{M:Option cQ}{x:AV}{v:Value}(h:fj C w σ w' σ' M)(hv:VR w σ.I σ.κ x v):VR w' σ'.I σ'.κ x v:=
 hv.mono h.up h.ba fun k _=>by rw [h.kap]
theorem CR.same{M:Option cQ}{k:Key}{off:Nat}{c:AV}{v:Value}(h:fj C w σ w' σ' M)(hL:some (.rowC k off)≠M)(hc:CR C w σ k off c v)(hG:∀ g,some (.grp C.E.dp g)≠M:=by simp [Pl.nS]):CR C w' σ' k off c v:=
 hc.aH (fun g hg=>h.blk g _ hg hL) h.up h.ba (fun k _=>by rw [h.kap]) fun b g hb=>h.blk b _ hb (hG g)
theorem nT.same{M:Option cQ}{g:Nat}{t:TypeId}{x:AV}{v:Value}(h:fj C w σ w' σ' M)(hG:some (.grp C.E.dp g)≠M)(hw:nT C.W C.E.dp w σ g t x v):nT C.W C.E.dp w' σ' g t x v:=
 hw.aH (fun b hb=>h.blk b _ hb hG) fun _ h=>h
end
theorem oO(d:Nat)(x:AV)(fr:List (Nat×AV))(d':Nat):aj ((d,x)::fr) d'=if d=d' then x else aj fr d':=rfl
theorem lF(fr:List (Nat×AV))(pl:Pl)(d:Nat) :
  aj (fr.map fun x=>(x.1,if x.2.fe pl=true then .u else x.2)) d=if (aj fr d).fe pl=true then .u else aj fr d:=by
 induction fr with
 | nil=>simp [aj,AV.fe]
 | cons y fr ih=>
  simp only [List.map_cons,aj]
  split
  ·rfl
  ·exact ih
theorem iM(st:St)(pl:Pl)(d:Nat):(aj (st.aL pl).fr d).fe pl=false:=by
 unfold St.aL
 rw [lF]
 split
 ·rfl
 ·rename_i h;simpa using h
theorem Jv(dp:Nat)(st:St)(pl p:Pl):(st.aL pl).rowAt dp p=st.rowAt dp p:=by
 cases p with
 | s d=>
  simp only [St.rowAt,St.aL,lF]
  generalize aj st.fr d=y
  cases y with
  | r p=>by_cases h:p=pl<;>simp [AV.fe,h]
  | v p lo len=>by_cases h:p=pl<;>simp [AV.fe,h]
  | q p i sz off=>by_cases h:p=pl<;>simp [AV.fe,h]
  | ag cs rs=>by_cases h:AV.fe pl (.ag cs rs)=true<;>simp [h]
  | _=>simp [AV.fe]
 | c k off=>rfl
theorem AJ(dp:Nat)(st:St)(pl:Pl)(k:Key):(st.aL pl).box dp k=st.box dp k:=rfl
theorem Cz(a:Act)(d d':Nat)(v:Value)(hd:d<a.tmps.size):(a.put (some d) v).tmps.getD d' undef=if d=d' then v else a.tmps.getD d' undef:=by
 simp only [Act.put,Array.getD_eq_getD_getElem?,Array.getElem?_setIfInBounds]
 split
 ·rename_i h;subst h;simp
 ·rfl
section
variable {C:Cx}{st:St}{a:Act}{w:World}{σ:Sp}
theorem CB{d:Nat}{x:AV}{v:Value}(hx:x.copy=true∨x= .u)(h:VR w σ.I σ.κ x v):SR C w σ st a d x v:=by
 cases x<;>first | exact h | (rcases hx with hx | hx<;>simp [AV.copy] at hx)
theorem SR.xu{d:Nat}{x:AV}{v:Value}(hx:x.copy=true)(h:SR C w σ st a d x v):VR w σ.I σ.κ x v:=by
 cases x<;>first | exact h | (simp [AV.copy] at hx)
theorem SR.AK{st':St}{a':Act}{d:Nat}{x:AV}{v:Value}(h:SR C w σ st a d x v)
  (hr:∀ pl,x.fe pl=true→(∃ r,st'.rowAt C.E.dp pl=some r)→st'.rowAt C.E.dp pl=st.rowAt C.E.dp pl∧dQ w σ a' pl=dQ w σ a pl):SR C w σ st' a' d x v:=by
 cases x with
 | r pl=>
  intro hs
  obtain ⟨r,hr'⟩:=Option.isSome_iff_exists.1 hs
  obtain ⟨h1,h2⟩:=hr pl (by simp [AV.fe]) ⟨r,hr'⟩
  exact (h (by rw [←h1,hr'];rfl)).trans h2.symm
 | v pl lo len=>
  intro t es ht hl
  obtain ⟨h1,h2⟩:=hr pl (by simp [AV.fe]) ⟨_,ht⟩
  rw [h2]
  exact h t es (h1▸ht) hl
 | q pl i sz off=>
  intro t es ht hl
  obtain ⟨h1,h2⟩:=hr pl (by simp [AV.fe]) ⟨_,ht⟩
  rw [h2]
  exact h t es (h1▸ht) hl
 | ag cs rs=>
  refine uv.to h (fun c _ v hv=>hv) (fun q hq hs=>?_)
  obtain ⟨r,hr'⟩:=Option.isSome_iff_exists.1 hs
  obtain ⟨h1,h2⟩:=hr (.s q.2) (List.any_eq_true.2 ⟨q,hq,by simp⟩) ⟨r,hr'⟩
  exact ⟨by rw [←h1,hr'];rfl,h2⟩
 | _=>exact h
theorem ad.put{d:Nat}{x:AV}{v:Value}(h:ad C st a w σ)(hd:d<C.nt)(hx:SR C w σ st a d x v)
  (hb:∀ t es,x= .o t es→∀ d',(aj st.fr d').fe (.s d)=false):ad C (st.bR d x) (a.put (some d) v) w σ:=by
 have hd':d<a.tmps.size:=h.size▸hd
 have hrow:∀ pl,pl≠.s d→(st.bR d x).rowAt C.E.dp pl=st.rowAt C.E.dp pl∧dQ w σ (a.put (some d) v) pl=dQ w σ a pl:=by
  intro pl hne
  cases pl with
  | s d'=>
   have hdd:d≠d':=fun e=>hne (by rw [e])
   exact ⟨by simp [St.rowAt,St.bR,oO,hdd],by simp only [dQ];rw [Cz a d d' v hd',if_neg hdd]⟩
  | c k off=>exact ⟨rfl,rfl⟩
 have hself:∀ r,(st.bR d x).rowAt C.E.dp (.s d)=some r→∃ t es,x= .o t es:=by
  intro r hr
  simp only [St.rowAt,St.bR,oO,if_true] at hr
  cases x<;>simp at hr
  exact ⟨_,_,rfl⟩
 refine ⟨by simp [Act.put,h.size],(show Marks C (a.put (some d) v).defers w σ from h.defers),fun d'=>?_,h.bx,h.hpd,h.own,h.ba,h.new,h.lay⟩
 rw [Cz a d d' v hd']
 simp only [St.bR,oO]
 split
 ·rename_i hdd
  subst hdd
  refine hx.AK fun pl hpl ⟨r,hr⟩=>?_
  by_cases hp:pl= .s d
  ·subst hp
   obtain ⟨t,es,rfl⟩:=hself r hr
   simp [AV.fe] at hpl
  ·exact hrow pl hp
 ·refine (h.fr d').AK fun pl hpl ⟨r,hr⟩=>?_
  by_cases hp:pl= .s d
  ·subst hp
   obtain ⟨t,es,rfl⟩:=hself r hr
   rw [hb t es rfl d'] at hpl
   cases hpl
  ·exact hrow pl hp
theorem ad.forget{st':St}(h:ad C st a w σ)(hfr:∀ d,aj st'.fr d= .u∨aj st'.fr d=aj st.fr d)
  (hbx:∀ k cs,st'.box C.E.dp k=some cs→st.box C.E.dp k=some cs) (hhp:st'.hp=st.hp):ad C st' a w σ:=by
 refine ⟨h.size,h.defers,fun d=>?_,fun k cs hk=>h.bx k cs (hbx k cs hk),hhp▸h.hpd,h.own,h.ba,h.new,h.lay⟩
 have hrow:∀ pl r,st'.rowAt C.E.dp pl=some r→st.rowAt C.E.dp pl=some r:=by
  intro pl r hr
  cases pl with
  | s d'=>
   simp only [St.rowAt] at hr ⊢
   rcases hfr d' with e | e
   ·rw [e] at hr;cases hr
   ·rw [e] at hr;exact hr
  | c k off=>
   simp only [St.rowAt] at hr ⊢
   cases hb:st'.box C.E.dp k with
   | none=>simp [hb] at hr
   | some cs=>rw [hbx k cs hb];simpa [hb] using hr
 rcases hfr d with e | e
 ·rw [e];exact VR.u _
 ·rw [e]
  exact (h.fr d).AK fun pl _ ⟨r,hr⟩=>⟨hr.trans (hrow pl r hr).symm,rfl⟩
theorem ad.aL(h:ad C st a w σ)(pl:Pl):ad C (st.aL pl) a w σ:=
 h.forget (fun d=>by
  simp only [St.aL,lF]
  split
  ·exact .inl rfl
  ·exact .inr rfl) (fun _ _ h=>h) rfl
structure Idle(C:Cx)(st:St)(L:Option cQ):Prop where
 sl:∀ d t es,aj st.fr d= .o t es→some (.rowS C.E.dp d)≠L
 bx:∀ k cs,st.box C.E.dp k=some cs→some (.box k)≠L
 ce:∀ k cs off t es,st.box C.E.dp k=some cs→cs[off]? =some (.o t es)→some (.rowC k off)≠L
 gr:∀ g,some (.grp C.E.dp g)≠L:=by simp
 mrk:some (.mark C.E.dp)≠L:=by simp
theorem Idle.none:Idle C st none:=⟨fun _ _ _ _=>by simp,fun _ _ _=>by simp,fun _ _ _ _ _ _ _=>by simp,fun _=>by simp,by simp⟩
structure ZQ(C:Cx)(st:St)(L:Option cQ):Prop where
 sl:∀ d t es,aj st.fr d= .o t es→some (.rowS C.E.dp d)≠L
 bx:∀ k cs,st.box C.E.dp k=some cs→some (.box k)≠L
 ce:∀ k cs off t es,st.box C.E.dp k=some cs→cs[off]? =some (.o t es)→some (.rowC k off)≠L
 gr:∀ g,some (.grp C.E.dp g)≠L
theorem ad.NA{w':World}{σ':Sp}{L:Option cQ}(h:ad C st a w σ)(hs:fj C w σ w' σ' L)(hi:ZQ C st L)(hm:Marks C a.defers w' σ'):ad C st a w' σ':=by
 have hbox:∀ k cs,st.box C.E.dp k=some cs→w'.heap[σ'.κ k]? =w.heap[σ.κ k]? :=by
  intro k cs hk
  obtain ⟨vs,T,hb⟩:=h.bx k cs hk
  rw [hs.kap]
  exact (hs.blk _ _ hb.ow (hi.bx k cs hk)).1
 refine ⟨h.size,hm,fun d=>?_,fun k cs hk=>?_,h.hpd,hs.own,hs.dn,fun b hb=>h.new b (Nat.le_trans hs.size hb),h.lay.aH hs.up hs.ba⟩
 ·have:=h.fr d
  have hpv:∀ pl r,st.rowAt C.E.dp pl=some r→dQ w' σ' a pl=dQ w σ a pl:=by
   intro pl r hr
   cases pl with
   | s d'=>rfl
   | c k off=>
    simp only [St.rowAt] at hr
    cases hb:st.box C.E.dp k with
    | none=>simp [hb] at hr
    | some cs=>simp only [dQ,hbox k cs hb]
  cases hx:aj st.fr d with
  | o t es=>rw [hx] at this;exact OwnAt.same hs (hi.sl d t es hx) this
  | r pl=>
   rw [hx] at this
   intro hsome
   obtain ⟨r,hr⟩:=Option.isSome_iff_exists.1 hsome
   rw [hpv pl r hr]
   exact this hsome
  | v pl lo len=>
   rw [hx] at this
   intro t es ht hl
   rw [hpv pl _ ht]
   exact this t es ht hl
  | q pl i sz off=>
   rw [hx] at this
   intro t es ht hl
   rw [hpv pl _ ht]
   exact this t es ht hl
  | w g t x=>rw [hx] at this;exact nT.same hs (hi.gr g) this
  | ag cs rs=>rw [hx] at this;exact uv.to this (fun c _ v hv=>VR.same hs hv) (fun _ _ hr=>⟨hr,rfl⟩)
  | _=>rw [hx] at this;exact VR.same hs this
 ·obtain ⟨vs,T,hb⟩:=h.bx k cs hk
  refine ⟨vs,T,(hbox k cs hk).trans hb.hh,hb.size,?_,fun hw=>?_,hb.one,fun off c hc=>?_,hb.ty,by rw [hs.kap];exact hb.kb⟩
  ·rw [hs.kap];exact (hs.blk _ _ hb.ow (hi.bx k cs hk)).2
  ·rw [hs.kap];exact hb.wr hw
  ·have:=hb.cell off c hc
   cases c with
   | o t es=>exact OwnAt.same hs (hi.ce k cs off t es hk hc) this
   | w g t x=>exact nT.same hs (hi.gr g) this
   | bp t k' u=>exact ⟨this.1,by rw [hs.kap];exact this.2⟩
   | _=>exact VR.same hs this
theorem ad.GI{w':World}{σ':Sp}{L:Option cQ}(h:ad C st a w σ)(hs:fj C w σ w' σ' L)(hi:Idle C st L):ad C st a w' σ':=
 h.NA hs ⟨hi.sl,hi.bx,hi.ce,hi.gr⟩ (h.defers.same hs hi.mrk)
theorem ad.same{w':World}{σ':Sp}(h:ad C st a w σ)(hs:fj C w σ w' σ' none):ad C st a w' σ':=h.GI hs .none
end
variable [aY]
mutual
def xv:Value→AV→Bool
 | .bool x,.b y=>x==y
 | .int k n,.i k' n'=>decide (k=k')&&n==n'
 | .string s,.s l=>s.data.toList==l
 | .slice none 0 0,.n=>true
 | .slice none 0 0,.l _ []=>true
 | .pointer none,.z=>true
 | .nilFunc,.nf=>true
 | .nilIface,.ni=>true
 | .agg vs,.a cs=>tA vs.toList cs&&cs.all AV.one
 | .tuple vs,.tp cs=>tA vs.toList cs
 | _,_=>false
def tA:List Value→List AV→Bool
 | [],[]=>true
 | v::vs,c::cs=>xv v c&&tA vs cs
 | _,_=>false
end
def bh:Operand→aO→Bool
 | .tmp t,.t n=>t==n
 | .const v,.c x=>xv v x
 | .func f,.c (.f g [])=>f==g&&decide (f<1000000)
 | _,_=>false
def ee:List Operand→List aO→Bool
 | [],[]=>true
 | y::ys,x::xs=>bh y x&&ee ys xs
 | _,_=>false
section
variable {w:World}{I:Nat→Prop}{κ:Key→Nat}
mutual
theorem Bq:(v:Value)→(x:AV)→xv v x=true→VR w I κ x v∧x.pure=true
 | .bool x,.b y,h=>by
  have:x=y:=by simpa [xv] using h
  subst this;exact ⟨.b _,rfl⟩
 | .int k n,.i k' n',h=>by
  obtain ⟨h1,h2⟩:k=k'∧n=n':=by simpa [xv] using h
  subst h1;subst h2;exact ⟨.i _ _,rfl⟩
 | .string s,.s l,h=>by
  have:s.data.toList=l:=by simpa [xv] using h
  subst this
  have e:s=⟨s.data.toList.toArray⟩:=by cases s;simp
  refine ⟨?_,rfl⟩
  rw [e]
  exact .s _
 | .slice none 0 0,.n,_=>⟨.n,rfl⟩
 | .slice none 0 0,.l t [],_=>⟨.lnil t none 0,rfl⟩
 | .pointer none,.z,_=>⟨.z,rfl⟩
 | .nilFunc,.nf,_=>⟨.nf,rfl⟩
 | .nilIface,.ni,_=>⟨.ni,rfl⟩
 | .agg vs,.a cs,h=>by
  obtain ⟨h1,h2⟩:tA vs.toList cs=true∧cs.all AV.one=true:=by simpa [xv] using h
  obtain ⟨hl,hc⟩:=sZ vs.toList cs h1
  refine ⟨.a cs vs (by simpa using hl.symm) (fun c hc=>by simpa using List.all_eq_true.1 h2 c hc) fun m c hm=>?_,?_⟩
  ·have:=(hc m c hm).1;simpa using this
  ·exact ib fun x hx=>by
    obtain ⟨m,hm⟩:=List.mem_iff_getElem?.1 hx
    exact (hc m x hm).2
 | .tuple vs,.tp cs,h=>by
  have h1:tA vs.toList cs=true:=by simpa [xv] using h
  obtain ⟨hl,hc⟩:=sZ vs.toList cs h1
  refine ⟨.tp cs vs (by simpa using hl.symm) fun m c hm=>?_,?_⟩
  ·have:=(hc m c hm).1;simpa using this
  ·exact ib fun x hx=>by
    obtain ⟨m,hm⟩:=List.mem_iff_getElem?.1 hx
    exact (hc m x hm).2
theorem sZ:(vs:List Value)→(cs:List AV)→tA vs cs=true→
  vs.length=cs.length∧∀ (m:Nat)(c:AV),cs[m]? =some c→VR w I κ c (vs[m]?.getD undef)∧c.pure=true
 | [],[],_=>⟨rfl,fun m c h=>by simp at h⟩
 | v::vs,c::cs,h=>by
  obtain ⟨h1,h2⟩:xv v c=true∧tA vs cs=true:=by simpa [tA] using h
  obtain ⟨hl,hc⟩:=sZ vs cs h2
  refine ⟨by simp [hl],fun m d hm=>?_⟩
  cases m with
  | zero=>
   have:c=d:=by simpa using hm
   subst this
   simpa using Bq v c h1
  | succ m=>simpa using hc m d (by simpa using hm)
end
end
section
variable {C:Cx}{st:St}{a:Act}{w:World}{σ:Sp}
theorem ad.su(h:ad C st a w σ){y:Operand}{x:aO}(hl:bh y x=true)(hc:(st.ev x).copy=true):VR w σ.I σ.κ (st.ev x) (a.eval y):=by
 cases x with
 | t n=>
  cases y with
  | tmp t=>
   have:t=n:=by simpa [bh] using hl
   subst this
   exact (h.fr t).xu hc
  | _=>simp [bh] at hl
 | c z=>
  cases y with
  | const v=>exact (Bq v z hl).1
  | func f=>
   cases z<;>simp [bh] at hl
   rename_i g caps
   cases caps<;>simp at hl
   obtain ⟨hl,hg⟩:=hl
   subst hl
   exact VR.f _ [] #[] hg rfl fun m c hm=>by simp at hm
  | _=>simp [bh] at hl
theorem ry{y:Operand}{z:AV}(hl:bh y (.c z)=true):z.pure=true:=by
 cases y with
 | const v=>exact (Bq (w:=default) (I:=fun _=>False) (κ:=fun _=>0) v z hl).2
 | func f=>
  cases z<;>simp [bh] at hl
  rename_i g caps
  cases caps<;>simp at hl
  rfl
 | _=>simp [bh] at hl
theorem yp{y:Operand}{n:Nat}(hl:bh y (.t n)=true):y= .tmp n:=by
 cases y with
 | tmp t=>
  have:t=n:=by simpa [bh] using hl
  rw [this]
 | _=>simp [bh] at hl
theorem ad.slot(h:ad C st a w σ){y:Operand}{n:Nat}(hl:bh y (.t n)=true):SR C w σ st a n (aj st.fr n) (a.eval y):=by
 rw [yp hl];exact h.fr n
theorem OwnAt.AL{P:Program}{W:Nat→Prop}{L:cQ}{wr wr':Prop}{t:TypeId}{es:List AV}{v:Value}(h:OwnAt P W w σ L wr t es v)(hw:wr'→wr):OwnAt P W w σ L wr' t es v:=by
 rcases h with h | ⟨g,cap,cs,hv,hr⟩
 ·exact .inl h
 ·exact .inr ⟨g,cap,cs,hv,hr.ow,fun x=>hr.wr (hw x),hr.hh,hr.pos,hr.nc,hr.ecap,hr.max,hr.size,hr.pure,hr.one,hr.cell,hr.base⟩
theorem ad.row(h:ad C st a w σ){pl:Pl}{t:TypeId}{es:List AV}(hr:st.rowAt C.E.dp pl=some (t,es)) :
  OwnAt C.P C.W w σ (pl.nS C.E.dp) (pl.fK C.E=true) t es (dQ w σ a pl):=by
 cases pl with
 | s d=>
  simp only [St.rowAt] at hr
  have:=h.fr d
  cases hx:aj st.fr d<;>rw [hx] at hr this<;>simp at hr
  obtain ⟨rfl,rfl⟩:=hr
  exact OwnAt.AL this fun _=>trivial
 | c k off=>
  simp only [St.rowAt] at hr
  cases hb:st.box C.E.dp k with
  | none=>simp [hb] at hr
  | some cs=>
   simp only [hb] at hr
   cases hc:cs[off]? with
   | none=>simp [hc] at hr
   | some c=>
    obtain ⟨vs,T,hbx⟩:=h.bx k cs hb
    have:=hbx.cell off c hc
    simp only [hc] at hr
    cases c<;>simp at hr
    obtain ⟨rfl,rfl⟩:=hr
    simp only [dQ,hbx.hh]
    exact this
def wc(P:Program)(t:TypeId):Option Bool:=(P.underlying t).map fun
 | .struct _=>true
 | .array _ _=>true
 | _=>false
def qv(P:Program)(t:TypeId)(n:Option Nat):Bool:=
 match n with
 | none=>wc P t==some false&&decide (P.cellsOf t=1)
 | some m=>wc P t==some true&&(P.info? t).isSome&&decide (P.cellsOf t=m)
theorem oP{P:Program}{t:TypeId}{x:Bool}(h:wc P t=some x)(w:World):(isAgg t).run P w= .ok x w:=by
 unfold wc at h
 cases hu:P.underlying t with
 | none=>simp [hu] at h
 | some d=>
  simp only [hu,Option.map_some,Option.some.injEq] at h
  unfold isAgg
  rw [Sem.run_bind,run_underlying hu w]
  cases d<;>simp_all
theorem iw{P:Program}{t:TypeId}(h:(P.info? t).isSome=true)(w:World):(sizeOf t).run P w= .ok (P.cellsOf t) w:=by
 obtain ⟨i,hi⟩:=Option.isSome_iff_exists.1 h
 simp [sizeOf,typeInfo,hi,Program.cellsOf]
theorem add_lit(g o j:Nat):(⟨g,o,none⟩:Addr).add j=⟨g,o+j,none⟩:=by unfold Addr.add;split<;>simp_all
theorem s0{g:Nat}{vs:Array Value}{T:TypeId}{fz:Nat×Nat}(hh:w.heap[g]? =some (.cells vs T fz))(o:Nat):w.cell? ⟨g,o,none⟩=vs[o]? :=by
 simp [World.cell?,hh]
theorem wX{P:Program}{I:Nat→Prop}{κ:Key→Nat}{g b:Nat}{vs:Array Value}{T:TypeId}{fz:Nat×Nat}{cs:List AV}{n:Option Nat}{off:Nat}{y:AV}{t:TypeId}
  (hh:w.heap[g]? =some (.cells vs T fz)) (hsize:b+cs.length≤vs.size) (hcell:∀ off c,cs[off]? =some c→c.copy=true→VR w I κ c (vs.getD (b+off) undef))
  (hone:∀ c∈cs,c.copy=true→c.one=true) (hy:y.copy=true) (hp:pick n off cs=some y) (hn:qv P t n=true) :
  ∃ v,(loadVar t ⟨g,b+off,none⟩).run P w= .ok v w∧VR w I κ y v:=by
 cases n with
 | none=>
  simp only [pick] at hp
  have hlt:off<cs.length:=by
   rcases Nat.lt_or_ge off cs.length with h | h
   ·exact h
   ·simp [h] at hp
  have hlt':b+off<vs.size:=by omega
  obtain ⟨h1,_⟩:wc P t=some false∧P.cellsOf t=1:=by simpa [qv] using hn
  have hc:w.cell? ⟨g,b+off,none⟩=some vs[b+off]:=by rw [s0 hh];simp [hlt']
  refine ⟨vs[b+off],?_,?_⟩
  ·unfold loadVar
   simp [oP h1 w,hc]
  ·have:=hcell off y hp hy
   simpa [hlt'] using this
 | some m=>
  simp only [pick] at hp
  split at hp
  ·rename_i hle
   have hy':y= .a ((cs.drop off).take m):=by simpa using hp.symm
   subst hy'
   have hcp:=wD (l:=(cs.drop off).take m) (by simpa [AV.copy] using hy)
   obtain ⟨⟨h1,h2⟩,h3⟩:(wc P t=some true∧(P.info? t).isSome=true)∧P.cellsOf t=m:=by simpa [qv] using hn
   have hl:=run_loadCells (P:=P) w ⟨g,b+off,none⟩ m (fun j=>vs.getD (b+off+j) undef) (fun j hj=>by
    rw [add_lit,s0 hh]
    have:b+off+j<vs.size:=by omega
    simp [this])
   refine ⟨.agg (((List.range m).map fun j=>vs.getD (b+off+j) undef).toArray),?_,?_⟩
   ·unfold loadVar
    simp only [Sem.run_bind,oP h1 w,Result.andThen_ok,if_true,iw h2,h3,hl,Sem.run_pure]
   ·refine VR.a _ _ ?_ (fun c hc=>hone c (List.mem_of_mem_drop (List.mem_of_mem_take hc)) (hcp c hc)) fun j c hj=>?_
    ·simp;omega
    ·have hjm:j<m:=by
      rcases Nat.lt_or_ge j m with h | h
      ·exact h
      ·simp [List.getElem?_take,Nat.not_lt.2 h] at hj
     have hj2:cs[off+j]? =some c:=by
      rw [List.getElem?_take,if_pos hjm,List.getElem?_drop] at hj
      exact hj
     have hv:=hcell (off+j) c hj2 (hcp c (List.mem_of_getElem? hj))
     simpa [hjm,Nat.add_assoc] using hv
  ·cases hp
end
variable [aY]
def rG(P:Program)(t:TypeId)(i:Nat):Option Field:=
 match P.underlying t with
 | some (.struct fs)=>fs[i]?
 | _=>none
def iZ(P:Program)(t:TypeId):Option TypeId:=
 match P.underlying t with
 | some (.slice e)=>some e
 | _=>none
def we(P:Program)(t:TypeId):Bool:=match P.underlying t with
 | some .string=>true
 | _=>false
def EW(P:Program)(t:TypeId):Bool:=match P.underlying t with
 | some .bool=>true
 | _=>false
def sized(P:Program)(t sz:Nat):Bool:=(P.info? t).isSome&&decide (P.cellsOf t=sz)&&decide (0<sz)
def uX(y:Option Operand)(x:Option aO):Bool:=
 match y,x with
 | none,none=>true
 | some y,some x=>bh y x
 | _,_=>false
def s7(P:Program)(t:TypeId):List (Nat×Operand)→List (Nat×Nat×aO)→Bool
 | [],[]=>true
 | (i,y)::ys,(off,sz,x)::xs=>(match rG P t i with
  | some f=>f.offset==off&&sized P f.type sz
  | none=>false)&&bh y x&&s7 P t ys xs
 | _,_=>false
def zeroOf(P:Program)(t:TypeId):Option Value:=(P.info? t).bind (·.zero)
def aV(P:Program)(ao:nH)(op:Op):Bool:=
 match ao with
 | .mv x=>match op with | .move y=>bh y x | _=>false
 | .as x=>match op with | .assign y=>bh y x | _=>false
 | .pk c x y=>match op with | .pick c' x' y'=>bh c' c&&bh x' x&&bh y' y | _=>false
 | .bx x=>match op with | .box _ y=>bh y x | _=>false
 | .al zs=>match op with | .alloc t=>(match zeroOf P t with | some v=>tA v.cells.toList zs&&zs.all AV.one | none=>false) | _=>false
 | .ld n x=>match op with | .load t y=>bh y x&&qv P t n | _=>false
 | .st n x y=>match op with | .store t x' y'=>bh x' x&&bh y' y&&sized P t n | _=>false
 | .fa off x=>match op with
  | .fieldAddr s y i=>bh y x&&(match rG P s i with | some f=>f.offset==off&&(P.info? f.type).isSome&&decide (0<P.cellsOf f.type) | none=>false)
  | _=>false
 | .fd n off x=>match op with
  | .field s y i=>bh y x&&(match rG P s i with | some f=>f.offset==off&&qv P f.type n | none=>false)
  | _=>false
 | .ia sz arr x i=>match op with
  | .indexAddr t x' i'=>bh x' x&&bh i' i&&(match arr,P.underlying t with
   | none,some (.slice e)=>sized P e sz
   | some n,some (.array n' e)=>n==n'&&sized P e sz
   | _,_=>false)
  | _=>false
 | .bo o bl x y=>match op with
  | .binOp o' t x' y' _=>decide (o=o')&&bh x' x&&bh y' y&&(bl==EW P t)&&decide (o≠.or)
  | .call c=>(match c.callee with | .builtin .max=>true | _=>false)&&(match c.args.toList with
   | [x',y']=>bh x' x&&bh y' y&&decide (o= .or)
   | _=>false)
  | _=>false
 | .no x=>match op with | .unOp .not _ y=>bh y x | _=>false
 | .bs t sz es=>match op with
  | .buildSlice ty len parts=>iZ P ty==some t&&sized P t sz&&len==es.length&&decide (parts.toList.map (·.1)=List.range len)&&ee (parts.toList.map (·.2)) es&&decide (len*sz≤16777216)&&
    (match zeroOf P t with | some v=>v.cells.size==sz | none=>false)
  | _=>false
 | .bd zs fs=>match op with
  | .build t parts=>(match zeroOf P t with | some v=>tA v.cells.toList zs&&zs.all AV.one | none=>false)&&s7 P t parts.toList fs&&(match P.underlying t with | some (.struct fs)=>fs.all (fun f=>(P.info? f.type).isSome) | _=>false)
  | _=>false
 | .ms t sz by_ z l=>match op with
  | .makeSlice ty l' c'=>iZ P ty==some t&&sized P t sz&&(P.bytesOf t==by_)&&bh l' l&&bh c' l&&(match zeroOf P t with | some v=>xv v z&&v.cells.size==sz&&z.cl.all AV.one | none=>false)
  | _=>false
 | .sl t sz x lo hi=>match op with
  | .slice ty x' lo' hi' none=>bh x' x&&uX lo' lo&&uX hi' hi&&(if t=0 then we P ty else iZ P ty==some t&&sized P t sz)
  | _=>false
 | .ex x i=>match op with | .extract y i'=>bh y x&&i==i' | _=>false
 | .mf f caps=>match op with | .makeFunc (.func f') first caps'=>f==f'&&decide (f'<1000000)&&first.isEmpty&&ee caps'.toList caps||f==1000000+f'&&caps'.isEmpty&&ee first.toList caps | _=>false
 | .ca _ f args=>match op with
  | .call c=>(match c.callee with | .value (.func f')=>f==f' | _=>false)&&ee c.args.toList args
  | _=>false
 | .cf _ x args=>match op with
  | .call c=>(match c.callee with | .value y=>bh y x | _=>false)&&ee c.args.toList args
  | _=>false
 | .c2 f args=>match op with
  | .call c=>(match c.callee with | .value (.func f')=>f==f' | _=>false)&&ee c.args.toList args
  | _=>false
 | .d2 x args=>match op with
  | .call c=>(match c.callee with | .value y=>bh y x | _=>false)&&ee c.args.toList args
  | _=>false
 | .c3 f args=>match op with
  | .call c=>(match c.callee with | .value (.func f')=>f==f' | _=>false)&&ee c.args.toList args
  | _=>false
 | .d3 x args=>match op with
  | .call c=>(match c.callee with | .value y=>bh y x | _=>false)&&ee c.args.toList args
  | _=>false
 | .cr _ f args=>match op with
  | .call c=>(match c.callee with | .value (.func f')=>f==f' | _=>false)&&ee c.args.toList args
  | _=>false
 | .ln str x=>match op with
  | .call c=>(match c.callee with | .builtin .len=>true | _=>false)&&(match c.args.toList,c.argTypes.toList with
   | [y],[t]=>bh y x&&(if str then we P t else (iZ P t).isSome)
   | _,_=>false)
  | _=>false
 | .ap t sz by_ x y=>match op with
  | .call c=>(match c.callee with | .builtin .append=>true | _=>false)&&(match c.args.toList,c.argTypes.toList with
   | [x',y'],[t1,t2]=>bh x' x&&bh y' y&&t1==t2&&iZ P t1==some t&&sized P t sz&&(P.bytesOf t==by_)&&(match zeroOf P t with | some v=>v.cells.size==sz | none=>false)
   | _,_=>false)
  | _=>false
 | .nc x=>match op with | .nilCheck y=>bh y x | _=>false
 | .co _ f args=>match op with
  | .call c=>(match c.callee with | .value (.func f')=>f==f' | _=>false)&&ee c.args.toList args
  | _=>false
 | .ck f args=>match op with
  | .call c=>(match c.callee with | .value (.func f')=>f==f' | _=>false)&&ee c.args.toList args
  | _=>false
 | .ch f args _ _ _=>match op with
  | .call c=>(match c.callee with | .value (.func f')=>f==f' | _=>false)&&ee c.args.toList args
  | _=>false
 | .lk n x _ _=>match op with | .load t y=>bh y x&&qv P t n | _=>false
section
variable {w:World}{I:Nat→Prop}{κ:Key→Nat}{v:Value}
theorem VR.rf{x:Bool}(h:VR w I κ (.b x) v):v= .bool x:=by cases h;rfl
theorem VR.ix{k:IntKind}{n:Int}(h:VR w I κ (.i k n) v):v= .int k n:=by cases h;rfl
theorem VR.GJ{l:List UInt8}(h:VR w I κ (.s l) v):v= .string ⟨l.toArray⟩:=by cases h;rfl
theorem VR.Br(h:VR w I κ .n v):v= .slice none 0 0:=by cases h;rfl
theorem VR.VC(h:VR w I κ .sk v):v=undef:=by cases h;rfl
theorem VR.Ip{k:Key}{off n sz:Nat}(h:VR w I κ (.sp k off n sz) v):∃ cap,n≤cap∧cap≤maxLen∧v= .slice (some ⟨κ k,off,none⟩) n cap:=by
 cases h with
 | sp _ _ _ _ cap h1 h2=>exact ⟨cap,h1,h2,rfl⟩
theorem VR.uY{k:Key}{off:Nat}(h:VR w I κ (.p k off) v):v= .pointer (some ⟨κ k,off,none⟩):=by cases h;rfl
theorem VR.QU{cs:List AV}(h:VR w I κ (.a cs) v):∃ vs,v= .agg vs∧cs.length=vs.size∧(∀ c∈cs,c.one=true)∧∀ (m:Nat)(c:AV),cs[m]? =some c→VR w I κ c (vs.getD m undef):=by
 cases h with | a _ vs hl h1 hc=>exact ⟨vs,rfl,hl,h1,hc⟩
theorem VR.VD{cs:List AV}(h:VR w I κ (.tp cs) v):∃ vs,v= .tuple vs∧cs.length=vs.size∧∀ (m:Nat)(c:AV),cs[m]? =some c→VR w I κ c (vs.getD m undef):=by
 cases h with | tp _ vs hl hc=>exact ⟨vs,rfl,hl,hc⟩
theorem VR.EX{g:FuncId}{cs:List AV}(h:VR w I κ (.f g cs) v):∃ vs,(g<1000000∧v= .func (.func g) #[] vs∨¬g<1000000∧v= .func (.func (g - 1000000)) vs #[])∧cs.length=vs.size∧∀ (m:Nat)(c:AV),cs[m]? =some c→VR w I κ c (vs.getD m undef):=by
 cases h with
 | f _ _ vs hg hl hc=>exact ⟨vs,.inl ⟨hg,rfl⟩,hl,hc⟩
 | fm g0 _ vs hl hc=>exact ⟨vs,.inr ⟨Nat.not_lt.2 (Nat.le_add_right 1000000 g0),by rw [show 1000000+g0 - 1000000=g0 from Nat.add_sub_cancel_left 1000000 g0]⟩,hl,hc⟩
theorem VR.GK{g:FuncId}{cs:List AV}(h:VR w I κ (.f g cs) v)(hg:g<1000000):∃ vs,v= .func (.func g) #[] vs∧cs.length=vs.size∧∀ (m:Nat)(c:AV),cs[m]? =some c→VR w I κ c (vs.getD m undef):=by
 obtain ⟨vs,h1,h2,h3⟩:=h.EX
 exact ⟨vs,h1.elim (fun h=>h.2) (fun h=>absurd hg h.1),h2,h3⟩
theorem VR.VE{g:FuncId}{cs:List AV}(h:VR w I κ (.f g cs) v)(hg:¬g<1000000):∃ vs,v= .func (.func (g - 1000000)) vs #[]∧cs.length=vs.size∧∀ (m:Nat)(c:AV),cs[m]? =some c→VR w I κ c (vs.getD m undef):=by
 obtain ⟨vs,h1,h2,h3⟩:=h.EX
 exact ⟨vs,h1.elim (fun h=>absurd h.1 hg) (fun h=>h.2),h2,h3⟩
theorem VR.GL{x:AV}{off:Nat}(h:VR w I κ (.e x off) v):∃ g o cs T fz,v= .pointer (some ⟨g,o+off,none⟩)∧I g∧w.heap[g]? =some (.cells cs T fz)∧x.pure=true∧o+x.nc≤cs.size∧
  (∀ c∈x.cl,c.one=true)∧∀ (m:Nat)(c:AV),x.cl[m]? =some c→VR w I κ c (cs.getD (o+m) undef):=by
 cases h with | e _ _ g o cs T fz hI hh hp hs h1 hc=>exact ⟨g,o,cs,T,fz,rfl,hI,hh,hp,hs,h1,hc⟩
theorem VR.GM{t:TypeId}{es:List AV}(h:VR w I κ (.l t es) v):∃ A cap,v= .slice A es.length cap∧(es=[]∨∃ g o cs T fz sz,A=some ⟨g,o,none⟩∧I g∧w.heap[g]? =some (.cells cs T fz)∧(t≠0→(aY.n0≤g→T=t∧fz=(0,0))∧(g<aY.n0→aY.tg t=true))∧0<sz∧
  (∀ e∈es,e.nc=sz)∧o+es.length*sz≤cs.size∧(∀ e∈es,e.pure=true)∧(∀ e∈es,∀ c∈e.cl,c.one=true)∧es.length≤cap∧cap≤maxLen∧
  ∀ (j:Nat)(e:AV)(m:Nat)(c:AV),es[j]? =some e→e.cl[m]? =some c→VR w I κ c (cs.getD (o+j*sz+m) undef)):=by
 cases h with
 | lnil _ A cap=>exact ⟨A,cap,rfl,.inl rfl⟩
 | l _ _ g o cap cs T fz sz hI hh ht hsz hnc hsize hp h1 hcap hmax hc=>exact ⟨_,cap,rfl,.inr ⟨g,o,cs,T,fz,sz,rfl,hI,hh,ht,hsz,hnc,hsize,hp,h1,hcap,hmax,hc⟩⟩
end
structure FP(C:Cx)(st':St)(a:Act)(w:World)(σ:Sp)(d:Option Nat)(x:AV)(cv:Value)(w':World)(σ':Sp):Prop where
 stp:bN C w σ w' σ'
 conc:ad C st' a w' σ'
 val:∀ dd,d=some dd→SR C w' σ' st' a dd x cv
 own:∀ dd t es,d=some dd→x= .o t es→∀ d',(aj st'.fr d').fe (.s dd)=false
def cX(C:Cx)(o:Oper)(d:Option Nat)(a:Act)(w:World)(σ:Sp)(st':St)(x:AV):Prop:=
 ∀ (K:Act→World→Prop)(Q:Exit→Act→World→Prop),(∀ cv w' σ',FP C st' a w σ d x cv w' σ'→K (a.put o.dst cv) w')→o.wp C.P a w K Q
section
variable {C:Cx}{st:St}{a:Act}{w:World}{σ:Sp}{o:Oper}{d:Option Nat}
theorem cX.iN{st':St}{x:AV}{cv:Value}{w':World}{σ':Sp}(hr:(Go.execOp a.eval o).run C.P w= .ok (.value cv) w')(h:FP C st' a w σ d x cv w' σ'):cX C o d a w σ st' x:=by
 intro K Q hK
 unfold Oper.wp
 rw [hr]
 exact hK _ _ _ h
theorem cX.RN{st':St}{x:AV}{w':World}{σ':Sp}(hr:(Go.execOp a.eval o).run C.P w= .ok .skip w')(h:FP C st' a w σ d x undef w' σ'):cX C o d a w σ st' x:=by
 intro K Q hK
 unfold Oper.wp
 rw [hr]
 exact hK _ _ _ h
theorem cX.quiet{x:AV}{cv:Value}(h:ad C st a w σ)(hr:(Go.execOp a.eval o).run C.P w= .ok (.value cv) w)(hx:x.copy=true)(hv:VR w σ.I σ.κ x cv) :
  cX C o d a w σ st x:=
 .iN hr ⟨.refl _ _ _,h,fun _ _=>CB (.inl hx) hv,fun _ _ _ _ e=>by subst e;simp [AV.copy] at hx⟩
theorem cX.wg{x:AV}{cv:Value}(h:ad C st a w σ)(hr:(Go.execOp a.eval o).run C.P w= .ok (.value cv) w)(hx:∀ t es,x≠.o t es)(hv:∀ dd,SR C w σ st a dd x cv) :
  cX C o d a w σ st x:=
 .iN hr ⟨.refl _ _ _,h,fun dd _=>hv dd,fun _ _ _ _ e=>absurd e (hx _ _)⟩
theorem RO{n:Nat}{x:AV}{v:Value}(hx:∀ t es,x≠.o t es)(hb:A7 x=false)(h:SR C w σ st a n x v):VR w σ.I σ.κ x v:=by
 cases x<;>first | exact h | exact absurd rfl (hx _ _) | (simp [A7] at hb)
theorem NB{n m:Nat}{x:AV}{v:Value}(hx:∀ t es,x≠.o t es)(h:SR C w σ st a n x v):SR C w σ st a m x v:=by
 cases x<;>first | exact h | exact absurd rfl (hx _ _)
theorem iy{d:Nat}{x:AV}{v:Value}(h:VR w σ.I σ.κ x v):SR C w σ st a d x v:=by
 cases x<;>first | exact h | cases h
theorem ad.dR(h:ad C st a w σ){y:Operand}{x:aO}(hl:bh y x=true)(ho:∀ t es,st.ev x≠.o t es)(hb:A7 (st.ev x)=false):VR w σ.I σ.κ (st.ev x) (a.eval y):=by
 cases x with
 | t n=>exact RO ho hb (h.slot hl)
 | c z=>exact h.su hl (cH z (ry hl))
theorem VF{R:Rec}{Ω:cm}{x:aO}{r:AV×St}(h:ad C st a w σ)(hl:aV C.P (.mv x) o.op=true)(he:execOp R Ω C.E st d (.mv x)=some r) :
  cX C o d a w σ r.2 r.1:=by
 obtain ⟨y,hop,hlo⟩:∃ y,o.op= .move y∧bh y x=true:=by
  simp only [aV] at hl;split at hl
  ·rename_i y hy;exact ⟨y,hy,hl⟩
  ·cases hl
 have hr:(Go.execOp a.eval o).run C.P w= .ok (.value (a.eval y)) w:=by unfold Go.execOp;simp [hop]
 simp only [execOp] at he
 cases x with
 | c z=>
  simp only [St.ev] at he
  have hp:=ry hlo
  have hc:z.copy=true:=cH z hp
  have hv:=h.su (x:=.c z) hlo hc
  cases z<;>first | (simp [AV.copy] at hc;done) | skip
  all_goals
   obtain rfl:=Option.some.inj he
   exact .quiet h hr hc hv
 | t n=>
  have hs:=h.slot hlo
  simp only [St.ev] at he
  cases hx:aj st.fr n with
  | o t es=>
   rw [hx] at he
   obtain rfl:=Option.some.inj he
   refine .wg h hr (fun _ _ e=>by cases e) fun dd=>?_
   intro _
   rw [yp hlo];rfl
  | _=>
   rw [hx] at he hs
   obtain rfl:=Option.some.inj he
   exact .wg h hr (fun _ _ e=>by cases e) fun dd=>NB (fun _ _ e=>by cases e) hs
theorem VG{R:Rec}{Ω:cm}{c x y:aO}{r:AV×St}(h:ad C st a w σ)(hl:aV C.P (.pk c x y) o.op=true)(he:execOp R Ω C.E st d (.pk c x y)=some r) :
  cX C o d a w σ r.2 r.1:=by
 obtain ⟨c',x',y',hop,hc,hx,hy⟩:∃ c' x' y',o.op= .pick c' x' y'∧bh c' c=true∧bh x' x=true∧bh y' y=true:=by
  simp only [aV] at hl;split at hl
  ·rename_i c' x' y' hy
   simp only [Bool.and_eq_true] at hl
   exact ⟨c',x',y',hy,hl.1.1,hl.1.2,hl.2⟩
  ·cases hl
 simp only [execOp] at he
 obtain ⟨z,hz,he⟩:=Option.bind_eq_some_iff.1 he
 have hcb:st.ev c= .b z:=by
  cases hcc:st.ev c<;>rw [hcc] at hz<;>simp [pK] at hz
  rw [hz]
 have hce:a.eval c'= .bool z:=by
  have:=h.su hc (by rw [hcb];rfl)
  rw [hcb] at this
  exact this.rf
 have hr:(Go.execOp a.eval o).run C.P w= .ok (.value (if z=true then a.eval x' else a.eval y')) w:=by unfold Go.execOp;simp [hop,hce,asBool]
 cases z with
 | true=>
  simp only [if_true] at he hr
  split at he
  ·rename_i hcp
   obtain rfl:=Option.some.inj he
   exact .quiet h hr hcp (h.su hx hcp)
  ·cases he
 | false=>
  simp only [if_false,Bool.false_eq_true] at he hr
  split at he
  ·rename_i hcp
   obtain rfl:=Option.some.inj he
   exact .quiet h hr hcp (h.su hy hcp)
  ·cases he
theorem VH{R:Rec}{Ω:cm}{x:aO}{r:AV×St}(h:ad C st a w σ)(hl:aV C.P (.no x) o.op=true)(he:execOp R Ω C.E st d (.no x)=some r) :
  cX C o d a w σ r.2 r.1:=by
 obtain ⟨t,y,hop,hlo⟩:∃ t y,o.op= .unOp .not t y∧bh y x=true:=by
  simp only [aV] at hl;split at hl
  ·rename_i t y hy;exact ⟨t,y,hy,hl⟩
  ·cases hl
 simp only [execOp] at he
 obtain ⟨z,hz,he⟩:=Option.bind_eq_some_iff.1 he
 have hcb:st.ev x= .b z:=by
  cases hcc:st.ev x<;>rw [hcc] at hz<;>simp [pK] at hz
  rw [hz]
 have hce:a.eval y= .bool z:=by
  have:=h.su hlo (by rw [hcb];rfl)
  rw [hcb] at this
  exact this.rf
 obtain rfl:=Option.some.inj he
 exact .quiet h (cv:=.bool (!z)) (by unfold Go.execOp;simp [hop,hce,Op.unary]) rfl (.b _)
theorem VI{R:Rec}{Ω:cm}{x:aO}{i:Nat}{r:AV×St}(h:ad C st a w σ)(hl:aV C.P (.ex x i) o.op=true)(he:execOp R Ω C.E st d (.ex x i)=some r) :
  cX C o d a w σ r.2 r.1:=by
 obtain ⟨y,hop,hlo⟩:∃ y,o.op= .extract y i∧bh y x=true:=by
  simp only [aV] at hl;split at hl
  ·rename_i y i' hy
   simp only [Bool.and_eq_true,beq_iff_eq] at hl
   exact ⟨y,by rw [hy,hl.2],hl.1⟩
  ·cases hl
 simp only [execOp] at he
 split at he
 ·rename_i vs hx
  obtain ⟨z,hz,he⟩:=Option.bind_eq_some_iff.1 he
  obtain rfl:=Option.some.inj he
  obtain ⟨us,hu,hlen,hc⟩:=(hx▸h.dR hlo (by rw [hx];simp) (by rw [hx];rfl)).VD
  have hv:=hc i z hz
  have hi:i<us.size:=by
   rcases Nat.lt_or_ge i vs.length with h1 | h1
   ·omega
   ·simp [h1] at hz
  have hr:(Go.execOp a.eval o).run C.P w= .ok (.value us[i]) w:=by unfold Go.execOp;simp [hop,hu,Instr.extract,hi]
  simp only [hi,Array.getD_eq_getD_getElem?,getElem?_pos,Option.getD_some] at hv
  exact .iN hr ⟨.refl _ _ _,h,fun _ _=>iy hv,fun _ _ _ _ e=>by subst e;cases hv⟩
 ·cases he
theorem FQ:∀ {ys:List Operand}{xs:List aO},ee ys xs=true→ys.length=xs.length∧∀ (m:Nat) x,xs[m]? =some x→∃ y,ys[m]? =some y∧bh y x=true
 | [],[],_=>⟨rfl,fun m x hx=>by simp at hx⟩
 | y::ys,x::xs,h=>by
  obtain ⟨h1,h2⟩:bh y x=true∧ee ys xs=true:=by simpa [ee] using h
  obtain ⟨hl,hm⟩:=FQ h2
  refine ⟨by simp [hl],fun m z hz=>?_⟩
  cases m with
  | zero=>
   have e:x=z:=by simpa using hz
   exact ⟨y,rfl,e▸h1⟩
  | succ m=>simpa using hm m z (by simpa using hz)
 | [],_::_,h=>by simp [ee] at h
 | _::_,[],h=>by simp [ee] at h
theorem VJ{R:Rec}{Ω:cm}{f:FuncId}{xs:List aO}{r:AV×St}(h:ad C st a w σ)(hl:aV C.P (.mf f xs) o.op=true)(he:execOp R Ω C.E st d (.mf f xs)=some r) :
  cX C o d a w σ r.2 r.1:=by
 obtain ⟨ys,hop,hlo⟩:∃ ys,(o.op= .makeFunc (.func f) #[] ys∧f<1000000∨∃ g,f=1000000+g∧o.op= .makeFunc (.func g) ys #[])∧ee ys.toList xs=true:=by
  simp only [aV] at hl;split at hl
  ·rename_i f' first ys hy
   simp only [Bool.or_eq_true,Bool.and_eq_true,beq_iff_eq,decide_eq_true_eq] at hl
   rcases hl with hl | hl
   ·refine ⟨ys,.inl ⟨?_,by rw [hl.1.1.1];exact hl.1.1.2⟩,hl.2⟩
    rw [hy,hl.1.1.1]
    congr 1
    simpa using hl.1.2
   ·refine ⟨first,.inr ⟨f',hl.1.1,?_⟩,hl.2⟩
    rw [hy]
    congr 1
    simpa using hl.1.2
  ·cases hl
 obtain ⟨hlen,hm⟩:=FQ hlo
 simp only [execOp] at he
 split at he
 ·rename_i hcp
  obtain rfl:=Option.some.inj he
  have key:∀ (m:Nat)(c:AV),(xs.map st.ev)[m]? =some c→VR w σ.I σ.κ c ((ys.map a.eval).getD m undef):=fun m c hc'=>by
   rw [List.getElem?_map] at hc'
   obtain ⟨x,hx,rfl⟩:=Option.map_eq_some_iff.1 hc'
   obtain ⟨y,hy,hxy⟩:=hm m x hx
   have hv:=h.su hxy (wD hcp _ (List.mem_map.2 ⟨x,List.mem_of_getElem? hx,rfl⟩))
   have hy':ys[m]? =some y:=by simpa using hy
   simpa [hy'] using hv
  rcases hop with ⟨hop,hg⟩ | ⟨g,rfl,hop⟩
  ·exact .quiet h (cv:=.func (.func f) #[] (ys.map a.eval)) (by unfold Go.execOp;simp [hop,Instr.makeFunc]) (by simpa [AV.copy] using hcp) (.f f _ _ hg (by simpa using hlen.symm) key)
  ·exact .quiet h (cv:=.func (.func g) (ys.map a.eval) #[]) (by unfold Go.execOp;simp [hop,Instr.makeFunc]) (by simpa [AV.copy] using hcp) (.fm g _ _ (by simpa using hlen.symm) key)
 ·cases he
theorem VK{R:Rec}{Ω:cm}{x:aO}{r:AV×St}(h:ad C st a w σ)(hl:aV C.P (.nc x) o.op=true)(he:execOp R Ω C.E st d (.nc x)=some r) :
  cX C o d a w σ r.2 r.1:=by
 obtain ⟨y,hop,hlo⟩:∃ y,o.op= .nilCheck y∧bh y x=true:=by
  simp only [aV] at hl;split at hl
  ·rename_i y hy;exact ⟨y,hy,hl⟩
  ·cases hl
 simp only [execOp] at he
 split at he
 ·rename_i k off hx
  obtain rfl:=Option.some.inj he
  have hv:=(hx▸h.dR hlo (by rw [hx];simp) (by rw [hx];rfl))
  exact .quiet h (cv:=a.eval y) (by unfold Go.execOp;simp [hop,hv.uY]) rfl hv
 ·rename_i z off hx
  obtain rfl:=Option.some.inj he
  have hv:=(hx▸h.dR hlo (by rw [hx];simp) (by rw [hx];rfl))
  obtain ⟨g,o',cs,T,fz,hvv,_⟩:=hv.GL
  exact .quiet h (cv:=a.eval y) (by unfold Go.execOp;simp [hop,hvv]) rfl hv
 ·cases he
 ·rename_i g caps hx
  obtain rfl:=Option.some.inj he
  have hv:=(hx▸h.dR hlo (by rw [hx];simp) (by rw [hx];rfl))
  obtain ⟨vs,hvv,_⟩:=hv.EX
  exact .iN (cv:=a.eval y) (by unfold Go.execOp;rcases hvv with ⟨_,hvv⟩ | ⟨_,hvv⟩<;>simp [hop,hvv]) ⟨.refl _ _ _,h,fun _ _=>iy hv,fun _ _ _ _ e=>by cases e⟩
 ·cases he
end
variable [aY]
section
variable {C:Cx}{st:St}{a:Act}{w:World}{σ:Sp}{o:Oper}{d:Option Nat}{R:Rec}{Ω:cm}{r:AV×St}
theorem xw{P:Program}{t:TypeId}{i:Nat}{f:Field}(h:rG P t i=some f):∃ fs,P.underlying t=some (.struct fs)∧fs[i]? =some f:=by
 unfold rG at h
 split at h
 ·rename_i fs hu;exact ⟨fs,hu,h⟩
 ·cases h
theorem Jw{P:Program}{s:TypeId}{i:Nat}{f:Field}(h:rG P s i=some f)(hi:(P.info? f.type).isSome=true)(hp:0<P.cellsOf f.type)(g b:Nat)(w:World) :
  (Instr.fieldAt s (.pointer (some ⟨g,b,none⟩)) i).run P w= .ok (.pointer (some ⟨g,b+f.offset,none⟩)) w:=by
 obtain ⟨fs,hu,hf⟩:=xw h
 have hne:¬P.cellsOf f.type=0:=by omega
 simp [Instr.fieldAt,run_underlying hu,hf,Instr.sureAddr,fieldPlace,iw hi,hne,add_lit]
theorem ad.y4(h:ad C st a w σ){pl:Pl}{t:TypeId}{es:List AV}(hr:st.rowAt C.E.dp pl=some (t,es))(hne:es≠[]) :
  ∃ g cap cs,dQ w σ a pl= .slice (some ⟨g,0,none⟩) es.length cap∧dT C.P C.W w σ (pl.nS C.E.dp) (pl.fK C.E=true) t es g cap cs:=by
 rcases h.row hr with ⟨h1,_⟩ | h1
 ·exact absurd h1 hne
 ·exact h1
theorem ad.DV(h:ad C st a w σ){pl:Pl}{t:TypeId}{es:List AV}(hr:st.rowAt C.E.dp pl=some (t,es)) :
  ∃ A cap,dQ w σ a pl= .slice A es.length cap∧es.length≤cap:=by
 rcases h.row hr with ⟨rfl,h2⟩ | ⟨g,cap,cs,hv,hr⟩
 ·exact ⟨_,_,h2,Nat.le_refl _⟩
 ·exact ⟨_,_,hv,hr.ecap⟩
theorem cS{x:aO}{y:AV}(h:st.ev x=y)(hp:y.pure=false){op:Operand}(hl:bh op x=true):∃ n,x= .t n∧aj st.fr n=y:=by
 cases x with
 | t n=>exact ⟨n,rfl,h⟩
 | c z=>
  have:=ry hl
  simp only [St.ev] at h
  rw [h,hp] at this
  cases this
theorem VL{off:Nat}{x:aO}(h:ad C st a w σ)(hl:aV C.P (.fa off x) o.op=true)(he:execOp R Ω C.E st d (.fa off x)=some r) :
  cX C o d a w σ r.2 r.1:=by
 obtain ⟨s,y,i,f,hop,hlo,hf,rfl,hi,hp⟩:∃ s y i f,o.op= .fieldAddr s y i∧bh y x=true∧rG C.P s i=some f∧f.offset=off∧(C.P.info? f.type).isSome=true∧0<C.P.cellsOf f.type:=by
  simp only [aV] at hl;split at hl
  ·rename_i s y i hy
   simp only [Bool.and_eq_true] at hl
   obtain ⟨h1,h2⟩:=hl
   split at h2
   ·rename_i f hf
    simp only [Bool.and_eq_true,beq_iff_eq,decide_eq_true_eq] at h2
    exact ⟨s,y,i,f,hy,h1,hf,h2.1.1,h2.1.2,h2.2⟩
   ·cases h2
  ·cases hl
 have hrun:∀ g b,a.eval y= .pointer (some ⟨g,b,none⟩)→(Go.execOp a.eval o).run C.P w= .ok (.value (.pointer (some ⟨g,b+f.offset,none⟩))) w:=by
  intro g b hv
  unfold Go.execOp
  simp [hop,hv,Jw hf hi hp]
 simp only [execOp] at he
 split at he
 ·rename_i k b hx
  obtain rfl:=Option.some.inj he
  have hv:=(hx▸h.dR hlo (by rw [hx];simp) (by rw [hx];rfl)).uY
  exact .quiet h (hrun _ _ hv) rfl (.p _ _)
 ·rename_i z b hx
  obtain rfl:=Option.some.inj he
  obtain ⟨g,b',cs,T,fz,hv,hI,hh,hpu,hs,h1,hc⟩:=(hx▸h.dR hlo (by rw [hx];simp) (by rw [hx];rfl)).GL
  exact .quiet h (by rw [hrun _ _ hv,Nat.add_assoc]) rfl (.e z _ g b' cs T fz hI hh hpu hs h1 hc)
 ·rename_i pl j sz b hx
  obtain ⟨⟨t,es⟩,hrow,he⟩:=Option.bind_eq_some_iff.1 he
  split at he
  ·rename_i hlt
   obtain rfl:=Option.some.inj he
   obtain ⟨n,rfl,hn⟩:=cS hx rfl hlo
   have hs:=hn▸h.slot hlo
   obtain ⟨g,n',cap,hpv,hv⟩:=hs t es hrow hlt
   refine .wg h (hrun _ _ hv) (fun _ _ e=>by cases e) fun dd=>?_
   intro t' es' ht' hl'
   exact ⟨g,n',cap,hpv,by rw [Nat.add_assoc]⟩
  ·cases he
 ·cases he
theorem VM{n:Option Nat}{off:Nat}{x:aO}(h:ad C st a w σ)(hl:aV C.P (.fd n off x) o.op=true)(he:execOp R Ω C.E st d (.fd n off x)=some r) :
  cX C o d a w σ r.2 r.1:=by
 obtain ⟨s,y,i,f,hop,hlo,hf,rfl,hn⟩:∃ s y i f,o.op= .field s y i∧bh y x=true∧rG C.P s i=some f∧f.offset=off∧qv C.P f.type n=true:=by
  simp only [aV] at hl;split at hl
  ·rename_i s y i hy
   simp only [Bool.and_eq_true] at hl
   obtain ⟨h1,h2⟩:=hl
   split at h2
   ·rename_i f hf
    simp only [Bool.and_eq_true,beq_iff_eq] at h2
    exact ⟨s,y,i,f,hy,h1,hf,h2.1,h2.2⟩
   ·cases h2
  ·cases hl
 obtain ⟨fs,hu,hfi⟩:=xw hf
 simp only [execOp] at he
 split at he
 ·rename_i cs hx
  obtain ⟨z,hz,he⟩:=Option.bind_eq_some_iff.1 he
  obtain rfl:=Option.some.inj he
  obtain ⟨vs,hv,hlen,h1,hc⟩:=(hx▸h.dR hlo (by rw [hx];simp) (by rw [hx];rfl)).QU
  cases n with
  | none=>
   obtain ⟨hag,_⟩:wc C.P f.type=some false∧C.P.cellsOf f.type=1:=by simpa [qv] using hn
   have hz':cs[f.offset]? =some z:=hz
   have hlt:f.offset<vs.size:=by
    rcases Nat.lt_or_ge f.offset cs.length with h2 | h2
    ·omega
    ·simp [h2] at hz'
   have hvr:=hc f.offset z hz'
   simp only [Array.getD_eq_getD_getElem?,hlt,getElem?_pos,Option.getD_some] at hvr
   refine .iN (cv:=vs[f.offset]) ?_ ⟨.refl _ _ _,h,fun _ _=>iy hvr,fun _ _ _ _ e=>by subst e;cases hvr⟩
   unfold Go.execOp
   simp [hop,hv,Instr.field,run_underlying hu,hfi,asAgg,part,oP hag,hlt]
  | some m=>
   obtain ⟨⟨hag,hi⟩,hm⟩:(wc C.P f.type=some true∧(C.P.info? f.type).isSome=true)∧C.P.cellsOf f.type=m:=by simpa [qv] using hn
   simp only [pick] at hz
   split at hz
   ·rename_i hle
    have hz':z= .a ((cs.drop f.offset).take m):=by simpa using hz.symm
    subst hz'
    have hvr:VR w σ.I σ.κ (.a ((cs.drop f.offset).take m)) (.agg (vs.extract f.offset (f.offset+m))):=by
     refine .a _ _ ?_ (fun c hc'=>h1 c (List.mem_of_mem_drop (List.mem_of_mem_take hc'))) fun j c hj=>?_
     ·simp;omega
     ·have hjm:j<m:=by
       rcases Nat.lt_or_ge j m with h2 | h2
       ·exact h2
       ·simp [List.getElem?_take,Nat.not_lt.2 h2] at hj
      rw [List.getElem?_take,if_pos hjm,List.getElem?_drop] at hj
      have hvv:=hc (f.offset+j) c hj
      have e1:f.offset+j<vs.size:=by omega
      have e2:j<min (f.offset+m) vs.size - f.offset:=by omega
      simpa [Array.getD_eq_getD_getElem?,Array.getElem?_extract,e1,e2] using hvv
    refine .iN (cv:=.agg (vs.extract f.offset (f.offset+m))) ?_ ⟨.refl _ _ _,h,fun _ _=>iy hvr,fun _ _ _ _ e=>by cases e⟩
    unfold Go.execOp
    simp [hop,hv,Instr.field,run_underlying hu,hfi,asAgg,part,oP hag,iw hi,hm]
   ·cases hz
 ·cases he
theorem NC{n:Option Nat}{x:aO}(h:ad C st a w σ)(hl:aV C.P (.ld n x) o.op=true)(he:execOp R Ω C.E st d (.ld n x)=some r) :
  cX C o d a w σ r.2 r.1:=by
 obtain ⟨t,y,hop,hlo,hn⟩:∃ t y,o.op= .load t y∧bh y x=true∧qv C.P t n=true:=by
  simp only [aV] at hl;split at hl
  ·rename_i t y hy
   simp only [Bool.and_eq_true] at hl
   exact ⟨t,y,hy,hl.1,hl.2⟩
  ·cases hl
 have hrun:∀ g b v,a.eval y= .pointer (some ⟨g,b,none⟩)→(loadVar t ⟨g,b,none⟩).run C.P w= .ok v w→(Go.execOp a.eval o).run C.P w= .ok (.value v) w:=by
  intro g b v hv hr
  unfold Go.execOp
  simp [hop,hv,Instr.loadAt,Instr.sureAddr,hr]
 simp only [execOp] at he
 split at he
 ·rename_i k b hx
  obtain ⟨cs,hbx,he⟩:=Option.bind_eq_some_iff.1 he
  obtain ⟨z,hz,he⟩:=Option.bind_eq_some_iff.1 he
  have hv:=(hx▸h.dR hlo (by rw [hx];simp) (by rw [hx];rfl)).uY
  obtain ⟨vs,T,hB⟩:=h.bx k cs hbx
  have hgen:z.copy=true→r=(z,st)→cX C o d a w σ r.2 r.1:=by
   intro hcp hre
   subst hre
   obtain ⟨v,hr,hvr⟩:=wX (P:=C.P) (I:=σ.I) (κ:=σ.κ) (b:=0) hB.hh (by have:=hB.size;omega) (fun off c hc hcc=>by
     have:=hB.cell off c hc
     rw [Nat.zero_add]
     cases c<;>first | exact this | (simp [AV.copy] at hcc)) (fun c hc hcc=>(hB.one c hc).resolve_right (fun e=>by subst e;simp [AV.copy] at hcc)) hcp hz hn
   rw [Nat.zero_add] at hr
   exact .quiet h (hrun _ _ _ hv hr) hcp hvr
  split at he
  ·rename_i t' es
   obtain rfl:=Option.some.inj he
   cases n with
   | none=>
    obtain ⟨hag,_⟩:wc C.P t=some false∧C.P.cellsOf t=1:=by simpa [qv] using hn
    have hz':cs[b]? =some (.o t' es):=hz
    have hlt:b<vs.size:=by
     refine Nat.lt_of_lt_of_le ?_ hB.size
     rcases Nat.lt_or_ge b cs.length with h2 | h2
     ·exact h2
     ·simp [h2] at hz'
    have hc:w.cell? ⟨σ.κ k,b,none⟩=some vs[b]:=by rw [s0 hB.hh];simp [hlt]
    refine .wg h (hrun _ _ vs[b] hv ?_) (fun _ _ e=>by cases e) fun dd _=>?_
    ·unfold loadVar
     simp [oP hag w,hc]
    ·simp [dQ,hB.hh,hlt]
   | some m=>
    simp only [pick] at hz
    split at hz<;>simp at hz
  ·split at he
   ·rename_i hcp
    exact hgen hcp (Option.some.inj he).symm
   ·cases he
 ·rename_i z b hx
  obtain ⟨y',hz,he⟩:=Option.bind_eq_some_iff.1 he
  obtain rfl:=Option.some.inj he
  obtain ⟨g,b',cs,T,fz,hv,hI,hh,hpu,hs,h1,hc⟩:=(hx▸h.dR hlo (by rw [hx];simp) (by rw [hx];rfl)).GL
  have hcp:y'.copy=true:=by
   cases n with
   | none=>exact cH _ (iQ hpu y' (List.mem_of_getElem? hz))
   | some m=>
    simp only [pick] at hz
    split at hz
    ·have hz':y'= .a ((z.cl.drop b).take m):=by simpa using hz.symm
     subst hz'
     exact cH _ (ib fun c hc'=>iQ hpu c (List.mem_of_mem_drop (List.mem_of_mem_take hc')))
    ·cases hz
  obtain ⟨v,hr,hvr⟩:=wX (P:=C.P) (I:=σ.I) (κ:=σ.κ) (b:=b') hh hs (fun off c hc' _=>hc off c hc') (fun c hc' _=>h1 c hc') hcp hz hn
  exact .quiet h (hrun _ _ _ hv hr) hcp hvr
 ·rename_i pl i sz b hx
  obtain ⟨⟨t',es⟩,hrow,he⟩:=Option.bind_eq_some_iff.1 he
  obtain ⟨e,hee,he⟩:=Option.bind_eq_some_iff.1 he
  split at he
  ·rename_i hnc
   obtain ⟨y',hz,he⟩:=Option.bind_eq_some_iff.1 he
   obtain rfl:=Option.some.inj he
   have hlt:i<es.length:=by
    rcases Nat.lt_or_ge i es.length with h2 | h2
    ·exact h2
    ·simp [h2] at hee
   obtain ⟨m,rfl,hm⟩:=cS hx rfl hlo
   obtain ⟨g,n',cap,hpv,hv⟩:=(hm▸h.slot hlo) t' es hrow hlt
   obtain ⟨g',cap',cs,hpv',hR⟩:=h.y4 hrow (fun e=>by subst e;simp at hlt)
   obtain ⟨rfl,rfl,rfl⟩:g=g'∧n'=es.length∧cap=cap':=by
    rw [hpv] at hpv';simpa using hpv'
   have hem:=List.mem_of_getElem? hee
   have hszz:sz=C.P.cellsOf t':=hnc.symm.trans (hR.nc e hem)
   have hpu:=hR.pure e hem
   have hcp:y'.copy=true:=by
    cases n with
    | none=>exact cH _ (iQ hpu y' (List.mem_of_getElem? hz))
    | some m=>
     simp only [pick] at hz
     split at hz
     ·have hz':y'= .a ((e.cl.drop b).take m):=by simpa using hz.symm
      subst hz'
      exact cH _ (ib fun c hc'=>iQ hpu c (List.mem_of_mem_drop (List.mem_of_mem_take hc')))
     ·cases hz
   have hbound:i*sz+e.cl.length≤cs.size:=by
    have h3:e.cl.length=sz:=hnc
    rw [hR.size,h3,←hszz]
    have:(i+1)*sz≤cap*sz:=Nat.mul_le_mul_right _ (by have:=hR.ecap;omega)
    rw [Nat.add_mul] at this
    omega
   obtain ⟨v,hr,hvr⟩:=wX (P:=C.P) (I:=σ.I) (κ:=σ.κ) (b:=i*sz) hR.hh hbound (fun off c hc' _=>by have:=hR.cell i e off c hee hc';rwa [←hszz] at this)
    (fun c hc' _=>hR.one e hem c hc') hcp hz hn
   exact .quiet h (hrun _ _ _ hv hr) hcp hvr
  ·cases he
 ·cases he
end
end Go.Proofs.YtkkkkondjclcnaaGreat.A
