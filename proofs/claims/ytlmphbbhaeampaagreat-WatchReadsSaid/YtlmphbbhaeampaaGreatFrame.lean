/- From the abstract run of a law to its row: what the arguments read as, lies in the model as plain values; what never changes reads as it did. -/
import Derived.Test.YtlmphbbhaeampaaGreatAbsG
import Derived.Test.YtlmphbbhaeampaaGreatAbsQ
import Derived.Test.YtlmphbbhaeampaaGreatRows
import Derived.WalkKit
import Derived.ProofKit
import Derived.OpenShut
import Derived.JoinedCond
set_option linter.all false
namespace Go.Proofs.YtlmphbbhaeampaaGreat.A
open Go Go.ChangeShapes Go.WideShapes Go.ChangeAt Go.RowKit
def wQ(P:Program)(S:List TypeId):Bool:=S.all fun t=>match P.underlying t with
 | some .bool=>true
 | some (.int _)=>true
 | some .string=>true
 | some (.slice e)=>decide (0<P.cellsOf e)&&S.contains e
 | some (.struct fs)=>fs.toList.all fun f=>S.contains f.type
 | _=>false
mutual
def AV.EJ:AV→Nat
 | .s ys=>ys.length+1
 | .l _ es=>AV.jw es+1
 | .a cs=>AV.jw cs
 | .i _ _=>1
 | .b _=>1
 | _=>0
def AV.jw:List AV→Nat
 | []=>0
 | x::xs=>AV.EJ x+AV.jw xs
end
theorem zm:∀ (l m:List AV),AV.jw (l++m)=AV.jw l+AV.jw m
 | [],m=>by simp [AV.jw]
 | x::l,m=>by simp only [eZ,AV.jw,zm l m];omega
theorem WE(x:AV):AV.EJ x=AV.jw x.cl:=by
 cases x<;>simp [AV.cl,AV.jw,AV.EJ]
theorem BU{H:Type} : ∀ (l m:List (DataW H)),Rows.uptoBulkAll (l++m)=Rows.uptoBulkAll l+Rows.uptoBulkAll m
 | [],m=>by simp [Rows.uptoBulkAll]
 | x::l,m=>by simp only [eZ,Rows.uptoBulkAll,BU l m];omega
theorem GN{α β:Type}{f:α→Option β} : ∀ {l:List α}{ys:List β},l.mapM f=some ys→ys.length=l.length∧∀ (i:Nat)(a:α),l[i]? =some a→∃ y,f a=some y∧ys[i]? =some y
 | [],ys,h=>by
  grind
 | x::l,ys,h=>by
  simp only [wi,DG,aj] at h
  obtain ⟨y,h1,zs,h2,h3⟩:=h
  obtain rfl:y::zs=ys:=ah h3
  obtain ⟨h4,h5⟩:=GN h2
  grind
theorem wR{α β:Type}{f g:α→Option β} : ∀ {l:List α}{ys:List β},l.mapM f=some ys→(∀ a∈l,∀ y∈ys,f a=some y→g a=some y)→l.mapM g=some ys
 | [],ys,h,_=>by simpa using h
 | x::l,ys,h,hg=>by
  simp only [wi,DG,aj] at h ⊢
  obtain ⟨y,h1,zs,h2,h3⟩:=h
  obtain rfl:y::zs=ys:=ah h3
  exact ⟨y,hg x (by simp) y (by simp) h1,zs,wR h2 (by grind),rfl⟩
section
variable {H:Type}{enc:TypeId×Value→H}{P:Program}{W W':World}
theorem UO(hk:∀ b,b<W.heap.size→W'.heap[b]? =W.heap[b]?){a:Addr}{v:Value}(h:W.cell? a=some v):W'.cell? a=some v:=by
 grind [World.cell?]
theorem S9(hk:∀ b,b<W.heap.size→W'.heap[b]? =W.heap[b]?){base:Nat}{a:Addr}{n:Nat}{cs:List Value}(h:W.cells? base a n=some cs):W'.cells? base a n=some cs:=by
 grind [World.cells?,wR,UO]
theorem GO(hk:∀ b,b<W.heap.size→W'.heap[b]? =W.heap[b]?){sp:Nat→Bool}{S:List TypeId}(hS:wQ P S=true):∀ (fuel:Nat)(t:TypeId)(cs:List Value)(x:DataW H×List MemPlace),t∈S→
  DataW.trod enc P W 0 (fun _=>true) true fuel t cs=some x→(∀ p∈x.2,sp p.block=true)→DataW.trod enc P W' 0 sp true fuel t cs=some x
 | 0,_,_,_,_,h,_=>by simp [DataW.trod] at h
 | fuel+1,t,cs,x,ht,h,hs=>by
  have hp:=cI.1 hS t ht
  unfold DataW.trod at h ⊢
  split at hp
  ·grind
  ·grind
  ·grind
  ·rename_i e hu
   rw [hu] at h ⊢
   simp only [aL,eg,List.contains_iff_mem] at hp
   obtain ⟨u,au⟩:=hp
   have ai:∀ (a:Addr)(y:DataW H×List MemPlace),(W.cells? 0 a (P.cellsOf e)).bind (DataW.trod enc P W 0 (fun _=>true) true fuel e)=some y→(∀ p∈y.2,sp p.block=true)→
     (W'.cells? 0 a (P.cellsOf e)).bind (DataW.trod enc P W' 0 sp true fuel e)=some y:=by
    intro a y hy ap
    obtain ⟨ds,h1,h2⟩:=aj.1 hy
    exact aj.2 ⟨ds,S9 hk h1,GO hk hS fuel e ds y au h2 ap⟩
   split at h
   all_goals first | (exfalso;simp_all;done) | skip
   ·exact h
   ·rename_i a len cap heq
    obtain rfl:=TypeDesc.slice.inj (ah heq)
    dsimp only at h ⊢
    split at h
    ·rename_i hc
     rw [af hc]
     obtain ⟨elems,h1,h2⟩:=aj.1 h
     simp only [aA,ew] at h2
     obtain ⟨rest,h3,rfl⟩:=h2
     have aJ:∀ y∈elems++rest,∀ p∈y.2,sp p.block=true:=by grind
     refine aj.2 ⟨elems,by grind [wR],?_⟩
     refine ew.2 ⟨rest,?_,rfl⟩
     cases aq:sp a.block with
     | true=>
      grind [wR]
     | false=>
      have hz:elems.length+rest.length=0:=by
       apply Classical.byContradiction
       intro aK
       have:0<(elems.length+rest.length)*P.cellsOf e:=Nat.mul_pos (by omega) u
       have:=hs (.cell a.block (a.off+0)) (by
        simp_all [MemPlace.row])
       rw [show (MemPlace.cell a.block (a.off+0)).block=a.block from rfl,aq] at this
       cases this
      simp_all
    ·cases h
  ·rename_i fs hu
   rw [hu] at h ⊢
   have aO:∀ {cs:List Value},(if cs.length=P.cellsOf t then (fs.toList.mapM fun f=>DataW.trod enc P W 0 (fun _=>true) true fuel f.type ((cs.drop f.offset).take (P.cellsOf f.type))).map fun xs=>(DataW.agg (xs.map (·.1)),xs.flatMap (·.2)) else none)=some x→
     (if cs.length=P.cellsOf t then (fs.toList.mapM fun f=>DataW.trod enc P W' 0 sp true fuel f.type ((cs.drop f.offset).take (P.cellsOf f.type))).map fun xs=>(DataW.agg (xs.map (·.1)),xs.flatMap (·.2)) else none)=some x:=by
    intro cs h
    split at h
    ·rename_i hl
     rw [af hl]
     obtain ⟨xs,h1,rfl⟩:=ew.1 h
     refine ew.2 ⟨xs,wR h1 fun f hf y hy aB=>?_,rfl⟩
     exact GO hk hS fuel f.type _ y (by grind) aB (by grind)
    ·cases h
   grind
  ·cases hp
theorem FM(hk:∀ b,b<W.heap.size→W'.heap[b]? =W.heap[b]?){sp:Nat→Bool}{S:List TypeId}(hS:wQ P S=true):∀ {ts:List TypeId}{vs:List Value}{ds:List (DataW H)}{ps:List MemPlace},(∀ t∈ts,t∈S)→
  DataW.TrodAll enc P W 0 (fun _=>true) true ts vs ds ps→(∀ p∈ps,sp p.block=true)→DataW.TrodAll enc P W' 0 sp true ts vs ds ps
 | [],[],[],_,_,h,_=>h
 | _::_,_::_,_::_,_,hT,⟨p,q,⟨m,h1⟩,h2,e⟩,hs=>⟨p,q,⟨m,by grind [GO]⟩,FM hk hS (fun t ht=>hT t (by simp [ht])) h2 ((by grind)),e⟩
theorem UP(hk:∀ b,b<W.heap.size→W'.heap[b]? =W.heap[b]?)(K:W'.os=W.os∧W'.output=W.output)(may:MemPlace→Prop):W.keptBut W' may:=by
 refine ⟨K.1,K.2,fun i hi=>?_⟩
 grind
theorem On{f:Func}{s:ChangeSpec}{apart fresh handsOn again:Bool}{args:Array Value}{ds gs:List (DataW H)}{before:List MemPlace}{S:List TypeId}{tb:TypeId}(hS:wQ P S=true)
  (hW:DataW.Whole enc P f.params.toList s.vars apart W args.toList ds gs before) (hv:s.vars=[])
  (hr:f.resultTypes=#[tb]) (aa:P.underlying tb=some .bool) (aD:s.fn H ds={results:=[.lit (.bool true)],args:=ds}) (hp:∀ t∈f.params.toList,t∈S)
  (hk:∀ b,b<W.heap.size→W'.heap[b]? =W.heap[b]?) (K:W'.os=W.os∧W'.output=W.output) :
  s.post enc P f apart fresh handsOn again W args (.bool true) W':=by
 have hold:∀ p∈before,(fun b=>decide (b<W.heap.size)) p.block=true:=fun p hp=>by simpa using hW.lt p hp
 have ad:∀ p∈before,p.block<W.heap.size:=fun p hp=>hW.lt p hp
 have Y:=hW
 obtain ⟨p,q,hA,hV,rfl,hz,hn⟩:=hW
 rw [hv] at hV
 obtain ⟨rfl,rfl⟩:=trodVars_none hV
 have aR:∀ sp,DataW.TrodVars enc P W' sp s.vars [] []:=fun sp=>by rw [hv];rfl
 have ar:∀ (b:Nat)(sp:Nat→Bool)(hd:Bool),DataW.TrodAll enc P W' b sp hd f.resultTypes.toList ((Value.bool true).resultList f.resultTypes.size) [.lit (.bool true)] []:=by
  intro b sp hd
  rw [hr]
  exact trodAll_cons_mk (shut_bool aa _) trodAll_mk0
 simp only [zE] at hA hold ad hz hn Y
 have ak:∀ sp:Nat→Bool,(∀ x∈p,sp x.block=true)→DataW.TrodAll enc P W' 0 sp true f.params.toList args.toList ds p:=by grind [FM]
 have aC:s.fn H (ds++[])={results:=[.lit (.bool true)],args:=ds}:=by grind
 have C:∀ (b:Nat)(sp:Nat→Bool)(hd:Bool),DataW.TrodAll enc P W' b sp hd f.resultTypes.toList ((Value.bool true).resultList f.resultTypes.size) (s.fn H (ds++[])).results []:=by grind
 have r:∀ sp:Nat→Bool,(∀ x∈p,sp x.block=true)→DataW.TrodAll enc P W' 0 sp true f.params.toList args.toList (s.fn H (ds++[])).args p:=by grind
 have al:∀ sp,DataW.TrodVars enc P W' sp s.vars (s.fn H (ds++[])).vars []:=by grind
 refine ⟨ds,[],p,[],p,[],Y,C _ _ _,r _ hold,al _,UP hk K _,fun _=>?_⟩
 refine ⟨?_,_,_,([]++p)++[],⟨[]++p,[],trodAll_append (r _ fun _ _=>rfl) (C _ _ _),al _,rfl,?_,?_⟩,?_⟩
 ·grind [Value.resultList,okWide_bool_mk]
 ·intro b off av
  have ab:MemPlace.cell b off∈p:=by simpa using av
  have h3:=hz b off ab
  have h4:=ad _ ab
  unfold World.frozen? at h3 ⊢
  have h5:W'.heap[b]? =W.heap[b]? :=hk _ h4
  grind
 ·grind
 grind
variable [cj]
def It(W:World):Prop:=cj.n0=W.heap.size∧∀ t,cj.tg t=true
structure rb(P:Program)(N:Nat)(t:TypeId)(α:Type)(cl:α→List AV)(V:α→Prop):Prop where
 len:∀ a,(cl a).length=P.cellsOf t
 one:∀ a,∀ c∈cl a,c.one=true∧c.pure=true
 dec:∀ (H:Type)(enc:TypeId×Value→H)(W:World)(fuel:Nat)(cs:List Value)(x:DataW H×List MemPlace),fuel≤N→It W→DataW.trod enc P W 0 (fun _=>true) true fuel t cs=some x→
  ∃ a,(V a∧AV.jw (cl a)≤Rows.uptoBulk x.1)∧∀ (i:Nat)(c:AV),(cl a)[i]? =some c→VR W (fun b=>b<W.heap.size) (fun _=>0) c (cs.getD i undef)
theorem Nz{t:TypeId}{α:Type}{cl:α→List AV}{V:α→Prop}(h1:∀ a,(cl a).length=P.cellsOf t)(h2:∀ a,(cl a).all (fun c=>c.one&&c.pure)=true):rb P 0 t α cl V:=
 ⟨h1,by grind,fun _ _ _ fuel _ _ hf _ h=>by
  simp_all [DataW.trod]⟩
theorem jz{N:Nat}{t:TypeId}{k:IntKind}(ht:P.underlying t=some (.int k))(hc:P.cellsOf t=1):rb P N t Int (fun n=>[.i k n]) (fun n=>(Lit.int k n).wf=true):=by
 refine ⟨fun a=>hc.symm,fun a c h=>by obtain rfl:=dS.1 h;exact ⟨rfl,rfl⟩,fun H enc W fuel cs x _ _ h=>?_⟩
 cases fuel with
 | zero=>simp [DataW.trod] at h
 | succ fuel=>
  unfold DataW.trod at h
  rw [ht] at h
  split at h
  all_goals first | (exfalso;simp_all;done) | skip
  rename_i k1 k2 n heq
  obtain rfl:=TypeDesc.int.inj (ah heq)
  split at h
  ·rename_i az
   obtain ⟨rfl,hw⟩:=az
   refine ⟨n,by grind [AV.jw,AV.EJ,Rows.uptoBulk],fun i c hi=>?_⟩
   cases i with
   | zero=>
     obtain rfl:AV.i _ n=c:=by simpa using hi
     exact .i _ n
   | succ i=>simp at hi
  ·cases h
theorem UQ{N:Nat}{t:TypeId}(ht:P.underlying t=some .bool)(hc:P.cellsOf t=1):rb P N t Bool (fun n=>[.b n]) (fun _=>True):=by
 refine ⟨fun a=>hc.symm,fun a c h=>by obtain rfl:=dS.1 h;exact ⟨rfl,rfl⟩,fun H enc W fuel cs x _ _ h=>?_⟩
 cases fuel with
 | zero=>simp [DataW.trod] at h
 | succ fuel=>
  unfold DataW.trod at h
  rw [ht] at h
  split at h
  all_goals first | (exfalso;simp_all;done) | skip
  rename_i b heq
  refine ⟨b,by grind [AV.jw,AV.EJ,Rows.uptoBulk],fun i c hi=>?_⟩
  cases i with
  | zero=>
    obtain rfl:AV.b b=c:=by simpa using hi
    exact .b b
  | succ i=>simp at hi
theorem rb.map{N:Nat}{t:TypeId}{α β:Type}{cl:α→List AV}{cl':β→List AV}{V:α→Prop}{V':β→Prop}(h:rb P N t α cl V)(g:α→β)(g':β→α)(hg:∀ a,cl' (g a)=cl a)(ag:∀ b,cl' b=cl (g' b))(hV:∀ a,V a→V' (g a)):rb P N t β cl' V':=
 ⟨fun b=>by rw [ag];exact h.len _,fun b=>by rw [ag];exact h.one _,fun H enc W fuel cs x hN hb hx=>by
  obtain ⟨a,h1,h2⟩:=h.dec H enc W fuel cs x hN hb hx
  grind⟩
theorem ed{N:Nat}{t e:TypeId}{α:Type}{cl:α→List AV}{V:α→Prop}(f:α→AV)(ht:P.underlying t=some (.slice e))(hc:P.cellsOf t=1)(hd:rb P (N - 1) e α cl V)(hf:∀ a,(f a).cl=cl a∧(f a).nc=P.cellsOf e∧(f a).pure=true)(u:0<P.cellsOf e) :
  rb P N t (List α) (fun l=>[.l e (l.map f)]) (fun l=>l.length≤maxLen∧∀ a∈l,V a):=by
 refine ⟨fun a=>hc.symm,fun a c h=>?_,fun H enc W fuel cs x hN hb h=>?_⟩
 ·obtain rfl:=dS.1 h
  exact ⟨rfl,rfl⟩
 cases fuel with
 | zero=>simp [DataW.trod] at h
 | succ fuel=>
  unfold DataW.trod at h
  rw [ht] at h
  split at h
  all_goals first | (exfalso;simp_all;done) | skip
  ·refine ⟨[],⟨by grind,?_⟩,fun i c hi=>?_⟩
   ·grind [AV.jw,AV.EJ,Rows.uptoBulk]
   cases i with
   | zero=>
     obtain rfl:AV.l e []=c:=by simpa using hi
     exact .lnil e none 0
   | succ i=>simp at hi
  ·rename_i e' a len cap heq
   obtain rfl:=TypeDesc.slice.inj (ah heq)
   dsimp only at h
   split at h
   ·rename_i aP
    obtain ⟨elems,h1,h2⟩:=aj.1 h
    obtain ⟨hl,hg⟩:=GN h1
    rw [List.length_range] at hl
    have ai:∀ i,i<len→∃ y ds z,(V y∧elems[i]? =some z∧AV.jw (cl y)≤Rows.uptoBulk z.1)∧W.cells? 0 (a.add (i*P.cellsOf e)) (P.cellsOf e)=some ds∧∀ (m:Nat)(c:AV),(cl y)[m]? =some c→VR W (fun b=>b<W.heap.size) (fun _=>0) c (ds.getD m undef):=by
     intro i hi
     obtain ⟨y,h3,h4⟩:=hg i i (by grind)
     obtain ⟨ds,h5,h6⟩:=aj.1 h3
     obtain ⟨b,h7,h8⟩:=hd.dec H enc W fuel ds y (by omega) hb h6
     grind
    have G:∀ n,n≤len→∃ l:List α,(l.length=n∧AV.jw (l.map f)≤Rows.uptoBulkAll ((elems.take n).map (·.1)))∧(∀ b∈l,V b)∧∀ i b,l[i]? =some b→∃ ds,W.cells? 0 (a.add (i*P.cellsOf e)) (P.cellsOf e)=some ds∧∀ (m:Nat)(c:AV),(cl b)[m]? =some c→VR W (fun b=>b<W.heap.size) (fun _=>0) c (ds.getD m undef):=by
     intro n
     induction n with
     | zero=>exact fun _=>⟨[],⟨rfl,by simp [AV.jw]⟩,(fun _ h=>by cases h),(fun i b h=>by simp at h)⟩
     | succ n ih=>
      intro hn
      obtain ⟨l,⟨h3,aS⟩,h4,h5⟩:=ih (by omega)
      obtain ⟨y,ds,z,⟨h6,aG,aF⟩,h7,h8⟩:=ai n (by omega)
      refine ⟨l++[y],⟨by simp [h3],?_⟩,fun b hb=>?_,fun i b hi=>?_⟩
      ·grind [zm,List.take_add_one,BU,AV.jw,WE,Rows.uptoBulkAll]
      ·grind
      grind
    obtain ⟨l,⟨ax,aM⟩,hV,M⟩:=G len (aY _)
    refine ⟨l,⟨⟨by omega,hV⟩,?_⟩,fun i c hi=>?_⟩
    ·grind [Option.map_eq_some_iff,AV.jw,AV.EJ,Rows.uptoBulk]
    cases i with
    | succ i=>simp at hi
    | zero=>
     obtain rfl:AV.l e (l.map f)=c:=by simpa using hi
     by_cases J:len=0
     ·subst J
      obtain rfl:l=[]:=wm ax
      exact .lnil e (some a) cap
     have E:∀ i,i<len→∀ m,m<P.cellsOf e→∃ v,W.cell? ((a.add (i*P.cellsOf e)).add m)=some v∧∀ b c,l[i]? =some b→(cl b)[m]? =some c→VR W (fun b=>b<W.heap.size) (fun _=>0) c v:=by
      intro i hi m hm
      have ay:i<l.length:=by omega
      obtain ⟨ds,h3,h4⟩:=M i l[i] (aV ay)
      unfold World.cells? at h3
      rw [af (dy _)] at h3
      obtain ⟨h5,h6⟩:=GN h3
      obtain ⟨v,h7,h8⟩:=h6 m m (by grind)
      grind
     obtain ⟨v0,Z,_⟩:=E 0 (by omega) 0 u
     obtain ⟨g,o,ins⟩:=a
     obtain rfl:ins=none:=by
      rw [Nat.zero_mul,show (Addr.mk g o ins).add 0=Addr.mk g o ins from rfl,show (Addr.mk g o ins).add 0=Addr.mk g o ins from rfl] at Z
      exact World.cell?_spot Z
     have aE:∀ o n,(Addr.mk g o none).add n=Addr.mk g (o+n) none:=by
      grind [Addr.add]
     have X:∃ vs T fz,W.heap[g]? =some (.cells vs T fz):=by
      grind [World.cell?]
     obtain ⟨vs,T,fz,hh⟩:=X
     have L:∀ i,i<len→∀ m,m<P.cellsOf e→∃ v,vs[o+i*P.cellsOf e+m]? =some v∧∀ b c,l[i]? =some b→(cl b)[m]? =some c→VR W (fun b=>b<W.heap.size) (fun _=>0) c v:=by
      grind [World.cell?]
     have ae:g<W.heap.size:=by
      grind
     have F:o+len*P.cellsOf e≤vs.size:=by
      obtain ⟨v,h3,_⟩:=L (len - 1) (by omega) (P.cellsOf e - 1) (by omega)
      have h4:=(sP.1 h3).1
      have:(len - 1)*P.cellsOf e+P.cellsOf e=len*P.cellsOf e:=by
       rw [←Nat.succ_mul];congr 1;omega
      omega
     have aH:=VR.l (w:=W) (I:=fun b=>b<W.heap.size) (κ:=fun _=>0) e (l.map f) g o cap vs T fz (P.cellsOf e) ae hh (fun _=>⟨fun h=>absurd ae (by rw [←hb.1];omega),fun _=>hb.2 _⟩) u
      ((by grind)) (by grind)
      ((by grind))
      (fun x hx c hc=>by obtain ⟨y,_,rfl⟩:=iG.1 hx;rw [(hf y).1] at hc;exact (hd.one y c hc).1)
      (by grind) (by omega)
      (fun j x m c hx hc=>by
       rw [nT] at hx
       obtain ⟨y,hy,rfl⟩:=ew.1 hx
       rw [(hf y).1] at hc
       have aN:j<l.length:=(j8.1 hy).1
       have ac:m<(cl y).length:=(j8.1 hc).1
       rw [hd.len] at ac
       obtain ⟨v,h3,h4⟩:=L j (by omega) m ac
       simp_all)
     grind
   ·cases h
structure QA(P:Program)(N:Nat)(off:Nat)(fs:List Field)(α:Type)(cl:α→List AV)(V:α→Prop):Prop where
 len:∀ a,(cl a).length=(fs.map fun f=>P.cellsOf f.type).sum
 one:∀ a,∀ c∈cl a,c.one=true∧c.pure=true
 dec:∀ (H:Type)(enc:TypeId×Value→H)(W:World)(fuel:Nat)(cs:List Value)(xs:List (DataW H×List MemPlace)),fuel≤N→It W→
  (fs.mapM fun f=>DataW.trod enc P W 0 (fun _=>true) true fuel f.type ((cs.drop f.offset).take (P.cellsOf f.type)))=some xs→
  ∃ a,(V a∧AV.jw (cl a)≤Rows.uptoBulkAll (xs.map (·.1)))∧∀ (i:Nat)(c:AV),(cl a)[i]? =some c→VR W (fun b=>b<W.heap.size) (fun _=>0) c (cs.getD (off+i) undef)
theorem pA{N off:Nat} : QA P N off [] Unit (fun _=>[]) (fun _=>True):=⟨fun _=>rfl,(fun _ _ h=>by cases h),fun _ _ _ _ _ _ _ _ _=>⟨(),⟨trivial,dy _⟩,fun i c h=>by simp at h⟩⟩
theorem cK{N off:Nat}{f:Field}{fs:List Field}{α β:Type}{cl:α→List AV}{cl':β→List AV}{V:α→Prop}{V':β→Prop}(aw:f.offset=off)(n:Nat)(hn:P.cellsOf f.type=n)(h:rb P N f.type α cl V)(h':QA P N (off+n) fs β cl' V') :
  QA P N off (f::fs) (α×β) (fun a=>cl a.1++cl' a.2) (fun a=>V a.1∧V' a.2):=by
 subst hn
 refine ⟨fun a=>by simp [h.len,h'.len],fun a c hc=>(eh.1 hc).elim (h.one _ c) (h'.one _ c),fun H enc W fuel cs xs hN hb hx=>?_⟩
 simp only [wi,DG,aj] at hx
 obtain ⟨y,h1,zs,h2,am⟩:=hx
 obtain rfl:y::zs=xs:=ah am
 obtain ⟨a,h3,h4⟩:=h.dec H enc W fuel _ y hN hb h1
 obtain ⟨b,h5,h6⟩:=h'.dec H enc W fuel cs zs hN hb h2
 refine ⟨(a,b),⟨⟨h3.1,h5.1⟩,?_⟩,fun i c hi=>?_⟩
 ·grind [zm,Rows.uptoBulkAll]
 by_cases hl:i<(cl a).length
 ·rw [nW hl] at hi
  have:=h4 i c hi
  rw [h.len] at hl
  grind
 ·rw [wo (Nat.le_of_not_lt hl),h.len] at hi
  rw [h.len] at hl
  grind
theorem l9{N:Nat}{t:TypeId}{fs:Array Field}{α:Type}{cl:α→List AV}{V:α→Prop}(ht:P.underlying t=some (.struct fs))(hc:P.cellsOf t=(fs.toList.map fun f=>P.cellsOf f.type).sum)(h:QA P (N - 1) 0 fs.toList α cl V):rb P N t α cl V:=by
 refine ⟨fun a=>by rw [h.len,hc],h.one,fun H enc W fuel cs x hN hb hx=>?_⟩
 cases fuel with
 | zero=>simp [DataW.trod] at hx
 | succ fuel=>
  have:∃ xs,(fs.toList.mapM fun f=>DataW.trod enc P W 0 (fun _=>true) true fuel f.type ((cs.drop f.offset).take (P.cellsOf f.type)))=some xs∧Rows.uptoBulkAll (xs.map (·.1))≤Rows.uptoBulk x.1:=by
   unfold DataW.trod at hx
   grind [Option.map_eq_some_iff,Rows.uptoBulk]
  obtain ⟨xs,h1,aQ⟩:=this
  obtain ⟨a,h2,h3⟩:=h.dec H enc W fuel cs xs (by omega) hb h1
  grind
def UR(P:Program)(t:TypeId)(α:Type)(e:α→AV)(V:α→Prop):Prop:=
 (∀ a,(e a).pure=true)∧∀ (H:Type)(enc:TypeId×Value→H)(W:World)(v:Value)(d:DataW H)(ps:List MemPlace)(base:Nat),It W→Value.okWide P W .any base t v→DataW.Trod enc P W 0 (fun _=>true) true t v d ps→
  ∃ a,(V a∧AV.EJ (e a)≤Rows.uptoBulk d)∧VR W (fun b=>b<W.heap.size) (fun _=>0) (e a) v
theorem Oo{t:TypeId}{fs:Array Field}{α:Type}{cl:α→List AV}{V:α→Prop}(e:α→AV)(ht:P.underlying t=some (.struct fs))(h:∀ N,rb P N t α cl V)(he:∀ a,e a= .a (cl a)):UR P t α e V:=by
 refine ⟨fun a=>by rw [he];exact jY fun c hc=>((h 0).one a c hc).2,fun H enc W v d ps base hb D ⟨fuel,hx⟩=>?_⟩
 obtain ⟨vs,rfl,hs⟩:=okWide_struct ht D
 obtain ⟨a,h1,h2⟩:=(h fuel).dec H enc W fuel _ _ (aY _) hb hx
 refine ⟨a,⟨h1.1,by rw [he];exact h1.2⟩,?_⟩
 rw [he]
 refine .a _ vs (by rw [(h 0).len,hs]) (fun c hc=>((h 0).one a c hc).1) fun m c hc=>?_
 grind [Value.cells,Array.getD_eq_getD_getElem?]
theorem CW{t:TypeId}{α:Type}{V:α→Prop}(e:α→AV)(h:∀ N,rb P N t α (fun a=>[e a]) V)(aI:∀ (W:World)(base:Nat)(v:Value),Value.okWide P W .any base t v→v.cells=#[v]):UR P t α e V:=by
 refine ⟨fun a=>((h 0).one a _ (by simp)).2,fun H enc W v d ps base hb D ⟨fuel,hx⟩=>?_⟩
 obtain ⟨a,h1,h2⟩:=(h fuel).dec H enc W fuel _ _ (aY _) hb hx
 refine ⟨a,by grind [AV.jw],?_⟩
 have:=h2 0 (e a) rfl
 grind
theorem Ta{t:TypeId}{k:IntKind}(ht:P.underlying t=some (.int k))(W:World)(base:Nat)(v:Value)(h:Value.okWide P W .any base t v):v.cells=#[v]:=by
 obtain ⟨n,rfl⟩:=okWide_int ht h;rfl
theorem NA{t e:TypeId}(ht:P.underlying t=some (.slice e))(W:World)(base:Nat)(v:Value)(h:Value.okWide P W .any base t v):v.cells=#[v]:=by
 obtain ⟨a,l,c,rfl⟩:=okWide_slice ht h;rfl
def NB(P:Program)(ts:List TypeId)(Good:List AV→Prop):Prop:=
 ∀ (H:Type)(enc:TypeId×Value→H)(W:World)(vs:List Value)(ds:List (DataW H))(ps:List MemPlace)(base:Nat),It W→(∀ (j:Nat) t v,ts[j]? =some t→vs[j]? =some v→Value.okWide P W .any base t v)→
  DataW.TrodAll enc P W 0 (fun _=>true) true ts vs ds ps→∃ ys,(Good ys∧AV.jw ys≤Rows.uptoBulkAll ds)∧ys.length=vs.length∧AV.bJ ys=true∧∀ (i:Nat)(y:AV),ys[i]? =some y→VR W (fun b=>b<W.heap.size) (fun _=>0) y (vs.getD i undef)
theorem US:NB P [] (fun ys=>ys=[]):=fun H enc W vs ds ps base hb D h=>by
 obtain ⟨rfl,rfl,rfl⟩:=trodAll_nil h
 exact ⟨[],⟨rfl,dy _⟩,rfl,rfl,fun i y h=>by simp at h⟩
theorem wS{t:TypeId}{ts:List TypeId}{α:Type}{e:α→AV}{V:α→Prop}{Good:List AV→Prop}(h:UR P t α e V)(h':NB P ts Good):NB P (t::ts) (fun ys=>∃ a zs,V a∧Good zs∧ys=e a::zs):=fun H enc W vs ds ps base hb D hx=>by
 obtain ⟨v,vs1,d,ds1,p,q,rfl,rfl,rfl,h1,h2⟩:=trodAll_cons hx
 obtain ⟨a,h3,h4⟩:=h.2 H enc W v d p base hb (D 0 t v rfl rfl) h1
 obtain ⟨zs,h5,h6,h7,h8⟩:=h' H enc W vs1 ds1 q base hb (fun j t v ht hv=>D (j+1) t v ht hv) h2
 refine ⟨e a::zs,by grind [AV.jw,Rows.uptoBulkAll],by simp [h6],by simp [AV.bJ,h.1,h7],fun i y hi=>?_⟩
 grind
end
variable {s:ChangeSpec}{apart fresh handsOn again:Bool}{S:List TypeId}{tb:TypeId}
theorem Oq{H:Type}{enc:TypeId×Value→H}{P:Program}{R:Rec}{f:FuncId}{fn:Func}{Good:cj→List AV→Prop}(hS:wQ P S=true)(hR:∀ B:cj,@kS B P R)(hv:s.vars=[])(hr:fn.resultTypes=#[tb])(aa:P.underlying tb=some .bool)(aD:∀ ds:List (DataW H),ds.length=fn.params.size→s.fn H ds={results:=[.lit (.bool true)],args:=ds})(hp:∀ t∈fn.params.toList,t∈S)(U:∀ B:cj,@NB B P fn.params.toList (Good B))(O:∀ (B:cj)(ys:List AV),Good B ys→R ⟨0,false⟩ f ys (fun _=>none)=some (.ret (.b true),fun _=>none))(W:World)(base:Nat)(args:Array Value)(ds gs:List (DataW H))(before:List MemPlace)(an:∀ (j:Nat) t v,fn.params[j]? =some t→args[j]? =some v→Value.okWide P W .any base t v)(hW:DataW.Whole enc P fn.params.toList s.vars apart W args.toList ds gs before)(Q:JT W fun b=>b<W.heap.size):
  Calls P f args W fun e W'=>∃ v,e= .returned v∧s.post enc P fn apart fresh handsOn again W args v W':=by
 let B:cj:=⟨W.heap.size,fun _=>true⟩
 have Y:=hW
 obtain ⟨p,q,hA,hV,rfl,hz,hn⟩:=hW
 have hlen:∀ {ts:List TypeId}{vs:List Value}{ds:List (DataW H)}{ps:List MemPlace},DataW.TrodAll enc P W 0 (fun _=>true) true ts vs ds ps→ds.length=ts.length:=by
  intro ts
  induction ts with
  | nil=>grind [trodAll_nil]
  | cons t ts ih=>grind [trodAll_cons]
 obtain ⟨ys,h1,h2,h3,h4⟩:=U B H enc W args.toList ds p base ⟨rfl,fun _=>rfl⟩ ((by grind)) hA
 have D:=(hR B).pure (O B ys h1.1) (fun y hy=>fp h3 y hy)
 refine (D.2 W (fun b=>b<W.heap.size) (fun _=>0) args ⟨aY _,Q⟩ (fun b hb=>hb) (by grind) ((by grind [Array.getD_eq_getD_getElem?]))).mono ?_
 rintro e W' ⟨v,I',rfl,ao,F,hold,_,_,_,K⟩
 cases ao
 grind [On]
end Go.Proofs.YtlmphbbhaeampaaGreat.A
