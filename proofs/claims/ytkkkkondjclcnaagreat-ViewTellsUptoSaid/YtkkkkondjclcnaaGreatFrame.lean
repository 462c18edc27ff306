/- From the abstract run of a law to its row: what the arguments read as, lies in the model as plain values; what never changes reads as it did. -/
import Derived.Test.YtkkkkondjclcnaaGreatAbsG
import Derived.Test.YtkkkkondjclcnaaGreatRows
import Derived.WalkKit
import Derived.ProofKit
import Derived.OpenShut
import Derived.JoinedCond
set_option linter.all false
namespace Go.Proofs.YtkkkkondjclcnaaGreat.A
open Go Go.ChangeShapes Go.WideShapes Go.ChangeAt Go.RowKit
def wv(P:Program)(S:List TypeId):Bool:=S.all fun t=>match P.underlying t with
 | some .bool=>true
 | some (.int _)=>true
 | some .string=>true
 | some (.slice e)=>decide (0<P.cellsOf e)&&S.contains e
 | some (.struct fs)=>fs.toList.all fun f=>S.contains f.type
 | _=>false
mutual
def AV.uB:AV→Nat
 | .s ys=>ys.length+1
 | .l _ es=>AV.dQ es+1
 | .a cs=>AV.dQ cs
 | .i _ _=>1
 | .b _=>1
 | _=>0
def AV.dQ:List AV→Nat
 | []=>0
 | x::xs=>AV.uB x+AV.dQ xs
end
theorem yE:∀ (l m:List AV),AV.dQ (l++m)=AV.dQ l+AV.dQ m
 | [],m=>by simp [AV.dQ]
 | x::l,m=>by simp only [eu,AV.dQ,yE l m];omega
theorem Xi(x:AV):AV.uB x=AV.dQ x.cl:=by
 cases x<;>simp [AV.cl,AV.dQ,AV.uB]
theorem vo{H:Type} : ∀ (l m:List (DataW H)),Rows.uptoBulkAll (l++m)=Rows.uptoBulkAll l+Rows.uptoBulkAll m
 | [],m=>by simp [Rows.uptoBulkAll]
 | x::l,m=>by simp only [eu,Rows.uptoBulkAll,vo l m];omega
theorem Gj{α β:Type}{f:α→Option β} : ∀ {l:List α}{ys:List β},l.mapM f=some ys→ys.length=l.length∧∀ (i:Nat)(a:α),l[i]? =some a→∃ y,f a=some y∧ys[i]? =some y
 | [],ys,h=>by
  obtain rfl:ys=[]:=by simpa using h.symm
  exact ⟨rfl,fun i a h=>by simp at h⟩
 | x::l,ys,h=>by
  simp only [vF,CN,ah] at h
  obtain ⟨y,h1,zs,h2,h3⟩:=h
  obtain rfl:y::zs=ys:=aa h3
  obtain ⟨h4,h5⟩:=Gj h2
  refine ⟨by simp [h4],fun i a hi=>?_⟩
  cases i with
  | zero=>
    obtain rfl:x=a:=by simpa using hi
    exact ⟨y,h1,rfl⟩
  | succ i=>exact h5 i a (by simpa using hi)
theorem wx{α β:Type}{f g:α→Option β} : ∀ {l:List α}{ys:List β},l.mapM f=some ys→(∀ a∈l,∀ y∈ys,f a=some y→g a=some y)→l.mapM g=some ys
 | [],ys,h,_=>by simpa using h
 | x::l,ys,h,hg=>by
  simp only [vF,CN,ah] at h ⊢
  obtain ⟨y,h1,zs,h2,h3⟩:=h
  obtain rfl:y::zs=ys:=aa h3
  exact ⟨y,hg x (by simp) y (by simp) h1,zs,wx h2 fun a ha z hz=>hg a (by simp [ha]) z (by simp [hz]),rfl⟩
section
variable {H:Type}{enc:TypeId×Value→H}{P:Program}{W W':World}
theorem Uh(hk:∀ b,b<W.heap.size→W'.heap[b]? =W.heap[b]?){a:Addr}{v:Value}(h:W.cell? a=some v):W'.cell? a=some v:=by
 have hb:a.block<W.heap.size:=by
  apply lT
  intro hn
  unfold World.cell? at h
  rw [yX (by omega)] at h
  cases h
 unfold World.cell? at h ⊢
 rw [hk _ hb];exact h
theorem Sl(hk:∀ b,b<W.heap.size→W'.heap[b]? =W.heap[b]?){base:Nat}{a:Addr}{n:Nat}{cs:List Value}(h:W.cells? base a n=some cs):W'.cells? base a n=some cs:=by
 unfold World.cells? at h ⊢
 split
 ·rename_i hb
  rw [ab hb] at h
  exact wx h fun i _ y _ hy=>Uh hk hy
 ·rename_i hb
  rw [ad hb] at h;exact h
theorem Gk(hk:∀ b,b<W.heap.size→W'.heap[b]? =W.heap[b]?){sp:Nat→Bool}{S:List TypeId}(hS:wv P S=true):∀ (fuel:Nat)(t:TypeId)(cs:List Value)(x:DataW H×List MemPlace),t∈S→
  DataW.trod enc P W 0 (fun _=>true) true fuel t cs=some x→(∀ p∈x.2,sp p.block=true)→DataW.trod enc P W' 0 sp true fuel t cs=some x
 | 0,_,_,_,_,h,_=>by simp [DataW.trod] at h
 | fuel+1,t,cs,x,ht,h,hs=>by
  have hp:=bH.1 hS t ht
  unfold DataW.trod at h ⊢
  split at hp
  ·rename_i hu;rw [hu] at h ⊢;split at h<;>first | exact h | (exfalso;simp_all;done)
  ·rename_i k hu;rw [hu] at h ⊢;split at h<;>first | exact h | (exfalso;simp_all;done)
  ·rename_i hu;rw [hu] at h ⊢;split at h<;>first | exact h | (exfalso;simp_all;done)
  ·rename_i e hu
   rw [hu] at h ⊢
   simp only [aA,df,List.contains_iff_mem] at hp
   obtain ⟨hpos,hpe⟩:=hp
   have hel:∀ (a:Addr)(y:DataW H×List MemPlace),(W.cells? 0 a (P.cellsOf e)).bind (DataW.trod enc P W 0 (fun _=>true) true fuel e)=some y→(∀ p∈y.2,sp p.block=true)→
     (W'.cells? 0 a (P.cellsOf e)).bind (DataW.trod enc P W' 0 sp true fuel e)=some y:=by
    intro a y hy hsy
    obtain ⟨ds,h1,h2⟩:=ah.1 hy
    exact ah.2 ⟨ds,Sl hk h1,Gk hk hS fuel e ds y hpe h2 hsy⟩
   split at h
   all_goals first | (exfalso;simp_all;done) | skip
   ·exact h
   ·rename_i a len cap heq
    obtain rfl:=TypeDesc.slice.inj (aa heq)
    dsimp only at h ⊢
    split at h
    ·rename_i hc
     rw [ab hc]
     obtain ⟨elems,h1,h2⟩:=ah.1 h
     simp only [aq,c9] at h2
     obtain ⟨rest,h3,rfl⟩:=h2
     have hpl:∀ y∈elems++rest,∀ p∈y.2,sp p.block=true:=fun y hy p hp=>hs p (by
      simp only [bU,CD]
      exact .inr ⟨y,bU.1 hy|>.elim (fun h=>by simp [h]) (fun h=>by simp [h]),hp⟩)
     refine ah.2 ⟨elems,wx h1 fun i _ y hy hi=>hel _ _ hi (hpl y (by simp [hy])),?_⟩
     refine c9.2 ⟨rest,?_,rfl⟩
     cases hsp:sp a.block with
     | true=>
      simp only [aq]
      exact wx h3 fun i _ y hy hi=>hel _ _ hi (hpl y (by simp [hy]))
     | false=>
      have hz:elems.length+rest.length=0:=by
       apply lT
       intro hne
       have:0<(elems.length+rest.length)*P.cellsOf e:=Nat.mul_pos (by omega) hpos
       have:=hs (.cell a.block (a.off+0)) (by
        simp only [bU,MemPlace.row,eH,yY]
        exact .inl ⟨0,this,rfl⟩)
       rw [show (MemPlace.cell a.block (a.off+0)).block=a.block from rfl,hsp] at this
       cases this
      have:rest=[]:=oy (by omega)
      subst this
      rfl
    ·cases h
  ·rename_i fs hu
   rw [hu] at h ⊢
   have hfs:∀ {cs:List Value},(if cs.length=P.cellsOf t then (fs.toList.mapM fun f=>DataW.trod enc P W 0 (fun _=>true) true fuel f.type ((cs.drop f.offset).take (P.cellsOf f.type))).map fun xs=>(DataW.agg (xs.map (·.1)),xs.flatMap (·.2)) else none)=some x→
     (if cs.length=P.cellsOf t then (fs.toList.mapM fun f=>DataW.trod enc P W' 0 sp true fuel f.type ((cs.drop f.offset).take (P.cellsOf f.type))).map fun xs=>(DataW.agg (xs.map (·.1)),xs.flatMap (·.2)) else none)=some x:=by
    intro cs h
    split at h
    ·rename_i hl
     rw [ab hl]
     obtain ⟨xs,h1,rfl⟩:=c9.1 h
     refine c9.2 ⟨xs,wx h1 fun f hf y hy hfy=>?_,rfl⟩
     exact Gk hk hS fuel f.type _ y (by simpa using List.all_eq_true.1 hp f hf) hfy fun p hpp=>hs p (CD.2 ⟨y,hy,hpp⟩)
    ·cases h
   split at h
   all_goals first | (exfalso;simp_all;done) | skip
   all_goals (rename_i heq;obtain rfl:=TypeDesc.struct.inj (aa heq))
   all_goals exact hfs h
  ·cases hp
theorem E7(hk:∀ b,b<W.heap.size→W'.heap[b]? =W.heap[b]?){sp:Nat→Bool}{S:List TypeId}(hS:wv P S=true):∀ {ts:List TypeId}{vs:List Value}{ds:List (DataW H)}{ps:List MemPlace},(∀ t∈ts,t∈S)→
  DataW.TrodAll enc P W 0 (fun _=>true) true ts vs ds ps→(∀ p∈ps,sp p.block=true)→DataW.TrodAll enc P W' 0 sp true ts vs ds ps
 | [],[],[],_,_,h,_=>h
 | _::_,_::_,_::_,_,hT,⟨p,q,⟨m,h1⟩,h2,e⟩,hs=>⟨p,q,⟨m,Gk hk hS m _ _ _ (hT _ (by simp)) h1 fun x hx=>hs x (by rw [e];exact gD _ hx)⟩,E7 hk hS (fun t ht=>hT t (by simp [ht])) h2 (fun x hx=>hs x (by rw [e];exact jv _ hx)),e⟩
theorem Ui(hk:∀ b,b<W.heap.size→W'.heap[b]? =W.heap[b]?)(hio:W'.os=W.os∧W'.output=W.output)(may:MemPlace→Prop):W.keptBut W' may:=by
 refine ⟨hio.1,hio.2,fun i hi=>?_⟩
 rw [hk i hi]
 split
 ·rename_i c t fr c' t' fr' h1 h2
  rw [h1] at h2
  cases h2
  exact ⟨rfl,rfl,rfl,fun _ _=>rfl⟩
 ·rename_i h1 h2
  rw [h1] at h2
  cases h2
  exact .inr ⟨rfl,rfl⟩
 ·rfl
theorem NS{f:Func}{s:ChangeSpec}{apart fresh handsOn again:Bool}{args:Array Value}{ds gs:List (DataW H)}{before:List MemPlace}{S:List TypeId}{tb:TypeId}(hS:wv P S=true)
  (hW:DataW.Whole enc P f.params.toList s.vars apart W args.toList ds gs before) (hv:s.vars=[])
  (hr:f.resultTypes=#[tb]) (htb:P.underlying tb=some .bool) (hfn:s.fn H ds={results:=[.lit (.bool true)],args:=ds}) (hp:∀ t∈f.params.toList,t∈S)
  (hk:∀ b,b<W.heap.size→W'.heap[b]? =W.heap[b]?) (hio:W'.os=W.os∧W'.output=W.output) :
  s.post enc P f apart fresh handsOn again W args (.bool true) W':=by
 have hold:∀ p∈before,(fun b=>decide (b<W.heap.size)) p.block=true:=fun p hp=>by simpa using hW.lt p hp
 have hlt:∀ p∈before,p.block<W.heap.size:=fun p hp=>hW.lt p hp
 have hW0:=hW
 obtain ⟨p,q,hA,hV,rfl,hz,hn⟩:=hW
 rw [hv] at hV
 obtain ⟨rfl,rfl⟩:=trodVars_none hV
 have hV':∀ sp,DataW.TrodVars enc P W' sp s.vars [] []:=fun sp=>by rw [hv];rfl
 have hres:∀ (b:Nat)(sp:Nat→Bool)(hd:Bool),DataW.TrodAll enc P W' b sp hd f.resultTypes.toList ((Value.bool true).resultList f.resultTypes.size) [.lit (.bool true)] []:=by
  intro b sp hd
  rw [hr]
  exact trodAll_cons_mk (shut_bool htb _) trodAll_mk0
 simp only [qg] at hA hold hlt hz hn hW0
 have hargs:∀ sp:Nat→Bool,(∀ x∈p,sp x.block=true)→DataW.TrodAll enc P W' 0 sp true f.params.toList args.toList ds p:=fun sp hs=>E7 hk hS hp hA hs
 have hfn':s.fn H (ds++[])={results:=[.lit (.bool true)],args:=ds}:=by rw [qg];exact hfn
 have hres2:∀ (b:Nat)(sp:Nat→Bool)(hd:Bool),DataW.TrodAll enc P W' b sp hd f.resultTypes.toList ((Value.bool true).resultList f.resultTypes.size) (s.fn H (ds++[])).results []:=by rw [hfn'];exact hres
 have hargs2:∀ sp:Nat→Bool,(∀ x∈p,sp x.block=true)→DataW.TrodAll enc P W' 0 sp true f.params.toList args.toList (s.fn H (ds++[])).args p:=by rw [hfn'];exact hargs
 have hV2:∀ sp,DataW.TrodVars enc P W' sp s.vars (s.fn H (ds++[])).vars []:=by rw [hfn'];exact hV'
 refine ⟨ds,[],p,[],p,[],hW0,hres2 _ _ _,hargs2 _ hold,hV2 _,Ui hk hio _,fun _=>?_⟩
 refine ⟨?_,_,_,([]++p)++[],⟨[]++p,[],trodAll_append (hargs2 _ fun _ _=>rfl) (hres2 _ _ _),hV2 _,rfl,?_,?_⟩,?_⟩
 ·rw [hr]
  intro j t r h1 h2
  cases j with
  | zero=>
   simp only [Value.resultList] at h2
   obtain rfl:tb=t:=by simpa using h1
   obtain rfl:Value.bool true=r:=by simpa using h2
   exact okWide_bool_mk htb _
  | succ j=>simp at h1
 ·intro b off hp'
  have hp2:MemPlace.cell b off∈p:=by simpa using hp'
  have h3:=hz b off hp2
  have h4:=hlt _ hp2
  unfold World.frozen? at h3 ⊢
  have h5:W'.heap[b]? =W.heap[b]? :=hk _ h4
  simp only [h5];exact h3
 ·intro ha
  simpa using hn ha
 ·intro x hx _
  simpa using hx
variable [bJ]
def Ib(W:World):Prop:=bJ.n0=W.heap.size∧∀ t,bJ.tg t=true
structure pR(P:Program)(N:Nat)(t:TypeId)(α:Type)(cl:α→List AV)(V:α→Prop):Prop where
 len:∀ a,(cl a).length=P.cellsOf t
 one:∀ a,∀ c∈cl a,c.one=true∧c.pure=true
 dec:∀ (H:Type)(enc:TypeId×Value→H)(W:World)(fuel:Nat)(cs:List Value)(x:DataW H×List MemPlace),fuel≤N→Ib W→DataW.trod enc P W 0 (fun _=>true) true fuel t cs=some x→
  ∃ a,(V a∧AV.dQ (cl a)≤Rows.uptoBulk x.1)∧∀ (i:Nat)(c:AV),(cl a)[i]? =some c→VR W (fun b=>b<W.heap.size) (fun _=>0) c (cs.getD i undef)
theorem M6{t:TypeId}{α:Type}{cl:α→List AV}{V:α→Prop}(h1:∀ a,(cl a).length=P.cellsOf t)(h2:∀ a,(cl a).all (fun c=>c.one&&c.pure)=true):pR P 0 t α cl V:=
 ⟨h1,fun a c hc=>by simpa using List.all_eq_true.1 (h2 a) c hc,fun _ _ _ fuel _ _ hf _ h=>by
  obtain rfl:fuel=0:=by omega
  simp [DataW.trod] at h⟩
theorem gT{N:Nat}{t:TypeId}{k:IntKind}(ht:P.underlying t=some (.int k))(hc:P.cellsOf t=1):pR P N t Int (fun n=>[.i k n]) (fun n=>(Lit.int k n).wf=true):=by
 refine ⟨fun a=>hc.symm,fun a c h=>by obtain rfl:=fw.1 h;exact ⟨rfl,rfl⟩,fun H enc W fuel cs x _ _ h=>?_⟩
 cases fuel with
 | zero=>simp [DataW.trod] at h
 | succ fuel=>
  unfold DataW.trod at h
  rw [ht] at h
  split at h
  all_goals first | (exfalso;simp_all;done) | skip
  rename_i k1 k2 n heq
  obtain rfl:=TypeDesc.int.inj (aa heq)
  split at h
  ·rename_i hkk
   obtain ⟨rfl,hw⟩:=hkk
   refine ⟨n,⟨hw,by obtain rfl:=aa h;simp [AV.dQ,AV.uB,Rows.uptoBulk]⟩,fun i c hi=>?_⟩
   cases i with
   | zero=>
     obtain rfl:AV.i _ n=c:=by simpa using hi
     exact .i _ n
   | succ i=>simp at hi
  ·cases h
theorem M7{N:Nat}{t:TypeId}(ht:P.underlying t=some .bool)(hc:P.cellsOf t=1):pR P N t Bool (fun n=>[.b n]) (fun _=>True):=by
 refine ⟨fun a=>hc.symm,fun a c h=>by obtain rfl:=fw.1 h;exact ⟨rfl,rfl⟩,fun H enc W fuel cs x _ _ h=>?_⟩
 cases fuel with
 | zero=>simp [DataW.trod] at h
 | succ fuel=>
  unfold DataW.trod at h
  rw [ht] at h
  split at h
  all_goals first | (exfalso;simp_all;done) | skip
  rename_i b heq
  refine ⟨b,⟨trivial,by obtain rfl:=aa h;simp [AV.dQ,AV.uB,Rows.uptoBulk]⟩,fun i c hi=>?_⟩
  cases i with
  | zero=>
    obtain rfl:AV.b b=c:=by simpa using hi
    exact .b b
  | succ i=>simp at hi
theorem pR.map{N:Nat}{t:TypeId}{α β:Type}{cl:α→List AV}{cl':β→List AV}{V:α→Prop}{V':β→Prop}(h:pR P N t α cl V)(g:α→β)(g':β→α)(hg:∀ a,cl' (g a)=cl a)(hg':∀ b,cl' b=cl (g' b))(hV:∀ a,V a→V' (g a)):pR P N t β cl' V':=
 ⟨fun b=>by rw [hg'];exact h.len _,fun b=>by rw [hg'];exact h.one _,fun H enc W fuel cs x hN hb hx=>by
  obtain ⟨a,h1,h2⟩:=h.dec H enc W fuel cs x hN hb hx
  exact ⟨g a,⟨hV a h1.1,by rw [hg];exact h1.2⟩,by rw [hg];exact h2⟩⟩
theorem dY{N:Nat}{t e:TypeId}{α:Type}{cl:α→List AV}{V:α→Prop}(f:α→AV)(ht:P.underlying t=some (.slice e))(hc:P.cellsOf t=1)(hd:pR P (N - 1) e α cl V)(hf:∀ a,(f a).cl=cl a∧(f a).nc=P.cellsOf e∧(f a).pure=true)(hpos:0<P.cellsOf e) :
  pR P N t (List α) (fun l=>[.l e (l.map f)]) (fun l=>l.length≤maxLen∧∀ a∈l,V a):=by
 refine ⟨fun a=>hc.symm,fun a c h=>?_,fun H enc W fuel cs x hN hb h=>?_⟩
 ·obtain rfl:=fw.1 h
  exact ⟨rfl,rfl⟩
 cases fuel with
 | zero=>simp [DataW.trod] at h
 | succ fuel=>
  unfold DataW.trod at h
  rw [ht] at h
  split at h
  all_goals first | (exfalso;simp_all;done) | skip
  ·refine ⟨[],⟨⟨ct _,fun _ h=>by cases h⟩,?_⟩,fun i c hi=>?_⟩
   ·obtain rfl:=aa h
    simp [AV.dQ,AV.uB,Rows.uptoBulk]
   cases i with
   | zero=>
     obtain rfl:AV.l e []=c:=by simpa using hi
     exact .lnil e none 0
   | succ i=>simp at hi
  ·rename_i e' a len cap heq
   obtain rfl:=TypeDesc.slice.inj (aa heq)
   dsimp only at h
   split at h
   ·rename_i hcc
    obtain ⟨elems,h1,h2⟩:=ah.1 h
    obtain ⟨hl,hg⟩:=Gj h1
    rw [CJ] at hl
    have hel:∀ i,i<len→∃ y ds z,(V y∧elems[i]? =some z∧AV.dQ (cl y)≤Rows.uptoBulk z.1)∧W.cells? 0 (a.add (i*P.cellsOf e)) (P.cellsOf e)=some ds∧∀ (m:Nat)(c:AV),(cl y)[m]? =some c→VR W (fun b=>b<W.heap.size) (fun _=>0) c (ds.getD m undef):=by
     intro i hi
     obtain ⟨y,h3,h4⟩:=hg i i (by rw [zc hi])
     obtain ⟨ds,h5,h6⟩:=ah.1 h3
     obtain ⟨b,h7,h8⟩:=hd.dec H enc W fuel ds y (by omega) hb h6
     exact ⟨b,ds,y,⟨h7.1,h4,h7.2⟩,h5,h8⟩
    have hlist:∀ n,n≤len→∃ l:List α,(l.length=n∧AV.dQ (l.map f)≤Rows.uptoBulkAll ((elems.take n).map (·.1)))∧(∀ b∈l,V b)∧∀ i b,l[i]? =some b→∃ ds,W.cells? 0 (a.add (i*P.cellsOf e)) (P.cellsOf e)=some ds∧∀ (m:Nat)(c:AV),(cl b)[m]? =some c→VR W (fun b=>b<W.heap.size) (fun _=>0) c (ds.getD m undef):=by
     intro n
     induction n with
     | zero=>exact fun _=>⟨[],⟨rfl,by simp [AV.dQ]⟩,(fun _ h=>by cases h),(fun i b h=>by simp at h)⟩
     | succ n ih=>
      intro hn
      obtain ⟨l,⟨h3,h3b⟩,h4,h5⟩:=ih (by omega)
      obtain ⟨y,ds,z,⟨h6,hz1,hz2⟩,h7,h8⟩:=hel n (by omega)
      refine ⟨l++[y],⟨by simp [h3],?_⟩,fun b hb=>?_,fun i b hi=>?_⟩
      ·rw [cI,yE,p9,hz1,cI,vo]
       have:AV.dQ ([y].map f)=AV.dQ (cl y):=by simp [AV.dQ,Xi,(hf y).1]
       rw [this]
       simp only [Option.toList_some,bZ,kB,Rows.uptoBulkAll]
       omega
      ·rcases bU.1 hb with hb | hb
       ·exact h4 b hb
       ·obtain rfl:=fw.1 hb;exact h6
      ·by_cases hin:i<n
       ·exact h5 i b (by rwa [oz (by omega)] at hi)
       ·have hlt:=(dh.1 hi).1
        obtain rfl:i=n:=by simp [h3] at hlt;omega
        obtain rfl:y=b:=by rw [tF (by omega),h3] at hi;simpa using hi
        exact ⟨ds,h7,h8⟩
    obtain ⟨l,⟨hll,hlb⟩,hV,hcell⟩:=hlist len (aS _)
    refine ⟨l,⟨⟨by omega,hV⟩,?_⟩,fun i c hi=>?_⟩
    ·simp only [aq,c9] at h2
     obtain ⟨rest,_,rfl⟩:=h2
     rw [lU (by omega)] at hlb
     simp only [AV.dQ,AV.uB,Rows.uptoBulk]
     omega
    cases i with
    | succ i=>simp at hi
    | zero=>
     obtain rfl:AV.l e (l.map f)=c:=by simpa using hi
     by_cases hlen0:len=0
     ·subst hlen0
      obtain rfl:l=[]:=oy hll
      exact .lnil e (some a) cap
     have hcells:∀ i,i<len→∀ m,m<P.cellsOf e→∃ v,W.cell? ((a.add (i*P.cellsOf e)).add m)=some v∧∀ b c,l[i]? =some b→(cl b)[m]? =some c→VR W (fun b=>b<W.heap.size) (fun _=>0) c v:=by
      intro i hi m hm
      have hli:i<l.length:=by omega
      obtain ⟨ds,h3,h4⟩:=hcell i l[i] (aB hli)
      unfold World.cells? at h3
      rw [ab (ct _)] at h3
      obtain ⟨h5,h6⟩:=Gj h3
      obtain ⟨v,h7,h8⟩:=h6 m m (by rw [zc hm])
      refine ⟨v,h7,fun b c hb2 hc2=>?_⟩
      obtain rfl:l[i]=b:=by rw [aB hli] at hb2;exact aa hb2
      have:=h4 m c hc2
      rwa [cb,h8] at this
     obtain ⟨v0,hv0,_⟩:=hcells 0 (by omega) 0 hpos
     obtain ⟨g,o,ins⟩:=a
     obtain rfl:ins=none:=by
      rw [yS,show (Addr.mk g o ins).add 0=Addr.mk g o ins from rfl,show (Addr.mk g o ins).add 0=Addr.mk g o ins from rfl] at hv0
      exact World.cell?_spot hv0
     have hadd:∀ o n,(Addr.mk g o none).add n=Addr.mk g (o+n) none:=by
      intro o n
      unfold Addr.add
      split
      ·rename_i h0;subst h0;rfl
      ·rfl
     have hblk:∃ vs T fz,W.heap[g]? =some (.cells vs T fz):=by
      unfold World.cell? at hv0
      rw [hadd,hadd] at hv0
      split at hv0
      ·rename_i vs T fz hh
       exact ⟨vs,T,fz,hh⟩
      ·cases hv0
     obtain ⟨vs,T,fz,hh⟩:=hblk
     have hget:∀ i,i<len→∀ m,m<P.cellsOf e→∃ v,vs[o+i*P.cellsOf e+m]? =some v∧∀ b c,l[i]? =some b→(cl b)[m]? =some c→VR W (fun b=>b<W.heap.size) (fun _=>0) c v:=by
      intro i hi m hm
      obtain ⟨v,h3,h4⟩:=hcells i hi m hm
      refine ⟨v,?_,h4⟩
      unfold World.cell? at h3
      rw [hadd,hadd] at h3
      simp only [hh] at h3
      simpa using h3
     have hgb:g<W.heap.size:=by
      apply lT
      intro hn
      rw [yX (by omega)] at hh
      cases hh
     have hsize:o+len*P.cellsOf e≤vs.size:=by
      obtain ⟨v,h3,_⟩:=hget (len - 1) (by omega) (P.cellsOf e - 1) (by omega)
      have h4:=(nq.1 h3).1
      have:(len - 1)*P.cellsOf e+P.cellsOf e=len*P.cellsOf e:=by
       rw [←Nat.succ_mul];congr 1;omega
      omega
     have hvr:=VR.l (w:=W) (I:=fun b=>b<W.heap.size) (κ:=fun _=>0) e (l.map f) g o cap vs T fz (P.cellsOf e) hgb hh (fun _=>⟨fun h=>absurd hgb (by rw [←hb.1];omega),fun _=>hb.2 _⟩) hpos
      (fun x hx=>by obtain ⟨y,_,rfl⟩:=eH.1 hx;exact (hf y).2.1) (by rw [dC,hll];exact hsize)
      (fun x hx=>by obtain ⟨y,_,rfl⟩:=eH.1 hx;exact (hf y).2.2)
      (fun x hx c hc=>by obtain ⟨y,_,rfl⟩:=eH.1 hx;rw [(hf y).1] at hc;exact (hd.one y c hc).1)
      (by rw [dC];omega) (by omega)
      (fun j x m c hx hc=>by
       rw [gw] at hx
       obtain ⟨y,hy,rfl⟩:=c9.1 hx
       rw [(hf y).1] at hc
       have hjl:j<l.length:=(dh.1 hy).1
       have hml:m<(cl y).length:=(dh.1 hc).1
       rw [hd.len] at hml
       obtain ⟨v,h3,h4⟩:=hget j (by omega) m hml
       have:=h4 y c hy hc
       rw [bn,h3]
       exact this)
     rw [dC,hll] at hvr
     exact hvr
   ·cases h
structure Qe(P:Program)(N:Nat)(off:Nat)(fs:List Field)(α:Type)(cl:α→List AV)(V:α→Prop):Prop where
 len:∀ a,(cl a).length=(fs.map fun f=>P.cellsOf f.type).sum
 one:∀ a,∀ c∈cl a,c.one=true∧c.pure=true
 dec:∀ (H:Type)(enc:TypeId×Value→H)(W:World)(fuel:Nat)(cs:List Value)(xs:List (DataW H×List MemPlace)),fuel≤N→Ib W→
  (fs.mapM fun f=>DataW.trod enc P W 0 (fun _=>true) true fuel f.type ((cs.drop f.offset).take (P.cellsOf f.type)))=some xs→
  ∃ a,(V a∧AV.dQ (cl a)≤Rows.uptoBulkAll (xs.map (·.1)))∧∀ (i:Nat)(c:AV),(cl a)[i]? =some c→VR W (fun b=>b<W.heap.size) (fun _=>0) c (cs.getD (off+i) undef)
theorem nG{N off:Nat} : Qe P N off [] Unit (fun _=>[]) (fun _=>True):=⟨fun _=>rfl,(fun _ _ h=>by cases h),fun _ _ _ _ _ _ _ _ _=>⟨(),⟨trivial,ct _⟩,fun i c h=>by simp at h⟩⟩
theorem b9{N off:Nat}{f:Field}{fs:List Field}{α β:Type}{cl:α→List AV}{cl':β→List AV}{V:α→Prop}{V':β→Prop}(hoff:f.offset=off)(n:Nat)(hn:P.cellsOf f.type=n)(h:pR P N f.type α cl V)(h':Qe P N (off+n) fs β cl' V') :
  Qe P N off (f::fs) (α×β) (fun a=>cl a.1++cl' a.2) (fun a=>V a.1∧V' a.2):=by
 subst hn
 refine ⟨fun a=>by simp [h.len,h'.len],fun a c hc=>(bU.1 hc).elim (h.one _ c) (h'.one _ c),fun H enc W fuel cs xs hN hb hx=>?_⟩
 simp only [vF,CN,ah] at hx
 obtain ⟨y,h1,zs,h2,hxs⟩:=hx
 obtain rfl:y::zs=xs:=aa hxs
 obtain ⟨a,h3,h4⟩:=h.dec H enc W fuel _ y hN hb h1
 obtain ⟨b,h5,h6⟩:=h'.dec H enc W fuel cs zs hN hb h2
 refine ⟨(a,b),⟨⟨h3.1,h5.1⟩,?_⟩,fun i c hi=>?_⟩
 ·have e1:=h3.2
  have e2:=h5.2
  rw [yE]
  simp only [bZ,Rows.uptoBulkAll]
  omega
 by_cases hl:i<(cl a).length
 ·rw [oz hl] at hi
  have:=h4 i c hi
  rw [h.len] at hl
  rw [cb,CL hl,gx,hoff,←cb] at this
  exact this
 ·rw [tF (Nat.le_of_not_lt hl),h.len] at hi
  rw [h.len] at hl
  have:=h6 _ c hi
  rwa [show off+P.cellsOf f.type+(i - P.cellsOf f.type)=off+i by omega] at this
theorem jQ{N:Nat}{t:TypeId}{fs:Array Field}{α:Type}{cl:α→List AV}{V:α→Prop}(ht:P.underlying t=some (.struct fs))(hc:P.cellsOf t=(fs.toList.map fun f=>P.cellsOf f.type).sum)(h:Qe P (N - 1) 0 fs.toList α cl V):pR P N t α cl V:=by
 refine ⟨fun a=>by rw [h.len,hc],h.one,fun H enc W fuel cs x hN hb hx=>?_⟩
 cases fuel with
 | zero=>simp [DataW.trod] at hx
 | succ fuel=>
  have:∃ xs,(fs.toList.mapM fun f=>DataW.trod enc P W 0 (fun _=>true) true fuel f.type ((cs.drop f.offset).take (P.cellsOf f.type)))=some xs∧Rows.uptoBulkAll (xs.map (·.1))≤Rows.uptoBulk x.1:=by
   unfold DataW.trod at hx
   rw [ht] at hx
   split at hx
   all_goals first | (exfalso;simp_all;done) | skip
   all_goals
    rename_i heq
    obtain rfl:=TypeDesc.struct.inj (aa heq)
    split at hx
    ·obtain ⟨xs,h1,rfl⟩:=c9.1 hx
     exact ⟨xs,h1,by simp only [Rows.uptoBulk];omega⟩
    ·cases hx
  obtain ⟨xs,h1,hbk⟩:=this
  obtain ⟨a,h2,h3⟩:=h.dec H enc W fuel cs xs (by omega) hb h1
  exact ⟨a,⟨h2.1,bQ h2.2 hbk⟩,fun i c hi=>by simpa using h3 i c hi⟩
def Uj(P:Program)(t:TypeId)(α:Type)(e:α→AV)(V:α→Prop):Prop:=
 (∀ a,(e a).pure=true)∧∀ (H:Type)(enc:TypeId×Value→H)(W:World)(v:Value)(d:DataW H)(ps:List MemPlace)(base:Nat),Ib W→Value.okWide P W .any base t v→DataW.Trod enc P W 0 (fun _=>true) true t v d ps→
  ∃ a,(V a∧AV.uB (e a)≤Rows.uptoBulk d)∧VR W (fun b=>b<W.heap.size) (fun _=>0) (e a) v
theorem NT{t:TypeId}{fs:Array Field}{α:Type}{cl:α→List AV}{V:α→Prop}(e:α→AV)(ht:P.underlying t=some (.struct fs))(h:∀ N,pR P N t α cl V)(he:∀ a,e a= .a (cl a)):Uj P t α e V:=by
 refine ⟨fun a=>by rw [he];exact jo fun c hc=>((h 0).one a c hc).2,fun H enc W v d ps base hb hok ⟨fuel,hx⟩=>?_⟩
 obtain ⟨vs,rfl,hs⟩:=okWide_struct ht hok
 obtain ⟨a,h1,h2⟩:=(h fuel).dec H enc W fuel _ _ (aS _) hb hx
 refine ⟨a,⟨h1.1,by rw [he];exact h1.2⟩,?_⟩
 rw [he]
 refine .a _ vs (by rw [(h 0).len,hs]) (fun c hc=>((h 0).one a c hc).1) fun m c hc=>?_
 have:=h2 m c hc
 simpa [Value.cells,bn,cb] using this
theorem BW{t:TypeId}{α:Type}{V:α→Prop}(e:α→AV)(h:∀ N,pR P N t α (fun a=>[e a]) V)(hsc:∀ (W:World)(base:Nat)(v:Value),Value.okWide P W .any base t v→v.cells=#[v]):Uj P t α e V:=by
 refine ⟨fun a=>((h 0).one a _ (by simp)).2,fun H enc W v d ps base hb hok ⟨fuel,hx⟩=>?_⟩
 obtain ⟨a,h1,h2⟩:=(h fuel).dec H enc W fuel _ _ (aS _) hb hx
 refine ⟨a,⟨h1.1,by have:=h1.2;simpa [AV.dQ] using this⟩,?_⟩
 have:=h2 0 (e a) rfl
 rwa [hsc W base v hok] at this
theorem ady{t:TypeId}{k:IntKind}(ht:P.underlying t=some (.int k))(W:World)(base:Nat)(v:Value)(h:Value.okWide P W .any base t v):v.cells=#[v]:=by
 obtain ⟨n,rfl⟩:=okWide_int ht h;rfl
theorem Xj{t:TypeId}(ht:P.underlying t=some .bool)(W:World)(base:Nat)(v:Value)(h:Value.okWide P W .any base t v):v.cells=#[v]:=by
 obtain ⟨n,rfl⟩:=okWide_bool ht h;rfl
theorem M8{t e:TypeId}(ht:P.underlying t=some (.slice e))(W:World)(base:Nat)(v:Value)(h:Value.okWide P W .any base t v):v.cells=#[v]:=by
 obtain ⟨a,l,c,rfl⟩:=okWide_slice ht h;rfl
def M9(P:Program)(ts:List TypeId)(Good:List AV→Prop):Prop:=
 ∀ (H:Type)(enc:TypeId×Value→H)(W:World)(vs:List Value)(ds:List (DataW H))(ps:List MemPlace)(base:Nat),Ib W→(∀ (j:Nat) t v,ts[j]? =some t→vs[j]? =some v→Value.okWide P W .any base t v)→
  DataW.TrodAll enc P W 0 (fun _=>true) true ts vs ds ps→∃ ys,(Good ys∧AV.dQ ys≤Rows.uptoBulkAll ds)∧ys.length=vs.length∧AV.bk ys=true∧∀ (i:Nat)(y:AV),ys[i]? =some y→VR W (fun b=>b<W.heap.size) (fun _=>0) y (vs.getD i undef)
theorem Uk:M9 P [] (fun ys=>ys=[]):=fun H enc W vs ds ps base hb hok h=>by
 obtain ⟨rfl,rfl,rfl⟩:=trodAll_nil h
 exact ⟨[],⟨rfl,ct _⟩,rfl,rfl,fun i y h=>by simp at h⟩
theorem wy{t:TypeId}{ts:List TypeId}{α:Type}{e:α→AV}{V:α→Prop}{Good:List AV→Prop}(h:Uj P t α e V)(h':M9 P ts Good):M9 P (t::ts) (fun ys=>∃ a zs,V a∧Good zs∧ys=e a::zs):=fun H enc W vs ds ps base hb hok hx=>by
 obtain ⟨v,vs1,d,ds1,p,q,rfl,rfl,rfl,h1,h2⟩:=trodAll_cons hx
 obtain ⟨a,h3,h4⟩:=h.2 H enc W v d p base hb (hok 0 t v rfl rfl) h1
 obtain ⟨zs,h5,h6,h7,h8⟩:=h' H enc W vs1 ds1 q base hb (fun j t v ht hv=>hok (j+1) t v ht hv) h2
 refine ⟨e a::zs,⟨⟨a,zs,h3.1,h5.1,rfl⟩,by have e1:=h3.2;have e2:=h5.2;simp only [AV.dQ,Rows.uptoBulkAll];omega⟩,by simp [h6],by simp [AV.bk,h.1,h7],fun i y hi=>?_⟩
 cases i with
 | zero=>
   obtain rfl:e a=y:=by simpa using hi
   exact h4
 | succ i=>simpa using h8 i y (by simpa using hi)
end
theorem KJ{H:Type}{enc:TypeId×Value→H}{P:Program}{R:Rec}{f:FuncId}{fn:Func}{s:ChangeSpec}{apart fresh handsOn again:Bool}{S:List TypeId}{tb:TypeId}{Good:bJ→List AV→Prop}(hS:wv P S=true)
  (hR:∀ B:bJ,@lj B P R) (hv:s.vars=[]) (hr:fn.resultTypes=#[tb]) (htb:P.underlying tb=some .bool)
  (hfn:∀ ds:List (DataW H),ds.length=fn.params.size→s.fn H ds={results:=[.lit (.bool true)],args:=ds})
  (hp:∀ t∈fn.params.toList,t∈S) (hdec:∀ B:bJ,@M9 B P fn.params.toList (Good B)) (hcall:∀ (B:bJ)(ys:List AV),Good B ys→AV.dQ ys≤1048576→R ⟨0,false⟩ f ys (fun _=>none)=some (.ret (.b true),fun _=>none))
  (W:World) (base:Nat) (args:Array Value) (ds gs:List (DataW H)) (before:List MemPlace)
  (hval:∀ (j:Nat) t v,fn.params[j]? =some t→args[j]? =some v→Value.okWide P W .any base t v)
  (hW:DataW.Whole enc P fn.params.toList s.vars apart W args.toList ds gs before) (hk:Rows.uptoSmall H (ds++gs)=true) (hlay:JC W fun b=>b<W.heap.size) :
  Calls P f args W fun e W'=>∃ v,e= .returned v∧s.post enc P fn apart fresh handsOn again W args v W':=by
 let B:bJ:=⟨W.heap.size,fun _=>true⟩
 have hW0:=hW
 obtain ⟨p,q,hA,hV,rfl,hz,hn⟩:=hW
 have hlen:∀ {ts:List TypeId}{vs:List Value}{ds:List (DataW H)}{ps:List MemPlace},DataW.TrodAll enc P W 0 (fun _=>true) true ts vs ds ps→ds.length=ts.length:=by
  intro ts
  induction ts with
  | nil=>intro vs ds ps h;obtain ⟨_,rfl,_⟩:=trodAll_nil h;rfl
  | cons t ts ih=>intro vs ds ps h;obtain ⟨v,vs1,d,ds1,p,q,rfl,rfl,rfl,h1,h2⟩:=trodAll_cons h;simp [ih h2]
 obtain ⟨ys,h1,h2,h3,h4⟩:=hdec B H enc W args.toList ds p base ⟨rfl,fun _=>rfl⟩ (fun j t v ht hv=>hval j t v (by simpa using ht) (by simpa using hv)) hA
 have hok:=(hR B).pure (hcall B ys h1.1 (bQ h1.2 (by have:=nj hk;rw [vo] at this;omega))) (fun y hy=>ft h3 y hy)
 refine (hok.2 W (fun b=>b<W.heap.size) (fun _=>0) args ⟨aS _,hlay⟩ (fun b hb=>hb) (by simpa using h2.symm) (fun i y hi=>by simpa [bn,cb] using h4 i y hi)).mono ?_
 rintro e W' ⟨v,I',rfl,hv',hsize,hold,_,_,_,hio⟩
 cases hv'
 exact ⟨_,rfl,NS hS hW0 hv hr htb (hfn ds (by rw [hlen hA];simp)) hp hold hio⟩
end Go.Proofs.YtkkkkondjclcnaaGreat.A
