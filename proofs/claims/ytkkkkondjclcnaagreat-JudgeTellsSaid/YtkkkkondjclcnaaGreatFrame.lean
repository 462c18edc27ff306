/- From the abstract run of a law to its row: what the arguments read as, lies in the model as plain values; what never changes reads as it did. -/
import Derived.Test.YtkkkkondjclcnaaGreatAbsG
import Derived.Test.YtkkkkondjclcnaaGreatRows
import Derived.WalkKit
import Derived.ProofKit
import Derived.OpenShut
import Derived.JoinedCond
set_option linter.all false
namespace Go.Proofs.YtkkkkondjclcnaaGreat.A
open Go Go.ChangeShapes Go.WideShapes Go.ChangeAt Go.RowKit
def y0(P:Program)(S:List TypeId):Bool:=S.all fun t=>match P.underlying t with
 | some .bool=>true
 | some (.int _)=>true
 | some .string=>true
 | some (.slice e)=>decide (0<P.cellsOf e)&&S.contains e
 | some (.struct fs)=>fs.toList.all fun f=>S.contains f.type
 | _=>false
mutual
def AV.GU:AV→Nat
 | .s ys=>ys.length+1
 | .l _ es=>AV.jE es+1
 | .a cs=>AV.jE cs
 | .i _ _=>1
 | .b _=>1
 | _=>0
def AV.jE:List AV→Nat
 | []=>0
 | x::xs=>AV.GU x+AV.jE xs
end
theorem Bu:∀ (l m:List AV),AV.jE (l++m)=AV.jE l+AV.jE m
 | [],m=>by simp [AV.jE]
 | x::l,m=>by simp only [eJ,AV.jE,Bu l m];omega
theorem aag(x:AV):AV.GU x=AV.jE x.cl:=by
 cases x<;>simp [AV.cl,AV.jE,AV.GU]
theorem DZ{H:Type} : ∀ (l m:List (DataW H)),Rows.uptoBulkAll (l++m)=Rows.uptoBulkAll l+Rows.uptoBulkAll m
 | [],m=>by simp [Rows.uptoBulkAll]
 | x::l,m=>by simp only [eJ,Rows.uptoBulkAll,DZ l m];omega
theorem Jf{α β:Type}{f:α→Option β} : ∀ {l:List α}{ys:List β},l.mapM f=some ys→ys.length=l.length∧∀ (i:Nat)(a:α),l[i]? =some a→∃ y,f a=some y∧ys[i]? =some y
 | [],ys,h=>by
  obtain rfl:ys=[]:=by simpa using h.symm
  exact ⟨rfl,fun i a h=>by simp at h⟩
 | x::l,ys,h=>by
  simp only [yn,FC,ah] at h
  obtain ⟨y,h1,zs,h2,h3⟩:=h
  obtain rfl:y::zs=ys:=af h3
  obtain ⟨h4,h5⟩:=Jf h2
  refine ⟨by simp [h4],fun i a hi=>?_⟩
  cases i with
  | zero=>
    obtain rfl:x=a:=by simpa using hi
    exact ⟨y,h1,rfl⟩
  | succ i=>exact h5 i a (by simpa using hi)
theorem za{α β:Type}{f g:α→Option β} : ∀ {l:List α}{ys:List β},l.mapM f=some ys→(∀ a∈l,∀ y∈ys,f a=some y→g a=some y)→l.mapM g=some ys
 | [],ys,h,_=>by simpa using h
 | x::l,ys,h,hg=>by
  simp only [yn,FC,ah] at h ⊢
  obtain ⟨y,h1,zs,h2,h3⟩:=h
  obtain rfl:y::zs=ys:=af h3
  exact ⟨y,hg x (by simp) y (by simp) h1,zs,za h2 fun a ha z hz=>hg a (by simp [ha]) z (by simp [hz]),rfl⟩
section
variable {H:Type}{enc:TypeId×Value→H}{P:Program}{W W':World}
theorem Xl(hk:∀ b,b<W.heap.size→W'.heap[b]? =W.heap[b]?){a:Addr}{v:Value}(h:W.cell? a=some v):W'.cell? a=some v:=by
 have hb:a.block<W.heap.size:=by
  apply BJ
  intro hn
  unfold World.cell? at h
  rw [Array.getElem?_eq_none (by omega)] at h
  cases h
 unfold World.cell? at h ⊢
 rw [hk _ hb];exact h
theorem V1(hk:∀ b,b<W.heap.size→W'.heap[b]? =W.heap[b]?){base:Nat}{a:Addr}{n:Nat}{cs:List Value}(h:W.cells? base a n=some cs):W'.cells? base a n=some cs:=by
 unfold World.cells? at h ⊢
 split
 ·rename_i hb
  rw [ab hb] at h
  exact za h fun i _ y _ hy=>Xl hk hy
 ·rename_i hb
  rw [aa hb] at h;exact h
theorem Jg(hk:∀ b,b<W.heap.size→W'.heap[b]? =W.heap[b]?){sp:Nat→Bool}{S:List TypeId}(hS:y0 P S=true):∀ (fuel:Nat)(t:TypeId)(cs:List Value)(x:DataW H×List MemPlace),t∈S→
  DataW.trod enc P W 0 (fun _=>true) true fuel t cs=some x→(∀ p∈x.2,sp p.block=true)→DataW.trod enc P W' 0 sp true fuel t cs=some x
 | 0,_,_,_,_,h,_=>by simp [DataW.trod] at h
 | fuel+1,t,cs,x,ht,h,hs=>by
  have hp:=cJ.1 hS t ht
  unfold DataW.trod at h ⊢
  split at hp
  ·rename_i hu;rw [hu] at h ⊢;split at h<;>first | exact h | (exfalso;simp_all;done)
  ·rename_i k hu;rw [hu] at h ⊢;split at h<;>first | exact h | (exfalso;simp_all;done)
  ·rename_i hu;rw [hu] at h ⊢;split at h<;>first | exact h | (exfalso;simp_all;done)
  ·rename_i e hu
   rw [hu] at h ⊢
   simp only [aC,eI,List.contains_iff_mem] at hp
   obtain ⟨D,aJ⟩:=hp
   have ae:∀ (a:Addr)(y:DataW H×List MemPlace),(W.cells? 0 a (P.cellsOf e)).bind (DataW.trod enc P W 0 (fun _=>true) true fuel e)=some y→(∀ p∈y.2,sp p.block=true)→
     (W'.cells? 0 a (P.cellsOf e)).bind (DataW.trod enc P W' 0 sp true fuel e)=some y:=by
    intro a y hy aG
    obtain ⟨ds,h1,h2⟩:=ah.1 hy
    exact ah.2 ⟨ds,V1 hk h1,Jg hk hS fuel e ds y aJ h2 aG⟩
   split at h
   all_goals first | (exfalso;simp_all;done) | skip
   ·exact h
   ·rename_i a len cap heq
    obtain rfl:=TypeDesc.slice.inj (af heq)
    dsimp only at h ⊢
    split at h
    ·rename_i hc
     rw [ab hc]
     obtain ⟨elems,h1,h2⟩:=ah.1 h
     simp only [az,db] at h2
     obtain ⟨rest,h3,rfl⟩:=h2
     have ar:∀ y∈elems++rest,∀ p∈y.2,sp p.block=true:=fun y hy p hp=>hs p (by
      simp only [dk,BI]
      exact .inr ⟨y,dk.1 hy|>.elim (fun h=>by simp [h]) (fun h=>by simp [h]),hp⟩)
     refine ah.2 ⟨elems,za h1 fun i _ y hy hi=>ae _ _ hi (ar y (by simp [hy])),?_⟩
     refine db.2 ⟨rest,?_,rfl⟩
     cases aH:sp a.block with
     | true=>
      simp only [az]
      exact za h3 fun i _ y hy hi=>ae _ _ hi (ar y (by simp [hy]))
     | false=>
      have hz:elems.length+rest.length=0:=by
       apply BJ
       intro aT
       have:0<(elems.length+rest.length)*P.cellsOf e:=Nat.mul_pos (by omega) D
       have:=hs (.cell a.block (a.off+0)) (by
        simp only [dk,MemPlace.row,iJ,yt]
        exact .inl ⟨0,this,rfl⟩)
       rw [show (MemPlace.cell a.block (a.off+0)).block=a.block from rfl,aH] at this
       cases this
      have:rest=[]:=yq (by omega)
      subst this
      rfl
    ·cases h
  ·rename_i fs hu
   rw [hu] at h ⊢
   have aN:∀ {cs:List Value},(if cs.length=P.cellsOf t then (fs.toList.mapM fun f=>DataW.trod enc P W 0 (fun _=>true) true fuel f.type ((cs.drop f.offset).take (P.cellsOf f.type))).map fun xs=>(DataW.agg (xs.map (·.1)),xs.flatMap (·.2)) else none)=some x→
     (if cs.length=P.cellsOf t then (fs.toList.mapM fun f=>DataW.trod enc P W' 0 sp true fuel f.type ((cs.drop f.offset).take (P.cellsOf f.type))).map fun xs=>(DataW.agg (xs.map (·.1)),xs.flatMap (·.2)) else none)=some x:=by
    intro cs h
    split at h
    ·rename_i hl
     rw [ab hl]
     obtain ⟨xs,h1,rfl⟩:=db.1 h
     refine db.2 ⟨xs,za h1 fun f hf y hy aM=>?_,rfl⟩
     exact Jg hk hS fuel f.type _ y (by simpa using List.all_eq_true.1 hp f hf) aM fun p aI=>hs p (BI.2 ⟨y,hy,aI⟩)
    ·cases h
   split at h
   all_goals first | (exfalso;simp_all;done) | skip
   all_goals (rename_i heq;obtain rfl:=TypeDesc.struct.inj (af heq))
   all_goals exact aN h
  ·cases hp
theorem Ii(hk:∀ b,b<W.heap.size→W'.heap[b]? =W.heap[b]?){sp:Nat→Bool}{S:List TypeId}(hS:y0 P S=true):∀ {ts:List TypeId}{vs:List Value}{ds:List (DataW H)}{ps:List MemPlace},(∀ t∈ts,t∈S)→
  DataW.TrodAll enc P W 0 (fun _=>true) true ts vs ds ps→(∀ p∈ps,sp p.block=true)→DataW.TrodAll enc P W' 0 sp true ts vs ds ps
 | [],[],[],_,_,h,_=>h
 | _::_,_::_,_::_,_,hT,⟨p,q,⟨m,h1⟩,h2,e⟩,hs=>⟨p,q,⟨m,Jg hk hS m _ _ _ (hT _ (by simp)) h1 fun x hx=>hs x (by rw [e];exact pW _ hx)⟩,Ii hk hS (fun t ht=>hT t (by simp [ht])) h2 (fun x hx=>hs x (by rw [e];exact pX _ hx)),e⟩
theorem Xm(hk:∀ b,b<W.heap.size→W'.heap[b]? =W.heap[b]?)(M:W'.os=W.os∧W'.output=W.output)(may:MemPlace→Prop):W.keptBut W' may:=by
 refine ⟨M.1,M.2,fun i hi=>?_⟩
 rw [hk i hi]
 split
 ·rename_i c t fr c' t' fr' h1 h2
  rw [h1] at h2
  cases h2
  exact ⟨rfl,rfl,rfl,fun _ _=>rfl⟩
 ·rename_i h1 h2
  rw [h1] at h2
  cases h2
  exact .inr ⟨rfl,rfl⟩
 ·rfl
theorem Ra{f:Func}{s:ChangeSpec}{apart fresh handsOn again:Bool}{args:Array Value}{ds gs:List (DataW H)}{before:List MemPlace}{S:List TypeId}{tb:TypeId}(hS:y0 P S=true)
  (hW:DataW.Whole enc P f.params.toList s.vars apart W args.toList ds gs before) (hv:s.vars=[])
  (hr:f.resultTypes=#[tb]) (ac:P.underlying tb=some .bool) (an:s.fn H ds={results:=[.lit (.bool true)],args:=ds}) (hp:∀ t∈f.params.toList,t∈S)
  (hk:∀ b,b<W.heap.size→W'.heap[b]? =W.heap[b]?) (M:W'.os=W.os∧W'.output=W.output) :
  s.post enc P f apart fresh handsOn again W args (.bool true) W':=by
 have hold:∀ p∈before,(fun b=>decide (b<W.heap.size)) p.block=true:=fun p hp=>by simpa using hW.lt p hp
 have ad:∀ p∈before,p.block<W.heap.size:=fun p hp=>hW.lt p hp
 have ag:=hW
 obtain ⟨p,q,hA,hV,rfl,hz,hn⟩:=hW
 rw [hv] at hV
 obtain ⟨rfl,rfl⟩:=trodVars_none hV
 have aR:∀ sp,DataW.TrodVars enc P W' sp s.vars [] []:=fun sp=>by rw [hv];rfl
 have aj:∀ (b:Nat)(sp:Nat→Bool)(hd:Bool),DataW.TrodAll enc P W' b sp hd f.resultTypes.toList ((Value.bool true).resultList f.resultTypes.size) [.lit (.bool true)] []:=by
  intro b sp hd
  rw [hr]
  exact trodAll_cons_mk (shut_bool ac _) trodAll_mk0
 simp only [mW] at hA hold ad hz hn ag
 have Z:∀ sp:Nat→Bool,(∀ x∈p,sp x.block=true)→DataW.TrodAll enc P W' 0 sp true f.params.toList args.toList ds p:=fun sp hs=>Ii hk hS hp hA hs
 have K:s.fn H (ds++[])={results:=[.lit (.bool true)],args:=ds}:=by rw [mW];exact an
 have G:∀ (b:Nat)(sp:Nat→Bool)(hd:Bool),DataW.TrodAll enc P W' b sp hd f.resultTypes.toList ((Value.bool true).resultList f.resultTypes.size) (s.fn H (ds++[])).results []:=by rw [K];exact aj
 have C:∀ sp:Nat→Bool,(∀ x∈p,sp x.block=true)→DataW.TrodAll enc P W' 0 sp true f.params.toList args.toList (s.fn H (ds++[])).args p:=by rw [K];exact Z
 have aB:∀ sp,DataW.TrodVars enc P W' sp s.vars (s.fn H (ds++[])).vars []:=by rw [K];exact aR
 refine ⟨ds,[],p,[],p,[],ag,G _ _ _,C _ hold,aB _,Xm hk M _,fun _=>?_⟩
 refine ⟨?_,_,_,([]++p)++[],⟨[]++p,[],trodAll_append (C _ fun _ _=>rfl) (G _ _ _),aB _,rfl,?_,?_⟩,?_⟩
 ·rw [hr]
  intro j t r h1 h2
  cases j with
  | zero=>
   simp only [Value.resultList] at h2
   obtain rfl:tb=t:=by simpa using h1
   obtain rfl:Value.bool true=r:=by simpa using h2
   exact okWide_bool_mk ac _
  | succ j=>simp at h1
 ·intro b off hp'
  have au:MemPlace.cell b off∈p:=by simpa using hp'
  have h3:=hz b off au
  have h4:=ad _ au
  unfold World.frozen? at h3 ⊢
  have h5:W'.heap[b]? =W.heap[b]? :=hk _ h4
  simp only [h5];exact h3
 ·intro ha
  simpa using hn ha
 ·intro x hx _
  simpa using hx
variable [bM]
def KU(W:World):Prop:=bM.n0=W.heap.size∧∀ t,bM.tg t=true
structure ua(P:Program)(N:Nat)(t:TypeId)(α:Type)(cl:α→List AV)(V:α→Prop):Prop where
 len:∀ a,(cl a).length=P.cellsOf t
 one:∀ a,∀ c∈cl a,c.one=true∧c.pure=true
 dec:∀ (H:Type)(enc:TypeId×Value→H)(W:World)(fuel:Nat)(cs:List Value)(x:DataW H×List MemPlace),fuel≤N→KU W→DataW.trod enc P W 0 (fun _=>true) true fuel t cs=some x→
  ∃ a,(V a∧AV.jE (cl a)≤Rows.uptoBulk x.1)∧∀ (i:Nat)(c:AV),(cl a)[i]? =some c→VR W (fun b=>b<W.heap.size) (fun _=>0) c (cs.getD i undef)
theorem Qp{t:TypeId}{α:Type}{cl:α→List AV}{V:α→Prop}(h1:∀ a,(cl a).length=P.cellsOf t)(h2:∀ a,(cl a).all (fun c=>c.one&&c.pure)=true):ua P 0 t α cl V:=
 ⟨h1,fun a c hc=>by simpa using List.all_eq_true.1 (h2 a) c hc,fun _ _ _ fuel _ _ hf _ h=>by
  obtain rfl:fuel=0:=by omega
  simp [DataW.trod] at h⟩
theorem nT{N:Nat}{t:TypeId}{k:IntKind}(ht:P.underlying t=some (.int k))(hc:P.cellsOf t=1):ua P N t Int (fun n=>[.i k n]) (fun n=>(Lit.int k n).wf=true):=by
 refine ⟨fun a=>hc.symm,fun a c h=>by obtain rfl:=jj.1 h;exact ⟨rfl,rfl⟩,fun H enc W fuel cs x _ _ h=>?_⟩
 cases fuel with
 | zero=>simp [DataW.trod] at h
 | succ fuel=>
  unfold DataW.trod at h
  rw [ht] at h
  split at h
  all_goals first | (exfalso;simp_all;done) | skip
  rename_i k1 k2 n heq
  obtain rfl:=TypeDesc.int.inj (af heq)
  split at h
  ·rename_i aL
   obtain ⟨rfl,hw⟩:=aL
   refine ⟨n,⟨hw,by obtain rfl:=af h;simp [AV.jE,AV.GU,Rows.uptoBulk]⟩,fun i c hi=>?_⟩
   cases i with
   | zero=>
     obtain rfl:AV.i _ n=c:=by simpa using hi
     exact .i _ n
   | succ i=>simp at hi
  ·cases h
theorem Xn{N:Nat}{t:TypeId}(ht:P.underlying t=some .bool)(hc:P.cellsOf t=1):ua P N t Bool (fun n=>[.b n]) (fun _=>True):=by
 refine ⟨fun a=>hc.symm,fun a c h=>by obtain rfl:=jj.1 h;exact ⟨rfl,rfl⟩,fun H enc W fuel cs x _ _ h=>?_⟩
 cases fuel with
 | zero=>simp [DataW.trod] at h
 | succ fuel=>
  unfold DataW.trod at h
  rw [ht] at h
  split at h
  all_goals first | (exfalso;simp_all;done) | skip
  rename_i b heq
  refine ⟨b,⟨trivial,by obtain rfl:=af h;simp [AV.jE,AV.GU,Rows.uptoBulk]⟩,fun i c hi=>?_⟩
  cases i with
  | zero=>
    obtain rfl:AV.b b=c:=by simpa using hi
    exact .b b
  | succ i=>simp at hi
theorem ua.map{N:Nat}{t:TypeId}{α β:Type}{cl:α→List AV}{cl':β→List AV}{V:α→Prop}{V':β→Prop}(h:ua P N t α cl V)(g:α→β)(g':β→α)(hg:∀ a,cl' (g a)=cl a)(ay:∀ b,cl' b=cl (g' b))(hV:∀ a,V a→V' (g a)):ua P N t β cl' V':=
 ⟨fun b=>by rw [ay];exact h.len _,fun b=>by rw [ay];exact h.one _,fun H enc W fuel cs x hN hb hx=>by
  obtain ⟨a,h1,h2⟩:=h.dec H enc W fuel cs x hN hb hx
  exact ⟨g a,⟨hV a h1.1,by rw [hg];exact h1.2⟩,by rw [hg];exact h2⟩⟩
theorem gd{N:Nat}{t e:TypeId}{α:Type}{cl:α→List AV}{V:α→Prop}(f:α→AV)(ht:P.underlying t=some (.slice e))(hc:P.cellsOf t=1)(hd:ua P (N - 1) e α cl V)(hf:∀ a,(f a).cl=cl a∧(f a).nc=P.cellsOf e∧(f a).pure=true)(D:0<P.cellsOf e) :
  ua P N t (List α) (fun l=>[.l e (l.map f)]) (fun l=>l.length≤maxLen∧∀ a∈l,V a):=by
 refine ⟨fun a=>hc.symm,fun a c h=>?_,fun H enc W fuel cs x hN hb h=>?_⟩
 ·obtain rfl:=jj.1 h
  exact ⟨rfl,rfl⟩
 cases fuel with
 | zero=>simp [DataW.trod] at h
 | succ fuel=>
  unfold DataW.trod at h
  rw [ht] at h
  split at h
  all_goals first | (exfalso;simp_all;done) | skip
  ·refine ⟨[],⟨⟨dc _,fun _ h=>by cases h⟩,?_⟩,fun i c hi=>?_⟩
   ·obtain rfl:=af h
    simp [AV.jE,AV.GU,Rows.uptoBulk]
   cases i with
   | zero=>
     obtain rfl:AV.l e []=c:=by simpa using hi
     exact .lnil e none 0
   | succ i=>simp at hi
  ·rename_i e' a len cap heq
   obtain rfl:=TypeDesc.slice.inj (af heq)
   dsimp only at h
   split at h
   ·rename_i aY
    obtain ⟨elems,h1,h2⟩:=ah.1 h
    obtain ⟨hl,hg⟩:=Jf h1
    rw [List.length_range] at hl
    have ae:∀ i,i<len→∃ y ds z,(V y∧elems[i]? =some z∧AV.jE (cl y)≤Rows.uptoBulk z.1)∧W.cells? 0 (a.add (i*P.cellsOf e)) (P.cellsOf e)=some ds∧∀ (m:Nat)(c:AV),(cl y)[m]? =some c→VR W (fun b=>b<W.heap.size) (fun _=>0) c (ds.getD m undef):=by
     intro i hi
     obtain ⟨y,h3,h4⟩:=hg i i (by rw [List.getElem?_range hi])
     obtain ⟨ds,h5,h6⟩:=ah.1 h3
     obtain ⟨b,h7,h8⟩:=hd.dec H enc W fuel ds y (by omega) hb h6
     exact ⟨b,ds,y,⟨h7.1,h4,h7.2⟩,h5,h8⟩
    have O:∀ n,n≤len→∃ l:List α,(l.length=n∧AV.jE (l.map f)≤Rows.uptoBulkAll ((elems.take n).map (·.1)))∧(∀ b∈l,V b)∧∀ i b,l[i]? =some b→∃ ds,W.cells? 0 (a.add (i*P.cellsOf e)) (P.cellsOf e)=some ds∧∀ (m:Nat)(c:AV),(cl b)[m]? =some c→VR W (fun b=>b<W.heap.size) (fun _=>0) c (ds.getD m undef):=by
     intro n
     induction n with
     | zero=>exact fun _=>⟨[],⟨rfl,by simp [AV.jE]⟩,(fun _ h=>by cases h),(fun i b h=>by simp at h)⟩
     | succ n ih=>
      intro hn
      obtain ⟨l,⟨h3,aZ⟩,h4,h5⟩:=ih (by omega)
      obtain ⟨y,ds,z,⟨h6,aD,aS⟩,h7,h8⟩:=ae n (by omega)
      refine ⟨l++[y],⟨by simp [h3],?_⟩,fun b hb=>?_,fun i b hi=>?_⟩
      ·rw [ei,Bu,BE,aD,ei,DZ]
       have:AV.jE ([y].map f)=AV.jE (cl y):=by simp [AV.jE,aag,(hf y).1]
       rw [this]
       simp only [Option.toList_some,fj,u5,Rows.uptoBulkAll]
       omega
      ·rcases dk.1 hb with hb | hb
       ·exact h4 b hb
       ·obtain rfl:=jj.1 hb;exact h6
      ·by_cases aW:i<n
       ·exact h5 i b (by rwa [uZ (by omega)] at hi)
       ·have ad:=(eb.1 hi).1
        obtain rfl:i=n:=by simp [h3] at ad;omega
        obtain rfl:y=b:=by rw [vz (by omega),h3] at hi;simpa using hi
        exact ⟨ds,h7,h8⟩
    obtain ⟨l,⟨al,aK⟩,hV,X⟩:=O len (aV _)
    refine ⟨l,⟨⟨by omega,hV⟩,?_⟩,fun i c hi=>?_⟩
    ·simp only [az,db] at h2
     obtain ⟨rest,_,rfl⟩:=h2
     rw [jL (by omega)] at aK
     simp only [AV.jE,AV.GU,Rows.uptoBulk]
     omega
    cases i with
    | succ i=>simp at hi
    | zero=>
     obtain rfl:AV.l e (l.map f)=c:=by simpa using hi
     by_cases Q:len=0
     ·subst Q
      obtain rfl:l=[]:=yq al
      exact .lnil e (some a) cap
     have u:∀ i,i<len→∀ m,m<P.cellsOf e→∃ v,W.cell? ((a.add (i*P.cellsOf e)).add m)=some v∧∀ b c,l[i]? =some b→(cl b)[m]? =some c→VR W (fun b=>b<W.heap.size) (fun _=>0) c v:=by
      intro i hi m hm
      have aw:i<l.length:=by omega
      obtain ⟨ds,h3,h4⟩:=X i l[i] (aP aw)
      unfold World.cells? at h3
      rw [ab (dc _)] at h3
      obtain ⟨h5,h6⟩:=Jf h3
      obtain ⟨v,h7,h8⟩:=h6 m m (by rw [List.getElem?_range hm])
      refine ⟨v,h7,fun b c aA aO=>?_⟩
      obtain rfl:l[i]=b:=by rw [aP aw] at aA;exact af aA
      have:=h4 m c aO
      rwa [lM,h8] at this
     obtain ⟨v0,L,_⟩:=u 0 (by omega) 0 D
     obtain ⟨g,o,ins⟩:=a
     obtain rfl:ins=none:=by
      rw [BH,show (Addr.mk g o ins).add 0=Addr.mk g o ins from rfl,show (Addr.mk g o ins).add 0=Addr.mk g o ins from rfl] at L
      exact World.cell?_spot L
     have E:∀ o n,(Addr.mk g o none).add n=Addr.mk g (o+n) none:=by
      intro o n
      unfold Addr.add
      split
      ·rename_i h0;subst h0;rfl
      ·rfl
     have ap:∃ vs T fz,W.heap[g]? =some (.cells vs T fz):=by
      unfold World.cell? at L
      rw [E,E] at L
      split at L
      ·rename_i vs T fz hh
       exact ⟨vs,T,fz,hh⟩
      ·cases L
     obtain ⟨vs,T,fz,hh⟩:=ap
     have U:∀ i,i<len→∀ m,m<P.cellsOf e→∃ v,vs[o+i*P.cellsOf e+m]? =some v∧∀ b c,l[i]? =some b→(cl b)[m]? =some c→VR W (fun b=>b<W.heap.size) (fun _=>0) c v:=by
      intro i hi m hm
      obtain ⟨v,h3,h4⟩:=u i hi m hm
      refine ⟨v,?_,h4⟩
      unfold World.cell? at h3
      rw [E,E] at h3
      simp only [hh] at h3
      simpa using h3
     have ax:g<W.heap.size:=by
      apply BJ
      intro hn
      rw [Array.getElem?_eq_none (by omega)] at hh
      cases hh
     have F:o+len*P.cellsOf e≤vs.size:=by
      obtain ⟨v,h3,_⟩:=U (len - 1) (by omega) (P.cellsOf e - 1) (by omega)
      have h4:=(u7.1 h3).1
      have:(len - 1)*P.cellsOf e+P.cellsOf e=len*P.cellsOf e:=by
       rw [←Nat.succ_mul];congr 1;omega
      omega
     have aq:=VR.l (w:=W) (I:=fun b=>b<W.heap.size) (κ:=fun _=>0) e (l.map f) g o cap vs T fz (P.cellsOf e) ax hh (fun _=>⟨fun h=>absurd ax (by rw [←hb.1];omega),fun _=>hb.2 _⟩) D
      (fun x hx=>by obtain ⟨y,_,rfl⟩:=iJ.1 hx;exact (hf y).2.1) (by rw [eY,al];exact F)
      (fun x hx=>by obtain ⟨y,_,rfl⟩:=iJ.1 hx;exact (hf y).2.2)
      (fun x hx c hc=>by obtain ⟨y,_,rfl⟩:=iJ.1 hx;rw [(hf y).1] at hc;exact (hd.one y c hc).1)
      (by rw [eY];omega) (by omega)
      (fun j x m c hx hc=>by
       rw [yl] at hx
       obtain ⟨y,hy,rfl⟩:=db.1 hx
       rw [(hf y).1] at hc
       have aU:j<l.length:=(eb.1 hy).1
       have av:m<(cl y).length:=(eb.1 hc).1
       rw [hd.len] at av
       obtain ⟨v,h3,h4⟩:=U j (by omega) m av
       have:=h4 y c hy hc
       rw [dK,h3]
       exact this)
     rw [eY,al] at aq
     exact aq
   ·cases h
structure TJ(P:Program)(N:Nat)(off:Nat)(fs:List Field)(α:Type)(cl:α→List AV)(V:α→Prop):Prop where
 len:∀ a,(cl a).length=(fs.map fun f=>P.cellsOf f.type).sum
 one:∀ a,∀ c∈cl a,c.one=true∧c.pure=true
 dec:∀ (H:Type)(enc:TypeId×Value→H)(W:World)(fuel:Nat)(cs:List Value)(xs:List (DataW H×List MemPlace)),fuel≤N→KU W→
  (fs.mapM fun f=>DataW.trod enc P W 0 (fun _=>true) true fuel f.type ((cs.drop f.offset).take (P.cellsOf f.type)))=some xs→
  ∃ a,(V a∧AV.jE (cl a)≤Rows.uptoBulkAll (xs.map (·.1)))∧∀ (i:Nat)(c:AV),(cl a)[i]? =some c→VR W (fun b=>b<W.heap.size) (fun _=>0) c (cs.getD (off+i) undef)
theorem qz{N off:Nat} : TJ P N off [] Unit (fun _=>[]) (fun _=>True):=⟨fun _=>rfl,(fun _ _ h=>by cases h),fun _ _ _ _ _ _ _ _ _=>⟨(),⟨trivial,dc _⟩,fun i c h=>by simp at h⟩⟩
theorem cN{N off:Nat}{f:Field}{fs:List Field}{α β:Type}{cl:α→List AV}{cl':β→List AV}{V:α→Prop}{V':β→Prop}(ak:f.offset=off)(n:Nat)(hn:P.cellsOf f.type=n)(h:ua P N f.type α cl V)(h':TJ P N (off+n) fs β cl' V') :
  TJ P N off (f::fs) (α×β) (fun a=>cl a.1++cl' a.2) (fun a=>V a.1∧V' a.2):=by
 subst hn
 refine ⟨fun a=>by simp [h.len,h'.len],fun a c hc=>(dk.1 hc).elim (h.one _ c) (h'.one _ c),fun H enc W fuel cs xs hN hb hx=>?_⟩
 simp only [yn,FC,ah] at hx
 obtain ⟨y,h1,zs,h2,aE⟩:=hx
 obtain rfl:y::zs=xs:=af aE
 obtain ⟨a,h3,h4⟩:=h.dec H enc W fuel _ y hN hb h1
 obtain ⟨b,h5,h6⟩:=h'.dec H enc W fuel cs zs hN hb h2
 refine ⟨(a,b),⟨⟨h3.1,h5.1⟩,?_⟩,fun i c hi=>?_⟩
 ·have e1:=h3.2
  have e2:=h5.2
  rw [Bu]
  simp only [fj,Rows.uptoBulkAll]
  omega
 by_cases hl:i<(cl a).length
 ·rw [uZ hl] at hi
  have:=h4 i c hi
  rw [h.len] at hl
  rw [lM,List.getElem?_take_of_lt hl,mT,ak,←lM] at this
  exact this
 ·rw [vz (Nat.le_of_not_lt hl),h.len] at hi
  rw [h.len] at hl
  have:=h6 _ c hi
  rwa [show off+P.cellsOf f.type+(i - P.cellsOf f.type)=off+i by omega] at this
theorem mq{N:Nat}{t:TypeId}{fs:Array Field}{α:Type}{cl:α→List AV}{V:α→Prop}(ht:P.underlying t=some (.struct fs))(hc:P.cellsOf t=(fs.toList.map fun f=>P.cellsOf f.type).sum)(h:TJ P (N - 1) 0 fs.toList α cl V):ua P N t α cl V:=by
 refine ⟨fun a=>by rw [h.len,hc],h.one,fun H enc W fuel cs x hN hb hx=>?_⟩
 cases fuel with
 | zero=>simp [DataW.trod] at hx
 | succ fuel=>
  have:∃ xs,(fs.toList.mapM fun f=>DataW.trod enc P W 0 (fun _=>true) true fuel f.type ((cs.drop f.offset).take (P.cellsOf f.type)))=some xs∧Rows.uptoBulkAll (xs.map (·.1))≤Rows.uptoBulk x.1:=by
   unfold DataW.trod at hx
   rw [ht] at hx
   split at hx
   all_goals first | (exfalso;simp_all;done) | skip
   all_goals
    rename_i heq
    obtain rfl:=TypeDesc.struct.inj (af heq)
    split at hx
    ·obtain ⟨xs,h1,rfl⟩:=db.1 hx
     exact ⟨xs,h1,by simp only [Rows.uptoBulk];omega⟩
    ·cases hx
  obtain ⟨xs,h1,aQ⟩:=this
  obtain ⟨a,h2,h3⟩:=h.dec H enc W fuel cs xs (by omega) hb h1
  exact ⟨a,⟨h2.1,bS h2.2 aQ⟩,fun i c hi=>by simpa using h3 i c hi⟩
def agE(P:Program)(t:TypeId)(α:Type)(e:α→AV)(V:α→Prop):Prop:=
 (∀ a,(e a).pure=true)∧∀ (H:Type)(enc:TypeId×Value→H)(W:World)(v:Value)(d:DataW H)(ps:List MemPlace)(base:Nat),KU W→Value.okWide P W .any base t v→DataW.Trod enc P W 0 (fun _=>true) true t v d ps→
  ∃ a,(V a∧AV.GU (e a)≤Rows.uptoBulk d)∧VR W (fun b=>b<W.heap.size) (fun _=>0) (e a) v
theorem Rb{t:TypeId}{fs:Array Field}{α:Type}{cl:α→List AV}{V:α→Prop}(e:α→AV)(ht:P.underlying t=some (.struct fs))(h:∀ N,ua P N t α cl V)(he:∀ a,e a= .a (cl a)):agE P t α e V:=by
 refine ⟨fun a=>by rw [he];exact kM fun c hc=>((h 0).one a c hc).2,fun H enc W v d ps base hb J ⟨fuel,hx⟩=>?_⟩
 obtain ⟨vs,rfl,hs⟩:=okWide_struct ht J
 obtain ⟨a,h1,h2⟩:=(h fuel).dec H enc W fuel _ _ (aV _) hb hx
 refine ⟨a,⟨h1.1,by rw [he];exact h1.2⟩,?_⟩
 rw [he]
 refine .a _ vs (by rw [(h 0).len,hs]) (fun c hc=>((h 0).one a c hc).1) fun m c hc=>?_
 have:=h2 m c hc
 simpa [Value.cells,dK,lM] using this
def Qq(P:Program)(ts:List TypeId)(Good:List AV→Prop):Prop:=
 ∀ (H:Type)(enc:TypeId×Value→H)(W:World)(vs:List Value)(ds:List (DataW H))(ps:List MemPlace)(base:Nat),KU W→(∀ (j:Nat) t v,ts[j]? =some t→vs[j]? =some v→Value.okWide P W .any base t v)→
  DataW.TrodAll enc P W 0 (fun _=>true) true ts vs ds ps→∃ ys,(Good ys∧AV.jE ys≤Rows.uptoBulkAll ds)∧ys.length=vs.length∧AV.aX ys=true∧∀ (i:Nat)(y:AV),ys[i]? =some y→VR W (fun b=>b<W.heap.size) (fun _=>0) y (vs.getD i undef)
theorem Xo:Qq P [] (fun ys=>ys=[]):=fun H enc W vs ds ps base hb J h=>by
 obtain ⟨rfl,rfl,rfl⟩:=trodAll_nil h
 exact ⟨[],⟨rfl,dc _⟩,rfl,rfl,fun i y h=>by simp at h⟩
theorem V2{t:TypeId}{ts:List TypeId}{α:Type}{e:α→AV}{V:α→Prop}{Good:List AV→Prop}(h:agE P t α e V)(h':Qq P ts Good):Qq P (t::ts) (fun ys=>∃ a zs,V a∧Good zs∧ys=e a::zs):=fun H enc W vs ds ps base hb J hx=>by
 obtain ⟨v,vs1,d,ds1,p,q,rfl,rfl,rfl,h1,h2⟩:=trodAll_cons hx
 obtain ⟨a,h3,h4⟩:=h.2 H enc W v d p base hb (J 0 t v rfl rfl) h1
 obtain ⟨zs,h5,h6,h7,h8⟩:=h' H enc W vs1 ds1 q base hb (fun j t v ht hv=>J (j+1) t v ht hv) h2
 refine ⟨e a::zs,⟨⟨a,zs,h3.1,h5.1,rfl⟩,by have e1:=h3.2;have e2:=h5.2;simp only [AV.jE,Rows.uptoBulkAll];omega⟩,by simp [h6],by simp [AV.aX,h.1,h7],fun i y hi=>?_⟩
 cases i with
 | zero=>
   obtain rfl:e a=y:=by simpa using hi
   exact h4
 | succ i=>simpa using h8 i y (by simpa using hi)
end
variable {s:ChangeSpec}{apart fresh handsOn again:Bool}{S:List TypeId}{tb:TypeId}
theorem Rc{H:Type}{enc:TypeId×Value→H}{P:Program}{R:Rec}{f:FuncId}{fn:Func}{Good:bM→List AV→Prop}(hS:y0 P S=true)(hR:∀ B:bM,@kC B P R)(hv:s.vars=[])(hr:fn.resultTypes=#[tb])(ac:P.underlying tb=some .bool)(an:∀ ds:List (DataW H),ds.length=fn.params.size→s.fn H ds={results:=[.lit (.bool true)],args:=ds})(hp:∀ t∈fn.params.toList,t∈S)(ao:∀ B:bM,@Qq B P fn.params.toList (Good B))(Y:∀ (B:bM)(ys:List AV),Good B ys→R ⟨0,false⟩ f ys (fun _=>none)=some (.ret (.b true),fun _=>none))(W:World)(base:Nat)(args:Array Value)(ds gs:List (DataW H))(before:List MemPlace)(ai:∀ (j:Nat) t v,fn.params[j]? =some t→args[j]? =some v→Value.okWide P W .any base t v)(hW:DataW.Whole enc P fn.params.toList s.vars apart W args.toList ds gs before)(am:JI W fun b=>b<W.heap.size):
  Calls P f args W fun e W'=>∃ v,e= .returned v∧s.post enc P fn apart fresh handsOn again W args v W':=by
 let B:bM:=⟨W.heap.size,fun _=>true⟩
 have ag:=hW
 obtain ⟨p,q,hA,hV,rfl,hz,hn⟩:=hW
 have hlen:∀ {ts:List TypeId}{vs:List Value}{ds:List (DataW H)}{ps:List MemPlace},DataW.TrodAll enc P W 0 (fun _=>true) true ts vs ds ps→ds.length=ts.length:=by
  intro ts
  induction ts with
  | nil=>intro vs ds ps h;obtain ⟨_,rfl,_⟩:=trodAll_nil h;rfl
  | cons t ts ih=>intro vs ds ps h;obtain ⟨v,vs1,d,ds1,p,q,rfl,rfl,rfl,h1,h2⟩:=trodAll_cons h;simp [ih h2]
 obtain ⟨ys,h1,h2,h3,h4⟩:=ao B H enc W args.toList ds p base ⟨rfl,fun _=>rfl⟩ (fun j t v ht hv=>ai j t v (by simpa using ht) (by simpa using hv)) hA
 have J:=(hR B).pure (Y B ys h1.1) (fun y hy=>fB h3 y hy)
 refine (J.2 W (fun b=>b<W.heap.size) (fun _=>0) args ⟨aV _,am⟩ (fun b hb=>hb) (by simpa using h2.symm) (fun i y hi=>by simpa [dK,lM] using h4 i y hi)).mono ?_
 rintro e W' ⟨v,I',rfl,aF,F,hold,_,_,_,M⟩
 cases aF
 exact ⟨_,rfl,Ra hS ag hv hr ac (an ds (by rw [hlen hA];simp)) hp hold M⟩
end Go.Proofs.YtkkkkondjclcnaaGreat.A
