/- Watched runs: what watch.Watch answers. -/
import Derived.Test.YtdpjofmmokaobaaGreatWatR
import Derived.Test.YtdpjofmmokaobaaGreatRunP
set_option linter.unusedSectionVars false
set_option linter.unusedVariables false
set_option linter.unusedSimpArgs false
namespace Go.Proofs.YtdpjofmmokaobaaGreat.A
open Go
variable [Lp]
theorem Oj{α ε:Type}{B C:α→Option (α⊕ε)}(h:∀ v,aM (B v) (C v))(v:α):aM (lp B v) (lp C v):=fun y hy=>by
 obtain ⟨n,hn⟩:=xx hy
 refine Fw n ?_
 clear hy
 induction n generalizing v with
 | zero=>cases hn
 | succ n ih=>
  rw [qf] at hn ⊢
  cases hb:B v with
  | none=>rw [hb] at hn;cases hn
  | some o=>
   rw [hb] at hn
   rw [h v o hb]
   cases o with
   | inl w=>exact ih w hn
   | inr x=>exact hn
abbrev RW:=bu
structure KV(R Q:RW):Prop where
 al:∀ w r c l a,aM (R.f_watch_watcher_all w r c l a) (Q.f_watch_watcher_all w r c l a)
 ca:∀ w r c l a,aM (R.f_watch_watcher_call w r c l a) (Q.f_watch_watcher_call w r c l a)
 inn:∀ w r c l a,aM (R.f_watch_watcher_inner w r c l a) (Q.f_watch_watcher_inner w r c l a)
 one:∀ w r c l a,aM (R.f_watch_watcher_one w r c l a) (Q.f_watch_watcher_one w r c l a)
theorem XF{R Q:RW}(h:KV R Q)(w r c l a):aM (dK R w r c l a) (dK Q w r c l a):=by
 unfold dK
 refine aM.bind (Oj (fun v=>?_) _) fun x=>aM.refl _
 unfold fv
 refine aM.ite (aM.bind (aM.refl _) fun _=>aM.bind (h.one _ _ _ _ _) fun _=>aM.refl _) (aM.refl _)
theorem XG{R Q:RW}(h:KV R Q)(w r c l a):aM (dD R w r c l a) (dD Q w r c l a):=by
 unfold dD
 exact aM.bind (aM.refl _) fun _=>aM.ite (aM.bind (aM.refl _) fun _=>aM.bind (aM.refl _) fun _=>aM.bind (aM.refl _) fun _=>aM.bind (aM.refl _) fun _=>aM.bind (h.al _ _ _ _ _) fun _=>aM.refl _) (aM.refl _)
theorem Te{R Q:RW}(h:KV R Q)(w r c l a):aM (dm R w r c l a) (dm Q w r c l a):=by
 unfold dm
 refine aM.bind (aM.refl _) fun _=>aM.ite (aM.bind (aM.refl _) fun _=>aM.bind (h.al _ _ _ _ _) fun _=>aM.refl _) (aM.bind (Oj (fun v=>?_) _) fun x=>aM.refl _)
 unfold eL
 exact aM.bind (aM.refl _) fun _=>aM.ite (aM.ite (aM.bind (h.al _ _ _ _ _) fun _=>aM.refl _) (aM.refl _)) (aM.refl _)
theorem one_le{R Q:RW}(h:KV R Q)(w r c l a):aM (dL R w r c l a) (dL Q w r c l a):=by
 unfold dL
 exact aM.bind (aM.refl _) fun _=>aM.ite (aM.ite (aM.bind (h.ca _ _ _ _ _) fun _=>aM.refl _) (aM.ite (aM.bind (h.inn _ _ _ _ _) fun _=>aM.refl _) (aM.refl _))) (aM.refl _)
theorem CX:∀ n,KV (NW n) (NW (n+1))
 | 0=>⟨fun _ _ _ _ _ _ h=>(by cases h),fun _ _ _ _ _ _ h=>(by cases h),fun _ _ _ _ _ _ h=>(by cases h),fun _ _ _ _ _ _ h=>(by cases h)⟩
 | n+1=>⟨XF (CX n),XG (CX n),Te (CX n),one_le (CX n)⟩
theorem Ok{n:Nat}{w r c l a y}(h:(NW n).f_watch_watcher_all w r c l a=some y):∀ k,(NW (n+k)).f_watch_watcher_all w r c l a=some y
 | 0=>h
 | k+1=>(CX (n+k)).al _ _ _ _ _ _ (Ok h k)
theorem Pb{X:Ctx}(hX:pD X)(hL:oR X.p){r:RunT}{a:Int}{vs pl:List Level}(hv:Valid X 0 r)(h0:0≤a)(h:a≤50)(hw:WV X.p vs pl)(hpl:(pl.length:Int)≤r.Steps+1) :
  ∃ b vs' r',kl (cP X.p vs pl) (mk X r) (dQ X.p) X.p.Main a=some (b,cP X.p vs' pl,mk X r')∧WV X.p vs' pl∧(b=true→Valid X 0 r'∧∀ K,bW X (.run X.p.Main a::K,r) (K,r'))∧(b=false→∀ K,yz X (.run X.p.Main a::K,r) r'):=by
 have hm:=hX.ok.main
 obtain ⟨b,vs',r',e1,e2,e3,e4⟩:=(Pa hX hL (3*6+100*X.p.Funcs.length+1)).1 X.p.Funcs.length X.p.Main (Nat.le_refl _) (by omega) hX.ok.mains hm.1 hm.2 r a vs pl hv h0 (by omega) hw hpl
 refine ⟨b,vs',r',vB (3*6+100*X.p.Funcs.length+1) fun n hn=>?_,e2,fun hb=>⟨(e3 hb).1,(e3 hb).2.2⟩,e4⟩
 obtain ⟨k,rfl⟩:=Nat.exists_eq_add_of_le hn
 exact Ok e1 k
theorem KY(n k:Nat)(b:Bool):on (List.replicate n b) k=(b&&decide (k<n)):=by
 unfold on
 rw [List.getD_eq_getElem?_getD,List.getElem?_replicate]
 by_cases h:k<n
 ·rw [if_pos h,decide_eq_true h];cases b<;>rfl
 ·rw [if_neg h,decide_eq_false h];cases b<;>rfl
theorem KZ{n:Nat}{m:Level} : qN n (qO n) m=true:=by
 unfold qN BE qO
 simp only [Bool.and_eq_true,List.all_eq_true,List.mem_range]
 refine ⟨fun k hk=>?_,fun k hk=>?_⟩
 ·rw [KY,decide_eq_true hk];simp
 ·rw [KY];simp
theorem Ol{n:Nat}{x:List Bool}(h:x.length=n):(List.range n).map (fun k=>on x k)=x:=by
 apply List.ext_getElem?
 intro k
 rw [List.getElem?_map]
 by_cases hk:k<n
 ·rw [List.getElem?_range hk,nS (show k<x.length by omega)];rfl
 ·rw [List.getElem?_eq_none (by simp;omega),List.getElem?_eq_none (by omega)];rfl
theorem join_self{n:Nat}{l:Level}(h:dY n l):Ag n l l=l:=by
 unfold Ag uL zC
 simp only [Bool.and_self,Bool.or_self]
 rw [Ol h.1,Ol h.2]
theorem Tf{p:Program}(h:oR p){l:Level}(hl:dY (MM p) l):rU l=some l:=by
 unfold rU
 rw [CV h.small hl hl,Option.bind_some,join_self hl]
theorem GP{p:Program}(h:oR p){vs pl:List Level}(hw:WV p vs pl)(hv:p.Vars.length≤16)(r8:aw)(b:Bool)(r:Runner)(e:Int):jW r8 (b,cP p vs pl,r) e=some (vs,e):=by
 have hl:=hw.len
 unfold jW
 have:=qC (B:=fun v=>kR r8 (b,cP p vs pl,r) e v.1 v.2) vs.length (fun k=>(vs.take k,k)) (x:=(vs,vs.length,false)) (fun k hk=>by
  unfold kR
  simp only [FA]
  rw [if_pos (by omega),List.getElem?_eq_getElem hk,Option.bind_some,Tf h (hw.sz _ (List.getElem_mem hk)),Option.bind_some,if_pos (by simp only [List.length_take,List.length_singleton];omega),if_pos (jR (by omega)),zB hk]) (by
  unfold kR
  simp only [FA]
  rw [if_neg (by omega),List.take_length]
  exact congrArg (fun z=>some (Sum.inr (vs,vs.length,z))) (decide_eq_false (Int.lt_irrefl _)))
 simp only [List.take_zero] at this
 rw [this,Option.bind_some]
theorem K0{p:Program}(h:oR p):rT p=some (dQ p):=by
 unfold rT
 rw [Of _ h.iB,Option.bind_some];rfl
theorem Pc{p:Program} : WV p (List.replicate p.Vars.length (qO (MM p))) [qO (MM p)]:=
 ⟨by simp,fun l hl=>by rw [List.eq_of_mem_replicate hl];exact zD _,by simp,by simp,fun l hl=>by rw [List.mem_singleton.1 hl];exact zD _,fun i v l _ _ hl=>by
  rw [List.eq_of_mem_replicate (List.mem_of_getElem? hl)];exact KZ⟩
def Pd(X:Ctx)(c:js)(r:RunT):Prop:=Comes X c r∨Td X c r
theorem Nd{p:Program}{ins:List (List Int)}{fuel:Int}(hp:∀ f∈p.Funcs,f.Params.length≤9223372036854775807) :
  (lP p ins fuel≠0→mF p ins fuel=some (⟨[],[],[],0,0,0⟩,[],lP p ins fuel))∧(lP p ins fuel=0→∃ r vs,mF p ins fuel=some (r,vs,0)∧(∃ pl,WV p vs pl)∧Pd (eh p ins fuel) (Gx p) r):=by
 unfold mF
 rw [Gz hp,Option.bind_some]
 refine ⟨fun h=>?_,fun h=>?_⟩
 ·rw [if_pos (by simp [h])]
 ·rw [if_neg (by simp [h])]
  have hX:=GA h
  have hok:iN p=0:=by
   unfold lP at h
   by_cases h1:iN p=0
   ·exact h1
   ·rw [if_pos h1] at h;exact absurd h h1
  have hL:oR p:=Tc hok
  have hv16:=hX.ok.vars
  have hv16':p.Vars.length≤16:=hv16
  rw [KK hX,Option.bind_some,zE hL,Option.bind_some,K0 hL,Option.bind_some]
  obtain ⟨g1,g2,g3⟩:=xT hX (k:=p.Funcs.length) (by omega) (Int.le_refl _)
  have hv:Valid (eh p ins fuel) 0 (init p):=⟨by simp [init,eh],fun x hx=>by rw [List.eq_of_mem_replicate hx];rfl,by simp [init,eh],fun t ht=>by rw [List.eq_of_mem_replicate ht];simp [init],by have:=hX.fuel;simp only [init];omega,by simp [init],rfl⟩
  have hlp:=qC (B:=fun v=>kQ p (mk (eh p ins fuel) (init p)) (qO (MM p)) (dQ p) v.1 v.2) p.Vars.length (fun k=>(k,List.replicate k (qO (MM p)))) (x:=(p.Vars.length,false,List.replicate p.Vars.length (qO (MM p)))) (fun k hk=>by
   unfold kQ
   rw [if_pos (by omega),zE hL,Option.bind_some,if_pos (by simp only [List.length_replicate,List.length_singleton];omega),if_pos (jR (by omega)),List.replicate_succ']) (by
   unfold kQ
   rw [if_neg (by omega),decide_eq_false (by omega)])
  simp only [List.replicate_zero] at hlp
  have hF:et (mk (eh p ins fuel) (init p)) (p.Funcs.length:Int)=some (nth (eh p ins fuel).first (p.Funcs.length:Int)):=by
   unfold et
   rw [cj (by omega),Option.bind_some]
   simp only [mk]
   rw [g1,Option.bind_some]
  rw [hlp,Option.bind_some,hF,Option.bind_some]
  obtain ⟨b,vs,r',e1,e2,e3,e4⟩:=Pb (X:=eh p ins fuel) hX hL hv g2 g3 Pc (by show (1:Int)≤0+1;omega)
  have e1':kl (⟨(),p,List.replicate p.Vars.length (qO (MM p)),[qO (MM p)],()⟩:ak) (mk (eh p ins fuel) (init p)) (dQ p) p.Main (nth (eh p ins fuel).first (p.Funcs.length:Int))=some (b,cP p vs [qO (MM p)],mk (eh p ins fuel) r'):=e1
  rw [e1',Option.bind_some]
  have e2':WV p vs [qO (MM p)]:=e2
  cases b with
  | true=>
   obtain ⟨u1,u2⟩:=e3 rfl
   rw [if_pos rfl,GP hL e2' hv16',Option.bind_some]
   exact ⟨_,_,rfl,⟨_,e2'⟩,.inl (.inl ⟨r',u2 [],u1.en,rfl⟩)⟩
  | false=>
   rw [if_neg (by simp),GP hL e2' hv16',Option.bind_some]
   refine ⟨r',_,rfl,⟨_,e2'⟩,?_⟩
   rcases e4 rfl [] with ⟨u1,u2⟩ | u
   ·exact .inl (.inr ⟨u2,u1⟩)
   ·exact .inr u
end Go.Proofs.YtdpjofmmokaobaaGreat.A
