/- Watched runs: what watch.Watch answers. -/
import Derived.Test.YtdpjofmmokaobaaGreatWatR
import Derived.Test.YtdpjofmmokaobaaGreatRunP
set_option linter.unusedSectionVars false
set_option linter.unusedVariables false
set_option linter.unusedSimpArgs false
set_option linter.constructorNameAsVariable false
namespace Go.Proofs.YtdpjofmmokaobaaGreat.A
open Go
variable [Lp]
theorem Nl{α ε:Type}{B C:α→Option (α⊕ε)}(h:∀ v,aJ (B v) (C v))(v:α):aJ (lp B v) (lp C v):=fun y hy=>by
 obtain ⟨n,hn⟩:=xb hy
 refine EN n ?_
 clear hy
 induction n generalizing v with
 | zero=>cases hn
 | succ n ih=>
  rw [p8] at hn ⊢
  cases hb:B v with
  | none=>rw [hb] at hn;cases hn
  | some o=>
   rw [hb] at hn
   rw [h v o hb]
   cases o with
   | inl w=>exact ih w hn
   | inr x=>exact hn
abbrev RW:=bn
structure Kb(R Q:RW):Prop where
 al:∀ w r c l a,aJ (R.f_watch_watcher_all w r c l a) (Q.f_watch_watcher_all w r c l a)
 ca:∀ w r c l a,aJ (R.f_watch_watcher_call w r c l a) (Q.f_watch_watcher_call w r c l a)
 inn:∀ w r c l a,aJ (R.f_watch_watcher_inner w r c l a) (Q.f_watch_watcher_inner w r c l a)
 one:∀ w r c l a,aJ (R.f_watch_watcher_one w r c l a) (Q.f_watch_watcher_one w r c l a)
theorem W6{R Q:RW}(h:Kb R Q)(w r c l a):aJ (dA R w r c l a) (dA Q w r c l a):=by
 unfold dA
 refine aJ.bind (Nl (fun v=>?_) _) fun x=>aJ.refl _
 unfold fk
 refine aJ.ite (aJ.bind (aJ.refl _) fun _=>aJ.bind (h.one _ _ _ _ _) fun _=>aJ.refl _) (aJ.refl _)
theorem W7{R Q:RW}(h:Kb R Q)(w r c l a):aJ (du R w r c l a) (du Q w r c l a):=by
 unfold du
 exact aJ.bind (aJ.refl _) fun _=>aJ.ite (aJ.bind (aJ.refl _) fun _=>aJ.bind (aJ.refl _) fun _=>aJ.bind (aJ.refl _) fun _=>aJ.bind (aJ.refl _) fun _=>aJ.bind (h.al _ _ _ _ _) fun _=>aJ.refl _) (aJ.refl _)
theorem Sh{R Q:RW}(h:Kb R Q)(w r c l a):aJ (db R w r c l a) (db Q w r c l a):=by
 unfold db
 refine aJ.bind (aJ.refl _) fun _=>aJ.ite (aJ.bind (aJ.refl _) fun _=>aJ.bind (h.al _ _ _ _ _) fun _=>aJ.refl _) (aJ.bind (Nl (fun v=>?_) _) fun x=>aJ.refl _)
 unfold eH
 exact aJ.bind (aJ.refl _) fun _=>aJ.ite (aJ.ite (aJ.bind (h.al _ _ _ _ _) fun _=>aJ.refl _) (aJ.refl _)) (aJ.refl _)
theorem one_le{R Q:RW}(h:Kb R Q)(w r c l a):aJ (dB R w r c l a) (dB Q w r c l a):=by
 unfold dB
 exact aJ.bind (aJ.refl _) fun _=>aJ.ite (aJ.ite (aJ.bind (h.ca _ _ _ _ _) fun _=>aJ.refl _) (aJ.ite (aJ.bind (h.inn _ _ _ _ _) fun _=>aJ.refl _) (aJ.refl _))) (aJ.refl _)
theorem Cm:∀ n,Kb (NW n) (NW (n+1))
 | 0=>⟨fun _ _ _ _ _ _ h=>(by cases h),fun _ _ _ _ _ _ h=>(by cases h),fun _ _ _ _ _ _ h=>(by cases h),fun _ _ _ _ _ _ h=>(by cases h)⟩
 | n+1=>⟨W6 (Cm n),W7 (Cm n),Sh (Cm n),one_le (Cm n)⟩
theorem Nn{n:Nat}{w r c l a y}(h:(NW n).f_watch_watcher_all w r c l a=some y):∀ k,(NW (n+k)).f_watch_watcher_all w r c l a=some y
 | 0=>h
 | k+1=>(Cm (n+k)).al _ _ _ _ _ _ (Nn h k)
theorem Oe{X:Ctx}(hX:tZ X)(hL:nG X.p){r:RunT}{a:Int}{vs pl:List Level}(hv:Valid X 0 r)(h0:0≤a)(h:a≤50)(hw:WV X.p vs pl)(hpl:(pl.length:Int)≤r.Steps+1) :
  ∃ b vs' r',jT (cE X.p vs pl) (mk X r) (dJ X.p) X.p.Main a=some (b,cE X.p vs' pl,mk X r')∧WV X.p vs' pl∧(b=true→Valid X 0 r'∧∀ K,ez X (.run X.p.Main a::K,r) (K,r'))∧(b=false→∀ K,yc X (.run X.p.Main a::K,r) r'):=by
 have hm:=hX.ok.main
 obtain ⟨b,vs',r',e1,e2,e3,e4⟩:=(Od hX hL (3*6+100*X.p.Funcs.length+1)).1 X.p.Funcs.length X.p.Main (Nat.le_refl _) (by omega) hX.ok.mains hm.1 hm.2 r a vs pl hv h0 (by omega) hw hpl
 refine ⟨b,vs',r',xd (3*6+100*X.p.Funcs.length+1) fun n hn=>?_,e2,fun hb=>⟨(e3 hb).1,(e3 hb).2.2⟩,e4⟩
 obtain ⟨k,rfl⟩:=Nat.exists_eq_add_of_le hn
 exact Nn e1 k
theorem Kc(n k:Nat)(b:Bool):on (List.replicate n b) k=(b&&decide (k<n)):=by
 unfold on
 rw [List.getD_eq_getElem?_getD,List.getElem?_replicate]
 by_cases h:k<n
 ·rw [if_pos h,decide_eq_true h];cases b<;>rfl
 ·rw [if_neg h,decide_eq_false h];cases b<;>rfl
theorem Kd{n:Nat}{m:Level} : pv n (qI n) m=true:=by
 unfold pv Bc qI
 simp only [Bool.and_eq_true,List.all_eq_true,List.mem_range]
 refine ⟨fun k hk=>?_,fun k hk=>?_⟩
 ·rw [Kc,decide_eq_true hk];simp
 ·rw [Kc];simp
theorem No{n:Nat}{x:List Bool}(h:x.length=n):(List.range n).map (fun k=>on x k)=x:=by
 apply List.ext_getElem?
 intro k
 rw [List.getElem?_map]
 by_cases hk:k<n
 ·rw [List.getElem?_range hk,nF (show k<x.length by omega)];rfl
 ·rw [List.getElem?_eq_none (by simp;omega),List.getElem?_eq_none (by omega)];rfl
theorem join_self{n:Nat}{l:Level}(h:dv n l):zH n l l=l:=by
 unfold zH uk y1
 simp only [Bool.and_self,Bool.or_self]
 rw [No h.1,No h.2]
theorem Si{p:Program}(h:nG p){l:Level}(hl:dv (MM p) l):rM l=some l:=by
 unfold rM
 rw [Ck h.small hl hl,Option.bind_some,join_self hl]
theorem F8{p:Program}(h:nG p){vs pl:List Level}(hw:WV p vs pl)(hv:p.Vars.length≤16)(r8:aw)(b:Bool)(r:Runner)(e:Int):jL r8 (b,cE p vs pl,r) e=some (vs,e):=by
 have hl:=hw.len
 unfold jL
 have:=rV (B:=fun v=>kB r8 (b,cE p vs pl,r) e v.1 v.2) vs.length (fun k=>(vs.take k,k)) (x:=(vs,vs.length,false)) (fun k hk=>by
  unfold kB
  simp only [ES]
  rw [if_pos (by omega),List.getElem?_eq_getElem hk,Option.bind_some,Si h (hw.sz _ (List.getElem_mem hk)),Option.bind_some,if_pos (by simp only [List.length_take,List.length_singleton];omega),if_pos (jZ (by omega)),y0 hk]) (by
  unfold kB
  simp only [ES]
  rw [if_neg (by omega),List.take_length]
  exact congrArg (fun z=>some (Sum.inr (vs,vs.length,z))) (decide_eq_false (Int.lt_irrefl _)))
 simp only [List.take_zero] at this
 rw [this,Option.bind_some]
theorem Ke{p:Program}(h:nG p):rL p=some (dJ p):=by
 unfold rL
 rw [Nh _ h.gh,Option.bind_some];rfl
theorem Of{p:Program} : WV p (List.replicate p.Vars.length (qI (MM p))) [qI (MM p)]:=
 ⟨by simp,fun l hl=>by rw [List.eq_of_mem_replicate hl];exact za _,by simp,by simp,fun l hl=>by rw [List.mem_singleton.1 hl];exact za _,fun i v l _ _ hl=>by
  rw [List.eq_of_mem_replicate (List.mem_of_getElem? hl)];exact Kd⟩
def Og(X:Ctx)(c:mD)(r:RunT):Prop:=Comes X c r∨YQ X c r
theorem Mm{p:Program}{ins:List (List Int)}{fuel:Int}(hp:∀ f∈p.Funcs,f.Params.length≤9223372036854775807) :
  (pj p ins fuel≠0→l8 p ins fuel=some (⟨[],[],[],0,0,0⟩,[],pj p ins fuel))∧(pj p ins fuel=0→∃ r vs,l8 p ins fuel=some (r,vs,0)∧(∃ pl,WV p vs pl)∧Og (mF p ins fuel) (Sa p) r):=by
 unfold l8
 rw [Mh hp,Option.bind_some]
 refine ⟨fun h=>?_,fun h=>?_⟩
 ·rw [if_pos (by simp [h])]
 ·rw [if_neg (by simp [h])]
  have hX:=JZ h
  have hok:fV p=0:=by
   unfold pj at h
   by_cases h1:fV p=0
   ·exact h1
   ·rw [if_pos h1] at h;exact absurd h h1
  have hL:nG p:=J6 hok
  have hv16:=hX.ok.vars
  have hv16':p.Vars.length≤16:=hv16
  rw [Sc hX,Option.bind_some,zb hL,Option.bind_some,Ke hL,Option.bind_some]
  obtain ⟨g1,g2,g3⟩:=FP hX (k:=p.Funcs.length) (by omega) (Int.le_refl _)
  have hv:Valid (mF p ins fuel) 0 (init p):=⟨by simp [init,mF],fun x hx=>by rw [List.eq_of_mem_replicate hx];rfl,by simp [init,mF],fun t ht=>by rw [List.eq_of_mem_replicate ht];simp [init],by have:=hX.fuel;simp only [init];omega,by simp [init],rfl⟩
  have hlp:=rV (B:=fun v=>kA p (mk (mF p ins fuel) (init p)) (qI (MM p)) (dJ p) v.1 v.2) p.Vars.length (fun k=>(k,List.replicate k (qI (MM p)))) (x:=(p.Vars.length,false,List.replicate p.Vars.length (qI (MM p)))) (fun k hk=>by
   unfold kA
   rw [if_pos (by omega),zb hL,Option.bind_some,if_pos (by simp only [List.length_replicate,List.length_singleton];omega),if_pos (jZ (by omega)),List.replicate_succ']) (by
   unfold kA
   rw [if_neg (by omega),decide_eq_false (by omega)])
  simp only [List.replicate_zero] at hlp
  have hF:eh (mk (mF p ins fuel) (init p)) (p.Funcs.length:Int)=some (nth (mF p ins fuel).first (p.Funcs.length:Int)):=by
   unfold eh
   rw [b8 (by omega),Option.bind_some]
   simp only [mk]
   rw [g1,Option.bind_some]
  rw [hlp,Option.bind_some,hF,Option.bind_some]
  obtain ⟨b,vs,r',e1,e2,e3,e4⟩:=Oe (X:=mF p ins fuel) hX hL hv g2 g3 Of (by show (1:Int)≤0+1;omega)
  have e1':jT (⟨(),p,List.replicate p.Vars.length (qI (MM p)),[qI (MM p)],()⟩:ak) (mk (mF p ins fuel) (init p)) (dJ p) p.Main (nth (mF p ins fuel).first (p.Funcs.length:Int))=some (b,cE p vs [qI (MM p)],mk (mF p ins fuel) r'):=e1
  rw [e1',Option.bind_some]
  have e2':WV p vs [qI (MM p)]:=e2
  cases b with
  | true=>
   obtain ⟨u1,u2⟩:=e3 rfl
   rw [if_pos rfl,F8 hL e2' hv16',Option.bind_some]
   exact ⟨_,_,rfl,⟨_,e2'⟩,.inl (.inl ⟨r',u2 [],u1.en,rfl⟩)⟩
  | false=>
   rw [if_neg (by simp),F8 hL e2' hv16',Option.bind_some]
   refine ⟨r',_,rfl,⟨_,e2'⟩,?_⟩
   rcases e4 rfl [] with ⟨u1,u2⟩ | u
   ·exact .inl (.inr ⟨u2,u1⟩)
   ·exact .inr u
end Go.Proofs.YtdpjofmmokaobaaGreat.A
