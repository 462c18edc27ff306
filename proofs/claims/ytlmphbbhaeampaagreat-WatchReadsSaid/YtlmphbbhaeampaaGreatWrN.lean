/- Watched runs: who sees the same coming in sees the same happen, but that the first difference may be what is changed on purpose. -/
import Derived.Test.YtlmphbbhaeampaaGreatWrS
import Derived.Test.YtlmphbbhaeampaaGreatRunP
import Derived.Test.YtlmphbbhaeampaaGreatInfP
import Derived.Test.YtlmphbbhaeampaaGreatRLv
import Derived.Test.YtlmphbbhaeampaaGreatFN
set_option linter.all false
namespace Go.Proofs.YtlmphbbhaeampaaGreat.A
open Go
variable {α:Type}
theorem zc(l:List α)(j k:Nat)(x d:α):(l.set j x).getD k d=if j=k∧j<l.length then x else l.getD k d:=by
 rw [fM,qD,fM]
 by_cases h:j=k
 ·subst h
  by_cases h2:j<l.length
  ·simp [h2]
  ·simp [h2,DD (show l.length≤j by omega)]
 ·simp [h]
structure E4(p:Program)(bit:Level→Bool):Prop where
 join:∀ a b,bit (eF (MM p) a b)=(bit a&&bit b)
 le:∀ {a b},iu (MM p) a b=true→bit b=true→bit a=true
 bot:bit (fc (MM p))=true
 chg:∀ vs pl s,bit (vB p vs pl s)=if s.Kind=5 then bit (dm p.an (eB p s.Var).Label) else bit (fX p vs pl s.Expr)
section
variable (p:Program)(bit:Level→Bool)
abbrev uh(vs:List Level)(j:Nat):Bool:=bit (vs.getD j (fc (MM p)))
def cu(v:Event):Bool:=if v.Kind=1 then bit (js p p.Outs v.Which) else bit (dm p.an (eB p v.Which).Label)
structure WF(r:RunT)(vs:List Level):Prop where
 a:r.Vars.length=p.Vars.length
 b:vs.length=p.Vars.length
 c:r.Taken.length=p.Ins.length
 k:∀ j:Int,(eB p j).Known=true→iu (MM p) (vs.getD j.toNat (fc (MM p))) (dm p.an (eB p j).Label)=true
structure dN(r r':RunT)(vs vs':List Level):Prop where
 lb:∀ j,uh p bit vs j=uh p bit vs' j
 val:∀ j,uh p bit vs j=true→r.Vars.getD j 0=r'.Vars.getD j 0
 tk:∀ i:Int,bit (js p p.Ins i)=true→nth r.Taken i=nth r'.Taken i
 ev:r.Events.filter (cu p bit)=r'.Events.filter (cu p bit)
end
section
variable {p:Program}{bit:Level→Bool}
theorem dN.refl(r:RunT)(vs:List Level):dN p bit r r vs vs:=⟨fun _=>rfl,fun _ _=>rfl,fun _ _=>rfl,rfl⟩
theorem dN.symm{r r':RunT}{vs vs':List Level}(h:dN p bit r r' vs vs'):dN p bit r' r vs' vs:=
 ⟨fun j=>(h.lb j).symm,fun j hj=>(h.val j (by rw [h.lb];exact hj)).symm,fun i hi=>(h.tk i hi).symm,h.ev.symm⟩
theorem dN.trans{r r' q:RunT}{vs vs' us:List Level}(h:dN p bit r r' vs vs')(h':dN p bit r' q vs' us):dN p bit r q vs us:=
 ⟨fun j=>(h.lb j).trans (h'.lb j),fun j hj=>(h.val j hj).trans (h'.val j (by rw [←h.lb];exact hj)),fun i hi=>(h.tk i hi).trans (h'.tk i hi),h.ev.trans h'.ev⟩
theorem dN.sc{r r' q q':RunT}{vs vs':List Level}(h:dN p bit r r' vs vs')(h1:q.Vars=r.Vars)(h2:q'.Vars=r'.Vars)(h3:q.Taken=r.Taken)(h4:q'.Taken=r'.Taken)(h5:q.Events.filter (cu p bit)=q'.Events.filter (cu p bit)):dN p bit q q' vs vs':=
 ⟨h.lb,by rw [h1,h2];exact h.val,by rw [h3,h4];exact h.tk,h5⟩
theorem WF.sc{r q:RunT}{vs:List Level}(h:WF p r vs)(h1:q.Vars.length=r.Vars.length)(h2:q.Taken.length=r.Taken.length):WF p q vs:=⟨h1.trans h.a,h.b,h2.trans h.c,h.k⟩
theorem Qk{n m:Int}(h:n.toNat=m.toNat):eB p n=eB p m:=by unfold eB;rw [h]
theorem uj{vs us pl:List Level}{n:Int}{l:Level}(h:ob p vs pl n l=some us):AQ p vs pl n l=true∧us=vs.set n.toNat l:=by
 unfold ob at h
 split at h
 ·rename_i hm
  exact ⟨hm,(ah h).symm⟩
 ·cases h
theorem rM{vs pl:List Level}{n:Int}{l:Level} : AQ p vs pl n l=true↔iu (MM p) (mR p pl) (vs.getD n.toNat (fc (MM p)))=true∧((eB p n).Known=true→iu (MM p) l (dm p.an (eB p n).Label)=true):=by
 unfold AQ
 cases (eB p n).Known<;>simp
theorem WF.put{r q:RunT}{vs:List Level}{n:Int}{l:Level}(h:WF p r vs)(h1:q.Vars.length=r.Vars.length)(h2:q.Taken.length=r.Taken.length)(hk:(eB p n).Known=true→iu (MM p) l (dm p.an (eB p n).Label)=true):WF p q (vs.set n.toNat l):=
 ⟨h1.trans h.a,by rw [pc];exact h.b,h2.trans h.c,fun j hj=>by
  rw [zc]
  split
  ·rename_i hc
   rw [Qk hc.1.symm] at hj ⊢
   exact hk hj
  ·exact h.k j hj⟩
theorem dN.put{r r' q q':RunT}{vs vs':List Level}{n:Int}{l l':Level}{x x':Int}(h:dN p bit r r' vs vs')(hw:WF p r vs)(C:WF p r' vs')(hb:bit l=bit l')(hx:bit l=true→x=x')(h1:q.Vars=r.Vars.set n.toNat x)(h2:q'.Vars=r'.Vars.set n.toNat x')
  (h3:∀ i:Int,bit (js p p.Ins i)=true→nth q.Taken i=nth q'.Taken i) (h5:q.Events.filter (cu p bit)=q'.Events.filter (cu p bit)):dN p bit q q' (vs.set n.toNat l) (vs'.set n.toNat l'):=by
 have e1:=hw.a;have e2:=hw.b;have e3:=C.a;have e4:=C.b
 refine ⟨fun j=>?_,fun j hj=>?_,h3,h5⟩
 ·unfold uh
  rw [zc,zc,e2,e4]
  split
  ·exact hb
  ·exact h.lb j
 ·unfold uh at hj
  rw [zc,e2] at hj
  rw [h1,h2,zc,zc,e1,e3]
  split at hj
  ·rename_i hc
   rw [af hc,af hc];exact hx hj
  ·rename_i hc
   rw [ab hc,ab hc];exact h.val j hj
variable (E:E4 p bit)
include E
theorem Pk(V:List Level):∀ (ns:List Int)(v:Level),bit (FI (MM p) V ns v)=(bit v&&ns.all fun n=>uh p bit V n.toNat)
 | [],v=>by simp [FI]
 | n::ns,v=>by rw [FI,Pk V ns,E.join,wj,Bool.and_assoc]
theorem M3(vs pl:List Level)(e:aK):bit (fX p vs pl e)=(bit (mR p pl)&&(jQ e).all fun n=>uh p bit vs n.toNat):=by
 unfold fX rS
 rw [E.join,Pk E,E.bot,sL]
omit E
mutual
theorem M4{V V':List Int} : ∀ (e:aK),(∀ n∈jQ e,V.getD n.toNat 0=V'.getD n.toNat 0)→cM V e=cM V' e
 | ⟨k,n,as⟩,h=>by
  rw [cM,cM]
  have hl:=Kl (V:=V) (V':=V') as fun m hm=>h m (by rw [jQ];split<;>simp [hm])
  rw [hl]
  unfold R7
  by_cases k2:k=2
  ·rw [h n (by rw [jQ,af k2];simp)]
  ·simp [k2]
theorem Kl{V V':List Int} : ∀ (l:List aK),(∀ n∈oM l,V.getD n.toNat 0=V'.getD n.toNat 0)→AG V l=AG V' l
 | [],_=>rfl
 | x::l,h=>by
  rw [AG,AG,M4 x fun n hn=>h n (by rw [oM];simp [hn]),Kl l fun n hn=>h n (by rw [oM];simp [hn])]
end
include E
theorem dN.of{r r':RunT}{vs vs' pl pl':List Level}(h:dN p bit r r' vs vs')(hp:bit (mR p pl)=bit (mR p pl'))(e:aK):bit (fX p vs pl e)=bit (fX p vs' pl' e)∧(bit (fX p vs pl e)=true→cM r.Vars e=cM r'.Vars e):=by
 rw [M3 E,M3 E,hp]
 have:(jQ e).all (fun n=>uh p bit vs n.toNat)=(jQ e).all fun n=>uh p bit vs' n.toNat:=by
  congr 1;funext n;exact h.lb _
 refine ⟨by rw [this],fun hb=>?_⟩
 rw [aL,cI] at hb
 exact M4 e fun n hn=>h.val _ (hb.2 n hn)
omit E
def Jo(bit:Level→Bool)(pl:List Level):Prop:=∀ x∈pl,bit x=true
include E
theorem Jo.pl{pl:List Level}(h:Jo bit pl):bit (mR p pl)=true:=by
 unfold mR
 cases pl with
 | nil=>exact E.bot
 | cons x l=>
  rw [DC,JL (by simp),lr]
  exact h _ (List.getLast_mem _)
omit E
theorem dN.Gy{r0 r q:RunT}{vs0 vs:List Level}{n:Int}{l:Level}{x:Int}(h:dN p bit r0 r vs0 vs)(hn:uh p bit vs n.toNat=false)(hl:bit l=false)(h1:q.Vars=r.Vars.set n.toNat x)
  (h3:∀ i:Int,bit (js p p.Ins i)=true→nth r.Taken i=nth q.Taken i) (h5:r.Events.filter (cu p bit)=q.Events.filter (cu p bit)):dN p bit r0 q vs0 (vs.set n.toNat l):=by
 refine h.trans ⟨fun j=>?_,fun j hj=>?_,h3,h5⟩
 ·unfold uh at hn ⊢
  rw [zc]
  split
  ·rename_i hc
   rw [←hc.1,hn,hl]
  ·rfl
 ·rw [h1,zc,ab fun hc=>?_]
  rw [←hc.1,hn] at hj
  cases hj
structure Hi(bit:Level→Bool)(H:List jr)(n:Nat)(pl:List Level):Prop where
 lt:n<pl.length
 hi:∀ x∈pl.drop n,bit x=false
 bk:∀ m,jr.back m∈H→n<m
theorem Hi.pl{H:List jr}{n:Nat}{pl:List Level}(h:Hi bit H n pl):bit (mR p pl)=false:=by
 have hn:=h.lt
 unfold mR
 rw [DC,List.getLast?_eq_getElem?,aV (by omega),lr]
 apply h.hi
 rw [List.mem_drop_iff_getElem]
 exact ⟨pl.length - 1 - n,by omega,by congr 1;omega⟩
theorem Hi.sub{H H':List jr}{n:Nat}{pl:List Level}(h:Hi bit H n pl)(hs:∀ m,jr.back m∈H'→jr.back m∈H∨m=pl.length):Hi bit H' n pl:=
 ⟨h.lt,h.hi,fun m hm=>(hs m hm).elim (h.bk m) fun e=>e▸h.lt⟩
theorem Hi.push{H:List jr}{n:Nat}{pl:List Level}(h:Hi bit H n pl){l:Level}(hl:bit l=false):Hi bit H n (pl++[l])∧(pl++[l]).take n=pl.take n:=by
 have hn:=h.lt
 refine ⟨⟨by simp;omega,fun x hx=>?_,h.bk⟩,List.take_append_of_le_length (by omega)⟩
 rw [List.drop_append_of_le_length (by omega)] at hx
 rcases eh.1 hx with hx | hx
 ·exact h.hi x hx
 ·rw [dS.1 hx];exact hl
include E
theorem CL{vs pl:List Level}(hp:bit (mR p pl)=false)(e:aK):bit (fX p vs pl e)=false:=by rw [M3 E,hp,Bool.false_and]
theorem Er{vs pl:List Level}{n:Int}{l:Level}(hp:bit (mR p pl)=false)(h:AQ p vs pl n l=true):uh p bit vs n.toNat=false:=by
 have h1:=(rM.1 h).1
 cases hb:uh p bit vs n.toNat with
 | false=>rfl
 | true=>rw [E.le h1 hb] at hp;cases hp
theorem Gz{l m:Level}(hp:bit l=false)(h:iu (MM p) l m=true):bit m=false:=by
 cases hb:bit m with
 | false=>rfl
 | true=>rw [E.le h hb] at hp;cases hp
theorem Uo{r:RunT}{vs:List Level}(hw:WF p r vs){n:Int}(hn:uh p bit vs n.toNat=false)(hk:(eB p n).Known=true):bit (dm p.an (eB p n).Label)=false:=Gz E hn (hw.k n hk)
end
section
variable {X:Ctx}{bit:Level→Bool}(E:E4 X.p bit)
theorem Km{r:RunT}{vs0 pl:List Level} : ∀ (ps:List Int)(es:List aK)(V:List Int)(vs:List Level),lH X.p vs0 pl ps es=true→WF X.p (r.du V) vs→WF X.p (r.du (oJ V ps (es.map (cM r.Vars)))) (k9 vs ps (es.map (fX X.p vs0 pl)))
 | n::ps,e::es,V,vs,hm,hw=>by
  rw [lH,aL] at hm
  rw [eu,eu,oJ,k9]
  exact Km ps es _ _ hm.2 (hw.put (by simp [RunT.du]) rfl (rM.1 hm.1).2)
 | [],es,V,vs,_,hw=>by cases es<;>exact hw
 | _::_,[],V,vs,_,hw=>hw
include E
theorem Kn{r0 r:RunT}{vs0 pl:List Level}(hp:bit (mR X.p pl)=false):∀ (ps:List Int)(es:List aK)(V:List Int)(vs:List Level),lH X.p vs0 pl ps es=true→dN X.p bit r0 (r.du V) vs0 vs→dN X.p bit r0 (r.du (oJ V ps (es.map (cM r.Vars)))) vs0 (k9 vs ps (es.map (fX X.p vs0 pl)))
 | n::ps,e::es,V,vs,hm,h=>by
  rw [lH,aL] at hm
  rw [eu,eu,oJ,k9]
  exact Kn hp ps es _ _ hm.2 (h.Gy (by rw [←h.lb];exact Er E hp hm.1) (CL E hp e) rfl (fun _ _=>rfl) rfl)
 | [],es,V,vs,_,h=>by cases es<;>exact h
 | _::_,[],V,vs,_,h=>h
theorem Ko{r r':RunT}{vs0 vs0' pl pl':List Level}(h0:dN X.p bit r r' vs0 vs0')(hp:bit (mR X.p pl)=bit (mR X.p pl')):∀ (ps:List Int)(es:List aK)(V V':List Int)(vs vs':List Level),lH X.p vs0 pl ps es=true→lH X.p vs0' pl' ps es=true→WF X.p (r.du V) vs→WF X.p (r'.du V') vs'→dN X.p bit (r.du V) (r'.du V') vs vs'→
  dN X.p bit (r.du (oJ V ps (es.map (cM r.Vars)))) (r'.du (oJ V' ps (es.map (cM r'.Vars)))) (k9 vs ps (es.map (fX X.p vs0 pl))) (k9 vs' ps (es.map (fX X.p vs0' pl')))
 | n::ps,e::es,V,V',vs,vs',hm,ac,hw,C,h=>by
  rw [lH,aL] at hm ac
  rw [eu,eu,eu,eu,oJ,k9,oJ,k9]
  have ho:=h0.of E hp e
  exact Ko h0 hp ps es _ _ _ _ hm.2 ac.2 (hw.put (by simp [RunT.du]) rfl (rM.1 hm.1).2) (C.put (by simp [RunT.du]) rfl (rM.1 ac.1).2) (h.put hw C ho.1 ho.2 rfl rfl h.tk h.ev)
 | [],es,V,V',vs,vs',_,_,_,_,h=>by cases es<;>exact h
 | _::_,[],V,V',vs,vs',_,_,_,_,h=>h
omit E
theorem Al{vs us pl:List Level}{s:Stmt}(h:lI X vs pl s=some us):lH X.p vs pl (dw X s).Params s.Args=true∧us=k9 vs (dw X s).Params (s.Args.map (fX X.p vs pl)):=by
 unfold lI at h
 split at h
 ·rename_i hm
  exact ⟨hm,(ah h).symm⟩
 ·cases h
theorem GA{r:RunT}{vs us pl:List Level}{s:Stmt}(hw:WF X.p r vs)(h:lI X vs pl s=some us):WF X.p (kH X s r) us:=by
 obtain ⟨h1,rfl⟩:=Al h
 exact Km _ _ _ _ h1 (hw.sc rfl rfl)
theorem Up{r:RunT}{vs us pl:List Level}{s:Stmt}(hw:WF X.p r vs)(h:ob X.p vs pl s.Var (fX X.p vs pl (dw X s).Result)=some us):WF X.p (qX X s r) us:=by
 obtain ⟨h1,rfl⟩:=uj h
 exact hw.put (by simp [qX,RunT.set,RunT.du]) rfl (rM.1 h1).2
theorem ady(s:Stmt)(a:Int)(r:RunT):(mb X s a r).Vars.length=r.Vars.length∧(mb X s a r).Taken.length=r.Taken.length:=by
 unfold mb
 repeat' split
 all_goals simp [RunT.set,RunT.du,RunT.ev]
theorem Uq{r:RunT}{vs us pl:List Level}{s:Stmt}(a:Int)(hw:WF X.p r vs)(h:jW X.p vs pl s=some us):WF X.p (mb X s a r) us:=by
 obtain ⟨l1,l2⟩:=ady (X:=X) s a r
 have put:∀ {l:Level},ob X.p vs pl s.Var l=some us→WF X.p (mb X s a r) us:=fun h=>by
  obtain ⟨h1,rfl⟩:=uj h
  exact hw.put l1 l2 (rM.1 h1).2
 unfold jW at h
 split at h
 ·exact put h
 split at h
 ·split at h
  ·exact put h
  ·cases h
 split at h
 ·split at h
  ·obtain rfl:=ah h;exact hw.sc l1 l2
  ·cases h
 split at h
 ·exact put h
 ·cases h
theorem Jp(l:List Int)(k j:Int)(x:Int)(h:k.toNat≠j.toNat):nth (l.set k.toNat x) j=nth l j:=by
 unfold nth
 rw [zc,ab fun hc=>h hc.1]
theorem Ie{p:Program}{l:List Label}{n m:Int}(h:n.toNat=m.toNat):js p l n=js p l m:=by unfold js;rw [h]
include E
theorem Ur{r:RunT}{vs us pl:List Level}{s:Stmt}(hp:bit (mR X.p pl)=false)(h:ob X.p vs pl s.Var (fX X.p vs pl (dw X s).Result)=some us):dN X.p bit r (qX X s r) vs us:=by
 obtain ⟨h1,rfl⟩:=uj h
 exact (dN.refl r vs).Gy (Er E hp h1) (CL E hp _) rfl (fun _ _=>rfl) rfl
theorem Us{r:RunT}{vs us pl:List Level}{s:Stmt}(hp:bit (mR X.p pl)=false)(h:lI X vs pl s=some us):dN X.p bit r (kH X s r) vs us:=by
 obtain ⟨h1,rfl⟩:=Al h
 exact Kn E hp _ _ _ _ h1 ((dN.refl r vs).sc rfl rfl rfl rfl rfl)
theorem Jq{l:List Event}{e:Event}(h:cu X.p bit e=false):l.filter (cu X.p bit)=(l++[e]).filter (cu X.p bit):=by
 rw [nX];simp [h]
theorem Ut{r:RunT}{vs us pl:List Level}{s:Stmt}(a:Int)(hw:WF X.p r vs)(hp:bit (mR X.p pl)=false)(h:jW X.p vs pl s=some us):dN X.p bit r (mb X s a r) vs us:=by
 have h0:=dN.refl (p:=X.p) (bit:=bit) r vs
 unfold jW at h
 unfold mb
 by_cases k1:s.Kind=1
 ·rw [af k1] at h
  obtain ⟨h1,rfl⟩:=uj h
  rw [ab (by omega),ab (by omega),ab (by omega),ab (by omega)]
  exact h0.Gy (Er E hp h1) (CL E hp _) rfl (fun _ _=>rfl) rfl
 rw [ab k1] at h
 by_cases k3:s.Kind=3
 ·rw [af k3] at h ⊢
  split at h
  ·rename_i hu
   obtain ⟨h1,rfl⟩:=uj h
   have ao:=Gz E hp hu
   refine h0.Gy (Er E hp h1) (by rw [E.join,hp,Bool.false_and]) rfl (fun i hi=>?_) rfl
   refine (Jp _ _ _ _ fun hc=>?_).symm
   rw [Ie hc.symm,ao] at hi
   cases hi
  ·cases h
 rw [ab k3] at h ⊢
 by_cases k4:s.Kind=4
 ·rw [af k4] at h ⊢
  split at h
  ·rename_i hu
   obtain rfl:=ah h
   have ho:=Gz E (CL E (vs:=vs) hp _) hu
   exact h0.sc rfl rfl rfl rfl (Jq E (by unfold cu;rw [af rfl];exact ho))
  ·cases h
 rw [ab k4] at h ⊢
 split at h
 ·rename_i hk
  obtain ⟨h1,rfl⟩:=uj h
  have hm:=Er E hp h1
  have hl:=Uo E hw hm hk.1
  have hc:bit (vB X.p vs pl s)=false:=by
   rw [E.chg]
   split
   ·exact hl
   ·exact CL E hp _
  split
  ·exact h0.Gy hm hc rfl (fun _ _=>rfl) (Jq E (by unfold cu;rw [ab (fun h=>by cases h)];exact hl))
  split
  ·exact h0.Gy hm hc rfl (fun _ _=>rfl) (Jq E (by unfold cu;rw [ab (fun h=>by cases h)];exact hl))
  ·exact h0.Gy hm hc rfl (fun _ _=>rfl) rfl
 ·cases h
theorem Pm{H K0:List jr}{n z:Nat}{r:RunT}{vs pl:List Level}(U:H≠[])(hh:Hi bit H z pl)(hw:WF X.p r vs) :
  (∃ H1 r1 vs1 pl1,fj X (H++.back n::K0,r,vs,pl)=(H1++.back n::K0,r1,vs1,pl1)∧Hi bit H1 z pl1∧WF X.p r1 vs1∧dN X.p bit r r1 vs vs1∧pl1.take z=pl.take z)∨
  (∃ q,fj X (H++.back n::K0,r,vs,pl)=([],q)∧q.1.Events.filter (cu X.p bit)=r.Events.filter (cu X.p bit)):=by
 have hp:=hh.pl (p:=X.p)
 have look:∀ (s:Stmt)(a:Int)(H1:List jr)(q:RunT),(∀ m,jr.back m∈H1→jr.back m∈H∨m=pl.length)→WF X.p q vs→dN X.p bit r q vs vs→∃ H2 r1 vs1 pl1,lookW X s a (H1++.back n::K0) q vs pl=(H2++.back n::K0,r1,vs1,pl1)∧Hi bit H2 z pl1∧WF X.p r1 vs1∧dN X.p bit r r1 vs vs1∧pl1.take z=pl.take z:=by
  intro s a H1 q h1 h2 h3
  obtain ⟨g1,g2⟩:=(hh.sub h1).push (CL E (vs:=vs) hp s.Expr)
  by_cases hv:cM q.Vars s.Expr=0
  ·exact ⟨H1,q,vs,_,by simp [lookW,hv],g1,h2,h3,g2⟩
  ·exact ⟨.run s.Then (a+1)::.again s a::H1,q,vs,_,by simp [lookW,hv],⟨g1.lt,g1.hi,fun m hm=>g1.bk m (by simpa using hm)⟩,h2,h3,g2⟩
 have ht:WF X.p r.tick vs:=hw.sc rfl rfl
 have h0:dN X.p bit r r.tick vs vs:=(dN.refl r vs).sc rfl rfl rfl rfl rfl
 match H,U with
 | .back m::H',_=>
  have hm:=hh.bk m (by simp)
  have hn:=hh.lt
  refine .inl ⟨H',r,vs,pl.take m,rfl,⟨by simp;omega,fun x hx=>hh.hi x ?_,fun k hk=>hh.bk k (by simp [hk])⟩,hw,.refl _ _,by rw [List.take_take,wv (by omega)]⟩
  rw [List.drop_take] at hx
  exact iF hx
 | .leave s a::H',_=>
  have O:fj X ((.leave s a::H')++.back n::K0,r,vs,pl)=qY X s a (H'++.back n::K0) r vs pl:=rfl
  rw [O]
  unfold qY
  cases hs:ob X.p vs pl s.Var (fX X.p vs pl (dw X s).Result) with
  | none=>exact .inr ⟨_,rfl,rfl⟩
  | some us=>exact .inl ⟨H',_,us,pl,rfl,hh.sub fun m hm=>.inl (by simp [hm]),Up hw hs,Ur E hp hs,rfl⟩
 | .again s a::H',_=>
  have O:fj X ((.again s a::H')++.back n::K0,r,vs,pl)=if r.Steps=X.fuel then ([],r.out,vs,pl) else lookW X s a (H'++.back n::K0) r.tick vs pl:=rfl
  rw [O]
  by_cases hf:r.Steps=X.fuel
  ·rw [af hf];exact .inr ⟨_,rfl,rfl⟩
  ·rw [ab hf];exact .inl (look s a H' r.tick (fun m hm=>.inl (by simp [hm])) ht h0)
 | .run [] a::H',_=>exact .inl ⟨H',r,vs,pl,rfl,hh.sub fun m hm=>.inl (by simp [hm]),hw,.refl _ _,rfl⟩
 | .run (s::l) a::H',_=>
  have O:fj X ((.run (s::l) a::H')++.back n::K0,r,vs,pl)=if r.Steps=X.fuel then ([],r.out,vs,pl) else mH X s a l (H'++.back n::K0) r.tick vs pl:=rfl
  rw [O]
  by_cases hf:r.Steps=X.fuel
  ·rw [af hf];exact .inr ⟨_,rfl,rfl⟩
  rw [ab hf]
  unfold mH
  by_cases k2:s.Kind=2
  ·rw [af k2]
   cases he:lI X vs pl s with
   | none=>exact .inr ⟨_,rfl,rfl⟩
   | some us=>exact .inl ⟨.run (dw X s).Body (nth X.first s.Other)::.leave s a::.run l (a+gh s)::H',_,us,pl,rfl,hh.sub fun m hm=>.inl (by simpa using hm),GA ht he,h0.trans (Us E hp he),rfl⟩
  rw [ab k2]
  by_cases k7:s.Kind=7
  ·rw [af k7]
   obtain ⟨g1,g2⟩:=(hh.sub (H':=.back pl.length::.run l (a+gh s)::H') fun m hm=>by simpa [or_comm] using hm).push (CL E (vs:=vs) hp s.Expr)
   exact .inl ⟨.run (if cM r.tick.Vars s.Expr≠0 then s.Then else s.Else) (if cM r.tick.Vars s.Expr≠0 then a+1 else a+1+cP s.Then)::.back pl.length::.run l (a+gh s)::H',_,vs,_,rfl,⟨g1.lt,g1.hi,fun m hm=>g1.bk m (by simpa using hm)⟩,ht,h0,g2⟩
  rw [ab k7]
  by_cases k8:s.Kind=8
  ·rw [af k8]
   exact .inl (look s a (.back pl.length::.run l (a+gh s)::H') r.tick (fun m hm=>by simpa [or_comm] using hm) ht h0)
  rw [ab k8]
  cases I:jW X.p vs pl s with
  | none=>exact .inr ⟨_,rfl,rfl⟩
  | some us=>exact .inl ⟨.run l (a+gh s)::H',_,us,pl,rfl,hh.sub fun m hm=>.inl (by simpa using hm),Uq a ht I,h0.trans (Ut E a ht hp I),rfl⟩
end
def Kp(a b:List Event):Prop:=a <+: b∨b <+: a∨∃ c e f a' b',a=c++e::a'∧b=c++f::b'∧e≠f∧e.Kind=2∧f.Kind=2∧e.At=f.At∧e.Which=f.Which
variable {a b:List Event}
theorem Kp.symm: Kp a b→Kp b a
 | .inl h=>.inr (.inl h)
 | .inr (.inl h)=>.inl h
 | .inr (.inr ⟨c,e,f,a',b',h1,h2,h3,h4,h5,h6,h7⟩)=>.inr (.inr ⟨c,f,e,b',a',h2,h1,h3.symm,h5,h4,h6.symm,h7.symm⟩)
theorem Uu(X:Ctx)(c:eC):∃ es,(fj X c).2.1.Events=c.2.1.Events++es:=by
 have aw:∀ (s:Stmt)(a:Int)(r:RunT),∃ es,(mb X s a r).Events=r.Events++es:=fun s a r=>by
  unfold mb
  repeat' split
  ·exact ⟨[],by simp⟩
  ·exact ⟨_,rfl⟩
  ·exact ⟨_,rfl⟩
  ·exact ⟨_,rfl⟩
  ·exact ⟨[],by simp [RunT.set,RunT.du]⟩
 have nil:∀ {r q:RunT},q.Events=r.Events→∃ es,q.Events=r.Events++es:=fun h=>⟨[],by rw [h,zE]⟩
 obtain ⟨K,r,vs,pl⟩:=c
 match K with
 | []=>exact nil rfl
 | .back n::K=>exact nil rfl
 | .leave s a::K=>
  simp only [fj,qY]
  split
  ·exact nil rfl
  ·exact nil rfl
 | .run [] a::K=>exact nil rfl
 | .again s a::K=>
  simp only [fj]
  split
  ·exact nil rfl
  ·exact nil rfl
 | .run (s::l) a::K=>
  simp only [fj]
  split
  ·exact nil rfl
  ·unfold mH
   split
   ·split
    ·exact nil rfl
    ·exact nil rfl
   split
   ·exact nil rfl
   split
   ·exact nil rfl
   split
   ·exact aw s a r.tick
   ·exact nil rfl
theorem M5(X:Ctx):∀ (n:Nat)(c:eC),∃ es,(la X n c).2.1.Events=c.2.1.Events++es
 | 0,c=>⟨[],by simp [la]⟩
 | n+1,c=>by
  obtain ⟨es,h⟩:=Uu X c
  obtain ⟨fs,h'⟩:=M5 X n (fj X c)
  exact ⟨es++fs,by rw [la,h',h,o7]⟩
section
variable {X Y:Ctx}{bit:Level→Bool}
def xt:List jr→Nat→Prop
 | [],_=>True
 | .again _ _::K,n=>(∃ m K0,K= .back m::K0)∧xt K n
 | .back m::K,n=>m≤n∧xt K m
 | .run _ _::K,n=>xt K n
 | .leave _ _::K,n=>xt K n
theorem xt.mono:∀ {K:List jr}{n n':Nat},xt K n→n≤n'→xt K n'
 | [],_,_,_,_=>trivial
 | .again _ _::K,_,_,h,hn=>⟨h.1,xt.mono (K:=K) h.2 hn⟩
 | .back m::K,_,_,h,hn=>⟨di h.1 hn,h.2⟩
 | .run _ _::K,_,_,h,hn=>xt.mono (K:=K) h hn
 | .leave _ _::K,_,_,h,hn=>xt.mono (K:=K) h hn
structure Lo(X:Ctx)(bit:Level→Bool)(r r':RunT)(vs vs' pl pl':List Level):Prop where
 eq:dN X.p bit r r' vs vs'
 w:WF X.p r vs
 w':WF X.p r' vs'
 len:pl.length=pl'.length
 l:Jo bit pl
 l':Jo bit pl'
structure Hg(X:Ctx)(bit:Level→Bool)(H H':List jr)(z:Nat)(r r':RunT)(vs vs' pl pl':List Level):Prop where
 eq:dN X.p bit r r' vs vs'
 w:WF X.p r vs
 w':WF X.p r' vs'
 h:Hi bit H z pl
 h':Hi bit H' z pl'
 l:Jo bit (pl.take z)
 l':Jo bit (pl'.take z)
def Rl(X:Ctx)(bit:Level→Bool)(c c':eC):Prop:=
 (∃ K r r' vs vs' pl pl',c=(K,r,vs,pl)∧c'=(K,r',vs',pl')∧xt K pl.length∧Lo X bit r r' vs vs' pl pl')∨
 (∃ H H' n z K r r' vs vs' pl pl',c=(H++.back n::K,r,vs,pl)∧c'=(H'++.back n::K,r',vs',pl')∧n≤z∧xt K n∧Hg X bit H H' z r r' vs vs' pl pl')
def Ql(X:Ctx)(bit:Level→Bool)(d:eC)(r:RunT):Prop:=∃ q,d=([],q)∧q.1.Events.filter (cu X.p bit)=r.Events.filter (cu X.p bit)
def Div(X:Ctx)(bit:Level→Bool)(d d':eC):Prop:=∃ c e f,d.2.1.Events.filter (cu X.p bit)=c++[e]∧d'.2.1.Events.filter (cu X.p bit)=c++[f]∧e≠f∧e.Kind=2∧f.Kind=2∧e.At=f.At∧e.Which=f.Which
def zd(X:Ctx)(bit:Level→Bool)(r r':RunT)(d d':eC):Prop:=Rl X bit d d'∨Ql X bit d r∨Ql X bit d' r'∨Div X bit d d'
theorem zd.end_{r r':RunT}{d':eC}{q:RunT×List Level×List Level}(h:q.1.Events=r.Events):zd X bit r r' ([],q) d':=.inr (.inl ⟨q,rfl,by rw [h]⟩)
theorem zd.AB{r r':RunT}{d:eC}{q:RunT×List Level×List Level}(h:q.1.Events=r'.Events):zd X bit r r' d ([],q):=.inr (.inr (.inl ⟨q,rfl,by rw [h]⟩))
theorem zd.lo{r r' q q':RunT}{K:List jr}{vs vs' pl pl':List Level}(hK:xt K pl.length)(h:Lo X bit q q' vs vs' pl pl'):zd X bit r r' (K,q,vs,pl) (K,q',vs',pl'):=.inl (.inl ⟨_,_,_,_,_,_,_,rfl,rfl,hK,h⟩)
theorem Lo.with{r r' q q':RunT}{vs vs' us us' pl pl':List Level}(h:Lo X bit r r' vs vs' pl pl')(h1:dN X.p bit q q' us us')(h2:WF X.p q us)(h3:WF X.p q' us'):Lo X bit q q' us us' pl pl':=⟨h1,h2,h3,h.len,h.l,h.l'⟩
theorem Lo.tick{r r':RunT}{vs vs' pl pl':List Level}(h:Lo X bit r r' vs vs' pl pl'):Lo X bit r.tick r'.tick vs vs' pl pl':=h.with (h.eq.sc rfl rfl rfl rfl h.eq.ev) (h.w.sc rfl rfl) (h.w'.sc rfl rfl)
theorem Lo.take{r r':RunT}{vs vs' pl pl':List Level}(h:Lo X bit r r' vs vs' pl pl')(n:Nat):Lo X bit r r' vs vs' (pl.take n) (pl'.take n):=
 ⟨h.eq,h.w,h.w',by rw [sS,sS,h.len],fun x hx=>h.l x (iF hx),fun x hx=>h.l' x (iF hx)⟩
theorem Lo.push{r r':RunT}{vs vs' pl pl':List Level}(h:Lo X bit r r' vs vs' pl pl'){l l':Level}(hl:bit l=true)(M:bit l'=true):Lo X bit r r' vs vs' (pl++[l]) (pl'++[l']):=
 ⟨h.eq,h.w,h.w',by simp [h.len],fun x hx=>(eh.1 hx).elim (h.l x) fun e=>by rw [dS.1 e];exact hl,fun x hx=>(eh.1 hx).elim (h.l' x) fun e=>by rw [dS.1 e];exact M⟩
theorem Lo.high{r r':RunT}{vs vs' pl pl':List Level}(h:Lo X bit r r' vs vs' pl pl'){l l':Level}(hl:bit l=false)(M:bit l'=false){H H':List jr}(hH:∀ m,jr.back m∉H)(aa:∀ m,jr.back m∉H'){n:Nat}{K:List jr}(hn:n≤pl.length)(hK:xt K n) :
  Rl X bit (H++.back n::K,r,vs,pl++[l]) (H'++.back n::K,r',vs',pl'++[l']):=by
 have e:=h.len
 refine .inr ⟨H,H',n,pl.length,K,r,r',vs,vs',_,_,rfl,rfl,hn,hK,h.eq,h.w,h.w',⟨by simp,fun x hx=>?_,fun m hm=>absurd hm (hH m)⟩,⟨by simp;omega,fun x hx=>?_,fun m hm=>absurd hm (aa m)⟩,?_,?_⟩
 ·rw [List.drop_left] at hx
  rw [dS.1 hx];exact hl
 ·rw [e,List.drop_left] at hx
  rw [dS.1 hx];exact M
 ·rw [List.take_left];exact h.l
 ·rw [e,List.take_left];exact h.l'
variable (E:E4 X.p bit)(u:X.p=Y.p)(hf:X.first=Y.first)(hI:∀ i:Int,bit (js X.p X.p.Ins i)=true→vp X.ins i=vp Y.ins i)
include E
theorem Lo.of{r r':RunT}{vs vs' pl pl':List Level}(h:Lo X bit r r' vs vs' pl pl')(e:aK):bit (fX X.p vs pl e)=bit (fX X.p vs' pl' e)∧(bit (fX X.p vs pl e)=true→cM r.Vars e=cM r'.Vars e):=h.eq.of E ((h.l.pl E).trans (h.l'.pl E).symm) e
theorem ze{r r' q q':RunT}{vs vs' us us' pl pl':List Level}(h:Lo X bit r r' vs vs' pl pl'){n:Int}{l l':Level}{x x':Int}(hs:ob X.p vs pl n l=some us)(o:ob X.p vs' pl' n l'=some us')(hb:bit l=bit l')(hx:bit l=true→x=x')(h1:q.Vars=r.Vars.set n.toNat x)(h2:q'.Vars=r'.Vars.set n.toNat x')
  (t1:q.Taken.length=r.Taken.length) (t2:q'.Taken.length=r'.Taken.length) (h3:∀ i:Int,bit (js X.p X.p.Ins i)=true→nth q.Taken i=nth q'.Taken i) (h5:q.Events.filter (cu X.p bit)=q'.Events.filter (cu X.p bit)):Lo X bit q q' us us' pl pl':=by
 obtain ⟨m1,rfl⟩:=uj hs
 obtain ⟨m2,rfl⟩:=uj o
 exact h.with (h.eq.put h.w h.w' hb hx h1 h2 h3 h5) (h.w.put (by rw [h1];simp) t1 (rM.1 m1).2) (h.w'.put (by rw [h2];simp) t2 (rM.1 m2).2)
include u
theorem Kq{r r' q q':RunT}{vs vs' pl pl':List Level}(h:Lo X bit r r' vs vs' pl pl')(s:Stmt)(a:Int){m:Nat}{K:List jr}(hm:m≤pl.length)(hK:xt K m) :
  zd X bit q q' (lookW X s a (.back m::K) r vs pl) (lookW Y s a (.back m::K) r' vs' pl'):=by
 obtain ⟨e1,e2⟩:=h.of E s.Expr
 unfold lookW
 rw [←u]
 cases hb:bit (fX X.p vs pl s.Expr) with
 | true=>
  rw [hb] at e1
  rw [e2 hb]
  refine .lo ?_ (h.push hb e1.symm)
  split
  ·exact ⟨⟨m,K,rfl⟩,by simp;omega,hK⟩
  ·exact ⟨by simp;omega,hK⟩
 | false=>
  rw [hb] at e1
  have hH:∀ (b:Prop)[Decidable b],∃ H:List jr,(if b then .run s.Then (a+1)::.again s a::.back m::K else .back m::K)=H++.back m::K∧∀ n,jr.back n∉H:=fun b _=>by
   by_cases hb:b
   ·exact ⟨[.run s.Then (a+1),.again s a],by rw [af hb];rfl,by simp⟩
   ·exact ⟨[],by rw [ab hb];rfl,by simp⟩
  obtain ⟨H,h1,h2⟩:=hH (cM r.Vars s.Expr≠0)
  obtain ⟨H',az,ay⟩:=hH (cM r'.Vars s.Expr≠0)
  rw [h1,az]
  exact .inl (h.high hb e1.symm h2 ay hm hK)
include hf hI
theorem Qm{r r':RunT}{vs vs' us us' pl pl':List Level}(h:Lo X bit r r' vs vs' pl pl')(s:Stmt)(a:Int)(hs:jW X.p vs pl s=some us)(o:jW X.p vs' pl' s=some us') :
  Lo X bit (mb X s a r) (mb Y s a r') us us' pl pl'∨∃ c e f,(mb X s a r).Events.filter (cu X.p bit)=c++[e]∧(mb Y s a r').Events.filter (cu X.p bit)=c++[f]∧e≠f∧e.Kind=2∧f.Kind=2∧e.At=f.At∧e.Which=f.Which:=by
 have hl:=h.l.pl E
 have M:=h.l'.pl E
 have ho:=h.of E s.Expr
 have J:∀ e:Event,(r.Events++[e]).filter (cu X.p bit)=(r'.Events++[e]).filter (cu X.p bit):=fun e=>by rw [nX,nX,h.eq.ev]
 have F:∀ e f:Event,cu X.p bit e=false→cu X.p bit f=false→(r.Events++[e]).filter (cu X.p bit)=(r'.Events++[f]).filter (cu X.p bit):=fun e f h1 h2=>by
  rw [nX,nX,h.eq.ev];simp [h1,h2]
 unfold jW at hs o
 unfold mb
 by_cases k1:s.Kind=1
 ·rw [af k1] at hs o
  rw [ab (by omega),ab (by omega),ab (by omega),ab (by omega),ab (by omega),ab (by omega),ab (by omega),ab (by omega)]
  exact .inl (ze E h hs o ho.1 ho.2 rfl rfl rfl rfl h.eq.tk h.eq.ev)
 rw [ab k1] at hs o
 by_cases k3:s.Kind=3
 ·rw [af k3] at hs o ⊢
  rw [af k3]
  split at hs
  rotate_left
  ·cases hs
  split at o
  rotate_left
  ·cases o
  have hb:∀ {q:List Level},bit (mR X.p q)=true→bit (eF (MM X.p) (mR X.p q) (js X.p X.p.Ins s.Other))=bit (js X.p X.p.Ins s.Other):=fun hq=>by rw [E.join,hq,sL]
  refine .inl (ze E h hs o ((hb hl).trans (hb M).symm) (fun hx=>?_) rfl rfl (by simp) (by simp) (fun i hi=>?_) h.eq.ev)
  ·rw [hb hl] at hx
   rw [hI _ hx,h.eq.tk _ hx]
  ·by_cases hc:s.Other.toNat=i.toNat
   ·have e1:=h.w.c
    have e2:=h.w'.c
    have:=h.eq.tk i hi
    unfold nth at this ⊢
    rw [zc,zc,e1,e2,hc]
    rw [this]
   ·rw [Jp _ _ _ _ hc,Jp _ _ _ _ hc];exact h.eq.tk i hi
 rw [ab k3] at hs o ⊢
 rw [ab k3]
 by_cases k4:s.Kind=4
 ·rw [af k4] at hs o ⊢
  rw [af k4]
  split at hs
  rotate_left
  ·cases hs
  rename_i hu
  split at o
  rotate_left
  ·cases o
  obtain rfl:=ah hs
  obtain rfl:=ah o
  refine .inl (h.with (h.eq.sc rfl rfl rfl rfl ?_) (h.w.sc rfl rfl) (h.w'.sc rfl rfl))
  cases hb:bit (js X.p X.p.Outs s.Other) with
  | true=>rw [ho.2 (E.le hu hb)];exact J _
  | false=>exact F _ _ (by unfold cu;rw [af rfl];exact hb) (by unfold cu;rw [af rfl];exact hb)
 rw [ab k4] at hs o ⊢
 rw [ab k4]
 split at hs
 rotate_left
 ·cases hs
 rename_i hk
 rw [af hk] at o
 have hb:bit (vB X.p vs pl s)=bit (vB X.p vs' pl' s):=by
  rw [E.chg,E.chg,ho.1]
 by_cases k5:s.Kind=5
 ·rw [af k5,af k5]
  have hc:bit (vB X.p vs pl s)=bit (dm X.p.an (eB X.p s.Var).Label):=by rw [E.chg,af k5]
  by_cases hv:cM r.Vars s.Expr=cM r'.Vars s.Expr
  ·exact .inl (ze E h hs o hb (fun _=>hv) rfl rfl rfl rfl h.eq.tk (by rw [hv];exact J _))
  cases D:bit (dm X.p.an (eB X.p s.Var).Label) with
  | false=>exact .inl (ze E h hs o hb (fun hx=>by rw [hc,D] at hx;cases hx) rfl rfl rfl rfl h.eq.tk (F _ _ (by unfold cu;rw [ab (fun h=>by cases h)];exact D) (by unfold cu;rw [ab (fun h=>by cases h)];exact D)))
  | true=>
   refine .inr ⟨r.Events.filter (cu X.p bit),⟨2,a,s.Var,cM r.Vars s.Expr⟩,⟨2,a,s.Var,cM r'.Vars s.Expr⟩,?_,?_,fun e=>hv (Event.mk.inj e).2.2.2,rfl,rfl,rfl,rfl⟩
   ·show (r.Events++[_]).filter _=_
    rw [nX];simp [cu,D]
   ·show (r'.Events++[_]).filter _=_
    rw [nX,h.eq.ev];simp [cu,D]
 rw [ab k5,ab k5]
 have hc:bit (vB X.p vs pl s)=bit (fX X.p vs pl s.Expr):=by rw [E.chg,ab k5]
 have hx:bit (vB X.p vs pl s)=true→cM r.Vars s.Expr=cM r'.Vars s.Expr:=fun hx=>ho.2 (by rw [←hc];exact hx)
 by_cases k6:s.Kind=6
 ·rw [af k6,af k6]
  refine .inl (ze E h hs o hb hx rfl rfl rfl rfl h.eq.tk ?_)
  cases D:bit (dm X.p.an (eB X.p s.Var).Label) with
  | false=>exact F _ _ (by unfold cu;rw [ab (fun h=>by cases h)];exact D) (by unfold cu;rw [ab (fun h=>by cases h)];exact D)
  | true=>
   have hm:=(rM.1 (uj hs).1).2 hk.1
   rw [hx (E.le hm D)]
   exact J _
 rw [ab k6,ab k6]
 exact .inl (ze E h hs o hb hx rfl rfl rfl rfl h.eq.tk h.eq.ev)
theorem lock{K:List jr}{r r':RunT}{vs vs' pl pl':List Level}(hK:xt K pl.length)(h:Lo X bit r r' vs vs' pl pl'):zd X bit r r' (fj X (K,r,vs,pl)) (fj Y (K,r',vs',pl')):=by
 have hlen:=h.len
 have P:∀ s,dw Y s=dw X s:=fun s=>by unfold dw;rw [u]
 have ar:∀ us ps s,lI Y us ps s=lI X us ps s:=fun us ps s=>by unfold lI;rw [P,u]
 match K,hK with
 | [],_=>exact .lo trivial h
 | .back n::K,hK=>
  refine .lo ?_ (h.take n)
  rw [sS,wv hK.1];exact hK.2
 | .leave s a::K,hK=>
  show zd X bit r r' (qY X s a K r vs pl) (qY Y s a K r' vs' pl')
  unfold qY
  rw [P,←u]
  cases hs:ob X.p vs pl s.Var (fX X.p vs pl (dw X s).Result) with
  | none=>exact .end_ rfl
  | some us=>
   cases o:ob X.p vs' pl' s.Var (fX X.p vs' pl' (dw X s).Result) with
   | none=>exact .AB rfl
   | some us'=>
    have ho:=h.of E (dw X s).Result
    exact .lo hK (ze E h hs o ho.1 ho.2 rfl (by unfold qX;rw [P];rfl) rfl rfl h.eq.tk h.eq.ev)
 | .run [] a::K,hK=>exact .lo hK h
 | .again s a::K,hK=>
  obtain ⟨⟨m,K0,rfl⟩,hk⟩:=hK
  show zd X bit r r' (if r.Steps=X.fuel then ([],r.out,vs,pl) else lookW X s a (.back m::K0) r.tick vs pl) (if r'.Steps=Y.fuel then ([],r'.out,vs',pl') else lookW Y s a (.back m::K0) r'.tick vs' pl')
  by_cases f1:r.Steps=X.fuel
  ·rw [af f1];exact .end_ rfl
  by_cases f2:r'.Steps=Y.fuel
  ·rw [af f2];exact .AB rfl
  rw [ab f1,ab f2]
  exact Kq E u h.tick s a hk.1 hk.2
 | .run (s::l) a::K,hK=>
  show zd X bit r r' (if r.Steps=X.fuel then ([],r.out,vs,pl) else mH X s a l K r.tick vs pl) (if r'.Steps=Y.fuel then ([],r'.out,vs',pl') else mH Y s a l K r'.tick vs' pl')
  by_cases f1:r.Steps=X.fuel
  ·rw [af f1];exact .end_ rfl
  by_cases f2:r'.Steps=Y.fuel
  ·rw [af f2];exact .AB rfl
  rw [ab f1,ab f2]
  have ht:=h.tick
  have ak:bit (mR X.p pl)=bit (mR X.p pl'):=(h.l.pl E).trans (h.l'.pl E).symm
  unfold mH
  by_cases k2:s.Kind=2
  ·rw [af k2,af k2,ar,P,←hf]
   cases he:lI X vs pl s with
   | none=>exact .end_ rfl
   | some us=>
    cases ai:lI X vs' pl' s with
    | none=>exact .AB rfl
    | some us'=>
     have Q:kH Y s r'.tick=kH X s r'.tick:=by unfold kH;rw [P]
     rw [Q]
     obtain ⟨m1,e1⟩:=Al he
     obtain ⟨m2,e2⟩:=Al ai
     refine .lo (K:=.run (dw X s).Body (nth X.first s.Other)::.leave s a::.run l (a+gh s)::K) hK (ht.with ?_ (GA ht.w he) (GA ht.w' ai))
     subst e1 e2
     exact Ko E ht.eq ak _ _ _ _ _ _ m1 m2 (ht.w.sc rfl rfl) (ht.w'.sc rfl rfl) (ht.eq.sc rfl rfl rfl rfl ht.eq.ev)
  rw [ab k2,ab k2]
  by_cases k7:s.Kind=7
  ·rw [af k7,af k7,←u,←hlen]
   obtain ⟨e1,e2⟩:=ht.of E s.Expr
   cases hb:bit (fX X.p vs pl s.Expr) with
   | true=>
    rw [hb] at e1
    rw [e2 hb]
    refine .lo ?_ (ht.push hb e1.symm)
    exact ⟨by simp,hK⟩
   | false=>
    rw [hb] at e1
    exact .inl (ht.high (H:=[.run (if cM r.tick.Vars s.Expr≠0 then s.Then else s.Else) (if cM r.tick.Vars s.Expr≠0 then a+1 else a+1+cP s.Then)]) (H':=[.run (if cM r'.tick.Vars s.Expr≠0 then s.Then else s.Else) (if cM r'.tick.Vars s.Expr≠0 then a+1 else a+1+cP s.Then)]) hb e1.symm (by simp) (by simp) (n:=pl.length) (K:=.run l (a+gh s)::K) (aY _) hK)
  rw [ab k7,ab k7]
  by_cases k8:s.Kind=8
  ·rw [af k8,af k8,←hlen]
   exact Kq E u ht s a (K:=.run l (a+gh s)::K) (aY _) hK
  rw [ab k8,ab k8,←u]
  cases hs:jW X.p vs pl s with
  | none=>exact .end_ rfl
  | some us=>
   cases o:jW X.p vs' pl' s with
   | none=>exact .AB rfl
   | some us'=>
    rcases Qm E u hf hI ht s a hs o with hl | hd
    ·exact .lo (K:=.run l (a+gh s)::K) hK hl
    ·exact .inr (.inr (.inr hd))
theorem Am(Z:Ctx){n:Nat}{c:eC}{q:RunT×List Level×List Level}(h:la Z n c=([],q)):∃ es,q.1.Events.filter (cu X.p bit)=c.2.1.Events.filter (cu X.p bit)++es:=by
 obtain ⟨es,he⟩:=M5 Z n c
 rw [h] at he
 exact ⟨es.filter (cu X.p bit),by rw [←nX,←he]⟩
theorem zf:∀ (N n1 n2:Nat)(c c':eC)(q q':RunT×List Level×List Level),n1+n2≤N→Rl X bit c c'→la X n1 c=([],q)→la Y n2 c'=([],q')→Kp (q.1.Events.filter (cu X.p bit)) (q'.1.Events.filter (cu X.p bit))
 | N,n1,n2,c,c',q,q',hN,hR,h1,h2=>by
  have p1:=Am E u hf hI X h1
  have p2:=Am E u hf hI Y h2
  have left:∀ {d:eC}{m:Nat}{r:RunT},Ql X bit d r→la X m d=([],q)→r.Events.filter (cu X.p bit)=c'.2.1.Events.filter (cu X.p bit)→Kp (q.1.Events.filter (cu X.p bit)) (q'.1.Events.filter (cu X.p bit)):=by
   rintro d m r ⟨z,rfl,hz⟩ hi hr
   rw [wK] at hi
   obtain rfl:=(dM hi).2
   obtain ⟨es,he⟩:=p2
   exact .inl ⟨es,by rw [hz,hr,he]⟩
  have right:∀ {d:eC}{m:Nat}{r:RunT},Ql X bit d r→la Y m d=([],q')→r.Events.filter (cu X.p bit)=c.2.1.Events.filter (cu X.p bit)→Kp (q.1.Events.filter (cu X.p bit)) (q'.1.Events.filter (cu X.p bit)):=by
   rintro d m r ⟨z,rfl,hz⟩ hi hr
   rw [wK] at hi
   obtain rfl:=(dM hi).2
   obtain ⟨es,he⟩:=p1
   exact .inr (.inl ⟨es,by rw [hz,hr,he]⟩)
  rcases hR with ⟨K,r,r',vs,vs',pl,pl',rfl,rfl,hK,h⟩ | ⟨H,H',n,z,K,r,r',vs,vs',pl,pl',rfl,rfl,hn,hK,h⟩
  ·match n1,n2,h1,h2,hN with
   | 0,_,h1,_,_=>
    obtain ⟨rfl,rfl⟩:=dM h1
    obtain ⟨es,he⟩:=p2
    exact .inl ⟨es,by rw [he,←h.eq.ev]⟩
   | _,0,_,h2,_=>
    obtain ⟨rfl,rfl⟩:=dM h2
    obtain ⟨es,he⟩:=p1
    exact .inr (.inl ⟨es,by rw [he,h.eq.ev]⟩)
   | m1+1,m2+1,h1,h2,hN=>
    rw [la] at h1 h2
    rcases lock E u hf hI hK h with hl | hl | hl | ⟨cc,e,f,d1,d2,d3⟩
    ·exact zf (N - 1) m1 m2 _ _ q q' (by omega) hl h1 h2
    ·exact left hl h1 h.eq.ev
    ·exact right hl h2 h.eq.ev.symm
    ·obtain ⟨es,he⟩:=Am E u hf hI X h1
     obtain ⟨fs,aq⟩:=Am E u hf hI Y h2
     exact .inr (.inr ⟨cc,e,f,es,fs,by rw [he,d1];simp,by rw [aq,d2];simp,d3⟩)
  ·have U:∀ (H:List jr)(r:RunT)(vs pl:List Level)(q:RunT×List Level×List Level),((H++.back n::K,r,vs,pl):eC)≠([],q):=fun H r vs pl q h=>by
    have:=(dM h).1
    simp at this
   match n1,n2,h1,h2,hN with
   | 0,_,h1,_,_=>exact absurd h1 (U _ _ _ _ _)
   | _,0,_,h2,_=>exact absurd h2 (U _ _ _ _ _)
   | m1+1,m2+1,h1,h2,hN=>
    by_cases hH:H=[]
    ·by_cases aa:H'=[]
     ·subst hH aa
      rw [la] at h1 h2
      have hz:=h.h.lt
      have aB:=h.h'.lt
      have e1:(pl.take z).take n=pl.take n:=by rw [List.take_take,wv hn]
      have e2:(pl'.take z).take n=pl'.take n:=by rw [List.take_take,wv hn]
      have am:Lo X bit r r' vs vs' (pl.take n) (pl'.take n):=⟨h.eq,h.w,h.w',by rw [sS,sS];omega,fun x hx=>h.l x (by rw [←e1] at hx;exact iF hx),fun x hx=>h.l' x (by rw [←e2] at hx;exact iF hx)⟩
      refine zf (N - 1) m1 m2 _ _ q q' (by omega) (.inl ⟨K,r,r',vs,vs',_,_,rfl,rfl,?_,am⟩) h1 h2
      rw [sS,wv (by omega)];exact hK
     ·rw [la] at h2
      have E':E4 Y.p bit:=u▸E
      rcases Pm E' (K0:=K) (n:=n) aa h.h' (u▸h.w') with ⟨H1,r1,vs1,pl1,g1,g2,g3,g4,g5⟩ | ⟨z',g1,g2⟩
      ·rw [g1] at h2
       rw [←u] at g3 g4
       exact zf (N - 1) (m1+1) m2 _ _ q q' (by omega) (.inr ⟨H,H1,n,z,K,r,r1,vs,vs1,pl,pl1,rfl,rfl,hn,hK,h.eq.trans g4,h.w,g3,h.h,g2,h.l,by rw [g5];exact h.l'⟩) h1 h2
      ·rw [←u] at g2
       exact right ⟨z',g1,g2⟩ h2 h.eq.ev.symm
    ·rw [la] at h1
     rcases Pm E (K0:=K) (n:=n) hH h.h h.w with ⟨H1,r1,vs1,pl1,g1,g2,g3,g4,g5⟩ | ⟨z',g1,g2⟩
     ·rw [g1] at h1
      exact zf (N - 1) m1 (m2+1) _ _ q q' (by omega) (.inr ⟨H1,H',n,z,K,r1,r',vs1,vs',pl1,pl',rfl,rfl,hn,hK,g4.symm.trans h.eq,g3,h.w',g2,h.h',by rw [g5];exact h.l,h.l'⟩) h1 h2
     ·exact left ⟨z',g1,g2⟩ h1 h.eq.ev
 termination_by N=>N
 decreasing_by all_goals omega
end
def GB(p:Program)(v:Event):Int:=if v.Kind<1∨3<v.Kind then 7 else if v.Which<0∨((if v.Kind=1 then p.Outs.length else p.Vars.length:Nat):Int)≤v.Which then 5 else 0
def GC(p:Program)(v:Event):Prop:=GB p v=0∧(v.Kind≠1→(eB p v.Which).Known=true)
def Uw(X:Ctx):jr→Prop
 | .run l _=>∃ i:Nat,i≤X.p.Funcs.length∧fF (dc X.p i) l=0
 | .again s _=>∃ i:Nat,i≤X.p.Funcs.length∧xf (dc X.p i) s=0
 | _=>True
structure sr(X:Ctx)(c:eC):Prop where
 k:∀ t∈c.1,Uw X t
 e:∀ v∈c.2.1.Events,GC X.p v
variable [Lp]
variable {c:eC}
theorem sr.step{X:Ctx}(hX:tA X)(h:sr X c):sr X (fj X c):=by
 obtain ⟨K,r,vs,pl⟩:=c
 obtain ⟨hk,he⟩:=h
 simp only at hk he
 have look:∀ (s:Stmt)(a:Int)(i:Nat)(K:List jr)(r:RunT),i≤X.p.Funcs.length→xf (dc X.p i) s=0→(∀ t∈K,Uw X t)→(∀ v∈r.Events,GC X.p v)→sr X (lookW X s a K r vs pl):=fun s a i K r hi hs hK hr=>by
  refine ⟨fun t ht=>?_,hr⟩
  unfold lookW at ht
  simp only at ht
  split at ht
  ·rcases dh.1 ht with rfl | ht
   ·exact ⟨i,hi,(yN hs).2.1⟩
   rcases dh.1 ht with rfl | ht
   ·exact ⟨i,hi,hs⟩
   ·exact hK t ht
  ·exact hK t ht
 match K,hk with
 | [],hk=>exact ⟨hk,he⟩
 | .back n::K,hk=>exact ⟨fun t ht=>hk t (by simp [show t∈K from ht]),he⟩
 | .leave s a::K,hk=>
  simp only [fj,qY]
  split
  ·exact ⟨fun t ht=>hk t (by simp [show t∈K from ht]),he⟩
  ·exact ⟨fun t ht=>by simp at ht,he⟩
 | .run [] a::K,hk=>exact ⟨fun t ht=>hk t (by simp [show t∈K from ht]),he⟩
 | .again s a::K,hk=>
  simp only [fj]
  split
  ·exact ⟨fun t ht=>by simp at ht,he⟩
  ·obtain ⟨i,hi,hs⟩:=hk (.again s a) (by simp)
   exact look s a i K r.tick hi hs (fun t ht=>hk t (by simp [ht])) he
 | .run (s::l) a::K,hk=>
  obtain ⟨i,hi,hl⟩:=hk (.run (s::l) a) (by simp)
  have Q:=CB hl s (by simp)
  have au:fF (dc X.p i) l=0:=by rw [fF,ab (by simp [Q])] at hl;exact hl
  obtain ⟨hs,aj,av⟩:=yN Q
  have hK:∀ b,∀ t∈jr.run l b::K,Uw X t:=fun b t ht=>by
   rcases dh.1 ht with rfl | ht
   ·exact ⟨i,hi,au⟩
   ·exact hk t (by simp [ht])
  simp only [fj]
  split
  ·exact ⟨fun t ht=>by simp at ht,he⟩
  unfold mH
  split
  ·rename_i k2
   split
   ·refine ⟨fun t ht=>?_,he⟩
    obtain ⟨c1,c2,c3,c4,_⟩:=called hX hi hs k2
    rcases dh.1 ht with rfl | ht
    ·exact ⟨s.Other.toNat,by omega,(CD c4).2.2.1⟩
    rcases dh.1 ht with rfl | ht
    ·trivial
    ·exact hK _ t ht
   ·exact ⟨fun t ht=>by simp at ht,he⟩
  split
  ·refine ⟨fun t ht=>?_,he⟩
   rcases dh.1 ht with rfl | ht
   ·refine ⟨i,hi,?_⟩
    split
    ·exact aj
    ·exact av
   rcases dh.1 ht with rfl | ht
   ·trivial
   ·exact hK _ t ht
  split
  ·refine look s a i _ r.tick hi Q (fun t ht=>?_) he
   rcases dh.1 ht with rfl | ht
   ·trivial
   ·exact hK _ t ht
  rename_i k2 k7 k8
  split
  ·rename_i us I
   refine ⟨hK _,fun v hv=>?_⟩
   obtain ⟨o1,o2,o3,o4,o5,o6⟩:=oL hs
   have put:∀ q:RunT,∀ e:Event,q.Events=r.Events→GC X.p e→v∈(q.ev e).Events→GC X.p v:=fun q e h1 h2 h3=>by
    simp only [RunT.ev,h1] at h3
    rcases eh.1 h3 with h3 | h3
    ·exact he v h3
    ·rw [dS.1 h3];exact h2
   have ag:s.Kind=5∨s.Kind=6→(eB X.p s.Var).Known=true∧0≤s.Var∧s.Var<X.p.Vars.length:=fun h=>by
    unfold jW at I
    rw [ab (by omega),ab (by omega),ab (by omega)] at I
    split at I
    ·rename_i hc
     exact ⟨hc.1,o2 (by rcases h with h | h<;>rw [h]<;>rfl)⟩
    ·cases I
   unfold mb at hv
   split at hv
   ·exact he v hv
   split at hv
   ·rename_i k4
    refine put _ _ rfl ⟨?_,fun h=>absurd rfl h⟩ hv
    have v2:=o3 (by rw [k4];rfl)
    have e3:ij X.p i s.Kind=X.p.Outs.length:=by rw [k4];rfl
    rw [e3] at v2
    unfold GB
    rw [ab (by simp),ab (by simp;omega)]
   split at hv
   ·rename_i k5
    obtain ⟨q1,q2,q3⟩:=ag (.inl k5)
    refine put _ _ rfl ⟨?_,fun _=>q1⟩ hv
    unfold GB
    rw [ab (by simp),ab (by simp;omega)]
   split at hv
   ·rename_i k6
    obtain ⟨q1,q2,q3⟩:=ag (.inr k6)
    refine put _ _ rfl ⟨?_,fun _=>q1⟩ hv
    unfold GB
    rw [ab (by simp),ab (by simp;omega)]
   ·exact he v hv
  ·exact ⟨fun t ht=>by simp at ht,he⟩
theorem sr.iter{X:Ctx}(hX:tA X):∀ (n:Nat){c:eC},sr X c→sr X (la X n c)
 | 0,_,h=>h
 | n+1,_,h=>sr.iter hX n (h.step hX)
theorem SG{n:Nat}{m:Level} : iu n (fc n) m=true:=by
 unfold iu Gq fc
 simp only [aL,cI,List.mem_range]
 refine ⟨fun k hk=>?_,fun k hk=>?_⟩
 ·have:on (List.replicate n true) k=true:=by simp [on,fM,uT,hk]
  rw [this];simp
 ·have:on (List.replicate n false) k=false:=by simp [on,fM,uT,hk]
  rw [this];rfl
variable {ins:List (List Int)}{fuel:Int}
theorem Ux{p:Program}(hX:tA (jv p ins fuel)):sr (jv p ins fuel) (q8 p):=
 ⟨fun t ht=>by
  obtain rfl:=dS.1 ht
  exact ⟨p.Funcs.length,aY _,hX.ok.mains⟩,fun v hv=>by cases hv⟩
theorem Uy(n k:Nat)(x:α):(List.replicate n x).getD k x=x:=by
 rw [fM,uT]
 split<;>rfl
theorem M9(p:Program):WF p (init p) (List.replicate p.Vars.length (fc (MM p))):=⟨by simp [init],by simp,by simp [init],fun j _=>by rw [Uy];exact SG⟩
variable {r:RunT}{vs us:List Level}
theorem Ob{p:Program}{bit:Level→Bool}(E:E4 p bit){mix:List (List Int)}(hI:∀ i:Int,bit (js p p.Ins i)=true→vp ins i=vp mix i){s:RunT}(h1:ub (jv p ins fuel) (q8 p) r vs)(h2:ub (jv p mix fuel) (q8 p) s us):
  Kp (r.Events.filter (cu p bit)) (s.Events.filter (cu p bit)):=by
 obtain ⟨q,pl,⟨n,hn⟩,rfl⟩:=h1
 obtain ⟨q',pl',⟨n',al⟩,rfl⟩:=h2
 have hd:∀ q:RunT,(Ah q).Events=q.Events:=fun q=>by unfold Ah;split<;>rfl
 rw [hd,hd]
 refine zf (X:=jv p ins fuel) (Y:=jv p mix fuel) E rfl rfl hI (n+n') n n' (q8 p) (q8 p) _ _ (aY _) (.inl ⟨_,_,_,_,_,_,_,rfl,rfl,trivial,⟨.refl _ _,M9 p,M9 p,rfl,fun x hx=>?_,fun x hx=>?_⟩⟩) hn al
 ·rw [dS.1 hx];exact E.bot
 ·rw [dS.1 hx];exact E.bot
theorem Na{p:Program}(hX:tA (jv p ins fuel))(h:ub (jv p ins fuel) (q8 p) r vs):∀ v∈r.Events,GC p v:=by
 obtain ⟨q,pl,⟨n,hn⟩,rfl⟩:=h
 have h1:=sr.iter hX n (Ux hX)
 rw [hn] at h1
 have hd:(Ah q).Events=q.Events:=by unfold Ah;split<;>rfl
 rw [hd]
 exact h1.e
def xu(who:Int)(l:Level):Bool:=on l.Readers who.toNat
theorem afT{p:Program}{who:Int}(hw:who.toNat<MM p):E4 p (xu who):=
 ⟨fun a b=>Ez hw,fun h=>((le_iff.1 h) _ hw).1,by simp [xu,on,fc,fM,uT,hw],fun vs pl s=>by
  unfold vB
  split<;>rfl⟩
variable {v:Event}
theorem Py{p:Program}(h:GB p v=0):¬(v.Kind<1∨3<v.Kind)∧0≤v.Which∧v.Which<((if v.Kind=1 then p.Outs.length else p.Vars.length:Nat):Int):=by
 unfold GB at h
 by_cases h1:v.Kind<1∨3<v.Kind
 ·rw [af h1] at h;exact absurd h (by decide)
 ·rw [ab h1] at h
  by_cases h2:v.Which<0∨((if v.Kind=1 then p.Outs.length else p.Vars.length:Nat):Int)≤v.Which
  ·rw [af h2] at h;exact absurd h (by decide)
  ·exact ⟨h1,by omega⟩
variable [Lp]
theorem S3(a:an)(n:Int)(h:1≤a.Many∧a.Many≤6):we a n=some (dk a.Many n):=by
 have hb:∀ x y z,wc x y z=some (decide (y≤x∧x≤z)):=fun n x y=>by
  unfold wc
  by_cases h:x≤n<;>simp [h]
 grind [we,wrap64,dk]
variable {l:Level}
theorem JF{n:Nat}{who:Int}(hl:cN n l)(h0:0≤who)(h1:who.toNat<n):zk l who false=some (xu who l):=by
 unfold zk xu
 rw [cA h0]
 simp [pK (row:=l.Readers) (k:=who.toNat) (by rw [hl.1];exact h1)]
theorem Iq(p:Program)(m:pD)(who:Int)(l:Level):py ⟨p,m,who,false⟩ l=zk l who false:=rfl
section
variable {p:Program}(h:nJ p){who:Int}(h0:0≤who)(h1:who.toNat<MM p)
include h h0 h1
theorem afU{k:Nat}(hk:k<p.Ins.length):xX p who false (k:Int)=some (xu who (js p p.Ins k)):=by
 have hf:=h.ins _ (cp hk)
 have hd:js p p.Ins k=dm p.an p.Ins[k]:=by unfold js;grind
 unfold xX
 rw [F6,ad,aV hk,ad,S0 _ h.eU _ hf,ad,JF (jc p.an p.Ins[k]) h0 h1,ad,hd]
theorem UJ{m:pD}(hm:lG p m.Vars m.Funcs)(hk:∀ (i:Nat)(v:Var),p.Vars[i]? =some v→v.Known=true→m.Vars[i]? =some (dm p.an v.Label))(hv:GC p v):pz ⟨p,m,who,false⟩ v=some (cu p (xu who) v):=by
 obtain ⟨h2,h3⟩:=hv
 obtain ⟨q1,q2⟩:=Py h2
 unfold pz cu
 by_cases k1:v.Kind=1
 ·rw [af k1] at q2 ⊢
  have W:v.Which.toNat<p.Outs.length:=by omega
  have hf:=h.outs _ (cp W)
  have hd:js p p.Outs v.Which=dm p.an p.Outs[v.Which.toNat]:=by unfold js;grind
  rw [af (by simpa using k1),cA (by omega),ad,aV W,ad,Gp _ h.eU _ hf,ad,Iq,JF (jc p.an p.Outs[v.Which.toNat]) h0 h1,ad,hd]
 ·rw [ab k1] at q2 ⊢
  have W:v.Which.toNat<p.Vars.length:=by omega
  have hg:p.Vars[v.Which.toNat]? =some (eB p v.Which):=by unfold eB;grind
  have hl:=hk _ _ hg (h3 k1)
  rw [ab (by simpa using k1),cA (by omega),ad,hl,ad,Iq,JF (jc p.an _) h0 h1,ad]
theorem KB(ho:FG p)(S:q9 p who=some 0)(l:List Event)(hl:l.length≤1048576)(hv:∀ v∈l,GC p v):pO p who false l=some (l.filter (cu p (xu who)),0):=by
 obtain ⟨m,m1,m2,m3,m4⟩:=Ww h ho
 have he:∀ v:Event,GB p v=0→uo p v=some 0:=fun v hv=>by
  obtain ⟨q1,q2⟩:=Py hv
  unfold uo qu
  rw [ab (by omega),ab (by omega)]
  by_cases k1:v.Kind=1
  ·rw [af k1] at q2
   rw [af (by simpa using k1),ab (by omega),ab (by omega)];rfl
  ·rw [ab k1] at q2
   rw [ab (by simpa using k1),ab (by omega),ab (by omega)];rfl
 have q1:=ny (B:=fun v=>ll p l v) l.length id (x:=.inr (l.length,false))
  (fun k hk=>by
   simp only [ll,id,show (k:Int)<(l.length:Int) by omega,aA,aV hk,ad,he _ (hv _ (cp hk)).1,kt k (by omega)]
   simp)
  (by simp [ll])
 have q1':lp (fun v=>ll p l v) 0=_:=q1
 have hlen:∀ k,((l.take k).filter (cu p (xu who))).length+1≤1000000000:=fun k=>by
  have:=DE (cu p (xu who)) (l.take k)
  rw [sS] at this;omega
 have q2:=ny (B:=fun v=>ko ⟨p,m,who,false⟩ l v.1 v.2) l.length (fun k=>((l.take k).filter (cu p (xu who)),k)) (x:=(l.filter (cu p (xu who)),l.length,false))
  (fun k hk=>by
   have e:=UJ h h0 h1 m2 m4 (hv _ (cp hk))
   simp only [ko,show (k:Int)<(l.length:Int) by omega,aA,aV hk,ad,e,kt k (by omega),wq,hlen k,oZ hk,nX]
   cases hs:cu p (xu who) l[k]<;>simp [hs])
  (by simp [ko])
 have q2':lp (fun v=>ko ⟨p,m,who,false⟩ l v.1 v.2) (([]:List Event),0)=_:=q2
 unfold pO CV vH
 rw [S,ad,ab (by simp),q1',ad,m1]
 simp only [ad]
 rw [q2',ad]
 rfl
theorem UK(ho:FG p)(ins others:List (List Int))(hi:ins.length=p.Ins.length):∃ mix,Ap p who false ins others=some mix∧mix.length=ins.length∧∀ i:Int,xu who (js p p.Ins i)=true→vp ins i=vp mix i:=by
 have aC:=ho.ins
 let g:Nat→List Int:=fun k=>if xu who (js p p.Ins k)=true then ins.getD k [] else if others.length≤k then ins.getD k [] else others.getD k []
 have G:∀ (L:List (List Int)) k (hk:k<L.length),L[k]? =some (L.getD k []):=fun L k hk=>by rw [fM,aV hk,lr]
 have q:=ny (B:=fun v=>pT p who false ins others v.1 v.2) ins.length (fun k=>((List.range k).map g,k)) (x:=((List.range ins.length).map g,ins.length,false))
  (fun k hk=>by
   have e:=afU h h0 h1 (k:=k) (by omega)
   have hr:(List.range (k+1)).map g=(List.range k).map g++[g k]:=by rw [zH,dI];rfl
   rw [hr]
   unfold pT
   rw [af (by omega),e,ad]
   by_cases h2:xu who (js p p.Ins k)=true
   ·have hg:g k=ins.getD k []:=af h2
    rw [af h2,G _ _ hk,ad,af (by simp;omega),af (kt k (by omega)),hg]
   ·rw [ab h2]
    by_cases h3:others.length≤k
    ·have hg:g k=ins.getD k []:=by show (if _ then _ else _)=_;rw [ab h2,af h3]
     rw [af (by omega),G _ _ hk,ad,af (by simp;omega),af (kt k (by omega)),hg]
    ·have hg:g k=others.getD k []:=by show (if _ then _ else _)=_;rw [ab h2,ab h3]
     rw [ab (by omega),G _ _ (by omega),ad,af (by simp;omega),af (kt k (by omega)),hg])
  (by simp [pT])
 have q':lp (fun v=>pT p who false ins others v.1 v.2) (([]:List (List Int)),0)=_:=q
 refine ⟨(List.range ins.length).map g,by unfold Ap;rw [q',ad],by simp,fun i hb=>?_⟩
 unfold vp
 rw [fM (l:=(List.range ins.length).map g),nT]
 by_cases hk:i.toNat<ins.length
 ·have ae:xu who (js p p.Ins (i.toNat:Int))=true:=by rw [Ie (m:=i) (by omega)];exact hb
  rw [List.getElem?_range hk,jf,lr]
  exact (af ae).symm
 ·rw [DD (by simp;omega),fM,DD (by omega)];rfl
end
theorem UL(ha:a.length≤1048576)(hb:b.length≤1048576)(h:Kp a b):Aq a b 2 false=some true:=by
 have same:∀ (n:Nat),n≤a.length→n≤b.length→(∀ k,k<n→a[k]? =b[k]?)→∀ x,lp (fun v=>jd a b 2 v) n=some x→lp (fun v=>jd a b 2 v) 0=some x:=by
  intro n
  induction n with
  | zero=>intro _ _ _ x hx;exact hx
  | succ n ih=>
   intro h1 h2 h3 x hx
   refine ih (by omega) (by omega) (fun k hk=>h3 k (by omega)) x ?_
   have e:=h3 n (by omega)
   rw [aV (show n<a.length by omega),aV (show n<b.length by omega)] at e
   have e:=ah e
   rw [mh (w:=n+1)]
   ·exact hx
   unfold jd
   rw [af (by omega),af (by omega),aV (show n<a.length by omega),ad,aV (show n<b.length by omega),ad,e,af (by simp),af (kt n (by omega))]
 unfold Aq
 rcases h with ⟨t,ht⟩ | ⟨t,ht⟩ | ⟨c,e,f,a',b',rfl,rfl,h3,h4,h5,h6,h7⟩
 ·rw [same a.length (aY _) (by rw [←ht];simp) (fun k hk=>by rw [←ht,nW hk]) (.inr (false,a.length)) (gJ (by unfold jd;rw [ab (by omega)]))]
  rfl
 ·obtain ⟨z,hz⟩:∃ z,lp (fun v=>jd a b 2 v) b.length=some (.inr z):=by
   by_cases W:b.length<a.length
   ·exact ⟨_,gJ (by unfold jd;rw [af (by omega),ab (by omega)])⟩
   ·exact ⟨_,gJ (by unfold jd;rw [ab (by omega)])⟩
  rw [same b.length (by rw [←ht];simp) (aY _) (fun k hk=>by rw [←ht,nW hk]) _ hz]
  rfl
 ·have ea:(c++e::a')[c.length]? =some e:=by simp
  have eb:(c++f::b')[c.length]? =some f:=by simp
  rw [same c.length (by simp) (by simp) (fun k hk=>by rw [nW hk,nW hk]) (.inl true) (gJ ?_)]
  ·rfl
  unfold jd zl oQ
  rw [af (by simp;omega),af (by simp;omega),ea,eb]
  simp only [ad]
  rw [ab]
  ·simp [h4,h5,h6,h7]
  ·intro hc
   simp only [Bool.and_true,aL,dH] at hc
   obtain ⟨e1,e2,e3,e4⟩:=e
   obtain ⟨f1,f2,f3,f4⟩:=f
   simp only at hc
   exact h3 (by rw [hc.1,hc.2.1,hc.2.2.1,hc.2.2.2])
theorem Ir{p:Program}(hX:tA (jv p ins fuel))(h:ub (jv p ins fuel) (q8 p) r vs):r.Events.length≤1048576:=by
 have hf:0≤fuel∧fuel≤2000:=hX.fuel
 obtain ⟨_,_,c3,c4⟩:=Oc h (v:=p.Vars.length) (t:=p.Ins.length) ⟨by simp [q8,init],by simp [q8,init],by simp [q8,init],hf.1⟩
 have c4':r.Steps≤fuel:=c4
 omega
theorem JG(p:Program)(who:Int)(ins others:List (List Int))(fuel:Int)(hp:∀ f∈p.Funcs,f.Params.length≤9223372036854775807):vJ p who ins others fuel=some true:=by
 unfold vJ
 have hb:vI=some true:=rfl
 have ae:xk=some true:=rfl
 rw [hb,ae]
 simp only [ad,aA]
 obtain ⟨a1,a2⟩:=Ks (ins:=ins) (fuel:=fuel) hp
 by_cases hx:q7 p ins fuel=0
 rotate_left
 ·rw [a1 hx]
  simp [hx]
 obtain ⟨r,vs,hr,_,T⟩:=a2 hx
 have hX:=M1 hx
 have hc:=Kr hx
 have hL:nJ p:=Ss hc
 have ho:FG p:=hX.ok
 have hm:=E2 hL.eU
 rw [hr,S3 p.an who (by omega)]
 simp only [ad,bne_self_eq_false,dq,cF]
 by_cases hw:dk p.an.Many who=true
 rotate_left
 ·rw [ab hw]
 rw [af hw]
 have C:0≤who∧who<p.an.Many:=by unfold dk at hw;simpa using hw
 have h1:who.toNat<MM p:=by unfold MM;omega
 have ap:ins.length=p.Ins.length:=hX.ins
 obtain ⟨mix,m1,m2,m3⟩:=UK hL C.1 h1 ho ins others ap
 rw [m1]
 simp only [ad]
 obtain ⟨b1,b2⟩:=Ks (ins:=mix) (fuel:=fuel) hp
 by_cases hy:q7 p mix fuel=0
 rotate_left
 ·rw [b1 hy]
  simp [hy]
 obtain ⟨s,us,hs,_,R⟩:=b2 hy
 have hY:=M1 hy
 have S:q9 p who=some 0:=by
  unfold q9
  simp [MI hp,hc,Mz,hw]
 rw [hs]
 simp only [ad,bne_self_eq_false,dq,cF]
 rw [KB hL C.1 h1 ho S _ (Ir hX T) (Na hX T),KB hL C.1 h1 ho S _ (Ir hY R) (Na hY R)]
 simp only [ad,wu,aA]
 have ax:=Ob (afT (p:=p) h1) m3 T R
 rw [UL (di (DE _ _) (Ir hX T)) (di (DE _ _) (Ir hY R)) ax]
 rfl
end Go.Proofs.YtlmphbbhaeampaaGreat.A
