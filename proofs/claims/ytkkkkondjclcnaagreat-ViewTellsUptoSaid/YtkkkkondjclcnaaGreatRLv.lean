/- The reference's levels. -/
import Derived.Test.YtkkkkondjclcnaaGreatPlace
import Derived.Test.YtkkkkondjclcnaaGreatInfP
import Derived.Test.YtkkkkondjclcnaaGreatPrgR
import Derived.Test.YtkkkkondjclcnaaGreatFQ
import Derived.Test.YtkkkkondjclcnaaGreatInfRE
set_option linter.all false
namespace Go.Proofs.YtkkkkondjclcnaaGreat.A
open Go
variable [Lp]
section
variable (a:aj)(hok:eP a=0)
include hok
theorem R0(i k:Int)(hi:bL a.Many i=true)(hk:bL a.Many k=true):pc a i k=some (dM a.Many.toNat a.Grants i.toNat k.toNat):=by
 obtain ⟨h1,h2,h3,h4⟩:=lB hok
 have hg:=Oj a hok
 obtain ⟨hi1,hi2⟩:0≤i∧i<a.Many:=by simpa [bL] using hi
 obtain ⟨hk1,hk2⟩:0≤k∧k<a.Many:=by simpa [bL] using hk
 have inner:∀ (n:Nat)(row:List Bool),row.length=a.Many.toNat→lp (fun v=>my a k n v.1 v.2) (row,0)=some (gd a.Grants row,a.Grants.length,false):=by
  intro n row hl
  have h:=kO (B:=fun v=>my a k n v.1 v.2) a.Grants.length (fun j=>(gd (a.Grants.take j) row,j)) (x:=(gd a.Grants row,a.Grants.length,false))
   (fun j hj=>by
    have hgg:=hg _ (cq hj)
    have hlen:(gd (a.Grants.take j) row).length=a.Many.toNat:=(JO _ _).trans hl
    have e:gd (a.Grants.take (j+1)) row=kY (gd (a.Grants.take j) row) a.Grants[j]:=by rw [wh hj,gd,List.foldl_append];rfl
    simp only [my,show (j:Int)<(a.Grants.length:Int) by omega,aq,aB hj,af,dx hgg.1.1,dx hgg.2.1,fJ (row:=gd (a.Grants.take j) row) (k:=a.Grants[j].Who.toNat) (by omega),
     fJ (row:=gd (a.Grants.take j) row) (k:=a.Grants[j].For.toNat) (by omega),eQ j (by omega),e,kY]
    cases on (gd (a.Grants.take j) row) a.Grants[j].Who.toNat<;>simp)
   (by simp [my])
  exact h
 have outer:=kO (B:=fun v=>mz a k v.1 v.2) a.Many.toNat (fun n=>(gh a.Grants n (wN a.Many.toNat i.toNat),n)) (x:=(e7 a.Many.toNat a.Grants i.toNat,a.Many.toNat,false))
  (fun n hn=>by
   have hin:=inner n (gh a.Grants n (wN a.Many.toNat i.toNat)) ((nB _ _ _).trans (by simp [wN]))
   simp only [mz,show (n:Int)<a.Many by omega,aq,hin,af,eQ n (by omega)]
   rfl)
  (by simp only [mz,show ¬((a.Many.toNat:Nat):Int)<a.Many by omega,aM,e7,qc])
 have outer':lp (fun v=>mz a k v.1 v.2) ((List.replicate a.Many.toNat false).set i.toNat true,0)=_:=outer
 have hz:(List.replicate a.Many.toNat false)[i.toNat]? =some false:=by rw [kA,ab (by omega)]
 have hr:=fJ (row:=e7 a.Many.toNat a.Grants i.toNat) (k:=k.toNat) (by rw [yh];omega)
 simp only [pc,dx (show 0≤a.Many by omega),af,show a.Many.toNat≤1000000000 by omega,aq,dx hi1,hz,outer',dx hk1,hr,dM]
theorem VY(ps:List bD)(hp:PL a.Many ps)(who:Nat)(hw:who<a.Many.toNat):A2 a (who:Int) ps=some (qL a.Many.toNat a.Grants ps who):=by
 obtain ⟨h1,h2,h3,h4⟩:=lB hok
 have hr:∀ n,bL a.Many n=true→pc a (who:Int) n=some (dM a.Many.toNat a.Grants who n.toNat):=fun n hn=>by
  have:=R0 a hok who n (z7.2 (by omega)) hn
  simpa using this
 have inner:∀ (i:Nat)(hi:i<ps.length)(b:Bool),lp (fun v=>tP a (who:Int) ps i v.1 v.2) (b,0)=some (b||ps[i].Names.any (fun n=>dM a.Many.toNat a.Grants who n.toNat),ps[i].Names.length,false):=by
  intro i hi b
  obtain ⟨_,hl,hn⟩:=hp.2 _ (cq hi)
  have h:=kO (B:=fun v=>tP a (who:Int) ps i v.1 v.2) ps[i].Names.length (fun k=>(b||(ps[i].Names.take k).any (fun n=>dM a.Many.toNat a.Grants who n.toNat),k)) (x:=(b||ps[i].Names.any (fun n=>dM a.Many.toNat a.Grants who n.toNat),ps[i].Names.length,false))
   (fun k hk=>by
    have hk':(k:Int)<(ps[i].Names.length:Int):=by omega
    simp only [tP,aB hi,aB hk,af,hk',aq,hr _ (hn _ (cq hk)),eQ k (by omega),wh hk,List.any_append,yN,List.any_nil]
    cases hq:(b||(ps[i].Names.take k).any (fun n=>dM a.Many.toNat a.Grants who n.toNat)) with
    | true=>
     rcases Bool.or_eq_true_iff.1 hq with h | h<;>simp [h]
    | false=>
     obtain ⟨h5,h6⟩:=Bool.or_eq_false_iff.1 hq
     simp [h5,h6])
   (by simp only [tP,aB hi,af,show ¬((ps[i].Names.length:Nat):Int)<(ps[i].Names.length:Int) by omega,aM,qc,CI])
  simpa using h
 have outer:=Aj (B:=fun v=>qR a (who:Int) ps v) ps (fun p=>!(dM a.Many.toNat a.Grants who p.Owner.toNat||p.Names.any fun n=>dM a.Many.toNat a.Grants who n.toNat)) id (x:=.inl ()) (y:=.inr (ps.length,false))
  (fun i hi hq=>by
   obtain ⟨ho,_,_⟩:=hp.2 _ (cq hi)
   have hq':(dM a.Many.toNat a.Grants who ps[i].Owner.toNat||ps[i].Names.any fun n=>dM a.Many.toNat a.Grants who n.toNat)=true:=by simpa only [Cv,yJ] using hq
   have:=hp.1
   simp only [qR,id,show (i:Int)<(ps.length:Int) by omega,aq,aB hi,af,hr _ ho,inner i hi,hq',eQ i (by omega)])
  (fun i hi hq=>by
   obtain ⟨ho,_,_⟩:=hp.2 _ (cq hi)
   have hq':(dM a.Many.toNat a.Grants who ps[i].Owner.toNat||ps[i].Names.any fun n=>dM a.Many.toNat a.Grants who n.toNat)=false:=by simpa only [Cv,ou] using hq
   simp only [qR,id,show (i:Int)<(ps.length:Int) by omega,aq,aB hi,af,hr _ ho,inner i hi,hq',bB,aM])
  (by simp [qR])
 have outer':lp (fun v=>qR a (who:Int) ps v) 0=_:=outer
 simp only [A2,outer',af]
 unfold qL
 rw [←Hm]
 cases ps.any (fun p=>!(dM a.Many.toNat a.Grants who p.Owner.toNat||p.Names.any fun n=>dM a.Many.toNat a.Grants who n.toNat))<;>simp
theorem zK(l:Label)(hf:dE a.Many l=0):jP a l=some (cY a l):=by
 obtain ⟨h1,h2,h3,h4⟩:=lB hok
 obtain ⟨hr,hw⟩:=BA hf
 have h:=kO (B:=fun v=>mA a l v.1 v.2.1 v.2.2) a.Many.toNat (fun k=>(k,(List.range k).map (qL a.Many.toNat a.Grants l.Read),(List.range k).map (qL a.Many.toNat a.Grants l.Write)))
  (x:=(a.Many.toNat,false,(List.range a.Many.toNat).map (qL a.Many.toNat a.Grants l.Read),(List.range a.Many.toNat).map (qL a.Many.toNat a.Grants l.Write)))
  (fun k hk=>by
   have r1:((List.range k).map (qL a.Many.toNat a.Grants l.Read)).length + [qL a.Many.toNat a.Grants l.Read k].length≤1000000000:=by simp;omega
   have r2:((List.range k).map (qL a.Many.toNat a.Grants l.Write)).length + [qL a.Many.toNat a.Grants l.Write k].length≤1000000000:=by simp;omega
   simp only [mA,show (k:Int)<a.Many by omega,aq,VY a hok _ (BD hr) k hk,VY a hok _ (BD hw) k hk,af,r1,r2,eQ k (by omega),oA,cI,bZ,kB])
  (by simp only [mA,show ¬((a.Many.toNat:Nat):Int)<a.Many by omega,aM,qc])
 have h':lp (fun v=>mA a l v.1 v.2.1 v.2.2) (0,([]:List Bool),([]:List Bool))=_:=h
 simp only [jP,h',af,cY]
theorem uj:fN a=some (iF a.Many.toNat):=by
 obtain ⟨h1,h2,h3,h4⟩:=lB hok
 unfold fN
 rw [ab (by omega)];rfl
end
section
variable {n:Nat}(hn:n≤1000000){l m:Level}(hl:bA n l)(hm:bA n m)
include hn hl hm
theorem J1:lD l m=some (o6 n l m):=by
 unfold lD
 rw [hl.1,ab ⟨hn,hl,hm⟩]
theorem qT:dm l m=some (cZ n l m):=by
 unfold dm
 rw [hl.1,ab ⟨hn,hl,hm⟩]
end
mutual
theorem MK:∀ e:az,pI e=((nv e).filter fun x=>decide (x.Kind=2)).map (·.N)
 | ⟨k,m,args⟩=>by
  rw [pI,Am]
  have ih:=J2 args
  by_cases h:k=2
  ·rw [ab h,List.filter_cons_of_pos (by simpa using h),bZ,ih]
  ·rw [ad h,List.filter_cons_of_neg (by simpa using h),ih]
theorem J2:∀ l:List az,o7 l=((eR l).filter fun x=>decide (x.Kind=2)).map (·.N)
 | []=>rfl
 | e::r=>by
  rw [o7,eR,zb,cI,MK e,J2 r]
end
theorem DN{p:Program}(h:pJ p){V F:List Level}(hV:eF p V F):∀ (L:List az)(v:Level),bA (MM p) v→(∀ x∈L,x.Kind=2→0≤x.N∧x.N.toNat<V.length)→
  yr V L v=some (Hv (MM p) V ((L.filter fun x=>decide (x.Kind=2)).map (·.N)) v)
 | [],v,hv,_=>rfl
 | x::r,v,hv,hx=>by
  rw [yr]
  by_cases hk:x.Kind=2
  ·obtain ⟨h0,h1⟩:=hx x (by simp) hk
   rw [ab hk,dx h0,af,aB h1,af,qT h.small hv (hV.vs _ (cq h1)),af,DN h hV r _ (et _ _ _) fun y hy=>hx y (by simp [hy]),List.filter_cons_of_pos (by simpa using hk),bZ]
   rw [Hv]
   congr 2
   rw [cb,aB h1];rfl
  ·rw [ad hk,DN h hV r v hv fun y hy=>hx y (by simp [hy]),List.filter_cons_of_neg (by simpa using hk)]
theorem TY{p:Program}{e:az}(h:er p e=0):sz e≤15:=by
 unfold er bO.er at h
 split at h
 ·exact absurd h (by decide)
 ·rename_i h1;omega
theorem R1{p:Program}(h:pJ p){V F:List Level}(hV:eF p V F){e:az}(he:er p e=0):sT p V e=some (km (MM p) V e):=by
 have hs:=TY he
 unfold sT
 rw [uj _ h.dM,af,OE hs,af,ab (by rw [Bk];omega),DN h hV _ _ (mS _) fun x hx hk=>?_,←MK]
 ·rfl
 ·have:=(Lz (Mi he x hx)).2.2.2.2 hk
  have:=hV.vl
  omega
theorem A7{p:Program}(h:pJ p){V F:List Level}(hV:eF p V F){e:az}(he:er p e=0){pl:Level}(hpl:bA (MM p) pl):atR p V pl e=some (cZ (MM p) pl (km (MM p) V e)):=by
 have h2:=(Mq h hV he).2
 unfold atR
 rw [R1 h hV he,af,qT h.small hpl h2]
variable [Lp]
def DO(x:Dv):bS:=⟨x.s,x.a,x.pl⟩
def B7(f:dL):fR:=⟨f.Level,if f.Func=true then -1 - f.To else f.To⟩
section
variable {p:Program}(h:pJ p)(ho:EV p){V F:List Level}(hV:eF p V F)
include h ho hV
mutual
theorem W4{i:Nat}(hi:i≤p.Funcs.length):∀ (st:Stmt)(pl:Level)(out:List bS),vf (bO p i) st=0→sA st≤50→out.length+sA st≤1000→bA (MM p) pl→
  MB p V st pl out=some (out++(B0 (MM p) V st out.length pl).map DO)∧(B0 (MM p) V st out.length pl).length=sA st
 | ⟨k,v,o,e,args,th,el⟩,pl,out,he,hc,ha,hpl=>by
  obtain ⟨e1,e2,e3⟩:=FJ he
  have hcnt:=AK ⟨k,v,o,e,args,th,el⟩
  have l1:=jB th
  have l2:=jB el
  simp only at hcnt e2 e3
  rw [OG,ab ⟨by omega,by simp only;omega,by simp only;omega⟩,Dw]
  by_cases h7:7≤k
  ·have hex:=(Ee e1).2.2.2.2.1 (by simp only [eD];exact av ⟨by omega,by omega⟩)
   simp only at hex
   have hsz:=et (MM p) pl (km (MM p) V e)
   rw [ab h7,ab h7,A7 h hV hex hpl,af]
   obtain ⟨a1,a2⟩:=A8 hi th (cZ (MM p) pl (km (MM p) V e)) (out++[⟨⟨k,v,o,e,args,th,el⟩,out.length,pl⟩]) e2 (by omega) (by simp;omega) hsz
   simp only [cH,bu,ig,eU] at a1 a2
   rw [a1,af]
   obtain ⟨b1,b2⟩:=A8 hi el (cZ (MM p) pl (km (MM p) V e)) ((out++[⟨⟨k,v,o,e,args,th,el⟩,out.length,pl⟩])++(mT (MM p) V th (out.length+1) (cZ (MM p) pl (km (MM p) V e))).map DO) e3 (by omega) (by simp [a2];omega) hsz
   simp only [cH,bu,ig,dC,eU,a2] at b1 b2
   rw [b1]
   refine ⟨?_,?_⟩
   ·simp [DO]
   ·simp [a2,b2,hcnt];omega
  ·rw [ad h7,ad h7]
   obtain ⟨z1,z2⟩:=WM e1 h7
   simp only at z1 z2
   subst z1 z2
   refine ⟨by simp [DO],by rw [hcnt];simp [br]⟩
theorem A8{i:Nat}(hi:i≤p.Funcs.length):∀ (l:List Stmt)(pl:Level)(out:List bS),dj (bO p i) l=0→br l≤50→out.length+br l≤1000→bA (MM p) pl→
  tn p V l pl out=some (out++(mT (MM p) V l out.length pl).map DO)∧(mT (MM p) V l out.length pl).length=br l
 | [],pl,out,he,hc,ha,hpl=>by rw [tn,mT,br];simp
 | x::r,pl,out,he,hc,ha,hpl=>by
  rw [br] at hc ha
  have he1:=BB he x (by simp)
  have he2:dj (bO p i) r=0:=by
   rw [dj,ad (by simp [he1])] at he;exact he
  obtain ⟨a1,a2⟩:=W4 hi x pl out he1 (by omega) (by omega) hpl
  obtain ⟨b1,b2⟩:=A8 hi r pl (out++(B0 (MM p) V x out.length pl).map DO) he2 (by omega) (by simp [a2];omega) hpl
  simp only [cH,dC,a2] at b1 b2
  rw [tn,mT,a1,af,b1,br]
  exact ⟨by simp,by simp [a2,b2]⟩
end
theorem E4:∀ (rest:List Func)(i:Nat)(out:List bS),p.Funcs.drop i=rest→iG rest+br p.Main≤50→out.length+iG rest+br p.Main≤1000→
  qS p V F rest i out=some (out++(wX (MM p) V F rest i out.length).map DO++(mT (MM p) V p.Main (out.length+iG rest) (iF (MM p))).map DO)
 | [],i,out,hd,hs,ha=>by
  have hl:=jB p.Main
  have:=(A8 h ho hV (aS _) p.Main (iF (MM p)) out ho.mains (by omega) (by omega) (mS _)).1
  rw [qS,uj _ h.dM,af,ab (by omega),this]
  simp [wX,iG]
 | f::rest,i,out,hd,hs,ha=>by
  obtain ⟨hg,hd2,hi,hfn⟩:=Ja h ho hd
  obtain ⟨_,_,f3,_⟩:=Hk hfn
  have hsum:iG (f::rest)=br f.Body+iG rest:=by simp [iG]
  rw [hsum] at hs ha
  have hl:=jB f.Body
  have hiF:i<F.length:=by rw [hV.fl];exact hi
  have hq:=aB hiF
  have hdd:F.getD i (iF (MM p))=F[i]:=by rw [cb,hq];rfl
  have hz:=RH h ho hV i
  rw [hdd] at hz
  obtain ⟨a1,a2⟩:=A8 h ho hV (by omega) f.Body F[i] out f3 (by omega) (by omega) hz
  have b1:=E4 rest (i+1) (out++(mT (MM p) V f.Body out.length F[i]).map DO) hd2 (by omega) (by simp [a2];omega)
  simp only [cH,dC,a2] at b1
  rw [qS,uj _ h.dM,af,hq,af,ab (by omega),a1,af,b1,wX,hdd,hsum]
  simp [qa]
theorem P3:oc p ⟨V,F⟩=some ((sF (MM p) V p F).map DO):=by
 have hsum:=ho.sum
 have hf:=ho.funcs
 have hm:=ho.main
 have b:=E4 h ho hV p.Funcs 0 [] rfl (show iG p.Funcs+_≤50 by unfold iG;omega) (show 0+iG p.Funcs+_≤1000 by unfold iG;omega)
 unfold oc sF
 rw [ab (by omega),b]
 simp
theorem HN{pl:Level}(hpl:bA (MM p) pl){ps:List Int} : ∀ (es:List az)(i:Nat)(o:List dL),(∀ e∈es,er p e=0)→
  vk p V pl ps es i (o.map B7)=(o8 p V pl ps es i o).map fun l=>l.map B7
 | [],i,o,_=>rfl
 | e::es,i,o,he=>by
  rw [vk,o8,of_eq h hV (he e (by simp)) hpl,A7 h hV (he e (by simp)) hpl,af,af]
  cases ps[i]? with
  | none=>rfl
  | some n=>
   rw [af,af,←HN hpl es (i+1) _ fun x hx=>he x (by simp [hx])]
   simp [B7]
theorem R2{i:Nat}(hi:i≤p.Funcs.length){pl:Level}(hpl:bA (MM p) pl){s:Stmt}(hs:bO p i s=0):ME p V s pl=(rC p V s pl).map fun l=>l.map B7:=by
 obtain ⟨g1,g2,g3,g4,g5,g6⟩:=Ee hs
 have hA:=(BH h ho hi hV hV (Mo _ _) hpl hpl (le_refl _ _) hs).1
 unfold ME rC
 by_cases h1:s.Kind=1
 ·have he:=g5 (by simp [eD,h1])
  rw [ab h1,ab h1,of_eq h hV he hpl,A7 h hV he hpl]
  simp [B7]
 rw [ad h1,ad h1]
 by_cases h2:s.Kind=2
 ·rw [ab h2,ab h2]
  obtain ⟨o1,o2⟩:=g3 (by simp [fT,h2])
  have o3:s.Other<i:=by simpa [gP,h2] using o2
  have o4:s.Other.toNat<p.Funcs.length:=by omega
  have hfn:=ho.fns _ o4
  have hf:=ho.funcs
  obtain ⟨f1,f2,_,f4⟩:=Hk hfn
  have b:=HN h ho hV hpl (ps:=(p.Funcs[s.Other.toNat]).Params) s.Args 0 [] g6
  rw [kB] at b
  rw [dx o1,af,af,aB o4,af,af,ab ⟨by omega,by omega⟩,b,of_eq h hV f4 hpl,A7 h hV f4 hpl]
  cases o8 p V pl (p.Funcs[s.Other.toNat]).Params s.Args 0 [] with
  | none=>rfl
  | some out=>simp [B7]
 rw [ad h2,ad h2]
 by_cases h3:s.Kind=3
 ·rw [ab h3,ab h3]
  obtain ⟨o1,o2⟩:=g3 (by simp [fT,h3])
  have o3:s.Other<p.Ins.length:=by simpa [gP,h3] using o2
  have o4:s.Other.toNat<p.Ins.length:=by omega
  have hlab:=h.ins _ (cq o4)
  have hsz:=sD p.aj (p.Ins[s.Other.toNat])
  rw [dx o1,af,af,aB o4,af,af,Mk p.aj h.dM _ hlab,zK p.aj h.dM _ hlab,af,af,uf h.small hpl hsz,qT h.small hpl hsz]
  simp [B7]
 rw [ad h3,ad h3]
 by_cases h5:s.Kind=5
 ·have he:=g5 (by simp [eD,h5])
  rw [ab h5,ab h5,of_eq h hV he hpl,A7 h hV he hpl]
  simp [B7]
 rw [ad h5,ad h5]
 by_cases h6:s.Kind=6
 ·have he:=g5 (by simp [eD,h6])
  rw [ab h6,ab h6,of_eq h hV he hpl,A7 h hV he hpl]
  simp [B7]
 rw [ad h6,ad h6]
 rfl
end
variable [Lp]
inductive P2(n:Nat):List Dv→List Dv→Prop where
 | nil:P2 n [] []
 | cons {x y:Dv} {r q:List Dv} (hs:x.s=y.s) (hp:iy n x.pl y.pl) (t:P2 n r q):P2 n (x::r) (y::q)
theorem P2.append{n:Nat}{a b c d:List Dv}(h:P2 n a b)(h':P2 n c d):P2 n (a++c) (b++d):=by
 induction h with
 | nil=>exact h'
 | cons h hp _ ih=>exact .cons h hp ih
section
variable {n:Nat}{V W:List Level}(hVW:ug n V W)
include hVW
mutual
theorem TZ:∀ (st:Stmt)(a b:Nat)(pl ql:Level),iy n pl ql→P2 n (B0 n V st a pl) (B0 n W st b ql)
 | ⟨k,v,o,e,args,th,el⟩,a,b,pl,ql,h=>by
  rw [Dw,Dw]
  have hq:=join_mono h (td hVW e)
  by_cases h7:7≤k
  ·rw [ab h7,ab h7]
   exact .cons rfl h ((yx th _ _ _ _ hq).append (yx el _ _ _ _ hq))
  ·rw [ad h7,ad h7]
   exact .cons rfl h .nil
theorem yx:∀ (l:List Stmt)(a b:Nat)(pl ql:Level),iy n pl ql→P2 n (mT n V l a pl) (mT n W l b ql)
 | [],a,b,pl,ql,h=>by rw [mT,mT];exact .nil
 | x::r,a,b,pl,ql,h=>by rw [mT,mT];exact (TZ x a b pl ql h).append (yx r _ _ pl ql h)
end
theorem ML{F E:List Level}(hFE:ug n F E):∀ (l:List Func)(i a b:Nat),P2 n (wX n V F l i a) (wX n W E l i b)
 | [],i,a,b=>.nil
 | f::r,i,a,b=>(yx hVW f.Body _ _ _ _ (JX hFE i)).append (ML hFE r _ _ _)
theorem NL{F E:List Level}(hFE:ug n F E)(p:Program):P2 n (sF n V p F) (sF n W p E):=(ML hVW hFE _ _ _ _).append (yx hVW _ _ _ _ _ (le_refl _ _))
end
section
variable {p:Program}(h:pJ p)(ho:EV p)
include h ho
theorem P4{s:bW}(hs:eF p s.V s.F){f:dL}(hf:wo p f):A3 p s (B7 f)=qM p s f∧∀ t,qM p s f=some t→eF p t.V t.F:=by
 obtain ⟨h1,h2,h3⟩:=hf
 unfold A3 qM B7
 cases hfn:f.Func with
 | true=>
  rw [hfn,ab rfl] at h3
  have hi:f.To.toNat<s.F.length:=by rw [hs.fl];exact h3
  have ht:=aB hi
  have hts:=Du hs.fs ht
  simp only [aq]
  rw [ad (by omega),show -1 - (-1 - f.To)=f.To by omega,dx h2,af,af,ht,af,af,Ef h.small h1 hts,J1 h.small h1 hts,uf h.small hts h1,qT h.small hts h1]
  refine ⟨rfl,fun t ht2=>?_⟩
  simp only [af] at ht2
  split at ht2
  ·obtain rfl:=aa ht2;exact hs
  ·obtain rfl:=aa ht2
   exact ⟨hs.vl,by simp [hs.fl],hs.vs,fun l hl=>(BJ hl).elim (hs.fs l) fun e=>by rw [e];exact et _ _ _⟩
 | false=>
  rw [hfn,ad (by simp)] at h3
  have hi:f.To.toNat<s.V.length:=by rw [hs.vl];exact h3
  have ht:=aB hi
  have hts:=Du hs.vs ht
  simp only [bB,aM]
  rw [ab h2,dx h2,af,af,aB h3,af,af,ht,af,af,Ef h.small h1 hts,J1 h.small h1 hts,uf h.small hts h1,qT h.small hts h1]
  refine ⟨rfl,fun t ht2=>?_⟩
  simp only [af] at ht2
  split at ht2
  ·obtain rfl:=aa ht2;exact hs
  ·split at ht2
   ·obtain rfl:=aa ht2;exact hs
   ·obtain rfl:=aa ht2
    exact ⟨by simp [hs.vl],hs.fl,fun l hl=>(BJ hl).elim (hs.vs l) fun e=>by rw [e];exact et _ _ _,hs.fs⟩
theorem J3:∀ (fs:List dL)(s:bW),eF p s.V s.F→(∀ f∈fs,wo p f)→A4 p (fs.map B7) s=vg p fs s
 | [],s,hs,hf=>rfl
 | f::fs,s,hs,hf=>by
  obtain ⟨a1,a2⟩:=P4 h ho hs (hf f (by simp))
  rw [bZ,A4,vg,a1]
  cases hq:qM p s f with
  | none=>rfl
  | some t=>exact J3 fs t (a2 t hq) fun g hg=>hf g (by simp [hg])
variable {W E:List Level}(hW:eF p W E)
include hW
theorem MN:∀ {L M:List Dv}{s:bW},P2 (MM p) L M→pL p W E s→(∀ x∈L,(∃ i:Nat,i≤p.Funcs.length∧bO p i x.s=0)∧bA (MM p) x.pl)→(∀ x∈M,bA (MM p) x.pl∧asks p W E x.s x.pl)→
  ∃ t,Ep p (L.map DO) s=some t∧pL p W E t∧Grow p s t∧(t.ch=false→t=s∧∀ x∈L,asks p s.V s.F x.s x.pl)
 | _,_,s,.nil,hb,_,_=>⟨s,rfl,hb,.refl p s,fun _=>⟨rfl,fun _ h=>absurd h (by simp)⟩⟩
 | _,_,s,.cons (x:=x) (y:=y) (r:=r) (q:=q) hxy hp ht,hb,hL,hM=>by
  obtain ⟨⟨i,hi,hs⟩,hpl⟩:=hL x (by simp)
  obtain ⟨hql,hT⟩:=hM y (by simp)
  rw [←hxy] at hT
  obtain ⟨t,t1,t2,t3,t4⟩:=Ms h ho hW hi (a:=0) hs hb hpl hql hp hT
  obtain ⟨u,u1,u2,u3,u4⟩:=MN ht t2 (fun z hz=>hL z (by simp [hz])) fun z hz=>hM z (by simp [hz])
  obtain ⟨_,fs,gs,a1,_,_,a4,a5⟩:=BH h ho hi hb.ok hb.ok (Mo _ _) hpl hpl (le_refl _ _) hs
  have hA:=R2 h ho hb.ok hi hpl hs
  unfold rE at t1
  rw [a1,af,ab (by omega)] at t1
  rw [a1,gv] at hA
  refine ⟨u,?_,u2,t3.trans u3,fun hc=>?_⟩
  ·rw [bZ,Ep]
   show (ME p s.V x.s x.pl).bind _=_
   rw [hA,af,ab (by simp;omega),J3 h ho fs s hb.ok a4,t1,af,u1]
  ·obtain ⟨rfl,b⟩:=u4 hc
   obtain ⟨rfl,c⟩:=t4 hc
   refine ⟨rfl,fun z hz=>?_⟩
   rcases cR.1 hz with rfl | hz
   ·exact c
   ·exact b z hz
theorem DP(h:pJ p):∀ (l:List Var)(o:List Level),(∀ v∈l,v∈p.Vars)→A5 p l o=some (o++l.map fun v=>if v.Known=true then cY p.aj v.Label else iF (MM p))
 | [],o,_=>by simp [A5]
 | v::r,o,hv=>by
  have hlab:=h.vars v (hv v (by simp))
  rw [A5,uj _ h.dM,zK p.aj h.dM _ hlab]
  cases hk:v.Known with
  | true=>
   rw [ab rfl,af,DP h r _ fun w hw=>hv w (by simp [hw])]
   simp [hk]
  | false=>
   rw [ad (by simp),af,DP h r _ fun w hw=>hv w (by simp [hw])]
   simp [hk]
theorem J4(h:pJ p):∀ (l:List Func)(o:List Level),yw p l o=some (o++l.map fun _=>iF (MM p))
 | [],o=>by simp [yw]
 | v::r,o=>by
  rw [yw,uj _ h.dM,af,J4 h r]
  simp
theorem W5(hK:∀ (i:Nat)(v:Var)(b:Level),p.Vars[i]? =some v→v.Known=true→W[i]? =some b→iy (MM p) (cY p.aj v.Label) b)(hT:vi (MM p) W (asks p W E) p E) :
  ∃ m,nD p=some m∧eF p m.Vars m.Funcs∧vi (MM p) m.Vars (asks p m.Vars m.Funcs) p m.Funcs∧ug (MM p) m.Vars W∧ug (MM p) m.Funcs E∧∀ (i:Nat)(v:Var),p.Vars[i]? =some v→v.Known=true→m.Vars[i]? =some (cY p.aj v.Label):=by
 have hv16:=ho.vars
 have hf5:=ho.funcs
 have b0:pL p W E ⟨nM p,sP p,true⟩:=by
  refine ⟨VX h ho,⟨by rw [hW.vl];simp [nM],fun i a b ha hb=>?_⟩,⟨by rw [hW.fl];simp [sP],fun i a b ha hb=>?_⟩⟩
  ·rw [nM,gw] at ha
   obtain ⟨v,hv,rfl⟩:=c9.1 ha
   split
   ·rename_i hk;exact hK i v b hv hk hb
   ·exact bot_le _ _
  ·rw [sP,gw] at ha
   obtain ⟨v,hv,rfl⟩:=c9.1 ha
   exact bot_le _ _
 have k0:∀ (i:Nat)(v:Var),p.Vars[i]? =some v→v.Known=true→(nM p)[i]? =some (cY p.aj v.Label):=fun i v hv hk=>by
  rw [nM,gw,hv];simp [hk]
 have hWok:=JY h ho hW
 have hWT:=(OA hW.fl).1 hT
 obtain ⟨s,hs,hQ⟩:=ke (B:=yv p) (fun s=>2*(2*MM p*(p.Vars.length+p.Funcs.length) - mu p s)+(if s.ch=true then 1 else 0))
  (fun s=>pL p W E s∧(∀ (i:Nat)(v:Var),p.Vars[i]? =some v→v.Known=true→s.V[i]? =some (cY p.aj v.Label))∧(s.ch=false→vi (MM p) s.V (asks p s.V s.F) p s.F))
  (fun s=>pL p W E s∧(∀ (i:Nat)(v:Var),p.Vars[i]? =some v→v.Known=true→s.V[i]? =some (cY p.aj v.Label))∧vi (MM p) s.V (asks p s.V s.F) p s.F) (by
   rintro s ⟨hb,hkn,hal⟩
   unfold yv
   cases hc:s.ch with
   | false=>
    rw [ad (by simp)]
    exact .inl ⟨s,rfl,hb,hkn,hal hc⟩
   | true=>
    rw [ab rfl]
    have hb2:pL p W E ⟨s.V,s.F,false⟩:=⟨hb.ok,hb.v,hb.f⟩
    have hlen:=PR h ho hb.ok
    obtain ⟨t,t1,t2,t3,t4⟩:=MN h ho hW (NL hb.v hb.f p) hb2 (JY h ho hb.ok) fun x hx=>⟨(hWok x hx).2,hWT x hx⟩
    rw [P3 h ho hb.ok,af,ab (by simp;omega)]
    refine .inr ⟨t,by rw [t1];rfl,⟨t2,fun i v hv hk=>(t3.kn i v hv hk).trans (hkn i v hv hk),fun hc2=>?_⟩,?_⟩
    ·obtain ⟨rfl,c⟩:=t4 hc2
     exact (OA hb.ok.fl).2 c
    ·have m1:mu p ⟨s.V,s.F,false⟩=mu p s:=rfl
     have m2:=t3.mu
     have m3:mu p t≤2*MM p*(p.Vars.length+p.Funcs.length):=by
      have q1:=Dt (MM p) t.V
      have q2:=Dt (MM p) t.F
      rw [t2.ok.vl] at q1
      rw [t2.ok.fl] at q2
      unfold mu
      rw [Nat.mul_add];omega
     cases hc2:t.ch with
     | false=>simp only [bB,aM,aq];omega
     | true=>
      have:=t3.ch hc2
      simp only [aq]
      rcases this with h1 | h1
      ·cases h1
      ·omega) ⟨nM p,sP p,true⟩ ⟨b0,k0,fun hc=>by cases hc⟩
 refine ⟨⟨s.V,s.F⟩,?_,hQ.1.ok,hQ.2.2,hQ.1.v,hQ.1.f,hQ.2.1⟩
 unfold nD
 have e1:=DP h ho hW h p.Vars [] fun v hv=>hv
 have e2:=J4 h ho hW h p.Funcs []
 rw [ea] at e1 e2
 rw [ab (by omega),e1,af,e2,af]
 show (lp (yv p) ⟨nM p,sP p,true⟩).bind _=_
 rw [hs];rfl
end
theorem MO{n:Nat}{x y:List Bool}(hx:x.length=n)(hy:y.length=n)(h:∀ k,k<n→on x k=on y k):x=y:=by
 apply CH (by rw [hx,hy])
 intro k h1 h2
 have:=h k (by omega)
 unfold on at this
 rw [cb,cb,aB h1,aB h2] at this
 exact this
theorem W6{n:Nat}{a b:Level}(ha:bA n a)(hb:bA n b)(h:iy n a b)(h':iy n b a):a=b:=by
 have h:=le_iff.1 h
 have h':=le_iff.1 h'
 have e1:a.Readers=b.Readers:=MO ha.1 hb.1 fun k hk=>oe.2 ⟨(h' k hk).1,(h k hk).1⟩
 have e2:a.Writers=b.Writers:=MO ha.2 hb.2 fun k hk=>oe.2 ⟨(h k hk).2,(h' k hk).2⟩
 cases a;cases b
 simp only at e1 e2
 rw [e1,e2]
theorem MP{n:Nat}{V W:List Level}(hV:∀ l∈V,bA n l)(hW:∀ l∈W,bA n l)(h:ug n V W)(h':ug n W V):V=W:=by
 apply CH h.1
 intro k h1 h2
 have q1:=aB h1
 have q2:=aB h2
 exact W6 (hV _ (cq h1)) (hW _ (cq h2)) (h.2 k _ _ q1 q2) (h'.2 k _ _ q2 q1)
theorem R3{p:Program}(h:pJ p)(ho:EV p):∃ m,lC p=some m∧nD p=some m∧eF p m.Vars m.Funcs:=by
 obtain ⟨m,m1,m2,m3,m4⟩:=WO h ho
 have kn:∀ {m:gm},(∀ (i:Nat)(v:Var),p.Vars[i]? =some v→v.Known=true→m.Vars[i]? =some (cY p.aj v.Label))→∀ (i:Nat)(v:Var)(b:Level),p.Vars[i]? =some v→v.Known=true→m.Vars[i]? =some b→iy (MM p) (cY p.aj v.Label) b:=fun hm i v b hv hk hb=>by
  rw [hm i v hv hk] at hb;cases hb;exact le_refl _ _
 obtain ⟨r,r1,r2,r3,r4,r5,r6⟩:=W5 h ho m2 (kn m4) m3
 obtain ⟨q,q1,q2,q3,q4,q5,q6⟩:=RG h ho r2 (kn r6) r3
 rw [m1] at q1
 obtain rfl:=aa q1
 have e1:=MP m2.vs r2.vs q4 r4
 have e2:=MP m2.fs r2.fs q5 r5
 refine ⟨m,m1,?_,m2⟩
 rw [r1]
 cases m;cases r
 simp only at e1 e2
 rw [e1,e2]
end Go.Proofs.YtkkkkondjclcnaaGreat.A
