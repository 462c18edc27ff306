/- The reference's levels. -/
import Derived.Test.YtkkkkondjclcnaaGreatPlace
import Derived.Test.YtkkkkondjclcnaaGreatInfP
import Derived.Test.YtkkkkondjclcnaaGreatPrgR
import Derived.Test.YtkkkkondjclcnaaGreatFQ
import Derived.Test.YtkkkkondjclcnaaGreatInfRE
set_option linter.all false
namespace Go.Proofs.YtkkkkondjclcnaaGreat.A
open Go
variable [Lp]
section
variable (a:ak)(K:iG a=0)
include K
theorem yW(i k:Int)(hi:cw a.Many i=true)(hk:cw a.Many k=true):mD a i k=some (dT a.Many.toNat a.Grants i.toNat k.toNat):=by
 obtain ⟨h1,h2,h3,h4⟩:=my K
 have hg:=RJ a K
 obtain ⟨ai,ar⟩:0≤i∧i<a.Many:=by simpa [cw] using hi
 obtain ⟨ae,aq⟩:0≤k∧k<a.Many:=by simpa [cw] using hk
 have inner:∀ (n:Nat)(row:List Bool),row.length=a.Many.toNat→lp (fun v=>nQ a v.1 v.2) (row,0)=some (jB a.Grants row,a.Grants.length,false):=by
  intro n row hl
  have h:=uq (B:=fun v=>nQ a v.1 v.2) a.Grants.length (fun j=>(jB (a.Grants.take j) row,j)) (x:=(jB a.Grants row,a.Grants.length,false))
   (fun j hj=>by
    have T:=hg _ (bN hj)
    have hlen:(jB (a.Grants.take j) row).length=a.Many.toNat:=(MH _ _).trans hl
    have e:jB (a.Grants.take (j+1)) row=lT (jB (a.Grants.take j) row) a.Grants[j]:=by grind [pP,jB]
    simp only [nQ,show (j:Int)<(a.Grants.length:Int) by omega,az,aP hj,ad,cX T.1.1,cX T.2.1,ic (row:=jB (a.Grants.take j) row) (k:=a.Grants[j].Who.toNat) (by omega),
     ic (row:=jB (a.Grants.take j) row) (k:=a.Grants[j].For.toNat) (by omega),gJ j (by omega),e,lT]
    grind)
   (by simp [nQ])
  exact h
 have outer:=uq (B:=fun v=>nR a v.1 v.2) a.Many.toNat (fun n=>(iX a.Grants n (A3 a.Many.toNat i.toNat),n)) (x:=(iL a.Many.toNat a.Grants i.toNat,a.Many.toNat,false))
  (fun n hn=>by
   have ag:=inner n (iX a.Grants n (A3 a.Many.toNat i.toNat)) ((by grind [oG,A3]))
   simp only [nR,show (n:Int)<a.Many by omega,az,ag,ad,gJ n (by omega)]
   rfl)
  (by grind [nR,iL])
 have outer':lp (fun v=>nR a v.1 v.2) ((List.replicate a.Many.toNat false).set i.toNat true,0)=_:=outer
 have hz:(List.replicate a.Many.toNat false)[i.toNat]? =some false:=by grind
 have hr:=ic (row:=iL a.Many.toNat a.Grants i.toNat) (k:=k.toNat) (by rw [A4];omega)
 simp only [mD,cX (show 0≤a.Many by omega),ad,show a.Many.toNat≤1000000000 by omega,az,cX ai,hz,outer',cX ae,hr,dT]
theorem akD(ps:List bz)(hp:Tf a.Many ps)(who:Nat)(hw:who<a.Many.toNat):DN a (who:Int) ps=some (xD a.Many.toNat a.Grants ps who):=by
 obtain ⟨h1,h2,h3,h4⟩:=my K
 have hr:∀ n,cw a.Many n=true→mD a (who:Int) n=some (dT a.Many.toNat a.Grants who n.toNat):=by grind [yW,qX]
 have inner:∀ (i:Nat)(hi:i<ps.length)(b:Bool),lp (fun v=>vP a (who:Int) ps i v.1 v.2) (b,0)=some (b||ps[i].Names.any (fun n=>dT a.Many.toNat a.Grants who n.toNat),ps[i].Names.length,false):=by
  intro i hi b
  obtain ⟨_,hl,hn⟩:=hp.2 _ (bN hi)
  have h:=uq (B:=fun v=>vP a (who:Int) ps i v.1 v.2) ps[i].Names.length (fun k=>(b||(ps[i].Names.take k).any (fun n=>dT a.Many.toNat a.Grants who n.toNat),k)) (x:=(b||ps[i].Names.any (fun n=>dT a.Many.toNat a.Grants who n.toNat),ps[i].Names.length,false))
   (fun k hk=>by
    have af:(k:Int)<(ps[i].Names.length:Int):=by omega
    simp only [vP,aP hi,aP hk,ad,af,az,hr _ (hn _ (bN hk)),gJ k (by omega),pP hk,List.any_append,List.any_cons,List.any_nil]
    grind)
   (by grind [vP])
  simpa using h
 have outer:=sg (B:=fun v=>vQ a (who:Int) ps v) ps (fun p=>!(dT a.Many.toNat a.Grants who p.Owner.toNat||p.Names.any fun n=>dT a.Many.toNat a.Grants who n.toNat)) id (x:=.inl ()) (y:=.inr (ps.length,false))
  (fun i hi hq=>by
   obtain ⟨ho,_,_⟩:=hp.2 _ (bN hi)
   have ap:(dT a.Many.toNat a.Grants who ps[i].Owner.toNat||ps[i].Names.any fun n=>dT a.Many.toNat a.Grants who n.toNat)=true:=by grind
   have:=hp.1
   grind [vQ,gJ])
  (fun i hi hq=>by
   obtain ⟨ho,_,_⟩:=hp.2 _ (bN hi)
   grind [vQ])
  (by simp [vQ])
 grind [DN,xD,J6]
theorem Cj(l:Label)(hf:fK a.Many l=0):lh a l=some (fg a l):=by
 obtain ⟨h1,h2,h3,h4⟩:=my K
 obtain ⟨hr,hw⟩:=qw hf
 have h:=uq (B:=fun v=>qP a l v.1 v.2.1 v.2.2) a.Many.toNat (fun k=>(k,(List.range k).map (xD a.Many.toNat a.Grants l.Read),(List.range k).map (xD a.Many.toNat a.Grants l.Write)))
  (x:=(a.Many.toNat,false,(List.range a.Many.toNat).map (xD a.Many.toNat a.Grants l.Read),(List.range a.Many.toNat).map (xD a.Many.toNat a.Grants l.Write)))
  ((by grind [qP,akD,Pk,gJ,List.range_succ]))
  (by grind [qP])
 grind [lh,fg]
theorem tO:fR a=some (fA a.Many.toNat):=by
 obtain ⟨h1,h2,h3,h4⟩:=my K
 unfold fR
 rw [ab (by omega)];rfl
end
section
variable {n:Nat}(hn:n≤1000000){l m:Level}(hl:bw n l)(hm:bw n m)
include hn hl hm
theorem vR:fu l m=some (jY n l m):=by
 unfold fu
 rw [hl.1,ab ⟨hn,hl,hm⟩]
theorem pG:dN l m=some (cU n l m):=by
 unfold dN
 rw [hl.1,ab ⟨hn,hl,hm⟩]
end
mutual
theorem I0:∀ e:aB,mj e=((gy e).filter fun x=>decide (x.Kind=2)).map (·.N)
 | ⟨k,m,args⟩=>by
  rw [mj,CU]
  have ih:=MW args
  grind
theorem MW:∀ l:List aB,qN l=((fV l).filter fun x=>decide (x.Kind=2)).map (·.N)
 | []=>rfl
 | e::r=>by
  rw [qN,fV,List.filter_append,ei,I0 e,MW r]
end
theorem GD{p:Program}(h:nA p){V F:List Level}(hV:eS p V F):∀ (L:List aB)(v:Level),bw (MM p) v→(∀ x∈L,x.Kind=2→0≤x.N∧x.N.toNat<V.length)→
  Bg V L v=some (Kg (MM p) V ((L.filter fun x=>decide (x.Kind=2)).map (·.N)) v)
 | [],v,hv,_=>rfl
 | x::r,v,hv,hx=>by
  rw [Bg]
  by_cases hk:x.Kind=2
  ·obtain ⟨h0,h1⟩:=hx x (by simp) hk
   rw [ab hk,cX h0,ad,aP h1,ad,pG h.small hv (hV.vs _ (bN h1)),ad,GD h hV r _ (dX _ _ _) fun y hy=>hx y (by simp [hy]),List.filter_cons_of_pos (by simpa using hk),fj]
   grind [Kg]
  ·rw [aa hk,GD h hV r v hv fun y hy=>hx y (by simp [hy]),List.filter_cons_of_neg (by simpa using hk)]
variable {e:aB}
theorem I1{p:Program}(h:fL p e=0):sz e≤15:=by
 grind [bW.fL]
theorem MX{p:Program}(h:nA p){V F:List Level}(hV:eS p V F)(he:fL p e=0):nS p V e=some (iH (MM p) V e):=by
 have hs:=I1 he
 unfold nS
 rw [tO _ h.dT,ad,Hl hs,ad,ab (by rw [AI];omega),GD h hV _ _ (mz _) fun x hx hk=>?_,←I0]
 ·rfl
 ·have:=(xd (xA he x hx)).2.2.2.2 hk
  have:=hV.vl
  omega
variable {pl:Level}
theorem GF{p:Program}(h:nA p){V F:List Level}(hV:eS p V F)(he:fL p e=0)(C:bw (MM p) pl):atR p V pl e=some (cU (MM p) pl (iH (MM p) V e)):=by
 have h2:=(xG h hV he).2
 unfold atR
 rw [MX h hV he,ad,pG h.small C h2]
variable [Lp]
def mF(x:A6):bq:=⟨x.s,x.a,x.pl⟩
def vS(f:dq):eF:=⟨f.Level,if f.Func=true then -1 - f.To else f.To⟩
section
variable {p:Program}(h:nA p)(ho:Dt p){V F:List Level}(hV:eS p V F)
include h ho hV
mutual
theorem ZV{i:Nat}(hi:i≤p.Funcs.length):∀ (st:Stmt)(pl:Level)(out:List bq),xz (bW p i) st=0→qM st≤50→out.length+qM st≤1000→bw (MM p) pl→
  PI p V st pl out=some (out++(Ca (MM p) V st out.length pl).map mF)∧(Ca (MM p) V st out.length pl).length=qM st
 | ⟨k,v,o,e,args,th,el⟩,pl,out,he,hc,ha,C=>by
  obtain ⟨e1,e2,e3⟩:=Em he
  have J:=A0 ⟨k,v,o,e,args,th,el⟩
  have l1:=ib th
  have l2:=ib el
  simp only at J e2 e3
  rw [R5,ab ⟨by omega,by simp only;omega,by simp only;omega⟩,DD]
  by_cases h7:7≤k
  ·have hex:=(vK e1).2.2.2.2.1 (by grind [eP])
   simp only at hex
   have P:=dX (MM p) pl (iH (MM p) V e)
   rw [ab h7,ab h7,GF h hV hex C,ad]
   obtain ⟨a1,a2⟩:=DS hi th (cU (MM p) pl (iH (MM p) V e)) (out++[⟨⟨k,v,o,e,args,th,el⟩,out.length,pl⟩]) e2 (by omega) (by simp;omega) P
   simp only [eK,cC,jk,gh] at a1 a2
   rw [a1,ad]
   obtain ⟨b1,b2⟩:=DS hi el (cU (MM p) pl (iH (MM p) V e)) ((out++[⟨⟨k,v,o,e,args,th,el⟩,out.length,pl⟩])++(lJ (MM p) V th (out.length+1) (cU (MM p) pl (iH (MM p) V e))).map mF) e3 (by omega) (by simp [a2];omega) P
   simp only [eK,cC,jk,eY,gh,a2] at b1 b2
   rw [b1]
   refine ⟨?_,?_⟩
   ·simp [mF]
   ·simp [a2,b2,J];omega
  ·rw [aa h7,aa h7]
   obtain ⟨z1,z2⟩:=R0 e1 h7
   simp only at z1 z2
   subst z1 z2
   refine ⟨by simp [mF],by rw [J];simp [bn]⟩
theorem DS{i:Nat}(hi:i≤p.Funcs.length):∀ (l:List Stmt)(pl:Level)(out:List bq),eg (bW p i) l=0→bn l≤50→out.length+bn l≤1000→bw (MM p) pl→
  vn p V l pl out=some (out++(lJ (MM p) V l out.length pl).map mF)∧(lJ (MM p) V l out.length pl).length=bn l
 | [],pl,out,he,hc,ha,C=>by rw [vn,lJ,bn];simp
 | x::r,pl,out,he,hc,ha,C=>by
  rw [bn] at hc ha
  have al:=A2 he x (by simp)
  have aj:eg (bW p i) r=0:=by
   grind [eg]
  obtain ⟨a1,a2⟩:=ZV hi x pl out al (by omega) (by omega) C
  obtain ⟨b1,b2⟩:=DS hi r pl (out++(Ca (MM p) V x out.length pl).map mF) aj (by omega) (by simp [a2];omega) C
  grind [vn,lJ,bn]
end
theorem Ic:∀ (rest:List Func)(i:Nat)(out:List bq),p.Funcs.drop i=rest→jG rest+bn p.Main≤50→out.length+jG rest+bn p.Main≤1000→
  sO p V F rest i out=some (out++(wC (MM p) V F rest i out.length).map mF++(lJ (MM p) V p.Main (out.length+jG rest) (fA (MM p))).map mF)
 | [],i,out,hd,hs,ha=>by
  have hl:=ib p.Main
  have:=(DS h ho hV (aV _) p.Main (fA (MM p)) out ho.mains (by omega) (by omega) (mz _)).1
  rw [sO,tO _ h.dT,ad,ab (by omega),this]
  simp [wC,jG]
 | f::rest,i,out,hd,hs,ha=>by
  obtain ⟨hg,am,hi,O⟩:=Hk h ho hd
  obtain ⟨_,_,f3,_⟩:=G9 O
  have I:jG (f::rest)=bn f.Body+jG rest:=by simp [jG]
  rw [I] at hs ha
  have hl:=ib f.Body
  have ah:i<F.length:=by rw [hV.fl];exact hi
  have hq:=aP ah
  have U:F.getD i (fA (MM p))=F[i]:=by grind
  have hz:=Pw h ho hV i
  rw [U] at hz
  obtain ⟨a1,a2⟩:=DS h ho hV (by omega) f.Body F[i] out f3 (by omega) (by omega) hz
  have b1:=Ic rest (i+1) (out++(lJ (MM p) V f.Body out.length F[i]).map mF) am (by omega) (by simp [a2];omega)
  simp only [eK,eY,a2] at b1
  rw [sO,tO _ h.dT,ad,hq,ad,ab (by omega),a1,ad,b1,wC,U,I]
  grind
theorem KG:nv p ⟨V,F⟩=some ((nq (MM p) V p F).map mF):=by
 have I:=ho.sum
 have hf:=ho.funcs
 grind [Ic,nv,nq]
theorem KH{pl:Level}(C:bw (MM p) pl){ps:List Int} : ∀ (es:List aB)(i:Nat)(o:List dq),(∀ e∈es,fL p e=0)→
  xR p V pl ps es i (o.map vS)=(qO p V pl ps es i o).map fun l=>l.map vS
 | [],i,o,_=>rfl
 | e::es,i,o,he=>by
  rw [xR,qO,of_eq h hV (he e (by simp)) C,GF h hV (he e (by simp)) C,ad,ad]
  cases ps[i]? with
  | none=>rfl
  | some n=>
   rw [ad,ad,←KH C es (i+1) _ fun x hx=>he x (by simp [hx])]
   simp [vS]
theorem MY{i:Nat}(hi:i≤p.Funcs.length)(C:bw (MM p) pl){s:Stmt}(hs:bW p i s=0):L3 p V s pl=(nN p V s pl).map fun l=>l.map vS:=by
 obtain ⟨g1,g2,g3,g4,g5,g6⟩:=vK hs
 have hA:=(xH h ho hi hV hV (Es _ _) C C (le_refl _ _) hs).1
 unfold L3 nN
 by_cases h1:s.Kind=1
 ·grind [eP,of_eq,GF,vS]
 rw [aa h1,aa h1]
 by_cases h2:s.Kind=2
 ·rw [ab h2,ab h2]
  obtain ⟨o1,o2⟩:=g3 (by simp [iv,h2])
  have o3:s.Other<i:=by grind [fD]
  have o4:s.Other.toNat<p.Funcs.length:=by omega
  have O:=ho.fns _ o4
  have hf:=ho.funcs
  obtain ⟨f1,f2,_,f4⟩:=G9 O
  have b:=KH h ho hV C (ps:=(p.Funcs[s.Other.toNat]).Params) s.Args 0 [] g6
  rw [u5] at b
  rw [cX o1,ad,ad,aP o4,ad,ad,ab ⟨by omega,by omega⟩,b,of_eq h hV f4 C,GF h hV f4 C]
  cases qO p V pl (p.Funcs[s.Other.toNat]).Params s.Args 0 [] with
  | none=>rfl
  | some out=>simp [vS]
 rw [aa h2,aa h2]
 by_cases h3:s.Kind=3
 ·rw [ab h3,ab h3]
  obtain ⟨o1,o2⟩:=g3 (by simp [iv,h3])
  have o3:s.Other<p.Ins.length:=by grind [fD]
  have o4:s.Other.toNat<p.Ins.length:=by omega
  have G:=h.ins _ (bN o4)
  have P:=oH p.ak (p.Ins[s.Other.toNat])
  rw [cX o1,ad,ad,aP o4,ad,ad,Pm p.ak h.dT _ G,Cj p.ak h.dT _ G,ad,ad,sC h.small C P,pG h.small C P]
  simp [vS]
 grind [eP,of_eq,GF,vS]
end
variable [Lp]
inductive P2(n:Nat):List A6→List A6→Prop where
 | nil:P2 n [] []
 | cons {x y:A6} {r q:List A6} (hs:x.s=y.s) (hp:jZ n x.pl y.pl) (t:P2 n r q):P2 n (x::r) (y::q)
theorem P2.append{n:Nat}{a b c d:List A6}(h:P2 n a b)(h':P2 n c d):P2 n (a++c) (b++d):=by
 induction h with
 | nil=>exact h'
 | cons h hp _ ih=>exact .cons h hp ih
section
variable {n:Nat}{V W:List Level}(Q:wB n V W)
include Q
mutual
theorem WV:∀ (st:Stmt)(a b:Nat)(pl ql:Level),jZ n pl ql→P2 n (Ca n V st a pl) (Ca n W st b ql)
 | ⟨k,v,o,e,args,th,el⟩,a,b,pl,ql,h=>by
  rw [DD,DD]
  have hq:=join_mono h (vf Q e)
  by_cases h7:7≤k
  ·rw [ab h7,ab h7]
   exact .cons rfl h ((Bm th _ _ _ _ hq).append (Bm el _ _ _ _ hq))
  ·rw [aa h7,aa h7]
   exact .cons rfl h .nil
theorem Bm:∀ (l:List Stmt)(a b:Nat)(pl ql:Level),jZ n pl ql→P2 n (lJ n V l a pl) (lJ n W l b ql)
 | [],a,b,pl,ql,h=>by rw [lJ,lJ];exact .nil
 | x::r,a,b,pl,ql,h=>by rw [lJ,lJ];exact (WV x a b pl ql h).append (Bm r _ _ pl ql h)
end
theorem PS{F E:List Level}(R:wB n F E):∀ (l:List Func)(i a b:Nat),P2 n (wC n V F l i a) (wC n W E l i b)
 | [],i,a,b=>.nil
 | f::r,i,a,b=>(Bm Q f.Body _ _ _ _ (MR R i)).append (PS R r _ _ _)
theorem QY{F E:List Level}(R:wB n F E)(p:Program):P2 n (nq n V p F) (nq n W p E):=(PS Q R _ _ _ _).append (Bm Q _ _ _ _ _ (le_refl _ _))
end
section
variable {p:Program}(h:nA p)(ho:Dt p)
include h ho
theorem Tu{s:bX}(hs:eS p s.V s.F){f:dq}(hf:sE p f):DO p s (vS f)=sD p s f∧∀ t,sD p s f=some t→eS p t.V t.F:=by
 obtain ⟨h1,h2,h3⟩:=hf
 unfold DO sD vS
 cases O:f.Func with
 | true=>
  rw [O,ab rfl] at h3
  have hi:f.To.toNat<s.F.length:=by rw [hs.fl];exact h3
  have ht:=aP hi
  have D:=DB hs.fs ht
  simp only [az]
  rw [aa (by omega),show -1 - (-1 - f.To)=f.To by omega,cX h2,ad,ad,ht,ad,ad,vL h.small h1 D,vR h.small h1 D,sC h.small D h1,pG h.small D h1]
  refine ⟨rfl,fun t H=>?_⟩
  simp only [ad] at H
  split at H
  ·grind
  ·cases H
   exact ⟨hs.vl,by simp [hs.fl],hs.vs,fun l hl=>(Eu hl).elim (hs.fs l) (by grind [dX])⟩
 | false=>
  rw [O,aa (by simp)] at h3
  have hi:f.To.toNat<s.V.length:=by rw [hs.vl];exact h3
  have ht:=aP hi
  have D:=DB hs.vs ht
  simp only [bU,bB]
  rw [ab h2,cX h2,ad,ad,aP h3,ad,ad,ht,ad,ad,vL h.small h1 D,vR h.small h1 D,sC h.small D h1,pG h.small D h1]
  refine ⟨rfl,fun t H=>?_⟩
  simp only [ad] at H
  split at H
  ·grind
  ·split at H
   ·grind
   ·cases H
    exact ⟨by simp [hs.vl],hs.fl,fun l hl=>(Eu hl).elim (hs.vs l) (by grind [dX]),hs.fs⟩
theorem MZ:∀ (fs:List dq)(s:bX),eS p s.V s.F→(∀ f∈fs,sE p f)→DP p (fs.map vS) s=xE p fs s
 | [],s,hs,hf=>rfl
 | f::fs,s,hs,hf=>by
  obtain ⟨a1,a2⟩:=Tu h ho hs (hf f (by simp))
  rw [fj,DP,xE,a1]
  cases hq:sD p s f with
  | none=>rfl
  | some t=>exact MZ fs t (a2 t hq) fun g hg=>hf g (by simp [hg])
variable {W E:List Level}(hW:eS p W E)
include hW
theorem PT:∀ {L M:List A6}{s:bX},P2 (MM p) L M→rJ p W E s→(∀ x∈L,(∃ i:Nat,i≤p.Funcs.length∧bW p i x.s=0)∧bw (MM p) x.pl)→(∀ x∈M,bw (MM p) x.pl∧asks p W E x.s x.pl)→
  ∃ t,Ho p (L.map mF) s=some t∧rJ p W E t∧Grow p s t∧(t.ch=false→t=s∧∀ x∈L,asks p s.V s.F x.s x.pl)
 | _,_,s,.nil,hb,_,_=>⟨s,rfl,hb,.refl p s,by grind⟩
 | _,_,s,.cons (x:=x) (y:=y) (r:=r) (q:=q) X hp ht,hb,hL,hM=>by
  obtain ⟨⟨i,hi,hs⟩,C⟩:=hL x (by simp)
  obtain ⟨Z,hT⟩:=hM y (by simp)
  rw [←X] at hT
  obtain ⟨t,t1,t2,t3,t4⟩:=Pu h ho hW hi (a:=0) hs hb C Z hp hT
  obtain ⟨u,u1,u2,u3,u4⟩:=PT ht t2 (fun z hz=>hL z (by simp [hz])) fun z hz=>hM z (by simp [hz])
  obtain ⟨_,fs,gs,a1,_,_,a4,a5⟩:=xH h ho hi hb.ok hb.ok (Es _ _) C C (le_refl _ _) hs
  have hA:=MY h ho hb.ok hi C hs
  unfold tE at t1
  rw [a1,ad,ab (by omega)] at t1
  rw [a1,fE] at hA
  refine ⟨u,?_,u2,t3.trans u3,fun hc=>?_⟩
  ·rw [fj,Ho]
   show (L3 p s.V x.s x.pl).bind _=_
   rw [hA,ad,ab (by simp;omega),MZ h ho fs s hb.ok a4,t1,ad,u1]
  grind
theorem GG(h:nA p):∀ (l:List Var)(o:List Level),(∀ v∈l,v∈p.Vars)→DQ p l o=some (o++l.map fun v=>if v.Known=true then fg p.ak v.Label else fA (MM p))
 | [],o,_=>by simp [DQ]
 | v::r,o,hv=>by
  have G:=h.vars v (hv v (by simp))
  rw [DQ,tO _ h.dT,Cj p.ak h.dT _ G]
  cases hk:v.Known with
  | true=>
   rw [ab rfl,ad,GG h r _ fun w hw=>hv w (by simp [hw])]
   simp [hk]
  | false=>
   rw [aa (by simp),ad,GG h r _ fun w hw=>hv w (by simp [hw])]
   simp [hk]
theorem M0(h:nA p):∀ (l:List Func)(o:List Level),Bl p l o=some (o++l.map fun _=>fA (MM p))
 | [],o=>by simp [Bl]
 | v::r,o=>by
  rw [Bl,tO _ h.dT,ad,M0 h r]
  simp
theorem ZW(hK:∀ (i:Nat)(v:Var)(b:Level),p.Vars[i]? =some v→v.Known=true→W[i]? =some b→jZ (MM p) (fg p.ak v.Label) b)(hT:xJ (MM p) W (asks p W E) p E) :
  ∃ m,mE p=some m∧eS p m.Vars m.Funcs∧xJ (MM p) m.Vars (asks p m.Vars m.Funcs) p m.Funcs∧wB (MM p) m.Vars W∧wB (MM p) m.Funcs E∧∀ (i:Nat)(v:Var),p.Vars[i]? =some v→v.Known=true→m.Vars[i]? =some (fg p.ak v.Label):=by
 have Y:=ho.vars
 have au:=ho.funcs
 have b0:rJ p W E ⟨oR p,uL p,true⟩:=by
  refine ⟨YU h ho,⟨by rw [hW.vl];simp [oR],fun i a b ha hb=>?_⟩,⟨by rw [hW.fl];simp [uL],fun i a b ha hb=>?_⟩⟩
  ·grind [oR,bot_le]
  grind [uL,bot_le]
 have k0:∀ (i:Nat)(v:Var),p.Vars[i]? =some v→v.Known=true→(oR p)[i]? =some (fg p.ak v.Label):=by grind [oR]
 have ao:=Cb h ho hW
 have aw:=(RZ hW.fl).1 hT
 obtain ⟨s,hs,hQ⟩:=kA (B:=Bk p) (fun s=>2*(2*MM p*(p.Vars.length+p.Funcs.length) - mu p s)+(if s.ch=true then 1 else 0))
  (fun s=>rJ p W E s∧(∀ (i:Nat)(v:Var),p.Vars[i]? =some v→v.Known=true→s.V[i]? =some (fg p.ak v.Label))∧(s.ch=false→xJ (MM p) s.V (asks p s.V s.F) p s.F))
  (fun s=>rJ p W E s∧(∀ (i:Nat)(v:Var),p.Vars[i]? =some v→v.Known=true→s.V[i]? =some (fg p.ak v.Label))∧xJ (MM p) s.V (asks p s.V s.F) p s.F) (by
   rintro s ⟨hb,ac,av⟩
   unfold Bk
   cases hc:s.ch with
   | false=>
    grind
   | true=>
    rw [ab rfl]
    have an:rJ p W E ⟨s.V,s.F,false⟩:=⟨hb.ok,hb.v,hb.f⟩
    have hlen:=Ad h ho hb.ok
    obtain ⟨t,t1,t2,t3,t4⟩:=PT h ho hW (QY hb.v hb.f p) an (Cb h ho hb.ok) (by grind)
    rw [KG h ho hb.ok,ad,ab (by simp;omega)]
    refine .inr ⟨t,by rw [t1];rfl,⟨t2,fun i v hv hk=>(t3.kn i v hv hk).trans (ac i v hv hk),fun S=>?_⟩,?_⟩
    ·obtain ⟨rfl,c⟩:=t4 S
     exact (RZ hb.ok.fl).2 c
    ·have m1:mu p ⟨s.V,s.F,false⟩=mu p s:=rfl
     have m2:=t3.mu
     have m3:mu p t≤2*MM p*(p.Vars.length+p.Funcs.length):=by
      have q1:=Gj (MM p) t.V
      have q2:=Gj (MM p) t.F
      rw [t2.ok.vl] at q1
      rw [t2.ok.fl] at q2
      grind [mu]
     cases S:t.ch with
     | false=>grind
     | true=>
      have:=t3.ch S
      grind) ⟨oR p,uL p,true⟩ (by grind)
 refine ⟨⟨s.V,s.F⟩,?_,hQ.1.ok,hQ.2.2,hQ.1.v,hQ.1.f,hQ.2.1⟩
 unfold mE
 have e1:=GG h ho hW h p.Vars [] fun v hv=>hv
 have e2:=M0 h ho hW h p.Funcs []
 rw [dZ] at e1 e2
 rw [ab (by omega),e1,ad,e2,ad]
 show (lp (Bk p) ⟨oR p,uL p,true⟩).bind _=_
 rw [hs];rfl
end
theorem PU{n:Nat}{x y:List Bool}(hx:x.length=n)(hy:y.length=n)(h:∀ k,k<n→on x k=on y k):x=y:=by
 grind [List.ext_getElem,on]
theorem ZX{n:Nat}{a b:Level}(ha:bw n a)(hb:bw n b)(h:jZ n a b)(h':jZ n b a):a=b:=by
 have h:=le_iff.1 h
 have h':=le_iff.1 h'
 have e1:a.Readers=b.Readers:=PU ha.1 hb.1 fun k hk=>lN.2 ⟨(h' k hk).1,(h k hk).1⟩
 have e2:a.Writers=b.Writers:=PU ha.2 hb.2 fun k hk=>lN.2 ⟨(h k hk).2,(h' k hk).2⟩
 cases a;simp_all
theorem PV{n:Nat}{V W:List Level}(hV:∀ l∈V,bw n l)(hW:∀ l∈W,bw n l)(h:wB n V W)(h':wB n W V):V=W:=by
 apply List.ext_getElem h.1
 intro k h1 h2
 have q1:=aP h1
 have q2:=aP h2
 exact ZX (hV _ (bN h1)) (hW _ (bN h2)) (h.2 k _ _ q1 q2) (h'.2 k _ _ q2 q1)
theorem M1{p:Program}(h:nA p)(ho:Dt p):∃ m,mA p=some m∧mE p=some m∧eS p m.Vars m.Funcs:=by
 obtain ⟨m,m1,m2,m3,m4⟩:=ZJ h ho
 have kn:∀ {m:eD},(∀ (i:Nat)(v:Var),p.Vars[i]? =some v→v.Known=true→m.Vars[i]? =some (fg p.ak v.Label))→∀ (i:Nat)(v:Var)(b:Level),p.Vars[i]? =some v→v.Known=true→m.Vars[i]? =some b→jZ (MM p) (fg p.ak v.Label) b:=by grind [le_refl]
 obtain ⟨r,r1,r2,r3,r4,r5,r6⟩:=ZW h ho m2 (kn m4) m3
 obtain ⟨q,q1,q2,q3,q4,q5,q6⟩:=Vf h ho r2 (kn r6) r3
 rw [m1] at q1
 cases q1
 have e1:=PV m2.vs r2.vs q4 r4
 have e2:=PV m2.fs r2.fs q5 r5
 refine ⟨m,m1,?_,m2⟩
 rw [r1]
 cases m;simp_all
end Go.Proofs.YtkkkkondjclcnaaGreat.A
