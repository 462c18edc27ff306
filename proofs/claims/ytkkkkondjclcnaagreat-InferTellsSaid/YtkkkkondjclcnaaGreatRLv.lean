/- The reference's levels. -/
import Derived.Test.YtkkkkondjclcnaaGreatPlace
import Derived.Test.YtkkkkondjclcnaaGreatInfP
import Derived.Test.YtkkkkondjclcnaaGreatPrgR
import Derived.Test.YtkkkkondjclcnaaGreatFQ
import Derived.Test.YtkkkkondjclcnaaGreatInfRE
set_option linter.all false
namespace Go.Proofs.YtkkkkondjclcnaaGreat.A
open Go
variable [Lp]
section
variable (a:ah)(hok:eL a=0)
include hok
theorem Sc(i k:Int)(hi:bN a.Many i=true)(hk:bN a.Many k=true):oW a i k=some (dK a.Many.toNat a.Grants i.toNat k.toNat):=by
 obtain ⟨h1,h2,h3,h4⟩:=lj hok
 have hg:=Oq a hok
 obtain ⟨hi1,hi2⟩:0≤i∧i<a.Many:=by simpa [bN] using hi
 obtain ⟨hk1,hk2⟩:0≤k∧k<a.Many:=by simpa [bN] using hk
 have inner:∀ (n:Nat)(row:List Bool),row.length=a.Many.toNat→lp (fun v=>mr a k n v.1 v.2) (row,0)=some (fW a.Grants row,a.Grants.length,false):=by
  intro n row hl
  have h:=sx (B:=fun v=>mr a k n v.1 v.2) a.Grants.length (fun j=>(fW (a.Grants.take j) row,j)) (x:=(fW a.Grants row,a.Grants.length,false))
   (fun j hj=>by
    have hgg:=hg _ (bY hj)
    have hlen:(fW (a.Grants.take j) row).length=a.Many.toNat:=(JZ _ _).trans hl
    have e:fW (a.Grants.take (j+1)) row=kK (fW (a.Grants.take j) row) a.Grants[j]:=by rw [zQ hj,fW,List.foldl_append];rfl
    simp only [mr,show (j:Int)<(a.Grants.length:Int) by omega,an,aA hj,ae,dP hgg.1.1,dP hgg.2.1,gN (row:=fW (a.Grants.take j) row) (k:=a.Grants[j].Who.toNat) (by omega),
     gN (row:=fW (a.Grants.take j) row) (k:=a.Grants[j].For.toNat) (by omega),fM j (by omega),e,kK]
    cases on (fW (a.Grants.take j) row) a.Grants[j].Who.toNat<;>simp)
   (by simp [mr])
  exact h
 have outer:=sx (B:=fun v=>mw a k v.1 v.2) a.Many.toNat (fun n=>(fX a.Grants n (wO a.Many.toNat i.toNat),n)) (x:=(eT a.Many.toNat a.Grants i.toNat,a.Many.toNat,false))
  (fun n hn=>by
   have hin:=inner n (fX a.Grants n (wO a.Many.toNat i.toNat)) ((m8 _ _ _).trans (by simp [wO]))
   simp only [mw,show (n:Int)<a.Many by omega,an,hin,ae,fM n (by omega)]
   rfl)
  (by simp only [mw,show ¬((a.Many.toNat:Nat):Int)<a.Many by omega,aI,eT,p6])
 have outer':lp (fun v=>mw a k v.1 v.2) ((List.replicate a.Many.toNat false).set i.toNat true,0)=_:=outer
 have hz:(List.replicate a.Many.toNat false)[i.toNat]? =some false:=by rw [ko,aa (by omega)]
 have hr:=gN (row:=eT a.Many.toNat a.Grants i.toNat) (k:=k.toNat) (by rw [yu];omega)
 simp only [oW,dP (show 0≤a.Many by omega),ae,show a.Many.toNat≤1000000000 by omega,an,dP hi1,hz,outer',dP hk1,hr,dK]
theorem VT(ps:List br)(hp:PV a.Many ps)(who:Nat)(hw:who<a.Many.toNat):Bf a (who:Int) ps=some (qH a.Many.toNat a.Grants ps who):=by
 obtain ⟨h1,h2,h3,h4⟩:=lj hok
 have hr:∀ n,bN a.Many n=true→oW a (who:Int) n=some (dK a.Many.toNat a.Grants who n.toNat):=fun n hn=>by
  have:=Sc a hok who n (Ao.2 (by omega)) hn
  simpa using this
 have inner:∀ (i:Nat)(hi:i<ps.length)(b:Bool),lp (fun v=>tU a (who:Int) ps i v.1 v.2) (b,0)=some (b||ps[i].Names.any (fun n=>dK a.Many.toNat a.Grants who n.toNat),ps[i].Names.length,false):=by
  intro i hi b
  obtain ⟨_,hl,hn⟩:=hp.2 _ (bY hi)
  have h:=sx (B:=fun v=>tU a (who:Int) ps i v.1 v.2) ps[i].Names.length (fun k=>(b||(ps[i].Names.take k).any (fun n=>dK a.Many.toNat a.Grants who n.toNat),k)) (x:=(b||ps[i].Names.any (fun n=>dK a.Many.toNat a.Grants who n.toNat),ps[i].Names.length,false))
   (fun k hk=>by
    have hk':(k:Int)<(ps[i].Names.length:Int):=by omega
    simp only [tU,aA hi,aA hk,ae,hk',an,hr _ (hn _ (bY hk)),fM k (by omega),zQ hk,List.any_append,vz,List.any_nil]
    cases hq:(b||(ps[i].Names.take k).any (fun n=>dK a.Many.toNat a.Grants who n.toNat)) with
    | true=>
     rcases Bool.or_eq_true_iff.1 hq with h | h<;>simp [h]
    | false=>
     obtain ⟨h5,h6⟩:=zx.1 hq
     simp [h5,h6])
   (by simp only [tU,aA hi,ae,show ¬((ps[i].Names.length:Nat):Int)<(ps[i].Names.length:Int) by omega,aI,p6,List.take_length])
  simpa using h
 have outer:=qo (B:=fun v=>qQ a (who:Int) ps v) ps (fun p=>!(dK a.Many.toNat a.Grants who p.Owner.toNat||p.Names.any fun n=>dK a.Many.toNat a.Grants who n.toNat)) id (x:=.inl ()) (y:=.inr (ps.length,false))
  (fun i hi hq=>by
   obtain ⟨ho,_,_⟩:=hp.2 _ (bY hi)
   have hq':(dK a.Many.toNat a.Grants who ps[i].Owner.toNat||ps[i].Names.any fun n=>dK a.Many.toNat a.Grants who n.toNat)=true:=by simpa only [Bool.not_eq_eq_eq_not,Bool.not_false] using hq
   have:=hp.1
   simp only [qQ,id,show (i:Int)<(ps.length:Int) by omega,an,aA hi,ae,hr _ ho,inner i hi,hq',fM i (by omega)])
  (fun i hi hq=>by
   obtain ⟨ho,_,_⟩:=hp.2 _ (bY hi)
   have hq':(dK a.Many.toNat a.Grants who ps[i].Owner.toNat||ps[i].Names.any fun n=>dK a.Many.toNat a.Grants who n.toNat)=false:=by simpa only [Bool.not_eq_eq_eq_not,pT] using hq
   simp only [qQ,id,show (i:Int)<(ps.length:Int) by omega,an,aA hi,ae,hr _ ho,inner i hi,hq',bn,aI])
  (by simp [qQ])
 have outer':lp (fun v=>qQ a (who:Int) ps v) 0=_:=outer
 simp only [Bf,outer',ae]
 unfold qH
 rw [←Hu]
 cases ps.any (fun p=>!(dK a.Many.toNat a.Grants who p.Owner.toNat||p.Names.any fun n=>dK a.Many.toNat a.Grants who n.toNat))<;>simp
theorem z8(l:Label)(hf:dC a.Many l=0):lr a l=some (cw a l):=by
 obtain ⟨h1,h2,h3,h4⟩:=lj hok
 obtain ⟨hr,hw⟩:=BQ hf
 have h:=sx (B:=fun v=>mx a l v.1 v.2.1 v.2.2) a.Many.toNat (fun k=>(k,(List.range k).map (qH a.Many.toNat a.Grants l.Read),(List.range k).map (qH a.Many.toNat a.Grants l.Write)))
  (x:=(a.Many.toNat,false,(List.range a.Many.toNat).map (qH a.Many.toNat a.Grants l.Read),(List.range a.Many.toNat).map (qH a.Many.toNat a.Grants l.Write)))
  (fun k hk=>by
   have r1:((List.range k).map (qH a.Many.toNat a.Grants l.Read)).length + [qH a.Many.toNat a.Grants l.Read k].length≤1000000000:=by simp;omega
   have r2:((List.range k).map (qH a.Many.toNat a.Grants l.Write)).length + [qH a.Many.toNat a.Grants l.Write k].length≤1000000000:=by simp;omega
   simp only [mx,show (k:Int)<a.Many by omega,an,VT a hok _ (BT hr) k hk,VT a hok _ (BT hw) k hk,ae,r1,r2,fM k (by omega),qf,dc,cq,mW])
  (by simp only [mx,show ¬((a.Many.toNat:Nat):Int)<a.Many by omega,aI,p6])
 have h':lp (fun v=>mx a l v.1 v.2.1 v.2.2) (0,([]:List Bool),([]:List Bool))=_:=h
 simp only [lr,h',ae,cw]
theorem uv:fE a=some (ij a.Many.toNat):=by
 obtain ⟨h1,h2,h3,h4⟩:=lj hok
 unfold fE
 rw [aa (by omega)];rfl
end
section
variable {n:Nat}(hn:n≤1000000){l m:Level}(hl:bc n l)(hm:bc n m)
include hn hl hm
theorem Aa:fI l m=some (jS n l m):=by
 unfold fI
 rw [hl.1,aa ⟨hn,hl,hm⟩]
theorem qS:dj l m=some (cV n l m):=by
 unfold dj
 rw [hl.1,aa ⟨hn,hl,hm⟩]
end
mutual
theorem MU:∀ e:ax,py e=((mX e).filter fun x=>decide (x.Kind=2)).map (·.N)
 | ⟨k,m,args⟩=>by
  rw [py,AB]
  have ih:=Kb args
  by_cases h:k=2
  ·rw [aa h,List.filter_cons_of_pos (by simpa using h),cq,ih]
  ·rw [ab h,List.filter_cons_of_neg (by simpa using h),ih]
theorem Kb:∀ l:List ax,oR l=((eN l).filter fun x=>decide (x.Kind=2)).map (·.N)
 | []=>rfl
 | e::r=>by
  rw [oR,eN,CS,dc,MU e,Kb r]
end
theorem DZ{p:Program}(h:oS p){V F:List Level}(hV:dx p V F):∀ (L:List ax)(v:Level),bc (MM p) v→(∀ x∈L,x.Kind=2→0≤x.N∧x.N.toNat<V.length)→
  yG V L v=some (HD (MM p) V ((L.filter fun x=>decide (x.Kind=2)).map (·.N)) v)
 | [],v,hv,_=>rfl
 | x::r,v,hv,hx=>by
  rw [yG]
  by_cases hk:x.Kind=2
  ·obtain ⟨h0,h1⟩:=hx x (by simp) hk
   rw [aa hk,dP h0,ae,aA h1,ae,qS h.small hv (hV.vs _ (bY h1)),ae,DZ h hV r _ (dU _ _ _) fun y hy=>hx y (by simp [hy]),List.filter_cons_of_pos (by simpa using hk),cq]
   rw [HD]
   congr 2
   rw [cp,aA h1];rfl
  ·rw [ab hk,DZ h hV r v hv fun y hy=>hx y (by simp [hy]),List.filter_cons_of_neg (by simpa using hk)]
theorem T7{p:Program}{e:ax}(h:dT p e=0):sz e≤15:=by
 unfold dT bw.dT at h
 split at h
 ·exact absurd h (by decide)
 ·rename_i h1;omega
theorem Kc{p:Program}(h:oS p){V F:List Level}(hV:dx p V F){e:ax}(he:dT p e=0):kA p V e=some (jU (MM p) V e):=by
 have hs:=T7 he
 unfold kA
 rw [uv _ h.dK,ae,OJ hs,ae,aa (by rw [Bz];omega),DZ h hV _ _ (lk _) fun x hx hk=>?_,←MU]
 ·rfl
 ·have:=(LL (Mu he x hx)).2.2.2.2 hk
  have:=hV.vl
  omega
theorem Bk{p:Program}(h:oS p){V F:List Level}(hV:dx p V F){e:ax}(he:dT p e=0){pl:Level}(hpl:bc (MM p) pl):atR p V pl e=some (cV (MM p) pl (jU (MM p) V e)):=by
 have h2:=(F4 h hV he).2
 unfold atR
 rw [Kc h hV he,ae,qS h.small hpl h2]
variable [Lp]
def uM(x:DI):aZ:=⟨x.s,x.a,x.pl⟩
def rX(f:cY):cD:=⟨f.Level,if f.Func=true then -1 - f.To else f.To⟩
section
variable {p:Program}(h:oS p)(ho:Dy p){V F:List Level}(hV:dx p V F)
include h ho hV
mutual
theorem WV{i:Nat}(hi:i≤p.Funcs.length):∀ (st:Stmt)(pl:Level)(out:List aZ),uk (bw p i) st=0→oQ st≤50→out.length+oQ st≤1000→bc (MM p) pl→
  MJ p V st pl out=some (out++(Cf (MM p) V st out.length pl).map uM)∧(Cf (MM p) V st out.length pl).length=oQ st
 | ⟨k,v,o,e,args,th,el⟩,pl,out,he,hc,ha,hpl=>by
  obtain ⟨e1,e2,e3⟩:=BR he
  have hcnt:=yn ⟨k,v,o,e,args,th,el⟩
  have l1:=fA th
  have l2:=fA el
  simp only at hcnt e2 e3
  rw [OL,aa ⟨by omega,by simp only;omega,by simp only;omega⟩,DJ]
  by_cases h7:7≤k
  ·have hex:=(AY e1).2.2.2.2.1 (by simp only [eu];exact av ⟨by omega,by omega⟩)
   simp only at hex
   have hsz:=dU (MM p) pl (jU (MM p) V e)
   rw [aa h7,aa h7,Bk h hV hex hpl,ae]
   obtain ⟨a1,a2⟩:=Bl hi th (cV (MM p) pl (jU (MM p) V e)) (out++[⟨⟨k,v,o,e,args,th,el⟩,out.length,pl⟩]) e2 (by omega) (by simp;omega) hsz
   simp only [cC,bD,iC,fi] at a1 a2
   rw [a1,ae]
   obtain ⟨b1,b2⟩:=Bl hi el (cV (MM p) pl (jU (MM p) V e)) ((out++[⟨⟨k,v,o,e,args,th,el⟩,out.length,pl⟩])++(mM (MM p) V th (out.length+1) (cV (MM p) pl (jU (MM p) V e))).map uM) e3 (by omega) (by simp [a2];omega) hsz
   simp only [cC,bD,iC,fh,fi,a2] at b1 b2
   rw [b1]
   refine ⟨?_,?_⟩
   ·simp [uM]
   ·simp [a2,b2,hcnt];omega
  ·rw [ab h7,ab h7]
   obtain ⟨z1,z2⟩:=WG e1 h7
   simp only at z1 z2
   subst z1 z2
   refine ⟨by simp [uM],by rw [hcnt];simp [bb]⟩
theorem Bl{i:Nat}(hi:i≤p.Funcs.length):∀ (l:List Stmt)(pl:Level)(out:List aZ),cZ (bw p i) l=0→bb l≤50→out.length+bb l≤1000→bc (MM p) pl→
  tu p V l pl out=some (out++(mM (MM p) V l out.length pl).map uM)∧(mM (MM p) V l out.length pl).length=bb l
 | [],pl,out,he,hc,ha,hpl=>by rw [tu,mM,bb];simp
 | x::r,pl,out,he,hc,ha,hpl=>by
  rw [bb] at hc ha
  have he1:=yr he x (by simp)
  have he2:cZ (bw p i) r=0:=by
   rw [cZ,ab (by simp [he1])] at he;exact he
  obtain ⟨a1,a2⟩:=WV hi x pl out he1 (by omega) (by omega) hpl
  obtain ⟨b1,b2⟩:=Bl hi r pl (out++(Cf (MM p) V x out.length pl).map uM) he2 (by omega) (by simp [a2];omega) hpl
  simp only [cC,fh,a2] at b1 b2
  rw [tu,mM,a1,ae,b1,bb]
  exact ⟨by simp,by simp [a2,b2]⟩
end
theorem Fm:∀ (rest:List Func)(i:Nat)(out:List aZ),p.Funcs.drop i=rest→eh rest+bb p.Main≤50→out.length+eh rest+bb p.Main≤1000→
  qR p V F rest i out=some (out++(wX (MM p) V F rest i out.length).map uM++(mM (MM p) V p.Main (out.length+eh rest) (ij (MM p))).map uM)
 | [],i,out,hd,hs,ha=>by
  have hl:=fA p.Main
  have:=(Bl h ho hV (aT _) p.Main (ij (MM p)) out ho.mains (by omega) (by omega) (lk _)).1
  rw [qR,uv _ h.dK,ae,aa (by omega),this]
  simp [wX,eh]
 | f::rest,i,out,hd,hs,ha=>by
  obtain ⟨hg,hd2,hi,hfn⟩:=EF h ho hd
  obtain ⟨_,_,f3,_⟩:=Eu hfn
  have hsum:eh (f::rest)=bb f.Body+eh rest:=by simp [eh]
  rw [hsum] at hs ha
  have hl:=fA f.Body
  have hiF:i<F.length:=by rw [hV.fl];exact hi
  have hq:=aA hiF
  have hdd:F.getD i (ij (MM p))=F[i]:=by rw [cp,hq];rfl
  have hz:=RT h ho hV i
  rw [hdd] at hz
  obtain ⟨a1,a2⟩:=Bl h ho hV (by omega) f.Body F[i] out f3 (by omega) (by omega) hz
  have b1:=Fm rest (i+1) (out++(mM (MM p) V f.Body out.length F[i]).map uM) hd2 (by omega) (by simp [a2];omega)
  simp only [cC,fh,a2] at b1
  rw [qR,uv _ h.dK,ae,hq,ae,aa (by omega),a1,ae,b1,wX,hdd,hsum]
  simp [pX]
theorem HX:jW p ⟨V,F⟩=some ((iu (MM p) V p F).map uM):=by
 have hsum:=ho.sum
 have hf:=ho.funcs
 have hm:=ho.main
 have b:=Fm h ho hV p.Funcs 0 [] rfl (show eh p.Funcs+_≤50 by unfold eh;omega) (show 0+eh p.Funcs+_≤1000 by unfold eh;omega)
 unfold jW iu
 rw [aa (by omega),b]
 simp
theorem HY{pl:Level}(hpl:bc (MM p) pl){ps:List Int} : ∀ (es:List ax)(i:Nat)(o:List cY),(∀ e∈es,dT p e=0)→
  vi p V pl ps es i (o.map rX)=(oT p V pl ps es i o).map fun l=>l.map rX
 | [],i,o,_=>rfl
 | e::es,i,o,he=>by
  rw [vi,oT,of_eq h hV (he e (by simp)) hpl,Bk h hV (he e (by simp)) hpl,ae,ae]
  cases ps[i]? with
  | none=>rfl
  | some n=>
   rw [ae,ae,←HY hpl es (i+1) _ fun x hx=>he x (by simp [hx])]
   simp [rX]
theorem Kd{i:Nat}(hi:i≤p.Funcs.length){pl:Level}(hpl:bc (MM p) pl){s:Stmt}(hs:bw p i s=0):MO p V s pl=(oV p V s pl).map fun l=>l.map rX:=by
 obtain ⟨g1,g2,g3,g4,g5,g6⟩:=AY hs
 have hA:=(tn h ho hi hV hV (yw _ _) hpl hpl (le_refl _ _) hs).1
 unfold MO oV
 by_cases h1:s.Kind=1
 ·have he:=g5 (by simp [eu,h1])
  rw [aa h1,aa h1,of_eq h hV he hpl,Bk h hV he hpl]
  simp [rX]
 rw [ab h1,ab h1]
 by_cases h2:s.Kind=2
 ·rw [aa h2,aa h2]
  obtain ⟨o1,o2⟩:=g3 (by simp [fO,h2])
  have o3:s.Other<i:=by simpa [gI,h2] using o2
  have o4:s.Other.toNat<p.Funcs.length:=by omega
  have hfn:=ho.fns _ o4
  have hf:=ho.funcs
  obtain ⟨f1,f2,_,f4⟩:=Eu hfn
  have b:=HY h ho hV hpl (ps:=(p.Funcs[s.Other.toNat]).Params) s.Args 0 [] g6
  rw [mW] at b
  rw [dP o1,ae,ae,aA o4,ae,ae,aa ⟨by omega,by omega⟩,b,of_eq h hV f4 hpl,Bk h hV f4 hpl]
  cases oT p V pl (p.Funcs[s.Other.toNat]).Params s.Args 0 [] with
  | none=>rfl
  | some out=>simp [rX]
 rw [ab h2,ab h2]
 by_cases h3:s.Kind=3
 ·rw [aa h3,aa h3]
  obtain ⟨o1,o2⟩:=g3 (by simp [fO,h3])
  have o3:s.Other<p.Ins.length:=by simpa [gI,h3] using o2
  have o4:s.Other.toNat<p.Ins.length:=by omega
  have hlab:=h.ins _ (bY o4)
  have hsz:=sB p.ah (p.Ins[s.Other.toNat])
  rw [dP o1,ae,ae,aA o4,ae,ae,PW p.ah h.dK _ hlab,z8 p.ah h.dK _ hlab,ae,ae,um h.small hpl hsz,qS h.small hpl hsz]
  simp [rX]
 rw [ab h3,ab h3]
 by_cases h5:s.Kind=5
 ·have he:=g5 (by simp [eu,h5])
  rw [aa h5,aa h5,of_eq h hV he hpl,Bk h hV he hpl]
  simp [rX]
 rw [ab h5,ab h5]
 by_cases h6:s.Kind=6
 ·have he:=g5 (by simp [eu,h6])
  rw [aa h6,aa h6,of_eq h hV he hpl,Bk h hV he hpl]
  simp [rX]
 rw [ab h6,ab h6]
 rfl
end
variable [Lp]
inductive P2(n:Nat):List DI→List DI→Prop where
 | nil:P2 n [] []
 | cons {x y:DI} {r q:List DI} (hs:x.s=y.s) (hp:eX n x.pl y.pl) (t:P2 n r q):P2 n (x::r) (y::q)
theorem P2.append{n:Nat}{a b c d:List DI}(h:P2 n a b)(h':P2 n c d):P2 n (a++c) (b++d):=by
 induction h with
 | nil=>exact h'
 | cons h hp _ ih=>exact .cons h hp ih
section
variable {n:Nat}{V W:List Level}(hVW:uq n V W)
include hVW
mutual
theorem T8:∀ (st:Stmt)(a b:Nat)(pl ql:Level),eX n pl ql→P2 n (Cf n V st a pl) (Cf n W st b ql)
 | ⟨k,v,o,e,args,th,el⟩,a,b,pl,ql,h=>by
  rw [DJ,DJ]
  have hq:=join_mono h (tm hVW e)
  by_cases h7:7≤k
  ·rw [aa h7,aa h7]
   exact .cons rfl h ((yM th _ _ _ _ hq).append (yM el _ _ _ _ hq))
  ·rw [ab h7,ab h7]
   exact .cons rfl h .nil
theorem yM:∀ (l:List Stmt)(a b:Nat)(pl ql:Level),eX n pl ql→P2 n (mM n V l a pl) (mM n W l b ql)
 | [],a,b,pl,ql,h=>by rw [mM,mM];exact .nil
 | x::r,a,b,pl,ql,h=>by rw [mM,mM];exact (T8 x a b pl ql h).append (yM r _ _ pl ql h)
end
theorem MV{F E:List Level}(hFE:uq n F E):∀ (l:List Func)(i a b:Nat),P2 n (wX n V F l i a) (wX n W E l i b)
 | [],i,a,b=>.nil
 | f::r,i,a,b=>(yM hVW f.Body _ _ _ _ (J8 hFE i)).append (MV hFE r _ _ _)
theorem NR{F E:List Level}(hFE:uq n F E)(p:Program):P2 n (iu n V p F) (iu n W p E):=(MV hVW hFE _ _ _ _).append (yM hVW _ _ _ _ _ (le_refl _ _))
end
section
variable {p:Program}(h:oS p)(ho:Dy p)
include h ho
theorem Qb{s:bR}(hs:dx p s.V s.F){f:cY}(hf:qJ p f):Bg p s (rX f)=qI p s f∧∀ t,qI p s f=some t→dx p t.V t.F:=by
 obtain ⟨h1,h2,h3⟩:=hf
 unfold Bg qI rX
 cases hfn:f.Func with
 | true=>
  rw [hfn,aa rfl] at h3
  have hi:f.To.toNat<s.F.length:=by rw [hs.fl];exact h3
  have ht:=aA hi
  have hts:=qL hs.fs ht
  simp only [an]
  rw [ab (by omega),show -1 - (-1 - f.To)=f.To by omega,dP h2,ae,ae,ht,ae,ae,tP h.small h1 hts,Aa h.small h1 hts,um h.small hts h1,qS h.small hts h1]
  refine ⟨rfl,fun t ht2=>?_⟩
  simp only [ae] at ht2
  split at ht2
  ·obtain rfl:=ad ht2;exact hs
  ·obtain rfl:=ad ht2
   exact ⟨hs.vl,by simp [hs.fl],hs.vs,fun l hl=>(BX hl).elim (hs.fs l) fun e=>by rw [e];exact dU _ _ _⟩
 | false=>
  rw [hfn,ab (by simp)] at h3
  have hi:f.To.toNat<s.V.length:=by rw [hs.vl];exact h3
  have ht:=aA hi
  have hts:=qL hs.vs ht
  simp only [bn,aI]
  rw [aa h2,dP h2,ae,ae,aA h3,ae,ae,ht,ae,ae,tP h.small h1 hts,Aa h.small h1 hts,um h.small hts h1,qS h.small hts h1]
  refine ⟨rfl,fun t ht2=>?_⟩
  simp only [ae] at ht2
  split at ht2
  ·obtain rfl:=ad ht2;exact hs
  ·split at ht2
   ·obtain rfl:=ad ht2;exact hs
   ·obtain rfl:=ad ht2
    exact ⟨by simp [hs.vl],hs.fl,fun l hl=>(BX hl).elim (hs.vs l) fun e=>by rw [e];exact dU _ _ _,hs.fs⟩
theorem Ke:∀ (fs:List cY)(s:bR),dx p s.V s.F→(∀ f∈fs,qJ p f)→Bh p (fs.map rX) s=ve p fs s
 | [],s,hs,hf=>rfl
 | f::fs,s,hs,hf=>by
  obtain ⟨a1,a2⟩:=Qb h ho hs (hf f (by simp))
  rw [cq,Bh,ve,a1]
  cases hq:qI p s f with
  | none=>rfl
  | some t=>exact Ke fs t (a2 t hq) fun g hg=>hf g (by simp [hg])
variable {W E:List Level}(hW:dx p W E)
include hW
theorem MW:∀ {L M:List DI}{s:bR},P2 (MM p) L M→pA p W E s→(∀ x∈L,(∃ i:Nat,i≤p.Funcs.length∧bw p i x.s=0)∧bc (MM p) x.pl)→(∀ x∈M,bc (MM p) x.pl∧asks p W E x.s x.pl)→
  ∃ t,EH p (L.map uM) s=some t∧pA p W E t∧Grow p s t∧(t.ch=false→t=s∧∀ x∈L,asks p s.V s.F x.s x.pl)
 | _,_,s,.nil,hb,_,_=>⟨s,rfl,hb,.refl p s,fun _=>⟨rfl,fun _ h=>absurd h (by simp)⟩⟩
 | _,_,s,.cons (x:=x) (y:=y) (r:=r) (q:=q) hxy hp ht,hb,hL,hM=>by
  obtain ⟨⟨i,hi,hs⟩,hpl⟩:=hL x (by simp)
  obtain ⟨hql,hT⟩:=hM y (by simp)
  rw [←hxy] at hT
  obtain ⟨t,t1,t2,t3,t4⟩:=MA h ho hW hi (a:=0) hs hb hpl hql hp hT
  obtain ⟨u,u1,u2,u3,u4⟩:=MW ht t2 (fun z hz=>hL z (by simp [hz])) fun z hz=>hM z (by simp [hz])
  obtain ⟨_,fs,gs,a1,_,_,a4,a5⟩:=tn h ho hi hb.ok hb.ok (yw _ _) hpl hpl (le_refl _ _) hs
  have hA:=Kd h ho hb.ok hi hpl hs
  unfold rF at t1
  rw [a1,ae,aa (by omega)] at t1
  rw [a1,fg] at hA
  refine ⟨u,?_,u2,t3.trans u3,fun hc=>?_⟩
  ·rw [cq,EH]
   show (MO p s.V x.s x.pl).bind _=_
   rw [hA,ae,aa (by simp;omega),Ke h ho fs s hb.ok a4,t1,ae,u1]
  ·obtain ⟨rfl,b⟩:=u4 hc
   obtain ⟨rfl,c⟩:=t4 hc
   refine ⟨rfl,fun z hz=>?_⟩
   rcases cQ.1 hz with rfl | hz
   ·exact c
   ·exact b z hz
theorem D0(h:oS p):∀ (l:List Var)(o:List Level),(∀ v∈l,v∈p.Vars)→Bi p l o=some (o++l.map fun v=>if v.Known=true then cw p.ah v.Label else ij (MM p))
 | [],o,_=>by simp [Bi]
 | v::r,o,hv=>by
  have hlab:=h.vars v (hv v (by simp))
  rw [Bi,uv _ h.dK,z8 p.ah h.dK _ hlab]
  cases hk:v.Known with
  | true=>
   rw [aa rfl,ae,D0 h r _ fun w hw=>hv w (by simp [hw])]
   simp [hk]
  | false=>
   rw [ab (by simp),ae,D0 h r _ fun w hw=>hv w (by simp [hw])]
   simp [hk]
theorem Kf(h:oS p):∀ (l:List Func)(o:List Level),yL p l o=some (o++l.map fun _=>ij (MM p))
 | [],o=>by simp [yL]
 | v::r,o=>by
  rw [yL,uv _ h.dK,ae,Kf h r]
  simp
theorem WW(hK:∀ (i:Nat)(v:Var)(b:Level),p.Vars[i]? =some v→v.Known=true→W[i]? =some b→eX (MM p) (cw p.ah v.Label) b)(hT:qK (MM p) W (asks p W E) p E) :
  ∃ m,nm p=some m∧dx p m.Vars m.Funcs∧qK (MM p) m.Vars (asks p m.Vars m.Funcs) p m.Funcs∧uq (MM p) m.Vars W∧uq (MM p) m.Funcs E∧∀ (i:Nat)(v:Var),p.Vars[i]? =some v→v.Known=true→m.Vars[i]? =some (cw p.ah v.Label):=by
 have hv16:=ho.vars
 have hf5:=ho.funcs
 have b0:pA p W E ⟨nz p,sM p,true⟩:=by
  refine ⟨VQ h ho,⟨by rw [hW.vl];simp [nz],fun i a b ha hb=>?_⟩,⟨by rw [hW.fl];simp [sM],fun i a b ha hb=>?_⟩⟩
  ·rw [nz,gh] at ha
   obtain ⟨v,hv,rfl⟩:=dN.1 ha
   split
   ·rename_i hk;exact hK i v b hv hk hb
   ·exact bot_le _ _
  ·rw [sM,gh] at ha
   obtain ⟨v,hv,rfl⟩:=dN.1 ha
   exact bot_le _ _
 have k0:∀ (i:Nat)(v:Var),p.Vars[i]? =some v→v.Known=true→(nz p)[i]? =some (cw p.ah v.Label):=fun i v hv hk=>by
  rw [nz,gh,hv];simp [hk]
 have hWok:=DL h ho hW
 have hWT:=(Jh hW.fl).1 hT
 obtain ⟨s,hs,hQ⟩:=j0 (B:=yK p) (fun s=>2*(2*MM p*(p.Vars.length+p.Funcs.length) - mu p s)+(if s.ch=true then 1 else 0))
  (fun s=>pA p W E s∧(∀ (i:Nat)(v:Var),p.Vars[i]? =some v→v.Known=true→s.V[i]? =some (cw p.ah v.Label))∧(s.ch=false→qK (MM p) s.V (asks p s.V s.F) p s.F))
  (fun s=>pA p W E s∧(∀ (i:Nat)(v:Var),p.Vars[i]? =some v→v.Known=true→s.V[i]? =some (cw p.ah v.Label))∧qK (MM p) s.V (asks p s.V s.F) p s.F) (by
   rintro s ⟨hb,hkn,hal⟩
   unfold yK
   cases hc:s.ch with
   | false=>
    rw [ab (by simp)]
    exact .inl ⟨s,rfl,hb,hkn,hal hc⟩
   | true=>
    rw [aa rfl]
    have hb2:pA p W E ⟨s.V,s.F,false⟩:=⟨hb.ok,hb.v,hb.f⟩
    have hlen:=HE h ho hb.ok
    obtain ⟨t,t1,t2,t3,t4⟩:=MW h ho hW (NR hb.v hb.f p) hb2 (DL h ho hb.ok) fun x hx=>⟨(hWok x hx).2,hWT x hx⟩
    rw [HX h ho hb.ok,ae,aa (by simp;omega)]
    refine .inr ⟨t,by rw [t1];rfl,⟨t2,fun i v hv hk=>(t3.kn i v hv hk).trans (hkn i v hv hk),fun hc2=>?_⟩,?_⟩
    ·obtain ⟨rfl,c⟩:=t4 hc2
     exact (Jh hb.ok.fl).2 c
    ·have m1:mu p ⟨s.V,s.F,false⟩=mu p s:=rfl
     have m2:=t3.mu
     have m3:mu p t≤2*MM p*(p.Vars.length+p.Funcs.length):=by
      have q1:=DH (MM p) t.V
      have q2:=DH (MM p) t.F
      rw [t2.ok.vl] at q1
      rw [t2.ok.fl] at q2
      unfold mu
      rw [Nat.mul_add];omega
     cases hc2:t.ch with
     | false=>simp only [bn,aI,an];omega
     | true=>
      have:=t3.ch hc2
      simp only [an]
      rcases this with h1 | h1
      ·cases h1
      ·omega) ⟨nz p,sM p,true⟩ ⟨b0,k0,fun hc=>by cases hc⟩
 refine ⟨⟨s.V,s.F⟩,?_,hQ.1.ok,hQ.2.2,hQ.1.v,hQ.1.f,hQ.2.1⟩
 unfold nm
 have e1:=D0 h ho hW h p.Vars [] fun v hv=>hv
 have e2:=Kf h ho hW h p.Funcs []
 rw [dX] at e1 e2
 rw [aa (by omega),e1,ae,e2,ae]
 show (lp (yK p) ⟨nz p,sM p,true⟩).bind _=_
 rw [hs];rfl
end
theorem MX{n:Nat}{x y:List Bool}(hx:x.length=n)(hy:y.length=n)(h:∀ k,k<n→on x k=on y k):x=y:=by
 apply CQ (by rw [hx,hy])
 intro k h1 h2
 have:=h k (by omega)
 unfold on at this
 rw [cp,cp,aA h1,aA h2] at this
 exact this
theorem OO{n:Nat}{a b:Level}(ha:bc n a)(hb:bc n b)(h:eX n a b)(h':eX n b a):a=b:=by
 have h:=le_iff.1 h
 have h':=le_iff.1 h'
 have e1:a.Readers=b.Readers:=MX ha.1 hb.1 fun k hk=>lH.2 ⟨(h' k hk).1,(h k hk).1⟩
 have e2:a.Writers=b.Writers:=MX ha.2 hb.2 fun k hk=>lH.2 ⟨(h k hk).2,(h' k hk).2⟩
 cases a;cases b
 simp only at e1 e2
 rw [e1,e2]
theorem MY{n:Nat}{V W:List Level}(hV:∀ l∈V,bc n l)(hW:∀ l∈W,bc n l)(h:uq n V W)(h':uq n W V):V=W:=by
 apply CQ h.1
 intro k h1 h2
 have q1:=aA h1
 have q2:=aA h2
 exact OO (hV _ (bY h1)) (hW _ (bY h2)) (h.2 k _ _ q1 q2) (h'.2 k _ _ q2 q1)
theorem Sd{p:Program}(h:oS p)(ho:Dy p):∃ m,na p=some m∧nm p=some m∧dx p m.Vars m.Funcs:=by
 obtain ⟨m,m1,m2,m3,m4⟩:=WI h ho
 have kn:∀ {m:aM},(∀ (i:Nat)(v:Var),p.Vars[i]? =some v→v.Known=true→m.Vars[i]? =some (cw p.ah v.Label))→∀ (i:Nat)(v:Var)(b:Level),p.Vars[i]? =some v→v.Known=true→m.Vars[i]? =some b→eX (MM p) (cw p.ah v.Label) b:=fun hm i v b hv hk hb=>by
  rw [hm i v hv hk] at hb;cases hb;exact le_refl _ _
 obtain ⟨r,r1,r2,r3,r4,r5,r6⟩:=WW h ho m2 (kn m4) m3
 obtain ⟨q,q1,q2,q3,q4,q5,q6⟩:=RS h ho r2 (kn r6) r3
 rw [m1] at q1
 obtain rfl:=ad q1
 have e1:=MY m2.vs r2.vs q4 r4
 have e2:=MY m2.fs r2.fs q5 r5
 refine ⟨m,m1,?_,m2⟩
 rw [r1]
 cases m;cases r
 simp only at e1 e2
 rw [e1,e2]
end Go.Proofs.YtkkkkondjclcnaaGreat.A
