/- Inputs and Events answer what the document says. -/
import Derived.Test.YtkkkkondjclcnaaGreatRLv
import Derived.Test.YtkkkkondjclcnaaGreatFN
set_option linter.all false
namespace Go.Proofs.YtkkkkondjclcnaaGreat.A
open Go
variable [Lp]
def im(p:Program)(v:Event):Int:=if v.Kind<1∨3<v.Kind then 7 else if v.Which<0∨((if v.Kind=1 then p.Outs.length else p.Vars.length:Nat):Int)≤v.Which then 5 else 0
theorem W7(p:Program)(v:Event):im p v=0∨im p v=5∨im p v=7:=by
 unfold im
 by_cases h1:v.Kind<1∨3<v.Kind
 ·exact .inr (.inr (ab h1))
 ·rw [ad h1]
  by_cases h2:v.Which<0∨((if v.Kind=1 then p.Outs.length else p.Vars.length:Nat):Int)≤v.Which
  ·exact .inr (.inl (ab h2))
  ·exact .inl (ad h2)
theorem W8{p:Program}{v:Event}(h:im p v=0):0≤v.Which∧v.Which<((if v.Kind=1 then p.Outs.length else p.Vars.length:Nat):Int):=by
 unfold im at h
 by_cases h1:v.Kind<1∨3<v.Kind
 ·rw [ab h1] at h;exact absurd h (by decide)
 ·rw [ad h1] at h
  by_cases h2:v.Which<0∨((if v.Kind=1 then p.Outs.length else p.Vars.length:Nat):Int)≤v.Which
  ·rw [ab h2] at h;exact absurd h (by decide)
  ·omega
def BQ(who:Int)(touch:Bool)(l:Level):Bool:=if touch then !on l.Writers who.toNat else on l.Readers who.toNat
theorem Jo{n:Nat}{who:Int}(touch:Bool){l:Level}(hl:bA n l)(h0:0≤who)(h1:who.toNat<n):oS l who touch=some (BQ who touch l):=by
 unfold oS BQ
 rw [dx h0]
 cases touch
 ·simp [fJ (row:=l.Readers) (k:=who.toNat) (by rw [hl.1];exact h1)]
 ·simp [fJ (row:=l.Writers) (k:=who.toNat) (by rw [hl.2];exact h1)]
theorem KG(p:Program)(v:Event):um p v=some (im p v):=by
 unfold um pP im
 by_cases h1:v.Kind<1
 ·simp [h1]
 ·by_cases h2:3<v.Kind
  ·simp [h1,h2]
  ·by_cases h3:v.Kind=1
   ·by_cases h4:v.Which<0
    ·simp [h3,h4]
    ·by_cases h5:(p.Outs.length:Int)≤v.Which<;>simp [h3,h4,h5]
   ·by_cases h4:v.Which<0
    ·simp [h1,h2,h3,h4]
    ·by_cases h5:(p.Vars.length:Int)≤v.Which<;>simp [h1,h2,h3,h4,h5]
section
variable {p:Program}(hb:p.Outs.length≤1000000∧p.Vars.length≤1000000)
include hb
theorem R4(l:List Event)(k:Nat)(h:k<l.length)(hl:l.length≤1048576):iY p l k=some (if im p l[k]=0 then .inl (k+1) else if im p l[k]=7 then .inr (.inr (.inl ())) else .inr (.inl ())):=by
 have hw:∀ n:Nat,n≤1000000→IntKind.i64.wrap ((n:Int) - 1)=(n:Int) - 1:=fun n hn=>wrap64 (by omega) (by omega)
 unfold iY na
 rw [ab (by omega),aB h,af,mU,af]
 unfold im
 generalize l[k]=v
 by_cases h1:1≤v.Kind∧v.Kind≤3
 ·rw [ab (by simpa using h1)]
  by_cases h3:v.Kind=1
  ·by_cases h5:0≤v.Which∧v.Which≤(p.Outs.length:Int) - 1
   ·simp [h3,mU,hw _ hb.1,h5,eQ k (by omega),show ¬v.Which<0 by omega,show ¬(p.Outs.length:Int)≤v.Which by omega]
   ·have h6:v.Which<0∨(p.Outs.length:Int)≤v.Which:=by omega
    simp [h3,mU,hw _ hb.1,h5,h6]
  ·have h7:¬(v.Kind<1∨3<v.Kind):=by omega
   by_cases h5:0≤v.Which∧v.Which≤(p.Vars.length:Int) - 1
   ·simp [h7,h3,mU,hw _ hb.2,h5,eQ k (by omega),show ¬v.Which<0 by omega,show ¬(p.Vars.length:Int)≤v.Which by omega]
   ·have h6:v.Which<0∨(p.Vars.length:Int)≤v.Which:=by omega
    simp [h7,h3,mU,hw _ hb.2,h5,h6]
 ·have h7:v.Kind<1∨3<v.Kind:=by omega
  rw [ad (by simpa using h1)]
  simp [h7]
theorem acA(l:List Event)(hl:l.length≤1048576):pQ p l=some (bg (im p) l):=by
 have key:∀ (rest:List Event)(k:Nat),l.drop k=rest→∃ x,lp (fun v=>iY p l v) k=some x∧(match x with | .inl _=>(5:Int) | .inr (.inl _)=>7 | .inr (.inr _)=>0)=bg (im p) rest:=by
  intro rest
  induction rest with
  | nil=>
   intro k hk
   have h:l.length≤k:=eW.1 hk
   exact ⟨.inr (.inr (k,false)),fc (by simp [iY,show ¬(k:Int)<(l.length:Int) by omega]),rfl⟩
  | cons e r ih=>
   intro k hk
   have h:k<l.length:=by
    have:=an List.length hk
    rw [gy,bu] at this;omega
   have he:l[k]=e∧l.drop (k+1)=r:=by
    rw [jt h] at hk;exact np hk
   have hr:=R4 hb l k h hl
   rw [he.1] at hr
   rw [kL]
   rcases W7 p e with h3 | h3 | h3
   ·rw [h3] at hr ⊢
    obtain ⟨x,x1,x2⟩:=ih (k+1) he.2
    exact ⟨x,by rw [lF (by simpa using hr)];exact x1,by rw [ad (by simp)];exact x2⟩
   ·rw [h3] at hr ⊢
    exact ⟨_,fc (by simpa using hr),rfl⟩
   ·rw [h3] at hr ⊢
    exact ⟨_,fc (by simpa using hr),rfl⟩
 obtain ⟨x,x1,x2⟩:=key l 0 rfl
 unfold pQ
 rw [x1,af,←x2]
 rcases x with _ | _ | _<;>rfl
end
theorem T6(l:List Int)(hl:l.length≤1048576):uu l l=some true:=by
 unfold uu
 rw [ad (by simp)]
 have q:=kO (B:=fun v=>lL l l v) l.length id (x:=.inr (l.length,false))
  (fun k hk=>by simp [lL,hk,eQ k (by omega)])
  (by simp [lL])
 have q':lp (fun v=>lL l l v) 0=_:=q
 rw [q',af]
theorem R5(l:List (List Int))(hl:l.length≤1048576)(hs:∀ x∈l,x.length≤1048576):sU l l=some true:=by
 unfold sU
 rw [ad (by simp)]
 have q:=kO (B:=fun v=>kr l l v) l.length id (x:=.inr (l.length,false))
  (fun k hk=>by simp [kr,hk,T6 _ (hs _ (cq hk)),eQ k (by omega)])
  (by simp [kr])
 have q':lp (fun v=>kr l l v) 0=_:=q
 rw [q',af]
theorem P8(l:List Event)(hl:l.length≤1048576):rQ l l=some true:=by
 unfold rQ
 rw [ad (by simp)]
 have q:=kO (B:=fun v=>jG l l v) l.length id (x:=.inr (l.length,false))
  (fun k hk=>by simp [jG,hk,eQ k (by omega)])
  (by simp [jG])
 have q':lp (fun v=>jG l l v) 0=_:=q
 rw [q',af]
structure VZ(p:Program)(who:Int)(touch:Bool)(m:gm):Prop where
 h:pJ p
 ho:EV p
 m1:lC p=some m
 m2:nD p=some m
 m3:eF p m.Vars m.Funcs
 w0:0≤who
 w1:who.toNat<MM p
section
variable {p:Program}{who:Int}{touch:Bool}{m:gm}(E:VZ p who touch m)
include E
theorem R6:uk p who touch=some ⟨p,m,who,touch⟩:=by
 unfold uk
 rw [E.m1,af]
theorem ahX{k:Nat}(hk:k<p.Ins.length):o9 ⟨p,m,who,touch⟩ (k:Int)=some (BQ who touch (cY p.aj p.Ins[k]))∧uq p who touch (k:Int)=some (BQ who touch (cY p.aj p.Ins[k])):=by
 have hf:=E.h.ins _ (cq hk)
 have hs:=Jo touch (sD p.aj p.Ins[k]) E.w0 E.w1
 constructor
 ·unfold o9
  simp only [Bg,af,aB hk,Mk _ E.h.dM _ hf]
  rw [show ik ⟨p,m,who,touch⟩ (cY p.aj p.Ins[k])=oS (cY p.aj p.Ins[k]) who touch from rfl,hs,af]
 ·unfold uq
  simp only [Bg,af,aB hk,zK _ E.h.dM _ hf,hs]
theorem T7{v:Event}(hv:im p v=0):∃ b,jE ⟨p,m,who,touch⟩ v=some b∧mC p m who touch v=some b:=by
 have h2:=W8 hv
 unfold jE mC
 by_cases h3:v.Kind=1
 ·rw [ab h3] at h2
  have hk:v.Which.toNat<p.Outs.length:=by omega
  have hf:=E.h.outs _ (cq hk)
  have hs:=Jo touch (sD p.aj p.Outs[v.Which.toNat]) E.w0 E.w1
  refine ⟨BQ who touch (cY p.aj p.Outs[v.Which.toNat]),?_,?_⟩
  ·rw [ab (by simpa using h3),dx (by omega),af,aB hk,af,Mk _ E.h.dM _ hf,af,show ik ⟨p,m,who,touch⟩ (cY p.aj p.Outs[v.Which.toNat])=oS (cY p.aj p.Outs[v.Which.toNat]) who touch from rfl,hs,af]
  ·rw [ab (by simpa using h3),dx (by omega),af,aB hk,af,zK _ E.h.dM _ hf,af,hs,af]
 ·rw [ad h3] at h2
  have hk:v.Which.toNat<m.Vars.length:=by rw [E.m3.vl];omega
  have hs:=Jo touch (E.m3.vs _ (cq hk)) E.w0 E.w1
  refine ⟨BQ who touch m.Vars[v.Which.toNat],?_,?_⟩
  ·rw [ad (by simpa using h3),dx (by omega),af,aB hk,af,show ik ⟨p,m,who,touch⟩ m.Vars[v.Which.toNat]=oS m.Vars[v.Which.toNat] who touch from rfl,hs,af]
  ·rw [ad (by simpa using h3),dx (by omega),af,aB hk,af,hs,af]
theorem acB(l:List Event)(hl:l.length≤1048576)(hv:∀ v∈l,im p v=0):∃ q,q.length≤1048576∧rP ⟨p,m,who,touch⟩ l=some q∧ur p who touch l=some q:=by
 have hx:∀ v:Event,∃ b,im p v=0→jE ⟨p,m,who,touch⟩ v=some b∧mC p m who touch v=some b:=fun v=>by
  by_cases h0:im p v=0
  ·obtain ⟨b,hb⟩:=T7 E h0
   exact ⟨b,fun _=>hb⟩
  ·exact ⟨false,fun hh=>absurd hh h0⟩
 obtain ⟨g,hg⟩:∃ g:Event→Bool,∀ v,im p v=0→jE ⟨p,m,who,touch⟩ v=some (g v)∧mC p m who touch v=some (g v):=⟨fun v=>(hx v).choose,fun v=>(hx v).choose_spec⟩
 have hlen:∀ k,((l.take k).filter g).length+1≤1000000000:=fun k=>by
  have:=za g (l.take k)
  rw [CE] at this;omega
 have hstep:∀ k (hk:k<l.length),(l.take (k+1)).filter g=if g l[k]=true then (l.take k).filter g++[l[k]] else (l.take k).filter g:=fun k hk=>by
  rw [wh hk,zb]
  by_cases hgk:g l[k]=true<;>simp [hgk]
 refine ⟨l.filter g,bQ (za _ _) hl,?_,?_⟩
 ·have q:=kO (B:=fun v=>jF ⟨p,m,who,touch⟩ l v.1 v.2) l.length (fun k=>((l.take k).filter g,k)) (x:=(l.filter g,l.length,false))
   (fun k hk=>by
    have e:=(hg _ (hv _ (cq hk))).1
    simp only [jF,show (k:Int)<(l.length:Int) by omega,aq,aB hk,af,e,hstep k hk,eQ k (by omega),ov,hlen k]
    by_cases hgk:g l[k]=true<;>simp [hgk])
   (by simp [jF])
  have q':lp (fun v=>jF ⟨p,m,who,touch⟩ l v.1 v.2) (([]:List Event),0)=_:=q
  unfold rP
  rw [q',af]
 ·have q:=kO (B:=fun v=>od p who touch l m v.1 v.2) l.length (fun k=>((l.take k).filter g,k)) (x:=(l.filter g,l.length,false))
   (fun k hk=>by
    have e:=(hg _ (hv _ (cq hk))).2
    simp only [od,show (k:Int)<(l.length:Int) by omega,aq,aB hk,af,e,hstep k hk,eQ k (by omega),ov,hlen k]
    by_cases hgk:g l[k]=true<;>simp [hgk])
   (by simp [od])
  have q':lp (fun v=>od p who touch l m v.1 v.2) (([]:List Event),0)=_:=q
  unfold ur
  rw [E.m2,af,q',af]
theorem R7(a3:List (List Int))(hl:a3.length=p.Ins.length)(hs:∀ x∈a3,x.length≤1048576)(l:List Event)(r1:List (List Int)×Int)(r3:List Event×Int)(w2:Int):∃ q,q.length≤1048576∧(∀ x∈q,x.length≤1048576)∧
  (∃ z,lp (fun v=>kq a3 ⟨p,m,who,touch⟩ v.1 v.2) (([]:List (List Int)),0)=some (q,z))∧∃ b z,lp (fun v=>fh p who touch a3 l r1 r3 0 w2 v.1 v.2) (([]:List (List Int)),0)=some (b,q,z):=by
 have hi:=E.ho.ins
 obtain ⟨g,hg⟩:∃ g:Nat→Bool,∀ k,k<p.Ins.length→o9 ⟨p,m,who,touch⟩ (k:Int)=some (g k)∧uq p who touch (k:Int)=some (g k):=
  ⟨fun k=>if hk:k<p.Ins.length then BQ who touch (cY p.aj p.Ins[k]) else false,fun k hk=>by simp only [dif_pos hk];exact ahX E hk⟩
 have hget:∀ k (hk:k<a3.length),a3[k]? =some (a3.getD k []):=fun k hk=>by rw [cb,aB hk,kt]
 have hsz:∀ k,(a3.getD k []).length≤1048576:=fun k=>by
  by_cases hk:k<a3.length
  ·rw [cb,aB hk];exact hs _ (cq hk)
  ·rw [cb,vM (by omega)];simp
 refine ⟨(List.range a3.length).map fun k=>if g k=true then a3.getD k [] else [],by simp;omega,fun x hx=>?_,?_,?_⟩
 ·obtain ⟨k,_,rfl⟩:=eH.1 hx
  split
  ·exact hsz k
  ·simp
 ·refine ⟨(a3.length,false),?_⟩
  have q:=kO (B:=fun v=>kq a3 ⟨p,m,who,touch⟩ v.1 v.2) a3.length (fun k=>((List.range k).map fun k=>if g k=true then a3.getD k [] else [],k)) (x:=((List.range a3.length).map fun k=>if g k=true then a3.getD k [] else [],a3.length,false))
   (fun k hk=>by
    have e:=(hg k (by omega)).1
    have hc:CY (a3.getD k [])=some (a3.getD k []):=ab (by have:=hsz k;omega)
    have h0:CY ([]:List Int)=some []:=ab (by simp)
    simp only [kq,oR,show (k:Int)<(a3.length:Int) by omega,aq,hget k hk,af,e,eQ k (by omega),hc,h0,dC,CJ,ov,show k+1≤1000000000 by omega,oA,cI,bZ,kB]
    by_cases hgk:g k=true<;>simp [hgk])
   (by simp [kq])
  exact q
 ·refine ⟨false,a3.length,?_⟩
  have q:=kO (B:=fun v=>fh p who touch a3 l r1 r3 0 w2 v.1 v.2) a3.length (fun k=>((List.range k).map fun k=>if g k=true then a3.getD k [] else [],k)) (x:=(false,(List.range a3.length).map fun k=>if g k=true then a3.getD k [] else [],a3.length))
   (fun k hk=>by
    have e:=(hg k (by omega)).2
    simp only [fh,show (k:Int)<(a3.length:Int) by omega,aq,hget k hk,af,e,eQ k (by omega),dC,CJ,ov,show k+1≤1000000000 by omega,oA,cI,bZ,kB]
    by_cases hgk:g k=true<;>simp [hgk])
   (by simp [fh])
  exact q
end
theorem P9{x:List (List Int)}{y:List Event}{e f:Int}{b:Bool}{z:Nat}(hx:x.length≤1048576)(hx2:∀ v∈x,v.length≤1048576)(hy:y.length≤1048576):mg (x,e) (y,f) e f (b,x,z) y=some true:=by
 simp [mg,tu,jH,wU,R5 x hx hx2,P8 y hy]
theorem KH(p:Program)(who:Int)(touch:Bool)(ins:List (List Int))(l:List Event)(hp:∀ f∈p.Funcs,f.Params.length≤9223372036854775807)(hi:∀ x∈ins,x.length≤1048576)(hl:l.length≤1048576):wV p who touch ins l=some true:=by
 have hc:=TM hp
 have hr:=ahO hp
 have stop:∀ (v w:Int)(r1:List (List Int)×Int)(r3:List Event×Int),v≠0→∃ b z,lp (fun x=>fh p who touch ins l r1 r3 v w x.1 x.2) (([]:List (List Int)),0)=some (b,[],z):=fun v w r1 r3 hv=>by
  by_cases h0:(0:Int)<(ins.length:Int)
  ·exact ⟨v==0,0,fc (by simp [fh,h0,hv])⟩
  ·exact ⟨false,0,fc (by simp [fh,show ¬0<ins.length by omega])⟩
 have bad:∀ v:Int,v≠0→hZ p who=some v→fO p who touch ins l ([],v) ([],v) v=some true∧jd p who touch ins=some ([],v)∧mB p who touch l=some ([],v):=fun v hv h=>by
  obtain ⟨b,z,hz⟩:=stop v v ([],v) ([],v) hv
  refine ⟨?_,?_,?_⟩
  ·unfold fO il jI
   simp [hv,hz,P9 (x:=[]) (y:=[]) (e:=v) (f:=v) (b:=b) (z:=z) (by simp) (by simp) (by simp)]
  ·unfold jd
   simp [h,hv]
  ·unfold mB
   simp [h,hv]
 unfold wV
 by_cases h0:sC p=0
 ·have h:=acg h0
  have ho:=Nv h0
  have hm:=I4 h.dM
  have hR:=j9 p.aj who (by omega)
  rw [hr,h0,hR]
  by_cases hw:bL p.aj.Many who=true
  ·obtain ⟨m,m1,m2,m3⟩:=R3 h ho
   have hw':0≤who∧who<p.aj.Many:=by unfold bL at hw;simpa using hw
   have E:VZ p who touch m:=⟨h,ho,m1,m2,m3,hw'.1,by unfold MM;omega⟩
   have hv:=ho.vars
   have hO:=ho.outs
   have hrd:hZ p who=some 0:=by
    unfold hZ
    simp [hc,h0,FG,hw]
   have hce:=acA (p:=p) ⟨by omega,by omega⟩ l hl
   obtain ⟨x,x1,x2,x3⟩:=Hj (B:=fun v=>m9 p who touch l v) l (im p)
    (fun k hk=>by
     simp only [m9,show (k:Int)<(l.length:Int) by omega,aq,aB hk,af,KG,eQ k (by omega)]
     by_cases hz:im p l[k]=0<;>simp [hz])
    ⟨(l.length,false),by simp [m9]⟩
   obtain ⟨y,y1,y2,y3⟩:∃ y:List Event,y.length≤1048576∧mB p who touch l=some (y,bg (im p) l)∧(if bg (im p) l=0 then ur p who touch l=some y else y=[]):=by
    unfold mB
    rw [hrd,af,ad (by simp),x1,af]
    by_cases he:bg (im p) l=0
    ·have hv0:=fun v hv=>mq he v hv
     obtain ⟨q,q1,q2,q3⟩:=acB E l hl hv0
     obtain ⟨z,rfl⟩:=x3 he
     refine ⟨q,q1,?_,by rw [ab he];exact q3⟩
     simp [R6 E,q2,he]
    ·refine ⟨[],by simp,?_,by rw [ad he]⟩
     rcases x with x | x
     ·rw [←x2];rfl
     ·exact absurd x2.symm he
   rw [y2]
   by_cases hn:ins.length=p.Ins.length
   ·obtain ⟨q,q1,q2,⟨z,q3⟩,q4⟩:=R7 E ins hn hi l ([],0) ([],0) 0
    have hin:jd p who touch ins=some (q,0):=by
     unfold jd
     simp [hrd,hn,R6 E,q3]
    obtain ⟨q',q1',q2',⟨z',q3'⟩,b,z2,q4'⟩:=R7 E ins hn hi l (q,0) (y,bg (im p) l) (bg (im p) l)
    obtain rfl:q=q':=(eJ (aa (q3.symm.trans q3'))).1
    have hd:=P9 (x:=q) (y:=y) (e:=0) (f:=bg (im p) l) (b:=b) (z:=z2) q1 q2 y1
    rw [hin]
    unfold fO il jI
    by_cases he:bg (im p) l=0
    ·rw [ab he] at y3
     simp only [he] at hd q4' hce ⊢
     simp [hw,hn,hce,q4',y3,hd]
    ·rw [ad he] at y3
     subst y3
     simp [hw,hn,hce,q4',he,hd]
   ·have hin:jd p who touch ins=some ([],1):=by
     unfold jd
     have hn':¬(ins.length:Int)=(p.Ins.length:Int):=by omega
     simp [hrd,hn,hn']
    obtain ⟨b,z,hz⟩:=stop 1 (bg (im p) l) ([],1) (y,bg (im p) l) (by decide)
    have hd:=P9 (x:=[]) (y:=y) (e:=1) (f:=bg (im p) l) (b:=b) (z:=z) (by simp) (by simp) y1
    rw [hin]
    have hn':¬(ins.length:Int)=(p.Ins.length:Int):=by omega
    unfold fO il jI
    by_cases he:bg (im p) l=0
    ·rw [ab he] at y3
     simp only [he] at hd hz hce ⊢
     simp [hw,hn,hn',hce,hz,y3,hd]
    ·rw [ad he] at y3
     subst y3
     simp [hw,hn,hn',hce,hz,he,hd]
  ·have hrd:hZ p who=some 5:=by
    unfold hZ
    simp [hc,h0,FG,hw]
   obtain ⟨b1,b2,b3⟩:=bad 5 (by decide) hrd
   rw [b2,b3]
   simp [hw,b1]
 ·have hrd:hZ p who=some (sC p):=by
   unfold hZ
   simp [hc,h0]
  obtain ⟨b1,b2,b3⟩:=bad _ h0 hrd
  rw [b2,b3,hr]
  simp [h0,b1]
end Go.Proofs.YtkkkkondjclcnaaGreat.A
