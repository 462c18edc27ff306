/- The document's machine does one step after the other as plain mathematics says: its parts. -/
import Derived.Test.YtndeklbmglgonaaGreatRunP
import Derived.Test.YtndeklbmglgonaaGreatPrgR
import Derived.Test.YtndeklbmglgonaaGreatD
import Derived.Test.YtndeklbmglgonaaGreatRunL
set_option linter.unusedSectionVars false
set_option linter.unusedVariables false
set_option linter.unusedSimpArgs false
set_option linter.constructorNameAsVariable false
namespace Go.Proofs.YtndeklbmglgonaaGreat.A
open Go
variable [Lp]
theorem D8{w:Int}(h1 : -4611686018427387904≤w)(h2:w≤4611686018427387904):qx w=some (xL w):=by
 have ht:w.tmod 4294967296=if 0≤w then w % 4294967296 else -((-w) % 4294967296):=by
  by_cases h:0≤w
  ·rw [if_pos h,Int.tmod_eq_emod_of_nonneg h]
  ·rw [if_neg h]
   have:=Int.neg_tmod (-w) 4294967296
   rw [Int.neg_neg] at this
   rw [this,Int.tmod_eq_emod_of_nonneg (by omega)]
 unfold qx qN
 rw [ht]
 have hw:xL w=(w+2147483648) % 4294967296 - 2147483648:=by
  simp [xL,IntKind.wrap,IntKind.bits,IntKind.signed];omega
 rw [hw]
 generalize hr:(if 0≤w then w % 4294967296 else -((-w) % 4294967296))=r
 have hb : -4294967296<r∧r<4294967296:=by split at hr<;>omega
 by_cases h0:r<0
 ·rw [if_pos h0,if_pos (dq (by omega) (by omega))]
  by_cases h3:2147483647<r+4294967296
  ·rw [if_pos h3,if_pos (dq (by omega) (by omega)),Option.bind_some]
   congr 1;split at hr<;>omega
  ·rw [if_neg h3,Option.bind_some]
   congr 1;split at hr<;>omega
 ·rw [if_neg h0]
  by_cases h3:2147483647<r
  ·rw [if_pos h3,if_pos (dq (by omega) (by omega)),Option.bind_some]
   congr 1;split at hr<;>omega
  ·rw [if_neg h3,Option.bind_some]
   congr 1;split at hr<;>omega
theorem KV{vs:List Int}(hv:∀ x∈vs,dk x=true)(n:Nat):∀ (e:ag),sz e≤n→(∀ x∈fi e,df vs.length x=0)→(oG n).f_R_ValueOf e vs=some (bK vs e):=by
 induction n with
 | zero=>intro e h;have:=ou e;omega
 | succ n ih=>
  intro e h hok
  show pS (oG n) e vs=_
  unfold pS qy
  have hp:df vs.length e=0:=hok e (by rw [sv];simp)
  obtain ⟨p1,p2,p3,p4,p5⟩:=AM hp
  rw [Dv,AK]
  unfold Jy
  by_cases k1:e.Kind=1
  ·rw [if_pos (by simp [k1]),if_pos k1]
  rw [if_neg (by simp [k1]),if_neg k1]
  by_cases k2:e.Kind=2
  ·have h3:=p5 k2
   have h4:e.N.toNat<vs.length:=by omega
   rw [if_pos (by simp [k2]),if_pos k2,cQ h3.1,Option.bind_some,List.getElem?_eq_getElem h4,List.getD_eq_getElem?_getD,List.getElem?_eq_getElem h4];rfl
  rw [if_neg (by simp [k2]),if_neg k2]
  have hl:e.Args.length=2:=by rw [p2,if_pos (by omega)]
  have h0:0<e.Args.length:=by omega
  have h1:1<e.Args.length:=by omega
  have g0:=ov h0
  have g1:=ov h1
  have q0:∀ x∈fi e.Args[0],df vs.length x=0:=fun x hx=>hok x (vT h0 hx)
  have q1:∀ x∈fi e.Args[1],df vs.length x=0:=fun x hx=>hok x (vT h1 hx)
  have n0:=sA hv _ e.Args[0] (Nat.le_refl _) q0
  have n1:=sA hv _ e.Args[1] (Nat.le_refl _) q1
  rw [List.getElem?_eq_getElem h0,Option.bind_some,ih _ (by omega) q0,Option.bind_some,List.getElem?_eq_getElem h1,Option.bind_some,ih _ (by omega) q1,Option.bind_some]
  have e0:(e.Args.map (bK vs)).getD 0 0=bK vs e.Args[0]:=by rw [List.getD_eq_getElem?_getD,List.getElem?_map,List.getElem?_eq_getElem h0];rfl
  have e1:(e.Args.map (bK vs)).getD 1 0=bK vs e.Args[1]:=by rw [List.getD_eq_getElem?_getD,List.getElem?_map,List.getElem?_eq_getElem h1];rfl
  rw [e0,e1]
  generalize bK vs e.Args[0]=a at *
  generalize bK vs e.Args[1]=b at *
  have hm:=H6 n0 n1
  rw [A9] at n0 n1
  by_cases k3:e.Kind=3
  ·rw [if_pos (by simp [k3]),if_pos k3,if_pos (dq (by omega) (by omega)),D8 (by omega) (by omega)];rfl
  rw [if_neg (by simp [k3]),if_neg k3]
  by_cases k4:e.Kind=4
  ·rw [if_pos (by simp [k4]),if_pos k4,if_pos (dq (by omega) (by omega)),D8 (by omega) (by omega)];rfl
  rw [if_neg (by simp [k4]),if_neg k4]
  by_cases k5:e.Kind=5
  ·rw [if_pos (by simp [k5]),if_pos k5,if_pos (dq (by omega) (by omega)),D8 (by omega) (by omega)];rfl
  rw [if_neg (by simp [k5]),if_neg k5]
  by_cases k6:e.Kind=6
  ·have k7:¬e.Kind=7:=by omega
   by_cases hab:a<b<;>simp [k6,hab]
  have k7:e.Kind=7:=by omega
  by_cases hab:a=b<;>simp [k7,hab]
theorem JO{vs:List Int}{e:ag}(hv:∀ x∈vs,dk x=true)(hok:∀ x∈fi e,df vs.length x=0):kq e vs=some (bK vs e):=
 m7 (sz e) fun n hn=>KV hv n e hn hok
theorem zr{X:Ctx}{k:Int}{r:RunT}(h:Valid X k r){e:ag}(he:bQ X.p e=0):kq e r.Vars=some (bK r.Vars e)∧dk (bK r.Vars e)=true:=by
 have h1:=F6 he
 rw [←h.vars] at h1
 exact ⟨JO h.nums h1,sA h.nums _ e (Nat.le_refl _) h1⟩
theorem QI(n:Nat):∀ (l:List Stmt),cC l+1≤n→aZ l≤1000→(ph n).f_R_Count l=some (aZ l:Int):=by
 induction n with
 | zero=>intro l h;omega
 | succ n ih=>
  intro l h1 h2
  show sm (ph n) l=_
  unfold sm
  have hlen:=jh l
  obtain ⟨x,hx,hQ⟩:=de (B:=fun v=>qM (ph n) l v.1 v.2) (fun v=>l.length - v.2)
   (fun v=>v.2≤l.length∧v.1=aZ (l.take v.2)) (fun x=>x.1=aZ l) (by
    rintro ⟨m,k⟩ ⟨hk,he⟩
    simp only at hk he ⊢
    unfold qM
    by_cases hlt:k<l.length
    ·have g1:=mK (List.getElem_mem hlt)
     have g2:=o9 (List.getElem_mem hlt)
     have g3:=mJ l[k]
     have g4:=lE l[k]
     have g5:=nI hlt
     have g6:=mS l (k+1)
     rw [if_pos (show (k:Int)<(l.length:Int) by omega),List.getElem?_eq_getElem hlt,Option.bind_some]
     generalize l[k]=s at *
     rw [ih _ (by omega) (by omega),Option.bind_some,if_pos (dq (by omega) (by omega)),ih _ (by omega) (by omega),Option.bind_some,if_pos (dq (by omega) (by omega)),if_pos (dq (by omega) (by omega)),if_pos (dz (by omega))]
     exact .inr ⟨_,rfl,⟨by simp only;omega,by simp only;omega⟩,by simp only;omega⟩
    ·rw [if_neg (show ¬(k:Int)<(l.length:Int) by omega)]
     rw [List.take_of_length_le (by omega)] at he
     exact .inl ⟨_,rfl,he⟩) (0,0) ⟨Nat.zero_le _,by simp [aZ]⟩
  rw [hx,Option.bind_some,hQ]
theorem v8{l:List Stmt}(h:aZ l≤1000):pj l=some (aZ l:Int):=m7 (cC l+1) fun n hn=>QI n l hn h
def lQ(l:List Func):Nat:=(l.map fun f=>aZ f.Body).sum
theorem JP(f:Func)(l:List Func):lQ (f::l)=aZ f.Body+lQ l:=by simp [lQ]
theorem CZ:∀ (l:List Func)(n:Int)(k:Nat),k≤l.length→nth (cU n l) k=n+lQ (l.take k)
 | [],n,k,h=>by
  obtain rfl:k=0:=by simpa using h
  simp [nth,cU,lQ]
 | f::l,n,0,_=>by simp [nth,cU,lQ]
 | f::l,n,k+1,h=>by
  have:=CZ l (n+aZ f.Body) k (by simpa using h)
  simp only [nth,Int.toNat_natCast] at this ⊢
  rw [cU,List.getD_cons_succ,this,List.take_succ_cons,JP];omega
theorem C0{X:Ctx}(hX:pf X){k:Int}(h0:0≤k)(h:k≤X.p.Funcs.length):lH X.p k=some (nth X.first k):=by
 obtain ⟨j,rfl⟩:∃ j:Nat,k=(j:Int):=⟨k.toNat,by omega⟩
 have hj:j≤X.p.Funcs.length:=by omega
 have hs:=hX.ok.sum
 have hf:=hX.ok.funcs
 rw [hX.first,CZ _ _ _ hj]
 unfold lH
 have hsum:∀ i,lQ (X.p.Funcs.take i)≤50:=fun i=>by
  have:lQ (X.p.Funcs.take i)+lQ (X.p.Funcs.drop i)=lQ X.p.Funcs:=by
   unfold lQ;rw [←List.sum_append,←List.map_append,List.take_append_drop]
  unfold lQ at this ⊢;omega
 obtain ⟨x,hx,hQ⟩:=de (B:=fun v=>oU X.p (j:Int) v.1 v.2) (fun v=>j - v.2) (fun v=>v.2≤j∧v.1=lQ (X.p.Funcs.take v.2)) (fun x=>x.1=lQ (X.p.Funcs.take j)) (by
  rintro ⟨n,i⟩ ⟨hi,he⟩
  simp only at hi he ⊢
  unfold oU
  by_cases hlt:i<j
  ·have hlf:i<X.p.Funcs.length:=by omega
   have g1:=hX.ok.few _ (List.getElem_mem hlf)
   have g2:lQ (X.p.Funcs.take (i+1))=lQ (X.p.Funcs.take i)+aZ X.p.Funcs[i].Body:=by
    rw [take_one hlf];unfold lQ;rw [List.map_append,List.sum_append];simp
   have g3:=hsum (i+1)
   rw [if_pos (show (i:Int)<(j:Int) by omega),List.getElem?_eq_getElem hlf,Option.bind_some,v8 (by omega),Option.bind_some,if_pos (dq (by omega) (by omega)),if_pos (dz (by omega))]
   exact .inr ⟨_,rfl,⟨by simp only;omega,by simp only;omega⟩,by simp only;omega⟩
  ·rw [if_neg (show ¬(i:Int)<(j:Int) by omega)]
   obtain rfl:i=j:=by omega
   exact .inl ⟨_,rfl,he⟩) (0,0) ⟨Nat.zero_le _,by simp [lQ]⟩
 rw [hx,Option.bind_some,hQ];simp
def di:List Stmt→Int→List Task
 | [],_=>[]
 | s::l,a=>⟨0,a,s,0⟩::di l (a+eh s)
theorem kO:∀ (l:List Stmt)(a:Int),(di l a).length=l.length
 | [],_=>rfl
 | s::l,a=>by rw [di,List.length_cons,kO l,List.length_cons]
theorem C1:∀ (l:List Stmt)(s:Stmt)(a:Int),di (l++[s]) a=di l a++[⟨0,a+aZ l,s,0⟩]
 | [],s,a=>by simp [di,aZ]
 | x::l,s,a=>by
  rw [List.cons_append,di,C1 l s,di,aZ,List.cons_append]
  have:a + ↑(eh x) + ↑(aZ l)=a + ↑(eh x+aZ l):=by omega
  rw [this]
def mR(X:Ctx)(r:RunT)(ts:List Task)(lv pl:List Level):Machine:=⟨X.p,X.ins,X.fuel,r,ts,(),lv,pl⟩
theorem vd{m:Machine}{l:List Stmt}{a:Int}(hc:aZ l≤50)(h0:0≤a)(h1:a≤1000)(ht:m.Tasks.length≤100000000) :
  eo m l a=some ⟨m.P,m.Ins,m.Fuel,m.R,m.Tasks++(di l a).reverse,(),m.Levels,m.Places⟩:=by
 have hlen:=jh l
 unfold eo
 obtain ⟨x,hx,hQ⟩:=de (B:=fun v=>jW m l v.1 v.2.1 v.2.2) (fun v=>l.length - v.2.2) (fun v=>v.2.2≤l.length∧v.1=a+aZ (l.take v.2.2)∧v.2.1=di (l.take v.2.2) a) (fun x=>x.2.1=di l a) (by
  rintro ⟨b,out,k⟩ ⟨hk,hb,ho⟩
  simp only at hk hb ho ⊢
  unfold jW
  by_cases hlt:k<l.length
  ·have g1:=mK (List.getElem_mem hlt)
   have g3:=mJ l[k]
   have g5:=nI hlt
   have g6:=mS l (k+1)
   have g7:=C1 (l.take k) l[k] a
   rw [←take_one hlt] at g7
   have g8:=kO (l.take k) a
   rw [List.length_take] at g8
   rw [if_pos (show (k:Int)<(l.length:Int) by omega),List.getElem?_eq_getElem hlt,Option.bind_some,if_pos (by rw [ho,g8];simp;omega)]
   generalize l[k]=s at *
   rw [v8 (by omega),Option.bind_some,if_pos (dq (by omega) (by omega)),v8 (by omega),Option.bind_some,if_pos (dq (by omega) (by omega)),if_pos (dq (by omega) (by omega)),if_pos (dz (by omega))]
   exact .inr ⟨_,rfl,⟨by simp only;omega,by simp only;omega,by simp only;rw [g7,ho,hb]⟩,by simp only;omega⟩
  ·rw [if_neg (show ¬(k:Int)<(l.length:Int) by omega)]
   rw [List.take_of_length_le (by omega)] at ho
   exact .inl ⟨_,rfl,ho⟩) (a,[],0) ⟨Nat.zero_le _,by simp [aZ],by simp [di]⟩
 rw [hx,Option.bind_some]
 obtain ⟨x1,out,x3,x4⟩:=x
 simp only at hQ ⊢
 have hol:out.length=l.length:=by rw [hQ,kO]
 rw [if_pos (dq (by omega) (by omega)),←hQ]
 obtain ⟨y,hy,hQ2⟩:=de (B:=fun v=>jX m (x1,out,x3,x4) v.1 v.2) (fun v=>(v.1+1).toNat) (fun v=>-1≤v.1∧v.1<out.length∧v.2=m.Tasks++(out.drop (v.1+1).toNat).reverse) (fun y=>y.2.2=m.Tasks++out.reverse) (by
  rintro ⟨i,ts⟩ ⟨h2,h3,h4⟩
  simp only at h2 h3 h4 ⊢
  unfold jX
  by_cases hi:0≤i
  ·have hlt:i.toNat<out.length:=by omega
   have e1:(i+1).toNat=i.toNat+1:=by omega
   rw [e1] at h4
   rw [if_pos hi,cQ hi,Option.bind_some]
   simp only
   rw [List.getElem?_eq_getElem hlt,Option.bind_some,if_pos (by rw [h4];simp;omega),if_pos (dq (by omega) (by omega))]
   refine .inr ⟨_,rfl,⟨by simp only;omega,by simp only;omega,?_⟩,by simp only;omega⟩
   simp only
   rw [show i - 1+1=i by omega,h4,List.drop_eq_getElem_cons hlt,List.reverse_cons,List.append_assoc]
  ·rw [if_neg hi]
   have e1:(i+1).toNat=0:=by omega
   rw [e1,List.drop_zero] at h4
   exact .inl ⟨_,rfl,h4⟩) ((out.length:Int) - 1,m.Tasks) ⟨by simp only;omega,by simp only;omega,by
    simp only
    rw [show ((out.length:Int) - 1+1).toNat=out.length by omega,List.drop_length];simp⟩
 rw [hy,Option.bind_some,hQ2]
theorem Ib{X:Ctx}{k:Int}{r:RunT}(h:Valid X k r){e:ag}(he:bQ X.p e=0)(ts:List Task)(lv pl:List Level):jk (mR X r ts lv pl) e=some (bK r.Vars e !=0):=by
 unfold jk
 simp only [mR]
 rw [(zr h he).1];rfl
theorem X1{X:Ctx}(hX:pf X){i:Nat}(hi:i≤X.p.Funcs.length){s:Stmt}(hs:bA X.p i s=0)(hk:s.Kind=2){r:RunT}(h:Valid X 0 r){t:Task}(ht:t.S=s)(ts:List Task)(lv pl:List Level) :
  ll (mR X r ts lv pl) t=some (mR X (s5 X s r) ts lv pl):=by
 subst ht
 obtain ⟨c1,c2,c3,c4,c5,_⟩:=called hX hi hs hk
 obtain ⟨f1,f2,f3,f4⟩:=zo c4
 obtain ⟨o1,o2,o3,o4,o5,o6⟩:=nB hs
 have v1:=o2 (by rw [hk];rfl)
 have hv:=h.vars
 unfold ll
 rw [cQ c1,Option.bind_some]
 simp only [mR]
 rw [c3,Option.bind_some,(zr h f4).1,Option.bind_some,cQ v1.1,Option.bind_some,getD_some v1.1 (by omega),Option.bind_some]
 rfl
theorem X2{X:Ctx}(hX:pf X){i:Nat}(hi:i≤X.p.Funcs.length){s:Stmt}(hs:bA X.p i s=0)(hk:s.Kind=2){r:RunT}(h:Valid X 1 r)(tk ta tp:Int)(ts:List Task)(lv pl:List Level)(hts:ts.length≤10000000) :
  lq (mR X r ts lv pl) ⟨tk,ta,s,tp⟩=some (mR X (mM X s r) (ts++[⟨2,ta,s,0⟩]++(di (dK X s).Body (nth X.first s.Other)).reverse) lv pl):=by
 obtain ⟨c1,c2,c3,c4,c5,c6,c7⟩:=called hX hi hs hk
 obtain ⟨f1,f2,f3,f4⟩:=zo c4
 obtain ⟨o1,o2,o3,o4,o5,o6⟩:=nB hs
 unfold lq mR
 dsimp only
 rw [cQ c1,Option.bind_some]
 rw [c3,Option.bind_some]
 obtain ⟨x,hx,hQ⟩:=de (B:=fun v=>jY ⟨X.p,X.ins,X.fuel,r,ts,(),lv,pl⟩ ⟨tk,ta,s,tp⟩ (dK X s) v.1 v.2) (fun v=>s.Args.length - v.2) (fun v=>v.2≤s.Args.length∧v.1=(s.Args.take v.2).map (bK r.Vars))
  (fun x=>x.1=s.Args.map (bK r.Vars)) (by
   rintro ⟨l,k⟩ ⟨hk',he⟩
   simp only at hk' he ⊢
   unfold jY
   by_cases hlt:k<s.Args.length
   ·rw [if_pos (show (k:Int)<((dK X s).Params.length:Int) by omega)]
    dsimp only
    rw [List.getElem?_eq_getElem hlt,Option.bind_some]
    obtain ⟨q1,q2⟩:=zr h (o6 _ (List.getElem_mem hlt))
    rw [q1,Option.bind_some,if_pos (by rw [he,List.length_map,List.length_take];simp only [List.length_singleton];omega),if_pos (dz (by omega))]
    refine .inr ⟨_,rfl,⟨by simp only;omega,?_⟩,by simp only;omega⟩
    simp only
    rw [he,take_one hlt,List.map_append];rfl
   ·rw [if_neg (show ¬(k:Int)<((dK X s).Params.length:Int) by omega)]
    rw [List.take_of_length_le (by omega)] at he
    exact .inl ⟨_,rfl,he⟩) ([],0) ⟨Nat.zero_le _,by simp⟩
 rw [hx,Option.bind_some]
 obtain ⟨l,k1,k2⟩:=x
 simp only at hQ
 subst hQ
 have hvl:(s.Args.map (bK r.Vars)).length=(dK X s).Params.length:=by rw [List.length_map,c5]
 unfold mM
 generalize s.Args.map (bK r.Vars)=vals at *
 obtain ⟨x,hx2,hQ2⟩:=de (B:=fun v=>jZ ⟨X.p,X.ins,X.fuel,r,ts,(),lv,pl⟩ ⟨tk,ta,s,tp⟩ (dK X s) (vals,k1,k2) v.1 v.2) (fun v=>(dK X s).Params.length - v.1)
  (fun v=>v.1≤(dK X s).Params.length∧v.2.length=X.p.Vars.length∧oj r.Vars (dK X s).Params vals=oj v.2 ((dK X s).Params.drop v.1) (vals.drop v.1))
  (fun x=>x.2.2=oj r.Vars (dK X s).Params vals) (by
   rintro ⟨k,vs⟩ ⟨hk',hl',he⟩
   simp only at hk' hl' he ⊢
   unfold jZ
   by_cases hlt:k<(dK X s).Params.length
   ·have hlt2:k<vals.length:=by omega
    rw [List.drop_eq_getElem_cons hlt,List.drop_eq_getElem_cons hlt2,oj] at he
    have hp:=f2 _ (List.getElem_mem hlt)
    rw [if_pos (show (k:Int)<((dK X s).Params.length:Int) by omega),List.getElem?_eq_getElem hlt,Option.bind_some]
    simp only
    rw [List.getElem?_eq_getElem hlt2,Option.bind_some,cQ hp.1,Option.bind_some,List.getElem?_eq_getElem (by omega),Option.bind_some,if_pos (dz (by omega))]
    exact .inr ⟨_,rfl,⟨by simp only;omega,by simp only [List.length_set];exact hl',he⟩,by simp only;omega⟩
   ·rw [if_neg (show ¬(k:Int)<((dK X s).Params.length:Int) by omega)]
    rw [List.drop_eq_nil_of_le (by omega),F8] at he
    exact .inl ⟨_,rfl,he.symm⟩) (0,r.Vars) ⟨Nat.zero_le _,h.vars,rfl⟩
 rw [hx2,Option.bind_some]
 have hlen:ts.length + [(⟨2,ta,s,0⟩:Task)].length≤1000000000:=by simp;omega
 obtain ⟨_,g2,g3⟩:=s6 hX (k:=s.Other) c1 (by omega)
 split
 ·rw [C0 hX c1 (by omega),Option.bind_some,hQ2,vd c6 g2 (by omega) (by simp;omega)]
  rfl
 ·rename_i hn
  exact absurd hlen hn
variable [Lp]
theorem QJ{X:Ctx}(hX:pf X){i:Int}{s:Stmt}(hs:bA X.p i s=0)(hk:s.Kind≠2∧s.Kind<7){r:RunT}(h:Valid X 1 r)(tk ta tp:Int)(ts:List Task)(lv pl:List Level) :
  eG (mR X r ts lv pl) ⟨tk,ta,s,tp⟩=some (mR X (wD X s ta r) ts lv pl):=by
 obtain ⟨o1,o2,o3,o4,o5,o6⟩:=nB hs
 have hf:=hX.fuel
 have hst:=h.steps
 have hlen:=h.vars
 have hev:((r.Events.length:Int)+1≤2000):=by have:=h.evs;omega
 unfold eG mR wD
 dsimp only
 rw [if_neg (show ¬(s.Kind==2)=true by simp [hk.1]),if_neg (show ¬(s.Kind==7)=true by simp;omega),if_neg (show ¬(s.Kind==8)=true by simp;omega)]
 unfold lP
 rw [Option.bind_some,if_pos rfl]
 have d4:∀ (w:Int)(tks:List Int),(s.Kind≠4→0≤s.Var∧s.Var<X.p.Vars.length)→∃ z,eO ⟨X.p,X.ins,X.fuel,r,ts,(),lv,pl⟩ ⟨tk,ta,s,tp⟩ w tks=some z∧
   (match z with
    | .inl y=>(⟨X.p,X.ins,X.fuel,(⟨y.1,y.2.1,y.2.2,r.Steps,r.End,r.Stop⟩:RunT),ts,(),lv,pl⟩:Machine)
    | .inr y=>⟨X.p,X.ins,X.fuel,(⟨r.Events,y.2.1,y.2.2,r.Steps,r.End,r.Stop⟩:RunT),ts,(),lv,pl⟩)=
   mR X (if s.Kind=4 then ⟨r.Events++[⟨1,ta,s.Other,w⟩],r.Vars,tks,r.Steps,r.End,r.Stop⟩ else if s.Kind=5 then ⟨r.Events++[⟨2,ta,s.Var,w⟩],r.Vars.set s.Var.toNat w,tks,r.Steps,r.End,r.Stop⟩ else if s.Kind=6 then ⟨r.Events++[⟨3,ta,s.Var,w⟩],r.Vars.set s.Var.toNat w,tks,r.Steps,r.End,r.Stop⟩ else ⟨r.Events,r.Vars.set s.Var.toNat w,tks,r.Steps,r.End,r.Stop⟩) ts lv pl:=by
  intro w tks hv
  unfold eO
  dsimp only
  by_cases k4:s.Kind=4
  ·rw [if_neg (show ¬(s.Kind !=4)=true by simp [k4])]
   unfold ig
   simp only [List.length_singleton]
   rw [if_pos (show (s.Kind==4)=true by simp [k4]),if_pos (show r.Events.length+1≤1000000000 by omega),Option.bind_some,if_pos k4]
   exact ⟨_,rfl,rfl⟩
  ·have v1:=hv k4
   rw [if_pos (show (s.Kind !=4)=true by simp [k4]),cQ v1.1,Option.bind_some,getD_some v1.1 (by omega),Option.bind_some,if_neg k4]
   unfold ig
   simp only [List.length_singleton]
   rw [if_neg (show ¬(s.Kind==4)=true by simp [k4])]
   by_cases k5:s.Kind=5
   ·rw [if_pos (show (s.Kind==5)=true by simp [k5]),if_pos (show r.Events.length+1≤1000000000 by omega),Option.bind_some,if_pos k5]
    exact ⟨_,rfl,rfl⟩
   rw [if_neg (show ¬(s.Kind==5)=true by simp [k5]),if_neg k5]
   by_cases k6:s.Kind=6
   ·rw [if_pos (show (s.Kind==6)=true by simp [k6]),if_pos (show r.Events.length+1≤1000000000 by omega),Option.bind_some,if_pos k6]
    exact ⟨_,rfl,rfl⟩
   rw [if_neg (show ¬(s.Kind==6)=true by simp [k6]),if_neg k6,Option.bind_some]
   exact ⟨_,rfl,rfl⟩
 by_cases k3:s.Kind=3
 ·have v1:=o2 (by rw [k3];rfl)
  have v2:=o3 (by rw [k3];rfl)
  have e3:eF X.p i s.Kind=X.p.Ins.length:=by rw [k3];rfl
  rw [e3] at v2
  have hi:=hX.ins
  have ht:=h.taken
  obtain ⟨n1,n2⟩:=hX.nums _ (F7 (l:=X.ins) v2.1 (by omega))
  have n3:=h.tks _ (zq (l:=r.Taken) v2.1 (by omega))
  have d3:∀ w,fB ⟨X.p,X.ins,X.fuel,r,ts,(),lv,pl⟩ ⟨tk,ta,s,tp⟩ w=some (w,r.Taken.set s.Other.toNat (nth r.Taken s.Other+1)):=by
   intro w
   unfold fB
   dsimp only
   rw [cQ v2.1,Option.bind_some,getD_some v2.1 (by omega),Option.bind_some,if_pos (dq (by omega) (by omega))]
  have fin:∀ w,((fB ⟨X.p,X.ins,X.fuel,r,ts,(),lv,pl⟩ ⟨tk,ta,s,tp⟩ w).bind fun (x:Int×List Int)=>(eO ⟨X.p,X.ins,X.fuel,r,ts,(),lv,pl⟩ ⟨tk,ta,s,tp⟩ x.1 x.2).bind fun (x:((List Event)×(List Int)×(List Int))⊕(Int×(List Int)×(List Int)))=>match x with
    | .inl y=>some (⟨X.p,X.ins,X.fuel,(⟨y.1,y.2.1,y.2.2,r.Steps,r.End,r.Stop⟩:RunT),ts,(),lv,pl⟩:Machine)
    | .inr y=>some ⟨X.p,X.ins,X.fuel,(⟨r.Events,y.2.1,y.2.2,r.Steps,r.End,r.Stop⟩:RunT),ts,(),lv,pl⟩)=some (mR X ⟨r.Events,r.Vars.set s.Var.toNat w,r.Taken.set s.Other.toNat (nth r.Taken s.Other+1),r.Steps,r.End,r.Stop⟩ ts lv pl):=by
   intro w
   obtain ⟨z,hz,hz2⟩:=d4 w (r.Taken.set s.Other.toNat (nth r.Taken s.Other+1)) fun _=>v1
   rw [d3,Option.bind_some]
   simp only
   rw [hz,Option.bind_some]
   have n4:¬s.Kind=4:=by omega
   have n5:¬s.Kind=5:=by omega
   have n6:¬s.Kind=6:=by omega
   rw [if_neg n4,if_neg n5,if_neg n6] at hz2
   cases z with
   | inl y=>exact congrArg some hz2
   | inr y=>exact congrArg some hz2
  rw [if_pos (show (s.Kind==3)=true by simp [k3]),if_pos k3,cQ v2.1,Option.bind_some,ye v2.1 (by omega),Option.bind_some,getD_some v2.1 (by omega),Option.bind_some]
  by_cases hlt:nth r.Taken s.Other<((uz X.ins s.Other).length:Int)
  ·rw [if_pos hlt,cQ n3.1,Option.bind_some,getD_some n3.1 hlt,Option.bind_some]
   exact fin _
  ·have e0:nth (uz X.ins s.Other) (nth r.Taken s.Other)=0:=by
    unfold nth at hlt ⊢
    rw [List.getD_eq_getElem?_getD (l:=uz X.ins s.Other),List.getElem?_eq_none (by omega)];rfl
   rw [if_neg hlt,e0]
   exact fin _
 ·have he:=o5 (by simp [dH,hk.1,k3])
  obtain ⟨q1,q2⟩:=zr h he
  obtain ⟨z,hz,hz2⟩:=d4 (bK r.Vars s.Expr) r.Taken fun k4=>o2 (by simp [dY,k4];omega)
  rw [if_neg (show ¬(s.Kind==3)=true by simp [k3]),if_neg k3,q1,Option.bind_some,hz,Option.bind_some]
  have hfin:(if s.Kind=4 then ⟨r.Events++[⟨1,ta,s.Other,bK r.Vars s.Expr⟩],r.Vars,r.Taken,r.Steps,r.End,r.Stop⟩ else if s.Kind=5 then ⟨r.Events++[⟨2,ta,s.Var,bK r.Vars s.Expr⟩],r.Vars.set s.Var.toNat (bK r.Vars s.Expr),r.Taken,r.Steps,r.End,r.Stop⟩ else if s.Kind=6 then ⟨r.Events++[⟨3,ta,s.Var,bK r.Vars s.Expr⟩],r.Vars.set s.Var.toNat (bK r.Vars s.Expr),r.Taken,r.Steps,r.End,r.Stop⟩ else ⟨r.Events,r.Vars.set s.Var.toNat (bK r.Vars s.Expr),r.Taken,r.Steps,r.End,r.Stop⟩:RunT)=(if s.Kind=4 then r.ev ⟨1,ta,s.Other,bK r.Vars s.Expr⟩ else if s.Kind=5 then (r.set s.Var (bK r.Vars s.Expr)).ev ⟨2,ta,s.Var,bK r.Vars s.Expr⟩ else if s.Kind=6 then (r.set s.Var (bK r.Vars s.Expr)).ev ⟨3,ta,s.Var,bK r.Vars s.Expr⟩ else r.set s.Var (bK r.Vars s.Expr)):=by
   by_cases k4:s.Kind=4
   ·rw [if_pos k4,if_pos k4];rfl
   rw [if_neg k4,if_neg k4]
   by_cases k5:s.Kind=5
   ·rw [if_pos k5,if_pos k5];rfl
   rw [if_neg k5,if_neg k5]
   by_cases k6:s.Kind=6
   ·rw [if_pos k6,if_pos k6];rfl
   rw [if_neg k6,if_neg k6];rfl
  cases z with
  | inl y=>exact (congrArg some hz2).trans (congrArg (fun q=>some (mR X q ts lv pl)) hfin)
  | inr y=>exact (congrArg some hz2).trans (congrArg (fun q=>some (mR X q ts lv pl)) hfin)
inductive Rel:List Tk→List Task→Prop where
 | nil:Rel [] []
 | place {K ts t} : t.Kind=3→Rel K ts→Rel K (t::ts)
 | back {s K ts t} : t.Kind=2→t.S=s→Rel K ts→Rel (.leave s::K) (t::ts)
 | done {a K ts} : Rel K ts→Rel (.run [] a::K) ts
 | stmt {s l a K ts t} : (t.Kind=0∨(t.Kind=1∧s.Kind=8))→t.At=a→t.S=s→Rel (.run l (a+eh s)::K) ts→Rel (.run (s::l) a::K) (t::ts)
theorem pn{K:List Tk}{ts:List Task}(h:Rel K ts):∀ (l:List Stmt)(a:Int),Rel (.run l a::K) (di l a++ts)
 | [],a=>.done h
 | s::l,a=>.stmt (.inl rfl) rfl rfl (pn h l _)
theorem Ic{X:Ctx}{r:RunT} : ∀ {K:List Tk}{ts:List Task},Rel K ts→ts=[]→cz X (K,r) ([],r)
 | _,_,.nil,_=>.refl _ _
 | _,_,.done h,e=>(cz.one rfl).trans (Ic h e)
def Head(K:List Tk)(t:Task)(ts:List Task):Prop:=
 (t.Kind=3∧Rel K ts)∨(∃ s K',K= .leave s::K'∧t.Kind=2∧t.S=s∧Rel K' ts)∨
 (∃ s l a K',K= .run (s::l) a::K'∧(t.Kind=0∨(t.Kind=1∧s.Kind=8))∧t.At=a∧t.S=s∧Rel (.run l (a+eh s)::K') ts)
theorem Gs{X:Ctx}{r:RunT}{t:Task}{ts:List Task} : ∀ {K:List Tk}{us:List Task},Rel K us→us=t::ts→∃ K',cz X (K,r) (K',r)∧Head K' t ts
 | _,_,.place h1 h2,e=>by
  obtain ⟨rfl,rfl⟩:=List.cons.inj e
  exact ⟨_,.refl _ _,.inl ⟨h1,h2⟩⟩
 | _,_,.back h1 h2 h3,e=>by
  obtain ⟨rfl,rfl⟩:=List.cons.inj e
  exact ⟨_,.refl _ _,.inr (.inl ⟨_,_,rfl,h1,h2,h3⟩)⟩
 | _,_,.done h,e=>by
  obtain ⟨K',g,hh⟩:=Gs (X:=X) (r:=r) h e
  exact ⟨K',(cz.one rfl).trans g,hh⟩
 | _,_,.stmt h1 h2 h3 h4,e=>by
  obtain ⟨rfl,rfl⟩:=List.cons.inj e
  exact ⟨_,.refl _ _,.inr (.inr ⟨_,_,_,_,rfl,h1,h2,h3,h4⟩)⟩
def EB(X:Ctx)(t:Task):Prop:=
 (t.Kind=3∧t.Places=1)∨(t.Kind=2∧∃ i:Nat,i≤X.p.Funcs.length∧bA X.p i t.S=0∧t.S.Kind=2)∨
 ((t.Kind=0∨t.Kind=1)∧∃ i:Nat,i≤X.p.Funcs.length∧rL (bA X.p i) t.S=0∧eh t.S≤50∧0≤t.At∧t.At+eh t.S≤200)
theorem po{X:Ctx}{i:Nat}(hi:i≤X.p.Funcs.length):∀ (l:List Stmt)(a:Int),cH (bA X.p i) l=0→aZ l≤50→0≤a→a+aZ l≤200→∀ t∈di l a,EB X t
 | [],a,_,_,_,_,t,ht=>by simp [di] at ht
 | s::l,a,h1,h2,h3,h4,t,ht=>by
  rw [aZ] at h2 h4
  have hs:=A7 h1 s (by simp)
  have hl:cH (bA X.p i) l=0:=by rw [cH,if_neg (by simp [hs])] at h1;exact h1
  rw [di] at ht
  rcases List.mem_cons.1 ht with rfl | ht
  ·exact .inr (.inr ⟨.inl rfl,i,hi,hs,by simp only;omega,h3,by simp only;omega⟩)
  ·exact po hi l (a+eh s) hl (by omega) (by omega) (by omega) t ht
theorem doR{X:Ctx}(hX:pf X){i:Nat}(hi:i≤X.p.Funcs.length){s:Stmt}(he:rL (bA X.p i) s=0)(hc:eh s≤50){tk ta tp:Int}(h0:0≤ta)(h200:ta+eh s≤200)(htk:tk=0∨(tk=1∧s.Kind=8)){r:RunT}(h:Valid X 1 r){l:List Stmt}{K:List Tk}{ts:List Task}(hR:Rel (.run l (ta+eh s)::K) ts)(hT:∀ t∈ts,EB X t)(hts:ts.length≤1000000)(lv pl:List Level)(hpl:pl.length=1) :
  ∃ ts2,eG (mR X r ts.reverse lv pl) ⟨tk,ta,s,tp⟩=some (mR X (fS X s ta l K r).2 ts2.reverse lv pl)∧Rel (fS X s ta l K r).1 ts2∧(∀ t∈ts2,EB X t)∧ts2.length≤ts.length+53∧Valid X 0 (fS X s ta l K r).2:=by
 obtain ⟨hs,hth,hel⟩:=A6 he
 obtain ⟨o1,o2,o3,o4,o5,o6⟩:=nB hs
 have hce:=mJ s
 have hl1:=jh s.Then
 have hl2:=jh s.Else
 have hplace:EB X ⟨3,0,⟨0,0,0,⟨0,0,[]⟩,[],[],[]⟩,(pl.length:Int)⟩:=.inl ⟨rfl,by simp [hpl]⟩
 by_cases k2:s.Kind=2
 ·have hk0:tk=0:=by rcases htk with h | h<;>omega
  obtain ⟨c1,c2,c3,c4,c5,c6,c7⟩:=called hX hi hs k2
  obtain ⟨f1,f2,f3,f4⟩:=zo c4
  obtain ⟨_,g2,g3⟩:=s6 hX (k:=s.Other) c1 (by omega)
  have hll:=jh (dK X s).Body
  have hgo:fS X s ta l K r=(.run (dK X s).Body (nth X.first s.Other)::.leave s::.run l (ta+eh s)::K,mM X s r):=by unfold fS;rw [if_pos k2]
  have hen:=(F9 hX hi hs k2 h).2
  rw [hgo]
  refine ⟨di (dK X s).Body (nth X.first s.Other)++⟨2,ta,s,0⟩::ts,?_,pn (K:=.leave s::.run l (ta+eh s)::K) (ts:=⟨2,ta,s,0⟩::ts) (.back rfl rfl hR) _ _,fun t ht=>?_,by simp [kO];omega,hen.less⟩
  ·unfold eG
   rw [if_pos (show ((⟨tk,ta,s,tp⟩:Task).S.Kind==2)=true by simp [k2]),X2 hX hi hs k2 h tk ta tp _ lv pl (by simp;omega),Option.bind_some]
   simp
  ·rcases List.mem_append.1 ht with ht | ht
   ·exact po (i:=s.Other.toNat) (by omega) _ _ f3 c6 g2 (by omega) t ht
   ·rcases List.mem_cons.1 ht with rfl | ht
    ·exact .inr (.inl ⟨rfl,i,hi,hs,k2⟩)
    ·exact hT t ht
 by_cases k7:s.Kind=7
 ·have hev:=zr h (o5 (by rw [k7];rfl))
  have hlk:=fun T=>Ib h (o5 (by rw [k7];rfl)) T lv pl
  have hgo:fS X s ta l K r=(.run (if bK r.Vars s.Expr≠0 then s.Then else s.Else) (if bK r.Vars s.Expr≠0 then ta+1 else ta+1+aZ s.Then)::.run l (ta+eh s)::K,r):=by unfold fS;rw [if_neg k2,if_pos k7]
  rw [hgo]
  unfold eG mR
  simp only [List.length_singleton]
  rw [if_neg (show ¬(s.Kind==2)=true by simp [k2]),if_pos (show (s.Kind==7)=true by simp [k7]),if_pos (show ts.reverse.length+1≤1000000000 by simp;omega)]
  have hlk':=hlk (ts.reverse++[⟨3,0,⟨0,0,0,⟨0,0,[]⟩,[],[],[]⟩,(pl.length:Int)⟩])
  unfold mR at hlk'
  rw [hlk',Option.bind_some,if_pos (dq (by omega) (by omega))]
  by_cases hv:bK r.Vars s.Expr=0
  ·rw [if_neg (show ¬(bK r.Vars s.Expr !=0)=true by simp [hv]),if_pos (dq (by omega) (by omega)),v8 (by omega),Option.bind_some,if_pos (dq (by omega) (by omega)),vd (by omega) (by omega) (by omega) (by simp;omega),Option.bind_some,if_neg (fun h=>h hv),if_neg (fun h=>h hv)]
   refine ⟨di s.Else (ta+1+aZ s.Then)++⟨3,0,⟨0,0,0,⟨0,0,[]⟩,[],[],[]⟩,(pl.length:Int)⟩::ts,by simp,pn (.place rfl hR) _ _,fun t ht=>?_,by simp [kO];omega,h.less⟩
   rcases List.mem_append.1 ht with ht | ht
   ·exact po hi _ _ hel (by omega) (by omega) (by omega) t ht
   ·rcases List.mem_cons.1 ht with rfl | ht
    ·exact hplace
    ·exact hT t ht
  ·rw [if_pos (show (bK r.Vars s.Expr !=0)=true by simp [hv]),vd (by omega) (by omega) (by omega) (by simp;omega),Option.bind_some,if_pos hv,if_pos hv]
   refine ⟨di s.Then (ta+1)++⟨3,0,⟨0,0,0,⟨0,0,[]⟩,[],[],[]⟩,(pl.length:Int)⟩::ts,by simp,pn (.place rfl hR) _ _,fun t ht=>?_,by simp [kO];omega,h.less⟩
   rcases List.mem_append.1 ht with ht | ht
   ·exact po hi _ _ hth (by omega) (by omega) (by omega) t ht
   ·rcases List.mem_cons.1 ht with rfl | ht
    ·exact hplace
    ·exact hT t ht
 by_cases k8:s.Kind=8
 ·have hev:=zr h (o5 (by rw [k8];rfl))
  have hlk:=fun T=>Ib h (o5 (by rw [k8];rfl)) T lv pl
  have hgo:fS X s ta l K r=if bK r.Vars s.Expr≠0 then (.run s.Then (ta+1)::.run (s::l) ta::K,r) else (.run l (ta+eh s)::K,r):=by unfold fS;rw [if_neg k2,if_neg k7,if_pos k8]
  rw [hgo]
  have key:∀ us:List Task,Rel (.run l (ta+eh s)::K) us→(∀ t∈us,EB X t)→us.length≤ts.length+1→∃ ts2,((ie ⟨X.p,X.ins,X.fuel,r,ts.reverse,(),lv,pl⟩ ⟨tk,ta,s,tp⟩ us.reverse).bind fun (x:Machine⊕(Bool×Machine))=>match x with
    | .inl y=>some y
    | .inr y=>some y.2)=some (mR X r ts2.reverse lv pl)∧Rel (if bK r.Vars s.Expr≠0 then ((.run s.Then (ta+1)::.run (s::l) ta::K,r):mL) else (.run l (ta+eh s)::K,r)).1 ts2∧(∀ t∈ts2,EB X t)∧ts2.length≤ts.length+53:=by
   intro us hU hU2 hU3
   unfold ie
   simp only [List.length_singleton]
   have hlk':=hlk us.reverse
   unfold mR at hlk'
   rw [hlk',Option.bind_some]
   by_cases hv:bK r.Vars s.Expr=0
   ·rw [if_neg (show ¬(bK r.Vars s.Expr !=0)=true by simp [hv]),if_neg (fun h=>h hv),Option.bind_some]
    exact ⟨us,rfl,hU,hU2,by omega⟩
   ·rw [if_pos (show (bK r.Vars s.Expr !=0)=true by simp [hv]),if_pos (show us.reverse.length+1≤1000000000 by simp;omega),if_pos (dq (by omega) (by omega)),vd (by omega) (by omega) (by omega) (by simp;omega),Option.bind_some,Option.bind_some,if_pos hv]
    refine ⟨di s.Then (ta+1)++⟨1,ta,s,0⟩::us,by simp [mR],pn (K:=.run (s::l) ta::K) (ts:=⟨1,ta,s,0⟩::us) (.stmt (.inr ⟨rfl,k8⟩) rfl rfl hU) _ _,fun t ht=>?_,by simp [kO];omega⟩
    rcases List.mem_append.1 ht with ht | ht
    ·exact po hi _ _ hth (by omega) (by omega) (by omega) t ht
    ·rcases List.mem_cons.1 ht with rfl | ht
     ·exact .inr (.inr ⟨.inr rfl,i,hi,he,hc,h0,h200⟩)
     ·exact hU2 t ht
  have h2:(if bK r.Vars s.Expr≠0 then ((.run s.Then (ta+1)::.run (s::l) ta::K,r):mL) else (.run l (ta+eh s)::K,r)).2=r:=by split<;>rfl
  rw [h2]
  unfold eG
  unfold mR at key ⊢
  simp only [List.length_singleton]
  rw [if_neg (show ¬(s.Kind==2)=true by simp [k2]),if_neg (show ¬(s.Kind==7)=true by simp [k7]),if_pos (show (s.Kind==8)=true by simp [k8])]
  by_cases hk0:tk=0
  ·rw [if_pos (show (tk==0)=true by simp [hk0]),if_pos (show ts.reverse.length+1≤1000000000 by simp;omega)]
   obtain ⟨ts2,e1,e2,e3,e4⟩:=key (⟨3,0,⟨0,0,0,⟨0,0,[]⟩,[],[],[]⟩,(pl.length:Int)⟩::ts) (.place rfl hR) (fun t ht=>by
    rcases List.mem_cons.1 ht with rfl | ht
    ·exact hplace
    ·exact hT t ht) (by simp)
   rw [List.reverse_cons] at e1
   exact ⟨ts2,e1,e2,e3,e4,h.less⟩
  ·rw [if_neg (show ¬(tk==0)=true by simp [hk0])]
   obtain ⟨ts2,e1,e2,e3,e4⟩:=key ts hR hT (by omega)
   exact ⟨ts2,e1,e2,e3,e4,h.less⟩
 ·have hk:s.Kind≠2∧s.Kind<7:=⟨k2,by omega⟩
  have hgo:fS X s ta l K r=(.run l (ta+eh s)::K,wD X s ta r):=by unfold fS;rw [if_neg k2,if_neg k7,if_neg k8]
  rw [hgo]
  exact ⟨ts,QJ hX hs hk h tk ta tp _ lv pl,hR,hT,by omega,(Mz hX hs hk h ta).2⟩
variable [Lp]
theorem JR{a:an}(h:0≤a.Many∧a.Many≤6):∃ l,mT a=some l:=by
 unfold mT
 obtain ⟨x,hx,_⟩:=de (B:=fun v=>nJ a v.1 v.2.1 v.2.2) (fun v=>6 - v.1) (fun v=>v.1≤6∧v.2.1.length≤v.1∧v.2.2.length≤v.1) (fun _=>True) (by
  rintro ⟨k,l,m⟩ ⟨h1,h2,h3⟩
  simp only at h1 h2 h3 ⊢
  unfold nJ
  by_cases hlt:(k:Int)<a.Many
  ·rw [if_pos hlt,if_pos (by simp;omega),if_pos (by simp;omega),if_pos (dz (by omega))]
   exact .inr ⟨_,rfl,⟨by simp only;omega,by simp;omega,by simp;omega⟩,by simp only;omega⟩
  ·rw [if_neg hlt]
   exact .inl ⟨_,rfl,trivial⟩) (0,[],[]) ⟨by simp,by simp,by simp⟩
 rw [hx,Option.bind_some]
 exact ⟨_,rfl⟩
def QK(X:Ctx)(c0:mL)(m:Machine):Prop:=∃ r ts lv pl,m=mR X r ts.reverse lv pl∧pl.length=1∧
 ((r.End=0∧Valid X 0 r∧(∀ t∈ts,EB X t)∧(ts.length:Int)+60*(X.fuel - r.Steps)≤130000∧∃ K,Rel K ts∧cz X c0 (K,r))∨(r.End=2∧cz X c0 ([],r)))
def EC(X:Ctx)(m:Machine):Nat:=if m.R.End=0 then (1+(m.Tasks.length:Int)+60*(X.fuel - m.R.Steps)).toNat else 0
theorem X3{X:Ctx}(hX:pf X){c0:mL}{m:Machine}(h:QK X c0 m):∃ x:Bool×Machine,lp (fun v=>oH X.fuel v) m=some x∧∃ r,x.2.R=r∧((r.End=0∧cz X c0 ([],r))∨(r.End=2∧cz X c0 ([],r))):=by
 refine de (EC X) (QK X c0) (fun x:Bool×Machine=>∃ r,x.2.R=r∧((r.End=0∧cz X c0 ([],r))∨(r.End=2∧cz X c0 ([],r)))) ?_ m h
 rintro m ⟨r,ts,lv,pl,rfl,hpl,hi⟩
 have hfu:=hX.fuel
 unfold oH tf
 rcases hi with ⟨h0,hv,hT,hb,K,hR,hG⟩ | ⟨h2,hG⟩
 rotate_left
 ·have e:(r.End==0)=false:=by simp [h2]
  simp only [mR,e]
  refine .inl ⟨(false,mR X r ts.reverse lv pl),?_,r,rfl,.inr ⟨h2,hG⟩⟩
  by_cases hl:(0:Int)<(ts.reverse.length:Int)
  ·rw [if_pos hl];rfl
  ·rw [if_neg hl];rfl
 have e:(r.End==0)=true:=by simp [h0]
 simp only [mR,e]
 cases ts with
 | nil=>
  refine .inl ⟨(false,mR X r [] lv pl),?_,r,rfl,.inl ⟨h0,hG.trans (Ic hR rfl)⟩⟩
  simp [mR]
 | cons t ts=>
  have hst:=hv.steps
  have hlen:((t::ts).reverse.length:Int)=(ts.length:Int)+1:=by simp
  have hl2:(ts.length:Int)+1+60*(X.fuel - r.Steps)≤130000:=by simpa using hb
  have htk:(t::ts).reverse.take ts.length=ts.reverse:=by
   rw [List.reverse_cons,List.take_append_of_le_length (by simp),List.take_of_length_le (by simp)]
  have hget:(t::ts).reverse[ts.length]? =some t:=by
   rw [List.reverse_cons,List.getElem?_append_right (by simp)];simp
  have hlen2:(t::ts).reverse.length=ts.length+1:=by simp
  simp only [hlen,show (ts.length:Int)+1 - 1=(ts.length:Int) by omega]
  rw [if_pos (show (0:Int)<(ts.length:Int)+1 by omega),Option.bind_some,if_pos rfl,if_pos (dq (by omega) (by omega)),Kr,Option.bind_some,hget,Option.bind_some]
  simp only [hlen2,htk]
  rw [if_pos (show ts.length≤ts.length+1 by omega)]
  obtain ⟨K',g1,hd⟩:=Gs (X:=X) (r:=r) hR rfl
  have hG':=hG.trans g1
  have ht:=hT t (by simp)
  have hT':∀ u∈ts,EB X u:=fun u hu=>hT u (by simp [hu])
  have hm0:EC X (mR X r (t::ts).reverse lv pl)=(2+(ts.length:Int)+60*(X.fuel - r.Steps)).toNat:=by
   unfold EC;rw [if_pos (show (mR X r (t::ts).reverse lv pl).R.End=0 from h0)];simp only [mR,hlen];congr 1;omega
  have hm1:EC X ⟨X.p,X.ins,X.fuel,r,(t::ts).reverse,(),lv,pl⟩=(2+(ts.length:Int)+60*(X.fuel - r.Steps)).toNat:=hm0
  rw [hm1]
  by_cases k3:t.Kind=3
  ·have hp1:t.Places=1:=by
    rcases ht with ⟨_,h⟩ | ⟨h,_⟩ | ⟨h | h,_⟩
    ·exact h
    ·omega
    ·omega
    ·omega
   rw [if_pos (show (t.Kind==3)=true by simp [k3]),hp1,cQ (by decide),Option.bind_some,if_pos (show (1:Int).toNat≤pl.length by rw [hpl];decide)]
   have hK:Rel K' ts:=by
    rcases hd with ⟨_,h⟩ | ⟨_,_,_,h,_⟩ | ⟨_,_,_,_,_,h,_⟩
    ·exact h
    ·omega
    ·omega
   refine .inr ⟨_,rfl,⟨r,ts,lv,pl.take 1,rfl,by rw [List.length_take,hpl];rfl,.inl ⟨h0,hv,hT',by omega,K',hK,hG'⟩⟩,?_⟩
   unfold EC;rw [if_pos h0];simp;omega
  rw [if_neg (show ¬(t.Kind==3)=true by simp [k3])]
  by_cases k2:t.Kind=2
  ·obtain ⟨i,hi,hs,hk⟩:∃ i:Nat,i≤X.p.Funcs.length∧bA X.p i t.S=0∧t.S.Kind=2:=by
    rcases ht with ⟨h,_⟩ | ⟨_,h⟩ | ⟨h | h,_⟩
    ·omega
    ·exact h
    ·omega
    ·omega
   obtain ⟨s,K2,rfl,hts,hK⟩:∃ s K2,K'= .leave s::K2∧t.S=s∧Rel K2 ts:=by
    rcases hd with ⟨h,_⟩ | ⟨s,K2,h1,_,h2,h3⟩ | ⟨_,_,_,_,_,h,_⟩
    ·omega
    ·exact ⟨s,K2,h1,h2,h3⟩
    ·omega
   rw [hts] at hs hk
   have hb:=X1 hX hi hs hk hv hts ts.reverse lv pl
   unfold mR at hb
   rw [if_pos (show (t.Kind==2)=true by simp [k2]),hb,Option.bind_some]
   have hv2:=(Ga hX hi hs hk hv).2
   refine .inr ⟨_,rfl,⟨s5 X s r,ts,lv,pl,rfl,hpl,.inl ⟨hv2.en,hv2,hT',by show (ts.length:Int)+60*(X.fuel - r.Steps)≤130000;omega,K2,hK,hG'.trans (cz.one rfl)⟩⟩,?_⟩
   unfold EC;rw [if_pos hv2.en]
   show (1+(ts.reverse.length:Int)+60*(X.fuel - r.Steps)).toNat<_
   simp;omega
  rw [if_neg (show ¬(t.Kind==2)=true by simp [k2])]
  obtain ⟨i,hi,he,hc,ha0,ha2⟩:∃ i:Nat,i≤X.p.Funcs.length∧rL (bA X.p i) t.S=0∧eh t.S≤50∧0≤t.At∧t.At+eh t.S≤200:=by
   rcases ht with ⟨h,_⟩ | ⟨h,_⟩ | ⟨_,h⟩
   ·omega
   ·omega
   ·exact h
  obtain ⟨s,l,a,K2,rfl,hkk,hat,hts,hK⟩:∃ s l a K2,K'= .run (s::l) a::K2∧(t.Kind=0∨(t.Kind=1∧s.Kind=8))∧t.At=a∧t.S=s∧Rel (.run l (a+eh s)::K2) ts:=by
   rcases hd with ⟨h,_⟩ | ⟨_,_,_,h,_⟩ | h
   ·omega
   ·omega
   ·exact h
  obtain ⟨tk,ta,s',tp⟩:=t
  simp only at hkk hat hts he hc ha0 ha2 k3 k2
  subst hat hts
  by_cases hf:r.Steps=X.fuel
  ·rw [if_pos (show (r.Steps==X.fuel)=true by simp [hf])]
   refine .inr ⟨_,rfl,⟨r.out,ts,lv,pl,rfl,hpl,.inr ⟨rfl,hG'.trans (cz.one (by simp only [l4];rw [if_pos hf]))⟩⟩,?_⟩
   unfold EC
   rw [if_neg (show ¬(2:Int)=0 by decide)]
   omega
  rw [if_neg (show ¬(r.Steps==X.fuel)=true by simp [hf]),if_pos (dq (by omega) (by omega))]
  obtain ⟨ts2,d1,d2,d3,d4,d5⟩:=doR (tp:=tp) hX hi he hc ha0 ha2 hkk (hv.tick hf) hK hT' (by omega) lv pl hpl
  unfold mR at d1
  have d1':eG ⟨X.p,X.ins,X.fuel,⟨r.Events,r.Vars,r.Taken,r.Steps+1,r.End,r.Stop⟩,ts.reverse,(),lv,pl⟩ ⟨tk,ta,s',tp⟩=_:=d1
  rw [d1',Option.bind_some]
  have hss:(fS X s' ta l K2 r.tick).2.Steps=r.Steps+1:=(DP X s' ta l K2 r.tick).2.1
  refine .inr ⟨_,rfl,⟨_,ts2,lv,pl,rfl,hpl,.inl ⟨d5.en,d5,d3,by rw [hss];omega,_,d2,hG'.trans (cz.one (by simp only [l4];rw [if_neg hf]))⟩⟩,?_⟩
  unfold EC
  rw [if_pos d5.en]
  simp only [hss,List.length_reverse]
  omega
theorem KY{p:Program}{ins:List (List Int)}{fuel:Int}(h:jR p ins fuel=0):∃ r lv,ua p ins fuel=some (r,lv)∧Comes (gd p ins fuel) (CB p) r:=by
 have hX:=Gc h
 have hok:Mx p:=hX.ok
 have hfu:0≤fuel∧fuel≤2000:=hX.fuel
 obtain ⟨a1,a2,a3,a4⟩:=yc hok.acts
 have b1:=hok.vars
 have b2:=hok.ins
 unfold ua
 rw [if_pos (by omega),if_pos (by omega)]
 obtain ⟨lb,hlb⟩:=JR (a:=p.an) ⟨by omega,a2⟩
 obtain ⟨x,hx,_⟩:=de (B:=fun v=>qP p ins fuel v.1 v.2) (fun v=>p.Vars.length - v.1) (fun v=>v.1≤p.Vars.length∧v.2.length=v.1) (fun _=>True) (by
  rintro ⟨k,l⟩ ⟨hk,hl⟩
  simp only at hk hl ⊢
  unfold qP
  by_cases hlt:k<p.Vars.length
  ·rw [if_pos (show (k:Int)<(p.Vars.length:Int) by omega),hlb,Option.bind_some,if_pos (by simp;omega),if_pos (dz (by omega))]
   exact .inr ⟨_,rfl,⟨by simp only;omega,by simp;omega⟩,by simp only;omega⟩
  ·rw [if_neg (show ¬(k:Int)<(p.Vars.length:Int) by omega)]
   exact .inl ⟨_,rfl,trivial⟩) (0,[]) ⟨Nat.zero_le _,rfl⟩
 obtain ⟨g1,g2,g3⟩:=s6 hX (k:=(p.Funcs.length:Int)) (by omega) (Int.le_refl _)
 have hfo:lH p (p.Funcs.length:Int)=some (nth (cU 0 p.Funcs) p.Funcs.length):=C0 hX (by omega) (Int.le_refl _)
 have g2':0≤nth (cU 0 p.Funcs) p.Funcs.length:=g2
 have g3':nth (cU 0 p.Funcs) p.Funcs.length≤50:=g3
 have hml:=jh p.Main
 rw [hx,Option.bind_some,hlb,Option.bind_some,if_pos (by simp),hfo,Option.bind_some,vd hok.main.1 g2' (by omega) (by simp),Option.bind_some]
 have hv:Valid (gd p ins fuel) 0 (init p):=⟨by simp [init,gd],fun x hx=>by rw [List.eq_of_mem_replicate hx];rfl,by simp [init,gd],fun t ht=>by rw [List.eq_of_mem_replicate ht];simp [init],by simp only [init];exact ⟨by decide,hfu.1⟩,by simp [init],rfl⟩
 obtain ⟨y,hy,r,hr,hq⟩:=X3 hX (c0:=CB p) (m:=⟨p,ins,fuel,init p,[]++(di p.Main (nth (cU 0 p.Funcs) p.Funcs.length)).reverse,(),x.2.2,[]++[lb]⟩)
  ⟨init p,di p.Main (nth (cU 0 p.Funcs) p.Funcs.length),x.2.2,[lb],rfl,rfl,.inl ⟨rfl,hv,po (Nat.le_refl _) p.Main _ hok.mains hok.main.1 g2' (by have:=hok.main.1;omega),by rw [kO];show (p.Main.length:Int)+60*(fuel - 0)≤130000;have:=hok.main.1;omega,[.run p.Main (nth (cU 0 p.Funcs) p.Funcs.length)],by simpa using pn .nil p.Main (nth (cU 0 p.Funcs) p.Funcs.length),.refl _ _⟩⟩
 have hy':lp (fun v=>oH fuel v) ⟨p,ins,fuel,⟨[],List.replicate p.Vars.length 0,List.replicate p.Ins.length 0,0,0,0⟩,[]++(di p.Main (nth (cU 0 p.Funcs) p.Funcs.length)).reverse,(),x.2.2,[]++[lb]⟩=some y:=hy
 rw [hy',Option.bind_some,hr]
 unfold pT
 rcases hq with ⟨h0,hG⟩ | ⟨h2,hG⟩
 ·rw [if_pos (show (r.End==0)=true by simp [h0]),Option.bind_some]
  exact ⟨_,_,rfl,.inl ⟨r,hG,h0,rfl⟩⟩
 ·rw [if_neg (show ¬(r.End==0)=true by simp [h2]),Option.bind_some]
  exact ⟨_,_,rfl,.inr ⟨hG,h2⟩⟩
theorem HB{p:Program}{ins:List (List Int)}{fuel:Int}(hp:∀ f∈p.Funcs,f.Params.length≤9223372036854775807):pQ p ins fuel=some (jR p ins fuel):=by
 unfold pQ jR
 rw [X0 hp,Option.bind_some]
 by_cases h1:fR p=0
 rotate_left
 ·rw [if_pos (show (fR p !=0)=true by simp [h1]),if_pos h1]
 rw [if_neg (show ¬(fR p !=0)=true by simp [h1]),if_neg (show ¬fR p≠0 from fun h=>h h1)]
 have hi:=(uy h1).ins
 by_cases h2:ins.length=p.Ins.length
 rotate_left
 ·rw [if_pos (show ((ins.length:Int) !=(p.Ins.length:Int))=true by simp;omega),if_pos h2]
 rw [if_neg (show ¬((ins.length:Int) !=(p.Ins.length:Int))=true by simp [h2]),if_neg (show ¬ins.length≠p.Ins.length from fun h=>h h2)]
 have hl0:=qX (B:=fun v=>fX ins fuel v) ins (fun l=>decide (100<(l.length:Int))) id (x:=.inl ()) (y:=.inr (ins.length,false))
  (fun k hk hq=>by
   have hq':¬(100:Int)<(ins[k].length:Int):=by simpa using hq
   simp only [fX,id,show (k:Int)<(ins.length:Int) by omega,if_true,List.getElem?_eq_getElem hk,Option.bind_some,hq',if_false,dz (show k<9223372036854775807 by omega)])
  (fun k hk hq=>by
   have hq':(100:Int)<(ins[k].length:Int):=by simpa using hq
   simp only [fX,id,show (k:Int)<(ins.length:Int) by omega,if_true,List.getElem?_eq_getElem hk,Option.bind_some,hq'])
  (by simp [fX])
 have hl0':lp (fun v=>fX ins fuel v) 0=_:=hl0
 rw [hl0',Option.bind_some]
 cases h3:ins.any (fun l=>decide (100<(l.length:Int))) with
 | true=>simp
 | false=>
  have hl:∀ l∈ins,l.length≤100:=fun l hl=>by
   have:=List.any_eq_false.1 h3 l hl
   simp at this;omega
  simp only [Bool.false_eq_true,if_false]
  have hin:∀ k (hk:k<ins.length),∃ z,lp (fun v=>fY ins fuel k v) 0=some (if ins[k].any (fun n=>!dk n) then .inl () else .inr z):=fun k hk=>by
   have hk1:=hl _ (List.getElem_mem hk)
   have h:=qX (B:=fun v=>fY ins fuel k v) ins[k] (fun n=>!dk n) id (x:=.inl ()) (y:=.inr (ins[k].length,false))
    (fun j hj hq=>by
     have hq':dk ins[k][j]=true:=by simpa using hq
     simp only [fY,id,List.getElem?_eq_getElem hk,Option.bind_some,show (j:Int)<(ins[k].length:Int) by omega,if_true,List.getElem?_eq_getElem hj,As,hq',dz (show j<9223372036854775807 by omega)])
    (fun j hj hq=>by
     have hq':dk ins[k][j]=false:=by simpa using hq
     simp only [fY,id,List.getElem?_eq_getElem hk,Option.bind_some,show (j:Int)<(ins[k].length:Int) by omega,if_true,List.getElem?_eq_getElem hj,As,hq',Bool.false_eq_true,if_false])
    (by simp [fY,hk])
   exact ⟨_,h⟩
  have hl1:=qX (B:=fun v=>fZ ins fuel v) ins (fun l=>l.any fun n=>!dk n) id (x:=.inl ()) (y:=.inr (ins.length,false))
   (fun k hk hq=>by
    obtain ⟨z,hz⟩:=hin k hk
    rw [hq] at hz
    simp only [Bool.false_eq_true,if_false] at hz
    simp only [fZ,id,show (k:Int)<(ins.length:Int) by omega,if_true,hz,Option.bind_some,dz (show k<9223372036854775807 by omega)])
   (fun k hk hq=>by
    obtain ⟨z,hz⟩:=hin k hk
    rw [hq] at hz
    simp only [if_true] at hz
    simp only [fZ,id,show (k:Int)<(ins.length:Int) by omega,if_true,hz,Option.bind_some])
   (by simp [fZ])
  have hl1':lp (fun v=>fZ ins fuel v) 0=_:=hl1
  rw [hl1',Option.bind_some]
  cases h4:ins.any (fun l=>l.any fun n=>!dk n) with
  | true=>simp
  | false=>
   simp only [Bool.false_eq_true,if_false]
   rw [lG,Option.bind_some]
   by_cases h5:fuel<0∨2000<fuel
   ·rw [if_neg (show ¬decide (0≤fuel∧fuel≤2000)=true by simp;omega),if_pos h5]
   ·rw [if_pos (show decide (0≤fuel∧fuel≤2000)=true by simp;omega),if_neg h5]
theorem HC(p:Program)(ins:List (List Int))(fuel:Int)(hp:∀ f∈p.Funcs,f.Params.length≤9223372036854775807):uE p ins fuel=some true:=by
 unfold uE nM yR pU
 have hb:sL=some true:=rfl
 obtain ⟨a1,a2⟩:=QD (ins:=ins) (fuel:=fuel) hp
 rw [HB hp,hb]
 by_cases hx:jR p ins fuel=0
 ·obtain ⟨r,hr,hr2⟩:=a2 hx
  obtain ⟨r',lv,hr',hr3⟩:=KY hx
  obtain rfl:=hr2.eq hr3
  obtain ⟨c1,c2,c3,c4,c5⟩:=HA hx hr2
  rw [hr,hr',hx]
  simp only [Option.bind_some,if_true,bne_self_eq_false,Bool.false_eq_true,if_false,beq_self_eq_true]
  rw [yS (r:=r) (by omega) (by rw [c1.vars];omega) (by rw [c1.taken];omega)];rfl
 ·rw [a1 hx]
  have e1:(jR p ins fuel==0)=false:=by simp [hx]
  have e2:(jR p ins fuel !=0)=true:=by simp [hx]
  simp only [Option.bind_some,e1,e2,Bool.false_eq_true,if_false,if_true,beq_self_eq_true]
  rw [yS (by simp) (by simp) (by simp)];rfl
end Go.Proofs.YtndeklbmglgonaaGreat.A
