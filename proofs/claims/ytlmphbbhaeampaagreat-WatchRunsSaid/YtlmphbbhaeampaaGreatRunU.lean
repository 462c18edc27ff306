/- The document's machine does one step after the other as plain mathematics says: its parts. -/
import Derived.Test.YtlmphbbhaeampaaGreatRunP
import Derived.Test.YtlmphbbhaeampaaGreatPrgR
import Derived.Test.YtlmphbbhaeampaaGreatFD
set_option linter.all false
namespace Go.Proofs.YtlmphbbhaeampaaGreat.A
open Go
variable [Lp]
theorem aao{w:Int}(h1 : -4611686018427387904≤w)(h2:w≤4611686018427387904):yy w=some (II w):=by
 grind [yy,yS,II,IntKind.wrap,IntKind.bits,IntKind.signed,fG]
variable {vs:List Int}
theorem XO(hv:∀ x∈vs,fT x=true)(n:Nat):∀ (e:ay),sz e≤n→(∀ x∈ey e,fg vs.length x=0)→(uD n).f_R_ValueOf e vs=some (c9 vs e):=by
 induction n with
 | zero=>grind [uu]
 | succ n ih=>
  intro e h o
  show wK (uD n) e vs=_
  unfold wK yz
  have hp:fg vs.length e=0:=o e (by rw [s9];simp)
  obtain ⟨p1,p2,p3,p4,p5⟩:=qi hp
  rw [Mo,Jg]
  unfold VP
  by_cases k1:e.Kind=1
  ·grind
  rw [ah (by simp [k1]),ah k1]
  by_cases k2:e.Kind=2
  ·grind [cb]
  rw [ah (by simp [k2]),ah k2]
  have hl:e.Args.length=2:=by grind
  have h0:0<e.Args.length:=by omega
  have h1:1<e.Args.length:=by omega
  have g0:=uv h0
  have g1:=uv h1
  have q0:∀ x∈ey e.Args[0],fg vs.length x=0:=by grind [EW]
  have q1:∀ x∈ey e.Args[1],fg vs.length x=0:=by grind [EW]
  have n0:=AK hv _ e.Args[0] (bG _) q0
  have n1:=AK hv _ e.Args[1] (bG _) q1
  rw [bu h0,ab,ih _ (by omega) q0,ab,bu h1,ab,ih _ (by omega) q1,ab]
  have e0:(e.Args.map (c9 vs)).getD 0 0=c9 vs e.Args[0]:=by grind
  have e1:(e.Args.map (c9 vs)).getD 1 0=c9 vs e.Args[1]:=by grind
  rw [e0,e1]
  generalize c9 vs e.Args[0]=a at *
  generalize c9 vs e.Args[1]=b at *
  have hm:=SJ n0 n1
  grind [Jy,fG,aao]
variable {e:ay}
theorem Wv(hv:∀ x∈vs,fT x=true)(o:∀ x∈ey e,fg vs.length x=0):jH e vs=some (c9 vs e):=
 uH (sz e) (by grind [XO])
variable {X:Ctx}{k:Int}
theorem OU{r:RunT}(h:Valid X k r)(he:eP X.p e=0):jH e r.Vars=some (c9 r.Vars e)∧fT (c9 r.Vars e)=true:=by
 have h1:=sD he
 rw [←h.vars] at h1
 exact ⟨Wv h.nums h1,AK h.nums _ e (bG _) h1⟩
theorem aiq(n:Nat):∀ (l:List Stmt),ed l+1≤n→bR l≤1000→(vN n).f_R_Count l=some (bR l:Int):=by
 induction n with
 | zero=>intro l h;omega
 | succ n ih=>
  intro l h1 h2
  show AB (vN n) l=_
  unfold AB
  have hlen:=jU l
  obtain ⟨x,hx,hQ⟩:=eX (B:=fun v=>yR (vN n) l v.1 v.2) (fun v=>l.length - v.2)
   (fun v=>v.2≤l.length∧v.1=bR (l.take v.2)) (fun x=>x.1=bR l) (by
    rintro ⟨m,k⟩ ⟨hk,he⟩
    simp only at hk he ⊢
    unfold yR
    by_cases c:k<l.length
    ·have g1:=vj (cg c)
     have g2:=ye (cg c)
     have g3:=sB l[k]
     have g4:=sC l[k]
     have g5:=tN c
     have g6:=sL l (k+1)
     rw [af (show (k:Int)<(l.length:Int) by omega),bu c,ab]
     generalize l[k]=s at *
     rw [ih _ (by omega) (by omega),ab,af (fG (by omega) (by omega)),ih _ (by omega) (by omega),ab,af (fG (by omega) (by omega)),af (fG (by omega) (by omega)),af (eQ (by omega))]
     grind
    simp_all [iC]) (0,0) (by grind [bR])
  grind
variable {l:List Stmt}
theorem Ff(h:bR l≤1000):vO l=some (bR l:Int):=uH (ed l+1) fun n hn=>aiq n l hn h
def wM(l:List Func):Nat:=(l.map fun f=>bR f.Body).sum
theorem Ww(f:Func)(l:List Func):wM (f::l)=bR f.Body+wM l:=by simp [wM]
theorem LI:∀ (l:List Func)(n:Int)(k:Nat),k≤l.length→nth (eN n l) k=n+wM (l.take k)
 | [],n,k,h=>by
  simp_all [nth,eN,wM]
 | f::l,n,0,_=>by simp [nth,eN,wM]
 | f::l,n,k+1,h=>by
  have:=LI l (n+bR f.Body) k (by simpa using h)
  grind [nth,eN,Ww]
theorem LJ(hX:uB X)(h0:0≤k)(h:k≤X.p.Funcs.length):oY X.p k=some (nth X.first k):=by
 obtain ⟨j,rfl⟩:∃ j:Nat,k=(j:Int):=⟨k.toNat,by omega⟩
 have hj:j≤X.p.Funcs.length:=by omega
 have hs:=hX.ok.sum
 have hf:=hX.ok.funcs
 rw [hX.first,LI _ _ _ hj]
 unfold oY
 have d:∀ i,wM (X.p.Funcs.take i)≤50:=by grind [wM,List.take_append_drop]
 obtain ⟨x,hx,hQ⟩:=eX (B:=fun v=>uU X.p (j:Int) v.1 v.2) (fun v=>j - v.2) (fun v=>v.2≤j∧v.1=wM (X.p.Funcs.take v.2)) (fun x=>x.1=wM (X.p.Funcs.take j)) (by
  rintro ⟨n,i⟩ ⟨hi,he⟩
  simp only at hi he ⊢
  unfold uU
  by_cases c:i<j
  ·have q:i<X.p.Funcs.length:=by omega
   have g1:=hX.ok.few _ (cg q)
   have g2:wM (X.p.Funcs.take (i+1))=wM (X.p.Funcs.take i)+bR X.p.Funcs[i].Body:=by
    grind [take_one,wM]
   have g3:=d (i+1)
   rw [af (show (i:Int)<(j:Int) by omega),bu q,ab,Ff (by omega),ab,af (fG (by omega) (by omega)),af (eQ (by omega))]
   grind
  ·rw [ah (show ¬(i:Int)<(j:Int) by omega)]
   grind) (0,0) (by grind [wM])
 grind
def ez:List Stmt→Int→List Task
 | [],_=>[]
 | s::l,a=>⟨0,a,s,0⟩::ez l (a+fD s)
theorem p6:∀ (l:List Stmt)(a:Int),(ez l a).length=l.length
 | [],_=>rfl
 | s::l,a=>by rw [ez,fj,p6 l,fj]
theorem LK:∀ (l:List Stmt)(s:Stmt)(a:Int),ez (l++[s]) a=ez l a++[⟨0,a+bR l,s,0⟩]
 | [],s,a=>by simp [ez,bR]
 | x::l,s,a=>by
  rw [fk,ez,LK l s,ez,bR,fk]
  grind
def mR(X:Ctx)(r:RunT)(ts:List Task)(lv pl:List Level):Machine:=⟨X.p,X.ins,X.fuel,r,ts,(),lv,pl⟩
theorem H6{m:Machine}{a:Int}(hc:bR l≤50)(h0:0≤a)(h1:a≤1000)(ht:m.Tasks.length≤100000000):
  fF m l a=some ⟨m.P,m.Ins,m.Fuel,m.R,m.Tasks++(ez l a).reverse,(),m.bW,m.Places⟩:=by
 have hlen:=jU l
 unfold fF
 obtain ⟨x,hx,hQ⟩:=eX (B:=fun v=>oH l v.1 v.2.1 v.2.2) (fun v=>l.length - v.2.2) (fun v=>v.2.2≤l.length∧v.1=a+bR (l.take v.2.2)∧v.2.1=ez (l.take v.2.2) a) (fun x=>x.2.1=ez l a) (by
  rintro ⟨b,out,k⟩ ⟨hk,hb,ho⟩
  simp only at hk hb ho ⊢
  unfold oH
  by_cases c:k<l.length
  ·have g1:=vj (cg c)
   have g3:=sB l[k]
   have g5:=tN c
   have g6:=sL l (k+1)
   have g7:=LK (l.take k) l[k] a
   rw [←take_one c] at g7
   have g8:=p6 (l.take k) a
   rw [List.length_take] at g8
   rw [af (show (k:Int)<(l.length:Int) by omega),bu c,ab,af (by grind)]
   generalize l[k]=s at *
   rw [Ff (by omega),ab,af (fG (by omega) (by omega)),Ff (by omega),ab,af (fG (by omega) (by omega)),af (fG (by omega) (by omega)),af (eQ (by omega))]
   grind
  simp_all [iC]) (a,[],0) (by grind [bR,ez])
 rw [hx,ab]
 obtain ⟨x1,out,x3,x4⟩:=x
 simp only at hQ ⊢
 have u:out.length=l.length:=by rw [hQ,p6]
 rw [af (fG (by omega) (by omega)),←hQ]
 obtain ⟨y,hy,F⟩:=eX (B:=fun v=>oI (x1,out,x3,x4) v.1 v.2) (fun v=>(v.1+1).toNat) (fun v=>-1≤v.1∧v.1<out.length∧v.2=m.Tasks++(out.drop (v.1+1).toNat).reverse) (fun y=>y.2.2=m.Tasks++out.reverse) (by
  rintro ⟨i,ts⟩ ⟨h2,h3,h4⟩
  simp only at h2 h3 h4 ⊢
  unfold oI
  by_cases hi:0≤i
  ·have c:i.toNat<out.length:=by omega
   have e1:(i+1).toNat=i.toNat+1:=by omega
   rw [e1] at h4
   rw [af hi,cb hi,ab]
   simp only
   rw [bu c,ab,af (by grind),af (fG (by omega) (by omega))]
   grind [List.drop_eq_getElem_cons]
  ·rw [ah hi]
   have e1:(i+1).toNat=0:=by omega
   grind) ((out.length:Int) - 1,m.Tasks) (by grind [List.drop_length])
 grind
variable [Lp]
theorem RW{p:Program}{ins:List (List Int)}{fuel:Int}(hp:∀ f∈p.Funcs,f.Params.length≤9223372036854775807):wI p ins fuel=some (nE p ins fuel):=by
 unfold wI nE
 rw [amE hp,ab]
 by_cases h1:jV p=0
 rotate_left
 ·grind
 rw [ah (show ¬(jV p !=0)=true by simp [h1]),ah (show ¬jV p≠0 from fun h=>h h1)]
 have hi:=(Di h1).ins
 by_cases h2:ins.length=p.Ins.length
 rotate_left
 ·grind
 rw [ah (show ¬((ins.length:Int) !=(p.Ins.length:Int))=true by simp [h2]),ah (show ¬ins.length≠p.Ins.length from fun h=>h h2)]
 have t:=pj (B:=fun v=>kV ins v) ins (fun l=>decide (100<(l.length:Int))) id (x:=.inl ()) (y:=.inr (ins.length,false))
  ((by grind [kV,eQ]))
  ((by grind [kV]))
  (by simp [kV])
 have g:lp (fun v=>kV ins v) 0=_:=t
 rw [g,ab]
 cases h3:ins.any (fun l=>decide (100<(l.length:Int))) with
 | true=>simp
 | false=>
  have hl:∀ l∈ins,l.length≤100:=by grind
  simp only [dy,cH]
  have E:∀ k (hk:k<ins.length),∃ z,lp (fun v=>kW ins k v) 0=some (if ins[k].any (fun n=>!fT n) then .inl () else .inr z):=fun k hk=>by
   have D:=hl _ (cg hk)
   have h:=pj (B:=fun v=>kW ins k v) ins[k] (fun n=>!fT n) id (x:=.inl ()) (y:=.inr (ins[k].length,false))
    ((by grind [kW,IN,eQ]))
    ((by grind [kW,IN]))
    (by simp [kW,hk])
   exact ⟨_,h⟩
  have C:=pj (B:=fun v=>m6 ins v) ins (fun l=>l.any fun n=>!fT n) id (x:=.inl ()) (y:=.inr (ins.length,false))
   ((by grind [m6,eQ]))
   ((by grind [m6]))
   (by simp [m6])
  grind [yp]
end Go.Proofs.YtlmphbbhaeampaaGreat.A
