/- The reference's levels. -/
import Derived.Test.YtlmphbbhaeampaaGreatSpkS
import Derived.Test.YtlmphbbhaeampaaGreatPlacF
import Derived.Test.YtlmphbbhaeampaaGreatPrgR
import Derived.Test.YtlmphbbhaeampaaGreatFQ
set_option linter.all false
namespace Go.Proofs.YtlmphbbhaeampaaGreat.A
open Go
variable [Lp]
section
variable (a:ak)(c:iw a=0)
include c
theorem Hx(i k:Int)(hi:de a.Many i=true)(hk:de a.Many k=true):oX a i k=some (eV a.Many.toNat a.Grants i.toNat k.toNat):=by
 obtain ⟨h1,h2,h3,h4⟩:=mU c
 have hg:=SL a c
 obtain ⟨u,C⟩:0≤i∧i<a.Many:=by simpa [de] using hi
 obtain ⟨f,z⟩:0≤k∧k<a.Many:=by simpa [de] using hk
 have inner:∀ (n:Nat)(row:List Bool),row.length=a.Many.toNat→lp (fun v=>n6 a v.1 v.2) (row,0)=some (jz a.Grants row,a.Grants.length,false):=by
  intro n row hl
  have h:=me (B:=fun v=>n6 a v.1 v.2) a.Grants.length (fun j=>(jz (a.Grants.take j) row,j)) (x:=(jz a.Grants row,a.Grants.length,false))
   (fun j hj=>by
    have d:=hg _ (cg hj)
    have hlen:(jz (a.Grants.take j) row).length=a.Many.toNat:=(NS _ _).trans hl
    have e:jz (a.Grants.take (j+1)) row=mi (jz (a.Grants.take j) row) a.Grants[j]:=by grind [sE,jz]
    simp only [n6,show (j:Int)<(a.Grants.length:Int) by omega,aH,bu hj,ab,cb d.1.1,cb d.2.1,jW (row:=jz (a.Grants.take j) row) (k:=a.Grants[j].Who.toNat) (by omega),
     jW (row:=jz (a.Grants.take j) row) (k:=a.Grants[j].For.toNat) (by omega),iL j (by omega),e,mi]
    grind)
   (by simp [n6])
  exact h
 have outer:=me (B:=fun v=>n7 a v.1 v.2) a.Many.toNat (fun n=>(iP a.Grants n (Bj a.Many.toNat i.toNat),n)) (x:=(iE a.Many.toNat a.Grants i.toNat,a.Many.toNat,false))
  (fun n hn=>by
   have t:=inner n (iP a.Grants n (Bj a.Many.toNat i.toNat)) ((by grind [oU,Bj]))
   simp only [n7,show (n:Int)<a.Many by omega,aH,t,ab,iL n (by omega)]
   rfl)
  (by grind [n7,iE])
 have outer':lp (fun v=>n7 a v.1 v.2) ((List.replicate a.Many.toNat false).set i.toNat true,0)=_:=outer
 have hz:(List.replicate a.Many.toNat false)[i.toNat]? =some false:=by grind
 have hr:=jW (row:=iE a.Many.toNat a.Grants i.toNat) (k:=k.toNat) (by rw [Bk];omega)
 simp only [oX,cb (show 0≤a.Many by omega),ab,show a.Many.toNat≤1000000000 by omega,aH,cb u,hz,outer',cb f,hr,eV]
theorem amG(ps:List cp)(hp:T9 a.Many ps)(who:Nat)(hw:who<a.Many.toNat):Eg a (who:Int) ps=some (yg a.Many.toNat a.Grants ps who):=by
 obtain ⟨h1,h2,h3,h4⟩:=mU c
 have hr:∀ n,de a.Many n=true→oX a (who:Int) n=some (eV a.Many.toNat a.Grants who n.toNat):=by grind [Hx,yN]
 have inner:∀ (i:Nat)(hi:i<ps.length)(b:Bool),lp (fun v=>vK a (who:Int) ps i v.1 v.2) (b,0)=some (b||ps[i].Names.any (fun n=>eV a.Many.toNat a.Grants who n.toNat),ps[i].Names.length,false):=by
  intro i hi b
  obtain ⟨_,hl,hn⟩:=hp.2 _ (cg hi)
  have h:=me (B:=fun v=>vK a (who:Int) ps i v.1 v.2) ps[i].Names.length (fun k=>(b||(ps[i].Names.take k).any (fun n=>eV a.Many.toNat a.Grants who n.toNat),k)) (x:=(b||ps[i].Names.any (fun n=>eV a.Many.toNat a.Grants who n.toNat),ps[i].Names.length,false))
   (fun k hk=>by
    have g:(k:Int)<(ps[i].Names.length:Int):=by omega
    simp only [vK,bu hi,bu hk,ab,g,aH,hr _ (hn _ (cg hk)),iL k (by omega),sE hk,List.any_append,List.any_cons,List.any_nil]
    grind)
   (by grind [vK])
  simpa using h
 have outer:=pj (B:=fun v=>vL a (who:Int) ps v) ps (fun p=>!(eV a.Many.toNat a.Grants who p.Owner.toNat||p.Names.any fun n=>eV a.Many.toNat a.Grants who n.toNat)) id (x:=.inl ()) (y:=.inr (ps.length,false))
  (fun i hi hq=>by
   obtain ⟨ho,_,_⟩:=hp.2 _ (cg hi)
   have w:(eV a.Many.toNat a.Grants who ps[i].Owner.toNat||ps[i].Names.any fun n=>eV a.Many.toNat a.Grants who n.toNat)=true:=by grind
   have:=hp.1
   grind [vL,iL])
  (fun i hi hq=>by
   obtain ⟨ho,_,_⟩:=hp.2 _ (cg hi)
   grind [vL])
  (by simp [vL])
 grind [Eg,yg,K5]
theorem CU(l:Label)(hf:fw a.Many l=0):iW a l=some (iQ a l):=by
 obtain ⟨h1,h2,h3,h4⟩:=mU c
 obtain ⟨hr,hw⟩:=qx hf
 have h:=me (B:=fun v=>qV a l v.1 v.2.1 v.2.2) a.Many.toNat (fun k=>(k,(List.range k).map (yg a.Many.toNat a.Grants l.Read),(List.range k).map (yg a.Many.toNat a.Grants l.Write)))
  (x:=(a.Many.toNat,false,(List.range a.Many.toNat).map (yg a.Many.toNat a.Grants l.Read),(List.range a.Many.toNat).map (yg a.Many.toNat a.Grants l.Write)))
  ((by grind [qV,amG,Qm,iL,List.range_succ]))
  (by grind [qV])
 grind [iW,iQ]
theorem LL:ly a=some (jl a.Many.toNat):=by
 obtain ⟨h1,h2,h3,h4⟩:=mU c
 unfold ly
 rw [af (by omega)];rfl
end
section
variable {n:Nat}(hn:n≤1000000){l m:Level}(hl:dH n l)(hm:dH n m)
include hn hl hm
theorem CV:mX l m=some (nx n l m):=by
 unfold mX
 rw [hl.1,af ⟨hn,hl,hm⟩]
theorem BJ:kS l m=some (o9 n l m):=by
 unfold kS
 rw [hl.1,af ⟨hn,hl,hm⟩]
end
mutual
theorem JV:∀ e:ay,mE e=((ey e).filter fun x=>decide (x.Kind=2)).map (·.N)
 | ⟨k,m,args⟩=>by
  rw [mE,s9]
  have ih:=N1 args
  grind
theorem N1:∀ l:List ay,qQ l=((fv l).filter fun x=>decide (x.Kind=2)).map (·.N)
 | []=>rfl
 | e::r=>by
  rw [qQ,fv,List.filter_append,cQ,JV e,N1 r]
end
theorem Hy{p:Program}(h:nz p){V F:List Level}(hV:K9 p V F):∀ (L:List ay)(v:Level),dH (MM p) v→(∀ x∈L,x.Kind=2→0≤x.N∧x.N.toNat<V.length)→
  BF V L v=some (Qw (MM p) V ((L.filter fun x=>decide (x.Kind=2)).map (·.N)) v)
 | [],v,hv,_=>rfl
 | x::r,v,hv,hx=>by
  rw [BF]
  by_cases hk:x.Kind=2
  ·obtain ⟨h0,h1⟩:=hx x (by simp) hk
   rw [af hk,cb h0,ab,bu h1,ab,BJ h.small hv (hV.vs _ (cg h1)),ab,Hy h hV r _ (tF _ _ _) fun y hy=>hx y (by simp [hy]),List.filter_cons_of_pos (by simpa using hk),je]
   grind [Qw]
  ·rw [ah hk,Hy h hV r v hv fun y hy=>hx y (by simp [hy]),List.filter_cons_of_neg (by simpa using hk)]
variable {e:ay}
theorem JW{p:Program}(h:eP p e=0):sz e≤15:=by
 grind [cV.eP]
theorem Wx{p:Program}(h:nz p){V F:List Level}(hV:K9 p V F)(he:eP p e=0):n8 p V e=some (Zr (MM p) V e):=by
 have hs:=JW he
 unfold n8
 rw [LL _ h.eV,ab,H4 hs,ab,af (by rw [A4];omega),Hy h hV _ _ (vG _) fun x hx hk=>?_,←JV]
 ·rfl
 ·have:=(qi (sD he x hx)).2.2.2.2 hk
  have:=hV.vl
  omega
variable [Lp]
theorem Uo(n:Nat)(a b:Level):o9 n a b=o9 n b a:=by
 simp [o9,qy,wz,Bool.and_comm,Bool.or_comm]
section
variable {p:Program}(h:nz p)
include h
theorem SY{o:Int}(ho:de p.ak.Many o=true):AA p o=some (JA p o):=by
 have hl:=NX h
 have q:=pj (B:=fun v=>pL p o v) p.Speak (fun n=>Qv p n o) id (x:=.inl ()) (y:=.inr (p.Speak.length,false))
  (fun k hk hp=>by
   have ha:=Hx p.ak h.eV p.Speak[k] o (h.speak _ (cg hk)) ho
   grind [pL,iL])
  (fun k hk hp=>by
   have ha:=Hx p.ak h.eV p.Speak[k] o (h.speak _ (cg hk)) ho
   grind [pL])
  (by simp [pL])
 grind [AA,JA]
theorem Hz{l:List cp}(hl:tD p.ak.Many l=0):sM p l=some (!zn p l):=by
 obtain ⟨l4,lo⟩:=yd hl
 have q:=pj (B:=fun v=>m5 p l v) l (fun x=>!JA p x.Owner) id (x:=.inl ()) (y:=.inr (l.length,false))
  ((by grind [SY,wx,m5,iL]))
  ((by grind [SY,wx,m5]))
  (by simp [m5])
 grind [zn,sM]
theorem Q0{n:Int}(h0:0≤n)(h1:n.toNat<p.Vars.length):p.Vars[n.toNat]? =some (iu p n)∧iu p n∈p.Vars:=by
 have:=AL h h0 h1
 unfold CH at this
 rw [cb h0,ab] at this
 exact this
theorem SZ(φ:Int→Bool)(e:ay):((mE e).any φ)=(ey e).any fun x=>decide (x.Kind=2)&&φ x.N:=by
 grind [JV]
theorem aap{s:Stmt}(hv:0≤s.Var∧s.Var<p.Vars.length)(he:eP p s.Expr=0):sN p s=some (tG p s):=by
 unfold sN tG
 by_cases k6:s.Kind=6
 ·obtain ⟨h1,h2⟩:=Q0 h hv.1 (by omega)
  rw [af (by simp [k6]),af k6,cb hv.1,ab,h1,ab,Hz h (qx (h.vars _ h2)).2];rfl
 ·have hs:=JW he
  have hlen:=A4 s.Expr
  have q:=pj (B:=fun v=>kT p (ey s.Expr) v) (ey s.Expr) (fun x=>decide (x.Kind=2)&&!zn p (iu p x.N).Label.Read) id (x:=.inl ()) (y:=.inr ((ey s.Expr).length,false))
   (fun k hk hp=>by
    by_cases k2:(ey s.Expr)[k].Kind=2
    ·have hu:=(qi (sD he _ (cg hk))).2.2.2.2 k2
     obtain ⟨h1,h2⟩:=Q0 h (n:=(ey s.Expr)[k].N) (by omega) (by omega)
     have ha:=Hz h (qx (h.vars _ h2)).1
     grind [kT,cb,iL]
    grind [kT,iL])
   (fun k hk hp=>by
    have hp:(ey s.Expr)[k].Kind=2∧zn p (iu p (ey s.Expr)[k].N).Label.Read=false:=by simpa using hp
    have hu:=(qi (sD he _ (cg hk))).2.2.2.2 hp.1
    obtain ⟨h1,h2⟩:=Q0 h (n:=(ey s.Expr)[k].N) (by omega) (by omega)
    have ha:=Hz h (qx (h.vars _ h2)).1
    grind [kT,cb])
   (by simp [kT])
  grind [H4,SZ]
theorem aaq{s:Stmt}(hv:0≤s.Var∧s.Var<p.Vars.length)(he:eP p s.Expr=0):sO p s=some (tH p s):=by
 unfold sO tH
 by_cases k6:s.Kind=6
 ·grind [Q0,cb]
 ·have hs:=JW he
  have hlen:=A4 s.Expr
  have q:=pj (B:=fun v=>kU p (ey s.Expr) v) (ey s.Expr) (fun x=>decide (x.Kind=2)&&!(iu p x.N).Known) id (x:=.inl ()) (y:=.inr ((ey s.Expr).length,false))
   (fun k hk hp=>by
    by_cases k2:(ey s.Expr)[k].Kind=2
    ·have hu:=(qi (sD he _ (cg hk))).2.2.2.2 k2
     grind [iu,kU,cb,iL]
    grind [kU,iL])
   (fun k hk hp=>by
    have hp:(ey s.Expr)[k].Kind=2∧(iu p (ey s.Expr)[k].N).Known=false:=by simpa using hp
    have hu:=(qi (sD he _ (cg hk))).2.2.2.2 hp.1
    grind [Q0,kU,cb])
   (by simp [kU])
  grind [H4,SZ]
end
end Go.Proofs.YtlmphbbhaeampaaGreat.A
