/- Watched runs: the watcher's runner does what is done step by step, and may be stopped. -/
import Derived.Test.YtdpjofmmokaobaaGreatWatQ
set_option linter.unusedSectionVars false
set_option linter.unusedVariables false
set_option linter.unusedSimpArgs false
namespace Go.Proofs.YtdpjofmmokaobaaGreat.A
open Go
variable [Lp]
def Td(X:Ctx)(c:js)(r:RunT):Prop:=r.End=3∧∃ q:js,bW X c q∧r.Steps≤q.2.Steps∧∃ es,q.2.Events=r.Events++es
def yz(X:Ctx)(c:js)(r:RunT):Prop:=(r.End=2∧bW X c ([],r))∨Td X c r
theorem yz.back{X:Ctx}{c d:js}{r:RunT}(h:bW X c d):yz X d r→yz X c r
 | .inl ⟨h1,h2⟩=>.inl ⟨h1,h.trans h2⟩
 | .inr ⟨h1,q,h2,h3⟩=>.inr ⟨h1,q,h.trans h2,h3⟩
def Ak(r:RunT)(a:Int):RunT:=⟨r.Events,r.Vars,r.Taken,r.Steps,3,a⟩
theorem BF{X:Ctx}{c:js}{r:RunT}{a:Int}{q:js}(h:bW X c q)(hs:q.2.Steps=r.Steps)(he:∃ es,q.2.Events=r.Events++es):yz X c (Ak r a):=
 .inr ⟨rfl,q,h,by rw [hs];exact Int.le_refl _,he⟩
noncomputable abbrev NW(n:Nat):=aZ n
theorem xZ(X:Ctx)(w:ak)(r:RunT)(c2:aw)(a:Int):eK w (mk X r) c2 a=some (false,mk X (Ak r a)):=rfl
def JE(X:Ctx)(n:Nat):Prop:=∀ (i:Nat)(l:List Stmt),i≤X.p.Funcs.length→3*gu l+100*i+1≤n→ed (cC X.p i) l=0→cp l≤50→gu l≤6→∀ (r:RunT)(a:Int)(vs pl:List Level),Valid X 0 r→0≤a→a+cp l≤200→WV X.p vs pl→(pl.length:Int)≤r.Steps+1→
 ∃ b vs' r',(NW n).f_watch_watcher_all (cP X.p vs pl) (mk X r) (dQ X.p) l a=some (b,cP X.p vs' pl,mk X r')∧WV X.p vs' pl∧(b=true→Valid X 0 r'∧r.Steps≤r'.Steps∧∀ K,bW X (.run l a::K,r) (K,r'))∧(b=false→∀ K,yz X (.run l a::K,r) r')
def Nc(X:Ctx)(n:Nat):Prop:=∀ (i:Nat)(s:Stmt),i≤X.p.Funcs.length→3*dep s+100*i≤n→uv (cC X.p i) s=0→gw s≤50→dep s≤6→∀ (r:RunT)(a:Int)(vs pl:List Level),Valid X 0 r→0≤a→a+gw s≤200→WV X.p vs pl→(pl.length:Int)≤r.Steps+1→
 ∃ b vs' r',(NW n).f_watch_watcher_one (cP X.p vs pl) (mk X r) (dQ X.p) s a=some (b,cP X.p vs' pl,mk X r')∧WV X.p vs' pl∧(b=true→Valid X 0 r'∧r.Steps≤r'.Steps∧∀ l K,bW X (.run (s::l) a::K,r) (.run l (a+gw s)::K,r'))∧(b=false→∀ l K,yz X (.run (s::l) a::K,r) r')
def GO(X:Ctx)(n:Nat):Prop:=∀ (i:Nat)(s:Stmt),i≤X.p.Funcs.length→3*dep s+100*i≤n+1→uv (cC X.p i) s=0→gw s≤50→dep s≤6→7≤s.Kind→∀ (r:RunT)(a:Int)(vs pl:List Level),Valid X 1 r→0≤a→a+gw s≤200→WV X.p vs pl→(pl.length:Int)≤r.Steps→
 ∃ b vs' ex r',(NW n).f_watch_watcher_inner (cP X.p vs pl) (mk X r) (dQ X.p) s a=some (b,cP X.p vs' (pl++ex),mk X r')∧WV X.p vs' (pl++ex)∧(b=true→Valid X 0 r'∧r.Steps≤r'.Steps∧∀ l K,bW X (eV X s a l K r) (.run l (a+gw s)::K,r'))∧(b=false→∀ l K,yz X (eV X s a l K r) r')
def JF(X:Ctx)(n:Nat):Prop:=∀ (i:Nat)(s:Stmt),i≤X.p.Funcs.length→100*i≤n→cC X.p i s=0→s.Kind=2→∀ (r:RunT)(a:Int)(vs pl:List Level),Valid X 1 r→WV X.p vs pl→(pl.length:Int)≤r.Steps+1→
 ∃ b vs' r',(NW n).f_watch_watcher_call (cP X.p vs pl) (mk X r) (dQ X.p) s a=some (b,cP X.p vs' pl,mk X r')∧WV X.p vs' pl∧(b=true→Valid X 0 r'∧r.Steps≤r'.Steps∧∀ l K,bW X (eV X s a l K r) (.run l (a+gw s)::K,r'))∧(b=false→∀ l K,yz X (eV X s a l K r) r')
theorem KT{X:Ctx}(hX:pD X){n:Nat}(h1:Nc X n):JE X (n+1):=by
 intro i l hi hn hok hc hd r a vs pl hv ha hac hw hpl
 show ∃ b vs' r',dK (NW n) (cP X.p vs pl) (mk X r) (dQ X.p) l a=some (b,cP X.p vs' pl,mk X r')∧_
 unfold dK
 have hlen:=uw l
 obtain ⟨x,hx,hQ⟩:=fU (B:=fun v=>fv (NW n) (dQ X.p) l v.1 v.2.1 v.2.2.1 v.2.2.2) (fun v=>l.length - v.2.2.2)
  (fun v=>v.2.2.2≤l.length∧∃ vs1 r1,v.1=cP X.p vs1 pl∧v.2.1=mk X r1∧WV X.p vs1 pl∧Valid X 0 r1∧r.Steps≤r1.Steps∧a≤v.2.2.1∧v.2.2.1+cp (l.drop v.2.2.2)=a+cp l∧∀ K,bW X (.run l a::K,r) (.run (l.drop v.2.2.2) v.2.2.1::K,r1))
  (fun x=>(∃ vs1 r1,x= .inl (cP X.p vs1 pl,mk X r1)∧WV X.p vs1 pl∧∀ K,yz X (.run l a::K,r) r1)∨(∃ b c vs1 r1,x= .inr (b,c,false,cP X.p vs1 pl,mk X r1)∧WV X.p vs1 pl∧Valid X 0 r1∧r.Steps≤r1.Steps∧∀ K,bW X (.run l a::K,r) (K,r1))) (by
   rintro ⟨w,c,b,k⟩ ⟨hk,vs1,r1,rfl,rfl,w1,v1,v2,v3,v4,v5⟩
   simp only at hk v3 v4 v5 ⊢
   unfold fv
   by_cases hlt:k<l.length
   ·have hm:=List.getElem_mem hlt
    have g1:=ux hm
    have g2:=uy hm
    have hoks:=Bs hok _ hm
    rw [List.drop_eq_getElem_cons hlt,cp] at v4
    rw [List.drop_eq_getElem_cons hlt] at v5
    rw [if_pos (by omega),List.getElem?_eq_getElem hlt,Option.bind_some]
    generalize l[k]=s at *
    have g3:=sE s
    have g4:=mC s
    obtain ⟨bb,vs2,r2,e1,e4,e2,e3⟩:=h1 i s hi (by omega) hoks (by omega) (by omega) r1 b vs1 pl v1 (by omega) (by omega) w1 (by omega)
    rw [e1,Option.bind_some]
    cases bb with
    | false=>exact .inl ⟨_,rfl,.inl ⟨vs2,r2,rfl,e4,fun K=>(e3 rfl _ K).back (v5 K)⟩⟩
    | true=>
     obtain ⟨t1,t2,t3⟩:=e2 rfl
     simp only [if_true]
     rw [rz (by omega) (by omega),Option.bind_some,if_pos (jQ (by omega) (by omega)),rz (by omega) (by omega),Option.bind_some,if_pos (jQ (by omega) (by omega)),if_pos (jQ (by omega) (by omega)),if_pos (jR (by omega))]
     have ec:b+(1+(cp s.Then:Int)+(cp s.Else:Int))=b+(gw s:Int):=by omega
     rw [ec]
     exact .inr ⟨_,rfl,⟨by simp only;omega,vs2,r2,rfl,rfl,e4,t1,by omega,by simp only;omega,by simp only;omega,fun K=>(v5 K).trans (t3 _ K)⟩,by simp only;omega⟩
   ·rw [if_neg (by omega)]
    have hdr:l.drop k=[]:=List.drop_eq_nil_of_le (by omega)
    rw [hdr] at v5
    exact .inl ⟨_,rfl,.inr ⟨b,k,vs1,r1,by rw [decide_eq_false (show ¬(k:Int)<(l.length:Int) by omega)],w1,v1,v2,fun K=>(v5 K).trans (bW.one rfl)⟩⟩) (cP X.p vs pl,mk X r,a,0) ⟨Nat.zero_le _,vs,r,rfl,rfl,hw,hv,Int.le_refl _,Int.le_refl _,rfl,fun K=>bW.refl _ _⟩
 rw [hx,Option.bind_some]
 rcases hQ with ⟨vs1,r1,rfl,q1,q2⟩ | ⟨b,c,vs1,r1,rfl,q0,q1,q2,q3⟩
 ·exact ⟨false,vs1,r1,rfl,q1,fun h=>(by cases h),fun _=>q2⟩
 ·exact ⟨true,vs1,r1,rfl,q0,fun _=>⟨q1,q2,q3⟩,fun h=>by cases h⟩
theorem JG{X:Ctx}(hX:pD X)(hL:oR X.p){n:Nat}(h1:JE X n):JF X (n+1):=by
 intro i s hi hn hok hk r a vs pl hv hw hpl
 show ∃ b vs' r',dD (NW n) (cP X.p vs pl) (mk X r) (dQ X.p) s a=some (b,cP X.p vs' pl,mk X r')∧_
 unfold dD
 obtain ⟨c1,c2,c3,c4,c5,c6,c7⟩:=called hX hi hok hk
 obtain ⟨f1,f2,f3,f4⟩:=CI c4
 obtain ⟨o1,o2,o3,o4,o5,o6⟩:=oA hok
 have v1:=o2 (by rw [hk];rfl)
 obtain ⟨b1,vs1,d1,d2⟩:=KR hX hL hw (mk X r) hi hok hk
 have hst:∀ l K,yz X (eV X s a l K r) (Ak r a):=fun l K=>BF (bW.refl _ _) (oz X s a l K r).2.1 (oz X s a l K r).2.2.1
 rw [d1,Option.bind_some]
 cases b1 with
 | false=>
  rw [if_neg (by simp),xZ,Option.bind_some]
  exact ⟨false,vs1,Ak r a,rfl,d2,fun h=>(by cases h),fun _=>hst⟩
 | true=>
  obtain ⟨e1,e2⟩:=Gv hX hi hok hk hv
  obtain ⟨g1,g2,g3⟩:=xT hX c1 (by omega)
  have hF:et (mk X (mD X s r)) s.Other=some (nth X.first s.Other):=by
   unfold et
   rw [cj c1,Option.bind_some]
   simp only [mk]
   rw [g1,Option.bind_some]
  rw [if_pos rfl,e1,Option.bind_some,cj c1,Option.bind_some,Aj,c3,Option.bind_some,hF,Option.bind_some]
  have hsteps:(mD X s r).Steps=r.Steps:=rfl
  obtain ⟨bb,vs2,r2,t1,t4,t2,t3⟩:=h1 s.Other.toNat (fl X s).Body (by omega) (by omega) f3 c6 c7 (mD X s r) (nth X.first s.Other) vs1 pl e2.less g2 (by omega) d2 (by rw [hsteps];omega)
  rw [t1,Option.bind_some]
  have hgo:∀ l K,eV X s a l K r=(.run (fl X s).Body (nth X.first s.Other)::.leave s::.run l (a+gw s)::K,mD X s r):=fun l K=>by unfold eV;rw [if_pos hk]
  cases bb with
  | false=>exact ⟨false,vs2,r2,rfl,t4,fun h=>(by cases h),fun _ l K=>by rw [hgo];exact t3 rfl _⟩
  | true=>
   obtain ⟨u1,u2,u3⟩:=t2 rfl
   obtain ⟨l1,l2⟩:=Gw hX hi hok hk u1
   obtain ⟨lv,j1,j2⟩:=xh hL t4 (mk X r2) (dQ X.p) f4
   obtain ⟨b3,vs3,j3,j4⟩:=Ai hL t4 (mk X r2) (dQ X.p) v1.1 v1.2 j2
   rw [if_pos rfl,j1,Option.bind_some,j3,Option.bind_some]
   cases b3 with
   | false=>
    rw [if_neg (by simp),xZ,Option.bind_some]
    exact ⟨false,vs3,Ak r2 a,rfl,j4,fun h=>(by cases h),fun _ l K=>by rw [hgo];exact BF (u3 _) rfl ⟨[],by simp⟩⟩
   | true=>
    rw [if_pos rfl,l1,Option.bind_some]
    exact ⟨true,vs3,uA X s r2,rfl,j4,fun _=>⟨l2,u2,fun l K=>by rw [hgo];exact (u3 _).trans (bW.one rfl)⟩,fun h=>by cases h⟩
theorem HS{X:Ctx}(hX:pD X)(hL:oR X.p){n:Nat}(h1:JE X n):GO X (n+1):=by
 intro i s hi hn hok hc hd hk r a vs pl hv ha hac hw hpl
 obtain ⟨s1,s2,s3⟩:=xR hok
 obtain ⟨o1,o2,o3,o4,o5,o6⟩:=oA s1
 have he:=o5 (by simp [fR];omega)
 have g3:=sE s
 have g4:=mC s
 have hfu:=hX.fuel
 have hst:=hv.steps
 show ∃ b vs' ex r',dm (NW n) (cP X.p vs pl) (mk X r) (dQ X.p) s a=some (b,cP X.p vs' (pl++ex),mk X r')∧_
 unfold dm
 obtain ⟨lv,j1,j2⟩:=GN hL hw (mk X r) (dQ X.p) he (by omega)
 have hpl2:((pl++[lv]).length:Int)≤r.Steps+1:=by simp only [List.length_append,List.length_singleton];omega
 rw [j1,Option.bind_some]
 by_cases k7:s.Kind=7
 ·rw [if_pos (by simp [k7])]
  unfold iM
  rw [Ae hv he,Option.bind_some]
  have hgo:∀ l K,eV X s a l K r=(.run (if dt r.Vars s.Expr≠0 then s.Then else s.Else) (if dt r.Vars s.Expr≠0 then a+1 else a+1+cp s.Then)::.run l (a+gw s)::K,r):=fun l K=>by
   unfold eV
   rw [if_neg (by omega),if_pos k7]
  by_cases h0:dt r.Vars s.Expr=0
  ·rw [if_neg (by simp [h0]),if_pos (jQ (by omega) (by omega)),rz (by omega) (by omega),Option.bind_some,if_pos (jQ (by omega) (by omega)),Option.bind_some]
   obtain ⟨bb,vs2,r2,t1,t4,t2,t3⟩:=h1 i s.Else hi (by omega) s3 (by omega) (by omega) r (a+1+cp s.Then) vs _ hv.less (by omega) (by omega) j2 hpl2
   simp only
   rw [t1,Option.bind_some]
   refine ⟨bb,vs2,[lv],r2,rfl,t4,fun hb=>?_,fun hb=>?_⟩
   ·obtain ⟨u1,u2,u3⟩:=t2 hb
    exact ⟨u1,u2,fun l K=>by rw [hgo,if_neg (by simp [h0]),if_neg (by simp [h0])];exact u3 _⟩
   ·exact fun l K=>by rw [hgo,if_neg (by simp [h0]),if_neg (by simp [h0])];exact t3 hb _
  ·rw [if_pos (by simp [h0]),if_pos (jQ (by omega) (by omega)),Option.bind_some]
   obtain ⟨bb,vs2,r2,t1,t4,t2,t3⟩:=h1 i s.Then hi (by omega) s2 (by omega) (by omega) r (a+1) vs _ hv.less (by omega) (by omega) j2 hpl2
   simp only
   rw [t1,Option.bind_some]
   refine ⟨bb,vs2,[lv],r2,rfl,t4,fun hb=>?_,fun hb=>?_⟩
   ·obtain ⟨u1,u2,u3⟩:=t2 hb
    exact ⟨u1,u2,fun l K=>by rw [hgo,if_pos h0,if_pos h0];exact u3 _⟩
   ·exact fun l K=>by rw [hgo,if_pos h0,if_pos h0];exact t3 hb _
 ·rw [if_neg (by simp [k7])]
  have k8:s.Kind=8:=by omega
  have hgo:∀ l K (q:RunT),eV X s a l K q=if dt q.Vars s.Expr≠0 then (.run s.Then (a+1)::.run (s::l) a::K,q) else (.run l (a+gw s)::K,q):=fun l K q=>by
   unfold eV
   rw [if_neg (by omega),if_neg k7,if_pos k8]
  obtain ⟨x,hx,hQ⟩:=fU (B:=fun v=>eL (NW n) (dQ X.p) s a v.1 v.2) (fun v=>(v.2.fuel - v.2.aA.Steps).toNat)
   (fun v=>∃ vs1 ex q,v=(cP X.p vs1 (pl++ex),mk X q)∧WV X.p vs1 (pl++ex)∧((pl++ex).length:Int)≤q.Steps+1∧Valid X 1 q∧r.Steps≤q.Steps∧∀ l K,bW X (eV X s a l K r) (eV X s a l K q))
   (fun x=>(∃ vs1 ex q,x= .inl (cP X.p vs1 (pl++ex),mk X q)∧WV X.p vs1 (pl++ex)∧∀ l K,yz X (eV X s a l K r) q)∨(∃ b vs1 ex q,x= .inr (b,cP X.p vs1 (pl++ex),mk X q)∧WV X.p vs1 (pl++ex)∧Valid X 0 q∧r.Steps≤q.Steps∧∀ l K,bW X (eV X s a l K r) (.run l (a+gw s)::K,q))) (by
    rintro v ⟨vs1,ex,q,rfl,w1,w2,v1,v2,v3⟩
    simp only
    unfold eL
    rw [Ae v1 he,Option.bind_some]
    by_cases h0:dt q.Vars s.Expr=0
    ·rw [if_neg (by simp [h0])]
     refine .inl ⟨_,rfl,.inr ⟨_,vs1,ex,q,rfl,w1,v1.less,v2,fun l K=>?_⟩⟩
     have:=v3 l K
     rw [hgo l K q,if_neg (by simp [h0])] at this
     exact this
    ·rw [if_pos (by simp [h0]),if_pos (jQ (by omega) (by omega))]
     obtain ⟨bb,vs2,r2,t1,t4,t2,t3⟩:=h1 i s.Then hi (by omega) s2 (by omega) (by omega) q (a+1) vs1 _ v1.less (by omega) (by omega) w1 w2
     rw [t1,Option.bind_some]
     have hv3:∀ l K,bW X (eV X s a l K r) (.run s.Then (a+1)::.run (s::l) a::K,q):=fun l K=>by
      have:=v3 l K
      rw [hgo l K q,if_pos h0] at this
      exact this
     cases bb with
     | false=>exact .inl ⟨_,rfl,.inl ⟨vs2,ex,r2,rfl,t4,fun l K=>(t3 rfl _).back (hv3 l K)⟩⟩
     | true=>
      obtain ⟨u1,u2,u3⟩:=t2 rfl
      simp only [if_true]
      rw [Ad hX u1,Option.bind_some]
      by_cases hf:r2.Steps=X.fuel
      ·rw [if_pos hf]
       simp only [Bool.false_eq_true,if_false]
       refine .inl ⟨_,rfl,.inl ⟨vs2,ex,r2.out,rfl,t4,fun l K=>.inl ⟨rfl,((hv3 l K).trans (u3 _)).trans (bW.one ?_)⟩⟩⟩
       simp only [fg,if_pos hf]
      ·rw [if_neg hf]
       simp only [if_true]
       have hst:=u1.steps
       have hq:=v1.steps
       obtain ⟨lv2,j3,j4⟩:=GN hL t4 (mk X r2.tick) (dQ X.p) he (by omega)
       rw [j3,Option.bind_some]
       refine .inr ⟨_,rfl,⟨vs2,ex++[lv2],r2.tick,by rw [List.append_assoc],by rw [←List.append_assoc];exact j4,by simp only [RunT.tick,List.length_append,List.length_singleton] at w2 ⊢;omega,u1.tick hf,by simp only [RunT.tick];omega,fun l K=>((hv3 l K).trans (u3 _)).trans (bW.one ?_)⟩,?_⟩
       ·simp only [fg,if_neg hf]
       ·simp only [mk,RunT.tick];omega) (cP X.p vs (pl++[lv]),mk X r) ⟨vs,[lv],r,rfl,j2,hpl2,hv,Int.le_refl _,fun l K=>bW.refl _ _⟩
  rw [hx,Option.bind_some]
  rcases hQ with ⟨vs1,ex,q,rfl,q1,q2⟩ | ⟨b,vs1,ex,q,rfl,q0,q1,q2,q3⟩
  ·exact ⟨false,vs1,ex,q,rfl,q1,fun h=>(by cases h),fun _=>q2⟩
  ·exact ⟨true,vs1,ex,q,rfl,q0,fun _=>⟨q1,q2,q3⟩,fun h=>by cases h⟩
theorem KU{X:Ctx}(hX:pD X)(hL:oR X.p){n:Nat}(h1:JF X n)(h2:GO X n):Nc X (n+1):=by
 intro i s hi hn hok hc hd r a vs pl hv ha hac hw hpl
 obtain ⟨s1,s2,s3⟩:=xR hok
 have g4:=mC s
 show ∃ b vs' r',dL (NW n) (cP X.p vs pl) (mk X r) (dQ X.p) s a=some (b,cP X.p vs' pl,mk X r')∧_
 unfold dL
 rw [Ad hX hv,Option.bind_some]
 by_cases hf:r.Steps=X.fuel
 ·rw [if_pos hf]
  simp only [Bool.false_eq_true,if_false]
  exact ⟨false,vs,r.out,rfl,hw,fun h=>(by cases h),fun _ l K=>.inl ⟨rfl,bW.one (by simp only [fg,if_pos hf])⟩⟩
 ·rw [if_neg hf]
  simp only [if_true]
  have ht:=hv.tick hf
  have hgo:∀ l K,bW X (.run (s::l) a::K,r) (eV X s a l K r.tick):=fun l K=>bW.one (by simp only [fg,if_neg hf])
  have hle:r.tick.Steps=r.Steps+1:=rfl
  by_cases k2:s.Kind=2
  ·rw [if_pos (by simp [k2])]
   obtain ⟨bb,vs2,r2,t1,t4,t2,t3⟩:=h1 i s hi (by omega) s1 k2 r.tick a vs pl ht hw (by omega)
   rw [t1,Option.bind_some]
   refine ⟨bb,vs2,r2,rfl,t4,fun hb=>?_,fun hb l K=>(t3 hb l K).back (hgo l K)⟩
   obtain ⟨u1,u2,u3⟩:=t2 hb
   exact ⟨u1,by omega,fun l K=>(hgo l K).trans (u3 l K)⟩
  ·rw [if_neg (by simp [k2])]
   by_cases k7:7≤s.Kind
   ·rw [if_pos k7]
    obtain ⟨bb,vs2,ex,r2,t1,t4,t2,t3⟩:=h2 i s hi (by omega) hok hc hd k7 r.tick a vs pl ht ha hac hw (by omega)
    rw [t1,Option.bind_some]
    rw [if_pos (show (cP X.p vs pl).places.length≤(cP X.p vs2 (pl++ex)).places.length by rw [FB,FB,List.length_append];omega)]
    have htk:(⟨(),(cP X.p vs2 (pl++ex)).p,(cP X.p vs2 (pl++ex)).vars,(cP X.p vs2 (pl++ex)).places.take (cP X.p vs pl).places.length,()⟩:ak)=cP X.p vs2 pl:=by
     rw [Aj,FA,FB,FB,List.take_left];rfl
    refine ⟨bb,vs2,r2,by rw [←htk],⟨t4.len,t4.sz,hw.ne,hw.few,hw.psz,t4.known⟩,fun hb=>?_,fun hb l K=>(t3 hb l K).back (hgo l K)⟩
    obtain ⟨u1,u2,u3⟩:=t2 hb
    exact ⟨u1,by omega,fun l K=>(hgo l K).trans (u3 l K)⟩
   ·rw [if_neg k7]
    obtain ⟨b0,vs2,d1,d2⟩:=KQ hL hw (mk X r.tick) s1 ⟨k2,by omega⟩
    rw [d1,Option.bind_some]
    cases b0 with
    | false=>
     simp only [Bool.false_eq_true,if_false]
     rw [xZ,Option.bind_some]
     exact ⟨false,vs2,Ak r.tick a,rfl,d2,fun h=>(by cases h),fun _ l K=>BF (hgo l K) (oz X s a l K r.tick).2.1 (oz X s a l K r.tick).2.2.1⟩
    | true=>
     simp only [if_true]
     obtain ⟨q1,q2⟩:=Oe hX s1 ⟨k2,by omega⟩ ht a
     rw [q1,Option.bind_some]
     refine ⟨true,vs2,AQ X s a r.tick,rfl,d2,fun _=>⟨q2,?_,fun l K=>?_⟩,fun h=>by cases h⟩
     ·have:=(oz X s a [] [] r.tick).2.1
      unfold eV at this
      rw [if_neg k2,if_neg (by omega),if_neg (by omega)] at this
      simp only at this
      omega
     ·have:=hgo l K
      unfold eV at this
      rw [if_neg k2,if_neg (by omega),if_neg (by omega)] at this
      exact this
theorem Pa{X:Ctx}(hX:pD X)(hL:oR X.p):∀ n,JE X n∧Nc X n∧GO X n∧JF X n:=by
 intro n
 induction n with
 | zero=>
  refine ⟨fun i l _ h=>by omega,fun i s _ h=>?_,fun i s _ h=>?_,fun i s hi h hok hk=>?_⟩
  ·have:=mC s;omega
  ·have:=mC s;omega
  ·have:=(called hX hi hok hk).2.1;omega
 | succ n ih=>exact ⟨KT hX ih.2.1,KU hX hL ih.2.2.2 ih.2.2.1,HS hX hL ih.1,JG hX hL ih.1⟩
end Go.Proofs.YtdpjofmmokaobaaGreat.A
