/- Watched runs: the watcher's runner does what is done step by step, and may be stopped. -/
import Derived.Test.YtdpjofmmokaobaaGreatWatQ
set_option linter.unusedSectionVars false
set_option linter.unusedVariables false
set_option linter.unusedSimpArgs false
set_option linter.constructorNameAsVariable false
namespace Go.Proofs.YtdpjofmmokaobaaGreat.A
open Go
variable [Lp]
def YQ(X:Ctx)(c:mD)(r:RunT):Prop:=r.End=3∧∃ q:mD,ez X c q∧r.Steps≤q.2.Steps∧∃ es,q.2.Events=r.Events++es
def yc(X:Ctx)(c:mD)(r:RunT):Prop:=(r.End=2∧ez X c ([],r))∨YQ X c r
theorem yc.back{X:Ctx}{c d:mD}{r:RunT}(h:ez X c d):yc X d r→yc X c r
 | .inl ⟨h1,h2⟩=>.inl ⟨h1,h.trans h2⟩
 | .inr ⟨h1,q,h2,h3⟩=>.inr ⟨h1,q,h.trans h2,h3⟩
def zK(r:RunT)(a:Int):RunT:=⟨r.Events,r.Vars,r.Taken,r.Steps,3,a⟩
theorem Bd{X:Ctx}{c:mD}{r:RunT}{a:Int}{q:mD}(h:ez X c q)(hs:q.2.Steps=r.Steps)(he:∃ es,q.2.Events=r.Events++es):yc X c (zK r a):=
 .inr ⟨rfl,q,h,by rw [hs];exact Int.le_refl _,he⟩
noncomputable abbrev NW(n:Nat):=aV n
theorem xC(X:Ctx)(w:ak)(r:RunT)(c2:aw)(a:Int):eG w (mk X r) c2 a=some (false,mk X (zK r a)):=rfl
def IV(X:Ctx)(n:Nat):Prop:=∀ (i:Nat)(l:List Stmt),i≤X.p.Funcs.length→3*im l+100*i+1≤n→eg (cC X.p i) l=0→cw l≤50→im l≤6→∀ (r:RunT)(a:Int)(vs pl:List Level),Valid X 0 r→0≤a→a+cw l≤200→WV X.p vs pl→(pl.length:Int)≤r.Steps+1→
 ∃ b vs' r',(NW n).f_watch_watcher_all (cE X.p vs pl) (mk X r) (dJ X.p) l a=some (b,cE X.p vs' pl,mk X r')∧WV X.p vs' pl∧(b=true→Valid X 0 r'∧r.Steps≤r'.Steps∧∀ K,ez X (.run l a::K,r) (K,r'))∧(b=false→∀ K,yc X (.run l a::K,r) r')
def Ml(X:Ctx)(n:Nat):Prop:=∀ (i:Nat)(s:Stmt),i≤X.p.Funcs.length→3*dep s+100*i≤n→xr (cC X.p i) s=0→mC s≤50→dep s≤6→∀ (r:RunT)(a:Int)(vs pl:List Level),Valid X 0 r→0≤a→a+mC s≤200→WV X.p vs pl→(pl.length:Int)≤r.Steps+1→
 ∃ b vs' r',(NW n).f_watch_watcher_one (cE X.p vs pl) (mk X r) (dJ X.p) s a=some (b,cE X.p vs' pl,mk X r')∧WV X.p vs' pl∧(b=true→Valid X 0 r'∧r.Steps≤r'.Steps∧∀ l K,ez X (.run (s::l) a::K,r) (.run l (a+mC s)::K,r'))∧(b=false→∀ l K,yc X (.run (s::l) a::K,r) r')
def F7(X:Ctx)(n:Nat):Prop:=∀ (i:Nat)(s:Stmt),i≤X.p.Funcs.length→3*dep s+100*i≤n+1→xr (cC X.p i) s=0→mC s≤50→dep s≤6→7≤s.Kind→∀ (r:RunT)(a:Int)(vs pl:List Level),Valid X 1 r→0≤a→a+mC s≤200→WV X.p vs pl→(pl.length:Int)≤r.Steps→
 ∃ b vs' ex r',(NW n).f_watch_watcher_inner (cE X.p vs pl) (mk X r) (dJ X.p) s a=some (b,cE X.p vs' (pl++ex),mk X r')∧WV X.p vs' (pl++ex)∧(b=true→Valid X 0 r'∧r.Steps≤r'.Steps∧∀ l K,ez X (lC X s a l K r) (.run l (a+mC s)::K,r'))∧(b=false→∀ l K,yc X (lC X s a l K r) r')
def IW(X:Ctx)(n:Nat):Prop:=∀ (i:Nat)(s:Stmt),i≤X.p.Funcs.length→100*i≤n→cC X.p i s=0→s.Kind=2→∀ (r:RunT)(a:Int)(vs pl:List Level),Valid X 1 r→WV X.p vs pl→(pl.length:Int)≤r.Steps+1→
 ∃ b vs' r',(NW n).f_watch_watcher_call (cE X.p vs pl) (mk X r) (dJ X.p) s a=some (b,cE X.p vs' pl,mk X r')∧WV X.p vs' pl∧(b=true→Valid X 0 r'∧r.Steps≤r'.Steps∧∀ l K,ez X (lC X s a l K r) (.run l (a+mC s)::K,r'))∧(b=false→∀ l K,yc X (lC X s a l K r) r')
theorem J9{X:Ctx}(hX:tZ X){n:Nat}(h1:Ml X n):IV X (n+1):=by
 intro i l hi hn hok hc hd r a vs pl hv ha hac hw hpl
 show ∃ b vs' r',dA (NW n) (cE X.p vs pl) (mk X r) (dJ X.p) l a=some (b,cE X.p vs' pl,mk X r')∧_
 unfold dA
 have hlen:=xt l
 obtain ⟨x,hx,hQ⟩:=gR (B:=fun v=>fk (NW n) (dJ X.p) l v.1 v.2.1 v.2.2.1 v.2.2.2) (fun v=>l.length - v.2.2.2)
  (fun v=>v.2.2.2≤l.length∧∃ vs1 r1,v.1=cE X.p vs1 pl∧v.2.1=mk X r1∧WV X.p vs1 pl∧Valid X 0 r1∧r.Steps≤r1.Steps∧a≤v.2.2.1∧v.2.2.1+cw (l.drop v.2.2.2)=a+cw l∧∀ K,ez X (.run l a::K,r) (.run (l.drop v.2.2.2) v.2.2.1::K,r1))
  (fun x=>(∃ vs1 r1,x= .inl (cE X.p vs1 pl,mk X r1)∧WV X.p vs1 pl∧∀ K,yc X (.run l a::K,r) r1)∨(∃ b c vs1 r1,x= .inr (b,c,false,cE X.p vs1 pl,mk X r1)∧WV X.p vs1 pl∧Valid X 0 r1∧r.Steps≤r1.Steps∧∀ K,ez X (.run l a::K,r) (K,r1))) (by
   rintro ⟨w,c,b,k⟩ ⟨hk,vs1,r1,rfl,rfl,w1,v1,v2,v3,v4,v5⟩
   simp only at hk v3 v4 v5 ⊢
   unfold fk
   by_cases hlt:k<l.length
   ·have hm:=List.getElem_mem hlt
    have g1:=xu hm
    have g2:=xv hm
    have hoks:=FH hok _ hm
    rw [List.drop_eq_getElem_cons hlt,cw] at v4
    rw [List.drop_eq_getElem_cons hlt] at v5
    rw [if_pos (by omega),List.getElem?_eq_getElem hlt,Option.bind_some]
    generalize l[k]=s at *
    have g3:=wx s
    have g4:=tX s
    obtain ⟨bb,vs2,r2,e1,e4,e2,e3⟩:=h1 i s hi (by omega) hoks (by omega) (by omega) r1 b vs1 pl v1 (by omega) (by omega) w1 (by omega)
    rw [e1,Option.bind_some]
    cases bb with
    | false=>exact .inl ⟨_,rfl,.inl ⟨vs2,r2,rfl,e4,fun K=>(e3 rfl _ K).back (v5 K)⟩⟩
    | true=>
     obtain ⟨t1,t2,t3⟩:=e2 rfl
     simp only [if_true]
     rw [zF (by omega) (by omega),Option.bind_some,if_pos (mE (by omega) (by omega)),zF (by omega) (by omega),Option.bind_some,if_pos (mE (by omega) (by omega)),if_pos (mE (by omega) (by omega)),if_pos (jZ (by omega))]
     have ec:b+(1+(cw s.Then:Int)+(cw s.Else:Int))=b+(mC s:Int):=by omega
     rw [ec]
     exact .inr ⟨_,rfl,⟨by simp only;omega,vs2,r2,rfl,rfl,e4,t1,by omega,by simp only;omega,by simp only;omega,fun K=>(v5 K).trans (t3 _ K)⟩,by simp only;omega⟩
   ·rw [if_neg (by omega)]
    have hdr:l.drop k=[]:=List.drop_eq_nil_of_le (by omega)
    rw [hdr] at v5
    exact .inl ⟨_,rfl,.inr ⟨b,k,vs1,r1,by rw [decide_eq_false (show ¬(k:Int)<(l.length:Int) by omega)],w1,v1,v2,fun K=>(v5 K).trans (ez.one rfl)⟩⟩) (cE X.p vs pl,mk X r,a,0) ⟨Nat.zero_le _,vs,r,rfl,rfl,hw,hv,Int.le_refl _,Int.le_refl _,rfl,fun K=>ez.refl _ _⟩
 rw [hx,Option.bind_some]
 rcases hQ with ⟨vs1,r1,rfl,q1,q2⟩ | ⟨b,c,vs1,r1,rfl,q0,q1,q2,q3⟩
 ·exact ⟨false,vs1,r1,rfl,q1,fun h=>(by cases h),fun _=>q2⟩
 ·exact ⟨true,vs1,r1,rfl,q0,fun _=>⟨q1,q2,q3⟩,fun h=>by cases h⟩
theorem IX{X:Ctx}(hX:tZ X)(hL:nG X.p){n:Nat}(h1:IV X n):IW X (n+1):=by
 intro i s hi hn hok hk r a vs pl hv hw hpl
 show ∃ b vs' r',du (NW n) (cE X.p vs pl) (mk X r) (dJ X.p) s a=some (b,cE X.p vs' pl,mk X r')∧_
 unfold du
 obtain ⟨c1,c2,c3,c4,c5,c6,c7⟩:=called hX hi hok hk
 obtain ⟨f1,f2,f3,f4⟩:=ER c4
 obtain ⟨o1,o2,o3,o4,o5,o6⟩:=qc hok
 have v1:=o2 (by rw [hk];rfl)
 obtain ⟨b1,vs1,d1,d2⟩:=J8 hX hL hw (mk X r) hi hok hk
 have hst:∀ l K,yc X (lC X s a l K r) (zK r a):=fun l K=>Bd (ez.refl _ _) (tk X s a l K r).2.1 (tk X s a l K r).2.2.1
 rw [d1,Option.bind_some]
 cases b1 with
 | false=>
  rw [if_neg (by simp),xC,Option.bind_some]
  exact ⟨false,vs1,zK r a,rfl,d2,fun h=>(by cases h),fun _=>hst⟩
 | true=>
  obtain ⟨e1,e2⟩:=Mf hX hi hok hk hv
  obtain ⟨g1,g2,g3⟩:=FP hX c1 (by omega)
  have hF:eh (mk X (ph X s r)) s.Other=some (nth X.first s.Other):=by
   unfold eh
   rw [b8 c1,Option.bind_some]
   simp only [mk]
   rw [g1,Option.bind_some]
  rw [if_pos rfl,e1,Option.bind_some,b8 c1,Option.bind_some,zJ,c3,Option.bind_some,hF,Option.bind_some]
  have hsteps:(ph X s r).Steps=r.Steps:=rfl
  obtain ⟨bb,vs2,r2,t1,t4,t2,t3⟩:=h1 s.Other.toNat (fC X s).Body (by omega) (by omega) f3 c6 c7 (ph X s r) (nth X.first s.Other) vs1 pl e2.less g2 (by omega) d2 (by rw [hsteps];omega)
  rw [t1,Option.bind_some]
  have hgo:∀ l K,lC X s a l K r=(.run (fC X s).Body (nth X.first s.Other)::.leave s::.run l (a+mC s)::K,ph X s r):=fun l K=>by unfold lC;rw [if_pos hk]
  cases bb with
  | false=>exact ⟨false,vs2,r2,rfl,t4,fun h=>(by cases h),fun _ l K=>by rw [hgo];exact t3 rfl _⟩
  | true=>
   obtain ⟨u1,u2,u3⟩:=t2 rfl
   obtain ⟨l1,l2⟩:=Mg hX hi hok hk u1
   obtain ⟨lv,j1,j2⟩:=wL hL t4 (mk X r2) (dJ X.p) f4
   obtain ⟨b3,vs3,j3,j4⟩:=zI hL t4 (mk X r2) (dJ X.p) v1.1 v1.2 j2
   rw [if_pos rfl,j1,Option.bind_some,j3,Option.bind_some]
   cases b3 with
   | false=>
    rw [if_neg (by simp),xC,Option.bind_some]
    exact ⟨false,vs3,zK r2 a,rfl,j4,fun h=>(by cases h),fun _ l K=>by rw [hgo];exact Bd (u3 _) rfl ⟨[],by simp⟩⟩
   | true=>
    rw [if_pos rfl,l1,Option.bind_some]
    exact ⟨true,vs3,yN X s r2,rfl,j4,fun _=>⟨l2,u2,fun l K=>by rw [hgo];exact (u3 _).trans (ez.one rfl)⟩,fun h=>by cases h⟩
theorem Hc{X:Ctx}(hX:tZ X)(hL:nG X.p){n:Nat}(h1:IV X n):F7 X (n+1):=by
 intro i s hi hn hok hc hd hk r a vs pl hv ha hac hw hpl
 obtain ⟨s1,s2,s3⟩:=FG hok
 obtain ⟨o1,o2,o3,o4,o5,o6⟩:=qc s1
 have he:=o5 (by simp [gd];omega)
 have g3:=wx s
 have g4:=tX s
 have hfu:=hX.fuel
 have hst:=hv.steps
 show ∃ b vs' ex r',db (NW n) (cE X.p vs pl) (mk X r) (dJ X.p) s a=some (b,cE X.p vs' (pl++ex),mk X r')∧_
 unfold db
 obtain ⟨lv,j1,j2⟩:=F6 hL hw (mk X r) (dJ X.p) he (by omega)
 have hpl2:((pl++[lv]).length:Int)≤r.Steps+1:=by simp only [List.length_append,List.length_singleton];omega
 rw [j1,Option.bind_some]
 by_cases k7:s.Kind=7
 ·rw [if_pos (by simp [k7])]
  unfold oT
  rw [HK hv he,Option.bind_some]
  have hgo:∀ l K,lC X s a l K r=(.run (if dL r.Vars s.Expr≠0 then s.Then else s.Else) (if dL r.Vars s.Expr≠0 then a+1 else a+1+cw s.Then)::.run l (a+mC s)::K,r):=fun l K=>by
   unfold lC
   rw [if_neg (by omega),if_pos k7]
  by_cases h0:dL r.Vars s.Expr=0
  ·rw [if_neg (by simp [h0]),if_pos (mE (by omega) (by omega)),zF (by omega) (by omega),Option.bind_some,if_pos (mE (by omega) (by omega)),Option.bind_some]
   obtain ⟨bb,vs2,r2,t1,t4,t2,t3⟩:=h1 i s.Else hi (by omega) s3 (by omega) (by omega) r (a+1+cw s.Then) vs _ hv.less (by omega) (by omega) j2 hpl2
   simp only
   rw [t1,Option.bind_some]
   refine ⟨bb,vs2,[lv],r2,rfl,t4,fun hb=>?_,fun hb=>?_⟩
   ·obtain ⟨u1,u2,u3⟩:=t2 hb
    exact ⟨u1,u2,fun l K=>by rw [hgo,if_neg (by simp [h0]),if_neg (by simp [h0])];exact u3 _⟩
   ·exact fun l K=>by rw [hgo,if_neg (by simp [h0]),if_neg (by simp [h0])];exact t3 hb _
  ·rw [if_pos (by simp [h0]),if_pos (mE (by omega) (by omega)),Option.bind_some]
   obtain ⟨bb,vs2,r2,t1,t4,t2,t3⟩:=h1 i s.Then hi (by omega) s2 (by omega) (by omega) r (a+1) vs _ hv.less (by omega) (by omega) j2 hpl2
   simp only
   rw [t1,Option.bind_some]
   refine ⟨bb,vs2,[lv],r2,rfl,t4,fun hb=>?_,fun hb=>?_⟩
   ·obtain ⟨u1,u2,u3⟩:=t2 hb
    exact ⟨u1,u2,fun l K=>by rw [hgo,if_pos h0,if_pos h0];exact u3 _⟩
   ·exact fun l K=>by rw [hgo,if_pos h0,if_pos h0];exact t3 hb _
 ·rw [if_neg (by simp [k7])]
  have k8:s.Kind=8:=by omega
  have hgo:∀ l K (q:RunT),lC X s a l K q=if dL q.Vars s.Expr≠0 then (.run s.Then (a+1)::.run (s::l) a::K,q) else (.run l (a+mC s)::K,q):=fun l K q=>by
   unfold lC
   rw [if_neg (by omega),if_neg k7,if_pos k8]
  obtain ⟨x,hx,hQ⟩:=gR (B:=fun v=>eH (NW n) (dJ X.p) s a v.1 v.2) (fun v=>(v.2.fuel - v.2.aK.Steps).toNat)
   (fun v=>∃ vs1 ex q,v=(cE X.p vs1 (pl++ex),mk X q)∧WV X.p vs1 (pl++ex)∧((pl++ex).length:Int)≤q.Steps+1∧Valid X 1 q∧r.Steps≤q.Steps∧∀ l K,ez X (lC X s a l K r) (lC X s a l K q))
   (fun x=>(∃ vs1 ex q,x= .inl (cE X.p vs1 (pl++ex),mk X q)∧WV X.p vs1 (pl++ex)∧∀ l K,yc X (lC X s a l K r) q)∨(∃ b vs1 ex q,x= .inr (b,cE X.p vs1 (pl++ex),mk X q)∧WV X.p vs1 (pl++ex)∧Valid X 0 q∧r.Steps≤q.Steps∧∀ l K,ez X (lC X s a l K r) (.run l (a+mC s)::K,q))) (by
    rintro v ⟨vs1,ex,q,rfl,w1,w2,v1,v2,v3⟩
    simp only
    unfold eH
    rw [HK v1 he,Option.bind_some]
    by_cases h0:dL q.Vars s.Expr=0
    ·rw [if_neg (by simp [h0])]
     refine .inl ⟨_,rfl,.inr ⟨_,vs1,ex,q,rfl,w1,v1.less,v2,fun l K=>?_⟩⟩
     have:=v3 l K
     rw [hgo l K q,if_neg (by simp [h0])] at this
     exact this
    ·rw [if_pos (by simp [h0]),if_pos (mE (by omega) (by omega))]
     obtain ⟨bb,vs2,r2,t1,t4,t2,t3⟩:=h1 i s.Then hi (by omega) s2 (by omega) (by omega) q (a+1) vs1 _ v1.less (by omega) (by omega) w1 w2
     rw [t1,Option.bind_some]
     have hv3:∀ l K,ez X (lC X s a l K r) (.run s.Then (a+1)::.run (s::l) a::K,q):=fun l K=>by
      have:=v3 l K
      rw [hgo l K q,if_pos h0] at this
      exact this
     cases bb with
     | false=>exact .inl ⟨_,rfl,.inl ⟨vs2,ex,r2,rfl,t4,fun l K=>(t3 rfl _).back (hv3 l K)⟩⟩
     | true=>
      obtain ⟨u1,u2,u3⟩:=t2 rfl
      simp only [if_true]
      rw [HI hX u1,Option.bind_some]
      by_cases hf:r2.Steps=X.fuel
      ·rw [if_pos hf]
       simp only [Bool.false_eq_true,if_false]
       refine .inl ⟨_,rfl,.inl ⟨vs2,ex,r2.out,rfl,t4,fun l K=>.inl ⟨rfl,((hv3 l K).trans (u3 _)).trans (ez.one ?_)⟩⟩⟩
       simp only [pH,if_pos hf]
      ·rw [if_neg hf]
       simp only [if_true]
       have hst:=u1.steps
       have hq:=v1.steps
       obtain ⟨lv2,j3,j4⟩:=F6 hL t4 (mk X r2.tick) (dJ X.p) he (by omega)
       rw [j3,Option.bind_some]
       refine .inr ⟨_,rfl,⟨vs2,ex++[lv2],r2.tick,by rw [List.append_assoc],by rw [←List.append_assoc];exact j4,by simp only [RunT.tick,List.length_append,List.length_singleton] at w2 ⊢;omega,u1.tick hf,by simp only [RunT.tick];omega,fun l K=>((hv3 l K).trans (u3 _)).trans (ez.one ?_)⟩,?_⟩
       ·simp only [pH,if_neg hf]
       ·simp only [mk,RunT.tick];omega) (cE X.p vs (pl++[lv]),mk X r) ⟨vs,[lv],r,rfl,j2,hpl2,hv,Int.le_refl _,fun l K=>ez.refl _ _⟩
  rw [hx,Option.bind_some]
  rcases hQ with ⟨vs1,ex,q,rfl,q1,q2⟩ | ⟨b,vs1,ex,q,rfl,q0,q1,q2,q3⟩
  ·exact ⟨false,vs1,ex,q,rfl,q1,fun h=>(by cases h),fun _=>q2⟩
  ·exact ⟨true,vs1,ex,q,rfl,q0,fun _=>⟨q1,q2,q3⟩,fun h=>by cases h⟩
theorem Ka{X:Ctx}(hX:tZ X)(hL:nG X.p){n:Nat}(h1:IW X n)(h2:F7 X n):Ml X (n+1):=by
 intro i s hi hn hok hc hd r a vs pl hv ha hac hw hpl
 obtain ⟨s1,s2,s3⟩:=FG hok
 have g4:=tX s
 show ∃ b vs' r',dB (NW n) (cE X.p vs pl) (mk X r) (dJ X.p) s a=some (b,cE X.p vs' pl,mk X r')∧_
 unfold dB
 rw [HI hX hv,Option.bind_some]
 by_cases hf:r.Steps=X.fuel
 ·rw [if_pos hf]
  simp only [Bool.false_eq_true,if_false]
  exact ⟨false,vs,r.out,rfl,hw,fun h=>(by cases h),fun _ l K=>.inl ⟨rfl,ez.one (by simp only [pH,if_pos hf])⟩⟩
 ·rw [if_neg hf]
  simp only [if_true]
  have ht:=hv.tick hf
  have hgo:∀ l K,ez X (.run (s::l) a::K,r) (lC X s a l K r.tick):=fun l K=>ez.one (by simp only [pH,if_neg hf])
  have hle:r.tick.Steps=r.Steps+1:=rfl
  by_cases k2:s.Kind=2
  ·rw [if_pos (by simp [k2])]
   obtain ⟨bb,vs2,r2,t1,t4,t2,t3⟩:=h1 i s hi (by omega) s1 k2 r.tick a vs pl ht hw (by omega)
   rw [t1,Option.bind_some]
   refine ⟨bb,vs2,r2,rfl,t4,fun hb=>?_,fun hb l K=>(t3 hb l K).back (hgo l K)⟩
   obtain ⟨u1,u2,u3⟩:=t2 hb
   exact ⟨u1,by omega,fun l K=>(hgo l K).trans (u3 l K)⟩
  ·rw [if_neg (by simp [k2])]
   by_cases k7:7≤s.Kind
   ·rw [if_pos k7]
    obtain ⟨bb,vs2,ex,r2,t1,t4,t2,t3⟩:=h2 i s hi (by omega) hok hc hd k7 r.tick a vs pl ht ha hac hw (by omega)
    rw [t1,Option.bind_some]
    rw [if_pos (show (cE X.p vs pl).places.length≤(cE X.p vs2 (pl++ex)).places.length by rw [ET,ET,List.length_append];omega)]
    have htk:(⟨(),(cE X.p vs2 (pl++ex)).p,(cE X.p vs2 (pl++ex)).vars,(cE X.p vs2 (pl++ex)).places.take (cE X.p vs pl).places.length,()⟩:ak)=cE X.p vs2 pl:=by
     rw [zJ,ES,ET,ET,List.take_left];rfl
    refine ⟨bb,vs2,r2,by rw [←htk],⟨t4.len,t4.sz,hw.ne,hw.few,hw.psz,t4.known⟩,fun hb=>?_,fun hb l K=>(t3 hb l K).back (hgo l K)⟩
    obtain ⟨u1,u2,u3⟩:=t2 hb
    exact ⟨u1,by omega,fun l K=>(hgo l K).trans (u3 l K)⟩
   ·rw [if_neg k7]
    obtain ⟨b0,vs2,d1,d2⟩:=J7 hL hw (mk X r.tick) s1 ⟨k2,by omega⟩
    rw [d1,Option.bind_some]
    cases b0 with
    | false=>
     simp only [Bool.false_eq_true,if_false]
     rw [xC,Option.bind_some]
     exact ⟨false,vs2,zK r.tick a,rfl,d2,fun h=>(by cases h),fun _ l K=>Bd (hgo l K) (tk X s a l K r.tick).2.1 (tk X s a l K r.tick).2.2.1⟩
    | true=>
     simp only [if_true]
     obtain ⟨q1,q2⟩:=W3 hX s1 ⟨k2,by omega⟩ ht a
     rw [q1,Option.bind_some]
     refine ⟨true,vs2,B7 X s a r.tick,rfl,d2,fun _=>⟨q2,?_,fun l K=>?_⟩,fun h=>by cases h⟩
     ·have:=(tk X s a [] [] r.tick).2.1
      unfold lC at this
      rw [if_neg k2,if_neg (by omega),if_neg (by omega)] at this
      simp only at this
      omega
     ·have:=hgo l K
      unfold lC at this
      rw [if_neg k2,if_neg (by omega),if_neg (by omega)] at this
      exact this
theorem Od{X:Ctx}(hX:tZ X)(hL:nG X.p):∀ n,IV X n∧Ml X n∧F7 X n∧IW X n:=by
 intro n
 induction n with
 | zero=>
  refine ⟨fun i l _ h=>by omega,fun i s _ h=>?_,fun i s _ h=>?_,fun i s hi h hok hk=>?_⟩
  ·have:=tX s;omega
  ·have:=tX s;omega
  ·have:=(called hX hi hok hk).2.1;omega
 | succ n ih=>exact ⟨J9 hX ih.2.1,Ka hX hL ih.2.2.2 ih.2.2.1,Hc hX hL ih.1,IX hX hL ih.1⟩
end Go.Proofs.YtdpjofmmokaobaaGreat.A
