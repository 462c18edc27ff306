/- whole trees that are too great: the program's and the document's are the same plain function. -/
import Derived.Test.YtogbakbmphadfaaGreatDoorTreeC
set_option linter.unusedSectionVars false
set_option linter.unusedVariables false
set_option linter.unusedSimpArgs false
namespace Go.Proofs.YtogbakbmphadfaaGreatDoor.A
open Go
def q1(p:aD):Bool:=decide (6<p.Names.length)
def oX(d:aE):Bool:=decide (4<d.Label.length)||(d.Label.any q1||(decide (4<d.Params.length)||dN d.Result))
def fN:List aE→Option Int
 | []=>some 0
 | d::r=>if oX d=true then none else (bQ d.Body 1).bind fun a=>(fN r).bind fun b=>some (a+b)
theorem oY:∀ {l:List aE}{n:Int},fN l=some n→0≤n
 | [],n,h=>by obtain rfl:=Option.some.inj h;omega
 | d::r,n,h=>by
  simp only [fN] at h
  split at h
  ·cases h
  ·obtain ⟨a,ha,h1⟩:=Option.bind_eq_some_iff.1 h
   obtain ⟨b,hb,h2⟩:=Option.bind_eq_some_iff.1 h1
   obtain rfl:=Option.some.inj h2
   have:=dI ha;have:=oY hb;omega
theorem FK{d:aE}{r:List aE}(h:oX d=true):fN (d::r)=none:=by simp only [fN,h,if_true]
theorem Iv{d:aE}{r:List aE}{c:Int}(h:oX d=false)(hk:∀ a b,bQ d.Body 1=some a→fN r=some b→50<c+(a+b)):over c (fN (d::r)):=by
 intro n hn
 simp only [fN,h,Bool.false_eq_true,if_false] at hn
 obtain ⟨a,ha,h1⟩:=Option.bind_eq_some_iff.1 hn
 obtain ⟨b,hb,h2⟩:=Option.bind_eq_some_iff.1 h1
 obtain rfl:=Option.some.inj h2
 exact hk a b ha hb
theorem MB{d:aE}{r:List aE}{a b:Int}(h:oX d=false)(ha:bQ d.Body 1=some a)(hb:fN r=some b):fN (d::r)=some (a+b):=by
 simp only [fN,h,Bool.false_eq_true,if_false,ha,hb,Option.bind_some]
def kU(t:Tree):Bool:=decide (30<t.Decls.length)||(match fN t.Decls,bQ t.Main 1 with
 | some a,some b=>decide (50<a+b)
 | _,_=>true)
theorem ub{t:Tree}(h:∀ a b,fN t.Decls=some a→bQ t.Main 1=some b→50<a+b):kU t=true:=by
 unfold kU
 rw [Bool.or_eq_true]
 right
 cases ha:fN t.Decls with
 | none=>rfl
 | some a=>
  cases hb:bQ t.Main 1 with
  | none=>rfl
  | some b=>simpa using h a b ha hb
theorem A3{t:Tree}{a b:Int}(hl:¬30<t.Decls.length)(ha:fN t.Decls=some a)(hb:bQ t.Main 1=some b)(h:a+b≤50):kU t=false:=by
 unfold kU
 rw [ha,hb]
 simp only [hl,decide_false,Bool.false_or,decide_eq_false_iff_not]
 omega
variable [Lp]
theorem M5(l:List aD)(hl:l.length≤4):ea l=some (l.any q1):=
 j0 mA q1 l (by omega) fun p _=>by
  unfold mA q1
  congr 1
  rw [Bool.eq_iff_iff];simp;omega
theorem KU(t:Tree):pO t=some (kU t):=by
 unfold pO
 by_cases h30:30<t.Decls.length
 ·rw [if_pos (by omega)]
  unfold kU
  simp [h30]
 rw [if_neg (by omega)]
 have loop:∀ (rest:List aE)(i:Nat)(c:Int),t.Decls.drop i=rest→0≤c→c≤50→∃ x,lp (fun v=>dC t v.1 v.2) (i,c)=some x∧
   (match x with | .inl _=>over c (fN rest) | .inr y=>∃ n,fN rest=some n∧c+n≤50∧y.2.2=c+n):=by
  intro rest
  induction rest with
  | nil=>
   intro i c hd h0 hc
   have hlen:¬(i:Int)<(t.Decls.length:Int):=by
    have:=List.drop_eq_nil_iff.1 hd;omega
   exact ⟨_,bZ (B:=fun v:Nat×Int=>dC t v.1 v.2) (x:=.inr (i,false,c)) (by simp [dC,hlen]),0,rfl,by omega,by simp⟩
  | cons d r ih=>
   intro i c hd h0 hc
   obtain ⟨hlt,hg,hr⟩:=fM hd
   have hw:=dq i (by omega)
   have hB:dC t i c=if oX d=true then some (.inr (.inl ())) else if (mT d.Body 1 c).1=true then some (.inr (.inl ())) else some (.inl (i+1,(mT d.Body 1 c).2)):=by
    simp only [dC,hg,Option.bind_some,CS _ 15 (by omega) (by omega),Hz _ c h0 hc,hw,if_true]
    rw [if_pos (by omega)]
    unfold oX dN
    by_cases g1:4<d.Label.length
    ·rw [if_pos (by omega)];simp [g1]
    rw [if_neg (by omega),M5 _ (by omega)]
    simp only [Option.bind_some]
    cases g2:d.Label.any q1 with
    | true=>simp [g1]
    | false=>
     simp only [Bool.false_eq_true,if_false]
     by_cases g3:4<d.Params.length
     ·rw [if_pos (by omega)];simp [g1,g3]
     rw [if_neg (by omega)]
     by_cases g4:15<ky d.Result 15
     ·rw [if_pos g4];simp [g1,g3,g4]
     ·rw [if_neg g4];simp [g1,g3,g4]
   cases hb:oX d with
   | true=>
    rw [hb,if_pos rfl] at hB
    refine ⟨_,bZ (B:=fun v:Nat×Int=>dC t v.1 v.2) hB,?_⟩
    rw [FK hb];exact mg _
   | false=>
    rw [hb] at hB
    simp only [Bool.false_eq_true,if_false] at hB
    rcases CT d.Body 1 c hc with ⟨g1,g2⟩ | ⟨g1,a,g2,g3,g4⟩
    ·rw [if_pos g1] at hB
     refine ⟨_,bZ (B:=fun v:Nat×Int=>dC t v.1 v.2) hB,Iv hb fun a b ha hb'=>?_⟩
     have:=g2 a ha;have:=oY hb';omega
    ·rw [if_neg (by rw [g1];simp),g4] at hB
     have ha0:=dI g2
     obtain ⟨x,hx1,hx2⟩:=ih (i+1) (c+a) hr (by omega) g3
     refine ⟨x,(de (B:=fun v:Nat×Int=>dC t v.1 v.2) (v:=(i,c)) hB).trans hx1,?_⟩
     cases x with
     | inl y=>
      refine Iv hb fun a' b ha' hb'=>?_
      obtain rfl:a=a':=by rw [g2] at ha';exact Option.some.inj ha'
      have:=hx2 b hb';omega
     | inr y=>
      obtain ⟨n,hn,hn1,hn2⟩:=hx2
      exact ⟨a+n,MB hb g2 hn,by omega,by omega⟩
 obtain ⟨x,hx1,hx2⟩:=loop t.Decls 0 0 (List.drop_zero ..) (by omega) (by omega)
 rw [hx1]
 cases x with
 | inl y=>
  simp only [Option.bind_some]
  rw [ub]
  intro a b ha hb
  have:=hx2 a ha;have:=dI hb;omega
 | inr y=>
  obtain ⟨n,hn,hn1,hn2⟩:=hx2
  have hn0:=oY hn
  simp only [Option.bind_some]
  rw [Hz _ _ (by omega) (by omega)]
  simp only [Option.bind_some]
  rcases CT t.Main 1 y.2.2 (by omega) with ⟨g1,g2⟩ | ⟨g1,a,g2,g3,g4⟩
  ·rw [g1,ub]
   intro a b ha hb
   obtain rfl:n=a:=by rw [hn] at ha;exact Option.some.inj ha
   have:=g2 b hb;omega
  ·rw [g1,A3 h30 hn g2 (by omega)]
theorem G0(t:Tree):pV t=some (kU t):=by
 unfold pV
 by_cases h30:30<t.Decls.length
 ·rw [if_pos (by omega)]
  unfold kU
  simp [h30]
 rw [if_neg (by omega),FJ]
 simp only [Option.bind_some]
 have cb:∀ l,0≤da (bQ l 1)∧da (bQ l 1)≤51:=fun l=>by
  cases ht:bQ l 1 with
  | none=>simp [da]
  | some a=>have:=dI ht;simp only [da];split<;>omega
 have key:∀ l,da (bQ l 1)=51∨∃ t,bQ l 1=some t∧t≤50∧da (bQ l 1)=t:=by
  intro l
  cases h:bQ l 1 with
  | none=>exact .inl rfl
  | some t=>
   by_cases h5:t≤50
   ·exact .inr ⟨t,rfl,h5,by simp [da,h5]⟩
   ·exact .inl (by simp [da,h5])
 have cle:∀ l a,bQ l 1=some a→da (bQ l 1)≤a:=fun l a h=>by rw [h];simp only [da];split<;>omega
 have loop:∀ (rest:List aE)(i:Nat)(n:Int),t.Decls.drop i=rest→0≤n→n≤51*((i:Int)+1)→∃ x,lp (fun v=>ef t v.1 v.2) (n,i)=some x∧
   (match x with | .inl _=>over n (fN rest) | .inr y=>n≤y.1∧(y.1≤50→∃ s,fN rest=some s∧y.1=n+s)∧(50<y.1→over n (fN rest))):=by
  intro rest
  induction rest with
  | nil=>
   intro i n hd h0 hn
   have hlen:¬(i:Int)<(t.Decls.length:Int):=by
    have:=List.drop_eq_nil_iff.1 hd;omega
   refine ⟨_,bZ (B:=fun v:Int×Nat=>ef t v.1 v.2) (x:=.inr (n,i,false)) (by simp [ef,hlen]),Int.le_refl _,fun _=>⟨0,rfl,by simp⟩,fun h s hs=>?_⟩
   obtain rfl:=Option.some.inj hs
   simpa using h
  | cons d r ih=>
   intro i n hd h0 hn
   obtain ⟨hlt,hg,hr⟩:=fM hd
   have hw:=dq i (by omega)
   have hc:=cb d.Body
   have hB:ef t n i=if oX d=true then some (.inr (.inl ())) else some (.inl (n+da (bQ d.Body 1),i+1)):=by
    simp only [ef,hg,Option.bind_some,vS _ 15 (by omega) (by omega),FJ,hw,if_true]
    rw [if_pos (by omega)]
    unfold oX dN
    by_cases g1:4<d.Label.length
    ·rw [if_pos (by omega)];simp [g1]
    rw [if_neg (by omega)]
    by_cases g3:4<d.Params.length
    ·rw [if_pos (by omega)];simp [g1,g3]
    rw [if_neg (by omega)]
    by_cases g4:15<ky d.Result 15
    ·rw [if_pos g4];simp [g1,g3,g4]
    rw [if_neg g4]
    have hl:=pI (B:=fun v=>iK t n i d v) d.Label q1 (fun k=>k) (x:=.inl ()) (y:=.inr (d.Label.length,false))
     (fun j hj hp=>by
      simp only [q1,decide_eq_false_iff_not] at hp
      simp only [iK,List.getElem?_eq_getElem hj,Option.bind_some]
      rw [if_pos (by omega),if_neg (by omega),if_pos (dq j (by omega))])
     (fun j hj hp=>by
      simp only [q1,decide_eq_true_eq] at hp
      simp only [iK,List.getElem?_eq_getElem hj,Option.bind_some]
      rw [if_pos (by omega),if_pos (by omega)])
     (by simp [iK])
    rw [hl]
    cases g2:d.Label.any q1 with
    | true=>simp [g1,g3,g4]
    | false=>
     simp only [Bool.false_eq_true,if_false,Option.bind_some]
     rw [if_pos (eY (by omega) (by omega))];simp [g1,g3,g4]
   cases hb:oX d with
   | true=>
    rw [hb,if_pos rfl] at hB
    refine ⟨_,bZ (B:=fun v:Int×Nat=>ef t v.1 v.2) hB,?_⟩
    rw [FK hb];exact mg _
   | false=>
    rw [hb] at hB
    simp only [Bool.false_eq_true,if_false] at hB
    obtain ⟨x,hx1,hx2⟩:=ih (i+1) (n+da (bQ d.Body 1)) hr (by omega) (by omega)
    refine ⟨x,(de (B:=fun v:Int×Nat=>ef t v.1 v.2) (v:=(n,i)) hB).trans hx1,?_⟩
    have hov:over (n+da (bQ d.Body 1)) (fN r)→over n (fN (d::r)):=fun h=>Iv hb fun a b ha hb'=>by
     have:=h b hb';have:=cle _ a ha;omega
    cases x with
    | inl y=>exact hov hx2
    | inr y=>
     obtain ⟨g1,g2,g3⟩:=hx2
     refine ⟨by omega,fun h=>?_,fun h=>hov (g3 h)⟩
     obtain ⟨s,hs,hs2⟩:=g2 h
     have hs0:=oY hs
     rcases key d.Body with c1 | ⟨a,ha,_,ca⟩
     ·omega
     ·exact ⟨a+s,MB hb ha hs,by omega⟩
 have hm:=cb t.Main
 obtain ⟨x,hx1,hx2⟩:=loop t.Decls 0 (da (bQ t.Main 1)) (List.drop_zero ..) (by omega) (by omega)
 rw [hx1]
 cases x with
 | inl y=>
  simp only [Option.bind_some]
  rw [ub]
  intro a b ha hb
  have:=hx2 a ha;have:=cle _ b hb;omega
 | inr y=>
  obtain ⟨g1,g2,g3⟩:=hx2
  simp only [Option.bind_some]
  by_cases h50:50<y.1
  ·rw [ub]
   ·simp [h50]
   intro a b ha hb
   have:=g3 h50 a ha;have:=cle _ b hb;omega
  ·obtain ⟨s,hs,hs2⟩:=g2 (by omega)
   have hs0:=oY hs
   rcases key t.Main with c1 | ⟨a,ha,_,ca⟩
   ·omega
   ·rw [A3 h30 hs ha (by omega)]
    simp [h50]
end Go.Proofs.YtogbakbmphadfaaGreatDoor.A
