/- whole trees that are too great: the program's and the document's are the same plain function. -/
import Derived.Test.YtphgedfhcncobaaGreatDoorTreeC
set_option linter.unusedSectionVars false
set_option linter.unusedVariables false
set_option linter.unusedSimpArgs false
namespace Go.Proofs.YtphgedfhcncobaaGreatDoor.A
open Go
def oh(p:aS):Bool:=decide (6<p.Names.length)
def pO(d:aJ):Bool:=decide (4<d.Label.length)||(d.Label.any oh||(decide (4<d.Params.length)||gj d.Result))
def fo:List aJ→Option Int
 | []=>some 0
 | d::r=>if pO d=true then none else (bw d.Body 1).bind fun a=>(fo r).bind fun b=>some (a+b)
theorem mm:∀ {l:List aJ}{n:Int},fo l=some n→0≤n
 | [],n,h=>by obtain rfl:=Option.some.inj h;omega
 | d::r,n,h=>by
  simp only [fo] at h
  split at h
  ·cases h
  ·obtain ⟨a,ha,h1⟩:=Option.bind_eq_some_iff.1 h
   obtain ⟨b,hb,h2⟩:=Option.bind_eq_some_iff.1 h1
   obtain rfl:=Option.some.inj h2
   have:=cI ha;have:=mm hb;omega
theorem A7{d:aJ}{r:List aJ}(h:pO d=true):fo (d::r)=none:=by simp only [fo,h,if_true]
theorem Dj{d:aJ}{r:List aJ}{c:Int}(h:pO d=false)(hk:∀ a b,bw d.Body 1=some a→fo r=some b→50<c+(a+b)):over c (fo (d::r)):=by
 intro n hn
 simp only [fo,h,Bool.false_eq_true,if_false] at hn
 obtain ⟨a,ha,h1⟩:=Option.bind_eq_some_iff.1 hn
 obtain ⟨b,hb,h2⟩:=Option.bind_eq_some_iff.1 h1
 obtain rfl:=Option.some.inj h2
 exact hk a b ha hb
theorem Gs{d:aJ}{r:List aJ}{a b:Int}(h:pO d=false)(ha:bw d.Body 1=some a)(hb:fo r=some b):fo (d::r)=some (a+b):=by
 simp only [fo,h,Bool.false_eq_true,if_false,ha,hb,Option.bind_some]
def kN(t:Tree):Bool:=decide (30<t.Decls.length)||(match fo t.Decls,bw t.Main 1 with
 | some a,some b=>decide (50<a+b)
 | _,_=>true)
theorem qA{t:Tree}(h:∀ a b,fo t.Decls=some a→bw t.Main 1=some b→50<a+b):kN t=true:=by
 unfold kN
 rw [Bool.or_eq_true]
 right
 cases ha:fo t.Decls with
 | none=>rfl
 | some a=>
  cases hb:bw t.Main 1 with
  | none=>rfl
  | some b=>simpa using h a b ha hb
theorem wx{t:Tree}{a b:Int}(hl:¬30<t.Decls.length)(ha:fo t.Decls=some a)(hb:bw t.Main 1=some b)(h:a+b≤50):kN t=false:=by
 unfold kN
 rw [ha,hb]
 simp only [hl,decide_false,Bool.false_or,decide_eq_false_iff_not]
 omega
variable [Lp]
theorem GV(l:List aS)(hl:l.length≤4):cU l=some (l.any oh):=
 im kg oh l (by omega) fun p _=>by
  unfold kg oh
  congr 1
  rw [Bool.eq_iff_iff];simp;omega
theorem E8(t:Tree):mR t=some (kN t):=by
 unfold mR
 by_cases h30:30<t.Decls.length
 ·rw [if_pos (by omega)]
  unfold kN
  simp [h30]
 rw [if_neg (by omega)]
 have loop:∀ (rest:List aJ)(i:Nat)(c:Int),t.Decls.drop i=rest→0≤c→c≤50→∃ x,lp (fun v=>cF t v.1 v.2) (i,c)=some x∧
   (match x with | .inl _=>over c (fo rest) | .inr y=>∃ n,fo rest=some n∧c+n≤50∧y.2.2=c+n):=by
  intro rest
  induction rest with
  | nil=>
   intro i c hd h0 hc
   have hlen:¬(i:Int)<(t.Decls.length:Int):=by
    have:=List.drop_eq_nil_iff.1 hd;omega
   exact ⟨_,b5 (B:=fun v:Nat×Int=>cF t v.1 v.2) (x:=.inr (i,false,c)) (by simp [cF,hlen]),0,rfl,by omega,by simp⟩
  | cons d r ih=>
   intro i c hd h0 hc
   obtain ⟨hlt,hg,hr⟩:=sd hd
   have hw:=fk i (by omega)
   have hB:cF t i c=if pO d=true then some (.inr (.inl ())) else if (mT d.Body 1 c).1=true then some (.inr (.inl ())) else some (.inl (i+1,(mT d.Body 1 c).2)):=by
    simp only [cF,hg,Option.bind_some,yu _ 15 (by omega) (by omega),Co _ c h0 hc,hw,if_true]
    rw [if_pos (by omega)]
    unfold pO gj
    by_cases g1:4<d.Label.length
    ·rw [if_pos (by omega)];simp [g1]
    rw [if_neg (by omega),GV _ (by omega)]
    simp only [Option.bind_some]
    cases g2:d.Label.any oh with
    | true=>simp [g1]
    | false=>
     simp only [Bool.false_eq_true,if_false]
     by_cases g3:4<d.Params.length
     ·rw [if_pos (by omega)];simp [g1,g3]
     rw [if_neg (by omega)]
     by_cases g4:15<mw d.Result 15
     ·rw [if_pos g4];simp [g1,g3,g4]
     ·rw [if_neg g4];simp [g1,g3,g4]
   cases hb:pO d with
   | true=>
    rw [hb,if_pos rfl] at hB
    refine ⟨_,b5 (B:=fun v:Nat×Int=>cF t v.1 v.2) hB,?_⟩
    rw [A7 hb];exact jV _
   | false=>
    rw [hb] at hB
    simp only [Bool.false_eq_true,if_false] at hB
    rcases yv d.Body 1 c hc with ⟨g1,g2⟩ | ⟨g1,a,g2,g3,g4⟩
    ·rw [if_pos g1] at hB
     refine ⟨_,b5 (B:=fun v:Nat×Int=>cF t v.1 v.2) hB,Dj hb fun a b ha hb'=>?_⟩
     have:=g2 a ha;have:=mm hb';omega
    ·rw [if_neg (by rw [g1];simp),g4] at hB
     have ha0:=cI g2
     obtain ⟨x,hx1,hx2⟩:=ih (i+1) (c+a) hr (by omega) g3
     refine ⟨x,(fG (B:=fun v:Nat×Int=>cF t v.1 v.2) (v:=(i,c)) hB).trans hx1,?_⟩
     cases x with
     | inl y=>
      refine Dj hb fun a' b ha' hb'=>?_
      obtain rfl:a=a':=by rw [g2] at ha';exact Option.some.inj ha'
      have:=hx2 b hb';omega
     | inr y=>
      obtain ⟨n,hn,hn1,hn2⟩:=hx2
      exact ⟨a+n,Gs hb g2 hn,by omega,by omega⟩
 obtain ⟨x,hx1,hx2⟩:=loop t.Decls 0 0 (List.drop_zero ..) (by omega) (by omega)
 rw [hx1]
 cases x with
 | inl y=>
  simp only [Option.bind_some]
  rw [qA]
  intro a b ha hb
  have:=hx2 a ha;have:=cI hb;omega
 | inr y=>
  obtain ⟨n,hn,hn1,hn2⟩:=hx2
  have hn0:=mm hn
  simp only [Option.bind_some]
  rw [Co _ _ (by omega) (by omega)]
  simp only [Option.bind_some]
  rcases yv t.Main 1 y.2.2 (by omega) with ⟨g1,g2⟩ | ⟨g1,a,g2,g3,g4⟩
  ·rw [g1,qA]
   intro a b ha hb
   obtain rfl:n=a:=by rw [hn] at ha;exact Option.some.inj ha
   have:=g2 b hb;omega
  ·rw [g1,wx h30 hn g2 (by omega)]
theorem BY(t:Tree):nd t=some (kN t):=by
 unfold nd
 by_cases h30:30<t.Decls.length
 ·rw [if_pos (by omega)]
  unfold kN
  simp [h30]
 rw [if_neg (by omega),A6]
 simp only [Option.bind_some]
 have cb:∀ l,0≤b8 (bw l 1)∧b8 (bw l 1)≤51:=fun l=>by
  cases ht:bw l 1 with
  | none=>simp [b8]
  | some a=>have:=cI ht;simp only [b8];split<;>omega
 have key:∀ l,b8 (bw l 1)=51∨∃ t,bw l 1=some t∧t≤50∧b8 (bw l 1)=t:=by
  intro l
  cases h:bw l 1 with
  | none=>exact .inl rfl
  | some t=>
   by_cases h5:t≤50
   ·exact .inr ⟨t,rfl,h5,by simp [b8,h5]⟩
   ·exact .inl (by simp [b8,h5])
 have cle:∀ l a,bw l 1=some a→b8 (bw l 1)≤a:=fun l a h=>by rw [h];simp only [b8];split<;>omega
 have loop:∀ (rest:List aJ)(i:Nat)(n:Int),t.Decls.drop i=rest→0≤n→n≤51*((i:Int)+1)→∃ x,lp (fun v=>da t v.1 v.2) (n,i)=some x∧
   (match x with | .inl _=>over n (fo rest) | .inr y=>n≤y.1∧(y.1≤50→∃ s,fo rest=some s∧y.1=n+s)∧(50<y.1→over n (fo rest))):=by
  intro rest
  induction rest with
  | nil=>
   intro i n hd h0 hn
   have hlen:¬(i:Int)<(t.Decls.length:Int):=by
    have:=List.drop_eq_nil_iff.1 hd;omega
   refine ⟨_,b5 (B:=fun v:Int×Nat=>da t v.1 v.2) (x:=.inr (n,i,false)) (by simp [da,hlen]),Int.le_refl _,fun _=>⟨0,rfl,by simp⟩,fun h s hs=>?_⟩
   obtain rfl:=Option.some.inj hs
   simpa using h
  | cons d r ih=>
   intro i n hd h0 hn
   obtain ⟨hlt,hg,hr⟩:=sd hd
   have hw:=fk i (by omega)
   have hc:=cb d.Body
   have hB:da t n i=if pO d=true then some (.inr (.inl ())) else some (.inl (n+b8 (bw d.Body 1),i+1)):=by
    simp only [da,hg,Option.bind_some,sb _ 15 (by omega) (by omega),A6,hw,if_true]
    rw [if_pos (by omega)]
    unfold pO gj
    by_cases g1:4<d.Label.length
    ·rw [if_pos (by omega)];simp [g1]
    rw [if_neg (by omega)]
    by_cases g3:4<d.Params.length
    ·rw [if_pos (by omega)];simp [g1,g3]
    rw [if_neg (by omega)]
    by_cases g4:15<mw d.Result 15
    ·rw [if_pos g4];simp [g1,g3,g4]
    rw [if_neg g4]
    have hl:=mM (B:=fun v=>fN t n i d v) d.Label oh (fun k=>k) (x:=.inl ()) (y:=.inr (d.Label.length,false))
     (fun j hj hp=>by
      simp only [oh,decide_eq_false_iff_not] at hp
      simp only [fN,List.getElem?_eq_getElem hj,Option.bind_some]
      rw [if_pos (by omega),if_neg (by omega),if_pos (fk j (by omega))])
     (fun j hj hp=>by
      simp only [oh,decide_eq_true_eq] at hp
      simp only [fN,List.getElem?_eq_getElem hj,Option.bind_some]
      rw [if_pos (by omega),if_pos (by omega)])
     (by simp [fN])
    rw [hl]
    cases g2:d.Label.any oh with
    | true=>simp [g1,g3,g4]
    | false=>
     simp only [Bool.false_eq_true,if_false,Option.bind_some]
     rw [if_pos (eR (by omega) (by omega))];simp [g1,g3,g4]
   cases hb:pO d with
   | true=>
    rw [hb,if_pos rfl] at hB
    refine ⟨_,b5 (B:=fun v:Int×Nat=>da t v.1 v.2) hB,?_⟩
    rw [A7 hb];exact jV _
   | false=>
    rw [hb] at hB
    simp only [Bool.false_eq_true,if_false] at hB
    obtain ⟨x,hx1,hx2⟩:=ih (i+1) (n+b8 (bw d.Body 1)) hr (by omega) (by omega)
    refine ⟨x,(fG (B:=fun v:Int×Nat=>da t v.1 v.2) (v:=(n,i)) hB).trans hx1,?_⟩
    have hov:over (n+b8 (bw d.Body 1)) (fo r)→over n (fo (d::r)):=fun h=>Dj hb fun a b ha hb'=>by
     have:=h b hb';have:=cle _ a ha;omega
    cases x with
    | inl y=>exact hov hx2
    | inr y=>
     obtain ⟨g1,g2,g3⟩:=hx2
     refine ⟨by omega,fun h=>?_,fun h=>hov (g3 h)⟩
     obtain ⟨s,hs,hs2⟩:=g2 h
     have hs0:=mm hs
     rcases key d.Body with c1 | ⟨a,ha,_,ca⟩
     ·omega
     ·exact ⟨a+s,Gs hb ha hs,by omega⟩
 have hm:=cb t.Main
 obtain ⟨x,hx1,hx2⟩:=loop t.Decls 0 (b8 (bw t.Main 1)) (List.drop_zero ..) (by omega) (by omega)
 rw [hx1]
 cases x with
 | inl y=>
  simp only [Option.bind_some]
  rw [qA]
  intro a b ha hb
  have:=hx2 a ha;have:=cle _ b hb;omega
 | inr y=>
  obtain ⟨g1,g2,g3⟩:=hx2
  simp only [Option.bind_some]
  by_cases h50:50<y.1
  ·rw [qA]
   ·simp [h50]
   intro a b ha hb
   have:=g3 h50 a ha;have:=cle _ b hb;omega
  ·obtain ⟨s,hs,hs2⟩:=g2 (by omega)
   have hs0:=mm hs
   rcases key t.Main with c1 | ⟨a,ha,_,ca⟩
   ·omega
   ·rw [wx h30 hs ha (by omega)]
    simp [h50]
end Go.Proofs.YtphgedfhcncobaaGreatDoor.A
