/- What claims about the judge begin with: three programs are judged, as they must be. -/
import Derived.Shelf.Abstract
import Derived.LoopTactic
import Derived.Tactics2
import Derived.WalkKit
import Derived.OwnWalkIn
import Derived.Test.YtkkkkondjclcnaaGreatBad
import Derived.Test.YtkkkkondjclcnaaGreatTab
set_option linter.all false
set_option maxRecDepth 100000
set_option maxHeartbeats 8000000
namespace Go.Proofs.YtkkkkondjclcnaaGreat.A
open Go Go.Proofs Go.RowKit Go.Shelf
attribute [local go_sem] Oper.semAt_some
variable [bM]
def Bt(n:Nat):Value:=.agg #[.int .i64 1,.slice none 0 0,.slice none 0 0,.slice (some ⟨n+1,0,none⟩) 1 1,.slice (some ⟨n+1+1,0,none⟩) 1 1,.slice (some ⟨n+1+1+1,0,none⟩) 1 1,.slice none 0 0,.slice (some ⟨n+1+1+1+1,0,none⟩) 2 2]
abbrev TG:Array Value:=#[.int .i64 3,.int .i64 0,.int .i64 0,.int .i64 0,.int .i64 0,fM,fM,fM,fM,.int .i64 4,.int .i64 0,.int .i64 0,.int .i64 2,.int .i64 0,fM,fM,fM,fM]
structure Sw(w w':World):Prop where
 bel:Below w.heap.size w w'
 sz:w'.heap.size=w.heap.size+5
 h1:w'.heap[w.heap.size+1]? =some (.cells #[fM,fM] 81 (0,0))
 h2:w'.heap[w.heap.size+1+1]? =some (.cells #[fM,fM] 81 (0,0))
 h3:w'.heap[w.heap.size+1+1+1]? =some (.cells #[.bool false,fM,fM] 83 (0,0))
 h4:w'.heap[w.heap.size+1+1+1+1]? =some (.cells TG 92 (0,0))
theorem amS(w:World)(b0 b1 b2 b3 b4:Obj):Below w.heap.size w (((((w.alloc b0).alloc b1).alloc b2).alloc b3).alloc b4)∧
  (((((w.alloc b0).alloc b1).alloc b2).alloc b3).alloc b4).heap.size=w.heap.size+5∧
  (((((w.alloc b0).alloc b1).alloc b2).alloc b3).alloc b4).heap[w.heap.size+1]? =some b1∧
  (((((w.alloc b0).alloc b1).alloc b2).alloc b3).alloc b4).heap[w.heap.size+2]? =some b2∧
  (((((w.alloc b0).alloc b1).alloc b2).alloc b3).alloc b4).heap[w.heap.size+3]? =some b3∧
  (((((w.alloc b0).alloc b1).alloc b2).alloc b3).alloc b4).heap[w.heap.size+4]? =some b4:=by
 refine ⟨?_,by simp only [World.alloc,e7],?_,?_,?_,?_⟩
 ·repeat (first | exact Below.refl _ _ | refine Below.alloc ?_ (by first | exact aV _ | (simp only [World.alloc,e7];omega)) _)
 ·simp only [World.alloc,fG,e7]
  rw [aa,aa,aa,ab trivial]<;>omega
 ·simp only [World.alloc,fG,e7]
  rw [aa,aa,ab trivial]<;>omega
 ·simp only [World.alloc,fG,e7]
  rw [aa,ab trivial];omega
 ·simp only [World.alloc,fG,e7]
  rw [ab trivial]
theorem Qn{w:World} : Calls Tryz.prog 62 #[] w fun e w'=>e= .returned (Bt w.heap.size)∧Sw w w':=by
 refine calls_of_wp Tryz.func62 rfl ?_
 simp only [Tryz.ntmps62,rX,cC,jk,Nat.reduceAdd,Nat.reduceSub,vD,vE,vG,vH,dZ,eJ]
 go_wp2
 refine bodyPost_ret (v:=Bt w.heap.size) (by simp [results,Tryz.results62,go_sem,Bt]) rfl ?_
 obtain ⟨h1,h2,h3,h4,h5,h6⟩:=amS w _ _ _ _ _
 exact ⟨rfl,⟨h1,h2,h3,h4,h5,h6⟩⟩
def jV(r q:List AV):AV:=
 .a [.i .i64 1,.l 166 [],.l 3 [],.l 81 [.a [.l 138 r,.l 138 []]],.l 81 [.a [.l 138 [],.l 138 q]],.l 83 [.a [.b false,.l 138 [],.l 138 []]],.l 101 [],
  .l 92 [.a [.i .i64 3,.i .i64 0,.i .i64 0,.i .i64 0,.i .i64 0,.l 37 [],.l 37 [],.l 92 [],.l 92 []],.a [.i .i64 4,.i .i64 0,.i .i64 0,.i .i64 2,.i .i64 0,.l 37 [],.l 37 [],.l 92 [],.l 92 []]]]
def Je:AV:=.a [.i .i64 0,.l 3 []]
theorem jVR{w':World}{I:Nat→Prop}{κ:Key→Nat}{n:Nat}{r q:List AV}{vr vq:Value}(hI:∀ b,n<b→b<n+5→I b)(hn:bM.n0≤n)
  (h1:w'.heap[n+1]? =some (.cells #[vr,fM] 81 (0,0))) (h2:w'.heap[n+2]? =some (.cells #[fM,vq] 81 (0,0)))
  (h3:w'.heap[n+3]? =some (.cells #[.bool false,fM,fM] 83 (0,0))) (h4:w'.heap[n+4]? =some (.cells TG 92 (0,0)))
  (hr:VR w' I κ (.l 138 r) vr) (hq:VR w' I κ (.l 138 q) vq) (pr:(AV.l 138 r).pure=true) (pq:(AV.l 138 q).pure=true):VR w' I κ (jV r q) (Bt n):=by
 have r1:VR w' I κ (.l 81 [.a [.l 138 r,.l 138 []]]) (.slice (some ⟨n+1,0,none⟩) 1 1):=by
  refine CP (hI _ (by omega) (by omega)) h1 (by omega) rfl (by decide) (by decide) (sz:=2) (by decide) rfl (by simp [AV.nc,AV.pure,AV.aX,AV.cl,AV.one] at pr ⊢<;>exact pr) (fun j e m c he hc=>?_)
  match j,he with
  | 0,he=>
   obtain rfl:=af he
   match m,hc with
   | 0,hc=>obtain rfl:=af hc;exact hr
   | 1,hc=>obtain rfl:=af hc;exact .lnil _ _ _
 have r2:VR w' I κ (.l 81 [.a [.l 138 [],.l 138 q]]) (.slice (some ⟨n+1+1,0,none⟩) 1 1):=by
  refine CP (hI _ (by omega) (by omega)) h2 (by omega) rfl (by decide) (by decide) (sz:=2) (by decide) rfl (by simp [AV.nc,AV.pure,AV.aX,AV.cl,AV.one] at pq ⊢<;>exact pq) (fun j e m c he hc=>?_)
  match j,he with
  | 0,he=>
   obtain rfl:=af he
   match m,hc with
   | 0,hc=>obtain rfl:=af hc;exact .lnil _ _ _
   | 1,hc=>obtain rfl:=af hc;exact hq
 have r3:VR w' I κ (.l 83 [.a [.b false,.l 138 [],.l 138 []]]) (.slice (some ⟨n+1+1+1,0,none⟩) 1 1):=by
  refine CP (hI _ (by omega) (by omega)) h3 (by omega) rfl (by decide) (by decide) (sz:=3) (by decide) rfl (by decide) (fun j e m c he hc=>?_)
  match j,he with
  | 0,he=>
   obtain rfl:=af he
   match m,hc with
   | 0,hc=>obtain rfl:=af hc;exact .b _
   | 1,hc=>obtain rfl:=af hc;exact .lnil _ _ _
   | 2,hc=>obtain rfl:=af hc;exact .lnil _ _ _
 refine .a _ _ rfl (by simp [AV.one]) (fun m c hc=>?_)
 match m,hc with
 | 0,hc=>obtain rfl:=af hc;exact .i _ _
 | 1,hc=>obtain rfl:=af hc;exact .lnil _ _ _
 | 2,hc=>obtain rfl:=af hc;exact .lnil _ _ _
 | 3,hc=>obtain rfl:=af hc;exact r1
 | 4,hc=>obtain rfl:=af hc;exact r2
 | 5,hc=>obtain rfl:=af hc;exact r3
 | 6,hc=>obtain rfl:=af hc;exact .lnil _ _ _
 | 7,hc=>
  obtain rfl:=af hc
  refine CP (hI _ (by omega) (by omega)) h4 (by omega) rfl (by decide) (by decide) (sz:=9) (by decide) rfl (by decide) (fun j e m c he hc=>?_)
  match j,he with
  | 0,he=>
   obtain rfl:=af he
   match m,hc with
   | 0,hc=>obtain rfl:=af hc;exact .i _ _
   | 1,hc=>obtain rfl:=af hc;exact .i _ _
   | 2,hc=>obtain rfl:=af hc;exact .i _ _
   | 3,hc=>obtain rfl:=af hc;exact .i _ _
   | 4,hc=>obtain rfl:=af hc;exact .i _ _
   | 5,hc=>obtain rfl:=af hc;exact .lnil _ _ _
   | 6,hc=>obtain rfl:=af hc;exact .lnil _ _ _
   | 7,hc=>obtain rfl:=af hc;exact .lnil _ _ _
   | 8,hc=>obtain rfl:=af hc;exact .lnil _ _ _
  | 1,he=>
   obtain rfl:=af he
   match m,hc with
   | 0,hc=>obtain rfl:=af hc;exact .i _ _
   | 1,hc=>obtain rfl:=af hc;exact .i _ _
   | 2,hc=>obtain rfl:=af hc;exact .i _ _
   | 3,hc=>obtain rfl:=af hc;exact .i _ _
   | 4,hc=>obtain rfl:=af hc;exact .i _ _
   | 5,hc=>obtain rfl:=af hc;exact .lnil _ _ _
   | 6,hc=>obtain rfl:=af hc;exact .lnil _ _ _
   | 7,hc=>obtain rfl:=af hc;exact .lnil _ _ _
   | 8,hc=>obtain rfl:=af hc;exact .lnil _ _ _
abbrev Qo:AV:=aau 166 3 81 138 83 101 92 37
theorem TH:pa Tryz.prog 29 [jV [] []] (.tp [.b true,.i .i64 0]):=
 KT.pure (nZ (lR 100000) ⟨0,false⟩ 29 [jV [] []] (fun _=>none) (.ret (.tp [.b true,.i .i64 0]),fun _=>none) (by kernel_rfl)) (by decide)
theorem agD:pa Tryz.prog 29 [jV [Je] [Je]] (.tp [.b true,.i .i64 0]):=
 KT.pure (nZ (lR 100000) ⟨0,false⟩ 29 [jV [Je] [Je]] (fun _=>none) (.ret (.tp [.b true,.i .i64 0]),fun _=>none) (by kernel_rfl)) (by decide)
theorem Xk:pa Tryz.prog 29 [Qo] (.tp [.b false,.i .i64 0]):=
 KT.pure (nZ (lR 100000) ⟨0,false⟩ 29 [Qo] (fun _=>none) (.ret (.tp [.b false,.i .i64 0]),fun _=>none) (by kernel_rfl)) (by decide)
theorem TI:pa Tryz.prog 28 [Qo] (.tp [.l 133 [.a [.i .i64 1,.i .i64 4]],.i .i64 0]):=
 KT.pure (nZ (lR 100000) ⟨0,false⟩ 28 [Qo] (fun _=>none) (.ret (.tp [.l 133 [.a [.i .i64 1,.i .i64 4]],.i .i64 0]),fun _=>none) (by kernel_rfl)) (by decide)
end Go.Proofs.YtkkkkondjclcnaaGreat.A
namespace Go.Proofs.YtkkkkondjclcnaaGreat.A
open Go Go.Proofs Go.RowKit Go.Shelf
attribute [local go_sem] Oper.semAt_some Bt fM
variable [bM]
variable {w:World}{I:Nat→Prop}{κ:Key→Nat}{x y:AV}{v:Value}
theorem Ht(h:VR w I κ (.tp [x,y]) v):∃ a b,v= .tuple #[a,b]∧VR w I κ x a∧VR w I κ y b:=by
 cases h with
 | tp _ vs hl hc=>
  obtain ⟨l⟩:=vs
  match l,hl with
  | [a,b],_=>exact ⟨a,b,rfl,hc 0 _ rfl,hc 1 _ rfl⟩
theorem rE{b:Bool}(h:VR w I κ (.b b) v):v= .bool b:=by cases h;rfl
structure Cp(w W:World)(J:Nat→Prop):Prop where
 n0:bM.n0≤W.heap.size
 lay:JI W J
 lt:∀ b,J b→b<W.heap.size
 sz:w.heap.size≤W.heap.size
 old:∀ b,b<w.heap.size→W.heap[b]? =w.heap[b]?
 os:W.os=w.os
 out:W.output=w.output
variable {W:World}{J:Nat→Prop}{f:FuncId}
theorem Cp.calls(C:Cp w W J)(h:pa Tryz.prog f [y] x)(hv:VR W J κ y v):
  Calls Tryz.prog f #[v] W fun e W'=>∃ u J',e= .returned u∧VR W' J' κ x u∧Cp w W' J'∧(∀ b,J b→J' b)∧W.heap.size≤W'.heap.size∧(∀ b,b<W.heap.size→W'.heap[b]? =W.heap[b]?):=by
 refine (h.2 W J κ #[v] ⟨C.n0,C.lay⟩ C.lt rfl (fun i z hz=>by
  match i,hz with
  | 0,hz=>obtain rfl:=af hz;exact hv)).mono ?_
 rintro e W' ⟨u,J',rfl,hu,c1,c2,c3,c4,c5,c6,c7⟩
 exact ⟨u,J',rfl,hu,⟨bS C.n0 c1,C.lay.aG c3 fun b hb=>c2 b (C.lt b hb),c5,bS C.sz c1,fun b hb=>(c2 b (ea hb C.sz)).trans (C.old b hb),c6.trans C.os,c7.trans C.out⟩,c3,c1,c2⟩
theorem Cp.Y5(C:Cp w W J)(h:pa Tryz.prog f [] x):
  Calls Tryz.prog f #[] W fun e W'=>∃ u J',e= .returned u∧VR W' J' κ x u∧Cp w W' J'∧(∀ b,J b→J' b)∧W.heap.size≤W'.heap.size∧(∀ b,b<W.heap.size→W'.heap[b]? =W.heap[b]?):=by
 refine (h.2 W J κ #[] ⟨C.n0,C.lay⟩ C.lt rfl (fun i z hz=>by cases hz)).mono ?_
 rintro e W' ⟨u,J',rfl,hu,c1,c2,c3,c4,c5,c6,c7⟩
 exact ⟨u,J',rfl,hu,⟨bS C.n0 c1,C.lay.aG c3 fun b hb=>c2 b (C.lt b hb),c5,bS C.sz c1,fun b hb=>(c2 b (ea hb C.sz)).trans (C.old b hb),c6.trans C.os,c7.trans C.out⟩,c3,c1,c2⟩
theorem Cp.grow{W':World}(C:Cp w W J)(hs:W.heap.size≤W'.heap.size)(ho:∀ b,b<W.heap.size→W'.heap[b]? =W.heap[b]?)(h1:W'.os=W.os)(h2:W'.output=W.output):Cp w W' J:=
 ⟨bS C.n0 hs,C.lay.aG (fun _ h=>h) fun b hb=>ho b (C.lt b hb),fun b hb=>ea (C.lt b hb) hs,bS C.sz hs,fun b hb=>(ho b (ea hb C.sz)).trans (C.old b hb),h1.trans C.os,h2.trans C.out⟩
theorem Cp.freeze(C:Cp w W J)(n:Nat):Cp w W (fun b=>J b∨(n<b∧b<W.heap.size)):=
 ⟨C.n0,C.lay.aG (fun _ h=>.inl h) fun _ _=>rfl,fun b hb=>hb.elim (C.lt b) fun h=>h.2,C.sz,C.old,C.os,C.out⟩
theorem chain{w2 w3 W4:World}{v1 v2:Value}{b0 b1 b2:Obj}(s:Sw w2 w3)(h:World.alloc (World.alloc (World.alloc (World.setCell (World.setCell w3 ⟨w2.heap.size+1+1,1,none⟩ v1) ⟨w2.heap.size+1,0,none⟩ v2) b0) b1) b2=W4) :
  W4.heap.size=w2.heap.size+8∧W4.heap[w2.heap.size+1]? =some (.cells #[v2,fM] 81 (0,0))∧W4.heap[w2.heap.size+2]? =some (.cells #[fM,v1] 81 (0,0))∧
  W4.heap[w2.heap.size+3]? =some (.cells #[.bool false,fM,fM] 83 (0,0))∧W4.heap[w2.heap.size+4]? =some (.cells TG 92 (0,0))∧
  W4.heap[w2.heap.size+5]? =some b0∧W4.heap[w2.heap.size+6]? =some b1∧W4.heap[w2.heap.size+7]? =some b2∧(∀ b,b<w2.heap.size→W4.heap[b]? =w2.heap[b]?)∧W4.os=w2.os∧W4.output=w2.output:=by
 have hs:=s.sz
 have g1:=s.h1
 have g2:=s.h2
 have g3:=s.h3
 have g4:=s.h4
 have gb:=s.bel.block
 subst h
 refine ⟨by simp [World.setCell,hs],?_,?_,?_,?_,?_,?_,?_,fun b hb=>?_,s.bel.os,s.bel.output⟩
 ·simp only [World.alloc,World.setCell,fG,e7,rZ,hs,sa]
  rw [aa,aa,aa,ab trivial,aa,g1]<;>first | omega | rfl
 ·simp only [World.alloc,World.setCell,fG,e7,rZ,hs,sa]
  rw [aa,aa,aa,aa,ab trivial,g2]<;>first | omega | rfl
 ·simp only [World.alloc,World.setCell,fG,e7,rZ,hs,sa]
  rw [aa,aa,aa,aa,aa,g3]<;>omega
 ·simp only [World.alloc,World.setCell,fG,e7,rZ,hs,sa]
  rw [aa,aa,aa,aa,aa,g4]<;>omega
 ·simp only [World.alloc,World.setCell,fG,e7,rZ,hs,sa]
  rw [aa,aa,ab trivial]<;>omega
 ·simp only [World.alloc,World.setCell,fG,e7,rZ,hs,sa]
  rw [aa,ab trivial];omega
 ·simp only [World.alloc,World.setCell,fG,e7,rZ,hs,sa]
  rw [ab trivial]
 ·simp only [World.alloc,World.setCell,fG,e7,rZ,hs,sa]
  rw [aa,aa,aa,aa,aa,gb b hb]<;>omega
theorem VY:pa Tryz.prog 72 [] Qo:=akM rfl
theorem VZ{κ:Key→Nat}(C0:Cp w w I):Calls Tryz.prog 31 #[] w fun e w'=>e= .returned (.bool true)∧∃ J,Cp w w' J∧∀ b,I b→J b:=by
 refine calls_of_wp Tryz.func31 rfl ?_
 simp only [Tryz.ntmps31,rX,cC,jk,Nat.reduceAdd,Nat.reduceSub,vD,vE,vG,vH,dZ,eJ]
 go_wp2_with fail
 refine Qn.mono ?_
 rintro _ w1 ⟨rfl,s1⟩
 have ah:=s1.sz
 have C1:=C0.grow s1.bel.size (fun b hb=>s1.bel.block b hb) s1.bel.os s1.bel.output
 have hn:=C0.n0
 go_wp2_with fail
 have hq:VR w1 (fun b=>I b∨(w.heap.size<b∧b<w1.heap.size)) κ (jV [] []) (Bt w.heap.size):=jVR (fun b h1 h2=>.inr ⟨h1,by omega⟩) hn s1.h1 s1.h2 s1.h3 s1.h4 (.lnil _ _ _) (.lnil _ _ _) rfl rfl
 refine ((C1.freeze w.heap.size).calls TH hq).mono ?_
 rintro _ w2 ⟨v2,I2,rfl,M,C2,j2,z2,o2⟩
 obtain ⟨_,_,rfl,ha,hb⟩:=Ht M
 obtain rfl:=rE ha
 obtain rfl:=hb.kB
 go_wp2_with fail
 refine Qn.mono ?_
 rintro _ w3 ⟨rfl,s3⟩
 have ag:=s3.sz
 have C3:=C2.grow s3.bel.size (fun b hb=>s3.bel.block b hb) s3.bel.os s3.bel.output
 have g1:=s3.h1
 have g2:=s3.h2
 have g3:=s3.h3
 have g4:=s3.h4
 have f1:w3.frozen? ⟨w2.heap.size+1,0,none⟩=false:=by simp [World.frozen?,g1]
 have f2:w3.frozen? ⟨w2.heap.size+1+1,1,none⟩=false:=by simp [World.frozen?,g2]
 have k1:w3.cell? ⟨w2.heap.size+1,0,none⟩=some (.slice none 0 0):=by simp [World.cell?,g1,fM]
 have k2:w3.cell? ⟨w2.heap.size+1+1,1,none⟩=some (.slice none 0 0):=by simp [World.cell?,g2,fM]
 go_wp2_with fail
 generalize ad:World.alloc (World.alloc (World.alloc (World.setCell (World.setCell w3 _ _) _ _) _) _) _=W4
 obtain ⟨q0,q1,q2,q3,q4,q5,q6,q7,qb,qo,qt⟩:=chain s3 ad
 have C4:=C2.grow (W':=W4) (by omega) qb qo qt
 refine (C4.Y5 (κ:=κ) VY).mono ?_
 rintro _ w5 ⟨v5,I5,rfl,L,C5,j5,z5,o5⟩
 go_wp2_with fail
 refine (C5.calls Xk L).mono ?_
 rintro _ w6 ⟨v6,I6,rfl,K,C6,j6,z6,o6⟩
 obtain ⟨_,_,rfl,ac,U⟩:=Ht K
 obtain rfl:=rE ac
 obtain rfl:=U.kB
 go_wp2_with fail
 refine (C6.Y5 (κ:=κ) VY).mono ?_
 rintro _ w7 ⟨v7,I7,rfl,H,C7,j7,z7,o7⟩
 go_wp2_with fail
 refine (C7.calls TI H).mono ?_
 rintro _ w8 ⟨v8,I8,rfl,F,C8,j8,z8,o8⟩
 obtain ⟨ls,_,rfl,Z,S⟩:=Ht F
 obtain rfl:=S.kB
 have aG:∀ b,b<W4.heap.size→w8.heap[b]? =W4.heap[b]? :=fun b hb=>(o8 b (by omega)).trans ((o7 b (by omega)).trans ((o6 b (by omega)).trans (o5 b hb)))
 have k5:=(aG (w2.heap.size+5) (by omega)).trans q5
 have l0:w8.cell? ⟨w2.heap.size+5,0,none⟩=some (.int .i64 1):=by simp [World.cell?,k5]
 have l1:w8.cell? ⟨w2.heap.size+5,1,none⟩=some (.slice none 0 0):=by simp [World.cell?,k5]
 have l2:w8.cell? ⟨w2.heap.size+5,2,none⟩=some (.slice none 0 0):=by simp [World.cell?,k5]
 have l3:w8.cell? ⟨w2.heap.size+5,3,none⟩=some (.slice (some ⟨w2.heap.size+1,0,none⟩) 1 1):=by simp [World.cell?,k5]
 have l4:w8.cell? ⟨w2.heap.size+5,4,none⟩=some (.slice (some ⟨w2.heap.size+1+1,0,none⟩) 1 1):=by simp [World.cell?,k5]
 have l5:w8.cell? ⟨w2.heap.size+5,5,none⟩=some (.slice (some ⟨w2.heap.size+1+1+1,0,none⟩) 1 1):=by simp [World.cell?,k5]
 have l6:w8.cell? ⟨w2.heap.size+5,6,none⟩=some (.slice none 0 0):=by simp [World.cell?,k5]
 have l7:w8.cell? ⟨w2.heap.size+5,7,none⟩=some (.slice (some ⟨w2.heap.size+1+1+1+1,0,none⟩) 2 2):=by simp [World.cell?,k5]
 have r6:=(aG (w2.heap.size+6) (by omega)).trans q6
 have r7:=(aG (w2.heap.size+7) (by omega)).trans q7
 clear k5
 go_wp2_with fail
 have rowP:∀ b,w2.heap.size<b→b<w8.heap.size→w8.heap[b]? =some (.cells #[.int .i64 0,.slice none 0 0] 138 (0,0))→VR w8 (fun b=>I8 b∨(w2.heap.size<b∧b<w8.heap.size)) κ (.l 138 [Je]) (.slice (some ⟨b,0,none⟩) 1 1):=fun b X V hh=>by
  refine CP (.inr ⟨X,V⟩) hh (by have:=C2.n0;omega) rfl (by decide) (by decide) (sz:=2) (by decide) rfl (by decide) (fun j e m c he hc=>?_)
  match j,he with
  | 0,he=>
   obtain rfl:=af he
   match m,hc with
   | 0,hc=>obtain rfl:=af hc;exact .i _ _
   | 1,hc=>obtain rfl:=af hc;exact .lnil _ _ _
 have N:VR w8 (fun b=>I8 b∨(w2.heap.size<b∧b<w8.heap.size)) κ (jV [Je] [Je]) (Bt w2.heap.size):=jVR (fun b h1 h2=>.inr ⟨h1,by omega⟩) C2.n0 ((aG _ (by omega)).trans q1) ((aG _ (by omega)).trans q2) ((aG _ (by omega)).trans q3) ((aG _ (by omega)).trans q4) (rowP _ (by omega) (by omega) r7) (rowP _ (by omega) (by omega) r6) rfl rfl
 refine ((C8.freeze w2.heap.size).calls agD N).mono ?_
 rintro _ w9 ⟨v9,I9,rfl,E,C9,j9,z9,o9⟩
 obtain ⟨_,_,rfl,Y,R⟩:=Ht E
 obtain rfl:=rE Y
 obtain rfl:=R.kB
 cases Z with
 | l _ _ g o cap cs T fz sz hI hh ht ae p d hp h1 Q O hc=>
  have P:g<w8.heap.size:=(u7.1 hh).1
  have h9:=(o9 g P).trans hh
  obtain rfl:(2:Nat)=sz:=p _ (jj.2 rfl)
  have e0:=(hc 0 _ 0 _ rfl rfl).kB
  have e1:=(hc 0 _ 1 _ rfl rfl).kB
  simp only [cC,jk,gh,Nat.one_mul,BH,oC] at d e0 e1
  have t0:w9.cell? ⟨g,o,none⟩=some (.int .i64 1):=by
   rw [dK,kP (by omega)] at e0
   simp only [World.cell?,h9]
   rw [kP (by omega)]
   exact an some e0
  have t1:w9.cell? ⟨g,o+1,none⟩=some (.int .i64 4):=by
   rw [dK,kP (by omega)] at e1
   simp only [World.cell?,h9]
   rw [kP (by omega)]
   exact an some e1
  have hl:([AV.a [AV.i .i64 1,AV.i .i64 4]]:List AV).length=1:=rfl
  rw [hl]
  clear hc p h1 hp hI hh ht h9
  go_wp2_with fail
  exact bodyPost_ret (v:=.bool true) (by simp [results,Tryz.results31,go_sem]) rfl ⟨rfl,I9,C9,fun b hb=>j9 _ (.inl (j8 _ (j7 _ (j6 _ (j5 _ (j2 _ (.inl hb)))))))⟩
theorem V0{ys:List AV}(h:uo ys=some x):pa Tryz.prog 31 ys x:=by
 unfold uo at h
 split at h
 ·obtain rfl:=af h
  refine ⟨⟨Tryz.f31,Tryz.func31,rfl,by decide⟩,fun w I κ k D hI hs ha=>?_⟩
  obtain rfl:k=#[]:=Fu hs
  refine (VZ (κ:=κ) (C0:=⟨D.1,D.2,hI,aV _,fun _ _=>rfl,rfl,rfl⟩)).mono ?_
  rintro e w' ⟨rfl,J,C,hJ⟩
  exact ⟨_,I,rfl,.b _,C.sz,C.old,fun _ h=>h,fun _ h=>.inl h,fun b hb=>ea (hI b hb) C.sz,C.os,C.out⟩
 ·cases h
end Go.Proofs.YtkkkkondjclcnaaGreat.A
namespace Go.Proofs.YtkkkkondjclcnaaGreat.A
open Go Go.Proofs
variable [bM]
theorem orc:je Tryz.prog Ω0:=by
 refine ⟨fun f g n h=>?_,fun f y h _=>?_,fun f ys x h hy hp=>?_,fun f ys t h hy=>?_,fun f t h=>?_,fun f c es ns h hn=>?_⟩
 ·simp only [Ω0] at h
  split at h
  ·exact (Re h).elim
  ·exact (Ob h).elim
  ·exact (SB h).elim
  ·exact (Mo h).elim
  ·cases h
 ·simp only [Ω0] at h
  split at h
  ·exact (Xr h).elim
  ·exact (TL h).elim
  ·exact (V5 h).elim
  ·exact (Rd h).elim
  ·cases h
 ·simp only [Ω0] at h
  split at h
  ·exact (TM h hy).elim
  ·exact Y4 h
  ·exact V0 h
  ·exact (Ql h hp).elim
  ·cases h
 ·simp only [Ω0] at h
  split at h
  ·exact (Rg h).elim
  ·exact (Rh h).elim
  ·exact (TN h).elim
  ·exact Sv h
  ·cases h
 ·simp only [Ω0] at h
  split at h
  ·exact (Rf h).elim
  ·exact (Oc h).elim
  ·exact (SC h).elim
  ·exact (Mp h).elim
  ·cases h
 ·simp only [Ω0] at h
  split at h
  ·exact agB h hn
  ·exact (Od h).elim
  ·exact (SD h).elim
  ·exact (Mq h).elim
  ·cases h
theorem sound:kC Tryz.prog (call G Ω0):=Ss tab fun B=>@orc B
end Go.Proofs.YtkkkkondjclcnaaGreat.A
