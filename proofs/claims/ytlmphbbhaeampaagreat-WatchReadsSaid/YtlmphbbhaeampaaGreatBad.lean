/- The program that breaks a rule: what the law's own function answers. -/
import Derived.Shelf.Abstract
import Derived.LoopTactic
import Derived.Tactics2
import Derived.WalkKit
import Derived.OwnWalkIn
import Derived.Test.YtlmphbbhaeampaaGreatAbsG
import Derived.Test.YtlmphbbhaeampaaGreatAbsO
import Derived.Test.YtlmphbbhaeampaaGreatProg
set_option linter.all false
set_option maxHeartbeats 4000000
set_option maxRecDepth 100000
namespace Go.Proofs.YtlmphbbhaeampaaGreat.A
open Go Go.Proofs Go.RowKit Go.Shelf
attribute [local go_sem] Oper.semAt_some
variable [cj]
def ur:Value:=.slice none 0 0
def UN(n:Nat):Value:=.agg #[.int .i64 2,.slice none 0 0,.slice none 0 0,.slice (some ⟨n+1+1,0,none⟩) 1 1,.slice (some ⟨n+1+1+1,0,none⟩) 1 1,.slice (some ⟨n+1+1+1+1,0,none⟩) 1 1,.slice none 0 0,.slice (some ⟨n+1+1+1+1+1,0,none⟩) 2 2]
theorem eight(w:World)(b0 b1 b2 b3 b4 b5 b6 b7:Obj):Below w.heap.size w ((((((((w.alloc b0).alloc b1).alloc b2).alloc b3).alloc b4).alloc b5).alloc b6).alloc b7)∧
  ((((((((w.alloc b0).alloc b1).alloc b2).alloc b3).alloc b4).alloc b5).alloc b6).alloc b7).heap.size=w.heap.size+8∧
  ((((((((w.alloc b0).alloc b1).alloc b2).alloc b3).alloc b4).alloc b5).alloc b6).alloc b7).heap[w.heap.size+2]? =some b2∧
  ((((((((w.alloc b0).alloc b1).alloc b2).alloc b3).alloc b4).alloc b5).alloc b6).alloc b7).heap[w.heap.size+3]? =some b3∧
  ((((((((w.alloc b0).alloc b1).alloc b2).alloc b3).alloc b4).alloc b5).alloc b6).alloc b7).heap[w.heap.size+4]? =some b4∧
  ((((((((w.alloc b0).alloc b1).alloc b2).alloc b3).alloc b4).alloc b5).alloc b6).alloc b7).heap[w.heap.size+5]? =some b5∧
  ((((((((w.alloc b0).alloc b1).alloc b2).alloc b3).alloc b4).alloc b5).alloc b6).alloc b7).heap[w.heap.size+7]? =some b7:=by
 refine ⟨?_,by simp only [World.alloc,sT],?_,?_,?_,?_,?_⟩
 ·repeat (first | exact Below.refl _ _ | refine Below.alloc ?_ (by first | exact aY _ | (simp only [World.alloc,sT];omega)) _)
 ·simp only [World.alloc,wx,sT]
  rw [ab,ab,ab,ab,ab,af trivial]<;>omega
 ·simp only [World.alloc,wx,sT]
  rw [ab,ab,ab,ab,af trivial]<;>omega
 ·simp only [World.alloc,wx,sT]
  rw [ab,ab,ab,af trivial]<;>omega
 ·simp only [World.alloc,wx,sT]
  rw [ab,ab,af trivial]<;>omega
 ·simp only [World.alloc,wx,sT]
  rw [af trivial]
variable {w:World}
theorem adE: Calls Tryz.prog 75 #[] w fun e w'=>e= .returned (UN w.heap.size)∧Below w.heap.size w w'∧w'.heap.size=w.heap.size+8∧
  w'.heap[w.heap.size+2]? =some (.cells #[.slice (some ⟨w.heap.size+7,0,none⟩) 1 1,ur] 83 (0,0))∧w'.heap[w.heap.size+3]? =some (.cells #[ur,ur] 83 (0,0))∧
  w'.heap[w.heap.size+4]? =some (.cells #[.bool false,ur,ur] 86 (0,0))∧
  w'.heap[w.heap.size+5]? =some (.cells #[.int .i64 3,.int .i64 0,.int .i64 0,.int .i64 0,.int .i64 0,ur,ur,ur,ur,.int .i64 4,.int .i64 0,.int .i64 0,.int .i64 2,.int .i64 0,ur,ur,ur,ur] 111 (0,0))∧
  w'.heap[w.heap.size+7]? =some (.cells #[.int .i64 0,ur] 155 (0,0)):=by
 refine calls_of_wp Tryz.func75 rfl ?_
 simp only [Tryz.ntmps75,uN,eM,qE,Nat.reduceAdd,Nat.reduceSub,zJ,zK,zL,zM,eN,eZ]
 go_wp2
 refine bodyPost_ret (v:=.agg #[.int .i64 1,.slice none 0 0,.slice none 0 0,.slice (some ⟨w.heap.size+1+1,0,none⟩) 1 1,.slice (some ⟨w.heap.size+1+1+1,0,none⟩) 1 1,.slice (some ⟨w.heap.size+1+1+1+1,0,none⟩) 1 1,.slice none 0 0,.slice (some ⟨w.heap.size+1+1+1+1+1,0,none⟩) 2 2]) (by simp [results,Tryz.results56,go_sem]) rfl ?_
 go_wp2
 refine bodyPost_ret (v:=UN w.heap.size) (by simp [results,Tryz.results75,go_sem,UN]) rfl ?_
 obtain ⟨h1,h2,h3,h4,h5,h6,h7⟩:=eight w _ _ _ _ _ _ _ _
 exact ⟨rfl,h1,h2,h3,h4,h5,h6,h7⟩
theorem Ny{I:Nat→Prop}{κ:Key→Nat}{t:TypeId}{es:List AV}{g n sz:Nat}{cs:Array Value}(hI:I g)(hh:w.heap[g]? =some (.cells cs t (0,0)))(hg:cj.n0≤g)(hn:es.length=n)(h0:0<n)(hm:n≤maxLen)(p:0<sz)(q:n*sz=cs.size)(k:(es.all fun e=>decide (e.nc=sz)&&e.pure&&e.cl.all (·.one))=true)(hc:∀ (j:Nat)(e:AV)(m:Nat)(c:AV),es[j]? =some e→e.cl[m]? =some c→VR w I κ c (cs.getD (0+j*sz+m) undef)):VR w I κ (.l t es) (.slice (some ⟨g,0,none⟩) n n):=by
 subst hn
 simp only [cI,aL,eg] at k
 exact .l t es g 0 es.length cs t (0,0) sz hI hh (fun _=>⟨fun _=>⟨rfl,rfl⟩,fun h=>absurd h (nR.2 hg)⟩) p (fun e he=>(k e he).1.1) (by omega) (fun e he=>(k e he).1.2)
  (fun e he c hc=>(k e he).2 c hc) (aY _) hm hc
theorem afW{ys:List AV}{x:AV}(h:BZ 79 3 83 155 86 91 111 89 ys=some x):A8 Tryz.prog 75 ys x:=by
 unfold BZ at h
 split at h
 ·obtain rfl:=ah h
  refine ⟨⟨Tryz.f75,Tryz.func75,rfl,by decide⟩,fun w I κ f r hI hs ha=>?_⟩
  obtain rfl:f=#[]:=JJ hs
  refine adE.mono ?_
  rintro e w' ⟨rfl,hB,p,h2,h3,h4,h5,h7⟩
  have hn:=r.1
  generalize o:(fun b=>I b∨(w.heap.size≤b∧b<w.heap.size+8))=I'
  have d:∀ b,w.heap.size≤b→b<w.heap.size+8→I' b:=fun b h1 h2=>by rw [←o];exact .inr ⟨h1,h2⟩
  have r7:VR w' I' κ (.l 155 [.a [.i .i64 0,.l 3 []]]) (.slice (some ⟨w.heap.size+7,0,none⟩) 1 1):=by
   refine Ny (d _ (by omega) (by omega)) h7 (by omega) rfl (by decide) (by decide) (sz:=2) (by decide) rfl (by decide) (fun j e m c he hc=>?_)
   match j,he with
   | 0,he=>
    obtain rfl:=ah he
    match m,hc with
    | 0,hc=>obtain rfl:=ah hc;exact .i _ _
    | 1,hc=>obtain rfl:=ah hc;exact .lnil _ _ _
  have r2:VR w' I' κ (.l 83 [.a [.l 155 [.a [.i .i64 0,.l 3 []]],.l 155 []]]) (.slice (some ⟨w.heap.size+1+1,0,none⟩) 1 1):=by
   refine Ny (d _ (by omega) (by omega)) h2 (by omega) rfl (by decide) (by decide) (sz:=2) (by decide) rfl (by decide) (fun j e m c he hc=>?_)
   match j,he with
   | 0,he=>
    obtain rfl:=ah he
    match m,hc with
    | 0,hc=>obtain rfl:=ah hc;exact r7
    | 1,hc=>obtain rfl:=ah hc;exact .lnil _ _ _
  have r3:VR w' I' κ (.l 83 [.a [.l 155 [],.l 155 []]]) (.slice (some ⟨w.heap.size+1+1+1,0,none⟩) 1 1):=by
   refine Ny (d _ (by omega) (by omega)) h3 (by omega) rfl (by decide) (by decide) (sz:=2) (by decide) rfl (by decide) (fun j e m c he hc=>?_)
   match j,he with
   | 0,he=>
    obtain rfl:=ah he
    match m,hc with
    | 0,hc=>obtain rfl:=ah hc;exact .lnil _ _ _
    | 1,hc=>obtain rfl:=ah hc;exact .lnil _ _ _
  have r4:VR w' I' κ (.l 86 [.a [.b false,.l 155 [],.l 155 []]]) (.slice (some ⟨w.heap.size+1+1+1+1,0,none⟩) 1 1):=by
   refine Ny (d _ (by omega) (by omega)) h4 (by omega) rfl (by decide) (by decide) (sz:=3) (by decide) rfl (by decide) (fun j e m c he hc=>?_)
   match j,he with
   | 0,he=>
    obtain rfl:=ah he
    match m,hc with
    | 0,hc=>obtain rfl:=ah hc;exact .b _
    | 1,hc=>obtain rfl:=ah hc;exact .lnil _ _ _
    | 2,hc=>obtain rfl:=ah hc;exact .lnil _ _ _
  refine ⟨_,I',rfl,?_,hB.size,fun b hb=>hB.block b hb,fun b hb=>by rw [←o];exact .inl hb,fun b hb=>by rw [←o] at hb;exact hb.imp id fun e=>e.1,fun b hb=>by
   rw [←o] at hb
   rcases hb with hb | hb
   ·exact eK (hI b hb) hB.size
   ·omega,hB.os,hB.output⟩
  refine .a _ _ rfl (by decide) (fun m c hc=>?_)
  match m,hc with
  | 0,hc=>obtain rfl:=ah hc;exact .i _ _
  | 1,hc=>obtain rfl:=ah hc;exact .lnil _ _ _
  | 2,hc=>obtain rfl:=ah hc;exact .lnil _ _ _
  | 3,hc=>obtain rfl:=ah hc;exact r2
  | 4,hc=>obtain rfl:=ah hc;exact r3
  | 5,hc=>obtain rfl:=ah hc;exact r4
  | 6,hc=>obtain rfl:=ah hc;exact .lnil _ _ _
  | 7,hc=>
   obtain rfl:=ah hc
   refine Ny (d _ (by omega) (by omega)) h5 (by omega) rfl (by decide) (by decide) (sz:=9) (by decide) rfl (by decide) (fun j e m c he hc=>?_)
   match j,he with
   | 0,he=>
    obtain rfl:=ah he
    match m,hc with
    | 0,hc=>obtain rfl:=ah hc;exact .i _ _
    | 1,hc=>obtain rfl:=ah hc;exact .i _ _
    | 2,hc=>obtain rfl:=ah hc;exact .i _ _
    | 3,hc=>obtain rfl:=ah hc;exact .i _ _
    | 4,hc=>obtain rfl:=ah hc;exact .i _ _
    | 5,hc=>obtain rfl:=ah hc;exact .lnil _ _ _
    | 6,hc=>obtain rfl:=ah hc;exact .lnil _ _ _
    | 7,hc=>obtain rfl:=ah hc;exact .lnil _ _ _
    | 8,hc=>obtain rfl:=ah hc;exact .lnil _ _ _
   | 1,he=>
    obtain rfl:=ah he
    match m,hc with
    | 0,hc=>obtain rfl:=ah hc;exact .i _ _
    | 1,hc=>obtain rfl:=ah hc;exact .i _ _
    | 2,hc=>obtain rfl:=ah hc;exact .i _ _
    | 3,hc=>obtain rfl:=ah hc;exact .i _ _
    | 4,hc=>obtain rfl:=ah hc;exact .i _ _
    | 5,hc=>obtain rfl:=ah hc;exact .lnil _ _ _
    | 6,hc=>obtain rfl:=ah hc;exact .lnil _ _ _
    | 7,hc=>obtain rfl:=ah hc;exact .lnil _ _ _
    | 8,hc=>obtain rfl:=ah hc;exact .lnil _ _ _
 ·cases h
end Go.Proofs.YtlmphbbhaeampaaGreat.A
