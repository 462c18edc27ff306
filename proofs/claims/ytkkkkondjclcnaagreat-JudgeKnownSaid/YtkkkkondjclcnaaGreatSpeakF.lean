/- judge.Speaker's Silent and Hidden as plain functions: ranges over the variables of an expression. -/
import Derived.Test.YtkkkkondjclcnaaGreatLevelF
set_option maxRecDepth 100000
set_option linter.unusedSectionVars false
set_option linter.unusedVariables false
set_option linter.unusedSimpArgs false
set_option linter.constructorNameAsVariable false
namespace Go.Proofs.YtkkkkondjclcnaaGreat.A
open Go
variable [Lp]
theorem PG{dp:Nat}{hp:HP}(h:ax (dp+1) hp):(fun k:Key=>if k.dp=dp+1 then none else hp k)=hp:=by
 funext k
 split
 ·rename_i e;exact (h k (by omega)).symm
 ·rfl
theorem Vq{dp:Nat}{hp:HP}(h:ax dp hp):(fun k:Key=>if k.dp<dp then hp k else none)=hp:=by
 funext k
 split
 ·rfl
 ·rename_i e;exact (h k e).symm
def Bm(c0:aA)(n:Int):Option Var:=(dG n).bind fun j=>c0.p.Vars[j]?
def sT(c0:aA):List Int→Option Bool
 | []=>some false
 | n::ns=>(Bm c0 n).bind fun v=>if v.Known=true then sT c0 ns else some true
def dJ(c0:aA)(a0:Stmt):Option Bool:=
 if a0.Kind=6 then (Bm c0 a0.Var).bind fun v=>some (!v.Known) else sT c0 (lW a0.Expr)
def vT:AC:=(.rg [] [gp 5 (.as (.t 23))] [2,4,5] [0,2,4])
def sU:AC:=(.bl 1 (.sq (.rg [] [gp 24 (.ld none (.t 2)),gp 25 (.nc (.t 24)),gp 26 (.fa 0 (.t 25)),gp 27 (.fa 5 (.t 26)),gp 28 (.ld none (.t 27)),gp 29 (.mv (.t 5)),gp 30 (.ia 3 none (.t 28) (.t 29)),gp 31 (.fa 0 (.t 30)),gp 32 (.ld none (.t 31)),gp 33 (.no (.t 32))] [2,4,33] [0,2,4]) (.ite (.t 33) (.sq (.rg [] [⟨none,.st 1 (.t 4) (.c (.b true)),none,false⟩] [4] [4]) .rt) .sk)))
set_option maxHeartbeats 2000000 in
theorem H9(dp:Nat)(hp:HP)(k0:Key)(hk:k0.dp<dp)(c0:aA)(z:Bool)(j:Nat)(v:Var)(h2:hp ⟨dp,2⟩=some [.p k0 0])(h0:hp k0=some (af c0))(h4:hp ⟨dp,4⟩=some [.b z])(hv:c0.p.Vars[j]? =some v) :
  run G Ω0 ⟨dp+1,false⟩ sU ⟨[(2,.p ⟨dp,2⟩ 0),(4,.p ⟨dp,4⟩ 0),(5,.i .i64 j)],[],hp⟩=
   some (if v.Known=true then (.nrm,⟨[(2,.p ⟨dp,2⟩ 0),(4,.p ⟨dp,4⟩ 0),(33,.b false)],[],hp⟩) else (.ret,⟨[(4,.p ⟨dp,4⟩ 0)],[],ab hp ⟨dp,4⟩ [.b true]⟩)):=by
 have e1:¬k0.dp=dp+1:=by omega
 cases hb:v.Known<;>simp [sU,gp,execOp,h2,h0,h4,hv,hb,e1,aW,pick]
def bn(dp u:Nat)(k0:Key)(H:HP)(e:ak)(b:Bool):St:=⟨[(2,.p ⟨dp,2⟩ 0),(4,.p ⟨dp,4⟩ 0),(u,.f 146 [.e (az e) 0])],[(2,[.p k0 0]),(4,[.b b])],H⟩
theorem Jp{dp u:Nat}{k0:Key}{H:HP}{e:ak}{b:Bool}(h:ax dp H):(bn dp u k0 H e b).back dp (fun k=>(bn dp u k0 H e b).box dp k)=bn dp u k0 H e b:=by
 have h1:(fun k:Key=>if k.dp<dp then (bn dp u k0 H e b).box dp k else none)=H:=by
  funext k
  split
  ·rename_i hk
   simp only [St.box,if_neg (Nat.ne_of_lt hk)];rfl
  ·rename_i hk;exact (h k hk).symm
 unfold St.back
 rw [h1]
 simp [bn,jr,bC]
theorem Ia{dp u:Nat}{k0:Key}{H:HP}{e:ak}{b:Bool}(h:ax dp H):(bn dp u k0 H e b).back dp (ab (fun k=>(bn dp u k0 H e b).box dp k) ⟨dp,4⟩ [.b true])=bn dp u k0 H e true:=by
 have h1:(fun k:Key=>if k.dp<dp then ab (fun k=>(bn dp u k0 H e b).box dp k) ⟨dp,4⟩ [.b true] k else none)=H:=by
  funext k
  split
  ·rename_i hk
   rw [la (aP hk)]
   simp only [St.box,if_neg (Nat.ne_of_lt hk)];rfl
  ·rename_i hk;exact (h k hk).symm
 unfold St.back
 rw [h1]
 simp [bn,jr,bC,ab]
theorem vU{dp u x:Nat}{k0:Key}{H:HP}{e:ak}(hk:k0.dp<dp)(hz:ax dp H)(y b:AC)(go:List Int→Option Bool)(g0:go []=some false)
  (hy:∀ n:Int,∃ q,run G Ω0 ⟨dp+1,false⟩ y ((bn dp u k0 H e false).inner dp x n)=some (.nrm,q)∧∀ ns o,go (n::ns)=some o→
   (∃ fr,go ns=some o∧run G Ω0 ⟨dp+1,false⟩ b q=some (.nrm,⟨fr,[],fun k=>(bn dp u k0 H e false).box dp k⟩))∨
   (o=true∧∃ fr,run G Ω0 ⟨dp+1,false⟩ b q=some (.ret,⟨fr,[],ab (fun k=>(bn dp u k0 H e false).box dp k) ⟨dp,4⟩ [.b true]⟩))) :
  ∀ (ns:List Int)(o:Bool),go ns=some o→rounds dp (run G Ω0 ⟨dp+1,false⟩) x y b ns (bn dp u k0 H e false)=some (if o=true then (.ret,bn dp u k0 H e true) else (.nrm,bn dp u k0 H e false))
 | [],o,h=>by
  rw [g0] at h
  obtain rfl:=Option.some.inj h
  rfl
 | n::ns,o,h=>by
  obtain ⟨q,h1,h2⟩:=hy n
  unfold rounds
  rw [if_pos (by simp [bn,Nat.le_of_lt hk]),h1]
  simp only [Option.bind_some]
  rcases h2 ns o h with ⟨fr,h3,h4⟩ | ⟨rfl,fr,h4⟩
  ·rw [h4]
   simp only [Option.bind_some]
   rw [Jp hz]
   exact vU hk hz y b go g0 hy ns o h3
  ·rw [h4]
   simp only [Option.bind_some]
   rw [Ia hz]
   rfl
theorem Gi{dp:Nat}{k0:Key}{H:HP}{e:ak}(hk:k0.dp<dp)(hz:ax dp H)(c0:aA)(h0:H k0=some (af c0))(ns:List Int)(o:Bool)(h:sT c0 ns=some o) :
  rounds dp (run G Ω0 ⟨dp+1,false⟩) 23 vT sU ns (bn dp 22 k0 H e false)=some (if o=true then (.ret,bn dp 22 k0 H e true) else (.nrm,bn dp 22 k0 H e false)):=by
 refine vU hk hz vT sU (sT c0) rfl (fun n=>⟨⟨[(2,.p ⟨dp,2⟩ 0),(4,.p ⟨dp,4⟩ 0),(5,.i .i64 n)],[],fun k=>(bn dp 22 k0 H e false).box dp k⟩,by unfold vT;rw [tG];rfl,fun ns o h=>?_⟩) ns o h
 obtain ⟨v,hv0,h2⟩:=Option.bind_eq_some_iff.1 h
 obtain ⟨j,hj,hv⟩:=Option.bind_eq_some_iff.1 hv0
 obtain rfl:=jQ hj
 have hr:=H9 dp (fun k=>(bn dp 22 k0 H e false).box dp k) k0 hk c0 false j v (by simp [bn]) (by simp only [St.box,if_neg (Nat.ne_of_lt hk)];exact h0) (by simp [bn]) hv
 cases hb:v.Known with
 | true=>rw [hb] at h2 hr;exact .inl ⟨_,h2,hr⟩
 | false=>rw [hb] at h2 hr;exact .inr ⟨(Option.some.inj h2).symm,_,hr⟩
abbrev qK(dp:Nat)(hp:HP)(k0:Key)(c0:aA)(a0:Stmt)(r:Bool):Prop:=call G Ω0 ⟨dp,false⟩ 164 [(.p k0 0),.a (aw a0)] (ab hp k0 (af c0))=some (.ret (.b r),ab hp k0 (af c0))
set_option maxHeartbeats 4000000 in
theorem uT(dp:Nat)(hp:HP)(k0:Key)(hk_k0:k0.dp<dp)(hz:ax dp hp)(c0:aA)(a0:Stmt)(r:Bool)(h:dJ c0 a0=some r):qK dp hp k0 c0 a0 r:=by
 have h0:ab hp k0 (af c0) k0=some (af c0):=by simp [ab]
 have hzH:ax dp (ab hp k0 (af c0)):=aF hk_k0 hz
 show call G Ω0 ⟨dp,false⟩ _ _ (ab hp k0 (af c0))=some (_,ab hp k0 (af c0))
 generalize ab hp k0 (af c0)=H at h0 hzH
 have hU:=Ao a0.Expr
 have hX:=dt a0.Expr
 rw [hX] at hU
 have e1:¬k0.dp=dp:=by omega
 have e2:∀ d,¬k0=⟨dp,d⟩:=fun d=>aP hk_k0
 have e3:k0.dp≤dp:=by omega
 have hA:run G Ω0 ⟨dp,false⟩ (.rg [] [gp 2 (.bx (.t 0)),gp 3 (.bx (.t 1)),gp 4 (.al [(.b false)])] [2,3,4] [0,2,3,4]) ⟨fO 0 [(.p k0 0),.a (aw a0)],[],H⟩=
   some (.nrm,⟨[(2,.p ⟨dp,2⟩ 0),(3,.p ⟨dp,3⟩ 0),(4,.p ⟨dp,4⟩ 0)],[(2,[.p k0 0]),(3,aw a0),(4,[.b false])],H⟩):=by
  simp [gp,execOp,e1,e2,e3,fM]
 have hB:run G Ω0 ⟨dp,false⟩ (.rg [] [gp 6 (.fa 0 (.t 3)),gp 7 (.ld none (.t 6)),gp 8 (.bo .eql false (.t 7) (.c (.i .i64 6)))] [2,3,4,8] [0,2,3,4]) ⟨[(2,.p ⟨dp,2⟩ 0),(3,.p ⟨dp,3⟩ 0),(4,.p ⟨dp,4⟩ 0)],[(2,[.p k0 0]),(3,aw a0),(4,[.b false])],H⟩=
   some (.nrm,⟨[(2,.p ⟨dp,2⟩ 0),(3,.p ⟨dp,3⟩ 0),(4,.p ⟨dp,4⟩ 0),(8,.b (a0.Kind==6))],[(2,[.p k0 0]),(3,aw a0),(4,[.b false])],H⟩):=by
  simp [gp,execOp,pick]
 have hC:run G Ω0 ⟨dp,false⟩ (.rg [] [gp 20 (.fa 3 (.t 3)),gp 21 (.ld (some 3) (.t 20)),gp 22 (.ca 0 113 [(.t 21)])] [2,4,22] [0,2,4]) ⟨[(2,.p ⟨dp,2⟩ 0),(3,.p ⟨dp,3⟩ 0),(4,.p ⟨dp,4⟩ 0)],[(2,[.p k0 0]),(3,aw a0),(4,[.b false])],H⟩=some (.nrm,bn dp 22 k0 H a0.Expr false):=by
  simp [gp,execOp,hU,pick,bn,hX]
 have hZ:run G Ω0 ⟨dp,false⟩ (.rg [] [⟨none,.st 1 (.t 4) (.c (.b false)),none,false⟩] [4] [4]) (bn dp 22 k0 H a0.Expr false)=some (.nrm,⟨[(4,.p ⟨dp,4⟩ 0)],[(4,[.b false])],H⟩):=by
  simp [gp,execOp,bn]
 have hK:(⟨[(2,.p ⟨dp,2⟩ 0),(3,.p ⟨dp,3⟩ 0),(4,.p ⟨dp,4⟩ 0),(8,.b (a0.Kind==6))],[(2,[.p k0 0]),(3,aw a0),(4,[.b false])],H⟩:St).aH [2,3,4] [0,2,3,4]=⟨[(2,.p ⟨dp,2⟩ 0),(3,.p ⟨dp,3⟩ 0),(4,.p ⟨dp,4⟩ 0)],[(2,[.p k0 0]),(3,aw a0),(4,[.b false])],H⟩:=rfl
 have h8:pK ((⟨[(2,.p ⟨dp,2⟩ 0),(3,.p ⟨dp,3⟩ 0),(4,.p ⟨dp,4⟩ 0),(8,.b (a0.Kind==6))],[(2,[.p k0 0]),(3,aw a0),(4,[.b false])],H⟩:St).ev (.t 8))=some (a0.Kind==6):=rfl
 have hc:K5=⟨(.sq (.rg [] [gp 2 (.bx (.t 0)),gp 3 (.bx (.t 1)),gp 4 (.al [(.b false)])] [2,3,4] [0,2,3,4]) (.sq (.sq (.rg [] [gp 6 (.fa 0 (.t 3)),gp 7 (.ld none (.t 6)),gp 8 (.bo .eql false (.t 7) (.c (.i .i64 6)))] [2,3,4,8] [0,2,3,4]) (.ite (.t 8) (.sq (.dg [] [] [⟨gp 9 (.ld none (.t 2)),true,[2],[2],true,[],[],[]⟩,⟨gp 10 (.nc (.t 9)),true,[9],[],false,[],[],[]⟩,⟨gp 11 (.fa 0 (.t 10)),true,[10],[],false,[],[],[]⟩,⟨gp 12 (.fa 5 (.t 11)),true,[11],[],false,[],[],[]⟩,⟨gp 13 (.ld none (.t 12)),true,[12],[],true,[],[],[]⟩,⟨gp 14 (.fa 1 (.t 3)),true,[3],[],false,[],[],[]⟩,⟨gp 15 (.ld none (.t 14)),true,[14],[3],false,[],[],[]⟩,⟨gp 16 (.ia 3 none (.t 13) (.t 15)),false,[],[],false,[],[],[]⟩,⟨gp 17 (.fa 0 (.t 16)),false,[],[],false,[],[],[]⟩,⟨gp 18 (.ld none (.t 17)),false,[],[],false,[],[],[]⟩,⟨gp 19 (.no (.t 18)),false,[],[],false,[],[],[]⟩,⟨⟨none,.st 1 (.t 4) (.t 19),none,false⟩,false,[],[],false,[],[],[]⟩] [4] [4]) .rt) .sk)) (.kp [2,3,4] [0,2,3,4] (.sq (.sq (.rg [] [gp 20 (.fa 3 (.t 3)),gp 21 (.ld (some 3) (.t 20)),gp 22 (.ca 0 113 [(.t 21)])] [2,4,22] [0,2,4]) (.bl 0 (.ru (.t 22) 23 vT sU))) (.sq (.rg [] [⟨none,.st 1 (.t 4) (.c (.b false)),none,false⟩] [4] [4]) .rt))))),[.c 4 none]⟩:=rfl
 rw [np,acb,Option.bind_some,hc]
 unfold dJ at h
 by_cases h6:a0.Kind=6
 ·rw [if_pos h6] at h
  obtain ⟨v,hv0,h2⟩:=Option.bind_eq_some_iff.1 h
  obtain ⟨j,hj,hv⟩:=Option.bind_eq_some_iff.1 hv0
  have hj:=jQ hj
  obtain rfl:=Option.some.inj h2
  have hD:run G Ω0 ⟨dp,false⟩ (.dg [] [] [⟨gp 9 (.ld none (.t 2)),true,[2],[2],true,[],[],[]⟩,⟨gp 10 (.nc (.t 9)),true,[9],[],false,[],[],[]⟩,⟨gp 11 (.fa 0 (.t 10)),true,[10],[],false,[],[],[]⟩,⟨gp 12 (.fa 5 (.t 11)),true,[11],[],false,[],[],[]⟩,⟨gp 13 (.ld none (.t 12)),true,[12],[],true,[],[],[]⟩,⟨gp 14 (.fa 1 (.t 3)),true,[3],[],false,[],[],[]⟩,⟨gp 15 (.ld none (.t 14)),true,[14],[3],false,[],[],[]⟩,⟨gp 16 (.ia 3 none (.t 13) (.t 15)),false,[],[],false,[],[],[]⟩,⟨gp 17 (.fa 0 (.t 16)),false,[],[],false,[],[],[]⟩,⟨gp 18 (.ld none (.t 17)),false,[],[],false,[],[],[]⟩,⟨gp 19 (.no (.t 18)),false,[],[],false,[],[],[]⟩,⟨⟨none,.st 1 (.t 4) (.t 19),none,false⟩,false,[],[],false,[],[],[]⟩] [4] [4]) ⟨[(2,.p ⟨dp,2⟩ 0),(3,.p ⟨dp,3⟩ 0),(4,.p ⟨dp,4⟩ 0),(8,.b (a0.Kind==6))],[(2,[.p k0 0]),(3,aw a0),(4,[.b false])],H⟩=some (.nrm,⟨[(4,.p ⟨dp,4⟩ 0)],[(4,[.b (!v.Known)])],H⟩):=by
   simp [gp,execOp,pick,h0,e1,hj,hv,aW,okB,k7,cY,iS,tE,jr,jc]
  have h86:(a0.Kind==6)=true:=by simp [h6]
  rw [h86] at hB h8 hD
  simp only [k9,hA,hB,run_ite,h8,hD,Option.bind_some,nu,if_true,db]
  simp [St.end_,pick,zt,St.ir]
 ·rw [if_neg h6] at h
  have h86:(a0.Kind==6)=false:=by simp [h6]
  rw [h86] at hB h8 hK
  have hr:=Gi (e:=a0.Expr) hk_k0 hzH c0 h0 _ r h
  have hru:run G Ω0 ⟨dp,false⟩ (.ru (.t 22) 23 vT sU) (bn dp 22 k0 H a0.Expr false)=some (if r=true then (.ret,bn dp 22 k0 H a0.Expr true) else (.nrm,bn dp 22 k0 H a0.Expr false)):=by
   rw [HK,if_neg (by simp)]
   show (rM Ω0 (.f 146 [.e (az a0.Expr) 0])).bind _=_
   rw [HL,Option.bind_some]
   exact hr
  cases r with
  | true=>
   rw [if_pos rfl] at hru
   simp only [k9,hA,hB,run_ite,h8,iD,hK,hC,l8,hru,Option.bind_some,nu,inBlock,if_false,Bool.false_eq_true,bU,db]
   simp [St.end_,pick,zt,St.ir,bn]
  | false=>
   rw [if_neg (by simp)] at hru
   simp only [k9,hA,hB,run_ite,h8,iD,hK,hC,l8,hru,hZ,Option.bind_some,nu,inBlock,if_false,Bool.false_eq_true,bU,db]
   simp [St.end_,pick,zt,St.ir,bn]
theorem yV{hp:HP}{k:Key}{c:List AV}(h:hp k=some c):ab hp k c=hp:=by
 funext q
 simp only [ab]
 split
 ·rename_i e;rw [e,h]
 ·rfl
theorem Ib{dp:Nat}{hp:HP}{k0:Key}(hk:k0.dp<dp)(hz:ax dp hp)(c0:aA)(h0:hp k0=some (af c0))(l:List aD)(b:Bool)(h:dP c0 l=some b) :
  call G Ω0 ⟨dp,false⟩ 171 [(.p k0 0),(.l 138 (l.map au))] hp=some (.ret (.b b),hp):=by
 have:=xq dp hp k0 hk hz c0 l b h
 unfold so sn at this
 rwa [yV h0] at this
noncomputable def sV(c0:aA):List Int→Option Bool
 | []=>some false
 | n::ns=>(Bm c0 n).bind fun v=>(dP c0 v.Label.Read).bind fun b=>if b=true then sV c0 ns else some true
noncomputable def dK(c0:aA)(a0:Stmt):Option Bool:=
 if a0.Kind=6 then (Bm c0 a0.Var).bind fun v=>(dP c0 v.Label.Write).bind fun b=>some (!b) else sV c0 (lW a0.Expr)
def vV:AC:=(.rg [] [gp 5 (.as (.t 26))] [2,4,5] [0,2,4])
def sW:AC:=(.bl 1 (.sq (.dg [] [] [⟨gp 27 (.ld none (.t 2)),true,[2],[],true,[],[],[]⟩,⟨gp 28 (.ld none (.t 2)),true,[2],[],true,[],[],[]⟩,⟨gp 29 (.nc (.t 28)),true,[28],[],false,[],[],[]⟩,⟨gp 30 (.fa 0 (.t 29)),true,[29],[],false,[],[],[]⟩,⟨gp 31 (.fa 5 (.t 30)),true,[30],[],false,[],[],[]⟩,⟨gp 32 (.ld none (.t 31)),true,[31],[],true,[],[],[]⟩,⟨gp 33 (.mv (.t 5)),true,[5],[],false,[],[],[]⟩,⟨gp 34 (.ia 3 none (.t 32) (.t 33)),true,[32,33],[],false,[],[],[]⟩,⟨gp 35 (.fa 1 (.t 34)),true,[34],[],false,[],[],[]⟩,⟨gp 36 (.fa 0 (.t 35)),true,[35],[],false,[],[],[]⟩,⟨gp 37 (.ld none (.t 36)),true,[36],[],false,[],[],[]⟩,⟨gp 38 (.c2 171 [(.t 27),(.t 37)]),false,[],[],false,[],[],[]⟩,⟨gp 39 (.no (.t 38)),false,[],[],false,[],[],[]⟩] [2,4,39] [0,2,4]) (.ite (.t 39) (.sq (.rg [] [⟨none,.st 1 (.t 4) (.c (.b true)),none,false⟩] [4] [4]) .rt) .sk)))
set_option maxHeartbeats 4000000 in
theorem Ic(dp:Nat)(hp:HP)(hlow:ax (dp+1) hp)(k0:Key)(hk:k0.dp<dp)(c0:aA)(z:Bool)(j:Nat)(v:Var)(b:Bool)(h2:hp ⟨dp,2⟩=some [.p k0 0])(h0:hp k0=some (af c0))(h4:hp ⟨dp,4⟩=some [.b z])(hv:c0.p.Vars[j]? =some v)
  (hb:dP c0 v.Label.Read=some b) :
  run G Ω0 ⟨dp+1,false⟩ sW ⟨[(2,.p ⟨dp,2⟩ 0),(4,.p ⟨dp,4⟩ 0),(5,.i .i64 j)],[],hp⟩=
   some (if b=true then (.nrm,⟨[(2,.p ⟨dp,2⟩ 0),(4,.p ⟨dp,4⟩ 0),(39,.b false)],[],hp⟩) else (.ret,⟨[(4,.p ⟨dp,4⟩ 0)],[],ab hp ⟨dp,4⟩ [.b true]⟩)):=by
 have e1:¬k0.dp=dp+1:=by omega
 have hlow2:ax (dp+1+1) hp:=fun k hk'=>hlow k (by omega)
 have hc:=Ib (dp:=dp+1+1) (by omega) hlow2 c0 h0 v.Label.Read b hb
 have f1:=PG hlow
 have f2:=Vq hlow
 cases b<;>simp [sW,gp,execOp,h2,h0,h4,hv,e1,aW,pick,bj,AV.cj,hc,f1,f2,St.back,bC,jr,okB,k7,cY,iS,tE,jc]
theorem Gj{dp:Nat}{k0:Key}{H:HP}{e:ak}(hk:k0.dp<dp)(hz:ax dp H)(c0:aA)(h0:H k0=some (af c0))(ns:List Int)(o:Bool)(h:sV c0 ns=some o) :
  rounds dp (run G Ω0 ⟨dp+1,false⟩) 26 vV sW ns (bn dp 25 k0 H e false)=some (if o=true then (.ret,bn dp 25 k0 H e true) else (.nrm,bn dp 25 k0 H e false)):=by
 have hlow:ax (dp+1) (fun k=>(bn dp 25 k0 H e false).box dp k):=fun k hk'=>by
  simp only [St.box,if_neg (show ¬k.dp=dp by omega)]
  exact hz k (by omega)
 refine vU hk hz vV sW (sV c0) rfl (fun n=>⟨⟨[(2,.p ⟨dp,2⟩ 0),(4,.p ⟨dp,4⟩ 0),(5,.i .i64 n)],[],fun k=>(bn dp 25 k0 H e false).box dp k⟩,by unfold vV;rw [tG];rfl,fun ns o h=>?_⟩) ns o h
 obtain ⟨v,hv0,h2⟩:=Option.bind_eq_some_iff.1 h
 obtain ⟨b,hb,h3⟩:=Option.bind_eq_some_iff.1 h2
 obtain ⟨j,hj,hv⟩:=Option.bind_eq_some_iff.1 hv0
 obtain rfl:=jQ hj
 have hr:=Ic dp (fun k=>(bn dp 25 k0 H e false).box dp k) hlow k0 hk c0 false j v b (by simp [bn]) (by simp only [St.box,if_neg (Nat.ne_of_lt hk)];exact h0) (by simp [bn]) hv hb
 cases b with
 | true=>exact .inl ⟨_,h3,hr⟩
 | false=>exact .inr ⟨(Option.some.inj h3).symm,_,hr⟩
abbrev qL(dp:Nat)(hp:HP)(k0:Key)(c0:aA)(a0:Stmt)(r:Bool):Prop:=call G Ω0 ⟨dp,false⟩ 163 [(.p k0 0),.a (aw a0)] (ab hp k0 (af c0))=some (.ret (.b r),ab hp k0 (af c0))
set_option maxHeartbeats 4000000 in
theorem uU(dp:Nat)(hp:HP)(k0:Key)(hk_k0:k0.dp<dp)(hz:ax dp hp)(c0:aA)(a0:Stmt)(r:Bool)(h:dK c0 a0=some r):qL dp hp k0 c0 a0 r:=by
 have h0:ab hp k0 (af c0) k0=some (af c0):=by simp [ab]
 have hzH:ax dp (ab hp k0 (af c0)):=aF hk_k0 hz
 show call G Ω0 ⟨dp,false⟩ _ _ (ab hp k0 (af c0))=some (_,ab hp k0 (af c0))
 generalize ab hp k0 (af c0)=H at h0 hzH
 have hU:=Ao a0.Expr
 have hX:=dt a0.Expr
 rw [hX] at hU
 have e1:¬k0.dp=dp:=by omega
 have e2:∀ d,¬k0=⟨dp,d⟩:=fun d=>aP hk_k0
 have e3:k0.dp≤dp:=by omega
 have hA:run G Ω0 ⟨dp,false⟩ (.rg [] [gp 2 (.bx (.t 0)),gp 3 (.bx (.t 1)),gp 4 (.al [(.b false)])] [2,3,4] [0,2,3,4]) ⟨fO 0 [(.p k0 0),.a (aw a0)],[],H⟩=some (.nrm,⟨[(2,.p ⟨dp,2⟩ 0),(3,.p ⟨dp,3⟩ 0),(4,.p ⟨dp,4⟩ 0)],[(2,[.p k0 0]),(3,aw a0),(4,[.b false])],H⟩):=by
  simp [gp,execOp,e1,e2,e3,fM]
 have hB:run G Ω0 ⟨dp,false⟩ (.rg [] [gp 6 (.fa 0 (.t 3)),gp 7 (.ld none (.t 6)),gp 8 (.bo .eql false (.t 7) (.c (.i .i64 6)))] [2,3,4,8] [0,2,3,4]) ⟨[(2,.p ⟨dp,2⟩ 0),(3,.p ⟨dp,3⟩ 0),(4,.p ⟨dp,4⟩ 0)],[(2,[.p k0 0]),(3,aw a0),(4,[.b false])],H⟩=some (.nrm,⟨[(2,.p ⟨dp,2⟩ 0),(3,.p ⟨dp,3⟩ 0),(4,.p ⟨dp,4⟩ 0),(8,.b (a0.Kind==6))],[(2,[.p k0 0]),(3,aw a0),(4,[.b false])],H⟩):=by
  simp [gp,execOp,pick]
 have hC:run G Ω0 ⟨dp,false⟩ (.rg [] [gp 23 (.fa 3 (.t 3)),gp 24 (.ld (some 3) (.t 23)),gp 25 (.ca 0 113 [(.t 24)])] [2,4,25] [0,2,4]) ⟨[(2,.p ⟨dp,2⟩ 0),(3,.p ⟨dp,3⟩ 0),(4,.p ⟨dp,4⟩ 0)],[(2,[.p k0 0]),(3,aw a0),(4,[.b false])],H⟩=some (.nrm,bn dp 25 k0 H a0.Expr false):=by
  simp [gp,execOp,hU,pick,bn,hX]
 have hZ:run G Ω0 ⟨dp,false⟩ (.rg [] [⟨none,.st 1 (.t 4) (.c (.b false)),none,false⟩] [4] [4]) (bn dp 25 k0 H a0.Expr false)=some (.nrm,⟨[(4,.p ⟨dp,4⟩ 0)],[(4,[.b false])],H⟩):=by
  simp [gp,execOp,bn]
 have hK:(⟨[(2,.p ⟨dp,2⟩ 0),(3,.p ⟨dp,3⟩ 0),(4,.p ⟨dp,4⟩ 0),(8,.b (a0.Kind==6))],[(2,[.p k0 0]),(3,aw a0),(4,[.b false])],H⟩:St).aH [2,3,4] [0,2,3,4]=⟨[(2,.p ⟨dp,2⟩ 0),(3,.p ⟨dp,3⟩ 0),(4,.p ⟨dp,4⟩ 0)],[(2,[.p k0 0]),(3,aw a0),(4,[.b false])],H⟩:=rfl
 have h8:pK ((⟨[(2,.p ⟨dp,2⟩ 0),(3,.p ⟨dp,3⟩ 0),(4,.p ⟨dp,4⟩ 0),(8,.b (a0.Kind==6))],[(2,[.p k0 0]),(3,aw a0),(4,[.b false])],H⟩:St).ev (.t 8))=some (a0.Kind==6):=rfl
 have hc:K4=⟨(.sq (.rg [] [gp 2 (.bx (.t 0)),gp 3 (.bx (.t 1)),gp 4 (.al [(.b false)])] [2,3,4] [0,2,3,4]) (.sq (.sq (.rg [] [gp 6 (.fa 0 (.t 3)),gp 7 (.ld none (.t 6)),gp 8 (.bo .eql false (.t 7) (.c (.i .i64 6)))] [2,3,4,8] [0,2,3,4]) (.ite (.t 8) (.sq (.dg [] [] [⟨gp 9 (.ld none (.t 2)),true,[2],[2],true,[],[],[]⟩,⟨gp 10 (.ld none (.t 2)),true,[2],[2],true,[],[],[]⟩,⟨gp 11 (.nc (.t 10)),true,[10],[],false,[],[],[]⟩,⟨gp 12 (.fa 0 (.t 11)),true,[11],[],false,[],[],[]⟩,⟨gp 13 (.fa 5 (.t 12)),true,[12],[],false,[],[],[]⟩,⟨gp 14 (.ld none (.t 13)),true,[13],[],true,[],[],[]⟩,⟨gp 15 (.fa 1 (.t 3)),true,[3],[],false,[],[],[]⟩,⟨gp 16 (.ld none (.t 15)),true,[15],[3],false,[],[],[]⟩,⟨gp 17 (.ia 3 none (.t 14) (.t 16)),true,[14,16],[],false,[],[],[]⟩,⟨gp 18 (.fa 1 (.t 17)),true,[17],[],false,[],[],[]⟩,⟨gp 19 (.fa 1 (.t 18)),true,[18],[],false,[],[],[]⟩,⟨gp 20 (.ld none (.t 19)),true,[19],[],false,[],[],[]⟩,⟨gp 21 (.c2 171 [(.t 9),(.t 20)]),false,[],[],false,[],[],[]⟩,⟨gp 22 (.no (.t 21)),false,[],[],false,[],[],[]⟩,⟨⟨none,.st 1 (.t 4) (.t 22),none,false⟩,false,[],[],false,[],[],[]⟩] [4] [4]) .rt) .sk)) (.kp [2,3,4] [0,2,3,4] (.sq (.sq (.rg [] [gp 23 (.fa 3 (.t 3)),gp 24 (.ld (some 3) (.t 23)),gp 25 (.ca 0 113 [(.t 24)])] [2,4,25] [0,2,4]) (.bl 0 (.ru (.t 25) 26 vV sW))) (.sq (.rg [] [⟨none,.st 1 (.t 4) (.c (.b false)),none,false⟩] [4] [4]) .rt))))),[.c 4 none]⟩:=rfl
 rw [np,aca,Option.bind_some,hc]
 unfold dK at h
 by_cases h6:a0.Kind=6
 ·rw [if_pos h6] at h
  obtain ⟨v,hv0,h2⟩:=Option.bind_eq_some_iff.1 h
  obtain ⟨b,hb,h3⟩:=Option.bind_eq_some_iff.1 h2
  obtain ⟨j,hj,hv⟩:=Option.bind_eq_some_iff.1 hv0
  have hj:=jQ hj
  obtain rfl:=Option.some.inj h3
  have h86:(a0.Kind==6)=true:=by simp [h6]
  rw [h86] at hB h8
  have hl:ax (dp+1) (fun k=>St.box dp (⟨[(2,.p ⟨dp,2⟩ 0),(3,.p ⟨dp,3⟩ 0),(4,.p ⟨dp,4⟩ 0),(8,.b true)],[(2,[.p k0 0]),(3,aw a0),(4,[.b false])],H⟩:St) k):=fun k hk'=>by
   simp only [St.box,if_neg (show ¬k.dp=dp by omega)]
   exact hzH k (by omega)
  have hcl:=Ib (k0:=k0) (dp:=dp+1) (by omega) hl c0 (by simp only [St.box,if_neg e1];exact h0) v.Label.Write b hb
  have hlw:(fun k:Key=>if k.dp<dp then St.box dp (⟨[(2,.p ⟨dp,2⟩ 0),(3,.p ⟨dp,3⟩ 0),(4,.p ⟨dp,4⟩ 0),(8,.b true)],[(2,[.p k0 0]),(3,aw a0),(4,[.b false])],H⟩:St) k else none)=H:=by
   funext k
   split
   ·rename_i hk'
    simp only [St.box,if_neg (Nat.ne_of_lt hk')]
   ·rename_i hk';exact (hzH k hk').symm
  simp [St.box,aq] at hcl hlw
  have hD:run G Ω0 ⟨dp,false⟩ (.dg [] [] [⟨gp 9 (.ld none (.t 2)),true,[2],[2],true,[],[],[]⟩,⟨gp 10 (.ld none (.t 2)),true,[2],[2],true,[],[],[]⟩,⟨gp 11 (.nc (.t 10)),true,[10],[],false,[],[],[]⟩,⟨gp 12 (.fa 0 (.t 11)),true,[11],[],false,[],[],[]⟩,⟨gp 13 (.fa 5 (.t 12)),true,[12],[],false,[],[],[]⟩,⟨gp 14 (.ld none (.t 13)),true,[13],[],true,[],[],[]⟩,⟨gp 15 (.fa 1 (.t 3)),true,[3],[],false,[],[],[]⟩,⟨gp 16 (.ld none (.t 15)),true,[15],[3],false,[],[],[]⟩,⟨gp 17 (.ia 3 none (.t 14) (.t 16)),true,[14,16],[],false,[],[],[]⟩,⟨gp 18 (.fa 1 (.t 17)),true,[17],[],false,[],[],[]⟩,⟨gp 19 (.fa 1 (.t 18)),true,[18],[],false,[],[],[]⟩,⟨gp 20 (.ld none (.t 19)),true,[19],[],false,[],[],[]⟩,⟨gp 21 (.c2 171 [(.t 9),(.t 20)]),false,[],[],false,[],[],[]⟩,⟨gp 22 (.no (.t 21)),false,[],[],false,[],[],[]⟩,⟨⟨none,.st 1 (.t 4) (.t 22),none,false⟩,false,[],[],false,[],[],[]⟩] [4] [4]) ⟨[(2,.p ⟨dp,2⟩ 0),(3,.p ⟨dp,3⟩ 0),(4,.p ⟨dp,4⟩ 0),(8,.b true)],[(2,[.p k0 0]),(3,aw a0),(4,[.b false])],H⟩=some (.nrm,⟨[(4,.p ⟨dp,4⟩ 0)],[(4,[.b (!b)])],H⟩):=by
   simp [gp,execOp,pick,h0,e1,e3,hj,hv,aW,okB,k7,cY,iS,tE,jr,jc,bj,AV.cj,hcl,St.back,bC,hlw]
  simp only [k9,hA,hB,run_ite,h8,hD,Option.bind_some,nu,if_true,db]
  simp [St.end_,pick,zt,St.ir]
 ·rw [if_neg h6] at h
  have h86:(a0.Kind==6)=false:=by simp [h6]
  rw [h86] at hB h8 hK
  have hr:=Gj (e:=a0.Expr) hk_k0 hzH c0 h0 _ r h
  have hru:run G Ω0 ⟨dp,false⟩ (.ru (.t 25) 26 vV sW) (bn dp 25 k0 H a0.Expr false)=some (if r=true then (.ret,bn dp 25 k0 H a0.Expr true) else (.nrm,bn dp 25 k0 H a0.Expr false)):=by
   rw [HK,if_neg (by simp)]
   show (rM Ω0 (.f 146 [.e (az a0.Expr) 0])).bind _=_
   rw [HL,Option.bind_some]
   exact hr
  cases r with
  | true=>
   rw [if_pos rfl] at hru
   simp only [k9,hA,hB,run_ite,h8,iD,hK,hC,l8,hru,Option.bind_some,nu,inBlock,if_false,Bool.false_eq_true,bU,db]
   simp [St.end_,pick,zt,St.ir,bn]
  | false=>
   rw [if_neg (by simp)] at hru
   simp only [k9,hA,hB,run_ite,h8,iD,hK,hC,l8,hru,hZ,Option.bind_some,nu,inBlock,if_false,Bool.false_eq_true,bU,db]
   simp [St.end_,pick,zt,St.ir,bn]
end Go.Proofs.YtkkkkondjclcnaaGreat.A
