/- judge.Speaker's Silent and Hidden as plain functions: ranges over the variables of an expression. -/
import Derived.Test.YtdpjofmmokaobaaGreatLevelF
set_option maxRecDepth 100000
set_option linter.unusedSectionVars false
set_option linter.unusedVariables false
set_option linter.unusedSimpArgs false
set_option linter.constructorNameAsVariable false
namespace Go.Proofs.YtdpjofmmokaobaaGreat.A
open Go
variable [Lp]
theorem M9{dp:Nat}{hp:HP}(h:aN (dp+1) hp):(fun k:Key=>if k.dp=dp+1 then none else hp k)=hp:=by
 funext k
 split
 ·rename_i e;exact (h k (by omega)).symm
 ·rfl
theorem Ta{dp:Nat}{hp:HP}(h:aN dp hp):(fun k:Key=>if k.dp<dp then hp k else none)=hp:=by
 funext k
 split
 ·rfl
 ·rename_i e;exact (h k e).symm
def Af(c0:aw)(n:Int):Option Var:=(cX n).bind fun j=>c0.p.Vars[j]?
def rA(c0:aw):List Int→Option Bool
 | []=>some false
 | n::ns=>(Af c0 n).bind fun v=>if v.Known=true then rA c0 ns else some true
def e5(c0:aw)(a0:Stmt):Option Bool:=
 if a0.Kind=6 then (Af c0 a0.Var).bind fun v=>some (!v.Known) else rA c0 (pQ a0.Expr)
def uC:AC:=(.rg [] [gp 5 (.as (.t 23))] [2,4,5] [0,2,4])
def rB:AC:=(.bl 1 (.sq (.rg [] [gp 24 (.ld none (.t 2)),gp 25 (.nc (.t 24)),gp 26 (.fa 0 (.t 25)),gp 27 (.fa 5 (.t 26)),gp 28 (.ld none (.t 27)),gp 29 (.mv (.t 5)),gp 30 (.ia 3 none (.t 28) (.t 29)),gp 31 (.fa 0 (.t 30)),gp 32 (.ld none (.t 31)),gp 33 (.no (.t 32))] [2,4,33] [0,2,4]) (.ite (.t 33) (.sq (.rg [] [⟨none,.st 1 (.t 4) (.c (.b true)),none,false⟩] [4] [4]) .rt) .sk)))
set_option maxHeartbeats 2000000 in
theorem GF(dp:Nat)(hp:HP)(k0:Key)(hk:k0.dp<dp)(c0:aw)(z:Bool)(j:Nat)(v:Var)(h2:hp ⟨dp,2⟩=some [.p k0 0])(h0:hp k0=some (ar c0))(h4:hp ⟨dp,4⟩=some [.b z])(hv:c0.p.Vars[j]? =some v) :
  run G Ω0 ⟨dp+1,false⟩ rB ⟨[(2,.p ⟨dp,2⟩ 0),(4,.p ⟨dp,4⟩ 0),(5,.i .i64 j)],[],hp⟩=
   some (if v.Known=true then (.nrm,⟨[(2,.p ⟨dp,2⟩ 0),(4,.p ⟨dp,4⟩ 0),(33,.b false)],[],hp⟩) else (.ret,⟨[(4,.p ⟨dp,4⟩ 0)],[],ad hp ⟨dp,4⟩ [.b true]⟩)):=by
 have e1:¬k0.dp=dp+1:=by omega
 cases hb:v.Known<;>simp [rB,gp,execOp,h2,h0,h4,hv,hb,e1,bz,pick]
def bM(dp u:Nat)(k0:Key)(H:HP)(e:aE)(b:Bool):St:=⟨[(2,.p ⟨dp,2⟩ 0),(4,.p ⟨dp,4⟩ 0),(u,.f 172 [.e (aT e) 0])],[(2,[.p k0 0]),(4,[.b b])],H⟩
theorem HN{dp u:Nat}{k0:Key}{H:HP}{e:aE}{b:Bool}(h:aN dp H):(bM dp u k0 H e b).back dp (fun k=>(bM dp u k0 H e b).box dp k)=bM dp u k0 H e b:=by
 have h1:(fun k:Key=>if k.dp<dp then (bM dp u k0 H e b).box dp k else none)=H:=by
  funext k
  split
  ·rename_i hk
   simp only [St.box,if_neg (Nat.ne_of_lt hk)];rfl
  ·rename_i hk;exact (h k hk).symm
 unfold St.back
 rw [h1]
 simp [bM,nv,iR]
theorem GG{dp u:Nat}{k0:Key}{H:HP}{e:aE}{b:Bool}(h:aN dp H):(bM dp u k0 H e b).back dp (ad (fun k=>(bM dp u k0 H e b).box dp k) ⟨dp,4⟩ [.b true])=bM dp u k0 H e true:=by
 have h1:(fun k:Key=>if k.dp<dp then ad (fun k=>(bM dp u k0 H e b).box dp k) ⟨dp,4⟩ [.b true] k else none)=H:=by
  funext k
  split
  ·rename_i hk
   rw [B6 (aj hk)]
   simp only [St.box,if_neg (Nat.ne_of_lt hk)];rfl
  ·rename_i hk;exact (h k hk).symm
 unfold St.back
 rw [h1]
 simp [bM,nv,iR,ad]
theorem uD{dp u x:Nat}{k0:Key}{H:HP}{e:aE}(hk:k0.dp<dp)(hz:aN dp H)(y b:AC)(go:List Int→Option Bool)(g0:go []=some false)
  (hy:∀ n:Int,∃ q,run G Ω0 ⟨dp+1,false⟩ y ((bM dp u k0 H e false).inner dp x n)=some (.nrm,q)∧∀ ns o,go (n::ns)=some o→
   (∃ fr,go ns=some o∧run G Ω0 ⟨dp+1,false⟩ b q=some (.nrm,⟨fr,[],fun k=>(bM dp u k0 H e false).box dp k⟩))∨
   (o=true∧∃ fr,run G Ω0 ⟨dp+1,false⟩ b q=some (.ret,⟨fr,[],ad (fun k=>(bM dp u k0 H e false).box dp k) ⟨dp,4⟩ [.b true]⟩))) :
  ∀ (ns:List Int)(o:Bool),go ns=some o→rounds dp (run G Ω0 ⟨dp+1,false⟩) x y b ns (bM dp u k0 H e false)=some (if o=true then (.ret,bM dp u k0 H e true) else (.nrm,bM dp u k0 H e false))
 | [],o,h=>by
  rw [g0] at h
  obtain rfl:=Option.some.inj h
  rfl
 | n::ns,o,h=>by
  obtain ⟨q,h1,h2⟩:=hy n
  unfold rounds
  rw [if_pos (by simp [bM,Nat.le_of_lt hk]),h1]
  simp only [Option.bind_some]
  rcases h2 ns o h with ⟨fr,h3,h4⟩ | ⟨rfl,fr,h4⟩
  ·rw [h4]
   simp only [Option.bind_some]
   rw [HN hz]
   exact uD hk hz y b go g0 hy ns o h3
  ·rw [h4]
   simp only [Option.bind_some]
   rw [GG hz]
   rfl
theorem Fi{dp:Nat}{k0:Key}{H:HP}{e:aE}(hk:k0.dp<dp)(hz:aN dp H)(c0:aw)(h0:H k0=some (ar c0))(ns:List Int)(o:Bool)(h:rA c0 ns=some o) :
  rounds dp (run G Ω0 ⟨dp+1,false⟩) 23 uC rB ns (bM dp 22 k0 H e false)=some (if o=true then (.ret,bM dp 22 k0 H e true) else (.nrm,bM dp 22 k0 H e false)):=by
 refine uD hk hz uC rB (rA c0) rfl (fun n=>⟨⟨[(2,.p ⟨dp,2⟩ 0),(4,.p ⟨dp,4⟩ 0),(5,.i .i64 n)],[],fun k=>(bM dp 22 k0 H e false).box dp k⟩,by unfold uC;rw [wB];rfl,fun ns o h=>?_⟩) ns o h
 obtain ⟨v,hv0,h2⟩:=Option.bind_eq_some_iff.1 h
 obtain ⟨j,hj,hv⟩:=Option.bind_eq_some_iff.1 hv0
 obtain rfl:=tI hj
 have hr:=GF dp (fun k=>(bM dp 22 k0 H e false).box dp k) k0 hk c0 false j v (by simp [bM]) (by simp only [St.box,if_neg (Nat.ne_of_lt hk)];exact h0) (by simp [bM]) hv
 cases hb:v.Known with
 | true=>rw [hb] at h2 hr;exact .inl ⟨_,h2,hr⟩
 | false=>rw [hb] at h2 hr;exact .inr ⟨(Option.some.inj h2).symm,_,hr⟩
abbrev wg(dp:Nat)(hp:HP)(k0:Key)(c0:aw)(a0:Stmt)(r:Bool):Prop:=call G Ω0 ⟨dp,false⟩ 167 [(.p k0 0),.a (af a0)] (ad hp k0 (ar c0))=some (.ret (.b r),ad hp k0 (ar c0))
set_option maxHeartbeats 4000000 in
theorem tn(dp:Nat)(hp:HP)(k0:Key)(hk_k0:k0.dp<dp)(hz:aN dp hp)(c0:aw)(a0:Stmt)(r:Bool)(h:e5 c0 a0=some r):wg dp hp k0 c0 a0 r:=by
 have h0:ad hp k0 (ar c0) k0=some (ar c0):=by simp [ad]
 have hzH:aN dp (ad hp k0 (ar c0)):=ab hk_k0 hz
 show call G Ω0 ⟨dp,false⟩ _ _ (ad hp k0 (ar c0))=some (_,ad hp k0 (ar c0))
 generalize ad hp k0 (ar c0)=H at h0 hzH
 have hU:=zy a0.Expr
 have hX:=eS a0.Expr
 rw [hX] at hU
 have e1:¬k0.dp=dp:=by omega
 have e2:∀ d,¬k0=⟨dp,d⟩:=fun d=>aj hk_k0
 have e3:k0.dp≤dp:=by omega
 have hA:run G Ω0 ⟨dp,false⟩ (.rg [] [gp 2 (.bx (.t 0)),gp 3 (.bx (.t 1)),gp 4 (.al [(.b false)])] [2,3,4] [0,2,3,4]) ⟨kg 0 [(.p k0 0),.a (af a0)],[],H⟩=
   some (.nrm,⟨[(2,.p ⟨dp,2⟩ 0),(3,.p ⟨dp,3⟩ 0),(4,.p ⟨dp,4⟩ 0)],[(2,[.p k0 0]),(3,af a0),(4,[.b false])],H⟩):=by
  simp [gp,execOp,e1,e2,e3,lg]
 have hB:run G Ω0 ⟨dp,false⟩ (.rg [] [gp 6 (.fa 0 (.t 3)),gp 7 (.ld none (.t 6)),gp 8 (.bo .eql false (.t 7) (.c (.i .i64 6)))] [2,3,4,8] [0,2,3,4]) ⟨[(2,.p ⟨dp,2⟩ 0),(3,.p ⟨dp,3⟩ 0),(4,.p ⟨dp,4⟩ 0)],[(2,[.p k0 0]),(3,af a0),(4,[.b false])],H⟩=
   some (.nrm,⟨[(2,.p ⟨dp,2⟩ 0),(3,.p ⟨dp,3⟩ 0),(4,.p ⟨dp,4⟩ 0),(8,.b (a0.Kind==6))],[(2,[.p k0 0]),(3,af a0),(4,[.b false])],H⟩):=by
  simp [gp,execOp,pick]
 have hC:run G Ω0 ⟨dp,false⟩ (.rg [] [gp 20 (.fa 3 (.t 3)),gp 21 (.ld (some 3) (.t 20)),gp 22 (.ca 0 170 [(.t 21)])] [2,4,22] [0,2,4]) ⟨[(2,.p ⟨dp,2⟩ 0),(3,.p ⟨dp,3⟩ 0),(4,.p ⟨dp,4⟩ 0)],[(2,[.p k0 0]),(3,af a0),(4,[.b false])],H⟩=some (.nrm,bM dp 22 k0 H a0.Expr false):=by
  simp [gp,execOp,hU,pick,bM,hX]
 have hZ:run G Ω0 ⟨dp,false⟩ (.rg [] [⟨none,.st 1 (.t 4) (.c (.b false)),none,false⟩] [4] [4]) (bM dp 22 k0 H a0.Expr false)=some (.nrm,⟨[(4,.p ⟨dp,4⟩ 0)],[(4,[.b false])],H⟩):=by
  simp [gp,execOp,bM]
 have hK:(⟨[(2,.p ⟨dp,2⟩ 0),(3,.p ⟨dp,3⟩ 0),(4,.p ⟨dp,4⟩ 0),(8,.b (a0.Kind==6))],[(2,[.p k0 0]),(3,af a0),(4,[.b false])],H⟩:St).bw [2,3,4] [0,2,3,4]=⟨[(2,.p ⟨dp,2⟩ 0),(3,.p ⟨dp,3⟩ 0),(4,.p ⟨dp,4⟩ 0)],[(2,[.p k0 0]),(3,af a0),(4,[.b false])],H⟩:=rfl
 have h8:qa ((⟨[(2,.p ⟨dp,2⟩ 0),(3,.p ⟨dp,3⟩ 0),(4,.p ⟨dp,4⟩ 0),(8,.b (a0.Kind==6))],[(2,[.p k0 0]),(3,af a0),(4,[.b false])],H⟩:St).ev (.t 8))=some (a0.Kind==6):=rfl
 have hc:I8=⟨(.sq (.rg [] [gp 2 (.bx (.t 0)),gp 3 (.bx (.t 1)),gp 4 (.al [(.b false)])] [2,3,4] [0,2,3,4]) (.sq (.sq (.rg [] [gp 6 (.fa 0 (.t 3)),gp 7 (.ld none (.t 6)),gp 8 (.bo .eql false (.t 7) (.c (.i .i64 6)))] [2,3,4,8] [0,2,3,4]) (.ite (.t 8) (.sq (.dg [] [] [⟨gp 9 (.ld none (.t 2)),true,[2],[2],true,[],[],[]⟩,⟨gp 10 (.nc (.t 9)),true,[9],[],false,[],[],[]⟩,⟨gp 11 (.fa 0 (.t 10)),true,[10],[],false,[],[],[]⟩,⟨gp 12 (.fa 5 (.t 11)),true,[11],[],false,[],[],[]⟩,⟨gp 13 (.ld none (.t 12)),true,[12],[],true,[],[],[]⟩,⟨gp 14 (.fa 1 (.t 3)),true,[3],[],false,[],[],[]⟩,⟨gp 15 (.ld none (.t 14)),true,[14],[3],false,[],[],[]⟩,⟨gp 16 (.ia 3 none (.t 13) (.t 15)),false,[],[],false,[],[],[]⟩,⟨gp 17 (.fa 0 (.t 16)),false,[],[],false,[],[],[]⟩,⟨gp 18 (.ld none (.t 17)),false,[],[],false,[],[],[]⟩,⟨gp 19 (.no (.t 18)),false,[],[],false,[],[],[]⟩,⟨⟨none,.st 1 (.t 4) (.t 19),none,false⟩,false,[],[],false,[],[],[]⟩] [4] [4]) .rt) .sk)) (.kp [2,3,4] [0,2,3,4] (.sq (.sq (.rg [] [gp 20 (.fa 3 (.t 3)),gp 21 (.ld (some 3) (.t 20)),gp 22 (.ca 0 170 [(.t 21)])] [2,4,22] [0,2,4]) (.bl 0 (.ru (.t 22) 23 uC rB))) (.sq (.rg [] [⟨none,.st 1 (.t 4) (.c (.b false)),none,false⟩] [4] [4]) .rt))))),[.c 4 none]⟩:=rfl
 rw [rf,Z3,Option.bind_some,hc]
 unfold e5 at h
 by_cases h6:a0.Kind=6
 ·rw [if_pos h6] at h
  obtain ⟨v,hv0,h2⟩:=Option.bind_eq_some_iff.1 h
  obtain ⟨j,hj,hv⟩:=Option.bind_eq_some_iff.1 hv0
  have hj:=tI hj
  obtain rfl:=Option.some.inj h2
  have hD:run G Ω0 ⟨dp,false⟩ (.dg [] [] [⟨gp 9 (.ld none (.t 2)),true,[2],[2],true,[],[],[]⟩,⟨gp 10 (.nc (.t 9)),true,[9],[],false,[],[],[]⟩,⟨gp 11 (.fa 0 (.t 10)),true,[10],[],false,[],[],[]⟩,⟨gp 12 (.fa 5 (.t 11)),true,[11],[],false,[],[],[]⟩,⟨gp 13 (.ld none (.t 12)),true,[12],[],true,[],[],[]⟩,⟨gp 14 (.fa 1 (.t 3)),true,[3],[],false,[],[],[]⟩,⟨gp 15 (.ld none (.t 14)),true,[14],[3],false,[],[],[]⟩,⟨gp 16 (.ia 3 none (.t 13) (.t 15)),false,[],[],false,[],[],[]⟩,⟨gp 17 (.fa 0 (.t 16)),false,[],[],false,[],[],[]⟩,⟨gp 18 (.ld none (.t 17)),false,[],[],false,[],[],[]⟩,⟨gp 19 (.no (.t 18)),false,[],[],false,[],[],[]⟩,⟨⟨none,.st 1 (.t 4) (.t 19),none,false⟩,false,[],[],false,[],[],[]⟩] [4] [4]) ⟨[(2,.p ⟨dp,2⟩ 0),(3,.p ⟨dp,3⟩ 0),(4,.p ⟨dp,4⟩ 0),(8,.b (a0.Kind==6))],[(2,[.p k0 0]),(3,af a0),(4,[.b false])],H⟩=some (.nrm,⟨[(4,.p ⟨dp,4⟩ 0)],[(4,[.b (!v.Known)])],H⟩):=by
   simp [gp,execOp,pick,h0,e1,hj,hv,bz,okB,a6,gn,rJ,Ey,nv,cu]
  have h86:(a0.Kind==6)=true:=by simp [h6]
  rw [h86] at hB h8 hD
  simp only [nx,hA,hB,run_ite,h8,hD,Option.bind_some,mJ,if_true,qz]
  simp [St.end_,pick,yv,St.pJ]
 ·rw [if_neg h6] at h
  have h86:(a0.Kind==6)=false:=by simp [h6]
  rw [h86] at hB h8 hK
  have hr:=Fi (e:=a0.Expr) hk_k0 hzH c0 h0 _ r h
  have hru:run G Ω0 ⟨dp,false⟩ (.ru (.t 22) 23 uC rB) (bM dp 22 k0 H a0.Expr false)=some (if r=true then (.ret,bM dp 22 k0 H a0.Expr true) else (.nrm,bM dp 22 k0 H a0.Expr false)):=by
   rw [GC,if_neg (by simp)]
   show (qy Ω0 (.f 172 [.e (aT a0.Expr) 0])).bind _=_
   rw [GD,Option.bind_some]
   exact hr
  cases r with
  | true=>
   rw [if_pos rfl] at hru
   simp only [nx,hA,hB,run_ite,h8,pv,hK,hC,pr,hru,Option.bind_some,mJ,inBlock,if_false,Bool.false_eq_true,wA,qz]
   simp [St.end_,pick,yv,St.pJ,bM]
  | false=>
   rw [if_neg (by simp)] at hru
   simp only [nx,hA,hB,run_ite,h8,pv,hK,hC,pr,hru,hZ,Option.bind_some,mJ,inBlock,if_false,Bool.false_eq_true,wA,qz]
   simp [St.end_,pick,yv,St.pJ,bM]
theorem Na{hp:HP}{k:Key}{c:List AV}(h:hp k=some c):ad hp k c=hp:=by
 funext q
 simp only [ad]
 split
 ·rename_i e;rw [e,h]
 ·rfl
theorem GH{dp:Nat}{hp:HP}{k0:Key}(hk:k0.dp<dp)(hz:aN dp hp)(c0:aw)(h0:hp k0=some (ar c0))(l:List bC)(b:Bool)(h:dS c0 l=some b) :
  call G Ω0 ⟨dp,false⟩ 171 [(.p k0 0),(.l 134 (l.map a7))] hp=some (.ret (.b b),hp):=by
 have:=v7 dp hp k0 hk hz c0 l b h
 unfold q6 qZ at this
 rwa [Na h0] at this
noncomputable def rC(c0:aw):List Int→Option Bool
 | []=>some false
 | n::ns=>(Af c0 n).bind fun v=>(dS c0 v.Label.Read).bind fun b=>if b=true then rC c0 ns else some true
noncomputable def e6(c0:aw)(a0:Stmt):Option Bool:=
 if a0.Kind=6 then (Af c0 a0.Var).bind fun v=>(dS c0 v.Label.Write).bind fun b=>some (!b) else rC c0 (pQ a0.Expr)
def uE:AC:=(.rg [] [gp 5 (.as (.t 26))] [2,4,5] [0,2,4])
def rD:AC:=(.bl 1 (.sq (.dg [] [] [⟨gp 27 (.ld none (.t 2)),true,[2],[],true,[],[],[]⟩,⟨gp 28 (.ld none (.t 2)),true,[2],[],true,[],[],[]⟩,⟨gp 29 (.nc (.t 28)),true,[28],[],false,[],[],[]⟩,⟨gp 30 (.fa 0 (.t 29)),true,[29],[],false,[],[],[]⟩,⟨gp 31 (.fa 5 (.t 30)),true,[30],[],false,[],[],[]⟩,⟨gp 32 (.ld none (.t 31)),true,[31],[],true,[],[],[]⟩,⟨gp 33 (.mv (.t 5)),true,[5],[],false,[],[],[]⟩,⟨gp 34 (.ia 3 none (.t 32) (.t 33)),true,[32,33],[],false,[],[],[]⟩,⟨gp 35 (.fa 1 (.t 34)),true,[34],[],false,[],[],[]⟩,⟨gp 36 (.fa 0 (.t 35)),true,[35],[],false,[],[],[]⟩,⟨gp 37 (.ld none (.t 36)),true,[36],[],false,[],[],[]⟩,⟨gp 38 (.c2 171 [(.t 27),(.t 37)]),false,[],[],false,[],[],[]⟩,⟨gp 39 (.no (.t 38)),false,[],[],false,[],[],[]⟩] [2,4,39] [0,2,4]) (.ite (.t 39) (.sq (.rg [] [⟨none,.st 1 (.t 4) (.c (.b true)),none,false⟩] [4] [4]) .rt) .sk)))
set_option maxHeartbeats 4000000 in
theorem GI(dp:Nat)(hp:HP)(hlow:aN (dp+1) hp)(k0:Key)(hk:k0.dp<dp)(c0:aw)(z:Bool)(j:Nat)(v:Var)(b:Bool)(h2:hp ⟨dp,2⟩=some [.p k0 0])(h0:hp k0=some (ar c0))(h4:hp ⟨dp,4⟩=some [.b z])(hv:c0.p.Vars[j]? =some v)
  (hb:dS c0 v.Label.Read=some b) :
  run G Ω0 ⟨dp+1,false⟩ rD ⟨[(2,.p ⟨dp,2⟩ 0),(4,.p ⟨dp,4⟩ 0),(5,.i .i64 j)],[],hp⟩=
   some (if b=true then (.nrm,⟨[(2,.p ⟨dp,2⟩ 0),(4,.p ⟨dp,4⟩ 0),(39,.b false)],[],hp⟩) else (.ret,⟨[(4,.p ⟨dp,4⟩ 0)],[],ad hp ⟨dp,4⟩ [.b true]⟩)):=by
 have e1:¬k0.dp=dp+1:=by omega
 have hlow2:aN (dp+1+1) hp:=fun k hk'=>hlow k (by omega)
 have hc:=GH (dp:=dp+1+1) (by omega) hlow2 c0 h0 v.Label.Read b hb
 have f1:=M9 hlow
 have f2:=Ta hlow
 cases b<;>simp [rD,gp,execOp,h2,h0,h4,hv,e1,bz,pick,jv,AV.Fu,hc,f1,f2,St.back,iR,nv,okB,a6,gn,rJ,Ey,cu]
theorem Fj{dp:Nat}{k0:Key}{H:HP}{e:aE}(hk:k0.dp<dp)(hz:aN dp H)(c0:aw)(h0:H k0=some (ar c0))(ns:List Int)(o:Bool)(h:rC c0 ns=some o) :
  rounds dp (run G Ω0 ⟨dp+1,false⟩) 26 uE rD ns (bM dp 25 k0 H e false)=some (if o=true then (.ret,bM dp 25 k0 H e true) else (.nrm,bM dp 25 k0 H e false)):=by
 have hlow:aN (dp+1) (fun k=>(bM dp 25 k0 H e false).box dp k):=fun k hk'=>by
  simp only [St.box,if_neg (show ¬k.dp=dp by omega)]
  exact hz k (by omega)
 refine uD hk hz uE rD (rC c0) rfl (fun n=>⟨⟨[(2,.p ⟨dp,2⟩ 0),(4,.p ⟨dp,4⟩ 0),(5,.i .i64 n)],[],fun k=>(bM dp 25 k0 H e false).box dp k⟩,by unfold uE;rw [wB];rfl,fun ns o h=>?_⟩) ns o h
 obtain ⟨v,hv0,h2⟩:=Option.bind_eq_some_iff.1 h
 obtain ⟨b,hb,h3⟩:=Option.bind_eq_some_iff.1 h2
 obtain ⟨j,hj,hv⟩:=Option.bind_eq_some_iff.1 hv0
 obtain rfl:=tI hj
 have hr:=GI dp (fun k=>(bM dp 25 k0 H e false).box dp k) hlow k0 hk c0 false j v b (by simp [bM]) (by simp only [St.box,if_neg (Nat.ne_of_lt hk)];exact h0) (by simp [bM]) hv hb
 cases b with
 | true=>exact .inl ⟨_,h3,hr⟩
 | false=>exact .inr ⟨(Option.some.inj h3).symm,_,hr⟩
abbrev wh(dp:Nat)(hp:HP)(k0:Key)(c0:aw)(a0:Stmt)(r:Bool):Prop:=call G Ω0 ⟨dp,false⟩ 166 [(.p k0 0),.a (af a0)] (ad hp k0 (ar c0))=some (.ret (.b r),ad hp k0 (ar c0))
set_option maxHeartbeats 4000000 in
theorem tq(dp:Nat)(hp:HP)(k0:Key)(hk_k0:k0.dp<dp)(hz:aN dp hp)(c0:aw)(a0:Stmt)(r:Bool)(h:e6 c0 a0=some r):wh dp hp k0 c0 a0 r:=by
 have h0:ad hp k0 (ar c0) k0=some (ar c0):=by simp [ad]
 have hzH:aN dp (ad hp k0 (ar c0)):=ab hk_k0 hz
 show call G Ω0 ⟨dp,false⟩ _ _ (ad hp k0 (ar c0))=some (_,ad hp k0 (ar c0))
 generalize ad hp k0 (ar c0)=H at h0 hzH
 have hU:=zy a0.Expr
 have hX:=eS a0.Expr
 rw [hX] at hU
 have e1:¬k0.dp=dp:=by omega
 have e2:∀ d,¬k0=⟨dp,d⟩:=fun d=>aj hk_k0
 have e3:k0.dp≤dp:=by omega
 have hA:run G Ω0 ⟨dp,false⟩ (.rg [] [gp 2 (.bx (.t 0)),gp 3 (.bx (.t 1)),gp 4 (.al [(.b false)])] [2,3,4] [0,2,3,4]) ⟨kg 0 [(.p k0 0),.a (af a0)],[],H⟩=some (.nrm,⟨[(2,.p ⟨dp,2⟩ 0),(3,.p ⟨dp,3⟩ 0),(4,.p ⟨dp,4⟩ 0)],[(2,[.p k0 0]),(3,af a0),(4,[.b false])],H⟩):=by
  simp [gp,execOp,e1,e2,e3,lg]
 have hB:run G Ω0 ⟨dp,false⟩ (.rg [] [gp 6 (.fa 0 (.t 3)),gp 7 (.ld none (.t 6)),gp 8 (.bo .eql false (.t 7) (.c (.i .i64 6)))] [2,3,4,8] [0,2,3,4]) ⟨[(2,.p ⟨dp,2⟩ 0),(3,.p ⟨dp,3⟩ 0),(4,.p ⟨dp,4⟩ 0)],[(2,[.p k0 0]),(3,af a0),(4,[.b false])],H⟩=some (.nrm,⟨[(2,.p ⟨dp,2⟩ 0),(3,.p ⟨dp,3⟩ 0),(4,.p ⟨dp,4⟩ 0),(8,.b (a0.Kind==6))],[(2,[.p k0 0]),(3,af a0),(4,[.b false])],H⟩):=by
  simp [gp,execOp,pick]
 have hC:run G Ω0 ⟨dp,false⟩ (.rg [] [gp 23 (.fa 3 (.t 3)),gp 24 (.ld (some 3) (.t 23)),gp 25 (.ca 0 170 [(.t 24)])] [2,4,25] [0,2,4]) ⟨[(2,.p ⟨dp,2⟩ 0),(3,.p ⟨dp,3⟩ 0),(4,.p ⟨dp,4⟩ 0)],[(2,[.p k0 0]),(3,af a0),(4,[.b false])],H⟩=some (.nrm,bM dp 25 k0 H a0.Expr false):=by
  simp [gp,execOp,hU,pick,bM,hX]
 have hZ:run G Ω0 ⟨dp,false⟩ (.rg [] [⟨none,.st 1 (.t 4) (.c (.b false)),none,false⟩] [4] [4]) (bM dp 25 k0 H a0.Expr false)=some (.nrm,⟨[(4,.p ⟨dp,4⟩ 0)],[(4,[.b false])],H⟩):=by
  simp [gp,execOp,bM]
 have hK:(⟨[(2,.p ⟨dp,2⟩ 0),(3,.p ⟨dp,3⟩ 0),(4,.p ⟨dp,4⟩ 0),(8,.b (a0.Kind==6))],[(2,[.p k0 0]),(3,af a0),(4,[.b false])],H⟩:St).bw [2,3,4] [0,2,3,4]=⟨[(2,.p ⟨dp,2⟩ 0),(3,.p ⟨dp,3⟩ 0),(4,.p ⟨dp,4⟩ 0)],[(2,[.p k0 0]),(3,af a0),(4,[.b false])],H⟩:=rfl
 have h8:qa ((⟨[(2,.p ⟨dp,2⟩ 0),(3,.p ⟨dp,3⟩ 0),(4,.p ⟨dp,4⟩ 0),(8,.b (a0.Kind==6))],[(2,[.p k0 0]),(3,af a0),(4,[.b false])],H⟩:St).ev (.t 8))=some (a0.Kind==6):=rfl
 have hc:I7=⟨(.sq (.rg [] [gp 2 (.bx (.t 0)),gp 3 (.bx (.t 1)),gp 4 (.al [(.b false)])] [2,3,4] [0,2,3,4]) (.sq (.sq (.rg [] [gp 6 (.fa 0 (.t 3)),gp 7 (.ld none (.t 6)),gp 8 (.bo .eql false (.t 7) (.c (.i .i64 6)))] [2,3,4,8] [0,2,3,4]) (.ite (.t 8) (.sq (.dg [] [] [⟨gp 9 (.ld none (.t 2)),true,[2],[2],true,[],[],[]⟩,⟨gp 10 (.ld none (.t 2)),true,[2],[2],true,[],[],[]⟩,⟨gp 11 (.nc (.t 10)),true,[10],[],false,[],[],[]⟩,⟨gp 12 (.fa 0 (.t 11)),true,[11],[],false,[],[],[]⟩,⟨gp 13 (.fa 5 (.t 12)),true,[12],[],false,[],[],[]⟩,⟨gp 14 (.ld none (.t 13)),true,[13],[],true,[],[],[]⟩,⟨gp 15 (.fa 1 (.t 3)),true,[3],[],false,[],[],[]⟩,⟨gp 16 (.ld none (.t 15)),true,[15],[3],false,[],[],[]⟩,⟨gp 17 (.ia 3 none (.t 14) (.t 16)),true,[14,16],[],false,[],[],[]⟩,⟨gp 18 (.fa 1 (.t 17)),true,[17],[],false,[],[],[]⟩,⟨gp 19 (.fa 1 (.t 18)),true,[18],[],false,[],[],[]⟩,⟨gp 20 (.ld none (.t 19)),true,[19],[],false,[],[],[]⟩,⟨gp 21 (.c2 171 [(.t 9),(.t 20)]),false,[],[],false,[],[],[]⟩,⟨gp 22 (.no (.t 21)),false,[],[],false,[],[],[]⟩,⟨⟨none,.st 1 (.t 4) (.t 22),none,false⟩,false,[],[],false,[],[],[]⟩] [4] [4]) .rt) .sk)) (.kp [2,3,4] [0,2,3,4] (.sq (.sq (.rg [] [gp 23 (.fa 3 (.t 3)),gp 24 (.ld (some 3) (.t 23)),gp 25 (.ca 0 170 [(.t 24)])] [2,4,25] [0,2,4]) (.bl 0 (.ru (.t 25) 26 uE rD))) (.sq (.rg [] [⟨none,.st 1 (.t 4) (.c (.b false)),none,false⟩] [4] [4]) .rt))))),[.c 4 none]⟩:=rfl
 rw [rf,Z2,Option.bind_some,hc]
 unfold e6 at h
 by_cases h6:a0.Kind=6
 ·rw [if_pos h6] at h
  obtain ⟨v,hv0,h2⟩:=Option.bind_eq_some_iff.1 h
  obtain ⟨b,hb,h3⟩:=Option.bind_eq_some_iff.1 h2
  obtain ⟨j,hj,hv⟩:=Option.bind_eq_some_iff.1 hv0
  have hj:=tI hj
  obtain rfl:=Option.some.inj h3
  have h86:(a0.Kind==6)=true:=by simp [h6]
  rw [h86] at hB h8
  have hl:aN (dp+1) (fun k=>St.box dp (⟨[(2,.p ⟨dp,2⟩ 0),(3,.p ⟨dp,3⟩ 0),(4,.p ⟨dp,4⟩ 0),(8,.b true)],[(2,[.p k0 0]),(3,af a0),(4,[.b false])],H⟩:St) k):=fun k hk'=>by
   simp only [St.box,if_neg (show ¬k.dp=dp by omega)]
   exact hzH k (by omega)
  have hcl:=GH (k0:=k0) (dp:=dp+1) (by omega) hl c0 (by simp only [St.box,if_neg e1];exact h0) v.Label.Write b hb
  have hlw:(fun k:Key=>if k.dp<dp then St.box dp (⟨[(2,.p ⟨dp,2⟩ 0),(3,.p ⟨dp,3⟩ 0),(4,.p ⟨dp,4⟩ 0),(8,.b true)],[(2,[.p k0 0]),(3,af a0),(4,[.b false])],H⟩:St) k else none)=H:=by
   funext k
   split
   ·rename_i hk'
    simp only [St.box,if_neg (Nat.ne_of_lt hk')]
   ·rename_i hk';exact (hzH k hk').symm
  simp [St.box,aC] at hcl hlw
  have hD:run G Ω0 ⟨dp,false⟩ (.dg [] [] [⟨gp 9 (.ld none (.t 2)),true,[2],[2],true,[],[],[]⟩,⟨gp 10 (.ld none (.t 2)),true,[2],[2],true,[],[],[]⟩,⟨gp 11 (.nc (.t 10)),true,[10],[],false,[],[],[]⟩,⟨gp 12 (.fa 0 (.t 11)),true,[11],[],false,[],[],[]⟩,⟨gp 13 (.fa 5 (.t 12)),true,[12],[],false,[],[],[]⟩,⟨gp 14 (.ld none (.t 13)),true,[13],[],true,[],[],[]⟩,⟨gp 15 (.fa 1 (.t 3)),true,[3],[],false,[],[],[]⟩,⟨gp 16 (.ld none (.t 15)),true,[15],[3],false,[],[],[]⟩,⟨gp 17 (.ia 3 none (.t 14) (.t 16)),true,[14,16],[],false,[],[],[]⟩,⟨gp 18 (.fa 1 (.t 17)),true,[17],[],false,[],[],[]⟩,⟨gp 19 (.fa 1 (.t 18)),true,[18],[],false,[],[],[]⟩,⟨gp 20 (.ld none (.t 19)),true,[19],[],false,[],[],[]⟩,⟨gp 21 (.c2 171 [(.t 9),(.t 20)]),false,[],[],false,[],[],[]⟩,⟨gp 22 (.no (.t 21)),false,[],[],false,[],[],[]⟩,⟨⟨none,.st 1 (.t 4) (.t 22),none,false⟩,false,[],[],false,[],[],[]⟩] [4] [4]) ⟨[(2,.p ⟨dp,2⟩ 0),(3,.p ⟨dp,3⟩ 0),(4,.p ⟨dp,4⟩ 0),(8,.b true)],[(2,[.p k0 0]),(3,af a0),(4,[.b false])],H⟩=some (.nrm,⟨[(4,.p ⟨dp,4⟩ 0)],[(4,[.b (!b)])],H⟩):=by
   simp [gp,execOp,pick,h0,e1,e3,hj,hv,bz,okB,a6,gn,rJ,Ey,nv,cu,jv,AV.Fu,hcl,St.back,iR,hlw]
  simp only [nx,hA,hB,run_ite,h8,hD,Option.bind_some,mJ,if_true,qz]
  simp [St.end_,pick,yv,St.pJ]
 ·rw [if_neg h6] at h
  have h86:(a0.Kind==6)=false:=by simp [h6]
  rw [h86] at hB h8 hK
  have hr:=Fj (e:=a0.Expr) hk_k0 hzH c0 h0 _ r h
  have hru:run G Ω0 ⟨dp,false⟩ (.ru (.t 25) 26 uE rD) (bM dp 25 k0 H a0.Expr false)=some (if r=true then (.ret,bM dp 25 k0 H a0.Expr true) else (.nrm,bM dp 25 k0 H a0.Expr false)):=by
   rw [GC,if_neg (by simp)]
   show (qy Ω0 (.f 172 [.e (aT a0.Expr) 0])).bind _=_
   rw [GD,Option.bind_some]
   exact hr
  cases r with
  | true=>
   rw [if_pos rfl] at hru
   simp only [nx,hA,hB,run_ite,h8,pv,hK,hC,pr,hru,Option.bind_some,mJ,inBlock,if_false,Bool.false_eq_true,wA,qz]
   simp [St.end_,pick,yv,St.pJ,bM]
  | false=>
   rw [if_neg (by simp)] at hru
   simp only [nx,hA,hB,run_ite,h8,pv,hK,hC,pr,hru,hZ,Option.bind_some,mJ,inBlock,if_false,Bool.false_eq_true,wA,qz]
   simp [St.end_,pick,yv,St.pJ,bM]
end Go.Proofs.YtdpjofmmokaobaaGreat.A
