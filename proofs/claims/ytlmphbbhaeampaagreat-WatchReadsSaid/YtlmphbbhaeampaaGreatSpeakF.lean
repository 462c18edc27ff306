/- judge.Speaker's Silent and Hidden as plain functions: ranges over the variables of an expression. -/
import Derived.Test.YtlmphbbhaeampaaGreatLevelF
set_option linter.all false
set_option maxRecDepth 100000
set_option maxHeartbeats 4000000
namespace Go.Proofs.YtlmphbbhaeampaaGreat.A
open Go
variable [Lp]
variable {dp:Nat}{hp:HP}
theorem Uf(h:aT (dp+1) hp):(fun k:Key=>if k.dp=dp+1 then none else hp k)=hp:=by
 funext k
 split
 ·rename_i e;exact (h k (by omega)).symm
 ·rfl
theorem adt(h:aT dp hp):(fun k:Key=>if k.dp<dp then hp k else none)=hp:=by
 funext k
 split
 ·rfl
 ·rename_i e;exact (h k e).symm
def CE(c0:aH)(n:Int):Option Var:=(cV n).bind fun j=>c0.p.Vars[j]?
def vu(c0:aH):List Int→Option Bool
 | []=>some false
 | n::ns=>(CE c0 n).bind fun v=>if v.Known=true then vu c0 ns else some true
def iv(c0:aH)(a0:Stmt):Option Bool:=
 if a0.Kind=6 then (CE c0 a0.Var).bind fun v=>some (!v.Known) else vu c0 (jQ a0.Expr)
def yS:AC:=(.rg [] [gp 5 (.as (.t 23))] [2,4,5] [0,2,4])
def vv:AC:=(.bl 1 (.sq (.rg [] [gp 24 (.ld none (.t 2)),gp 25 (.nc (.t 24)),gp 26 (.fa 0 (.t 25)),gp 27 (.fa 5 (.t 26)),gp 28 (.ld none (.t 27)),gp 29 (.mv (.t 5)),gp 30 (.ia 3 none (.t 28) (.t 29)),gp 31 (.fa 0 (.t 30)),gp 32 (.ld none (.t 31)),gp 33 (.no (.t 32))] [2,4,33] [0,2,4]) (.ite (.t 33) (.sq (.rg [] [⟨none,.st 1 (.t 4) (.c (.b true)),none,false⟩] [4] [4]) .rt) .sk)))
theorem MS(dp:Nat)(hp:HP)(k0:Key)(hk:k0.dp<dp)(c0:aH)(z:Bool)(j:Nat)(v:Var)(h2:hp ⟨dp,2⟩=some [.p k0 0])(h0:hp k0=some (ay c0))(h4:hp ⟨dp,4⟩=some [.b z])(hv:c0.p.Vars[j]? =some v) :
  run G Ω0 ⟨dp+1,false⟩ vv ⟨[(2,.p ⟨dp,2⟩ 0),(4,.p ⟨dp,4⟩ 0),(5,.i .i64 j)],[],hp⟩=
   some (if v.Known=true then (.nrm,⟨[(2,.p ⟨dp,2⟩ 0),(4,.p ⟨dp,4⟩ 0),(33,.b false)],[],hp⟩) else (.ret,⟨[(4,.p ⟨dp,4⟩ 0)],[],aq hp ⟨dp,4⟩ [.b true]⟩)):=by
 have e1:¬k0.dp=dp+1:=by omega
 cases hb:v.Known<;>simp [vv,gp,execOp,h2,h0,h4,hv,hb,e1,dA,pick]
def cB(dp u:Nat)(k0:Key)(H:HP)(e:aK)(b:Bool):St:=⟨[(2,.p ⟨dp,2⟩ 0),(4,.p ⟨dp,4⟩ 0),(u,.f 230 [.e (bM e) 0])],[(2,[.p k0 0]),(4,[.b b])],H⟩
variable {u:Nat}{k0:Key}{H:HP}{e:aK}{b:Bool}
theorem N7(h:aT dp H):(cB dp u k0 H e b).back dp (fun k=>(cB dp u k0 H e b).box dp k)=cB dp u k0 H e b:=by
 have h1:(fun k:Key=>if k.dp<dp then (cB dp u k0 H e b).box dp k else none)=H:=by
  funext k
  split
  ·rename_i hk
   simp only [St.box,ab (au hk)];rfl
  ·rename_i hk;exact (h k hk).symm
 unfold St.back
 rw [h1]
 simp [cB,lL,fi]
theorem MT(h:aT dp H):(cB dp u k0 H e b).back dp (aq (fun k=>(cB dp u k0 H e b).box dp k) ⟨dp,4⟩ [.b true])=cB dp u k0 H e true:=by
 have h1:(fun k:Key=>if k.dp<dp then aq (fun k=>(cB dp u k0 H e b).box dp k) ⟨dp,4⟩ [.b true] k else none)=H:=by
  funext k
  split
  ·rename_i hk
   rw [om (aM hk)]
   simp only [St.box,ab (au hk)];rfl
  ·rename_i hk;exact (h k hk).symm
 unfold St.back
 rw [h1]
 simp [cB,lL,fi,aq]
theorem yT{dp u x:Nat}{k0:Key}{H:HP}{e:aK}(hk:k0.dp<dp)(hz:aT dp H)(y b:AC)(go:List Int→Option Bool)(g0:go []=some false)
  (hy:∀ n:Int,∃ q,run G Ω0 ⟨dp+1,false⟩ y ((cB dp u k0 H e false).inner dp x n)=some (.nrm,q)∧∀ ns o,go (n::ns)=some o→
   (∃ fr,go ns=some o∧run G Ω0 ⟨dp+1,false⟩ b q=some (.nrm,⟨fr,[],fun k=>(cB dp u k0 H e false).box dp k⟩))∨
   (o=true∧∃ fr,run G Ω0 ⟨dp+1,false⟩ b q=some (.ret,⟨fr,[],aq (fun k=>(cB dp u k0 H e false).box dp k) ⟨dp,4⟩ [.b true]⟩))) :
  ∀ (ns:List Int)(o:Bool),go ns=some o→rounds dp (run G Ω0 ⟨dp+1,false⟩) x y b ns (cB dp u k0 H e false)=some (if o=true then (.ret,cB dp u k0 H e true) else (.nrm,cB dp u k0 H e false))
 | [],o,h=>by
  rw [g0] at h
  obtain rfl:=ah h
  rfl
 | n::ns,o,h=>by
  obtain ⟨q,h1,h2⟩:=hy n
  unfold rounds
  rw [af (by simp [cB,aR hk]),h1]
  simp only [ad]
  rcases h2 ns o h with ⟨fr,h3,h4⟩ | ⟨rfl,fr,h4⟩
  ·rw [h4]
   simp only [ad]
   rw [N7 hz]
   exact yT hk hz y b go g0 hy ns o h3
  ·rw [h4]
   simp only [ad]
   rw [MT hz]
   rfl
theorem KU(hk:k0.dp<dp)(hz:aT dp H)(c0:aH)(h0:H k0=some (ay c0))(ns:List Int)(o:Bool)(h:vu c0 ns=some o):
  rounds dp (run G Ω0 ⟨dp+1,false⟩) 23 yS vv ns (cB dp 22 k0 H e false)=some (if o=true then (.ret,cB dp 22 k0 H e true) else (.nrm,cB dp 22 k0 H e false)):=by
 refine yT hk hz yS vv (vu c0) rfl (fun n=>⟨⟨[(2,.p ⟨dp,2⟩ 0),(4,.p ⟨dp,4⟩ 0),(5,.i .i64 n)],[],fun k=>(cB dp 22 k0 H e false).box dp k⟩,by unfold yS;rw [yk];rfl,fun ns o h=>?_⟩) ns o h
 obtain ⟨v,B,h2⟩:=aj.1 h
 obtain ⟨j,hj,hv⟩:=aj.1 B
 obtain rfl:=rr hj
 have hr:=MS dp (fun k=>(cB dp 22 k0 H e false).box dp k) k0 hk c0 false j v (by simp [cB]) (by simp only [St.box,ab (au hk)];exact h0) (by simp [cB]) hv
 cases hb:v.Known with
 | true=>rw [hb] at h2 hr;exact .inl ⟨_,h2,hr⟩
 | false=>rw [hb] at h2 hr;exact .inr ⟨(ah h2).symm,_,hr⟩
abbrev AO(dp:Nat)(hp:HP)(k0:Key)(c0:aH)(a0:Stmt)(r:Bool):Prop:=call G Ω0 ⟨dp,false⟩ 220 [(.p k0 0),.a (ar a0)] (aq hp k0 (ay c0))=some (.ret (.b r),aq hp k0 (ay c0))
theorem xR(dp:Nat)(hp:HP)(k0:Key)(g:k0.dp<dp)(hz:aT dp hp)(c0:aH)(a0:Stmt)(r:Bool)(h:iv c0 a0=some r):AO dp hp k0 c0 a0 r:=by
 have h0:aq hp k0 (ay c0) k0=some (ay c0):=by simp [aq]
 have w:aT dp (aq hp k0 (ay c0)):=ak g hz
 show call G Ω0 ⟨dp,false⟩ _ _ (aq hp k0 (ay c0))=some (_,aq hp k0 (ay c0))
 generalize aq hp k0 (ay c0)=H at h0 w
 have hU:=Eh a0.Expr
 have hX:=fT a0.Expr
 rw [hX] at hU
 have e1:¬k0.dp=dp:=by omega
 have e2:∀ d,¬k0=⟨dp,d⟩:=fun d=>aM g
 have e3:k0.dp≤dp:=by omega
 have hA:run G Ω0 ⟨dp,false⟩ (.rg [] [gp 2 (.bx (.t 0)),gp 3 (.bx (.t 1)),gp 4 (.al [(.b false)])] [2,3,4] [0,2,3,4]) ⟨kq 0 [(.p k0 0),.a (ar a0)],[],H⟩=
   some (.nrm,⟨[(2,.p ⟨dp,2⟩ 0),(3,.p ⟨dp,3⟩ 0),(4,.p ⟨dp,4⟩ 0)],[(2,[.p k0 0]),(3,ar a0),(4,[.b false])],H⟩):=by
  simp [gp,execOp,e1,e2,e3,jK]
 have hB:run G Ω0 ⟨dp,false⟩ (.rg [] [gp 6 (.fa 0 (.t 3)),gp 7 (.ld none (.t 6)),gp 8 (.bo .eql false (.t 7) (.c (.i .i64 6)))] [2,3,4,8] [0,2,3,4]) ⟨[(2,.p ⟨dp,2⟩ 0),(3,.p ⟨dp,3⟩ 0),(4,.p ⟨dp,4⟩ 0)],[(2,[.p k0 0]),(3,ar a0),(4,[.b false])],H⟩=
   some (.nrm,⟨[(2,.p ⟨dp,2⟩ 0),(3,.p ⟨dp,3⟩ 0),(4,.p ⟨dp,4⟩ 0),(8,.b (a0.Kind==6))],[(2,[.p k0 0]),(3,ar a0),(4,[.b false])],H⟩):=by
  simp [gp,execOp,pick]
 have hC:run G Ω0 ⟨dp,false⟩ (.rg [] [gp 20 (.fa 3 (.t 3)),gp 21 (.ld (some 3) (.t 20)),gp 22 (.ca 0 218 [(.t 21)])] [2,4,22] [0,2,4]) ⟨[(2,.p ⟨dp,2⟩ 0),(3,.p ⟨dp,3⟩ 0),(4,.p ⟨dp,4⟩ 0)],[(2,[.p k0 0]),(3,ar a0),(4,[.b false])],H⟩=some (.nrm,cB dp 22 k0 H a0.Expr false):=by
  simp [gp,execOp,hU,pick,cB,hX]
 have hZ:run G Ω0 ⟨dp,false⟩ (.rg [] [⟨none,.st 1 (.t 4) (.c (.b false)),none,false⟩] [4] [4]) (cB dp 22 k0 H a0.Expr false)=some (.nrm,⟨[(4,.p ⟨dp,4⟩ 0)],[(4,[.b false])],H⟩):=by
  simp [gp,execOp,cB]
 have hK:(⟨[(2,.p ⟨dp,2⟩ 0),(3,.p ⟨dp,3⟩ 0),(4,.p ⟨dp,4⟩ 0),(8,.b (a0.Kind==6))],[(2,[.p k0 0]),(3,ar a0),(4,[.b false])],H⟩:St).bB [2,3,4] [0,2,3,4]=⟨[(2,.p ⟨dp,2⟩ 0),(3,.p ⟨dp,3⟩ 0),(4,.p ⟨dp,4⟩ 0)],[(2,[.p k0 0]),(3,ar a0),(4,[.b false])],H⟩:=rfl
 have h8:pB ((⟨[(2,.p ⟨dp,2⟩ 0),(3,.p ⟨dp,3⟩ 0),(4,.p ⟨dp,4⟩ 0),(8,.b (a0.Kind==6))],[(2,[.p k0 0]),(3,ar a0),(4,[.b false])],H⟩:St).ev (.t 8))=some (a0.Kind==6):=rfl
 have hc:Tr=⟨(.sq (.rg [] [gp 2 (.bx (.t 0)),gp 3 (.bx (.t 1)),gp 4 (.al [(.b false)])] [2,3,4] [0,2,3,4]) (.sq (.sq (.rg [] [gp 6 (.fa 0 (.t 3)),gp 7 (.ld none (.t 6)),gp 8 (.bo .eql false (.t 7) (.c (.i .i64 6)))] [2,3,4,8] [0,2,3,4]) (.ite (.t 8) (.sq (.dg [] [] [⟨gp 9 (.ld none (.t 2)),true,[2],[2],true,[],[],[]⟩,⟨gp 10 (.nc (.t 9)),true,[9],[],false,[],[],[]⟩,⟨gp 11 (.fa 0 (.t 10)),true,[10],[],false,[],[],[]⟩,⟨gp 12 (.fa 5 (.t 11)),true,[11],[],false,[],[],[]⟩,⟨gp 13 (.ld none (.t 12)),true,[12],[],true,[],[],[]⟩,⟨gp 14 (.fa 1 (.t 3)),true,[3],[],false,[],[],[]⟩,⟨gp 15 (.ld none (.t 14)),true,[14],[3],false,[],[],[]⟩,⟨gp 16 (.ia 3 none (.t 13) (.t 15)),false,[],[],false,[],[],[]⟩,⟨gp 17 (.fa 0 (.t 16)),false,[],[],false,[],[],[]⟩,⟨gp 18 (.ld none (.t 17)),false,[],[],false,[],[],[]⟩,⟨gp 19 (.no (.t 18)),false,[],[],false,[],[],[]⟩,⟨⟨none,.st 1 (.t 4) (.t 19),none,false⟩,false,[],[],false,[],[],[]⟩] [4] [4]) .rt) .sk)) (.kp [2,3,4] [0,2,3,4] (.sq (.sq (.rg [] [gp 20 (.fa 3 (.t 3)),gp 21 (.ld (some 3) (.t 20)),gp 22 (.ca 0 218 [(.t 21)])] [2,4,22] [0,2,4]) (.bl 0 (.ru (.t 22) 23 yS vv))) (.sq (.rg [] [⟨none,.st 1 (.t 4) (.c (.b false)),none,false⟩] [4] [4]) .rt))))),[.c 4 none]⟩:=rfl
 rw [pP,ahR,ad,hc]
 unfold iv at h
 by_cases h6:a0.Kind=6
 ·rw [af h6] at h
  obtain ⟨v,B,h2⟩:=aj.1 h
  obtain ⟨j,hj,hv⟩:=aj.1 B
  have hj:=rr hj
  obtain rfl:=ah h2
  have hD:run G Ω0 ⟨dp,false⟩ (.dg [] [] [⟨gp 9 (.ld none (.t 2)),true,[2],[2],true,[],[],[]⟩,⟨gp 10 (.nc (.t 9)),true,[9],[],false,[],[],[]⟩,⟨gp 11 (.fa 0 (.t 10)),true,[10],[],false,[],[],[]⟩,⟨gp 12 (.fa 5 (.t 11)),true,[11],[],false,[],[],[]⟩,⟨gp 13 (.ld none (.t 12)),true,[12],[],true,[],[],[]⟩,⟨gp 14 (.fa 1 (.t 3)),true,[3],[],false,[],[],[]⟩,⟨gp 15 (.ld none (.t 14)),true,[14],[3],false,[],[],[]⟩,⟨gp 16 (.ia 3 none (.t 13) (.t 15)),false,[],[],false,[],[],[]⟩,⟨gp 17 (.fa 0 (.t 16)),false,[],[],false,[],[],[]⟩,⟨gp 18 (.ld none (.t 17)),false,[],[],false,[],[],[]⟩,⟨gp 19 (.no (.t 18)),false,[],[],false,[],[],[]⟩,⟨⟨none,.st 1 (.t 4) (.t 19),none,false⟩,false,[],[],false,[],[],[]⟩] [4] [4]) ⟨[(2,.p ⟨dp,2⟩ 0),(3,.p ⟨dp,3⟩ 0),(4,.p ⟨dp,4⟩ 0),(8,.b (a0.Kind==6))],[(2,[.p k0 0]),(3,ar a0),(4,[.b false])],H⟩=some (.nrm,⟨[(4,.p ⟨dp,4⟩ 0)],[(4,[.b (!v.Known)])],H⟩):=by
   simp [gp,execOp,pick,h0,e1,hj,hv,dA,okB,gZ,gj,lM,yg,lL,jF]
  have C:(a0.Kind==6)=true:=by simp [h6]
  rw [C] at hB h8 hD
  simp only [nq,hA,hB,run_ite,h8,hD,ad,pU,aA,iN]
  simp [St.end_,pick,CX,St.mN]
 ·rw [ab h6] at h
  have C:(a0.Kind==6)=false:=by simp [h6]
  rw [C] at hB h8 hK
  have hr:=KU (e:=a0.Expr) g w c0 h0 _ r h
  have s:run G Ω0 ⟨dp,false⟩ (.ru (.t 22) 23 yS vv) (cB dp 22 k0 H a0.Expr false)=some (if r=true then (.ret,cB dp 22 k0 H a0.Expr true) else (.nrm,cB dp 22 k0 H a0.Expr false)):=by
   rw [MP,ab (by simp)]
   show (tF Ω0 (.f 230 [.e (bM a0.Expr) 0])).bind _=_
   rw [MQ,ad]
   exact hr
  cases r with
  | true=>
   rw [af rfl] at s
   simp only [nq,hA,hB,run_ite,h8,kC,hK,hC,qI,s,ad,pU,inBlock,cF,dq,eo,iN]
   simp [St.end_,pick,CX,St.mN,cB]
  | false=>
   rw [ab (by simp)] at s
   simp only [nq,hA,hB,run_ite,h8,kC,hK,hC,qI,s,hZ,ad,pU,inBlock,cF,dq,eo,iN]
   simp [St.end_,pick,CX,St.mN,cB]
theorem Ug{k:Key}{c:List AV}(h:hp k=some c):aq hp k c=hp:=by
 funext q
 simp only [aq]
 split
 ·rename_i e;rw [e,h]
 ·rfl
theorem MU(hk:k0.dp<dp)(hz:aT dp hp)(c0:aH)(h0:hp k0=some (ay c0))(l:List cb)(b:Bool)(h:ft c0 l=some b):
  call G Ω0 ⟨dp,false⟩ 232 [(.p k0 0),(.l 155 (l.map cg))] hp=some (.ret (.b b),hp):=by
 have:=AJ dp hp k0 hk hz c0 l b h
 unfold uw uv at this
 rwa [Ug h0] at this
noncomputable def vz(c0:aH):List Int→Option Bool
 | []=>some false
 | n::ns=>(CE c0 n).bind fun v=>(ft c0 v.Label.Read).bind fun b=>if b=true then vz c0 ns else some true
noncomputable def iw(c0:aH)(a0:Stmt):Option Bool:=
 if a0.Kind=6 then (CE c0 a0.Var).bind fun v=>(ft c0 v.Label.Write).bind fun b=>some (!b) else vz c0 (jQ a0.Expr)
def yU:AC:=(.rg [] [gp 5 (.as (.t 26))] [2,4,5] [0,2,4])
def vA:AC:=(.bl 1 (.sq (.dg [] [] [⟨gp 27 (.ld none (.t 2)),true,[2],[],true,[],[],[]⟩,⟨gp 28 (.ld none (.t 2)),true,[2],[],true,[],[],[]⟩,⟨gp 29 (.nc (.t 28)),true,[28],[],false,[],[],[]⟩,⟨gp 30 (.fa 0 (.t 29)),true,[29],[],false,[],[],[]⟩,⟨gp 31 (.fa 5 (.t 30)),true,[30],[],false,[],[],[]⟩,⟨gp 32 (.ld none (.t 31)),true,[31],[],true,[],[],[]⟩,⟨gp 33 (.mv (.t 5)),true,[5],[],false,[],[],[]⟩,⟨gp 34 (.ia 3 none (.t 32) (.t 33)),true,[32,33],[],false,[],[],[]⟩,⟨gp 35 (.fa 1 (.t 34)),true,[34],[],false,[],[],[]⟩,⟨gp 36 (.fa 0 (.t 35)),true,[35],[],false,[],[],[]⟩,⟨gp 37 (.ld none (.t 36)),true,[36],[],false,[],[],[]⟩,⟨gp 38 (.c2 232 [(.t 27),(.t 37)]),false,[],[],false,[],[],[]⟩,⟨gp 39 (.no (.t 38)),false,[],[],false,[],[],[]⟩] [2,4,39] [0,2,4]) (.ite (.t 39) (.sq (.rg [] [⟨none,.st 1 (.t 4) (.c (.b true)),none,false⟩] [4] [4]) .rt) .sk)))
theorem MV(dp:Nat)(hp:HP)(m:aT (dp+1) hp)(k0:Key)(hk:k0.dp<dp)(c0:aH)(z:Bool)(j:Nat)(v:Var)(b:Bool)(h2:hp ⟨dp,2⟩=some [.p k0 0])(h0:hp k0=some (ay c0))(h4:hp ⟨dp,4⟩=some [.b z])(hv:c0.p.Vars[j]? =some v)
  (hb:ft c0 v.Label.Read=some b) :
  run G Ω0 ⟨dp+1,false⟩ vA ⟨[(2,.p ⟨dp,2⟩ 0),(4,.p ⟨dp,4⟩ 0),(5,.i .i64 j)],[],hp⟩=
   some (if b=true then (.nrm,⟨[(2,.p ⟨dp,2⟩ 0),(4,.p ⟨dp,4⟩ 0),(39,.b false)],[],hp⟩) else (.ret,⟨[(4,.p ⟨dp,4⟩ 0)],[],aq hp ⟨dp,4⟩ [.b true]⟩)):=by
 have e1:¬k0.dp=dp+1:=by omega
 have E:aT (dp+1+1) hp:=fun k D=>m k (by omega)
 have hc:=MU (dp:=dp+1+1) (by omega) E c0 h0 v.Label.Read b hb
 have f1:=Uf m
 have f2:=adt m
 cases b<;>simp [vA,gp,execOp,h2,h0,h4,hv,e1,dA,pick,dz,AV.jJ,hc,f1,f2,St.back,fi,lL,okB,gZ,gj,lM,yg,jF]
theorem KV(hk:k0.dp<dp)(hz:aT dp H)(c0:aH)(h0:H k0=some (ay c0))(ns:List Int)(o:Bool)(h:vz c0 ns=some o):
  rounds dp (run G Ω0 ⟨dp+1,false⟩) 26 yU vA ns (cB dp 25 k0 H e false)=some (if o=true then (.ret,cB dp 25 k0 H e true) else (.nrm,cB dp 25 k0 H e false)):=by
 have m:aT (dp+1) (fun k=>(cB dp 25 k0 H e false).box dp k):=fun k D=>by
  simp only [St.box,ab (show ¬k.dp=dp by omega)]
  exact hz k (by omega)
 refine yT hk hz yU vA (vz c0) rfl (fun n=>⟨⟨[(2,.p ⟨dp,2⟩ 0),(4,.p ⟨dp,4⟩ 0),(5,.i .i64 n)],[],fun k=>(cB dp 25 k0 H e false).box dp k⟩,by unfold yU;rw [yk];rfl,fun ns o h=>?_⟩) ns o h
 obtain ⟨v,B,h2⟩:=aj.1 h
 obtain ⟨b,hb,h3⟩:=aj.1 h2
 obtain ⟨j,hj,hv⟩:=aj.1 B
 obtain rfl:=rr hj
 have hr:=MV dp (fun k=>(cB dp 25 k0 H e false).box dp k) m k0 hk c0 false j v b (by simp [cB]) (by simp only [St.box,ab (au hk)];exact h0) (by simp [cB]) hv hb
 cases b with
 | true=>exact .inl ⟨_,h3,hr⟩
 | false=>exact .inr ⟨(ah h3).symm,_,hr⟩
abbrev AP(dp:Nat)(hp:HP)(k0:Key)(c0:aH)(a0:Stmt)(r:Bool):Prop:=call G Ω0 ⟨dp,false⟩ 219 [(.p k0 0),.a (ar a0)] (aq hp k0 (ay c0))=some (.ret (.b r),aq hp k0 (ay c0))
theorem xS(dp:Nat)(hp:HP)(k0:Key)(g:k0.dp<dp)(hz:aT dp hp)(c0:aH)(a0:Stmt)(r:Bool)(h:iw c0 a0=some r):AP dp hp k0 c0 a0 r:=by
 have h0:aq hp k0 (ay c0) k0=some (ay c0):=by simp [aq]
 have w:aT dp (aq hp k0 (ay c0)):=ak g hz
 show call G Ω0 ⟨dp,false⟩ _ _ (aq hp k0 (ay c0))=some (_,aq hp k0 (ay c0))
 generalize aq hp k0 (ay c0)=H at h0 w
 have hU:=Eh a0.Expr
 have hX:=fT a0.Expr
 rw [hX] at hU
 have e1:¬k0.dp=dp:=by omega
 have e2:∀ d,¬k0=⟨dp,d⟩:=fun d=>aM g
 have e3:k0.dp≤dp:=by omega
 have hA:run G Ω0 ⟨dp,false⟩ (.rg [] [gp 2 (.bx (.t 0)),gp 3 (.bx (.t 1)),gp 4 (.al [(.b false)])] [2,3,4] [0,2,3,4]) ⟨kq 0 [(.p k0 0),.a (ar a0)],[],H⟩=some (.nrm,⟨[(2,.p ⟨dp,2⟩ 0),(3,.p ⟨dp,3⟩ 0),(4,.p ⟨dp,4⟩ 0)],[(2,[.p k0 0]),(3,ar a0),(4,[.b false])],H⟩):=by
  simp [gp,execOp,e1,e2,e3,jK]
 have hB:run G Ω0 ⟨dp,false⟩ (.rg [] [gp 6 (.fa 0 (.t 3)),gp 7 (.ld none (.t 6)),gp 8 (.bo .eql false (.t 7) (.c (.i .i64 6)))] [2,3,4,8] [0,2,3,4]) ⟨[(2,.p ⟨dp,2⟩ 0),(3,.p ⟨dp,3⟩ 0),(4,.p ⟨dp,4⟩ 0)],[(2,[.p k0 0]),(3,ar a0),(4,[.b false])],H⟩=some (.nrm,⟨[(2,.p ⟨dp,2⟩ 0),(3,.p ⟨dp,3⟩ 0),(4,.p ⟨dp,4⟩ 0),(8,.b (a0.Kind==6))],[(2,[.p k0 0]),(3,ar a0),(4,[.b false])],H⟩):=by
  simp [gp,execOp,pick]
 have hC:run G Ω0 ⟨dp,false⟩ (.rg [] [gp 23 (.fa 3 (.t 3)),gp 24 (.ld (some 3) (.t 23)),gp 25 (.ca 0 218 [(.t 24)])] [2,4,25] [0,2,4]) ⟨[(2,.p ⟨dp,2⟩ 0),(3,.p ⟨dp,3⟩ 0),(4,.p ⟨dp,4⟩ 0)],[(2,[.p k0 0]),(3,ar a0),(4,[.b false])],H⟩=some (.nrm,cB dp 25 k0 H a0.Expr false):=by
  simp [gp,execOp,hU,pick,cB,hX]
 have hZ:run G Ω0 ⟨dp,false⟩ (.rg [] [⟨none,.st 1 (.t 4) (.c (.b false)),none,false⟩] [4] [4]) (cB dp 25 k0 H a0.Expr false)=some (.nrm,⟨[(4,.p ⟨dp,4⟩ 0)],[(4,[.b false])],H⟩):=by
  simp [gp,execOp,cB]
 have hK:(⟨[(2,.p ⟨dp,2⟩ 0),(3,.p ⟨dp,3⟩ 0),(4,.p ⟨dp,4⟩ 0),(8,.b (a0.Kind==6))],[(2,[.p k0 0]),(3,ar a0),(4,[.b false])],H⟩:St).bB [2,3,4] [0,2,3,4]=⟨[(2,.p ⟨dp,2⟩ 0),(3,.p ⟨dp,3⟩ 0),(4,.p ⟨dp,4⟩ 0)],[(2,[.p k0 0]),(3,ar a0),(4,[.b false])],H⟩:=rfl
 have h8:pB ((⟨[(2,.p ⟨dp,2⟩ 0),(3,.p ⟨dp,3⟩ 0),(4,.p ⟨dp,4⟩ 0),(8,.b (a0.Kind==6))],[(2,[.p k0 0]),(3,ar a0),(4,[.b false])],H⟩:St).ev (.t 8))=some (a0.Kind==6):=rfl
 have hc:Tq=⟨(.sq (.rg [] [gp 2 (.bx (.t 0)),gp 3 (.bx (.t 1)),gp 4 (.al [(.b false)])] [2,3,4] [0,2,3,4]) (.sq (.sq (.rg [] [gp 6 (.fa 0 (.t 3)),gp 7 (.ld none (.t 6)),gp 8 (.bo .eql false (.t 7) (.c (.i .i64 6)))] [2,3,4,8] [0,2,3,4]) (.ite (.t 8) (.sq (.dg [] [] [⟨gp 9 (.ld none (.t 2)),true,[2],[2],true,[],[],[]⟩,⟨gp 10 (.ld none (.t 2)),true,[2],[2],true,[],[],[]⟩,⟨gp 11 (.nc (.t 10)),true,[10],[],false,[],[],[]⟩,⟨gp 12 (.fa 0 (.t 11)),true,[11],[],false,[],[],[]⟩,⟨gp 13 (.fa 5 (.t 12)),true,[12],[],false,[],[],[]⟩,⟨gp 14 (.ld none (.t 13)),true,[13],[],true,[],[],[]⟩,⟨gp 15 (.fa 1 (.t 3)),true,[3],[],false,[],[],[]⟩,⟨gp 16 (.ld none (.t 15)),true,[15],[3],false,[],[],[]⟩,⟨gp 17 (.ia 3 none (.t 14) (.t 16)),true,[14,16],[],false,[],[],[]⟩,⟨gp 18 (.fa 1 (.t 17)),true,[17],[],false,[],[],[]⟩,⟨gp 19 (.fa 1 (.t 18)),true,[18],[],false,[],[],[]⟩,⟨gp 20 (.ld none (.t 19)),true,[19],[],false,[],[],[]⟩,⟨gp 21 (.c2 232 [(.t 9),(.t 20)]),false,[],[],false,[],[],[]⟩,⟨gp 22 (.no (.t 21)),false,[],[],false,[],[],[]⟩,⟨⟨none,.st 1 (.t 4) (.t 22),none,false⟩,false,[],[],false,[],[],[]⟩] [4] [4]) .rt) .sk)) (.kp [2,3,4] [0,2,3,4] (.sq (.sq (.rg [] [gp 23 (.fa 3 (.t 3)),gp 24 (.ld (some 3) (.t 23)),gp 25 (.ca 0 218 [(.t 24)])] [2,4,25] [0,2,4]) (.bl 0 (.ru (.t 25) 26 yU vA))) (.sq (.rg [] [⟨none,.st 1 (.t 4) (.c (.b false)),none,false⟩] [4] [4]) .rt))))),[.c 4 none]⟩:=rfl
 rw [pP,ahQ,ad,hc]
 unfold iw at h
 by_cases h6:a0.Kind=6
 ·rw [af h6] at h
  obtain ⟨v,B,h2⟩:=aj.1 h
  obtain ⟨b,hb,h3⟩:=aj.1 h2
  obtain ⟨j,hj,hv⟩:=aj.1 B
  have hj:=rr hj
  obtain rfl:=ah h3
  have C:(a0.Kind==6)=true:=by simp [h6]
  rw [C] at hB h8
  have hl:aT (dp+1) (fun k=>St.box dp (⟨[(2,.p ⟨dp,2⟩ 0),(3,.p ⟨dp,3⟩ 0),(4,.p ⟨dp,4⟩ 0),(8,.b true)],[(2,[.p k0 0]),(3,ar a0),(4,[.b false])],H⟩:St) k):=fun k D=>by
   simp only [St.box,ab (show ¬k.dp=dp by omega)]
   exact w k (by omega)
  have I:=MU (k0:=k0) (dp:=dp+1) (by omega) hl c0 (by simp only [St.box,ab e1];exact h0) v.Label.Write b hb
  have F:(fun k:Key=>if k.dp<dp then St.box dp (⟨[(2,.p ⟨dp,2⟩ 0),(3,.p ⟨dp,3⟩ 0),(4,.p ⟨dp,4⟩ 0),(8,.b true)],[(2,[.p k0 0]),(3,ar a0),(4,[.b false])],H⟩:St) k else none)=H:=by
   funext k
   split
   ·rename_i D
    simp only [St.box,ab (au D)]
   ·rename_i D;exact (w k D).symm
  simp [St.box,aZ] at I F
  have hD:run G Ω0 ⟨dp,false⟩ (.dg [] [] [⟨gp 9 (.ld none (.t 2)),true,[2],[2],true,[],[],[]⟩,⟨gp 10 (.ld none (.t 2)),true,[2],[2],true,[],[],[]⟩,⟨gp 11 (.nc (.t 10)),true,[10],[],false,[],[],[]⟩,⟨gp 12 (.fa 0 (.t 11)),true,[11],[],false,[],[],[]⟩,⟨gp 13 (.fa 5 (.t 12)),true,[12],[],false,[],[],[]⟩,⟨gp 14 (.ld none (.t 13)),true,[13],[],true,[],[],[]⟩,⟨gp 15 (.fa 1 (.t 3)),true,[3],[],false,[],[],[]⟩,⟨gp 16 (.ld none (.t 15)),true,[15],[3],false,[],[],[]⟩,⟨gp 17 (.ia 3 none (.t 14) (.t 16)),true,[14,16],[],false,[],[],[]⟩,⟨gp 18 (.fa 1 (.t 17)),true,[17],[],false,[],[],[]⟩,⟨gp 19 (.fa 1 (.t 18)),true,[18],[],false,[],[],[]⟩,⟨gp 20 (.ld none (.t 19)),true,[19],[],false,[],[],[]⟩,⟨gp 21 (.c2 232 [(.t 9),(.t 20)]),false,[],[],false,[],[],[]⟩,⟨gp 22 (.no (.t 21)),false,[],[],false,[],[],[]⟩,⟨⟨none,.st 1 (.t 4) (.t 22),none,false⟩,false,[],[],false,[],[],[]⟩] [4] [4]) ⟨[(2,.p ⟨dp,2⟩ 0),(3,.p ⟨dp,3⟩ 0),(4,.p ⟨dp,4⟩ 0),(8,.b true)],[(2,[.p k0 0]),(3,ar a0),(4,[.b false])],H⟩=some (.nrm,⟨[(4,.p ⟨dp,4⟩ 0)],[(4,[.b (!b)])],H⟩):=by
   simp [gp,execOp,pick,h0,e1,e3,hj,hv,dA,okB,gZ,gj,lM,yg,lL,jF,dz,AV.jJ,I,St.back,fi,F]
  simp only [nq,hA,hB,run_ite,h8,hD,ad,pU,aA,iN]
  simp [St.end_,pick,CX,St.mN]
 ·rw [ab h6] at h
  have C:(a0.Kind==6)=false:=by simp [h6]
  rw [C] at hB h8 hK
  have hr:=KV (e:=a0.Expr) g w c0 h0 _ r h
  have s:run G Ω0 ⟨dp,false⟩ (.ru (.t 25) 26 yU vA) (cB dp 25 k0 H a0.Expr false)=some (if r=true then (.ret,cB dp 25 k0 H a0.Expr true) else (.nrm,cB dp 25 k0 H a0.Expr false)):=by
   rw [MP,ab (by simp)]
   show (tF Ω0 (.f 230 [.e (bM a0.Expr) 0])).bind _=_
   rw [MQ,ad]
   exact hr
  cases r with
  | true=>
   rw [af rfl] at s
   simp only [nq,hA,hB,run_ite,h8,kC,hK,hC,qI,s,ad,pU,inBlock,cF,dq,eo,iN]
   simp [St.end_,pick,CX,St.mN,cB]
  | false=>
   rw [ab (by simp)] at s
   simp only [nq,hA,hB,run_ite,h8,kC,hK,hC,qI,s,hZ,ad,pU,inBlock,cF,dq,eo,iN]
   simp [St.end_,pick,CX,St.mN,cB]
end Go.Proofs.YtlmphbbhaeampaaGreat.A
