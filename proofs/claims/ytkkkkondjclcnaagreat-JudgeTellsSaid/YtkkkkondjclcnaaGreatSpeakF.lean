/- judge.Speaker's Silent and Hidden as plain functions: ranges over the variables of an expression. -/
import Derived.Test.YtkkkkondjclcnaaGreatLevelF
import Derived.Test.YtkkkkondjclcnaaGreatOkS
import Derived.Test.YtkkkkondjclcnaaGreatFJ
set_option linter.all false
set_option maxRecDepth 100000
set_option maxHeartbeats 4000000
namespace Go.Proofs.YtkkkkondjclcnaaGreat.A
open Go
variable [Lp]
variable {dp:Nat}{hp:HP}
theorem WW(h:aO (dp+1) hp):(fun k:Key=>if k.dp=dp+1 then none else hp k)=hp:=by
 funext k
 split
 ·rename_i e;exact (h k (by omega)).symm
 ·rfl
theorem aga(h:aO dp hp):(fun k:Key=>if k.dp<dp then hp k else none)=hp:=by
 funext k
 split
 ·rfl
 ·rename_i e;exact (h k e).symm
def EA(c0:aK)(n:Int):Option Var:=(dV n).bind fun j=>c0.p.Vars[j]?
def xU(c0:aK):List Int→Option Bool
 | []=>some false
 | n::ns=>(EA c0 n).bind fun v=>if v.Known=true then xU c0 ns else some true
def fY(c0:aK)(a0:Stmt):Option Bool:=
 if a0.Kind=6 then (EA c0 a0.Var).bind fun v=>some (!v.Known) else xU c0 (mj a0.Expr)
def Bn:AC:=(.rg [] [gp 5 (.as (.t 23))] [2,4,5] [0,2,4])
def xV:AC:=(.bl 1 (.sq (.rg [] [gp 24 (.ld none (.t 2)),gp 25 (.nc (.t 24)),gp 26 (.fa 0 (.t 25)),gp 27 (.fa 5 (.t 26)),gp 28 (.ld none (.t 27)),gp 29 (.mv (.t 5)),gp 30 (.ia 3 none (.t 28) (.t 29)),gp 31 (.fa 0 (.t 30)),gp 32 (.ld none (.t 31)),gp 33 (.no (.t 32))] [2,4,33] [0,2,4]) (.ite (.t 33) (.sq (.rg [] [⟨none,.st 1 (.t 4) (.c (.b true)),none,false⟩] [4] [4]) .rt) .sk)))
theorem PW(dp:Nat)(hp:HP)(k0:Key)(hk:k0.dp<dp)(c0:aK)(z:Bool)(j:Nat)(v:Var)(h2:hp ⟨dp,2⟩=some [.p k0 0])(h0:hp k0=some (aw c0))(h4:hp ⟨dp,4⟩=some [.b z])(hv:c0.p.Vars[j]? =some v) :
  run G Ω0 ⟨dp+1,false⟩ xV ⟨[(2,.p ⟨dp,2⟩ 0),(4,.p ⟨dp,4⟩ 0),(5,.i .i64 j)],[],hp⟩=
   some (if v.Known=true then (.nrm,⟨[(2,.p ⟨dp,2⟩ 0),(4,.p ⟨dp,4⟩ 0),(33,.b false)],[],hp⟩) else (.ret,⟨[(4,.p ⟨dp,4⟩ 0)],[],ar hp ⟨dp,4⟩ [.b true]⟩)):=by
 have e1:¬k0.dp=dp+1:=by omega
 cases hb:v.Known<;>simp [xV,gp,execOp,h2,h0,h4,hv,hb,e1,eo,pick]
def cz(dp u:Nat)(k0:Key)(H:HP)(e:aB)(b:Bool):St:=⟨[(2,.p ⟨dp,2⟩ 0),(4,.p ⟨dp,4⟩ 0),(u,.f 146 [.e (aT e) 0])],[(2,[.p k0 0]),(4,[.b b])],H⟩
variable {u:Nat}{k0:Key}{H:HP}{e:aB}{b:Bool}
theorem Q0(h:aO dp H):(cz dp u k0 H e b).back dp (fun k=>(cz dp u k0 H e b).box dp k)=cz dp u k0 H e b:=by
 have h1:(fun k:Key=>if k.dp<dp then (cz dp u k0 H e b).box dp k else none)=H:=by
  funext k
  split
  ·rename_i hk
   simp only [St.box,aa (bQ hk)];rfl
  ·rename_i hk;exact (h k hk).symm
 unfold St.back
 rw [h1]
 simp [cz,iZ,bY]
theorem PX(h:aO dp H):(cz dp u k0 H e b).back dp (ar (fun k=>(cz dp u k0 H e b).box dp k) ⟨dp,4⟩ [.b true])=cz dp u k0 H e true:=by
 have h1:(fun k:Key=>if k.dp<dp then ar (fun k=>(cz dp u k0 H e b).box dp k) ⟨dp,4⟩ [.b true] k else none)=H:=by
  funext k
  split
  ·rename_i hk
   rw [n6 (bD hk)]
   simp only [St.box,aa (bQ hk)];rfl
  ·rename_i hk;exact (h k hk).symm
 unfold St.back
 rw [h1]
 simp [cz,iZ,bY,ar]
theorem Bo{dp u x:Nat}{k0:Key}{H:HP}{e:aB}(hk:k0.dp<dp)(hz:aO dp H)(y b:AC)(go:List Int→Option Bool)(g0:go []=some false)
  (hy:∀ n:Int,∃ q,run G Ω0 ⟨dp+1,false⟩ y ((cz dp u k0 H e false).inner dp x n)=some (.nrm,q)∧∀ ns o,go (n::ns)=some o→
   (∃ fr,go ns=some o∧run G Ω0 ⟨dp+1,false⟩ b q=some (.nrm,⟨fr,[],fun k=>(cz dp u k0 H e false).box dp k⟩))∨
   (o=true∧∃ fr,run G Ω0 ⟨dp+1,false⟩ b q=some (.ret,⟨fr,[],ar (fun k=>(cz dp u k0 H e false).box dp k) ⟨dp,4⟩ [.b true]⟩))) :
  ∀ (ns:List Int)(o:Bool),go ns=some o→rounds dp (run G Ω0 ⟨dp+1,false⟩) x y b ns (cz dp u k0 H e false)=some (if o=true then (.ret,cz dp u k0 H e true) else (.nrm,cz dp u k0 H e false))
 | [],o,h=>by
  rw [g0] at h
  obtain rfl:=af h
  rfl
 | n::ns,o,h=>by
  obtain ⟨q,h1,h2⟩:=hy n
  unfold rounds
  rw [ab (by simp [cz,ec hk]),h1]
  simp only [ad]
  rcases h2 ns o h with ⟨fr,h3,h4⟩ | ⟨rfl,fr,h4⟩
  ·rw [h4]
   simp only [ad]
   rw [Q0 hz]
   exact Bo hk hz y b go g0 hy ns o h3
  ·rw [h4]
   simp only [ad]
   rw [PX hz]
   rfl
theorem ND(hk:k0.dp<dp)(hz:aO dp H)(c0:aK)(h0:H k0=some (aw c0))(ns:List Int)(o:Bool)(h:xU c0 ns=some o):
  rounds dp (run G Ω0 ⟨dp+1,false⟩) 23 Bn xV ns (cz dp 22 k0 H e false)=some (if o=true then (.ret,cz dp 22 k0 H e true) else (.nrm,cz dp 22 k0 H e false)):=by
 refine Bo hk hz Bn xV (xU c0) rfl (fun n=>⟨⟨[(2,.p ⟨dp,2⟩ 0),(4,.p ⟨dp,4⟩ 0),(5,.i .i64 n)],[],fun k=>(cz dp 22 k0 H e false).box dp k⟩,by unfold Bn;rw [yA];rfl,fun ns o h=>?_⟩) ns o h
 obtain ⟨v,F,h2⟩:=ah.1 h
 obtain ⟨j,hj,hv⟩:=ah.1 F
 obtain rfl:=iV hj
 have hr:=PW dp (fun k=>(cz dp 22 k0 H e false).box dp k) k0 hk c0 false j v (by simp [cz]) (by simp only [St.box,aa (bQ hk)];exact h0) (by simp [cz]) hv
 cases hb:v.Known with
 | true=>rw [hb] at h2 hr;exact .inl ⟨_,h2,hr⟩
 | false=>rw [hb] at h2 hr;exact .inr ⟨(af h2).symm,_,hr⟩
abbrev uw(dp:Nat)(hp:HP)(k0:Key)(c0:aK)(a0:Stmt)(r:Bool):Prop:=call G Ω0 ⟨dp,false⟩ 164 [(.p k0 0),.a (aD a0)] (ar hp k0 (aw c0))=some (.ret (.b r),ar hp k0 (aw c0))
theorem Ah(dp:Nat)(hp:HP)(k0:Key)(g:k0.dp<dp)(hz:aO dp hp)(c0:aK)(a0:Stmt)(r:Bool)(h:fY c0 a0=some r):uw dp hp k0 c0 a0 r:=by
 have h0:ar hp k0 (aw c0) k0=some (aw c0):=by simp [ar]
 have E:aO dp (ar hp k0 (aw c0)):=aU g hz
 show call G Ω0 ⟨dp,false⟩ _ _ (ar hp k0 (aw c0))=some (_,ar hp k0 (aw c0))
 generalize ar hp k0 (aw c0)=H at h0 E
 have hU:=Gg a0.Expr
 have hX:=dj a0.Expr
 rw [hX] at hU
 have e1:¬k0.dp=dp:=by omega
 have e2:∀ d,¬k0=⟨dp,d⟩:=fun d=>bD g
 have e3:k0.dp≤dp:=by omega
 have hA:run G Ω0 ⟨dp,false⟩ (.rg [] [gp 2 (.bx (.t 0)),gp 3 (.bx (.t 1)),gp 4 (.al [(.b false)])] [2,3,4] [0,2,3,4]) ⟨jy 0 [(.p k0 0),.a (aD a0)],[],H⟩=
   some (.nrm,⟨[(2,.p ⟨dp,2⟩ 0),(3,.p ⟨dp,3⟩ 0),(4,.p ⟨dp,4⟩ 0)],[(2,[.p k0 0]),(3,aD a0),(4,[.b false])],H⟩):=by
  simp [gp,execOp,e1,e2,e3,ft]
 have hB:run G Ω0 ⟨dp,false⟩ (.rg [] [gp 6 (.fa 0 (.t 3)),gp 7 (.ld none (.t 6)),gp 8 (.bo .eql false (.t 7) (.c (.i .i64 6)))] [2,3,4,8] [0,2,3,4]) ⟨[(2,.p ⟨dp,2⟩ 0),(3,.p ⟨dp,3⟩ 0),(4,.p ⟨dp,4⟩ 0)],[(2,[.p k0 0]),(3,aD a0),(4,[.b false])],H⟩=
   some (.nrm,⟨[(2,.p ⟨dp,2⟩ 0),(3,.p ⟨dp,3⟩ 0),(4,.p ⟨dp,4⟩ 0),(8,.b (a0.Kind==6))],[(2,[.p k0 0]),(3,aD a0),(4,[.b false])],H⟩):=by
  simp [gp,execOp,pick]
 have hC:run G Ω0 ⟨dp,false⟩ (.rg [] [gp 20 (.fa 3 (.t 3)),gp 21 (.ld (some 3) (.t 20)),gp 22 (.ca 0 113 [(.t 21)])] [2,4,22] [0,2,4]) ⟨[(2,.p ⟨dp,2⟩ 0),(3,.p ⟨dp,3⟩ 0),(4,.p ⟨dp,4⟩ 0)],[(2,[.p k0 0]),(3,aD a0),(4,[.b false])],H⟩=some (.nrm,cz dp 22 k0 H a0.Expr false):=by
  simp [gp,execOp,hU,pick,cz,hX]
 have hZ:run G Ω0 ⟨dp,false⟩ (.rg [] [⟨none,.st 1 (.t 4) (.c (.b false)),none,false⟩] [4] [4]) (cz dp 22 k0 H a0.Expr false)=some (.nrm,⟨[(4,.p ⟨dp,4⟩ 0)],[(4,[.b false])],H⟩):=by
  simp [gp,execOp,cz]
 have hK:(⟨[(2,.p ⟨dp,2⟩ 0),(3,.p ⟨dp,3⟩ 0),(4,.p ⟨dp,4⟩ 0),(8,.b (a0.Kind==6))],[(2,[.p k0 0]),(3,aD a0),(4,[.b false])],H⟩:St).aG [2,3,4] [0,2,3,4]=⟨[(2,.p ⟨dp,2⟩ 0),(3,.p ⟨dp,3⟩ 0),(4,.p ⟨dp,4⟩ 0)],[(2,[.p k0 0]),(3,aD a0),(4,[.b false])],H⟩:=rfl
 have h8:qA ((⟨[(2,.p ⟨dp,2⟩ 0),(3,.p ⟨dp,3⟩ 0),(4,.p ⟨dp,4⟩ 0),(8,.b (a0.Kind==6))],[(2,[.p k0 0]),(3,aD a0),(4,[.b false])],H⟩:St).ev (.t 8))=some (a0.Kind==6):=rfl
 have hc:Wd=⟨(.sq (.rg [] [gp 2 (.bx (.t 0)),gp 3 (.bx (.t 1)),gp 4 (.al [(.b false)])] [2,3,4] [0,2,3,4]) (.sq (.sq (.rg [] [gp 6 (.fa 0 (.t 3)),gp 7 (.ld none (.t 6)),gp 8 (.bo .eql false (.t 7) (.c (.i .i64 6)))] [2,3,4,8] [0,2,3,4]) (.ite (.t 8) (.sq (.dg [] [] [⟨gp 9 (.ld none (.t 2)),true,[2],[2],true,[],[],[]⟩,⟨gp 10 (.nc (.t 9)),true,[9],[],false,[],[],[]⟩,⟨gp 11 (.fa 0 (.t 10)),true,[10],[],false,[],[],[]⟩,⟨gp 12 (.fa 5 (.t 11)),true,[11],[],false,[],[],[]⟩,⟨gp 13 (.ld none (.t 12)),true,[12],[],true,[],[],[]⟩,⟨gp 14 (.fa 1 (.t 3)),true,[3],[],false,[],[],[]⟩,⟨gp 15 (.ld none (.t 14)),true,[14],[3],false,[],[],[]⟩,⟨gp 16 (.ia 3 none (.t 13) (.t 15)),false,[],[],false,[],[],[]⟩,⟨gp 17 (.fa 0 (.t 16)),false,[],[],false,[],[],[]⟩,⟨gp 18 (.ld none (.t 17)),false,[],[],false,[],[],[]⟩,⟨gp 19 (.no (.t 18)),false,[],[],false,[],[],[]⟩,⟨⟨none,.st 1 (.t 4) (.t 19),none,false⟩,false,[],[],false,[],[],[]⟩] [4] [4]) .rt) .sk)) (.kp [2,3,4] [0,2,3,4] (.sq (.sq (.rg [] [gp 20 (.fa 3 (.t 3)),gp 21 (.ld (some 3) (.t 20)),gp 22 (.ca 0 113 [(.t 21)])] [2,4,22] [0,2,4]) (.bl 0 (.ru (.t 22) 23 Bn xV))) (.sq (.rg [] [⟨none,.st 1 (.t 4) (.c (.b false)),none,false⟩] [4] [4]) .rt))))),[.c 4 none]⟩:=rfl
 rw [qR,amr,ad,hc]
 unfold fY at h
 by_cases h6:a0.Kind=6
 ·rw [ab h6] at h
  obtain ⟨v,F,h2⟩:=ah.1 h
  obtain ⟨j,hj,hv⟩:=ah.1 F
  have hj:=iV hj
  obtain rfl:=af h2
  have hD:run G Ω0 ⟨dp,false⟩ (.dg [] [] [⟨gp 9 (.ld none (.t 2)),true,[2],[2],true,[],[],[]⟩,⟨gp 10 (.nc (.t 9)),true,[9],[],false,[],[],[]⟩,⟨gp 11 (.fa 0 (.t 10)),true,[10],[],false,[],[],[]⟩,⟨gp 12 (.fa 5 (.t 11)),true,[11],[],false,[],[],[]⟩,⟨gp 13 (.ld none (.t 12)),true,[12],[],true,[],[],[]⟩,⟨gp 14 (.fa 1 (.t 3)),true,[3],[],false,[],[],[]⟩,⟨gp 15 (.ld none (.t 14)),true,[14],[3],false,[],[],[]⟩,⟨gp 16 (.ia 3 none (.t 13) (.t 15)),false,[],[],false,[],[],[]⟩,⟨gp 17 (.fa 0 (.t 16)),false,[],[],false,[],[],[]⟩,⟨gp 18 (.ld none (.t 17)),false,[],[],false,[],[],[]⟩,⟨gp 19 (.no (.t 18)),false,[],[],false,[],[],[]⟩,⟨⟨none,.st 1 (.t 4) (.t 19),none,false⟩,false,[],[],false,[],[],[]⟩] [4] [4]) ⟨[(2,.p ⟨dp,2⟩ 0),(3,.p ⟨dp,3⟩ 0),(4,.p ⟨dp,4⟩ 0),(8,.b (a0.Kind==6))],[(2,[.p k0 0]),(3,aD a0),(4,[.b false])],H⟩=some (.nrm,⟨[(4,.p ⟨dp,4⟩ 0)],[(4,[.b (!v.Known)])],H⟩):=by
   simp [gp,execOp,pick,h0,e1,hj,hv,eo,okB,gv,df,fT,pJ,iZ,ir]
  have I:(a0.Kind==6)=true:=by simp [h6]
  rw [I] at hB h8 hD
  simp only [n3,hA,hB,run_ite,h8,hD,ad,qZ,az,cQ]
  simp [St.end_,pick,EM,St.fU]
 ·rw [aa h6] at h
  have I:(a0.Kind==6)=false:=by simp [h6]
  rw [I] at hB h8 hK
  have hr:=ND (e:=a0.Expr) g E c0 h0 _ r h
  have D:run G Ω0 ⟨dp,false⟩ (.ru (.t 22) 23 Bn xV) (cz dp 22 k0 H a0.Expr false)=some (if r=true then (.ret,cz dp 22 k0 H a0.Expr true) else (.nrm,cz dp 22 k0 H a0.Expr false)):=by
   rw [Pn,aa (by simp)]
   show (vU Ω0 (.f 146 [.e (aT a0.Expr) 0])).bind _=_
   rw [Po,ad]
   exact hr
  cases r with
  | true=>
   rw [ab rfl] at D
   simp only [n3,hA,hB,run_ite,h8,jq,hK,hC,n4,D,ad,qZ,inBlock,bB,bU,bh,cQ]
   simp [St.end_,pick,EM,St.fU,cz]
  | false=>
   rw [aa (by simp)] at D
   simp only [n3,hA,hB,run_ite,h8,jq,hK,hC,n4,D,hZ,ad,qZ,inBlock,bB,bU,bh,cQ]
   simp [St.end_,pick,EM,St.fU,cz]
theorem EB{k:Key}{c:List AV}(h:hp k=some c):ar hp k c=hp:=by
 funext q
 simp only [ar]
 split
 ·rename_i e;rw [e,h]
 ·rfl
theorem PY(hk:k0.dp<dp)(hz:aO dp hp)(c0:aK)(h0:hp k0=some (aw c0))(l:List bz)(b:Bool)(h:gq c0 l=some b):
  call G Ω0 ⟨dp,false⟩ 171 [(.p k0 0),(.l 138 (l.map bj))] hp=some (.ret (.b b),hp):=by
 have:=CI dp hp k0 hk hz c0 l b h
 unfold wS wR at this
 rwa [EB h0] at this
noncomputable def xW(c0:aK):List Int→Option Bool
 | []=>some false
 | n::ns=>(EA c0 n).bind fun v=>(gq c0 v.Label.Read).bind fun b=>if b=true then xW c0 ns else some true
noncomputable def fZ(c0:aK)(a0:Stmt):Option Bool:=
 if a0.Kind=6 then (EA c0 a0.Var).bind fun v=>(gq c0 v.Label.Write).bind fun b=>some (!b) else xW c0 (mj a0.Expr)
def Bp:AC:=(.rg [] [gp 5 (.as (.t 26))] [2,4,5] [0,2,4])
def xX:AC:=(.bl 1 (.sq (.dg [] [] [⟨gp 27 (.ld none (.t 2)),true,[2],[],true,[],[],[]⟩,⟨gp 28 (.ld none (.t 2)),true,[2],[],true,[],[],[]⟩,⟨gp 29 (.nc (.t 28)),true,[28],[],false,[],[],[]⟩,⟨gp 30 (.fa 0 (.t 29)),true,[29],[],false,[],[],[]⟩,⟨gp 31 (.fa 5 (.t 30)),true,[30],[],false,[],[],[]⟩,⟨gp 32 (.ld none (.t 31)),true,[31],[],true,[],[],[]⟩,⟨gp 33 (.mv (.t 5)),true,[5],[],false,[],[],[]⟩,⟨gp 34 (.ia 3 none (.t 32) (.t 33)),true,[32,33],[],false,[],[],[]⟩,⟨gp 35 (.fa 1 (.t 34)),true,[34],[],false,[],[],[]⟩,⟨gp 36 (.fa 0 (.t 35)),true,[35],[],false,[],[],[]⟩,⟨gp 37 (.ld none (.t 36)),true,[36],[],false,[],[],[]⟩,⟨gp 38 (.c2 171 [(.t 27),(.t 37)]),false,[],[],false,[],[],[]⟩,⟨gp 39 (.no (.t 38)),false,[],[],false,[],[],[]⟩] [2,4,39] [0,2,4]) (.ite (.t 39) (.sq (.rg [] [⟨none,.st 1 (.t 4) (.c (.b true)),none,false⟩] [4] [4]) .rt) .sk)))
theorem PZ(dp:Nat)(hp:HP)(C:aO (dp+1) hp)(k0:Key)(hk:k0.dp<dp)(c0:aK)(z:Bool)(j:Nat)(v:Var)(b:Bool)(h2:hp ⟨dp,2⟩=some [.p k0 0])(h0:hp k0=some (aw c0))(h4:hp ⟨dp,4⟩=some [.b z])(hv:c0.p.Vars[j]? =some v)
  (hb:gq c0 v.Label.Read=some b) :
  run G Ω0 ⟨dp+1,false⟩ xX ⟨[(2,.p ⟨dp,2⟩ 0),(4,.p ⟨dp,4⟩ 0),(5,.i .i64 j)],[],hp⟩=
   some (if b=true then (.nrm,⟨[(2,.p ⟨dp,2⟩ 0),(4,.p ⟨dp,4⟩ 0),(39,.b false)],[],hp⟩) else (.ret,⟨[(4,.p ⟨dp,4⟩ 0)],[],ar hp ⟨dp,4⟩ [.b true]⟩)):=by
 have e1:¬k0.dp=dp+1:=by omega
 have K:aO (dp+1+1) hp:=fun k J=>C k (by omega)
 have hc:=PY (dp:=dp+1+1) (by omega) K c0 h0 v.Label.Read b hb
 have f1:=WW C
 have f2:=aga C
 cases b<;>simp [xX,gp,execOp,h2,h0,h4,hv,e1,eo,pick,bC,AV.cL,hc,f1,f2,St.back,bY,iZ,okB,gv,df,fT,pJ,ir]
theorem NF(hk:k0.dp<dp)(hz:aO dp H)(c0:aK)(h0:H k0=some (aw c0))(ns:List Int)(o:Bool)(h:xW c0 ns=some o):
  rounds dp (run G Ω0 ⟨dp+1,false⟩) 26 Bp xX ns (cz dp 25 k0 H e false)=some (if o=true then (.ret,cz dp 25 k0 H e true) else (.nrm,cz dp 25 k0 H e false)):=by
 have C:aO (dp+1) (fun k=>(cz dp 25 k0 H e false).box dp k):=fun k J=>by
  simp only [St.box,aa (show ¬k.dp=dp by omega)]
  exact hz k (by omega)
 refine Bo hk hz Bp xX (xW c0) rfl (fun n=>⟨⟨[(2,.p ⟨dp,2⟩ 0),(4,.p ⟨dp,4⟩ 0),(5,.i .i64 n)],[],fun k=>(cz dp 25 k0 H e false).box dp k⟩,by unfold Bp;rw [yA];rfl,fun ns o h=>?_⟩) ns o h
 obtain ⟨v,F,h2⟩:=ah.1 h
 obtain ⟨b,hb,h3⟩:=ah.1 h2
 obtain ⟨j,hj,hv⟩:=ah.1 F
 obtain rfl:=iV hj
 have hr:=PZ dp (fun k=>(cz dp 25 k0 H e false).box dp k) C k0 hk c0 false j v b (by simp [cz]) (by simp only [St.box,aa (bQ hk)];exact h0) (by simp [cz]) hv hb
 cases b with
 | true=>exact .inl ⟨_,h3,hr⟩
 | false=>exact .inr ⟨(af h3).symm,_,hr⟩
abbrev ux(dp:Nat)(hp:HP)(k0:Key)(c0:aK)(a0:Stmt)(r:Bool):Prop:=call G Ω0 ⟨dp,false⟩ 163 [(.p k0 0),.a (aD a0)] (ar hp k0 (aw c0))=some (.ret (.b r),ar hp k0 (aw c0))
theorem Ai(dp:Nat)(hp:HP)(k0:Key)(g:k0.dp<dp)(hz:aO dp hp)(c0:aK)(a0:Stmt)(r:Bool)(h:fZ c0 a0=some r):ux dp hp k0 c0 a0 r:=by
 have h0:ar hp k0 (aw c0) k0=some (aw c0):=by simp [ar]
 have E:aO dp (ar hp k0 (aw c0)):=aU g hz
 show call G Ω0 ⟨dp,false⟩ _ _ (ar hp k0 (aw c0))=some (_,ar hp k0 (aw c0))
 generalize ar hp k0 (aw c0)=H at h0 E
 have hU:=Gg a0.Expr
 have hX:=dj a0.Expr
 rw [hX] at hU
 have e1:¬k0.dp=dp:=by omega
 have e2:∀ d,¬k0=⟨dp,d⟩:=fun d=>bD g
 have e3:k0.dp≤dp:=by omega
 have hA:run G Ω0 ⟨dp,false⟩ (.rg [] [gp 2 (.bx (.t 0)),gp 3 (.bx (.t 1)),gp 4 (.al [(.b false)])] [2,3,4] [0,2,3,4]) ⟨jy 0 [(.p k0 0),.a (aD a0)],[],H⟩=some (.nrm,⟨[(2,.p ⟨dp,2⟩ 0),(3,.p ⟨dp,3⟩ 0),(4,.p ⟨dp,4⟩ 0)],[(2,[.p k0 0]),(3,aD a0),(4,[.b false])],H⟩):=by
  simp [gp,execOp,e1,e2,e3,ft]
 have hB:run G Ω0 ⟨dp,false⟩ (.rg [] [gp 6 (.fa 0 (.t 3)),gp 7 (.ld none (.t 6)),gp 8 (.bo .eql false (.t 7) (.c (.i .i64 6)))] [2,3,4,8] [0,2,3,4]) ⟨[(2,.p ⟨dp,2⟩ 0),(3,.p ⟨dp,3⟩ 0),(4,.p ⟨dp,4⟩ 0)],[(2,[.p k0 0]),(3,aD a0),(4,[.b false])],H⟩=some (.nrm,⟨[(2,.p ⟨dp,2⟩ 0),(3,.p ⟨dp,3⟩ 0),(4,.p ⟨dp,4⟩ 0),(8,.b (a0.Kind==6))],[(2,[.p k0 0]),(3,aD a0),(4,[.b false])],H⟩):=by
  simp [gp,execOp,pick]
 have hC:run G Ω0 ⟨dp,false⟩ (.rg [] [gp 23 (.fa 3 (.t 3)),gp 24 (.ld (some 3) (.t 23)),gp 25 (.ca 0 113 [(.t 24)])] [2,4,25] [0,2,4]) ⟨[(2,.p ⟨dp,2⟩ 0),(3,.p ⟨dp,3⟩ 0),(4,.p ⟨dp,4⟩ 0)],[(2,[.p k0 0]),(3,aD a0),(4,[.b false])],H⟩=some (.nrm,cz dp 25 k0 H a0.Expr false):=by
  simp [gp,execOp,hU,pick,cz,hX]
 have hZ:run G Ω0 ⟨dp,false⟩ (.rg [] [⟨none,.st 1 (.t 4) (.c (.b false)),none,false⟩] [4] [4]) (cz dp 25 k0 H a0.Expr false)=some (.nrm,⟨[(4,.p ⟨dp,4⟩ 0)],[(4,[.b false])],H⟩):=by
  simp [gp,execOp,cz]
 have hK:(⟨[(2,.p ⟨dp,2⟩ 0),(3,.p ⟨dp,3⟩ 0),(4,.p ⟨dp,4⟩ 0),(8,.b (a0.Kind==6))],[(2,[.p k0 0]),(3,aD a0),(4,[.b false])],H⟩:St).aG [2,3,4] [0,2,3,4]=⟨[(2,.p ⟨dp,2⟩ 0),(3,.p ⟨dp,3⟩ 0),(4,.p ⟨dp,4⟩ 0)],[(2,[.p k0 0]),(3,aD a0),(4,[.b false])],H⟩:=rfl
 have h8:qA ((⟨[(2,.p ⟨dp,2⟩ 0),(3,.p ⟨dp,3⟩ 0),(4,.p ⟨dp,4⟩ 0),(8,.b (a0.Kind==6))],[(2,[.p k0 0]),(3,aD a0),(4,[.b false])],H⟩:St).ev (.t 8))=some (a0.Kind==6):=rfl
 have hc:Wb=⟨(.sq (.rg [] [gp 2 (.bx (.t 0)),gp 3 (.bx (.t 1)),gp 4 (.al [(.b false)])] [2,3,4] [0,2,3,4]) (.sq (.sq (.rg [] [gp 6 (.fa 0 (.t 3)),gp 7 (.ld none (.t 6)),gp 8 (.bo .eql false (.t 7) (.c (.i .i64 6)))] [2,3,4,8] [0,2,3,4]) (.ite (.t 8) (.sq (.dg [] [] [⟨gp 9 (.ld none (.t 2)),true,[2],[2],true,[],[],[]⟩,⟨gp 10 (.ld none (.t 2)),true,[2],[2],true,[],[],[]⟩,⟨gp 11 (.nc (.t 10)),true,[10],[],false,[],[],[]⟩,⟨gp 12 (.fa 0 (.t 11)),true,[11],[],false,[],[],[]⟩,⟨gp 13 (.fa 5 (.t 12)),true,[12],[],false,[],[],[]⟩,⟨gp 14 (.ld none (.t 13)),true,[13],[],true,[],[],[]⟩,⟨gp 15 (.fa 1 (.t 3)),true,[3],[],false,[],[],[]⟩,⟨gp 16 (.ld none (.t 15)),true,[15],[3],false,[],[],[]⟩,⟨gp 17 (.ia 3 none (.t 14) (.t 16)),true,[14,16],[],false,[],[],[]⟩,⟨gp 18 (.fa 1 (.t 17)),true,[17],[],false,[],[],[]⟩,⟨gp 19 (.fa 1 (.t 18)),true,[18],[],false,[],[],[]⟩,⟨gp 20 (.ld none (.t 19)),true,[19],[],false,[],[],[]⟩,⟨gp 21 (.c2 171 [(.t 9),(.t 20)]),false,[],[],false,[],[],[]⟩,⟨gp 22 (.no (.t 21)),false,[],[],false,[],[],[]⟩,⟨⟨none,.st 1 (.t 4) (.t 22),none,false⟩,false,[],[],false,[],[],[]⟩] [4] [4]) .rt) .sk)) (.kp [2,3,4] [0,2,3,4] (.sq (.sq (.rg [] [gp 23 (.fa 3 (.t 3)),gp 24 (.ld (some 3) (.t 23)),gp 25 (.ca 0 113 [(.t 24)])] [2,4,25] [0,2,4]) (.bl 0 (.ru (.t 25) 26 Bp xX))) (.sq (.rg [] [⟨none,.st 1 (.t 4) (.c (.b false)),none,false⟩] [4] [4]) .rt))))),[.c 4 none]⟩:=rfl
 rw [qR,amq,ad,hc]
 unfold fZ at h
 by_cases h6:a0.Kind=6
 ·rw [ab h6] at h
  obtain ⟨v,F,h2⟩:=ah.1 h
  obtain ⟨b,hb,h3⟩:=ah.1 h2
  obtain ⟨j,hj,hv⟩:=ah.1 F
  have hj:=iV hj
  obtain rfl:=af h3
  have I:(a0.Kind==6)=true:=by simp [h6]
  rw [I] at hB h8
  have hl:aO (dp+1) (fun k=>St.box dp (⟨[(2,.p ⟨dp,2⟩ 0),(3,.p ⟨dp,3⟩ 0),(4,.p ⟨dp,4⟩ 0),(8,.b true)],[(2,[.p k0 0]),(3,aD a0),(4,[.b false])],H⟩:St) k):=fun k J=>by
   simp only [St.box,aa (show ¬k.dp=dp by omega)]
   exact E k (by omega)
  have P:=PY (k0:=k0) (dp:=dp+1) (by omega) hl c0 (by simp only [St.box,aa e1];exact h0) v.Label.Write b hb
  have O:(fun k:Key=>if k.dp<dp then St.box dp (⟨[(2,.p ⟨dp,2⟩ 0),(3,.p ⟨dp,3⟩ 0),(4,.p ⟨dp,4⟩ 0),(8,.b true)],[(2,[.p k0 0]),(3,aD a0),(4,[.b false])],H⟩:St) k else none)=H:=by
   funext k
   split
   ·rename_i J
    simp only [St.box,aa (bQ J)]
   ·rename_i J;exact (E k J).symm
  simp [St.box,aE] at P O
  have hD:run G Ω0 ⟨dp,false⟩ (.dg [] [] [⟨gp 9 (.ld none (.t 2)),true,[2],[2],true,[],[],[]⟩,⟨gp 10 (.ld none (.t 2)),true,[2],[2],true,[],[],[]⟩,⟨gp 11 (.nc (.t 10)),true,[10],[],false,[],[],[]⟩,⟨gp 12 (.fa 0 (.t 11)),true,[11],[],false,[],[],[]⟩,⟨gp 13 (.fa 5 (.t 12)),true,[12],[],false,[],[],[]⟩,⟨gp 14 (.ld none (.t 13)),true,[13],[],true,[],[],[]⟩,⟨gp 15 (.fa 1 (.t 3)),true,[3],[],false,[],[],[]⟩,⟨gp 16 (.ld none (.t 15)),true,[15],[3],false,[],[],[]⟩,⟨gp 17 (.ia 3 none (.t 14) (.t 16)),true,[14,16],[],false,[],[],[]⟩,⟨gp 18 (.fa 1 (.t 17)),true,[17],[],false,[],[],[]⟩,⟨gp 19 (.fa 1 (.t 18)),true,[18],[],false,[],[],[]⟩,⟨gp 20 (.ld none (.t 19)),true,[19],[],false,[],[],[]⟩,⟨gp 21 (.c2 171 [(.t 9),(.t 20)]),false,[],[],false,[],[],[]⟩,⟨gp 22 (.no (.t 21)),false,[],[],false,[],[],[]⟩,⟨⟨none,.st 1 (.t 4) (.t 22),none,false⟩,false,[],[],false,[],[],[]⟩] [4] [4]) ⟨[(2,.p ⟨dp,2⟩ 0),(3,.p ⟨dp,3⟩ 0),(4,.p ⟨dp,4⟩ 0),(8,.b true)],[(2,[.p k0 0]),(3,aD a0),(4,[.b false])],H⟩=some (.nrm,⟨[(4,.p ⟨dp,4⟩ 0)],[(4,[.b (!b)])],H⟩):=by
   simp [gp,execOp,pick,h0,e1,e3,hj,hv,eo,okB,gv,df,fT,pJ,iZ,ir,bC,AV.cL,P,St.back,bY,O]
  simp only [n3,hA,hB,run_ite,h8,hD,ad,qZ,az,cQ]
  simp [St.end_,pick,EM,St.fU]
 ·rw [aa h6] at h
  have I:(a0.Kind==6)=false:=by simp [h6]
  rw [I] at hB h8 hK
  have hr:=NF (e:=a0.Expr) g E c0 h0 _ r h
  have D:run G Ω0 ⟨dp,false⟩ (.ru (.t 25) 26 Bp xX) (cz dp 25 k0 H a0.Expr false)=some (if r=true then (.ret,cz dp 25 k0 H a0.Expr true) else (.nrm,cz dp 25 k0 H a0.Expr false)):=by
   rw [Pn,aa (by simp)]
   show (vU Ω0 (.f 146 [.e (aT a0.Expr) 0])).bind _=_
   rw [Po,ad]
   exact hr
  cases r with
  | true=>
   rw [ab rfl] at D
   simp only [n3,hA,hB,run_ite,h8,jq,hK,hC,n4,D,ad,qZ,inBlock,bB,bU,bh,cQ]
   simp [St.end_,pick,EM,St.fU,cz]
  | false=>
   rw [aa (by simp)] at D
   simp only [n3,hA,hB,run_ite,h8,jq,hK,hC,n4,D,hZ,ad,qZ,inBlock,bB,bU,bh,cQ]
   simp [St.end_,pick,EM,St.fU,cz]
def qQ(p:Program):aK:=⟨p,allRows (MM p) p.ak.Grants⟩
abbrev EC(p:Program)(n o:Int):Bool:=dT (MM p) p.ak.Grants n.toNat o.toNat
def I3(p:Program)(o:Int):Bool:=p.Speak.any fun n=>EC p n o
def kh(p:Program)(w:Int):Bool:=p.Speak.any fun n=>EC p w n
def yX(p:Program)(l:List bz):Bool:=l.all fun x=>I3 p x.Owner
def sP(p:Program)(n:Int):Var:=p.Vars.getD n.toNat ⟨false,⟨[],[]⟩⟩
def DT(p:Program)(s:Stmt):Bool:=if s.Kind=6 then !yX p (sP p s.Var).Label.Write else (mj s.Expr).any fun n=>!yX p (sP p n).Label.Read
def DU(p:Program)(s:Stmt):Bool:=if s.Kind=6 then !(sP p s.Var).Known else (mj s.Expr).any fun n=>!(sP p n).Known
def Bq(p:Program)(l:Level):Bool:=(List.range (MM p)).any fun k=>on l.Writers k&&!kh p k
variable [Lp]
def WX{β:Type}(φ:β→Option (Bool×Unit))(es:List β)(v:Nat):Option (Nat⊕(Nat⊕(Nat×Bool))):=
 if (v:Int)<(es.length:Int) then
  (es[v]?).bind fun y=>(φ y).bind fun r=>if r.1=true then some (.inr (.inl v)) else if IntKind.i64.wrap ((v:Int)+1)=((v+1:Nat):Int) then some (.inl (v+1)) else none
 else some (.inr (.inr (v,decide ((v:Int)<(es.length:Int)))))
theorem GH{β:Type}(φ:β→Option (Bool×Unit))(p:β→Bool)(es:List β)(hl:es.length≤1000)(h:∀ y∈es,φ y=some (p y,())) :
  (((lp (fun v=>WX φ es v) 0).bind fun (x1:(Nat⊕(Nat×Bool)))=>match x1 with
  | .inl z=>some ((z:Int),())
  | .inr _=>some (-1,())).bind fun (r1:Int×Unit)=>some (decide (0≤r1.1),()))=some (es.any p,()):=by
 obtain ⟨x,hx,hq⟩:=kA (B:=fun v=>WX φ es v) (fun v=>es.length - v) (fun v=>v≤es.length∧(es.take v).any p=false) (fun x=>(match x with | .inl _=>true | .inr _=>false)=es.any p) (by
  rintro v ⟨hv,hb⟩
  unfold WX
  by_cases L:v<es.length
  ·rw [ab (by omega),aP L,ad,h _ (bN L),ad]
   cases hp:p es[v] with
   | true=>
    grind
   | false=>
    rw [aa (by simp),ab (nm (by omega))]
    grind [pP]
  simp_all [aa,jL]) 0 ⟨dc _,by simp⟩
 rw [hx,←hq]
 cases x with
 | inl z=>simp
 | inr z=>rfl
variable {n o:Int}
theorem YV{r:List (List Bool)}(h:(dV n).bind (fun i=>(r[i]?).bind fun r=>(dV o).bind fun k=>r[k]?)=some b):
  ((dV n).bind fun (j1:Nat)=>(r[j1]?).bind fun (y3:List Bool)=>(dV o).bind fun (j5:Nat)=>(y3[j5]?).bind fun (y7:Bool)=>some (y7,()))=some (b,()):=by
 grind [Option.bind_eq_some_iff]
section
variable {p:Program}(h:nA p)
include h
theorem Vy(hn:cw p.ak.Many n=true)(ho:cw p.ak.Many o=true):(dV n).bind (fun i=>((qQ p).dT[i]?).bind fun r=>(dV o).bind fun k=>r[k]?)=some (EC p n o):=by
 grind [qX,qQ,CK,cX,LM]
theorem Ck:p.Speak.length≤6:=by
 have hm:=Dv h.dT
 have hf:=h.few
 omega
theorem agb(ho:cw p.ak.Many o=true):nx (qQ p) o=some (I3 p o):=by
 have hl:=Ck h
 have:=GH (fun n=>lH n () (qQ p) o) (fun n=>EC p n o) p.Speak (by omega) fun n hn=>by
  have ha:=Vy h (h.speak n hn) ho
  unfold lH
  exact YV ha
 unfold nx
 rw [show fp (qQ p).p.Speak () (qQ p) o=some (p.Speak.any fun n=>EC p n o,()) from this]
 rfl
theorem Tv{w:Int}(hw:cw p.ak.Many w=true):kD (qQ p) w=some (kh p w):=by
 have hl:=Ck h
 have:=GH (fun n=>jC n () (qQ p) w) (fun n=>EC p w n) p.Speak (by omega) fun n hn=>by
  have ha:=Vy h hw (h.speak n hn)
  unfold jC
  exact YV ha
 unfold kD
 rw [show eL (qQ p).p.Speak () (qQ p) w=some (p.Speak.any fun n=>EC p w n,()) from this]
 rfl
theorem Vz{l:List bz}(hl:tB p.ak.Many l=0):gq (qQ p) l=some (yX p l):=by
 obtain ⟨l4,lo⟩:=xy hl
 have:=GH (fun x=>lI x () (qQ p)) (fun x=>!I3 p x.Owner) l (by omega) fun x hx=>by
  unfold lI
  rw [agb h (wx (lo x hx)).1];rfl
 unfold gq
 rw [show fq l () (qQ p)=some (l.any fun x=>!I3 p x.Owner,()) from this,ad]
 exact an some (J6 _ _)
theorem Tw{l:Level}(hs:bw (MM p) l):kE (qQ p) l=some (Bq p l):=by
 have hm:=Dv h.dT
 have S:((MM p:Nat):Int)=p.ak.Many:=Int.toNat_of_nonneg (by omega)
 have hw:=hs.2
 obtain ⟨x,hx,hq⟩:=kA (B:=fun v=>jD (qQ p) l v) (fun v=>l.Writers.length - v) (fun v=>v≤l.Writers.length∧∀ k,k<v→(on l.Writers k&&!kh p k)=false) (fun x=>(match x with | .inl _=>true | .inr _=>false)=Bq p l) (by
  rintro v ⟨hv,hb⟩
  unfold jD
  by_cases L:v<l.Writers.length
  ·have N:=nm (k:=v) (by omega)
   rw [ab (by omega),aP L,ad]
   have R:on l.Writers v=l.Writers[v]:=by grind [on]
   have ht:=Tv h (w:=(v:Int)) (qX.2 ⟨by omega,by omega⟩)
   have next:(on l.Writers v&&!kh p v)=false→v+1≤l.Writers.length∧∀ k,k<v+1→(on l.Writers k&&!kh p k)=false:=by grind
   cases hy:l.Writers[v] with
   | false=>
    rw [aa (by simp),ab N]
    grind
   | true=>
    rw [ab rfl,ht,ad]
    cases Q:kh p v with
    | true=>
     rw [ab rfl,ab N]
     grind
    | false=>
     rw [aa (by simp)]
     refine .inl ⟨_,rfl,?_⟩
     refine (jK.2 ⟨v,yt.2 (by omega),?_⟩).symm
     rw [R,hy,Q];rfl
  ·rw [aa (by omega)]
   refine .inl ⟨_,rfl,?_⟩
   refine (List.any_eq_false.2 fun k hk=>?_).symm
   grind) 0 (by grind)
 grind [kE]
theorem DV(h0:0≤n)(h1:n.toNat<p.Vars.length):EA (qQ p) n=some (sP p n)∧sP p n∈p.Vars:=by
 have hd:sP p n=p.Vars[n.toNat]:=by grind [sP]
 unfold EA
 rw [cX h0,ad,hd]
 exact ⟨aP h1,bN h1⟩
theorem VA{s:Stmt}(hv:0≤s.Var∧s.Var<p.Vars.length)(he:fL p s.Expr=0):fZ (qQ p) s=some (DT p s):=by
 have M:∀ ns:List Int,(∀ n∈ns,0≤n∧n.toNat<p.Vars.length)→xW (qQ p) ns=some (ns.any fun n=>!yX p (sP p n).Label.Read):=by
  intro ns
  induction ns with
  | nil=>intro _;rfl
  | cons n ns ih=>
   intro hn
   obtain ⟨h1,h2⟩:=DV h (hn n (by simp)).1 (hn n (by simp)).2
   rw [xW,h1,ad,Vz h (qw (h.vars _ h2)).1,ad,List.any_cons,ih fun m hm=>hn m (by simp [hm])]
   grind
 unfold fZ DT
 split
 ·obtain ⟨h1,h2⟩:=DV h hv.1 (by omega)
  rw [h1,ad,Vz h (qw (h.vars _ h2)).2];rfl
 ·exact M _ (Pq he)
theorem VB{s:Stmt}(hv:0≤s.Var∧s.Var<p.Vars.length)(he:fL p s.Expr=0):fY (qQ p) s=some (DU p s):=by
 have M:∀ ns:List Int,(∀ n∈ns,0≤n∧n.toNat<p.Vars.length)→xU (qQ p) ns=some (ns.any fun n=>!(sP p n).Known):=by
  intro ns
  induction ns with
  | nil=>intro _;rfl
  | cons n ns ih=>
   grind [DV,xU]
 unfold fY DU
 split
 ·grind [DV]
 ·exact M _ (Pq he)
end
end Go.Proofs.YtkkkkondjclcnaaGreat.A
