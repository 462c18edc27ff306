/- judge.Raw as a plain function: what is told of each command. -/
import Derived.Test.YtkkkkondjclcnaaGreatFlowF
import Derived.Test.YtkkkkondjclcnaaGreatFJ
import Derived.Test.YtkkkkondjclcnaaGreatSpeakF
set_option linter.all false
set_option maxRecDepth 100000
set_option maxHeartbeats 16000000
namespace Go.Proofs.YtkkkkondjclcnaaGreat.A
open Go
variable [Lp]
attribute [local simp] gp execOp okB gv df fT pJ iZ ir ft St.end_ St.fU iU List.filter
variable {dp:Nat}{st:St}{k:Key}
theorem vT: jF dp st [] [] [] k=false:=by simp [jF]
theorem Au: Cq dp st [] [] []=fun k=>st.box dp k:=by
 funext k;simp [Cq,vT]
theorem Av{hp:HP}: eC dp st [] [] [] hp=hp:=by
 funext k;simp [eC,vT]
variable {H:HP}
theorem VC{a b:List AV}: ar (ar H k a) k b=ar H k b:=by
 grind [ar]
def eFt(x:Int×Int):AV:=.a [I x.1,I x.2]
abbrev mG(sp:Key)(f:List (Int×Int)):List AV:=[.p sp 0,.o 133 (f.map eFt)]
variable {a kind n:Int}{bad:Bool}{kw sp:Key}{f:List (Int×Int)}{p:Program}{x y d:AV}
theorem VD(hw:kw.dp<dp)(hz:aO dp H)(hb:H kw=some (cK p x y d n (mG sp f)))(hf:f.length≤1000000):
  call G Ω0 ⟨dp,false⟩ 148 [.p kw 0,I a,I kind,.b bad] H=some (.ret (.tp []),if bad=true then ar H kw (cK p x y d n (mG sp (f++[(a,kind)]))) else H):=by
 have e1:¬kw.dp=dp:=by omega
 have e2:∀ d,¬kw=⟨dp,d⟩:=fun d=>bD hw
 have hm:f.length+1≤maxLen:=bS (show f.length+1≤1000001 by omega) (by decide)
 have ap:(f.length+1)*16≤140737488355328:=by omega
 cases bad with
 | true=>
  apply m9 aeu
  ·apply aj (by simp;rfl)
   apply bT (by simp)
   simp [e1,e2,hb,hm,ap,iK]
   rfl
  ·rfl
  ·simp only [VC,mG,ei,az];rfl
 | false=>
  apply m9 aeu
  ·apply aj (by simp;rfl)
   apply ba (by simp)
   exact bh _ _
  ·rfl
  grind
noncomputable def DW(V:List Level)(f:dq):Option Bool:=if f.Func=true then some false else (dV f.To).bind fun j=>(V[j]?).bind fun l=>(fQ f.Level l).map fun b=>!b
variable {kc:Key}{tl:List AV}{V:List Level}{r:Bool}
theorem WY{ro:Bool}(S:kc.dp<dp)(C:kw.dp<dp)(hc:H kc=some [.p kw 0])(hb:H kw=some (cK p (.l 45 (V.map aI)) y d n tl)){f:dq}(h:DW V f=some r):
  call G Ω0 ⟨dp,ro⟩ 162 [ee f,.p kc 0] H=some (.ret (.b r),H):=by
 have e1:¬kc.dp=dp:=by omega
 have e2:¬kw.dp=dp:=by omega
 have e3:∀ d,¬kc=⟨dp,d⟩:=fun d=>bD S
 have e4:∀ d,¬kw=⟨dp,d⟩:=fun d=>bD C
 unfold DW at h
 cases hf:f.Func with
 | true=>
  rw [ab hf] at h
  cases h
  apply dS aew
  ·apply aj (by simp [ee,e3];rfl)
   apply aj
   ·apply dM 10
    ·rfl
    ·simp
    ·simp [hf,e1,e2,e3,e4]
     rfl
    ·simp
     rfl
    ·rfl
   exact cQ _ _
  ·rfl
  ·rfl
 | false=>
  rw [aa (by simp [hf])] at h
  obtain ⟨j,hj,h⟩:=ah.1 h
  obtain ⟨l,hl,h⟩:=ah.1 h
  obtain ⟨b,M,rfl⟩:=db.1 h
  have hj:=iV hj
  have hA:=aZ (E:=⟨dp,ro⟩) (nh f.Level l b M) (by simp) (by simp)
  apply dS aew
  ·apply aj (by simp [ee,e3];rfl)
   apply aj
   ·apply dM 10
    ·rfl
    ·simp
    ·simp [hf,hc,hb,e1,e2,e3,e4]
     rfl
    ·simp [-aF,hf,hc,hb,hj,hl,aI,hA,e1,e2,e3,e4]
     rfl
    ·rfl
   exact cQ _ _
  ·rfl
  ·rfl
noncomputable def ED(V:List Level):List dq→Option Bool
 | []=>some false
 | f::r=>(DW V f).bind fun b=>if b=true then some true else ED V r
def wqx(fs:List dq)(kc:Key)(k:Nat)(H:HP):St:=⟨[(0,.l 96 (fs.map ee)),(1,.f 162 [.p kc 0]),(7,I fs.length),(8,I k)],[],H⟩
theorem M3{dp:Nat}{n:Int}{kc kw:Key}{H:HP}{p:Program}{y d:AV}{tl:List AV}{V:List Level}(S:kc.dp<dp)(C:kw.dp<dp)(hz:aO dp H)(hc:H kc=some [.p kw 0])(hb:H kw=some (cK p (.l 45 (V.map aI)) y d n tl))(fs:List dq)(hl:fs.length≤2000) :
  ∀ (rest:List dq)(k:Nat)(b:Bool),fs.drop k=rest→ED V rest=some b→
   if b=true then ∃ j:Nat,fH G Ω0 ⟨dp,false⟩ FJ (wqx fs kc k H)=some (.ret,⟨[(4,I j)],[],H⟩)
   else ∃ fr,fH G Ω0 ⟨dp,false⟩ FJ (wqx fs kc k H)=some (.ex 0,⟨fr,[],H⟩)
 | [],k,b,hd,h=>by
  have hk:¬((k:Int)<(fs.length:Int)):=by
   grind [List.drop_eq_nil_iff]
  cases h
  rw [aa (by simp)]
  refine ⟨_,dD (r:=(.ex 0,⟨?_,[],H⟩)) ?_ (by simp)⟩
  rotate_left
  ·show run G Ω0 _ FI (wqx fs kc k H)=_
   apply aj (by simp [wqx,hk];rfl)
   apply iu
   apply ba (by simp [hk])
   exact dR _ _ _
 | f::rest,k,b,hd,h=>by
  obtain ⟨r,hr,h⟩:=ah.1 h
  have au:k<fs.length:=by
   grind [List.length_cons]
  have hg:fs[k]? =some f:=by
   have:=an (fun l=>l[0]?) hd
   simpa using this
  have ai:fs.drop (k+1)=rest:=by
   have:=an List.tail hd
   simpa using this
  have ae:=iF k (by omega)
  have hk:((k:Int)<(fs.length:Int)):=by omega
  have h1:(fun k:Key=>if k.dp=dp then none else H k)=H:=by
   funext q
   split
   ·rename_i e;exact (hz q (by omega)).symm
   ·rfl
  have h2:(fun k:Key=>if k.dp<dp then H k else none)=H:=by
   funext q
   split
   ·rfl
   ·rename_i e;exact (hz q e).symm
  have N:=WY (dp:=dp+1) (ro:=false) (by omega) (by omega) hc hb hr
  unfold ee at N
  cases r with
  | true=>
   rw [ab rfl] at h
   cases h
   rw [ab rfl]
   refine ⟨k,dD (r:=(.ret,_)) ?_ (by simp)⟩
   show run G Ω0 _ FI (wqx fs kc k H)=_
   apply aj (by simp [wqx,hk];rfl)
   apply aj
   ·apply bT (by simp [hk])
    exact bh _ _
   apply di
   apply xp
   apply AW
   apply aj (by simp;rfl)
   apply aj (by simp [hg,ee,bC,AV.cL,h1,N,St.back,bY,h2];rfl)
   apply bT (by simp)
   apply aj (by simp;rfl)
   exact cQ _ _
  | false=>
   rw [aa (by simp)] at h
   have ih:=M3 S C hz hc hb fs hl rest (k+1) b ai h
   have hr:run G Ω0 ⟨dp,false⟩ FI (wqx fs kc k H)=some (.nrm,wqx fs kc (k+1) H):=by
    apply aj (by simp [wqx,hk];rfl)
    apply aj
    ·apply bT (by simp [hk])
     exact bh _ _
    apply di
    apply aj
    ·apply dI
     apply aj (by simp;rfl)
     apply aj (by simp [hg,ee,bC,AV.cL,h1,N,St.back,bY,h2];rfl)
     apply ba (by simp)
     exact bh _ _
    simp [wqx,ae]
   have hs:fH G Ω0 ⟨dp,false⟩ FJ (wqx fs kc k H)=fH G Ω0 ⟨dp,false⟩ FJ (wqx fs kc (k+1) H):=by
    apply dz
    show (run G Ω0 _ FI (wqx fs kc k H)).bind _=_
    rw [hr];rfl
   grind
variable {fs:List dq}{b:Bool}
theorem WZ(S:kc.dp<dp)(C:kw.dp<dp)(hz:aO dp H)(hc:H kc=some [.p kw 0])(hb:H kw=some (cK p (.l 45 (V.map aI)) y d n tl))(hl:fs.length≤2000)(h:ED V fs=some b):
  ∃ i:Int,call G Ω0 ⟨dp,false⟩ 170 [.l 96 (fs.map ee),.f 162 [.p kc 0]] H=some (.ret (I i),H)∧decide (0≤i)=b:=by
 have ih:=M3 S C hz hc hb fs hl fs 0 b rfl h
 cases b with
 | true=>
  rw [ab rfl] at ih
  obtain ⟨j,hj⟩:=ih
  refine ⟨j,?_,by simp⟩
  apply dS aex
  ·apply aj (by simp;rfl)
   apply xp
   apply aj (by simp;rfl)
   apply AW
   rw [dL]
   exact hj
  ·rfl
  ·rfl
 | false=>
  rw [aa (by simp)] at ih
  obtain ⟨fr,hj⟩:=ih
  refine ⟨-1,?_,by decide⟩
  apply dS aex
  ·apply aj (by simp;rfl)
   apply aj
   ·apply aj (by simp;rfl)
    apply lu
    rw [dL]
    exact hj
   apply aj (by simp;rfl)
   exact cQ _ _
  ·rfl
  ·rfl
theorem Q1(S:kc.dp<dp)(C:kw.dp<dp)(hz:aO dp H)(hc:H kc=some [.p kw 0])(hb:H kw=some (cK p (.l 45 (V.map aI)) y d n tl))(hl:fs.length≤2000)(h:ED V fs=some b):
  call G Ω0 ⟨dp,false⟩ 161 [.l 96 (fs.map ee),.f 162 [.p kc 0]] H=some (.ret (.b b),H):=by
 have h1:(fun k:Key=>if k.dp=dp then none else H k)=H:=by
  funext q
  split
  ·rename_i e;exact (hz q (by omega)).symm
  ·rfl
 have h2:(fun k:Key=>if k.dp<dp then H k else none)=H:=by
  funext q
  split
  ·rfl
  ·rename_i e;exact (hz q e).symm
 obtain ⟨i,hi,rfl⟩:=WZ (dp:=dp+1) (by omega) (by omega) (fun q hq=>hz q (by omega)) hc hb hl h
 apply dS amp
 ·apply aj (by simp;rfl)
  apply aj (by simp [bC,AV.cL,h1,hi,St.back,bY,h2];rfl)
  exact cQ _ _
 ·rfl
 ·rfl
noncomputable def wE(p:Program)(V:List Level)(s:Stmt)(place:Level):Option Bool:=(nN p V s place).bind fun fs=>if fs.length≤2000 then (ED V fs).map fun b=>!b else none
variable {s:Stmt}
theorem VE(C:kw.dp<dp)(hz:aO dp H)(hb:H kw=some (cK p (.l 45 (V.map aI)) y d n tl)){place:Level}(hA:s.Args.length≤1000)(h:wE p V s place=some r):
  call G Ω0 ⟨dp,false⟩ 149 [.p kw 0,.a (aD s),.a (ax place)] H=some (.ret (.b r),H):=by
 obtain ⟨fs,h1,h⟩:=ah.1 h
 split at h
 ·rename_i hl
  obtain ⟨b,X,rfl⟩:=db.1 h
  have e1:¬kw.dp=dp:=by omega
  have e2:∀ d,¬kw=⟨dp,d⟩:=fun d=>bD C
  have e3:kw.dp≤dp:=by omega
  obtain ⟨H1,R⟩:∃ H1:HP,H1=(fun k=>if k.dp=dp then (if 3=k.d then some [.p kw 0] else if 4=k.d then some (aD s) else if 5=k.d then some (ax place) else none) else H k):=⟨_,rfl⟩
  have Z:H1 kw=some (cK p (.l 45 (V.map aI)) y d n tl):=by grind
  have N:H1 ⟨dp,3⟩=some [.p kw 0]:=by rw [R];simp
  have ad:aO (dp+1) H1:=fun q hq=>by
   rw [R];simp only [aa (show ¬q.dp=dp by omega)];exact hz q (by omega)
  have hF:=Ka (dp+1) H1 kw (by omega) p (.l 45 (V.map aI)) y d n tl V Z (.l _ _) s place fs hA h1
  have hC:=Q1 (dp:=dp+1) (kc:=⟨dp,3⟩) (kw:=kw) (by grind) (by omega) ad N Z hl X
  rw [R] at hF hC
  have O:(fun k:Key=>if k.dp<dp then (if k.dp=dp then (if 3=k.d then some [.p kw 0] else if 4=k.d then some (aD s) else if 5=k.d then some (ax place) else none) else H k) else none)=H:=by
   funext q
   by_cases hq:q.dp<dp
   ·grind
   ·rw [aa hq,hz q hq]
  apply dS amg
  ·apply aj (by simp [e2,e3];rfl)
   apply aj
   ·apply dM 6
    ·rfl
    ·simp
    ·simp [e1,e2,e3,nI,Au,Av,vT,uA,jN,St.cF,AV.cL,hF,St.back,bY,O]
     rfl
    ·simp [e1,e2,e3,bC,AV.cL,hC,St.back,bY,O]
     rfl
    ·rfl
   exact cQ _ _
  ·rfl
  ·rfl
 ·cases h
def et(f:List (Int×Int))(a k:Int)(b:Bool):List (Int×Int):=if b=true then f++[(a,k)] else f
theorem mH(B:Nat→Option (List AV))(hw:kw.dp<dp)(hz:aO dp H)(hb:H kw=some (cK p x y d n (mG sp f)))(hf:f.length≤1000000):
  ∃ H',call G Ω0 ⟨dp+1,false⟩ 148 [.p kw 0,I a,I kind,.b bad] (fun k=>if k.dp=dp then B k.d else H k)=some (.ret (.tp []),fun k=>if k.dp=dp then B k.d else H' k)∧H' kw=some (cK p x y d n (mG sp (et f a kind bad)))∧aO dp H'∧∀ q,q≠kw→H' q=H q:=by
 have e1:¬kw.dp=dp:=by omega
 have h:=VD (dp:=dp+1) (a:=a) (kind:=kind) (bad:=bad) (kw:=kw) (sp:=sp) (H:=fun k=>if k.dp=dp then B k.d else H k) (f:=f) (p:=p) (x:=x) (y:=y) (d:=d) (n:=n) (by omega) (fun q hq=>by simp only [aa (show ¬q.dp=dp by omega)];exact hz q (by omega)) (by grind) hf
 cases bad with
 | true=>
  refine ⟨ar H kw (cK p x y d n (mG sp (f++[(a,kind)]))),?_,iK ..,aU hw hz,fun q hq=>n6 hq⟩
  rw [h,ab rfl]
  congr 1
  congr 1
  grind [ar]
 | false=>
  refine ⟨H,?_,hb,hz,fun _ _=>rfl⟩
  grind
theorem ik(B:Nat→Option (List AV))(hz:aO dp H):(fun k:Key=>if k.dp<dp then (if k.dp=dp then B k.d else H k) else none)=H:=by
 funext q
 by_cases hq:q.dp<dp
 ·grind
 ·rw [aa hq,hz q hq]
variable [Lp]
attribute [local simp] gp execOp okB gv df fT pJ iZ ir ft St.end_ St.fU iU List.filter
def zC(dp:Nat)(kw:Key)(a:Int)(s:Stmt)(pl l v:Level)(H:HP):St:=⟨[(0,.p kw 0),(1,I a),(6,.p ⟨dp,6⟩ 0),(7,.p ⟨dp,7⟩ 0),(8,.p ⟨dp,8⟩ 0),(9,.p ⟨dp,9⟩ 0)],[(6,aD s),(7,ax pl),(8,ax l),(9,ax v)],H⟩
variable {pl l v:Level}
theorem P0(h0:0<dp)(C:kw.dp<dp)(hz:aO dp H)(hb:H kw=some (cK p (.l 45 (V.map aI)) y d n tl)){j:Nat}(hl:jg p V s.Expr=some l)(hj:s.Var=(j:Int))(hv:V[j]? =some v){z:AC}{r:Option (aN×St)}(h:run G Ω0 ⟨dp,false⟩ z (zC dp kw a s pl l v H)=r):
  run G Ω0 ⟨dp,false⟩ (.sq (.rg [] [gp 6 (.bx (.t 2)),gp 7 (.bx (.t 3))] [0,1,6,7] [0,6,7]) (.sq (.dg [] [8,9] [⟨gp 10 (.mv (.t 0)),true,[0],[],false,[],[8,9],[]⟩,⟨gp 11 (.nc (.t 10)),true,[10],[],false,[],[8,9],[]⟩,⟨gp 12 (.fa 0 (.t 11)),true,[11],[],false,[],[8,9],[]⟩,⟨gp 13 (.fa 0 (.t 12)),true,[12],[],false,[],[8,9],[]⟩,⟨gp 14 (.ld (some 8) (.t 13)),true,[13],[],true,[],[8,9],[]⟩,⟨gp 15 (.mv (.t 0)),true,[0],[],false,[],[8,9],[]⟩,⟨gp 16 (.nc (.t 15)),true,[15],[],false,[],[8,9],[]⟩,⟨gp 17 (.fa 0 (.t 16)),true,[16],[],false,[],[8,9],[]⟩,⟨gp 18 (.fa 8 (.t 17)),true,[17],[],false,[],[8,9],[]⟩,⟨gp 19 (.fa 0 (.t 18)),true,[18],[],false,[],[8,9],[]⟩,⟨gp 20 (.ld none (.t 19)),true,[19],[],true,[],[8,9],[]⟩,⟨gp 21 (.fa 3 (.t 6)),true,[6],[],false,[],[8,9],[]⟩,⟨gp 22 (.ld (some 3) (.t 21)),true,[21],[6],false,[],[8,9],[]⟩,⟨gp 23 (.ca 0 46 [(.t 14),(.t 20),(.t 22)]),true,[14,20,22],[],true,[],[8,9],[]⟩,⟨gp 24 (.mv (.t 0)),true,[0],[],false,[],[8,9],[]⟩,⟨gp 25 (.nc (.t 24)),true,[24],[],false,[],[8,9],[]⟩,⟨gp 26 (.fa 0 (.t 25)),true,[25],[],false,[],[8,9],[]⟩,⟨gp 27 (.fa 8 (.t 26)),true,[26],[],false,[],[8,9],[]⟩,⟨gp 28 (.fa 0 (.t 27)),true,[27],[],false,[],[8,9],[]⟩,⟨gp 29 (.ld none (.t 28)),true,[28],[],true,[],[8,9],[]⟩,⟨gp 30 (.fa 1 (.t 6)),true,[6],[],false,[],[8,9],[]⟩,⟨gp 31 (.ld none (.t 30)),true,[30],[6],false,[],[8,9],[]⟩,⟨gp 32 (.ia 2 none (.t 29) (.t 31)),true,[29,31],[],true,[],[8,9],[]⟩,⟨gp 33 (.ld (some 2) (.t 32)),true,[32],[],true,[],[8,9],[]⟩,⟨gp 8 (.al [(.l 4 []),(.l 4 [])]),true,[],[],false,[],[9],[]⟩,⟨gp 9 (.al [(.l 4 []),(.l 4 [])]),true,[],[],false,[],[8],[]⟩,⟨⟨none,.st 2 (.t 8) (.t 23),none,false⟩,true,[8,23],[8],false,[],[],[]⟩,⟨⟨none,.st 2 (.t 9) (.t 33),none,false⟩,false,[],[],false,[],[],[]⟩] [0,1,6,7,8,9] [0,6,7,8,9]) z)) ⟨jy 0 [.p kw 0,I a,.a (aD s),.a (ax pl)],[],H⟩=r:=by
 have e1:¬kw.dp=dp:=by omega
 have e2:∀ d,¬kw=⟨dp,d⟩:=fun d=>bD C
 have e3:kw.dp≤dp:=by omega
 have hL:∀ st:St,aF (call G Ω0) Ω0 ⟨dp,false⟩ st 0 46 [.a (av p),.l 45 (V.map aI),.a (ny s.Expr)]=some (.a (ax l),st):=fun st=>Eo (E:=⟨dp,false⟩) (by show dp≠0;omega) (.l _ _) hl
 apply aj (by simp [e2,e3];rfl)
 refine aj ?_ h
 apply dM 6
 ·rfl
 ·simp [e2]
 ·simp [e1,e2,e3,hb]
  rfl
 ·apply iQ 8
  ·simp [-aF,e1,e2,e3,hb,hL]
   rfl
  ·apply iQ 10
   ·simp [e1,e2,e3,hb,hj,hv,aI]
    rfl
   ·simp [e1,e2,e3,aI]
    rfl
 ·rfl
abbrev sQ(s:Stmt)(pl l v:Level):Nat→Option (List AV):=fun d=>if 6=d then some (aD s) else if 7=d then some (ax pl) else if 8=d then some (ax l) else if 9=d then some (ax v) else none
theorem W3(C:kw.dp<dp)(hz:aO dp H)(hb:H kw=some (cK p x y d n (mG sp f)))(hf:f.length≤1000000)(hU:fQ pl v=some b):
  ∃ H',run G Ω0 ⟨dp,false⟩ (.rg [] [gp 34 (.mv (.t 0)),gp 35 (.mv (.t 1)),gp 36 (.ld (some 2) (.t 7)),gp 37 (.ld (some 2) (.t 9)),gp 38 (.ca 0 43 [(.t 36),(.t 37)]),gp 39 (.no (.t 38)),gp 40 (.c2 148 [(.t 34),(.t 35),(.c (.i .i64 5)),(.t 39)])] [0,1,6,7,8,9] [0,6,7,8,9]) (zC dp kw a s pl l v H)=some (.nrm,zC dp kw a s pl l v H')∧H' kw=some (cK p x y d n (mG sp (et f a 5 (!b))))∧aO dp H'∧∀ q,q≠kw→H' q=H q:=by
 have e1:¬kw.dp=dp:=by omega
 have e2:∀ d,¬kw=⟨dp,d⟩:=fun d=>bD C
 have e3:kw.dp≤dp:=by omega
 have hA:=aZ (E:=⟨dp,false⟩) (nh pl v b hU) (by simp) (by simp)
 obtain ⟨H',c1,c2,c3,c4⟩:=mH (a:=a) (kind:=5) (bad:=!b) (sQ s pl l v) C hz hb hf
 have J:=ik (sQ s pl l v) c3
 refine ⟨H',?_,c2,c3,c4⟩
 simp [-aF,zC,e1,e2,e3,hA,bC,AV.cL,c1,St.back,bY,J,sQ]
variable {c:aK}
theorem W5(C:kw.dp<dp)(hz:aO dp H)(hb:H kw=some (cK p x y d n (mG sp f)))(hf:f.length≤1000000)(L:sp.dp<dp)(hc:H sp=some (aw c))(hS:fZ c s=some b):
  ∃ H',run G Ω0 ⟨dp,false⟩ (.dg [] [] [⟨gp 41 (.mv (.t 0)),true,[0],[],false,[],[],[1000000]⟩,⟨gp 42 (.mv (.t 1)),true,[1],[],false,[],[],[1000000]⟩,⟨gp 43 (.mv (.t 0)),true,[0],[],false,[],[],[]⟩,⟨gp 44 (.nc (.t 43)),true,[43],[],false,[],[],[]⟩,⟨gp 45 (.fa 12 (.t 44)),true,[44],[],false,[],[],[]⟩,⟨gp 46 (.ld none (.t 45)),true,[45],[],true,[],[],[]⟩,⟨gp 47 (.ld (some 9) (.t 6)),true,[6],[6],false,[],[],[]⟩,⟨gp 48 (.ch 163 [(.t 46),(.t 47)] [] [] []),false,[],[],false,[],[],[]⟩,⟨gp 49 (.c2 148 [(.t 41),(.t 42),(.c (.i .i64 6)),(.t 48)]),false,[],[],false,[],[],[]⟩] [0,1,6,7,8,9] [0,6,7,8,9]) (zC dp kw a s pl l v H)=some (.nrm,zC dp kw a s pl l v H')∧H' kw=some (cK p x y d n (mG sp (et f a 6 b)))∧aO dp H'∧∀ q,q≠kw→H' q=H q:=by
 have e1:¬kw.dp=dp:=by omega
 have e2:∀ d,¬kw=⟨dp,d⟩:=fun d=>bD C
 have e3:kw.dp≤dp:=by omega
 have e4:¬sp.dp=dp:=by omega
 have e5:sp.dp≤dp:=by omega
 have hA:=Ai (dp+1) (fun k=>if k.dp=dp then sQ s pl l v k.d else H k) sp (by omega) (fun q hq=>by simp only [aa (show ¬q.dp=dp by omega)];exact hz q (by omega)) c s b hS
 rw [show ux (dp+1) (fun k=>if k.dp=dp then sQ s pl l v k.d else H k) sp c s b=(call G Ω0 ⟨dp+1,false⟩ 163 [(.p sp 0),.a (aD s)] (ar (fun k=>if k.dp=dp then sQ s pl l v k.d else H k) sp (aw c))=some (.ret (.b b),ar (fun k=>if k.dp=dp then sQ s pl l v k.d else H k) sp (aw c))) from rfl,EB (show (fun k:Key=>if k.dp=dp then sQ s pl l v k.d else H k) sp=some (aw c) by simp only [aa e4];exact hc)] at hA
 obtain ⟨H',c1,c2,c3,c4⟩:=mH (a:=a) (kind:=6) (bad:=b) (sQ s pl l v) C hz hb hf
 have J:=ik (sQ s pl l v) c3
 have Q:=ik (sQ s pl l v) hz
 refine ⟨H',?_,c2,c3,c4⟩
 apply dM 8
 ·rfl
 ·simp [zC]
 ·simp [zC,e1,e2,e3,e4,e5,hb,nI,Au,Av,vT,uA,jN,St.cF,AV.cL,hA,St.back,bY,Q,sQ]
  rfl
 ·simp [zC,e1,e2,e3,bC,AV.cL,c1,St.back,bY,J,sQ]
  rfl
 ·rfl
theorem W6(C:kw.dp<dp)(hz:aO dp H)(hb:H kw=some (cK p x y d n (mG sp f)))(hf:f.length≤1000000)(L:sp.dp<dp)(hc:H sp=some (aw c))(hS:fY c s=some b):
  ∃ H',run G Ω0 ⟨dp,false⟩ (.dg [] [] [⟨gp 50 (.mv (.t 0)),true,[0],[],false,[],[],[1000000]⟩,⟨gp 51 (.mv (.t 1)),true,[1],[],false,[],[],[1000000]⟩,⟨gp 52 (.mv (.t 0)),true,[0],[],false,[],[],[]⟩,⟨gp 53 (.nc (.t 52)),true,[52],[],false,[],[],[]⟩,⟨gp 54 (.fa 12 (.t 53)),true,[53],[],false,[],[],[]⟩,⟨gp 55 (.ld none (.t 54)),true,[54],[],true,[],[],[]⟩,⟨gp 56 (.ld (some 9) (.t 6)),true,[6],[6],false,[],[],[]⟩,⟨gp 57 (.ch 164 [(.t 55),(.t 56)] [] [] []),false,[],[],false,[],[],[]⟩,⟨gp 58 (.c2 148 [(.t 50),(.t 51),(.c (.i .i64 7)),(.t 57)]),false,[],[],false,[],[],[]⟩] [0,1,6,7,8,9] [0,6,7,8,9]) (zC dp kw a s pl l v H)=some (.nrm,zC dp kw a s pl l v H')∧H' kw=some (cK p x y d n (mG sp (et f a 7 b)))∧aO dp H'∧∀ q,q≠kw→H' q=H q:=by
 have e1:¬kw.dp=dp:=by omega
 have e2:∀ d,¬kw=⟨dp,d⟩:=fun d=>bD C
 have e3:kw.dp≤dp:=by omega
 have e4:¬sp.dp=dp:=by omega
 have e5:sp.dp≤dp:=by omega
 have hA:=Ah (dp+1) (fun k=>if k.dp=dp then sQ s pl l v k.d else H k) sp (by omega) (fun q hq=>by simp only [aa (show ¬q.dp=dp by omega)];exact hz q (by omega)) c s b hS
 rw [show uw (dp+1) (fun k=>if k.dp=dp then sQ s pl l v k.d else H k) sp c s b=(call G Ω0 ⟨dp+1,false⟩ 164 [(.p sp 0),.a (aD s)] (ar (fun k=>if k.dp=dp then sQ s pl l v k.d else H k) sp (aw c))=some (.ret (.b b),ar (fun k=>if k.dp=dp then sQ s pl l v k.d else H k) sp (aw c))) from rfl,EB (show (fun k:Key=>if k.dp=dp then sQ s pl l v k.d else H k) sp=some (aw c) by simp only [aa e4];exact hc)] at hA
 obtain ⟨H',c1,c2,c3,c4⟩:=mH (a:=a) (kind:=7) (bad:=b) (sQ s pl l v) C hz hb hf
 have J:=ik (sQ s pl l v) c3
 have Q:=ik (sQ s pl l v) hz
 refine ⟨H',?_,c2,c3,c4⟩
 apply dM 8
 ·rfl
 ·simp [zC]
 ·simp [zC,e1,e2,e3,e4,e5,hb,nI,Au,Av,vT,uA,jN,St.cF,AV.cL,hA,St.back,bY,Q,sQ]
  rfl
 ·simp [zC,e1,e2,e3,bC,AV.cL,c1,St.back,bY,J,sQ]
  rfl
 ·rfl
theorem Aj(f:List (Int×Int))(a k:Int)(b:Bool):(et f a k b).length≤f.length+1:=by
 unfold et
 split
 ·simp
 ·omega
noncomputable def Aw(p:Program)(c:aK)(V:List Level)(a:Int)(s:Stmt)(pl:Level)(f:List (Int×Int)):Option (List (Int×Int)):=
 (jg p V s.Expr).bind fun l=>(dV s.Var).bind fun j=>(V[j]?).bind fun v=>(fQ pl v).bind fun b5=>(fZ c s).bind fun b6=>(fY c s).bind fun b7=>
 if s.Kind=5 then (oE l.Writers v.Writers).bind fun b8=>(er l pl).bind fun q=>(kE c q).bind fun b9=>some (et (et (et (et (et f a 5 (!b5)) a 6 b6) a 7 b7) a 8 (!b8)) a 9 b9)
 else (oE v.Readers l.Readers).bind fun b8=>some (et (et (et (et f a 5 (!b5)) a 6 b6) a 7 b7) a 8 (!b8))
variable {f':List (Int×Int)}
theorem VF(h0:0<dp)(C:kw.dp<dp)(L:sp.dp<dp)(K:sp≠kw)(hz:aO dp H)(hb:H kw=some (cK p (.l 45 (V.map aI)) y d n (mG sp f)))(hc:H sp=some (aw c))(hf:f.length≤999990)(h:Aw p c V a s pl f=some f'):
  ∃ H',call G Ω0 ⟨dp,false⟩ 150 [.p kw 0,I a,.a (aD s),.a (ax pl)] H=some (.ret (.tp []),H')∧H' kw=some (cK p (.l 45 (V.map aI)) y d n (mG sp f'))∧aO dp H'∧∀ q,q≠kw→H' q=H q:=by
 have e1:¬kw.dp=dp:=by omega
 have e2:∀ d,¬kw=⟨dp,d⟩:=fun d=>bD C
 have e3:kw.dp≤dp:=by omega
 have e4:¬sp.dp=dp:=by omega
 have e5:sp.dp≤dp:=by omega
 unfold Aw at h
 obtain ⟨l,hl,h⟩:=ah.1 h
 obtain ⟨j,hj,h⟩:=ah.1 h
 obtain ⟨v,hv,h⟩:=ah.1 h
 obtain ⟨b5,h5,h⟩:=ah.1 h
 obtain ⟨b6,h6,h⟩:=ah.1 h
 obtain ⟨b7,h7,h⟩:=ah.1 h
 have hj:=iV hj
 have l1:=Aj f a 5 (!b5)
 have l2:=Aj (et f a 5 (!b5)) a 6 b6
 have l3:=Aj (et (et f a 5 (!b5)) a 6 b6) a 7 b7
 obtain ⟨H1,r1,k1,z1,m1⟩:=W3 (a:=a) (s:=s) (l:=l) C hz hb (by omega) h5
 have N:H1 sp=some (aw c):=by rw [m1 _ K];exact hc
 obtain ⟨H2,r2,k2,z2,m2⟩:=W5 (a:=a) (s:=s) (pl:=pl) (l:=l) (v:=v) C z1 k1 (by omega) L N h6
 have ac:H2 sp=some (aw c):=by rw [m2 _ K];exact N
 obtain ⟨H3,r3,k3,z3,m3⟩:=W6 (a:=a) (s:=s) (pl:=pl) (l:=l) (v:=v) C z2 k2 (by omega) L ac h7
 have ao:H3 sp=some (aw c):=by rw [m3 _ K];exact ac
 by_cases hk:s.Kind=5
 ·rw [ab hk] at h
  obtain ⟨b8,h8,h⟩:=ah.1 h
  obtain ⟨q,hq,h⟩:=ah.1 h
  obtain ⟨b9,h9,h⟩:=ah.1 h
  obtain rfl:=af h
  have l4:=Aj (et (et (et f a 5 (!b5)) a 6 b6) a 7 b7) a 8 (!b8)
  have hA:=aZ (E:=⟨dp,false⟩) (tz l.Writers v.Writers b8 h8) (by simp) (by simp)
  have hB:=aZ (E:=⟨dp,false⟩) (jX l pl q hq) (by simp) (by simp)
  obtain ⟨H4,c1,k4,z4,m4⟩:=mH (a:=a) (kind:=8) (bad:=!b8) (fun d=>if 7=d then some (ax pl) else if 8=d then some (ax l) else if 9=d then some (ax v) else none) C z3 k3 (by omega)
  have P:=ik (fun d=>if 7=d then some (ax pl) else if 8=d then some (ax l) else if 9=d then some (ax v) else none) z4
  have am:H4 sp=some (aw c):=by rw [m4 _ K];exact ao
  obtain ⟨HB,Y⟩:∃ HB:HP,HB=(fun k=>if k.dp=dp then (if 7=k.d then some (ax pl) else if 8=k.d then some (ax l) else none) else H4 k):=⟨_,rfl⟩
  have hS:=zy (dp+1) HB sp (by omega) (fun q hq=>by rw [Y];simp only [aa (show ¬q.dp=dp by omega)];exact z4 q (by omega)) c q b9 h9
  rw [show tY (dp+1) HB sp c q b9=(call G Ω0 ⟨dp+1,false⟩ 165 [(.p sp 0),.a (ax q)] (ar HB sp (aw c))=some (.ret (.b b9),ar HB sp (aw c))) from rfl,EB (show HB sp=some (aw c) by rw [Y];simp only [aa e4];exact am),Y] at hS
  obtain ⟨H5,c5,k5,z5,m5⟩:=mH (a:=a) (kind:=9) (bad:=b9) (fun d=>if 7=d then some (ax pl) else if 8=d then some (ax l) else none) C z4 k4 (by omega)
  have T:=ik (fun d=>if 7=d then some (ax pl) else if 8=d then some (ax l) else none) z4
  have W:=ik (fun d=>if 7=d then some (ax pl) else if 8=d then some (ax l) else none) z5
  refine ⟨H5,?_,k5,z5,fun q hq=>(m5 q hq).trans ((m4 q hq).trans ((m3 q hq).trans ((m2 q hq).trans (m1 q hq))))⟩
  apply dS aev
  ·refine P0 h0 C hz hb hl hj hv ?_
   apply aj r1
   apply aj r2
   apply aj r3
   apply xp
   apply aj (by simp [zC,e1,e2,e3,hk];rfl)
   apply bT (by simp)
   apply aj (by simp [-aF,e1,e2,e3,hA,bC,AV.cL,c1,St.back,bY,P];rfl)
   apply aj
   ·apply dM 10
    ·rfl
    ·simp
    ·simp [-aF,e1,e2,e3,e4,e5,k4,hB,nI,Au,Av,vT,uA,jN,St.cF,AV.cL,hS,St.back,bY,T]
     rfl
    ·simp [e1,e2,e3,bC,AV.cL,c5,St.back,bY,W]
     rfl
    ·rfl
   exact cQ _ _
  ·rfl
  ·rfl
 ·rw [aa hk] at h
  obtain ⟨b8,h8,h⟩:=ah.1 h
  obtain rfl:=af h
  have hA:=aZ (E:=⟨dp,false⟩) (tz v.Readers l.Readers b8 h8) (by simp) (by simp)
  obtain ⟨H4,c1,k4,z4,m4⟩:=mH (a:=a) (kind:=8) (bad:=!b8) (fun d=>if 8=d then some (ax l) else if 9=d then some (ax v) else none) C z3 k3 (by omega)
  have P:=ik (fun d=>if 8=d then some (ax l) else if 9=d then some (ax v) else none) z4
  refine ⟨H4,?_,k4,z4,fun q hq=>(m4 q hq).trans ((m3 q hq).trans ((m2 q hq).trans (m1 q hq)))⟩
  apply m9 aev
  ·refine P0 h0 C hz hb hl hj hv ?_
   apply aj r1
   apply aj r2
   apply aj r3
   apply aj
   ·apply aj (by simp [zC,e1,e2,e3,hk];rfl)
    apply ba (by simpa using hk)
    exact bh _ _
   apply di
   simp [-aF,Ul,e1,e2,e3,hA,bC,AV.cL,c1,St.back,bY,P]
   rfl
  ·rfl
  ·rfl
abbrev tZ(s:Stmt)(pl:Level):Nat→Option (List AV):=fun d=>if 6=d then some (aD s) else if 7=d then some (ax pl) else none
theorem EE(C:kw.dp<dp)(hz:aO dp H)(hb:H kw=some (cK p (.l 45 (V.map aI)) y d n tl))(hA:s.Args.length≤1000)(h:wE p V s pl=some r):
  call G Ω0 ⟨dp+1,false⟩ 149 [.p kw 0,.a (aD s),.a (ax pl)] (fun k=>if k.dp=dp then tZ s pl k.d else H k)=some (.ret (.b r),fun k=>if k.dp=dp then tZ s pl k.d else H k):=
 VE (dp:=dp+1) (by omega) (fun q hq=>by simp only [aa (show ¬q.dp=dp by omega)];exact hz q (by omega)) (by simp only [aa (show ¬kw.dp=dp by omega)];exact hb) hA h
theorem agc(C:kw.dp<dp)(hz:aO dp H)(hb:H kw=some (cK p (.l 45 (V.map aI)) y d n (mG sp f)))(hf:f.length≤999990)(hA:s.Args.length≤1000)(h:wE p V s pl=some b)(hk:s.Kind=1):
  ∃ H',call G Ω0 ⟨dp,false⟩ 123 [.p kw 0,I a,.a (aD s),.a (ax pl)] H=some (.ret (.tp []),H')∧H' kw=some (cK p (.l 45 (V.map aI)) y d n (mG sp (et f a 1 (!b))))∧aO dp H'∧∀ q,q≠kw→H' q=H q:=by
 have e1:¬kw.dp=dp:=by omega
 have e2:∀ d,¬kw=⟨dp,d⟩:=fun d=>bD C
 have e3:kw.dp≤dp:=by omega
 have hF:=EE C hz hb hA h
 have J:=ik (tZ s pl) hz
 obtain ⟨H1,c1,k1,z1,m1⟩:=mH (a:=a) (kind:=1) (bad:=!b) (tZ s pl) C hz hb (by omega)
 have D:=ik (tZ s pl) z1
 refine ⟨H1,?_,k1,z1,m1⟩
 apply m9 Ij
 ·apply aj (by simp [e2,e3];rfl)
  apply aj (by simp [hk];rfl)
  apply dI
  apply aj (by simp [hk];rfl)
  apply bT (by simp)
  simp [e1,e2,e3,bC,AV.cL,hF,c1,St.back,bY,J,D,tZ]
  rfl
 ·rfl
 ·rfl
theorem agd(C:kw.dp<dp)(hz:aO dp H)(hb:H kw=some (cK p (.l 45 (V.map aI)) y d n (mG sp f)))(hf:f.length≤999990)(hA:s.Args.length≤1000)(h:wE p V s pl=some b)(hk:s.Kind=2):
  ∃ H',call G Ω0 ⟨dp,false⟩ 123 [.p kw 0,I a,.a (aD s),.a (ax pl)] H=some (.ret (.tp []),H')∧H' kw=some (cK p (.l 45 (V.map aI)) y d n (mG sp (et f a 2 (!b))))∧aO dp H'∧∀ q,q≠kw→H' q=H q:=by
 have e1:¬kw.dp=dp:=by omega
 have e2:∀ d,¬kw=⟨dp,d⟩:=fun d=>bD C
 have e3:kw.dp≤dp:=by omega
 have hF:=EE C hz hb hA h
 have J:=ik (tZ s pl) hz
 obtain ⟨H1,c1,k1,z1,m1⟩:=mH (a:=a) (kind:=2) (bad:=!b) (tZ s pl) C hz hb (by omega)
 have D:=ik (tZ s pl) z1
 refine ⟨H1,?_,k1,z1,m1⟩
 apply m9 Ij
 ·apply aj (by simp [e2,e3];rfl)
  apply aj (by simp [hk];rfl)
  apply dI
  apply aj (by simp [hk];rfl)
  apply ba (by simp)
  apply aj (by simp [hk];rfl)
  apply bT (by simp)
  simp [e1,e2,e3,bC,AV.cL,hF,c1,St.back,bY,J,D,tZ]
  rfl
 ·rfl
 ·rfl
theorem Q2(C:kw.dp<dp)(L:sp.dp<dp)(K:sp≠kw)(hz:aO dp H)(hb:H kw=some (cK p (.l 45 (V.map aI)) y d n (mG sp f)))(hc:H sp=some (aw c))(hf:f.length≤999990)(h:Aw p c V a s pl f=some f'):
  ∃ H',call G Ω0 ⟨dp+1,false⟩ 150 [.p kw 0,I a,.a (aD s),.a (ax pl)] (fun k=>if k.dp=dp then tZ s pl k.d else H k)=some (.ret (.tp []),fun k=>if k.dp=dp then tZ s pl k.d else H' k)∧H' kw=some (cK p (.l 45 (V.map aI)) y d n (mG sp f'))∧aO dp H'∧∀ q,q≠kw→H' q=H q:=by
 have e1:¬kw.dp=dp:=by omega
 have e4:¬sp.dp=dp:=by omega
 obtain ⟨Hc,c1,c2,c3,c4⟩:=VF (dp:=dp+1) (a:=a) (H:=fun k=>if k.dp=dp then tZ s pl k.d else H k) (by omega) (by omega) (by omega) K (fun q hq=>by simp only [aa (show ¬q.dp=dp by omega)];exact hz q (by omega)) (by simp only [aa e1];exact hb) (by simp only [aa e4];exact hc) hf h
 refine ⟨fun k=>if k.dp<dp then Hc k else none,?_,by simp only [ab C];exact c2,fun q hq=>by simp only [aa hq],fun q hq=>?_⟩
 ·rw [c1]
  congr 1
  congr 1
  funext q
  by_cases h1:q.dp=dp
  ·rw [ab h1,c4 q (fun e=>e1 (by rw [←e];exact h1))]
   simp only [ab h1]
  ·rw [aa h1]
   show Hc q=if q.dp<dp then Hc q else none
   by_cases h2:q.dp<dp
   ·rw [ab h2]
   ·rw [aa h2]
    by_cases h3:q.dp<dp+1
    ·omega
    ·exact c3 q h3
 ·by_cases h2:q.dp<dp
  ·simp only [ab h2]
   rw [c4 q hq]
   simp only [aa (show ¬q.dp=dp by omega)]
  ·simp only [aa h2]
   exact (hz q h2).symm
theorem ZY(C:kw.dp<dp)(L:sp.dp<dp)(K:sp≠kw)(hz:aO dp H)(hb:H kw=some (cK p (.l 45 (V.map aI)) y d n (mG sp f)))(hc:H sp=some (aw c))(hf:f.length≤999990)(h:Aw p c V a s pl f=some f')(hk:s.Kind=5∨s.Kind=6):
  ∃ H',call G Ω0 ⟨dp,false⟩ 123 [.p kw 0,I a,.a (aD s),.a (ax pl)] H=some (.ret (.tp []),H')∧H' kw=some (cK p (.l 45 (V.map aI)) y d n (mG sp f'))∧aO dp H'∧∀ q,q≠kw→H' q=H q:=by
 have e1:¬kw.dp=dp:=by omega
 have e2:∀ d,¬kw=⟨dp,d⟩:=fun d=>bD C
 have e3:kw.dp≤dp:=by omega
 obtain ⟨H1,c1,k1,z1,m1⟩:=Q2 (a:=a) C L K hz hb hc hf h
 have D:=ik (tZ s pl) z1
 refine ⟨H1,?_,k1,z1,m1⟩
 rcases hk with hk | hk
 all_goals
  apply m9 Ij
  ·apply aj (by simp [e2,e3];rfl)
   apply aj (by simp [hk];rfl)
   apply dI
   apply aj (by simp;rfl)
   apply ba (by simp)
   apply aj (by simp;rfl)
   apply ba (by simp)
   apply aj (by simp;rfl)
   apply ba (by simp)
   apply aj (by simp;rfl)
   apply ba (by simp)
   apply aj (by simp;rfl)
   apply di
   apply bT (by simp)
   simp [e1,e2,e3,bC,AV.cL,c1,St.back,bY,D,tZ]
   rfl
  ·rfl
  ·rfl
noncomputable def P1(p:Program)(V:List Level)(s:Stmt)(pl:Level):Option Bool:=(wE p V s pl).bind fun b=>if b=true then (dV s.Other).bind fun j=>(p.Ins[j]?).bind fun g=>(mg p.ak g).bind fun o=>(fQ pl o).map fun u=>!u else some true
theorem age(C:kw.dp<dp)(hz:aO dp H)(hb:H kw=some (cK p (.l 45 (V.map aI)) y d n (mG sp f)))(hf:f.length≤999990)(hA:s.Args.length≤1000)(h:P1 p V s pl=some r)(hk:s.Kind=3):
  ∃ H',call G Ω0 ⟨dp,false⟩ 123 [.p kw 0,I a,.a (aD s),.a (ax pl)] H=some (.ret (.tp []),H')∧H' kw=some (cK p (.l 45 (V.map aI)) y d n (mG sp (et f a 3 r)))∧aO dp H'∧∀ q,q≠kw→H' q=H q:=by
 have e1:¬kw.dp=dp:=by omega
 have e2:∀ d,¬kw=⟨dp,d⟩:=fun d=>bD C
 have e3:kw.dp≤dp:=by omega
 obtain ⟨b,ag,h⟩:=ah.1 h
 have hF:=EE C hz hb hA ag
 have J:=ik (tZ s pl) hz
 obtain ⟨H1,c1,k1,z1,m1⟩:=mH (a:=a) (kind:=3) (bad:=r) (tZ s pl) C hz hb (by omega)
 have D:=ik (tZ s pl) z1
 refine ⟨H1,?_,k1,z1,m1⟩
 cases b with
 | false=>
  rw [aa (by simp)] at h
  obtain rfl:=af h
  apply m9 Ij
  ·apply aj (by simp [e2,e3];rfl)
   apply aj (by simp [hk];rfl)
   apply dI
   apply aj (by simp;rfl)
   apply ba (by simp)
   apply aj (by simp;rfl)
   apply ba (by simp)
   apply aj (by simp;rfl)
   apply bT (by simp)
   apply dM 8
   ·rfl
   ·simp
   ·simp [e1,e2,e3,hb,nI,Au,Av,vT,uA,jN,St.cF,AV.cL,hF,St.back,bY,J,tZ]
    rfl
   ·apply iQ 10
    ·simp
     rfl
    ·apply iQ 10
     ·simp
      rfl
     ·simp [e1,e2,e3,bC,AV.cL,c1,St.back,bY,D,tZ]
      rfl
   ·rfl
  ·rfl
  ·rfl
 | true=>
  rw [ab rfl] at h
  obtain ⟨j,hj,h⟩:=ah.1 h
  obtain ⟨g,hg,h⟩:=ah.1 h
  obtain ⟨o,ho,h⟩:=ah.1 h
  obtain ⟨u,hu,rfl⟩:=db.1 h
  have hj:=iV hj
  have hO:=aZ (E:=⟨dp,false⟩) (uH p.ak g o ho) (by simp) (by simp)
  have hU:=aZ (E:=⟨dp,false⟩) (nh pl o u hu) (by simp) (by simp)
  apply m9 Ij
  ·apply aj (by simp [e2,e3];rfl)
   apply aj (by simp [hk];rfl)
   apply dI
   apply aj (by simp;rfl)
   apply ba (by simp)
   apply aj (by simp;rfl)
   apply ba (by simp)
   apply aj (by simp;rfl)
   apply bT (by simp)
   apply dM 8
   ·rfl
   ·simp
   ·simp [e1,e2,e3,hb,nI,Au,Av,vT,uA,jN,St.cF,AV.cL,hF,St.back,bY,J,tZ]
    rfl
   ·apply iQ 10
    ·simp [e1,e2,e3,hb]
     rfl
    ·apply iQ 9
     ·simp [-aF,e1,e2,e3,hb,hj,hg,aH,hO,hU]
      rfl
     ·simp [-aF,e1,e2,e3,hU,bC,AV.cL,c1,St.back,bY,D,tZ]
      rfl
   ·rfl
  ·rfl
  ·rfl
noncomputable def P3(p:Program)(V:List Level)(s:Stmt)(pl:Level):Option Bool:=(jg p V s.Expr).bind fun l=>(er pl l).bind fun q=>(dV s.Other).bind fun j=>(p.Outs[j]?).bind fun g=>(mg p.ak g).bind fun o=>(fQ q o).map fun u=>!u
theorem agf(h0:0<dp)(C:kw.dp<dp)(hz:aO dp H)(hb:H kw=some (cK p (.l 45 (V.map aI)) y d n (mG sp f)))(hf:f.length≤999990)(h:P3 p V s pl=some r)(hk:s.Kind=4):
  ∃ H',call G Ω0 ⟨dp,false⟩ 123 [.p kw 0,I a,.a (aD s),.a (ax pl)] H=some (.ret (.tp []),H')∧H' kw=some (cK p (.l 45 (V.map aI)) y d n (mG sp (et f a 4 r)))∧aO dp H'∧∀ q,q≠kw→H' q=H q:=by
 have e1:¬kw.dp=dp:=by omega
 have e2:∀ d,¬kw=⟨dp,d⟩:=fun d=>bD C
 have e3:kw.dp≤dp:=by omega
 obtain ⟨l,hl,h⟩:=ah.1 h
 obtain ⟨q,hq,h⟩:=ah.1 h
 obtain ⟨j,hj,h⟩:=ah.1 h
 obtain ⟨g,hg,h⟩:=ah.1 h
 obtain ⟨o,ho,h⟩:=ah.1 h
 obtain ⟨u,hu,rfl⟩:=db.1 h
 have hj:=iV hj
 have hL:∀ st:St,aF (call G Ω0) Ω0 ⟨dp,false⟩ st 0 46 [.a (av p),.l 45 (V.map aI),.a (ny s.Expr)]=some (.a (ax l),st):=fun st=>Eo (E:=⟨dp,false⟩) (by show dp≠0;omega) (.l _ _) hl
 have hB:=aZ (E:=⟨dp,false⟩) (jX pl l q hq) (by simp) (by simp)
 have hO:=aZ (E:=⟨dp,false⟩) (uH p.ak g o ho) (by simp) (by simp)
 have hU:=aZ (E:=⟨dp,false⟩) (nh q o u hu) (by simp) (by simp)
 obtain ⟨H1,c1,k1,z1,m1⟩:=mH (a:=a) (kind:=4) (bad:=!u) (fun d=>if 6=d then some (aD s) else if 8=d then some (ax q) else none) C hz hb (by omega)
 have D:=ik (fun d=>if 6=d then some (aD s) else if 8=d then some (ax q) else none) z1
 refine ⟨H1,?_,k1,z1,m1⟩
 apply m9 Ij
 ·apply aj (by simp [e2,e3];rfl)
  apply aj (by simp [hk];rfl)
  apply dI
  apply aj (by simp;rfl)
  apply ba (by simp)
  apply aj (by simp;rfl)
  apply ba (by simp)
  apply aj (by simp;rfl)
  apply ba (by simp)
  apply aj (by simp;rfl)
  apply bT (by simp)
  refine aj (st1:=⟨[(0,.p kw 0),(1,I a),(6,.p ⟨dp,6⟩ 0),(8,.p ⟨dp,8⟩ 0)],[(6,aD s),(8,ax q)],H⟩) ?_ ?_
  ·apply dM 8
   ·rfl
   ·simp [e2]
   ·simp [e1,e2,e3,hb]
    rfl
   ·apply iQ 8
    ·simp [-aF,e1,e2,e3,hb,hL,hB]
     rfl
    ·simp [e1,e2,e3]
     rfl
   ·rfl
  ·apply dM 10
   ·rfl
   ·simp
   ·simp [e1,e2,e3,hb]
    rfl
   ·apply iQ 8
    ·simp [e1,e2,e3,hb,hj,hg,aH]
     rfl
    ·simp [-aF,e1,e2,e3,hg,aH,hO,hU,bC,AV.cL,c1,St.back,bY,D]
     rfl
   ·rfl
 ·rfl
 ·rfl
variable [Lp]
attribute [local simp] gp execOp okB gv df fT pJ iZ ir ft St.end_ St.fU iU List.filter
theorem agh(C:kw.dp<dp)(hz:aO dp H)(hb:H kw=some (cK p (.l 45 (V.map aI)) y d n (mG sp f)))(h1:s.Kind≠1)(h2:s.Kind≠2)(h3:s.Kind≠3)(h4:s.Kind≠4)(h5:s.Kind≠5)(h6:s.Kind≠6):
  call G Ω0 ⟨dp,false⟩ 123 [.p kw 0,I a,.a (aD s),.a (ax pl)] H=some (.ret (.tp []),H):=by
 have e1:¬kw.dp=dp:=by omega
 have e2:∀ d,¬kw=⟨dp,d⟩:=fun d=>bD C
 have e3:kw.dp≤dp:=by omega
 apply m9 Ij
 ·apply aj (by simp [e2,e3];rfl)
  apply aj (by simp;rfl)
  apply dI
  apply aj (by simp;rfl)
  apply ba (by simpa using h1)
  apply aj (by simp;rfl)
  apply ba (by simpa using h2)
  apply aj (by simp;rfl)
  apply ba (by simpa using h3)
  apply aj (by simp;rfl)
  apply ba (by simpa using h4)
  apply aj (by simp [h5];rfl)
  apply di
  apply ba (by simpa using h6)
  exact bh _ _
 ·rfl
 ·rfl
noncomputable def Ak(p:Program)(c:aK)(V:List Level)(a:Nat)(s:Stmt)(pl:Level)(f:List (Int×Int)):Option (List (Int×Int)):=
 if f.length≤999990 then
  if s.Kind=1 then (wE p V s pl).map fun b=>et f a 1 (!b)
  else if s.Kind=2 then (wE p V s pl).map fun b=>et f a 2 (!b)
  else if s.Kind=3 then (P1 p V s pl).map fun r=>et f a 3 r
  else if s.Kind=4 then (P3 p V s pl).map fun r=>et f a 4 r
  else if s.Kind=5∨s.Kind=6 then Aw p c V a s pl f
  else some f
 else none
theorem W7{a:Nat}(h0:0<dp)(C:kw.dp<dp)(L:sp.dp<dp)(K:sp≠kw)(hz:aO dp H)(hb:H kw=some (cK p (.l 45 (V.map aI)) y d n (mG sp f)))(hc:H sp=some (aw c))(hA:s.Args.length≤1000)(h:Ak p c V a s pl f=some f'):
  ∃ H',call G Ω0 ⟨dp,false⟩ 123 [.p kw 0,I a,.a (aD s),.a (ax pl)] H=some (.ret (.tp []),H')∧H' kw=some (cK p (.l 45 (V.map aI)) y d n (mG sp f'))∧aO dp H'∧∀ q,q≠kw→H' q=H q:=by
 unfold Ak at h
 split at h
 ·rename_i hf
  by_cases h1:s.Kind=1
  ·rw [ab h1] at h
   obtain ⟨b,M,rfl⟩:=db.1 h
   exact agc C hz hb hf hA M h1
  rw [aa h1] at h
  by_cases h2:s.Kind=2
  ·rw [ab h2] at h
   obtain ⟨b,M,rfl⟩:=db.1 h
   exact agd C hz hb hf hA M h2
  rw [aa h2] at h
  by_cases h3:s.Kind=3
  ·rw [ab h3] at h
   obtain ⟨b,M,rfl⟩:=db.1 h
   exact age C hz hb hf hA M h3
  rw [aa h3] at h
  by_cases h4:s.Kind=4
  ·rw [ab h4] at h
   obtain ⟨b,M,rfl⟩:=db.1 h
   exact agf h0 C hz hb hf M h4
  rw [aa h4] at h
  by_cases U:s.Kind=5∨s.Kind=6
  ·rw [ab U] at h
   exact ZY C L K hz hb hc hf h U
  rw [aa U] at h
  obtain rfl:=af h
  exact ⟨H,agh C hz hb h1 h2 h3 h4 (fun e=>U (.inl e)) (fun e=>U (.inr e)),hb,hz,fun _ _=>rfl⟩
 ·cases h
abbrev kJ:Key:=⟨0,11⟩
abbrev M4:Key:=⟨0,9⟩
abbrev I4:FuncId:=1000000+123
abbrev xL(V:List Level):AV:=.l 45 (V.map aI)
structure agi(p:Program)(c:aK)(V F:List Level)(a:Nat)(f:List (Int×Int))(H:HP):Prop where
 w:H kJ=some (cK p (xL V) (xL F) (.f I4 [.p kJ 0]) (a:Nat) (mG M4 f))
 s:H M4=some (aw c)
theorem ZZ(p:Program)(c:aK)(V F:List Level):wA p (fun _=>V) (fun _=>F) (Ak p c V) kJ (xL V) (xL F) I4 [.p kJ 0] (agi p c V F) where
 kw0:=rfl
 jl:=rfl
 copy:=rfl
 copy':=rfl
 box r:=⟨_,r.w⟩
 vx _:=.l _ _
 fy _:=.l _ _
 ext r h:=⟨(h kJ rfl).trans r.w,(h M4 rfl).trans r.s⟩
 bump r h hb aq:=by
  rw [r.w] at hb
  have hb:=af hb
  have ht:=an (List.drop 12) hb
  refine ⟨?_,(h M4 (by decide) rfl).trans r.s⟩
  rw [aq]
  exact an (fun t=>some (cK p (xL V) (xL F) (.f I4 [.p kJ 0]) _ t)) ht.symm
 call {a st pl s s' dp H} hs hA h0 hz r:=by
  obtain ⟨H',c1,c2,c3,c4⟩:=W7 (kw:=kJ) (sp:=M4) h0 h0 h0 (by decide) hz r.w r.s hA hs
  refine ⟨H',?_,⟨c2,(c4 M4 (by decide)).trans r.s⟩,fun q hq=>c4 q (fun e=>hq (by rw [e]))⟩
  have h1:RN I4=123:=rfl
  have h2:∀ args:List AV,Hb I4 [.p kJ 0] args= .p kJ 0::args:=fun args=>rfl
  rw [h1,h2]
  exact c1
noncomputable def uy(p:Program):Option (List dw):=
 (mA p).bind fun m=>(yf p).bind fun c=>(A5 p (fun _=>m.Vars) (fun _=>m.Funcs) (Ak p c m.Vars) []).map fun r=>r.2.map fun x=>⟨x.1,x.2⟩
abbrev Q3(a0:Program)(r:List dw):Prop:=call G Ω0 E0 75 [.a (av a0)] H0=some (.ret (.l 133 (r.map jc)),H0)
theorem L9(a0:Program)(r:List dw)(h:uy a0=some r):Q3 a0 r:=by
 obtain ⟨m,hm,h⟩:=ah.1 h
 obtain ⟨c,hc,h⟩:=ah.1 h
 obtain ⟨⟨a',f⟩,hg,rfl⟩:=db.1 h
 have hR:=aZ (E:=⟨0,false⟩) (LP a0 m hm) (by simp) (by simp [AV.pure,AV.aX])
 have hN:call G Ω0 ⟨1,false⟩ 122 [.a (av a0)] (fun _=>none)=some (.new (aw c),fun _=>none):=L8 1 (fun _=>none) (fun _ _=>rfl) a0 c hc
 obtain ⟨H1,R⟩:∃ H1:HP,H1=(fun k=>if k.dp=0 then (if 9=k.d then some (aw c) else if 11=k.d then some (cK a0 (xL m.Vars) (xL m.Funcs) (.f I4 [.p kJ 0]) ((0:Nat):Int) (mG M4 [])) else none) else H0 k):=⟨_,rfl⟩
 have r0:agi a0 c m.Vars m.Funcs 0 [] H1:=by subst R;exact ⟨rfl,rfl⟩
 have l0:aO 1 H1:=fun q hq=>by subst R;simp only [aa (show ¬q.dp=0 by omega)]
 obtain ⟨H',c1,r1,c3,c4⟩:=DA (ZZ a0 c m.Vars m.Funcs) (dp:=1) (by decide) l0 r0 hg
 have w1:=r1.w
 have s1:=r1.s
 rw [R] at c1
 simp [cK,mG,xL,kJ,M4,I4] at c1 w1 s1
 show call G Ω0 E0 75 _ _=_
 apply dS G75
 ·apply aj (by simp;rfl)
  apply aj
  ·apply dM 5
   ·rfl
   ·simp
   ·simp [-aF,hR]
    rfl
   ·simp [Am,hN,sW]
    rfl
   ·rfl
  apply aj (by simp;rfl)
  apply aj
  ·simp [bC,AV.cL,c1,St.back,bY,w1,s1]
   rfl
  apply aj (by simp;rfl)
  exact cQ _ _
 ·simp [c75]
  exact fun _ _ _=>rfl
 ·rfl
end Go.Proofs.YtkkkkondjclcnaaGreat.A
