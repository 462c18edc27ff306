/- judge.Raw as a plain function: what is told of each command. -/
import Derived.Test.YtkkkkondjclcnaaGreatFlowF
import Derived.Test.YtkkkkondjclcnaaGreatFJ
import Derived.Test.YtkkkkondjclcnaaGreatSpeakF
set_option maxRecDepth 100000
set_option linter.unusedSectionVars false
set_option linter.unusedVariables false
set_option linter.unusedSimpArgs false
set_option linter.constructorNameAsVariable false
namespace Go.Proofs.YtkkkkondjclcnaaGreat.A
open Go
variable [Lp]
attribute [local simp] gp execOp okB k7 cY iS tE jr jc fM St.end_ St.ir ie List.filter
theorem rD{dp:Nat}{st:St}{k:Key} : fh dp st [] [] [] k=false:=by simp [fh]
theorem ve{dp:Nat}{st:St} : xg dp st [] [] []=fun k=>st.box dp k:=by
 funext k;simp [xg,rD]
theorem vf{dp:Nat}{st:St}{hp:HP} : cA dp st [] [] [] hp=hp:=by
 funext k;simp [cA,rD]
theorem FG{H:HP}{k:Key}{a b:List AV} : ab (ab H k a) k b=ab H k b:=by
 funext q;simp only [ab];split<;>rfl
def eFt(x:Int×Int):AV:=.a [I x.1,I x.2]
abbrev jM(sp:Key)(f:List (Int×Int)):List AV:=[.p sp 0,.o 133 (f.map eFt)]
set_option maxHeartbeats 8000000 in
theorem Np{dp:Nat}{a kind n:Int}{bad:Bool}{kw sp:Key}{H:HP}{f:List (Int×Int)}{p:Program}{x y d:AV}(hw:kw.dp<dp)(hz:ax dp H)(hb:H kw=some (bA p x y d n (jM sp f)))(hf:f.length≤1000000) :
  call G Ω0 ⟨dp,false⟩ 148 [.p kw 0,I a,I kind,.b bad] H=some (.ret (.tp []),if bad=true then ab H kw (bA p x y d n (jM sp (f++[(a,kind)]))) else H):=by
 have e1:¬kw.dp=dp:=by omega
 have e2:∀ d,¬kw=⟨dp,d⟩:=fun d=>aP hw
 have hm:f.length+1≤maxLen:=Nat.le_trans (show f.length+1≤1000001 by omega) (by decide)
 have hb2:(f.length+1)*16≤140737488355328:=by omega
 cases bad with
 | true=>
  apply mz UE
  ·apply ae (by simp;rfl)
   apply dE (by simp)
   simp [e1,e2,hb,hm,hb2,cD]
   rfl
  ·rfl
  ·simp only [FG,jM,List.map_append,if_true];rfl
 | false=>
  apply mz UE
  ·apply ae (by simp;rfl)
   apply bS (by simp)
   exact bU _ _
  ·rfl
  ·simp [eFt,FG]
noncomputable def yj(V:List Level)(f:cb):Option Bool:=if f.Func=true then some false else (dG f.To).bind fun j=>(V[j]?).bind fun l=>(df f.Level l).map fun b=>!b
set_option maxHeartbeats 8000000 in
theorem PI{dp:Nat}{ro:Bool}{n:Int}{kc kw:Key}{H:HP}{p:Program}{y d:AV}{tl:List AV}{V:List Level}(hkc:kc.dp<dp)(hkw:kw.dp<dp)(hc:H kc=some [.p kw 0])(hb:H kw=some (bA p (.l 45 (V.map aE)) y d n tl)){f:cb}{r:Bool}(h:yj V f=some r) :
  call G Ω0 ⟨dp,ro⟩ 162 [cp f,.p kc 0] H=some (.ret (.b r),H):=by
 have e1:¬kc.dp=dp:=by omega
 have e2:¬kw.dp=dp:=by omega
 have e3:∀ d,¬kc=⟨dp,d⟩:=fun d=>aP hkc
 have e4:∀ d,¬kw=⟨dp,d⟩:=fun d=>aP hkw
 unfold yj at h
 cases hf:f.Func with
 | true=>
  rw [if_pos hf] at h
  obtain rfl:=Option.some.inj h
  apply gU UG
  ·apply ae (by simp [cp,e3];rfl)
   apply ae
   ·apply kv 10
    ·rfl
    ·simp
    ·simp [hf,e1,e2,e3,e4]
     rfl
    ·simp
     rfl
    ·rfl
   exact db _ _
  ·rfl
  ·rfl
 | false=>
  rw [if_neg (by simp [hf])] at h
  obtain ⟨j,hj,h⟩:=Option.bind_eq_some_iff.1 h
  obtain ⟨l,hl,h⟩:=Option.bind_eq_some_iff.1 h
  obtain ⟨b,hb1,rfl⟩:=Option.map_eq_some_iff.1 h
  have hj:=jQ hj
  have hA:=cR (E:=⟨dp,ro⟩) (il f.Level l b hb1) (by simp) (by simp)
  apply gU UG
  ·apply ae (by simp [cp,e3];rfl)
   apply ae
   ·apply kv 10
    ·rfl
    ·simp
    ·simp [hf,hc,hb,e1,e2,e3,e4]
     rfl
    ·simp [-bk,hf,hc,hb,hj,hl,aE,hA,e1,e2,e3,e4]
     rfl
    ·rfl
   exact db _ _
  ·rfl
  ·rfl
noncomputable def yX(V:List Level):List cb→Option Bool
 | []=>some false
 | f::r=>(yj V f).bind fun b=>if b=true then some true else yX V r
def yk(fs:List cb)(kc:Key)(k:Nat)(H:HP):St:=⟨[(0,.l 96 (fs.map cp)),(1,.f 162 [.p kc 0]),(7,I fs.length),(8,I k)],[],H⟩
set_option maxHeartbeats 8000000 in
theorem FH{dp:Nat}{n:Int}{kc kw:Key}{H:HP}{p:Program}{y d:AV}{tl:List AV}{V:List Level}(hkc:kc.dp<dp)(hkw:kw.dp<dp)(hz:ax dp H)(hc:H kc=some [.p kw 0])(hb:H kw=some (bA p (.l 45 (V.map aE)) y d n tl))(fs:List cb)(hl:fs.length≤2000) :
  ∀ (rest:List cb)(k:Nat)(b:Bool),fs.drop k=rest→yX V rest=some b→
   if b=true then ∃ j:Nat,ju G Ω0 ⟨dp,false⟩ zS (yk fs kc k H)=some (.ret,⟨[(4,I j)],[],H⟩)
   else ∃ fr,ju G Ω0 ⟨dp,false⟩ zS (yk fs kc k H)=some (.ex 0,⟨fr,[],H⟩)
 | [],k,b,hd,h=>by
  have hk:¬((k:Int)<(fs.length:Int)):=by
   have:=List.drop_eq_nil_iff.1 hd;omega
  obtain rfl:=Option.some.inj h
  rw [if_neg (by simp)]
  refine ⟨_,ig (r:=(.ex 0,⟨?_,[],H⟩)) ?_ (by simp)⟩
  rotate_left
  ·show run G Ω0 _ zR (yk fs kc k H)=_
   apply ae (by simp [yk,hk];rfl)
   apply rq
   apply bS (by simp [hk])
   exact iC _ _ _
 | f::rest,k,b,hd,h=>by
  obtain ⟨r,hr,h⟩:=Option.bind_eq_some_iff.1 h
  have hlt:k<fs.length:=by
   have h1:=congrArg List.length hd
   simp only [List.length_drop,List.length_cons] at h1
   omega
  have hg:fs[k]? =some f:=by
   have:=congrArg (fun l=>l[0]?) hd
   simpa using this
  have hd2:fs.drop (k+1)=rest:=by
   have:=congrArg List.tail hd
   simpa using this
  have hwr:=qA k (by omega)
  have hk:((k:Int)<(fs.length:Int)):=by omega
  have h1:(fun k:Key=>if k.dp=dp then none else H k)=H:=by
   funext q
   split
   ·rename_i e;exact (hz q (by omega)).symm
   ·rfl
  have h2:(fun k:Key=>if k.dp<dp then H k else none)=H:=by
   funext q
   split
   ·rfl
   ·rename_i e;exact (hz q e).symm
  have hc1:=PI (dp:=dp+1) (ro:=false) (by omega) (by omega) hc hb hr
  unfold cp at hc1
  cases r with
  | true=>
   rw [if_pos rfl] at h
   obtain rfl:=Option.some.inj h
   rw [if_pos rfl]
   refine ⟨k,ig (r:=(.ret,_)) ?_ (by simp)⟩
   show run G Ω0 _ zR (yk fs kc k H)=_
   apply ae (by simp [yk,hk];rfl)
   apply ae
   ·apply dE (by simp [hk])
    exact bU _ _
   apply fG
   apply yP
   apply Ck
   apply ae (by simp;rfl)
   apply ae (by simp [hg,cp,bj,AV.cj,h1,hc1,St.back,bC,h2];rfl)
   apply dE (by simp)
   apply ae (by simp;rfl)
   exact db _ _
  | false=>
   rw [if_neg (by simp)] at h
   have ih:=FH hkc hkw hz hc hb fs hl rest (k+1) b hd2 h
   have hr:run G Ω0 ⟨dp,false⟩ zR (yk fs kc k H)=some (.nrm,yk fs kc (k+1) H):=by
    apply ae (by simp [yk,hk];rfl)
    apply ae
    ·apply dE (by simp [hk])
     exact bU _ _
    apply fG
    apply ae
    ·apply ku
     apply ae (by simp;rfl)
     apply ae (by simp [hg,cp,bj,AV.cj,h1,hc1,St.back,bC,h2];rfl)
     apply bS (by simp)
     exact bU _ _
    simp [yk,hwr]
   have hs:ju G Ω0 ⟨dp,false⟩ zS (yk fs kc k H)=ju G Ω0 ⟨dp,false⟩ zS (yk fs kc (k+1) H):=by
    apply iE
    show (run G Ω0 _ zR (yk fs kc k H)).bind _=_
    rw [hr];rfl
   rw [hs]
   exact ih
theorem PJ{dp:Nat}{n:Int}{kc kw:Key}{H:HP}{p:Program}{y d:AV}{tl:List AV}{V:List Level}(hkc:kc.dp<dp)(hkw:kw.dp<dp)(hz:ax dp H)(hc:H kc=some [.p kw 0])(hb:H kw=some (bA p (.l 45 (V.map aE)) y d n tl)){fs:List cb}(hl:fs.length≤2000){b:Bool}(h:yX V fs=some b) :
  ∃ i:Int,call G Ω0 ⟨dp,false⟩ 170 [.l 96 (fs.map cp),.f 162 [.p kc 0]] H=some (.ret (I i),H)∧decide (0≤i)=b:=by
 have ih:=FH hkc hkw hz hc hb fs hl fs 0 b rfl h
 cases b with
 | true=>
  rw [if_pos rfl] at ih
  obtain ⟨j,hj⟩:=ih
  refine ⟨j,?_,by simp⟩
  apply gU UH
  ·apply ae (by simp;rfl)
   apply yP
   apply ae (by simp;rfl)
   apply Ck
   rw [ey]
   exact hj
  ·rfl
  ·rfl
 | false=>
  rw [if_neg (by simp)] at ih
  obtain ⟨fr,hj⟩:=ih
  refine ⟨-1,?_,by decide⟩
  apply gU UH
  ·apply ae (by simp;rfl)
   apply ae
   ·apply ae (by simp;rfl)
    apply qc
    rw [ey]
    exact hj
   apply ae (by simp;rfl)
   exact db _ _
  ·rfl
  ·rfl
theorem Jq{dp:Nat}{n:Int}{kc kw:Key}{H:HP}{p:Program}{y d:AV}{tl:List AV}{V:List Level}(hkc:kc.dp<dp)(hkw:kw.dp<dp)(hz:ax dp H)(hc:H kc=some [.p kw 0])(hb:H kw=some (bA p (.l 45 (V.map aE)) y d n tl)){fs:List cb}(hl:fs.length≤2000){b:Bool}(h:yX V fs=some b) :
  call G Ω0 ⟨dp,false⟩ 161 [.l 96 (fs.map cp),.f 162 [.p kc 0]] H=some (.ret (.b b),H):=by
 have h1:(fun k:Key=>if k.dp=dp then none else H k)=H:=by
  funext q
  split
  ·rename_i e;exact (hz q (by omega)).symm
  ·rfl
 have h2:(fun k:Key=>if k.dp<dp then H k else none)=H:=by
  funext q
  split
  ·rfl
  ·rename_i e;exact (hz q e).symm
 obtain ⟨i,hi,rfl⟩:=PJ (dp:=dp+1) (by omega) (by omega) (fun q hq=>hz q (by omega)) hc hb hl h
 apply gU ab9
 ·apply ae (by simp;rfl)
  apply ae (by simp [bj,AV.cj,h1,hi,St.back,bC,h2];rfl)
  exact db _ _
 ·rfl
 ·rfl
noncomputable def sb(p:Program)(V:List Level)(s:Stmt)(place:Level):Option Bool:=(fw p V s place).bind fun fs=>if fs.length≤2000 then (yX V fs).map fun b=>!b else none
set_option maxHeartbeats 8000000 in
theorem Nq{dp:Nat}{n:Int}{kw:Key}{H:HP}{p:Program}{y d:AV}{tl:List AV}{V:List Level}(hkw:kw.dp<dp)(hz:ax dp H)(hb:H kw=some (bA p (.l 45 (V.map aE)) y d n tl)){s:Stmt}{place:Level}{r:Bool}(hA:s.Args.length≤1000)(h:sb p V s place=some r) :
  call G Ω0 ⟨dp,false⟩ 149 [.p kw 0,.a (aw s),.a (av place)] H=some (.ret (.b r),H):=by
 obtain ⟨fs,h1,h⟩:=Option.bind_eq_some_iff.1 h
 split at h
 ·rename_i hl
  obtain ⟨b,hbad,rfl⟩:=Option.map_eq_some_iff.1 h
  have e1:¬kw.dp=dp:=by omega
  have e2:∀ d,¬kw=⟨dp,d⟩:=fun d=>aP hkw
  have e3:kw.dp≤dp:=by omega
  obtain ⟨H1,hH1⟩:∃ H1:HP,H1=(fun k=>if k.dp=dp then (if 3=k.d then some [.p kw 0] else if 4=k.d then some (aw s) else if 5=k.d then some (av place) else none) else H k):=⟨_,rfl⟩
  have hw1:H1 kw=some (bA p (.l 45 (V.map aE)) y d n tl):=by rw [hH1];simp only [if_neg e1];exact hb
  have hc1:H1 ⟨dp,3⟩=some [.p kw 0]:=by rw [hH1];simp
  have hz1:ax (dp+1) H1:=fun q hq=>by
   rw [hH1];simp only [if_neg (show ¬q.dp=dp by omega)];exact hz q (by omega)
  have hF:=DE (dp+1) H1 kw (by omega) p (.l 45 (V.map aE)) y d n tl V hw1 (.l _ _) s place fs hA h1
  have hC:=Jq (dp:=dp+1) (kc:=⟨dp,3⟩) (kw:=kw) (by show dp<dp+1;omega) (by omega) hz1 hc1 hw1 hl hbad
  rw [hH1] at hF hC
  have hback:(fun k:Key=>if k.dp<dp then (if k.dp=dp then (if 3=k.d then some [.p kw 0] else if 4=k.d then some (aw s) else if 5=k.d then some (av place) else none) else H k) else none)=H:=by
   funext q
   by_cases hq:q.dp<dp
   ·rw [if_pos hq,if_neg (by omega)]
   ·rw [if_neg hq,hz q hq]
  apply gU ab1
  ·apply ae (by simp [e2,e3];rfl)
   apply ae
   ·apply kv 6
    ·rfl
    ·simp
    ·simp [e1,e2,e3,kP,ve,vf,rD,qN,fN,St.bu,AV.cj,hF,St.back,bC,hback]
     rfl
    ·simp [e1,e2,e3,bj,AV.cj,hC,St.back,bC,hback]
     rfl
    ·rfl
   exact db _ _
  ·rfl
  ·rfl
 ·cases h
def cF(f:List (Int×Int))(a k:Int)(b:Bool):List (Int×Int):=if b=true then f++[(a,k)] else f
theorem jN{dp:Nat}{a kind n:Int}{bad:Bool}{kw sp:Key}{H:HP}{f:List (Int×Int)}{p:Program}{x y d:AV}(B:Nat→Option (List AV))(hw:kw.dp<dp)(hz:ax dp H)(hb:H kw=some (bA p x y d n (jM sp f)))(hf:f.length≤1000000) :
  ∃ H',call G Ω0 ⟨dp+1,false⟩ 148 [.p kw 0,I a,I kind,.b bad] (fun k=>if k.dp=dp then B k.d else H k)=some (.ret (.tp []),fun k=>if k.dp=dp then B k.d else H' k)∧H' kw=some (bA p x y d n (jM sp (cF f a kind bad)))∧ax dp H'∧∀ q,q≠kw→H' q=H q:=by
 have e1:¬kw.dp=dp:=by omega
 have h:=Np (dp:=dp+1) (a:=a) (kind:=kind) (bad:=bad) (kw:=kw) (sp:=sp) (H:=fun k=>if k.dp=dp then B k.d else H k) (f:=f) (p:=p) (x:=x) (y:=y) (d:=d) (n:=n) (by omega) (fun q hq=>by simp only [if_neg (show ¬q.dp=dp by omega)];exact hz q (by omega)) (by simp only [if_neg e1];exact hb) hf
 cases bad with
 | true=>
  refine ⟨ab H kw (bA p x y d n (jM sp (f++[(a,kind)]))),?_,cD ..,aF hw hz,fun q hq=>la hq⟩
  rw [h,if_pos rfl]
  congr 1
  congr 1
  funext q
  simp only [ab]
  by_cases hq:q=kw
  ·rw [if_pos hq,hq,if_neg e1,if_pos rfl]
  ·rw [if_neg hq,if_neg hq]
 | false=>
  refine ⟨H,?_,hb,hz,fun _ _=>rfl⟩
  rw [h,if_neg (by simp)]
theorem et{dp:Nat}{H:HP}(B:Nat→Option (List AV))(hz:ax dp H):(fun k:Key=>if k.dp<dp then (if k.dp=dp then B k.d else H k) else none)=H:=by
 funext q
 by_cases hq:q.dp<dp
 ·rw [if_pos hq,if_neg (by omega)]
 ·rw [if_neg hq,hz q hq]
variable [Lp]
attribute [local simp] gp execOp okB k7 cY iS tE jr jc fM St.end_ St.ir ie List.filter
def uC(dp:Nat)(kw:Key)(a:Int)(s:Stmt)(pl l v:Level)(H:HP):St:=⟨[(0,.p kw 0),(1,I a),(6,.p ⟨dp,6⟩ 0),(7,.p ⟨dp,7⟩ 0),(8,.p ⟨dp,8⟩ 0),(9,.p ⟨dp,9⟩ 0)],[(6,aw s),(7,av pl),(8,av l),(9,av v)],H⟩
set_option maxHeartbeats 8000000 in
theorem Ie{dp:Nat}{a n:Int}{kw:Key}{H:HP}{p:Program}{y d:AV}{tl:List AV}{V:List Level}(h0:0<dp)(hkw:kw.dp<dp)(hz:ax dp H)(hb:H kw=some (bA p (.l 45 (V.map aE)) y d n tl)){s:Stmt}{pl l v:Level}{j:Nat}(hl:e7 p V s.Expr=some l)(hj:s.Var=(j:Int))(hv:V[j]? =some v)
  {z:AC} {r:Option (aI×St)} (h:run G Ω0 ⟨dp,false⟩ z (uC dp kw a s pl l v H)=r) :
  run G Ω0 ⟨dp,false⟩ (.sq (.rg [] [gp 6 (.bx (.t 2)),gp 7 (.bx (.t 3))] [0,1,6,7] [0,6,7]) (.sq (.dg [] [8,9] [⟨gp 10 (.mv (.t 0)),true,[0],[],false,[],[8,9],[]⟩,⟨gp 11 (.nc (.t 10)),true,[10],[],false,[],[8,9],[]⟩,⟨gp 12 (.fa 0 (.t 11)),true,[11],[],false,[],[8,9],[]⟩,⟨gp 13 (.fa 0 (.t 12)),true,[12],[],false,[],[8,9],[]⟩,⟨gp 14 (.ld (some 8) (.t 13)),true,[13],[],true,[],[8,9],[]⟩,⟨gp 15 (.mv (.t 0)),true,[0],[],false,[],[8,9],[]⟩,⟨gp 16 (.nc (.t 15)),true,[15],[],false,[],[8,9],[]⟩,⟨gp 17 (.fa 0 (.t 16)),true,[16],[],false,[],[8,9],[]⟩,⟨gp 18 (.fa 8 (.t 17)),true,[17],[],false,[],[8,9],[]⟩,⟨gp 19 (.fa 0 (.t 18)),true,[18],[],false,[],[8,9],[]⟩,⟨gp 20 (.ld none (.t 19)),true,[19],[],true,[],[8,9],[]⟩,⟨gp 21 (.fa 3 (.t 6)),true,[6],[],false,[],[8,9],[]⟩,⟨gp 22 (.ld (some 3) (.t 21)),true,[21],[6],false,[],[8,9],[]⟩,⟨gp 23 (.ca 0 46 [(.t 14),(.t 20),(.t 22)]),true,[14,20,22],[],true,[],[8,9],[]⟩,⟨gp 24 (.mv (.t 0)),true,[0],[],false,[],[8,9],[]⟩,⟨gp 25 (.nc (.t 24)),true,[24],[],false,[],[8,9],[]⟩,⟨gp 26 (.fa 0 (.t 25)),true,[25],[],false,[],[8,9],[]⟩,⟨gp 27 (.fa 8 (.t 26)),true,[26],[],false,[],[8,9],[]⟩,⟨gp 28 (.fa 0 (.t 27)),true,[27],[],false,[],[8,9],[]⟩,⟨gp 29 (.ld none (.t 28)),true,[28],[],true,[],[8,9],[]⟩,⟨gp 30 (.fa 1 (.t 6)),true,[6],[],false,[],[8,9],[]⟩,⟨gp 31 (.ld none (.t 30)),true,[30],[6],false,[],[8,9],[]⟩,⟨gp 32 (.ia 2 none (.t 29) (.t 31)),true,[29,31],[],true,[],[8,9],[]⟩,⟨gp 33 (.ld (some 2) (.t 32)),true,[32],[],true,[],[8,9],[]⟩,⟨gp 8 (.al [(.l 4 []),(.l 4 [])]),true,[],[],false,[],[9],[]⟩,⟨gp 9 (.al [(.l 4 []),(.l 4 [])]),true,[],[],false,[],[8],[]⟩,⟨⟨none,.st 2 (.t 8) (.t 23),none,false⟩,true,[8,23],[8],false,[],[],[]⟩,⟨⟨none,.st 2 (.t 9) (.t 33),none,false⟩,false,[],[],false,[],[],[]⟩] [0,1,6,7,8,9] [0,6,7,8,9]) z)) ⟨fO 0 [.p kw 0,I a,.a (aw s),.a (av pl)],[],H⟩=r:=by
 have e1:¬kw.dp=dp:=by omega
 have e2:∀ d,¬kw=⟨dp,d⟩:=fun d=>aP hkw
 have e3:kw.dp≤dp:=by omega
 have hL:∀ st:St,bk (call G Ω0) Ω0 ⟨dp,false⟩ st 0 46 [.a (ar p),.l 45 (V.map aE),.a (mV s.Expr)]=some (.a (av l),st):=fun st=>yO (E:=⟨dp,false⟩) (by show dp≠0;omega) (.l _ _) hl
 apply ae (by simp [e2,e3];rfl)
 refine ae ?_ h
 apply kv 6
 ·rfl
 ·simp [e2]
 ·simp [e1,e2,e3,hb]
  rfl
 ·apply gq 8
  ·simp [-bk,e1,e2,e3,hb,hL]
   rfl
  ·apply gq 10
   ·simp [e1,e2,e3,hb,hj,hv,aE]
    rfl
   ·simp [e1,e2,e3,aE]
    rfl
 ·rfl
abbrev oK(s:Stmt)(pl l v:Level):Nat→Option (List AV):=fun d=>if 6=d then some (aw s) else if 7=d then some (av pl) else if 8=d then some (av l) else if 9=d then some (av v) else none
set_option maxHeartbeats 8000000 in
theorem PK{dp:Nat}{a n:Int}{kw sp:Key}{H:HP}{f:List (Int×Int)}{p:Program}{x y d:AV}(hkw:kw.dp<dp)(hz:ax dp H)(hb:H kw=some (bA p x y d n (jM sp f)))(hf:f.length≤1000000){s:Stmt}{pl l v:Level}{b:Bool}(hU:df pl v=some b) :
  ∃ H',run G Ω0 ⟨dp,false⟩ (.rg [] [gp 34 (.mv (.t 0)),gp 35 (.mv (.t 1)),gp 36 (.ld (some 2) (.t 7)),gp 37 (.ld (some 2) (.t 9)),gp 38 (.ca 0 43 [(.t 36),(.t 37)]),gp 39 (.no (.t 38)),gp 40 (.c2 148 [(.t 34),(.t 35),(.c (.i .i64 5)),(.t 39)])] [0,1,6,7,8,9] [0,6,7,8,9]) (uC dp kw a s pl l v H)=some (.nrm,uC dp kw a s pl l v H')∧H' kw=some (bA p x y d n (jM sp (cF f a 5 (!b))))∧ax dp H'∧∀ q,q≠kw→H' q=H q:=by
 have e1:¬kw.dp=dp:=by omega
 have e2:∀ d,¬kw=⟨dp,d⟩:=fun d=>aP hkw
 have e3:kw.dp≤dp:=by omega
 have hA:=cR (E:=⟨dp,false⟩) (il pl v b hU) (by simp) (by simp)
 obtain ⟨H',c1,c2,c3,c4⟩:=jN (a:=a) (kind:=5) (bad:=!b) (oK s pl l v) hkw hz hb hf
 have hbk:=et (oK s pl l v) c3
 refine ⟨H',?_,c2,c3,c4⟩
 simp [-bk,uC,e1,e2,e3,hA,bj,AV.cj,c1,St.back,bC,hbk,oK]
set_option maxHeartbeats 8000000 in
theorem PL{dp:Nat}{a n:Int}{kw sp:Key}{H:HP}{f:List (Int×Int)}{p:Program}{x y d:AV}(hkw:kw.dp<dp)(hz:ax dp H)(hb:H kw=some (bA p x y d n (jM sp f)))(hf:f.length≤1000000){s:Stmt}{pl l v:Level}{c:aA}(hsp:sp.dp<dp)(hc:H sp=some (af c)){b:Bool}(hS:dK c s=some b) :
  ∃ H',run G Ω0 ⟨dp,false⟩ (.dg [] [] [⟨gp 41 (.mv (.t 0)),true,[0],[],false,[],[],[1000000]⟩,⟨gp 42 (.mv (.t 1)),true,[1],[],false,[],[],[1000000]⟩,⟨gp 43 (.mv (.t 0)),true,[0],[],false,[],[],[]⟩,⟨gp 44 (.nc (.t 43)),true,[43],[],false,[],[],[]⟩,⟨gp 45 (.fa 12 (.t 44)),true,[44],[],false,[],[],[]⟩,⟨gp 46 (.ld none (.t 45)),true,[45],[],true,[],[],[]⟩,⟨gp 47 (.ld (some 9) (.t 6)),true,[6],[6],false,[],[],[]⟩,⟨gp 48 (.ch 163 [(.t 46),(.t 47)] [] [] []),false,[],[],false,[],[],[]⟩,⟨gp 49 (.c2 148 [(.t 41),(.t 42),(.c (.i .i64 6)),(.t 48)]),false,[],[],false,[],[],[]⟩] [0,1,6,7,8,9] [0,6,7,8,9]) (uC dp kw a s pl l v H)=some (.nrm,uC dp kw a s pl l v H')∧H' kw=some (bA p x y d n (jM sp (cF f a 6 b)))∧ax dp H'∧∀ q,q≠kw→H' q=H q:=by
 have e1:¬kw.dp=dp:=by omega
 have e2:∀ d,¬kw=⟨dp,d⟩:=fun d=>aP hkw
 have e3:kw.dp≤dp:=by omega
 have e4:¬sp.dp=dp:=by omega
 have e5:sp.dp≤dp:=by omega
 have hA:=uU (dp+1) (fun k=>if k.dp=dp then oK s pl l v k.d else H k) sp (by omega) (fun q hq=>by simp only [if_neg (show ¬q.dp=dp by omega)];exact hz q (by omega)) c s b hS
 rw [show qL (dp+1) (fun k=>if k.dp=dp then oK s pl l v k.d else H k) sp c s b=(call G Ω0 ⟨dp+1,false⟩ 163 [(.p sp 0),.a (aw s)] (ab (fun k=>if k.dp=dp then oK s pl l v k.d else H k) sp (af c))=some (.ret (.b b),ab (fun k=>if k.dp=dp then oK s pl l v k.d else H k) sp (af c))) from rfl,yV (show (fun k:Key=>if k.dp=dp then oK s pl l v k.d else H k) sp=some (af c) by simp only [if_neg e4];exact hc)] at hA
 obtain ⟨H',c1,c2,c3,c4⟩:=jN (a:=a) (kind:=6) (bad:=b) (oK s pl l v) hkw hz hb hf
 have hbk:=et (oK s pl l v) c3
 have hbk0:=et (oK s pl l v) hz
 refine ⟨H',?_,c2,c3,c4⟩
 apply kv 8
 ·rfl
 ·simp [uC]
 ·simp [uC,e1,e2,e3,e4,e5,hb,kP,ve,vf,rD,qN,fN,St.bu,AV.cj,hA,St.back,bC,hbk0,oK]
  rfl
 ·simp [uC,e1,e2,e3,bj,AV.cj,c1,St.back,bC,hbk,oK]
  rfl
 ·rfl
set_option maxHeartbeats 8000000 in
theorem PM{dp:Nat}{a n:Int}{kw sp:Key}{H:HP}{f:List (Int×Int)}{p:Program}{x y d:AV}(hkw:kw.dp<dp)(hz:ax dp H)(hb:H kw=some (bA p x y d n (jM sp f)))(hf:f.length≤1000000){s:Stmt}{pl l v:Level}{c:aA}(hsp:sp.dp<dp)(hc:H sp=some (af c)){b:Bool}(hS:dJ c s=some b) :
  ∃ H',run G Ω0 ⟨dp,false⟩ (.dg [] [] [⟨gp 50 (.mv (.t 0)),true,[0],[],false,[],[],[1000000]⟩,⟨gp 51 (.mv (.t 1)),true,[1],[],false,[],[],[1000000]⟩,⟨gp 52 (.mv (.t 0)),true,[0],[],false,[],[],[]⟩,⟨gp 53 (.nc (.t 52)),true,[52],[],false,[],[],[]⟩,⟨gp 54 (.fa 12 (.t 53)),true,[53],[],false,[],[],[]⟩,⟨gp 55 (.ld none (.t 54)),true,[54],[],true,[],[],[]⟩,⟨gp 56 (.ld (some 9) (.t 6)),true,[6],[6],false,[],[],[]⟩,⟨gp 57 (.ch 164 [(.t 55),(.t 56)] [] [] []),false,[],[],false,[],[],[]⟩,⟨gp 58 (.c2 148 [(.t 50),(.t 51),(.c (.i .i64 7)),(.t 57)]),false,[],[],false,[],[],[]⟩] [0,1,6,7,8,9] [0,6,7,8,9]) (uC dp kw a s pl l v H)=some (.nrm,uC dp kw a s pl l v H')∧H' kw=some (bA p x y d n (jM sp (cF f a 7 b)))∧ax dp H'∧∀ q,q≠kw→H' q=H q:=by
 have e1:¬kw.dp=dp:=by omega
 have e2:∀ d,¬kw=⟨dp,d⟩:=fun d=>aP hkw
 have e3:kw.dp≤dp:=by omega
 have e4:¬sp.dp=dp:=by omega
 have e5:sp.dp≤dp:=by omega
 have hA:=uT (dp+1) (fun k=>if k.dp=dp then oK s pl l v k.d else H k) sp (by omega) (fun q hq=>by simp only [if_neg (show ¬q.dp=dp by omega)];exact hz q (by omega)) c s b hS
 rw [show qK (dp+1) (fun k=>if k.dp=dp then oK s pl l v k.d else H k) sp c s b=(call G Ω0 ⟨dp+1,false⟩ 164 [(.p sp 0),.a (aw s)] (ab (fun k=>if k.dp=dp then oK s pl l v k.d else H k) sp (af c))=some (.ret (.b b),ab (fun k=>if k.dp=dp then oK s pl l v k.d else H k) sp (af c))) from rfl,yV (show (fun k:Key=>if k.dp=dp then oK s pl l v k.d else H k) sp=some (af c) by simp only [if_neg e4];exact hc)] at hA
 obtain ⟨H',c1,c2,c3,c4⟩:=jN (a:=a) (kind:=7) (bad:=b) (oK s pl l v) hkw hz hb hf
 have hbk:=et (oK s pl l v) c3
 have hbk0:=et (oK s pl l v) hz
 refine ⟨H',?_,c2,c3,c4⟩
 apply kv 8
 ·rfl
 ·simp [uC]
 ·simp [uC,e1,e2,e3,e4,e5,hb,kP,ve,vf,rD,qN,fN,St.bu,AV.cj,hA,St.back,bC,hbk0,oK]
  rfl
 ·simp [uC,e1,e2,e3,bj,AV.cj,c1,St.back,bC,hbk,oK]
  rfl
 ·rfl
theorem uV(f:List (Int×Int))(a k:Int)(b:Bool):(cF f a k b).length≤f.length+1:=by
 unfold cF
 split
 ·simp
 ·omega
noncomputable def vg(p:Program)(c:aA)(V:List Level)(a:Int)(s:Stmt)(pl:Level)(f:List (Int×Int)):Option (List (Int×Int)):=
 (e7 p V s.Expr).bind fun l=>(dG s.Var).bind fun j=>(V[j]?).bind fun v=>(df pl v).bind fun b5=>(dK c s).bind fun b6=>(dJ c s).bind fun b7=>
 if s.Kind=5 then (lM l.Writers v.Writers).bind fun b8=>(cE l pl).bind fun q=>(gK c q).bind fun b9=>some (cF (cF (cF (cF (cF f a 5 (!b5)) a 6 b6) a 7 b7) a 8 (!b8)) a 9 b9)
 else (lM v.Readers l.Readers).bind fun b8=>some (cF (cF (cF (cF f a 5 (!b5)) a 6 b6) a 7 b7) a 8 (!b8))
set_option maxHeartbeats 16000000 in
theorem Nr{dp:Nat}{a n:Int}{kw sp:Key}{H:HP}{f f':List (Int×Int)}{p:Program}{y d:AV}{V:List Level}(h0:0<dp)(hkw:kw.dp<dp)(hsp:sp.dp<dp)(hne:sp≠kw)(hz:ax dp H)(hb:H kw=some (bA p (.l 45 (V.map aE)) y d n (jM sp f))){c:aA}(hc:H sp=some (af c))(hf:f.length≤999990){s:Stmt}{pl:Level}(h:vg p c V a s pl f=some f') :
  ∃ H',call G Ω0 ⟨dp,false⟩ 150 [.p kw 0,I a,.a (aw s),.a (av pl)] H=some (.ret (.tp []),H')∧H' kw=some (bA p (.l 45 (V.map aE)) y d n (jM sp f'))∧ax dp H'∧∀ q,q≠kw→H' q=H q:=by
 have e1:¬kw.dp=dp:=by omega
 have e2:∀ d,¬kw=⟨dp,d⟩:=fun d=>aP hkw
 have e3:kw.dp≤dp:=by omega
 have e4:¬sp.dp=dp:=by omega
 have e5:sp.dp≤dp:=by omega
 unfold vg at h
 obtain ⟨l,hl,h⟩:=Option.bind_eq_some_iff.1 h
 obtain ⟨j,hj,h⟩:=Option.bind_eq_some_iff.1 h
 obtain ⟨v,hv,h⟩:=Option.bind_eq_some_iff.1 h
 obtain ⟨b5,h5,h⟩:=Option.bind_eq_some_iff.1 h
 obtain ⟨b6,h6,h⟩:=Option.bind_eq_some_iff.1 h
 obtain ⟨b7,h7,h⟩:=Option.bind_eq_some_iff.1 h
 have hj:=jQ hj
 have l1:=uV f a 5 (!b5)
 have l2:=uV (cF f a 5 (!b5)) a 6 b6
 have l3:=uV (cF (cF f a 5 (!b5)) a 6 b6) a 7 b7
 obtain ⟨H1,r1,k1,z1,m1⟩:=PK (a:=a) (s:=s) (l:=l) hkw hz hb (by omega) h5
 have hc1:H1 sp=some (af c):=by rw [m1 _ hne];exact hc
 obtain ⟨H2,r2,k2,z2,m2⟩:=PL (a:=a) (s:=s) (pl:=pl) (l:=l) (v:=v) hkw z1 k1 (by omega) hsp hc1 h6
 have hc2:H2 sp=some (af c):=by rw [m2 _ hne];exact hc1
 obtain ⟨H3,r3,k3,z3,m3⟩:=PM (a:=a) (s:=s) (pl:=pl) (l:=l) (v:=v) hkw z2 k2 (by omega) hsp hc2 h7
 have hc3:H3 sp=some (af c):=by rw [m3 _ hne];exact hc2
 by_cases hk:s.Kind=5
 ·rw [if_pos hk] at h
  obtain ⟨b8,h8,h⟩:=Option.bind_eq_some_iff.1 h
  obtain ⟨q,hq,h⟩:=Option.bind_eq_some_iff.1 h
  obtain ⟨b9,h9,h⟩:=Option.bind_eq_some_iff.1 h
  obtain rfl:=Option.some.inj h
  have l4:=uV (cF (cF (cF f a 5 (!b5)) a 6 b6) a 7 b7) a 8 (!b8)
  have hA:=cR (E:=⟨dp,false⟩) (pw l.Writers v.Writers b8 h8) (by simp) (by simp)
  have hB:=cR (E:=⟨dp,false⟩) (fW l pl q hq) (by simp) (by simp)
  obtain ⟨H4,c1,k4,z4,m4⟩:=jN (a:=a) (kind:=8) (bad:=!b8) (fun d=>if 7=d then some (av pl) else if 8=d then some (av l) else if 9=d then some (av v) else none) hkw z3 k3 (by omega)
  have hbk4:=et (fun d=>if 7=d then some (av pl) else if 8=d then some (av l) else if 9=d then some (av v) else none) z4
  have hc4:H4 sp=some (af c):=by rw [m4 _ hne];exact hc3
  obtain ⟨HB,hHB⟩:∃ HB:HP,HB=(fun k=>if k.dp=dp then (if 7=k.d then some (av pl) else if 8=k.d then some (av l) else none) else H4 k):=⟨_,rfl⟩
  have hS:=uo (dp+1) HB sp (by omega) (fun q hq=>by rw [hHB];simp only [if_neg (show ¬q.dp=dp by omega)];exact z4 q (by omega)) c q b9 h9
  rw [show pW (dp+1) HB sp c q b9=(call G Ω0 ⟨dp+1,false⟩ 165 [(.p sp 0),.a (av q)] (ab HB sp (af c))=some (.ret (.b b9),ab HB sp (af c))) from rfl,yV (show HB sp=some (af c) by rw [hHB];simp only [if_neg e4];exact hc4),hHB] at hS
  obtain ⟨H5,c5,k5,z5,m5⟩:=jN (a:=a) (kind:=9) (bad:=b9) (fun d=>if 7=d then some (av pl) else if 8=d then some (av l) else none) hkw z4 k4 (by omega)
  have hbk40:=et (fun d=>if 7=d then some (av pl) else if 8=d then some (av l) else none) z4
  have hbk5:=et (fun d=>if 7=d then some (av pl) else if 8=d then some (av l) else none) z5
  refine ⟨H5,?_,k5,z5,fun q hq=>(m5 q hq).trans ((m4 q hq).trans ((m3 q hq).trans ((m2 q hq).trans (m1 q hq))))⟩
  apply gU UF
  ·refine Ie h0 hkw hz hb hl hj hv ?_
   apply ae r1
   apply ae r2
   apply ae r3
   apply yP
   apply ae (by simp [uC,e1,e2,e3,hk];rfl)
   apply dE (by simp)
   apply ae (by simp [-bk,e1,e2,e3,hA,bj,AV.cj,c1,St.back,bC,hbk4];rfl)
   apply ae
   ·apply kv 10
    ·rfl
    ·simp
    ·simp [-bk,e1,e2,e3,e4,e5,k4,hB,kP,ve,vf,rD,qN,fN,St.bu,AV.cj,hS,St.back,bC,hbk40]
     rfl
    ·simp [e1,e2,e3,bj,AV.cj,c5,St.back,bC,hbk5]
     rfl
    ·rfl
   exact db _ _
  ·rfl
  ·rfl
 ·rw [if_neg hk] at h
  obtain ⟨b8,h8,h⟩:=Option.bind_eq_some_iff.1 h
  obtain rfl:=Option.some.inj h
  have hA:=cR (E:=⟨dp,false⟩) (pw v.Readers l.Readers b8 h8) (by simp) (by simp)
  obtain ⟨H4,c1,k4,z4,m4⟩:=jN (a:=a) (kind:=8) (bad:=!b8) (fun d=>if 8=d then some (av l) else if 9=d then some (av v) else none) hkw z3 k3 (by omega)
  have hbk4:=et (fun d=>if 8=d then some (av l) else if 9=d then some (av v) else none) z4
  refine ⟨H4,?_,k4,z4,fun q hq=>(m4 q hq).trans ((m3 q hq).trans ((m2 q hq).trans (m1 q hq)))⟩
  apply mz UF
  ·refine Ie h0 hkw hz hb hl hj hv ?_
   apply ae r1
   apply ae r2
   apply ae r3
   apply ae
   ·apply ae (by simp [uC,e1,e2,e3,hk];rfl)
    apply bS (by simpa using hk)
    exact bU _ _
   apply fG
   simp [-bk,Mu,e1,e2,e3,hA,bj,AV.cj,c1,St.back,bC,hbk4]
   rfl
  ·rfl
  ·rfl
abbrev pX(s:Stmt)(pl:Level):Nat→Option (List AV):=fun d=>if 6=d then some (aw s) else if 7=d then some (av pl) else none
theorem yY{dp:Nat}{n:Int}{kw:Key}{H:HP}{p:Program}{y d:AV}{tl:List AV}{V:List Level}{s:Stmt}{pl:Level}{r:Bool}(hkw:kw.dp<dp)(hz:ax dp H)(hb:H kw=some (bA p (.l 45 (V.map aE)) y d n tl))(hA:s.Args.length≤1000)(h:sb p V s pl=some r) :
  call G Ω0 ⟨dp+1,false⟩ 149 [.p kw 0,.a (aw s),.a (av pl)] (fun k=>if k.dp=dp then pX s pl k.d else H k)=some (.ret (.b r),fun k=>if k.dp=dp then pX s pl k.d else H k):=
 Nq (dp:=dp+1) (by omega) (fun q hq=>by simp only [if_neg (show ¬q.dp=dp by omega)];exact hz q (by omega)) (by simp only [if_neg (show ¬kw.dp=dp by omega)];exact hb) hA h
set_option maxHeartbeats 16000000 in
theorem Vs{dp:Nat}{a n:Int}{kw sp:Key}{H:HP}{f:List (Int×Int)}{p:Program}{y d:AV}{V:List Level}(hkw:kw.dp<dp)(hz:ax dp H)(hb:H kw=some (bA p (.l 45 (V.map aE)) y d n (jM sp f)))(hf:f.length≤999990){s:Stmt}{pl:Level}(hA:s.Args.length≤1000){b:Bool}(h:sb p V s pl=some b)(hk:s.Kind=1) :
  ∃ H',call G Ω0 ⟨dp,false⟩ 123 [.p kw 0,I a,.a (aw s),.a (av pl)] H=some (.ret (.tp []),H')∧H' kw=some (bA p (.l 45 (V.map aE)) y d n (jM sp (cF f a 1 (!b))))∧ax dp H'∧∀ q,q≠kw→H' q=H q:=by
 have e1:¬kw.dp=dp:=by omega
 have e2:∀ d,¬kw=⟨dp,d⟩:=fun d=>aP hkw
 have e3:kw.dp≤dp:=by omega
 have hF:=yY hkw hz hb hA h
 have hbk:=et (pX s pl) hz
 obtain ⟨H1,c1,k1,z1,m1⟩:=jN (a:=a) (kind:=1) (bad:=!b) (pX s pl) hkw hz hb (by omega)
 have hbk1:=et (pX s pl) z1
 refine ⟨H1,?_,k1,z1,m1⟩
 apply mz BS
 ·apply ae (by simp [e2,e3];rfl)
  apply ae (by simp [hk];rfl)
  apply ku
  apply ae (by simp [hk];rfl)
  apply dE (by simp)
  simp [e1,e2,e3,bj,AV.cj,hF,c1,St.back,bC,hbk,hbk1,pX]
  rfl
 ·rfl
 ·rfl
set_option maxHeartbeats 16000000 in
theorem Vt{dp:Nat}{a n:Int}{kw sp:Key}{H:HP}{f:List (Int×Int)}{p:Program}{y d:AV}{V:List Level}(hkw:kw.dp<dp)(hz:ax dp H)(hb:H kw=some (bA p (.l 45 (V.map aE)) y d n (jM sp f)))(hf:f.length≤999990){s:Stmt}{pl:Level}(hA:s.Args.length≤1000){b:Bool}(h:sb p V s pl=some b)(hk:s.Kind=2) :
  ∃ H',call G Ω0 ⟨dp,false⟩ 123 [.p kw 0,I a,.a (aw s),.a (av pl)] H=some (.ret (.tp []),H')∧H' kw=some (bA p (.l 45 (V.map aE)) y d n (jM sp (cF f a 2 (!b))))∧ax dp H'∧∀ q,q≠kw→H' q=H q:=by
 have e1:¬kw.dp=dp:=by omega
 have e2:∀ d,¬kw=⟨dp,d⟩:=fun d=>aP hkw
 have e3:kw.dp≤dp:=by omega
 have hF:=yY hkw hz hb hA h
 have hbk:=et (pX s pl) hz
 obtain ⟨H1,c1,k1,z1,m1⟩:=jN (a:=a) (kind:=2) (bad:=!b) (pX s pl) hkw hz hb (by omega)
 have hbk1:=et (pX s pl) z1
 refine ⟨H1,?_,k1,z1,m1⟩
 apply mz BS
 ·apply ae (by simp [e2,e3];rfl)
  apply ae (by simp [hk];rfl)
  apply ku
  apply ae (by simp [hk];rfl)
  apply bS (by simp)
  apply ae (by simp [hk];rfl)
  apply dE (by simp)
  simp [e1,e2,e3,bj,AV.cj,hF,c1,St.back,bC,hbk,hbk1,pX]
  rfl
 ·rfl
 ·rfl
theorem Jr{dp:Nat}{a n:Int}{kw sp:Key}{H:HP}{f f':List (Int×Int)}{p:Program}{y d:AV}{V:List Level}(hkw:kw.dp<dp)(hsp:sp.dp<dp)(hne:sp≠kw)(hz:ax dp H)(hb:H kw=some (bA p (.l 45 (V.map aE)) y d n (jM sp f))){c:aA}(hc:H sp=some (af c))(hf:f.length≤999990){s:Stmt}{pl:Level}(h:vg p c V a s pl f=some f') :
  ∃ H',call G Ω0 ⟨dp+1,false⟩ 150 [.p kw 0,I a,.a (aw s),.a (av pl)] (fun k=>if k.dp=dp then pX s pl k.d else H k)=some (.ret (.tp []),fun k=>if k.dp=dp then pX s pl k.d else H' k)∧H' kw=some (bA p (.l 45 (V.map aE)) y d n (jM sp f'))∧ax dp H'∧∀ q,q≠kw→H' q=H q:=by
 have e1:¬kw.dp=dp:=by omega
 have e4:¬sp.dp=dp:=by omega
 obtain ⟨Hc,c1,c2,c3,c4⟩:=Nr (dp:=dp+1) (a:=a) (H:=fun k=>if k.dp=dp then pX s pl k.d else H k) (by omega) (by omega) (by omega) hne (fun q hq=>by simp only [if_neg (show ¬q.dp=dp by omega)];exact hz q (by omega)) (by simp only [if_neg e1];exact hb) (by simp only [if_neg e4];exact hc) hf h
 refine ⟨fun k=>if k.dp<dp then Hc k else none,?_,by simp only [if_pos hkw];exact c2,fun q hq=>by simp only [if_neg hq],fun q hq=>?_⟩
 ·rw [c1]
  congr 1
  congr 1
  funext q
  by_cases h1:q.dp=dp
  ·rw [if_pos h1,c4 q (fun e=>e1 (by rw [←e];exact h1))]
   simp only [if_pos h1]
  ·rw [if_neg h1]
   show Hc q=if q.dp<dp then Hc q else none
   by_cases h2:q.dp<dp
   ·rw [if_pos h2]
   ·rw [if_neg h2]
    by_cases h3:q.dp<dp+1
    ·omega
    ·exact c3 q h3
 ·by_cases h2:q.dp<dp
  ·simp only [if_pos h2]
   rw [c4 q hq]
   simp only [if_neg (show ¬q.dp=dp by omega)]
  ·simp only [if_neg h2]
   exact (hz q h2).symm
set_option maxHeartbeats 16000000 in
theorem RH{dp:Nat}{a n:Int}{kw sp:Key}{H:HP}{f f':List (Int×Int)}{p:Program}{y d:AV}{V:List Level}(hkw:kw.dp<dp)(hsp:sp.dp<dp)(hne:sp≠kw)(hz:ax dp H)(hb:H kw=some (bA p (.l 45 (V.map aE)) y d n (jM sp f))){c:aA}(hc:H sp=some (af c))(hf:f.length≤999990){s:Stmt}{pl:Level}(h:vg p c V a s pl f=some f')(hk:s.Kind=5∨s.Kind=6) :
  ∃ H',call G Ω0 ⟨dp,false⟩ 123 [.p kw 0,I a,.a (aw s),.a (av pl)] H=some (.ret (.tp []),H')∧H' kw=some (bA p (.l 45 (V.map aE)) y d n (jM sp f'))∧ax dp H'∧∀ q,q≠kw→H' q=H q:=by
 have e1:¬kw.dp=dp:=by omega
 have e2:∀ d,¬kw=⟨dp,d⟩:=fun d=>aP hkw
 have e3:kw.dp≤dp:=by omega
 obtain ⟨H1,c1,k1,z1,m1⟩:=Jr (a:=a) hkw hsp hne hz hb hc hf h
 have hbk1:=et (pX s pl) z1
 refine ⟨H1,?_,k1,z1,m1⟩
 rcases hk with hk | hk
 all_goals
  apply mz BS
  ·apply ae (by simp [e2,e3];rfl)
   apply ae (by simp [hk];rfl)
   apply ku
   apply ae (by simp;rfl)
   apply bS (by simp)
   apply ae (by simp;rfl)
   apply bS (by simp)
   apply ae (by simp;rfl)
   apply bS (by simp)
   apply ae (by simp;rfl)
   apply bS (by simp)
   apply ae (by simp;rfl)
   apply fG
   apply dE (by simp)
   simp [e1,e2,e3,bj,AV.cj,c1,St.back,bC,hbk1,pX]
   rfl
  ·rfl
  ·rfl
noncomputable def Ig(p:Program)(V:List Level)(s:Stmt)(pl:Level):Option Bool:=(sb p V s pl).bind fun b=>if b=true then (dG s.Other).bind fun j=>(p.Ins[j]?).bind fun g=>(jD p.aa g).bind fun o=>(df pl o).map fun u=>!u else some true
set_option maxHeartbeats 16000000 in
theorem Vu{dp:Nat}{a n:Int}{kw sp:Key}{H:HP}{f:List (Int×Int)}{p:Program}{y d:AV}{V:List Level}(hkw:kw.dp<dp)(hz:ax dp H)(hb:H kw=some (bA p (.l 45 (V.map aE)) y d n (jM sp f)))(hf:f.length≤999990){s:Stmt}{pl:Level}(hA:s.Args.length≤1000){r:Bool}(h:Ig p V s pl=some r)(hk:s.Kind=3) :
  ∃ H',call G Ω0 ⟨dp,false⟩ 123 [.p kw 0,I a,.a (aw s),.a (av pl)] H=some (.ret (.tp []),H')∧H' kw=some (bA p (.l 45 (V.map aE)) y d n (jM sp (cF f a 3 r)))∧ax dp H'∧∀ q,q≠kw→H' q=H q:=by
 have e1:¬kw.dp=dp:=by omega
 have e2:∀ d,¬kw=⟨dp,d⟩:=fun d=>aP hkw
 have e3:kw.dp≤dp:=by omega
 obtain ⟨b,hfl,h⟩:=Option.bind_eq_some_iff.1 h
 have hF:=yY hkw hz hb hA hfl
 have hbk:=et (pX s pl) hz
 obtain ⟨H1,c1,k1,z1,m1⟩:=jN (a:=a) (kind:=3) (bad:=r) (pX s pl) hkw hz hb (by omega)
 have hbk1:=et (pX s pl) z1
 refine ⟨H1,?_,k1,z1,m1⟩
 cases b with
 | false=>
  rw [if_neg (by simp)] at h
  obtain rfl:=Option.some.inj h
  apply mz BS
  ·apply ae (by simp [e2,e3];rfl)
   apply ae (by simp [hk];rfl)
   apply ku
   apply ae (by simp;rfl)
   apply bS (by simp)
   apply ae (by simp;rfl)
   apply bS (by simp)
   apply ae (by simp;rfl)
   apply dE (by simp)
   apply kv 8
   ·rfl
   ·simp
   ·simp [e1,e2,e3,hb,kP,ve,vf,rD,qN,fN,St.bu,AV.cj,hF,St.back,bC,hbk,pX]
    rfl
   ·apply gq 10
    ·simp
     rfl
    ·apply gq 10
     ·simp
      rfl
     ·simp [e1,e2,e3,bj,AV.cj,c1,St.back,bC,hbk1,pX]
      rfl
   ·rfl
  ·rfl
  ·rfl
 | true=>
  rw [if_pos rfl] at h
  obtain ⟨j,hj,h⟩:=Option.bind_eq_some_iff.1 h
  obtain ⟨g,hg,h⟩:=Option.bind_eq_some_iff.1 h
  obtain ⟨o,ho,h⟩:=Option.bind_eq_some_iff.1 h
  obtain ⟨u,hu,rfl⟩:=Option.map_eq_some_iff.1 h
  have hj:=jQ hj
  have hO:=cR (E:=⟨dp,false⟩) (qT p.aa g o ho) (by simp) (by simp)
  have hU:=cR (E:=⟨dp,false⟩) (il pl o u hu) (by simp) (by simp)
  apply mz BS
  ·apply ae (by simp [e2,e3];rfl)
   apply ae (by simp [hk];rfl)
   apply ku
   apply ae (by simp;rfl)
   apply bS (by simp)
   apply ae (by simp;rfl)
   apply bS (by simp)
   apply ae (by simp;rfl)
   apply dE (by simp)
   apply kv 8
   ·rfl
   ·simp
   ·simp [e1,e2,e3,hb,kP,ve,vf,rD,qN,fN,St.bu,AV.cj,hF,St.back,bC,hbk,pX]
    rfl
   ·apply gq 10
    ·simp [e1,e2,e3,hb]
     rfl
    ·apply gq 9
     ·simp [-bk,e1,e2,e3,hb,hj,hg,ah,hO,hU]
      rfl
     ·simp [-bk,e1,e2,e3,hU,bj,AV.cj,c1,St.back,bC,hbk1,pX]
      rfl
   ·rfl
  ·rfl
  ·rfl
noncomputable def Ih(p:Program)(V:List Level)(s:Stmt)(pl:Level):Option Bool:=(e7 p V s.Expr).bind fun l=>(cE pl l).bind fun q=>(dG s.Other).bind fun j=>(p.Outs[j]?).bind fun g=>(jD p.aa g).bind fun o=>(df q o).map fun u=>!u
set_option maxHeartbeats 16000000 in
theorem Vv{dp:Nat}{a n:Int}{kw sp:Key}{H:HP}{f:List (Int×Int)}{p:Program}{y d:AV}{V:List Level}(h0:0<dp)(hkw:kw.dp<dp)(hz:ax dp H)(hb:H kw=some (bA p (.l 45 (V.map aE)) y d n (jM sp f)))(hf:f.length≤999990){s:Stmt}{pl:Level}{r:Bool}(h:Ih p V s pl=some r)(hk:s.Kind=4) :
  ∃ H',call G Ω0 ⟨dp,false⟩ 123 [.p kw 0,I a,.a (aw s),.a (av pl)] H=some (.ret (.tp []),H')∧H' kw=some (bA p (.l 45 (V.map aE)) y d n (jM sp (cF f a 4 r)))∧ax dp H'∧∀ q,q≠kw→H' q=H q:=by
 have e1:¬kw.dp=dp:=by omega
 have e2:∀ d,¬kw=⟨dp,d⟩:=fun d=>aP hkw
 have e3:kw.dp≤dp:=by omega
 obtain ⟨l,hl,h⟩:=Option.bind_eq_some_iff.1 h
 obtain ⟨q,hq,h⟩:=Option.bind_eq_some_iff.1 h
 obtain ⟨j,hj,h⟩:=Option.bind_eq_some_iff.1 h
 obtain ⟨g,hg,h⟩:=Option.bind_eq_some_iff.1 h
 obtain ⟨o,ho,h⟩:=Option.bind_eq_some_iff.1 h
 obtain ⟨u,hu,rfl⟩:=Option.map_eq_some_iff.1 h
 have hj:=jQ hj
 have hL:∀ st:St,bk (call G Ω0) Ω0 ⟨dp,false⟩ st 0 46 [.a (ar p),.l 45 (V.map aE),.a (mV s.Expr)]=some (.a (av l),st):=fun st=>yO (E:=⟨dp,false⟩) (by show dp≠0;omega) (.l _ _) hl
 have hB:=cR (E:=⟨dp,false⟩) (fW pl l q hq) (by simp) (by simp)
 have hO:=cR (E:=⟨dp,false⟩) (qT p.aa g o ho) (by simp) (by simp)
 have hU:=cR (E:=⟨dp,false⟩) (il q o u hu) (by simp) (by simp)
 obtain ⟨H1,c1,k1,z1,m1⟩:=jN (a:=a) (kind:=4) (bad:=!u) (fun d=>if 6=d then some (aw s) else if 8=d then some (av q) else none) hkw hz hb (by omega)
 have hbk1:=et (fun d=>if 6=d then some (aw s) else if 8=d then some (av q) else none) z1
 refine ⟨H1,?_,k1,z1,m1⟩
 apply mz BS
 ·apply ae (by simp [e2,e3];rfl)
  apply ae (by simp [hk];rfl)
  apply ku
  apply ae (by simp;rfl)
  apply bS (by simp)
  apply ae (by simp;rfl)
  apply bS (by simp)
  apply ae (by simp;rfl)
  apply bS (by simp)
  apply ae (by simp;rfl)
  apply dE (by simp)
  refine ae (st1:=⟨[(0,.p kw 0),(1,I a),(6,.p ⟨dp,6⟩ 0),(8,.p ⟨dp,8⟩ 0)],[(6,aw s),(8,av q)],H⟩) ?_ ?_
  ·apply kv 8
   ·rfl
   ·simp [e2]
   ·simp [e1,e2,e3,hb]
    rfl
   ·apply gq 8
    ·simp [-bk,e1,e2,e3,hb,hL,hB]
     rfl
    ·simp [e1,e2,e3]
     rfl
   ·rfl
  ·apply kv 10
   ·rfl
   ·simp
   ·simp [e1,e2,e3,hb]
    rfl
   ·apply gq 8
    ·simp [e1,e2,e3,hb,hj,hg,ah]
     rfl
    ·simp [-bk,e1,e2,e3,hg,ah,hO,hU,bj,AV.cj,c1,St.back,bC,hbk1]
     rfl
   ·rfl
 ·rfl
 ·rfl
variable [Lp]
attribute [local simp] gp execOp okB k7 cY iS tE jr jc fM St.end_ St.ir ie List.filter
set_option maxHeartbeats 16000000 in
theorem Vw{dp:Nat}{a n:Int}{kw sp:Key}{H:HP}{f:List (Int×Int)}{p:Program}{y d:AV}{V:List Level}(hkw:kw.dp<dp)(hz:ax dp H)(hb:H kw=some (bA p (.l 45 (V.map aE)) y d n (jM sp f))){s:Stmt}{pl:Level}(h1:s.Kind≠1)(h2:s.Kind≠2)(h3:s.Kind≠3)(h4:s.Kind≠4)(h5:s.Kind≠5)(h6:s.Kind≠6) :
  call G Ω0 ⟨dp,false⟩ 123 [.p kw 0,I a,.a (aw s),.a (av pl)] H=some (.ret (.tp []),H):=by
 have e1:¬kw.dp=dp:=by omega
 have e2:∀ d,¬kw=⟨dp,d⟩:=fun d=>aP hkw
 have e3:kw.dp≤dp:=by omega
 apply mz BS
 ·apply ae (by simp [e2,e3];rfl)
  apply ae (by simp;rfl)
  apply ku
  apply ae (by simp;rfl)
  apply bS (by simpa using h1)
  apply ae (by simp;rfl)
  apply bS (by simpa using h2)
  apply ae (by simp;rfl)
  apply bS (by simpa using h3)
  apply ae (by simp;rfl)
  apply bS (by simpa using h4)
  apply ae (by simp [h5];rfl)
  apply fG
  apply bS (by simpa using h6)
  exact bU _ _
 ·rfl
 ·rfl
noncomputable def uW(p:Program)(c:aA)(V:List Level)(a:Nat)(s:Stmt)(pl:Level)(f:List (Int×Int)):Option (List (Int×Int)):=
 if f.length≤999990 then
  if s.Kind=1 then (sb p V s pl).map fun b=>cF f a 1 (!b)
  else if s.Kind=2 then (sb p V s pl).map fun b=>cF f a 2 (!b)
  else if s.Kind=3 then (Ig p V s pl).map fun r=>cF f a 3 r
  else if s.Kind=4 then (Ih p V s pl).map fun r=>cF f a 4 r
  else if s.Kind=5∨s.Kind=6 then vg p c V a s pl f
  else some f
 else none
theorem PN{dp:Nat}{a:Nat}{n:Int}{kw sp:Key}{H:HP}{f f':List (Int×Int)}{p:Program}{y d:AV}{V:List Level}(h0:0<dp)(hkw:kw.dp<dp)(hsp:sp.dp<dp)(hne:sp≠kw)(hz:ax dp H)(hb:H kw=some (bA p (.l 45 (V.map aE)) y d n (jM sp f))){c:aA}(hc:H sp=some (af c)){s:Stmt}{pl:Level}(hA:s.Args.length≤1000)(h:uW p c V a s pl f=some f') :
  ∃ H',call G Ω0 ⟨dp,false⟩ 123 [.p kw 0,I a,.a (aw s),.a (av pl)] H=some (.ret (.tp []),H')∧H' kw=some (bA p (.l 45 (V.map aE)) y d n (jM sp f'))∧ax dp H'∧∀ q,q≠kw→H' q=H q:=by
 unfold uW at h
 split at h
 ·rename_i hf
  by_cases h1:s.Kind=1
  ·rw [if_pos h1] at h
   obtain ⟨b,hb1,rfl⟩:=Option.map_eq_some_iff.1 h
   exact Vs hkw hz hb hf hA hb1 h1
  rw [if_neg h1] at h
  by_cases h2:s.Kind=2
  ·rw [if_pos h2] at h
   obtain ⟨b,hb1,rfl⟩:=Option.map_eq_some_iff.1 h
   exact Vt hkw hz hb hf hA hb1 h2
  rw [if_neg h2] at h
  by_cases h3:s.Kind=3
  ·rw [if_pos h3] at h
   obtain ⟨b,hb1,rfl⟩:=Option.map_eq_some_iff.1 h
   exact Vu hkw hz hb hf hA hb1 h3
  rw [if_neg h3] at h
  by_cases h4:s.Kind=4
  ·rw [if_pos h4] at h
   obtain ⟨b,hb1,rfl⟩:=Option.map_eq_some_iff.1 h
   exact Vv h0 hkw hz hb hf hb1 h4
  rw [if_neg h4] at h
  by_cases h56:s.Kind=5∨s.Kind=6
  ·rw [if_pos h56] at h
   exact RH hkw hsp hne hz hb hc hf h h56
  rw [if_neg h56] at h
  obtain rfl:=Option.some.inj h
  exact ⟨H,Vw hkw hz hb h1 h2 h3 h4 (fun e=>h56 (.inl e)) (fun e=>h56 (.inr e)),hb,hz,fun _ _=>rfl⟩
 ·cases h
abbrev kJ:Key:=⟨0,11⟩
abbrev FI:Key:=⟨0,9⟩
abbrev Cq:FuncId:=1000000+123
abbrev xL(V:List Level):AV:=.l 45 (V.map aE)
structure Vx(p:Program)(c:aA)(V F:List Level)(a:Nat)(f:List (Int×Int))(H:HP):Prop where
 w:H kJ=some (bA p (xL V) (xL F) (.f Cq [.p kJ 0]) (a:Nat) (jM FI f))
 s:H FI=some (af c)
theorem RI(p:Program)(c:aA)(V F:List Level):r9 p (fun _=>V) (fun _=>F) (uW p c V) kJ (xL V) (xL F) Cq [.p kJ 0] (Vx p c V F) where
 kw0:=rfl
 fL:=rfl
 copy:=rfl
 copy':=rfl
 box r:=⟨_,r.w⟩
 vx _:=.l _ _
 fy _:=.l _ _
 ext r h:=⟨(h kJ rfl).trans r.w,(h FI rfl).trans r.s⟩
 bump r h hb hb':=by
  rw [r.w] at hb
  have hb:=Option.some.inj hb
  have ht:=congrArg (List.drop 12) hb
  refine ⟨?_,(h FI (by decide) rfl).trans r.s⟩
  rw [hb']
  exact congrArg (fun t=>some (bA p (xL V) (xL F) (.f Cq [.p kJ 0]) _ t)) ht.symm
 call {a st pl s s' dp H} hs hA h0 hz r:=by
  obtain ⟨H',c1,c2,c3,c4⟩:=PN (kw:=kJ) (sp:=FI) h0 h0 h0 (by decide) hz r.w r.s hA hs
  refine ⟨H',?_,⟨c2,(c4 FI (by decide)).trans r.s⟩,fun q hq=>c4 q (fun e=>hq (by rw [e]))⟩
  have h1:J8 Cq=123:=rfl
  have h2:∀ args:List AV,Bf Cq [.p kJ 0] args= .p kJ 0::args:=fun args=>rfl
  rw [h1,h2]
  exact c1
noncomputable def tw(p:Program):Option (List nL):=
 (jL p).bind fun m=>(tu p).bind fun c=>(vO p (fun _=>m.Vars) (fun _=>m.Funcs) (uW p c m.Vars) []).map fun r=>r.2.map fun x=>⟨x.1,x.2⟩
abbrev Js(a0:Program)(r:List nL):Prop:=call G Ω0 E0 75 [.a (ar a0)] H0=some (.ret (.l 133 (r.map vv)),H0)
set_option maxHeartbeats 16000000 in
theorem EM(a0:Program)(r:List nL)(h:tw a0=some r):Js a0 r:=by
 obtain ⟨m,hm,h⟩:=Option.bind_eq_some_iff.1 h
 obtain ⟨c,hc,h⟩:=Option.bind_eq_some_iff.1 h
 obtain ⟨⟨a',f⟩,hg,rfl⟩:=Option.map_eq_some_iff.1 h
 have hR:=cR (E:=⟨0,false⟩) (yf a0 m hm) (by simp) (by simp [AV.pure,AV.aK])
 have hN:call G Ω0 ⟨1,false⟩ 122 [.a (ar a0)] (fun _=>none)=some (.new (af c),fun _=>none):=EL 1 (fun _=>none) (fun _ _=>rfl) a0 c hc
 obtain ⟨H1,hH1⟩:∃ H1:HP,H1=(fun k=>if k.dp=0 then (if 9=k.d then some (af c) else if 11=k.d then some (bA a0 (xL m.Vars) (xL m.Funcs) (.f Cq [.p kJ 0]) ((0:Nat):Int) (jM FI [])) else none) else H0 k):=⟨_,rfl⟩
 have r0:Vx a0 c m.Vars m.Funcs 0 [] H1:=by subst hH1;exact ⟨rfl,rfl⟩
 have l0:ax 1 H1:=fun q hq=>by subst hH1;simp only [if_neg (show ¬q.dp=0 by omega)]
 obtain ⟨H',c1,r1,c3,c4⟩:=yc (RI a0 c m.Vars m.Funcs) (dp:=1) (by decide) l0 r0 hg
 have w1:=r1.w
 have s1:=r1.s
 rw [hH1] at c1
 simp [bA,jM,xL,kJ,FI,Cq] at c1 w1 s1
 show call G Ω0 E0 75 _ _=_
 apply gU G75
 ·apply ae (by simp;rfl)
  apply ae
  ·apply kv 5
   ·rfl
   ·simp
   ·simp [-bk,hR]
    rfl
   ·simp [u7,hN,oU]
    rfl
   ·rfl
  apply ae (by simp;rfl)
  apply ae
  ·simp [bj,AV.cj,c1,St.back,bC,w1,s1]
   rfl
  apply ae (by simp;rfl)
  exact db _ _
 ·simp [Qw]
  exact fun _ _ _=>rfl
 ·rfl
end Go.Proofs.YtkkkkondjclcnaaGreat.A
