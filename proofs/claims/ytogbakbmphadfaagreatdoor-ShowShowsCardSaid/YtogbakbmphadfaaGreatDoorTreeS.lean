/- commands of trees: which are right: the program's and the document's are the same plain function. -/
import Derived.Test.YtogbakbmphadfaaGreatDoorTreeD
import Derived.Test.YtogbakbmphadfaaGreatDoorFR
set_option linter.unusedSectionVars false
set_option linter.unusedVariables false
set_option linter.unusedSimpArgs false
namespace Go.Proofs.YtogbakbmphadfaaGreatDoor.A
open Go
mutual
def nG:aa→Bool
 | ⟨k,_,nm,ot,ex,args,th,el⟩=>
  decide (1≤k∧k≤8)&&(gl nm (decide (k≠4∧k<7))&&(gl ot (decide (2≤k∧k≤4))&&(qK ex (decide (k≠2∧k≠3))&&
   ((decide (k=2)||args.isEmpty)&&((decide (7≤k)||th.isEmpty)&&((decide (k=7)||el.isEmpty)&&(args.all df&&(db th&&db el))))))))
def db:List aa→Bool
 | []=>true
 | s::r=>nG s&&db r
end
theorem zC:∀ l:List aa,db l=l.all nG
 | []=>rfl
 | x::r=>by rw [db,zC r];rfl
mutual
def HA:aa→Nat
 | ⟨_,_,_,_,_,_,th,el⟩=>1+max (uN th) (uN el)
def uN:List aa→Nat
 | []=>0
 | x::r=>max (HA x) (uN r)
end
theorem FL(s:aa):HA s=1+max (uN s.Then) (uN s.Else):=by cases s;simp only [HA]
theorem s0:∀ {l:List aa}{x:aa},x∈l→HA x≤uN l
 | y::r,x,h=>by
  simp only [uN]
  rcases List.mem_cons.1 h with rfl | h
  ·omega
  ·have:=s0 h;omega
def uO(s:aa):Prop:=∃ d n,xC s d=some n∧n≤50
def gm(l:List aa):Prop:=∃ d n,dO l d=some n∧n≤50
theorem oZ{l:List aa}(h:gm l):l.length≤50:=by
 obtain ⟨d,n,h1,h2⟩:=h
 have:=j8 l d n h1
 omega
theorem qL:∀ {l:List aa}{s:aa},gm l→s∈l→uO s
 | y::r,s,h,hm=>by
  obtain ⟨d,n,h1,h2⟩:=h
  simp only [dO] at h1
  obtain ⟨a,ha,h3⟩:=Option.bind_eq_some_iff.1 h1
  obtain ⟨b,hb,h4⟩:=Option.bind_eq_some_iff.1 h3
  obtain rfl:=Option.some.inj h4
  have ha0:=zB _ _ _ ha
  have hb0:=j8 _ _ _ hb
  rcases List.mem_cons.1 hm with rfl | hm
  ·exact ⟨d,a,ha,by omega⟩
  ·exact qL ⟨d,b,hb,by omega⟩ hm
theorem Iw{l:List aa}{d n:Int}(h:bQ l d=some n)(hn:n≤50):gm l:=by
 unfold bQ at h
 split at h
 ·cases h
 ·exact ⟨d,n,h,hn⟩
theorem yp{s:aa}(h:uO s):s.Args.length≤4∧gm s.Then∧gm s.Else:=by
 obtain ⟨d,n,h1,h2⟩:=h
 rw [sA] at h1
 split at h1
 ·cases h1
 ·rename_i hs
  obtain ⟨a,ha,h3⟩:=Option.bind_eq_some_iff.1 h1
  obtain ⟨b,hb,h4⟩:=Option.bind_eq_some_iff.1 h3
  obtain rfl:=Option.some.inj h4
  have ha0:=dI ha
  have hb0:=dI hb
  refine ⟨?_,Iw ha (by omega),Iw hb (by omega)⟩
  unfold kT at hs
  simp only [Bool.not_eq_true,Bool.or_eq_false_iff,decide_eq_false_iff_not] at hs
  omega
theorem pf{β:Type}(l:List β):(0<(l.length:Int))=(l.isEmpty=false):=by
 cases l with
 | nil=>simp
 | cons x r=>simp
theorem FM{β:Type}(l:List β):((l.length:Int)==0)=l.isEmpty:=by
 cases l with
 | nil=>rfl
 | cons x r=>rw [Bool.eq_iff_iff];simp;omega
variable [Lp]
theorem Qq(l:List ad)(hl:l.length≤1000):ep l=some (l.any fun e=>!df e):=
 j0 oC (fun e=>!df e) l (by omega) fun e _=>by
  unfold oC
  rw [Hy];rfl
noncomputable abbrev NS:=aG
theorem FN(m:Nat)(l:List aa)(hl:l.length≤50)(h:∀ s∈l,(NS m).f_tree_stmt s=some (nG s)):(NS (m+4)).f_tree_stmts l=some (db l):=by
 show oD (NS (m+3)) l=_
 unfold oD
 have hc:(NS (m+3)).f_slices_ContainsFunc__tree_stmts_1 l=some (l.any fun y=>!nG y):=
  j0 (fun y=>(NS (m+1)).f_tree_stmts_1 y) (fun y=>!nG y) l (by omega) fun y hy=>by
   show lN (NS m) y=_
   unfold lN
   rw [h y hy];rfl
 rw [hc]
 simp only [Option.bind_some]
 rw [zC,List.not_any_eq_all_not]
 simp
theorem Ix:∀ (k:Nat)(s:aa),HA s≤k→uO s→∀ n,5*k≤n→(NS n).f_tree_stmt s=some (nG s)
 | 0,s,h,_,_,_=>by rw [FL] at h;omega
 | k+1,s,h,hf,n,hn=>by
  obtain ⟨m,rfl⟩:∃ m,n=m+5:=⟨n - 5,by omega⟩
  obtain ⟨h4,hth,hel⟩:=yp hf
  rw [FL] at h
  have e1:(NS (m+4)).f_tree_stmts s.Then=some (db s.Then):=FN m s.Then (oZ hth) fun y hy=>Ix k y (by have:=s0 hy;omega) (qL hth hy) m (by omega)
  have e2:(NS (m+4)).f_tree_stmts s.Else=some (db s.Else):=FN m s.Else (oZ hel) fun y hy=>Ix k y (by have:=s0 hy;omega) (qL hel hy) m (by omega)
  have e3:=Qq s.Args (by omega)
  have hall:(s.Args.any fun y=>!df y)=!s.Args.all df:=by
   rw [←Bool.not_inj_iff,List.not_any_eq_all_not];simp
  rw [hall] at e3
  show pR (NS (m+4)) s=_
  unfold pR qC eM qD fJ
  simp only [FH,Jv,e1,e2,e3,Option.bind_some,pf]
  clear e1 e2 e3 hall hth hel h4 hf h hn
  obtain ⟨kd,at_,nm,ot,ex,args,th,el⟩:=s
  simp only [nG]
  by_cases g1:kd<1
  ·rw [if_pos g1]
   have:decide (1≤kd∧kd≤8)=false:=by simp;omega
   rw [this];rfl
  rw [if_neg g1]
  by_cases g2:8<kd
  ·rw [if_pos g2]
   have:decide (1≤kd∧kd≤8)=false:=by simp;omega
   rw [this];rfl
  rw [if_neg g2]
  have hk:kd=1∨kd=2∨kd=3∨kd=4∨kd=5∨kd=6∨kd=7∨kd=8:=by omega
  generalize args.all df=ao
  generalize db th=tho
  generalize db el=elo
  generalize args.isEmpty=ae
  generalize th.isEmpty=te
  generalize el.isEmpty=ee
  rcases hk with rfl | rfl | rfl | rfl | rfl | rfl | rfl | rfl<;>
   (simp (decide:=true) only [↓reduceIte,Int.reduceBNe,Int.reduceBEq,decide_true,decide_false,Bool.not_true,Bool.not_false,Bool.true_and,Bool.true_or,Bool.false_or]
    generalize gl nm true=n1
    generalize gl nm false=n0
    generalize gl ot true=o1
    generalize gl ot false=o0
    generalize qK ex true=x1
    generalize qK ex false=x0
    first
    | (cases n1<;>cases o0<;>cases x1<;>cases ae<;>cases te<;>cases ee<;>cases ao<;>cases tho<;>cases elo<;>rfl)
    | (cases n1<;>cases o1<;>cases x0<;>cases ae<;>cases te<;>cases ee<;>cases ao<;>cases tho<;>cases elo<;>rfl)
    | (cases n0<;>cases o1<;>cases x1<;>cases ae<;>cases te<;>cases ee<;>cases ao<;>cases tho<;>cases elo<;>rfl)
    | (cases n0<;>cases o0<;>cases x1<;>cases ae<;>cases te<;>cases ee<;>cases ao<;>cases tho<;>cases elo<;>rfl))
variable [Lp]
theorem Jy(R:kx)(a0:List aa)(i:Nat)(y:aa)(p q r:Bool)(hl:y.Args.length≤4):lp (fun v=>iN R a0 i y p q r v.1 v.2) (true,0)=some (y.Args.all df,y.Args.length,false):=by
 have:=Qc (B:=fun v:Bool×Nat=>iN R a0 i y p q r v.1 v.2) y.Args.length (fun k=>((y.Args.take k).all df,k)) (x:=(y.Args.all df,y.Args.length,false))
  (fun k hk=>by
   have ht:(y.Args.take (k+1)).all df=((y.Args.take k).all df&&df y.Args[k]):=by
    rw [List.take_succ_eq_append_getElem hk,List.all_append]
    simp
   have hw:=dq k (by omega)
   simp only [iN,List.getElem?_eq_getElem hk,Option.bind_some,xA,hw,if_true,ht]
   rw [if_pos (by omega)]
   cases (y.Args.take k).all df<;>simp)
  (by simp [iN])
 simpa using this
theorem KV:∀ (n:Nat)(l:List aa),uN l<n→gm l→(gi n).f_R_areStmts l=some (db l)
 | 0,l,h,_=>by omega
 | m+1,l,h,hf=>by
  have hlen:=oZ hf
  have hB:∀ (i:Nat)(s:aa),l[i]? =some s→iO (gi m) l i=if nG s=true then some (.inl (i+1)) else some (.inr (.inl ())):=by
   intro i s hg
   obtain ⟨hi,hs⟩:=List.getElem?_eq_some_iff.1 hg
   have hm:s∈l:=hs▸List.getElem_mem hi
   have hht:=s0 hm
   rw [FL] at hht
   obtain ⟨h4,hth,hel⟩:=yp (qL hf hm)
   have e1:=KV m s.Then (by omega) hth
   have e2:=KV m s.Else (by omega) hel
   have hw:=dq i (by omega)
   have hal:=fun p q r=>Jy (gi m) l i s p q r h4
   have hte:s.Then.isEmpty=true→db s.Then=true:=fun h=>by rw [List.isEmpty_iff.1 h];rfl
   have hee:s.Else.isEmpty=true→db s.Else=true:=fun h=>by rw [List.isEmpty_iff.1 h];rfl
   have hae:s.Args.isEmpty=true→s.Args.all df=true:=fun h=>by rw [List.isEmpty_iff.1 h];rfl
   simp only [iO,hg,Option.bind_some,xz]
   rw [if_pos (by omega)]
   unfold jP et pX gI
   simp only [pZ,xA,e1,e2,hal,Option.bind_some,FM,hw,if_true]
   clear e1 e2 hal hth hel h4 hht hm hs hi hg
   obtain ⟨kd,at_,nm,ot,ex,args,th,el⟩:=s
   simp only [nG,gl,qK] at *
   by_cases hk:1≤kd∧kd≤8
   ·have hk':kd=1∨kd=2∨kd=3∨kd=4∨kd=5∨kd=6∨kd=7∨kd=8:=by omega
    rcases hk' with rfl | rfl | rfl | rfl | rfl | rfl | rfl | rfl<;>
     (simp (decide:=true) only [↓reduceIte,Int.reduceBNe,Int.reduceBEq,decide_true,decide_false,Bool.not_true,Bool.not_false,Bool.true_and,Bool.true_or,Bool.false_or,Option.bind_some]
      generalize args.all df=ao at *
      generalize db th=tho at *
      generalize db el=elo at *
      generalize args.isEmpty=ae at *
      generalize th.isEmpty=te at *
      generalize el.isEmpty=ee at *
      generalize cA nm=n1
      generalize (nm==[])=n0
      generalize cA ot=o1
      generalize (ot==[])=o0
      generalize df ex=x1
      generalize ua ex=x0
      first
      | (cases n1<;>cases o0<;>cases x1<;>cases ae<;>cases te<;>cases ee<;>cases ao<;>cases tho<;>cases elo<;>first | rfl | (cases hte rfl;done) | (cases hee rfl;done) | (cases hae rfl;done))
      | (cases n1<;>cases o1<;>cases x0<;>cases ae<;>cases te<;>cases ee<;>cases ao<;>cases tho<;>cases elo<;>first | rfl | (cases hte rfl;done) | (cases hee rfl;done) | (cases hae rfl;done))
      | (cases n0<;>cases o1<;>cases x1<;>cases ae<;>cases te<;>cases ee<;>cases ao<;>cases tho<;>cases elo<;>first | rfl | (cases hte rfl;done) | (cases hee rfl;done) | (cases hae rfl;done))
      | (cases n0<;>cases o0<;>cases x1<;>cases ae<;>cases te<;>cases ee<;>cases ao<;>cases tho<;>cases elo<;>first | rfl | (cases hte rfl;done) | (cases hee rfl;done) | (cases hae rfl;done)))
   ·have k1:(kd==1)=false:=by simp;omega
    have k2:(kd==2)=false:=by simp;omega
    have k3:(kd==3)=false:=by simp;omega
    have k4:(kd==4)=false:=by simp;omega
    have k5:(kd==5)=false:=by simp;omega
    have k6:(kd==6)=false:=by simp;omega
    have k7:(kd==7)=false:=by simp;omega
    have k8:(kd==8)=false:=by simp;omega
    simp only [k1,k2,k3,k4,k5,k6,k7,k8,hk,Bool.false_eq_true,if_false,decide_false,Bool.false_and,Option.bind_some]
  show oE (gi m) l=_
  unfold oE
  have:=pI (B:=fun v=>iO (gi m) l v) l (fun s=>!nG s) (fun k=>k) (x:=.inl ()) (y:=.inr (l.length,false))
   (fun k hk hp=>by
    have hp':nG l[k]=true:=by simpa using hp
    rw [hB k _ (List.getElem?_eq_getElem hk),hp',if_pos rfl])
   (fun k hk hp=>by
    have hp':nG l[k]=false:=by simpa using hp
    rw [hB k _ (List.getElem?_eq_getElem hk),hp'];rfl)
   (by simp [iO])
  rw [this,zC]
  have hall:(l.any fun s=>!nG s)=!l.all nG:=by
   rw [←Bool.not_inj_iff,List.not_any_eq_all_not];simp
  rw [hall]
  cases l.all nG<;>rfl
theorem yW(l:List aa)(h:gm l):pY l=some (db l):=my (uN l+1) fun n hn=>KV n l (by omega) h
theorem FO(l:List aa)(h:gm l):pS l=some (db l):=my (5*uN l+10) fun n hn=>by
 obtain ⟨m,rfl⟩:∃ m,n=m+4:=⟨n - 4,by omega⟩
 exact FN m l (oZ h) fun s hs=>Ix (HA s) s (Nat.le_refl _) (qL h hs) m (by have:=s0 hs;omega)
def jQ(p:aD):Bool:=cA p.Owner&&p.Names.all cA
def uc(d:aE):Bool:=
 decide (1≤d.Kind∧d.Kind≤7)&&(cA d.Name&&(gl d.Other (decide (d.Kind=2))&&((decide (d.Kind=6)||d.Given==decide (d.Kind=4∨d.Kind=5))&&((d.Given||d.Label.isEmpty)&&(d.Label.all jQ&&
  ((decide (d.Kind=7)||(d.Params.isEmpty&&d.Body.isEmpty))&&(qK d.Result (decide (d.Kind=7))&&(d.Params.all cA&&db d.Body))))))))
structure FP(d:aE):Prop where
 la:d.Label.length≤4
 na:∀ p∈d.Label,p.Names.length≤6
 pa:d.Params.length≤4
 bo:gm d.Body
theorem HB:∀ {l:List aE}{n:Int},fN l=some n→n≤50→∀ d∈l,FP d
 | e::r,n,h,hn,d,hd=>by
  simp only [fN] at h
  split at h
  ·cases h
  ·rename_i hb
   obtain ⟨a,ha,h1⟩:=Option.bind_eq_some_iff.1 h
   obtain ⟨b,hb',h2⟩:=Option.bind_eq_some_iff.1 h1
   obtain rfl:=Option.some.inj h2
   have ha0:=dI ha
   have hb0:=oY hb'
   rcases List.mem_cons.1 hd with rfl | hd
   ·unfold oX at hb
    simp only [Bool.not_eq_true,Bool.or_eq_false_iff,decide_eq_false_iff_not] at hb
    obtain ⟨b1,b2,b3,b4⟩:=hb
    refine ⟨by omega,fun p hp=>?_,by omega,Iw ha (by omega)⟩
    have:=List.any_eq_false.1 b2 p hp
    simp only [q1,decide_eq_true_eq] at this
    omega
   ·exact HB hb' (by omega) d hd
theorem zD{t:Tree}(h:kU t=false):t.Decls.length≤30∧(∀ d∈t.Decls,FP d)∧gm t.Main:=by
 unfold kU at h
 simp only [Bool.or_eq_false_iff,decide_eq_false_iff_not] at h
 obtain ⟨h1,h2⟩:=h
 split at h2
 ·rename_i a b ha hb
  simp only [decide_eq_false_iff_not] at h2
  have:=oY ha
  have:=dI hb
  exact ⟨by omega,HB ha (by omega),Iw hb (by omega)⟩
 ·cases h2
theorem KY{β γ:Type}(l:List β)(m:List γ):(0<(l.length:Int)+(m.length:Int))=((l.isEmpty&&m.isEmpty)=false):=by
 cases l with
 | nil=>cases m<;>simp
 | cons x r=>
  simp
  omega
theorem ph{β:Type}(p:β→Bool)(l:List β):(l.any fun y=>!p y)=!l.all p:=by
 rw [←Bool.not_inj_iff,List.not_any_eq_all_not];simp
variable [Lp]
theorem KZ(l:List aD)(h1:l.length≤4)(h2:∀ p∈l,p.Names.length≤6):mb l=some (l.all jQ):=by
 unfold mb
 have hc:ec l=some (l.any fun p=>!jQ p):=j0 mI (fun p=>!jQ p) l (by omega) fun p hp=>by
  have hn:dM p.Names=some (p.Names.any fun s=>!cA s):=j0 kP (fun s=>!cA s) p.Names (by have:=h2 p hp;omega) fun s _=>by
   unfold kP
   rw [vo];rfl
  unfold mI jQ
  rw [vo,hn,ph]
  cases cA p.Owner<;>rfl
 rw [hc,ph]
 simp
theorem Jz(l:List (List UInt8))(h:l.length≤4):eo l=some (!l.all cA):=by
 rw [←ph]
 exact j0 oB (fun s=>!cA s) l (by omega) fun s _=>by
  unfold oB
  rw [vo];rfl
theorem M6(d:aE)(h:FP d):qW d=some (uc d):=by
 have e1:=KZ d.Label h.la h.na
 have e2:=Jz d.Params h.pa
 have e3:=FO d.Body h.bo
 have hw:IntKind.i64.wrap ((d.Params.length:Int)+(d.Body.length:Int))=(d.Params.length:Int)+(d.Body.length:Int):=eY (by omega) (by have:=h.pa;have:=oZ h.bo;omega)
 have hle:d.Label.isEmpty=true→d.Label.all jQ=true:=fun h=>by rw [List.isEmpty_iff.1 h];rfl
 have hpe:d.Params.isEmpty=true→d.Params.all cA=true:=fun h=>by rw [List.isEmpty_iff.1 h];rfl
 have hbe:d.Body.isEmpty=true→db d.Body=true:=fun h=>by rw [List.isEmpty_iff.1 h];rfl
 unfold qW qE mU iH iJ qF iI
 simp only [vo,FH,Jv,e1,e2,e3,hw,Option.bind_some,pf,KY,if_true]
 clear e1 e2 e3 hw h
 obtain ⟨kd,at_,nm,ot,gv,la,pa,bd,re⟩:=d
 simp only [uc] at *
 by_cases g1:kd<1
 ·have:decide (1≤kd∧kd≤7)=false:=by simp;omega
  rw [if_pos g1,this];rfl
 rw [if_neg g1]
 by_cases g2:7<kd
 ·have:decide (1≤kd∧kd≤7)=false:=by simp;omega
  rw [if_pos g2,this];rfl
 rw [if_neg g2]
 have hk:kd=1∨kd=2∨kd=3∨kd=4∨kd=5∨kd=6∨kd=7:=by omega
 rcases hk with rfl | rfl | rfl | rfl | rfl | rfl | rfl<;>
  (simp (decide:=true) only [↓reduceIte,Int.reduceBNe,Int.reduceBEq,decide_true,decide_false,Bool.not_true,Bool.not_false,Bool.true_and,Bool.true_or,Bool.false_or,Option.bind_some]
   generalize la.all jQ=lo at *
   generalize pa.all cA=po at *
   generalize db bd=bo at *
   generalize la.isEmpty=le at *
   generalize pa.isEmpty=pe at *
   generalize bd.isEmpty=be at *
   generalize cA nm=n1
   generalize gl ot true=o1
   generalize gl ot false=o0
   generalize qK re true=x1
   generalize qK re false=x0
   first
   | (cases n1<;>cases o0<;>cases gv<;>cases x0<;>cases le<;>cases lo<;>cases pe<;>cases po<;>cases be<;>cases bo<;>first | rfl | (cases hle rfl;done) | (cases hpe rfl;done) | (cases hbe rfl;done))
   | (cases n1<;>cases o1<;>cases gv<;>cases x0<;>cases le<;>cases lo<;>cases pe<;>cases po<;>cases be<;>cases bo<;>first | rfl | (cases hle rfl;done) | (cases hpe rfl;done) | (cases hbe rfl;done))
   | (cases n1<;>cases o0<;>cases gv<;>cases x1<;>cases le<;>cases lo<;>cases pe<;>cases po<;>cases be<;>cases bo<;>first | rfl | (cases hle rfl;done) | (cases hpe rfl;done) | (cases hbe rfl;done)))
variable [Lp]
theorem A4(d:aE)(i:Nat)(p:aD)(hg:d.Label[i]? =some p)(h:p.Names.length≤6):∃ x,lp (fun v=>ja d i v) 0=some x∧(match x with | .inl _=>p.Names.all cA=false | .inr _=>p.Names.all cA=true):=by
 have:=pI (B:=fun v=>ja d i v) p.Names (fun s=>!cA s) (fun k=>k) (x:=.inl ()) (y:=.inr (p.Names.length,false))
  (fun k hk hp=>by
   have hp':cA p.Names[k]=true:=by simpa using hp
   have hw:=dq k (by omega)
   simp only [ja,hg,Option.bind_some,List.getElem?_eq_getElem hk,pZ,hp',hw,if_true]
   rw [if_pos (by omega)])
  (fun k hk hp=>by
   have hp':cA p.Names[k]=false:=by simpa using hp
   simp only [ja,hg,Option.bind_some,List.getElem?_eq_getElem hk,pZ,hp',Bool.false_eq_true,if_false]
   rw [if_pos (by omega)])
  (by simp [ja,hg])
 rw [ph] at this
 refine ⟨_,this,?_⟩
 cases p.Names.all cA<;>rfl
theorem Iy(d:aE)(h1:d.Label.length≤4)(h2:∀ p∈d.Label,p.Names.length≤6):lp (fun v=>gj d v) 0=some (if d.Label.all jQ=true then .inr (d.Label.length,false) else .inl ()):=by
 have:=pI (B:=fun v=>gj d v) d.Label (fun p=>!jQ p) (fun k=>k) (x:=.inl ()) (y:=.inr (d.Label.length,false))
  (fun k hk hp=>by
   have hp':jQ d.Label[k]=true:=by simpa using hp
   unfold jQ at hp'
   obtain ⟨p1,p2⟩:=Bool.and_eq_true_iff.1 hp'
   have hw:=dq k (by omega)
   obtain ⟨x,hx1,hx2⟩:=A4 d k d.Label[k] (List.getElem?_eq_getElem hk) (h2 _ (List.getElem_mem hk))
   simp only [gj,Option.bind_some,List.getElem?_eq_getElem hk,pZ,p1,hw,if_true,hx1]
   rw [if_pos (by omega)]
   cases x with
   | inl y=>simp only [p2] at hx2;cases hx2
   | inr y=>rfl)
  (fun k hk hp=>by
   have hp':jQ d.Label[k]=false:=by simpa using hp
   unfold jQ at hp'
   obtain ⟨x,hx1,hx2⟩:=A4 d k d.Label[k] (List.getElem?_eq_getElem hk) (h2 _ (List.getElem_mem hk))
   simp only [gj,Option.bind_some,List.getElem?_eq_getElem hk,pZ,hx1]
   rw [if_pos (by omega)]
   cases p1:cA d.Label[k].Owner with
   | false=>simp
   | true=>
    rw [p1,Bool.true_and] at hp'
    simp only [if_true]
    cases x with
    | inl y=>rfl
    | inr y=>simp only [hp'] at hx2;cases hx2)
  (by simp [gj])
 rw [ph] at this
 show lp (fun v=>gj d v) 0=_
 rw [this]
 cases d.Label.all jQ<;>rfl
theorem Iz(d:aE)(h:d.Params.length≤4):lp (fun v=>gk d v) 0=some (if d.Params.all cA=true then .inr (d.Params.length,false) else .inl ()):=by
 have:=pI (B:=fun v=>gk d v) d.Params (fun s=>!cA s) (fun k=>k) (x:=.inl ()) (y:=.inr (d.Params.length,false))
  (fun k hk hp=>by
   have hp':cA d.Params[k]=true:=by simpa using hp
   have hw:=dq k (by omega)
   simp only [gk,Option.bind_some,List.getElem?_eq_getElem hk,pZ,hp',hw,if_true]
   rw [if_pos (by omega)])
  (fun k hk hp=>by
   have hp':cA d.Params[k]=false:=by simpa using hp
   simp only [gk,Option.bind_some,List.getElem?_eq_getElem hk,pZ,hp',Bool.false_eq_true,if_false]
   rw [if_pos (by omega)])
  (by simp [gk])
 rw [ph] at this
 show lp (fun v=>gk d v) 0=_
 rw [this]
 cases d.Params.all cA<;>rfl
theorem Du(d:aE)(h:FP d):sg d=some (uc d):=by
 have e1:=Iy d h.la h.na
 have e2:=Iz d h.pa
 have e3:=yW d.Body h.bo
 have hle:d.Label.isEmpty=true→d.Label.all jQ=true:=fun h=>by rw [List.isEmpty_iff.1 h];rfl
 have hpe:d.Params.isEmpty=true→d.Params.all cA=true:=fun h=>by rw [List.isEmpty_iff.1 h];rfl
 have hbe:d.Body.isEmpty=true→db d.Body=true:=fun h=>by rw [List.isEmpty_iff.1 h];rfl
 unfold sg rC rD dX
 simp only [pZ,tZ,e1,e2,e3,xz,xA,Option.bind_some,pf,FM]
 clear e1 e2 e3 h
 obtain ⟨kd,at_,nm,ot,gv,la,pa,bd,re⟩:=d
 simp only [uc,gl,qK] at *
 by_cases hk:1≤kd∧kd≤7
 ·have hk':kd=1∨kd=2∨kd=3∨kd=4∨kd=5∨kd=6∨kd=7:=by omega
  rcases hk' with rfl | rfl | rfl | rfl | rfl | rfl | rfl<;>
   (simp (decide:=true) only [↓reduceIte,Int.reduceBNe,Int.reduceBEq,decide_true,decide_false,Bool.not_true,Bool.not_false,Bool.true_and,Bool.true_or,Bool.false_or,Option.bind_some]
    generalize la.all jQ=lo at *
    generalize pa.all cA=po at *
    generalize db bd=bo at *
    generalize la.isEmpty=le at *
    generalize pa.isEmpty=pe at *
    generalize bd.isEmpty=be at *
    generalize cA nm=n1
    generalize cA ot=o1
    generalize (ot==[])=o0
    generalize df re=x1
    generalize ua re=x0
    first
    | (cases n1<;>cases o0<;>cases gv<;>cases x0<;>cases le<;>cases lo<;>cases pe<;>cases po<;>cases be<;>cases bo<;>first | rfl | (cases hle rfl;done) | (cases hpe rfl;done) | (cases hbe rfl;done))
    | (cases n1<;>cases o1<;>cases gv<;>cases x0<;>cases le<;>cases lo<;>cases pe<;>cases po<;>cases be<;>cases bo<;>first | rfl | (cases hle rfl;done) | (cases hpe rfl;done) | (cases hbe rfl;done))
    | (cases n1<;>cases o0<;>cases gv<;>cases x1<;>cases le<;>cases lo<;>cases pe<;>cases po<;>cases be<;>cases bo<;>first | rfl | (cases hle rfl;done) | (cases hpe rfl;done) | (cases hbe rfl;done)))
 ·simp [hk]
def qM(t:Tree):Int:=if kU t=true then 2 else if (t.Decls.all uc&&db t.Main)=true then 0 else 1
theorem K0(t:Tree):pT t=some (qM t):=by
 unfold pT qM
 rw [KU]
 simp only [Option.bind_some]
 cases hm:kU t with
 | true=>rfl
 | false=>
  obtain ⟨h1,h2,h3⟩:=zD hm
  have hc:ed t.Decls=some (t.Decls.any fun d=>!uc d):=j0 mV (fun d=>!uc d) t.Decls (by omega) fun d hd=>by
   unfold mV
   rw [M6 d (h2 d hd)];rfl
  simp only [Bool.false_eq_true,if_false]
  rw [hc,ph,FO _ h3]
  cases t.Decls.all uc<;>cases db t.Main<;>rfl
theorem FQ(t:Tree):oF t=some (qM t):=by
 unfold oF qM
 rw [G0]
 simp only [Option.bind_some]
 cases hm:kU t with
 | true=>rfl
 | false=>
  obtain ⟨h1,h2,h3⟩:=zD hm
  have hl:=pI (B:=fun v=>gJ t v) t.Decls (fun d=>!uc d) (fun k=>k) (x:=.inl ()) (y:=.inr (t.Decls.length,false))
   (fun k hk hp=>by
    have hp':uc t.Decls[k]=true:=by simpa using hp
    have hw:=dq k (by omega)
    simp only [gJ,Option.bind_some,List.getElem?_eq_getElem hk,Du _ (h2 _ (List.getElem_mem hk)),hp',hw,if_true]
    rw [if_pos (by omega)])
   (fun k hk hp=>by
    have hp':uc t.Decls[k]=false:=by simpa using hp
    simp only [gJ,Option.bind_some,List.getElem?_eq_getElem hk,Du _ (h2 _ (List.getElem_mem hk)),hp',Bool.false_eq_true,if_false]
    rw [if_pos (by omega)])
   (by simp [gJ])
  rw [ph] at hl
  simp only [Bool.false_eq_true,if_false]
  rw [hl,yW _ h3]
  cases t.Decls.all uc<;>cases db t.Main<;>rfl
end Go.Proofs.YtogbakbmphadfaaGreatDoor.A
