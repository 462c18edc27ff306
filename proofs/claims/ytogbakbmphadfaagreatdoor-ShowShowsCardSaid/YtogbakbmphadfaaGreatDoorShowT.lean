/- what trees look like: plain text functions; how long they are. -/
import Derived.Test.YtogbakbmphadfaaGreatDoorTreeS
import Derived.Lib.Join
import Derived.Lib.ItoaNum
import Derived.Lib.ItoaLen
import Derived.Test.YtogbakbmphadfaaGreatDoorFX
import Derived.Test.YtogbakbmphadfaaGreatDoorFS
set_option linter.unusedSectionVars false
set_option linter.unusedVariables false
set_option linter.unusedSimpArgs false
namespace Go.Proofs.YtogbakbmphadfaaGreatDoor.A
open Go
abbrev Bs:=List UInt8
def blank(d:Nat):Bs:=List.replicate (2*d) 32
def bX(d:Nat)(l:Bs):Bs:=blank d++(l++[10])
def yq(k:Int):Bs:=if k=3 then [43] else if k=4 then [45] else if k=5 then [42] else if k=6 then [60] else [61,61]
mutual
def dy:ad→Bs
 | ⟨k,_,n,nm,args⟩=>if k=1 then Lib.itoa n else if k=2 then nm else 40::((xD args).getD 0 []++(32::(yq k++(32::((xD args).getD 1 []++[41])))))
def xD:List ad→List Bs
 | []=>[]
 | x::r=>dy x::xD r
end
theorem FR:∀ l:List ad,xD l=l.map dy
 | []=>rfl
 | x::r=>by rw [xD,FR r];rfl
theorem FT(e:ad):dy e=if e.Kind=1 then Lib.itoa e.N else if e.Kind=2 then e.Name else 40::((e.Args.map dy).getD 0 []++(32::(yq e.Kind++(32::((e.Args.map dy).getD 1 []++[41]))))):=by
 cases e;simp only [dy,FR]
def jc(l:List Bs):Bs:=Lib.join l [44,32]
mutual
def wJ:aa→Nat→Bs
 | ⟨k,_,nm,ot,ex,args,th,el⟩,d=>
  if k=1 then bX d (nm++([32,61,32]++(dy ex++[59])))
  else if k=2 then bX d (nm++([32,61,32]++(ot++([40]++(jc (args.map dy)++[41,59])))))
  else if k=3 then bX d ([103,101,116,32]++(nm++([32]++(ot++[59]))))
  else if k=4 then bX d ([112,117,116,32]++(ot++([32]++(dy ex++[59]))))
  else if k=5 then bX d ([114,101,118,101,97,108,32]++(nm++([32]++(dy ex++[59]))))
  else if k=6 then bX d ([116,114,117,115,116,32]++(nm++([32]++(dy ex++[59]))))
  else if k=7 then bX d ([105,102,32]++(dy ex++[32,123]))++(dJ th (d+1)++((if el.isEmpty=true then [] else bX d [125,32,101,108,115,101,32,123]++dJ el (d+1))++bX d [125]))
  else bX d ([119,104,105,108,101,32]++(dy ex++[32,123]))++(dJ th (d+1)++bX d [125])
def dJ:List aa→Nat→Bs
 | [],_=>[]
 | s::r,d=>wJ s d++dJ r d
end
def nH(p:aD):Bs:=p.Owner++((if p.Write=true then [33] else [58])++(if p.Names.isEmpty=true then [] else [32]++jc p.Names))
def Dv(l:List aD):Bs:=[32,123]++(Lib.join (l.map nH) [59,32]++[125])
def yr(k:Int):Bs:=if k=1 then [97,99,116,111,114,32] else if k=2 then [103,114,97,110,116,32] else if k=3 then [115,112,101,97,107,32] else if k=4 then [105,110,32] else if k=5 then [111,117,116,32] else if k=6 then [118,97,114,32] else [102,117,110,99,32]
def s5(d:aE):Bs:=
 if d.Kind=2 then yr d.Kind++(d.Name++([32]++(d.Other++[59,10])))
 else if d.Kind=7 then yr d.Kind++(d.Name++([40]++(jc d.Params++([41,32,123,10]++(dJ d.Body 1++([32,32,114,101,116,117,114,110,32]++(dy d.Result++[59,10,125,10])))))))
 else yr d.Kind++(d.Name++((if d.Given=true then Dv d.Label else [])++[59,10]))
def EC(t:Tree):Bs:=(t.Decls.map s5).flatten++([109,97,105,110,32,123,10]++(dJ t.Main 1++[125,10]))
variable [Lp]
theorem gn{t:Bs}(h:cA t=true):t.length≤12:=by
 unfold cA at h
 cases t with
 | nil=>simp
 | cons c q=>
  have:=(pd.1 (Bool.and_eq_true_iff.1 h).1).2.2.2.2
  unfold dZ at this
  by_cases hl:(c::q).length≤12
  ·exact hl
  ·rw [if_neg (by decide),if_pos (by omega)] at this;cases this
mutual
def wE:ad→Nat
 | ⟨_,_,_,_,args⟩=>1+A5 args
def A5:List ad→Nat
 | []=>0
 | x::r=>wE x+A5 r
end
mutual
theorem ED:∀ (e:ad)(m:Int),0≤m→ky e m≤m→ky e m=wE e
 | ⟨_,_,_,_,args⟩,m,h0,h=>by
  simp only [ky,wE] at h ⊢
  rw [MC args 1 m (by omega) (by omega) h];omega
theorem MC:∀ (l:List ad)(n m:Int),1≤n→n≤m+1→sZ l n m≤m→sZ l n m=n+A5 l
 | [],n,m,h1,h2,h=>by simp only [sZ,A5];omega
 | x::r,n,m,h1,h2,h=>by
  simp only [sZ,A5] at h ⊢
  split at h
  ·omega
  ·rename_i hn
   rw [if_neg hn]
   have h3:=AZ x (m - n) (by omega)
   have h4:=FF r (n+ky x (m - n)) m (by omega) (by omega)
   have h5:=ED x (m - n) (by omega) (by omega)
   rw [MC r _ m (by omega) (by omega) h];omega
end
theorem K1{n:Int}(h : -9999999≤n∧n≤9999999):(Lib.itoa n).length≤21:=Lib.itoa_length_le n (by omega) (by omega)
theorem Dw(k:Int):(yq k).length≤2:=by unfold yq;(repeat' split)<;>simp
mutual
theorem pj:∀ e:ad,df e=true→(dy e).length≤21*wE e
 | ⟨k,a,n,nm,args⟩,h=>by
  simp only [df] at h
  simp only [dy,wE]
  split at h
  ·rename_i hk
   rw [if_pos hk]
   simp only [Bool.and_eq_true,decide_eq_true_eq] at h
   have:=K1 h.2.2;omega
  ·rename_i hk
   rw [if_neg hk]
   split at h
   ·rename_i hk2
    rw [if_pos hk2]
    simp only [Bool.and_eq_true] at h
    have:=gn h.2.2;omega
   ·rename_i hk2
    rw [if_neg hk2]
    split at h
    ·simp only [Bool.and_eq_true,beq_iff_eq] at h
     have h3:=FU args h.2.2.2
     have h4:=Dw k
     match args,h.2.2.1,h3 with
     | [x,y],_,h3=>
      simp only [xD,A5,List.getD_cons_zero,List.getD_cons_succ,List.length_cons,List.length_append,List.length_nil] at h3 ⊢
      have:=h3 (dy x) (by simp);have:=h3 (dy y) (by simp)
      have e1:=pj x (by have:=h.2.2.2;simp only [vR,Bool.and_eq_true] at this;exact this.1)
      have e2:=pj y (by have:=h.2.2.2;simp only [vR,Bool.and_eq_true] at this;exact this.2.1)
      omega
    ·cases h
theorem FU:∀ l:List ad,vR l=true→∀ x∈xD l,x.length≤21*A5 l
 | [],_,x,hx=>by cases hx
 | e::r,h,x,hx=>by
  simp only [vR,Bool.and_eq_true] at h
  simp only [xD,A5] at hx ⊢
  rcases List.mem_cons.1 hx with rfl | hx
  ·have:=pj e h.1;omega
  ·have:=FU r h.2 x hx;omega
end
theorem s6{e:ad}(h:df e=true)(hb:dN e=false):(dy e).length≤315:=by
 unfold dN at hb
 have h1:=ED e 15 (by omega) (by simpa using hb)
 have h2:ky e 15≤15:=by simpa using hb
 have:=pj e h;omega
theorem K2{l:List Bs}{c:Nat}(h:∀ x∈l,x.length≤c):l.flatten.length≤c*l.length:=by
 induction l with
 | nil=>simp
 | cons x r ih=>
  have h1:=h x (by simp);have h2:=ih fun y hy=>h y (by simp [hy])
  simp only [List.flatten_cons,List.length_append,List.length_cons,Nat.mul_succ];omega
theorem K3{l:List Bs}{sep:Bs}{c:Nat}(h:∀ x∈l,x.length≤c):(Lib.joinTail sep l).length≤(c+sep.length)*l.length:=by
 have:=K2 (l:=l.map (sep++·)) (c:=c+sep.length) fun y hy=>by
  obtain ⟨z,hz,rfl⟩:=List.mem_map.1 hy
  have:=h z hz;simp only [List.length_append];omega
 rw [List.length_map] at this
 exact this
theorem s7{l:List Bs}{sep:Bs}{c:Nat}(h:∀ x∈l,x.length≤c):(Lib.join l sep).length≤(c+sep.length)*l.length:=by
 cases l with
 | nil=>rw [Lib.join_nil];simp
 | cons x r=>
  rw [Lib.join_cons]
  have h1:=h x (by simp)
  have h2:(Lib.joinTail sep r).length≤(c+sep.length)*r.length:=K3 fun y hy=>h y (by simp [hy])
  simp only [List.length_append,List.length_cons,Nat.mul_succ];omega
theorem vT{t:Bs}{b:Bool}(h:gl t b=true):t.length≤12:=by
 unfold gl at h
 cases b with
 | true=>exact gn (by simpa using h)
 | false=>
   have:t=[]:=by simpa using h
   rw [this];simp
theorem M7{e:ad}(h:ua e=true):(dy e).length≤315:=by
 unfold ua at h
 simp only [Bool.and_eq_true,beq_iff_eq] at h
 rw [FT,h.1,List.length_eq_zero_iff.1 h.2.2.2]
 have:=Dw 0
 simp only [List.map_nil,List.getD_nil,List.length_cons,List.length_append,List.length_nil,show ¬(0:Int)=1 by decide,show ¬(0:Int)=2 by decide,if_false];omega
theorem K4{e:ad}{b:Bool}(h:qK e b=true)(hb:dN e=false):(dy e).length≤315:=by
 unfold qK at h
 cases b with
 | true=>exact s6 (by simpa using h) hb
 | false=>exact M7 (by simpa using h)
structure Qr(s:aa):Prop where
 nm:s.Name.length≤12
 ot:s.Other.length≤12
 ex:(dy s.Expr).length≤315
 al:s.Args.length≤4
 ae:∀ e∈s.Args,(dy e).length≤315
theorem FV{s:aa}(h:uO s):kT s=false:=by
 obtain ⟨d,n,h1,_⟩:=h
 rw [sA] at h1
 split at h1
 ·cases h1
 ·rename_i hs;simpa using hs
theorem FW(s:aa):nG s=(decide (1≤s.Kind∧s.Kind≤8)&&(gl s.Name (decide (s.Kind≠4∧s.Kind<7))&&(gl s.Other (decide (2≤s.Kind∧s.Kind≤4))&&(qK s.Expr (decide (s.Kind≠2∧s.Kind≠3))&&
   ((decide (s.Kind=2)||s.Args.isEmpty)&&((decide (7≤s.Kind)||s.Then.isEmpty)&&((decide (s.Kind=7)||s.Else.isEmpty)&&(s.Args.all df&&(db s.Then&&db s.Else))))))))):=by
 cases s;simp only [nG]
theorem YU{s:aa}(h:nG s=true)(hf:uO s):Qr s:=by
 have hb:=FV hf
 unfold kT at hb
 simp only [Bool.or_eq_false_iff,decide_eq_false_iff_not] at hb
 rw [FW] at h
 simp only [Bool.and_eq_true] at h
 refine ⟨vT h.2.1,vT h.2.2.1,K4 h.2.2.2.1 hb.1,by omega,fun e he=>s6 (List.all_eq_true.1 h.2.2.2.2.2.2.2.1 e he) ?_⟩
 have:=List.any_eq_false.1 hb.2.2 e he
 simpa using this
mutual
def o3:aa→Nat
 | ⟨_,_,_,_,_,_,th,el⟩=>1+(ft th+ft el)
def ft:List aa→Nat
 | []=>0
 | x::r=>o3 x+ft r
end
theorem HC{l:List aa}{d n:Int}(h:bQ l d=some n):dO l d=some n:=by
 unfold bQ at h
 split at h
 ·cases h
 ·exact h
mutual
theorem K5:∀ (s:aa)(d n:Int),xC s d=some n→n=o3 s
 | ⟨_,_,_,_,ex,args,th,el⟩,d,n,h=>by
  rw [sA] at h
  split at h
  ·cases h
  ·obtain ⟨a,ha,h1⟩:=Option.bind_eq_some_iff.1 h
   obtain ⟨b,hb,h2⟩:=Option.bind_eq_some_iff.1 h1
   obtain rfl:=Option.some.inj h2
   have h3:=vU th _ a (HC ha)
   have h4:=vU el _ b (HC hb)
   simp only [o3];omega
theorem vU:∀ (l:List aa)(d n:Int),dO l d=some n→n=ft l
 | [],d,n,h=>by
  simp only [dO] at h
  obtain rfl:=Option.some.inj h
  simp [ft]
 | s::r,d,n,h=>by
  simp only [dO] at h
  obtain ⟨a,ha,h1⟩:=Option.bind_eq_some_iff.1 h
  obtain ⟨b,hb,h2⟩:=Option.bind_eq_some_iff.1 h1
  obtain rfl:=Option.some.inj h2
  have h3:=K5 s d a ha
  have h4:=vU r d b hb
  simp only [ft];omega
end
theorem vV{l:List aa}(h:gm l):ft l≤50:=by
 obtain ⟨d,n,h1,h2⟩:=h
 have:=vU l d n h1;omega
theorem CU{s:aa}{r:List aa}(h:gm (s::r)):uO s∧gm r:=by
 refine ⟨qL h (by simp),?_⟩
 obtain ⟨d,n,h1,h2⟩:=h
 simp only [dO] at h1
 obtain ⟨a,ha,h3⟩:=Option.bind_eq_some_iff.1 h1
 obtain ⟨b,hb,h4⟩:=Option.bind_eq_some_iff.1 h3
 obtain rfl:=Option.some.inj h4
 have:=zB _ _ _ ha
 exact ⟨d,b,hb,by omega⟩
theorem fo(d:Nat)(l:Bs):(bX d l).length=2*d+l.length+1:=by
 simp only [bX,blank,List.length_append,List.length_replicate,List.length_cons,List.length_nil];omega
theorem kV{l:List Bs}{c:Nat}(h:∀ x∈l,x.length≤c):(jc l).length≤(c+2)*l.length:=s7 h
theorem zE{s:aa}(h:Qr s):(jc (s.Args.map dy)).length≤1268:=by
 have:=kV (l:=s.Args.map dy) (c:=315) fun x hx=>by
  obtain ⟨e,he,rfl⟩:=List.mem_map.1 hx
  exact h.ae e he
 rw [List.length_map] at this
 have:=h.al;omega
mutual
theorem CV:∀ (s:aa)(d:Nat),nG s=true→uO s→d+o3 s≤100→(wJ s d).length≤6000*o3 s
 | ⟨k,at_,nm,ot,ex,args,th,el⟩,d,h,hf,hd=>by
  have hl:=YU h hf
  have hin:=yp hf
  have ha:=zE hl
  obtain ⟨l1,l2,l3,l4,l5⟩:=hl
  simp only at l1 l2 l3 ha hin
  rw [FW] at h
  simp only [Bool.and_eq_true] at h
  simp only [o3] at hd ⊢
  have e1:=mh th (d+1) h.2.2.2.2.2.2.2.2.1 hin.2.1 (by omega)
  have e2:=mh el (d+1) h.2.2.2.2.2.2.2.2.2 hin.2.2 (by omega)
  have e3:(if el.isEmpty=true then ([]:Bs) else bX d [125,32,101,108,115,101,32,123]++dJ el (d+1)).length≤300+6000*ft el:=by
   split
   ·simp
   ·simp only [List.length_append,fo,List.length_cons,List.length_nil];omega
  simp only [wJ]
  repeat' split
  all_goals (simp only [List.length_append,fo,List.length_cons,List.length_nil];omega)
theorem mh:∀ (l:List aa)(d:Nat),db l=true→gm l→d+ft l≤100→(dJ l d).length≤6000*ft l
 | [],d,_,_,_=>by simp [dJ]
 | s::r,d,h,hf,hd=>by
  simp only [db,Bool.and_eq_true] at h
  simp only [ft] at hd ⊢
  have hin:=CU hf
  have e1:=CV s d h.1 hin.1 (by omega)
  have e2:=mh r d h.2 hin.2 (by omega)
  simp only [dJ,List.length_append];omega
end
theorem s8{l:List aa}{d:Nat}(h:db l=true)(hf:gm l)(hd:d≤50):(dJ l d).length≤300000:=by
 have h1:=vV hf
 have:=mh l d h hf (by omega);omega
theorem vp{p:aD}(h:jQ p=true)(hn:p.Names.length≤6):(nH p).length≤100:=by
 unfold jQ at h
 obtain ⟨h1,h2⟩:=Bool.and_eq_true_iff.1 h
 have h3:=gn h1
 have h4:=kV (l:=p.Names) (c:=12) fun x hx=>gn (List.all_eq_true.1 h2 x hx)
 unfold nH
 rw [List.length_append,List.length_append]
 have h5:(if p.Write=true then ([33]:Bs) else [58]).length=1:=by split<;>rfl
 have h6:(if p.Names.isEmpty=true then ([]:Bs) else [32]++jc p.Names).length≤85:=by
  split
  ·simp
  ·simp only [List.length_append,List.length_cons,List.length_nil];omega
 omega
theorem CW{l:List aD}(h:l.all jQ=true)(hl:l.length≤4)(hn:∀ p∈l,p.Names.length≤6):(Dv l).length≤500:=by
 have:=s7 (l:=l.map nH) (sep:=[59,32]) (c:=100) fun x hx=>by
  obtain ⟨p,hp,rfl⟩:=List.mem_map.1 hx
  exact vp (List.all_eq_true.1 h p hp) (hn p hp)
 rw [List.length_map] at this
 simp only [List.length_cons,List.length_nil] at this
 simp only [Dv,List.length_append,List.length_cons,List.length_nil];omega
theorem F2{α:Type}{c:Prop}[Decidable c]{A:Option α}{x:α}(hc:c)(h:A=some x):(if c then A else none)=some x:=by rw [if_pos hc];exact h
macro "gas" : tactic=>`(tactic| repeat (refine F2 (by first | omega | (simp only [List.length_append,List.length_cons,List.length_nil,fo];omega)) ?_))
theorem vu{u:Nat}(h:u<1000000000):(Lib.decDigits u).length≤20:=by
 rw [Lib.decDigits_length];exact Lib.nDigits_le20 u (by omega)
theorem WX{u:Nat}(h:u<10):IntKind.u8.wrap (48+(u:Int))=48+u:=by
 have:u=0∨u=1∨u=2∨u=3∨u=4∨u=5∨u=6∨u=7∨u=8∨u=9:=by omega
 rcases this with rfl | rfl | rfl | rfl | rfl | rfl | rfl | rfl | rfl | rfl<;>decide
theorem wrapM{u:Nat}(h:u<1000000000):IntKind.i64.wrap (0 - -(u:Int))= - -(u:Int):=(wrap64 (by omega) (by omega)).trans (by omega)
variable [Lp]
theorem C2:∀ (k u:Nat),u<10 ^ (k+1)→u<1000000000→∀ n,k<n→(nr n).f_R_Digits (u:Int)=some (Lib.decDigits u)
 | k,u,h,hb,0,hn=>by omega
 | k,u,h,hb,n+1,hn=>by
  show lr (nr n) u=_
  unfold lr
  rw [if_neg (by omega)]
  by_cases h10:u<10
  ·rw [if_pos (by omega),if_pos (wrap64 (by omega) (by omega)),WX h10,Lib.decDigits_one h10]
   have e:(48+(u:Int)).toNat=48+u:=by omega
   rw [if_pos (by omega),e,if_pos (by simp)]
  ·rw [if_neg (by omega)]
   have e1:(u:Int).tdiv 10=((u / 10:Nat):Int):=by
    rw [Int.tdiv_eq_ediv_of_nonneg (by omega)];omega
   have e2:(u:Int).tmod 10=((u % 10:Nat):Int):=by
    rw [Int.tmod_eq_emod_of_nonneg (by omega)];omega
   rw [e1,e2,wrapN _ (by omega)]
   match k,h with
   | 0,h=>omega
   | k+1,h=>
    have hp:(10:Nat) ^ (k+1+1)=10 ^ (k+1)*10:=Nat.pow_succ ..
    have hp1:1≤10 ^ k:=Nat.one_le_pow _ _ (by decide)
    have hp2:(10:Nat) ^ (k+1)=10 ^ k*10:=Nat.pow_succ ..
    rw [C2 k (u / 10) (by omega) (by omega) n (by omega),C2 k (u % 10) (by omega) (by omega) n (by omega)]
    simp only [Option.bind_some]
    have l1:=vu (u:=u / 10) (by omega)
    have l2:=vu (u:=u % 10) (by omega)
    rw [if_pos (by omega),Lib.decDigits_one (i:=u % 10) (by omega)]
    conv=>rhs;rw [Lib.decDigits,dif_neg h10]
theorem JA{z:Int}(h : -9999999≤z∧z≤9999999):vY z=some (Lib.itoa z):=by
 refine my 20 fun n hn=>?_
 unfold Lib.itoa
 by_cases h0:z<0
 ·rw [if_pos h0]
  obtain ⟨m,rfl⟩:∃ m,n=m+1:=⟨n - 1,by omega⟩
  obtain ⟨u,rfl⟩:∃ u:Nat,z= -(u:Int):=⟨z.natAbs,by omega⟩
  have hu:(-(u:Int)).natAbs=u:=by omega
  show lr (nr m) _=_
  unfold lr
  rw [if_pos h0,hu]
  have l0:=vu (u:=u) (by omega)
  by_cases h10:u<10
  ·rw [if_pos (by omega),if_pos (wrapM (by omega)),Int.neg_neg,C2 8 u (by omega) (by omega) m (by omega)]
   simp only [Option.bind_some]
   rw [if_pos (by simp only [List.length_cons,List.length_nil];omega)];rfl
  ·rw [if_neg (by omega)]
   have e1:(-(u:Int)).tdiv 10= -((u / 10:Nat):Int):=by
    rw [Int.neg_tdiv,Int.tdiv_eq_ediv_of_nonneg (by omega)];omega
   have e2:(-(u:Int)).tmod 10= -((u % 10:Nat):Int):=by
    rw [Int.neg_tmod,Int.tmod_eq_emod_of_nonneg (by omega)];omega
   have e3:IntKind.i64.wrap (-((u / 10:Nat):Int))= -((u / 10:Nat):Int):=eY (by omega) (by omega)
   simp only [e1,e2,e3,wrapM (u:=u / 10) (by omega),wrapM (u:=u % 10) (by omega),if_true,Int.neg_neg,C2 8 (u / 10) (by omega) (by omega) m (by omega),C2 8 (u % 10) (by omega) (by omega) m (by omega),Option.bind_some]
   have l1:=vu (u:=u / 10) (by omega)
   have l2:=vu (u:=u % 10) (by omega)
   rw [if_pos (by simp only [List.length_cons,List.length_nil];omega),if_pos (by simp only [List.length_append,List.length_cons,List.length_nil];omega),Lib.decDigits_one (i:=u % 10) (by omega)]
   conv=>rhs;rw [Lib.decDigits,dif_neg h10]
   rfl
 ·rw [if_neg h0]
  obtain ⟨u,rfl⟩:∃ u:Nat,z=(u:Int):=⟨z.toNat,by omega⟩
  exact C2 8 u (by omega) (by omega) n (by omega)
theorem JB{e:ad}(h:df e=true)(h1:e.Kind≠1)(h2:e.Kind≠2):(e.Kind=3∨e.Kind=4∨e.Kind=5∨e.Kind=6∨e.Kind=7)∧∃ x y,e.Args=[x,y]∧df x=true∧df y=true∧wE x<wE e∧wE y<wE e:=by
 obtain ⟨k,a,n,nm,args⟩:=e
 simp only [df] at h
 simp only at h1 h2
 rw [if_neg h1,if_neg h2] at h
 split at h
 ·rename_i hk
  simp only [Bool.and_eq_true,beq_iff_eq] at h
  refine ⟨by simp only;omega,?_⟩
  match args,h with
  | [x,y],h=>
   have h4:=h.2.2.2
   simp only [vR,Bool.and_eq_true] at h4
   refine ⟨x,y,rfl,h4.1,h4.2.1,?_,?_⟩<;>simp only [wE,A5]<;>omega
 ·cases h
theorem JC{e:ad}(h:df e=true)(h1:e.Kind=1) : -9999999≤e.N∧e.N≤9999999:=by
 rw [A0,if_pos h1] at h
 simp only [Bool.and_eq_true,decide_eq_true_eq] at h
 exact h.2.2
theorem C3:∀ (k:Nat)(e:ad),wE e≤k→k≤1000→df e=true→∀ n,k≤n→(mi n).f_R_ExprText e=some (dy e)
 | 0,e,h,_,_,_,_=>by cases e;simp only [wE] at h;omega
 | k+1,e,h,hk,ho,n,hn=>by
  obtain ⟨m,rfl⟩:∃ m,n=m+1:=⟨n - 1,by omega⟩
  show oG (mi m) e=_
  unfold oG
  rw [FT]
  by_cases h1:e.Kind=1
  ·simp only [h1,beq_self_eq_true,if_true,JA (JC ho h1),Option.bind_some]
  ·have e1:(e.Kind==1)=false:=by simpa using h1
   by_cases h2:e.Kind=2
   ·simp only [h2,beq_self_eq_true,if_true];rfl
   ·have e2:(e.Kind==2)=false:=by simpa using h2
    obtain ⟨hkd,x,y,ha,hx,hy,wx,wy⟩:=JB ho h1 h2
    have lx:=pj x hx
    have ly:=pj y hy
    have ex:=C3 k x (by omega) (by omega) hx m (by omega)
    have ey:=C3 k y (by omega) (by omega) hy m (by omega)
    simp only [e1,e2,Bool.false_eq_true,if_false,ha,List.map_cons,List.map_nil,List.getD_cons_zero,List.getD_cons_succ,if_neg h1,if_neg h2]
    rcases hkd with hkd | hkd | hkd | hkd | hkd<;>
     (rw [hkd]
      simp only [show dG 3=some 3 from rfl,show dG 4=some 4 from rfl,show dG 5=some 5 from rfl,show dG 6=some 6 from rfl,show dG 7=some 7 from rfl,Option.bind_some,List.getElem?_cons_zero,List.getElem?_cons_succ,ex,ey]
      gas
      simp [yq])
theorem uV{e:ad}(h:df e=true)(hb:dN e=false):mj e=some (dy e):=by
 have h1:ky e 15≤15:=by unfold dN at hb;simpa using hb
 have h2:=ED e 15 (by omega) h1
 exact my 1000 fun n hn=>C3 1000 e (by omega) (by omega) h n (by omega)
theorem IC:∀ (k:Nat)(e:ad),wE e≤k→k≤1000→df e=true→∀ n,k≤n→(ov n).f_show_expr e=some (dy e)
 | 0,e,h,_,_,_,_=>by cases e;simp only [wE] at h;omega
 | k+1,e,h,hk,ho,n,hn=>by
  obtain ⟨m,rfl⟩:∃ m,n=m+1:=⟨n - 1,by omega⟩
  show p7 (ov m) e=_
  unfold p7
  rw [FT]
  by_cases h1:e.Kind=1
  ·have hz:=JC ho h1
   have:yi e.N=some (Lib.itoa e.N):=by unfold yi;rw [if_pos (by omega)]
   simp only [h1,beq_self_eq_true,if_true,this,Option.bind_some]
  ·have e1:(e.Kind==1)=false:=by simpa using h1
   by_cases h2:e.Kind=2
   ·simp only [h2,beq_self_eq_true,if_true];rfl
   ·have e2:(e.Kind==2)=false:=by simpa using h2
    obtain ⟨hkd,x,y,ha,hx,hy,wx,wy⟩:=JB ho h1 h2
    have lx:=pj x hx
    have ly:=pj y hy
    have ex:=IC k x (by omega) (by omega) hx m (by omega)
    have ey:=IC k y (by omega) (by omega) hy m (by omega)
    simp only [e1,e2,Bool.false_eq_true,if_false,ha,List.map_cons,List.map_nil,List.getD_cons_zero,List.getD_cons_succ,if_neg h1,if_neg h2]
    rcases hkd with hkd | hkd | hkd | hkd | hkd<;>
     (rw [hkd,if_pos (by decide)]
      simp only [show dG (3 - 3)=some 0 from rfl,show dG (4 - 3)=some 1 from rfl,show dG (5 - 3)=some 2 from rfl,show dG (6 - 3)=some 3 from rfl,show dG (7 - 3)=some 4 from rfl,Option.bind_some,List.getElem?_cons_zero,List.getElem?_cons_succ,ex,ey]
      gas
      simp [yq])
theorem C4{e:ad}(h:df e=true)(hb:dN e=false):eF e=some (dy e):=by
 have h1:ky e 15≤15:=by unfold dN at hb;simpa using hb
 have h2:=ED e 15 (by omega) h1
 exact my 1000 fun n hn=>IC 1000 e (by omega) (by omega) h n (by omega)
theorem v8{l:List Bs}{sep:Bs}(c:Nat)(h:∀ x∈l,x.length≤c)(hc:c≤1000)(hs:sep.length≤2)(hl:l.length≤10):oz l sep=some (Lib.join l sep):=by
 have h1:=s7 (sep:=sep) h
 have h2:(c+sep.length)*l.length≤1002*10:=Nat.mul_le_mul (by omega) hl
 unfold oz
 rw [if_pos ⟨by omega,by omega⟩]
theorem xG{l:List Bs}(c:Nat)(h:∀ x∈l,x.length≤c)(hc:c≤1000)(hl:l.length≤10):kW l=some (jc l):=by
 have loop:∀ (rest:List Bs)(i:Nat)(acc:Bs),l.drop i=rest→0<i→(∀ x∈rest,x.length≤c)→acc.length+1002*rest.length≤20000→
   ∃ y,lp (fun v=>dU l v.1 v.2) (acc,i)=some (acc++Lib.joinTail [44,32] rest,y):=by
  intro rest
  induction rest with
  | nil=>
   intro i acc hd hi _ _
   have hlen:l.length≤i:=List.drop_eq_nil_iff.1 hd
   refine ⟨(i,decide ((i:Int)<(l.length:Int))),bZ (B:=fun v:Bs×Nat=>dU l v.1 v.2) ?_⟩
   simp only [dU]
   rw [if_neg (by omega)]
   simp [Lib.joinTail]
  | cons x r ih=>
   intro i acc hd hi hx hb
   obtain ⟨hlt,hg,hr⟩:=fM hd
   have hx1:=hx x (by simp)
   simp only [List.length_cons] at hb
   obtain ⟨y,hy⟩:=ih (i+1) (acc++[44,32]++x) hr (by omega) (fun y hy=>hx y (by simp [hy])) (by simp only [List.length_append,List.length_cons,List.length_nil];omega)
   refine ⟨y,?_⟩
   rw [de (B:=fun v:Bs×Nat=>dU l v.1 v.2) (w:=(acc++[44,32]++x,i+1)),hy]
   ·simp [Lib.joinTail]
   ·simp only [dU,lh,hg,Option.bind_some]
    rw [if_pos (by omega),if_pos (by omega)]
    gas
    rw [if_pos (by simp only [List.length_append,List.length_cons,List.length_nil];omega)]
    simp only [Option.bind_some]
    rw [if_pos (dq i (by omega))]
 unfold kW jc
 cases l with
 | nil=>
  rw [bZ (B:=fun v:Bs×Nat=>dU [] v.1 v.2) (x:=([],0,false)) (by simp [dU])];rfl
 | cons x r=>
  have hx1:=h x (by simp)
  simp only [List.length_cons] at hl
  obtain ⟨y,hy⟩:=loop r 1 x rfl (by omega) (fun y hy=>h y (by simp [hy])) (by omega)
  rw [de (B:=fun v:Bs×Nat=>dU (x::r) v.1 v.2) (w:=(x,1)),hy]
  ·rw [Lib.join_cons];rfl
  ·simp only [dU,lh,List.getElem?_cons_zero,Option.bind_some]
   rw [if_pos (by simp only [List.length_cons];omega),if_neg (by omega),if_pos (by simp only [List.length_nil];omega)]
   simp only [Option.bind_some]
   rw [if_pos (dq 0 (by omega)),List.nil_append]
theorem M8{l:List ad}{sep:Bs}(hs:sep.length≤2)(hl:l.length≤4)(h:∀ e∈l,df e=true∧dN e=false):fT l sep=some (Lib.join (l.map dy) sep):=by
 have loop:∀ (rest:List ad)(i:Nat)(acc:List Bs),l.drop i=rest→(∀ e∈rest,df e=true∧dN e=false)→acc.length+rest.length≤10→
   ∃ y,lp (fun v=>cP l sep v.1 v.2) (acc,i)=some (acc++rest.map dy,y):=by
  intro rest
  induction rest with
  | nil=>
   intro i acc hd _ _
   have hlen:l.length≤i:=List.drop_eq_nil_iff.1 hd
   refine ⟨(i,decide ((i:Int)<(l.length:Int))),bZ (B:=fun v:List Bs×Nat=>cP l sep v.1 v.2) ?_⟩
   simp only [cP]
   rw [if_neg (by omega)]
   simp
  | cons x r ih=>
   intro i acc hd hx hb
   obtain ⟨hlt,hg,hr⟩:=fM hd
   have hx1:=hx x (by simp)
   simp only [List.length_cons] at hb
   obtain ⟨y,hy⟩:=ih (i+1) (acc++[dy x]) hr (fun y hy=>hx y (by simp [hy])) (by simp only [List.length_append,List.length_cons,List.length_nil];omega)
   refine ⟨y,?_⟩
   rw [de (B:=fun v:List Bs×Nat=>cP l sep v.1 v.2) (w:=(acc++[dy x],i+1)),hy]
   ·simp
   ·simp only [cP,hg,Option.bind_some,C4 hx1.1 hx1.2]
    rw [if_pos (by omega)]
    gas
    rw [if_pos (dq i (by omega))]
 obtain ⟨y,hy⟩:=loop l 0 [] rfl h (by simp only [List.length_nil];omega)
 unfold fT
 rw [hy]
 simp only [Option.bind_some,List.nil_append]
 rw [v8 315 (fun x hx=>by
  obtain ⟨e,he,rfl⟩:=List.mem_map.1 hx
  exact s6 (h e he).1 (h e he).2) (by omega) hs (by rw [List.length_map];omega)]
 rfl
theorem JD{p:aD}(h:jQ p=true)(hn:p.Names.length≤6):oJ p=some (nH p):=by
 have hh:=h
 unfold jQ at h
 obtain ⟨h1,h2⟩:=Bool.and_eq_true_iff.1 h
 have h3:=gn h1
 have hj:=v8 (sep:=[44,32]) (l:=p.Names) 12 (fun x hx=>gn (List.all_eq_true.1 h2 x hx)) (by omega) (by simp) (by omega)
 have h4:=kV (l:=p.Names) (c:=12) fun x hx=>gn (List.all_eq_true.1 h2 x hx)
 have hd:∀ w:Bs,w.length≤100→jg p w=some (w++(if p.Names.isEmpty=true then [] else [32]++jc p.Names)):=fun w hw=>by
  unfold jg
  simp only [hj,pf,Option.bind_some]
  unfold jc at h4 ⊢
  cases p.Names.isEmpty with
  | true=>simp
  | false=>
   simp only [if_true,Bool.false_eq_true,if_false]
   gas
   rfl
 unfold oJ nH
 rw [if_pos (by simp only [List.length_cons,List.length_nil];omega)]
 cases p.Write with
 | true=>
  simp only [if_true]
  rw [if_pos (by simp only [List.length_cons,List.length_nil];omega),hd _ (by simp only [List.length_append,List.length_cons,List.length_nil];omega)]
  simp
 | false=>
  simp only [Bool.false_eq_true,if_false]
  rw [hd _ (by simp only [List.length_append,List.length_cons,List.length_nil];omega)]
  simp
theorem JE{l:List aD}(h:l.all jQ=true)(hl:l.length≤4)(hn:∀ p∈l,p.Names.length≤6):p8 l=some (Dv l):=by
 have loop:∀ (rest:List aD)(i:Nat)(acc:List Bs),l.drop i=rest→(∀ e∈rest,jQ e=true∧e.Names.length≤6)→acc.length+rest.length≤10→
   ∃ y,lp (fun v=>cE l [59,32] v.1 v.2) (acc,i)=some (acc++rest.map nH,y):=by
  intro rest
  induction rest with
  | nil=>
   intro i acc hd _ _
   have hlen:l.length≤i:=List.drop_eq_nil_iff.1 hd
   refine ⟨(i,decide ((i:Int)<(l.length:Int))),bZ (B:=fun v:List Bs×Nat=>cE l [59,32] v.1 v.2) ?_⟩
   simp only [cE]
   rw [if_neg (by omega)]
   simp
  | cons x r ih=>
   intro i acc hd hx hb
   obtain ⟨hlt,hg,hr⟩:=fM hd
   have hx1:=hx x (by simp)
   simp only [List.length_cons] at hb
   obtain ⟨y,hy⟩:=ih (i+1) (acc++[nH x]) hr (fun y hy=>hx y (by simp [hy])) (by simp only [List.length_append,List.length_cons,List.length_nil];omega)
   refine ⟨y,?_⟩
   rw [de (B:=fun v:List Bs×Nat=>cE l [59,32] v.1 v.2) (w:=(acc++[nH x],i+1)),hy]
   ·simp
   ·simp only [cE,hg,Option.bind_some,JD hx1.1 hx1.2]
    rw [if_pos (by omega)]
    gas
    rw [if_pos (dq i (by omega))]
 obtain ⟨y,hy⟩:=loop l 0 [] rfl (fun e he=>⟨List.all_eq_true.1 h e he,hn e he⟩) (by simp only [List.length_nil];omega)
 have hc:∀ x∈l.map nH,x.length≤100:=fun x hx=>by
  obtain ⟨e,he,rfl⟩:=List.mem_map.1 hx
  exact vp (List.all_eq_true.1 h e he) (hn e he)
 have hj:=s7 (l:=l.map nH) (sep:=[59,32]) hc
 rw [List.length_map] at hj
 simp only [List.length_cons,List.length_nil] at hj
 unfold p8 jh Dv
 rw [hy]
 simp only [Option.bind_some,List.nil_append]
 rw [v8 100 hc (by omega) (by simp) (by rw [List.length_map];omega)]
 simp only [Option.bind_some]
 gas
 simp
end Go.Proofs.YtogbakbmphadfaaGreatDoor.A
