/- commands, the document's text. -/
import Derived.Test.YtogbakbmphadfaaGreatDoorShowT
import Derived.Test.YtogbakbmphadfaaGreatDoorFL
set_option linter.unusedSectionVars false
set_option linter.unusedVariables false
set_option linter.unusedSimpArgs false
namespace Go.Proofs.YtogbakbmphadfaaGreatDoor.A
open Go
theorem Dx(d:Nat):(blank d).length=2*d:=by simp [blank]
theorem Bh(d:Nat):blank d++[32,32]=blank (d+1):=by
 unfold blank
 show List.replicate (2*d) 32++List.replicate 2 32=_
 rw [List.replicate_append_replicate];rfl
theorem F3(s:aa)(d:Nat):wJ s d=
  if s.Kind=1 then bX d (s.Name++([32,61,32]++(dy s.Expr++[59])))
  else if s.Kind=2 then bX d (s.Name++([32,61,32]++(s.Other++([40]++(jc (s.Args.map dy)++[41,59])))))
  else if s.Kind=3 then bX d ([103,101,116,32]++(s.Name++([32]++(s.Other++[59]))))
  else if s.Kind=4 then bX d ([112,117,116,32]++(s.Other++([32]++(dy s.Expr++[59]))))
  else if s.Kind=5 then bX d ([114,101,118,101,97,108,32]++(s.Name++([32]++(dy s.Expr++[59]))))
  else if s.Kind=6 then bX d ([116,114,117,115,116,32]++(s.Name++([32]++(dy s.Expr++[59]))))
  else if s.Kind=7 then bX d ([105,102,32]++(dy s.Expr++[32,123]))++(dJ s.Then (d+1)++((if s.Else.isEmpty=true then [] else bX d [125,32,101,108,115,101,32,123]++dJ s.Else (d+1))++bX d [125]))
  else bX d ([119,104,105,108,101,32]++(dy s.Expr++[32,123]))++(dJ s.Then (d+1)++bX d [125]):=by
 cases s;simp only [wJ]
theorem yt(s:aa):o3 s=1+(ft s.Then+ft s.Else):=by cases s;simp only [o3]
structure Qs(s:aa):Prop where
 kd:s.Kind=1∨s.Kind=2∨s.Kind=3∨s.Kind=4∨s.Kind=5∨s.Kind=6∨s.Kind=7∨s.Kind=8
 ex:s.Kind≠2→s.Kind≠3→df s.Expr=true∧dN s.Expr=false∧ua s.Expr=false
 no:s.Kind=2∨s.Kind=3→ua s.Expr=true
 ar:∀ e∈s.Args,df e=true∧dN e=false
 th:db s.Then=true∧gm s.Then
 el:db s.Else=true∧gm s.Else
 e8:s.Kind=8→s.Else=[]
 li:Qr s
theorem M9{e:ad}(h:df e=true):ua e=false:=by
 rw [A0] at h
 have:e.Kind≠0:=by
  intro h0
  rw [h0] at h
  simp at h
 unfold ua
 have h2:(e.Kind==0)=false:=by simpa using this
 rw [h2];rfl
theorem Qt{l:List aa}(h:l.isEmpty=true):l=[]:=List.isEmpty_iff.1 h
section
variable [Lp]
theorem YV{s:aa}(h:nG s=true)(hf:uO s):Qs s:=by
 have hl:=YU h hf
 have hb:=FV hf
 have hin:=yp hf
 unfold kT at hb
 simp only [Bool.or_eq_false_iff,decide_eq_false_iff_not] at hb
 rw [FW] at h
 simp only [Bool.and_eq_true,decide_eq_true_eq] at h
 obtain ⟨hk,_,_,hx,_,_,h7,ha,ht,he⟩:=h
 refine ⟨by omega,fun h2 h3=>?_,fun h23=>?_,fun e hm=>⟨List.all_eq_true.1 ha e hm,?_⟩,⟨ht,hin.2.1⟩,⟨he,hin.2.2⟩,fun h8=>?_,hl⟩
 ·have hd:decide (s.Kind≠2∧s.Kind≠3)=true:=by simpa using ⟨h2,h3⟩
  rw [hd] at hx
  have hx':df s.Expr=true:=hx
  exact ⟨hx',hb.1,M9 hx'⟩
 ·have hd:decide (s.Kind≠2∧s.Kind≠3)=false:=by simp;omega
  rw [hd] at hx
  exact hx
 ·have:=List.any_eq_false.1 hb.2.2 e hm
  simpa using this
 ·rw [h8] at h7
  exact Qt (by simpa using h7)
variable {R:jD}
theorem WY{s:aa}(h:Qs s)(l:List aa)(a acc:Bs)(i:Nat):∃ y,lp (fun v=>eu R l a acc i s v.1 v.2) (([]:List Bs),0)=some (s.Args.map dy,y):=by
 have hal:=h.li.al
 have loop:∀ (rest:List ad)(j:Nat)(bs:List Bs),s.Args.drop j=rest→(∀ e∈rest,df e=true∧dN e=false)→bs.length+rest.length≤10→
   ∃ y,lp (fun v=>eu R l a acc i s v.1 v.2) (bs,j)=some (bs++rest.map dy,y):=by
  intro rest
  induction rest with
  | nil=>
   intro j bs hd _ _
   have hlen:s.Args.length≤j:=List.drop_eq_nil_iff.1 hd
   refine ⟨(j,decide ((j:Int)<(s.Args.length:Int))),bZ (B:=fun v:List Bs×Nat=>eu R l a acc i s v.1 v.2) ?_⟩
   simp only [eu]
   rw [if_neg (by omega)]
   simp
  | cons x r ih=>
   intro j bs hd hx hb
   obtain ⟨hlt,hg,hr⟩:=fM hd
   have hx1:=hx x (by simp)
   simp only [List.length_cons] at hb
   obtain ⟨y,hy⟩:=ih (j+1) (bs++[dy x]) hr (fun y hy=>hx y (by simp [hy])) (by simp only [List.length_append,List.length_cons,List.length_nil];omega)
   refine ⟨y,?_⟩
   rw [de (B:=fun v:List Bs×Nat=>eu R l a acc i s v.1 v.2) (w:=(bs++[dy x],j+1)),hy]
   ·simp
   ·simp only [eu,hg,Option.bind_some,uV hx1.1 hx1.2]
    rw [if_pos (by omega)]
    gas
    rw [if_pos (dq j (by omega))]
 obtain ⟨y,hy⟩:=loop s.Args 0 [] rfl h.ar (by have:=h.li.al;simp only [List.length_nil];omega)
 exact ⟨y,by rw [hy];simp⟩
theorem Na{s:aa}{d:Nat}(h:Qs s)(l:List aa)(acc:Bs)(i:Nat)(hb:acc.length+6000*o3 s≤900000000)(hd:d+o3 s≤100)
  (hT:R.f_R_StmtsText s.Then (blank d++[32,32])=some (dJ s.Then (d+1))) (hE:R.f_R_StmtsText s.Else (blank d++[32,32])=some (dJ s.Else (d+1))) :
  jd R l (blank d) acc i s (if ua s.Expr=true then [] else dy s.Expr)=some (if s.Kind=3 then .inr (.inl ()) else .inl (acc++wJ s d)):=by
 obtain ⟨y,hy⟩:=WY (R:=R) h l (blank d) acc i
 have hl:=h.li
 have hbl:=Dx d
 rw [yt] at hb hd
 have l1:=hl.nm
 have l2:=hl.ot
 have l3:=hl.ex
 have l4:=zE hl
 have l5:=mh s.Then (d+1) h.th.1 h.th.2 (by omega)
 have l6:=mh s.Else (d+1) h.el.1 h.el.2 (by omega)
 have hc:kW (s.Args.map dy)=some (jc (s.Args.map dy)):=xG 315 (fun x hx=>by
  obtain ⟨e,he,rfl⟩:=List.mem_map.1 hx
  exact s6 (h.ar e he).1 (h.ar e he).2) (by omega) (by rw [List.length_map];have:=hl.al;omega)
 rw [F3]
 unfold jd kX
 rcases h.kd with hk | hk | hk | hk | hk | hk | hk | hk
 ·simp only [hk,(h.ex (by omega) (by omega)).2.2,beq_self_eq_true,if_true,Bool.false_eq_true,if_false,show ¬(1:Int)=3 by decide]
  gas
  simp only [bX,List.append_assoc,List.cons_append,List.nil_append]
 ·simp only [hk,beq_self_eq_true,if_true,show ((2:Int)==1)=false from rfl,Bool.false_eq_true,if_false,show ¬(2:Int)=1 by decide,show ¬(2:Int)=3 by decide,hy,hc,Option.bind_some]
  gas
  simp only [bX,List.append_assoc,List.cons_append,List.nil_append]
 ·simp only [hk,beq_self_eq_true,if_true,show ((3:Int)==1)=false from rfl,show ((3:Int)==2)=false from rfl,Bool.false_eq_true,if_false]
  gas
  rfl
 ·simp only [hk,(h.ex (by omega) (by omega)).2.2,beq_self_eq_true,if_true,show ((4:Int)==1)=false from rfl,show ((4:Int)==2)=false from rfl,show ((4:Int)==3)=false from rfl,Bool.false_eq_true,if_false,show ¬(4:Int)=1 by decide,show ¬(4:Int)=2 by decide,show ¬(4:Int)=3 by decide]
  gas
  simp only [bX,List.append_assoc,List.cons_append,List.nil_append]
 ·simp only [hk,(h.ex (by omega) (by omega)).2.2,beq_self_eq_true,if_true,show ((5:Int)==1)=false from rfl,show ((5:Int)==2)=false from rfl,show ((5:Int)==3)=false from rfl,show ((5:Int)==4)=false from rfl,Bool.false_eq_true,if_false,show ¬(5:Int)=1 by decide,show ¬(5:Int)=2 by decide,show ¬(5:Int)=3 by decide,show ¬(5:Int)=4 by decide]
  gas
  simp only [bX,List.append_assoc,List.cons_append,List.nil_append]
 ·simp only [hk,(h.ex (by omega) (by omega)).2.2,beq_self_eq_true,if_true,show ((6:Int)==1)=false from rfl,show ((6:Int)==2)=false from rfl,show ((6:Int)==3)=false from rfl,show ((6:Int)==4)=false from rfl,show ((6:Int)==5)=false from rfl,Bool.false_eq_true,if_false,show ¬(6:Int)=1 by decide,show ¬(6:Int)=2 by decide,show ¬(6:Int)=3 by decide,show ¬(6:Int)=4 by decide,show ¬(6:Int)=5 by decide]
  gas
  simp only [bX,List.append_assoc,List.cons_append,List.nil_append]
 ·simp only [hk,(h.ex (by omega) (by omega)).2.2,beq_self_eq_true,if_true,show ((7:Int)==1)=false from rfl,show ((7:Int)==2)=false from rfl,show ((7:Int)==3)=false from rfl,show ((7:Int)==4)=false from rfl,show ((7:Int)==5)=false from rfl,show ((7:Int)==6)=false from rfl,Bool.false_eq_true,if_false,show ¬(7:Int)=1 by decide,show ¬(7:Int)=2 by decide,show ¬(7:Int)=3 by decide,show ¬(7:Int)=4 by decide,show ¬(7:Int)=5 by decide,show ¬(7:Int)=6 by decide,hT,hE,Option.bind_some,pf]
  cases hem:s.Else.isEmpty with
  | true=>
   simp only [show ¬true=false by decide,if_false,if_true]
   gas
   refine (congrArg (fun o:Option Bs=>o.bind fun x=>some (Sum.inl x)) (F2 (x:=acc++(blank d++[105,102,32]++dy s.Expr++[32,123,10]++dJ s.Then (d+1))++(blank d++[125,10])) ?_ (F2 ?_ rfl))).trans ?_
   ·simp only [List.length_append,List.length_cons,List.length_nil];omega
   ·simp only [List.length_append,List.length_cons,List.length_nil];omega
   ·simp only [Option.bind_some,bX,List.append_assoc,List.cons_append,List.nil_append]
  | false=>
   simp only [Bool.false_eq_true,if_false,if_true]
   gas
   refine (congrArg (fun o:Option Bs=>o.bind fun x=>some (Sum.inl x)) (F2 (x:=acc++(blank d++[105,102,32]++dy s.Expr++[32,123,10]++dJ s.Then (d+1))++(blank d++[125,32,101,108,115,101,32,123,10]++dJ s.Else (d+1))++(blank d++[125,10])) ?_ (F2 ?_ rfl))).trans ?_
   ·simp only [List.length_append,List.length_cons,List.length_nil];omega
   ·simp only [List.length_append,List.length_cons,List.length_nil];omega
   ·simp only [Option.bind_some,bX,List.append_assoc,List.cons_append,List.nil_append]
 ·simp only [hk,(h.ex (by omega) (by omega)).2.2,beq_self_eq_true,if_true,show ((8:Int)==1)=false from rfl,show ((8:Int)==2)=false from rfl,show ((8:Int)==3)=false from rfl,show ((8:Int)==4)=false from rfl,show ((8:Int)==5)=false from rfl,show ((8:Int)==6)=false from rfl,show ((8:Int)==7)=false from rfl,Bool.false_eq_true,if_false,show ¬(8:Int)=1 by decide,show ¬(8:Int)=2 by decide,show ¬(8:Int)=3 by decide,show ¬(8:Int)=4 by decide,show ¬(8:Int)=5 by decide,show ¬(8:Int)=6 by decide,show ¬(8:Int)=7 by decide,hT,hE,Option.bind_some,pf]
  gas
  simp only [bX,List.append_assoc,List.cons_append,List.nil_append]
end
variable [Lp]
theorem wa:∀ (k:Nat)(l:List aa)(d:Nat),ft l≤k→db l=true→gm l→d+ft l≤100→∀ n,k<n→(fp n).f_R_StmtsText l (blank d)=some (dJ l d)
 | k,l,d,hk,ho,hf,hd,0,hn=>by omega
 | k,l,d,hk,ho,hf,hd,m+1,hn=>by
  show nu (fp m) l (blank d)=_
  have hcl:=vV hf
  have loop:∀ (rest:List aa)(i:Nat)(acc:Bs),l.drop i=rest→db rest=true→gm rest→ft rest≤ft l→i+rest.length≤1000→acc.length+6000*ft rest≤900000000→
    ∃ y,lp (fun v=>e9 (fp m) l (blank d) v.1 v.2) (acc,i)=some (acc++dJ rest d,y):=by
   intro rest
   induction rest with
   | nil=>
    intro i acc hdr _ _ _ _ _
    have hlen:l.length≤i:=List.drop_eq_nil_iff.1 hdr
    refine ⟨(i,decide ((i:Int)<(l.length:Int))),bZ (B:=fun v:Bs×Nat=>e9 (fp m) l (blank d) v.1 v.2) ?_⟩
    simp only [e9]
    rw [if_neg (by omega)]
    simp [dJ]
   | cons s r ih=>
    intro i acc hdr hor hfr hc hi hb
    obtain ⟨hlt,hg,hr⟩:=fM hdr
    simp only [db,Bool.and_eq_true] at hor
    obtain ⟨hfs,hfr'⟩:=CU hfr
    have hri:=YV hor.1 hfs
    simp only [List.length_cons] at hi
    simp only [ft] at hc hb
    have hs:=CV s d hor.1 hfs (by omega)
    obtain ⟨y,hy⟩:=ih (i+1) (acc++wJ s d) hr hor.2 hfr' (by omega) (by omega) (by simp only [List.length_append];omega)
    refine ⟨y,?_⟩
    have hcs:=yt s
    have eT:=Bh d▸wa (k - 1) s.Then (d+1) (by omega) hri.th.1 hri.th.2 (by omega) m (by omega)
    have eE:=Bh d▸wa (k - 1) s.Else (d+1) (by omega) hri.el.1 hri.el.2 (by omega) m (by omega)
    have hD:=Na hri l acc i (by omega) (by omega) eT eE
    rw [de (B:=fun v:Bs×Nat=>e9 (fp m) l (blank d) v.1 v.2) (w:=(acc++wJ s d,i+1)),hy]
    ·simp [dJ]
    ·simp only [e9,hg,Option.bind_some,xz]
     rw [if_pos (by omega)]
     by_cases h3:s.Kind=3
     ·have hno:=hri.no (.inr h3)
      rw [hno] at hD ⊢
      simp only [if_true,h3] at hD ⊢
      rw [hD]
      simp only [Option.bind_some]
      rw [if_pos (dq i (by omega)),F3]
      simp only [h3,show ¬(3:Int)=1 by decide,show ¬(3:Int)=2 by decide,if_false,if_true,bX,List.append_assoc,List.cons_append,List.nil_append]
     ·rw [if_neg h3] at hD
      by_cases h2:s.Kind=2
      ·have hno:=hri.no (.inl h2)
       rw [hno] at hD ⊢
       simp only [if_true] at hD ⊢
       rw [hD]
       simp only [Option.bind_some]
       rw [if_pos (dq i (by omega))]
      ·have hx:=hri.ex h2 h3
       rw [hx.2.2] at hD ⊢
       simp only [Bool.false_eq_true,if_false] at hD ⊢
       rw [uV hx.1 hx.2.1]
       simp only [Option.bind_some]
       rw [hD]
       simp only [Option.bind_some]
       rw [if_pos (dq i (by omega))]
  have hlen:=oZ hf
  obtain ⟨y,hy⟩:=loop l 0 [] rfl ho hf (Nat.le_refl _) (by omega) (by simp only [List.length_nil];omega)
  unfold nu
  rw [hy]
  simp
theorem xH{l:List aa}{d:Nat}(h:db l=true)(hf:gm l)(hd:d≤50):oH l (blank d)=some (dJ l d):=by
 have:=vV hf
 exact my 100 fun n hn=>wa 50 l d (by omega) h hf (by omega) n (by omega)
theorem F4{l:List aD}(h:l.all jQ=true)(hl:l.length≤4)(hn:∀ p∈l,p.Names.length≤6):oI l=some (123::(Lib.join (l.map nH) [59,32]++[125])):=by
 have rnd:∀ (p:aD)(i:Nat)(w:Bs),l[i]? =some p→jQ p=true→p.Names.length≤6→w.length≤10000→jf l i w=some (if p.Names.isEmpty=true then .inr (w++nH p,false) else .inl (w++nH p)):=by
  intro p i w hg hp hpn hw
  have hh:=hp
  unfold jQ at hp
  obtain ⟨h1,h2⟩:=Bool.and_eq_true_iff.1 hp
  have h3:=gn h1
  have hnl:∀ x∈p.Names,x.length≤12:=fun x hx=>gn (List.all_eq_true.1 h2 x hx)
  have h4:=kV hnl
  have hc:=xG 12 hnl (by omega) (by omega)
  have hd2:∀ u:Bs,u.length≤20000→je l i u=some (if p.Names.isEmpty=true then .inr (u,false) else .inl (u++([32]++jc p.Names))):=by
   intro u hu
   unfold je
   simp only [hg,Option.bind_some,hc,pf]
   cases p.Names.isEmpty with
   | true=>simp
   | false=>
    simp only [if_true,Bool.false_eq_true,if_false]
    gas
    rfl
  unfold jf nH
  simp only [hg,Option.bind_some]
  rw [if_pos (by omega)]
  cases hw':p.Write with
  | true=>
   simp only [if_true]
   rw [if_pos (by simp only [List.length_append,List.length_cons,List.length_nil];omega),hd2 _ (by simp only [List.length_append,List.length_cons,List.length_nil];omega)]
   cases p.Names.isEmpty<;>simp
  | false=>
   simp only [Bool.false_eq_true,if_false]
   rw [if_pos (by simp only [List.length_append,List.length_cons,List.length_nil];omega),hd2 _ (by simp only [List.length_append,List.length_cons,List.length_nil];omega)]
   cases p.Names.isEmpty<;>simp
 have loop:∀ (rest:List aD)(i:Nat)(acc:Bs),l.drop i=rest→0<i→(∀ x∈rest,jQ x=true∧x.Names.length≤6)→i+rest.length≤10→acc.length+200*rest.length≤5000→
   ∃ y,lp (fun v=>cK l v.1 v.2) (acc,i)=some (acc++Lib.joinTail [59,32] (rest.map nH),y):=by
  intro rest
  induction rest with
  | nil=>
   intro i acc hd hi _ _ _
   have hlen:l.length≤i:=List.drop_eq_nil_iff.1 hd
   refine ⟨(i,decide ((i:Int)<(l.length:Int))),bZ (B:=fun v:Bs×Nat=>cK l v.1 v.2) ?_⟩
   simp only [cK]
   rw [if_neg (by omega)]
   simp [Lib.joinTail]
  | cons x r ih=>
   intro i acc hd hi hx hil hb
   obtain ⟨hlt,hg,hr⟩:=fM hd
   have hx1:=hx x (by simp)
   have hpl:=vp hx1.1 hx1.2
   simp only [List.length_cons] at hb hil
   obtain ⟨y,hy⟩:=ih (i+1) (acc++[59,32]++nH x) hr (by omega) (fun y hy=>hx y (by simp [hy])) (by omega) (by simp only [List.length_append,List.length_cons,List.length_nil];omega)
   refine ⟨y,?_⟩
   rw [de (B:=fun v:Bs×Nat=>cK l v.1 v.2) (w:=(acc++[59,32]++nH x,i+1)),hy]
   ·simp [Lib.joinTail]
   ·simp only [cK]
    rw [if_pos (by omega),if_pos (by omega),if_pos (by simp only [List.length_append,List.length_cons,List.length_nil];omega),rnd x i _ hg hx1.1 hx1.2 (by simp only [List.length_append,List.length_cons,List.length_nil];omega)]
    simp only [Option.bind_some]
    have hw:=dq i (by omega)
    cases x.Names.isEmpty<;>simp [hw]
 have hnp:∀ x∈l,jQ x=true∧x.Names.length≤6:=fun x hx=>⟨List.all_eq_true.1 h x hx,hn x hx⟩
 have hj:=s7 (l:=l.map nH) (sep:=[59,32]) (c:=100) fun x hx=>by
  obtain ⟨p,hp,rfl⟩:=List.mem_map.1 hx
  exact vp (hnp p hp).1 (hnp p hp).2
 rw [List.length_map] at hj
 simp only [List.length_cons,List.length_nil] at hj
 have hall:∃ y,lp (fun v=>cK l v.1 v.2) (([123]:Bs),0)=some ([123]++Lib.join (l.map nH) [59,32],y):=by
  cases l with
  | nil=>exact ⟨_,bZ (B:=fun v:Bs×Nat=>cK [] v.1 v.2) (x:=([123],0,false)) (by simp [cK])⟩
  | cons x r=>
   have hx1:=hnp x (by simp)
   have hpl:=vp hx1.1 hx1.2
   simp only [List.length_cons] at hl
   obtain ⟨y,hy⟩:=loop r 1 ([123]++nH x) rfl (by omega) (fun y hy=>hnp y (by simp [hy])) (by omega) (by simp only [List.length_append,List.length_cons,List.length_nil];omega)
   refine ⟨y,?_⟩
   rw [de (B:=fun v:Bs×Nat=>cK (x::r) v.1 v.2) (w:=([123]++nH x,1)),hy]
   ·rw [List.map_cons,Lib.join_cons,List.append_assoc]
   ·simp only [cK]
    rw [if_pos (by simp only [List.length_cons];omega),if_neg (by omega),rnd x 0 _ rfl hx1.1 hx1.2 (by simp only [List.length_append,List.length_cons,List.length_nil];omega)]
    simp only [Option.bind_some]
    have hw:=dq 0 (by omega)
    cases x.Names.isEmpty<;>simp [hw]<;>exact hw
 obtain ⟨y,hy⟩:=hall
 unfold oI
 rw [hy]
 simp only [Option.bind_some]
 gas
 simp
structure F5(d:aE):Prop where
 kd:d.Kind=1∨d.Kind=2∨d.Kind=3∨d.Kind=4∨d.Kind=5∨d.Kind=6∨d.Kind=7
 nm:d.Name.length≤12
 ot:d.Other.length≤12
 g2:d.Kind=2∨d.Kind=7→d.Given=false
 la:d.Label.all jQ=true
 ll:d.Label.length≤4
 ln:∀ p∈d.Label,p.Names.length≤6
 pl:d.Params.length≤4
 pa:∀ x∈d.Params,x.length≤12
 bo:db d.Body=true∧gm d.Body
 re:d.Kind=7→df d.Result=true∧dN d.Result=false
theorem riD{d:aE}(h:uc d=true)(hf:FP d)(hb:oX d=false):F5 d:=by
 unfold uc at h
 unfold oX at hb
 simp only [Bool.or_eq_false_iff,decide_eq_false_iff_not] at hb
 simp only [Bool.and_eq_true,decide_eq_true_eq] at h
 obtain ⟨hk,h1,h2,h3,h4,h5,h6,h7,h8,h9⟩:=h
 refine ⟨by omega,gn h1,vT h2,fun h27=>?_,h5,hf.la,hf.na,hf.pa,fun x hx=>gn (List.all_eq_true.1 h8 x hx),⟨h9,hf.bo⟩,fun hk7=>?_⟩
 ·have e1:decide (d.Kind=6)=false:=by simp;omega
  have e2:decide (d.Kind=4∨d.Kind=5)=false:=by simp;omega
  rw [e1,e2] at h3
  simpa using h3
 ·have e1:decide (d.Kind=7)=true:=by simpa using hk7
  rw [e1] at h7
  exact ⟨h7,hb.2.2.2⟩
theorem xJ(k:Int):(yr k).length≤6:=by unfold yr;(repeat' split)<;>simp
theorem HD{d:aE}(h:F5 d):(s5 d).length≤400000:=by
 have h1:=h.nm
 have h2:=h.ot
 have h3:=CW h.la h.ll h.ln
 have h4:=kV h.pa
 have h5:=h.pl
 have h6:=s8 (d:=1) h.bo.1 h.bo.2 (by omega)
 have h7:=xJ d.Kind
 unfold s5
 split
 ·simp only [List.length_append,List.length_cons,List.length_nil];omega
 ·split
  ·rename_i hk
   have h8:=h.re hk
   have h9:=s6 h8.1 h8.2
   simp only [List.length_append,List.length_cons,List.length_nil];omega
  ·have:(if d.Given=true then Dv d.Label else []).length≤500:=by
    split
    ·exact h3
    ·simp
   simp only [List.length_append,List.length_cons,List.length_nil];omega
theorem F6{k:Int}(h:k=1∨k=2∨k=3∨k=4∨k=5∨k=6∨k=7):∃ j,dG k=some j∧(([([]:List UInt8),[97,99,116,111,114,32],[103,114,97,110,116,32],[115,112,101,97,107,32],[105,110,32],[111,117,116,32],[118,97,114,32],[102,117,110,99,32]])[j]?)=some (yr k):=by
 rcases h with rfl | rfl | rfl | rfl | rfl | rfl | rfl
 ·exact ⟨1,rfl,rfl⟩
 ·exact ⟨2,rfl,rfl⟩
 ·exact ⟨3,rfl,rfl⟩
 ·exact ⟨4,rfl,rfl⟩
 ·exact ⟨5,rfl,rfl⟩
 ·exact ⟨6,rfl,rfl⟩
 ·exact ⟨7,rfl,rfl⟩
theorem JF:blank 1=[32,32]:=rfl
theorem JG{t:Tree}{d:aE}{i:Nat}{acc:Bs}(hg:t.Decls[i]? =some d)(h:F5 d)(hi:i≤100)(hb:acc.length≤100000000):eP t acc i=some (.inl (acc++s5 d,i+1)):=by
 have hlt:i<t.Decls.length:=by
  apply Classical.byContradiction
  intro hn
  rw [List.getElem?_eq_none (by omega)] at hg;cases hg
 obtain ⟨j,hj1,hj2⟩:=F6 h.kd
 have h1:=h.nm
 have h2:=h.ot
 have h3:=CW h.la h.ll h.ln
 have h4:=kV h.pa
 have h5:=h.pl
 have h6:=s8 (d:=1) h.bo.1 h.bo.2 (by omega)
 have h7:=xJ d.Kind
 have hL:=F4 h.la h.ll h.ln
 have hC:=xG 12 h.pa (by omega) (by omega)
 have hB:=xH (d:=1) h.bo.1 h.bo.2 (by omega)
 rw [JF] at hB
 have hw:=dq i (by omega)
 have hd2:∀ w:Bs,w.length≤200000000→jR t i d w=some (w++((if d.Given=true then Dv d.Label else [])++[59,10])):=by
  intro w hw'
  unfold jR
  rw [hL]
  unfold Dv at h3 ⊢
  simp only [List.length_append,List.length_cons,List.length_nil] at h3
  simp only [Option.bind_some]
  cases d.Given with
  | true=>
   simp only [if_true]
   gas
   simp
  | false=>
   simp only [Bool.false_eq_true,if_false]
   gas
   simp
 unfold eP s5
 rw [if_pos (by omega)]
 simp only [hg,hj1,hj2,Option.bind_some]
 rw [if_pos (by omega),if_pos (by simp only [List.length_append];omega)]
 by_cases k7:d.Kind=7
 ·have h8:=h.re k7
  have h9:=s6 h8.1 h8.2
  have hX:=uV h8.1 h8.2
  simp only [k7,beq_self_eq_true,if_true,show ¬(7:Int)=2 by decide,if_false,hC,hB,hX,Option.bind_some,hw]
  rw [k7] at h7
  gas
  simp
 ·have e7:(d.Kind==7)=false:=by simpa using k7
  simp only [e7,Bool.false_eq_true,if_false,if_neg k7]
  by_cases k2:d.Kind=2
  ·have hgv:=h.g2 (.inl k2)
   rw [k2] at h7
   simp only [k2,beq_self_eq_true,if_true]
   rw [if_pos (by simp only [List.length_append,List.length_cons,List.length_nil];omega),if_pos (by simp only [List.length_append,List.length_cons,List.length_nil];omega),hd2 _ (by simp only [List.length_append,List.length_cons,List.length_nil];omega),hgv]
   simp only [Option.bind_some,hw,if_true,Bool.false_eq_true,if_false]
   simp
  ·have e2:(d.Kind==2)=false:=by simpa using k2
   simp only [e2,Bool.false_eq_true,if_false,if_neg k2]
   rw [hd2 _ (by simp only [List.length_append];omega)]
   simp only [Option.bind_some,hw,if_true]
   simp
structure YW(t:Tree):Prop where
 dl:t.Decls.length≤30
 ds:∀ d∈t.Decls,F5 d
 mn:db t.Main=true∧gm t.Main
theorem Dy:∀ {l:List aE}{n:Int},fN l=some n→∀ d∈l,oX d=false
 | e::r,n,h,d,hd=>by
  simp only [fN] at h
  split at h
  ·cases h
  ·rename_i hb
   obtain ⟨a,ha,h1⟩:=Option.bind_eq_some_iff.1 h
   obtain ⟨b,hb2,h2⟩:=Option.bind_eq_some_iff.1 h1
   rcases List.mem_cons.1 hd with rfl | hd
   ·simpa using hb
   ·exact Dy hb2 d hd
theorem YX{t:Tree}(h:qM t=0):YW t:=by
 unfold qM at h
 split at h
 ·cases h
 ·rename_i hm
  have hm':kU t=false:=by simpa using hm
  obtain ⟨h1,h2,h3⟩:=zD hm'
  split at h
  ·rename_i ho
   obtain ⟨h4,h5⟩:=Bool.and_eq_true_iff.1 ho
   have hbd:∀ d∈t.Decls,oX d=false:=by
    unfold kU at hm'
    simp only [Bool.or_eq_false_iff] at hm'
    cases ha:fN t.Decls with
    | none=>rw [ha] at hm';exact absurd hm'.2 (by simp)
    | some a=>exact Dy ha
   exact ⟨h1,fun d hd=>riD (List.all_eq_true.1 h4 d hd) (h2 d hd) (hbd d hd),h5,h3⟩
  ·cases h
theorem G7{t:Tree}(h:YW t):p6 t=some (EC t):=by
 have loop:∀ (rest:List aE)(i:Nat)(acc:Bs),t.Decls.drop i=rest→(∀ d∈rest,F5 d)→i+rest.length≤100→acc.length+400000*rest.length≤50000000→
   ∃ y,lp (fun v=>eP t v.1 v.2) (acc,i)=some (acc++(rest.map s5).flatten,y)∧acc.length+(rest.map s5).flatten.length≤50000000:=by
  intro rest
  induction rest with
  | nil=>
   intro i acc hd _ _ hb
   have hlen:t.Decls.length≤i:=List.drop_eq_nil_iff.1 hd
   refine ⟨(i,decide ((i:Int)<(t.Decls.length:Int))),bZ (B:=fun v:Bs×Nat=>eP t v.1 v.2) ?_,by simpa using hb⟩
   simp only [eP]
   rw [if_neg (by omega)]
   simp
  | cons x r ih=>
   intro i acc hd hx hil hb
   obtain ⟨hlt,hg,hr⟩:=fM hd
   have hx1:=hx x (by simp)
   have hpl:=HD hx1
   simp only [List.length_cons] at hb hil
   obtain ⟨y,hy,hy2⟩:=ih (i+1) (acc++s5 x) hr (fun y hy=>hx y (by simp [hy])) (by omega) (by simp only [List.length_append];omega)
   refine ⟨y,?_,?_⟩
   ·rw [de (B:=fun v:Bs×Nat=>eP t v.1 v.2) (w:=(acc++s5 x,i+1)),hy]
    ·simp
    ·exact JG hg hx1 (by omega) (by show acc.length≤_;omega)
   ·simp only [List.length_append] at hy2
    simp only [List.map_cons,List.flatten_cons,List.length_append];omega
 have hdl:=h.dl
 obtain ⟨y,hy,hy2⟩:=loop t.Decls 0 [] rfl h.ds (by omega) (by simp only [List.length_nil];omega)
 have hB:=xH (d:=1) h.mn.1 h.mn.2 (by omega)
 have hBl:=s8 (d:=1) h.mn.1 h.mn.2 (by omega)
 rw [JF] at hB
 rw [List.nil_append] at hy
 simp only [List.length_nil] at hy2
 unfold p6 EC
 rw [hy]
 simp only [Option.bind_some,hB]
 gas
 simp
def cH(u:Bool)(b:Bs)(d:Nat):Printer:=⟨⟨u,b⟩,(d:Int)⟩
theorem Dz:∀ d:Nat,Lib.repeatL [32,32] d=blank d
 | 0=>rfl
 | d+1=>by
  rw [Lib.repeatL,Dz d]
  unfold blank
  show List.replicate 2 32++List.replicate (2*d) 32=_
  rw [List.replicate_append_replicate];congr 1;omega
theorem JH(l:List Bs):Lib.join l []=l.flatten:=by
 cases l with
 | nil=>rfl
 | cons x r=>rw [Lib.join_cons];simp [Lib.joinTail]
theorem o5:∀ {l:List aa}{s:aa},s∈l→o3 s≤ft l
 | y::r,s,h=>by
  simp only [ft]
  rcases List.mem_cons.1 h with rfl | h
  ·omega
  ·have:=o5 h;omega
section
variable [Lp]
theorem nv{u:Bool}{b:Bs}{d:Nat}{l:List Bs}(hl:l.length≤10)(hf:l.flatten.length≤5000)(hd:d≤200)(hb:b.length≤990000000):aQ (cH u b d) l=some (cH true (b++bX d l.flatten) d):=by
 have h1:qt [32,32] (cH u b d).deep=some (blank d):=by
  show qt [32,32] (d:Int)=_
  unfold qt
  rw [if_pos ⟨by omega,by simp only [List.length_cons,List.length_nil,Int.toNat_natCast];omega,by omega⟩,Int.toNat_natCast,Dz]
 have h2:oz l []=some l.flatten:=by
  unfold oz
  rw [JH,if_pos ⟨by omega,by omega⟩]
 have hbl:=Dx d
 have h3:∀ x:Bs,x.length≤10000→dP (cH u b d) x=some ((x.length:Int),(),cH true (b++x) d):=fun x hx=>by
  unfold dP gq cH
  cases u with
  | true=>simp only [if_true,Option.bind_some];gas;rfl
  | false=>simp only [Bool.false_eq_true,if_false,Option.bind_some];gas;rfl
 unfold aQ bX
 rw [h1,h2]
 simp only [Option.bind_some]
 gas
 rw [h3 _ (by simp only [List.length_append,List.length_cons,List.length_nil];omega)]
 simp
noncomputable abbrev NB:=ba
theorem F7{m:Nat}{l:List aa}{d:Nat}(u:Bool)(b:Bs)(hd:d≤200)(ho:db l=true)(hf:gm l)(hdc:d+1+ft l≤100)(hb:b.length+6000*ft l≤900000000)
  (h:∀ s∈l,nG s=true→uO s→∀ u b,b.length+6000*o3 s≤900000000→(NB m).f_show_printer_stmt (cH u b (d+1)) s=some (cH true (b++wJ s (d+1)) (d+1))) :
  (NB (m+1)).f_show_printer_block (cH u b d) l=some (cH (u||!l.isEmpty) (b++dJ l (d+1)) d):=by
 show gK (NB m) (cH u b d) l=_
 have loop:∀ (rest:List aa)(i:Nat)(u:Bool)(b:Bs),l.drop i=rest→(∀ s∈rest,s∈l)→db rest=true→gm rest→d+1+ft rest≤100→i+rest.length≤1000→b.length+6000*ft rest≤900000000→
   ∃ y:Nat×Bool,lp (fun v=>dc (NB m) l v.1 v.2) (cH u b (d+1),i)=some (y.1,y.2,cH (u||!rest.isEmpty) (b++dJ rest (d+1)) (d+1)):=by
  intro rest
  induction rest with
  | nil=>
   intro i u b hdr _ _ _ _ _ _
   have hlen:l.length≤i:=List.drop_eq_nil_iff.1 hdr
   refine ⟨(i,decide ((i:Int)<(l.length:Int))),bZ (B:=fun v:Printer×Nat=>dc (NB m) l v.1 v.2) ?_⟩
   simp only [dc]
   rw [if_neg (by omega)]
   simp [dJ]
  | cons s r ih=>
   intro i u b hdr hm hor hfr hc hi hb
   obtain ⟨hlt,hg,hr⟩:=fM hdr
   simp only [db,Bool.and_eq_true] at hor
   obtain ⟨hfs,hfr'⟩:=CU hfr
   simp only [List.length_cons] at hi
   simp only [ft] at hc hb
   have hs:=CV s (d+1) hor.1 hfs (by omega)
   obtain ⟨y,hy⟩:=ih (i+1) true (b++wJ s (d+1)) hr (fun z hz=>hm z (by simp [hz])) hor.2 hfr' (by omega) (by omega) (by simp only [List.length_append];omega)
   refine ⟨y,?_⟩
   rw [de (B:=fun v:Printer×Nat=>dc (NB m) l v.1 v.2) (w:=(cH true (b++wJ s (d+1)) (d+1),i+1)),hy]
   ·simp [dJ]
   ·simp only [dc,hg,Option.bind_some,h s (hm s (by simp)) hor.1 hfs u b (by omega)]
    rw [if_pos (by omega),if_pos (dq i (by omega))]
 have hlen:=oZ hf
 obtain ⟨y,hy⟩:=loop l 0 u b rfl (fun _ h=>h) ho hf hdc (by omega) hb
 unfold gK
 have e1:IntKind.i64.wrap ((cH u b d).deep+1)=(cH u b d).deep+1:=eY (by unfold cH;simp only;omega) (by unfold cH;simp only;omega)
 rw [if_pos e1]
 have e2:(⟨(cH u b d).Builder,(cH u b d).deep+1⟩:Printer)=cH u b (d+1):=by simp [cH]
 rw [e2,hy]
 simp only [Option.bind_some]
 have e3:∀ (u:Bool)(b:Bs),(⟨(cH u b (d+1)).Builder,(cH u b (d+1)).deep - 1⟩:Printer)=cH u b d:=fun u b=>by
  simp [cH]
 rw [if_pos (eY (by unfold cH;simp only;omega) (by unfold cH;simp only;omega)),e3]
theorem ID:∀ (k:Nat)(s:aa),o3 s≤k→nG s=true→uO s→∀ (u:Bool)(b:Bs)(d:Nat),b.length+6000*o3 s≤900000000→d+o3 s≤100→∀ n,3*k≤n→(NB n).f_show_printer_stmt (cH u b d) s=some (cH true (b++wJ s d) d)
 | 0,s,h,_,_,_,_,_,_,_,_,_=>by rw [yt] at h;omega
 | k+1,s,h,ho,hf,u,b,d,hb,hd,n,hn=>by
  obtain ⟨m,rfl⟩:∃ m,n=m+3:=⟨n - 3,by omega⟩
  have hri:=YV ho hf
  have hl:=hri.li
  have l1:=hl.nm
  have l2:=hl.ot
  have l3:=hl.ex
  have l4:=zE hl
  rw [yt] at h hb hd
  show ik (NB (m+2)) (cH u b d) s=_
  unfold ik
  rw [F3]
  have hE:s.Kind≠2→s.Kind≠3→eF s.Expr=some (dy s.Expr):=fun h2 h3=>C4 (hri.ex h2 h3).1 (hri.ex h2 h3).2.1
  have ln:∀ (l:List Bs),l.length≤10→l.flatten.length≤5000→aQ (cH u b d) l=some (cH true (b++bX d l.flatten) d):=fun l h1 h2=>nv h1 h2 (by omega) (by omega)
  have hin:s.Kind=7∨s.Kind=8→gN (NB (m+1)) (cH u b d) s=some (cH true (b++(if s.Kind=7 then bX d ([105,102,32]++(dy s.Expr++[32,123]))++(dJ s.Then (d+1)++((if s.Else.isEmpty=true then [] else bX d [125,32,101,108,115,101,32,123]++dJ s.Else (d+1))++bX d [125]))
    else bX d ([119,104,105,108,101,32]++(dy s.Expr++[32,123]))++(dJ s.Then (d+1)++bX d [125]))) d):=fun hk=>by
   have hx:=hE (by omega) (by omega)
   have l5:=mh s.Then (d+1) hri.th.1 hri.th.2 (by omega)
   have l6:=mh s.Else (d+1) hri.el.1 hri.el.2 (by omega)
   have bT:∀ (u:Bool)(b:Bs),b.length+6000*ft s.Then≤900000000→(NB (m+1)).f_show_printer_block (cH u b d) s.Then=some (cH (u||!s.Then.isEmpty) (b++dJ s.Then (d+1)) d):=fun u b hb'=>
    F7 u b (by omega) hri.th.1 hri.th.2 (by omega) hb' fun z hz hoz hfz u b hbz=>ID k z (by have:=o5 hz;omega) hoz hfz u b (d+1) hbz (by have:=o5 hz;omega) m (by omega)
   have bE:∀ (u:Bool)(b:Bs),b.length+6000*ft s.Else≤900000000→(NB (m+1)).f_show_printer_block (cH u b d) s.Else=some (cH (u||!s.Else.isEmpty) (b++dJ s.Else (d+1)) d):=fun u b hb'=>
    F7 u b (by omega) hri.el.1 hri.el.2 (by omega) hb' fun z hz hoz hfz u b hbz=>ID k z (by have:=o5 hz;omega) hoz hfz u b (d+1) hbz (by have:=o5 hz;omega) m (by omega)
   have hD:∀ (c:Bs),c.length≤b.length+1000→ej (NB (m+1)) s (cH true c d)=some (cH true (c++(dJ s.Then (d+1)++((if s.Else.isEmpty=true then [] else bX d [125,32,101,108,115,101,32,123]++dJ s.Else (d+1))++bX d [125]))) d):=fun c hc=>by
    unfold ej
    rw [bT true c (by omega)]
    simp only [Option.bind_some,pf,Bool.true_or]
    cases hem:s.Else.isEmpty with
    | true=>
     rw [if_neg (by decide),if_pos rfl]
     rw [nv (by simp) (by simp) (by omega) (by simp only [List.length_append];omega)]
     simp
    | false=>
     simp only [Bool.false_eq_true,if_false,if_true]
     rw [nv (by simp) (by simp) (by omega) (by simp only [List.length_append];omega)]
     simp only [Option.bind_some]
     rw [bE _ _ (by simp only [List.length_append,fo,List.length_cons,List.length_nil,List.flatten_cons,List.flatten_nil];omega)]
     simp only [Option.bind_some]
     rw [nv (by simp) (by simp) (by omega) (by simp only [List.length_append,fo,List.length_cons,List.length_nil,List.flatten_cons,List.flatten_nil];omega)]
     simp
   unfold gN
   rcases hk with hk | hk
   ·simp only [hk,beq_self_eq_true,if_true,hx,Option.bind_some]
    rw [ln _ (by simp) (by simp only [List.flatten_cons,List.flatten_nil,List.length_append,List.length_cons,List.length_nil];omega)]
    simp only [Option.bind_some]
    rw [hD _ (by simp only [List.length_append,fo,List.flatten_cons,List.flatten_nil,List.length_cons,List.length_nil];omega)]
    simp
   ·have he:=hri.e8 hk
    rw [he] at hD
    simp only [hk,show ((8:Int)==7)=false from rfl,show ¬(8:Int)=7 by decide,Bool.false_eq_true,if_false,hx,Option.bind_some]
    rw [ln _ (by simp) (by simp only [List.flatten_cons,List.flatten_nil,List.length_append,List.length_cons,List.length_nil];omega)]
    simp only [Option.bind_some]
    rw [hD _ (by simp only [List.length_append,fo,List.flatten_cons,List.flatten_nil,List.length_cons,List.length_nil];omega)]
    simp
  rcases hri.kd with hk | hk | hk | hk | hk | hk | hk | hk
  ·simp only [hk,beq_self_eq_true,if_true,hE (by omega) (by omega),Option.bind_some]
   rw [ln _ (by simp) (by simp only [List.flatten_cons,List.flatten_nil,List.length_append,List.length_cons,List.length_nil];omega)]
   simp
  ·have hA:=M8 (l:=s.Args) (sep:=[44,32]) (by simp) hl.al hri.ar
   unfold jc at l4 ⊢
   simp only [hk,beq_self_eq_true,if_true,show ((2:Int)==1)=false from rfl,Bool.false_eq_true,if_false,show ¬(2:Int)=1 by decide,hA,Option.bind_some]
   rw [ln _ (by simp) (by simp only [List.flatten_cons,List.flatten_nil,List.length_append,List.length_cons,List.length_nil];omega)]
   simp
  ·simp only [hk,beq_self_eq_true,if_true,show ((3:Int)==1)=false from rfl,show ((3:Int)==2)=false from rfl,Bool.false_eq_true,if_false,show ¬(3:Int)=1 by decide,show ¬(3:Int)=2 by decide]
   rw [ln _ (by simp) (by simp only [List.flatten_cons,List.flatten_nil,List.length_append,List.length_cons,List.length_nil];omega)]
   simp
  ·simp only [hk,beq_self_eq_true,if_true,show ((4:Int)==1)=false from rfl,show ((4:Int)==2)=false from rfl,show ((4:Int)==3)=false from rfl,Bool.false_eq_true,if_false,show ¬(4:Int)=1 by decide,show ¬(4:Int)=2 by decide,show ¬(4:Int)=3 by decide,hE (by omega) (by omega),Option.bind_some]
   rw [ln _ (by simp) (by simp only [List.flatten_cons,List.flatten_nil,List.length_append,List.length_cons,List.length_nil];omega)]
   simp
  ·simp only [hk,beq_self_eq_true,if_true,show ((5:Int)==1)=false from rfl,show ((5:Int)==2)=false from rfl,show ((5:Int)==3)=false from rfl,show ((5:Int)==4)=false from rfl,Bool.false_eq_true,if_false,show ¬(5:Int)=1 by decide,show ¬(5:Int)=2 by decide,show ¬(5:Int)=3 by decide,show ¬(5:Int)=4 by decide,hE (by omega) (by omega),Option.bind_some]
   rw [ln _ (by simp) (by simp only [List.flatten_cons,List.flatten_nil,List.length_append,List.length_cons,List.length_nil];omega)]
   simp
  ·simp only [hk,beq_self_eq_true,if_true,show ((6:Int)==1)=false from rfl,show ((6:Int)==2)=false from rfl,show ((6:Int)==3)=false from rfl,show ((6:Int)==4)=false from rfl,show ((6:Int)==5)=false from rfl,Bool.false_eq_true,if_false,show ¬(6:Int)=1 by decide,show ¬(6:Int)=2 by decide,show ¬(6:Int)=3 by decide,show ¬(6:Int)=4 by decide,show ¬(6:Int)=5 by decide,hE (by omega) (by omega),Option.bind_some]
   rw [ln _ (by simp) (by simp only [List.flatten_cons,List.flatten_nil,List.length_append,List.length_cons,List.length_nil];omega)]
   simp
  ·have hin':(NB (m+2)).f_show_printer_inner (cH u b d) s=_:=hin (.inl hk)
   simp only [hk,show ((7:Int)==1)=false from rfl,show ((7:Int)==2)=false from rfl,show ((7:Int)==3)=false from rfl,show ((7:Int)==4)=false from rfl,show ((7:Int)==5)=false from rfl,show ((7:Int)==6)=false from rfl,Bool.false_eq_true,if_false,show ¬(7:Int)=1 by decide,show ¬(7:Int)=2 by decide,show ¬(7:Int)=3 by decide,show ¬(7:Int)=4 by decide,show ¬(7:Int)=5 by decide,show ¬(7:Int)=6 by decide,if_true] at hin' ⊢
   rw [hin'];rfl
  ·have hin':(NB (m+2)).f_show_printer_inner (cH u b d) s=_:=hin (.inr hk)
   simp only [hk,show ((8:Int)==1)=false from rfl,show ((8:Int)==2)=false from rfl,show ((8:Int)==3)=false from rfl,show ((8:Int)==4)=false from rfl,show ((8:Int)==5)=false from rfl,show ((8:Int)==6)=false from rfl,Bool.false_eq_true,if_false,show ¬(8:Int)=1 by decide,show ¬(8:Int)=2 by decide,show ¬(8:Int)=3 by decide,show ¬(8:Int)=4 by decide,show ¬(8:Int)=5 by decide,show ¬(8:Int)=6 by decide,show ¬(8:Int)=7 by decide,if_true] at hin' ⊢
   rw [hin'];rfl
theorem K6{l:List aa}{d:Nat}(u:Bool)(b:Bs)(ho:db l=true)(hf:gm l)(hd:d≤10)(hb:b.length≤800000000):fc (cH u b d) l=some (cH (u||!l.isEmpty) (b++dJ l (d+1)) d):=by
 have hc:=vV hf
 refine my 500 fun n hn=>?_
 obtain ⟨m,rfl⟩:∃ m,n=m+1:=⟨n - 1,by omega⟩
 exact F7 u b (by omega) ho hf (by omega) (by omega) fun s hs hos hfs u b hbs=>ID 100 s (by have:=o5 hs;omega) hos hfs u b (d+1) hbs (by have:=o5 hs;omega) m (by omega)
theorem JI{l:List aa}(u:Bool)(b:Bs)(ho:db l=true)(hf:gm l)(hb:b.length≤800000000):fc (cH u b 0) l=some (cH (u||!l.isEmpty) (b++dJ l 1) 0):=K6 u b ho hf (by omega) hb
theorem JJ{d:aE}(h:F5 d)(u:Bool)(b:Bs)(hb:b.length≤100000000):jr (cH u b 0) d=some (cH true (b++s5 d) 0):=by
 obtain ⟨j,hj1,hj2⟩:=F6 h.kd
 have h1:=h.nm
 have h2:=h.ot
 have h3:=CW h.la h.ll h.ln
 have h4:=kV h.pa
 have h5:=h.pl
 have h6:=s8 (d:=1) h.bo.1 h.bo.2 (by omega)
 have h7:=xJ d.Kind
 have hL:=JE h.la h.ll h.ln
 have hC:=v8 (l:=d.Params) (sep:=[44,32]) 12 h.pa (by omega) (by simp) (by omega)
 have ln:∀ (l:List Bs),l.length≤10→l.flatten.length≤5000→aQ (cH u b 0) l=some (cH true (b++bX 0 l.flatten) 0):=fun l h1 h2=>nv h1 h2 (by omega) (by omega)
 unfold jr s5
 unfold jc at h4 ⊢
 simp only [hj1,hj2,Option.bind_some]
 by_cases k2:d.Kind=2
 ·rw [k2] at h7
  simp only [k2,beq_self_eq_true,if_true]
  rw [ln _ (by simp) (by simp only [List.flatten_cons,List.flatten_nil,List.length_append,List.length_cons,List.length_nil];omega)]
  simp [bX,blank]
 have e2:(d.Kind==2)=false:=by simpa using k2
 simp only [e2,Bool.false_eq_true,if_false,if_neg k2]
 by_cases k7:d.Kind=7
 ·have h8:=h.re k7
  have h9:=s6 h8.1 h8.2
  have hX:=C4 h8.1 h8.2
  rw [k7] at h7
  simp only [k7,beq_self_eq_true,if_true,hC,Option.bind_some]
  rw [ln _ (by simp) (by simp only [List.flatten_cons,List.flatten_nil,List.length_append,List.length_cons,List.length_nil];omega)]
  simp only [Option.bind_some]
  rw [JI true _ h.bo.1 h.bo.2 (by simp only [List.length_append,fo,List.flatten_cons,List.flatten_nil,List.length_cons,List.length_nil];omega)]
  simp only [Option.bind_some,Bool.true_or,hX]
  have e1:∀ (u:Bool)(b:Bs),IntKind.i64.wrap ((cH u b 0).deep+1)=(cH u b 0).deep+1:=fun u b=>rfl
  have e3:∀ (u:Bool)(b:Bs),(⟨(cH u b 0).Builder,(cH u b 0).deep+1⟩:Printer)=cH u b 1:=fun u b=>rfl
  have e4:∀ (u:Bool)(b:Bs),IntKind.i64.wrap ((cH u b 1).deep - 1)=(cH u b 1).deep - 1:=fun u b=>rfl
  have e5:∀ (u:Bool)(b:Bs),(⟨(cH u b 1).Builder,(cH u b 1).deep - 1⟩:Printer)=cH u b 0:=fun u b=>rfl
  rw [if_pos (e1 _ _),e3,nv (by simp) (by simp only [List.flatten_cons,List.flatten_nil,List.length_append,List.length_cons,List.length_nil];omega) (by omega) (by simp only [List.length_append,fo,List.flatten_cons,List.flatten_nil,List.length_cons,List.length_nil];omega)]
  simp only [Option.bind_some]
  rw [if_pos (e4 _ _),e5,nv (by simp) (by simp) (by omega) (by simp only [List.length_append,fo,List.flatten_cons,List.flatten_nil,List.length_cons,List.length_nil];omega)]
  simp [bX,blank]
 have e7:(d.Kind==7)=false:=by simpa using k7
 simp only [e7,Bool.false_eq_true,if_false,if_neg k7]
 cases d.Given with
 | true=>
  simp only [if_true,hL,Option.bind_some]
  rw [ln _ (by simp) (by simp only [List.flatten_cons,List.flatten_nil,List.length_append,List.length_cons,List.length_nil];omega)]
  simp [bX,blank]
 | false=>
  simp only [Bool.false_eq_true,if_false]
  rw [ln _ (by simp) (by simp only [List.flatten_cons,List.flatten_nil,List.length_append,List.length_cons,List.length_nil];omega)]
  simp [bX,blank]
theorem Nb(t:Tree):q3 t=some (if qM t=0 then EC t else [],qM t):=by
 unfold q3
 rw [K0]
 simp only [Option.bind_some]
 by_cases h0:qM t=0
 ·have e0:(qM t !=0)=false:=by simpa using h0
  simp only [e0,Bool.false_eq_true,if_false,if_pos h0]
  have h:=YX h0
  have loop:∀ (rest:List aE)(i:Nat)(u:Bool)(acc:Bs),t.Decls.drop i=rest→(∀ d∈rest,F5 d)→i+rest.length≤100→acc.length+400000*rest.length≤50000000→
    ∃ y:Nat×Bool,lp (fun v=>gR t v.1 v.2) (cH u acc 0,i)=some (y.1,y.2,cH (u||!rest.isEmpty) (acc++(rest.map s5).flatten) 0)∧acc.length+(rest.map s5).flatten.length≤50000000:=by
   intro rest
   induction rest with
   | nil=>
    intro i u acc hd _ _ hb
    have hlen:t.Decls.length≤i:=List.drop_eq_nil_iff.1 hd
    refine ⟨(i,decide ((i:Int)<(t.Decls.length:Int))),bZ (B:=fun v:Printer×Nat=>gR t v.1 v.2) ?_,by simpa using hb⟩
    simp only [gR]
    rw [if_neg (by omega)]
    simp
   | cons x r ih=>
    intro i u acc hd hx hil hb
    obtain ⟨hlt,hg,hr⟩:=fM hd
    have hx1:=hx x (by simp)
    have hpl:=HD hx1
    simp only [List.length_cons] at hb hil
    obtain ⟨y,hy,hy2⟩:=ih (i+1) true (acc++s5 x) hr (fun y hy=>hx y (by simp [hy])) (by omega) (by simp only [List.length_append];omega)
    refine ⟨y,?_,?_⟩
    ·rw [de (B:=fun v:Printer×Nat=>gR t v.1 v.2) (w:=(cH true (acc++s5 x) 0,i+1)),hy]
     ·simp
     ·simp only [gR,hg,Option.bind_some,JJ hx1 u acc (by omega)]
      rw [if_pos (by omega),if_pos (dq i (by omega))]
    ·simp only [List.length_append] at hy2
     simp only [List.map_cons,List.flatten_cons,List.length_append];omega
  have hdl:=h.dl
  obtain ⟨y,hy,hy2⟩:=loop t.Decls 0 false [] rfl h.ds (by omega) (by simp only [List.length_nil];omega)
  have hBl:=s8 (d:=1) h.mn.1 h.mn.2 (by omega)
  rw [List.nil_append] at hy
  simp only [List.length_nil] at hy2
  have e3:(⟨⟨false,([]:Bs)⟩,0⟩:Printer)=cH false [] 0:=rfl
  rw [e3,hy]
  simp only [Option.bind_some]
  rw [nv (by simp) (by simp) (by omega) (by omega)]
  simp only [Option.bind_some]
  rw [JI true _ h.mn.1 h.mn.2 (by simp only [List.length_append,fo,List.flatten_cons,List.flatten_nil,List.length_cons,List.length_nil];omega)]
  simp only [Option.bind_some,Bool.true_or]
  rw [nv (by simp) (by simp) (by omega) (by simp only [List.length_append,fo,List.flatten_cons,List.flatten_nil,List.length_cons,List.length_nil];omega)]
  simp [cH,EC,bX,blank,h0]
 ·have e0:(qM t !=0)=true:=by simpa using h0
  simp only [e0,if_true,if_neg h0]
theorem F8(t:Tree):rJ t=some true:=by
 unfold rJ kZ rv
 rw [Nb,FQ]
 simp only [Option.bind_some,if_true]
 by_cases h0:qM t=0
 ·have h:=YX h0
  simp only [h0,beq_self_eq_true,if_true,G7 h,Option.bind_some]
 ·have e0:(qM t==0)=false:=by simpa using h0
  simp only [e0,Bool.false_eq_true,if_false,if_neg h0,beq_self_eq_true,if_true,Option.bind_some]
end
end Go.Proofs.YtogbakbmphadfaaGreatDoor.A
