/- names: the program's and the document's are the same. -/
import Derived.Test.YtogbakbmphadfaaGreatDoorTokS
import Derived.Test.YtogbakbmphadfaaGreatDoorFR
set_option linter.unusedSectionVars false
set_option linter.unusedVariables false
set_option linter.unusedSimpArgs false
namespace Go.Proofs.YtogbakbmphadfaaGreatDoor.A
open Go
theorem KK(n:Nat):((n:Int)==35)=(n==35):=by rw [Bool.eq_iff_iff];simp;omega
theorem KL(n:Nat):((n:Int)==32)=(n==32):=by rw [Bool.eq_iff_iff];simp;omega
theorem Qj(n:Nat):((n:Int)==9)=(n==9):=by rw [Bool.eq_iff_iff];simp;omega
theorem Ir(n:Nat):((n:Int)==10)=(n==10):=by rw [Bool.eq_iff_iff];simp;omega
theorem Qk(n:Nat):((n:Int)==61)=(n==61):=by rw [Bool.eq_iff_iff];simp;omega
theorem ZE(n:Nat):((n:Int)==48)=(n==48):=by rw [Bool.eq_iff_iff];simp;omega
theorem Ql(n:Nat):((n:Int) !=10)=(n !=10):=by rw [bne,bne,Ir]
def pc(c:UInt8):Bool:=c.toNat !=10
theorem Ds:∀ r:List UInt8,bM true r=bA pc r+bM false (r.drop (bA pc r))
 | []=>rfl
 | c::r=>by
  rw [q9]
  simp only [bM]
  cases h:pc c with
  | true=>
   have h':(c.toNat !=10)=true:=h
   rw [h',Ds r]
   simp only [if_true]
   rw [show 1+bA pc r=bA pc r+1 by omega,List.drop_succ_cons];omega
  | false=>
   have h':(c.toNat !=10)=false:=h
   have h10:c.toNat=10:=by simpa using h'
   simp [h',bM,h10,Fg]
variable [Lp]
theorem hU{s:List UInt8}{k:Nat}(h:k<s.length):s[k]? =some s[k]:=List.getElem?_eq_getElem h
section
variable (s:List UInt8)(hs:s.length≤6000)
include hs
theorem Is(c0:aN)(h0:c0.s=s)(k:Nat)(hk:k≤s.length):∃ x,lp (fun v=>cZ c0 v) (k:Int)=some x∧(match x with
  | .inl (_,z)=>z=((k+bA pc (s.drop k):Nat):Int)
  | .inr z=>z=((k+bA pc (s.drop k):Nat):Int)):=by
 have h:=xr (B:=fun v=>cZ c0 v) s pc (fun k=>(k:Int)) (fun k=>.inl (false,(k:Int))) (.inr (s.length:Int)) 0
  (fun k hk _ hp=>by
   have hp':(s[k].toNat !=10)=true:=hp
   simp only [cZ,h0,show (k:Int)<(s.length:Int) by omega,if_true,dH,Option.bind_some,hU hk,Ql,hp',Ao k (by omega)]
   rfl)
  (fun k hk _ hp=>by
   have hp':(s[k].toNat !=10)=false:=hp
   simp only [cZ,h0,show (k:Int)<(s.length:Int) by omega,if_true,dH,Option.bind_some,hU hk,Ql,hp',Bool.false_eq_true,if_false])
  (by simp only [cZ,h0,show ¬(s.length:Int)<(s.length:Int) by omega,if_false]) k (Nat.zero_le _) hk
 refine ⟨_,h,?_⟩
 have hle:=lj pc (s.drop k)
 rw [List.length_drop] at hle
 by_cases hlt:k+bA pc (s.drop k)<s.length
 ·rw [if_pos hlt]
 ·rw [if_neg hlt]
  show (s.length:Int)=_
  omega
theorem Jn(k0:Nat)(hk0:k0≤s.length):eb ⟨s,(k0:Int)⟩=some ⟨s,((k0+bM false (s.drop k0):Nat):Int)⟩:=by
 have key:∀ n k,s.length - k<n→k≤s.length→∃ x,lp (fun v=>bP ⟨s,(k0:Int)⟩ v) (k:Int)=some x∧(match x with
   | .inl (_,z)=>z=((k+bM false (s.drop k):Nat):Int)
   | .inr (_,z)=>z=((k+bM false (s.drop k):Nat):Int)):=by
  intro n
  induction n with
  | zero=>intro k h;omega
  | succ n ih=>
   intro k hn hk
   by_cases hlt:k<s.length
   ·have hL:(k:Int)<(s.length:Int):=by omega
    have hd:s.drop k=s[k]::s.drop (k+1):=List.drop_eq_getElem_cons hlt
    by_cases h35:(s[k].toNat==35)=true
    ·
     have h1:s[k].toNat=35:=by simpa using h35
     obtain ⟨x,hx,hxe⟩:=Is s hs ⟨s,(k0:Int)⟩ rfl k hk
     have hrun:bA pc (s.drop k)=1+bA pc (s.drop (k+1)):=by rw [hd,q9,if_pos (by simp [pc,h1])]
     have hle:=lj pc (s.drop k)
     rw [List.length_drop] at hle
     have hstep:bP ⟨s,(k0:Int)⟩ (k:Int)=some (.inl ((k+bA pc (s.drop k):Nat):Int)):=by
      have h32:(s[k].toNat==32)=false:=by rw [h1];rfl
      have h9:(s[k].toNat==9)=false:=by rw [h1];rfl
      have h10:(s[k].toNat==10)=false:=by rw [h1];rfl
      simp only [bP,cR,hL,if_true,dH,Option.bind_some,hU hlt,KL,Qj,Ir,KK,h32,h9,h10,h35,Bool.false_eq_true,if_false,hx]
      cases x with
      | inl y=>obtain ⟨y1,y2⟩:=y;simp only [Option.bind_some] at hxe ⊢;rw [hxe]
      | inr y=>simp only [Option.bind_some] at hxe ⊢;rw [hxe]
     obtain ⟨x',hx',hxe'⟩:=ih (k+bA pc (s.drop k)) (by omega) (by omega)
     refine ⟨x',by rw [de hstep];exact hx',?_⟩
     have e:k+bA pc (s.drop k)+bM false (s.drop (k+bA pc (s.drop k)))=k+bM false (s.drop k):=by
      have h2:bM false (s.drop k)=1+bM true (s.drop (k+1)):=by rw [hd];simp only [bM,h35,if_true]
      have h3:=Ds (s.drop (k+1))
      rw [List.drop_drop] at h3
      rw [h2,h3,hrun,show k+(1+bA pc (s.drop (k+1)))=k+1+bA pc (s.drop (k+1)) by omega]
      omega
     rw [e] at hxe'
     exact hxe'
    ·have h35':(s[k].toNat==35)=false:=by simpa using h35
     by_cases hw:Fg s[k]=true
     ·have h2:bM false (s.drop k)=1+bM false (s.drop (k+1)):=by rw [hd];simp only [bM,h35',Bool.false_eq_true,if_false,hw,if_true]
      have hstep:bP ⟨s,(k0:Int)⟩ (k:Int)=some (.inl ((k+1:Nat):Int)):=by
       unfold Fg at hw
       simp only [bP,cR,hL,if_true,dH,Option.bind_some,hU hlt,KL,Qj,Ir,KK,h35',Ao k (by omega)]
       cases h32:(s[k].toNat==32) with
       | true=>simp
       | false=>
        cases h9:(s[k].toNat==9) with
        | true=>simp
        | false=>
         have h10:(s[k].toNat==10)=true:=by simpa [h32,h9] using hw
         simp [h10]
      obtain ⟨x',hx',hxe'⟩:=ih (k+1) (by omega) (by omega)
      refine ⟨x',by rw [de hstep];exact hx',?_⟩
      rw [show k+1+bM false (s.drop (k+1))=k+bM false (s.drop k) by rw [h2];omega] at hxe'
      exact hxe'
     ·have h2:bM false (s.drop k)=0:=by rw [hd];simp only [bM,h35',Bool.false_eq_true,if_false,hw]
      have hstep:bP ⟨s,(k0:Int)⟩ (k:Int)=some (.inr (.inl (false,(k:Int)))):=by
       have hw':((s[k].toNat==32)=false∧(s[k].toNat==9)=false)∧(s[k].toNat==10)=false:=by
        unfold Fg at hw
        simpa only [Bool.or_eq_true,not_or,Bool.not_eq_true] using hw
       simp only [bP,cR,hL,if_true,dH,Option.bind_some,hU hlt,KL,Qj,Ir,KK,h35',hw'.1.1,hw'.1.2,hw'.2,Bool.false_eq_true,if_false]
      refine ⟨_,bZ hstep,?_⟩
      rw [h2];rfl
   ·obtain rfl:k=s.length:=by omega
    refine ⟨.inr (false,(s.length:Int)),bZ (by simp only [bP,show ¬(s.length:Int)<(s.length:Int) by omega,if_false,decide_false]),?_⟩
    rw [List.drop_length];rfl
 obtain ⟨x,hx,hxe⟩:=key (s.length - k0+1) k0 (by omega) hk0
 unfold eb
 have hx':lp (fun v=>bP ⟨s,(k0:Int)⟩ v) ({s:=s,at_:=(k0:Int)} : aN).at_=some x:=hx
 rw [hx']
 cases x with
 | inl y=>obtain ⟨y1,y2⟩:=y;simp only [Option.bind_some] at hxe ⊢;rw [hxe]
 | inr y=>obtain ⟨y1,y2⟩:=y;simp only [Option.bind_some] at hxe ⊢;rw [hxe]
theorem FD(c:UInt8):ku (c.toNat:Int)=some (pL c):=by
 unfold ku pL
 by_cases h:97≤c.toNat
 ·have:(97:Int)≤(c.toNat:Int):=by omega
  rw [if_pos this];congr 1;rw [Bool.eq_iff_iff];simp;omega
 ·have:¬(97:Int)≤(c.toNat:Int):=by omega
  rw [if_neg this];congr 1;rw [Bool.eq_iff_iff];simp;omega
theorem ym(c:UInt8):jx (c.toNat:Int)=some (cV c):=by
 unfold jx cV
 by_cases h:48≤c.toNat
 ·have:(48:Int)≤(c.toNat:Int):=by omega
  rw [if_pos this];congr 1;rw [Bool.eq_iff_iff];simp;omega
 ·have:¬(48:Int)≤(c.toNat:Int):=by omega
  rw [if_neg this];congr 1;rw [Bool.eq_iff_iff];simp;omega
theorem Hw(c:UInt8):fv (c.toNat:Int)=some (en c):=by
 unfold fv en
 rw [FD s hs,ym s hs,Option.bind_some]
 cases pL c<;>simp
theorem FE{k n:Nat} : (s.take (k+n)).drop k=(s.drop k).take n:=by
 rw [List.drop_take];congr 1;omega
theorem Qm(k:Nat)(hk:k≤s.length):cC ⟨s,(k:Int)⟩=some ((s.drop k).take (bA en (s.drop k)),⟨s,((k+bA en (s.drop k):Nat):Int)⟩):=by
 have h:=xr (B:=fun v=>bh ⟨s,(k:Int)⟩ v) s en (fun k=>(k:Int)) (fun k=>.inl (false,(k:Int))) (.inr (s.length:Int)) 0
  (fun j hj _ hp=>by
   simp only [bh,show (j:Int)<(s.length:Int) by omega,if_true,dH,Option.bind_some,hU hj,Hw s hs,hp,Ao j (by omega)]
   rfl)
  (fun j hj _ hp=>by
   simp only [bh,show (j:Int)<(s.length:Int) by omega,if_true,dH,Option.bind_some,hU hj,Hw s hs,hp,Bool.false_eq_true,if_false])
  (by simp only [bh,show ¬(s.length:Int)<(s.length:Int) by omega,if_false]) k (Nat.zero_le _) hk
 have hle:=lj en (s.drop k)
 rw [List.length_drop] at hle
 have hD:bN ⟨s,(k:Int)⟩ ((k+bA en (s.drop k):Nat):Int)=some ((s.drop k).take (bA en (s.drop k)),((k+bA en (s.drop k):Nat):Int)):=by
  simp only [bN,dH,Option.bind_some,show k≤k+bA en (s.drop k) by omega,show k+bA en (s.drop k)≤s.length by omega,if_true,FE s hs]
 have h':lp (fun v=>bh ⟨s,(k:Int)⟩ v) ({s:=s,at_:=(k:Int)} : aN).at_=_:=h
 unfold cC
 rw [h']
 by_cases hlt:k+bA en (s.drop k)<s.length
 ·simp only [if_pos hlt,Option.bind_some,hD]
 ·have e:(s.length:Int)=((k+bA en (s.drop k):Nat):Int):=by omega
  simp only [if_neg hlt,Option.bind_some,e,hD]
theorem Qn(k:Nat)(hk:k≤s.length):dw ⟨s,(k:Int)⟩=some ((s.drop k).take (bA cV (s.drop k)),⟨s,((k+bA cV (s.drop k):Nat):Int)⟩):=by
 have h:=xr (B:=fun v=>bK ⟨s,(k:Int)⟩ v) s cV (fun k=>(k:Int)) (fun k=>.inl (false,(k:Int))) (.inr (s.length:Int)) 0
  (fun j hj _ hp=>by
   simp only [bK,show (j:Int)<(s.length:Int) by omega,if_true,dH,Option.bind_some,hU hj,ym s hs,hp,Ao j (by omega)]
   rfl)
  (fun j hj _ hp=>by
   simp only [bK,show (j:Int)<(s.length:Int) by omega,if_true,dH,Option.bind_some,hU hj,ym s hs,hp,Bool.false_eq_true,if_false])
  (by simp only [bK,show ¬(s.length:Int)<(s.length:Int) by omega,if_false]) k (Nat.zero_le _) hk
 have hle:=lj cV (s.drop k)
 rw [List.length_drop] at hle
 have hD:cD ⟨s,(k:Int)⟩ ((k+bA cV (s.drop k):Nat):Int)=some ((s.drop k).take (bA cV (s.drop k)),((k+bA cV (s.drop k):Nat):Int)):=by
  simp only [cD,dH,Option.bind_some,show k≤k+bA cV (s.drop k) by omega,show k+bA cV (s.drop k)≤s.length by omega,if_true,FE s hs]
 have h':lp (fun v=>bK ⟨s,(k:Int)⟩ v) ({s:=s,at_:=(k:Int)} : aN).at_=_:=h
 unfold dw
 rw [h']
 by_cases hlt:k+bA cV (s.drop k)<s.length
 ·simp only [if_pos hlt,Option.bind_some,hD]
 ·have e:(s.length:Int)=((k+bA cV (s.drop k):Nat):Int):=by omega
  simp only [if_neg hlt,Option.bind_some,e,hD]
theorem M0(k:Nat)(hk:k<s.length):∃ t sc,gC ⟨s,(k:Int)⟩=some (t,dZ (aV (s.drop k)).1 (aV (s.drop k)).2 s[k],sc)∧t.At=(k:Int)∧
  (dZ (aV (s.drop k)).1 (aV (s.drop k)).2 s[k]=0→t=⟨(aV (s.drop k)).1,(k:Int),(s.drop k).take (aV (s.drop k)).2⟩∧sc=⟨s,((k+(aV (s.drop k)).2:Nat):Int)⟩):=by
 have hL:(k:Int)<(s.length:Int):=by omega
 have hd:s.drop k=s[k]::s.drop (k+1):=List.drop_eq_getElem_cons hk
 have hT:aV (s.drop k)=qw s[k] (s.drop (k+1)):=by rw [hd];rfl
 have hsign:ij ⟨s,(k:Int)⟩=some (s[k].toNat:Int):=by
  simp only [ij,hL,if_true,dH,Option.bind_some,hU hk]
 unfold gC
 simp only [hsign,Option.bind_some,FD s hs,ym s hs]
 rw [hT]
 unfold qw
 cases g1:pL s[k] with
 | true=>
  have hr:bA en (s.drop k)=1+bA en (s.drop (k+1)):=by rw [hd,q9,if_pos (by simp [en,g1])]
  have hlen:((s.drop k).take (bA en (s.drop k))).length=1+bA en (s.drop (k+1)):=by
   rw [List.length_take,Nat.min_eq_left (lj _ _),hr]
  simp only [if_true,Qm s hs k (by omega),Option.bind_some,hlen]
  by_cases h12:12<1+bA en (s.drop (k+1))
  ·rw [if_pos (by omega)]
   have hE:dZ 1 (1+bA en (s.drop (k+1))) s[k]=2:=by simp [dZ,h12]
   exact ⟨_,_,by rw [hE],rfl,fun h=>by rw [hE] at h;cases h⟩
  ·rw [if_neg (by omega)]
   have hE:dZ 1 (1+bA en (s.drop (k+1))) s[k]=0:=by simp [dZ,h12]
   exact ⟨_,_,by rw [hE],rfl,fun _=>by rw [hr];exact ⟨rfl,rfl⟩⟩
 | false=>
  simp only [Bool.false_eq_true,if_false]
  cases g2:cV s[k] with
  | true=>
   have hr:bA cV (s.drop k)=1+bA cV (s.drop (k+1)):=by rw [hd,q9,if_pos g2]
   have hlen:((s.drop k).take (bA cV (s.drop k))).length=1+bA cV (s.drop (k+1)):=by
    rw [List.length_take,Nat.min_eq_left (lj _ _),hr]
   simp only [if_true,Qn s hs k (by omega),Option.bind_some,hlen,ZE]
   by_cases h7:7<1+bA cV (s.drop (k+1))
   ·rw [if_pos (by omega)]
    have hE:dZ 2 (1+bA cV (s.drop (k+1))) s[k]=2:=by simp [dZ,h7]
    exact ⟨_,_,by rw [hE],rfl,fun h=>by rw [hE] at h;cases h⟩
   rw [if_neg (by omega)]
   by_cases h1:1<1+bA cV (s.drop (k+1))
   ·rw [if_pos (by omega)]
    cases h48:(s[k].toNat==48) with
    | true=>
     have hE:dZ 2 (1+bA cV (s.drop (k+1))) s[k]=1:=by
      have:s[k].toNat=48:=by simpa using h48
      simp [dZ,h7,h1,this]
     rw [if_pos rfl]
     exact ⟨_,_,by rw [hE],rfl,fun h=>by rw [hE] at h;cases h⟩
    | false=>
     have hE:dZ 2 (1+bA cV (s.drop (k+1))) s[k]=0:=by
      have:¬s[k].toNat=48:=by simpa using h48
      simp [dZ,h7,this]
     rw [if_neg Bool.false_ne_true]
     exact ⟨_,_,by rw [hE],rfl,fun _=>by rw [hr];exact ⟨rfl,rfl⟩⟩
   ·rw [if_neg (by omega)]
    have hE:dZ 2 (1+bA cV (s.drop (k+1))) s[k]=0:=by simp [dZ,h7,h1]
    exact ⟨_,_,by rw [hE],rfl,fun _=>by rw [hr];exact ⟨rfl,rfl⟩⟩
  | false=>
   simp only [Bool.false_eq_true,if_false,dH,Option.bind_some,show k≤s.length by omega,if_true,List.take_length]
   have hpre:jq (s.drop k) [61,61]=some (s[k].toNat==61&&qv (s.drop (k+1))):=by
    unfold jq eJ
    rw [hd]
    cases hr:s.drop (k+1) with
    | nil=>simp [qv]
    | cons d r=>
     have e1:(s[k]==(61:UInt8))=(s[k].toNat==61):=by rw [Bool.eq_iff_iff];simp [←UInt8.toNat_inj]
     have e2:(d==(61:UInt8))=(d.toNat==61):=by rw [Bool.eq_iff_iff];simp [←UInt8.toNat_inj]
     simp only [List.length_cons,List.length_nil,show ((0+1+1:Nat):Int)≤((r.length+1+1:Nat):Int) by omega,if_true,show 0+1+1≤r.length+1+1 by omega,Option.bind_some,List.take_succ_cons,List.take_zero,List.drop_zero,qv]
     show some ((s[k]==61)&&((d==61)&&true))=_
     rw [e1,e2,Bool.and_true]
   rw [hpre]
   simp only [Option.bind_some]
   cases g3:(s[k].toNat==61&&qv (s.drop (k+1))) with
   | true=>
    rw [if_pos rfl,if_pos (by rw [eY (by omega) (by omega)])]
    have h61:s[k].toNat=61∧qv (s.drop (k+1))=true:=by simpa using g3
    refine ⟨_,_,rfl,rfl,fun _=>⟨?_,by simp⟩⟩
    rw [hd]
    cases hr:s.drop (k+1) with
    | nil=>rw [hr] at h61;exact absurd h61.2 (by simp [qv])
    | cons d r=>
     rw [hr] at h61
     have e1:s[k]=61:=by rw [←UInt8.toNat_inj];exact h61.1
     have e2:d=61:=by rw [←UInt8.toNat_inj];simpa [qv] using h61.2
     rw [e1,e2];rfl
   | false=>
    rw [if_neg Bool.false_ne_true]
    have hidx:pE [123,125,40,41,59,58,33,44,61,43,45,42,60] (s[k].toNat:Int)=some (Lib.indexByte er s[k]):=by
     unfold pE er
     simp
    rw [hidx]
    simp only [Option.bind_some,Bool.false_eq_true,if_false]
    have hany:=wC er s[k]
    cases g4:er.any (·==s[k]) with
    | true=>
     rw [g4] at hany
     have h0:=of_decide_eq_true hany
     have h128:s[k].toNat<128:=by
      obtain ⟨x,hx,hxe⟩:=List.any_eq_true.1 g4
      have:x=s[k]:=by simpa using hxe
      subst this
      simp only [er,List.mem_cons,List.not_mem_nil,or_false] at hx
      rcases hx with h | h | h | h | h | h | h | h | h | h | h | h | h<;>rw [h]<;>decide
     rw [if_pos h0,if_pos (by omega),if_pos (by rw [eY (by omega) (by omega)])]
     refine ⟨_,_,rfl,rfl,fun _=>⟨?_,rfl⟩⟩
     rw [hd]
     show (⟨3,(k:Int),[UInt8.ofNat ((s[k].toNat:Int)).toNat]⟩:Token)=⟨3,(k:Int),[s[k]]⟩
     congr 2
     simp
    | false=>
     rw [g4] at hany
     have h0:=of_decide_eq_false hany
     rw [if_neg h0]
     exact ⟨_,_,rfl,rfl,fun h=>by cases h⟩
end
theorem Jo(s:List UInt8)(hs:s.length≤6000):∀ (n p:Nat)(acc:List Token),p≤s.length→s.length - p<n→acc.length≤10000→acc.length+(s.length - p)≤10000→
  ∃ X,lp (fun v=>fI s v.1 v.2.1 v.2.2) (acc,s,((p+bM false (s.drop p):Nat):Int))=some X∧
   (if (dK n p (s.drop p)).2.2≠0 then ∃ z,X= .inl ((dK n p (s.drop p)).2.1,(dK n p (s.drop p)).2.2,z) else ∃ z,X= .inr (acc++(dK n p (s.drop p)).1,z)):=by
 intro n
 induction n with
 | zero=>intro p acc h1 h2;omega
 | succ n ih=>
  intro p acc hp hn ha1 ha2
  have hle:=vM (s.drop p) false
  rw [List.length_drop] at hle
  generalize hkk:p+bM false (s.drop p)=k
  have hdd:(s.drop p).drop (bM false (s.drop p))=s.drop k:=by rw [List.drop_drop,hkk]
  by_cases hlt:k<s.length
  ·have hd:s.drop k=s[k]::s.drop (k+1):=List.drop_eq_getElem_cons hlt
   obtain ⟨t,sc,hF,hAt,hT⟩:=M0 s hs k hlt
   have hpos:dZ (aV (s.drop k)).1 (aV (s.drop k)).2 s[k]=0→0<(aV (s.drop k)).2:=fun h=>Jl (by
    intro h0
    unfold dZ at h
    rw [if_pos h0] at h;cases h)
   have hTle:=Fh (s.drop k)
   rw [List.length_drop] at hTle
   have hcq:=hdd.trans hd
   by_cases hE:dZ (aV (s.drop k)).1 (aV (s.drop k)).2 s[k]=0
   ·obtain ⟨rfl,rfl⟩:=hT hE
    have hp0:=hpos hE
    have hsk:=Jn s hs (k+(aV (s.drop k)).2) (by omega)
    have hstep:fI s acc s (k:Int)=some (.inl (acc++[⟨(aV (s.drop k)).1,(k:Int),(s.drop k).take (aV (s.drop k)).2⟩],s,((k+(aV (s.drop k)).2+bM false (s.drop (k+(aV (s.drop k)).2)):Nat):Int))):=by
     simp only [fI,show (k:Int)<(s.length:Int) by omega,if_true,hF,Option.bind_some,hE,bne_self_eq_false,Bool.false_eq_true,if_false,show acc.length + [(⟨(aV (s.drop k)).1,(k:Int),(s.drop k).take (aV (s.drop k)).2⟩:Token)].length≤1000000000 by simp;omega,hsk]
    obtain ⟨X,hX,hXe⟩:=ih (k+(aV (s.drop k)).2) (acc++[⟨(aV (s.drop k)).1,(k:Int),(s.drop k).take (aV (s.drop k)).2⟩]) (by omega) (by omega) (by simp;omega) (by simp;omega)
    refine ⟨X,by rw [de hstep];exact hX,?_⟩
    have hS:=xq (n:=n) (a:=p) hcq (by rw [←hd];exact hE)
    rw [←hd,hkk,List.drop_drop] at hS
    rw [hS]
    generalize dK n (k+(aV (s.drop k)).2) (s.drop (k+(aV (s.drop k)).2))=R at hXe ⊢
    obtain ⟨ts,q,e⟩:=R
    by_cases he:e=0
    ·subst he
     simpa using hXe
    ·simpa [he] using hXe
   ·have hS:=Dr (n:=n) (a:=p) hcq (by rw [←hd];exact hE)
    rw [←hd,hkk] at hS
    rw [hS]
    simp only [ne_eq,hE,not_false_eq_true,if_true]
    refine ⟨.inl (t.At,dZ (aV (s.drop k)).1 (aV (s.drop k)).2 s[k],acc),bZ ?_,acc,?_⟩
    ·have hb:(dZ (aV (s.drop k)).1 (aV (s.drop k)).2 s[k] !=0)=true:=bne_iff_ne.2 hE
     simp only [fI,show (k:Int)<(s.length:Int) by omega,if_true,hF,Option.bind_some,hb]
    ·rw [hAt]
  ·have hk:k=s.length:=by omega
   have hd:s.drop k=[]:=by rw [hk,List.drop_length]
   rw [xp (hdd.trans hd)]
   simp only [ne_eq,not_true_eq_false,if_false,List.append_nil]
   refine ⟨.inr (acc,false,s,(k:Int)),bZ (by simp only [fI,show ¬(k:Int)<(s.length:Int) by omega,if_false,decide_false]),_,rfl⟩
theorem Qo(s:List UInt8):pP s=some (sd s):=by
 unfold pP sd
 by_cases h:6000<s.length
 ·rw [if_pos (by omega),if_pos h]
 ·rw [if_neg (by omega),if_neg h]
  have hs:s.length≤6000:=by omega
  have hsk:=Jn s hs 0 (by omega)
  obtain ⟨X,hX,hXe⟩:=Jo s hs (s.length+1) 0 [] (by omega) (by omega) (by simp) (by simp;omega)
  have hsk':eb ⟨s,0⟩=_:=hsk
  rw [hsk']
  simp only [Option.bind_some]
  rw [hX]
  simp only [Option.bind_some,List.drop_zero] at hXe ⊢
  by_cases he:(dK (s.length+1) 0 s).2.2=0
  ·rw [if_neg (by simpa using he)] at hXe
   obtain ⟨⟨z1,z2,z3⟩,rfl⟩:=hXe
   simp only [List.nil_append]
   have hpos:(dK (s.length+1) 0 s).2.1=0:=KJ he
   generalize dK (s.length+1) 0 s=R at he hpos ⊢
   obtain ⟨a,b,c⟩:=R
   simp only at he hpos
   subst he;subst hpos
   rfl
  ·rw [if_pos he] at hXe
   obtain ⟨z,rfl⟩:=hXe
   have hnil:(dK (s.length+1) 0 s).1=[]:=Jm he
   generalize dK (s.length+1) 0 s=R at he hnil ⊢
   obtain ⟨a,b,c⟩:=R
   simp only at he hnil
   subst hnil
   rfl
theorem YT(n m:Nat):((n:Int)==(m:Int))=(n==m):=by rw [Bool.eq_iff_iff];simp;omega
theorem Qp(c d:UInt8):(c.toNat==d.toNat)=(c==d):=by rw [Bool.eq_iff_iff];simp [←UInt8.toNat_inj]
variable [Lp]
theorem tZ(n x y:Int):eD n x y=some (decide (x≤n∧n≤y)):=by
 unfold eD
 by_cases h:x≤n<;>simp [h]
theorem zA(c:UInt8):me (c.toNat:Int)=some (pL c):=by
 unfold me pL
 rw [Mw _ (Qi c),tZ,Option.bind_some]
 congr 1;rw [Bool.eq_iff_iff];simp;omega
theorem vn(c:UInt8):lq (c.toNat:Int)=some (cV c):=by
 unfold lq cV
 rw [Mw _ (Qi c),tZ,Option.bind_some]
 congr 1;rw [Bool.eq_iff_iff];simp;omega
section
variable (s:List UInt8)(hs:s.length≤6000)
include hs
theorem Jp(k:Nat)(hk:k<s.length):qX s (k:Int)=some ((aV (s.drop k)).1,((aV (s.drop k)).2:Int)):=by
 have hd:s.drop k=s[k]::s.drop (k+1):=List.drop_eq_getElem_cons hk
 have hT:aV (s.drop k)=qw s[k] (s.drop (k+1)):=by rw [hd];rfl
 unfold qX
 simp only [dH,Option.bind_some,hU hk,zA,vn,Qk]
 rw [hT]
 unfold qw
 have hj:∀ j,k≤j→(k:Int)+((j - k:Nat):Int)=(j:Int):=fun j h=>by omega
 cases g1:pL s[k] with
 | true=>
  have h:=xr (B:=fun v=>jy s (k:Int) v) s en (fun j=>j - k) (fun j=>(false,j - k)) (false,s.length - k) (k+1)
   (fun j hj1 hlo hp=>by
    simp only [jy,hj j (by omega),eY (show -1000000000<(j:Int) by omega) (by omega),if_true,show (j:Int)<(s.length:Int) by omega,dH,Option.bind_some,hU hj1,zA,vn,dq (j - k) (by omega),
     show j - k+1=j+1 - k by omega]
    unfold en at hp
    cases hl:pL s[j] with
    | true=>simp
    | false=>
     have:cV s[j]=true:=by simpa [hl] using hp
     simp [this])
   (fun j hj1 hlo hp=>by
    unfold en at hp
    obtain ⟨h1,h2⟩:=Bool.or_eq_false_iff.1 hp
    simp only [jy,hj j (by omega),eY (show -1000000000<(j:Int) by omega) (by omega),if_true,show (j:Int)<(s.length:Int) by omega,dH,Option.bind_some,hU hj1,zA,vn,h1,h2,Bool.false_eq_true,if_false])
   (by simp only [jy,hj s.length (by omega),eY (show -1000000000<(s.length:Int) by omega) (by omega),if_true,show ¬(s.length:Int)<(s.length:Int) by omega,if_false]) (k+1) (Nat.le_refl _) (by omega)
  have h':=h
  rw [show k+1 - k=1 by omega] at h'
  have hle:=lj en (s.drop (k+1))
  rw [List.length_drop] at hle
  simp only [if_true,h']
  by_cases hlt:k+1+bA en (s.drop (k+1))<s.length
  ·simp only [if_pos hlt,Option.bind_some]
   rw [show k+1+bA en (s.drop (k+1)) - k=1+bA en (s.drop (k+1)) by omega]
  ·simp only [if_neg hlt,Option.bind_some]
   rw [show s.length - k=1+bA en (s.drop (k+1)) by omega]
 | false=>
  simp only [Bool.false_eq_true,if_false]
  cases g2:cV s[k] with
  | true=>
   have h:=xr (B:=fun v=>jz s (k:Int) v) s cV (fun j=>j - k) (fun j=>(false,j - k)) (false,s.length - k) (k+1)
    (fun j hj1 hlo hp=>by
     simp only [jz,hj j (by omega),eY (show -1000000000<(j:Int) by omega) (by omega),if_true,show (j:Int)<(s.length:Int) by omega,dH,Option.bind_some,hU hj1,vn,hp,dq (j - k) (by omega),
      show j - k+1=j+1 - k by omega])
    (fun j hj1 hlo hp=>by
     simp only [jz,hj j (by omega),eY (show -1000000000<(j:Int) by omega) (by omega),if_true,show (j:Int)<(s.length:Int) by omega,dH,Option.bind_some,hU hj1,vn,hp,Bool.false_eq_true,if_false])
    (by simp only [jz,hj s.length (by omega),eY (show -1000000000<(s.length:Int) by omega) (by omega),if_true,show ¬(s.length:Int)<(s.length:Int) by omega,if_false]) (k+1) (Nat.le_refl _) (by omega)
   have h':=h
   rw [show k+1 - k=1 by omega] at h'
   have hle:=lj cV (s.drop (k+1))
   rw [List.length_drop] at hle
   simp only [if_true,h']
   by_cases hlt:k+1+bA cV (s.drop (k+1))<s.length
   ·simp only [if_pos hlt,Option.bind_some]
    rw [show k+1+bA cV (s.drop (k+1)) - k=1+bA cV (s.drop (k+1)) by omega]
   ·simp only [if_neg hlt,Option.bind_some]
    rw [show s.length - k=1+bA cV (s.drop (k+1)) by omega]
  | false=>
   simp only [Bool.false_eq_true,if_false]
   have hD:iL s[k]=some (if er.any (·==s[k])=true then .inl () else .inr ()):=by
    have hB:∀ v:Nat,lg s[k] v=(if (v:Int)<((er.length:Nat):Int) then (er[v]?).bind fun (Aj:UInt8)=>if ((Aj.toNat:Int)==(s[k].toNat:Int))=true then some (.inr (.inl ())) else
      if IntKind.i64.wrap ((v:Int)+1)=((v+1:Nat):Int) then some (.inl (v+1)) else none else some (.inr (.inr (v,decide ((v:Int)<((er.length:Nat):Int)))))):=fun v=>rfl
    have h:=pI (B:=fun v=>lg s[k] v) er (·==s[k]) id (x:=.inl ()) (y:=.inr (er.length,false))
     (fun j hj1 hp=>by
      have hj2:j<13:=hj1
      have hp':(er[j]==s[k])=false:=hp
      simp only [hB,id,show (j:Int)<((er.length:Nat):Int) by omega,if_true,List.getElem?_eq_getElem hj1,Option.bind_some,YT,Qp,dq j (by omega)]
      exact if_neg (fun h=>Bool.false_ne_true (hp.symm.trans h)))
     (fun j hj1 hp=>by
      have hp':(er[j]==s[k])=true:=hp
      simp only [hB,id,show (j:Int)<((er.length:Nat):Int) by omega,if_true,List.getElem?_eq_getElem hj1,Option.bind_some,YT,Qp]
      exact if_pos hp')
     (by simp only [hB,id,show ¬(er.length:Int)<(er.length:Int) by omega,if_false,decide_false])
    have h':lp (fun v=>lg s[k] v) 0=_:=h
    unfold iL
    rw [h']
    cases er.any (·==s[k])<;>rfl
   cases g61:(s[k].toNat==61) with
   | false=>
    simp only [Bool.false_eq_true,if_false,Bool.false_and,hD,Option.bind_some]
    cases er.any (·==s[k])<;>rfl
   | true=>
    have hw:IntKind.i64.wrap ((k:Int)+1)=(k:Int)+1:=Ao k (by omega)
    simp only [if_true,hw,Bool.true_and]
    by_cases hk1:k+1<s.length
    ·have hd1:s.drop (k+1)=s[k+1]::s.drop (k+2):=List.drop_eq_getElem_cons hk1
     have hn:dG ((k:Int)+1)=some (k+1):=by rw [MW (by omega)];congr 1
     rw [hd1]
     simp only [show (k:Int)+1<(s.length:Int) by omega,if_true,hn,Option.bind_some,hU hk1,Qk,qv]
     by_cases hb:(s[k+1].toNat==61)=true
     ·simp only [hb,if_true];rfl
     ·simp only [hb,if_false,hD,Option.bind_some]
      cases er.any (·==s[k])<;>rfl
    ·have hd1:s.drop (k+1)=[]:=List.drop_eq_nil_of_le (by omega)
     rw [hd1]
     simp only [show ¬(k:Int)+1<(s.length:Int) by omega,if_false,qv,Bool.false_eq_true,hD,Option.bind_some]
     cases er.any (·==s[k])<;>rfl
end
def sY(k:Int):List UInt8→Bool
 | []=>false
 | c::q=>decide ((c::q).length≤6000)&&(decide (k≠0)&&(decide ((aV (c::q)).1=k)&&(decide ((aV (c::q)).2=(c::q).length)&&decide (dZ k (c::q).length c=0))))
theorem pd{k:Int}{c:UInt8}{q:List UInt8} : sY k (c::q)=true↔(c::q).length≤6000∧k≠0∧(aV (c::q)).1=k∧(aV (c::q)).2=(c::q).length∧dZ k (c::q).length c=0:=by
 unfold sY
 rw [Bool.and_eq_true,Bool.and_eq_true,Bool.and_eq_true,Bool.and_eq_true,decide_eq_true_eq,decide_eq_true_eq,decide_eq_true_eq,decide_eq_true_eq,decide_eq_true_eq]
theorem KM{c:UInt8}{q:List UInt8}(h:(aV (c::q)).1≠0):bM false (c::q)=0:=by
 have h':(qw c q).1≠0:=h
 have h35:c.toNat≠35:=by
  intro e
  unfold qw pL cV er at h'
  have hc:c=35:=by rw [←UInt8.toNat_inj];exact e
  subst hc
  simp at h'
 have hw:Fg c=false:=by
  rw [Bool.eq_false_iff]
  intro hw
  have:c=32∨c=9∨c=10:=by
   unfold Fg at hw
   simp only [Bool.or_eq_true,beq_iff_eq] at hw
   rcases hw with (h | h) | h
   ·left;rw [←UInt8.toNat_inj];exact h
   ·right;left;rw [←UInt8.toNat_inj];exact h
   ·right;right;rw [←UInt8.toNat_inj];exact h
  unfold qw pL cV er at h'
  rcases this with rfl | rfl | rfl<;>simp at h'
 unfold bM
 simp [h35,hw]
theorem KN{k:Int}{t:List UInt8}(h:sY k t=true):sd t=([⟨k,0,t⟩],0,0):=by
 cases t with
 | nil=>cases h
 | cons c q=>
  obtain ⟨h1,h2,h3,h4,h5⟩:=pd.1 h
  have hs:=KM (c:=c) (q:=q) (by rw [h3];exact h2)
  unfold sd
  rw [if_neg (by omega),xq (c:=c) (q:=q) (by rw [hs];rfl) (by rw [h3,h4];exact h5),h4,List.drop_length,h3,hs,List.take_length]
  rw [List.length_cons,xp (show ([]:List UInt8).drop (bM false [])=[] from rfl)]
  rfl
theorem KO{k:Int}{t:List UInt8}{x:Token}(h0:(sd t).2.2=0)(h1:(sd t).1=[x])(h2:x.Kind=k)(h3:x.Text=t):sY k t=true:=by
 unfold sd at h0 h1
 split at h0
 ·exact absurd h0 (by decide)
 ·rename_i hl
  rw [if_neg hl] at h1
  cases h:t.drop (bM false t) with
  | nil=>rw [xp h] at h1;cases h1
  | cons c q=>
   have hlen:(c::q).length=t.length - bM false t:=by rw [←h,List.length_drop]
   by_cases hE:dZ (aV (c::q)).1 (aV (c::q)).2 c=0
   ·rw [xq h hE] at h1
    split at h1
    ·cases h1
    ·obtain ⟨h4,h5⟩:=List.cons.inj h1
     subst h4
     have h6:(c::q).take (aV (c::q)).2=t:=h3
     have h7:=congrArg List.length h6
     rw [List.length_take] at h7
     have ht:=Fh (c::q)
     have hne:t.length≠0:=by
      intro e
      rw [e] at hlen
      simp at hlen
     have hsk:bM false t=0:=by omega
     rw [hsk,List.drop_zero] at h
     subst h
     have h8:(aV (c::q)).1=k:=h2
     refine pd.2 ⟨by omega,?_,h8,by omega,?_⟩
     ·intro e
      rw [h8,e] at hE
      exact absurd hE (by simp [dZ])
     ·rw [h8] at hE
      rw [show (aV (c::q)).2=(c::q).length by omega] at hE
      exact hE
   ·rw [Dr h hE] at h1;cases h1
variable [Lp]
theorem WW(k:Int)(t:List UInt8):qT k t=some (sY k t):=by
 unfold qT qy iE
 rw [Qo,Option.bind_some]
 cases hT:sY k t with
 | true=>rw [KN hT];simp
 | false=>
  by_cases h0:(sd t).2.2=0
  ·cases h1:(sd t).1 with
   | nil=>simp [h0]
   | cons x r=>
    cases r with
    | cons y r=>simp [h0];omega
    | nil=>
     simp only [h0,beq_self_eq_true,if_true,List.length_cons,List.length_nil,List.getElem?_cons_zero,Option.bind_some]
     by_cases h2:x.Kind=k
     ·by_cases h3:x.Text=t
      ·rw [KO h0 h1 h2 h3] at hT;cases hT
      ·simp [h2,h3]
     ·simp [h2]
  ·simp [h0]
theorem Jq(k:Int)(t:List UInt8):qY k t=some (sY k t):=by
 cases t with
 | nil=>rfl
 | cons c q=>
  unfold qY qJ iM fK
  have hne:((c::q)==([]:List UInt8))=false:=rfl
  rw [hne]
  simp only [Bool.false_eq_true,if_false]
  by_cases hl:6000<((c::q).length:Int)
  ·rw [if_pos hl]
   have:sY k (c::q)=false:=by rw [Bool.eq_false_iff];intro h;have:=(pd.1 h).1;omega
   rw [this]
  rw [if_neg hl]
  by_cases hk:k=0
  ·subst hk
   have:sY 0 (c::q)=false:=by rw [Bool.eq_false_iff];intro h;exact (pd.1 h).2.1 rfl
   rw [this];rfl
  have hk':(k==0)=false:=by simpa using hk
  rw [hk']
  simp only [Bool.false_eq_true,if_false]
  have hr:=Jp (c::q) (by omega) 0 (by simp)
  rw [show ((0:Nat):Int)=0 from rfl] at hr
  rw [hr,Option.bind_some,List.drop_zero]
  by_cases h1:(aV (c::q)).1=k
  ·have e1:((aV (c::q)).1==k)=true:=by simpa using h1
   simp only [e1,if_true]
   by_cases h2:(aV (c::q)).2=(c::q).length
   ·have e2:(((aV (c::q)).2:Int)==((c::q).length:Int))=true:=by rw [h2];simp
    simp only [e2,if_true,h1,h2]
    have goal:sY k (c::q)=decide (dZ k (c::q).length c=0):=by
     rw [Bool.eq_iff_iff,pd,decide_eq_true_eq]
     exact ⟨fun h=>h.2.2.2.2,fun h=>⟨by omega,hk,h1,h2,h⟩⟩
    rw [goal]
    generalize hn:(c::q).length=n
    have hg:(c::q)[0]? =some c:=rfl
    rw [hg]
    unfold dZ
    rw [if_neg hk]
    by_cases k1:k=1
    ·subst k1
     by_cases g:12<n
     ·have:(12:Int)<(n:Int):=by omega
      simp [g,this]
     ·have:¬(12:Int)<(n:Int):=by omega
      simp [g,this]
    ·have e3:(k==1)=false:=by simpa using k1
     by_cases k2:k=2
     ·subst k2
      by_cases g:7<n
      ·have:(7:Int)<(n:Int):=by omega
       simp [g,this]
      ·have g':¬(7:Int)<(n:Int):=by omega
       by_cases g1:1<n
       ·have g1':(1:Int)<(n:Int):=by omega
        by_cases g2:c.toNat=48
        ·simp [g,g',g1,g1',g2]
        ·have:¬(c.toNat:Int)=48:=by omega
         simp [g,g',g1,g1',g2,this]
       ·have g1':¬(1:Int)<(n:Int):=by omega
        simp [g,g',g1,g1']
     ·simp [k1,k2]
   ·have e2:(((aV (c::q)).2:Int)==((c::q).length:Int))=false:=by simp;intro e;exact h2 (by simp;omega)
    simp only [e2,Bool.false_eq_true,if_false]
    have:sY k (c::q)=false:=by rw [Bool.eq_false_iff];intro h;exact h2 (pd.1 h).2.2.2.1
    rw [this];rfl
  ·have e1:((aV (c::q)).1==k)=false:=by simpa using h1
   simp only [e1,Bool.false_eq_true,if_false]
   have:sY k (c::q)=false:=by rw [Bool.eq_false_iff];intro h;exact h1 (pd.1 h).2.2.1
   rw [this];rfl
def xy:List (List UInt8):=[[97,99,116,111,114],[103,114,97,110,116],[115,112,101,97,107],[105,110],[111,117,116],[118,97,114],[102,117,110,99],[109,97,105,110],[103,101,116],[112,117,116],[114,101,118,101,97,108],[116,114,117,115,116],[105,102],[101,108,115,101],[119,104,105,108,101],[114,101,116,117,114,110]]
def cA(t:List UInt8):Bool:=sY 1 t&&!xy.any (·==t)
theorem KP(W:List (List UInt8))(t:List UInt8)(hW:W.length≤1000){B:Nat→Option (Nat⊕(Unit⊕(Nat×Bool)))}(hB:∀ k,B k=if (k:Int)<(W.length:Int) then (W[k]?).bind fun y=>if (y==t)=true then some (.inr (.inl ())) else if IntKind.i64.wrap ((k:Int)+1)=((k+1:Nat):Int) then some (.inl (k+1)) else none else some (.inr (.inr (k,decide ((k:Int)<(W.length:Int)))))) :
  lp B 0=some (if W.any (·==t) then .inl () else .inr (W.length,false)):=by
 refine pI W (·==t) (fun k=>k) (fun k h hp=>?_) (fun k h hp=>?_) ?_
 ·rw [hB,if_pos (by omega),List.getElem?_eq_getElem h,Option.bind_some,hp]
  simp only [Bool.false_eq_true,if_false]
  rw [if_pos (dq k (by omega))]
 ·rw [hB,if_pos (by omega),List.getElem?_eq_getElem h,Option.bind_some,hp];rfl
 ·rw [hB,if_neg (by omega)];simp
theorem KQ(t:List UInt8):sf t=some (xy.any (·==t)):=by
 unfold sf
 have h':=KP xy t (by decide) (B:=fun v=>sW t v) (fun k=>rfl)
 rw [h']
 cases xy.any (·==t)<;>rfl
theorem It(W:List (List UInt8))(t:List UInt8)(hW:W.length≤1000):dS W t=some (W.any (·==t)):=by
 have h:dS W t=some (W.any fun y=>t==y):=j0 (fun y=>some (t==y)) (fun y=>t==y) W (by omega) (fun _ _=>rfl)
 rw [h]
 congr 2
 funext y
 rw [Bool.eq_iff_iff,beq_iff_eq,beq_iff_eq]
 exact eq_comm
theorem vo(t:List UInt8):fS t=some (cA t):=by
 unfold fS sP
 simp only [WW,Option.bind_some,sQ]
 unfold cA
 cases sY 1 t with
 | false=>rfl
 | true=>
  simp only [if_true,Bool.true_and]
  change (dS xy t).bind _=_
  rw [It _ _ (by decide)];rfl
theorem pZ(t:List UInt8):dx t=some (cA t):=by
 unfold dx
 simp only [Jq,Option.bind_some,KQ]
 unfold cA
 cases sY 1 t<;>rfl
theorem Jr:cA []=false:=rfl
end Go.Proofs.YtogbakbmphadfaaGreatDoor.A
