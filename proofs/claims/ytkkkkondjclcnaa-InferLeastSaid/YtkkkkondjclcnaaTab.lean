/- Each function and its abstract code, made by program. -/
import Derived.Test.YtkkkkondjclcnaaAbsJ
import Derived.Test.YtkkkkondjclcnaaCode
import Derived.Test.YtkkkkondjclcnaaProg
import Derived.Test.YtkkkkondjclcnaaOrcOK
import Derived.Test.YtkkkkondjclcnaaUses
import Derived.Test.YtkkkkondjclcnaaRep
import Derived.Test.YtkkkkondjclcnaaGrow
set_option maxRecDepth 100000
set_option linter.unusedSectionVars false
set_option linter.unusedVariables false
set_option linter.unusedSimpArgs false
namespace Go.Proofs.Ytkkkkondjclcnaa.A
open Go Go.Proofs
variable [aP]
theorem Tm:aN Try.prog 3 c3=true:=by kernel_rfl
theorem Tn:aN Try.prog 4 c4=true:=by kernel_rfl
theorem Tp:aN Try.prog 5 c5=true:=by kernel_rfl
theorem Tq:aN Try.prog 6 c6=true:=by kernel_rfl
theorem Tr:aN Try.prog 7 c7=true:=by kernel_rfl
theorem Ts:aN Try.prog 8 c8=true:=by kernel_rfl
theorem Tt:aN Try.prog 9 c9=true:=by kernel_rfl
theorem Q0:aN Try.prog 10 IL=true:=by kernel_rfl
theorem Q1:aN Try.prog 11 Sf=true:=by kernel_rfl
theorem Q2:aN Try.prog 12 Sg=true:=by kernel_rfl
theorem Q3:aN Try.prog 13 Sh=true:=by kernel_rfl
theorem Q4:aN Try.prog 14 Si=true:=by kernel_rfl
theorem Q5:aN Try.prog 15 Sj=true:=by kernel_rfl
theorem Q6:aN Try.prog 16 Sk=true:=by kernel_rfl
theorem Q7:aN Try.prog 17 Sl=true:=by kernel_rfl
theorem Q8:aN Try.prog 18 Sm=true:=by kernel_rfl
theorem Q9:aN Try.prog 19 Sn=true:=by kernel_rfl
theorem Ra:aN Try.prog 20 So=true:=by kernel_rfl
theorem Rb:aN Try.prog 21 Sq=true:=by kernel_rfl
theorem Rc:aN Try.prog 22 K1=true:=by kernel_rfl
theorem Rd:aN Try.prog 23 K2=true:=by kernel_rfl
theorem Re:aN Try.prog 24 K3=true:=by kernel_rfl
theorem Rf:aN Try.prog 25 K4=true:=by kernel_rfl
theorem Rg:aN Try.prog 26 yq=true:=by kernel_rfl
theorem Rh:aN Try.prog 27 K5=true:=by kernel_rfl
theorem Ri:aN Try.prog 28 K6=true:=by kernel_rfl
theorem Rj:aN Try.prog 29 K7=true:=by kernel_rfl
theorem Rk:aN Try.prog 30 K8=true:=by kernel_rfl
theorem Rl:aN Try.prog 31 K9=true:=by kernel_rfl
theorem Rm:aN Try.prog 32 La=true:=by kernel_rfl
theorem Rn:aN Try.prog 33 Lb=true:=by kernel_rfl
theorem Ro:aN Try.prog 34 Lc=true:=by kernel_rfl
theorem Rp:aN Try.prog 35 Ld=true:=by kernel_rfl
theorem Rq:aN Try.prog 36 Lf=true:=by kernel_rfl
theorem Rr:aN Try.prog 37 Lg=true:=by kernel_rfl
theorem Rs:aN Try.prog 38 IY=true:=by kernel_rfl
theorem Rt:aN Try.prog 39 Lh=true:=by kernel_rfl
theorem Ru:aN Try.prog 40 Li=true:=by kernel_rfl
theorem Rv:aN Try.prog 41 Lj=true:=by kernel_rfl
theorem Rw:aN Try.prog 42 Lk=true:=by kernel_rfl
theorem Rx:aN Try.prog 43 Ll=true:=by kernel_rfl
theorem Ry:aN Try.prog 44 Lm=true:=by kernel_rfl
theorem Rz:aN Try.prog 45 Ln=true:=by kernel_rfl
theorem RA:aN Try.prog 46 Lo=true:=by kernel_rfl
theorem RB:aN Try.prog 47 Lq=true:=by kernel_rfl
theorem RC:aN Try.prog 48 Lr=true:=by kernel_rfl
theorem RD:aN Try.prog 49 Ls=true:=by kernel_rfl
theorem RE:aN Try.prog 50 Lt=true:=by kernel_rfl
theorem RF:aN Try.prog 51 Lu=true:=by kernel_rfl
theorem RG:aN Try.prog 52 I7=true:=by kernel_rfl
theorem RH:aN Try.prog 53 Lv=true:=by kernel_rfl
theorem RI:aN Try.prog 54 Lw=true:=by kernel_rfl
theorem RJ:aN Try.prog 55 Lx=true:=by kernel_rfl
theorem RK:aN Try.prog 56 Ly=true:=by kernel_rfl
theorem RL:aN Try.prog 57 Lz=true:=by kernel_rfl
theorem RM:aN Try.prog 58 LA=true:=by kernel_rfl
theorem RN:aN Try.prog 59 LB=true:=by kernel_rfl
theorem RO:aN Try.prog 60 LC=true:=by kernel_rfl
theorem RP:aN Try.prog 61 LD=true:=by kernel_rfl
theorem RQ:aN Try.prog 62 LF=true:=by kernel_rfl
theorem RR:aN Try.prog 63 LG=true:=by kernel_rfl
theorem RS:aN Try.prog 64 LH=true:=by kernel_rfl
theorem RT:aN Try.prog 65 LI=true:=by kernel_rfl
theorem RU:aN Try.prog 67 LJ=true:=by kernel_rfl
theorem RW:aN Try.prog 68 LK=true:=by kernel_rfl
theorem RX:aN Try.prog 69 Sr=true:=by kernel_rfl
theorem RY:aN Try.prog 70 LL=true:=by kernel_rfl
theorem RZ:aN Try.prog 71 LM=true:=by kernel_rfl
theorem R0:aN Try.prog 72 LN=true:=by kernel_rfl
theorem R1:aN Try.prog 73 LO=true:=by kernel_rfl
theorem R2:aN Try.prog 74 LP=true:=by kernel_rfl
theorem R3:aN Try.prog 75 LQ=true:=by kernel_rfl
theorem R4:aN Try.prog 77 LR=true:=by kernel_rfl
theorem R5:aN Try.prog 78 LS=true:=by kernel_rfl
theorem R6:aN Try.prog 79 LU=true:=by kernel_rfl
theorem R7:aN Try.prog 80 LV=true:=by kernel_rfl
theorem R8:aN Try.prog 81 Ss=true:=by kernel_rfl
theorem R9:aN Try.prog 82 LX=true:=by kernel_rfl
theorem Sa:aN Try.prog 85 LY=true:=by kernel_rfl
theorem Sb:aN Try.prog 86 LZ=true:=by kernel_rfl
theorem Sc:aN Try.prog 87 Su=true:=by kernel_rfl
theorem Sd:aN Try.prog 88 Sv=true:=by kernel_rfl
theorem UB:sD Try.prog G:=by
 intro f fn h
 unfold G at h
 split at h
 ·obtain rfl:=Option.some.inj h;exact Tm
 ·obtain rfl:=Option.some.inj h;exact Tn
 ·obtain rfl:=Option.some.inj h;exact Tp
 ·obtain rfl:=Option.some.inj h;exact Tq
 ·obtain rfl:=Option.some.inj h;exact Tr
 ·obtain rfl:=Option.some.inj h;exact Ts
 ·obtain rfl:=Option.some.inj h;exact Tt
 ·obtain rfl:=Option.some.inj h;exact Q0
 ·obtain rfl:=Option.some.inj h;exact Q1
 ·obtain rfl:=Option.some.inj h;exact Q2
 ·obtain rfl:=Option.some.inj h;exact Q3
 ·obtain rfl:=Option.some.inj h;exact Q4
 ·obtain rfl:=Option.some.inj h;exact Q5
 ·obtain rfl:=Option.some.inj h;exact Q6
 ·obtain rfl:=Option.some.inj h;exact Q7
 ·obtain rfl:=Option.some.inj h;exact Q8
 ·obtain rfl:=Option.some.inj h;exact Q9
 ·obtain rfl:=Option.some.inj h;exact Ra
 ·obtain rfl:=Option.some.inj h;exact Rb
 ·obtain rfl:=Option.some.inj h;exact Rc
 ·obtain rfl:=Option.some.inj h;exact Rd
 ·obtain rfl:=Option.some.inj h;exact Re
 ·obtain rfl:=Option.some.inj h;exact Rf
 ·obtain rfl:=Option.some.inj h;exact Rg
 ·obtain rfl:=Option.some.inj h;exact Rh
 ·obtain rfl:=Option.some.inj h;exact Ri
 ·obtain rfl:=Option.some.inj h;exact Rj
 ·obtain rfl:=Option.some.inj h;exact Rk
 ·obtain rfl:=Option.some.inj h;exact Rl
 ·obtain rfl:=Option.some.inj h;exact Rm
 ·obtain rfl:=Option.some.inj h;exact Rn
 ·obtain rfl:=Option.some.inj h;exact Ro
 ·obtain rfl:=Option.some.inj h;exact Rp
 ·obtain rfl:=Option.some.inj h;exact Rq
 ·obtain rfl:=Option.some.inj h;exact Rr
 ·obtain rfl:=Option.some.inj h;exact Rs
 ·obtain rfl:=Option.some.inj h;exact Rt
 ·obtain rfl:=Option.some.inj h;exact Ru
 ·obtain rfl:=Option.some.inj h;exact Rv
 ·obtain rfl:=Option.some.inj h;exact Rw
 ·obtain rfl:=Option.some.inj h;exact Rx
 ·obtain rfl:=Option.some.inj h;exact Ry
 ·obtain rfl:=Option.some.inj h;exact Rz
 ·obtain rfl:=Option.some.inj h;exact RA
 ·obtain rfl:=Option.some.inj h;exact RB
 ·obtain rfl:=Option.some.inj h;exact RC
 ·obtain rfl:=Option.some.inj h;exact RD
 ·obtain rfl:=Option.some.inj h;exact RE
 ·obtain rfl:=Option.some.inj h;exact RF
 ·obtain rfl:=Option.some.inj h;exact RG
 ·obtain rfl:=Option.some.inj h;exact RH
 ·obtain rfl:=Option.some.inj h;exact RI
 ·obtain rfl:=Option.some.inj h;exact RJ
 ·obtain rfl:=Option.some.inj h;exact RK
 ·obtain rfl:=Option.some.inj h;exact RL
 ·obtain rfl:=Option.some.inj h;exact RM
 ·obtain rfl:=Option.some.inj h;exact RN
 ·obtain rfl:=Option.some.inj h;exact RO
 ·obtain rfl:=Option.some.inj h;exact RP
 ·obtain rfl:=Option.some.inj h;exact RQ
 ·obtain rfl:=Option.some.inj h;exact RR
 ·obtain rfl:=Option.some.inj h;exact RS
 ·obtain rfl:=Option.some.inj h;exact RT
 ·obtain rfl:=Option.some.inj h;exact RU
 ·obtain rfl:=Option.some.inj h;exact RW
 ·obtain rfl:=Option.some.inj h;exact RX
 ·obtain rfl:=Option.some.inj h;exact RY
 ·obtain rfl:=Option.some.inj h;exact RZ
 ·obtain rfl:=Option.some.inj h;exact R0
 ·obtain rfl:=Option.some.inj h;exact R1
 ·obtain rfl:=Option.some.inj h;exact R2
 ·obtain rfl:=Option.some.inj h;exact R3
 ·obtain rfl:=Option.some.inj h;exact R4
 ·obtain rfl:=Option.some.inj h;exact R5
 ·obtain rfl:=Option.some.inj h;exact R6
 ·obtain rfl:=Option.some.inj h;exact R7
 ·obtain rfl:=Option.some.inj h;exact R8
 ·obtain rfl:=Option.some.inj h;exact R9
 ·obtain rfl:=Option.some.inj h;exact Sa
 ·obtain rfl:=Option.some.inj h;exact Sb
 ·obtain rfl:=Option.some.inj h;exact Sc
 ·obtain rfl:=Option.some.inj h;exact Sd
 ·cases h
theorem UC:ei Try.prog Ω0:=by
 refine ⟨fun f g n h=>?_,fun f y h _=>?_,fun f ys x h hy hp=>?_,fun f ys t h hy=>?_,fun f t h=>?_,fun f c es ns h hn=>?_⟩
 ·simp only [Ω0] at h
  split at h
  ·exact (JT h).elim
  ·exact (Ht h).elim
  ·exact (F9 h).elim
  ·cases h
 ·simp only [Ω0] at h
  split at h
  ·exact (NG h).elim
  ·exact (KT h).elim
  ·exact (JS h).elim
  ·cases h
 ·simp only [Ω0] at h
  split at h
  ·exact (KU h hy).elim
  ·exact QY h
  ·exact (Iy h hp).elim
  ·cases h
 ·simp only [Ω0] at h
  split at h
  ·exact (JV h).elim
  ·exact (JW h).elim
  ·exact Nr h
  ·cases h
 ·simp only [Ω0] at h
  split at h
  ·exact (JU h).elim
  ·exact (Hu h).elim
  ·exact (Ga h).elim
  ·cases h
 ·simp only [Ω0] at h
  split at h
  ·exact Tl h hn
  ·exact (Hv h).elim
  ·exact (Gb h).elim
  ·cases h
theorem sound:fe Try.prog (call G Ω0):=KF UB fun B=>@UC B
end Go.Proofs.Ytkkkkondjclcnaa.A
