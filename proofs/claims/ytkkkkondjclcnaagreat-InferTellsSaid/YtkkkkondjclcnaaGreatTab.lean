/- Each function and its abstract code, made by program. -/
import Derived.Test.YtkkkkondjclcnaaGreatAbsJ
import Derived.Test.YtkkkkondjclcnaaGreatCode
import Derived.Test.YtkkkkondjclcnaaGreatProg
import Derived.Test.YtkkkkondjclcnaaGreatOrcOK
import Derived.Test.YtkkkkondjclcnaaGreatShelf
set_option linter.all false
set_option maxRecDepth 100000
namespace Go.Proofs.YtkkkkondjclcnaaGreat.A
open Go Go.Proofs
variable [bI]
theorem aju:bg Tryz.prog 3 c3=true:=by kernel_rfl
theorem ajv:bg Tryz.prog 7 c7=true:=by kernel_rfl
theorem ajw:bg Tryz.prog 8 c8=true:=by kernel_rfl
theorem ajx:bg Tryz.prog 9 c9=true:=by kernel_rfl
theorem ahg:bg Tryz.prog 10 XU=true:=by kernel_rfl
theorem ahh:bg Tryz.prog 11 XV=true:=by kernel_rfl
theorem ahi:bg Tryz.prog 12 XW=true:=by kernel_rfl
theorem ahj:bg Tryz.prog 13 UG=true:=by kernel_rfl
theorem ahk:bg Tryz.prog 14 XX=true:=by kernel_rfl
theorem ahl:bg Tryz.prog 15 UL=true:=by kernel_rfl
theorem ahm:bg Tryz.prog 16 c16=true:=by kernel_rfl
theorem ahn:bg Tryz.prog 17 XY=true:=by kernel_rfl
theorem aho:bg Tryz.prog 18 XZ=true:=by kernel_rfl
theorem ahp:bg Tryz.prog 21 X0=true:=by kernel_rfl
theorem ahq:bg Tryz.prog 35 c35=true:=by kernel_rfl
theorem ahr:bg Tryz.prog 36 X1=true:=by kernel_rfl
theorem ahs:bg Tryz.prog 37 UX=true:=by kernel_rfl
theorem aht:bg Tryz.prog 38 X2=true:=by kernel_rfl
theorem ahu:bg Tryz.prog 39 X3=true:=by kernel_rfl
theorem ahv:bg Tryz.prog 40 X4=true:=by kernel_rfl
theorem ahw:bg Tryz.prog 41 X5=true:=by kernel_rfl
theorem ahx:bg Tryz.prog 42 GG=true:=by kernel_rfl
theorem ahy:bg Tryz.prog 43 X6=true:=by kernel_rfl
theorem ahz:bg Tryz.prog 44 X7=true:=by kernel_rfl
theorem ahA:bg Tryz.prog 45 X8=true:=by kernel_rfl
theorem ahB:bg Tryz.prog 46 U2=true:=by kernel_rfl
theorem ahC:bg Tryz.prog 47 X9=true:=by kernel_rfl
theorem ahD:bg Tryz.prog 48 Ya=true:=by kernel_rfl
theorem ahE:bg Tryz.prog 49 Yb=true:=by kernel_rfl
theorem ahF:bg Tryz.prog 50 Yc=true:=by kernel_rfl
theorem ahG:bg Tryz.prog 51 Ve=true:=by kernel_rfl
theorem ahH:bg Tryz.prog 52 Yd=true:=by kernel_rfl
theorem ahI:bg Tryz.prog 53 Ye=true:=by kernel_rfl
theorem ahJ:bg Tryz.prog 54 Yf=true:=by kernel_rfl
theorem ahK:bg Tryz.prog 55 Yg=true:=by kernel_rfl
theorem ahL:bg Tryz.prog 56 Vj=true:=by kernel_rfl
theorem ahM:bg Tryz.prog 57 Vn=true:=by kernel_rfl
theorem ahN:bg Tryz.prog 58 GI=true:=by kernel_rfl
theorem ahO:bg Tryz.prog 59 Qw=true:=by kernel_rfl
theorem ahP:bg Tryz.prog 60 Vt=true:=by kernel_rfl
theorem ahQ:bg Tryz.prog 61 Yh=true:=by kernel_rfl
theorem ahR:bg Tryz.prog 62 c62=true:=by kernel_rfl
theorem ahS:bg Tryz.prog 63 Yi=true:=by kernel_rfl
theorem ahT:bg Tryz.prog 77 Yj=true:=by kernel_rfl
theorem ahU:bg Tryz.prog 91 c91=true:=by kernel_rfl
theorem ahV:bg Tryz.prog 92 Yk=true:=by kernel_rfl
theorem ahW:bg Tryz.prog 93 Yl=true:=by kernel_rfl
theorem ahX:bg Tryz.prog 94 Ym=true:=by kernel_rfl
theorem ahY:bg Tryz.prog 95 Yn=true:=by kernel_rfl
theorem ahZ:bg Tryz.prog 96 Yo=true:=by kernel_rfl
theorem ah0:bg Tryz.prog 97 Yp=true:=by kernel_rfl
theorem ah1:bg Tryz.prog 98 Yq=true:=by kernel_rfl
theorem ah2:bg Tryz.prog 99 Yr=true:=by kernel_rfl
theorem acg:bg Tryz.prog 100 SB=true:=by kernel_rfl
theorem ach:bg Tryz.prog 101 SC=true:=by kernel_rfl
theorem aci:bg Tryz.prog 102 SD=true:=by kernel_rfl
theorem acj:bg Tryz.prog 103 SE=true:=by kernel_rfl
theorem ack:bg Tryz.prog 104 SF=true:=by kernel_rfl
theorem acm:bg Tryz.prog 105 SG=true:=by kernel_rfl
theorem acn:bg Tryz.prog 106 SH=true:=by kernel_rfl
theorem aco:bg Tryz.prog 107 SI=true:=by kernel_rfl
theorem acp:bg Tryz.prog 108 Pg=true:=by kernel_rfl
theorem acq:bg Tryz.prog 109 SJ=true:=by kernel_rfl
theorem acr:bg Tryz.prog 110 SK=true:=by kernel_rfl
theorem acs:bg Tryz.prog 111 SL=true:=by kernel_rfl
theorem acu:bg Tryz.prog 112 SM=true:=by kernel_rfl
theorem acv:bg Tryz.prog 113 YX=true:=by kernel_rfl
theorem acw:bg Tryz.prog 114 SN=true:=by kernel_rfl
theorem acx:bg Tryz.prog 115 SO=true:=by kernel_rfl
theorem acy:bg Tryz.prog 116 SP=true:=by kernel_rfl
theorem acz:bg Tryz.prog 117 Ph=true:=by kernel_rfl
theorem acA:bg Tryz.prog 118 Pj=true:=by kernel_rfl
theorem acB:bg Tryz.prog 119 SQ=true:=by kernel_rfl
theorem acC:bg Tryz.prog 125 SS=true:=by kernel_rfl
theorem acD:bg Tryz.prog 126 SU=true:=by kernel_rfl
theorem acE:bg Tryz.prog 127 SV=true:=by kernel_rfl
theorem acF:bg Tryz.prog 128 SW=true:=by kernel_rfl
theorem acG:bg Tryz.prog 129 SX=true:=by kernel_rfl
theorem acH:bg Tryz.prog 131 ZL=true:=by kernel_rfl
theorem acI:bg Tryz.prog 132 SY=true:=by kernel_rfl
theorem acJ:bg Tryz.prog 133 SZ=true:=by kernel_rfl
theorem acK:bg Tryz.prog 134 S0=true:=by kernel_rfl
theorem acM:bg Tryz.prog 135 S1=true:=by kernel_rfl
theorem acN:bg Tryz.prog 136 S2=true:=by kernel_rfl
theorem acO:bg Tryz.prog 137 S4=true:=by kernel_rfl
theorem acP:bg Tryz.prog 138 S5=true:=by kernel_rfl
theorem acQ:bg Tryz.prog 139 S6=true:=by kernel_rfl
theorem acS:bg Tryz.prog 140 Pk=true:=by kernel_rfl
theorem acT:bg Tryz.prog 142 S7=true:=by kernel_rfl
theorem acU:bg Tryz.prog 143 S8=true:=by kernel_rfl
theorem acV:bg Tryz.prog 144 S9=true:=by kernel_rfl
theorem acW:bg Tryz.prog 145 Ta=true:=by kernel_rfl
theorem acX:bg Tryz.prog 152 Tb=true:=by kernel_rfl
theorem acY:bg Tryz.prog 153 Tc=true:=by kernel_rfl
theorem acZ:bg Tryz.prog 154 Td=true:=by kernel_rfl
theorem ac0:bg Tryz.prog 156 Te=true:=by kernel_rfl
theorem ac1:bg Tryz.prog 157 Tf=true:=by kernel_rfl
theorem ac2:bg Tryz.prog 158 Tg=true:=by kernel_rfl
theorem ac3:bg Tryz.prog 159 Pm=true:=by kernel_rfl
theorem ac4:bg Tryz.prog 166 Th=true:=by kernel_rfl
theorem ac5:bg Tryz.prog 167 Ti=true:=by kernel_rfl
theorem tab:xz Tryz.prog G:=by
 intro f fn h
 unfold G at h
 split at h
 ·obtain rfl:=ad h;exact aju
 ·obtain rfl:=ad h;exact ajv
 ·obtain rfl:=ad h;exact ajw
 ·obtain rfl:=ad h;exact ajx
 ·obtain rfl:=ad h;exact ahg
 ·obtain rfl:=ad h;exact ahh
 ·obtain rfl:=ad h;exact ahi
 ·obtain rfl:=ad h;exact ahj
 ·obtain rfl:=ad h;exact ahk
 ·obtain rfl:=ad h;exact ahl
 ·obtain rfl:=ad h;exact ahm
 ·obtain rfl:=ad h;exact ahn
 ·obtain rfl:=ad h;exact aho
 ·obtain rfl:=ad h;exact ahp
 ·obtain rfl:=ad h;exact ahq
 ·obtain rfl:=ad h;exact ahr
 ·obtain rfl:=ad h;exact ahs
 ·obtain rfl:=ad h;exact aht
 ·obtain rfl:=ad h;exact ahu
 ·obtain rfl:=ad h;exact ahv
 ·obtain rfl:=ad h;exact ahw
 ·obtain rfl:=ad h;exact ahx
 ·obtain rfl:=ad h;exact ahy
 ·obtain rfl:=ad h;exact ahz
 ·obtain rfl:=ad h;exact ahA
 ·obtain rfl:=ad h;exact ahB
 ·obtain rfl:=ad h;exact ahC
 ·obtain rfl:=ad h;exact ahD
 ·obtain rfl:=ad h;exact ahE
 ·obtain rfl:=ad h;exact ahF
 ·obtain rfl:=ad h;exact ahG
 ·obtain rfl:=ad h;exact ahH
 ·obtain rfl:=ad h;exact ahI
 ·obtain rfl:=ad h;exact ahJ
 ·obtain rfl:=ad h;exact ahK
 ·obtain rfl:=ad h;exact ahL
 ·obtain rfl:=ad h;exact ahM
 ·obtain rfl:=ad h;exact ahN
 ·obtain rfl:=ad h;exact ahO
 ·obtain rfl:=ad h;exact ahP
 ·obtain rfl:=ad h;exact ahQ
 ·obtain rfl:=ad h;exact ahR
 ·obtain rfl:=ad h;exact ahS
 ·obtain rfl:=ad h;exact ahT
 ·obtain rfl:=ad h;exact ahU
 ·obtain rfl:=ad h;exact ahV
 ·obtain rfl:=ad h;exact ahW
 ·obtain rfl:=ad h;exact ahX
 ·obtain rfl:=ad h;exact ahY
 ·obtain rfl:=ad h;exact ahZ
 ·obtain rfl:=ad h;exact ah0
 ·obtain rfl:=ad h;exact ah1
 ·obtain rfl:=ad h;exact ah2
 ·obtain rfl:=ad h;exact acg
 ·obtain rfl:=ad h;exact ach
 ·obtain rfl:=ad h;exact aci
 ·obtain rfl:=ad h;exact acj
 ·obtain rfl:=ad h;exact ack
 ·obtain rfl:=ad h;exact acm
 ·obtain rfl:=ad h;exact acn
 ·obtain rfl:=ad h;exact aco
 ·obtain rfl:=ad h;exact acp
 ·obtain rfl:=ad h;exact acq
 ·obtain rfl:=ad h;exact acr
 ·obtain rfl:=ad h;exact acs
 ·obtain rfl:=ad h;exact acu
 ·obtain rfl:=ad h;exact acv
 ·obtain rfl:=ad h;exact acw
 ·obtain rfl:=ad h;exact acx
 ·obtain rfl:=ad h;exact acy
 ·obtain rfl:=ad h;exact acz
 ·obtain rfl:=ad h;exact acA
 ·obtain rfl:=ad h;exact acB
 ·obtain rfl:=ad h;exact acC
 ·obtain rfl:=ad h;exact acD
 ·obtain rfl:=ad h;exact acE
 ·obtain rfl:=ad h;exact acF
 ·obtain rfl:=ad h;exact acG
 ·obtain rfl:=ad h;exact acH
 ·obtain rfl:=ad h;exact acI
 ·obtain rfl:=ad h;exact acJ
 ·obtain rfl:=ad h;exact acK
 ·obtain rfl:=ad h;exact acM
 ·obtain rfl:=ad h;exact acN
 ·obtain rfl:=ad h;exact acO
 ·obtain rfl:=ad h;exact acP
 ·obtain rfl:=ad h;exact acQ
 ·obtain rfl:=ad h;exact acS
 ·obtain rfl:=ad h;exact acT
 ·obtain rfl:=ad h;exact acU
 ·obtain rfl:=ad h;exact acV
 ·obtain rfl:=ad h;exact acW
 ·obtain rfl:=ad h;exact acX
 ·obtain rfl:=ad h;exact acY
 ·obtain rfl:=ad h;exact acZ
 ·obtain rfl:=ad h;exact ac0
 ·obtain rfl:=ad h;exact ac1
 ·obtain rfl:=ad h;exact ac2
 ·obtain rfl:=ad h;exact ac3
 ·obtain rfl:=ad h;exact ac4
 ·obtain rfl:=ad h;exact ac5
 ·cases h
theorem orc:ix Tryz.prog Ω0:=by
 refine ⟨fun f g n h=>?_,fun f y h _=>?_,fun f ys x h hy hp=>?_,fun f ys t h hy=>?_,fun f t h=>?_,fun f c es ns h hn=>?_⟩
 ·simp only [Ω0] at h
  split at h
  ·exact (VZ h).elim
  ·exact (Sy h).elim
  ·exact (Qs h).elim
  ·cases h
 ·simp only [Ω0] at h
  split at h
  ·exact (adm h).elim
  ·exact (Xp h).elim
  ·exact (VY h).elim
  ·cases h
 ·simp only [Ω0] at h
  split at h
  ·exact (Xq h hy).elim
  ·exact ahe h
  ·exact (Uj h hp).elim
  ·cases h
 ·simp only [Ω0] at h
  split at h
  ·exact (V1 h).elim
  ·exact (V2 h).elim
  ·exact Xa h
  ·cases h
 ·simp only [Ω0] at h
  split at h
  ·exact (V0 h).elim
  ·exact (Sz h).elim
  ·exact (Qt h).elim
  ·cases h
 ·simp only [Ω0] at h
  split at h
  ·exact ajt h hn
  ·exact (SA h).elim
  ·exact (Qu h).elim
  ·cases h
theorem sound:mb Tryz.prog (call G Ω0):=W7 tab fun B=>@orc B
end Go.Proofs.YtkkkkondjclcnaaGreat.A
