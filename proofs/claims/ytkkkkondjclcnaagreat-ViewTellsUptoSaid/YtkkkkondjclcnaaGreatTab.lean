/- Each function and its abstract code, made by program. -/
import Derived.Test.YtkkkkondjclcnaaGreatAbsJ
import Derived.Test.YtkkkkondjclcnaaGreatCode
import Derived.Test.YtkkkkondjclcnaaGreatProg
import Derived.Test.YtkkkkondjclcnaaGreatOrcOK
import Derived.Test.YtkkkkondjclcnaaGreatShelf
import Derived.Test.YtkkkkondjclcnaaGreatClone
import Derived.Test.YtkkkkondjclcnaaGreatBad
set_option linter.all false
set_option maxRecDepth 100000
namespace Go.Proofs.YtkkkkondjclcnaaGreat.A
open Go Go.Proofs
variable [bJ]
theorem akg:bh Tryz.prog 4 c4=true:=by kernel_rfl
theorem ah3:bh Tryz.prog 10 X2=true:=by kernel_rfl
theorem ah4:bh Tryz.prog 12 X3=true:=by kernel_rfl
theorem ah5:bh Tryz.prog 13 UE=true:=by kernel_rfl
theorem ah6:bh Tryz.prog 15 UG=true:=by kernel_rfl
theorem ah7:bh Tryz.prog 19 X4=true:=by kernel_rfl
theorem ah8:bh Tryz.prog 20 X5=true:=by kernel_rfl
theorem ah9:bh Tryz.prog 21 X6=true:=by kernel_rfl
theorem aia:bh Tryz.prog 22 X7=true:=by kernel_rfl
theorem aib:bh Tryz.prog 23 X8=true:=by kernel_rfl
theorem aic:bh Tryz.prog 24 X9=true:=by kernel_rfl
theorem aid:bh Tryz.prog 25 c25=true:=by kernel_rfl
theorem aie:bh Tryz.prog 26 Ya=true:=by kernel_rfl
theorem aif:bh Tryz.prog 27 Yb=true:=by kernel_rfl
theorem aih:bh Tryz.prog 35 c35=true:=by kernel_rfl
theorem aii:bh Tryz.prog 36 Yc=true:=by kernel_rfl
theorem aij:bh Tryz.prog 37 UY=true:=by kernel_rfl
theorem aik:bh Tryz.prog 40 Yd=true:=by kernel_rfl
theorem ail:bh Tryz.prog 42 Gz=true:=by kernel_rfl
theorem aim:bh Tryz.prog 43 Ye=true:=by kernel_rfl
theorem ain:bh Tryz.prog 44 Yf=true:=by kernel_rfl
theorem aio:bh Tryz.prog 45 Yg=true:=by kernel_rfl
theorem aip:bh Tryz.prog 46 U2=true:=by kernel_rfl
theorem aiq:bh Tryz.prog 47 Yh=true:=by kernel_rfl
theorem air:bh Tryz.prog 48 Yi=true:=by kernel_rfl
theorem ais:bh Tryz.prog 49 Yj=true:=by kernel_rfl
theorem ait:bh Tryz.prog 50 Yk=true:=by kernel_rfl
theorem aiu:bh Tryz.prog 51 Ve=true:=by kernel_rfl
theorem aiv:bh Tryz.prog 53 Yl=true:=by kernel_rfl
theorem aiw:bh Tryz.prog 54 Ym=true:=by kernel_rfl
theorem aix:bh Tryz.prog 55 Yn=true:=by kernel_rfl
theorem aiy:bh Tryz.prog 56 Vj=true:=by kernel_rfl
theorem aiz:bh Tryz.prog 57 Vn=true:=by kernel_rfl
theorem aiA:bh Tryz.prog 58 GB=true:=by kernel_rfl
theorem aiB:bh Tryz.prog 59 Qn=true:=by kernel_rfl
theorem aiC:bh Tryz.prog 60 Vt=true:=by kernel_rfl
theorem aiD:bh Tryz.prog 64 Yo=true:=by kernel_rfl
theorem aiE:bh Tryz.prog 65 Yp=true:=by kernel_rfl
theorem aiF:bh Tryz.prog 66 Yq=true:=by kernel_rfl
theorem aiG:bh Tryz.prog 68 Yr=true:=by kernel_rfl
theorem aiH:bh Tryz.prog 69 Ys=true:=by kernel_rfl
theorem aiI:bh Tryz.prog 70 Yt=true:=by kernel_rfl
theorem aiJ:bh Tryz.prog 71 Yu=true:=by kernel_rfl
theorem aiK:bh Tryz.prog 73 c73=true:=by kernel_rfl
theorem aiL:bh Tryz.prog 74 Yv=true:=by kernel_rfl
theorem aiM:bh Tryz.prog 77 Yw=true:=by kernel_rfl
theorem aiN:bh Tryz.prog 91 c91=true:=by kernel_rfl
theorem aiO:bh Tryz.prog 92 Yx=true:=by kernel_rfl
theorem aiP:bh Tryz.prog 93 Yy=true:=by kernel_rfl
theorem aiQ:bh Tryz.prog 94 Yz=true:=by kernel_rfl
theorem aiR:bh Tryz.prog 95 YA=true:=by kernel_rfl
theorem aiS:bh Tryz.prog 96 YB=true:=by kernel_rfl
theorem aiT:bh Tryz.prog 97 YC=true:=by kernel_rfl
theorem aiU:bh Tryz.prog 98 YD=true:=by kernel_rfl
theorem acG:bh Tryz.prog 100 YE=true:=by kernel_rfl
theorem acH:bh Tryz.prog 101 YF=true:=by kernel_rfl
theorem acI:bh Tryz.prog 102 Sx=true:=by kernel_rfl
theorem acJ:bh Tryz.prog 103 Sy=true:=by kernel_rfl
theorem acK:bh Tryz.prog 104 Sz=true:=by kernel_rfl
theorem acM:bh Tryz.prog 105 SA=true:=by kernel_rfl
theorem acN:bh Tryz.prog 106 SB=true:=by kernel_rfl
theorem acO:bh Tryz.prog 107 SC=true:=by kernel_rfl
theorem acP:bh Tryz.prog 108 Pa=true:=by kernel_rfl
theorem acQ:bh Tryz.prog 109 SD=true:=by kernel_rfl
theorem acS:bh Tryz.prog 110 SE=true:=by kernel_rfl
theorem acT:bh Tryz.prog 111 SF=true:=by kernel_rfl
theorem acU:bh Tryz.prog 112 SG=true:=by kernel_rfl
theorem acV:bh Tryz.prog 113 Zb=true:=by kernel_rfl
theorem acW:bh Tryz.prog 114 SH=true:=by kernel_rfl
theorem acX:bh Tryz.prog 115 SI=true:=by kernel_rfl
theorem acY:bh Tryz.prog 116 SJ=true:=by kernel_rfl
theorem acZ:bh Tryz.prog 117 Pb=true:=by kernel_rfl
theorem ac0:bh Tryz.prog 118 Pc=true:=by kernel_rfl
theorem ac1:bh Tryz.prog 119 SK=true:=by kernel_rfl
theorem ac2:bh Tryz.prog 120 SL=true:=by kernel_rfl
theorem ac3:bh Tryz.prog 121 SM=true:=by kernel_rfl
theorem ac4:bh Tryz.prog 125 SN=true:=by kernel_rfl
theorem ac5:bh Tryz.prog 126 SO=true:=by kernel_rfl
theorem ac6:bh Tryz.prog 127 SP=true:=by kernel_rfl
theorem ac7:bh Tryz.prog 128 SQ=true:=by kernel_rfl
theorem ac8:bh Tryz.prog 129 SS=true:=by kernel_rfl
theorem ac9:bh Tryz.prog 131 Z4=true:=by kernel_rfl
theorem ada:bh Tryz.prog 132 SU=true:=by kernel_rfl
theorem adb:bh Tryz.prog 133 SV=true:=by kernel_rfl
theorem ade:bh Tryz.prog 134 SW=true:=by kernel_rfl
theorem adf:bh Tryz.prog 135 SX=true:=by kernel_rfl
theorem adg:bh Tryz.prog 136 SY=true:=by kernel_rfl
theorem adh:bh Tryz.prog 137 SZ=true:=by kernel_rfl
theorem adi:bh Tryz.prog 138 S0=true:=by kernel_rfl
theorem adj:bh Tryz.prog 139 S1=true:=by kernel_rfl
theorem adk:bh Tryz.prog 140 Pd=true:=by kernel_rfl
theorem adl:bh Tryz.prog 142 aar=true:=by kernel_rfl
theorem adm:bh Tryz.prog 143 S2=true:=by kernel_rfl
theorem adn:bh Tryz.prog 144 S3=true:=by kernel_rfl
theorem ado:bh Tryz.prog 145 S5=true:=by kernel_rfl
theorem adp:bh Tryz.prog 152 S6=true:=by kernel_rfl
theorem adq:bh Tryz.prog 153 S7=true:=by kernel_rfl
theorem adr:bh Tryz.prog 154 S8=true:=by kernel_rfl
theorem ads:bh Tryz.prog 156 S9=true:=by kernel_rfl
theorem adt:bh Tryz.prog 157 Ta=true:=by kernel_rfl
theorem adu:bh Tryz.prog 158 Tb=true:=by kernel_rfl
theorem adv:bh Tryz.prog 159 Pe=true:=by kernel_rfl
theorem adw:bh Tryz.prog 166 Tc=true:=by kernel_rfl
theorem adx:bh Tryz.prog 167 Td=true:=by kernel_rfl
theorem tab:xx Tryz.prog G:=by
 intro f fn h
 unfold G at h
 split at h
 ·obtain rfl:=aa h;exact akg
 ·obtain rfl:=aa h;exact ah3
 ·obtain rfl:=aa h;exact ah4
 ·obtain rfl:=aa h;exact ah5
 ·obtain rfl:=aa h;exact ah6
 ·obtain rfl:=aa h;exact ah7
 ·obtain rfl:=aa h;exact ah8
 ·obtain rfl:=aa h;exact ah9
 ·obtain rfl:=aa h;exact aia
 ·obtain rfl:=aa h;exact aib
 ·obtain rfl:=aa h;exact aic
 ·obtain rfl:=aa h;exact aid
 ·obtain rfl:=aa h;exact aie
 ·obtain rfl:=aa h;exact aif
 ·obtain rfl:=aa h;exact aih
 ·obtain rfl:=aa h;exact aii
 ·obtain rfl:=aa h;exact aij
 ·obtain rfl:=aa h;exact aik
 ·obtain rfl:=aa h;exact ail
 ·obtain rfl:=aa h;exact aim
 ·obtain rfl:=aa h;exact ain
 ·obtain rfl:=aa h;exact aio
 ·obtain rfl:=aa h;exact aip
 ·obtain rfl:=aa h;exact aiq
 ·obtain rfl:=aa h;exact air
 ·obtain rfl:=aa h;exact ais
 ·obtain rfl:=aa h;exact ait
 ·obtain rfl:=aa h;exact aiu
 ·obtain rfl:=aa h;exact aiv
 ·obtain rfl:=aa h;exact aiw
 ·obtain rfl:=aa h;exact aix
 ·obtain rfl:=aa h;exact aiy
 ·obtain rfl:=aa h;exact aiz
 ·obtain rfl:=aa h;exact aiA
 ·obtain rfl:=aa h;exact aiB
 ·obtain rfl:=aa h;exact aiC
 ·obtain rfl:=aa h;exact aiD
 ·obtain rfl:=aa h;exact aiE
 ·obtain rfl:=aa h;exact aiF
 ·obtain rfl:=aa h;exact aiG
 ·obtain rfl:=aa h;exact aiH
 ·obtain rfl:=aa h;exact aiI
 ·obtain rfl:=aa h;exact aiJ
 ·obtain rfl:=aa h;exact aiK
 ·obtain rfl:=aa h;exact aiL
 ·obtain rfl:=aa h;exact aiM
 ·obtain rfl:=aa h;exact aiN
 ·obtain rfl:=aa h;exact aiO
 ·obtain rfl:=aa h;exact aiP
 ·obtain rfl:=aa h;exact aiQ
 ·obtain rfl:=aa h;exact aiR
 ·obtain rfl:=aa h;exact aiS
 ·obtain rfl:=aa h;exact aiT
 ·obtain rfl:=aa h;exact aiU
 ·obtain rfl:=aa h;exact acG
 ·obtain rfl:=aa h;exact acH
 ·obtain rfl:=aa h;exact acI
 ·obtain rfl:=aa h;exact acJ
 ·obtain rfl:=aa h;exact acK
 ·obtain rfl:=aa h;exact acM
 ·obtain rfl:=aa h;exact acN
 ·obtain rfl:=aa h;exact acO
 ·obtain rfl:=aa h;exact acP
 ·obtain rfl:=aa h;exact acQ
 ·obtain rfl:=aa h;exact acS
 ·obtain rfl:=aa h;exact acT
 ·obtain rfl:=aa h;exact acU
 ·obtain rfl:=aa h;exact acV
 ·obtain rfl:=aa h;exact acW
 ·obtain rfl:=aa h;exact acX
 ·obtain rfl:=aa h;exact acY
 ·obtain rfl:=aa h;exact acZ
 ·obtain rfl:=aa h;exact ac0
 ·obtain rfl:=aa h;exact ac1
 ·obtain rfl:=aa h;exact ac2
 ·obtain rfl:=aa h;exact ac3
 ·obtain rfl:=aa h;exact ac4
 ·obtain rfl:=aa h;exact ac5
 ·obtain rfl:=aa h;exact ac6
 ·obtain rfl:=aa h;exact ac7
 ·obtain rfl:=aa h;exact ac8
 ·obtain rfl:=aa h;exact ac9
 ·obtain rfl:=aa h;exact ada
 ·obtain rfl:=aa h;exact adb
 ·obtain rfl:=aa h;exact ade
 ·obtain rfl:=aa h;exact adf
 ·obtain rfl:=aa h;exact adg
 ·obtain rfl:=aa h;exact adh
 ·obtain rfl:=aa h;exact adi
 ·obtain rfl:=aa h;exact adj
 ·obtain rfl:=aa h;exact adk
 ·obtain rfl:=aa h;exact adl
 ·obtain rfl:=aa h;exact adm
 ·obtain rfl:=aa h;exact adn
 ·obtain rfl:=aa h;exact ado
 ·obtain rfl:=aa h;exact adp
 ·obtain rfl:=aa h;exact adq
 ·obtain rfl:=aa h;exact adr
 ·obtain rfl:=aa h;exact ads
 ·obtain rfl:=aa h;exact adt
 ·obtain rfl:=aa h;exact adu
 ·obtain rfl:=aa h;exact adv
 ·obtain rfl:=aa h;exact adw
 ·obtain rfl:=aa h;exact adx
 ·cases h
theorem orc:iA Tryz.prog Ω0:=by
 refine ⟨fun f g n h=>?_,fun f y h _=>?_,fun f ys x h hy hp=>?_,fun f ys t h hy=>?_,fun f t h=>?_,fun f c es ns h hn=>?_⟩
 ·simp only [Ω0] at h
  split at h
  ·exact (V5 h).elim
  ·exact (O3 h).elim
  ·exact (So h).elim
  ·exact (Ss h).elim
  ·exact (Qi h).elim
  ·cases h
 ·simp only [Ω0] at h
  split at h
  ·exact (adL h).elim
  ·exact (Sw h).elim
  ·exact (Xx h).elim
  ·exact (Xz h).elim
  ·exact (V4 h).elim
  ·cases h
 ·simp only [Ω0] at h
  split at h
  ·exact (Xy h hy).elim
  ·exact Xg h
  ·exact ah0 h
  ·exact ah1 h
  ·exact (Uf h hp).elim
  ·cases h
 ·simp only [Ω0] at h
  split at h
  ·exact (V7 h).elim
  ·exact (Ql h).elim
  ·exact (V8 h).elim
  ·exact (V9 h).elim
  ·exact Xh h
  ·cases h
 ·simp only [Ω0] at h
  split at h
  ·exact (V6 h).elim
  ·exact (O4 h).elim
  ·exact (Sq h).elim
  ·exact (Su h).elim
  ·exact (Qj h).elim
  ·cases h
 ·simp only [Ω0] at h
  split at h
  ·exact akf h hn
  ·exact (O5 h).elim
  ·exact (Sr h).elim
  ·exact (Sv h).elim
  ·exact (Qk h).elim
  ·cases h
theorem sound:lj Tryz.prog (call G Ω0):=Xd tab fun B=>@orc B
end Go.Proofs.YtkkkkondjclcnaaGreat.A
