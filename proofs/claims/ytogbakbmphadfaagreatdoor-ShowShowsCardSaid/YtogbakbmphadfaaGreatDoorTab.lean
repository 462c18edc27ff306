/- Each function and its abstract code, made by program. -/
import Derived.Test.YtogbakbmphadfaaGreatDoorAbsJ
import Derived.Test.YtogbakbmphadfaaGreatDoorCode
import Derived.Test.YtogbakbmphadfaaGreatDoorProg
import Derived.Test.YtogbakbmphadfaaGreatDoorOrcOK
import Derived.Test.YtogbakbmphadfaaGreatDoorShelf
import Derived.Test.YtogbakbmphadfaaGreatDoorBld
set_option maxRecDepth 100000
set_option linter.unusedSectionVars false
set_option linter.unusedVariables false
set_option linter.unusedSimpArgs false
namespace Go.Proofs.YtogbakbmphadfaaGreatDoor.A
open Go Go.Proofs
variable [bJ]
theorem ZJ:aS Tryz.prog 3 c3=true:=by kernel_rfl
theorem ZK:aS Tryz.prog 4 c4=true:=by kernel_rfl
theorem ZL:aS Tryz.prog 5 c5=true:=by kernel_rfl
theorem ZM:aS Tryz.prog 6 c6=true:=by kernel_rfl
theorem ZN:aS Tryz.prog 7 c7=true:=by kernel_rfl
theorem ZO:aS Tryz.prog 8 c8=true:=by kernel_rfl
theorem ZP:aS Tryz.prog 9 c9=true:=by kernel_rfl
theorem W9:aS Tryz.prog 10 NV=true:=by kernel_rfl
theorem Xa:aS Tryz.prog 11 NW=true:=by kernel_rfl
theorem Xb:aS Tryz.prog 13 ob=true:=by kernel_rfl
theorem Xc:aS Tryz.prog 14 NX=true:=by kernel_rfl
theorem Xd:aS Tryz.prog 15 Ai=true:=by kernel_rfl
theorem Xe:aS Tryz.prog 16 Dn=true:=by kernel_rfl
theorem Xf:aS Tryz.prog 17 NY=true:=by kernel_rfl
theorem Xg:aS Tryz.prog 18 NZ=true:=by kernel_rfl
theorem Xh:aS Tryz.prog 19 N0=true:=by kernel_rfl
theorem Xi:aS Tryz.prog 20 Aj=true:=by kernel_rfl
theorem Xj:aS Tryz.prog 21 Yu=true:=by kernel_rfl
theorem Xk:aS Tryz.prog 22 N1=true:=by kernel_rfl
theorem Xl:aS Tryz.prog 23 N2=true:=by kernel_rfl
theorem Xm:aS Tryz.prog 24 N3=true:=by kernel_rfl
theorem Xn:aS Tryz.prog 25 N4=true:=by kernel_rfl
theorem Xo:aS Tryz.prog 26 N5=true:=by kernel_rfl
theorem Xp:aS Tryz.prog 28 N6=true:=by kernel_rfl
theorem Xq:aS Tryz.prog 29 N7=true:=by kernel_rfl
theorem Xr:aS Tryz.prog 30 N8=true:=by kernel_rfl
theorem Xs:aS Tryz.prog 32 N9=true:=by kernel_rfl
theorem Xt:aS Tryz.prog 33 Oa=true:=by kernel_rfl
theorem Xu:aS Tryz.prog 34 Ob=true:=by kernel_rfl
theorem Xv:aS Tryz.prog 35 Oc=true:=by kernel_rfl
theorem Xw:aS Tryz.prog 36 Od=true:=by kernel_rfl
theorem Xx:aS Tryz.prog 37 Oe=true:=by kernel_rfl
theorem Xy:aS Tryz.prog 38 Of=true:=by kernel_rfl
theorem Xz:aS Tryz.prog 39 Og=true:=by kernel_rfl
theorem XA:aS Tryz.prog 40 Yv=true:=by kernel_rfl
theorem XB:aS Tryz.prog 41 Yw=true:=by kernel_rfl
theorem XC:aS Tryz.prog 42 Yx=true:=by kernel_rfl
theorem XD:aS Tryz.prog 43 Yy=true:=by kernel_rfl
theorem XE:aS Tryz.prog 44 Yz=true:=by kernel_rfl
theorem XF:aS Tryz.prog 45 YA=true:=by kernel_rfl
theorem XG:aS Tryz.prog 46 YB=true:=by kernel_rfl
theorem XH:aS Tryz.prog 47 YC=true:=by kernel_rfl
theorem XI:aS Tryz.prog 48 YD=true:=by kernel_rfl
theorem XJ:aS Tryz.prog 49 Oh=true:=by kernel_rfl
theorem XK:aS Tryz.prog 50 Oi=true:=by kernel_rfl
theorem XL:aS Tryz.prog 51 Oj=true:=by kernel_rfl
theorem XM:aS Tryz.prog 52 Ok=true:=by kernel_rfl
theorem XN:aS Tryz.prog 53 Ol=true:=by kernel_rfl
theorem XO:aS Tryz.prog 54 Om=true:=by kernel_rfl
theorem XP:aS Tryz.prog 55 On=true:=by kernel_rfl
theorem XQ:aS Tryz.prog 56 Oo=true:=by kernel_rfl
theorem XR:aS Tryz.prog 57 Oq=true:=by kernel_rfl
theorem XS:aS Tryz.prog 58 Ot=true:=by kernel_rfl
theorem XT:aS Tryz.prog 59 Ou=true:=by kernel_rfl
theorem XU:aS Tryz.prog 60 Ov=true:=by kernel_rfl
theorem XV:aS Tryz.prog 61 Ow=true:=by kernel_rfl
theorem XW:aS Tryz.prog 62 Ox=true:=by kernel_rfl
theorem XX:aS Tryz.prog 65 Oy=true:=by kernel_rfl
theorem XY:aS Tryz.prog 66 Oz=true:=by kernel_rfl
theorem XZ:aS Tryz.prog 67 OA=true:=by kernel_rfl
theorem X0:aS Tryz.prog 69 OB=true:=by kernel_rfl
theorem X1:aS Tryz.prog 71 OC=true:=by kernel_rfl
theorem X2:aS Tryz.prog 72 OD=true:=by kernel_rfl
theorem X3:aS Tryz.prog 73 OE=true:=by kernel_rfl
theorem X4:aS Tryz.prog 74 OF=true:=by kernel_rfl
theorem X5:aS Tryz.prog 75 OG=true:=by kernel_rfl
theorem X6:aS Tryz.prog 76 YE=true:=by kernel_rfl
theorem X7:aS Tryz.prog 77 YF=true:=by kernel_rfl
theorem X8:aS Tryz.prog 78 YG=true:=by kernel_rfl
theorem X9:aS Tryz.prog 79 YH=true:=by kernel_rfl
theorem Ya:aS Tryz.prog 80 YI=true:=by kernel_rfl
theorem Yb:aS Tryz.prog 81 YJ=true:=by kernel_rfl
theorem Yc:aS Tryz.prog 82 YK=true:=by kernel_rfl
theorem Yd:aS Tryz.prog 83 YL=true:=by kernel_rfl
theorem Ye:aS Tryz.prog 84 YM=true:=by kernel_rfl
theorem Yf:aS Tryz.prog 85 YN=true:=by kernel_rfl
theorem Yg:aS Tryz.prog 86 OH=true:=by kernel_rfl
theorem Yh:aS Tryz.prog 87 OI=true:=by kernel_rfl
theorem Yi:aS Tryz.prog 88 OJ=true:=by kernel_rfl
theorem Yj:aS Tryz.prog 89 OK=true:=by kernel_rfl
theorem Yk:aS Tryz.prog 90 OL=true:=by kernel_rfl
theorem Yl:aS Tryz.prog 91 OM=true:=by kernel_rfl
theorem Ym:aS Tryz.prog 92 ON=true:=by kernel_rfl
theorem Yn:aS Tryz.prog 93 OO=true:=by kernel_rfl
theorem Yo:aS Tryz.prog 94 OP=true:=by kernel_rfl
theorem Yp:aS Tryz.prog 95 OQ=true:=by kernel_rfl
theorem Yq:aS Tryz.prog 96 OR=true:=by kernel_rfl
theorem Yr:aS Tryz.prog 97 OS=true:=by kernel_rfl
theorem Ys:aS Tryz.prog 98 OT=true:=by kernel_rfl
theorem Ru:aS Tryz.prog 104 Kb=true:=by kernel_rfl
theorem Rv:aS Tryz.prog 105 Kc=true:=by kernel_rfl
theorem Rw:aS Tryz.prog 106 Kd=true:=by kernel_rfl
theorem Rx:aS Tryz.prog 107 O4=true:=by kernel_rfl
theorem Ry:aS Tryz.prog 108 Pd=true:=by kernel_rfl
theorem Rz:aS Tryz.prog 109 Ke=true:=by kernel_rfl
theorem RA:aS Tryz.prog 110 Kf=true:=by kernel_rfl
theorem RB:aS Tryz.prog 111 Kg=true:=by kernel_rfl
theorem RC:aS Tryz.prog 112 Kh=true:=by kernel_rfl
theorem RD:aS Tryz.prog 115 Pu=true:=by kernel_rfl
theorem RE:aS Tryz.prog 116 Ki=true:=by kernel_rfl
theorem RF:aS Tryz.prog 121 Kj=true:=by kernel_rfl
theorem RG:aS Tryz.prog 122 Kk=true:=by kernel_rfl
theorem RH:aS Tryz.prog 128 Kl=true:=by kernel_rfl
theorem RI:aS Tryz.prog 129 Km=true:=by kernel_rfl
theorem RJ:aS Tryz.prog 130 Kn=true:=by kernel_rfl
theorem RL:aS Tryz.prog 131 Ko=true:=by kernel_rfl
theorem RM:aS Tryz.prog 132 Kp=true:=by kernel_rfl
theorem tab:wA Tryz.prog G:=by
 intro f fn h
 unfold G at h
 split at h
 ·obtain rfl:=Option.some.inj h;exact ZJ
 ·obtain rfl:=Option.some.inj h;exact ZK
 ·obtain rfl:=Option.some.inj h;exact ZL
 ·obtain rfl:=Option.some.inj h;exact ZM
 ·obtain rfl:=Option.some.inj h;exact ZN
 ·obtain rfl:=Option.some.inj h;exact ZO
 ·obtain rfl:=Option.some.inj h;exact ZP
 ·obtain rfl:=Option.some.inj h;exact W9
 ·obtain rfl:=Option.some.inj h;exact Xa
 ·obtain rfl:=Option.some.inj h;exact Xb
 ·obtain rfl:=Option.some.inj h;exact Xc
 ·obtain rfl:=Option.some.inj h;exact Xd
 ·obtain rfl:=Option.some.inj h;exact Xe
 ·obtain rfl:=Option.some.inj h;exact Xf
 ·obtain rfl:=Option.some.inj h;exact Xg
 ·obtain rfl:=Option.some.inj h;exact Xh
 ·obtain rfl:=Option.some.inj h;exact Xi
 ·obtain rfl:=Option.some.inj h;exact Xj
 ·obtain rfl:=Option.some.inj h;exact Xk
 ·obtain rfl:=Option.some.inj h;exact Xl
 ·obtain rfl:=Option.some.inj h;exact Xm
 ·obtain rfl:=Option.some.inj h;exact Xn
 ·obtain rfl:=Option.some.inj h;exact Xo
 ·obtain rfl:=Option.some.inj h;exact Xp
 ·obtain rfl:=Option.some.inj h;exact Xq
 ·obtain rfl:=Option.some.inj h;exact Xr
 ·obtain rfl:=Option.some.inj h;exact Xs
 ·obtain rfl:=Option.some.inj h;exact Xt
 ·obtain rfl:=Option.some.inj h;exact Xu
 ·obtain rfl:=Option.some.inj h;exact Xv
 ·obtain rfl:=Option.some.inj h;exact Xw
 ·obtain rfl:=Option.some.inj h;exact Xx
 ·obtain rfl:=Option.some.inj h;exact Xy
 ·obtain rfl:=Option.some.inj h;exact Xz
 ·obtain rfl:=Option.some.inj h;exact XA
 ·obtain rfl:=Option.some.inj h;exact XB
 ·obtain rfl:=Option.some.inj h;exact XC
 ·obtain rfl:=Option.some.inj h;exact XD
 ·obtain rfl:=Option.some.inj h;exact XE
 ·obtain rfl:=Option.some.inj h;exact XF
 ·obtain rfl:=Option.some.inj h;exact XG
 ·obtain rfl:=Option.some.inj h;exact XH
 ·obtain rfl:=Option.some.inj h;exact XI
 ·obtain rfl:=Option.some.inj h;exact XJ
 ·obtain rfl:=Option.some.inj h;exact XK
 ·obtain rfl:=Option.some.inj h;exact XL
 ·obtain rfl:=Option.some.inj h;exact XM
 ·obtain rfl:=Option.some.inj h;exact XN
 ·obtain rfl:=Option.some.inj h;exact XO
 ·obtain rfl:=Option.some.inj h;exact XP
 ·obtain rfl:=Option.some.inj h;exact XQ
 ·obtain rfl:=Option.some.inj h;exact XR
 ·obtain rfl:=Option.some.inj h;exact XS
 ·obtain rfl:=Option.some.inj h;exact XT
 ·obtain rfl:=Option.some.inj h;exact XU
 ·obtain rfl:=Option.some.inj h;exact XV
 ·obtain rfl:=Option.some.inj h;exact XW
 ·obtain rfl:=Option.some.inj h;exact XX
 ·obtain rfl:=Option.some.inj h;exact XY
 ·obtain rfl:=Option.some.inj h;exact XZ
 ·obtain rfl:=Option.some.inj h;exact X0
 ·obtain rfl:=Option.some.inj h;exact X1
 ·obtain rfl:=Option.some.inj h;exact X2
 ·obtain rfl:=Option.some.inj h;exact X3
 ·obtain rfl:=Option.some.inj h;exact X4
 ·obtain rfl:=Option.some.inj h;exact X5
 ·obtain rfl:=Option.some.inj h;exact X6
 ·obtain rfl:=Option.some.inj h;exact X7
 ·obtain rfl:=Option.some.inj h;exact X8
 ·obtain rfl:=Option.some.inj h;exact X9
 ·obtain rfl:=Option.some.inj h;exact Ya
 ·obtain rfl:=Option.some.inj h;exact Yb
 ·obtain rfl:=Option.some.inj h;exact Yc
 ·obtain rfl:=Option.some.inj h;exact Yd
 ·obtain rfl:=Option.some.inj h;exact Ye
 ·obtain rfl:=Option.some.inj h;exact Yf
 ·obtain rfl:=Option.some.inj h;exact Yg
 ·obtain rfl:=Option.some.inj h;exact Yh
 ·obtain rfl:=Option.some.inj h;exact Yi
 ·obtain rfl:=Option.some.inj h;exact Yj
 ·obtain rfl:=Option.some.inj h;exact Yk
 ·obtain rfl:=Option.some.inj h;exact Yl
 ·obtain rfl:=Option.some.inj h;exact Ym
 ·obtain rfl:=Option.some.inj h;exact Yn
 ·obtain rfl:=Option.some.inj h;exact Yo
 ·obtain rfl:=Option.some.inj h;exact Yp
 ·obtain rfl:=Option.some.inj h;exact Yq
 ·obtain rfl:=Option.some.inj h;exact Yr
 ·obtain rfl:=Option.some.inj h;exact Ys
 ·obtain rfl:=Option.some.inj h;exact Ru
 ·obtain rfl:=Option.some.inj h;exact Rv
 ·obtain rfl:=Option.some.inj h;exact Rw
 ·obtain rfl:=Option.some.inj h;exact Rx
 ·obtain rfl:=Option.some.inj h;exact Ry
 ·obtain rfl:=Option.some.inj h;exact Rz
 ·obtain rfl:=Option.some.inj h;exact RA
 ·obtain rfl:=Option.some.inj h;exact RB
 ·obtain rfl:=Option.some.inj h;exact RC
 ·obtain rfl:=Option.some.inj h;exact RD
 ·obtain rfl:=Option.some.inj h;exact RE
 ·obtain rfl:=Option.some.inj h;exact RF
 ·obtain rfl:=Option.some.inj h;exact RG
 ·obtain rfl:=Option.some.inj h;exact RH
 ·obtain rfl:=Option.some.inj h;exact RI
 ·obtain rfl:=Option.some.inj h;exact RJ
 ·obtain rfl:=Option.some.inj h;exact RL
 ·obtain rfl:=Option.some.inj h;exact RM
 ·cases h
theorem Lu:dL Tryz.prog 27:=⟨Tryz.f27,Tryz.func27,by kernel_rfl,by kernel_rfl⟩
theorem Lv:dL Tryz.prog 31:=⟨Tryz.f31,Tryz.func31,by kernel_rfl,by kernel_rfl⟩
theorem Lw:dL Tryz.prog 64:=⟨Tryz.f64,Tryz.func64,by kernel_rfl,by kernel_rfl⟩
theorem J3:dL Tryz.prog 133:=⟨Tryz.f133,Tryz.func133,by kernel_rfl,by kernel_rfl⟩
theorem RN(w:World)(I:Nat→Prop)(h:xK w I):Lib.TabIs Tryz.prog w "internal/strconv.uint64pow10" .u64 Lib.pow10Tab:=by
 obtain ⟨_,T,fz,h2⟩:=h _ (List.mem_singleton.2 rfl)
 unfold Lib.TabIs World.var?
 rw [show Tryz.prog.globalNamed "internal/strconv.uint64pow10" =some 1 by kernel_rfl]
 simp only [Option.bind_some,h2]
theorem orc:fe Tryz.prog Ω0:=by
 refine ⟨fun f g n h=>?_,fun f y h _=>?_,fun f ys x h hy hp=>?_,fun f ys t h hy=>?_,fun f t h=>?_⟩
 ·simp only [Ω0] at h
  split at h
  ·exact (I4 h).elim
  ·exact (GJ h).elim
  ·exact (I3 h).elim
  ·exact (By h).elim
  ·exact (Lt h).elim
  ·cases h
 ·simp only [Ω0] at h
  split at h
  ·exact (MQ h).elim
  ·exact (I2 h).elim
  ·exact (MP h).elim
  ·exact (EN h).elim
  ·exact (Rt h).elim
  ·cases h
 ·simp only [Ω0] at h
  split at h
  ·exact Rr Lu Tryz.strings_Join_none Tryz.strings_Join h
  ·exact Lo Lv (fun s c w hc hl=>Tryz.strings_Repeat s c w hc hl) h
  ·exact Rs Lw (fun n w h0 h1 ht=>Tryz.strconv_Itoa n h0 h1 w ht) RN h
  ·exact Hj J3 Tryz.strings_IndexByte h
  ·exact (HS h hy).elim
  ·cases h
 ·simp only [Ω0] at h
  split at h
  ·exact (Lr h).elim
  ·exact (IT h).elim
  ·exact (Lq h).elim
  ·exact (Ex h).elim
  ·exact (HS h hy).elim
  ·cases h
 ·simp only [Ω0] at h
  split at h
  ·exact (I5 h).elim
  ·exact (GK h).elim
  ·exact (I6 h).elim
  ·exact (Bz h).elim
  ·exact W8 h
  ·cases h
theorem sound:fV Tryz.prog (call G Ω0):=Nz tab fun B=>@orc B
end Go.Proofs.YtogbakbmphadfaaGreatDoor.A
