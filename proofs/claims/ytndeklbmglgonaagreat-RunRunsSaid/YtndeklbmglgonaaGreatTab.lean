/- Each function and its abstract code, made by program. -/
import Derived.Test.YtndeklbmglgonaaGreatAbsJ
import Derived.Test.YtndeklbmglgonaaGreatCode
import Derived.Test.YtndeklbmglgonaaGreatProg
import Derived.Test.YtndeklbmglgonaaGreatOrcOK
import Derived.Test.YtndeklbmglgonaaGreatGrow
set_option maxRecDepth 100000
set_option linter.unusedSectionVars false
set_option linter.unusedVariables false
set_option linter.unusedSimpArgs false
namespace Go.Proofs.YtndeklbmglgonaaGreat.A
open Go Go.Proofs
variable [bR]
theorem aaO:bj Tryz.prog 3 c3=true:=by kernel_rfl
theorem aaP:bj Tryz.prog 4 c4=true:=by kernel_rfl
theorem aaQ:bj Tryz.prog 5 c5=true:=by kernel_rfl
theorem aaR:bj Tryz.prog 6 c6=true:=by kernel_rfl
theorem aaS:bj Tryz.prog 7 c7=true:=by kernel_rfl
theorem aaT:bj Tryz.prog 8 c8=true:=by kernel_rfl
theorem aaU:bj Tryz.prog 9 c9=true:=by kernel_rfl
theorem Yb:bj Tryz.prog 10 NO=true:=by kernel_rfl
theorem Yc:bj Tryz.prog 11 NP=true:=by kernel_rfl
theorem Yd:bj Tryz.prog 12 Oc=true:=by kernel_rfl
theorem Ye:bj Tryz.prog 13 Od=true:=by kernel_rfl
theorem Yf:bj Tryz.prog 14 Oe=true:=by kernel_rfl
theorem Yg:bj Tryz.prog 15 Of=true:=by kernel_rfl
theorem Yh:bj Tryz.prog 16 Og=true:=by kernel_rfl
theorem Yi:bj Tryz.prog 17 Oh=true:=by kernel_rfl
theorem Yj:bj Tryz.prog 18 Oi=true:=by kernel_rfl
theorem Yk:bj Tryz.prog 19 Oj=true:=by kernel_rfl
theorem Yl:bj Tryz.prog 20 ZC=true:=by kernel_rfl
theorem Ym:bj Tryz.prog 21 ZD=true:=by kernel_rfl
theorem Yn:bj Tryz.prog 22 Ok=true:=by kernel_rfl
theorem Yo:bj Tryz.prog 23 Ol=true:=by kernel_rfl
theorem Yp:bj Tryz.prog 24 Om=true:=by kernel_rfl
theorem Yq:bj Tryz.prog 25 On=true:=by kernel_rfl
theorem Yr:bj Tryz.prog 26 Oo=true:=by kernel_rfl
theorem Ys:bj Tryz.prog 27 Oq=true:=by kernel_rfl
theorem Yt:bj Tryz.prog 28 Ot=true:=by kernel_rfl
theorem Yu:bj Tryz.prog 29 Ou=true:=by kernel_rfl
theorem Yv:bj Tryz.prog 30 Ov=true:=by kernel_rfl
theorem Yw:bj Tryz.prog 31 Ow=true:=by kernel_rfl
theorem Yx:bj Tryz.prog 32 Ox=true:=by kernel_rfl
theorem Yy:bj Tryz.prog 33 Oy=true:=by kernel_rfl
theorem Yz:bj Tryz.prog 34 Oz=true:=by kernel_rfl
theorem YA:bj Tryz.prog 35 OA=true:=by kernel_rfl
theorem YB:bj Tryz.prog 36 OB=true:=by kernel_rfl
theorem YC:bj Tryz.prog 37 OC=true:=by kernel_rfl
theorem YD:bj Tryz.prog 38 OD=true:=by kernel_rfl
theorem YE:bj Tryz.prog 39 OE=true:=by kernel_rfl
theorem YF:bj Tryz.prog 40 ZE=true:=by kernel_rfl
theorem YG:bj Tryz.prog 41 ZF=true:=by kernel_rfl
theorem YH:bj Tryz.prog 42 OF=true:=by kernel_rfl
theorem YI:bj Tryz.prog 43 OG=true:=by kernel_rfl
theorem YJ:bj Tryz.prog 44 OH=true:=by kernel_rfl
theorem YK:bj Tryz.prog 45 OI=true:=by kernel_rfl
theorem YL:bj Tryz.prog 46 OJ=true:=by kernel_rfl
theorem YM:bj Tryz.prog 47 OK=true:=by kernel_rfl
theorem YN:bj Tryz.prog 48 ZG=true:=by kernel_rfl
theorem YO:bj Tryz.prog 49 OL=true:=by kernel_rfl
theorem YP:bj Tryz.prog 50 OM=true:=by kernel_rfl
theorem YQ:bj Tryz.prog 51 ON=true:=by kernel_rfl
theorem YR:bj Tryz.prog 52 OO=true:=by kernel_rfl
theorem YS:bj Tryz.prog 53 OP=true:=by kernel_rfl
theorem YT:bj Tryz.prog 54 OQ=true:=by kernel_rfl
theorem YU:bj Tryz.prog 55 OR=true:=by kernel_rfl
theorem YV:bj Tryz.prog 56 OS=true:=by kernel_rfl
theorem YW:bj Tryz.prog 57 OT=true:=by kernel_rfl
theorem YX:bj Tryz.prog 58 OU=true:=by kernel_rfl
theorem YY:bj Tryz.prog 59 OV=true:=by kernel_rfl
theorem YZ:bj Tryz.prog 60 OW=true:=by kernel_rfl
theorem Y0:bj Tryz.prog 61 OX=true:=by kernel_rfl
theorem Y1:bj Tryz.prog 62 OY=true:=by kernel_rfl
theorem Y2:bj Tryz.prog 63 OZ=true:=by kernel_rfl
theorem Y3:bj Tryz.prog 64 O0=true:=by kernel_rfl
theorem Y4:bj Tryz.prog 65 ZH=true:=by kernel_rfl
theorem Y5:bj Tryz.prog 66 ZI=true:=by kernel_rfl
theorem Y6:bj Tryz.prog 67 ZJ=true:=by kernel_rfl
theorem Y7:bj Tryz.prog 68 ZK=true:=by kernel_rfl
theorem Y8:bj Tryz.prog 69 ZL=true:=by kernel_rfl
theorem Y9:bj Tryz.prog 70 O1=true:=by kernel_rfl
theorem Za:bj Tryz.prog 71 ZM=true:=by kernel_rfl
theorem Zb:bj Tryz.prog 72 ZN=true:=by kernel_rfl
theorem Zc:bj Tryz.prog 73 O2=true:=by kernel_rfl
theorem Zd:bj Tryz.prog 74 O3=true:=by kernel_rfl
theorem Ze:bj Tryz.prog 75 O4=true:=by kernel_rfl
theorem Zf:bj Tryz.prog 76 O5=true:=by kernel_rfl
theorem Zg:bj Tryz.prog 77 O6=true:=by kernel_rfl
theorem Zh:bj Tryz.prog 78 O7=true:=by kernel_rfl
theorem Zi:bj Tryz.prog 79 O8=true:=by kernel_rfl
theorem Zj:bj Tryz.prog 80 O9=true:=by kernel_rfl
theorem Zk:bj Tryz.prog 81 Pa=true:=by kernel_rfl
theorem Zl:bj Tryz.prog 82 Pb=true:=by kernel_rfl
theorem Zm:bj Tryz.prog 83 Pc=true:=by kernel_rfl
theorem Zn:bj Tryz.prog 84 Pd=true:=by kernel_rfl
theorem Zo:bj Tryz.prog 85 Pe=true:=by kernel_rfl
theorem Zp:bj Tryz.prog 86 Pf=true:=by kernel_rfl
theorem Zq:bj Tryz.prog 87 Pg=true:=by kernel_rfl
theorem Zr:bj Tryz.prog 88 Ph=true:=by kernel_rfl
theorem Zs:bj Tryz.prog 89 Pj=true:=by kernel_rfl
theorem Zt:bj Tryz.prog 90 Pk=true:=by kernel_rfl
theorem Zu:bj Tryz.prog 91 ZO=true:=by kernel_rfl
theorem Zv:bj Tryz.prog 92 ZP=true:=by kernel_rfl
theorem Zw:bj Tryz.prog 93 Pm=true:=by kernel_rfl
theorem Zx:bj Tryz.prog 94 Pn=true:=by kernel_rfl
theorem Zy:bj Tryz.prog 95 Po=true:=by kernel_rfl
theorem Zz:bj Tryz.prog 97 Pp=true:=by kernel_rfl
theorem ZA:bj Tryz.prog 98 Pq=true:=by kernel_rfl
theorem ZB:bj Tryz.prog 99 Pr=true:=by kernel_rfl
theorem Rz:bj Tryz.prog 100 Kb=true:=by kernel_rfl
theorem RA:bj Tryz.prog 101 Kc=true:=by kernel_rfl
theorem RB:bj Tryz.prog 102 Kd=true:=by kernel_rfl
theorem RC:bj Tryz.prog 103 Ke=true:=by kernel_rfl
theorem RD:bj Tryz.prog 104 Kf=true:=by kernel_rfl
theorem RE:bj Tryz.prog 105 Kg=true:=by kernel_rfl
theorem RF:bj Tryz.prog 106 Kh=true:=by kernel_rfl
theorem RG:bj Tryz.prog 107 PO=true:=by kernel_rfl
theorem RH:bj Tryz.prog 108 PU=true:=by kernel_rfl
theorem RI:bj Tryz.prog 109 Ki=true:=by kernel_rfl
theorem RJ:bj Tryz.prog 110 Kj=true:=by kernel_rfl
theorem tab:wx Tryz.prog G:=by
 intro f fn h
 unfold G at h
 split at h
 ·obtain rfl:=Option.some.inj h;exact aaO
 ·obtain rfl:=Option.some.inj h;exact aaP
 ·obtain rfl:=Option.some.inj h;exact aaQ
 ·obtain rfl:=Option.some.inj h;exact aaR
 ·obtain rfl:=Option.some.inj h;exact aaS
 ·obtain rfl:=Option.some.inj h;exact aaT
 ·obtain rfl:=Option.some.inj h;exact aaU
 ·obtain rfl:=Option.some.inj h;exact Yb
 ·obtain rfl:=Option.some.inj h;exact Yc
 ·obtain rfl:=Option.some.inj h;exact Yd
 ·obtain rfl:=Option.some.inj h;exact Ye
 ·obtain rfl:=Option.some.inj h;exact Yf
 ·obtain rfl:=Option.some.inj h;exact Yg
 ·obtain rfl:=Option.some.inj h;exact Yh
 ·obtain rfl:=Option.some.inj h;exact Yi
 ·obtain rfl:=Option.some.inj h;exact Yj
 ·obtain rfl:=Option.some.inj h;exact Yk
 ·obtain rfl:=Option.some.inj h;exact Yl
 ·obtain rfl:=Option.some.inj h;exact Ym
 ·obtain rfl:=Option.some.inj h;exact Yn
 ·obtain rfl:=Option.some.inj h;exact Yo
 ·obtain rfl:=Option.some.inj h;exact Yp
 ·obtain rfl:=Option.some.inj h;exact Yq
 ·obtain rfl:=Option.some.inj h;exact Yr
 ·obtain rfl:=Option.some.inj h;exact Ys
 ·obtain rfl:=Option.some.inj h;exact Yt
 ·obtain rfl:=Option.some.inj h;exact Yu
 ·obtain rfl:=Option.some.inj h;exact Yv
 ·obtain rfl:=Option.some.inj h;exact Yw
 ·obtain rfl:=Option.some.inj h;exact Yx
 ·obtain rfl:=Option.some.inj h;exact Yy
 ·obtain rfl:=Option.some.inj h;exact Yz
 ·obtain rfl:=Option.some.inj h;exact YA
 ·obtain rfl:=Option.some.inj h;exact YB
 ·obtain rfl:=Option.some.inj h;exact YC
 ·obtain rfl:=Option.some.inj h;exact YD
 ·obtain rfl:=Option.some.inj h;exact YE
 ·obtain rfl:=Option.some.inj h;exact YF
 ·obtain rfl:=Option.some.inj h;exact YG
 ·obtain rfl:=Option.some.inj h;exact YH
 ·obtain rfl:=Option.some.inj h;exact YI
 ·obtain rfl:=Option.some.inj h;exact YJ
 ·obtain rfl:=Option.some.inj h;exact YK
 ·obtain rfl:=Option.some.inj h;exact YL
 ·obtain rfl:=Option.some.inj h;exact YM
 ·obtain rfl:=Option.some.inj h;exact YN
 ·obtain rfl:=Option.some.inj h;exact YO
 ·obtain rfl:=Option.some.inj h;exact YP
 ·obtain rfl:=Option.some.inj h;exact YQ
 ·obtain rfl:=Option.some.inj h;exact YR
 ·obtain rfl:=Option.some.inj h;exact YS
 ·obtain rfl:=Option.some.inj h;exact YT
 ·obtain rfl:=Option.some.inj h;exact YU
 ·obtain rfl:=Option.some.inj h;exact YV
 ·obtain rfl:=Option.some.inj h;exact YW
 ·obtain rfl:=Option.some.inj h;exact YX
 ·obtain rfl:=Option.some.inj h;exact YY
 ·obtain rfl:=Option.some.inj h;exact YZ
 ·obtain rfl:=Option.some.inj h;exact Y0
 ·obtain rfl:=Option.some.inj h;exact Y1
 ·obtain rfl:=Option.some.inj h;exact Y2
 ·obtain rfl:=Option.some.inj h;exact Y3
 ·obtain rfl:=Option.some.inj h;exact Y4
 ·obtain rfl:=Option.some.inj h;exact Y5
 ·obtain rfl:=Option.some.inj h;exact Y6
 ·obtain rfl:=Option.some.inj h;exact Y7
 ·obtain rfl:=Option.some.inj h;exact Y8
 ·obtain rfl:=Option.some.inj h;exact Y9
 ·obtain rfl:=Option.some.inj h;exact Za
 ·obtain rfl:=Option.some.inj h;exact Zb
 ·obtain rfl:=Option.some.inj h;exact Zc
 ·obtain rfl:=Option.some.inj h;exact Zd
 ·obtain rfl:=Option.some.inj h;exact Ze
 ·obtain rfl:=Option.some.inj h;exact Zf
 ·obtain rfl:=Option.some.inj h;exact Zg
 ·obtain rfl:=Option.some.inj h;exact Zh
 ·obtain rfl:=Option.some.inj h;exact Zi
 ·obtain rfl:=Option.some.inj h;exact Zj
 ·obtain rfl:=Option.some.inj h;exact Zk
 ·obtain rfl:=Option.some.inj h;exact Zl
 ·obtain rfl:=Option.some.inj h;exact Zm
 ·obtain rfl:=Option.some.inj h;exact Zn
 ·obtain rfl:=Option.some.inj h;exact Zo
 ·obtain rfl:=Option.some.inj h;exact Zp
 ·obtain rfl:=Option.some.inj h;exact Zq
 ·obtain rfl:=Option.some.inj h;exact Zr
 ·obtain rfl:=Option.some.inj h;exact Zs
 ·obtain rfl:=Option.some.inj h;exact Zt
 ·obtain rfl:=Option.some.inj h;exact Zu
 ·obtain rfl:=Option.some.inj h;exact Zv
 ·obtain rfl:=Option.some.inj h;exact Zw
 ·obtain rfl:=Option.some.inj h;exact Zx
 ·obtain rfl:=Option.some.inj h;exact Zy
 ·obtain rfl:=Option.some.inj h;exact Zz
 ·obtain rfl:=Option.some.inj h;exact ZA
 ·obtain rfl:=Option.some.inj h;exact ZB
 ·obtain rfl:=Option.some.inj h;exact Rz
 ·obtain rfl:=Option.some.inj h;exact RA
 ·obtain rfl:=Option.some.inj h;exact RB
 ·obtain rfl:=Option.some.inj h;exact RC
 ·obtain rfl:=Option.some.inj h;exact RD
 ·obtain rfl:=Option.some.inj h;exact RE
 ·obtain rfl:=Option.some.inj h;exact RF
 ·obtain rfl:=Option.some.inj h;exact RG
 ·obtain rfl:=Option.some.inj h;exact RH
 ·obtain rfl:=Option.some.inj h;exact RI
 ·obtain rfl:=Option.some.inj h;exact RJ
 ·cases h
theorem orc:fL Tryz.prog Ω0:=by
 refine ⟨fun f g h=>?_,fun f y h _=>?_,fun f ys x h _ hp=>?_,fun f ys t h _=>?_⟩
 ·simp only [Ω0] at h
  split at h
  ·exact (Ji h).elim
  ·cases h
 ·simp only [Ω0] at h
  split at h
  ·exact (MJ h).elim
  ·cases h
 ·simp only [Ω0] at h
  split at h
  ·exact (Lb h hp).elim
  ·cases h
 ·simp only [Ω0] at h
  split at h
  ·exact Ry h
  ·cases h
theorem sound:gD Tryz.prog (call G Ω0):=Nr tab fun B=>@orc B
end Go.Proofs.YtndeklbmglgonaaGreat.A
