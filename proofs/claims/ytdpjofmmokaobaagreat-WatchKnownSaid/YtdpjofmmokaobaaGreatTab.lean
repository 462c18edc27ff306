/- Each function and its abstract code, made by program. -/
import Derived.Test.YtdpjofmmokaobaaGreatAbsJ
import Derived.Test.YtdpjofmmokaobaaGreatCode
import Derived.Test.YtdpjofmmokaobaaGreatProg
import Derived.Test.YtdpjofmmokaobaaGreatOrcOK
import Derived.Test.YtdpjofmmokaobaaGreatUses
import Derived.Test.YtdpjofmmokaobaaGreatRep
import Derived.Test.YtdpjofmmokaobaaGreatBad
import Derived.Test.YtdpjofmmokaobaaGreatGrow
set_option maxRecDepth 100000
set_option linter.unusedSectionVars false
set_option linter.unusedVariables false
set_option linter.unusedSimpArgs false
namespace Go.Proofs.YtdpjofmmokaobaaGreat.A
open Go Go.Proofs
variable [bE]
theorem aak:aS Tryz.prog 4 c4=true:=by kernel_rfl
theorem aal:aS Tryz.prog 5 c5=true:=by kernel_rfl
theorem aam:aS Tryz.prog 6 c6=true:=by kernel_rfl
theorem aan:aS Tryz.prog 9 c9=true:=by kernel_rfl
theorem Xm:aS Tryz.prog 12 Yo=true:=by kernel_rfl
theorem Xn:aS Tryz.prog 13 OX=true:=by kernel_rfl
theorem Xo:aS Tryz.prog 14 OY=true:=by kernel_rfl
theorem Xp:aS Tryz.prog 15 Yp=true:=by kernel_rfl
theorem Xq:aS Tryz.prog 16 Yq=true:=by kernel_rfl
theorem Xr:aS Tryz.prog 17 Yr=true:=by kernel_rfl
theorem Xs:aS Tryz.prog 18 Ys=true:=by kernel_rfl
theorem Xt:aS Tryz.prog 19 OZ=true:=by kernel_rfl
theorem Xu:aS Tryz.prog 20 O0=true:=by kernel_rfl
theorem Xv:aS Tryz.prog 21 O1=true:=by kernel_rfl
theorem Xw:aS Tryz.prog 22 O2=true:=by kernel_rfl
theorem Xx:aS Tryz.prog 23 O3=true:=by kernel_rfl
theorem Xy:aS Tryz.prog 24 O4=true:=by kernel_rfl
theorem Xz:aS Tryz.prog 25 O5=true:=by kernel_rfl
theorem XA:aS Tryz.prog 34 Yt=true:=by kernel_rfl
theorem XB:aS Tryz.prog 36 Yu=true:=by kernel_rfl
theorem XC:aS Tryz.prog 37 Yv=true:=by kernel_rfl
theorem XD:aS Tryz.prog 38 Yw=true:=by kernel_rfl
theorem XE:aS Tryz.prog 39 Yx=true:=by kernel_rfl
theorem XF:aS Tryz.prog 40 Yy=true:=by kernel_rfl
theorem XG:aS Tryz.prog 41 Yz=true:=by kernel_rfl
theorem XH:aS Tryz.prog 42 O6=true:=by kernel_rfl
theorem XI:aS Tryz.prog 43 YA=true:=by kernel_rfl
theorem XJ:aS Tryz.prog 44 O7=true:=by kernel_rfl
theorem XK:aS Tryz.prog 45 O8=true:=by kernel_rfl
theorem XL:aS Tryz.prog 46 O9=true:=by kernel_rfl
theorem XM:aS Tryz.prog 47 YB=true:=by kernel_rfl
theorem XN:aS Tryz.prog 48 YC=true:=by kernel_rfl
theorem XO:aS Tryz.prog 49 YD=true:=by kernel_rfl
theorem XP:aS Tryz.prog 50 YE=true:=by kernel_rfl
theorem XQ:aS Tryz.prog 51 Pa=true:=by kernel_rfl
theorem XR:aS Tryz.prog 52 Pb=true:=by kernel_rfl
theorem XS:aS Tryz.prog 53 Pc=true:=by kernel_rfl
theorem XT:aS Tryz.prog 54 Pd=true:=by kernel_rfl
theorem XU:aS Tryz.prog 55 Pe=true:=by kernel_rfl
theorem XV:aS Tryz.prog 56 Pf=true:=by kernel_rfl
theorem XW:aS Tryz.prog 57 Pg=true:=by kernel_rfl
theorem XX:aS Tryz.prog 58 Ph=true:=by kernel_rfl
theorem XY:aS Tryz.prog 60 Pj=true:=by kernel_rfl
theorem XZ:aS Tryz.prog 61 Pk=true:=by kernel_rfl
theorem X0:aS Tryz.prog 62 Pm=true:=by kernel_rfl
theorem X1:aS Tryz.prog 77 Pn=true:=by kernel_rfl
theorem X2:aS Tryz.prog 78 Po=true:=by kernel_rfl
theorem X3:aS Tryz.prog 79 Pp=true:=by kernel_rfl
theorem X4:aS Tryz.prog 80 Pq=true:=by kernel_rfl
theorem X5:aS Tryz.prog 81 Pr=true:=by kernel_rfl
theorem X6:aS Tryz.prog 82 Ps=true:=by kernel_rfl
theorem X7:aS Tryz.prog 83 Pt=true:=by kernel_rfl
theorem X8:aS Tryz.prog 84 Pu=true:=by kernel_rfl
theorem X9:aS Tryz.prog 85 Pv=true:=by kernel_rfl
theorem Ya:aS Tryz.prog 86 Pw=true:=by kernel_rfl
theorem Yb:aS Tryz.prog 87 Px=true:=by kernel_rfl
theorem Yc:aS Tryz.prog 88 Py=true:=by kernel_rfl
theorem Yd:aS Tryz.prog 89 YF=true:=by kernel_rfl
theorem Ye:aS Tryz.prog 90 Pz=true:=by kernel_rfl
theorem Yf:aS Tryz.prog 91 YG=true:=by kernel_rfl
theorem Yg:aS Tryz.prog 92 PA=true:=by kernel_rfl
theorem Yh:aS Tryz.prog 93 PB=true:=by kernel_rfl
theorem Yi:aS Tryz.prog 94 PC=true:=by kernel_rfl
theorem Yj:aS Tryz.prog 95 PD=true:=by kernel_rfl
theorem Yk:aS Tryz.prog 96 PE=true:=by kernel_rfl
theorem Yl:aS Tryz.prog 97 PF=true:=by kernel_rfl
theorem Ym:aS Tryz.prog 98 PG=true:=by kernel_rfl
theorem Yn:aS Tryz.prog 99 PH=true:=by kernel_rfl
theorem S6:aS Tryz.prog 100 KP=true:=by kernel_rfl
theorem S7:aS Tryz.prog 102 KQ=true:=by kernel_rfl
theorem S8:aS Tryz.prog 103 KR=true:=by kernel_rfl
theorem S9:aS Tryz.prog 104 KT=true:=by kernel_rfl
theorem Ta:aS Tryz.prog 105 KU=true:=by kernel_rfl
theorem Tb:aS Tryz.prog 106 KV=true:=by kernel_rfl
theorem Tc:aS Tryz.prog 107 KY=true:=by kernel_rfl
theorem Td:aS Tryz.prog 121 KZ=true:=by kernel_rfl
theorem Te:aS Tryz.prog 122 K0=true:=by kernel_rfl
theorem Tf:aS Tryz.prog 123 K1=true:=by kernel_rfl
theorem Tg:aS Tryz.prog 124 K2=true:=by kernel_rfl
theorem Th:aS Tryz.prog 125 K3=true:=by kernel_rfl
theorem Ti:aS Tryz.prog 126 K4=true:=by kernel_rfl
theorem Tj:aS Tryz.prog 127 Ql=true:=by kernel_rfl
theorem Tl:aS Tryz.prog 128 K5=true:=by kernel_rfl
theorem Tm:aS Tryz.prog 129 K6=true:=by kernel_rfl
theorem Tn:aS Tryz.prog 130 K7=true:=by kernel_rfl
theorem To:aS Tryz.prog 131 K8=true:=by kernel_rfl
theorem Tp:aS Tryz.prog 132 K9=true:=by kernel_rfl
theorem Tq:aS Tryz.prog 133 La=true:=by kernel_rfl
theorem Tr:aS Tryz.prog 134 Lb=true:=by kernel_rfl
theorem Ts:aS Tryz.prog 135 Lc=true:=by kernel_rfl
theorem Tt:aS Tryz.prog 136 Ld=true:=by kernel_rfl
theorem Tu:aS Tryz.prog 137 Lf=true:=by kernel_rfl
theorem Tv:aS Tryz.prog 138 Lg=true:=by kernel_rfl
theorem Tw:aS Tryz.prog 141 Lh=true:=by kernel_rfl
theorem Tx:aS Tryz.prog 142 Li=true:=by kernel_rfl
theorem Ty:aS Tryz.prog 143 Lj=true:=by kernel_rfl
theorem Tz:aS Tryz.prog 144 Lk=true:=by kernel_rfl
theorem TA:aS Tryz.prog 145 Ll=true:=by kernel_rfl
theorem TB:aS Tryz.prog 146 Lm=true:=by kernel_rfl
theorem TC:aS Tryz.prog 147 Ln=true:=by kernel_rfl
theorem TD:aS Tryz.prog 148 Lo=true:=by kernel_rfl
theorem TE:aS Tryz.prog 149 Lq=true:=by kernel_rfl
theorem TF:aS Tryz.prog 150 Lr=true:=by kernel_rfl
theorem TG:aS Tryz.prog 151 Ls=true:=by kernel_rfl
theorem TH:aS Tryz.prog 154 Lt=true:=by kernel_rfl
theorem TI:aS Tryz.prog 155 Lu=true:=by kernel_rfl
theorem TJ:aS Tryz.prog 156 Rd=true:=by kernel_rfl
theorem TK:aS Tryz.prog 157 Rk=true:=by kernel_rfl
theorem TL:aS Tryz.prog 158 Lv=true:=by kernel_rfl
theorem TM:aS Tryz.prog 160 Lw=true:=by kernel_rfl
theorem TN:aS Tryz.prog 161 Lx=true:=by kernel_rfl
theorem TO:aS Tryz.prog 162 Ly=true:=by kernel_rfl
theorem TP:aS Tryz.prog 163 Lz=true:=by kernel_rfl
theorem TQ:aS Tryz.prog 164 LA=true:=by kernel_rfl
theorem TR:aS Tryz.prog 165 Iq=true:=by kernel_rfl
theorem TS:aS Tryz.prog 166 Ir=true:=by kernel_rfl
theorem TT:aS Tryz.prog 167 Is=true:=by kernel_rfl
theorem TU:aS Tryz.prog 170 RC=true:=by kernel_rfl
theorem TV:aS Tryz.prog 171 LB=true:=by kernel_rfl
theorem TW:aS Tryz.prog 174 LC=true:=by kernel_rfl
theorem TX:aS Tryz.prog 175 LD=true:=by kernel_rfl
theorem TY:aS Tryz.prog 176 LF=true:=by kernel_rfl
theorem tab:vq Tryz.prog G:=by
 intro f fn h
 unfold G at h
 split at h
 ·obtain rfl:=Option.some.inj h;exact aak
 ·obtain rfl:=Option.some.inj h;exact aal
 ·obtain rfl:=Option.some.inj h;exact aam
 ·obtain rfl:=Option.some.inj h;exact aan
 ·obtain rfl:=Option.some.inj h;exact Xm
 ·obtain rfl:=Option.some.inj h;exact Xn
 ·obtain rfl:=Option.some.inj h;exact Xo
 ·obtain rfl:=Option.some.inj h;exact Xp
 ·obtain rfl:=Option.some.inj h;exact Xq
 ·obtain rfl:=Option.some.inj h;exact Xr
 ·obtain rfl:=Option.some.inj h;exact Xs
 ·obtain rfl:=Option.some.inj h;exact Xt
 ·obtain rfl:=Option.some.inj h;exact Xu
 ·obtain rfl:=Option.some.inj h;exact Xv
 ·obtain rfl:=Option.some.inj h;exact Xw
 ·obtain rfl:=Option.some.inj h;exact Xx
 ·obtain rfl:=Option.some.inj h;exact Xy
 ·obtain rfl:=Option.some.inj h;exact Xz
 ·obtain rfl:=Option.some.inj h;exact XA
 ·obtain rfl:=Option.some.inj h;exact XB
 ·obtain rfl:=Option.some.inj h;exact XC
 ·obtain rfl:=Option.some.inj h;exact XD
 ·obtain rfl:=Option.some.inj h;exact XE
 ·obtain rfl:=Option.some.inj h;exact XF
 ·obtain rfl:=Option.some.inj h;exact XG
 ·obtain rfl:=Option.some.inj h;exact XH
 ·obtain rfl:=Option.some.inj h;exact XI
 ·obtain rfl:=Option.some.inj h;exact XJ
 ·obtain rfl:=Option.some.inj h;exact XK
 ·obtain rfl:=Option.some.inj h;exact XL
 ·obtain rfl:=Option.some.inj h;exact XM
 ·obtain rfl:=Option.some.inj h;exact XN
 ·obtain rfl:=Option.some.inj h;exact XO
 ·obtain rfl:=Option.some.inj h;exact XP
 ·obtain rfl:=Option.some.inj h;exact XQ
 ·obtain rfl:=Option.some.inj h;exact XR
 ·obtain rfl:=Option.some.inj h;exact XS
 ·obtain rfl:=Option.some.inj h;exact XT
 ·obtain rfl:=Option.some.inj h;exact XU
 ·obtain rfl:=Option.some.inj h;exact XV
 ·obtain rfl:=Option.some.inj h;exact XW
 ·obtain rfl:=Option.some.inj h;exact XX
 ·obtain rfl:=Option.some.inj h;exact XY
 ·obtain rfl:=Option.some.inj h;exact XZ
 ·obtain rfl:=Option.some.inj h;exact X0
 ·obtain rfl:=Option.some.inj h;exact X1
 ·obtain rfl:=Option.some.inj h;exact X2
 ·obtain rfl:=Option.some.inj h;exact X3
 ·obtain rfl:=Option.some.inj h;exact X4
 ·obtain rfl:=Option.some.inj h;exact X5
 ·obtain rfl:=Option.some.inj h;exact X6
 ·obtain rfl:=Option.some.inj h;exact X7
 ·obtain rfl:=Option.some.inj h;exact X8
 ·obtain rfl:=Option.some.inj h;exact X9
 ·obtain rfl:=Option.some.inj h;exact Ya
 ·obtain rfl:=Option.some.inj h;exact Yb
 ·obtain rfl:=Option.some.inj h;exact Yc
 ·obtain rfl:=Option.some.inj h;exact Yd
 ·obtain rfl:=Option.some.inj h;exact Ye
 ·obtain rfl:=Option.some.inj h;exact Yf
 ·obtain rfl:=Option.some.inj h;exact Yg
 ·obtain rfl:=Option.some.inj h;exact Yh
 ·obtain rfl:=Option.some.inj h;exact Yi
 ·obtain rfl:=Option.some.inj h;exact Yj
 ·obtain rfl:=Option.some.inj h;exact Yk
 ·obtain rfl:=Option.some.inj h;exact Yl
 ·obtain rfl:=Option.some.inj h;exact Ym
 ·obtain rfl:=Option.some.inj h;exact Yn
 ·obtain rfl:=Option.some.inj h;exact S6
 ·obtain rfl:=Option.some.inj h;exact S7
 ·obtain rfl:=Option.some.inj h;exact S8
 ·obtain rfl:=Option.some.inj h;exact S9
 ·obtain rfl:=Option.some.inj h;exact Ta
 ·obtain rfl:=Option.some.inj h;exact Tb
 ·obtain rfl:=Option.some.inj h;exact Tc
 ·obtain rfl:=Option.some.inj h;exact Td
 ·obtain rfl:=Option.some.inj h;exact Te
 ·obtain rfl:=Option.some.inj h;exact Tf
 ·obtain rfl:=Option.some.inj h;exact Tg
 ·obtain rfl:=Option.some.inj h;exact Th
 ·obtain rfl:=Option.some.inj h;exact Ti
 ·obtain rfl:=Option.some.inj h;exact Tj
 ·obtain rfl:=Option.some.inj h;exact Tl
 ·obtain rfl:=Option.some.inj h;exact Tm
 ·obtain rfl:=Option.some.inj h;exact Tn
 ·obtain rfl:=Option.some.inj h;exact To
 ·obtain rfl:=Option.some.inj h;exact Tp
 ·obtain rfl:=Option.some.inj h;exact Tq
 ·obtain rfl:=Option.some.inj h;exact Tr
 ·obtain rfl:=Option.some.inj h;exact Ts
 ·obtain rfl:=Option.some.inj h;exact Tt
 ·obtain rfl:=Option.some.inj h;exact Tu
 ·obtain rfl:=Option.some.inj h;exact Tv
 ·obtain rfl:=Option.some.inj h;exact Tw
 ·obtain rfl:=Option.some.inj h;exact Tx
 ·obtain rfl:=Option.some.inj h;exact Ty
 ·obtain rfl:=Option.some.inj h;exact Tz
 ·obtain rfl:=Option.some.inj h;exact TA
 ·obtain rfl:=Option.some.inj h;exact TB
 ·obtain rfl:=Option.some.inj h;exact TC
 ·obtain rfl:=Option.some.inj h;exact TD
 ·obtain rfl:=Option.some.inj h;exact TE
 ·obtain rfl:=Option.some.inj h;exact TF
 ·obtain rfl:=Option.some.inj h;exact TG
 ·obtain rfl:=Option.some.inj h;exact TH
 ·obtain rfl:=Option.some.inj h;exact TI
 ·obtain rfl:=Option.some.inj h;exact TJ
 ·obtain rfl:=Option.some.inj h;exact TK
 ·obtain rfl:=Option.some.inj h;exact TL
 ·obtain rfl:=Option.some.inj h;exact TM
 ·obtain rfl:=Option.some.inj h;exact TN
 ·obtain rfl:=Option.some.inj h;exact TO
 ·obtain rfl:=Option.some.inj h;exact TP
 ·obtain rfl:=Option.some.inj h;exact TQ
 ·obtain rfl:=Option.some.inj h;exact TR
 ·obtain rfl:=Option.some.inj h;exact TS
 ·obtain rfl:=Option.some.inj h;exact TT
 ·obtain rfl:=Option.some.inj h;exact TU
 ·obtain rfl:=Option.some.inj h;exact TV
 ·obtain rfl:=Option.some.inj h;exact TW
 ·obtain rfl:=Option.some.inj h;exact TX
 ·obtain rfl:=Option.some.inj h;exact TY
 ·cases h
theorem orc:fq Tryz.prog Ω0:=by
 refine ⟨fun f g n h=>?_,fun f y h _=>?_,fun f ys x h hy hp=>?_,fun f ys t h hy=>?_,fun f t h=>?_,fun f c es ns h hn=>?_⟩
 ·simp only [Ω0] at h
  split at h
  ·exact (ND h).elim
  ·exact (KJ h).elim
  ·exact (KM h).elim
  ·exact (Jh h).elim
  ·cases h
 ·simp only [Ω0] at h
  split at h
  ·exact (Ug h).elim
  ·exact (OQ h).elim
  ·exact (OS h).elim
  ·exact (NC h).elim
  ·cases h
 ·simp only [Ω0] at h
  split at h
  ·exact (OR h hy).elim
  ·exact Xj h
  ·exact Xk h
  ·exact (MB h hp).elim
  ·cases h
 ·simp only [Ω0] at h
  split at h
  ·exact (NG h).elim
  ·exact (NH h).elim
  ·exact (NI h).elim
  ·exact OB h
  ·cases h
 ·simp only [Ω0] at h
  split at h
  ·exact (NF h).elim
  ·exact (KK h).elim
  ·exact (KN h).elim
  ·exact (Ji h).elim
  ·cases h
 ·simp only [Ω0] at h
  split at h
  ·exact aaj h hn
  ·exact (KL h).elim
  ·exact (KO h).elim
  ·exact (Jj h).elim
  ·cases h
theorem sound:ij Tryz.prog (call G Ω0):=Oy tab fun B=>@orc B
end Go.Proofs.YtdpjofmmokaobaaGreat.A
