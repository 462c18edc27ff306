/- Each function and its abstract code, made by program. -/
import Derived.Test.YtdpjofmmokaobaaGreatAbsJ
import Derived.Test.YtdpjofmmokaobaaGreatCode
import Derived.Test.YtdpjofmmokaobaaGreatProg
import Derived.Test.YtdpjofmmokaobaaGreatOrcOK
import Derived.Test.YtdpjofmmokaobaaGreatUses
import Derived.Test.YtdpjofmmokaobaaGreatRep
import Derived.Test.YtdpjofmmokaobaaGreatBad
import Derived.Test.YtdpjofmmokaobaaGreatGrow
set_option maxRecDepth 100000
set_option linter.unusedSectionVars false
set_option linter.unusedVariables false
set_option linter.unusedSimpArgs false
namespace Go.Proofs.YtdpjofmmokaobaaGreat.A
open Go Go.Proofs
variable [bJ]
theorem aag:bc Tryz.prog 5 c5=true:=by kernel_rfl
theorem aah:bc Tryz.prog 6 c6=true:=by kernel_rfl
theorem aai:bc Tryz.prog 9 c9=true:=by kernel_rfl
theorem XU:bc Tryz.prog 15 PV=true:=by kernel_rfl
theorem XV:bc Tryz.prog 16 YI=true:=by kernel_rfl
theorem XW:bc Tryz.prog 17 PW=true:=by kernel_rfl
theorem XX:bc Tryz.prog 18 PX=true:=by kernel_rfl
theorem XY:bc Tryz.prog 19 PY=true:=by kernel_rfl
theorem XZ:bc Tryz.prog 20 PZ=true:=by kernel_rfl
theorem X0:bc Tryz.prog 21 P0=true:=by kernel_rfl
theorem X1:bc Tryz.prog 22 P1=true:=by kernel_rfl
theorem X2:bc Tryz.prog 23 P2=true:=by kernel_rfl
theorem X3:bc Tryz.prog 24 P3=true:=by kernel_rfl
theorem X4:bc Tryz.prog 25 P4=true:=by kernel_rfl
theorem X5:bc Tryz.prog 34 YJ=true:=by kernel_rfl
theorem X6:bc Tryz.prog 36 YK=true:=by kernel_rfl
theorem X7:bc Tryz.prog 44 P5=true:=by kernel_rfl
theorem X8:bc Tryz.prog 46 P6=true:=by kernel_rfl
theorem X9:bc Tryz.prog 47 P7=true:=by kernel_rfl
theorem Ya:bc Tryz.prog 48 YL=true:=by kernel_rfl
theorem Yb:bc Tryz.prog 49 P8=true:=by kernel_rfl
theorem Yc:bc Tryz.prog 50 P9=true:=by kernel_rfl
theorem Yd:bc Tryz.prog 51 Qa=true:=by kernel_rfl
theorem Ye:bc Tryz.prog 52 Qb=true:=by kernel_rfl
theorem Yf:bc Tryz.prog 53 Qc=true:=by kernel_rfl
theorem Yg:bc Tryz.prog 54 Qd=true:=by kernel_rfl
theorem Yh:bc Tryz.prog 55 Qe=true:=by kernel_rfl
theorem Yi:bc Tryz.prog 56 Qf=true:=by kernel_rfl
theorem Yj:bc Tryz.prog 57 Qg=true:=by kernel_rfl
theorem Yk:bc Tryz.prog 58 Qh=true:=by kernel_rfl
theorem Yl:bc Tryz.prog 60 Qi=true:=by kernel_rfl
theorem Ym:bc Tryz.prog 61 Qj=true:=by kernel_rfl
theorem Yn:bc Tryz.prog 62 Qk=true:=by kernel_rfl
theorem Yo:bc Tryz.prog 77 Ql=true:=by kernel_rfl
theorem Yp:bc Tryz.prog 78 Qm=true:=by kernel_rfl
theorem Yq:bc Tryz.prog 79 Qn=true:=by kernel_rfl
theorem Yr:bc Tryz.prog 80 Qo=true:=by kernel_rfl
theorem Ys:bc Tryz.prog 81 Qp=true:=by kernel_rfl
theorem Yt:bc Tryz.prog 82 Qq=true:=by kernel_rfl
theorem Yu:bc Tryz.prog 83 Qr=true:=by kernel_rfl
theorem Yv:bc Tryz.prog 84 Qs=true:=by kernel_rfl
theorem Yw:bc Tryz.prog 88 Qt=true:=by kernel_rfl
theorem Yx:bc Tryz.prog 89 Qu=true:=by kernel_rfl
theorem Yy:bc Tryz.prog 90 Qv=true:=by kernel_rfl
theorem Yz:bc Tryz.prog 91 YM=true:=by kernel_rfl
theorem YA:bc Tryz.prog 92 Qw=true:=by kernel_rfl
theorem YB:bc Tryz.prog 93 Qx=true:=by kernel_rfl
theorem YC:bc Tryz.prog 94 Qy=true:=by kernel_rfl
theorem YD:bc Tryz.prog 95 Qz=true:=by kernel_rfl
theorem YE:bc Tryz.prog 96 QA=true:=by kernel_rfl
theorem YF:bc Tryz.prog 97 QB=true:=by kernel_rfl
theorem YG:bc Tryz.prog 98 QC=true:=by kernel_rfl
theorem YH:bc Tryz.prog 99 QD=true:=by kernel_rfl
theorem TY:bc Tryz.prog 100 LH=true:=by kernel_rfl
theorem TZ:bc Tryz.prog 102 LI=true:=by kernel_rfl
theorem T5:bc Tryz.prog 103 LJ=true:=by kernel_rfl
theorem T6:bc Tryz.prog 104 LK=true:=by kernel_rfl
theorem T7:bc Tryz.prog 105 LL=true:=by kernel_rfl
theorem T8:bc Tryz.prog 106 LM=true:=by kernel_rfl
theorem T9:bc Tryz.prog 107 LN=true:=by kernel_rfl
theorem Ua:bc Tryz.prog 121 LO=true:=by kernel_rfl
theorem Ub:bc Tryz.prog 122 LP=true:=by kernel_rfl
theorem Uc:bc Tryz.prog 123 LQ=true:=by kernel_rfl
theorem Ud:bc Tryz.prog 124 LR=true:=by kernel_rfl
theorem Ue:bc Tryz.prog 125 LS=true:=by kernel_rfl
theorem Uf:bc Tryz.prog 127 LU=true:=by kernel_rfl
theorem Ug:bc Tryz.prog 128 LV=true:=by kernel_rfl
theorem Uh:bc Tryz.prog 129 LX=true:=by kernel_rfl
theorem Ui:bc Tryz.prog 130 LY=true:=by kernel_rfl
theorem Uj:bc Tryz.prog 131 LZ=true:=by kernel_rfl
theorem Uk:bc Tryz.prog 132 L0=true:=by kernel_rfl
theorem Ul:bc Tryz.prog 133 L1=true:=by kernel_rfl
theorem Um:bc Tryz.prog 134 L2=true:=by kernel_rfl
theorem Un:bc Tryz.prog 135 L3=true:=by kernel_rfl
theorem Uo:bc Tryz.prog 136 L4=true:=by kernel_rfl
theorem Up:bc Tryz.prog 137 L5=true:=by kernel_rfl
theorem Uq:bc Tryz.prog 138 L6=true:=by kernel_rfl
theorem Ur:bc Tryz.prog 141 L7=true:=by kernel_rfl
theorem Us:bc Tryz.prog 142 L8=true:=by kernel_rfl
theorem Ut:bc Tryz.prog 143 L9=true:=by kernel_rfl
theorem Uu:bc Tryz.prog 144 Ma=true:=by kernel_rfl
theorem Uv:bc Tryz.prog 145 Mb=true:=by kernel_rfl
theorem Uw:bc Tryz.prog 146 Mc=true:=by kernel_rfl
theorem Ux:bc Tryz.prog 147 Md=true:=by kernel_rfl
theorem Uy:bc Tryz.prog 148 Me=true:=by kernel_rfl
theorem Uz:bc Tryz.prog 149 Mf=true:=by kernel_rfl
theorem UA:bc Tryz.prog 150 Mg=true:=by kernel_rfl
theorem UB:bc Tryz.prog 151 Mh=true:=by kernel_rfl
theorem UC:bc Tryz.prog 154 Mi=true:=by kernel_rfl
theorem UD:bc Tryz.prog 155 Mj=true:=by kernel_rfl
theorem UE:bc Tryz.prog 156 Mk=true:=by kernel_rfl
theorem UF:bc Tryz.prog 157 Ml=true:=by kernel_rfl
theorem UG:bc Tryz.prog 158 Mm=true:=by kernel_rfl
theorem UH:bc Tryz.prog 160 Mn=true:=by kernel_rfl
theorem UI:bc Tryz.prog 161 Mo=true:=by kernel_rfl
theorem UJ:bc Tryz.prog 162 Mp=true:=by kernel_rfl
theorem UK:bc Tryz.prog 163 Mq=true:=by kernel_rfl
theorem UL:bc Tryz.prog 164 Mr=true:=by kernel_rfl
theorem UM:bc Tryz.prog 165 I6=true:=by kernel_rfl
theorem UN:bc Tryz.prog 166 I7=true:=by kernel_rfl
theorem UO:bc Tryz.prog 167 I8=true:=by kernel_rfl
theorem UP:bc Tryz.prog 170 Sv=true:=by kernel_rfl
theorem UQ:bc Tryz.prog 171 Ms=true:=by kernel_rfl
theorem UR:bc Tryz.prog 174 Mt=true:=by kernel_rfl
theorem US:bc Tryz.prog 175 Mu=true:=by kernel_rfl
theorem UT:bc Tryz.prog 176 Mv=true:=by kernel_rfl
theorem tab:vS Tryz.prog G:=by
 intro f fn h
 unfold G at h
 split at h
 ·obtain rfl:=Option.some.inj h;exact aag
 ·obtain rfl:=Option.some.inj h;exact aah
 ·obtain rfl:=Option.some.inj h;exact aai
 ·obtain rfl:=Option.some.inj h;exact XU
 ·obtain rfl:=Option.some.inj h;exact XV
 ·obtain rfl:=Option.some.inj h;exact XW
 ·obtain rfl:=Option.some.inj h;exact XX
 ·obtain rfl:=Option.some.inj h;exact XY
 ·obtain rfl:=Option.some.inj h;exact XZ
 ·obtain rfl:=Option.some.inj h;exact X0
 ·obtain rfl:=Option.some.inj h;exact X1
 ·obtain rfl:=Option.some.inj h;exact X2
 ·obtain rfl:=Option.some.inj h;exact X3
 ·obtain rfl:=Option.some.inj h;exact X4
 ·obtain rfl:=Option.some.inj h;exact X5
 ·obtain rfl:=Option.some.inj h;exact X6
 ·obtain rfl:=Option.some.inj h;exact X7
 ·obtain rfl:=Option.some.inj h;exact X8
 ·obtain rfl:=Option.some.inj h;exact X9
 ·obtain rfl:=Option.some.inj h;exact Ya
 ·obtain rfl:=Option.some.inj h;exact Yb
 ·obtain rfl:=Option.some.inj h;exact Yc
 ·obtain rfl:=Option.some.inj h;exact Yd
 ·obtain rfl:=Option.some.inj h;exact Ye
 ·obtain rfl:=Option.some.inj h;exact Yf
 ·obtain rfl:=Option.some.inj h;exact Yg
 ·obtain rfl:=Option.some.inj h;exact Yh
 ·obtain rfl:=Option.some.inj h;exact Yi
 ·obtain rfl:=Option.some.inj h;exact Yj
 ·obtain rfl:=Option.some.inj h;exact Yk
 ·obtain rfl:=Option.some.inj h;exact Yl
 ·obtain rfl:=Option.some.inj h;exact Ym
 ·obtain rfl:=Option.some.inj h;exact Yn
 ·obtain rfl:=Option.some.inj h;exact Yo
 ·obtain rfl:=Option.some.inj h;exact Yp
 ·obtain rfl:=Option.some.inj h;exact Yq
 ·obtain rfl:=Option.some.inj h;exact Yr
 ·obtain rfl:=Option.some.inj h;exact Ys
 ·obtain rfl:=Option.some.inj h;exact Yt
 ·obtain rfl:=Option.some.inj h;exact Yu
 ·obtain rfl:=Option.some.inj h;exact Yv
 ·obtain rfl:=Option.some.inj h;exact Yw
 ·obtain rfl:=Option.some.inj h;exact Yx
 ·obtain rfl:=Option.some.inj h;exact Yy
 ·obtain rfl:=Option.some.inj h;exact Yz
 ·obtain rfl:=Option.some.inj h;exact YA
 ·obtain rfl:=Option.some.inj h;exact YB
 ·obtain rfl:=Option.some.inj h;exact YC
 ·obtain rfl:=Option.some.inj h;exact YD
 ·obtain rfl:=Option.some.inj h;exact YE
 ·obtain rfl:=Option.some.inj h;exact YF
 ·obtain rfl:=Option.some.inj h;exact YG
 ·obtain rfl:=Option.some.inj h;exact YH
 ·obtain rfl:=Option.some.inj h;exact TY
 ·obtain rfl:=Option.some.inj h;exact TZ
 ·obtain rfl:=Option.some.inj h;exact T5
 ·obtain rfl:=Option.some.inj h;exact T6
 ·obtain rfl:=Option.some.inj h;exact T7
 ·obtain rfl:=Option.some.inj h;exact T8
 ·obtain rfl:=Option.some.inj h;exact T9
 ·obtain rfl:=Option.some.inj h;exact Ua
 ·obtain rfl:=Option.some.inj h;exact Ub
 ·obtain rfl:=Option.some.inj h;exact Uc
 ·obtain rfl:=Option.some.inj h;exact Ud
 ·obtain rfl:=Option.some.inj h;exact Ue
 ·obtain rfl:=Option.some.inj h;exact Uf
 ·obtain rfl:=Option.some.inj h;exact Ug
 ·obtain rfl:=Option.some.inj h;exact Uh
 ·obtain rfl:=Option.some.inj h;exact Ui
 ·obtain rfl:=Option.some.inj h;exact Uj
 ·obtain rfl:=Option.some.inj h;exact Uk
 ·obtain rfl:=Option.some.inj h;exact Ul
 ·obtain rfl:=Option.some.inj h;exact Um
 ·obtain rfl:=Option.some.inj h;exact Un
 ·obtain rfl:=Option.some.inj h;exact Uo
 ·obtain rfl:=Option.some.inj h;exact Up
 ·obtain rfl:=Option.some.inj h;exact Uq
 ·obtain rfl:=Option.some.inj h;exact Ur
 ·obtain rfl:=Option.some.inj h;exact Us
 ·obtain rfl:=Option.some.inj h;exact Ut
 ·obtain rfl:=Option.some.inj h;exact Uu
 ·obtain rfl:=Option.some.inj h;exact Uv
 ·obtain rfl:=Option.some.inj h;exact Uw
 ·obtain rfl:=Option.some.inj h;exact Ux
 ·obtain rfl:=Option.some.inj h;exact Uy
 ·obtain rfl:=Option.some.inj h;exact Uz
 ·obtain rfl:=Option.some.inj h;exact UA
 ·obtain rfl:=Option.some.inj h;exact UB
 ·obtain rfl:=Option.some.inj h;exact UC
 ·obtain rfl:=Option.some.inj h;exact UD
 ·obtain rfl:=Option.some.inj h;exact UE
 ·obtain rfl:=Option.some.inj h;exact UF
 ·obtain rfl:=Option.some.inj h;exact UG
 ·obtain rfl:=Option.some.inj h;exact UH
 ·obtain rfl:=Option.some.inj h;exact UI
 ·obtain rfl:=Option.some.inj h;exact UJ
 ·obtain rfl:=Option.some.inj h;exact UK
 ·obtain rfl:=Option.some.inj h;exact UL
 ·obtain rfl:=Option.some.inj h;exact UM
 ·obtain rfl:=Option.some.inj h;exact UN
 ·obtain rfl:=Option.some.inj h;exact UO
 ·obtain rfl:=Option.some.inj h;exact UP
 ·obtain rfl:=Option.some.inj h;exact UQ
 ·obtain rfl:=Option.some.inj h;exact UR
 ·obtain rfl:=Option.some.inj h;exact US
 ·obtain rfl:=Option.some.inj h;exact UT
 ·cases h
theorem orc:fB Tryz.prog Ω0:=by
 refine ⟨fun f g n h=>?_,fun f y h _=>?_,fun f ys x h hy hp=>?_,fun f ys t h hy=>?_,fun f t h=>?_,fun f c es ns h hn=>?_⟩
 ·simp only [Ω0] at h
  split at h
  ·exact (OF h).elim
  ·exact (LA h).elim
  ·exact (LD h).elim
  ·exact (JZ h).elim
  ·cases h
 ·simp only [Ω0] at h
  split at h
  ·exact (U7 h).elim
  ·exact (PO h).elim
  ·exact (PR h).elim
  ·exact (OE h).elim
  ·cases h
 ·simp only [Ω0] at h
  split at h
  ·exact (PQ h hy).elim
  ·exact XR h
  ·exact XS h
  ·exact (Nu h hp).elim
  ·cases h
 ·simp only [Ω0] at h
  split at h
  ·exact (OH h).elim
  ·exact (OI h).elim
  ·exact (OJ h).elim
  ·exact Pz h
  ·cases h
 ·simp only [Ω0] at h
  split at h
  ·exact (OG h).elim
  ·exact (LB h).elim
  ·exact (LF h).elim
  ·exact (J0 h).elim
  ·cases h
 ·simp only [Ω0] at h
  split at h
  ·exact aaf h hn
  ·exact (LC h).elim
  ·exact (LG h).elim
  ·exact (J1 h).elim
  ·cases h
theorem sound:iw Tryz.prog (call G Ω0):=Pw tab fun B=>@orc B
end Go.Proofs.YtdpjofmmokaobaaGreat.A
