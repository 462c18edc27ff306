/- Each function and its abstract code, made by program. -/
import Derived.Test.YtphgedfhcncobaaGreatDoorAbsJ
import Derived.Test.YtphgedfhcncobaaGreatDoorCode
import Derived.Test.YtphgedfhcncobaaGreatDoorProg
import Derived.Test.YtphgedfhcncobaaGreatDoorOrcOK
import Derived.Test.YtphgedfhcncobaaGreatDoorShelf
import Derived.Test.YtphgedfhcncobaaGreatDoorVia
set_option maxRecDepth 100000
set_option linter.unusedSectionVars false
set_option linter.unusedVariables false
set_option linter.unusedSimpArgs false
namespace Go.Proofs.YtphgedfhcncobaaGreatDoor.A
open Go Go.Proofs
variable [bg]
theorem Qd:aV Tryz.prog 3 c3=true:=by kernel_rfl
theorem Qe:aV Tryz.prog 4 c4=true:=by kernel_rfl
theorem Qf:aV Tryz.prog 5 c5=true:=by kernel_rfl
theorem Qg:aV Tryz.prog 6 c6=true:=by kernel_rfl
theorem Qh:aV Tryz.prog 7 c7=true:=by kernel_rfl
theorem Qi:aV Tryz.prog 8 c8=true:=by kernel_rfl
theorem Qj:aV Tryz.prog 9 c9=true:=by kernel_rfl
theorem NY:aV Tryz.prog 10 HD=true:=by kernel_rfl
theorem NZ:aV Tryz.prog 11 HE=true:=by kernel_rfl
theorem N0:aV Tryz.prog 12 sG=true:=by kernel_rfl
theorem N1:aV Tryz.prog 13 lI=true:=by kernel_rfl
theorem N2:aV Tryz.prog 14 HF=true:=by kernel_rfl
theorem N3:aV Tryz.prog 15 vA=true:=by kernel_rfl
theorem N4:aV Tryz.prog 16 yP=true:=by kernel_rfl
theorem N5:aV Tryz.prog 18 HG=true:=by kernel_rfl
theorem N6:aV Tryz.prog 19 HH=true:=by kernel_rfl
theorem N7:aV Tryz.prog 20 uw=true:=by kernel_rfl
theorem N8:aV Tryz.prog 21 HI=true:=by kernel_rfl
theorem N9:aV Tryz.prog 22 HJ=true:=by kernel_rfl
theorem Oa:aV Tryz.prog 23 HK=true:=by kernel_rfl
theorem Ob:aV Tryz.prog 24 HL=true:=by kernel_rfl
theorem Oc:aV Tryz.prog 25 HM=true:=by kernel_rfl
theorem Od:aV Tryz.prog 26 HN=true:=by kernel_rfl
theorem Oe:aV Tryz.prog 27 HO=true:=by kernel_rfl
theorem Of:aV Tryz.prog 28 HQ=true:=by kernel_rfl
theorem Og:aV Tryz.prog 29 HR=true:=by kernel_rfl
theorem Oh:aV Tryz.prog 30 HS=true:=by kernel_rfl
theorem Oi:aV Tryz.prog 31 HT=true:=by kernel_rfl
theorem Oj:aV Tryz.prog 32 HU=true:=by kernel_rfl
theorem Ok:aV Tryz.prog 33 HV=true:=by kernel_rfl
theorem Ol:aV Tryz.prog 34 HW=true:=by kernel_rfl
theorem Om:aV Tryz.prog 35 HX=true:=by kernel_rfl
theorem On:aV Tryz.prog 36 HY=true:=by kernel_rfl
theorem Oo:aV Tryz.prog 37 HZ=true:=by kernel_rfl
theorem Oq:aV Tryz.prog 38 H2=true:=by kernel_rfl
theorem Ot:aV Tryz.prog 39 H3=true:=by kernel_rfl
theorem Ou:aV Tryz.prog 41 Pg=true:=by kernel_rfl
theorem Ov:aV Tryz.prog 42 H4=true:=by kernel_rfl
theorem Ow:aV Tryz.prog 43 H5=true:=by kernel_rfl
theorem Ox:aV Tryz.prog 44 H6=true:=by kernel_rfl
theorem Oy:aV Tryz.prog 45 H7=true:=by kernel_rfl
theorem Oz:aV Tryz.prog 46 H8=true:=by kernel_rfl
theorem OA:aV Tryz.prog 47 H9=true:=by kernel_rfl
theorem OB:aV Tryz.prog 48 Ia=true:=by kernel_rfl
theorem OC:aV Tryz.prog 49 Ib=true:=by kernel_rfl
theorem OD:aV Tryz.prog 50 Ic=true:=by kernel_rfl
theorem OE:aV Tryz.prog 51 Ie=true:=by kernel_rfl
theorem OF:aV Tryz.prog 52 Ig=true:=by kernel_rfl
theorem OG:aV Tryz.prog 53 Ih=true:=by kernel_rfl
theorem OH:aV Tryz.prog 54 Ii=true:=by kernel_rfl
theorem OI:aV Tryz.prog 55 Ij=true:=by kernel_rfl
theorem OJ:aV Tryz.prog 56 Ik=true:=by kernel_rfl
theorem OK:aV Tryz.prog 57 Il=true:=by kernel_rfl
theorem OL:aV Tryz.prog 58 Im=true:=by kernel_rfl
theorem OM:aV Tryz.prog 59 Io=true:=by kernel_rfl
theorem ON:aV Tryz.prog 60 Ip=true:=by kernel_rfl
theorem OO:aV Tryz.prog 61 Iq=true:=by kernel_rfl
theorem OP:aV Tryz.prog 62 Ir=true:=by kernel_rfl
theorem OQ:aV Tryz.prog 64 Ph=true:=by kernel_rfl
theorem OR:aV Tryz.prog 65 Pj=true:=by kernel_rfl
theorem OS:aV Tryz.prog 66 Pk=true:=by kernel_rfl
theorem OT:aV Tryz.prog 67 Pm=true:=by kernel_rfl
theorem OU:aV Tryz.prog 68 Is=true:=by kernel_rfl
theorem OV:aV Tryz.prog 69 It=true:=by kernel_rfl
theorem OW:aV Tryz.prog 70 Iu=true:=by kernel_rfl
theorem OX:aV Tryz.prog 71 Iv=true:=by kernel_rfl
theorem OY:aV Tryz.prog 72 Iw=true:=by kernel_rfl
theorem OZ:aV Tryz.prog 73 Ix=true:=by kernel_rfl
theorem O0:aV Tryz.prog 75 Pn=true:=by kernel_rfl
theorem O1:aV Tryz.prog 76 Po=true:=by kernel_rfl
theorem O2:aV Tryz.prog 78 Pp=true:=by kernel_rfl
theorem O3:aV Tryz.prog 79 Pq=true:=by kernel_rfl
theorem O4:aV Tryz.prog 80 Pr=true:=by kernel_rfl
theorem O5:aV Tryz.prog 81 Ps=true:=by kernel_rfl
theorem O6:aV Tryz.prog 82 Iy=true:=by kernel_rfl
theorem O7:aV Tryz.prog 83 Iz=true:=by kernel_rfl
theorem O8:aV Tryz.prog 85 Pt=true:=by kernel_rfl
theorem O9:aV Tryz.prog 87 Pu=true:=by kernel_rfl
theorem Pa:aV Tryz.prog 88 Pv=true:=by kernel_rfl
theorem Pb:aV Tryz.prog 89 Pw=true:=by kernel_rfl
theorem Pc:aV Tryz.prog 90 Px=true:=by kernel_rfl
theorem Pd:aV Tryz.prog 92 Py=true:=by kernel_rfl
theorem Pe:aV Tryz.prog 93 Pz=true:=by kernel_rfl
theorem Rj:sD Tryz.prog G:=by
 intro f fn h
 unfold G at h
 split at h
 ·obtain rfl:=Option.some.inj h;exact Qd
 ·obtain rfl:=Option.some.inj h;exact Qe
 ·obtain rfl:=Option.some.inj h;exact Qf
 ·obtain rfl:=Option.some.inj h;exact Qg
 ·obtain rfl:=Option.some.inj h;exact Qh
 ·obtain rfl:=Option.some.inj h;exact Qi
 ·obtain rfl:=Option.some.inj h;exact Qj
 ·obtain rfl:=Option.some.inj h;exact NY
 ·obtain rfl:=Option.some.inj h;exact NZ
 ·obtain rfl:=Option.some.inj h;exact N0
 ·obtain rfl:=Option.some.inj h;exact N1
 ·obtain rfl:=Option.some.inj h;exact N2
 ·obtain rfl:=Option.some.inj h;exact N3
 ·obtain rfl:=Option.some.inj h;exact N4
 ·obtain rfl:=Option.some.inj h;exact N5
 ·obtain rfl:=Option.some.inj h;exact N6
 ·obtain rfl:=Option.some.inj h;exact N7
 ·obtain rfl:=Option.some.inj h;exact N8
 ·obtain rfl:=Option.some.inj h;exact N9
 ·obtain rfl:=Option.some.inj h;exact Oa
 ·obtain rfl:=Option.some.inj h;exact Ob
 ·obtain rfl:=Option.some.inj h;exact Oc
 ·obtain rfl:=Option.some.inj h;exact Od
 ·obtain rfl:=Option.some.inj h;exact Oe
 ·obtain rfl:=Option.some.inj h;exact Of
 ·obtain rfl:=Option.some.inj h;exact Og
 ·obtain rfl:=Option.some.inj h;exact Oh
 ·obtain rfl:=Option.some.inj h;exact Oi
 ·obtain rfl:=Option.some.inj h;exact Oj
 ·obtain rfl:=Option.some.inj h;exact Ok
 ·obtain rfl:=Option.some.inj h;exact Ol
 ·obtain rfl:=Option.some.inj h;exact Om
 ·obtain rfl:=Option.some.inj h;exact On
 ·obtain rfl:=Option.some.inj h;exact Oo
 ·obtain rfl:=Option.some.inj h;exact Oq
 ·obtain rfl:=Option.some.inj h;exact Ot
 ·obtain rfl:=Option.some.inj h;exact Ou
 ·obtain rfl:=Option.some.inj h;exact Ov
 ·obtain rfl:=Option.some.inj h;exact Ow
 ·obtain rfl:=Option.some.inj h;exact Ox
 ·obtain rfl:=Option.some.inj h;exact Oy
 ·obtain rfl:=Option.some.inj h;exact Oz
 ·obtain rfl:=Option.some.inj h;exact OA
 ·obtain rfl:=Option.some.inj h;exact OB
 ·obtain rfl:=Option.some.inj h;exact OC
 ·obtain rfl:=Option.some.inj h;exact OD
 ·obtain rfl:=Option.some.inj h;exact OE
 ·obtain rfl:=Option.some.inj h;exact OF
 ·obtain rfl:=Option.some.inj h;exact OG
 ·obtain rfl:=Option.some.inj h;exact OH
 ·obtain rfl:=Option.some.inj h;exact OI
 ·obtain rfl:=Option.some.inj h;exact OJ
 ·obtain rfl:=Option.some.inj h;exact OK
 ·obtain rfl:=Option.some.inj h;exact OL
 ·obtain rfl:=Option.some.inj h;exact OM
 ·obtain rfl:=Option.some.inj h;exact ON
 ·obtain rfl:=Option.some.inj h;exact OO
 ·obtain rfl:=Option.some.inj h;exact OP
 ·obtain rfl:=Option.some.inj h;exact OQ
 ·obtain rfl:=Option.some.inj h;exact OR
 ·obtain rfl:=Option.some.inj h;exact OS
 ·obtain rfl:=Option.some.inj h;exact OT
 ·obtain rfl:=Option.some.inj h;exact OU
 ·obtain rfl:=Option.some.inj h;exact OV
 ·obtain rfl:=Option.some.inj h;exact OW
 ·obtain rfl:=Option.some.inj h;exact OX
 ·obtain rfl:=Option.some.inj h;exact OY
 ·obtain rfl:=Option.some.inj h;exact OZ
 ·obtain rfl:=Option.some.inj h;exact O0
 ·obtain rfl:=Option.some.inj h;exact O1
 ·obtain rfl:=Option.some.inj h;exact O2
 ·obtain rfl:=Option.some.inj h;exact O3
 ·obtain rfl:=Option.some.inj h;exact O4
 ·obtain rfl:=Option.some.inj h;exact O5
 ·obtain rfl:=Option.some.inj h;exact O6
 ·obtain rfl:=Option.some.inj h;exact O7
 ·obtain rfl:=Option.some.inj h;exact O8
 ·obtain rfl:=Option.some.inj h;exact O9
 ·obtain rfl:=Option.some.inj h;exact Pa
 ·obtain rfl:=Option.some.inj h;exact Pb
 ·obtain rfl:=Option.some.inj h;exact Pc
 ·obtain rfl:=Option.some.inj h;exact Pd
 ·obtain rfl:=Option.some.inj h;exact Pe
 ·cases h
theorem Fx:dE Tryz.prog 63:=⟨Tryz.f63,Tryz.func63,by kernel_rfl,by kernel_rfl⟩
theorem Fy:dE Tryz.prog 95:=⟨Tryz.f95,Tryz.func95,by kernel_rfl,by kernel_rfl⟩
theorem Rk:eb Tryz.prog Ω0:=by
 refine ⟨fun f g n h=>?_,fun f y h _=>?_,fun f ys x h hy hp=>?_,fun f ys t h _=>?_⟩
 ·simp only [Ω0] at h
  split at h
  ·exact (wP h).elim
  ·exact (DN h).elim
  ·exact NX h
  ·cases h
 ·simp only [Ω0] at h
  split at h
  ·exact (Ad h).elim
  ·exact (GF h).elim
  ·exact (HA h).elim
  ·cases h
 ·simp only [Ω0] at h
  split at h
  ·exact B9 Fx Tryz.strings_IndexByte h
  ·exact J2 Fy Tryz.strconv_Atoi h
  ·exact (GG h hy).elim
  ·cases h
 ·simp only [Ω0] at h
  split at h
  ·exact (zU h).elim
  ·exact (Fw h).elim
  ·exact (EH h).elim
  ·cases h
theorem sound:eA Tryz.prog (call G Ω0):=Hm Rj fun B=>@Rk B
end Go.Proofs.YtphgedfhcncobaaGreatDoor.A
