/- Each function and its abstract code, made by program. -/
import Derived.Test.YtkkkkondjclcnaaGreatAbsJ
import Derived.Test.YtkkkkondjclcnaaGreatCode
import Derived.Test.YtkkkkondjclcnaaGreatProg
import Derived.Test.YtkkkkondjclcnaaGreatOrcOK
import Derived.Test.YtkkkkondjclcnaaGreatRep
import Derived.Test.YtkkkkondjclcnaaGreatGrow
set_option maxRecDepth 100000
set_option linter.unusedSectionVars false
set_option linter.unusedVariables false
set_option linter.unusedSimpArgs false
namespace Go.Proofs.YtkkkkondjclcnaaGreat.A
open Go Go.Proofs
variable [aY]
theorem acz:aN Tryz.prog 6 c6=true:=by kernel_rfl
theorem acA:aN Tryz.prog 7 c7=true:=by kernel_rfl
theorem acB:aN Tryz.prog 8 c8=true:=by kernel_rfl
theorem acC:aN Tryz.prog 9 c9=true:=by kernel_rfl
theorem Z3:aN Tryz.prog 16 c16=true:=by kernel_rfl
theorem Z4:aN Tryz.prog 28 So=true:=by kernel_rfl
theorem Z5:aN Tryz.prog 29 Sq=true:=by kernel_rfl
theorem Z6:aN Tryz.prog 33 c33=true:=by kernel_rfl
theorem Z7:aN Tryz.prog 34 L9=true:=by kernel_rfl
theorem Z8:aN Tryz.prog 35 Sr=true:=by kernel_rfl
theorem Z9:aN Tryz.prog 36 Ss=true:=by kernel_rfl
theorem aaa:aN Tryz.prog 37 Qr=true:=by kernel_rfl
theorem aab:aN Tryz.prog 38 c38=true:=by kernel_rfl
theorem aac:aN Tryz.prog 39 c39=true:=by kernel_rfl
theorem aad:aN Tryz.prog 40 Su=true:=by kernel_rfl
theorem aae:aN Tryz.prog 41 c41=true:=by kernel_rfl
theorem aaf:aN Tryz.prog 42 CY=true:=by kernel_rfl
theorem aag:aN Tryz.prog 43 Sv=true:=by kernel_rfl
theorem aah:aN Tryz.prog 44 Sw=true:=by kernel_rfl
theorem aai:aN Tryz.prog 45 Sx=true:=by kernel_rfl
theorem aaj:aN Tryz.prog 46 Qv=true:=by kernel_rfl
theorem aak:aN Tryz.prog 61 c61=true:=by kernel_rfl
theorem aal:aN Tryz.prog 62 c62=true:=by kernel_rfl
theorem aam:aN Tryz.prog 63 c63=true:=by kernel_rfl
theorem aan:aN Tryz.prog 75 Qw=true:=by kernel_rfl
theorem aao:aN Tryz.prog 81 c81=true:=by kernel_rfl
theorem aap:aN Tryz.prog 82 c82=true:=by kernel_rfl
theorem aaq:aN Tryz.prog 83 c83=true:=by kernel_rfl
theorem aar:aN Tryz.prog 84 c84=true:=by kernel_rfl
theorem aas:aN Tryz.prog 85 c85=true:=by kernel_rfl
theorem aat:aN Tryz.prog 86 c86=true:=by kernel_rfl
theorem aau:aN Tryz.prog 87 c87=true:=by kernel_rfl
theorem aav:aN Tryz.prog 88 Sy=true:=by kernel_rfl
theorem aaw:aN Tryz.prog 89 Sz=true:=by kernel_rfl
theorem aax:aN Tryz.prog 90 SA=true:=by kernel_rfl
theorem aay:aN Tryz.prog 91 SB=true:=by kernel_rfl
theorem aaz:aN Tryz.prog 92 SC=true:=by kernel_rfl
theorem aaA:aN Tryz.prog 93 SD=true:=by kernel_rfl
theorem aaB:aN Tryz.prog 94 SE=true:=by kernel_rfl
theorem aaC:aN Tryz.prog 95 SF=true:=by kernel_rfl
theorem aaD:aN Tryz.prog 96 SG=true:=by kernel_rfl
theorem aaE:aN Tryz.prog 97 SH=true:=by kernel_rfl
theorem aaF:aN Tryz.prog 98 SI=true:=by kernel_rfl
theorem aaG:aN Tryz.prog 99 c99=true:=by kernel_rfl
theorem Wl:aN Tryz.prog 100 Ob=true:=by kernel_rfl
theorem Wm:aN Tryz.prog 101 Oc=true:=by kernel_rfl
theorem Wn:aN Tryz.prog 102 Od=true:=by kernel_rfl
theorem Wo:aN Tryz.prog 103 Oe=true:=by kernel_rfl
theorem Wp:aN Tryz.prog 104 Of=true:=by kernel_rfl
theorem Wq:aN Tryz.prog 105 Og=true:=by kernel_rfl
theorem Wr:aN Tryz.prog 106 Oh=true:=by kernel_rfl
theorem Ws:aN Tryz.prog 107 Oi=true:=by kernel_rfl
theorem Wt:aN Tryz.prog 108 K3=true:=by kernel_rfl
theorem Wu:aN Tryz.prog 109 Oj=true:=by kernel_rfl
theorem Wv:aN Tryz.prog 110 Ok=true:=by kernel_rfl
theorem Ww:aN Tryz.prog 111 Ol=true:=by kernel_rfl
theorem Wx:aN Tryz.prog 112 Om=true:=by kernel_rfl
theorem Wy:aN Tryz.prog 113 Th=true:=by kernel_rfl
theorem Wz:aN Tryz.prog 119 On=true:=by kernel_rfl
theorem WA:aN Tryz.prog 122 Oo=true:=by kernel_rfl
theorem WB:aN Tryz.prog 123 Oq=true:=by kernel_rfl
theorem WC:aN Tryz.prog 126 Ot=true:=by kernel_rfl
theorem WD:aN Tryz.prog 127 Ou=true:=by kernel_rfl
theorem WE:aN Tryz.prog 128 Ov=true:=by kernel_rfl
theorem WG:aN Tryz.prog 129 Ow=true:=by kernel_rfl
theorem WH:aN Tryz.prog 130 Ox=true:=by kernel_rfl
theorem WI:aN Tryz.prog 131 Oy=true:=by kernel_rfl
theorem WJ:aN Tryz.prog 132 Oz=true:=by kernel_rfl
theorem WK:aN Tryz.prog 133 OA=true:=by kernel_rfl
theorem WL:aN Tryz.prog 134 OB=true:=by kernel_rfl
theorem WM:aN Tryz.prog 135 OC=true:=by kernel_rfl
theorem WN:aN Tryz.prog 136 OD=true:=by kernel_rfl
theorem WO:aN Tryz.prog 137 OE=true:=by kernel_rfl
theorem WQ:aN Tryz.prog 138 OF=true:=by kernel_rfl
theorem WR:aN Tryz.prog 139 OG=true:=by kernel_rfl
theorem WS:aN Tryz.prog 140 OH=true:=by kernel_rfl
theorem WT:aN Tryz.prog 142 OI=true:=by kernel_rfl
theorem WU:aN Tryz.prog 143 OJ=true:=by kernel_rfl
theorem WV:aN Tryz.prog 144 OK=true:=by kernel_rfl
theorem WW:aN Tryz.prog 145 OL=true:=by kernel_rfl
theorem WX:aN Tryz.prog 148 OM=true:=by kernel_rfl
theorem WY:aN Tryz.prog 149 ON=true:=by kernel_rfl
theorem WZ:aN Tryz.prog 150 OO=true:=by kernel_rfl
theorem W3:aN Tryz.prog 152 OP=true:=by kernel_rfl
theorem W5:aN Tryz.prog 153 OQ=true:=by kernel_rfl
theorem W6:aN Tryz.prog 154 OR=true:=by kernel_rfl
theorem W7:aN Tryz.prog 156 OS=true:=by kernel_rfl
theorem W8:aN Tryz.prog 157 OT=true:=by kernel_rfl
theorem W9:aN Tryz.prog 158 OU=true:=by kernel_rfl
theorem Xa:aN Tryz.prog 159 OV=true:=by kernel_rfl
theorem Xb:aN Tryz.prog 161 OW=true:=by kernel_rfl
theorem Xc:aN Tryz.prog 162 OX=true:=by kernel_rfl
theorem Xd:aN Tryz.prog 163 K4=true:=by kernel_rfl
theorem Xe:aN Tryz.prog 164 K5=true:=by kernel_rfl
theorem Xf:aN Tryz.prog 165 OY=true:=by kernel_rfl
theorem Xg:aN Tryz.prog 166 OZ=true:=by kernel_rfl
theorem Xh:aN Tryz.prog 167 O0=true:=by kernel_rfl
theorem Xi:aN Tryz.prog 170 O1=true:=by kernel_rfl
theorem Xj:aN Tryz.prog 171 O2=true:=by kernel_rfl
theorem Xk:aN Tryz.prog 172 O3=true:=by kernel_rfl
theorem Xl:aN Tryz.prog 173 O4=true:=by kernel_rfl
theorem Xm:aN Tryz.prog 174 O5=true:=by kernel_rfl
theorem Xn:aN Tryz.prog 175 O6=true:=by kernel_rfl
theorem Xo:aN Tryz.prog 176 O7=true:=by kernel_rfl
theorem tab:u6 Tryz.prog G:=by
 intro f fn h
 unfold G at h
 split at h
 ·obtain rfl:=Option.some.inj h;exact acz
 ·obtain rfl:=Option.some.inj h;exact acA
 ·obtain rfl:=Option.some.inj h;exact acB
 ·obtain rfl:=Option.some.inj h;exact acC
 ·obtain rfl:=Option.some.inj h;exact Z3
 ·obtain rfl:=Option.some.inj h;exact Z4
 ·obtain rfl:=Option.some.inj h;exact Z5
 ·obtain rfl:=Option.some.inj h;exact Z6
 ·obtain rfl:=Option.some.inj h;exact Z7
 ·obtain rfl:=Option.some.inj h;exact Z8
 ·obtain rfl:=Option.some.inj h;exact Z9
 ·obtain rfl:=Option.some.inj h;exact aaa
 ·obtain rfl:=Option.some.inj h;exact aab
 ·obtain rfl:=Option.some.inj h;exact aac
 ·obtain rfl:=Option.some.inj h;exact aad
 ·obtain rfl:=Option.some.inj h;exact aae
 ·obtain rfl:=Option.some.inj h;exact aaf
 ·obtain rfl:=Option.some.inj h;exact aag
 ·obtain rfl:=Option.some.inj h;exact aah
 ·obtain rfl:=Option.some.inj h;exact aai
 ·obtain rfl:=Option.some.inj h;exact aaj
 ·obtain rfl:=Option.some.inj h;exact aak
 ·obtain rfl:=Option.some.inj h;exact aal
 ·obtain rfl:=Option.some.inj h;exact aam
 ·obtain rfl:=Option.some.inj h;exact aan
 ·obtain rfl:=Option.some.inj h;exact aao
 ·obtain rfl:=Option.some.inj h;exact aap
 ·obtain rfl:=Option.some.inj h;exact aaq
 ·obtain rfl:=Option.some.inj h;exact aar
 ·obtain rfl:=Option.some.inj h;exact aas
 ·obtain rfl:=Option.some.inj h;exact aat
 ·obtain rfl:=Option.some.inj h;exact aau
 ·obtain rfl:=Option.some.inj h;exact aav
 ·obtain rfl:=Option.some.inj h;exact aaw
 ·obtain rfl:=Option.some.inj h;exact aax
 ·obtain rfl:=Option.some.inj h;exact aay
 ·obtain rfl:=Option.some.inj h;exact aaz
 ·obtain rfl:=Option.some.inj h;exact aaA
 ·obtain rfl:=Option.some.inj h;exact aaB
 ·obtain rfl:=Option.some.inj h;exact aaC
 ·obtain rfl:=Option.some.inj h;exact aaD
 ·obtain rfl:=Option.some.inj h;exact aaE
 ·obtain rfl:=Option.some.inj h;exact aaF
 ·obtain rfl:=Option.some.inj h;exact aaG
 ·obtain rfl:=Option.some.inj h;exact Wl
 ·obtain rfl:=Option.some.inj h;exact Wm
 ·obtain rfl:=Option.some.inj h;exact Wn
 ·obtain rfl:=Option.some.inj h;exact Wo
 ·obtain rfl:=Option.some.inj h;exact Wp
 ·obtain rfl:=Option.some.inj h;exact Wq
 ·obtain rfl:=Option.some.inj h;exact Wr
 ·obtain rfl:=Option.some.inj h;exact Ws
 ·obtain rfl:=Option.some.inj h;exact Wt
 ·obtain rfl:=Option.some.inj h;exact Wu
 ·obtain rfl:=Option.some.inj h;exact Wv
 ·obtain rfl:=Option.some.inj h;exact Ww
 ·obtain rfl:=Option.some.inj h;exact Wx
 ·obtain rfl:=Option.some.inj h;exact Wy
 ·obtain rfl:=Option.some.inj h;exact Wz
 ·obtain rfl:=Option.some.inj h;exact WA
 ·obtain rfl:=Option.some.inj h;exact WB
 ·obtain rfl:=Option.some.inj h;exact WC
 ·obtain rfl:=Option.some.inj h;exact WD
 ·obtain rfl:=Option.some.inj h;exact WE
 ·obtain rfl:=Option.some.inj h;exact WG
 ·obtain rfl:=Option.some.inj h;exact WH
 ·obtain rfl:=Option.some.inj h;exact WI
 ·obtain rfl:=Option.some.inj h;exact WJ
 ·obtain rfl:=Option.some.inj h;exact WK
 ·obtain rfl:=Option.some.inj h;exact WL
 ·obtain rfl:=Option.some.inj h;exact WM
 ·obtain rfl:=Option.some.inj h;exact WN
 ·obtain rfl:=Option.some.inj h;exact WO
 ·obtain rfl:=Option.some.inj h;exact WQ
 ·obtain rfl:=Option.some.inj h;exact WR
 ·obtain rfl:=Option.some.inj h;exact WS
 ·obtain rfl:=Option.some.inj h;exact WT
 ·obtain rfl:=Option.some.inj h;exact WU
 ·obtain rfl:=Option.some.inj h;exact WV
 ·obtain rfl:=Option.some.inj h;exact WW
 ·obtain rfl:=Option.some.inj h;exact WX
 ·obtain rfl:=Option.some.inj h;exact WY
 ·obtain rfl:=Option.some.inj h;exact WZ
 ·obtain rfl:=Option.some.inj h;exact W3
 ·obtain rfl:=Option.some.inj h;exact W5
 ·obtain rfl:=Option.some.inj h;exact W6
 ·obtain rfl:=Option.some.inj h;exact W7
 ·obtain rfl:=Option.some.inj h;exact W8
 ·obtain rfl:=Option.some.inj h;exact W9
 ·obtain rfl:=Option.some.inj h;exact Xa
 ·obtain rfl:=Option.some.inj h;exact Xb
 ·obtain rfl:=Option.some.inj h;exact Xc
 ·obtain rfl:=Option.some.inj h;exact Xd
 ·obtain rfl:=Option.some.inj h;exact Xe
 ·obtain rfl:=Option.some.inj h;exact Xf
 ·obtain rfl:=Option.some.inj h;exact Xg
 ·obtain rfl:=Option.some.inj h;exact Xh
 ·obtain rfl:=Option.some.inj h;exact Xi
 ·obtain rfl:=Option.some.inj h;exact Xj
 ·obtain rfl:=Option.some.inj h;exact Xk
 ·obtain rfl:=Option.some.inj h;exact Xl
 ·obtain rfl:=Option.some.inj h;exact Xm
 ·obtain rfl:=Option.some.inj h;exact Xn
 ·obtain rfl:=Option.some.inj h;exact Xo
 ·cases h
theorem acD:eX Tryz.prog Ω1:=by
 refine ⟨fun f g n h=>?_,fun f y h _=>?_,fun f ys x h hy hp=>?_,fun f ys t h hy=>?_,fun f t h=>?_,fun f c es ns h hn=>?_⟩
 ·simp only [Ω1] at h
  split at h
  ·exact (JM h).elim
  ·exact (CU h).elim
  ·exact (GP h).elim
  ·exact (GS h).elim
  ·exact (Fh h).elim
  ·cases h
 ·simp only [Ω1] at h
  split at h
  ·exact (Qi h).elim
  ·exact (GW h).elim
  ·exact (L5 h).elim
  ·exact (L7 h).elim
  ·exact (JL h).elim
  ·cases h
 ·simp only [Ω1] at h
  split at h
  ·exact (L6 h hy).elim
  ·exact KP h
  ·exact Q7 h
  ·exact LZ h
  ·exact (IU h hp).elim
  ·cases h
 ·simp only [Ω1] at h
  split at h
  ·exact (JO h).elim
  ·exact (Fk h).elim
  ·exact (JP h).elim
  ·exact (JQ h).elim
  ·exact KQ h
  ·cases h
 ·simp only [Ω1] at h
  split at h
  ·exact (JN h).elim
  ·exact (CV h).elim
  ·exact (GQ h).elim
  ·exact (GU h).elim
  ·exact (Fi h).elim
  ·cases h
 ·simp only [Ω1] at h
  split at h
  ·exact Wj h hn
  ·exact (CW h).elim
  ·exact (GR h).elim
  ·exact (GV h).elim
  ·exact (Fj h).elim
  ·cases h
theorem D4:gN Tryz.prog (call G Ω1):=KN tab fun B=>@acD B
end Go.Proofs.YtkkkkondjclcnaaGreat.A
