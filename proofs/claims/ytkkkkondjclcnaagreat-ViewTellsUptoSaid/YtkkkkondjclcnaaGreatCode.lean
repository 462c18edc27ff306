/- The abstract code of the functions, made by program. -/
import Derived.Test.YtkkkkondjclcnaaGreatAbsO
set_option linter.all false
set_option maxRecDepth 100000
namespace Go.Proofs.YtkkkkondjclcnaaGreat.A
open Go
abbrev gp(d:Nat)(x:oV):cN:=⟨some d,x,none,false⟩
abbrev gg(d:Nat)(x:oV)(j:Nat)(b:Bool):cN:=⟨some d,x,some (j,b),false⟩
abbrev gz(d:Nat)(x:oV):cN:=⟨some d,x,none,true⟩
abbrev gS(n:Nat)(x y:ba):cN:=⟨none,.st n x y,none,false⟩
abbrev gM(d:Nat)(x:ba):cN:=gp d (.mv x)
abbrev gQ(d:Nat)(x:ba):cN:=gp d (.ld none x)
abbrev gF(d n:Nat)(x:ba):cN:=gp d (.fa n x)
abbrev gA(d:Nat)(x:ba):cN:=gp d (.as x)
abbrev gB(d:Nat)(o:BinOp)(x y:ba):cN:=gp d (.bo o false x y)
abbrev gL(g:cN)(vw nk:List Nat):cp:=⟨g,true,vw,[],false,[],nk,[]⟩
abbrev gV(g:cN)(vw vb nk:List Nat):cp:=⟨g,true,vw,vb,false,[],nk,[]⟩
abbrev gH(g:cN):cp:=⟨g,false,[],[],false,[],[],[]⟩
abbrev gU(g:cN)(vw:List Nat):cp:=gL g vw []
abbrev gX(g:cN)(vw vb:List Nat):cp:=gV g vw vb []
abbrev gC(d:Nat)(n:Nat)(x:ba):cN:=gp d (.ld (some n) x)
abbrev hC(d:Nat)(n:Nat)(x:ba)(j:Nat)(b:Bool):cN:=gg d (.ld (some n) x) j b
abbrev ga(d:Nat)(f:Nat)(xs:List ba):cN:=gp d (.ca 0 f xs)
abbrev ha(d:Nat)(f:Nat)(xs:List ba)(j:Nat)(b:Bool):cN:=gg d (.ca 0 f xs) j b
abbrev gl(d:Nat)(x:ba):cN:=gp d (.ln false x)
abbrev hl(d:Nat)(x:ba)(j:Nat)(b:Bool):cN:=gg d (.ln false x) j b
abbrev gi(d:Nat)(n:Nat)(x y:ba):cN:=gp d (.ia n none x y)
abbrev hi(d:Nat)(n:Nat)(x y:ba)(j:Nat)(b:Bool):cN:=gg d (.ia n none x y) j b
abbrev gn(d:Nat)(x:ba):cN:=gp d (.no x)
abbrev hn(d:Nat)(x:ba)(j:Nat)(b:Bool):cN:=gg d (.no x) j b
abbrev gk(d:Nat)(x y z:ba):cN:=gp d (.pk x y z)
abbrev hk(d:Nat)(x y z:ba)(j:Nat)(b:Bool):cN:=gg d (.pk x y z) j b
abbrev ge(d:Nat)(x:ba)(i:Nat):cN:=gp d (.ex x i)
abbrev he(d:Nat)(x:ba)(i:Nat)(j:Nat)(b:Bool):cN:=gg d (.ex x i) j b
abbrev hM(d:Nat)(x:ba)(j:Nat)(b:Bool):cN:=gg d (.mv x) j b
abbrev hQ(d:Nat)(x:ba)(j:Nat)(b:Bool):cN:=gg d (.ld none x) j b
abbrev hF(d:Nat)(n:Nat)(x:ba)(j:Nat)(b:Bool):cN:=gg d (.fa n x) j b
abbrev hB(d:Nat)(o:BinOp)(x y:ba)(j:Nat)(b:Bool):cN:=gg d (.bo o false x y) j b
abbrev rG:=AC.rg []
instance (n:Nat):OfNat ba n:=⟨.t n⟩
abbrev kI(n:Int):ba:=.c (.i .i64 n)
def ai9:AC:=(.sq (.bl 1 (.sq (rG [gC 73 8 5,gM 74 1,gM 75 2,gM 76 19,ga 77 23 [73,74,75,76]] [1,2,3,4,5,11,12,13,14,15,16,17,18,19,77] [5]) (.ite 77 (rG [gM 78 17,gM 79 3,gM 80 19,gi 81 1 79 80,gQ 82 81,gz 83 (.bs 25 1 [82]),gp 84 (.ap 25 1 24 78 83),gA 17 84] [1,2,3,4,5,11,12,13,14,15,16,17,18,19] [5]) (rG [gM 85 17,gz 86 (.bs 25 1 [(.c (.l 3 []))]),gp 87 (.ap 25 1 24 85 86),gA 17 87] [1,2,3,4,5,11,12,13,14,15,16,17,18,19] [5])))) (rG [gM 71 19,gB 72 .add 71 (kI 1),gA 19 72] [1,2,3,4,5,11,12,13,14,15,16,17,18,19] [5]))
def aja:AC:=.kp [1,2,3,4,5,11,12,13,14,15,16,17,18,19] [5] ai9
def ajb:AC:=(.sq (.sq (rG [gM 63 19,gM 64 3,gl 65 64,gB 66 .lss 63 65,gM 67 66,hM 68 15 67 true,hB 69 .eql 68 (kI 0) 67 true,gk 70 67 69 (.c (.b false))] [1,2,3,4,5,11,12,13,14,15,16,17,18,19,70] [5]) (.ite 70 .sk (.ex 0))) aja)
def XA:aY:=⟨[1,2,3,4,5,11,12,13,14,15,16,17,18,19],[5],ajb⟩
def XB:AC:=(.sq (rG [ga 95 25 [],gM 96 95,hM 97 12 96 true,hM 98 15 96 true,hB 99 .eql 97 98 96 true,gk 100 96 99 (.c (.b false)),gM 101 100,hM 102 11 101 true,hM 103 17 101 true,ha 104 26 [102,103] 101 true,gk 105 101 104 (.c (.b false)),gM 106 105,hM 107 14 106 true,hM 108 16 106 true,hB 109 .eql 107 108 106 true,gk 110 106 109 (.c (.b false)),gM 111 110,hM 112 13 111 true,hM 113 18 111 true,ha 114 27 [112,113] 111 true,gk 115 111 114 (.c (.b false)),gA 10 115] [10] []) .rt)
def ajc:AC:=.kp [11,12,13,14,15,16,17,18] [] XB
def ajd:AC:=(.sq (.sq (rG [gM 88 16,gB 89 .eql 88 (kI 0)] [1,2,4,5,11,12,13,14,15,16,17,18,89] [5]) (.ite 89 (rG [gC 90 8 5,gM 91 1,gM 92 2,gM 93 4,ga 94 24 [90,91,92,93],gA 18 94] [11,12,13,14,15,16,17,18] []) .sk)) ajc)
def aje:AC:=.kp [1,2,4,5,11,12,13,14,15,16,17,18] [5] ajd
def XC:AC:=(.sq (rG [gA 17 (.c .n)] [1,2,3,4,5,11,12,13,14,15,16,17] [5]) (.sq (.rg [.own 17 25] [gA 18 (.c (.l 125 []))] [1,2,3,4,5,11,12,13,14,15,16,17,18] [5]) (.sq (.sq (rG [gA 19 (kI 0)] [1,2,3,4,5,11,12,13,14,15,16,17,18,19] [5]) (.bl 0 XA.lp)) aje)))
def ajf:AC:=.kp [1,2,3,4,5,11,12,13,14,15,16] [5] XC
def XD:AC:=(.sq (.sq (rG [gM 58 16,gB 59 .eql 58 (kI 0)] [1,2,3,4,5,11,12,13,14,15,16,59] [5]) (.ite 59 (rG [gC 60 8 5,gM 61 4,ga 62 22 [60,61],gA 16 62] [1,2,3,4,5,11,12,13,14,15,16] [5]) .sk)) ajf)
def ajg:AC:=.kp [1,2,3,4,5,11,12,13,14,15,16] [5] XD
def XE:AC:=(.sq (rG [gM 47 15,gA 16 47] [1,2,3,4,5,11,12,13,14,15,16] [5]) (.sq (.sq (rG [gM 48 15,gB 49 .eql 48 (kI 0),gM 50 49,hM 51 3 50 true,hl 52 51 50 true,hF 53 3 5 50 true,hQ 54 53 50 true,hl 55 54 50 true,hB 56 .neq 52 55 50 true,gk 57 50 56 (.c (.b false))] [1,2,3,4,5,11,12,13,14,15,16,57] [5]) (.ite 57 (rG [gA 15 (kI 1)] [1,2,3,4,5,11,12,13,14,15,16] [5]) .sk)) ajg))
def ajh:AC:=.kp [1,2,3,4,5,11,12,13,14,15] [5] XE
def c4:bE:=⟨(.sq (rG [gp 5 (.bx 0),gA 10 (.c (.b false))] [1,2,3,4,5] [5]) (.sq (rG [gC 21 8 5,gM 22 1,gM 23 2,gM 24 3,ga 25 19 [21,22,23,24],gM 20 25,ge 26 20 0,ge 27 20 1,gA 11 26,gA 12 27] [1,2,3,4,5,11,12] [5]) (.sq (rG [gC 29 8 5,gM 30 1,gM 31 2,gM 32 4,ga 33 20 [29,30,31,32],gM 28 33,ge 34 28 0,ge 35 28 1,gA 13 34,gA 14 35] [1,2,3,4,5,11,12,13,14] [5]) (.sq (rG [gC 36 8 5,ga 37 10 [36],gA 15 37] [1,2,3,4,5,11,12,13,14,15] [5]) (.sq (.sq (rG [gM 38 15,gB 39 .eql 38 (kI 0),gM 40 39,hF 41 0 5 40 true,hC 42 2 41 40 true,hM 43 1 40 true,ha 44 21 [42,43] 40 true,hn 45 44 40 true,gk 46 40 45 (.c (.b false))] [1,2,3,4,5,11,12,13,14,15,46] [5]) (.ite 46 (rG [gA 15 (kI 5)] [1,2,3,4,5,11,12,13,14,15] [5]) .sk)) ajh))))),[.t 10]⟩
def adM:AC:=(.sq (.bl 1 (.sq (.dg [] [] [gU (gF 61 0 1) [1],gX (gC 62 2 61) [61] [1],gU (gF 63 2 1) [1],gX (gQ 64 63) [63] [1],gU (gM 65 4) [4],gX (gi 66 1 64 65) [64,65] [1],gX (gQ 67 66) [66] [1],gH (ga 68 21 [62,67]),gH (gn 69 68)] [1,4,69] [1]) (.ite 69 (.sq (rG [gA 2 (kI 5)] [2] []) .rt) .sk))) (rG [gM 59 4,gB 60 .add 59 (kI 1),gA 4 60] [1,4] [1]))
def adN:AC:=.kp [1,4] [1] adM
def adO:AC:=(.sq (.sq (rG [gM 54 4,gF 55 2 1,gQ 56 55,gl 57 56,gB 58 .lss 54 57] [1,4,58] [1]) (.ite 58 .sk (.ex 0))) adN)
def Uo:aY:=⟨[1,4],[1],adO⟩
def adP:AC:=(.sq (.bl 3 (rG [gM 84 5,gF 85 5 1,gQ 86 85,gM 87 6,gi 88 3 86 87,gF 89 1 88,gC 90 2 89,gz 91 (.bs 81 2 [90]),gp 92 (.ap 81 2 48 84 91),gA 5 92] [1,5,6] [1])) (rG [gM 82 6,gB 83 .add 82 (kI 1),gA 6 83] [1,5,6] [1]))
def adQ:AC:=.kp [1,5,6] [1] adP
def adR:AC:=(.sq (.sq (rG [gM 77 6,gF 78 5 1,gQ 79 78,gl 80 79,gB 81 .lss 77 80] [1,5,6,81] [1]) (.ite 81 .sk (.ex 2))) adQ)
def Up:aY:=⟨[1,5,6],[1],adR⟩
def adS:AC:=(.sq (.bl 5 (.sq (.dg [] [] [gU (gF 99 0 1) [1],gX (gC 100 2 99) [99] [1],gU (gM 101 5) [5],gU (gM 102 7) [7],gU (gi 103 2 101 102) [101,102,5],gU (gC 104 2 103) [103,5],gH (ga 105 48 [100,104]),gH (gA 8 105)] [1,5,7,8] [1]) (.sq (rG [gM 106 8,gB 107 .neq 106 (kI 0)] [1,5,7,8,107] [1]) (.ite 107 (.sq (rG [gM 108 8,gA 2 108] [2] []) .rt) .sk)))) (rG [gM 97 7,gB 98 .add 97 (kI 1),gA 7 98] [1,5,7] [1]))
def adT:AC:=.kp [1,5,7] [1] adS
def adU:AC:=(.sq (.sq (rG [gM 93 7,gM 94 5,gl 95 94,gB 96 .lss 93 95] [1,5,7,96] [1]) (.ite 96 .sk (.ex 4))) adT)
def Uq:aY:=⟨[1,5,7],[1],adU⟩
def adV:AC:=(.sq (.bl 7 (.sq (rG [gF 116 5 1,gQ 117 116,gM 118 9,gi 119 3 117 118,gC 120 3 119,gp 10 (.al [(.b false),(.l 138 []),(.l 138 [])]),gS 3 10 120] [1,9,10] [1,10]) (.sq (rG [gF 121 0 10,gQ 122 121,gn 123 122,gM 124 123,hF 125 1 10 124 true,hF 126 0 125 124 true,hQ 127 126 124 true,hl 128 127 124 true,hB 129 .gtr 128 (kI 0) 124 true,hM 130 129 124 true,hF 131 1 10 130 false,hF 132 1 131 130 false,hQ 133 132 130 false,hl 134 133 130 false,hB 135 .gtr 134 (kI 0) 130 false,gg 136 (.pk 130 (.c (.b true)) 135) 124 true,gk 137 124 136 (.c (.b false))] [1,9,137] [1]) (.ite 137 (.sq (rG [gA 2 (kI 1)] [2] []) .rt) .sk)))) (rG [gM 114 9,gB 115 .add 114 (kI 1),gA 9 115] [1,9] [1]))
def adW:AC:=.kp [1,9] [1] adV
def adX:AC:=(.sq (.sq (rG [gM 109 9,gF 110 5 1,gQ 111 110,gl 112 111,gB 113 .lss 109 112] [1,9,113] [1]) (.ite 113 .sk (.ex 6))) adW)
def Ur:aY:=⟨[1,9],[1],adX⟩
def XG:AC:=(.sq (.bl 9 (rG [gM 148 11,gF 149 6 1,gQ 150 149,gM 151 12,gi 152 5 150 151,gF 153 1 152,gQ 154 153,ga 155 49 [154,(kI 1)],gB 156 .add 148 155,gA 11 156] [1,11,12] [1])) (rG [gM 146 12,gB 147 .add 146 (kI 1),gA 12 147] [1,11,12] [1]))
def XH:AC:=.kp [1,11,12] [1] XG
def adY:AC:=(.sq (.sq (rG [gM 141 12,gF 142 6 1,gQ 143 142,gl 144 143,gB 145 .lss 141 144] [1,11,12,145] [1]) (.ite 145 .sk (.ex 8))) XH)
def Us:aY:=⟨[1,11,12],[1],adY⟩
def XI:AC:=(.sq (.bl 15 (.sq (.dg [] [] [gU (gF 198 0 14) [14],gX (gQ 199 198) [198] [14],gU (gM 200 16) [16],gX (gi 201 1 199 200) [199,200] [14],gX (gQ 202 201) [201] [14],gU (gF 203 0 14) [14],gX (gQ 204 203) [203] [14],gU (gM 205 15) [15],gX (gi 206 1 204 205) [204,205] [14],gX (gQ 207 206) [206] [14],gH (gB 208 .eql 202 207)] [1,13,14,15,16,208] [1,14]) (.ite 208 (.sq (rG [gA 2 (kI 6)] [2] []) .rt) .sk))) (rG [gM 196 16,gB 197 .add 196 (kI 1),gA 16 197] [1,13,14,15,16] [1,14]))
def XJ:AC:=.kp [1,13,14,15,16] [1,14] XI
def adZ:AC:=(.sq (.sq (rG [gM 193 16,gM 194 15,gB 195 .lss 193 194] [1,13,14,15,16,195] [1,14]) (.ite 195 .sk (.ex 14))) XJ)
def Ut:aY:=⟨[1,13,14,15,16],[1,14],adZ⟩
def XK:AC:=(.sq (rG [gA 16 (kI 0)] [1,13,14,15,16] [1,14]) (.bl 14 Ut.lp))
def XL:AC:=.kp [1,13,14,15] [1,14] XK
def XM:AC:=(.sq (.bl 13 (.sq (.sq (.dg [] [] [gU (gF 182 0 14) [14],gX (gQ 183 182) [182] [14],gU (gM 184 15) [15],gX (gi 185 1 183 184) [183,184] [14],gX (gQ 186 185) [185] [14],gU (gF 187 5 1) [1],gX (gQ 188 187) [187] [1],gX (gl 189 188) [188] [1],gU (gB 190 .sub 189 (kI 1)) [189],gH (ga 191 50 [186,(kI 0),190]),gH (gn 192 191)] [1,13,14,15,192] [1,14]) (.ite 192 (.sq (rG [gA 2 (kI 5)] [2] []) .rt) .sk)) XL)) (rG [gM 180 15,gB 181 .add 180 (kI 1),gA 15 181] [1,13,14,15] [1,14]))
def XN:AC:=.kp [1,13,14,15] [1,14] XM
def ad0:AC:=(.sq (.sq (rG [gM 175 15,gF 176 0 14,gQ 177 176,gl 178 177,gB 179 .lss 175 178] [1,13,14,15,179] [1,14]) (.ite 179 .sk (.ex 12))) XN)
def Uu:aY:=⟨[1,13,14,15],[1,14],ad0⟩
def Qm:AC:=(.sq (rG [gM 222 3,gB 223 .neq 222 (kI 0)] [1,3,13,223] [1]) (.ite 223 (.sq (rG [gM 224 3,gA 2 224] [2] []) .rt) .sk))
def XO:AC:=.kp [1,3,13] [1] Qm
def XQ:AC:=(.sq (rG [gC 209 8 1,gM 210 13,gF 211 1 14,gQ 212 211,ga 213 51 [209,210,212],gA 3 213] [1,3,13,14] [1,14]) (.sq (.sq (rG [gM 214 3,gB 215 .eql 214 (kI 0)] [1,3,13,14,215] [1,14]) (.ite 215 (rG [gF 216 2 14,gC 217 3 216,gF 218 5 1,gQ 219 218,gl 220 219,ga 221 12 [217,220],gA 3 221] [1,3,13] [1]) .sk)) XO))
def XR:AC:=.kp [1,13,14] [1,14] XQ
def XS:AC:=(.sq (.sq (rG [gA 15 (kI 0)] [1,13,14,15] [1,14]) (.bl 12 Uu.lp)) XR)
def XT:AC:=.kp [1,13,14] [1,14] XS
def XU:AC:=(.sq (.bl 11 (.sq (rG [gF 166 6 1,gQ 167 166,gM 168 13,gi 169 5 167 168,gC 170 5 169,gp 14 (.al [(.l 3 []),(.l 92 []),(.i .i64 0),(.i .i64 0),(.l 37 [])]),gS 5 14 170] [1,13,14] [1,14]) (.sq (.sq (rG [gF 171 0 14,gQ 172 171,gl 173 172,gB 174 .gtr 173 (kI 4)] [1,13,14,174] [1,14]) (.ite 174 (.sq (rG [gA 2 (kI 2)] [2] []) .rt) .sk)) XT))) (rG [gM 164 13,gB 165 .add 164 (kI 1),gA 13 165] [1,13] [1]))
def XV:AC:=.kp [1,13] [1] XU
def ad1:AC:=(.sq (.sq (rG [gM 159 13,gF 160 6 1,gQ 161 160,gl 162 161,gB 163 .lss 159 162] [1,13,163] [1]) (.ite 163 .sk (.ex 10))) XV)
def Uv:aY:=⟨[1,13],[1],ad1⟩
def XW:AC:=(.sq (rG [gC 225 8 1,gF 226 6 1,gQ 227 226,gl 228 227,gF 229 7 1,gQ 230 229,ga 231 51 [225,228,230],gA 2 231] [2] []) .rt)
def XX:AC:=.kp [1] [1] XW
def XY:AC:=(.sq (.sq (rG [gA 13 (kI 0)] [1,13] [1]) (.bl 10 Uv.lp)) XX)
def XZ:AC:=.kp [1] [1] XY
def X0:AC:=(.sq (.sq (rG [gM 157 11,gB 158 .gtr 157 (kI 50)] [1,158] [1]) (.ite 158 (.sq (rG [gA 2 (kI 2)] [2] []) .rt) .sk)) XZ)
def X1:AC:=.kp [1,11] [1] X0
def ad2:AC:=(.sq (rG [gF 138 7 1,gQ 139 138,ga 140 49 [139,(kI 1)],gA 11 140] [1,11] [1]) (.sq (.sq (rG [gA 12 (kI 0)] [1,11,12] [1]) (.bl 8 Us.lp)) X1))
def ad3:AC:=.kp [1] [1] ad2
def ad4:AC:=(.sq (.sq (rG [gA 9 (kI 0)] [1,9] [1]) (.bl 6 Ur.lp)) ad3)
def ad5:AC:=.kp [1] [1] ad4
def ad6:AC:=(.sq (.sq (rG [gA 7 (kI 0)] [1,5,7] [1]) (.bl 4 Uq.lp)) ad5)
def ad7:AC:=.kp [1,5] [1] ad6
def ad8:AC:=(.sq (.dg [] [70,73] [gL (gp 70 (.bs 81 2 [])) [] [73],gL (gF 71 3 1) [1] [70,73],gV (gQ 72 71) [71] [1] [70,73],⟨gp 73 (.ap 81 2 48 70 72),true,[70,72],[1],false,[70],[],[]⟩,gL (gF 74 4 1) [1] [70,73],gV (gQ 75 74) [74] [1] [70,73],gH (gp 76 (.ap 81 2 48 73 75)),gH (gA 5 76)] [1,5] [1]) (.sq (.sq (.rg [.own 5 81] [gA 6 (kI 0)] [1,5,6] [1]) (.bl 2 Up.lp)) ad7))
def ad9:AC:=.kp [1] [1] ad8
def aea:AC:=(.sq (.sq (rG [gA 4 (kI 0)] [1,4] [1]) (.bl 0 Uo.lp)) ad9)
def aeb:AC:=.kp [1] [1] aea
def aec:AC:=(.sq (.sq (rG [gF 23 5 1,gQ 24 23,gl 25 24,gB 26 .gtr 25 (kI 16),gM 27 26,hF 28 3 1 27 false,hQ 29 28 27 false,hl 30 29 27 false,hB 31 .gtr 30 (kI 5) 27 false,gp 32 (.pk 27 (.c (.b true)) 31),gM 33 32,hF 34 4 1 33 false,hQ 35 34 33 false,hl 36 35 33 false,hB 37 .gtr 36 (kI 5) 33 false,gp 38 (.pk 33 (.c (.b true)) 37),gM 39 38,hF 40 6 1 39 false,hQ 41 40 39 false,hl 42 41 39 false,hB 43 .gtr 42 (kI 5) 39 false,gp 44 (.pk 39 (.c (.b true)) 43),gM 45 44,hF 46 2 1 45 false,hQ 47 46 45 false,hl 48 47 45 false,hF 49 0 1 45 false,hF 50 0 49 45 false,hQ 51 50 45 false,hB 52 .gtr 48 51 45 false,gp 53 (.pk 45 (.c (.b true)) 52)] [1,53] [1]) (.ite 53 (.sq (rG [gA 2 (kI 2)] [2] []) .rt) .sk)) aeb)
def aed:AC:=.kp [1] [1] aec
def X2:bE:=⟨(.sq (rG [gp 1 (.bx 0),gA 2 (kI 0)] [1] [1]) (.sq (rG [gF 17 0 1,gC 18 2 17,ga 19 47 [18],gA 3 19] [1,3] [1]) (.sq (.sq (rG [gM 20 3,gB 21 .neq 20 (kI 0)] [1,3,21] [1]) (.ite 21 (.sq (rG [gM 22 3,gA 2 22] [2] []) .rt) .sk)) aed))),[.t 2]⟩
def aee:AC:=(.sq (rG [gF 66 0 7,gQ 67 66,gB 68 .eql 67 (kI 2),gM 69 68,hF 70 1 7 69 true,hQ 71 70 69 true,hM 72 1 69 true,hB 73 .sub 72 (kI 1) 69 true,ha 74 50 [71,(kI 0),73] 69 true,hn 75 74 69 true,gk 76 69 75 (.c (.b false))] [1,5,6,76] []) (.ite 76 (.sq (rG [gA 4 (kI 5)] [4] []) .rt) .sk))
def aef:AC:=.kp [1,5,6,7] [7] aee
def aeg:AC:=(.sq (.sq (rG [gF 47 0 7,gQ 48 47,gB 49 .eql 48 (kI 1),gM 50 49,hF 51 1 7 50 true,hQ 52 51 50 true,ha 53 50 [52,(kI (-9999999)),(kI 9999999)] 50 true,hn 54 53 50 true,gk 55 50 54 (.c (.b false)),gM 56 55,hF 57 0 7 56 false,hQ 58 57 56 false,hB 59 .gtr 58 (kI 2) 56 false,hM 60 59 56 false,hF 61 1 7 60 true,hQ 62 61 60 true,hB 63 .neq 62 (kI 0) 60 true,hk 64 60 63 (.c (.b false)) 56 false,gp 65 (.pk 56 (.c (.b true)) 64)] [1,5,6,7,65] [7]) (.ite 65 (.sq (rG [gA 4 (kI 3)] [4] []) .rt) .sk)) aef)
def aeh:AC:=.kp [1,5,6,7] [7] aeg
def aei:AC:=(.sq (.sq (rG [gF 27 0 7,gQ 28 27,gB 29 .leq 28 (kI 2),gM 30 29,hF 31 2 7 30 true,hQ 32 31 30 true,hl 33 32 30 true,hB 34 .neq 33 (kI 0) 30 true,gk 35 30 34 (.c (.b false)),gM 36 35,hF 37 0 7 36 false,hQ 38 37 36 false,hB 39 .gtr 38 (kI 2) 36 false,hM 40 39 36 false,hF 41 2 7 40 true,hQ 42 41 40 true,hl 43 42 40 true,hB 44 .neq 43 (kI 2) 40 true,hk 45 40 44 (.c (.b false)) 36 false,gp 46 (.pk 36 (.c (.b true)) 45)] [1,5,6,7,46] [7]) (.ite 46 (.sq (rG [gA 4 (kI 1)] [4] []) .rt) .sk)) aeh)
def aej:AC:=.kp [1,5,6,7] [7] aei
def aek:AC:=(.sq (.bl 1 (.sq (rG [gM 19 5,gM 20 6,gi 21 3 19 20,gC 22 3 21,gp 7 (.al [(.i .i64 0),(.i .i64 0),(.l 37 [])]),gS 3 7 22] [1,5,6,7] [7]) (.sq (.sq (rG [gF 23 0 7,gQ 24 23,ga 25 50 [24,(kI 1),(kI 7)],gn 26 25] [1,5,6,7,26] [7]) (.ite 26 (.sq (rG [gA 4 (kI 7)] [4] []) .rt) .sk)) aej))) (rG [gM 17 6,gB 18 .add 17 (kI 1),gA 6 18] [1,5,6] []))
def ael:AC:=.kp [1,5,6] [] aek
def aem:AC:=(.sq (.sq (rG [gM 13 6,gM 14 5,gl 15 14,gB 16 .lss 13 15] [1,5,6,16] []) (.ite 16 .sk (.ex 0))) ael)
def Uw:aY:=⟨[1,5,6],[],aem⟩
def aen:AC:=(.sq (rG [gC 11 3 2,ga 12 54 [11],gA 5 12] [1,5] []) (.sq (.sq (rG [gA 6 (kI 0)] [1,5,6] []) (.bl 0 Uw.lp)) (.sq (rG [gA 4 (kI 0)] [4] []) .rt)))
def aeo:AC:=.kp [1,2] [2] aen
def X3:bE:=⟨(.sq (rG [gp 2 (.bx 0),gA 4 (kI 0)] [1,2] [2]) (.sq (.sq (rG [gC 8 3 2,ga 9 53 [8,(kI 15)],gB 10 .gtr 9 (kI 15)] [1,2,10] [2]) (.ite 10 (.sq (rG [gA 4 (kI 2)] [4] []) .rt) .sk)) aeo)),[.t 4]⟩
def aep:AC:=(.sq (.bl 1 (.sq (rG [gF 19 5 1,gQ 20 19,gM 21 4,gi 22 3 20 21,gF 23 0 22,gQ 24 23] [1,2,3,4,24] [1,2,3,1045000,1045001]) (.ite 24 (.dg [] [36] [gL (gF 25 0 3) [3] [36],gV (gQ 26 25) [25] [3,1045000,1045001] [36],gL (gF 27 0 1) [1] [36],gV (gC 28 2 27) [27] [1] [36],gL (gF 29 5 1) [1] [36],gV (gQ 30 29) [29] [1] [36],gL (gM 31 4) [4] [36],gV (gi 32 3 30 31) [30,31] [1] [36],gV (gF 33 1 32) [32] [1] [36],gV (gC 34 2 33) [33] [1] [36],gL (ga 35 55 [28,34]) [28,34] [36],gU (gz 36 (.bs 45 2 [35])) [35],gH (gp 37 (.ap 45 2 48 26 36)),gH (gF 38 0 3),gH (gS 1 38 37)] [1,2,3,4] [1,2,3,1045000,1045001]) (.dg [] [44] [gL (gF 39 0 3) [3] [44],gV (gQ 40 39) [39] [3,1045000,1045001] [44],gL (gF 41 0 1) [1] [44],gV (gC 42 2 41) [41] [1] [44],gL (ga 43 56 [42]) [42] [44],gU (gz 44 (.bs 45 2 [43])) [43],gH (gp 45 (.ap 45 2 48 40 44)),gH (gF 46 0 3),gH (gS 1 46 45)] [1,2,3,4] [1,2,3,1045000,1045001])))) (rG [gM 17 4,gB 18 .add 17 (kI 1),gA 4 18] [1,2,3,4] [1,2,3,1045000,1045001]))
def aeq:AC:=.kp [1,2,3,4] [1,2,3,1045000,1045001] aep
def KK:AC:=(.sq (.sq (rG [gM 12 4,gF 13 5 1,gQ 14 13,gl 15 14,gB 16 .lss 12 15] [1,2,3,4,16] [1,2,3,1045000,1045001]) (.ite 16 .sk (.ex 0))) aeq)
def Ux:aY:=⟨[1,2,3,4],[1,2,3,1045000,1045001],KK⟩
def aer:AC:=(.sq (.bl 3 (.dg [] [59] [gL (gF 54 1 3) [3] [59],gV (gQ 55 54) [54] [3,1045000,1045001] [59],gL (gF 56 0 1) [1] [59],gV (gC 57 2 56) [56] [1] [59],gL (ga 58 56 [57]) [57] [59],gU (gz 59 (.bs 45 2 [58])) [58],gH (gp 60 (.ap 45 2 48 55 59)),gH (gF 61 1 3),gH (gS 1 61 60)] [1,2,3,5] [1,2,3,1045000,1045001])) (rG [gM 52 5,gB 53 .add 52 (kI 1),gA 5 53] [1,2,3,5] [1,2,3,1045000,1045001]))
def aes:AC:=.kp [1,2,3,5] [1,2,3,1045000,1045001] aer
def KL:AC:=(.sq (.sq (rG [gM 47 5,gF 48 6 1,gQ 49 48,gl 50 49,gB 51 .lss 47 50] [1,2,3,5,51] [1,2,3,1045000,1045001]) (.ite 51 .sk (.ex 2))) aes)
def Uy:aY:=⟨[1,2,3,5],[1,2,3,1045000,1045001],KL⟩
def aet:AC:=(.sq (.dg [] [] [gU (gM 131 11) [11],gU (gB 132 .lss 131 (kI 0)) [131],gU (gM 133 132) [132],gU (hM 134 9 133 true) [9],gU (hM 135 10 133 true) [10],gU (hi 136 3 134 135 133 true) [134,135],gU (hF 137 0 136 133 true) [136],gU (hC 138 2 137 133 true) [137],gU (hF 139 1 3 133 true) [3],gX (hQ 140 139 133 true) [139] [3,1045000,1045001],gU (hM 141 11 133 true) [11],gU (gg 142 (.bo .sub false (kI (-1)) 141) 133 true) [141],gX (hi 143 2 140 142 133 true) [140,142] [3,1045000,1045001],gX (hC 144 2 143 133 true) [143] [3,1045000,1045001],gH (ha 145 59 [138,144] 133 true),gH (hn 146 145 133 true),gH (gk 147 133 146 (.c (.b false)))] [1,2,3,6,7,8,9,10,11,147] [1,2,3,1045000,1045001]) (.ite 147 (.sq (.dg [] [] [gU (gF 148 1 3) [3],gX (gQ 149 148) [148] [3,1045000,1045001],gU (gM 150 11) [11],gU (gB 151 .sub (kI (-1)) 150) [150],gU (gF 152 1 3) [3],gX (gQ 153 152) [152] [3,1045000,1045001],gU (gM 154 11) [11],gU (gB 155 .sub (kI (-1)) 154) [154],gX (gi 156 2 153 155) [153,155] [3,1045000,1045001],gX (gC 157 2 156) [156] [3,1045000,1045001],gU (gM 158 9) [9],gU (gM 159 10) [10],gU (gi 160 3 158 159) [158,159],gU (gF 161 0 160) [160],gU (gC 162 2 161) [161],gU (ga 163 60 [157,162]) [157,162],gH (gi 164 2 149 151),gH (gS 2 164 163)] [1,2,3,7,8,9,10] [1,2,3,1045000,1045001]) (rG [gA 6 (.c (.b true))] [1,2,3,6,7,8,9,10] [1,2,3,1045000,1045001])) .sk))
def aeu:AC:=.kp [1,2,3,6,7,8,9,10,11] [1,2,3,1045000,1045001] aet
def aev:AC:=(.sq (.sq (.dg [] [] [gU (gM 100 11) [11],gU (gB 101 .geq 100 (kI 0)) [100],gU (gM 102 101) [101],gU (hM 103 9 102 true) [9],gU (hM 104 10 102 true) [10],gU (hi 105 3 103 104 102 true) [103,104],gU (hF 106 0 105 102 true) [105],gU (hC 107 2 106 102 true) [106],gU (hF 108 0 3 102 true) [3],gX (hQ 109 108 102 true) [108] [3,1045000,1045001],gU (hM 110 11 102 true) [11],gX (hi 111 2 109 110 102 true) [109,110] [3,1045000,1045001],gX (hC 112 2 111 102 true) [111] [3,1045000,1045001],gH (ha 113 59 [107,112] 102 true),gH (hn 114 113 102 true),gH (gk 115 102 114 (.c (.b false)))] [1,2,3,6,7,8,9,10,11,115] [1,2,3,1045000,1045001]) (.ite 115 (.sq (.dg [] [] [gU (gF 116 0 3) [3],gX (gQ 117 116) [116] [3,1045000,1045001],gU (gM 118 11) [11],gU (gF 119 0 3) [3],gX (gQ 120 119) [119] [3,1045000,1045001],gU (gM 121 11) [11],gX (gi 122 2 120 121) [120,121] [3,1045000,1045001],gX (gC 123 2 122) [122] [3,1045000,1045001],gU (gM 124 9) [9],gU (gM 125 10) [10],gU (gi 126 3 124 125) [124,125],gU (gF 127 0 126) [126],gU (gC 128 2 127) [127],gU (ga 129 60 [123,128]) [123,128],gH (gi 130 2 117 118),gH (gS 2 130 129)] [1,2,3,7,8,9,10,11] [1,2,3,1045000,1045001]) (rG [gA 6 (.c (.b true))] [1,2,3,6,7,8,9,10,11] [1,2,3,1045000,1045001])) .sk)) aeu)
def aew:AC:=.kp [1,2,3,6,7,8,9,10,11] [1,2,3,1045000,1045001] aev
def aex:AC:=(.sq (.bl 9 (.sq (rG [gM 85 9,gM 86 10,gi 87 3 85 86,gF 88 2 87,gQ 89 88,gA 11 89] [1,2,3,6,7,8,9,10,11] [1,2,3,1045000,1045001]) (.sq (.sq (rG [gM 90 11,gB 91 .geq 90 (kI 0),gM 92 91,hF 93 5 1 92 true,hQ 94 93 92 true,hM 95 11 92 true,hi 96 3 94 95 92 true,hF 97 0 96 92 true,hQ 98 97 92 true,gk 99 92 98 (.c (.b false))] [1,2,3,6,7,8,9,10,11,99] [1,2,3,1045000,1045001]) (.ite 99 (.ex 9) .sk)) aew))) (rG [gM 83 10,gB 84 .add 83 (kI 1),gA 10 84] [1,2,3,6,7,8,9,10] [1,2,3,1045000,1045001]))
def aey:AC:=.kp [1,2,3,6,7,8,9,10] [1,2,3,1045000,1045001] aex
def zj:AC:=(.sq (.sq (rG [gM 79 10,gM 80 9,gl 81 80,gB 82 .lss 79 81] [1,2,3,6,7,8,9,10,82] [1,2,3,1045000,1045001]) (.ite 82 .sk (.ex 8))) aey)
def Uz:aY:=⟨[1,2,3,6,7,8,9,10],[1,2,3,1045000,1045001],zj⟩
def aez:AC:=(.sq (.bl 7 (.sq (.dg [] [] [gX (gC 72 8 1) [1] [1],gX (gC 73 2 3) [3] [3,1045000,1045001],gU (gM 74 7) [7],gU (gM 75 8) [8],gU (gi 76 12 74 75) [74,75],gU (gC 77 12 76) [76],gH (ga 78 58 [72,73,77]),gH (gA 9 78)] [1,2,3,6,7,8,9] [1,2,3,1045000,1045001]) (.sq (rG [gA 10 (kI 0)] [1,2,3,6,7,8,9,10] [1,2,3,1045000,1045001]) (.bl 8 Uz.lp)))) (rG [gM 70 8,gB 71 .add 70 (kI 1),gA 8 71] [1,2,3,6,7,8] [1,2,3,1045000,1045001]))
def aeA:AC:=.kp [1,2,3,6,7,8] [1,2,3,1045000,1045001] aez
def Gw:AC:=(.sq (.sq (rG [gM 66 8,gM 67 7,gl 68 67,gB 69 .lss 66 68] [1,2,3,6,7,8,69] [1,2,3,1045000,1045001]) (.ite 69 .sk (.ex 6))) aeA)
def UA:aY:=⟨[1,2,3,6,7,8],[1,2,3,1045000,1045001],Gw⟩
def aeB:AC:=(.bl 5 (.sq (rG [gA 6 (.c (.b false))] [1,2,3,6] [1,2,3,1045000,1045001]) (.sq (rG [gC 63 8 1,gC 64 2 3,ga 65 57 [63,64],gA 7 65] [1,2,3,6,7] [1,2,3,1045000,1045001]) (.sq (rG [gA 8 (kI 0)] [1,2,3,6,7,8] [1,2,3,1045000,1045001]) (.bl 6 UA.lp)))))
def aeC:AC:=.kp [1,2,3] [1,2,3,1045000,1045001] aeB
def Gx:AC:=(.sq (.sq (rG [gM 62 6] [1,2,3,62] [1,2,3,1045000,1045001]) (.ite 62 .sk (.ex 4))) aeC)
def UB:aY:=⟨[1,2,3,6],[1,2,3,1045000,1045001],Gx⟩
def UC:AC:=(.sq (.sq (.rg [.pF 3 0 1045000 2,.pF 3 1 1045001 2] [gA 6 (.c (.b true))] [1,2,3,6] [1,2,3,1045000,1045001]) (.bl 4 UB.lp)) (.sq (.rg [.unp 3 0,.unp 3 1] [gC 165 2 3,gS 2 2 165] [2] [2]) .rt))
def aeD:AC:=.kp [1,2,3] [1,2,3,1045000,1045001] UC
def UD:AC:=(.sq (.sq (rG [gA 5 (kI 0)] [1,2,3,5] [1,2,3,1045000,1045001]) (.bl 2 Uy.lp)) aeD)
def aeE:AC:=.kp [1,2,3] [1,2,3,1045000,1045001] UD
def UE:bE:=⟨(.sq (rG [gp 1 (.bx 0),gp 2 (.al [(.l 45 []),(.l 45 [])])] [1,2] [1,2]) (.sq (rG [gp 3 (.al [.n,.n])] [1,2,3] [1,2,3,1045000,1045001]) (.sq (.sq (.rg [.ownC 3 1 45,.ownC 3 0 45] [gA 4 (kI 0)] [1,2,3,4] [1,2,3,1045000,1045001]) (.bl 0 Ux.lp)) aeE))),[.c 2 (some 2)]⟩
def aeF:AC:=(.sq (.bl 1 (.sq (rG [gM 21 8,gM 22 9,gi 23 3 21 22,gF 24 0 23,gQ 25 24,gB 26 .eql 25 (kI 2)] [1,6,7,8,9,26] [6,7]) (.ite 26 (.dg [] [] [gX (gC 27 2 7) [7] [7],gU (gM 28 1) [1],gU (gM 29 8) [8],gU (gM 30 9) [9],gU (gi 31 3 29 30) [29,30],gU (gF 32 1 31) [31],gU (gQ 33 32) [32],gU (gi 34 2 28 33) [28,33],gU (gC 35 2 34) [34],gH (ga 36 60 [27,35]),gH (gS 2 7 36)] [1,6,7,8,9] [6,7]) .sk))) (rG [gM 19 9,gB 20 .add 19 (kI 1),gA 9 20] [1,6,7,8,9] [6,7]))
def aeG:AC:=.kp [1,6,7,8,9] [6,7] aeF
def D4:AC:=(.sq (.sq (rG [gM 15 9,gM 16 8,gl 17 16,gB 18 .lss 15 17] [1,6,7,8,9,18] [6,7]) (.ite 18 .sk (.ex 0))) aeG)
def UF:aY:=⟨[1,6,7,8,9],[6,7],D4⟩
def UG:bE:=⟨(.sq (rG [gp 3 (.bx 0),gp 5 (.bx 2),gp 6 (.al [(.l 4 []),(.l 4 [])])] [1,3,5,6] [3,5,6]) (.sq (rG [gF 10 0 3,gC 11 2 10,ga 12 56 [11],gp 7 (.al [(.l 4 []),(.l 4 [])]),gS 2 7 12] [1,5,6,7] [5,6,7]) (.sq (rG [gC 13 3 5,ga 14 54 [13],gA 8 14] [1,6,7,8] [6,7]) (.sq (.sq (rG [gA 9 (kI 0)] [1,6,7,8,9] [6,7]) (.bl 0 UF.lp)) (.sq (rG [gC 37 2 7,gS 2 6 37] [6] [6]) .rt))))),[.c 6 (some 2)]⟩
def UH:AC:=(rG [gM 42 12,gM 43 14,gp 44 (.ca 1 67 [43]),gz 45 (.bs 25 1 [44]),gp 46 (.ap 25 1 24 42 45),gA 12 46] [11,12,31,32,33] [30])
def aeH:AC:=.kp [11,12,14,31,32,33] [30] UH
def aeI:AC:=(.sq (.bl 1 (.sq (rG [gM 35 33,gi 36 1 31 33,gQ 37 36,gA 13 35,gA 14 37] [11,12,13,14,31,32,33] [30]) (.sq (.sq (rG [gM 38 11,gM 39 13,gp 40 (.c3 66 [38,39]),gn 41 40] [11,12,14,31,32,33,41] [30]) (.ite 41 (rG [gA 14 (.c (.l 3 []))] [11,12,14,31,32,33] [30]) .sk)) aeH))) (rG [gB 47 .add 33 (kI 1),gM 33 47] [11,12,31,32,33] [30]))
def aeJ:AC:=.kp [11,12,31,32,33] [30] aeI
def aeK:AC:=(.sq (rG [gB 34 .lss 33 32] [11,12,31,32,33,34] [30]) (.sq (.ite 34 .sk (.ex 0)) aeJ))
def UI:aY:=⟨[11,12,31,32,33],[30],aeK⟩
def aeL:AC:=(.sq (rG [gC 27 8 4,gM 28 1,gM 29 2,gp 30 (.cn 65 [27,28,29]),gA 11 30] [3,11] [30]) (.sq (rG [gA 12 (.c .n)] [3,11,12] [30]) (.sq (.sq (.rg [.own 12 25] [gM 31 3,gl 32 31,gM 33 (kI 0)] [11,12,31,32,33] [30]) (.bl 0 UI.lp)) (.sq (rG [gM 48 12,gA 8 48,gA 9 (kI 0)] [8,9,12] []) .rt))))
def aeM:AC:=.kp [1,2,3,4] [4] aeL
def aeN:AC:=(.sq (.sq (rG [gM 21 3,gl 22 21,gF 23 3 4,gQ 24 23,gl 25 24,gB 26 .neq 22 25] [1,2,3,4,26] [4]) (.ite 26 (.sq (rG [gA 8 (.c (.l 25 [])),gA 9 (kI 1)] [8,9,12] []) .rt) .sk)) aeM)
def aeO:AC:=.kp [1,2,3,4] [4] aeN
def X4:bE:=⟨(.sq (rG [gp 4 (.bx 0),gA 8 (.c (.l 25 [])),gA 9 (kI 0)] [1,2,3,4] [4]) (.sq (.sq (rG [gC 15 8 4,gM 16 1,ga 17 64 [15,16],gA 10 17] [1,2,3,4,10] [4]) (.sq (rG [gM 18 10,gB 19 .neq 18 (kI 0)] [1,2,3,4,10,19] [4]) (.ite 19 (.sq (rG [gM 20 10,gA 8 (.c (.l 25 [])),gA 9 20] [8,9,12] []) .rt) .sk))) aeO)),[.t 8,.t 9]⟩
def aeP:AC:=(.sq (.bl 1 (.sq (rG [gi 24 4 20 22,gC 25 4 24,gp 12 (.al [(.i .i64 0),(.i .i64 0),(.i .i64 0),(.i .i64 0)]),gS 4 12 25] [1,2,3,4,12,20,21,22] [4,12]) (.sq (rG [gC 26 8 4,gC 27 4 12,ga 28 68 [26,27],gA 13 28] [1,2,3,4,13,20,21,22] [4]) (.sq (rG [gM 29 13,gB 30 .neq 29 (kI 0)] [1,2,3,4,13,20,21,22,30] [4]) (.ite 30 (.sq (rG [gM 31 13,gA 8 (.c (.l 125 [])),gA 9 31] [8,9] []) .rt) .sk))))) (rG [gB 32 .add 22 (kI 1),gM 22 32] [1,2,3,4,20,21,22] [4]))
def aeQ:AC:=.kp [1,2,3,4,20,21,22] [4] aeP
def aeR:AC:=(.sq (rG [gB 23 .lss 22 21] [1,2,3,4,20,21,22,23] [4]) (.sq (.ite 23 .sk (.ex 0)) aeQ))
def UJ:aY:=⟨[1,2,3,4,20,21,22],[4],aeR⟩
def aeS:AC:=(.sq (rG [gC 33 8 4,gM 34 1,gM 35 2,gp 36 (.cn 65 [33,34,35]),gM 37 3,gp 38 (.c3 69 [36,37]),gA 8 38,gA 9 (kI 0)] [8,9] []) .rt)
def aeT:AC:=.kp [1,2,3,4] [4] aeS
def aeU:AC:=(.sq (.sq (rG [gM 20 3,gl 21 20,gM 22 (kI 0)] [1,2,3,4,20,21,22] [4]) (.bl 0 UJ.lp)) aeT)
def aeV:AC:=.kp [1,2,3,4] [4] aeU
def X5:bE:=⟨(.sq (rG [gp 4 (.bx 0),gA 8 (.c (.l 125 [])),gA 9 (kI 0)] [1,2,3,4] [4]) (.sq (.sq (rG [gC 14 8 4,gM 15 1,ga 16 64 [14,15],gA 10 16] [1,2,3,4,10] [4]) (.sq (rG [gM 17 10,gB 18 .neq 17 (kI 0)] [1,2,3,4,10,18] [4]) (.ite 18 (.sq (rG [gM 19 10,gA 8 (.c (.l 125 [])),gA 9 19] [8,9] []) .rt) .sk))) aeV)),[.t 8,.t 9]⟩
def X6:bE:=⟨(.sq (rG [gp 2 (.bx 0),gA 4 (.c (.b false))] [1,2] [2]) (.sq (rG [gM 5 1,gF 6 0 2,gQ 7 6,gB 8 .sub 7 (kI 1),ga 9 50 [5,(kI 0),8],gA 4 9] [4] []) .rt)),[.t 4]⟩
def UK:AC:=(.sq (rG [gM 32 1,gM 33 5,gi 34 4 32 33,gF 35 2 34,gQ 36 35,gM 37 6,gB 38 .sub 37 (kI 1),ga 39 50 [36,(kI 0),38],gn 40 39] [1,2,5,40] [2]) (.ite 40 (.sq (rG [gA 4 (kI 5)] [4] []) .rt) .sk))
def aeW:AC:=.kp [1,2,5,6] [2] UK
def aeX:AC:=(.sq (rG [gF 20 5 2,gQ 21 20,gl 22 21,gA 6 22] [1,2,5,6] [2]) (.sq (.sq (rG [gM 23 1,gM 24 5,gi 25 4 23 24,gF 26 0 25,gQ 27 26,gB 28 .eql 27 (kI 1)] [1,2,5,6,28] [2]) (.ite 28 (rG [gF 29 4 2,gQ 30 29,gl 31 30,gA 6 31] [1,2,5,6] [2]) .sk)) aeW))
def aeY:AC:=.kp [1,2,5] [2] aeX
def aeZ:AC:=(.sq (.bl 1 (.sq (.sq (rG [gM 13 1,gM 14 5,gi 15 4 13 14,gF 16 0 15,gQ 17 16,ga 18 50 [17,(kI 1),(kI 3)],gn 19 18] [1,2,5,19] [2]) (.ite 19 (.sq (rG [gA 4 (kI 7)] [4] []) .rt) .sk)) aeY)) (rG [gM 11 5,gB 12 .add 11 (kI 1),gA 5 12] [1,2,5] [2]))
def ae0:AC:=.kp [1,2,5] [2] aeZ
def ae1:AC:=(.sq (.sq (rG [gM 7 5,gM 8 1,gl 9 8,gB 10 .lss 7 9] [1,2,5,10] [2]) (.ite 10 .sk (.ex 0))) ae0)
def UL:aY:=⟨[1,2,5],[2],ae1⟩
def X7:bE:=⟨(.sq (rG [gp 2 (.bx 0),gA 4 (kI 0)] [1,2] [2]) (.sq (.sq (rG [gA 5 (kI 0)] [1,2,5] [2]) (.bl 0 UL.lp)) (.sq (rG [gA 4 (kI 0)] [4] []) .rt))),[.t 4]⟩
def X8:bE:=⟨(.sq (rG [gp 4 (.bx 0),gA 8 (.c (.b false))] [1,2,3,4] [4]) (.sq (.dg [] [] [gU (gF 9 0 4) [4],gX (gC 10 2 9) [9] [4],gU (gF 11 3 4) [4],gX (gQ 12 11) [11] [4],gU (gM 13 3) [3],gX (gi 14 2 12 13) [12,13] [4],gX (gC 15 2 14) [14] [4],gU (ga 16 55 [10,15]) [10,15],gU (gM 17 1) [1],gU (gM 18 2) [2],gH (ga 19 70 [16,17,18]),gH (gA 8 19)] [8] []) .rt)),[.t 8]⟩
def ae2:AC:=(.sq (.bl 1 (.sq (.dg [] [] [gX (gC 20 8 4) [4] [4],gX (gC 21 2 9) [9] [9],gU (gM 22 1) [1],gU (gM 23 2) [2],gU (gM 24 3) [3],gU (gM 25 11) [11],gU (gi 26 4 24 25) [24,25],gU (gC 27 4 26) [26],gH (ga 28 71 [20,21,22,23,27])] [1,2,3,4,9,10,11,28] [4,9]) (.ite 28 (rG [gM 29 10,gM 30 3,gM 31 11,gi 32 4 30 31,gC 33 4 32,gz 34 (.bs 125 4 [33]),gp 35 (.ap 125 4 32 29 34),gA 10 35] [1,2,3,4,9,10,11] [4,9]) .sk))) (rG [gM 18 11,gB 19 .add 18 (kI 1),gA 11 19] [1,2,3,4,9,10,11] [4,9]))
def ae3:AC:=.kp [1,2,3,4,9,10,11] [4,9] ae2
def ae4:AC:=(.sq (.sq (rG [gM 14 11,gM 15 3,gl 16 15,gB 17 .lss 14 16] [1,2,3,4,9,10,11,17] [4,9]) (.ite 17 .sk (.ex 0))) ae3)
def UM:aY:=⟨[1,2,3,4,9,10,11],[4,9],ae4⟩
def X9:bE:=⟨(.sq (rG [gp 4 (.bx 0),gA 8 (.c (.l 125 []))] [1,2,3,4] [4]) (.sq (rG [gC 12 8 4,ga 13 13 [12],gp 9 (.al [(.l 45 []),(.l 45 [])]),gS 2 9 13] [1,2,3,4,9] [4,9]) (.sq (rG [gA 10 (.c .n)] [1,2,3,4,9,10] [4,9]) (.sq (.sq (.rg [.own 10 125] [gA 11 (kI 0)] [1,2,3,4,9,10,11] [4,9]) (.bl 0 UM.lp)) (.sq (rG [gM 36 10,gA 8 36] [8,10] []) .rt))))),[.t 8]⟩
def c25:bE:=⟨(.sq (rG [gA 0 (.c (.b false))] [] []) (.sq (rG [gp 8 (.bd [(.i .i64 0),(.i .i64 0),(.i .i64 0),(.i .i64 0)] [(0,1,(kI 1)),(1,1,(kI 1)),(3,1,(kI 7))]),gz 9 (.bs 125 4 [8]),gA 1 9] [1] []) (.sq (rG [gp 11 (.ca 1 72 []),gz 12 (.bs 3 1 [(kI 5)]),gz 13 (.bs 25 1 [12]),ga 14 19 [11,(kI 1),(.c (.b false)),13],gM 10 14,ge 15 10 0,ge 16 10 1,gA 2 15,gA 3 16] [1,2,3] []) (.sq (rG [gp 18 (.ca 1 72 []),gM 19 1,ga 20 20 [18,(kI 1),(.c (.b false)),19],gM 17 20,ge 21 17 0,ge 22 17 1,gA 4 21,gA 5 22] [1,2,3,4,5] []) (.sq (rG [gp 24 (.ca 1 72 []),gM 25 1,ga 26 20 [24,(kI 1),(.c (.b true)),25],gM 23 26,ge 27 23 0,ge 28 23 1,gA 6 27,gA 7 28] [1,2,3,4,5,6,7] []) (.sq (rG [gM 29 3,gB 30 .eql 29 (kI 0),gM 31 30,hM 32 5 31 true,hB 33 .eql 32 (kI 0) 31 true,gk 34 31 33 (.c (.b false)),gM 35 34,hM 36 7 35 true,hB 37 .eql 36 (kI 0) 35 true,gk 38 35 37 (.c (.b false)),gM 39 38,hM 40 2 39 true,hl 41 40 39 true,hB 42 .eql 41 (kI 1) 39 true,gk 43 39 42 (.c (.b false)),gM 44 43,hM 45 2 44 true,hi 46 1 45 (kI 0) 44 true,hQ 47 46 44 true,hl 48 47 44 true,hB 49 .eql 48 (kI 0) 44 true,gk 50 44 49 (.c (.b false)),gM 51 50,hM 52 4 51 true,hM 53 1 51 true,ha 54 27 [52,53] 51 true,gk 55 51 54 (.c (.b false)),gM 56 55,hM 57 6 56 true,hl 58 57 56 true,hB 59 .eql 58 (kI 0) 56 true,gk 60 56 59 (.c (.b false)),gM 61 60,hM 62 1 61 true,hM 63 1 61 true,ha 64 73 [62,63] 61 true,gg 65 (.bo .eql false 64 (kI (-1))) 61 true,gk 66 61 65 (.c (.b false)),gM 67 66,hM 68 1 67 true,ha 69 73 [68,(.c (.l 125 []))] 67 true,hB 70 .eql 69 (kI 0) 67 true,gk 71 67 70 (.c (.b false)),gA 0 71] [0] []) .rt)))))),[.t 0]⟩
def ae5:AC:=(.sq (.bl 1 (.sq (.dg [] [] [gU (gM 17 0) [0],gU (gM 18 5) [5],gU (gi 19 1 17 18) [17,18],gU (gQ 20 19) [19],gU (gM 21 1) [1],gU (gM 22 5) [5],gU (gi 23 1 21 22) [21,22],gU (gQ 24 23) [23],gH (ga 25 74 [20,24]),gH (gn 26 25)] [0,1,5,26] []) (.ite 26 (.sq (rG [gA 4 (.c (.b false))] [4] []) .rt) .sk))) (rG [gM 15 5,gB 16 .add 15 (kI 1),gA 5 16] [0,1,5] []))
def ae6:AC:=.kp [0,1,5] [] ae5
def ae7:AC:=(.sq (.sq (rG [gM 11 5,gM 12 0,gl 13 12,gB 14 .lss 11 13] [0,1,5,14] []) (.ite 14 .sk (.ex 0))) ae6)
def UN:aY:=⟨[0,1,5],[],ae7⟩
def ae8:AC:=(.sq (.sq (rG [gA 5 (kI 0)] [0,1,5] []) (.bl 0 UN.lp)) (.sq (rG [gA 4 (.c (.b true))] [4] []) .rt))
def ae9:AC:=.kp [0,1] [] ae8
def Ya:bE:=⟨(.sq (rG [gA 4 (.c (.b false))] [0,1] []) (.sq (.sq (rG [gM 6 0,gl 7 6,gM 8 1,gl 9 8,gB 10 .neq 7 9] [0,1,10] []) (.ite 10 (.sq (rG [gA 4 (.c (.b false))] [4] []) .rt) .sk)) ae9)),[.t 4]⟩
def afa:AC:=(.sq (.bl 1 (.sq (.dg [] [] [gU (gM 17 0) [0],gU (gM 18 5) [5],gU (gi 19 4 17 18) [17,18],gU (gC 20 4 19) [19],gU (gM 21 1) [1],gU (gM 22 5) [5],gU (gi 23 4 21 22) [21,22],gU (gC 24 4 23) [23],gH (gp 25 (.ae [1,1,1,1] true 20 24))] [0,1,5,25] []) (.ite 25 (.sq (rG [gA 4 (.c (.b false))] [4] []) .rt) .sk))) (rG [gM 15 5,gB 16 .add 15 (kI 1),gA 5 16] [0,1,5] []))
def afb:AC:=.kp [0,1,5] [] afa
def afc:AC:=(.sq (.sq (rG [gM 11 5,gM 12 0,gl 13 12,gB 14 .lss 11 13] [0,1,5,14] []) (.ite 14 .sk (.ex 0))) afb)
def UO:aY:=⟨[0,1,5],[],afc⟩
def afd:AC:=(.sq (.sq (rG [gA 5 (kI 0)] [0,1,5] []) (.bl 0 UO.lp)) (.sq (rG [gA 4 (.c (.b true))] [4] []) .rt))
def afe:AC:=.kp [0,1] [] afd
def Yb:bE:=⟨(.sq (rG [gA 4 (.c (.b false))] [0,1] []) (.sq (.sq (rG [gM 6 0,gl 7 6,gM 8 1,gl 9 8,gB 10 .neq 7 9] [0,1,10] []) (.ite 10 (.sq (rG [gA 4 (.c (.b false))] [4] []) .rt) .sk)) afe)),[.t 4]⟩
def aff:AC:=(.sq (rG [gC 17 2 4,gC 18 2 5,ga 19 43 [17,18],gA 6 19,gA 7 (kI 0)] [6,7] []) .rt)
def afg:AC:=.kp [4,5] [4,5] aff
def c35:bE:=⟨(.sq (rG [gp 3 (.bx 0),gp 4 (.bx 1),gp 5 (.bx 2),gA 6 (.c (.b false)),gA 7 (kI 0)] [3,4,5] [3,4,5]) (.sq (.sq (rG [gC 9 2 3,gC 10 2 4,gC 11 2 5,gz 12 (.bs 45 2 [10,11]),ga 13 91 [9,12],gA 8 13] [4,5,8] [4,5]) (.sq (rG [gM 14 8,gB 15 .neq 14 (kI 0)] [4,5,8,15] [4,5]) (.ite 15 (.sq (rG [gM 16 8,gA 6 (.c (.b false)),gA 7 16] [6,7] []) .rt) .sk))) afg)),[.t 6,.t 7]⟩
def afh:AC:=(.sq (.bl 1 (.sq (rG [gM 24 22,gi 25 5 20 22,gC 26 5 25,gp 6 (.al [(.l 3 []),(.l 92 []),(.i .i64 0),(.i .i64 0),(.l 37 [])]),gA 5 24,gS 5 6 26] [1,4,5,6,20,21,22] [1,6,18]) (.sq (rG [gM 27 4,gM 28 5,gp 29 (.nc 27),gF 30 8 29,gS 1 30 28] [1,4,6,20,21,22] [1,6,18]) (.sq (rG [gM 31 4,gC 32 5 6,gp 33 (.c2 94 [31,32]),gA 7 33] [1,4,7,20,21,22] [1,18]) (.sq (rG [gM 34 7,gB 35 .neq 34 (kI 0)] [1,4,7,20,21,22,35] [1,18]) (.ite 35 (.sq (rG [gM 36 7,gA 2 36] [2] []) .rt) .sk)))))) (rG [gB 37 .add 22 (kI 1),gM 22 37] [1,4,20,21,22] [1,18]))
def afi:AC:=.kp [1,4,20,21,22] [1,18] afh
def afj:AC:=(.sq (rG [gB 23 .lss 22 21] [1,4,20,21,22,23] [1,18]) (.sq (.ite 23 .sk (.ex 0)) afi))
def UP:aY:=⟨[1,4,20,21,22],[1,18],afj⟩
def afk:AC:=(.sq (rG [gM 38 4,gF 39 6 1,gQ 40 39,gl 41 40,gp 42 (.nc 38),gF 43 8 42,gS 1 43 41] [1,4] [1,18]) (.sq (rG [gM 44 4,gF 45 7 1,gQ 46 45,gp 47 (.c2 95 [44,46]),gA 2 47] [2] []) .rt))
def afl:AC:=.kp [1,4] [1,18] afk
def afm:AC:=(.sq (rG [gC 16 8 1,gp 17 (.bd [(.i .i64 0),(.l 166 []),(.l 3 []),(.l 81 []),(.l 81 []),(.l 83 []),(.l 101 []),(.l 92 []),(.i .i64 0)] [(0,8,16)]),gp 18 (.bx 17),gA 4 18] [1,4] [1,18]) (.sq (.sq (rG [gF 19 6 1,gQ 20 19,gl 21 20,gM 22 (kI 0)] [1,4,20,21,22] [1,18]) (.bl 0 UP.lp)) afl))
def afn:AC:=.kp [1] [1] afm
def afo:AC:=(.sq (.sq (rG [gC 13 8 1,ga 14 93 [13],gn 15 14] [1,15] [1]) (.ite 15 (.sq (rG [gA 2 (kI 2)] [2] []) .rt) .sk)) afn)
def afp:AC:=.kp [1] [1] afo
def Yc:bE:=⟨(.sq (rG [gp 1 (.bx 0),gA 2 (kI 0)] [1] [1]) (.sq (.sq (rG [gC 8 8 1,ga 9 92 [8],gA 3 9] [1,3] [1]) (.sq (rG [gM 10 3,gB 11 .neq 10 (kI 0)] [1,3,11] [1]) (.ite 11 (.sq (rG [gM 12 3,gA 2 12] [2] []) .rt) .sk))) afp)),[.t 2]⟩
def UQ:AC:=(rG [gF 26 0 3,gQ 27 26,gC 28 2 6,gz 29 (.bs 45 2 [28]),gp 30 (.ap 45 2 48 27 29),gF 31 0 3,gS 1 31 30] [1,2,3,10,11,12] [1,2,3,1045000,1045001])
def UR:AC:=.kp [1,2,3,6,10,11,12] [1,2,3,6,1045000,1045001] UQ
def afq:AC:=(.sq (.bl 1 (.sq (rG [gi 14 3 10 12,gC 15 3 14,gp 5 (.al [(.b false),(.l 138 []),(.l 138 [])]),gS 3 5 15] [1,2,3,5,10,11,12] [1,2,3,5,1045000,1045001]) (.sq (rG [gF 16 0 1,gC 17 2 16,ga 18 96 [17],gp 6 (.al [(.l 4 []),(.l 4 [])]),gS 2 6 18] [1,2,3,5,6,10,11,12] [1,2,3,5,6,1045000,1045001]) (.sq (.sq (rG [gF 19 0 5,gQ 20 19] [1,2,3,5,6,10,11,12,20] [1,2,3,5,6,1045000,1045001]) (.ite 20 (rG [gF 21 0 1,gC 22 2 21,gF 23 1 5,gC 24 2 23,ga 25 40 [22,24],gS 2 6 25] [1,2,3,6,10,11,12] [1,2,3,6,1045000,1045001]) .sk)) UR)))) (rG [gB 32 .add 12 (kI 1),gM 12 32] [1,2,3,10,11,12] [1,2,3,1045000,1045001]))
def afr:AC:=.kp [1,2,3,10,11,12] [1,2,3,1045000,1045001] afq
def KM:AC:=(.sq (rG [gB 13 .lss 12 11] [1,2,3,10,11,12,13] [1,2,3,1045000,1045001]) (.sq (.ite 13 .sk (.ex 0)) afr))
def US:aY:=⟨[1,2,3,10,11,12],[1,2,3,1045000,1045001],KM⟩
def afs:AC:=(.sq (.bl 3 (.dg [] [43] [gL (gF 38 1 3) [3] [43],gV (gQ 39 38) [38] [3,1045000,1045001] [43],gL (gF 40 0 1) [1] [43],gV (gC 41 2 40) [40] [1] [43],gL (ga 42 96 [41]) [41] [43],gU (gz 43 (.bs 45 2 [42])) [42],gH (gp 44 (.ap 45 2 48 39 43)),gH (gF 45 1 3),gH (gS 1 45 44)] [1,2,3,35,36] [1,2,3,1045000,1045001])) (rG [gB 46 .add 36 (kI 1),gM 36 46] [1,2,3,35,36] [1,2,3,1045000,1045001]))
def aft:AC:=.kp [1,2,3,35,36] [1,2,3,1045000,1045001] afs
def KN:AC:=(.sq (rG [gB 37 .lss 36 35] [1,2,3,35,36,37] [1,2,3,1045000,1045001]) (.sq (.ite 37 .sk (.ex 2)) aft))
def UT:aY:=⟨[1,2,3,35,36],[1,2,3,1045000,1045001],KN⟩
def afu:AC:=(.sq (.bl 5 (.sq (rG [gS 1 8 (.c (.b false))] [1,2,3,7,8,50] [1,2,3,7,8,50,1045000,1045001]) (.sq (rG [gQ 52 7,gp 53 (.mf 97 [7,3,1,8]),gp 54 (.nc 52),gF 55 10 54,gS 1 55 53] [1,2,3,7,8,50] [1,2,3,7,8,50,1045000,1045001]) (rG [gQ 56 7,gp 57 (.c2 44 [56])] [1,2,3,7,8,50] [1,2,3,7,8,50,1045000,1045001])))) (.sq (rG [gQ 58 8] [1,2,3,7,50,58] [1,2,3,7,50,1045000,1045001]) (.rg [.fzC 50 10] [gp 8 (.al [(.b false)]),gS 1 8 58] [1,2,3,7,8,50] [1,2,3,7,8,50,1045000,1045001])))
def afv:AC:=.kp [1,2,3,7,8,50] [1,2,3,7,8,50,1045000,1045001] afu
def Gy:AC:=(.sq (.sq (rG [gQ 51 8] [1,2,3,7,8,50,51] [1,2,3,7,8,50,1045000,1045001]) (.ite 51 .sk (.ex 4))) afv)
def UU:aY:=⟨[1,2,3,7,8,50],[1,2,3,7,8,50,1045000,1045001],Gy⟩
def UW:AC:=(.sq (.rg [.pF 3 0 1045000 2,.pF 3 1 1045001 2] [gC 47 8 1,gC 48 2 3,gp 49 (.bd [(.i .i64 0),(.l 166 []),(.l 3 []),(.l 81 []),(.l 81 []),(.l 83 []),(.l 101 []),(.l 92 []),(.l 45 []),(.l 45 []),.nf,(.i .i64 0)] [(0,8,47),(8,2,48)]),gp 50 (.bx 49),gp 7 (.al [.z]),gS 1 7 50] [1,2,3,7,50] [1,2,3,7,50,1045000,1045001]) (.sq (.sq (rG [gp 8 (.al [(.b false)]),gS 1 8 (.c (.b true))] [1,2,3,7,8,50] [1,2,3,7,8,50,1045000,1045001]) (.bl 4 UU.lp)) (.sq (.rg [.unp 3 0,.unp 3 1] [gC 59 2 3,gS 2 2 59] [2] [2]) .rt)))
def afw:AC:=.kp [1,2,3] [1,2,3,1045000,1045001] UW
def UX:AC:=(.sq (.sq (rG [gF 33 6 1,gQ 34 33,gl 35 34,gM 36 (kI 0)] [1,2,3,35,36] [1,2,3,1045000,1045001]) (.bl 2 UT.lp)) afw)
def afx:AC:=.kp [1,2,3] [1,2,3,1045000,1045001] UX
def UY:bE:=⟨(.sq (rG [gp 1 (.bx 0),gp 2 (.al [(.l 45 []),(.l 45 [])])] [1,2] [1,2]) (.sq (rG [gp 3 (.al [.n,.n])] [1,2,3] [1,2,3,1045000,1045001]) (.sq (.sq (.rg [.ownC 3 0 45,.ownC 3 1 45] [gF 9 5 1,gQ 10 9,gl 11 10,gM 12 (kI 0)] [1,2,3,10,11,12] [1,2,3,1045000,1045001]) (.bl 0 US.lp)) afx))),[.c 2 (some 2)]⟩
def Yd:bE:=⟨(.sq (rG [gp 2 (.bx 0),gp 3 (.bx 1),gp 4 (.al [(.l 4 []),(.l 4 [])])] [2,3,4] [2,3,4]) (.sq (rG [gC 7 2 2,ga 8 102 [7],gp 5 (.al [(.l 43 [])]),gS 1 5 8] [2,3,4,5] [2,3,4,5]) (.sq (.rg [.fzB 2 true,.fzB 5 false] [gp 9 (.mf 103 [2,5]),gA 6 9] [3,4,6] [2,3,4,5]) (.sq (.dg [] [] [gU (gM 10 6) [6],gU (gF 11 0 3) [3],gX (gQ 12 11) [11] [3],gX (gp 13 (.cf 0 10 [12])) [10,12] [3],gU (gM 14 6) [6],gU (gF 15 1 3) [3],gX (gQ 16 15) [15] [3],gH (gp 17 (.d2 14 [16])),gH (gp 18 (.bd [(.l 4 []),(.l 4 [])] [(0,1,13),(1,1,17)])),gH (gS 2 4 18)] [4] [4]) .rt)))),[.c 4 (some 2)]⟩
def afy:AC:=(.sq (.bl 2 (.sq (rG [gM 41 39,gi 42 3 37 39,gC 43 3 42,gp 11 (.al [(.i .i64 0),(.i .i64 0),(.l 37 [])]),gA 10 41,gS 3 11 43] [4,5,7,8,9,10,11,37,38,39] [0,3,4,5,8,11]) (.dg [] [54] [gL (gM 44 9) [9] [54],gL (gM 45 7) [7] [54],gV (gC 46 3 11) [11] [11] [54],⟨gp 47 (.d3 45 [46]),true,[45,46],[3,5],true,[],[54],[]⟩,gL (gF 48 0 8) [8] [54],gV (gQ 49 48) [48] [8] [54],gL (gM 50 10) [10] [54],gV (gi 51 1 49 50) [49,50] [8] [54],gV (gQ 52 51) [51] [8] [54],gL (gp 53 (.bd [(.l 4 []),(.l 4 []),(.i .i64 0),(.b false)] [(0,2,47),(2,1,52),(3,1,(.c (.b false)))])) [47,52] [54],gU (gz 54 (.bs 96 4 [53])) [53],gH (gp 55 (.ap 96 4 64 44 54)),gH (gA 9 55)] [4,5,7,8,9,37,38,39] [0,3,4,5,8]))) (rG [gB 56 .add 39 (kI 1),gM 39 56] [4,5,7,8,9,37,38,39] [0,3,4,5,8]))
def afz:AC:=.kp [4,5,7,8,9,37,38,39] [0,3,4,5,8] afy
def KO:AC:=(.sq (rG [gB 40 .lss 39 38] [4,5,7,8,9,37,38,39,40] [0,3,4,5,8]) (.sq (.ite 40 .sk (.ex 1)) afz))
def KP:aY:=⟨[4,5,7,8,9,37,38,39],[0,3,4,5,8],KO⟩
def UZ:AC:=(.sq (.dg [] [69] [gL (gM 57 9) [9] [69],gL (gM 58 7) [7] [69],gL (gF 59 2 8) [8] [69],gV (gC 60 3 59) [59] [8] [69],⟨gp 61 (.d3 58 [60]),true,[58,60],[3,5],true,[],[69],[]⟩,gL (gF 62 1 4) [4] [69],gV (gQ 63 62) [62] [4] [69],gL (gp 64 (.bd [(.l 4 []),(.l 4 []),(.i .i64 0),(.b false)] [(0,2,61),(2,1,63),(3,1,(.c (.b false)))])) [61,63] [69],gV (gC 65 2 5) [5] [5] [69],gL (gF 66 2 4) [4] [69],gV (gQ 67 66) [66] [4] [69],gL (gp 68 (.bd [(.l 4 []),(.l 4 []),(.i .i64 0),(.b false)] [(0,2,65),(2,1,67),(3,1,(.c (.b true)))])) [65,67] [69],gU (gz 69 (.bs 96 4 [64,68])) [64,68],gH (gz 70 (.ap 96 4 64 57 69)),gH (gA 6 70)] [6] []) .rt)
def afA:AC:=.kp [4,5,7,8,9] [0,3,4,5,8] UZ
def Gz:bE:=⟨(.sq (rG [gp 3 (.bx 0),gp 4 (.bx 1),gp 5 (.bx 2),gA 6 (.c (.l 96 []))] [3,4,5] [0,3,4,5]) (.sq (.rg [.fzB 5 true] [gp 12 (.mf 108 [5,3]),gA 7 12] [3,4,5,7] [0,3,4,5]) (.sq (.sq (rG [gF 13 0 4,gQ 14 13] [3,4,5,7,14] [0,3,4,5]) (.bl 0 (.sq (rG [gB 16 .eql 14 (kI 1),gA 15 16] [3,4,5,7,14,15] [0,3,4,5]) (.ite 15 (.sq (.dg [] [] [gU (gM 17 7) [7],gU (gF 18 3 4) [4],gX (gC 19 3 18) [18] [4],⟨gp 20 (.d3 17 [19]),true,[17,19],[3,5],true,[],[],[]⟩,gU (gF 21 1 4) [4],gX (gQ 22 21) [21] [4],gH (gp 23 (.bd [(.l 4 []),(.l 4 []),(.i .i64 0),(.b false)] [(0,2,20),(2,1,22),(3,1,(.c (.b false)))])),gH (gz 24 (.bs 96 4 [23])),gH (gA 6 24)] [6] []) .rt) (.sq (rG [gB 26 .eql 14 (kI 2),gA 25 26] [3,4,5,7,14,25] [0,3,4,5]) (.ite 25 (.sq (.dg [] [8] [⟨gQ 27 3,true,[3],[3],true,[],[8],[]⟩,gL (gp 28 (.nc 27)) [27] [8],gL (gF 29 0 28) [28] [8],gL (gF 30 6 29) [29] [8],⟨gQ 31 30,true,[30],[],true,[],[8],[]⟩,gL (gF 32 2 4) [4] [8],gV (gQ 33 32) [32] [4] [8],gL (gi 34 5 31 33) [31,33] [8],gL (gC 35 5 34) [34] [8],gU (gp 8 (.al [(.l 3 []),(.l 92 []),(.i .i64 0),(.i .i64 0),(.l 37 [])])) [],gH (gS 5 8 35)] [4,5,7,8] [0,3,4,5,8]) (.sq (rG [gA 9 (.c .n)] [4,5,7,8,9] [0,3,4,5,8]) (.sq (.sq (.rg [.own 9 96] [gF 36 6 4,gQ 37 36,gl 38 37,gM 39 (kI 0)] [4,5,7,8,9,37,38,39] [0,3,4,5,8]) (.bl 1 KP.lp)) afA))) (.sq (rG [gB 72 .eql 14 (kI 3),gA 71 72] [3,4,5,7,14,71] [0,3,4,5]) (.ite 71 (.sq (.dg [] [] [gX (gC 73 2 5) [5] [5],⟨gQ 74 3,true,[3],[3],true,[],[],[]⟩,gU (gp 75 (.nc 74)) [74],gU (gF 76 0 75) [75],gU (gF 77 0 76) [76],⟨gC 78 2 77,true,[77],[],true,[],[],[]⟩,⟨gQ 79 3,true,[3],[3],true,[],[],[]⟩,gU (gp 80 (.nc 79)) [79],gU (gF 81 0 80) [80],gU (gF 82 3 81) [81],⟨gQ 83 82,true,[82],[],true,[],[],[]⟩,gU (gF 84 2 4) [4],gX (gQ 85 84) [84] [4],gU (gi 86 2 83 85) [83,85],gU (gC 87 2 86) [86],gU (ga 88 40 [78,87]) [78,87],gU (ga 89 98 [73,88]) [73,88],gU (gF 90 1 4) [4],gX (gQ 91 90) [90] [4],gH (gp 92 (.bd [(.l 4 []),(.l 4 []),(.i .i64 0),(.b false)] [(0,2,89),(2,1,91),(3,1,(.c (.b false)))])),gH (gz 93 (.bs 96 4 [92])),gH (gA 6 93)] [6] []) .rt) (.sq (rG [gB 95 .eql 14 (kI 5),gA 94 95] [4,5,7,14,94] [0,3,4,5]) (.ite 94 (.sq (.dg [] [] [gU (gF 96 0 5) [5],gX (gQ 97 96) [96] [5],gU (gM 98 7) [7],gU (gF 99 3 4) [4],gX (gC 100 3 99) [99] [4],⟨gp 101 (.d3 98 [100]),true,[98,100],[3,5],true,[],[],[]⟩,gU (gp 102 (.fd none 1 101)) [101],gU (gp 103 (.bd [(.l 4 []),(.l 4 [])] [(0,1,97),(1,1,102)])) [97,102],gU (gF 104 1 4) [4],gX (gQ 105 104) [104] [4],gH (gp 106 (.bd [(.l 4 []),(.l 4 []),(.i .i64 0),(.b false)] [(0,2,103),(2,1,105),(3,1,(.c (.b false)))])),gH (gz 107 (.bs 96 4 [106])),gH (gA 6 107)] [6] []) .rt) (.sq (rG [gB 109 .eql 14 (kI 6),gA 108 109] [4,5,7,108] [0,3,4,5]) (.ite 108 (.sq (.dg [] [] [gU (gM 110 7) [7],gU (gF 111 3 4) [4],gX (gC 112 3 111) [111] [4],⟨gp 113 (.d3 110 [112]),true,[110,112],[3,5],true,[],[],[]⟩,gU (gp 114 (.fd none 0 113)) [113],gU (gF 115 1 5) [5],gX (gQ 116 115) [115] [5],gU (gp 117 (.bd [(.l 4 []),(.l 4 [])] [(0,1,114),(1,1,116)])) [114,116],gU (gF 118 1 4) [4],gX (gQ 119 118) [118] [4],gH (gp 120 (.bd [(.l 4 []),(.l 4 []),(.i .i64 0),(.b false)] [(0,2,117),(2,1,119),(3,1,(.c (.b false)))])),gH (gz 121 (.bs 96 4 [120])),gH (gA 6 121)] [6] []) .rt) .sk)))))))))))) (.sq (rG [gA 6 (.c (.l 96 []))] [6] []) .rt)))),[.t 6]⟩
def Ye:bE:=⟨(.sq (rG [gp 2 (.bx 0),gp 3 (.bx 1),gA 4 (.c (.b false))] [2,3] [2,3]) (.sq (rG [gF 5 0 3,gQ 6 5,gF 7 0 2,gQ 8 7,ga 9 109 [6,8],gM 10 9,hF 11 1 2 10 true,hQ 12 11 10 true,hF 13 1 3 10 true,hQ 14 13 10 true,ha 15 109 [12,14] 10 true,gk 16 10 15 (.c (.b false)),gA 4 16] [4] []) .rt)),[.t 4]⟩
def afB:AC:=(.sq (.bl 1 (.sq (rG [gM 15 13,gi 16 5 11 13,gC 17 5 16,gp 3 (.al [(.l 3 []),(.l 92 []),(.i .i64 0),(.i .i64 0),(.l 37 [])]),gA 2 15,gS 5 3 17] [0,2,3,11,12,13] [0,3]) (.dg [] [] [gU (gM 18 0) [0],gU (gF 19 1 3) [3],gX (gQ 20 19) [19] [3],gU (gM 21 0) [0],gU (gp 22 (.nc 21)) [21],gU (gF 23 8 22) [22],gU (gF 24 1 23) [23],⟨gQ 25 24,true,[24],[],true,[],[],[]⟩,gU (gM 26 2) [2],⟨gi 27 2 25 26,true,[25,26],[],true,[],[],[]⟩,⟨gC 28 2 27,true,[27],[],true,[],[],[]⟩,gH (gp 29 (.c2 110 [18,20,28]))] [0,11,12,13] [0]))) (rG [gB 30 .add 13 (kI 1),gM 13 30] [0,11,12,13] [0]))
def afC:AC:=.kp [0,11,12,13] [0] afB
def KQ:AC:=(.sq (rG [gB 14 .lss 13 12] [0,11,12,13,14] [0]) (.sq (.ite 14 .sk (.ex 0)) afC))
def U0:aY:=⟨[0,11,12,13],[0],KQ⟩
def U1:AC:=(.dg [] [] [gU (gM 31 0) [0],gU (gM 32 0) [0],gU (gp 33 (.nc 32)) [32],gU (gF 34 0 33) [33],gU (gF 35 7 34) [34],⟨gQ 36 35,true,[35],[],true,[],[],[]⟩,gU (gM 37 0) [0],gU (gp 38 (.nc 37)) [37],gU (gF 39 0 38) [38],gU (gF 40 0 39) [39],⟨gC 41 2 40,true,[40],[],true,[],[],[]⟩,gU (ga 42 96 [41]) [41],gH (gp 43 (.c2 110 [31,36,42]))] [] [])
def afD:AC:=.kp [0] [0] U1
def Yf:bE:=⟨(.sq (rG [gM 4 0,gp 5 (.nc 4),gF 6 11 5,gS 1 6 (kI 0)] [0] [0]) (.sq (.sq (rG [gM 7 0,gp 8 (.nc 7),gF 9 0 8,gF 10 6 9,gQ 11 10,gl 12 11,gM 13 (kI 0)] [0,11,12,13] [0]) (.bl 0 U0.lp)) afD)),[]⟩
def afE:AC:=(.sq (rG [gC 8 3 2,gM 9 1,ga 10 112 [8,9],gA 4 10] [4] []) .rt)
def afF:AC:=.kp [1,2] [2] afE
def Yg:bE:=⟨(.sq (rG [gp 2 (.bx 0),gA 4 (kI 0)] [1,2] [2]) (.sq (.sq (rG [gC 5 3 2,ga 6 111 [5,(kI 15)],gB 7 .gtr 6 (kI 15)] [1,2,7] [2]) (.ite 7 (.sq (rG [gA 4 (kI 2)] [4] []) .rt) .sk)) afF)),[.t 4]⟩
def U2:bE:=⟨(.sq (rG [gp 3 (.bx 0),gp 4 (.bx 1),gp 5 (.bx 2),gp 6 (.al [(.l 4 []),(.l 4 [])])] [3,4,5,6] [3,4,5,6]) (.sq (rG [gF 9 0 3,gC 10 2 9,ga 11 96 [10],gp 7 (.al [(.l 4 []),(.l 4 [])]),gS 2 7 11] [4,5,6,7] [4,5,6,7]) (.sq (.sq (rG [gC 12 3 5,ga 13 113 [12]] [4,6,7,13] [4,6,7]) (.bl 0 (.ru 13 14 (rG [gA 8 14] [4,6,7,8] [4,6,7]) (.bl 1 (.dg [] [] [⟨gC 15 2 7,true,[7],[],true,[],[],[]⟩,⟨gQ 16 4,true,[4],[],true,[],[],[]⟩,gU (gM 17 8) [8],⟨gi 18 2 16 17,true,[16,17],[],true,[],[],[]⟩,⟨gC 19 2 18,true,[18],[],true,[],[],[]⟩,gH (ga 20 98 [15,19]),gH (gS 2 7 20)] [4,6,7] [4,6,7]))))) (.sq (rG [gC 21 2 7,gS 2 6 21] [6] [6]) .rt)))),[.c 6 (some 2)]⟩
def afG:AC:=(.sq (.bl 1 (.sq (.dg [] [] [gX (gC 19 2 1) [1] [1],gU (gF 20 1 1) [1],gX (gQ 21 20) [20] [1],gU (gM 22 3) [3],gX (gi 23 2 21 22) [21,22] [1],gX (gF 24 0 23) [23] [1],gX (gQ 25 24) [24] [1],gU (ga 26 21 [19,25]) [19,25],gU (gn 27 26) [26],gU (gM 28 27) [27],gX (hC 29 2 1 28 false) [1] [1],gU (hF 30 1 1 28 false) [1],gX (hQ 31 30 28 false) [30] [1],gU (hM 32 3 28 false) [3],gX (hi 33 2 31 32 28 false) [31,32] [1],gX (hF 34 1 33 28 false) [33] [1],gX (hQ 35 34 28 false) [34] [1],gH (ha 36 21 [29,35] 28 false),gH (hn 37 36 28 false),gH (gp 38 (.pk 28 (.c (.b true)) 37))] [1,3,38] [1]) (.ite 38 (.sq (rG [gA 2 (kI 5)] [2] []) .rt) .sk))) (rG [gM 17 3,gB 18 .add 17 (kI 1),gA 3 18] [1,3] [1]))
def afH:AC:=.kp [1,3] [1] afG
def afI:AC:=(.sq (.sq (rG [gM 12 3,gF 13 1 1,gQ 14 13,gl 15 14,gB 16 .lss 12 15] [1,3,16] [1]) (.ite 16 .sk (.ex 0))) afH)
def U3:aY:=⟨[1,3],[1],afI⟩
def afJ:AC:=(.sq (.sq (rG [gA 3 (kI 0)] [1,3] [1]) (.bl 0 U3.lp)) (.sq (rG [gA 2 (kI 0)] [2] []) .rt))
def afK:AC:=.kp [1] [1] afJ
def afL:AC:=(.sq (.sq (rG [gF 8 1 1,gQ 9 8,gl 10 9,gB 11 .gtr 10 (kI 20)] [1,11] [1]) (.ite 11 (.sq (rG [gA 2 (kI 2)] [2] []) .rt) .sk)) afK)
def afM:AC:=.kp [1] [1] afL
def Yh:bE:=⟨(.sq (rG [gp 1 (.bx 0),gA 2 (kI 0)] [1] [1]) (.sq (.sq (rG [gF 4 0 1,gQ 5 4,ga 6 50 [5,(kI 1),(kI 6)],gn 7 6] [1,7] [1]) (.ite 7 (.sq (rG [gA 2 (kI 3)] [2] []) .rt) .sk)) afM)),[.t 2]⟩
def Yi:bE:=⟨(.sq (rG [gp 2 (.bx 0),gp 3 (.bx 1),gA 4 (kI 0)] [2,3] [2,3]) (.sq (rG [gC 6 2 2,gF 7 0 3,gQ 8 7,ga 9 114 [6,8],gA 5 9] [2,3,5] [2,3]) (.sq (.sq (rG [gM 10 5,gB 11 .eql 10 (kI 0)] [2,3,5,11] [2,3]) (.ite 11 (rG [gC 12 2 2,gF 13 1 3,gQ 14 13,ga 15 114 [12,14],gA 5 15] [5] []) .sk)) (.sq (rG [gM 16 5,gA 4 16] [4] []) .rt)))),[.t 4]⟩
def afN:AC:=(.sq (.bl 1 (.dg [] [] [gU (gM 24 5) [5],gU (gM 25 0) [0],gU (gM 26 6) [6],gU (gi 27 9 25 26) [25,26],gU (gF 28 7 27) [27],gU (gQ 29 28) [28],gU (gM 30 1) [1],gU (gB 31 .add 30 (kI 1)) [30],gU (ga 32 49 [29,31]) [29,31],gU (gB 33 .add (kI 1) 32) [32],gU (gM 34 0) [0],gU (gM 35 6) [6],gU (gi 36 9 34 35) [34,35],gU (gF 37 8 36) [36],gU (gQ 38 37) [37],gU (gM 39 1) [1],gU (gB 40 .add 39 (kI 1)) [39],gU (ga 41 49 [38,40]) [38,40],gU (gB 42 .add 33 41) [33,41],gH (gB 43 .add 24 42),gH (gA 5 43)] [0,1,5,6] [])) (rG [gM 22 6,gB 23 .add 22 (kI 1),gA 6 23] [0,1,5,6] []))
def afO:AC:=.kp [0,1,5,6] [] afN
def afP:AC:=(.sq (.sq (rG [gM 14 6,gM 15 0,gl 16 15,gB 17 .lss 14 16,gM 18 17,hM 19 5 18 true,hB 20 .leq 19 (kI 50) 18 true,gk 21 18 20 (.c (.b false))] [0,1,5,6,21] []) (.ite 21 .sk (.ex 0))) afO)
def U4:aY:=⟨[0,1,5,6],[],afP⟩
def afQ:AC:=(.sq (.sq (rG [gM 44 5,gB 45 .gtr 44 (kI 51)] [5,45] []) (.ite 45 (.sq (rG [gA 4 (kI 51)] [4] []) .rt) .sk)) (.sq (rG [gM 46 5,gA 4 46] [4] []) .rt))
def afR:AC:=.kp [5] [] afQ
def U5:AC:=(.sq (rG [gA 5 (kI 0)] [0,1,5] []) (.sq (.sq (rG [gA 6 (kI 0)] [0,1,5,6] []) (.bl 0 U4.lp)) afR))
def afS:AC:=.kp [0,1] [] U5
def Yj:bE:=⟨(.sq (rG [gA 4 (kI 0)] [0,1] []) (.sq (.sq (rG [gM 7 0,gl 8 7,gB 9 .gtr 8 (kI 0),gM 10 9,hM 11 1 10 true,hB 12 .gtr 11 (kI 6) 10 true,gk 13 10 12 (.c (.b false))] [0,1,13] []) (.ite 13 (.sq (rG [gA 4 (kI 51)] [4] []) .rt) .sk)) afS)),[.t 4]⟩
def Yk:bE:=⟨(.sq (rG [gA 6 (.c (.b false))] [0,1,2] []) (.sq (rG [gM 7 0,gM 8 1,gB 9 .geq 7 8,gM 10 9,hM 11 0 10 true,hM 12 2 10 true,hB 13 .leq 11 12 10 true,gk 14 10 13 (.c (.b false)),gA 6 14] [6] []) .rt)),[.t 6]⟩
def afT:AC:=(.sq (.bl 3 (.dg [] [] [gU (gF 173 6 8) [8],gX (gQ 174 173) [173] [8],gU (gM 175 13) [13],gX (gi 176 3 174 175) [174,175] [8],gX (gC 177 3 176) [176] [8],gU (gF 178 5 3) [3],gX (gQ 179 178) [178] [3],gX (gl 180 179) [179] [3],gH (ga 181 12 [177,180]),gH (gA 12 181)] [1,2,3,7,8,12,13] [3,8])) (rG [gM 171 13,gB 172 .add 171 (kI 1),gA 13 172] [1,2,3,7,8,12,13] [3,8]))
def afU:AC:=.kp [1,2,3,7,8,13] [3,8] afT
def GA:AC:=(.sq (.sq (rG [gM 162 13,gF 163 6 8,gQ 164 163,gl 165 164,gB 166 .lss 162 165,gM 167 166,hM 168 12 167 true,hB 169 .eql 168 (kI 0) 167 true,gk 170 167 169 (.c (.b false))] [1,2,3,7,8,12,13,170] [3,8]) (.ite 170 .sk (.ex 2))) afU)
def U6:aY:=⟨[1,2,3,7,8,12,13],[3,8],GA⟩
def afV:AC:=(.sq (rG [gM 196 12,gB 197 .neq 196 (kI 0)] [1,2,3,7,12,197] [3]) (.ite 197 (.sq (rG [gM 198 12,gA 6 198] [6] []) .rt) .sk))
def U7:AC:=.kp [1,2,3,7,12] [3] afV
def afW:AC:=(.sq (.sq (rG [gM 189 12,gB 190 .eql 189 (kI 0)] [1,2,3,7,8,12,190] [3,8]) (.ite 190 (rG [gC 191 8 3,gM 192 1,gF 193 8 8,gQ 194 193,ga 195 51 [191,192,194],gA 12 195] [1,2,3,7,12] [3]) .sk)) U7)
def U8:AC:=.kp [1,2,3,7,8,12] [3,8] afW
def afX:AC:=(.sq (.sq (rG [gM 182 12,gB 183 .eql 182 (kI 0)] [1,2,3,7,8,12,183] [3,8]) (.ite 183 (rG [gC 184 8 3,gM 185 1,gF 186 7 8,gQ 187 186,ga 188 51 [184,185,187],gA 12 188] [1,2,3,7,8,12] [3,8]) .sk)) U8)
def U9:AC:=.kp [1,2,3,7,8,12] [3,8] afX
def afY:AC:=(.sq (.sq (rG [gA 13 (kI 0)] [1,2,3,7,8,12,13] [3,8]) (.bl 2 U6.lp)) U9)
def Va:AC:=.kp [1,2,3,7,8,12] [3,8] afY
def afZ:AC:=(.sq (rG [gA 12 (kI 0)] [1,2,3,7,8,9,12] [3,8]) (.sq (.sq (rG [gM 154 9,ga 155 77 [154]] [1,2,3,7,8,12,155] [3,8]) (.ite 155 (rG [gF 156 3 8,gC 157 3 156,gF 158 5 3,gQ 159 158,gl 160 159,ga 161 12 [157,160],gA 12 161] [1,2,3,7,8,12] [3,8]) .sk)) Va))
def af0:AC:=.kp [1,2,3,7,8,9] [3,8] afZ
def Vb:AC:=(.sq (.sq (.dg [] [] [gU (gM 138 9) [9],gU (gB 139 .eql 138 (kI 2)) [138],gU (gM 140 139) [139],gU (hF 141 6 8 140 true) [8],gX (hQ 142 141 140 true) [141] [8],gX (hl 143 142 140 true) [142] [8],gU (hF 144 6 3 140 true) [3],gX (hQ 145 144 140 true) [144] [3],gU (hF 146 2 8 140 true) [8],gX (hQ 147 146 140 true) [146] [8],gX (hi 148 5 145 147 140 true) [145,147] [3],gX (hF 149 0 148 140 true) [148] [3],gX (hQ 150 149 140 true) [149] [3],gU (hl 151 150 140 true) [150],gH (hB 152 .neq 143 151 140 true),gH (gk 153 140 152 (.c (.b false)))] [1,2,3,7,8,9,153] [3,8]) (.ite 153 (.sq (rG [gA 6 (kI 1)] [6] []) .rt) .sk)) af0)
def af1:AC:=.kp [1,2,3,7,8,9] [3,8] Vb
def O6:AC:=(.sq (rG [gF 64 3 8,gF 65 0 64,gQ 66 65,gB 67 .eql 66 (kI 0),gM 68 67,hF 69 3 8 68 true,hF 70 1 69 68 true,hQ 71 70 68 true,hB 72 .eql 71 (kI 0) 68 true,gk 73 68 72 (.c (.b false)),gM 74 73,hF 75 3 8 74 true,hF 76 2 75 74 true,hQ 77 76 74 true,hl 78 77 74 true,hB 79 .eql 78 (kI 0) 74 true,gk 80 74 79 (.c (.b false)),gA 11 80] [1,2,3,7,8,9,11] [3,8]) (.sq (.sq (rG [gM 81 9,ga 82 115 [81],gn 83 82,gM 84 83,hF 85 1 8 84 true,hQ 86 85 84 true,hB 87 .neq 86 (kI 0) 84 true,gk 88 84 87 (.c (.b false)),gM 89 88,hM 90 9 89 false,ha 91 50 [90,(kI 2),(kI 4)] 89 false,hn 92 91 89 false,hM 93 92 89 false,hF 94 2 8 93 true,hQ 95 94 93 true,hB 96 .neq 95 (kI 0) 93 true,hk 97 93 96 (.c (.b false)) 89 false,gp 98 (.pk 89 (.c (.b true)) 97),gM 99 98,hM 100 9 99 false,ha 101 77 [100] 99 false,hn 102 101 99 false,hM 103 102 99 false,hM 104 11 103 true,hn 105 104 103 true,hk 106 103 105 (.c (.b false)) 99 false,gp 107 (.pk 99 (.c (.b true)) 106),gM 108 107,hM 109 9 108 false,hB 110 .neq 109 (kI 2) 108 false,hM 111 110 108 false,hF 112 6 8 111 true,hQ 113 112 111 true,hl 114 113 111 true,hB 115 .gtr 114 (kI 0) 111 true,hk 116 111 115 (.c (.b false)) 108 false,gp 117 (.pk 108 (.c (.b true)) 116),gM 118 117,hM 119 9 118 false,hB 120 .lss 119 (kI 7) 118 false,hM 121 120 118 false,hF 122 7 8 121 true,hQ 123 122 121 true,hl 124 123 121 true,hB 125 .gtr 124 (kI 0) 121 true,hk 126 121 125 (.c (.b false)) 118 false,gp 127 (.pk 118 (.c (.b true)) 126),gM 128 127,hM 129 9 128 false,hB 130 .neq 129 (kI 7) 128 false,hM 131 130 128 false,hF 132 8 8 131 true,hQ 133 132 131 true,hl 134 133 131 true,hB 135 .gtr 134 (kI 0) 131 true,hk 136 131 135 (.c (.b false)) 128 false,gp 137 (.pk 128 (.c (.b true)) 136)] [1,2,3,7,8,9,137] [3,8]) (.ite 137 (.sq (rG [gA 6 (kI 1)] [6] []) .rt) .sk)) af1))
def af2:AC:=.kp [1,2,3,7,8,9] [3,8] O6
def Vc:AC:=(.sq (rG [gM 29 1,gF 30 3 3,gQ 31 30,gl 32 31,gF 33 4 3,gQ 34 33,gl 35 34,gz 36 (.bs 3 1 [(kI 0),(kI 0),29,32,35,(kI 0),(kI 0),(kI 0),(kI 0)]),gM 37 9,gi 38 1 36 37,gQ 39 38,gA 10 39] [1,2,3,7,8,9,10] [3,8]) (.sq (.sq (rG [gM 40 9,ga 41 115 [40],gM 42 41,hF 43 1 8 42 true,hQ 44 43 42 true,hF 45 5 3 42 true,hQ 46 45 42 true,hl 47 46 42 true,hB 48 .sub 47 (kI 1) 42 true,ha 49 50 [44,(kI 0),48] 42 true,hn 50 49 42 true,gk 51 42 50 (.c (.b false)),gM 52 51,hM 53 9 52 false,ha 54 50 [53,(kI 2),(kI 4)] 52 false,hM 55 54 52 false,hF 56 2 8 55 true,hQ 57 56 55 true,hM 58 10 55 true,hB 59 .sub 58 (kI 1) 55 true,ha 60 50 [57,(kI 0),59] 55 true,hn 61 60 55 true,hk 62 55 61 (.c (.b false)) 52 false,gp 63 (.pk 52 (.c (.b true)) 62)] [1,2,3,7,8,9,63] [3,8]) (.ite 63 (.sq (rG [gA 6 (kI 5)] [6] []) .rt) .sk)) af2))
def af3:AC:=.kp [1,2,3,7,8,9] [3,8] Vc
def af4:AC:=(.sq (.bl 1 (.sq (rG [gM 20 2,gM 21 7,gi 22 9 20 21,gC 23 9 22,gp 8 (.al [(.i .i64 0),(.i .i64 0),(.i .i64 0),(.i .i64 0),(.i .i64 0),(.l 37 []),(.l 37 []),(.l 92 []),(.l 92 [])]),gS 9 8 23] [1,2,3,7,8] [3,8]) (.sq (rG [gF 24 0 8,gQ 25 24,gA 9 25] [1,2,3,7,8,9] [3,8]) (.sq (.sq (rG [gM 26 9,ga 27 50 [26,(kI 1),(kI 8)],gn 28 27] [1,2,3,7,8,9,28] [3,8]) (.ite 28 (.sq (rG [gA 6 (kI 7)] [6] []) .rt) .sk)) af3)))) (rG [gM 18 7,gB 19 .add 18 (kI 1),gA 7 19] [1,2,3,7] [3]))
def af5:AC:=.kp [1,2,3,7] [3] af4
def KR:AC:=(.sq (.sq (rG [gM 14 7,gM 15 2,gl 16 15,gB 17 .lss 14 16] [1,2,3,7,17] [3]) (.ite 17 .sk (.ex 0))) af5)
def Vd:aY:=⟨[1,2,3,7],[3],KR⟩
def Ve:bE:=⟨(.sq (rG [gp 3 (.bx 0),gA 6 (kI 0)] [1,2,3] [3]) (.sq (.sq (rG [gA 7 (kI 0)] [1,2,3,7] [3]) (.bl 0 Vd.lp)) (.sq (rG [gA 6 (kI 0)] [6] []) .rt))),[.t 6]⟩
def af6:AC:=(.sq (.bl 1 (rG [gM 19 5,gF 20 2 2,gQ 21 20,gM 22 6,gi 23 3 21 22,gC 24 3 23,gM 25 1,gM 26 5,gB 27 .sub 25 26,ga 28 53 [24,27],gB 29 .add 19 28,gA 5 29] [1,2,5,6] [2])) (rG [gM 17 6,gB 18 .add 17 (kI 1),gA 6 18] [1,2,5,6] [2]))
def af7:AC:=.kp [1,2,5,6] [2] af6
def af8:AC:=(.sq (.sq (rG [gM 7 6,gF 8 2 2,gQ 9 8,gl 10 9,gB 11 .lss 7 10,gM 12 11,hM 13 5 12 true,hM 14 1 12 true,hB 15 .leq 13 14 12 true,gk 16 12 15 (.c (.b false))] [1,2,5,6,16] [2]) (.ite 16 .sk (.ex 0))) af7)
def Vf:aY:=⟨[1,2,5,6],[2],af8⟩
def Yl:bE:=⟨(.sq (rG [gp 2 (.bx 0),gA 4 (kI 0)] [1,2] [2]) (.sq (rG [gA 5 (kI 1)] [1,2,5] [2]) (.sq (.sq (rG [gA 6 (kI 0)] [1,2,5,6] [2]) (.bl 0 Vf.lp)) (.sq (rG [gM 30 5,gA 4 30] [4] []) .rt)))),[.t 4]⟩
def af9:AC:=(.sq (.bl 1 (rG [gM 14 3,gF 15 2 1,gQ 16 15,gM 17 4,gi 18 3 16 17,gC 19 3 18,ga 20 54 [19],gp 21 (.ap 37 3 40 14 20),gA 3 21] [1,3,4] [1])) (rG [gM 12 4,gB 13 .add 12 (kI 1),gA 4 13] [1,3,4] [1]))
def aga:AC:=.kp [1,3,4] [1] af9
def agb:AC:=(.sq (.sq (rG [gM 7 4,gF 8 2 1,gQ 9 8,gl 10 9,gB 11 .lss 7 10] [1,3,4,11] [1]) (.ite 11 .sk (.ex 0))) aga)
def Vg:aY:=⟨[1,3,4],[1],agb⟩
def Ym:bE:=⟨(.sq (rG [gp 1 (.bx 0),gA 2 (.c (.l 37 []))] [1] [1]) (.sq (rG [gC 5 3 1,gp 6 (.bs 37 3 [5]),gA 3 6] [1,3] [1]) (.sq (.sq (.rg [.own 3 37] [gA 4 (kI 0)] [1,3,4] [1]) (.bl 0 Vg.lp)) (.sq (rG [gM 22 3,gA 2 22] [2,3] []) .rt)))),[.t 2]⟩
def agc:AC:=(.sq (.bl 1 (.sq (.dg [] [20] [gL (gF 13 0 5) [5] [20],gV (gQ 14 13) [13] [5] [20],gV (gC 15 2 2) [2] [2] [20],gL (gM 16 6) [6] [20],gL (gF 17 0 3) [3] [20],gV (gQ 18 17) [17] [3] [20],gV (ga 19 116 [15,16,18]) [15,16,18] [3] [20],gU (gz 20 (.bs 4 1 [19])) [19],gH (gp 21 (.ap 4 1 1 14 20)),gH (gF 22 0 5),gH (gS 1 22 21)] [2,3,4,5,6] [2,3,4,5]) (.dg [] [30] [gL (gF 23 1 5) [5] [30],gV (gQ 24 23) [23] [5] [30],gV (gC 25 2 2) [2] [2] [30],gL (gM 26 6) [6] [30],gL (gF 27 1 3) [3] [30],gV (gQ 28 27) [27] [3] [30],gV (ga 29 116 [25,26,28]) [25,26,28] [3] [30],gU (gz 30 (.bs 4 1 [29])) [29],gH (gp 31 (.ap 4 1 1 24 30)),gH (gF 32 1 5),gH (gS 1 32 31)] [2,3,4,5,6] [2,3,4,5]))) (rG [gM 11 6,gB 12 .add 11 (kI 1),gA 6 12] [2,3,4,5,6] [2,3,4,5]))
def agd:AC:=.kp [2,3,4,5,6] [2,3,4,5] agc
def age:AC:=(.sq (.sq (rG [gM 7 6,gF 8 0 2,gQ 9 8,gB 10 .lss 7 9] [2,3,4,5,6,10] [2,3,4,5]) (.ite 10 .sk (.ex 0))) agd)
def Vh:aY:=⟨[2,3,4,5,6],[2,3,4,5],age⟩
def Yn:bE:=⟨(.sq (rG [gp 2 (.bx 0),gp 3 (.bx 1),gp 4 (.al [(.l 4 []),(.l 4 [])])] [2,3,4] [2,3,4]) (.sq (rG [gp 5 (.al [.n,.n])] [2,3,4,5] [2,3,4,5]) (.sq (.sq (.rg [.ownC 5 1 4,.ownC 5 0 4] [gA 6 (kI 0)] [2,3,4,5,6] [2,3,4,5]) (.bl 0 Vh.lp)) (.sq (.rg [.fzC 5 0,.fzC 5 1] [gC 33 2 5,gS 2 4 33] [4] [4]) .rt)))),[.c 4 (some 2)]⟩
def agf:AC:=(.sq (.bl 1 (.sq (rG [gF 11 0 3,gQ 12 11,gz 13 (.bs 4 1 [(.c (.b true))]),gp 14 (.ap 4 1 1 12 13),gF 15 0 3,gS 1 15 14] [1,2,3,4] [1,2,3]) (rG [gF 16 1 3,gQ 17 16,gz 18 (.bs 4 1 [(.c (.b false))]),gp 19 (.ap 4 1 1 17 18),gF 20 1 3,gS 1 20 19] [1,2,3,4] [1,2,3]))) (rG [gM 9 4,gB 10 .add 9 (kI 1),gA 4 10] [1,2,3,4] [1,2,3]))
def agh:AC:=.kp [1,2,3,4] [1,2,3] agf
def O7:AC:=(.sq (.sq (rG [gM 5 4,gF 6 0 1,gQ 7 6,gB 8 .lss 5 7] [1,2,3,4,8] [1,2,3]) (.ite 8 .sk (.ex 0))) agh)
def Vi:aY:=⟨[1,2,3,4],[1,2,3],O7⟩
def Vj:bE:=⟨(.sq (rG [gp 1 (.bx 0),gp 2 (.al [(.l 4 []),(.l 4 [])])] [1,2] [1,2]) (.sq (rG [gp 3 (.al [.n,.n])] [1,2,3] [1,2,3]) (.sq (.sq (.rg [.ownC 3 1 4,.ownC 3 0 4] [gA 4 (kI 0)] [1,2,3,4] [1,2,3]) (.bl 0 Vi.lp)) (.sq (.rg [.fzC 3 0,.fzC 3 1] [gC 21 2 3,gS 2 2 21] [2] [2]) .rt)))),[.c 2 (some 2)]⟩
def Vk:AC:=(rG [gC 37 8 2,gC 38 2 3,gM 39 7,gC 40 2 8,gM 41 5,gp 42 (.cm 113 117 [37,38,39,40] 41),gA 5 42] [2,3,5,6] [2,3])
def Vl:AC:=.kp [2,3,5,6,7,8] [2,3,8] Vk
def agi:AC:=(.sq (.bl 1 (.sq (.dg [] [8] [gL (gF 16 7 2) [2] [8],gV (gQ 17 16) [16] [2] [8],gL (gF 18 0 2) [2] [8],gV (gC 19 2 18) [18] [2] [8],gL (ga 20 56 [19]) [19] [8],gU (gp 8 (.al [(.l 4 []),(.l 4 [])])) [],gH (gA 7 17),gH (gS 2 8 20)] [2,3,5,6,7,8] [2,3,8]) (.sq (.sq (rG [gM 21 6,gF 22 6 2,gQ 23 22,gl 24 23,gB 25 .lss 21 24] [2,3,5,6,7,8,25] [2,3,8]) (.ite 25 (.dg [] [] [gU (gF 26 6 2) [2],gX (gQ 27 26) [26] [2],gU (gM 28 6) [6],gX (gi 29 5 27 28) [27,28] [2],gX (gF 30 1 29) [29] [2],gX (gQ 31 30) [30] [2],gU (gF 32 1 3) [3],gX (gQ 33 32) [32] [3],gU (gM 34 6) [6],gX (gi 35 2 33 34) [33,34] [3],gX (gC 36 2 35) [35] [3],gU (gA 7 31) [31],gH (gS 2 8 36)] [2,3,5,6,7,8] [2,3,8]) .sk)) Vl))) (rG [gM 14 6,gB 15 .add 14 (kI 1),gA 6 15] [2,3,5,6] [2,3]))
def agj:AC:=.kp [2,3,5,6] [2,3] agi
def D5:AC:=(.sq (.sq (rG [gM 9 6,gF 10 6 2,gQ 11 10,gl 12 11,gB 13 .leq 9 12] [2,3,5,6,13] [2,3]) (.ite 13 .sk (.ex 0))) agj)
def Vm:aY:=⟨[2,3,5,6],[2,3],D5⟩
def Vn:bE:=⟨(.sq (rG [gp 2 (.bx 0),gp 3 (.bx 1),gA 4 (.c (.l 113 []))] [2,3] [2,3]) (.sq (rG [gA 5 (.c .n)] [2,3,5] [2,3]) (.sq (.sq (rG [gA 6 (kI 0)] [2,3,5,6] [2,3]) (.bl 0 Vm.lp)) (.sq (rG [gM 43 5,gA 4 43] [4,5] []) .rt)))),[.t 4]⟩
def agk:AC:=(.sq (.bl 2 (.dg [] [58] [gL (gM 44 9) [9] [58],gL (gM 45 8) [8] [58],gL (gF 46 6 7) [7] [58],gV (gQ 47 46) [46] [7] [58],gL (gM 48 11) [11] [58],gV (gi 49 3 47 48) [47,48] [7] [58],gV (gC 50 3 49) [49] [7] [58],gL (gp 51 (.cf 0 45 [50])) [45,50] [58],gL (gF 52 0 10) [10] [58],gV (gQ 53 52) [52] [10] [58],gL (gM 54 11) [11] [58],gV (gi 55 1 53 54) [53,54] [10] [58],gV (gQ 56 55) [55] [10] [58],gL (gp 57 (.bd [(.l 4 []),(.l 4 []),(.i .i64 0)] [(0,2,51),(2,1,56)])) [51,56] [58],gU (gz 58 (.bs 115 3 [57])) [57],gH (gp 59 (.ap 115 3 56 44 58)),gH (gA 9 59)] [5,7,8,9,10,11] [3,4,5,7,10])) (rG [gM 42 11,gB 43 .add 42 (kI 1),gA 11 43] [5,7,8,9,10,11] [3,4,5,7,10]))
def agl:AC:=.kp [5,7,8,9,10,11] [3,4,5,7,10] agk
def KT:AC:=(.sq (.sq (rG [gM 37 11,gF 38 6 7,gQ 39 38,gl 40 39,gB 41 .lss 37 40] [5,7,8,9,10,11,41] [3,4,5,7,10]) (.ite 41 .sk (.ex 1))) agl)
def Vp:aY:=⟨[5,7,8,9,10,11],[3,4,5,7,10],KT⟩
def Vq:AC:=(.dg [] [74] [gL (gM 60 9) [9] [74],gL (gM 61 8) [8] [74],gL (gF 62 2 10) [10] [74],gV (gC 63 3 62) [62] [10] [74],gL (gp 64 (.cf 0 61 [63])) [61,63] [74],gL (gF 65 1 7) [7] [74],gV (gQ 66 65) [65] [7] [74],gL (gp 67 (.bd [(.l 4 []),(.l 4 []),(.i .i64 0)] [(0,2,64),(2,1,66)])) [64,66] [74],gL (gF 68 10 5) [5] [74],gV (gC 69 2 68) [68] [5] [74],gL (gF 70 2 7) [7] [74],gV (gQ 71 70) [70] [7] [74],gL (gB 72 .sub (kI (-1)) 71) [71] [74],gL (gp 73 (.bd [(.l 4 []),(.l 4 []),(.i .i64 0)] [(0,2,69),(2,1,72)])) [69,72] [74],gU (gz 74 (.bs 115 3 [67,73])) [67,73],gH (gp 75 (.ap 115 3 56 60 74)),gH (gA 9 75)] [9] [])
def agm:AC:=.kp [5,7,8,9,10] [3,4,5,7,10] Vq
def GB:bE:=⟨(.sq (rG [gp 3 (.bx 0),gp 4 (.bx 1),gp 5 (.bx 2),gA 6 (.c (.l 115 []))] [3,4,5] [3,4,5]) (.sq (rG [gF 12 0 5,gC 13 9 12,gp 7 (.al [(.i .i64 0),(.i .i64 0),(.i .i64 0),(.i .i64 0),(.i .i64 0),(.l 37 []),(.l 37 []),(.l 92 []),(.l 92 [])]),gS 9 7 13] [3,4,5,7] [3,4,5,7]) (.sq (.rg [.fzB 5 true,.fzB 3 true,.fzB 4 true] [gp 14 (.mf 118 [5,3,4]),gA 8 14] [3,5,7,8] [3,4,5,7]) (.sq (rG [gA 9 (.c .n)] [3,5,7,8,9] [3,4,5,7]) (.sq (.sq (.rg [.own 9 115] [gF 15 0 7,gQ 16 15] [3,5,7,8,9,16] [3,4,5,7]) (.bl 0 (.sq (rG [gB 18 .eql 16 (kI 1),gA 17 18] [3,5,7,8,9,16,17] [3,4,5,7]) (.ite 17 (.dg [] [27] [gL (gM 19 9) [9] [27],gL (gM 20 8) [8] [27],gL (gF 21 3 7) [7] [27],gV (gC 22 3 21) [21] [7] [27],gL (gp 23 (.cf 0 20 [22])) [20,22] [27],gL (gF 24 1 7) [7] [27],gV (gQ 25 24) [24] [7] [27],gL (gp 26 (.bd [(.l 4 []),(.l 4 []),(.i .i64 0)] [(0,2,23),(2,1,25)])) [23,25] [27],gU (gz 27 (.bs 115 3 [26])) [26],gH (gp 28 (.ap 115 3 56 19 27)),gH (gA 9 28)] [9] []) (.sq (rG [gB 30 .eql 16 (kI 2),gA 29 30] [3,5,7,8,9,16,29] [3,4,5,7]) (.ite 29 (.sq (rG [gF 31 6 3,gQ 32 31,gF 33 2 7,gQ 34 33,gi 35 5 32 34,gC 36 5 35,gp 10 (.al [(.l 3 []),(.l 92 []),(.i .i64 0),(.i .i64 0),(.l 37 [])]),gS 5 10 36] [5,7,8,9,10] [3,4,5,7,10]) (.sq (.sq (rG [gA 11 (kI 0)] [5,7,8,9,10,11] [3,4,5,7,10]) (.bl 1 Vp.lp)) agm)) (.sq (rG [gB 77 .eql 16 (kI 3),gA 76 77] [3,5,7,8,9,16,76] [3,4,5,7]) (.ite 76 (.dg [] [94] [gL (gM 78 9) [9] [94],gL (gF 79 10 5) [5] [94],gV (gC 80 2 79) [79] [5] [94],gL (gF 81 0 3) [3] [94],gV (gC 82 2 81) [81] [3] [94],gL (gF 83 3 3) [3] [94],gV (gQ 84 83) [83] [3] [94],gL (gF 85 2 7) [7] [94],gV (gQ 86 85) [85] [7] [94],gV (gi 87 2 84 86) [84,86] [3] [94],gV (gC 88 2 87) [87] [3] [94],gL (ga 89 55 [82,88]) [82,88] [94],gL (ga 90 60 [80,89]) [80,89] [94],gL (gF 91 1 7) [7] [94],gV (gQ 92 91) [91] [7] [94],gL (gp 93 (.bd [(.l 4 []),(.l 4 []),(.i .i64 0)] [(0,2,90),(2,1,92)])) [90,92] [94],gU (gz 94 (.bs 115 3 [93])) [93],gH (gp 95 (.ap 115 3 56 78 94)),gH (gA 9 95)] [9] []) (.sq (rG [gB 97 .eql 16 (kI 5),gA 96 97] [5,7,8,9,16,96] [3,4,5,7]) (.ite 96 (.dg [] [111] [gL (gM 98 9) [9] [111],gL (gF 99 10 5) [5] [111],gL (gF 100 0 99) [99] [111],gV (gQ 101 100) [100] [5] [111],gL (gM 102 8) [8] [111],gL (gF 103 3 7) [7] [111],gV (gC 104 3 103) [103] [7] [111],gL (gp 105 (.cf 0 102 [104])) [102,104] [111],gL (gp 106 (.fd none 1 105)) [105] [111],gL (gp 107 (.bd [(.l 4 []),(.l 4 [])] [(0,1,101),(1,1,106)])) [101,106] [111],gL (gF 108 1 7) [7] [111],gV (gQ 109 108) [108] [7] [111],gL (gp 110 (.bd [(.l 4 []),(.l 4 []),(.i .i64 0)] [(0,2,107),(2,1,109)])) [107,109] [111],gU (gz 111 (.bs 115 3 [110])) [110],gH (gp 112 (.ap 115 3 56 98 111)),gH (gA 9 112)] [9] []) (.sq (rG [gB 114 .eql 16 (kI 6),gA 113 114] [5,7,8,9,113] [3,4,5,7]) (.ite 113 (.dg [] [128] [gL (gM 115 9) [9] [128],gL (gM 116 8) [8] [128],gL (gF 117 3 7) [7] [128],gV (gC 118 3 117) [117] [7] [128],gL (gp 119 (.cf 0 116 [118])) [116,118] [128],gL (gp 120 (.fd none 0 119)) [119] [128],gL (gF 121 10 5) [5] [128],gL (gF 122 1 121) [121] [128],gV (gQ 123 122) [122] [5] [128],gL (gp 124 (.bd [(.l 4 []),(.l 4 [])] [(0,1,120),(1,1,123)])) [120,123] [128],gL (gF 125 1 7) [7] [128],gV (gQ 126 125) [125] [7] [128],gL (gp 127 (.bd [(.l 4 []),(.l 4 []),(.i .i64 0)] [(0,2,124),(2,1,126)])) [124,126] [128],gU (gz 128 (.bs 115 3 [127])) [127],gH (gp 129 (.ap 115 3 56 115 128)),gH (gA 9 129)] [9] []) .sk)))))))))))) (.sq (rG [gM 130 9,gA 6 130] [6,9] []) .rt)))))),[.t 6]⟩
def agn:AC:=(.sq (.bl 1 (.sq (rG [gF 13 0 3,gQ 14 13,gM 15 5,gi 16 1 14 15,gQ 17 16,gM 18 17,hF 19 0 2 18 true,hQ 20 19 18 true,hM 21 5 18 true,hi 22 1 20 21 18 true,hQ 23 22 18 true,hn 24 23 18 true,gk 25 18 24 (.c (.b false)),gM 26 25,hF 27 1 2 26 false,hQ 28 27 26 false,hM 29 5 26 false,hi 30 1 28 29 26 false,hQ 31 30 26 false,hM 32 31 26 false,hF 33 1 3 32 true,hQ 34 33 32 true,hM 35 5 32 true,hi 36 1 34 35 32 true,hQ 37 36 32 true,hn 38 37 32 true,hk 39 32 38 (.c (.b false)) 26 false,gp 40 (.pk 26 (.c (.b true)) 39)] [2,3,5,40] [2,3]) (.ite 40 (.sq (rG [gA 4 (.c (.b false))] [4] []) .rt) .sk))) (rG [gM 11 5,gB 12 .add 11 (kI 1),gA 5 12] [2,3,5] [2,3]))
def ago:AC:=.kp [2,3,5] [2,3] agn
def O8:AC:=(.sq (.sq (rG [gM 6 5,gF 7 0 2,gQ 8 7,gl 9 8,gB 10 .lss 6 9] [2,3,5,10] [2,3]) (.ite 10 .sk (.ex 0))) ago)
def Vr:aY:=⟨[2,3,5],[2,3],O8⟩
def Qn:bE:=⟨(.sq (rG [gp 2 (.bx 0),gp 3 (.bx 1),gA 4 (.c (.b false))] [2,3] [2,3]) (.sq (.sq (rG [gA 5 (kI 0)] [2,3,5] [2,3]) (.bl 0 Vr.lp)) (.sq (rG [gA 4 (.c (.b true))] [4] []) .rt))),[.t 4]⟩
def agp:AC:=(.sq (.bl 1 (.sq (.dg [] [28] [gL (gF 14 0 5) [5] [28],gV (gQ 15 14) [14] [5] [28],gL (gF 16 0 2) [2] [28],gV (gQ 17 16) [16] [2] [28],gL (gM 18 6) [6] [28],gV (gi 19 1 17 18) [17,18] [2] [28],gV (gQ 20 19) [19] [2] [28],gL (gM 21 20) [20] [28],gL (hF 22 0 3 21 true) [3] [28],gV (hQ 23 22 21 true) [22] [3] [28],gL (hM 24 6 21 true) [6] [28],gV (hi 25 1 23 24 21 true) [23,24] [3] [28],gV (hQ 26 25 21 true) [25] [3] [28],gL (gk 27 21 26 (.c (.b false))) [21,26] [28],gU (gz 28 (.bs 4 1 [27])) [27],gH (gp 29 (.ap 4 1 1 15 28)),gH (gF 30 0 5),gH (gS 1 30 29)] [2,3,4,5,6] [2,3,4,5]) (.dg [] [45] [gL (gF 31 1 5) [5] [45],gV (gQ 32 31) [31] [5] [45],gL (gF 33 1 2) [2] [45],gV (gQ 34 33) [33] [2] [45],gL (gM 35 6) [6] [45],gV (gi 36 1 34 35) [34,35] [2] [45],gV (gQ 37 36) [36] [2] [45],gL (gM 38 37) [37] [45],gL (hF 39 1 3 38 false) [3] [45],gV (hQ 40 39 38 false) [39] [3] [45],gL (hM 41 6 38 false) [6] [45],gV (hi 42 1 40 41 38 false) [40,41] [3] [45],gV (hQ 43 42 38 false) [42] [3] [45],gL (gp 44 (.pk 38 (.c (.b true)) 43)) [38,43] [45],gU (gz 45 (.bs 4 1 [44])) [44],gH (gp 46 (.ap 4 1 1 32 45)),gH (gF 47 1 5),gH (gS 1 47 46)] [2,3,4,5,6] [2,3,4,5]))) (rG [gM 12 6,gB 13 .add 12 (kI 1),gA 6 13] [2,3,4,5,6] [2,3,4,5]))
def agq:AC:=.kp [2,3,4,5,6] [2,3,4,5] agp
def O9:AC:=(.sq (.sq (rG [gM 7 6,gF 8 0 2,gQ 9 8,gl 10 9,gB 11 .lss 7 10] [2,3,4,5,6,11] [2,3,4,5]) (.ite 11 .sk (.ex 0))) agq)
def Vs:aY:=⟨[2,3,4,5,6],[2,3,4,5],O9⟩
def Vt:bE:=⟨(.sq (rG [gp 2 (.bx 0),gp 3 (.bx 1),gp 4 (.al [(.l 4 []),(.l 4 [])])] [2,3,4] [2,3,4]) (.sq (rG [gp 5 (.al [.n,.n])] [2,3,4,5] [2,3,4,5]) (.sq (.sq (.rg [.ownC 5 1 4,.ownC 5 0 4] [gA 6 (kI 0)] [2,3,4,5,6] [2,3,4,5]) (.bl 0 Vs.lp)) (.sq (.rg [.fzC 5 0,.fzC 5 1] [gC 48 2 5,gS 2 4 48] [4] [4]) .rt)))),[.c 4 (some 2)]⟩
def agr:AC:=(.sq (.sq (rG [gF 11 0 2,gC 12 2 11,gM 13 1,ga 14 119 [12,13],gn 15 14] [15] []) (.ite 15 (.sq (rG [gA 4 (kI 5)] [4] []) .rt) .sk)) (.sq (rG [gA 4 (kI 0)] [4] []) .rt))
def ags:AC:=.kp [1,2] [2] agr
def Yo:bE:=⟨(.sq (rG [gp 2 (.bx 0),gA 4 (kI 0)] [1,2] [2]) (.sq (.sq (rG [gC 6 8 2,ga 7 36 [6],gA 5 7] [1,2,5] [2]) (.sq (rG [gM 8 5,gB 9 .neq 8 (kI 0)] [1,2,5,9] [2]) (.ite 9 (.sq (rG [gM 10 5,gA 4 10] [4] []) .rt) .sk))) ags)),[.t 4]⟩
def Yp:bE:=⟨(.sq (rG [gp 3 (.bx 0),gA 6 (.c .z)] [1,2,3] [3]) (.sq (.dg [] [] [gX (gC 7 8 3) [3] [3],gX (gC 8 8 3) [3] [3],gU (ga 9 37 [8]) [8],gU (gM 10 1) [1],gU (gM 11 2) [2],gH (gp 12 (.bd [(.i .i64 0),(.l 166 []),(.l 3 []),(.l 81 []),(.l 81 []),(.l 83 []),(.l 101 []),(.l 92 []),(.l 45 []),(.l 45 []),(.i .i64 0),(.b false)] [(0,8,7),(8,2,9),(10,1,10),(11,1,11)])),gH (gp 13 (.bx 12)),gH (gA 6 13)] [6] [13]) .rt)),[.t 6]⟩
def Yq:bE:=⟨(.sq (rG [gA 4 (.c (.b false))] [0,1] [0]) (.sq (.dg [] [] [gU (gM 5 0) [0],gU (gM 6 0) [0],gU (gp 7 (.nc 6)) [6],gU (gF 8 0 7) [7],gU (gF 9 0 8) [8],⟨gC 10 2 9,true,[9],[],true,[],[],[]⟩,gU (gM 11 0) [0],gU (gp 12 (.nc 11)) [11],gU (gF 13 0 12) [12],gU (gF 14 3 13) [13],⟨gQ 15 14,true,[14],[],true,[],[],[]⟩,gU (gM 16 1) [1],⟨gi 17 2 15 16,true,[15,16],[],true,[],[],[]⟩,⟨gC 18 2 17,true,[17],[],true,[],[],[]⟩,gU (ga 19 40 [10,18]) [10,18],gH (gp 20 (.c3 120 [5,19])),gH (gA 4 20)] [4] []) .rt)),[.t 4]⟩
def Vu:AC:=(.sq (.sq (rG [gF 23 2 3,gQ 24 23,gB 25 .lss 24 (kI 0),gM 26 25,hF 27 2 3 26 false,hQ 28 27 26 false,hM 29 5 26 false,hB 30 .geq 28 29 26 false,gp 31 (.pk 26 (.c (.b true)) 30)] [31] []) (.ite 31 (.sq (rG [gA 4 (kI 5)] [4] []) .rt) .sk)) (.sq (rG [gA 4 (kI 0)] [4] []) .rt))
def agt:AC:=.kp [3,5] [3] Vu
def agu:AC:=(.sq (rG [gF 14 5 2,gQ 15 14,gl 16 15,gA 5 16] [2,3,5] [2,3]) (.sq (.sq (rG [gF 17 0 3,gQ 18 17,gB 19 .eql 18 (kI 1)] [2,3,5,19] [2,3]) (.ite 19 (rG [gF 20 4 2,gQ 21 20,gl 22 21,gA 5 22] [3,5] [3]) .sk)) agt))
def agv:AC:=.kp [2,3] [2,3] agu
def Yr:bE:=⟨(.sq (rG [gp 2 (.bx 0),gp 3 (.bx 1),gA 4 (kI 0)] [2,3] [2,3]) (.sq (.sq (rG [gF 6 0 3,gQ 7 6,gB 8 .lss 7 (kI 1),gM 9 8,hF 10 0 3 9 false,hQ 11 10 9 false,hB 12 .gtr 11 (kI 3) 9 false,gp 13 (.pk 9 (.c (.b true)) 12)] [2,3,13] [2,3]) (.ite 13 (.sq (rG [gA 4 (kI 7)] [4] []) .rt) .sk)) agv)),[.t 4]⟩
def agw:AC:=(.sq (.bl 1 (.sq (rG [gi 12 4 8 10,gC 13 4 12,gp 7 (.al [(.i .i64 0),(.i .i64 0),(.i .i64 0),(.i .i64 0)]),gS 4 7 13] [0,5,7,8,9,10] [0,7]) (.sq (rG [gM 14 0,gC 15 4 7,gp 16 (.c3 121 [14,15])] [0,5,7,8,9,10,16] [0,7]) (.ite 16 (rG [gM 17 5,gC 18 4 7,gz 19 (.bs 125 4 [18]),gp 20 (.ap 125 4 32 17 19),gA 5 20] [0,5,8,9,10] [0]) .sk)))) (rG [gB 21 .add 10 (kI 1),gM 10 21] [0,5,8,9,10] [0]))
def agx:AC:=.kp [0,5,8,9,10] [0] agw
def agy:AC:=(.sq (rG [gB 11 .lss 10 9] [0,5,8,9,10,11] [0]) (.sq (.ite 11 .sk (.ex 0)) agx))
def Vv:aY:=⟨[0,5,8,9,10],[0],agy⟩
def Ys:bE:=⟨(.sq (rG [gA 4 (.c (.l 125 []))] [0,1] [0]) (.sq (rG [gA 5 (.c .n)] [0,1,5] [0]) (.sq (.sq (.rg [.own 5 125] [gM 8 1,gl 9 8,gM 10 (kI 0)] [0,5,8,9,10] [0]) (.bl 0 Vv.lp)) (.sq (rG [gM 22 5,gA 4 22] [4,5] []) .rt)))),[.t 4]⟩
def agz:AC:=(.sq (rG [gF 14 0 3,gQ 15 14,gM 16 1,gi 17 1 15 16,gQ 18 17,gA 6 18] [6] []) .rt)
def agA:AC:=.kp [1,3] [3] agz
def Yt:bE:=⟨(.sq (rG [gp 3 (.bx 0),gA 6 (.c (.b false))] [1,2,3] [3]) (.sq (.sq (rG [gM 7 2] [1,3,7] [3]) (.ite 7 (.sq (rG [gF 8 1 3,gQ 9 8,gM 10 1,gi 11 1 9 10,gQ 12 11,gn 13 12,gA 6 13] [6] []) .rt) .sk)) agA)),[.t 6]⟩
def agB:AC:=(.sq (rG [gF 26 0 6,gQ 27 26,gF 28 2 9,gQ 29 28,gi 30 2 27 29,gC 31 2 30,gM 32 2,gM 33 3,ga 34 70 [31,32,33],gA 10 34] [10] []) .rt)
def agC:AC:=.kp [2,3,6,9] [6,9] agB
def Yu:bE:=⟨(.sq (rG [gp 5 (.bx 0),gp 6 (.bx 1),gp 9 (.bx 4),gA 10 (.c (.b false))] [2,3,5,6,9] [5,6,9]) (.sq (.sq (rG [gF 11 0 9,gQ 12 11,gB 13 .eql 12 (kI 1)] [2,3,5,6,9,13] [5,6,9]) (.ite 13 (.sq (.dg [] [] [gU (gF 14 0 5) [5],gX (gC 15 2 14) [14] [5],gU (gF 16 4 5) [5],gX (gQ 17 16) [16] [5],gU (gF 18 2 9) [9],gX (gQ 19 18) [18] [9],gX (gi 20 2 17 19) [17,19] [5],gX (gC 21 2 20) [20] [5],gU (ga 22 55 [15,21]) [15,21],gU (gM 23 2) [2],gU (gM 24 3) [3],gH (ga 25 70 [22,23,24]),gH (gA 10 25)] [10] []) .rt) .sk)) agC)),[.t 10]⟩
def agD:AC:=(.sq (.bl 1 (.sq (rG [gM 13 11,gA 5 13] [0,1,5,10,11] []) (.sq (.dg [] [] [gU (gM 14 5) [5],gU (gM 15 0) [0],gU (gl 16 15) [15],gU (gB 17 .geq 14 16) [14,16],gU (gM 18 17) [17],gU (hM 19 5 18 false) [5],gU (hM 20 1 18 false) [1],gU (hl 21 20 18 false) [20],gU (hB 22 .geq 19 21 18 false) [19,21],gU (gp 23 (.pk 18 (.c (.b true)) 22)) [18,22],gU (gM 24 23) [23],gU (hM 25 0 24 false) [0],gU (hM 26 5 24 false) [5],gU (hi 27 4 25 26 24 false) [25,26],gU (hC 28 4 27 24 false) [27],gU (hM 29 1 24 false) [1],gU (hM 30 5 24 false) [5],gU (hi 31 4 29 30 24 false) [29,30],gU (hC 32 4 31 24 false) [31],gH (gg 33 (.ae [1,1,1,1] true 28 32) 24 false),gH (gp 34 (.pk 24 (.c (.b true)) 33))] [0,1,5,10,11,34] []) (.ite 34 (.sq (rG [gM 35 5,gA 4 35] [4] []) .rt) .sk)))) (rG [gB 36 .add 11 (kI 1),gM 11 36] [0,1,10,11] []))
def agE:AC:=.kp [0,1,10,11] [] agD
def agF:AC:=(.sq (rG [gB 12 .lss 11 10] [0,1,10,11,12] []) (.sq (.ite 12 .sk (.ex 0)) agE))
def agG:aY:=⟨[0,1,10,11],[],agF⟩
def c73:bE:=⟨(.sq (rG [gA 4 (kI 0)] [0,1] []) (.sq (.sq (rG [gM 6 0,gl 7 6,gM 8 1,gl 9 8,gB 10 .or 7 9,gM 11 (kI 0)] [0,1,10,11] []) (.bl 0 agG.lp)) (.sq (rG [gA 4 (kI (-1))] [4] []) .rt))),[.t 4]⟩
def agH:AC:=(.sq (.bl 1 (.sq (.dg [] [] [gU (gM 17 0) [0],gU (gM 18 5) [5],gU (gi 19 1 17 18) [17,18],gU (gQ 20 19) [19],gU (gM 21 1) [1],gU (gM 22 5) [5],gU (gi 23 1 21 22) [21,22],gU (gQ 24 23) [23],gH (gB 25 .neq 20 24)] [0,1,5,25] []) (.ite 25 (.sq (rG [gA 4 (.c (.b false))] [4] []) .rt) .sk))) (rG [gM 15 5,gB 16 .add 15 (kI 1),gA 5 16] [0,1,5] []))
def agI:AC:=.kp [0,1,5] [] agH
def agJ:AC:=(.sq (.sq (rG [gM 11 5,gM 12 0,gl 13 12,gB 14 .lss 11 13] [0,1,5,14] []) (.ite 14 .sk (.ex 0))) agI)
def Vw:aY:=⟨[0,1,5],[],agJ⟩
def agK:AC:=(.sq (.sq (rG [gA 5 (kI 0)] [0,1,5] []) (.bl 0 Vw.lp)) (.sq (rG [gA 4 (.c (.b true))] [4] []) .rt))
def agL:AC:=.kp [0,1] [] agK
def Yv:bE:=⟨(.sq (rG [gA 4 (.c (.b false))] [0,1] []) (.sq (.sq (rG [gM 6 0,gl 7 6,gM 8 1,gl 9 8,gB 10 .neq 7 9] [0,1,10] []) (.ite 10 (.sq (rG [gA 4 (.c (.b false))] [4] []) .rt) .sk)) agL)),[.t 4]⟩
def Yw:bE:=⟨(.sq (rG [gA 2 (.c (.b false))] [0] []) (.sq (rG [gM 3 0,gB 4 .eql 3 (kI 1),gM 5 4,hM 6 0 5 false,ha 7 50 [6,(kI 4),(kI 8)] 5 false,gp 8 (.pk 5 (.c (.b true)) 7),gA 2 8] [2] []) .rt)),[.t 2]⟩
def agM:AC:=(.sq (.sq (.rg [.fzB 2 true] [gM 11 1,gp 12 (.mf 131 [2]),gp 13 (.c2 101 [11,12])] [13] []) (.ite 13 (.sq (rG [gA 4 (kI 1)] [4] []) .rt) .sk)) (.sq (rG [gA 4 (kI 0)] [4] []) .rt))
def agN:AC:=.kp [1,2] [2] agM
def c91:bE:=⟨(.sq (rG [gp 2 (.bx 0),gA 4 (kI 0)] [1,2] [2]) (.sq (.sq (rG [gC 6 2 2,ga 7 128 [6],gA 5 7] [1,2,5] [2]) (.sq (rG [gM 8 5,gB 9 .neq 8 (kI 0)] [1,2,5,9] [2]) (.ite 9 (.sq (rG [gM 10 5,gA 4 10] [4] []) .rt) .sk))) agN)),[.t 4]⟩
def agO:AC:=(.sq (.bl 1 (.sq (rG [gi 60 2 56 58,gC 61 2 60,gp 5 (.al [(.l 138 []),(.l 138 [])]),gS 2 5 61] [1,5,56,57,58] [1,5]) (.sq (rG [gF 62 0 1,gC 63 2 62,gC 64 2 5,ga 65 129 [63,64],gA 6 65] [1,6,56,57,58] [1]) (.sq (rG [gM 66 6,gB 67 .neq 66 (kI 0)] [1,6,56,57,58,67] [1]) (.ite 67 (.sq (rG [gM 68 6,gA 2 68] [2] []) .rt) .sk))))) (rG [gB 69 .add 58 (kI 1),gM 58 69] [1,56,57,58] [1]))
def agP:AC:=.kp [1,56,57,58] [1] agO
def agQ:AC:=(.sq (rG [gB 59 .lss 58 57] [1,56,57,58,59] [1]) (.sq (.ite 59 .sk (.ex 0)) agP))
def Vx:aY:=⟨[1,56,57,58],[1],agQ⟩
def agR:AC:=(.sq (.bl 3 (.sq (rG [gi 75 3 71 73,gC 76 3 75,gp 8 (.al [(.b false),(.l 138 []),(.l 138 [])]),gS 3 8 76] [1,8,71,72,73] [1,8]) (.sq (rG [gF 77 0 1,gC 78 2 77,gF 79 1 8,gC 80 2 79,ga 81 129 [78,80],gA 9 81] [1,9,71,72,73] [1]) (.sq (rG [gM 82 9,gB 83 .neq 82 (kI 0)] [1,9,71,72,73,83] [1]) (.ite 83 (.sq (rG [gM 84 9,gA 2 84] [2] []) .rt) .sk))))) (rG [gB 85 .add 73 (kI 1),gM 73 85] [1,71,72,73] [1]))
def agS:AC:=.kp [1,71,72,73] [1] agR
def agT:AC:=(.sq (rG [gB 74 .lss 73 72] [1,71,72,73,74] [1]) (.sq (.ite 74 .sk (.ex 2)) agS))
def Vy:aY:=⟨[1,71,72,73],[1],agT⟩
def agU:AC:=(.sq (.sq (rG [gF 86 5 1,gQ 87 86,gp 88 (.c2 134 [87,(.c (.f 135 []))])] [88] []) (.ite 88 (.sq (rG [gA 2 (kI 1)] [2] []) .rt) .sk)) (.sq (rG [gA 2 (kI 0)] [2] []) .rt))
def agV:AC:=.kp [1] [1] agU
def agW:AC:=(.sq (.sq (rG [gF 70 5 1,gQ 71 70,gl 72 71,gM 73 (kI 0)] [1,71,72,73] [1]) (.bl 2 Vy.lp)) agV)
def agX:AC:=.kp [1] [1] agW
def agY:AC:=(.sq (.sq (rG [gF 51 3 1,gQ 52 51,gF 53 4 1,gQ 54 53,gz 55 (.bs 26 1 [52,54]),ga 56 133 [55],gl 57 56,gM 58 (kI 0)] [1,56,57,58] [1]) (.bl 0 Vx.lp)) agX)
def agZ:AC:=.kp [1] [1] agY
def ag0:AC:=(.sq (.sq (.rg [.fzB 1 true] [gF 47 2 1,gQ 48 47,gp 49 (.mf 132 [1]),gp 50 (.c2 105 [48,49])] [1,50] [1]) (.ite 50 (.sq (rG [gA 2 (kI 5)] [2] []) .rt) .sk)) agZ)
def ag1:AC:=.kp [1] [1] ag0
def ag2:AC:=(.sq (.sq (rG [gF 16 5 1,gQ 17 16,gl 18 17,gB 19 .gtr 18 (kI 16),gM 20 19,hF 21 3 1 20 false,hQ 22 21 20 false,hl 23 22 20 false,hB 24 .gtr 23 (kI 5) 20 false,gp 25 (.pk 20 (.c (.b true)) 24),gM 26 25,hF 27 4 1 26 false,hQ 28 27 26 false,hl 29 28 26 false,hB 30 .gtr 29 (kI 5) 26 false,gp 31 (.pk 26 (.c (.b true)) 30),gM 32 31,hF 33 6 1 32 false,hQ 34 33 32 false,hl 35 34 32 false,hB 36 .gtr 35 (kI 5) 32 false,gp 37 (.pk 32 (.c (.b true)) 36),gM 38 37,hF 39 2 1 38 false,hQ 40 39 38 false,hl 41 40 38 false,hF 42 0 1 38 false,hF 43 0 42 38 false,hQ 44 43 38 false,hB 45 .gtr 41 44 38 false,gp 46 (.pk 38 (.c (.b true)) 45)] [1,46] [1]) (.ite 46 (.sq (rG [gA 2 (kI 2)] [2] []) .rt) .sk)) ag1)
def ag3:AC:=.kp [1] [1] ag2
def Yx:bE:=⟨(.sq (rG [gp 1 (.bx 0),gA 2 (kI 0)] [1] [1]) (.sq (.sq (rG [gF 10 0 1,gC 11 2 10,ga 12 128 [11],gA 3 12] [1,3] [1]) (.sq (rG [gM 13 3,gB 14 .neq 13 (kI 0)] [1,3,14] [1]) (.ite 14 (.sq (rG [gM 15 3,gA 2 15] [2] []) .rt) .sk))) ag3)),[.t 2]⟩
def ag4:AC:=(.sq (.bl 1 (.sq (rG [gi 13 5 9 11,gC 14 5 13,gp 6 (.al [(.l 3 []),(.l 92 []),(.i .i64 0),(.i .i64 0),(.l 37 [])]),gS 5 6 14] [1,4,6,9,10,11] [1,3,6]) (.sq (rG [gF 15 1 6,gQ 16 15,gM 17 4,gp 18 (.c2 137 [16,(kI 1),17]),gn 19 18] [1,4,9,10,11,19] [1,3]) (.ite 19 (.sq (rG [gA 2 (.c (.b false))] [2] []) .rt) .sk)))) (rG [gB 20 .add 11 (kI 1),gM 11 20] [1,4,9,10,11] [1,3]))
def ag5:AC:=.kp [1,4,9,10,11] [1,3] ag4
def ag6:AC:=(.sq (rG [gB 12 .lss 11 10] [1,4,9,10,11,12] [1,3]) (.sq (.ite 12 .sk (.ex 0)) ag5))
def Vz:aY:=⟨[1,4,9,10,11],[1,3],ag6⟩
def ag7:AC:=(.sq (rG [gF 21 7 1,gQ 22 21,gM 23 4,gp 24 (.c2 137 [22,(kI 1),23]),gA 2 24] [2] []) .rt)
def ag8:AC:=.kp [1,4] [1,3] ag7
def Yy:bE:=⟨(.sq (rG [gp 1 (.bx 0),gA 2 (.c (.b false))] [1] [1]) (.sq (rG [gp 3 (.al [(.i .i64 0)]),gS 1 3 (kI 0)] [1,3] [1,3]) (.sq (rG [gp 7 (.mf 136 [3]),gA 4 7] [1,4] [1,3]) (.sq (.sq (rG [gF 8 6 1,gQ 9 8,gl 10 9,gM 11 (kI 0)] [1,4,9,10,11] [1,3]) (.bl 0 Vz.lp)) ag8)))),[.t 2]⟩
def ag9:AC:=(.sq (rG [gF 32 0 3,gQ 33 32,gM 34 5,gp 35 (.sl 3 1 33 none (some 34)),gM 36 6,ga 37 138 [35,36]] [0,3,13,14,15,37] [0,3]) (.ite 37 (.sq (rG [gA 4 (kI 6)] [4] []) .rt) .sk))
def aha:AC:=.kp [0,3,5,6,13,14,15] [0,3] ag9
def ahb:AC:=(.sq (.bl 1 (.sq (rG [gM 17 15,gi 18 1 13 15,gQ 19 18,gA 5 17,gA 6 19] [0,3,5,6,13,14,15] [0,3]) (.sq (.sq (rG [gM 20 6,gB 21 .lss 20 (kI 0),gM 22 21,hM 23 6 22 false,hM 24 0 22 false,gg 25 (.nc 24) 22 false,hF 26 0 25 22 false,hF 27 5 26 22 false,hQ 28 27 22 false,hl 29 28 22 false,hB 30 .geq 23 29 22 false,gp 31 (.pk 22 (.c (.b true)) 30)] [0,3,5,6,13,14,15,31] [0,3]) (.ite 31 (.sq (rG [gA 4 (kI 5)] [4] []) .rt) .sk)) aha))) (rG [gB 38 .add 15 (kI 1),gM 15 38] [0,3,13,14,15] [0,3]))
def ahc:AC:=.kp [0,3,13,14,15] [0,3] ahb
def ahd:AC:=(.sq (rG [gB 16 .lss 15 14] [0,3,13,14,15,16] [0,3]) (.sq (.ite 16 .sk (.ex 0)) ahc))
def VA:aY:=⟨[0,3,13,14,15],[0,3],ahd⟩
def ahe:AC:=(.sq (.dg [] [] [gU (gF 46 2 3) [3],gX (gC 47 3 46) [46] [3],gU (gM 48 0) [0],gU (gp 49 (.nc 48)) [48],gU (gF 50 0 49) [49],gU (gF 51 5 50) [50],⟨gQ 52 51,true,[51],[],true,[],[],[]⟩,⟨gl 53 52,true,[52],[],true,[],[],[]⟩,gH (ga 54 45 [47,53]),gH (gA 4 54)] [4] []) .rt)
def ahf:AC:=.kp [0,3] [0,3] ahe
def ahg:AC:=(.sq (.sq (rG [gM 39 0,gF 40 1 3,gQ 41 40,gp 42 (.c2 95 [39,41]),gA 7 42] [0,3,7] [0,3]) (.sq (rG [gM 43 7,gB 44 .neq 43 (kI 0)] [0,3,7,44] [0,3]) (.ite 44 (.sq (rG [gM 45 7,gA 4 45] [4] []) .rt) .sk))) ahf)
def ahh:AC:=.kp [0,3] [0,3] ahg
def ahi:AC:=(.sq (.sq (rG [gF 12 0 3,gQ 13 12,gl 14 13,gM 15 (kI 0)] [0,3,13,14,15] [0,3]) (.bl 0 VA.lp)) ahh)
def ahj:AC:=.kp [0,3] [0,3] ahi
def Yz:bE:=⟨(.sq (rG [gp 3 (.bx 1),gA 4 (kI 0)] [0,3] [0,3]) (.sq (.sq (rG [gF 8 0 3,gQ 9 8,gl 10 9,gB 11 .gtr 10 (kI 4)] [0,3,11] [0,3]) (.ite 11 (.sq (rG [gA 4 (kI 2)] [4] []) .rt) .sk)) ahj)),[.t 4]⟩
def YA:bE:=⟨(.sq (rG [gp 2 (.bx 0),gA 4 (kI 0)] [1,2] [0,2]) (.sq (rG [gp 5 (.al [(.i .i64 0)]),gS 1 5 (kI 0)] [1,2,5] [0,2,5]) (.sq (rG [gM 6 1,gp 7 (.mf 139 [2,5]),gp 8 (.c2 137 [6,(kI 1),7])] [5] [5]) (.sq (rG [gQ 9 5,gA 4 9] [4] []) .rt)))),[.t 4]⟩
def YB:bE:=⟨(.sq (rG [gp 1 (.bx 0),gp 2 (.al [(.l 4 []),(.l 4 [])])] [1,2] [1,2]) (.sq (.dg [] [3,9] [gL (gz 3 (.bs 4 1 [(.c (.b true))])) [] [9],gL (gF 4 0 1) [1] [3,9],gV (gQ 5 4) [4] [1] [3,9],gL (gp 6 (.ca 1 141 [3,5])) [3,5] [9],gL (gF 7 0 1) [1] [3,9],gV (gQ 8 7) [7] [1] [3,9],gL (gz 9 (.ms 4 1 1 (.b false) 8)) [8] [3],gH (gp 10 (.bd [(.l 4 []),(.l 4 [])] [(0,1,6),(1,1,9)])),gH (gS 2 2 10)] [2] [2]) .rt)),[.c 2 (some 2)]⟩
def ahk:AC:=(.sq (.dg [] [] [gU (gF 36 0 11) [11],gX (gC 37 2 36) [36] [11],gU (gM 38 12) [12],gU (gF 39 2 11) [11],gX (gQ 40 39) [39] [11],⟨gi 41 2 38 40,true,[38,40,12],[],true,[],[],[]⟩,⟨gC 42 2 41,true,[41,12],[],true,[],[],[]⟩,gH (ga 43 43 [37,42]),gH (gn 44 43)] [4,5,6,11,12,16,17,18,44] [4,5,6,11]) (.ite 44 (.sq (.dg [] [] [gU (gM 45 12) [12],gU (gF 46 2 11) [11],gX (gQ 47 46) [46] [11],gU (gM 48 12) [12],gU (gF 49 2 11) [11],gX (gQ 50 49) [49] [11],⟨gi 51 2 48 50,true,[48,50,12],[],true,[],[],[]⟩,⟨gC 52 2 51,true,[51,12],[],true,[],[],[]⟩,gU (gF 53 0 11) [11],gX (gC 54 2 53) [53] [11],gU (ga 55 98 [52,54]) [52,54],gH (gi 56 2 45 47),gH (gS 2 56 55)] [4,5,6,16,17,18] [4,5,6]) (rG [gS 1 6 (.c (.b true))] [4,5,6,16,17,18] [4,5,6])) .sk))
def VB:AC:=.kp [4,5,6,11,12,16,17,18] [4,5,6,11] ahk
def ahl:AC:=(.sq (.bl 1 (.sq (rG [gi 20 4 16 18,gC 21 4 20,gp 11 (.al [(.l 4 []),(.l 4 []),(.i .i64 0),(.b false)]),gS 4 11 21] [4,5,6,11,16,17,18] [4,5,6,11]) (.sq (rG [gF 22 1 4,gQ 23 22,gA 12 23] [4,5,6,11,12,16,17,18] [4,5,6,11]) (.sq (.sq (rG [gF 24 3 11,gQ 25 24,gn 26 25] [4,5,6,11,12,16,17,18,26] [4,5,6,11]) (.ite 26 (.sq (rG [gF 27 0 4,gQ 28 27,gA 12 28] [4,5,6,11,12,16,17,18] [4,5,6,11]) (.sq (rG [gF 29 5 5,gQ 30 29,gF 31 2 11,gQ 32 31,gi 33 3 30 32,gF 34 0 33,gQ 35 34] [4,5,6,11,12,16,17,18,35] [4,5,6,11]) (.ite 35 (.ex 1) .sk))) .sk)) VB)))) (rG [gB 57 .add 18 (kI 1),gM 18 57] [4,5,6,16,17,18] [4,5,6]))
def ahm:AC:=.kp [4,5,6,16,17,18] [4,5,6] ahl
def KU:AC:=(.sq (rG [gB 19 .lss 18 17] [4,5,6,16,17,18,19] [4,5,6]) (.sq (.ite 19 .sk (.ex 0)) ahm))
def VC:aY:=⟨[4,5,6,16,17,18],[4,5,6],KU⟩
def YC:bE:=⟨(.sq (rG [gp 8 (.bx 1),gp 9 (.bx 2)] [3,4,5,6,8,9] [3,4,5,6,8,9]) (.sq (rG [gQ 13 3,gC 14 9 8,gC 15 2 9,gp 16 (.c2 42 [13,14,15]),gl 17 16,gM 18 (kI 0)] [4,5,6,16,17,18] [4,5,6]) (.bl 0 VC.lp))),[]⟩
def YD:bE:=⟨(.sq (rG [gp 2 (.bx 0),gp 3 (.bx 1),gp 4 (.al [(.l 4 []),(.l 4 [])])] [2,3,4] [2,3,4]) (.sq (.dg [] [] [gU (gF 5 0 2) [2],gX (gQ 6 5) [5] [2],gU (gF 7 0 3) [3],gX (gQ 8 7) [7] [3],gX (ga 9 127 [6,8]) [6,8] [2,3],gU (gF 10 1 2) [2],gX (gQ 11 10) [10] [2],gU (gF 12 1 3) [3],gX (gQ 13 12) [12] [3],gH (ga 14 126 [11,13]),gH (gp 15 (.bd [(.l 4 []),(.l 4 [])] [(0,1,9),(1,1,14)])),gH (gS 2 4 15)] [4] [4]) .rt)),[.c 4 (some 2)]⟩
def YE:bE:=⟨(.sq (rG [gp 2 (.bx 0),gp 3 (.bx 1),gA 4 (.c (.b false))] [2,3] [2,3]) (.sq (rG [gF 5 0 3,gQ 6 5,gl 7 6,gF 8 0 2,gQ 9 8,gB 10 .eql 7 9,gM 11 10,hF 12 1 3 11 true,hQ 13 12 11 true,hl 14 13 11 true,hF 15 0 2 11 true,hQ 16 15 11 true,hB 17 .eql 14 16 11 true,gk 18 11 17 (.c (.b false)),gA 4 18] [4] []) .rt)),[.t 4]⟩
def YF:bE:=⟨(.sq (rG [gA 4 (.c (.b false))] [0,1] []) (.sq (rG [gM 5 0,gM 6 1,gp 7 (.c2 142 [5,6]),gB 8 .geq 7 (kI 0),gA 4 8] [4] []) .rt)),[.t 4]⟩
def YG:AC:=(.sq (.bl 5 (.sq (rG [gi 46 2 42 44,gC 47 2 46,gp 9 (.al [(.i .i64 0),(.i .i64 0)]),gS 2 9 47] [1,3,5,6,7,9,11,12,29,42,43,44] [1,9]) (.sq (rG [gF 48 0 9,gQ 49 48,gM 50 7,gB 51 .eql 49 50] [1,3,5,6,7,9,11,12,29,42,43,44,51] [1,9]) (.ite 51 (rG [gM 52 6,gF 53 1 9,gQ 54 53,gz 55 (.bs 3 1 [54]),gp 56 (.ap 3 1 8 52 55),gA 6 56] [1,3,5,6,7,11,12,29,42,43,44] [1]) .sk)))) (rG [gB 57 .add 44 (kI 1),gM 44 57] [1,3,5,6,7,11,12,29,42,43,44] [1]))
def YH:AC:=.kp [1,3,5,6,7,11,12,29,42,43,44] [1] YG
def YI:AC:=(.sq (rG [gB 45 .lss 44 43] [1,3,5,6,7,11,12,29,42,43,44,45] [1]) (.sq (.ite 45 .sk (.ex 4)) YH))
def Qo:aY:=⟨[1,3,5,6,7,11,12,29,42,43,44],[1],YI⟩
def YJ:AC:=(.sq (rG [gM 38 5,gM 39 7,gi 40 1 38 39,gS 1 40 (.c (.b true))] [1,3,5,6,7,11,12,29] [1]) (.sq (rG [gF 41 1 1,gQ 42 41,gl 43 42,gM 44 (kI 0)] [1,3,5,6,7,11,12,29,42,43,44] [1]) (.bl 4 Qo.lp)))
def YK:AC:=.kp [1,3,5,6,7,11,12,29] [1] YJ
def YL:AC:=(.bl 3 (.sq (rG [gM 23 6,gM 24 6,gl 25 24,gB 26 .sub 25 (kI 1),gi 27 1 23 26,gQ 28 27,gA 7 28] [1,3,5,6,7,11,12,29] [1]) (.sq (rG [gM 29 6,gM 30 6,gl 31 30,gB 32 .sub 31 (kI 1),gp 33 (.sl 3 1 29 none (some 32)),gA 6 33] [1,3,5,6,7,11,12,29] [1]) (.sq (.sq (rG [gM 34 5,gM 35 7,gi 36 1 34 35,gQ 37 36] [1,3,5,6,7,11,12,29,37] [1]) (.ite 37 (.ex 3) .sk)) YK))))
def YM:AC:=.kp [1,3,5,6,11,12,29] [1] YL
def YN:AC:=(.sq (.sq (.rg [.own 6 3] [gM 20 6,gl 21 20,gB 22 .gtr 21 (kI 0)] [1,3,5,6,11,12,22,29] [1]) (.ite 22 .sk (.ex 2))) YM)
def Qp:aY:=⟨[1,3,5,6,11,12,29],[1],YN⟩
def YO:AC:=(.rg [.fz 5] [gM 58 3,gM 59 5,gz 60 (.bs 43 1 [59]),gp 61 (.ap 43 1 24 58 60),gA 3 61] [1,3,11,12] [1])
def YP:AC:=.kp [1,3,5,11,12] [1] YO
def YQ:AC:=(.sq (.bl 1 (.sq (rG [gM 14 12,gA 4 14] [1,3,4,11,12] [1]) (.sq (rG [gF 15 0 1,gQ 16 15,gp 17 (.ms 4 1 1 (.b false) 16),gA 5 17] [1,3,4,5,11,12] [1]) (.sq (rG [gM 18 4,gp 19 (.bs 3 1 [18]),gA 6 19] [1,3,5,6,11,12,29] [1]) (.sq (.bl 2 Qp.lp) YP))))) (rG [gB 62 .add 12 (kI 1),gM 12 62] [1,3,11,12] [1]))
def YR:AC:=.kp [1,3,11,12] [1] YQ
def YS:AC:=(.sq (rG [gB 13 .lss 12 11] [1,3,11,12,13] [1]) (.sq (.ite 13 .sk (.ex 0)) YR))
def Qq:aY:=⟨[1,3,11,12],[1],YS⟩
def Sx:bE:=⟨(.sq (rG [gp 1 (.bx 0),gA 2 (.c (.l 43 []))] [1] [1]) (.sq (rG [gA 3 (.c .n)] [1,3] [1]) (.sq (.sq (.rg [.own 3 43] [gF 10 0 1,gQ 11 10,gM 12 (kI 0)] [1,3,11,12] [1]) (.bl 0 Qq.lp)) (.sq (rG [gM 63 3,gA 2 63] [2,3] []) .rt)))),[.t 2]⟩
def YT:AC:=(.sq (.bl 1 (.sq (rG [gM 12 10,gp 6 (.al [(.i .i64 0)]),gS 1 6 12] [0,2,5,6,9,10] [2,6]) (.sq (.rg [.fzB 6 false] [gp 13 (.mf 104 [2,6]),gA 7 13] [0,2,5,7,9,10] [2,6]) (rG [gM 14 5,gM 15 0,gM 16 7,gp 17 (.c2 107 [15,16]),gn 18 17,gz 19 (.bs 4 1 [18]),gp 20 (.ap 4 1 1 14 19),gA 5 20] [0,2,5,9,10] [2])))) (rG [gB 21 .add 10 (kI 1),gM 10 21] [0,2,5,9,10] [2]))
def YU:AC:=.kp [0,2,5,9,10] [2] YT
def YV:AC:=(.sq (rG [gB 11 .lss 10 9] [0,2,5,9,10,11] [2]) (.sq (.ite 11 .sk (.ex 0)) YU))
def Qr:aY:=⟨[0,2,5,9,10],[2],YV⟩
def Sy:bE:=⟨(.sq (rG [gA 4 (.c (.l 4 []))] [0,1,2] [1,2]) (.sq (rG [gA 5 (.c .n)] [0,1,2,5] [1,2]) (.sq (.sq (.rg [.own 5 4] [gF 8 0 1,gQ 9 8,gM 10 (kI 0)] [0,2,5,9,10] [2]) (.bl 0 Qr.lp)) (.sq (rG [gM 22 5,gA 4 22] [4,5] []) .rt)))),[.t 4]⟩
def Sz:bE:=⟨(.sq (rG [gp 3 (.bx 0),gA 4 (.c (.b false))] [1,2,3] [1,2,3]) (.sq (.dg [] [] [⟨gQ 5 1,true,[1],[],true,[],[],[]⟩,⟨gQ 6 2,true,[2],[],true,[],[],[]⟩,⟨gi 7 1 5 6,true,[5,6],[],true,[],[],[]⟩,⟨gQ 8 7,true,[7],[],true,[],[],[]⟩,gU (gF 9 0 3) [3],gX (gQ 10 9) [9] [3],gU (gi 11 1 8 10) [8,10],gU (gQ 12 11) [11],gU (gn 13 12) [12],gU (gM 14 13) [13],gU (hF 15 1 3 14 true) [3],gX (hQ 16 15 14 true) [15] [3],gU (gg 17 (.mf 106 [1,2]) 14 true) [1,2],gH (gg 18 (.c2 105 [16,17]) 14 true),gH (hn 19 18 14 true),gH (gk 20 14 19 (.c (.b false))),gH (gA 4 20)] [4] []) .rt)),[.t 4]⟩
def SA:bE:=⟨(.sq (rG [gA 4 (.c (.b false))] [0,1] []) (.sq (rG [gM 5 0,gM 6 1,gp 7 (.c2 143 [5,6]),gB 8 .geq 7 (kI 0),gA 4 8] [4] []) .rt)),[.t 4]⟩
def SB:bE:=⟨(.sq (rG [gA 4 (.c (.b false))] [0,1,2] [1,2]) (.sq (rG [gQ 5 1,gQ 6 2,gi 7 1 5 6,gQ 8 7,gM 9 0,gi 10 1 8 9,gQ 11 10,gA 4 11] [4] []) .rt)),[.t 4]⟩
def SC:bE:=⟨(.sq (rG [gA 4 (.c (.b false))] [0,1] []) (.sq (rG [gM 5 0,gM 6 1,gp 7 (.c2 144 [5,6]),gB 8 .geq 7 (kI 0),gA 4 8] [4] []) .rt)),[.t 4]⟩
def Pa:bE:=⟨(.sq (rG [gp 3 (.bx 0),gp 4 (.al [(.l 4 []),(.l 4 [])])] [1,2,3,4] [1,2,3,4]) (.sq (.dg [] [] [⟨gC 5 2 1,true,[1],[],true,[],[],[]⟩,⟨gQ 6 2,true,[2],[],true,[],[],[]⟩,gU (gp 7 (.nc 6)) [6],gU (gF 8 0 7) [7],⟨gC 9 8 8,true,[8],[],true,[],[],[]⟩,⟨gQ 10 2,true,[2],[],true,[],[],[]⟩,gU (gp 11 (.nc 10)) [10],gU (gF 12 8 11) [11],gU (gF 13 0 12) [12],⟨gQ 14 13,true,[13],[],true,[],[],[]⟩,gX (gC 15 3 3) [3] [3],⟨ga 16 46 [9,14,15],true,[9,14,15],[],true,[],[],[]⟩,gH (ga 17 98 [5,16]),gH (gS 2 4 17)] [4] [4]) .rt)),[.c 4 (some 2)]⟩
def YW:AC:=(.sq (.bl 1 (.sq (rG [gM 11 9,gi 12 1 7 9,gQ 13 12,gA 5 11,gA 6 13] [1,5,6,7,8,9] []) (.sq (rG [gM 14 6,gM 15 14,hM 16 1 15 true,hM 17 5 15 true,hi 18 1 16 17 15 true,hQ 19 18 15 true,hn 20 19 15 true,gk 21 15 20 (.c (.b false))] [1,7,8,9,21] []) (.ite 21 (.sq (rG [gA 4 (.c (.b false))] [4] []) .rt) .sk)))) (rG [gB 22 .add 9 (kI 1),gM 9 22] [1,7,8,9] []))
def YX:AC:=.kp [1,7,8,9] [] YW
def YY:AC:=(.sq (rG [gB 10 .lss 9 8] [1,7,8,9,10] []) (.sq (.ite 10 .sk (.ex 0)) YX))
def Qs:aY:=⟨[1,7,8,9],[],YY⟩
def SD:bE:=⟨(.sq (rG [gA 4 (.c (.b false))] [0,1] []) (.sq (.sq (rG [gM 7 0,gl 8 7,gM 9 (kI 0)] [1,7,8,9] []) (.bl 0 Qs.lp)) (.sq (rG [gA 4 (.c (.b true))] [4] []) .rt))),[.t 4]⟩
def YZ:AC:=(.sq (.bl 1 (.sq (rG [gi 13 9 9 11,gC 14 9 13,gp 7 (.al [(.i .i64 0),(.i .i64 0),(.i .i64 0),(.i .i64 0),(.i .i64 0),(.l 37 []),(.l 37 []),(.l 92 []),(.l 92 [])]),gS 9 7 14] [0,5,7,9,10,11] [0,5,7]) (.sq (.dg [] [] [gU (gM 15 0) [0],gU (gp 16 (.nc 15)) [15],gU (gF 17 10 16) [16],⟨gQ 18 17,true,[17],[],true,[],[],[]⟩,gU (gM 19 0) [0],gU (gp 20 (.nc 19)) [19],gU (gF 21 11 20) [20],⟨gQ 22 21,true,[21],[],true,[],[],[]⟩,gX (gC 23 9 7) [7] [7],gX (gC 24 2 5) [5] [5],gH (gp 25 (.d2 18 [22,23,24]))] [0,5,7,9,10,11] [0,5,7]) (.sq (rG [gM 26 0,gp 27 (.nc 26),gF 28 11 27,gQ 29 28,gB 30 .add 29 (kI 1),gp 31 (.nc 26),gF 32 11 31,gS 1 32 30] [0,5,7,9,10,11] [0,5,7]) (.sq (rG [gF 33 0 7,gQ 34 33,gB 35 .geq 34 (kI 7)] [0,5,7,9,10,11,35] [0,5,7]) (.ite 35 (.sq (.dg [] [8] [gV (gC 36 2 5) [5] [5] [8],gL (gM 37 0) [0] [8],gL (gp 38 (.nc 37)) [37] [8],gL (gF 39 0 38) [38] [8],⟨gC 40 8 39,true,[39],[],true,[],[8],[]⟩,gL (gM 41 0) [0] [8],gL (gp 42 (.nc 41)) [41] [8],gL (gF 43 8 42) [42] [8],gL (gF 44 0 43) [43] [8],⟨gQ 45 44,true,[44],[],true,[],[8],[]⟩,gL (gF 46 3 7) [7] [8],gV (gC 47 3 46) [46] [7] [8],⟨ga 48 46 [40,45,47],true,[40,45,47],[],true,[],[8],[]⟩,gL (ga 49 98 [36,48]) [36,48] [8],gU (gp 8 (.al [(.l 4 []),(.l 4 [])])) [],gH (gS 2 8 49)] [0,5,7,8,9,10,11] [0,5,7,8]) (.sq (rG [gM 50 0,gF 51 7 7,gQ 52 51,gC 53 2 8,gp 54 (.c2 110 [50,52,53])] [0,5,7,8,9,10,11] [0,5,7,8]) (rG [gM 55 0,gF 56 8 7,gQ 57 56,gC 58 2 8,gp 59 (.c2 110 [55,57,58])] [0,5,9,10,11] [0,5]))) .sk)))))) (rG [gB 60 .add 11 (kI 1),gM 11 60] [0,5,9,10,11] [0,5]))
def Y0:AC:=.kp [0,5,9,10,11] [0,5] YZ
def CS:AC:=(.sq (rG [gB 12 .lss 11 10] [0,5,9,10,11,12] [0,5]) (.sq (.ite 12 .sk (.ex 0)) Y0))
def Qt:aY:=⟨[0,5,9,10,11],[0,5],CS⟩
def SE:bE:=⟨(.sq (rG [gp 5 (.bx 2)] [0,1,5] [0,5]) (.sq (rG [gM 9 1,gl 10 9,gM 11 (kI 0)] [0,5,9,10,11] [0,5]) (.bl 0 Qt.lp))),[]⟩
def Y1:AC:=(rG [gM 18 5,gC 19 3 7,gM 20 1,gM 21 5,gB 22 .sub 20 21,ga 23 111 [19,22],gB 24 .add 18 23,gA 5 24] [1,5,9,10,11] [])
def Y2:AC:=.kp [1,5,7,9,10,11] [7] Y1
def Y3:AC:=(.sq (.bl 1 (.sq (rG [gi 13 3 9 11,gC 14 3 13,gp 7 (.al [(.i .i64 0),(.i .i64 0),(.l 37 [])]),gS 3 7 14] [1,5,7,9,10,11] [7]) (.sq (.sq (rG [gM 15 5,gM 16 1,gB 17 .gtr 15 16] [1,5,7,9,10,11,17] [7]) (.ite 17 (.ex 0) .sk)) Y2))) (rG [gB 25 .add 11 (kI 1),gM 11 25] [1,5,9,10,11] []))
def Y4:AC:=.kp [1,5,9,10,11] [] Y3
def Y5:AC:=(.sq (rG [gB 12 .lss 11 10] [1,5,9,10,11,12] []) (.sq (.ite 12 .sk (.ex 0)) Y4))
def Qu:aY:=⟨[1,5,9,10,11],[],Y5⟩
def SF:bE:=⟨(.sq (rG [gp 2 (.bx 0),gA 4 (kI 0)] [1,2] [2]) (.sq (rG [gA 5 (kI 1)] [1,2,5] [2]) (.sq (.sq (rG [gF 8 2 2,gQ 9 8,gl 10 9,gM 11 (kI 0)] [1,5,9,10,11] []) (.bl 0 Qu.lp)) (.sq (rG [gM 26 5,gA 4 26] [4] []) .rt)))),[.t 4]⟩
def Y6:AC:=(.sq (.bl 1 (.sq (rG [gi 20 3 16 18,gC 21 3 20,gp 7 (.al [(.i .i64 0),(.i .i64 0),(.l 37 [])]),gS 3 7 21] [1,7,16,17,18] [7]) (.sq (rG [gC 22 3 7,gM 23 1,ga 24 112 [22,23],gA 8 24] [1,8,16,17,18] []) (.sq (rG [gM 25 8,gB 26 .neq 25 (kI 0)] [1,8,16,17,18,26] []) (.ite 26 (.sq (rG [gM 27 8,gA 4 27] [4] []) .rt) .sk))))) (rG [gB 28 .add 18 (kI 1),gM 18 28] [1,16,17,18] []))
def Y7:AC:=.kp [1,16,17,18] [] Y6
def Y8:AC:=(.sq (rG [gB 19 .lss 18 17] [1,16,17,18,19] []) (.sq (.ite 19 .sk (.ex 0)) Y7))
def Qv:aY:=⟨[1,16,17,18],[],Y8⟩
def Y9:AC:=(.sq (.sq (rG [gF 15 2 2,gQ 16 15,gl 17 16,gM 18 (kI 0)] [1,16,17,18] []) (.bl 0 Qv.lp)) (.sq (rG [gA 4 (kI 0)] [4] []) .rt))
def Za:AC:=.kp [1,2] [2] Y9
def SG:bE:=⟨(.sq (rG [gp 2 (.bx 0),gA 4 (kI 0)] [1,2] [2]) (.sq (.sq (rG [gC 9 3 2,gM 10 1,ga 11 145 [9,10],gA 5 11] [1,2,5] [2]) (.sq (rG [gM 12 5,gB 13 .neq 12 (kI 0)] [1,2,5,13] [2]) (.ite 13 (.sq (rG [gM 14 5,gA 4 14] [4] []) .rt) .sk))) Za)),[.t 4]⟩
def Zb:bE:=⟨(.sq (rG [gp 1 (.bx 0),gA 2 (.c .nf)] [1] [1]) (.sq (.rg [.fzB 1 true] [gp 3 (.mf 146 [1]),gA 2 3] [2] [1]) .rt)),[.t 2]⟩
def Zc:AC:=(.sq (.bl 3 (.sq (.dg [] [] [gX (gC 42 2 2) [2] [2],gU (gM 43 1) [1],gU (gM 44 5) [5],gU (gi 45 2 43 44) [43,44],gU (gF 46 1 45) [45],gU (gQ 47 46) [46],gU (gM 48 6) [6],gU (gi 49 1 47 48) [47,48],gU (gQ 50 49) [49],gH (ga 51 21 [42,50]),gH (gn 52 51)] [1,2,5,6,52] [2]) (.ite 52 (.sq (rG [gA 4 (kI 5)] [4] []) .rt) .sk))) (rG [gM 40 6,gB 41 .add 40 (kI 1),gA 6 41] [1,2,5,6] [2]))
def Zd:AC:=.kp [1,2,5,6] [2] Zc
def Ze:AC:=(.sq (.sq (rG [gM 32 6,gM 33 1,gM 34 5,gi 35 2 33 34,gF 36 1 35,gQ 37 36,gl 38 37,gB 39 .lss 32 38] [1,2,5,6,39] [2]) (.ite 39 .sk (.ex 2))) Zd)
def Qw:aY:=⟨[1,2,5,6],[2],Ze⟩
def Zf:AC:=(.sq (.bl 5 (.sq (.dg [] [] [gU (gM 63 1) [1],gU (gM 64 5) [5],gU (gi 65 2 63 64) [63,64],gU (gF 66 1 65) [65],gU (gQ 67 66) [66],gU (gM 68 7) [7],gU (gi 69 1 67 68) [67,68],gU (gQ 70 69) [69],gU (gM 71 1) [1],gU (gM 72 5) [5],gU (gi 73 2 71 72) [71,72],gU (gF 74 1 73) [73],gU (gQ 75 74) [74],gU (gM 76 7) [7],gU (gB 77 .sub 76 (kI 1)) [76],gU (gi 78 1 75 77) [75,77],gU (gQ 79 78) [78],gH (gB 80 .leq 70 79)] [1,2,5,7,80] [2]) (.ite 80 (.sq (rG [gA 4 (kI 4)] [4] []) .rt) .sk))) (rG [gM 61 7,gB 62 .add 61 (kI 1),gA 7 62] [1,2,5,7] [2]))
def Zg:AC:=.kp [1,2,5,7] [2] Zf
def Zh:AC:=(.sq (.sq (rG [gM 53 7,gM 54 1,gM 55 5,gi 56 2 54 55,gF 57 1 56,gQ 58 57,gl 59 58,gB 60 .lss 53 59] [1,2,5,7,60] [2]) (.ite 60 .sk (.ex 4))) Zg)
def Qx:aY:=⟨[1,2,5,7],[2],Zh⟩
def Zi:AC:=(.sq (rG [gA 7 (kI 1)] [1,2,5,7] [2]) (.bl 4 Qx.lp))
def Zj:AC:=.kp [1,2,5] [2] Zi
def Zk:AC:=(.sq (.sq (rG [gA 6 (kI 0)] [1,2,5,6] [2]) (.bl 2 Qw.lp)) Zj)
def Zl:AC:=.kp [1,2,5] [2] Zk
def Zm:AC:=(.sq (.sq (rG [gM 25 1,gM 26 5,gi 27 2 25 26,gF 28 1 27,gQ 29 28,gl 30 29,gB 31 .gtr 30 (kI 6)] [1,2,5,31] [2]) (.ite 31 (.sq (rG [gA 4 (kI 2)] [4] []) .rt) .sk)) Zl)
def Zn:AC:=.kp [1,2,5] [2] Zm
def Zo:AC:=(.sq (.bl 1 (.sq (.sq (.dg [] [] [gX (gC 17 2 2) [2] [2],gU (gM 18 1) [1],gU (gM 19 5) [5],gU (gi 20 2 18 19) [18,19],gU (gF 21 0 20) [20],gU (gQ 22 21) [21],gH (ga 23 21 [17,22]),gH (gn 24 23)] [1,2,5,24] [2]) (.ite 24 (.sq (rG [gA 4 (kI 5)] [4] []) .rt) .sk)) Zn)) (rG [gM 15 5,gB 16 .add 15 (kI 1),gA 5 16] [1,2,5] [2]))
def Zp:AC:=.kp [1,2,5] [2] Zo
def Zq:AC:=(.sq (.sq (rG [gM 11 5,gM 12 1,gl 13 12,gB 14 .lss 11 13] [1,2,5,14] [2]) (.ite 14 .sk (.ex 0))) Zp)
def Qy:aY:=⟨[1,2,5],[2],Zq⟩
def Zr:AC:=(.sq (.sq (rG [gA 5 (kI 0)] [1,2,5] [2]) (.bl 0 Qy.lp)) (.sq (rG [gA 4 (kI 0)] [4] []) .rt))
def Zs:AC:=.kp [1,2] [2] Zr
def SH:bE:=⟨(.sq (rG [gp 2 (.bx 0),gA 4 (kI 0)] [1,2] [2]) (.sq (.sq (rG [gM 8 1,gl 9 8,gB 10 .gtr 9 (kI 4)] [1,2,10] [2]) (.ite 10 (.sq (rG [gA 4 (kI 2)] [4] []) .rt) .sk)) Zs)),[.t 4]⟩
def SI:bE:=⟨(.sq (rG [gA 2 (.c (.b false))] [0] []) (.sq (rG [gM 3 0,ga 4 50 [3,(kI 1),(kI 3)],gM 5 4,hM 6 0 5 false,hB 7 .eql 6 (kI 5) 5 false,gp 8 (.pk 5 (.c (.b true)) 7),gM 9 8,hM 10 0 9 false,hB 11 .eql 10 (kI 6) 9 false,gp 12 (.pk 9 (.c (.b true)) 11),gA 2 12] [2] []) .rt)),[.t 2]⟩
def Zt:AC:=(.sq (.bl 3 (.dg [] [] [gU (gM 34 8) [8],gU (gM 35 34) [34],gX (hC 36 2 3 35 false) [3] [3],gU (hM 37 1 35 false) [1],gU (hM 38 2 35 false) [2],gU (hM 39 7 35 false) [7],gU (hi 40 2 38 39 35 false) [38,39],gU (hF 41 1 40 35 false) [40],gU (hQ 42 41 35 false) [41],gU (hM 43 9 35 false) [9],gU (hi 44 1 42 43 35 false) [42,43],gU (hQ 45 44 35 false) [44],gH (ha 46 125 [36,37,45] 35 false),gH (gp 47 (.pk 35 (.c (.b true)) 46)),gH (gA 8 47)] [1,2,3,7,8,9] [3])) (rG [gM 32 9,gB 33 .add 32 (kI 1),gA 9 33] [1,2,3,7,8,9] [3]))
def Zu:AC:=.kp [1,2,3,7,8,9] [3] Zt
def Zv:AC:=(.sq (.sq (rG [gM 24 9,gM 25 2,gM 26 7,gi 27 2 25 26,gF 28 1 27,gQ 29 28,gl 30 29,gB 31 .lss 24 30] [1,2,3,7,8,9,31] [3]) (.ite 31 .sk (.ex 2))) Zu)
def Qz:aY:=⟨[1,2,3,7,8,9],[3],Zv⟩
def Zw:AC:=(.sq (rG [gM 48 8,gn 49 48] [1,2,3,7,49] [3]) (.ite 49 (.sq (rG [gA 6 (.c (.b false))] [6] []) .rt) .sk))
def Zx:AC:=.kp [1,2,3,7,8] [3] Zw
def Zy:AC:=(.sq (.bl 1 (.sq (.dg [] [] [gX (gC 16 2 3) [3] [3],gU (gM 17 1) [1],gU (gM 18 2) [2],gU (gM 19 7) [7],gU (gi 20 2 18 19) [18,19],gU (gF 21 0 20) [20],gU (gQ 22 21) [21],gH (ga 23 125 [16,17,22]),gH (gA 8 23)] [1,2,3,7,8] [3]) (.sq (.sq (rG [gA 9 (kI 0)] [1,2,3,7,8,9] [3]) (.bl 2 Qz.lp)) Zx))) (rG [gM 14 7,gB 15 .add 14 (kI 1),gA 7 15] [1,2,3,7] [3]))
def Zz:AC:=.kp [1,2,3,7] [3] Zy
def ZA:AC:=(.sq (.sq (rG [gM 10 7,gM 11 2,gl 12 11,gB 13 .lss 10 12] [1,2,3,7,13] [3]) (.ite 13 .sk (.ex 0))) Zz)
def QA:aY:=⟨[1,2,3,7],[3],ZA⟩
def SJ:bE:=⟨(.sq (rG [gp 3 (.bx 0),gA 6 (.c (.b false))] [1,2,3] [3]) (.sq (.sq (rG [gA 7 (kI 0)] [1,2,3,7] [3]) (.bl 0 QA.lp)) (.sq (rG [gA 6 (.c (.b true))] [6] []) .rt))),[.t 6]⟩
def ZB:AC:=(.sq (.bl 1 (.sq (rG [gM 20 2,gM 21 11,gi 22 9 20 21,gC 23 9 22,gp 12 (.al [(.i .i64 0),(.i .i64 0),(.i .i64 0),(.i .i64 0),(.i .i64 0),(.l 37 []),(.l 37 []),(.l 92 []),(.l 92 [])]),gS 9 12 23] [2,4,5,6,8,11,12] [5,6,8,12]) (.sq (rG [gM 24 4,gC 25 9 12,gM 26 4,gl 27 26,gC 28 2 8,gp 29 (.bd [(.i .i64 0),(.i .i64 0),(.i .i64 0),(.i .i64 0),(.i .i64 0),(.l 37 []),(.l 37 []),(.l 92 []),(.l 92 []),(.i .i64 0),(.l 4 []),(.l 4 [])] [(0,9,25),(9,1,27),(10,2,28)]),gz 30 (.bs 113 12 [29]),gp 31 (.ap 113 12 192 24 30),gA 4 31] [2,4,5,6,8,11,12] [5,6,8,12]) (.sq (.rg [.own 4 113] [gF 32 0 12,gQ 33 32,gB 34 .geq 33 (kI 7)] [2,4,5,6,8,11,12,34] [5,6,8,12]) (.ite 34 (.sq (.dg [] [13] [gV (gC 35 2 8) [8] [8] [13],gV (gC 36 8 5) [5] [5] [13],gL (gF 37 0 6) [6] [13],gV (gQ 38 37) [37] [6] [13],gL (gF 39 3 12) [12] [13],gV (gC 40 3 39) [39] [12] [13],gV (ga 41 15 [36,38,40]) [36,38,40] [6] [13],gL (ga 42 60 [35,41]) [35,41] [13],gU (gp 13 (.al [(.l 4 []),(.l 4 [])])) [],gH (gS 2 13 42)] [2,4,5,6,8,11,12,13] [5,6,8,12,13]) (.sq (rG [gC 43 8 5,gC 44 2 6,gF 45 7 12,gQ 46 45,gC 47 2 13,gM 48 4,gp 49 (.cm 113 117 [43,44,46,47] 48),gA 4 49] [2,4,5,6,8,11,12,13] [5,6,8,12,13]) (rG [gC 50 8 5,gC 51 2 6,gF 52 8 12,gQ 53 52,gC 54 2 13,gM 55 4,gp 56 (.cm 113 117 [50,51,53,54] 55),gA 4 56] [2,4,5,6,8,11] [5,6,8]))) .sk))))) (rG [gM 18 11,gB 19 .add 18 (kI 1),gA 11 19] [2,4,5,6,8,11] [5,6,8]))
def ZC:AC:=.kp [2,4,5,6,8,11] [5,6,8] ZB
def GC:AC:=(.sq (.sq (rG [gM 14 11,gM 15 2,gl 16 15,gB 17 .lss 14 16] [2,4,5,6,8,11,17] [5,6,8]) (.ite 17 .sk (.ex 0))) ZC)
def QB:aY:=⟨[2,4,5,6,8,11],[5,6,8],GC⟩
def Pb:bE:=⟨(.sq (rG [gp 5 (.bx 0),gp 6 (.bx 1),gp 8 (.bx 3),gA 10 (.c (.l 113 []))] [2,4,5,6,8] [5,6,8]) (.sq (.sq (rG [gA 11 (kI 0)] [2,4,5,6,8,11] [5,6,8]) (.bl 0 QB.lp)) (.sq (rG [gM 57 4,gA 10 57] [4,10] []) .rt))),[.r 10]⟩
def Pc:bE:=⟨(.sq (rG [gp 4 (.bx 0),gp 5 (.al [(.l 4 []),(.l 4 [])])] [1,2,3,4,5] [1,2,3,4,5]) (.sq (.dg [] [] [gU (gF 6 10 1) [1],⟨gC 7 2 6,true,[6],[],true,[],[],[]⟩,⟨gC 8 8 2,true,[2],[],true,[],[],[]⟩,gU (gF 9 0 3) [3],⟨gQ 10 9,true,[9],[],true,[],[],[]⟩,gX (gC 11 3 4) [4] [4],⟨ga 12 15 [8,10,11],true,[8,10,11],[],true,[],[],[]⟩,gH (ga 13 60 [7,12]),gH (gS 2 5 13)] [5] [5]) .rt)),[.c 5 (some 2)]⟩
def SK:bE:=⟨(.sq (rG [gp 2 (.bx 0),gA 4 (.c (.b false))] [1,2] [2]) (.sq (rG [gM 5 1,gB 6 .geq 5 (kI 0),gM 7 6,hM 8 1 7 true,hF 9 0 2 7 true,hQ 10 9 7 true,hB 11 .lss 8 10 7 true,gk 12 7 11 (.c (.b false)),gA 4 12] [4] []) .rt)),[.t 4]⟩
def ZD:AC:=(.sq (.dg [] [] [gU (gF 18 0 3) [3],gX (gQ 19 18) [18] [3],gU (gM 20 0) [0],gU (gp 21 (.nc 20)) [20],gU (gF 22 10 21) [21],⟨gQ 23 22,true,[22],[],true,[],[],[]⟩,gH (gi 24 1 19 23),gH (gQ 25 24),gH (gA 4 25)] [4] []) .rt)
def ZE:AC:=.kp [0,3] [0,3] ZD
def SL:bE:=⟨(.sq (rG [gp 3 (.bx 1),gA 4 (.c (.b false))] [0,3] [0,3]) (.sq (.sq (rG [gM 5 0,gp 6 (.nc 5),gF 7 11 6,gQ 8 7] [0,3,8] [0,3]) (.ite 8 (.sq (.dg [] [] [gU (gF 9 1 3) [3],gX (gQ 10 9) [9] [3],gU (gM 11 0) [0],gU (gp 12 (.nc 11)) [11],gU (gF 13 10 12) [12],⟨gQ 14 13,true,[13],[],true,[],[],[]⟩,gH (gi 15 1 10 14),gH (gQ 16 15),gH (gn 17 16),gH (gA 4 17)] [4] []) .rt) .sk)) ZE)),[.t 4]⟩
def ZF:AC:=(.sq (.dg [] [] [gU (gM 25 0) [0],gU (gM 26 0) [0],gU (gp 27 (.nc 26)) [26],gU (gF 28 8 27) [27],gU (gF 29 0 28) [28],⟨gQ 30 29,true,[29],[],true,[],[],[]⟩,gU (gF 31 2 3) [3],gX (gQ 32 31) [31] [3],⟨gi 33 2 30 32,true,[30,32],[],true,[],[],[]⟩,⟨gC 34 2 33,true,[33],[],true,[],[],[]⟩,gH (gp 35 (.c3 120 [25,34])),gH (gA 4 35)] [4] []) .rt)
def ZG:AC:=.kp [0,3] [0,3] ZF
def SM:bE:=⟨(.sq (rG [gp 3 (.bx 1),gA 4 (.c (.b false))] [0,3] [0,3]) (.sq (.sq (rG [gF 5 0 3,gQ 6 5,gB 7 .eql 6 (kI 1)] [0,3,7] [0,3]) (.ite 7 (.sq (.dg [] [] [gU (gM 8 0) [0],gU (gM 9 0) [0],gU (gp 10 (.nc 9)) [9],gU (gF 11 0 10) [10],gU (gF 12 0 11) [11],⟨gC 13 2 12,true,[12],[],true,[],[],[]⟩,gU (gM 14 0) [0],gU (gp 15 (.nc 14)) [14],gU (gF 16 0 15) [15],gU (gF 17 4 16) [16],⟨gQ 18 17,true,[17],[],true,[],[],[]⟩,gU (gF 19 2 3) [3],gX (gQ 20 19) [19] [3],⟨gi 21 2 18 20,true,[18,20],[],true,[],[],[]⟩,⟨gC 22 2 21,true,[21],[],true,[],[],[]⟩,gU (ga 23 40 [13,22]) [13,22],gH (gp 24 (.c3 120 [8,23])),gH (gA 4 24)] [4] []) .rt) .sk)) ZG)),[.t 4]⟩
def ZH:AC:=(.sq (.bl 3 (.sq (rG [gM 29 7,gF 30 1 3,gQ 31 30,gM 32 9,gi 33 2 31 32,gF 34 0 33,gQ 35 34,gi 36 1 29 35,gQ 37 36] [2,3,7,8,9,37] [3]) (.ite 37 (rG [gM 38 7,gF 39 1 3,gQ 40 39,gM 41 9,gi 42 2 40 41,gF 43 1 42,gQ 44 43,gi 45 1 38 44,gS 1 45 (.c (.b true))] [2,3,7,8,9] [3]) .sk))) (rG [gM 27 9,gB 28 .add 27 (kI 1),gA 9 28] [2,3,7,8,9] [3]))
def ZI:AC:=.kp [2,3,7,8,9] [3] ZH
def ZJ:AC:=(.sq (.sq (rG [gM 22 9,gF 23 1 3,gQ 24 23,gl 25 24,gB 26 .lss 22 25] [2,3,7,8,9,26] [3]) (.ite 26 .sk (.ex 2))) ZI)
def QC:aY:=⟨[2,3,7,8,9],[3],ZJ⟩
def ZK:AC:=(.sq (.bl 1 (.sq (rG [gA 9 (kI 0)] [2,3,7,8,9] [3]) (.bl 2 QC.lp))) (rG [gM 20 8,gB 21 .add 20 (kI 1),gA 8 21] [2,3,7,8] [3]))
def ZL:AC:=.kp [2,3,7,8] [3] ZK
def ZM:AC:=(.sq (.sq (rG [gM 16 8,gF 17 0 3,gQ 18 17,gB 19 .lss 16 18] [2,3,7,8,19] [3]) (.ite 19 .sk (.ex 0))) ZL)
def QD:aY:=⟨[2,3,7,8],[3],ZM⟩
def ZN:AC:=(.sq (rG [gM 46 7,gM 47 2,gi 48 1 46 47,gQ 49 48,gA 6 49] [6] []) .rt)
def ZO:AC:=.kp [2,7] [] ZN
def SN:bE:=⟨(.sq (rG [gp 3 (.bx 0),gA 6 (.c (.b false))] [1,2,3] [3]) (.sq (rG [gF 10 0 3,gQ 11 10,gp 12 (.ms 4 1 1 (.b false) 11),gA 7 12] [1,2,3,7] [3]) (.sq (rG [gM 13 7,gM 14 1,gi 15 1 13 14,gS 1 15 (.c (.b true))] [2,3,7] [3]) (.sq (.sq (rG [gA 8 (kI 0)] [2,3,7,8] [3]) (.bl 0 QD.lp)) ZO)))),[.t 6]⟩
def ZP:AC:=(.sq (.bl 1 (.sq (rG [gM 12 10,gi 13 1 8 10,gQ 14 13,gA 6 12,gA 7 14] [1,5,6,7,8,9,10] []) (rG [gM 15 5,gM 16 7,gM 17 16,hM 18 1 17 false,hM 19 6 17 false,hi 20 1 18 19 17 false,hQ 21 20 17 false,gp 22 (.pk 17 (.c (.b true)) 21),gz 23 (.bs 4 1 [22]),gp 24 (.ap 4 1 1 15 23),gA 5 24] [1,5,8,9,10] []))) (rG [gB 25 .add 10 (kI 1),gM 10 25] [1,5,8,9,10] []))
def ZQ:AC:=.kp [1,5,8,9,10] [] ZP
def ZR:AC:=(.sq (rG [gB 11 .lss 10 9] [1,5,8,9,10,11] []) (.sq (.ite 11 .sk (.ex 0)) ZQ))
def QE:aY:=⟨[1,5,8,9,10],[],ZR⟩
def SO:bE:=⟨(.sq (rG [gA 4 (.c (.l 4 []))] [0,1] []) (.sq (rG [gA 5 (.c .n)] [0,1,5] []) (.sq (.sq (.rg [.own 5 4] [gM 8 0,gl 9 8,gM 10 (kI 0)] [1,5,8,9,10] []) (.bl 0 QE.lp)) (.sq (rG [gM 26 5,gA 4 26] [4,5] []) .rt)))),[.t 4]⟩
def ZS:AC:=(.sq (.bl 1 (.sq (rG [gM 12 10,gi 13 1 8 10,gQ 14 13,gA 6 12,gA 7 14] [1,5,6,7,8,9,10] []) (rG [gM 15 5,gM 16 7,gM 17 16,hM 18 1 17 true,hM 19 6 17 true,hi 20 1 18 19 17 true,hQ 21 20 17 true,gk 22 17 21 (.c (.b false)),gz 23 (.bs 4 1 [22]),gp 24 (.ap 4 1 1 15 23),gA 5 24] [1,5,8,9,10] []))) (rG [gB 25 .add 10 (kI 1),gM 10 25] [1,5,8,9,10] []))
def ZT:AC:=.kp [1,5,8,9,10] [] ZS
def ZU:AC:=(.sq (rG [gB 11 .lss 10 9] [1,5,8,9,10,11] []) (.sq (.ite 11 .sk (.ex 0)) ZT))
def QF:aY:=⟨[1,5,8,9,10],[],ZU⟩
def SP:bE:=⟨(.sq (rG [gA 4 (.c (.l 4 []))] [0,1] []) (.sq (rG [gA 5 (.c .n)] [0,1,5] []) (.sq (.sq (.rg [.own 5 4] [gM 8 0,gl 9 8,gM 10 (kI 0)] [1,5,8,9,10] []) (.bl 0 QF.lp)) (.sq (rG [gM 26 5,gA 4 26] [4,5] []) .rt)))),[.t 4]⟩
def SQ:bE:=⟨(.sq (rG [gp 1 (.bx 0),gA 2 (kI 0)] [1] [1]) (.sq (.bl 0 (.sq (rG [gF 4 0 1,gQ 5 4,gB 6 .lss 5 (kI 1),gM 7 6,hF 8 0 1 7 false,hQ 9 8 7 false,hB 10 .gtr 9 (kI 6) 7 false,gp 11 (.pk 7 (.c (.b true)) 10),gA 3 11] [1,3] [1]) (.ite 3 (.sq (rG [gA 2 (kI 3)] [2] []) .rt) (.sq (rG [gF 13 1 1,gQ 14 13,gl 15 14,gB 16 .gtr 15 (kI 20),gA 12 16] [1,12] [1]) (.ite 12 (.sq (rG [gA 2 (kI 2)] [2] []) .rt) (.sq (.rg [.fzB 1 true] [gF 18 1 1,gQ 19 18,gp 20 (.mf 153 [1]),gp 21 (.c2 152 [19,20]),gA 17 21] [17] []) (.ite 17 (.sq (rG [gA 2 (kI 5)] [2] []) .rt) .sk))))))) (.sq (rG [gA 2 (kI 0)] [2] []) .rt))),[.t 2]⟩
def ZV:AC:=(.sq (.bl 3 (.sq (rG [gi 27 2 23 25,gC 28 2 27,gp 8 (.al [(.i .i64 0),(.l 3 [])]),gS 2 8 28] [2,8,14,15,16,23,24,25] [2,8]) (.sq (rG [gC 29 2 2,gC 30 2 8,ga 31 154 [29,30],gA 9 31] [2,9,14,15,16,23,24,25] [2]) (.sq (rG [gM 32 9,gB 33 .neq 32 (kI 0)] [2,9,14,15,16,23,24,25,33] [2]) (.ite 33 (.sq (rG [gM 34 9,gA 4 34] [4] []) .rt) .sk))))) (rG [gB 35 .add 25 (kI 1),gM 25 35] [2,14,15,16,23,24,25] [2]))
def ZW:AC:=.kp [2,14,15,16,23,24,25] [2] ZV
def ZX:AC:=(.sq (rG [gB 26 .lss 25 24] [2,14,15,16,23,24,25,26] [2]) (.sq (.ite 26 .sk (.ex 2)) ZW))
def QG:aY:=⟨[2,14,15,16,23,24,25],[2],ZX⟩
def ZY:AC:=(.sq (rG [gM 23 6,gl 24 23,gM 25 (kI 0)] [2,14,15,16,23,24,25] [2]) (.bl 2 QG.lp))
def ZZ:AC:=.kp [2,6,14,15,16] [2] ZY
def Z1:AC:=(.sq (.bl 1 (.sq (rG [gi 18 1 14 16,gQ 19 18,gA 6 19] [2,6,14,15,16] [2]) (.sq (.sq (rG [gM 20 6,gl 21 20,gB 22 .gtr 21 (kI 4)] [2,6,14,15,16,22] [2]) (.ite 22 (.sq (rG [gA 4 (kI 2)] [4] []) .rt) .sk)) ZZ))) (rG [gB 36 .add 16 (kI 1),gM 16 36] [2,14,15,16] [2]))
def Z2:AC:=.kp [2,14,15,16] [2] Z1
def Z3:AC:=(.sq (rG [gB 17 .lss 16 15] [2,14,15,16,17] [2]) (.sq (.ite 17 .sk (.ex 0)) Z2))
def QH:aY:=⟨[2,14,15,16],[2],Z3⟩
def SS:bE:=⟨(.sq (rG [gp 2 (.bx 0),gp 3 (.bx 1),gA 4 (kI 0)] [2,3] [2,3]) (.sq (.sq (rG [gF 10 0 3,gQ 11 10,gF 12 1 3,gQ 13 12,gz 14 (.bs 79 1 [11,13]),gl 15 14,gM 16 (kI 0)] [2,14,15,16] [2]) (.bl 0 QH.lp)) (.sq (rG [gA 4 (kI 0)] [4] []) .rt))),[.t 4]⟩
def Z4:bE:=⟨(.sq (rG [gp 2 (.bx 0),gA 3 (.c (.b false))] [1,2] [1,2]) (.sq (rG [gC 4 2 1,gC 5 2 2,ga 6 100 [4,5],gn 7 6,gA 3 7] [3] []) .rt)),[.t 3]⟩
def SU:bE:=⟨(.sq (rG [gA 3 (.c (.b false))] [0,1] [1]) (.sq (rG [gF 4 0 1,gC 5 2 4,gM 6 0,ga 7 119 [5,6],gn 8 7,gA 3 8] [3] []) .rt)),[.t 3]⟩
def Z5:AC:=(.sq (.bl 1 (.sq (rG [gi 13 1 9 11,gQ 14 13,gA 5 14] [0,3,5,9,10,11] []) (.sq (rG [gM 15 3,gM 16 5,gl 17 16,gB 18 .add 15 17,gA 3 18] [0,3,9,10,11] []) (.sq (rG [gM 19 3,gB 20 .lss 19 (kI 0)] [0,3,9,10,11,20] []) (.ite 20 .bad .sk))))) (rG [gB 22 .add 11 (kI 1),gM 11 22] [0,3,9,10,11] []))
def Z6:AC:=.kp [0,3,9,10,11] [] Z5
def Z7:AC:=(.sq (rG [gB 12 .lss 11 10] [0,3,9,10,11,12] []) (.sq (.ite 12 .sk (.ex 0)) Z6))
def QI:aY:=⟨[0,3,9,10,11],[],Z7⟩
def Z8:AC:=(.sq (.bl 3 (.sq (rG [gi 29 1 25 27,gQ 30 29,gA 8 30] [6,8,25,26,27] []) (rG [gM 31 6,gM 32 8,gp 33 (.ap 81 2 48 31 32),gA 6 33] [6,25,26,27] []))) (rG [gB 34 .add 27 (kI 1),gM 27 34] [6,25,26,27] []))
def Z9:AC:=.kp [6,25,26,27] [] Z8
def aaa:AC:=(.sq (rG [gB 28 .lss 27 26] [6,25,26,27,28] []) (.sq (.ite 28 .sk (.ex 2)) Z9))
def QJ:aY:=⟨[6,25,26,27],[],aaa⟩
def aab:AC:=(.sq (rG [gM 23 3,gp 24 (.cr 81 155 [(.c .n),23]),gA 6 24] [0,6] []) (.sq (.sq (.rg [.own 6 81] [gM 25 0,gl 26 25,gM 27 (kI 0)] [6,25,26,27] []) (.bl 2 QJ.lp)) (.sq (rG [gM 35 6,gA 2 35] [2,6] []) .rt)))
def aac:AC:=.kp [0,3] [] aab
def SV:bE:=⟨(.sq (rG [gA 2 (.c (.l 81 []))] [0] []) (.sq (rG [gA 3 (kI 0)] [0,3] []) (.sq (.sq (rG [gM 9 0,gl 10 9,gM 11 (kI 0)] [0,3,9,10,11] []) (.bl 0 QI.lp)) aac))),[.t 2]⟩
def SW:bE:=⟨(.sq (rG [gA 4 (.c (.b false))] [0,1] []) (.sq (rG [gM 5 0,gM 6 1,gp 7 (.c2 156 [5,6]),gB 8 .geq 7 (kI 0),gA 4 8] [4] []) .rt)),[.t 4]⟩
def SX:bE:=⟨(.sq (rG [gp 1 (.bx 0),gA 2 (.c (.b false))] [1] [1]) (.sq (rG [gF 3 0 1,gQ 4 3,gn 5 4,gM 6 5,hF 7 1 1 6 true,hF 8 0 7 6 true,hQ 9 8 6 true,hl 10 9 6 true,hF 11 1 1 6 true,hF 12 1 11 6 true,hQ 13 12 6 true,hl 14 13 6 true,hB 15 .add 10 14 6 true,hB 16 .gtr 15 (kI 0) 6 true,gk 17 6 16 (.c (.b false)),gA 2 17] [2] []) .rt)),[.t 2]⟩
def SY:bE:=⟨(.sq (rG [gp 3 (.bx 0),gA 5 (.c (.b false))] [1,2] [2]) (.sq (rG [gQ 6 2,gB 7 .add 6 (kI 1),gS 1 2 7] [1,2] [2]) (.sq (rG [gQ 8 2,gB 9 .leq 8 (kI 50),gM 10 9,hM 11 1 10 true,hB 12 .leq 11 (kI 6) 10 true,gk 13 10 12 (.c (.b false)),gA 5 13] [5] []) .rt))),[.t 5]⟩
def aad:AC:=(.sq (.bl 1 (.sq (rG [gi 13 9 9 11,gC 14 9 13,gp 8 (.al [(.i .i64 0),(.i .i64 0),(.i .i64 0),(.i .i64 0),(.i .i64 0),(.l 37 []),(.l 37 []),(.l 92 []),(.l 92 [])]),gS 9 8 14] [1,2,8,9,10,11] [8]) (.sq (rG [gM 15 2,gC 16 9 8,gM 17 1,gp 18 (.d2 15 [16,17]),gn 19 18,gM 20 19,hF 21 7 8 20 false,hQ 22 21 20 false,hM 23 1 20 false,hB 24 .add 23 (kI 1) 20 false,hM 25 2 20 false,gg 26 (.c2 137 [22,24,25]) 20 false,hn 27 26 20 false,gp 28 (.pk 20 (.c (.b true)) 27),gM 29 28,hF 30 8 8 29 false,hQ 31 30 29 false,hM 32 1 29 false,hB 33 .add 32 (kI 1) 29 false,hM 34 2 29 false,gg 35 (.c2 137 [31,33,34]) 29 false,hn 36 35 29 false,gp 37 (.pk 29 (.c (.b true)) 36)] [1,2,9,10,11,37] []) (.ite 37 (.sq (rG [gA 6 (.c (.b false))] [6] []) .rt) .sk)))) (rG [gB 38 .add 11 (kI 1),gM 11 38] [1,2,9,10,11] []))
def aae:AC:=.kp [1,2,9,10,11] [] aad
def aaf:AC:=(.sq (rG [gB 12 .lss 11 10] [1,2,9,10,11,12] []) (.sq (.ite 12 .sk (.ex 0)) aae))
def Lf:aY:=⟨[1,2,9,10,11],[],aaf⟩
def SZ:bE:=⟨(.sq (rG [gA 6 (.c (.b false))] [0,1,2] []) (.sq (.sq (rG [gM 9 0,gl 10 9,gM 11 (kI 0)] [1,2,9,10,11] []) (.bl 0 Lf.lp)) (.sq (rG [gA 6 (.c (.b true))] [6] []) .rt))),[.t 6]⟩
def S0:bE:=⟨(.sq (rG [gA 4 (.c (.b false))] [0,1] []) (.sq (rG [gM 5 0,gM 6 1,ga 7 157 [5,6],gB 8 .geq 7 (kI 0),gA 4 8] [4] []) .rt)),[.t 4]⟩
def S1:bE:=⟨(.sq (rG [gp 4 (.bx 0),gA 6 (.c (.b false))] [2,3,4] [2,3,4]) (.sq (rG [gQ 7 2,gC 8 9 4,gp 9 (.c3 140 [7,8]),gS 1 3 9] [3] [3]) (.sq (rG [gQ 10 3,gB 11 .eql 10 (kI 0),gA 6 11] [6] []) .rt))),[.t 6]⟩
def aag:AC:=(.sq (.bl 2 (.sq (rG [gi 175 3 171 173,gC 176 3 175,gp 13 (.al [(.i .i64 0),(.i .i64 0),(.l 37 [])]),gS 3 13 176] [0,13,171,172,173] [0,13]) (.sq (.dg [] [] [gX (gC 177 3 13) [13] [13],gU (gM 178 0) [0],gU (gp 179 (.nc 178)) [178],gU (gF 180 0 179) [179],gU (gF 181 5 180) [180],⟨gQ 182 181,true,[181],[],true,[],[],[]⟩,⟨gl 183 182,true,[182],[],true,[],[],[]⟩,gH (ga 184 45 [177,183]),gH (gA 14 184)] [0,14,171,172,173] [0]) (.sq (rG [gM 185 14,gB 186 .neq 185 (kI 0)] [0,14,171,172,173,186] [0]) (.ite 186 (.sq (rG [gM 187 14,gA 4 187] [4] []) .rt) .sk))))) (rG [gB 188 .add 173 (kI 1),gM 173 188] [0,171,172,173] [0]))
def aah:AC:=.kp [0,171,172,173] [0] aag
def GD:AC:=(.sq (rG [gB 174 .lss 173 172] [0,171,172,173,174] [0]) (.sq (.ite 174 .sk (.ex 1)) aah))
def QK:aY:=⟨[0,171,172,173],[0],GD⟩
def aai:AC:=(.sq (.sq (rG [gF 170 6 3,gQ 171 170,gl 172 171,gM 173 (kI 0)] [0,171,172,173] [0]) (.bl 1 QK.lp)) (.sq (rG [gA 4 (kI 0)] [4] []) .rt))
def QL:AC:=.kp [0,3] [0,3] aai
def aaj:AC:=(.sq (.sq (rG [gM 157 8] [0,3,157] [0,3]) (.ite 157 (.sq (.dg [] [] [gU (gF 158 3 3) [3],gX (gC 159 3 158) [158] [3],gU (gM 160 0) [0],gU (gp 161 (.nc 160)) [160],gU (gF 162 0 161) [161],gU (gF 163 5 162) [162],⟨gQ 164 163,true,[163],[],true,[],[],[]⟩,⟨gl 165 164,true,[164],[],true,[],[],[]⟩,gH (ga 166 45 [159,165]),gH (gA 11 166)] [0,3,11] [0,3]) (.sq (rG [gM 167 11,gB 168 .neq 167 (kI 0)] [0,3,11,168] [0,3]) (.ite 168 (.sq (rG [gM 169 11,gA 4 169] [4] []) .rt) .sk))) .sk)) QL)
def aak:AC:=.kp [0,3,8] [0,3] aaj
def aal:AC:=(.sq (rG [gM 24 5,ga 25 158 [24],gM 23 25,ge 26 23 0,ge 27 23 1,ge 28 23 2,gA 6 26,gA 7 27,gA 8 28] [0,3,5,6,7,8] [0,3]) (.sq (rG [gM 29 5,gB 30 .geq 29 (kI 7),gA 9 30] [0,3,5,6,7,8,9] [0,3]) (.sq (rG [gF 31 3 3,gF 32 0 31,gQ 33 32,gB 34 .eql 33 (kI 0),gM 35 34,hF 36 3 3 35 true,hF 37 1 36 35 true,hQ 38 37 35 true,hB 39 .eql 38 (kI 0) 35 true,gk 40 35 39 (.c (.b false)),gM 41 40,hF 42 3 3 41 true,hF 43 2 42 41 true,hQ 44 43 41 true,hl 45 44 41 true,hB 46 .eql 45 (kI 0) 41 true,gk 47 41 46 (.c (.b false)),gA 10 47] [0,3,5,6,7,8,9,10] [0,3]) (.sq (.bl 0 (.sq (.dg [] [] [gU (gM 49 6) [6],gU (gM 50 49) [49],gU (hF 51 1 3 50 true) [3],gX (hQ 52 51 50 true) [51] [3],gU (hB 53 .lss 52 (kI 0) 50 true) [52],gU (hM 54 53 50 true) [53],gU (hF 55 1 3 54 false) [3],gX (hQ 56 55 54 false) [55] [3],gU (hM 57 0 54 false) [0],gU (gg 58 (.nc 57) 54 false) [57],gU (hF 59 0 58 54 false) [58],gU (hF 60 5 59 54 false) [59],⟨hQ 61 60 54 false,true,[60],[],true,[],[],[]⟩,⟨hl 62 61 54 false,true,[61],[],true,[],[],[]⟩,gU (hB 63 .geq 56 62 54 false) [56,62],gU (gg 64 (.pk 54 (.c (.b true)) 63) 50 true) [54,63],gU (gk 65 50 64 (.c (.b false))) [50,64],gU (gM 66 65) [65],gU (hM 67 7 66 false) [7],gU (hM 68 67 66 false) [67],gU (hF 69 2 3 68 true) [3],gX (hQ 70 69 68 true) [69] [3],gU (hB 71 .lss 70 (kI 0) 68 true) [70],gU (hM 72 71 68 true) [71],gU (hF 73 2 3 72 false) [3],gX (hQ 74 73 72 false) [73] [3],gU (hM 75 0 72 false) [0],gU (hM 76 5 72 false) [5],⟨gg 77 (.c3 159 [75,76]) 72 false,true,[75,76],[],true,[],[],[]⟩,gH (hB 78 .geq 74 77 72 false),gH (gg 79 (.pk 72 (.c (.b true)) 78) 68 true),gH (hk 80 68 79 (.c (.b false)) 66 false),gH (gp 81 (.pk 66 (.c (.b true)) 80)),gH (gA 48 81)] [0,3,5,6,7,8,9,10,48] [0,3]) (.ite 48 (.sq (rG [gA 4 (kI 5)] [4] []) .rt) (.sq (rG [gM 83 6,gn 84 83,gM 85 84,hF 86 1 3 85 true,hQ 87 86 85 true,hB 88 .neq 87 (kI 0) 85 true,gk 89 85 88 (.c (.b false)),gM 90 89,hM 91 7 90 false,hn 92 91 90 false,hM 93 92 90 false,hF 94 2 3 93 true,hQ 95 94 93 true,hB 96 .neq 95 (kI 0) 93 true,hk 97 93 96 (.c (.b false)) 90 false,gp 98 (.pk 90 (.c (.b true)) 97),gM 99 98,hM 100 8 99 false,hn 101 100 99 false,hM 102 101 99 false,hM 103 10 102 true,hn 104 103 102 true,hk 105 102 104 (.c (.b false)) 99 false,gp 106 (.pk 99 (.c (.b true)) 105),gM 107 106,hM 108 5 107 false,hB 109 .neq 108 (kI 2) 107 false,hM 110 109 107 false,hF 111 6 3 110 true,hQ 112 111 110 true,hl 113 112 110 true,hB 114 .gtr 113 (kI 0) 110 true,hk 115 110 114 (.c (.b false)) 107 false,gp 116 (.pk 107 (.c (.b true)) 115),gM 117 116,hM 118 9 117 false,hn 119 118 117 false,hM 120 119 117 false,hF 121 7 3 120 true,hQ 122 121 120 true,hl 123 122 120 true,hB 124 .gtr 123 (kI 0) 120 true,hk 125 120 124 (.c (.b false)) 117 false,gp 126 (.pk 117 (.c (.b true)) 125),gM 127 126,hM 128 5 127 false,hB 129 .neq 128 (kI 7) 127 false,hM 130 129 127 false,hF 131 8 3 130 true,hQ 132 131 130 true,hl 133 132 130 true,hB 134 .gtr 133 (kI 0) 130 true,hk 135 130 134 (.c (.b false)) 127 false,gp 136 (.pk 127 (.c (.b true)) 135),gA 82 136] [0,3,5,8,82] [0,3]) (.ite 82 (.sq (rG [gA 4 (kI 1)] [4] []) .rt) (.sq (.dg [] [] [gU (gM 138 5) [5],gU (gB 139 .eql 138 (kI 2)) [138],gU (gM 140 139) [139],gU (hF 141 6 3 140 true) [3],gX (hQ 142 141 140 true) [141] [3],gX (hl 143 142 140 true) [142] [3],gU (hM 144 0 140 true) [0],gU (gg 145 (.nc 144) 140 true) [144],gU (hF 146 0 145 140 true) [145],gU (hF 147 6 146 140 true) [146],⟨hQ 148 147 140 true,true,[147],[],true,[],[],[]⟩,gU (hF 149 2 3 140 true) [3],gX (hQ 150 149 140 true) [149] [3],⟨hi 151 5 148 150 140 true,true,[148,150],[],true,[],[],[]⟩,⟨hF 152 0 151 140 true,true,[151],[],true,[],[],[]⟩,⟨hQ 153 152 140 true,true,[152],[],true,[],[],[]⟩,gU (hl 154 153 140 true) [153],gH (hB 155 .neq 143 154 140 true),gH (gk 156 140 155 (.c (.b false))),gH (gA 137 156)] [0,3,8,137] [0,3]) (.ite 137 (.sq (rG [gA 4 (kI 1)] [4] []) .rt) .sk))))))) aak))))
def aam:AC:=.kp [0,3,5] [0,3] aal
def Pd:bE:=⟨(.sq (rG [gp 3 (.bx 1),gA 4 (kI 0)] [0,3] [0,3]) (.sq (rG [gF 15 0 3,gQ 16 15,gA 5 16] [0,3,5] [0,3]) (.sq (.sq (rG [gM 17 5,gB 18 .lss 17 (kI 1),gM 19 18,hM 20 5 19 false,hB 21 .gtr 20 (kI 8) 19 false,gp 22 (.pk 19 (.c (.b true)) 21)] [0,3,5,22] [0,3]) (.ite 22 (.sq (rG [gA 4 (kI 7)] [4] []) .rt) .sk)) aam))),[.t 4]⟩
def aan:AC:=(.sq (.bl 1 (.sq (rG [gM 10 8,gA 5 10] [0,1,5,7,8] []) (.sq (rG [gM 11 1,gM 12 0,gM 13 5,gi 14 2 12 13,gC 15 2 14,gp 16 (.d2 11 [15])] [0,1,5,7,8,16] []) (.ite 16 (.sq (rG [gM 17 5,gA 4 17] [4] []) .rt) .sk)))) (rG [gB 18 .add 8 (kI 1),gM 8 18] [0,1,7,8] []))
def aao:AC:=.kp [0,1,7,8] [] aan
def aap:AC:=(.sq (rG [gB 9 .lss 8 7] [0,1,7,8,9] []) (.sq (.ite 9 .sk (.ex 0)) aao))
def aaq:aY:=⟨[0,1,7,8],[],aap⟩
def aar:bE:=⟨(.sq (rG [gA 4 (kI 0)] [0,1] []) (.sq (.sq (rG [gM 6 0,gl 7 6,gM 8 (kI 0)] [0,1,7,8] []) (.bl 0 aaq.lp)) (.sq (rG [gA 4 (kI (-1))] [4] []) .rt))),[.t 4]⟩
def aas:AC:=(.sq (.bl 1 (.sq (rG [gM 10 8,gA 5 10] [0,1,5,7,8] []) (.sq (rG [gM 11 1,gM 12 0,gM 13 5,gi 14 1 12 13,gQ 15 14,gp 16 (.d2 11 [15])] [0,1,5,7,8,16] []) (.ite 16 (.sq (rG [gM 17 5,gA 4 17] [4] []) .rt) .sk)))) (rG [gB 18 .add 8 (kI 1),gM 8 18] [0,1,7,8] []))
def aat:AC:=.kp [0,1,7,8] [] aas
def aau:AC:=(.sq (rG [gB 9 .lss 8 7] [0,1,7,8,9] []) (.sq (.ite 9 .sk (.ex 0)) aat))
def GF:aY:=⟨[0,1,7,8],[],aau⟩
def S2:bE:=⟨(.sq (rG [gA 4 (kI 0)] [0,1] []) (.sq (.sq (rG [gM 6 0,gl 7 6,gM 8 (kI 0)] [0,1,7,8] []) (.bl 0 GF.lp)) (.sq (rG [gA 4 (kI (-1))] [4] []) .rt))),[.t 4]⟩
def aav:AC:=(.sq (.bl 1 (.sq (rG [gM 10 8,gA 5 10] [0,1,5,7,8] []) (.sq (rG [gM 11 1,gM 12 0,gM 13 5,gi 14 2 12 13,gC 15 2 14,gp 16 (.d2 11 [15])] [0,1,5,7,8,16] []) (.ite 16 (.sq (rG [gM 17 5,gA 4 17] [4] []) .rt) .sk)))) (rG [gB 18 .add 8 (kI 1),gM 8 18] [0,1,7,8] []))
def aaw:AC:=.kp [0,1,7,8] [] aav
def aax:AC:=(.sq (rG [gB 9 .lss 8 7] [0,1,7,8,9] []) (.sq (.ite 9 .sk (.ex 0)) aaw))
def QM:aY:=⟨[0,1,7,8],[],aax⟩
def S3:bE:=⟨(.sq (rG [gA 4 (kI 0)] [0,1] []) (.sq (.sq (rG [gM 6 0,gl 7 6,gM 8 (kI 0)] [0,1,7,8] []) (.bl 0 QM.lp)) (.sq (rG [gA 4 (kI (-1))] [4] []) .rt))),[.t 4]⟩
def QN:AC:=(.sq (.bl 0 (.sq (rG [gF 18 2 2,gQ 19 18,gl 20 19,gM 21 5,gB 22 .neq 20 21,gA 17 22] [1,2,5,17] [2]) (.ite 17 (.sq (rG [gA 4 (kI 1)] [4] []) .rt) (.sq (rG [gF 24 0 2,gQ 25 24,gB 26 .eql 25 (kI 1),gM 27 26,hF 28 1 2 27 true,hQ 29 28 27 true,gg 30 (.bo .lss false 29 (kI (-9999999))) 27 true,hM 31 30 27 true,hF 32 1 2 31 false,hQ 33 32 31 false,hB 34 .gtr 33 (kI 9999999) 31 false,gg 35 (.pk 31 (.c (.b true)) 34) 27 true,gk 36 27 35 (.c (.b false)),gM 37 36,hM 38 5 37 false,hB 39 .gtr 38 (kI 0) 37 false,hM 40 39 37 false,hF 41 1 2 40 true,hQ 42 41 40 true,hB 43 .neq 42 (kI 0) 40 true,hk 44 40 43 (.c (.b false)) 37 false,gp 45 (.pk 37 (.c (.b true)) 44),gA 23 45] [1,2,23] [2]) (.ite 23 (.sq (rG [gA 4 (kI 3)] [4] []) .rt) (.sq (rG [gF 47 0 2,gQ 48 47,gB 49 .eql 48 (kI 2),gM 50 49,hF 51 1 2 50 true,hQ 52 51 50 true,hB 53 .lss 52 (kI 0) 50 true,hM 54 53 50 true,hF 55 1 2 54 false,hQ 56 55 54 false,hM 57 1 54 false,hB 58 .geq 56 57 54 false,gg 59 (.pk 54 (.c (.b true)) 58) 50 true,gk 60 50 59 (.c (.b false)),gA 46 60] [46] []) (.ite 46 (.sq (rG [gA 4 (kI 5)] [4] []) .rt) .sk))))))) (.sq (rG [gA 4 (kI 0)] [4] []) .rt))
def aay:AC:=.kp [1,2,5] [2] QN
def aaz:AC:=(.sq (rG [gA 5 (kI 0)] [1,2,5] [2]) (.sq (.sq (rG [gF 14 0 2,gQ 15 14,gB 16 .gtr 15 (kI 2)] [1,2,5,16] [2]) (.ite 16 (rG [gA 5 (kI 2)] [1,2,5] [2]) .sk)) aay))
def aaA:AC:=.kp [1,2] [2] aaz
def S5:bE:=⟨(.sq (rG [gp 2 (.bx 0),gA 4 (kI 0)] [1,2] [2]) (.sq (.sq (rG [gF 6 0 2,gQ 7 6,gB 8 .lss 7 (kI 1),gM 9 8,hF 10 0 2 9 false,hQ 11 10 9 false,hB 12 .gtr 11 (kI 7) 9 false,gp 13 (.pk 9 (.c (.b true)) 12)] [1,2,13] [2]) (.ite 13 (.sq (rG [gA 4 (kI 7)] [4] []) .rt) .sk)) aaA)),[.t 4]⟩
def S6:bE:=⟨(.sq (rG [gA 4 (.c (.b false))] [0,1] []) (.sq (rG [gM 5 0,gM 6 1,gp 7 (.c2 166 [5,6]),gB 8 .geq 7 (kI 0),gA 4 8] [4] []) .rt)),[.t 4]⟩
def S7:bE:=⟨(.sq (rG [gp 2 (.bx 0),gA 3 (.c (.b false))] [1,2] [1,2]) (.sq (rG [gC 4 2 1,gF 5 0 2,gQ 6 5,ga 7 119 [4,6],gn 8 7,gM 9 8,hC 10 2 1 9 false,hF 11 1 2 9 false,hQ 12 11 9 false,ha 13 119 [10,12] 9 false,hn 14 13 9 false,gp 15 (.pk 9 (.c (.b true)) 14),gA 3 15] [3] []) .rt)),[.t 3]⟩
def aaB:AC:=(.sq (.bl 2 (.sq (.dg [] [] [gU (gF 29 1 3) [3],gX (gQ 30 29) [29] [3],gU (gM 31 5) [5],gX (gi 32 1 30 31) [30,31] [3],gX (gQ 33 32) [32] [3],gU (gF 34 1 3) [3],gX (gQ 35 34) [34] [3],gU (gM 36 5) [5],gU (gB 37 .sub 36 (kI 1)) [36],gX (gi 38 1 35 37) [35,37] [3],gX (gQ 39 38) [38] [3],gH (gB 40 .leq 33 39)] [3,5,40] [3]) (.ite 40 (.sq (rG [gA 4 (kI 4)] [4] []) .rt) .sk))) (rG [gM 27 5,gB 28 .add 27 (kI 1),gA 5 28] [3,5] [3]))
def aaC:AC:=.kp [3,5] [3] aaB
def aaD:AC:=(.sq (.sq (rG [gM 22 5,gF 23 1 3,gQ 24 23,gl 25 24,gB 26 .lss 22 25] [3,5,26] [3]) (.ite 26 .sk (.ex 1))) aaC)
def QO:aY:=⟨[3,5],[3],aaD⟩
def aaE:AC:=(.sq (.sq (rG [gA 5 (kI 1)] [3,5] [3]) (.bl 1 QO.lp)) (.sq (rG [gA 4 (kI 0)] [4] []) .rt))
def aaF:AC:=.kp [3] [3] aaE
def S8:bE:=⟨(.sq (rG [gp 2 (.bx 0),gp 3 (.bx 1),gA 4 (kI 0)] [2,3] [2,3]) (.sq (.bl 0 (.sq (rG [gC 7 2 2,gF 8 0 3,gQ 9 8,ga 10 119 [7,9],gn 11 10,gA 6 11] [2,3,6] [2,3]) (.ite 6 (.sq (rG [gA 4 (kI 5)] [4] []) .rt) (.sq (rG [gF 13 1 3,gQ 14 13,gl 15 14,gB 16 .gtr 15 (kI 6),gA 12 16] [2,3,12] [2,3]) (.ite 12 (.sq (rG [gA 4 (kI 2)] [4] []) .rt) (.sq (.rg [.fzB 2 true] [gF 18 1 3,gQ 19 18,gp 20 (.mf 167 [2]),gp 21 (.c2 105 [19,20]),gA 17 21] [3,17] [3]) (.ite 17 (.sq (rG [gA 4 (kI 5)] [4] []) .rt) .sk))))))) aaF)),[.t 4]⟩
def aaG:AC:=(.sq (.bl 1 (.sq (rG [gM 10 8,gA 5 10] [0,1,5,7,8] []) (.sq (rG [gM 11 1,gM 12 0,gM 13 5,gi 14 3 12 13,gC 15 3 14,gp 16 (.d2 11 [15])] [0,1,5,7,8,16] []) (.ite 16 (.sq (rG [gM 17 5,gA 4 17] [4] []) .rt) .sk)))) (rG [gB 18 .add 8 (kI 1),gM 8 18] [0,1,7,8] []))
def aaH:AC:=.kp [0,1,7,8] [] aaG
def aaI:AC:=(.sq (rG [gB 9 .lss 8 7] [0,1,7,8,9] []) (.sq (.ite 9 .sk (.ex 0)) aaH))
def QP:aY:=⟨[0,1,7,8],[],aaI⟩
def S9:bE:=⟨(.sq (rG [gA 4 (kI 0)] [0,1] []) (.sq (.sq (rG [gM 6 0,gl 7 6,gM 8 (kI 0)] [0,1,7,8] []) (.bl 0 QP.lp)) (.sq (rG [gA 4 (kI (-1))] [4] []) .rt))),[.t 4]⟩
def aaJ:AC:=(.sq (.bl 1 (.sq (rG [gM 10 8,gA 5 10] [0,1,5,7,8] []) (.sq (rG [gM 11 1,gM 12 0,gM 13 5,gi 14 1 12 13,gQ 15 14,gB 16 .eql 11 15] [0,1,5,7,8,16] []) (.ite 16 (.sq (rG [gM 17 5,gA 4 17] [4] []) .rt) .sk)))) (rG [gB 18 .add 8 (kI 1),gM 8 18] [0,1,7,8] []))
def aaK:AC:=.kp [0,1,7,8] [] aaJ
def aaL:AC:=(.sq (rG [gB 9 .lss 8 7] [0,1,7,8,9] []) (.sq (.ite 9 .sk (.ex 0)) aaK))
def QQ:aY:=⟨[0,1,7,8],[],aaL⟩
def Ta:bE:=⟨(.sq (rG [gA 4 (kI 0)] [0,1] []) (.sq (.sq (rG [gM 6 0,gl 7 6,gM 8 (kI 0)] [0,1,7,8] []) (.bl 0 QQ.lp)) (.sq (rG [gA 4 (kI (-1))] [4] []) .rt))),[.t 4]⟩
def Tb:bE:=⟨(.sq (rG [gA 2 (.c (.b false)),gA 3 (.c (.b false)),gA 4 (.c (.b false))] [0] []) (.sq (rG [gM 7 0,gB 8 .neq 7 (kI 4),gM 9 8,hM 10 0 9 true,hB 11 .lss 10 (kI 7) 9 true,gk 12 9 11 (.c (.b false)),gA 5 12] [0,5] []) (.sq (rG [gM 13 0,gB 14 .geq 13 (kI 2),gM 15 14,hM 16 0 15 true,hB 17 .leq 16 (kI 4) 15 true,gk 18 15 17 (.c (.b false)),gA 6 18] [0,5,6] []) (.sq (rG [gM 19 5,gM 20 6,gM 21 0,gB 22 .neq 21 (kI 2),gM 23 22,hM 24 0 23 true,hB 25 .neq 24 (kI 3) 23 true,gk 26 23 25 (.c (.b false)),gA 2 19,gA 3 20,gA 4 26] [2,3,4] []) .rt)))),[.t 2,.t 3,.t 4]⟩
def aaM:AC:=(.sq (rG [gM 20 0,gp 21 (.nc 20),gF 22 0 21,gF 23 4 22,gQ 24 23,gl 25 24,gA 4 25] [4] []) .rt)
def aaN:AC:=.kp [0] [0] aaM
def Pe:bE:=⟨(.sq (rG [gA 4 (kI 0)] [0,1] [0]) (.sq (.sq (rG [gM 5 1] [0,5] [0]) (.bl 0 (.sq (rG [gB 7 .eql 5 (kI 2),gA 6 7] [0,5,6] [0]) (.ite 6 (.sq (rG [gM 8 0,gp 9 (.nc 8),gF 10 8 9,gQ 11 10,gA 4 11] [4] []) .rt) (.sq (rG [gB 13 .eql 5 (kI 3),gA 12 13] [0,12] [0]) (.ite 12 (.sq (rG [gM 14 0,gp 15 (.nc 14),gF 16 0 15,gF 17 3 16,gQ 18 17,gl 19 18,gA 4 19] [4] []) .rt) .sk)))))) aaN)),[.t 4]⟩
def aaO:AC:=(.sq (.bl 1 (.sq (rG [gM 10 8,gA 5 10] [0,1,5,7,8] []) (.sq (rG [gM 11 1,gM 12 0,gM 13 5,gi 14 2 12 13,gC 15 2 14,gp 16 (.d2 11 [15])] [0,1,5,7,8,16] []) (.ite 16 (.sq (rG [gM 17 5,gA 4 17] [4] []) .rt) .sk)))) (rG [gB 18 .add 8 (kI 1),gM 8 18] [0,1,7,8] []))
def aaP:AC:=.kp [0,1,7,8] [] aaO
def aaQ:AC:=(.sq (rG [gB 9 .lss 8 7] [0,1,7,8,9] []) (.sq (.ite 9 .sk (.ex 0)) aaP))
def QR:aY:=⟨[0,1,7,8],[],aaQ⟩
def Tc:bE:=⟨(.sq (rG [gA 4 (kI 0)] [0,1] []) (.sq (.sq (rG [gM 6 0,gl 7 6,gM 8 (kI 0)] [0,1,7,8] []) (.bl 0 QR.lp)) (.sq (rG [gA 4 (kI (-1))] [4] []) .rt))),[.t 4]⟩
def Td:bE:=⟨(.sq (rG [gA 3 (.c (.b false))] [0,1] [1]) (.sq (rG [gC 4 2 1,gM 5 0,ga 6 119 [4,5],gn 7 6,gA 3 7] [3] []) .rt)),[.t 3]⟩
abbrev Ω0:du:=fun f ys=>match f with
 | 146=>Ag ys
 | 67=>nT 3 ys
 | 141=>uO 4 ys
 | 72=>Be 166 3 81 138 83 101 92 37 ys
 | 155=>qX 81 ys
 | _=>none
def G:qv:=fun
 | 4=>some c4
 | 10=>some X2
 | 12=>some X3
 | 13=>some UE
 | 15=>some UG
 | 19=>some X4
 | 20=>some X5
 | 21=>some X6
 | 22=>some X7
 | 23=>some X8
 | 24=>some X9
 | 25=>some c25
 | 26=>some Ya
 | 27=>some Yb
 | 35=>some c35
 | 36=>some Yc
 | 37=>some UY
 | 40=>some Yd
 | 42=>some Gz
 | 43=>some Ye
 | 44=>some Yf
 | 45=>some Yg
 | 46=>some U2
 | 47=>some Yh
 | 48=>some Yi
 | 49=>some Yj
 | 50=>some Yk
 | 51=>some Ve
 | 53=>some Yl
 | 54=>some Ym
 | 55=>some Yn
 | 56=>some Vj
 | 57=>some Vn
 | 58=>some GB
 | 59=>some Qn
 | 60=>some Vt
 | 64=>some Yo
 | 65=>some Yp
 | 66=>some Yq
 | 68=>some Yr
 | 69=>some Ys
 | 70=>some Yt
 | 71=>some Yu
 | 73=>some c73
 | 74=>some Yv
 | 77=>some Yw
 | 91=>some c91
 | 92=>some Yx
 | 93=>some Yy
 | 94=>some Yz
 | 95=>some YA
 | 96=>some YB
 | 97=>some YC
 | 98=>some YD
 | 100=>some YE
 | 101=>some YF
 | 102=>some Sx
 | 103=>some Sy
 | 104=>some Sz
 | 105=>some SA
 | 106=>some SB
 | 107=>some SC
 | 108=>some Pa
 | 109=>some SD
 | 110=>some SE
 | 111=>some SF
 | 112=>some SG
 | 113=>some Zb
 | 114=>some SH
 | 115=>some SI
 | 116=>some SJ
 | 117=>some Pb
 | 118=>some Pc
 | 119=>some SK
 | 120=>some SL
 | 121=>some SM
 | 125=>some SN
 | 126=>some SO
 | 127=>some SP
 | 128=>some SQ
 | 129=>some SS
 | 131=>some Z4
 | 132=>some SU
 | 133=>some SV
 | 134=>some SW
 | 135=>some SX
 | 136=>some SY
 | 137=>some SZ
 | 138=>some S0
 | 139=>some S1
 | 140=>some Pd
 | 142=>some aar
 | 143=>some S2
 | 144=>some S3
 | 145=>some S5
 | 152=>some S6
 | 153=>some S7
 | 154=>some S8
 | 156=>some S9
 | 157=>some Ta
 | 158=>some Tb
 | 159=>some Pe
 | 166=>some Tc
 | 167=>some Td
 | _=>none
theorem G4:G 4=some c4:=rfl
theorem G10:G 10=some X2:=rfl
theorem G12:G 12=some X3:=rfl
theorem G13:G 13=some UE:=rfl
theorem G15:G 15=some UG:=rfl
theorem G19:G 19=some X4:=rfl
theorem G20:G 20=some X5:=rfl
theorem G21:G 21=some X6:=rfl
theorem G22:G 22=some X7:=rfl
theorem G23:G 23=some X8:=rfl
theorem G24:G 24=some X9:=rfl
theorem G26:G 26=some Ya:=rfl
theorem G27:G 27=some Yb:=rfl
theorem G36:G 36=some Yc:=rfl
theorem G37:G 37=some UY:=rfl
theorem G40:G 40=some Yd:=rfl
theorem NV:G 42=some Gz:=rfl
theorem G43:G 43=some Ye:=rfl
theorem G44:G 44=some Yf:=rfl
theorem G45:G 45=some Yg:=rfl
theorem G46:G 46=some U2:=rfl
theorem G47:G 47=some Yh:=rfl
theorem G48:G 48=some Yi:=rfl
theorem G49:G 49=some Yj:=rfl
theorem G50:G 50=some Yk:=rfl
theorem G51:G 51=some Ve:=rfl
theorem G53:G 53=some Yl:=rfl
theorem G54:G 54=some Ym:=rfl
theorem G55:G 55=some Yn:=rfl
theorem G56:G 56=some Vj:=rfl
theorem G57:G 57=some Vn:=rfl
theorem NW:G 58=some GB:=rfl
theorem G59:G 59=some Qn:=rfl
theorem G60:G 60=some Vt:=rfl
theorem G64:G 64=some Yo:=rfl
theorem G65:G 65=some Yp:=rfl
theorem G66:G 66=some Yq:=rfl
theorem G68:G 68=some Yr:=rfl
theorem G69:G 69=some Ys:=rfl
theorem G70:G 70=some Yt:=rfl
theorem G71:G 71=some Yu:=rfl
theorem G74:G 74=some Yv:=rfl
theorem G77:G 77=some Yw:=rfl
theorem G92:G 92=some Yx:=rfl
theorem G93:G 93=some Yy:=rfl
theorem G94:G 94=some Yz:=rfl
theorem G95:G 95=some YA:=rfl
theorem G96:G 96=some YB:=rfl
theorem G97:G 97=some YC:=rfl
theorem G98:G 98=some YD:=rfl
theorem aji:G 102=some Sx:=rfl
theorem ajj:G 103=some Sy:=rfl
theorem ajk:G 104=some Sz:=rfl
theorem Te:G 105=some SA:=rfl
theorem ajl:G 106=some SB:=rfl
theorem ajm:G 107=some SC:=rfl
theorem ajn:G 108=some Pa:=rfl
theorem ajo:G 109=some SD:=rfl
theorem ajp:G 110=some SE:=rfl
theorem ajq:G 111=some SF:=rfl
theorem ajr:G 112=some SG:=rfl
theorem ajs:G 114=some SH:=rfl
theorem ajt:G 115=some SI:=rfl
theorem aju:G 116=some SJ:=rfl
theorem ajv:G 117=some Pb:=rfl
theorem ajw:G 118=some Pc:=rfl
theorem ajx:G 119=some SK:=rfl
theorem ajy:G 120=some SL:=rfl
theorem ajz:G 121=some SM:=rfl
theorem ajA:G 125=some SN:=rfl
theorem ajB:G 126=some SO:=rfl
theorem ajC:G 127=some SP:=rfl
theorem ajD:G 128=some SQ:=rfl
theorem ajE:G 129=some SS:=rfl
theorem ajF:G 132=some SU:=rfl
theorem ajG:G 133=some SV:=rfl
theorem ajH:G 134=some SW:=rfl
theorem ajI:G 135=some SX:=rfl
theorem ajJ:G 136=some SY:=rfl
theorem aaR:G 137=some SZ:=rfl
theorem ajK:G 138=some S0:=rfl
theorem ajL:G 139=some S1:=rfl
theorem ajM:G 140=some Pd:=rfl
theorem Tf:G 143=some S2:=rfl
theorem ajN:G 144=some S3:=rfl
theorem ajO:G 145=some S5:=rfl
theorem ajP:G 152=some S6:=rfl
theorem ajQ:G 153=some S7:=rfl
theorem ajR:G 154=some S8:=rfl
theorem ajS:G 156=some S9:=rfl
theorem ajT:G 157=some Ta:=rfl
theorem ajU:G 158=some Tb:=rfl
theorem ajV:G 159=some Pe:=rfl
theorem ajW:G 166=some Tc:=rfl
theorem ajX:G 167=some Td:=rfl
end Go.Proofs.YtkkkkondjclcnaaGreat.A
