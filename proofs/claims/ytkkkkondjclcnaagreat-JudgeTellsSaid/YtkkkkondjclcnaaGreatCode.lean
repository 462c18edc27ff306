/- The abstract code of the functions, made by program. -/
import Derived.Test.YtkkkkondjclcnaaGreatAbsO
set_option linter.all false
set_option maxRecDepth 100000
namespace Go.Proofs.YtkkkkondjclcnaaGreat.A
open Go
abbrev gp(d:Nat)(x:nY):de:=⟨some d,x,none,false⟩
abbrev gg(d:Nat)(x:nY)(j:Nat)(b:Bool):de:=⟨some d,x,some (j,b),false⟩
abbrev gz(d:Nat)(x:nY):de:=⟨some d,x,none,true⟩
abbrev gS(n:Nat)(x y:aY):de:=⟨none,.st n x y,none,false⟩
abbrev gM(d:Nat)(x:aY):de:=gp d (.mv x)
abbrev gQ(d:Nat)(x:aY):de:=gp d (.ld none x)
abbrev gF(d n:Nat)(x:aY):de:=gp d (.fa n x)
abbrev gA(d:Nat)(x:aY):de:=gp d (.as x)
abbrev gB(d:Nat)(o:BinOp)(x y:aY):de:=gp d (.bo o false x y)
abbrev gL(g:de)(vw nk:List Nat):br:=⟨g,true,vw,[],false,[],nk,[]⟩
abbrev gV(g:de)(vw vb nk:List Nat):br:=⟨g,true,vw,vb,false,[],nk,[]⟩
abbrev gH(g:de):br:=⟨g,false,[],[],false,[],[],[]⟩
abbrev gU(g:de)(vw:List Nat):br:=gL g vw []
abbrev gX(g:de)(vw vb:List Nat):br:=gV g vw vb []
abbrev gC(d:Nat)(n:Nat)(x:aY):de:=gp d (.ld (some n) x)
abbrev hC(d:Nat)(n:Nat)(x:aY)(j:Nat)(b:Bool):de:=gg d (.ld (some n) x) j b
abbrev ga(d:Nat)(f:Nat)(xs:List aY):de:=gp d (.ca 0 f xs)
abbrev ha(d:Nat)(f:Nat)(xs:List aY)(j:Nat)(b:Bool):de:=gg d (.ca 0 f xs) j b
abbrev gl(d:Nat)(x:aY):de:=gp d (.ln false x)
abbrev hl(d:Nat)(x:aY)(j:Nat)(b:Bool):de:=gg d (.ln false x) j b
abbrev gi(d:Nat)(n:Nat)(x y:aY):de:=gp d (.ia n none x y)
abbrev hi(d:Nat)(n:Nat)(x y:aY)(j:Nat)(b:Bool):de:=gg d (.ia n none x y) j b
abbrev gn(d:Nat)(x:aY):de:=gp d (.no x)
abbrev hn(d:Nat)(x:aY)(j:Nat)(b:Bool):de:=gg d (.no x) j b
abbrev gk(d:Nat)(x y z:aY):de:=gp d (.pk x y z)
abbrev hk(d:Nat)(x y z:aY)(j:Nat)(b:Bool):de:=gg d (.pk x y z) j b
abbrev ge(d:Nat)(x:aY)(i:Nat):de:=gp d (.ex x i)
abbrev he(d:Nat)(x:aY)(i:Nat)(j:Nat)(b:Bool):de:=gg d (.ex x i) j b
abbrev hM(d:Nat)(x:aY)(j:Nat)(b:Bool):de:=gg d (.mv x) j b
abbrev hQ(d:Nat)(x:aY)(j:Nat)(b:Bool):de:=gg d (.ld none x) j b
abbrev hF(d:Nat)(n:Nat)(x:aY)(j:Nat)(b:Bool):de:=gg d (.fa n x) j b
abbrev hB(d:Nat)(o:BinOp)(x y:aY)(j:Nat)(b:Bool):de:=gg d (.bo o false x y) j b
abbrev rG:=AC.rg []
instance (n:Nat):OfNat aY n:=⟨.t n⟩
abbrev kI(n:Int):aY:=.c (.i .i64 n)
abbrev uC(d n x:Nat):br:=gU (gC d n (.t x)) [x]
abbrev uF(d n x:Nat):br:=gU (gF d n (.t x)) [x]
abbrev uM(d x:Nat):br:=gU (gM d (.t x)) [x]
abbrev uQ(d x:Nat):br:=gU (gQ d (.t x)) [x]
abbrev Xs(d n x j:Nat)(b:Bool):br:=gU (hC d n (.t x) j b) [x]
abbrev iO(d n x j:Nat)(b:Bool):br:=gU (hF d n (.t x) j b) [x]
abbrev mr(d x j:Nat)(b:Bool):br:=gU (hM d (.t x) j b) [x]
abbrev Ri(d x j:Nat)(b:Bool):br:=gU (hQ d (.t x) j b) [x]
abbrev HT(d n x y j:Nat)(b:Bool):br:=gU (hi d n (.t x) (.t y) j b) [x,y]
abbrev uhl(d x j:Nat)(b:Bool):br:=gU (hl d (.t x) j b) [x]
abbrev uhn(d x j:Nat)(b:Bool):br:=gU (hn d (.t x) j b) [x]
abbrev ui(d n x y:Nat):br:=gU (gi d n (.t x) (.t y)) [x,y]
abbrev un(d x:Nat):br:=gU (gn d (.t x)) [x]
abbrev vC(d n x:Nat)(nb:List Nat):br:=gL (gC d n (.t x)) [x] nb
abbrev vF(d n x:Nat)(nb:List Nat):br:=gL (gF d n (.t x)) [x] nb
abbrev vM(d x:Nat)(nb:List Nat):br:=gL (gM d (.t x)) [x] nb
abbrev vhF(d n x j:Nat)(b:Bool)(nb:List Nat):br:=gL (hF d n (.t x) j b) [x] nb
abbrev vhM(d x j:Nat)(b:Bool)(nb:List Nat):br:=gL (hM d (.t x) j b) [x] nb
abbrev vi(d n x y:Nat)(nb:List Nat):br:=gL (gi d n (.t x) (.t y)) [x,y] nb
abbrev xC(d n x:Nat)(vb:List Nat):br:=gX (gC d n (.t x)) [x] vb
abbrev xF(d n x:Nat)(vb:List Nat):br:=gX (gF d n (.t x)) [x] vb
abbrev xQ(d x:Nat)(vb:List Nat):br:=gX (gQ d (.t x)) [x] vb
abbrev FG(d n x j:Nat)(b:Bool)(vb:List Nat):br:=gX (hC d n (.t x) j b) [x] vb
abbrev Xt(d n x j:Nat)(b:Bool)(vb:List Nat):br:=gX (hF d n (.t x) j b) [x] vb
abbrev sd(d x j:Nat)(b:Bool)(vb:List Nat):br:=gX (hQ d (.t x) j b) [x] vb
abbrev Oe(d n x y j:Nat)(b:Bool)(vb:List Nat):br:=gX (hi d n (.t x) (.t y) j b) [x,y] vb
abbrev xhl(d x j:Nat)(b:Bool)(vb:List Nat):br:=gX (hl d (.t x) j b) [x] vb
abbrev xi(d n x y:Nat)(vb:List Nat):br:=gX (gi d n (.t x) (.t y)) [x,y] vb
abbrev xl(d x:Nat)(vb:List Nat):br:=gX (gl d (.t x)) [x] vb
abbrev yC(d n x:Nat)(vb nb:List Nat):br:=gV (gC d n (.t x)) [x] vb nb
abbrev yF(d n x:Nat)(vb nb:List Nat):br:=gV (gF d n (.t x)) [x] vb nb
abbrev yQ(d x:Nat)(vb nb:List Nat):br:=gV (gQ d (.t x)) [x] vb nb
abbrev Xu(d x j:Nat)(b:Bool)(vb nb:List Nat):br:=gV (hQ d (.t x) j b) [x] vb nb
abbrev yhi(d n x y j:Nat)(b:Bool)(vb nb:List Nat):br:=gV (hi d n (.t x) (.t y) j b) [x,y] vb nb
abbrev yi(d n x y:Nat)(vb nb:List Nat):br:=gV (gi d n (.t x) (.t y)) [x,y] vb nb
def aaw:AC:=(.sq (rG [gp 25 (.ca 1 31 []),gM 26 25,hM 27 4 26 true,hM 28 7 26 true,hB 29 .eql 27 28 26 true,gk 30 26 29 (.c (.b false)),gM 31 30,hM 32 3 31 true,hM 33 8 31 true,ha 34 32 [32,33] 31 true,gk 35 31 34 (.c (.b false)),gM 36 35,hM 37 6 36 true,hM 38 7 36 true,hB 39 .eql 37 38 36 true,gk 40 36 39 (.c (.b false)),gM 41 40,hM 42 5 41 true,hM 43 7 41 true,hB 44 .eql 43 (kI 0) 41 true,hM 45 44 41 true,hM 46 8 45 true,hl 47 46 45 true,hB 48 .eql 47 (kI 0) 45 true,hk 49 45 48 (.c (.b false)) 41 true,gg 50 (.bo .eql true 42 49) 41 true,gk 51 41 50 (.c (.b false)),gA 2 51] [2] []) .rt)
def alF:AC:=.kp [3,4,5,6,7,8] [] aaw
def c5:bE:=⟨(.sq (rG [gp 1 (.bx 0),gA 2 (.c (.b false))] [1] [1]) (.sq (rG [gC 10 8 1,ga 11 28 [10],gM 9 11,ge 12 9 0,ge 13 9 1,gA 3 12,gA 4 13] [1,3,4] [1]) (.sq (rG [gC 15 8 1,ga 16 29 [15],gM 14 16,ge 17 14 0,ge 18 14 1,gA 5 17,gA 6 18] [1,3,4,5,6] [1]) (.sq (rG [gC 19 8 1,ga 20 10 [19],gA 7 20] [1,3,4,5,6,7] [1]) (.sq (rG [gA 8 (.c (.l 133 []))] [1,3,4,5,6,7,8] [1]) (.sq (.sq (rG [gM 21 7,gB 22 .eql 21 (kI 0)] [1,3,4,5,6,7,8,22] [1]) (.ite 22 (rG [gC 23 8 1,ga 24 30 [23],gA 8 24] [3,4,5,6,7,8] []) .sk)) alF)))))),[.t 2]⟩
def agR:AC:=(.sq (.bl 1 (.sq (.dg [] [] [uF 61 0 1,xC 62 2 61 [1],uF 63 2 1,xQ 64 63 [1],uM 65 4,xi 66 1 64 65 [1],xQ 67 66 [1],gH (ga 68 21 [62,67]),gH (gn 69 68)] [1,4,69] [1]) (.ite 69 (.sq (rG [gA 2 (kI 5)] [2] []) .rt) .sk))) (rG [gM 59 4,gB 60 .add 59 (kI 1),gA 4 60] [1,4] [1]))
def agS:AC:=.kp [1,4] [1] agR
def agT:AC:=(.sq (.sq (rG [gM 54 4,gF 55 2 1,gQ 56 55,gl 57 56,gB 58 .lss 54 57] [1,4,58] [1]) (.ite 58 .sk (.ex 0))) agS)
def Xv:bb:=⟨[1,4],[1],agT⟩
def agU:AC:=(.sq (.bl 3 (rG [gM 84 5,gF 85 5 1,gQ 86 85,gM 87 6,gi 88 3 86 87,gF 89 1 88,gC 90 2 89,gz 91 (.bs 81 2 [90]),gp 92 (.ap 81 2 48 84 91),gA 5 92] [1,5,6] [1])) (rG [gM 82 6,gB 83 .add 82 (kI 1),gA 6 83] [1,5,6] [1]))
def agV:AC:=.kp [1,5,6] [1] agU
def agW:AC:=(.sq (.sq (rG [gM 77 6,gF 78 5 1,gQ 79 78,gl 80 79,gB 81 .lss 77 80] [1,5,6,81] [1]) (.ite 81 .sk (.ex 2))) agV)
def Xw:bb:=⟨[1,5,6],[1],agW⟩
def agX:AC:=(.sq (.bl 5 (.sq (.dg [] [] [uF 99 0 1,xC 100 2 99 [1],uM 101 5,uM 102 7,gU (gi 103 2 101 102) [101,102,5],gU (gC 104 2 103) [103,5],gH (ga 105 48 [100,104]),gH (gA 8 105)] [1,5,7,8] [1]) (.sq (rG [gM 106 8,gB 107 .neq 106 (kI 0)] [1,5,7,8,107] [1]) (.ite 107 (.sq (rG [gM 108 8,gA 2 108] [2] []) .rt) .sk)))) (rG [gM 97 7,gB 98 .add 97 (kI 1),gA 7 98] [1,5,7] [1]))
def agY:AC:=.kp [1,5,7] [1] agX
def agZ:AC:=(.sq (.sq (rG [gM 93 7,gM 94 5,gl 95 94,gB 96 .lss 93 95] [1,5,7,96] [1]) (.ite 96 .sk (.ex 4))) agY)
def Xx:bb:=⟨[1,5,7],[1],agZ⟩
def ag0:AC:=(.sq (.bl 7 (.sq (rG [gF 116 5 1,gQ 117 116,gM 118 9,gi 119 3 117 118,gC 120 3 119,gp 10 (.al [(.b false),(.l 138 []),(.l 138 [])]),gS 3 10 120] [1,9,10] [1,10]) (.sq (rG [gF 121 0 10,gQ 122 121,gn 123 122,gM 124 123,hF 125 1 10 124 true,hF 126 0 125 124 true,hQ 127 126 124 true,hl 128 127 124 true,hB 129 .gtr 128 (kI 0) 124 true,hM 130 129 124 true,hF 131 1 10 130 false,hF 132 1 131 130 false,hQ 133 132 130 false,hl 134 133 130 false,hB 135 .gtr 134 (kI 0) 130 false,gg 136 (.pk 130 (.c (.b true)) 135) 124 true,gk 137 124 136 (.c (.b false))] [1,9,137] [1]) (.ite 137 (.sq (rG [gA 2 (kI 1)] [2] []) .rt) .sk)))) (rG [gM 114 9,gB 115 .add 114 (kI 1),gA 9 115] [1,9] [1]))
def ag1:AC:=.kp [1,9] [1] ag0
def ag2:AC:=(.sq (.sq (rG [gM 109 9,gF 110 5 1,gQ 111 110,gl 112 111,gB 113 .lss 109 112] [1,9,113] [1]) (.ite 113 .sk (.ex 6))) ag1)
def Xy:bb:=⟨[1,9],[1],ag2⟩
def aax:AC:=(.sq (.bl 9 (rG [gM 148 11,gF 149 6 1,gQ 150 149,gM 151 12,gi 152 5 150 151,gF 153 1 152,gQ 154 153,ga 155 49 [154,(kI 1)],gB 156 .add 148 155,gA 11 156] [1,11,12] [1])) (rG [gM 146 12,gB 147 .add 146 (kI 1),gA 12 147] [1,11,12] [1]))
def aay:AC:=.kp [1,11,12] [1] aax
def ag3:AC:=(.sq (.sq (rG [gM 141 12,gF 142 6 1,gQ 143 142,gl 144 143,gB 145 .lss 141 144] [1,11,12,145] [1]) (.ite 145 .sk (.ex 8))) aay)
def Xz:bb:=⟨[1,11,12],[1],ag3⟩
def aaz:AC:=(.sq (.bl 15 (.sq (.dg [] [] [uF 198 0 14,xQ 199 198 [14],uM 200 16,xi 201 1 199 200 [14],xQ 202 201 [14],uF 203 0 14,xQ 204 203 [14],uM 205 15,xi 206 1 204 205 [14],xQ 207 206 [14],gH (gB 208 .eql 202 207)] [1,13,14,15,16,208] [1,14]) (.ite 208 (.sq (rG [gA 2 (kI 6)] [2] []) .rt) .sk))) (rG [gM 196 16,gB 197 .add 196 (kI 1),gA 16 197] [1,13,14,15,16] [1,14]))
def aaA:AC:=.kp [1,13,14,15,16] [1,14] aaz
def ag4:AC:=(.sq (.sq (rG [gM 193 16,gM 194 15,gB 195 .lss 193 194] [1,13,14,15,16,195] [1,14]) (.ite 195 .sk (.ex 14))) aaA)
def XA:bb:=⟨[1,13,14,15,16],[1,14],ag4⟩
def aaB:AC:=(.sq (rG [gA 16 (kI 0)] [1,13,14,15,16] [1,14]) (.bl 14 XA.lp))
def aaC:AC:=.kp [1,13,14,15] [1,14] aaB
def aaD:AC:=(.sq (.bl 13 (.sq (.sq (.dg [] [] [uF 182 0 14,xQ 183 182 [14],uM 184 15,xi 185 1 183 184 [14],xQ 186 185 [14],uF 187 5 1,xQ 188 187 [1],xl 189 188 [1],gU (gB 190 .sub 189 (kI 1)) [189],gH (ga 191 50 [186,(kI 0),190]),gH (gn 192 191)] [1,13,14,15,192] [1,14]) (.ite 192 (.sq (rG [gA 2 (kI 5)] [2] []) .rt) .sk)) aaC)) (rG [gM 180 15,gB 181 .add 180 (kI 1),gA 15 181] [1,13,14,15] [1,14]))
def aaE:AC:=.kp [1,13,14,15] [1,14] aaD
def ag5:AC:=(.sq (.sq (rG [gM 175 15,gF 176 0 14,gQ 177 176,gl 178 177,gB 179 .lss 175 178] [1,13,14,15,179] [1,14]) (.ite 179 .sk (.ex 12))) aaE)
def XB:bb:=⟨[1,13,14,15],[1,14],ag5⟩
def TO:AC:=(.sq (rG [gM 222 3,gB 223 .neq 222 (kI 0)] [1,3,13,223] [1]) (.ite 223 (.sq (rG [gM 224 3,gA 2 224] [2] []) .rt) .sk))
def aaF:AC:=.kp [1,3,13] [1] TO
def aaG:AC:=(.sq (rG [gC 209 8 1,gM 210 13,gF 211 1 14,gQ 212 211,ga 213 51 [209,210,212],gA 3 213] [1,3,13,14] [1,14]) (.sq (.sq (rG [gM 214 3,gB 215 .eql 214 (kI 0)] [1,3,13,14,215] [1,14]) (.ite 215 (rG [gF 216 2 14,gC 217 3 216,gF 218 5 1,gQ 219 218,gl 220 219,ga 221 12 [217,220],gA 3 221] [1,3,13] [1]) .sk)) aaF))
def aaH:AC:=.kp [1,13,14] [1,14] aaG
def aaI:AC:=(.sq (.sq (rG [gA 15 (kI 0)] [1,13,14,15] [1,14]) (.bl 12 XB.lp)) aaH)
def aaJ:AC:=.kp [1,13,14] [1,14] aaI
def aaK:AC:=(.sq (.bl 11 (.sq (rG [gF 166 6 1,gQ 167 166,gM 168 13,gi 169 5 167 168,gC 170 5 169,gp 14 (.al [(.l 3 []),(.l 92 []),(.i .i64 0),(.i .i64 0),(.l 37 [])]),gS 5 14 170] [1,13,14] [1,14]) (.sq (.sq (rG [gF 171 0 14,gQ 172 171,gl 173 172,gB 174 .gtr 173 (kI 4)] [1,13,14,174] [1,14]) (.ite 174 (.sq (rG [gA 2 (kI 2)] [2] []) .rt) .sk)) aaJ))) (rG [gM 164 13,gB 165 .add 164 (kI 1),gA 13 165] [1,13] [1]))
def aaL:AC:=.kp [1,13] [1] aaK
def ag6:AC:=(.sq (.sq (rG [gM 159 13,gF 160 6 1,gQ 161 160,gl 162 161,gB 163 .lss 159 162] [1,13,163] [1]) (.ite 163 .sk (.ex 10))) aaL)
def XC:bb:=⟨[1,13],[1],ag6⟩
def aaM:AC:=(.sq (rG [gC 225 8 1,gF 226 6 1,gQ 227 226,gl 228 227,gF 229 7 1,gQ 230 229,ga 231 51 [225,228,230],gA 2 231] [2] []) .rt)
def aaN:AC:=.kp [1] [1] aaM
def aaO:AC:=(.sq (.sq (rG [gA 13 (kI 0)] [1,13] [1]) (.bl 10 XC.lp)) aaN)
def aaP:AC:=.kp [1] [1] aaO
def aaQ:AC:=(.sq (.sq (rG [gM 157 11,gB 158 .gtr 157 (kI 50)] [1,158] [1]) (.ite 158 (.sq (rG [gA 2 (kI 2)] [2] []) .rt) .sk)) aaP)
def aaR:AC:=.kp [1,11] [1] aaQ
def ag7:AC:=(.sq (rG [gF 138 7 1,gQ 139 138,ga 140 49 [139,(kI 1)],gA 11 140] [1,11] [1]) (.sq (.sq (rG [gA 12 (kI 0)] [1,11,12] [1]) (.bl 8 Xz.lp)) aaR))
def ag8:AC:=.kp [1] [1] ag7
def ag9:AC:=(.sq (.sq (rG [gA 9 (kI 0)] [1,9] [1]) (.bl 6 Xy.lp)) ag8)
def aha:AC:=.kp [1] [1] ag9
def ahb:AC:=(.sq (.sq (rG [gA 7 (kI 0)] [1,5,7] [1]) (.bl 4 Xx.lp)) aha)
def ahc:AC:=.kp [1,5] [1] ahb
def ahd:AC:=(.sq (.dg [] [70,73] [gL (gp 70 (.bs 81 2 [])) [] [73],vF 71 3 1 [70,73],yQ 72 71 [1] [70,73],⟨gp 73 (.ap 81 2 48 70 72),true,[70,72],[1],false,[70],[],[]⟩,vF 74 4 1 [70,73],yQ 75 74 [1] [70,73],gH (gp 76 (.ap 81 2 48 73 75)),gH (gA 5 76)] [1,5] [1]) (.sq (.sq (.rg [.own 5 81] [gA 6 (kI 0)] [1,5,6] [1]) (.bl 2 Xw.lp)) ahc))
def ahe:AC:=.kp [1] [1] ahd
def ahf:AC:=(.sq (.sq (rG [gA 4 (kI 0)] [1,4] [1]) (.bl 0 Xv.lp)) ahe)
def ahg:AC:=.kp [1] [1] ahf
def ahh:AC:=(.sq (.sq (rG [gF 23 5 1,gQ 24 23,gl 25 24,gB 26 .gtr 25 (kI 16),gM 27 26,hF 28 3 1 27 false,hQ 29 28 27 false,hl 30 29 27 false,hB 31 .gtr 30 (kI 5) 27 false,gp 32 (.pk 27 (.c (.b true)) 31),gM 33 32,hF 34 4 1 33 false,hQ 35 34 33 false,hl 36 35 33 false,hB 37 .gtr 36 (kI 5) 33 false,gp 38 (.pk 33 (.c (.b true)) 37),gM 39 38,hF 40 6 1 39 false,hQ 41 40 39 false,hl 42 41 39 false,hB 43 .gtr 42 (kI 5) 39 false,gp 44 (.pk 39 (.c (.b true)) 43),gM 45 44,hF 46 2 1 45 false,hQ 47 46 45 false,hl 48 47 45 false,hF 49 0 1 45 false,hF 50 0 49 45 false,hQ 51 50 45 false,hB 52 .gtr 48 51 45 false,gp 53 (.pk 45 (.c (.b true)) 52)] [1,53] [1]) (.ite 53 (.sq (rG [gA 2 (kI 2)] [2] []) .rt) .sk)) ahg)
def ahi:AC:=.kp [1] [1] ahh
def c10:bE:=⟨(.sq (rG [gp 1 (.bx 0),gA 2 (kI 0)] [1] [1]) (.sq (rG [gF 17 0 1,gC 18 2 17,ga 19 47 [18],gA 3 19] [1,3] [1]) (.sq (.sq (rG [gM 20 3,gB 21 .neq 20 (kI 0)] [1,3,21] [1]) (.ite 21 (.sq (rG [gM 22 3,gA 2 22] [2] []) .rt) .sk)) ahi))),[.t 2]⟩
def ahj:AC:=(.sq (rG [gF 66 0 7,gQ 67 66,gB 68 .eql 67 (kI 2),gM 69 68,hF 70 1 7 69 true,hQ 71 70 69 true,hM 72 1 69 true,hB 73 .sub 72 (kI 1) 69 true,ha 74 50 [71,(kI 0),73] 69 true,hn 75 74 69 true,gk 76 69 75 (.c (.b false))] [1,5,6,76] []) (.ite 76 (.sq (rG [gA 4 (kI 5)] [4] []) .rt) .sk))
def ahk:AC:=.kp [1,5,6,7] [7] ahj
def ahl:AC:=(.sq (.sq (rG [gF 47 0 7,gQ 48 47,gB 49 .eql 48 (kI 1),gM 50 49,hF 51 1 7 50 true,hQ 52 51 50 true,ha 53 50 [52,(kI (-9999999)),(kI 9999999)] 50 true,hn 54 53 50 true,gk 55 50 54 (.c (.b false)),gM 56 55,hF 57 0 7 56 false,hQ 58 57 56 false,hB 59 .gtr 58 (kI 2) 56 false,hM 60 59 56 false,hF 61 1 7 60 true,hQ 62 61 60 true,hB 63 .neq 62 (kI 0) 60 true,hk 64 60 63 (.c (.b false)) 56 false,gp 65 (.pk 56 (.c (.b true)) 64)] [1,5,6,7,65] [7]) (.ite 65 (.sq (rG [gA 4 (kI 3)] [4] []) .rt) .sk)) ahk)
def ahm:AC:=.kp [1,5,6,7] [7] ahl
def ahn:AC:=(.sq (.sq (rG [gF 27 0 7,gQ 28 27,gB 29 .leq 28 (kI 2),gM 30 29,hF 31 2 7 30 true,hQ 32 31 30 true,hl 33 32 30 true,hB 34 .neq 33 (kI 0) 30 true,gk 35 30 34 (.c (.b false)),gM 36 35,hF 37 0 7 36 false,hQ 38 37 36 false,hB 39 .gtr 38 (kI 2) 36 false,hM 40 39 36 false,hF 41 2 7 40 true,hQ 42 41 40 true,hl 43 42 40 true,hB 44 .neq 43 (kI 2) 40 true,hk 45 40 44 (.c (.b false)) 36 false,gp 46 (.pk 36 (.c (.b true)) 45)] [1,5,6,7,46] [7]) (.ite 46 (.sq (rG [gA 4 (kI 1)] [4] []) .rt) .sk)) ahm)
def aho:AC:=.kp [1,5,6,7] [7] ahn
def ahp:AC:=(.sq (.bl 1 (.sq (rG [gM 19 5,gM 20 6,gi 21 3 19 20,gC 22 3 21,gp 7 (.al [(.i .i64 0),(.i .i64 0),(.l 37 [])]),gS 3 7 22] [1,5,6,7] [7]) (.sq (.sq (rG [gF 23 0 7,gQ 24 23,ga 25 50 [24,(kI 1),(kI 7)],gn 26 25] [1,5,6,7,26] [7]) (.ite 26 (.sq (rG [gA 4 (kI 7)] [4] []) .rt) .sk)) aho))) (rG [gM 17 6,gB 18 .add 17 (kI 1),gA 6 18] [1,5,6] []))
def ahq:AC:=.kp [1,5,6] [] ahp
def ahr:AC:=(.sq (.sq (rG [gM 13 6,gM 14 5,gl 15 14,gB 16 .lss 13 15] [1,5,6,16] []) (.ite 16 .sk (.ex 0))) ahq)
def XD:bb:=⟨[1,5,6],[],ahr⟩
def ahs:AC:=(.sq (rG [gC 11 3 2,ga 12 54 [11],gA 5 12] [1,5] []) (.sq (.sq (rG [gA 6 (kI 0)] [1,5,6] []) (.bl 0 XD.lp)) (.sq (rG [gA 4 (kI 0)] [4] []) .rt)))
def aht:AC:=.kp [1,2] [2] ahs
def c12:bE:=⟨(.sq (rG [gp 2 (.bx 0),gA 4 (kI 0)] [1,2] [2]) (.sq (.sq (rG [gC 8 3 2,ga 9 53 [8,(kI 15)],gB 10 .gtr 9 (kI 15)] [1,2,10] [2]) (.ite 10 (.sq (rG [gA 4 (kI 2)] [4] []) .rt) .sk)) aht)),[.t 4]⟩
def ahu:AC:=(.sq (.bl 1 (.sq (rG [gF 19 5 1,gQ 20 19,gM 21 4,gi 22 3 20 21,gF 23 0 22,gQ 24 23] [1,2,3,4,24] [1,2,3,1045000,1045001]) (.ite 24 (.dg [] [36] [vF 25 0 3 [36],yQ 26 25 [3,1045000,1045001] [36],vF 27 0 1 [36],yC 28 2 27 [1] [36],vF 29 5 1 [36],yQ 30 29 [1] [36],vM 31 4 [36],yi 32 3 30 31 [1] [36],yF 33 1 32 [1] [36],yC 34 2 33 [1] [36],gL (ga 35 55 [28,34]) [28,34] [36],gU (gz 36 (.bs 45 2 [35])) [35],gH (gp 37 (.ap 45 2 48 26 36)),gH (gF 38 0 3),gH (gS 1 38 37)] [1,2,3,4] [1,2,3,1045000,1045001]) (.dg [] [44] [vF 39 0 3 [44],yQ 40 39 [3,1045000,1045001] [44],vF 41 0 1 [44],yC 42 2 41 [1] [44],gL (ga 43 56 [42]) [42] [44],gU (gz 44 (.bs 45 2 [43])) [43],gH (gp 45 (.ap 45 2 48 40 44)),gH (gF 46 0 3),gH (gS 1 46 45)] [1,2,3,4] [1,2,3,1045000,1045001])))) (rG [gM 17 4,gB 18 .add 17 (kI 1),gA 4 18] [1,2,3,4] [1,2,3,1045000,1045001]))
def ahv:AC:=.kp [1,2,3,4] [1,2,3,1045000,1045001] ahu
def NH:AC:=(.sq (.sq (rG [gM 12 4,gF 13 5 1,gQ 14 13,gl 15 14,gB 16 .lss 12 15] [1,2,3,4,16] [1,2,3,1045000,1045001]) (.ite 16 .sk (.ex 0))) ahv)
def XE:bb:=⟨[1,2,3,4],[1,2,3,1045000,1045001],NH⟩
def ahw:AC:=(.sq (.bl 3 (.dg [] [59] [vF 54 1 3 [59],yQ 55 54 [3,1045000,1045001] [59],vF 56 0 1 [59],yC 57 2 56 [1] [59],gL (ga 58 56 [57]) [57] [59],gU (gz 59 (.bs 45 2 [58])) [58],gH (gp 60 (.ap 45 2 48 55 59)),gH (gF 61 1 3),gH (gS 1 61 60)] [1,2,3,5] [1,2,3,1045000,1045001])) (rG [gM 52 5,gB 53 .add 52 (kI 1),gA 5 53] [1,2,3,5] [1,2,3,1045000,1045001]))
def ahx:AC:=.kp [1,2,3,5] [1,2,3,1045000,1045001] ahw
def NI:AC:=(.sq (.sq (rG [gM 47 5,gF 48 6 1,gQ 49 48,gl 50 49,gB 51 .lss 47 50] [1,2,3,5,51] [1,2,3,1045000,1045001]) (.ite 51 .sk (.ex 2))) ahx)
def XG:bb:=⟨[1,2,3,5],[1,2,3,1045000,1045001],NI⟩
def ahy:AC:=(.sq (.dg [] [] [uM 131 11,gU (gB 132 .lss 131 (kI 0)) [131],uM 133 132,mr 134 9 133 true,mr 135 10 133 true,HT 136 3 134 135 133 true,iO 137 0 136 133 true,Xs 138 2 137 133 true,iO 139 1 3 133 true,sd 140 139 133 true [3,1045000,1045001],mr 141 11 133 true,gU (gg 142 (.bo .sub false (kI (-1)) 141) 133 true) [141],Oe 143 2 140 142 133 true [3,1045000,1045001],FG 144 2 143 133 true [3,1045000,1045001],gH (ha 145 59 [138,144] 133 true),gH (hn 146 145 133 true),gH (gk 147 133 146 (.c (.b false)))] [1,2,3,6,7,8,9,10,11,147] [1,2,3,1045000,1045001]) (.ite 147 (.sq (.dg [] [] [uF 148 1 3,xQ 149 148 [3,1045000,1045001],uM 150 11,gU (gB 151 .sub (kI (-1)) 150) [150],uF 152 1 3,xQ 153 152 [3,1045000,1045001],uM 154 11,gU (gB 155 .sub (kI (-1)) 154) [154],xi 156 2 153 155 [3,1045000,1045001],xC 157 2 156 [3,1045000,1045001],uM 158 9,uM 159 10,ui 160 3 158 159,uF 161 0 160,uC 162 2 161,gU (ga 163 60 [157,162]) [157,162],gH (gi 164 2 149 151),gH (gS 2 164 163)] [1,2,3,7,8,9,10] [1,2,3,1045000,1045001]) (rG [gA 6 (.c (.b true))] [1,2,3,6,7,8,9,10] [1,2,3,1045000,1045001])) .sk))
def ahz:AC:=.kp [1,2,3,6,7,8,9,10,11] [1,2,3,1045000,1045001] ahy
def ahA:AC:=(.sq (.sq (.dg [] [] [uM 100 11,gU (gB 101 .geq 100 (kI 0)) [100],uM 102 101,mr 103 9 102 true,mr 104 10 102 true,HT 105 3 103 104 102 true,iO 106 0 105 102 true,Xs 107 2 106 102 true,iO 108 0 3 102 true,sd 109 108 102 true [3,1045000,1045001],mr 110 11 102 true,Oe 111 2 109 110 102 true [3,1045000,1045001],FG 112 2 111 102 true [3,1045000,1045001],gH (ha 113 59 [107,112] 102 true),gH (hn 114 113 102 true),gH (gk 115 102 114 (.c (.b false)))] [1,2,3,6,7,8,9,10,11,115] [1,2,3,1045000,1045001]) (.ite 115 (.sq (.dg [] [] [uF 116 0 3,xQ 117 116 [3,1045000,1045001],uM 118 11,uF 119 0 3,xQ 120 119 [3,1045000,1045001],uM 121 11,xi 122 2 120 121 [3,1045000,1045001],xC 123 2 122 [3,1045000,1045001],uM 124 9,uM 125 10,ui 126 3 124 125,uF 127 0 126,uC 128 2 127,gU (ga 129 60 [123,128]) [123,128],gH (gi 130 2 117 118),gH (gS 2 130 129)] [1,2,3,7,8,9,10,11] [1,2,3,1045000,1045001]) (rG [gA 6 (.c (.b true))] [1,2,3,6,7,8,9,10,11] [1,2,3,1045000,1045001])) .sk)) ahz)
def ahB:AC:=.kp [1,2,3,6,7,8,9,10,11] [1,2,3,1045000,1045001] ahA
def ahC:AC:=(.sq (.bl 9 (.sq (rG [gM 85 9,gM 86 10,gi 87 3 85 86,gF 88 2 87,gQ 89 88,gA 11 89] [1,2,3,6,7,8,9,10,11] [1,2,3,1045000,1045001]) (.sq (.sq (rG [gM 90 11,gB 91 .geq 90 (kI 0),gM 92 91,hF 93 5 1 92 true,hQ 94 93 92 true,hM 95 11 92 true,hi 96 3 94 95 92 true,hF 97 0 96 92 true,hQ 98 97 92 true,gk 99 92 98 (.c (.b false))] [1,2,3,6,7,8,9,10,11,99] [1,2,3,1045000,1045001]) (.ite 99 (.ex 9) .sk)) ahB))) (rG [gM 83 10,gB 84 .add 83 (kI 1),gA 10 84] [1,2,3,6,7,8,9,10] [1,2,3,1045000,1045001]))
def ahD:AC:=.kp [1,2,3,6,7,8,9,10] [1,2,3,1045000,1045001] ahC
def BP:AC:=(.sq (.sq (rG [gM 79 10,gM 80 9,gl 81 80,gB 82 .lss 79 81] [1,2,3,6,7,8,9,10,82] [1,2,3,1045000,1045001]) (.ite 82 .sk (.ex 8))) ahD)
def XH:bb:=⟨[1,2,3,6,7,8,9,10],[1,2,3,1045000,1045001],BP⟩
def ahE:AC:=(.sq (.bl 7 (.sq (.dg [] [] [xC 72 8 1 [1],xC 73 2 3 [3,1045000,1045001],uM 74 7,uM 75 8,ui 76 12 74 75,uC 77 12 76,gH (ga 78 58 [72,73,77]),gH (gA 9 78)] [1,2,3,6,7,8,9] [1,2,3,1045000,1045001]) (.sq (rG [gA 10 (kI 0)] [1,2,3,6,7,8,9,10] [1,2,3,1045000,1045001]) (.bl 8 XH.lp)))) (rG [gM 70 8,gB 71 .add 70 (kI 1),gA 8 71] [1,2,3,6,7,8] [1,2,3,1045000,1045001]))
def ahF:AC:=.kp [1,2,3,6,7,8] [1,2,3,1045000,1045001] ahE
def Jp:AC:=(.sq (.sq (rG [gM 66 8,gM 67 7,gl 68 67,gB 69 .lss 66 68] [1,2,3,6,7,8,69] [1,2,3,1045000,1045001]) (.ite 69 .sk (.ex 6))) ahF)
def XI:bb:=⟨[1,2,3,6,7,8],[1,2,3,1045000,1045001],Jp⟩
def ahG:AC:=(.bl 5 (.sq (rG [gA 6 (.c (.b false))] [1,2,3,6] [1,2,3,1045000,1045001]) (.sq (rG [gC 63 8 1,gC 64 2 3,ga 65 57 [63,64],gA 7 65] [1,2,3,6,7] [1,2,3,1045000,1045001]) (.sq (rG [gA 8 (kI 0)] [1,2,3,6,7,8] [1,2,3,1045000,1045001]) (.bl 6 XI.lp)))))
def ahH:AC:=.kp [1,2,3] [1,2,3,1045000,1045001] ahG
def Jq:AC:=(.sq (.sq (rG [gM 62 6] [1,2,3,62] [1,2,3,1045000,1045001]) (.ite 62 .sk (.ex 4))) ahH)
def XJ:bb:=⟨[1,2,3,6],[1,2,3,1045000,1045001],Jq⟩
def XK:AC:=(.sq (.sq (.rg [.o0 3 0 1045000 2,.o0 3 1 1045001 2] [gA 6 (.c (.b true))] [1,2,3,6] [1,2,3,1045000,1045001]) (.bl 4 XJ.lp)) (.sq (.rg [.unp 3 0,.unp 3 1] [gC 165 2 3,gS 2 2 165] [2] [2]) .rt))
def ahI:AC:=.kp [1,2,3] [1,2,3,1045000,1045001] XK
def XL:AC:=(.sq (.sq (rG [gA 5 (kI 0)] [1,2,3,5] [1,2,3,1045000,1045001]) (.bl 2 XG.lp)) ahI)
def ahJ:AC:=.kp [1,2,3] [1,2,3,1045000,1045001] XL
def c13:bE:=⟨(.sq (rG [gp 1 (.bx 0),gp 2 (.al [(.l 45 []),(.l 45 [])])] [1,2] [1,2]) (.sq (rG [gp 3 (.al [.n,.n])] [1,2,3] [1,2,3,1045000,1045001]) (.sq (.sq (.rg [.ownC 3 1 45,.ownC 3 0 45] [gA 4 (kI 0)] [1,2,3,4] [1,2,3,1045000,1045001]) (.bl 0 XE.lp)) ahJ))),[.c 2 (some 2)]⟩
def ahK:AC:=(.sq (.bl 1 (.sq (rG [gM 21 8,gM 22 9,gi 23 3 21 22,gF 24 0 23,gQ 25 24,gB 26 .eql 25 (kI 2)] [1,6,7,8,9,26] [6,7]) (.ite 26 (.dg [] [] [xC 27 2 7 [7],uM 28 1,uM 29 8,uM 30 9,ui 31 3 29 30,uF 32 1 31,uQ 33 32,ui 34 2 28 33,uC 35 2 34,gH (ga 36 60 [27,35]),gH (gS 2 7 36)] [1,6,7,8,9] [6,7]) .sk))) (rG [gM 19 9,gB 20 .add 19 (kI 1),gA 9 20] [1,6,7,8,9] [6,7]))
def ahL:AC:=.kp [1,6,7,8,9] [6,7] ahK
def GX:AC:=(.sq (.sq (rG [gM 15 9,gM 16 8,gl 17 16,gB 18 .lss 15 17] [1,6,7,8,9,18] [6,7]) (.ite 18 .sk (.ex 0))) ahL)
def XM:bb:=⟨[1,6,7,8,9],[6,7],GX⟩
def c15:bE:=⟨(.sq (rG [gp 3 (.bx 0),gp 5 (.bx 2),gp 6 (.al [(.l 4 []),(.l 4 [])])] [1,3,5,6] [3,5,6]) (.sq (rG [gF 10 0 3,gC 11 2 10,ga 12 56 [11],gp 7 (.al [(.l 4 []),(.l 4 [])]),gS 2 7 12] [1,5,6,7] [5,6,7]) (.sq (rG [gC 13 3 5,ga 14 54 [13],gA 8 14] [1,6,7,8] [6,7]) (.sq (.sq (rG [gA 9 (kI 0)] [1,6,7,8,9] [6,7]) (.bl 0 XM.lp)) (.sq (rG [gC 37 2 7,gS 2 6 37] [6] [6]) .rt))))),[.c 6 (some 2)]⟩
def c21:bE:=⟨(.sq (rG [gp 2 (.bx 0),gA 4 (.c (.b false))] [1,2] [2]) (.sq (rG [gM 5 1,gF 6 0 2,gQ 7 6,gB 8 .sub 7 (kI 1),ga 9 50 [5,(kI 0),8],gA 4 9] [4] []) .rt)),[.t 4]⟩
def ahM:AC:=(.sq (rG [gC 10 8 1,ga 11 75 [10],gA 2 11,gA 3 (kI 0)] [2,3] []) .rt)
def ahN:AC:=.kp [1] [1] ahM
def c28:bE:=⟨(.sq (rG [gp 1 (.bx 0),gA 2 (.c (.l 133 [])),gA 3 (kI 0)] [1] [1]) (.sq (.sq (rG [gC 5 8 1,ga 6 36 [5],gA 4 6] [1,4] [1]) (.sq (rG [gM 7 4,gB 8 .neq 7 (kI 0)] [1,4,8] [1]) (.ite 8 (.sq (rG [gM 9 4,gA 2 (.c (.l 133 [])),gA 3 9] [2,3] []) .rt) .sk))) ahN)),[.t 2,.t 3]⟩
def c29:bE:=⟨(.sq (rG [gp 1 (.bx 0),gA 2 (.c (.b false)),gA 3 (kI 0)] [1] [1]) (.sq (rG [gC 7 8 1,ga 8 28 [7],gM 6 8,ge 9 6 0,ge 10 6 1,gA 4 9,gA 5 10] [4,5] []) (.sq (rG [gM 11 5,gB 12 .eql 11 (kI 0),gM 13 12,hM 14 4 13 true,hl 15 14 13 true,hB 16 .eql 15 (kI 0) 13 true,gk 17 13 16 (.c (.b false)),gM 18 5,gA 2 17,gA 3 18] [2,3] []) .rt))),[.t 2,.t 3]⟩
def ahO:AC:=(.sq (.bl 3 (.dg [] [] [uM 46 10,uM 47 46,mr 48 11 47 true,mr 49 12 47 true,HT 50 3 48 49 47 true,iO 51 2 50 47 true,Ri 52 51 47 true,gU (hB 53 .lss 52 (kI 0) 47 true) [52],mr 54 53 47 true,mr 55 11 54 false,mr 56 12 54 false,HT 57 3 55 56 54 false,iO 58 0 57 54 false,Xs 59 2 58 54 false,iO 60 0 3 54 false,sd 61 60 54 false [3],mr 62 11 54 false,mr 63 12 54 false,HT 64 3 62 63 54 false,iO 65 2 64 54 false,Ri 66 65 54 false,Oe 67 2 61 66 54 false [3],FG 68 2 67 54 false [3],gH (ha 69 59 [59,68] 54 false),gH (gg 70 (.pk 54 (.c (.b true)) 69) 47 true),gH (gk 71 47 70 (.c (.b false))),gH (gA 10 71)] [1,3,4,5,6,7,8,9,10,11,12] [1,3,5,8,9])) (rG [gM 44 12,gB 45 .add 44 (kI 1),gA 12 45] [1,3,4,5,6,7,8,9,10,11,12] [1,3,5,8,9]))
def ahP:AC:=.kp [1,3,4,5,6,7,8,9,10,11,12] [1,3,5,8,9] ahO
def XN:AC:=(.sq (.sq (rG [gM 40 12,gM 41 11,gl 42 41,gB 43 .lss 40 42] [1,3,4,5,6,7,8,9,10,11,12,43] [1,3,5,8,9]) (.ite 43 .sk (.ex 2))) ahP)
def NJ:bb:=⟨[1,3,4,5,6,7,8,9,10,11,12],[1,3,5,8,9],XN⟩
def ahQ:AC:=(.sq (.bl 6 (.sq (rG [gF 185 0 9,gQ 186 185,gB 187 .eql 186 (kI 5)] [1,3,4,5,6,7,8,9,13,14,15,16,17,187] [1,3,5,8,9,13,14]) (.ite 187 (.sq (rG [gM 188 15,gM 189 188,hF 190 1 13 189 false,hQ 191 190 189 false,hM 192 17 189 false,hi 193 1 191 192 189 false,hQ 194 193 189 false,hM 195 194 189 false,hF 196 1 14 195 true,hQ 197 196 195 true,hM 198 17 195 true,hi 199 1 197 198 195 true,hQ 200 199 195 true,hn 201 200 195 true,hk 202 195 201 (.c (.b false)) 189 false,gp 203 (.pk 189 (.c (.b true)) 202),gA 15 203] [1,3,4,5,6,7,8,9,13,14,15,16,17] [1,3,5,8,9,13,14]) (rG [gM 204 16,gM 205 204,hF 206 1 13 205 false,hQ 207 206 205 false,hM 208 17 205 false,hi 209 1 207 208 205 false,hQ 210 209 205 false,hM 211 210 205 false,hF 212 10 8 211 false,hF 213 1 212 211 false,hQ 214 213 211 false,hM 215 17 211 false,hi 216 1 214 215 211 false,hQ 217 216 211 false,gg 218 (.pk 211 (.c (.b true)) 217) 205 false,hM 219 218 205 false,hC 220 8 1 219 true,hM 221 17 219 true,ha 222 80 [220,221] 219 true,hn 223 222 219 true,hk 224 219 223 (.c (.b false)) 205 false,gp 225 (.pk 205 (.c (.b true)) 224),gA 16 225] [1,3,4,5,6,7,8,9,13,14,15,16,17] [1,3,5,8,9,13,14])) (rG [gM 226 15,gM 227 226,hF 228 0 14 227 false,hQ 229 228 227 false,hM 230 17 227 false,hi 231 1 229 230 227 false,hQ 232 231 227 false,hM 233 232 227 false,hF 234 0 13 233 true,hQ 235 234 233 true,hM 236 17 233 true,hi 237 1 235 236 233 true,hQ 238 237 233 true,hn 239 238 233 true,hk 240 233 239 (.c (.b false)) 227 false,gp 241 (.pk 227 (.c (.b true)) 240),gA 15 241] [1,3,4,5,6,7,8,9,13,14,15,16,17] [1,3,5,8,9,13,14])))) (rG [gM 183 17,gB 184 .add 183 (kI 1),gA 17 184] [1,3,4,5,6,7,8,9,13,14,15,16,17] [1,3,5,8,9,13,14]))
def ahR:AC:=.kp [1,3,4,5,6,7,8,9,13,14,15,16,17] [1,3,5,8,9,13,14] ahQ
def NK:AC:=(.sq (.sq (rG [gM 178 17,gF 179 0 1,gF 180 0 179,gQ 181 180,gB 182 .lss 178 181] [1,3,4,5,6,7,8,9,13,14,15,16,17,182] [1,3,5,8,9,13,14]) (.ite 182 .sk (.ex 5))) ahR)
def XO:bb:=⟨[1,3,4,5,6,7,8,9,13,14,15,16,17],[1,3,5,8,9,13,14],NK⟩
def XQ:AC:=(.sq (rG [gM 242 6,gF 243 9 8,gQ 244 243,gM 245 15,gp 246 (.d2 242 [244,(kI 8),245])] [1,3,4,5,6,7,8,16] [1,3,5,8]) (rG [gM 247 6,gF 248 9 8,gQ 249 248,gM 250 16,gp 251 (.d2 247 [249,(kI 9),250])] [1,3,4,5,6,7] [1,3,5]))
def ahS:AC:=.kp [1,3,4,5,6,7,8,15,16] [1,3,5,8] XQ
def NL:AC:=(.ite 146 (.sq (rG [gF 149 0 3,gQ 150 149,gF 151 1 9,gQ 152 151,gi 153 2 150 152,gC 154 2 153,gp 14 (.al [(.l 4 []),(.l 4 [])]),gS 2 14 154] [1,3,4,5,6,7,8,9,13,14] [1,3,5,8,9,13,14]) (.sq (.dg [] [] [uM 155 6,uF 156 9 8,xQ 157 156 [8],uF 158 10 8,xC 159 2 158 [8],xC 160 2 14 [14],gU (ga 161 59 [159,160]) [159,160],un 162 161,gH (gp 163 (.d2 155 [157,(kI 5),162]))] [1,3,4,5,6,7,8,9,13,14] [1,3,5,8,9,13,14]) (.sq (.dg [] [] [uM 164 6,uF 165 9 8,xQ 166 165 [8],xC 167 8 1 [1],xC 168 9 9 [9],gU (ga 169 78 [167,168]) [167,168],gH (gp 170 (.d2 164 [166,(kI 6),169]))] [1,3,4,5,6,7,8,9,13,14] [1,3,5,8,9,13,14]) (.sq (.dg [] [] [uM 171 6,uF 172 9 8,xQ 173 172 [8],xC 174 8 1 [1],xC 175 9 9 [9],gU (ga 176 79 [174,175]) [174,175],gH (gp 177 (.d2 171 [173,(kI 7),176]))] [1,3,4,5,6,7,8,9,13,14] [1,3,5,8,9,13,14]) (.sq (rG [gA 15 (.c (.b false)),gA 16 (.c (.b false))] [1,3,4,5,6,7,8,9,13,14,15,16] [1,3,5,8,9,13,14]) (.sq (.sq (rG [gA 17 (kI 0)] [1,3,4,5,6,7,8,9,13,14,15,16,17] [1,3,5,8,9,13,14]) (.bl 5 XO.lp)) ahS)))))) .sk)
def ahT:AC:=.kp [1,3,4,5,6,7,8,9,13,146] [1,3,5,8,9,13] NL
def zL:AC:=(.sq (rG [gF 84 0 9,gQ 85 84] [1,3,4,5,6,7,8,9,10,13,85] [1,3,5,8,9,13]) (.bl 4 (.sq (rG [gB 87 .eql 85 (kI 1),gA 86 87] [1,3,4,5,6,7,8,9,10,13,85,86] [1,3,5,8,9,13]) (.ite 86 (rG [gM 88 6,gF 89 9 8,gQ 90 89,gM 91 10,gn 92 91,gp 93 (.d2 88 [90,(kI 1),92])] [1,3,4,5,6,7] [1,3,5]) (.sq (rG [gB 95 .eql 85 (kI 2),gA 94 95] [1,3,4,5,6,7,8,9,10,13,85,94] [1,3,5,8,9,13]) (.ite 94 (rG [gM 96 6,gF 97 9 8,gQ 98 97,gM 99 10,gn 100 99,gp 101 (.d2 96 [98,(kI 2),100])] [1,3,4,5,6,7] [1,3,5]) (.sq (rG [gB 103 .eql 85 (kI 3),gA 102 103] [1,3,4,5,6,7,8,9,10,13,85,102] [1,3,5,8,9,13]) (.ite 102 (.dg [] [] [uM 104 6,uF 105 9 8,xQ 106 105 [8],uM 107 10,un 108 107,uM 109 108,iO 110 10 8 109 false,FG 111 2 110 109 false [8],iO 112 0 1 109 false,FG 113 2 112 109 false [1],iO 114 3 1 109 false,sd 115 114 109 false [1],iO 116 2 9 109 false,sd 117 116 109 false [9],Oe 118 2 115 117 109 false [1],FG 119 2 118 109 false [1],gU (ha 120 55 [113,119] 109 false) [113,119],gU (ha 121 59 [111,120] 109 false) [111,120],uhn 122 121 109 false,gU (gp 123 (.pk 109 (.c (.b true)) 122)) [109,122],gH (gp 124 (.d2 104 [106,(kI 3),123]))] [1,3,4,5,6,7] [1,3,5]) (.sq (rG [gB 126 .eql 85 (kI 4),gA 125 126] [1,3,4,5,6,7,8,9,13,85,125] [1,3,5,8,9,13]) (.ite 125 (.dg [] [] [uM 127 6,uF 128 9 8,xQ 129 128 [8],xC 130 2 13 [13],uF 131 10 8,xC 132 2 131 [8],gU (ga 133 60 [130,132]) [130,132],uF 134 0 1,xC 135 2 134 [1],uF 136 4 1,xQ 137 136 [1],uF 138 2 9,xQ 139 138 [9],xi 140 2 137 139 [1],xC 141 2 140 [1],gU (ga 142 55 [135,141]) [135,141],gU (ga 143 59 [133,142]) [133,142],un 144 143,gH (gp 145 (.d2 127 [129,(kI 4),144]))] [1,3,4,5,6,7] [1,3,5]) (.sq (.sq (rG [gB 147 .eql 85 (kI 5),gA 146 147] [1,3,4,5,6,7,8,9,13,85,146] [1,3,5,8,9,13]) (.ite 146 .sk (rG [gB 148 .eql 85 (kI 6),gA 146 148] [1,3,4,5,6,7,8,9,13,146] [1,3,5,8,9,13]))) ahT)))))))))))
def ahU:AC:=.kp [1,3,4,5,6,7,8,9,10,13] [1,3,5,8,9,13] zL
def ahV:AC:=(.sq (rG [gF 72 0 1,gC 73 2 72,ga 74 56 [73],gp 13 (.al [(.l 4 []),(.l 4 [])]),gS 2 13 74] [1,3,4,5,6,7,8,9,10,13] [1,3,5,8,9,13]) (.sq (.sq (rG [gF 75 0 9,gQ 76 75,ga 77 77 [76]] [1,3,4,5,6,7,8,9,10,13,77] [1,3,5,8,9,13]) (.ite 77 (rG [gC 78 8 1,gF 79 0 3,gQ 80 79,gF 81 3 9,gC 82 3 81,ga 83 15 [78,80,82],gS 2 13 83] [1,3,4,5,6,7,8,9,10,13] [1,3,5,8,9,13]) .sk)) ahU))
def ahW:AC:=.kp [1,3,4,5,6,7,8,9,10] [1,3,5,8,9] ahV
def ahX:AC:=(.sq (.bl 1 (.sq (rG [gM 30 4,gM 31 7,gi 32 12 30 31,gC 33 12 32,gp 8 (.al [(.i .i64 0),(.i .i64 0),(.i .i64 0),(.i .i64 0),(.i .i64 0),(.l 37 []),(.l 37 []),(.l 92 []),(.l 92 []),(.i .i64 0),(.l 4 []),(.l 4 [])]),gS 12 8 33] [1,3,4,5,6,7,8] [1,3,5,8]) (.sq (rG [gF 34 0 8,gC 35 9 34,gp 9 (.al [(.i .i64 0),(.i .i64 0),(.i .i64 0),(.i .i64 0),(.i .i64 0),(.l 37 []),(.l 37 []),(.l 92 []),(.l 92 [])]),gS 9 9 35] [1,3,4,5,6,7,8,9] [1,3,5,8,9]) (.sq (rG [gA 10 (.c (.b true))] [1,3,4,5,6,7,8,9,10] [1,3,5,8,9]) (.sq (rG [gC 36 8 1,gC 37 2 3,gC 38 12 8,ga 39 58 [36,37,38],gA 11 39] [1,3,4,5,6,7,8,9,10,11] [1,3,5,8,9]) (.sq (.sq (rG [gA 12 (kI 0)] [1,3,4,5,6,7,8,9,10,11,12] [1,3,5,8,9]) (.bl 2 NJ.lp)) ahW)))))) (rG [gM 28 7,gB 29 .add 28 (kI 1),gA 7 29] [1,3,4,5,6,7] [1,3,5]))
def ahY:AC:=.kp [1,3,4,5,6,7] [1,3,5] ahX
def NM:AC:=(.sq (.sq (rG [gM 24 7,gM 25 4,gl 26 25,gB 27 .lss 24 26] [1,3,4,5,6,7,27] [1,3,5]) (.ite 27 .sk (.ex 0))) ahY)
def XR:bb:=⟨[1,3,4,5,6,7],[1,3,5],NM⟩
def c30:bE:=⟨(.sq (rG [gp 1 (.bx 0),gA 2 (.c (.l 133 []))] [1] [1]) (.sq (rG [gC 18 8 1,ga 19 13 [18],gp 3 (.al [(.l 45 []),(.l 45 [])]),gS 2 3 19] [1,3] [1,3]) (.sq (rG [gC 20 8 1,gC 21 2 3,ga 22 57 [20,21],gA 4 22] [1,3,4] [1,3]) (.sq (rG [gp 5 (.al [.n])] [1,3,4,5] [1,3,5]) (.sq (.rg [.ownC 5 0 133] [gp 23 (.mf 76 [5]),gA 6 23] [1,3,4,5,6] [1,3,5]) (.sq (.sq (rG [gA 7 (kI 0)] [1,3,4,5,6,7] [1,3,5]) (.bl 0 XR.lp)) (.sq (.rg [.fzC 5 0] [gQ 252 5,gA 2 252] [2] []) .rt))))))),[.t 2]⟩
def ahZ:AC:=(.sq (.bl 1 (.sq (.dg [] [] [uM 17 0,uM 18 5,ui 19 2 17 18,uC 20 2 19,uM 21 1,uM 22 5,ui 23 2 21 22,uC 24 2 23,gH (gp 25 (.ae [1,1] true 20 24))] [0,1,5,25] []) (.ite 25 (.sq (rG [gA 4 (.c (.b false))] [4] []) .rt) .sk))) (rG [gM 15 5,gB 16 .add 15 (kI 1),gA 5 16] [0,1,5] []))
def ah0:AC:=.kp [0,1,5] [] ahZ
def ah1:AC:=(.sq (.sq (rG [gM 11 5,gM 12 0,gl 13 12,gB 14 .lss 11 13] [0,1,5,14] []) (.ite 14 .sk (.ex 0))) ah0)
def XS:bb:=⟨[0,1,5],[],ah1⟩
def ah2:AC:=(.sq (.sq (rG [gA 5 (kI 0)] [0,1,5] []) (.bl 0 XS.lp)) (.sq (rG [gA 4 (.c (.b true))] [4] []) .rt))
def ah3:AC:=.kp [0,1] [] ah2
def c32:bE:=⟨(.sq (rG [gA 4 (.c (.b false))] [0,1] []) (.sq (.sq (rG [gM 6 0,gl 7 6,gM 8 1,gl 9 8,gB 10 .neq 7 9] [0,1,10] []) (.ite 10 (.sq (rG [gA 4 (.c (.b false))] [4] []) .rt) .sk)) ah3)),[.t 4]⟩
def ah4:AC:=(.sq (rG [gC 17 2 4,gC 18 2 5,ga 19 43 [17,18],gA 6 19,gA 7 (kI 0)] [6,7] []) .rt)
def ah5:AC:=.kp [4,5] [4,5] ah4
def c35:bE:=⟨(.sq (rG [gp 3 (.bx 0),gp 4 (.bx 1),gp 5 (.bx 2),gA 6 (.c (.b false)),gA 7 (kI 0)] [3,4,5] [3,4,5]) (.sq (.sq (rG [gC 9 2 3,gC 10 2 4,gC 11 2 5,gz 12 (.bs 45 2 [10,11]),ga 13 91 [9,12],gA 8 13] [4,5,8] [4,5]) (.sq (rG [gM 14 8,gB 15 .neq 14 (kI 0)] [4,5,8,15] [4,5]) (.ite 15 (.sq (rG [gM 16 8,gA 6 (.c (.b false)),gA 7 16] [6,7] []) .rt) .sk))) ah5)),[.t 6,.t 7]⟩
def ah6:AC:=(.sq (.bl 1 (.sq (rG [gM 24 22,gi 25 5 20 22,gC 26 5 25,gp 6 (.al [(.l 3 []),(.l 92 []),(.i .i64 0),(.i .i64 0),(.l 37 [])]),gA 5 24,gS 5 6 26] [1,4,5,6,20,21,22] [1,6,18]) (.sq (rG [gM 27 4,gM 28 5,gp 29 (.nc 27),gF 30 8 29,gS 1 30 28] [1,4,6,20,21,22] [1,6,18]) (.sq (rG [gM 31 4,gC 32 5 6,gp 33 (.c2 94 [31,32]),gA 7 33] [1,4,7,20,21,22] [1,18]) (.sq (rG [gM 34 7,gB 35 .neq 34 (kI 0)] [1,4,7,20,21,22,35] [1,18]) (.ite 35 (.sq (rG [gM 36 7,gA 2 36] [2] []) .rt) .sk)))))) (rG [gB 37 .add 22 (kI 1),gM 22 37] [1,4,20,21,22] [1,18]))
def ah7:AC:=.kp [1,4,20,21,22] [1,18] ah6
def ah8:AC:=(.sq (rG [gB 23 .lss 22 21] [1,4,20,21,22,23] [1,18]) (.sq (.ite 23 .sk (.ex 0)) ah7))
def XT:bb:=⟨[1,4,20,21,22],[1,18],ah8⟩
def ah9:AC:=(.sq (rG [gM 38 4,gF 39 6 1,gQ 40 39,gl 41 40,gp 42 (.nc 38),gF 43 8 42,gS 1 43 41] [1,4] [1,18]) (.sq (rG [gM 44 4,gF 45 7 1,gQ 46 45,gp 47 (.c2 95 [44,46]),gA 2 47] [2] []) .rt))
def aia:AC:=.kp [1,4] [1,18] ah9
def aib:AC:=(.sq (rG [gC 16 8 1,gp 17 (.bd [(.i .i64 0),(.l 166 []),(.l 3 []),(.l 81 []),(.l 81 []),(.l 83 []),(.l 101 []),(.l 92 []),(.i .i64 0)] [(0,8,16)]),gp 18 (.bx 17),gA 4 18] [1,4] [1,18]) (.sq (.sq (rG [gF 19 6 1,gQ 20 19,gl 21 20,gM 22 (kI 0)] [1,4,20,21,22] [1,18]) (.bl 0 XT.lp)) aia))
def aic:AC:=.kp [1] [1] aib
def aid:AC:=(.sq (.sq (rG [gC 13 8 1,ga 14 93 [13],gn 15 14] [1,15] [1]) (.ite 15 (.sq (rG [gA 2 (kI 2)] [2] []) .rt) .sk)) aic)
def aie:AC:=.kp [1] [1] aid
def c36:bE:=⟨(.sq (rG [gp 1 (.bx 0),gA 2 (kI 0)] [1] [1]) (.sq (.sq (rG [gC 8 8 1,ga 9 92 [8],gA 3 9] [1,3] [1]) (.sq (rG [gM 10 3,gB 11 .neq 10 (kI 0)] [1,3,11] [1]) (.ite 11 (.sq (rG [gM 12 3,gA 2 12] [2] []) .rt) .sk))) aie)),[.t 2]⟩
def XU:AC:=(rG [gF 26 0 3,gQ 27 26,gC 28 2 6,gz 29 (.bs 45 2 [28]),gp 30 (.ap 45 2 48 27 29),gF 31 0 3,gS 1 31 30] [1,2,3,10,11,12] [1,2,3,1045000,1045001])
def XV:AC:=.kp [1,2,3,6,10,11,12] [1,2,3,6,1045000,1045001] XU
def aif:AC:=(.sq (.bl 1 (.sq (rG [gi 14 3 10 12,gC 15 3 14,gp 5 (.al [(.b false),(.l 138 []),(.l 138 [])]),gS 3 5 15] [1,2,3,5,10,11,12] [1,2,3,5,1045000,1045001]) (.sq (rG [gF 16 0 1,gC 17 2 16,ga 18 96 [17],gp 6 (.al [(.l 4 []),(.l 4 [])]),gS 2 6 18] [1,2,3,5,6,10,11,12] [1,2,3,5,6,1045000,1045001]) (.sq (.sq (rG [gF 19 0 5,gQ 20 19] [1,2,3,5,6,10,11,12,20] [1,2,3,5,6,1045000,1045001]) (.ite 20 (rG [gF 21 0 1,gC 22 2 21,gF 23 1 5,gC 24 2 23,ga 25 40 [22,24],gS 2 6 25] [1,2,3,6,10,11,12] [1,2,3,6,1045000,1045001]) .sk)) XV)))) (rG [gB 32 .add 12 (kI 1),gM 12 32] [1,2,3,10,11,12] [1,2,3,1045000,1045001]))
def aih:AC:=.kp [1,2,3,10,11,12] [1,2,3,1045000,1045001] aif
def NN:AC:=(.sq (rG [gB 13 .lss 12 11] [1,2,3,10,11,12,13] [1,2,3,1045000,1045001]) (.sq (.ite 13 .sk (.ex 0)) aih))
def XW:bb:=⟨[1,2,3,10,11,12],[1,2,3,1045000,1045001],NN⟩
def aii:AC:=(.sq (.bl 3 (.dg [] [43] [vF 38 1 3 [43],yQ 39 38 [3,1045000,1045001] [43],vF 40 0 1 [43],yC 41 2 40 [1] [43],gL (ga 42 96 [41]) [41] [43],gU (gz 43 (.bs 45 2 [42])) [42],gH (gp 44 (.ap 45 2 48 39 43)),gH (gF 45 1 3),gH (gS 1 45 44)] [1,2,3,35,36] [1,2,3,1045000,1045001])) (rG [gB 46 .add 36 (kI 1),gM 36 46] [1,2,3,35,36] [1,2,3,1045000,1045001]))
def aij:AC:=.kp [1,2,3,35,36] [1,2,3,1045000,1045001] aii
def NO:AC:=(.sq (rG [gB 37 .lss 36 35] [1,2,3,35,36,37] [1,2,3,1045000,1045001]) (.sq (.ite 37 .sk (.ex 2)) aij))
def XX:bb:=⟨[1,2,3,35,36],[1,2,3,1045000,1045001],NO⟩
def aik:AC:=(.sq (.bl 5 (.sq (rG [gS 1 8 (.c (.b false))] [1,2,3,7,8,50] [1,2,3,7,8,50,1045000,1045001]) (.sq (rG [gQ 52 7,gp 53 (.mf 97 [7,3,1,8]),gp 54 (.nc 52),gF 55 10 54,gS 1 55 53] [1,2,3,7,8,50] [1,2,3,7,8,50,1045000,1045001]) (rG [gQ 56 7,gp 57 (.c2 44 [56])] [1,2,3,7,8,50] [1,2,3,7,8,50,1045000,1045001])))) (.sq (rG [gQ 58 8] [1,2,3,7,50,58] [1,2,3,7,50,1045000,1045001]) (.rg [.fzC 50 10] [gp 8 (.al [(.b false)]),gS 1 8 58] [1,2,3,7,8,50] [1,2,3,7,8,50,1045000,1045001])))
def ail:AC:=.kp [1,2,3,7,8,50] [1,2,3,7,8,50,1045000,1045001] aik
def Jr:AC:=(.sq (.sq (rG [gQ 51 8] [1,2,3,7,8,50,51] [1,2,3,7,8,50,1045000,1045001]) (.ite 51 .sk (.ex 4))) ail)
def XY:bb:=⟨[1,2,3,7,8,50],[1,2,3,7,8,50,1045000,1045001],Jr⟩
def XZ:AC:=(.sq (.rg [.o0 3 0 1045000 2,.o0 3 1 1045001 2] [gC 47 8 1,gC 48 2 3,gp 49 (.bd [(.i .i64 0),(.l 166 []),(.l 3 []),(.l 81 []),(.l 81 []),(.l 83 []),(.l 101 []),(.l 92 []),(.l 45 []),(.l 45 []),.nf,(.i .i64 0)] [(0,8,47),(8,2,48)]),gp 50 (.bx 49),gp 7 (.al [.z]),gS 1 7 50] [1,2,3,7,50] [1,2,3,7,50,1045000,1045001]) (.sq (.sq (rG [gp 8 (.al [(.b false)]),gS 1 8 (.c (.b true))] [1,2,3,7,8,50] [1,2,3,7,8,50,1045000,1045001]) (.bl 4 XY.lp)) (.sq (.rg [.unp 3 0,.unp 3 1] [gC 59 2 3,gS 2 2 59] [2] [2]) .rt)))
def aim:AC:=.kp [1,2,3] [1,2,3,1045000,1045001] XZ
def X0:AC:=(.sq (.sq (rG [gF 33 6 1,gQ 34 33,gl 35 34,gM 36 (kI 0)] [1,2,3,35,36] [1,2,3,1045000,1045001]) (.bl 2 XX.lp)) aim)
def ain:AC:=.kp [1,2,3] [1,2,3,1045000,1045001] X0
def c37:bE:=⟨(.sq (rG [gp 1 (.bx 0),gp 2 (.al [(.l 45 []),(.l 45 [])])] [1,2] [1,2]) (.sq (rG [gp 3 (.al [.n,.n])] [1,2,3] [1,2,3,1045000,1045001]) (.sq (.sq (.rg [.ownC 3 0 45,.ownC 3 1 45] [gF 9 5 1,gQ 10 9,gl 11 10,gM 12 (kI 0)] [1,2,3,10,11,12] [1,2,3,1045000,1045001]) (.bl 0 XW.lp)) ain))),[.c 2 (some 2)]⟩
def c40:bE:=⟨(.sq (rG [gp 2 (.bx 0),gp 3 (.bx 1),gp 4 (.al [(.l 4 []),(.l 4 [])])] [2,3,4] [2,3,4]) (.sq (rG [gC 7 2 2,ga 8 102 [7],gp 5 (.al [(.l 43 [])]),gS 1 5 8] [2,3,4,5] [2,3,4,5]) (.sq (.rg [.fzB 2 true,.fzB 5 false] [gp 9 (.mf 103 [2,5]),gA 6 9] [3,4,6] [2,3,4,5]) (.sq (.dg [] [] [uM 10 6,uF 11 0 3,xQ 12 11 [3],gX (gp 13 (.cf 0 10 [12])) [10,12] [3],uM 14 6,uF 15 1 3,xQ 16 15 [3],gH (gp 17 (.d2 14 [16])),gH (gp 18 (.bd [(.l 4 []),(.l 4 [])] [(0,1,13),(1,1,17)])),gH (gS 2 4 18)] [4] [4]) .rt)))),[.c 4 (some 2)]⟩
def aio:AC:=(.sq (.bl 2 (.sq (rG [gM 41 39,gi 42 3 37 39,gC 43 3 42,gp 11 (.al [(.i .i64 0),(.i .i64 0),(.l 37 [])]),gA 10 41,gS 3 11 43] [4,5,7,8,9,10,11,37,38,39] [0,3,4,5,8,11]) (.dg [] [54] [vM 44 9 [54],vM 45 7 [54],yC 46 3 11 [11] [54],⟨gp 47 (.d3 45 [46]),true,[45,46],[3,5],true,[],[54],[]⟩,vF 48 0 8 [54],yQ 49 48 [8] [54],vM 50 10 [54],yi 51 1 49 50 [8] [54],yQ 52 51 [8] [54],gL (gp 53 (.bd [(.l 4 []),(.l 4 []),(.i .i64 0),(.b false)] [(0,2,47),(2,1,52),(3,1,(.c (.b false)))])) [47,52] [54],gU (gz 54 (.bs 96 4 [53])) [53],gH (gp 55 (.ap 96 4 64 44 54)),gH (gA 9 55)] [4,5,7,8,9,37,38,39] [0,3,4,5,8]))) (rG [gB 56 .add 39 (kI 1),gM 39 56] [4,5,7,8,9,37,38,39] [0,3,4,5,8]))
def aip:AC:=.kp [4,5,7,8,9,37,38,39] [0,3,4,5,8] aio
def NP:AC:=(.sq (rG [gB 40 .lss 39 38] [4,5,7,8,9,37,38,39,40] [0,3,4,5,8]) (.sq (.ite 40 .sk (.ex 1)) aip))
def NQ:bb:=⟨[4,5,7,8,9,37,38,39],[0,3,4,5,8],NP⟩
def X1:AC:=(.sq (.dg [] [69] [vM 57 9 [69],vM 58 7 [69],vF 59 2 8 [69],yC 60 3 59 [8] [69],⟨gp 61 (.d3 58 [60]),true,[58,60],[3,5],true,[],[69],[]⟩,vF 62 1 4 [69],yQ 63 62 [4] [69],gL (gp 64 (.bd [(.l 4 []),(.l 4 []),(.i .i64 0),(.b false)] [(0,2,61),(2,1,63),(3,1,(.c (.b false)))])) [61,63] [69],yC 65 2 5 [5] [69],vF 66 2 4 [69],yQ 67 66 [4] [69],gL (gp 68 (.bd [(.l 4 []),(.l 4 []),(.i .i64 0),(.b false)] [(0,2,65),(2,1,67),(3,1,(.c (.b true)))])) [65,67] [69],gU (gz 69 (.bs 96 4 [64,68])) [64,68],gH (gz 70 (.ap 96 4 64 57 69)),gH (gA 6 70)] [6] []) .rt)
def aiq:AC:=.kp [4,5,7,8,9] [0,3,4,5,8] X1
def Mr:bE:=⟨(.sq (rG [gp 3 (.bx 0),gp 4 (.bx 1),gp 5 (.bx 2),gA 6 (.c (.l 96 []))] [3,4,5] [0,3,4,5]) (.sq (.rg [.fzB 5 true] [gp 12 (.mf 108 [5,3]),gA 7 12] [3,4,5,7] [0,3,4,5]) (.sq (.sq (rG [gF 13 0 4,gQ 14 13] [3,4,5,7,14] [0,3,4,5]) (.bl 0 (.sq (rG [gB 16 .eql 14 (kI 1),gA 15 16] [3,4,5,7,14,15] [0,3,4,5]) (.ite 15 (.sq (.dg [] [] [uM 17 7,uF 18 3 4,xC 19 3 18 [4],⟨gp 20 (.d3 17 [19]),true,[17,19],[3,5],true,[],[],[]⟩,uF 21 1 4,xQ 22 21 [4],gH (gp 23 (.bd [(.l 4 []),(.l 4 []),(.i .i64 0),(.b false)] [(0,2,20),(2,1,22),(3,1,(.c (.b false)))])),gH (gz 24 (.bs 96 4 [23])),gH (gA 6 24)] [6] []) .rt) (.sq (rG [gB 26 .eql 14 (kI 2),gA 25 26] [3,4,5,7,14,25] [0,3,4,5]) (.ite 25 (.sq (.dg [] [8] [⟨gQ 27 3,true,[3],[3],true,[],[8],[]⟩,gL (gp 28 (.nc 27)) [27] [8],vF 29 0 28 [8],vF 30 6 29 [8],⟨gQ 31 30,true,[30],[],true,[],[8],[]⟩,vF 32 2 4 [8],yQ 33 32 [4] [8],vi 34 5 31 33 [8],vC 35 5 34 [8],gU (gp 8 (.al [(.l 3 []),(.l 92 []),(.i .i64 0),(.i .i64 0),(.l 37 [])])) [],gH (gS 5 8 35)] [4,5,7,8] [0,3,4,5,8]) (.sq (rG [gA 9 (.c .n)] [4,5,7,8,9] [0,3,4,5,8]) (.sq (.sq (.rg [.own 9 96] [gF 36 6 4,gQ 37 36,gl 38 37,gM 39 (kI 0)] [4,5,7,8,9,37,38,39] [0,3,4,5,8]) (.bl 1 NQ.lp)) aiq))) (.sq (rG [gB 72 .eql 14 (kI 3),gA 71 72] [3,4,5,7,14,71] [0,3,4,5]) (.ite 71 (.sq (.dg [] [] [xC 73 2 5 [5],⟨gQ 74 3,true,[3],[3],true,[],[],[]⟩,gU (gp 75 (.nc 74)) [74],uF 76 0 75,uF 77 0 76,⟨gC 78 2 77,true,[77],[],true,[],[],[]⟩,⟨gQ 79 3,true,[3],[3],true,[],[],[]⟩,gU (gp 80 (.nc 79)) [79],uF 81 0 80,uF 82 3 81,⟨gQ 83 82,true,[82],[],true,[],[],[]⟩,uF 84 2 4,xQ 85 84 [4],ui 86 2 83 85,uC 87 2 86,gU (ga 88 40 [78,87]) [78,87],gU (ga 89 98 [73,88]) [73,88],uF 90 1 4,xQ 91 90 [4],gH (gp 92 (.bd [(.l 4 []),(.l 4 []),(.i .i64 0),(.b false)] [(0,2,89),(2,1,91),(3,1,(.c (.b false)))])),gH (gz 93 (.bs 96 4 [92])),gH (gA 6 93)] [6] []) .rt) (.sq (rG [gB 95 .eql 14 (kI 5),gA 94 95] [4,5,7,14,94] [0,3,4,5]) (.ite 94 (.sq (.dg [] [] [uF 96 0 5,xQ 97 96 [5],uM 98 7,uF 99 3 4,xC 100 3 99 [4],⟨gp 101 (.d3 98 [100]),true,[98,100],[3,5],true,[],[],[]⟩,gU (gp 102 (.fd none 1 101)) [101],gU (gp 103 (.bd [(.l 4 []),(.l 4 [])] [(0,1,97),(1,1,102)])) [97,102],uF 104 1 4,xQ 105 104 [4],gH (gp 106 (.bd [(.l 4 []),(.l 4 []),(.i .i64 0),(.b false)] [(0,2,103),(2,1,105),(3,1,(.c (.b false)))])),gH (gz 107 (.bs 96 4 [106])),gH (gA 6 107)] [6] []) .rt) (.sq (rG [gB 109 .eql 14 (kI 6),gA 108 109] [4,5,7,108] [0,3,4,5]) (.ite 108 (.sq (.dg [] [] [uM 110 7,uF 111 3 4,xC 112 3 111 [4],⟨gp 113 (.d3 110 [112]),true,[110,112],[3,5],true,[],[],[]⟩,gU (gp 114 (.fd none 0 113)) [113],uF 115 1 5,xQ 116 115 [5],gU (gp 117 (.bd [(.l 4 []),(.l 4 [])] [(0,1,114),(1,1,116)])) [114,116],uF 118 1 4,xQ 119 118 [4],gH (gp 120 (.bd [(.l 4 []),(.l 4 []),(.i .i64 0),(.b false)] [(0,2,117),(2,1,119),(3,1,(.c (.b false)))])),gH (gz 121 (.bs 96 4 [120])),gH (gA 6 121)] [6] []) .rt) .sk)))))))))))) (.sq (rG [gA 6 (.c (.l 96 []))] [6] []) .rt)))),[.t 6]⟩
def c43:bE:=⟨(.sq (rG [gp 2 (.bx 0),gp 3 (.bx 1),gA 4 (.c (.b false))] [2,3] [2,3]) (.sq (rG [gF 5 0 3,gQ 6 5,gF 7 0 2,gQ 8 7,ga 9 109 [6,8],gM 10 9,hF 11 1 2 10 true,hQ 12 11 10 true,hF 13 1 3 10 true,hQ 14 13 10 true,ha 15 109 [12,14] 10 true,gk 16 10 15 (.c (.b false)),gA 4 16] [4] []) .rt)),[.t 4]⟩
def air:AC:=(.sq (.bl 1 (.sq (rG [gM 15 13,gi 16 5 11 13,gC 17 5 16,gp 3 (.al [(.l 3 []),(.l 92 []),(.i .i64 0),(.i .i64 0),(.l 37 [])]),gA 2 15,gS 5 3 17] [0,2,3,11,12,13] [0,3]) (.dg [] [] [uM 18 0,uF 19 1 3,xQ 20 19 [3],uM 21 0,gU (gp 22 (.nc 21)) [21],uF 23 8 22,uF 24 1 23,⟨gQ 25 24,true,[24],[],true,[],[],[]⟩,uM 26 2,⟨gi 27 2 25 26,true,[25,26],[],true,[],[],[]⟩,⟨gC 28 2 27,true,[27],[],true,[],[],[]⟩,gH (gp 29 (.c2 110 [18,20,28]))] [0,11,12,13] [0]))) (rG [gB 30 .add 13 (kI 1),gM 13 30] [0,11,12,13] [0]))
def ais:AC:=.kp [0,11,12,13] [0] air
def NR:AC:=(.sq (rG [gB 14 .lss 13 12] [0,11,12,13,14] [0]) (.sq (.ite 14 .sk (.ex 0)) ais))
def X2:bb:=⟨[0,11,12,13],[0],NR⟩
def X3:AC:=(.dg [] [] [uM 31 0,uM 32 0,gU (gp 33 (.nc 32)) [32],uF 34 0 33,uF 35 7 34,⟨gQ 36 35,true,[35],[],true,[],[],[]⟩,uM 37 0,gU (gp 38 (.nc 37)) [37],uF 39 0 38,uF 40 0 39,⟨gC 41 2 40,true,[40],[],true,[],[],[]⟩,gU (ga 42 96 [41]) [41],gH (gp 43 (.c2 110 [31,36,42]))] [] [])
def ait:AC:=.kp [0] [0] X3
def c44:bE:=⟨(.sq (rG [gM 4 0,gp 5 (.nc 4),gF 6 11 5,gS 1 6 (kI 0)] [0] [0]) (.sq (.sq (rG [gM 7 0,gp 8 (.nc 7),gF 9 0 8,gF 10 6 9,gQ 11 10,gl 12 11,gM 13 (kI 0)] [0,11,12,13] [0]) (.bl 0 X2.lp)) ait)),[]⟩
def aiu:AC:=(.sq (rG [gC 8 3 2,gM 9 1,ga 10 112 [8,9],gA 4 10] [4] []) .rt)
def aiv:AC:=.kp [1,2] [2] aiu
def c45:bE:=⟨(.sq (rG [gp 2 (.bx 0),gA 4 (kI 0)] [1,2] [2]) (.sq (.sq (rG [gC 5 3 2,ga 6 111 [5,(kI 15)],gB 7 .gtr 6 (kI 15)] [1,2,7] [2]) (.ite 7 (.sq (rG [gA 4 (kI 2)] [4] []) .rt) .sk)) aiv)),[.t 4]⟩
def c46:bE:=⟨(.sq (rG [gp 3 (.bx 0),gp 4 (.bx 1),gp 5 (.bx 2),gp 6 (.al [(.l 4 []),(.l 4 [])])] [3,4,5,6] [3,4,5,6]) (.sq (rG [gF 9 0 3,gC 10 2 9,ga 11 96 [10],gp 7 (.al [(.l 4 []),(.l 4 [])]),gS 2 7 11] [4,5,6,7] [4,5,6,7]) (.sq (.sq (rG [gC 12 3 5,ga 13 113 [12]] [4,6,7,13] [4,6,7]) (.bl 0 (.ru 13 14 (rG [gA 8 14] [4,6,7,8] [4,6,7]) (.bl 1 (.dg [] [] [⟨gC 15 2 7,true,[7],[],true,[],[],[]⟩,⟨gQ 16 4,true,[4],[],true,[],[],[]⟩,uM 17 8,⟨gi 18 2 16 17,true,[16,17],[],true,[],[],[]⟩,⟨gC 19 2 18,true,[18],[],true,[],[],[]⟩,gH (ga 20 98 [15,19]),gH (gS 2 7 20)] [4,6,7] [4,6,7]))))) (.sq (rG [gC 21 2 7,gS 2 6 21] [6] [6]) .rt)))),[.c 6 (some 2)]⟩
def aiw:AC:=(.sq (.bl 1 (.sq (.dg [] [] [xC 19 2 1 [1],uF 20 1 1,xQ 21 20 [1],uM 22 3,xi 23 2 21 22 [1],xF 24 0 23 [1],xQ 25 24 [1],gU (ga 26 21 [19,25]) [19,25],un 27 26,uM 28 27,FG 29 2 1 28 false [1],iO 30 1 1 28 false,sd 31 30 28 false [1],mr 32 3 28 false,Oe 33 2 31 32 28 false [1],Xt 34 1 33 28 false [1],sd 35 34 28 false [1],gH (ha 36 21 [29,35] 28 false),gH (hn 37 36 28 false),gH (gp 38 (.pk 28 (.c (.b true)) 37))] [1,3,38] [1]) (.ite 38 (.sq (rG [gA 2 (kI 5)] [2] []) .rt) .sk))) (rG [gM 17 3,gB 18 .add 17 (kI 1),gA 3 18] [1,3] [1]))
def aix:AC:=.kp [1,3] [1] aiw
def aiy:AC:=(.sq (.sq (rG [gM 12 3,gF 13 1 1,gQ 14 13,gl 15 14,gB 16 .lss 12 15] [1,3,16] [1]) (.ite 16 .sk (.ex 0))) aix)
def X4:bb:=⟨[1,3],[1],aiy⟩
def aiz:AC:=(.sq (.sq (rG [gA 3 (kI 0)] [1,3] [1]) (.bl 0 X4.lp)) (.sq (rG [gA 2 (kI 0)] [2] []) .rt))
def aiA:AC:=.kp [1] [1] aiz
def aiB:AC:=(.sq (.sq (rG [gF 8 1 1,gQ 9 8,gl 10 9,gB 11 .gtr 10 (kI 20)] [1,11] [1]) (.ite 11 (.sq (rG [gA 2 (kI 2)] [2] []) .rt) .sk)) aiA)
def aiC:AC:=.kp [1] [1] aiB
def c47:bE:=⟨(.sq (rG [gp 1 (.bx 0),gA 2 (kI 0)] [1] [1]) (.sq (.sq (rG [gF 4 0 1,gQ 5 4,ga 6 50 [5,(kI 1),(kI 6)],gn 7 6] [1,7] [1]) (.ite 7 (.sq (rG [gA 2 (kI 3)] [2] []) .rt) .sk)) aiC)),[.t 2]⟩
def c48:bE:=⟨(.sq (rG [gp 2 (.bx 0),gp 3 (.bx 1),gA 4 (kI 0)] [2,3] [2,3]) (.sq (rG [gC 6 2 2,gF 7 0 3,gQ 8 7,ga 9 114 [6,8],gA 5 9] [2,3,5] [2,3]) (.sq (.sq (rG [gM 10 5,gB 11 .eql 10 (kI 0)] [2,3,5,11] [2,3]) (.ite 11 (rG [gC 12 2 2,gF 13 1 3,gQ 14 13,ga 15 114 [12,14],gA 5 15] [5] []) .sk)) (.sq (rG [gM 16 5,gA 4 16] [4] []) .rt)))),[.t 4]⟩
def aiD:AC:=(.sq (.bl 1 (.dg [] [] [uM 24 5,uM 25 0,uM 26 6,ui 27 9 25 26,uF 28 7 27,uQ 29 28,uM 30 1,gU (gB 31 .add 30 (kI 1)) [30],gU (ga 32 49 [29,31]) [29,31],gU (gB 33 .add (kI 1) 32) [32],uM 34 0,uM 35 6,ui 36 9 34 35,uF 37 8 36,uQ 38 37,uM 39 1,gU (gB 40 .add 39 (kI 1)) [39],gU (ga 41 49 [38,40]) [38,40],gU (gB 42 .add 33 41) [33,41],gH (gB 43 .add 24 42),gH (gA 5 43)] [0,1,5,6] [])) (rG [gM 22 6,gB 23 .add 22 (kI 1),gA 6 23] [0,1,5,6] []))
def aiE:AC:=.kp [0,1,5,6] [] aiD
def aiF:AC:=(.sq (.sq (rG [gM 14 6,gM 15 0,gl 16 15,gB 17 .lss 14 16,gM 18 17,hM 19 5 18 true,hB 20 .leq 19 (kI 50) 18 true,gk 21 18 20 (.c (.b false))] [0,1,5,6,21] []) (.ite 21 .sk (.ex 0))) aiE)
def X5:bb:=⟨[0,1,5,6],[],aiF⟩
def aiG:AC:=(.sq (.sq (rG [gM 44 5,gB 45 .gtr 44 (kI 51)] [5,45] []) (.ite 45 (.sq (rG [gA 4 (kI 51)] [4] []) .rt) .sk)) (.sq (rG [gM 46 5,gA 4 46] [4] []) .rt))
def aiH:AC:=.kp [5] [] aiG
def X6:AC:=(.sq (rG [gA 5 (kI 0)] [0,1,5] []) (.sq (.sq (rG [gA 6 (kI 0)] [0,1,5,6] []) (.bl 0 X5.lp)) aiH))
def aiI:AC:=.kp [0,1] [] X6
def c49:bE:=⟨(.sq (rG [gA 4 (kI 0)] [0,1] []) (.sq (.sq (rG [gM 7 0,gl 8 7,gB 9 .gtr 8 (kI 0),gM 10 9,hM 11 1 10 true,hB 12 .gtr 11 (kI 6) 10 true,gk 13 10 12 (.c (.b false))] [0,1,13] []) (.ite 13 (.sq (rG [gA 4 (kI 51)] [4] []) .rt) .sk)) aiI)),[.t 4]⟩
def c50:bE:=⟨(.sq (rG [gA 6 (.c (.b false))] [0,1,2] []) (.sq (rG [gM 7 0,gM 8 1,gB 9 .geq 7 8,gM 10 9,hM 11 0 10 true,hM 12 2 10 true,hB 13 .leq 11 12 10 true,gk 14 10 13 (.c (.b false)),gA 6 14] [6] []) .rt)),[.t 6]⟩
def aiJ:AC:=(.sq (.bl 3 (.dg [] [] [uF 173 6 8,xQ 174 173 [8],uM 175 13,xi 176 3 174 175 [8],xC 177 3 176 [8],uF 178 5 3,xQ 179 178 [3],xl 180 179 [3],gH (ga 181 12 [177,180]),gH (gA 12 181)] [1,2,3,7,8,12,13] [3,8])) (rG [gM 171 13,gB 172 .add 171 (kI 1),gA 13 172] [1,2,3,7,8,12,13] [3,8]))
def aiK:AC:=.kp [1,2,3,7,8,13] [3,8] aiJ
def Js:AC:=(.sq (.sq (rG [gM 162 13,gF 163 6 8,gQ 164 163,gl 165 164,gB 166 .lss 162 165,gM 167 166,hM 168 12 167 true,hB 169 .eql 168 (kI 0) 167 true,gk 170 167 169 (.c (.b false))] [1,2,3,7,8,12,13,170] [3,8]) (.ite 170 .sk (.ex 2))) aiK)
def X7:bb:=⟨[1,2,3,7,8,12,13],[3,8],Js⟩
def aiL:AC:=(.sq (rG [gM 196 12,gB 197 .neq 196 (kI 0)] [1,2,3,7,12,197] [3]) (.ite 197 (.sq (rG [gM 198 12,gA 6 198] [6] []) .rt) .sk))
def X8:AC:=.kp [1,2,3,7,12] [3] aiL
def aiM:AC:=(.sq (.sq (rG [gM 189 12,gB 190 .eql 189 (kI 0)] [1,2,3,7,8,12,190] [3,8]) (.ite 190 (rG [gC 191 8 3,gM 192 1,gF 193 8 8,gQ 194 193,ga 195 51 [191,192,194],gA 12 195] [1,2,3,7,12] [3]) .sk)) X8)
def X9:AC:=.kp [1,2,3,7,8,12] [3,8] aiM
def aiN:AC:=(.sq (.sq (rG [gM 182 12,gB 183 .eql 182 (kI 0)] [1,2,3,7,8,12,183] [3,8]) (.ite 183 (rG [gC 184 8 3,gM 185 1,gF 186 7 8,gQ 187 186,ga 188 51 [184,185,187],gA 12 188] [1,2,3,7,8,12] [3,8]) .sk)) X9)
def Ya:AC:=.kp [1,2,3,7,8,12] [3,8] aiN
def aiO:AC:=(.sq (.sq (rG [gA 13 (kI 0)] [1,2,3,7,8,12,13] [3,8]) (.bl 2 X7.lp)) Ya)
def Yb:AC:=.kp [1,2,3,7,8,12] [3,8] aiO
def aiP:AC:=(.sq (rG [gA 12 (kI 0)] [1,2,3,7,8,9,12] [3,8]) (.sq (.sq (rG [gM 154 9,ga 155 77 [154]] [1,2,3,7,8,12,155] [3,8]) (.ite 155 (rG [gF 156 3 8,gC 157 3 156,gF 158 5 3,gQ 159 158,gl 160 159,ga 161 12 [157,160],gA 12 161] [1,2,3,7,8,12] [3,8]) .sk)) Yb))
def aiQ:AC:=.kp [1,2,3,7,8,9] [3,8] aiP
def Yc:AC:=(.sq (.sq (.dg [] [] [uM 138 9,gU (gB 139 .eql 138 (kI 2)) [138],uM 140 139,iO 141 6 8 140 true,sd 142 141 140 true [8],xhl 143 142 140 true [8],iO 144 6 3 140 true,sd 145 144 140 true [3],iO 146 2 8 140 true,sd 147 146 140 true [8],Oe 148 5 145 147 140 true [3],Xt 149 0 148 140 true [3],sd 150 149 140 true [3],uhl 151 150 140 true,gH (hB 152 .neq 143 151 140 true),gH (gk 153 140 152 (.c (.b false)))] [1,2,3,7,8,9,153] [3,8]) (.ite 153 (.sq (rG [gA 6 (kI 1)] [6] []) .rt) .sk)) aiQ)
def aiR:AC:=.kp [1,2,3,7,8,9] [3,8] Yc
def SE:AC:=(.sq (rG [gF 64 3 8,gF 65 0 64,gQ 66 65,gB 67 .eql 66 (kI 0),gM 68 67,hF 69 3 8 68 true,hF 70 1 69 68 true,hQ 71 70 68 true,hB 72 .eql 71 (kI 0) 68 true,gk 73 68 72 (.c (.b false)),gM 74 73,hF 75 3 8 74 true,hF 76 2 75 74 true,hQ 77 76 74 true,hl 78 77 74 true,hB 79 .eql 78 (kI 0) 74 true,gk 80 74 79 (.c (.b false)),gA 11 80] [1,2,3,7,8,9,11] [3,8]) (.sq (.sq (rG [gM 81 9,ga 82 115 [81],gn 83 82,gM 84 83,hF 85 1 8 84 true,hQ 86 85 84 true,hB 87 .neq 86 (kI 0) 84 true,gk 88 84 87 (.c (.b false)),gM 89 88,hM 90 9 89 false,ha 91 50 [90,(kI 2),(kI 4)] 89 false,hn 92 91 89 false,hM 93 92 89 false,hF 94 2 8 93 true,hQ 95 94 93 true,hB 96 .neq 95 (kI 0) 93 true,hk 97 93 96 (.c (.b false)) 89 false,gp 98 (.pk 89 (.c (.b true)) 97),gM 99 98,hM 100 9 99 false,ha 101 77 [100] 99 false,hn 102 101 99 false,hM 103 102 99 false,hM 104 11 103 true,hn 105 104 103 true,hk 106 103 105 (.c (.b false)) 99 false,gp 107 (.pk 99 (.c (.b true)) 106),gM 108 107,hM 109 9 108 false,hB 110 .neq 109 (kI 2) 108 false,hM 111 110 108 false,hF 112 6 8 111 true,hQ 113 112 111 true,hl 114 113 111 true,hB 115 .gtr 114 (kI 0) 111 true,hk 116 111 115 (.c (.b false)) 108 false,gp 117 (.pk 108 (.c (.b true)) 116),gM 118 117,hM 119 9 118 false,hB 120 .lss 119 (kI 7) 118 false,hM 121 120 118 false,hF 122 7 8 121 true,hQ 123 122 121 true,hl 124 123 121 true,hB 125 .gtr 124 (kI 0) 121 true,hk 126 121 125 (.c (.b false)) 118 false,gp 127 (.pk 118 (.c (.b true)) 126),gM 128 127,hM 129 9 128 false,hB 130 .neq 129 (kI 7) 128 false,hM 131 130 128 false,hF 132 8 8 131 true,hQ 133 132 131 true,hl 134 133 131 true,hB 135 .gtr 134 (kI 0) 131 true,hk 136 131 135 (.c (.b false)) 128 false,gp 137 (.pk 128 (.c (.b true)) 136)] [1,2,3,7,8,9,137] [3,8]) (.ite 137 (.sq (rG [gA 6 (kI 1)] [6] []) .rt) .sk)) aiR))
def aiS:AC:=.kp [1,2,3,7,8,9] [3,8] SE
def Yd:AC:=(.sq (rG [gM 29 1,gF 30 3 3,gQ 31 30,gl 32 31,gF 33 4 3,gQ 34 33,gl 35 34,gz 36 (.bs 3 1 [(kI 0),(kI 0),29,32,35,(kI 0),(kI 0),(kI 0),(kI 0)]),gM 37 9,gi 38 1 36 37,gQ 39 38,gA 10 39] [1,2,3,7,8,9,10] [3,8]) (.sq (.sq (rG [gM 40 9,ga 41 115 [40],gM 42 41,hF 43 1 8 42 true,hQ 44 43 42 true,hF 45 5 3 42 true,hQ 46 45 42 true,hl 47 46 42 true,hB 48 .sub 47 (kI 1) 42 true,ha 49 50 [44,(kI 0),48] 42 true,hn 50 49 42 true,gk 51 42 50 (.c (.b false)),gM 52 51,hM 53 9 52 false,ha 54 50 [53,(kI 2),(kI 4)] 52 false,hM 55 54 52 false,hF 56 2 8 55 true,hQ 57 56 55 true,hM 58 10 55 true,hB 59 .sub 58 (kI 1) 55 true,ha 60 50 [57,(kI 0),59] 55 true,hn 61 60 55 true,hk 62 55 61 (.c (.b false)) 52 false,gp 63 (.pk 52 (.c (.b true)) 62)] [1,2,3,7,8,9,63] [3,8]) (.ite 63 (.sq (rG [gA 6 (kI 5)] [6] []) .rt) .sk)) aiS))
def aiT:AC:=.kp [1,2,3,7,8,9] [3,8] Yd
def aiU:AC:=(.sq (.bl 1 (.sq (rG [gM 20 2,gM 21 7,gi 22 9 20 21,gC 23 9 22,gp 8 (.al [(.i .i64 0),(.i .i64 0),(.i .i64 0),(.i .i64 0),(.i .i64 0),(.l 37 []),(.l 37 []),(.l 92 []),(.l 92 [])]),gS 9 8 23] [1,2,3,7,8] [3,8]) (.sq (rG [gF 24 0 8,gQ 25 24,gA 9 25] [1,2,3,7,8,9] [3,8]) (.sq (.sq (rG [gM 26 9,ga 27 50 [26,(kI 1),(kI 8)],gn 28 27] [1,2,3,7,8,9,28] [3,8]) (.ite 28 (.sq (rG [gA 6 (kI 7)] [6] []) .rt) .sk)) aiT)))) (rG [gM 18 7,gB 19 .add 18 (kI 1),gA 7 19] [1,2,3,7] [3]))
def aiV:AC:=.kp [1,2,3,7] [3] aiU
def NS:AC:=(.sq (.sq (rG [gM 14 7,gM 15 2,gl 16 15,gB 17 .lss 14 16] [1,2,3,7,17] [3]) (.ite 17 .sk (.ex 0))) aiV)
def Ye:bb:=⟨[1,2,3,7],[3],NS⟩
def c51:bE:=⟨(.sq (rG [gp 3 (.bx 0),gA 6 (kI 0)] [1,2,3] [3]) (.sq (.sq (rG [gA 7 (kI 0)] [1,2,3,7] [3]) (.bl 0 Ye.lp)) (.sq (rG [gA 6 (kI 0)] [6] []) .rt))),[.t 6]⟩
def aiW:AC:=(.sq (.bl 1 (rG [gM 19 5,gF 20 2 2,gQ 21 20,gM 22 6,gi 23 3 21 22,gC 24 3 23,gM 25 1,gM 26 5,gB 27 .sub 25 26,ga 28 53 [24,27],gB 29 .add 19 28,gA 5 29] [1,2,5,6] [2])) (rG [gM 17 6,gB 18 .add 17 (kI 1),gA 6 18] [1,2,5,6] [2]))
def aiX:AC:=.kp [1,2,5,6] [2] aiW
def aiY:AC:=(.sq (.sq (rG [gM 7 6,gF 8 2 2,gQ 9 8,gl 10 9,gB 11 .lss 7 10,gM 12 11,hM 13 5 12 true,hM 14 1 12 true,hB 15 .leq 13 14 12 true,gk 16 12 15 (.c (.b false))] [1,2,5,6,16] [2]) (.ite 16 .sk (.ex 0))) aiX)
def Yf:bb:=⟨[1,2,5,6],[2],aiY⟩
def c53:bE:=⟨(.sq (rG [gp 2 (.bx 0),gA 4 (kI 0)] [1,2] [2]) (.sq (rG [gA 5 (kI 1)] [1,2,5] [2]) (.sq (.sq (rG [gA 6 (kI 0)] [1,2,5,6] [2]) (.bl 0 Yf.lp)) (.sq (rG [gM 30 5,gA 4 30] [4] []) .rt)))),[.t 4]⟩
def aiZ:AC:=(.sq (.bl 1 (rG [gM 14 3,gF 15 2 1,gQ 16 15,gM 17 4,gi 18 3 16 17,gC 19 3 18,ga 20 54 [19],gp 21 (.ap 37 3 40 14 20),gA 3 21] [1,3,4] [1])) (rG [gM 12 4,gB 13 .add 12 (kI 1),gA 4 13] [1,3,4] [1]))
def ai0:AC:=.kp [1,3,4] [1] aiZ
def ai1:AC:=(.sq (.sq (rG [gM 7 4,gF 8 2 1,gQ 9 8,gl 10 9,gB 11 .lss 7 10] [1,3,4,11] [1]) (.ite 11 .sk (.ex 0))) ai0)
def Yg:bb:=⟨[1,3,4],[1],ai1⟩
def c54:bE:=⟨(.sq (rG [gp 1 (.bx 0),gA 2 (.c (.l 37 []))] [1] [1]) (.sq (rG [gC 5 3 1,gp 6 (.bs 37 3 [5]),gA 3 6] [1,3] [1]) (.sq (.sq (.rg [.own 3 37] [gA 4 (kI 0)] [1,3,4] [1]) (.bl 0 Yg.lp)) (.sq (rG [gM 22 3,gA 2 22] [2,3] []) .rt)))),[.t 2]⟩
def ai2:AC:=(.sq (.bl 1 (.sq (.dg [] [20] [vF 13 0 5 [20],yQ 14 13 [5] [20],yC 15 2 2 [2] [20],vM 16 6 [20],vF 17 0 3 [20],yQ 18 17 [3] [20],gV (ga 19 116 [15,16,18]) [15,16,18] [3] [20],gU (gz 20 (.bs 4 1 [19])) [19],gH (gp 21 (.ap 4 1 1 14 20)),gH (gF 22 0 5),gH (gS 1 22 21)] [2,3,4,5,6] [2,3,4,5]) (.dg [] [30] [vF 23 1 5 [30],yQ 24 23 [5] [30],yC 25 2 2 [2] [30],vM 26 6 [30],vF 27 1 3 [30],yQ 28 27 [3] [30],gV (ga 29 116 [25,26,28]) [25,26,28] [3] [30],gU (gz 30 (.bs 4 1 [29])) [29],gH (gp 31 (.ap 4 1 1 24 30)),gH (gF 32 1 5),gH (gS 1 32 31)] [2,3,4,5,6] [2,3,4,5]))) (rG [gM 11 6,gB 12 .add 11 (kI 1),gA 6 12] [2,3,4,5,6] [2,3,4,5]))
def ai3:AC:=.kp [2,3,4,5,6] [2,3,4,5] ai2
def ai4:AC:=(.sq (.sq (rG [gM 7 6,gF 8 0 2,gQ 9 8,gB 10 .lss 7 9] [2,3,4,5,6,10] [2,3,4,5]) (.ite 10 .sk (.ex 0))) ai3)
def Yh:bb:=⟨[2,3,4,5,6],[2,3,4,5],ai4⟩
def c55:bE:=⟨(.sq (rG [gp 2 (.bx 0),gp 3 (.bx 1),gp 4 (.al [(.l 4 []),(.l 4 [])])] [2,3,4] [2,3,4]) (.sq (rG [gp 5 (.al [.n,.n])] [2,3,4,5] [2,3,4,5]) (.sq (.sq (.rg [.ownC 5 1 4,.ownC 5 0 4] [gA 6 (kI 0)] [2,3,4,5,6] [2,3,4,5]) (.bl 0 Yh.lp)) (.sq (.rg [.fzC 5 0,.fzC 5 1] [gC 33 2 5,gS 2 4 33] [4] [4]) .rt)))),[.c 4 (some 2)]⟩
def ai5:AC:=(.sq (.bl 1 (.sq (rG [gF 11 0 3,gQ 12 11,gz 13 (.bs 4 1 [(.c (.b true))]),gp 14 (.ap 4 1 1 12 13),gF 15 0 3,gS 1 15 14] [1,2,3,4] [1,2,3]) (rG [gF 16 1 3,gQ 17 16,gz 18 (.bs 4 1 [(.c (.b false))]),gp 19 (.ap 4 1 1 17 18),gF 20 1 3,gS 1 20 19] [1,2,3,4] [1,2,3]))) (rG [gM 9 4,gB 10 .add 9 (kI 1),gA 4 10] [1,2,3,4] [1,2,3]))
def ai6:AC:=.kp [1,2,3,4] [1,2,3] ai5
def SF:AC:=(.sq (.sq (rG [gM 5 4,gF 6 0 1,gQ 7 6,gB 8 .lss 5 7] [1,2,3,4,8] [1,2,3]) (.ite 8 .sk (.ex 0))) ai6)
def Yi:bb:=⟨[1,2,3,4],[1,2,3],SF⟩
def c56:bE:=⟨(.sq (rG [gp 1 (.bx 0),gp 2 (.al [(.l 4 []),(.l 4 [])])] [1,2] [1,2]) (.sq (rG [gp 3 (.al [.n,.n])] [1,2,3] [1,2,3]) (.sq (.sq (.rg [.ownC 3 1 4,.ownC 3 0 4] [gA 4 (kI 0)] [1,2,3,4] [1,2,3]) (.bl 0 Yi.lp)) (.sq (.rg [.fzC 3 0,.fzC 3 1] [gC 21 2 3,gS 2 2 21] [2] [2]) .rt)))),[.c 2 (some 2)]⟩
def Yj:AC:=(rG [gC 37 8 2,gC 38 2 3,gM 39 7,gC 40 2 8,gM 41 5,gp 42 (.cm 113 117 [37,38,39,40] 41),gA 5 42] [2,3,5,6] [2,3])
def Yk:AC:=.kp [2,3,5,6,7,8] [2,3,8] Yj
def ai7:AC:=(.sq (.bl 1 (.sq (.dg [] [8] [vF 16 7 2 [8],yQ 17 16 [2] [8],vF 18 0 2 [8],yC 19 2 18 [2] [8],gL (ga 20 56 [19]) [19] [8],gU (gp 8 (.al [(.l 4 []),(.l 4 [])])) [],gH (gA 7 17),gH (gS 2 8 20)] [2,3,5,6,7,8] [2,3,8]) (.sq (.sq (rG [gM 21 6,gF 22 6 2,gQ 23 22,gl 24 23,gB 25 .lss 21 24] [2,3,5,6,7,8,25] [2,3,8]) (.ite 25 (.dg [] [] [uF 26 6 2,xQ 27 26 [2],uM 28 6,xi 29 5 27 28 [2],xF 30 1 29 [2],xQ 31 30 [2],uF 32 1 3,xQ 33 32 [3],uM 34 6,xi 35 2 33 34 [3],xC 36 2 35 [3],gU (gA 7 31) [31],gH (gS 2 8 36)] [2,3,5,6,7,8] [2,3,8]) .sk)) Yk))) (rG [gM 14 6,gB 15 .add 14 (kI 1),gA 6 15] [2,3,5,6] [2,3]))
def ai8:AC:=.kp [2,3,5,6] [2,3] ai7
def GY:AC:=(.sq (.sq (rG [gM 9 6,gF 10 6 2,gQ 11 10,gl 12 11,gB 13 .leq 9 12] [2,3,5,6,13] [2,3]) (.ite 13 .sk (.ex 0))) ai8)
def Yl:bb:=⟨[2,3,5,6],[2,3],GY⟩
def c57:bE:=⟨(.sq (rG [gp 2 (.bx 0),gp 3 (.bx 1),gA 4 (.c (.l 113 []))] [2,3] [2,3]) (.sq (rG [gA 5 (.c .n)] [2,3,5] [2,3]) (.sq (.sq (rG [gA 6 (kI 0)] [2,3,5,6] [2,3]) (.bl 0 Yl.lp)) (.sq (rG [gM 43 5,gA 4 43] [4,5] []) .rt)))),[.t 4]⟩
def ai9:AC:=(.sq (.bl 2 (.dg [] [58] [vM 44 9 [58],vM 45 8 [58],vF 46 6 7 [58],yQ 47 46 [7] [58],vM 48 11 [58],yi 49 3 47 48 [7] [58],yC 50 3 49 [7] [58],gL (gp 51 (.cf 0 45 [50])) [45,50] [58],vF 52 0 10 [58],yQ 53 52 [10] [58],vM 54 11 [58],yi 55 1 53 54 [10] [58],yQ 56 55 [10] [58],gL (gp 57 (.bd [(.l 4 []),(.l 4 []),(.i .i64 0)] [(0,2,51),(2,1,56)])) [51,56] [58],gU (gz 58 (.bs 115 3 [57])) [57],gH (gp 59 (.ap 115 3 56 44 58)),gH (gA 9 59)] [5,7,8,9,10,11] [3,4,5,7,10])) (rG [gM 42 11,gB 43 .add 42 (kI 1),gA 11 43] [5,7,8,9,10,11] [3,4,5,7,10]))
def aja:AC:=.kp [5,7,8,9,10,11] [3,4,5,7,10] ai9
def NT:AC:=(.sq (.sq (rG [gM 37 11,gF 38 6 7,gQ 39 38,gl 40 39,gB 41 .lss 37 40] [5,7,8,9,10,11,41] [3,4,5,7,10]) (.ite 41 .sk (.ex 1))) aja)
def Ym:bb:=⟨[5,7,8,9,10,11],[3,4,5,7,10],NT⟩
def Yn:AC:=(.dg [] [74] [vM 60 9 [74],vM 61 8 [74],vF 62 2 10 [74],yC 63 3 62 [10] [74],gL (gp 64 (.cf 0 61 [63])) [61,63] [74],vF 65 1 7 [74],yQ 66 65 [7] [74],gL (gp 67 (.bd [(.l 4 []),(.l 4 []),(.i .i64 0)] [(0,2,64),(2,1,66)])) [64,66] [74],vF 68 10 5 [74],yC 69 2 68 [5] [74],vF 70 2 7 [74],yQ 71 70 [7] [74],gL (gB 72 .sub (kI (-1)) 71) [71] [74],gL (gp 73 (.bd [(.l 4 []),(.l 4 []),(.i .i64 0)] [(0,2,69),(2,1,72)])) [69,72] [74],gU (gz 74 (.bs 115 3 [67,73])) [67,73],gH (gp 75 (.ap 115 3 56 60 74)),gH (gA 9 75)] [9] [])
def ajb:AC:=.kp [5,7,8,9,10] [3,4,5,7,10] Yn
def Ms:bE:=⟨(.sq (rG [gp 3 (.bx 0),gp 4 (.bx 1),gp 5 (.bx 2),gA 6 (.c (.l 115 []))] [3,4,5] [3,4,5]) (.sq (rG [gF 12 0 5,gC 13 9 12,gp 7 (.al [(.i .i64 0),(.i .i64 0),(.i .i64 0),(.i .i64 0),(.i .i64 0),(.l 37 []),(.l 37 []),(.l 92 []),(.l 92 [])]),gS 9 7 13] [3,4,5,7] [3,4,5,7]) (.sq (.rg [.fzB 5 true,.fzB 3 true,.fzB 4 true] [gp 14 (.mf 118 [5,3,4]),gA 8 14] [3,5,7,8] [3,4,5,7]) (.sq (rG [gA 9 (.c .n)] [3,5,7,8,9] [3,4,5,7]) (.sq (.sq (.rg [.own 9 115] [gF 15 0 7,gQ 16 15] [3,5,7,8,9,16] [3,4,5,7]) (.bl 0 (.sq (rG [gB 18 .eql 16 (kI 1),gA 17 18] [3,5,7,8,9,16,17] [3,4,5,7]) (.ite 17 (.dg [] [27] [vM 19 9 [27],vM 20 8 [27],vF 21 3 7 [27],yC 22 3 21 [7] [27],gL (gp 23 (.cf 0 20 [22])) [20,22] [27],vF 24 1 7 [27],yQ 25 24 [7] [27],gL (gp 26 (.bd [(.l 4 []),(.l 4 []),(.i .i64 0)] [(0,2,23),(2,1,25)])) [23,25] [27],gU (gz 27 (.bs 115 3 [26])) [26],gH (gp 28 (.ap 115 3 56 19 27)),gH (gA 9 28)] [9] []) (.sq (rG [gB 30 .eql 16 (kI 2),gA 29 30] [3,5,7,8,9,16,29] [3,4,5,7]) (.ite 29 (.sq (rG [gF 31 6 3,gQ 32 31,gF 33 2 7,gQ 34 33,gi 35 5 32 34,gC 36 5 35,gp 10 (.al [(.l 3 []),(.l 92 []),(.i .i64 0),(.i .i64 0),(.l 37 [])]),gS 5 10 36] [5,7,8,9,10] [3,4,5,7,10]) (.sq (.sq (rG [gA 11 (kI 0)] [5,7,8,9,10,11] [3,4,5,7,10]) (.bl 1 Ym.lp)) ajb)) (.sq (rG [gB 77 .eql 16 (kI 3),gA 76 77] [3,5,7,8,9,16,76] [3,4,5,7]) (.ite 76 (.dg [] [94] [vM 78 9 [94],vF 79 10 5 [94],yC 80 2 79 [5] [94],vF 81 0 3 [94],yC 82 2 81 [3] [94],vF 83 3 3 [94],yQ 84 83 [3] [94],vF 85 2 7 [94],yQ 86 85 [7] [94],yi 87 2 84 86 [3] [94],yC 88 2 87 [3] [94],gL (ga 89 55 [82,88]) [82,88] [94],gL (ga 90 60 [80,89]) [80,89] [94],vF 91 1 7 [94],yQ 92 91 [7] [94],gL (gp 93 (.bd [(.l 4 []),(.l 4 []),(.i .i64 0)] [(0,2,90),(2,1,92)])) [90,92] [94],gU (gz 94 (.bs 115 3 [93])) [93],gH (gp 95 (.ap 115 3 56 78 94)),gH (gA 9 95)] [9] []) (.sq (rG [gB 97 .eql 16 (kI 5),gA 96 97] [5,7,8,9,16,96] [3,4,5,7]) (.ite 96 (.dg [] [111] [vM 98 9 [111],vF 99 10 5 [111],vF 100 0 99 [111],yQ 101 100 [5] [111],vM 102 8 [111],vF 103 3 7 [111],yC 104 3 103 [7] [111],gL (gp 105 (.cf 0 102 [104])) [102,104] [111],gL (gp 106 (.fd none 1 105)) [105] [111],gL (gp 107 (.bd [(.l 4 []),(.l 4 [])] [(0,1,101),(1,1,106)])) [101,106] [111],vF 108 1 7 [111],yQ 109 108 [7] [111],gL (gp 110 (.bd [(.l 4 []),(.l 4 []),(.i .i64 0)] [(0,2,107),(2,1,109)])) [107,109] [111],gU (gz 111 (.bs 115 3 [110])) [110],gH (gp 112 (.ap 115 3 56 98 111)),gH (gA 9 112)] [9] []) (.sq (rG [gB 114 .eql 16 (kI 6),gA 113 114] [5,7,8,9,113] [3,4,5,7]) (.ite 113 (.dg [] [128] [vM 115 9 [128],vM 116 8 [128],vF 117 3 7 [128],yC 118 3 117 [7] [128],gL (gp 119 (.cf 0 116 [118])) [116,118] [128],gL (gp 120 (.fd none 0 119)) [119] [128],vF 121 10 5 [128],vF 122 1 121 [128],yQ 123 122 [5] [128],gL (gp 124 (.bd [(.l 4 []),(.l 4 [])] [(0,1,120),(1,1,123)])) [120,123] [128],vF 125 1 7 [128],yQ 126 125 [7] [128],gL (gp 127 (.bd [(.l 4 []),(.l 4 []),(.i .i64 0)] [(0,2,124),(2,1,126)])) [124,126] [128],gU (gz 128 (.bs 115 3 [127])) [127],gH (gp 129 (.ap 115 3 56 115 128)),gH (gA 9 129)] [9] []) .sk)))))))))))) (.sq (rG [gM 130 9,gA 6 130] [6,9] []) .rt)))))),[.t 6]⟩
def ajc:AC:=(.sq (.bl 1 (.sq (rG [gF 13 0 3,gQ 14 13,gM 15 5,gi 16 1 14 15,gQ 17 16,gM 18 17,hF 19 0 2 18 true,hQ 20 19 18 true,hM 21 5 18 true,hi 22 1 20 21 18 true,hQ 23 22 18 true,hn 24 23 18 true,gk 25 18 24 (.c (.b false)),gM 26 25,hF 27 1 2 26 false,hQ 28 27 26 false,hM 29 5 26 false,hi 30 1 28 29 26 false,hQ 31 30 26 false,hM 32 31 26 false,hF 33 1 3 32 true,hQ 34 33 32 true,hM 35 5 32 true,hi 36 1 34 35 32 true,hQ 37 36 32 true,hn 38 37 32 true,hk 39 32 38 (.c (.b false)) 26 false,gp 40 (.pk 26 (.c (.b true)) 39)] [2,3,5,40] [2,3]) (.ite 40 (.sq (rG [gA 4 (.c (.b false))] [4] []) .rt) .sk))) (rG [gM 11 5,gB 12 .add 11 (kI 1),gA 5 12] [2,3,5] [2,3]))
def ajd:AC:=.kp [2,3,5] [2,3] ajc
def SG:AC:=(.sq (.sq (rG [gM 6 5,gF 7 0 2,gQ 8 7,gl 9 8,gB 10 .lss 6 9] [2,3,5,10] [2,3]) (.ite 10 .sk (.ex 0))) ajd)
def Yo:bb:=⟨[2,3,5],[2,3],SG⟩
def Yp:bE:=⟨(.sq (rG [gp 2 (.bx 0),gp 3 (.bx 1),gA 4 (.c (.b false))] [2,3] [2,3]) (.sq (.sq (rG [gA 5 (kI 0)] [2,3,5] [2,3]) (.bl 0 Yo.lp)) (.sq (rG [gA 4 (.c (.b true))] [4] []) .rt))),[.t 4]⟩
def aje:AC:=(.sq (.bl 1 (.sq (.dg [] [28] [vF 14 0 5 [28],yQ 15 14 [5] [28],vF 16 0 2 [28],yQ 17 16 [2] [28],vM 18 6 [28],yi 19 1 17 18 [2] [28],yQ 20 19 [2] [28],vM 21 20 [28],vhF 22 0 3 21 true [28],Xu 23 22 21 true [3] [28],vhM 24 6 21 true [28],yhi 25 1 23 24 21 true [3] [28],Xu 26 25 21 true [3] [28],gL (gk 27 21 26 (.c (.b false))) [21,26] [28],gU (gz 28 (.bs 4 1 [27])) [27],gH (gp 29 (.ap 4 1 1 15 28)),gH (gF 30 0 5),gH (gS 1 30 29)] [2,3,4,5,6] [2,3,4,5]) (.dg [] [45] [vF 31 1 5 [45],yQ 32 31 [5] [45],vF 33 1 2 [45],yQ 34 33 [2] [45],vM 35 6 [45],yi 36 1 34 35 [2] [45],yQ 37 36 [2] [45],vM 38 37 [45],vhF 39 1 3 38 false [45],Xu 40 39 38 false [3] [45],vhM 41 6 38 false [45],yhi 42 1 40 41 38 false [3] [45],Xu 43 42 38 false [3] [45],gL (gp 44 (.pk 38 (.c (.b true)) 43)) [38,43] [45],gU (gz 45 (.bs 4 1 [44])) [44],gH (gp 46 (.ap 4 1 1 32 45)),gH (gF 47 1 5),gH (gS 1 47 46)] [2,3,4,5,6] [2,3,4,5]))) (rG [gM 12 6,gB 13 .add 12 (kI 1),gA 6 13] [2,3,4,5,6] [2,3,4,5]))
def ajf:AC:=.kp [2,3,4,5,6] [2,3,4,5] aje
def SH:AC:=(.sq (.sq (rG [gM 7 6,gF 8 0 2,gQ 9 8,gl 10 9,gB 11 .lss 7 10] [2,3,4,5,6,11] [2,3,4,5]) (.ite 11 .sk (.ex 0))) ajf)
def Yq:bb:=⟨[2,3,4,5,6],[2,3,4,5],SH⟩
def c60:bE:=⟨(.sq (rG [gp 2 (.bx 0),gp 3 (.bx 1),gp 4 (.al [(.l 4 []),(.l 4 [])])] [2,3,4] [2,3,4]) (.sq (rG [gp 5 (.al [.n,.n])] [2,3,4,5] [2,3,4,5]) (.sq (.sq (.rg [.ownC 5 1 4,.ownC 5 0 4] [gA 6 (kI 0)] [2,3,4,5,6] [2,3,4,5]) (.bl 0 Yq.lp)) (.sq (.rg [.fzC 5 0,.fzC 5 1] [gC 48 2 5,gS 2 4 48] [4] [4]) .rt)))),[.c 4 (some 2)]⟩
def c75:bE:=⟨(.sq (rG [gp 1 (.bx 0),gA 2 (.c (.l 133 []))] [1] [1]) (.sq (.dg [] [9] [yC 4 8 1 [1] [9],yC 5 8 1 [1] [9],gL (ga 6 37 [5]) [5] [9],gL (gp 7 (.bd [(.i .i64 0),(.l 166 []),(.l 3 []),(.l 81 []),(.l 81 []),(.l 83 []),(.l 101 []),(.l 92 []),(.l 45 []),(.l 45 []),.nf,(.i .i64 0)] [(0,8,4),(8,2,6)])) [4,6] [9],yC 8 8 1 [1] [9],gU (gp 9 (.ck 122 [8])) [8],gH (gp 10 (.bd [(.i .i64 0),(.l 166 []),(.l 3 []),(.l 81 []),(.l 81 []),(.l 83 []),(.l 101 []),(.l 92 []),(.l 45 []),(.l 45 []),.nf,(.i .i64 0),.z,.n] [(0,12,7),(12,1,9)])),gH (gp 11 (.bx 10)),gH (gA 3 11)] [3] [9,11]) (.sq (.rg [.ownC 3 13 133] [gM 12 3,gM 13 3,gp 14 (.mf 1000123 [13]),gp 15 (.nc 12),gF 16 0 15,gF 17 10 16,gS 1 17 14] [3] [9,11]) (.sq (rG [gM 18 3,gp 19 (.nc 18),gF 20 0 19,gp 21 (.c2 44 [20])] [3] [9,11]) (.sq (.rg [.fzC 3 13] [gM 22 3,gp 23 (.nc 22),gF 24 13 23,gQ 25 24,gA 2 25] [2] []) .rt))))),[.t 2]⟩
def c76:bE:=⟨(.sq (rG [gM 7 2] [0,1,3,7] [3]) (.ite 7 (rG [gQ 8 3,gM 9 0,gM 10 1,gp 11 (.bd [(.i .i64 0),(.i .i64 0)] [(0,1,9),(1,1,10)]),gz 12 (.bs 133 2 [11]),gp 13 (.ap 133 2 16 8 12),gS 1 3 13] [] []) .sk)),[]⟩
def c77:bE:=⟨(.sq (rG [gA 2 (.c (.b false))] [0] []) (.sq (rG [gM 3 0,gB 4 .eql 3 (kI 1),gM 5 4,hM 6 0 5 false,ha 7 50 [6,(kI 4),(kI 8)] 5 false,gp 8 (.pk 5 (.c (.b true)) 7),gA 2 8] [2] []) .rt)),[.t 2]⟩
def ajg:AC:=(.sq (.bl 1 (.sq (.dg [] [] [uM 29 5,uM 30 6,ui 31 3 29 30,uF 32 0 31,uQ 33 32,gU (gB 34 .eql 33 (kI 2)) [33],uM 35 34,FG 36 8 2 35 true [2],iO 37 5 2 35 true,sd 38 37 35 true [2],mr 39 5 35 true,mr 40 6 35 true,HT 41 3 39 40 35 true,iO 42 1 41 35 true,Ri 43 42 35 true,Oe 44 3 38 43 35 true [2],Xt 45 1 44 35 true [2],Xt 46 0 45 35 true [2],sd 47 46 35 true [2],gH (ha 48 124 [36,47] 35 true),gH (gk 49 35 48 (.c (.b false)))] [2,5,6,49] [2]) (.ite 49 (.sq (rG [gA 4 (.c (.b true))] [4] []) .rt) .sk))) (rG [gM 27 6,gB 28 .add 27 (kI 1),gA 6 28] [2,5,6] [2]))
def ajh:AC:=.kp [2,5,6] [2] ajg
def aji:AC:=(.sq (.sq (rG [gM 23 6,gM 24 5,gl 25 24,gB 26 .lss 23 25] [2,5,6,26] [2]) (.ite 26 .sk (.ex 0))) ajh)
def Yr:bb:=⟨[2,5,6],[2],aji⟩
def ajj:AC:=(.sq (rG [gF 20 3 3,gC 21 3 20,ga 22 54 [21],gA 5 22] [2,5] [2]) (.sq (.sq (rG [gA 6 (kI 0)] [2,5,6] [2]) (.bl 0 Yr.lp)) (.sq (rG [gA 4 (.c (.b false))] [4] []) .rt)))
def ajk:AC:=.kp [2,3] [2,3] ajj
def c78:bE:=⟨(.sq (rG [gp 2 (.bx 0),gp 3 (.bx 1),gA 4 (.c (.b false))] [2,3] [2,3]) (.sq (.sq (rG [gF 7 0 3,gQ 8 7,gB 9 .eql 8 (kI 6)] [2,3,9] [2,3]) (.ite 9 (.sq (.dg [] [] [xC 10 8 2 [2],uF 11 5 2,xQ 12 11 [2],uF 13 1 3,xQ 14 13 [3],xi 15 3 12 14 [2],xF 16 1 15 [2],xF 17 1 16 [2],xQ 18 17 [2],gH (ga 19 124 [10,18]),gH (gA 4 19)] [4] []) .rt) .sk)) ajk)),[.t 4]⟩
def ajl:AC:=(.sq (.bl 1 (.sq (.dg [] [] [uM 27 5,uM 28 6,ui 29 3 27 28,uF 30 0 29,uQ 31 30,gU (gB 32 .eql 31 (kI 2)) [31],uM 33 32,iO 34 5 2 33 true,sd 35 34 33 true [2],mr 36 5 33 true,mr 37 6 33 true,HT 38 3 36 37 33 true,iO 39 1 38 33 true,Ri 40 39 33 true,gH (hi 41 3 35 40 33 true),gH (hF 42 0 41 33 true),gH (hQ 43 42 33 true),gH (hn 44 43 33 true),gH (gk 45 33 44 (.c (.b false)))] [2,5,6,45] [2]) (.ite 45 (.sq (rG [gA 4 (.c (.b true))] [4] []) .rt) .sk))) (rG [gM 25 6,gB 26 .add 25 (kI 1),gA 6 26] [2,5,6] [2]))
def ajm:AC:=.kp [2,5,6] [2] ajl
def ajn:AC:=(.sq (.sq (rG [gM 21 6,gM 22 5,gl 23 22,gB 24 .lss 21 23] [2,5,6,24] [2]) (.ite 24 .sk (.ex 0))) ajm)
def Ys:bb:=⟨[2,5,6],[2],ajn⟩
def ajo:AC:=(.sq (rG [gF 18 3 3,gC 19 3 18,ga 20 54 [19],gA 5 20] [2,5] [2]) (.sq (.sq (rG [gA 6 (kI 0)] [2,5,6] [2]) (.bl 0 Ys.lp)) (.sq (rG [gA 4 (.c (.b false))] [4] []) .rt)))
def ajp:AC:=.kp [2,3] [2,3] ajo
def c79:bE:=⟨(.sq (rG [gp 2 (.bx 0),gp 3 (.bx 1),gA 4 (.c (.b false))] [2,3] [2,3]) (.sq (.sq (rG [gF 7 0 3,gQ 8 7,gB 9 .eql 8 (kI 6)] [2,3,9] [2,3]) (.ite 9 (.sq (rG [gF 10 5 2,gQ 11 10,gF 12 1 3,gQ 13 12,gi 14 3 11 13,gF 15 0 14,gQ 16 15,gn 17 16,gA 4 17] [4] []) .rt) .sk)) ajp)),[.t 4]⟩
def ajq:AC:=(.sq (.bl 1 (.sq (.dg [] [] [uF 13 0 2,xC 14 2 13 [2],uM 15 1,uF 16 2 2,xQ 17 16 [2],uM 18 5,xi 19 1 17 18 [2],xQ 20 19 [2],gH (ga 21 125 [14,15,20])] [1,2,5,21] [2]) (.ite 21 (.sq (rG [gA 4 (.c (.b true))] [4] []) .rt) .sk))) (rG [gM 11 5,gB 12 .add 11 (kI 1),gA 5 12] [1,2,5] [2]))
def ajr:AC:=.kp [1,2,5] [2] ajq
def ajs:AC:=(.sq (.sq (rG [gM 6 5,gF 7 2 2,gQ 8 7,gl 9 8,gB 10 .lss 6 9] [1,2,5,10] [2]) (.ite 10 .sk (.ex 0))) ajr)
def Yt:bb:=⟨[1,2,5],[2],ajs⟩
def c80:bE:=⟨(.sq (rG [gp 2 (.bx 0),gA 4 (.c (.b false))] [1,2] [2]) (.sq (.sq (rG [gA 5 (kI 0)] [1,2,5] [2]) (.bl 0 Yt.lp)) (.sq (rG [gA 4 (.c (.b false))] [4] []) .rt))),[.t 4]⟩
def ajt:AC:=(.sq (.sq (.rg [.fzB 2 true] [gM 11 1,gp 12 (.mf 131 [2]),gp 13 (.c2 101 [11,12])] [13] []) (.ite 13 (.sq (rG [gA 4 (kI 1)] [4] []) .rt) .sk)) (.sq (rG [gA 4 (kI 0)] [4] []) .rt))
def aju:AC:=.kp [1,2] [2] ajt
def c91:bE:=⟨(.sq (rG [gp 2 (.bx 0),gA 4 (kI 0)] [1,2] [2]) (.sq (.sq (rG [gC 6 2 2,ga 7 128 [6],gA 5 7] [1,2,5] [2]) (.sq (rG [gM 8 5,gB 9 .neq 8 (kI 0)] [1,2,5,9] [2]) (.ite 9 (.sq (rG [gM 10 5,gA 4 10] [4] []) .rt) .sk))) aju)),[.t 4]⟩
def ajv:AC:=(.sq (.bl 1 (.sq (rG [gi 60 2 56 58,gC 61 2 60,gp 5 (.al [(.l 138 []),(.l 138 [])]),gS 2 5 61] [1,5,56,57,58] [1,5]) (.sq (rG [gF 62 0 1,gC 63 2 62,gC 64 2 5,ga 65 129 [63,64],gA 6 65] [1,6,56,57,58] [1]) (.sq (rG [gM 66 6,gB 67 .neq 66 (kI 0)] [1,6,56,57,58,67] [1]) (.ite 67 (.sq (rG [gM 68 6,gA 2 68] [2] []) .rt) .sk))))) (rG [gB 69 .add 58 (kI 1),gM 58 69] [1,56,57,58] [1]))
def ajw:AC:=.kp [1,56,57,58] [1] ajv
def ajx:AC:=(.sq (rG [gB 59 .lss 58 57] [1,56,57,58,59] [1]) (.sq (.ite 59 .sk (.ex 0)) ajw))
def Yu:bb:=⟨[1,56,57,58],[1],ajx⟩
def ajy:AC:=(.sq (.bl 3 (.sq (rG [gi 75 3 71 73,gC 76 3 75,gp 8 (.al [(.b false),(.l 138 []),(.l 138 [])]),gS 3 8 76] [1,8,71,72,73] [1,8]) (.sq (rG [gF 77 0 1,gC 78 2 77,gF 79 1 8,gC 80 2 79,ga 81 129 [78,80],gA 9 81] [1,9,71,72,73] [1]) (.sq (rG [gM 82 9,gB 83 .neq 82 (kI 0)] [1,9,71,72,73,83] [1]) (.ite 83 (.sq (rG [gM 84 9,gA 2 84] [2] []) .rt) .sk))))) (rG [gB 85 .add 73 (kI 1),gM 73 85] [1,71,72,73] [1]))
def ajz:AC:=.kp [1,71,72,73] [1] ajy
def ajA:AC:=(.sq (rG [gB 74 .lss 73 72] [1,71,72,73,74] [1]) (.sq (.ite 74 .sk (.ex 2)) ajz))
def Yv:bb:=⟨[1,71,72,73],[1],ajA⟩
def ajB:AC:=(.sq (.sq (rG [gF 86 5 1,gQ 87 86,gp 88 (.c2 134 [87,(.c (.f 135 []))])] [88] []) (.ite 88 (.sq (rG [gA 2 (kI 1)] [2] []) .rt) .sk)) (.sq (rG [gA 2 (kI 0)] [2] []) .rt))
def ajC:AC:=.kp [1] [1] ajB
def ajD:AC:=(.sq (.sq (rG [gF 70 5 1,gQ 71 70,gl 72 71,gM 73 (kI 0)] [1,71,72,73] [1]) (.bl 2 Yv.lp)) ajC)
def ajE:AC:=.kp [1] [1] ajD
def ajF:AC:=(.sq (.sq (rG [gF 51 3 1,gQ 52 51,gF 53 4 1,gQ 54 53,gz 55 (.bs 26 1 [52,54]),ga 56 133 [55],gl 57 56,gM 58 (kI 0)] [1,56,57,58] [1]) (.bl 0 Yu.lp)) ajE)
def ajG:AC:=.kp [1] [1] ajF
def ajH:AC:=(.sq (.sq (.rg [.fzB 1 true] [gF 47 2 1,gQ 48 47,gp 49 (.mf 132 [1]),gp 50 (.c2 105 [48,49])] [1,50] [1]) (.ite 50 (.sq (rG [gA 2 (kI 5)] [2] []) .rt) .sk)) ajG)
def ajI:AC:=.kp [1] [1] ajH
def ajJ:AC:=(.sq (.sq (rG [gF 16 5 1,gQ 17 16,gl 18 17,gB 19 .gtr 18 (kI 16),gM 20 19,hF 21 3 1 20 false,hQ 22 21 20 false,hl 23 22 20 false,hB 24 .gtr 23 (kI 5) 20 false,gp 25 (.pk 20 (.c (.b true)) 24),gM 26 25,hF 27 4 1 26 false,hQ 28 27 26 false,hl 29 28 26 false,hB 30 .gtr 29 (kI 5) 26 false,gp 31 (.pk 26 (.c (.b true)) 30),gM 32 31,hF 33 6 1 32 false,hQ 34 33 32 false,hl 35 34 32 false,hB 36 .gtr 35 (kI 5) 32 false,gp 37 (.pk 32 (.c (.b true)) 36),gM 38 37,hF 39 2 1 38 false,hQ 40 39 38 false,hl 41 40 38 false,hF 42 0 1 38 false,hF 43 0 42 38 false,hQ 44 43 38 false,hB 45 .gtr 41 44 38 false,gp 46 (.pk 38 (.c (.b true)) 45)] [1,46] [1]) (.ite 46 (.sq (rG [gA 2 (kI 2)] [2] []) .rt) .sk)) ajI)
def ajK:AC:=.kp [1] [1] ajJ
def c92:bE:=⟨(.sq (rG [gp 1 (.bx 0),gA 2 (kI 0)] [1] [1]) (.sq (.sq (rG [gF 10 0 1,gC 11 2 10,ga 12 128 [11],gA 3 12] [1,3] [1]) (.sq (rG [gM 13 3,gB 14 .neq 13 (kI 0)] [1,3,14] [1]) (.ite 14 (.sq (rG [gM 15 3,gA 2 15] [2] []) .rt) .sk))) ajK)),[.t 2]⟩
def ajL:AC:=(.sq (.bl 1 (.sq (rG [gi 13 5 9 11,gC 14 5 13,gp 6 (.al [(.l 3 []),(.l 92 []),(.i .i64 0),(.i .i64 0),(.l 37 [])]),gS 5 6 14] [1,4,6,9,10,11] [1,3,6]) (.sq (rG [gF 15 1 6,gQ 16 15,gM 17 4,gp 18 (.c2 137 [16,(kI 1),17]),gn 19 18] [1,4,9,10,11,19] [1,3]) (.ite 19 (.sq (rG [gA 2 (.c (.b false))] [2] []) .rt) .sk)))) (rG [gB 20 .add 11 (kI 1),gM 11 20] [1,4,9,10,11] [1,3]))
def ajM:AC:=.kp [1,4,9,10,11] [1,3] ajL
def ajN:AC:=(.sq (rG [gB 12 .lss 11 10] [1,4,9,10,11,12] [1,3]) (.sq (.ite 12 .sk (.ex 0)) ajM))
def Yw:bb:=⟨[1,4,9,10,11],[1,3],ajN⟩
def ajO:AC:=(.sq (rG [gF 21 7 1,gQ 22 21,gM 23 4,gp 24 (.c2 137 [22,(kI 1),23]),gA 2 24] [2] []) .rt)
def ajP:AC:=.kp [1,4] [1,3] ajO
def c93:bE:=⟨(.sq (rG [gp 1 (.bx 0),gA 2 (.c (.b false))] [1] [1]) (.sq (rG [gp 3 (.al [(.i .i64 0)]),gS 1 3 (kI 0)] [1,3] [1,3]) (.sq (rG [gp 7 (.mf 136 [3]),gA 4 7] [1,4] [1,3]) (.sq (.sq (rG [gF 8 6 1,gQ 9 8,gl 10 9,gM 11 (kI 0)] [1,4,9,10,11] [1,3]) (.bl 0 Yw.lp)) ajP)))),[.t 2]⟩
def ajQ:AC:=(.sq (rG [gF 32 0 3,gQ 33 32,gM 34 5,gp 35 (.sl 3 1 33 none (some 34)),gM 36 6,ga 37 138 [35,36]] [0,3,13,14,15,37] [0,3]) (.ite 37 (.sq (rG [gA 4 (kI 6)] [4] []) .rt) .sk))
def ajR:AC:=.kp [0,3,5,6,13,14,15] [0,3] ajQ
def ajS:AC:=(.sq (.bl 1 (.sq (rG [gM 17 15,gi 18 1 13 15,gQ 19 18,gA 5 17,gA 6 19] [0,3,5,6,13,14,15] [0,3]) (.sq (.sq (rG [gM 20 6,gB 21 .lss 20 (kI 0),gM 22 21,hM 23 6 22 false,hM 24 0 22 false,gg 25 (.nc 24) 22 false,hF 26 0 25 22 false,hF 27 5 26 22 false,hQ 28 27 22 false,hl 29 28 22 false,hB 30 .geq 23 29 22 false,gp 31 (.pk 22 (.c (.b true)) 30)] [0,3,5,6,13,14,15,31] [0,3]) (.ite 31 (.sq (rG [gA 4 (kI 5)] [4] []) .rt) .sk)) ajR))) (rG [gB 38 .add 15 (kI 1),gM 15 38] [0,3,13,14,15] [0,3]))
def ajT:AC:=.kp [0,3,13,14,15] [0,3] ajS
def ajU:AC:=(.sq (rG [gB 16 .lss 15 14] [0,3,13,14,15,16] [0,3]) (.sq (.ite 16 .sk (.ex 0)) ajT))
def Yx:bb:=⟨[0,3,13,14,15],[0,3],ajU⟩
def ajV:AC:=(.sq (.dg [] [] [uF 46 2 3,xC 47 3 46 [3],uM 48 0,gU (gp 49 (.nc 48)) [48],uF 50 0 49,uF 51 5 50,⟨gQ 52 51,true,[51],[],true,[],[],[]⟩,⟨gl 53 52,true,[52],[],true,[],[],[]⟩,gH (ga 54 45 [47,53]),gH (gA 4 54)] [4] []) .rt)
def ajW:AC:=.kp [0,3] [0,3] ajV
def ajX:AC:=(.sq (.sq (rG [gM 39 0,gF 40 1 3,gQ 41 40,gp 42 (.c2 95 [39,41]),gA 7 42] [0,3,7] [0,3]) (.sq (rG [gM 43 7,gB 44 .neq 43 (kI 0)] [0,3,7,44] [0,3]) (.ite 44 (.sq (rG [gM 45 7,gA 4 45] [4] []) .rt) .sk))) ajW)
def ajY:AC:=.kp [0,3] [0,3] ajX
def ajZ:AC:=(.sq (.sq (rG [gF 12 0 3,gQ 13 12,gl 14 13,gM 15 (kI 0)] [0,3,13,14,15] [0,3]) (.bl 0 Yx.lp)) ajY)
def aj0:AC:=.kp [0,3] [0,3] ajZ
def c94:bE:=⟨(.sq (rG [gp 3 (.bx 1),gA 4 (kI 0)] [0,3] [0,3]) (.sq (.sq (rG [gF 8 0 3,gQ 9 8,gl 10 9,gB 11 .gtr 10 (kI 4)] [0,3,11] [0,3]) (.ite 11 (.sq (rG [gA 4 (kI 2)] [4] []) .rt) .sk)) aj0)),[.t 4]⟩
def c95:bE:=⟨(.sq (rG [gp 2 (.bx 0),gA 4 (kI 0)] [1,2] [0,2]) (.sq (rG [gp 5 (.al [(.i .i64 0)]),gS 1 5 (kI 0)] [1,2,5] [0,2,5]) (.sq (rG [gM 6 1,gp 7 (.mf 139 [2,5]),gp 8 (.c2 137 [6,(kI 1),7])] [5] [5]) (.sq (rG [gQ 9 5,gA 4 9] [4] []) .rt)))),[.t 4]⟩
def c96:bE:=⟨(.sq (rG [gp 1 (.bx 0),gp 2 (.al [(.l 4 []),(.l 4 [])])] [1,2] [1,2]) (.sq (.dg [] [3,9] [gL (gz 3 (.bs 4 1 [(.c (.b true))])) [] [9],vF 4 0 1 [3,9],yQ 5 4 [1] [3,9],gL (gp 6 (.ca 1 141 [3,5])) [3,5] [9],vF 7 0 1 [3,9],yQ 8 7 [1] [3,9],gL (gz 9 (.ms 4 1 1 (.b false) 8)) [8] [3],gH (gp 10 (.bd [(.l 4 []),(.l 4 [])] [(0,1,6),(1,1,9)])),gH (gS 2 2 10)] [2] [2]) .rt)),[.c 2 (some 2)]⟩
def aj1:AC:=(.sq (.dg [] [] [uF 36 0 11,xC 37 2 36 [11],uM 38 12,uF 39 2 11,xQ 40 39 [11],⟨gi 41 2 38 40,true,[38,40,12],[],true,[],[],[]⟩,⟨gC 42 2 41,true,[41,12],[],true,[],[],[]⟩,gH (ga 43 43 [37,42]),gH (gn 44 43)] [4,5,6,11,12,16,17,18,44] [4,5,6,11]) (.ite 44 (.sq (.dg [] [] [uM 45 12,uF 46 2 11,xQ 47 46 [11],uM 48 12,uF 49 2 11,xQ 50 49 [11],⟨gi 51 2 48 50,true,[48,50,12],[],true,[],[],[]⟩,⟨gC 52 2 51,true,[51,12],[],true,[],[],[]⟩,uF 53 0 11,xC 54 2 53 [11],gU (ga 55 98 [52,54]) [52,54],gH (gi 56 2 45 47),gH (gS 2 56 55)] [4,5,6,16,17,18] [4,5,6]) (rG [gS 1 6 (.c (.b true))] [4,5,6,16,17,18] [4,5,6])) .sk))
def Yy:AC:=.kp [4,5,6,11,12,16,17,18] [4,5,6,11] aj1
def aj2:AC:=(.sq (.bl 1 (.sq (rG [gi 20 4 16 18,gC 21 4 20,gp 11 (.al [(.l 4 []),(.l 4 []),(.i .i64 0),(.b false)]),gS 4 11 21] [4,5,6,11,16,17,18] [4,5,6,11]) (.sq (rG [gF 22 1 4,gQ 23 22,gA 12 23] [4,5,6,11,12,16,17,18] [4,5,6,11]) (.sq (.sq (rG [gF 24 3 11,gQ 25 24,gn 26 25] [4,5,6,11,12,16,17,18,26] [4,5,6,11]) (.ite 26 (.sq (rG [gF 27 0 4,gQ 28 27,gA 12 28] [4,5,6,11,12,16,17,18] [4,5,6,11]) (.sq (rG [gF 29 5 5,gQ 30 29,gF 31 2 11,gQ 32 31,gi 33 3 30 32,gF 34 0 33,gQ 35 34] [4,5,6,11,12,16,17,18,35] [4,5,6,11]) (.ite 35 (.ex 1) .sk))) .sk)) Yy)))) (rG [gB 57 .add 18 (kI 1),gM 18 57] [4,5,6,16,17,18] [4,5,6]))
def aj3:AC:=.kp [4,5,6,16,17,18] [4,5,6] aj2
def NU:AC:=(.sq (rG [gB 19 .lss 18 17] [4,5,6,16,17,18,19] [4,5,6]) (.sq (.ite 19 .sk (.ex 0)) aj3))
def Yz:bb:=⟨[4,5,6,16,17,18],[4,5,6],NU⟩
def c97:bE:=⟨(.sq (rG [gp 8 (.bx 1),gp 9 (.bx 2)] [3,4,5,6,8,9] [3,4,5,6,8,9]) (.sq (rG [gQ 13 3,gC 14 9 8,gC 15 2 9,gp 16 (.c2 42 [13,14,15]),gl 17 16,gM 18 (kI 0)] [4,5,6,16,17,18] [4,5,6]) (.bl 0 Yz.lp))),[]⟩
def c98:bE:=⟨(.sq (rG [gp 2 (.bx 0),gp 3 (.bx 1),gp 4 (.al [(.l 4 []),(.l 4 [])])] [2,3,4] [2,3,4]) (.sq (.dg [] [] [uF 5 0 2,xQ 6 5 [2],uF 7 0 3,xQ 8 7 [3],gX (ga 9 127 [6,8]) [6,8] [2,3],uF 10 1 2,xQ 11 10 [2],uF 12 1 3,xQ 13 12 [3],gH (ga 14 126 [11,13]),gH (gp 15 (.bd [(.l 4 []),(.l 4 [])] [(0,1,9),(1,1,14)])),gH (gS 2 4 15)] [4] [4]) .rt)),[.c 4 (some 2)]⟩
def alG:bE:=⟨(.sq (rG [gp 2 (.bx 0),gp 3 (.bx 1),gA 4 (.c (.b false))] [2,3] [2,3]) (.sq (rG [gF 5 0 3,gQ 6 5,gl 7 6,gF 8 0 2,gQ 9 8,gB 10 .eql 7 9,gM 11 10,hF 12 1 3 11 true,hQ 13 12 11 true,hl 14 13 11 true,hF 15 0 2 11 true,hQ 16 15 11 true,hB 17 .eql 14 16 11 true,gk 18 11 17 (.c (.b false)),gA 4 18] [4] []) .rt)),[.t 4]⟩
def alH:bE:=⟨(.sq (rG [gA 4 (.c (.b false))] [0,1] []) (.sq (rG [gM 5 0,gM 6 1,gp 7 (.c2 142 [5,6]),gB 8 .geq 7 (kI 0),gA 4 8] [4] []) .rt)),[.t 4]⟩
def aa2:AC:=(.sq (.bl 5 (.sq (rG [gi 46 2 42 44,gC 47 2 46,gp 9 (.al [(.i .i64 0),(.i .i64 0)]),gS 2 9 47] [1,3,5,6,7,9,11,12,29,42,43,44] [1,9]) (.sq (rG [gF 48 0 9,gQ 49 48,gM 50 7,gB 51 .eql 49 50] [1,3,5,6,7,9,11,12,29,42,43,44,51] [1,9]) (.ite 51 (rG [gM 52 6,gF 53 1 9,gQ 54 53,gz 55 (.bs 3 1 [54]),gp 56 (.ap 3 1 8 52 55),gA 6 56] [1,3,5,6,7,11,12,29,42,43,44] [1]) .sk)))) (rG [gB 57 .add 44 (kI 1),gM 44 57] [1,3,5,6,7,11,12,29,42,43,44] [1]))
def aa3:AC:=.kp [1,3,5,6,7,11,12,29,42,43,44] [1] aa2
def aa4:AC:=(.sq (rG [gB 45 .lss 44 43] [1,3,5,6,7,11,12,29,42,43,44,45] [1]) (.sq (.ite 45 .sk (.ex 4)) aa3))
def TP:bb:=⟨[1,3,5,6,7,11,12,29,42,43,44],[1],aa4⟩
def aa5:AC:=(.sq (rG [gM 38 5,gM 39 7,gi 40 1 38 39,gS 1 40 (.c (.b true))] [1,3,5,6,7,11,12,29] [1]) (.sq (rG [gF 41 1 1,gQ 42 41,gl 43 42,gM 44 (kI 0)] [1,3,5,6,7,11,12,29,42,43,44] [1]) (.bl 4 TP.lp)))
def aa6:AC:=.kp [1,3,5,6,7,11,12,29] [1] aa5
def aa7:AC:=(.bl 3 (.sq (rG [gM 23 6,gM 24 6,gl 25 24,gB 26 .sub 25 (kI 1),gi 27 1 23 26,gQ 28 27,gA 7 28] [1,3,5,6,7,11,12,29] [1]) (.sq (rG [gM 29 6,gM 30 6,gl 31 30,gB 32 .sub 31 (kI 1),gp 33 (.sl 3 1 29 none (some 32)),gA 6 33] [1,3,5,6,7,11,12,29] [1]) (.sq (.sq (rG [gM 34 5,gM 35 7,gi 36 1 34 35,gQ 37 36] [1,3,5,6,7,11,12,29,37] [1]) (.ite 37 (.ex 3) .sk)) aa6))))
def aa8:AC:=.kp [1,3,5,6,11,12,29] [1] aa7
def aa9:AC:=(.sq (.sq (.rg [.own 6 3] [gM 20 6,gl 21 20,gB 22 .gtr 21 (kI 0)] [1,3,5,6,11,12,22,29] [1]) (.ite 22 .sk (.ex 2))) aa8)
def TQ:bb:=⟨[1,3,5,6,11,12,29],[1],aa9⟩
def aba:AC:=(.rg [.fz 5] [gM 58 3,gM 59 5,gz 60 (.bs 43 1 [59]),gp 61 (.ap 43 1 24 58 60),gA 3 61] [1,3,11,12] [1])
def abb:AC:=.kp [1,3,5,11,12] [1] aba
def abc:AC:=(.sq (.bl 1 (.sq (rG [gM 14 12,gA 4 14] [1,3,4,11,12] [1]) (.sq (rG [gF 15 0 1,gQ 16 15,gp 17 (.ms 4 1 1 (.b false) 16),gA 5 17] [1,3,4,5,11,12] [1]) (.sq (rG [gM 18 4,gp 19 (.bs 3 1 [18]),gA 6 19] [1,3,5,6,11,12,29] [1]) (.sq (.bl 2 TQ.lp) abb))))) (rG [gB 62 .add 12 (kI 1),gM 12 62] [1,3,11,12] [1]))
def abd:AC:=.kp [1,3,11,12] [1] abc
def abe:AC:=(.sq (rG [gB 13 .lss 12 11] [1,3,11,12,13] [1]) (.sq (.ite 13 .sk (.ex 0)) abd))
def TR:bb:=⟨[1,3,11,12],[1],abe⟩
def abf:bE:=⟨(.sq (rG [gp 1 (.bx 0),gA 2 (.c (.l 43 []))] [1] [1]) (.sq (rG [gA 3 (.c .n)] [1,3] [1]) (.sq (.sq (.rg [.own 3 43] [gF 10 0 1,gQ 11 10,gM 12 (kI 0)] [1,3,11,12] [1]) (.bl 0 TR.lp)) (.sq (rG [gM 63 3,gA 2 63] [2,3] []) .rt)))),[.t 2]⟩
def abg:AC:=(.sq (.bl 1 (.sq (rG [gM 12 10,gp 6 (.al [(.i .i64 0)]),gS 1 6 12] [0,2,5,6,9,10] [2,6]) (.sq (.rg [.fzB 6 false] [gp 13 (.mf 104 [2,6]),gA 7 13] [0,2,5,7,9,10] [2,6]) (rG [gM 14 5,gM 15 0,gM 16 7,gp 17 (.c2 107 [15,16]),gn 18 17,gz 19 (.bs 4 1 [18]),gp 20 (.ap 4 1 1 14 19),gA 5 20] [0,2,5,9,10] [2])))) (rG [gB 21 .add 10 (kI 1),gM 10 21] [0,2,5,9,10] [2]))
def abh:AC:=.kp [0,2,5,9,10] [2] abg
def abi:AC:=(.sq (rG [gB 11 .lss 10 9] [0,2,5,9,10,11] [2]) (.sq (.ite 11 .sk (.ex 0)) abh))
def TS:bb:=⟨[0,2,5,9,10],[2],abi⟩
def abj:bE:=⟨(.sq (rG [gA 4 (.c (.l 4 []))] [0,1,2] [1,2]) (.sq (rG [gA 5 (.c .n)] [0,1,2,5] [1,2]) (.sq (.sq (.rg [.own 5 4] [gF 8 0 1,gQ 9 8,gM 10 (kI 0)] [0,2,5,9,10] [2]) (.bl 0 TS.lp)) (.sq (rG [gM 22 5,gA 4 22] [4,5] []) .rt)))),[.t 4]⟩
def abk:bE:=⟨(.sq (rG [gp 3 (.bx 0),gA 4 (.c (.b false))] [1,2,3] [1,2,3]) (.sq (.dg [] [] [⟨gQ 5 1,true,[1],[],true,[],[],[]⟩,⟨gQ 6 2,true,[2],[],true,[],[],[]⟩,⟨gi 7 1 5 6,true,[5,6],[],true,[],[],[]⟩,⟨gQ 8 7,true,[7],[],true,[],[],[]⟩,uF 9 0 3,xQ 10 9 [3],ui 11 1 8 10,uQ 12 11,un 13 12,uM 14 13,iO 15 1 3 14 true,sd 16 15 14 true [3],gU (gg 17 (.mf 106 [1,2]) 14 true) [1,2],gH (gg 18 (.c2 105 [16,17]) 14 true),gH (hn 19 18 14 true),gH (gk 20 14 19 (.c (.b false))),gH (gA 4 20)] [4] []) .rt)),[.t 4]⟩
def abl:bE:=⟨(.sq (rG [gA 4 (.c (.b false))] [0,1] []) (.sq (rG [gM 5 0,gM 6 1,gp 7 (.c2 143 [5,6]),gB 8 .geq 7 (kI 0),gA 4 8] [4] []) .rt)),[.t 4]⟩
def abm:bE:=⟨(.sq (rG [gA 4 (.c (.b false))] [0,1,2] [1,2]) (.sq (rG [gQ 5 1,gQ 6 2,gi 7 1 5 6,gQ 8 7,gM 9 0,gi 10 1 8 9,gQ 11 10,gA 4 11] [4] []) .rt)),[.t 4]⟩
def abn:bE:=⟨(.sq (rG [gA 4 (.c (.b false))] [0,1] []) (.sq (rG [gM 5 0,gM 6 1,gp 7 (.c2 144 [5,6]),gB 8 .geq 7 (kI 0),gA 4 8] [4] []) .rt)),[.t 4]⟩
def V6:bE:=⟨(.sq (rG [gp 3 (.bx 0),gp 4 (.al [(.l 4 []),(.l 4 [])])] [1,2,3,4] [1,2,3,4]) (.sq (.dg [] [] [⟨gC 5 2 1,true,[1],[],true,[],[],[]⟩,⟨gQ 6 2,true,[2],[],true,[],[],[]⟩,gU (gp 7 (.nc 6)) [6],uF 8 0 7,⟨gC 9 8 8,true,[8],[],true,[],[],[]⟩,⟨gQ 10 2,true,[2],[],true,[],[],[]⟩,gU (gp 11 (.nc 10)) [10],uF 12 8 11,uF 13 0 12,⟨gQ 14 13,true,[13],[],true,[],[],[]⟩,xC 15 3 3 [3],⟨ga 16 46 [9,14,15],true,[9,14,15],[],true,[],[],[]⟩,gH (ga 17 98 [5,16]),gH (gS 2 4 17)] [4] [4]) .rt)),[.c 4 (some 2)]⟩
def abo:AC:=(.sq (.bl 1 (.sq (rG [gM 11 9,gi 12 1 7 9,gQ 13 12,gA 5 11,gA 6 13] [1,5,6,7,8,9] []) (.sq (rG [gM 14 6,gM 15 14,hM 16 1 15 true,hM 17 5 15 true,hi 18 1 16 17 15 true,hQ 19 18 15 true,hn 20 19 15 true,gk 21 15 20 (.c (.b false))] [1,7,8,9,21] []) (.ite 21 (.sq (rG [gA 4 (.c (.b false))] [4] []) .rt) .sk)))) (rG [gB 22 .add 9 (kI 1),gM 9 22] [1,7,8,9] []))
def abp:AC:=.kp [1,7,8,9] [] abo
def abq:AC:=(.sq (rG [gB 10 .lss 9 8] [1,7,8,9,10] []) (.sq (.ite 10 .sk (.ex 0)) abp))
def TT:bb:=⟨[1,7,8,9],[],abq⟩
def abr:bE:=⟨(.sq (rG [gA 4 (.c (.b false))] [0,1] []) (.sq (.sq (rG [gM 7 0,gl 8 7,gM 9 (kI 0)] [1,7,8,9] []) (.bl 0 TT.lp)) (.sq (rG [gA 4 (.c (.b true))] [4] []) .rt))),[.t 4]⟩
def abt:AC:=(.sq (.bl 1 (.sq (rG [gi 13 9 9 11,gC 14 9 13,gp 7 (.al [(.i .i64 0),(.i .i64 0),(.i .i64 0),(.i .i64 0),(.i .i64 0),(.l 37 []),(.l 37 []),(.l 92 []),(.l 92 [])]),gS 9 7 14] [0,5,7,9,10,11] [0,5,7]) (.sq (.dg [] [] [uM 15 0,gU (gp 16 (.nc 15)) [15],uF 17 10 16,⟨gQ 18 17,true,[17],[],true,[],[],[]⟩,uM 19 0,gU (gp 20 (.nc 19)) [19],uF 21 11 20,⟨gQ 22 21,true,[21],[],true,[],[],[]⟩,xC 23 9 7 [7],xC 24 2 5 [5],gH (gp 25 (.d2 18 [22,23,24]))] [0,5,7,9,10,11] [0,5,7]) (.sq (rG [gM 26 0,gp 27 (.nc 26),gF 28 11 27,gQ 29 28,gB 30 .add 29 (kI 1),gp 31 (.nc 26),gF 32 11 31,gS 1 32 30] [0,5,7,9,10,11] [0,5,7]) (.sq (rG [gF 33 0 7,gQ 34 33,gB 35 .geq 34 (kI 7)] [0,5,7,9,10,11,35] [0,5,7]) (.ite 35 (.sq (.dg [] [8] [yC 36 2 5 [5] [8],vM 37 0 [8],gL (gp 38 (.nc 37)) [37] [8],vF 39 0 38 [8],⟨gC 40 8 39,true,[39],[],true,[],[8],[]⟩,vM 41 0 [8],gL (gp 42 (.nc 41)) [41] [8],vF 43 8 42 [8],vF 44 0 43 [8],⟨gQ 45 44,true,[44],[],true,[],[8],[]⟩,vF 46 3 7 [8],yC 47 3 46 [7] [8],⟨ga 48 46 [40,45,47],true,[40,45,47],[],true,[],[8],[]⟩,gL (ga 49 98 [36,48]) [36,48] [8],gU (gp 8 (.al [(.l 4 []),(.l 4 [])])) [],gH (gS 2 8 49)] [0,5,7,8,9,10,11] [0,5,7,8]) (.sq (rG [gM 50 0,gF 51 7 7,gQ 52 51,gC 53 2 8,gp 54 (.c2 110 [50,52,53])] [0,5,7,8,9,10,11] [0,5,7,8]) (rG [gM 55 0,gF 56 8 7,gQ 57 56,gC 58 2 8,gp 59 (.c2 110 [55,57,58])] [0,5,9,10,11] [0,5]))) .sk)))))) (rG [gB 60 .add 11 (kI 1),gM 11 60] [0,5,9,10,11] [0,5]))
def abu:AC:=.kp [0,5,9,10,11] [0,5] abt
def FH:AC:=(.sq (rG [gB 12 .lss 11 10] [0,5,9,10,11,12] [0,5]) (.sq (.ite 12 .sk (.ex 0)) abu))
def TU:bb:=⟨[0,5,9,10,11],[0,5],FH⟩
def abv:bE:=⟨(.sq (rG [gp 5 (.bx 2)] [0,1,5] [0,5]) (.sq (rG [gM 9 1,gl 10 9,gM 11 (kI 0)] [0,5,9,10,11] [0,5]) (.bl 0 TU.lp))),[]⟩
def abw:AC:=(rG [gM 18 5,gC 19 3 7,gM 20 1,gM 21 5,gB 22 .sub 20 21,ga 23 111 [19,22],gB 24 .add 18 23,gA 5 24] [1,5,9,10,11] [])
def abx:AC:=.kp [1,5,7,9,10,11] [7] abw
def aby:AC:=(.sq (.bl 1 (.sq (rG [gi 13 3 9 11,gC 14 3 13,gp 7 (.al [(.i .i64 0),(.i .i64 0),(.l 37 [])]),gS 3 7 14] [1,5,7,9,10,11] [7]) (.sq (.sq (rG [gM 15 5,gM 16 1,gB 17 .gtr 15 16] [1,5,7,9,10,11,17] [7]) (.ite 17 (.ex 0) .sk)) abx))) (rG [gB 25 .add 11 (kI 1),gM 11 25] [1,5,9,10,11] []))
def abz:AC:=.kp [1,5,9,10,11] [] aby
def abA:AC:=(.sq (rG [gB 12 .lss 11 10] [1,5,9,10,11,12] []) (.sq (.ite 12 .sk (.ex 0)) abz))
def TV:bb:=⟨[1,5,9,10,11],[],abA⟩
def abB:bE:=⟨(.sq (rG [gp 2 (.bx 0),gA 4 (kI 0)] [1,2] [2]) (.sq (rG [gA 5 (kI 1)] [1,2,5] [2]) (.sq (.sq (rG [gF 8 2 2,gQ 9 8,gl 10 9,gM 11 (kI 0)] [1,5,9,10,11] []) (.bl 0 TV.lp)) (.sq (rG [gM 26 5,gA 4 26] [4] []) .rt)))),[.t 4]⟩
def abC:AC:=(.sq (.bl 1 (.sq (rG [gi 20 3 16 18,gC 21 3 20,gp 7 (.al [(.i .i64 0),(.i .i64 0),(.l 37 [])]),gS 3 7 21] [1,7,16,17,18] [7]) (.sq (rG [gC 22 3 7,gM 23 1,ga 24 112 [22,23],gA 8 24] [1,8,16,17,18] []) (.sq (rG [gM 25 8,gB 26 .neq 25 (kI 0)] [1,8,16,17,18,26] []) (.ite 26 (.sq (rG [gM 27 8,gA 4 27] [4] []) .rt) .sk))))) (rG [gB 28 .add 18 (kI 1),gM 18 28] [1,16,17,18] []))
def abD:AC:=.kp [1,16,17,18] [] abC
def abE:AC:=(.sq (rG [gB 19 .lss 18 17] [1,16,17,18,19] []) (.sq (.ite 19 .sk (.ex 0)) abD))
def TW:bb:=⟨[1,16,17,18],[],abE⟩
def abF:AC:=(.sq (.sq (rG [gF 15 2 2,gQ 16 15,gl 17 16,gM 18 (kI 0)] [1,16,17,18] []) (.bl 0 TW.lp)) (.sq (rG [gA 4 (kI 0)] [4] []) .rt))
def abG:AC:=.kp [1,2] [2] abF
def abH:bE:=⟨(.sq (rG [gp 2 (.bx 0),gA 4 (kI 0)] [1,2] [2]) (.sq (.sq (rG [gC 9 3 2,gM 10 1,ga 11 145 [9,10],gA 5 11] [1,2,5] [2]) (.sq (rG [gM 12 5,gB 13 .neq 12 (kI 0)] [1,2,5,13] [2]) (.ite 13 (.sq (rG [gM 14 5,gA 4 14] [4] []) .rt) .sk))) abG)),[.t 4]⟩
def alI:bE:=⟨(.sq (rG [gp 1 (.bx 0),gA 2 (.c .nf)] [1] [1]) (.sq (.rg [.fzB 1 true] [gp 3 (.mf 146 [1]),gA 2 3] [2] [1]) .rt)),[.t 2]⟩
def abI:AC:=(.sq (.bl 3 (.sq (.dg [] [] [xC 42 2 2 [2],uM 43 1,uM 44 5,ui 45 2 43 44,uF 46 1 45,uQ 47 46,uM 48 6,ui 49 1 47 48,uQ 50 49,gH (ga 51 21 [42,50]),gH (gn 52 51)] [1,2,5,6,52] [2]) (.ite 52 (.sq (rG [gA 4 (kI 5)] [4] []) .rt) .sk))) (rG [gM 40 6,gB 41 .add 40 (kI 1),gA 6 41] [1,2,5,6] [2]))
def abJ:AC:=.kp [1,2,5,6] [2] abI
def abK:AC:=(.sq (.sq (rG [gM 32 6,gM 33 1,gM 34 5,gi 35 2 33 34,gF 36 1 35,gQ 37 36,gl 38 37,gB 39 .lss 32 38] [1,2,5,6,39] [2]) (.ite 39 .sk (.ex 2))) abJ)
def TX:bb:=⟨[1,2,5,6],[2],abK⟩
def abL:AC:=(.sq (.bl 5 (.sq (.dg [] [] [uM 63 1,uM 64 5,ui 65 2 63 64,uF 66 1 65,uQ 67 66,uM 68 7,ui 69 1 67 68,uQ 70 69,uM 71 1,uM 72 5,ui 73 2 71 72,uF 74 1 73,uQ 75 74,uM 76 7,gU (gB 77 .sub 76 (kI 1)) [76],ui 78 1 75 77,uQ 79 78,gH (gB 80 .leq 70 79)] [1,2,5,7,80] [2]) (.ite 80 (.sq (rG [gA 4 (kI 4)] [4] []) .rt) .sk))) (rG [gM 61 7,gB 62 .add 61 (kI 1),gA 7 62] [1,2,5,7] [2]))
def abM:AC:=.kp [1,2,5,7] [2] abL
def abN:AC:=(.sq (.sq (rG [gM 53 7,gM 54 1,gM 55 5,gi 56 2 54 55,gF 57 1 56,gQ 58 57,gl 59 58,gB 60 .lss 53 59] [1,2,5,7,60] [2]) (.ite 60 .sk (.ex 4))) abM)
def TY:bb:=⟨[1,2,5,7],[2],abN⟩
def abO:AC:=(.sq (rG [gA 7 (kI 1)] [1,2,5,7] [2]) (.bl 4 TY.lp))
def abP:AC:=.kp [1,2,5] [2] abO
def abQ:AC:=(.sq (.sq (rG [gA 6 (kI 0)] [1,2,5,6] [2]) (.bl 2 TX.lp)) abP)
def abR:AC:=.kp [1,2,5] [2] abQ
def abS:AC:=(.sq (.sq (rG [gM 25 1,gM 26 5,gi 27 2 25 26,gF 28 1 27,gQ 29 28,gl 30 29,gB 31 .gtr 30 (kI 6)] [1,2,5,31] [2]) (.ite 31 (.sq (rG [gA 4 (kI 2)] [4] []) .rt) .sk)) abR)
def abT:AC:=.kp [1,2,5] [2] abS
def abU:AC:=(.sq (.bl 1 (.sq (.sq (.dg [] [] [xC 17 2 2 [2],uM 18 1,uM 19 5,ui 20 2 18 19,uF 21 0 20,uQ 22 21,gH (ga 23 21 [17,22]),gH (gn 24 23)] [1,2,5,24] [2]) (.ite 24 (.sq (rG [gA 4 (kI 5)] [4] []) .rt) .sk)) abT)) (rG [gM 15 5,gB 16 .add 15 (kI 1),gA 5 16] [1,2,5] [2]))
def abV:AC:=.kp [1,2,5] [2] abU
def abW:AC:=(.sq (.sq (rG [gM 11 5,gM 12 1,gl 13 12,gB 14 .lss 11 13] [1,2,5,14] [2]) (.ite 14 .sk (.ex 0))) abV)
def TZ:bb:=⟨[1,2,5],[2],abW⟩
def abX:AC:=(.sq (.sq (rG [gA 5 (kI 0)] [1,2,5] [2]) (.bl 0 TZ.lp)) (.sq (rG [gA 4 (kI 0)] [4] []) .rt))
def abY:AC:=.kp [1,2] [2] abX
def abZ:bE:=⟨(.sq (rG [gp 2 (.bx 0),gA 4 (kI 0)] [1,2] [2]) (.sq (.sq (rG [gM 8 1,gl 9 8,gB 10 .gtr 9 (kI 4)] [1,2,10] [2]) (.ite 10 (.sq (rG [gA 4 (kI 2)] [4] []) .rt) .sk)) abY)),[.t 4]⟩
def ab0:bE:=⟨(.sq (rG [gA 2 (.c (.b false))] [0] []) (.sq (rG [gM 3 0,ga 4 50 [3,(kI 1),(kI 3)],gM 5 4,hM 6 0 5 false,hB 7 .eql 6 (kI 5) 5 false,gp 8 (.pk 5 (.c (.b true)) 7),gM 9 8,hM 10 0 9 false,hB 11 .eql 10 (kI 6) 9 false,gp 12 (.pk 9 (.c (.b true)) 11),gA 2 12] [2] []) .rt)),[.t 2]⟩
def ab1:AC:=(.sq (.bl 3 (.dg [] [] [uM 34 8,uM 35 34,FG 36 2 3 35 false [3],mr 37 1 35 false,mr 38 2 35 false,mr 39 7 35 false,HT 40 2 38 39 35 false,iO 41 1 40 35 false,Ri 42 41 35 false,mr 43 9 35 false,HT 44 1 42 43 35 false,Ri 45 44 35 false,gH (ha 46 125 [36,37,45] 35 false),gH (gp 47 (.pk 35 (.c (.b true)) 46)),gH (gA 8 47)] [1,2,3,7,8,9] [3])) (rG [gM 32 9,gB 33 .add 32 (kI 1),gA 9 33] [1,2,3,7,8,9] [3]))
def ab2:AC:=.kp [1,2,3,7,8,9] [3] ab1
def ab3:AC:=(.sq (.sq (rG [gM 24 9,gM 25 2,gM 26 7,gi 27 2 25 26,gF 28 1 27,gQ 29 28,gl 30 29,gB 31 .lss 24 30] [1,2,3,7,8,9,31] [3]) (.ite 31 .sk (.ex 2))) ab2)
def T5:bb:=⟨[1,2,3,7,8,9],[3],ab3⟩
def ab4:AC:=(.sq (rG [gM 48 8,gn 49 48] [1,2,3,7,49] [3]) (.ite 49 (.sq (rG [gA 6 (.c (.b false))] [6] []) .rt) .sk))
def ab5:AC:=.kp [1,2,3,7,8] [3] ab4
def ab6:AC:=(.sq (.bl 1 (.sq (.dg [] [] [xC 16 2 3 [3],uM 17 1,uM 18 2,uM 19 7,ui 20 2 18 19,uF 21 0 20,uQ 22 21,gH (ga 23 125 [16,17,22]),gH (gA 8 23)] [1,2,3,7,8] [3]) (.sq (.sq (rG [gA 9 (kI 0)] [1,2,3,7,8,9] [3]) (.bl 2 T5.lp)) ab5))) (rG [gM 14 7,gB 15 .add 14 (kI 1),gA 7 15] [1,2,3,7] [3]))
def ab7:AC:=.kp [1,2,3,7] [3] ab6
def ab8:AC:=(.sq (.sq (rG [gM 10 7,gM 11 2,gl 12 11,gB 13 .lss 10 12] [1,2,3,7,13] [3]) (.ite 13 .sk (.ex 0))) ab7)
def T6:bb:=⟨[1,2,3,7],[3],ab8⟩
def ab9:bE:=⟨(.sq (rG [gp 3 (.bx 0),gA 6 (.c (.b false))] [1,2,3] [3]) (.sq (.sq (rG [gA 7 (kI 0)] [1,2,3,7] [3]) (.bl 0 T6.lp)) (.sq (rG [gA 6 (.c (.b true))] [6] []) .rt))),[.t 6]⟩
def aca:AC:=(.sq (.bl 1 (.sq (rG [gM 20 2,gM 21 11,gi 22 9 20 21,gC 23 9 22,gp 12 (.al [(.i .i64 0),(.i .i64 0),(.i .i64 0),(.i .i64 0),(.i .i64 0),(.l 37 []),(.l 37 []),(.l 92 []),(.l 92 [])]),gS 9 12 23] [2,4,5,6,8,11,12] [5,6,8,12]) (.sq (rG [gM 24 4,gC 25 9 12,gM 26 4,gl 27 26,gC 28 2 8,gp 29 (.bd [(.i .i64 0),(.i .i64 0),(.i .i64 0),(.i .i64 0),(.i .i64 0),(.l 37 []),(.l 37 []),(.l 92 []),(.l 92 []),(.i .i64 0),(.l 4 []),(.l 4 [])] [(0,9,25),(9,1,27),(10,2,28)]),gz 30 (.bs 113 12 [29]),gp 31 (.ap 113 12 192 24 30),gA 4 31] [2,4,5,6,8,11,12] [5,6,8,12]) (.sq (.rg [.own 4 113] [gF 32 0 12,gQ 33 32,gB 34 .geq 33 (kI 7)] [2,4,5,6,8,11,12,34] [5,6,8,12]) (.ite 34 (.sq (.dg [] [13] [yC 35 2 8 [8] [13],yC 36 8 5 [5] [13],vF 37 0 6 [13],yQ 38 37 [6] [13],vF 39 3 12 [13],yC 40 3 39 [12] [13],gV (ga 41 15 [36,38,40]) [36,38,40] [6] [13],gL (ga 42 60 [35,41]) [35,41] [13],gU (gp 13 (.al [(.l 4 []),(.l 4 [])])) [],gH (gS 2 13 42)] [2,4,5,6,8,11,12,13] [5,6,8,12,13]) (.sq (rG [gC 43 8 5,gC 44 2 6,gF 45 7 12,gQ 46 45,gC 47 2 13,gM 48 4,gp 49 (.cm 113 117 [43,44,46,47] 48),gA 4 49] [2,4,5,6,8,11,12,13] [5,6,8,12,13]) (rG [gC 50 8 5,gC 51 2 6,gF 52 8 12,gQ 53 52,gC 54 2 13,gM 55 4,gp 56 (.cm 113 117 [50,51,53,54] 55),gA 4 56] [2,4,5,6,8,11] [5,6,8]))) .sk))))) (rG [gM 18 11,gB 19 .add 18 (kI 1),gA 11 19] [2,4,5,6,8,11] [5,6,8]))
def acb:AC:=.kp [2,4,5,6,8,11] [5,6,8] aca
def Jt:AC:=(.sq (.sq (rG [gM 14 11,gM 15 2,gl 16 15,gB 17 .lss 14 16] [2,4,5,6,8,11,17] [5,6,8]) (.ite 17 .sk (.ex 0))) acb)
def T7:bb:=⟨[2,4,5,6,8,11],[5,6,8],Jt⟩
def V7:bE:=⟨(.sq (rG [gp 5 (.bx 0),gp 6 (.bx 1),gp 8 (.bx 3),gA 10 (.c (.l 113 []))] [2,4,5,6,8] [5,6,8]) (.sq (.sq (rG [gA 11 (kI 0)] [2,4,5,6,8,11] [5,6,8]) (.bl 0 T7.lp)) (.sq (rG [gM 57 4,gA 10 57] [4,10] []) .rt))),[.r 10]⟩
def V8:bE:=⟨(.sq (rG [gp 4 (.bx 0),gp 5 (.al [(.l 4 []),(.l 4 [])])] [1,2,3,4,5] [1,2,3,4,5]) (.sq (.dg [] [] [uF 6 10 1,⟨gC 7 2 6,true,[6],[],true,[],[],[]⟩,⟨gC 8 8 2,true,[2],[],true,[],[],[]⟩,uF 9 0 3,⟨gQ 10 9,true,[9],[],true,[],[],[]⟩,xC 11 3 4 [4],⟨ga 12 15 [8,10,11],true,[8,10,11],[],true,[],[],[]⟩,gH (ga 13 60 [7,12]),gH (gS 2 5 13)] [5] [5]) .rt)),[.c 5 (some 2)]⟩
def acd:bE:=⟨(.sq (rG [gp 2 (.bx 0),gA 4 (.c (.b false))] [1,2] [2]) (.sq (rG [gM 5 1,gB 6 .geq 5 (kI 0),gM 7 6,hM 8 1 7 true,hF 9 0 2 7 true,hQ 10 9 7 true,hB 11 .lss 8 10 7 true,gk 12 7 11 (.c (.b false)),gA 4 12] [4] []) .rt)),[.t 4]⟩
def ace:bE:=⟨(.sq (rG [gp 1 (.bx 0),gA 2 (.c .z)] [1] [1]) (.sq (.dg [] [] [xC 3 8 1 [1],uF 4 0 1,xC 5 2 4 [1],gU (ga 6 102 [5]) [5],gH (gp 7 (.bd [(.i .i64 0),(.l 166 []),(.l 3 []),(.l 81 []),(.l 81 []),(.l 83 []),(.l 101 []),(.l 92 []),(.l 43 [])] [(0,8,3),(8,1,6)])),gH (gp 8 (.bx 7)),gH (gA 2 8)] [2] [8]) .rt)),[.t 2]⟩
def acf:AC:=(.ite 104 (rG [gM 107 0,gM 108 1,gC 109 9 6,gC 110 2 7,gp 111 (.c2 150 [107,108,109,110])] [] []) .sk)
def acg:AC:=.kp [0,1,6,7,104] [0,6,7] acf
def ach:bE:=⟨(.sq (rG [gp 6 (.bx 2),gp 7 (.bx 3)] [0,1,6,7] [0,6,7]) (.sq (rG [gF 9 0 6,gQ 10 9] [0,1,6,7,10] [0,6,7]) (.bl 0 (.sq (rG [gB 12 .eql 10 (kI 1),gA 11 12] [0,1,6,7,10,11] [0,6,7]) (.ite 11 (rG [gM 13 0,gM 14 1,gM 15 0,gC 16 9 6,gC 17 2 7,gp 18 (.c2 149 [15,16,17]),gn 19 18,gp 20 (.c2 148 [13,14,(kI 1),19])] [] []) (.sq (rG [gB 22 .eql 10 (kI 2),gA 21 22] [0,1,6,7,10,21] [0,6,7]) (.ite 21 (rG [gM 23 0,gM 24 1,gM 25 0,gC 26 9 6,gC 27 2 7,gp 28 (.c2 149 [25,26,27]),gn 29 28,gp 30 (.c2 148 [23,24,(kI 2),29])] [] []) (.sq (rG [gB 32 .eql 10 (kI 3),gA 31 32] [0,1,6,7,10,31] [0,6,7]) (.ite 31 (.dg [] [] [⟨gM 33 0,true,[0],[],false,[],[],[1000000]⟩,⟨gM 34 1,true,[1],[],false,[],[],[1000000]⟩,uM 35 0,xC 36 9 6 [6],xC 37 2 7 [7],gH (gp 38 (.ch 149 [35,36,37] [] [] [])),un 39 38,uM 40 39,FG 41 2 7 40 false [7],mr 42 0 40 false,gU (gg 43 (.nc 42) 40 false) [42],iO 44 0 43 40 false,iO 45 0 44 40 false,iO 46 0 45 40 false,⟨hC 47 2 46 40 false,true,[46],[],true,[],[],[]⟩,mr 48 0 40 false,gU (gg 49 (.nc 48) 40 false) [48],iO 50 0 49 40 false,iO 51 0 50 40 false,iO 52 3 51 40 false,⟨hQ 53 52 40 false,true,[52],[],true,[],[],[]⟩,iO 54 2 6 40 false,sd 55 54 40 false [6],⟨hi 56 2 53 55 40 false,true,[53,55],[],true,[],[],[]⟩,⟨hC 57 2 56 40 false,true,[56],[],true,[],[],[]⟩,gU (ha 58 40 [47,57] 40 false) [47,57],gU (ha 59 43 [41,58] 40 false) [41,58],uhn 60 59 40 false,gU (gp 61 (.pk 40 (.c (.b true)) 60)) [40,60],gH (gp 62 (.c2 148 [33,34,(kI 3),61]))] [] []) (.sq (rG [gB 64 .eql 10 (kI 4),gA 63 64] [0,1,6,7,10,63] [0,6,7]) (.ite 63 (.sq (.dg [] [8] [yC 65 2 7 [7] [8],vM 66 0 [8],gL (gp 67 (.nc 66)) [66] [8],vF 68 0 67 [8],vF 69 0 68 [8],⟨gC 70 8 69,true,[69],[],true,[],[8],[]⟩,vM 71 0 [8],gL (gp 72 (.nc 71)) [71] [8],vF 73 0 72 [8],vF 74 8 73 [8],vF 75 0 74 [8],⟨gQ 76 75,true,[75],[],true,[],[8],[]⟩,vF 77 3 6 [8],yC 78 3 77 [6] [8],⟨ga 79 46 [70,76,78],true,[70,76,78],[],true,[],[8],[]⟩,gL (ga 80 98 [65,79]) [65,79] [8],gU (gp 8 (.al [(.l 4 []),(.l 4 [])])) [],gH (gS 2 8 80)] [0,1,6,8] [0,6,8]) (.dg [] [] [uM 81 0,uM 82 1,xC 83 2 8 [8],uM 84 0,gU (gp 85 (.nc 84)) [84],uF 86 0 85,uF 87 0 86,uF 88 0 87,⟨gC 89 2 88,true,[88],[],true,[],[],[]⟩,uM 90 0,gU (gp 91 (.nc 90)) [90],uF 92 0 91,uF 93 0 92,uF 94 4 93,⟨gQ 95 94,true,[94],[],true,[],[],[]⟩,uF 96 2 6,xQ 97 96 [6],⟨gi 98 2 95 97,true,[95,97],[],true,[],[],[]⟩,⟨gC 99 2 98,true,[98],[],true,[],[],[]⟩,gU (ga 100 40 [89,99]) [89,99],gU (ga 101 43 [83,100]) [83,100],un 102 101,gH (gp 103 (.c2 148 [81,82,(kI 4),102]))] [] [])) (.sq (.sq (rG [gB 105 .eql 10 (kI 5),gA 104 105] [0,1,6,7,10,104] [0,6,7]) (.ite 104 .sk (rG [gB 106 .eql 10 (kI 6),gA 104 106] [0,1,6,7,104] [0,6,7]))) acg)))))))))))),[]⟩
def aci:AC:=(.sq (.bl 1 (.sq (.dg [] [] [xC 12 8 2 [2],uM 13 1,uM 14 5,ui 15 2 13 14,uF 16 0 15,uQ 17 16,gH (ga 18 151 [12,17]),gH (gn 19 18)] [1,2,5,19] [2]) (.ite 19 (.sq (rG [gA 4 (.c (.b true))] [4] []) .rt) .sk))) (rG [gM 10 5,gB 11 .add 10 (kI 1),gA 5 11] [1,2,5] [2]))
def acj:AC:=.kp [1,2,5] [2] aci
def ack:AC:=(.sq (.sq (rG [gM 6 5,gM 7 1,gl 8 7,gB 9 .lss 6 8] [1,2,5,9] [2]) (.ite 9 .sk (.ex 0))) acj)
def T8:bb:=⟨[1,2,5],[2],ack⟩
def acm:bE:=⟨(.sq (rG [gp 2 (.bx 0),gA 4 (.c (.b false))] [1,2] [2]) (.sq (.sq (rG [gA 5 (kI 0)] [1,2,5] [2]) (.bl 0 T8.lp)) (.sq (rG [gA 4 (.c (.b false))] [4] []) .rt))),[.t 4]⟩
def acn:AC:=(.sq (.bl 3 (.sq (rG [gM 29 7,gF 30 1 3,gQ 31 30,gM 32 9,gi 33 2 31 32,gF 34 0 33,gQ 35 34,gi 36 1 29 35,gQ 37 36] [2,3,7,8,9,37] [3]) (.ite 37 (rG [gM 38 7,gF 39 1 3,gQ 40 39,gM 41 9,gi 42 2 40 41,gF 43 1 42,gQ 44 43,gi 45 1 38 44,gS 1 45 (.c (.b true))] [2,3,7,8,9] [3]) .sk))) (rG [gM 27 9,gB 28 .add 27 (kI 1),gA 9 28] [2,3,7,8,9] [3]))
def aco:AC:=.kp [2,3,7,8,9] [3] acn
def acp:AC:=(.sq (.sq (rG [gM 22 9,gF 23 1 3,gQ 24 23,gl 25 24,gB 26 .lss 22 25] [2,3,7,8,9,26] [3]) (.ite 26 .sk (.ex 2))) aco)
def T9:bb:=⟨[2,3,7,8,9],[3],acp⟩
def acq:AC:=(.sq (.bl 1 (.sq (rG [gA 9 (kI 0)] [2,3,7,8,9] [3]) (.bl 2 T9.lp))) (rG [gM 20 8,gB 21 .add 20 (kI 1),gA 8 21] [2,3,7,8] [3]))
def acr:AC:=.kp [2,3,7,8] [3] acq
def acs:AC:=(.sq (.sq (rG [gM 16 8,gF 17 0 3,gQ 18 17,gB 19 .lss 16 18] [2,3,7,8,19] [3]) (.ite 19 .sk (.ex 0))) acr)
def Ua:bb:=⟨[2,3,7,8],[3],acs⟩
def acu:AC:=(.sq (rG [gM 46 7,gM 47 2,gi 48 1 46 47,gQ 49 48,gA 6 49] [6] []) .rt)
def acv:AC:=.kp [2,7] [] acu
def acw:bE:=⟨(.sq (rG [gp 3 (.bx 0),gA 6 (.c (.b false))] [1,2,3] [3]) (.sq (rG [gF 10 0 3,gQ 11 10,gp 12 (.ms 4 1 1 (.b false) 11),gA 7 12] [1,2,3,7] [3]) (.sq (rG [gM 13 7,gM 14 1,gi 15 1 13 14,gS 1 15 (.c (.b true))] [2,3,7] [3]) (.sq (.sq (rG [gA 8 (kI 0)] [2,3,7,8] [3]) (.bl 0 Ua.lp)) acv)))),[.t 6]⟩
def acx:AC:=(.sq (.bl 1 (.sq (rG [gM 12 10,gi 13 1 8 10,gQ 14 13,gA 6 12,gA 7 14] [1,5,6,7,8,9,10] []) (rG [gM 15 5,gM 16 7,gM 17 16,hM 18 1 17 false,hM 19 6 17 false,hi 20 1 18 19 17 false,hQ 21 20 17 false,gp 22 (.pk 17 (.c (.b true)) 21),gz 23 (.bs 4 1 [22]),gp 24 (.ap 4 1 1 15 23),gA 5 24] [1,5,8,9,10] []))) (rG [gB 25 .add 10 (kI 1),gM 10 25] [1,5,8,9,10] []))
def acy:AC:=.kp [1,5,8,9,10] [] acx
def acz:AC:=(.sq (rG [gB 11 .lss 10 9] [1,5,8,9,10,11] []) (.sq (.ite 11 .sk (.ex 0)) acy))
def Ub:bb:=⟨[1,5,8,9,10],[],acz⟩
def acA:bE:=⟨(.sq (rG [gA 4 (.c (.l 4 []))] [0,1] []) (.sq (rG [gA 5 (.c .n)] [0,1,5] []) (.sq (.sq (.rg [.own 5 4] [gM 8 0,gl 9 8,gM 10 (kI 0)] [1,5,8,9,10] []) (.bl 0 Ub.lp)) (.sq (rG [gM 26 5,gA 4 26] [4,5] []) .rt)))),[.t 4]⟩
def acB:AC:=(.sq (.bl 1 (.sq (rG [gM 12 10,gi 13 1 8 10,gQ 14 13,gA 6 12,gA 7 14] [1,5,6,7,8,9,10] []) (rG [gM 15 5,gM 16 7,gM 17 16,hM 18 1 17 true,hM 19 6 17 true,hi 20 1 18 19 17 true,hQ 21 20 17 true,gk 22 17 21 (.c (.b false)),gz 23 (.bs 4 1 [22]),gp 24 (.ap 4 1 1 15 23),gA 5 24] [1,5,8,9,10] []))) (rG [gB 25 .add 10 (kI 1),gM 10 25] [1,5,8,9,10] []))
def acC:AC:=.kp [1,5,8,9,10] [] acB
def acD:AC:=(.sq (rG [gB 11 .lss 10 9] [1,5,8,9,10,11] []) (.sq (.ite 11 .sk (.ex 0)) acC))
def Uc:bb:=⟨[1,5,8,9,10],[],acD⟩
def acE:bE:=⟨(.sq (rG [gA 4 (.c (.l 4 []))] [0,1] []) (.sq (rG [gA 5 (.c .n)] [0,1,5] []) (.sq (.sq (.rg [.own 5 4] [gM 8 0,gl 9 8,gM 10 (kI 0)] [1,5,8,9,10] []) (.bl 0 Uc.lp)) (.sq (rG [gM 26 5,gA 4 26] [4,5] []) .rt)))),[.t 4]⟩
def acF:bE:=⟨(.sq (rG [gp 1 (.bx 0),gA 2 (kI 0)] [1] [1]) (.sq (.bl 0 (.sq (rG [gF 4 0 1,gQ 5 4,gB 6 .lss 5 (kI 1),gM 7 6,hF 8 0 1 7 false,hQ 9 8 7 false,hB 10 .gtr 9 (kI 6) 7 false,gp 11 (.pk 7 (.c (.b true)) 10),gA 3 11] [1,3] [1]) (.ite 3 (.sq (rG [gA 2 (kI 3)] [2] []) .rt) (.sq (rG [gF 13 1 1,gQ 14 13,gl 15 14,gB 16 .gtr 15 (kI 20),gA 12 16] [1,12] [1]) (.ite 12 (.sq (rG [gA 2 (kI 2)] [2] []) .rt) (.sq (.rg [.fzB 1 true] [gF 18 1 1,gQ 19 18,gp 20 (.mf 153 [1]),gp 21 (.c2 152 [19,20]),gA 17 21] [17] []) (.ite 17 (.sq (rG [gA 2 (kI 5)] [2] []) .rt) .sk))))))) (.sq (rG [gA 2 (kI 0)] [2] []) .rt))),[.t 2]⟩
def acG:AC:=(.sq (.bl 3 (.sq (rG [gi 27 2 23 25,gC 28 2 27,gp 8 (.al [(.i .i64 0),(.l 3 [])]),gS 2 8 28] [2,8,14,15,16,23,24,25] [2,8]) (.sq (rG [gC 29 2 2,gC 30 2 8,ga 31 154 [29,30],gA 9 31] [2,9,14,15,16,23,24,25] [2]) (.sq (rG [gM 32 9,gB 33 .neq 32 (kI 0)] [2,9,14,15,16,23,24,25,33] [2]) (.ite 33 (.sq (rG [gM 34 9,gA 4 34] [4] []) .rt) .sk))))) (rG [gB 35 .add 25 (kI 1),gM 25 35] [2,14,15,16,23,24,25] [2]))
def acH:AC:=.kp [2,14,15,16,23,24,25] [2] acG
def acI:AC:=(.sq (rG [gB 26 .lss 25 24] [2,14,15,16,23,24,25,26] [2]) (.sq (.ite 26 .sk (.ex 2)) acH))
def Ud:bb:=⟨[2,14,15,16,23,24,25],[2],acI⟩
def acJ:AC:=(.sq (rG [gM 23 6,gl 24 23,gM 25 (kI 0)] [2,14,15,16,23,24,25] [2]) (.bl 2 Ud.lp))
def acK:AC:=.kp [2,6,14,15,16] [2] acJ
def acM:AC:=(.sq (.bl 1 (.sq (rG [gi 18 1 14 16,gQ 19 18,gA 6 19] [2,6,14,15,16] [2]) (.sq (.sq (rG [gM 20 6,gl 21 20,gB 22 .gtr 21 (kI 4)] [2,6,14,15,16,22] [2]) (.ite 22 (.sq (rG [gA 4 (kI 2)] [4] []) .rt) .sk)) acK))) (rG [gB 36 .add 16 (kI 1),gM 16 36] [2,14,15,16] [2]))
def acN:AC:=.kp [2,14,15,16] [2] acM
def acO:AC:=(.sq (rG [gB 17 .lss 16 15] [2,14,15,16,17] [2]) (.sq (.ite 17 .sk (.ex 0)) acN))
def Ue:bb:=⟨[2,14,15,16],[2],acO⟩
def acP:bE:=⟨(.sq (rG [gp 2 (.bx 0),gp 3 (.bx 1),gA 4 (kI 0)] [2,3] [2,3]) (.sq (.sq (rG [gF 10 0 3,gQ 11 10,gF 12 1 3,gQ 13 12,gz 14 (.bs 79 1 [11,13]),gl 15 14,gM 16 (kI 0)] [2,14,15,16] [2]) (.bl 0 Ue.lp)) (.sq (rG [gA 4 (kI 0)] [4] []) .rt))),[.t 4]⟩
def alJ:bE:=⟨(.sq (rG [gp 2 (.bx 0),gA 3 (.c (.b false))] [1,2] [1,2]) (.sq (rG [gC 4 2 1,gC 5 2 2,ga 6 100 [4,5],gn 7 6,gA 3 7] [3] []) .rt)),[.t 3]⟩
def acQ:bE:=⟨(.sq (rG [gA 3 (.c (.b false))] [0,1] [1]) (.sq (rG [gF 4 0 1,gC 5 2 4,gM 6 0,ga 7 119 [5,6],gn 8 7,gA 3 8] [3] []) .rt)),[.t 3]⟩
def acS:AC:=(.sq (.bl 1 (.sq (rG [gi 13 1 9 11,gQ 14 13,gA 5 14] [0,3,5,9,10,11] []) (.sq (rG [gM 15 3,gM 16 5,gl 17 16,gB 18 .add 15 17,gA 3 18] [0,3,9,10,11] []) (.sq (rG [gM 19 3,gB 20 .lss 19 (kI 0)] [0,3,9,10,11,20] []) (.ite 20 .bad .sk))))) (rG [gB 22 .add 11 (kI 1),gM 11 22] [0,3,9,10,11] []))
def acU:AC:=.kp [0,3,9,10,11] [] acS
def acV:AC:=(.sq (rG [gB 12 .lss 11 10] [0,3,9,10,11,12] []) (.sq (.ite 12 .sk (.ex 0)) acU))
def Uf:bb:=⟨[0,3,9,10,11],[],acV⟩
def acW:AC:=(.sq (.bl 3 (.sq (rG [gi 29 1 25 27,gQ 30 29,gA 8 30] [6,8,25,26,27] []) (rG [gM 31 6,gM 32 8,gp 33 (.ap 81 2 48 31 32),gA 6 33] [6,25,26,27] []))) (rG [gB 34 .add 27 (kI 1),gM 27 34] [6,25,26,27] []))
def acX:AC:=.kp [6,25,26,27] [] acW
def acY:AC:=(.sq (rG [gB 28 .lss 27 26] [6,25,26,27,28] []) (.sq (.ite 28 .sk (.ex 2)) acX))
def Ug:bb:=⟨[6,25,26,27],[],acY⟩
def acZ:AC:=(.sq (rG [gM 23 3,gp 24 (.cr 81 155 [(.c .n),23]),gA 6 24] [0,6] []) (.sq (.sq (.rg [.own 6 81] [gM 25 0,gl 26 25,gM 27 (kI 0)] [6,25,26,27] []) (.bl 2 Ug.lp)) (.sq (rG [gM 35 6,gA 2 35] [2,6] []) .rt)))
def ac0:AC:=.kp [0,3] [] acZ
def ac1:bE:=⟨(.sq (rG [gA 2 (.c (.l 81 []))] [0] []) (.sq (rG [gA 3 (kI 0)] [0,3] []) (.sq (.sq (rG [gM 9 0,gl 10 9,gM 11 (kI 0)] [0,3,9,10,11] []) (.bl 0 Uf.lp)) ac0))),[.t 2]⟩
def ac2:bE:=⟨(.sq (rG [gA 4 (.c (.b false))] [0,1] []) (.sq (rG [gM 5 0,gM 6 1,gp 7 (.c2 156 [5,6]),gB 8 .geq 7 (kI 0),gA 4 8] [4] []) .rt)),[.t 4]⟩
def ac3:bE:=⟨(.sq (rG [gp 1 (.bx 0),gA 2 (.c (.b false))] [1] [1]) (.sq (rG [gF 3 0 1,gQ 4 3,gn 5 4,gM 6 5,hF 7 1 1 6 true,hF 8 0 7 6 true,hQ 9 8 6 true,hl 10 9 6 true,hF 11 1 1 6 true,hF 12 1 11 6 true,hQ 13 12 6 true,hl 14 13 6 true,hB 15 .add 10 14 6 true,hB 16 .gtr 15 (kI 0) 6 true,gk 17 6 16 (.c (.b false)),gA 2 17] [2] []) .rt)),[.t 2]⟩
def ac4:bE:=⟨(.sq (rG [gp 3 (.bx 0),gA 5 (.c (.b false))] [1,2] [2]) (.sq (rG [gQ 6 2,gB 7 .add 6 (kI 1),gS 1 2 7] [1,2] [2]) (.sq (rG [gQ 8 2,gB 9 .leq 8 (kI 50),gM 10 9,hM 11 1 10 true,hB 12 .leq 11 (kI 6) 10 true,gk 13 10 12 (.c (.b false)),gA 5 13] [5] []) .rt))),[.t 5]⟩
def ac5:AC:=(.sq (.bl 1 (.sq (rG [gi 13 9 9 11,gC 14 9 13,gp 8 (.al [(.i .i64 0),(.i .i64 0),(.i .i64 0),(.i .i64 0),(.i .i64 0),(.l 37 []),(.l 37 []),(.l 92 []),(.l 92 [])]),gS 9 8 14] [1,2,8,9,10,11] [8]) (.sq (rG [gM 15 2,gC 16 9 8,gM 17 1,gp 18 (.d2 15 [16,17]),gn 19 18,gM 20 19,hF 21 7 8 20 false,hQ 22 21 20 false,hM 23 1 20 false,hB 24 .add 23 (kI 1) 20 false,hM 25 2 20 false,gg 26 (.c2 137 [22,24,25]) 20 false,hn 27 26 20 false,gp 28 (.pk 20 (.c (.b true)) 27),gM 29 28,hF 30 8 8 29 false,hQ 31 30 29 false,hM 32 1 29 false,hB 33 .add 32 (kI 1) 29 false,hM 34 2 29 false,gg 35 (.c2 137 [31,33,34]) 29 false,hn 36 35 29 false,gp 37 (.pk 29 (.c (.b true)) 36)] [1,2,9,10,11,37] []) (.ite 37 (.sq (rG [gA 6 (.c (.b false))] [6] []) .rt) .sk)))) (rG [gB 38 .add 11 (kI 1),gM 11 38] [1,2,9,10,11] []))
def ac6:AC:=.kp [1,2,9,10,11] [] ac5
def ac7:AC:=(.sq (rG [gB 12 .lss 11 10] [1,2,9,10,11,12] []) (.sq (.ite 12 .sk (.ex 0)) ac6))
def Of:bb:=⟨[1,2,9,10,11],[],ac7⟩
def ac8:bE:=⟨(.sq (rG [gA 6 (.c (.b false))] [0,1,2] []) (.sq (.sq (rG [gM 9 0,gl 10 9,gM 11 (kI 0)] [1,2,9,10,11] []) (.bl 0 Of.lp)) (.sq (rG [gA 6 (.c (.b true))] [6] []) .rt))),[.t 6]⟩
def ac9:bE:=⟨(.sq (rG [gA 4 (.c (.b false))] [0,1] []) (.sq (rG [gM 5 0,gM 6 1,ga 7 157 [5,6],gB 8 .geq 7 (kI 0),gA 4 8] [4] []) .rt)),[.t 4]⟩
def ada:bE:=⟨(.sq (rG [gp 4 (.bx 0),gA 6 (.c (.b false))] [2,3,4] [2,3,4]) (.sq (rG [gQ 7 2,gC 8 9 4,gp 9 (.c3 140 [7,8]),gS 1 3 9] [3] [3]) (.sq (rG [gQ 10 3,gB 11 .eql 10 (kI 0),gA 6 11] [6] []) .rt))),[.t 6]⟩
def adb:AC:=(.sq (.bl 2 (.sq (rG [gi 175 3 171 173,gC 176 3 175,gp 13 (.al [(.i .i64 0),(.i .i64 0),(.l 37 [])]),gS 3 13 176] [0,13,171,172,173] [0,13]) (.sq (.dg [] [] [xC 177 3 13 [13],uM 178 0,gU (gp 179 (.nc 178)) [178],uF 180 0 179,uF 181 5 180,⟨gQ 182 181,true,[181],[],true,[],[],[]⟩,⟨gl 183 182,true,[182],[],true,[],[],[]⟩,gH (ga 184 45 [177,183]),gH (gA 14 184)] [0,14,171,172,173] [0]) (.sq (rG [gM 185 14,gB 186 .neq 185 (kI 0)] [0,14,171,172,173,186] [0]) (.ite 186 (.sq (rG [gM 187 14,gA 4 187] [4] []) .rt) .sk))))) (rG [gB 188 .add 173 (kI 1),gM 173 188] [0,171,172,173] [0]))
def ade:AC:=.kp [0,171,172,173] [0] adb
def Ju:AC:=(.sq (rG [gB 174 .lss 173 172] [0,171,172,173,174] [0]) (.sq (.ite 174 .sk (.ex 1)) ade))
def Uh:bb:=⟨[0,171,172,173],[0],Ju⟩
def adf:AC:=(.sq (.sq (rG [gF 170 6 3,gQ 171 170,gl 172 171,gM 173 (kI 0)] [0,171,172,173] [0]) (.bl 1 Uh.lp)) (.sq (rG [gA 4 (kI 0)] [4] []) .rt))
def Ui:AC:=.kp [0,3] [0,3] adf
def adg:AC:=(.sq (.sq (rG [gM 157 8] [0,3,157] [0,3]) (.ite 157 (.sq (.dg [] [] [uF 158 3 3,xC 159 3 158 [3],uM 160 0,gU (gp 161 (.nc 160)) [160],uF 162 0 161,uF 163 5 162,⟨gQ 164 163,true,[163],[],true,[],[],[]⟩,⟨gl 165 164,true,[164],[],true,[],[],[]⟩,gH (ga 166 45 [159,165]),gH (gA 11 166)] [0,3,11] [0,3]) (.sq (rG [gM 167 11,gB 168 .neq 167 (kI 0)] [0,3,11,168] [0,3]) (.ite 168 (.sq (rG [gM 169 11,gA 4 169] [4] []) .rt) .sk))) .sk)) Ui)
def adh:AC:=.kp [0,3,8] [0,3] adg
def adi:AC:=(.sq (rG [gM 24 5,ga 25 158 [24],gM 23 25,ge 26 23 0,ge 27 23 1,ge 28 23 2,gA 6 26,gA 7 27,gA 8 28] [0,3,5,6,7,8] [0,3]) (.sq (rG [gM 29 5,gB 30 .geq 29 (kI 7),gA 9 30] [0,3,5,6,7,8,9] [0,3]) (.sq (rG [gF 31 3 3,gF 32 0 31,gQ 33 32,gB 34 .eql 33 (kI 0),gM 35 34,hF 36 3 3 35 true,hF 37 1 36 35 true,hQ 38 37 35 true,hB 39 .eql 38 (kI 0) 35 true,gk 40 35 39 (.c (.b false)),gM 41 40,hF 42 3 3 41 true,hF 43 2 42 41 true,hQ 44 43 41 true,hl 45 44 41 true,hB 46 .eql 45 (kI 0) 41 true,gk 47 41 46 (.c (.b false)),gA 10 47] [0,3,5,6,7,8,9,10] [0,3]) (.sq (.bl 0 (.sq (.dg [] [] [uM 49 6,uM 50 49,iO 51 1 3 50 true,sd 52 51 50 true [3],gU (hB 53 .lss 52 (kI 0) 50 true) [52],mr 54 53 50 true,iO 55 1 3 54 false,sd 56 55 54 false [3],mr 57 0 54 false,gU (gg 58 (.nc 57) 54 false) [57],iO 59 0 58 54 false,iO 60 5 59 54 false,⟨hQ 61 60 54 false,true,[60],[],true,[],[],[]⟩,⟨hl 62 61 54 false,true,[61],[],true,[],[],[]⟩,gU (hB 63 .geq 56 62 54 false) [56,62],gU (gg 64 (.pk 54 (.c (.b true)) 63) 50 true) [54,63],gU (gk 65 50 64 (.c (.b false))) [50,64],uM 66 65,mr 67 7 66 false,mr 68 67 66 false,iO 69 2 3 68 true,sd 70 69 68 true [3],gU (hB 71 .lss 70 (kI 0) 68 true) [70],mr 72 71 68 true,iO 73 2 3 72 false,sd 74 73 72 false [3],mr 75 0 72 false,mr 76 5 72 false,⟨gg 77 (.c3 159 [75,76]) 72 false,true,[75,76],[],true,[],[],[]⟩,gH (hB 78 .geq 74 77 72 false),gH (gg 79 (.pk 72 (.c (.b true)) 78) 68 true),gH (hk 80 68 79 (.c (.b false)) 66 false),gH (gp 81 (.pk 66 (.c (.b true)) 80)),gH (gA 48 81)] [0,3,5,6,7,8,9,10,48] [0,3]) (.ite 48 (.sq (rG [gA 4 (kI 5)] [4] []) .rt) (.sq (rG [gM 83 6,gn 84 83,gM 85 84,hF 86 1 3 85 true,hQ 87 86 85 true,hB 88 .neq 87 (kI 0) 85 true,gk 89 85 88 (.c (.b false)),gM 90 89,hM 91 7 90 false,hn 92 91 90 false,hM 93 92 90 false,hF 94 2 3 93 true,hQ 95 94 93 true,hB 96 .neq 95 (kI 0) 93 true,hk 97 93 96 (.c (.b false)) 90 false,gp 98 (.pk 90 (.c (.b true)) 97),gM 99 98,hM 100 8 99 false,hn 101 100 99 false,hM 102 101 99 false,hM 103 10 102 true,hn 104 103 102 true,hk 105 102 104 (.c (.b false)) 99 false,gp 106 (.pk 99 (.c (.b true)) 105),gM 107 106,hM 108 5 107 false,hB 109 .neq 108 (kI 2) 107 false,hM 110 109 107 false,hF 111 6 3 110 true,hQ 112 111 110 true,hl 113 112 110 true,hB 114 .gtr 113 (kI 0) 110 true,hk 115 110 114 (.c (.b false)) 107 false,gp 116 (.pk 107 (.c (.b true)) 115),gM 117 116,hM 118 9 117 false,hn 119 118 117 false,hM 120 119 117 false,hF 121 7 3 120 true,hQ 122 121 120 true,hl 123 122 120 true,hB 124 .gtr 123 (kI 0) 120 true,hk 125 120 124 (.c (.b false)) 117 false,gp 126 (.pk 117 (.c (.b true)) 125),gM 127 126,hM 128 5 127 false,hB 129 .neq 128 (kI 7) 127 false,hM 130 129 127 false,hF 131 8 3 130 true,hQ 132 131 130 true,hl 133 132 130 true,hB 134 .gtr 133 (kI 0) 130 true,hk 135 130 134 (.c (.b false)) 127 false,gp 136 (.pk 127 (.c (.b true)) 135),gA 82 136] [0,3,5,8,82] [0,3]) (.ite 82 (.sq (rG [gA 4 (kI 1)] [4] []) .rt) (.sq (.dg [] [] [uM 138 5,gU (gB 139 .eql 138 (kI 2)) [138],uM 140 139,iO 141 6 3 140 true,sd 142 141 140 true [3],xhl 143 142 140 true [3],mr 144 0 140 true,gU (gg 145 (.nc 144) 140 true) [144],iO 146 0 145 140 true,iO 147 6 146 140 true,⟨hQ 148 147 140 true,true,[147],[],true,[],[],[]⟩,iO 149 2 3 140 true,sd 150 149 140 true [3],⟨hi 151 5 148 150 140 true,true,[148,150],[],true,[],[],[]⟩,⟨hF 152 0 151 140 true,true,[151],[],true,[],[],[]⟩,⟨hQ 153 152 140 true,true,[152],[],true,[],[],[]⟩,uhl 154 153 140 true,gH (hB 155 .neq 143 154 140 true),gH (gk 156 140 155 (.c (.b false))),gH (gA 137 156)] [0,3,8,137] [0,3]) (.ite 137 (.sq (rG [gA 4 (kI 1)] [4] []) .rt) .sk))))))) adh))))
def adj:AC:=.kp [0,3,5] [0,3] adi
def V9:bE:=⟨(.sq (rG [gp 3 (.bx 1),gA 4 (kI 0)] [0,3] [0,3]) (.sq (rG [gF 15 0 3,gQ 16 15,gA 5 16] [0,3,5] [0,3]) (.sq (.sq (rG [gM 17 5,gB 18 .lss 17 (kI 1),gM 19 18,hM 20 5 19 false,hB 21 .gtr 20 (kI 8) 19 false,gp 22 (.pk 19 (.c (.b true)) 21)] [0,3,5,22] [0,3]) (.ite 22 (.sq (rG [gA 4 (kI 7)] [4] []) .rt) .sk)) adj))),[.t 4]⟩
def adk:AC:=(.sq (.bl 1 (.sq (rG [gM 10 8,gA 5 10] [0,1,5,7,8] []) (.sq (rG [gM 11 1,gM 12 0,gM 13 5,gi 14 2 12 13,gC 15 2 14,gp 16 (.d2 11 [15])] [0,1,5,7,8,16] []) (.ite 16 (.sq (rG [gM 17 5,gA 4 17] [4] []) .rt) .sk)))) (rG [gB 18 .add 8 (kI 1),gM 8 18] [0,1,7,8] []))
def adl:AC:=.kp [0,1,7,8] [] adk
def adm:AC:=(.sq (rG [gB 9 .lss 8 7] [0,1,7,8,9] []) (.sq (.ite 9 .sk (.ex 0)) adl))
def adn:bb:=⟨[0,1,7,8],[],adm⟩
def alK:bE:=⟨(.sq (rG [gA 4 (kI 0)] [0,1] []) (.sq (.sq (rG [gM 6 0,gl 7 6,gM 8 (kI 0)] [0,1,7,8] []) (.bl 0 adn.lp)) (.sq (rG [gA 4 (kI (-1))] [4] []) .rt))),[.t 4]⟩
def ado:AC:=(.sq (.bl 1 (.sq (rG [gM 10 8,gA 5 10] [0,1,5,7,8] []) (.sq (rG [gM 11 1,gM 12 0,gM 13 5,gi 14 1 12 13,gQ 15 14,gp 16 (.d2 11 [15])] [0,1,5,7,8,16] []) (.ite 16 (.sq (rG [gM 17 5,gA 4 17] [4] []) .rt) .sk)))) (rG [gB 18 .add 8 (kI 1),gM 8 18] [0,1,7,8] []))
def adp:AC:=.kp [0,1,7,8] [] ado
def adq:AC:=(.sq (rG [gB 9 .lss 8 7] [0,1,7,8,9] []) (.sq (.ite 9 .sk (.ex 0)) adp))
def Og:bb:=⟨[0,1,7,8],[],adq⟩
def adr:bE:=⟨(.sq (rG [gA 4 (kI 0)] [0,1] []) (.sq (.sq (rG [gM 6 0,gl 7 6,gM 8 (kI 0)] [0,1,7,8] []) (.bl 0 Og.lp)) (.sq (rG [gA 4 (kI (-1))] [4] []) .rt))),[.t 4]⟩
def ads:AC:=(.sq (.bl 1 (.sq (rG [gM 10 8,gA 5 10] [0,1,5,7,8] []) (.sq (rG [gM 11 1,gM 12 0,gM 13 5,gi 14 2 12 13,gC 15 2 14,gp 16 (.d2 11 [15])] [0,1,5,7,8,16] []) (.ite 16 (.sq (rG [gM 17 5,gA 4 17] [4] []) .rt) .sk)))) (rG [gB 18 .add 8 (kI 1),gM 8 18] [0,1,7,8] []))
def adt:AC:=.kp [0,1,7,8] [] ads
def adu:AC:=(.sq (rG [gB 9 .lss 8 7] [0,1,7,8,9] []) (.sq (.ite 9 .sk (.ex 0)) adt))
def Uj:bb:=⟨[0,1,7,8],[],adu⟩
def adv:bE:=⟨(.sq (rG [gA 4 (kI 0)] [0,1] []) (.sq (.sq (rG [gM 6 0,gl 7 6,gM 8 (kI 0)] [0,1,7,8] []) (.bl 0 Uj.lp)) (.sq (rG [gA 4 (kI (-1))] [4] []) .rt))),[.t 4]⟩
def Uk:AC:=(.sq (.bl 0 (.sq (rG [gF 18 2 2,gQ 19 18,gl 20 19,gM 21 5,gB 22 .neq 20 21,gA 17 22] [1,2,5,17] [2]) (.ite 17 (.sq (rG [gA 4 (kI 1)] [4] []) .rt) (.sq (rG [gF 24 0 2,gQ 25 24,gB 26 .eql 25 (kI 1),gM 27 26,hF 28 1 2 27 true,hQ 29 28 27 true,gg 30 (.bo .lss false 29 (kI (-9999999))) 27 true,hM 31 30 27 true,hF 32 1 2 31 false,hQ 33 32 31 false,hB 34 .gtr 33 (kI 9999999) 31 false,gg 35 (.pk 31 (.c (.b true)) 34) 27 true,gk 36 27 35 (.c (.b false)),gM 37 36,hM 38 5 37 false,hB 39 .gtr 38 (kI 0) 37 false,hM 40 39 37 false,hF 41 1 2 40 true,hQ 42 41 40 true,hB 43 .neq 42 (kI 0) 40 true,hk 44 40 43 (.c (.b false)) 37 false,gp 45 (.pk 37 (.c (.b true)) 44),gA 23 45] [1,2,23] [2]) (.ite 23 (.sq (rG [gA 4 (kI 3)] [4] []) .rt) (.sq (rG [gF 47 0 2,gQ 48 47,gB 49 .eql 48 (kI 2),gM 50 49,hF 51 1 2 50 true,hQ 52 51 50 true,hB 53 .lss 52 (kI 0) 50 true,hM 54 53 50 true,hF 55 1 2 54 false,hQ 56 55 54 false,hM 57 1 54 false,hB 58 .geq 56 57 54 false,gg 59 (.pk 54 (.c (.b true)) 58) 50 true,gk 60 50 59 (.c (.b false)),gA 46 60] [46] []) (.ite 46 (.sq (rG [gA 4 (kI 5)] [4] []) .rt) .sk))))))) (.sq (rG [gA 4 (kI 0)] [4] []) .rt))
def adw:AC:=.kp [1,2,5] [2] Uk
def adx:AC:=(.sq (rG [gA 5 (kI 0)] [1,2,5] [2]) (.sq (.sq (rG [gF 14 0 2,gQ 15 14,gB 16 .gtr 15 (kI 2)] [1,2,5,16] [2]) (.ite 16 (rG [gA 5 (kI 2)] [1,2,5] [2]) .sk)) adw))
def ady:AC:=.kp [1,2] [2] adx
def adz:bE:=⟨(.sq (rG [gp 2 (.bx 0),gA 4 (kI 0)] [1,2] [2]) (.sq (.sq (rG [gF 6 0 2,gQ 7 6,gB 8 .lss 7 (kI 1),gM 9 8,hF 10 0 2 9 false,hQ 11 10 9 false,hB 12 .gtr 11 (kI 7) 9 false,gp 13 (.pk 9 (.c (.b true)) 12)] [1,2,13] [2]) (.ite 13 (.sq (rG [gA 4 (kI 7)] [4] []) .rt) .sk)) ady)),[.t 4]⟩
def adA:bE:=⟨(.sq (rG [gM 8 3] [0,1,2,8] [0]) (.ite 8 (rG [gM 9 0,gM 10 0,gp 11 (.nc 10),gF 12 13 11,gQ 13 12,gM 14 1,gM 15 2,gp 16 (.bd [(.i .i64 0),(.i .i64 0)] [(0,1,14),(1,1,15)]),gz 17 (.bs 133 2 [16]),gp 18 (.ap 133 2 16 13 17),gp 19 (.nc 9),gF 20 13 19,gS 1 20 18] [] []) .sk)),[]⟩
def adB:bE:=⟨(.sq (rG [gp 3 (.bx 0),gp 4 (.bx 1),gp 5 (.bx 2),gA 6 (.c (.b false))] [3,4,5] [0,3,4,5]) (.sq (.dg [] [] [⟨gQ 7 3,true,[3],[3],true,[],[],[]⟩,gU (gp 8 (.nc 7)) [7],uF 9 0 8,xC 10 9 4 [4],xC 11 2 5 [5],gH (gp 12 (.ch 42 [9,10,11] [] [] [])),⟨gp 13 (.mf 162 [3]),true,[3],[],false,[],[],[1000000]⟩,gH (gp 14 (.c2 161 [12,13])),gH (gn 15 14),gH (gA 6 15)] [6] []) .rt)),[.t 6]⟩
def Ul:AC:=(rG [gM 82 0,gM 83 1,gF 84 0 9,gQ 85 84,gF 86 0 8,gQ 87 86,ga 88 109 [85,87],gn 89 88,gp 90 (.c2 148 [82,83,(kI 8),89])] [] [])
def adC:AC:=.kp [0,1,8,9] [0,8,9] Ul
def adD:bE:=⟨(.sq (rG [gp 6 (.bx 2),gp 7 (.bx 3)] [0,1,6,7] [0,6,7]) (.sq (.dg [] [8,9] [vM 10 0 [8,9],gL (gp 11 (.nc 10)) [10] [8,9],vF 12 0 11 [8,9],vF 13 0 12 [8,9],⟨gC 14 8 13,true,[13],[],true,[],[8,9],[]⟩,vM 15 0 [8,9],gL (gp 16 (.nc 15)) [15] [8,9],vF 17 0 16 [8,9],vF 18 8 17 [8,9],vF 19 0 18 [8,9],⟨gQ 20 19,true,[19],[],true,[],[8,9],[]⟩,vF 21 3 6 [8,9],yC 22 3 21 [6] [8,9],⟨ga 23 46 [14,20,22],true,[14,20,22],[],true,[],[8,9],[]⟩,vM 24 0 [8,9],gL (gp 25 (.nc 24)) [24] [8,9],vF 26 0 25 [8,9],vF 27 8 26 [8,9],vF 28 0 27 [8,9],⟨gQ 29 28,true,[28],[],true,[],[8,9],[]⟩,vF 30 1 6 [8,9],yQ 31 30 [6] [8,9],⟨gi 32 2 29 31,true,[29,31],[],true,[],[8,9],[]⟩,⟨gC 33 2 32,true,[32],[],true,[],[8,9],[]⟩,gL (gp 8 (.al [(.l 4 []),(.l 4 [])])) [] [9],gL (gp 9 (.al [(.l 4 []),(.l 4 [])])) [] [8],gX (gS 2 8 23) [8,23] [8],gH (gS 2 9 33)] [0,1,6,7,8,9] [0,6,7,8,9]) (.sq (rG [gM 34 0,gM 35 1,gC 36 2 7,gC 37 2 9,ga 38 43 [36,37],gn 39 38,gp 40 (.c2 148 [34,35,(kI 5),39])] [0,1,6,7,8,9] [0,6,7,8,9]) (.sq (.dg [] [] [⟨gM 41 0,true,[0],[],false,[],[],[1000000]⟩,⟨gM 42 1,true,[1],[],false,[],[],[1000000]⟩,uM 43 0,gU (gp 44 (.nc 43)) [43],uF 45 12 44,⟨gQ 46 45,true,[45],[],true,[],[],[]⟩,xC 47 9 6 [6],gH (gp 48 (.ch 163 [46,47] [] [] [])),gH (gp 49 (.c2 148 [41,42,(kI 6),48]))] [0,1,6,7,8,9] [0,6,7,8,9]) (.sq (.dg [] [] [⟨gM 50 0,true,[0],[],false,[],[],[1000000]⟩,⟨gM 51 1,true,[1],[],false,[],[],[1000000]⟩,uM 52 0,gU (gp 53 (.nc 52)) [52],uF 54 12 53,⟨gQ 55 54,true,[54],[],true,[],[],[]⟩,xC 56 9 6 [6],gH (gp 57 (.ch 164 [55,56] [] [] [])),gH (gp 58 (.c2 148 [50,51,(kI 7),57]))] [0,1,6,7,8,9] [0,6,7,8,9]) (.sq (.sq (rG [gF 59 0 6,gQ 60 59,gB 61 .eql 60 (kI 5)] [0,1,7,8,9,61] [0,7,8,9]) (.ite 61 (.sq (rG [gM 62 0,gM 63 1,gF 64 1 8,gQ 65 64,gF 66 1 9,gQ 67 66,ga 68 109 [65,67],gn 69 68,gp 70 (.c2 148 [62,63,(kI 8),69])] [0,1,7,8] [0,7,8]) (.sq (.dg [] [] [⟨gM 71 0,true,[0],[],false,[],[],[1000000]⟩,⟨gM 72 1,true,[1],[],false,[],[],[1000000]⟩,uM 73 0,gU (gp 74 (.nc 73)) [73],uF 75 12 74,⟨gQ 76 75,true,[75],[],true,[],[],[]⟩,xC 77 2 8 [8],xC 78 2 7 [7],gU (ga 79 98 [77,78]) [77,78],gH (gp 80 (.ch 165 [76,79] [] [] [])),gH (gp 81 (.c2 148 [71,72,(kI 9),80]))] [] []) .rt)) .sk)) adC)))))),[]⟩
def adE:AC:=(.sq (.bl 1 (.sq (.dg [] [] [uF 13 0 2,xC 14 2 13 [2],uF 15 2 2,xQ 16 15 [2],uM 17 5,xi 18 1 16 17 [2],xQ 19 18 [2],uM 20 1,gH (ga 21 125 [14,19,20])] [1,2,5,21] [2]) (.ite 21 (.sq (rG [gA 4 (.c (.b true))] [4] []) .rt) .sk))) (rG [gM 11 5,gB 12 .add 11 (kI 1),gA 5 12] [1,2,5] [2]))
def adF:AC:=.kp [1,2,5] [2] adE
def adG:AC:=(.sq (.sq (rG [gM 6 5,gF 7 2 2,gQ 8 7,gl 9 8,gB 10 .lss 6 9] [1,2,5,10] [2]) (.ite 10 .sk (.ex 0))) adF)
def Um:bb:=⟨[1,2,5],[2],adG⟩
def adH:bE:=⟨(.sq (rG [gp 2 (.bx 0),gA 4 (.c (.b false))] [1,2] [2]) (.sq (.sq (rG [gA 5 (kI 0)] [1,2,5] [2]) (.bl 0 Um.lp)) (.sq (rG [gA 4 (.c (.b false))] [4] []) .rt))),[.t 4]⟩
def adI:bE:=⟨(.sq (rG [gA 4 (.c (.b false))] [0,1] []) (.sq (rG [gM 5 0,gM 6 1,gp 7 (.c2 166 [5,6]),gB 8 .geq 7 (kI 0),gA 4 8] [4] []) .rt)),[.t 4]⟩
def adJ:bE:=⟨(.sq (rG [gp 2 (.bx 0),gA 3 (.c (.b false))] [1,2] [1,2]) (.sq (rG [gC 4 2 1,gF 5 0 2,gQ 6 5,ga 7 119 [4,6],gn 8 7,gM 9 8,hC 10 2 1 9 false,hF 11 1 2 9 false,hQ 12 11 9 false,ha 13 119 [10,12] 9 false,hn 14 13 9 false,gp 15 (.pk 9 (.c (.b true)) 14),gA 3 15] [3] []) .rt)),[.t 3]⟩
def adK:AC:=(.sq (.bl 2 (.sq (.dg [] [] [uF 29 1 3,xQ 30 29 [3],uM 31 5,xi 32 1 30 31 [3],xQ 33 32 [3],uF 34 1 3,xQ 35 34 [3],uM 36 5,gU (gB 37 .sub 36 (kI 1)) [36],xi 38 1 35 37 [3],xQ 39 38 [3],gH (gB 40 .leq 33 39)] [3,5,40] [3]) (.ite 40 (.sq (rG [gA 4 (kI 4)] [4] []) .rt) .sk))) (rG [gM 27 5,gB 28 .add 27 (kI 1),gA 5 28] [3,5] [3]))
def adL:AC:=.kp [3,5] [3] adK
def adM:AC:=(.sq (.sq (rG [gM 22 5,gF 23 1 3,gQ 24 23,gl 25 24,gB 26 .lss 22 25] [3,5,26] [3]) (.ite 26 .sk (.ex 1))) adL)
def Un:bb:=⟨[3,5],[3],adM⟩
def adN:AC:=(.sq (.sq (rG [gA 5 (kI 1)] [3,5] [3]) (.bl 1 Un.lp)) (.sq (rG [gA 4 (kI 0)] [4] []) .rt))
def adO:AC:=.kp [3] [3] adN
def adP:bE:=⟨(.sq (rG [gp 2 (.bx 0),gp 3 (.bx 1),gA 4 (kI 0)] [2,3] [2,3]) (.sq (.bl 0 (.sq (rG [gC 7 2 2,gF 8 0 3,gQ 9 8,ga 10 119 [7,9],gn 11 10,gA 6 11] [2,3,6] [2,3]) (.ite 6 (.sq (rG [gA 4 (kI 5)] [4] []) .rt) (.sq (rG [gF 13 1 3,gQ 14 13,gl 15 14,gB 16 .gtr 15 (kI 6),gA 12 16] [2,3,12] [2,3]) (.ite 12 (.sq (rG [gA 4 (kI 2)] [4] []) .rt) (.sq (.rg [.fzB 2 true] [gF 18 1 3,gQ 19 18,gp 20 (.mf 167 [2]),gp 21 (.c2 105 [19,20]),gA 17 21] [3,17] [3]) (.ite 17 (.sq (rG [gA 4 (kI 5)] [4] []) .rt) .sk))))))) adO)),[.t 4]⟩
def adQ:AC:=(.sq (.bl 1 (.sq (rG [gM 10 8,gA 5 10] [0,1,5,7,8] []) (.sq (rG [gM 11 1,gM 12 0,gM 13 5,gi 14 3 12 13,gC 15 3 14,gp 16 (.d2 11 [15])] [0,1,5,7,8,16] []) (.ite 16 (.sq (rG [gM 17 5,gA 4 17] [4] []) .rt) .sk)))) (rG [gB 18 .add 8 (kI 1),gM 8 18] [0,1,7,8] []))
def adR:AC:=.kp [0,1,7,8] [] adQ
def adS:AC:=(.sq (rG [gB 9 .lss 8 7] [0,1,7,8,9] []) (.sq (.ite 9 .sk (.ex 0)) adR))
def adT:bb:=⟨[0,1,7,8],[],adS⟩
def adU:bE:=⟨(.sq (rG [gA 4 (kI 0)] [0,1] []) (.sq (.sq (rG [gM 6 0,gl 7 6,gM 8 (kI 0)] [0,1,7,8] []) (.bl 0 adT.lp)) (.sq (rG [gA 4 (kI (-1))] [4] []) .rt))),[.t 4]⟩
def adV:AC:=(.sq (.bl 1 (.sq (rG [gM 10 8,gA 5 10] [0,1,5,7,8] []) (.sq (rG [gM 11 1,gM 12 0,gM 13 5,gi 14 1 12 13,gQ 15 14,gB 16 .eql 11 15] [0,1,5,7,8,16] []) (.ite 16 (.sq (rG [gM 17 5,gA 4 17] [4] []) .rt) .sk)))) (rG [gB 18 .add 8 (kI 1),gM 8 18] [0,1,7,8] []))
def adW:AC:=.kp [0,1,7,8] [] adV
def adX:AC:=(.sq (rG [gB 9 .lss 8 7] [0,1,7,8,9] []) (.sq (.ite 9 .sk (.ex 0)) adW))
def Uo:bb:=⟨[0,1,7,8],[],adX⟩
def adY:bE:=⟨(.sq (rG [gA 4 (kI 0)] [0,1] []) (.sq (.sq (rG [gM 6 0,gl 7 6,gM 8 (kI 0)] [0,1,7,8] []) (.bl 0 Uo.lp)) (.sq (rG [gA 4 (kI (-1))] [4] []) .rt))),[.t 4]⟩
def adZ:bE:=⟨(.sq (rG [gA 2 (.c (.b false)),gA 3 (.c (.b false)),gA 4 (.c (.b false))] [0] []) (.sq (rG [gM 7 0,gB 8 .neq 7 (kI 4),gM 9 8,hM 10 0 9 true,hB 11 .lss 10 (kI 7) 9 true,gk 12 9 11 (.c (.b false)),gA 5 12] [0,5] []) (.sq (rG [gM 13 0,gB 14 .geq 13 (kI 2),gM 15 14,hM 16 0 15 true,hB 17 .leq 16 (kI 4) 15 true,gk 18 15 17 (.c (.b false)),gA 6 18] [0,5,6] []) (.sq (rG [gM 19 5,gM 20 6,gM 21 0,gB 22 .neq 21 (kI 2),gM 23 22,hM 24 0 23 true,hB 25 .neq 24 (kI 3) 23 true,gk 26 23 25 (.c (.b false)),gA 2 19,gA 3 20,gA 4 26] [2,3,4] []) .rt)))),[.t 2,.t 3,.t 4]⟩
def ad0:AC:=(.sq (rG [gM 20 0,gp 21 (.nc 20),gF 22 0 21,gF 23 4 22,gQ 24 23,gl 25 24,gA 4 25] [4] []) .rt)
def ad1:AC:=.kp [0] [0] ad0
def Wa:bE:=⟨(.sq (rG [gA 4 (kI 0)] [0,1] [0]) (.sq (.sq (rG [gM 5 1] [0,5] [0]) (.bl 0 (.sq (rG [gB 7 .eql 5 (kI 2),gA 6 7] [0,5,6] [0]) (.ite 6 (.sq (rG [gM 8 0,gp 9 (.nc 8),gF 10 8 9,gQ 11 10,gA 4 11] [4] []) .rt) (.sq (rG [gB 13 .eql 5 (kI 3),gA 12 13] [0,12] [0]) (.ite 12 (.sq (rG [gM 14 0,gp 15 (.nc 14),gF 16 0 15,gF 17 3 16,gQ 18 17,gl 19 18,gA 4 19] [4] []) .rt) .sk)))))) ad1)),[.t 4]⟩
def ad2:bE:=⟨(.sq (rG [gA 4 (.c (.b false))] [0,1] []) (.sq (rG [gM 5 0,gM 6 1,gp 7 (.c2 170 [5,6]),gB 8 .geq 7 (kI 0),gA 4 8] [4] []) .rt)),[.t 4]⟩
def ad3:bE:=⟨(.sq (rG [gp 2 (.bx 0),gA 3 (.c (.b false))] [1,2] [1,2]) (.sq (.dg [] [] [uF 4 3 2,xQ 5 4 [2],un 6 5,uM 7 6,iO 8 0 2 7 true,FG 9 2 8 7 true [2],⟨hQ 10 1 7 true,true,[1],[],true,[],[],[]⟩,gU (gg 11 (.nc 10) 7 true) [10],iO 12 0 11 7 true,iO 13 8 12 7 true,iO 14 0 13 7 true,⟨hQ 15 14 7 true,true,[14],[],true,[],[],[]⟩,iO 16 2 2 7 true,sd 17 16 7 true [2],HT 18 2 15 17 7 true,Xs 19 2 18 7 true,gH (ha 20 43 [9,19] 7 true),gH (hn 21 20 7 true),gH (gk 22 7 21 (.c (.b false))),gH (gA 3 22)] [3] []) .rt)),[.t 3]⟩
def ad4:AC:=(.sq (.sq (rG [gF 23 3 3,gC 24 3 23,ga 25 113 [24]] [2,4,25] [0,2,4]) (.bl 0 (.ru 25 26 (rG [gA 5 26] [2,4,5] [0,2,4]) (.bl 1 (.sq (.dg [] [] [⟨gQ 27 2,true,[2],[],true,[],[],[]⟩,⟨gQ 28 2,true,[2],[],true,[],[],[]⟩,gU (gp 29 (.nc 28)) [28],uF 30 0 29,uF 31 5 30,⟨gQ 32 31,true,[31],[],true,[],[],[]⟩,uM 33 5,ui 34 3 32 33,uF 35 1 34,uF 36 0 35,uQ 37 36,gH (gp 38 (.c2 171 [27,37])),gH (gn 39 38)] [2,4,39] [0,2,4]) (.ite 39 (.sq (rG [gS 1 4 (.c (.b true))] [4] [4]) .rt) .sk)))))) (.sq (rG [gS 1 4 (.c (.b false))] [4] [4]) .rt))
def ad5:AC:=.kp [2,3,4] [0,2,3,4] ad4
def Wb:bE:=⟨(.sq (rG [gp 2 (.bx 0),gp 3 (.bx 1),gp 4 (.al [(.b false)])] [2,3,4] [0,2,3,4]) (.sq (.sq (rG [gF 6 0 3,gQ 7 6,gB 8 .eql 7 (kI 6)] [2,3,4,8] [0,2,3,4]) (.ite 8 (.sq (.dg [] [] [⟨gQ 9 2,true,[2],[2],true,[],[],[]⟩,⟨gQ 10 2,true,[2],[2],true,[],[],[]⟩,gU (gp 11 (.nc 10)) [10],uF 12 0 11,uF 13 5 12,⟨gQ 14 13,true,[13],[],true,[],[],[]⟩,uF 15 1 3,xQ 16 15 [3],ui 17 3 14 16,uF 18 1 17,uF 19 1 18,uQ 20 19,gH (gp 21 (.c2 171 [9,20])),gH (gn 22 21),gH (gS 1 4 22)] [4] [4]) .rt) .sk)) ad5)),[.c 4 none]⟩
def ad6:AC:=(.sq (.sq (rG [gF 20 3 3,gC 21 3 20,ga 22 113 [21]] [2,4,22] [0,2,4]) (.bl 0 (.ru 22 23 (rG [gA 5 23] [2,4,5] [0,2,4]) (.bl 1 (.sq (rG [gQ 24 2,gp 25 (.nc 24),gF 26 0 25,gF 27 5 26,gQ 28 27,gM 29 5,gi 30 3 28 29,gF 31 0 30,gQ 32 31,gn 33 32] [2,4,33] [0,2,4]) (.ite 33 (.sq (rG [gS 1 4 (.c (.b true))] [4] [4]) .rt) .sk)))))) (.sq (rG [gS 1 4 (.c (.b false))] [4] [4]) .rt))
def ad7:AC:=.kp [2,3,4] [0,2,3,4] ad6
def Wd:bE:=⟨(.sq (rG [gp 2 (.bx 0),gp 3 (.bx 1),gp 4 (.al [(.b false)])] [2,3,4] [0,2,3,4]) (.sq (.sq (rG [gF 6 0 3,gQ 7 6,gB 8 .eql 7 (kI 6)] [2,3,4,8] [0,2,3,4]) (.ite 8 (.sq (.dg [] [] [⟨gQ 9 2,true,[2],[2],true,[],[],[]⟩,gU (gp 10 (.nc 9)) [9],uF 11 0 10,uF 12 5 11,⟨gQ 13 12,true,[12],[],true,[],[],[]⟩,uF 14 1 3,xQ 15 14 [3],gH (gi 16 3 13 15),gH (gF 17 0 16),gH (gQ 18 17),gH (gn 19 18),gH (gS 1 4 19)] [4] [4]) .rt) .sk)) ad7)),[.c 4 none]⟩
def ad8:AC:=(.sq (.bl 1 (.sq (rG [gM 12 10,gi 13 1 8 10,gQ 14 13,gA 5 12,gA 6 14] [0,5,6,8,9,10] [0]) (.sq (rG [gM 15 6,gM 16 15,hM 17 0 16 true,hM 18 5 16 true,gg 19 (.c2 172 [17,18]) 16 true,hn 20 19 16 true,gk 21 16 20 (.c (.b false))] [0,8,9,10,21] [0]) (.ite 21 (.sq (rG [gA 4 (.c (.b true))] [4] []) .rt) .sk)))) (rG [gB 22 .add 10 (kI 1),gM 10 22] [0,8,9,10] [0]))
def ad9:AC:=.kp [0,8,9,10] [0] ad8
def aea:AC:=(.sq (rG [gB 11 .lss 10 9] [0,8,9,10,11] [0]) (.sq (.ite 11 .sk (.ex 0)) ad9))
def Up:bb:=⟨[0,8,9,10],[0],aea⟩
def aeb:bE:=⟨(.sq (rG [gp 3 (.bx 1),gA 4 (.c (.b false))] [0,3] [0,3]) (.sq (.sq (rG [gF 7 1 3,gQ 8 7,gl 9 8,gM 10 (kI 0)] [0,8,9,10] [0]) (.bl 0 Up.lp)) (.sq (rG [gA 4 (.c (.b false))] [4] []) .rt))),[.t 4]⟩
def aec:AC:=(.sq (.bl 1 (.sq (rG [gM 10 8,gA 5 10] [0,1,5,7,8] []) (.sq (rG [gM 11 1,gM 12 0,gM 13 5,gi 14 2 12 13,gC 15 2 14,gp 16 (.d2 11 [15])] [0,1,5,7,8,16] []) (.ite 16 (.sq (rG [gM 17 5,gA 4 17] [4] []) .rt) .sk)))) (rG [gB 18 .add 8 (kI 1),gM 8 18] [0,1,7,8] []))
def aed:AC:=.kp [0,1,7,8] [] aec
def aee:AC:=(.sq (rG [gB 9 .lss 8 7] [0,1,7,8,9] []) (.sq (.ite 9 .sk (.ex 0)) aed))
def aef:bb:=⟨[0,1,7,8],[],aee⟩
def aeg:bE:=⟨(.sq (rG [gA 4 (kI 0)] [0,1] []) (.sq (.sq (rG [gM 6 0,gl 7 6,gM 8 (kI 0)] [0,1,7,8] []) (.bl 0 aef.lp)) (.sq (rG [gA 4 (kI (-1))] [4] []) .rt))),[.t 4]⟩
def aeh:bE:=⟨(.sq (rG [gA 3 (.c (.b false))] [0,1] [1]) (.sq (rG [gC 4 2 1,gM 5 0,ga 6 119 [4,5],gn 7 6,gA 3 7] [3] []) .rt)),[.t 3]⟩
def aei:AC:=(.sq (.bl 1 (.sq (rG [gM 10 8,gA 5 10] [0,1,5,7,8] []) (.sq (rG [gM 11 1,gM 12 0,gM 13 5,gi 14 4 12 13,gC 15 4 14,gp 16 (.d2 11 [15])] [0,1,5,7,8,16] []) (.ite 16 (.sq (rG [gM 17 5,gA 4 17] [4] []) .rt) .sk)))) (rG [gB 18 .add 8 (kI 1),gM 8 18] [0,1,7,8] []))
def aej:AC:=.kp [0,1,7,8] [] aei
def FI:AC:=(.sq (rG [gB 9 .lss 8 7] [0,1,7,8,9] []) (.sq (.ite 9 .sk (.ex 0)) aej))
def FJ:bb:=⟨[0,1,7,8],[],FI⟩
def aek:bE:=⟨(.sq (rG [gA 4 (kI 0)] [0,1] []) (.sq (.sq (rG [gM 6 0,gl 7 6,gM 8 (kI 0)] [0,1,7,8] []) (.bl 0 FJ.lp)) (.sq (rG [gA 4 (kI (-1))] [4] []) .rt))),[.t 4]⟩
def ael:bE:=⟨(.sq (rG [gp 2 (.bx 0),gA 4 (.c (.b false))] [1,2] [0,2]) (.sq (rG [gM 5 1,gp 6 (.mf 173 [2]),gp 7 (.c2 107 [5,6]),gn 8 7,gA 4 8] [4] []) .rt)),[.t 4]⟩
def aem:bE:=⟨(.sq (rG [gp 2 (.bx 0),gp 3 (.bx 1),gA 4 (.c (.b false))] [2,3] [0,2,3]) (.sq (.rg [.fzB 3 false] [gQ 5 2,gp 6 (.nc 5),gF 7 0 6,gF 8 2 7,gQ 9 8,gp 10 (.mf 175 [2,3]),gp 11 (.c2 105 [9,10]),gA 4 11] [4] []) .rt)),[.t 4]⟩
def aen:bE:=⟨(.sq (rG [gp 2 (.bx 0),gA 3 (.c (.b false))] [1,2] [1,2]) (.sq (rG [gQ 4 1,gF 5 0 2,gQ 6 5,gp 7 (.c2 174 [4,6]),gn 8 7,gA 3 8] [3] []) .rt)),[.t 3]⟩
def aeo:bE:=⟨(.sq (rG [gp 2 (.bx 0),gp 3 (.bx 1),gA 4 (.c (.b false))] [2,3] [0,2,3]) (.sq (.rg [.fzB 3 false] [gQ 5 2,gp 6 (.nc 5),gF 7 0 6,gF 8 2 7,gQ 9 8,gp 10 (.mf 176 [2,3]),gp 11 (.c2 105 [9,10]),gA 4 11] [4] []) .rt)),[.t 4]⟩
def aep:bE:=⟨(.sq (rG [gA 4 (.c (.b false))] [0,1,2] [1,2]) (.sq (.dg [] [] [⟨gQ 5 1,true,[1],[],true,[],[],[]⟩,gU (gp 6 (.nc 5)) [5],uF 7 8 6,⟨gQ 8 7,true,[7],[],true,[],[],[]⟩,⟨gQ 9 2,true,[2],[],true,[],[],[]⟩,ui 10 1 8 9,uQ 11 10,uM 12 0,gH (gi 13 1 11 12),gH (gQ 14 13),gH (gA 4 14)] [4] []) .rt)),[.t 4]⟩
def aeq:bE:=⟨(.sq (rG [gA 4 (.c (.b false))] [0,1,2] [1,2]) (.sq (.dg [] [] [⟨gQ 5 1,true,[1],[],true,[],[],[]⟩,gU (gp 6 (.nc 5)) [5],uF 7 8 6,⟨gQ 8 7,true,[7],[],true,[],[],[]⟩,uM 9 0,ui 10 1 8 9,uQ 11 10,⟨gQ 12 2,true,[2],[],true,[],[],[]⟩,gH (gi 13 1 11 12),gH (gQ 14 13),gH (gA 4 14)] [4] []) .rt)),[.t 4]⟩
abbrev Ω0:ef:=fun f ys=>match f with
 | 146=>BO ys
 | 141=>vW 4 ys
 | 31=>uo ys
 | 155=>rq 81 ys
 | _=>none
abbrev Ω1:ef:=fun f ys=>match f with
 | 146=>BO ys
 | 141=>vW 4 ys
 | 155=>rq 81 ys
 | _=>none
def G:sb:=fun
 | 5=>some c5
 | 10=>some c10
 | 12=>some c12
 | 13=>some c13
 | 15=>some c15
 | 21=>some c21
 | 28=>some c28
 | 29=>some c29
 | 30=>some c30
 | 32=>some c32
 | 35=>some c35
 | 36=>some c36
 | 37=>some c37
 | 40=>some c40
 | 42=>some Mr
 | 43=>some c43
 | 44=>some c44
 | 45=>some c45
 | 46=>some c46
 | 47=>some c47
 | 48=>some c48
 | 49=>some c49
 | 50=>some c50
 | 51=>some c51
 | 53=>some c53
 | 54=>some c54
 | 55=>some c55
 | 56=>some c56
 | 57=>some c57
 | 58=>some Ms
 | 59=>some Yp
 | 60=>some c60
 | 75=>some c75
 | 76=>some c76
 | 77=>some c77
 | 78=>some c78
 | 79=>some c79
 | 80=>some c80
 | 91=>some c91
 | 92=>some c92
 | 93=>some c93
 | 94=>some c94
 | 95=>some c95
 | 96=>some c96
 | 97=>some c97
 | 98=>some c98
 | 100=>some alG
 | 101=>some alH
 | 102=>some abf
 | 103=>some abj
 | 104=>some abk
 | 105=>some abl
 | 106=>some abm
 | 107=>some abn
 | 108=>some V6
 | 109=>some abr
 | 110=>some abv
 | 111=>some abB
 | 112=>some abH
 | 113=>some alI
 | 114=>some abZ
 | 115=>some ab0
 | 116=>some ab9
 | 117=>some V7
 | 118=>some V8
 | 119=>some acd
 | 122=>some ace
 | 123=>some ach
 | 124=>some acm
 | 125=>some acw
 | 126=>some acA
 | 127=>some acE
 | 128=>some acF
 | 129=>some acP
 | 131=>some alJ
 | 132=>some acQ
 | 133=>some ac1
 | 134=>some ac2
 | 135=>some ac3
 | 136=>some ac4
 | 137=>some ac8
 | 138=>some ac9
 | 139=>some ada
 | 140=>some V9
 | 142=>some alK
 | 143=>some adr
 | 144=>some adv
 | 145=>some adz
 | 148=>some adA
 | 149=>some adB
 | 150=>some adD
 | 151=>some adH
 | 152=>some adI
 | 153=>some adJ
 | 154=>some adP
 | 156=>some adU
 | 157=>some adY
 | 158=>some adZ
 | 159=>some Wa
 | 161=>some ad2
 | 162=>some ad3
 | 163=>some Wb
 | 164=>some Wd
 | 165=>some aeb
 | 166=>some aeg
 | 167=>some aeh
 | 170=>some aek
 | 171=>some ael
 | 172=>some aem
 | 173=>some aen
 | 174=>some aeo
 | 175=>some aep
 | 176=>some aeq
 | _=>none
theorem G5:G 5=some c5:=rfl
theorem G10:G 10=some c10:=rfl
theorem G12:G 12=some c12:=rfl
theorem G13:G 13=some c13:=rfl
theorem G15:G 15=some c15:=rfl
theorem G21:G 21=some c21:=rfl
theorem G28:G 28=some c28:=rfl
theorem G29:G 29=some c29:=rfl
theorem G30:G 30=some c30:=rfl
theorem G32:G 32=some c32:=rfl
theorem G36:G 36=some c36:=rfl
theorem G37:G 37=some c37:=rfl
theorem G40:G 40=some c40:=rfl
theorem Rj:G 42=some Mr:=rfl
theorem G43:G 43=some c43:=rfl
theorem G44:G 44=some c44:=rfl
theorem G45:G 45=some c45:=rfl
theorem G46:G 46=some c46:=rfl
theorem G47:G 47=some c47:=rfl
theorem G48:G 48=some c48:=rfl
theorem G49:G 49=some c49:=rfl
theorem G50:G 50=some c50:=rfl
theorem G51:G 51=some c51:=rfl
theorem G53:G 53=some c53:=rfl
theorem G54:G 54=some c54:=rfl
theorem G55:G 55=some c55:=rfl
theorem G56:G 56=some c56:=rfl
theorem G57:G 57=some c57:=rfl
theorem Rk:G 58=some Ms:=rfl
theorem G59:G 59=some Yp:=rfl
theorem G60:G 60=some c60:=rfl
theorem G75:G 75=some c75:=rfl
theorem G76:G 76=some c76:=rfl
theorem G77:G 77=some c77:=rfl
theorem G78:G 78=some c78:=rfl
theorem G79:G 79=some c79:=rfl
theorem G80:G 80=some c80:=rfl
theorem G92:G 92=some c92:=rfl
theorem G93:G 93=some c93:=rfl
theorem G94:G 94=some c94:=rfl
theorem G95:G 95=some c95:=rfl
theorem G96:G 96=some c96:=rfl
theorem G97:G 97=some c97:=rfl
theorem G98:G 98=some c98:=rfl
theorem alL:G 102=some abf:=rfl
theorem alM:G 103=some abj:=rfl
theorem alN:G 104=some abk:=rfl
theorem Oh:G 105=some abl:=rfl
theorem alO:G 106=some abm:=rfl
theorem aer:G 107=some abn:=rfl
theorem alP:G 108=some V6:=rfl
theorem alQ:G 109=some abr:=rfl
theorem alR:G 110=some abv:=rfl
theorem alS:G 111=some abB:=rfl
theorem alT:G 112=some abH:=rfl
theorem alU:G 114=some abZ:=rfl
theorem alV:G 115=some ab0:=rfl
theorem alW:G 116=some ab9:=rfl
theorem alX:G 117=some V7:=rfl
theorem alY:G 118=some V8:=rfl
theorem alZ:G 119=some acd:=rfl
theorem al0:G 122=some ace:=rfl
theorem Ij:G 123=some ach:=rfl
theorem al1:G 124=some acm:=rfl
theorem al2:G 125=some acw:=rfl
theorem al3:G 126=some acA:=rfl
theorem al4:G 127=some acE:=rfl
theorem al5:G 128=some acF:=rfl
theorem al6:G 129=some acP:=rfl
theorem al7:G 132=some acQ:=rfl
theorem al8:G 133=some ac1:=rfl
theorem al9:G 134=some ac2:=rfl
theorem ama:G 135=some ac3:=rfl
theorem amb:G 136=some ac4:=rfl
theorem aes:G 137=some ac8:=rfl
theorem amc:G 138=some ac9:=rfl
theorem amd:G 139=some ada:=rfl
theorem ame:G 140=some V9:=rfl
theorem Oi:G 143=some adr:=rfl
theorem aet:G 144=some adv:=rfl
theorem amf:G 145=some adz:=rfl
theorem aeu:G 148=some adA:=rfl
theorem amg:G 149=some adB:=rfl
theorem aev:G 150=some adD:=rfl
theorem amh:G 151=some adH:=rfl
theorem ami:G 152=some adI:=rfl
theorem amj:G 153=some adJ:=rfl
theorem amk:G 154=some adP:=rfl
theorem aml:G 156=some adU:=rfl
theorem amm:G 157=some adY:=rfl
theorem amn:G 158=some adZ:=rfl
theorem amo:G 159=some Wa:=rfl
theorem amp:G 161=some ad2:=rfl
theorem aew:G 162=some ad3:=rfl
theorem amq:G 163=some Wb:=rfl
theorem amr:G 164=some Wd:=rfl
theorem ams:G 165=some aeb:=rfl
theorem amt:G 166=some aeg:=rfl
theorem amu:G 167=some aeh:=rfl
theorem aex:G 170=some aek:=rfl
theorem amv:G 171=some ael:=rfl
theorem amw:G 172=some aem:=rfl
theorem amx:G 173=some aen:=rfl
theorem amy:G 174=some aeo:=rfl
theorem amz:G 175=some aep:=rfl
theorem amA:G 176=some aeq:=rfl
end Go.Proofs.YtkkkkondjclcnaaGreat.A
