/- The abstract code of the functions, made by program. -/
import Derived.Test.YtlmphbbhaeampaaGreatAbsO
set_option linter.all false
set_option maxRecDepth 100000
namespace Go.Proofs.YtlmphbbhaeampaaGreat.A
open Go
abbrev gp(d:Nat)(x:pC):dx:=⟨some d,x,none,false⟩
abbrev gg(d:Nat)(x:pC)(j:Nat)(b:Bool):dx:=⟨some d,x,some (j,b),false⟩
abbrev gz(d:Nat)(x:pC):dx:=⟨some d,x,none,true⟩
abbrev gS(n:Nat)(x y:bz):dx:=⟨none,.st n x y,none,false⟩
abbrev gM(d:Nat)(x:bz):dx:=gp d (.mv x)
abbrev gQ(d:Nat)(x:bz):dx:=gp d (.ld none x)
abbrev gF(d n:Nat)(x:bz):dx:=gp d (.fa n x)
abbrev gA(d:Nat)(x:bz):dx:=gp d (.as x)
abbrev gB(d:Nat)(o:BinOp)(x y:bz):dx:=gp d (.bo o false x y)
abbrev gL(g:dx)(vw nk:List Nat):bR:=⟨g,true,vw,[],false,[],nk,[]⟩
abbrev gV(g:dx)(vw vb nk:List Nat):bR:=⟨g,true,vw,vb,false,[],nk,[]⟩
abbrev gH(g:dx):bR:=⟨g,false,[],[],false,[],[],[]⟩
abbrev gU(g:dx)(vw:List Nat):bR:=gL g vw []
abbrev gX(g:dx)(vw vb:List Nat):bR:=gV g vw vb []
abbrev gC(d:Nat)(n:Nat)(x:bz):dx:=gp d (.ld (some n) x)
abbrev hC(d:Nat)(n:Nat)(x:bz)(j:Nat)(b:Bool):dx:=gg d (.ld (some n) x) j b
abbrev ga(d:Nat)(f:Nat)(xs:List bz):dx:=gp d (.ca 0 f xs)
abbrev ha(d:Nat)(f:Nat)(xs:List bz)(j:Nat)(b:Bool):dx:=gg d (.ca 0 f xs) j b
abbrev gl(d:Nat)(x:bz):dx:=gp d (.ln false x)
abbrev hl(d:Nat)(x:bz)(j:Nat)(b:Bool):dx:=gg d (.ln false x) j b
abbrev gi(d:Nat)(n:Nat)(x y:bz):dx:=gp d (.ia n none x y)
abbrev hi(d:Nat)(n:Nat)(x y:bz)(j:Nat)(b:Bool):dx:=gg d (.ia n none x y) j b
abbrev gn(d:Nat)(x:bz):dx:=gp d (.no x)
abbrev hn(d:Nat)(x:bz)(j:Nat)(b:Bool):dx:=gg d (.no x) j b
abbrev gk(d:Nat)(x y z:bz):dx:=gp d (.pk x y z)
abbrev hk(d:Nat)(x y z:bz)(j:Nat)(b:Bool):dx:=gg d (.pk x y z) j b
abbrev ge(d:Nat)(x:bz)(i:Nat):dx:=gp d (.ex x i)
abbrev he(d:Nat)(x:bz)(i:Nat)(j:Nat)(b:Bool):dx:=gg d (.ex x i) j b
abbrev hM(d:Nat)(x:bz)(j:Nat)(b:Bool):dx:=gg d (.mv x) j b
abbrev hQ(d:Nat)(x:bz)(j:Nat)(b:Bool):dx:=gg d (.ld none x) j b
abbrev hF(d:Nat)(n:Nat)(x:bz)(j:Nat)(b:Bool):dx:=gg d (.fa n x) j b
abbrev hB(d:Nat)(o:BinOp)(x y:bz)(j:Nat)(b:Bool):dx:=gg d (.bo o false x y) j b
abbrev rG:=AC.rg []
instance (n:Nat):OfNat bz n:=⟨.t n⟩
abbrev kI(n:Int):bz:=.c (.i .i64 n)
abbrev uC(d n x:Nat):bR:=gU (gC d n (.t x)) [x]
abbrev uF(d n x:Nat):bR:=gU (gF d n (.t x)) [x]
abbrev uM(d x:Nat):bR:=gU (gM d (.t x)) [x]
abbrev uQ(d x:Nat):bR:=gU (gQ d (.t x)) [x]
abbrev uhC(d n x j:Nat)(b:Bool):bR:=gU (hC d n (.t x) j b) [x]
abbrev qK(d n x j:Nat)(b:Bool):bR:=gU (hF d n (.t x) j b) [x]
abbrev kN(d x j:Nat)(b:Bool):bR:=gU (hM d (.t x) j b) [x]
abbrev Lt(d x j:Nat)(b:Bool):bR:=gU (hQ d (.t x) j b) [x]
abbrev G0(d n x y j:Nat)(b:Bool):bR:=gU (hi d n (.t x) (.t y) j b) [x,y]
abbrev uhl(d x j:Nat)(b:Bool):bR:=gU (hl d (.t x) j b) [x]
abbrev ui(d n x y:Nat):bR:=gU (gi d n (.t x) (.t y)) [x,y]
abbrev ul(d x:Nat):bR:=gU (gl d (.t x)) [x]
abbrev un(d x:Nat):bR:=gU (gn d (.t x)) [x]
abbrev vC(d n x:Nat)(nb:List Nat):bR:=gL (gC d n (.t x)) [x] nb
abbrev vF(d n x:Nat)(nb:List Nat):bR:=gL (gF d n (.t x)) [x] nb
abbrev vM(d x:Nat)(nb:List Nat):bR:=gL (gM d (.t x)) [x] nb
abbrev vi(d n x y:Nat)(nb:List Nat):bR:=gL (gi d n (.t x) (.t y)) [x,y] nb
abbrev xC(d n x:Nat)(vb:List Nat):bR:=gX (gC d n (.t x)) [x] vb
abbrev xQ(d x:Nat)(vb:List Nat):bR:=gX (gQ d (.t x)) [x] vb
abbrev Ot(d n x j:Nat)(b:Bool)(vb:List Nat):bR:=gX (hC d n (.t x) j b) [x] vb
abbrev JQ(d x j:Nat)(b:Bool)(vb:List Nat):bR:=gX (hQ d (.t x) j b) [x] vb
abbrev xhl(d x j:Nat)(b:Bool)(vb:List Nat):bR:=gX (hl d (.t x) j b) [x] vb
abbrev xi(d n x y:Nat)(vb:List Nat):bR:=gX (gi d n (.t x) (.t y)) [x,y] vb
abbrev xl(d x:Nat)(vb:List Nat):bR:=gX (gl d (.t x)) [x] vb
abbrev yC(d n x:Nat)(vb nb:List Nat):bR:=gV (gC d n (.t x)) [x] vb nb
abbrev yQ(d x:Nat)(vb nb:List Nat):bR:=gV (gQ d (.t x)) [x] vb nb
abbrev yi(d n x y:Nat)(vb nb:List Nat):bR:=gV (gi d n (.t x) (.t y)) [x,y] vb nb
abbrev ZcB:List Nat:=[1,2,3,7]
abbrev ZcA:List Nat:=[1,2,9,10,11]
abbrev Zcz:List Nat:=[1,4,9,10,11]
abbrev Zcx:List Nat:=[1,3,5,6,11,12,29]
abbrev Zcw:List Nat:=[2,3,7,8,9]
abbrev Zcv:List Nat:=[1,3,11,12]
abbrev Zcr:AC:=rG [gA 4 (.c (.l 4 []))] [0,1] []
abbrev Zcq:List Nat:=[0,3,13,14,15]
abbrev Zcp:AC:=.sq (rG [gA 2 (kI 5)] [2] []) .rt
abbrev Zco:AC:=.sq (rG [gA 2 (kI 1)] [2] []) .rt
abbrev Zcn:List Nat:=[1,4,20,21,22]
abbrev Zcl:AV:=.b false
abbrev Zck:AC:=rG [gM 10 8,gA 5 10] [0,1,5,7,8] []
abbrev Zcj:List Nat:=[0,2,5,9,10]
abbrev Zci:List Nat:=[6,25,26,27]
abbrev Zch:List Nat:=[0,11,12,13]
abbrev Zcg:List Nat:=[0,5,8,9,10]
abbrev Zcf:List Nat:=[0,171,172,173]
abbrev Zce:bz:=.c (.l 25 [])
abbrev Zca:List Nat:=[4,5,6,11,12,16,17,18]
abbrev ZbY:List Nat:=[0,5,6,22,23,24]
abbrev ZbX:AC:=.sq (rG [gM 26 5,gA 4 26] [4,5] []) .rt
abbrev ZbW:AC:=rG [gB 11 .lss 10 9] [1,5,8,9,10,11] []
abbrev ZbV:List Nat:=[2,3,4,5,6]
abbrev ZbU:AC:=.sq (rG [gM 22 5,gA 4 22] [4,5] []) .rt
abbrev ZbT:List Nat:=[0,5,9,10,11]
abbrev ZbS:List Nat:=[0,3,9,10,11]
abbrev ZbR:List Nat:=[1,5,9,10,11]
abbrev ZbQ:List Nat:=[1,2,3,7,8,9]
abbrev ZbP:List Nat:=[1,2,3,35,36]
abbrev ZbO:List Nat:=[0,2,9,10,11]
abbrev ZbM:List Nat:=[0,3,4,5]
abbrev ZbL:List Nat:=[4,5,6,11]
abbrev ZbJ:AC:=rG [gp 3 (.bx 1),gA 4 (kI 0)] [0,3] [0,3]
abbrev ZbI:AC:=rG [gp 3 (.bx 0),gA 6 (.c .z)] [1,2,3] [3]
abbrev ZbH:List Nat:=[0,4,36,37,38]
abbrev ZbG:List Nat:=[0,6,47,48,49]
abbrev ZbF:List Nat:=[7,8,33,34,35]
abbrev ZbE:List AV:=[(.l 155 []),(.l 155 [])]
abbrev ZbD:List Nat:=[1,2,3,4,20,21,22]
abbrev ZbC:List Nat:=[1,2,3,4]
abbrev ZbB:AV:=.l 91 []
abbrev ZbA:AV:=.l 86 []
abbrev Zbz:List Nat:=[25,30,32]
abbrev Zbx:AC:=.ite 16 (.sq (rG [gM 17 5,gA 4 17] [4] []) .rt) .sk
abbrev Zbw:List Nat:=[1,3,5,6,7,11,12,29]
abbrev Zbv:AV:=.l 3 []
abbrev Zbu:List Nat:=[0,3,4,10,11,12]
abbrev Zbt:List Nat:=[1,2,3,10,11,12]
abbrev Zbs:List Nat:=[11,12,31,32,33]
abbrev Zbr:bz:=.c (.l 128 [])
abbrev Zbq:AC:=rG [gM 15 5,gB 16 .add 15 (kI 1),gA 5 16] [0,1,5] []
abbrev Zbp:AV:=.l 79 []
abbrev Zbo:List Nat:=[2,14,15,16,23,24,25]
abbrev Zbn:AC:=.ite 13 .sk (.ex 0)
abbrev Zbm:AC:=.ite 11 .sk (.ex 0)
abbrev Zbl:AC:=.ite 19 .sk (.ex 0)
abbrev Zbk:AV:=.l 113 []
abbrev Zbj:List Nat:=[3,6,10,25,37,38]
abbrev Zbi:AC:=rG [gp 3 (.bx 1)] [0,3] [0,3]
abbrev Zbg:AC:=rG [gF 6 0 3,gQ 7 6,gB 8 .eql 7 (kI 6)] [2,3,4,8] [0,2,3,4]
abbrev Zbf:List Nat:=[0,3,4,5,8]
abbrev Zbe:List Nat:=[2,3,4,5]
abbrev Zbd:List Nat:=[4,5,6,16,17,18]
abbrev Zbc:AC:=.sq (rG [gA 4 (kI 1)] [4] []) .rt
abbrev Zbb:List Nat:=[1,2,3,7,8,50]
abbrev Zba:AC:=.sq (rG [gA 2 (kI 0)] [2] []) .rt
abbrev ZaZ:AC:=.sq (rG [gA 4 (kI 7)] [4] []) .rt
abbrev ZaY:AC:=.sq (rG [gA 2 (kI 2)] [2] []) .rt
abbrev ZaX:List Nat:=[4,5,7,8,9,37,38,39]
abbrev ZaW:List Nat:=[1,2,3,4,5,11,12]
abbrev ZaV:AC:=rG [gM 12 10,gi 13 1 8 10,gQ 14 13,gA 6 12,gA 7 14] [1,5,6,7,8,9,10] []
abbrev ZaU:List AV:=[(.l 4 []),(.l 4 [])]
abbrev ZaT:List Nat:=[6,10,11,25,75,76,77]
abbrev ZaS:AC:=rG [gp 2 (.bx 0),gp 3 (.bx 1),gp 4 (.al [Zcl])] [2,3,4] [0,2,3,4]
abbrev ZaR:AC:=rG [gp 1 (.bx 0),gA 2 (kI 0)] [1] [1]
abbrev ZaQ:List Nat:=[0,1,7,8]
abbrev ZbZ:AC:=rG [gB 18 .add 8 (kI 1),gM 8 18] ZaQ []
abbrev ZaO:List Nat:=[3,6,25,32,34]
abbrev ZaN:List Nat:=[1,5,8,9,10]
abbrev ZbK:AC:=rG [gB 25 .add 10 (kI 1),gM 10 25] ZaN []
abbrev Zby:AC:=.rg [.own 5 4] [gM 8 0,gl 9 8,gM 10 (kI 0)] ZaN []
abbrev ZaK:AC:=.ite 9 .sk (.ex 0)
abbrev ZaJ:List Nat:=[6,25,32,34]
abbrev ZaH:AC:=.sq (rG [gM 11 5,gM 12 0,gl 13 12,gB 14 .lss 11 13] [0,1,5,14] []) (.ite 14 .sk (.ex 0))
abbrev ZaG:AV:=.l 111 []
abbrev ZaF:AC:=.sq (rG [gA 4 (kI 2)] [4] []) .rt
abbrev ZaE:List Nat:=[1,3,5,6,7,11,12,29,42,43,44]
abbrev ZaD:AV:=.l 83 []
abbrev ZaC:AC:=rG [gp 2 (.bx 0),gp 3 (.bx 1),gA 4 (kI 0)] [2,3] [2,3]
abbrev ZaB:AC:=.ite 12 .sk (.ex 0)
abbrev Zay:List AV:=[Zcl,(.l 155 []),(.l 155 [])]
abbrev Zaw:AC:=rG [gA 4 (kI 0)] [0,1] []
abbrev Zav:AC:=rG [gB 9 .lss 8 7] [0,1,7,8,9] []
abbrev Zar:List Nat:=[1,2,3,7,8,50,1113000,1113001]
abbrev Zaq:AC:=rG [gp 2 (.bx 0),gA 4 (kI 0)] [1,2] [2]
abbrev Zap:AC:=.sq (rG [gA 4 (kI 0)] [4] []) .rt
abbrev Zao:AC:=.sq (rG [gA 4 (kI 5)] [4] []) .rt
abbrev Zal:AC:=.sq (rG [gA 4 (kI (-1))] [4] []) .rt
abbrev Zak:AC:=rG [gM 6 0,gl 7 6,gM 8 (kI 0)] ZaQ []
abbrev Zag:AC:=.sq (.bl 1 (.sq Zck (.sq (rG [gM 11 1,gM 12 0,gM 13 5,gi 14 1 12 13,gQ 15 14,gp 16 (.d2 11 [15])] [0,1,5,7,8,16] []) Zbx))) ZbZ
abbrev Zaf:AC:=.sq (.bl 1 (.sq Zck (.sq (rG [gM 11 1,gM 12 0,gM 13 5,gi 14 2 12 13,gC 15 2 14,gp 16 (.d2 11 [15])] [0,1,5,7,8,16] []) Zbx))) ZbZ
abbrev Zae:List Nat:=[1,2,3,1113000,1113001]
abbrev Zad:pC:=.al ZaU
abbrev Zcb:AC:=rG [gp 1 (.bx 0),gp 2 Zad] [1,2] [1,2]
abbrev ZaA:AC:=rG [gp 2 (.bx 0),gp 3 (.bx 1),gp 4 Zad] [2,3,4] [2,3,4]
abbrev Zac:bz:=.c (.b true)
abbrev Zcu:AC:=.sq (rG [gA 10 Zac] [10] []) .rt
abbrev Zcs:AC:=.sq (rG [gS 1 4 Zac] [4] [4]) .rt
abbrev ZaI:AC:=.sq (rG [gA 4 Zac] [4] []) .rt
abbrev Zat:AC:=.sq (rG [gA 6 Zac] [6] []) .rt
abbrev Zab:AV:=.i .i64 0
abbrev Zaz:pC:=.al [Zab,Zab,(.l 89 [])]
abbrev Zax:pC:=.al [Zab,Zab,Zab,Zab,Zab,(.l 89 []),(.l 89 []),ZaG,ZaG]
abbrev Zaj:List AV:=[(.l 128 []),Zbv,Zbv,Zab,Zab,Zab]
abbrev Zai:pC:=.al [Zbv,ZaG,Zab,Zab,(.l 89 [])]
abbrev Zah:List AV:=[(.l 4 []),(.l 4 []),Zab,Zcl]
abbrev Zaa:bz:=.c Zcl
abbrev Zcy:AC:=.sq (rG [gA 2 Zaa] [2] []) .rt
abbrev Zct:AC:=.sq (rG [gS 1 4 Zaa] [4] [4]) .rt
abbrev Zcm:AC:=rG [gp 1 (.bx 0),gA 2 Zaa] [1] [1]
abbrev Zcd:AC:=rG [gp 2 (.bx 0),gA 4 Zaa] [1,2] [2]
abbrev Zcc:AC:=rG [gp 2 (.bx 0),gA 3 Zaa] [1,2] [1,2]
abbrev ZbN:AC:=rG [gp 5 (.bx 2),gA 6 Zaa] [0,1,5] [0,5]
abbrev Zbh:AC:=rG [gA 2 Zaa] [0] []
abbrev ZaP:AC:=rG [gp 3 (.bx 0),gA 6 Zaa] [1,2,3] [3]
abbrev ZaM:AC:=rG [gp 4 (.bx 1),gA 6 Zaa] [0,2,4] [0,4]
abbrev Zau:AC:=rG [gA 4 Zaa] [0,1] []
abbrev Zas:AC:=rG [gp 3 (.bx 1),gA 4 Zaa] [0,3] [0,3]
abbrev Zan:AC:=.sq (rG [gA 6 Zaa] [6] []) .rt
abbrev Zam:AC:=.sq (rG [gA 4 Zaa] [4] []) .rt
abbrev ZaL:AC:=.sq (rG [gM 6 0,gl 7 6,gM 8 1,gl 9 8,gB 10 .neq 7 9] [0,1,10] []) (.ite 10 Zam .sk)
def agy:AC:=(.sq (rG [gC 57 8 5,gM 58 1,gF 59 0 11,gQ 60 59,ga 61 31 [57,58,Zaa,60],gM 56 61,ge 62 56 0,ge 63 56 1,gA 16 62,gA 13 63] [1,5,13,14,16] [5,14]) (.sq (rG [gC 65 8 5,gM 66 1,gF 67 0 14,gQ 68 67,ga 69 31 [65,66,Zaa,68],gM 64 69,ge 70 64 0,ge 71 64 1,gA 17 70,gA 18 71] [13,16,17,18] []) (.sq (rG [gM 72 13,gB 73 .eql 72 (kI 0),gM 74 73,hM 75 18 74 true,hB 76 .eql 75 (kI 0) 74 true,gk 77 74 76 Zaa,gM 78 77,hM 79 16 78 true,hM 80 17 78 true,ha 81 32 [79,80,(kI 2),Zaa] 78 true,gk 82 78 81 Zaa,gA 10 82] [10] []) .rt)))
def agz:AC:=.kp [1,5,11,14] [5,11,14] agy
def agA:AC:=(.sq (.dg [] [14] [yC 43 8 5 [5] [14],yC 44 8 5 [5] [14],vM 45 1 [14],vM 46 2 [14],vM 47 3 [14],gL (ga 48 30 [44,45,Zaa,46,47]) [44,45,46,47] [14],vM 49 4 [14],gL (ga 50 21 [43,48,49]) [43,48,49] [14],vM 42 50 [14],gL (ge 51 42 0) [42] [14],gL (ge 52 42 1) [42] [14],gL (ge 53 42 2) [42] [14],gU (gp 14 (.al Zaj)) [],gX (gS 6 14 51) [14,51] [14],gU (gA 15 52) [52],gH (gA 13 53)] [1,5,11,13,14] [5,11,14]) (.sq (.sq (rG [gM 54 13,gB 55 .neq 54 (kI 0)] [1,5,11,14,55] [5,11,14]) (.ite 55 Zcu .sk)) agz))
def agB:AC:=.kp [1,2,3,4,5,11] [5,11] agA
def agC:AC:=(.sq (rG [gC 26 8 5,gM 27 2,gM 28 4,ga 29 21 [26,27,28],gM 25 29,ge 30 25 0,ge 31 25 1,ge 32 25 2,gp 11 (.al Zaj),gS 6 11 30,gA 12 31,gA 13 32] [1,2,3,4,5,11,13] [5,11]) (.sq (.sq (rG [gM 33 13,gB 34 .neq 33 (kI 0),gM 35 34,hF 36 0 5 35 false,hC 37 2 36 35 false,hM 38 1 35 false,ha 39 29 [37,38] 35 false,hn 40 39 35 false,gp 41 (.pk 35 Zac 40)] [1,2,3,4,5,11,41] [5,11]) (.ite 41 Zcu .sk)) agB))
def agD:AC:=.kp [1,2,3,4,5] [5] agC
def c7:bL:=⟨(.sq (rG [gp 5 (.bx 0),gA 10 Zaa] [1,2,3,4,5] [5]) (.sq (.sq (rG [ga 19 23 [],gn 20 19,gM 21 20,ha 22 28 [] 21 false,hn 23 22 21 false,gp 24 (.pk 21 Zac 23)] [1,2,3,4,5,24] [5]) (.ite 24 (.sq (rG [gA 10 Zaa] [10] []) .rt) .sk)) agD)),[.t 10]⟩
def adW:AC:=(.sq (.bl 1 (.sq (.dg [] [] [uM 17 0,uM 18 5,ui 19 1 17 18,uQ 20 19,uM 21 1,uM 22 5,ui 23 1 21 22,uQ 24 23,gH (gp 25 (.bo .neq true 20 24))] [0,1,5,25] []) (.ite 25 Zam .sk))) Zbq)
def adX:AC:=.kp [0,1,5] [] adW
def adY:AC:=(.sq ZaH adX)
def adZ:bX:=⟨[0,1,5],[],adY⟩
def ad0:AC:=(.sq (.sq (rG [gA 5 (kI 0)] [0,1,5] []) (.bl 0 adZ.lp)) ZaI)
def ad1:AC:=.kp [0,1] [] ad0
def c14:bL:=⟨(.sq Zau (.sq ZaL ad1)),[.t 4]⟩
def ad2:AC:=(.sq (.bl 1 (.dg [] [48,49] [vM 40 10 [48,49],vM 41 10 [48,49],gL (gp 42 (.nc 41)) [41] [48,49],vF 43 9 42 [48,49],yQ 44 43 [25,32,34] [48,49],vF 45 0 3 [48,49],yC 46 2 45 [3] [48,49],gL (ga 47 66 [46]) [46] [48,49],gL (gz 48 (.bs 113 2 [47])) [47] [49],⟨gp 49 (.ap 113 2 48 44 48),true,[44,48],[34],false,[44,44],[],[]⟩,gH (gp 50 (.nc 40)),gH (gF 51 9 50),gH (gS 1 51 49)] Zbj ZaO)) (rG [gB 52 .add 38 (kI 1),gM 38 52] Zbj ZaO))
def ad3:AC:=.kp Zbj ZaO ad2
def ad4:AC:=(.sq (rG [gB 39 .lss 38 37] [3,6,10,25,37,38,39] ZaO) (.sq (.ite 39 .sk (.ex 0)) ad3))
def UX:bX:=⟨Zbj,ZaO,ad4⟩
def ad5:AC:=(.sq (.bl 3 (.sq (rG [gi 79 2 75 77,gC 80 2 79,gp 13 Zad,gS 2 13 80] [6,10,11,13,25,75,76,77] [6,13,25,32,34]) (rG [gM 81 11,gC 82 2 13,ga 83 70 [82],gz 84 (.bs 113 2 [83]),gp 85 (.ap 113 2 48 81 84),gA 11 85] ZaT ZaJ))) (rG [gB 86 .add 77 (kI 1),gM 77 86] ZaT ZaJ))
def ad6:AC:=.kp ZaT ZaJ ad5
def ad7:AC:=(.sq (rG [gB 78 .lss 77 76] [6,10,11,25,75,76,77,78] ZaJ) (.sq (.ite 78 .sk (.ex 2)) ad6))
def UY:bX:=⟨ZaT,ZaJ,ad7⟩
def ad8:AC:=(.sq (.rg [.fzC 25 11,.fzC 25 12,.fzC 25 13] [gM 87 10,gp 88 (.nc 87),gF 89 0 88,gQ 90 89,gp 91 (.nc 90),gF 92 11 91,gC 93 6 92,gM 94 11,gS 6 6 93,gA 7 94,gA 8 (kI 0)] [6,7,8,11] [6]) .rt)
def ad9:AC:=.kp [6,10,11,25] ZaJ ad8
def UZ:AC:=(.sq (rG [gA 11 (.c .n)] [6,10,11,25] ZaJ) (.sq (.sq (.rg [.own 11 113] [gM 72 10,gp 73 (.nc 72),gF 74 9 73,gQ 75 74,gl 76 75,gM 77 (kI 0)] ZaT ZaJ) (.bl 2 UY.lp)) ad9))
def aea:AC:=.kp [6,10,25] ZaJ UZ
def aeb:AC:=(.sq (.sq (.dg [] [] [uM 53 10,uF 54 7 3,xQ 55 54 [3],uM 56 10,gU (gp 57 (.nc 56)) [56],uF 58 0 57,xQ 59 58 [25,32,34],uF 60 6 3,xQ 61 60 [3],xl 62 61 [3],⟨gp 63 (.c3 69 [59,62]),true,[59,62],[25,32,34],true,[],[],[]⟩,gH (gp 64 (.c2 68 [53,55,63]))] [6,10,25,64] ZaJ) (.ite 64 (rG [gM 65 10,gp 66 (.nc 65),gF 67 0 66,gQ 68 67,gp 69 (.nc 68),gF 70 11 69,gF 71 4 70,gS 1 71 (kI 1)] [6,10,25] ZaJ) .sk)) aea)
def aec:AC:=.kp [3,6,10,25] ZaO aeb
def aed:AC:=(.sq (.dg [] Zbz [yC 22 8 3 [3] Zbz,vM 23 1 Zbz,vM 24 2 Zbz,gL (gp 25 (.ck 64 [22,23,24])) [22,23,24] [30,32],yC 26 8 3 [3] Zbz,vF 27 0 3 Zbz,yC 28 2 27 [3] Zbz,gL (ga 29 66 [28]) [28] [30,32],gL (gp 30 (.bs 113 2 [29])) [29] [32],yC 31 8 3 [3] Zbz,gL (gp 32 (.ck 67 [31])) [31] [30],gH (gp 33 (.bg [.z,Zab,Zbp,Zbv,ZaD,ZaD,ZbA,ZbB,ZaG,.n,.n,.z] [(0,1,25),(1,8,26),(10,1,30),(11,1,32)])),gH (gp 34 (.bxg 33)),gH (gA 10 34)] [3,6,10,25] ZaO) (.sq (.sq (.rg [.ownC 10 9 113,.ownC 10 10 113] [gF 35 5 3,gQ 36 35,gl 37 36,gM 38 (kI 0)] Zbj ZaO) (.bl 0 UX.lp)) aec))
def aee:AC:=.kp [1,2,3,6] [3,6] aed
def c21:bL:=⟨(.sq (rG [gp 3 (.bx 0),gp 6 (.al Zaj),gA 7 (.c Zbk),gA 8 (kI 0)] [1,2,3,6] [3,6]) (.sq (.sq (rG [gC 14 8 3,gM 15 1,gM 16 2,ga 17 63 [14,15,16],gA 9 17] [1,2,3,6,9] [3,6]) (.sq (rG [gM 18 9,gB 19 .neq 18 (kI 0)] [1,2,3,6,9,19] [3,6]) (.ite 19 (.sq (rG [gp 20 (.bd Zaj []),gM 21 9,gS 6 6 20,gA 7 (.c Zbk),gA 8 21] [6,7,8,11] [6]) .rt) .sk))) aee)),[.c 6 (some 6),.t 7,.t 8]⟩
def c23:bL:=⟨(.sq (rG [gA 0 Zaa] [] []) (.sq (rG [ga 8 56 [],gz 9 (.bs 3 1 [(kI 7)]),gz 10 (.bs 25 1 [9]),ga 11 21 [8,10,(kI 9)],gM 7 11,ge 12 7 0,ge 13 7 1,ge 14 7 2,gp 1 (.al Zaj),gS 6 1 12,gA 2 13,gA 3 14] [1,2,3] [1]) (.sq (rG [gp 16 (.ca 1 75 []),gz 17 (.bs 3 1 [(kI 7)]),gz 18 (.bs 25 1 [17]),ga 19 21 [16,18,(kI 9)],gM 15 19,ge 20 15 0,ge 21 15 1,ge 22 15 2,gp 4 (.al Zaj),gS 6 4 20,gA 5 21,gA 6 22] [1,2,3,4,6] [1,4]) (.sq (rG [gM 23 3,gB 24 .eql 23 (kI 0),gM 25 24,hM 26 6 25 true,hB 27 .eql 26 (kI 0) 25 true,gk 28 25 27 Zaa,gM 29 28,hF 30 4 1 29 true,hQ 31 30 29 true,hB 32 .eql 31 (kI 1) 29 true,gk 33 29 32 Zaa,gM 34 33,hF 35 0 1 34 true,hQ 36 35 34 true,hl 37 36 34 true,hB 38 .eql 37 (kI 1) 34 true,gk 39 34 38 Zaa,gM 40 39,hM 41 2 40 true,hl 42 41 40 true,hB 43 .eql 42 (kI 1) 40 true,gk 44 40 43 Zaa,gM 45 44,hM 46 2 45 true,hi 47 2 46 (kI 0) 45 true,hF 48 1 47 45 true,hQ 49 48 45 true,⟨some 50,.bs 4 1 [Zac],(some (45,true)),true⟩,ha 51 14 [49,50] 45 true,gk 52 45 51 Zaa,gM 53 52,hF 54 4 4 53 true,hQ 55 54 53 true,hB 56 .eql 55 (kI 3) 53 true,gk 57 53 56 Zaa,gM 58 57,hF 59 5 4 58 true,hQ 60 59 58 true,hB 61 .eql 60 (kI 1) 58 true,gk 62 58 61 Zaa,gM 63 62,hF 64 0 4 63 true,hQ 65 64 63 true,hl 66 65 63 true,hB 67 .eql 66 (kI 0) 63 true,gk 68 63 67 Zaa,gA 0 68] [0] []) .rt)))),[.t 0]⟩
def c28:bL:=⟨(.sq (rG [gA 0 Zaa] [] []) (.sq (rG [gp 8 (.bd [Zab,Zab,Zab,Zab] [(0,1,(kI 1)),(1,1,(kI 1)),(3,1,(kI 7))]),gz 9 (.bs 128 4 [8]),gA 1 9] [1] []) (.sq (rG [gp 11 (.ca 1 75 []),gz 12 (.bs 3 1 [(kI 5)]),gz 13 (.bs 25 1 [12]),ga 14 81 [11,(kI 1),Zaa,13],gM 10 14,ge 15 10 0,ge 16 10 1,gA 2 15,gA 3 16] [1,2,3] []) (.sq (rG [gp 18 (.ca 1 75 []),gM 19 1,ga 20 31 [18,(kI 1),Zaa,19],gM 17 20,ge 21 17 0,ge 22 17 1,gA 4 21,gA 5 22] [1,2,3,4,5] []) (.sq (rG [gp 24 (.ca 1 75 []),gM 25 1,ga 26 31 [24,(kI 1),Zac,25],gM 23 26,ge 27 23 0,ge 28 23 1,gA 6 27,gA 7 28] [1,2,3,4,5,6,7] []) (.sq (rG [gM 29 3,gB 30 .eql 29 (kI 0),gM 31 30,hM 32 5 31 true,hB 33 .eql 32 (kI 0) 31 true,gk 34 31 33 Zaa,gM 35 34,hM 36 7 35 true,hB 37 .eql 36 (kI 0) 35 true,gk 38 35 37 Zaa,gM 39 38,hM 40 2 39 true,hl 41 40 39 true,hB 42 .eql 41 (kI 1) 39 true,gk 43 39 42 Zaa,gM 44 43,hM 45 2 44 true,hi 46 1 45 (kI 0) 44 true,hQ 47 46 44 true,hl 48 47 44 true,hB 49 .eql 48 (kI 0) 44 true,gk 50 44 49 Zaa,gM 51 50,hM 52 4 51 true,hM 53 1 51 true,ha 54 82 [52,53] 51 true,gk 55 51 54 Zaa,gM 56 55,hM 57 6 56 true,hl 58 57 56 true,hB 59 .eql 58 (kI 0) 56 true,gk 60 56 59 Zaa,gM 61 60,hM 62 1 61 true,hM 63 1 61 true,ha 64 83 [62,63] 61 true,gg 65 (.bo .eql false 64 (kI (-1))) 61 true,gk 66 61 65 Zaa,gM 67 66,hM 68 1 67 true,ha 69 83 [68,Zbr] 67 true,hB 70 .eql 69 (kI 0) 67 true,gk 71 67 70 Zaa,gA 0 71] [0] []) .rt)))))),[.t 0]⟩
def c29:bL:=⟨(.sq Zcd (.sq (rG [gM 5 1,gF 6 0 2,gQ 7 6,gB 8 .sub 7 (kI 1),ga 9 43 [5,(kI 0),8],gA 4 9] [4] []) .rt)),[.t 4]⟩
def aef:AC:=(.sq (.bl 1 (.sq (rG [gC 19 8 5,gM 20 1,gM 21 2,gM 22 12,ga 23 84 [19,20,21,22],gM 24 23,hM 25 12 24 false,hM 26 4 24 false,hl 27 26 24 false,hB 28 .geq 25 27 24 false,gp 29 (.pk 24 Zac 28)] [1,2,3,4,5,11,12,29] [5]) (.ite 29 (rG [gM 30 11,gM 31 3,gM 32 12,gi 33 1 31 32,gQ 34 33,gz 35 (.bs 25 1 [34]),gp 36 (.ap 25 1 24 30 35),gA 11 36] ZaW [5]) (rG [gM 37 11,gM 38 4,gM 39 12,gi 40 1 38 39,gQ 41 40,gz 42 (.bs 25 1 [41]),gp 43 (.ap 25 1 24 37 42),gA 11 43] ZaW [5])))) (rG [gM 17 12,gB 18 .add 17 (kI 1),gA 12 18] ZaW [5]))
def aeg:AC:=.kp ZaW [5] aef
def aeh:AC:=(.sq (.sq (rG [gM 13 12,gM 14 3,gl 15 14,gB 16 .lss 13 15] [1,2,3,4,5,11,12,16] [5]) (.ite 16 .sk (.ex 0))) aeg)
def U0:bX:=⟨ZaW,[5],aeh⟩
def c30:bL:=⟨(.sq (rG [gp 5 (.bx 0),gA 10 Zce] [1,2,3,4,5] [5]) (.sq (rG [gA 11 (.c .n)] [1,2,3,4,5,11] [5]) (.sq (.sq (.rg [.own 11 25] [gA 12 (kI 0)] ZaW [5]) (.bl 0 U0.lp)) (.sq (rG [gM 44 11,gA 10 44] [10,11] []) .rt)))),[.t 10]⟩
def aei:AC:=(.sq (.bl 1 (.sq (rG [gi 24 4 20 22,gC 25 4 24,gp 12 (.al [Zab,Zab,Zab,Zab]),gS 4 12 25] [1,2,3,4,12,20,21,22] [4,12]) (.sq (rG [gC 26 8 4,gC 27 4 12,ga 28 86 [26,27],gA 13 28] [1,2,3,4,13,20,21,22] [4]) (.sq (rG [gM 29 13,gB 30 .neq 29 (kI 0)] [1,2,3,4,13,20,21,22,30] [4]) (.ite 30 (.sq (rG [gM 31 13,gA 8 Zbr,gA 9 31] [8,9] []) .rt) .sk))))) (rG [gB 32 .add 22 (kI 1),gM 22 32] ZbD [4]))
def aej:AC:=.kp ZbD [4] aei
def aek:AC:=(.sq (rG [gB 23 .lss 22 21] [1,2,3,4,20,21,22,23] [4]) (.sq (.ite 23 .sk (.ex 0)) aej))
def U1:bX:=⟨ZbD,[4],aek⟩
def ael:AC:=(.sq (rG [gC 33 8 4,gM 34 1,gM 35 2,gp 36 (.cn 87 [33,34,35]),gM 37 3,gp 38 (.c3 88 [36,37]),gA 8 38,gA 9 (kI 0)] [8,9] []) .rt)
def aem:AC:=.kp ZbC [4] ael
def aen:AC:=(.sq (.sq (rG [gM 20 3,gl 21 20,gM 22 (kI 0)] ZbD [4]) (.bl 0 U1.lp)) aem)
def aeo:AC:=.kp ZbC [4] aen
def c31:bL:=⟨(.sq (rG [gp 4 (.bx 0),gA 8 Zbr,gA 9 (kI 0)] ZbC [4]) (.sq (.sq (rG [gC 14 8 4,gM 15 1,ga 16 85 [14,15],gA 10 16] [1,2,3,4,10] [4]) (.sq (rG [gM 17 10,gB 18 .neq 17 (kI 0)] [1,2,3,4,10,18] [4]) (.ite 18 (.sq (rG [gM 19 10,gA 8 Zbr,gA 9 19] [8,9] []) .rt) .sk))) aeo)),[.t 8,.t 9]⟩
def aep:AC:=(.sq (.dg [] [] [uM 31 0,uM 32 9,ui 33 4 31 32,uF 34 0 33,uQ 35 34,uM 36 2,gU (gB 37 .eql 35 36) [35,36],uM 38 37,kN 39 1 38 true,kN 40 9 38 true,G0 41 4 39 40 38 true,qK 42 0 41 38 true,Lt 43 42 38 true,kN 44 2 38 true,gU (hB 45 .eql 43 44 38 true) [43,44],gU (gk 46 38 45 Zaa) [38,45],uM 47 46,kN 48 0 47 true,kN 49 9 47 true,G0 50 4 48 49 47 true,qK 51 1 50 47 true,Lt 52 51 47 true,kN 53 1 47 true,kN 54 9 47 true,G0 55 4 53 54 47 true,qK 56 1 55 47 true,Lt 57 56 47 true,gU (hB 58 .eql 52 57 47 true) [52,57],gU (gk 59 47 58 Zaa) [47,58],uM 60 59,kN 61 0 60 true,kN 62 9 60 true,G0 63 4 61 62 60 true,qK 64 2 63 60 true,Lt 65 64 60 true,kN 66 1 60 true,kN 67 9 60 true,G0 68 4 66 67 60 true,qK 69 2 68 60 true,Lt 70 69 60 true,gH (hB 71 .eql 65 70 60 true),gH (gk 72 60 71 Zaa),gH (gA 8 72)] [8] []) .rt)
def aeq:AC:=.kp [0,1,2,9] [] aep
def aer:AC:=(.sq (.bl 1 (.sq (.sq (.dg [] [] [uM 22 0,uM 23 9,ui 24 4 22 23,uC 25 4 24,uM 26 1,uM 27 9,ui 28 4 26 27,uC 29 4 28,gH (gp 30 (.ae [1,1,1,1] false 25 29))] [0,1,2,3,9,30] []) (.ite 30 (.ex 1) .sk)) aeq)) (rG [gM 20 9,gB 21 .add 20 (kI 1),gA 9 21] [0,1,2,3,9] []))
def aes:AC:=.kp [0,1,2,3,9] [] aer
def aet:AC:=(.sq (.sq (rG [gM 10 9,gM 11 0,gl 12 11,gB 13 .lss 10 12,gM 14 13,hM 15 9 14 true,hM 16 1 14 true,hl 17 16 14 true,hB 18 .lss 15 17 14 true,gk 19 14 18 Zaa] [0,1,2,3,9,19] []) Zbl) aes)
def U2:bX:=⟨[0,1,2,3,9],[],aet⟩
def aeu:AC:=(.sq (rG [gM 73 3,gn 74 73,gM 75 74,hM 76 0 75 false,hl 77 76 75 false,hM 78 1 75 false,hl 79 78 75 false,hB 80 .eql 77 79 75 false,gp 81 (.pk 75 Zac 80),gA 8 81] [8] []) .rt)
def aev:AC:=.kp [0,1,3] [] aeu
def c32:bL:=⟨(.sq (rG [gA 8 Zaa] [0,1,2,3] []) (.sq (.sq (rG [gA 9 (kI 0)] [0,1,2,3,9] []) (.bl 0 U2.lp)) aev)),[.t 8]⟩
def c43:bL:=⟨(.sq (rG [gA 6 Zaa] [0,1,2] []) (.sq (rG [gM 7 0,gM 8 1,gB 9 .geq 7 8,gM 10 9,hM 11 0 10 true,hM 12 2 10 true,hB 13 .leq 11 12 10 true,gk 14 10 13 Zaa,gA 6 14] [6] []) .rt)),[.t 6]⟩
def c56:bL:=⟨(.sq (rG [gp 0 (.al [Zab,Zbp,Zbv,ZaD,ZaD,ZbA,ZbB,ZaG])] [0] [0]) (.sq (rG [gp 1 (.bd [Zab,Zbp] [(0,1,(kI 1))]),gp 2 (.bd ZbE []),gz 3 (.bs 83 2 [2]),gp 4 (.bd ZbE []),gz 5 (.bs 83 2 [4]),gp 6 (.bd Zay []),gz 7 (.bs 86 3 [6]),gp 8 (.bd [Zab,Zab,Zab,Zab,Zab,(.l 89 []),(.l 89 []),ZaG,ZaG] [(0,1,(kI 3))]),gp 9 (.bd [Zab,Zab,(.l 89 [])] [(0,1,(kI 2))]),gp 10 (.bd [Zab,Zab,Zab,Zab,Zab,(.l 89 []),(.l 89 []),ZaG,ZaG] [(0,1,(kI 4)),(3,3,9)]),gz 11 (.bs 111 9 [8,10]),gp 12 (.bd [Zab,Zbp,Zbv,ZaD,ZaD,ZbA,ZbB,ZaG] [(0,2,1),(3,1,3),(4,1,5),(5,1,7),(7,1,11)]),gS 8 0 12] [0] [0]) .rt)),[.c 0 (some 8)]⟩
def aew:AC:=(.sq (.bl 0 (.sq (rG [gM 14 1,gl 15 14,gF 16 3 3,gQ 17 16,gl 18 17,gB 19 .neq 15 18,gA 13 19] [1,2,13] []) (.ite 13 (.sq (rG [gA 6 (kI 1)] [6] []) .rt) (.sq (rG [gM 21 1,gp 22 (.c2 107 [21,(.c (.f 108 []))]),gA 20 22] [1,2,20] []) (.ite 20 (.sq (rG [gA 6 (kI 2)] [6] []) .rt) (.sq (rG [gM 24 1,gp 25 (.c2 107 [24,(.c (.f 109 []))]),gM 26 25,hM 27 2 26 false,hB 28 .lss 27 (kI 0) 26 false,gp 29 (.pk 26 Zac 28),gM 30 29,hM 31 2 30 false,hB 32 .gtr 31 (kI 2000) 30 false,gp 33 (.pk 30 Zac 32),gA 23 33] [23] []) (.ite 23 (.sq (rG [gA 6 (kI 3)] [6] []) .rt) .sk))))))) (.sq (rG [gA 6 (kI 0)] [6] []) .rt))
def aex:AC:=.kp [1,2,3] [3] aew
def c63:bL:=⟨(.sq (rG [gp 3 (.bx 0),gA 6 (kI 0)] [1,2,3] [3]) (.sq (.sq (rG [gC 8 8 3,ga 9 79 [8],gA 7 9] ZcB [3]) (.sq (rG [gM 10 7,gB 11 .neq 10 (kI 0)] [1,2,3,7,11] [3]) (.ite 11 (.sq (rG [gM 12 7,gA 6 12] [6] []) .rt) .sk))) aex)),[.t 6]⟩
def aey:AC:=(.sq (.bl 1 (.sq (rG [gi 37 5 33 35,gC 38 5 37,gp 10 Zai,gS 5 10 38] [7,8,10,33,34,35] [10,15]) (.sq (rG [gM 39 7,gM 40 7,gp 41 (.nc 40),gF 42 10 41,gQ 43 42,gM 44 8,gz 45 (.bs 3 1 [44]),gp 46 (.ap 3 1 8 43 45),gp 47 (.nc 39),gF 48 10 47,gS 1 48 46] [7,8,10,33,34,35] [10,15]) (rG [gM 49 8,gF 50 1 10,gQ 51 50,ga 52 89 [51],gB 53 .add 49 52,gA 8 53] ZbF [15])))) (rG [gB 54 .add 35 (kI 1),gM 35 54] ZbF [15]))
def aez:AC:=.kp ZbF [15] aey
def aeA:AC:=(.sq (rG [gB 36 .lss 35 34] [7,8,33,34,35,36] [15]) (.sq (.ite 36 .sk (.ex 0)) aez))
def U3:bX:=⟨ZbF,[15],aeA⟩
def aeB:AC:=(.sq (rG [gM 55 7,gM 56 7,gp 57 (.nc 56),gF 58 10 57,gQ 59 58,gM 60 8,gz 61 (.bs 3 1 [60]),gp 62 (.ap 3 1 8 59 61),gp 63 (.nc 55),gF 64 10 63,gS 1 64 62] [7] [15]) (.sq (rG [gM 65 7,gA 6 65] [6] [15]) .rt))
def aeC:AC:=.kp [7,8] [15] aeB
def c64:bL:=⟨(.sq ZbI (.sq (rG [gC 11 8 3,gM 12 1,gM 13 2,gp 14 (.bd [Zab,Zbp,Zbv,ZaD,ZaD,ZbA,ZbB,ZaG,(.l 25 []),Zab,.n,.n,.n,.n,Zab,Zab,Zab] [(0,8,11),(8,1,12),(9,1,13)]),gp 15 (.bx 14),gA 7 15] [3,7] [3,15]) (.sq (.dg [.ownC 7 10 3,.ownC 7 11 128,.ownC 7 12 3,.ownC 7 13 3] [21,25] [⟨gM 16 7,true,[7],[],false,[],[21,25],[15]⟩,⟨gM 17 7,true,[7],[],false,[],[21,25],[15]⟩,⟨gF 18 5 3,true,[3],[],false,[],[21,25],[15]⟩,⟨gQ 19 18,true,[18],[3],false,[],[21,25],[15]⟩,⟨gl 20 19,true,[19],[3],false,[],[21,25],[15]⟩,⟨gp 21 (.ms 3 1 8 Zab 20),true,[20],[],false,[],[25],[15]⟩,⟨gF 22 3 3,true,[3],[],false,[],[21,25],[15]⟩,⟨gQ 23 22,true,[22],[3],false,[],[21,25],[15]⟩,⟨gl 24 23,true,[23],[3],false,[],[21,25],[15]⟩,⟨gp 25 (.ms 3 1 8 Zab 24),true,[24],[],false,[],[21],[15]⟩,⟨gp 26 (.nc 16),true,[16],[],false,[],[25],[15]⟩,⟨gF 27 11 26,true,[26],[],false,[],[25],[15]⟩,⟨gF 28 1 27,true,[27],[],false,[],[25],[15]⟩,⟨gS 1 28 21,true,[28,21],[15],false,[21],[25],[]⟩,gH (gp 29 (.nc 17)),gH (gF 30 11 29),gH (gF 31 2 30),gH (gS 1 31 25)] [3,7] [3,15]) (.sq (rG [gA 8 (kI 0)] [3,7,8] [3,15]) (.sq (.sq (rG [gF 32 6 3,gQ 33 32,gl 34 33,gM 35 (kI 0)] ZbF [15]) (.bl 0 U3.lp)) aeC))))),[.t 6]⟩
def c66:bL:=⟨(.sq Zcb (.sq (.dg [] [3,9] [gL (gz 3 (.bs 4 1 [Zac])) [] [9],vF 4 0 1 [3,9],yQ 5 4 [1] [3,9],gL (gp 6 (.ca 1 112 [3,5])) [3,5] [9],vF 7 0 1 [3,9],yQ 8 7 [1] [3,9],gL (gz 9 (.ms 4 1 1 Zcl 8)) [8] [3],gH (gp 10 (.bd ZaU [(0,1,6),(1,1,9)])),gH (gS 2 2 10)] [2] [2]) .rt)),[.c 2 (some 2)]⟩
def c67:bL:=⟨(.sq (rG [gp 1 (.bx 0),gA 2 (.c .z)] [1] [1]) (.sq (.dg [] [] [xC 3 8 1 [1],uF 4 0 1,xC 5 2 4 [1],gU (ga 6 113 [5]) [5],gH (gp 7 (.bd [Zab,Zbp,Zbv,ZaD,ZaD,ZbA,ZbB,ZaG,(.l 32 [])] [(0,8,3),(8,1,6)])),gH (gp 8 (.bx 7)),gH (gA 2 8)] [2] [8]) .rt)),[.t 2]⟩
def aeD:AC:=(.dg [] [] [uM 20 2,uF 21 7 8,xQ 22 21 [8],gX (ga 23 89 [22]) [22] [8],gU (gB 24 .add (kI 1) 23) [23],uF 25 8 8,xQ 26 25 [8],gX (ga 27 89 [26]) [26] [8],gU (gB 28 .add 24 27) [24,27],gH (gB 29 .add 20 28),gH (gA 2 29)] ZbO [0])
def aeE:AC:=.kp [0,2,8,9,10,11] [0,8] aeD
def aeF:AC:=(.sq (.bl 1 (.sq (rG [gi 13 9 9 11,gC 14 9 13,gp 8 Zax,gS 9 8 14] [0,2,8,9,10,11] [0,8]) (.sq (.sq (rG [gM 15 0,gC 16 9 8,gM 17 2,gp 18 (.c2 114 [15,16,17]),gn 19 18] [0,2,8,9,10,11,19] [0,8]) (.ite 19 Zan .sk)) aeE))) (rG [gB 30 .add 11 (kI 1),gM 11 30] ZbO [0]))
def aeG:AC:=.kp ZbO [0] aeF
def aeH:AC:=(.sq (rG [gB 12 .lss 11 10] [0,2,9,10,11,12] [0]) (.sq ZaB aeG))
def U4:bX:=⟨ZbO,[0],aeH⟩
def c68:bL:=⟨(.sq (rG [gA 6 Zaa] [0,1,2] [0]) (.sq (.sq (rG [gM 9 1,gl 10 9,gM 11 (kI 0)] ZbO [0]) (.bl 0 U4.lp)) Zat)),[.t 6]⟩
def c69:bL:=⟨(.sq (rG [gA 4 (kI 0)] [0,1] [0]) (.sq (rG [gM 5 0,gp 6 (.nc 5),gF 7 10 6,gQ 8 7,gM 9 1,gi 10 1 8 9,gQ 11 10,gA 4 11] [4] []) .rt)),[.t 4]⟩
def c70:bL:=⟨(.sq Zcb (.sq (rG [gC 3 2 1,gC 4 2 1,ga 5 115 [3,4],gS 2 2 5] [2] [2]) .rt)),[.c 2 (some 2)]⟩
def aeI:AC:=(.sq (.bl 1 (.sq (rG [gM 24 22,gi 25 5 20 22,gC 26 5 25,gp 6 Zai,gA 5 24,gS 5 6 26] [1,4,5,6,20,21,22] [1,6,18]) (.sq (rG [gM 27 4,gM 28 5,gp 29 (.nc 27),gF 30 8 29,gS 1 30 28] [1,4,6,20,21,22] [1,6,18]) (.sq (rG [gM 31 4,gC 32 5 6,gp 33 (.c2 125 [31,32]),gA 7 33] [1,4,7,20,21,22] [1,18]) (.sq (rG [gM 34 7,gB 35 .neq 34 (kI 0)] [1,4,7,20,21,22,35] [1,18]) (.ite 35 (.sq (rG [gM 36 7,gA 2 36] [2] []) .rt) .sk)))))) (rG [gB 37 .add 22 (kI 1),gM 22 37] Zcn [1,18]))
def aeJ:AC:=.kp Zcn [1,18] aeI
def aeK:AC:=(.sq (rG [gB 23 .lss 22 21] [1,4,20,21,22,23] [1,18]) (.sq (.ite 23 .sk (.ex 0)) aeJ))
def U5:bX:=⟨Zcn,[1,18],aeK⟩
def aeL:AC:=(.sq (rG [gM 38 4,gF 39 6 1,gQ 40 39,gl 41 40,gp 42 (.nc 38),gF 43 8 42,gS 1 43 41] [1,4] [1,18]) (.sq (rG [gM 44 4,gF 45 7 1,gQ 46 45,gp 47 (.c2 126 [44,46]),gA 2 47] [2] []) .rt))
def aeM:AC:=.kp [1,4] [1,18] aeL
def aeN:AC:=(.sq (rG [gC 16 8 1,gp 17 (.bd [Zab,Zbp,Zbv,ZaD,ZaD,ZbA,ZbB,ZaG,Zab] [(0,8,16)]),gp 18 (.bx 17),gA 4 18] [1,4] [1,18]) (.sq (.sq (rG [gF 19 6 1,gQ 20 19,gl 21 20,gM 22 (kI 0)] Zcn [1,18]) (.bl 0 U5.lp)) aeM))
def aeO:AC:=.kp [1] [1] aeN
def aeP:AC:=(.sq (.sq (rG [gC 13 8 1,ga 14 124 [13],gn 15 14] [1,15] [1]) (.ite 15 ZaY .sk)) aeO)
def aeQ:AC:=.kp [1] [1] aeP
def c79:bL:=⟨(.sq ZaR (.sq (.sq (rG [gC 8 8 1,ga 9 123 [8],gA 3 9] [1,3] [1]) (.sq (rG [gM 10 3,gB 11 .neq 10 (kI 0)] [1,3,11] [1]) (.ite 11 (.sq (rG [gM 12 3,gA 2 12] [2] []) .rt) .sk))) aeQ)),[.t 2]⟩
def aeR:AC:=(rG [gM 42 12,gM 43 14,gp 44 (.ca 1 36 [43]),gz 45 (.bs 25 1 [44]),gp 46 (.ap 25 1 24 42 45),gA 12 46] Zbs [30])
def aeS:AC:=.kp [11,12,14,31,32,33] [30] aeR
def aeT:AC:=(.sq (.bl 1 (.sq (rG [gM 35 33,gi 36 1 31 33,gQ 37 36,gA 13 35,gA 14 37] [11,12,13,14,31,32,33] [30]) (.sq (.sq (rG [gM 38 11,gM 39 13,gp 40 (.c3 130 [38,39]),gn 41 40] [11,12,14,31,32,33,41] [30]) (.ite 41 (rG [gA 14 (.c Zbv)] [11,12,14,31,32,33] [30]) .sk)) aeS))) (rG [gB 47 .add 33 (kI 1),gM 33 47] Zbs [30]))
def aeU:AC:=.kp Zbs [30] aeT
def aeV:AC:=(.sq (rG [gB 34 .lss 33 32] [11,12,31,32,33,34] [30]) (.sq (.ite 34 .sk (.ex 0)) aeU))
def aeW:bX:=⟨Zbs,[30],aeV⟩
def aeX:AC:=(.sq (rG [gC 27 8 4,gM 28 1,gM 29 2,gp 30 (.cn 87 [27,28,29]),gA 11 30] [3,11] [30]) (.sq (rG [gA 12 (.c .n)] [3,11,12] [30]) (.sq (.sq (.rg [.own 12 25] [gM 31 3,gl 32 31,gM 33 (kI 0)] Zbs [30]) (.bl 0 aeW.lp)) (.sq (rG [gM 48 12,gA 8 48,gA 9 (kI 0)] [8,9,12] []) .rt))))
def aeY:AC:=.kp ZbC [4] aeX
def aeZ:AC:=(.sq (.sq (rG [gM 21 3,gl 22 21,gF 23 3 4,gQ 24 23,gl 25 24,gB 26 .neq 22 25] [1,2,3,4,26] [4]) (.ite 26 (.sq (rG [gA 8 Zce,gA 9 (kI 1)] [8,9,12] []) .rt) .sk)) aeY)
def ae0:AC:=.kp ZbC [4] aeZ
def c81:bL:=⟨(.sq (rG [gp 4 (.bx 0),gA 8 Zce,gA 9 (kI 0)] ZbC [4]) (.sq (.sq (rG [gC 15 8 4,gM 16 1,ga 17 85 [15,16],gA 10 17] [1,2,3,4,10] [4]) (.sq (rG [gM 18 10,gB 19 .neq 18 (kI 0)] [1,2,3,4,10,19] [4]) (.ite 19 (.sq (rG [gM 20 10,gA 8 Zce,gA 9 20] [8,9,12] []) .rt) .sk))) ae0)),[.t 8,.t 9]⟩
def ae1:AC:=(.sq (.bl 1 (.sq (.dg [] [] [uM 17 0,uM 18 5,ui 19 4 17 18,uC 20 4 19,uM 21 1,uM 22 5,ui 23 4 21 22,uC 24 4 23,gH (gp 25 (.ae [1,1,1,1] true 20 24))] [0,1,5,25] []) (.ite 25 Zam .sk))) Zbq)
def ae2:AC:=.kp [0,1,5] [] ae1
def ae3:AC:=(.sq ZaH ae2)
def ae4:bX:=⟨[0,1,5],[],ae3⟩
def ae5:AC:=(.sq (.sq (rG [gA 5 (kI 0)] [0,1,5] []) (.bl 0 ae4.lp)) ZaI)
def ae6:AC:=.kp [0,1] [] ae5
def c82:bL:=⟨(.sq Zau (.sq ZaL ae6)),[.t 4]⟩
def ae7:AC:=(.sq (.bl 1 (.sq (rG [gM 13 11,gA 5 13] [0,1,5,10,11] []) (.sq (.dg [] [] [uM 14 5,uM 15 0,ul 16 15,gU (gB 17 .geq 14 16) [14,16],uM 18 17,kN 19 5 18 false,kN 20 1 18 false,uhl 21 20 18 false,gU (hB 22 .geq 19 21 18 false) [19,21],gU (gp 23 (.pk 18 Zac 22)) [18,22],uM 24 23,kN 25 0 24 false,kN 26 5 24 false,G0 27 4 25 26 24 false,uhC 28 4 27 24 false,kN 29 1 24 false,kN 30 5 24 false,G0 31 4 29 30 24 false,uhC 32 4 31 24 false,gH (gg 33 (.ae [1,1,1,1] true 28 32) 24 false),gH (gp 34 (.pk 24 Zac 33))] [0,1,5,10,11,34] []) (.ite 34 (.sq (rG [gM 35 5,gA 4 35] [4] []) .rt) .sk)))) (rG [gB 36 .add 11 (kI 1),gM 11 36] [0,1,10,11] []))
def ae8:AC:=.kp [0,1,10,11] [] ae7
def ae9:AC:=(.sq (rG [gB 12 .lss 11 10] [0,1,10,11,12] []) (.sq ZaB ae8))
def afa:bX:=⟨[0,1,10,11],[],ae9⟩
def c83:bL:=⟨(.sq Zaw (.sq (.sq (rG [gM 6 0,gl 7 6,gM 8 1,gl 9 8,gB 10 .or 7 9,gM 11 (kI 0)] [0,1,10,11] []) (.bl 0 afa.lp)) Zal)),[.t 4]⟩
def c84:bL:=⟨(.sq (rG [gp 4 (.bx 0),gA 8 Zaa] ZbC [4]) (.sq (.dg [] [] [uF 9 0 4,xC 10 2 9 [4],uF 11 3 4,xQ 12 11 [4],uM 13 3,xi 14 2 12 13 [4],xC 15 2 14 [4],gU (ga 16 95 [10,15]) [10,15],uM 17 1,uM 18 2,gH (ga 19 131 [16,17,18]),gH (gA 8 19)] [8] []) .rt)),[.t 8]⟩
def afb:AC:=(.sq (.sq (rG [gF 11 0 2,gC 12 2 11,gM 13 1,ga 14 132 [12,13],gn 15 14] [15] []) (.ite 15 Zao .sk)) Zap)
def afc:AC:=.kp [1,2] [2] afb
def c85:bL:=⟨(.sq Zaq (.sq (.sq (rG [gC 6 8 2,ga 7 79 [6],gA 5 7] [1,2,5] [2]) (.sq (rG [gM 8 5,gB 9 .neq 8 (kI 0)] [1,2,5,9] [2]) (.ite 9 (.sq (rG [gM 10 5,gA 4 10] [4] []) .rt) .sk))) afc)),[.t 4]⟩
def U6:AC:=(.sq (.sq (rG [gF 23 2 3,gQ 24 23,gB 25 .lss 24 (kI 0),gM 26 25,hF 27 2 3 26 false,hQ 28 27 26 false,hM 29 5 26 false,hB 30 .geq 28 29 26 false,gp 31 (.pk 26 Zac 30)] [31] []) (.ite 31 Zao .sk)) Zap)
def afd:AC:=.kp [3,5] [3] U6
def afe:AC:=(.sq (rG [gF 14 5 2,gQ 15 14,gl 16 15,gA 5 16] [2,3,5] [2,3]) (.sq (.sq (rG [gF 17 0 3,gQ 18 17,gB 19 .eql 18 (kI 1)] [2,3,5,19] [2,3]) (.ite 19 (rG [gF 20 4 2,gQ 21 20,gl 22 21,gA 5 22] [3,5] [3]) .sk)) afd))
def aff:AC:=.kp [2,3] [2,3] afe
def c86:bL:=⟨(.sq ZaC (.sq (.sq (rG [gF 6 0 3,gQ 7 6,gB 8 .lss 7 (kI 1),gM 9 8,hF 10 0 3 9 false,hQ 11 10 9 false,hB 12 .gtr 11 (kI 3) 9 false,gp 13 (.pk 9 Zac 12)] [2,3,13] [2,3]) (.ite 13 ZaZ .sk)) aff)),[.t 4]⟩
def c87:bL:=⟨(.sq ZbI (.sq (.dg [] [] [xC 7 8 3 [3],xC 8 8 3 [3],gU (ga 9 127 [8]) [8],uM 10 1,uM 11 2,gH (gp 12 (.bd [Zab,Zbp,Zbv,ZaD,ZaD,ZbA,ZbB,ZaG,Zbk,Zbk,Zab,Zcl] [(0,8,7),(8,2,9),(10,1,10),(11,1,11)])),gH (gp 13 (.bx 12)),gH (gA 6 13)] [6] [13]) .rt)),[.t 6]⟩
def afg:AC:=(.sq (.bl 1 (.sq (rG [gi 12 4 8 10,gC 13 4 12,gp 7 (.al [Zab,Zab,Zab,Zab]),gS 4 7 13] [0,5,7,8,9,10] [0,7]) (.sq (rG [gM 14 0,gC 15 4 7,gp 16 (.c3 133 [14,15])] [0,5,7,8,9,10,16] [0,7]) (.ite 16 (rG [gM 17 5,gC 18 4 7,gz 19 (.bs 128 4 [18]),gp 20 (.ap 128 4 32 17 19),gA 5 20] Zcg [0]) .sk)))) (rG [gB 21 .add 10 (kI 1),gM 10 21] Zcg [0]))
def afh:AC:=.kp Zcg [0] afg
def afi:AC:=(.sq (rG [gB 11 .lss 10 9] [0,5,8,9,10,11] [0]) (.sq Zbm afh))
def U7:bX:=⟨Zcg,[0],afi⟩
def c88:bL:=⟨(.sq (rG [gA 4 Zbr] [0,1] [0]) (.sq (rG [gA 5 (.c .n)] [0,1,5] [0]) (.sq (.sq (.rg [.own 5 128] [gM 8 1,gl 9 8,gM 10 (kI 0)] Zcg [0]) (.bl 0 U7.lp)) ZbU))),[.t 4]⟩
def c89:bL:=⟨(.sq (rG [gA 2 (kI 0)] [0] []) (.sq (rG [gp 3 (.al [Zab]),gS 1 3 (kI 0)] [0,3] [3]) (.sq (rG [gM 4 0,gp 5 (.mf 135 [3]),gp 6 (.c2 134 [4,(kI 1),5])] [3] [3]) (.sq (rG [gQ 7 3,gA 2 7] [2] []) .rt)))),[.t 2]⟩
def afj:AC:=(.sq (.bl 1 (.sq (.dg [] [20] [vF 13 0 5 [20],yQ 14 13 [5] [20],yC 15 2 2 [2] [20],vM 16 6 [20],vF 17 0 3 [20],yQ 18 17 [3] [20],gV (ga 19 139 [15,16,18]) [15,16,18] [3] [20],gU (gz 20 (.bs 4 1 [19])) [19],gH (gp 21 (.ap 4 1 1 14 20)),gH (gF 22 0 5),gH (gS 1 22 21)] ZbV Zbe) (.dg [] [30] [vF 23 1 5 [30],yQ 24 23 [5] [30],yC 25 2 2 [2] [30],vM 26 6 [30],vF 27 1 3 [30],yQ 28 27 [3] [30],gV (ga 29 139 [25,26,28]) [25,26,28] [3] [30],gU (gz 30 (.bs 4 1 [29])) [29],gH (gp 31 (.ap 4 1 1 24 30)),gH (gF 32 1 5),gH (gS 1 32 31)] ZbV Zbe))) (rG [gM 11 6,gB 12 .add 11 (kI 1),gA 6 12] ZbV Zbe))
def afk:AC:=.kp ZbV Zbe afj
def afl:AC:=(.sq (.sq (rG [gM 7 6,gF 8 0 2,gQ 9 8,gB 10 .lss 7 9] [2,3,4,5,6,10] Zbe) (.ite 10 .sk (.ex 0))) afk)
def U8:bX:=⟨ZbV,Zbe,afl⟩
def c95:bL:=⟨(.sq ZaA (.sq (rG [gp 5 (.al [.n,.n])] Zbe Zbe) (.sq (.sq (.rg [.ownC 5 1 4,.ownC 5 0 4] [gA 6 (kI 0)] ZbV Zbe) (.bl 0 U8.lp)) (.sq (.rg [.fzC 5 0,.fzC 5 1] [gC 33 2 5,gS 2 4 33] [4] [4]) .rt)))),[.c 4 (some 2)]⟩
def WY:AC:=(.sq (rG [gC 8 3 2,gM 9 1,ga 10 143 [8,9],gA 4 10] [4] []) .rt)
def WZ:AC:=.kp [1,2] [2] WY
def W3:bL:=⟨(.sq Zaq (.sq (.sq (rG [gC 5 3 2,ga 6 142 [5,(kI 15)],gB 7 .gtr 6 (kI 15)] [1,2,7] [2]) (.ite 7 ZaF .sk)) WZ)),[.t 4]⟩
def W4:bL:=⟨(.sq Zau (.sq (rG [gM 5 0,gM 6 1,gp 7 (.c2 144 [5,6]),gB 8 .geq 7 (kI 0),gA 4 8] [4] []) .rt)),[.t 4]⟩
def W5:bL:=⟨(.sq Zbh (.sq (rG [gM 3 0,gB 4 .geq 3 (kI (-2147483648)),gM 5 4,hM 6 0 5 true,hB 7 .leq 6 (kI 2147483647) 5 true,gk 8 5 7 Zaa,gA 2 8] [2] []) .rt)),[.t 2]⟩
def QI:AC:=(.sq (rG [gM 62 7,gp 63 (.cv .i32 62),gp 64 (.cv .i64 63),gA 4 64] [4] []) .rt)
def W6:AC:=.kp [7] [] QI
def W7:AC:=(.sq (.dg [] [] [uF 21 2 2,xQ 22 21 [2],gX (gi 23 3 22 (kI 0)) [22] [2],xC 24 3 23 [2],uM 25 1,gU (ga 26 106 [24,25]) [24,25],uF 27 2 2,xQ 28 27 [2],gX (gi 29 3 28 (kI 1)) [28] [2],xC 30 3 29 [2],uM 31 1,gH (ga 32 106 [30,31]),gH (gA 5 26),gH (gA 6 32)] [2,5,6] [2]) (.sq (rG [gA 7 (kI 0)] [2,5,6,7] [2]) (.sq (.sq (rG [gF 33 0 2,gQ 34 33] [5,6,7,34] []) (.bl 1 (.sq (rG [gB 36 .eql 34 (kI 3),gA 35 36] [5,6,7,34,35] []) (.ite 35 (rG [gM 37 5,gM 38 6,gB 39 .add 37 38,gA 7 39] [7] []) (.sq (rG [gB 41 .eql 34 (kI 4),gA 40 41] [5,6,7,34,40] []) (.ite 40 (rG [gM 42 5,gM 43 6,gB 44 .sub 42 43,gA 7 44] [7] []) (.sq (rG [gB 46 .eql 34 (kI 5),gA 45 46] [5,6,7,34,45] []) (.ite 45 (rG [gM 47 5,gM 48 6,gB 49 .mul 47 48,gA 7 49] [7] []) (.sq (rG [gB 51 .eql 34 (kI 6),gA 50 51] [5,6,7,34,50] []) (.ite 50 (rG [gM 52 5,gM 53 6,gB 54 .lss 52 53,ga 55 145 [54],gA 7 55] [7] []) (.sq (rG [gB 57 .eql 34 (kI 7),gA 56 57] [5,6,7,56] []) (.ite 56 (rG [gM 58 5,gM 59 6,gB 60 .eql 58 59,ga 61 145 [60],gA 7 61] [7] []) .sk)))))))))))) W6)))
def W8:AC:=.kp [1,2] [2] W7
def W9:bL:=⟨(.sq Zaq (.sq (.sq (rG [gF 8 0 2,gQ 9 8] [1,2,9] [2]) (.bl 0 (.sq (rG [gB 11 .eql 9 (kI 1),gA 10 11] [1,2,9,10] [2]) (.ite 10 (.sq (rG [gF 12 1 2,gQ 13 12,gA 4 13] [4] []) .rt) (.sq (rG [gB 15 .eql 9 (kI 2),gA 14 15] [1,2,14] [2]) (.ite 14 (.sq (rG [gM 16 1,gF 17 1 2,gQ 18 17,gi 19 1 16 18,gQ 20 19,gA 4 20] [4] []) .rt) .sk)))))) W8)),[.t 4]⟩
def Xa:bL:=⟨(.sq Zau (.sq (rG [gM 5 0,gM 6 1,gp 7 (.c2 146 [5,6]),gB 8 .geq 7 (kI 0),gA 4 8] [4] []) .rt)),[.t 4]⟩
def Xb:bL:=⟨(.sq Zbh (.sq (rG [gM 3 0,gl 4 3,gB 5 .gtr 4 (kI 100),gA 2 5] [2] []) .rt)),[.t 2]⟩
def Xc:bL:=⟨(.sq Zbh (.sq (rG [gM 3 0,gp 4 (.c2 103 [3,(.c (.f 110 []))]),gA 2 4] [2] []) .rt)),[.t 2]⟩
def Xd:bL:=⟨(.sq Zbh (.sq (rG [gM 3 0,ga 4 105 [3],gn 5 4,gA 2 5] [2] []) .rt)),[.t 2]⟩
def Xe:AC:=(.sq (.bl 5 (.sq (rG [gi 46 2 42 44,gC 47 2 46,gp 9 (.al [Zab,Zab]),gS 2 9 47] [1,3,5,6,7,9,11,12,29,42,43,44] [1,9]) (.sq (rG [gF 48 0 9,gQ 49 48,gM 50 7,gB 51 .eql 49 50] [1,3,5,6,7,9,11,12,29,42,43,44,51] [1,9]) (.ite 51 (rG [gM 52 6,gF 53 1 9,gQ 54 53,gz 55 (.bs 3 1 [54]),gp 56 (.ap 3 1 8 52 55),gA 6 56] ZaE [1]) .sk)))) (rG [gB 57 .add 44 (kI 1),gM 44 57] ZaE [1]))
def Xf:AC:=.kp ZaE [1] Xe
def Xg:AC:=(.sq (rG [gB 45 .lss 44 43] [1,3,5,6,7,11,12,29,42,43,44,45] [1]) (.sq (.ite 45 .sk (.ex 4)) Xf))
def QJ:bX:=⟨ZaE,[1],Xg⟩
def Xh:AC:=(.sq (rG [gM 38 5,gM 39 7,gi 40 1 38 39,gS 1 40 Zac] Zbw [1]) (.sq (rG [gF 41 1 1,gQ 42 41,gl 43 42,gM 44 (kI 0)] ZaE [1]) (.bl 4 QJ.lp)))
def Xi:AC:=.kp Zbw [1] Xh
def Xj:AC:=(.bl 3 (.sq (rG [gM 23 6,gM 24 6,gl 25 24,gB 26 .sub 25 (kI 1),gi 27 1 23 26,gQ 28 27,gA 7 28] Zbw [1]) (.sq (rG [gM 29 6,gM 30 6,gl 31 30,gB 32 .sub 31 (kI 1),gp 33 (.sl 3 1 29 none (some 32)),gA 6 33] Zbw [1]) (.sq (.sq (rG [gM 34 5,gM 35 7,gi 36 1 34 35,gQ 37 36] [1,3,5,6,7,11,12,29,37] [1]) (.ite 37 (.ex 3) .sk)) Xi))))
def Xk:AC:=.kp Zcx [1] Xj
def Xl:AC:=(.sq (.sq (.rg [.own 6 3] [gM 20 6,gl 21 20,gB 22 .gtr 21 (kI 0)] [1,3,5,6,11,12,22,29] [1]) (.ite 22 .sk (.ex 2))) Xk)
def QK:bX:=⟨Zcx,[1],Xl⟩
def Xm:AC:=(.rg [.fz 5] [gM 58 3,gM 59 5,gz 60 (.bs 32 1 [59]),gp 61 (.ap 32 1 24 58 60),gA 3 61] Zcv [1])
def Xn:AC:=.kp [1,3,5,11,12] [1] Xm
def Xo:AC:=(.sq (.bl 1 (.sq (rG [gM 14 12,gA 4 14] [1,3,4,11,12] [1]) (.sq (rG [gF 15 0 1,gQ 16 15,gp 17 (.ms 4 1 1 Zcl 16),gA 5 17] [1,3,4,5,11,12] [1]) (.sq (rG [gM 18 4,gp 19 (.bs 3 1 [18]),gA 6 19] Zcx [1]) (.sq (.bl 2 QK.lp) Xn))))) (rG [gB 62 .add 12 (kI 1),gM 12 62] Zcv [1]))
def Xp:AC:=.kp Zcv [1] Xo
def Xq:AC:=(.sq (rG [gB 13 .lss 12 11] [1,3,11,12,13] [1]) (.sq Zbn Xp))
def QL:bX:=⟨Zcv,[1],Xq⟩
def Xr:bL:=⟨(.sq (rG [gp 1 (.bx 0),gA 2 (.c (.l 32 []))] [1] [1]) (.sq (rG [gA 3 (.c .n)] [1,3] [1]) (.sq (.sq (.rg [.own 3 32] [gF 10 0 1,gQ 11 10,gM 12 (kI 0)] Zcv [1]) (.bl 0 QL.lp)) (.sq (rG [gM 63 3,gA 2 63] [2,3] []) .rt)))),[.t 2]⟩
def Xs:AC:=(.sq (.dg [] [] [uM 55 0,gU (gp 56 (.nc 55)) [55],uF 57 0 56,⟨gQ 58 57,true,[57],[],true,[],[],[]⟩,xC 59 9 4 [4],uM 60 2,gH (gp 61 (.c2 154 [58,59,60]))] [] []) Zat)
def Xt:AC:=.kp [0,2,4] [0,4] Xs
def Xu:bL:=⟨(.sq ZaM (.sq (.bl 0 (.sq (rG [gM 10 0,gp 11 (.nc 10),gF 12 0 11,gQ 13 12,gp 14 (.c2 149 [13]),gn 15 14,gA 9 15] [0,2,4,9] [0,4]) (.ite 9 Zan (.sq (rG [gF 17 0 4,gQ 18 17,gB 19 .eql 18 (kI 2),gA 16 19] [0,2,4,16] [0,4]) (.ite 16 (.sq (rG [gM 20 0,gC 21 9 4,gM 22 2,gp 23 (.c2 150 [20,21,22]),gA 6 23] [6] []) .rt) (.sq (rG [gF 25 0 4,gQ 26 25,gB 27 .geq 26 (kI 7),gA 24 27] [0,2,4,24] [0,4]) (.ite 24 (.sq (rG [gM 28 0,gp 29 (.nc 28),gF 30 10 29,gQ 31 30,gl 32 31,gA 7 32] [0,2,4,7] [0,4]) (.sq (rG [gM 33 0,gC 34 9 4,gM 35 2,gp 36 (.c2 151 [33,34,35]),gA 8 36] [0,7,8] [0]) (.sq (rG [gM 37 0,gM 38 0,gp 39 (.nc 38),gF 40 10 39,gQ 41 40,gM 42 7,gp 43 (.sl 113 2 41 none (some 42)),gp 44 (.nc 37),gF 45 10 44,gS 1 45 43] [8] []) (.sq (rG [gM 46 8,gA 6 46] [6] []) .rt)))) (.sq (rG [gM 48 0,gC 49 9 4,gp 50 (.c2 152 [48,49]),gn 51 50,gA 47 51] [0,2,4,47] [0,4]) (.ite 47 (.sq (rG [gM 52 0,gM 53 2,gp 54 (.c2 153 [52,53]),gA 6 54] [6] []) .rt) .sk))))))))) Xt)),[.t 6]⟩
def Xv:bL:=⟨(.sq ZaA (.sq (.dg [] [] [uF 5 0 2,xQ 6 5 [2],uF 7 0 3,xQ 8 7 [3],gX (ga 9 155 [6,8]) [6,8] [2,3],uF 10 1 2,xQ 11 10 [2],uF 12 1 3,xQ 13 12 [3],gH (ga 14 156 [11,13]),gH (gp 15 (.bd ZaU [(0,1,9),(1,1,14)])),gH (gS 2 4 15)] [4] [4]) .rt)),[.c 4 (some 2)]⟩
def Xw:AC:=(.sq (.bl 1 (.sq (rG [gi 60 2 56 58,gC 61 2 60,gp 5 (.al ZbE),gS 2 5 61] [1,5,56,57,58] [1,5]) (.sq (rG [gF 62 0 1,gC 63 2 62,gC 64 2 5,ga 65 164 [63,64],gA 6 65] [1,6,56,57,58] [1]) (.sq (rG [gM 66 6,gB 67 .neq 66 (kI 0)] [1,6,56,57,58,67] [1]) (.ite 67 (.sq (rG [gM 68 6,gA 2 68] [2] []) .rt) .sk))))) (rG [gB 69 .add 58 (kI 1),gM 58 69] [1,56,57,58] [1]))
def Xx:AC:=.kp [1,56,57,58] [1] Xw
def Xy:AC:=(.sq (rG [gB 59 .lss 58 57] [1,56,57,58,59] [1]) (.sq (.ite 59 .sk (.ex 0)) Xx))
def QM:bX:=⟨[1,56,57,58],[1],Xy⟩
def Xz:AC:=(.sq (.bl 3 (.sq (rG [gi 75 3 71 73,gC 76 3 75,gp 8 (.al Zay),gS 3 8 76] [1,8,71,72,73] [1,8]) (.sq (rG [gF 77 0 1,gC 78 2 77,gF 79 1 8,gC 80 2 79,ga 81 164 [78,80],gA 9 81] [1,9,71,72,73] [1]) (.sq (rG [gM 82 9,gB 83 .neq 82 (kI 0)] [1,9,71,72,73,83] [1]) (.ite 83 (.sq (rG [gM 84 9,gA 2 84] [2] []) .rt) .sk))))) (rG [gB 85 .add 73 (kI 1),gM 73 85] [1,71,72,73] [1]))
def XA:AC:=.kp [1,71,72,73] [1] Xz
def XB:AC:=(.sq (rG [gB 74 .lss 73 72] [1,71,72,73,74] [1]) (.sq (.ite 74 .sk (.ex 2)) XA))
def QN:bX:=⟨[1,71,72,73],[1],XB⟩
def XC:AC:=(.sq (.sq (rG [gF 86 5 1,gQ 87 86,gp 88 (.c2 165 [87,(.c (.f 166 []))])] [88] []) (.ite 88 Zco .sk)) Zba)
def XD:AC:=.kp [1] [1] XC
def XE:AC:=(.sq (.sq (rG [gF 70 5 1,gQ 71 70,gl 72 71,gM 73 (kI 0)] [1,71,72,73] [1]) (.bl 2 QN.lp)) XD)
def XF:AC:=.kp [1] [1] XE
def XG:AC:=(.sq (.sq (rG [gF 51 3 1,gQ 52 51,gF 53 4 1,gQ 54 53,gz 55 (.bs 26 1 [52,54]),ga 56 163 [55],gl 57 56,gM 58 (kI 0)] [1,56,57,58] [1]) (.bl 0 QM.lp)) XF)
def XH:AC:=.kp [1] [1] XG
def XI:AC:=(.sq (.sq (.rg [.fzB 1 true] [gF 47 2 1,gQ 48 47,gp 49 (.mf 162 [1]),gp 50 (.c2 103 [48,49])] [1,50] [1]) (.ite 50 Zcp .sk)) XH)
def XJ:AC:=.kp [1] [1] XI
def XK:AC:=(.sq (.sq (rG [gF 16 5 1,gQ 17 16,gl 18 17,gB 19 .gtr 18 (kI 16),gM 20 19,hF 21 3 1 20 false,hQ 22 21 20 false,hl 23 22 20 false,hB 24 .gtr 23 (kI 5) 20 false,gp 25 (.pk 20 Zac 24),gM 26 25,hF 27 4 1 26 false,hQ 28 27 26 false,hl 29 28 26 false,hB 30 .gtr 29 (kI 5) 26 false,gp 31 (.pk 26 Zac 30),gM 32 31,hF 33 6 1 32 false,hQ 34 33 32 false,hl 35 34 32 false,hB 36 .gtr 35 (kI 5) 32 false,gp 37 (.pk 32 Zac 36),gM 38 37,hF 39 2 1 38 false,hQ 40 39 38 false,hl 41 40 38 false,hF 42 0 1 38 false,hF 43 0 42 38 false,hQ 44 43 38 false,hB 45 .gtr 41 44 38 false,gp 46 (.pk 38 Zac 45)] [1,46] [1]) (.ite 46 ZaY .sk)) XJ)
def XL:AC:=.kp [1] [1] XK
def XM:bL:=⟨(.sq ZaR (.sq (.sq (rG [gF 10 0 1,gC 11 2 10,ga 12 161 [11],gA 3 12] [1,3] [1]) (.sq (rG [gM 13 3,gB 14 .neq 13 (kI 0)] [1,3,14] [1]) (.ite 14 (.sq (rG [gM 15 3,gA 2 15] [2] []) .rt) .sk))) XL)),[.t 2]⟩
def XN:AC:=(.sq (.bl 1 (.sq (rG [gi 13 5 9 11,gC 14 5 13,gp 6 Zai,gS 5 6 14] [1,4,6,9,10,11] [1,3,6]) (.sq (rG [gF 15 1 6,gQ 16 15,gM 17 4,gp 18 (.c2 134 [16,(kI 1),17]),gn 19 18] [1,4,9,10,11,19] [1,3]) (.ite 19 Zcy .sk)))) (rG [gB 20 .add 11 (kI 1),gM 11 20] Zcz [1,3]))
def XO:AC:=.kp Zcz [1,3] XN
def XP:AC:=(.sq (rG [gB 12 .lss 11 10] [1,4,9,10,11,12] [1,3]) (.sq ZaB XO))
def QO:bX:=⟨Zcz,[1,3],XP⟩
def XQ:AC:=(.sq (rG [gF 21 7 1,gQ 22 21,gM 23 4,gp 24 (.c2 134 [22,(kI 1),23]),gA 2 24] [2] []) .rt)
def XR:AC:=.kp [1,4] [1,3] XQ
def XS:bL:=⟨(.sq Zcm (.sq (rG [gp 3 (.al [Zab]),gS 1 3 (kI 0)] [1,3] [1,3]) (.sq (rG [gp 7 (.mf 167 [3]),gA 4 7] [1,4] [1,3]) (.sq (.sq (rG [gF 8 6 1,gQ 9 8,gl 10 9,gM 11 (kI 0)] Zcz [1,3]) (.bl 0 QO.lp)) XR)))),[.t 2]⟩
def XT:AC:=(.sq (rG [gF 32 0 3,gQ 33 32,gM 34 5,gp 35 (.sl 3 1 33 none (some 34)),gM 36 6,ga 37 168 [35,36]] [0,3,13,14,15,37] [0,3]) (.ite 37 (.sq (rG [gA 4 (kI 6)] [4] []) .rt) .sk))
def XU:AC:=.kp [0,3,5,6,13,14,15] [0,3] XT
def XV:AC:=(.sq (.bl 1 (.sq (rG [gM 17 15,gi 18 1 13 15,gQ 19 18,gA 5 17,gA 6 19] [0,3,5,6,13,14,15] [0,3]) (.sq (.sq (rG [gM 20 6,gB 21 .lss 20 (kI 0),gM 22 21,hM 23 6 22 false,hM 24 0 22 false,gg 25 (.nc 24) 22 false,hF 26 0 25 22 false,hF 27 5 26 22 false,hQ 28 27 22 false,hl 29 28 22 false,hB 30 .geq 23 29 22 false,gp 31 (.pk 22 Zac 30)] [0,3,5,6,13,14,15,31] [0,3]) (.ite 31 Zao .sk)) XU))) (rG [gB 38 .add 15 (kI 1),gM 15 38] Zcq [0,3]))
def XW:AC:=.kp Zcq [0,3] XV
def XX:AC:=(.sq (rG [gB 16 .lss 15 14] [0,3,13,14,15,16] [0,3]) (.sq (.ite 16 .sk (.ex 0)) XW))
def QP:bX:=⟨Zcq,[0,3],XX⟩
def XY:AC:=(.sq (.dg [] [] [uF 46 2 3,xC 47 3 46 [3],uM 48 0,gU (gp 49 (.nc 48)) [48],uF 50 0 49,uF 51 5 50,⟨gQ 52 51,true,[51],[],true,[],[],[]⟩,⟨gl 53 52,true,[52],[],true,[],[],[]⟩,gH (ga 54 102 [47,53]),gH (gA 4 54)] [4] []) .rt)
def XZ:AC:=.kp [0,3] [0,3] XY
def X0:AC:=(.sq (.sq (rG [gM 39 0,gF 40 1 3,gQ 41 40,gp 42 (.c2 126 [39,41]),gA 7 42] [0,3,7] [0,3]) (.sq (rG [gM 43 7,gB 44 .neq 43 (kI 0)] [0,3,7,44] [0,3]) (.ite 44 (.sq (rG [gM 45 7,gA 4 45] [4] []) .rt) .sk))) XZ)
def X1:AC:=.kp [0,3] [0,3] X0
def X2:AC:=(.sq (.sq (rG [gF 12 0 3,gQ 13 12,gl 14 13,gM 15 (kI 0)] Zcq [0,3]) (.bl 0 QP.lp)) X1)
def X3:AC:=.kp [0,3] [0,3] X2
def X4:bL:=⟨(.sq ZbJ (.sq (.sq (rG [gF 8 0 3,gQ 9 8,gl 10 9,gB 11 .gtr 10 (kI 4)] [0,3,11] [0,3]) (.ite 11 ZaF .sk)) X3)),[.t 4]⟩
def X5:bL:=⟨(.sq (rG [gp 2 (.bx 0),gA 4 (kI 0)] [1,2] [0,2]) (.sq (rG [gp 5 (.al [Zab]),gS 1 5 (kI 0)] [1,2,5] [0,2,5]) (.sq (rG [gM 6 1,gp 7 (.mf 169 [2,5]),gp 8 (.c2 134 [6,(kI 1),7])] [5] [5]) (.sq (rG [gQ 9 5,gA 4 9] [4] []) .rt)))),[.t 4]⟩
def QQ:AC:=(rG [gF 26 0 3,gQ 27 26,gC 28 2 6,gz 29 (.bs 113 2 [28]),gp 30 (.ap 113 2 48 27 29),gF 31 0 3,gS 1 31 30] Zbt Zae)
def QR:AC:=.kp [1,2,3,6,10,11,12] [1,2,3,6,1113000,1113001] QQ
def X6:AC:=(.sq (.bl 1 (.sq (rG [gi 14 3 10 12,gC 15 3 14,gp 5 (.al Zay),gS 3 5 15] [1,2,3,5,10,11,12] [1,2,3,5,1113000,1113001]) (.sq (rG [gF 16 0 1,gC 17 2 16,ga 18 66 [17],gp 6 Zad,gS 2 6 18] [1,2,3,5,6,10,11,12] [1,2,3,5,6,1113000,1113001]) (.sq (.sq (rG [gF 19 0 5,gQ 20 19] [1,2,3,5,6,10,11,12,20] [1,2,3,5,6,1113000,1113001]) (.ite 20 (rG [gF 21 0 1,gC 22 2 21,gF 23 1 5,gC 24 2 23,ga 25 171 [22,24],gS 2 6 25] [1,2,3,6,10,11,12] [1,2,3,6,1113000,1113001]) .sk)) QR)))) (rG [gB 32 .add 12 (kI 1),gM 12 32] Zbt Zae))
def X7:AC:=.kp Zbt Zae X6
def G1:AC:=(.sq (rG [gB 13 .lss 12 11] [1,2,3,10,11,12,13] Zae) (.sq Zbn X7))
def QS:bX:=⟨Zbt,Zae,G1⟩
def X8:AC:=(.sq (.bl 3 (.dg [] [43] [vF 38 1 3 [43],yQ 39 38 [3,1113000,1113001] [43],vF 40 0 1 [43],yC 41 2 40 [1] [43],gL (ga 42 66 [41]) [41] [43],gU (gz 43 (.bs 113 2 [42])) [42],gH (gp 44 (.ap 113 2 48 39 43)),gH (gF 45 1 3),gH (gS 1 45 44)] ZbP Zae)) (rG [gB 46 .add 36 (kI 1),gM 36 46] ZbP Zae))
def X9:AC:=.kp ZbP Zae X8
def G2:AC:=(.sq (rG [gB 37 .lss 36 35] [1,2,3,35,36,37] Zae) (.sq (.ite 37 .sk (.ex 2)) X9))
def QT:bX:=⟨ZbP,Zae,G2⟩
def Ya:AC:=(.sq (.bl 5 (.sq (rG [gS 1 8 Zaa] Zbb Zar) (.sq (rG [gQ 52 7,gp 53 (.mf 172 [7,3,1,8]),gp 54 (.nc 52),gF 55 10 54,gS 1 55 53] Zbb Zar) (rG [gQ 56 7,gp 57 (.c2 129 [56])] Zbb Zar)))) (.sq (rG [gQ 58 8] [1,2,3,7,50,58] [1,2,3,7,50,1113000,1113001]) (.rg [.fzC 50 10] [gp 8 (.al [Zcl]),gS 1 8 58] Zbb Zar)))
def Yb:AC:=.kp Zbb Zar Ya
def DJ:AC:=(.sq (.sq (rG [gQ 51 8] [1,2,3,7,8,50,51] Zar) (.ite 51 .sk (.ex 4))) Yb)
def QU:bX:=⟨Zbb,Zar,DJ⟩
def QV:AC:=(.sq (.rg [.sg 3 0 1113000 2,.sg 3 1 1113001 2] [gC 47 8 1,gC 48 2 3,gp 49 (.bd [Zab,Zbp,Zbv,ZaD,ZaD,ZbA,ZbB,ZaG,Zbk,Zbk,.nf,Zab] [(0,8,47),(8,2,48)]),gp 50 (.bx 49),gp 7 (.al [.z]),gS 1 7 50] [1,2,3,7,50] [1,2,3,7,50,1113000,1113001]) (.sq (.sq (rG [gp 8 (.al [Zcl]),gS 1 8 Zac] Zbb Zar) (.bl 4 QU.lp)) (.sq (.rg [.unp 3 0,.unp 3 1] [gC 59 2 3,gS 2 2 59] [2] [2]) .rt)))
def Yc:AC:=.kp [1,2,3] Zae QV
def QW:AC:=(.sq (.sq (rG [gF 33 6 1,gQ 34 33,gl 35 34,gM 36 (kI 0)] ZbP Zae) (.bl 2 QT.lp)) Yc)
def Yd:AC:=.kp [1,2,3] Zae QW
def Tj:bL:=⟨(.sq (rG [gp 1 (.bx 0),gp 2 (.al [Zbk,Zbk])] [1,2] [1,2]) (.sq (rG [gp 3 (.al [.n,.n])] [1,2,3] Zae) (.sq (.sq (.rg [.ownC 3 0 113,.ownC 3 1 113] [gF 9 5 1,gQ 10 9,gl 11 10,gM 12 (kI 0)] Zbt Zae) (.bl 0 QS.lp)) Yd))),[.c 2 (some 2)]⟩
def Ye:AC:=(.sq (.bl 1 (.sq (rG [gM 15 13,gi 16 5 11 13,gC 17 5 16,gp 3 Zai,gA 2 15,gS 5 3 17] [0,2,3,11,12,13] [0,3]) (.dg [] [] [uM 18 0,uF 19 1 3,xQ 20 19 [3],uM 21 0,gU (gp 22 (.nc 21)) [21],uF 23 8 22,uF 24 1 23,⟨gQ 25 24,true,[24],[],true,[],[],[]⟩,uM 26 2,⟨gi 27 2 25 26,true,[25,26],[],true,[],[],[]⟩,⟨gC 28 2 27,true,[27],[],true,[],[],[]⟩,gH (gp 29 (.c2 179 [18,20,28]))] Zch [0]))) (rG [gB 30 .add 13 (kI 1),gM 13 30] Zch [0]))
def Yf:AC:=.kp Zch [0] Ye
def G3:AC:=(.sq (rG [gB 14 .lss 13 12] [0,11,12,13,14] [0]) (.sq (.ite 14 .sk (.ex 0)) Yf))
def QX:bX:=⟨Zch,[0],G3⟩
def QY:AC:=(.dg [] [] [uM 31 0,uM 32 0,gU (gp 33 (.nc 32)) [32],uF 34 0 33,uF 35 7 34,⟨gQ 36 35,true,[35],[],true,[],[],[]⟩,uM 37 0,gU (gp 38 (.nc 37)) [37],uF 39 0 38,uF 40 0 39,⟨gC 41 2 40,true,[40],[],true,[],[],[]⟩,gU (ga 42 66 [41]) [41],gH (gp 43 (.c2 179 [31,36,42]))] [] [])
def Yg:AC:=.kp [0] [0] QY
def Yh:bL:=⟨(.sq (rG [gM 4 0,gp 5 (.nc 4),gF 6 11 5,gS 1 6 (kI 0)] [0] [0]) (.sq (.sq (rG [gM 7 0,gp 8 (.nc 7),gF 9 0 8,gF 10 6 9,gQ 11 10,gl 12 11,gM 13 (kI 0)] Zch [0]) (.bl 0 QX.lp)) Yg)),[]⟩
def agE:bL:=⟨(.sq (rG [gA 4 Zaa] [0,1] [0]) (.sq (.dg [] [] [uM 5 0,uM 6 0,gU (gp 7 (.nc 6)) [6],uF 8 0 7,uF 9 0 8,⟨gC 10 2 9,true,[9],[],true,[],[],[]⟩,uM 11 0,gU (gp 12 (.nc 11)) [11],uF 13 0 12,uF 14 3 13,⟨gQ 15 14,true,[14],[],true,[],[],[]⟩,uM 16 1,⟨gi 17 2 15 16,true,[15,16],[],true,[],[],[]⟩,⟨gC 18 2 17,true,[17],[],true,[],[],[]⟩,gU (ga 19 171 [10,18]) [10,18],gH (gp 20 (.c3 180 [5,19])),gH (gA 4 20)] [4] []) .rt)),[.t 4]⟩
def Yi:AC:=(.sq (rG [gF 14 0 3,gQ 15 14,gM 16 1,gi 17 1 15 16,gQ 18 17,gA 6 18] [6] []) .rt)
def Yj:AC:=.kp [1,3] [3] Yi
def Yk:bL:=⟨(.sq ZaP (.sq (.sq (rG [gM 7 2] [1,3,7] [3]) (.ite 7 (.sq (rG [gF 8 1 3,gQ 9 8,gM 10 1,gi 11 1 9 10,gQ 12 11,gn 13 12,gA 6 13] [6] []) .rt) .sk)) Yj)),[.t 6]⟩
def Yl:bL:=⟨(.sq Zcd (.sq (rG [gM 5 1,gB 6 .geq 5 (kI 0),gM 7 6,hM 8 1 7 true,hF 9 0 2 7 true,hQ 10 9 7 true,hB 11 .lss 8 10 7 true,gk 12 7 11 Zaa,gA 4 12] [4] []) .rt)),[.t 4]⟩
def Ym:AC:=(.sq (.dg [] [] [uM 25 0,uM 26 0,gU (gp 27 (.nc 26)) [26],uF 28 8 27,uF 29 0 28,⟨gQ 30 29,true,[29],[],true,[],[],[]⟩,uF 31 2 3,xQ 32 31 [3],⟨gi 33 2 30 32,true,[30,32],[],true,[],[],[]⟩,⟨gC 34 2 33,true,[33],[],true,[],[],[]⟩,gH (gp 35 (.c3 180 [25,34])),gH (gA 4 35)] [4] []) .rt)
def Yn:AC:=.kp [0,3] [0,3] Ym
def Yo:bL:=⟨(.sq Zas (.sq (.sq (rG [gF 5 0 3,gQ 6 5,gB 7 .eql 6 (kI 1)] [0,3,7] [0,3]) (.ite 7 (.sq (.dg [] [] [uM 8 0,uM 9 0,gU (gp 10 (.nc 9)) [9],uF 11 0 10,uF 12 0 11,⟨gC 13 2 12,true,[12],[],true,[],[],[]⟩,uM 14 0,gU (gp 15 (.nc 14)) [14],uF 16 0 15,uF 17 4 16,⟨gQ 18 17,true,[17],[],true,[],[],[]⟩,uF 19 2 3,xQ 20 19 [3],⟨gi 21 2 18 20,true,[18,20],[],true,[],[],[]⟩,⟨gC 22 2 21,true,[21],[],true,[],[],[]⟩,gU (ga 23 171 [13,22]) [13,22],gH (gp 24 (.c3 180 [8,23])),gH (gA 4 24)] [4] []) .rt) .sk)) Yn)),[.t 4]⟩
def Yp:AC:=(.sq (.bl 1 (.sq (rG [gi 13 9 9 11,gC 14 9 13,gp 8 Zax,gS 9 8 14] [1,2,8,9,10,11] [8]) (.sq (rG [gM 15 2,gC 16 9 8,gM 17 1,gp 18 (.d2 15 [16,17]),gn 19 18,gM 20 19,hF 21 7 8 20 false,hQ 22 21 20 false,hM 23 1 20 false,hB 24 .add 23 (kI 1) 20 false,hM 25 2 20 false,gg 26 (.c2 134 [22,24,25]) 20 false,hn 27 26 20 false,gp 28 (.pk 20 Zac 27),gM 29 28,hF 30 8 8 29 false,hQ 31 30 29 false,hM 32 1 29 false,hB 33 .add 32 (kI 1) 29 false,hM 34 2 29 false,gg 35 (.c2 134 [31,33,34]) 29 false,hn 36 35 29 false,gp 37 (.pk 29 Zac 36)] [1,2,9,10,11,37] []) (.ite 37 Zan .sk)))) (rG [gB 38 .add 11 (kI 1),gM 11 38] ZcA []))
def Yq:AC:=.kp ZcA [] Yp
def Yr:AC:=(.sq (rG [gB 12 .lss 11 10] [1,2,9,10,11,12] []) (.sq ZaB Yq))
def G6:bX:=⟨ZcA,[],Yr⟩
def Ys:bL:=⟨(.sq (rG [gA 6 Zaa] [0,1,2] []) (.sq (.sq (rG [gM 9 0,gl 10 9,gM 11 (kI 0)] ZcA []) (.bl 0 G6.lp)) Zat)),[.t 6]⟩
def Yt:bL:=⟨(.sq (rG [gp 3 (.bx 0),gA 5 Zaa] [2] [2]) (.sq (rG [gQ 6 2,gB 7 .add 6 (kI 1),gS 1 2 7] [] []) (.sq (rG [gA 5 Zac] [5] []) .rt))),[.t 5]⟩
def Yu:AC:=(.sq (.bl 3 (.dg [] [] [uM 34 8,uM 35 34,Ot 36 2 3 35 false [3],kN 37 1 35 false,kN 38 2 35 false,kN 39 7 35 false,G0 40 2 38 39 35 false,qK 41 1 40 35 false,Lt 42 41 35 false,kN 43 9 35 false,G0 44 1 42 43 35 false,Lt 45 44 35 false,gH (ha 46 184 [36,37,45] 35 false),gH (gp 47 (.pk 35 Zac 46)),gH (gA 8 47)] ZbQ [3])) (rG [gM 32 9,gB 33 .add 32 (kI 1),gA 9 33] ZbQ [3]))
def Yv:AC:=.kp ZbQ [3] Yu
def Yw:AC:=(.sq (.sq (rG [gM 24 9,gM 25 2,gM 26 7,gi 27 2 25 26,gF 28 1 27,gQ 29 28,gl 30 29,gB 31 .lss 24 30] [1,2,3,7,8,9,31] [3]) (.ite 31 .sk (.ex 2))) Yv)
def QZ:bX:=⟨ZbQ,[3],Yw⟩
def Yx:AC:=(.sq (rG [gM 48 8,gn 49 48] [1,2,3,7,49] [3]) (.ite 49 Zan .sk))
def Yy:AC:=.kp [1,2,3,7,8] [3] Yx
def Yz:AC:=(.sq (.bl 1 (.sq (.dg [] [] [xC 16 2 3 [3],uM 17 1,uM 18 2,uM 19 7,ui 20 2 18 19,uF 21 0 20,uQ 22 21,gH (ga 23 184 [16,17,22]),gH (gA 8 23)] [1,2,3,7,8] [3]) (.sq (.sq (rG [gA 9 (kI 0)] ZbQ [3]) (.bl 2 QZ.lp)) Yy))) (rG [gM 14 7,gB 15 .add 14 (kI 1),gA 7 15] ZcB [3]))
def YA:AC:=.kp ZcB [3] Yz
def YB:AC:=(.sq (.sq (rG [gM 10 7,gM 11 2,gl 12 11,gB 13 .lss 10 12] [1,2,3,7,13] [3]) Zbn) YA)
def Q0:bX:=⟨ZcB,[3],YB⟩
def YC:bL:=⟨(.sq ZaP (.sq (.sq (rG [gA 7 (kI 0)] ZcB [3]) (.bl 0 Q0.lp)) Zat)),[.t 6]⟩
def YD:AC:=(rG [gM 18 5,gC 19 3 7,gM 20 1,gM 21 5,gB 22 .sub 20 21,ga 23 142 [19,22],gB 24 .add 18 23,gA 5 24] ZbR [])
def YE:AC:=.kp [1,5,7,9,10,11] [7] YD
def YF:AC:=(.sq (.bl 1 (.sq (rG [gi 13 3 9 11,gC 14 3 13,gp 7 Zaz,gS 3 7 14] [1,5,7,9,10,11] [7]) (.sq (.sq (rG [gM 15 5,gM 16 1,gB 17 .gtr 15 16] [1,5,7,9,10,11,17] [7]) (.ite 17 (.ex 0) .sk)) YE))) (rG [gB 25 .add 11 (kI 1),gM 11 25] ZbR []))
def YG:AC:=.kp ZbR [] YF
def YH:AC:=(.sq (rG [gB 12 .lss 11 10] [1,5,9,10,11,12] []) (.sq ZaB YG))
def Q1:bX:=⟨ZbR,[],YH⟩
def YI:bL:=⟨(.sq Zaq (.sq (rG [gA 5 (kI 1)] [1,2,5] [2]) (.sq (.sq (rG [gF 8 2 2,gQ 9 8,gl 10 9,gM 11 (kI 0)] ZbR []) (.bl 0 Q1.lp)) (.sq (rG [gM 26 5,gA 4 26] [4] []) .rt)))),[.t 4]⟩
def YJ:AC:=(.sq (.bl 1 (.sq (rG [gi 20 3 16 18,gC 21 3 20,gp 7 Zaz,gS 3 7 21] [1,7,16,17,18] [7]) (.sq (rG [gC 22 3 7,gM 23 1,ga 24 143 [22,23],gA 8 24] [1,8,16,17,18] []) (.sq (rG [gM 25 8,gB 26 .neq 25 (kI 0)] [1,8,16,17,18,26] []) (.ite 26 (.sq (rG [gM 27 8,gA 4 27] [4] []) .rt) .sk))))) (rG [gB 28 .add 18 (kI 1),gM 18 28] [1,16,17,18] []))
def YK:AC:=.kp [1,16,17,18] [] YJ
def YL:AC:=(.sq (rG [gB 19 .lss 18 17] [1,16,17,18,19] []) (.sq Zbl YK))
def Q2:bX:=⟨[1,16,17,18],[],YL⟩
def YM:AC:=(.sq (.sq (rG [gF 15 2 2,gQ 16 15,gl 17 16,gM 18 (kI 0)] [1,16,17,18] []) (.bl 0 Q2.lp)) Zap)
def YN:AC:=.kp [1,2] [2] YM
def YO:bL:=⟨(.sq Zaq (.sq (.sq (rG [gC 9 3 2,gM 10 1,ga 11 185 [9,10],gA 5 11] [1,2,5] [2]) (.sq (rG [gM 12 5,gB 13 .neq 12 (kI 0)] [1,2,5,13] [2]) (.ite 13 (.sq (rG [gM 14 5,gA 4 14] [4] []) .rt) .sk))) YN)),[.t 4]⟩
def YP:AC:=Zag
def YQ:AC:=.kp ZaQ [] YP
def YR:AC:=(.sq Zav (.sq ZaK YQ))
def Q3:bX:=⟨ZaQ,[],YR⟩
def YS:bL:=⟨(.sq Zaw (.sq (.sq Zak (.bl 0 Q3.lp)) Zal)),[.t 4]⟩
def YT:bL:=⟨(.sq (rG [gA 2 (kI 0)] [0] []) (.sq (.sq (rG [gM 3 0] [3] []) (.ite 3 Zco .sk)) Zba)),[.t 2]⟩
def YU:AC:=Zag
def YV:AC:=.kp ZaQ [] YU
def YW:AC:=(.sq Zav (.sq ZaK YV))
def YX:bX:=⟨ZaQ,[],YW⟩
def YY:bL:=⟨(.sq Zaw (.sq (.sq Zak (.bl 0 YX.lp)) Zal)),[.t 4]⟩
def YZ:AC:=(.sq (rG [gM 17 0,gp 18 (.nc 17),gF 19 11 18,gF 20 3 19,gQ 21 20,gB 22 .add 21 (kI 1),gp 23 (.nc 17),gF 24 11 23,gF 25 3 24,gS 1 25 22] [] []) (.sq (rG [gA 2 Zac] [2] []) .rt))
def Y0:AC:=.kp [0] [0] YZ
def Y1:bL:=⟨(.sq (rG [gA 2 Zaa] [0] [0]) (.sq (.sq (.dg [] [] [uM 3 0,gU (gp 4 (.nc 3)) [3],uF 5 11 4,uF 6 3 5,⟨gQ 7 6,true,[6],[],true,[],[],[]⟩,uM 8 0,gU (gp 9 (.nc 8)) [8],uF 10 9 9,⟨gQ 11 10,true,[10],[],true,[],[],[]⟩,gH (gB 12 .eql 7 11)] [0,12] [0]) (.ite 12 (.sq (rG [gM 13 0,gp 14 (.nc 13),gF 15 11 14,gF 16 4 15,gS 1 16 (kI 2)] [] []) Zcy) .sk)) Y0)),[.t 2]⟩
def Y2:AC:=(.sq (.dg [] [] [uM 54 0,gU (gp 55 (.nc 54)) [54],uF 56 0 55,⟨gQ 57 56,true,[56],[],true,[],[],[]⟩,xC 58 9 4 [4],gH (gp 59 (.c2 194 [57,58]))] [] []) Zat)
def Y3:AC:=.kp [0,4] [0,4] Y2
def Y4:AC:=(.sq (.sq (.dg [] [] [uM 42 0,uF 43 1 4,xQ 44 43 [4],uM 45 0,uF 46 2 7,xC 47 3 46 [7],⟨gp 48 (.c3 193 [45,47]),true,[45,47],[],true,[],[],[]⟩,gH (gp 49 (.c2 192 [42,44,48])),gH (gn 50 49)] [0,2,4,50] [0,4]) (.ite 50 (.sq (rG [gM 51 0,gM 52 2,gp 53 (.c2 153 [51,52]),gA 6 53] [6] []) .rt) .sk)) Y3)
def Y5:AC:=.kp [0,2,4,7] [0,4,7] Y4
def Y6:AC:=(.sq (.dg [] [] [uM 15 0,gU (gp 16 (.nc 15)) [15],uF 17 0 16,⟨gQ 18 17,true,[17],[],true,[],[],[]⟩,xC 19 9 4 [4],gH (gp 20 (.c2 191 [18,19]))] [0,2,4] [0,4]) (.sq (.dg [] [7] [vM 21 0 [7],gL (gp 22 (.nc 21)) [21] [7],vF 23 1 22 [7],vF 24 6 23 [7],⟨gQ 25 24,true,[24],[],true,[],[7],[]⟩,vF 26 2 4 [7],yQ 27 26 [4] [7],⟨gi 28 5 25 27,true,[25,27],[],true,[],[7],[]⟩,⟨gC 29 5 28,true,[28],[],true,[],[7],[]⟩,gU (gp 7 Zai) [],gH (gS 5 7 29)] [0,2,4,7] [0,4,7]) (.sq (.sq (.dg [] [] [uM 30 0,uF 31 1 7,xQ 32 31 [7],uM 33 0,gU (gp 34 (.nc 33)) [33],uF 35 0 34,⟨gQ 36 35,true,[35],[],true,[],[],[]⟩,uF 37 2 4,xQ 38 37 [4],⟨gp 39 (.c3 69 [36,38]),true,[36,38],[],true,[],[],[]⟩,gH (gp 40 (.c2 68 [30,32,39])),gH (gn 41 40)] [0,2,4,7,41] [0,4,7]) (.ite 41 Zan .sk)) Y5)))
def Y7:AC:=.kp [0,2,4] [0,4] Y6
def Y8:bL:=⟨(.sq ZaM (.sq (.sq (rG [gM 8 0,gC 9 9 4,gp 10 (.c2 190 [8,9]),gn 11 10] [0,2,4,11] [0,4]) (.ite 11 (.sq (rG [gM 12 0,gM 13 2,gp 14 (.c2 153 [12,13]),gA 6 14] [6] []) .rt) .sk)) Y7)),[.t 6]⟩
def Y9:AC:=(rG [gM 52 0,gF 53 3 4,gC 54 3 53,gp 55 (.c2 195 [52,54])] [0,2,4] [0,4])
def Za:AC:=.kp [0,2,4] [0,4] Y9
def Zb:AC:=(.bl 1 (.sq (.sq (rG [gM 37 0,gF 38 7 4,gQ 39 38,gM 40 2,gB 41 .add 40 (kI 1),gp 42 (.c2 68 [37,39,41]),gn 43 42,gM 44 43,hM 45 0 44 false,gg 46 (.nc 45) 44 false,hF 47 0 46 44 false,hQ 48 47 44 false,gg 49 (.c2 149 [48]) 44 false,hn 50 49 44 false,gp 51 (.pk 44 Zac 50)] [0,2,4,51] [0,4]) (.ite 51 Zan .sk)) Za))
def Zc:AC:=.kp [0,2,4] [0,4] Zb
def Zd:AC:=(.sq (.sq (.dg [] [] [uM 30 0,gU (gp 31 (.nc 30)) [30],uF 32 0 31,⟨gQ 33 32,true,[32],[],true,[],[],[]⟩,uF 34 3 4,xC 35 3 34 [4],gH (gp 36 (.c3 197 [33,35]))] [0,2,4,36] [0,4]) (.ite 36 .sk (.ex 0))) Zc)
def Q4:bX:=⟨[0,2,4],[0,4],Zd⟩
def Ze:AC:=(.sq (.bl 0 Q4.lp) Zat)
def Zf:AC:=.kp [0,2,4] [0,4] Ze
def Zg:bL:=⟨(.sq ZaM (.sq (rG [gM 9 0,gF 10 3 4,gC 11 3 10,gp 12 (.c2 195 [9,11])] [0,2,4] [0,4]) (.sq (.sq (rG [gF 13 0 4,gQ 14 13,gB 15 .eql 14 (kI 7)] [0,2,4,15] [0,4]) (.ite 15 (.sq (.dg [] [] [uM 17 0,gU (gp 18 (.nc 17)) [17],uF 19 0 18,⟨gQ 20 19,true,[19],[],true,[],[],[]⟩,xC 21 9 4 [4],uM 22 2,⟨gp 23 (.c3 196 [20,21,22]),true,[20,21,22],[],true,[],[],[]⟩,uM 16 23,gU (ge 24 16 0) [16],gU (ge 25 16 1) [16],gU (gA 7 24) [24],gH (gA 8 25)] [0,7,8] [0]) (.sq (rG [gM 26 0,gM 27 7,gM 28 8,gp 29 (.c2 68 [26,27,28]),gA 6 29] [6] []) .rt)) .sk)) Zf))),[.t 6]⟩
def Zh:AC:=(.sq (rG [gM 71 0,gC 72 9 3,gp 73 (.c2 199 [71,72]),gA 4 73] [4] []) .rt)
def Zi:AC:=.kp [0,3] [0,3] Zh
def Zj:bL:=⟨(.sq Zas (.sq (.sq (rG [gF 6 0 3,gQ 7 6] [0,3,7] [0,3]) (.bl 0 (.sq (rG [gB 9 .eql 7 (kI 1),gA 8 9] [0,3,7,8] [0,3]) (.ite 8 (.sq (.dg [] [] [uM 10 0,uF 11 1 3,xQ 12 11 [3],uM 13 0,uF 14 3 3,xC 15 3 14 [3],⟨gp 16 (.c3 193 [13,15]),true,[13,15],[],true,[],[],[]⟩,gH (gp 17 (.c2 192 [10,12,16])),gH (gA 4 17)] [4] []) .rt) (.sq (rG [gB 19 .eql 7 (kI 3),gA 18 19] [0,3,7,18] [0,3]) (.ite 18 (.sq (.dg [] [5] [vM 20 0 [5],gL (gp 21 (.nc 20)) [20] [5],vF 22 1 21 [5],vF 23 0 22 [5],⟨gC 24 2 23,true,[23],[],true,[],[5],[]⟩,vM 25 0 [5],gL (gp 26 (.nc 25)) [25] [5],vF 27 1 26 [5],vF 28 3 27 [5],⟨gQ 29 28,true,[28],[],true,[],[5],[]⟩,vF 30 2 3 [5],yQ 31 30 [3] [5],⟨gi 32 2 29 31,true,[29,31],[],true,[],[5],[]⟩,⟨gC 33 2 32,true,[32],[],true,[],[5],[]⟩,gL (ga 34 171 [24,33]) [24,33] [5],gU (gp 5 Zad) [],gH (gS 2 5 34)] [0,3,5] [0,3,5]) (.sq (.dg [] [] [uM 35 0,⟨gp 36 (.c3 198 [35]),true,[35],[],true,[],[],[]⟩,xC 37 2 5 [5],gU (ga 38 174 [36,37]) [36,37],uM 39 38,kN 40 0 39 true,qK 41 1 3 39 true,JQ 42 41 39 true [3],kN 43 0 39 true,⟨gg 44 (.c3 198 [43]) 39 true,true,[43],[],true,[],[],[]⟩,Ot 45 2 5 39 true [5],gU (ha 46 115 [44,45] 39 true) [44,45],gH (gg 47 (.c2 192 [40,42,46]) 39 true),gH (gk 48 39 47 Zaa),gH (gA 4 48)] [4] []) .rt)) (.sq (rG [gB 50 .eql 7 (kI 4),gA 49 50] [0,3,49] [0,3]) (.ite 49 (.sq (.dg [] [] [uM 51 0,uF 52 3 3,xC 53 3 52 [3],⟨gp 54 (.c3 193 [51,53]),true,[51,53],[],true,[],[],[]⟩,uM 55 0,gU (gp 56 (.nc 55)) [55],uF 57 1 56,uF 58 0 57,⟨gC 59 2 58,true,[58],[],true,[],[],[]⟩,uM 60 0,gU (gp 61 (.nc 60)) [60],uF 62 1 61,uF 63 4 62,⟨gQ 64 63,true,[63],[],true,[],[],[]⟩,uF 65 2 3,xQ 66 65 [3],⟨gi 67 2 64 66,true,[64,66],[],true,[],[],[]⟩,⟨gC 68 2 67,true,[67],[],true,[],[],[]⟩,gH (ga 69 171 [59,68]),gH (ga 70 174 [54,69]),gH (gA 4 70)] [4] []) .rt) .sk)))))))) Zi)),[.t 4]⟩
def Zk:bL:=⟨(.sq (rG [gA 4 Zaa] [0,1] [0]) (.sq (.dg [] [] [uM 5 0,gU (gp 6 (.nc 5)) [5],uF 7 0 6,⟨gQ 8 7,true,[7],[],true,[],[],[]⟩,uM 9 0,gU (gp 10 (.nc 9)) [9],uF 11 0 10,⟨gQ 12 11,true,[11],[],true,[],[],[]⟩,uM 13 1,gU (gp 14 (.nc 8)) [8],uF 15 11 14,uF 16 4 15,⟨gS 1 16 (kI 3),true,[16],[],true,[],[],[]⟩,gH (gp 17 (.nc 12)),gH (gF 18 11 17),gH (gF 19 5 18),gH (gS 1 19 13)] [] []) Zam)),[.t 4]⟩
def Q5:AC:=(.sq (.dg [] [] [uM 44 0,gU (gp 45 (.nc 44)) [44],uF 46 11 45,uF 47 2 46,⟨gQ 48 47,true,[47],[],true,[],[],[]⟩,uF 49 2 4,xQ 50 49 [4],gH (gi 51 1 48 50),gH (gQ 52 51),gH (gB 53 .add 52 (kI 1)),gH (gi 54 1 48 50),gH (gS 1 54 53)] [0,4,6] [0,4]) (.sq (.dg [] [] [uM 55 0,gU (gp 56 (.nc 55)) [55],uF 57 11 56,uF 58 1 57,⟨gQ 59 58,true,[58],[],true,[],[],[]⟩,uF 60 1 4,xQ 61 60 [4],uM 62 6,gH (gi 63 1 59 61),gH (gS 1 63 62)] [] []) .rt))
def Zl:AC:=.kp [0,4,6] [0,4] Q5
def Q6:AC:=(.sq (rG [gF 84 0 4,gQ 85 84] [0,2,4,8,85] [0,4]) (.bl 0 (.sq (rG [gB 87 .eql 85 (kI 4),gA 86 87] [0,2,4,8,85,86] [0,4]) (.ite 86 (rG [gM 88 0,gM 89 2,gF 90 2 4,gQ 91 90,gM 92 8,gp 93 (.c2 200 [88,(kI 1),89,91,92])] [] []) (.sq (rG [gB 95 .eql 85 (kI 5),gA 94 95] [0,2,4,8,85,94] [0,4]) (.ite 94 (rG [gM 96 0,gM 97 2,gF 98 1 4,gQ 99 98,gM 100 8,gp 101 (.c2 200 [96,(kI 2),97,99,100])] [] []) (.sq (rG [gB 103 .eql 85 (kI 6),gA 102 103] [0,2,4,8,102] [0,4]) (.ite 102 (rG [gM 104 0,gM 105 2,gF 106 1 4,gQ 107 106,gM 108 8,gp 109 (.c2 200 [104,(kI 3),105,107,108])] [] []) .sk))))))))
def Zm:AC:=.kp [0,2,4,8] [0,4] Q6
def Zn:AC:=(.sq (.dg [] [] [uF 64 3 4,xC 65 3 64 [4],uM 66 0,gU (gp 67 (.nc 66)) [66],uF 68 11 67,uF 69 1 68,⟨gQ 70 69,true,[69],[],true,[],[],[]⟩,gH (ga 71 106 [65,70]),gH (gA 8 71)] [0,2,4,8] [0,4]) (.sq (.sq (rG [gF 72 0 4,gQ 73 72,gB 74 .neq 73 (kI 4)] [0,2,4,8,74] [0,4]) (.ite 74 (.dg [] [] [uM 75 0,gU (gp 76 (.nc 75)) [75],uF 77 11 76,uF 78 1 77,⟨gQ 79 78,true,[78],[],true,[],[],[]⟩,uF 80 1 4,xQ 81 80 [4],uM 82 8,gH (gi 83 1 79 81),gH (gS 1 83 82)] [0,2,4,8] [0,4]) .sk)) Zm))
def Zo:AC:=.kp [0,2,4] [0,4] Zn
def Zp:bL:=⟨(.sq (rG [gp 4 (.bx 1)] [0,2,4] [0,4]) (.sq (.sq (rG [gF 9 0 4,gQ 10 9,gB 11 .eql 10 (kI 3)] [0,2,4,11] [0,4]) (.ite 11 (.sq (.dg [] [] [uM 12 0,gU (gp 13 (.nc 12)) [12],uF 14 8 13,⟨gQ 15 14,true,[14],[],true,[],[],[]⟩,uF 16 2 4,xQ 17 16 [4],⟨gi 18 1 15 17,true,[15,17],[],true,[],[],[]⟩,⟨gQ 19 18,true,[18],[],true,[],[],[]⟩,gU (gA 6 (kI 0)) [],gH (gA 7 19)] [0,4,6,7] [0,4]) (.sq (.sq (.dg [] [] [uM 20 0,gU (gp 21 (.nc 20)) [20],uF 22 11 21,uF 23 2 22,⟨gQ 24 23,true,[23],[],true,[],[],[]⟩,uF 25 2 4,xQ 26 25 [4],⟨gi 27 1 24 26,true,[24,26],[],true,[],[],[]⟩,⟨gQ 28 27,true,[27],[],true,[],[],[]⟩,uM 29 7,ul 30 29,gH (gB 31 .lss 28 30)] [0,4,6,7,31] [0,4]) (.ite 31 (.dg [] [] [uM 32 7,uM 33 0,gU (gp 34 (.nc 33)) [33],uF 35 11 34,uF 36 2 35,⟨gQ 37 36,true,[36],[],true,[],[],[]⟩,uF 38 2 4,xQ 39 38 [4],⟨gi 40 1 37 39,true,[37,39],[],true,[],[],[]⟩,⟨gQ 41 40,true,[40],[],true,[],[],[]⟩,gH (gi 42 1 32 41),gH (gQ 43 42),gH (gA 6 43)] [0,4,6] [0,4]) .sk)) Zl)) .sk)) Zo)),[]⟩
def Zq:AC:=(.sq (.bl 1 (.sq ZaV (rG [gM 15 5,gM 16 7,gM 17 16,hM 18 1 17 true,hM 19 6 17 true,hi 20 1 18 19 17 true,hQ 21 20 17 true,gk 22 17 21 Zaa,gz 23 (.bs 4 1 [22]),gp 24 (.ap 4 1 1 15 23),gA 5 24] ZaN []))) ZbK)
def Zr:AC:=.kp ZaN [] Zq
def Zs:AC:=(.sq ZbW (.sq Zbm Zr))
def Q7:bX:=⟨ZaN,[],Zs⟩
def Zt:bL:=⟨(.sq Zcr (.sq (rG [gA 5 (.c .n)] [0,1,5] []) (.sq (.sq Zby (.bl 0 Q7.lp)) ZbX))),[.t 4]⟩
def Zu:AC:=(.sq (.bl 1 (.sq ZaV (rG [gM 15 5,gM 16 7,gM 17 16,hM 18 1 17 false,hM 19 6 17 false,hi 20 1 18 19 17 false,hQ 21 20 17 false,gp 22 (.pk 17 Zac 21),gz 23 (.bs 4 1 [22]),gp 24 (.ap 4 1 1 15 23),gA 5 24] ZaN []))) ZbK)
def Zv:AC:=.kp ZaN [] Zu
def Zw:AC:=(.sq ZbW (.sq Zbm Zv))
def Q8:bX:=⟨ZaN,[],Zw⟩
def Zx:bL:=⟨(.sq Zcr (.sq (rG [gA 5 (.c .n)] [0,1,5] []) (.sq (.sq Zby (.bl 0 Q8.lp)) ZbX))),[.t 4]⟩
def Zy:bL:=⟨(.sq ZaR (.sq (.bl 0 (.sq (rG [gF 4 0 1,gQ 5 4,gB 6 .lss 5 (kI 1),gM 7 6,hF 8 0 1 7 false,hQ 9 8 7 false,hB 10 .gtr 9 (kI 6) 7 false,gp 11 (.pk 7 Zac 10),gA 3 11] [1,3] [1]) (.ite 3 (.sq (rG [gA 2 (kI 3)] [2] []) .rt) (.sq (rG [gF 13 1 1,gQ 14 13,gl 15 14,gB 16 .gtr 15 (kI 20),gA 12 16] [1,12] [1]) (.ite 12 ZaY (.sq (.rg [.fzB 1 true] [gF 18 1 1,gQ 19 18,gp 20 (.mf 203 [1]),gp 21 (.c2 202 [19,20]),gA 17 21] [17] []) (.ite 17 Zcp .sk))))))) Zba)),[.t 2]⟩
def Zz:bL:=⟨(.sq (rG [gA 3 Zaa] [0,1] [1]) (.sq (rG [gF 4 0 1,gC 5 2 4,gM 6 0,ga 7 132 [5,6],gn 8 7,gA 3 8] [3] []) .rt)),[.t 3]⟩
def ZA:AC:=(.sq (.bl 1 (.sq (rG [gi 13 1 9 11,gQ 14 13,gA 5 14] [0,3,5,9,10,11] []) (.sq (rG [gM 15 3,gM 16 5,gl 17 16,gB 18 .add 15 17,gA 3 18] ZbS []) (.sq (rG [gM 19 3,gB 20 .lss 19 (kI 0)] [0,3,9,10,11,20] []) (.ite 20 .bad .sk))))) (rG [gB 22 .add 11 (kI 1),gM 11 22] ZbS []))
def ZB:AC:=.kp ZbS [] ZA
def ZC:AC:=(.sq (rG [gB 12 .lss 11 10] [0,3,9,10,11,12] []) (.sq ZaB ZB))
def Q9:bX:=⟨ZbS,[],ZC⟩
def ZD:AC:=(.sq (.bl 3 (.sq (rG [gi 29 1 25 27,gQ 30 29,gA 8 30] [6,8,25,26,27] []) (rG [gM 31 6,gM 32 8,gp 33 (.ap 83 2 48 31 32),gA 6 33] Zci []))) (rG [gB 34 .add 27 (kI 1),gM 27 34] Zci []))
def ZE:AC:=.kp Zci [] ZD
def ZF:AC:=(.sq (rG [gB 28 .lss 27 26] [6,25,26,27,28] []) (.sq (.ite 28 .sk (.ex 2)) ZE))
def Ra:bX:=⟨Zci,[],ZF⟩
def ZG:AC:=(.sq (rG [gM 23 3,gp 24 (.cr 83 204 [(.c .n),23]),gA 6 24] [0,6] []) (.sq (.sq (.rg [.own 6 83] [gM 25 0,gl 26 25,gM 27 (kI 0)] Zci []) (.bl 2 Ra.lp)) (.sq (rG [gM 35 6,gA 2 35] [2,6] []) .rt)))
def ZH:AC:=.kp [0,3] [] ZG
def ZI:bL:=⟨(.sq (rG [gA 2 (.c ZaD)] [0] []) (.sq (rG [gA 3 (kI 0)] [0,3] []) (.sq (.sq (rG [gM 9 0,gl 10 9,gM 11 (kI 0)] ZbS []) (.bl 0 Q9.lp)) ZH))),[.t 2]⟩
def ZJ:AC:=(.sq (.bl 3 (.sq (rG [gi 27 2 23 25,gC 28 2 27,gp 8 (.al [Zab,Zbv]),gS 2 8 28] [2,8,14,15,16,23,24,25] [2,8]) (.sq (rG [gC 29 2 2,gC 30 2 8,ga 31 205 [29,30],gA 9 31] [2,9,14,15,16,23,24,25] [2]) (.sq (rG [gM 32 9,gB 33 .neq 32 (kI 0)] [2,9,14,15,16,23,24,25,33] [2]) (.ite 33 (.sq (rG [gM 34 9,gA 4 34] [4] []) .rt) .sk))))) (rG [gB 35 .add 25 (kI 1),gM 25 35] Zbo [2]))
def ZK:AC:=.kp Zbo [2] ZJ
def ZL:AC:=(.sq (rG [gB 26 .lss 25 24] [2,14,15,16,23,24,25,26] [2]) (.sq (.ite 26 .sk (.ex 2)) ZK))
def Rb:bX:=⟨Zbo,[2],ZL⟩
def ZM:AC:=(.sq (rG [gM 23 6,gl 24 23,gM 25 (kI 0)] Zbo [2]) (.bl 2 Rb.lp))
def ZN:AC:=.kp [2,6,14,15,16] [2] ZM
def ZO:AC:=(.sq (.bl 1 (.sq (rG [gi 18 1 14 16,gQ 19 18,gA 6 19] [2,6,14,15,16] [2]) (.sq (.sq (rG [gM 20 6,gl 21 20,gB 22 .gtr 21 (kI 4)] [2,6,14,15,16,22] [2]) (.ite 22 ZaF .sk)) ZN))) (rG [gB 36 .add 16 (kI 1),gM 16 36] [2,14,15,16] [2]))
def ZP:AC:=.kp [2,14,15,16] [2] ZO
def ZQ:AC:=(.sq (rG [gB 17 .lss 16 15] [2,14,15,16,17] [2]) (.sq (.ite 17 .sk (.ex 0)) ZP))
def Rc:bX:=⟨[2,14,15,16],[2],ZQ⟩
def ZR:bL:=⟨(.sq ZaC (.sq (.sq (rG [gF 10 0 3,gQ 11 10,gF 12 1 3,gQ 13 12,gz 14 (.bs 81 1 [11,13]),gl 15 14,gM 16 (kI 0)] [2,14,15,16] [2]) (.bl 0 Rc.lp)) Zap)),[.t 4]⟩
def ZS:bL:=⟨(.sq Zau (.sq (rG [gM 5 0,gM 6 1,gp 7 (.c2 206 [5,6]),gB 8 .geq 7 (kI 0),gA 4 8] [4] []) .rt)),[.t 4]⟩
def ZT:bL:=⟨(.sq Zcm (.sq (rG [gF 3 0 1,gQ 4 3,gn 5 4,gM 6 5,hF 7 1 1 6 true,hF 8 0 7 6 true,hQ 9 8 6 true,hl 10 9 6 true,hF 11 1 1 6 true,hF 12 1 11 6 true,hQ 13 12 6 true,hl 14 13 6 true,hB 15 .add 10 14 6 true,hB 16 .gtr 15 (kI 0) 6 true,gk 17 6 16 Zaa,gA 2 17] [2] []) .rt)),[.t 2]⟩
def ZU:bL:=⟨(.sq (rG [gp 3 (.bx 0),gA 5 Zaa] [1,2] [2]) (.sq (rG [gQ 6 2,gB 7 .add 6 (kI 1),gS 1 2 7] [1,2] [2]) (.sq (rG [gQ 8 2,gB 9 .leq 8 (kI 50),gM 10 9,hM 11 1 10 true,hB 12 .leq 11 (kI 6) 10 true,gk 13 10 12 Zaa,gA 5 13] [5] []) .rt))),[.t 5]⟩
def ZV:bL:=⟨(.sq Zau (.sq (rG [gM 5 0,gM 6 1,ga 7 207 [5,6],gB 8 .geq 7 (kI 0),gA 4 8] [4] []) .rt)),[.t 4]⟩
def ZW:bL:=⟨(.sq (rG [gp 4 (.bx 0),gA 6 Zaa] [2,3,4] [2,3,4]) (.sq (rG [gQ 7 2,gC 8 9 4,gp 9 (.c3 170 [7,8]),gS 1 3 9] [3] [3]) (.sq (rG [gQ 10 3,gB 11 .eql 10 (kI 0),gA 6 11] [6] []) .rt))),[.t 6]⟩
def ZX:AC:=(.sq (.bl 2 (.sq (rG [gi 175 3 171 173,gC 176 3 175,gp 13 Zaz,gS 3 13 176] [0,13,171,172,173] [0,13]) (.sq (.dg [] [] [xC 177 3 13 [13],uM 178 0,gU (gp 179 (.nc 178)) [178],uF 180 0 179,uF 181 5 180,⟨gQ 182 181,true,[181],[],true,[],[],[]⟩,⟨gl 183 182,true,[182],[],true,[],[],[]⟩,gH (ga 184 102 [177,183]),gH (gA 14 184)] [0,14,171,172,173] [0]) (.sq (rG [gM 185 14,gB 186 .neq 185 (kI 0)] [0,14,171,172,173,186] [0]) (.ite 186 (.sq (rG [gM 187 14,gA 4 187] [4] []) .rt) .sk))))) (rG [gB 188 .add 173 (kI 1),gM 173 188] Zcf [0]))
def ZY:AC:=.kp Zcf [0] ZX
def G8:AC:=(.sq (rG [gB 174 .lss 173 172] [0,171,172,173,174] [0]) (.sq (.ite 174 .sk (.ex 1)) ZY))
def Rd:bX:=⟨Zcf,[0],G8⟩
def ZZ:AC:=(.sq (.sq (rG [gF 170 6 3,gQ 171 170,gl 172 171,gM 173 (kI 0)] Zcf [0]) (.bl 1 Rd.lp)) Zap)
def Re:AC:=.kp [0,3] [0,3] ZZ
def Z1:AC:=(.sq (.sq (rG [gM 157 8] [0,3,157] [0,3]) (.ite 157 (.sq (.dg [] [] [uF 158 3 3,xC 159 3 158 [3],uM 160 0,gU (gp 161 (.nc 160)) [160],uF 162 0 161,uF 163 5 162,⟨gQ 164 163,true,[163],[],true,[],[],[]⟩,⟨gl 165 164,true,[164],[],true,[],[],[]⟩,gH (ga 166 102 [159,165]),gH (gA 11 166)] [0,3,11] [0,3]) (.sq (rG [gM 167 11,gB 168 .neq 167 (kI 0)] [0,3,11,168] [0,3]) (.ite 168 (.sq (rG [gM 169 11,gA 4 169] [4] []) .rt) .sk))) .sk)) Re)
def Z2:AC:=.kp [0,3,8] [0,3] Z1
def Z3:AC:=(.sq (rG [gM 24 5,ga 25 208 [24],gM 23 25,ge 26 23 0,ge 27 23 1,ge 28 23 2,gA 6 26,gA 7 27,gA 8 28] [0,3,5,6,7,8] [0,3]) (.sq (rG [gM 29 5,gB 30 .geq 29 (kI 7),gA 9 30] [0,3,5,6,7,8,9] [0,3]) (.sq (rG [gF 31 3 3,gF 32 0 31,gQ 33 32,gB 34 .eql 33 (kI 0),gM 35 34,hF 36 3 3 35 true,hF 37 1 36 35 true,hQ 38 37 35 true,hB 39 .eql 38 (kI 0) 35 true,gk 40 35 39 Zaa,gM 41 40,hF 42 3 3 41 true,hF 43 2 42 41 true,hQ 44 43 41 true,hl 45 44 41 true,hB 46 .eql 45 (kI 0) 41 true,gk 47 41 46 Zaa,gA 10 47] [0,3,5,6,7,8,9,10] [0,3]) (.sq (.bl 0 (.sq (.dg [] [] [uM 49 6,uM 50 49,qK 51 1 3 50 true,JQ 52 51 50 true [3],gU (hB 53 .lss 52 (kI 0) 50 true) [52],kN 54 53 50 true,qK 55 1 3 54 false,JQ 56 55 54 false [3],kN 57 0 54 false,gU (gg 58 (.nc 57) 54 false) [57],qK 59 0 58 54 false,qK 60 5 59 54 false,⟨hQ 61 60 54 false,true,[60],[],true,[],[],[]⟩,⟨hl 62 61 54 false,true,[61],[],true,[],[],[]⟩,gU (hB 63 .geq 56 62 54 false) [56,62],gU (gg 64 (.pk 54 Zac 63) 50 true) [54,63],gU (gk 65 50 64 Zaa) [50,64],uM 66 65,kN 67 7 66 false,kN 68 67 66 false,qK 69 2 3 68 true,JQ 70 69 68 true [3],gU (hB 71 .lss 70 (kI 0) 68 true) [70],kN 72 71 68 true,qK 73 2 3 72 false,JQ 74 73 72 false [3],kN 75 0 72 false,kN 76 5 72 false,⟨gg 77 (.c3 209 [75,76]) 72 false,true,[75,76],[],true,[],[],[]⟩,gH (hB 78 .geq 74 77 72 false),gH (gg 79 (.pk 72 Zac 78) 68 true),gH (hk 80 68 79 Zaa 66 false),gH (gp 81 (.pk 66 Zac 80)),gH (gA 48 81)] [0,3,5,6,7,8,9,10,48] [0,3]) (.ite 48 Zao (.sq (rG [gM 83 6,gn 84 83,gM 85 84,hF 86 1 3 85 true,hQ 87 86 85 true,hB 88 .neq 87 (kI 0) 85 true,gk 89 85 88 Zaa,gM 90 89,hM 91 7 90 false,hn 92 91 90 false,hM 93 92 90 false,hF 94 2 3 93 true,hQ 95 94 93 true,hB 96 .neq 95 (kI 0) 93 true,hk 97 93 96 Zaa 90 false,gp 98 (.pk 90 Zac 97),gM 99 98,hM 100 8 99 false,hn 101 100 99 false,hM 102 101 99 false,hM 103 10 102 true,hn 104 103 102 true,hk 105 102 104 Zaa 99 false,gp 106 (.pk 99 Zac 105),gM 107 106,hM 108 5 107 false,hB 109 .neq 108 (kI 2) 107 false,hM 110 109 107 false,hF 111 6 3 110 true,hQ 112 111 110 true,hl 113 112 110 true,hB 114 .gtr 113 (kI 0) 110 true,hk 115 110 114 Zaa 107 false,gp 116 (.pk 107 Zac 115),gM 117 116,hM 118 9 117 false,hn 119 118 117 false,hM 120 119 117 false,hF 121 7 3 120 true,hQ 122 121 120 true,hl 123 122 120 true,hB 124 .gtr 123 (kI 0) 120 true,hk 125 120 124 Zaa 117 false,gp 126 (.pk 117 Zac 125),gM 127 126,hM 128 5 127 false,hB 129 .neq 128 (kI 7) 127 false,hM 130 129 127 false,hF 131 8 3 130 true,hQ 132 131 130 true,hl 133 132 130 true,hB 134 .gtr 133 (kI 0) 130 true,hk 135 130 134 Zaa 127 false,gp 136 (.pk 127 Zac 135),gA 82 136] [0,3,5,8,82] [0,3]) (.ite 82 Zbc (.sq (.dg [] [] [uM 138 5,gU (gB 139 .eql 138 (kI 2)) [138],uM 140 139,qK 141 6 3 140 true,JQ 142 141 140 true [3],xhl 143 142 140 true [3],kN 144 0 140 true,gU (gg 145 (.nc 144) 140 true) [144],qK 146 0 145 140 true,qK 147 6 146 140 true,⟨hQ 148 147 140 true,true,[147],[],true,[],[],[]⟩,qK 149 2 3 140 true,JQ 150 149 140 true [3],⟨hi 151 5 148 150 140 true,true,[148,150],[],true,[],[],[]⟩,⟨hF 152 0 151 140 true,true,[151],[],true,[],[],[]⟩,⟨hQ 153 152 140 true,true,[152],[],true,[],[],[]⟩,uhl 154 153 140 true,gH (hB 155 .neq 143 154 140 true),gH (gk 156 140 155 Zaa),gH (gA 137 156)] [0,3,8,137] [0,3]) (.ite 137 Zbc .sk))))))) Z2))))
def Z4:AC:=.kp [0,3,5] [0,3] Z3
def Tl:bL:=⟨(.sq ZbJ (.sq (rG [gF 15 0 3,gQ 16 15,gA 5 16] [0,3,5] [0,3]) (.sq (.sq (rG [gM 17 5,gB 18 .lss 17 (kI 1),gM 19 18,hM 20 5 19 false,hB 21 .gtr 20 (kI 8) 19 false,gp 22 (.pk 19 Zac 21)] [0,3,5,22] [0,3]) (.ite 22 ZaZ .sk)) Z4))),[.t 4]⟩
def Z5:bL:=⟨(.sq ZaA (.sq (rG [gC 7 2 2,ga 8 113 [7],gp 5 (.al [(.l 32 [])]),gS 1 5 8] Zbe Zbe) (.sq (.rg [.fzB 2 true,.fzB 5 false] [gp 9 (.mf 210 [2,5]),gA 6 9] [3,4,6] Zbe) (.sq (.dg [] [] [uM 10 6,uF 11 0 3,xQ 12 11 [3],gX (gp 13 (.cf 0 10 [12])) [10,12] [3],uM 14 6,uF 15 1 3,xQ 16 15 [3],gH (gp 17 (.d2 14 [16])),gH (gp 18 (.bd ZaU [(0,1,13),(1,1,17)])),gH (gS 2 4 18)] [4] [4]) .rt)))),[.c 4 (some 2)]⟩
def Z6:AC:=(.sq (.dg [] [] [uF 36 0 11,xC 37 2 36 [11],uM 38 12,uF 39 2 11,xQ 40 39 [11],⟨gi 41 2 38 40,true,[38,40,12],[],true,[],[],[]⟩,⟨gC 42 2 41,true,[41,12],[],true,[],[],[]⟩,gH (ga 43 174 [37,42]),gH (gn 44 43)] [4,5,6,11,12,16,17,18,44] ZbL) (.ite 44 (.sq (.dg [] [] [uM 45 12,uF 46 2 11,xQ 47 46 [11],uM 48 12,uF 49 2 11,xQ 50 49 [11],⟨gi 51 2 48 50,true,[48,50,12],[],true,[],[],[]⟩,⟨gC 52 2 51,true,[51,12],[],true,[],[],[]⟩,uF 53 0 11,xC 54 2 53 [11],gU (ga 55 115 [52,54]) [52,54],gH (gi 56 2 45 47),gH (gS 2 56 55)] Zbd [4,5,6]) (rG [gS 1 6 Zac] Zbd [4,5,6])) .sk))
def Rf:AC:=.kp Zca ZbL Z6
def Z7:AC:=(.sq (.bl 1 (.sq (rG [gi 20 4 16 18,gC 21 4 20,gp 11 (.al Zah),gS 4 11 21] [4,5,6,11,16,17,18] ZbL) (.sq (rG [gF 22 1 4,gQ 23 22,gA 12 23] Zca ZbL) (.sq (.sq (rG [gF 24 3 11,gQ 25 24,gn 26 25] [4,5,6,11,12,16,17,18,26] ZbL) (.ite 26 (.sq (rG [gF 27 0 4,gQ 28 27,gA 12 28] Zca ZbL) (.sq (rG [gF 29 5 5,gQ 30 29,gF 31 2 11,gQ 32 31,gi 33 3 30 32,gF 34 0 33,gQ 35 34] [4,5,6,11,12,16,17,18,35] ZbL) (.ite 35 (.ex 1) .sk))) .sk)) Rf)))) (rG [gB 57 .add 18 (kI 1),gM 18 57] Zbd [4,5,6]))
def Z8:AC:=.kp Zbd [4,5,6] Z7
def G9:AC:=(.sq (rG [gB 19 .lss 18 17] [4,5,6,16,17,18,19] [4,5,6]) (.sq Zbl Z8))
def Rg:bX:=⟨Zbd,[4,5,6],G9⟩
def Z9:bL:=⟨(.sq (rG [gp 8 (.bx 1),gp 9 (.bx 2)] [3,4,5,6,8,9] [3,4,5,6,8,9]) (.sq (rG [gQ 13 3,gC 14 9 8,gC 15 2 9,gp 16 (.c2 173 [13,14,15]),gl 17 16,gM 18 (kI 0)] Zbd [4,5,6]) (.bl 0 Rg.lp))),[]⟩
def aaa:AC:=(.sq (.bl 2 (.sq (rG [gM 41 39,gi 42 3 37 39,gC 43 3 42,gp 11 Zaz,gA 10 41,gS 3 11 43] [4,5,7,8,9,10,11,37,38,39] [0,3,4,5,8,11]) (.dg [] [54] [vM 44 9 [54],vM 45 7 [54],yC 46 3 11 [11] [54],⟨gp 47 (.d3 45 [46]),true,[45,46],[3,5],true,[],[54],[]⟩,vF 48 0 8 [54],yQ 49 48 [8] [54],vM 50 10 [54],yi 51 1 49 50 [8] [54],yQ 52 51 [8] [54],gL (gp 53 (.bd Zah [(0,2,47),(2,1,52),(3,1,Zaa)])) [47,52] [54],gU (gz 54 (.bs 235 4 [53])) [53],gH (gp 55 (.ap 235 4 64 44 54)),gH (gA 9 55)] ZaX Zbf))) (rG [gB 56 .add 39 (kI 1),gM 39 56] ZaX Zbf))
def aab:AC:=.kp ZaX Zbf aaa
def Ha:AC:=(.sq (rG [gB 40 .lss 39 38] [4,5,7,8,9,37,38,39,40] Zbf) (.sq (.ite 40 .sk (.ex 1)) aab))
def Hb:bX:=⟨ZaX,Zbf,Ha⟩
def Rh:AC:=(.sq (.dg [] [69] [vM 57 9 [69],vM 58 7 [69],vF 59 2 8 [69],yC 60 3 59 [8] [69],⟨gp 61 (.d3 58 [60]),true,[58,60],[3,5],true,[],[69],[]⟩,vF 62 1 4 [69],yQ 63 62 [4] [69],gL (gp 64 (.bd Zah [(0,2,61),(2,1,63),(3,1,Zaa)])) [61,63] [69],yC 65 2 5 [5] [69],vF 66 2 4 [69],yQ 67 66 [4] [69],gL (gp 68 (.bd Zah [(0,2,65),(2,1,67),(3,1,Zac)])) [65,67] [69],gU (gz 69 (.bs 235 4 [64,68])) [64,68],gH (gz 70 (.ap 235 4 64 57 69)),gH (gA 6 70)] [6] []) .rt)
def aac:AC:=.kp [4,5,7,8,9] Zbf Rh
def DK:bL:=⟨(.sq (rG [gp 3 (.bx 0),gp 4 (.bx 1),gp 5 (.bx 2),gA 6 (.c (.l 235 []))] [3,4,5] ZbM) (.sq (.rg [.fzB 5 true] [gp 12 (.mf 214 [5,3]),gA 7 12] [3,4,5,7] ZbM) (.sq (.sq (rG [gF 13 0 4,gQ 14 13] [3,4,5,7,14] ZbM) (.bl 0 (.sq (rG [gB 16 .eql 14 (kI 1),gA 15 16] [3,4,5,7,14,15] ZbM) (.ite 15 (.sq (.dg [] [] [uM 17 7,uF 18 3 4,xC 19 3 18 [4],⟨gp 20 (.d3 17 [19]),true,[17,19],[3,5],true,[],[],[]⟩,uF 21 1 4,xQ 22 21 [4],gH (gp 23 (.bd Zah [(0,2,20),(2,1,22),(3,1,Zaa)])),gH (gz 24 (.bs 235 4 [23])),gH (gA 6 24)] [6] []) .rt) (.sq (rG [gB 26 .eql 14 (kI 2),gA 25 26] [3,4,5,7,14,25] ZbM) (.ite 25 (.sq (.dg [] [8] [⟨gQ 27 3,true,[3],[3],true,[],[8],[]⟩,gL (gp 28 (.nc 27)) [27] [8],vF 29 0 28 [8],vF 30 6 29 [8],⟨gQ 31 30,true,[30],[],true,[],[8],[]⟩,vF 32 2 4 [8],yQ 33 32 [4] [8],vi 34 5 31 33 [8],vC 35 5 34 [8],gU (gp 8 Zai) [],gH (gS 5 8 35)] [4,5,7,8] Zbf) (.sq (rG [gA 9 (.c .n)] [4,5,7,8,9] Zbf) (.sq (.sq (.rg [.own 9 235] [gF 36 6 4,gQ 37 36,gl 38 37,gM 39 (kI 0)] ZaX Zbf) (.bl 1 Hb.lp)) aac))) (.sq (rG [gB 72 .eql 14 (kI 3),gA 71 72] [3,4,5,7,14,71] ZbM) (.ite 71 (.sq (.dg [] [] [xC 73 2 5 [5],⟨gQ 74 3,true,[3],[3],true,[],[],[]⟩,gU (gp 75 (.nc 74)) [74],uF 76 0 75,uF 77 0 76,⟨gC 78 2 77,true,[77],[],true,[],[],[]⟩,⟨gQ 79 3,true,[3],[3],true,[],[],[]⟩,gU (gp 80 (.nc 79)) [79],uF 81 0 80,uF 82 3 81,⟨gQ 83 82,true,[82],[],true,[],[],[]⟩,uF 84 2 4,xQ 85 84 [4],ui 86 2 83 85,uC 87 2 86,gU (ga 88 171 [78,87]) [78,87],gU (ga 89 115 [73,88]) [73,88],uF 90 1 4,xQ 91 90 [4],gH (gp 92 (.bd Zah [(0,2,89),(2,1,91),(3,1,Zaa)])),gH (gz 93 (.bs 235 4 [92])),gH (gA 6 93)] [6] []) .rt) (.sq (rG [gB 95 .eql 14 (kI 5),gA 94 95] [4,5,7,14,94] ZbM) (.ite 94 (.sq (.dg [] [] [uF 96 0 5,xQ 97 96 [5],uM 98 7,uF 99 3 4,xC 100 3 99 [4],⟨gp 101 (.d3 98 [100]),true,[98,100],[3,5],true,[],[],[]⟩,gU (gp 102 (.fd none 1 101)) [101],gU (gp 103 (.bd ZaU [(0,1,97),(1,1,102)])) [97,102],uF 104 1 4,xQ 105 104 [4],gH (gp 106 (.bd Zah [(0,2,103),(2,1,105),(3,1,Zaa)])),gH (gz 107 (.bs 235 4 [106])),gH (gA 6 107)] [6] []) .rt) (.sq (rG [gB 109 .eql 14 (kI 6),gA 108 109] [4,5,7,108] ZbM) (.ite 108 (.sq (.dg [] [] [uM 110 7,uF 111 3 4,xC 112 3 111 [4],⟨gp 113 (.d3 110 [112]),true,[110,112],[3,5],true,[],[],[]⟩,gU (gp 114 (.fd none 0 113)) [113],uF 115 1 5,xQ 116 115 [5],gU (gp 117 (.bd ZaU [(0,1,114),(1,1,116)])) [114,116],uF 118 1 4,xQ 119 118 [4],gH (gp 120 (.bd Zah [(0,2,117),(2,1,119),(3,1,Zaa)])),gH (gz 121 (.bs 235 4 [120])),gH (gA 6 121)] [6] []) .rt) .sk)))))))))))) (.sq (rG [gA 6 (.c (.l 235 []))] [6] []) .rt)))),[.t 6]⟩
def aad:bL:=⟨(.sq (rG [gp 2 (.bx 0),gp 3 (.bx 1),gA 4 Zaa] [2,3] [2,3]) (.sq (rG [gF 5 0 3,gQ 6 5,gF 7 0 2,gQ 8 7,ga 9 215 [6,8],gM 10 9,hF 11 1 2 10 true,hQ 12 11 10 true,hF 13 1 3 10 true,hQ 14 13 10 true,ha 15 215 [12,14] 10 true,gk 16 10 15 Zaa,gA 4 16] [4] []) .rt)),[.t 4]⟩
def Tm:bL:=⟨(.sq (rG [gp 3 (.bx 0),gp 4 (.bx 1),gp 5 (.bx 2),gp 6 Zad] [3,4,5,6] [3,4,5,6]) (.sq (rG [gF 9 0 3,gC 10 2 9,ga 11 66 [10],gp 7 Zad,gS 2 7 11] [4,5,6,7] [4,5,6,7]) (.sq (.sq (rG [gC 12 3 5,ga 13 218 [12]] [4,6,7,13] [4,6,7]) (.bl 0 (.ru 13 14 (rG [gA 8 14] [4,6,7,8] [4,6,7]) (.bl 1 (.dg [] [] [⟨gC 15 2 7,true,[7],[],true,[],[],[]⟩,⟨gQ 16 4,true,[4],[],true,[],[],[]⟩,uM 17 8,⟨gi 18 2 16 17,true,[16,17],[],true,[],[],[]⟩,⟨gC 19 2 18,true,[18],[],true,[],[],[]⟩,gH (ga 20 115 [15,19]),gH (gS 2 7 20)] [4,6,7] [4,6,7]))))) (.sq (rG [gC 21 2 7,gS 2 6 21] [6] [6]) .rt)))),[.c 6 (some 2)]⟩
def aae:AC:=(.sq (.bl 1 (.sq (rG [gi 13 9 9 11,gC 14 9 13,gp 7 Zax,gS 9 7 14] [0,5,7,9,10,11] [0,5,7]) (.sq (.dg [] [] [uM 15 0,gU (gp 16 (.nc 15)) [15],uF 17 10 16,⟨gQ 18 17,true,[17],[],true,[],[],[]⟩,uM 19 0,gU (gp 20 (.nc 19)) [19],uF 21 11 20,⟨gQ 22 21,true,[21],[],true,[],[],[]⟩,xC 23 9 7 [7],xC 24 2 5 [5],gH (gp 25 (.d2 18 [22,23,24]))] [0,5,7,9,10,11] [0,5,7]) (.sq (rG [gM 26 0,gp 27 (.nc 26),gF 28 11 27,gQ 29 28,gB 30 .add 29 (kI 1),gp 31 (.nc 26),gF 32 11 31,gS 1 32 30] [0,5,7,9,10,11] [0,5,7]) (.sq (rG [gF 33 0 7,gQ 34 33,gB 35 .geq 34 (kI 7)] [0,5,7,9,10,11,35] [0,5,7]) (.ite 35 (.sq (.dg [] [8] [yC 36 2 5 [5] [8],vM 37 0 [8],gL (gp 38 (.nc 37)) [37] [8],vF 39 0 38 [8],⟨gC 40 8 39,true,[39],[],true,[],[8],[]⟩,vM 41 0 [8],gL (gp 42 (.nc 41)) [41] [8],vF 43 8 42 [8],vF 44 0 43 [8],⟨gQ 45 44,true,[44],[],true,[],[8],[]⟩,vF 46 3 7 [8],yC 47 3 46 [7] [8],⟨ga 48 177 [40,45,47],true,[40,45,47],[],true,[],[8],[]⟩,gL (ga 49 115 [36,48]) [36,48] [8],gU (gp 8 Zad) [],gH (gS 2 8 49)] [0,5,7,8,9,10,11] [0,5,7,8]) (.sq (rG [gM 50 0,gF 51 7 7,gQ 52 51,gC 53 2 8,gp 54 (.c2 179 [50,52,53])] [0,5,7,8,9,10,11] [0,5,7,8]) (rG [gM 55 0,gF 56 8 7,gQ 57 56,gC 58 2 8,gp 59 (.c2 179 [55,57,58])] ZbT [0,5]))) .sk)))))) (rG [gB 60 .add 11 (kI 1),gM 11 60] ZbT [0,5]))
def aaf:AC:=.kp ZbT [0,5] aae
def DL:AC:=(.sq (rG [gB 12 .lss 11 10] [0,5,9,10,11,12] [0,5]) (.sq ZaB aaf))
def Ri:bX:=⟨ZbT,[0,5],DL⟩
def aag:bL:=⟨(.sq (rG [gp 5 (.bx 2)] [0,1,5] [0,5]) (.sq (rG [gM 9 1,gl 10 9,gM 11 (kI 0)] ZbT [0,5]) (.bl 0 Ri.lp))),[]⟩
def aah:AC:=(.sq (.dg [] [] [uF 18 0 3,xQ 19 18 [3],uM 20 0,gU (gp 21 (.nc 20)) [20],uF 22 10 21,⟨gQ 23 22,true,[22],[],true,[],[],[]⟩,gH (gi 24 1 19 23),gH (gQ 25 24),gH (gA 4 25)] [4] []) .rt)
def aai:AC:=.kp [0,3] [0,3] aah
def aaj:bL:=⟨(.sq Zas (.sq (.sq (rG [gM 5 0,gp 6 (.nc 5),gF 7 11 6,gQ 8 7] [0,3,8] [0,3]) (.ite 8 (.sq (.dg [] [] [uF 9 1 3,xQ 10 9 [3],uM 11 0,gU (gp 12 (.nc 11)) [11],uF 13 10 12,⟨gQ 14 13,true,[13],[],true,[],[],[]⟩,gH (gi 15 1 10 14),gH (gQ 16 15),gH (gn 17 16),gH (gA 4 17)] [4] []) .rt) .sk)) aai)),[.t 4]⟩
def aak:AC:=(.sq (.bl 3 (.sq (rG [gM 29 7,gF 30 1 3,gQ 31 30,gM 32 9,gi 33 2 31 32,gF 34 0 33,gQ 35 34,gi 36 1 29 35,gQ 37 36] [2,3,7,8,9,37] [3]) (.ite 37 (rG [gM 38 7,gF 39 1 3,gQ 40 39,gM 41 9,gi 42 2 40 41,gF 43 1 42,gQ 44 43,gi 45 1 38 44,gS 1 45 Zac] Zcw [3]) .sk))) (rG [gM 27 9,gB 28 .add 27 (kI 1),gA 9 28] Zcw [3]))
def aal:AC:=.kp Zcw [3] aak
def aam:AC:=(.sq (.sq (rG [gM 22 9,gF 23 1 3,gQ 24 23,gl 25 24,gB 26 .lss 22 25] [2,3,7,8,9,26] [3]) (.ite 26 .sk (.ex 2))) aal)
def Rj:bX:=⟨Zcw,[3],aam⟩
def aan:AC:=(.sq (.bl 1 (.sq (rG [gA 9 (kI 0)] Zcw [3]) (.bl 2 Rj.lp))) (rG [gM 20 8,gB 21 .add 20 (kI 1),gA 8 21] [2,3,7,8] [3]))
def aao:AC:=.kp [2,3,7,8] [3] aan
def aap:AC:=(.sq (.sq (rG [gM 16 8,gF 17 0 3,gQ 18 17,gB 19 .lss 16 18] [2,3,7,8,19] [3]) Zbl) aao)
def Rk:bX:=⟨[2,3,7,8],[3],aap⟩
def aaq:AC:=(.sq (rG [gM 46 7,gM 47 2,gi 48 1 46 47,gQ 49 48,gA 6 49] [6] []) .rt)
def aar:AC:=.kp [2,7] [] aaq
def aas:bL:=⟨(.sq ZaP (.sq (rG [gF 10 0 3,gQ 11 10,gp 12 (.ms 4 1 1 Zcl 11),gA 7 12] ZcB [3]) (.sq (rG [gM 13 7,gM 14 1,gi 15 1 13 14,gS 1 15 Zac] [2,3,7] [3]) (.sq (.sq (rG [gA 8 (kI 0)] [2,3,7,8] [3]) (.bl 0 Rk.lp)) aar)))),[.t 6]⟩
def Rm:AC:=(.sq (.bl 0 (.sq (rG [gF 18 2 2,gQ 19 18,gl 20 19,gM 21 5,gB 22 .neq 20 21,gA 17 22] [1,2,5,17] [2]) (.ite 17 Zbc (.sq (rG [gF 24 0 2,gQ 25 24,gB 26 .eql 25 (kI 1),gM 27 26,hF 28 1 2 27 true,hQ 29 28 27 true,gg 30 (.bo .lss false 29 (kI (-9999999))) 27 true,hM 31 30 27 true,hF 32 1 2 31 false,hQ 33 32 31 false,hB 34 .gtr 33 (kI 9999999) 31 false,gg 35 (.pk 31 Zac 34) 27 true,gk 36 27 35 Zaa,gM 37 36,hM 38 5 37 false,hB 39 .gtr 38 (kI 0) 37 false,hM 40 39 37 false,hF 41 1 2 40 true,hQ 42 41 40 true,hB 43 .neq 42 (kI 0) 40 true,hk 44 40 43 Zaa 37 false,gp 45 (.pk 37 Zac 44),gA 23 45] [1,2,23] [2]) (.ite 23 (.sq (rG [gA 4 (kI 3)] [4] []) .rt) (.sq (rG [gF 47 0 2,gQ 48 47,gB 49 .eql 48 (kI 2),gM 50 49,hF 51 1 2 50 true,hQ 52 51 50 true,hB 53 .lss 52 (kI 0) 50 true,hM 54 53 50 true,hF 55 1 2 54 false,hQ 56 55 54 false,hM 57 1 54 false,hB 58 .geq 56 57 54 false,gg 59 (.pk 54 Zac 58) 50 true,gk 60 50 59 Zaa,gA 46 60] [46] []) (.ite 46 Zao .sk))))))) Zap)
def aat:AC:=.kp [1,2,5] [2] Rm
def aau:AC:=(.sq (rG [gA 5 (kI 0)] [1,2,5] [2]) (.sq (.sq (rG [gF 14 0 2,gQ 15 14,gB 16 .gtr 15 (kI 2)] [1,2,5,16] [2]) (.ite 16 (rG [gA 5 (kI 2)] [1,2,5] [2]) .sk)) aat))
def aav:AC:=.kp [1,2] [2] aau
def aaw:bL:=⟨(.sq Zaq (.sq (.sq (rG [gF 6 0 2,gQ 7 6,gB 8 .lss 7 (kI 1),gM 9 8,hF 10 0 2 9 false,hQ 11 10 9 false,hB 12 .gtr 11 (kI 7) 9 false,gp 13 (.pk 9 Zac 12)] [1,2,13] [2]) (.ite 13 ZaZ .sk)) aav)),[.t 4]⟩
def aax:AC:=(.sq (.bl 1 (.sq (rG [gM 26 24,gi 27 3 22 24,gC 28 3 27,gp 8 Zaz,gA 7 26,gS 3 8 28] [0,5,6,7,8,22,23,24] [0,8]) (.sq (rG [gM 29 6,gM 30 0,gC 31 3 8,gp 32 (.c3 193 [30,31]),gz 33 (.bs 113 2 [32]),gp 34 (.ap 113 2 48 29 33),gA 6 34] [0,5,6,7,22,23,24] [0]) (.sq (.dg [] [] [uM 35 0,uM 36 5,uM 37 7,ui 38 1 36 37,uQ 39 38,uM 40 6,uM 41 7,gU (gi 42 2 40 41) [40,41,6],gU (gC 43 2 42) [42,6],gH (gp 44 (.c3 224 [35,39,43])),gH (gn 45 44)] [0,5,6,22,23,24,45] [0]) (.ite 45 Zam .sk))))) (rG [gB 46 .add 24 (kI 1),gM 24 46] ZbY [0]))
def aay:AC:=.kp ZbY [0] aax
def aaz:AC:=(.sq (rG [gB 25 .lss 24 23] [0,5,6,22,23,24,25] [0]) (.sq (.ite 25 .sk (.ex 0)) aay))
def Rn:bX:=⟨ZbY,[0],aaz⟩
def aaA:AC:=(.sq (.bl 3 (.sq (rG [gM 51 49,gi 52 1 47 49,gQ 53 52,gA 9 51,gA 10 53] [0,6,9,10,47,48,49] [0]) (.dg [] [] [uM 54 0,gU (gp 55 (.nc 54)) [54],uF 56 9 55,⟨gQ 57 56,true,[56],[],true,[],[],[]⟩,uM 58 10,uM 59 6,uM 60 9,gU (gi 61 2 59 60) [59,60,6],gU (gC 62 2 61) [61,6],gH (gi 63 2 57 58),gH (gS 2 63 62)] ZbG [0]))) (rG [gB 64 .add 49 (kI 1),gM 49 64] ZbG [0]))
def aaB:AC:=.kp ZbG [0] aaA
def aaC:AC:=(.sq (rG [gB 50 .lss 49 48] [0,6,47,48,49,50] [0]) (.sq (.ite 50 .sk (.ex 2)) aaB))
def Ro:bX:=⟨ZbG,[0],aaC⟩
def aaD:AC:=(.sq (.sq (rG [gM 47 5,gl 48 47,gM 49 (kI 0)] ZbG [0]) (.bl 2 Ro.lp)) ZaI)
def aaE:AC:=.kp [0,5,6] [0] aaD
def aaF:bL:=⟨(.sq Zas (.sq (.dg [] [] [uM 11 0,gU (gp 12 (.nc 11)) [11],uF 13 1 12,uF 14 6 13,⟨gQ 15 14,true,[14],[],true,[],[],[]⟩,uF 16 2 3,xQ 17 16 [3],gH (gi 18 5 15 17),gH (gF 19 0 18),gH (gQ 20 19),gH (gA 5 20)] [0,3,5] [0,3]) (.sq (rG [gA 6 (.c .n)] [0,3,5,6] [0,3]) (.sq (.sq (.rg [.own 6 113] [gF 21 6 3,gQ 22 21,gl 23 22,gM 24 (kI 0)] ZbY [0]) (.bl 0 Rn.lp)) aaE)))),[.t 4]⟩
def aaG:AC:=(.sq (.bl 1 (.sq (rG [gi 14 3 10 12,gC 15 3 14,gp 6 Zaz,gS 3 6 15] [0,3,4,6,10,11,12] [0,3,6]) (.dg [] [24] [vM 16 4 [24],yC 17 3 6 [6] [24],vM 18 0 [24],gL (gp 19 (.nc 18)) [18] [24],vF 20 11 19 [24],vF 21 1 20 [24],⟨gQ 22 21,true,[21],[],true,[],[24],[]⟩,⟨ga 23 106 [17,22],true,[17,22],[],true,[],[24],[]⟩,gU (gz 24 (.bs 3 1 [23])) [23],gH (gp 25 (.ap 3 1 8 16 24)),gH (gA 4 25)] Zbu [0,3]))) (rG [gB 26 .add 12 (kI 1),gM 12 26] Zbu [0,3]))
def aaH:AC:=.kp Zbu [0,3] aaG
def aaI:AC:=(.sq (rG [gB 13 .lss 12 11] [0,3,4,10,11,12,13] [0,3]) (.sq Zbn aaH))
def Rp:bX:=⟨Zbu,[0,3],aaI⟩
def aaJ:AC:=(.sq (.bl 3 (.sq (rG [gM 40 38,gi 41 1 36 38,gQ 42 41,gA 7 40,gA 8 42] [0,4,7,8,36,37,38] [0]) (.dg [] [] [uM 43 0,gU (gp 44 (.nc 43)) [43],uF 45 11 44,uF 46 1 45,⟨gQ 47 46,true,[46],[],true,[],[],[]⟩,uM 48 8,uM 49 4,uM 50 7,gU (gi 51 1 49 50) [49,50,4],gU (gQ 52 51) [51,4],gH (gi 53 1 47 48),gH (gS 1 53 52)] ZbH [0]))) (rG [gB 54 .add 38 (kI 1),gM 38 54] ZbH [0]))
def aaK:AC:=.kp ZbH [0] aaJ
def aaL:AC:=(.sq (rG [gB 39 .lss 38 37] [0,4,36,37,38,39] [0]) (.sq (.ite 39 .sk (.ex 2)) aaK))
def Rq:bX:=⟨ZbH,[0],aaL⟩
def aaM:AC:=(.sq (.dg [] [] [uM 27 0,gU (gp 28 (.nc 27)) [27],uF 29 0 28,uF 30 6 29,⟨gQ 31 30,true,[30],[],true,[],[],[]⟩,uF 32 2 3,xQ 33 32 [3],⟨gi 34 5 31 33,true,[31,33],[],true,[],[],[]⟩,⟨gF 35 0 34,true,[34],[],true,[],[],[]⟩,⟨gQ 36 35,true,[35],[],true,[],[],[]⟩,ul 37 36,gU (gM 38 (kI 0)) []] ZbH [0]) (.bl 2 Rq.lp))
def aaN:AC:=.kp [0,3,4] [0,3] aaM
def aaO:bL:=⟨(.sq Zbi (.sq (rG [gA 4 (.c .n)] [0,3,4] [0,3]) (.sq (.sq (.rg [.own 4 3] [gF 9 6 3,gQ 10 9,gl 11 10,gM 12 (kI 0)] Zbu [0,3]) (.bl 0 Rp.lp)) aaN))),[]⟩
def aaP:AC:=(.sq (.dg [] [] [uM 12 0,gU (gp 13 (.nc 12)) [12],uF 14 9 13,⟨gQ 15 14,true,[14],[],true,[],[],[]⟩,uM 16 1,xC 17 2 5 [5],gH (gi 18 2 15 16),gH (gS 2 18 17)] [] []) Zat)
def aaQ:AC:=.kp [0,1,5] [0,5] aaP
def aaR:bL:=⟨(.sq ZbN (.sq (.sq (rG [gM 7 0,gM 8 1,gC 9 2 5,gp 10 (.c3 224 [7,8,9]),gn 11 10] [0,1,5,11] [0,5]) (.ite 11 Zan .sk)) aaQ)),[.t 6]⟩
def aaS:bL:=⟨(.sq (rG [gp 3 (.bx 1),gp 4 Zad] [0,3,4] [0,3,4]) (.sq (.dg [] [] [uM 5 0,⟨gp 6 (.c3 198 [5]),true,[5],[],true,[],[],[]⟩,uM 7 0,gU (gp 8 (.nc 7)) [7],uF 9 1 8,⟨gC 10 8 9,true,[9],[],true,[],[],[]⟩,uM 11 0,gU (gp 12 (.nc 11)) [11],uF 13 9 12,⟨gQ 14 13,true,[13],[],true,[],[],[]⟩,xC 15 3 3 [3],gH (ga 16 177 [10,14,15]),gH (ga 17 115 [6,16]),gH (gS 2 4 17)] [4] [4]) .rt)),[.c 4 (some 2)]⟩
def aaT:bL:=⟨(.sq Zbi (.dg [] [] [uM 4 0,gU (gp 5 (.nc 4)) [4],uF 6 11 5,uF 7 1 6,⟨gQ 8 7,true,[7],[],true,[],[],[]⟩,uF 9 1 3,xQ 10 9 [3],uM 11 0,gU (gp 12 (.nc 11)) [11],uF 13 0 12,uF 14 6 13,⟨gQ 15 14,true,[14],[],true,[],[],[]⟩,uF 16 2 3,xQ 17 16 [3],⟨gi 18 5 15 17,true,[15,17],[],true,[],[],[]⟩,⟨gF 19 2 18,true,[18],[],true,[],[],[]⟩,⟨gC 20 3 19,true,[19],[],true,[],[],[]⟩,uM 21 0,gU (gp 22 (.nc 21)) [21],uF 23 11 22,uF 24 1 23,⟨gQ 25 24,true,[24],[],true,[],[],[]⟩,⟨ga 26 106 [20,25],true,[20,25],[],true,[],[],[]⟩,gH (gi 27 1 8 10),gH (gS 1 27 26)] [] [])),[]⟩
def aaU:bL:=⟨(.sq Zbi (.dg [] [12,13] [vM 4 0 [12,13],vM 5 0 [12,13],gL (gp 6 (.nc 5)) [5] [12,13],vF 7 10 6 [12,13],⟨gQ 8 7,true,[7],[],true,[],[12,13],[]⟩,vM 9 0 [12,13],yC 10 3 3 [3] [12,13],⟨gp 11 (.c3 193 [9,10]),true,[9,10],[],true,[],[12,13],[]⟩,gL (gz 12 (.bs 113 2 [11])) [11] [13],⟨gp 13 (.ap 113 2 48 8 12),true,[8,12],[],true,[8,8],[],[]⟩,gH (gp 14 (.nc 4)),gH (gF 15 10 14),gH (gS 1 15 13)] [] [])),[]⟩
def aaV:AC:=(.sq (.dg [] [] [uF 16 8 4,xQ 17 16 [4],uM 18 2,gU (gB 19 .add 18 (kI 1)) [18],uF 20 7 4,xQ 21 20 [4],gX (ga 22 89 [21]) [21] [4],gU (gB 23 .add 19 22) [19,22],gU (gA 6 17) [17],gH (gA 7 23)] [6,7] []) .rt)
def aaW:AC:=.kp [2,4] [4] aaV
def aaX:bL:=⟨(.sq (rG [gp 4 (.bx 1),gA 6 (.c ZaG),gA 7 (kI 0)] [0,2,4] [0,4]) (.sq (.sq (rG [gM 8 0,gF 9 3 4,gC 10 3 9,gp 11 (.c3 197 [8,10])] [2,4,11] [4]) (.ite 11 (.sq (rG [gF 12 7 4,gQ 13 12,gM 14 2,gB 15 .add 14 (kI 1),gA 6 13,gA 7 15] [6,7] []) .rt) .sk)) aaW)),[.t 6,.t 7]⟩
def aaY:bL:=⟨(.sq Zas (.sq (.dg [] [] [xC 5 3 3 [3],uM 6 0,gU (gp 7 (.nc 6)) [6],uF 8 11 7,uF 9 1 8,⟨gQ 10 9,true,[9],[],true,[],[],[]⟩,gH (ga 11 106 [5,10]),gH (gB 12 .neq 11 (kI 0)),gH (gA 4 12)] [4] []) .rt)),[.t 4]⟩
def aaZ:bL:=⟨(.sq (rG [gp 2 Zad] [0,2] [0,2]) (.sq (.dg [] [] [uM 3 0,gU (gp 4 (.nc 3)) [3],uF 5 10 4,⟨gQ 6 5,true,[5],[],true,[],[],[]⟩,uM 7 0,gU (gp 8 (.nc 7)) [7],uF 9 10 8,⟨gQ 10 9,true,[9],[],true,[],[],[]⟩,⟨gl 11 10,true,[10],[],true,[],[],[]⟩,gU (gB 12 .sub 11 (kI 1)) [11],gH (gi 13 2 6 12),gH (gC 14 2 13),gH (gS 2 2 14)] [2] [2]) .rt)),[.c 2 (some 2)]⟩
def Rr:AC:=(.sq (rG [gM 57 0,gF 58 1 3,gQ 59 58,gC 60 2 6,gp 61 (.c2 192 [57,59,60]),gA 4 61] [4] []) .rt)
def aa0:AC:=.kp [0,3,6] [0,3,6] Rr
def aa1:AC:=(.sq (.dg [] [6,7] [vM 36 0 [6,7],gL (gp 37 (.nc 36)) [36] [6,7],vF 38 1 37 [6,7],vF 39 0 38 [6,7],⟨gC 40 2 39,true,[39],[],true,[],[6,7],[]⟩,vF 41 1 5 [6,7],yC 42 2 41 [5] [6,7],gL (ga 43 171 [40,42]) [40,42] [6,7],vM 44 0 [6,7],vF 45 3 3 [6,7],yC 46 3 45 [3] [6,7],⟨gp 47 (.c3 193 [44,46]),true,[44,46],[],true,[],[6,7],[]⟩,gL (gp 6 Zad) [] [7],gL (gp 7 Zad) [] [6],gH (gS 2 6 43),gH (gS 2 7 47)] [0,3,6,7] [0,3,6,7]) (.sq (.sq (rG [gF 48 0 3,gQ 49 48,gB 50 .eql 49 (kI 5)] [0,3,6,7,50] [0,3,6,7]) (.ite 50 (rG [gF 51 1 7,gQ 52 51,gF 53 1 6,gS 1 53 52] [0,3,6] [0,3,6]) (rG [gF 54 0 7,gQ 55 54,gF 56 0 6,gS 1 56 55] [0,3,6] [0,3,6]))) aa0))
def aa2:AC:=.kp [0,3,5] [0,3,5] aa1
def aa3:bL:=⟨(.sq Zas (.sq (.dg [] [5] [vM 8 0 [5],gL (gp 9 (.nc 8)) [8] [5],vF 10 1 9 [5],vF 11 5 10 [5],⟨gQ 12 11,true,[11],[],true,[],[5],[]⟩,vF 13 1 3 [5],yQ 14 13 [3] [5],⟨gi 15 3 12 14,true,[12,14],[],true,[],[5],[]⟩,⟨gC 16 3 15,true,[15],[],true,[],[5],[]⟩,gU (gp 5 (.al Zay)) [],gH (gS 3 5 16)] [0,3,5] [0,3,5]) (.sq (.sq (.dg [] [] [uF 17 0 5,xQ 18 17 [5],un 19 18,uM 20 19,kN 21 0 20 false,gU (gg 22 (.nc 21) 20 false) [21],qK 23 11 22 20 false,⟨hQ 24 23 20 false,true,[23],[],true,[],[],[]⟩,Ot 25 9 3 20 false [3],gH (gg 26 (.c2 219 [24,25]) 20 false),gU (gp 27 (.pk 20 Zac 26)) [20,26],uM 28 27,kN 29 0 28 false,gU (gg 30 (.nc 29) 28 false) [29],qK 31 11 30 28 false,⟨hQ 32 31 28 false,true,[31],[],true,[],[],[]⟩,Ot 33 9 3 28 false [3],gH (gg 34 (.c2 220 [32,33]) 28 false),gH (gp 35 (.pk 28 Zac 34))] [0,3,5,35] [0,3,5]) (.ite 35 Zam .sk)) aa2))),[.t 4]⟩
def aa4:bL:=⟨(rG [gM 10 0,gM 11 0,gp 12 (.nc 11),gF 13 11 12,gF 14 0 13,gQ 15 14,gM 16 1,gM 17 2,gM 18 3,gM 19 4,gp 20 (.bd [Zab,Zab,Zab,Zab] [(0,1,16),(1,1,17),(2,1,18),(3,1,19)]),gz 21 (.bs 128 4 [20]),gp 22 (.ap 128 4 32 15 21),gp 23 (.nc 10),gF 24 11 23,gF 25 0 24,gS 1 25 22] [] []),[]⟩
def aa5:bL:=⟨(.sq Zau (.sq (rG [gM 5 0,gM 6 1,gp 7 (.c2 226 [5,6]),gB 8 .geq 7 (kI 0),gA 4 8] [4] []) .rt)),[.t 4]⟩
def aa6:bL:=⟨(.sq Zcc (.sq (rG [gC 4 2 1,gF 5 0 2,gQ 6 5,ga 7 132 [4,6],gn 8 7,gM 9 8,hC 10 2 1 9 false,hF 11 1 2 9 false,hQ 12 11 9 false,ha 13 132 [10,12] 9 false,hn 14 13 9 false,gp 15 (.pk 9 Zac 14),gA 3 15] [3] []) .rt)),[.t 3]⟩
def aa7:AC:=(.sq (.bl 2 (.sq (.dg [] [] [uF 29 1 3,xQ 30 29 [3],uM 31 5,xi 32 1 30 31 [3],xQ 33 32 [3],uF 34 1 3,xQ 35 34 [3],uM 36 5,gU (gB 37 .sub 36 (kI 1)) [36],xi 38 1 35 37 [3],xQ 39 38 [3],gH (gB 40 .leq 33 39)] [3,5,40] [3]) (.ite 40 (.sq (rG [gA 4 (kI 4)] [4] []) .rt) .sk))) (rG [gM 27 5,gB 28 .add 27 (kI 1),gA 5 28] [3,5] [3]))
def aa8:AC:=.kp [3,5] [3] aa7
def aa9:AC:=(.sq (.sq (rG [gM 22 5,gF 23 1 3,gQ 24 23,gl 25 24,gB 26 .lss 22 25] [3,5,26] [3]) (.ite 26 .sk (.ex 1))) aa8)
def Rs:bX:=⟨[3,5],[3],aa9⟩
def aba:AC:=(.sq (.sq (rG [gA 5 (kI 1)] [3,5] [3]) (.bl 1 Rs.lp)) Zap)
def abb:AC:=.kp [3] [3] aba
def abc:bL:=⟨(.sq ZaC (.sq (.bl 0 (.sq (rG [gC 7 2 2,gF 8 0 3,gQ 9 8,ga 10 132 [7,9],gn 11 10,gA 6 11] [2,3,6] [2,3]) (.ite 6 Zao (.sq (rG [gF 13 1 3,gQ 14 13,gl 15 14,gB 16 .gtr 15 (kI 6),gA 12 16] [2,3,12] [2,3]) (.ite 12 ZaF (.sq (.rg [.fzB 2 true] [gF 18 1 3,gQ 19 18,gp 20 (.mf 227 [2]),gp 21 (.c2 103 [19,20]),gA 17 21] [3,17] [3]) (.ite 17 Zao .sk))))))) abb)),[.t 4]⟩
def abd:AC:=(.sq (.bl 1 (.sq Zck (.sq (rG [gM 11 1,gM 12 0,gM 13 5,gi 14 3 12 13,gC 15 3 14,gp 16 (.d2 11 [15])] [0,1,5,7,8,16] []) Zbx))) ZbZ)
def abe:AC:=.kp ZaQ [] abd
def abf:AC:=(.sq Zav (.sq ZaK abe))
def abg:bX:=⟨ZaQ,[],abf⟩
def abh:bL:=⟨(.sq Zaw (.sq (.sq Zak (.bl 0 abg.lp)) Zal)),[.t 4]⟩
def abi:AC:=(.sq (.bl 1 (.sq Zck (.sq (rG [gM 11 1,gM 12 0,gM 13 5,gi 14 1 12 13,gQ 15 14,gB 16 .eql 11 15] [0,1,5,7,8,16] []) Zbx))) ZbZ)
def abj:AC:=.kp ZaQ [] abi
def abk:AC:=(.sq Zav (.sq ZaK abj))
def Rt:bX:=⟨ZaQ,[],abk⟩
def abl:bL:=⟨(.sq Zaw (.sq (.sq Zak (.bl 0 Rt.lp)) Zal)),[.t 4]⟩
def abm:bL:=⟨(.sq (rG [gA 2 Zaa,gA 3 Zaa,gA 4 Zaa] [0] []) (.sq (rG [gM 7 0,gB 8 .neq 7 (kI 4),gM 9 8,hM 10 0 9 true,hB 11 .lss 10 (kI 7) 9 true,gk 12 9 11 Zaa,gA 5 12] [0,5] []) (.sq (rG [gM 13 0,gB 14 .geq 13 (kI 2),gM 15 14,hM 16 0 15 true,hB 17 .leq 16 (kI 4) 15 true,gk 18 15 17 Zaa,gA 6 18] [0,5,6] []) (.sq (rG [gM 19 5,gM 20 6,gM 21 0,gB 22 .neq 21 (kI 2),gM 23 22,hM 24 0 23 true,hB 25 .neq 24 (kI 3) 23 true,gk 26 23 25 Zaa,gA 2 19,gA 3 20,gA 4 26] [2,3,4] []) .rt)))),[.t 2,.t 3,.t 4]⟩
def abn:AC:=(.sq (rG [gM 20 0,gp 21 (.nc 20),gF 22 0 21,gF 23 4 22,gQ 24 23,gl 25 24,gA 4 25] [4] []) .rt)
def abo:AC:=.kp [0] [0] abn
def Tn:bL:=⟨(.sq (rG [gA 4 (kI 0)] [0,1] [0]) (.sq (.sq (rG [gM 5 1] [0,5] [0]) (.bl 0 (.sq (rG [gB 7 .eql 5 (kI 2),gA 6 7] [0,5,6] [0]) (.ite 6 (.sq (rG [gM 8 0,gp 9 (.nc 8),gF 10 8 9,gQ 11 10,gA 4 11] [4] []) .rt) (.sq (rG [gB 13 .eql 5 (kI 3),gA 12 13] [0,12] [0]) (.ite 12 (.sq (rG [gM 14 0,gp 15 (.nc 14),gF 16 0 15,gF 17 3 16,gQ 18 17,gl 19 18,gA 4 19] [4] []) .rt) .sk)))))) abo)),[.t 4]⟩
def abp:AC:=(.sq (.bl 1 (.sq (rG [gM 12 10,gp 6 (.al [Zab]),gS 1 6 12] [0,2,5,6,9,10] [2,6]) (.sq (.rg [.fzB 6 false] [gp 13 (.mf 211 [2,6]),gA 7 13] [0,2,5,7,9,10] [2,6]) (rG [gM 14 5,gM 15 0,gM 16 7,gp 17 (.c2 213 [15,16]),gn 18 17,gz 19 (.bs 4 1 [18]),gp 20 (.ap 4 1 1 14 19),gA 5 20] Zcj [2])))) (rG [gB 21 .add 10 (kI 1),gM 10 21] Zcj [2]))
def abq:AC:=.kp Zcj [2] abp
def abr:AC:=(.sq (rG [gB 11 .lss 10 9] [0,2,5,9,10,11] [2]) (.sq Zbm abq))
def Ru:bX:=⟨Zcj,[2],abr⟩
def abt:bL:=⟨(.sq (rG [gA 4 (.c (.l 4 []))] [0,1,2] [1,2]) (.sq (rG [gA 5 (.c .n)] [0,1,2,5] [1,2]) (.sq (.sq (.rg [.own 5 4] [gF 8 0 1,gQ 9 8,gM 10 (kI 0)] Zcj [2]) (.bl 0 Ru.lp)) ZbU))),[.t 4]⟩
def abu:bL:=⟨(.sq (rG [gp 3 (.bx 0),gA 4 Zaa] [1,2,3] [1,2,3]) (.sq (.dg [] [] [⟨gQ 5 1,true,[1],[],true,[],[],[]⟩,⟨gQ 6 2,true,[2],[],true,[],[],[]⟩,⟨gi 7 1 5 6,true,[5,6],[],true,[],[],[]⟩,⟨gQ 8 7,true,[7],[],true,[],[],[]⟩,uF 9 0 3,xQ 10 9 [3],ui 11 1 8 10,uQ 12 11,un 13 12,uM 14 13,qK 15 1 3 14 true,JQ 16 15 14 true [3],gU (gg 17 (.mf 212 [1,2]) 14 true) [1,2],gH (gg 18 (.c2 103 [16,17]) 14 true),gH (hn 19 18 14 true),gH (gk 20 14 19 Zaa),gH (gA 4 20)] [4] []) .rt)),[.t 4]⟩
def abv:bL:=⟨(.sq (rG [gA 4 Zaa] [0,1,2] [1,2]) (.sq (rG [gQ 5 1,gQ 6 2,gi 7 1 5 6,gQ 8 7,gM 9 0,gi 10 1 8 9,gQ 11 10,gA 4 11] [4] []) .rt)),[.t 4]⟩
def abw:bL:=⟨(.sq Zau (.sq (rG [gM 5 0,gM 6 1,gp 7 (.c2 228 [5,6]),gB 8 .geq 7 (kI 0),gA 4 8] [4] []) .rt)),[.t 4]⟩
def Tp:bL:=⟨(.sq (rG [gp 3 (.bx 0),gp 4 Zad] ZbC ZbC) (.sq (.dg [] [] [⟨gC 5 2 1,true,[1],[],true,[],[],[]⟩,⟨gQ 6 2,true,[2],[],true,[],[],[]⟩,gU (gp 7 (.nc 6)) [6],uF 8 0 7,⟨gC 9 8 8,true,[8],[],true,[],[],[]⟩,⟨gQ 10 2,true,[2],[],true,[],[],[]⟩,gU (gp 11 (.nc 10)) [10],uF 12 8 11,uF 13 0 12,⟨gQ 14 13,true,[13],[],true,[],[],[]⟩,xC 15 3 3 [3],⟨ga 16 177 [9,14,15],true,[9,14,15],[],true,[],[],[]⟩,gH (ga 17 115 [5,16]),gH (gS 2 4 17)] [4] [4]) .rt)),[.c 4 (some 2)]⟩
def abx:AC:=(.sq (.bl 1 (.sq (rG [gM 11 9,gi 12 1 7 9,gQ 13 12,gA 5 11,gA 6 13] [1,5,6,7,8,9] []) (.sq (rG [gM 14 6,gM 15 14,hM 16 1 15 true,hM 17 5 15 true,hi 18 1 16 17 15 true,hQ 19 18 15 true,hn 20 19 15 true,gk 21 15 20 Zaa] [1,7,8,9,21] []) (.ite 21 Zam .sk)))) (rG [gB 22 .add 9 (kI 1),gM 9 22] [1,7,8,9] []))
def aby:AC:=.kp [1,7,8,9] [] abx
def abz:AC:=(.sq (rG [gB 10 .lss 9 8] [1,7,8,9,10] []) (.sq (.ite 10 .sk (.ex 0)) aby))
def Rv:bX:=⟨[1,7,8,9],[],abz⟩
def abA:bL:=⟨(.sq Zau (.sq (.sq (rG [gM 7 0,gl 8 7,gM 9 (kI 0)] [1,7,8,9] []) (.bl 0 Rv.lp)) ZaI)),[.t 4]⟩
def agF:bL:=⟨(.sq (rG [gp 1 (.bx 0),gA 2 (.c .nf)] [1] [1]) (.sq (.rg [.fzB 1 true] [gp 3 (.mf 230 [1]),gA 2 3] [2] [1]) .rt)),[.t 2]⟩
def abB:AC:=(.sq (.sq (rG [gF 23 3 3,gC 24 3 23,ga 25 218 [24]] [2,4,25] [0,2,4]) (.bl 0 (.ru 25 26 (rG [gA 5 26] [2,4,5] [0,2,4]) (.bl 1 (.sq (.dg [] [] [⟨gQ 27 2,true,[2],[],true,[],[],[]⟩,⟨gQ 28 2,true,[2],[],true,[],[],[]⟩,gU (gp 29 (.nc 28)) [28],uF 30 0 29,uF 31 5 30,⟨gQ 32 31,true,[31],[],true,[],[],[]⟩,uM 33 5,ui 34 3 32 33,uF 35 1 34,uF 36 0 35,uQ 37 36,gH (gp 38 (.c2 232 [27,37])),gH (gn 39 38)] [2,4,39] [0,2,4]) (.ite 39 Zcs .sk)))))) Zct)
def abC:AC:=.kp [2,3,4] [0,2,3,4] abB
def Tq:bL:=⟨(.sq ZaS (.sq (.sq Zbg (.ite 8 (.sq (.dg [] [] [⟨gQ 9 2,true,[2],[2],true,[],[],[]⟩,⟨gQ 10 2,true,[2],[2],true,[],[],[]⟩,gU (gp 11 (.nc 10)) [10],uF 12 0 11,uF 13 5 12,⟨gQ 14 13,true,[13],[],true,[],[],[]⟩,uF 15 1 3,xQ 16 15 [3],ui 17 3 14 16,uF 18 1 17,uF 19 1 18,uQ 20 19,gH (gp 21 (.c2 232 [9,20])),gH (gn 22 21),gH (gS 1 4 22)] [4] [4]) .rt) .sk)) abC)),[.c 4 none]⟩
def abD:AC:=(.sq (.sq (rG [gF 20 3 3,gC 21 3 20,ga 22 218 [21]] [2,4,22] [0,2,4]) (.bl 0 (.ru 22 23 (rG [gA 5 23] [2,4,5] [0,2,4]) (.bl 1 (.sq (rG [gQ 24 2,gp 25 (.nc 24),gF 26 0 25,gF 27 5 26,gQ 28 27,gM 29 5,gi 30 3 28 29,gF 31 0 30,gQ 32 31,gn 33 32] [2,4,33] [0,2,4]) (.ite 33 Zcs .sk)))))) Zct)
def abE:AC:=.kp [2,3,4] [0,2,3,4] abD
def Tr:bL:=⟨(.sq ZaS (.sq (.sq Zbg (.ite 8 (.sq (.dg [] [] [⟨gQ 9 2,true,[2],[2],true,[],[],[]⟩,gU (gp 10 (.nc 9)) [9],uF 11 0 10,uF 12 5 11,⟨gQ 13 12,true,[12],[],true,[],[],[]⟩,uF 14 1 3,xQ 15 14 [3],gH (gi 16 3 13 15),gH (gF 17 0 16),gH (gQ 18 17),gH (gn 19 18),gH (gS 1 4 19)] [4] [4]) .rt) .sk)) abE)),[.c 4 none]⟩
def abF:AC:=(.sq (rG [gM 19 0,gp 20 (.nc 19),gF 21 1 20,gF 22 5 21,gQ 23 22,gM 24 1,gi 25 3 23 24,gC 26 3 25,gp 7 (.al Zay),gS 3 7 26] [0,5,7] [0,5,7]) (.sq (.dg [] [] [uF 27 0 7,xQ 28 27 [7],un 29 28,uM 30 29,Ot 31 2 5 30 false [5],kN 32 0 30 false,gU (gg 33 (.nc 32) 30 false) [32],qK 34 1 33 30 false,qK 35 0 34 30 false,⟨hC 36 2 35 30 false,true,[35],[],true,[],[],[]⟩,qK 37 1 7 30 false,Ot 38 2 37 30 false [7],gU (ha 39 171 [36,38] 30 false) [36,38],gH (ha 40 174 [31,39] 30 false),gH (gp 41 (.pk 30 Zac 40)),gH (gA 6 41)] [6] []) .rt))
def abG:AC:=.kp [0,1,5] [0,5] abF
def abH:bL:=⟨(.sq ZbN (.sq (.sq (.dg [] [] [uM 8 0,⟨gp 9 (.c3 198 [8]),true,[8],[],true,[],[],[]⟩,uM 10 0,gU (gp 11 (.nc 10)) [10],uF 12 9 11,⟨gQ 13 12,true,[12],[],true,[],[],[]⟩,uM 14 1,⟨gi 15 2 13 14,true,[13,14],[],true,[],[],[]⟩,⟨gC 16 2 15,true,[15],[],true,[],[],[]⟩,gH (ga 17 174 [9,16]),gH (gn 18 17)] [0,1,5,18] [0,5]) (.ite 18 Zan .sk)) abG)),[.t 6]⟩
def abI:AC:=Zaf
def abJ:AC:=.kp ZaQ [] abI
def abK:AC:=(.sq Zav (.sq ZaK abJ))
def abL:bX:=⟨ZaQ,[],abK⟩
def abM:bL:=⟨(.sq Zaw (.sq (.sq Zak (.bl 0 abL.lp)) Zal)),[.t 4]⟩
def abN:bL:=⟨(.sq (rG [gA 3 Zaa] [0,1] [1]) (.sq (rG [gC 4 2 1,gM 5 0,ga 6 132 [4,5],gn 7 6,gA 3 7] [3] []) .rt)),[.t 3]⟩
def abO:AC:=Zaf
def abP:AC:=.kp ZaQ [] abO
def abQ:AC:=(.sq Zav (.sq ZaK abP))
def Rw:bX:=⟨ZaQ,[],abQ⟩
def abR:bL:=⟨(.sq Zaw (.sq (.sq Zak (.bl 0 Rw.lp)) Zal)),[.t 4]⟩
def abS:bL:=⟨(.sq (rG [gp 2 (.bx 0),gA 4 Zaa] [1,2] [0,2]) (.sq (rG [gM 5 1,gp 6 (.mf 235 [2]),gp 7 (.c2 213 [5,6]),gn 8 7,gA 4 8] [4] []) .rt)),[.t 4]⟩
def abT:bL:=⟨(.sq Zcc (.sq (rG [gQ 4 1,gF 5 0 2,gQ 6 5,gp 7 (.c2 236 [4,6]),gn 8 7,gA 3 8] [3] []) .rt)),[.t 3]⟩
def abU:bL:=⟨(.sq (rG [gp 2 (.bx 0),gp 3 (.bx 1),gA 4 Zaa] [2,3] [0,2,3]) (.sq (.rg [.fzB 3 false] [gQ 5 2,gp 6 (.nc 5),gF 7 0 6,gF 8 2 7,gQ 9 8,gp 10 (.mf 238 [2,3]),gp 11 (.c2 103 [9,10]),gA 4 11] [4] []) .rt)),[.t 4]⟩
def abV:bL:=⟨(.sq (rG [gA 4 Zaa] [0,1,2] [1,2]) (.sq (.dg [] [] [⟨gQ 5 1,true,[1],[],true,[],[],[]⟩,gU (gp 6 (.nc 5)) [5],uF 7 8 6,⟨gQ 8 7,true,[7],[],true,[],[],[]⟩,uM 9 0,ui 10 1 8 9,uQ 11 10,⟨gQ 12 2,true,[2],[],true,[],[],[]⟩,gH (gi 13 1 11 12),gH (gQ 14 13),gH (gA 4 14)] [4] []) .rt)),[.t 4]⟩
abbrev Ω0:dK:=fun f ys=>match f with
 | 230=>A1 ys
 | 36=>qJ 3 ys
 | 112=>uX 4 ys
 | 75=>BZ 79 3 83 155 86 91 111 89 ys
 | 204=>ri 83 ys
 | _=>none
def G:qG:=fun
 | 7=>some c7
 | 14=>some c14
 | 21=>some c21
 | 23=>some c23
 | 28=>some c28
 | 29=>some c29
 | 30=>some c30
 | 31=>some c31
 | 32=>some c32
 | 43=>some c43
 | 56=>some c56
 | 63=>some c63
 | 64=>some c64
 | 66=>some c66
 | 67=>some c67
 | 68=>some c68
 | 69=>some c69
 | 70=>some c70
 | 79=>some c79
 | 81=>some c81
 | 82=>some c82
 | 83=>some c83
 | 84=>some c84
 | 85=>some c85
 | 86=>some c86
 | 87=>some c87
 | 88=>some c88
 | 89=>some c89
 | 95=>some c95
 | 102=>some W3
 | 103=>some W4
 | 105=>some W5
 | 106=>some W9
 | 107=>some Xa
 | 108=>some Xb
 | 109=>some Xc
 | 110=>some Xd
 | 113=>some Xr
 | 114=>some Xu
 | 115=>some Xv
 | 123=>some XM
 | 124=>some XS
 | 125=>some X4
 | 126=>some X5
 | 127=>some Tj
 | 129=>some Yh
 | 130=>some agE
 | 131=>some Yk
 | 132=>some Yl
 | 133=>some Yo
 | 134=>some Ys
 | 135=>some Yt
 | 139=>some YC
 | 142=>some YI
 | 143=>some YO
 | 144=>some YS
 | 145=>some YT
 | 146=>some YY
 | 149=>some Y1
 | 150=>some Y8
 | 151=>some Zg
 | 152=>some Zj
 | 153=>some Zk
 | 154=>some Zp
 | 155=>some Zt
 | 156=>some Zx
 | 161=>some Zy
 | 162=>some Zz
 | 163=>some ZI
 | 164=>some ZR
 | 165=>some ZS
 | 166=>some ZT
 | 167=>some ZU
 | 168=>some ZV
 | 169=>some ZW
 | 170=>some Tl
 | 171=>some Z5
 | 172=>some Z9
 | 173=>some DK
 | 174=>some aad
 | 177=>some Tm
 | 179=>some aag
 | 180=>some aaj
 | 184=>some aas
 | 185=>some aaw
 | 190=>some aaF
 | 191=>some aaO
 | 192=>some aaR
 | 193=>some aaS
 | 194=>some aaT
 | 195=>some aaU
 | 196=>some aaX
 | 197=>some aaY
 | 198=>some aaZ
 | 199=>some aa3
 | 200=>some aa4
 | 202=>some aa5
 | 203=>some aa6
 | 205=>some abc
 | 206=>some abh
 | 207=>some abl
 | 208=>some abm
 | 209=>some Tn
 | 210=>some abt
 | 211=>some abu
 | 212=>some abv
 | 213=>some abw
 | 214=>some Tp
 | 215=>some abA
 | 218=>some agF
 | 219=>some Tq
 | 220=>some Tr
 | 224=>some abH
 | 226=>some abM
 | 227=>some abN
 | 228=>some abR
 | 232=>some abS
 | 235=>some abT
 | 236=>some abU
 | 238=>some abV
 | _=>none
theorem G7:G 7=some c7:=rfl
theorem G21:G 21=some c21:=rfl
theorem G29:G 29=some c29:=rfl
theorem G30:G 30=some c30:=rfl
theorem G31:G 31=some c31:=rfl
theorem G32:G 32=some c32:=rfl
theorem G43:G 43=some c43:=rfl
theorem G63:G 63=some c63:=rfl
theorem G64:G 64=some c64:=rfl
theorem G66:G 66=some c66:=rfl
theorem G67:G 67=some c67:=rfl
theorem G68:G 68=some c68:=rfl
theorem G69:G 69=some c69:=rfl
theorem G70:G 70=some c70:=rfl
theorem G79:G 79=some c79:=rfl
theorem G84:G 84=some c84:=rfl
theorem G85:G 85=some c85:=rfl
theorem G86:G 86=some c86:=rfl
theorem G87:G 87=some c87:=rfl
theorem G88:G 88=some c88:=rfl
theorem G89:G 89=some c89:=rfl
theorem G95:G 95=some c95:=rfl
theorem agG:G 102=some W3:=rfl
theorem Lu:G 103=some W4:=rfl
theorem agH:G 105=some W5:=rfl
theorem agI:G 106=some W9:=rfl
theorem abW:G 107=some Xa:=rfl
theorem agJ:G 108=some Xb:=rfl
theorem agK:G 109=some Xc:=rfl
theorem agL:G 110=some Xd:=rfl
theorem agM:G 113=some Xr:=rfl
theorem agN:G 114=some Xu:=rfl
theorem agO:G 115=some Xv:=rfl
theorem agP:G 123=some XM:=rfl
theorem agQ:G 124=some XS:=rfl
theorem agR:G 125=some X4:=rfl
theorem agS:G 126=some X5:=rfl
theorem agT:G 127=some Tj:=rfl
theorem agU:G 129=some Yh:=rfl
theorem agV:G 131=some Yk:=rfl
theorem agW:G 132=some Yl:=rfl
theorem agX:G 133=some Yo:=rfl
theorem Ts:G 134=some Ys:=rfl
theorem agY:G 135=some Yt:=rfl
theorem agZ:G 139=some YC:=rfl
theorem ag0:G 142=some YI:=rfl
theorem ag1:G 143=some YO:=rfl
theorem Lv:G 144=some YS:=rfl
theorem ag2:G 145=some YT:=rfl
theorem abX:G 146=some YY:=rfl
theorem ag3:G 149=some Y1:=rfl
theorem ag4:G 150=some Y8:=rfl
theorem ag5:G 151=some Zg:=rfl
theorem ag6:G 152=some Zj:=rfl
theorem ag7:G 153=some Zk:=rfl
theorem ag8:G 154=some Zp:=rfl
theorem ag9:G 155=some Zt:=rfl
theorem aha:G 156=some Zx:=rfl
theorem ahb:G 161=some Zy:=rfl
theorem ahc:G 162=some Zz:=rfl
theorem ahd:G 163=some ZI:=rfl
theorem ahe:G 164=some ZR:=rfl
theorem ahf:G 165=some ZS:=rfl
theorem ahg:G 166=some ZT:=rfl
theorem ahh:G 167=some ZU:=rfl
theorem ahi:G 168=some ZV:=rfl
theorem ahj:G 169=some ZW:=rfl
theorem ahk:G 170=some Tl:=rfl
theorem ahl:G 171=some Z5:=rfl
theorem ahm:G 172=some Z9:=rfl
theorem Iz:G 173=some DK:=rfl
theorem ahn:G 174=some aad:=rfl
theorem aho:G 177=some Tm:=rfl
theorem ahp:G 179=some aag:=rfl
theorem ahq:G 180=some aaj:=rfl
theorem ahr:G 184=some aas:=rfl
theorem ahs:G 185=some aaw:=rfl
theorem aht:G 190=some aaF:=rfl
theorem ahu:G 191=some aaO:=rfl
theorem ahv:G 192=some aaR:=rfl
theorem ahw:G 193=some aaS:=rfl
theorem ahx:G 194=some aaT:=rfl
theorem ahy:G 195=some aaU:=rfl
theorem ahz:G 196=some aaX:=rfl
theorem ahA:G 197=some aaY:=rfl
theorem ahB:G 198=some aaZ:=rfl
theorem ahC:G 199=some aa3:=rfl
theorem ahD:G 200=some aa4:=rfl
theorem ahE:G 202=some aa5:=rfl
theorem ahF:G 203=some aa6:=rfl
theorem ahG:G 205=some abc:=rfl
theorem ahH:G 206=some abh:=rfl
theorem ahI:G 207=some abl:=rfl
theorem ahJ:G 208=some abm:=rfl
theorem ahK:G 209=some Tn:=rfl
theorem ahL:G 210=some abt:=rfl
theorem ahM:G 211=some abu:=rfl
theorem ahN:G 212=some abv:=rfl
theorem abY:G 213=some abw:=rfl
theorem ahO:G 214=some Tp:=rfl
theorem ahP:G 215=some abA:=rfl
theorem ahQ:G 219=some Tq:=rfl
theorem ahR:G 220=some Tr:=rfl
theorem ahS:G 224=some abH:=rfl
theorem ahT:G 226=some abM:=rfl
theorem ahU:G 227=some abN:=rfl
theorem abZ:G 228=some abR:=rfl
theorem ahV:G 232=some abS:=rfl
theorem ahW:G 235=some abT:=rfl
theorem ahX:G 236=some abU:=rfl
theorem ahY:G 238=some abV:=rfl
end Go.Proofs.YtlmphbbhaeampaaGreat.A
