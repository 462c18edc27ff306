/- The abstract code of the functions, made by program. -/
import Derived.Test.YtlmphbbhaeampaaGreatAbsO
set_option linter.all false
set_option maxRecDepth 100000
namespace Go.Proofs.YtlmphbbhaeampaaGreat.A
open Go
abbrev gp(d:Nat)(x:qI):dE:=⟨some d,x,none,false⟩
abbrev gg(d:Nat)(x:qI)(j:Nat)(b:Bool):dE:=⟨some d,x,some (j,b),false⟩
abbrev gz(d:Nat)(x:qI):dE:=⟨some d,x,none,true⟩
abbrev gS(n:Nat)(x y:bY):dE:=⟨none,.st n x y,none,false⟩
abbrev gM(d:Nat)(x:bY):dE:=gp d (.mv x)
abbrev gQ(d:Nat)(x:bY):dE:=gp d (.ld none x)
abbrev gF(d n:Nat)(x:bY):dE:=gp d (.fa n x)
abbrev gA(d:Nat)(x:bY):dE:=gp d (.as x)
abbrev gB(d:Nat)(o:BinOp)(x y:bY):dE:=gp d (.bo o false x y)
abbrev gL(g:dE)(vw nk:List Nat):cz:=⟨g,true,vw,[],false,[],nk,[]⟩
abbrev gV(g:dE)(vw vb nk:List Nat):cz:=⟨g,true,vw,vb,false,[],nk,[]⟩
abbrev gH(g:dE):cz:=⟨g,false,[],[],false,[],[],[]⟩
abbrev gU(g:dE)(vw:List Nat):cz:=gL g vw []
abbrev gX(g:dE)(vw vb:List Nat):cz:=gV g vw vb []
abbrev gC(d:Nat)(n:Nat)(x:bY):dE:=gp d (.ld (some n) x)
abbrev hC(d:Nat)(n:Nat)(x:bY)(j:Nat)(b:Bool):dE:=gg d (.ld (some n) x) j b
abbrev ga(d:Nat)(f:Nat)(xs:List bY):dE:=gp d (.ca 0 f xs)
abbrev ha(d:Nat)(f:Nat)(xs:List bY)(j:Nat)(b:Bool):dE:=gg d (.ca 0 f xs) j b
abbrev gl(d:Nat)(x:bY):dE:=gp d (.ln false x)
abbrev hl(d:Nat)(x:bY)(j:Nat)(b:Bool):dE:=gg d (.ln false x) j b
abbrev gi(d:Nat)(n:Nat)(x y:bY):dE:=gp d (.ia n none x y)
abbrev hi(d:Nat)(n:Nat)(x y:bY)(j:Nat)(b:Bool):dE:=gg d (.ia n none x y) j b
abbrev gn(d:Nat)(x:bY):dE:=gp d (.no x)
abbrev hn(d:Nat)(x:bY)(j:Nat)(b:Bool):dE:=gg d (.no x) j b
abbrev gk(d:Nat)(x y z:bY):dE:=gp d (.pk x y z)
abbrev hk(d:Nat)(x y z:bY)(j:Nat)(b:Bool):dE:=gg d (.pk x y z) j b
abbrev ge(d:Nat)(x:bY)(i:Nat):dE:=gp d (.ex x i)
abbrev he(d:Nat)(x:bY)(i:Nat)(j:Nat)(b:Bool):dE:=gg d (.ex x i) j b
abbrev hM(d:Nat)(x:bY)(j:Nat)(b:Bool):dE:=gg d (.mv x) j b
abbrev hQ(d:Nat)(x:bY)(j:Nat)(b:Bool):dE:=gg d (.ld none x) j b
abbrev hF(d:Nat)(n:Nat)(x:bY)(j:Nat)(b:Bool):dE:=gg d (.fa n x) j b
abbrev hB(d:Nat)(o:BinOp)(x y:bY)(j:Nat)(b:Bool):dE:=gg d (.bo o false x y) j b
abbrev rG:=AC.rg []
instance (n:Nat):OfNat bY n:=⟨.t n⟩
abbrev kI(n:Int):bY:=.c (.i .i64 n)
abbrev uC(d n x:Nat):cz:=gU (gC d n (.t x)) [x]
abbrev uF(d n x:Nat):cz:=gU (gF d n (.t x)) [x]
abbrev uM(d x:Nat):cz:=gU (gM d (.t x)) [x]
abbrev uQ(d x:Nat):cz:=gU (gQ d (.t x)) [x]
abbrev mP(d n x j:Nat)(b:Bool):cz:=gU (hF d n (.t x) j b) [x]
abbrev pU(d x j:Nat)(b:Bool):cz:=gU (hM d (.t x) j b) [x]
abbrev X6(d x j:Nat)(b:Bool):cz:=gU (hQ d (.t x) j b) [x]
abbrev X7(d n x y j:Nat)(b:Bool):cz:=gU (hi d n (.t x) (.t y) j b) [x,y]
abbrev uhl(d x j:Nat)(b:Bool):cz:=gU (hl d (.t x) j b) [x]
abbrev uhn(d x j:Nat)(b:Bool):cz:=gU (hn d (.t x) j b) [x]
abbrev ui(d n x y:Nat):cz:=gU (gi d n (.t x) (.t y)) [x,y]
abbrev ul(d x:Nat):cz:=gU (gl d (.t x)) [x]
abbrev un(d x:Nat):cz:=gU (gn d (.t x)) [x]
abbrev vF(d n x:Nat)(nb:List Nat):cz:=gL (gF d n (.t x)) [x] nb
abbrev vM(d x:Nat)(nb:List Nat):cz:=gL (gM d (.t x)) [x] nb
abbrev vhF(d n x j:Nat)(b:Bool)(nb:List Nat):cz:=gL (hF d n (.t x) j b) [x] nb
abbrev vhM(d x j:Nat)(b:Bool)(nb:List Nat):cz:=gL (hM d (.t x) j b) [x] nb
abbrev xC(d n x:Nat)(vb:List Nat):cz:=gX (gC d n (.t x)) [x] vb
abbrev xF(d n x:Nat)(vb:List Nat):cz:=gX (gF d n (.t x)) [x] vb
abbrev xQ(d x:Nat)(vb:List Nat):cz:=gX (gQ d (.t x)) [x] vb
abbrev Fh(d n x j:Nat)(b:Bool)(vb:List Nat):cz:=gX (hC d n (.t x) j b) [x] vb
abbrev X8(d n x j:Nat)(b:Bool)(vb:List Nat):cz:=gX (hF d n (.t x) j b) [x] vb
abbrev wT(d x j:Nat)(b:Bool)(vb:List Nat):cz:=gX (hQ d (.t x) j b) [x] vb
abbrev xhi(d n x y j:Nat)(b:Bool)(vb:List Nat):cz:=gX (hi d n (.t x) (.t y) j b) [x,y] vb
abbrev xhl(d x j:Nat)(b:Bool)(vb:List Nat):cz:=gX (hl d (.t x) j b) [x] vb
abbrev xi(d n x y:Nat)(vb:List Nat):cz:=gX (gi d n (.t x) (.t y)) [x,y] vb
abbrev xl(d x:Nat)(vb:List Nat):cz:=gX (gl d (.t x)) [x] vb
abbrev yC(d n x:Nat)(vb nb:List Nat):cz:=gV (gC d n (.t x)) [x] vb nb
abbrev yQ(d x:Nat)(vb nb:List Nat):cz:=gV (gQ d (.t x)) [x] vb nb
abbrev X9(d x j:Nat)(b:Bool)(vb nb:List Nat):cz:=gV (hQ d (.t x) j b) [x] vb nb
abbrev yhi(d n x y j:Nat)(b:Bool)(vb nb:List Nat):cz:=gV (hi d n (.t x) (.t y) j b) [x,y] vb nb
abbrev yi(d n x y:Nat)(vb nb:List Nat):cz:=gV (gi d n (.t x) (.t y)) [x,y] vb nb
abbrev ZcQ:List Nat:=[1,2,3,4]
abbrev ZcP:List Nat:=[1,2,9,10,11]
abbrev ZcO:List Nat:=[1,4,9,10,11]
abbrev ZcM:List Nat:=[1,3,5,6,11,12,29]
abbrev ZcK:List Nat:=[2,3,7,8,9]
abbrev ZcJ:List Nat:=[1,6,7,8,9]
abbrev ZcI:List Nat:=[1,3,11,12]
abbrev ZcF:AC:=rG [gA 4 (.c (.l 4 []))] [0,1] []
abbrev ZcE:List Nat:=[0,3,13,14,15]
abbrev ZcD:AC:=.sq (rG [gA 4 (kI 4)] [4] []) .rt
abbrev ZcC:List Nat:=[1,4,20,21,22]
abbrev ZcB:AC:=.sq (rG [gA 4 (kI 3)] [4] []) .rt
abbrev ZcA:AC:=.sq (rG [gA 2 (kI 3)] [2] []) .rt
abbrev Zcz:AC:=.sq (rG [gA 6 (kI 2)] [6] []) .rt
abbrev Zcx:AC:=.sq (rG [gA 4 (kI 51)] [4] []) .rt
abbrev Zcw:List Nat:=[8,10,12]
abbrev Zcv:AC:=rG [gM 10 8,gA 5 10] [0,1,5,7,8] []
abbrev Zcu:List Nat:=[0,2,5,9,10]
abbrev Zct:List Nat:=[6,25,26,27]
abbrev Zcs:List Nat:=[1,13,14,15]
abbrev Zcr:List Nat:=[0,171,172,173]
abbrev Zcq:List Nat:=[1,13,14,15,16]
abbrev Zcp:AC:=.ite 13 .sk (.ex 0)
abbrev Zcm:List Nat:=[0,5,6,22,23,24]
abbrev Zcl:AC:=.sq (rG [gM 26 5,gA 4 26] [4,5] []) .rt
abbrev Zck:AC:=rG [gB 11 .lss 10 9] [1,5,8,9,10,11] []
abbrev Zcj:List Nat:=[0,1,2,6,7]
abbrev Zci:bY:=.c (.l 113 [])
abbrev Zch:List Nat:=[0,3,9,10,11]
abbrev Zcg:List Nat:=[1,5,9,10,11]
abbrev Zcf:List Nat:=[0,2,9,10,11]
abbrev Zce:List Nat:=[2,4,8,10,11]
abbrev Zcd:List Nat:=[0,3,6,7]
abbrev Zcb:AC:=rG [gp 3 (.bx 1),gA 4 (kI 0)] [0,3] [0,3]
abbrev ZbZ:List Nat:=[1,2,3,7,8,12,13]
abbrev ZbY:List Nat:=[4,8,10]
abbrev ZbX:List Nat:=[0,4,36,37,38]
abbrev ZbW:List Nat:=[0,6,47,48,49]
abbrev ZbV:List Nat:=[7,8,33,34,35]
abbrev ZbU:List Nat:=[1,2,3,7,8,12]
abbrev ZbT:List AV:=[(.l 155 []),(.l 155 [])]
abbrev ZbS:AV:=.l 3 []
abbrev ZbQ:AV:=.l 91 []
abbrev ZbP:AV:=.l 86 []
abbrev ZbO:List Nat:=[25,30,32]
abbrev ZbN:List Nat:=[0,3,4,5,6,8]
abbrev ZbM:List Nat:=[0,3,4,5,6,7]
abbrev ZbK:AC:=.ite 16 (.sq (rG [gM 17 5,gA 4 17] [4] []) .rt) .sk
abbrev ZbJ:List Nat:=[1,3,5,6,7,11,12,29]
abbrev ZbH:List Nat:=[0,3,4,10,11,12]
abbrev ZbG:AC:=rG [gF 7 0 3,gQ 8 7,gB 9 .eql 8 (kI 6)] [2,3,9] [2,3]
abbrev ZbF:List Nat:=[2,14,15,16,23,24,25]
abbrev ZbE:AC:=.ite 10 .sk (.ex 0)
abbrev ZbD:AC:=.ite 16 .sk (.ex 0)
abbrev ZbC:List Nat:=[3,6,10,25,37,38]
abbrev ZbB:List Nat:=[122,123]
abbrev ZbA:List Nat:=[1,2,3,7]
abbrev Zbz:AC:=rG [gF 6 0 3,gQ 7 6,gB 8 .eql 7 (kI 6)] [2,3,4,8] [0,2,3,4]
abbrev Zby:AV:=.l 79 []
abbrev Zbx:List Nat:=[0,3,5,6]
abbrev Zbw:AC:=.sq (rG [gA 4 (kI 7)] [4] []) .rt
abbrev Zbv:AC:=.sq (rG [gA 6 (kI 0)] [6] []) .rt
abbrev Zbu:AC:=.sq (rG [gA 6 (kI 3)] [6] []) .rt
abbrev Zbt:AC:=.sq (rG [gA 2 (kI 1)] [2] []) .rt
abbrev Zbs:AC:=rG [gA 2 (kI 0)] [0] []
abbrev Zbr:List Nat:=[227,228]
abbrev Zbq:List Nat:=[208,209]
abbrev Zbp:List Nat:=[189,190]
abbrev Zbo:AC:=rG [gM 12 10,gi 13 1 8 10,gQ 14 13,gA 6 12,gA 7 14] [1,5,6,7,8,9,10] []
abbrev Zbn:List AV:=[(.l 4 []),(.l 4 [])]
abbrev Zbm:AC:=.ite 11 .sk (.ex 0)
abbrev Zbl:List Nat:=[6,10,11,25,75,76,77]
abbrev Zbk:AC:=rG [gp 2 (.bx 0),gp 3 (.bx 1),gp 4 (.al [(.b false)])] [2,3,4] [0,2,3,4]
abbrev Zbj:List Nat:=[0,1,7,8]
abbrev Zcn:AC:=rG [gB 18 .add 8 (kI 1),gM 8 18] Zbj []
abbrev Zbi:List Nat:=[0,3,4,5]
abbrev Zbh:List Nat:=[1,2,5,6]
abbrev ZbR:AC:=rG [gA 6 (kI 0)] Zbh [2]
abbrev Zbe:List Nat:=[3,6,25,32,34]
abbrev Zbd:List Nat:=[1,5,8,9,10]
abbrev Zcc:AC:=rG [gB 25 .add 10 (kI 1),gM 10 25] Zbd []
abbrev ZbL:AC:=.rg [.own 5 4] [gM 8 0,gl 9 8,gM 10 (kI 0)] Zbd []
abbrev ZaZ:AC:=rG [gp 3 (.bx 0),gA 6 (kI 0)] [1,2,3] [3]
abbrev ZaY:List Nat:=[2,3,4,5,6]
abbrev ZaX:List Nat:=[6,25,32,34]
abbrev ZaW:AC:=.ite 12 .sk (.ex 0)
abbrev ZaV:AC:=.sq (rG [gA 2 (kI 0)] [2] []) .rt
abbrev ZaU:AC:=.sq (rG [gA 6 (kI 1)] [6] []) .rt
abbrev ZaT:List Nat:=[1,2,3,7,8,9]
abbrev ZaS:List Nat:=[1,3,5,6,7,11,12,29,42,43,44]
abbrev ZaR:AC:=rG [gA 5 (kI 0)] [0,1,5] []
abbrev ZaP:AV:=.l 83 []
abbrev ZaO:AC:=rG [gp 2 (.bx 0),gp 3 (.bx 1),gA 4 (kI 0)] [2,3] [2,3]
abbrev ZaN:AC:=rG [gA 5 (kI 0)] [1,2,5] [2]
abbrev ZaM:List Nat:=[2,3,4,5]
abbrev ZcL:AC:=rG [gp 5 (.al [.n,.n])] ZaM ZaM
abbrev ZbI:AC:=.rg [.ownC 5 1 4,.ownC 5 0 4] [gA 6 (kI 0)] ZaY ZaM
abbrev ZaK:AC:=.ite 9 .sk (.ex 0)
abbrev ZaI:AC:=.sq (rG [gA 4 (kI 1)] [4] []) .rt
abbrev ZaH:AC:=.sq (rG [gA 2 (kI 5)] [2] []) .rt
abbrev ZaG:AC:=rG [gp 3 (.bx 1)] [0,3] [0,3]
abbrev ZaF:AC:=rG [gA 4 (kI 0)] [0,1] []
abbrev ZaE:AC:=rG [gp 1 (.bx 0),gA 2 (kI 0)] [1] [1]
abbrev ZaD:AC:=rG [gM 15 5,gB 16 .add 15 (kI 1),gA 5 16] [0,1,5] []
abbrev ZaC:AC:=rG [gB 9 .lss 8 7] [0,1,7,8,9] []
abbrev ZaA:List AV:=[(.b false),(.l 155 []),(.l 155 [])]
abbrev Zay:AC:=.sq (rG [gA 4 (kI (-1))] [4] []) .rt
abbrev Zav:AC:=.sq (rG [gA 4 (kI 2)] [4] []) .rt
abbrev Zau:AC:=.sq (rG [gA 2 (kI 2)] [2] []) .rt
abbrev Zar:AC:=rG [gM 6 0,gl 7 6,gM 8 (kI 0)] Zbj []
abbrev Zaq:AC:=.sq (rG [gA 4 (kI 0)] [4] []) .rt
abbrev Zap:AC:=.sq (rG [gA 4 (kI 5)] [4] []) .rt
abbrev Zan:AV:=.l 89 []
abbrev Zal:AC:=.sq (.bl 1 (.sq Zcv (.sq (rG [gM 11 1,gM 12 0,gM 13 5,gi 14 1 12 13,gQ 15 14,gp 16 (.d2 11 [15])] [0,1,5,7,8,16] []) ZbK))) Zcn
abbrev Zak:AC:=.sq (.bl 1 (.sq Zcv (.sq (rG [gM 11 1,gM 12 0,gM 13 5,gi 14 2 12 13,gC 15 2 14,gp 16 (.d2 11 [15])] [0,1,5,7,8,16] []) ZbK))) Zcn
abbrev Zaj:AC:=.sq (rG [gM 11 5,gM 12 0,gl 13 12,gB 14 .lss 11 13] [0,1,5,14] []) (.ite 14 .sk (.ex 0))
abbrev Zah:AV:=.l 111 []
abbrev Zag:AC:=rG [gp 2 (.bx 0),gA 4 (kI 0)] [1,2] [2]
abbrev Zae:qI:=.al Zbn
abbrev Zca:AC:=rG [gp 3 (.bx 1),gp 4 Zae] [0,3,4] [0,3,4]
abbrev Zbg:AC:=rG [gp 1 (.bx 0),gp 2 Zae] [1,2] [1,2]
abbrev ZaB:AC:=rG [gp 2 (.bx 0),gp 3 (.bx 1),gp 4 Zae] [2,3,4] [2,3,4]
abbrev Zac:bY:=.c (.b true)
abbrev ZcG:AC:=.sq (rG [gS 1 4 Zac] [4] [4]) .rt
abbrev Zaz:AC:=.sq (rG [gA 6 Zac] [6] []) .rt
abbrev Zaf:AC:=.sq (rG [gA 4 Zac] [4] []) .rt
abbrev Zab:AV:=.i .i64 0
abbrev Zba:qI:=.al [Zab,Zab,Zan]
abbrev ZaJ:qI:=.al [Zab,Zab,Zab,Zab,Zab,Zan,Zan,Zah,Zah]
abbrev Zax:qI:=.al [ZbS,Zah,Zab,Zab,Zan]
abbrev Zai:List AV:=[(.l 128 []),ZbS,ZbS,Zab,Zab,Zab]
abbrev Zaa:bY:=.c (.b false)
abbrev ZcN:AC:=.sq (rG [gA 2 Zaa] [2] []) .rt
abbrev ZcH:AC:=.sq (rG [gS 1 4 Zaa] [4] [4]) .rt
abbrev Zcy:AC:=rG [gp 1 (.bx 0),gA 2 Zaa] [1] [1]
abbrev Zco:AC:=rG [gp 2 (.bx 0),gA 3 Zaa] [1,2] [1,2]
abbrev Zbf:AC:=rG [gp 3 (.bx 0),gA 6 Zaa] [1,2,3] [3]
abbrev Zbc:AC:=rG [gp 5 (.bx 2),gA 6 Zaa] [0,1,5] [0,5]
abbrev Zbb:AC:=rG [gp 4 (.bx 1),gA 6 Zaa] [0,2,4] [0,4]
abbrev ZaQ:AC:=rG [gp 2 (.bx 0),gA 4 Zaa] [1,2] [2]
abbrev ZaL:AC:=rG [gA 2 Zaa] [0] []
abbrev Zaw:AC:=rG [gp 3 (.bx 1),gA 4 Zaa] [0,3] [0,3]
abbrev Zat:AC:=.sq (rG [gA 6 Zaa] [6] []) .rt
abbrev Zas:AC:=rG [gA 4 Zaa] [0,1] []
abbrev Zam:AC:=rG [gp 2 (.bx 0),gp 3 (.bx 1),gA 4 Zaa] [2,3] [2,3]
abbrev Zad:AC:=.sq (rG [gA 4 Zaa] [4] []) .rt
abbrev Zao:AC:=.sq (rG [gM 6 0,gl 7 6,gM 8 1,gl 9 8,gB 10 .neq 7 9] [0,1,10] []) (.ite 10 Zad .sk)
def aaP:AC:=(.sq (rG [ga 34 23 [],gM 35 34,hC 36 6 7 35 true,hM 37 9 35 true,hM 38 10 35 true,hC 39 6 11 35 true,ha 40 24 [36,37,38,39] 35 true,gk 41 35 40 Zaa,gM 42 41,hM 43 8 42 true,hM 44 12 42 true,ha 45 25 [43,44] 42 true,gk 46 42 45 Zaa,gA 6 46] [6] []) .rt)
def anL:AC:=.kp [7,8,9,10,11,12] [7,11] aaP
def c5:bU:=⟨(.sq Zbf (.sq (rG [gC 14 8 3,gM 15 1,gM 16 2,ga 17 21 [14,15,16],gM 13 17,ge 18 13 0,ge 19 13 1,ge 20 13 2,gp 7 (.al Zai),gS 6 7 18,gA 8 19,gA 9 20] ZaT [3,7]) (.sq (rG [gC 21 8 3,gM 22 1,gM 23 2,ga 24 17 [21,22,23],gA 10 24] [1,2,3,7,8,9,10] [3,7]) (.sq (rG [gp 11 (.al Zai)] [1,2,3,7,8,9,10,11] [3,7,11]) (.sq (rG [gA 12 Zci] [1,2,3,7,8,9,10,11,12] [3,7,11]) (.sq (.sq (rG [gM 25 10,gB 26 .eql 25 (kI 0)] [1,2,3,7,8,9,10,11,12,26] [3,7,11]) (.ite 26 (rG [gC 28 8 3,gM 29 1,gM 30 2,ga 31 22 [28,29,30,Zac],gM 27 31,ge 32 27 0,ge 33 27 1,gS 6 11 32,gA 12 33] [7,8,9,10,11,12] [7,11]) .sk)) anL)))))),[.t 6]⟩
def aiO:AC:=(.sq (.bl 1 (.sq (.dg [] [] [uF 61 0 1,xC 62 2 61 [1],uF 63 2 1,xQ 64 63 [1],uM 65 4,xi 66 1 64 65 [1],xQ 67 66 [1],gH (ga 68 29 [62,67]),gH (gn 69 68)] [1,4,69] [1]) (.ite 69 ZaH .sk))) (rG [gM 59 4,gB 60 .add 59 (kI 1),gA 4 60] [1,4] [1]))
def aiP:AC:=.kp [1,4] [1] aiO
def aiQ:AC:=(.sq (.sq (rG [gM 54 4,gF 55 2 1,gQ 56 55,gl 57 56,gB 58 .lss 54 57] [1,4,58] [1]) (.ite 58 .sk (.ex 0))) aiP)
def Ya:bO:=⟨[1,4],[1],aiQ⟩
def aiR:AC:=(.sq (.bl 3 (rG [gM 84 5,gF 85 5 1,gQ 86 85,gM 87 6,gi 88 3 86 87,gF 89 1 88,gC 90 2 89,gz 91 (.bs 83 2 [90]),gp 92 (.ap 83 2 48 84 91),gA 5 92] [1,5,6] [1])) (rG [gM 82 6,gB 83 .add 82 (kI 1),gA 6 83] [1,5,6] [1]))
def aiS:AC:=.kp [1,5,6] [1] aiR
def aiT:AC:=(.sq (.sq (rG [gM 77 6,gF 78 5 1,gQ 79 78,gl 80 79,gB 81 .lss 77 80] [1,5,6,81] [1]) (.ite 81 .sk (.ex 2))) aiS)
def Yb:bO:=⟨[1,5,6],[1],aiT⟩
def aiU:AC:=(.sq (.bl 5 (.sq (.dg [] [] [uF 99 0 1,xC 100 2 99 [1],uM 101 5,uM 102 7,gU (gi 103 2 101 102) [101,102,5],gU (gC 104 2 103) [103,5],gH (ga 105 41 [100,104]),gH (gA 8 105)] [1,5,7,8] [1]) (.sq (rG [gM 106 8,gB 107 .neq 106 (kI 0)] [1,5,7,8,107] [1]) (.ite 107 (.sq (rG [gM 108 8,gA 2 108] [2] []) .rt) .sk)))) (rG [gM 97 7,gB 98 .add 97 (kI 1),gA 7 98] [1,5,7] [1]))
def aiV:AC:=.kp [1,5,7] [1] aiU
def aiW:AC:=(.sq (.sq (rG [gM 93 7,gM 94 5,gl 95 94,gB 96 .lss 93 95] [1,5,7,96] [1]) (.ite 96 .sk (.ex 4))) aiV)
def Yc:bO:=⟨[1,5,7],[1],aiW⟩
def aiX:AC:=(.sq (.bl 7 (.sq (rG [gF 116 5 1,gQ 117 116,gM 118 9,gi 119 3 117 118,gC 120 3 119,gp 10 (.al ZaA),gS 3 10 120] [1,9,10] [1,10]) (.sq (rG [gF 121 0 10,gQ 122 121,gn 123 122,gM 124 123,hF 125 1 10 124 true,hF 126 0 125 124 true,hQ 127 126 124 true,hl 128 127 124 true,hB 129 .gtr 128 (kI 0) 124 true,hM 130 129 124 true,hF 131 1 10 130 false,hF 132 1 131 130 false,hQ 133 132 130 false,hl 134 133 130 false,hB 135 .gtr 134 (kI 0) 130 false,gg 136 (.pk 130 Zac 135) 124 true,gk 137 124 136 Zaa] [1,9,137] [1]) (.ite 137 Zbt .sk)))) (rG [gM 114 9,gB 115 .add 114 (kI 1),gA 9 115] [1,9] [1]))
def aiY:AC:=.kp [1,9] [1] aiX
def aiZ:AC:=(.sq (.sq (rG [gM 109 9,gF 110 5 1,gQ 111 110,gl 112 111,gB 113 .lss 109 112] [1,9,113] [1]) (.ite 113 .sk (.ex 6))) aiY)
def Yd:bO:=⟨[1,9],[1],aiZ⟩
def aaQ:AC:=(.sq (.bl 9 (rG [gM 148 11,gF 149 6 1,gQ 150 149,gM 151 12,gi 152 5 150 151,gF 153 1 152,gQ 154 153,ga 155 42 [154,(kI 1)],gB 156 .add 148 155,gA 11 156] [1,11,12] [1])) (rG [gM 146 12,gB 147 .add 146 (kI 1),gA 12 147] [1,11,12] [1]))
def aaR:AC:=.kp [1,11,12] [1] aaQ
def ai0:AC:=(.sq (.sq (rG [gM 141 12,gF 142 6 1,gQ 143 142,gl 144 143,gB 145 .lss 141 144] [1,11,12,145] [1]) (.ite 145 .sk (.ex 8))) aaR)
def Ye:bO:=⟨[1,11,12],[1],ai0⟩
def aaS:AC:=(.sq (.bl 15 (.sq (.dg [] [] [uF 198 0 14,xQ 199 198 [14],uM 200 16,xi 201 1 199 200 [14],xQ 202 201 [14],uF 203 0 14,xQ 204 203 [14],uM 205 15,xi 206 1 204 205 [14],xQ 207 206 [14],gH (gB 208 .eql 202 207)] [1,13,14,15,16,208] [1,14]) (.ite 208 (.sq (rG [gA 2 (kI 6)] [2] []) .rt) .sk))) (rG [gM 196 16,gB 197 .add 196 (kI 1),gA 16 197] Zcq [1,14]))
def aaT:AC:=.kp Zcq [1,14] aaS
def ai1:AC:=(.sq (.sq (rG [gM 193 16,gM 194 15,gB 195 .lss 193 194] [1,13,14,15,16,195] [1,14]) (.ite 195 .sk (.ex 14))) aaT)
def Yf:bO:=⟨Zcq,[1,14],ai1⟩
def aaU:AC:=(.sq (rG [gA 16 (kI 0)] Zcq [1,14]) (.bl 14 Yf.lp))
def aaV:AC:=.kp Zcs [1,14] aaU
def aaW:AC:=(.sq (.bl 13 (.sq (.sq (.dg [] [] [uF 182 0 14,xQ 183 182 [14],uM 184 15,xi 185 1 183 184 [14],xQ 186 185 [14],uF 187 5 1,xQ 188 187 [1],xl 189 188 [1],gU (gB 190 .sub 189 (kI 1)) [189],gH (ga 191 43 [186,(kI 0),190]),gH (gn 192 191)] [1,13,14,15,192] [1,14]) (.ite 192 ZaH .sk)) aaV)) (rG [gM 180 15,gB 181 .add 180 (kI 1),gA 15 181] Zcs [1,14]))
def aaX:AC:=.kp Zcs [1,14] aaW
def ai2:AC:=(.sq (.sq (rG [gM 175 15,gF 176 0 14,gQ 177 176,gl 178 177,gB 179 .lss 175 178] [1,13,14,15,179] [1,14]) (.ite 179 .sk (.ex 12))) aaX)
def Yg:bO:=⟨Zcs,[1,14],ai2⟩
def Uw:AC:=(.sq (rG [gM 222 3,gB 223 .neq 222 (kI 0)] [1,3,13,223] [1]) (.ite 223 (.sq (rG [gM 224 3,gA 2 224] [2] []) .rt) .sk))
def aaY:AC:=.kp [1,3,13] [1] Uw
def aaZ:AC:=(.sq (rG [gC 209 8 1,gM 210 13,gF 211 1 14,gQ 212 211,ga 213 44 [209,210,212],gA 3 213] [1,3,13,14] [1,14]) (.sq (.sq (rG [gM 214 3,gB 215 .eql 214 (kI 0)] [1,3,13,14,215] [1,14]) (.ite 215 (rG [gF 216 2 14,gC 217 3 216,gF 218 5 1,gQ 219 218,gl 220 219,ga 221 45 [217,220],gA 3 221] [1,3,13] [1]) .sk)) aaY))
def aa0:AC:=.kp [1,13,14] [1,14] aaZ
def aa1:AC:=(.sq (.sq (rG [gA 15 (kI 0)] Zcs [1,14]) (.bl 12 Yg.lp)) aa0)
def aa2:AC:=.kp [1,13,14] [1,14] aa1
def aa3:AC:=(.sq (.bl 11 (.sq (rG [gF 166 6 1,gQ 167 166,gM 168 13,gi 169 5 167 168,gC 170 5 169,gp 14 Zax,gS 5 14 170] [1,13,14] [1,14]) (.sq (.sq (rG [gF 171 0 14,gQ 172 171,gl 173 172,gB 174 .gtr 173 (kI 4)] [1,13,14,174] [1,14]) (.ite 174 Zau .sk)) aa2))) (rG [gM 164 13,gB 165 .add 164 (kI 1),gA 13 165] [1,13] [1]))
def aa4:AC:=.kp [1,13] [1] aa3
def ai3:AC:=(.sq (.sq (rG [gM 159 13,gF 160 6 1,gQ 161 160,gl 162 161,gB 163 .lss 159 162] [1,13,163] [1]) (.ite 163 .sk (.ex 10))) aa4)
def Yh:bO:=⟨[1,13],[1],ai3⟩
def aa5:AC:=(.sq (rG [gC 225 8 1,gF 226 6 1,gQ 227 226,gl 228 227,gF 229 7 1,gQ 230 229,ga 231 44 [225,228,230],gA 2 231] [2] []) .rt)
def aa6:AC:=.kp [1] [1] aa5
def aa7:AC:=(.sq (.sq (rG [gA 13 (kI 0)] [1,13] [1]) (.bl 10 Yh.lp)) aa6)
def aa8:AC:=.kp [1] [1] aa7
def aa9:AC:=(.sq (.sq (rG [gM 157 11,gB 158 .gtr 157 (kI 50)] [1,158] [1]) (.ite 158 Zau .sk)) aa8)
def aba:AC:=.kp [1,11] [1] aa9
def ai4:AC:=(.sq (rG [gF 138 7 1,gQ 139 138,ga 140 42 [139,(kI 1)],gA 11 140] [1,11] [1]) (.sq (.sq (rG [gA 12 (kI 0)] [1,11,12] [1]) (.bl 8 Ye.lp)) aba))
def ai5:AC:=.kp [1] [1] ai4
def ai6:AC:=(.sq (.sq (rG [gA 9 (kI 0)] [1,9] [1]) (.bl 6 Yd.lp)) ai5)
def ai7:AC:=.kp [1] [1] ai6
def ai8:AC:=(.sq (.sq (rG [gA 7 (kI 0)] [1,5,7] [1]) (.bl 4 Yc.lp)) ai7)
def ai9:AC:=.kp [1,5] [1] ai8
def aja:AC:=(.sq (.dg [] [70,73] [gL (gp 70 (.bs 83 2 [])) [] [73],vF 71 3 1 [70,73],yQ 72 71 [1] [70,73],⟨gp 73 (.ap 83 2 48 70 72),true,[70,72],[1],false,[70],[],[]⟩,vF 74 4 1 [70,73],yQ 75 74 [1] [70,73],gH (gp 76 (.ap 83 2 48 73 75)),gH (gA 5 76)] [1,5] [1]) (.sq (.sq (.rg [.own 5 83] [gA 6 (kI 0)] [1,5,6] [1]) (.bl 2 Yb.lp)) ai9))
def ajb:AC:=.kp [1] [1] aja
def ajc:AC:=(.sq (.sq (rG [gA 4 (kI 0)] [1,4] [1]) (.bl 0 Ya.lp)) ajb)
def ajd:AC:=.kp [1] [1] ajc
def aje:AC:=(.sq (.sq (rG [gF 23 5 1,gQ 24 23,gl 25 24,gB 26 .gtr 25 (kI 16),gM 27 26,hF 28 3 1 27 false,hQ 29 28 27 false,hl 30 29 27 false,hB 31 .gtr 30 (kI 5) 27 false,gp 32 (.pk 27 Zac 31),gM 33 32,hF 34 4 1 33 false,hQ 35 34 33 false,hl 36 35 33 false,hB 37 .gtr 36 (kI 5) 33 false,gp 38 (.pk 33 Zac 37),gM 39 38,hF 40 6 1 39 false,hQ 41 40 39 false,hl 42 41 39 false,hB 43 .gtr 42 (kI 5) 39 false,gp 44 (.pk 39 Zac 43),gM 45 44,hF 46 2 1 45 false,hQ 47 46 45 false,hl 48 47 45 false,hF 49 0 1 45 false,hF 50 0 49 45 false,hQ 51 50 45 false,hB 52 .gtr 48 51 45 false,gp 53 (.pk 45 Zac 52)] [1,53] [1]) (.ite 53 Zau .sk)) ajd)
def ajf:AC:=.kp [1] [1] aje
def c10:bU:=⟨(.sq ZaE (.sq (rG [gF 17 0 1,gC 18 2 17,ga 19 40 [18],gA 3 19] [1,3] [1]) (.sq (.sq (rG [gM 20 3,gB 21 .neq 20 (kI 0)] [1,3,21] [1]) (.ite 21 (.sq (rG [gM 22 3,gA 2 22] [2] []) .rt) .sk)) ajf))),[.t 2]⟩
def ajg:AC:=(.sq (.bl 1 (.sq (.dg [] [] [uM 17 0,uM 18 5,ui 19 1 17 18,uQ 20 19,uM 21 1,uM 22 5,ui 23 1 21 22,uQ 24 23,gH (gp 25 (.bo .neq true 20 24))] [0,1,5,25] []) (.ite 25 Zad .sk))) ZaD)
def ajh:AC:=.kp [0,1,5] [] ajg
def aji:AC:=(.sq Zaj ajh)
def Yi:bO:=⟨[0,1,5],[],aji⟩
def ajj:AC:=(.sq (.sq ZaR (.bl 0 Yi.lp)) Zaf)
def ajk:AC:=.kp [0,1] [] ajj
def c14:bU:=⟨(.sq Zas (.sq Zao ajk)),[.t 4]⟩
def ajl:AC:=(.sq (.bl 1 (.sq (rG [gM 28 1,gM 29 8,gi 30 1 28 29,gQ 31 30,gl 32 31,gB 33 .gtr 32 (kI 100)] [1,2,8,33] []) (.ite 33 Zcz .sk))) (rG [gM 26 8,gB 27 .add 26 (kI 1),gA 8 27] [1,2,8] []))
def ajm:AC:=.kp [1,2,8] [] ajl
def ajn:AC:=(.sq (.sq (rG [gM 22 8,gM 23 1,gl 24 23,gB 25 .lss 22 24] [1,2,8,25] []) (.ite 25 .sk (.ex 0))) ajm)
def Yj:bO:=⟨[1,2,8],[],ajn⟩
def ajo:AC:=(.sq (.bl 5 (.sq (rG [gM 49 1,gM 50 9,gi 51 1 49 50,gQ 52 51,gM 53 10,gi 54 1 52 53,gQ 55 54,ga 56 62 [55],gn 57 56] [1,2,9,10,57] []) (.ite 57 Zbu .sk))) (rG [gM 47 10,gB 48 .add 47 (kI 1),gA 10 48] [1,2,9,10] []))
def ajp:AC:=.kp [1,2,9,10] [] ajo
def ajq:AC:=(.sq (.sq (rG [gM 40 10,gM 41 1,gM 42 9,gi 43 1 41 42,gQ 44 43,gl 45 44,gB 46 .lss 40 45] [1,2,9,10,46] []) (.ite 46 .sk (.ex 4))) ajp)
def Yk:bO:=⟨[1,2,9,10],[],ajq⟩
def ajr:AC:=(.sq (.bl 3 (.sq (rG [gA 10 (kI 0)] [1,2,9,10] []) (.bl 4 Yk.lp))) (rG [gM 38 9,gB 39 .add 38 (kI 1),gA 9 39] [1,2,9] []))
def ajs:AC:=.kp [1,2,9] [] ajr
def ajt:AC:=(.sq (.sq (rG [gM 34 9,gM 35 1,gl 36 35,gB 37 .lss 34 36] [1,2,9,37] []) (.ite 37 .sk (.ex 2))) ajs)
def Yl:bO:=⟨[1,2,9],[],ajt⟩
def aju:AC:=(.sq (.sq (rG [gM 58 2,ga 59 43 [58,(kI 0),(kI 2000)],gn 60 59] [60] []) (.ite 60 Zbu .sk)) Zbv)
def ajv:AC:=.kp [2] [] aju
def ajw:AC:=(.sq (.sq (rG [gA 9 (kI 0)] [1,2,9] []) (.bl 2 Yl.lp)) ajv)
def ajx:AC:=.kp [1,2] [] ajw
def ajy:AC:=(.sq (.sq (rG [gA 8 (kI 0)] [1,2,8] []) (.bl 0 Yj.lp)) ajx)
def ajz:AC:=.kp [1,2] [] ajy
def ajA:AC:=(.sq (.sq (rG [gM 16 1,gl 17 16,gF 18 3 3,gQ 19 18,gl 20 19,gB 21 .neq 17 20] [1,2,21] []) (.ite 21 ZaU .sk)) ajz)
def ajB:AC:=.kp [1,2,3] [3] ajA
def c17:bU:=⟨(.sq ZaZ (.sq (rG [gC 11 8 3,ga 12 10 [11],gA 7 12] ZbA [3]) (.sq (.sq (rG [gM 13 7,gB 14 .neq 13 (kI 0)] [1,2,3,7,14] [3]) (.ite 14 (.sq (rG [gM 15 7,gA 6 15] [6] []) .rt) .sk)) ajB))),[.t 6]⟩
def ajC:AC:=(.sq (.bl 1 (.sq (.dg [] [] [uM 17 0,uM 18 5,ui 19 1 17 18,uQ 20 19,uM 21 1,uM 22 5,ui 23 1 21 22,uQ 24 23,gH (gB 25 .neq 20 24)] [0,1,5,25] []) (.ite 25 Zad .sk))) ZaD)
def ajD:AC:=.kp [0,1,5] [] ajC
def ajE:AC:=(.sq Zaj ajD)
def Ym:bO:=⟨[0,1,5],[],ajE⟩
def ajF:AC:=(.sq (.sq ZaR (.bl 0 Ym.lp)) Zaf)
def ajG:AC:=.kp [0,1] [] ajF
def c20:bU:=⟨(.sq Zas (.sq Zao ajG)),[.t 4]⟩
def ajH:AC:=(.sq (.bl 1 (.dg [] [48,49] [vM 40 10 [48,49],vM 41 10 [48,49],gL (gp 42 (.nc 41)) [41] [48,49],vF 43 9 42 [48,49],yQ 44 43 [25,32,34] [48,49],vF 45 0 3 [48,49],yC 46 2 45 [3] [48,49],gL (ga 47 66 [46]) [46] [48,49],gL (gz 48 (.bs 113 2 [47])) [47] [49],⟨gp 49 (.ap 113 2 48 44 48),true,[44,48],[34],false,[44,44],[],[]⟩,gH (gp 50 (.nc 40)),gH (gF 51 9 50),gH (gS 1 51 49)] ZbC Zbe)) (rG [gB 52 .add 38 (kI 1),gM 38 52] ZbC Zbe))
def ajI:AC:=.kp ZbC Zbe ajH
def ajJ:AC:=(.sq (rG [gB 39 .lss 38 37] [3,6,10,25,37,38,39] Zbe) (.sq (.ite 39 .sk (.ex 0)) ajI))
def Yn:bO:=⟨ZbC,Zbe,ajJ⟩
def ajK:AC:=(.sq (.bl 3 (.sq (rG [gi 79 2 75 77,gC 80 2 79,gp 13 Zae,gS 2 13 80] [6,10,11,13,25,75,76,77] [6,13,25,32,34]) (rG [gM 81 11,gC 82 2 13,ga 83 70 [82],gz 84 (.bs 113 2 [83]),gp 85 (.ap 113 2 48 81 84),gA 11 85] Zbl ZaX))) (rG [gB 86 .add 77 (kI 1),gM 77 86] Zbl ZaX))
def ajL:AC:=.kp Zbl ZaX ajK
def ajM:AC:=(.sq (rG [gB 78 .lss 77 76] [6,10,11,25,75,76,77,78] ZaX) (.sq (.ite 78 .sk (.ex 2)) ajL))
def Yo:bO:=⟨Zbl,ZaX,ajM⟩
def ajN:AC:=(.sq (.rg [.fzC 25 11,.fzC 25 12,.fzC 25 13] [gM 87 10,gp 88 (.nc 87),gF 89 0 88,gQ 90 89,gp 91 (.nc 90),gF 92 11 91,gC 93 6 92,gM 94 11,gS 6 6 93,gA 7 94,gA 8 (kI 0)] [6,7,8,11] [6]) .rt)
def ajO:AC:=.kp [6,10,11,25] ZaX ajN
def Yp:AC:=(.sq (rG [gA 11 (.c .n)] [6,10,11,25] ZaX) (.sq (.sq (.rg [.own 11 113] [gM 72 10,gp 73 (.nc 72),gF 74 9 73,gQ 75 74,gl 76 75,gM 77 (kI 0)] Zbl ZaX) (.bl 2 Yo.lp)) ajO))
def ajP:AC:=.kp [6,10,25] ZaX Yp
def ajQ:AC:=(.sq (.sq (.dg [] [] [uM 53 10,uF 54 7 3,xQ 55 54 [3],uM 56 10,gU (gp 57 (.nc 56)) [56],uF 58 0 57,xQ 59 58 [25,32,34],uF 60 6 3,xQ 61 60 [3],xl 62 61 [3],⟨gp 63 (.c3 69 [59,62]),true,[59,62],[25,32,34],true,[],[],[]⟩,gH (gp 64 (.c2 68 [53,55,63]))] [6,10,25,64] ZaX) (.ite 64 (rG [gM 65 10,gp 66 (.nc 65),gF 67 0 66,gQ 68 67,gp 69 (.nc 68),gF 70 11 69,gF 71 4 70,gS 1 71 (kI 1)] [6,10,25] ZaX) .sk)) ajP)
def ajR:AC:=.kp [3,6,10,25] Zbe ajQ
def ajS:AC:=(.sq (.dg [] ZbO [yC 22 8 3 [3] ZbO,vM 23 1 ZbO,vM 24 2 ZbO,gL (gp 25 (.ck 64 [22,23,24])) [22,23,24] [30,32],yC 26 8 3 [3] ZbO,vF 27 0 3 ZbO,yC 28 2 27 [3] ZbO,gL (ga 29 66 [28]) [28] [30,32],gL (gp 30 (.bs 113 2 [29])) [29] [32],yC 31 8 3 [3] ZbO,gL (gp 32 (.ck 67 [31])) [31] [30],gH (gp 33 (.bg [.z,Zab,Zby,ZbS,ZaP,ZaP,ZbP,ZbQ,Zah,.n,.n,.z] [(0,1,25),(1,8,26),(10,1,30),(11,1,32)])),gH (gp 34 (.bxg 33)),gH (gA 10 34)] [3,6,10,25] Zbe) (.sq (.sq (.rg [.ownC 10 9 113,.ownC 10 10 113] [gF 35 5 3,gQ 36 35,gl 37 36,gM 38 (kI 0)] ZbC Zbe) (.bl 0 Yn.lp)) ajR))
def ajT:AC:=.kp [1,2,3,6] [3,6] ajS
def c21:bU:=⟨(.sq (rG [gp 3 (.bx 0),gp 6 (.al Zai),gA 7 Zci,gA 8 (kI 0)] [1,2,3,6] [3,6]) (.sq (.sq (rG [gC 14 8 3,gM 15 1,gM 16 2,ga 17 63 [14,15,16],gA 9 17] [1,2,3,6,9] [3,6]) (.sq (rG [gM 18 9,gB 19 .neq 18 (kI 0)] [1,2,3,6,9,19] [3,6]) (.ite 19 (.sq (rG [gp 20 (.bd Zai []),gM 21 9,gS 6 6 20,gA 7 Zci,gA 8 21] [6,7,8,11] [6]) .rt) .sk))) ajT)),[.c 6 (some 6),.t 7,.t 8]⟩
def ajU:AC:=(.sq (.bl 1 (.dg [] [42] [vF 37 18 10 [42],yQ 38 37 [10] [42],vF 39 0 4 [42],yC 40 2 39 [4] [42],gL (ga 41 71 [40]) [40] [42],gU (gz 42 (.bs 113 2 [41])) [41],gH (gp 43 (.ap 113 2 48 38 42)),gH (gF 44 18 10),gH (gS 1 44 43)] Zce ZbY)) (rG [gM 35 11,gB 36 .add 35 (kI 1),gA 11 36] Zce ZbY))
def ajV:AC:=.kp Zce ZbY ajU
def ajW:AC:=(.sq (.sq (rG [gM 30 11,gF 31 5 4,gQ 32 31,gl 33 32,gB 34 .lss 30 33] [2,4,8,10,11,34] ZbY) (.ite 34 .sk (.ex 0))) ajV)
def Yq:bO:=⟨Zce,ZbY,ajW⟩
def ajX:AC:=(.bl 3 (.sq (rG [gF 71 16 10,gQ 72 71,gF 73 16 10,gQ 74 73,gl 75 74,gB 76 .sub 75 (kI 1),gi 77 12 72 76,gC 78 12 77,gp 12 (.al [Zab,Zab,Zab,Zab,Zab,Zab,Zab,Zan,Zan,Zah,Zah,Zab]),gS 12 12 78] [2,8,10,12] Zcw) (.sq (rG [gF 79 16 10,gQ 80 79,gF 81 16 10,gQ 82 81,gl 83 82,gB 84 .sub 83 (kI 1),gp 85 (.sl 148 12 80 none (some 84)),gF 86 16 10,gS 1 86 85] [2,8,10,12] Zcw) (.sq (rG [gF 87 0 12,gQ 88 87] [2,8,10,12,88] Zcw) (.bl 4 (.sq (rG [gB 105 .eql 88 (kI 3),gA 104 105] [2,8,10,12,88,104] Zcw) (.ite 104 (rG [gF 106 19 10,gQ 107 106,gF 108 11 12,gQ 109 108,gp 110 (.sl 113 2 107 none (some 109)),gF 111 19 10,gS 1 111 110] [2,8,10] [8,10]) (.sq (rG [gB 113 .eql 88 (kI 2),gA 112 113] [2,8,10,12,112] Zcw) (.ite 112 (rG [gC 114 12 12,gp 115 (.c2 73 [10,114])] [2,8,10] [8,10]) (.sq (rG [gF 89 10 10,gF 90 3 89,gQ 91 90,gM 92 2,gB 93 .eql 91 92] [2,8,10,12,93] Zcw) (.ite 93 (rG [gF 94 10 10,gF 95 4 94,gS 1 95 (kI 2)] [2,8,10] [8,10]) (.sq (rG [gF 96 10 10,gF 97 3 96,gQ 98 97,gB 99 .add 98 (kI 1),gF 100 10 10,gF 101 3 100,gS 1 101 99] [2,8,10,12] Zcw) (rG [gC 102 12 12,gp 103 (.c2 74 [10,102])] [2,8,10] [8,10])))))))))))))
def ajY:AC:=.kp [2,8,10] [8,10] ajX
def ajZ:AC:=(.sq (.sq (rG [gF 61 16 10,gQ 62 61,gl 63 62,gB 64 .gtr 63 (kI 0),gM 65 64,hF 66 10 10 65 true,hF 67 4 66 65 true,hQ 68 67 65 true,hB 69 .eql 68 (kI 0) 65 true,gk 70 65 69 Zaa] [2,8,10,70] [8,10]) (.ite 70 .sk (.ex 2))) ajY)
def Yr:bO:=⟨[2,8,10],[8,10],ajZ⟩
def Ys:AC:=(.sq (.dg [.fzC 10 10,.fzC 10 11,.fzC 10 12,.fzC 10 18] [] [uF 122 10 10,xC 123 6 122 [10],uF 124 18 10,xQ 125 124 [10],gX (gS 6 8 123) [8,123] [8],gH (gA 9 125)] [8,9] [8]) .rt)
def aj0:AC:=.kp [8,10] [8,10] Ys
def aj1:AC:=(.sq (.sq (rG [gF 116 10 10,gF 117 4 116,gQ 118 117,gB 119 .eql 118 (kI 0)] [8,10,119] [8,10]) (.ite 119 (rG [gF 120 10 10,gF 121 4 120,gS 1 121 (kI 1)] [8,10] [8,10]) .sk)) aj0)
def aj2:AC:=.kp [8,10] [8,10] aj1
def aj3:AC:=(.sq (.dg [] [50] [vF 45 19 10 [50],yQ 46 45 [10] [50],vF 47 0 4 [50],yC 48 2 47 [4] [50],gL (ga 49 71 [48]) [48] [50],gU (gz 50 (.bs 113 2 [49])) [49],gH (gp 51 (.ap 113 2 48 46 50)),gH (gF 52 19 10),gH (gS 1 52 51)] [2,4,8,10] ZbY) (.sq (.dg [] [] [uF 53 7 4,xQ 54 53 [4],xC 55 8 4 [4],uF 56 6 4,xQ 57 56 [4],xl 58 57 [4],gU (ga 59 52 [55,58]) [55,58],gH (gp 60 (.c2 72 [10,54,59]))] [2,8,10] [8,10]) (.sq (.bl 2 Yr.lp) aj2)))
def aj4:AC:=.kp [2,4,8,10] ZbY aj3
def c22:bU:=⟨(.sq (rG [gp 4 (.bx 0),gp 8 (.al Zai),gA 9 Zci] [1,2,3,4,8] [4,8]) (.sq (rG [gC 13 8 4,gM 14 1,gM 15 2,gM 16 3,gp 17 (.bd [Zab,Zby,ZbS,ZaP,ZaP,ZbP,ZbQ,Zah,(.l 25 []),Zab,.n,.n,.n,Zab,Zab,Zab,.n,(.b false),.n,.n] [(0,8,13),(8,1,14),(9,1,15),(17,1,16)]),gp 10 (.al [Zab,Zby,ZbS,ZaP,ZaP,ZbP,ZbQ,Zah,(.l 25 []),Zab,.n,.n,.n,Zab,Zab,Zab,.n,(.b false),.n,.n]),gS 20 10 17] [2,4,8,10] ZbY) (.sq (.dg [.ownC 10 10 128,.ownC 10 11 3,.ownC 10 12 3,.ownC 10 16 148,.ownC 10 18 113,.ownC 10 19 113] [21,25] [⟨gF 18 5 4,true,[4],[],false,[],[21,25],[10]⟩,⟨gQ 19 18,true,[18],[4],false,[],[21,25],[10]⟩,⟨gl 20 19,true,[19],[4],false,[],[21,25],[10]⟩,⟨gp 21 (.ms 3 1 8 Zab 20),true,[20],[],false,[],[25],[10]⟩,⟨gF 22 3 4,true,[4],[],false,[],[21,25],[10]⟩,⟨gQ 23 22,true,[22],[4],false,[],[21,25],[10]⟩,⟨gl 24 23,true,[23],[4],false,[],[21,25],[10]⟩,⟨gp 25 (.ms 3 1 8 Zab 24),true,[24],[],false,[],[21],[10]⟩,⟨gF 26 10 10,true,[10],[],false,[],[25],[10]⟩,⟨gF 27 1 26,true,[26],[],false,[],[25],[10]⟩,⟨gS 1 27 21,true,[27,21],[10],false,[21],[25],[]⟩,gH (gF 28 10 10),gH (gF 29 2 28),gH (gS 1 29 25)] [2,4,8,10] ZbY) (.sq (.sq (rG [gA 11 (kI 0)] Zce ZbY) (.bl 0 Yq.lp)) aj4)))),[.c 8 (some 6),.t 9]⟩
def c23:bU:=⟨(.sq (rG [gA 0 Zaa] [] []) (.sq (rG [ga 8 56 [],gz 9 (.bs 3 1 [(kI 7)]),gz 10 (.bs 25 1 [9]),ga 11 21 [8,10,(kI 9)],gM 7 11,ge 12 7 0,ge 13 7 1,ge 14 7 2,gp 1 (.al Zai),gS 6 1 12,gA 2 13,gA 3 14] [1,2,3] [1]) (.sq (rG [gp 16 (.ca 1 75 []),gz 17 (.bs 3 1 [(kI 7)]),gz 18 (.bs 25 1 [17]),ga 19 21 [16,18,(kI 9)],gM 15 19,ge 20 15 0,ge 21 15 1,ge 22 15 2,gp 4 (.al Zai),gS 6 4 20,gA 5 21,gA 6 22] [1,2,3,4,6] [1,4]) (.sq (rG [gM 23 3,gB 24 .eql 23 (kI 0),gM 25 24,hM 26 6 25 true,hB 27 .eql 26 (kI 0) 25 true,gk 28 25 27 Zaa,gM 29 28,hF 30 4 1 29 true,hQ 31 30 29 true,hB 32 .eql 31 (kI 1) 29 true,gk 33 29 32 Zaa,gM 34 33,hF 35 0 1 34 true,hQ 36 35 34 true,hl 37 36 34 true,hB 38 .eql 37 (kI 1) 34 true,gk 39 34 38 Zaa,gM 40 39,hM 41 2 40 true,hl 42 41 40 true,hB 43 .eql 42 (kI 1) 40 true,gk 44 40 43 Zaa,gM 45 44,hM 46 2 45 true,hi 47 2 46 (kI 0) 45 true,hF 48 1 47 45 true,hQ 49 48 45 true,⟨some 50,.bs 4 1 [Zac],(some (45,true)),true⟩,ha 51 14 [49,50] 45 true,gk 52 45 51 Zaa,gM 53 52,hF 54 4 4 53 true,hQ 55 54 53 true,hB 56 .eql 55 (kI 3) 53 true,gk 57 53 56 Zaa,gM 58 57,hF 59 5 4 58 true,hQ 60 59 58 true,hB 61 .eql 60 (kI 1) 58 true,gk 62 58 61 Zaa,gM 63 62,hF 64 0 4 63 true,hQ 65 64 63 true,hl 66 65 63 true,hB 67 .eql 66 (kI 0) 63 true,gk 68 63 67 Zaa,gA 0 68] [0] []) .rt)))),[.t 0]⟩
def Yt:AC:=(.sq (rG [gM 12 1,gM 13 2,gB 14 .eql 12 13,gM 15 14,hC 16 6 4 15 true,hC 17 6 7 15 true,ha 18 76 [16,17] 15 true,gk 19 15 18 Zaa,gA 8 19] [8] []) .rt)
def aj5:AC:=.kp [1,2,4,7] [4,7] Yt
def c24:bU:=⟨(.sq (rG [gp 4 (.bx 0),gp 7 (.bx 3),gA 8 Zaa] [1,2,4,7] [4,7]) (.sq (.sq (rG [gM 9 2,gB 10 .neq 9 (kI 0)] [1,2,4,7,10] [4,7]) (.ite 10 (rG [gp 11 (.bd Zai []),gS 6 7 11] [1,2,4,7] [4,7]) .sk)) aj5)),[.t 8]⟩
def aj6:AC:=(.sq (.bl 1 (.sq (.dg [] [] [uM 17 0,uM 18 5,ui 19 2 17 18,uC 20 2 19,uM 21 1,uM 22 5,ui 23 2 21 22,uC 24 2 23,gH (ga 25 77 [20,24]),gH (gn 26 25)] [0,1,5,26] []) (.ite 26 Zad .sk))) ZaD)
def aj7:AC:=.kp [0,1,5] [] aj6
def aj8:AC:=(.sq Zaj aj7)
def Yu:bO:=⟨[0,1,5],[],aj8⟩
def aj9:AC:=(.sq (.sq ZaR (.bl 0 Yu.lp)) Zaf)
def aka:AC:=.kp [0,1] [] aj9
def c25:bU:=⟨(.sq Zas (.sq Zao aka)),[.t 4]⟩
def c29:bU:=⟨(.sq ZaQ (.sq (rG [gM 5 1,gF 6 0 2,gQ 7 6,gB 8 .sub 7 (kI 1),ga 9 43 [5,(kI 0),8],gA 4 9] [4] []) .rt)),[.t 4]⟩
def akb:AC:=(.sq (.bl 1 (.sq (.dg [] [] [xC 19 2 1 [1],uF 20 1 1,xQ 21 20 [1],uM 22 3,xi 23 2 21 22 [1],xF 24 0 23 [1],xQ 25 24 [1],gU (ga 26 29 [19,25]) [19,25],un 27 26,uM 28 27,Fh 29 2 1 28 false [1],mP 30 1 1 28 false,wT 31 30 28 false [1],pU 32 3 28 false,xhi 33 2 31 32 28 false [1],X8 34 1 33 28 false [1],wT 35 34 28 false [1],gH (ha 36 29 [29,35] 28 false),gH (hn 37 36 28 false),gH (gp 38 (.pk 28 Zac 37))] [1,3,38] [1]) (.ite 38 ZaH .sk))) (rG [gM 17 3,gB 18 .add 17 (kI 1),gA 3 18] [1,3] [1]))
def akc:AC:=.kp [1,3] [1] akb
def akd:AC:=(.sq (.sq (rG [gM 12 3,gF 13 1 1,gQ 14 13,gl 15 14,gB 16 .lss 12 15] [1,3,16] [1]) ZbD) akc)
def Yv:bO:=⟨[1,3],[1],akd⟩
def ake:AC:=(.sq (.sq (rG [gA 3 (kI 0)] [1,3] [1]) (.bl 0 Yv.lp)) ZaV)
def akf:AC:=.kp [1] [1] ake
def akg:AC:=(.sq (.sq (rG [gF 8 1 1,gQ 9 8,gl 10 9,gB 11 .gtr 10 (kI 20)] [1,11] [1]) (.ite 11 Zau .sk)) akf)
def akh:AC:=.kp [1] [1] akg
def c40:bU:=⟨(.sq ZaE (.sq (.sq (rG [gF 4 0 1,gQ 5 4,ga 6 43 [5,(kI 1),(kI 6)],gn 7 6] [1,7] [1]) (.ite 7 ZcA .sk)) akh)),[.t 2]⟩
def c41:bU:=⟨(.sq ZaO (.sq (rG [gC 6 2 2,gF 7 0 3,gQ 8 7,ga 9 92 [6,8],gA 5 9] [2,3,5] [2,3]) (.sq (.sq (rG [gM 10 5,gB 11 .eql 10 (kI 0)] [2,3,5,11] [2,3]) (.ite 11 (rG [gC 12 2 2,gF 13 1 3,gQ 14 13,ga 15 92 [12,14],gA 5 15] [5] []) .sk)) (.sq (rG [gM 16 5,gA 4 16] [4] []) .rt)))),[.t 4]⟩
def aki:AC:=(.sq (.bl 1 (.dg [] [] [uM 24 5,uM 25 0,uM 26 6,ui 27 9 25 26,uF 28 7 27,uQ 29 28,uM 30 1,gU (gB 31 .add 30 (kI 1)) [30],gU (ga 32 42 [29,31]) [29,31],gU (gB 33 .add (kI 1) 32) [32],uM 34 0,uM 35 6,ui 36 9 34 35,uF 37 8 36,uQ 38 37,uM 39 1,gU (gB 40 .add 39 (kI 1)) [39],gU (ga 41 42 [38,40]) [38,40],gU (gB 42 .add 33 41) [33,41],gH (gB 43 .add 24 42),gH (gA 5 43)] [0,1,5,6] [])) (rG [gM 22 6,gB 23 .add 22 (kI 1),gA 6 23] [0,1,5,6] []))
def akj:AC:=.kp [0,1,5,6] [] aki
def akk:AC:=(.sq (.sq (rG [gM 14 6,gM 15 0,gl 16 15,gB 17 .lss 14 16,gM 18 17,hM 19 5 18 true,hB 20 .leq 19 (kI 50) 18 true,gk 21 18 20 Zaa] [0,1,5,6,21] []) (.ite 21 .sk (.ex 0))) akj)
def Yw:bO:=⟨[0,1,5,6],[],akk⟩
def akl:AC:=(.sq (.sq (rG [gM 44 5,gB 45 .gtr 44 (kI 51)] [5,45] []) (.ite 45 Zcx .sk)) (.sq (rG [gM 46 5,gA 4 46] [4] []) .rt))
def akm:AC:=.kp [5] [] akl
def Yx:AC:=(.sq ZaR (.sq (.sq (rG [gA 6 (kI 0)] [0,1,5,6] []) (.bl 0 Yw.lp)) akm))
def akn:AC:=.kp [0,1] [] Yx
def c42:bU:=⟨(.sq ZaF (.sq (.sq (rG [gM 7 0,gl 8 7,gB 9 .gtr 8 (kI 0),gM 10 9,hM 11 1 10 true,hB 12 .gtr 11 (kI 6) 10 true,gk 13 10 12 Zaa] [0,1,13] []) (.ite 13 Zcx .sk)) akn)),[.t 4]⟩
def c43:bU:=⟨(.sq (rG [gA 6 Zaa] [0,1,2] []) (.sq (rG [gM 7 0,gM 8 1,gB 9 .geq 7 8,gM 10 9,hM 11 0 10 true,hM 12 2 10 true,hB 13 .leq 11 12 10 true,gk 14 10 13 Zaa,gA 6 14] [6] []) .rt)),[.t 6]⟩
def ako:AC:=(.sq (.bl 3 (.dg [] [] [uF 173 6 8,xQ 174 173 [8],uM 175 13,xi 176 3 174 175 [8],xC 177 3 176 [8],uF 178 5 3,xQ 179 178 [3],xl 180 179 [3],gH (ga 181 45 [177,180]),gH (gA 12 181)] ZbZ [3,8])) (rG [gM 171 13,gB 172 .add 171 (kI 1),gA 13 172] ZbZ [3,8]))
def akp:AC:=.kp [1,2,3,7,8,13] [3,8] ako
def Ke:AC:=(.sq (.sq (rG [gM 162 13,gF 163 6 8,gQ 164 163,gl 165 164,gB 166 .lss 162 165,gM 167 166,hM 168 12 167 true,hB 169 .eql 168 (kI 0) 167 true,gk 170 167 169 Zaa] [1,2,3,7,8,12,13,170] [3,8]) (.ite 170 .sk (.ex 2))) akp)
def Yy:bO:=⟨ZbZ,[3,8],Ke⟩
def akq:AC:=(.sq (rG [gM 196 12,gB 197 .neq 196 (kI 0)] [1,2,3,7,12,197] [3]) (.ite 197 (.sq (rG [gM 198 12,gA 6 198] [6] []) .rt) .sk))
def Yz:AC:=.kp [1,2,3,7,12] [3] akq
def akr:AC:=(.sq (.sq (rG [gM 189 12,gB 190 .eql 189 (kI 0)] [1,2,3,7,8,12,190] [3,8]) (.ite 190 (rG [gC 191 8 3,gM 192 1,gF 193 8 8,gQ 194 193,ga 195 44 [191,192,194],gA 12 195] [1,2,3,7,12] [3]) .sk)) Yz)
def YA:AC:=.kp ZbU [3,8] akr
def aks:AC:=(.sq (.sq (rG [gM 182 12,gB 183 .eql 182 (kI 0)] [1,2,3,7,8,12,183] [3,8]) (.ite 183 (rG [gC 184 8 3,gM 185 1,gF 186 7 8,gQ 187 186,ga 188 44 [184,185,187],gA 12 188] ZbU [3,8]) .sk)) YA)
def YB:AC:=.kp ZbU [3,8] aks
def akt:AC:=(.sq (.sq (rG [gA 13 (kI 0)] ZbZ [3,8]) (.bl 2 Yy.lp)) YB)
def YC:AC:=.kp ZbU [3,8] akt
def aku:AC:=(.sq (rG [gA 12 (kI 0)] [1,2,3,7,8,9,12] [3,8]) (.sq (.sq (rG [gM 154 9,ga 155 54 [154]] [1,2,3,7,8,12,155] [3,8]) (.ite 155 (rG [gF 156 3 8,gC 157 3 156,gF 158 5 3,gQ 159 158,gl 160 159,ga 161 45 [157,160],gA 12 161] ZbU [3,8]) .sk)) YC))
def akv:AC:=.kp ZaT [3,8] aku
def YD:AC:=(.sq (.sq (.dg [] [] [uM 138 9,gU (gB 139 .eql 138 (kI 2)) [138],uM 140 139,mP 141 6 8 140 true,wT 142 141 140 true [8],xhl 143 142 140 true [8],mP 144 6 3 140 true,wT 145 144 140 true [3],mP 146 2 8 140 true,wT 147 146 140 true [8],xhi 148 5 145 147 140 true [3],X8 149 0 148 140 true [3],wT 150 149 140 true [3],uhl 151 150 140 true,gH (hB 152 .neq 143 151 140 true),gH (gk 153 140 152 Zaa)] [1,2,3,7,8,9,153] [3,8]) (.ite 153 ZaU .sk)) akv)
def akw:AC:=.kp ZaT [3,8] YD
def Tb:AC:=(.sq (rG [gF 64 3 8,gF 65 0 64,gQ 66 65,gB 67 .eql 66 (kI 0),gM 68 67,hF 69 3 8 68 true,hF 70 1 69 68 true,hQ 71 70 68 true,hB 72 .eql 71 (kI 0) 68 true,gk 73 68 72 Zaa,gM 74 73,hF 75 3 8 74 true,hF 76 2 75 74 true,hQ 77 76 74 true,hl 78 77 74 true,hB 79 .eql 78 (kI 0) 74 true,gk 80 74 79 Zaa,gA 11 80] [1,2,3,7,8,9,11] [3,8]) (.sq (.sq (rG [gM 81 9,ga 82 93 [81],gn 83 82,gM 84 83,hF 85 1 8 84 true,hQ 86 85 84 true,hB 87 .neq 86 (kI 0) 84 true,gk 88 84 87 Zaa,gM 89 88,hM 90 9 89 false,ha 91 43 [90,(kI 2),(kI 4)] 89 false,hn 92 91 89 false,hM 93 92 89 false,hF 94 2 8 93 true,hQ 95 94 93 true,hB 96 .neq 95 (kI 0) 93 true,hk 97 93 96 Zaa 89 false,gp 98 (.pk 89 Zac 97),gM 99 98,hM 100 9 99 false,ha 101 54 [100] 99 false,hn 102 101 99 false,hM 103 102 99 false,hM 104 11 103 true,hn 105 104 103 true,hk 106 103 105 Zaa 99 false,gp 107 (.pk 99 Zac 106),gM 108 107,hM 109 9 108 false,hB 110 .neq 109 (kI 2) 108 false,hM 111 110 108 false,hF 112 6 8 111 true,hQ 113 112 111 true,hl 114 113 111 true,hB 115 .gtr 114 (kI 0) 111 true,hk 116 111 115 Zaa 108 false,gp 117 (.pk 108 Zac 116),gM 118 117,hM 119 9 118 false,hB 120 .lss 119 (kI 7) 118 false,hM 121 120 118 false,hF 122 7 8 121 true,hQ 123 122 121 true,hl 124 123 121 true,hB 125 .gtr 124 (kI 0) 121 true,hk 126 121 125 Zaa 118 false,gp 127 (.pk 118 Zac 126),gM 128 127,hM 129 9 128 false,hB 130 .neq 129 (kI 7) 128 false,hM 131 130 128 false,hF 132 8 8 131 true,hQ 133 132 131 true,hl 134 133 131 true,hB 135 .gtr 134 (kI 0) 131 true,hk 136 131 135 Zaa 128 false,gp 137 (.pk 128 Zac 136)] [1,2,3,7,8,9,137] [3,8]) (.ite 137 ZaU .sk)) akw))
def akx:AC:=.kp ZaT [3,8] Tb
def YE:AC:=(.sq (rG [gM 29 1,gF 30 3 3,gQ 31 30,gl 32 31,gF 33 4 3,gQ 34 33,gl 35 34,gz 36 (.bs 3 1 [(kI 0),(kI 0),29,32,35,(kI 0),(kI 0),(kI 0),(kI 0)]),gM 37 9,gi 38 1 36 37,gQ 39 38,gA 10 39] [1,2,3,7,8,9,10] [3,8]) (.sq (.sq (rG [gM 40 9,ga 41 93 [40],gM 42 41,hF 43 1 8 42 true,hQ 44 43 42 true,hF 45 5 3 42 true,hQ 46 45 42 true,hl 47 46 42 true,hB 48 .sub 47 (kI 1) 42 true,ha 49 43 [44,(kI 0),48] 42 true,hn 50 49 42 true,gk 51 42 50 Zaa,gM 52 51,hM 53 9 52 false,ha 54 43 [53,(kI 2),(kI 4)] 52 false,hM 55 54 52 false,hF 56 2 8 55 true,hQ 57 56 55 true,hM 58 10 55 true,hB 59 .sub 58 (kI 1) 55 true,ha 60 43 [57,(kI 0),59] 55 true,hn 61 60 55 true,hk 62 55 61 Zaa 52 false,gp 63 (.pk 52 Zac 62)] [1,2,3,7,8,9,63] [3,8]) (.ite 63 (.sq (rG [gA 6 (kI 5)] [6] []) .rt) .sk)) akx))
def aky:AC:=.kp ZaT [3,8] YE
def akz:AC:=(.sq (.bl 1 (.sq (rG [gM 20 2,gM 21 7,gi 22 9 20 21,gC 23 9 22,gp 8 ZaJ,gS 9 8 23] [1,2,3,7,8] [3,8]) (.sq (rG [gF 24 0 8,gQ 25 24,gA 9 25] ZaT [3,8]) (.sq (.sq (rG [gM 26 9,ga 27 43 [26,(kI 1),(kI 8)],gn 28 27] [1,2,3,7,8,9,28] [3,8]) (.ite 28 (.sq (rG [gA 6 (kI 7)] [6] []) .rt) .sk)) aky)))) (rG [gM 18 7,gB 19 .add 18 (kI 1),gA 7 19] ZbA [3]))
def akA:AC:=.kp ZbA [3] akz
def OM:AC:=(.sq (.sq (rG [gM 14 7,gM 15 2,gl 16 15,gB 17 .lss 14 16] [1,2,3,7,17] [3]) (.ite 17 .sk (.ex 0))) akA)
def YF:bO:=⟨ZbA,[3],OM⟩
def c44:bU:=⟨(.sq ZaZ (.sq (.sq (rG [gA 7 (kI 0)] ZbA [3]) (.bl 0 YF.lp)) Zbv)),[.t 6]⟩
def akB:AC:=(.sq (rG [gF 66 0 7,gQ 67 66,gB 68 .eql 67 (kI 2),gM 69 68,hF 70 1 7 69 true,hQ 71 70 69 true,hM 72 1 69 true,hB 73 .sub 72 (kI 1) 69 true,ha 74 43 [71,(kI 0),73] 69 true,hn 75 74 69 true,gk 76 69 75 Zaa] [1,5,6,76] []) (.ite 76 Zap .sk))
def akC:AC:=.kp [1,5,6,7] [7] akB
def akD:AC:=(.sq (.sq (rG [gF 47 0 7,gQ 48 47,gB 49 .eql 48 (kI 1),gM 50 49,hF 51 1 7 50 true,hQ 52 51 50 true,ha 53 43 [52,(kI (-9999999)),(kI 9999999)] 50 true,hn 54 53 50 true,gk 55 50 54 Zaa,gM 56 55,hF 57 0 7 56 false,hQ 58 57 56 false,hB 59 .gtr 58 (kI 2) 56 false,hM 60 59 56 false,hF 61 1 7 60 true,hQ 62 61 60 true,hB 63 .neq 62 (kI 0) 60 true,hk 64 60 63 Zaa 56 false,gp 65 (.pk 56 Zac 64)] [1,5,6,7,65] [7]) (.ite 65 ZcB .sk)) akC)
def akE:AC:=.kp [1,5,6,7] [7] akD
def akF:AC:=(.sq (.sq (rG [gF 27 0 7,gQ 28 27,gB 29 .leq 28 (kI 2),gM 30 29,hF 31 2 7 30 true,hQ 32 31 30 true,hl 33 32 30 true,hB 34 .neq 33 (kI 0) 30 true,gk 35 30 34 Zaa,gM 36 35,hF 37 0 7 36 false,hQ 38 37 36 false,hB 39 .gtr 38 (kI 2) 36 false,hM 40 39 36 false,hF 41 2 7 40 true,hQ 42 41 40 true,hl 43 42 40 true,hB 44 .neq 43 (kI 2) 40 true,hk 45 40 44 Zaa 36 false,gp 46 (.pk 36 Zac 45)] [1,5,6,7,46] [7]) (.ite 46 ZaI .sk)) akE)
def akG:AC:=.kp [1,5,6,7] [7] akF
def akH:AC:=(.sq (.bl 1 (.sq (rG [gM 19 5,gM 20 6,gi 21 3 19 20,gC 22 3 21,gp 7 Zba,gS 3 7 22] [1,5,6,7] [7]) (.sq (.sq (rG [gF 23 0 7,gQ 24 23,ga 25 43 [24,(kI 1),(kI 7)],gn 26 25] [1,5,6,7,26] [7]) (.ite 26 Zbw .sk)) akG))) (rG [gM 17 6,gB 18 .add 17 (kI 1),gA 6 18] [1,5,6] []))
def akI:AC:=.kp [1,5,6] [] akH
def akJ:AC:=(.sq (.sq (rG [gM 13 6,gM 14 5,gl 15 14,gB 16 .lss 13 15] [1,5,6,16] []) ZbD) akI)
def YG:bO:=⟨[1,5,6],[],akJ⟩
def akK:AC:=(.sq (rG [gC 11 3 2,ga 12 50 [11],gA 5 12] [1,5] []) (.sq (.sq (rG [gA 6 (kI 0)] [1,5,6] []) (.bl 0 YG.lp)) Zaq))
def akL:AC:=.kp [1,2] [2] akK
def c45:bU:=⟨(.sq Zag (.sq (.sq (rG [gC 8 3 2,ga 9 94 [8,(kI 15)],gB 10 .gtr 9 (kI 15)] [1,2,10] [2]) (.ite 10 Zav .sk)) akL)),[.t 4]⟩
def akM:AC:=(.sq (.bl 1 (rG [gM 14 3,gF 15 2 1,gQ 16 15,gM 17 4,gi 18 3 16 17,gC 19 3 18,ga 20 50 [19],gp 21 (.ap 89 3 40 14 20),gA 3 21] [1,3,4] [1])) (rG [gM 12 4,gB 13 .add 12 (kI 1),gA 4 13] [1,3,4] [1]))
def akN:AC:=.kp [1,3,4] [1] akM
def akO:AC:=(.sq (.sq (rG [gM 7 4,gF 8 2 1,gQ 9 8,gl 10 9,gB 11 .lss 7 10] [1,3,4,11] [1]) Zbm) akN)
def YH:bO:=⟨[1,3,4],[1],akO⟩
def c50:bU:=⟨(.sq (rG [gp 1 (.bx 0),gA 2 (.c Zan)] [1] [1]) (.sq (rG [gC 5 3 1,gp 6 (.bs 89 3 [5]),gA 3 6] [1,3] [1]) (.sq (.sq (.rg [.own 3 89] [gA 4 (kI 0)] [1,3,4] [1]) (.bl 0 YH.lp)) (.sq (rG [gM 22 3,gA 2 22] [2,3] []) .rt)))),[.t 2]⟩
def akP:AC:=(.sq (.bl 1 (rG [gM 12 5,gF 13 6 2,gQ 14 13,gM 15 6,gi 16 5 14 15,gF 17 1 16,gQ 18 17,ga 19 53 [18],gB 20 .add 12 19,gA 5 20] Zbh [2])) (rG [gM 10 6,gB 11 .add 10 (kI 1),gA 6 11] Zbh [2]))
def akQ:AC:=.kp Zbh [2] akP
def akR:AC:=(.sq (.sq (rG [gM 7 6,gM 8 1,gB 9 .lss 7 8] [1,2,5,6,9] [2]) ZaK) akQ)
def YI:bO:=⟨Zbh,[2],akR⟩
def c52:bU:=⟨(.sq Zag (.sq ZaN (.sq (.sq ZbR (.bl 0 YI.lp)) (.sq (rG [gM 21 5,gA 4 21] [4] []) .rt)))),[.t 4]⟩
def akS:AC:=(.sq (.bl 1 (.dg [] [] [uM 11 3,uM 12 0,uM 13 4,ui 14 9 12 13,uF 15 7 14,uQ 16 15,gU (ga 17 53 [16]) [16],gU (gB 18 .add (kI 1) 17) [17],uM 19 0,uM 20 4,ui 21 9 19 20,uF 22 8 21,uQ 23 22,gU (ga 24 53 [23]) [23],gU (gB 25 .add 18 24) [18,24],gH (gB 26 .add 11 25),gH (gA 3 26)] [0,3,4] [])) (rG [gM 9 4,gB 10 .add 9 (kI 1),gA 4 10] [0,3,4] []))
def akT:AC:=.kp [0,3,4] [] akS
def akU:AC:=(.sq (.sq (rG [gM 5 4,gM 6 0,gl 7 6,gB 8 .lss 5 7] [0,3,4,8] []) (.ite 8 .sk (.ex 0))) akT)
def YJ:bO:=⟨[0,3,4],[],akU⟩
def c53:bU:=⟨(.sq Zbs (.sq (rG [gA 3 (kI 0)] [0,3] []) (.sq (.sq (rG [gA 4 (kI 0)] [0,3,4] []) (.bl 0 YJ.lp)) (.sq (rG [gM 27 3,gA 2 27] [2] []) .rt)))),[.t 2]⟩
def c54:bU:=⟨(.sq ZaL (.sq (rG [gM 3 0,gB 4 .eql 3 (kI 1),gM 5 4,hM 6 0 5 false,ha 7 43 [6,(kI 4),(kI 8)] 5 false,gp 8 (.pk 5 Zac 7),gA 2 8] [2] []) .rt)),[.t 2]⟩
def c56:bU:=⟨(.sq (rG [gp 0 (.al [Zab,Zby,ZbS,ZaP,ZaP,ZbP,ZbQ,Zah])] [0] [0]) (.sq (rG [gp 1 (.bd [Zab,Zby] [(0,1,(kI 1))]),gp 2 (.bd ZbT []),gz 3 (.bs 83 2 [2]),gp 4 (.bd ZbT []),gz 5 (.bs 83 2 [4]),gp 6 (.bd ZaA []),gz 7 (.bs 86 3 [6]),gp 8 (.bd [Zab,Zab,Zab,Zab,Zab,Zan,Zan,Zah,Zah] [(0,1,(kI 3))]),gp 9 (.bd [Zab,Zab,Zan] [(0,1,(kI 2))]),gp 10 (.bd [Zab,Zab,Zab,Zab,Zab,Zan,Zan,Zah,Zah] [(0,1,(kI 4)),(3,3,9)]),gz 11 (.bs 111 9 [8,10]),gp 12 (.bd [Zab,Zby,ZbS,ZaP,ZaP,ZbP,ZbQ,Zah] [(0,2,1),(3,1,3),(4,1,5),(5,1,7),(7,1,11)]),gS 8 0 12] [0] [0]) .rt)),[.c 0 (some 8)]⟩
def c62:bU:=⟨(.sq ZaL (.sq (rG [gM 3 0,ga 4 43 [3,(kI (-2147483648)),(kI 2147483647)],gA 2 4] [2] []) .rt)),[.t 2]⟩
def akV:AC:=(.sq (.bl 0 (.sq (rG [gM 14 1,gl 15 14,gF 16 3 3,gQ 17 16,gl 18 17,gB 19 .neq 15 18,gA 13 19] [1,2,13] []) (.ite 13 ZaU (.sq (rG [gM 21 1,gp 22 (.c2 107 [21,(.c (.f 108 []))]),gA 20 22] [1,2,20] []) (.ite 20 Zcz (.sq (rG [gM 24 1,gp 25 (.c2 107 [24,(.c (.f 109 []))]),gM 26 25,hM 27 2 26 false,hB 28 .lss 27 (kI 0) 26 false,gp 29 (.pk 26 Zac 28),gM 30 29,hM 31 2 30 false,hB 32 .gtr 31 (kI 2000) 30 false,gp 33 (.pk 30 Zac 32),gA 23 33] [23] []) (.ite 23 Zbu .sk))))))) Zbv)
def akW:AC:=.kp [1,2,3] [3] akV
def c63:bU:=⟨(.sq ZaZ (.sq (.sq (rG [gC 8 8 3,ga 9 79 [8],gA 7 9] ZbA [3]) (.sq (rG [gM 10 7,gB 11 .neq 10 (kI 0)] [1,2,3,7,11] [3]) (.ite 11 (.sq (rG [gM 12 7,gA 6 12] [6] []) .rt) .sk))) akW)),[.t 6]⟩
def akX:AC:=(.sq (.bl 1 (.sq (rG [gi 37 5 33 35,gC 38 5 37,gp 10 Zax,gS 5 10 38] [7,8,10,33,34,35] [10,15]) (.sq (rG [gM 39 7,gM 40 7,gp 41 (.nc 40),gF 42 10 41,gQ 43 42,gM 44 8,gz 45 (.bs 3 1 [44]),gp 46 (.ap 3 1 8 43 45),gp 47 (.nc 39),gF 48 10 47,gS 1 48 46] [7,8,10,33,34,35] [10,15]) (rG [gM 49 8,gF 50 1 10,gQ 51 50,ga 52 89 [51],gB 53 .add 49 52,gA 8 53] ZbV [15])))) (rG [gB 54 .add 35 (kI 1),gM 35 54] ZbV [15]))
def akY:AC:=.kp ZbV [15] akX
def akZ:AC:=(.sq (rG [gB 36 .lss 35 34] [7,8,33,34,35,36] [15]) (.sq (.ite 36 .sk (.ex 0)) akY))
def YK:bO:=⟨ZbV,[15],akZ⟩
def ak0:AC:=(.sq (rG [gM 55 7,gM 56 7,gp 57 (.nc 56),gF 58 10 57,gQ 59 58,gM 60 8,gz 61 (.bs 3 1 [60]),gp 62 (.ap 3 1 8 59 61),gp 63 (.nc 55),gF 64 10 63,gS 1 64 62] [7] [15]) (.sq (rG [gM 65 7,gA 6 65] [6] [15]) .rt))
def ak1:AC:=.kp [7,8] [15] ak0
def c64:bU:=⟨(.sq (rG [gp 3 (.bx 0),gA 6 (.c .z)] [1,2,3] [3]) (.sq (rG [gC 11 8 3,gM 12 1,gM 13 2,gp 14 (.bd [Zab,Zby,ZbS,ZaP,ZaP,ZbP,ZbQ,Zah,(.l 25 []),Zab,.n,.n,.n,.n,Zab,Zab,Zab] [(0,8,11),(8,1,12),(9,1,13)]),gp 15 (.bx 14),gA 7 15] [3,7] [3,15]) (.sq (.dg [.ownC 7 10 3,.ownC 7 11 128,.ownC 7 12 3,.ownC 7 13 3] [21,25] [⟨gM 16 7,true,[7],[],false,[],[21,25],[15]⟩,⟨gM 17 7,true,[7],[],false,[],[21,25],[15]⟩,⟨gF 18 5 3,true,[3],[],false,[],[21,25],[15]⟩,⟨gQ 19 18,true,[18],[3],false,[],[21,25],[15]⟩,⟨gl 20 19,true,[19],[3],false,[],[21,25],[15]⟩,⟨gp 21 (.ms 3 1 8 Zab 20),true,[20],[],false,[],[25],[15]⟩,⟨gF 22 3 3,true,[3],[],false,[],[21,25],[15]⟩,⟨gQ 23 22,true,[22],[3],false,[],[21,25],[15]⟩,⟨gl 24 23,true,[23],[3],false,[],[21,25],[15]⟩,⟨gp 25 (.ms 3 1 8 Zab 24),true,[24],[],false,[],[21],[15]⟩,⟨gp 26 (.nc 16),true,[16],[],false,[],[25],[15]⟩,⟨gF 27 11 26,true,[26],[],false,[],[25],[15]⟩,⟨gF 28 1 27,true,[27],[],false,[],[25],[15]⟩,⟨gS 1 28 21,true,[28,21],[15],false,[21],[25],[]⟩,gH (gp 29 (.nc 17)),gH (gF 30 11 29),gH (gF 31 2 30),gH (gS 1 31 25)] [3,7] [3,15]) (.sq (rG [gA 8 (kI 0)] [3,7,8] [3,15]) (.sq (.sq (rG [gF 32 6 3,gQ 33 32,gl 34 33,gM 35 (kI 0)] ZbV [15]) (.bl 0 YK.lp)) ak1))))),[.t 6]⟩
def c66:bU:=⟨(.sq Zbg (.sq (.dg [] [3,9] [gL (gz 3 (.bs 4 1 [Zac])) [] [9],vF 4 0 1 [3,9],yQ 5 4 [1] [3,9],gL (gp 6 (.ca 1 112 [3,5])) [3,5] [9],vF 7 0 1 [3,9],yQ 8 7 [1] [3,9],gL (gz 9 (.ms 4 1 1 (.b false) 8)) [8] [3],gH (gp 10 (.bd Zbn [(0,1,6),(1,1,9)])),gH (gS 2 2 10)] [2] [2]) .rt)),[.c 2 (some 2)]⟩
def c67:bU:=⟨(.sq (rG [gp 1 (.bx 0),gA 2 (.c .z)] [1] [1]) (.sq (.dg [] [] [xC 3 8 1 [1],uF 4 0 1,xC 5 2 4 [1],gU (ga 6 113 [5]) [5],gH (gp 7 (.bd [Zab,Zby,ZbS,ZaP,ZaP,ZbP,ZbQ,Zah,(.l 32 [])] [(0,8,3),(8,1,6)])),gH (gp 8 (.bx 7)),gH (gA 2 8)] [2] [8]) .rt)),[.t 2]⟩
def ak2:AC:=(.dg [] [] [uM 20 2,uF 21 7 8,xQ 22 21 [8],gX (ga 23 89 [22]) [22] [8],gU (gB 24 .add (kI 1) 23) [23],uF 25 8 8,xQ 26 25 [8],gX (ga 27 89 [26]) [26] [8],gU (gB 28 .add 24 27) [24,27],gH (gB 29 .add 20 28),gH (gA 2 29)] Zcf [0])
def ak3:AC:=.kp [0,2,8,9,10,11] [0,8] ak2
def ak4:AC:=(.sq (.bl 1 (.sq (rG [gi 13 9 9 11,gC 14 9 13,gp 8 ZaJ,gS 9 8 14] [0,2,8,9,10,11] [0,8]) (.sq (.sq (rG [gM 15 0,gC 16 9 8,gM 17 2,gp 18 (.c2 114 [15,16,17]),gn 19 18] [0,2,8,9,10,11,19] [0,8]) (.ite 19 Zat .sk)) ak3))) (rG [gB 30 .add 11 (kI 1),gM 11 30] Zcf [0]))
def ak5:AC:=.kp Zcf [0] ak4
def ak6:AC:=(.sq (rG [gB 12 .lss 11 10] [0,2,9,10,11,12] [0]) (.sq ZaW ak5))
def YL:bO:=⟨Zcf,[0],ak6⟩
def c68:bU:=⟨(.sq (rG [gA 6 Zaa] [0,1,2] [0]) (.sq (.sq (rG [gM 9 1,gl 10 9,gM 11 (kI 0)] Zcf [0]) (.bl 0 YL.lp)) Zaz)),[.t 6]⟩
def c69:bU:=⟨(.sq (rG [gA 4 (kI 0)] [0,1] [0]) (.sq (rG [gM 5 0,gp 6 (.nc 5),gF 7 10 6,gQ 8 7,gM 9 1,gi 10 1 8 9,gQ 11 10,gA 4 11] [4] []) .rt)),[.t 4]⟩
def c70:bU:=⟨(.sq Zbg (.sq (rG [gC 3 2 1,gC 4 2 1,ga 5 115 [3,4],gS 2 2 5] [2] [2]) .rt)),[.c 2 (some 2)]⟩
def ak7:AC:=(.sq (.bl 1 (.sq (rG [gF 11 0 3,gQ 12 11,gz 13 (.bs 4 1 [Zac]),gp 14 (.ap 4 1 1 12 13),gF 15 0 3,gS 1 15 14] ZcQ [1,2,3]) (rG [gF 16 1 3,gQ 17 16,gz 18 (.bs 4 1 [Zaa]),gp 19 (.ap 4 1 1 17 18),gF 20 1 3,gS 1 20 19] ZcQ [1,2,3]))) (rG [gM 9 4,gB 10 .add 9 (kI 1),gA 4 10] ZcQ [1,2,3]))
def ak8:AC:=.kp ZcQ [1,2,3] ak7
def Tc:AC:=(.sq (.sq (rG [gM 5 4,gF 6 0 1,gQ 7 6,gB 8 .lss 5 7] [1,2,3,4,8] [1,2,3]) (.ite 8 .sk (.ex 0))) ak8)
def YM:bO:=⟨ZcQ,[1,2,3],Tc⟩
def c71:bU:=⟨(.sq Zbg (.sq (rG [gp 3 (.al [.n,.n])] [1,2,3] [1,2,3]) (.sq (.sq (.rg [.ownC 3 1 4,.ownC 3 0 4] [gA 4 (kI 0)] ZcQ [1,2,3]) (.bl 0 YM.lp)) (.sq (.rg [.fzC 3 0,.fzC 3 1] [gC 21 2 3,gS 2 2 21] [2] [2]) .rt)))),[.c 2 (some 2)]⟩
def ak9:AC:=(.sq (.bl 1 (.sq (rG [gM 15 6,gM 16 2,gM 17 1,gM 18 7,gi 19 9 17 18,gC 20 9 19,gp 21 (.bd [Zab,Zab,Zab,Zab,Zab,Zab,Zab,Zan,Zan,Zah,Zah,Zab] [(1,1,16),(2,9,20)]),gz 22 (.bs 148 12 [21]),gp 23 (.ap 148 12 160 15 22),gA 6 23] Zcj [0]) (.dg [] [] [uM 24 2,uM 25 1,uM 26 7,ui 27 9 25 26,uF 28 7 27,uQ 29 28,gU (ga 30 53 [29]) [29],gU (gB 31 .add (kI 1) 30) [30],uM 32 1,uM 33 7,ui 34 9 32 33,uF 35 8 34,uQ 36 35,gU (ga 37 53 [36]) [36],gU (gB 38 .add 31 37) [31,37],gH (gB 39 .add 24 38),gH (gA 2 39)] Zcj [0]))) (rG [gM 13 7,gB 14 .add 13 (kI 1),gA 7 14] Zcj [0]))
def ala:AC:=.kp Zcj [0] ak9
def alb:AC:=(.sq (.sq (rG [gM 9 7,gM 10 1,gl 11 10,gB 12 .lss 9 11] [0,1,2,6,7,12] [0]) ZaW) ala)
def YN:bO:=⟨Zcj,[0],alb⟩
def alc:AC:=(.sq (.bl 3 (.dg [] [56,57] [vM 47 0 [56,57],vM 48 0 [56,57],gL (gp 49 (.nc 48)) [48] [56,57],vF 50 16 49 [56,57],⟨gQ 51 50,true,[50],[],true,[],[56,57],[]⟩,vM 52 6 [56,57],vM 53 8 [56,57],gL (gi 54 12 52 53) [52,53,6] [56,57],gL (gC 55 12 54) [54,6] [56,57],gL (gz 56 (.bs 148 12 [55])) [55] [57],⟨gp 57 (.ap 148 12 160 51 56),true,[51,56],[],true,[51,51],[],[]⟩,gH (gp 58 (.nc 47)),gH (gF 59 16 58),gH (gS 1 59 57)] [0,6,8] [0])) (rG [gM 45 8,gB 46 .sub 45 (kI 1),gA 8 46] [0,6,8] [0]))
def ald:AC:=.kp [0,6,8] [0] alc
def ale:AC:=(.sq (.sq (rG [gM 43 8,gB 44 .geq 43 (kI 0)] [0,6,8,44] [0]) (.ite 44 .sk (.ex 2))) ald)
def YO:bO:=⟨[0,6,8],[0],ale⟩
def alf:AC:=(.sq (rG [gM 40 6,gl 41 40,gB 42 .sub 41 (kI 1),gA 8 42] [0,6,8] [0]) (.bl 2 YO.lp))
def alg:AC:=.kp [0,6] [0] alf
def c72:bU:=⟨(.sq (rG [gA 6 (.c .n)] [0,1,2,6] [0]) (.sq (.sq (.rg [.own 6 148] [gA 7 (kI 0)] Zcj [0]) (.bl 0 YN.lp)) alg)),[]⟩
def alh:AC:=(.dg [] [] [uM 35 0,gU (gp 36 (.nc 35)) [35],uF 37 18 36,⟨gQ 38 37,true,[37],[],true,[],[],[]⟩,uF 39 2 3,uF 40 1 39,xQ 41 40 [3],xC 42 2 5 [5],gH (gi 43 2 38 41),gH (gS 2 43 42)] [0,3,4] [0,3,4])
def ali:AC:=.kp Zbi Zbi alh
def alj:AC:=(.dg [] [] [uM 44 0,gU (gp 45 (.nc 44)) [44],uF 46 10 45,uF 47 1 46,⟨gQ 48 47,true,[47],[],true,[],[],[]⟩,uF 49 2 3,uF 50 1 49,xQ 51 50 [3],uF 52 2 4,xC 53 3 52 [4],uM 54 0,gU (gp 55 (.nc 54)) [54],uF 56 10 55,uF 57 1 56,⟨gQ 58 57,true,[57],[],true,[],[],[]⟩,⟨ga 59 119 [53,58],true,[53,58],[],true,[],[],[]⟩,gH (gi 60 1 48 51),gH (gS 1 60 59)] [] [])
def alk:AC:=.kp [0,3,4] [0,3,4] alj
def c73:bU:=⟨(.sq ZaG (.sq (.dg [] [4] [vM 6 0 [4],gL (gp 7 (.nc 6)) [6] [4],vF 8 0 7 [4],vF 9 6 8 [4],⟨gQ 10 9,true,[9],[],true,[],[4],[]⟩,vF 11 2 3 [4],vF 12 2 11 [4],yQ 13 12 [3] [4],⟨gi 14 5 10 13,true,[10,13],[],true,[],[4],[]⟩,⟨gC 15 5 14,true,[14],[],true,[],[4],[]⟩,gU (gp 4 Zax) [],gH (gS 5 4 15)] [0,3,4] [0,3,4]) (.sq (.sq (rG [gM 16 0,gp 17 (.nc 16),gF 18 17 17,gQ 19 18] [0,3,4,19] [0,3,4]) (.ite 19 (.sq (rG [gM 20 0,gF 21 2 4,gC 22 3 21,gp 23 (.c3 116 [20,22]),gp 5 Zae,gS 2 5 23] Zbi Zbi) (.sq (.sq (rG [gM 24 0,gF 25 2 3,gF 26 1 25,gQ 27 26,gC 28 2 5,gp 29 (.c3 117 [24,27,28]),gn 30 29] [0,3,4,5,30] Zbi) (.ite 30 (.sq (rG [gM 31 0,gF 32 1 3,gQ 33 32,gp 34 (.c2 118 [31,33])] [] []) .rt) .sk)) ali)) .sk)) alk))),[]⟩
def YP:AC:=(.sq (.sq (rG [gM 75 0,gF 76 3 4,gC 77 3 76,gp 78 (.c2 121 [75,77])] [0,3,4,78] [0,3,4]) (.ite 78 (.sq (.dg [] [88,89] [vM 79 0 [88,89],vM 80 0 [88,89],gL (gp 81 (.nc 80)) [80] [88,89],vF 82 16 81 [88,89],⟨gQ 83 82,true,[82],[],true,[],[88,89],[]⟩,vF 84 1 3 [88,89],yQ 85 84 [3] [88,89],yC 86 9 4 [4] [88,89],gL (gp 87 (.bd [Zab,Zab,Zab,Zab,Zab,Zab,Zab,Zan,Zan,Zah,Zah,Zab] [(0,1,(kI 1)),(1,1,85),(2,9,86)])) [85,86] [88,89],gL (gz 88 (.bs 148 12 [87])) [87] [89],⟨gp 89 (.ap 148 12 160 83 88),true,[83,88],[],true,[83,83],[],[]⟩,gH (gp 90 (.nc 79)),gH (gF 91 16 90),gH (gS 1 91 89)] [0,3,4] [0,3,4]) (rG [gM 92 0,gF 93 7 4,gQ 94 93,gF 95 1 3,gQ 96 95,gB 97 .add 96 (kI 1),gp 98 (.c2 72 [92,94,97])] [] [])) .sk)) .rt)
def alm:AC:=.kp [0,3,4] [0,3,4] YP
def YQ:AC:=(.dg [] [] [uM 142 0,gU (gp 143 (.nc 142)) [142],uF 144 10 143,uF 145 2 144,⟨gQ 146 145,true,[145],[],true,[],[],[]⟩,uF 147 2 4,xQ 148 147 [4],gH (gi 149 1 146 148),gH (gQ 150 149),gH (gB 151 .add 150 (kI 1)),gH (gi 152 1 146 148),gH (gS 1 152 151)] Zbi [0,3,4])
def aln:AC:=.kp Zbi [0,3,4] YQ
def YR:AC:=(.sq (rG [gF 173 0 4,gQ 174 173] [0,3,4,5,174] [0,3,4]) (.bl 1 (.sq (rG [gB 176 .eql 174 (kI 4),gA 175 176] [0,3,4,5,174,175] [0,3,4]) (.ite 175 (.dg [] Zbp [vM 177 0 Zbp,vM 178 0 Zbp,gL (gp 179 (.nc 178)) [178] Zbp,vF 180 10 179 Zbp,vF 181 0 180 Zbp,⟨gQ 182 181,true,[181],[],true,[],Zbp,[]⟩,vF 183 1 3 Zbp,yQ 184 183 [3] Zbp,vF 185 2 4 Zbp,yQ 186 185 [4] Zbp,vM 187 5 Zbp,gL (gp 188 (.bd [Zab,Zab,Zab,Zab] [(0,1,(kI 1)),(1,1,184),(2,1,186),(3,1,187)])) [184,186,187] Zbp,gL (gz 189 (.bs 128 4 [188])) [188] [190],⟨gp 190 (.ap 128 4 32 182 189),true,[182,189],[],true,[182,182],[],[]⟩,gH (gp 191 (.nc 177)),gH (gF 192 10 191),gH (gF 193 0 192),gH (gS 1 193 190)] [] []) (.sq (rG [gB 195 .eql 174 (kI 5),gA 194 195] [0,3,4,5,174,194] [0,3,4]) (.ite 194 (.dg [] Zbq [vM 196 0 Zbq,vM 197 0 Zbq,gL (gp 198 (.nc 197)) [197] Zbq,vF 199 10 198 Zbq,vF 200 0 199 Zbq,⟨gQ 201 200,true,[200],[],true,[],Zbq,[]⟩,vF 202 1 3 Zbq,yQ 203 202 [3] Zbq,vF 204 1 4 Zbq,yQ 205 204 [4] Zbq,vM 206 5 Zbq,gL (gp 207 (.bd [Zab,Zab,Zab,Zab] [(0,1,(kI 2)),(1,1,203),(2,1,205),(3,1,206)])) [203,205,206] Zbq,gL (gz 208 (.bs 128 4 [207])) [207] [209],⟨gp 209 (.ap 128 4 32 201 208),true,[201,208],[],true,[201,201],[],[]⟩,gH (gp 210 (.nc 196)),gH (gF 211 10 210),gH (gF 212 0 211),gH (gS 1 212 209)] [] []) (.sq (rG [gB 214 .eql 174 (kI 6),gA 213 214] [0,3,4,5,213] [0,3,4]) (.ite 213 (.dg [] Zbr [vM 215 0 Zbr,vM 216 0 Zbr,gL (gp 217 (.nc 216)) [216] Zbr,vF 218 10 217 Zbr,vF 219 0 218 Zbr,⟨gQ 220 219,true,[219],[],true,[],Zbr,[]⟩,vF 221 1 3 Zbr,yQ 222 221 [3] Zbr,vF 223 1 4 Zbr,yQ 224 223 [4] Zbr,vM 225 5 Zbr,gL (gp 226 (.bd [Zab,Zab,Zab,Zab] [(0,1,(kI 3)),(1,1,222),(2,1,224),(3,1,225)])) [222,224,225] Zbr,gL (gz 227 (.bs 128 4 [226])) [226] [228],⟨gp 228 (.ap 128 4 32 220 227),true,[220,227],[],true,[220,220],[],[]⟩,gH (gp 229 (.nc 215)),gH (gF 230 10 229),gH (gF 231 0 230),gH (gS 1 231 228)] [] []) .sk))))))))
def alo:AC:=.kp Zbi [0,3,4] YR
def YS:AC:=(.sq (.sq (rG [gF 161 0 4,gQ 162 161,gB 163 .neq 162 (kI 4)] [0,3,4,5,163] [0,3,4]) (.ite 163 (.dg [] [] [uM 164 0,gU (gp 165 (.nc 164)) [164],uF 166 10 165,uF 167 1 166,⟨gQ 168 167,true,[167],[],true,[],[],[]⟩,uF 169 1 4,xQ 170 169 [4],uM 171 5,gH (gi 172 1 168 170),gH (gS 1 172 171)] Zbi [0,3,4]) .sk)) alo)
def alp:AC:=.kp Zbi [0,3,4] YS
def alq:AC:=(.sq (rG [gA 5 (kI 0)] Zbi [0,3,4]) (.sq (.sq (rG [gF 107 0 4,gQ 108 107,gB 109 .eql 108 (kI 3)] [0,3,4,5,109] [0,3,4]) (.ite 109 (.sq (.dg [] [] [uM 110 0,gU (gp 111 (.nc 110)) [110],uF 112 8 111,⟨gQ 113 112,true,[112],[],true,[],[],[]⟩,uF 114 2 4,xQ 115 114 [4],gH (gi 116 1 113 115),gH (gQ 117 116),gH (gA 6 117)] [0,3,4,5,6] [0,3,4]) (.sq (.sq (.dg [] [] [uM 118 0,gU (gp 119 (.nc 118)) [118],uF 120 10 119,uF 121 2 120,⟨gQ 122 121,true,[121],[],true,[],[],[]⟩,uF 123 2 4,xQ 124 123 [4],⟨gi 125 1 122 124,true,[122,124],[],true,[],[],[]⟩,⟨gQ 126 125,true,[125],[],true,[],[],[]⟩,uM 127 6,ul 128 127,gH (gB 129 .lss 126 128)] [0,3,4,5,6,129] [0,3,4]) (.ite 129 (.dg [] [] [uM 130 6,uM 131 0,gU (gp 132 (.nc 131)) [131],uF 133 10 132,uF 134 2 133,⟨gQ 135 134,true,[134],[],true,[],[],[]⟩,uF 136 2 4,xQ 137 136 [4],⟨gi 138 1 135 137,true,[135,137],[],true,[],[],[]⟩,⟨gQ 139 138,true,[138],[],true,[],[],[]⟩,gH (gi 140 1 130 139),gH (gQ 141 140),gH (gA 5 141)] Zbi [0,3,4]) .sk)) aln)) (.dg [] [] [uF 153 3 4,xC 154 3 153 [4],uM 155 0,gU (gp 156 (.nc 155)) [155],uF 157 10 156,uF 158 1 157,⟨gQ 159 158,true,[158],[],true,[],[],[]⟩,gH (ga 160 119 [154,159]),gH (gA 5 160)] Zbi [0,3,4]))) alp))
def alr:AC:=.kp [0,3,4] [0,3,4] alq
def als:AC:=(.sq (.sq (rG [gM 99 0,gC 100 9 4,gp 101 (.c2 122 [99,100]),gn 102 101] [0,3,4,102] [0,3,4]) (.ite 102 (.sq (rG [gM 103 0,gF 104 1 3,gQ 105 104,gp 106 (.c2 118 [103,105])] [] []) .rt) .sk)) alr)
def alu:AC:=.kp [0,3,4] [0,3,4] als
def c74:bU:=⟨(.sq ZaG (.sq (rG [gF 7 2 3,gC 8 9 7,gp 4 ZaJ,gS 9 4 8] [0,3,4] [0,3,4]) (.sq (.sq (rG [gF 9 0 4,gQ 10 9] [0,3,4,10] [0,3,4]) (.bl 0 (.sq (rG [gB 12 .eql 10 (kI 2),gA 11 12] [0,3,4,10,11] [0,3,4]) (.ite 11 (.sq (rG [gM 13 0,gC 14 12 3,gp 15 (.c2 120 [13,14])] [] []) .rt) (.sq (rG [gB 17 .eql 10 (kI 7),gA 16 17] [0,3,4,10,16] [0,3,4]) (.ite 16 (.sq (.dg [] [29,30] [vM 18 0 [29,30],vM 19 0 [29,30],gL (gp 20 (.nc 19)) [19] [29,30],vF 21 16 20 [29,30],⟨gQ 22 21,true,[21],[],true,[],[29,30],[]⟩,vM 23 0 [29,30],gL (gp 24 (.nc 23)) [23] [29,30],vF 25 19 24 [29,30],⟨gQ 26 25,true,[25],[],true,[],[29,30],[]⟩,⟨gl 27 26,true,[26],[],true,[],[29,30],[]⟩,gL (gp 28 (.bd [Zab,Zab,Zab,Zab,Zab,Zab,Zab,Zan,Zan,Zah,Zah,Zab] [(0,1,(kI 3)),(11,1,27)])) [27] [29,30],gL (gz 29 (.bs 148 12 [28])) [28] [30],⟨gp 30 (.ap 148 12 160 22 29),true,[22,29],[],true,[22,22],[],[]⟩,gH (gp 31 (.nc 18)),gH (gF 32 16 31),gH (gS 1 32 30)] [0,3,4] [0,3,4]) (.sq (.sq (rG [gM 33 0,gF 34 3 4,gC 35 3 34,gp 36 (.c2 121 [33,35])] [0,3,4,36] [0,3,4]) (.ite 36 (rG [gM 37 0,gF 38 7 4,gQ 39 38,gF 40 1 3,gQ 41 40,gB 42 .add 41 (kI 1),gp 43 (.c2 72 [37,39,42])] [] []) (.dg [] [] [uM 44 0,uF 45 8 4,xQ 46 45 [4],uF 47 1 3,xQ 48 47 [3],gU (gB 49 .add 48 (kI 1)) [48],uF 50 7 4,xQ 51 50 [4],gX (ga 52 53 [51]) [51] [4],gU (gB 53 .add 49 52) [49,52],gH (gp 54 (.c2 72 [44,46,53]))] [] []))) .rt)) (.sq (rG [gB 56 .eql 10 (kI 8),gA 55 56] [0,3,4,55] [0,3,4]) (.ite 55 (.sq (.sq (rG [gF 57 0 3,gQ 58 57,gB 59 .eql 58 (kI 0)] [0,3,4,59] [0,3,4]) (.ite 59 (.dg [] [71,72] [vM 60 0 [71,72],vM 61 0 [71,72],gL (gp 62 (.nc 61)) [61] [71,72],vF 63 16 62 [71,72],⟨gQ 64 63,true,[63],[],true,[],[71,72],[]⟩,vM 65 0 [71,72],gL (gp 66 (.nc 65)) [65] [71,72],vF 67 19 66 [71,72],⟨gQ 68 67,true,[67],[],true,[],[71,72],[]⟩,⟨gl 69 68,true,[68],[],true,[],[71,72],[]⟩,gL (gp 70 (.bd [Zab,Zab,Zab,Zab,Zab,Zab,Zab,Zan,Zan,Zah,Zah,Zab] [(0,1,(kI 3)),(11,1,69)])) [69] [71,72],gL (gz 71 (.bs 148 12 [70])) [70] [72],⟨gp 72 (.ap 148 12 160 64 71),true,[64,71],[],true,[64,64],[],[]⟩,gH (gp 73 (.nc 60)),gH (gF 74 16 73),gH (gS 1 74 72)] [0,3,4] [0,3,4]) .sk)) alm) .sk)))))))) alu))),[]⟩
def c76:bU:=⟨(.sq Zam (.sq (rG [gF 5 0 2,gQ 6 5,gF 7 0 3,gQ 8 7,ga 9 82 [6,8],gM 10 9,hF 11 1 2 10 true,hQ 12 11 10 true,hF 13 1 3 10 true,hQ 14 13 10 true,ha 15 20 [12,14] 10 true,gk 16 10 15 Zaa,gM 17 16,hF 18 2 2 17 true,hQ 19 18 17 true,hF 20 2 3 17 true,hQ 21 20 17 true,ha 22 20 [19,21] 17 true,gk 23 17 22 Zaa,gM 24 23,hF 25 3 2 24 true,hQ 26 25 24 true,hF 27 3 3 24 true,hQ 28 27 24 true,hB 29 .eql 26 28 24 true,gk 30 24 29 Zaa,gM 31 30,hF 32 4 2 31 true,hQ 33 32 31 true,hF 34 4 3 31 true,hQ 35 34 31 true,hB 36 .eql 33 35 31 true,gk 37 31 36 Zaa,gM 38 37,hF 39 5 2 38 true,hQ 40 39 38 true,hF 41 5 3 38 true,hQ 42 41 38 true,hB 43 .eql 40 42 38 true,gk 44 38 43 Zaa,gA 4 44] [4] []) .rt)),[.t 4]⟩
def c77:bU:=⟨(.sq Zam (.sq (rG [gF 5 0 2,gQ 6 5,gF 7 0 3,gQ 8 7,ga 9 14 [6,8],gM 10 9,hF 11 1 2 10 true,hQ 12 11 10 true,hF 13 1 3 10 true,hQ 14 13 10 true,ha 15 14 [12,14] 10 true,gk 16 10 15 Zaa,gA 4 16] [4] []) .rt)),[.t 4]⟩
def alv:AC:=(.sq (.bl 1 (.sq (rG [gM 24 22,gi 25 5 20 22,gC 26 5 25,gp 6 Zax,gA 5 24,gS 5 6 26] [1,4,5,6,20,21,22] [1,6,18]) (.sq (rG [gM 27 4,gM 28 5,gp 29 (.nc 27),gF 30 8 29,gS 1 30 28] [1,4,6,20,21,22] [1,6,18]) (.sq (rG [gM 31 4,gC 32 5 6,gp 33 (.c2 125 [31,32]),gA 7 33] [1,4,7,20,21,22] [1,18]) (.sq (rG [gM 34 7,gB 35 .neq 34 (kI 0)] [1,4,7,20,21,22,35] [1,18]) (.ite 35 (.sq (rG [gM 36 7,gA 2 36] [2] []) .rt) .sk)))))) (rG [gB 37 .add 22 (kI 1),gM 22 37] ZcC [1,18]))
def alw:AC:=.kp ZcC [1,18] alv
def alx:AC:=(.sq (rG [gB 23 .lss 22 21] [1,4,20,21,22,23] [1,18]) (.sq (.ite 23 .sk (.ex 0)) alw))
def YT:bO:=⟨ZcC,[1,18],alx⟩
def aly:AC:=(.sq (rG [gM 38 4,gF 39 6 1,gQ 40 39,gl 41 40,gp 42 (.nc 38),gF 43 8 42,gS 1 43 41] [1,4] [1,18]) (.sq (rG [gM 44 4,gF 45 7 1,gQ 46 45,gp 47 (.c2 126 [44,46]),gA 2 47] [2] []) .rt))
def alz:AC:=.kp [1,4] [1,18] aly
def alA:AC:=(.sq (rG [gC 16 8 1,gp 17 (.bd [Zab,Zby,ZbS,ZaP,ZaP,ZbP,ZbQ,Zah,Zab] [(0,8,16)]),gp 18 (.bx 17),gA 4 18] [1,4] [1,18]) (.sq (.sq (rG [gF 19 6 1,gQ 20 19,gl 21 20,gM 22 (kI 0)] ZcC [1,18]) (.bl 0 YT.lp)) alz))
def alB:AC:=.kp [1] [1] alA
def alC:AC:=(.sq (.sq (rG [gC 13 8 1,ga 14 124 [13],gn 15 14] [1,15] [1]) (.ite 15 Zau .sk)) alB)
def alD:AC:=.kp [1] [1] alC
def c79:bU:=⟨(.sq ZaE (.sq (.sq (rG [gC 8 8 1,ga 9 123 [8],gA 3 9] [1,3] [1]) (.sq (rG [gM 10 3,gB 11 .neq 10 (kI 0)] [1,3,11] [1]) (.ite 11 (.sq (rG [gM 12 3,gA 2 12] [2] []) .rt) .sk))) alD)),[.t 2]⟩
def alE:AC:=(.sq (.bl 1 (.sq (.dg [] [] [uM 17 0,uM 18 5,ui 19 4 17 18,uC 20 4 19,uM 21 1,uM 22 5,ui 23 4 21 22,uC 24 4 23,gH (gp 25 (.ae [1,1,1,1] true 20 24))] [0,1,5,25] []) (.ite 25 Zad .sk))) ZaD)
def alF:AC:=.kp [0,1,5] [] alE
def alG:AC:=(.sq Zaj alF)
def YU:bO:=⟨[0,1,5],[],alG⟩
def alH:AC:=(.sq (.sq ZaR (.bl 0 YU.lp)) Zaf)
def alI:AC:=.kp [0,1] [] alH
def c82:bU:=⟨(.sq Zas (.sq Zao alI)),[.t 4]⟩
def c89:bU:=⟨(.sq Zbs (.sq (rG [gp 3 (.al [Zab]),gS 1 3 (kI 0)] [0,3] [3]) (.sq (rG [gM 4 0,gp 5 (.mf 135 [3]),gp 6 (.c2 134 [4,(kI 1),5])] [3] [3]) (.sq (rG [gQ 7 3,gA 2 7] [2] []) .rt)))),[.t 2]⟩
def alJ:AC:=(.sq (.bl 3 (.sq (.dg [] [] [xC 42 2 2 [2],uM 43 1,uM 44 5,ui 45 2 43 44,uF 46 1 45,uQ 47 46,uM 48 6,ui 49 1 47 48,uQ 50 49,gH (ga 51 29 [42,50]),gH (gn 52 51)] [1,2,5,6,52] [2]) (.ite 52 Zap .sk))) (rG [gM 40 6,gB 41 .add 40 (kI 1),gA 6 41] Zbh [2]))
def alK:AC:=.kp Zbh [2] alJ
def alL:AC:=(.sq (.sq (rG [gM 32 6,gM 33 1,gM 34 5,gi 35 2 33 34,gF 36 1 35,gQ 37 36,gl 38 37,gB 39 .lss 32 38] [1,2,5,6,39] [2]) (.ite 39 .sk (.ex 2))) alK)
def YV:bO:=⟨Zbh,[2],alL⟩
def alM:AC:=(.sq (.bl 5 (.sq (.dg [] [] [uM 63 1,uM 64 5,ui 65 2 63 64,uF 66 1 65,uQ 67 66,uM 68 7,ui 69 1 67 68,uQ 70 69,uM 71 1,uM 72 5,ui 73 2 71 72,uF 74 1 73,uQ 75 74,uM 76 7,gU (gB 77 .sub 76 (kI 1)) [76],ui 78 1 75 77,uQ 79 78,gH (gB 80 .leq 70 79)] [1,2,5,7,80] [2]) (.ite 80 ZcD .sk))) (rG [gM 61 7,gB 62 .add 61 (kI 1),gA 7 62] [1,2,5,7] [2]))
def alN:AC:=.kp [1,2,5,7] [2] alM
def alO:AC:=(.sq (.sq (rG [gM 53 7,gM 54 1,gM 55 5,gi 56 2 54 55,gF 57 1 56,gQ 58 57,gl 59 58,gB 60 .lss 53 59] [1,2,5,7,60] [2]) (.ite 60 .sk (.ex 4))) alN)
def YW:bO:=⟨[1,2,5,7],[2],alO⟩
def alP:AC:=(.sq (rG [gA 7 (kI 1)] [1,2,5,7] [2]) (.bl 4 YW.lp))
def alQ:AC:=.kp [1,2,5] [2] alP
def alR:AC:=(.sq (.sq ZbR (.bl 2 YV.lp)) alQ)
def alS:AC:=.kp [1,2,5] [2] alR
def alT:AC:=(.sq (.sq (rG [gM 25 1,gM 26 5,gi 27 2 25 26,gF 28 1 27,gQ 29 28,gl 30 29,gB 31 .gtr 30 (kI 6)] [1,2,5,31] [2]) (.ite 31 Zav .sk)) alS)
def alU:AC:=.kp [1,2,5] [2] alT
def alV:AC:=(.sq (.bl 1 (.sq (.sq (.dg [] [] [xC 17 2 2 [2],uM 18 1,uM 19 5,ui 20 2 18 19,uF 21 0 20,uQ 22 21,gH (ga 23 29 [17,22]),gH (gn 24 23)] [1,2,5,24] [2]) (.ite 24 Zap .sk)) alU)) (rG [gM 15 5,gB 16 .add 15 (kI 1),gA 5 16] [1,2,5] [2]))
def alW:AC:=.kp [1,2,5] [2] alV
def alX:AC:=(.sq (.sq (rG [gM 11 5,gM 12 1,gl 13 12,gB 14 .lss 11 13] [1,2,5,14] [2]) (.ite 14 .sk (.ex 0))) alW)
def YX:bO:=⟨[1,2,5],[2],alX⟩
def alY:AC:=(.sq (.sq ZaN (.bl 0 YX.lp)) Zaq)
def alZ:AC:=.kp [1,2] [2] alY
def c92:bU:=⟨(.sq Zag (.sq (.sq (rG [gM 8 1,gl 9 8,gB 10 .gtr 9 (kI 4)] [1,2,10] [2]) (.ite 10 Zav .sk)) alZ)),[.t 4]⟩
def c93:bU:=⟨(.sq ZaL (.sq (rG [gM 3 0,ga 4 43 [3,(kI 1),(kI 3)],gM 5 4,hM 6 0 5 false,hB 7 .eql 6 (kI 5) 5 false,gp 8 (.pk 5 Zac 7),gM 9 8,hM 10 0 9 false,hB 11 .eql 10 (kI 6) 9 false,gp 12 (.pk 9 Zac 11),gA 2 12] [2] []) .rt)),[.t 2]⟩
def al0:AC:=(.sq (.bl 1 (rG [gM 19 5,gF 20 2 2,gQ 21 20,gM 22 6,gi 23 3 21 22,gC 24 3 23,gM 25 1,gM 26 5,gB 27 .sub 25 26,ga 28 94 [24,27],gB 29 .add 19 28,gA 5 29] Zbh [2])) (rG [gM 17 6,gB 18 .add 17 (kI 1),gA 6 18] Zbh [2]))
def al1:AC:=.kp Zbh [2] al0
def al2:AC:=(.sq (.sq (rG [gM 7 6,gF 8 2 2,gQ 9 8,gl 10 9,gB 11 .lss 7 10,gM 12 11,hM 13 5 12 true,hM 14 1 12 true,hB 15 .leq 13 14 12 true,gk 16 12 15 Zaa] [1,2,5,6,16] [2]) ZbD) al1)
def YY:bO:=⟨Zbh,[2],al2⟩
def c94:bU:=⟨(.sq Zag (.sq (rG [gA 5 (kI 1)] [1,2,5] [2]) (.sq (.sq ZbR (.bl 0 YY.lp)) (.sq (rG [gM 30 5,gA 4 30] [4] []) .rt)))),[.t 4]⟩
def al3:AC:=(.sq (.bl 1 (.sq (.dg [] [20] [vF 13 0 5 [20],yQ 14 13 [5] [20],yC 15 2 2 [2] [20],vM 16 6 [20],vF 17 0 3 [20],yQ 18 17 [3] [20],gV (ga 19 139 [15,16,18]) [15,16,18] [3] [20],gU (gz 20 (.bs 4 1 [19])) [19],gH (gp 21 (.ap 4 1 1 14 20)),gH (gF 22 0 5),gH (gS 1 22 21)] ZaY ZaM) (.dg [] [30] [vF 23 1 5 [30],yQ 24 23 [5] [30],yC 25 2 2 [2] [30],vM 26 6 [30],vF 27 1 3 [30],yQ 28 27 [3] [30],gV (ga 29 139 [25,26,28]) [25,26,28] [3] [30],gU (gz 30 (.bs 4 1 [29])) [29],gH (gp 31 (.ap 4 1 1 24 30)),gH (gF 32 1 5),gH (gS 1 32 31)] ZaY ZaM))) (rG [gM 11 6,gB 12 .add 11 (kI 1),gA 6 12] ZaY ZaM))
def al4:AC:=.kp ZaY ZaM al3
def al5:AC:=(.sq (.sq (rG [gM 7 6,gF 8 0 2,gQ 9 8,gB 10 .lss 7 9] [2,3,4,5,6,10] ZaM) ZbE) al4)
def YZ:bO:=⟨ZaY,ZaM,al5⟩
def c95:bU:=⟨(.sq ZaB (.sq ZcL (.sq (.sq ZbI (.bl 0 YZ.lp)) (.sq (.rg [.fzC 5 0,.fzC 5 1] [gC 33 2 5,gS 2 4 33] [4] [4]) .rt)))),[.c 4 (some 2)]⟩
def al6:AC:=(.sq (.bl 1 (.sq (rG [gF 13 0 3,gQ 14 13,gM 15 5,gi 16 1 14 15,gQ 17 16,gM 18 17,hF 19 0 2 18 true,hQ 20 19 18 true,hM 21 5 18 true,hi 22 1 20 21 18 true,hQ 23 22 18 true,hn 24 23 18 true,gk 25 18 24 Zaa,gM 26 25,hF 27 1 2 26 false,hQ 28 27 26 false,hM 29 5 26 false,hi 30 1 28 29 26 false,hQ 31 30 26 false,hM 32 31 26 false,hF 33 1 3 32 true,hQ 34 33 32 true,hM 35 5 32 true,hi 36 1 34 35 32 true,hQ 37 36 32 true,hn 38 37 32 true,hk 39 32 38 Zaa 26 false,gp 40 (.pk 26 Zac 39)] [2,3,5,40] [2,3]) (.ite 40 Zad .sk))) (rG [gM 11 5,gB 12 .add 11 (kI 1),gA 5 12] [2,3,5] [2,3]))
def al7:AC:=.kp [2,3,5] [2,3] al6
def Td:AC:=(.sq (.sq (rG [gM 6 5,gF 7 0 2,gQ 8 7,gl 9 8,gB 10 .lss 6 9] [2,3,5,10] [2,3]) ZbE) al7)
def Y0:bO:=⟨[2,3,5],[2,3],Td⟩
def Y1:bU:=⟨(.sq Zam (.sq (.sq (rG [gA 5 (kI 0)] [2,3,5] [2,3]) (.bl 0 Y0.lp)) Zaf)),[.t 4]⟩
def al8:AC:=(.sq (.bl 1 (.sq (.dg [] [28] [vF 14 0 5 [28],yQ 15 14 [5] [28],vF 16 0 2 [28],yQ 17 16 [2] [28],vM 18 6 [28],yi 19 1 17 18 [2] [28],yQ 20 19 [2] [28],vM 21 20 [28],vhF 22 0 3 21 true [28],X9 23 22 21 true [3] [28],vhM 24 6 21 true [28],yhi 25 1 23 24 21 true [3] [28],X9 26 25 21 true [3] [28],gL (gk 27 21 26 Zaa) [21,26] [28],gU (gz 28 (.bs 4 1 [27])) [27],gH (gp 29 (.ap 4 1 1 15 28)),gH (gF 30 0 5),gH (gS 1 30 29)] ZaY ZaM) (.dg [] [45] [vF 31 1 5 [45],yQ 32 31 [5] [45],vF 33 1 2 [45],yQ 34 33 [2] [45],vM 35 6 [45],yi 36 1 34 35 [2] [45],yQ 37 36 [2] [45],vM 38 37 [45],vhF 39 1 3 38 false [45],X9 40 39 38 false [3] [45],vhM 41 6 38 false [45],yhi 42 1 40 41 38 false [3] [45],X9 43 42 38 false [3] [45],gL (gp 44 (.pk 38 Zac 43)) [38,43] [45],gU (gz 45 (.bs 4 1 [44])) [44],gH (gp 46 (.ap 4 1 1 32 45)),gH (gF 47 1 5),gH (gS 1 47 46)] ZaY ZaM))) (rG [gM 12 6,gB 13 .add 12 (kI 1),gA 6 13] ZaY ZaM))
def al9:AC:=.kp ZaY ZaM al8
def Te:AC:=(.sq (.sq (rG [gM 7 6,gF 8 0 2,gQ 9 8,gl 10 9,gB 11 .lss 7 10] [2,3,4,5,6,11] ZaM) Zbm) al9)
def Y2:bO:=⟨ZaY,ZaM,Te⟩
def c98:bU:=⟨(.sq ZaB (.sq ZcL (.sq (.sq ZbI (.bl 0 Y2.lp)) (.sq (.rg [.fzC 5 0,.fzC 5 1] [gC 48 2 5,gS 2 4 48] [4] [4]) .rt)))),[.c 4 (some 2)]⟩
def abe:AC:=(.sq (rG [gC 8 3 2,gM 9 1,ga 10 143 [8,9],gA 4 10] [4] []) .rt)
def abf:AC:=.kp [1,2] [2] abe
def abg:bU:=⟨(.sq Zag (.sq (.sq (rG [gC 5 3 2,ga 6 142 [5,(kI 15)],gB 7 .gtr 6 (kI 15)] [1,2,7] [2]) (.ite 7 Zav .sk)) abf)),[.t 4]⟩
def abh:bU:=⟨(.sq Zas (.sq (rG [gM 5 0,gM 6 1,gp 7 (.c2 144 [5,6]),gB 8 .geq 7 (kI 0),gA 4 8] [4] []) .rt)),[.t 4]⟩
def abi:bU:=⟨(.sq ZaL (.sq (rG [gM 3 0,gB 4 .geq 3 (kI (-2147483648)),gM 5 4,hM 6 0 5 true,hB 7 .leq 6 (kI 2147483647) 5 true,gk 8 5 7 Zaa,gA 2 8] [2] []) .rt)),[.t 2]⟩
def Ux:AC:=(.sq (rG [gM 62 7,gp 63 (.cv .i32 62),gp 64 (.cv .i64 63),gA 4 64] [4] []) .rt)
def abj:AC:=.kp [7] [] Ux
def abk:AC:=(.sq (.dg [] [] [uF 21 2 2,xQ 22 21 [2],gX (gi 23 3 22 (kI 0)) [22] [2],xC 24 3 23 [2],uM 25 1,gU (ga 26 106 [24,25]) [24,25],uF 27 2 2,xQ 28 27 [2],gX (gi 29 3 28 (kI 1)) [28] [2],xC 30 3 29 [2],uM 31 1,gH (ga 32 106 [30,31]),gH (gA 5 26),gH (gA 6 32)] [2,5,6] [2]) (.sq (rG [gA 7 (kI 0)] [2,5,6,7] [2]) (.sq (.sq (rG [gF 33 0 2,gQ 34 33] [5,6,7,34] []) (.bl 1 (.sq (rG [gB 36 .eql 34 (kI 3),gA 35 36] [5,6,7,34,35] []) (.ite 35 (rG [gM 37 5,gM 38 6,gB 39 .add 37 38,gA 7 39] [7] []) (.sq (rG [gB 41 .eql 34 (kI 4),gA 40 41] [5,6,7,34,40] []) (.ite 40 (rG [gM 42 5,gM 43 6,gB 44 .sub 42 43,gA 7 44] [7] []) (.sq (rG [gB 46 .eql 34 (kI 5),gA 45 46] [5,6,7,34,45] []) (.ite 45 (rG [gM 47 5,gM 48 6,gB 49 .mul 47 48,gA 7 49] [7] []) (.sq (rG [gB 51 .eql 34 (kI 6),gA 50 51] [5,6,7,34,50] []) (.ite 50 (rG [gM 52 5,gM 53 6,gB 54 .lss 52 53,ga 55 145 [54],gA 7 55] [7] []) (.sq (rG [gB 57 .eql 34 (kI 7),gA 56 57] [5,6,7,56] []) (.ite 56 (rG [gM 58 5,gM 59 6,gB 60 .eql 58 59,ga 61 145 [60],gA 7 61] [7] []) .sk)))))))))))) abj)))
def abl:AC:=.kp [1,2] [2] abk
def abm:bU:=⟨(.sq Zag (.sq (.sq (rG [gF 8 0 2,gQ 9 8] [1,2,9] [2]) (.bl 0 (.sq (rG [gB 11 .eql 9 (kI 1),gA 10 11] [1,2,9,10] [2]) (.ite 10 (.sq (rG [gF 12 1 2,gQ 13 12,gA 4 13] [4] []) .rt) (.sq (rG [gB 15 .eql 9 (kI 2),gA 14 15] [1,2,14] [2]) (.ite 14 (.sq (rG [gM 16 1,gF 17 1 2,gQ 18 17,gi 19 1 16 18,gQ 20 19,gA 4 20] [4] []) .rt) .sk)))))) abl)),[.t 4]⟩
def abn:bU:=⟨(.sq Zas (.sq (rG [gM 5 0,gM 6 1,gp 7 (.c2 146 [5,6]),gB 8 .geq 7 (kI 0),gA 4 8] [4] []) .rt)),[.t 4]⟩
def abo:bU:=⟨(.sq ZaL (.sq (rG [gM 3 0,gl 4 3,gB 5 .gtr 4 (kI 100),gA 2 5] [2] []) .rt)),[.t 2]⟩
def abp:bU:=⟨(.sq ZaL (.sq (rG [gM 3 0,gp 4 (.c2 103 [3,(.c (.f 110 []))]),gA 2 4] [2] []) .rt)),[.t 2]⟩
def abq:bU:=⟨(.sq ZaL (.sq (rG [gM 3 0,ga 4 105 [3],gn 5 4,gA 2 5] [2] []) .rt)),[.t 2]⟩
def abr:AC:=(.sq (.bl 5 (.sq (rG [gi 46 2 42 44,gC 47 2 46,gp 9 (.al [Zab,Zab]),gS 2 9 47] [1,3,5,6,7,9,11,12,29,42,43,44] [1,9]) (.sq (rG [gF 48 0 9,gQ 49 48,gM 50 7,gB 51 .eql 49 50] [1,3,5,6,7,9,11,12,29,42,43,44,51] [1,9]) (.ite 51 (rG [gM 52 6,gF 53 1 9,gQ 54 53,gz 55 (.bs 3 1 [54]),gp 56 (.ap 3 1 8 52 55),gA 6 56] ZaS [1]) .sk)))) (rG [gB 57 .add 44 (kI 1),gM 44 57] ZaS [1]))
def abt:AC:=.kp ZaS [1] abr
def abu:AC:=(.sq (rG [gB 45 .lss 44 43] [1,3,5,6,7,11,12,29,42,43,44,45] [1]) (.sq (.ite 45 .sk (.ex 4)) abt))
def Uy:bO:=⟨ZaS,[1],abu⟩
def abv:AC:=(.sq (rG [gM 38 5,gM 39 7,gi 40 1 38 39,gS 1 40 Zac] ZbJ [1]) (.sq (rG [gF 41 1 1,gQ 42 41,gl 43 42,gM 44 (kI 0)] ZaS [1]) (.bl 4 Uy.lp)))
def abw:AC:=.kp ZbJ [1] abv
def abx:AC:=(.bl 3 (.sq (rG [gM 23 6,gM 24 6,gl 25 24,gB 26 .sub 25 (kI 1),gi 27 1 23 26,gQ 28 27,gA 7 28] ZbJ [1]) (.sq (rG [gM 29 6,gM 30 6,gl 31 30,gB 32 .sub 31 (kI 1),gp 33 (.sl 3 1 29 none (some 32)),gA 6 33] ZbJ [1]) (.sq (.sq (rG [gM 34 5,gM 35 7,gi 36 1 34 35,gQ 37 36] [1,3,5,6,7,11,12,29,37] [1]) (.ite 37 (.ex 3) .sk)) abw))))
def aby:AC:=.kp ZcM [1] abx
def abz:AC:=(.sq (.sq (.rg [.own 6 3] [gM 20 6,gl 21 20,gB 22 .gtr 21 (kI 0)] [1,3,5,6,11,12,22,29] [1]) (.ite 22 .sk (.ex 2))) aby)
def Uz:bO:=⟨ZcM,[1],abz⟩
def abA:AC:=(.rg [.fz 5] [gM 58 3,gM 59 5,gz 60 (.bs 32 1 [59]),gp 61 (.ap 32 1 24 58 60),gA 3 61] ZcI [1])
def abB:AC:=.kp [1,3,5,11,12] [1] abA
def abC:AC:=(.sq (.bl 1 (.sq (rG [gM 14 12,gA 4 14] [1,3,4,11,12] [1]) (.sq (rG [gF 15 0 1,gQ 16 15,gp 17 (.ms 4 1 1 (.b false) 16),gA 5 17] [1,3,4,5,11,12] [1]) (.sq (rG [gM 18 4,gp 19 (.bs 3 1 [18]),gA 6 19] ZcM [1]) (.sq (.bl 2 Uz.lp) abB))))) (rG [gB 62 .add 12 (kI 1),gM 12 62] ZcI [1]))
def abD:AC:=.kp ZcI [1] abC
def abE:AC:=(.sq (rG [gB 13 .lss 12 11] [1,3,11,12,13] [1]) (.sq Zcp abD))
def UA:bO:=⟨ZcI,[1],abE⟩
def abF:bU:=⟨(.sq (rG [gp 1 (.bx 0),gA 2 (.c (.l 32 []))] [1] [1]) (.sq (rG [gA 3 (.c .n)] [1,3] [1]) (.sq (.sq (.rg [.own 3 32] [gF 10 0 1,gQ 11 10,gM 12 (kI 0)] ZcI [1]) (.bl 0 UA.lp)) (.sq (rG [gM 63 3,gA 2 63] [2,3] []) .rt)))),[.t 2]⟩
def abG:AC:=(.sq (.dg [] [] [uM 55 0,gU (gp 56 (.nc 55)) [55],uF 57 0 56,⟨gQ 58 57,true,[57],[],true,[],[],[]⟩,xC 59 9 4 [4],uM 60 2,gH (gp 61 (.c2 154 [58,59,60]))] [] []) Zaz)
def abH:AC:=.kp [0,2,4] [0,4] abG
def abI:bU:=⟨(.sq Zbb (.sq (.bl 0 (.sq (rG [gM 10 0,gp 11 (.nc 10),gF 12 0 11,gQ 13 12,gp 14 (.c2 149 [13]),gn 15 14,gA 9 15] [0,2,4,9] [0,4]) (.ite 9 Zat (.sq (rG [gF 17 0 4,gQ 18 17,gB 19 .eql 18 (kI 2),gA 16 19] [0,2,4,16] [0,4]) (.ite 16 (.sq (rG [gM 20 0,gC 21 9 4,gM 22 2,gp 23 (.c2 150 [20,21,22]),gA 6 23] [6] []) .rt) (.sq (rG [gF 25 0 4,gQ 26 25,gB 27 .geq 26 (kI 7),gA 24 27] [0,2,4,24] [0,4]) (.ite 24 (.sq (rG [gM 28 0,gp 29 (.nc 28),gF 30 10 29,gQ 31 30,gl 32 31,gA 7 32] [0,2,4,7] [0,4]) (.sq (rG [gM 33 0,gC 34 9 4,gM 35 2,gp 36 (.c2 151 [33,34,35]),gA 8 36] [0,7,8] [0]) (.sq (rG [gM 37 0,gM 38 0,gp 39 (.nc 38),gF 40 10 39,gQ 41 40,gM 42 7,gp 43 (.sl 113 2 41 none (some 42)),gp 44 (.nc 37),gF 45 10 44,gS 1 45 43] [8] []) (.sq (rG [gM 46 8,gA 6 46] [6] []) .rt)))) (.sq (rG [gM 48 0,gC 49 9 4,gp 50 (.c2 152 [48,49]),gn 51 50,gA 47 51] [0,2,4,47] [0,4]) (.ite 47 (.sq (rG [gM 52 0,gM 53 2,gp 54 (.c2 153 [52,53]),gA 6 54] [6] []) .rt) .sk))))))))) abH)),[.t 6]⟩
def abJ:bU:=⟨(.sq ZaB (.sq (.dg [] [] [uF 5 0 2,xQ 6 5 [2],uF 7 0 3,xQ 8 7 [3],gX (ga 9 155 [6,8]) [6,8] [2,3],uF 10 1 2,xQ 11 10 [2],uF 12 1 3,xQ 13 12 [3],gH (ga 14 156 [11,13]),gH (gp 15 (.bd Zbn [(0,1,9),(1,1,14)])),gH (gS 2 4 15)] [4] [4]) .rt)),[.c 4 (some 2)]⟩
def abK:bU:=⟨(.sq Zca (.sq (.dg [] [] [uM 5 0,⟨gp 6 (.c3 157 [5]),true,[5],[],true,[],[],[]⟩,uM 7 0,gU (gp 8 (.nc 7)) [7],uF 9 0 8,⟨gC 10 8 9,true,[9],[],true,[],[],[]⟩,uM 11 0,gU (gp 12 (.nc 11)) [11],uF 13 18 12,⟨gQ 14 13,true,[13],[],true,[],[],[]⟩,xC 15 3 3 [3],gH (ga 16 141 [10,14,15]),gH (ga 17 98 [6,16]),gH (gS 2 4 17)] [4] [4]) .rt)),[.c 4 (some 2)]⟩
def abL:bU:=⟨(.sq Zbc (.sq (rG [gM 8 0,gp 9 (.nc 8),gF 10 0 9,gF 11 5 10,gQ 12 11,gM 13 1,gi 14 3 12 13,gC 15 3 14,gp 7 (.al ZaA),gS 3 7 15] [0,1,5,7] [0,5,7]) (.sq (.dg [] [] [uM 16 0,⟨gp 17 (.c3 157 [16]),true,[16],[],true,[],[],[]⟩,uM 18 0,gU (gp 19 (.nc 18)) [18],uF 20 18 19,⟨gQ 21 20,true,[20],[],true,[],[],[]⟩,uM 22 1,⟨gi 23 2 21 22,true,[21,22],[],true,[],[],[]⟩,⟨gC 24 2 23,true,[23],[],true,[],[],[]⟩,gU (ga 25 97 [17,24]) [17,24],uM 26 25,mP 27 0 7 26 true,wT 28 27 26 true [7],uhn 29 28 26 true,pU 30 29 26 true,Fh 31 2 5 30 false [5],pU 32 0 30 false,gU (gg 33 (.nc 32) 30 false) [32],mP 34 0 33 30 false,mP 35 0 34 30 false,⟨hC 36 2 35 30 false,true,[35],[],true,[],[],[]⟩,mP 37 1 7 30 false,Fh 38 2 37 30 false [7],gU (ha 39 95 [36,38] 30 false) [36,38],gH (ha 40 97 [31,39] 30 false),gH (gg 41 (.pk 30 Zac 40) 26 true),gH (gk 42 26 41 Zaa),gH (gA 6 42)] [6] []) .rt))),[.t 6]⟩
def abM:bU:=⟨(rG [gM 4 0,gM 5 0,gM 6 1,gp 7 (.nc 4),gF 8 10 7,gF 9 4 8,gS 1 9 (kI 3),gp 10 (.nc 5),gF 11 10 10,gF 12 5 11,gS 1 12 6] [] []),[]⟩
def abN:AC:=(.sq (.sq (rG [gF 52 0 2,gQ 53 52,gB 54 .eql 53 (kI 6),gM 55 54,hM 56 5 55 true,hM 57 6 55 true,hB 58 .lss 56 57 55 true,gk 59 55 58 Zaa,gM 60 59,hF 61 0 2 60 false,hQ 62 61 60 false,hB 63 .eql 62 (kI 7) 60 false,hM 64 63 60 false,hM 65 5 64 true,hM 66 6 64 true,hB 67 .eql 65 66 64 true,hk 68 64 67 Zaa 60 false,gp 69 (.pk 60 Zac 68)] [69] []) (.ite 69 ZaI .sk)) Zaq)
def abO:AC:=.kp [2,5,6] [2] abN
def abP:AC:=(.sq (.dg [] [] [uF 20 2 2,xQ 21 20 [2],gX (gi 22 3 21 (kI 0)) [21] [2],xC 23 3 22 [2],uM 24 1,gU (ga 25 119 [23,24]) [23,24],uF 26 2 2,xQ 27 26 [2],gX (gi 28 3 27 (kI 1)) [27] [2],xC 29 3 28 [2],uM 30 1,gH (ga 31 119 [29,30]),gH (gA 5 25),gH (gA 6 31)] [2,5,6] [2]) (.sq (.sq (rG [gF 32 0 2,gQ 33 32] [2,5,6,33] [2]) (.bl 1 (.sq (rG [gB 35 .eql 33 (kI 3),gA 34 35] [2,5,6,33,34] [2]) (.ite 34 (.sq (rG [gM 36 5,gM 37 6,gB 38 .add 36 37,ga 39 158 [38],gA 4 39] [4] []) .rt) (.sq (rG [gB 41 .eql 33 (kI 4),gA 40 41] [2,5,6,33,40] [2]) (.ite 40 (.sq (rG [gM 42 5,gM 43 6,gB 44 .sub 42 43,ga 45 158 [44],gA 4 45] [4] []) .rt) (.sq (rG [gB 47 .eql 33 (kI 5),gA 46 47] [2,5,6,46] [2]) (.ite 46 (.sq (rG [gM 48 5,gM 49 6,gB 50 .mul 48 49,ga 51 158 [50],gA 4 51] [4] []) .rt) .sk)))))))) abO))
def abQ:AC:=.kp [1,2] [2] abP
def abR:bU:=⟨(.sq Zag (.sq (.sq (rG [gF 7 0 2,gQ 8 7] [1,2,8] [2]) (.bl 0 (.sq (rG [gB 10 .eql 8 (kI 1),gA 9 10] [1,2,8,9] [2]) (.ite 9 (.sq (rG [gF 11 1 2,gQ 12 11,gA 4 12] [4] []) .rt) (.sq (rG [gB 14 .eql 8 (kI 2),gA 13 14] [1,2,13] [2]) (.ite 13 (.sq (rG [gM 15 1,gF 16 1 2,gQ 17 16,gi 18 1 15 17,gQ 19 18,gA 4 19] [4] []) .rt) .sk)))))) abQ)),[.t 4]⟩
def abS:AC:=(.sq (.bl 1 (.sq (.dg [] [39] [vM 26 5 [39],vF 27 2 3 [39],vF 28 6 27 [39],yQ 29 28 [3] [39],vM 30 7 [39],yi 31 3 29 30 [3] [39],yC 32 3 31 [3] [39],vM 33 0 [39],gL (gp 34 (.nc 33)) [33] [39],vF 35 10 34 [39],vF 36 1 35 [39],⟨gQ 37 36,true,[36],[],true,[],[39],[]⟩,⟨ga 38 119 [32,37],true,[32,37],[],true,[],[39],[]⟩,gU (gz 39 (.bs 3 1 [38])) [38],gH (gp 40 (.ap 3 1 8 26 39)),gH (gA 5 40)] ZbM [0,3,4]) (.sq (rG [gM 41 0,gp 42 (.nc 41),gF 43 17 42,gQ 44 43] [0,3,4,5,6,7,44] [0,3,4]) (.ite 44 (.sq (rG [gM 45 6,gM 46 0,gF 47 2 3,gF 48 6 47,gQ 49 48,gM 50 7,gi 51 3 49 50,gC 52 3 51,gp 53 (.c3 116 [46,52]),gz 54 (.bs 113 2 [53]),gp 55 (.ap 113 2 48 45 54),gA 6 55] ZbM [0,3,4]) (.sq (.dg [] [] [uM 56 0,uF 57 0 4,xQ 58 57 [4],uM 59 7,xi 60 1 58 59 [4],xQ 61 60 [4],uM 62 6,uM 63 7,gU (gi 64 2 62 63) [62,63,6],gU (gC 65 2 64) [64,6],gH (gp 66 (.c3 117 [56,61,65])),gH (gn 67 66)] [0,3,4,5,6,7,67] [0,3,4]) (.ite 67 (.sq (rG [gM 68 0,gF 69 1 3,gQ 70 69,gp 71 (.c2 118 [68,70])] [] []) .rt) .sk))) .sk)))) (rG [gM 24 7,gB 25 .add 24 (kI 1),gA 7 25] ZbM [0,3,4]))
def abT:AC:=.kp ZbM [0,3,4] abS
def abU:AC:=(.sq (.sq (rG [gM 19 7,gF 20 0 4,gQ 21 20,gl 22 21,gB 23 .lss 19 22] [0,3,4,5,6,7,23] [0,3,4]) (.ite 23 .sk (.ex 0))) abT)
def UB:bO:=⟨ZbM,[0,3,4],abU⟩
def abV:AC:=(.sq (.bl 3 (.sq (.dg [] [] [uM 79 0,gU (gp 80 (.nc 79)) [79],uF 81 10 80,uF 82 1 81,⟨gQ 83 82,true,[82],[],true,[],[],[]⟩,uF 84 0 4,xQ 85 84 [4],uM 86 8,xi 87 1 85 86 [4],xQ 88 87 [4],uM 89 5,uM 90 8,gU (gi 91 1 89 90) [89,90,5],gU (gQ 92 91) [91,5],gH (gi 93 1 83 88),gH (gS 1 93 92)] ZbN [0,3,4]) (.sq (rG [gM 94 0,gp 95 (.nc 94),gF 96 17 95,gQ 97 96] [0,3,4,5,6,8,97] [0,3,4]) (.ite 97 (.dg [] [] [uM 98 0,gU (gp 99 (.nc 98)) [98],uF 100 18 99,⟨gQ 101 100,true,[100],[],true,[],[],[]⟩,uF 102 0 4,xQ 103 102 [4],uM 104 8,xi 105 1 103 104 [4],xQ 106 105 [4],uM 107 6,uM 108 8,gU (gi 109 2 107 108) [107,108,6],gU (gC 110 2 109) [109,6],gH (gi 111 2 101 106),gH (gS 2 111 110)] ZbN [0,3,4]) .sk)))) (rG [gM 77 8,gB 78 .add 77 (kI 1),gA 8 78] ZbN [0,3,4]))
def abW:AC:=.kp ZbN [0,3,4] abV
def abX:AC:=(.sq (.sq (rG [gM 72 8,gF 73 0 4,gQ 74 73,gl 75 74,gB 76 .lss 72 75] [0,3,4,5,6,8,76] [0,3,4]) (.ite 76 .sk (.ex 2))) abW)
def UC:bO:=⟨ZbN,[0,3,4],abX⟩
def abY:AC:=(.sq (.dg [] ZbB [vM 112 0 ZbB,vM 113 0 ZbB,gL (gp 114 (.nc 113)) [113] ZbB,vF 115 16 114 ZbB,⟨gQ 116 115,true,[115],[],true,[],ZbB,[]⟩,vF 117 1 3 ZbB,yQ 118 117 [3] ZbB,vF 119 2 3 ZbB,yC 120 9 119 [3] ZbB,gL (gp 121 (.bd [Zab,Zab,Zab,Zab,Zab,Zab,Zab,Zan,Zan,Zah,Zah,Zab] [(0,1,(kI 2)),(1,1,118),(2,9,120)])) [118,120] ZbB,gL (gz 122 (.bs 148 12 [121])) [121] [123],⟨gp 123 (.ap 148 12 160 116 122),true,[116,122],[],true,[116,116],[],[]⟩,gH (gp 124 (.nc 112)),gH (gF 125 16 124),gH (gS 1 125 123)] [0,3,4] [0,3,4]) (.dg [] [] [uM 126 0,uF 127 1 4,xQ 128 127 [4],uM 129 0,gU (gp 130 (.nc 129)) [129],uF 131 0 130,⟨gC 132 8 131,true,[131],[],true,[],[],[]⟩,uF 133 2 3,uF 134 2 133,xQ 135 134 [3],gU (ga 136 52 [132,135]) [132,135],gH (gp 137 (.c2 72 [126,128,136]))] [] []))
def abZ:AC:=.kp [0,3,4] [0,3,4] abY
def ab0:AC:=(.sq (.sq (rG [gA 8 (kI 0)] ZbN [0,3,4]) (.bl 2 UC.lp)) abZ)
def ab1:AC:=.kp [0,3,4,5,6] [0,3,4] ab0
def ab2:bU:=⟨(.sq ZaG (.sq (.dg [] [4] [vM 9 0 [4],gL (gp 10 (.nc 9)) [9] [4],vF 11 0 10 [4],vF 12 6 11 [4],⟨gQ 13 12,true,[12],[],true,[],[4],[]⟩,vF 14 2 3 [4],vF 15 2 14 [4],yQ 16 15 [3] [4],⟨gi 17 5 13 16,true,[13,16],[],true,[],[4],[]⟩,⟨gC 18 5 17,true,[17],[],true,[],[4],[]⟩,gU (gp 4 Zax) [],gH (gS 5 4 18)] [0,3,4] [0,3,4]) (.sq (rG [gA 5 (.c .n)] Zbi [0,3,4]) (.sq (.rg [.own 5 3] [gA 6 (.c .n)] [0,3,4,5,6] [0,3,4]) (.sq (.sq (.rg [.own 6 113] [gA 7 (kI 0)] ZbM [0,3,4]) (.bl 0 UB.lp)) ab1))))),[]⟩
def ab3:AC:=(.sq (.dg [] [] [xC 21 3 3 [3],uM 22 0,gU (gp 23 (.nc 22)) [22],uF 24 10 23,uF 25 1 24,⟨gQ 26 25,true,[25],[],true,[],[],[]⟩,gH (ga 27 119 [21,26]),gH (gB 28 .neq 27 (kI 0)),gH (gA 4 28)] [4] []) .rt)
def ab4:AC:=.kp [0,3] [0,3] ab3
def ab5:bU:=⟨(.sq Zaw (.sq (.sq (rG [gM 5 0,gp 6 (.nc 5),gF 7 17 6,gQ 8 7] [0,3,8] [0,3]) (.ite 8 (.dg [] [17,18] [vM 9 0 [17,18],vM 10 0 [17,18],gL (gp 11 (.nc 10)) [10] [17,18],vF 12 19 11 [17,18],⟨gQ 13 12,true,[12],[],true,[],[17,18],[]⟩,vM 14 0 [17,18],yC 15 3 3 [3] [17,18],⟨gp 16 (.c3 116 [14,15]),true,[14,15],[],true,[],[17,18],[]⟩,gL (gz 17 (.bs 113 2 [16])) [16] [18],⟨gp 18 (.ap 113 2 48 13 17),true,[13,17],[],true,[13,13],[],[]⟩,gH (gp 19 (.nc 9)),gH (gF 20 19 19),gH (gS 1 20 18)] [0,3] [0,3]) .sk)) ab4)),[.t 4]⟩
def ab6:AC:=(.dg [] [] [xC 101 2 7 [7],uM 102 0,⟨gp 103 (.c3 157 [102]),true,[102],[],true,[],[],[]⟩,gH (ga 104 98 [101,103]),gH (gS 2 6 104)] [0,3,6] [0,3,6])
def ab7:AC:=.kp Zcd Zcd ab6
def ab8:AC:=(.sq (rG [gM 48 0,gF 49 3 3,gC 50 3 49,gp 51 (.c3 116 [48,50]),gS 2 6 51] Zbx Zbx) (.sq (.dg [] [8] [yC 52 2 5 [5] [8],vM 53 0 [8],gL (gp 54 (.nc 53)) [53] [8],vF 55 0 54 [8],vF 56 5 55 [8],⟨gQ 57 56,true,[56],[],true,[],[8],[]⟩,vF 58 1 3 [8],yQ 59 58 [3] [8],⟨gi 60 3 57 59,true,[57,59],[],true,[],[8],[]⟩,⟨gF 61 1 60,true,[60],[],true,[],[8],[]⟩,⟨gC 62 2 61,true,[61],[],true,[],[8],[]⟩,gL (ga 63 95 [52,62]) [52,62] [8],gU (gp 8 Zae) [],gH (gS 2 8 63)] [0,3,6,8] [0,3,6,8]) (.sq (rG [gF 64 0 3,gQ 65 64,gB 66 .eql 65 (kI 5)] [0,3,6,8,66] [0,3,6,8]) (.ite 66 (rG [gF 67 0 8,gQ 68 67,gF 69 1 6,gQ 70 69,gp 71 (.bd Zbn [(0,1,68),(1,1,70)]),gS 2 6 71] [0,3,6] [0,3,6]) (rG [gF 72 0 6,gQ 73 72,gF 74 1 8,gQ 75 74,gp 76 (.bd Zbn [(0,1,73),(1,1,75)]),gS 2 6 76] [0,3,6] [0,3,6])))))
def ab9:AC:=.kp Zbx Zbx ab8
def aca:AC:=(.sq (.dg [] [] [uM 129 0,gU (gp 130 (.nc 129)) [129],uF 131 18 130,⟨gQ 132 131,true,[131],[],true,[],[],[]⟩,uF 133 1 3,xQ 134 133 [3],xC 135 2 6 [6],gH (gi 136 2 132 134),gH (gS 2 136 135)] [] []) Zaf)
def acb:AC:=.kp [0,3,6] [0,3,6] aca
def UD:AC:=(.sq (.sq (rG [gM 123 0,gF 124 1 3,gQ 125 124,gC 126 2 6,gp 127 (.c3 117 [123,125,126]),gn 128 127] [0,3,6,128] [0,3,6]) (.ite 128 Zad .sk)) acb)
def acd:AC:=.kp [0,3,6] [0,3,6] UD
def ace:AC:=(.sq (rG [gM 14 0,gp 15 (.nc 14),gF 16 0 15,gF 17 0 16,gC 18 2 17,gp 5 (.al [Zab,Zby]),gS 2 5 18] [0,3,5] [0,3,5]) (.sq (rG [gp 6 Zae] Zbx Zbx) (.sq (.sq (rG [gF 19 0 3,gQ 20 19] [0,3,5,6,20] Zbx) (.bl 0 (.sq (rG [gB 78 .eql 20 (kI 1),gA 77 78] [0,3,5,6,20,77] Zbx) (.ite 77 (rG [gM 79 0,gF 80 3 3,gC 81 3 80,gp 82 (.c3 116 [79,81]),gS 2 6 82] [0,3,6] [0,3,6]) (.sq (rG [gB 84 .eql 20 (kI 3),gA 83 84] [0,3,5,6,20,83] Zbx) (.ite 83 (.sq (.dg [] [7] [yC 85 2 5 [5] [7],vM 86 0 [7],gL (gp 87 (.nc 86)) [86] [7],vF 88 0 87 [7],vF 89 3 88 [7],⟨gQ 90 89,true,[89],[],true,[],[7],[]⟩,vF 91 2 3 [7],yQ 92 91 [3] [7],⟨gi 93 2 90 92,true,[90,92],[],true,[],[7],[]⟩,⟨gC 94 2 93,true,[93],[],true,[],[7],[]⟩,gL (ga 95 95 [85,94]) [85,94] [7],gU (gp 7 Zae) [],gH (gS 2 7 95)] Zcd Zcd) (.sq (.sq (.dg [] [] [uM 96 0,⟨gp 97 (.c3 157 [96]),true,[96],[],true,[],[],[]⟩,xC 98 2 7 [7],gH (ga 99 97 [97,98]),gH (gn 100 99)] [0,3,6,7,100] Zcd) (.ite 100 Zad .sk)) ab7)) (.sq (rG [gB 106 .eql 20 (kI 4),gA 105 106] [0,3,5,6,105] Zbx) (.ite 105 (.sq (.dg [] [] [uM 107 0,uF 108 3 3,xC 109 3 108 [3],⟨gp 110 (.c3 116 [107,109]),true,[107,109],[],true,[],[],[]⟩,xC 111 2 5 [5],uM 112 0,gU (gp 113 (.nc 112)) [112],uF 114 0 113,uF 115 4 114,⟨gQ 116 115,true,[115],[],true,[],[],[]⟩,uF 117 2 3,xQ 118 117 [3],⟨gi 119 2 116 118,true,[116,118],[],true,[],[],[]⟩,⟨gC 120 2 119,true,[119],[],true,[],[],[]⟩,gH (ga 121 95 [111,120]),gH (ga 122 97 [110,121]),gH (gA 4 122)] [4] []) .rt) (.sq (.sq (.dg [] [] [uM 21 0,gU (gp 22 (.nc 21)) [21],uF 23 0 22,uF 24 5 23,⟨gQ 25 24,true,[24],[],true,[],[],[]⟩,uF 26 1 3,xQ 27 26 [3],⟨gi 28 3 25 27,true,[25,27],[],true,[],[],[]⟩,⟨gF 29 0 28,true,[28],[],true,[],[],[]⟩,⟨gQ 30 29,true,[29],[],true,[],[],[]⟩,un 31 30,uM 32 31,pU 33 0 32 false,gU (gg 34 (.nc 33) 32 false) [33],mP 35 0 34 32 false,⟨hC 36 8 35 32 false,true,[35],[],true,[],[],[]⟩,Fh 37 9 3 32 false [3],gU (ha 38 159 [36,37] 32 false) [36,37],gU (gp 39 (.pk 32 Zac 38)) [32,38],uM 40 39,pU 41 0 40 false,gU (gg 42 (.nc 41) 40 false) [41],mP 43 0 42 40 false,⟨hC 44 8 43 40 false,true,[43],[],true,[],[],[]⟩,Fh 45 9 3 40 false [3],gH (ha 46 160 [44,45] 40 false),gH (gp 47 (.pk 40 Zac 46))] [0,3,5,6,47] Zbx) (.ite 47 Zad .sk)) ab9))))))))) acd)))
def acf:AC:=.kp [0,3] [0,3] ace
def acg:bU:=⟨(.sq Zaw (.sq (.sq (rG [gM 9 0,gp 10 (.nc 9),gF 11 17 10,gQ 12 11,gn 13 12] [0,3,13] [0,3]) (.ite 13 Zaf .sk)) acf)),[.t 4]⟩
def ach:AC:=(.sq (.bl 1 (.sq (rG [gi 60 2 56 58,gC 61 2 60,gp 5 (.al ZbT),gS 2 5 61] [1,5,56,57,58] [1,5]) (.sq (rG [gF 62 0 1,gC 63 2 62,gC 64 2 5,ga 65 164 [63,64],gA 6 65] [1,6,56,57,58] [1]) (.sq (rG [gM 66 6,gB 67 .neq 66 (kI 0)] [1,6,56,57,58,67] [1]) (.ite 67 (.sq (rG [gM 68 6,gA 2 68] [2] []) .rt) .sk))))) (rG [gB 69 .add 58 (kI 1),gM 58 69] [1,56,57,58] [1]))
def aci:AC:=.kp [1,56,57,58] [1] ach
def acj:AC:=(.sq (rG [gB 59 .lss 58 57] [1,56,57,58,59] [1]) (.sq (.ite 59 .sk (.ex 0)) aci))
def UE:bO:=⟨[1,56,57,58],[1],acj⟩
def ack:AC:=(.sq (.bl 3 (.sq (rG [gi 75 3 71 73,gC 76 3 75,gp 8 (.al ZaA),gS 3 8 76] [1,8,71,72,73] [1,8]) (.sq (rG [gF 77 0 1,gC 78 2 77,gF 79 1 8,gC 80 2 79,ga 81 164 [78,80],gA 9 81] [1,9,71,72,73] [1]) (.sq (rG [gM 82 9,gB 83 .neq 82 (kI 0)] [1,9,71,72,73,83] [1]) (.ite 83 (.sq (rG [gM 84 9,gA 2 84] [2] []) .rt) .sk))))) (rG [gB 85 .add 73 (kI 1),gM 73 85] [1,71,72,73] [1]))
def acm:AC:=.kp [1,71,72,73] [1] ack
def acn:AC:=(.sq (rG [gB 74 .lss 73 72] [1,71,72,73,74] [1]) (.sq (.ite 74 .sk (.ex 2)) acm))
def UF:bO:=⟨[1,71,72,73],[1],acn⟩
def aco:AC:=(.sq (.sq (rG [gF 86 5 1,gQ 87 86,gp 88 (.c2 165 [87,(.c (.f 166 []))])] [88] []) (.ite 88 Zbt .sk)) ZaV)
def acp:AC:=.kp [1] [1] aco
def acq:AC:=(.sq (.sq (rG [gF 70 5 1,gQ 71 70,gl 72 71,gM 73 (kI 0)] [1,71,72,73] [1]) (.bl 2 UF.lp)) acp)
def acr:AC:=.kp [1] [1] acq
def acs:AC:=(.sq (.sq (rG [gF 51 3 1,gQ 52 51,gF 53 4 1,gQ 54 53,gz 55 (.bs 26 1 [52,54]),ga 56 163 [55],gl 57 56,gM 58 (kI 0)] [1,56,57,58] [1]) (.bl 0 UE.lp)) acr)
def acu:AC:=.kp [1] [1] acs
def acv:AC:=(.sq (.sq (.rg [.fzB 1 true] [gF 47 2 1,gQ 48 47,gp 49 (.mf 162 [1]),gp 50 (.c2 103 [48,49])] [1,50] [1]) (.ite 50 ZaH .sk)) acu)
def acw:AC:=.kp [1] [1] acv
def acx:AC:=(.sq (.sq (rG [gF 16 5 1,gQ 17 16,gl 18 17,gB 19 .gtr 18 (kI 16),gM 20 19,hF 21 3 1 20 false,hQ 22 21 20 false,hl 23 22 20 false,hB 24 .gtr 23 (kI 5) 20 false,gp 25 (.pk 20 Zac 24),gM 26 25,hF 27 4 1 26 false,hQ 28 27 26 false,hl 29 28 26 false,hB 30 .gtr 29 (kI 5) 26 false,gp 31 (.pk 26 Zac 30),gM 32 31,hF 33 6 1 32 false,hQ 34 33 32 false,hl 35 34 32 false,hB 36 .gtr 35 (kI 5) 32 false,gp 37 (.pk 32 Zac 36),gM 38 37,hF 39 2 1 38 false,hQ 40 39 38 false,hl 41 40 38 false,hF 42 0 1 38 false,hF 43 0 42 38 false,hQ 44 43 38 false,hB 45 .gtr 41 44 38 false,gp 46 (.pk 38 Zac 45)] [1,46] [1]) (.ite 46 Zau .sk)) acw)
def acy:AC:=.kp [1] [1] acx
def acz:bU:=⟨(.sq ZaE (.sq (.sq (rG [gF 10 0 1,gC 11 2 10,ga 12 161 [11],gA 3 12] [1,3] [1]) (.sq (rG [gM 13 3,gB 14 .neq 13 (kI 0)] [1,3,14] [1]) (.ite 14 (.sq (rG [gM 15 3,gA 2 15] [2] []) .rt) .sk))) acy)),[.t 2]⟩
def acA:AC:=(.sq (.bl 1 (.sq (rG [gi 13 5 9 11,gC 14 5 13,gp 6 Zax,gS 5 6 14] [1,4,6,9,10,11] [1,3,6]) (.sq (rG [gF 15 1 6,gQ 16 15,gM 17 4,gp 18 (.c2 134 [16,(kI 1),17]),gn 19 18] [1,4,9,10,11,19] [1,3]) (.ite 19 ZcN .sk)))) (rG [gB 20 .add 11 (kI 1),gM 11 20] ZcO [1,3]))
def acB:AC:=.kp ZcO [1,3] acA
def acC:AC:=(.sq (rG [gB 12 .lss 11 10] [1,4,9,10,11,12] [1,3]) (.sq ZaW acB))
def UG:bO:=⟨ZcO,[1,3],acC⟩
def acD:AC:=(.sq (rG [gF 21 7 1,gQ 22 21,gM 23 4,gp 24 (.c2 134 [22,(kI 1),23]),gA 2 24] [2] []) .rt)
def acE:AC:=.kp [1,4] [1,3] acD
def acF:bU:=⟨(.sq Zcy (.sq (rG [gp 3 (.al [Zab]),gS 1 3 (kI 0)] [1,3] [1,3]) (.sq (rG [gp 7 (.mf 167 [3]),gA 4 7] [1,4] [1,3]) (.sq (.sq (rG [gF 8 6 1,gQ 9 8,gl 10 9,gM 11 (kI 0)] ZcO [1,3]) (.bl 0 UG.lp)) acE)))),[.t 2]⟩
def acG:AC:=(.sq (rG [gF 32 0 3,gQ 33 32,gM 34 5,gp 35 (.sl 3 1 33 none (some 34)),gM 36 6,ga 37 168 [35,36]] [0,3,13,14,15,37] [0,3]) (.ite 37 (.sq (rG [gA 4 (kI 6)] [4] []) .rt) .sk))
def acH:AC:=.kp [0,3,5,6,13,14,15] [0,3] acG
def acI:AC:=(.sq (.bl 1 (.sq (rG [gM 17 15,gi 18 1 13 15,gQ 19 18,gA 5 17,gA 6 19] [0,3,5,6,13,14,15] [0,3]) (.sq (.sq (rG [gM 20 6,gB 21 .lss 20 (kI 0),gM 22 21,hM 23 6 22 false,hM 24 0 22 false,gg 25 (.nc 24) 22 false,hF 26 0 25 22 false,hF 27 5 26 22 false,hQ 28 27 22 false,hl 29 28 22 false,hB 30 .geq 23 29 22 false,gp 31 (.pk 22 Zac 30)] [0,3,5,6,13,14,15,31] [0,3]) (.ite 31 Zap .sk)) acH))) (rG [gB 38 .add 15 (kI 1),gM 15 38] ZcE [0,3]))
def acJ:AC:=.kp ZcE [0,3] acI
def acK:AC:=(.sq (rG [gB 16 .lss 15 14] [0,3,13,14,15,16] [0,3]) (.sq ZbD acJ))
def UH:bO:=⟨ZcE,[0,3],acK⟩
def acM:AC:=(.sq (.dg [] [] [uF 46 2 3,xC 47 3 46 [3],uM 48 0,gU (gp 49 (.nc 48)) [48],uF 50 0 49,uF 51 5 50,⟨gQ 52 51,true,[51],[],true,[],[],[]⟩,⟨gl 53 52,true,[52],[],true,[],[],[]⟩,gH (ga 54 102 [47,53]),gH (gA 4 54)] [4] []) .rt)
def acN:AC:=.kp [0,3] [0,3] acM
def acO:AC:=(.sq (.sq (rG [gM 39 0,gF 40 1 3,gQ 41 40,gp 42 (.c2 126 [39,41]),gA 7 42] [0,3,7] [0,3]) (.sq (rG [gM 43 7,gB 44 .neq 43 (kI 0)] [0,3,7,44] [0,3]) (.ite 44 (.sq (rG [gM 45 7,gA 4 45] [4] []) .rt) .sk))) acN)
def acP:AC:=.kp [0,3] [0,3] acO
def acQ:AC:=(.sq (.sq (rG [gF 12 0 3,gQ 13 12,gl 14 13,gM 15 (kI 0)] ZcE [0,3]) (.bl 0 UH.lp)) acP)
def acS:AC:=.kp [0,3] [0,3] acQ
def acT:bU:=⟨(.sq Zcb (.sq (.sq (rG [gF 8 0 3,gQ 9 8,gl 10 9,gB 11 .gtr 10 (kI 4)] [0,3,11] [0,3]) (.ite 11 Zav .sk)) acS)),[.t 4]⟩
def acU:bU:=⟨(.sq (rG [gp 2 (.bx 0),gA 4 (kI 0)] [1,2] [0,2]) (.sq (rG [gp 5 (.al [Zab]),gS 1 5 (kI 0)] [1,2,5] [0,2,5]) (.sq (rG [gM 6 1,gp 7 (.mf 169 [2,5]),gp 8 (.c2 134 [6,(kI 1),7])] [5] [5]) (.sq (rG [gQ 9 5,gA 4 9] [4] []) .rt)))),[.t 4]⟩
def acV:bU:=⟨(.sq ZaQ (.sq (rG [gM 5 1,gB 6 .geq 5 (kI 0),gM 7 6,hM 8 1 7 true,hF 9 0 2 7 true,hQ 10 9 7 true,hB 11 .lss 8 10 7 true,gk 12 7 11 Zaa,gA 4 12] [4] []) .rt)),[.t 4]⟩
def acW:AC:=(.sq (.bl 1 (.sq (rG [gi 13 9 9 11,gC 14 9 13,gp 8 ZaJ,gS 9 8 14] [1,2,8,9,10,11] [8]) (.sq (rG [gM 15 2,gC 16 9 8,gM 17 1,gp 18 (.d2 15 [16,17]),gn 19 18,gM 20 19,hF 21 7 8 20 false,hQ 22 21 20 false,hM 23 1 20 false,hB 24 .add 23 (kI 1) 20 false,hM 25 2 20 false,gg 26 (.c2 134 [22,24,25]) 20 false,hn 27 26 20 false,gp 28 (.pk 20 Zac 27),gM 29 28,hF 30 8 8 29 false,hQ 31 30 29 false,hM 32 1 29 false,hB 33 .add 32 (kI 1) 29 false,hM 34 2 29 false,gg 35 (.c2 134 [31,33,34]) 29 false,hn 36 35 29 false,gp 37 (.pk 29 Zac 36)] [1,2,9,10,11,37] []) (.ite 37 Zat .sk)))) (rG [gB 38 .add 11 (kI 1),gM 11 38] ZcP []))
def acX:AC:=.kp ZcP [] acW
def acY:AC:=(.sq (rG [gB 12 .lss 11 10] [1,2,9,10,11,12] []) (.sq ZaW acX))
def Kf:bO:=⟨ZcP,[],acY⟩
def acZ:bU:=⟨(.sq (rG [gA 6 Zaa] [0,1,2] []) (.sq (.sq (rG [gM 9 0,gl 10 9,gM 11 (kI 0)] ZcP []) (.bl 0 Kf.lp)) Zaz)),[.t 6]⟩
def ac0:bU:=⟨(.sq (rG [gp 3 (.bx 0),gA 5 Zaa] [2] [2]) (.sq (rG [gQ 6 2,gB 7 .add 6 (kI 1),gS 1 2 7] [] []) (.sq (rG [gA 5 Zac] [5] []) .rt))),[.t 5]⟩
def ac1:AC:=(.sq (.bl 3 (.dg [] [] [uM 34 8,uM 35 34,Fh 36 2 3 35 false [3],pU 37 1 35 false,pU 38 2 35 false,pU 39 7 35 false,X7 40 2 38 39 35 false,mP 41 1 40 35 false,X6 42 41 35 false,pU 43 9 35 false,X7 44 1 42 43 35 false,X6 45 44 35 false,gH (ha 46 184 [36,37,45] 35 false),gH (gp 47 (.pk 35 Zac 46)),gH (gA 8 47)] ZaT [3])) (rG [gM 32 9,gB 33 .add 32 (kI 1),gA 9 33] ZaT [3]))
def ac2:AC:=.kp ZaT [3] ac1
def ac3:AC:=(.sq (.sq (rG [gM 24 9,gM 25 2,gM 26 7,gi 27 2 25 26,gF 28 1 27,gQ 29 28,gl 30 29,gB 31 .lss 24 30] [1,2,3,7,8,9,31] [3]) (.ite 31 .sk (.ex 2))) ac2)
def UI:bO:=⟨ZaT,[3],ac3⟩
def ac4:AC:=(.sq (rG [gM 48 8,gn 49 48] [1,2,3,7,49] [3]) (.ite 49 Zat .sk))
def ac5:AC:=.kp [1,2,3,7,8] [3] ac4
def ac6:AC:=(.sq (.bl 1 (.sq (.dg [] [] [xC 16 2 3 [3],uM 17 1,uM 18 2,uM 19 7,ui 20 2 18 19,uF 21 0 20,uQ 22 21,gH (ga 23 184 [16,17,22]),gH (gA 8 23)] [1,2,3,7,8] [3]) (.sq (.sq (rG [gA 9 (kI 0)] ZaT [3]) (.bl 2 UI.lp)) ac5))) (rG [gM 14 7,gB 15 .add 14 (kI 1),gA 7 15] ZbA [3]))
def ac7:AC:=.kp ZbA [3] ac6
def ac8:AC:=(.sq (.sq (rG [gM 10 7,gM 11 2,gl 12 11,gB 13 .lss 10 12] [1,2,3,7,13] [3]) Zcp) ac7)
def UJ:bO:=⟨ZbA,[3],ac8⟩
def ac9:bU:=⟨(.sq Zbf (.sq (.sq (rG [gA 7 (kI 0)] ZbA [3]) (.bl 0 UJ.lp)) Zaz)),[.t 6]⟩
def ada:AC:=(.sq (.bl 1 (.sq (rG [gM 21 8,gM 22 9,gi 23 3 21 22,gF 24 0 23,gQ 25 24,gB 26 .eql 25 (kI 2)] [1,6,7,8,9,26] [6,7]) (.ite 26 (.dg [] [] [xC 27 2 7 [7],uM 28 1,uM 29 8,uM 30 9,ui 31 3 29 30,uF 32 1 31,uQ 33 32,ui 34 2 28 33,uC 35 2 34,gH (ga 36 98 [27,35]),gH (gS 2 7 36)] ZcJ [6,7]) .sk))) (rG [gM 19 9,gB 20 .add 19 (kI 1),gA 9 20] ZcJ [6,7]))
def adb:AC:=.kp ZcJ [6,7] ada
def DA:AC:=(.sq (.sq (rG [gM 15 9,gM 16 8,gl 17 16,gB 18 .lss 15 17] [1,6,7,8,9,18] [6,7]) (.ite 18 .sk (.ex 0))) adb)
def UK:bO:=⟨ZcJ,[6,7],DA⟩
def WN:bU:=⟨(.sq (rG [gp 3 (.bx 0),gp 5 (.bx 2),gp 6 Zae] [1,3,5,6] [3,5,6]) (.sq (rG [gF 10 0 3,gC 11 2 10,ga 12 71 [11],gp 7 Zae,gS 2 7 12] [1,5,6,7] [5,6,7]) (.sq (rG [gC 13 3 5,ga 14 50 [13],gA 8 14] [1,6,7,8] [6,7]) (.sq (.sq (rG [gA 9 (kI 0)] ZcJ [6,7]) (.bl 0 UK.lp)) (.sq (rG [gC 37 2 7,gS 2 6 37] [6] [6]) .rt))))),[.c 6 (some 2)]⟩
def ade:AC:=(rG [gM 18 5,gC 19 3 7,gM 20 1,gM 21 5,gB 22 .sub 20 21,ga 23 142 [19,22],gB 24 .add 18 23,gA 5 24] Zcg [])
def adf:AC:=.kp [1,5,7,9,10,11] [7] ade
def adg:AC:=(.sq (.bl 1 (.sq (rG [gi 13 3 9 11,gC 14 3 13,gp 7 Zba,gS 3 7 14] [1,5,7,9,10,11] [7]) (.sq (.sq (rG [gM 15 5,gM 16 1,gB 17 .gtr 15 16] [1,5,7,9,10,11,17] [7]) (.ite 17 (.ex 0) .sk)) adf))) (rG [gB 25 .add 11 (kI 1),gM 11 25] Zcg []))
def adh:AC:=.kp Zcg [] adg
def adi:AC:=(.sq (rG [gB 12 .lss 11 10] [1,5,9,10,11,12] []) (.sq ZaW adh))
def UL:bO:=⟨Zcg,[],adi⟩
def adj:bU:=⟨(.sq Zag (.sq (rG [gA 5 (kI 1)] [1,2,5] [2]) (.sq (.sq (rG [gF 8 2 2,gQ 9 8,gl 10 9,gM 11 (kI 0)] Zcg []) (.bl 0 UL.lp)) (.sq (rG [gM 26 5,gA 4 26] [4] []) .rt)))),[.t 4]⟩
def adk:AC:=(.sq (.bl 1 (.sq (rG [gi 20 3 16 18,gC 21 3 20,gp 7 Zba,gS 3 7 21] [1,7,16,17,18] [7]) (.sq (rG [gC 22 3 7,gM 23 1,ga 24 143 [22,23],gA 8 24] [1,8,16,17,18] []) (.sq (rG [gM 25 8,gB 26 .neq 25 (kI 0)] [1,8,16,17,18,26] []) (.ite 26 (.sq (rG [gM 27 8,gA 4 27] [4] []) .rt) .sk))))) (rG [gB 28 .add 18 (kI 1),gM 18 28] [1,16,17,18] []))
def adl:AC:=.kp [1,16,17,18] [] adk
def adm:AC:=(.sq (rG [gB 19 .lss 18 17] [1,16,17,18,19] []) (.sq (.ite 19 .sk (.ex 0)) adl))
def UM:bO:=⟨[1,16,17,18],[],adm⟩
def adn:AC:=(.sq (.sq (rG [gF 15 2 2,gQ 16 15,gl 17 16,gM 18 (kI 0)] [1,16,17,18] []) (.bl 0 UM.lp)) Zaq)
def ado:AC:=.kp [1,2] [2] adn
def adp:bU:=⟨(.sq Zag (.sq (.sq (rG [gC 9 3 2,gM 10 1,ga 11 185 [9,10],gA 5 11] [1,2,5] [2]) (.sq (rG [gM 12 5,gB 13 .neq 12 (kI 0)] [1,2,5,13] [2]) (.ite 13 (.sq (rG [gM 14 5,gA 4 14] [4] []) .rt) .sk))) ado)),[.t 4]⟩
def adq:AC:=Zal
def adr:AC:=.kp Zbj [] adq
def ads:AC:=(.sq ZaC (.sq ZaK adr))
def UN:bO:=⟨Zbj,[],ads⟩
def adt:bU:=⟨(.sq ZaF (.sq (.sq Zar (.bl 0 UN.lp)) Zay)),[.t 4]⟩
def adu:bU:=⟨(.sq Zbs (.sq (.sq (rG [gM 3 0] [3] []) (.ite 3 Zbt .sk)) ZaV)),[.t 2]⟩
def adv:AC:=Zal
def adw:AC:=.kp Zbj [] adv
def adx:AC:=(.sq ZaC (.sq ZaK adw))
def ady:bO:=⟨Zbj,[],adx⟩
def adz:bU:=⟨(.sq ZaF (.sq (.sq Zar (.bl 0 ady.lp)) Zay)),[.t 4]⟩
def adA:AC:=(.sq (rG [gM 17 0,gp 18 (.nc 17),gF 19 11 18,gF 20 3 19,gQ 21 20,gB 22 .add 21 (kI 1),gp 23 (.nc 17),gF 24 11 23,gF 25 3 24,gS 1 25 22] [] []) (.sq (rG [gA 2 Zac] [2] []) .rt))
def adB:AC:=.kp [0] [0] adA
def adC:bU:=⟨(.sq (rG [gA 2 Zaa] [0] [0]) (.sq (.sq (.dg [] [] [uM 3 0,gU (gp 4 (.nc 3)) [3],uF 5 11 4,uF 6 3 5,⟨gQ 7 6,true,[6],[],true,[],[],[]⟩,uM 8 0,gU (gp 9 (.nc 8)) [8],uF 10 9 9,⟨gQ 11 10,true,[10],[],true,[],[],[]⟩,gH (gB 12 .eql 7 11)] [0,12] [0]) (.ite 12 (.sq (rG [gM 13 0,gp 14 (.nc 13),gF 15 11 14,gF 16 4 15,gS 1 16 (kI 2)] [] []) ZcN) .sk)) adB)),[.t 2]⟩
def adD:AC:=(.sq (.dg [] [] [uM 54 0,gU (gp 55 (.nc 54)) [54],uF 56 0 55,⟨gQ 57 56,true,[56],[],true,[],[],[]⟩,xC 58 9 4 [4],gH (gp 59 (.c2 194 [57,58]))] [] []) Zaz)
def adE:AC:=.kp [0,4] [0,4] adD
def adF:AC:=(.sq (.sq (.dg [] [] [uM 42 0,uF 43 1 4,xQ 44 43 [4],uM 45 0,uF 46 2 7,xC 47 3 46 [7],⟨gp 48 (.c3 193 [45,47]),true,[45,47],[],true,[],[],[]⟩,gH (gp 49 (.c2 192 [42,44,48])),gH (gn 50 49)] [0,2,4,50] [0,4]) (.ite 50 (.sq (rG [gM 51 0,gM 52 2,gp 53 (.c2 153 [51,52]),gA 6 53] [6] []) .rt) .sk)) adE)
def adG:AC:=.kp [0,2,4,7] [0,4,7] adF
def adH:AC:=(.sq (.dg [] [] [uM 15 0,gU (gp 16 (.nc 15)) [15],uF 17 0 16,⟨gQ 18 17,true,[17],[],true,[],[],[]⟩,xC 19 9 4 [4],gH (gp 20 (.c2 191 [18,19]))] [0,2,4] [0,4]) (.sq (.dg [] [7] [vM 21 0 [7],gL (gp 22 (.nc 21)) [21] [7],vF 23 1 22 [7],vF 24 6 23 [7],⟨gQ 25 24,true,[24],[],true,[],[7],[]⟩,vF 26 2 4 [7],yQ 27 26 [4] [7],⟨gi 28 5 25 27,true,[25,27],[],true,[],[7],[]⟩,⟨gC 29 5 28,true,[28],[],true,[],[7],[]⟩,gU (gp 7 Zax) [],gH (gS 5 7 29)] [0,2,4,7] [0,4,7]) (.sq (.sq (.dg [] [] [uM 30 0,uF 31 1 7,xQ 32 31 [7],uM 33 0,gU (gp 34 (.nc 33)) [33],uF 35 0 34,⟨gQ 36 35,true,[35],[],true,[],[],[]⟩,uF 37 2 4,xQ 38 37 [4],⟨gp 39 (.c3 69 [36,38]),true,[36,38],[],true,[],[],[]⟩,gH (gp 40 (.c2 68 [30,32,39])),gH (gn 41 40)] [0,2,4,7,41] [0,4,7]) (.ite 41 Zat .sk)) adG)))
def adI:AC:=.kp [0,2,4] [0,4] adH
def adJ:bU:=⟨(.sq Zbb (.sq (.sq (rG [gM 8 0,gC 9 9 4,gp 10 (.c2 190 [8,9]),gn 11 10] [0,2,4,11] [0,4]) (.ite 11 (.sq (rG [gM 12 0,gM 13 2,gp 14 (.c2 153 [12,13]),gA 6 14] [6] []) .rt) .sk)) adI)),[.t 6]⟩
def adK:AC:=(rG [gM 52 0,gF 53 3 4,gC 54 3 53,gp 55 (.c2 195 [52,54])] [0,2,4] [0,4])
def adL:AC:=.kp [0,2,4] [0,4] adK
def adM:AC:=(.bl 1 (.sq (.sq (rG [gM 37 0,gF 38 7 4,gQ 39 38,gM 40 2,gB 41 .add 40 (kI 1),gp 42 (.c2 68 [37,39,41]),gn 43 42,gM 44 43,hM 45 0 44 false,gg 46 (.nc 45) 44 false,hF 47 0 46 44 false,hQ 48 47 44 false,gg 49 (.c2 149 [48]) 44 false,hn 50 49 44 false,gp 51 (.pk 44 Zac 50)] [0,2,4,51] [0,4]) (.ite 51 Zat .sk)) adL))
def adN:AC:=.kp [0,2,4] [0,4] adM
def adO:AC:=(.sq (.sq (.dg [] [] [uM 30 0,gU (gp 31 (.nc 30)) [30],uF 32 0 31,⟨gQ 33 32,true,[32],[],true,[],[],[]⟩,uF 34 3 4,xC 35 3 34 [4],gH (gp 36 (.c3 197 [33,35]))] [0,2,4,36] [0,4]) (.ite 36 .sk (.ex 0))) adN)
def UO:bO:=⟨[0,2,4],[0,4],adO⟩
def adP:AC:=(.sq (.bl 0 UO.lp) Zaz)
def adQ:AC:=.kp [0,2,4] [0,4] adP
def adR:bU:=⟨(.sq Zbb (.sq (rG [gM 9 0,gF 10 3 4,gC 11 3 10,gp 12 (.c2 195 [9,11])] [0,2,4] [0,4]) (.sq (.sq (rG [gF 13 0 4,gQ 14 13,gB 15 .eql 14 (kI 7)] [0,2,4,15] [0,4]) (.ite 15 (.sq (.dg [] [] [uM 17 0,gU (gp 18 (.nc 17)) [17],uF 19 0 18,⟨gQ 20 19,true,[19],[],true,[],[],[]⟩,xC 21 9 4 [4],uM 22 2,⟨gp 23 (.c3 196 [20,21,22]),true,[20,21,22],[],true,[],[],[]⟩,uM 16 23,gU (ge 24 16 0) [16],gU (ge 25 16 1) [16],gU (gA 7 24) [24],gH (gA 8 25)] [0,7,8] [0]) (.sq (rG [gM 26 0,gM 27 7,gM 28 8,gp 29 (.c2 68 [26,27,28]),gA 6 29] [6] []) .rt)) .sk)) adQ))),[.t 6]⟩
def adS:AC:=(.sq (rG [gM 71 0,gC 72 9 3,gp 73 (.c2 199 [71,72]),gA 4 73] [4] []) .rt)
def adT:AC:=.kp [0,3] [0,3] adS
def adU:bU:=⟨(.sq Zaw (.sq (.sq (rG [gF 6 0 3,gQ 7 6] [0,3,7] [0,3]) (.bl 0 (.sq (rG [gB 9 .eql 7 (kI 1),gA 8 9] [0,3,7,8] [0,3]) (.ite 8 (.sq (.dg [] [] [uM 10 0,uF 11 1 3,xQ 12 11 [3],uM 13 0,uF 14 3 3,xC 15 3 14 [3],⟨gp 16 (.c3 193 [13,15]),true,[13,15],[],true,[],[],[]⟩,gH (gp 17 (.c2 192 [10,12,16])),gH (gA 4 17)] [4] []) .rt) (.sq (rG [gB 19 .eql 7 (kI 3),gA 18 19] [0,3,7,18] [0,3]) (.ite 18 (.sq (.dg [] [5] [vM 20 0 [5],gL (gp 21 (.nc 20)) [20] [5],vF 22 1 21 [5],vF 23 0 22 [5],⟨gC 24 2 23,true,[23],[],true,[],[5],[]⟩,vM 25 0 [5],gL (gp 26 (.nc 25)) [25] [5],vF 27 1 26 [5],vF 28 3 27 [5],⟨gQ 29 28,true,[28],[],true,[],[5],[]⟩,vF 30 2 3 [5],yQ 31 30 [3] [5],⟨gi 32 2 29 31,true,[29,31],[],true,[],[5],[]⟩,⟨gC 33 2 32,true,[32],[],true,[],[5],[]⟩,gL (ga 34 171 [24,33]) [24,33] [5],gU (gp 5 Zae) [],gH (gS 2 5 34)] [0,3,5] [0,3,5]) (.sq (.dg [] [] [uM 35 0,⟨gp 36 (.c3 198 [35]),true,[35],[],true,[],[],[]⟩,xC 37 2 5 [5],gU (ga 38 174 [36,37]) [36,37],uM 39 38,pU 40 0 39 true,mP 41 1 3 39 true,wT 42 41 39 true [3],pU 43 0 39 true,⟨gg 44 (.c3 198 [43]) 39 true,true,[43],[],true,[],[],[]⟩,Fh 45 2 5 39 true [5],gU (ha 46 115 [44,45] 39 true) [44,45],gH (gg 47 (.c2 192 [40,42,46]) 39 true),gH (gk 48 39 47 Zaa),gH (gA 4 48)] [4] []) .rt)) (.sq (rG [gB 50 .eql 7 (kI 4),gA 49 50] [0,3,49] [0,3]) (.ite 49 (.sq (.dg [] [] [uM 51 0,uF 52 3 3,xC 53 3 52 [3],⟨gp 54 (.c3 193 [51,53]),true,[51,53],[],true,[],[],[]⟩,uM 55 0,gU (gp 56 (.nc 55)) [55],uF 57 1 56,uF 58 0 57,⟨gC 59 2 58,true,[58],[],true,[],[],[]⟩,uM 60 0,gU (gp 61 (.nc 60)) [60],uF 62 1 61,uF 63 4 62,⟨gQ 64 63,true,[63],[],true,[],[],[]⟩,uF 65 2 3,xQ 66 65 [3],⟨gi 67 2 64 66,true,[64,66],[],true,[],[],[]⟩,⟨gC 68 2 67,true,[67],[],true,[],[],[]⟩,gH (ga 69 171 [59,68]),gH (ga 70 174 [54,69]),gH (gA 4 70)] [4] []) .rt) .sk)))))))) adT)),[.t 4]⟩
def adV:bU:=⟨(.sq (rG [gA 4 Zaa] [0,1] [0]) (.sq (.dg [] [] [uM 5 0,gU (gp 6 (.nc 5)) [5],uF 7 0 6,⟨gQ 8 7,true,[7],[],true,[],[],[]⟩,uM 9 0,gU (gp 10 (.nc 9)) [9],uF 11 0 10,⟨gQ 12 11,true,[11],[],true,[],[],[]⟩,uM 13 1,gU (gp 14 (.nc 8)) [8],uF 15 11 14,uF 16 4 15,⟨gS 1 16 (kI 3),true,[16],[],true,[],[],[]⟩,gH (gp 17 (.nc 12)),gH (gF 18 11 17),gH (gF 19 5 18),gH (gS 1 19 13)] [] []) Zad)),[.t 4]⟩
def UP:AC:=(.sq (.dg [] [] [uM 44 0,gU (gp 45 (.nc 44)) [44],uF 46 11 45,uF 47 2 46,⟨gQ 48 47,true,[47],[],true,[],[],[]⟩,uF 49 2 4,xQ 50 49 [4],gH (gi 51 1 48 50),gH (gQ 52 51),gH (gB 53 .add 52 (kI 1)),gH (gi 54 1 48 50),gH (gS 1 54 53)] [0,4,6] [0,4]) (.sq (.dg [] [] [uM 55 0,gU (gp 56 (.nc 55)) [55],uF 57 11 56,uF 58 1 57,⟨gQ 59 58,true,[58],[],true,[],[],[]⟩,uF 60 1 4,xQ 61 60 [4],uM 62 6,gH (gi 63 1 59 61),gH (gS 1 63 62)] [] []) .rt))
def adW:AC:=.kp [0,4,6] [0,4] UP
def UQ:AC:=(.sq (rG [gF 84 0 4,gQ 85 84] [0,2,4,8,85] [0,4]) (.bl 0 (.sq (rG [gB 87 .eql 85 (kI 4),gA 86 87] [0,2,4,8,85,86] [0,4]) (.ite 86 (rG [gM 88 0,gM 89 2,gF 90 2 4,gQ 91 90,gM 92 8,gp 93 (.c2 200 [88,(kI 1),89,91,92])] [] []) (.sq (rG [gB 95 .eql 85 (kI 5),gA 94 95] [0,2,4,8,85,94] [0,4]) (.ite 94 (rG [gM 96 0,gM 97 2,gF 98 1 4,gQ 99 98,gM 100 8,gp 101 (.c2 200 [96,(kI 2),97,99,100])] [] []) (.sq (rG [gB 103 .eql 85 (kI 6),gA 102 103] [0,2,4,8,102] [0,4]) (.ite 102 (rG [gM 104 0,gM 105 2,gF 106 1 4,gQ 107 106,gM 108 8,gp 109 (.c2 200 [104,(kI 3),105,107,108])] [] []) .sk))))))))
def adX:AC:=.kp [0,2,4,8] [0,4] UQ
def adY:AC:=(.sq (.dg [] [] [uF 64 3 4,xC 65 3 64 [4],uM 66 0,gU (gp 67 (.nc 66)) [66],uF 68 11 67,uF 69 1 68,⟨gQ 70 69,true,[69],[],true,[],[],[]⟩,gH (ga 71 106 [65,70]),gH (gA 8 71)] [0,2,4,8] [0,4]) (.sq (.sq (rG [gF 72 0 4,gQ 73 72,gB 74 .neq 73 (kI 4)] [0,2,4,8,74] [0,4]) (.ite 74 (.dg [] [] [uM 75 0,gU (gp 76 (.nc 75)) [75],uF 77 11 76,uF 78 1 77,⟨gQ 79 78,true,[78],[],true,[],[],[]⟩,uF 80 1 4,xQ 81 80 [4],uM 82 8,gH (gi 83 1 79 81),gH (gS 1 83 82)] [0,2,4,8] [0,4]) .sk)) adX))
def adZ:AC:=.kp [0,2,4] [0,4] adY
def ad0:bU:=⟨(.sq (rG [gp 4 (.bx 1)] [0,2,4] [0,4]) (.sq (.sq (rG [gF 9 0 4,gQ 10 9,gB 11 .eql 10 (kI 3)] [0,2,4,11] [0,4]) (.ite 11 (.sq (.dg [] [] [uM 12 0,gU (gp 13 (.nc 12)) [12],uF 14 8 13,⟨gQ 15 14,true,[14],[],true,[],[],[]⟩,uF 16 2 4,xQ 17 16 [4],⟨gi 18 1 15 17,true,[15,17],[],true,[],[],[]⟩,⟨gQ 19 18,true,[18],[],true,[],[],[]⟩,gU (gA 6 (kI 0)) [],gH (gA 7 19)] [0,4,6,7] [0,4]) (.sq (.sq (.dg [] [] [uM 20 0,gU (gp 21 (.nc 20)) [20],uF 22 11 21,uF 23 2 22,⟨gQ 24 23,true,[23],[],true,[],[],[]⟩,uF 25 2 4,xQ 26 25 [4],⟨gi 27 1 24 26,true,[24,26],[],true,[],[],[]⟩,⟨gQ 28 27,true,[27],[],true,[],[],[]⟩,uM 29 7,ul 30 29,gH (gB 31 .lss 28 30)] [0,4,6,7,31] [0,4]) (.ite 31 (.dg [] [] [uM 32 7,uM 33 0,gU (gp 34 (.nc 33)) [33],uF 35 11 34,uF 36 2 35,⟨gQ 37 36,true,[36],[],true,[],[],[]⟩,uF 38 2 4,xQ 39 38 [4],⟨gi 40 1 37 39,true,[37,39],[],true,[],[],[]⟩,⟨gQ 41 40,true,[40],[],true,[],[],[]⟩,gH (gi 42 1 32 41),gH (gQ 43 42),gH (gA 6 43)] [0,4,6] [0,4]) .sk)) adW)) .sk)) adZ)),[]⟩
def ad1:AC:=(.sq (.bl 1 (.sq Zbo (rG [gM 15 5,gM 16 7,gM 17 16,hM 18 1 17 true,hM 19 6 17 true,hi 20 1 18 19 17 true,hQ 21 20 17 true,gk 22 17 21 Zaa,gz 23 (.bs 4 1 [22]),gp 24 (.ap 4 1 1 15 23),gA 5 24] Zbd []))) Zcc)
def ad2:AC:=.kp Zbd [] ad1
def ad3:AC:=(.sq Zck (.sq Zbm ad2))
def UR:bO:=⟨Zbd,[],ad3⟩
def ad4:bU:=⟨(.sq ZcF (.sq (rG [gA 5 (.c .n)] [0,1,5] []) (.sq (.sq ZbL (.bl 0 UR.lp)) Zcl))),[.t 4]⟩
def ad5:AC:=(.sq (.bl 1 (.sq Zbo (rG [gM 15 5,gM 16 7,gM 17 16,hM 18 1 17 false,hM 19 6 17 false,hi 20 1 18 19 17 false,hQ 21 20 17 false,gp 22 (.pk 17 Zac 21),gz 23 (.bs 4 1 [22]),gp 24 (.ap 4 1 1 15 23),gA 5 24] Zbd []))) Zcc)
def ad6:AC:=.kp Zbd [] ad5
def ad7:AC:=(.sq Zck (.sq Zbm ad6))
def US:bO:=⟨Zbd,[],ad7⟩
def ad8:bU:=⟨(.sq ZcF (.sq (rG [gA 5 (.c .n)] [0,1,5] []) (.sq (.sq ZbL (.bl 0 US.lp)) Zcl))),[.t 4]⟩
def ad9:bU:=⟨(.sq (rG [gp 2 Zae] [0,2] [0,2]) (.sq (.dg [] [] [uM 3 0,gU (gp 4 (.nc 3)) [3],uF 5 19 4,⟨gQ 6 5,true,[5],[],true,[],[],[]⟩,uM 7 0,gU (gp 8 (.nc 7)) [7],uF 9 19 8,⟨gQ 10 9,true,[9],[],true,[],[],[]⟩,⟨gl 11 10,true,[10],[],true,[],[],[]⟩,gU (gB 12 .sub 11 (kI 1)) [11],gH (gi 13 2 6 12),gH (gC 14 2 13),gH (gS 2 2 14)] [2] [2]) .rt)),[.c 2 (some 2)]⟩
def UT:AC:=(.sq (.sq (rG [gM 9 0,gB 10 .gtr 9 (kI 2147483647)] [0,10] []) (.ite 10 (rG [gM 11 0,gB 12 .sub 11 (kI 4294967296),gA 0 12] [0] []) .sk)) (.sq (rG [gM 13 0,gA 2 13] [2] []) .rt))
def aea:AC:=.kp [0] [] UT
def aeb:bU:=⟨(.sq Zbs (.sq (rG [gM 3 0,gB 4 .rem 3 (kI 4294967296),gA 0 4] [0] []) (.sq (.sq (rG [gM 5 0,gB 6 .lss 5 (kI 0)] [0,6] []) (.ite 6 (rG [gM 7 0,gB 8 .add 7 (kI 4294967296),gA 0 8] [0] []) .sk)) aea))),[.t 2]⟩
def aec:AC:=(.sq (.bl 1 (.sq (.dg [] [] [uM 29 5,uM 30 6,ui 31 3 29 30,uF 32 0 31,uQ 33 32,gU (gB 34 .eql 33 (kI 2)) [33],uM 35 34,Fh 36 8 2 35 true [2],mP 37 5 2 35 true,wT 38 37 35 true [2],pU 39 5 35 true,pU 40 6 35 true,X7 41 3 39 40 35 true,mP 42 1 41 35 true,X6 43 42 35 true,xhi 44 3 38 43 35 true [2],X8 45 1 44 35 true [2],X8 46 0 45 35 true [2],wT 47 46 35 true [2],gH (ha 48 201 [36,47] 35 true),gH (gk 49 35 48 Zaa)] [2,5,6,49] [2]) (.ite 49 Zaf .sk))) (rG [gM 27 6,gB 28 .add 27 (kI 1),gA 6 28] [2,5,6] [2]))
def aed:AC:=.kp [2,5,6] [2] aec
def aee:AC:=(.sq (.sq (rG [gM 23 6,gM 24 5,gl 25 24,gB 26 .lss 23 25] [2,5,6,26] [2]) (.ite 26 .sk (.ex 0))) aed)
def UU:bO:=⟨[2,5,6],[2],aee⟩
def aef:AC:=(.sq (rG [gF 20 3 3,gC 21 3 20,ga 22 50 [21],gA 5 22] [2,5] [2]) (.sq (.sq (rG [gA 6 (kI 0)] [2,5,6] [2]) (.bl 0 UU.lp)) Zad))
def aeg:AC:=.kp [2,3] [2,3] aef
def aeh:bU:=⟨(.sq Zam (.sq (.sq ZbG (.ite 9 (.sq (.dg [] [] [xC 10 8 2 [2],uF 11 5 2,xQ 12 11 [2],uF 13 1 3,xQ 14 13 [3],xi 15 3 12 14 [2],xF 16 1 15 [2],xF 17 1 16 [2],xQ 18 17 [2],gH (ga 19 201 [10,18]),gH (gA 4 19)] [4] []) .rt) .sk)) aeg)),[.t 4]⟩
def aei:AC:=(.sq (.bl 1 (.sq (.dg [] [] [uM 27 5,uM 28 6,ui 29 3 27 28,uF 30 0 29,uQ 31 30,gU (gB 32 .eql 31 (kI 2)) [31],uM 33 32,mP 34 5 2 33 true,wT 35 34 33 true [2],pU 36 5 33 true,pU 37 6 33 true,X7 38 3 36 37 33 true,mP 39 1 38 33 true,X6 40 39 33 true,gH (hi 41 3 35 40 33 true),gH (hF 42 0 41 33 true),gH (hQ 43 42 33 true),gH (hn 44 43 33 true),gH (gk 45 33 44 Zaa)] [2,5,6,45] [2]) (.ite 45 Zaf .sk))) (rG [gM 25 6,gB 26 .add 25 (kI 1),gA 6 26] [2,5,6] [2]))
def aej:AC:=.kp [2,5,6] [2] aei
def aek:AC:=(.sq (.sq (rG [gM 21 6,gM 22 5,gl 23 22,gB 24 .lss 21 23] [2,5,6,24] [2]) (.ite 24 .sk (.ex 0))) aej)
def UW:bO:=⟨[2,5,6],[2],aek⟩
def ael:AC:=(.sq (rG [gF 18 3 3,gC 19 3 18,ga 20 50 [19],gA 5 20] [2,5] [2]) (.sq (.sq (rG [gA 6 (kI 0)] [2,5,6] [2]) (.bl 0 UW.lp)) Zad))
def aem:AC:=.kp [2,3] [2,3] ael
def aen:bU:=⟨(.sq Zam (.sq (.sq ZbG (.ite 9 (.sq (rG [gF 10 5 2,gQ 11 10,gF 12 1 3,gQ 13 12,gi 14 3 11 13,gF 15 0 14,gQ 16 15,gn 17 16,gA 4 17] [4] []) .rt) .sk)) aem)),[.t 4]⟩
def aeo:bU:=⟨(.sq ZaE (.sq (.bl 0 (.sq (rG [gF 4 0 1,gQ 5 4,gB 6 .lss 5 (kI 1),gM 7 6,hF 8 0 1 7 false,hQ 9 8 7 false,hB 10 .gtr 9 (kI 6) 7 false,gp 11 (.pk 7 Zac 10),gA 3 11] [1,3] [1]) (.ite 3 ZcA (.sq (rG [gF 13 1 1,gQ 14 13,gl 15 14,gB 16 .gtr 15 (kI 20),gA 12 16] [1,12] [1]) (.ite 12 Zau (.sq (.rg [.fzB 1 true] [gF 18 1 1,gQ 19 18,gp 20 (.mf 203 [1]),gp 21 (.c2 202 [19,20]),gA 17 21] [17] []) (.ite 17 ZaH .sk))))))) ZaV)),[.t 2]⟩
def aep:bU:=⟨(.sq (rG [gA 3 Zaa] [0,1] [1]) (.sq (rG [gF 4 0 1,gC 5 2 4,gM 6 0,ga 7 132 [5,6],gn 8 7,gA 3 8] [3] []) .rt)),[.t 3]⟩
def aeq:AC:=(.sq (.bl 1 (.sq (rG [gi 13 1 9 11,gQ 14 13,gA 5 14] [0,3,5,9,10,11] []) (.sq (rG [gM 15 3,gM 16 5,gl 17 16,gB 18 .add 15 17,gA 3 18] Zch []) (.sq (rG [gM 19 3,gB 20 .lss 19 (kI 0)] [0,3,9,10,11,20] []) (.ite 20 .bad .sk))))) (rG [gB 22 .add 11 (kI 1),gM 11 22] Zch []))
def aer:AC:=.kp Zch [] aeq
def aes:AC:=(.sq (rG [gB 12 .lss 11 10] [0,3,9,10,11,12] []) (.sq ZaW aer))
def UX:bO:=⟨Zch,[],aes⟩
def aet:AC:=(.sq (.bl 3 (.sq (rG [gi 29 1 25 27,gQ 30 29,gA 8 30] [6,8,25,26,27] []) (rG [gM 31 6,gM 32 8,gp 33 (.ap 83 2 48 31 32),gA 6 33] Zct []))) (rG [gB 34 .add 27 (kI 1),gM 27 34] Zct []))
def aeu:AC:=.kp Zct [] aet
def aev:AC:=(.sq (rG [gB 28 .lss 27 26] [6,25,26,27,28] []) (.sq (.ite 28 .sk (.ex 2)) aeu))
def UY:bO:=⟨Zct,[],aev⟩
def aew:AC:=(.sq (rG [gM 23 3,gp 24 (.cr 83 204 [(.c .n),23]),gA 6 24] [0,6] []) (.sq (.sq (.rg [.own 6 83] [gM 25 0,gl 26 25,gM 27 (kI 0)] Zct []) (.bl 2 UY.lp)) (.sq (rG [gM 35 6,gA 2 35] [2,6] []) .rt)))
def aex:AC:=.kp [0,3] [] aew
def aey:bU:=⟨(.sq (rG [gA 2 (.c ZaP)] [0] []) (.sq (rG [gA 3 (kI 0)] [0,3] []) (.sq (.sq (rG [gM 9 0,gl 10 9,gM 11 (kI 0)] Zch []) (.bl 0 UX.lp)) aex))),[.t 2]⟩
def aez:AC:=(.sq (.bl 3 (.sq (rG [gi 27 2 23 25,gC 28 2 27,gp 8 (.al [Zab,ZbS]),gS 2 8 28] [2,8,14,15,16,23,24,25] [2,8]) (.sq (rG [gC 29 2 2,gC 30 2 8,ga 31 205 [29,30],gA 9 31] [2,9,14,15,16,23,24,25] [2]) (.sq (rG [gM 32 9,gB 33 .neq 32 (kI 0)] [2,9,14,15,16,23,24,25,33] [2]) (.ite 33 (.sq (rG [gM 34 9,gA 4 34] [4] []) .rt) .sk))))) (rG [gB 35 .add 25 (kI 1),gM 25 35] ZbF [2]))
def aeA:AC:=.kp ZbF [2] aez
def aeB:AC:=(.sq (rG [gB 26 .lss 25 24] [2,14,15,16,23,24,25,26] [2]) (.sq (.ite 26 .sk (.ex 2)) aeA))
def UZ:bO:=⟨ZbF,[2],aeB⟩
def aeC:AC:=(.sq (rG [gM 23 6,gl 24 23,gM 25 (kI 0)] ZbF [2]) (.bl 2 UZ.lp))
def aeD:AC:=.kp [2,6,14,15,16] [2] aeC
def aeE:AC:=(.sq (.bl 1 (.sq (rG [gi 18 1 14 16,gQ 19 18,gA 6 19] [2,6,14,15,16] [2]) (.sq (.sq (rG [gM 20 6,gl 21 20,gB 22 .gtr 21 (kI 4)] [2,6,14,15,16,22] [2]) (.ite 22 Zav .sk)) aeD))) (rG [gB 36 .add 16 (kI 1),gM 16 36] [2,14,15,16] [2]))
def aeF:AC:=.kp [2,14,15,16] [2] aeE
def aeG:AC:=(.sq (rG [gB 17 .lss 16 15] [2,14,15,16,17] [2]) (.sq (.ite 17 .sk (.ex 0)) aeF))
def U0:bO:=⟨[2,14,15,16],[2],aeG⟩
def aeH:bU:=⟨(.sq ZaO (.sq (.sq (rG [gF 10 0 3,gQ 11 10,gF 12 1 3,gQ 13 12,gz 14 (.bs 81 1 [11,13]),gl 15 14,gM 16 (kI 0)] [2,14,15,16] [2]) (.bl 0 U0.lp)) Zaq)),[.t 4]⟩
def aeI:bU:=⟨(.sq Zas (.sq (rG [gM 5 0,gM 6 1,gp 7 (.c2 206 [5,6]),gB 8 .geq 7 (kI 0),gA 4 8] [4] []) .rt)),[.t 4]⟩
def aeJ:bU:=⟨(.sq Zcy (.sq (rG [gF 3 0 1,gQ 4 3,gn 5 4,gM 6 5,hF 7 1 1 6 true,hF 8 0 7 6 true,hQ 9 8 6 true,hl 10 9 6 true,hF 11 1 1 6 true,hF 12 1 11 6 true,hQ 13 12 6 true,hl 14 13 6 true,hB 15 .add 10 14 6 true,hB 16 .gtr 15 (kI 0) 6 true,gk 17 6 16 Zaa,gA 2 17] [2] []) .rt)),[.t 2]⟩
def aeK:bU:=⟨(.sq (rG [gp 3 (.bx 0),gA 5 Zaa] [1,2] [2]) (.sq (rG [gQ 6 2,gB 7 .add 6 (kI 1),gS 1 2 7] [1,2] [2]) (.sq (rG [gQ 8 2,gB 9 .leq 8 (kI 50),gM 10 9,hM 11 1 10 true,hB 12 .leq 11 (kI 6) 10 true,gk 13 10 12 Zaa,gA 5 13] [5] []) .rt))),[.t 5]⟩
def aeL:bU:=⟨(.sq Zas (.sq (rG [gM 5 0,gM 6 1,ga 7 207 [5,6],gB 8 .geq 7 (kI 0),gA 4 8] [4] []) .rt)),[.t 4]⟩
def aeM:bU:=⟨(.sq (rG [gp 4 (.bx 0),gA 6 Zaa] [2,3,4] [2,3,4]) (.sq (rG [gQ 7 2,gC 8 9 4,gp 9 (.c3 170 [7,8]),gS 1 3 9] [3] [3]) (.sq (rG [gQ 10 3,gB 11 .eql 10 (kI 0),gA 6 11] [6] []) .rt))),[.t 6]⟩
def aeN:AC:=(.sq (.bl 2 (.sq (rG [gi 175 3 171 173,gC 176 3 175,gp 13 Zba,gS 3 13 176] [0,13,171,172,173] [0,13]) (.sq (.dg [] [] [xC 177 3 13 [13],uM 178 0,gU (gp 179 (.nc 178)) [178],uF 180 0 179,uF 181 5 180,⟨gQ 182 181,true,[181],[],true,[],[],[]⟩,⟨gl 183 182,true,[182],[],true,[],[],[]⟩,gH (ga 184 102 [177,183]),gH (gA 14 184)] [0,14,171,172,173] [0]) (.sq (rG [gM 185 14,gB 186 .neq 185 (kI 0)] [0,14,171,172,173,186] [0]) (.ite 186 (.sq (rG [gM 187 14,gA 4 187] [4] []) .rt) .sk))))) (rG [gB 188 .add 173 (kI 1),gM 173 188] Zcr [0]))
def aeO:AC:=.kp Zcr [0] aeN
def Kg:AC:=(.sq (rG [gB 174 .lss 173 172] [0,171,172,173,174] [0]) (.sq (.ite 174 .sk (.ex 1)) aeO))
def U1:bO:=⟨Zcr,[0],Kg⟩
def aeP:AC:=(.sq (.sq (rG [gF 170 6 3,gQ 171 170,gl 172 171,gM 173 (kI 0)] Zcr [0]) (.bl 1 U1.lp)) Zaq)
def U2:AC:=.kp [0,3] [0,3] aeP
def aeQ:AC:=(.sq (.sq (rG [gM 157 8] [0,3,157] [0,3]) (.ite 157 (.sq (.dg [] [] [uF 158 3 3,xC 159 3 158 [3],uM 160 0,gU (gp 161 (.nc 160)) [160],uF 162 0 161,uF 163 5 162,⟨gQ 164 163,true,[163],[],true,[],[],[]⟩,⟨gl 165 164,true,[164],[],true,[],[],[]⟩,gH (ga 166 102 [159,165]),gH (gA 11 166)] [0,3,11] [0,3]) (.sq (rG [gM 167 11,gB 168 .neq 167 (kI 0)] [0,3,11,168] [0,3]) (.ite 168 (.sq (rG [gM 169 11,gA 4 169] [4] []) .rt) .sk))) .sk)) U2)
def aeR:AC:=.kp [0,3,8] [0,3] aeQ
def aeS:AC:=(.sq (rG [gM 24 5,ga 25 208 [24],gM 23 25,ge 26 23 0,ge 27 23 1,ge 28 23 2,gA 6 26,gA 7 27,gA 8 28] [0,3,5,6,7,8] [0,3]) (.sq (rG [gM 29 5,gB 30 .geq 29 (kI 7),gA 9 30] [0,3,5,6,7,8,9] [0,3]) (.sq (rG [gF 31 3 3,gF 32 0 31,gQ 33 32,gB 34 .eql 33 (kI 0),gM 35 34,hF 36 3 3 35 true,hF 37 1 36 35 true,hQ 38 37 35 true,hB 39 .eql 38 (kI 0) 35 true,gk 40 35 39 Zaa,gM 41 40,hF 42 3 3 41 true,hF 43 2 42 41 true,hQ 44 43 41 true,hl 45 44 41 true,hB 46 .eql 45 (kI 0) 41 true,gk 47 41 46 Zaa,gA 10 47] [0,3,5,6,7,8,9,10] [0,3]) (.sq (.bl 0 (.sq (.dg [] [] [uM 49 6,uM 50 49,mP 51 1 3 50 true,wT 52 51 50 true [3],gU (hB 53 .lss 52 (kI 0) 50 true) [52],pU 54 53 50 true,mP 55 1 3 54 false,wT 56 55 54 false [3],pU 57 0 54 false,gU (gg 58 (.nc 57) 54 false) [57],mP 59 0 58 54 false,mP 60 5 59 54 false,⟨hQ 61 60 54 false,true,[60],[],true,[],[],[]⟩,⟨hl 62 61 54 false,true,[61],[],true,[],[],[]⟩,gU (hB 63 .geq 56 62 54 false) [56,62],gU (gg 64 (.pk 54 Zac 63) 50 true) [54,63],gU (gk 65 50 64 Zaa) [50,64],uM 66 65,pU 67 7 66 false,pU 68 67 66 false,mP 69 2 3 68 true,wT 70 69 68 true [3],gU (hB 71 .lss 70 (kI 0) 68 true) [70],pU 72 71 68 true,mP 73 2 3 72 false,wT 74 73 72 false [3],pU 75 0 72 false,pU 76 5 72 false,⟨gg 77 (.c3 209 [75,76]) 72 false,true,[75,76],[],true,[],[],[]⟩,gH (hB 78 .geq 74 77 72 false),gH (gg 79 (.pk 72 Zac 78) 68 true),gH (hk 80 68 79 Zaa 66 false),gH (gp 81 (.pk 66 Zac 80)),gH (gA 48 81)] [0,3,5,6,7,8,9,10,48] [0,3]) (.ite 48 Zap (.sq (rG [gM 83 6,gn 84 83,gM 85 84,hF 86 1 3 85 true,hQ 87 86 85 true,hB 88 .neq 87 (kI 0) 85 true,gk 89 85 88 Zaa,gM 90 89,hM 91 7 90 false,hn 92 91 90 false,hM 93 92 90 false,hF 94 2 3 93 true,hQ 95 94 93 true,hB 96 .neq 95 (kI 0) 93 true,hk 97 93 96 Zaa 90 false,gp 98 (.pk 90 Zac 97),gM 99 98,hM 100 8 99 false,hn 101 100 99 false,hM 102 101 99 false,hM 103 10 102 true,hn 104 103 102 true,hk 105 102 104 Zaa 99 false,gp 106 (.pk 99 Zac 105),gM 107 106,hM 108 5 107 false,hB 109 .neq 108 (kI 2) 107 false,hM 110 109 107 false,hF 111 6 3 110 true,hQ 112 111 110 true,hl 113 112 110 true,hB 114 .gtr 113 (kI 0) 110 true,hk 115 110 114 Zaa 107 false,gp 116 (.pk 107 Zac 115),gM 117 116,hM 118 9 117 false,hn 119 118 117 false,hM 120 119 117 false,hF 121 7 3 120 true,hQ 122 121 120 true,hl 123 122 120 true,hB 124 .gtr 123 (kI 0) 120 true,hk 125 120 124 Zaa 117 false,gp 126 (.pk 117 Zac 125),gM 127 126,hM 128 5 127 false,hB 129 .neq 128 (kI 7) 127 false,hM 130 129 127 false,hF 131 8 3 130 true,hQ 132 131 130 true,hl 133 132 130 true,hB 134 .gtr 133 (kI 0) 130 true,hk 135 130 134 Zaa 127 false,gp 136 (.pk 127 Zac 135),gA 82 136] [0,3,5,8,82] [0,3]) (.ite 82 ZaI (.sq (.dg [] [] [uM 138 5,gU (gB 139 .eql 138 (kI 2)) [138],uM 140 139,mP 141 6 3 140 true,wT 142 141 140 true [3],xhl 143 142 140 true [3],pU 144 0 140 true,gU (gg 145 (.nc 144) 140 true) [144],mP 146 0 145 140 true,mP 147 6 146 140 true,⟨hQ 148 147 140 true,true,[147],[],true,[],[],[]⟩,mP 149 2 3 140 true,wT 150 149 140 true [3],⟨hi 151 5 148 150 140 true,true,[148,150],[],true,[],[],[]⟩,⟨hF 152 0 151 140 true,true,[151],[],true,[],[],[]⟩,⟨hQ 153 152 140 true,true,[152],[],true,[],[],[]⟩,uhl 154 153 140 true,gH (hB 155 .neq 143 154 140 true),gH (gk 156 140 155 Zaa),gH (gA 137 156)] [0,3,8,137] [0,3]) (.ite 137 ZaI .sk))))))) aeR))))
def aeT:AC:=.kp [0,3,5] [0,3] aeS
def WO:bU:=⟨(.sq Zcb (.sq (rG [gF 15 0 3,gQ 16 15,gA 5 16] [0,3,5] [0,3]) (.sq (.sq (rG [gM 17 5,gB 18 .lss 17 (kI 1),gM 19 18,hM 20 5 19 false,hB 21 .gtr 20 (kI 8) 19 false,gp 22 (.pk 19 Zac 21)] [0,3,5,22] [0,3]) (.ite 22 Zbw .sk)) aeT))),[.t 4]⟩
def aeU:bU:=⟨(.sq ZaB (.sq (rG [gC 7 2 2,ga 8 113 [7],gp 5 (.al [(.l 32 [])]),gS 1 5 8] ZaM ZaM) (.sq (.rg [.fzB 2 true,.fzB 5 false] [gp 9 (.mf 210 [2,5]),gA 6 9] [3,4,6] ZaM) (.sq (.dg [] [] [uM 10 6,uF 11 0 3,xQ 12 11 [3],gX (gp 13 (.cf 0 10 [12])) [10,12] [3],uM 14 6,uF 15 1 3,xQ 16 15 [3],gH (gp 17 (.d2 14 [16])),gH (gp 18 (.bd Zbn [(0,1,13),(1,1,17)])),gH (gS 2 4 18)] [4] [4]) .rt)))),[.c 4 (some 2)]⟩
def aeV:bU:=⟨(.sq Zam (.sq (rG [gF 5 0 3,gQ 6 5,gF 7 0 2,gQ 8 7,ga 9 215 [6,8],gM 10 9,hF 11 1 2 10 true,hQ 12 11 10 true,hF 13 1 3 10 true,hQ 14 13 10 true,ha 15 215 [12,14] 10 true,gk 16 10 15 Zaa,gA 4 16] [4] []) .rt)),[.t 4]⟩
def WQ:bU:=⟨(.sq (rG [gp 3 (.bx 0),gp 4 (.bx 1),gp 5 (.bx 2),gp 6 Zae] [3,4,5,6] [3,4,5,6]) (.sq (rG [gF 9 0 3,gC 10 2 9,ga 11 66 [10],gp 7 Zae,gS 2 7 11] [4,5,6,7] [4,5,6,7]) (.sq (.sq (rG [gC 12 3 5,ga 13 218 [12]] [4,6,7,13] [4,6,7]) (.bl 0 (.ru 13 14 (rG [gA 8 14] [4,6,7,8] [4,6,7]) (.bl 1 (.dg [] [] [⟨gC 15 2 7,true,[7],[],true,[],[],[]⟩,⟨gQ 16 4,true,[4],[],true,[],[],[]⟩,uM 17 8,⟨gi 18 2 16 17,true,[16,17],[],true,[],[],[]⟩,⟨gC 19 2 18,true,[18],[],true,[],[],[]⟩,gH (ga 20 115 [15,19]),gH (gS 2 7 20)] [4,6,7] [4,6,7]))))) (.sq (rG [gC 21 2 7,gS 2 6 21] [6] [6]) .rt)))),[.c 6 (some 2)]⟩
def aeW:AC:=(.sq (.bl 3 (.sq (rG [gM 29 7,gF 30 1 3,gQ 31 30,gM 32 9,gi 33 2 31 32,gF 34 0 33,gQ 35 34,gi 36 1 29 35,gQ 37 36] [2,3,7,8,9,37] [3]) (.ite 37 (rG [gM 38 7,gF 39 1 3,gQ 40 39,gM 41 9,gi 42 2 40 41,gF 43 1 42,gQ 44 43,gi 45 1 38 44,gS 1 45 Zac] ZcK [3]) .sk))) (rG [gM 27 9,gB 28 .add 27 (kI 1),gA 9 28] ZcK [3]))
def aeX:AC:=.kp ZcK [3] aeW
def aeY:AC:=(.sq (.sq (rG [gM 22 9,gF 23 1 3,gQ 24 23,gl 25 24,gB 26 .lss 22 25] [2,3,7,8,9,26] [3]) (.ite 26 .sk (.ex 2))) aeX)
def U3:bO:=⟨ZcK,[3],aeY⟩
def aeZ:AC:=(.sq (.bl 1 (.sq (rG [gA 9 (kI 0)] ZcK [3]) (.bl 2 U3.lp))) (rG [gM 20 8,gB 21 .add 20 (kI 1),gA 8 21] [2,3,7,8] [3]))
def ae0:AC:=.kp [2,3,7,8] [3] aeZ
def ae1:AC:=(.sq (.sq (rG [gM 16 8,gF 17 0 3,gQ 18 17,gB 19 .lss 16 18] [2,3,7,8,19] [3]) (.ite 19 .sk (.ex 0))) ae0)
def U4:bO:=⟨[2,3,7,8],[3],ae1⟩
def ae2:AC:=(.sq (rG [gM 46 7,gM 47 2,gi 48 1 46 47,gQ 49 48,gA 6 49] [6] []) .rt)
def ae3:AC:=.kp [2,7] [] ae2
def ae4:bU:=⟨(.sq Zbf (.sq (rG [gF 10 0 3,gQ 11 10,gp 12 (.ms 4 1 1 (.b false) 11),gA 7 12] ZbA [3]) (.sq (rG [gM 13 7,gM 14 1,gi 15 1 13 14,gS 1 15 Zac] [2,3,7] [3]) (.sq (.sq (rG [gA 8 (kI 0)] [2,3,7,8] [3]) (.bl 0 U4.lp)) ae3)))),[.t 6]⟩
def U5:AC:=(.sq (.bl 0 (.sq (rG [gF 18 2 2,gQ 19 18,gl 20 19,gM 21 5,gB 22 .neq 20 21,gA 17 22] [1,2,5,17] [2]) (.ite 17 ZaI (.sq (rG [gF 24 0 2,gQ 25 24,gB 26 .eql 25 (kI 1),gM 27 26,hF 28 1 2 27 true,hQ 29 28 27 true,gg 30 (.bo .lss false 29 (kI (-9999999))) 27 true,hM 31 30 27 true,hF 32 1 2 31 false,hQ 33 32 31 false,hB 34 .gtr 33 (kI 9999999) 31 false,gg 35 (.pk 31 Zac 34) 27 true,gk 36 27 35 Zaa,gM 37 36,hM 38 5 37 false,hB 39 .gtr 38 (kI 0) 37 false,hM 40 39 37 false,hF 41 1 2 40 true,hQ 42 41 40 true,hB 43 .neq 42 (kI 0) 40 true,hk 44 40 43 Zaa 37 false,gp 45 (.pk 37 Zac 44),gA 23 45] [1,2,23] [2]) (.ite 23 ZcB (.sq (rG [gF 47 0 2,gQ 48 47,gB 49 .eql 48 (kI 2),gM 50 49,hF 51 1 2 50 true,hQ 52 51 50 true,hB 53 .lss 52 (kI 0) 50 true,hM 54 53 50 true,hF 55 1 2 54 false,hQ 56 55 54 false,hM 57 1 54 false,hB 58 .geq 56 57 54 false,gg 59 (.pk 54 Zac 58) 50 true,gk 60 50 59 Zaa,gA 46 60] [46] []) (.ite 46 Zap .sk))))))) Zaq)
def ae5:AC:=.kp [1,2,5] [2] U5
def ae6:AC:=(.sq ZaN (.sq (.sq (rG [gF 14 0 2,gQ 15 14,gB 16 .gtr 15 (kI 2)] [1,2,5,16] [2]) (.ite 16 (rG [gA 5 (kI 2)] [1,2,5] [2]) .sk)) ae5))
def ae7:AC:=.kp [1,2] [2] ae6
def ae8:bU:=⟨(.sq Zag (.sq (.sq (rG [gF 6 0 2,gQ 7 6,gB 8 .lss 7 (kI 1),gM 9 8,hF 10 0 2 9 false,hQ 11 10 9 false,hB 12 .gtr 11 (kI 7) 9 false,gp 13 (.pk 9 Zac 12)] [1,2,13] [2]) (.ite 13 Zbw .sk)) ae7)),[.t 4]⟩
def ae9:AC:=(.sq (.bl 1 (.sq (rG [gM 26 24,gi 27 3 22 24,gC 28 3 27,gp 8 Zba,gA 7 26,gS 3 8 28] [0,5,6,7,8,22,23,24] [0,8]) (.sq (rG [gM 29 6,gM 30 0,gC 31 3 8,gp 32 (.c3 193 [30,31]),gz 33 (.bs 113 2 [32]),gp 34 (.ap 113 2 48 29 33),gA 6 34] [0,5,6,7,22,23,24] [0]) (.sq (.dg [] [] [uM 35 0,uM 36 5,uM 37 7,ui 38 1 36 37,uQ 39 38,uM 40 6,uM 41 7,gU (gi 42 2 40 41) [40,41,6],gU (gC 43 2 42) [42,6],gH (gp 44 (.c3 224 [35,39,43])),gH (gn 45 44)] [0,5,6,22,23,24,45] [0]) (.ite 45 Zad .sk))))) (rG [gB 46 .add 24 (kI 1),gM 24 46] Zcm [0]))
def afa:AC:=.kp Zcm [0] ae9
def afb:AC:=(.sq (rG [gB 25 .lss 24 23] [0,5,6,22,23,24,25] [0]) (.sq (.ite 25 .sk (.ex 0)) afa))
def U6:bO:=⟨Zcm,[0],afb⟩
def afc:AC:=(.sq (.bl 3 (.sq (rG [gM 51 49,gi 52 1 47 49,gQ 53 52,gA 9 51,gA 10 53] [0,6,9,10,47,48,49] [0]) (.dg [] [] [uM 54 0,gU (gp 55 (.nc 54)) [54],uF 56 9 55,⟨gQ 57 56,true,[56],[],true,[],[],[]⟩,uM 58 10,uM 59 6,uM 60 9,gU (gi 61 2 59 60) [59,60,6],gU (gC 62 2 61) [61,6],gH (gi 63 2 57 58),gH (gS 2 63 62)] ZbW [0]))) (rG [gB 64 .add 49 (kI 1),gM 49 64] ZbW [0]))
def afd:AC:=.kp ZbW [0] afc
def afe:AC:=(.sq (rG [gB 50 .lss 49 48] [0,6,47,48,49,50] [0]) (.sq (.ite 50 .sk (.ex 2)) afd))
def U7:bO:=⟨ZbW,[0],afe⟩
def aff:AC:=(.sq (.sq (rG [gM 47 5,gl 48 47,gM 49 (kI 0)] ZbW [0]) (.bl 2 U7.lp)) Zaf)
def afg:AC:=.kp [0,5,6] [0] aff
def afh:bU:=⟨(.sq Zaw (.sq (.dg [] [] [uM 11 0,gU (gp 12 (.nc 11)) [11],uF 13 1 12,uF 14 6 13,⟨gQ 15 14,true,[14],[],true,[],[],[]⟩,uF 16 2 3,xQ 17 16 [3],gH (gi 18 5 15 17),gH (gF 19 0 18),gH (gQ 20 19),gH (gA 5 20)] [0,3,5] [0,3]) (.sq (rG [gA 6 (.c .n)] Zbx [0,3]) (.sq (.sq (.rg [.own 6 113] [gF 21 6 3,gQ 22 21,gl 23 22,gM 24 (kI 0)] Zcm [0]) (.bl 0 U6.lp)) afg)))),[.t 4]⟩
def afi:AC:=(.sq (.bl 1 (.sq (rG [gi 14 3 10 12,gC 15 3 14,gp 6 Zba,gS 3 6 15] [0,3,4,6,10,11,12] [0,3,6]) (.dg [] [24] [vM 16 4 [24],yC 17 3 6 [6] [24],vM 18 0 [24],gL (gp 19 (.nc 18)) [18] [24],vF 20 11 19 [24],vF 21 1 20 [24],⟨gQ 22 21,true,[21],[],true,[],[24],[]⟩,⟨ga 23 106 [17,22],true,[17,22],[],true,[],[24],[]⟩,gU (gz 24 (.bs 3 1 [23])) [23],gH (gp 25 (.ap 3 1 8 16 24)),gH (gA 4 25)] ZbH [0,3]))) (rG [gB 26 .add 12 (kI 1),gM 12 26] ZbH [0,3]))
def afj:AC:=.kp ZbH [0,3] afi
def afk:AC:=(.sq (rG [gB 13 .lss 12 11] [0,3,4,10,11,12,13] [0,3]) (.sq Zcp afj))
def U8:bO:=⟨ZbH,[0,3],afk⟩
def afl:AC:=(.sq (.bl 3 (.sq (rG [gM 40 38,gi 41 1 36 38,gQ 42 41,gA 7 40,gA 8 42] [0,4,7,8,36,37,38] [0]) (.dg [] [] [uM 43 0,gU (gp 44 (.nc 43)) [43],uF 45 11 44,uF 46 1 45,⟨gQ 47 46,true,[46],[],true,[],[],[]⟩,uM 48 8,uM 49 4,uM 50 7,gU (gi 51 1 49 50) [49,50,4],gU (gQ 52 51) [51,4],gH (gi 53 1 47 48),gH (gS 1 53 52)] ZbX [0]))) (rG [gB 54 .add 38 (kI 1),gM 38 54] ZbX [0]))
def afm:AC:=.kp ZbX [0] afl
def afn:AC:=(.sq (rG [gB 39 .lss 38 37] [0,4,36,37,38,39] [0]) (.sq (.ite 39 .sk (.ex 2)) afm))
def U9:bO:=⟨ZbX,[0],afn⟩
def afo:AC:=(.sq (.dg [] [] [uM 27 0,gU (gp 28 (.nc 27)) [27],uF 29 0 28,uF 30 6 29,⟨gQ 31 30,true,[30],[],true,[],[],[]⟩,uF 32 2 3,xQ 33 32 [3],⟨gi 34 5 31 33,true,[31,33],[],true,[],[],[]⟩,⟨gF 35 0 34,true,[34],[],true,[],[],[]⟩,⟨gQ 36 35,true,[35],[],true,[],[],[]⟩,ul 37 36,gU (gM 38 (kI 0)) []] ZbX [0]) (.bl 2 U9.lp))
def afp:AC:=.kp [0,3,4] [0,3] afo
def afq:bU:=⟨(.sq ZaG (.sq (rG [gA 4 (.c .n)] [0,3,4] [0,3]) (.sq (.sq (.rg [.own 4 3] [gF 9 6 3,gQ 10 9,gl 11 10,gM 12 (kI 0)] ZbH [0,3]) (.bl 0 U8.lp)) afp))),[]⟩
def afr:AC:=(.sq (.dg [] [] [uM 12 0,gU (gp 13 (.nc 12)) [12],uF 14 9 13,⟨gQ 15 14,true,[14],[],true,[],[],[]⟩,uM 16 1,xC 17 2 5 [5],gH (gi 18 2 15 16),gH (gS 2 18 17)] [] []) Zaz)
def afs:AC:=.kp [0,1,5] [0,5] afr
def aft:bU:=⟨(.sq Zbc (.sq (.sq (rG [gM 7 0,gM 8 1,gC 9 2 5,gp 10 (.c3 224 [7,8,9]),gn 11 10] [0,1,5,11] [0,5]) (.ite 11 Zat .sk)) afs)),[.t 6]⟩
def afu:bU:=⟨(.sq Zca (.sq (.dg [] [] [uM 5 0,⟨gp 6 (.c3 198 [5]),true,[5],[],true,[],[],[]⟩,uM 7 0,gU (gp 8 (.nc 7)) [7],uF 9 1 8,⟨gC 10 8 9,true,[9],[],true,[],[],[]⟩,uM 11 0,gU (gp 12 (.nc 11)) [11],uF 13 9 12,⟨gQ 14 13,true,[13],[],true,[],[],[]⟩,xC 15 3 3 [3],gH (ga 16 177 [10,14,15]),gH (ga 17 115 [6,16]),gH (gS 2 4 17)] [4] [4]) .rt)),[.c 4 (some 2)]⟩
def afv:bU:=⟨(.sq ZaG (.dg [] [] [uM 4 0,gU (gp 5 (.nc 4)) [4],uF 6 11 5,uF 7 1 6,⟨gQ 8 7,true,[7],[],true,[],[],[]⟩,uF 9 1 3,xQ 10 9 [3],uM 11 0,gU (gp 12 (.nc 11)) [11],uF 13 0 12,uF 14 6 13,⟨gQ 15 14,true,[14],[],true,[],[],[]⟩,uF 16 2 3,xQ 17 16 [3],⟨gi 18 5 15 17,true,[15,17],[],true,[],[],[]⟩,⟨gF 19 2 18,true,[18],[],true,[],[],[]⟩,⟨gC 20 3 19,true,[19],[],true,[],[],[]⟩,uM 21 0,gU (gp 22 (.nc 21)) [21],uF 23 11 22,uF 24 1 23,⟨gQ 25 24,true,[24],[],true,[],[],[]⟩,⟨ga 26 106 [20,25],true,[20,25],[],true,[],[],[]⟩,gH (gi 27 1 8 10),gH (gS 1 27 26)] [] [])),[]⟩
def afw:bU:=⟨(.sq ZaG (.dg [] [12,13] [vM 4 0 [12,13],vM 5 0 [12,13],gL (gp 6 (.nc 5)) [5] [12,13],vF 7 10 6 [12,13],⟨gQ 8 7,true,[7],[],true,[],[12,13],[]⟩,vM 9 0 [12,13],yC 10 3 3 [3] [12,13],⟨gp 11 (.c3 193 [9,10]),true,[9,10],[],true,[],[12,13],[]⟩,gL (gz 12 (.bs 113 2 [11])) [11] [13],⟨gp 13 (.ap 113 2 48 8 12),true,[8,12],[],true,[8,8],[],[]⟩,gH (gp 14 (.nc 4)),gH (gF 15 10 14),gH (gS 1 15 13)] [] [])),[]⟩
def afx:AC:=(.sq (.dg [] [] [uF 16 8 4,xQ 17 16 [4],uM 18 2,gU (gB 19 .add 18 (kI 1)) [18],uF 20 7 4,xQ 21 20 [4],gX (ga 22 89 [21]) [21] [4],gU (gB 23 .add 19 22) [19,22],gU (gA 6 17) [17],gH (gA 7 23)] [6,7] []) .rt)
def afy:AC:=.kp [2,4] [4] afx
def afz:bU:=⟨(.sq (rG [gp 4 (.bx 1),gA 6 (.c Zah),gA 7 (kI 0)] [0,2,4] [0,4]) (.sq (.sq (rG [gM 8 0,gF 9 3 4,gC 10 3 9,gp 11 (.c3 197 [8,10])] [2,4,11] [4]) (.ite 11 (.sq (rG [gF 12 7 4,gQ 13 12,gM 14 2,gB 15 .add 14 (kI 1),gA 6 13,gA 7 15] [6,7] []) .rt) .sk)) afy)),[.t 6,.t 7]⟩
def afA:bU:=⟨(.sq Zaw (.sq (.dg [] [] [xC 5 3 3 [3],uM 6 0,gU (gp 7 (.nc 6)) [6],uF 8 11 7,uF 9 1 8,⟨gQ 10 9,true,[9],[],true,[],[],[]⟩,gH (ga 11 106 [5,10]),gH (gB 12 .neq 11 (kI 0)),gH (gA 4 12)] [4] []) .rt)),[.t 4]⟩
def afB:bU:=⟨(.sq (rG [gp 2 Zae] [0,2] [0,2]) (.sq (.dg [] [] [uM 3 0,gU (gp 4 (.nc 3)) [3],uF 5 10 4,⟨gQ 6 5,true,[5],[],true,[],[],[]⟩,uM 7 0,gU (gp 8 (.nc 7)) [7],uF 9 10 8,⟨gQ 10 9,true,[9],[],true,[],[],[]⟩,⟨gl 11 10,true,[10],[],true,[],[],[]⟩,gU (gB 12 .sub 11 (kI 1)) [11],gH (gi 13 2 6 12),gH (gC 14 2 13),gH (gS 2 2 14)] [2] [2]) .rt)),[.c 2 (some 2)]⟩
def Va:AC:=(.sq (rG [gM 57 0,gF 58 1 3,gQ 59 58,gC 60 2 6,gp 61 (.c2 192 [57,59,60]),gA 4 61] [4] []) .rt)
def afC:AC:=.kp [0,3,6] [0,3,6] Va
def afD:AC:=(.sq (.dg [] [6,7] [vM 36 0 [6,7],gL (gp 37 (.nc 36)) [36] [6,7],vF 38 1 37 [6,7],vF 39 0 38 [6,7],⟨gC 40 2 39,true,[39],[],true,[],[6,7],[]⟩,vF 41 1 5 [6,7],yC 42 2 41 [5] [6,7],gL (ga 43 171 [40,42]) [40,42] [6,7],vM 44 0 [6,7],vF 45 3 3 [6,7],yC 46 3 45 [3] [6,7],⟨gp 47 (.c3 193 [44,46]),true,[44,46],[],true,[],[6,7],[]⟩,gL (gp 6 Zae) [] [7],gL (gp 7 Zae) [] [6],gH (gS 2 6 43),gH (gS 2 7 47)] Zcd Zcd) (.sq (.sq (rG [gF 48 0 3,gQ 49 48,gB 50 .eql 49 (kI 5)] [0,3,6,7,50] Zcd) (.ite 50 (rG [gF 51 1 7,gQ 52 51,gF 53 1 6,gS 1 53 52] [0,3,6] [0,3,6]) (rG [gF 54 0 7,gQ 55 54,gF 56 0 6,gS 1 56 55] [0,3,6] [0,3,6]))) afC))
def afE:AC:=.kp [0,3,5] [0,3,5] afD
def afF:bU:=⟨(.sq Zaw (.sq (.dg [] [5] [vM 8 0 [5],gL (gp 9 (.nc 8)) [8] [5],vF 10 1 9 [5],vF 11 5 10 [5],⟨gQ 12 11,true,[11],[],true,[],[5],[]⟩,vF 13 1 3 [5],yQ 14 13 [3] [5],⟨gi 15 3 12 14,true,[12,14],[],true,[],[5],[]⟩,⟨gC 16 3 15,true,[15],[],true,[],[5],[]⟩,gU (gp 5 (.al ZaA)) [],gH (gS 3 5 16)] [0,3,5] [0,3,5]) (.sq (.sq (.dg [] [] [uF 17 0 5,xQ 18 17 [5],un 19 18,uM 20 19,pU 21 0 20 false,gU (gg 22 (.nc 21) 20 false) [21],mP 23 11 22 20 false,⟨hQ 24 23 20 false,true,[23],[],true,[],[],[]⟩,Fh 25 9 3 20 false [3],gH (gg 26 (.c2 219 [24,25]) 20 false),gU (gp 27 (.pk 20 Zac 26)) [20,26],uM 28 27,pU 29 0 28 false,gU (gg 30 (.nc 29) 28 false) [29],mP 31 11 30 28 false,⟨hQ 32 31 28 false,true,[31],[],true,[],[],[]⟩,Fh 33 9 3 28 false [3],gH (gg 34 (.c2 220 [32,33]) 28 false),gH (gp 35 (.pk 28 Zac 34))] [0,3,5,35] [0,3,5]) (.ite 35 Zad .sk)) afE))),[.t 4]⟩
def afG:bU:=⟨(rG [gM 10 0,gM 11 0,gp 12 (.nc 11),gF 13 11 12,gF 14 0 13,gQ 15 14,gM 16 1,gM 17 2,gM 18 3,gM 19 4,gp 20 (.bd [Zab,Zab,Zab,Zab] [(0,1,16),(1,1,17),(2,1,18),(3,1,19)]),gz 21 (.bs 128 4 [20]),gp 22 (.ap 128 4 32 15 21),gp 23 (.nc 10),gF 24 11 23,gF 25 0 24,gS 1 25 22] [] []),[]⟩
def afH:AC:=(.sq (.bl 1 (.sq (.dg [] [] [xC 12 8 2 [2],uM 13 1,uM 14 5,ui 15 2 13 14,uF 16 0 15,uQ 17 16,gH (ga 18 225 [12,17]),gH (gn 19 18)] [1,2,5,19] [2]) (.ite 19 Zaf .sk))) (rG [gM 10 5,gB 11 .add 10 (kI 1),gA 5 11] [1,2,5] [2]))
def afI:AC:=.kp [1,2,5] [2] afH
def afJ:AC:=(.sq (.sq (rG [gM 6 5,gM 7 1,gl 8 7,gB 9 .lss 6 8] [1,2,5,9] [2]) ZaK) afI)
def Vb:bO:=⟨[1,2,5],[2],afJ⟩
def afK:bU:=⟨(.sq ZaQ (.sq (.sq ZaN (.bl 0 Vb.lp)) Zad)),[.t 4]⟩
def afL:bU:=⟨(.sq Zas (.sq (rG [gM 5 0,gM 6 1,gp 7 (.c2 226 [5,6]),gB 8 .geq 7 (kI 0),gA 4 8] [4] []) .rt)),[.t 4]⟩
def afM:bU:=⟨(.sq Zco (.sq (rG [gC 4 2 1,gF 5 0 2,gQ 6 5,ga 7 132 [4,6],gn 8 7,gM 9 8,hC 10 2 1 9 false,hF 11 1 2 9 false,hQ 12 11 9 false,ha 13 132 [10,12] 9 false,hn 14 13 9 false,gp 15 (.pk 9 Zac 14),gA 3 15] [3] []) .rt)),[.t 3]⟩
def afN:AC:=(.sq (.bl 2 (.sq (.dg [] [] [uF 29 1 3,xQ 30 29 [3],uM 31 5,xi 32 1 30 31 [3],xQ 33 32 [3],uF 34 1 3,xQ 35 34 [3],uM 36 5,gU (gB 37 .sub 36 (kI 1)) [36],xi 38 1 35 37 [3],xQ 39 38 [3],gH (gB 40 .leq 33 39)] [3,5,40] [3]) (.ite 40 ZcD .sk))) (rG [gM 27 5,gB 28 .add 27 (kI 1),gA 5 28] [3,5] [3]))
def afO:AC:=.kp [3,5] [3] afN
def afP:AC:=(.sq (.sq (rG [gM 22 5,gF 23 1 3,gQ 24 23,gl 25 24,gB 26 .lss 22 25] [3,5,26] [3]) (.ite 26 .sk (.ex 1))) afO)
def Vc:bO:=⟨[3,5],[3],afP⟩
def afQ:AC:=(.sq (.sq (rG [gA 5 (kI 1)] [3,5] [3]) (.bl 1 Vc.lp)) Zaq)
def afR:AC:=.kp [3] [3] afQ
def afS:bU:=⟨(.sq ZaO (.sq (.bl 0 (.sq (rG [gC 7 2 2,gF 8 0 3,gQ 9 8,ga 10 132 [7,9],gn 11 10,gA 6 11] [2,3,6] [2,3]) (.ite 6 Zap (.sq (rG [gF 13 1 3,gQ 14 13,gl 15 14,gB 16 .gtr 15 (kI 6),gA 12 16] [2,3,12] [2,3]) (.ite 12 Zav (.sq (.rg [.fzB 2 true] [gF 18 1 3,gQ 19 18,gp 20 (.mf 227 [2]),gp 21 (.c2 103 [19,20]),gA 17 21] [3,17] [3]) (.ite 17 Zap .sk))))))) afR)),[.t 4]⟩
def afT:AC:=(.sq (.bl 1 (.sq Zcv (.sq (rG [gM 11 1,gM 12 0,gM 13 5,gi 14 3 12 13,gC 15 3 14,gp 16 (.d2 11 [15])] [0,1,5,7,8,16] []) ZbK))) Zcn)
def afU:AC:=.kp Zbj [] afT
def afV:AC:=(.sq ZaC (.sq ZaK afU))
def afW:bO:=⟨Zbj,[],afV⟩
def afX:bU:=⟨(.sq ZaF (.sq (.sq Zar (.bl 0 afW.lp)) Zay)),[.t 4]⟩
def afY:AC:=(.sq (.bl 1 (.sq Zcv (.sq (rG [gM 11 1,gM 12 0,gM 13 5,gi 14 1 12 13,gQ 15 14,gB 16 .eql 11 15] [0,1,5,7,8,16] []) ZbK))) Zcn)
def afZ:AC:=.kp Zbj [] afY
def af0:AC:=(.sq ZaC (.sq ZaK afZ))
def Vd:bO:=⟨Zbj,[],af0⟩
def af1:bU:=⟨(.sq ZaF (.sq (.sq Zar (.bl 0 Vd.lp)) Zay)),[.t 4]⟩
def af2:bU:=⟨(.sq (rG [gA 2 Zaa,gA 3 Zaa,gA 4 Zaa] [0] []) (.sq (rG [gM 7 0,gB 8 .neq 7 (kI 4),gM 9 8,hM 10 0 9 true,hB 11 .lss 10 (kI 7) 9 true,gk 12 9 11 Zaa,gA 5 12] [0,5] []) (.sq (rG [gM 13 0,gB 14 .geq 13 (kI 2),gM 15 14,hM 16 0 15 true,hB 17 .leq 16 (kI 4) 15 true,gk 18 15 17 Zaa,gA 6 18] [0,5,6] []) (.sq (rG [gM 19 5,gM 20 6,gM 21 0,gB 22 .neq 21 (kI 2),gM 23 22,hM 24 0 23 true,hB 25 .neq 24 (kI 3) 23 true,gk 26 23 25 Zaa,gA 2 19,gA 3 20,gA 4 26] [2,3,4] []) .rt)))),[.t 2,.t 3,.t 4]⟩
def af3:AC:=(.sq (rG [gM 20 0,gp 21 (.nc 20),gF 22 0 21,gF 23 4 22,gQ 24 23,gl 25 24,gA 4 25] [4] []) .rt)
def af4:AC:=.kp [0] [0] af3
def WR:bU:=⟨(.sq (rG [gA 4 (kI 0)] [0,1] [0]) (.sq (.sq (rG [gM 5 1] [0,5] [0]) (.bl 0 (.sq (rG [gB 7 .eql 5 (kI 2),gA 6 7] [0,5,6] [0]) (.ite 6 (.sq (rG [gM 8 0,gp 9 (.nc 8),gF 10 8 9,gQ 11 10,gA 4 11] [4] []) .rt) (.sq (rG [gB 13 .eql 5 (kI 3),gA 12 13] [0,12] [0]) (.ite 12 (.sq (rG [gM 14 0,gp 15 (.nc 14),gF 16 0 15,gF 17 3 16,gQ 18 17,gl 19 18,gA 4 19] [4] []) .rt) .sk)))))) af4)),[.t 4]⟩
def af5:AC:=(.sq (.bl 1 (.sq (rG [gM 12 10,gp 6 (.al [Zab]),gS 1 6 12] [0,2,5,6,9,10] [2,6]) (.sq (.rg [.fzB 6 false] [gp 13 (.mf 211 [2,6]),gA 7 13] [0,2,5,7,9,10] [2,6]) (rG [gM 14 5,gM 15 0,gM 16 7,gp 17 (.c2 213 [15,16]),gn 18 17,gz 19 (.bs 4 1 [18]),gp 20 (.ap 4 1 1 14 19),gA 5 20] Zcu [2])))) (rG [gB 21 .add 10 (kI 1),gM 10 21] Zcu [2]))
def af6:AC:=.kp Zcu [2] af5
def af7:AC:=(.sq (rG [gB 11 .lss 10 9] [0,2,5,9,10,11] [2]) (.sq Zbm af6))
def Ve:bO:=⟨Zcu,[2],af7⟩
def af8:bU:=⟨(.sq (rG [gA 4 (.c (.l 4 []))] [0,1,2] [1,2]) (.sq (rG [gA 5 (.c .n)] [0,1,2,5] [1,2]) (.sq (.sq (.rg [.own 5 4] [gF 8 0 1,gQ 9 8,gM 10 (kI 0)] Zcu [2]) (.bl 0 Ve.lp)) (.sq (rG [gM 22 5,gA 4 22] [4,5] []) .rt)))),[.t 4]⟩
def af9:bU:=⟨(.sq (rG [gp 3 (.bx 0),gA 4 Zaa] [1,2,3] [1,2,3]) (.sq (.dg [] [] [⟨gQ 5 1,true,[1],[],true,[],[],[]⟩,⟨gQ 6 2,true,[2],[],true,[],[],[]⟩,⟨gi 7 1 5 6,true,[5,6],[],true,[],[],[]⟩,⟨gQ 8 7,true,[7],[],true,[],[],[]⟩,uF 9 0 3,xQ 10 9 [3],ui 11 1 8 10,uQ 12 11,un 13 12,uM 14 13,mP 15 1 3 14 true,wT 16 15 14 true [3],gU (gg 17 (.mf 212 [1,2]) 14 true) [1,2],gH (gg 18 (.c2 103 [16,17]) 14 true),gH (hn 19 18 14 true),gH (gk 20 14 19 Zaa),gH (gA 4 20)] [4] []) .rt)),[.t 4]⟩
def aga:bU:=⟨(.sq (rG [gA 4 Zaa] [0,1,2] [1,2]) (.sq (rG [gQ 5 1,gQ 6 2,gi 7 1 5 6,gQ 8 7,gM 9 0,gi 10 1 8 9,gQ 11 10,gA 4 11] [4] []) .rt)),[.t 4]⟩
def agb:bU:=⟨(.sq Zas (.sq (rG [gM 5 0,gM 6 1,gp 7 (.c2 228 [5,6]),gB 8 .geq 7 (kI 0),gA 4 8] [4] []) .rt)),[.t 4]⟩
def agc:AC:=(.sq (.bl 1 (.sq (rG [gM 11 9,gi 12 1 7 9,gQ 13 12,gA 5 11,gA 6 13] [1,5,6,7,8,9] []) (.sq (rG [gM 14 6,gM 15 14,hM 16 1 15 true,hM 17 5 15 true,hi 18 1 16 17 15 true,hQ 19 18 15 true,hn 20 19 15 true,gk 21 15 20 Zaa] [1,7,8,9,21] []) (.ite 21 Zad .sk)))) (rG [gB 22 .add 9 (kI 1),gM 9 22] [1,7,8,9] []))
def agd:AC:=.kp [1,7,8,9] [] agc
def age:AC:=(.sq (rG [gB 10 .lss 9 8] [1,7,8,9,10] []) (.sq ZbE agd))
def Vf:bO:=⟨[1,7,8,9],[],age⟩
def agf:bU:=⟨(.sq Zas (.sq (.sq (rG [gM 7 0,gl 8 7,gM 9 (kI 0)] [1,7,8,9] []) (.bl 0 Vf.lp)) Zaf)),[.t 4]⟩
def anM:bU:=⟨(.sq (rG [gp 1 (.bx 0),gA 2 (.c .nf)] [1] [1]) (.sq (.rg [.fzB 1 true] [gp 3 (.mf 230 [1]),gA 2 3] [2] [1]) .rt)),[.t 2]⟩
def agh:AC:=(.sq (.sq (rG [gF 23 3 3,gC 24 3 23,ga 25 218 [24]] [2,4,25] [0,2,4]) (.bl 0 (.ru 25 26 (rG [gA 5 26] [2,4,5] [0,2,4]) (.bl 1 (.sq (.dg [] [] [⟨gQ 27 2,true,[2],[],true,[],[],[]⟩,⟨gQ 28 2,true,[2],[],true,[],[],[]⟩,gU (gp 29 (.nc 28)) [28],uF 30 0 29,uF 31 5 30,⟨gQ 32 31,true,[31],[],true,[],[],[]⟩,uM 33 5,ui 34 3 32 33,uF 35 1 34,uF 36 0 35,uQ 37 36,gH (gp 38 (.c2 232 [27,37])),gH (gn 39 38)] [2,4,39] [0,2,4]) (.ite 39 ZcG .sk)))))) ZcH)
def agi:AC:=.kp [2,3,4] [0,2,3,4] agh
def WS:bU:=⟨(.sq Zbk (.sq (.sq Zbz (.ite 8 (.sq (.dg [] [] [⟨gQ 9 2,true,[2],[2],true,[],[],[]⟩,⟨gQ 10 2,true,[2],[2],true,[],[],[]⟩,gU (gp 11 (.nc 10)) [10],uF 12 0 11,uF 13 5 12,⟨gQ 14 13,true,[13],[],true,[],[],[]⟩,uF 15 1 3,xQ 16 15 [3],ui 17 3 14 16,uF 18 1 17,uF 19 1 18,uQ 20 19,gH (gp 21 (.c2 232 [9,20])),gH (gn 22 21),gH (gS 1 4 22)] [4] [4]) .rt) .sk)) agi)),[.c 4 none]⟩
def agj:AC:=(.sq (.sq (rG [gF 20 3 3,gC 21 3 20,ga 22 218 [21]] [2,4,22] [0,2,4]) (.bl 0 (.ru 22 23 (rG [gA 5 23] [2,4,5] [0,2,4]) (.bl 1 (.sq (rG [gQ 24 2,gp 25 (.nc 24),gF 26 0 25,gF 27 5 26,gQ 28 27,gM 29 5,gi 30 3 28 29,gF 31 0 30,gQ 32 31,gn 33 32] [2,4,33] [0,2,4]) (.ite 33 ZcG .sk)))))) ZcH)
def agk:AC:=.kp [2,3,4] [0,2,3,4] agj
def WT:bU:=⟨(.sq Zbk (.sq (.sq Zbz (.ite 8 (.sq (.dg [] [] [⟨gQ 9 2,true,[2],[2],true,[],[],[]⟩,gU (gp 10 (.nc 9)) [9],uF 11 0 10,uF 12 5 11,⟨gQ 13 12,true,[12],[],true,[],[],[]⟩,uF 14 1 3,xQ 15 14 [3],gH (gi 16 3 13 15),gH (gF 17 0 16),gH (gQ 18 17),gH (gn 19 18),gH (gS 1 4 19)] [4] [4]) .rt) .sk)) agk)),[.c 4 none]⟩
def agl:AC:=(.sq (rG [gM 19 0,gp 20 (.nc 19),gF 21 1 20,gF 22 5 21,gQ 23 22,gM 24 1,gi 25 3 23 24,gC 26 3 25,gp 7 (.al ZaA),gS 3 7 26] [0,5,7] [0,5,7]) (.sq (.dg [] [] [uF 27 0 7,xQ 28 27 [7],un 29 28,uM 30 29,Fh 31 2 5 30 false [5],pU 32 0 30 false,gU (gg 33 (.nc 32) 30 false) [32],mP 34 1 33 30 false,mP 35 0 34 30 false,⟨hC 36 2 35 30 false,true,[35],[],true,[],[],[]⟩,mP 37 1 7 30 false,Fh 38 2 37 30 false [7],gU (ha 39 171 [36,38] 30 false) [36,38],gH (ha 40 174 [31,39] 30 false),gH (gp 41 (.pk 30 Zac 40)),gH (gA 6 41)] [6] []) .rt))
def agm:AC:=.kp [0,1,5] [0,5] agl
def agn:bU:=⟨(.sq Zbc (.sq (.sq (.dg [] [] [uM 8 0,⟨gp 9 (.c3 198 [8]),true,[8],[],true,[],[],[]⟩,uM 10 0,gU (gp 11 (.nc 10)) [10],uF 12 9 11,⟨gQ 13 12,true,[12],[],true,[],[],[]⟩,uM 14 1,⟨gi 15 2 13 14,true,[13,14],[],true,[],[],[]⟩,⟨gC 16 2 15,true,[15],[],true,[],[],[]⟩,gH (ga 17 174 [9,16]),gH (gn 18 17)] [0,1,5,18] [0,5]) (.ite 18 Zat .sk)) agm)),[.t 6]⟩
def ago:AC:=(.sq (.bl 1 (.sq (.dg [] [] [uF 13 0 2,xC 14 2 13 [2],uF 15 2 2,xQ 16 15 [2],uM 17 5,xi 18 1 16 17 [2],xQ 19 18 [2],uM 20 1,gH (ga 21 184 [14,19,20])] [1,2,5,21] [2]) (.ite 21 Zaf .sk))) (rG [gM 11 5,gB 12 .add 11 (kI 1),gA 5 12] [1,2,5] [2]))
def agp:AC:=.kp [1,2,5] [2] ago
def agq:AC:=(.sq (.sq (rG [gM 6 5,gF 7 2 2,gQ 8 7,gl 9 8,gB 10 .lss 6 9] [1,2,5,10] [2]) ZbE) agp)
def Vg:bO:=⟨[1,2,5],[2],agq⟩
def agr:bU:=⟨(.sq ZaQ (.sq (.sq ZaN (.bl 0 Vg.lp)) Zad)),[.t 4]⟩
def ags:AC:=Zak
def agt:AC:=.kp Zbj [] ags
def agu:AC:=(.sq ZaC (.sq ZaK agt))
def agv:bO:=⟨Zbj,[],agu⟩
def agw:bU:=⟨(.sq ZaF (.sq (.sq Zar (.bl 0 agv.lp)) Zay)),[.t 4]⟩
def agx:bU:=⟨(.sq (rG [gA 3 Zaa] [0,1] [1]) (.sq (rG [gC 4 2 1,gM 5 0,ga 6 132 [4,5],gn 7 6,gA 3 7] [3] []) .rt)),[.t 3]⟩
def agy:AC:=Zak
def agz:AC:=.kp Zbj [] agy
def agA:AC:=(.sq ZaC (.sq ZaK agz))
def Vh:bO:=⟨Zbj,[],agA⟩
def agB:bU:=⟨(.sq ZaF (.sq (.sq Zar (.bl 0 Vh.lp)) Zay)),[.t 4]⟩
def agC:bU:=⟨(.sq (rG [gp 2 (.bx 0),gA 4 Zaa] [1,2] [0,2]) (.sq (rG [gM 5 1,gp 6 (.mf 235 [2]),gp 7 (.c2 213 [5,6]),gn 8 7,gA 4 8] [4] []) .rt)),[.t 4]⟩
def agD:bU:=⟨(.sq Zco (.sq (rG [gQ 4 1,gF 5 0 2,gQ 6 5,gp 7 (.c2 236 [4,6]),gn 8 7,gA 3 8] [3] []) .rt)),[.t 3]⟩
def agE:bU:=⟨(.sq (rG [gp 2 (.bx 0),gp 3 (.bx 1),gA 4 Zaa] [2,3] [0,2,3]) (.sq (.rg [.fzB 3 false] [gQ 5 2,gp 6 (.nc 5),gF 7 0 6,gF 8 2 7,gQ 9 8,gp 10 (.mf 238 [2,3]),gp 11 (.c2 103 [9,10]),gA 4 11] [4] []) .rt)),[.t 4]⟩
def agF:bU:=⟨(.sq (rG [gA 4 Zaa] [0,1,2] [1,2]) (.sq (.dg [] [] [⟨gQ 5 1,true,[1],[],true,[],[],[]⟩,gU (gp 6 (.nc 5)) [5],uF 7 8 6,⟨gQ 8 7,true,[7],[],true,[],[],[]⟩,uM 9 0,ui 10 1 8 9,uQ 11 10,⟨gQ 12 2,true,[2],[],true,[],[],[]⟩,gH (gi 13 1 11 12),gH (gQ 14 13),gH (gA 4 14)] [4] []) .rt)),[.t 4]⟩
abbrev Ω0:ej:=fun f ys=>match f with
 | 230=>Dz ys
 | 112=>xK 4 ys
 | 75=>Eu 79 3 83 155 86 91 111 89 ys
 | 204=>sX 83 ys
 | _=>none
def G:sd:=fun
 | 5=>some c5
 | 10=>some c10
 | 14=>some c14
 | 17=>some c17
 | 20=>some c20
 | 21=>some c21
 | 22=>some c22
 | 23=>some c23
 | 24=>some c24
 | 25=>some c25
 | 29=>some c29
 | 40=>some c40
 | 41=>some c41
 | 42=>some c42
 | 43=>some c43
 | 44=>some c44
 | 45=>some c45
 | 50=>some c50
 | 52=>some c52
 | 53=>some c53
 | 54=>some c54
 | 56=>some c56
 | 62=>some c62
 | 63=>some c63
 | 64=>some c64
 | 66=>some c66
 | 67=>some c67
 | 68=>some c68
 | 69=>some c69
 | 70=>some c70
 | 71=>some c71
 | 72=>some c72
 | 73=>some c73
 | 74=>some c74
 | 76=>some c76
 | 77=>some c77
 | 79=>some c79
 | 82=>some c82
 | 89=>some c89
 | 92=>some c92
 | 93=>some c93
 | 94=>some c94
 | 95=>some c95
 | 97=>some Y1
 | 98=>some c98
 | 102=>some abg
 | 103=>some abh
 | 105=>some abi
 | 106=>some abm
 | 107=>some abn
 | 108=>some abo
 | 109=>some abp
 | 110=>some abq
 | 113=>some abF
 | 114=>some abI
 | 115=>some abJ
 | 116=>some abK
 | 117=>some abL
 | 118=>some abM
 | 119=>some abR
 | 120=>some ab2
 | 121=>some ab5
 | 122=>some acg
 | 123=>some acz
 | 124=>some acF
 | 125=>some acT
 | 126=>some acU
 | 132=>some acV
 | 134=>some acZ
 | 135=>some ac0
 | 139=>some ac9
 | 141=>some WN
 | 142=>some adj
 | 143=>some adp
 | 144=>some adt
 | 145=>some adu
 | 146=>some adz
 | 149=>some adC
 | 150=>some adJ
 | 151=>some adR
 | 152=>some adU
 | 153=>some adV
 | 154=>some ad0
 | 155=>some ad4
 | 156=>some ad8
 | 157=>some ad9
 | 158=>some aeb
 | 159=>some aeh
 | 160=>some aen
 | 161=>some aeo
 | 162=>some aep
 | 163=>some aey
 | 164=>some aeH
 | 165=>some aeI
 | 166=>some aeJ
 | 167=>some aeK
 | 168=>some aeL
 | 169=>some aeM
 | 170=>some WO
 | 171=>some aeU
 | 174=>some aeV
 | 177=>some WQ
 | 184=>some ae4
 | 185=>some ae8
 | 190=>some afh
 | 191=>some afq
 | 192=>some aft
 | 193=>some afu
 | 194=>some afv
 | 195=>some afw
 | 196=>some afz
 | 197=>some afA
 | 198=>some afB
 | 199=>some afF
 | 200=>some afG
 | 201=>some afK
 | 202=>some afL
 | 203=>some afM
 | 205=>some afS
 | 206=>some afX
 | 207=>some af1
 | 208=>some af2
 | 209=>some WR
 | 210=>some af8
 | 211=>some af9
 | 212=>some aga
 | 213=>some agb
 | 215=>some agf
 | 218=>some anM
 | 219=>some WS
 | 220=>some WT
 | 224=>some agn
 | 225=>some agr
 | 226=>some agw
 | 227=>some agx
 | 228=>some agB
 | 232=>some agC
 | 235=>some agD
 | 236=>some agE
 | 238=>some agF
 | _=>none
theorem G5:G 5=some c5:=rfl
theorem G10:G 10=some c10:=rfl
theorem G14:G 14=some c14:=rfl
theorem G17:G 17=some c17:=rfl
theorem G20:G 20=some c20:=rfl
theorem G21:G 21=some c21:=rfl
theorem G22:G 22=some c22:=rfl
theorem G24:G 24=some c24:=rfl
theorem G25:G 25=some c25:=rfl
theorem G29:G 29=some c29:=rfl
theorem G40:G 40=some c40:=rfl
theorem G41:G 41=some c41:=rfl
theorem G42:G 42=some c42:=rfl
theorem G43:G 43=some c43:=rfl
theorem G44:G 44=some c44:=rfl
theorem G45:G 45=some c45:=rfl
theorem G50:G 50=some c50:=rfl
theorem G52:G 52=some c52:=rfl
theorem G53:G 53=some c53:=rfl
theorem G54:G 54=some c54:=rfl
theorem G62:G 62=some c62:=rfl
theorem G63:G 63=some c63:=rfl
theorem G64:G 64=some c64:=rfl
theorem G66:G 66=some c66:=rfl
theorem G67:G 67=some c67:=rfl
theorem G68:G 68=some c68:=rfl
theorem G69:G 69=some c69:=rfl
theorem G70:G 70=some c70:=rfl
theorem G71:G 71=some c71:=rfl
theorem G72:G 72=some c72:=rfl
theorem G73:G 73=some c73:=rfl
theorem G74:G 74=some c74:=rfl
theorem G76:G 76=some c76:=rfl
theorem G77:G 77=some c77:=rfl
theorem G79:G 79=some c79:=rfl
theorem G82:G 82=some c82:=rfl
theorem G89:G 89=some c89:=rfl
theorem G92:G 92=some c92:=rfl
theorem G93:G 93=some c93:=rfl
theorem G94:G 94=some c94:=rfl
theorem G95:G 95=some c95:=rfl
theorem G97:G 97=some Y1:=rfl
theorem G98:G 98=some c98:=rfl
theorem anN:G 102=some abg:=rfl
theorem OY:G 103=some abh:=rfl
theorem anO:G 105=some abi:=rfl
theorem anP:G 106=some abm:=rfl
theorem agG:G 107=some abn:=rfl
theorem anQ:G 108=some abo:=rfl
theorem anR:G 109=some abp:=rfl
theorem anS:G 110=some abq:=rfl
theorem anT:G 113=some abF:=rfl
theorem anU:G 114=some abI:=rfl
theorem anV:G 115=some abJ:=rfl
theorem anW:G 116=some abK:=rfl
theorem anX:G 117=some abL:=rfl
theorem anY:G 118=some abM:=rfl
theorem anZ:G 119=some abR:=rfl
theorem an0:G 120=some ab2:=rfl
theorem an1:G 121=some ab5:=rfl
theorem an2:G 122=some acg:=rfl
theorem an3:G 123=some acz:=rfl
theorem an4:G 124=some acF:=rfl
theorem an5:G 125=some acT:=rfl
theorem an6:G 126=some acU:=rfl
theorem an7:G 132=some acV:=rfl
theorem WU:G 134=some acZ:=rfl
theorem an8:G 135=some ac0:=rfl
theorem an9:G 139=some ac9:=rfl
theorem aoa:G 141=some WN:=rfl
theorem aob:G 142=some adj:=rfl
theorem aoc:G 143=some adp:=rfl
theorem OZ:G 144=some adt:=rfl
theorem aod:G 145=some adu:=rfl
theorem agH:G 146=some adz:=rfl
theorem aoe:G 149=some adC:=rfl
theorem aof:G 150=some adJ:=rfl
theorem aog:G 151=some adR:=rfl
theorem aoh:G 152=some adU:=rfl
theorem aoi:G 153=some adV:=rfl
theorem aoj:G 154=some ad0:=rfl
theorem aok:G 155=some ad4:=rfl
theorem aol:G 156=some ad8:=rfl
theorem aom:G 157=some ad9:=rfl
theorem aon:G 158=some aeb:=rfl
theorem aoo:G 159=some aeh:=rfl
theorem aop:G 160=some aen:=rfl
theorem aoq:G 161=some aeo:=rfl
theorem aor:G 162=some aep:=rfl
theorem aos:G 163=some aey:=rfl
theorem aot:G 164=some aeH:=rfl
theorem aou:G 165=some aeI:=rfl
theorem aov:G 166=some aeJ:=rfl
theorem aow:G 167=some aeK:=rfl
theorem aox:G 168=some aeL:=rfl
theorem aoy:G 169=some aeM:=rfl
theorem aoz:G 170=some WO:=rfl
theorem aoA:G 171=some aeU:=rfl
theorem aoB:G 174=some aeV:=rfl
theorem aoC:G 177=some WQ:=rfl
theorem aoD:G 184=some ae4:=rfl
theorem aoE:G 185=some ae8:=rfl
theorem aoF:G 190=some afh:=rfl
theorem aoG:G 191=some afq:=rfl
theorem aoH:G 192=some aft:=rfl
theorem aoI:G 193=some afu:=rfl
theorem aoJ:G 194=some afv:=rfl
theorem aoK:G 195=some afw:=rfl
theorem aoL:G 196=some afz:=rfl
theorem aoM:G 197=some afA:=rfl
theorem aoN:G 198=some afB:=rfl
theorem aoO:G 199=some afF:=rfl
theorem aoP:G 200=some afG:=rfl
theorem aoQ:G 201=some afK:=rfl
theorem aoR:G 202=some afL:=rfl
theorem aoS:G 203=some afM:=rfl
theorem aoT:G 205=some afS:=rfl
theorem aoU:G 206=some afX:=rfl
theorem aoV:G 207=some af1:=rfl
theorem aoW:G 208=some af2:=rfl
theorem aoX:G 209=some WR:=rfl
theorem aoY:G 210=some af8:=rfl
theorem aoZ:G 211=some af9:=rfl
theorem ao0:G 212=some aga:=rfl
theorem agI:G 213=some agb:=rfl
theorem ao1:G 215=some agf:=rfl
theorem ao2:G 219=some WS:=rfl
theorem ao3:G 220=some WT:=rfl
theorem ao4:G 224=some agn:=rfl
theorem ao5:G 225=some agr:=rfl
theorem ao6:G 226=some agw:=rfl
theorem ao7:G 227=some agx:=rfl
theorem agJ:G 228=some agB:=rfl
theorem ao8:G 232=some agC:=rfl
theorem ao9:G 235=some agD:=rfl
theorem apa:G 236=some agE:=rfl
theorem apb:G 238=some agF:=rfl
end Go.Proofs.YtlmphbbhaeampaaGreat.A
