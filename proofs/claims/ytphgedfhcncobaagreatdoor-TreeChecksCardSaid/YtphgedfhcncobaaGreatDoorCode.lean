/- The abstract code of the functions, made by program. -/
import Derived.Test.YtphgedfhcncobaaGreatDoorAbsO
set_option maxRecDepth 100000
set_option linter.unusedSectionVars false
set_option linter.unusedVariables false
set_option linter.unusedSimpArgs false
set_option linter.constructorNameAsVariable false
namespace Go.Proofs.YtphgedfhcncobaaGreatDoor.A
open Go
abbrev gp(d:Nat)(x:jx):bU:=⟨some d,x,none,false⟩
abbrev gg(d:Nat)(x:jx)(j:Nat)(b:Bool):bU:=⟨some d,x,some (j,b),false⟩
abbrev gz(d:Nat)(x:jx):bU:=⟨some d,x,none,true⟩
abbrev gS(n:Nat)(x y:aC):bU:=⟨none,.st n x y,none,false⟩
abbrev gM(d:Nat)(x:aC):bU:=gp d (.mv x)
abbrev gQ(d:Nat)(x:aC):bU:=gp d (.ld none x)
abbrev gF(d n:Nat)(x:aC):bU:=gp d (.fa n x)
abbrev gA(d:Nat)(x:aC):bU:=gp d (.as x)
abbrev gB(d:Nat)(o:BinOp)(x y:aC):bU:=gp d (.bo o false x y)
abbrev gL(g:bU)(vw nk:List Nat):bh:=⟨g,true,vw,[],false,[],nk,[]⟩
abbrev gV(g:bU)(vw vb nk:List Nat):bh:=⟨g,true,vw,vb,false,[],nk,[]⟩
abbrev gH(g:bU):bh:=⟨g,false,[],[],false,[],[],[]⟩
instance (n:Nat):OfNat aC n:=⟨.t n⟩
abbrev kI(n:Int):aC:=.c (.i .i64 n)
def c3:bb:=⟨(.sq (.rg [] [gp 1 (.bx 0),gA 2 (.c (.b false))] [1] [1]) (.sq (.dg [] [] [gL (gp 3 (.ca 0 4 [])) [] [],gL (gM 4 3) [3] [],gV (gg 5 (.ld (some 2) 1) 4 true) [1] [1] [],gL (gg 6 (.ca 0 5 [5]) 4 true) [5] [],gV (gg 7 (.ld (some 2) 1) 4 true) [1] [1] [],gH (gg 8 (.ca 0 6 [7]) 4 true),gH (gg 9 (.bo .eql false 6 8) 4 true),gH (gp 10 (.pk 4 9 (.c (.b false)))),gH (gA 2 10)] [2] []) .rt)),[.t 2]⟩
def c4:bb:=⟨(.sq (.rg [] [gA 0 (.c (.b false))] [] []) (.sq (.rg [] [gp 5 (.ca 0 7 [(.c (.s [97,99,116,111,114,32,97,59,10,111,117,116,32,99,32,123,97,58,32,97,125,59,10,109,97,105,110,32,123,10,32,32,112,117,116,32,99,32,40,49,32,43,32,50,41,59,10,125,10]))]),gM 4 5,gp 6 (.ex 4 0),gp 7 (.ex 4 1),gp 8 (.ex 4 2),gp 1 (.al [(.l 41 []),(.l 36 [])]),gS 2 1 6,gA 2 7,gA 3 8] [1,3] [1]) (.sq (.rg [] [gM 9 3,gB 10 .eql 9 (kI 0),gM 11 10,gg 12 (.fa 0 1) 11 true,gg 13 (.ld none 12) 11 true,gg 14 (.ln false 13) 11 true,gg 15 (.bo .eql false 14 (kI 2)) 11 true,gp 16 (.pk 11 15 (.c (.b false))),gM 17 16,gg 18 (.fa 1 1) 17 true,gg 19 (.ld none 18) 17 true,gg 20 (.ln false 19) 17 true,gg 21 (.bo .eql false 20 (kI 1)) 17 true,gp 22 (.pk 17 21 (.c (.b false))),gM 23 22,gg 24 (.fa 1 1) 23 true,gg 25 (.ld none 24) 23 true,gg 26 (.ia 12 none 25 (kI 0)) 23 true,gg 27 (.fa 0 26) 23 true,gg 28 (.ld none 27) 23 true,gg 29 (.bo .eql false 28 (kI 4)) 23 true,gp 30 (.pk 23 29 (.c (.b false))),gM 31 30,gg 32 (.fa 1 1) 31 true,gg 33 (.ld none 32) 31 true,gg 34 (.ia 12 none 33 (kI 0)) 31 true,gg 35 (.fa 3 34) 31 true,gg 36 (.ld none 35) 31 true,gg 37 (.bo .eql false 36 (.c (.s [99]))) 31 true,gp 38 (.pk 31 37 (.c (.b false))),gM 39 38,gg 40 (.ld (some 2) 1) 39 true,gg 41 (.ca 0 5 [40]) 39 true,gg 42 (.bo .eql false 41 (kI 0)) 39 true,gp 43 (.pk 39 42 (.c (.b false))),gA 0 43] [0] []) .rt))),[.t 0]⟩
def c5:bb:=⟨(.sq (.rg [] [gp 1 (.bx 0),gA 2 (kI 0)] [1] [1]) (.sq (.bl 0 (.sq (.rg [] [gp 4 (.ld (some 2) 1),gp 5 (.ca 0 8 [4]),gA 3 5] [1,3] [1]) (.ite 3 (.sq (.rg [] [gA 2 (kI 2)] [2] []) .rt) (.sq (.rg [] [gF 7 0 1,gQ 8 7,gp 9 (.c2 9 [8,(.c (.f 10 []))]),gM 10 9,gg 11 (.fa 1 1) 10 false,gg 12 (.ld none 11) 10 false,gg 13 (.ca 0 12 [12]) 10 false,gg 14 (.no 13) 10 false,gp 15 (.pk 10 (.c (.b true)) 14),gA 6 15] [6] []) (.ite 6 (.sq (.rg [] [gA 2 (kI 1)] [2] []) .rt) .sk))))) (.sq (.rg [] [gA 2 (kI 0)] [2] []) .rt))),[.t 2]⟩
def PK:AC:=(.sq (.bl 1 (.sq (.rg [] [gF 13 0 1,gQ 14 13,gM 15 3,gp 16 (.ia 13 none 14 15),gp 17 (.ld (some 13) 16),gp 18 (.ca 0 14 [17]),gp 19 (.no 18)] [1,3,19] [1]) (.ite 19 (.sq (.rg [] [gA 2 (kI 1)] [2] []) .rt) .sk))) (.rg [] [gM 11 3,gB 12 .add 11 (kI 1),gA 3 12] [1,3] [1]))
def PL:AC:=.kp [1,3] [1] PK
def PM:AC:=(.sq (.sq (.rg [] [gM 6 3,gF 7 0 1,gQ 8 7,gp 9 (.ln false 8),gB 10 .lss 6 9] [1,3,10] [1]) (.ite 10 .sk (.ex 0))) PL)
def HB:bC:=⟨[1,3],[1],PM⟩
def PN:AC:=(.sq (.sq (.rg [] [gF 20 1 1,gQ 21 20,gp 22 (.ca 0 15 [21]),gp 23 (.no 22)] [23] []) (.ite 23 (.sq (.rg [] [gA 2 (kI 1)] [2] []) .rt) .sk)) (.sq (.rg [] [gA 2 (kI 0)] [2] []) .rt))
def PO:AC:=.kp [1] [1] PN
def PQ:AC:=(.sq (.sq (.rg [] [gA 3 (kI 0)] [1,3] [1]) (.bl 0 HB.lp)) PO)
def PR:AC:=.kp [1] [1] PQ
def c6:bb:=⟨(.sq (.rg [] [gp 1 (.bx 0),gA 2 (kI 0)] [1] [1]) (.sq (.sq (.rg [] [gp 4 (.ld (some 2) 1),gp 5 (.ca 0 13 [4])] [1,5] [1]) (.ite 5 (.sq (.rg [] [gA 2 (kI 2)] [2] []) .rt) .sk)) PR)),[.t 2]⟩
def PS:AC:=(.sq (.rg [] [gp 39 (.ld (some 2) 8),gS 2 2 39,gA 3 (kI 0),gA 4 (kI 0)] [2,3,4] [2]) .rt)
def PT:AC:=.kp [2,8] [2,8] PS
def PU:AC:=(.sq (.sq (.rg [] [gM 34 7,gB 35 .neq 34 (kI 0)] [2,6,7,8,35] [2,8]) (.ite 35 (.sq (.rg [] [gp 36 (.bd [.n,(.l 36 [])] []),gM 37 6,gM 38 7,gS 2 2 36,gA 3 37,gA 4 38] [2,3,4] [2]) .rt) .sk)) PT)
def PV:AC:=.kp [2,6,7,8] [2,8] PU
def PW:AC:=(.sq (.rg [] [gM 21 5,gM 22 0,gp 23 (.ln true 22),gp 24 (.bd [(.l 75 []),(.i .i64 0),(.i .i64 0)] [(0,1,21),(2,1,23)]),gp 25 (.bx 24),gp 26 (.vi 41 17 [25]),gM 20 26,gp 27 (.ex 20 0),gp 28 (.ex 20 1),gp 29 (.ex 20 2),gp 8 (.al [(.l 41 []),(.l 36 [])]),gS 2 8 27,gA 6 28,gA 7 29] [2,6,7,8] [2,8]) (.sq (.sq (.rg [] [gM 30 7,gB 31 .eql 30 (kI 0)] [2,6,7,8,31] [2,8]) (.ite 31 (.rg [] [gp 32 (.ld (some 2) 8),gp 33 (.ca 0 5 [32]),gA 7 33] [2,6,7,8] [2,8]) .sk)) PV))
def PX:AC:=.kp [0,2,5] [2] PW
def c7:bb:=⟨(.sq (.rg [] [gp 2 (.al [(.l 41 []),(.l 36 [])]),gA 3 (kI 0),gA 4 (kI 0)] [0,2] [2]) (.sq (.rg [] [gM 10 0,gp 11 (.ca 0 16 [10]),gM 9 11,gp 12 (.ex 9 0),gp 13 (.ex 9 1),gp 14 (.ex 9 2),gA 5 12,gA 6 13,gA 7 14] [0,2,5,6,7] [2]) (.sq (.sq (.rg [] [gM 15 7,gB 16 .neq 15 (kI 0)] [0,2,5,6,7,16] [2]) (.ite 16 (.sq (.rg [] [gp 17 (.bd [.n,(.l 36 [])] []),gM 18 6,gM 19 7,gS 2 2 17,gA 3 18,gA 4 19] [2,3,4] [2]) .rt) .sk)) PX))),[.c 2 (some 2),.t 3,.t 4]⟩
def PY:AC:=(.sq (.bl 1 (.sq (.rg [] [gp 17 (.ia 13 none 13 15),gp 18 (.ld (some 13) 17),gp 5 (.al [(.i .i64 0),(.i .i64 0),(.s []),(.s []),(.b false),(.l 56 []),(.l 9 []),(.l 36 []),(.i .i64 0),(.i .i64 0),(.i .i64 0),(.s []),(.l 34 [])]),gS 13 5 18] [1,3,5,13,14,15] [1,5,11]) (.sq (.rg [] [gF 19 5 5,gQ 20 19,gp 21 (.ln false 20),gB 22 .gtr 21 (kI 4),gM 23 22,gg 24 (.fa 5 5) 23 false,gg 25 (.ld none 24) 23 false,gg 26 (.c2 18 [25,(.c (.f 19 []))]) 23 false,gp 27 (.pk 23 (.c (.b true)) 26),gM 28 27,gg 29 (.fa 6 5) 28 false,gg 30 (.ld none 29) 28 false,gg 31 (.ln false 30) 28 false,gg 32 (.bo .gtr false 31 (kI 4)) 28 false,gp 33 (.pk 28 (.c (.b true)) 32),gM 34 33,gg 35 (.fa 8 5) 34 false,gg 36 (.ld (some 5) 35) 34 false,gg 37 (.ca 0 20 [36,(kI 15)]) 34 false,gg 38 (.bo .gtr false 37 (kI 15)) 34 false,gp 39 (.pk 34 (.c (.b true)) 38),gM 40 39,gg 41 (.mv 3) 40 false,gg 42 (.fa 7 5) 40 false,gg 43 (.ld none 42) 40 false,gg 44 (.c2 21 [41,43,(kI 1)]) 40 false,gp 45 (.pk 40 (.c (.b true)) 44)] [1,3,13,14,15,45] [1,11]) (.ite 45 (.sq (.rg [] [gA 2 (.c (.b true))] [2] []) .rt) .sk)))) (.rg [] [gB 46 .add 15 (kI 1),gM 15 46] [1,3,13,14,15] [1,11]))
def PZ:AC:=.kp [1,3,13,14,15] [1,11] PY
def P0:AC:=(.sq (.rg [] [gB 16 .lss 15 14] [1,3,13,14,15,16] [1,11]) (.sq (.ite 16 .sk (.ex 0)) PZ))
def HC:bC:=⟨[1,3,13,14,15],[1,11],P0⟩
def P1:AC:=(.sq (.rg [] [gM 47 3,gF 48 1 1,gQ 49 48,gp 50 (.c2 21 [47,49,(kI 1)]),gA 2 50] [2] []) .rt)
def P2:AC:=.kp [1,3] [1,11] P1
def P3:AC:=(.sq (.rg [] [gp 10 (.bd [(.i .i64 0)] []),gp 11 (.bx 10),gA 3 11] [1,3] [1,11]) (.sq (.sq (.rg [] [gF 12 0 1,gQ 13 12,gp 14 (.ln false 13),gM 15 (kI 0)] [1,3,13,14,15] [1,11]) (.bl 0 HC.lp)) P2))
def P4:AC:=.kp [1] [1] P3
def c8:bb:=⟨(.sq (.rg [] [gp 1 (.bx 0),gA 2 (.c (.b false))] [1] [1]) (.sq (.sq (.rg [] [gF 6 0 1,gQ 7 6,gp 8 (.ln false 7),gB 9 .gtr 8 (kI 30)] [1,9] [1]) (.ite 9 (.sq (.rg [] [gA 2 (.c (.b true))] [2] []) .rt) .sk)) P4)),[.t 2]⟩
def c9:bb:=⟨(.sq (.rg [] [gA 4 (.c (.b false))] [0,1] []) (.sq (.rg [] [gM 5 0,gM 6 1,gp 7 (.c2 22 [5,6]),gB 8 .geq 7 (kI 0),gA 4 8] [4] []) .rt)),[.t 4]⟩
def HD:bb:=⟨(.sq (.rg [] [gp 1 (.bx 0),gA 2 (.c (.b false))] [1] [1]) (.sq (.rg [] [gp 3 (.ld (some 13) 1),gp 4 (.ca 0 11 [3]),gp 5 (.no 4),gA 2 5] [2] []) .rt)),[.t 2]⟩
def FF:AC:=(.ite 35 (.rg [] [gA 3 (.c (.b false))] [1,3] [1]) .sk)
def Ka:AC:=.kp [1,3,35] [1] FF
def FG:AC:=(.ite 32 (.rg [] [gA 3 (.c (.b true))] [1,3] [1]) (.sq (.sq (.rg [] [gB 36 .eql 31 (kI 1),gA 35 36] [1,3,31,35] [1]) (.ite 35 .sk (.sq (.rg [] [gB 37 .eql 31 (kI 2),gA 35 37] [1,3,31,35] [1]) (.ite 35 .sk (.sq (.rg [] [gB 38 .eql 31 (kI 3),gA 35 38] [1,3,31,35] [1]) (.ite 35 .sk (.rg [] [gB 39 .eql 31 (kI 7),gA 35 39] [1,3,35] [1]))))))) Ka))
def Kb:AC:=.kp [1,3,31,32] [1] FG
def Kc:AC:=(.sq (.rg [] [gF 85 6 1,gQ 86 85,gp 87 (.c2 27 [86,(.c (.f 28 []))]),gp 88 (.no 87),gM 89 88,gg 90 (.fa 7 1) 89 true,gg 91 (.ld none 90) 89 true,gg 92 (.ca 0 12 [91]) 89 true,gp 93 (.pk 89 92 (.c (.b false))),gA 2 93] [2] []) .rt)
def Kd:AC:=.kp [1] [1] Kc
def FH:AC:=(.sq (.rg [] [gF 40 0 1,gQ 41 40,gB 42 .eql 41 (kI 7),gA 4 42] [1,3,4] [1]) (.sq (.sq (.rg [] [gF 43 4 1,gQ 44 43,gM 45 3,gp 46 (.bo .neq true 44 45),gM 47 46,gg 48 (.fa 4 1) 47 false,gg 49 (.ld none 48) 47 false,gg 50 (.no 49) 47 false,gg 51 (.mv 50) 47 false,gg 52 (.fa 5 1) 51 true,gg 53 (.ld none 52) 51 true,gg 54 (.ln false 53) 51 true,gg 55 (.bo .gtr false 54 (kI 0)) 51 true,gg 56 (.pk 51 55 (.c (.b false))) 47 false,gp 57 (.pk 47 (.c (.b true)) 56),gM 58 57,gg 59 (.fa 5 1) 58 false,gg 60 (.ld none 59) 58 false,gg 61 (.ca 0 25 [60]) 58 false,gg 62 (.no 61) 58 false,gp 63 (.pk 58 (.c (.b true)) 62),gM 64 63,gg 65 (.mv 4) 64 false,gg 66 (.no 65) 64 false,gg 67 (.mv 66) 64 false,gg 68 (.fa 6 1) 67 true,gg 69 (.ld none 68) 67 true,gg 70 (.ln false 69) 67 true,gg 71 (.fa 7 1) 67 true,gg 72 (.ld none 71) 67 true,gg 73 (.ln false 72) 67 true,gg 74 (.bo .add false 70 73) 67 true,gg 75 (.bo .gtr false 74 (kI 0)) 67 true,gg 76 (.pk 67 75 (.c (.b false))) 64 false,gp 77 (.pk 64 (.c (.b true)) 76),gM 78 77,gg 79 (.fa 8 1) 78 false,gg 80 (.ld (some 5) 79) 78 false,gg 81 (.mv 4) 78 false,gg 82 (.ca 0 26 [80,81]) 78 false,gg 83 (.no 82) 78 false,gp 84 (.pk 78 (.c (.b true)) 83)] [1,84] [1]) (.ite 84 (.sq (.rg [] [gA 2 (.c (.b false))] [2] []) .rt) .sk)) Kd))
def Ke:AC:=.kp [1,3] [1] FH
def Kf:AC:=(.sq (.rg [] [gF 28 4 1,gQ 29 28,gA 3 29] [1,3] [1]) (.sq (.sq (.rg [] [gF 30 0 1,gQ 31 30] [1,3,31] [1]) (.bl 0 (.sq (.sq (.rg [] [gB 33 .eql 31 (kI 4),gA 32 33] [1,3,31,32] [1]) (.ite 32 .sk (.rg [] [gB 34 .eql 31 (kI 5),gA 32 34] [1,3,31,32] [1]))) Kb))) Ke))
def Kg:AC:=.kp [1] [1] Kf
def HE:bb:=⟨(.sq (.rg [] [gp 1 (.bx 0),gA 2 (.c (.b false))] [1] [1]) (.sq (.sq (.rg [] [gF 5 0 1,gQ 6 5,gB 7 .lss 6 (kI 1),gM 8 7,gg 9 (.fa 0 1) 8 false,gg 10 (.ld none 9) 8 false,gg 11 (.bo .gtr false 10 (kI 7)) 8 false,gp 12 (.pk 8 (.c (.b true)) 11),gM 13 12,gg 14 (.fa 2 1) 13 false,gg 15 (.ld none 14) 13 false,gg 16 (.ca 0 23 [15]) 13 false,gg 17 (.no 16) 13 false,gp 18 (.pk 13 (.c (.b true)) 17),gM 19 18,gg 20 (.fa 3 1) 19 false,gg 21 (.ld none 20) 19 false,gg 22 (.fa 0 1) 19 false,gg 23 (.ld none 22) 19 false,gg 24 (.bo .eql false 23 (kI 2)) 19 false,gg 25 (.ca 0 24 [21,24]) 19 false,gg 26 (.no 25) 19 false,gp 27 (.pk 19 (.c (.b true)) 26)] [1,27] [1]) (.ite 27 (.sq (.rg [] [gA 2 (.c (.b false))] [2] []) .rt) .sk)) Kg)),[.t 2]⟩
def sG:bb:=⟨(.sq (.rg [] [gA 2 (.c (.b false))] [0] []) (.sq (.rg [] [gM 3 0,gp 4 (.c2 29 [3,(.c (.f 30 []))]),gp 5 (.no 4),gA 2 5] [2] []) .rt)),[.t 2]⟩
def Kh:AC:=(.sq (.bl 3 (.sq (.rg [] [gF 49 5 5,gQ 50 49,gM 51 6,gp 52 (.ia 4 none 50 51),gF 53 3 52,gQ 54 53,gp 55 (.ln false 54),gB 56 .gtr 55 (kI 6)] [1,3,4,5,6,56] [1,5]) (.ite 56 (.sq (.rg [] [gA 2 (.c (.b true))] [2] []) .rt) .sk))) (.rg [] [gM 47 6,gB 48 .add 47 (kI 1),gA 6 48] [1,3,4,5,6] [1,5]))
def Ki:AC:=.kp [1,3,4,5,6] [1,5] Kh
def Kj:AC:=(.sq (.sq (.rg [] [gM 42 6,gF 43 5 5,gQ 44 43,gp 45 (.ln false 44),gB 46 .lss 42 45] [1,3,4,5,6,46] [1,5]) (.ite 46 .sk (.ex 2))) Ki)
def FI:bC:=⟨[1,3,4,5,6],[1,5],Kj⟩
def Kk:AC:=(.rg [] [gM 57 3,gF 58 7 5,gQ 59 58,gp 60 (.ca 0 32 [59,(kI 1)]),gB 61 .add 57 60,gA 3 61] [1,3,4] [1])
def Kl:AC:=.kp [1,3,4,5] [1,5] Kk
def Km:AC:=(.sq (.sq (.rg [] [gA 6 (kI 0)] [1,3,4,5,6] [1,5]) (.bl 2 FI.lp)) Kl)
def Kn:AC:=.kp [1,3,4,5] [1,5] Km
def Ko:AC:=(.sq (.bl 1 (.sq (.rg [] [gF 21 0 1,gQ 22 21,gM 23 4,gp 24 (.ia 13 none 22 23),gp 25 (.ld (some 13) 24),gp 5 (.al [(.i .i64 0),(.i .i64 0),(.s []),(.s []),(.b false),(.l 56 []),(.l 9 []),(.l 36 []),(.i .i64 0),(.i .i64 0),(.i .i64 0),(.s []),(.l 34 [])]),gS 13 5 25] [1,3,4,5] [1,5]) (.sq (.sq (.rg [] [gF 26 5 5,gQ 27 26,gp 28 (.ln false 27),gB 29 .gtr 28 (kI 4),gM 30 29,gg 31 (.fa 6 5) 30 false,gg 32 (.ld none 31) 30 false,gg 33 (.ln false 32) 30 false,gg 34 (.bo .gtr false 33 (kI 4)) 30 false,gp 35 (.pk 30 (.c (.b true)) 34),gM 36 35,gg 37 (.fa 8 5) 36 false,gg 38 (.ld (some 5) 37) 36 false,gg 39 (.ca 0 33 [38,(kI 15)]) 36 false,gg 40 (.bo .gtr false 39 (kI 15)) 36 false,gp 41 (.pk 36 (.c (.b true)) 40)] [1,3,4,5,41] [1,5]) (.ite 41 (.sq (.rg [] [gA 2 (.c (.b true))] [2] []) .rt) .sk)) Kn))) (.rg [] [gM 19 4,gB 20 .add 19 (kI 1),gA 4 20] [1,3,4] [1]))
def Kp:AC:=.kp [1,3,4] [1] Ko
def Kq:AC:=(.sq (.sq (.rg [] [gM 14 4,gF 15 0 1,gQ 16 15,gp 17 (.ln false 16),gB 18 .lss 14 17] [1,3,4,18] [1]) (.ite 18 .sk (.ex 0))) Kp)
def FJ:bC:=⟨[1,3,4],[1],Kq⟩
def Kr:AC:=(.sq (.rg [] [gF 11 1 1,gQ 12 11,gp 13 (.ca 0 32 [12,(kI 1)]),gA 3 13] [1,3] [1]) (.sq (.sq (.rg [] [gA 4 (kI 0)] [1,3,4] [1]) (.bl 0 FJ.lp)) (.sq (.rg [] [gM 62 3,gB 63 .gtr 62 (kI 50),gA 2 63] [2] []) .rt)))
def Ks:AC:=.kp [1] [1] Kr
def lI:bb:=⟨(.sq (.rg [] [gp 1 (.bx 0),gA 2 (.c (.b false))] [1] [1]) (.sq (.sq (.rg [] [gF 7 0 1,gQ 8 7,gp 9 (.ln false 8),gB 10 .gtr 9 (kI 30)] [1,10] [1]) (.ite 10 (.sq (.rg [] [gA 2 (.c (.b true))] [2] []) .rt) .sk)) Ks)),[.t 2]⟩
def Kt:AC:=(.sq (.bl 3 (.sq (.rg [] [gF 95 5 1,gQ 96 95,gM 97 3,gp 98 (.ia 4 none 96 97),gF 99 3 98,gQ 100 99,gM 101 4,gp 102 (.ia 1 none 100 101),gQ 103 102,gp 104 (.ca 0 35 [103]),gp 105 (.no 104)] [1,3,4,105] [1]) (.ite 105 (.sq (.rg [] [gA 2 (.c (.b false))] [2] []) .rt) .sk))) (.rg [] [gM 93 4,gB 94 .add 93 (kI 1),gA 4 94] [1,3,4] [1]))
def Ku:AC:=.kp [1,3,4] [1] Kt
def Kv:AC:=(.sq (.sq (.rg [] [gM 84 4,gF 85 5 1,gQ 86 85,gM 87 3,gp 88 (.ia 4 none 86 87),gF 89 3 88,gQ 90 89,gp 91 (.ln false 90),gB 92 .lss 84 91] [1,3,4,92] [1]) (.ite 92 .sk (.ex 2))) Ku)
def FK:bC:=⟨[1,3,4],[1],Kv⟩
def Kw:AC:=(.sq (.rg [] [gA 4 (kI 0)] [1,3,4] [1]) (.bl 2 FK.lp))
def Kx:AC:=.kp [1,3] [1] Kw
def Ky:AC:=(.sq (.bl 1 (.sq (.sq (.rg [] [gF 76 5 1,gQ 77 76,gM 78 3,gp 79 (.ia 4 none 77 78),gF 80 1 79,gQ 81 80,gp 82 (.ca 0 35 [81]),gp 83 (.no 82)] [1,3,83] [1]) (.ite 83 (.sq (.rg [] [gA 2 (.c (.b false))] [2] []) .rt) .sk)) Kx)) (.rg [] [gM 74 3,gB 75 .add 74 (kI 1),gA 3 75] [1,3] [1]))
def Kz:AC:=.kp [1,3] [1] Ky
def KA:AC:=(.sq (.sq (.rg [] [gM 69 3,gF 70 5 1,gQ 71 70,gp 72 (.ln false 71),gB 73 .lss 69 72] [1,3,73] [1]) (.ite 73 .sk (.ex 0))) Kz)
def FL:bC:=⟨[1,3],[1],KA⟩
def KB:AC:=(.sq (.bl 5 (.sq (.rg [] [gF 131 6 1,gQ 132 131,gM 133 5,gp 134 (.ia 1 none 132 133),gQ 135 134,gp 136 (.ca 0 35 [135]),gp 137 (.no 136)] [1,5,137] [1]) (.ite 137 (.sq (.rg [] [gA 2 (.c (.b false))] [2] []) .rt) .sk))) (.rg [] [gM 129 5,gB 130 .add 129 (kI 1),gA 5 130] [1,5] [1]))
def KC:AC:=.kp [1,5] [1] KB
def KD:AC:=(.sq (.sq (.rg [] [gM 124 5,gF 125 6 1,gQ 126 125,gp 127 (.ln false 126),gB 128 .lss 124 127] [1,5,128] [1]) (.ite 128 .sk (.ex 4))) KC)
def FM:bC:=⟨[1,5],[1],KD⟩
def KE:AC:=(.sq (.rg [] [gF 138 7 1,gQ 139 138,gp 140 (.ca 0 15 [139]),gM 141 140,gg 142 (.fa 8 1) 141 true,gg 143 (.ld (some 5) 142) 141 true,gg 144 (.ca 0 37 [143]) 141 true,gp 145 (.pk 141 144 (.c (.b false))),gA 2 145] [2] []) .rt)
def KF:AC:=.kp [1] [1] KE
def KG:AC:=(.sq (.sq (.rg [] [gA 5 (kI 0)] [1,5] [1]) (.bl 4 FM.lp)) KF)
def KH:AC:=.kp [1] [1] KG
def KI:AC:=(.sq (.sq (.rg [] [gF 106 0 1,gQ 107 106,gB 108 .neq 107 (kI 7)] [1,108] [1]) (.ite 108 (.sq (.rg [] [gF 109 6 1,gQ 110 109,gp 111 (.ln false 110),gB 112 .eql 111 (kI 0),gM 113 112,gg 114 (.fa 7 1) 113 true,gg 115 (.ld none 114) 113 true,gg 116 (.ln false 115) 113 true,gg 117 (.bo .eql false 116 (kI 0)) 113 true,gp 118 (.pk 113 117 (.c (.b false))),gM 119 118,gg 120 (.fa 8 1) 119 true,gg 121 (.ld (some 5) 120) 119 true,gg 122 (.ca 0 36 [121]) 119 true,gp 123 (.pk 119 122 (.c (.b false))),gA 2 123] [2] []) .rt) .sk)) KH)
def KJ:AC:=.kp [1] [1] KI
def KK:AC:=(.sq (.sq (.rg [] [gA 3 (kI 0)] [1,3] [1]) (.bl 0 FL.lp)) KJ)
def KL:AC:=.kp [1] [1] KK
def KM:AC:=(.sq (.sq (.rg [] [gF 35 0 1,gQ 36 35,gB 37 .eql 36 (kI 4),gM 38 37,gg 39 (.fa 0 1) 38 false,gg 40 (.ld none 39) 38 false,gg 41 (.bo .eql false 40 (kI 5)) 38 false,gp 42 (.pk 38 (.c (.b true)) 41),gM 43 42,gg 44 (.fa 4 1) 43 true,gg 45 (.ld none 44) 43 true,gg 46 (.no 45) 43 true,gp 47 (.pk 43 46 (.c (.b false))),gM 48 47,gg 49 (.fa 0 1) 48 false,gg 50 (.ld none 49) 48 false,gg 51 (.ca 0 34 [50,(kI 4),(kI 6)]) 48 false,gg 52 (.no 51) 48 false,gg 53 (.mv 52) 48 false,gg 54 (.fa 4 1) 53 true,gg 55 (.ld none 54) 53 true,gg 56 (.pk 53 55 (.c (.b false))) 48 false,gp 57 (.pk 48 (.c (.b true)) 56),gM 58 57,gg 59 (.fa 4 1) 58 false,gg 60 (.ld none 59) 58 false,gg 61 (.no 60) 58 false,gg 62 (.mv 61) 58 false,gg 63 (.fa 5 1) 62 true,gg 64 (.ld none 63) 62 true,gg 65 (.ln false 64) 62 true,gg 66 (.bo .gtr false 65 (kI 0)) 62 true,gg 67 (.pk 62 66 (.c (.b false))) 58 false,gp 68 (.pk 58 (.c (.b true)) 67)] [1,68] [1]) (.ite 68 (.sq (.rg [] [gA 2 (.c (.b false))] [2] []) .rt) .sk)) KL)
def KN:AC:=.kp [1] [1] KM
def KO:AC:=(.sq (.sq (.rg [] [gF 16 0 1,gQ 17 16,gB 18 .eql 17 (kI 2),gM 19 18,gg 20 (.fa 3 1) 19 true,gg 21 (.ld none 20) 19 true,gg 22 (.ca 0 35 [21]) 19 true,gg 23 (.no 22) 19 true,gp 24 (.pk 19 23 (.c (.b false))),gM 25 24,gg 26 (.fa 0 1) 25 false,gg 27 (.ld none 26) 25 false,gg 28 (.bo .neq false 27 (kI 2)) 25 false,gg 29 (.mv 28) 25 false,gg 30 (.fa 3 1) 29 true,gg 31 (.ld none 30) 29 true,gg 32 (.bo .neq false 31 (.c (.s []))) 29 true,gg 33 (.pk 29 32 (.c (.b false))) 25 false,gp 34 (.pk 25 (.c (.b true)) 33)] [1,34] [1]) (.ite 34 (.sq (.rg [] [gA 2 (.c (.b false))] [2] []) .rt) .sk)) KN)
def KP:AC:=.kp [1] [1] KO
def HF:bb:=⟨(.sq (.rg [] [gp 1 (.bx 0),gA 2 (.c (.b false))] [1] [1]) (.sq (.sq (.rg [] [gF 6 0 1,gQ 7 6,gp 8 (.ca 0 34 [7,(kI 1),(kI 7)]),gp 9 (.no 8),gM 10 9,gg 11 (.fa 2 1) 10 false,gg 12 (.ld none 11) 10 false,gg 13 (.ca 0 35 [12]) 10 false,gg 14 (.no 13) 10 false,gp 15 (.pk 10 (.c (.b true)) 14)] [1,15] [1]) (.ite 15 (.sq (.rg [] [gA 2 (.c (.b false))] [2] []) .rt) .sk)) KP)),[.t 2]⟩
def KQ:AC:=(.sq (.bl 4 (.rg [] [gM 70 10,gM 71 70,gg 72 (.fa 9 4) 71 true,gg 73 (.ld none 72) 71 true,gg 74 (.mv 11) 71 true,gg 75 (.ia 5 none 73 74) 71 true,gg 76 (.ld (some 5) 75) 71 true,gg 77 (.ca 0 37 [76]) 71 true,gp 78 (.pk 71 77 (.c (.b false))),gA 10 78] [0,3,4,5,6,7,8,9,10,11] [4])) (.rg [] [gM 68 11,gB 69 .add 68 (kI 1),gA 11 69] [0,3,4,5,6,7,8,9,10,11] [4]))
def KR:AC:=.kp [0,3,4,5,6,7,8,9,10,11] [4] KQ
def KT:AC:=(.sq (.sq (.rg [] [gM 63 11,gF 64 9 4,gQ 65 64,gp 66 (.ln false 65),gB 67 .lss 63 66] [0,3,4,5,6,7,8,9,10,11,67] [4]) (.ite 67 .sk (.ex 3))) KR)
def FN:bC:=⟨[0,3,4,5,6,7,8,9,10,11],[4],KT⟩
def FO:AC:=(.ite 45 (.dg [] [] [gL (gF 49 2 4) [4] [],gV (gQ 50 49) [49] [4] [],gL (gp 51 (.ca 0 35 [50])) [50] [],gL (gF 52 4 4) [4] [],gV (gp 53 (.ld (some 5) 52)) [52] [4] [],gH (gp 54 (.ca 0 37 [53])),gH (gA 5 51),gH (gA 7 54)] [0,3,5,6,7,8,9,10] []) (.sq (.rg [] [gB 56 .eql 44 (kI 2),gA 55 56] [0,3,4,5,6,7,8,9,10,44,55] [4]) (.ite 55 (.sq (.dg [] [] [gL (gF 57 2 4) [4] [],gV (gQ 58 57) [57] [4] [],gL (gp 59 (.ca 0 35 [58])) [58] [],gL (gF 60 3 4) [4] [],gV (gQ 61 60) [60] [4] [],gH (gp 62 (.ca 0 35 [61])),gH (gA 5 59),gH (gA 6 62),gH (gA 10 (.c (.b true)))] [0,3,4,5,6,7,8,9,10] [4]) (.sq (.rg [] [gA 11 (kI 0)] [0,3,4,5,6,7,8,9,10,11] [4]) (.bl 3 FN.lp))) (.sq (.rg [] [gB 80 .eql 44 (kI 3),gA 79 80] [0,3,4,5,6,7,8,9,10,44,79] [4]) (.ite 79 (.dg [] [] [gL (gF 81 2 4) [4] [],gV (gQ 82 81) [81] [4] [],gL (gp 83 (.ca 0 35 [82])) [82] [],gL (gF 84 3 4) [4] [],gV (gQ 85 84) [84] [4] [],gH (gp 86 (.ca 0 35 [85])),gH (gA 5 83),gH (gA 6 86)] [0,3,5,6,7,8,9,10] []) (.sq (.rg [] [gB 88 .eql 44 (kI 4),gA 87 88] [0,3,4,5,6,8,9,10,44,87] [4]) (.ite 87 (.dg [] [] [gL (gF 89 3 4) [4] [],gV (gQ 90 89) [89] [4] [],gL (gp 91 (.ca 0 35 [90])) [90] [],gL (gF 92 4 4) [4] [],gV (gp 93 (.ld (some 5) 92)) [92] [4] [],gH (gp 94 (.ca 0 37 [93])),gH (gA 6 91),gH (gA 7 94)] [0,3,5,6,7,8,9,10] []) (.sq (.rg [] [gB 96 .eql 44 (kI 7),gA 95 96] [0,3,4,5,6,9,10,44,95] [4]) (.ite 95 (.dg [] [] [gL (gF 97 4 4) [4] [],gV (gp 98 (.ld (some 5) 97)) [97] [4] [],gL (gp 99 (.ca 0 37 [98])) [98] [],gL (gF 100 10 4) [4] [],gV (gQ 101 100) [100] [4] [],gV (gp 102 (.ca 0 15 [101])) [101] [4] [],gL (gF 103 11 4) [4] [],gV (gQ 104 103) [103] [4] [],gH (gp 105 (.ca 0 15 [104])),gH (gA 7 99),gH (gA 8 102),gH (gA 9 105)] [0,3,5,6,7,8,9,10] []) (.sq (.rg [] [gB 107 .eql 44 (kI 8),gA 106 107] [0,3,4,5,6,9,10,106] [4]) (.ite 106 (.dg [] [] [gL (gF 108 4 4) [4] [],gV (gp 109 (.ld (some 5) 108)) [108] [4] [],gL (gp 110 (.ca 0 37 [109])) [109] [],gL (gF 111 10 4) [4] [],gV (gQ 112 111) [111] [4] [],gH (gp 113 (.ca 0 15 [112])),gH (gA 7 110),gH (gA 8 113)] [0,3,5,6,7,8,9,10] []) (.sq (.rg [] [gA 2 (.c (.b false))] [2] []) .rt))))))))))))
def KU:AC:=.kp [0,3,4,5,6,7,8,9,10,44,45] [4] FO
def FP:AC:=(.sq (.rg [] [gM 114 5,gp 115 (.no 114),gM 116 115,gg 117 (.mv 6) 116 false,gg 118 (.no 117) 116 false,gp 119 (.pk 116 (.c (.b true)) 118),gM 120 119,gg 121 (.mv 7) 120 false,gg 122 (.no 121) 120 false,gp 123 (.pk 120 (.c (.b true)) 122),gM 124 123,gg 125 (.mv 8) 124 false,gg 126 (.no 125) 124 false,gp 127 (.pk 124 (.c (.b true)) 126),gM 128 127,gg 129 (.mv 9) 128 false,gg 130 (.no 129) 128 false,gp 131 (.pk 128 (.c (.b true)) 130),gM 132 131,gg 133 (.mv 10) 132 false,gg 134 (.no 133) 132 false,gp 135 (.pk 132 (.c (.b true)) 134)] [0,3,135] []) (.ite 135 (.sq (.rg [] [gA 2 (.c (.b false))] [2] []) .rt) .sk))
def KV:AC:=.kp [0,3,5,6,7,8,9,10] [] FP
def KY:AC:=(.sq (.bl 1 (.sq (.rg [] [gM 18 0,gM 19 3,gp 20 (.ia 12 none 18 19),gp 21 (.ld (some 12) 20),gp 4 (.al [(.i .i64 0),(.i .i64 0),(.s []),(.s []),(.i .i64 0),(.i .i64 0),(.i .i64 0),(.s []),(.l 34 []),(.l 34 []),(.l 36 []),(.l 36 [])]),gS 12 4 21] [0,3,4] [4]) (.sq (.dg [] [] [gL (gF 22 2 4) [4] [],gV (gQ 23 22) [22] [4] [],gL (gB 24 .eql 23 (.c (.s []))) [23] [],gL (gF 25 3 4) [4] [],gV (gQ 26 25) [25] [4] [],gL (gB 27 .eql 26 (.c (.s []))) [26] [],gL (gF 28 4 4) [4] [],gV (gp 29 (.ld (some 5) 28)) [28] [4] [],gL (gp 30 (.ca 0 36 [29])) [29] [],gL (gA 5 24) [24] [],gH (gA 6 27),gH (gA 7 30)] [0,3,4,5,6,7] [4]) (.sq (.dg [] [] [gL (gF 31 10 4) [4] [],gV (gQ 32 31) [31] [4] [],gV (gp 33 (.ln false 32)) [32] [4] [],gL (gB 34 .eql 33 (kI 0)) [33] [],gL (gF 35 11 4) [4] [],gV (gQ 36 35) [35] [4] [],gV (gp 37 (.ln false 36)) [36] [4] [],gL (gB 38 .eql 37 (kI 0)) [37] [],gL (gF 39 9 4) [4] [],gV (gQ 40 39) [39] [4] [],gV (gp 41 (.ln false 40)) [40] [4] [],gL (gB 42 .eql 41 (kI 0)) [41] [],gL (gA 8 34) [34] [],gL (gA 9 38) [38] [],gH (gA 10 42)] [0,3,4,5,6,7,8,9,10] [4]) (.sq (.sq (.rg [] [gF 43 0 4,gQ 44 43] [0,3,4,5,6,7,8,9,10,44] [4]) (.bl 2 (.sq (.sq (.rg [] [gB 46 .eql 44 (kI 1),gA 45 46] [0,3,4,5,6,7,8,9,10,44,45] [4]) (.ite 45 .sk (.sq (.rg [] [gB 47 .eql 44 (kI 5),gA 45 47] [0,3,4,5,6,7,8,9,10,44,45] [4]) (.ite 45 .sk (.rg [] [gB 48 .eql 44 (kI 6),gA 45 48] [0,3,4,5,6,7,8,9,10,44,45] [4]))))) KU))) KV))))) (.rg [] [gM 16 3,gB 17 .add 16 (kI 1),gA 3 17] [0,3] []))
def KZ:AC:=.kp [0,3] [] KY
def K0:AC:=(.sq (.sq (.rg [] [gM 12 3,gM 13 0,gp 14 (.ln false 13),gB 15 .lss 12 14] [0,3,15] []) (.ite 15 .sk (.ex 0))) KZ)
def FQ:bC:=⟨[0,3],[],K0⟩
def vA:bb:=⟨(.sq (.rg [] [gA 2 (.c (.b false))] [0] []) (.sq (.sq (.rg [] [gA 3 (kI 0)] [0,3] []) (.bl 0 FQ.lp)) (.sq (.rg [] [gA 2 (.c (.b true))] [2] []) .rt))),[.t 2]⟩
def K1:AC:=(.rg [] [gM 36 6,gp 37 (.ld (some 3) 7),gz 38 (.bs 75 3 [37]),gp 39 (.ap 75 3 32 36 38),gA 6 39] [0,5,6] [14])
def K2:AC:=.kp [0,5,6,7] [7,14] K1
def K3:AC:=(.sq (.bl 1 (.sq (.rg [] [gM 27 5,gp 28 (.c2 39 [27]),gM 26 28,gp 29 (.ex 26 0),gp 30 (.ex 26 1),gp 7 (.al [(.i .i64 0),(.i .i64 0),(.s [])]),gS 3 7 29,gA 8 30] [0,5,6,7,8] [7,14]) (.sq (.sq (.rg [] [gM 31 8,gB 32 .neq 31 (kI 0)] [0,5,6,7,8,32] [7,14]) (.ite 32 (.sq (.dg [] [] [gL (gF 33 1 7) [7] [],gV (gQ 34 33) [33] [7] [],gL (gM 35 8) [8] [],gL (gA 2 (.c (.l 75 []))) [] [],gL (gA 3 34) [34] [],gH (gA 4 35)] [2,3,4,6] []) .rt) .sk)) K2))) (.rg [] [gM 24 5,gp 25 (.c2 38 [24])] [0,5,6] [14]))
def K4:AC:=.kp [0,5,6] [14] K3
def K5:AC:=(.sq (.sq (.rg [] [gM 17 5,gp 18 (.nc 17),gF 19 1 18,gQ 20 19,gM 21 0,gp 22 (.ln true 21),gB 23 .lss 20 22] [0,5,6,23] [14]) (.ite 23 .sk (.ex 0))) K4)
def FR:bC:=⟨[0,5,6],[14],K5⟩
def K6:AC:=(.sq (.rg [] [gM 40 6,gA 2 40,gA 3 (kI 0),gA 4 (kI 0)] [2,3,4,6] []) .rt)
def K7:AC:=.kp [6] [] K6
def K8:AC:=(.sq (.rg [] [gM 12 0,gp 13 (.bd [(.s []),(.i .i64 0)] [(0,1,12)]),gp 14 (.bx 13),gA 5 14] [0,5] [14]) (.sq (.rg [] [gA 6 (.c .n)] [0,5,6] [14]) (.sq (.sq (.rg [.own 6 75] [gM 15 5,gp 16 (.c2 38 [15])] [0,5,6] [14]) (.bl 0 FR.lp)) K7)))
def K9:AC:=.kp [0] [] K8
def yP:bb:=⟨(.sq (.rg [] [gA 2 (.c (.l 75 [])),gA 3 (kI 0),gA 4 (kI 0)] [0] []) (.sq (.sq (.rg [] [gM 9 0,gp 10 (.ln true 9),gB 11 .gtr 10 (kI 6000)] [0,11] []) (.ite 11 (.sq (.rg [] [gA 2 (.c (.l 75 [])),gA 3 (kI 0),gA 4 (kI 2)] [2,3,4,6] []) .rt) .sk)) K9)),[.t 2,.t 3,.t 4]⟩
def HG:bb:=⟨(.sq (.rg [] [gA 4 (.c (.b false))] [0,1] []) (.sq (.rg [] [gM 5 0,gM 6 1,gp 7 (.c2 42 [5,6]),gB 8 .geq 7 (kI 0),gA 4 8] [4] []) .rt)),[.t 4]⟩
def HH:bb:=⟨(.sq (.rg [] [gp 1 (.bx 0),gA 2 (.c (.b false))] [1] [1]) (.sq (.rg [] [gF 3 3 1,gQ 4 3,gp 5 (.ln false 4),gB 6 .gtr 5 (kI 6),gA 2 6] [2] []) .rt)),[.t 2]⟩
def La:AC:=(.rg [] [gM 18 5,gp 19 (.ld (some 5) 7),gM 20 1,gM 21 5,gB 22 .sub 20 21,gp 23 (.ca 0 20 [19,22]),gB 24 .add 18 23,gA 5 24] [1,5,9,10,11] [])
def Lb:AC:=.kp [1,5,7,9,10,11] [7] La
def Lc:AC:=(.sq (.bl 1 (.sq (.rg [] [gp 13 (.ia 5 none 9 11),gp 14 (.ld (some 5) 13),gp 7 (.al [(.i .i64 0),(.i .i64 0),(.i .i64 0),(.s []),(.l 34 [])]),gS 5 7 14] [1,5,7,9,10,11] [7]) (.sq (.sq (.rg [] [gM 15 5,gM 16 1,gB 17 .gtr 15 16] [1,5,7,9,10,11,17] [7]) (.ite 17 (.ex 0) .sk)) Lb))) (.rg [] [gB 25 .add 11 (kI 1),gM 11 25] [1,5,9,10,11] []))
def Ld:AC:=.kp [1,5,9,10,11] [] Lc
def Lf:AC:=(.sq (.rg [] [gB 12 .lss 11 10] [1,5,9,10,11,12] []) (.sq (.ite 12 .sk (.ex 0)) Ld))
def FT:bC:=⟨[1,5,9,10,11],[],Lf⟩
def uw:bb:=⟨(.sq (.rg [] [gp 2 (.bx 0),gA 4 (kI 0)] [1,2] [2]) (.sq (.rg [] [gA 5 (kI 1)] [1,2,5] [2]) (.sq (.sq (.rg [] [gF 8 4 2,gQ 9 8,gp 10 (.ln false 9),gM 11 (kI 0)] [1,5,9,10,11] []) (.bl 0 FT.lp)) (.sq (.rg [] [gM 26 5,gA 4 26] [4] []) .rt)))),[.t 4]⟩
def Lg:AC:=(.sq (.rg [] [gM 51 0,gF 52 10 8,gQ 53 52,gM 54 2,gB 55 .add 54 (kI 1),gp 56 (.c2 21 [51,53,55]),gM 57 56,gg 58 (.mv 0) 57 false,gg 59 (.fa 11 8) 57 false,gg 60 (.ld none 59) 57 false,gg 61 (.mv 2) 57 false,gg 62 (.bo .add false 61 (kI 1)) 57 false,gg 63 (.c2 21 [58,60,62]) 57 false,gp 64 (.pk 57 (.c (.b true)) 63)] [0,2,16,17,18,64] [0]) (.ite 64 (.sq (.rg [] [gA 6 (.c (.b true))] [6] []) .rt) .sk))
def Lh:AC:=.kp [0,2,8,16,17,18] [0,8] Lg
def Li:AC:=(.sq (.bl 1 (.sq (.rg [] [gp 20 (.ia 12 none 16 18),gp 21 (.ld (some 12) 20),gp 8 (.al [(.i .i64 0),(.i .i64 0),(.s []),(.s []),(.i .i64 0),(.i .i64 0),(.i .i64 0),(.s []),(.l 34 []),(.l 34 []),(.l 36 []),(.l 36 [])]),gS 12 8 21] [0,2,8,16,17,18] [0,8]) (.sq (.rg [] [gM 22 0,gp 23 (.nc 22),gF 24 0 23,gQ 25 24,gB 26 .add 25 (kI 1),gp 27 (.nc 22),gF 28 0 27,gS 1 28 26] [0,2,8,16,17,18] [0,8]) (.sq (.sq (.rg [] [gM 29 0,gp 30 (.nc 29),gF 31 0 30,gQ 32 31,gB 33 .gtr 32 (kI 50),gM 34 33,gg 35 (.fa 4 8) 34 false,gg 36 (.ld (some 5) 35) 34 false,gg 37 (.ca 0 20 [36,(kI 15)]) 34 false,gg 38 (.bo .gtr false 37 (kI 15)) 34 false,gp 39 (.pk 34 (.c (.b true)) 38),gM 40 39,gg 41 (.fa 9 8) 40 false,gg 42 (.ld none 41) 40 false,gg 43 (.ln false 42) 40 false,gg 44 (.bo .gtr false 43 (kI 4)) 40 false,gp 45 (.pk 40 (.c (.b true)) 44),gM 46 45,gg 47 (.fa 9 8) 46 false,gg 48 (.ld none 47) 46 false,gg 49 (.c2 43 [48,(.c (.f 44 []))]) 46 false,gp 50 (.pk 46 (.c (.b true)) 49)] [0,2,8,16,17,18,50] [0,8]) (.ite 50 (.sq (.rg [] [gA 6 (.c (.b true))] [6] []) .rt) .sk)) Lh)))) (.rg [] [gB 65 .add 18 (kI 1),gM 18 65] [0,2,16,17,18] [0]))
def Lj:AC:=.kp [0,2,16,17,18] [0] Li
def Lk:AC:=(.sq (.rg [] [gB 19 .lss 18 17] [0,2,16,17,18,19] [0]) (.sq (.ite 19 .sk (.ex 0)) Lj))
def FU:bC:=⟨[0,2,16,17,18],[0],Lk⟩
def FV:AC:=(.sq (.sq (.rg [] [gM 16 1,gp 17 (.ln false 16),gM 18 (kI 0)] [0,2,16,17,18] [0]) (.bl 0 FU.lp)) (.sq (.rg [] [gA 6 (.c (.b false))] [6] []) .rt))
def Ll:AC:=.kp [0,1,2] [0] FV
def HI:bb:=⟨(.sq (.rg [] [gA 6 (.c (.b false))] [0,1,2] [0]) (.sq (.sq (.rg [] [gM 9 1,gp 10 (.ln false 9),gB 11 .gtr 10 (kI 0),gM 12 11,gg 13 (.mv 2) 12 true,gg 14 (.bo .gtr false 13 (kI 6)) 12 true,gp 15 (.pk 12 14 (.c (.b false)))] [0,1,2,15] [0]) (.ite 15 (.sq (.rg [] [gA 6 (.c (.b true))] [6] []) .rt) .sk)) Ll)),[.t 6]⟩
def Lm:AC:=(.sq (.bl 1 (.sq (.rg [] [gM 10 8,gA 5 10] [0,1,5,7,8] []) (.sq (.rg [] [gM 11 1,gM 12 0,gM 13 5,gp 14 (.ia 13 none 12 13),gp 15 (.ld (some 13) 14),gp 16 (.cf 0 11 [15])] [0,1,5,7,8,16] []) (.ite 16 (.sq (.rg [] [gM 17 5,gA 4 17] [4] []) .rt) .sk)))) (.rg [] [gB 18 .add 8 (kI 1),gM 8 18] [0,1,7,8] []))
def Ln:AC:=.kp [0,1,7,8] [] Lm
def Lo:AC:=(.sq (.rg [] [gB 9 .lss 8 7] [0,1,7,8,9] []) (.sq (.ite 9 .sk (.ex 0)) Ln))
def FW:bC:=⟨[0,1,7,8],[],Lo⟩
def HJ:bb:=⟨(.sq (.rg [] [gA 4 (kI 0)] [0,1] []) (.sq (.sq (.rg [] [gM 6 0,gp 7 (.ln false 6),gM 8 (kI 0)] [0,1,7,8] []) (.bl 0 FW.lp)) (.sq (.rg [] [gA 4 (kI (-1))] [4] []) .rt))),[.t 4]⟩
def HK:bb:=⟨(.sq (.rg [] [gA 2 (.c (.b false))] [0] []) (.sq (.rg [] [gM 3 0,gp 4 (.ca 0 45 [3]),gM 5 4,gg 6 (.ca 0 47 []) 5 true,gg 7 (.mv 0) 5 true,gg 8 (.ca 0 46 [6,7]) 5 true,gg 9 (.no 8) 5 true,gp 10 (.pk 5 9 (.c (.b false))),gA 2 10] [2] []) .rt)),[.t 2]⟩
def HL:bb:=⟨(.sq (.rg [] [gA 4 (.c (.b false))] [0,1] []) (.sq (.rg [] [gM 5 1,gM 6 5,gg 7 (.mv 0) 6 true,gg 8 (.ca 0 23 [7]) 6 true,gp 9 (.pk 6 8 (.c (.b false))),gM 10 9,gg 11 (.mv 1) 10 false,gg 12 (.no 11) 10 false,gg 13 (.mv 12) 10 false,gg 14 (.mv 0) 13 true,gg 15 (.bo .eql false 14 (.c (.s []))) 13 true,gg 16 (.pk 13 15 (.c (.b false))) 10 false,gp 17 (.pk 10 (.c (.b true)) 16),gA 4 17] [4] []) .rt)),[.t 4]⟩
def HM:bb:=⟨(.sq (.rg [] [gA 2 (.c (.b false))] [0] []) (.sq (.rg [] [gM 3 0,gp 4 (.c2 18 [3,(.c (.f 48 []))]),gp 5 (.no 4),gA 2 5] [2] []) .rt)),[.t 2]⟩
def HN:bb:=⟨(.sq (.rg [] [gp 2 (.bx 0),gA 4 (.c (.b false))] [1,2] [2]) (.sq (.rg [] [gM 5 1,gM 6 5,gg 7 (.ld (some 5) 2) 6 true,gg 8 (.ca 0 50 [7]) 6 true,gp 9 (.pk 6 8 (.c (.b false))),gM 10 9,gg 11 (.mv 1) 10 false,gg 12 (.no 11) 10 false,gg 13 (.mv 12) 10 false,gg 14 (.ld (some 5) 2) 13 true,gg 15 (.ca 0 51 [14]) 13 true,gg 16 (.pk 13 15 (.c (.b false))) 10 false,gp 17 (.pk 10 (.c (.b true)) 16),gA 4 17] [4] []) .rt)),[.t 4]⟩
def HO:bb:=⟨(.sq (.rg [] [gA 4 (.c (.b false))] [0,1] []) (.sq (.rg [] [gM 5 0,gM 6 1,gp 7 (.c2 52 [5,6]),gB 8 .geq 7 (kI 0),gA 4 8] [4] []) .rt)),[.t 4]⟩
def HQ:bb:=⟨(.sq (.rg [] [gA 2 (.c (.b false))] [0] []) (.sq (.rg [] [gM 3 0,gp 4 (.ca 0 23 [3]),gp 5 (.no 4),gA 2 5] [2] []) .rt)),[.t 2]⟩
def HR:bb:=⟨(.sq (.rg [] [gA 4 (.c (.b false))] [0,1] []) (.sq (.rg [] [gM 5 0,gM 6 1,gp 7 (.c2 53 [5,6]),gB 8 .geq 7 (kI 0),gA 4 8] [4] []) .rt)),[.t 4]⟩
def HS:bb:=⟨(.sq (.rg [] [gp 1 (.bx 0),gA 2 (.c (.b false))] [1] [1]) (.sq (.rg [] [gp 3 (.ld (some 12) 1),gp 4 (.ca 0 31 [3]),gp 5 (.no 4),gA 2 5] [2] []) .rt)),[.t 2]⟩
def Lq:AC:=(.sq (.rg [] [gF 77 9 1,gQ 78 77,gp 79 (.c2 43 [78,(.c (.f 54 []))]),gp 80 (.no 79),gM 81 80,gg 82 (.fa 10 1) 81 true,gg 83 (.ld none 82) 81 true,gg 84 (.ca 0 12 [83]) 81 true,gp 85 (.pk 81 84 (.c (.b false))),gM 86 85,gg 87 (.fa 11 1) 86 true,gg 88 (.ld none 87) 86 true,gg 89 (.ca 0 12 [88]) 86 true,gp 90 (.pk 86 89 (.c (.b false))),gA 2 90] [2] []) .rt)
def Lr:AC:=.kp [1] [1] Lq
def Ls:AC:=(.sq (.sq (.rg [] [gM 49 3,gB 50 .neq 49 (kI 2),gM 51 50,gg 52 (.fa 9 1) 51 true,gg 53 (.ld none 52) 51 true,gg 54 (.ln false 53) 51 true,gg 55 (.bo .gtr false 54 (kI 0)) 51 true,gp 56 (.pk 51 55 (.c (.b false))),gM 57 56,gg 58 (.mv 4) 57 false,gg 59 (.no 58) 57 false,gg 60 (.mv 59) 57 false,gg 61 (.fa 10 1) 60 true,gg 62 (.ld none 61) 60 true,gg 63 (.ln false 62) 60 true,gg 64 (.bo .gtr false 63 (kI 0)) 60 true,gg 65 (.pk 60 64 (.c (.b false))) 57 false,gp 66 (.pk 57 (.c (.b true)) 65),gM 67 66,gg 68 (.mv 3) 67 false,gg 69 (.bo .neq false 68 (kI 7)) 67 false,gg 70 (.mv 69) 67 false,gg 71 (.fa 11 1) 70 true,gg 72 (.ld none 71) 70 true,gg 73 (.ln false 72) 70 true,gg 74 (.bo .gtr false 73 (kI 0)) 70 true,gg 75 (.pk 70 74 (.c (.b false))) 67 false,gp 76 (.pk 67 (.c (.b true)) 75)] [1,76] [1]) (.ite 76 (.sq (.rg [] [gA 2 (.c (.b false))] [2] []) .rt) .sk)) Lr)
def Lt:AC:=.kp [1,3,4] [1] Ls
def Lu:AC:=(.sq (.rg [] [gM 13 3,gB 14 .geq 13 (kI 7),gA 4 14] [1,3,4] [1]) (.sq (.sq (.rg [] [gF 15 2 1,gQ 16 15,gM 17 3,gB 18 .neq 17 (kI 4),gM 19 18,gg 20 (.mv 4) 19 true,gg 21 (.no 20) 19 true,gp 22 (.pk 19 21 (.c (.b false))),gp 23 (.ca 0 24 [16,22]),gp 24 (.no 23),gM 25 24,gg 26 (.fa 3 1) 25 false,gg 27 (.ld none 26) 25 false,gg 28 (.mv 3) 25 false,gg 29 (.bo .geq false 28 (kI 2)) 25 false,gg 30 (.mv 29) 25 false,gg 31 (.mv 3) 30 true,gg 32 (.bo .leq false 31 (kI 4)) 30 true,gg 33 (.pk 30 32 (.c (.b false))) 25 false,gg 34 (.ca 0 24 [27,33]) 25 false,gg 35 (.no 34) 25 false,gp 36 (.pk 25 (.c (.b true)) 35),gM 37 36,gg 38 (.fa 4 1) 37 false,gg 39 (.ld (some 5) 38) 37 false,gg 40 (.mv 3) 37 false,gg 41 (.bo .neq false 40 (kI 2)) 37 false,gg 42 (.mv 41) 37 false,gg 43 (.mv 3) 42 true,gg 44 (.bo .neq false 43 (kI 3)) 42 true,gg 45 (.pk 42 44 (.c (.b false))) 37 false,gg 46 (.ca 0 26 [39,45]) 37 false,gg 47 (.no 46) 37 false,gp 48 (.pk 37 (.c (.b true)) 47)] [1,3,4,48] [1]) (.ite 48 (.sq (.rg [] [gA 2 (.c (.b false))] [2] []) .rt) .sk)) Lt))
def Lv:AC:=.kp [1,3] [1] Lu
def HT:bb:=⟨(.sq (.rg [] [gp 1 (.bx 0),gA 2 (.c (.b false))] [1] [1]) (.sq (.rg [] [gF 5 0 1,gQ 6 5,gA 3 6] [1,3] [1]) (.sq (.sq (.rg [] [gM 7 3,gB 8 .lss 7 (kI 1),gM 9 8,gg 10 (.mv 3) 9 false,gg 11 (.bo .gtr false 10 (kI 8)) 9 false,gp 12 (.pk 9 (.c (.b true)) 11)] [1,3,12] [1]) (.ite 12 (.sq (.rg [] [gA 2 (.c (.b false))] [2] []) .rt) .sk)) Lv))),[.t 2]⟩
def Lw:AC:=(.sq (.bl 3 (.sq (.rg [] [gF 47 9 7,gQ 48 47,gM 49 8,gp 50 (.ia 5 none 48 49),gp 51 (.ld (some 5) 50),gp 52 (.ca 0 33 [51,(kI 15)]),gB 53 .gtr 52 (kI 15)] [0,1,5,6,7,8,53] [7]) (.ite 53 (.sq (.rg [] [gA 4 (kI 51)] [4] []) .rt) .sk))) (.rg [] [gM 45 8,gB 46 .add 45 (kI 1),gA 8 46] [0,1,5,6,7,8] [7]))
def Lx:AC:=.kp [0,1,5,6,7,8] [7] Lw
def Ly:AC:=(.sq (.sq (.rg [] [gM 40 8,gF 41 9 7,gQ 42 41,gp 43 (.ln false 42),gB 44 .lss 40 43] [0,1,5,6,7,8,44] [7]) (.ite 44 .sk (.ex 2))) Lx)
def FX:bC:=⟨[0,1,5,6,7,8],[7],Ly⟩
def Lz:AC:=(.dg [] [] [gL (gM 54 5) [5] [],gL (gF 55 10 7) [7] [],gV (gQ 56 55) [55] [7] [],gL (gM 57 1) [1] [],gL (gB 58 .add 57 (kI 1)) [57] [],gV (gp 59 (.ca 0 32 [56,58])) [56,58] [7] [],gL (gB 60 .add (kI 1) 59) [59] [],gL (gF 61 11 7) [7] [],gV (gQ 62 61) [61] [7] [],gL (gM 63 1) [1] [],gL (gB 64 .add 63 (kI 1)) [63] [],gV (gp 65 (.ca 0 32 [62,64])) [62,64] [7] [],gL (gB 66 .add 60 65) [60,65] [],gH (gB 67 .add 54 66),gH (gA 5 67)] [0,1,5,6] [])
def LA:AC:=.kp [0,1,5,6,7] [7] Lz
def LB:AC:=(.sq (.sq (.rg [] [gA 8 (kI 0)] [0,1,5,6,7,8] [7]) (.bl 2 FX.lp)) LA)
def LC:AC:=.kp [0,1,5,6,7] [7] LB
def LD:AC:=(.sq (.bl 1 (.sq (.rg [] [gM 26 0,gM 27 6,gp 28 (.ia 12 none 26 27),gp 29 (.ld (some 12) 28),gp 7 (.al [(.i .i64 0),(.i .i64 0),(.s []),(.s []),(.i .i64 0),(.i .i64 0),(.i .i64 0),(.s []),(.l 34 []),(.l 34 []),(.l 36 []),(.l 36 [])]),gS 12 7 29] [0,1,5,6,7] [7]) (.sq (.sq (.rg [] [gF 30 4 7,gp 31 (.ld (some 5) 30),gp 32 (.ca 0 33 [31,(kI 15)]),gB 33 .gtr 32 (kI 15),gM 34 33,gg 35 (.fa 9 7) 34 false,gg 36 (.ld none 35) 34 false,gg 37 (.ln false 36) 34 false,gg 38 (.bo .gtr false 37 (kI 4)) 34 false,gp 39 (.pk 34 (.c (.b true)) 38)] [0,1,5,6,7,39] [7]) (.ite 39 (.sq (.rg [] [gA 4 (kI 51)] [4] []) .rt) .sk)) LC))) (.rg [] [gM 24 6,gB 25 .add 24 (kI 1),gA 6 25] [0,1,5,6] []))
def LF:AC:=.kp [0,1,5,6] [] LD
def LG:AC:=(.sq (.sq (.rg [] [gM 16 6,gM 17 0,gp 18 (.ln false 17),gB 19 .lss 16 18,gM 20 19,gg 21 (.mv 5) 20 true,gg 22 (.bo .leq false 21 (kI 50)) 20 true,gp 23 (.pk 20 22 (.c (.b false)))] [0,1,5,6,23] []) (.ite 23 .sk (.ex 0))) LF)
def FY:bC:=⟨[0,1,5,6],[],LG⟩
def LH:AC:=(.sq (.sq (.rg [] [gM 68 5,gB 69 .gtr 68 (kI 51)] [5,69] []) (.ite 69 (.sq (.rg [] [gA 4 (kI 51)] [4] []) .rt) .sk)) (.sq (.rg [] [gM 70 5,gA 4 70] [4] []) .rt))
def LI:AC:=.kp [5] [] LH
def FZ:AC:=(.sq (.rg [] [gA 5 (kI 0)] [0,1,5] []) (.sq (.sq (.rg [] [gA 6 (kI 0)] [0,1,5,6] []) (.bl 0 FY.lp)) LI))
def LJ:AC:=.kp [0,1] [] FZ
def HU:bb:=⟨(.sq (.rg [] [gA 4 (kI 0)] [0,1] []) (.sq (.sq (.rg [] [gM 9 0,gp 10 (.ln false 9),gB 11 .gtr 10 (kI 0),gM 12 11,gg 13 (.mv 1) 12 true,gg 14 (.bo .gtr false 13 (kI 6)) 12 true,gp 15 (.pk 12 14 (.c (.b false)))] [0,1,15] []) (.ite 15 (.sq (.rg [] [gA 4 (kI 51)] [4] []) .rt) .sk)) LJ)),[.t 4]⟩
def LK:AC:=(.sq (.bl 1 (.rg [] [gM 19 5,gF 20 4 2,gQ 21 20,gM 22 6,gp 23 (.ia 5 none 21 22),gp 24 (.ld (some 5) 23),gM 25 1,gM 26 5,gB 27 .sub 25 26,gp 28 (.ca 0 33 [24,27]),gB 29 .add 19 28,gA 5 29] [1,2,5,6] [2])) (.rg [] [gM 17 6,gB 18 .add 17 (kI 1),gA 6 18] [1,2,5,6] [2]))
def LL:AC:=.kp [1,2,5,6] [2] LK
def LM:AC:=(.sq (.sq (.rg [] [gM 7 6,gF 8 4 2,gQ 9 8,gp 10 (.ln false 9),gB 11 .lss 7 10,gM 12 11,gg 13 (.mv 5) 12 true,gg 14 (.mv 1) 12 true,gg 15 (.bo .leq false 13 14) 12 true,gp 16 (.pk 12 15 (.c (.b false)))] [1,2,5,6,16] [2]) (.ite 16 .sk (.ex 0))) LL)
def F0:bC:=⟨[1,2,5,6],[2],LM⟩
def HV:bb:=⟨(.sq (.rg [] [gp 2 (.bx 0),gA 4 (kI 0)] [1,2] [2]) (.sq (.rg [] [gA 5 (kI 1)] [1,2,5] [2]) (.sq (.sq (.rg [] [gA 6 (kI 0)] [1,2,5,6] [2]) (.bl 0 F0.lp)) (.sq (.rg [] [gM 30 5,gA 4 30] [4] []) .rt)))),[.t 4]⟩
def HW:bb:=⟨(.sq (.rg [] [gA 6 (.c (.b false))] [0,1,2] []) (.sq (.rg [] [gM 7 0,gM 8 1,gB 9 .geq 7 8,gM 10 9,gg 11 (.mv 0) 10 true,gg 12 (.mv 2) 10 true,gg 13 (.bo .leq false 11 12) 10 true,gp 14 (.pk 10 13 (.c (.b false))),gA 6 14] [6] []) .rt)),[.t 6]⟩
def HX:bb:=⟨(.sq (.rg [] [gA 2 (.c (.b false))] [0] []) (.sq (.rg [] [gM 3 0,gp 4 (.ca 0 55 [(kI 1),3]),gM 5 4,gg 6 (.mv 0) 5 true,gg 7 (.ca 0 56 [6]) 5 true,gg 8 (.no 7) 5 true,gp 9 (.pk 5 8 (.c (.b false))),gA 2 9] [2] []) .rt)),[.t 2]⟩
def HY:bb:=⟨(.sq (.rg [] [gp 1 (.bx 0),gA 2 (.c (.b false))] [1] [1]) (.sq (.rg [] [gF 3 0 1,gQ 4 3,gB 5 .eql 4 (kI 0),gM 6 5,gg 7 (.fa 2 1) 6 true,gg 8 (.ld none 7) 6 true,gg 9 (.bo .eql false 8 (kI 0)) 6 true,gp 10 (.pk 6 9 (.c (.b false))),gM 11 10,gg 12 (.fa 3 1) 11 true,gg 13 (.ld none 12) 11 true,gg 14 (.bo .eql false 13 (.c (.s []))) 11 true,gp 15 (.pk 11 14 (.c (.b false))),gM 16 15,gg 17 (.fa 4 1) 16 true,gg 18 (.ld none 17) 16 true,gg 19 (.ln false 18) 16 true,gg 20 (.bo .eql false 19 (kI 0)) 16 true,gp 21 (.pk 16 20 (.c (.b false))),gA 2 21] [2] []) .rt)),[.t 2]⟩
def HZ:bb:=⟨(.sq (.rg [] [gp 1 (.bx 0),gA 2 (.c (.b false))] [1] [1]) (.sq (.bl 0 (.sq (.rg [] [gF 4 0 1,gQ 5 4,gB 6 .eql 5 (kI 1),gA 3 6] [1,3] [1]) (.ite 3 (.sq (.rg [] [gF 7 3 1,gQ 8 7,gB 9 .eql 8 (.c (.s [])),gM 10 9,gg 11 (.fa 4 1) 10 true,gg 12 (.ld none 11) 10 true,gg 13 (.ln false 12) 10 true,gg 14 (.bo .eql false 13 (kI 0)) 10 true,gp 15 (.pk 10 14 (.c (.b false))),gM 16 15,gg 17 (.fa 2 1) 16 true,gg 18 (.ld none 17) 16 true,gg 19 (.ca 0 34 [18,(kI (-9999999)),(kI 9999999)]) 16 true,gp 20 (.pk 16 19 (.c (.b false))),gA 2 20] [2] []) .rt) (.sq (.rg [] [gF 22 0 1,gQ 23 22,gB 24 .eql 23 (kI 2),gA 21 24] [1,21] [1]) (.ite 21 (.sq (.rg [] [gF 25 2 1,gQ 26 25,gB 27 .eql 26 (kI 0),gM 28 27,gg 29 (.fa 4 1) 28 true,gg 30 (.ld none 29) 28 true,gg 31 (.ln false 30) 28 true,gg 32 (.bo .eql false 31 (kI 0)) 28 true,gp 33 (.pk 28 32 (.c (.b false))),gM 34 33,gg 35 (.fa 3 1) 34 true,gg 36 (.ld none 35) 34 true,gg 37 (.ca 0 35 [36]) 34 true,gp 38 (.pk 34 37 (.c (.b false))),gA 2 38] [2] []) .rt) (.sq (.rg [] [gF 40 0 1,gQ 41 40,gp 42 (.ca 0 34 [41,(kI 3),(kI 7)]),gA 39 42] [1,39] [1]) (.ite 39 (.sq (.rg [] [gF 43 2 1,gQ 44 43,gB 45 .eql 44 (kI 0),gM 46 45,gg 47 (.fa 3 1) 46 true,gg 48 (.ld none 47) 46 true,gg 49 (.bo .eql false 48 (.c (.s []))) 46 true,gp 50 (.pk 46 49 (.c (.b false))),gM 51 50,gg 52 (.fa 4 1) 51 true,gg 53 (.ld none 52) 51 true,gg 54 (.ln false 53) 51 true,gg 55 (.bo .eql false 54 (kI 2)) 51 true,gp 56 (.pk 51 55 (.c (.b false))),gM 57 56,gg 58 (.fa 4 1) 57 true,gg 59 (.ld none 58) 57 true,gg 60 (.ia 5 none 59 (kI 0)) 57 true,gg 61 (.ld (some 5) 60) 57 true,gg 62 (.ca 0 37 [61]) 57 true,gp 63 (.pk 57 62 (.c (.b false))),gM 64 63,gg 65 (.fa 4 1) 64 true,gg 66 (.ld none 65) 64 true,gg 67 (.ia 5 none 66 (kI 1)) 64 true,gg 68 (.ld (some 5) 67) 64 true,gg 69 (.ca 0 37 [68]) 64 true,gp 70 (.pk 64 69 (.c (.b false))),gA 2 70] [2] []) .rt) .sk))))))) (.sq (.rg [] [gA 2 (.c (.b false))] [2] []) .rt))),[.t 2]⟩
def LN:AC:=(.bl 4 (.rg [] [gM 56 0,gp 57 (.nc 56),gF 58 1 57,gQ 59 58,gB 60 .add 59 (kI 1),gp 61 (.nc 56),gF 62 1 61,gS 1 62 60] [0] [0]))
def LO:AC:=.kp [0] [0] LN
def LP:AC:=(.sq (.sq (.dg [] [] [gL (gM 34 0) [0] [],gL (gp 35 (.nc 34)) [34] [],gL (gF 36 1 35) [35] [],⟨gQ 37 36,true,[36],[],true,[],[],[]⟩,gL (gM 38 0) [0] [],gL (gp 39 (.nc 38)) [38] [],gL (gF 40 0 39) [39] [],⟨gQ 41 40,true,[40],[],true,[],[],[]⟩,gL (gp 42 (.ln true 41)) [41] [],gL (gB 43 .lss 37 42) [37,42] [],gL (gM 44 43) [43] [],gL (gg 45 (.mv 0) 44 true) [0] [],gL (gg 46 (.nc 45) 44 true) [45] [],gL (gg 47 (.fa 0 46) 44 true) [46] [],⟨gg 48 (.ld none 47) 44 true,true,[47],[],true,[],[],[]⟩,gL (gg 49 (.mv 0) 44 true) [0] [],gL (gg 50 (.nc 49) 44 true) [49] [],gL (gg 51 (.fa 1 50) 44 true) [50] [],⟨gg 52 (.ld none 51) 44 true,true,[51],[],true,[],[],[]⟩,gH (gg 53 (.ix 48 52) 44 true),gH (gg 54 (.bo .neq false 53 (.c (.i .u8 10))) 44 true),gH (gp 55 (.pk 44 54 (.c (.b false))))] [0,55] [0]) (.ite 55 .sk (.ex 3))) LO)
def F1:bC:=⟨[0],[0],LP⟩
def F2:AC:=(.ite 21 (.rg [] [gM 25 0,gp 26 (.nc 25),gF 27 1 26,gQ 28 27,gB 29 .add 28 (kI 1),gp 30 (.nc 25),gF 31 1 30,gS 1 31 29] [0] [0]) (.sq (.rg [] [gB 33 .eql 20 (.c (.i .u8 35)),gA 32 33] [0,32] [0]) (.ite 32 (.bl 3 F1.lp) .rt)))
def LQ:AC:=.kp [0,20,21] [0] F2
def LR:AC:=(.bl 1 (.sq (.dg [] [] [gL (gM 12 0) [0] [],gL (gp 13 (.nc 12)) [12] [],gL (gF 14 0 13) [13] [],⟨gQ 15 14,true,[14],[],true,[],[],[]⟩,gL (gM 16 0) [0] [],gL (gp 17 (.nc 16)) [16] [],gL (gF 18 1 17) [17] [],⟨gQ 19 18,true,[18],[],true,[],[],[]⟩,gH (gp 20 (.ix 15 19))] [0,20] [0]) (.bl 2 (.sq (.sq (.rg [] [gB 22 .eql 20 (.c (.i .u8 32)),gA 21 22] [0,20,21] [0]) (.ite 21 .sk (.sq (.rg [] [gB 23 .eql 20 (.c (.i .u8 9)),gA 21 23] [0,20,21] [0]) (.ite 21 .sk (.rg [] [gB 24 .eql 20 (.c (.i .u8 10)),gA 21 24] [0,20,21] [0]))))) LQ))))
def LS:AC:=.kp [0] [0] LR
def LU:AC:=(.sq (.sq (.dg [] [] [gL (gM 2 0) [0] [],gL (gp 3 (.nc 2)) [2] [],gL (gF 4 1 3) [3] [],⟨gQ 5 4,true,[4],[],true,[],[],[]⟩,gL (gM 6 0) [0] [],gL (gp 7 (.nc 6)) [6] [],gL (gF 8 0 7) [7] [],⟨gQ 9 8,true,[8],[],true,[],[],[]⟩,gL (gp 10 (.ln true 9)) [9] [],gH (gB 11 .lss 5 10)] [0,11] [0]) (.ite 11 .sk (.ex 0))) LS)
def F3:bC:=⟨[0],[0],LU⟩
def H2:bb:=⟨(.bl 0 F3.lp),[]⟩
def LV:AC:=(.sq (.rg [] [gF 38 2 4,gQ 39 38,gp 40 (.ln true 39),gB 41 .gtr 40 (kI 1),gM 42 41,gg 43 (.mv 5) 42 true,gg 44 (.bo .eql false 43 (.c (.i .u8 48))) 42 true,gp 45 (.pk 42 44 (.c (.b false)))] [2,4,45] [2,4]) (.ite 45 (.sq (.rg [] [gp 46 (.ld (some 3) 4),gS 3 2 46,gA 3 (kI 1)] [2,3] [2]) .rt) .sk))
def LX:AC:=.kp [2,4,5] [2,4] LV
def H3:bb:=⟨(.sq (.rg [] [gp 2 (.al [(.i .i64 0),(.i .i64 0),(.s [])]),gA 3 (kI 0)] [0,2] [0,2]) (.sq (.rg [] [gM 6 0,gp 7 (.nc 6),gF 8 1 7,gQ 9 8,gp 10 (.bd [(.i .i64 0),(.i .i64 0),(.s [])] [(0,1,(kI 3)),(1,1,9)]),gp 4 (.al [(.i .i64 0),(.i .i64 0),(.s [])]),gS 3 4 10] [0,2,4] [0,2,4]) (.sq (.rg [] [gM 11 0,gp 12 (.c3 57 [11]),gA 5 12] [0,2,4,5] [0,2,4]) (.sq (.bl 0 (.sq (.rg [] [gM 15 5,gp 16 (.ca 0 58 [15]),gA 14 16] [0,2,4,5,14] [0,2,4]) (.ite 14 (.sq (.rg [] [gF 17 0 4,gS 1 17 (kI 1)] [0,2,4] [0,2,4]) (.sq (.rg [] [gM 18 0,gp 19 (.c2 59 [18,(.c (.f 60 []))]),gF 20 2 4,gS 1 20 19] [2,4] [2,4]) (.sq (.rg [] [gF 21 2 4,gQ 22 21,gp 23 (.ln true 22),gB 24 .gtr 23 (kI 12)] [2,4,24] [2,4]) (.ite 24 (.sq (.rg [] [gp 25 (.ld (some 3) 4),gS 3 2 25,gA 3 (kI 2)] [2,3] [2]) .rt) .sk)))) (.sq (.rg [] [gM 27 5,gp 28 (.ca 0 61 [27]),gA 26 28] [0,2,4,5,26] [0,2,4]) (.ite 26 (.sq (.rg [] [gF 29 0 4,gS 1 29 (kI 2)] [0,2,4,5] [0,2,4]) (.sq (.rg [] [gM 30 0,gp 31 (.c2 59 [30,(.c (.f 61 []))]),gF 32 2 4,gS 1 32 31] [2,4,5] [2,4]) (.sq (.sq (.rg [] [gF 33 2 4,gQ 34 33,gp 35 (.ln true 34),gB 36 .gtr 35 (kI 7)] [2,4,5,36] [2,4]) (.ite 36 (.sq (.rg [] [gp 37 (.ld (some 3) 4),gS 3 2 37,gA 3 (kI 2)] [2,3] [2]) .rt) .sk)) LX))) (.sq (.dg [] [] [gL (gM 48 0) [0] [],gL (gp 49 (.nc 48)) [48] [],gL (gF 50 0 49) [49] [],⟨gQ 51 50,true,[50],[],true,[],[],[]⟩,gL (gM 52 0) [0] [],gL (gp 53 (.nc 52)) [52] [],gL (gF 54 1 53) [53] [],⟨gQ 55 54,true,[54],[],true,[],[],[]⟩,gH (gp 56 (.sl 0 0 51 (some 55) none)),gH (gp 57 (.ca 0 62 [56,(.c (.s [61,61]))])),gH (gA 47 57)] [0,2,4,5,47] [0,2,4]) (.ite 47 (.sq (.rg [] [gF 58 2 4,gS 1 58 (.c (.s [61,61]))] [0,2,4] [0,2,4]) (.rg [] [gM 59 0,gp 60 (.nc 59),gF 61 1 60,gQ 62 61,gB 63 .add 62 (kI 2),gp 64 (.nc 59),gF 65 1 64,gS 1 65 63] [2,4] [2,4])) (.sq (.rg [] [gM 67 5,gp 68 (.ca 1 63 [(.c (.s [123,125,40,41,59,58,33,44,61,43,45,42,60])),67]),gB 69 .geq 68 (kI 0),gA 66 69] [0,2,4,5,66] [0,2,4]) (.ite 66 (.sq (.rg [] [gM 70 5,gp 71 (.cs 70),gF 72 2 4,gS 1 72 71] [0,2,4] [0,2,4]) (.rg [] [gM 73 0,gp 74 (.nc 73),gF 75 1 74,gQ 76 75,gB 77 .add 76 (kI 1),gp 78 (.nc 73),gF 79 1 78,gS 1 79 77] [2,4] [2,4])) (.sq (.rg [] [gp 13 (.ld (some 3) 4),gS 3 2 13,gA 3 (kI 1)] [2,3] [2]) .rt)))))))))) (.sq (.rg [] [gp 80 (.ld (some 3) 4),gS 3 2 80,gA 3 (kI 0)] [2,3] [2]) .rt))))),[.c 2 (some 3),.t 3]⟩
def LY:AC:=(.rg [] [gF 13 0 3,gQ 14 13,gp 15 (.ld (some 13) 4),gz 16 (.bs 41 13 [15]),gp 17 (.ap 41 13 192 14 16),gF 18 0 3,gS 1 18 17] [0,2,3] [0,2,3])
def LZ:AC:=.kp [0,2,3,4] [0,2,3,4] LY
def L0:AC:=(.bl 1 (.sq (.rg [.ownC 3 0 41] [gM 7 0,gp 8 (.c2 64 [7]),gM 6 8,gp 9 (.ex 6 0),gp 10 (.ex 6 1),gp 4 (.al [(.i .i64 0),(.i .i64 0),(.s []),(.s []),(.b false),(.l 56 []),(.l 9 []),(.l 36 []),(.i .i64 0),(.i .i64 0),(.i .i64 0),(.s []),(.l 34 [])]),gS 13 4 9,gA 5 10] [0,2,3,4,5] [0,2,3,4]) (.sq (.sq (.rg [] [gM 11 5,gp 12 (.no 11)] [0,2,3,4,12] [0,2,3,4]) (.ite 12 (.ex 0) .sk)) LZ)))
def L1:bC:=⟨[0,2,3],[0,2,3],L0⟩
def L2:AC:=(.sq (.rg [] [gM 19 0,gz 20 (.bs 9 1 [(.c (.s [109,97,105,110]))]),gp 21 (.c2 65 [19,20])] [0,2,3] [0,2,3]) (.sq (.rg [] [gM 22 0,gp 23 (.c2 66 [22]),gF 24 1 3,gS 1 24 23] [0,2,3] [0,2,3]) (.sq (.sq (.dg [] [] [gL (gM 25 0) [0] [],gL (gp 26 (.nc 25)) [25] [],gL (gF 27 1 26) [26] [],⟨gQ 28 27,true,[27],[],true,[],[],[]⟩,gL (gM 29 0) [0] [],gL (gp 30 (.nc 29)) [29] [],gL (gF 31 0 30) [30] [],⟨gQ 32 31,true,[31],[],true,[],[],[]⟩,⟨gp 33 (.ln false 32),true,[32],[],true,[],[],[]⟩,gH (gB 34 .lss 28 33)] [0,2,3,34] [0,2,3]) (.ite 34 (.rg [] [gM 35 0,gp 36 (.c2 67 [35])] [2,3] [2,3]) .sk)) (.sq (.rg [.fzC 3 0] [gp 37 (.ld (some 2) 3),gS 2 2 37] [2] [2]) .rt))))
def L3:AC:=.kp [0,2,3] [0,2,3] L2
def Pg:bb:=⟨(.sq (.rg [] [gp 2 (.al [(.l 41 []),(.l 36 [])])] [0,2] [0,2]) (.sq (.rg [] [gp 3 (.al [.n,(.l 36 [])])] [0,2,3] [0,2,3]) (.sq (.bl 0 L1.lp) L3))),[.c 2 (some 2)]⟩
def L4:AC:=(.sq (.bl 1 (.sq (.rg [] [gM 10 8,gA 5 10] [0,1,5,7,8] []) (.sq (.rg [] [gM 11 1,gM 12 0,gM 13 5,gp 14 (.ia 4 none 12 13),gp 15 (.ld (some 4) 14),gp 16 (.cf 0 11 [15])] [0,1,5,7,8,16] []) (.ite 16 (.sq (.rg [] [gM 17 5,gA 4 17] [4] []) .rt) .sk)))) (.rg [] [gB 18 .add 8 (kI 1),gM 8 18] [0,1,7,8] []))
def L5:AC:=.kp [0,1,7,8] [] L4
def L6:AC:=(.sq (.rg [] [gB 9 .lss 8 7] [0,1,7,8,9] []) (.sq (.ite 9 .sk (.ex 0)) L5))
def CL:bC:=⟨[0,1,7,8],[],L6⟩
def H4:bb:=⟨(.sq (.rg [] [gA 4 (kI 0)] [0,1] []) (.sq (.sq (.rg [] [gM 6 0,gp 7 (.ln false 6),gM 8 (kI 0)] [0,1,7,8] []) (.bl 0 CL.lp)) (.sq (.rg [] [gA 4 (kI (-1))] [4] []) .rt))),[.t 4]⟩
def H5:bb:=⟨(.sq (.rg [] [gA 4 (.c (.b false))] [0,1] []) (.sq (.rg [] [gM 5 0,gM 6 1,gp 7 (.c2 68 [5,6]),gB 8 .geq 7 (kI 0),gA 4 8] [4] []) .rt)),[.t 4]⟩
def H6:bb:=⟨(.sq (.rg [] [gp 1 (.bx 0),gA 2 (.c (.b false))] [1] [1]) (.sq (.rg [] [gp 3 (.ld (some 5) 1),gp 4 (.ca 0 20 [3,(kI 15)]),gB 5 .gtr 4 (kI 15),gA 2 5] [2] []) .rt)),[.t 2]⟩
def H7:bb:=⟨(.sq (.rg [] [gA 2 (.c (.b false))] [0] []) (.sq (.rg [] [gM 3 0,gp 4 (.ca 0 69 [(kI 1),3]),gA 2 4] [2] []) .rt)),[.t 2]⟩
def H8:bb:=⟨(.sq (.rg [] [gA 4 (.c (.b false))] [0,1] []) (.sq (.rg [] [gM 5 0,gM 6 1,gp 7 (.ca 0 70 [5,6]),gB 8 .geq 7 (kI 0),gA 4 8] [4] []) .rt)),[.t 4]⟩
def H9:bb:=⟨(.sq (.rg [] [gA 0 (.c (.l 9 []))] [] []) (.sq (.rg [] [gz 1 (.bs 9 1 [(.c (.s [97,99,116,111,114])),(.c (.s [103,114,97,110,116])),(.c (.s [115,112,101,97,107])),(.c (.s [105,110])),(.c (.s [111,117,116])),(.c (.s [118,97,114])),(.c (.s [102,117,110,99])),(.c (.s [109,97,105,110])),(.c (.s [103,101,116])),(.c (.s [112,117,116])),(.c (.s [114,101,118,101,97,108])),(.c (.s [116,114,117,115,116])),(.c (.s [105,102])),(.c (.s [101,108,115,101])),(.c (.s [119,104,105,108,101])),(.c (.s [114,101,116,117,114,110]))]),gA 0 1] [0] []) .rt)),[.t 0]⟩
def Ia:bb:=⟨(.sq (.rg [] [gp 1 (.bx 0),gA 2 (.c (.b false))] [1] [1]) (.sq (.rg [] [gF 3 1 1,gQ 4 3,gp 5 (.ca 0 23 [4]),gp 6 (.no 5),gM 7 6,gg 8 (.fa 3 1) 7 false,gg 9 (.ld none 8) 7 false,gg 10 (.c2 27 [9,(.c (.f 49 []))]) 7 false,gp 11 (.pk 7 (.c (.b true)) 10),gA 2 11] [2] []) .rt)),[.t 2]⟩
def Ib:bb:=⟨(.sq (.rg [] [gA 2 (.c (.b false))] [0] []) (.sq (.rg [] [gM 3 0,gp 4 (.ca 0 23 [3]),gp 5 (.no 4),gA 2 5] [2] []) .rt)),[.t 2]⟩
def L7:AC:=(.sq (.rg [] [gF 60 4 1,gQ 61 60,gp 62 (.c2 43 [61,(.c (.f 71 []))]),gp 63 (.no 62),gA 2 63] [2] []) .rt)
def L8:AC:=.kp [1] [1] L7
def L9:AC:=(.sq (.sq (.rg [] [gF 41 0 1,gQ 42 41,gB 43 .eql 42 (kI 2),gM 44 43,gg 45 (.fa 3 1) 44 true,gg 46 (.ld none 45) 44 true,gg 47 (.ca 0 23 [46]) 44 true,gg 48 (.no 47) 44 true,gp 49 (.pk 44 48 (.c (.b false))),gM 50 49,gg 51 (.fa 2 1) 50 false,gg 52 (.ld none 51) 50 false,gg 53 (.bo .lss false 52 (kI (-9999999))) 50 false,gp 54 (.pk 50 (.c (.b true)) 53),gM 55 54,gg 56 (.fa 2 1) 55 false,gg 57 (.ld none 56) 55 false,gg 58 (.bo .gtr false 57 (kI 9999999)) 55 false,gp 59 (.pk 55 (.c (.b true)) 58)] [1,59] [1]) (.ite 59 (.sq (.rg [] [gA 2 (.c (.b false))] [2] []) .rt) .sk)) L8)
def Ma:AC:=.kp [1] [1] L9
def F4:AC:=(.sq (.sq (.rg [] [gF 17 4 1,gQ 18 17,gp 19 (.ln false 18),gM 20 3,gB 21 .neq 19 20,gM 22 21,gg 23 (.fa 0 1) 22 false,gg 24 (.ld none 23) 22 false,gg 25 (.bo .neq false 24 (kI 1)) 22 false,gg 26 (.mv 25) 22 false,gg 27 (.fa 2 1) 26 true,gg 28 (.ld none 27) 26 true,gg 29 (.bo .neq false 28 (kI 0)) 26 true,gg 30 (.pk 26 29 (.c (.b false))) 22 false,gp 31 (.pk 22 (.c (.b true)) 30),gM 32 31,gg 33 (.fa 0 1) 32 false,gg 34 (.ld none 33) 32 false,gg 35 (.bo .eql false 34 (kI 2)) 32 false,gg 36 (.fa 3 1) 32 false,gg 37 (.ld none 36) 32 false,gg 38 (.bo .neq false 37 (.c (.s []))) 32 false,gg 39 (.bo .neq true 35 38) 32 false,gp 40 (.pk 32 (.c (.b true)) 39)] [1,40] [1]) (.ite 40 (.sq (.rg [] [gA 2 (.c (.b false))] [2] []) .rt) .sk)) Ma)
def Mb:AC:=.kp [1,3] [1] F4
def Ic:bb:=⟨(.sq (.rg [] [gp 1 (.bx 0),gA 2 (.c (.b false))] [1] [1]) (.sq (.rg [] [gA 3 (kI 0)] [1,3] [1]) (.sq (.bl 0 (.sq (.rg [] [gF 5 0 1,gQ 6 5,gB 7 .lss 6 (kI 1),gM 8 7,gg 9 (.fa 0 1) 8 false,gg 10 (.ld none 9) 8 false,gg 11 (.bo .gtr false 10 (kI 7)) 8 false,gp 12 (.pk 8 (.c (.b true)) 11),gA 4 12] [1,3,4] [1]) (.ite 4 (.sq (.rg [] [gA 2 (.c (.b false))] [2] []) .rt) (.sq (.rg [] [gF 14 0 1,gQ 15 14,gB 16 .gtr 15 (kI 2),gA 13 16] [1,3,13] [1]) (.ite 13 (.rg [] [gA 3 (kI 2)] [1,3] [1]) .sk))))) Mb))),[.t 2]⟩
def Ie:bb:=⟨(.sq (.rg [] [gp 1 (.bx 0),gA 2 (.c (.b false))] [1] [1]) (.sq (.rg [] [gF 3 0 1,gQ 4 3,gB 5 .eql 4 (kI 0),gM 6 5,gg 7 (.fa 2 1) 6 true,gg 8 (.ld none 7) 6 true,gg 9 (.bo .eql false 8 (kI 0)) 6 true,gp 10 (.pk 6 9 (.c (.b false))),gM 11 10,gg 12 (.fa 3 1) 11 true,gg 13 (.ld none 12) 11 true,gg 14 (.bo .eql false 13 (.c (.s []))) 11 true,gp 15 (.pk 11 14 (.c (.b false))),gM 16 15,gg 17 (.fa 4 1) 16 true,gg 18 (.ld none 17) 16 true,gg 19 (.ln false 18) 16 true,gg 20 (.bo .eql false 19 (kI 0)) 16 true,gp 21 (.pk 16 20 (.c (.b false))),gA 2 21] [2] []) .rt)),[.t 2]⟩
def Mc:AC:=(.sq (.bl 1 (.sq (.rg [] [gM 10 8,gA 5 10] [0,1,5,7,8] []) (.sq (.rg [] [gM 11 1,gM 12 0,gM 13 5,gp 14 (.ia 1 none 12 13),gQ 15 14,gp 16 (.cf 0 11 [15])] [0,1,5,7,8,16] []) (.ite 16 (.sq (.rg [] [gM 17 5,gA 4 17] [4] []) .rt) .sk)))) (.rg [] [gB 18 .add 8 (kI 1),gM 8 18] [0,1,7,8] []))
def Md:AC:=.kp [0,1,7,8] [] Mc
def Me:AC:=(.sq (.rg [] [gB 9 .lss 8 7] [0,1,7,8,9] []) (.sq (.ite 9 .sk (.ex 0)) Md))
def CM:bC:=⟨[0,1,7,8],[],Me⟩
def Ig:bb:=⟨(.sq (.rg [] [gA 4 (kI 0)] [0,1] []) (.sq (.sq (.rg [] [gM 6 0,gp 7 (.ln false 6),gM 8 (kI 0)] [0,1,7,8] []) (.bl 0 CM.lp)) (.sq (.rg [] [gA 4 (kI (-1))] [4] []) .rt))),[.t 4]⟩
def Mf:AC:=(.sq (.bl 1 (.sq (.rg [] [gM 10 8,gA 5 10] [0,1,5,7,8] []) (.sq (.rg [] [gM 11 1,gM 12 0,gM 13 5,gp 14 (.ia 12 none 12 13),gp 15 (.ld (some 12) 14),gp 16 (.cf 0 11 [15])] [0,1,5,7,8,16] []) (.ite 16 (.sq (.rg [] [gM 17 5,gA 4 17] [4] []) .rt) .sk)))) (.rg [] [gB 18 .add 8 (kI 1),gM 8 18] [0,1,7,8] []))
def Mg:AC:=.kp [0,1,7,8] [] Mf
def Mh:AC:=(.sq (.rg [] [gB 9 .lss 8 7] [0,1,7,8,9] []) (.sq (.ite 9 .sk (.ex 0)) Mg))
def F5:bC:=⟨[0,1,7,8],[],Mh⟩
def Ih:bb:=⟨(.sq (.rg [] [gA 4 (kI 0)] [0,1] []) (.sq (.sq (.rg [] [gM 6 0,gp 7 (.ln false 6),gM 8 (kI 0)] [0,1,7,8] []) (.bl 0 F5.lp)) (.sq (.rg [] [gA 4 (kI (-1))] [4] []) .rt))),[.t 4]⟩
def Ii:bb:=⟨(.sq (.rg [] [gp 1 (.bx 0),gA 2 (.c (.b false))] [1] [1]) (.sq (.rg [] [gp 3 (.ld (some 5) 1),gp 4 (.ca 0 50 [3]),gp 5 (.no 4),gA 2 5] [2] []) .rt)),[.t 2]⟩
def Mi:AC:=(.sq (.rg [] [gM 19 1,gp 20 (.ca 0 72 [19,(kI 0)]),gM 18 20,gp 21 (.ex 18 0),gp 22 (.ex 18 1),gA 5 21,gA 6 22] [0,1,5,6] []) (.sq (.rg [] [gM 23 5,gM 24 0,gB 25 .eql 23 24,gM 26 25,gg 27 (.mv 6) 26 true,gg 28 (.mv 1) 26 true,gg 29 (.ln true 28) 26 true,gg 30 (.bo .eql false 27 29) 26 true,gp 31 (.pk 26 30 (.c (.b false))),gM 32 31,gg 33 (.mv 5) 32 true,gg 34 (.bo .eql false 33 (kI 1)) 32 true,gg 35 (.mv 34) 32 true,gg 36 (.mv 6) 35 true,gg 37 (.bo .gtr false 36 (kI 12)) 35 true,gg 38 (.pk 35 37 (.c (.b false))) 32 true,gg 39 (.no 38) 32 true,gp 40 (.pk 32 39 (.c (.b false))),gM 41 40,gg 42 (.mv 5) 41 true,gg 43 (.bo .eql false 42 (kI 2)) 41 true,gg 44 (.mv 43) 41 true,gg 45 (.mv 6) 44 true,gg 46 (.bo .gtr false 45 (kI 7)) 44 true,gg 47 (.mv 46) 44 true,gg 48 (.mv 6) 47 false,gg 49 (.bo .gtr false 48 (kI 1)) 47 false,gg 50 (.mv 49) 47 false,gg 51 (.mv 1) 50 true,gg 52 (.ix 51 (kI 0)) 50 true,gg 53 (.bo .eql false 52 (.c (.i .u8 48))) 50 true,gg 54 (.pk 50 53 (.c (.b false))) 47 false,gg 55 (.pk 47 (.c (.b true)) 54) 44 true,gg 56 (.pk 44 55 (.c (.b false))) 41 true,gg 57 (.no 56) 41 true,gp 58 (.pk 41 57 (.c (.b false))),gA 4 58] [4] []) .rt))
def Mj:AC:=.kp [0,1] [] Mi
def Ij:bb:=⟨(.sq (.rg [] [gA 4 (.c (.b false))] [0,1] []) (.sq (.sq (.rg [] [gM 7 1,gB 8 .eql 7 (.c (.s [])),gM 9 8,gg 10 (.mv 1) 9 false,gg 11 (.ln true 10) 9 false,gg 12 (.bo .gtr false 11 (kI 6000)) 9 false,gp 13 (.pk 9 (.c (.b true)) 12),gM 14 13,gg 15 (.mv 0) 14 false,gg 16 (.bo .eql false 15 (kI 0)) 14 false,gp 17 (.pk 14 (.c (.b true)) 16)] [0,1,17] []) (.ite 17 (.sq (.rg [] [gA 4 (.c (.b false))] [4] []) .rt) .sk)) Mj)),[.t 4]⟩
def Mk:AC:=(.sq (.bl 1 (.sq (.rg [] [gM 12 3,gM 13 4,gp 14 (.ia 1 none 12 13),gQ 15 14,gM 16 0,gB 17 .eql 15 16] [0,3,4,17] []) (.ite 17 (.sq (.rg [] [gA 2 (.c (.b true))] [2] []) .rt) .sk))) (.rg [] [gM 10 4,gB 11 .add 10 (kI 1),gA 4 11] [0,3,4] []))
def Ml:AC:=.kp [0,3,4] [] Mk
def Mm:AC:=(.sq (.sq (.rg [] [gM 6 4,gM 7 3,gp 8 (.ln false 7),gB 9 .lss 6 8] [0,3,4,9] []) (.ite 9 .sk (.ex 0))) Ml)
def F6:bC:=⟨[0,3,4],[],Mm⟩
def Ik:bb:=⟨(.sq (.rg [] [gA 2 (.c (.b false))] [0] []) (.sq (.rg [] [gz 5 (.bs 9 1 [(.c (.s [97,99,116,111,114])),(.c (.s [103,114,97,110,116])),(.c (.s [115,112,101,97,107])),(.c (.s [105,110])),(.c (.s [111,117,116])),(.c (.s [118,97,114])),(.c (.s [102,117,110,99])),(.c (.s [109,97,105,110])),(.c (.s [103,101,116])),(.c (.s [112,117,116])),(.c (.s [114,101,118,101,97,108])),(.c (.s [116,114,117,115,116])),(.c (.s [105,102])),(.c (.s [101,108,115,101])),(.c (.s [119,104,105,108,101])),(.c (.s [114,101,116,117,114,110]))]),gA 3 5] [0,3] []) (.sq (.sq (.rg [] [gA 4 (kI 0)] [0,3,4] []) (.bl 0 F6.lp)) (.sq (.rg [] [gA 2 (.c (.b false))] [2] []) .rt)))),[.t 2]⟩
def Il:bb:=⟨(.sq (.rg [] [gA 2 (.c (.i .u8 0))] [0] [0]) (.sq (.sq (.dg [] [] [gL (gM 3 0) [0] [],gL (gp 4 (.nc 3)) [3] [],gL (gF 5 1 4) [4] [],⟨gQ 6 5,true,[5],[],true,[],[],[]⟩,gL (gM 7 0) [0] [],gL (gp 8 (.nc 7)) [7] [],gL (gF 9 0 8) [8] [],⟨gQ 10 9,true,[9],[],true,[],[],[]⟩,gL (gp 11 (.ln true 10)) [10] [],gH (gB 12 .lss 6 11)] [0,12] [0]) (.ite 12 (.sq (.dg [] [] [gL (gM 13 0) [0] [],gL (gp 14 (.nc 13)) [13] [],gL (gF 15 0 14) [14] [],⟨gQ 16 15,true,[15],[],true,[],[],[]⟩,gL (gM 17 0) [0] [],gL (gp 18 (.nc 17)) [17] [],gL (gF 19 1 18) [18] [],⟨gQ 20 19,true,[19],[],true,[],[],[]⟩,gH (gp 21 (.ix 16 20)),gH (gA 2 21)] [2] []) .rt) .sk)) (.sq (.rg [] [gA 2 (.c (.i .u8 0))] [2] []) .rt))),[.t 2]⟩
def Im:bb:=⟨(.sq (.rg [] [gA 2 (.c (.b false))] [0] []) (.sq (.rg [] [gM 3 0,gB 4 .geq 3 (.c (.i .u8 97)),gM 5 4,gg 6 (.mv 0) 5 true,gg 7 (.bo .leq false 6 (.c (.i .u8 122))) 5 true,gp 8 (.pk 5 7 (.c (.b false))),gA 2 8] [2] []) .rt)),[.t 2]⟩
def Mn:AC:=(.bl 1 (.rg [] [gM 33 0,gp 34 (.nc 33),gF 35 1 34,gQ 36 35,gB 37 .add 36 (kI 1),gp 38 (.nc 33),gF 39 1 38,gS 1 39 37] [0,1,5] [0]))
def Mo:AC:=.kp [0,1,5] [0] Mn
def Mp:AC:=(.sq (.sq (.dg [] [] [gL (gM 10 0) [0] [],gL (gp 11 (.nc 10)) [10] [],gL (gF 12 1 11) [11] [],⟨gQ 13 12,true,[12],[],true,[],[],[]⟩,gL (gM 14 0) [0] [],gL (gp 15 (.nc 14)) [14] [],gL (gF 16 0 15) [15] [],⟨gQ 17 16,true,[16],[],true,[],[],[]⟩,gL (gp 18 (.ln true 17)) [17] [],gL (gB 19 .lss 13 18) [13,18] [],gL (gM 20 19) [19] [],gL (gg 21 (.mv 1) 20 true) [1] [],gL (gg 22 (.mv 0) 20 true) [0] [],gL (gg 23 (.nc 22) 20 true) [22] [],gL (gg 24 (.fa 0 23) 20 true) [23] [],⟨gg 25 (.ld none 24) 20 true,true,[24],[],true,[],[],[]⟩,gL (gg 26 (.mv 0) 20 true) [0] [],gL (gg 27 (.nc 26) 20 true) [26] [],gL (gg 28 (.fa 1 27) 20 true) [27] [],⟨gg 29 (.ld none 28) 20 true,true,[28],[],true,[],[],[]⟩,gL (gg 30 (.ix 25 29) 20 true) [25,29] [],gH (gg 31 (.d2 21 [30]) 20 true),gH (gp 32 (.pk 20 31 (.c (.b false))))] [0,1,5,32] [0]) (.ite 32 .sk (.ex 0))) Mo)
def CN:bC:=⟨[0,1,5],[0],Mp⟩
def CO:AC:=(.sq (.dg [] [] [gL (gM 40 0) [0] [],gL (gp 41 (.nc 40)) [40] [],gL (gF 42 0 41) [41] [],⟨gQ 43 42,true,[42],[],true,[],[],[]⟩,gL (gM 44 5) [5] [],gL (gM 45 0) [0] [],gL (gp 46 (.nc 45)) [45] [],gL (gF 47 1 46) [46] [],⟨gQ 48 47,true,[47],[],true,[],[],[]⟩,gH (gp 49 (.sl 0 0 43 (some 44) (some 48))),gH (gA 4 49)] [4] []) .rt)
def Mq:AC:=.kp [0,5] [0] CO
def Io:bb:=⟨(.sq (.rg [] [gA 4 (.c (.s []))] [0,1] [0]) (.sq (.rg [] [gM 6 0,gp 7 (.nc 6),gF 8 1 7,gQ 9 8,gA 5 9] [0,1,5] [0]) (.sq (.bl 0 CN.lp) Mq))),[.t 4]⟩
def Ip:bb:=⟨(.sq (.rg [] [gA 2 (.c (.b false))] [0] []) (.sq (.rg [] [gM 3 0,gp 4 (.ca 0 58 [3]),gM 5 4,gg 6 (.mv 0) 5 false,gg 7 (.ca 0 61 [6]) 5 false,gp 8 (.pk 5 (.c (.b true)) 7),gA 2 8] [2] []) .rt)),[.t 2]⟩
def Iq:bb:=⟨(.sq (.rg [] [gA 2 (.c (.b false))] [0] []) (.sq (.rg [] [gM 3 0,gB 4 .geq 3 (.c (.i .u8 48)),gM 5 4,gg 6 (.mv 0) 5 true,gg 7 (.bo .leq false 6 (.c (.i .u8 57))) 5 true,gp 8 (.pk 5 7 (.c (.b false))),gA 2 8] [2] []) .rt)),[.t 2]⟩
def Ir:bb:=⟨(.sq (.rg [] [gA 4 (.c (.b false))] [0,1] []) (.sq (.rg [] [gM 5 0,gM 6 1,gp 7 (.ca 0 73 [5,6]),gA 4 7] [4] []) .rt)),[.t 4]⟩
def Mr:AC:=(.sq (.bl 1 (.sq (.rg [] [gM 14 12,gp 15 (.ia 1 none 10 12),gQ 16 15,gA 5 14,gA 6 16] [0,2,4,5,6,10,11,12] [0,2,4]) (.sq (.rg [] [gM 17 0,gM 18 6,gp 19 (.c2 76 [17,18])] [0,2,4,5,10,11,12,19] [0,2,4]) (.ite 19 (.sq (.rg [] [gM 20 5,gB 21 .add (kI 1) 20,gF 22 0 4,gS 1 22 21] [0,2,4] [0,2,4]) (.ex 0)) .sk)))) (.rg [] [gB 23 .add 12 (kI 1),gM 12 23] [0,2,4,10,11,12] [0,2,4]))
def Ms:AC:=.kp [0,2,4,10,11,12] [0,2,4] Mr
def Mt:AC:=(.sq (.rg [] [gB 13 .lss 12 11] [0,2,4,10,11,12,13] [0,2,4]) (.sq (.ite 13 .sk (.ex 0)) Ms))
def Mu:bC:=⟨[0,2,4,10,11,12],[0,2,4],Mt⟩
def Mv:AC:=(.sq (.rg [] [gM 66 0,gz 67 (.bs 9 1 [(.c (.s [59]))]),gp 68 (.c2 65 [66,67])] [2,4] [2,4]) (.sq (.rg [] [gp 69 (.ld (some 13) 4),gS 13 2 69,gA 3 (.c (.b true))] [2,3] [2]) .rt))
def Mw:AC:=.kp [0,2,4] [0,2,4] Mv
def Mx:AC:=(.sq (.rg [] [gF 43 0 4,gQ 44 43,gB 45 .eql 44 (kI 4),gM 46 45,gg 47 (.fa 0 4) 46 false,gg 48 (.ld none 47) 46 false,gg 49 (.bo .eql false 48 (kI 5)) 46 false,gp 50 (.pk 46 (.c (.b true)) 49),gM 51 50,gg 52 (.fa 0 4) 51 false,gg 53 (.ld none 52) 51 false,gg 54 (.bo .eql false 53 (kI 6)) 51 false,gg 55 (.mv 54) 51 false,gg 56 (.mv 0) 55 true,gg 57 (.c3 79 [56,(.c (.s [123]))]) 55 true,gg 58 (.pk 55 57 (.c (.b false))) 51 false,gp 59 (.pk 51 (.c (.b true)) 58),gF 60 4 4,gS 1 60 59] [0,2,4] [0,2,4]) (.sq (.sq (.rg [] [gF 61 4 4,gQ 62 61] [0,2,4,62] [0,2,4]) (.ite 62 (.rg [] [gM 63 0,gp 64 (.c2 80 [63]),gF 65 5 4,gS 1 65 64] [0,2,4] [0,2,4]) .sk)) Mw))
def My:AC:=.kp [0,2,4] [0,2,4] Mx
def Mz:AC:=(.sq (.rg [] [gM 34 0,gp 35 (.c2 78 [34]),gF 36 2 4,gS 1 36 35] [0,2,4] [0,2,4]) (.sq (.sq (.rg [] [gF 37 0 4,gQ 38 37,gB 39 .eql 38 (kI 2)] [0,2,4,39] [0,2,4]) (.ite 39 (.rg [] [gM 40 0,gp 41 (.c2 78 [40]),gF 42 3 4,gS 1 42 41] [0,2,4] [0,2,4]) .sk)) My))
def MA:AC:=.kp [0,2,4] [0,2,4] Mz
def MB:AC:=(.sq (.sq (.rg [] [gF 24 0 4,gQ 25 24] [0,2,4,25] [0,2,4]) (.bl 2 (.sq (.rg [] [gB 27 .eql 25 (kI 0),gA 26 27] [0,2,4,25,26] [0,2,4]) (.ite 26 (.sq (.rg [] [gp 28 (.ld (some 13) 4),gS 13 2 28,gA 3 (.c (.b false))] [2,3] [2]) .rt) (.sq (.rg [] [gB 30 .eql 25 (kI 7),gA 29 30] [0,2,4,29] [0,2,4]) (.ite 29 (.sq (.rg [] [gM 31 0,gp 32 (.c2 77 [31,4])] [2,4] [2,4]) (.sq (.rg [] [gp 33 (.ld (some 13) 4),gS 13 2 33,gA 3 (.c (.b true))] [2,3] [2]) .rt)) .sk)))))) MA)
def MC:AC:=.kp [0,2,4] [0,2,4] MB
def Ph:bb:=⟨(.sq (.rg [] [gp 2 (.al [(.i .i64 0),(.i .i64 0),(.s []),(.s []),(.b false),(.l 56 []),(.l 9 []),(.l 36 []),(.i .i64 0),(.i .i64 0),(.i .i64 0),(.s []),(.l 34 [])]),gA 3 (.c (.b false))] [0,2] [0,2]) (.sq (.rg [] [gM 7 0,gp 8 (.c3 75 [7]),gp 9 (.bd [(.i .i64 0),(.i .i64 0),(.s []),(.s []),(.b false),(.l 56 []),(.l 9 []),(.l 36 []),(.i .i64 0),(.i .i64 0),(.i .i64 0),(.s []),(.l 34 [])] [(1,1,8)]),gp 4 (.al [(.i .i64 0),(.i .i64 0),(.s []),(.s []),(.b false),(.l 56 []),(.l 9 []),(.l 36 []),(.i .i64 0),(.i .i64 0),(.i .i64 0),(.s []),(.l 34 [])]),gS 13 4 9] [0,2,4] [0,2,4]) (.sq (.sq (.rg [] [gz 10 (.bs 9 1 [(.c (.s [97,99,116,111,114])),(.c (.s [103,114,97,110,116])),(.c (.s [115,112,101,97,107])),(.c (.s [105,110])),(.c (.s [111,117,116])),(.c (.s [118,97,114])),(.c (.s [102,117,110,99]))]),gp 11 (.ln false 10),gM 12 (kI 0)] [0,2,4,10,11,12] [0,2,4]) (.bl 0 Mu.lp)) MC))),[.c 2 (some 13),.t 3]⟩
def MD:AC:=(.sq (.bl 1 (.sq (.rg [] [gp 10 (.ia 1 none 6 8),gQ 11 10,gA 5 11] [0,5,6,7,8] [0]) (.sq (.rg [] [gM 12 0,gM 13 5,gp 14 (.c2 76 [12,13]),gp 15 (.no 14)] [0,6,7,8,15] [0]) (.ite 15 (.rg [] [gM 16 0,gp 17 (.c2 67 [16])] [0,6,7,8] [0]) .sk)))) (.rg [] [gB 18 .add 8 (kI 1),gM 8 18] [0,6,7,8] [0]))
def ME:AC:=.kp [0,6,7,8] [0] MD
def MF:AC:=(.sq (.rg [] [gB 9 .lss 8 7] [0,6,7,8,9] [0]) (.sq (.ite 9 .sk (.ex 0)) ME))
def MG:bC:=⟨[0,6,7,8],[0],MF⟩
def Pj:bb:=⟨(.sq (.rg [] [gM 6 1,gp 7 (.ln false 6),gM 8 (kI 0)] [0,6,7,8] [0]) (.bl 0 MG.lp)),[]⟩
def MH:AC:=(.bl 1 (.rg [] [gM 10 3,gM 11 0,gp 12 (.c2 81 [11]),gz 13 (.bs 36 12 [12]),gp 14 (.ap 36 12 184 10 13),gA 3 14] [0,3] [0]))
def MI:AC:=.kp [0,3] [0] MH
def MJ:AC:=(.sq (.sq (.rg [.own 3 36] [gM 7 0,gp 8 (.c3 79 [7,(.c (.s [125]))]),gp 9 (.no 8)] [0,3,9] [0]) (.ite 9 .sk (.ex 0))) MI)
def MK:bC:=⟨[0,3],[0],MJ⟩
def ML:AC:=(.sq (.rg [] [gM 15 0,gz 16 (.bs 9 1 [(.c (.s [125]))]),gp 17 (.c2 65 [15,16])] [3] []) (.sq (.rg [] [gM 18 3,gA 2 18] [2,3] []) .rt))
def MM:AC:=.kp [0,3] [0] ML
def Pk:bb:=⟨(.sq (.rg [] [gA 2 (.c (.l 36 []))] [0] [0]) (.sq (.rg [] [gM 4 0,gz 5 (.bs 9 1 [(.c (.s [123]))]),gp 6 (.c2 65 [4,5])] [0] [0]) (.sq (.rg [] [gA 3 (.c .n)] [0,3] [0]) (.sq (.bl 0 MK.lp) MM)))),[.t 2]⟩
def Pm:bb:=⟨.bad,[]⟩
def MN:AC:=(.sq (.bl 1 (.sq (.rg [] [gM 10 8,gA 5 10] [0,1,5,7,8] []) (.sq (.rg [] [gM 11 1,gM 12 0,gM 13 5,gp 14 (.ia 5 none 12 13),gp 15 (.ld (some 5) 14),gp 16 (.cf 0 11 [15])] [0,1,5,7,8,16] []) (.ite 16 (.sq (.rg [] [gM 17 5,gA 4 17] [4] []) .rt) .sk)))) (.rg [] [gB 18 .add 8 (kI 1),gM 8 18] [0,1,7,8] []))
def MO:AC:=.kp [0,1,7,8] [] MN
def MP:AC:=(.sq (.rg [] [gB 9 .lss 8 7] [0,1,7,8,9] []) (.sq (.ite 9 .sk (.ex 0)) MO))
def zV:bC:=⟨[0,1,7,8],[],MP⟩
def Is:bb:=⟨(.sq (.rg [] [gA 4 (kI 0)] [0,1] []) (.sq (.sq (.rg [] [gM 6 0,gp 7 (.ln false 6),gM 8 (kI 0)] [0,1,7,8] []) (.bl 0 zV.lp)) (.sq (.rg [] [gA 4 (kI (-1))] [4] []) .rt))),[.t 4]⟩
def It:bb:=⟨(.sq (.rg [] [gA 4 (.c (.b false))] [0,1] []) (.sq (.rg [] [gM 9 1,gp 10 (.ca 0 16 [9]),gM 8 10,gp 11 (.ex 8 0),gp 12 (.ex 8 1),gp 13 (.ex 8 2),gA 5 11,gA 6 12,gA 7 13] [0,1,5,7] []) (.sq (.rg [] [gM 14 7,gB 15 .eql 14 (kI 0),gM 16 15,gg 17 (.mv 5) 16 true,gg 18 (.ln false 17) 16 true,gg 19 (.bo .eql false 18 (kI 1)) 16 true,gp 20 (.pk 16 19 (.c (.b false))),gM 21 20,gg 22 (.mv 5) 21 true,gg 23 (.ia 3 none 22 (kI 0)) 21 true,gg 24 (.fa 0 23) 21 true,gg 25 (.ld none 24) 21 true,gg 26 (.mv 0) 21 true,gg 27 (.bo .eql false 25 26) 21 true,gp 28 (.pk 21 27 (.c (.b false))),gM 29 28,gg 30 (.mv 5) 29 true,gg 31 (.ia 3 none 30 (kI 0)) 29 true,gg 32 (.fa 2 31) 29 true,gg 33 (.ld none 32) 29 true,gg 34 (.mv 1) 29 true,gg 35 (.bo .eql false 33 34) 29 true,gp 36 (.pk 29 35 (.c (.b false))),gA 4 36] [4] []) .rt))),[.t 4]⟩
def MQ:AC:=(.sq (.bl 1 (.sq (.rg [] [gM 10 8,gA 5 10] [0,1,5,7,8] []) (.sq (.rg [] [gM 11 1,gM 12 0,gM 13 5,gp 14 (.ia 1 none 12 13),gQ 15 14,gB 16 .eql 11 15] [0,1,5,7,8,16] []) (.ite 16 (.sq (.rg [] [gM 17 5,gA 4 17] [4] []) .rt) .sk)))) (.rg [] [gB 18 .add 8 (kI 1),gM 8 18] [0,1,7,8] []))
def MR:AC:=.kp [0,1,7,8] [] MQ
def MS:AC:=(.sq (.rg [] [gB 9 .lss 8 7] [0,1,7,8,9] []) (.sq (.ite 9 .sk (.ex 0)) MR))
def F7:bC:=⟨[0,1,7,8],[],MS⟩
def Iu:bb:=⟨(.sq (.rg [] [gA 4 (kI 0)] [0,1] []) (.sq (.sq (.rg [] [gM 6 0,gp 7 (.ln false 6),gM 8 (kI 0)] [0,1,7,8] []) (.bl 0 F7.lp)) (.sq (.rg [] [gA 4 (kI (-1))] [4] []) .rt))),[.t 4]⟩
def Iv:bb:=⟨(.sq (.rg [] [gp 1 (.bx 0),gA 2 (.c (.b false))] [1] [1]) (.sq (.rg [] [gp 3 (.ld (some 5) 1),gp 4 (.ca 0 50 [3]),gp 5 (.no 4),gA 2 5] [2] []) .rt)),[.t 2]⟩
def MT:AC:=(.sq (.sq (.rg [] [gM 16 1,gM 17 7,gB 18 .add 16 17,gM 19 0,gp 20 (.ln true 19),gB 21 .lss 18 20,gM 22 21,gg 23 (.mv 0) 22 true,gg 24 (.mv 1) 22 true,gg 25 (.mv 7) 22 true,gg 26 (.bo .add false 24 25) 22 true,gg 27 (.ix 23 26) 22 true,gg 28 (.ca 0 82 [27]) 22 true,gg 29 (.mv 28) 22 true,gg 30 (.mv 0) 29 false,gg 31 (.mv 1) 29 false,gg 32 (.mv 7) 29 false,gg 33 (.bo .add false 31 32) 29 false,gg 34 (.ix 30 33) 29 false,gg 35 (.ca 0 83 [34]) 29 false,gg 36 (.pk 29 (.c (.b true)) 35) 22 true,gp 37 (.pk 22 36 (.c (.b false)))] [0,1,7,37] []) (.ite 37 .sk (.ex 1))) (.bl 2 (.rg [] [gM 38 7,gB 39 .add 38 (kI 1),gA 7 39] [0,1,7] [])))
def F8:bC:=⟨[0,1,7],[],MT⟩
def MU:AC:=(.sq (.sq (.rg [] [gM 44 1,gM 45 7,gB 46 .add 44 45,gM 47 0,gp 48 (.ln true 47),gB 49 .lss 46 48,gM 50 49,gg 51 (.mv 0) 50 true,gg 52 (.mv 1) 50 true,gg 53 (.mv 7) 50 true,gg 54 (.bo .add false 52 53) 50 true,gg 55 (.ix 51 54) 50 true,gg 56 (.ca 0 83 [55]) 50 true,gp 57 (.pk 50 56 (.c (.b false)))] [0,1,7,57] []) (.ite 57 .sk (.ex 3))) (.bl 4 (.rg [] [gM 58 7,gB 59 .add 58 (kI 1),gA 7 59] [0,1,7] [])))
def F9:bC:=⟨[0,1,7],[],MU⟩
def MV:AC:=(.sq (.bl 6 (.sq (.rg [] [gM 84 8,gM 85 9,gp 86 (.ix 84 85),gM 87 6,gB 88 .eql 86 87] [6,8,9,88] []) (.ite 88 (.sq (.rg [] [gA 4 (kI 3),gA 5 (kI 1)] [4,5] []) .rt) .sk))) (.rg [] [gM 82 9,gB 83 .add 82 (kI 1),gA 9 83] [6,8,9] []))
def MW:AC:=.kp [6,8,9] [] MV
def MX:AC:=(.sq (.sq (.rg [] [gM 78 9,gM 79 8,gp 80 (.ln true 79),gB 81 .lss 78 80] [6,8,9,81] []) (.ite 81 .sk (.ex 5))) MW)
def Ga:bC:=⟨[6,8,9],[],MX⟩
def Gb:AC:=(.sq (.rg [] [gA 8 (.c (.s [123,125,40,41,59,58,33,44,61,43,45,42,60]))] [6,8] []) (.sq (.sq (.rg [] [gA 9 (kI 0)] [6,8,9] []) (.bl 5 Ga.lp)) (.sq (.rg [] [gA 4 (kI 0),gA 5 (kI 0)] [4,5] []) .rt)))
def MY:AC:=.kp [6] [] Gb
def Iw:bb:=⟨(.sq (.rg [] [gA 4 (kI 0),gA 5 (kI 0)] [0,1] []) (.sq (.rg [] [gM 10 0,gM 11 1,gp 12 (.ix 10 11),gA 6 12] [0,1,6] []) (.sq (.rg [] [gA 7 (kI 1)] [0,1,6,7] []) (.sq (.bl 0 (.sq (.rg [] [gM 14 6,gp 15 (.ca 0 82 [14]),gA 13 15] [0,1,6,7,13] []) (.ite 13 (.sq (.bl 1 F8.lp) (.sq (.rg [] [gM 40 7,gA 4 (kI 1),gA 5 40] [4,5] []) .rt)) (.sq (.rg [] [gM 42 6,gp 43 (.ca 0 83 [42]),gA 41 43] [0,1,6,7,41] []) (.ite 41 (.sq (.bl 3 F9.lp) (.sq (.rg [] [gM 60 7,gA 4 (kI 2),gA 5 60] [4,5] []) .rt)) (.sq (.rg [] [gM 62 6,gB 63 .eql 62 (.c (.i .u8 61)),gM 64 63,gg 65 (.mv 1) 64 true,gg 66 (.bo .add false 65 (kI 1)) 64 true,gg 67 (.mv 0) 64 true,gg 68 (.ln true 67) 64 true,gg 69 (.bo .lss false 66 68) 64 true,gp 70 (.pk 64 69 (.c (.b false))),gM 71 70,gg 72 (.mv 0) 71 true,gg 73 (.mv 1) 71 true,gg 74 (.bo .add false 73 (kI 1)) 71 true,gg 75 (.ix 72 74) 71 true,gg 76 (.bo .eql false 75 (.c (.i .u8 61))) 71 true,gp 77 (.pk 71 76 (.c (.b false))),gA 61 77] [6,61] []) (.ite 61 (.sq (.rg [] [gA 4 (kI 3),gA 5 (kI 2)] [4,5] []) .rt) .sk))))))) MY)))),[.t 4,.t 5]⟩
def Ix:bb:=⟨(.sq (.rg [] [gA 4 (.c (.b false))] [0,1] []) (.sq (.rg [] [gM 5 0,gp 6 (.ln true 5),gM 7 1,gp 8 (.ln true 7),gB 9 .geq 6 8,gM 10 9,gg 11 (.mv 0) 10 true,gg 12 (.mv 1) 10 true,gg 13 (.ln true 12) 10 true,gg 14 (.sl 0 0 11 none (some 13)) 10 true,gg 15 (.mv 1) 10 true,gg 16 (.bo .eql false 14 15) 10 true,gp 17 (.pk 10 16 (.c (.b false))),gA 4 17] [4] []) .rt)),[.t 4]⟩
def MZ:AC:=(.sq (.rg [] [gM 24 0,gp 25 (.nc 24),gF 26 2 25,gQ 27 26,gA 2 27] [2] []) .rt)
def M0:AC:=.kp [0] [0] MZ
def Pn:bb:=⟨(.sq (.rg [] [gA 2 (kI 0)] [0] [0]) (.sq (.sq (.dg [] [] [gL (gM 3 0) [0] [],gL (gp 4 (.nc 3)) [3] [],gL (gF 5 1 4) [4] [],⟨gQ 6 5,true,[5],[],true,[],[],[]⟩,gL (gM 7 0) [0] [],gL (gp 8 (.nc 7)) [7] [],gL (gF 9 0 8) [8] [],⟨gQ 10 9,true,[9],[],true,[],[],[]⟩,⟨gp 11 (.ln false 10),true,[10],[],true,[],[],[]⟩,gH (gB 12 .lss 6 11)] [0,12] [0]) (.ite 12 (.sq (.dg [] [] [gL (gM 13 0) [0] [],gL (gp 14 (.nc 13)) [13] [],gL (gF 15 0 14) [14] [],⟨gQ 16 15,true,[15],[],true,[],[],[]⟩,gL (gM 17 0) [0] [],gL (gp 18 (.nc 17)) [17] [],gL (gF 19 1 18) [18] [],⟨gQ 20 19,true,[19],[],true,[],[],[]⟩,gH (gp 21 (.ia 3 none 16 20)),gH (gF 22 1 21),gH (gQ 23 22),gH (gA 2 23)] [2] []) .rt) .sk)) M0)),[.t 2]⟩
def M1:AC:=(.sq (.rg [] [gM 9 0,gp 10 (.nc 9),gF 11 1 10,gQ 12 11,gB 13 .add 12 (kI 1),gp 14 (.nc 9),gF 15 1 14,gS 1 15 13] [] []) (.sq (.rg [] [gA 4 (.c (.b true))] [4] []) .rt))
def M3:AC:=.kp [0] [0] M1
def Po:bb:=⟨(.sq (.rg [] [gA 4 (.c (.b false))] [0,1] [0]) (.sq (.sq (.rg [] [gM 5 0,gM 6 1,gp 7 (.c3 79 [5,6]),gp 8 (.no 7)] [0,8] [0]) (.ite 8 (.sq (.rg [] [gA 4 (.c (.b false))] [4] []) .rt) .sk)) M3)),[.t 4]⟩
def M4:AC:=(.sq (.rg [] [gM 30 0,gp 31 (.nc 30),gF 32 1 31,gQ 33 32,gB 34 .add 33 (kI 1),gp 35 (.nc 30),gF 36 1 35,gS 1 36 34] [0] [0]) (.sq (.dg [] [] [gL (gM 37 0) [0] [],gL (gp 38 (.nc 37)) [37] [],gL (gF 39 0 38) [38] [],⟨gQ 40 39,true,[39],[],true,[],[],[]⟩,gL (gM 41 0) [0] [],gL (gp 42 (.nc 41)) [41] [],gL (gF 43 1 42) [42] [],⟨gQ 44 43,true,[43],[],true,[],[],[]⟩,gL (gB 45 .sub 44 (kI 1)) [44] [],gH (gp 46 (.ia 3 none 40 45)),gH (gF 47 2 46),gH (gQ 48 47),gH (gA 2 48)] [2] []) .rt))
def M5:AC:=.kp [0] [0] M4
def Pp:bb:=⟨(.sq (.rg [] [gA 2 (.c (.s []))] [0] [0]) (.sq (.sq (.dg [] [] [gL (gM 3 0) [0] [],gL (gp 4 (.nc 3)) [3] [],gL (gF 5 1 4) [4] [],⟨gQ 6 5,true,[5],[],true,[],[],[]⟩,gL (gM 7 0) [0] [],gL (gp 8 (.nc 7)) [7] [],gL (gF 9 0 8) [8] [],⟨gQ 10 9,true,[9],[],true,[],[],[]⟩,⟨gp 11 (.ln false 10),true,[10],[],true,[],[],[]⟩,gL (gB 12 .geq 6 11) [6,11] [],gL (gM 13 12) [12] [],gL (gg 14 (.mv 0) 13 false) [0] [],gL (gg 15 (.nc 14) 13 false) [14] [],gL (gg 16 (.fa 0 15) 13 false) [15] [],⟨gg 17 (.ld none 16) 13 false,true,[16],[],true,[],[],[]⟩,gL (gg 18 (.mv 0) 13 false) [0] [],gL (gg 19 (.nc 18) 13 false) [18] [],gL (gg 20 (.fa 1 19) 13 false) [19] [],⟨gg 21 (.ld none 20) 13 false,true,[20],[],true,[],[],[]⟩,gH (gg 22 (.ia 3 none 17 21) 13 false),gH (gg 23 (.fa 2 22) 13 false),gH (gg 24 (.ld none 23) 13 false),gH (gg 25 (.ca 0 23 [24]) 13 false),gH (gg 26 (.no 25) 13 false),gH (gp 27 (.pk 13 (.c (.b true)) 26))] [0,27] [0]) (.ite 27 (.rg [] [gM 28 0,gp 29 (.c2 67 [28])] [0] [0]) .sk)) M5)),[.t 2]⟩
def Pq:bb:=⟨(.sq (.rg [] [gA 4 (.c (.b false))] [0,1] [0]) (.sq (.dg [] [] [gL (gM 5 0) [0] [],gL (gp 6 (.nc 5)) [5] [],gL (gF 7 1 6) [6] [],⟨gQ 8 7,true,[7],[],true,[],[],[]⟩,gL (gM 9 0) [0] [],gL (gp 10 (.nc 9)) [9] [],gL (gF 11 0 10) [10] [],⟨gQ 12 11,true,[11],[],true,[],[],[]⟩,⟨gp 13 (.ln false 12),true,[12],[],true,[],[],[]⟩,gL (gB 14 .lss 8 13) [8,13] [],gL (gM 15 14) [14] [],gL (gg 16 (.mv 0) 15 true) [0] [],gL (gg 17 (.nc 16) 15 true) [16] [],gL (gg 18 (.fa 0 17) 15 true) [17] [],⟨gg 19 (.ld none 18) 15 true,true,[18],[],true,[],[],[]⟩,gL (gg 20 (.mv 0) 15 true) [0] [],gL (gg 21 (.nc 20) 15 true) [20] [],gL (gg 22 (.fa 1 21) 15 true) [21] [],⟨gg 23 (.ld none 22) 15 true,true,[22],[],true,[],[],[]⟩,⟨gg 24 (.ia 3 none 19 23) 15 true,true,[19,23],[],true,[],[],[]⟩,⟨gg 25 (.fa 2 24) 15 true,true,[24],[],true,[],[],[]⟩,⟨gg 26 (.ld none 25) 15 true,true,[25],[],true,[],[],[]⟩,gL (gg 27 (.mv 1) 15 true) [1] [],gH (gg 28 (.bo .eql false 26 27) 15 true),gH (gp 29 (.pk 15 28 (.c (.b false)))),gH (gA 4 29)] [4] []) .rt)),[.t 4]⟩
def Pr:bb:=⟨(.sq (.rg [] [gp 1 (.bx 0),gA 2 (.c (.l 56 []))] [1] [0,1]) (.sq (.rg [] [gp 3 (.al [.n])] [1,3] [0,1,3]) (.sq (.rg [.ownC 3 0 56] [gQ 4 1,gz 5 (.bs 9 1 [(.c (.s [123]))]),gp 6 (.c2 65 [4,5])] [1,3] [0,1,3]) (.sq (.rg [] [gQ 7 1,gp 8 (.mf 88 [1,3]),gp 9 (.c2 85 [7,(.c (.s [59])),(.c (.s [125])),8])] [1,3] [0,1,3]) (.sq (.rg [] [gQ 10 1,gz 11 (.bs 9 1 [(.c (.s [125]))]),gp 12 (.c2 65 [10,11])] [3] [3]) (.sq (.rg [.fzC 3 0] [gQ 13 3,gA 2 13] [2] []) .rt)))))),[.t 2]⟩
def M6:AC:=(.sq (.rg [] [gM 59 0,gz 60 (.bs 9 1 [(.c (.s [59]))]),gp 61 (.c2 65 [59,60])] [2,3] [2,3]) (.sq (.rg [] [gp 62 (.ld (some 12) 3),gS 12 2 62] [2] [2]) .rt))
def M7:AC:=.kp [0,2,3] [0,2,3] M6
def Ps:bb:=⟨(.sq (.rg [] [gp 2 (.al [(.i .i64 0),(.i .i64 0),(.s []),(.s []),(.i .i64 0),(.i .i64 0),(.i .i64 0),(.s []),(.l 34 []),(.l 34 []),(.l 36 []),(.l 36 [])])] [0,2] [0,2]) (.sq (.rg [] [gM 4 0,gp 5 (.c3 75 [4]),gp 6 (.bd [(.i .i64 0),(.i .i64 0),(.s []),(.s []),(.i .i64 0),(.i .i64 0),(.i .i64 0),(.s []),(.l 34 []),(.l 34 []),(.l 36 []),(.l 36 [])] [(1,1,5)]),gp 3 (.al [(.i .i64 0),(.i .i64 0),(.s []),(.s []),(.i .i64 0),(.i .i64 0),(.i .i64 0),(.s []),(.l 34 []),(.l 34 []),(.l 36 []),(.l 36 [])]),gS 12 3 6] [0,2,3] [0,2,3]) (.sq (.bl 0 (.sq (.rg [] [gM 10 0,gp 11 (.c2 76 [10,(.c (.s [103,101,116]))]),gA 9 11] [0,2,3,9] [0,2,3]) (.ite 9 (.rg [] [gM 12 0,gp 13 (.c2 78 [12]),gM 14 0,gp 15 (.c2 78 [14]),gF 16 0 3,gS 1 16 (kI 3),gF 17 2 3,gS 1 17 13,gF 18 3 3,gS 1 18 15] [0,2,3] [0,2,3]) (.sq (.rg [] [gM 20 0,gp 21 (.c2 76 [20,(.c (.s [112,117,116]))]),gA 19 21] [0,2,3,19] [0,2,3]) (.ite 19 (.rg [] [gM 22 0,gp 23 (.c2 78 [22]),gM 24 0,gp 25 (.c2 87 [24,(kI 0)]),gF 26 0 3,gS 1 26 (kI 4),gF 27 3 3,gS 1 27 23,gF 28 4 3,gS 5 28 25] [0,2,3] [0,2,3]) (.sq (.rg [] [gM 30 0,gp 31 (.c2 76 [30,(.c (.s [114,101,118,101,97,108]))]),gA 29 31] [0,2,3,29] [0,2,3]) (.ite 29 (.rg [] [gM 32 0,gp 33 (.c2 78 [32]),gM 34 0,gp 35 (.c2 87 [34,(kI 0)]),gF 36 0 3,gS 1 36 (kI 5),gF 37 2 3,gS 1 37 33,gF 38 4 3,gS 5 38 35] [0,2,3] [0,2,3]) (.sq (.rg [] [gM 40 0,gp 41 (.c2 76 [40,(.c (.s [116,114,117,115,116]))]),gA 39 41] [0,2,3,39] [0,2,3]) (.ite 39 (.rg [] [gM 42 0,gp 43 (.c2 78 [42]),gM 44 0,gp 45 (.c2 87 [44,(kI 0)]),gF 46 0 3,gS 1 46 (kI 6),gF 47 2 3,gS 1 47 43,gF 48 4 3,gS 5 48 45] [0,2,3] [0,2,3]) (.sq (.rg [] [gM 50 0,gp 51 (.c3 79 [50,(.c (.s [105,102]))]),gM 52 51,gg 53 (.mv 0) 52 false,gg 54 (.c3 79 [53,(.c (.s [119,104,105,108,101]))]) 52 false,gp 55 (.pk 52 (.c (.b true)) 54),gA 49 55] [0,2,3,49] [0,2,3]) (.ite 49 (.sq (.rg [] [gM 56 0,gp 57 (.c2 90 [56,3])] [2,3] [2,3]) (.sq (.rg [] [gp 58 (.ld (some 12) 3),gS 12 2 58] [2] [2]) .rt)) (.rg [] [gM 7 0,gp 8 (.c2 91 [7,3])] [0,2,3] [0,2,3])))))))))))) M7))),[.c 2 (some 12)]⟩
def Iy:bb:=⟨(.sq (.rg [] [gA 2 (.c (.b false))] [0] []) (.sq (.rg [] [gM 3 0,gp 4 (.cv .i64 3),gp 5 (.ca 0 34 [4,(kI 97),(kI 122)]),gA 2 5] [2] []) .rt)),[.t 2]⟩
def Iz:bb:=⟨(.sq (.rg [] [gA 2 (.c (.b false))] [0] []) (.sq (.rg [] [gM 3 0,gp 4 (.cv .i64 3),gp 5 (.ca 0 34 [4,(kI 48),(kI 57)]),gA 2 5] [2] []) .rt)),[.t 2]⟩
def M8:AC:=(.sq (.sq (.rg [] [gM 13 0,gM 14 1,gp 15 (.c2 76 [13,14])] [0,1,3,15] [0]) (.ite 15 .sk (.ex 0))) (.bl 1 (.rg [] [gM 16 3,gp 17 (.d2 16 [])] [0,1,3] [0])))
def M9:bC:=⟨[0,1,3],[0],M8⟩
def Na:AC:=(.sq (.rg [] [gM 11 3,gp 12 (.d2 11 [])] [0,1,3] [0]) (.bl 0 M9.lp))
def Nb:AC:=.kp [0,1,3] [0] Na
def Pt:bb:=⟨(.sq (.sq (.rg [] [gM 8 0,gM 9 2,gp 10 (.c3 79 [8,9])] [0,1,3,10] [0]) (.ite 10 .rt .sk)) Nb),[]⟩
def Nc:AC:=(.sq (.rg [] [gM 22 0,gp 23 (.nc 22),gF 24 1 23,gQ 25 24,gB 26 .add 25 (kI 1),gp 27 (.nc 22),gF 28 1 27,gS 1 28 26] [0,1,4,5] [0,4,5]) (.sq (.rg [] [gM 29 0,gM 30 1,gB 31 .add 30 (kI 1),gp 32 (.c2 87 [29,31]),gp 6 (.al [(.i .i64 0),(.i .i64 0),(.i .i64 0),(.s []),(.l 34 [])]),gS 5 6 32] [0,1,4,5,6] [0,4,5,6]) (.sq (.rg [] [gM 33 0,gp 34 (.c2 92 [33]),gF 35 0 5,gS 1 35 34] [0,1,4,5,6] [0,4,5,6]) (.sq (.rg [] [gM 36 0,gM 37 1,gB 38 .add 37 (kI 1),gp 39 (.c2 87 [36,38]),gp 7 (.al [(.i .i64 0),(.i .i64 0),(.i .i64 0),(.s []),(.l 34 [])]),gS 5 7 39] [0,4,5,6,7] [0,4,5,6,7]) (.sq (.rg [] [gM 40 0,gz 41 (.bs 9 1 [(.c (.s [41]))]),gp 42 (.c2 65 [40,41])] [4,5,6,7] [4,5,6,7]) (.rg [] [gp 43 (.ld (some 5) 6),gp 44 (.ld (some 5) 7),gz 45 (.bs 34 5 [43,44]),gF 46 4 5,gS 1 46 45] [4,5] [4,5]))))))
def Nd:AC:=.kp [0,1,4,5] [0,4,5] Nc
def Nf:AC:=(.rg [] [gM 54 0,gp 55 (.c2 93 [54]),gp 56 (.ng 55),gF 57 2 5,gS 1 57 56] [4,5] [4,5])
def Ng:AC:=.kp [0,4,5] [0,4,5] Nf
def Pu:bb:=⟨(.sq (.rg [] [gp 4 (.al [(.i .i64 0),(.i .i64 0),(.i .i64 0),(.s []),(.l 34 [])])] [0,1,4] [0,4]) (.sq (.rg [] [gM 8 0,gp 9 (.c3 75 [8]),gp 10 (.bd [(.i .i64 0),(.i .i64 0),(.i .i64 0),(.s []),(.l 34 [])] [(0,1,(kI 1)),(1,1,9)]),gp 5 (.al [(.i .i64 0),(.i .i64 0),(.i .i64 0),(.s []),(.l 34 [])]),gS 5 5 10] [0,1,4,5] [0,4,5]) (.sq (.bl 0 (.sq (.rg [] [gM 16 0,gp 17 (.c3 79 [16,(.c (.s [40]))]),gA 15 17] [0,1,4,5,15] [0,4,5]) (.ite 15 (.sq (.sq (.rg [] [gM 18 1,gB 19 .eql 18 (kI 60)] [0,1,4,5,19] [0,4,5]) (.ite 19 (.rg [] [gM 20 0,gp 21 (.c2 67 [20])] [0,1,4,5] [0,4,5]) .sk)) Nd) (.sq (.rg [] [gM 48 0,gp 49 (.c2 76 [48,(.c (.s [45]))]),gA 47 49] [0,4,5,47] [0,4,5]) (.ite 47 (.sq (.sq (.rg [] [gM 50 0,gp 51 (.c3 79 [50,(.c (.s [48]))])] [0,4,5,51] [0,4,5]) (.ite 51 (.rg [] [gM 52 0,gp 53 (.c2 67 [52])] [0,4,5] [0,4,5]) .sk)) Ng) (.sq (.dg [] [] [gL (gM 59 0) [0] [],gL (gp 60 (.nc 59)) [59] [],gL (gF 61 1 60) [60] [],⟨gQ 62 61,true,[61],[],true,[],[],[]⟩,gL (gM 63 0) [0] [],gL (gp 64 (.nc 63)) [63] [],gL (gF 65 0 64) [64] [],⟨gQ 66 65,true,[65],[],true,[],[],[]⟩,⟨gp 67 (.ln false 66),true,[66],[],true,[],[],[]⟩,gL (gB 68 .lss 62 67) [62,67] [],gL (gM 69 68) [68] [],gL (gg 70 (.mv 0) 69 true) [0] [],gL (gg 71 (.nc 70) 69 true) [70] [],gL (gg 72 (.fa 0 71) 69 true) [71] [],⟨gg 73 (.ld none 72) 69 true,true,[72],[],true,[],[],[]⟩,gL (gg 74 (.mv 0) 69 true) [0] [],gL (gg 75 (.nc 74) 69 true) [74] [],gL (gg 76 (.fa 1 75) 69 true) [75] [],⟨gg 77 (.ld none 76) 69 true,true,[76],[],true,[],[],[]⟩,gH (gg 78 (.ia 3 none 73 77) 69 true),gH (gg 79 (.fa 0 78) 69 true),gH (gg 80 (.ld none 79) 69 true),gH (gg 81 (.bo .eql false 80 (kI 2)) 69 true),gH (gp 82 (.pk 69 81 (.c (.b false)))),gH (gA 58 82)] [0,4,5,58] [0,4,5]) (.ite 58 (.rg [] [gM 83 0,gp 84 (.c2 93 [83]),gF 85 2 5,gS 1 85 84] [4,5] [4,5]) (.rg [] [gM 11 0,gp 12 (.c2 78 [11]),gF 13 0 5,gS 1 13 (kI 2),gF 14 3 5,gS 1 14 12] [4,5] [4,5])))))))) (.sq (.rg [] [gp 86 (.ld (some 5) 5),gS 5 4 86] [4] [4]) .rt)))),[.c 4 (some 5)]⟩
def Nh:AC:=(.rg [.fzC 2 3] [gQ 22 1,gp 23 (.ld (some 4) 2),gz 24 (.bs 56 4 [23]),gp 25 (.ap 56 4 56 22 24),gS 1 1 25] [] [])
def Ni:AC:=.kp [1,2] [1,2] Nh
def Nj:AC:=(.sq (.sq (.rg [] [gQ 16 0,gp 17 (.c3 79 [16,(.c (.s [59]))]),gp 18 (.no 17)] [0,1,2,18] [0,1,2]) (.ite 18 (.rg [] [gQ 19 0,gp 20 (.mf 89 [2,0]),gp 21 (.c2 85 [19,(.c (.s [44])),(.c (.s [125])),20])] [1,2] [1,2]) .sk)) Ni)
def Nk:AC:=.kp [0,1,2] [0,1,2] Nj
def Pv:bb:=⟨(.sq (.dg [] [2] [⟨gQ 3 0,true,[0],[],true,[],[2],[]⟩,⟨gp 4 (.c3 75 [3]),true,[3],[],true,[],[2],[]⟩,⟨gQ 5 0,true,[0],[],true,[],[2],[]⟩,gH (gp 6 (.ch 78 [5] [0] [] [2])),⟨gp 7 (.lk none 0 0 false),true,[0],[],true,[],[2],[]⟩,⟨gp 8 (.c3 79 [7,(.c (.s [33]))]),true,[7],[],true,[],[2],[]⟩,gL (gp 9 (.bd [(.i .i64 0),(.s []),(.b false),.n] [(0,1,4),(1,1,6),(2,1,8)])) [4,6,8] [2],⟨gp 2 (.al [(.i .i64 0),(.s []),(.b false),.n]),true,[],[2],false,[],[],[1000000]⟩,gH (gS 4 2 9)] [0,1,2] [0,1,2]) (.sq (.sq (.rg [.ownC 2 3 9] [gQ 10 0,gp 11 (.c2 76 [10,(.c (.s [33]))]),gp 12 (.no 11)] [0,1,2,12] [0,1,2]) (.ite 12 (.rg [] [gQ 13 0,gz 14 (.bs 9 1 [(.c (.s [58]))]),gp 15 (.c2 65 [13,14])] [0,1,2] [0,1,2]) .sk)) Nk)),[]⟩
def Pw:bb:=⟨(.dg [] [6] [⟨gF 2 3 0,true,[0],[],false,[],[6],[1000000]⟩,⟨gp 3 (.lk none 2 0 false),true,[2,0],[],true,[],[6],[]⟩,⟨gQ 4 1,true,[1],[],true,[],[6],[]⟩,gH (gp 5 (.ch 78 [4] [0] [] [6])),gL (gz 6 (.bs 9 1 [5])) [5] [],gH (gp 7 (.ap 9 1 16 3 6)),gH (gF 8 3 0),gH (gS 1 8 7)] [] []),[]⟩
def Nl:AC:=(.sq (.rg [] [gM 12 0,gp 13 (.nc 12),gF 14 1 13,gQ 15 14,gB 16 .add 15 (kI 1),gp 17 (.nc 12),gF 18 1 17,gS 1 18 16] [0,1] [0,1]) (.sq (.rg [] [gM 19 1,gM 20 0,gp 21 (.c2 87 [20,(kI 0)]),gp 22 (.nc 19),gF 23 4 22,gS 5 23 21] [0,1] [0,1]) (.sq (.rg [] [gM 24 1,gM 25 0,gp 26 (.c2 66 [25]),gp 27 (.nc 24),gF 28 10 27,gS 1 28 26] [0,1] [0,1]) (.sq (.rg [] [gM 29 1,gp 30 (.nc 29),gF 31 0 30,gQ 32 31,gB 33 .eql 32 (kI 7),gM 34 33,gg 35 (.mv 0) 34 true,gg 36 (.c2 76 [35,(.c (.s [101,108,115,101]))]) 34 true,gp 37 (.pk 34 36 (.c (.b false)))] [0,1,37] [0,1]) (.ite 37 (.rg [] [gM 38 1,gM 39 0,gp 40 (.c2 66 [39]),gp 41 (.nc 38),gF 42 11 41,gS 1 42 40] [] []) .sk)))))
def Nn:AC:=.kp [0,1] [0,1] Nl
def Px:bb:=⟨(.sq (.rg [] [gM 4 1,gp 5 (.nc 4),gF 6 0 5,gS 1 6 (kI 8)] [0,1] [0,1]) (.sq (.sq (.rg [] [gM 7 0,gp 8 (.c3 79 [7,(.c (.s [105,102]))])] [0,1,8] [0,1]) (.ite 8 (.rg [] [gM 9 1,gp 10 (.nc 9),gF 11 0 10,gS 1 11 (kI 7)] [0,1] [0,1]) .sk)) Nn)),[]⟩
def No:AC:=(.sq (.bl 1 (.sq (.rg [] [gM 9 7,gp 10 (.ia 1 none 5 7),gQ 11 10,gA 3 9,gA 4 11] [0,3,4,5,6,7] [0]) (.sq (.rg [] [gM 12 0,gM 13 4,gp 14 (.c2 76 [12,13])] [0,3,5,6,7,14] [0]) (.ite 14 (.sq (.rg [] [gM 15 3,gB 16 .add (kI 3) 15,gA 2 16] [2] []) .rt) .sk)))) (.rg [] [gB 17 .add 7 (kI 1),gM 7 17] [0,5,6,7] [0]))
def Np:AC:=.kp [0,5,6,7] [0] No
def Nq:AC:=(.sq (.rg [] [gB 8 .lss 7 6] [0,5,6,7,8] [0]) (.sq (.ite 8 .sk (.ex 0)) Np))
def Nr:bC:=⟨[0,5,6,7],[0],Nq⟩
def Py:bb:=⟨(.sq (.rg [] [gA 2 (kI 0)] [0] [0]) (.sq (.sq (.rg [] [gz 5 (.bs 9 1 [(.c (.s [43])),(.c (.s [45])),(.c (.s [42])),(.c (.s [60])),(.c (.s [61,61]))]),gp 6 (.ln false 5),gM 7 (kI 0)] [0,5,6,7] [0]) (.bl 0 Nr.lp)) (.sq (.rg [] [gM 18 0,gp 19 (.c2 67 [18])] [] []) (.sq (.rg [] [gA 2 (kI 0)] [2] []) .rt)))),[.t 2]⟩
def Ns:AC:=(.sq (.dg [] [] [gL (gM 32 0) [0] [],gL (gp 33 (.nc 32)) [32] [],gL (gF 34 0 33) [33] [],⟨gQ 35 34,true,[34],[],true,[],[],[]⟩,gL (gM 36 0) [0] [],gL (gp 37 (.nc 36)) [36] [],gL (gF 38 1 37) [37] [],⟨gQ 39 38,true,[38],[],true,[],[],[]⟩,⟨gp 40 (.ia 3 none 35 39),true,[35,39],[],true,[],[],[]⟩,⟨gF 41 2 40,true,[40],[],true,[],[],[]⟩,⟨gQ 42 41,true,[41],[],true,[],[],[]⟩,gL (gp 43 (.ca 1 95 [42])) [42] [],gL (gM 31 43) [43] [],gL (gp 44 (.ex 31 0)) [31] [],gL (gp 45 (.ex 31 1)) [31] [],gL (gA 3 44) [44] [],gH (gA 4 45)] [0,3] [0]) (.sq (.rg [] [gM 46 0,gp 47 (.nc 46),gF 48 1 47,gQ 49 48,gB 50 .add 49 (kI 1),gp 51 (.nc 46),gF 52 1 51,gS 1 52 50] [3] []) (.sq (.rg [] [gM 53 3,gA 2 53] [2] []) .rt)))
def Nt:AC:=.kp [0] [0] Ns
def Pz:bb:=⟨(.sq (.rg [] [gA 2 (kI 0)] [0] [0]) (.sq (.sq (.dg [] [] [gL (gM 5 0) [0] [],gL (gp 6 (.nc 5)) [5] [],gL (gF 7 1 6) [6] [],⟨gQ 8 7,true,[7],[],true,[],[],[]⟩,gL (gM 9 0) [0] [],gL (gp 10 (.nc 9)) [9] [],gL (gF 11 0 10) [10] [],⟨gQ 12 11,true,[11],[],true,[],[],[]⟩,⟨gp 13 (.ln false 12),true,[12],[],true,[],[],[]⟩,gL (gB 14 .geq 8 13) [8,13] [],gL (gM 15 14) [14] [],gL (gg 16 (.mv 0) 15 false) [0] [],gL (gg 17 (.nc 16) 15 false) [16] [],gL (gg 18 (.fa 0 17) 15 false) [17] [],⟨gg 19 (.ld none 18) 15 false,true,[18],[],true,[],[],[]⟩,gL (gg 20 (.mv 0) 15 false) [0] [],gL (gg 21 (.nc 20) 15 false) [20] [],gL (gg 22 (.fa 1 21) 15 false) [21] [],⟨gg 23 (.ld none 22) 15 false,true,[22],[],true,[],[],[]⟩,gH (gg 24 (.ia 3 none 19 23) 15 false),gH (gg 25 (.fa 0 24) 15 false),gH (gg 26 (.ld none 25) 15 false),gH (gg 27 (.bo .neq false 26 (kI 2)) 15 false),gH (gp 28 (.pk 15 (.c (.b true)) 27))] [0,28] [0]) (.ite 28 (.rg [] [gM 29 0,gp 30 (.c2 67 [29])] [0] [0]) .sk)) Nt)),[.t 2]⟩
abbrev Ω0:bR:=fun f ys=>match f with
 | 63=>eu ys
 | 95=>qj ys
 | 17=>uH 41 2 ys
 | _=>none
def G:nC:=fun
 | 3=>some c3
 | 4=>some c4
 | 5=>some c5
 | 6=>some c6
 | 7=>some c7
 | 8=>some c8
 | 9=>some c9
 | 10=>some HD
 | 11=>some HE
 | 12=>some sG
 | 13=>some lI
 | 14=>some HF
 | 15=>some vA
 | 16=>some yP
 | 18=>some HG
 | 19=>some HH
 | 20=>some uw
 | 21=>some HI
 | 22=>some HJ
 | 23=>some HK
 | 24=>some HL
 | 25=>some HM
 | 26=>some HN
 | 27=>some HO
 | 28=>some HQ
 | 29=>some HR
 | 30=>some HS
 | 31=>some HT
 | 32=>some HU
 | 33=>some HV
 | 34=>some HW
 | 35=>some HX
 | 36=>some HY
 | 37=>some HZ
 | 38=>some H2
 | 39=>some H3
 | 41=>some Pg
 | 42=>some H4
 | 43=>some H5
 | 44=>some H6
 | 45=>some H7
 | 46=>some H8
 | 47=>some H9
 | 48=>some Ia
 | 49=>some Ib
 | 50=>some Ic
 | 51=>some Ie
 | 52=>some Ig
 | 53=>some Ih
 | 54=>some Ii
 | 55=>some Ij
 | 56=>some Ik
 | 57=>some Il
 | 58=>some Im
 | 59=>some Io
 | 60=>some Ip
 | 61=>some Iq
 | 62=>some Ir
 | 64=>some Ph
 | 65=>some Pj
 | 66=>some Pk
 | 67=>some Pm
 | 68=>some Is
 | 69=>some It
 | 70=>some Iu
 | 71=>some Iv
 | 72=>some Iw
 | 73=>some Ix
 | 75=>some Pn
 | 76=>some Po
 | 78=>some Pp
 | 79=>some Pq
 | 80=>some Pr
 | 81=>some Ps
 | 82=>some Iy
 | 83=>some Iz
 | 85=>some Pt
 | 87=>some Pu
 | 88=>some Pv
 | 89=>some Pw
 | 90=>some Px
 | 92=>some Py
 | 93=>some Pz
 | _=>none
theorem G3:G 3=some c3:=rfl
theorem G5:G 5=some c5:=rfl
theorem G6:G 6=some c6:=rfl
theorem G8:G 8=some c8:=rfl
theorem G9:G 9=some c9:=rfl
theorem Qo:G 10=some HD:=rfl
theorem Qp:G 11=some HE:=rfl
theorem Qq:G 12=some sG:=rfl
theorem Qr:G 13=some lI:=rfl
theorem Qs:G 14=some HF:=rfl
theorem Qt:G 15=some vA:=rfl
theorem Qu:G 16=some yP:=rfl
theorem PA:G 18=some HG:=rfl
theorem Qv:G 19=some HH:=rfl
theorem Qw:G 20=some uw:=rfl
theorem Qx:G 21=some HI:=rfl
theorem Qy:G 22=some HJ:=rfl
theorem Qz:G 23=some HK:=rfl
theorem QA:G 24=some HL:=rfl
theorem QB:G 25=some HM:=rfl
theorem QC:G 26=some HN:=rfl
theorem PB:G 27=some HO:=rfl
theorem QD:G 28=some HQ:=rfl
theorem QE:G 29=some HR:=rfl
theorem QF:G 30=some HS:=rfl
theorem QG:G 31=some HT:=rfl
theorem QH:G 32=some HU:=rfl
theorem QI:G 33=some HV:=rfl
theorem QJ:G 34=some HW:=rfl
theorem QK:G 35=some HX:=rfl
theorem QL:G 36=some HY:=rfl
theorem QM:G 37=some HZ:=rfl
theorem QN:G 38=some H2:=rfl
theorem QO:G 39=some H3:=rfl
theorem PC:G 42=some H4:=rfl
theorem IA:G 43=some H5:=rfl
theorem QP:G 44=some H6:=rfl
theorem QQ:G 45=some H7:=rfl
theorem QR:G 46=some H8:=rfl
theorem QS:G 47=some H9:=rfl
theorem QT:G 48=some Ia:=rfl
theorem QU:G 49=some Ib:=rfl
theorem QV:G 50=some Ic:=rfl
theorem QW:G 51=some Ie:=rfl
theorem PD:G 52=some Ig:=rfl
theorem QX:G 53=some Ih:=rfl
theorem QY:G 54=some Ii:=rfl
theorem QZ:G 55=some Ij:=rfl
theorem Q0:G 56=some Ik:=rfl
theorem Q1:G 57=some Il:=rfl
theorem Q2:G 58=some Im:=rfl
theorem PE:G 59=some Io:=rfl
theorem Q3:G 60=some Ip:=rfl
theorem Q4:G 61=some Iq:=rfl
theorem Q5:G 62=some Ir:=rfl
theorem IB:G 68=some Is:=rfl
theorem Q6:G 69=some It:=rfl
theorem Q7:G 70=some Iu:=rfl
theorem Q8:G 71=some Iv:=rfl
theorem Q9:G 72=some Iw:=rfl
theorem Ra:G 73=some Ix:=rfl
theorem Rb:G 82=some Iy:=rfl
theorem Rc:G 83=some Iz:=rfl
end Go.Proofs.YtphgedfhcncobaaGreatDoor.A
