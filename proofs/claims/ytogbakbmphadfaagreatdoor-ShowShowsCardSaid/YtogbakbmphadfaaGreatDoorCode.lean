/- The abstract code of the functions, made by program. -/
import Derived.Test.YtogbakbmphadfaaGreatDoorAbsO
set_option maxRecDepth 100000
set_option linter.unusedSectionVars false
set_option linter.unusedVariables false
set_option linter.unusedSimpArgs false
set_option linter.constructorNameAsVariable false
namespace Go.Proofs.YtogbakbmphadfaaGreatDoor.A
open Go
abbrev gp(d:Nat)(x:lJ):cL:=⟨some d,x,none,false⟩
abbrev gg(d:Nat)(x:lJ)(j:Nat)(b:Bool):cL:=⟨some d,x,some (j,b),false⟩
abbrev gz(d:Nat)(x:lJ):cL:=⟨some d,x,none,true⟩
abbrev gS(n:Nat)(x y:aP):cL:=⟨none,.st n x y,none,false⟩
abbrev gM(d:Nat)(x:aP):cL:=gp d (.mv x)
abbrev gQ(d:Nat)(x:aP):cL:=gp d (.ld none x)
abbrev gF(d n:Nat)(x:aP):cL:=gp d (.fa n x)
abbrev gA(d:Nat)(x:aP):cL:=gp d (.as x)
abbrev gB(d:Nat)(o:BinOp)(x y:aP):cL:=gp d (.bo o false x y)
abbrev gL(g:cL)(vw nk:List Nat):bI:=⟨g,true,vw,[],false,[],nk,[]⟩
abbrev gV(g:cL)(vw vb nk:List Nat):bI:=⟨g,true,vw,vb,false,[],nk,[]⟩
abbrev gH(g:cL):bI:=⟨g,false,[],[],false,[],[],[]⟩
instance (n:Nat):OfNat aP n:=⟨.t n⟩
abbrev kI(n:Int):aP:=.c (.i .i64 n)
def NP:AC:=(.sq (.rg [] [gp 18 (.ca 0 7 []),gM 19 18,gg 20 (.mv 4) 19 true,gg 21 (.mv 5) 19 true,gg 22 (.bo .eql false 20 21) 19 true,gp 23 (.pk 19 22 (.c (.b false))),gM 24 23,gg 25 (.mv 3) 24 true,gg 26 (.mv 6) 24 true,gg 27 (.bo .eql false 25 26) 24 true,gp 28 (.pk 24 27 (.c (.b false))),gA 2 28] [2] []) .rt)
def Y0:AC:=.kp [3,4,5,6] [] NP
def c3:bg:=⟨(.sq (.rg [] [gp 1 (.bx 0),gA 2 (.c (.b false))] [1] [1]) (.sq (.rg [] [gp 8 (.ld (some 2) 1),gp 9 (.ca 0 4 [8]),gM 7 9,gp 10 (.ex 7 0),gp 11 (.ex 7 1),gA 3 10,gA 4 11] [1,3,4] [1]) (.sq (.rg [] [gp 12 (.ld (some 2) 1),gp 13 (.ca 0 5 [12]),gA 5 13,gA 6 (.c (.s []))] [1,3,4,5,6] [1]) (.sq (.sq (.rg [] [gM 14 5,gB 15 .eql 14 (kI 0)] [1,3,4,5,6,15] [1]) (.ite 15 (.rg [] [gp 16 (.ld (some 2) 1),gp 17 (.ca 0 6 [16]),gA 6 17] [3,4,5,6] []) .sk)) Y0)))),[.t 2]⟩
def Y1:AC:=(.sq (.bl 1 (.sq (.rg [] [gp 20 (.ia 13 none 16 18),gp 21 (.ld (some 13) 20),gp 7 (.al [(.i .i64 0),(.i .i64 0),(.s []),(.s []),(.b false),(.l 74 []),(.l 9 []),(.l 68 []),(.i .i64 0),(.i .i64 0),(.i .i64 0),(.s []),(.l 44 [])]),gS 13 7 21] [1,5,7,16,17,18] [1,7,14]) (.rg [] [gM 22 5,gp 23 (.ld (some 13) 7),gp 24 (.c2 9 [22,23])] [1,5,16,17,18] [1,14]))) (.rg [] [gB 25 .add 18 (kI 1),gM 18 25] [1,5,16,17,18] [1,14]))
def Y2:AC:=.kp [1,5,16,17,18] [1,14] Y1
def Y3:AC:=(.sq (.rg [] [gB 19 .lss 18 17] [1,5,16,17,18,19] [1,14]) (.sq (.ite 19 .sk (.ex 0)) Y2))
def NQ:bq:=⟨[1,5,16,17,18],[1,14],Y3⟩
def Y4:AC:=(.sq (.rg [] [gM 26 5,gz 27 (.bs 9 1 [(.c (.s [109,97,105,110,32,123]))]),gp 28 (.c2 10 [26,27])] [1,5] [1,14]) (.sq (.rg [] [gM 29 5,gF 30 1 1,gQ 31 30,gp 32 (.c2 11 [29,31])] [5] [14]) (.sq (.rg [] [gM 33 5,gz 34 (.bs 9 1 [(.c (.s [125]))]),gp 35 (.c2 10 [33,34])] [5] [14]) (.sq (.rg [] [gM 36 5,gp 37 (.nc 36),gF 38 0 37,gp 39 (.sb 12 38),gA 2 39,gA 3 (kI 0)] [2,3] []) .rt))))
def Y5:AC:=.kp [1,5] [1,14] Y4
def Y6:AC:=(.sq (.rg [] [gp 13 (.bd [.z,.n,(.i .i64 0)] []),gp 14 (.bz 39 0 13),gA 5 14] [1,5] [1,14]) (.sq (.sq (.rg [.ownC 5 1 5] [gF 15 0 1,gQ 16 15,gp 17 (.ln false 16),gM 18 (kI 0)] [1,5,16,17,18] [1,14]) (.bl 0 NQ.lp)) Y5))
def Y7:AC:=.kp [1] [1] Y6
def c4:bg:=⟨(.sq (.rg [] [gp 1 (.bx 0),gA 2 (.c (.s [])),gA 3 (kI 0)] [1] [1]) (.sq (.sq (.rg [] [gp 8 (.ld (some 2) 1),gp 9 (.ca 0 8 [8]),gA 4 9] [1,4] [1]) (.sq (.rg [] [gM 10 4,gB 11 .neq 10 (kI 0)] [1,4,11] [1]) (.ite 11 (.sq (.rg [] [gM 12 4,gA 2 (.c (.s [])),gA 3 12] [2,3] []) .rt) .sk))) Y7)),[.t 2,.t 3]⟩
def Y8:AC:=(.sq (.bl 1 (.sq (.rg [] [gF 13 0 1,gQ 14 13,gM 15 3,gp 16 (.ia 13 none 14 15),gp 17 (.ld (some 13) 16),gp 18 (.ca 0 14 [17]),gp 19 (.no 18)] [1,3,19] [1]) (.ite 19 (.sq (.rg [] [gA 2 (kI 1)] [2] []) .rt) .sk))) (.rg [] [gM 11 3,gB 12 .add 11 (kI 1),gA 3 12] [1,3] [1]))
def Y9:AC:=.kp [1,3] [1] Y8
def Za:AC:=(.sq (.sq (.rg [] [gM 6 3,gF 7 0 1,gQ 8 7,gp 9 (.ln false 8),gB 10 .lss 6 9] [1,3,10] [1]) (.ite 10 .sk (.ex 0))) Y9)
def NR:bq:=⟨[1,3],[1],Za⟩
def Zb:AC:=(.sq (.sq (.rg [] [gF 20 1 1,gQ 21 20,gp 22 (.ca 0 15 [21]),gp 23 (.no 22)] [23] []) (.ite 23 (.sq (.rg [] [gA 2 (kI 1)] [2] []) .rt) .sk)) (.sq (.rg [] [gA 2 (kI 0)] [2] []) .rt))
def Zc:AC:=.kp [1] [1] Zb
def Zd:AC:=(.sq (.sq (.rg [] [gA 3 (kI 0)] [1,3] [1]) (.bl 0 NR.lp)) Zc)
def Ze:AC:=.kp [1] [1] Zd
def c5:bg:=⟨(.sq (.rg [] [gp 1 (.bx 0),gA 2 (kI 0)] [1] [1]) (.sq (.sq (.rg [] [gp 4 (.ld (some 2) 1),gp 5 (.ca 0 13 [4])] [1,5] [1]) (.ite 5 (.sq (.rg [] [gA 2 (kI 2)] [2] []) .rt) .sk)) Ze)),[.t 2]⟩
def NT:AC:=(.sq (.sq (.rg [] [gF 56 4 5,gQ 57 56] [1,3,4,5,57] [1,5]) (.ite 57 (.rg [] [gM 58 3,gF 59 5 5,gQ 60 59,gp 61 (.ca 0 19 [60]),gB 62 .add (.c (.s [32])) 61,gB 63 .add 58 62,gA 3 63] [1,3,4] [1]) .sk)) (.rg [] [gM 64 3,gB 65 .add 64 (.c (.s [59,10])),gA 3 65] [1,3,4] [1]))
def Zf:AC:=.kp [1,3,4,5] [1,5] NT
def Zg:AC:=(.sq (.sq (.rg [] [gF 48 0 5,gQ 49 48,gB 50 .eql 49 (kI 2)] [1,3,4,5,50] [1,5]) (.ite 50 (.rg [] [gM 51 3,gF 52 3 5,gQ 53 52,gB 54 .add (.c (.s [32])) 53,gB 55 .add 51 54,gA 3 55] [1,3,4,5] [1,5]) .sk)) Zf)
def Zh:AC:=.kp [1,3,4,5] [1,5] Zg
def Zi:AC:=(.sq (.bl 1 (.sq (.rg [] [gF 13 0 1,gQ 14 13,gM 15 4,gp 16 (.ia 13 none 14 15),gp 17 (.ld (some 13) 16),gp 5 (.al [(.i .i64 0),(.i .i64 0),(.s []),(.s []),(.b false),(.l 74 []),(.l 9 []),(.l 68 []),(.i .i64 0),(.i .i64 0),(.i .i64 0),(.s []),(.l 44 [])]),gS 13 5 17] [1,3,4,5] [1,5]) (.sq (.dg [] [19] [gL (gM 18 3) [3] [19],gL (gz 19 (.bs 9 1 [(.c (.s [])),(.c (.s [97,99,116,111,114,32])),(.c (.s [103,114,97,110,116,32])),(.c (.s [115,112,101,97,107,32])),(.c (.s [105,110,32])),(.c (.s [111,117,116,32])),(.c (.s [118,97,114,32])),(.c (.s [102,117,110,99,32]))])) [] [],gL (gF 20 0 5) [5] [19],gV (gQ 21 20) [20] [5] [19],gL (gp 22 (.ia 1 none 19 21)) [19,21] [],gL (gQ 23 22) [22] [],gL (gF 24 2 5) [5] [19],gV (gQ 25 24) [24] [5] [19],gL (gB 26 .add 23 25) [23,25] [],gH (gB 27 .add 18 26),gH (gA 3 27)] [1,3,4,5] [1,5]) (.sq (.sq (.rg [] [gF 28 0 5,gQ 29 28,gB 30 .eql 29 (kI 7)] [1,3,4,5,30] [1,5]) (.ite 30 (.sq (.dg [] [] [gL (gM 31 3) [3] [],gL (gF 32 6 5) [5] [],gV (gQ 33 32) [32] [5] [],gV (gp 34 (.ca 0 16 [33])) [33] [5] [],gL (gB 35 .add (.c (.s [40])) 34) [34] [],gL (gB 36 .add 35 (.c (.s [41,32,123,10]))) [35] [],gL (gF 37 7 5) [5] [],gV (gQ 38 37) [37] [5] [],gV (gp 39 (.ca 0 17 [38,(.c (.s [32,32]))])) [38] [5] [],gL (gB 40 .add 36 39) [36,39] [],gL (gB 41 .add 40 (.c (.s [32,32,114,101,116,117,114,110,32]))) [40] [],gL (gF 42 8 5) [5] [],gV (gp 43 (.ld (some 5) 42)) [42] [5] [],gL (gp 44 (.ca 0 18 [43])) [43] [],gL (gB 45 .add 41 44) [41,44] [],gL (gB 46 .add 45 (.c (.s [59,10,125,10]))) [45] [],gH (gB 47 .add 31 46),gH (gA 3 47)] [1,3,4] [1]) (.ex 1)) .sk)) Zh)))) (.rg [] [gM 11 4,gB 12 .add 11 (kI 1),gA 4 12] [1,3,4] [1]))
def Zj:AC:=.kp [1,3,4] [1] Zi
def Zk:AC:=(.sq (.sq (.rg [] [gM 6 4,gF 7 0 1,gQ 8 7,gp 9 (.ln false 8),gB 10 .lss 6 9] [1,3,4,10] [1]) (.ite 10 .sk (.ex 0))) Zj)
def NU:bq:=⟨[1,3,4],[1],Zk⟩
def Zl:AC:=(.sq (.rg [] [gM 66 3,gB 67 .add 66 (.c (.s [109,97,105,110,32,123,10])),gF 68 1 1,gQ 69 68,gp 70 (.ca 0 17 [69,(.c (.s [32,32]))]),gB 71 .add 67 70,gB 72 .add 71 (.c (.s [125,10])),gA 2 72] [2] []) .rt)
def Zm:AC:=.kp [1,3] [1] Zl
def c6:bg:=⟨(.sq (.rg [] [gp 1 (.bx 0),gA 2 (.c (.s []))] [1] [1]) (.sq (.rg [] [gA 3 (.c (.s []))] [1,3] [1]) (.sq (.sq (.rg [] [gA 4 (kI 0)] [1,3,4] [1]) (.bl 0 NU.lp)) Zm))),[.t 2]⟩
def c7:bg:=⟨(.sq (.rg [] [gA 0 (.c (.b false))] [] []) (.sq (.rg [] [gp 7 (.ca 0 20 [(.c (.s [97,99,116,111,114,32,97,59,10,111,117,116,32,99,32,123,97,58,32,97,125,59,10,109,97,105,110,32,123,10,32,32,112,117,116,32,99,32,40,49,32,43,32,50,41,59,10,125,10]))]),gM 6 7,gp 8 (.ex 6 0),gp 9 (.ex 6 1),gp 10 (.ex 6 2),gp 1 (.al [(.l 46 []),(.l 68 [])]),gS 2 1 8,gA 2 9,gA 3 10] [1,3] [1]) (.sq (.rg [] [gp 12 (.ld (some 2) 1),gp 13 (.ca 0 4 [12]),gM 11 13,gp 14 (.ex 11 0),gp 15 (.ex 11 1),gA 4 14,gA 5 15] [1,3,4,5] [1]) (.sq (.rg [] [gM 16 3,gB 17 .eql 16 (kI 0),gM 18 17,gg 19 (.mv 5) 18 true,gg 20 (.bo .eql false 19 (kI 0)) 18 true,gp 21 (.pk 18 20 (.c (.b false))),gM 22 21,gg 23 (.mv 4) 22 true,gg 24 (.bo .eql false 23 (.c (.s [97,99,116,111,114,32,97,59,10,111,117,116,32,99,32,123,97,58,32,97,125,59,10,109,97,105,110,32,123,10,32,32,112,117,116,32,99,32,40,49,32,43,32,50,41,59,10,125,10]))) 22 true,gp 25 (.pk 22 24 (.c (.b false))),gM 26 25,gg 27 (.ld (some 2) 1) 26 true,gg 28 (.ld (some 2) 1) 26 true,gg 29 (.ca 0 21 [27,28]) 26 true,gp 30 (.pk 26 29 (.c (.b false))),gM 31 30,gg 32 (.ld (some 2) 1) 31 true,gg 33 (.bd [(.l 46 []),(.l 68 [])] []) 31 true,gg 34 (.ca 0 21 [32,33]) 31 true,gg 35 (.no 34) 31 true,gp 36 (.pk 31 35 (.c (.b false))),gA 0 36] [0] []) .rt)))),[.t 0]⟩
def c8:bg:=⟨(.sq (.rg [] [gp 1 (.bx 0),gA 2 (kI 0)] [1] [1]) (.sq (.bl 0 (.sq (.rg [] [gp 4 (.ld (some 2) 1),gp 5 (.ca 0 22 [4]),gA 3 5] [1,3] [1]) (.ite 3 (.sq (.rg [] [gA 2 (kI 2)] [2] []) .rt) (.sq (.rg [] [gF 7 0 1,gQ 8 7,gp 9 (.c2 23 [8,(.c (.f 24 []))]),gM 10 9,gg 11 (.fa 1 1) 10 false,gg 12 (.ld none 11) 10 false,gg 13 (.ca 0 26 [12]) 10 false,gg 14 (.no 13) 10 false,gp 15 (.pk 10 (.c (.b true)) 14),gA 6 15] [6] []) (.ite 6 (.sq (.rg [] [gA 2 (kI 1)] [2] []) .rt) .sk))))) (.sq (.rg [] [gA 2 (kI 0)] [2] []) .rt))),[.t 2]⟩
def c9:bg:=⟨(.sq (.rg [] [gp 3 (.bx 1)] [0,3] [0,3]) (.sq (.rg [] [gz 5 (.bs 9 1 [(.c (.s [])),(.c (.s [97,99,116,111,114,32])),(.c (.s [103,114,97,110,116,32])),(.c (.s [115,112,101,97,107,32])),(.c (.s [105,110,32])),(.c (.s [111,117,116,32])),(.c (.s [118,97,114,32])),(.c (.s [102,117,110,99,32]))]),gF 6 0 3,gQ 7 6,gp 8 (.ia 1 none 5 7),gQ 9 8,gA 4 9] [0,3,4] [0,3]) (.bl 0 (.sq (.rg [] [gF 17 0 3,gQ 18 17,gB 19 .eql 18 (kI 2),gA 16 19] [0,3,4,16] [0,3]) (.ite 16 (.rg [] [gM 20 0,gM 21 4,gF 22 2 3,gQ 23 22,gF 24 3 3,gQ 25 24,gz 26 (.bs 9 1 [21,23,(.c (.s [32])),25,(.c (.s [59]))]),gp 27 (.c2 10 [20,26])] [] []) (.sq (.rg [] [gF 29 0 3,gQ 30 29,gB 31 .eql 30 (kI 7),gA 28 31] [0,3,4,28] [0,3]) (.ite 28 (.sq (.dg [] [39] [gL (gM 32 0) [0] [39],gL (gM 33 4) [4] [39],gL (gF 34 2 3) [3] [39],gV (gQ 35 34) [34] [3] [39],gL (gF 36 6 3) [3] [39],gV (gQ 37 36) [36] [3] [39],gV (gp 38 (.ca 1 27 [37,(.c (.s [44,32]))])) [37] [3] [39],gL (gz 39 (.bs 9 1 [33,35,(.c (.s [40])),38,(.c (.s [41,32,123]))])) [33,35,38] [],gH (gp 40 (.c2 10 [32,39]))] [0,3] [0,3]) (.sq (.rg [] [gM 41 0,gF 42 7 3,gQ 43 42,gp 44 (.c2 11 [41,43])] [0,3] [0,3]) (.sq (.rg [] [gM 45 0,gp 46 (.nc 45),gF 47 2 46,gQ 48 47,gB 49 .add 48 (kI 1),gp 50 (.nc 45),gF 51 2 50,gS 1 51 49] [0,3] [0,3]) (.sq (.rg [] [gM 52 0,gF 53 8 3,gp 54 (.ld (some 5) 53),gp 55 (.ca 0 28 [54]),gz 56 (.bs 9 1 [(.c (.s [114,101,116,117,114,110,32])),55,(.c (.s [59]))]),gp 57 (.c2 10 [52,56])] [0] [0]) (.sq (.rg [] [gM 58 0,gp 59 (.nc 58),gF 60 2 59,gQ 61 60,gB 62 .sub 61 (kI 1),gp 63 (.nc 58),gF 64 2 63,gS 1 64 62] [0] [0]) (.rg [] [gM 65 0,gz 66 (.bs 9 1 [(.c (.s [125]))]),gp 67 (.c2 10 [65,66])] [] [])))))) (.sq (.rg [] [gF 69 4 3,gQ 70 69,gA 68 70] [0,3,4,68] [0,3]) (.ite 68 (.dg [] [78] [gL (gM 71 0) [0] [78],gL (gM 72 4) [4] [78],gL (gF 73 2 3) [3] [78],gV (gQ 74 73) [73] [3] [78],gL (gF 75 5 3) [3] [78],gV (gQ 76 75) [75] [3] [78],gV (gp 77 (.ca 0 29 [76])) [76] [3] [78],gL (gz 78 (.bs 9 1 [72,74,77,(.c (.s [59]))])) [72,74,77] [],gH (gp 79 (.c2 10 [71,78]))] [] []) (.rg [] [gM 10 0,gM 11 4,gF 12 2 3,gQ 13 12,gz 14 (.bs 9 1 [11,13,(.c (.s [59]))]),gp 15 (.c2 10 [10,14])] [] [])))))))))),[]⟩
def NV:bg:=⟨(.dg [] [] [gL (gM 4 0) [0] [],gL (gp 5 (.nc 4)) [4] [],gL (gF 6 0 5) [5] [],gL (gM 7 0) [0] [],gL (gp 8 (.nc 7)) [7] [],gL (gF 9 2 8) [8] [],⟨gQ 10 9,true,[9],[],true,[],[],[]⟩,gL (gp 11 (.ca 1 31 [(.c (.s [32,32])),10])) [10] [],gL (gM 12 1) [1] [],gL (gp 13 (.ca 1 27 [12,(.c (.s []))])) [12] [],gL (gB 14 .add 11 13) [11,13] [],gL (gB 15 .add 14 (.c (.s [10]))) [14] [],gH (gp 16 (.c2 30 [6,15]))] [] []),[]⟩
def RU:AC:=(.sq (.bl 1 (.sq (.rg [] [gp 17 (.ia 12 none 13 15),gp 18 (.ld (some 12) 17),gp 5 (.al [(.i .i64 0),(.i .i64 0),(.s []),(.s []),(.i .i64 0),(.i .i64 0),(.i .i64 0),(.s []),(.l 44 []),(.l 44 []),(.l 68 []),(.l 68 [])]),gS 12 5 18] [0,5,13,14,15] [0,5]) (.rg [] [gM 19 0,gp 20 (.ld (some 12) 5),gp 21 (.c2 32 [19,20])] [0,13,14,15] [0]))) (.rg [] [gB 22 .add 15 (kI 1),gM 15 22] [0,13,14,15] [0]))
def RW:AC:=.kp [0,13,14,15] [0] RU
def RX:AC:=(.sq (.rg [] [gB 16 .lss 15 14] [0,13,14,15,16] [0]) (.sq (.ite 16 .sk (.ex 0)) RW))
def LD:bq:=⟨[0,13,14,15],[0],RX⟩
def RY:AC:=(.rg [] [gM 23 0,gp 24 (.nc 23),gF 25 2 24,gQ 26 25,gB 27 .sub 26 (kI 1),gp 28 (.nc 23),gF 29 2 28,gS 1 29 27] [] [])
def RZ:AC:=.kp [0] [0] RY
def NW:bg:=⟨(.sq (.rg [] [gM 6 0,gp 7 (.nc 6),gF 8 2 7,gQ 9 8,gB 10 .add 9 (kI 1),gp 11 (.nc 6),gF 12 2 11,gS 1 12 10] [0,1] [0]) (.sq (.sq (.rg [] [gM 13 1,gp 14 (.ln false 13),gM 15 (kI 0)] [0,13,14,15] [0]) (.bl 0 LD.lp)) RZ)),[]⟩
def R0:AC:=(.sq (.bl 3 (.sq (.rg [] [gF 49 5 5,gQ 50 49,gM 51 6,gp 52 (.ia 4 none 50 51),gF 53 3 52,gQ 54 53,gp 55 (.ln false 54),gB 56 .gtr 55 (kI 6)] [1,3,4,5,6,56] [1,5]) (.ite 56 (.sq (.rg [] [gA 2 (.c (.b true))] [2] []) .rt) .sk))) (.rg [] [gM 47 6,gB 48 .add 47 (kI 1),gA 6 48] [1,3,4,5,6] [1,5]))
def R1:AC:=.kp [1,3,4,5,6] [1,5] R0
def R2:AC:=(.sq (.sq (.rg [] [gM 42 6,gF 43 5 5,gQ 44 43,gp 45 (.ln false 44),gB 46 .lss 42 45] [1,3,4,5,6,46] [1,5]) (.ite 46 .sk (.ex 2))) R1)
def LF:bq:=⟨[1,3,4,5,6],[1,5],R2⟩
def R3:AC:=(.rg [] [gM 57 3,gF 58 7 5,gQ 59 58,gp 60 (.ca 0 33 [59,(kI 1)]),gB 61 .add 57 60,gA 3 61] [1,3,4] [1])
def R4:AC:=.kp [1,3,4,5] [1,5] R3
def R5:AC:=(.sq (.sq (.rg [] [gA 6 (kI 0)] [1,3,4,5,6] [1,5]) (.bl 2 LF.lp)) R4)
def R6:AC:=.kp [1,3,4,5] [1,5] R5
def R7:AC:=(.sq (.bl 1 (.sq (.rg [] [gF 21 0 1,gQ 22 21,gM 23 4,gp 24 (.ia 13 none 22 23),gp 25 (.ld (some 13) 24),gp 5 (.al [(.i .i64 0),(.i .i64 0),(.s []),(.s []),(.b false),(.l 74 []),(.l 9 []),(.l 68 []),(.i .i64 0),(.i .i64 0),(.i .i64 0),(.s []),(.l 44 [])]),gS 13 5 25] [1,3,4,5] [1,5]) (.sq (.sq (.rg [] [gF 26 5 5,gQ 27 26,gp 28 (.ln false 27),gB 29 .gtr 28 (kI 4),gM 30 29,gg 31 (.fa 6 5) 30 false,gg 32 (.ld none 31) 30 false,gg 33 (.ln false 32) 30 false,gg 34 (.bo .gtr false 33 (kI 4)) 30 false,gp 35 (.pk 30 (.c (.b true)) 34),gM 36 35,gg 37 (.fa 8 5) 36 false,gg 38 (.ld (some 5) 37) 36 false,gg 39 (.ca 0 34 [38,(kI 15)]) 36 false,gg 40 (.bo .gtr false 39 (kI 15)) 36 false,gp 41 (.pk 36 (.c (.b true)) 40)] [1,3,4,5,41] [1,5]) (.ite 41 (.sq (.rg [] [gA 2 (.c (.b true))] [2] []) .rt) .sk)) R6))) (.rg [] [gM 19 4,gB 20 .add 19 (kI 1),gA 4 20] [1,3,4] [1]))
def R8:AC:=.kp [1,3,4] [1] R7
def R9:AC:=(.sq (.sq (.rg [] [gM 14 4,gF 15 0 1,gQ 16 15,gp 17 (.ln false 16),gB 18 .lss 14 17] [1,3,4,18] [1]) (.ite 18 .sk (.ex 0))) R8)
def LG:bq:=⟨[1,3,4],[1],R9⟩
def Sa:AC:=(.sq (.rg [] [gF 11 1 1,gQ 12 11,gp 13 (.ca 0 33 [12,(kI 1)]),gA 3 13] [1,3] [1]) (.sq (.sq (.rg [] [gA 4 (kI 0)] [1,3,4] [1]) (.bl 0 LG.lp)) (.sq (.rg [] [gM 62 3,gB 63 .gtr 62 (kI 50),gA 2 63] [2] []) .rt)))
def Sb:AC:=.kp [1] [1] Sa
def ob:bg:=⟨(.sq (.rg [] [gp 1 (.bx 0),gA 2 (.c (.b false))] [1] [1]) (.sq (.sq (.rg [] [gF 7 0 1,gQ 8 7,gp 9 (.ln false 8),gB 10 .gtr 9 (kI 30)] [1,10] [1]) (.ite 10 (.sq (.rg [] [gA 2 (.c (.b true))] [2] []) .rt) .sk)) Sb)),[.t 2]⟩
def Sc:AC:=(.sq (.bl 3 (.sq (.rg [] [gF 95 5 1,gQ 96 95,gM 97 3,gp 98 (.ia 4 none 96 97),gF 99 3 98,gQ 100 99,gM 101 4,gp 102 (.ia 1 none 100 101),gQ 103 102,gp 104 (.ca 0 36 [103]),gp 105 (.no 104)] [1,3,4,105] [1]) (.ite 105 (.sq (.rg [] [gA 2 (.c (.b false))] [2] []) .rt) .sk))) (.rg [] [gM 93 4,gB 94 .add 93 (kI 1),gA 4 94] [1,3,4] [1]))
def Sd:AC:=.kp [1,3,4] [1] Sc
def Sf:AC:=(.sq (.sq (.rg [] [gM 84 4,gF 85 5 1,gQ 86 85,gM 87 3,gp 88 (.ia 4 none 86 87),gF 89 3 88,gQ 90 89,gp 91 (.ln false 90),gB 92 .lss 84 91] [1,3,4,92] [1]) (.ite 92 .sk (.ex 2))) Sd)
def LH:bq:=⟨[1,3,4],[1],Sf⟩
def Sg:AC:=(.sq (.rg [] [gA 4 (kI 0)] [1,3,4] [1]) (.bl 2 LH.lp))
def Sh:AC:=.kp [1,3] [1] Sg
def Si:AC:=(.sq (.bl 1 (.sq (.sq (.rg [] [gF 76 5 1,gQ 77 76,gM 78 3,gp 79 (.ia 4 none 77 78),gF 80 1 79,gQ 81 80,gp 82 (.ca 0 36 [81]),gp 83 (.no 82)] [1,3,83] [1]) (.ite 83 (.sq (.rg [] [gA 2 (.c (.b false))] [2] []) .rt) .sk)) Sh)) (.rg [] [gM 74 3,gB 75 .add 74 (kI 1),gA 3 75] [1,3] [1]))
def Sj:AC:=.kp [1,3] [1] Si
def Sk:AC:=(.sq (.sq (.rg [] [gM 69 3,gF 70 5 1,gQ 71 70,gp 72 (.ln false 71),gB 73 .lss 69 72] [1,3,73] [1]) (.ite 73 .sk (.ex 0))) Sj)
def LI:bq:=⟨[1,3],[1],Sk⟩
def Sl:AC:=(.sq (.bl 5 (.sq (.rg [] [gF 131 6 1,gQ 132 131,gM 133 5,gp 134 (.ia 1 none 132 133),gQ 135 134,gp 136 (.ca 0 36 [135]),gp 137 (.no 136)] [1,5,137] [1]) (.ite 137 (.sq (.rg [] [gA 2 (.c (.b false))] [2] []) .rt) .sk))) (.rg [] [gM 129 5,gB 130 .add 129 (kI 1),gA 5 130] [1,5] [1]))
def Sm:AC:=.kp [1,5] [1] Sl
def Sn:AC:=(.sq (.sq (.rg [] [gM 124 5,gF 125 6 1,gQ 126 125,gp 127 (.ln false 126),gB 128 .lss 124 127] [1,5,128] [1]) (.ite 128 .sk (.ex 4))) Sm)
def LJ:bq:=⟨[1,5],[1],Sn⟩
def So:AC:=(.sq (.rg [] [gF 138 7 1,gQ 139 138,gp 140 (.ca 0 15 [139]),gM 141 140,gg 142 (.fa 8 1) 141 true,gg 143 (.ld (some 5) 142) 141 true,gg 144 (.ca 0 38 [143]) 141 true,gp 145 (.pk 141 144 (.c (.b false))),gA 2 145] [2] []) .rt)
def Sq:AC:=.kp [1] [1] So
def Sr:AC:=(.sq (.sq (.rg [] [gA 5 (kI 0)] [1,5] [1]) (.bl 4 LJ.lp)) Sq)
def Ss:AC:=.kp [1] [1] Sr
def Su:AC:=(.sq (.sq (.rg [] [gF 106 0 1,gQ 107 106,gB 108 .neq 107 (kI 7)] [1,108] [1]) (.ite 108 (.sq (.rg [] [gF 109 6 1,gQ 110 109,gp 111 (.ln false 110),gB 112 .eql 111 (kI 0),gM 113 112,gg 114 (.fa 7 1) 113 true,gg 115 (.ld none 114) 113 true,gg 116 (.ln false 115) 113 true,gg 117 (.bo .eql false 116 (kI 0)) 113 true,gp 118 (.pk 113 117 (.c (.b false))),gM 119 118,gg 120 (.fa 8 1) 119 true,gg 121 (.ld (some 5) 120) 119 true,gg 122 (.ca 0 37 [121]) 119 true,gp 123 (.pk 119 122 (.c (.b false))),gA 2 123] [2] []) .rt) .sk)) Ss)
def Sv:AC:=.kp [1] [1] Su
def Sw:AC:=(.sq (.sq (.rg [] [gA 3 (kI 0)] [1,3] [1]) (.bl 0 LI.lp)) Sv)
def Sx:AC:=.kp [1] [1] Sw
def Sy:AC:=(.sq (.sq (.rg [] [gF 35 0 1,gQ 36 35,gB 37 .eql 36 (kI 4),gM 38 37,gg 39 (.fa 0 1) 38 false,gg 40 (.ld none 39) 38 false,gg 41 (.bo .eql false 40 (kI 5)) 38 false,gp 42 (.pk 38 (.c (.b true)) 41),gM 43 42,gg 44 (.fa 4 1) 43 true,gg 45 (.ld none 44) 43 true,gg 46 (.no 45) 43 true,gp 47 (.pk 43 46 (.c (.b false))),gM 48 47,gg 49 (.fa 0 1) 48 false,gg 50 (.ld none 49) 48 false,gg 51 (.ca 0 35 [50,(kI 4),(kI 6)]) 48 false,gg 52 (.no 51) 48 false,gg 53 (.mv 52) 48 false,gg 54 (.fa 4 1) 53 true,gg 55 (.ld none 54) 53 true,gg 56 (.pk 53 55 (.c (.b false))) 48 false,gp 57 (.pk 48 (.c (.b true)) 56),gM 58 57,gg 59 (.fa 4 1) 58 false,gg 60 (.ld none 59) 58 false,gg 61 (.no 60) 58 false,gg 62 (.mv 61) 58 false,gg 63 (.fa 5 1) 62 true,gg 64 (.ld none 63) 62 true,gg 65 (.ln false 64) 62 true,gg 66 (.bo .gtr false 65 (kI 0)) 62 true,gg 67 (.pk 62 66 (.c (.b false))) 58 false,gp 68 (.pk 58 (.c (.b true)) 67)] [1,68] [1]) (.ite 68 (.sq (.rg [] [gA 2 (.c (.b false))] [2] []) .rt) .sk)) Sx)
def Sz:AC:=.kp [1] [1] Sy
def SA:AC:=(.sq (.sq (.rg [] [gF 16 0 1,gQ 17 16,gB 18 .eql 17 (kI 2),gM 19 18,gg 20 (.fa 3 1) 19 true,gg 21 (.ld none 20) 19 true,gg 22 (.ca 0 36 [21]) 19 true,gg 23 (.no 22) 19 true,gp 24 (.pk 19 23 (.c (.b false))),gM 25 24,gg 26 (.fa 0 1) 25 false,gg 27 (.ld none 26) 25 false,gg 28 (.bo .neq false 27 (kI 2)) 25 false,gg 29 (.mv 28) 25 false,gg 30 (.fa 3 1) 29 true,gg 31 (.ld none 30) 29 true,gg 32 (.bo .neq false 31 (.c (.s []))) 29 true,gg 33 (.pk 29 32 (.c (.b false))) 25 false,gp 34 (.pk 25 (.c (.b true)) 33)] [1,34] [1]) (.ite 34 (.sq (.rg [] [gA 2 (.c (.b false))] [2] []) .rt) .sk)) Sz)
def SB:AC:=.kp [1] [1] SA
def NX:bg:=⟨(.sq (.rg [] [gp 1 (.bx 0),gA 2 (.c (.b false))] [1] [1]) (.sq (.sq (.rg [] [gF 6 0 1,gQ 7 6,gp 8 (.ca 0 35 [7,(kI 1),(kI 7)]),gp 9 (.no 8),gM 10 9,gg 11 (.fa 2 1) 10 false,gg 12 (.ld none 11) 10 false,gg 13 (.ca 0 36 [12]) 10 false,gg 14 (.no 13) 10 false,gp 15 (.pk 10 (.c (.b true)) 14)] [1,15] [1]) (.ite 15 (.sq (.rg [] [gA 2 (.c (.b false))] [2] []) .rt) .sk)) SB)),[.t 2]⟩
def SC:AC:=(.sq (.bl 4 (.rg [] [gM 70 10,gM 71 70,gg 72 (.fa 9 4) 71 true,gg 73 (.ld none 72) 71 true,gg 74 (.mv 11) 71 true,gg 75 (.ia 5 none 73 74) 71 true,gg 76 (.ld (some 5) 75) 71 true,gg 77 (.ca 0 38 [76]) 71 true,gp 78 (.pk 71 77 (.c (.b false))),gA 10 78] [0,3,4,5,6,7,8,9,10,11] [4])) (.rg [] [gM 68 11,gB 69 .add 68 (kI 1),gA 11 69] [0,3,4,5,6,7,8,9,10,11] [4]))
def SD:AC:=.kp [0,3,4,5,6,7,8,9,10,11] [4] SC
def SE:AC:=(.sq (.sq (.rg [] [gM 63 11,gF 64 9 4,gQ 65 64,gp 66 (.ln false 65),gB 67 .lss 63 66] [0,3,4,5,6,7,8,9,10,11,67] [4]) (.ite 67 .sk (.ex 3))) SD)
def LK:bq:=⟨[0,3,4,5,6,7,8,9,10,11],[4],SE⟩
def LL:AC:=(.ite 45 (.dg [] [] [gL (gF 49 2 4) [4] [],gV (gQ 50 49) [49] [4] [],gL (gp 51 (.ca 0 36 [50])) [50] [],gL (gF 52 4 4) [4] [],gV (gp 53 (.ld (some 5) 52)) [52] [4] [],gH (gp 54 (.ca 0 38 [53])),gH (gA 5 51),gH (gA 7 54)] [0,3,5,6,7,8,9,10] []) (.sq (.rg [] [gB 56 .eql 44 (kI 2),gA 55 56] [0,3,4,5,6,7,8,9,10,44,55] [4]) (.ite 55 (.sq (.dg [] [] [gL (gF 57 2 4) [4] [],gV (gQ 58 57) [57] [4] [],gL (gp 59 (.ca 0 36 [58])) [58] [],gL (gF 60 3 4) [4] [],gV (gQ 61 60) [60] [4] [],gH (gp 62 (.ca 0 36 [61])),gH (gA 5 59),gH (gA 6 62),gH (gA 10 (.c (.b true)))] [0,3,4,5,6,7,8,9,10] [4]) (.sq (.rg [] [gA 11 (kI 0)] [0,3,4,5,6,7,8,9,10,11] [4]) (.bl 3 LK.lp))) (.sq (.rg [] [gB 80 .eql 44 (kI 3),gA 79 80] [0,3,4,5,6,7,8,9,10,44,79] [4]) (.ite 79 (.dg [] [] [gL (gF 81 2 4) [4] [],gV (gQ 82 81) [81] [4] [],gL (gp 83 (.ca 0 36 [82])) [82] [],gL (gF 84 3 4) [4] [],gV (gQ 85 84) [84] [4] [],gH (gp 86 (.ca 0 36 [85])),gH (gA 5 83),gH (gA 6 86)] [0,3,5,6,7,8,9,10] []) (.sq (.rg [] [gB 88 .eql 44 (kI 4),gA 87 88] [0,3,4,5,6,8,9,10,44,87] [4]) (.ite 87 (.dg [] [] [gL (gF 89 3 4) [4] [],gV (gQ 90 89) [89] [4] [],gL (gp 91 (.ca 0 36 [90])) [90] [],gL (gF 92 4 4) [4] [],gV (gp 93 (.ld (some 5) 92)) [92] [4] [],gH (gp 94 (.ca 0 38 [93])),gH (gA 6 91),gH (gA 7 94)] [0,3,5,6,7,8,9,10] []) (.sq (.rg [] [gB 96 .eql 44 (kI 7),gA 95 96] [0,3,4,5,6,9,10,44,95] [4]) (.ite 95 (.dg [] [] [gL (gF 97 4 4) [4] [],gV (gp 98 (.ld (some 5) 97)) [97] [4] [],gL (gp 99 (.ca 0 38 [98])) [98] [],gL (gF 100 10 4) [4] [],gV (gQ 101 100) [100] [4] [],gV (gp 102 (.ca 0 15 [101])) [101] [4] [],gL (gF 103 11 4) [4] [],gV (gQ 104 103) [103] [4] [],gH (gp 105 (.ca 0 15 [104])),gH (gA 7 99),gH (gA 8 102),gH (gA 9 105)] [0,3,5,6,7,8,9,10] []) (.sq (.rg [] [gB 107 .eql 44 (kI 8),gA 106 107] [0,3,4,5,6,9,10,106] [4]) (.ite 106 (.dg [] [] [gL (gF 108 4 4) [4] [],gV (gp 109 (.ld (some 5) 108)) [108] [4] [],gL (gp 110 (.ca 0 38 [109])) [109] [],gL (gF 111 10 4) [4] [],gV (gQ 112 111) [111] [4] [],gH (gp 113 (.ca 0 15 [112])),gH (gA 7 110),gH (gA 8 113)] [0,3,5,6,7,8,9,10] []) (.sq (.rg [] [gA 2 (.c (.b false))] [2] []) .rt))))))))))))
def SF:AC:=.kp [0,3,4,5,6,7,8,9,10,44,45] [4] LL
def LM:AC:=(.sq (.rg [] [gM 114 5,gp 115 (.no 114),gM 116 115,gg 117 (.mv 6) 116 false,gg 118 (.no 117) 116 false,gp 119 (.pk 116 (.c (.b true)) 118),gM 120 119,gg 121 (.mv 7) 120 false,gg 122 (.no 121) 120 false,gp 123 (.pk 120 (.c (.b true)) 122),gM 124 123,gg 125 (.mv 8) 124 false,gg 126 (.no 125) 124 false,gp 127 (.pk 124 (.c (.b true)) 126),gM 128 127,gg 129 (.mv 9) 128 false,gg 130 (.no 129) 128 false,gp 131 (.pk 128 (.c (.b true)) 130),gM 132 131,gg 133 (.mv 10) 132 false,gg 134 (.no 133) 132 false,gp 135 (.pk 132 (.c (.b true)) 134)] [0,3,135] []) (.ite 135 (.sq (.rg [] [gA 2 (.c (.b false))] [2] []) .rt) .sk))
def SG:AC:=.kp [0,3,5,6,7,8,9,10] [] LM
def SH:AC:=(.sq (.bl 1 (.sq (.rg [] [gM 18 0,gM 19 3,gp 20 (.ia 12 none 18 19),gp 21 (.ld (some 12) 20),gp 4 (.al [(.i .i64 0),(.i .i64 0),(.s []),(.s []),(.i .i64 0),(.i .i64 0),(.i .i64 0),(.s []),(.l 44 []),(.l 44 []),(.l 68 []),(.l 68 [])]),gS 12 4 21] [0,3,4] [4]) (.sq (.dg [] [] [gL (gF 22 2 4) [4] [],gV (gQ 23 22) [22] [4] [],gL (gB 24 .eql 23 (.c (.s []))) [23] [],gL (gF 25 3 4) [4] [],gV (gQ 26 25) [25] [4] [],gL (gB 27 .eql 26 (.c (.s []))) [26] [],gL (gF 28 4 4) [4] [],gV (gp 29 (.ld (some 5) 28)) [28] [4] [],gL (gp 30 (.ca 0 37 [29])) [29] [],gL (gA 5 24) [24] [],gH (gA 6 27),gH (gA 7 30)] [0,3,4,5,6,7] [4]) (.sq (.dg [] [] [gL (gF 31 10 4) [4] [],gV (gQ 32 31) [31] [4] [],gV (gp 33 (.ln false 32)) [32] [4] [],gL (gB 34 .eql 33 (kI 0)) [33] [],gL (gF 35 11 4) [4] [],gV (gQ 36 35) [35] [4] [],gV (gp 37 (.ln false 36)) [36] [4] [],gL (gB 38 .eql 37 (kI 0)) [37] [],gL (gF 39 9 4) [4] [],gV (gQ 40 39) [39] [4] [],gV (gp 41 (.ln false 40)) [40] [4] [],gL (gB 42 .eql 41 (kI 0)) [41] [],gL (gA 8 34) [34] [],gL (gA 9 38) [38] [],gH (gA 10 42)] [0,3,4,5,6,7,8,9,10] [4]) (.sq (.sq (.rg [] [gF 43 0 4,gQ 44 43] [0,3,4,5,6,7,8,9,10,44] [4]) (.bl 2 (.sq (.sq (.rg [] [gB 46 .eql 44 (kI 1),gA 45 46] [0,3,4,5,6,7,8,9,10,44,45] [4]) (.ite 45 .sk (.sq (.rg [] [gB 47 .eql 44 (kI 5),gA 45 47] [0,3,4,5,6,7,8,9,10,44,45] [4]) (.ite 45 .sk (.rg [] [gB 48 .eql 44 (kI 6),gA 45 48] [0,3,4,5,6,7,8,9,10,44,45] [4]))))) SF))) SG))))) (.rg [] [gM 16 3,gB 17 .add 16 (kI 1),gA 3 17] [0,3] []))
def SI:AC:=.kp [0,3] [] SH
def SJ:AC:=(.sq (.sq (.rg [] [gM 12 3,gM 13 0,gp 14 (.ln false 13),gB 15 .lss 12 14] [0,3,15] []) (.ite 15 .sk (.ex 0))) SI)
def LN:bq:=⟨[0,3],[],SJ⟩
def Ai:bg:=⟨(.sq (.rg [] [gA 2 (.c (.b false))] [0] []) (.sq (.sq (.rg [] [gA 3 (kI 0)] [0,3] []) (.bl 0 LN.lp)) (.sq (.rg [] [gA 2 (.c (.b true))] [2] []) .rt))),[.t 2]⟩
def LO:AC:=(.rg [] [gM 15 3,gM 16 0,gM 17 4,gp 18 (.ia 1 none 16 17),gQ 19 18,gB 20 .add 15 19,gA 3 20] [0,3,4] [])
def SK:AC:=.kp [0,3,4] [] LO
def SL:AC:=(.sq (.bl 1 (.sq (.sq (.rg [] [gM 11 4,gB 12 .gtr 11 (kI 0)] [0,3,4,12] []) (.ite 12 (.rg [] [gM 13 3,gB 14 .add 13 (.c (.s [44,32])),gA 3 14] [0,3,4] []) .sk)) SK)) (.rg [] [gM 9 4,gB 10 .add 9 (kI 1),gA 4 10] [0,3,4] []))
def SM:AC:=.kp [0,3,4] [] SL
def SN:AC:=(.sq (.sq (.rg [] [gM 5 4,gM 6 0,gp 7 (.ln false 6),gB 8 .lss 5 7] [0,3,4,8] []) (.ite 8 .sk (.ex 0))) SM)
def LP:bq:=⟨[0,3,4],[],SN⟩
def Dn:bg:=⟨(.sq (.rg [] [gA 2 (.c (.s []))] [0] []) (.sq (.rg [] [gA 3 (.c (.s []))] [0,3] []) (.sq (.sq (.rg [] [gA 4 (kI 0)] [0,3,4] []) (.bl 0 LP.lp)) (.sq (.rg [] [gM 21 3,gA 2 21] [2] []) .rt)))),[.t 2]⟩
def SO:AC:=(.sq (.bl 4 (.rg [] [gM 51 9,gF 52 9 7,gQ 53 52,gM 54 10,gp 55 (.ia 5 none 53 54),gp 56 (.ld (some 5) 55),gp 57 (.ca 0 18 [56]),gz 58 (.bs 9 1 [57]),gp 59 (.ap 9 1 16 51 58),gA 9 59] [0,1,5,6,7,9,10] [7])) (.rg [] [gM 49 10,gB 50 .add 49 (kI 1),gA 10 50] [0,1,5,6,7,9,10] [7]))
def SP:AC:=.kp [0,1,5,6,7,9,10] [7] SO
def SQ:AC:=(.sq (.sq (.rg [] [gM 44 10,gF 45 9 7,gQ 46 45,gp 47 (.ln false 46),gB 48 .lss 44 47] [0,1,5,6,7,9,10,48] [7]) (.ite 48 .sk (.ex 3))) SP)
def LQ:bq:=⟨[0,1,5,6,7,9,10],[7],SQ⟩
def SS:AC:=(.dg [] [] [gL (gM 60 5) [5] [],gL (gM 61 1) [1] [],gL (gF 62 2 7) [7] [],gV (gQ 63 62) [62] [7] [],gL (gB 64 .add 61 63) [61,63] [],gL (gB 65 .add 64 (.c (.s [32,61,32]))) [64] [],gL (gF 66 3 7) [7] [],gV (gQ 67 66) [66] [7] [],gL (gB 68 .add 65 67) [65,67] [],gL (gB 69 .add 68 (.c (.s [40]))) [68] [],gL (gM 70 9) [9] [],gL (gp 71 (.ca 0 16 [70])) [70,9] [],gL (gB 72 .add 69 71) [69,71] [],gL (gB 73 .add 72 (.c (.s [41,59,10]))) [72] [],gH (gB 74 .add 60 73),gH (gA 5 74)] [0,1,5,6] [])
def SU:AC:=.kp [0,1,5,6,7,9] [7] SS
def LR:AC:=(.rg [] [gM 157 5,gM 158 1,gB 159 .add 158 (.c (.s [125,10])),gB 160 .add 157 159,gA 5 160] [0,1,5,6] [])
def SV:AC:=.kp [0,1,5,6] [] LR
def LS:AC:=(.sq (.rg [] [gF 28 0 7,gQ 29 28] [0,1,5,6,7,8,29] [7]) (.bl 2 (.sq (.rg [] [gB 31 .eql 29 (kI 1),gA 30 31] [0,1,5,6,7,8,29,30] [7]) (.ite 30 (.rg [] [gM 32 5,gM 33 1,gF 34 2 7,gQ 35 34,gB 36 .add 33 35,gB 37 .add 36 (.c (.s [32,61,32])),gM 38 8,gB 39 .add 37 38,gB 40 .add 39 (.c (.s [59,10])),gB 41 .add 32 40,gA 5 41] [0,1,5,6] []) (.sq (.rg [] [gB 43 .eql 29 (kI 2),gA 42 43] [0,1,5,6,7,8,29,42] [7]) (.ite 42 (.sq (.rg [] [gA 9 (.c .n)] [0,1,5,6,7,9] [7]) (.sq (.sq (.rg [.own 9 9] [gA 10 (kI 0)] [0,1,5,6,7,9,10] [7]) (.bl 3 LQ.lp)) SU)) (.sq (.rg [] [gB 76 .eql 29 (kI 3),gA 75 76] [0,1,5,6,7,8,29,75] [7]) (.ite 75 (.rg [] [gM 77 5,gM 78 1,gB 79 .add 78 (.c (.s [103,101,116,32])),gF 80 2 7,gQ 81 80,gB 82 .add 79 81,gB 83 .add 82 (.c (.s [32])),gF 84 3 7,gQ 85 84,gB 86 .add 83 85,gB 87 .add 86 (.c (.s [59,10])),gB 88 .add 77 87,gA 5 88] [0,1,5,6] []) (.sq (.rg [] [gB 90 .eql 29 (kI 4),gA 89 90] [0,1,5,6,7,8,29,89] [7]) (.ite 89 (.rg [] [gM 91 5,gM 92 1,gB 93 .add 92 (.c (.s [112,117,116,32])),gF 94 3 7,gQ 95 94,gB 96 .add 93 95,gB 97 .add 96 (.c (.s [32])),gM 98 8,gB 99 .add 97 98,gB 100 .add 99 (.c (.s [59,10])),gB 101 .add 91 100,gA 5 101] [0,1,5,6] []) (.sq (.rg [] [gB 103 .eql 29 (kI 5),gA 102 103] [0,1,5,6,7,8,29,102] [7]) (.ite 102 (.rg [] [gM 104 5,gM 105 1,gB 106 .add 105 (.c (.s [114,101,118,101,97,108,32])),gF 107 2 7,gQ 108 107,gB 109 .add 106 108,gB 110 .add 109 (.c (.s [32])),gM 111 8,gB 112 .add 110 111,gB 113 .add 112 (.c (.s [59,10])),gB 114 .add 104 113,gA 5 114] [0,1,5,6] []) (.sq (.rg [] [gB 116 .eql 29 (kI 6),gA 115 116] [0,1,5,6,7,8,29,115] [7]) (.ite 115 (.rg [] [gM 117 5,gM 118 1,gB 119 .add 118 (.c (.s [116,114,117,115,116,32])),gF 120 2 7,gQ 121 120,gB 122 .add 119 121,gB 123 .add 122 (.c (.s [32])),gM 124 8,gB 125 .add 123 124,gB 126 .add 125 (.c (.s [59,10])),gB 127 .add 117 126,gA 5 127] [0,1,5,6] []) (.sq (.rg [] [gB 129 .eql 29 (kI 7),gA 128 129] [0,1,5,6,7,8,29,128] [7]) (.ite 128 (.sq (.rg [] [gM 130 5,gM 131 1,gB 132 .add 131 (.c (.s [105,102,32])),gM 133 8,gB 134 .add 132 133,gB 135 .add 134 (.c (.s [32,123,10])),gF 136 10 7,gQ 137 136,gM 138 1,gB 139 .add 138 (.c (.s [32,32])),gp 140 (.ca 0 17 [137,139]),gB 141 .add 135 140,gB 142 .add 130 141,gA 5 142] [0,1,5,6,7] [7]) (.sq (.sq (.rg [] [gF 143 11 7,gQ 144 143,gp 145 (.ln false 144),gB 146 .gtr 145 (kI 0)] [0,1,5,6,7,146] [7]) (.ite 146 (.rg [] [gM 147 5,gM 148 1,gB 149 .add 148 (.c (.s [125,32,101,108,115,101,32,123,10])),gF 150 11 7,gQ 151 150,gM 152 1,gB 153 .add 152 (.c (.s [32,32])),gp 154 (.ca 0 17 [151,153]),gB 155 .add 149 154,gB 156 .add 147 155,gA 5 156] [0,1,5,6] []) .sk)) SV)) (.sq (.rg [] [gB 162 .eql 29 (kI 8),gA 161 162] [0,1,5,6,7,8,161] [7]) (.ite 161 (.rg [] [gM 163 5,gM 164 1,gB 165 .add 164 (.c (.s [119,104,105,108,101,32])),gM 166 8,gB 167 .add 165 166,gB 168 .add 167 (.c (.s [32,123,10])),gF 169 10 7,gQ 170 169,gM 171 1,gB 172 .add 171 (.c (.s [32,32])),gp 173 (.ca 0 17 [170,172]),gB 174 .add 168 173,gM 175 1,gB 176 .add 174 175,gB 177 .add 176 (.c (.s [125,10])),gB 178 .add 163 177,gA 5 178] [0,1,5,6] []) .sk))))))))))))))))))
def SW:AC:=.kp [0,1,5,6,7,8] [7] LS
def SX:AC:=(.sq (.bl 1 (.sq (.rg [] [gM 17 0,gM 18 6,gp 19 (.ia 12 none 17 18),gp 20 (.ld (some 12) 19),gp 7 (.al [(.i .i64 0),(.i .i64 0),(.s []),(.s []),(.i .i64 0),(.i .i64 0),(.i .i64 0),(.s []),(.l 44 []),(.l 44 []),(.l 68 []),(.l 68 [])]),gS 12 7 20] [0,1,5,6,7] [7]) (.sq (.rg [] [gA 8 (.c (.s []))] [0,1,5,6,7,8] [7]) (.sq (.sq (.rg [] [gF 21 4 7,gp 22 (.ld (some 5) 21),gp 23 (.ca 0 37 [22]),gp 24 (.no 23)] [0,1,5,6,7,8,24] [7]) (.ite 24 (.rg [] [gF 25 4 7,gp 26 (.ld (some 5) 25),gp 27 (.ca 0 18 [26]),gA 8 27] [0,1,5,6,7,8] [7]) .sk)) SW)))) (.rg [] [gM 15 6,gB 16 .add 15 (kI 1),gA 6 16] [0,1,5,6] []))
def SY:AC:=.kp [0,1,5,6] [] SX
def SZ:AC:=(.sq (.sq (.rg [] [gM 11 6,gM 12 0,gp 13 (.ln false 12),gB 14 .lss 11 13] [0,1,5,6,14] []) (.ite 14 .sk (.ex 0))) SY)
def LU:bq:=⟨[0,1,5,6],[],SZ⟩
def NY:bg:=⟨(.sq (.rg [] [gA 4 (.c (.s []))] [0,1] []) (.sq (.rg [] [gA 5 (.c (.s []))] [0,1,5] []) (.sq (.sq (.rg [] [gA 6 (kI 0)] [0,1,5,6] []) (.bl 0 LU.lp)) (.sq (.rg [] [gM 179 5,gA 4 179] [4] []) .rt)))),[.t 4]⟩
def S0:AC:=(.sq (.rg [] [gz 15 (.bs 9 1 [(.c (.s [])),(.c (.s [])),(.c (.s [])),(.c (.s [43])),(.c (.s [45])),(.c (.s [42])),(.c (.s [60])),(.c (.s [61,61]))]),gF 16 0 1,gQ 17 16,gp 18 (.ia 1 none 15 17),gQ 19 18,gA 3 19] [1,3] [1]) (.sq (.dg [] [] [gL (gF 20 4 1) [1] [],gV (gQ 21 20) [20] [1] [],gV (gp 22 (.ia 5 none 21 (kI 0))) [21] [1] [],gV (gp 23 (.ld (some 5) 22)) [22] [1] [],gL (gp 24 (.ca 0 18 [23])) [23] [],gL (gB 25 .add (.c (.s [40])) 24) [24] [],gL (gB 26 .add 25 (.c (.s [32]))) [25] [],gL (gM 27 3) [3] [],gL (gB 28 .add 26 27) [26,27] [],gL (gB 29 .add 28 (.c (.s [32]))) [28] [],gL (gF 30 4 1) [1] [],gV (gQ 31 30) [30] [1] [],gV (gp 32 (.ia 5 none 31 (kI 1))) [31] [1] [],gV (gp 33 (.ld (some 5) 32)) [32] [1] [],gL (gp 34 (.ca 0 18 [33])) [33] [],gH (gB 35 .add 29 34),gH (gB 36 .add 35 (.c (.s [41]))),gH (gA 2 36)] [2] []) .rt))
def S1:AC:=.kp [1] [1] S0
def NZ:bg:=⟨(.sq (.rg [] [gp 1 (.bx 0),gA 2 (.c (.s []))] [1] [1]) (.sq (.sq (.rg [] [gF 4 0 1,gQ 5 4] [1,5] [1]) (.bl 0 (.sq (.rg [] [gB 7 .eql 5 (kI 1),gA 6 7] [1,5,6] [1]) (.ite 6 (.sq (.rg [] [gF 8 2 1,gQ 9 8,gp 10 (.ca 0 39 [9]),gA 2 10] [2] []) .rt) (.sq (.rg [] [gB 12 .eql 5 (kI 2),gA 11 12] [1,11] [1]) (.ite 11 (.sq (.rg [] [gF 13 3 1,gQ 14 13,gA 2 14] [2] []) .rt) .sk)))))) S1)),[.t 2]⟩
def LV:AC:=(.sq (.rg [] [gM 31 0,gM 32 4,gp 33 (.ia 4 none 31 32),gF 34 3 33,gQ 35 34,gp 36 (.ln false 35),gB 37 .gtr 36 (kI 0)] [0,3,4,37] []) (.ite 37 (.rg [] [gM 38 3,gM 39 0,gM 40 4,gp 41 (.ia 4 none 39 40),gF 42 3 41,gQ 43 42,gp 44 (.ca 0 16 [43]),gB 45 .add (.c (.s [32])) 44,gB 46 .add 38 45,gA 3 46] [0,3,4] []) .sk))
def S2:AC:=.kp [0,3,4] [] LV
def LX:AC:=(.sq (.rg [] [gM 15 3,gM 16 0,gM 17 4,gp 18 (.ia 4 none 16 17),gF 19 1 18,gQ 20 19,gB 21 .add 15 20,gA 3 21] [0,3,4] []) (.sq (.sq (.rg [] [gM 22 0,gM 23 4,gp 24 (.ia 4 none 22 23),gF 25 2 24,gQ 26 25] [0,3,4,26] []) (.ite 26 (.rg [] [gM 27 3,gB 28 .add 27 (.c (.s [33])),gA 3 28] [0,3,4] []) (.rg [] [gM 29 3,gB 30 .add 29 (.c (.s [58])),gA 3 30] [0,3,4] []))) S2))
def S4:AC:=.kp [0,3,4] [] LX
def S5:AC:=(.sq (.bl 1 (.sq (.sq (.rg [] [gM 11 4,gB 12 .gtr 11 (kI 0)] [0,3,4,12] []) (.ite 12 (.rg [] [gM 13 3,gB 14 .add 13 (.c (.s [59,32])),gA 3 14] [0,3,4] []) .sk)) S4)) (.rg [] [gM 9 4,gB 10 .add 9 (kI 1),gA 4 10] [0,3,4] []))
def S6:AC:=.kp [0,3,4] [] S5
def S7:AC:=(.sq (.sq (.rg [] [gM 5 4,gM 6 0,gp 7 (.ln false 6),gB 8 .lss 5 7] [0,3,4,8] []) (.ite 8 .sk (.ex 0))) S6)
def LY:bq:=⟨[0,3,4],[],S7⟩
def N0:bg:=⟨(.sq (.rg [] [gA 2 (.c (.s []))] [0] []) (.sq (.rg [] [gA 3 (.c (.s [123]))] [0,3] []) (.sq (.sq (.rg [] [gA 4 (kI 0)] [0,3,4] []) (.bl 0 LY.lp)) (.sq (.rg [] [gM 47 3,gB 48 .add 47 (.c (.s [125])),gA 2 48] [2] []) .rt)))),[.t 2]⟩
def S8:AC:=(.rg [] [gF 36 0 9,gQ 37 36,gp 38 (.ld (some 13) 10),gz 39 (.bs 46 13 [38]),gp 40 (.ap 46 13 192 37 39),gF 41 0 9,gS 1 41 40] [2,5,8,9] [2,8,9])
def S9:AC:=.kp [2,5,8,9,10] [2,8,9,10] S8
def Ta:AC:=(.bl 1 (.sq (.rg [] [gp 31 (.c2 41 [8]),gM 30 31,gp 32 (.ex 30 0),gp 33 (.ex 30 1),gp 10 (.al [(.i .i64 0),(.i .i64 0),(.s []),(.s []),(.b false),(.l 74 []),(.l 9 []),(.l 68 []),(.i .i64 0),(.i .i64 0),(.i .i64 0),(.s []),(.l 44 [])]),gS 13 10 32,gA 11 33] [2,5,8,9,10,11] [2,8,9,10]) (.sq (.sq (.rg [] [gM 34 11,gp 35 (.no 34)] [2,5,8,9,10,35] [2,8,9,10]) (.ite 35 (.ex 0) .sk)) S9)))
def Tb:AC:=.kp [2,5,8,9] [2,8,9] Ta
def Tc:AC:=(.sq (.sq (.rg [.ownC 9 0 46] [gF 27 3 8,gQ 28 27,gp 29 (.no 28)] [2,5,8,9,29] [2,8,9]) (.ite 29 .sk (.ex 0))) Tb)
def Td:bq:=⟨[2,5,8,9],[2,8,9],Tc⟩
def Te:AC:=(.sq (.rg [.fzC 9 0] [gp 62 (.ld (some 2) 9),gM 63 7,gS 2 2 62,gA 3 (kI 0),gA 4 63] [2,3,4] [2]) .rt)
def Tf:AC:=.kp [2,7,9] [2,9] Te
def Tg:AC:=(.sq (.rg [.fzC 9 0] [gp 56 (.ld (some 2) 9),gp 57 (.ca 0 5 [56]),gA 7 57] [2,7,9] [2,9]) (.sq (.sq (.rg [] [gM 58 7,gB 59 .neq 58 (kI 0)] [2,7,9,59] [2,9]) (.ite 59 (.sq (.rg [] [gp 60 (.bd [(.l 46 []),(.l 68 [])] []),gM 61 7,gS 2 2 60,gA 3 (kI 0),gA 4 61] [2,3,4] [2]) .rt) .sk)) Tf))
def Th:AC:=.kp [2,9] [2,9] Tg
def Ti:AC:=(.sq (.rg [] [gp 42 (.c2 42 [8,(.c (.s [109,97,105,110]))])] [2,5,8,9] [2,8,9]) (.sq (.rg [] [gp 43 (.c2 43 [8]),gF 44 1 9,gS 1 44 43] [2,5,8,9] [2,8,9]) (.sq (.sq (.rg [] [gF 45 3 8,gQ 46 45,gM 47 46,gg 48 (.fa 1 8) 47 false,gg 49 (.ld none 48) 47 false,gg 50 (.mv 5) 47 false,gg 51 (.ln false 50) 47 false,gg 52 (.bo .lss false 49 51) 47 false,gp 53 (.pk 47 (.c (.b true)) 52)] [2,8,9,53] [2,8,9]) (.ite 53 (.sq (.rg [] [gp 54 (.bd [(.l 46 []),(.l 68 [])] []),gp 55 (.c3 44 [8]),gS 2 2 54,gA 3 55,gA 4 (kI 1)] [2,3,4] [2]) .rt) .sk)) Th)))
def Tj:AC:=.kp [2,5,8,9] [2,8,9] Ti
def Tk:AC:=(.sq (.rg [] [gM 23 5,gM 24 0,gp 25 (.ln true 24),gp 26 (.bd [(.l 118 []),(.i .i64 0),(.i .i64 0),(.b false)] [(0,1,23),(2,1,25)]),gp 8 (.al [(.l 118 []),(.i .i64 0),(.i .i64 0),(.b false)]),gS 4 8 26] [2,5,8] [2,8]) (.sq (.rg [] [gp 9 (.al [.n,(.l 68 [])])] [2,5,8,9] [2,8,9]) (.sq (.bl 0 Td.lp) Tj)))
def Tl:AC:=.kp [0,2,5] [2] Tk
def Aj:bg:=⟨(.sq (.rg [] [gp 2 (.al [(.l 46 []),(.l 68 [])]),gA 3 (kI 0),gA 4 (kI 0)] [0,2] [2]) (.sq (.rg [] [gM 13 0,gp 14 (.ca 0 40 [13]),gM 12 14,gp 15 (.ex 12 0),gp 16 (.ex 12 1),gp 17 (.ex 12 2),gA 5 15,gA 6 16,gA 7 17] [0,2,5,6,7] [2]) (.sq (.sq (.rg [] [gM 18 7,gB 19 .neq 18 (kI 0)] [0,2,5,6,7,19] [2]) (.ite 19 (.sq (.rg [] [gp 20 (.bd [(.l 46 []),(.l 68 [])] []),gM 21 6,gM 22 7,gS 2 2 20,gA 3 21,gA 4 22] [2,3,4] [2]) .rt) .sk)) Tl))),[.c 2 (some 2),.t 3,.t 4]⟩
def Yu:bg:=⟨(.sq (.rg [] [gp 2 (.bx 0),gp 3 (.bx 1),gA 4 (.c (.b false))] [2,3] [2,3]) (.sq (.rg [] [gF 5 0 2,gQ 6 5,gF 7 0 3,gQ 8 7,gp 9 (.c2 45 [6,8,(.c (.f 46 []))]),gM 10 9,gg 11 (.fa 1 2) 10 true,gg 12 (.ld none 11) 10 true,gg 13 (.fa 1 3) 10 true,gg 14 (.ld none 13) 10 true,gg 15 (.c2 47 [12,14,(.c (.f 48 []))]) 10 true,gp 16 (.pk 10 15 (.c (.b false))),gA 4 16] [4] []) .rt)),[.t 4]⟩
def Tm:AC:=(.sq (.bl 1 (.sq (.rg [] [gp 17 (.ia 13 none 13 15),gp 18 (.ld (some 13) 17),gp 5 (.al [(.i .i64 0),(.i .i64 0),(.s []),(.s []),(.b false),(.l 74 []),(.l 9 []),(.l 68 []),(.i .i64 0),(.i .i64 0),(.i .i64 0),(.s []),(.l 44 [])]),gS 13 5 18] [1,3,5,13,14,15] [1,5,11]) (.sq (.rg [] [gF 19 5 5,gQ 20 19,gp 21 (.ln false 20),gB 22 .gtr 21 (kI 4),gM 23 22,gg 24 (.fa 5 5) 23 false,gg 25 (.ld none 24) 23 false,gg 26 (.c2 49 [25,(.c (.f 50 []))]) 23 false,gp 27 (.pk 23 (.c (.b true)) 26),gM 28 27,gg 29 (.fa 6 5) 28 false,gg 30 (.ld none 29) 28 false,gg 31 (.ln false 30) 28 false,gg 32 (.bo .gtr false 31 (kI 4)) 28 false,gp 33 (.pk 28 (.c (.b true)) 32),gM 34 33,gg 35 (.fa 8 5) 34 false,gg 36 (.ld (some 5) 35) 34 false,gg 37 (.ca 0 51 [36,(kI 15)]) 34 false,gg 38 (.bo .gtr false 37 (kI 15)) 34 false,gp 39 (.pk 34 (.c (.b true)) 38),gM 40 39,gg 41 (.mv 3) 40 false,gg 42 (.fa 7 5) 40 false,gg 43 (.ld none 42) 40 false,gg 44 (.c2 52 [41,43,(kI 1)]) 40 false,gp 45 (.pk 40 (.c (.b true)) 44)] [1,3,13,14,15,45] [1,11]) (.ite 45 (.sq (.rg [] [gA 2 (.c (.b true))] [2] []) .rt) .sk)))) (.rg [] [gB 46 .add 15 (kI 1),gM 15 46] [1,3,13,14,15] [1,11]))
def Tn:AC:=.kp [1,3,13,14,15] [1,11] Tm
def To:AC:=(.sq (.rg [] [gB 16 .lss 15 14] [1,3,13,14,15,16] [1,11]) (.sq (.ite 16 .sk (.ex 0)) Tn))
def LZ:bq:=⟨[1,3,13,14,15],[1,11],To⟩
def Tp:AC:=(.sq (.rg [] [gM 47 3,gF 48 1 1,gQ 49 48,gp 50 (.c2 52 [47,49,(kI 1)]),gA 2 50] [2] []) .rt)
def Tq:AC:=.kp [1,3] [1,11] Tp
def Tr:AC:=(.sq (.rg [] [gp 10 (.bd [(.i .i64 0)] []),gp 11 (.bx 10),gA 3 11] [1,3] [1,11]) (.sq (.sq (.rg [] [gF 12 0 1,gQ 13 12,gp 14 (.ln false 13),gM 15 (kI 0)] [1,3,13,14,15] [1,11]) (.bl 0 LZ.lp)) Tq))
def Ts:AC:=.kp [1] [1] Tr
def N1:bg:=⟨(.sq (.rg [] [gp 1 (.bx 0),gA 2 (.c (.b false))] [1] [1]) (.sq (.sq (.rg [] [gF 6 0 1,gQ 7 6,gp 8 (.ln false 7),gB 9 .gtr 8 (kI 30)] [1,9] [1]) (.ite 9 (.sq (.rg [] [gA 2 (.c (.b true))] [2] []) .rt) .sk)) Ts)),[.t 2]⟩
def N2:bg:=⟨(.sq (.rg [] [gA 4 (.c (.b false))] [0,1] []) (.sq (.rg [] [gM 5 0,gM 6 1,gp 7 (.c2 53 [5,6]),gB 8 .geq 7 (kI 0),gA 4 8] [4] []) .rt)),[.t 4]⟩
def N3:bg:=⟨(.sq (.rg [] [gp 1 (.bx 0),gA 2 (.c (.b false))] [1] [1]) (.sq (.rg [] [gp 3 (.ld (some 13) 1),gp 4 (.ca 0 25 [3]),gp 5 (.no 4),gA 2 5] [2] []) .rt)),[.t 2]⟩
def L0:AC:=(.ite 35 (.rg [] [gA 3 (.c (.b false))] [1,3] [1]) .sk)
def Tt:AC:=.kp [1,3,35] [1] L0
def L1:AC:=(.ite 32 (.rg [] [gA 3 (.c (.b true))] [1,3] [1]) (.sq (.sq (.rg [] [gB 36 .eql 31 (kI 1),gA 35 36] [1,3,31,35] [1]) (.ite 35 .sk (.sq (.rg [] [gB 37 .eql 31 (kI 2),gA 35 37] [1,3,31,35] [1]) (.ite 35 .sk (.sq (.rg [] [gB 38 .eql 31 (kI 3),gA 35 38] [1,3,31,35] [1]) (.ite 35 .sk (.rg [] [gB 39 .eql 31 (kI 7),gA 35 39] [1,3,35] [1]))))))) Tt))
def Tu:AC:=.kp [1,3,31,32] [1] L1
def Tv:AC:=(.sq (.rg [] [gF 85 6 1,gQ 86 85,gp 87 (.c2 58 [86,(.c (.f 59 []))]),gp 88 (.no 87),gM 89 88,gg 90 (.fa 7 1) 89 true,gg 91 (.ld none 90) 89 true,gg 92 (.ca 0 26 [91]) 89 true,gp 93 (.pk 89 92 (.c (.b false))),gA 2 93] [2] []) .rt)
def Tw:AC:=.kp [1] [1] Tv
def L2:AC:=(.sq (.rg [] [gF 40 0 1,gQ 41 40,gB 42 .eql 41 (kI 7),gA 4 42] [1,3,4] [1]) (.sq (.sq (.rg [] [gF 43 4 1,gQ 44 43,gM 45 3,gp 46 (.bo .neq true 44 45),gM 47 46,gg 48 (.fa 4 1) 47 false,gg 49 (.ld none 48) 47 false,gg 50 (.no 49) 47 false,gg 51 (.mv 50) 47 false,gg 52 (.fa 5 1) 51 true,gg 53 (.ld none 52) 51 true,gg 54 (.ln false 53) 51 true,gg 55 (.bo .gtr false 54 (kI 0)) 51 true,gg 56 (.pk 51 55 (.c (.b false))) 47 false,gp 57 (.pk 47 (.c (.b true)) 56),gM 58 57,gg 59 (.fa 5 1) 58 false,gg 60 (.ld none 59) 58 false,gg 61 (.ca 0 56 [60]) 58 false,gg 62 (.no 61) 58 false,gp 63 (.pk 58 (.c (.b true)) 62),gM 64 63,gg 65 (.mv 4) 64 false,gg 66 (.no 65) 64 false,gg 67 (.mv 66) 64 false,gg 68 (.fa 6 1) 67 true,gg 69 (.ld none 68) 67 true,gg 70 (.ln false 69) 67 true,gg 71 (.fa 7 1) 67 true,gg 72 (.ld none 71) 67 true,gg 73 (.ln false 72) 67 true,gg 74 (.bo .add false 70 73) 67 true,gg 75 (.bo .gtr false 74 (kI 0)) 67 true,gg 76 (.pk 67 75 (.c (.b false))) 64 false,gp 77 (.pk 64 (.c (.b true)) 76),gM 78 77,gg 79 (.fa 8 1) 78 false,gg 80 (.ld (some 5) 79) 78 false,gg 81 (.mv 4) 78 false,gg 82 (.ca 0 57 [80,81]) 78 false,gg 83 (.no 82) 78 false,gp 84 (.pk 78 (.c (.b true)) 83)] [1,84] [1]) (.ite 84 (.sq (.rg [] [gA 2 (.c (.b false))] [2] []) .rt) .sk)) Tw))
def Tx:AC:=.kp [1,3] [1] L2
def Ty:AC:=(.sq (.rg [] [gF 28 4 1,gQ 29 28,gA 3 29] [1,3] [1]) (.sq (.sq (.rg [] [gF 30 0 1,gQ 31 30] [1,3,31] [1]) (.bl 0 (.sq (.sq (.rg [] [gB 33 .eql 31 (kI 4),gA 32 33] [1,3,31,32] [1]) (.ite 32 .sk (.rg [] [gB 34 .eql 31 (kI 5),gA 32 34] [1,3,31,32] [1]))) Tu))) Tx))
def Tz:AC:=.kp [1] [1] Ty
def N4:bg:=⟨(.sq (.rg [] [gp 1 (.bx 0),gA 2 (.c (.b false))] [1] [1]) (.sq (.sq (.rg [] [gF 5 0 1,gQ 6 5,gB 7 .lss 6 (kI 1),gM 8 7,gg 9 (.fa 0 1) 8 false,gg 10 (.ld none 9) 8 false,gg 11 (.bo .gtr false 10 (kI 7)) 8 false,gp 12 (.pk 8 (.c (.b true)) 11),gM 13 12,gg 14 (.fa 2 1) 13 false,gg 15 (.ld none 14) 13 false,gg 16 (.ca 0 54 [15]) 13 false,gg 17 (.no 16) 13 false,gp 18 (.pk 13 (.c (.b true)) 17),gM 19 18,gg 20 (.fa 3 1) 19 false,gg 21 (.ld none 20) 19 false,gg 22 (.fa 0 1) 19 false,gg 23 (.ld none 22) 19 false,gg 24 (.bo .eql false 23 (kI 2)) 19 false,gg 25 (.ca 0 55 [21,24]) 19 false,gg 26 (.no 25) 19 false,gp 27 (.pk 19 (.c (.b true)) 26)] [1,27] [1]) (.ite 27 (.sq (.rg [] [gA 2 (.c (.b false))] [2] []) .rt) .sk)) Tz)),[.t 2]⟩
def N5:bg:=⟨(.sq (.rg [] [gA 2 (.c (.b false))] [0] []) (.sq (.rg [] [gM 3 0,gp 4 (.c2 60 [3,(.c (.f 61 []))]),gp 5 (.no 4),gA 2 5] [2] []) .rt)),[.t 2]⟩
def TA:AC:=(.sq (.rg [] [gz 15 (.bs 9 1 [(.c (.s [43])),(.c (.s [45])),(.c (.s [42])),(.c (.s [60])),(.c (.s [61,61]))]),gF 16 0 1,gQ 17 16,gB 18 .sub 17 (kI 3),gp 19 (.ia 1 none 15 18),gQ 20 19,gA 3 20] [1,3] [1]) (.sq (.dg [] [] [gL (gF 21 4 1) [1] [],gV (gQ 22 21) [21] [1] [],gV (gp 23 (.ia 5 none 22 (kI 0))) [22] [1] [],gV (gp 24 (.ld (some 5) 23)) [23] [1] [],gL (gp 25 (.ca 0 28 [24])) [24] [],gL (gB 26 .add (.c (.s [40])) 25) [25] [],gL (gB 27 .add 26 (.c (.s [32]))) [26] [],gL (gM 28 3) [3] [],gL (gB 29 .add 27 28) [27,28] [],gL (gB 30 .add 29 (.c (.s [32]))) [29] [],gL (gF 31 4 1) [1] [],gV (gQ 32 31) [31] [1] [],gV (gp 33 (.ia 5 none 32 (kI 1))) [32] [1] [],gV (gp 34 (.ld (some 5) 33)) [33] [1] [],gL (gp 35 (.ca 0 28 [34])) [34] [],gH (gB 36 .add 30 35),gH (gB 37 .add 36 (.c (.s [41]))),gH (gA 2 37)] [2] []) .rt))
def TB:AC:=.kp [1] [1] TA
def N6:bg:=⟨(.sq (.rg [] [gp 1 (.bx 0),gA 2 (.c (.s []))] [1] [1]) (.sq (.sq (.rg [] [gF 4 0 1,gQ 5 4] [1,5] [1]) (.bl 0 (.sq (.rg [] [gB 7 .eql 5 (kI 1),gA 6 7] [1,5,6] [1]) (.ite 6 (.sq (.rg [] [gF 8 2 1,gQ 9 8,gp 10 (.ca 1 64 [9]),gA 2 10] [2] []) .rt) (.sq (.rg [] [gB 12 .eql 5 (kI 2),gA 11 12] [1,11] [1]) (.ite 11 (.sq (.rg [] [gF 13 3 1,gQ 14 13,gA 2 14] [2] []) .rt) .sk)))))) TB)),[.t 2]⟩
def N7:bg:=⟨(.sq (.rg [] [gA 2 (.c (.s []))] [0] []) (.sq (.rg [] [gM 3 0,gp 4 (.c2 65 [3,(.c (.s [59,32])),(.c (.f 66 []))]),gB 5 .add (.c (.s [32,123])) 4,gB 6 .add 5 (.c (.s [125])),gA 2 6] [2] []) .rt)),[.t 2]⟩
def N8:bg:=⟨(.sq (.rg [] [gA 4 (kI 0),gA 5 (.c .ni)] [0,1] [0]) (.sq (.rg [] [gM 6 0,gp 7 (.c2 67 [6])] [0,1] [0]) (.sq (.rg [] [gM 8 0,gM 9 0,gp 10 (.nc 9),gF 11 1 10,gQ 12 11,gM 13 1,gp 14 (.aq 5 12 13),gp 15 (.nc 8),gF 16 1 15,gS 1 16 14] [1] []) (.sq (.rg [] [gM 17 1,gp 18 (.ln true 17),gA 4 18,gA 5 (.c .ni)] [4,5] []) .rt)))),[.t 4,.t 5]⟩
def N9:bg:=⟨(.sq (.rg [] [gp 3 (.bx 1)] [0,3] [0,3]) (.sq (.rg [] [gF 4 0 3,gQ 5 4] [0,3,5] [0,3]) (.bl 0 (.sq (.rg [] [gB 10 .eql 5 (kI 1),gA 9 10] [0,3,5,9] [0,3]) (.ite 9 (.dg [] [17] [gL (gM 11 0) [0] [17],gL (gF 12 2 3) [3] [17],gV (gQ 13 12) [12] [3] [17],gL (gF 14 4 3) [3] [17],gV (gp 15 (.ld (some 5) 14)) [14] [3] [17],gL (gp 16 (.ca 0 28 [15])) [15] [17],gL (gz 17 (.bs 9 1 [13,(.c (.s [32,61,32])),16,(.c (.s [59]))])) [13,16] [],gH (gp 18 (.c2 10 [11,17]))] [] []) (.sq (.rg [] [gB 20 .eql 5 (kI 2),gA 19 20] [0,3,5,19] [0,3]) (.ite 19 (.dg [] [29] [gL (gM 21 0) [0] [29],gL (gF 22 2 3) [3] [29],gV (gQ 23 22) [22] [3] [29],gL (gF 24 3 3) [3] [29],gV (gQ 25 24) [24] [3] [29],gL (gF 26 9 3) [3] [29],gV (gQ 27 26) [26] [3] [29],⟨gp 28 (.ca 0 71 [27,(.c (.s [44,32])),(.c (.f 28 []))]),true,[27],[3],true,[],[29],[]⟩,gL (gz 29 (.bs 9 1 [23,(.c (.s [32,61,32])),25,(.c (.s [40])),28,(.c (.s [41,59]))])) [23,25,28] [],gH (gp 30 (.c2 10 [21,29]))] [] []) (.sq (.rg [] [gB 32 .eql 5 (kI 3),gA 31 32] [0,3,5,31] [0,3]) (.ite 31 (.rg [] [gM 33 0,gF 34 2 3,gQ 35 34,gF 36 3 3,gQ 37 36,gz 38 (.bs 9 1 [(.c (.s [103,101,116,32])),35,(.c (.s [32])),37,(.c (.s [59]))]),gp 39 (.c2 10 [33,38])] [] []) (.sq (.rg [] [gB 41 .eql 5 (kI 4),gA 40 41] [0,3,5,40] [0,3]) (.ite 40 (.dg [] [48] [gL (gM 42 0) [0] [48],gL (gF 43 3 3) [3] [48],gV (gQ 44 43) [43] [3] [48],gL (gF 45 4 3) [3] [48],gV (gp 46 (.ld (some 5) 45)) [45] [3] [48],gL (gp 47 (.ca 0 28 [46])) [46] [48],gL (gz 48 (.bs 9 1 [(.c (.s [112,117,116,32])),44,(.c (.s [32])),47,(.c (.s [59]))])) [44,47] [],gH (gp 49 (.c2 10 [42,48]))] [] []) (.sq (.rg [] [gB 51 .eql 5 (kI 5),gA 50 51] [0,3,5,50] [0,3]) (.ite 50 (.dg [] [58] [gL (gM 52 0) [0] [58],gL (gF 53 2 3) [3] [58],gV (gQ 54 53) [53] [3] [58],gL (gF 55 4 3) [3] [58],gV (gp 56 (.ld (some 5) 55)) [55] [3] [58],gL (gp 57 (.ca 0 28 [56])) [56] [58],gL (gz 58 (.bs 9 1 [(.c (.s [114,101,118,101,97,108,32])),54,(.c (.s [32])),57,(.c (.s [59]))])) [54,57] [],gH (gp 59 (.c2 10 [52,58]))] [] []) (.sq (.rg [] [gB 61 .eql 5 (kI 6),gA 60 61] [0,3,60] [0,3]) (.ite 60 (.dg [] [68] [gL (gM 62 0) [0] [68],gL (gF 63 2 3) [3] [68],gV (gQ 64 63) [63] [3] [68],gL (gF 65 4 3) [3] [68],gV (gp 66 (.ld (some 5) 65)) [65] [3] [68],gL (gp 67 (.ca 0 28 [66])) [66] [68],gL (gz 68 (.bs 9 1 [(.c (.s [116,114,117,115,116,32])),64,(.c (.s [32])),67,(.c (.s [59]))])) [64,67] [],gH (gp 69 (.c2 10 [62,68]))] [] []) (.rg [] [gM 6 0,gp 7 (.ld (some 12) 3),gp 8 (.c2 72 [6,7])] [] [])))))))))))))))),[]⟩
def TC:AC:=(.sq (.bl 3 (.sq (.rg [] [gF 47 9 7,gQ 48 47,gM 49 8,gp 50 (.ia 5 none 48 49),gp 51 (.ld (some 5) 50),gp 52 (.ca 0 34 [51,(kI 15)]),gB 53 .gtr 52 (kI 15)] [0,1,5,6,7,8,53] [7]) (.ite 53 (.sq (.rg [] [gA 4 (kI 51)] [4] []) .rt) .sk))) (.rg [] [gM 45 8,gB 46 .add 45 (kI 1),gA 8 46] [0,1,5,6,7,8] [7]))
def TD:AC:=.kp [0,1,5,6,7,8] [7] TC
def TE:AC:=(.sq (.sq (.rg [] [gM 40 8,gF 41 9 7,gQ 42 41,gp 43 (.ln false 42),gB 44 .lss 40 43] [0,1,5,6,7,8,44] [7]) (.ite 44 .sk (.ex 2))) TD)
def L3:bq:=⟨[0,1,5,6,7,8],[7],TE⟩
def TF:AC:=(.dg [] [] [gL (gM 54 5) [5] [],gL (gF 55 10 7) [7] [],gV (gQ 56 55) [55] [7] [],gL (gM 57 1) [1] [],gL (gB 58 .add 57 (kI 1)) [57] [],gV (gp 59 (.ca 0 33 [56,58])) [56,58] [7] [],gL (gB 60 .add (kI 1) 59) [59] [],gL (gF 61 11 7) [7] [],gV (gQ 62 61) [61] [7] [],gL (gM 63 1) [1] [],gL (gB 64 .add 63 (kI 1)) [63] [],gV (gp 65 (.ca 0 33 [62,64])) [62,64] [7] [],gL (gB 66 .add 60 65) [60,65] [],gH (gB 67 .add 54 66),gH (gA 5 67)] [0,1,5,6] [])
def TG:AC:=.kp [0,1,5,6,7] [7] TF
def TH:AC:=(.sq (.sq (.rg [] [gA 8 (kI 0)] [0,1,5,6,7,8] [7]) (.bl 2 L3.lp)) TG)
def TI:AC:=.kp [0,1,5,6,7] [7] TH
def TJ:AC:=(.sq (.bl 1 (.sq (.rg [] [gM 26 0,gM 27 6,gp 28 (.ia 12 none 26 27),gp 29 (.ld (some 12) 28),gp 7 (.al [(.i .i64 0),(.i .i64 0),(.s []),(.s []),(.i .i64 0),(.i .i64 0),(.i .i64 0),(.s []),(.l 44 []),(.l 44 []),(.l 68 []),(.l 68 [])]),gS 12 7 29] [0,1,5,6,7] [7]) (.sq (.sq (.rg [] [gF 30 4 7,gp 31 (.ld (some 5) 30),gp 32 (.ca 0 34 [31,(kI 15)]),gB 33 .gtr 32 (kI 15),gM 34 33,gg 35 (.fa 9 7) 34 false,gg 36 (.ld none 35) 34 false,gg 37 (.ln false 36) 34 false,gg 38 (.bo .gtr false 37 (kI 4)) 34 false,gp 39 (.pk 34 (.c (.b true)) 38)] [0,1,5,6,7,39] [7]) (.ite 39 (.sq (.rg [] [gA 4 (kI 51)] [4] []) .rt) .sk)) TI))) (.rg [] [gM 24 6,gB 25 .add 24 (kI 1),gA 6 25] [0,1,5,6] []))
def TK:AC:=.kp [0,1,5,6] [] TJ
def TL:AC:=(.sq (.sq (.rg [] [gM 16 6,gM 17 0,gp 18 (.ln false 17),gB 19 .lss 16 18,gM 20 19,gg 21 (.mv 5) 20 true,gg 22 (.bo .leq false 21 (kI 50)) 20 true,gp 23 (.pk 20 22 (.c (.b false)))] [0,1,5,6,23] []) (.ite 23 .sk (.ex 0))) TK)
def L4:bq:=⟨[0,1,5,6],[],TL⟩
def TM:AC:=(.sq (.sq (.rg [] [gM 68 5,gB 69 .gtr 68 (kI 51)] [5,69] []) (.ite 69 (.sq (.rg [] [gA 4 (kI 51)] [4] []) .rt) .sk)) (.sq (.rg [] [gM 70 5,gA 4 70] [4] []) .rt))
def TN:AC:=.kp [5] [] TM
def L5:AC:=(.sq (.rg [] [gA 5 (kI 0)] [0,1,5] []) (.sq (.sq (.rg [] [gA 6 (kI 0)] [0,1,5,6] []) (.bl 0 L4.lp)) TN))
def TO:AC:=.kp [0,1] [] L5
def Oa:bg:=⟨(.sq (.rg [] [gA 4 (kI 0)] [0,1] []) (.sq (.sq (.rg [] [gM 9 0,gp 10 (.ln false 9),gB 11 .gtr 10 (kI 0),gM 12 11,gg 13 (.mv 1) 12 true,gg 14 (.bo .gtr false 13 (kI 6)) 12 true,gp 15 (.pk 12 14 (.c (.b false)))] [0,1,15] []) (.ite 15 (.sq (.rg [] [gA 4 (kI 51)] [4] []) .rt) .sk)) TO)),[.t 4]⟩
def TP:AC:=(.sq (.bl 1 (.rg [] [gM 19 5,gF 20 4 2,gQ 21 20,gM 22 6,gp 23 (.ia 5 none 21 22),gp 24 (.ld (some 5) 23),gM 25 1,gM 26 5,gB 27 .sub 25 26,gp 28 (.ca 0 34 [24,27]),gB 29 .add 19 28,gA 5 29] [1,2,5,6] [2])) (.rg [] [gM 17 6,gB 18 .add 17 (kI 1),gA 6 18] [1,2,5,6] [2]))
def TQ:AC:=.kp [1,2,5,6] [2] TP
def TR:AC:=(.sq (.sq (.rg [] [gM 7 6,gF 8 4 2,gQ 9 8,gp 10 (.ln false 9),gB 11 .lss 7 10,gM 12 11,gg 13 (.mv 5) 12 true,gg 14 (.mv 1) 12 true,gg 15 (.bo .leq false 13 14) 12 true,gp 16 (.pk 12 15 (.c (.b false)))] [1,2,5,6,16] [2]) (.ite 16 .sk (.ex 0))) TQ)
def L6:bq:=⟨[1,2,5,6],[2],TR⟩
def Ob:bg:=⟨(.sq (.rg [] [gp 2 (.bx 0),gA 4 (kI 0)] [1,2] [2]) (.sq (.rg [] [gA 5 (kI 1)] [1,2,5] [2]) (.sq (.sq (.rg [] [gA 6 (kI 0)] [1,2,5,6] [2]) (.bl 0 L6.lp)) (.sq (.rg [] [gM 30 5,gA 4 30] [4] []) .rt)))),[.t 4]⟩
def Oc:bg:=⟨(.sq (.rg [] [gA 6 (.c (.b false))] [0,1,2] []) (.sq (.rg [] [gM 7 0,gM 8 1,gB 9 .geq 7 8,gM 10 9,gg 11 (.mv 0) 10 true,gg 12 (.mv 2) 10 true,gg 13 (.bo .leq false 11 12) 10 true,gp 14 (.pk 10 13 (.c (.b false))),gA 6 14] [6] []) .rt)),[.t 6]⟩
def Od:bg:=⟨(.sq (.rg [] [gA 2 (.c (.b false))] [0] []) (.sq (.rg [] [gM 3 0,gp 4 (.ca 0 73 [(kI 1),3]),gM 5 4,gg 6 (.mv 0) 5 true,gg 7 (.ca 0 74 [6]) 5 true,gg 8 (.no 7) 5 true,gp 9 (.pk 5 8 (.c (.b false))),gA 2 9] [2] []) .rt)),[.t 2]⟩
def Oe:bg:=⟨(.sq (.rg [] [gp 1 (.bx 0),gA 2 (.c (.b false))] [1] [1]) (.sq (.rg [] [gF 3 0 1,gQ 4 3,gB 5 .eql 4 (kI 0),gM 6 5,gg 7 (.fa 2 1) 6 true,gg 8 (.ld none 7) 6 true,gg 9 (.bo .eql false 8 (kI 0)) 6 true,gp 10 (.pk 6 9 (.c (.b false))),gM 11 10,gg 12 (.fa 3 1) 11 true,gg 13 (.ld none 12) 11 true,gg 14 (.bo .eql false 13 (.c (.s []))) 11 true,gp 15 (.pk 11 14 (.c (.b false))),gM 16 15,gg 17 (.fa 4 1) 16 true,gg 18 (.ld none 17) 16 true,gg 19 (.ln false 18) 16 true,gg 20 (.bo .eql false 19 (kI 0)) 16 true,gp 21 (.pk 16 20 (.c (.b false))),gA 2 21] [2] []) .rt)),[.t 2]⟩
def Of:bg:=⟨(.sq (.rg [] [gp 1 (.bx 0),gA 2 (.c (.b false))] [1] [1]) (.sq (.bl 0 (.sq (.rg [] [gF 4 0 1,gQ 5 4,gB 6 .eql 5 (kI 1),gA 3 6] [1,3] [1]) (.ite 3 (.sq (.rg [] [gF 7 3 1,gQ 8 7,gB 9 .eql 8 (.c (.s [])),gM 10 9,gg 11 (.fa 4 1) 10 true,gg 12 (.ld none 11) 10 true,gg 13 (.ln false 12) 10 true,gg 14 (.bo .eql false 13 (kI 0)) 10 true,gp 15 (.pk 10 14 (.c (.b false))),gM 16 15,gg 17 (.fa 2 1) 16 true,gg 18 (.ld none 17) 16 true,gg 19 (.ca 0 35 [18,(kI (-9999999)),(kI 9999999)]) 16 true,gp 20 (.pk 16 19 (.c (.b false))),gA 2 20] [2] []) .rt) (.sq (.rg [] [gF 22 0 1,gQ 23 22,gB 24 .eql 23 (kI 2),gA 21 24] [1,21] [1]) (.ite 21 (.sq (.rg [] [gF 25 2 1,gQ 26 25,gB 27 .eql 26 (kI 0),gM 28 27,gg 29 (.fa 4 1) 28 true,gg 30 (.ld none 29) 28 true,gg 31 (.ln false 30) 28 true,gg 32 (.bo .eql false 31 (kI 0)) 28 true,gp 33 (.pk 28 32 (.c (.b false))),gM 34 33,gg 35 (.fa 3 1) 34 true,gg 36 (.ld none 35) 34 true,gg 37 (.ca 0 36 [36]) 34 true,gp 38 (.pk 34 37 (.c (.b false))),gA 2 38] [2] []) .rt) (.sq (.rg [] [gF 40 0 1,gQ 41 40,gp 42 (.ca 0 35 [41,(kI 3),(kI 7)]),gA 39 42] [1,39] [1]) (.ite 39 (.sq (.rg [] [gF 43 2 1,gQ 44 43,gB 45 .eql 44 (kI 0),gM 46 45,gg 47 (.fa 3 1) 46 true,gg 48 (.ld none 47) 46 true,gg 49 (.bo .eql false 48 (.c (.s []))) 46 true,gp 50 (.pk 46 49 (.c (.b false))),gM 51 50,gg 52 (.fa 4 1) 51 true,gg 53 (.ld none 52) 51 true,gg 54 (.ln false 53) 51 true,gg 55 (.bo .eql false 54 (kI 2)) 51 true,gp 56 (.pk 51 55 (.c (.b false))),gM 57 56,gg 58 (.fa 4 1) 57 true,gg 59 (.ld none 58) 57 true,gg 60 (.ia 5 none 59 (kI 0)) 57 true,gg 61 (.ld (some 5) 60) 57 true,gg 62 (.ca 0 38 [61]) 57 true,gp 63 (.pk 57 62 (.c (.b false))),gM 64 63,gg 65 (.fa 4 1) 64 true,gg 66 (.ld none 65) 64 true,gg 67 (.ia 5 none 66 (kI 1)) 64 true,gg 68 (.ld (some 5) 67) 64 true,gg 69 (.ca 0 38 [68]) 64 true,gp 70 (.pk 64 69 (.c (.b false))),gA 2 70] [2] []) .rt) .sk))))))) (.sq (.rg [] [gA 2 (.c (.b false))] [2] []) .rt))),[.t 2]⟩
def TS:AC:=(.sq (.rg [] [gM 11 0,gB 12 .quo 11 (kI 10),gp 13 (.ng 12),gp 14 (.ca 0 39 [13]),gB 15 .add (.c (.s [45])) 14,gM 16 0,gB 17 .rem 16 (kI 10),gp 18 (.ng 17),gp 19 (.ca 0 39 [18]),gB 20 .add 15 19,gA 2 20] [2] []) .rt)
def TT:AC:=.kp [0] [] TS
def TU:AC:=(.sq (.rg [] [gM 28 0,gB 29 .quo 28 (kI 10),gp 30 (.ca 0 39 [29]),gM 31 0,gB 32 .rem 31 (kI 10),gp 33 (.ca 0 39 [32]),gB 34 .add 30 33,gA 2 34] [2] []) .rt)
def TV:AC:=.kp [0] [] TU
def TW:AC:=(.sq (.sq (.rg [] [gM 21 0,gB 22 .lss 21 (kI 10)] [0,22] []) (.ite 22 (.sq (.rg [] [gM 23 0,gB 24 .add (kI 48) 23,gp 25 (.cv .u8 24),gz 26 (.bs 5 1 [25]),gp 27 (.tx 26),gA 2 27] [2] []) .rt) .sk)) TV)
def TX:AC:=.kp [0] [] TW
def Og:bg:=⟨(.sq (.rg [] [gA 2 (.c (.s []))] [0] []) (.sq (.sq (.rg [] [gM 3 0,gB 4 .lss 3 (kI 0)] [0,4] []) (.ite 4 (.sq (.sq (.rg [] [gM 5 0,gB 6 .gtr 5 (kI (-10))] [0,6] []) (.ite 6 (.sq (.rg [] [gM 7 0,gp 8 (.ng 7),gp 9 (.ca 0 39 [8]),gB 10 .add (.c (.s [45])) 9,gA 2 10] [2] []) .rt) .sk)) TT) .sk)) TX)),[.t 2]⟩
def TY:AC:=(.sq (.rg [] [gM 91 5,gM 92 8,gM 93 7,gM 94 10,gp 95 (.bd [(.i .i64 0),(.i .i64 0),(.s [])] [(0,1,92),(1,1,93),(2,1,94)]),gz 96 (.bs 118 3 [95]),gp 97 (.ap 118 3 32 91 96),gA 5 97] [0,5,6,7,9] []) (.rg [] [gM 98 7,gM 99 9,gB 100 .add 98 99,gA 7 100] [0,5,6,7] []))
def TZ:AC:=.kp [0,5,6,7,8,9,10] [] TY
def T5:AC:=(.sq (.sq (.rg [] [gM 79 8,gB 80 .eql 79 (kI 2),gM 81 80,gg 82 (.mv 9) 81 true,gg 83 (.bo .gtr false 82 (kI 1)) 81 true,gp 84 (.pk 81 83 (.c (.b false))),gM 85 84,gg 86 (.mv 10) 85 true,gg 87 (.ix 86 (kI 0)) 85 true,gg 88 (.bo .eql false 87 (.c (.i .u8 48))) 85 true,gp 89 (.pk 85 88 (.c (.b false)))] [0,5,6,7,8,9,10,89] []) (.ite 89 (.sq (.rg [] [gM 90 7,gA 2 (.c (.l 118 [])),gA 3 90,gA 4 (kI 1)] [2,3,4,5] []) .rt) .sk)) TZ)
def T6:AC:=.kp [0,5,6,7,8,9,10] [] T5
def T7:AC:=(.sq (.rg [] [gM 58 0,gM 59 7,gM 60 7,gM 61 9,gB 62 .add 60 61,gp 63 (.sl 0 0 58 (some 59) (some 62)),gA 10 63] [0,5,6,7,8,9,10] []) (.sq (.sq (.rg [] [gM 64 8,gB 65 .eql 64 (kI 1),gM 66 65,gg 67 (.mv 9) 66 true,gg 68 (.bo .gtr false 67 (kI 12)) 66 true,gp 69 (.pk 66 68 (.c (.b false))),gM 70 69,gg 71 (.mv 8) 70 false,gg 72 (.bo .eql false 71 (kI 2)) 70 false,gg 73 (.mv 72) 70 false,gg 74 (.mv 9) 73 true,gg 75 (.bo .gtr false 74 (kI 7)) 73 true,gg 76 (.pk 73 75 (.c (.b false))) 70 false,gp 77 (.pk 70 (.c (.b true)) 76)] [0,5,6,7,8,9,10,77] []) (.ite 77 (.sq (.rg [] [gM 78 7,gA 2 (.c (.l 118 [])),gA 3 78,gA 4 (kI 2)] [2,3,4,5] []) .rt) .sk)) T6))
def T8:AC:=.kp [0,5,6,7,8,9] [] T7
def T9:AC:=(.sq (.rg [] [gM 50 0,gM 51 7,gp 52 (.ca 0 75 [50,51]),gM 49 52,gp 53 (.ex 49 0),gp 54 (.ex 49 1),gA 8 53,gA 9 54] [0,5,6,7,8,9] []) (.sq (.sq (.rg [] [gM 55 8,gB 56 .eql 55 (kI 0)] [0,5,6,7,8,9,56] []) (.ite 56 (.sq (.rg [] [gM 57 7,gA 2 (.c (.l 118 [])),gA 3 57,gA 4 (kI 1)] [2,3,4,5] []) .rt) .sk)) T8))
def Ua:AC:=.kp [0,5,6,7] [] T9
def Ub:AC:=(.sq (.sq (.rg [] [gM 31 0,gM 32 7,gp 33 (.ix 31 32),gB 34 .eql 33 (.c (.i .u8 32)),gM 35 34,gg 36 (.mv 0) 35 false,gg 37 (.mv 7) 35 false,gg 38 (.ix 36 37) 35 false,gg 39 (.bo .eql false 38 (.c (.i .u8 9))) 35 false,gp 40 (.pk 35 (.c (.b true)) 39),gM 41 40,gg 42 (.mv 0) 41 false,gg 43 (.mv 7) 41 false,gg 44 (.ix 42 43) 41 false,gg 45 (.bo .eql false 44 (.c (.i .u8 10))) 41 false,gp 46 (.pk 41 (.c (.b true)) 45)] [0,5,6,7,46] []) (.ite 46 (.sq (.rg [] [gM 47 7,gB 48 .add 47 (kI 1),gA 7 48] [0,5,6,7] []) (.ex 1)) .sk)) Ua)
def Uc:AC:=.kp [0,5,6,7] [] Ub
def Ud:AC:=(.bl 1 (.sq (.sq (.rg [] [gM 18 6,gM 19 18,gg 20 (.mv 0) 19 false,gg 21 (.mv 7) 19 false,gg 22 (.ix 20 21) 19 false,gg 23 (.bo .eql false 22 (.c (.i .u8 35))) 19 false,gp 24 (.pk 19 (.c (.b true)) 23)] [0,5,6,7,24] []) (.ite 24 (.sq (.rg [] [gM 25 0,gM 26 7,gp 27 (.ix 25 26),gB 28 .neq 27 (.c (.i .u8 10)),gA 6 28] [0,5,6,7] []) (.sq (.rg [] [gM 29 7,gB 30 .add 29 (kI 1),gA 7 30] [0,5,6,7] []) (.ex 1))) .sk)) Uc))
def Ue:AC:=.kp [0,5,6,7] [] Ud
def Uf:AC:=(.sq (.sq (.rg [] [gM 14 7,gM 15 0,gp 16 (.ln true 15),gB 17 .lss 14 16] [0,5,6,7,17] []) (.ite 17 .sk (.ex 0))) Ue)
def Ug:bq:=⟨[0,5,6,7],[],Uf⟩
def Uh:AC:=(.sq (.rg [] [gM 101 5,gA 2 101,gA 3 (kI 0),gA 4 (kI 0)] [2,3,4,5] []) .rt)
def Ui:AC:=.kp [5] [] Uh
def Uj:AC:=(.sq (.rg [] [gA 5 (.c .n)] [0,5] []) (.sq (.rg [.own 5 118] [gA 6 (.c (.b false))] [0,5,6] []) (.sq (.sq (.rg [] [gA 7 (kI 0)] [0,5,6,7] []) (.bl 0 Ug.lp)) Ui)))
def Uk:AC:=.kp [0] [] Uj
def Yv:bg:=⟨(.sq (.rg [] [gA 2 (.c (.l 118 [])),gA 3 (kI 0),gA 4 (kI 0)] [0] []) (.sq (.sq (.rg [] [gM 11 0,gp 12 (.ln true 11),gB 13 .gtr 12 (kI 6000)] [0,13] []) (.ite 13 (.sq (.rg [] [gA 2 (.c (.l 118 [])),gA 3 (kI 0),gA 4 (kI 2)] [2,3,4,5] []) .rt) .sk)) Uk)),[.t 2,.t 3,.t 4]⟩
def Ul:AC:=(.sq (.bl 1 (.sq (.dg [] [] [gL (gM 15 0) [0] [],⟨gp 16 (.c3 76 [15,(kI 0)]),true,[15],[],true,[],[],[]⟩,gL (gM 17 5) [5] [],gL (gM 18 6) [6] [],gL (gp 19 (.ia 1 none 17 18)) [17,18] [],gL (gQ 20 19) [19] [],gH (gB 21 .eql 16 20)] [0,2,4,5,6,21] [0,2,4]) (.ite 21 (.rg [] [gM 22 6,gF 23 0 4,gS 1 23 22] [0,2,4,5,6] [0,2,4]) .sk))) (.rg [] [gM 13 6,gB 14 .add 13 (kI 1),gA 6 14] [0,2,4,5,6] [0,2,4]))
def Um:AC:=.kp [0,2,4,5,6] [0,2,4] Ul
def Un:AC:=(.sq (.sq (.rg [] [gM 11 6,gB 12 .lss 11 (kI 8)] [0,2,4,5,6,12] [0,2,4]) (.ite 12 .sk (.ex 0))) Um)
def Uo:bq:=⟨[0,2,4,5,6],[0,2,4],Un⟩
def Up:AC:=(.dg [] [63] [⟨gF 59 6 4,true,[4],[],false,[],[63],[1000000]⟩,⟨gp 60 (.lk none 59 4 false),true,[59,4],[4],true,[],[63],[]⟩,gL (gM 61 0) [0] [63],gH (gp 62 (.ch 77 [61] [4] [] [63])),gL (gz 63 (.bs 9 1 [62])) [62] [],gH (gp 64 (.ap 9 1 16 60 63)),gH (gF 65 6 4),gH (gS 1 65 64)] [0,2,4] [0,2,4])
def Uq:AC:=.kp [0,2,4] [0,2,4] Up
def Ur:AC:=(.bl 3 (.sq (.sq (.rg [] [gF 53 6 4,gQ 54 53,gp 55 (.ln false 54),gB 56 .gtr 55 (kI 0)] [0,2,4,56] [0,2,4]) (.ite 56 (.rg [] [gM 57 0,gp 58 (.c2 42 [57,(.c (.s [44]))])] [0,2,4] [0,2,4]) .sk)) Uq))
def Us:AC:=.kp [0,2,4] [0,2,4] Ur
def Ut:AC:=(.sq (.sq (.rg [] [gM 43 0,gp 44 (.nc 43),gF 45 3 44,gQ 46 45,gp 47 (.no 46),gM 48 47,gg 49 (.mv 0) 48 true,gg 50 (.c3 76 [49,(kI 0)]) 48 true,gg 51 (.bo .neq false 50 (.c (.s [41]))) 48 true,gp 52 (.pk 48 51 (.c (.b false)))] [0,2,4,52] [0,2,4]) (.ite 52 .sk (.ex 2))) Us)
def Uu:bq:=⟨[0,2,4],[0,2,4],Ut⟩
def Uv:AC:=(.sq (.rg [] [gM 66 0,gp 67 (.c2 42 [66,(.c (.s [41]))])] [0,2,4] [0,2,4]) (.sq (.rg [] [gM 68 0,gp 69 (.c2 42 [68,(.c (.s [123]))])] [0,2,4] [0,2,4]) (.sq (.rg [] [gM 70 0,gp 71 (.c2 78 [70,(.c (.s [114,101,116,117,114,110]))]),gF 72 7 4,gS 1 72 71] [0,2,4] [0,2,4]) (.sq (.rg [] [gM 73 0,gp 74 (.c2 42 [73,(.c (.s [114,101,116,117,114,110]))])] [0,2,4] [0,2,4]) (.sq (.rg [] [gM 75 0,gp 76 (.c2 79 [75,(kI 0)]),gF 77 8 4,gS 5 77 76] [0,2,4] [0,2,4]) (.sq (.rg [] [gM 78 0,gp 79 (.c2 42 [78,(.c (.s [59]))])] [0,2,4] [0,2,4]) (.sq (.rg [] [gM 80 0,gp 81 (.c2 42 [80,(.c (.s [125]))])] [2,4] [2,4]) (.sq (.rg [.fzC 4 6] [gp 82 (.ld (some 13) 4),gS 13 2 82,gA 3 (.c (.b true))] [2,3] [2]) .rt))))))))
def Uw:AC:=.kp [0,2,4] [0,2,4] Uv
def Ux:AC:=(.sq (.rg [] [gM 113 0,gp 114 (.c2 42 [113,(.c (.s [59]))])] [2,4] [2,4]) (.sq (.rg [.fzC 4 6] [gp 115 (.ld (some 13) 4),gS 13 2 115,gA 3 (.c (.b true))] [2,3] [2]) .rt))
def Uy:AC:=.kp [0,2,4] [0,2,4] Ux
def Uz:AC:=(.sq (.rg [] [gF 89 0 4,gQ 90 89,gB 91 .eql 90 (kI 4),gM 92 91,gg 93 (.fa 0 4) 92 false,gg 94 (.ld none 93) 92 false,gg 95 (.bo .eql false 94 (kI 5)) 92 false,gp 96 (.pk 92 (.c (.b true)) 95),gM 97 96,gg 98 (.fa 0 4) 97 false,gg 99 (.ld none 98) 97 false,gg 100 (.bo .eql false 99 (kI 6)) 97 false,gg 101 (.mv 100) 97 false,gg 102 (.mv 0) 101 true,gg 103 (.c3 76 [102,(kI 0)]) 101 true,gg 104 (.bo .eql false 103 (.c (.s [123]))) 101 true,gg 105 (.pk 101 104 (.c (.b false))) 97 false,gp 106 (.pk 97 (.c (.b true)) 105),gF 107 4 4,gS 1 107 106] [0,2,4] [0,2,4]) (.sq (.sq (.rg [] [gF 108 4 4,gQ 109 108] [0,2,4,109] [0,2,4]) (.ite 109 (.rg [] [gM 110 0,gp 111 (.c2 80 [110]),gF 112 5 4,gS 1 112 111] [0,2,4] [0,2,4]) .sk)) Uy))
def UA:AC:=.kp [0,2,4] [0,2,4] Uz
def UB:AC:=(.sq (.sq (.rg [] [gF 83 0 4,gQ 84 83,gB 85 .eql 84 (kI 2)] [0,2,4,85] [0,2,4]) (.ite 85 (.rg [] [gM 86 0,gp 87 (.c2 77 [86]),gF 88 3 4,gS 1 88 87] [0,2,4] [0,2,4]) .sk)) UA)
def UC:AC:=.kp [0,2,4] [0,2,4] UB
def UD:AC:=(.sq (.rg [] [gM 28 0,gM 29 5,gF 30 0 4,gQ 31 30,gp 32 (.ia 1 none 29 31),gQ 33 32,gp 34 (.c2 42 [28,33])] [0,2,4] [0,2,4]) (.sq (.rg [] [gM 35 0,gp 36 (.c2 77 [35]),gF 37 2 4,gS 1 37 36] [0,2,4] [0,2,4]) (.sq (.sq (.rg [] [gF 38 0 4,gQ 39 38,gB 40 .eql 39 (kI 7)] [0,2,4,40] [0,2,4]) (.ite 40 (.sq (.rg [] [gM 41 0,gp 42 (.c2 42 [41,(.c (.s [40]))])] [0,2,4] [0,2,4]) (.sq (.bl 2 Uu.lp) Uw)) .sk)) UC)))
def UE:AC:=.kp [0,2,4,5] [0,2,4] UD
def UF:AC:=(.sq (.sq (.rg [] [gF 24 0 4,gQ 25 24,gB 26 .eql 25 (kI 0)] [0,2,4,5,26] [0,2,4]) (.ite 26 (.sq (.rg [.fzC 4 6] [gp 27 (.ld (some 13) 4),gS 13 2 27,gA 3 (.c (.b false))] [2,3] [2]) .rt) .sk)) UE)
def UG:AC:=.kp [0,2,4,5] [0,2,4] UF
def Yw:bg:=⟨(.sq (.rg [] [gp 2 (.al [(.i .i64 0),(.i .i64 0),(.s []),(.s []),(.b false),(.l 74 []),(.l 9 []),(.l 68 []),(.i .i64 0),(.i .i64 0),(.i .i64 0),(.s []),(.l 44 [])]),gA 3 (.c (.b false))] [0,2] [0,2]) (.sq (.rg [] [gM 7 0,gp 8 (.c3 44 [7]),gp 9 (.bd [(.i .i64 0),(.i .i64 0),(.s []),(.s []),(.b false),(.l 74 []),.n,(.l 68 []),(.i .i64 0),(.i .i64 0),(.i .i64 0),(.s []),(.l 44 [])] [(1,1,8)]),gp 4 (.al [(.i .i64 0),(.i .i64 0),(.s []),(.s []),(.b false),(.l 74 []),.n,(.l 68 []),(.i .i64 0),(.i .i64 0),(.i .i64 0),(.s []),(.l 44 [])]),gS 13 4 9] [0,2,4] [0,2,4]) (.sq (.rg [.ownC 4 6 9] [gz 10 (.bs 9 1 [(.c (.s [])),(.c (.s [97,99,116,111,114])),(.c (.s [103,114,97,110,116])),(.c (.s [115,112,101,97,107])),(.c (.s [105,110])),(.c (.s [111,117,116])),(.c (.s [118,97,114])),(.c (.s [102,117,110,99]))]),gA 5 10] [0,2,4,5] [0,2,4]) (.sq (.sq (.rg [] [gA 6 (kI 1)] [0,2,4,5,6] [0,2,4]) (.bl 0 Uo.lp)) UG)))),[.c 2 (some 13),.t 3]⟩
def UH:AC:=(.sq (.rg [] [gM 8 0,gp 9 (.c3 76 [8,(kI 0)]),gM 10 1,gB 11 .eql 9 10] [0,11] [0]) (.ite 11 (.rg [] [gM 12 0,gp 13 (.nc 12),gF 14 1 13,gQ 15 14,gB 16 .add 15 (kI 1),gp 17 (.nc 12),gF 18 1 17,gS 1 18 16] [] []) (.rg [] [gM 19 0,gp 20 (.nc 19),gF 21 3 20,gS 1 21 (.c (.b true))] [] [])))
def UI:AC:=.kp [0,1] [0] UH
def Yx:bg:=⟨(.sq (.sq (.rg [] [gM 4 0,gp 5 (.nc 4),gF 6 3 5,gQ 7 6] [0,1,7] [0]) (.ite 7 .rt .sk)) UI),[]⟩
def Yy:bg:=⟨(.sq (.rg [] [gA 2 (.c (.l 68 []))] [0] [0]) (.sq (.rg [] [gM 4 0,gp 5 (.c2 42 [4,(.c (.s [123]))])] [0] [0]) (.sq (.rg [] [gM 6 0,gp 7 (.c2 78 [6,(.c (.s [125]))]),gA 3 7] [0,3] [0]) (.sq (.rg [] [gM 8 0,gp 9 (.c2 42 [8,(.c (.s [125]))])] [3] []) (.sq (.rg [] [gM 10 3,gA 2 10] [2] []) .rt))))),[.t 2]⟩
def UJ:AC:=(.sq (.rg [] [gM 24 0,gp 25 (.nc 24),gF 26 2 25,gQ 27 26,gA 2 27] [2] []) .rt)
def UK:AC:=.kp [0] [0] UJ
def Yz:bg:=⟨(.sq (.rg [] [gA 2 (kI 0)] [0] [0]) (.sq (.sq (.dg [] [] [gL (gM 3 0) [0] [],gL (gp 4 (.nc 3)) [3] [],gL (gF 5 1 4) [4] [],⟨gQ 6 5,true,[5],[],true,[],[],[]⟩,gL (gM 7 0) [0] [],gL (gp 8 (.nc 7)) [7] [],gL (gF 9 0 8) [8] [],⟨gQ 10 9,true,[9],[],true,[],[],[]⟩,⟨gp 11 (.ln false 10),true,[10],[],true,[],[],[]⟩,gH (gB 12 .lss 6 11)] [0,12] [0]) (.ite 12 (.sq (.dg [] [] [gL (gM 13 0) [0] [],gL (gp 14 (.nc 13)) [13] [],gL (gF 15 0 14) [14] [],⟨gQ 16 15,true,[15],[],true,[],[],[]⟩,gL (gM 17 0) [0] [],gL (gp 18 (.nc 17)) [17] [],gL (gF 19 1 18) [18] [],⟨gQ 20 19,true,[19],[],true,[],[],[]⟩,gH (gp 21 (.ia 3 none 16 20)),gH (gF 22 1 21),gH (gQ 23 22),gH (gA 2 23)] [2] []) .rt) .sk)) UK)),[.t 2]⟩
def UL:AC:=(.sq (.bl 1 (.sq (.rg [] [gM 19 17,gp 20 (.ia 13 none 15 17),gp 21 (.ld (some 13) 20),gp 8 (.al [(.i .i64 0),(.i .i64 0),(.s []),(.s []),(.b false),(.l 74 []),(.l 9 []),(.l 68 []),(.i .i64 0),(.i .i64 0),(.i .i64 0),(.s []),(.l 44 [])]),gA 7 19,gS 13 8 21] [1,2,7,8,15,16,17] [8]) (.sq (.rg [] [gM 22 1,gM 23 7,gp 24 (.ia 13 none 22 23),gp 25 (.ld (some 13) 24),gp 9 (.al [(.i .i64 0),(.i .i64 0),(.s []),(.s []),(.b false),(.l 74 []),(.l 9 []),(.l 68 []),(.i .i64 0),(.i .i64 0),(.i .i64 0),(.s []),(.l 44 [])]),gS 13 9 25] [1,2,8,9,15,16,17] [8,9]) (.sq (.rg [] [gM 26 2,gp 27 (.ld (some 13) 8),gp 28 (.ld (some 13) 9),gp 29 (.cf 0 26 [27,28]),gp 30 (.no 29)] [1,2,15,16,17,30] []) (.ite 30 (.sq (.rg [] [gA 6 (.c (.b false))] [6] []) .rt) .sk))))) (.rg [] [gB 31 .add 17 (kI 1),gM 17 31] [1,2,15,16,17] []))
def UM:AC:=.kp [1,2,15,16,17] [] UL
def UN:AC:=(.sq (.rg [] [gB 18 .lss 17 16] [1,2,15,16,17,18] []) (.sq (.ite 18 .sk (.ex 0)) UM))
def UO:bq:=⟨[1,2,15,16,17],[],UN⟩
def UP:AC:=(.sq (.sq (.rg [] [gM 15 0,gp 16 (.ln false 15),gM 17 (kI 0)] [1,2,15,16,17] []) (.bl 0 UO.lp)) (.sq (.rg [] [gA 6 (.c (.b true))] [6] []) .rt))
def UQ:AC:=.kp [0,1,2] [] UP
def YA:bg:=⟨(.sq (.rg [] [gA 6 (.c (.b false))] [0,1,2] []) (.sq (.sq (.rg [] [gM 10 0,gp 11 (.ln false 10),gM 12 1,gp 13 (.ln false 12),gB 14 .neq 11 13] [0,1,2,14] []) (.ite 14 (.sq (.rg [] [gA 6 (.c (.b false))] [6] []) .rt) .sk)) UQ)),[.t 6]⟩
def YB:bg:=⟨(.sq (.rg [] [gp 2 (.bx 0),gp 3 (.bx 1),gA 4 (.c (.b false))] [2,3] [2,3]) (.sq (.rg [] [gF 5 0 2,gQ 6 5,gF 7 0 3,gQ 8 7,gB 9 .eql 6 8,gM 10 9,gg 11 (.fa 2 2) 10 true,gg 12 (.ld none 11) 10 true,gg 13 (.fa 2 3) 10 true,gg 14 (.ld none 13) 10 true,gg 15 (.bo .eql false 12 14) 10 true,gp 16 (.pk 10 15 (.c (.b false))),gM 17 16,gg 18 (.fa 3 2) 17 true,gg 19 (.ld none 18) 17 true,gg 20 (.fa 3 3) 17 true,gg 21 (.ld none 20) 17 true,gg 22 (.bo .eql false 19 21) 17 true,gp 23 (.pk 17 22 (.c (.b false))),gM 24 23,gg 25 (.fa 4 2) 24 true,gg 26 (.ld none 25) 24 true,gg 27 (.fa 4 3) 24 true,gg 28 (.ld none 27) 24 true,gg 29 (.bo .eql true 26 28) 24 true,gp 30 (.pk 24 29 (.c (.b false))),gM 31 30,gg 32 (.fa 5 2) 31 true,gg 33 (.ld none 32) 31 true,gg 34 (.fa 5 3) 31 true,gg 35 (.ld none 34) 31 true,gg 36 (.c2 81 [33,35,(.c (.f 82 []))]) 31 true,gp 37 (.pk 31 36 (.c (.b false))),gM 38 37,gg 39 (.fa 6 2) 38 true,gg 40 (.ld none 39) 38 true,gg 41 (.fa 6 3) 38 true,gg 42 (.ld none 41) 38 true,gg 43 (.ca 0 83 [40,42]) 38 true,gp 44 (.pk 38 43 (.c (.b false))),gM 45 44,gg 46 (.fa 7 2) 45 true,gg 47 (.ld none 46) 45 true,gg 48 (.fa 7 3) 45 true,gg 49 (.ld none 48) 45 true,gg 50 (.c2 47 [47,49,(.c (.f 48 []))]) 45 true,gp 51 (.pk 45 50 (.c (.b false))),gM 52 51,gg 53 (.fa 8 2) 52 true,gg 54 (.ld (some 5) 53) 52 true,gg 55 (.fa 8 3) 52 true,gg 56 (.ld (some 5) 55) 52 true,gg 57 (.ca 0 84 [54,56]) 52 true,gp 58 (.pk 52 57 (.c (.b false))),gA 4 58] [4] []) .rt)),[.t 4]⟩
def UR:AC:=(.sq (.bl 1 (.sq (.rg [] [gM 19 17,gp 20 (.ia 12 none 15 17),gp 21 (.ld (some 12) 20),gp 8 (.al [(.i .i64 0),(.i .i64 0),(.s []),(.s []),(.i .i64 0),(.i .i64 0),(.i .i64 0),(.s []),(.l 44 []),(.l 44 []),(.l 68 []),(.l 68 [])]),gA 7 19,gS 12 8 21] [1,2,7,8,15,16,17] [8]) (.sq (.rg [] [gM 22 1,gM 23 7,gp 24 (.ia 12 none 22 23),gp 25 (.ld (some 12) 24),gp 9 (.al [(.i .i64 0),(.i .i64 0),(.s []),(.s []),(.i .i64 0),(.i .i64 0),(.i .i64 0),(.s []),(.l 44 []),(.l 44 []),(.l 68 []),(.l 68 [])]),gS 12 9 25] [1,2,8,9,15,16,17] [8,9]) (.sq (.rg [] [gM 26 2,gp 27 (.ld (some 12) 8),gp 28 (.ld (some 12) 9),gp 29 (.cf 0 26 [27,28]),gp 30 (.no 29)] [1,2,15,16,17,30] []) (.ite 30 (.sq (.rg [] [gA 6 (.c (.b false))] [6] []) .rt) .sk))))) (.rg [] [gB 31 .add 17 (kI 1),gM 17 31] [1,2,15,16,17] []))
def US:AC:=.kp [1,2,15,16,17] [] UR
def UT:AC:=(.sq (.rg [] [gB 18 .lss 17 16] [1,2,15,16,17,18] []) (.sq (.ite 18 .sk (.ex 0)) US))
def UU:bq:=⟨[1,2,15,16,17],[],UT⟩
def UW:AC:=(.sq (.sq (.rg [] [gM 15 0,gp 16 (.ln false 15),gM 17 (kI 0)] [1,2,15,16,17] []) (.bl 0 UU.lp)) (.sq (.rg [] [gA 6 (.c (.b true))] [6] []) .rt))
def UX:AC:=.kp [0,1,2] [] UW
def YC:bg:=⟨(.sq (.rg [] [gA 6 (.c (.b false))] [0,1,2] []) (.sq (.sq (.rg [] [gM 10 0,gp 11 (.ln false 10),gM 12 1,gp 13 (.ln false 12),gB 14 .neq 11 13] [0,1,2,14] []) (.ite 14 (.sq (.rg [] [gA 6 (.c (.b false))] [6] []) .rt) .sk)) UX)),[.t 6]⟩
def YD:bg:=⟨(.sq (.rg [] [gp 2 (.bx 0),gp 3 (.bx 1),gA 4 (.c (.b false))] [2,3] [2,3]) (.sq (.rg [] [gF 5 0 2,gQ 6 5,gF 7 0 3,gQ 8 7,gB 9 .eql 6 8,gM 10 9,gg 11 (.fa 2 2) 10 true,gg 12 (.ld none 11) 10 true,gg 13 (.fa 2 3) 10 true,gg 14 (.ld none 13) 10 true,gg 15 (.bo .eql false 12 14) 10 true,gp 16 (.pk 10 15 (.c (.b false))),gM 17 16,gg 18 (.fa 3 2) 17 true,gg 19 (.ld none 18) 17 true,gg 20 (.fa 3 3) 17 true,gg 21 (.ld none 20) 17 true,gg 22 (.bo .eql false 19 21) 17 true,gp 23 (.pk 17 22 (.c (.b false))),gM 24 23,gg 25 (.fa 4 2) 24 true,gg 26 (.ld (some 5) 25) 24 true,gg 27 (.fa 4 3) 24 true,gg 28 (.ld (some 5) 27) 24 true,gg 29 (.ca 0 84 [26,28]) 24 true,gp 30 (.pk 24 29 (.c (.b false))),gM 31 30,gg 32 (.fa 9 2) 31 true,gg 33 (.ld none 32) 31 true,gg 34 (.fa 9 3) 31 true,gg 35 (.ld none 34) 31 true,gg 36 (.c2 85 [33,35,(.c (.f 84 []))]) 31 true,gp 37 (.pk 31 36 (.c (.b false))),gM 38 37,gg 39 (.fa 10 2) 38 true,gg 40 (.ld none 39) 38 true,gg 41 (.fa 10 3) 38 true,gg 42 (.ld none 41) 38 true,gg 43 (.c2 47 [40,42,(.c (.f 48 []))]) 38 true,gp 44 (.pk 38 43 (.c (.b false))),gM 45 44,gg 46 (.fa 11 2) 45 true,gg 47 (.ld none 46) 45 true,gg 48 (.fa 11 3) 45 true,gg 49 (.ld none 48) 45 true,gg 50 (.c2 47 [47,49,(.c (.f 48 []))]) 45 true,gp 51 (.pk 45 50 (.c (.b false))),gA 4 51] [4] []) .rt)),[.t 4]⟩
def Oh:bg:=⟨(.sq (.rg [] [gA 4 (.c (.b false))] [0,1] []) (.sq (.rg [] [gM 5 0,gM 6 1,gp 7 (.c2 86 [5,6]),gB 8 .geq 7 (kI 0),gA 4 8] [4] []) .rt)),[.t 4]⟩
def Oi:bg:=⟨(.sq (.rg [] [gp 1 (.bx 0),gA 2 (.c (.b false))] [1] [1]) (.sq (.rg [] [gF 3 3 1,gQ 4 3,gp 5 (.ln false 4),gB 6 .gtr 5 (kI 6),gA 2 6] [2] []) .rt)),[.t 2]⟩
def UY:AC:=(.rg [] [gM 18 5,gp 19 (.ld (some 5) 7),gM 20 1,gM 21 5,gB 22 .sub 20 21,gp 23 (.ca 0 51 [19,22]),gB 24 .add 18 23,gA 5 24] [1,5,9,10,11] [])
def UZ:AC:=.kp [1,5,7,9,10,11] [7] UY
def U0:AC:=(.sq (.bl 1 (.sq (.rg [] [gp 13 (.ia 5 none 9 11),gp 14 (.ld (some 5) 13),gp 7 (.al [(.i .i64 0),(.i .i64 0),(.i .i64 0),(.s []),(.l 44 [])]),gS 5 7 14] [1,5,7,9,10,11] [7]) (.sq (.sq (.rg [] [gM 15 5,gM 16 1,gB 17 .gtr 15 16] [1,5,7,9,10,11,17] [7]) (.ite 17 (.ex 0) .sk)) UZ))) (.rg [] [gB 25 .add 11 (kI 1),gM 11 25] [1,5,9,10,11] []))
def U1:AC:=.kp [1,5,9,10,11] [] U0
def U2:AC:=(.sq (.rg [] [gB 12 .lss 11 10] [1,5,9,10,11,12] []) (.sq (.ite 12 .sk (.ex 0)) U1))
def L7:bq:=⟨[1,5,9,10,11],[],U2⟩
def Oj:bg:=⟨(.sq (.rg [] [gp 2 (.bx 0),gA 4 (kI 0)] [1,2] [2]) (.sq (.rg [] [gA 5 (kI 1)] [1,2,5] [2]) (.sq (.sq (.rg [] [gF 8 4 2,gQ 9 8,gp 10 (.ln false 9),gM 11 (kI 0)] [1,5,9,10,11] []) (.bl 0 L7.lp)) (.sq (.rg [] [gM 26 5,gA 4 26] [4] []) .rt)))),[.t 4]⟩
def U3:AC:=(.sq (.rg [] [gM 51 0,gF 52 10 8,gQ 53 52,gM 54 2,gB 55 .add 54 (kI 1),gp 56 (.c2 52 [51,53,55]),gM 57 56,gg 58 (.mv 0) 57 false,gg 59 (.fa 11 8) 57 false,gg 60 (.ld none 59) 57 false,gg 61 (.mv 2) 57 false,gg 62 (.bo .add false 61 (kI 1)) 57 false,gg 63 (.c2 52 [58,60,62]) 57 false,gp 64 (.pk 57 (.c (.b true)) 63)] [0,2,16,17,18,64] [0]) (.ite 64 (.sq (.rg [] [gA 6 (.c (.b true))] [6] []) .rt) .sk))
def U4:AC:=.kp [0,2,8,16,17,18] [0,8] U3
def U5:AC:=(.sq (.bl 1 (.sq (.rg [] [gp 20 (.ia 12 none 16 18),gp 21 (.ld (some 12) 20),gp 8 (.al [(.i .i64 0),(.i .i64 0),(.s []),(.s []),(.i .i64 0),(.i .i64 0),(.i .i64 0),(.s []),(.l 44 []),(.l 44 []),(.l 68 []),(.l 68 [])]),gS 12 8 21] [0,2,8,16,17,18] [0,8]) (.sq (.rg [] [gM 22 0,gp 23 (.nc 22),gF 24 0 23,gQ 25 24,gB 26 .add 25 (kI 1),gp 27 (.nc 22),gF 28 0 27,gS 1 28 26] [0,2,8,16,17,18] [0,8]) (.sq (.sq (.rg [] [gM 29 0,gp 30 (.nc 29),gF 31 0 30,gQ 32 31,gB 33 .gtr 32 (kI 50),gM 34 33,gg 35 (.fa 4 8) 34 false,gg 36 (.ld (some 5) 35) 34 false,gg 37 (.ca 0 51 [36,(kI 15)]) 34 false,gg 38 (.bo .gtr false 37 (kI 15)) 34 false,gp 39 (.pk 34 (.c (.b true)) 38),gM 40 39,gg 41 (.fa 9 8) 40 false,gg 42 (.ld none 41) 40 false,gg 43 (.ln false 42) 40 false,gg 44 (.bo .gtr false 43 (kI 4)) 40 false,gp 45 (.pk 40 (.c (.b true)) 44),gM 46 45,gg 47 (.fa 9 8) 46 false,gg 48 (.ld none 47) 46 false,gg 49 (.c2 87 [48,(.c (.f 88 []))]) 46 false,gp 50 (.pk 46 (.c (.b true)) 49)] [0,2,8,16,17,18,50] [0,8]) (.ite 50 (.sq (.rg [] [gA 6 (.c (.b true))] [6] []) .rt) .sk)) U4)))) (.rg [] [gB 65 .add 18 (kI 1),gM 18 65] [0,2,16,17,18] [0]))
def U6:AC:=.kp [0,2,16,17,18] [0] U5
def U7:AC:=(.sq (.rg [] [gB 19 .lss 18 17] [0,2,16,17,18,19] [0]) (.sq (.ite 19 .sk (.ex 0)) U6))
def L8:bq:=⟨[0,2,16,17,18],[0],U7⟩
def L9:AC:=(.sq (.sq (.rg [] [gM 16 1,gp 17 (.ln false 16),gM 18 (kI 0)] [0,2,16,17,18] [0]) (.bl 0 L8.lp)) (.sq (.rg [] [gA 6 (.c (.b false))] [6] []) .rt))
def U8:AC:=.kp [0,1,2] [0] L9
def Ok:bg:=⟨(.sq (.rg [] [gA 6 (.c (.b false))] [0,1,2] [0]) (.sq (.sq (.rg [] [gM 9 1,gp 10 (.ln false 9),gB 11 .gtr 10 (kI 0),gM 12 11,gg 13 (.mv 2) 12 true,gg 14 (.bo .gtr false 13 (kI 6)) 12 true,gp 15 (.pk 12 14 (.c (.b false)))] [0,1,2,15] [0]) (.ite 15 (.sq (.rg [] [gA 6 (.c (.b true))] [6] []) .rt) .sk)) U8)),[.t 6]⟩
def U9:AC:=(.sq (.bl 1 (.sq (.rg [] [gM 10 8,gA 5 10] [0,1,5,7,8] []) (.sq (.rg [] [gM 11 1,gM 12 0,gM 13 5,gp 14 (.ia 13 none 12 13),gp 15 (.ld (some 13) 14),gp 16 (.cf 0 11 [15])] [0,1,5,7,8,16] []) (.ite 16 (.sq (.rg [] [gM 17 5,gA 4 17] [4] []) .rt) .sk)))) (.rg [] [gB 18 .add 8 (kI 1),gM 8 18] [0,1,7,8] []))
def Va:AC:=.kp [0,1,7,8] [] U9
def Vb:AC:=(.sq (.rg [] [gB 9 .lss 8 7] [0,1,7,8,9] []) (.sq (.ite 9 .sk (.ex 0)) Va))
def Ma:bq:=⟨[0,1,7,8],[],Vb⟩
def Ol:bg:=⟨(.sq (.rg [] [gA 4 (kI 0)] [0,1] []) (.sq (.sq (.rg [] [gM 6 0,gp 7 (.ln false 6),gM 8 (kI 0)] [0,1,7,8] []) (.bl 0 Ma.lp)) (.sq (.rg [] [gA 4 (kI (-1))] [4] []) .rt))),[.t 4]⟩
def Om:bg:=⟨(.sq (.rg [] [gA 2 (.c (.b false))] [0] []) (.sq (.rg [] [gM 3 0,gp 4 (.ca 0 89 [3]),gM 5 4,gg 6 (.ca 0 91 []) 5 true,gg 7 (.mv 0) 5 true,gg 8 (.ca 0 90 [6,7]) 5 true,gg 9 (.no 8) 5 true,gp 10 (.pk 5 9 (.c (.b false))),gA 2 10] [2] []) .rt)),[.t 2]⟩
def On:bg:=⟨(.sq (.rg [] [gA 4 (.c (.b false))] [0,1] []) (.sq (.rg [] [gM 5 1,gM 6 5,gg 7 (.mv 0) 6 true,gg 8 (.ca 0 54 [7]) 6 true,gp 9 (.pk 6 8 (.c (.b false))),gM 10 9,gg 11 (.mv 1) 10 false,gg 12 (.no 11) 10 false,gg 13 (.mv 12) 10 false,gg 14 (.mv 0) 13 true,gg 15 (.bo .eql false 14 (.c (.s []))) 13 true,gg 16 (.pk 13 15 (.c (.b false))) 10 false,gp 17 (.pk 10 (.c (.b true)) 16),gA 4 17] [4] []) .rt)),[.t 4]⟩
def Oo:bg:=⟨(.sq (.rg [] [gA 2 (.c (.b false))] [0] []) (.sq (.rg [] [gM 3 0,gp 4 (.c2 49 [3,(.c (.f 92 []))]),gp 5 (.no 4),gA 2 5] [2] []) .rt)),[.t 2]⟩
def Oq:bg:=⟨(.sq (.rg [] [gp 2 (.bx 0),gA 4 (.c (.b false))] [1,2] [2]) (.sq (.rg [] [gM 5 1,gM 6 5,gg 7 (.ld (some 5) 2) 6 true,gg 8 (.ca 0 94 [7]) 6 true,gp 9 (.pk 6 8 (.c (.b false))),gM 10 9,gg 11 (.mv 1) 10 false,gg 12 (.no 11) 10 false,gg 13 (.mv 12) 10 false,gg 14 (.ld (some 5) 2) 13 true,gg 15 (.ca 0 95 [14]) 13 true,gg 16 (.pk 13 15 (.c (.b false))) 10 false,gp 17 (.pk 10 (.c (.b true)) 16),gA 4 17] [4] []) .rt)),[.t 4]⟩
def Ot:bg:=⟨(.sq (.rg [] [gA 4 (.c (.b false))] [0,1] []) (.sq (.rg [] [gM 5 0,gM 6 1,gp 7 (.c2 96 [5,6]),gB 8 .geq 7 (kI 0),gA 4 8] [4] []) .rt)),[.t 4]⟩
def Ou:bg:=⟨(.sq (.rg [] [gA 2 (.c (.b false))] [0] []) (.sq (.rg [] [gM 3 0,gp 4 (.ca 0 54 [3]),gp 5 (.no 4),gA 2 5] [2] []) .rt)),[.t 2]⟩
def Ov:bg:=⟨(.sq (.rg [] [gA 4 (.c (.b false))] [0,1] []) (.sq (.rg [] [gM 5 0,gM 6 1,gp 7 (.c2 97 [5,6]),gB 8 .geq 7 (kI 0),gA 4 8] [4] []) .rt)),[.t 4]⟩
def Ow:bg:=⟨(.sq (.rg [] [gp 1 (.bx 0),gA 2 (.c (.b false))] [1] [1]) (.sq (.rg [] [gp 3 (.ld (some 12) 1),gp 4 (.ca 0 62 [3]),gp 5 (.no 4),gA 2 5] [2] []) .rt)),[.t 2]⟩
def Vc:AC:=(.sq (.rg [] [gF 77 9 1,gQ 78 77,gp 79 (.c2 87 [78,(.c (.f 98 []))]),gp 80 (.no 79),gM 81 80,gg 82 (.fa 10 1) 81 true,gg 83 (.ld none 82) 81 true,gg 84 (.ca 0 26 [83]) 81 true,gp 85 (.pk 81 84 (.c (.b false))),gM 86 85,gg 87 (.fa 11 1) 86 true,gg 88 (.ld none 87) 86 true,gg 89 (.ca 0 26 [88]) 86 true,gp 90 (.pk 86 89 (.c (.b false))),gA 2 90] [2] []) .rt)
def Vd:AC:=.kp [1] [1] Vc
def Ve:AC:=(.sq (.sq (.rg [] [gM 49 3,gB 50 .neq 49 (kI 2),gM 51 50,gg 52 (.fa 9 1) 51 true,gg 53 (.ld none 52) 51 true,gg 54 (.ln false 53) 51 true,gg 55 (.bo .gtr false 54 (kI 0)) 51 true,gp 56 (.pk 51 55 (.c (.b false))),gM 57 56,gg 58 (.mv 4) 57 false,gg 59 (.no 58) 57 false,gg 60 (.mv 59) 57 false,gg 61 (.fa 10 1) 60 true,gg 62 (.ld none 61) 60 true,gg 63 (.ln false 62) 60 true,gg 64 (.bo .gtr false 63 (kI 0)) 60 true,gg 65 (.pk 60 64 (.c (.b false))) 57 false,gp 66 (.pk 57 (.c (.b true)) 65),gM 67 66,gg 68 (.mv 3) 67 false,gg 69 (.bo .neq false 68 (kI 7)) 67 false,gg 70 (.mv 69) 67 false,gg 71 (.fa 11 1) 70 true,gg 72 (.ld none 71) 70 true,gg 73 (.ln false 72) 70 true,gg 74 (.bo .gtr false 73 (kI 0)) 70 true,gg 75 (.pk 70 74 (.c (.b false))) 67 false,gp 76 (.pk 67 (.c (.b true)) 75)] [1,76] [1]) (.ite 76 (.sq (.rg [] [gA 2 (.c (.b false))] [2] []) .rt) .sk)) Vd)
def Vf:AC:=.kp [1,3,4] [1] Ve
def Vg:AC:=(.sq (.rg [] [gM 13 3,gB 14 .geq 13 (kI 7),gA 4 14] [1,3,4] [1]) (.sq (.sq (.rg [] [gF 15 2 1,gQ 16 15,gM 17 3,gB 18 .neq 17 (kI 4),gM 19 18,gg 20 (.mv 4) 19 true,gg 21 (.no 20) 19 true,gp 22 (.pk 19 21 (.c (.b false))),gp 23 (.ca 0 55 [16,22]),gp 24 (.no 23),gM 25 24,gg 26 (.fa 3 1) 25 false,gg 27 (.ld none 26) 25 false,gg 28 (.mv 3) 25 false,gg 29 (.bo .geq false 28 (kI 2)) 25 false,gg 30 (.mv 29) 25 false,gg 31 (.mv 3) 30 true,gg 32 (.bo .leq false 31 (kI 4)) 30 true,gg 33 (.pk 30 32 (.c (.b false))) 25 false,gg 34 (.ca 0 55 [27,33]) 25 false,gg 35 (.no 34) 25 false,gp 36 (.pk 25 (.c (.b true)) 35),gM 37 36,gg 38 (.fa 4 1) 37 false,gg 39 (.ld (some 5) 38) 37 false,gg 40 (.mv 3) 37 false,gg 41 (.bo .neq false 40 (kI 2)) 37 false,gg 42 (.mv 41) 37 false,gg 43 (.mv 3) 42 true,gg 44 (.bo .neq false 43 (kI 3)) 42 true,gg 45 (.pk 42 44 (.c (.b false))) 37 false,gg 46 (.ca 0 57 [39,45]) 37 false,gg 47 (.no 46) 37 false,gp 48 (.pk 37 (.c (.b true)) 47)] [1,3,4,48] [1]) (.ite 48 (.sq (.rg [] [gA 2 (.c (.b false))] [2] []) .rt) .sk)) Vf))
def Vh:AC:=.kp [1,3] [1] Vg
def Ox:bg:=⟨(.sq (.rg [] [gp 1 (.bx 0),gA 2 (.c (.b false))] [1] [1]) (.sq (.rg [] [gF 5 0 1,gQ 6 5,gA 3 6] [1,3] [1]) (.sq (.sq (.rg [] [gM 7 3,gB 8 .lss 7 (kI 1),gM 9 8,gg 10 (.mv 3) 9 false,gg 11 (.bo .gtr false 10 (kI 8)) 9 false,gp 12 (.pk 9 (.c (.b true)) 11)] [1,3,12] [1]) (.ite 12 (.sq (.rg [] [gA 2 (.c (.b false))] [2] []) .rt) .sk)) Vh))),[.t 2]⟩
def Vi:AC:=(.sq (.bl 1 (.sq (.rg [] [gp 14 (.ia 4 none 10 12),gp 15 (.ld (some 4) 14),gp 9 (.al [(.i .i64 0),(.s []),(.b false),(.l 9 [])]),gS 4 9 15] [1,2,7,9,10,11,12] [9]) (.rg [] [gM 16 7,gM 17 2,gp 18 (.ld (some 4) 9),gp 19 (.d2 17 [18]),gz 20 (.bs 9 1 [19]),gp 21 (.ap 9 1 16 16 20),gA 7 21] [1,2,7,10,11,12] []))) (.rg [] [gB 22 .add 12 (kI 1),gM 12 22] [1,2,7,10,11,12] []))
def Vj:AC:=.kp [1,2,7,10,11,12] [] Vi
def Vk:AC:=(.sq (.rg [] [gB 13 .lss 12 11] [1,2,7,10,11,12,13] []) (.sq (.ite 13 .sk (.ex 0)) Vj))
def Mb:bq:=⟨[1,2,7,10,11,12],[],Vk⟩
def Vl:AC:=(.sq (.rg [] [gM 23 7,gM 24 1,gp 25 (.ca 1 27 [23,24]),gA 6 25] [6] []) .rt)
def Vm:AC:=.kp [1,7] [] Vl
def Oy:bg:=⟨(.sq (.rg [] [gA 6 (.c (.s []))] [0,1,2] []) (.sq (.rg [] [gA 7 (.c .n)] [0,1,2,7] []) (.sq (.sq (.rg [.own 7 9] [gM 10 0,gp 11 (.ln false 10),gM 12 (kI 0)] [1,2,7,10,11,12] []) (.bl 0 Mb.lp)) Vm))),[.t 6]⟩
def Mc:AC:=(.sq (.sq (.rg [] [gF 12 3 1,gQ 13 12,gp 14 (.ln false 13),gB 15 .gtr 14 (kI 0)] [1,3,15] [1]) (.ite 15 (.rg [] [gM 16 3,gF 17 3 1,gQ 18 17,gp 19 (.ca 1 27 [18,(.c (.s [44,32]))]),gB 20 .add (.c (.s [32])) 19,gB 21 .add 16 20,gA 3 21] [3] []) .sk)) (.sq (.rg [] [gM 22 3,gA 2 22] [2] []) .rt))
def Vn:AC:=.kp [1,3] [1] Mc
def Oz:bg:=⟨(.sq (.rg [] [gp 1 (.bx 0),gA 2 (.c (.s []))] [1] [1]) (.sq (.rg [] [gF 4 1 1,gQ 5 4,gB 6 .add 5 (.c (.s [58])),gA 3 6] [1,3] [1]) (.sq (.sq (.rg [] [gF 7 2 1,gQ 8 7] [1,3,8] [1]) (.ite 8 (.rg [] [gF 9 1 1,gQ 10 9,gB 11 .add 10 (.c (.s [33])),gA 3 11] [1,3] [1]) .sk)) Vn))),[.t 2]⟩
def OA:bg:=⟨(.sq (.rg [] [gM 2 0,gp 3 (.nc 2),gF 4 0 3,gp 5 (.lz 4),gp 6 (.pe false 5 (.c .z))] [0,6] [0]) (.ite 6 (.rg [] [gM 7 0,gM 8 0,gp 9 (.cp 39 3 0 8),gp 10 (.cp 39 3 0 9),gp 11 (.cp 39 3 0 10),gp 12 (.nc 7),gF 13 0 12,⟨none,.sz 13 11,none,false⟩] [] []) (.sq (.rg [] [gM 14 0,gp 15 (.nc 14),gF 16 0 15,gp 17 (.lz 16),gM 18 0,gp 19 (.pe true 17 18)] [19] []) (.ite 19 .bad .sk)))),[]⟩
def OB:bg:=⟨(.sq (.rg [] [gA 4 (.c (.b false))] [0,1] []) (.sq (.rg [] [gM 5 0,gM 6 1,gp 7 (.ca 0 104 [5,6]),gA 4 7] [4] []) .rt)),[.t 4]⟩
def Vo:AC:=(.sq (.bl 1 (.sq (.rg [] [gp 14 (.ia 5 none 10 12),gp 15 (.ld (some 5) 14),gp 9 (.al [(.i .i64 0),(.i .i64 0),(.i .i64 0),(.s []),(.l 44 [])]),gS 5 9 15] [1,2,7,9,10,11,12] [9]) (.rg [] [gM 16 7,gM 17 2,gp 18 (.ld (some 5) 9),gp 19 (.d2 17 [18]),gz 20 (.bs 9 1 [19]),gp 21 (.ap 9 1 16 16 20),gA 7 21] [1,2,7,10,11,12] []))) (.rg [] [gB 22 .add 12 (kI 1),gM 12 22] [1,2,7,10,11,12] []))
def Vp:AC:=.kp [1,2,7,10,11,12] [] Vo
def Vq:AC:=(.sq (.rg [] [gB 13 .lss 12 11] [1,2,7,10,11,12,13] []) (.sq (.ite 13 .sk (.ex 0)) Vp))
def Md:bq:=⟨[1,2,7,10,11,12],[],Vq⟩
def Vr:AC:=(.sq (.rg [] [gM 23 7,gM 24 1,gp 25 (.ca 1 27 [23,24]),gA 6 25] [6] []) .rt)
def Vs:AC:=.kp [1,7] [] Vr
def OC:bg:=⟨(.sq (.rg [] [gA 6 (.c (.s []))] [0,1,2] []) (.sq (.rg [] [gA 7 (.c .n)] [0,1,2,7] []) (.sq (.sq (.rg [.own 7 9] [gM 10 0,gp 11 (.ln false 10),gM 12 (kI 0)] [1,2,7,10,11,12] []) (.bl 0 Md.lp)) Vs))),[.t 6]⟩
def Me:AC:=(.sq (.rg [] [gM 19 0,gF 20 10 3,gQ 21 20,gp 22 (.c2 11 [19,21])] [0,3] [0,3]) (.sq (.sq (.rg [] [gF 23 11 3,gQ 24 23,gp 25 (.ln false 24),gB 26 .gtr 25 (kI 0)] [0,3,26] [0,3]) (.ite 26 (.sq (.rg [] [gM 27 0,gz 28 (.bs 9 1 [(.c (.s [125,32,101,108,115,101,32,123]))]),gp 29 (.c2 10 [27,28])] [0,3] [0,3]) (.rg [] [gM 30 0,gF 31 11 3,gQ 32 31,gp 33 (.c2 11 [30,32])] [0] [0])) .sk)) (.rg [] [gM 34 0,gz 35 (.bs 9 1 [(.c (.s [125]))]),gp 36 (.c2 10 [34,35])] [] [])))
def Vt:AC:=.kp [0,3] [0,3] Me
def OD:bg:=⟨(.sq (.rg [] [gp 3 (.bx 1)] [0,3] [0,3]) (.sq (.sq (.rg [] [gF 4 0 3,gQ 5 4,gB 6 .eql 5 (kI 7)] [0,3,6] [0,3]) (.ite 6 (.rg [] [gM 7 0,gF 8 4 3,gp 9 (.ld (some 5) 8),gp 10 (.ca 0 28 [9]),gz 11 (.bs 9 1 [(.c (.s [105,102,32])),10,(.c (.s [32,123]))]),gp 12 (.c2 10 [7,11])] [0,3] [0,3]) (.rg [] [gM 13 0,gF 14 4 3,gp 15 (.ld (some 5) 14),gp 16 (.ca 0 28 [15]),gz 17 (.bs 9 1 [(.c (.s [119,104,105,108,101,32])),16,(.c (.s [32,123]))]),gp 18 (.c2 10 [13,17])] [0,3] [0,3]))) Vt)),[]⟩
def Vu:AC:=(.sq (.rg [] [gM 19 1,gp 20 (.ca 0 75 [19,(kI 0)]),gM 18 20,gp 21 (.ex 18 0),gp 22 (.ex 18 1),gA 5 21,gA 6 22] [0,1,5,6] []) (.sq (.rg [] [gM 23 5,gM 24 0,gB 25 .eql 23 24,gM 26 25,gg 27 (.mv 6) 26 true,gg 28 (.mv 1) 26 true,gg 29 (.ln true 28) 26 true,gg 30 (.bo .eql false 27 29) 26 true,gp 31 (.pk 26 30 (.c (.b false))),gM 32 31,gg 33 (.mv 5) 32 true,gg 34 (.bo .eql false 33 (kI 1)) 32 true,gg 35 (.mv 34) 32 true,gg 36 (.mv 6) 35 true,gg 37 (.bo .gtr false 36 (kI 12)) 35 true,gg 38 (.pk 35 37 (.c (.b false))) 32 true,gg 39 (.no 38) 32 true,gp 40 (.pk 32 39 (.c (.b false))),gM 41 40,gg 42 (.mv 5) 41 true,gg 43 (.bo .eql false 42 (kI 2)) 41 true,gg 44 (.mv 43) 41 true,gg 45 (.mv 6) 44 true,gg 46 (.bo .gtr false 45 (kI 7)) 44 true,gg 47 (.mv 46) 44 true,gg 48 (.mv 6) 47 false,gg 49 (.bo .gtr false 48 (kI 1)) 47 false,gg 50 (.mv 49) 47 false,gg 51 (.mv 1) 50 true,gg 52 (.ix 51 (kI 0)) 50 true,gg 53 (.bo .eql false 52 (.c (.i .u8 48))) 50 true,gg 54 (.pk 50 53 (.c (.b false))) 47 false,gg 55 (.pk 47 (.c (.b true)) 54) 44 true,gg 56 (.pk 44 55 (.c (.b false))) 41 true,gg 57 (.no 56) 41 true,gp 58 (.pk 41 57 (.c (.b false))),gA 4 58] [4] []) .rt))
def Vv:AC:=.kp [0,1] [] Vu
def OE:bg:=⟨(.sq (.rg [] [gA 4 (.c (.b false))] [0,1] []) (.sq (.sq (.rg [] [gM 7 1,gB 8 .eql 7 (.c (.s [])),gM 9 8,gg 10 (.mv 1) 9 false,gg 11 (.ln true 10) 9 false,gg 12 (.bo .gtr false 11 (kI 6000)) 9 false,gp 13 (.pk 9 (.c (.b true)) 12),gM 14 13,gg 15 (.mv 0) 14 false,gg 16 (.bo .eql false 15 (kI 0)) 14 false,gp 17 (.pk 14 (.c (.b true)) 16)] [0,1,17] []) (.ite 17 (.sq (.rg [] [gA 4 (.c (.b false))] [4] []) .rt) .sk)) Vv)),[.t 4]⟩
def Vw:AC:=(.sq (.bl 1 (.sq (.rg [] [gM 12 3,gM 13 4,gp 14 (.ia 1 none 12 13),gQ 15 14,gM 16 0,gB 17 .eql 15 16] [0,3,4,17] []) (.ite 17 (.sq (.rg [] [gA 2 (.c (.b true))] [2] []) .rt) .sk))) (.rg [] [gM 10 4,gB 11 .add 10 (kI 1),gA 4 11] [0,3,4] []))
def Vx:AC:=.kp [0,3,4] [] Vw
def Vy:AC:=(.sq (.sq (.rg [] [gM 6 4,gM 7 3,gp 8 (.ln false 7),gB 9 .lss 6 8] [0,3,4,9] []) (.ite 9 .sk (.ex 0))) Vx)
def Mf:bq:=⟨[0,3,4],[],Vy⟩
def OF:bg:=⟨(.sq (.rg [] [gA 2 (.c (.b false))] [0] []) (.sq (.rg [] [gz 5 (.bs 9 1 [(.c (.s [97,99,116,111,114])),(.c (.s [103,114,97,110,116])),(.c (.s [115,112,101,97,107])),(.c (.s [105,110])),(.c (.s [111,117,116])),(.c (.s [118,97,114])),(.c (.s [102,117,110,99])),(.c (.s [109,97,105,110])),(.c (.s [103,101,116])),(.c (.s [112,117,116])),(.c (.s [114,101,118,101,97,108])),(.c (.s [116,114,117,115,116])),(.c (.s [105,102])),(.c (.s [101,108,115,101])),(.c (.s [119,104,105,108,101])),(.c (.s [114,101,116,117,114,110]))]),gA 3 5] [0,3] []) (.sq (.sq (.rg [] [gA 4 (kI 0)] [0,3,4] []) (.bl 0 Mf.lp)) (.sq (.rg [] [gA 2 (.c (.b false))] [2] []) .rt)))),[.t 2]⟩
def Vz:AC:=(.sq (.sq (.rg [] [gM 16 1,gM 17 7,gB 18 .add 16 17,gM 19 0,gp 20 (.ln true 19),gB 21 .lss 18 20,gM 22 21,gg 23 (.mv 0) 22 true,gg 24 (.mv 1) 22 true,gg 25 (.mv 7) 22 true,gg 26 (.bo .add false 24 25) 22 true,gg 27 (.ix 23 26) 22 true,gg 28 (.ca 0 105 [27]) 22 true,gg 29 (.mv 28) 22 true,gg 30 (.mv 0) 29 false,gg 31 (.mv 1) 29 false,gg 32 (.mv 7) 29 false,gg 33 (.bo .add false 31 32) 29 false,gg 34 (.ix 30 33) 29 false,gg 35 (.ca 0 106 [34]) 29 false,gg 36 (.pk 29 (.c (.b true)) 35) 22 true,gp 37 (.pk 22 36 (.c (.b false)))] [0,1,7,37] []) (.ite 37 .sk (.ex 1))) (.bl 2 (.rg [] [gM 38 7,gB 39 .add 38 (kI 1),gA 7 39] [0,1,7] [])))
def Mg:bq:=⟨[0,1,7],[],Vz⟩
def VA:AC:=(.sq (.sq (.rg [] [gM 44 1,gM 45 7,gB 46 .add 44 45,gM 47 0,gp 48 (.ln true 47),gB 49 .lss 46 48,gM 50 49,gg 51 (.mv 0) 50 true,gg 52 (.mv 1) 50 true,gg 53 (.mv 7) 50 true,gg 54 (.bo .add false 52 53) 50 true,gg 55 (.ix 51 54) 50 true,gg 56 (.ca 0 106 [55]) 50 true,gp 57 (.pk 50 56 (.c (.b false)))] [0,1,7,57] []) (.ite 57 .sk (.ex 3))) (.bl 4 (.rg [] [gM 58 7,gB 59 .add 58 (kI 1),gA 7 59] [0,1,7] [])))
def Mh:bq:=⟨[0,1,7],[],VA⟩
def VB:AC:=(.sq (.bl 6 (.sq (.rg [] [gM 84 8,gM 85 9,gp 86 (.ix 84 85),gM 87 6,gB 88 .eql 86 87] [6,8,9,88] []) (.ite 88 (.sq (.rg [] [gA 4 (kI 3),gA 5 (kI 1)] [4,5] []) .rt) .sk))) (.rg [] [gM 82 9,gB 83 .add 82 (kI 1),gA 9 83] [6,8,9] []))
def VC:AC:=.kp [6,8,9] [] VB
def VD:AC:=(.sq (.sq (.rg [] [gM 78 9,gM 79 8,gp 80 (.ln true 79),gB 81 .lss 78 80] [6,8,9,81] []) (.ite 81 .sk (.ex 5))) VC)
def Mi:bq:=⟨[6,8,9],[],VD⟩
def Mj:AC:=(.sq (.rg [] [gA 8 (.c (.s [123,125,40,41,59,58,33,44,61,43,45,42,60]))] [6,8] []) (.sq (.sq (.rg [] [gA 9 (kI 0)] [6,8,9] []) (.bl 5 Mi.lp)) (.sq (.rg [] [gA 4 (kI 0),gA 5 (kI 0)] [4,5] []) .rt)))
def VE:AC:=.kp [6] [] Mj
def OG:bg:=⟨(.sq (.rg [] [gA 4 (kI 0),gA 5 (kI 0)] [0,1] []) (.sq (.rg [] [gM 10 0,gM 11 1,gp 12 (.ix 10 11),gA 6 12] [0,1,6] []) (.sq (.rg [] [gA 7 (kI 1)] [0,1,6,7] []) (.sq (.bl 0 (.sq (.rg [] [gM 14 6,gp 15 (.ca 0 105 [14]),gA 13 15] [0,1,6,7,13] []) (.ite 13 (.sq (.bl 1 Mg.lp) (.sq (.rg [] [gM 40 7,gA 4 (kI 1),gA 5 40] [4,5] []) .rt)) (.sq (.rg [] [gM 42 6,gp 43 (.ca 0 106 [42]),gA 41 43] [0,1,6,7,41] []) (.ite 41 (.sq (.bl 3 Mh.lp) (.sq (.rg [] [gM 60 7,gA 4 (kI 2),gA 5 60] [4,5] []) .rt)) (.sq (.rg [] [gM 62 6,gB 63 .eql 62 (.c (.i .u8 61)),gM 64 63,gg 65 (.mv 1) 64 true,gg 66 (.bo .add false 65 (kI 1)) 64 true,gg 67 (.mv 0) 64 true,gg 68 (.ln true 67) 64 true,gg 69 (.bo .lss false 66 68) 64 true,gp 70 (.pk 64 69 (.c (.b false))),gM 71 70,gg 72 (.mv 0) 71 true,gg 73 (.mv 1) 71 true,gg 74 (.bo .add false 73 (kI 1)) 71 true,gg 75 (.ix 72 74) 71 true,gg 76 (.bo .eql false 75 (.c (.i .u8 61))) 71 true,gp 77 (.pk 71 76 (.c (.b false))),gA 61 77] [6,61] []) (.ite 61 (.sq (.rg [] [gA 4 (kI 3),gA 5 (kI 2)] [4,5] []) .rt) .sk))))))) VE)))),[.t 4,.t 5]⟩
def VF:AC:=(.sq (.dg [] [] [gL (gM 23 0) [0] [],gL (gp 24 (.nc 23)) [23] [],gL (gF 25 0 24) [24] [],⟨gQ 26 25,true,[25],[],true,[],[],[]⟩,gL (gM 27 0) [0] [],gL (gp 28 (.nc 27)) [27] [],gL (gF 29 1 28) [28] [],⟨gQ 30 29,true,[29],[],true,[],[],[]⟩,gL (gM 31 1) [1] [],gL (gB 32 .add 30 31) [30,31] [],gH (gp 33 (.ia 3 none 26 32)),gH (gF 34 2 33),gH (gQ 35 34),gH (gA 4 35)] [4] []) .rt)
def VG:AC:=.kp [0,1] [0] VF
def YE:bg:=⟨(.sq (.rg [] [gA 4 (.c (.s []))] [0,1] [0]) (.sq (.sq (.dg [] [] [gL (gM 5 0) [0] [],gL (gp 6 (.nc 5)) [5] [],gL (gF 7 3 6) [6] [],⟨gQ 8 7,true,[7],[],true,[],[],[]⟩,gL (gM 9 8) [8] [],gL (gg 10 (.mv 0) 9 false) [0] [],gL (gg 11 (.nc 10) 9 false) [10] [],gL (gg 12 (.fa 1 11) 9 false) [11] [],⟨gg 13 (.ld none 12) 9 false,true,[12],[],true,[],[],[]⟩,gL (gg 14 (.mv 1) 9 false) [1] [],gL (gg 15 (.bo .add false 13 14) 9 false) [13,14] [],gL (gg 16 (.mv 0) 9 false) [0] [],gL (gg 17 (.nc 16) 9 false) [16] [],gL (gg 18 (.fa 0 17) 9 false) [17] [],⟨gg 19 (.ld none 18) 9 false,true,[18],[],true,[],[],[]⟩,⟨gg 20 (.ln false 19) 9 false,true,[19],[],true,[],[],[]⟩,gH (gg 21 (.bo .geq false 15 20) 9 false),gH (gp 22 (.pk 9 (.c (.b true)) 21))] [0,1,22] [0]) (.ite 22 (.sq (.rg [] [gA 4 (.c (.s []))] [4] []) .rt) .sk)) VG)),[.t 4]⟩
def VH:AC:=(.sq (.rg [] [gM 12 0,gp 13 (.nc 12),gF 14 1 13,gQ 15 14,gB 16 .add 15 (kI 1),gp 17 (.nc 12),gF 18 1 17,gS 1 18 16] [3] []) (.sq (.rg [] [gM 19 3,gA 2 19] [2] []) .rt))
def VI:AC:=.kp [0,3] [0] VH
def YF:bg:=⟨(.sq (.rg [] [gA 2 (.c (.s []))] [0] [0]) (.sq (.rg [] [gM 4 0,gp 5 (.c3 76 [4,(kI 0)]),gA 3 5] [0,3] [0]) (.sq (.sq (.rg [] [gM 6 3,gp 7 (.ca 0 36 [6]),gp 8 (.no 7)] [0,3,8] [0]) (.ite 8 (.sq (.rg [] [gM 9 0,gp 10 (.nc 9),gF 11 3 10,gS 1 11 (.c (.b true))] [] []) (.sq (.rg [] [gA 2 (.c (.s []))] [2] []) .rt)) .sk)) VI))),[.t 2]⟩
def VJ:AC:=(.bl 1 (.rg [] [gM 17 5,gM 18 0,gp 19 (.c2 107 [18]),gz 20 (.bs 68 12 [19]),gp 21 (.ap 68 12 184 17 20),gA 5 21] [0,1,5] [0]))
def VK:AC:=.kp [0,1,5] [0] VJ
def VL:AC:=(.sq (.sq (.rg [.own 5 68] [gM 6 0,gp 7 (.nc 6),gF 8 3 7,gQ 9 8,gp 10 (.no 9),gM 11 10,gg 12 (.mv 0) 11 true,gg 13 (.c3 76 [12,(kI 0)]) 11 true,gg 14 (.mv 1) 11 true,gg 15 (.bo .neq false 13 14) 11 true,gp 16 (.pk 11 15 (.c (.b false)))] [0,1,5,16] [0]) (.ite 16 .sk (.ex 0))) VK)
def VM:bq:=⟨[0,1,5],[0],VL⟩
def YG:bg:=⟨(.sq (.rg [] [gA 4 (.c (.l 68 []))] [0,1] [0]) (.sq (.rg [] [gA 5 (.c .n)] [0,1,5] [0]) (.sq (.bl 0 VM.lp) (.sq (.rg [] [gM 22 5,gA 4 22] [4,5] []) .rt)))),[.t 4]⟩
def VN:AC:=(.sq (.bl 2 (.sq (.dg [] [] [gL (gM 39 0) [0] [],⟨gp 40 (.c3 76 [39,(kI 0)]),true,[39],[],true,[],[],[]⟩,gL (gM 41 8) [8] [],gL (gM 42 9) [9] [],gL (gp 43 (.ia 1 none 41 42)) [41,42] [],gL (gQ 44 43) [43] [],gH (gB 45 .eql 40 44)] [0,1,4,5,7,8,9,45] [0,4,5,7]) (.ite 45 (.rg [] [gM 46 9,gB 47 .add (kI 3) 46,gF 48 0 5,gS 1 48 47] [0,1,4,5,7,8,9] [0,4,5,7]) .sk))) (.rg [] [gM 37 9,gB 38 .add 37 (kI 1),gA 9 38] [0,1,4,5,7,8,9] [0,4,5,7]))
def VO:AC:=.kp [0,1,4,5,7,8,9] [0,4,5,7] VN
def VP:AC:=(.sq (.sq (.rg [] [gM 35 9,gB 36 .lss 35 (kI 5)] [0,1,4,5,7,8,9,36] [0,4,5,7]) (.ite 36 .sk (.ex 1))) VO)
def VQ:bq:=⟨[0,1,4,5,7,8,9],[0,4,5,7],VP⟩
def VS:AC:=(.sq (.rg [] [gM 59 0,gM 60 1,gB 61 .add 60 (kI 1),gp 62 (.c2 79 [59,61]),gp 10 (.al [(.i .i64 0),(.i .i64 0),(.i .i64 0),(.s []),(.l 44 [])]),gS 5 10 62] [0,4,5,7,10] [0,4,5,7,10]) (.sq (.rg [] [gM 63 0,gp 64 (.c2 42 [63,(.c (.s [41]))])] [4,5,7,10] [4,5,7,10]) (.rg [] [gp 65 (.ld (some 5) 7),gp 66 (.ld (some 5) 10),gz 67 (.bs 44 5 [65,66]),gF 68 4 5,gS 1 68 67] [4,5] [4,5])))
def VT:AC:=.kp [0,1,4,5,7] [0,4,5,7] VS
def VU:AC:=(.sq (.sq (.rg [] [gF 49 0 5,gQ 50 49,gB 51 .eql 50 (kI 0)] [0,1,4,5,7,51] [0,4,5,7]) (.ite 51 (.rg [] [gM 52 0,gp 53 (.nc 52),gF 54 3 53,gS 1 54 (.c (.b true))] [0,1,4,5,7] [0,4,5,7]) (.rg [] [gM 55 0,gM 56 0,gp 57 (.c3 76 [56,(kI 0)]),gp 58 (.c2 42 [55,57])] [0,1,4,5,7] [0,4,5,7]))) VT)
def VV:AC:=.kp [0,1,4,5,7] [0,4,5,7] VU
def VW:AC:=(.rg [] [gM 80 0,gp 81 (.c2 108 [80]),gp 82 (.ng 81),gF 83 2 5,gS 1 83 82] [4,5] [4,5])
def VX:AC:=.kp [0,4,5] [0,4,5] VW
def YH:bg:=⟨(.sq (.rg [] [gp 4 (.al [(.i .i64 0),(.i .i64 0),(.i .i64 0),(.s []),(.l 44 [])])] [0,1,4] [0,4]) (.sq (.rg [] [gM 11 0,gp 12 (.c3 44 [11]),gp 13 (.bd [(.i .i64 0),(.i .i64 0),(.i .i64 0),(.s []),(.l 44 [])] [(0,1,(kI 1)),(1,1,12)]),gp 5 (.al [(.i .i64 0),(.i .i64 0),(.i .i64 0),(.s []),(.l 44 [])]),gS 5 5 13] [0,1,4,5] [0,4,5]) (.sq (.rg [] [gM 14 0,gp 15 (.c3 76 [14,(kI 0)]),gA 6 15] [0,1,4,5,6] [0,4,5]) (.sq (.bl 0 (.sq (.rg [] [gM 21 6,gB 22 .eql 21 (.c (.s [40])),gM 23 22,gg 24 (.mv 1) 23 true,gg 25 (.bo .lss false 24 (kI 60)) 23 true,gp 26 (.pk 23 25 (.c (.b false))),gA 20 26] [0,1,4,5,6,20] [0,4,5]) (.ite 20 (.sq (.rg [] [gM 27 0,gp 28 (.c2 42 [27,(.c (.s [40]))])] [0,1,4,5] [0,4,5]) (.sq (.rg [] [gM 29 0,gM 30 1,gB 31 .add 30 (kI 1),gp 32 (.c2 79 [29,31]),gp 7 (.al [(.i .i64 0),(.i .i64 0),(.i .i64 0),(.s []),(.l 44 [])]),gS 5 7 32] [0,1,4,5,7] [0,4,5,7]) (.sq (.rg [] [gF 33 0 5,gS 1 33 (kI 0)] [0,1,4,5,7] [0,4,5,7]) (.sq (.rg [] [gz 34 (.bs 9 1 [(.c (.s [43])),(.c (.s [45])),(.c (.s [42])),(.c (.s [60])),(.c (.s [61,61]))]),gA 8 34] [0,1,4,5,7,8] [0,4,5,7]) (.sq (.sq (.rg [] [gA 9 (kI 0)] [0,1,4,5,7,8,9] [0,4,5,7]) (.bl 1 VQ.lp)) VV))))) (.sq (.rg [] [gM 70 6,gB 71 .eql 70 (.c (.s [45])),gA 69 71] [0,4,5,6,69] [0,4,5]) (.ite 69 (.sq (.rg [] [gM 72 0,gp 73 (.c2 42 [72,(.c (.s [45]))])] [0,4,5] [0,4,5]) (.sq (.sq (.rg [] [gM 74 0,gp 75 (.c3 76 [74,(kI 0)]),gB 76 .eql 75 (.c (.s [48]))] [0,4,5,76] [0,4,5]) (.ite 76 (.rg [] [gM 77 0,gp 78 (.nc 77),gF 79 3 78,gS 1 79 (.c (.b true))] [0,4,5] [0,4,5]) .sk)) VX)) (.sq (.rg [] [gM 85 6,gB 86 .neq 85 (.c (.s [])),gM 87 86,gg 88 (.mv 6) 87 true,gg 89 (.ix 88 (kI 0)) 87 true,gg 90 (.ca 0 106 [89]) 87 true,gp 91 (.pk 87 90 (.c (.b false))),gA 84 91] [0,4,5,84] [0,4,5]) (.ite 84 (.rg [] [gM 92 0,gp 93 (.c2 108 [92]),gF 94 2 5,gS 1 94 93] [4,5] [4,5]) (.sq (.rg [] [gF 16 0 5,gS 1 16 (kI 2)] [0,4,5] [0,4,5]) (.rg [] [gM 17 0,gp 18 (.c2 77 [17]),gF 19 3 5,gS 1 19 18] [4,5] [4,5]))))))))) (.sq (.rg [] [gp 95 (.ld (some 5) 5),gS 5 4 95] [4] [4]) .rt))))),[.c 4 (some 5)]⟩
def VY:AC:=(.bl 3 (.sq (.rg [] [gM 53 0,gp 54 (.c2 42 [53,(.c (.s [44]))])] [0,3,5] [0,5]) (.dg [] [59] [⟨gF 55 3 5,true,[5],[],false,[],[59],[1000000]⟩,⟨gp 56 (.lk none 55 5 false),true,[55,5],[5],true,[],[59],[]⟩,gL (gM 57 0) [0] [59],gH (gp 58 (.ch 77 [57] [5] [] [59])),gL (gz 59 (.bs 9 1 [58])) [58] [],gH (gp 60 (.ap 9 1 16 56 59)),gH (gF 61 3 5),gH (gS 1 61 60)] [0,3,5] [0,5])))
def VZ:AC:=.kp [0,3,5] [0,5] VY
def V0:AC:=(.sq (.sq (.rg [] [gM 50 0,gp 51 (.c3 76 [50,(kI 0)]),gB 52 .eql 51 (.c (.s [44]))] [0,3,5,52] [0,5]) (.ite 52 .sk (.ex 2))) VZ)
def V1:bq:=⟨[0,3,5],[0,5],V0⟩
def V2:AC:=(.sq (.rg [.fzC 5 3] [gM 62 3,gp 63 (.ld (some 4) 5),gz 64 (.bs 74 4 [63]),gp 65 (.ap 74 4 56 62 64),gA 3 65] [0,3] [0]) (.sq (.rg [] [gM 66 0,gp 67 (.c3 76 [66,(kI 0)]),gB 68 .eql 67 (.c (.s [59])),gA 4 68] [0,3,4] [0]) (.sq (.rg [] [gM 69 4] [0,3,4,69] [0]) (.ite 69 (.rg [] [gM 70 0,gp 71 (.c2 42 [70,(.c (.s [59]))])] [0,3,4] [0]) .sk))))
def V3:AC:=.kp [0,3,5] [0,5] V2
def V4:AC:=(.sq (.sq (.rg [] [gM 35 0,gp 36 (.c3 76 [35,(kI 0)]),gB 37 .neq 36 (.c (.s [59])),gM 38 37,gg 39 (.mv 0) 38 true,gg 40 (.c3 76 [39,(kI 0)]) 38 true,gg 41 (.bo .neq false 40 (.c (.s [125]))) 38 true,gp 42 (.pk 38 41 (.c (.b false)))] [0,3,5,42] [0,5]) (.ite 42 (.sq (.dg [] [47] [⟨gF 43 3 5,true,[5],[],false,[],[47],[1000000]⟩,⟨gp 44 (.lk none 43 5 false),true,[43,5],[5],true,[],[47],[]⟩,gL (gM 45 0) [0] [47],gH (gp 46 (.ch 77 [45] [5] [] [47])),gL (gz 47 (.bs 9 1 [46])) [46] [],gH (gp 48 (.ap 9 1 16 44 47)),gH (gF 49 3 5),gH (gS 1 49 48)] [0,3,5] [0,5]) (.bl 2 V1.lp)) .sk)) V3)
def V5:AC:=.kp [0,3,5] [0,5] V4
def V6:AC:=(.bl 1 (.sq (.rg [] [gM 19 0,gp 20 (.c3 44 [19]),gp 21 (.bd [(.i .i64 0),(.s []),(.b false),.n] [(0,1,20)]),gp 5 (.al [(.i .i64 0),(.s []),(.b false),.n]),gS 4 5 21] [0,3,5] [0,5]) (.sq (.rg [.ownC 5 3 9] [gM 22 0,gp 23 (.c2 77 [22]),gF 24 1 5,gS 1 24 23] [0,3,5] [0,5]) (.sq (.rg [] [gM 25 0,gp 26 (.c3 76 [25,(kI 0)]),gB 27 .eql 26 (.c (.s [33])),gF 28 2 5,gS 1 28 27] [0,3,5] [0,5]) (.sq (.sq (.rg [] [gF 29 2 5,gQ 30 29] [0,3,5,30] [0,5]) (.ite 30 (.rg [] [gM 31 0,gp 32 (.c2 42 [31,(.c (.s [33]))])] [0,3,5] [0,5]) (.rg [] [gM 33 0,gp 34 (.c2 42 [33,(.c (.s [58]))])] [0,3,5] [0,5]))) V5)))))
def V7:AC:=.kp [0,3] [0] V6
def V8:AC:=(.sq (.sq (.rg [] [gM 11 4,gM 12 11,gg 13 (.mv 0) 12 true,gg 14 (.nc 13) 12 true,gg 15 (.fa 3 14) 12 true,gg 16 (.ld none 15) 12 true,gg 17 (.no 16) 12 true,gp 18 (.pk 12 17 (.c (.b false)))] [0,3,18] [0]) (.ite 18 .sk (.ex 0))) V7)
def V9:bq:=⟨[0,3,4],[0],V8⟩
def Wa:AC:=(.sq (.rg [] [gM 72 0,gp 73 (.c2 42 [72,(.c (.s [125]))])] [3] []) (.sq (.rg [] [gM 74 3,gA 2 74] [2,3] []) .rt))
def Wb:AC:=.kp [0,3] [0] Wa
def YI:bg:=⟨(.sq (.rg [] [gA 2 (.c (.l 74 []))] [0] [0]) (.sq (.rg [] [gA 3 (.c .n)] [0,3] [0]) (.sq (.rg [.own 3 74] [gM 6 0,gp 7 (.c2 42 [6,(.c (.s [123]))])] [0,3] [0]) (.sq (.sq (.rg [] [gM 8 0,gp 9 (.c3 76 [8,(kI 0)]),gB 10 .neq 9 (.c (.s [125])),gA 4 10] [0,3,4] [0]) (.bl 0 V9.lp)) Wb)))),[.t 2]⟩
def Wd:AC:=(.sq (.bl 1 (.sq (.rg [] [gM 19 17,gp 20 (.ia 4 none 15 17),gp 21 (.ld (some 4) 20),gp 8 (.al [(.i .i64 0),(.s []),(.b false),(.l 9 [])]),gA 7 19,gS 4 8 21] [1,2,7,8,15,16,17] [8]) (.sq (.rg [] [gM 22 1,gM 23 7,gp 24 (.ia 4 none 22 23),gp 25 (.ld (some 4) 24),gp 9 (.al [(.i .i64 0),(.s []),(.b false),(.l 9 [])]),gS 4 9 25] [1,2,8,9,15,16,17] [8,9]) (.sq (.rg [] [gM 26 2,gp 27 (.ld (some 4) 8),gp 28 (.ld (some 4) 9),gp 29 (.cf 0 26 [27,28]),gp 30 (.no 29)] [1,2,15,16,17,30] []) (.ite 30 (.sq (.rg [] [gA 6 (.c (.b false))] [6] []) .rt) .sk))))) (.rg [] [gB 31 .add 17 (kI 1),gM 17 31] [1,2,15,16,17] []))
def We:AC:=.kp [1,2,15,16,17] [] Wd
def Wf:AC:=(.sq (.rg [] [gB 18 .lss 17 16] [1,2,15,16,17,18] []) (.sq (.ite 18 .sk (.ex 0)) We))
def Wg:bq:=⟨[1,2,15,16,17],[],Wf⟩
def Wi:AC:=(.sq (.sq (.rg [] [gM 15 0,gp 16 (.ln false 15),gM 17 (kI 0)] [1,2,15,16,17] []) (.bl 0 Wg.lp)) (.sq (.rg [] [gA 6 (.c (.b true))] [6] []) .rt))
def Wj:AC:=.kp [0,1,2] [] Wi
def YJ:bg:=⟨(.sq (.rg [] [gA 6 (.c (.b false))] [0,1,2] []) (.sq (.sq (.rg [] [gM 10 0,gp 11 (.ln false 10),gM 12 1,gp 13 (.ln false 12),gB 14 .neq 11 13] [0,1,2,14] []) (.ite 14 (.sq (.rg [] [gA 6 (.c (.b false))] [6] []) .rt) .sk)) Wj)),[.t 6]⟩
def YK:bg:=⟨(.sq (.rg [] [gp 2 (.bx 0),gp 3 (.bx 1),gA 4 (.c (.b false))] [2,3] [2,3]) (.sq (.rg [] [gF 5 1 2,gQ 6 5,gF 7 1 3,gQ 8 7,gB 9 .eql 6 8,gM 10 9,gg 11 (.fa 2 2) 10 true,gg 12 (.ld none 11) 10 true,gg 13 (.fa 2 3) 10 true,gg 14 (.ld none 13) 10 true,gg 15 (.bo .eql true 12 14) 10 true,gp 16 (.pk 10 15 (.c (.b false))),gM 17 16,gg 18 (.fa 3 2) 17 true,gg 19 (.ld none 18) 17 true,gg 20 (.fa 3 3) 17 true,gg 21 (.ld none 20) 17 true,gg 22 (.ca 0 83 [19,21]) 17 true,gp 23 (.pk 17 22 (.c (.b false))),gA 4 23] [4] []) .rt)),[.t 4]⟩
def Wk:AC:=(.sq (.bl 1 (.sq (.rg [] [gM 15 13,gA 5 15] [0,1,5,12,13] []) (.sq (.dg [] [] [gL (gM 16 0) [0] [],gL (gM 17 5) [5] [],gL (gp 18 (.ia 1 none 16 17)) [16,17] [],gL (gQ 19 18) [18] [],gL (gM 20 1) [1] [],gL (gM 21 5) [5] [],gL (gp 22 (.ia 1 none 20 21)) [20,21] [],gL (gQ 23 22) [22] [],gH (gB 24 .neq 19 23)] [0,1,12,13,24] []) (.ite 24 (.sq (.rg [] [gA 4 (.c (.b false))] [4] []) .rt) .sk)))) (.rg [] [gB 25 .add 13 (kI 1),gM 13 25] [0,1,12,13] []))
def Wl:AC:=.kp [0,1,12,13] [] Wk
def Wm:AC:=(.sq (.rg [] [gB 14 .lss 13 12] [0,1,12,13,14] []) (.sq (.ite 14 .sk (.ex 0)) Wl))
def Wn:bq:=⟨[0,1,12,13],[],Wm⟩
def Wo:AC:=(.sq (.sq (.rg [] [gM 11 0,gp 12 (.ln false 11),gM 13 (kI 0)] [0,1,12,13] []) (.bl 0 Wn.lp)) (.sq (.rg [] [gA 4 (.c (.b true))] [4] []) .rt))
def Wp:AC:=.kp [0,1] [] Wo
def YL:bg:=⟨(.sq (.rg [] [gA 4 (.c (.b false))] [0,1] []) (.sq (.sq (.rg [] [gM 6 0,gp 7 (.ln false 6),gM 8 1,gp 9 (.ln false 8),gB 10 .neq 7 9] [0,1,10] []) (.ite 10 (.sq (.rg [] [gA 4 (.c (.b false))] [4] []) .rt) .sk)) Wp)),[.t 4]⟩
def YM:bg:=⟨(.sq (.rg [] [gp 2 (.bx 0),gp 3 (.bx 1),gA 4 (.c (.b false))] [2,3] [2,3]) (.sq (.rg [] [gF 5 0 2,gQ 6 5,gF 7 0 3,gQ 8 7,gB 9 .eql 6 8,gM 10 9,gg 11 (.fa 2 2) 10 true,gg 12 (.ld none 11) 10 true,gg 13 (.fa 2 3) 10 true,gg 14 (.ld none 13) 10 true,gg 15 (.bo .eql false 12 14) 10 true,gp 16 (.pk 10 15 (.c (.b false))),gM 17 16,gg 18 (.fa 3 2) 17 true,gg 19 (.ld none 18) 17 true,gg 20 (.fa 3 3) 17 true,gg 21 (.ld none 20) 17 true,gg 22 (.bo .eql false 19 21) 17 true,gp 23 (.pk 17 22 (.c (.b false))),gM 24 23,gg 25 (.fa 4 2) 24 true,gg 26 (.ld none 25) 24 true,gg 27 (.fa 4 3) 24 true,gg 28 (.ld none 27) 24 true,gg 29 (.c2 85 [26,28,(.c (.f 84 []))]) 24 true,gp 30 (.pk 24 29 (.c (.b false))),gA 4 30] [4] []) .rt)),[.t 4]⟩
def Wq:AC:=(.sq (.bl 1 (.sq (.rg [] [gM 19 17,gp 20 (.ia 5 none 15 17),gp 21 (.ld (some 5) 20),gp 8 (.al [(.i .i64 0),(.i .i64 0),(.i .i64 0),(.s []),(.l 44 [])]),gA 7 19,gS 5 8 21] [1,2,7,8,15,16,17] [8]) (.sq (.rg [] [gM 22 1,gM 23 7,gp 24 (.ia 5 none 22 23),gp 25 (.ld (some 5) 24),gp 9 (.al [(.i .i64 0),(.i .i64 0),(.i .i64 0),(.s []),(.l 44 [])]),gS 5 9 25] [1,2,8,9,15,16,17] [8,9]) (.sq (.rg [] [gM 26 2,gp 27 (.ld (some 5) 8),gp 28 (.ld (some 5) 9),gp 29 (.cf 0 26 [27,28]),gp 30 (.no 29)] [1,2,15,16,17,30] []) (.ite 30 (.sq (.rg [] [gA 6 (.c (.b false))] [6] []) .rt) .sk))))) (.rg [] [gB 31 .add 17 (kI 1),gM 17 31] [1,2,15,16,17] []))
def Wr:AC:=.kp [1,2,15,16,17] [] Wq
def Ws:AC:=(.sq (.rg [] [gB 18 .lss 17 16] [1,2,15,16,17,18] []) (.sq (.ite 18 .sk (.ex 0)) Wr))
def Wt:bq:=⟨[1,2,15,16,17],[],Ws⟩
def Wu:AC:=(.sq (.sq (.rg [] [gM 15 0,gp 16 (.ln false 15),gM 17 (kI 0)] [1,2,15,16,17] []) (.bl 0 Wt.lp)) (.sq (.rg [] [gA 6 (.c (.b true))] [6] []) .rt))
def Wv:AC:=.kp [0,1,2] [] Wu
def YN:bg:=⟨(.sq (.rg [] [gA 6 (.c (.b false))] [0,1,2] []) (.sq (.sq (.rg [] [gM 10 0,gp 11 (.ln false 10),gM 12 1,gp 13 (.ln false 12),gB 14 .neq 11 13] [0,1,2,14] []) (.ite 14 (.sq (.rg [] [gA 6 (.c (.b false))] [6] []) .rt) .sk)) Wv)),[.t 6]⟩
def Ww:AC:=(.sq (.bl 1 (.sq (.rg [] [gM 10 8,gA 5 10] [0,1,5,7,8] []) (.sq (.rg [] [gM 11 1,gM 12 0,gM 13 5,gp 14 (.ia 4 none 12 13),gp 15 (.ld (some 4) 14),gp 16 (.cf 0 11 [15])] [0,1,5,7,8,16] []) (.ite 16 (.sq (.rg [] [gM 17 5,gA 4 17] [4] []) .rt) .sk)))) (.rg [] [gB 18 .add 8 (kI 1),gM 8 18] [0,1,7,8] []))
def Wx:AC:=.kp [0,1,7,8] [] Ww
def Wy:AC:=(.sq (.rg [] [gB 9 .lss 8 7] [0,1,7,8,9] []) (.sq (.ite 9 .sk (.ex 0)) Wx))
def HY:bq:=⟨[0,1,7,8],[],Wy⟩
def OH:bg:=⟨(.sq (.rg [] [gA 4 (kI 0)] [0,1] []) (.sq (.sq (.rg [] [gM 6 0,gp 7 (.ln false 6),gM 8 (kI 0)] [0,1,7,8] []) (.bl 0 HY.lp)) (.sq (.rg [] [gA 4 (kI (-1))] [4] []) .rt))),[.t 4]⟩
def OI:bg:=⟨(.sq (.rg [] [gA 4 (.c (.b false))] [0,1] []) (.sq (.rg [] [gM 5 0,gM 6 1,gp 7 (.c2 109 [5,6]),gB 8 .geq 7 (kI 0),gA 4 8] [4] []) .rt)),[.t 4]⟩
def OJ:bg:=⟨(.sq (.rg [] [gp 1 (.bx 0),gA 2 (.c (.b false))] [1] [1]) (.sq (.rg [] [gp 3 (.ld (some 5) 1),gp 4 (.ca 0 51 [3,(kI 15)]),gB 5 .gtr 4 (kI 15),gA 2 5] [2] []) .rt)),[.t 2]⟩
def OK:bg:=⟨(.sq (.rg [] [gA 2 (.c (.b false))] [0] []) (.sq (.rg [] [gM 3 0,gp 4 (.ca 0 110 [(kI 1),3]),gA 2 4] [2] []) .rt)),[.t 2]⟩
def OL:bg:=⟨(.sq (.rg [] [gA 4 (.c (.b false))] [0,1] []) (.sq (.rg [] [gM 5 0,gM 6 1,gp 7 (.ca 0 111 [5,6]),gB 8 .geq 7 (kI 0),gA 4 8] [4] []) .rt)),[.t 4]⟩
def OM:bg:=⟨(.sq (.rg [] [gA 0 (.c (.l 9 []))] [] []) (.sq (.rg [] [gz 1 (.bs 9 1 [(.c (.s [97,99,116,111,114])),(.c (.s [103,114,97,110,116])),(.c (.s [115,112,101,97,107])),(.c (.s [105,110])),(.c (.s [111,117,116])),(.c (.s [118,97,114])),(.c (.s [102,117,110,99])),(.c (.s [109,97,105,110])),(.c (.s [103,101,116])),(.c (.s [112,117,116])),(.c (.s [114,101,118,101,97,108])),(.c (.s [116,114,117,115,116])),(.c (.s [105,102])),(.c (.s [101,108,115,101])),(.c (.s [119,104,105,108,101])),(.c (.s [114,101,116,117,114,110]))]),gA 0 1] [0] []) .rt)),[.t 0]⟩
def ON:bg:=⟨(.sq (.rg [] [gp 1 (.bx 0),gA 2 (.c (.b false))] [1] [1]) (.sq (.rg [] [gF 3 1 1,gQ 4 3,gp 5 (.ca 0 54 [4]),gp 6 (.no 5),gM 7 6,gg 8 (.fa 3 1) 7 false,gg 9 (.ld none 8) 7 false,gg 10 (.c2 58 [9,(.c (.f 93 []))]) 7 false,gp 11 (.pk 7 (.c (.b true)) 10),gA 2 11] [2] []) .rt)),[.t 2]⟩
def OO:bg:=⟨(.sq (.rg [] [gA 2 (.c (.b false))] [0] []) (.sq (.rg [] [gM 3 0,gp 4 (.ca 0 54 [3]),gp 5 (.no 4),gA 2 5] [2] []) .rt)),[.t 2]⟩
def Wz:AC:=(.sq (.rg [] [gF 60 4 1,gQ 61 60,gp 62 (.c2 87 [61,(.c (.f 112 []))]),gp 63 (.no 62),gA 2 63] [2] []) .rt)
def WA:AC:=.kp [1] [1] Wz
def WB:AC:=(.sq (.sq (.rg [] [gF 41 0 1,gQ 42 41,gB 43 .eql 42 (kI 2),gM 44 43,gg 45 (.fa 3 1) 44 true,gg 46 (.ld none 45) 44 true,gg 47 (.ca 0 54 [46]) 44 true,gg 48 (.no 47) 44 true,gp 49 (.pk 44 48 (.c (.b false))),gM 50 49,gg 51 (.fa 2 1) 50 false,gg 52 (.ld none 51) 50 false,gg 53 (.bo .lss false 52 (kI (-9999999))) 50 false,gp 54 (.pk 50 (.c (.b true)) 53),gM 55 54,gg 56 (.fa 2 1) 55 false,gg 57 (.ld none 56) 55 false,gg 58 (.bo .gtr false 57 (kI 9999999)) 55 false,gp 59 (.pk 55 (.c (.b true)) 58)] [1,59] [1]) (.ite 59 (.sq (.rg [] [gA 2 (.c (.b false))] [2] []) .rt) .sk)) WA)
def WC:AC:=.kp [1] [1] WB
def Mk:AC:=(.sq (.sq (.rg [] [gF 17 4 1,gQ 18 17,gp 19 (.ln false 18),gM 20 3,gB 21 .neq 19 20,gM 22 21,gg 23 (.fa 0 1) 22 false,gg 24 (.ld none 23) 22 false,gg 25 (.bo .neq false 24 (kI 1)) 22 false,gg 26 (.mv 25) 22 false,gg 27 (.fa 2 1) 26 true,gg 28 (.ld none 27) 26 true,gg 29 (.bo .neq false 28 (kI 0)) 26 true,gg 30 (.pk 26 29 (.c (.b false))) 22 false,gp 31 (.pk 22 (.c (.b true)) 30),gM 32 31,gg 33 (.fa 0 1) 32 false,gg 34 (.ld none 33) 32 false,gg 35 (.bo .eql false 34 (kI 2)) 32 false,gg 36 (.fa 3 1) 32 false,gg 37 (.ld none 36) 32 false,gg 38 (.bo .neq false 37 (.c (.s []))) 32 false,gg 39 (.bo .neq true 35 38) 32 false,gp 40 (.pk 32 (.c (.b true)) 39)] [1,40] [1]) (.ite 40 (.sq (.rg [] [gA 2 (.c (.b false))] [2] []) .rt) .sk)) WC)
def WD:AC:=.kp [1,3] [1] Mk
def OP:bg:=⟨(.sq (.rg [] [gp 1 (.bx 0),gA 2 (.c (.b false))] [1] [1]) (.sq (.rg [] [gA 3 (kI 0)] [1,3] [1]) (.sq (.bl 0 (.sq (.rg [] [gF 5 0 1,gQ 6 5,gB 7 .lss 6 (kI 1),gM 8 7,gg 9 (.fa 0 1) 8 false,gg 10 (.ld none 9) 8 false,gg 11 (.bo .gtr false 10 (kI 7)) 8 false,gp 12 (.pk 8 (.c (.b true)) 11),gA 4 12] [1,3,4] [1]) (.ite 4 (.sq (.rg [] [gA 2 (.c (.b false))] [2] []) .rt) (.sq (.rg [] [gF 14 0 1,gQ 15 14,gB 16 .gtr 15 (kI 2),gA 13 16] [1,3,13] [1]) (.ite 13 (.rg [] [gA 3 (kI 2)] [1,3] [1]) .sk))))) WD))),[.t 2]⟩
def OQ:bg:=⟨(.sq (.rg [] [gp 1 (.bx 0),gA 2 (.c (.b false))] [1] [1]) (.sq (.rg [] [gF 3 0 1,gQ 4 3,gB 5 .eql 4 (kI 0),gM 6 5,gg 7 (.fa 2 1) 6 true,gg 8 (.ld none 7) 6 true,gg 9 (.bo .eql false 8 (kI 0)) 6 true,gp 10 (.pk 6 9 (.c (.b false))),gM 11 10,gg 12 (.fa 3 1) 11 true,gg 13 (.ld none 12) 11 true,gg 14 (.bo .eql false 13 (.c (.s []))) 11 true,gp 15 (.pk 11 14 (.c (.b false))),gM 16 15,gg 17 (.fa 4 1) 16 true,gg 18 (.ld none 17) 16 true,gg 19 (.ln false 18) 16 true,gg 20 (.bo .eql false 19 (kI 0)) 16 true,gp 21 (.pk 16 20 (.c (.b false))),gA 2 21] [2] []) .rt)),[.t 2]⟩
def WE:AC:=(.sq (.bl 1 (.sq (.rg [] [gM 10 8,gA 5 10] [0,1,5,7,8] []) (.sq (.rg [] [gM 11 1,gM 12 0,gM 13 5,gp 14 (.ia 1 none 12 13),gQ 15 14,gp 16 (.cf 0 11 [15])] [0,1,5,7,8,16] []) (.ite 16 (.sq (.rg [] [gM 17 5,gA 4 17] [4] []) .rt) .sk)))) (.rg [] [gB 18 .add 8 (kI 1),gM 8 18] [0,1,7,8] []))
def WG:AC:=.kp [0,1,7,8] [] WE
def WH:AC:=(.sq (.rg [] [gB 9 .lss 8 7] [0,1,7,8,9] []) (.sq (.ite 9 .sk (.ex 0)) WG))
def HZ:bq:=⟨[0,1,7,8],[],WH⟩
def OR:bg:=⟨(.sq (.rg [] [gA 4 (kI 0)] [0,1] []) (.sq (.sq (.rg [] [gM 6 0,gp 7 (.ln false 6),gM 8 (kI 0)] [0,1,7,8] []) (.bl 0 HZ.lp)) (.sq (.rg [] [gA 4 (kI (-1))] [4] []) .rt))),[.t 4]⟩
def WI:AC:=(.sq (.bl 1 (.sq (.rg [] [gM 10 8,gA 5 10] [0,1,5,7,8] []) (.sq (.rg [] [gM 11 1,gM 12 0,gM 13 5,gp 14 (.ia 12 none 12 13),gp 15 (.ld (some 12) 14),gp 16 (.cf 0 11 [15])] [0,1,5,7,8,16] []) (.ite 16 (.sq (.rg [] [gM 17 5,gA 4 17] [4] []) .rt) .sk)))) (.rg [] [gB 18 .add 8 (kI 1),gM 8 18] [0,1,7,8] []))
def WJ:AC:=.kp [0,1,7,8] [] WI
def WK:AC:=(.sq (.rg [] [gB 9 .lss 8 7] [0,1,7,8,9] []) (.sq (.ite 9 .sk (.ex 0)) WJ))
def Ml:bq:=⟨[0,1,7,8],[],WK⟩
def OS:bg:=⟨(.sq (.rg [] [gA 4 (kI 0)] [0,1] []) (.sq (.sq (.rg [] [gM 6 0,gp 7 (.ln false 6),gM 8 (kI 0)] [0,1,7,8] []) (.bl 0 Ml.lp)) (.sq (.rg [] [gA 4 (kI (-1))] [4] []) .rt))),[.t 4]⟩
def OT:bg:=⟨(.sq (.rg [] [gp 1 (.bx 0),gA 2 (.c (.b false))] [1] [1]) (.sq (.rg [] [gp 3 (.ld (some 5) 1),gp 4 (.ca 0 94 [3]),gp 5 (.no 4),gA 2 5] [2] []) .rt)),[.t 2]⟩
def Kb:bg:=⟨(.sq (.rg [] [gA 4 (.c (.b false))] [0,1] []) (.sq (.rg [] [gM 5 0,gp 6 (.ln true 5),gM 7 1,gp 8 (.ln true 7),gB 9 .geq 6 8,gM 10 9,gg 11 (.mv 0) 10 true,gg 12 (.mv 1) 10 true,gg 13 (.ln true 12) 10 true,gg 14 (.sl 0 0 11 none (some 13)) 10 true,gg 15 (.mv 1) 10 true,gg 16 (.bo .eql false 14 15) 10 true,gp 17 (.pk 10 16 (.c (.b false))),gA 4 17] [4] []) .rt)),[.t 4]⟩
def Kc:bg:=⟨(.sq (.rg [] [gA 2 (.c (.b false))] [0] []) (.sq (.rg [] [gM 3 0,gp 4 (.cv .i64 3),gp 5 (.ca 0 35 [4,(kI 97),(kI 122)]),gA 2 5] [2] []) .rt)),[.t 2]⟩
def Kd:bg:=⟨(.sq (.rg [] [gA 2 (.c (.b false))] [0] []) (.sq (.rg [] [gM 3 0,gp 4 (.cv .i64 3),gp 5 (.ca 0 35 [4,(kI 48),(kI 57)]),gA 2 5] [2] []) .rt)),[.t 2]⟩
def OU:AC:=(.sq (.rg [] [gM 66 0,gM 67 4,gp 68 (.c2 42 [66,67])] [0,2,3] [0,2,3]) (.sq (.rg [] [gM 69 0,gp 70 (.c2 77 [69]),gF 71 2 3,gS 1 71 70] [0,2,3] [0,2,3]) (.rg [] [gM 72 0,gp 73 (.c2 79 [72,(kI 0)]),gF 74 4 3,gS 5 74 73] [0,2,3] [0,2,3])))
def OV:AC:=.kp [0,2,3,4] [0,2,3] OU
def OW:AC:=(.sq (.rg [] [gM 82 0,gM 83 4,gp 84 (.c2 42 [82,83])] [0,2,3,4] [0,2,3]) (.sq (.rg [] [gM 85 0,gp 86 (.c2 79 [85,(kI 0)]),gF 87 4 3,gS 5 87 86] [0,2,3,4] [0,2,3]) (.sq (.rg [] [gM 88 0,gp 89 (.c2 43 [88]),gF 90 10 3,gS 1 90 89] [0,2,3,4] [0,2,3]) (.sq (.sq (.rg [] [gM 91 4,gB 92 .eql 91 (.c (.s [105,102])),gM 93 92,gg 94 (.mv 0) 93 true,gg 95 (.c3 76 [94,(kI 0)]) 93 true,gg 96 (.bo .eql false 95 (.c (.s [101,108,115,101]))) 93 true,gp 97 (.pk 93 96 (.c (.b false)))] [0,2,3,97] [0,2,3]) (.ite 97 (.sq (.rg [] [gM 98 0,gp 99 (.c2 42 [98,(.c (.s [101,108,115,101]))])] [0,2,3] [0,2,3]) (.rg [] [gM 100 0,gp 101 (.c2 43 [100]),gF 102 11 3,gS 1 102 101] [2,3] [2,3])) .sk)) (.sq (.rg [] [gp 103 (.ld (some 12) 3),gS 12 2 103] [2] [2]) .rt)))))
def OX:AC:=.kp [0,2,3,4] [0,2,3] OW
def OY:AC:=(.ite 75 (.sq (.rg [] [gF 78 0 3,gS 1 78 (kI 7)] [0,2,3,4] [0,2,3]) (.sq (.sq (.rg [] [gM 79 4,gB 80 .eql 79 (.c (.s [119,104,105,108,101]))] [0,2,3,4,80] [0,2,3]) (.ite 80 (.rg [] [gF 81 0 3,gS 1 81 (kI 8)] [0,2,3,4] [0,2,3]) .sk)) OX)) (.sq (.rg [] [gF 11 0 3,gS 1 11 (kI 1)] [0,2,3] [0,2,3]) (.sq (.rg [] [gM 12 0,gp 13 (.c2 77 [12]),gF 14 2 3,gS 1 14 13] [0,2,3] [0,2,3]) (.sq (.rg [] [gM 15 0,gp 16 (.c2 42 [15,(.c (.s [61]))])] [0,2,3] [0,2,3]) (.sq (.rg [] [gM 17 0,gp 18 (.c3 76 [17,(kI 0)]),gp 19 (.ca 0 36 [18]),gM 20 19,gg 21 (.mv 0) 20 true,gg 22 (.c3 76 [21,(kI 1)]) 20 true,gg 23 (.bo .eql false 22 (.c (.s [40]))) 20 true,gp 24 (.pk 20 23 (.c (.b false)))] [0,2,3,24] [0,2,3]) (.ite 24 (.sq (.rg [] [gF 25 0 3,gS 1 25 (kI 2)] [0,2,3] [0,2,3]) (.sq (.rg [] [gM 26 0,gp 27 (.c2 77 [26]),gF 28 3 3,gS 1 28 27] [0,2,3] [0,2,3]) (.rg [] [gM 29 0,gp 30 (.c2 115 [29]),gF 31 9 3,gS 1 31 30] [0,2,3] [0,2,3]))) (.rg [] [gM 32 0,gp 33 (.c2 79 [32,(kI 0)]),gF 34 4 3,gS 5 34 33] [0,2,3] [0,2,3])))))))
def OZ:AC:=.kp [0,2,3,4,75] [0,2,3] OY
def O0:AC:=(.ite 59 (.sq (.rg [] [gF 62 0 3,gS 1 62 (kI 5)] [0,2,3,4] [0,2,3]) (.sq (.sq (.rg [] [gM 63 4,gB 64 .eql 63 (.c (.s [116,114,117,115,116]))] [0,2,3,4,64] [0,2,3]) (.ite 64 (.rg [] [gF 65 0 3,gS 1 65 (kI 6)] [0,2,3,4] [0,2,3]) .sk)) OV)) (.sq (.sq (.rg [] [gB 76 .eql 10 (.c (.s [105,102])),gA 75 76] [0,2,3,4,10,75] [0,2,3]) (.ite 75 .sk (.rg [] [gB 77 .eql 10 (.c (.s [119,104,105,108,101])),gA 75 77] [0,2,3,4,75] [0,2,3]))) OZ))
def O1:AC:=.kp [0,2,3,4,10,59] [0,2,3] O0
def O2:AC:=(.sq (.rg [] [gM 104 0,gp 105 (.c2 42 [104,(.c (.s [59]))])] [2,3] [2,3]) (.sq (.rg [] [gp 106 (.ld (some 12) 3),gS 12 2 106] [2] [2]) .rt))
def O3:AC:=.kp [0,2,3] [0,2,3] O2
def O4:bg:=⟨(.sq (.rg [] [gp 2 (.al [(.i .i64 0),(.i .i64 0),(.s []),(.s []),(.i .i64 0),(.i .i64 0),(.i .i64 0),(.s []),(.l 44 []),(.l 44 []),(.l 68 []),(.l 68 [])])] [0,2] [0,2]) (.sq (.rg [] [gM 5 0,gp 6 (.c3 44 [5]),gp 7 (.bd [(.i .i64 0),(.i .i64 0),(.s []),(.s []),(.i .i64 0),(.i .i64 0),(.i .i64 0),(.s []),(.l 44 []),(.l 44 []),(.l 68 []),(.l 68 [])] [(1,1,6)]),gp 3 (.al [(.i .i64 0),(.i .i64 0),(.s []),(.s []),(.i .i64 0),(.i .i64 0),(.i .i64 0),(.s []),(.l 44 []),(.l 44 []),(.l 68 []),(.l 68 [])]),gS 12 3 7] [0,2,3] [0,2,3]) (.sq (.rg [] [gM 8 0,gp 9 (.c3 76 [8,(kI 0)]),gA 4 9] [0,2,3,4] [0,2,3]) (.sq (.sq (.rg [] [gM 10 4] [0,2,3,4,10] [0,2,3]) (.bl 0 (.sq (.rg [] [gB 36 .eql 10 (.c (.s [103,101,116])),gA 35 36] [0,2,3,4,10,35] [0,2,3]) (.ite 35 (.sq (.rg [] [gF 37 0 3,gS 1 37 (kI 3)] [0,2,3,4] [0,2,3]) (.sq (.rg [] [gM 38 0,gM 39 4,gp 40 (.c2 42 [38,39])] [0,2,3] [0,2,3]) (.sq (.rg [] [gM 41 0,gp 42 (.c2 77 [41]),gF 43 2 3,gS 1 43 42] [0,2,3] [0,2,3]) (.rg [] [gM 44 0,gp 45 (.c2 77 [44]),gF 46 3 3,gS 1 46 45] [0,2,3] [0,2,3])))) (.sq (.rg [] [gB 48 .eql 10 (.c (.s [112,117,116])),gA 47 48] [0,2,3,4,10,47] [0,2,3]) (.ite 47 (.sq (.rg [] [gF 49 0 3,gS 1 49 (kI 4)] [0,2,3,4] [0,2,3]) (.sq (.rg [] [gM 50 0,gM 51 4,gp 52 (.c2 42 [50,51])] [0,2,3] [0,2,3]) (.sq (.rg [] [gM 53 0,gp 54 (.c2 77 [53]),gF 55 3 3,gS 1 55 54] [0,2,3] [0,2,3]) (.rg [] [gM 56 0,gp 57 (.c2 79 [56,(kI 0)]),gF 58 4 3,gS 5 58 57] [0,2,3] [0,2,3])))) (.sq (.sq (.rg [] [gB 60 .eql 10 (.c (.s [114,101,118,101,97,108])),gA 59 60] [0,2,3,4,10,59] [0,2,3]) (.ite 59 .sk (.rg [] [gB 61 .eql 10 (.c (.s [116,114,117,115,116])),gA 59 61] [0,2,3,4,10,59] [0,2,3]))) O1))))))) O3)))),[.c 2 (some 12)]⟩
def O5:AC:=(.sq (.bl 1 (.rg [] [gM 25 4,gB 26 .mul (kI 10) 25,gM 27 3,gM 28 5,gp 29 (.ix 27 28),gp 30 (.cv .i64 29),gB 31 .add 26 30,gB 32 .sub 31 (kI 48),gA 4 32] [0,3,4,5] [0])) (.rg [] [gM 23 5,gB 24 .add 23 (kI 1),gA 5 24] [0,3,4,5] [0]))
def O6:AC:=.kp [0,3,4,5] [0] O5
def O7:AC:=(.sq (.sq (.rg [] [gM 19 5,gM 20 3,gp 21 (.ln true 20),gB 22 .lss 19 21] [0,3,4,5,22] [0]) (.ite 22 .sk (.ex 0))) O6)
def O8:bq:=⟨[0,3,4,5],[0],O7⟩
def O9:AC:=(.sq (.rg [] [gM 33 0,gp 34 (.nc 33),gF 35 1 34,gQ 36 35,gB 37 .add 36 (kI 1),gp 38 (.nc 33),gF 39 1 38,gS 1 39 37] [4] []) (.sq (.rg [] [gM 40 4,gA 2 40] [2] []) .rt))
def Pa:AC:=.kp [0,4] [0] O9
def Pb:AC:=(.sq (.rg [] [gA 4 (kI 0)] [0,3,4] [0]) (.sq (.sq (.rg [] [gA 5 (kI 0)] [0,3,4,5] [0]) (.bl 0 O8.lp)) Pa))
def Pc:AC:=.kp [0,3] [0] Pb
def Pd:bg:=⟨(.sq (.rg [] [gA 2 (kI 0)] [0] [0]) (.sq (.rg [] [gM 6 0,gp 7 (.c3 76 [6,(kI 0)]),gA 3 7] [0,3] [0]) (.sq (.sq (.rg [] [gM 8 3,gB 9 .eql 8 (.c (.s [])),gM 10 9,gg 11 (.mv 3) 10 false,gg 12 (.ix 11 (kI 0)) 10 false,gg 13 (.ca 0 106 [12]) 10 false,gg 14 (.no 13) 10 false,gp 15 (.pk 10 (.c (.b true)) 14)] [0,3,15] [0]) (.ite 15 (.sq (.rg [] [gM 16 0,gp 17 (.nc 16),gF 18 3 17,gS 1 18 (.c (.b true))] [] []) (.sq (.rg [] [gA 2 (kI 0)] [2] []) .rt)) .sk)) Pc))),[.t 2]⟩
def Pe:AC:=(.sq (.bl 1 (.sq (.rg [] [gM 10 8,gA 5 10] [0,1,5,7,8] []) (.sq (.rg [] [gM 11 1,gM 12 0,gM 13 5,gp 14 (.ia 5 none 12 13),gp 15 (.ld (some 5) 14),gp 16 (.cf 0 11 [15])] [0,1,5,7,8,16] []) (.ite 16 (.sq (.rg [] [gM 17 5,gA 4 17] [4] []) .rt) .sk)))) (.rg [] [gB 18 .add 8 (kI 1),gM 8 18] [0,1,7,8] []))
def Pf:AC:=.kp [0,1,7,8] [] Pe
def Pg:AC:=(.sq (.rg [] [gB 9 .lss 8 7] [0,1,7,8,9] []) (.sq (.ite 9 .sk (.ex 0)) Pf))
def Ak:bq:=⟨[0,1,7,8],[],Pg⟩
def Ke:bg:=⟨(.sq (.rg [] [gA 4 (kI 0)] [0,1] []) (.sq (.sq (.rg [] [gM 6 0,gp 7 (.ln false 6),gM 8 (kI 0)] [0,1,7,8] []) (.bl 0 Ak.lp)) (.sq (.rg [] [gA 4 (kI (-1))] [4] []) .rt))),[.t 4]⟩
def Kf:bg:=⟨(.sq (.rg [] [gA 4 (.c (.b false))] [0,1] []) (.sq (.rg [] [gM 9 1,gp 10 (.ca 0 116 [9]),gM 8 10,gp 11 (.ex 8 0),gp 12 (.ex 8 1),gp 13 (.ex 8 2),gA 5 11,gA 6 12,gA 7 13] [0,1,5,7] []) (.sq (.rg [] [gM 14 7,gB 15 .eql 14 (kI 0),gM 16 15,gg 17 (.mv 5) 16 true,gg 18 (.ln false 17) 16 true,gg 19 (.bo .eql false 18 (kI 1)) 16 true,gp 20 (.pk 16 19 (.c (.b false))),gM 21 20,gg 22 (.mv 5) 21 true,gg 23 (.ia 3 none 22 (kI 0)) 21 true,gg 24 (.fa 0 23) 21 true,gg 25 (.ld none 24) 21 true,gg 26 (.mv 0) 21 true,gg 27 (.bo .eql false 25 26) 21 true,gp 28 (.pk 21 27 (.c (.b false))),gM 29 28,gg 30 (.mv 5) 29 true,gg 31 (.ia 3 none 30 (kI 0)) 29 true,gg 32 (.fa 2 31) 29 true,gg 33 (.ld none 32) 29 true,gg 34 (.mv 1) 29 true,gg 35 (.bo .eql false 33 34) 29 true,gp 36 (.pk 29 35 (.c (.b false))),gA 4 36] [4] []) .rt))),[.t 4]⟩
def Ph:AC:=(.sq (.bl 1 (.sq (.rg [] [gM 10 8,gA 5 10] [0,1,5,7,8] []) (.sq (.rg [] [gM 11 1,gM 12 0,gM 13 5,gp 14 (.ia 1 none 12 13),gQ 15 14,gB 16 .eql 11 15] [0,1,5,7,8,16] []) (.ite 16 (.sq (.rg [] [gM 17 5,gA 4 17] [4] []) .rt) .sk)))) (.rg [] [gB 18 .add 8 (kI 1),gM 8 18] [0,1,7,8] []))
def Pj:AC:=.kp [0,1,7,8] [] Ph
def Pk:AC:=(.sq (.rg [] [gB 9 .lss 8 7] [0,1,7,8,9] []) (.sq (.ite 9 .sk (.ex 0)) Pj))
def I7:bq:=⟨[0,1,7,8],[],Pk⟩
def Kg:bg:=⟨(.sq (.rg [] [gA 4 (kI 0)] [0,1] []) (.sq (.sq (.rg [] [gM 6 0,gp 7 (.ln false 6),gM 8 (kI 0)] [0,1,7,8] []) (.bl 0 I7.lp)) (.sq (.rg [] [gA 4 (kI (-1))] [4] []) .rt))),[.t 4]⟩
def Kh:bg:=⟨(.sq (.rg [] [gp 1 (.bx 0),gA 2 (.c (.b false))] [1] [1]) (.sq (.rg [] [gp 3 (.ld (some 5) 1),gp 4 (.ca 0 94 [3]),gp 5 (.no 4),gA 2 5] [2] []) .rt)),[.t 2]⟩
def Pm:AC:=(.sq (.rg [] [gM 21 3,gM 22 0,gp 23 (.c2 79 [22,(kI 0)]),gz 24 (.bs 44 5 [23]),gp 25 (.ap 44 5 64 21 24),gA 3 25] [0,3] [0]) (.sq (.rg [] [gM 26 0,gp 27 (.c3 76 [26,(kI 0)]),gB 28 .neq 27 (.c (.s [44])),gM 29 28,gg 30 (.mv 0) 29 true,gg 31 (.c3 76 [30,(kI 0)]) 29 true,gg 32 (.bo .neq false 31 (.c (.s [41]))) 29 true,gp 33 (.pk 29 32 (.c (.b false)))] [0,3,33] [0]) (.ite 33 (.rg [] [gM 34 0,gp 35 (.nc 34),gF 36 3 35,gS 1 36 (.c (.b true))] [0,3] [0]) .sk)))
def Pn:AC:=.kp [0,3] [0] Pm
def Po:AC:=(.bl 1 (.sq (.sq (.rg [] [gM 16 3,gp 17 (.ln false 16),gB 18 .gtr 17 (kI 0)] [0,3,18] [0]) (.ite 18 (.rg [] [gM 19 0,gp 20 (.c2 42 [19,(.c (.s [44]))])] [0,3] [0]) .sk)) Pn))
def Pp:AC:=.kp [0,3] [0] Po
def Pq:AC:=(.sq (.sq (.rg [] [gM 6 0,gp 7 (.nc 6),gF 8 3 7,gQ 9 8,gp 10 (.no 9),gM 11 10,gg 12 (.mv 0) 11 true,gg 13 (.c3 76 [12,(kI 0)]) 11 true,gg 14 (.bo .neq false 13 (.c (.s [41]))) 11 true,gp 15 (.pk 11 14 (.c (.b false)))] [0,3,15] [0]) (.ite 15 .sk (.ex 0))) Pp)
def Pr:bq:=⟨[0,3],[0],Pq⟩
def Ps:AC:=(.sq (.rg [] [gM 37 0,gp 38 (.c2 42 [37,(.c (.s [41]))])] [3] []) (.sq (.rg [] [gM 39 3,gA 2 39] [2,3] []) .rt))
def Pt:AC:=.kp [0,3] [0] Ps
def Pu:bg:=⟨(.sq (.rg [] [gA 2 (.c (.l 44 []))] [0] [0]) (.sq (.rg [] [gA 3 (.c .n)] [0,3] [0]) (.sq (.rg [.own 3 44] [gM 4 0,gp 5 (.c2 42 [4,(.c (.s [40]))])] [0,3] [0]) (.sq (.bl 0 Pr.lp) Pt)))),[.t 2]⟩
def Pv:AC:=(.rg [] [gM 36 6,gp 37 (.ld (some 3) 7),gz 38 (.bs 118 3 [37]),gp 39 (.ap 118 3 32 36 38),gA 6 39] [0,5,6] [14])
def Pw:AC:=.kp [0,5,6,7] [7,14] Pv
def Px:AC:=(.sq (.bl 1 (.sq (.rg [] [gM 27 5,gp 28 (.c2 122 [27]),gM 26 28,gp 29 (.ex 26 0),gp 30 (.ex 26 1),gp 7 (.al [(.i .i64 0),(.i .i64 0),(.s [])]),gS 3 7 29,gA 8 30] [0,5,6,7,8] [7,14]) (.sq (.sq (.rg [] [gM 31 8,gB 32 .neq 31 (kI 0)] [0,5,6,7,8,32] [7,14]) (.ite 32 (.sq (.dg [] [] [gL (gF 33 1 7) [7] [],gV (gQ 34 33) [33] [7] [],gL (gM 35 8) [8] [],gL (gA 2 (.c (.l 118 []))) [] [],gL (gA 3 34) [34] [],gH (gA 4 35)] [2,3,4,6] []) .rt) .sk)) Pw))) (.rg [] [gM 24 5,gp 25 (.c2 121 [24])] [0,5,6] [14]))
def Py:AC:=.kp [0,5,6] [14] Px
def Pz:AC:=(.sq (.sq (.rg [] [gM 17 5,gp 18 (.nc 17),gF 19 1 18,gQ 20 19,gM 21 0,gp 22 (.ln true 21),gB 23 .lss 20 22] [0,5,6,23] [14]) (.ite 23 .sk (.ex 0))) Py)
def I8:bq:=⟨[0,5,6],[14],Pz⟩
def PA:AC:=(.sq (.rg [] [gM 40 6,gA 2 40,gA 3 (kI 0),gA 4 (kI 0)] [2,3,4,6] []) .rt)
def PB:AC:=.kp [6] [] PA
def PC:AC:=(.sq (.rg [] [gM 12 0,gp 13 (.bd [(.s []),(.i .i64 0)] [(0,1,12)]),gp 14 (.bx 13),gA 5 14] [0,5] [14]) (.sq (.rg [] [gA 6 (.c .n)] [0,5,6] [14]) (.sq (.sq (.rg [.own 6 118] [gM 15 5,gp 16 (.c2 121 [15])] [0,5,6] [14]) (.bl 0 I8.lp)) PB)))
def PD:AC:=.kp [0] [] PC
def Ki:bg:=⟨(.sq (.rg [] [gA 2 (.c (.l 118 [])),gA 3 (kI 0),gA 4 (kI 0)] [0] []) (.sq (.sq (.rg [] [gM 9 0,gp 10 (.ln true 9),gB 11 .gtr 10 (kI 6000)] [0,11] []) (.ite 11 (.sq (.rg [] [gA 2 (.c (.l 118 [])),gA 3 (kI 0),gA 4 (kI 2)] [2,3,4,6] []) .rt) .sk)) PD)),[.t 2,.t 3,.t 4]⟩
def PE:AC:=(.bl 4 (.rg [] [gM 56 0,gp 57 (.nc 56),gF 58 1 57,gQ 59 58,gB 60 .add 59 (kI 1),gp 61 (.nc 56),gF 62 1 61,gS 1 62 60] [0] [0]))
def PF:AC:=.kp [0] [0] PE
def PG:AC:=(.sq (.sq (.dg [] [] [gL (gM 34 0) [0] [],gL (gp 35 (.nc 34)) [34] [],gL (gF 36 1 35) [35] [],⟨gQ 37 36,true,[36],[],true,[],[],[]⟩,gL (gM 38 0) [0] [],gL (gp 39 (.nc 38)) [38] [],gL (gF 40 0 39) [39] [],⟨gQ 41 40,true,[40],[],true,[],[],[]⟩,gL (gp 42 (.ln true 41)) [41] [],gL (gB 43 .lss 37 42) [37,42] [],gL (gM 44 43) [43] [],gL (gg 45 (.mv 0) 44 true) [0] [],gL (gg 46 (.nc 45) 44 true) [45] [],gL (gg 47 (.fa 0 46) 44 true) [46] [],⟨gg 48 (.ld none 47) 44 true,true,[47],[],true,[],[],[]⟩,gL (gg 49 (.mv 0) 44 true) [0] [],gL (gg 50 (.nc 49) 44 true) [49] [],gL (gg 51 (.fa 1 50) 44 true) [50] [],⟨gg 52 (.ld none 51) 44 true,true,[51],[],true,[],[],[]⟩,gH (gg 53 (.ix 48 52) 44 true),gH (gg 54 (.bo .neq false 53 (.c (.i .u8 10))) 44 true),gH (gp 55 (.pk 44 54 (.c (.b false))))] [0,55] [0]) (.ite 55 .sk (.ex 3))) PF)
def I9:bq:=⟨[0],[0],PG⟩
def Ja:AC:=(.ite 21 (.rg [] [gM 25 0,gp 26 (.nc 25),gF 27 1 26,gQ 28 27,gB 29 .add 28 (kI 1),gp 30 (.nc 25),gF 31 1 30,gS 1 31 29] [0] [0]) (.sq (.rg [] [gB 33 .eql 20 (.c (.i .u8 35)),gA 32 33] [0,32] [0]) (.ite 32 (.bl 3 I9.lp) .rt)))
def PH:AC:=.kp [0,20,21] [0] Ja
def PI:AC:=(.bl 1 (.sq (.dg [] [] [gL (gM 12 0) [0] [],gL (gp 13 (.nc 12)) [12] [],gL (gF 14 0 13) [13] [],⟨gQ 15 14,true,[14],[],true,[],[],[]⟩,gL (gM 16 0) [0] [],gL (gp 17 (.nc 16)) [16] [],gL (gF 18 1 17) [17] [],⟨gQ 19 18,true,[18],[],true,[],[],[]⟩,gH (gp 20 (.ix 15 19))] [0,20] [0]) (.bl 2 (.sq (.sq (.rg [] [gB 22 .eql 20 (.c (.i .u8 32)),gA 21 22] [0,20,21] [0]) (.ite 21 .sk (.sq (.rg [] [gB 23 .eql 20 (.c (.i .u8 9)),gA 21 23] [0,20,21] [0]) (.ite 21 .sk (.rg [] [gB 24 .eql 20 (.c (.i .u8 10)),gA 21 24] [0,20,21] [0]))))) PH))))
def PJ:AC:=.kp [0] [0] PI
def PK:AC:=(.sq (.sq (.dg [] [] [gL (gM 2 0) [0] [],gL (gp 3 (.nc 2)) [2] [],gL (gF 4 1 3) [3] [],⟨gQ 5 4,true,[4],[],true,[],[],[]⟩,gL (gM 6 0) [0] [],gL (gp 7 (.nc 6)) [6] [],gL (gF 8 0 7) [7] [],⟨gQ 9 8,true,[8],[],true,[],[],[]⟩,gL (gp 10 (.ln true 9)) [9] [],gH (gB 11 .lss 5 10)] [0,11] [0]) (.ite 11 .sk (.ex 0))) PJ)
def Jb:bq:=⟨[0],[0],PK⟩
def Kj:bg:=⟨(.bl 0 Jb.lp),[]⟩
def PL:AC:=(.sq (.rg [] [gF 38 2 4,gQ 39 38,gp 40 (.ln true 39),gB 41 .gtr 40 (kI 1),gM 42 41,gg 43 (.mv 5) 42 true,gg 44 (.bo .eql false 43 (.c (.i .u8 48))) 42 true,gp 45 (.pk 42 44 (.c (.b false)))] [2,4,45] [2,4]) (.ite 45 (.sq (.rg [] [gp 46 (.ld (some 3) 4),gS 3 2 46,gA 3 (kI 1)] [2,3] [2]) .rt) .sk))
def PM:AC:=.kp [2,4,5] [2,4] PL
def Kk:bg:=⟨(.sq (.rg [] [gp 2 (.al [(.i .i64 0),(.i .i64 0),(.s [])]),gA 3 (kI 0)] [0,2] [0,2]) (.sq (.rg [] [gM 6 0,gp 7 (.nc 6),gF 8 1 7,gQ 9 8,gp 10 (.bd [(.i .i64 0),(.i .i64 0),(.s [])] [(0,1,(kI 3)),(1,1,9)]),gp 4 (.al [(.i .i64 0),(.i .i64 0),(.s [])]),gS 3 4 10] [0,2,4] [0,2,4]) (.sq (.rg [] [gM 11 0,gp 12 (.c3 128 [11]),gA 5 12] [0,2,4,5] [0,2,4]) (.sq (.bl 0 (.sq (.rg [] [gM 15 5,gp 16 (.ca 0 129 [15]),gA 14 16] [0,2,4,5,14] [0,2,4]) (.ite 14 (.sq (.rg [] [gF 17 0 4,gS 1 17 (kI 1)] [0,2,4] [0,2,4]) (.sq (.rg [] [gM 18 0,gp 19 (.c2 130 [18,(.c (.f 131 []))]),gF 20 2 4,gS 1 20 19] [2,4] [2,4]) (.sq (.rg [] [gF 21 2 4,gQ 22 21,gp 23 (.ln true 22),gB 24 .gtr 23 (kI 12)] [2,4,24] [2,4]) (.ite 24 (.sq (.rg [] [gp 25 (.ld (some 3) 4),gS 3 2 25,gA 3 (kI 2)] [2,3] [2]) .rt) .sk)))) (.sq (.rg [] [gM 27 5,gp 28 (.ca 0 132 [27]),gA 26 28] [0,2,4,5,26] [0,2,4]) (.ite 26 (.sq (.rg [] [gF 29 0 4,gS 1 29 (kI 2)] [0,2,4,5] [0,2,4]) (.sq (.rg [] [gM 30 0,gp 31 (.c2 130 [30,(.c (.f 132 []))]),gF 32 2 4,gS 1 32 31] [2,4,5] [2,4]) (.sq (.sq (.rg [] [gF 33 2 4,gQ 34 33,gp 35 (.ln true 34),gB 36 .gtr 35 (kI 7)] [2,4,5,36] [2,4]) (.ite 36 (.sq (.rg [] [gp 37 (.ld (some 3) 4),gS 3 2 37,gA 3 (kI 2)] [2,3] [2]) .rt) .sk)) PM))) (.sq (.dg [] [] [gL (gM 48 0) [0] [],gL (gp 49 (.nc 48)) [48] [],gL (gF 50 0 49) [49] [],⟨gQ 51 50,true,[50],[],true,[],[],[]⟩,gL (gM 52 0) [0] [],gL (gp 53 (.nc 52)) [52] [],gL (gF 54 1 53) [53] [],⟨gQ 55 54,true,[54],[],true,[],[],[]⟩,gH (gp 56 (.sl 0 0 51 (some 55) none)),gH (gp 57 (.ca 0 69 [56,(.c (.s [61,61]))])),gH (gA 47 57)] [0,2,4,5,47] [0,2,4]) (.ite 47 (.sq (.rg [] [gF 58 2 4,gS 1 58 (.c (.s [61,61]))] [0,2,4] [0,2,4]) (.rg [] [gM 59 0,gp 60 (.nc 59),gF 61 1 60,gQ 62 61,gB 63 .add 62 (kI 2),gp 64 (.nc 59),gF 65 1 64,gS 1 65 63] [2,4] [2,4])) (.sq (.rg [] [gM 67 5,gp 68 (.ca 1 133 [(.c (.s [123,125,40,41,59,58,33,44,61,43,45,42,60])),67]),gB 69 .geq 68 (kI 0),gA 66 69] [0,2,4,5,66] [0,2,4]) (.ite 66 (.sq (.rg [] [gM 70 5,gp 71 (.cs 70),gF 72 2 4,gS 1 72 71] [0,2,4] [0,2,4]) (.rg [] [gM 73 0,gp 74 (.nc 73),gF 75 1 74,gQ 76 75,gB 77 .add 76 (kI 1),gp 78 (.nc 73),gF 79 1 78,gS 1 79 77] [2,4] [2,4])) (.sq (.rg [] [gp 13 (.ld (some 3) 4),gS 3 2 13,gA 3 (kI 1)] [2,3] [2]) .rt)))))))))) (.sq (.rg [] [gp 80 (.ld (some 3) 4),gS 3 2 80,gA 3 (kI 0)] [2,3] [2]) .rt))))),[.c 2 (some 3),.t 3]⟩
def Kl:bg:=⟨(.sq (.rg [] [gA 2 (.c (.i .u8 0))] [0] [0]) (.sq (.sq (.dg [] [] [gL (gM 3 0) [0] [],gL (gp 4 (.nc 3)) [3] [],gL (gF 5 1 4) [4] [],⟨gQ 6 5,true,[5],[],true,[],[],[]⟩,gL (gM 7 0) [0] [],gL (gp 8 (.nc 7)) [7] [],gL (gF 9 0 8) [8] [],⟨gQ 10 9,true,[9],[],true,[],[],[]⟩,gL (gp 11 (.ln true 10)) [10] [],gH (gB 12 .lss 6 11)] [0,12] [0]) (.ite 12 (.sq (.dg [] [] [gL (gM 13 0) [0] [],gL (gp 14 (.nc 13)) [13] [],gL (gF 15 0 14) [14] [],⟨gQ 16 15,true,[15],[],true,[],[],[]⟩,gL (gM 17 0) [0] [],gL (gp 18 (.nc 17)) [17] [],gL (gF 19 1 18) [18] [],⟨gQ 20 19,true,[19],[],true,[],[],[]⟩,gH (gp 21 (.ix 16 20)),gH (gA 2 21)] [2] []) .rt) .sk)) (.sq (.rg [] [gA 2 (.c (.i .u8 0))] [2] []) .rt))),[.t 2]⟩
def Km:bg:=⟨(.sq (.rg [] [gA 2 (.c (.b false))] [0] []) (.sq (.rg [] [gM 3 0,gB 4 .geq 3 (.c (.i .u8 97)),gM 5 4,gg 6 (.mv 0) 5 true,gg 7 (.bo .leq false 6 (.c (.i .u8 122))) 5 true,gp 8 (.pk 5 7 (.c (.b false))),gA 2 8] [2] []) .rt)),[.t 2]⟩
def PN:AC:=(.bl 1 (.rg [] [gM 33 0,gp 34 (.nc 33),gF 35 1 34,gQ 36 35,gB 37 .add 36 (kI 1),gp 38 (.nc 33),gF 39 1 38,gS 1 39 37] [0,1,5] [0]))
def PO:AC:=.kp [0,1,5] [0] PN
def PQ:AC:=(.sq (.sq (.dg [] [] [gL (gM 10 0) [0] [],gL (gp 11 (.nc 10)) [10] [],gL (gF 12 1 11) [11] [],⟨gQ 13 12,true,[12],[],true,[],[],[]⟩,gL (gM 14 0) [0] [],gL (gp 15 (.nc 14)) [14] [],gL (gF 16 0 15) [15] [],⟨gQ 17 16,true,[16],[],true,[],[],[]⟩,gL (gp 18 (.ln true 17)) [17] [],gL (gB 19 .lss 13 18) [13,18] [],gL (gM 20 19) [19] [],gL (gg 21 (.mv 1) 20 true) [1] [],gL (gg 22 (.mv 0) 20 true) [0] [],gL (gg 23 (.nc 22) 20 true) [22] [],gL (gg 24 (.fa 0 23) 20 true) [23] [],⟨gg 25 (.ld none 24) 20 true,true,[24],[],true,[],[],[]⟩,gL (gg 26 (.mv 0) 20 true) [0] [],gL (gg 27 (.nc 26) 20 true) [26] [],gL (gg 28 (.fa 1 27) 20 true) [27] [],⟨gg 29 (.ld none 28) 20 true,true,[28],[],true,[],[],[]⟩,gL (gg 30 (.ix 25 29) 20 true) [25,29] [],gH (gg 31 (.d2 21 [30]) 20 true),gH (gp 32 (.pk 20 31 (.c (.b false))))] [0,1,5,32] [0]) (.ite 32 .sk (.ex 0))) PO)
def EO:bq:=⟨[0,1,5],[0],PQ⟩
def EP:AC:=(.sq (.dg [] [] [gL (gM 40 0) [0] [],gL (gp 41 (.nc 40)) [40] [],gL (gF 42 0 41) [41] [],⟨gQ 43 42,true,[42],[],true,[],[],[]⟩,gL (gM 44 5) [5] [],gL (gM 45 0) [0] [],gL (gp 46 (.nc 45)) [45] [],gL (gF 47 1 46) [46] [],⟨gQ 48 47,true,[47],[],true,[],[],[]⟩,gH (gp 49 (.sl 0 0 43 (some 44) (some 48))),gH (gA 4 49)] [4] []) .rt)
def PR:AC:=.kp [0,5] [0] EP
def Kn:bg:=⟨(.sq (.rg [] [gA 4 (.c (.s []))] [0,1] [0]) (.sq (.rg [] [gM 6 0,gp 7 (.nc 6),gF 8 1 7,gQ 9 8,gA 5 9] [0,1,5] [0]) (.sq (.bl 0 EO.lp) PR))),[.t 4]⟩
def Ko:bg:=⟨(.sq (.rg [] [gA 2 (.c (.b false))] [0] []) (.sq (.rg [] [gM 3 0,gp 4 (.ca 0 129 [3]),gM 5 4,gg 6 (.mv 0) 5 false,gg 7 (.ca 0 132 [6]) 5 false,gp 8 (.pk 5 (.c (.b true)) 7),gA 2 8] [2] []) .rt)),[.t 2]⟩
def Kp:bg:=⟨(.sq (.rg [] [gA 2 (.c (.b false))] [0] []) (.sq (.rg [] [gM 3 0,gB 4 .geq 3 (.c (.i .u8 48)),gM 5 4,gg 6 (.mv 0) 5 true,gg 7 (.bo .leq false 6 (.c (.i .u8 57))) 5 true,gp 8 (.pk 5 7 (.c (.b false))),gA 2 8] [2] []) .rt)),[.t 2]⟩
abbrev Ω0:cI:=fun f ys=>match f with
 | 27=>pD ys
 | 31=>kl ys
 | 64=>pF ys
 | 133=>eX ys
 | 12=>xb 5 ys
 | _=>none
def G:qn:=fun
 | 3=>some c3
 | 4=>some c4
 | 5=>some c5
 | 6=>some c6
 | 7=>some c7
 | 8=>some c8
 | 9=>some c9
 | 10=>some NV
 | 11=>some NW
 | 13=>some ob
 | 14=>some NX
 | 15=>some Ai
 | 16=>some Dn
 | 17=>some NY
 | 18=>some NZ
 | 19=>some N0
 | 20=>some Aj
 | 21=>some Yu
 | 22=>some N1
 | 23=>some N2
 | 24=>some N3
 | 25=>some N4
 | 26=>some N5
 | 28=>some N6
 | 29=>some N7
 | 30=>some N8
 | 32=>some N9
 | 33=>some Oa
 | 34=>some Ob
 | 35=>some Oc
 | 36=>some Od
 | 37=>some Oe
 | 38=>some Of
 | 39=>some Og
 | 40=>some Yv
 | 41=>some Yw
 | 42=>some Yx
 | 43=>some Yy
 | 44=>some Yz
 | 45=>some YA
 | 46=>some YB
 | 47=>some YC
 | 48=>some YD
 | 49=>some Oh
 | 50=>some Oi
 | 51=>some Oj
 | 52=>some Ok
 | 53=>some Ol
 | 54=>some Om
 | 55=>some On
 | 56=>some Oo
 | 57=>some Oq
 | 58=>some Ot
 | 59=>some Ou
 | 60=>some Ov
 | 61=>some Ow
 | 62=>some Ox
 | 65=>some Oy
 | 66=>some Oz
 | 67=>some OA
 | 69=>some OB
 | 71=>some OC
 | 72=>some OD
 | 73=>some OE
 | 74=>some OF
 | 75=>some OG
 | 76=>some YE
 | 77=>some YF
 | 78=>some YG
 | 79=>some YH
 | 80=>some YI
 | 81=>some YJ
 | 82=>some YK
 | 83=>some YL
 | 84=>some YM
 | 85=>some YN
 | 86=>some OH
 | 87=>some OI
 | 88=>some OJ
 | 89=>some OK
 | 90=>some OL
 | 91=>some OM
 | 92=>some ON
 | 93=>some OO
 | 94=>some OP
 | 95=>some OQ
 | 96=>some OR
 | 97=>some OS
 | 98=>some OT
 | 104=>some Kb
 | 105=>some Kc
 | 106=>some Kd
 | 107=>some O4
 | 108=>some Pd
 | 109=>some Ke
 | 110=>some Kf
 | 111=>some Kg
 | 112=>some Kh
 | 115=>some Pu
 | 116=>some Ki
 | 121=>some Kj
 | 122=>some Kk
 | 128=>some Kl
 | 129=>some Km
 | 130=>some Kn
 | 131=>some Ko
 | 132=>some Kp
 | _=>none
theorem G3:G 3=some c3:=rfl
theorem G4:G 4=some c4:=rfl
theorem G5:G 5=some c5:=rfl
theorem G6:G 6=some c6:=rfl
theorem G8:G 8=some c8:=rfl
theorem G9:G 9=some c9:=rfl
theorem ZV:G 10=some NV:=rfl
theorem ZW:G 11=some NW:=rfl
theorem ZX:G 13=some ob:=rfl
theorem ZY:G 14=some NX:=rfl
theorem ZZ:G 15=some Ai:=rfl
theorem Z1:G 16=some Dn:=rfl
theorem Z2:G 17=some NY:=rfl
theorem Z3:G 18=some NZ:=rfl
theorem Z4:G 19=some N0:=rfl
theorem Z5:G 22=some N1:=rfl
theorem Z6:G 23=some N2:=rfl
theorem Z7:G 24=some N3:=rfl
theorem Z8:G 25=some N4:=rfl
theorem Z9:G 26=some N5:=rfl
theorem G28:G 28=some N6:=rfl
theorem G29:G 29=some N7:=rfl
theorem G30:G 30=some N8:=rfl
theorem G32:G 32=some N9:=rfl
theorem G33:G 33=some Oa:=rfl
theorem G34:G 34=some Ob:=rfl
theorem G35:G 35=some Oc:=rfl
theorem G36:G 36=some Od:=rfl
theorem G37:G 37=some Oe:=rfl
theorem G38:G 38=some Of:=rfl
theorem G39:G 39=some Og:=rfl
theorem YO:G 49=some Oh:=rfl
theorem G50:G 50=some Oi:=rfl
theorem G51:G 51=some Oj:=rfl
theorem G52:G 52=some Ok:=rfl
theorem G53:G 53=some Ol:=rfl
theorem G54:G 54=some Om:=rfl
theorem G55:G 55=some On:=rfl
theorem G56:G 56=some Oo:=rfl
theorem G57:G 57=some Oq:=rfl
theorem YP:G 58=some Ot:=rfl
theorem G59:G 59=some Ou:=rfl
theorem G60:G 60=some Ov:=rfl
theorem G61:G 61=some Ow:=rfl
theorem G62:G 62=some Ox:=rfl
theorem G65:G 65=some Oy:=rfl
theorem G66:G 66=some Oz:=rfl
theorem G67:G 67=some OA:=rfl
theorem G69:G 69=some OB:=rfl
theorem G71:G 71=some OC:=rfl
theorem G72:G 72=some OD:=rfl
theorem G73:G 73=some OE:=rfl
theorem G74:G 74=some OF:=rfl
theorem G75:G 75=some OG:=rfl
theorem YQ:G 86=some OH:=rfl
theorem PS:G 87=some OI:=rfl
theorem G88:G 88=some OJ:=rfl
theorem G89:G 89=some OK:=rfl
theorem G90:G 90=some OL:=rfl
theorem G91:G 91=some OM:=rfl
theorem G92:G 92=some ON:=rfl
theorem G93:G 93=some OO:=rfl
theorem G94:G 94=some OP:=rfl
theorem G95:G 95=some OQ:=rfl
theorem YR:G 96=some OR:=rfl
theorem G97:G 97=some OS:=rfl
theorem G98:G 98=some OT:=rfl
theorem Zn:G 104=some Kb:=rfl
theorem Zo:G 105=some Kc:=rfl
theorem Zp:G 106=some Kd:=rfl
theorem Kq:G 109=some Ke:=rfl
theorem Zq:G 110=some Kf:=rfl
theorem Zr:G 111=some Kg:=rfl
theorem Zs:G 112=some Kh:=rfl
theorem Zt:G 116=some Ki:=rfl
theorem Zu:G 121=some Kj:=rfl
theorem Zv:G 122=some Kk:=rfl
theorem Zw:G 128=some Kl:=rfl
theorem Zx:G 129=some Km:=rfl
theorem PT:G 130=some Kn:=rfl
theorem Zy:G 131=some Ko:=rfl
theorem Zz:G 132=some Kp:=rfl
end Go.Proofs.YtogbakbmphadfaaGreatDoor.A
