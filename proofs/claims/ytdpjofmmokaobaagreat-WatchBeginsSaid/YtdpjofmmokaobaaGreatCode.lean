/- The abstract code of the functions, made by program. -/
import Derived.Test.YtdpjofmmokaobaaGreatAbsO
set_option maxRecDepth 100000
set_option linter.unusedSectionVars false
set_option linter.unusedVariables false
set_option linter.unusedSimpArgs false
set_option linter.constructorNameAsVariable false
namespace Go.Proofs.YtdpjofmmokaobaaGreat.A
open Go
abbrev gp(d:Nat)(x:mS):dM:=⟨some d,x,none,false⟩
abbrev gg(d:Nat)(x:mS)(j:Nat)(b:Bool):dM:=⟨some d,x,some (j,b),false⟩
abbrev gz(d:Nat)(x:mS):dM:=⟨some d,x,none,true⟩
abbrev gS(n:Nat)(x y:bj):dM:=⟨none,.st n x y,none,false⟩
abbrev gM(d:Nat)(x:bj):dM:=gp d (.mv x)
abbrev gQ(d:Nat)(x:bj):dM:=gp d (.ld none x)
abbrev gF(d n:Nat)(x:bj):dM:=gp d (.fa n x)
abbrev gA(d:Nat)(x:bj):dM:=gp d (.as x)
abbrev gB(d:Nat)(o:BinOp)(x y:bj):dM:=gp d (.bo o false x y)
abbrev gL(g:dM)(vw nk:List Nat):bQ:=⟨g,true,vw,[],false,[],nk,[]⟩
abbrev gV(g:dM)(vw vb nk:List Nat):bQ:=⟨g,true,vw,vb,false,[],nk,[]⟩
abbrev gH(g:dM):bQ:=⟨g,false,[],[],false,[],[],[]⟩
instance (n:Nat):OfNat bj n:=⟨.t n⟩
abbrev kI(n:Int):bj:=.c (.i .i64 n)
def YZ:AC:=(.sq (.rg [] [gF 50 0 7,gQ 51 50,gF 52 0 10,gQ 53 52,gp 54 (.ca 0 18 [51,53]),gM 55 54,gg 56 (.fa 3 7) 55 true,gg 57 (.ld none 56) 55 true,gg 58 (.fa 3 10) 55 true,gg 59 (.ld none 58) 55 true,gg 60 (.bo .leq false 57 59) 55 true,gp 61 (.pk 55 60 (.c (.b false))),gA 6 61] [6] []) .rt)
def Y0:AC:=.kp [7,10] [7,10] YZ
def Y1:AC:=(.sq (.sq (.rg [] [gF 44 4 7,gQ 45 44,gB 46 .neq 45 (kI 3)] [7,10,46] [7,10]) (.ite 46 (.sq (.rg [] [gp 47 (.ld (some 6) 7),gp 48 (.ld (some 6) 10),gp 49 (.ca 0 17 [47,48]),gA 6 49] [6] []) .rt) .sk)) Y0)
def Y2:AC:=.kp [7,10] [7,10] Y1
def Y3:AC:=(.sq (.sq (.rg [] [gM 38 9,gB 39 .neq 38 (kI 0)] [7,10,39] [7,10]) (.ite 39 (.sq (.rg [] [gF 40 0 7,gQ 41 40,gp 42 (.ln false 41),gB 43 .eql 42 (kI 0),gA 6 43] [6] []) .rt) .sk)) Y2)
def Y4:AC:=.kp [7,9,10] [7,10] Y3
def c5:bE:=⟨(.sq (.rg [] [gp 3 (.bx 0),gA 6 (.c (.b false))] [1,2,3] [3]) (.sq (.rg [] [gp 13 (.ld (some 8) 3),gM 14 1,gM 15 2,gp 16 (.ca 0 6 [13,14,15]),gM 12 16,gp 17 (.ex 12 0),gp 18 (.ex 12 1),gp 19 (.ex 12 2),gp 7 (.al [(.l 106 []),(.l 3 []),(.l 3 []),(.i .i64 0),(.i .i64 0),(.i .i64 0)]),gS 6 7 17,gA 8 18,gA 9 19] [1,2,3,7,9] [3,7]) (.sq (.rg [] [gp 21 (.ld (some 8) 3),gM 22 1,gM 23 2,gp 24 (.ca 0 15 [21,22,23]),gM 20 24,gp 25 (.ex 20 0),gp 26 (.ex 20 1),gp 10 (.al [(.l 106 []),(.l 3 []),(.l 3 []),(.i .i64 0),(.i .i64 0),(.i .i64 0)]),gS 6 10 25,gA 11 26] [7,9,10,11] [7,10]) (.sq (.sq (.rg [] [gp 27 (.ca 0 9 []),gp 28 (.no 27),gM 29 28,gg 30 (.ca 0 16 []) 29 false,gg 31 (.no 30) 29 false,gp 32 (.pk 29 (.c (.b true)) 31),gM 33 32,gg 34 (.mv 9) 33 false,gg 35 (.mv 11) 33 false,gg 36 (.bo .neq false 34 35) 33 false,gp 37 (.pk 33 (.c (.b true)) 36)] [7,9,10,37] [7,10]) (.ite 37 (.sq (.rg [] [gA 6 (.c (.b false))] [6] []) .rt) .sk)) Y4)))),[.t 6]⟩
def Y5:AC:=(.sq (.bl 1 (.dg [] [48,49] [gL (gM 40 10) [10] [48,49],gL (gM 41 10) [10] [48,49],gL (gp 42 (.nc 41)) [41] [48,49],gL (gF 43 9 42) [42] [48,49],gV (gQ 44 43) [43] [25,32,34] [48,49],gL (gF 45 0 3) [3] [48,49],gV (gp 46 (.ld (some 2) 45)) [45] [3] [48,49],gL (gp 47 (.ca 0 21 [46])) [46] [48,49],gL (gz 48 (.bs 54 2 [47])) [47] [49],⟨gp 49 (.ap 54 2 48 44 48),true,[44,48],[34],false,[44,44],[],[]⟩,gH (gp 50 (.nc 40)),gH (gF 51 9 50),gH (gS 1 51 49)] [3,6,10,25,37,38] [3,6,25,32,34])) (.rg [] [gB 52 .add 38 (kI 1),gM 38 52] [3,6,10,25,37,38] [3,6,25,32,34]))
def Y6:AC:=.kp [3,6,10,25,37,38] [3,6,25,32,34] Y5
def Y7:AC:=(.sq (.rg [] [gB 39 .lss 38 37] [3,6,10,25,37,38,39] [3,6,25,32,34]) (.sq (.ite 39 .sk (.ex 0)) Y6))
def PS:bY:=⟨[3,6,10,25,37,38],[3,6,25,32,34],Y7⟩
def Y8:AC:=(.sq (.bl 3 (.sq (.rg [] [gp 79 (.ia 2 none 75 77),gp 80 (.ld (some 2) 79),gp 13 (.al [(.l 4 []),(.l 4 [])]),gS 2 13 80] [6,10,11,13,25,75,76,77] [6,13,25,32,34]) (.rg [] [gM 81 11,gp 82 (.ld (some 2) 13),gp 83 (.ca 0 25 [82]),gz 84 (.bs 54 2 [83]),gp 85 (.ap 54 2 48 81 84),gA 11 85] [6,10,11,25,75,76,77] [6,25,32,34]))) (.rg [] [gB 86 .add 77 (kI 1),gM 77 86] [6,10,11,25,75,76,77] [6,25,32,34]))
def Y9:AC:=.kp [6,10,11,25,75,76,77] [6,25,32,34] Y8
def Za:AC:=(.sq (.rg [] [gB 78 .lss 77 76] [6,10,11,25,75,76,77,78] [6,25,32,34]) (.sq (.ite 78 .sk (.ex 2)) Y9))
def PT:bY:=⟨[6,10,11,25,75,76,77],[6,25,32,34],Za⟩
def Zb:AC:=(.sq (.rg [.fzC 25 11,.fzC 25 12,.fzC 25 13] [gM 87 10,gp 88 (.nc 87),gF 89 0 88,gQ 90 89,gp 91 (.nc 90),gF 92 11 91,gp 93 (.ld (some 6) 92),gM 94 11,gS 6 6 93,gA 7 94,gA 8 (kI 0)] [6,7,8,11] [6]) .rt)
def Zc:AC:=.kp [6,10,11,25] [6,25,32,34] Zb
def PU:AC:=(.sq (.rg [] [gA 11 (.c .n)] [6,10,11,25] [6,25,32,34]) (.sq (.sq (.rg [.own 11 54] [gM 72 10,gp 73 (.nc 72),gF 74 9 73,gQ 75 74,gp 76 (.ln false 75),gM 77 (kI 0)] [6,10,11,25,75,76,77] [6,25,32,34]) (.bl 2 PT.lp)) Zc))
def Zd:AC:=.kp [6,10,25] [6,25,32,34] PU
def Ze:AC:=(.sq (.sq (.dg [] [] [gL (gM 53 10) [10] [],gL (gF 54 7 3) [3] [],gV (gQ 55 54) [54] [3] [],gL (gM 56 10) [10] [],gL (gp 57 (.nc 56)) [56] [],gL (gF 58 0 57) [57] [],gV (gQ 59 58) [58] [25,32,34] [],gL (gF 60 6 3) [3] [],gV (gQ 61 60) [60] [3] [],gV (gp 62 (.ln false 61)) [61] [3] [],⟨gp 63 (.c3 24 [59,62]),true,[59,62],[25,32,34],true,[],[],[]⟩,gH (gp 64 (.c2 23 [53,55,63]))] [6,10,25,64] [6,25,32,34]) (.ite 64 (.rg [] [gM 65 10,gp 66 (.nc 65),gF 67 0 66,gQ 68 67,gp 69 (.nc 68),gF 70 11 69,gF 71 4 70,gS 1 71 (kI 1)] [6,10,25] [6,25,32,34]) .sk)) Zd)
def Zf:AC:=.kp [3,6,10,25] [3,6,25,32,34] Ze
def Zg:AC:=(.sq (.dg [] [25,30,32] [gV (gp 22 (.ld (some 8) 3)) [3] [3] [25,30,32],gL (gM 23 1) [1] [25,30,32],gL (gM 24 2) [2] [25,30,32],gL (gp 25 (.ck 20 [22,23,24])) [22,23,24] [30,32],gV (gp 26 (.ld (some 8) 3)) [3] [3] [25,30,32],gL (gF 27 0 3) [3] [25,30,32],gV (gp 28 (.ld (some 2) 27)) [27] [3] [25,30,32],gL (gp 29 (.ca 0 21 [28])) [28] [30,32],gL (gp 30 (.bs 54 2 [29])) [29] [32],gV (gp 31 (.ld (some 8) 3)) [3] [3] [25,30,32],gL (gp 32 (.ck 22 [31])) [31] [30],gH (gp 33 (.bg [.z,(.i .i64 0),(.l 136 []),(.l 3 []),(.l 49 []),(.l 49 []),(.l 51 []),(.l 112 []),(.l 88 []),.n,.n,.z] [(0,1,25),(1,8,26),(10,1,30),(11,1,32)])),gH (gp 34 (.bxg 33)),gH (gA 10 34)] [3,6,10,25] [3,6,25,32,34]) (.sq (.sq (.rg [.ownC 10 9 54,.ownC 10 10 54] [gF 35 5 3,gQ 36 35,gp 37 (.ln false 36),gM 38 (kI 0)] [3,6,10,25,37,38] [3,6,25,32,34]) (.bl 0 PS.lp)) Zf))
def Zh:AC:=.kp [1,2,3,6] [3,6] Zg
def c6:bE:=⟨(.sq (.rg [] [gp 3 (.bx 0),gp 6 (.al [(.l 106 []),(.l 3 []),(.l 3 []),(.i .i64 0),(.i .i64 0),(.i .i64 0)]),gA 7 (.c (.l 54 [])),gA 8 (kI 0)] [1,2,3,6] [3,6]) (.sq (.sq (.rg [] [gp 14 (.ld (some 8) 3),gM 15 1,gM 16 2,gp 17 (.ca 0 19 [14,15,16]),gA 9 17] [1,2,3,6,9] [3,6]) (.sq (.rg [] [gM 18 9,gB 19 .neq 18 (kI 0)] [1,2,3,6,9,19] [3,6]) (.ite 19 (.sq (.rg [] [gp 20 (.bd [(.l 106 []),(.l 3 []),(.l 3 []),(.i .i64 0),(.i .i64 0),(.i .i64 0)] []),gM 21 9,gS 6 6 20,gA 7 (.c (.l 54 [])),gA 8 21] [6,7,8,11] [6]) .rt) .sk))) Zh)),[.c 6 (some 6),.t 7,.t 8]⟩
def c9:bE:=⟨(.sq (.rg [] [gA 0 (.c (.b false))] [] []) (.sq (.rg [] [gp 8 (.ca 0 34 []),gz 9 (.bs 3 1 [(kI 7)]),gz 10 (.bs 25 1 [9]),gp 11 (.ca 0 6 [8,10,(kI 9)]),gM 7 11,gp 12 (.ex 7 0),gp 13 (.ex 7 1),gp 14 (.ex 7 2),gp 1 (.al [(.l 106 []),(.l 3 []),(.l 3 []),(.i .i64 0),(.i .i64 0),(.i .i64 0)]),gS 6 1 12,gA 2 13,gA 3 14] [1,2,3] [1]) (.sq (.rg [] [gp 16 (.ca 1 35 []),gz 17 (.bs 3 1 [(kI 7)]),gz 18 (.bs 25 1 [17]),gp 19 (.ca 0 6 [16,18,(kI 9)]),gM 15 19,gp 20 (.ex 15 0),gp 21 (.ex 15 1),gp 22 (.ex 15 2),gp 4 (.al [(.l 106 []),(.l 3 []),(.l 3 []),(.i .i64 0),(.i .i64 0),(.i .i64 0)]),gS 6 4 20,gA 5 21,gA 6 22] [1,2,3,4,6] [1,4]) (.sq (.rg [] [gM 23 3,gB 24 .eql 23 (kI 0),gM 25 24,gg 26 (.mv 6) 25 true,gg 27 (.bo .eql false 26 (kI 0)) 25 true,gp 28 (.pk 25 27 (.c (.b false))),gM 29 28,gg 30 (.fa 4 1) 29 true,gg 31 (.ld none 30) 29 true,gg 32 (.bo .eql false 31 (kI 1)) 29 true,gp 33 (.pk 29 32 (.c (.b false))),gM 34 33,gg 35 (.fa 0 1) 34 true,gg 36 (.ld none 35) 34 true,gg 37 (.ln false 36) 34 true,gg 38 (.bo .eql false 37 (kI 1)) 34 true,gp 39 (.pk 34 38 (.c (.b false))),gM 40 39,gg 41 (.mv 2) 40 true,gg 42 (.ln false 41) 40 true,gg 43 (.bo .eql false 42 (kI 1)) 40 true,gp 44 (.pk 40 43 (.c (.b false))),gM 45 44,gg 46 (.mv 2) 45 true,gg 47 (.ia 2 none 46 (kI 0)) 45 true,gg 48 (.fa 1 47) 45 true,gg 49 (.ld none 48) 45 true,⟨some 50,.bs 4 1 [(.c (.b true))],(some (45,true)),true⟩,gg 51 (.ca 0 36 [49,50]) 45 true,gp 52 (.pk 45 51 (.c (.b false))),gM 53 52,gg 54 (.fa 4 4) 53 true,gg 55 (.ld none 54) 53 true,gg 56 (.bo .eql false 55 (kI 3)) 53 true,gp 57 (.pk 53 56 (.c (.b false))),gM 58 57,gg 59 (.fa 5 4) 58 true,gg 60 (.ld none 59) 58 true,gg 61 (.bo .eql false 60 (kI 1)) 58 true,gp 62 (.pk 58 61 (.c (.b false))),gM 63 62,gg 64 (.fa 0 4) 63 true,gg 65 (.ld none 64) 63 true,gg 66 (.ln false 65) 63 true,gg 67 (.bo .eql false 66 (kI 0)) 63 true,gp 68 (.pk 63 67 (.c (.b false))),gA 0 68] [0] []) .rt)))),[.t 0]⟩
def U8:AC:=(.sq (.rg [] [gp 17 (.ld (some 8) 3),gM 18 1,gM 19 2,gp 20 (.cn 20 [17,18,19]),gp 21 (.c2 47 [20]),gS 6 6 21,gA 7 (kI 0)] [6,7] [6]) .rt)
def U9:AC:=.kp [1,2,3,6] [3,6] U8
def PV:bE:=⟨(.sq (.rg [] [gp 3 (.bx 0),gp 6 (.al [(.l 106 []),(.l 3 []),(.l 3 []),(.i .i64 0),(.i .i64 0),(.i .i64 0)]),gA 7 (kI 0)] [1,2,3,6] [3,6]) (.sq (.sq (.rg [] [gp 9 (.ld (some 8) 3),gM 10 1,gM 11 2,gp 12 (.ca 0 19 [9,10,11]),gA 8 12] [1,2,3,6,8] [3,6]) (.sq (.rg [] [gM 13 8,gB 14 .neq 13 (kI 0)] [1,2,3,6,8,14] [3,6]) (.ite 14 (.sq (.rg [] [gp 15 (.bd [(.l 106 []),(.l 3 []),(.l 3 []),(.i .i64 0),(.i .i64 0),(.i .i64 0)] []),gM 16 8,gS 6 6 15,gA 7 16] [6,7] [6]) .rt) .sk))) U9)),[.c 6 (some 6),.t 7]⟩
def YI:bE:=⟨(.sq (.rg [] [gA 0 (.c (.b false))] [] []) (.sq (.rg [] [gp 6 (.ca 0 34 []),gz 7 (.bs 3 1 [(kI 7)]),gz 8 (.bs 25 1 [7]),gp 9 (.ca 0 15 [6,8,(kI 9)]),gM 5 9,gp 10 (.ex 5 0),gp 11 (.ex 5 1),gp 1 (.al [(.l 106 []),(.l 3 []),(.l 3 []),(.i .i64 0),(.i .i64 0),(.i .i64 0)]),gS 6 1 10,gA 2 11] [1,2] [1]) (.sq (.rg [] [gp 13 (.bd [(.i .i64 0),(.i .i64 0),(.l 86 [])] [(0,1,(kI 1)),(1,1,(kI 4))]),gp 14 (.ca 0 48 [13,(.c (.l 3 []))]),gM 12 14,gp 15 (.ex 12 0),gp 16 (.ex 12 1),gA 3 15,gA 4 16] [1,2,3,4] [1]) (.sq (.rg [] [gM 17 2,gB 18 .eql 17 (kI 0),gM 19 18,gg 20 (.mv 4) 19 true,gg 21 (.bo .eql false 20 (kI 0)) 19 true,gp 22 (.pk 19 21 (.c (.b false))),gM 23 22,gg 24 (.mv 3) 23 true,gg 25 (.bo .eql false 24 (kI 4)) 23 true,gp 26 (.pk 23 25 (.c (.b false))),gM 27 26,gg 28 (.fa 4 1) 27 true,gg 29 (.ld none 28) 27 true,gg 30 (.bo .eql false 29 (kI 1)) 27 true,gp 31 (.pk 27 30 (.c (.b false))),gM 32 31,gg 33 (.fa 3 1) 32 true,gg 34 (.ld none 33) 32 true,gg 35 (.bo .eql false 34 (kI 2)) 32 true,gp 36 (.pk 32 35 (.c (.b false))),gM 37 36,gg 38 (.fa 0 1) 37 true,gg 39 (.ld none 38) 37 true,gg 40 (.ln false 39) 37 true,gg 41 (.bo .eql false 40 (kI 1)) 37 true,gp 42 (.pk 37 41 (.c (.b false))),gM 43 42,gg 44 (.fa 0 1) 43 true,gg 45 (.ld none 44) 43 true,gg 46 (.ia 4 none 45 (kI 0)) 43 true,gg 47 (.ld (some 4) 46) 43 true,gg 48 (.bd [(.i .i64 0),(.i .i64 0),(.i .i64 0),(.i .i64 0)] [(0,1,(kI 1)),(1,1,(kI 1)),(3,1,(kI 7))]) 43 true,gg 49 (.ae [1,1,1,1] false 47 48) 43 true,gp 50 (.pk 43 49 (.c (.b false))),gM 51 50,gg 52 (.fa 2 1) 51 true,gg 53 (.ld none 52) 51 true,⟨some 54,.bs 3 1 [(kI 1)],(some (51,true)),true⟩,gg 55 (.ca 0 49 [53,54]) 51 true,gp 56 (.pk 51 55 (.c (.b false))),gA 0 56] [0] []) .rt)))),[.t 0]⟩
def PW:bE:=⟨(.sq (.rg [] [gp 2 (.bx 0),gp 3 (.bx 1),gA 4 (.c (.b false))] [2,3] [2,3]) (.sq (.rg [] [gF 5 0 2,gQ 6 5,gF 7 0 3,gQ 8 7,gp 9 (.ca 0 50 [6,8]),gM 10 9,gg 11 (.fa 1 2) 10 true,gg 12 (.ld none 11) 10 true,gg 13 (.fa 1 3) 10 true,gg 14 (.ld none 13) 10 true,gg 15 (.ca 0 49 [12,14]) 10 true,gp 16 (.pk 10 15 (.c (.b false))),gM 17 16,gg 18 (.fa 2 2) 17 true,gg 19 (.ld none 18) 17 true,gg 20 (.fa 2 3) 17 true,gg 21 (.ld none 20) 17 true,gg 22 (.ca 0 49 [19,21]) 17 true,gp 23 (.pk 17 22 (.c (.b false))),gM 24 23,gg 25 (.fa 3 2) 24 true,gg 26 (.ld none 25) 24 true,gg 27 (.fa 3 3) 24 true,gg 28 (.ld none 27) 24 true,gg 29 (.bo .eql false 26 28) 24 true,gp 30 (.pk 24 29 (.c (.b false))),gM 31 30,gg 32 (.fa 4 2) 31 true,gg 33 (.ld none 32) 31 true,gg 34 (.fa 4 3) 31 true,gg 35 (.ld none 34) 31 true,gg 36 (.bo .eql false 33 35) 31 true,gp 37 (.pk 31 36 (.c (.b false))),gM 38 37,gg 39 (.fa 5 2) 38 true,gg 40 (.ld none 39) 38 true,gg 41 (.fa 5 3) 38 true,gg 42 (.ld none 41) 38 true,gg 43 (.bo .eql false 40 42) 38 true,gp 44 (.pk 38 43 (.c (.b false))),gA 4 44] [4] []) .rt)),[.t 4]⟩
def PX:bE:=⟨(.sq (.rg [] [gA 4 (.c (.b false))] [0,1] []) (.sq (.rg [] [gM 5 0,gp 6 (.ln false 5),gM 7 1,gp 8 (.ln false 7),gB 9 .leq 6 8,gM 10 9,gg 11 (.mv 0) 10 true,gg 12 (.mv 1) 10 true,gg 13 (.mv 0) 10 true,gg 14 (.ln false 13) 10 true,gg 15 (.sl 106 4 12 none (some 14)) 10 true,gg 16 (.ca 0 50 [11,15]) 10 true,gp 17 (.pk 10 16 (.c (.b false))),gA 4 17] [4] []) .rt)),[.t 4]⟩
def Va:AC:=(.sq (.bl 0 (.sq (.rg [] [gM 14 1,gp 15 (.ln false 14),gF 16 3 3,gQ 17 16,gp 18 (.ln false 17),gB 19 .neq 15 18,gA 13 19] [1,2,13] []) (.ite 13 (.sq (.rg [] [gA 6 (kI 1)] [6] []) .rt) (.sq (.rg [] [gM 21 1,gp 22 (.c2 52 [21,(.c (.f 53 []))]),gA 20 22] [1,2,20] []) (.ite 20 (.sq (.rg [] [gA 6 (kI 2)] [6] []) .rt) (.sq (.rg [] [gM 24 1,gp 25 (.c2 52 [24,(.c (.f 54 []))]),gM 26 25,gg 27 (.mv 2) 26 false,gg 28 (.bo .lss false 27 (kI 0)) 26 false,gp 29 (.pk 26 (.c (.b true)) 28),gM 30 29,gg 31 (.mv 2) 30 false,gg 32 (.bo .gtr false 31 (kI 2000)) 30 false,gp 33 (.pk 30 (.c (.b true)) 32),gA 23 33] [23] []) (.ite 23 (.sq (.rg [] [gA 6 (kI 3)] [6] []) .rt) .sk))))))) (.sq (.rg [] [gA 6 (kI 0)] [6] []) .rt))
def Vb:AC:=.kp [1,2,3] [3] Va
def PY:bE:=⟨(.sq (.rg [] [gp 3 (.bx 0),gA 6 (kI 0)] [1,2,3] [3]) (.sq (.sq (.rg [] [gp 8 (.ld (some 8) 3),gp 9 (.ca 0 51 [8]),gA 7 9] [1,2,3,7] [3]) (.sq (.rg [] [gM 10 7,gB 11 .neq 10 (kI 0)] [1,2,3,7,11] [3]) (.ite 11 (.sq (.rg [] [gM 12 7,gA 6 12] [6] []) .rt) .sk))) Vb)),[.t 6]⟩
def Vc:AC:=(.sq (.bl 1 (.sq (.rg [] [gp 37 (.ia 5 none 33 35),gp 38 (.ld (some 5) 37),gp 10 (.al [(.l 3 []),(.l 88 []),(.i .i64 0),(.i .i64 0),(.l 86 [])]),gS 5 10 38] [7,8,10,33,34,35] [10,15]) (.sq (.rg [] [gM 39 7,gM 40 7,gp 41 (.nc 40),gF 42 10 41,gQ 43 42,gM 44 8,gz 45 (.bs 3 1 [44]),gp 46 (.ap 3 1 8 43 45),gp 47 (.nc 39),gF 48 10 47,gS 1 48 46] [7,8,10,33,34,35] [10,15]) (.rg [] [gM 49 8,gF 50 1 10,gQ 51 50,gp 52 (.ca 0 58 [51]),gB 53 .add 49 52,gA 8 53] [7,8,33,34,35] [15])))) (.rg [] [gB 54 .add 35 (kI 1),gM 35 54] [7,8,33,34,35] [15]))
def Vd:AC:=.kp [7,8,33,34,35] [15] Vc
def Ve:AC:=(.sq (.rg [] [gB 36 .lss 35 34] [7,8,33,34,35,36] [15]) (.sq (.ite 36 .sk (.ex 0)) Vd))
def NF:bY:=⟨[7,8,33,34,35],[15],Ve⟩
def Vf:AC:=(.sq (.rg [] [gM 55 7,gM 56 7,gp 57 (.nc 56),gF 58 10 57,gQ 59 58,gM 60 8,gz 61 (.bs 3 1 [60]),gp 62 (.ap 3 1 8 59 61),gp 63 (.nc 55),gF 64 10 63,gS 1 64 62] [7] [15]) (.sq (.rg [] [gM 65 7,gA 6 65] [6] [15]) .rt))
def Vg:AC:=.kp [7,8] [15] Vf
def PZ:bE:=⟨(.sq (.rg [] [gp 3 (.bx 0),gA 6 (.c .z)] [1,2,3] [3]) (.sq (.rg [] [gp 11 (.ld (some 8) 3),gM 12 1,gM 13 2,gp 14 (.bd [(.i .i64 0),(.l 136 []),(.l 3 []),(.l 49 []),(.l 49 []),(.l 51 []),(.l 112 []),(.l 88 []),(.l 25 []),(.i .i64 0),.n,.n,.n,.n,(.i .i64 0),(.i .i64 0),(.i .i64 0)] [(0,8,11),(8,1,12),(9,1,13)]),gp 15 (.bx 14),gA 7 15] [3,7] [3,15]) (.sq (.dg [.ownC 7 10 3,.ownC 7 11 106,.ownC 7 12 3,.ownC 7 13 3] [21,25] [⟨gM 16 7,true,[7],[],false,[],[21,25],[15]⟩,⟨gM 17 7,true,[7],[],false,[],[21,25],[15]⟩,⟨gF 18 5 3,true,[3],[],false,[],[21,25],[15]⟩,⟨gQ 19 18,true,[18],[3],false,[],[21,25],[15]⟩,⟨gp 20 (.ln false 19),true,[19],[3],false,[],[21,25],[15]⟩,⟨gp 21 (.ms 3 1 8 (.i .i64 0) 20),true,[20],[],false,[],[25],[15]⟩,⟨gF 22 3 3,true,[3],[],false,[],[21,25],[15]⟩,⟨gQ 23 22,true,[22],[3],false,[],[21,25],[15]⟩,⟨gp 24 (.ln false 23),true,[23],[3],false,[],[21,25],[15]⟩,⟨gp 25 (.ms 3 1 8 (.i .i64 0) 24),true,[24],[],false,[],[21],[15]⟩,⟨gp 26 (.nc 16),true,[16],[],false,[],[25],[15]⟩,⟨gF 27 11 26,true,[26],[],false,[],[25],[15]⟩,⟨gF 28 1 27,true,[27],[],false,[],[25],[15]⟩,⟨gS 1 28 21,true,[28,21],[15],false,[21],[25],[]⟩,gH (gp 29 (.nc 17)),gH (gF 30 11 29),gH (gF 31 2 30),gH (gS 1 31 25)] [3,7] [3,15]) (.sq (.rg [] [gA 8 (kI 0)] [3,7,8] [3,15]) (.sq (.sq (.rg [] [gF 32 6 3,gQ 33 32,gp 34 (.ln false 33),gM 35 (kI 0)] [7,8,33,34,35] [15]) (.bl 0 NF.lp)) Vg))))),[.t 6]⟩
def P0:bE:=⟨(.sq (.rg [] [gp 1 (.bx 0),gp 2 (.al [(.l 4 []),(.l 4 [])])] [1,2] [1,2]) (.sq (.dg [] [3,9] [gL (gz 3 (.bs 4 1 [(.c (.b true))])) [] [9],gL (gF 4 0 1) [1] [3,9],gV (gQ 5 4) [4] [1] [3,9],gL (gp 6 (.ca 1 59 [3,5])) [3,5] [9],gL (gF 7 0 1) [1] [3,9],gV (gQ 8 7) [7] [1] [3,9],gL (gz 9 (.ms 4 1 1 (.b false) 8)) [8] [3],gH (gp 10 (.bd [(.l 4 []),(.l 4 [])] [(0,1,6),(1,1,9)])),gH (gS 2 2 10)] [2] [2]) .rt)),[.c 2 (some 2)]⟩
def P1:bE:=⟨(.sq (.rg [] [gp 1 (.bx 0),gA 2 (.c .z)] [1] [1]) (.sq (.dg [] [] [gV (gp 3 (.ld (some 8) 1)) [1] [1] [],gL (gF 4 0 1) [1] [],gV (gp 5 (.ld (some 2) 4)) [4] [1] [],gL (gp 6 (.ca 0 60 [5])) [5] [],gH (gp 7 (.bd [(.i .i64 0),(.l 136 []),(.l 3 []),(.l 49 []),(.l 49 []),(.l 51 []),(.l 112 []),(.l 88 []),(.l 52 [])] [(0,8,3),(8,1,6)])),gH (gp 8 (.bx 7)),gH (gA 2 8)] [2] [8]) .rt)),[.t 2]⟩
def Vh:AC:=(.dg [] [] [gL (gM 20 2) [2] [],gL (gF 21 7 8) [8] [],gV (gQ 22 21) [21] [8] [],gV (gp 23 (.ca 0 58 [22])) [22] [8] [],gL (gB 24 .add (kI 1) 23) [23] [],gL (gF 25 8 8) [8] [],gV (gQ 26 25) [25] [8] [],gV (gp 27 (.ca 0 58 [26])) [26] [8] [],gL (gB 28 .add 24 27) [24,27] [],gH (gB 29 .add 20 28),gH (gA 2 29)] [0,2,9,10,11] [0])
def Vi:AC:=.kp [0,2,8,9,10,11] [0,8] Vh
def Vj:AC:=(.sq (.bl 1 (.sq (.rg [] [gp 13 (.ia 9 none 9 11),gp 14 (.ld (some 9) 13),gp 8 (.al [(.i .i64 0),(.i .i64 0),(.i .i64 0),(.i .i64 0),(.i .i64 0),(.l 86 []),(.l 86 []),(.l 88 []),(.l 88 [])]),gS 9 8 14] [0,2,8,9,10,11] [0,8]) (.sq (.sq (.rg [] [gM 15 0,gp 16 (.ld (some 9) 8),gM 17 2,gp 18 (.c2 61 [15,16,17]),gp 19 (.no 18)] [0,2,8,9,10,11,19] [0,8]) (.ite 19 (.sq (.rg [] [gA 6 (.c (.b false))] [6] []) .rt) .sk)) Vi))) (.rg [] [gB 30 .add 11 (kI 1),gM 11 30] [0,2,9,10,11] [0]))
def Vk:AC:=.kp [0,2,9,10,11] [0] Vj
def Vl:AC:=(.sq (.rg [] [gB 12 .lss 11 10] [0,2,9,10,11,12] [0]) (.sq (.ite 12 .sk (.ex 0)) Vk))
def NG:bY:=⟨[0,2,9,10,11],[0],Vl⟩
def P2:bE:=⟨(.sq (.rg [] [gA 6 (.c (.b false))] [0,1,2] [0]) (.sq (.sq (.rg [] [gM 9 1,gp 10 (.ln false 9),gM 11 (kI 0)] [0,2,9,10,11] [0]) (.bl 0 NG.lp)) (.sq (.rg [] [gA 6 (.c (.b true))] [6] []) .rt))),[.t 6]⟩
def P3:bE:=⟨(.sq (.rg [] [gA 4 (kI 0)] [0,1] [0]) (.sq (.rg [] [gM 5 0,gp 6 (.nc 5),gF 7 10 6,gQ 8 7,gM 9 1,gp 10 (.ia 1 none 8 9),gQ 11 10,gA 4 11] [4] []) .rt)),[.t 4]⟩
def P4:bE:=⟨(.sq (.rg [] [gp 1 (.bx 0),gp 2 (.al [(.l 4 []),(.l 4 [])])] [1,2] [1,2]) (.sq (.rg [] [gp 3 (.ld (some 2) 1),gp 4 (.ld (some 2) 1),gp 5 (.ca 0 62 [3,4]),gS 2 2 5] [2] [2]) .rt)),[.c 2 (some 2)]⟩
def YJ:bE:=⟨(.sq (.rg [] [gp 0 (.al [(.i .i64 0),(.l 136 []),(.l 3 []),(.l 49 []),(.l 49 []),(.l 51 []),(.l 112 []),(.l 88 [])])] [0] [0]) (.sq (.rg [] [gp 1 (.bd [(.i .i64 0),(.l 136 [])] [(0,1,(kI 1))]),gp 2 (.bd [(.l 134 []),(.l 134 [])] []),gz 3 (.bs 49 2 [2]),gp 4 (.bd [(.l 134 []),(.l 134 [])] []),gz 5 (.bs 49 2 [4]),gp 6 (.bd [(.b false),(.l 134 []),(.l 134 [])] []),gz 7 (.bs 51 3 [6]),gp 8 (.bd [(.i .i64 0),(.i .i64 0),(.i .i64 0),(.i .i64 0),(.i .i64 0),(.l 86 []),(.l 86 []),(.l 88 []),(.l 88 [])] [(0,1,(kI 3))]),gp 9 (.bd [(.i .i64 0),(.i .i64 0),(.l 86 [])] [(0,1,(kI 2))]),gp 10 (.bd [(.i .i64 0),(.i .i64 0),(.i .i64 0),(.i .i64 0),(.i .i64 0),(.l 86 []),(.l 86 []),(.l 88 []),(.l 88 [])] [(0,1,(kI 4)),(3,3,9)]),gz 11 (.bs 88 9 [8,10]),gp 12 (.bd [(.i .i64 0),(.l 136 []),(.l 3 []),(.l 49 []),(.l 49 []),(.l 51 []),(.l 112 []),(.l 88 [])] [(0,2,1),(3,1,3),(4,1,5),(5,1,7),(7,1,11)]),gS 8 0 12] [0] [0]) .rt)),[.c 0 (some 8)]⟩
def Vm:AC:=(.sq (.bl 1 (.sq (.dg [] [] [gL (gM 17 0) [0] [],gL (gM 18 5) [5] [],gL (gp 19 (.ia 1 none 17 18)) [17,18] [],gL (gQ 20 19) [19] [],gL (gM 21 1) [1] [],gL (gM 22 5) [5] [],gL (gp 23 (.ia 1 none 21 22)) [21,22] [],gL (gQ 24 23) [23] [],gH (gp 25 (.bo .neq true 20 24))] [0,1,5,25] []) (.ite 25 (.sq (.rg [] [gA 4 (.c (.b false))] [4] []) .rt) .sk))) (.rg [] [gM 15 5,gB 16 .add 15 (kI 1),gA 5 16] [0,1,5] []))
def Vn:AC:=.kp [0,1,5] [] Vm
def Vo:AC:=(.sq (.sq (.rg [] [gM 11 5,gM 12 0,gp 13 (.ln false 12),gB 14 .lss 11 13] [0,1,5,14] []) (.ite 14 .sk (.ex 0))) Vn)
def Vp:bY:=⟨[0,1,5],[],Vo⟩
def Vq:AC:=(.sq (.sq (.rg [] [gA 5 (kI 0)] [0,1,5] []) (.bl 0 Vp.lp)) (.sq (.rg [] [gA 4 (.c (.b true))] [4] []) .rt))
def Vr:AC:=.kp [0,1] [] Vq
def YK:bE:=⟨(.sq (.rg [] [gA 4 (.c (.b false))] [0,1] []) (.sq (.sq (.rg [] [gM 6 0,gp 7 (.ln false 6),gM 8 1,gp 9 (.ln false 8),gB 10 .neq 7 9] [0,1,10] []) (.ite 10 (.sq (.rg [] [gA 4 (.c (.b false))] [4] []) .rt) .sk)) Vr)),[.t 4]⟩
def P5:bE:=⟨(.sq (.rg [] [gp 2 (.bx 0),gp 3 (.bx 1),gp 4 (.al [(.l 4 []),(.l 4 [])])] [2,3,4] [2,3,4]) (.sq (.rg [] [gp 7 (.ld (some 2) 2),gp 8 (.ca 0 60 [7]),gp 5 (.al [(.l 52 [])]),gS 1 5 8] [2,3,4,5] [2,3,4,5]) (.sq (.rg [.fzB 2 true,.fzB 5 false] [gp 9 (.mf 81 [2,5]),gA 6 9] [3,4,6] [2,3,4,5]) (.sq (.dg [] [] [gL (gM 10 6) [6] [],gL (gF 11 0 3) [3] [],gV (gQ 12 11) [11] [3] [],gV (gp 13 (.cf 0 10 [12])) [10,12] [3] [],gL (gM 14 6) [6] [],gL (gF 15 1 3) [3] [],gV (gQ 16 15) [15] [3] [],gH (gp 17 (.d2 14 [16])),gH (gp 18 (.bd [(.l 4 []),(.l 4 [])] [(0,1,13),(1,1,17)])),gH (gS 2 4 18)] [4] [4]) .rt)))),[.c 4 (some 2)]⟩
def P6:bE:=⟨(.sq (.rg [] [gp 2 (.bx 0),gp 3 (.bx 1),gA 4 (.c (.b false))] [2,3] [2,3]) (.sq (.rg [] [gF 5 0 3,gQ 6 5,gF 7 0 2,gQ 8 7,gp 9 (.ca 0 88 [6,8]),gM 10 9,gg 11 (.fa 1 2) 10 true,gg 12 (.ld none 11) 10 true,gg 13 (.fa 1 3) 10 true,gg 14 (.ld none 13) 10 true,gg 15 (.ca 0 88 [12,14]) 10 true,gp 16 (.pk 10 15 (.c (.b false))),gA 4 16] [4] []) .rt)),[.t 4]⟩
def NH:AC:=(.sq (.rg [.fzC 0 11,.fzC 0 12,.fzC 0 13] [gM 26 0,gp 27 (.nc 26),gF 28 11 27,gp 29 (.ld (some 6) 28),gS 6 2 29] [2] [2]) .rt)
def Vs:AC:=.kp [0,2] [0,2] NH
def P7:bE:=⟨(.sq (.rg [] [gp 2 (.al [(.l 106 []),(.l 3 []),(.l 3 []),(.i .i64 0),(.i .i64 0),(.i .i64 0)])] [0,2] [0,2]) (.sq (.sq (.dg [] [] [gL (gM 3 0) [0] [],gL (gM 4 0) [0] [],gL (gp 5 (.nc 4)) [4] [],gL (gF 6 0 5) [5] [],gL (gF 7 7 6) [6] [],⟨gQ 8 7,true,[7],[],true,[],[],[]⟩,gL (gM 9 0) [0] [],gL (gp 10 (.nc 9)) [9] [],gL (gF 11 10 10) [10] [],⟨gQ 12 11,true,[11],[],true,[],[],[]⟩,gL (gM 13 0) [0] [],gL (gp 14 (.nc 13)) [13] [],gL (gF 15 0 14) [14] [],gL (gF 16 6 15) [15] [],⟨gQ 17 16,true,[16],[],true,[],[],[]⟩,⟨gp 18 (.ln false 17),true,[17],[],true,[],[],[]⟩,⟨gp 19 (.ia 1 none 12 18),true,[12,18],[],true,[],[],[]⟩,⟨gQ 20 19,true,[19],[],true,[],[],[]⟩,gH (gp 21 (.c2 89 [3,8,20]))] [0,2,21] [0,2]) (.ite 21 (.rg [] [gM 22 0,gp 23 (.nc 22),gF 24 11 23,gF 25 4 24,gS 1 25 (kI 1)] [0,2] [0,2]) .sk)) Vs)),[.c 2 (some 6)]⟩
def Vt:AC:=(.sq (.rg [] [gp 16 (.ld (some 3) 2),gM 17 1,gp 18 (.ca 0 92 [16,17]),gA 4 18,gA 5 (kI 0)] [4,5] []) .rt)
def Vu:AC:=.kp [1,2] [2] Vt
def Vv:AC:=(.sq (.sq (.rg [] [gM 14 1,gp 15 (.c2 55 [14,(.c (.f 91 []))])] [1,2,15] [2]) (.ite 15 (.sq (.rg [] [gA 4 (kI 0),gA 5 (kI 3)] [4,5] []) .rt) .sk)) Vu)
def Vw:AC:=.kp [1,2] [2] Vv
def YL:bE:=⟨(.sq (.rg [] [gp 2 (.bx 0),gA 4 (kI 0),gA 5 (kI 0)] [1,2] [2]) (.sq (.sq (.rg [] [gp 7 (.ld (some 3) 2),gM 8 1,gp 9 (.ln false 8),gp 10 (.ca 0 90 [7,9]),gA 6 10] [1,2,6] [2]) (.sq (.rg [] [gM 11 6,gB 12 .neq 11 (kI 0)] [1,2,6,12] [2]) (.ite 12 (.sq (.rg [] [gM 13 6,gA 4 (kI 0),gA 5 13] [4,5] []) .rt) .sk))) Vw)),[.t 4,.t 5]⟩
def Vx:AC:=(.sq (.bl 1 (.sq (.dg [] [] [gL (gM 17 0) [0] [],gL (gM 18 5) [5] [],gL (gp 19 (.ia 1 none 17 18)) [17,18] [],gL (gQ 20 19) [19] [],gL (gM 21 1) [1] [],gL (gM 22 5) [5] [],gL (gp 23 (.ia 1 none 21 22)) [21,22] [],gL (gQ 24 23) [23] [],gH (gB 25 .neq 20 24)] [0,1,5,25] []) (.ite 25 (.sq (.rg [] [gA 4 (.c (.b false))] [4] []) .rt) .sk))) (.rg [] [gM 15 5,gB 16 .add 15 (kI 1),gA 5 16] [0,1,5] []))
def Vy:AC:=.kp [0,1,5] [] Vx
def Vz:AC:=(.sq (.sq (.rg [] [gM 11 5,gM 12 0,gp 13 (.ln false 12),gB 14 .lss 11 13] [0,1,5,14] []) (.ite 14 .sk (.ex 0))) Vy)
def NI:bY:=⟨[0,1,5],[],Vz⟩
def VA:AC:=(.sq (.sq (.rg [] [gA 5 (kI 0)] [0,1,5] []) (.bl 0 NI.lp)) (.sq (.rg [] [gA 4 (.c (.b true))] [4] []) .rt))
def VB:AC:=.kp [0,1] [] VA
def P8:bE:=⟨(.sq (.rg [] [gA 4 (.c (.b false))] [0,1] []) (.sq (.sq (.rg [] [gM 6 0,gp 7 (.ln false 6),gM 8 1,gp 9 (.ln false 8),gB 10 .neq 7 9] [0,1,10] []) (.ite 10 (.sq (.rg [] [gA 4 (.c (.b false))] [4] []) .rt) .sk)) VB)),[.t 4]⟩
def VC:AC:=(.sq (.bl 1 (.sq (.dg [] [] [gL (gM 17 0) [0] [],gL (gM 18 5) [5] [],gL (gp 19 (.ia 4 none 17 18)) [17,18] [],gL (gp 20 (.ld (some 4) 19)) [19] [],gL (gM 21 1) [1] [],gL (gM 22 5) [5] [],gL (gp 23 (.ia 4 none 21 22)) [21,22] [],gL (gp 24 (.ld (some 4) 23)) [23] [],gH (gp 25 (.ae [1,1,1,1] true 20 24))] [0,1,5,25] []) (.ite 25 (.sq (.rg [] [gA 4 (.c (.b false))] [4] []) .rt) .sk))) (.rg [] [gM 15 5,gB 16 .add 15 (kI 1),gA 5 16] [0,1,5] []))
def VD:AC:=.kp [0,1,5] [] VC
def VE:AC:=(.sq (.sq (.rg [] [gM 11 5,gM 12 0,gp 13 (.ln false 12),gB 14 .lss 11 13] [0,1,5,14] []) (.ite 14 .sk (.ex 0))) VD)
def NJ:bY:=⟨[0,1,5],[],VE⟩
def VF:AC:=(.sq (.sq (.rg [] [gA 5 (kI 0)] [0,1,5] []) (.bl 0 NJ.lp)) (.sq (.rg [] [gA 4 (.c (.b true))] [4] []) .rt))
def VG:AC:=.kp [0,1] [] VF
def P9:bE:=⟨(.sq (.rg [] [gA 4 (.c (.b false))] [0,1] []) (.sq (.sq (.rg [] [gM 6 0,gp 7 (.ln false 6),gM 8 1,gp 9 (.ln false 8),gB 10 .neq 7 9] [0,1,10] []) (.ite 10 (.sq (.rg [] [gA 4 (.c (.b false))] [4] []) .rt) .sk)) VG)),[.t 4]⟩
def VH:AC:=(.sq (.bl 1 (.sq (.rg [] [gM 24 22,gp 25 (.ia 5 none 20 22),gp 26 (.ld (some 5) 25),gp 6 (.al [(.l 3 []),(.l 88 []),(.i .i64 0),(.i .i64 0),(.l 86 [])]),gA 5 24,gS 5 6 26] [1,4,5,6,20,21,22] [1,6,18]) (.sq (.rg [] [gM 27 4,gM 28 5,gp 29 (.nc 27),gF 30 8 29,gS 1 30 28] [1,4,6,20,21,22] [1,6,18]) (.sq (.rg [] [gM 31 4,gp 32 (.ld (some 5) 6),gp 33 (.c2 95 [31,32]),gA 7 33] [1,4,7,20,21,22] [1,18]) (.sq (.rg [] [gM 34 7,gB 35 .neq 34 (kI 0)] [1,4,7,20,21,22,35] [1,18]) (.ite 35 (.sq (.rg [] [gM 36 7,gA 2 36] [2] []) .rt) .sk)))))) (.rg [] [gB 37 .add 22 (kI 1),gM 22 37] [1,4,20,21,22] [1,18]))
def VI:AC:=.kp [1,4,20,21,22] [1,18] VH
def VJ:AC:=(.sq (.rg [] [gB 23 .lss 22 21] [1,4,20,21,22,23] [1,18]) (.sq (.ite 23 .sk (.ex 0)) VI))
def NK:bY:=⟨[1,4,20,21,22],[1,18],VJ⟩
def VK:AC:=(.sq (.rg [] [gM 38 4,gF 39 6 1,gQ 40 39,gp 41 (.ln false 40),gp 42 (.nc 38),gF 43 8 42,gS 1 43 41] [1,4] [1,18]) (.sq (.rg [] [gM 44 4,gF 45 7 1,gQ 46 45,gp 47 (.c2 96 [44,46]),gA 2 47] [2] []) .rt))
def VL:AC:=.kp [1,4] [1,18] VK
def VM:AC:=(.sq (.rg [] [gp 16 (.ld (some 8) 1),gp 17 (.bd [(.i .i64 0),(.l 136 []),(.l 3 []),(.l 49 []),(.l 49 []),(.l 51 []),(.l 112 []),(.l 88 []),(.i .i64 0)] [(0,8,16)]),gp 18 (.bx 17),gA 4 18] [1,4] [1,18]) (.sq (.sq (.rg [] [gF 19 6 1,gQ 20 19,gp 21 (.ln false 20),gM 22 (kI 0)] [1,4,20,21,22] [1,18]) (.bl 0 NK.lp)) VL))
def VN:AC:=.kp [1] [1] VM
def VO:AC:=(.sq (.sq (.rg [] [gp 13 (.ld (some 8) 1),gp 14 (.ca 0 94 [13]),gp 15 (.no 14)] [1,15] [1]) (.ite 15 (.sq (.rg [] [gA 2 (kI 2)] [2] []) .rt) .sk)) VN)
def VP:AC:=.kp [1] [1] VO
def Qa:bE:=⟨(.sq (.rg [] [gp 1 (.bx 0),gA 2 (kI 0)] [1] [1]) (.sq (.sq (.rg [] [gp 8 (.ld (some 8) 1),gp 9 (.ca 0 93 [8]),gA 3 9] [1,3] [1]) (.sq (.rg [] [gM 10 3,gB 11 .neq 10 (kI 0)] [1,3,11] [1]) (.ite 11 (.sq (.rg [] [gM 12 3,gA 2 12] [2] []) .rt) .sk))) VP)),[.t 2]⟩
def Qb:bE:=⟨(.sq (.rg [] [gA 4 (.c (.b false))] [0,1] []) (.sq (.rg [] [gM 5 0,gM 6 1,gp 7 (.c2 97 [5,6]),gB 8 .geq 7 (kI 0),gA 4 8] [4] []) .rt)),[.t 4]⟩
def Qc:bE:=⟨(.sq (.rg [] [gA 2 (.c (.b false))] [0] []) (.sq (.rg [] [gM 3 0,gp 4 (.ln false 3),gB 5 .gtr 4 (kI 100),gA 2 5] [2] []) .rt)),[.t 2]⟩
def Qd:bE:=⟨(.sq (.rg [] [gA 2 (.c (.b false))] [0] []) (.sq (.rg [] [gM 3 0,gp 4 (.c2 55 [3,(.c (.f 56 []))]),gA 2 4] [2] []) .rt)),[.t 2]⟩
def Qe:bE:=⟨(.sq (.rg [] [gA 4 (.c (.b false))] [0,1] []) (.sq (.rg [] [gM 5 0,gM 6 1,gp 7 (.c2 98 [5,6]),gB 8 .geq 7 (kI 0),gA 4 8] [4] []) .rt)),[.t 4]⟩
def Qf:bE:=⟨(.sq (.rg [] [gA 2 (.c (.b false))] [0] []) (.sq (.rg [] [gM 3 0,gp 4 (.ca 0 57 [3]),gp 5 (.no 4),gA 2 5] [2] []) .rt)),[.t 2]⟩
def Qg:bE:=⟨(.sq (.rg [] [gA 2 (.c (.b false))] [0] []) (.sq (.rg [] [gM 3 0,gB 4 .geq 3 (kI (-2147483648)),gM 5 4,gg 6 (.mv 0) 5 true,gg 7 (.bo .leq false 6 (kI 2147483647)) 5 true,gp 8 (.pk 5 7 (.c (.b false))),gA 2 8] [2] []) .rt)),[.t 2]⟩
def Qh:bE:=⟨(.sq (.rg [] [gA 2 (kI 0)] [0] []) (.sq (.rg [] [gp 3 (.al [(.i .i64 0)]),gS 1 3 (kI 0)] [0,3] [3]) (.sq (.rg [] [gM 4 0,gp 5 (.mf 100 [3]),gp 6 (.c2 99 [4,(kI 1),5])] [3] [3]) (.sq (.rg [] [gQ 7 3,gA 2 7] [2] []) .rt)))),[.t 2]⟩
def VQ:AC:=(.sq (.bl 5 (.sq (.rg [] [gp 46 (.ia 2 none 42 44),gp 47 (.ld (some 2) 46),gp 9 (.al [(.i .i64 0),(.i .i64 0)]),gS 2 9 47] [1,3,5,6,7,9,11,12,29,42,43,44] [1,9]) (.sq (.rg [] [gF 48 0 9,gQ 49 48,gM 50 7,gB 51 .eql 49 50] [1,3,5,6,7,9,11,12,29,42,43,44,51] [1,9]) (.ite 51 (.rg [] [gM 52 6,gF 53 1 9,gQ 54 53,gz 55 (.bs 3 1 [54]),gp 56 (.ap 3 1 8 52 55),gA 6 56] [1,3,5,6,7,11,12,29,42,43,44] [1]) .sk)))) (.rg [] [gB 57 .add 44 (kI 1),gM 44 57] [1,3,5,6,7,11,12,29,42,43,44] [1]))
def VS:AC:=.kp [1,3,5,6,7,11,12,29,42,43,44] [1] VQ
def VT:AC:=(.sq (.rg [] [gB 45 .lss 44 43] [1,3,5,6,7,11,12,29,42,43,44,45] [1]) (.sq (.ite 45 .sk (.ex 4)) VS))
def NL:bY:=⟨[1,3,5,6,7,11,12,29,42,43,44],[1],VT⟩
def VU:AC:=(.sq (.rg [] [gM 38 5,gM 39 7,gp 40 (.ia 1 none 38 39),gS 1 40 (.c (.b true))] [1,3,5,6,7,11,12,29] [1]) (.sq (.rg [] [gF 41 1 1,gQ 42 41,gp 43 (.ln false 42),gM 44 (kI 0)] [1,3,5,6,7,11,12,29,42,43,44] [1]) (.bl 4 NL.lp)))
def VV:AC:=.kp [1,3,5,6,7,11,12,29] [1] VU
def VW:AC:=(.bl 3 (.sq (.rg [] [gM 23 6,gM 24 6,gp 25 (.ln false 24),gB 26 .sub 25 (kI 1),gp 27 (.ia 1 none 23 26),gQ 28 27,gA 7 28] [1,3,5,6,7,11,12,29] [1]) (.sq (.rg [] [gM 29 6,gM 30 6,gp 31 (.ln false 30),gB 32 .sub 31 (kI 1),gp 33 (.sl 3 1 29 none (some 32)),gA 6 33] [1,3,5,6,7,11,12,29] [1]) (.sq (.sq (.rg [] [gM 34 5,gM 35 7,gp 36 (.ia 1 none 34 35),gQ 37 36] [1,3,5,6,7,11,12,29,37] [1]) (.ite 37 (.ex 3) .sk)) VV))))
def VX:AC:=.kp [1,3,5,6,11,12,29] [1] VW
def VY:AC:=(.sq (.sq (.rg [.own 6 3] [gM 20 6,gp 21 (.ln false 20),gB 22 .gtr 21 (kI 0)] [1,3,5,6,11,12,22,29] [1]) (.ite 22 .sk (.ex 2))) VX)
def NM:bY:=⟨[1,3,5,6,11,12,29],[1],VY⟩
def VZ:AC:=(.rg [.fz 5] [gM 58 3,gM 59 5,gz 60 (.bs 52 1 [59]),gp 61 (.ap 52 1 24 58 60),gA 3 61] [1,3,11,12] [1])
def V0:AC:=.kp [1,3,5,11,12] [1] VZ
def V1:AC:=(.sq (.bl 1 (.sq (.rg [] [gM 14 12,gA 4 14] [1,3,4,11,12] [1]) (.sq (.rg [] [gF 15 0 1,gQ 16 15,gp 17 (.ms 4 1 1 (.b false) 16),gA 5 17] [1,3,4,5,11,12] [1]) (.sq (.rg [] [gM 18 4,gp 19 (.bs 3 1 [18]),gA 6 19] [1,3,5,6,11,12,29] [1]) (.sq (.bl 2 NM.lp) V0))))) (.rg [] [gB 62 .add 12 (kI 1),gM 12 62] [1,3,11,12] [1]))
def V2:AC:=.kp [1,3,11,12] [1] V1
def V3:AC:=(.sq (.rg [] [gB 13 .lss 12 11] [1,3,11,12,13] [1]) (.sq (.ite 13 .sk (.ex 0)) V2))
def NN:bY:=⟨[1,3,11,12],[1],V3⟩
def Qi:bE:=⟨(.sq (.rg [] [gp 1 (.bx 0),gA 2 (.c (.l 52 []))] [1] [1]) (.sq (.rg [] [gA 3 (.c .n)] [1,3] [1]) (.sq (.sq (.rg [.own 3 52] [gF 10 0 1,gQ 11 10,gM 12 (kI 0)] [1,3,11,12] [1]) (.bl 0 NN.lp)) (.sq (.rg [] [gM 63 3,gA 2 63] [2,3] []) .rt)))),[.t 2]⟩
def V4:AC:=(.sq (.dg [] [] [gL (gM 55 0) [0] [],gL (gp 56 (.nc 55)) [55] [],gL (gF 57 0 56) [56] [],⟨gQ 58 57,true,[57],[],true,[],[],[]⟩,gV (gp 59 (.ld (some 9) 4)) [4] [4] [],gL (gM 60 2) [2] [],gH (gp 61 (.c2 107 [58,59,60]))] [] []) (.sq (.rg [] [gA 6 (.c (.b true))] [6] []) .rt))
def V5:AC:=.kp [0,2,4] [0,4] V4
def Qj:bE:=⟨(.sq (.rg [] [gp 4 (.bx 1),gA 6 (.c (.b false))] [0,2,4] [0,4]) (.sq (.bl 0 (.sq (.rg [] [gM 10 0,gp 11 (.nc 10),gF 12 0 11,gQ 13 12,gp 14 (.c2 102 [13]),gp 15 (.no 14),gA 9 15] [0,2,4,9] [0,4]) (.ite 9 (.sq (.rg [] [gA 6 (.c (.b false))] [6] []) .rt) (.sq (.rg [] [gF 17 0 4,gQ 18 17,gB 19 .eql 18 (kI 2),gA 16 19] [0,2,4,16] [0,4]) (.ite 16 (.sq (.rg [] [gM 20 0,gp 21 (.ld (some 9) 4),gM 22 2,gp 23 (.c2 103 [20,21,22]),gA 6 23] [6] []) .rt) (.sq (.rg [] [gF 25 0 4,gQ 26 25,gB 27 .geq 26 (kI 7),gA 24 27] [0,2,4,24] [0,4]) (.ite 24 (.sq (.rg [] [gM 28 0,gp 29 (.nc 28),gF 30 10 29,gQ 31 30,gp 32 (.ln false 31),gA 7 32] [0,2,4,7] [0,4]) (.sq (.rg [] [gM 33 0,gp 34 (.ld (some 9) 4),gM 35 2,gp 36 (.c2 104 [33,34,35]),gA 8 36] [0,7,8] [0]) (.sq (.rg [] [gM 37 0,gM 38 0,gp 39 (.nc 38),gF 40 10 39,gQ 41 40,gM 42 7,gp 43 (.sl 54 2 41 none (some 42)),gp 44 (.nc 37),gF 45 10 44,gS 1 45 43] [8] []) (.sq (.rg [] [gM 46 8,gA 6 46] [6] []) .rt)))) (.sq (.rg [] [gM 48 0,gp 49 (.ld (some 9) 4),gp 50 (.c2 105 [48,49]),gp 51 (.no 50),gA 47 51] [0,2,4,47] [0,4]) (.ite 47 (.sq (.rg [] [gM 52 0,gM 53 2,gp 54 (.c2 106 [52,53]),gA 6 54] [6] []) .rt) .sk))))))))) V5)),[.t 6]⟩
def Qk:bE:=⟨(.sq (.rg [] [gp 2 (.bx 0),gp 3 (.bx 1),gp 4 (.al [(.l 4 []),(.l 4 [])])] [2,3,4] [2,3,4]) (.sq (.dg [] [] [gL (gF 5 0 2) [2] [],gV (gQ 6 5) [5] [2] [],gL (gF 7 0 3) [3] [],gV (gQ 8 7) [7] [3] [],gV (gp 9 (.ca 0 78 [6,8])) [6,8] [2,3] [],gL (gF 10 1 2) [2] [],gV (gQ 11 10) [10] [2] [],gL (gF 12 1 3) [3] [],gV (gQ 13 12) [12] [3] [],gH (gp 14 (.ca 0 77 [11,13])),gH (gp 15 (.bd [(.l 4 []),(.l 4 [])] [(0,1,9),(1,1,14)])),gH (gS 2 4 15)] [4] [4]) .rt)),[.c 4 (some 2)]⟩
def V6:AC:=(.sq (.bl 1 (.sq (.rg [] [gM 12 10,gp 13 (.ia 1 none 8 10),gQ 14 13,gA 6 12,gA 7 14] [1,5,6,7,8,9,10] []) (.rg [] [gM 15 5,gM 16 7,gM 17 16,gg 18 (.mv 1) 17 false,gg 19 (.mv 6) 17 false,gg 20 (.ia 1 none 18 19) 17 false,gg 21 (.ld none 20) 17 false,gp 22 (.pk 17 (.c (.b true)) 21),gz 23 (.bs 4 1 [22]),gp 24 (.ap 4 1 1 15 23),gA 5 24] [1,5,8,9,10] []))) (.rg [] [gB 25 .add 10 (kI 1),gM 10 25] [1,5,8,9,10] []))
def V7:AC:=.kp [1,5,8,9,10] [] V6
def V8:AC:=(.sq (.rg [] [gB 11 .lss 10 9] [1,5,8,9,10,11] []) (.sq (.ite 11 .sk (.ex 0)) V7))
def NO:bY:=⟨[1,5,8,9,10],[],V8⟩
def Ql:bE:=⟨(.sq (.rg [] [gA 4 (.c (.l 4 []))] [0,1] []) (.sq (.rg [] [gA 5 (.c .n)] [0,1,5] []) (.sq (.sq (.rg [.own 5 4] [gM 8 0,gp 9 (.ln false 8),gM 10 (kI 0)] [1,5,8,9,10] []) (.bl 0 NO.lp)) (.sq (.rg [] [gM 26 5,gA 4 26] [4,5] []) .rt)))),[.t 4]⟩
def V9:AC:=(.sq (.bl 1 (.sq (.rg [] [gM 12 10,gp 13 (.ia 1 none 8 10),gQ 14 13,gA 6 12,gA 7 14] [1,5,6,7,8,9,10] []) (.rg [] [gM 15 5,gM 16 7,gM 17 16,gg 18 (.mv 1) 17 true,gg 19 (.mv 6) 17 true,gg 20 (.ia 1 none 18 19) 17 true,gg 21 (.ld none 20) 17 true,gp 22 (.pk 17 21 (.c (.b false))),gz 23 (.bs 4 1 [22]),gp 24 (.ap 4 1 1 15 23),gA 5 24] [1,5,8,9,10] []))) (.rg [] [gB 25 .add 10 (kI 1),gM 10 25] [1,5,8,9,10] []))
def Wa:AC:=.kp [1,5,8,9,10] [] V9
def Wb:AC:=(.sq (.rg [] [gB 11 .lss 10 9] [1,5,8,9,10,11] []) (.sq (.ite 11 .sk (.ex 0)) Wa))
def NP:bY:=⟨[1,5,8,9,10],[],Wb⟩
def Qm:bE:=⟨(.sq (.rg [] [gA 4 (.c (.l 4 []))] [0,1] []) (.sq (.rg [] [gA 5 (.c .n)] [0,1,5] []) (.sq (.sq (.rg [.own 5 4] [gM 8 0,gp 9 (.ln false 8),gM 10 (kI 0)] [1,5,8,9,10] []) (.bl 0 NP.lp)) (.sq (.rg [] [gM 26 5,gA 4 26] [4,5] []) .rt)))),[.t 4]⟩
def Qn:bE:=⟨(.sq (.rg [] [gp 1 (.bx 0),gA 2 (kI 0)] [1] [1]) (.sq (.bl 0 (.sq (.rg [] [gF 4 0 1,gQ 5 4,gB 6 .lss 5 (kI 1),gM 7 6,gg 8 (.fa 0 1) 7 false,gg 9 (.ld none 8) 7 false,gg 10 (.bo .gtr false 9 (kI 6)) 7 false,gp 11 (.pk 7 (.c (.b true)) 10),gA 3 11] [1,3] [1]) (.ite 3 (.sq (.rg [] [gA 2 (kI 3)] [2] []) .rt) (.sq (.rg [] [gF 13 1 1,gQ 14 13,gp 15 (.ln false 14),gB 16 .gtr 15 (kI 20),gA 12 16] [1,12] [1]) (.ite 12 (.sq (.rg [] [gA 2 (kI 2)] [2] []) .rt) (.sq (.rg [.fzB 1 true] [gF 18 1 1,gQ 19 18,gp 20 (.mf 122 [1]),gp 21 (.c2 121 [19,20]),gA 17 21] [17] []) (.ite 17 (.sq (.rg [] [gA 2 (kI 5)] [2] []) .rt) .sk))))))) (.sq (.rg [] [gA 2 (kI 0)] [2] []) .rt))),[.t 2]⟩
def Wd:AC:=(.sq (.bl 3 (.sq (.rg [] [gp 27 (.ia 2 none 23 25),gp 28 (.ld (some 2) 27),gp 8 (.al [(.i .i64 0),(.l 3 [])]),gS 2 8 28] [2,8,14,15,16,23,24,25] [2,8]) (.sq (.rg [] [gp 29 (.ld (some 2) 2),gp 30 (.ld (some 2) 8),gp 31 (.ca 0 124 [29,30]),gA 9 31] [2,9,14,15,16,23,24,25] [2]) (.sq (.rg [] [gM 32 9,gB 33 .neq 32 (kI 0)] [2,9,14,15,16,23,24,25,33] [2]) (.ite 33 (.sq (.rg [] [gM 34 9,gA 4 34] [4] []) .rt) .sk))))) (.rg [] [gB 35 .add 25 (kI 1),gM 25 35] [2,14,15,16,23,24,25] [2]))
def We:AC:=.kp [2,14,15,16,23,24,25] [2] Wd
def Wf:AC:=(.sq (.rg [] [gB 26 .lss 25 24] [2,14,15,16,23,24,25,26] [2]) (.sq (.ite 26 .sk (.ex 2)) We))
def NQ:bY:=⟨[2,14,15,16,23,24,25],[2],Wf⟩
def Wg:AC:=(.sq (.rg [] [gM 23 6,gp 24 (.ln false 23),gM 25 (kI 0)] [2,14,15,16,23,24,25] [2]) (.bl 2 NQ.lp))
def Wi:AC:=.kp [2,6,14,15,16] [2] Wg
def Wj:AC:=(.sq (.bl 1 (.sq (.rg [] [gp 18 (.ia 1 none 14 16),gQ 19 18,gA 6 19] [2,6,14,15,16] [2]) (.sq (.sq (.rg [] [gM 20 6,gp 21 (.ln false 20),gB 22 .gtr 21 (kI 4)] [2,6,14,15,16,22] [2]) (.ite 22 (.sq (.rg [] [gA 4 (kI 2)] [4] []) .rt) .sk)) Wi))) (.rg [] [gB 36 .add 16 (kI 1),gM 16 36] [2,14,15,16] [2]))
def Wk:AC:=.kp [2,14,15,16] [2] Wj
def Wl:AC:=(.sq (.rg [] [gB 17 .lss 16 15] [2,14,15,16,17] [2]) (.sq (.ite 17 .sk (.ex 0)) Wk))
def NS:bY:=⟨[2,14,15,16],[2],Wl⟩
def Qo:bE:=⟨(.sq (.rg [] [gp 2 (.bx 0),gp 3 (.bx 1),gA 4 (kI 0)] [2,3] [2,3]) (.sq (.sq (.rg [] [gF 10 0 3,gQ 11 10,gF 12 1 3,gQ 13 12,gz 14 (.bs 47 1 [11,13]),gp 15 (.ln false 14),gM 16 (kI 0)] [2,14,15,16] [2]) (.bl 0 NS.lp)) (.sq (.rg [] [gA 4 (kI 0)] [4] []) .rt))),[.t 4]⟩
def Wm:AC:=(.sq (.bl 1 (.sq (.rg [] [gM 12 10,gp 6 (.al [(.i .i64 0)]),gS 1 6 12] [0,2,5,6,9,10] [2,6]) (.sq (.rg [.fzB 6 false] [gp 13 (.mf 82 [2,6]),gA 7 13] [0,2,5,7,9,10] [2,6]) (.rg [] [gM 14 5,gM 15 0,gM 16 7,gp 17 (.c2 84 [15,16]),gp 18 (.no 17),gz 19 (.bs 4 1 [18]),gp 20 (.ap 4 1 1 14 19),gA 5 20] [0,2,5,9,10] [2])))) (.rg [] [gB 21 .add 10 (kI 1),gM 10 21] [0,2,5,9,10] [2]))
def Wn:AC:=.kp [0,2,5,9,10] [2] Wm
def Wo:AC:=(.sq (.rg [] [gB 11 .lss 10 9] [0,2,5,9,10,11] [2]) (.sq (.ite 11 .sk (.ex 0)) Wn))
def NT:bY:=⟨[0,2,5,9,10],[2],Wo⟩
def Qp:bE:=⟨(.sq (.rg [] [gA 4 (.c (.l 4 []))] [0,1,2] [1,2]) (.sq (.rg [] [gA 5 (.c .n)] [0,1,2,5] [1,2]) (.sq (.sq (.rg [.own 5 4] [gF 8 0 1,gQ 9 8,gM 10 (kI 0)] [0,2,5,9,10] [2]) (.bl 0 NT.lp)) (.sq (.rg [] [gM 22 5,gA 4 22] [4,5] []) .rt)))),[.t 4]⟩
def Qq:bE:=⟨(.sq (.rg [] [gp 3 (.bx 0),gA 4 (.c (.b false))] [1,2,3] [1,2,3]) (.sq (.dg [] [] [⟨gQ 5 1,true,[1],[],true,[],[],[]⟩,⟨gQ 6 2,true,[2],[],true,[],[],[]⟩,⟨gp 7 (.ia 1 none 5 6),true,[5,6],[],true,[],[],[]⟩,⟨gQ 8 7,true,[7],[],true,[],[],[]⟩,gL (gF 9 0 3) [3] [],gV (gQ 10 9) [9] [3] [],gL (gp 11 (.ia 1 none 8 10)) [8,10] [],gL (gQ 12 11) [11] [],gL (gp 13 (.no 12)) [12] [],gL (gM 14 13) [13] [],gL (gg 15 (.fa 1 3) 14 true) [3] [],gV (gg 16 (.ld none 15) 14 true) [15] [3] [],gL (gg 17 (.mf 83 [1,2]) 14 true) [1,2] [],gH (gg 18 (.c2 55 [16,17]) 14 true),gH (gg 19 (.no 18) 14 true),gH (gp 20 (.pk 14 19 (.c (.b false)))),gH (gA 4 20)] [4] []) .rt)),[.t 4]⟩
def Qr:bE:=⟨(.sq (.rg [] [gA 4 (.c (.b false))] [0,1,2] [1,2]) (.sq (.rg [] [gQ 5 1,gQ 6 2,gp 7 (.ia 1 none 5 6),gQ 8 7,gM 9 0,gp 10 (.ia 1 none 8 9),gQ 11 10,gA 4 11] [4] []) .rt)),[.t 4]⟩
def Qs:bE:=⟨(.sq (.rg [] [gA 4 (.c (.b false))] [0,1] []) (.sq (.rg [] [gM 5 0,gM 6 1,gp 7 (.c2 125 [5,6]),gB 8 .geq 7 (kI 0),gA 4 8] [4] []) .rt)),[.t 4]⟩
def Wp:AC:=(.sq (.bl 1 (.sq (.rg [] [gM 11 9,gp 12 (.ia 1 none 7 9),gQ 13 12,gA 5 11,gA 6 13] [1,5,6,7,8,9] []) (.sq (.rg [] [gM 14 6,gM 15 14,gg 16 (.mv 1) 15 true,gg 17 (.mv 5) 15 true,gg 18 (.ia 1 none 16 17) 15 true,gg 19 (.ld none 18) 15 true,gg 20 (.no 19) 15 true,gp 21 (.pk 15 20 (.c (.b false)))] [1,7,8,9,21] []) (.ite 21 (.sq (.rg [] [gA 4 (.c (.b false))] [4] []) .rt) .sk)))) (.rg [] [gB 22 .add 9 (kI 1),gM 9 22] [1,7,8,9] []))
def Wq:AC:=.kp [1,7,8,9] [] Wp
def Wr:AC:=(.sq (.rg [] [gB 10 .lss 9 8] [1,7,8,9,10] []) (.sq (.ite 10 .sk (.ex 0)) Wq))
def NU:bY:=⟨[1,7,8,9],[],Wr⟩
def Qt:bE:=⟨(.sq (.rg [] [gA 4 (.c (.b false))] [0,1] []) (.sq (.sq (.rg [] [gM 7 0,gp 8 (.ln false 7),gM 9 (kI 0)] [1,7,8,9] []) (.bl 0 NU.lp)) (.sq (.rg [] [gA 4 (.c (.b true))] [4] []) .rt))),[.t 4]⟩
def Ws:AC:=(.dg [] [] [gL (gM 20 2) [2] [],gL (gF 21 7 8) [8] [],gV (gQ 22 21) [21] [8] [],gV (gp 23 (.ca 0 58 [22])) [22] [8] [],gL (gB 24 .add (kI 1) 23) [23] [],gL (gF 25 8 8) [8] [],gV (gQ 26 25) [25] [8] [],gV (gp 27 (.ca 0 58 [26])) [26] [8] [],gL (gB 28 .add 24 27) [24,27] [],gH (gB 29 .add 20 28),gH (gA 2 29)] [0,2,9,10,11] [0])
def Wt:AC:=.kp [0,2,8,9,10,11] [0,8] Ws
def Wu:AC:=(.sq (.bl 1 (.sq (.rg [] [gp 13 (.ia 9 none 9 11),gp 14 (.ld (some 9) 13),gp 8 (.al [(.i .i64 0),(.i .i64 0),(.i .i64 0),(.i .i64 0),(.i .i64 0),(.l 86 []),(.l 86 []),(.l 88 []),(.l 88 [])]),gS 9 8 14] [0,2,8,9,10,11] [0,8]) (.sq (.sq (.rg [] [gM 15 0,gp 16 (.ld (some 9) 8),gM 17 2,gp 18 (.c2 127 [15,16,17]),gp 19 (.no 18)] [0,2,8,9,10,11,19] [0,8]) (.ite 19 (.sq (.rg [] [gA 6 (.c (.b false))] [6] []) .rt) .sk)) Wt))) (.rg [] [gB 30 .add 11 (kI 1),gM 11 30] [0,2,9,10,11] [0]))
def Wv:AC:=.kp [0,2,9,10,11] [0] Wu
def Ww:AC:=(.sq (.rg [] [gB 12 .lss 11 10] [0,2,9,10,11,12] [0]) (.sq (.ite 12 .sk (.ex 0)) Wv))
def NV:bY:=⟨[0,2,9,10,11],[0],Ww⟩
def Qu:bE:=⟨(.sq (.rg [] [gA 6 (.c (.b false))] [0,1,2] [0]) (.sq (.sq (.rg [] [gM 9 1,gp 10 (.ln false 9),gM 11 (kI 0)] [0,2,9,10,11] [0]) (.bl 0 NV.lp)) (.sq (.rg [] [gA 6 (.c (.b true))] [6] []) .rt))),[.t 6]⟩
def Wx:AC:=(.sq (.rg [] [gp 8 (.ld (some 3) 2),gM 9 1,gp 10 (.ca 0 129 [8,9]),gA 4 10] [4] []) .rt)
def Wy:AC:=.kp [1,2] [2] Wx
def Qv:bE:=⟨(.sq (.rg [] [gp 2 (.bx 0),gA 4 (kI 0)] [1,2] [2]) (.sq (.sq (.rg [] [gp 5 (.ld (some 3) 2),gp 6 (.ca 0 128 [5,(kI 15)]),gB 7 .gtr 6 (kI 15)] [1,2,7] [2]) (.ite 7 (.sq (.rg [] [gA 4 (kI 2)] [4] []) .rt) .sk)) Wy)),[.t 4]⟩
def YM:bE:=⟨(.sq (.rg [] [gA 2 (.c (.b false))] [0] []) (.sq (.rg [] [gM 3 0,gp 4 (.ca 0 57 [3]),gp 5 (.no 4),gA 2 5] [2] []) .rt)),[.t 2]⟩
def NX:AC:=(.sq (.rg [] [gM 62 7,gp 63 (.cv .i32 62),gp 64 (.cv .i64 63),gA 4 64] [4] []) .rt)
def Wz:AC:=.kp [7] [] NX
def WA:AC:=(.sq (.dg [] [] [gL (gF 21 2 2) [2] [],gV (gQ 22 21) [21] [2] [],gV (gp 23 (.ia 3 none 22 (kI 0))) [22] [2] [],gV (gp 24 (.ld (some 3) 23)) [23] [2] [],gL (gM 25 1) [1] [],gL (gp 26 (.ca 0 92 [24,25])) [24,25] [],gL (gF 27 2 2) [2] [],gV (gQ 28 27) [27] [2] [],gV (gp 29 (.ia 3 none 28 (kI 1))) [28] [2] [],gV (gp 30 (.ld (some 3) 29)) [29] [2] [],gL (gM 31 1) [1] [],gH (gp 32 (.ca 0 92 [30,31])),gH (gA 5 26),gH (gA 6 32)] [2,5,6] [2]) (.sq (.rg [] [gA 7 (kI 0)] [2,5,6,7] [2]) (.sq (.sq (.rg [] [gF 33 0 2,gQ 34 33] [5,6,7,34] []) (.bl 1 (.sq (.rg [] [gB 36 .eql 34 (kI 3),gA 35 36] [5,6,7,34,35] []) (.ite 35 (.rg [] [gM 37 5,gM 38 6,gB 39 .add 37 38,gA 7 39] [7] []) (.sq (.rg [] [gB 41 .eql 34 (kI 4),gA 40 41] [5,6,7,34,40] []) (.ite 40 (.rg [] [gM 42 5,gM 43 6,gB 44 .sub 42 43,gA 7 44] [7] []) (.sq (.rg [] [gB 46 .eql 34 (kI 5),gA 45 46] [5,6,7,34,45] []) (.ite 45 (.rg [] [gM 47 5,gM 48 6,gB 49 .mul 47 48,gA 7 49] [7] []) (.sq (.rg [] [gB 51 .eql 34 (kI 6),gA 50 51] [5,6,7,34,50] []) (.ite 50 (.rg [] [gM 52 5,gM 53 6,gB 54 .lss 52 53,gp 55 (.ca 0 130 [54]),gA 7 55] [7] []) (.sq (.rg [] [gB 57 .eql 34 (kI 7),gA 56 57] [5,6,7,56] []) (.ite 56 (.rg [] [gM 58 5,gM 59 6,gB 60 .eql 58 59,gp 61 (.ca 0 130 [60]),gA 7 61] [7] []) .sk)))))))))))) Wz)))
def WB:AC:=.kp [1,2] [2] WA
def Qw:bE:=⟨(.sq (.rg [] [gp 2 (.bx 0),gA 4 (kI 0)] [1,2] [2]) (.sq (.sq (.rg [] [gF 8 0 2,gQ 9 8] [1,2,9] [2]) (.bl 0 (.sq (.rg [] [gB 11 .eql 9 (kI 1),gA 10 11] [1,2,9,10] [2]) (.ite 10 (.sq (.rg [] [gF 12 1 2,gQ 13 12,gA 4 13] [4] []) .rt) (.sq (.rg [] [gB 15 .eql 9 (kI 2),gA 14 15] [1,2,14] [2]) (.ite 14 (.sq (.rg [] [gM 16 1,gF 17 1 2,gQ 18 17,gp 19 (.ia 1 none 16 18),gQ 20 19,gA 4 20] [4] []) .rt) .sk)))))) WB)),[.t 4]⟩
def WC:AC:=(.sq (.bl 1 (.sq (.rg [] [gp 60 (.ia 2 none 56 58),gp 61 (.ld (some 2) 60),gp 5 (.al [(.l 134 []),(.l 134 [])]),gS 2 5 61] [1,5,56,57,58] [1,5]) (.sq (.rg [] [gF 62 0 1,gp 63 (.ld (some 2) 62),gp 64 (.ld (some 2) 5),gp 65 (.ca 0 80 [63,64]),gA 6 65] [1,6,56,57,58] [1]) (.sq (.rg [] [gM 66 6,gB 67 .neq 66 (kI 0)] [1,6,56,57,58,67] [1]) (.ite 67 (.sq (.rg [] [gM 68 6,gA 2 68] [2] []) .rt) .sk))))) (.rg [] [gB 69 .add 58 (kI 1),gM 58 69] [1,56,57,58] [1]))
def WD:AC:=.kp [1,56,57,58] [1] WC
def WE:AC:=(.sq (.rg [] [gB 59 .lss 58 57] [1,56,57,58,59] [1]) (.sq (.ite 59 .sk (.ex 0)) WD))
def NY:bY:=⟨[1,56,57,58],[1],WE⟩
def WG:AC:=(.sq (.bl 3 (.sq (.rg [] [gp 75 (.ia 3 none 71 73),gp 76 (.ld (some 3) 75),gp 8 (.al [(.b false),(.l 134 []),(.l 134 [])]),gS 3 8 76] [1,8,71,72,73] [1,8]) (.sq (.rg [] [gF 77 0 1,gp 78 (.ld (some 2) 77),gF 79 1 8,gp 80 (.ld (some 2) 79),gp 81 (.ca 0 80 [78,80]),gA 9 81] [1,9,71,72,73] [1]) (.sq (.rg [] [gM 82 9,gB 83 .neq 82 (kI 0)] [1,9,71,72,73,83] [1]) (.ite 83 (.sq (.rg [] [gM 84 9,gA 2 84] [2] []) .rt) .sk))))) (.rg [] [gB 85 .add 73 (kI 1),gM 73 85] [1,71,72,73] [1]))
def WH:AC:=.kp [1,71,72,73] [1] WG
def WI:AC:=(.sq (.rg [] [gB 74 .lss 73 72] [1,71,72,73,74] [1]) (.sq (.ite 74 .sk (.ex 2)) WH))
def NZ:bY:=⟨[1,71,72,73],[1],WI⟩
def WJ:AC:=(.sq (.sq (.rg [] [gF 86 5 1,gQ 87 86,gp 88 (.c2 133 [87,(.c (.f 134 []))])] [88] []) (.ite 88 (.sq (.rg [] [gA 2 (kI 1)] [2] []) .rt) .sk)) (.sq (.rg [] [gA 2 (kI 0)] [2] []) .rt))
def WK:AC:=.kp [1] [1] WJ
def WL:AC:=(.sq (.sq (.rg [] [gF 70 5 1,gQ 71 70,gp 72 (.ln false 71),gM 73 (kI 0)] [1,71,72,73] [1]) (.bl 2 NZ.lp)) WK)
def WM:AC:=.kp [1] [1] WL
def WN:AC:=(.sq (.sq (.rg [] [gF 51 3 1,gQ 52 51,gF 53 4 1,gQ 54 53,gz 55 (.bs 26 1 [52,54]),gp 56 (.ca 0 132 [55]),gp 57 (.ln false 56),gM 58 (kI 0)] [1,56,57,58] [1]) (.bl 0 NY.lp)) WM)
def WO:AC:=.kp [1] [1] WN
def WQ:AC:=(.sq (.sq (.rg [.fzB 1 true] [gF 47 2 1,gQ 48 47,gp 49 (.mf 131 [1]),gp 50 (.c2 55 [48,49])] [1,50] [1]) (.ite 50 (.sq (.rg [] [gA 2 (kI 5)] [2] []) .rt) .sk)) WO)
def WR:AC:=.kp [1] [1] WQ
def WS:AC:=(.sq (.sq (.rg [] [gF 16 5 1,gQ 17 16,gp 18 (.ln false 17),gB 19 .gtr 18 (kI 16),gM 20 19,gg 21 (.fa 3 1) 20 false,gg 22 (.ld none 21) 20 false,gg 23 (.ln false 22) 20 false,gg 24 (.bo .gtr false 23 (kI 5)) 20 false,gp 25 (.pk 20 (.c (.b true)) 24),gM 26 25,gg 27 (.fa 4 1) 26 false,gg 28 (.ld none 27) 26 false,gg 29 (.ln false 28) 26 false,gg 30 (.bo .gtr false 29 (kI 5)) 26 false,gp 31 (.pk 26 (.c (.b true)) 30),gM 32 31,gg 33 (.fa 6 1) 32 false,gg 34 (.ld none 33) 32 false,gg 35 (.ln false 34) 32 false,gg 36 (.bo .gtr false 35 (kI 5)) 32 false,gp 37 (.pk 32 (.c (.b true)) 36),gM 38 37,gg 39 (.fa 2 1) 38 false,gg 40 (.ld none 39) 38 false,gg 41 (.ln false 40) 38 false,gg 42 (.fa 0 1) 38 false,gg 43 (.fa 0 42) 38 false,gg 44 (.ld none 43) 38 false,gg 45 (.bo .gtr false 41 44) 38 false,gp 46 (.pk 38 (.c (.b true)) 45)] [1,46] [1]) (.ite 46 (.sq (.rg [] [gA 2 (kI 2)] [2] []) .rt) .sk)) WR)
def WT:AC:=.kp [1] [1] WS
def Qx:bE:=⟨(.sq (.rg [] [gp 1 (.bx 0),gA 2 (kI 0)] [1] [1]) (.sq (.sq (.rg [] [gF 10 0 1,gp 11 (.ld (some 2) 10),gp 12 (.ca 0 79 [11]),gA 3 12] [1,3] [1]) (.sq (.rg [] [gM 13 3,gB 14 .neq 13 (kI 0)] [1,3,14] [1]) (.ite 14 (.sq (.rg [] [gM 15 3,gA 2 15] [2] []) .rt) .sk))) WT)),[.t 2]⟩
def WU:AC:=(.sq (.bl 1 (.sq (.rg [] [gp 13 (.ia 5 none 9 11),gp 14 (.ld (some 5) 13),gp 6 (.al [(.l 3 []),(.l 88 []),(.i .i64 0),(.i .i64 0),(.l 86 [])]),gS 5 6 14] [1,4,6,9,10,11] [1,3,6]) (.sq (.rg [] [gF 15 1 6,gQ 16 15,gM 17 4,gp 18 (.c2 99 [16,(kI 1),17]),gp 19 (.no 18)] [1,4,9,10,11,19] [1,3]) (.ite 19 (.sq (.rg [] [gA 2 (.c (.b false))] [2] []) .rt) .sk)))) (.rg [] [gB 20 .add 11 (kI 1),gM 11 20] [1,4,9,10,11] [1,3]))
def WW:AC:=.kp [1,4,9,10,11] [1,3] WU
def WX:AC:=(.sq (.rg [] [gB 12 .lss 11 10] [1,4,9,10,11,12] [1,3]) (.sq (.ite 12 .sk (.ex 0)) WW))
def N0:bY:=⟨[1,4,9,10,11],[1,3],WX⟩
def WY:AC:=(.sq (.rg [] [gF 21 7 1,gQ 22 21,gM 23 4,gp 24 (.c2 99 [22,(kI 1),23]),gA 2 24] [2] []) .rt)
def WZ:AC:=.kp [1,4] [1,3] WY
def Qy:bE:=⟨(.sq (.rg [] [gp 1 (.bx 0),gA 2 (.c (.b false))] [1] [1]) (.sq (.rg [] [gp 3 (.al [(.i .i64 0)]),gS 1 3 (kI 0)] [1,3] [1,3]) (.sq (.rg [] [gp 7 (.mf 135 [3]),gA 4 7] [1,4] [1,3]) (.sq (.sq (.rg [] [gF 8 6 1,gQ 9 8,gp 10 (.ln false 9),gM 11 (kI 0)] [1,4,9,10,11] [1,3]) (.bl 0 N0.lp)) WZ)))),[.t 2]⟩
def W3:AC:=(.sq (.rg [] [gF 32 0 3,gQ 33 32,gM 34 5,gp 35 (.sl 3 1 33 none (some 34)),gM 36 6,gp 37 (.ca 0 136 [35,36])] [0,3,13,14,15,37] [0,3]) (.ite 37 (.sq (.rg [] [gA 4 (kI 6)] [4] []) .rt) .sk))
def W4:AC:=.kp [0,3,5,6,13,14,15] [0,3] W3
def W5:AC:=(.sq (.bl 1 (.sq (.rg [] [gM 17 15,gp 18 (.ia 1 none 13 15),gQ 19 18,gA 5 17,gA 6 19] [0,3,5,6,13,14,15] [0,3]) (.sq (.sq (.rg [] [gM 20 6,gB 21 .lss 20 (kI 0),gM 22 21,gg 23 (.mv 6) 22 false,gg 24 (.mv 0) 22 false,gg 25 (.nc 24) 22 false,gg 26 (.fa 0 25) 22 false,gg 27 (.fa 5 26) 22 false,gg 28 (.ld none 27) 22 false,gg 29 (.ln false 28) 22 false,gg 30 (.bo .geq false 23 29) 22 false,gp 31 (.pk 22 (.c (.b true)) 30)] [0,3,5,6,13,14,15,31] [0,3]) (.ite 31 (.sq (.rg [] [gA 4 (kI 5)] [4] []) .rt) .sk)) W4))) (.rg [] [gB 38 .add 15 (kI 1),gM 15 38] [0,3,13,14,15] [0,3]))
def W6:AC:=.kp [0,3,13,14,15] [0,3] W5
def W7:AC:=(.sq (.rg [] [gB 16 .lss 15 14] [0,3,13,14,15,16] [0,3]) (.sq (.ite 16 .sk (.ex 0)) W6))
def N1:bY:=⟨[0,3,13,14,15],[0,3],W7⟩
def W8:AC:=(.sq (.dg [] [] [gL (gF 46 2 3) [3] [],gV (gp 47 (.ld (some 3) 46)) [46] [3] [],gL (gM 48 0) [0] [],gL (gp 49 (.nc 48)) [48] [],gL (gF 50 0 49) [49] [],gL (gF 51 5 50) [50] [],⟨gQ 52 51,true,[51],[],true,[],[],[]⟩,⟨gp 53 (.ln false 52),true,[52],[],true,[],[],[]⟩,gH (gp 54 (.ca 0 90 [47,53])),gH (gA 4 54)] [4] []) .rt)
def W9:AC:=.kp [0,3] [0,3] W8
def Xa:AC:=(.sq (.sq (.rg [] [gM 39 0,gF 40 1 3,gQ 41 40,gp 42 (.c2 96 [39,41]),gA 7 42] [0,3,7] [0,3]) (.sq (.rg [] [gM 43 7,gB 44 .neq 43 (kI 0)] [0,3,7,44] [0,3]) (.ite 44 (.sq (.rg [] [gM 45 7,gA 4 45] [4] []) .rt) .sk))) W9)
def Xb:AC:=.kp [0,3] [0,3] Xa
def Xc:AC:=(.sq (.sq (.rg [] [gF 12 0 3,gQ 13 12,gp 14 (.ln false 13),gM 15 (kI 0)] [0,3,13,14,15] [0,3]) (.bl 0 N1.lp)) Xb)
def Xd:AC:=.kp [0,3] [0,3] Xc
def Qz:bE:=⟨(.sq (.rg [] [gp 3 (.bx 1),gA 4 (kI 0)] [0,3] [0,3]) (.sq (.sq (.rg [] [gF 8 0 3,gQ 9 8,gp 10 (.ln false 9),gB 11 .gtr 10 (kI 4)] [0,3,11] [0,3]) (.ite 11 (.sq (.rg [] [gA 4 (kI 2)] [4] []) .rt) .sk)) Xd)),[.t 4]⟩
def QA:bE:=⟨(.sq (.rg [] [gp 2 (.bx 0),gA 4 (kI 0)] [1,2] [0,2]) (.sq (.rg [] [gp 5 (.al [(.i .i64 0)]),gS 1 5 (kI 0)] [1,2,5] [0,2,5]) (.sq (.rg [] [gM 6 1,gp 7 (.mf 137 [2,5]),gp 8 (.c2 99 [6,(kI 1),7])] [5] [5]) (.sq (.rg [] [gQ 9 5,gA 4 9] [4] []) .rt)))),[.t 4]⟩
def Xe:AC:=(.sq (.bl 1 (.sq (.rg [] [gM 10 8,gA 5 10] [0,1,5,7,8] []) (.sq (.rg [] [gM 11 1,gM 12 0,gM 13 5,gp 14 (.ia 1 none 12 13),gQ 15 14,gp 16 (.d2 11 [15])] [0,1,5,7,8,16] []) (.ite 16 (.sq (.rg [] [gM 17 5,gA 4 17] [4] []) .rt) .sk)))) (.rg [] [gB 18 .add 8 (kI 1),gM 8 18] [0,1,7,8] []))
def Xf:AC:=.kp [0,1,7,8] [] Xe
def Xg:AC:=(.sq (.rg [] [gB 9 .lss 8 7] [0,1,7,8,9] []) (.sq (.ite 9 .sk (.ex 0)) Xf))
def I5:bY:=⟨[0,1,7,8],[],Xg⟩
def QB:bE:=⟨(.sq (.rg [] [gA 4 (kI 0)] [0,1] []) (.sq (.sq (.rg [] [gM 6 0,gp 7 (.ln false 6),gM 8 (kI 0)] [0,1,7,8] []) (.bl 0 I5.lp)) (.sq (.rg [] [gA 4 (kI (-1))] [4] []) .rt))),[.t 4]⟩
def Xh:AC:=(.sq (.bl 1 (.sq (.rg [] [gM 10 8,gA 5 10] [0,1,5,7,8] []) (.sq (.rg [] [gM 11 1,gM 12 0,gM 13 5,gp 14 (.ia 1 none 12 13),gQ 15 14,gp 16 (.d2 11 [15])] [0,1,5,7,8,16] []) (.ite 16 (.sq (.rg [] [gM 17 5,gA 4 17] [4] []) .rt) .sk)))) (.rg [] [gB 18 .add 8 (kI 1),gM 8 18] [0,1,7,8] []))
def Xi:AC:=.kp [0,1,7,8] [] Xh
def Xj:AC:=(.sq (.rg [] [gB 9 .lss 8 7] [0,1,7,8,9] []) (.sq (.ite 9 .sk (.ex 0)) Xi))
def z8:bY:=⟨[0,1,7,8],[],Xj⟩
def QC:bE:=⟨(.sq (.rg [] [gA 4 (kI 0)] [0,1] []) (.sq (.sq (.rg [] [gM 6 0,gp 7 (.ln false 6),gM 8 (kI 0)] [0,1,7,8] []) (.bl 0 z8.lp)) (.sq (.rg [] [gA 4 (kI (-1))] [4] []) .rt))),[.t 4]⟩
def Xk:AC:=(.sq (.bl 1 (.sq (.rg [] [gp 13 (.ia 9 none 9 11),gp 14 (.ld (some 9) 13),gp 8 (.al [(.i .i64 0),(.i .i64 0),(.i .i64 0),(.i .i64 0),(.i .i64 0),(.l 86 []),(.l 86 []),(.l 88 []),(.l 88 [])]),gS 9 8 14] [1,2,8,9,10,11] [8]) (.sq (.rg [] [gM 15 2,gp 16 (.ld (some 9) 8),gM 17 1,gp 18 (.d2 15 [16,17]),gp 19 (.no 18),gM 20 19,gg 21 (.fa 7 8) 20 false,gg 22 (.ld none 21) 20 false,gg 23 (.mv 1) 20 false,gg 24 (.bo .add false 23 (kI 1)) 20 false,gg 25 (.mv 2) 20 false,gg 26 (.c2 99 [22,24,25]) 20 false,gg 27 (.no 26) 20 false,gp 28 (.pk 20 (.c (.b true)) 27),gM 29 28,gg 30 (.fa 8 8) 29 false,gg 31 (.ld none 30) 29 false,gg 32 (.mv 1) 29 false,gg 33 (.bo .add false 32 (kI 1)) 29 false,gg 34 (.mv 2) 29 false,gg 35 (.c2 99 [31,33,34]) 29 false,gg 36 (.no 35) 29 false,gp 37 (.pk 29 (.c (.b true)) 36)] [1,2,9,10,11,37] []) (.ite 37 (.sq (.rg [] [gA 6 (.c (.b false))] [6] []) .rt) .sk)))) (.rg [] [gB 38 .add 11 (kI 1),gM 11 38] [1,2,9,10,11] []))
def Xl:AC:=.kp [1,2,9,10,11] [] Xk
def Xm:AC:=(.sq (.rg [] [gB 12 .lss 11 10] [1,2,9,10,11,12] []) (.sq (.ite 12 .sk (.ex 0)) Xl))
def Fv:bY:=⟨[1,2,9,10,11],[],Xm⟩
def QD:bE:=⟨(.sq (.rg [] [gA 6 (.c (.b false))] [0,1,2] []) (.sq (.sq (.rg [] [gM 9 0,gp 10 (.ln false 9),gM 11 (kI 0)] [1,2,9,10,11] []) (.bl 0 Fv.lp)) (.sq (.rg [] [gA 6 (.c (.b true))] [6] []) .rt))),[.t 6]⟩
def LH:bE:=⟨(.sq (.rg [] [gp 3 (.bx 0),gA 5 (.c (.b false))] [2] [2]) (.sq (.rg [] [gQ 6 2,gB 7 .add 6 (kI 1),gS 1 2 7] [] []) (.sq (.rg [] [gA 5 (.c (.b true))] [5] []) .rt))),[.t 5]⟩
def QE:AC:=(.sq (.rg [] [gM 17 0,gp 18 (.nc 17),gF 19 11 18,gF 20 3 19,gQ 21 20,gB 22 .add 21 (kI 1),gp 23 (.nc 17),gF 24 11 23,gF 25 3 24,gS 1 25 22] [] []) (.sq (.rg [] [gA 2 (.c (.b true))] [2] []) .rt))
def QF:AC:=.kp [0] [0] QE
def LI:bE:=⟨(.sq (.rg [] [gA 2 (.c (.b false))] [0] [0]) (.sq (.sq (.dg [] [] [gL (gM 3 0) [0] [],gL (gp 4 (.nc 3)) [3] [],gL (gF 5 11 4) [4] [],gL (gF 6 3 5) [5] [],⟨gQ 7 6,true,[6],[],true,[],[],[]⟩,gL (gM 8 0) [0] [],gL (gp 9 (.nc 8)) [8] [],gL (gF 10 9 9) [9] [],⟨gQ 11 10,true,[10],[],true,[],[],[]⟩,gH (gB 12 .eql 7 11)] [0,12] [0]) (.ite 12 (.sq (.rg [] [gM 13 0,gp 14 (.nc 13),gF 15 11 14,gF 16 4 15,gS 1 16 (kI 2)] [] []) (.sq (.rg [] [gA 2 (.c (.b false))] [2] []) .rt)) .sk)) QF)),[.t 2]⟩
def QG:AC:=(.sq (.dg [] [] [gL (gM 54 0) [0] [],gL (gp 55 (.nc 54)) [54] [],gL (gF 56 0 55) [55] [],⟨gQ 57 56,true,[56],[],true,[],[],[]⟩,gV (gp 58 (.ld (some 9) 4)) [4] [4] [],gH (gp 59 (.c2 145 [57,58]))] [] []) (.sq (.rg [] [gA 6 (.c (.b true))] [6] []) .rt))
def QH:AC:=.kp [0,4] [0,4] QG
def QI:AC:=(.sq (.sq (.dg [] [] [gL (gM 42 0) [0] [],gL (gF 43 1 4) [4] [],gV (gQ 44 43) [43] [4] [],gL (gM 45 0) [0] [],gL (gF 46 2 7) [7] [],gV (gp 47 (.ld (some 3) 46)) [46] [7] [],⟨gp 48 (.c3 144 [45,47]),true,[45,47],[],true,[],[],[]⟩,gH (gp 49 (.c2 143 [42,44,48])),gH (gp 50 (.no 49))] [0,2,4,50] [0,4]) (.ite 50 (.sq (.rg [] [gM 51 0,gM 52 2,gp 53 (.c2 106 [51,52]),gA 6 53] [6] []) .rt) .sk)) QH)
def QJ:AC:=.kp [0,2,4,7] [0,4,7] QI
def QK:AC:=(.sq (.dg [] [] [gL (gM 15 0) [0] [],gL (gp 16 (.nc 15)) [15] [],gL (gF 17 0 16) [16] [],⟨gQ 18 17,true,[17],[],true,[],[],[]⟩,gV (gp 19 (.ld (some 9) 4)) [4] [4] [],gH (gp 20 (.c2 142 [18,19]))] [0,2,4] [0,4]) (.sq (.dg [] [7] [gL (gM 21 0) [0] [7],gL (gp 22 (.nc 21)) [21] [7],gL (gF 23 1 22) [22] [7],gL (gF 24 6 23) [23] [7],⟨gQ 25 24,true,[24],[],true,[],[7],[]⟩,gL (gF 26 2 4) [4] [7],gV (gQ 27 26) [26] [4] [7],⟨gp 28 (.ia 5 none 25 27),true,[25,27],[],true,[],[7],[]⟩,⟨gp 29 (.ld (some 5) 28),true,[28],[],true,[],[7],[]⟩,gL (gp 7 (.al [(.l 3 []),(.l 88 []),(.i .i64 0),(.i .i64 0),(.l 86 [])])) [] [],gH (gS 5 7 29)] [0,2,4,7] [0,4,7]) (.sq (.sq (.dg [] [] [gL (gM 30 0) [0] [],gL (gF 31 1 7) [7] [],gV (gQ 32 31) [31] [7] [],gL (gM 33 0) [0] [],gL (gp 34 (.nc 33)) [33] [],gL (gF 35 0 34) [34] [],⟨gQ 36 35,true,[35],[],true,[],[],[]⟩,gL (gF 37 2 4) [4] [],gV (gQ 38 37) [37] [4] [],⟨gp 39 (.c3 24 [36,38]),true,[36,38],[],true,[],[],[]⟩,gH (gp 40 (.c2 23 [30,32,39])),gH (gp 41 (.no 40))] [0,2,4,7,41] [0,4,7]) (.ite 41 (.sq (.rg [] [gA 6 (.c (.b false))] [6] []) .rt) .sk)) QJ)))
def QL:AC:=.kp [0,2,4] [0,4] QK
def LJ:bE:=⟨(.sq (.rg [] [gp 4 (.bx 1),gA 6 (.c (.b false))] [0,2,4] [0,4]) (.sq (.sq (.rg [] [gM 8 0,gp 9 (.ld (some 9) 4),gp 10 (.c2 141 [8,9]),gp 11 (.no 10)] [0,2,4,11] [0,4]) (.ite 11 (.sq (.rg [] [gM 12 0,gM 13 2,gp 14 (.c2 106 [12,13]),gA 6 14] [6] []) .rt) .sk)) QL)),[.t 6]⟩
def QM:AC:=(.rg [] [gM 52 0,gF 53 3 4,gp 54 (.ld (some 3) 53),gp 55 (.c2 146 [52,54])] [0,2,4] [0,4])
def QN:AC:=.kp [0,2,4] [0,4] QM
def QO:AC:=(.bl 1 (.sq (.sq (.rg [] [gM 37 0,gF 38 7 4,gQ 39 38,gM 40 2,gB 41 .add 40 (kI 1),gp 42 (.c2 23 [37,39,41]),gp 43 (.no 42),gM 44 43,gg 45 (.mv 0) 44 false,gg 46 (.nc 45) 44 false,gg 47 (.fa 0 46) 44 false,gg 48 (.ld none 47) 44 false,gg 49 (.c2 102 [48]) 44 false,gg 50 (.no 49) 44 false,gp 51 (.pk 44 (.c (.b true)) 50)] [0,2,4,51] [0,4]) (.ite 51 (.sq (.rg [] [gA 6 (.c (.b false))] [6] []) .rt) .sk)) QN))
def QP:AC:=.kp [0,2,4] [0,4] QO
def QQ:AC:=(.sq (.sq (.dg [] [] [gL (gM 30 0) [0] [],gL (gp 31 (.nc 30)) [30] [],gL (gF 32 0 31) [31] [],⟨gQ 33 32,true,[32],[],true,[],[],[]⟩,gL (gF 34 3 4) [4] [],gV (gp 35 (.ld (some 3) 34)) [34] [4] [],gH (gp 36 (.c3 148 [33,35]))] [0,2,4,36] [0,4]) (.ite 36 .sk (.ex 0))) QP)
def J2:bY:=⟨[0,2,4],[0,4],QQ⟩
def QR:AC:=(.sq (.bl 0 J2.lp) (.sq (.rg [] [gA 6 (.c (.b true))] [6] []) .rt))
def QS:AC:=.kp [0,2,4] [0,4] QR
def LK:bE:=⟨(.sq (.rg [] [gp 4 (.bx 1),gA 6 (.c (.b false))] [0,2,4] [0,4]) (.sq (.rg [] [gM 9 0,gF 10 3 4,gp 11 (.ld (some 3) 10),gp 12 (.c2 146 [9,11])] [0,2,4] [0,4]) (.sq (.sq (.rg [] [gF 13 0 4,gQ 14 13,gB 15 .eql 14 (kI 7)] [0,2,4,15] [0,4]) (.ite 15 (.sq (.dg [] [] [gL (gM 17 0) [0] [],gL (gp 18 (.nc 17)) [17] [],gL (gF 19 0 18) [18] [],⟨gQ 20 19,true,[19],[],true,[],[],[]⟩,gV (gp 21 (.ld (some 9) 4)) [4] [4] [],gL (gM 22 2) [2] [],⟨gp 23 (.c3 147 [20,21,22]),true,[20,21,22],[],true,[],[],[]⟩,gL (gM 16 23) [23] [],gL (gp 24 (.ex 16 0)) [16] [],gL (gp 25 (.ex 16 1)) [16] [],gL (gA 7 24) [24] [],gH (gA 8 25)] [0,7,8] [0]) (.sq (.rg [] [gM 26 0,gM 27 7,gM 28 8,gp 29 (.c2 23 [26,27,28]),gA 6 29] [6] []) .rt)) .sk)) QS))),[.t 6]⟩
def QT:AC:=(.sq (.rg [] [gM 71 0,gp 72 (.ld (some 9) 3),gp 73 (.c2 150 [71,72]),gA 4 73] [4] []) .rt)
def QU:AC:=.kp [0,3] [0,3] QT
def LL:bE:=⟨(.sq (.rg [] [gp 3 (.bx 1),gA 4 (.c (.b false))] [0,3] [0,3]) (.sq (.sq (.rg [] [gF 6 0 3,gQ 7 6] [0,3,7] [0,3]) (.bl 0 (.sq (.rg [] [gB 9 .eql 7 (kI 1),gA 8 9] [0,3,7,8] [0,3]) (.ite 8 (.sq (.dg [] [] [gL (gM 10 0) [0] [],gL (gF 11 1 3) [3] [],gV (gQ 12 11) [11] [3] [],gL (gM 13 0) [0] [],gL (gF 14 3 3) [3] [],gV (gp 15 (.ld (some 3) 14)) [14] [3] [],⟨gp 16 (.c3 144 [13,15]),true,[13,15],[],true,[],[],[]⟩,gH (gp 17 (.c2 143 [10,12,16])),gH (gA 4 17)] [4] []) .rt) (.sq (.rg [] [gB 19 .eql 7 (kI 3),gA 18 19] [0,3,7,18] [0,3]) (.ite 18 (.sq (.dg [] [5] [gL (gM 20 0) [0] [5],gL (gp 21 (.nc 20)) [20] [5],gL (gF 22 1 21) [21] [5],gL (gF 23 0 22) [22] [5],⟨gp 24 (.ld (some 2) 23),true,[23],[],true,[],[5],[]⟩,gL (gM 25 0) [0] [5],gL (gp 26 (.nc 25)) [25] [5],gL (gF 27 1 26) [26] [5],gL (gF 28 3 27) [27] [5],⟨gQ 29 28,true,[28],[],true,[],[5],[]⟩,gL (gF 30 2 3) [3] [5],gV (gQ 31 30) [30] [3] [5],⟨gp 32 (.ia 2 none 29 31),true,[29,31],[],true,[],[5],[]⟩,⟨gp 33 (.ld (some 2) 32),true,[32],[],true,[],[5],[]⟩,gL (gp 34 (.ca 0 44 [24,33])) [24,33] [5],gL (gp 5 (.al [(.l 4 []),(.l 4 [])])) [] [],gH (gS 2 5 34)] [0,3,5] [0,3,5]) (.sq (.dg [] [] [gL (gM 35 0) [0] [],⟨gp 36 (.c3 149 [35]),true,[35],[],true,[],[],[]⟩,gV (gp 37 (.ld (some 2) 5)) [5] [5] [],gL (gp 38 (.ca 0 46 [36,37])) [36,37] [],gL (gM 39 38) [38] [],gL (gg 40 (.mv 0) 39 true) [0] [],gL (gg 41 (.fa 1 3) 39 true) [3] [],gV (gg 42 (.ld none 41) 39 true) [41] [3] [],gL (gg 43 (.mv 0) 39 true) [0] [],⟨gg 44 (.c3 149 [43]) 39 true,true,[43],[],true,[],[],[]⟩,gV (gg 45 (.ld (some 2) 5) 39 true) [5] [5] [],gL (gg 46 (.ca 0 62 [44,45]) 39 true) [44,45] [],gH (gg 47 (.c2 143 [40,42,46]) 39 true),gH (gp 48 (.pk 39 47 (.c (.b false)))),gH (gA 4 48)] [4] []) .rt)) (.sq (.rg [] [gB 50 .eql 7 (kI 4),gA 49 50] [0,3,49] [0,3]) (.ite 49 (.sq (.dg [] [] [gL (gM 51 0) [0] [],gL (gF 52 3 3) [3] [],gV (gp 53 (.ld (some 3) 52)) [52] [3] [],⟨gp 54 (.c3 144 [51,53]),true,[51,53],[],true,[],[],[]⟩,gL (gM 55 0) [0] [],gL (gp 56 (.nc 55)) [55] [],gL (gF 57 1 56) [56] [],gL (gF 58 0 57) [57] [],⟨gp 59 (.ld (some 2) 58),true,[58],[],true,[],[],[]⟩,gL (gM 60 0) [0] [],gL (gp 61 (.nc 60)) [60] [],gL (gF 62 1 61) [61] [],gL (gF 63 4 62) [62] [],⟨gQ 64 63,true,[63],[],true,[],[],[]⟩,gL (gF 65 2 3) [3] [],gV (gQ 66 65) [65] [3] [],⟨gp 67 (.ia 2 none 64 66),true,[64,66],[],true,[],[],[]⟩,⟨gp 68 (.ld (some 2) 67),true,[67],[],true,[],[],[]⟩,gH (gp 69 (.ca 0 44 [59,68])),gH (gp 70 (.ca 0 46 [54,69])),gH (gA 4 70)] [4] []) .rt) .sk)))))))) QU)),[.t 4]⟩
def LM:bE:=⟨(.sq (.rg [] [gA 4 (.c (.b false))] [0,1] [0]) (.sq (.dg [] [] [gL (gM 5 0) [0] [],gL (gp 6 (.nc 5)) [5] [],gL (gF 7 0 6) [6] [],⟨gQ 8 7,true,[7],[],true,[],[],[]⟩,gL (gM 9 0) [0] [],gL (gp 10 (.nc 9)) [9] [],gL (gF 11 0 10) [10] [],⟨gQ 12 11,true,[11],[],true,[],[],[]⟩,gL (gM 13 1) [1] [],gL (gp 14 (.nc 8)) [8] [],gL (gF 15 11 14) [14] [],gL (gF 16 4 15) [15] [],⟨gS 1 16 (kI 3),true,[16],[],true,[],[],[]⟩,gH (gp 17 (.nc 12)),gH (gF 18 11 17),gH (gF 19 5 18),gH (gS 1 19 13)] [] []) (.sq (.rg [] [gA 4 (.c (.b false))] [4] []) .rt))),[.t 4]⟩
def J3:AC:=(.sq (.dg [] [] [gL (gM 44 0) [0] [],gL (gp 45 (.nc 44)) [44] [],gL (gF 46 11 45) [45] [],gL (gF 47 2 46) [46] [],⟨gQ 48 47,true,[47],[],true,[],[],[]⟩,gL (gF 49 2 4) [4] [],gV (gQ 50 49) [49] [4] [],gH (gp 51 (.ia 1 none 48 50)),gH (gQ 52 51),gH (gB 53 .add 52 (kI 1)),gH (gp 54 (.ia 1 none 48 50)),gH (gS 1 54 53)] [0,4,6] [0,4]) (.sq (.dg [] [] [gL (gM 55 0) [0] [],gL (gp 56 (.nc 55)) [55] [],gL (gF 57 11 56) [56] [],gL (gF 58 1 57) [57] [],⟨gQ 59 58,true,[58],[],true,[],[],[]⟩,gL (gF 60 1 4) [4] [],gV (gQ 61 60) [60] [4] [],gL (gM 62 6) [6] [],gH (gp 63 (.ia 1 none 59 61)),gH (gS 1 63 62)] [] []) .rt))
def QV:AC:=.kp [0,4,6] [0,4] J3
def J4:AC:=(.sq (.rg [] [gF 84 0 4,gQ 85 84] [0,2,4,8,85] [0,4]) (.bl 0 (.sq (.rg [] [gB 87 .eql 85 (kI 4),gA 86 87] [0,2,4,8,85,86] [0,4]) (.ite 86 (.rg [] [gM 88 0,gM 89 2,gF 90 2 4,gQ 91 90,gM 92 8,gp 93 (.c2 151 [88,(kI 1),89,91,92])] [] []) (.sq (.rg [] [gB 95 .eql 85 (kI 5),gA 94 95] [0,2,4,8,85,94] [0,4]) (.ite 94 (.rg [] [gM 96 0,gM 97 2,gF 98 1 4,gQ 99 98,gM 100 8,gp 101 (.c2 151 [96,(kI 2),97,99,100])] [] []) (.sq (.rg [] [gB 103 .eql 85 (kI 6),gA 102 103] [0,2,4,8,102] [0,4]) (.ite 102 (.rg [] [gM 104 0,gM 105 2,gF 106 1 4,gQ 107 106,gM 108 8,gp 109 (.c2 151 [104,(kI 3),105,107,108])] [] []) .sk))))))))
def QW:AC:=.kp [0,2,4,8] [0,4] J4
def QX:AC:=(.sq (.dg [] [] [gL (gF 64 3 4) [4] [],gV (gp 65 (.ld (some 3) 64)) [64] [4] [],gL (gM 66 0) [0] [],gL (gp 67 (.nc 66)) [66] [],gL (gF 68 11 67) [67] [],gL (gF 69 1 68) [68] [],⟨gQ 70 69,true,[69],[],true,[],[],[]⟩,gH (gp 71 (.ca 0 92 [65,70])),gH (gA 8 71)] [0,2,4,8] [0,4]) (.sq (.sq (.rg [] [gF 72 0 4,gQ 73 72,gB 74 .neq 73 (kI 4)] [0,2,4,8,74] [0,4]) (.ite 74 (.dg [] [] [gL (gM 75 0) [0] [],gL (gp 76 (.nc 75)) [75] [],gL (gF 77 11 76) [76] [],gL (gF 78 1 77) [77] [],⟨gQ 79 78,true,[78],[],true,[],[],[]⟩,gL (gF 80 1 4) [4] [],gV (gQ 81 80) [80] [4] [],gL (gM 82 8) [8] [],gH (gp 83 (.ia 1 none 79 81)),gH (gS 1 83 82)] [0,2,4,8] [0,4]) .sk)) QW))
def QY:AC:=.kp [0,2,4] [0,4] QX
def LN:bE:=⟨(.sq (.rg [] [gp 4 (.bx 1)] [0,2,4] [0,4]) (.sq (.sq (.rg [] [gF 9 0 4,gQ 10 9,gB 11 .eql 10 (kI 3)] [0,2,4,11] [0,4]) (.ite 11 (.sq (.dg [] [] [gL (gM 12 0) [0] [],gL (gp 13 (.nc 12)) [12] [],gL (gF 14 8 13) [13] [],⟨gQ 15 14,true,[14],[],true,[],[],[]⟩,gL (gF 16 2 4) [4] [],gV (gQ 17 16) [16] [4] [],⟨gp 18 (.ia 1 none 15 17),true,[15,17],[],true,[],[],[]⟩,⟨gQ 19 18,true,[18],[],true,[],[],[]⟩,gL (gA 6 (kI 0)) [] [],gH (gA 7 19)] [0,4,6,7] [0,4]) (.sq (.sq (.dg [] [] [gL (gM 20 0) [0] [],gL (gp 21 (.nc 20)) [20] [],gL (gF 22 11 21) [21] [],gL (gF 23 2 22) [22] [],⟨gQ 24 23,true,[23],[],true,[],[],[]⟩,gL (gF 25 2 4) [4] [],gV (gQ 26 25) [25] [4] [],⟨gp 27 (.ia 1 none 24 26),true,[24,26],[],true,[],[],[]⟩,⟨gQ 28 27,true,[27],[],true,[],[],[]⟩,gL (gM 29 7) [7] [],gL (gp 30 (.ln false 29)) [29] [],gH (gB 31 .lss 28 30)] [0,4,6,7,31] [0,4]) (.ite 31 (.dg [] [] [gL (gM 32 7) [7] [],gL (gM 33 0) [0] [],gL (gp 34 (.nc 33)) [33] [],gL (gF 35 11 34) [34] [],gL (gF 36 2 35) [35] [],⟨gQ 37 36,true,[36],[],true,[],[],[]⟩,gL (gF 38 2 4) [4] [],gV (gQ 39 38) [38] [4] [],⟨gp 40 (.ia 1 none 37 39),true,[37,39],[],true,[],[],[]⟩,⟨gQ 41 40,true,[40],[],true,[],[],[]⟩,gH (gp 42 (.ia 1 none 32 41)),gH (gQ 43 42),gH (gA 6 43)] [0,4,6] [0,4]) .sk)) QV)) .sk)) QY)),[]⟩
def LO:bE:=⟨(.sq (.rg [] [gA 4 (.c (.b false))] [0,1] []) (.sq (.rg [] [gM 5 0,gM 6 1,gp 7 (.c2 154 [5,6]),gB 8 .geq 7 (kI 0),gA 4 8] [4] []) .rt)),[.t 4]⟩
def LP:bE:=⟨(.sq (.rg [] [gp 2 (.bx 0),gA 3 (.c (.b false))] [1,2] [1,2]) (.sq (.rg [] [gp 4 (.ld (some 2) 1),gF 5 0 2,gQ 6 5,gp 7 (.ca 0 123 [4,6]),gp 8 (.no 7),gM 9 8,gg 10 (.ld (some 2) 1) 9 false,gg 11 (.fa 1 2) 9 false,gg 12 (.ld none 11) 9 false,gg 13 (.ca 0 123 [10,12]) 9 false,gg 14 (.no 13) 9 false,gp 15 (.pk 9 (.c (.b true)) 14),gA 3 15] [3] []) .rt)),[.t 3]⟩
def LQ:bE:=⟨(.sq (.rg [] [gp 2 (.bx 0),gA 4 (.c (.b false))] [1,2] [2]) (.sq (.rg [] [gM 5 1,gB 6 .geq 5 (kI 0),gM 7 6,gg 8 (.mv 1) 7 true,gg 9 (.fa 0 2) 7 true,gg 10 (.ld none 9) 7 true,gg 11 (.bo .lss false 8 10) 7 true,gp 12 (.pk 7 11 (.c (.b false))),gA 4 12] [4] []) .rt)),[.t 4]⟩
def QZ:AC:=(.sq (.bl 2 (.sq (.dg [] [] [gL (gF 29 1 3) [3] [],gV (gQ 30 29) [29] [3] [],gL (gM 31 5) [5] [],gV (gp 32 (.ia 1 none 30 31)) [30,31] [3] [],gV (gQ 33 32) [32] [3] [],gL (gF 34 1 3) [3] [],gV (gQ 35 34) [34] [3] [],gL (gM 36 5) [5] [],gL (gB 37 .sub 36 (kI 1)) [36] [],gV (gp 38 (.ia 1 none 35 37)) [35,37] [3] [],gV (gQ 39 38) [38] [3] [],gH (gB 40 .leq 33 39)] [3,5,40] [3]) (.ite 40 (.sq (.rg [] [gA 4 (kI 4)] [4] []) .rt) .sk))) (.rg [] [gM 27 5,gB 28 .add 27 (kI 1),gA 5 28] [3,5] [3]))
def Q0:AC:=.kp [3,5] [3] QZ
def Q1:AC:=(.sq (.sq (.rg [] [gM 22 5,gF 23 1 3,gQ 24 23,gp 25 (.ln false 24),gB 26 .lss 22 25] [3,5,26] [3]) (.ite 26 .sk (.ex 1))) Q0)
def J5:bY:=⟨[3,5],[3],Q1⟩
def Q2:AC:=(.sq (.sq (.rg [] [gA 5 (kI 1)] [3,5] [3]) (.bl 1 J5.lp)) (.sq (.rg [] [gA 4 (kI 0)] [4] []) .rt))
def Q3:AC:=.kp [3] [3] Q2
def LR:bE:=⟨(.sq (.rg [] [gp 2 (.bx 0),gp 3 (.bx 1),gA 4 (kI 0)] [2,3] [2,3]) (.sq (.bl 0 (.sq (.rg [] [gp 7 (.ld (some 2) 2),gF 8 0 3,gQ 9 8,gp 10 (.ca 0 123 [7,9]),gp 11 (.no 10),gA 6 11] [2,3,6] [2,3]) (.ite 6 (.sq (.rg [] [gA 4 (kI 5)] [4] []) .rt) (.sq (.rg [] [gF 13 1 3,gQ 14 13,gp 15 (.ln false 14),gB 16 .gtr 15 (kI 6),gA 12 16] [2,3,12] [2,3]) (.ite 12 (.sq (.rg [] [gA 4 (kI 2)] [4] []) .rt) (.sq (.rg [.fzB 2 true] [gF 18 1 3,gQ 19 18,gp 20 (.mf 155 [2]),gp 21 (.c2 55 [19,20]),gA 17 21] [3,17] [3]) (.ite 17 (.sq (.rg [] [gA 4 (kI 5)] [4] []) .rt) .sk))))))) Q3)),[.t 4]⟩
def Q4:AC:=(.sq (.bl 1 (.sq (.rg [] [gM 10 8,gA 5 10] [0,1,5,7,8] []) (.sq (.rg [] [gM 11 1,gM 12 0,gM 13 5,gp 14 (.ia 2 none 12 13),gp 15 (.ld (some 2) 14),gp 16 (.d2 11 [15])] [0,1,5,7,8,16] []) (.ite 16 (.sq (.rg [] [gM 17 5,gA 4 17] [4] []) .rt) .sk)))) (.rg [] [gB 18 .add 8 (kI 1),gM 8 18] [0,1,7,8] []))
def Q5:AC:=.kp [0,1,7,8] [] Q4
def Q6:AC:=(.sq (.rg [] [gB 9 .lss 8 7] [0,1,7,8,9] []) (.sq (.ite 9 .sk (.ex 0)) Q5))
def FI:bY:=⟨[0,1,7,8],[],Q6⟩
def LS:bE:=⟨(.sq (.rg [] [gA 4 (kI 0)] [0,1] []) (.sq (.sq (.rg [] [gM 6 0,gp 7 (.ln false 6),gM 8 (kI 0)] [0,1,7,8] []) (.bl 0 FI.lp)) (.sq (.rg [] [gA 4 (kI (-1))] [4] []) .rt))),[.t 4]⟩
def Q7:AC:=(.sq (.rg [] [gM 23 0,gp 24 (.ld (some 9) 4),gM 25 2,gp 26 (.c2 107 [23,24,25])] [] []) (.sq (.rg [] [gA 6 (.c (.b true))] [6] []) .rt))
def Q8:AC:=.kp [0,2,4] [0,4] Q7
def Q9:AC:=(.sq (.sq (.rg [] [gF 16 0 4,gQ 17 16,gB 18 .geq 17 (kI 7)] [0,2,4,18] [0,4]) (.ite 18 (.sq (.rg [] [gM 19 0,gp 20 (.ld (some 9) 4),gM 21 2,gp 22 (.c2 157 [19,20,21]),gA 6 22] [6] []) .rt) .sk)) Q8)
def Ra:AC:=.kp [0,2,4] [0,4] Q9
def Rb:AC:=(.sq (.sq (.rg [] [gF 10 0 4,gQ 11 10,gB 12 .eql 11 (kI 2)] [0,2,4,12] [0,4]) (.ite 12 (.sq (.rg [] [gM 13 0,gp 14 (.ld (some 9) 4),gp 15 (.c2 156 [13,14]),gA 6 15] [6] []) .rt) .sk)) Ra)
def Rc:AC:=.kp [0,2,4] [0,4] Rb
def LU:bE:=⟨(.sq (.rg [] [gp 4 (.bx 1),gA 6 (.c (.b false))] [0,2,4] [0,4]) (.sq (.sq (.rg [] [gM 7 0,gp 8 (.c2 102 [7]),gp 9 (.no 8)] [0,2,4,9] [0,4]) (.ite 9 (.sq (.rg [] [gA 6 (.c (.b false))] [6] []) .rt) .sk)) Rc)),[.t 6]⟩
def Rd:AC:=(.rg [] [gM 18 5,gp 19 (.ld (some 3) 7),gM 20 1,gM 21 5,gB 22 .sub 20 21,gp 23 (.ca 0 128 [19,22]),gB 24 .add 18 23,gA 5 24] [1,5,9,10,11] [])
def Re:AC:=.kp [1,5,7,9,10,11] [7] Rd
def Rf:AC:=(.sq (.bl 1 (.sq (.rg [] [gp 13 (.ia 3 none 9 11),gp 14 (.ld (some 3) 13),gp 7 (.al [(.i .i64 0),(.i .i64 0),(.l 86 [])]),gS 3 7 14] [1,5,7,9,10,11] [7]) (.sq (.sq (.rg [] [gM 15 5,gM 16 1,gB 17 .gtr 15 16] [1,5,7,9,10,11,17] [7]) (.ite 17 (.ex 0) .sk)) Re))) (.rg [] [gB 25 .add 11 (kI 1),gM 11 25] [1,5,9,10,11] []))
def Rg:AC:=.kp [1,5,9,10,11] [] Rf
def Rh:AC:=(.sq (.rg [] [gB 12 .lss 11 10] [1,5,9,10,11,12] []) (.sq (.ite 12 .sk (.ex 0)) Rg))
def J6:bY:=⟨[1,5,9,10,11],[],Rh⟩
def LV:bE:=⟨(.sq (.rg [] [gp 2 (.bx 0),gA 4 (kI 0)] [1,2] [2]) (.sq (.rg [] [gA 5 (kI 1)] [1,2,5] [2]) (.sq (.sq (.rg [] [gF 8 2 2,gQ 9 8,gp 10 (.ln false 9),gM 11 (kI 0)] [1,5,9,10,11] []) (.bl 0 J6.lp)) (.sq (.rg [] [gM 26 5,gA 4 26] [4] []) .rt)))),[.t 4]⟩
def Ri:AC:=(.sq (.bl 1 (.sq (.rg [] [gp 20 (.ia 3 none 16 18),gp 21 (.ld (some 3) 20),gp 7 (.al [(.i .i64 0),(.i .i64 0),(.l 86 [])]),gS 3 7 21] [1,7,16,17,18] [7]) (.sq (.rg [] [gp 22 (.ld (some 3) 7),gM 23 1,gp 24 (.ca 0 129 [22,23]),gA 8 24] [1,8,16,17,18] []) (.sq (.rg [] [gM 25 8,gB 26 .neq 25 (kI 0)] [1,8,16,17,18,26] []) (.ite 26 (.sq (.rg [] [gM 27 8,gA 4 27] [4] []) .rt) .sk))))) (.rg [] [gB 28 .add 18 (kI 1),gM 18 28] [1,16,17,18] []))
def Rj:AC:=.kp [1,16,17,18] [] Ri
def Rk:AC:=(.sq (.rg [] [gB 19 .lss 18 17] [1,16,17,18,19] []) (.sq (.ite 19 .sk (.ex 0)) Rj))
def J7:bY:=⟨[1,16,17,18],[],Rk⟩
def Rl:AC:=(.sq (.sq (.rg [] [gF 15 2 2,gQ 16 15,gp 17 (.ln false 16),gM 18 (kI 0)] [1,16,17,18] []) (.bl 0 J7.lp)) (.sq (.rg [] [gA 4 (kI 0)] [4] []) .rt))
def Rm:AC:=.kp [1,2] [2] Rl
def LX:bE:=⟨(.sq (.rg [] [gp 2 (.bx 0),gA 4 (kI 0)] [1,2] [2]) (.sq (.sq (.rg [] [gp 9 (.ld (some 3) 2),gM 10 1,gp 11 (.ca 0 158 [9,10]),gA 5 11] [1,2,5] [2]) (.sq (.rg [] [gM 12 5,gB 13 .neq 12 (kI 0)] [1,2,5,13] [2]) (.ite 13 (.sq (.rg [] [gM 14 5,gA 4 14] [4] []) .rt) .sk))) Rm)),[.t 4]⟩
def LY:bE:=⟨(.sq (.rg [] [gA 2 (kI 0)] [0] []) (.sq (.sq (.rg [] [gM 3 0] [3] []) (.ite 3 (.sq (.rg [] [gA 2 (kI 1)] [2] []) .rt) .sk)) (.sq (.rg [] [gA 2 (kI 0)] [2] []) .rt))),[.t 2]⟩
def LZ:bE:=⟨(.sq (.rg [] [gA 3 (.c (.b false))] [0,1] [1]) (.sq (.rg [] [gF 4 0 1,gp 5 (.ld (some 2) 4),gM 6 0,gp 7 (.ca 0 123 [5,6]),gp 8 (.no 7),gA 3 8] [3] []) .rt)),[.t 3]⟩
def Rn:AC:=(.sq (.bl 1 (.sq (.rg [] [gp 13 (.ia 1 none 9 11),gQ 14 13,gA 5 14] [0,3,5,9,10,11] []) (.sq (.rg [] [gM 15 3,gM 16 5,gp 17 (.ln false 16),gB 18 .add 15 17,gA 3 18] [0,3,9,10,11] []) (.sq (.rg [] [gM 19 3,gB 20 .lss 19 (kI 0)] [0,3,9,10,11,20] []) (.ite 20 .bad .sk))))) (.rg [] [gB 22 .add 11 (kI 1),gM 11 22] [0,3,9,10,11] []))
def Ro:AC:=.kp [0,3,9,10,11] [] Rn
def Rp:AC:=(.sq (.rg [] [gB 12 .lss 11 10] [0,3,9,10,11,12] []) (.sq (.ite 12 .sk (.ex 0)) Ro))
def J8:bY:=⟨[0,3,9,10,11],[],Rp⟩
def Rq:AC:=(.sq (.bl 3 (.sq (.rg [] [gp 29 (.ia 1 none 25 27),gQ 30 29,gA 8 30] [6,8,25,26,27] []) (.rg [] [gM 31 6,gM 32 8,gp 33 (.ap 49 2 48 31 32),gA 6 33] [6,25,26,27] []))) (.rg [] [gB 34 .add 27 (kI 1),gM 27 34] [6,25,26,27] []))
def Rr:AC:=.kp [6,25,26,27] [] Rq
def Rs:AC:=(.sq (.rg [] [gB 28 .lss 27 26] [6,25,26,27,28] []) (.sq (.ite 28 .sk (.ex 2)) Rr))
def J9:bY:=⟨[6,25,26,27],[],Rs⟩
def Rt:AC:=(.sq (.rg [] [gM 23 3,gp 24 (.cr 49 159 [(.c .n),23]),gA 6 24] [0,6] []) (.sq (.sq (.rg [.own 6 49] [gM 25 0,gp 26 (.ln false 25),gM 27 (kI 0)] [6,25,26,27] []) (.bl 2 J9.lp)) (.sq (.rg [] [gM 35 6,gA 2 35] [2,6] []) .rt)))
def Ru:AC:=.kp [0,3] [] Rt
def L0:bE:=⟨(.sq (.rg [] [gA 2 (.c (.l 49 []))] [0] []) (.sq (.rg [] [gA 3 (kI 0)] [0,3] []) (.sq (.sq (.rg [] [gM 9 0,gp 10 (.ln false 9),gM 11 (kI 0)] [0,3,9,10,11] []) (.bl 0 J8.lp)) Ru))),[.t 2]⟩
def L1:bE:=⟨(.sq (.rg [] [gA 4 (.c (.b false))] [0,1] []) (.sq (.rg [] [gM 5 0,gM 6 1,gp 7 (.c2 160 [5,6]),gB 8 .geq 7 (kI 0),gA 4 8] [4] []) .rt)),[.t 4]⟩
def L2:bE:=⟨(.sq (.rg [] [gp 1 (.bx 0),gA 2 (.c (.b false))] [1] [1]) (.sq (.rg [] [gF 3 0 1,gQ 4 3,gp 5 (.no 4),gM 6 5,gg 7 (.fa 1 1) 6 true,gg 8 (.fa 0 7) 6 true,gg 9 (.ld none 8) 6 true,gg 10 (.ln false 9) 6 true,gg 11 (.fa 1 1) 6 true,gg 12 (.fa 1 11) 6 true,gg 13 (.ld none 12) 6 true,gg 14 (.ln false 13) 6 true,gg 15 (.bo .add false 10 14) 6 true,gg 16 (.bo .gtr false 15 (kI 0)) 6 true,gp 17 (.pk 6 16 (.c (.b false))),gA 2 17] [2] []) .rt)),[.t 2]⟩
def L3:bE:=⟨(.sq (.rg [] [gp 3 (.bx 0),gA 5 (.c (.b false))] [1,2] [2]) (.sq (.rg [] [gQ 6 2,gB 7 .add 6 (kI 1),gS 1 2 7] [1,2] [2]) (.sq (.rg [] [gQ 8 2,gB 9 .leq 8 (kI 50),gM 10 9,gg 11 (.mv 1) 10 true,gg 12 (.bo .leq false 11 (kI 6)) 10 true,gp 13 (.pk 10 12 (.c (.b false))),gA 5 13] [5] []) .rt))),[.t 5]⟩
def L4:bE:=⟨(.sq (.rg [] [gA 4 (.c (.b false))] [0,1] []) (.sq (.rg [] [gM 5 0,gM 6 1,gp 7 (.ca 0 161 [5,6]),gB 8 .geq 7 (kI 0),gA 4 8] [4] []) .rt)),[.t 4]⟩
def L5:bE:=⟨(.sq (.rg [] [gp 4 (.bx 0),gA 6 (.c (.b false))] [2,3,4] [2,3,4]) (.sq (.rg [] [gQ 7 2,gp 8 (.ld (some 9) 4),gp 9 (.c3 138 [7,8]),gS 1 3 9] [3] [3]) (.sq (.rg [] [gQ 10 3,gB 11 .eql 10 (kI 0),gA 6 11] [6] []) .rt))),[.t 6]⟩
def Rv:AC:=(.sq (.bl 2 (.sq (.rg [] [gp 175 (.ia 3 none 171 173),gp 176 (.ld (some 3) 175),gp 13 (.al [(.i .i64 0),(.i .i64 0),(.l 86 [])]),gS 3 13 176] [0,13,171,172,173] [0,13]) (.sq (.dg [] [] [gV (gp 177 (.ld (some 3) 13)) [13] [13] [],gL (gM 178 0) [0] [],gL (gp 179 (.nc 178)) [178] [],gL (gF 180 0 179) [179] [],gL (gF 181 5 180) [180] [],⟨gQ 182 181,true,[181],[],true,[],[],[]⟩,⟨gp 183 (.ln false 182),true,[182],[],true,[],[],[]⟩,gH (gp 184 (.ca 0 90 [177,183])),gH (gA 14 184)] [0,14,171,172,173] [0]) (.sq (.rg [] [gM 185 14,gB 186 .neq 185 (kI 0)] [0,14,171,172,173,186] [0]) (.ite 186 (.sq (.rg [] [gM 187 14,gA 4 187] [4] []) .rt) .sk))))) (.rg [] [gB 188 .add 173 (kI 1),gM 173 188] [0,171,172,173] [0]))
def Rw:AC:=.kp [0,171,172,173] [0] Rv
def Rx:AC:=(.sq (.rg [] [gB 174 .lss 173 172] [0,171,172,173,174] [0]) (.sq (.ite 174 .sk (.ex 1)) Rw))
def Ka:bY:=⟨[0,171,172,173],[0],Rx⟩
def Kb:AC:=(.sq (.sq (.rg [] [gF 170 6 3,gQ 171 170,gp 172 (.ln false 171),gM 173 (kI 0)] [0,171,172,173] [0]) (.bl 1 Ka.lp)) (.sq (.rg [] [gA 4 (kI 0)] [4] []) .rt))
def Ry:AC:=.kp [0,3] [0,3] Kb
def Kc:AC:=(.sq (.sq (.rg [] [gM 157 8] [0,3,157] [0,3]) (.ite 157 (.sq (.dg [] [] [gL (gF 158 3 3) [3] [],gV (gp 159 (.ld (some 3) 158)) [158] [3] [],gL (gM 160 0) [0] [],gL (gp 161 (.nc 160)) [160] [],gL (gF 162 0 161) [161] [],gL (gF 163 5 162) [162] [],⟨gQ 164 163,true,[163],[],true,[],[],[]⟩,⟨gp 165 (.ln false 164),true,[164],[],true,[],[],[]⟩,gH (gp 166 (.ca 0 90 [159,165])),gH (gA 11 166)] [0,3,11] [0,3]) (.sq (.rg [] [gM 167 11,gB 168 .neq 167 (kI 0)] [0,3,11,168] [0,3]) (.ite 168 (.sq (.rg [] [gM 169 11,gA 4 169] [4] []) .rt) .sk))) .sk)) Ry)
def Rz:AC:=.kp [0,3,8] [0,3] Kc
def RA:AC:=(.sq (.rg [] [gM 24 5,gp 25 (.ca 0 162 [24]),gM 23 25,gp 26 (.ex 23 0),gp 27 (.ex 23 1),gp 28 (.ex 23 2),gA 6 26,gA 7 27,gA 8 28] [0,3,5,6,7,8] [0,3]) (.sq (.rg [] [gM 29 5,gB 30 .geq 29 (kI 7),gA 9 30] [0,3,5,6,7,8,9] [0,3]) (.sq (.rg [] [gF 31 3 3,gF 32 0 31,gQ 33 32,gB 34 .eql 33 (kI 0),gM 35 34,gg 36 (.fa 3 3) 35 true,gg 37 (.fa 1 36) 35 true,gg 38 (.ld none 37) 35 true,gg 39 (.bo .eql false 38 (kI 0)) 35 true,gp 40 (.pk 35 39 (.c (.b false))),gM 41 40,gg 42 (.fa 3 3) 41 true,gg 43 (.fa 2 42) 41 true,gg 44 (.ld none 43) 41 true,gg 45 (.ln false 44) 41 true,gg 46 (.bo .eql false 45 (kI 0)) 41 true,gp 47 (.pk 41 46 (.c (.b false))),gA 10 47] [0,3,5,6,7,8,9,10] [0,3]) (.sq (.bl 0 (.sq (.dg [] [] [gL (gM 49 6) [6] [],gL (gM 50 49) [49] [],gL (gg 51 (.fa 1 3) 50 true) [3] [],gV (gg 52 (.ld none 51) 50 true) [51] [3] [],gL (gg 53 (.bo .lss false 52 (kI 0)) 50 true) [52] [],gL (gg 54 (.mv 53) 50 true) [53] [],gL (gg 55 (.fa 1 3) 54 false) [3] [],gV (gg 56 (.ld none 55) 54 false) [55] [3] [],gL (gg 57 (.mv 0) 54 false) [0] [],gL (gg 58 (.nc 57) 54 false) [57] [],gL (gg 59 (.fa 0 58) 54 false) [58] [],gL (gg 60 (.fa 5 59) 54 false) [59] [],⟨gg 61 (.ld none 60) 54 false,true,[60],[],true,[],[],[]⟩,⟨gg 62 (.ln false 61) 54 false,true,[61],[],true,[],[],[]⟩,gL (gg 63 (.bo .geq false 56 62) 54 false) [56,62] [],gL (gg 64 (.pk 54 (.c (.b true)) 63) 50 true) [54,63] [],gL (gp 65 (.pk 50 64 (.c (.b false)))) [50,64] [],gL (gM 66 65) [65] [],gL (gg 67 (.mv 7) 66 false) [7] [],gL (gg 68 (.mv 67) 66 false) [67] [],gL (gg 69 (.fa 2 3) 68 true) [3] [],gV (gg 70 (.ld none 69) 68 true) [69] [3] [],gL (gg 71 (.bo .lss false 70 (kI 0)) 68 true) [70] [],gL (gg 72 (.mv 71) 68 true) [71] [],gL (gg 73 (.fa 2 3) 72 false) [3] [],gV (gg 74 (.ld none 73) 72 false) [73] [3] [],gL (gg 75 (.mv 0) 72 false) [0] [],gL (gg 76 (.mv 5) 72 false) [5] [],⟨gg 77 (.c3 163 [75,76]) 72 false,true,[75,76],[],true,[],[],[]⟩,gH (gg 78 (.bo .geq false 74 77) 72 false),gH (gg 79 (.pk 72 (.c (.b true)) 78) 68 true),gH (gg 80 (.pk 68 79 (.c (.b false))) 66 false),gH (gp 81 (.pk 66 (.c (.b true)) 80)),gH (gA 48 81)] [0,3,5,6,7,8,9,10,48] [0,3]) (.ite 48 (.sq (.rg [] [gA 4 (kI 5)] [4] []) .rt) (.sq (.rg [] [gM 83 6,gp 84 (.no 83),gM 85 84,gg 86 (.fa 1 3) 85 true,gg 87 (.ld none 86) 85 true,gg 88 (.bo .neq false 87 (kI 0)) 85 true,gp 89 (.pk 85 88 (.c (.b false))),gM 90 89,gg 91 (.mv 7) 90 false,gg 92 (.no 91) 90 false,gg 93 (.mv 92) 90 false,gg 94 (.fa 2 3) 93 true,gg 95 (.ld none 94) 93 true,gg 96 (.bo .neq false 95 (kI 0)) 93 true,gg 97 (.pk 93 96 (.c (.b false))) 90 false,gp 98 (.pk 90 (.c (.b true)) 97),gM 99 98,gg 100 (.mv 8) 99 false,gg 101 (.no 100) 99 false,gg 102 (.mv 101) 99 false,gg 103 (.mv 10) 102 true,gg 104 (.no 103) 102 true,gg 105 (.pk 102 104 (.c (.b false))) 99 false,gp 106 (.pk 99 (.c (.b true)) 105),gM 107 106,gg 108 (.mv 5) 107 false,gg 109 (.bo .neq false 108 (kI 2)) 107 false,gg 110 (.mv 109) 107 false,gg 111 (.fa 6 3) 110 true,gg 112 (.ld none 111) 110 true,gg 113 (.ln false 112) 110 true,gg 114 (.bo .gtr false 113 (kI 0)) 110 true,gg 115 (.pk 110 114 (.c (.b false))) 107 false,gp 116 (.pk 107 (.c (.b true)) 115),gM 117 116,gg 118 (.mv 9) 117 false,gg 119 (.no 118) 117 false,gg 120 (.mv 119) 117 false,gg 121 (.fa 7 3) 120 true,gg 122 (.ld none 121) 120 true,gg 123 (.ln false 122) 120 true,gg 124 (.bo .gtr false 123 (kI 0)) 120 true,gg 125 (.pk 120 124 (.c (.b false))) 117 false,gp 126 (.pk 117 (.c (.b true)) 125),gM 127 126,gg 128 (.mv 5) 127 false,gg 129 (.bo .neq false 128 (kI 7)) 127 false,gg 130 (.mv 129) 127 false,gg 131 (.fa 8 3) 130 true,gg 132 (.ld none 131) 130 true,gg 133 (.ln false 132) 130 true,gg 134 (.bo .gtr false 133 (kI 0)) 130 true,gg 135 (.pk 130 134 (.c (.b false))) 127 false,gp 136 (.pk 127 (.c (.b true)) 135),gA 82 136] [0,3,5,8,82] [0,3]) (.ite 82 (.sq (.rg [] [gA 4 (kI 1)] [4] []) .rt) (.sq (.dg [] [] [gL (gM 138 5) [5] [],gL (gB 139 .eql 138 (kI 2)) [138] [],gL (gM 140 139) [139] [],gL (gg 141 (.fa 6 3) 140 true) [3] [],gV (gg 142 (.ld none 141) 140 true) [141] [3] [],gV (gg 143 (.ln false 142) 140 true) [142] [3] [],gL (gg 144 (.mv 0) 140 true) [0] [],gL (gg 145 (.nc 144) 140 true) [144] [],gL (gg 146 (.fa 0 145) 140 true) [145] [],gL (gg 147 (.fa 6 146) 140 true) [146] [],⟨gg 148 (.ld none 147) 140 true,true,[147],[],true,[],[],[]⟩,gL (gg 149 (.fa 2 3) 140 true) [3] [],gV (gg 150 (.ld none 149) 140 true) [149] [3] [],⟨gg 151 (.ia 5 none 148 150) 140 true,true,[148,150],[],true,[],[],[]⟩,⟨gg 152 (.fa 0 151) 140 true,true,[151],[],true,[],[],[]⟩,⟨gg 153 (.ld none 152) 140 true,true,[152],[],true,[],[],[]⟩,gL (gg 154 (.ln false 153) 140 true) [153] [],gH (gg 155 (.bo .neq false 143 154) 140 true),gH (gp 156 (.pk 140 155 (.c (.b false)))),gH (gA 137 156)] [0,3,8,137] [0,3]) (.ite 137 (.sq (.rg [] [gA 4 (kI 1)] [4] []) .rt) .sk))))))) Rz))))
def RB:AC:=.kp [0,3,5] [0,3] RA
def L6:bE:=⟨(.sq (.rg [] [gp 3 (.bx 1),gA 4 (kI 0)] [0,3] [0,3]) (.sq (.rg [] [gF 15 0 3,gQ 16 15,gA 5 16] [0,3,5] [0,3]) (.sq (.sq (.rg [] [gM 17 5,gB 18 .lss 17 (kI 1),gM 19 18,gg 20 (.mv 5) 19 false,gg 21 (.bo .gtr false 20 (kI 8)) 19 false,gp 22 (.pk 19 (.c (.b true)) 21)] [0,3,5,22] [0,3]) (.ite 22 (.sq (.rg [] [gA 4 (kI 7)] [4] []) .rt) .sk)) RB))),[.t 4]⟩
def RC:AC:=(.sq (.bl 1 (.sq (.rg [] [gM 26 24,gp 27 (.ia 3 none 22 24),gp 28 (.ld (some 3) 27),gp 8 (.al [(.i .i64 0),(.i .i64 0),(.l 86 [])]),gA 7 26,gS 3 8 28] [0,5,6,7,8,22,23,24] [0,8]) (.sq (.rg [] [gM 29 6,gM 30 0,gp 31 (.ld (some 3) 8),gp 32 (.c3 144 [30,31]),gz 33 (.bs 54 2 [32]),gp 34 (.ap 54 2 48 29 33),gA 6 34] [0,5,6,7,22,23,24] [0]) (.sq (.dg [] [] [gL (gM 35 0) [0] [],gL (gM 36 5) [5] [],gL (gM 37 7) [7] [],gL (gp 38 (.ia 1 none 36 37)) [36,37] [],gL (gQ 39 38) [38] [],gL (gM 40 6) [6] [],gL (gM 41 7) [7] [],gL (gp 42 (.ia 2 none 40 41)) [40,41,6] [],gL (gp 43 (.ld (some 2) 42)) [42,6] [],gH (gp 44 (.c3 164 [35,39,43])),gH (gp 45 (.no 44))] [0,5,6,22,23,24,45] [0]) (.ite 45 (.sq (.rg [] [gA 4 (.c (.b false))] [4] []) .rt) .sk))))) (.rg [] [gB 46 .add 24 (kI 1),gM 24 46] [0,5,6,22,23,24] [0]))
def RD:AC:=.kp [0,5,6,22,23,24] [0] RC
def RE:AC:=(.sq (.rg [] [gB 25 .lss 24 23] [0,5,6,22,23,24,25] [0]) (.sq (.ite 25 .sk (.ex 0)) RD))
def Kd:bY:=⟨[0,5,6,22,23,24],[0],RE⟩
def RF:AC:=(.sq (.bl 3 (.sq (.rg [] [gM 51 49,gp 52 (.ia 1 none 47 49),gQ 53 52,gA 9 51,gA 10 53] [0,6,9,10,47,48,49] [0]) (.dg [] [] [gL (gM 54 0) [0] [],gL (gp 55 (.nc 54)) [54] [],gL (gF 56 9 55) [55] [],⟨gQ 57 56,true,[56],[],true,[],[],[]⟩,gL (gM 58 10) [10] [],gL (gM 59 6) [6] [],gL (gM 60 9) [9] [],gL (gp 61 (.ia 2 none 59 60)) [59,60,6] [],gL (gp 62 (.ld (some 2) 61)) [61,6] [],gH (gp 63 (.ia 2 none 57 58)),gH (gS 2 63 62)] [0,6,47,48,49] [0]))) (.rg [] [gB 64 .add 49 (kI 1),gM 49 64] [0,6,47,48,49] [0]))
def RG:AC:=.kp [0,6,47,48,49] [0] RF
def RH:AC:=(.sq (.rg [] [gB 50 .lss 49 48] [0,6,47,48,49,50] [0]) (.sq (.ite 50 .sk (.ex 2)) RG))
def Ke:bY:=⟨[0,6,47,48,49],[0],RH⟩
def RI:AC:=(.sq (.sq (.rg [] [gM 47 5,gp 48 (.ln false 47),gM 49 (kI 0)] [0,6,47,48,49] [0]) (.bl 2 Ke.lp)) (.sq (.rg [] [gA 4 (.c (.b true))] [4] []) .rt))
def RJ:AC:=.kp [0,5,6] [0] RI
def L7:bE:=⟨(.sq (.rg [] [gp 3 (.bx 1),gA 4 (.c (.b false))] [0,3] [0,3]) (.sq (.dg [] [] [gL (gM 11 0) [0] [],gL (gp 12 (.nc 11)) [11] [],gL (gF 13 1 12) [12] [],gL (gF 14 6 13) [13] [],⟨gQ 15 14,true,[14],[],true,[],[],[]⟩,gL (gF 16 2 3) [3] [],gV (gQ 17 16) [16] [3] [],gH (gp 18 (.ia 5 none 15 17)),gH (gF 19 0 18),gH (gQ 20 19),gH (gA 5 20)] [0,3,5] [0,3]) (.sq (.rg [] [gA 6 (.c .n)] [0,3,5,6] [0,3]) (.sq (.sq (.rg [.own 6 54] [gF 21 6 3,gQ 22 21,gp 23 (.ln false 22),gM 24 (kI 0)] [0,5,6,22,23,24] [0]) (.bl 0 Kd.lp)) RJ)))),[.t 4]⟩
def RK:AC:=(.sq (.bl 1 (.sq (.rg [] [gp 14 (.ia 3 none 10 12),gp 15 (.ld (some 3) 14),gp 6 (.al [(.i .i64 0),(.i .i64 0),(.l 86 [])]),gS 3 6 15] [0,3,4,6,10,11,12] [0,3,6]) (.dg [] [24] [gL (gM 16 4) [4] [24],gV (gp 17 (.ld (some 3) 6)) [6] [6] [24],gL (gM 18 0) [0] [24],gL (gp 19 (.nc 18)) [18] [24],gL (gF 20 11 19) [19] [24],gL (gF 21 1 20) [20] [24],⟨gQ 22 21,true,[21],[],true,[],[24],[]⟩,⟨gp 23 (.ca 0 92 [17,22]),true,[17,22],[],true,[],[24],[]⟩,gL (gz 24 (.bs 3 1 [23])) [23] [],gH (gp 25 (.ap 3 1 8 16 24)),gH (gA 4 25)] [0,3,4,10,11,12] [0,3]))) (.rg [] [gB 26 .add 12 (kI 1),gM 12 26] [0,3,4,10,11,12] [0,3]))
def RL:AC:=.kp [0,3,4,10,11,12] [0,3] RK
def RM:AC:=(.sq (.rg [] [gB 13 .lss 12 11] [0,3,4,10,11,12,13] [0,3]) (.sq (.ite 13 .sk (.ex 0)) RL))
def Kf:bY:=⟨[0,3,4,10,11,12],[0,3],RM⟩
def RN:AC:=(.sq (.bl 3 (.sq (.rg [] [gM 40 38,gp 41 (.ia 1 none 36 38),gQ 42 41,gA 7 40,gA 8 42] [0,4,7,8,36,37,38] [0]) (.dg [] [] [gL (gM 43 0) [0] [],gL (gp 44 (.nc 43)) [43] [],gL (gF 45 11 44) [44] [],gL (gF 46 1 45) [45] [],⟨gQ 47 46,true,[46],[],true,[],[],[]⟩,gL (gM 48 8) [8] [],gL (gM 49 4) [4] [],gL (gM 50 7) [7] [],gL (gp 51 (.ia 1 none 49 50)) [49,50,4] [],gL (gQ 52 51) [51,4] [],gH (gp 53 (.ia 1 none 47 48)),gH (gS 1 53 52)] [0,4,36,37,38] [0]))) (.rg [] [gB 54 .add 38 (kI 1),gM 38 54] [0,4,36,37,38] [0]))
def RO:AC:=.kp [0,4,36,37,38] [0] RN
def RP:AC:=(.sq (.rg [] [gB 39 .lss 38 37] [0,4,36,37,38,39] [0]) (.sq (.ite 39 .sk (.ex 2)) RO))
def Kg:bY:=⟨[0,4,36,37,38],[0],RP⟩
def RQ:AC:=(.sq (.dg [] [] [gL (gM 27 0) [0] [],gL (gp 28 (.nc 27)) [27] [],gL (gF 29 0 28) [28] [],gL (gF 30 6 29) [29] [],⟨gQ 31 30,true,[30],[],true,[],[],[]⟩,gL (gF 32 2 3) [3] [],gV (gQ 33 32) [32] [3] [],⟨gp 34 (.ia 5 none 31 33),true,[31,33],[],true,[],[],[]⟩,⟨gF 35 0 34,true,[34],[],true,[],[],[]⟩,⟨gQ 36 35,true,[35],[],true,[],[],[]⟩,gL (gp 37 (.ln false 36)) [36] [],gL (gM 38 (kI 0)) [] []] [0,4,36,37,38] [0]) (.bl 2 Kg.lp))
def RR:AC:=.kp [0,3,4] [0,3] RQ
def L8:bE:=⟨(.sq (.rg [] [gp 3 (.bx 1)] [0,3] [0,3]) (.sq (.rg [] [gA 4 (.c .n)] [0,3,4] [0,3]) (.sq (.sq (.rg [.own 4 3] [gF 9 6 3,gQ 10 9,gp 11 (.ln false 10),gM 12 (kI 0)] [0,3,4,10,11,12] [0,3]) (.bl 0 Kf.lp)) RR))),[]⟩
def RS:AC:=(.sq (.dg [] [] [gL (gM 12 0) [0] [],gL (gp 13 (.nc 12)) [12] [],gL (gF 14 9 13) [13] [],⟨gQ 15 14,true,[14],[],true,[],[],[]⟩,gL (gM 16 1) [1] [],gV (gp 17 (.ld (some 2) 5)) [5] [5] [],gH (gp 18 (.ia 2 none 15 16)),gH (gS 2 18 17)] [] []) (.sq (.rg [] [gA 6 (.c (.b true))] [6] []) .rt))
def RT:AC:=.kp [0,1,5] [0,5] RS
def L9:bE:=⟨(.sq (.rg [] [gp 5 (.bx 2),gA 6 (.c (.b false))] [0,1,5] [0,5]) (.sq (.sq (.rg [] [gM 7 0,gM 8 1,gp 9 (.ld (some 2) 5),gp 10 (.c3 164 [7,8,9]),gp 11 (.no 10)] [0,1,5,11] [0,5]) (.ite 11 (.sq (.rg [] [gA 6 (.c (.b false))] [6] []) .rt) .sk)) RT)),[.t 6]⟩
def Ma:bE:=⟨(.sq (.rg [] [gp 3 (.bx 1),gp 4 (.al [(.l 4 []),(.l 4 [])])] [0,3,4] [0,3,4]) (.sq (.dg [] [] [gL (gM 5 0) [0] [],⟨gp 6 (.c3 149 [5]),true,[5],[],true,[],[],[]⟩,gL (gM 7 0) [0] [],gL (gp 8 (.nc 7)) [7] [],gL (gF 9 1 8) [8] [],⟨gp 10 (.ld (some 8) 9),true,[9],[],true,[],[],[]⟩,gL (gM 11 0) [0] [],gL (gp 12 (.nc 11)) [11] [],gL (gF 13 9 12) [12] [],⟨gQ 14 13,true,[13],[],true,[],[],[]⟩,gV (gp 15 (.ld (some 3) 3)) [3] [3] [],gH (gp 16 (.ca 0 165 [10,14,15])),gH (gp 17 (.ca 0 62 [6,16])),gH (gS 2 4 17)] [4] [4]) .rt)),[.c 4 (some 2)]⟩
def Mb:bE:=⟨(.sq (.rg [] [gp 3 (.bx 1)] [0,3] [0,3]) (.dg [] [] [gL (gM 4 0) [0] [],gL (gp 5 (.nc 4)) [4] [],gL (gF 6 11 5) [5] [],gL (gF 7 1 6) [6] [],⟨gQ 8 7,true,[7],[],true,[],[],[]⟩,gL (gF 9 1 3) [3] [],gV (gQ 10 9) [9] [3] [],gL (gM 11 0) [0] [],gL (gp 12 (.nc 11)) [11] [],gL (gF 13 0 12) [12] [],gL (gF 14 6 13) [13] [],⟨gQ 15 14,true,[14],[],true,[],[],[]⟩,gL (gF 16 2 3) [3] [],gV (gQ 17 16) [16] [3] [],⟨gp 18 (.ia 5 none 15 17),true,[15,17],[],true,[],[],[]⟩,⟨gF 19 2 18,true,[18],[],true,[],[],[]⟩,⟨gp 20 (.ld (some 3) 19),true,[19],[],true,[],[],[]⟩,gL (gM 21 0) [0] [],gL (gp 22 (.nc 21)) [21] [],gL (gF 23 11 22) [22] [],gL (gF 24 1 23) [23] [],⟨gQ 25 24,true,[24],[],true,[],[],[]⟩,⟨gp 26 (.ca 0 92 [20,25]),true,[20,25],[],true,[],[],[]⟩,gH (gp 27 (.ia 1 none 8 10)),gH (gS 1 27 26)] [] [])),[]⟩
def Mc:bE:=⟨(.sq (.rg [] [gp 3 (.bx 1)] [0,3] [0,3]) (.dg [] [12,13] [gL (gM 4 0) [0] [12,13],gL (gM 5 0) [0] [12,13],gL (gp 6 (.nc 5)) [5] [12,13],gL (gF 7 10 6) [6] [12,13],⟨gQ 8 7,true,[7],[],true,[],[12,13],[]⟩,gL (gM 9 0) [0] [12,13],gV (gp 10 (.ld (some 3) 3)) [3] [3] [12,13],⟨gp 11 (.c3 144 [9,10]),true,[9,10],[],true,[],[12,13],[]⟩,gL (gz 12 (.bs 54 2 [11])) [11] [13],⟨gp 13 (.ap 54 2 48 8 12),true,[8,12],[],true,[8,8],[],[]⟩,gH (gp 14 (.nc 4)),gH (gF 15 10 14),gH (gS 1 15 13)] [] [])),[]⟩
def RU:AC:=(.sq (.dg [] [] [gL (gF 16 8 4) [4] [],gV (gQ 17 16) [16] [4] [],gL (gM 18 2) [2] [],gL (gB 19 .add 18 (kI 1)) [18] [],gL (gF 20 7 4) [4] [],gV (gQ 21 20) [20] [4] [],gV (gp 22 (.ca 0 58 [21])) [21] [4] [],gL (gB 23 .add 19 22) [19,22] [],gL (gA 6 17) [17] [],gH (gA 7 23)] [6,7] []) .rt)
def RX:AC:=.kp [2,4] [4] RU
def Md:bE:=⟨(.sq (.rg [] [gp 4 (.bx 1),gA 6 (.c (.l 88 [])),gA 7 (kI 0)] [0,2,4] [0,4]) (.sq (.sq (.rg [] [gM 8 0,gF 9 3 4,gp 10 (.ld (some 3) 9),gp 11 (.c3 148 [8,10])] [2,4,11] [4]) (.ite 11 (.sq (.rg [] [gF 12 7 4,gQ 13 12,gM 14 2,gB 15 .add 14 (kI 1),gA 6 13,gA 7 15] [6,7] []) .rt) .sk)) RX)),[.t 6,.t 7]⟩
def Me:bE:=⟨(.sq (.rg [] [gp 3 (.bx 1),gA 4 (.c (.b false))] [0,3] [0,3]) (.sq (.dg [] [] [gV (gp 5 (.ld (some 3) 3)) [3] [3] [],gL (gM 6 0) [0] [],gL (gp 7 (.nc 6)) [6] [],gL (gF 8 11 7) [7] [],gL (gF 9 1 8) [8] [],⟨gQ 10 9,true,[9],[],true,[],[],[]⟩,gH (gp 11 (.ca 0 92 [5,10])),gH (gB 12 .neq 11 (kI 0)),gH (gA 4 12)] [4] []) .rt)),[.t 4]⟩
def Mf:bE:=⟨(.sq (.rg [] [gp 2 (.al [(.l 4 []),(.l 4 [])])] [0,2] [0,2]) (.sq (.dg [] [] [gL (gM 3 0) [0] [],gL (gp 4 (.nc 3)) [3] [],gL (gF 5 10 4) [4] [],⟨gQ 6 5,true,[5],[],true,[],[],[]⟩,gL (gM 7 0) [0] [],gL (gp 8 (.nc 7)) [7] [],gL (gF 9 10 8) [8] [],⟨gQ 10 9,true,[9],[],true,[],[],[]⟩,⟨gp 11 (.ln false 10),true,[10],[],true,[],[],[]⟩,gL (gB 12 .sub 11 (kI 1)) [11] [],gH (gp 13 (.ia 2 none 6 12)),gH (gp 14 (.ld (some 2) 13)),gH (gS 2 2 14)] [2] [2]) .rt)),[.c 2 (some 2)]⟩
def Kh:AC:=(.sq (.rg [] [gM 57 0,gF 58 1 3,gQ 59 58,gp 60 (.ld (some 2) 6),gp 61 (.c2 143 [57,59,60]),gA 4 61] [4] []) .rt)
def RY:AC:=.kp [0,3,6] [0,3,6] Kh
def RZ:AC:=(.sq (.dg [] [6,7] [gL (gM 36 0) [0] [6,7],gL (gp 37 (.nc 36)) [36] [6,7],gL (gF 38 1 37) [37] [6,7],gL (gF 39 0 38) [38] [6,7],⟨gp 40 (.ld (some 2) 39),true,[39],[],true,[],[6,7],[]⟩,gL (gF 41 1 5) [5] [6,7],gV (gp 42 (.ld (some 2) 41)) [41] [5] [6,7],gL (gp 43 (.ca 0 44 [40,42])) [40,42] [6,7],gL (gM 44 0) [0] [6,7],gL (gF 45 3 3) [3] [6,7],gV (gp 46 (.ld (some 3) 45)) [45] [3] [6,7],⟨gp 47 (.c3 144 [44,46]),true,[44,46],[],true,[],[6,7],[]⟩,gL (gp 6 (.al [(.l 4 []),(.l 4 [])])) [] [7],gL (gp 7 (.al [(.l 4 []),(.l 4 [])])) [] [6],gH (gS 2 6 43),gH (gS 2 7 47)] [0,3,6,7] [0,3,6,7]) (.sq (.sq (.rg [] [gF 48 0 3,gQ 49 48,gB 50 .eql 49 (kI 5)] [0,3,6,7,50] [0,3,6,7]) (.ite 50 (.rg [] [gF 51 1 7,gQ 52 51,gF 53 1 6,gS 1 53 52] [0,3,6] [0,3,6]) (.rg [] [gF 54 0 7,gQ 55 54,gF 56 0 6,gS 1 56 55] [0,3,6] [0,3,6]))) RY))
def R0:AC:=.kp [0,3,5] [0,3,5] RZ
def Mg:bE:=⟨(.sq (.rg [] [gp 3 (.bx 1),gA 4 (.c (.b false))] [0,3] [0,3]) (.sq (.dg [] [5] [gL (gM 8 0) [0] [5],gL (gp 9 (.nc 8)) [8] [5],gL (gF 10 1 9) [9] [5],gL (gF 11 5 10) [10] [5],⟨gQ 12 11,true,[11],[],true,[],[5],[]⟩,gL (gF 13 1 3) [3] [5],gV (gQ 14 13) [13] [3] [5],⟨gp 15 (.ia 3 none 12 14),true,[12,14],[],true,[],[5],[]⟩,⟨gp 16 (.ld (some 3) 15),true,[15],[],true,[],[5],[]⟩,gL (gp 5 (.al [(.b false),(.l 134 []),(.l 134 [])])) [] [],gH (gS 3 5 16)] [0,3,5] [0,3,5]) (.sq (.sq (.dg [] [] [gL (gF 17 0 5) [5] [],gV (gQ 18 17) [17] [5] [],gL (gp 19 (.no 18)) [18] [],gL (gM 20 19) [19] [],gL (gg 21 (.mv 0) 20 false) [0] [],gL (gg 22 (.nc 21) 20 false) [21] [],gL (gg 23 (.fa 11 22) 20 false) [22] [],⟨gg 24 (.ld none 23) 20 false,true,[23],[],true,[],[],[]⟩,gV (gg 25 (.ld (some 9) 3) 20 false) [3] [3] [],gH (gg 26 (.c2 166 [24,25]) 20 false),gL (gp 27 (.pk 20 (.c (.b true)) 26)) [20,26] [],gL (gM 28 27) [27] [],gL (gg 29 (.mv 0) 28 false) [0] [],gL (gg 30 (.nc 29) 28 false) [29] [],gL (gg 31 (.fa 11 30) 28 false) [30] [],⟨gg 32 (.ld none 31) 28 false,true,[31],[],true,[],[],[]⟩,gV (gg 33 (.ld (some 9) 3) 28 false) [3] [3] [],gH (gg 34 (.c2 167 [32,33]) 28 false),gH (gp 35 (.pk 28 (.c (.b true)) 34))] [0,3,5,35] [0,3,5]) (.ite 35 (.sq (.rg [] [gA 4 (.c (.b false))] [4] []) .rt) .sk)) R0))),[.t 4]⟩
def Mh:bE:=⟨(.rg [] [gM 10 0,gM 11 0,gp 12 (.nc 11),gF 13 11 12,gF 14 0 13,gQ 15 14,gM 16 1,gM 17 2,gM 18 3,gM 19 4,gp 20 (.bd [(.i .i64 0),(.i .i64 0),(.i .i64 0),(.i .i64 0)] [(0,1,16),(1,1,17),(2,1,18),(3,1,19)]),gz 21 (.bs 106 4 [20]),gp 22 (.ap 106 4 32 15 21),gp 23 (.nc 10),gF 24 11 23,gF 25 0 24,gS 1 25 22] [] []),[]⟩
def R1:AC:=(.sq (.bl 1 (.sq (.rg [] [gM 10 8,gA 5 10] [0,1,5,7,8] []) (.sq (.rg [] [gM 11 1,gM 12 0,gM 13 5,gp 14 (.ia 2 none 12 13),gp 15 (.ld (some 2) 14),gp 16 (.d2 11 [15])] [0,1,5,7,8,16] []) (.ite 16 (.sq (.rg [] [gM 17 5,gA 4 17] [4] []) .rt) .sk)))) (.rg [] [gB 18 .add 8 (kI 1),gM 8 18] [0,1,7,8] []))
def R2:AC:=.kp [0,1,7,8] [] R1
def R3:AC:=(.sq (.rg [] [gB 9 .lss 8 7] [0,1,7,8,9] []) (.sq (.ite 9 .sk (.ex 0)) R2))
def Ki:bY:=⟨[0,1,7,8],[],R3⟩
def Mi:bE:=⟨(.sq (.rg [] [gA 4 (kI 0)] [0,1] []) (.sq (.sq (.rg [] [gM 6 0,gp 7 (.ln false 6),gM 8 (kI 0)] [0,1,7,8] []) (.bl 0 Ki.lp)) (.sq (.rg [] [gA 4 (kI (-1))] [4] []) .rt))),[.t 4]⟩
def Mj:bE:=⟨(.sq (.rg [] [gA 3 (.c (.b false))] [0,1] [1]) (.sq (.rg [] [gp 4 (.ld (some 2) 1),gM 5 0,gp 6 (.ca 0 123 [4,5]),gp 7 (.no 6),gA 3 7] [3] []) .rt)),[.t 3]⟩
def R4:AC:=(.sq (.rg [] [gM 29 0,gp 30 (.ld (some 9) 3),gp 31 (.c2 145 [29,30])] [] []) (.sq (.rg [] [gA 4 (.c (.b true))] [4] []) .rt))
def R5:AC:=.kp [0,3] [0,3] R4
def Mk:bE:=⟨(.sq (.rg [] [gp 3 (.bx 1),gA 4 (.c (.b false))] [0,3] [0,3]) (.sq (.rg [] [gM 5 0,gp 6 (.ld (some 9) 3),gp 7 (.c2 142 [5,6])] [0,3] [0,3]) (.sq (.sq (.dg [] [] [gL (gM 8 0) [0] [],gL (gM 9 0) [0] [],gL (gp 10 (.nc 9)) [9] [],gL (gF 11 0 10) [10] [],gL (gF 12 6 11) [11] [],⟨gQ 13 12,true,[12],[],true,[],[],[]⟩,gL (gF 14 2 3) [3] [],gV (gQ 15 14) [14] [3] [],⟨gp 16 (.ia 5 none 13 15),true,[13,15],[],true,[],[],[]⟩,⟨gF 17 1 16,true,[16],[],true,[],[],[]⟩,⟨gQ 18 17,true,[17],[],true,[],[],[]⟩,gL (gM 19 0) [0] [],gL (gp 20 (.nc 19)) [19] [],gL (gF 21 10 20) [20] [],⟨gQ 22 21,true,[21],[],true,[],[],[]⟩,gL (gF 23 2 3) [3] [],gV (gQ 24 23) [23] [3] [],⟨gp 25 (.ia 1 none 22 24),true,[22,24],[],true,[],[],[]⟩,⟨gQ 26 25,true,[25],[],true,[],[],[]⟩,gH (gp 27 (.c2 89 [8,18,26])),gH (gp 28 (.no 27))] [0,3,28] [0,3]) (.ite 28 (.sq (.rg [] [gA 4 (.c (.b false))] [4] []) .rt) .sk)) R5))),[.t 4]⟩
def R6:AC:=(.bl 1 (.sq (.rg [] [gM 27 0,gF 28 7 4,gQ 29 28,gM 30 2,gB 31 .add 30 (kI 1),gp 32 (.c2 89 [27,29,31]),gp 33 (.no 32),gM 34 33,gg 35 (.mv 0) 34 false,gg 36 (.c2 102 [35]) 34 false,gg 37 (.no 36) 34 false,gp 38 (.pk 34 (.c (.b true)) 37)] [0,2,4,38] [0,4]) (.ite 38 (.sq (.rg [] [gA 6 (.c (.b false))] [6] []) .rt) .sk)))
def R7:AC:=.kp [0,2,4] [0,4] R6
def R8:AC:=(.sq (.sq (.rg [] [gM 23 0,gF 24 3 4,gp 25 (.ld (some 3) 24),gp 26 (.c3 148 [23,25])] [0,2,4,26] [0,4]) (.ite 26 .sk (.ex 0))) R7)
def Kj:bY:=⟨[0,2,4],[0,4],R8⟩
def R9:AC:=(.sq (.bl 0 Kj.lp) (.sq (.rg [] [gA 6 (.c (.b true))] [6] []) .rt))
def Sa:AC:=.kp [0,2,4] [0,4] R9
def Ml:bE:=⟨(.sq (.rg [] [gp 4 (.bx 1),gA 6 (.c (.b false))] [0,2,4] [0,4]) (.sq (.sq (.rg [] [gF 9 0 4,gQ 10 9,gB 11 .eql 10 (kI 7)] [0,2,4,11] [0,4]) (.ite 11 (.sq (.rg [] [gM 13 0,gp 14 (.ld (some 9) 4),gM 15 2,gp 16 (.c3 147 [13,14,15]),gM 12 16,gp 17 (.ex 12 0),gp 18 (.ex 12 1),gA 7 17,gA 8 18] [0,7,8] [0]) (.sq (.rg [] [gM 19 0,gM 20 7,gM 21 8,gp 22 (.c2 89 [19,20,21]),gA 6 22] [6] []) .rt)) .sk)) Sa)),[.t 6]⟩
def Kk:AC:=(.sq (.bl 0 (.sq (.rg [] [gF 18 2 2,gQ 19 18,gp 20 (.ln false 19),gM 21 5,gB 22 .neq 20 21,gA 17 22] [1,2,5,17] [2]) (.ite 17 (.sq (.rg [] [gA 4 (kI 1)] [4] []) .rt) (.sq (.rg [] [gF 24 0 2,gQ 25 24,gB 26 .eql 25 (kI 1),gM 27 26,gg 28 (.fa 1 2) 27 true,gg 29 (.ld none 28) 27 true,gg 30 (.bo .lss false 29 (kI (-9999999))) 27 true,gg 31 (.mv 30) 27 true,gg 32 (.fa 1 2) 31 false,gg 33 (.ld none 32) 31 false,gg 34 (.bo .gtr false 33 (kI 9999999)) 31 false,gg 35 (.pk 31 (.c (.b true)) 34) 27 true,gp 36 (.pk 27 35 (.c (.b false))),gM 37 36,gg 38 (.mv 5) 37 false,gg 39 (.bo .gtr false 38 (kI 0)) 37 false,gg 40 (.mv 39) 37 false,gg 41 (.fa 1 2) 40 true,gg 42 (.ld none 41) 40 true,gg 43 (.bo .neq false 42 (kI 0)) 40 true,gg 44 (.pk 40 43 (.c (.b false))) 37 false,gp 45 (.pk 37 (.c (.b true)) 44),gA 23 45] [1,2,23] [2]) (.ite 23 (.sq (.rg [] [gA 4 (kI 3)] [4] []) .rt) (.sq (.rg [] [gF 47 0 2,gQ 48 47,gB 49 .eql 48 (kI 2),gM 50 49,gg 51 (.fa 1 2) 50 true,gg 52 (.ld none 51) 50 true,gg 53 (.bo .lss false 52 (kI 0)) 50 true,gg 54 (.mv 53) 50 true,gg 55 (.fa 1 2) 54 false,gg 56 (.ld none 55) 54 false,gg 57 (.mv 1) 54 false,gg 58 (.bo .geq false 56 57) 54 false,gg 59 (.pk 54 (.c (.b true)) 58) 50 true,gp 60 (.pk 50 59 (.c (.b false))),gA 46 60] [46] []) (.ite 46 (.sq (.rg [] [gA 4 (kI 5)] [4] []) .rt) .sk))))))) (.sq (.rg [] [gA 4 (kI 0)] [4] []) .rt))
def Sb:AC:=.kp [1,2,5] [2] Kk
def Sc:AC:=(.sq (.rg [] [gA 5 (kI 0)] [1,2,5] [2]) (.sq (.sq (.rg [] [gF 14 0 2,gQ 15 14,gB 16 .gtr 15 (kI 2)] [1,2,5,16] [2]) (.ite 16 (.rg [] [gA 5 (kI 2)] [1,2,5] [2]) .sk)) Sb))
def Sd:AC:=.kp [1,2] [2] Sc
def Mm:bE:=⟨(.sq (.rg [] [gp 2 (.bx 0),gA 4 (kI 0)] [1,2] [2]) (.sq (.sq (.rg [] [gF 6 0 2,gQ 7 6,gB 8 .lss 7 (kI 1),gM 9 8,gg 10 (.fa 0 2) 9 false,gg 11 (.ld none 10) 9 false,gg 12 (.bo .gtr false 11 (kI 7)) 9 false,gp 13 (.pk 9 (.c (.b true)) 12)] [1,2,13] [2]) (.ite 13 (.sq (.rg [] [gA 4 (kI 7)] [4] []) .rt) .sk)) Sd)),[.t 4]⟩
def Sf:AC:=(.sq (.bl 1 (.sq (.rg [] [gM 10 8,gA 5 10] [0,1,5,7,8] []) (.sq (.rg [] [gM 11 1,gM 12 0,gM 13 5,gp 14 (.ia 3 none 12 13),gp 15 (.ld (some 3) 14),gp 16 (.d2 11 [15])] [0,1,5,7,8,16] []) (.ite 16 (.sq (.rg [] [gM 17 5,gA 4 17] [4] []) .rt) .sk)))) (.rg [] [gB 18 .add 8 (kI 1),gM 8 18] [0,1,7,8] []))
def Sg:AC:=.kp [0,1,7,8] [] Sf
def Sh:AC:=(.sq (.rg [] [gB 9 .lss 8 7] [0,1,7,8,9] []) (.sq (.ite 9 .sk (.ex 0)) Sg))
def Kl:bY:=⟨[0,1,7,8],[],Sh⟩
def Mn:bE:=⟨(.sq (.rg [] [gA 4 (kI 0)] [0,1] []) (.sq (.sq (.rg [] [gM 6 0,gp 7 (.ln false 6),gM 8 (kI 0)] [0,1,7,8] []) (.bl 0 Kl.lp)) (.sq (.rg [] [gA 4 (kI (-1))] [4] []) .rt))),[.t 4]⟩
def Si:AC:=(.sq (.bl 1 (.sq (.rg [] [gM 10 8,gA 5 10] [0,1,5,7,8] []) (.sq (.rg [] [gM 11 1,gM 12 0,gM 13 5,gp 14 (.ia 1 none 12 13),gQ 15 14,gB 16 .eql 11 15] [0,1,5,7,8,16] []) (.ite 16 (.sq (.rg [] [gM 17 5,gA 4 17] [4] []) .rt) .sk)))) (.rg [] [gB 18 .add 8 (kI 1),gM 8 18] [0,1,7,8] []))
def Sj:AC:=.kp [0,1,7,8] [] Si
def Sk:AC:=(.sq (.rg [] [gB 9 .lss 8 7] [0,1,7,8,9] []) (.sq (.ite 9 .sk (.ex 0)) Sj))
def Km:bY:=⟨[0,1,7,8],[],Sk⟩
def Mo:bE:=⟨(.sq (.rg [] [gA 4 (kI 0)] [0,1] []) (.sq (.sq (.rg [] [gM 6 0,gp 7 (.ln false 6),gM 8 (kI 0)] [0,1,7,8] []) (.bl 0 Km.lp)) (.sq (.rg [] [gA 4 (kI (-1))] [4] []) .rt))),[.t 4]⟩
def Mp:bE:=⟨(.sq (.rg [] [gA 2 (.c (.b false)),gA 3 (.c (.b false)),gA 4 (.c (.b false))] [0] []) (.sq (.rg [] [gM 7 0,gB 8 .neq 7 (kI 4),gM 9 8,gg 10 (.mv 0) 9 true,gg 11 (.bo .lss false 10 (kI 7)) 9 true,gp 12 (.pk 9 11 (.c (.b false))),gA 5 12] [0,5] []) (.sq (.rg [] [gM 13 0,gB 14 .geq 13 (kI 2),gM 15 14,gg 16 (.mv 0) 15 true,gg 17 (.bo .leq false 16 (kI 4)) 15 true,gp 18 (.pk 15 17 (.c (.b false))),gA 6 18] [0,5,6] []) (.sq (.rg [] [gM 19 5,gM 20 6,gM 21 0,gB 22 .neq 21 (kI 2),gM 23 22,gg 24 (.mv 0) 23 true,gg 25 (.bo .neq false 24 (kI 3)) 23 true,gp 26 (.pk 23 25 (.c (.b false))),gA 2 19,gA 3 20,gA 4 26] [2,3,4] []) .rt)))),[.t 2,.t 3,.t 4]⟩
def Sl:AC:=(.sq (.rg [] [gM 20 0,gp 21 (.nc 20),gF 22 0 21,gF 23 4 22,gQ 24 23,gp 25 (.ln false 24),gA 4 25] [4] []) .rt)
def Sm:AC:=.kp [0] [0] Sl
def Mq:bE:=⟨(.sq (.rg [] [gA 4 (kI 0)] [0,1] [0]) (.sq (.sq (.rg [] [gM 5 1] [0,5] [0]) (.bl 0 (.sq (.rg [] [gB 7 .eql 5 (kI 2),gA 6 7] [0,5,6] [0]) (.ite 6 (.sq (.rg [] [gM 8 0,gp 9 (.nc 8),gF 10 8 9,gQ 11 10,gA 4 11] [4] []) .rt) (.sq (.rg [] [gB 13 .eql 5 (kI 3),gA 12 13] [0,12] [0]) (.ite 12 (.sq (.rg [] [gM 14 0,gp 15 (.nc 14),gF 16 0 15,gF 17 3 16,gQ 18 17,gp 19 (.ln false 18),gA 4 19] [4] []) .rt) .sk)))))) Sm)),[.t 4]⟩
def Sn:AC:=(.sq (.rg [] [gM 19 0,gp 20 (.nc 19),gF 21 1 20,gF 22 5 21,gQ 23 22,gM 24 1,gp 25 (.ia 3 none 23 24),gp 26 (.ld (some 3) 25),gp 7 (.al [(.b false),(.l 134 []),(.l 134 [])]),gS 3 7 26] [0,5,7] [0,5,7]) (.sq (.dg [] [] [gL (gF 27 0 7) [7] [],gV (gQ 28 27) [27] [7] [],gL (gp 29 (.no 28)) [28] [],gL (gM 30 29) [29] [],gV (gg 31 (.ld (some 2) 5) 30 false) [5] [5] [],gL (gg 32 (.mv 0) 30 false) [0] [],gL (gg 33 (.nc 32) 30 false) [32] [],gL (gg 34 (.fa 1 33) 30 false) [33] [],gL (gg 35 (.fa 0 34) 30 false) [34] [],⟨gg 36 (.ld (some 2) 35) 30 false,true,[35],[],true,[],[],[]⟩,gL (gg 37 (.fa 1 7) 30 false) [7] [],gV (gg 38 (.ld (some 2) 37) 30 false) [37] [7] [],gL (gg 39 (.ca 0 44 [36,38]) 30 false) [36,38] [],gH (gg 40 (.ca 0 46 [31,39]) 30 false),gH (gp 41 (.pk 30 (.c (.b true)) 40)),gH (gA 6 41)] [6] []) .rt))
def So:AC:=.kp [0,1,5] [0,5] Sn
def Mr:bE:=⟨(.sq (.rg [] [gp 5 (.bx 2),gA 6 (.c (.b false))] [0,1,5] [0,5]) (.sq (.sq (.dg [] [] [gL (gM 8 0) [0] [],⟨gp 9 (.c3 149 [8]),true,[8],[],true,[],[],[]⟩,gL (gM 10 0) [0] [],gL (gp 11 (.nc 10)) [10] [],gL (gF 12 9 11) [11] [],⟨gQ 13 12,true,[12],[],true,[],[],[]⟩,gL (gM 14 1) [1] [],⟨gp 15 (.ia 2 none 13 14),true,[13,14],[],true,[],[],[]⟩,⟨gp 16 (.ld (some 2) 15),true,[15],[],true,[],[],[]⟩,gH (gp 17 (.ca 0 46 [9,16])),gH (gp 18 (.no 17))] [0,1,5,18] [0,5]) (.ite 18 (.sq (.rg [] [gA 6 (.c (.b false))] [6] []) .rt) .sk)) So)),[.t 6]⟩
def I6:bE:=⟨(.sq (.rg [] [gp 3 (.bx 0),gp 4 (.bx 1),gp 5 (.bx 2),gp 6 (.al [(.l 4 []),(.l 4 [])])] [3,4,5,6] [3,4,5,6]) (.sq (.rg [] [gF 9 0 3,gp 10 (.ld (some 2) 9),gp 11 (.ca 0 21 [10]),gp 7 (.al [(.l 4 []),(.l 4 [])]),gS 2 7 11] [4,5,6,7] [4,5,6,7]) (.sq (.sq (.rg [] [gp 12 (.ld (some 3) 5),gp 13 (.ca 0 170 [12])] [4,6,7,13] [4,6,7]) (.bl 0 (.ru 13 14 (.rg [] [gA 8 14] [4,6,7,8] [4,6,7]) (.bl 1 (.dg [] [] [⟨gp 15 (.ld (some 2) 7),true,[7],[],true,[],[],[]⟩,⟨gQ 16 4,true,[4],[],true,[],[],[]⟩,gL (gM 17 8) [8] [],⟨gp 18 (.ia 2 none 16 17),true,[16,17],[],true,[],[],[]⟩,⟨gp 19 (.ld (some 2) 18),true,[18],[],true,[],[],[]⟩,gH (gp 20 (.ca 0 62 [15,19])),gH (gS 2 7 20)] [4,6,7] [4,6,7]))))) (.sq (.rg [] [gp 21 (.ld (some 2) 7),gS 2 6 21] [6] [6]) .rt)))),[.c 6 (some 2)]⟩
def Sq:AC:=(.sq (.sq (.rg [] [gF 23 3 3,gp 24 (.ld (some 3) 23),gp 25 (.ca 0 170 [24])] [2,4,25] [0,2,4]) (.bl 0 (.ru 25 26 (.rg [] [gA 5 26] [2,4,5] [0,2,4]) (.bl 1 (.sq (.dg [] [] [⟨gQ 27 2,true,[2],[],true,[],[],[]⟩,⟨gQ 28 2,true,[2],[],true,[],[],[]⟩,gL (gp 29 (.nc 28)) [28] [],gL (gF 30 0 29) [29] [],gL (gF 31 5 30) [30] [],⟨gQ 32 31,true,[31],[],true,[],[],[]⟩,gL (gM 33 5) [5] [],gL (gp 34 (.ia 3 none 32 33)) [32,33] [],gL (gF 35 1 34) [34] [],gL (gF 36 0 35) [35] [],gL (gQ 37 36) [36] [],gH (gp 38 (.c2 171 [27,37])),gH (gp 39 (.no 38))] [2,4,39] [0,2,4]) (.ite 39 (.sq (.rg [] [gS 1 4 (.c (.b true))] [4] [4]) .rt) .sk)))))) (.sq (.rg [] [gS 1 4 (.c (.b false))] [4] [4]) .rt))
def Sr:AC:=.kp [2,3,4] [0,2,3,4] Sq
def I7:bE:=⟨(.sq (.rg [] [gp 2 (.bx 0),gp 3 (.bx 1),gp 4 (.al [(.b false)])] [2,3,4] [0,2,3,4]) (.sq (.sq (.rg [] [gF 6 0 3,gQ 7 6,gB 8 .eql 7 (kI 6)] [2,3,4,8] [0,2,3,4]) (.ite 8 (.sq (.dg [] [] [⟨gQ 9 2,true,[2],[2],true,[],[],[]⟩,⟨gQ 10 2,true,[2],[2],true,[],[],[]⟩,gL (gp 11 (.nc 10)) [10] [],gL (gF 12 0 11) [11] [],gL (gF 13 5 12) [12] [],⟨gQ 14 13,true,[13],[],true,[],[],[]⟩,gL (gF 15 1 3) [3] [],gV (gQ 16 15) [15] [3] [],gL (gp 17 (.ia 3 none 14 16)) [14,16] [],gL (gF 18 1 17) [17] [],gL (gF 19 1 18) [18] [],gL (gQ 20 19) [19] [],gH (gp 21 (.c2 171 [9,20])),gH (gp 22 (.no 21)),gH (gS 1 4 22)] [4] [4]) .rt) .sk)) Sr)),[.c 4 none]⟩
def Ss:AC:=(.sq (.sq (.rg [] [gF 20 3 3,gp 21 (.ld (some 3) 20),gp 22 (.ca 0 170 [21])] [2,4,22] [0,2,4]) (.bl 0 (.ru 22 23 (.rg [] [gA 5 23] [2,4,5] [0,2,4]) (.bl 1 (.sq (.rg [] [gQ 24 2,gp 25 (.nc 24),gF 26 0 25,gF 27 5 26,gQ 28 27,gM 29 5,gp 30 (.ia 3 none 28 29),gF 31 0 30,gQ 32 31,gp 33 (.no 32)] [2,4,33] [0,2,4]) (.ite 33 (.sq (.rg [] [gS 1 4 (.c (.b true))] [4] [4]) .rt) .sk)))))) (.sq (.rg [] [gS 1 4 (.c (.b false))] [4] [4]) .rt))
def Su:AC:=.kp [2,3,4] [0,2,3,4] Ss
def I8:bE:=⟨(.sq (.rg [] [gp 2 (.bx 0),gp 3 (.bx 1),gp 4 (.al [(.b false)])] [2,3,4] [0,2,3,4]) (.sq (.sq (.rg [] [gF 6 0 3,gQ 7 6,gB 8 .eql 7 (kI 6)] [2,3,4,8] [0,2,3,4]) (.ite 8 (.sq (.dg [] [] [⟨gQ 9 2,true,[2],[2],true,[],[],[]⟩,gL (gp 10 (.nc 9)) [9] [],gL (gF 11 0 10) [10] [],gL (gF 12 5 11) [11] [],⟨gQ 13 12,true,[12],[],true,[],[],[]⟩,gL (gF 14 1 3) [3] [],gV (gQ 15 14) [14] [3] [],gH (gp 16 (.ia 3 none 13 15)),gH (gF 17 0 16),gH (gQ 18 17),gH (gp 19 (.no 18)),gH (gS 1 4 19)] [4] [4]) .rt) .sk)) Su)),[.c 4 none]⟩
def Sv:bE:=⟨(.sq (.rg [] [gp 1 (.bx 0),gA 2 (.c .nf)] [1] [1]) (.sq (.rg [.fzB 1 true] [gp 3 (.mf 172 [1]),gA 2 3] [2] [1]) .rt)),[.t 2]⟩
def Ms:bE:=⟨(.sq (.rg [] [gp 2 (.bx 0),gA 4 (.c (.b false))] [1,2] [0,2]) (.sq (.rg [] [gM 5 1,gp 6 (.mf 174 [2]),gp 7 (.c2 84 [5,6]),gp 8 (.no 7),gA 4 8] [4] []) .rt)),[.t 4]⟩
def Mt:bE:=⟨(.sq (.rg [] [gp 2 (.bx 0),gA 3 (.c (.b false))] [1,2] [1,2]) (.sq (.rg [] [gQ 4 1,gF 5 0 2,gQ 6 5,gp 7 (.c2 175 [4,6]),gp 8 (.no 7),gA 3 8] [3] []) .rt)),[.t 3]⟩
def Mu:bE:=⟨(.sq (.rg [] [gp 2 (.bx 0),gp 3 (.bx 1),gA 4 (.c (.b false))] [2,3] [0,2,3]) (.sq (.rg [.fzB 3 false] [gQ 5 2,gp 6 (.nc 5),gF 7 0 6,gF 8 2 7,gQ 9 8,gp 10 (.mf 176 [2,3]),gp 11 (.c2 55 [9,10]),gA 4 11] [4] []) .rt)),[.t 4]⟩
def Mv:bE:=⟨(.sq (.rg [] [gA 4 (.c (.b false))] [0,1,2] [1,2]) (.sq (.dg [] [] [⟨gQ 5 1,true,[1],[],true,[],[],[]⟩,gL (gp 6 (.nc 5)) [5] [],gL (gF 7 8 6) [6] [],⟨gQ 8 7,true,[7],[],true,[],[],[]⟩,gL (gM 9 0) [0] [],gL (gp 10 (.ia 1 none 8 9)) [8,9] [],gL (gQ 11 10) [10] [],⟨gQ 12 2,true,[2],[],true,[],[],[]⟩,gH (gp 13 (.ia 1 none 11 12)),gH (gQ 14 13),gH (gA 4 14)] [4] []) .rt)),[.t 4]⟩
abbrev Ω0:cK:=fun f ys=>match f with
 | 172=>wC ys
 | 59=>rh 4 ys
 | 35=>xu 136 3 49 134 51 112 88 86 ys
 | 159=>n8 49 ys
 | _=>none
def G:nu:=fun
 | 5=>some c5
 | 6=>some c6
 | 9=>some c9
 | 15=>some PV
 | 16=>some YI
 | 17=>some PW
 | 18=>some PX
 | 19=>some PY
 | 20=>some PZ
 | 21=>some P0
 | 22=>some P1
 | 23=>some P2
 | 24=>some P3
 | 25=>some P4
 | 34=>some YJ
 | 36=>some YK
 | 44=>some P5
 | 46=>some P6
 | 47=>some P7
 | 48=>some YL
 | 49=>some P8
 | 50=>some P9
 | 51=>some Qa
 | 52=>some Qb
 | 53=>some Qc
 | 54=>some Qd
 | 55=>some Qe
 | 56=>some Qf
 | 57=>some Qg
 | 58=>some Qh
 | 60=>some Qi
 | 61=>some Qj
 | 62=>some Qk
 | 77=>some Ql
 | 78=>some Qm
 | 79=>some Qn
 | 80=>some Qo
 | 81=>some Qp
 | 82=>some Qq
 | 83=>some Qr
 | 84=>some Qs
 | 88=>some Qt
 | 89=>some Qu
 | 90=>some Qv
 | 91=>some YM
 | 92=>some Qw
 | 93=>some Qx
 | 94=>some Qy
 | 95=>some Qz
 | 96=>some QA
 | 97=>some QB
 | 98=>some QC
 | 99=>some QD
 | 100=>some LH
 | 102=>some LI
 | 103=>some LJ
 | 104=>some LK
 | 105=>some LL
 | 106=>some LM
 | 107=>some LN
 | 121=>some LO
 | 122=>some LP
 | 123=>some LQ
 | 124=>some LR
 | 125=>some LS
 | 127=>some LU
 | 128=>some LV
 | 129=>some LX
 | 130=>some LY
 | 131=>some LZ
 | 132=>some L0
 | 133=>some L1
 | 134=>some L2
 | 135=>some L3
 | 136=>some L4
 | 137=>some L5
 | 138=>some L6
 | 141=>some L7
 | 142=>some L8
 | 143=>some L9
 | 144=>some Ma
 | 145=>some Mb
 | 146=>some Mc
 | 147=>some Md
 | 148=>some Me
 | 149=>some Mf
 | 150=>some Mg
 | 151=>some Mh
 | 154=>some Mi
 | 155=>some Mj
 | 156=>some Mk
 | 157=>some Ml
 | 158=>some Mm
 | 160=>some Mn
 | 161=>some Mo
 | 162=>some Mp
 | 163=>some Mq
 | 164=>some Mr
 | 165=>some I6
 | 166=>some I7
 | 167=>some I8
 | 170=>some Sv
 | 171=>some Ms
 | 174=>some Mt
 | 175=>some Mu
 | 176=>some Mv
 | _=>none
theorem G5:G 5=some c5:=rfl
theorem G6:G 6=some c6:=rfl
theorem G15:G 15=some PV:=rfl
theorem G17:G 17=some PW:=rfl
theorem G18:G 18=some PX:=rfl
theorem G19:G 19=some PY:=rfl
theorem G20:G 20=some PZ:=rfl
theorem G21:G 21=some P0:=rfl
theorem G22:G 22=some P1:=rfl
theorem G23:G 23=some P2:=rfl
theorem G24:G 24=some P3:=rfl
theorem G25:G 25=some P4:=rfl
theorem G44:G 44=some P5:=rfl
theorem G46:G 46=some P6:=rfl
theorem G47:G 47=some P7:=rfl
theorem G49:G 49=some P8:=rfl
theorem G50:G 50=some P9:=rfl
theorem G51:G 51=some Qa:=rfl
theorem YN:G 52=some Qb:=rfl
theorem G53:G 53=some Qc:=rfl
theorem G54:G 54=some Qd:=rfl
theorem Kn:G 55=some Qe:=rfl
theorem G56:G 56=some Qf:=rfl
theorem G57:G 57=some Qg:=rfl
theorem G58:G 58=some Qh:=rfl
theorem G60:G 60=some Qi:=rfl
theorem G61:G 61=some Qj:=rfl
theorem G62:G 62=some Qk:=rfl
theorem G77:G 77=some Ql:=rfl
theorem G78:G 78=some Qm:=rfl
theorem G79:G 79=some Qn:=rfl
theorem G80:G 80=some Qo:=rfl
theorem G81:G 81=some Qp:=rfl
theorem G82:G 82=some Qq:=rfl
theorem G83:G 83=some Qr:=rfl
theorem YO:G 84=some Qs:=rfl
theorem G88:G 88=some Qt:=rfl
theorem G89:G 89=some Qu:=rfl
theorem G90:G 90=some Qv:=rfl
theorem G92:G 92=some Qw:=rfl
theorem G93:G 93=some Qx:=rfl
theorem G94:G 94=some Qy:=rfl
theorem G95:G 95=some Qz:=rfl
theorem G96:G 96=some QA:=rfl
theorem YP:G 97=some QB:=rfl
theorem Ko:G 98=some QC:=rfl
theorem Sw:G 99=some QD:=rfl
theorem Zi:G 100=some LH:=rfl
theorem Zj:G 102=some LI:=rfl
theorem Zk:G 103=some LJ:=rfl
theorem Zl:G 104=some LK:=rfl
theorem Zm:G 105=some LL:=rfl
theorem Zn:G 106=some LM:=rfl
theorem Zo:G 107=some LN:=rfl
theorem Zp:G 121=some LO:=rfl
theorem Zq:G 122=some LP:=rfl
theorem Zr:G 123=some LQ:=rfl
theorem Zs:G 124=some LR:=rfl
theorem Sx:G 125=some LS:=rfl
theorem Zt:G 127=some LU:=rfl
theorem Zu:G 128=some LV:=rfl
theorem Zv:G 129=some LX:=rfl
theorem Zw:G 130=some LY:=rfl
theorem Zx:G 131=some LZ:=rfl
theorem Zy:G 132=some L0:=rfl
theorem Zz:G 133=some L1:=rfl
theorem ZA:G 134=some L2:=rfl
theorem ZB:G 135=some L3:=rfl
theorem ZC:G 136=some L4:=rfl
theorem ZD:G 137=some L5:=rfl
theorem ZE:G 138=some L6:=rfl
theorem ZF:G 141=some L7:=rfl
theorem ZG:G 142=some L8:=rfl
theorem ZH:G 143=some L9:=rfl
theorem ZI:G 144=some Ma:=rfl
theorem ZJ:G 145=some Mb:=rfl
theorem ZK:G 146=some Mc:=rfl
theorem ZL:G 147=some Md:=rfl
theorem ZM:G 148=some Me:=rfl
theorem ZN:G 149=some Mf:=rfl
theorem ZO:G 150=some Mg:=rfl
theorem ZP:G 151=some Mh:=rfl
theorem ZQ:G 154=some Mi:=rfl
theorem ZR:G 155=some Mj:=rfl
theorem ZS:G 156=some Mk:=rfl
theorem ZT:G 157=some Ml:=rfl
theorem ZU:G 158=some Mm:=rfl
theorem ZV:G 160=some Mn:=rfl
theorem ZW:G 161=some Mo:=rfl
theorem ZX:G 162=some Mp:=rfl
theorem ZY:G 163=some Mq:=rfl
theorem ZZ:G 164=some Mr:=rfl
theorem Z1:G 165=some I6:=rfl
theorem Z2:G 166=some I7:=rfl
theorem Z3:G 167=some I8:=rfl
theorem Z4:G 171=some Ms:=rfl
theorem Z5:G 174=some Mt:=rfl
theorem Z6:G 175=some Mu:=rfl
theorem Z7:G 176=some Mv:=rfl
end Go.Proofs.YtdpjofmmokaobaaGreat.A
