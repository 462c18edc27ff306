/- The abstract code of the functions, made by program. -/
import Derived.Test.YtndeklbmglgonaaGreatAbsO
set_option maxRecDepth 100000
set_option linter.unusedSectionVars false
set_option linter.unusedVariables false
set_option linter.unusedSimpArgs false
set_option linter.constructorNameAsVariable false
namespace Go.Proofs.YtndeklbmglgonaaGreat.A
open Go
abbrev gp(d:Nat)(x:pe):cK:=⟨some d,x,none,false⟩
abbrev gg(d:Nat)(x:pe)(j:Nat)(b:Bool):cK:=⟨some d,x,some (j,b),false⟩
abbrev gz(d:Nat)(x:pe):cK:=⟨some d,x,none,true⟩
abbrev gS(n:Nat)(x y:bp):cK:=⟨none,.st n x y,none,false⟩
abbrev gM(d:Nat)(x:bp):cK:=gp d (.mv x)
abbrev gQ(d:Nat)(x:bp):cK:=gp d (.ld none x)
abbrev gF(d n:Nat)(x:bp):cK:=gp d (.fa n x)
abbrev gA(d:Nat)(x:bp):cK:=gp d (.as x)
abbrev gB(d:Nat)(o:BinOp)(x y:bp):cK:=gp d (.bo o false x y)
abbrev gL(g:cK)(vw nk:List Nat):cp:=⟨g,true,vw,[],false,[],nk,[]⟩
abbrev gV(g:cK)(vw vb nk:List Nat):cp:=⟨g,true,vw,vb,false,[],nk,[]⟩
abbrev gH(g:cK):cp:=⟨g,false,[],[],false,[],[],[]⟩
instance (n:Nat):OfNat bp n:=⟨.t n⟩
abbrev kI(n:Int):bp:=.c (.i .i64 n)
def NG:AC:=(.sq (.rg [] [gp 31 (.ca 0 7 []),gM 32 31,gg 33 (.ld (some 6) 7) 32 true,gg 34 (.mv 8) 32 true,gg 35 (.mv 9) 32 true,gg 36 (.ld (some 6) 10) 32 true,gg 37 (.ca 0 8 [33,34,35,36]) 32 true,gp 38 (.pk 32 37 (.c (.b false))),gA 6 38] [6] []) .rt)
def ZW:AC:=.kp [7,8,9,10] [7,10] NG
def c3:bG:=⟨(.sq (.rg [] [gp 3 (.bx 0),gA 6 (.c (.b false))] [1,2,3] [3]) (.sq (.rg [] [gp 12 (.ld (some 8) 3),gM 13 1,gM 14 2,gp 15 (.ca 0 4 [12,13,14]),gM 11 15,gp 16 (.ex 11 0),gp 17 (.ex 11 1),gp 7 (.al [(.l 73 []),(.l 3 []),(.l 3 []),(.i .i64 0),(.i .i64 0),(.i .i64 0)]),gS 6 7 16,gA 8 17] [1,2,3,7,8] [3,7]) (.sq (.rg [] [gp 18 (.ld (some 8) 3),gM 19 1,gM 20 2,gp 21 (.ca 0 5 [18,19,20]),gA 9 21] [1,2,3,7,8,9] [3,7]) (.sq (.rg [] [gp 10 (.al [(.l 73 []),(.l 3 []),(.l 3 []),(.i .i64 0),(.i .i64 0),(.i .i64 0)])] [1,2,3,7,8,9,10] [3,7,10]) (.sq (.sq (.rg [] [gM 22 9,gB 23 .eql 22 (kI 0)] [1,2,3,7,8,9,10,23] [3,7,10]) (.ite 23 (.rg [] [gp 25 (.ld (some 8) 3),gM 26 1,gM 27 2,gp 28 (.ca 0 6 [25,26,27,(.c (.b false))]),gM 24 28,gp 29 (.ex 24 0),gp 30 (.ex 24 1),gS 6 10 29] [7,8,9,10] [7,10]) .sk)) ZW))))),[.t 6]⟩
def ZX:AC:=(.sq (.rg [] [gp 17 (.ld (some 8) 3),gM 18 1,gM 19 2,gp 20 (.cn 10 [17,18,19]),gp 21 (.c2 11 [20]),gS 6 6 21,gA 7 (kI 0)] [6,7] [6]) .rt)
def ZY:AC:=.kp [1,2,3,6] [3,6] ZX
def c4:bG:=⟨(.sq (.rg [] [gp 3 (.bx 0),gp 6 (.al [(.l 73 []),(.l 3 []),(.l 3 []),(.i .i64 0),(.i .i64 0),(.i .i64 0)]),gA 7 (kI 0)] [1,2,3,6] [3,6]) (.sq (.sq (.rg [] [gp 9 (.ld (some 8) 3),gM 10 1,gM 11 2,gp 12 (.ca 0 9 [9,10,11]),gA 8 12] [1,2,3,6,8] [3,6]) (.sq (.rg [] [gM 13 8,gB 14 .neq 13 (kI 0)] [1,2,3,6,8,14] [3,6]) (.ite 14 (.sq (.rg [] [gp 15 (.bd [(.l 73 []),(.l 3 []),(.l 3 []),(.i .i64 0),(.i .i64 0),(.i .i64 0)] []),gM 16 8,gS 6 6 15,gA 7 16] [6,7] [6]) .rt) .sk))) ZY)),[.c 6 (some 6),.t 7]⟩
def ZZ:AC:=(.sq (.bl 1 (.sq (.rg [] [gM 28 1,gM 29 8,gp 30 (.ia 1 none 28 29),gQ 31 30,gp 32 (.ln false 31),gB 33 .gtr 32 (kI 100)] [1,2,8,33] []) (.ite 33 (.sq (.rg [] [gA 6 (kI 2)] [6] []) .rt) .sk))) (.rg [] [gM 26 8,gB 27 .add 26 (kI 1),gA 8 27] [1,2,8] []))
def Z1:AC:=.kp [1,2,8] [] ZZ
def Z2:AC:=(.sq (.sq (.rg [] [gM 22 8,gM 23 1,gp 24 (.ln false 23),gB 25 .lss 22 24] [1,2,8,25] []) (.ite 25 .sk (.ex 0))) Z1)
def NH:bq:=⟨[1,2,8],[],Z2⟩
def Z3:AC:=(.sq (.bl 5 (.sq (.rg [] [gM 49 1,gM 50 9,gp 51 (.ia 1 none 49 50),gQ 52 51,gM 53 10,gp 54 (.ia 1 none 52 53),gQ 55 54,gp 56 (.ca 0 13 [55]),gp 57 (.no 56)] [1,2,9,10,57] []) (.ite 57 (.sq (.rg [] [gA 6 (kI 3)] [6] []) .rt) .sk))) (.rg [] [gM 47 10,gB 48 .add 47 (kI 1),gA 10 48] [1,2,9,10] []))
def Z4:AC:=.kp [1,2,9,10] [] Z3
def Z5:AC:=(.sq (.sq (.rg [] [gM 40 10,gM 41 1,gM 42 9,gp 43 (.ia 1 none 41 42),gQ 44 43,gp 45 (.ln false 44),gB 46 .lss 40 45] [1,2,9,10,46] []) (.ite 46 .sk (.ex 4))) Z4)
def NI:bq:=⟨[1,2,9,10],[],Z5⟩
def Z6:AC:=(.sq (.bl 3 (.sq (.rg [] [gA 10 (kI 0)] [1,2,9,10] []) (.bl 4 NI.lp))) (.rg [] [gM 38 9,gB 39 .add 38 (kI 1),gA 9 39] [1,2,9] []))
def Z7:AC:=.kp [1,2,9] [] Z6
def Z8:AC:=(.sq (.sq (.rg [] [gM 34 9,gM 35 1,gp 36 (.ln false 35),gB 37 .lss 34 36] [1,2,9,37] []) (.ite 37 .sk (.ex 2))) Z7)
def NJ:bq:=⟨[1,2,9],[],Z8⟩
def Z9:AC:=(.sq (.sq (.rg [] [gM 58 2,gp 59 (.ca 0 14 [58,(kI 0),(kI 2000)]),gp 60 (.no 59)] [60] []) (.ite 60 (.sq (.rg [] [gA 6 (kI 3)] [6] []) .rt) .sk)) (.sq (.rg [] [gA 6 (kI 0)] [6] []) .rt))
def aaa:AC:=.kp [2] [] Z9
def aab:AC:=(.sq (.sq (.rg [] [gA 9 (kI 0)] [1,2,9] []) (.bl 2 NJ.lp)) aaa)
def aac:AC:=.kp [1,2] [] aab
def aad:AC:=(.sq (.sq (.rg [] [gA 8 (kI 0)] [1,2,8] []) (.bl 0 NH.lp)) aac)
def aae:AC:=.kp [1,2] [] aad
def aaf:AC:=(.sq (.sq (.rg [] [gM 16 1,gp 17 (.ln false 16),gF 18 3 3,gQ 19 18,gp 20 (.ln false 19),gB 21 .neq 17 20] [1,2,21] []) (.ite 21 (.sq (.rg [] [gA 6 (kI 1)] [6] []) .rt) .sk)) aae)
def aag:AC:=.kp [1,2,3] [3] aaf
def c5:bG:=⟨(.sq (.rg [] [gp 3 (.bx 0),gA 6 (kI 0)] [1,2,3] [3]) (.sq (.rg [] [gp 11 (.ld (some 8) 3),gp 12 (.ca 0 12 [11]),gA 7 12] [1,2,3,7] [3]) (.sq (.sq (.rg [] [gM 13 7,gB 14 .neq 13 (kI 0)] [1,2,3,7,14] [3]) (.ite 14 (.sq (.rg [] [gM 15 7,gA 6 15] [6] []) .rt) .sk)) aag))),[.t 6]⟩
def aah:AC:=(.sq (.bl 1 (.dg [] [42] [gL (gF 37 18 10) [10] [42],gV (gQ 38 37) [37] [10] [42],gL (gF 39 0 4) [4] [42],gV (gp 40 (.ld (some 2) 39)) [39] [4] [42],gL (gp 41 (.ca 0 15 [40])) [40] [42],gL (gz 42 (.bs 57 2 [41])) [41] [],gH (gp 43 (.ap 57 2 48 38 42)),gH (gF 44 18 10),gH (gS 1 44 43)] [2,4,8,10,11] [4,8,10])) (.rg [] [gM 35 11,gB 36 .add 35 (kI 1),gA 11 36] [2,4,8,10,11] [4,8,10]))
def aai:AC:=.kp [2,4,8,10,11] [4,8,10] aah
def aaj:AC:=(.sq (.sq (.rg [] [gM 30 11,gF 31 5 4,gQ 32 31,gp 33 (.ln false 32),gB 34 .lss 30 33] [2,4,8,10,11,34] [4,8,10]) (.ite 34 .sk (.ex 0))) aai)
def NK:bq:=⟨[2,4,8,10,11],[4,8,10],aaj⟩
def aak:AC:=(.bl 3 (.sq (.rg [] [gF 71 16 10,gQ 72 71,gF 73 16 10,gQ 74 73,gp 75 (.ln false 74),gB 76 .sub 75 (kI 1),gp 77 (.ia 12 none 72 76),gp 78 (.ld (some 12) 77),gp 12 (.al [(.i .i64 0),(.i .i64 0),(.i .i64 0),(.i .i64 0),(.i .i64 0),(.i .i64 0),(.i .i64 0),(.l 63 []),(.l 63 []),(.l 65 []),(.l 65 []),(.i .i64 0)]),gS 12 12 78] [2,8,10,12] [8,10,12]) (.sq (.rg [] [gF 79 16 10,gQ 80 79,gF 81 16 10,gQ 82 81,gp 83 (.ln false 82),gB 84 .sub 83 (kI 1),gp 85 (.sl 67 12 80 none (some 84)),gF 86 16 10,gS 1 86 85] [2,8,10,12] [8,10,12]) (.sq (.rg [] [gF 87 0 12,gQ 88 87] [2,8,10,12,88] [8,10,12]) (.bl 4 (.sq (.rg [] [gB 105 .eql 88 (kI 3),gA 104 105] [2,8,10,12,88,104] [8,10,12]) (.ite 104 (.rg [] [gF 106 19 10,gQ 107 106,gF 108 11 12,gQ 109 108,gp 110 (.sl 57 2 107 none (some 109)),gF 111 19 10,gS 1 111 110] [2,8,10] [8,10]) (.sq (.rg [] [gB 113 .eql 88 (kI 2),gA 112 113] [2,8,10,12,112] [8,10,12]) (.ite 112 (.rg [] [gp 114 (.ld (some 12) 12),gp 115 (.c2 18 [10,114])] [2,8,10] [8,10]) (.sq (.rg [] [gF 89 10 10,gF 90 3 89,gQ 91 90,gM 92 2,gB 93 .eql 91 92] [2,8,10,12,93] [8,10,12]) (.ite 93 (.rg [] [gF 94 10 10,gF 95 4 94,gS 1 95 (kI 2)] [2,8,10] [8,10]) (.sq (.rg [] [gF 96 10 10,gF 97 3 96,gQ 98 97,gB 99 .add 98 (kI 1),gF 100 10 10,gF 101 3 100,gS 1 101 99] [2,8,10,12] [8,10,12]) (.rg [] [gp 102 (.ld (some 12) 12),gp 103 (.c2 19 [10,102])] [2,8,10] [8,10])))))))))))))
def aal:AC:=.kp [2,8,10] [8,10] aak
def aam:AC:=(.sq (.sq (.rg [] [gF 61 16 10,gQ 62 61,gp 63 (.ln false 62),gB 64 .gtr 63 (kI 0),gM 65 64,gg 66 (.fa 10 10) 65 true,gg 67 (.fa 4 66) 65 true,gg 68 (.ld none 67) 65 true,gg 69 (.bo .eql false 68 (kI 0)) 65 true,gp 70 (.pk 65 69 (.c (.b false)))] [2,8,10,70] [8,10]) (.ite 70 .sk (.ex 2))) aal)
def NL:bq:=⟨[2,8,10],[8,10],aam⟩
def NM:AC:=(.sq (.dg [.fzC 10 10,.fzC 10 11,.fzC 10 12,.fzC 10 18] [] [gL (gF 122 10 10) [10] [],gV (gp 123 (.ld (some 6) 122)) [122] [10] [],gL (gF 124 18 10) [10] [],gV (gQ 125 124) [124] [10] [],gV (gS 6 8 123) [8,123] [8] [],gH (gA 9 125)] [8,9] [8]) .rt)
def aan:AC:=.kp [8,10] [8,10] NM
def aao:AC:=(.sq (.sq (.rg [] [gF 116 10 10,gF 117 4 116,gQ 118 117,gB 119 .eql 118 (kI 0)] [8,10,119] [8,10]) (.ite 119 (.rg [] [gF 120 10 10,gF 121 4 120,gS 1 121 (kI 1)] [8,10] [8,10]) .sk)) aan)
def aap:AC:=.kp [8,10] [8,10] aao
def aaq:AC:=(.sq (.dg [] [50] [gL (gF 45 19 10) [10] [50],gV (gQ 46 45) [45] [10] [50],gL (gF 47 0 4) [4] [50],gV (gp 48 (.ld (some 2) 47)) [47] [4] [50],gL (gp 49 (.ca 0 15 [48])) [48] [50],gL (gz 50 (.bs 57 2 [49])) [49] [],gH (gp 51 (.ap 57 2 48 46 50)),gH (gF 52 19 10),gH (gS 1 52 51)] [2,4,8,10] [4,8,10]) (.sq (.dg [] [] [gL (gF 53 7 4) [4] [],gV (gQ 54 53) [53] [4] [],gV (gp 55 (.ld (some 8) 4)) [4] [4] [],gL (gF 56 6 4) [4] [],gV (gQ 57 56) [56] [4] [],gV (gp 58 (.ln false 57)) [57] [4] [],gL (gp 59 (.ca 0 17 [55,58])) [55,58] [],gH (gp 60 (.c2 16 [10,54,59]))] [2,8,10] [8,10]) (.sq (.bl 2 NL.lp) aap)))
def aar:AC:=.kp [2,4,8,10] [4,8,10] aaq
def c6:bG:=⟨(.sq (.rg [] [gp 4 (.bx 0),gp 8 (.al [(.l 73 []),(.l 3 []),(.l 3 []),(.i .i64 0),(.i .i64 0),(.i .i64 0)]),gA 9 (.c (.l 57 []))] [1,2,3,4,8] [4,8]) (.sq (.rg [] [gp 13 (.ld (some 8) 4),gM 14 1,gM 15 2,gM 16 3,gp 17 (.bd [(.i .i64 0),(.l 115 []),(.l 3 []),(.l 89 []),(.l 89 []),(.l 91 []),(.l 82 []),(.l 65 []),(.l 25 []),(.i .i64 0),.n,.n,.n,(.i .i64 0),(.i .i64 0),(.i .i64 0),.n,(.b false),.n,.n] [(0,8,13),(8,1,14),(9,1,15),(17,1,16)]),gp 10 (.al [(.i .i64 0),(.l 115 []),(.l 3 []),(.l 89 []),(.l 89 []),(.l 91 []),(.l 82 []),(.l 65 []),(.l 25 []),(.i .i64 0),.n,.n,.n,(.i .i64 0),(.i .i64 0),(.i .i64 0),.n,(.b false),.n,.n]),gS 20 10 17] [2,4,8,10] [4,8,10]) (.sq (.dg [.ownC 10 10 73,.ownC 10 11 3,.ownC 10 12 3,.ownC 10 16 67,.ownC 10 18 57,.ownC 10 19 57] [21,25] [⟨gF 18 5 4,true,[4],[],false,[],[21,25],[10]⟩,⟨gQ 19 18,true,[18],[4],false,[],[21,25],[10]⟩,⟨gp 20 (.ln false 19),true,[19],[4],false,[],[21,25],[10]⟩,⟨gp 21 (.ms 3 1 8 (.i .i64 0) 20),true,[20],[],false,[],[25],[10]⟩,⟨gF 22 3 4,true,[4],[],false,[],[21,25],[10]⟩,⟨gQ 23 22,true,[22],[4],false,[],[21,25],[10]⟩,⟨gp 24 (.ln false 23),true,[23],[4],false,[],[21,25],[10]⟩,⟨gp 25 (.ms 3 1 8 (.i .i64 0) 24),true,[24],[],false,[],[21],[10]⟩,⟨gF 26 10 10,true,[10],[],false,[],[25],[10]⟩,⟨gF 27 1 26,true,[26],[],false,[],[25],[10]⟩,⟨gS 1 27 21,true,[27,21],[10],false,[21],[25],[]⟩,gH (gF 28 10 10),gH (gF 29 2 28),gH (gS 1 29 25)] [2,4,8,10] [4,8,10]) (.sq (.sq (.rg [] [gA 11 (kI 0)] [2,4,8,10,11] [4,8,10]) (.bl 0 NK.lp)) aar)))),[.c 8 (some 6),.t 9]⟩
def c7:bG:=⟨(.sq (.rg [] [gA 0 (.c (.b false))] [] []) (.sq (.rg [] [gp 6 (.ca 0 20 []),gz 7 (.bs 3 1 [(kI 7)]),gz 8 (.bs 25 1 [7]),gp 9 (.ca 0 4 [6,8,(kI 9)]),gM 5 9,gp 10 (.ex 5 0),gp 11 (.ex 5 1),gp 1 (.al [(.l 73 []),(.l 3 []),(.l 3 []),(.i .i64 0),(.i .i64 0),(.i .i64 0)]),gS 6 1 10,gA 2 11] [1,2] [1]) (.sq (.rg [] [gp 13 (.bd [(.i .i64 0),(.i .i64 0),(.l 63 [])] [(0,1,(kI 1)),(1,1,(kI 4))]),gp 14 (.ca 0 21 [13,(.c (.l 3 []))]),gM 12 14,gp 15 (.ex 12 0),gp 16 (.ex 12 1),gA 3 15,gA 4 16] [1,2,3,4] [1]) (.sq (.rg [] [gM 17 2,gB 18 .eql 17 (kI 0),gM 19 18,gg 20 (.mv 4) 19 true,gg 21 (.bo .eql false 20 (kI 0)) 19 true,gp 22 (.pk 19 21 (.c (.b false))),gM 23 22,gg 24 (.mv 3) 23 true,gg 25 (.bo .eql false 24 (kI 4)) 23 true,gp 26 (.pk 23 25 (.c (.b false))),gM 27 26,gg 28 (.fa 4 1) 27 true,gg 29 (.ld none 28) 27 true,gg 30 (.bo .eql false 29 (kI 1)) 27 true,gp 31 (.pk 27 30 (.c (.b false))),gM 32 31,gg 33 (.fa 3 1) 32 true,gg 34 (.ld none 33) 32 true,gg 35 (.bo .eql false 34 (kI 2)) 32 true,gp 36 (.pk 32 35 (.c (.b false))),gM 37 36,gg 38 (.fa 0 1) 37 true,gg 39 (.ld none 38) 37 true,gg 40 (.ln false 39) 37 true,gg 41 (.bo .eql false 40 (kI 1)) 37 true,gp 42 (.pk 37 41 (.c (.b false))),gM 43 42,gg 44 (.fa 0 1) 43 true,gg 45 (.ld none 44) 43 true,gg 46 (.ia 4 none 45 (kI 0)) 43 true,gg 47 (.ld (some 4) 46) 43 true,gg 48 (.bd [(.i .i64 0),(.i .i64 0),(.i .i64 0),(.i .i64 0)] [(0,1,(kI 1)),(1,1,(kI 1)),(3,1,(kI 7))]) 43 true,gg 49 (.ae [1,1,1,1] false 47 48) 43 true,gp 50 (.pk 43 49 (.c (.b false))),gM 51 50,gg 52 (.fa 2 1) 51 true,gg 53 (.ld none 52) 51 true,⟨some 54,.bs 3 1 [(kI 1)],(some (51,true)),true⟩,gg 55 (.ca 0 22 [53,54]) 51 true,gp 56 (.pk 51 55 (.c (.b false))),gA 0 56] [0] []) .rt)))),[.t 0]⟩
def NN:AC:=(.sq (.rg [] [gM 12 1,gM 13 2,gB 14 .eql 12 13,gM 15 14,gg 16 (.ld (some 6) 4) 15 true,gg 17 (.ld (some 6) 7) 15 true,gg 18 (.ca 0 23 [16,17]) 15 true,gp 19 (.pk 15 18 (.c (.b false))),gA 8 19] [8] []) .rt)
def aas:AC:=.kp [1,2,4,7] [4,7] NN
def c8:bG:=⟨(.sq (.rg [] [gp 4 (.bx 0),gp 7 (.bx 3),gA 8 (.c (.b false))] [1,2,4,7] [4,7]) (.sq (.sq (.rg [] [gM 9 2,gB 10 .neq 9 (kI 0)] [1,2,4,7,10] [4,7]) (.ite 10 (.rg [] [gp 11 (.bd [(.l 73 []),(.l 3 []),(.l 3 []),(.i .i64 0),(.i .i64 0),(.i .i64 0)] []),gS 6 7 11] [1,2,4,7] [4,7]) .sk)) aas)),[.t 8]⟩
def aat:AC:=(.sq (.bl 0 (.sq (.rg [] [gM 14 1,gp 15 (.ln false 14),gF 16 3 3,gQ 17 16,gp 18 (.ln false 17),gB 19 .neq 15 18,gA 13 19] [1,2,13] []) (.ite 13 (.sq (.rg [] [gA 6 (kI 1)] [6] []) .rt) (.sq (.rg [] [gM 21 1,gp 22 (.c2 25 [21,(.c (.f 26 []))]),gA 20 22] [1,2,20] []) (.ite 20 (.sq (.rg [] [gA 6 (kI 2)] [6] []) .rt) (.sq (.rg [] [gM 24 1,gp 25 (.c2 25 [24,(.c (.f 27 []))]),gM 26 25,gg 27 (.mv 2) 26 false,gg 28 (.bo .lss false 27 (kI 0)) 26 false,gp 29 (.pk 26 (.c (.b true)) 28),gM 30 29,gg 31 (.mv 2) 30 false,gg 32 (.bo .gtr false 31 (kI 2000)) 30 false,gp 33 (.pk 30 (.c (.b true)) 32),gA 23 33] [23] []) (.ite 23 (.sq (.rg [] [gA 6 (kI 3)] [6] []) .rt) .sk))))))) (.sq (.rg [] [gA 6 (kI 0)] [6] []) .rt))
def aau:AC:=.kp [1,2,3] [3] aat
def c9:bG:=⟨(.sq (.rg [] [gp 3 (.bx 0),gA 6 (kI 0)] [1,2,3] [3]) (.sq (.sq (.rg [] [gp 8 (.ld (some 8) 3),gp 9 (.ca 0 24 [8]),gA 7 9] [1,2,3,7] [3]) (.sq (.rg [] [gM 10 7,gB 11 .neq 10 (kI 0)] [1,2,3,7,11] [3]) (.ite 11 (.sq (.rg [] [gM 12 7,gA 6 12] [6] []) .rt) .sk))) aau)),[.t 6]⟩
def RY:AC:=(.sq (.bl 1 (.sq (.rg [] [gp 37 (.ia 5 none 33 35),gp 38 (.ld (some 5) 37),gp 10 (.al [(.l 3 []),(.l 65 []),(.i .i64 0),(.i .i64 0),(.l 63 [])]),gS 5 10 38] [7,8,10,33,34,35] [10,15]) (.sq (.rg [] [gM 39 7,gM 40 7,gp 41 (.nc 40),gF 42 10 41,gQ 43 42,gM 44 8,gz 45 (.bs 3 1 [44]),gp 46 (.ap 3 1 8 43 45),gp 47 (.nc 39),gF 48 10 47,gS 1 48 46] [7,8,10,33,34,35] [10,15]) (.rg [] [gM 49 8,gF 50 1 10,gQ 51 50,gp 52 (.ca 0 31 [51]),gB 53 .add 49 52,gA 8 53] [7,8,33,34,35] [15])))) (.rg [] [gB 54 .add 35 (kI 1),gM 35 54] [7,8,33,34,35] [15]))
def RZ:AC:=.kp [7,8,33,34,35] [15] RY
def R0:AC:=(.sq (.rg [] [gB 36 .lss 35 34] [7,8,33,34,35,36] [15]) (.sq (.ite 36 .sk (.ex 0)) RZ))
def Lm:bq:=⟨[7,8,33,34,35],[15],R0⟩
def R1:AC:=(.sq (.rg [] [gM 55 7,gM 56 7,gp 57 (.nc 56),gF 58 10 57,gQ 59 58,gM 60 8,gz 61 (.bs 3 1 [60]),gp 62 (.ap 3 1 8 59 61),gp 63 (.nc 55),gF 64 10 63,gS 1 64 62] [7] [15]) (.sq (.rg [] [gM 65 7,gA 6 65] [6] [15]) .rt))
def R2:AC:=.kp [7,8] [15] R1
def NO:bG:=⟨(.sq (.rg [] [gp 3 (.bx 0),gA 6 (.c .z)] [1,2,3] [3]) (.sq (.rg [] [gp 11 (.ld (some 8) 3),gM 12 1,gM 13 2,gp 14 (.bd [(.i .i64 0),(.l 115 []),(.l 3 []),(.l 89 []),(.l 89 []),(.l 91 []),(.l 82 []),(.l 65 []),(.l 25 []),(.i .i64 0),.n,.n,.n,.n,(.i .i64 0),(.i .i64 0),(.i .i64 0)] [(0,8,11),(8,1,12),(9,1,13)]),gp 15 (.bx 14),gA 7 15] [3,7] [3,15]) (.sq (.dg [.ownC 7 10 3,.ownC 7 11 73,.ownC 7 12 3,.ownC 7 13 3] [21,25] [⟨gM 16 7,true,[7],[],false,[],[21,25],[15]⟩,⟨gM 17 7,true,[7],[],false,[],[21,25],[15]⟩,⟨gF 18 5 3,true,[3],[],false,[],[21,25],[15]⟩,⟨gQ 19 18,true,[18],[3],false,[],[21,25],[15]⟩,⟨gp 20 (.ln false 19),true,[19],[3],false,[],[21,25],[15]⟩,⟨gp 21 (.ms 3 1 8 (.i .i64 0) 20),true,[20],[],false,[],[25],[15]⟩,⟨gF 22 3 3,true,[3],[],false,[],[21,25],[15]⟩,⟨gQ 23 22,true,[22],[3],false,[],[21,25],[15]⟩,⟨gp 24 (.ln false 23),true,[23],[3],false,[],[21,25],[15]⟩,⟨gp 25 (.ms 3 1 8 (.i .i64 0) 24),true,[24],[],false,[],[21],[15]⟩,⟨gp 26 (.nc 16),true,[16],[],false,[],[25],[15]⟩,⟨gF 27 11 26,true,[26],[],false,[],[25],[15]⟩,⟨gF 28 1 27,true,[27],[],false,[],[25],[15]⟩,⟨gS 1 28 21,true,[28,21],[15],false,[21],[25],[]⟩,gH (gp 29 (.nc 17)),gH (gF 30 11 29),gH (gF 31 2 30),gH (gS 1 31 25)] [3,7] [3,15]) (.sq (.rg [] [gA 8 (kI 0)] [3,7,8] [3,15]) (.sq (.sq (.rg [] [gF 32 6 3,gQ 33 32,gp 34 (.ln false 33),gM 35 (kI 0)] [7,8,33,34,35] [15]) (.bl 0 Lm.lp)) R2))))),[.t 6]⟩
def Ln:AC:=(.sq (.rg [.fzC 0 11,.fzC 0 12,.fzC 0 13] [gM 26 0,gp 27 (.nc 26),gF 28 11 27,gp 29 (.ld (some 6) 28),gS 6 2 29] [2] [2]) .rt)
def R3:AC:=.kp [0,2] [0,2] Ln
def NP:bG:=⟨(.sq (.rg [] [gp 2 (.al [(.l 73 []),(.l 3 []),(.l 3 []),(.i .i64 0),(.i .i64 0),(.i .i64 0)])] [0,2] [0,2]) (.sq (.sq (.dg [] [] [gL (gM 3 0) [0] [],gL (gM 4 0) [0] [],gL (gp 5 (.nc 4)) [4] [],gL (gF 6 0 5) [5] [],gL (gF 7 7 6) [6] [],⟨gQ 8 7,true,[7],[],true,[],[],[]⟩,gL (gM 9 0) [0] [],gL (gp 10 (.nc 9)) [9] [],gL (gF 11 10 10) [10] [],⟨gQ 12 11,true,[11],[],true,[],[],[]⟩,gL (gM 13 0) [0] [],gL (gp 14 (.nc 13)) [13] [],gL (gF 15 0 14) [14] [],gL (gF 16 6 15) [15] [],⟨gQ 17 16,true,[16],[],true,[],[],[]⟩,⟨gp 18 (.ln false 17),true,[17],[],true,[],[],[]⟩,⟨gp 19 (.ia 1 none 12 18),true,[12,18],[],true,[],[],[]⟩,⟨gQ 20 19,true,[19],[],true,[],[],[]⟩,gH (gp 21 (.c2 32 [3,8,20]))] [0,2,21] [0,2]) (.ite 21 (.rg [] [gM 22 0,gp 23 (.nc 22),gF 24 11 23,gF 25 4 24,gS 1 25 (kI 1)] [0,2] [0,2]) .sk)) R3)),[.c 2 (some 6)]⟩
def R4:AC:=(.sq (.bl 1 (.sq (.dg [] [] [gL (gF 61 0 1) [1] [],gV (gp 62 (.ld (some 2) 61)) [61] [1] [],gL (gF 63 2 1) [1] [],gV (gQ 64 63) [63] [1] [],gL (gM 65 4) [4] [],gV (gp 66 (.ia 1 none 64 65)) [64,65] [1] [],gV (gQ 67 66) [66] [1] [],gH (gp 68 (.ca 0 34 [62,67])),gH (gp 69 (.no 68))] [1,4,69] [1]) (.ite 69 (.sq (.rg [] [gA 2 (kI 5)] [2] []) .rt) .sk))) (.rg [] [gM 59 4,gB 60 .add 59 (kI 1),gA 4 60] [1,4] [1]))
def R5:AC:=.kp [1,4] [1] R4
def R6:AC:=(.sq (.sq (.rg [] [gM 54 4,gF 55 2 1,gQ 56 55,gp 57 (.ln false 56),gB 58 .lss 54 57] [1,4,58] [1]) (.ite 58 .sk (.ex 0))) R5)
def Lo:bq:=⟨[1,4],[1],R6⟩
def R7:AC:=(.sq (.bl 3 (.rg [] [gM 84 5,gF 85 5 1,gQ 86 85,gM 87 6,gp 88 (.ia 3 none 86 87),gF 89 1 88,gp 90 (.ld (some 2) 89),gz 91 (.bs 89 2 [90]),gp 92 (.ap 89 2 48 84 91),gA 5 92] [1,5,6] [1])) (.rg [] [gM 82 6,gB 83 .add 82 (kI 1),gA 6 83] [1,5,6] [1]))
def R8:AC:=.kp [1,5,6] [1] R7
def R9:AC:=(.sq (.sq (.rg [] [gM 77 6,gF 78 5 1,gQ 79 78,gp 80 (.ln false 79),gB 81 .lss 77 80] [1,5,6,81] [1]) (.ite 81 .sk (.ex 2))) R8)
def Lq:bq:=⟨[1,5,6],[1],R9⟩
def Sa:AC:=(.sq (.bl 5 (.sq (.dg [] [] [gL (gF 99 0 1) [1] [],gV (gp 100 (.ld (some 2) 99)) [99] [1] [],gL (gM 101 5) [5] [],gL (gM 102 7) [7] [],gL (gp 103 (.ia 2 none 101 102)) [101,102,5] [],gL (gp 104 (.ld (some 2) 103)) [103,5] [],gH (gp 105 (.ca 0 35 [100,104])),gH (gA 8 105)] [1,5,7,8] [1]) (.sq (.rg [] [gM 106 8,gB 107 .neq 106 (kI 0)] [1,5,7,8,107] [1]) (.ite 107 (.sq (.rg [] [gM 108 8,gA 2 108] [2] []) .rt) .sk)))) (.rg [] [gM 97 7,gB 98 .add 97 (kI 1),gA 7 98] [1,5,7] [1]))
def Sb:AC:=.kp [1,5,7] [1] Sa
def Sc:AC:=(.sq (.sq (.rg [] [gM 93 7,gM 94 5,gp 95 (.ln false 94),gB 96 .lss 93 95] [1,5,7,96] [1]) (.ite 96 .sk (.ex 4))) Sb)
def Lr:bq:=⟨[1,5,7],[1],Sc⟩
def Sd:AC:=(.sq (.bl 7 (.sq (.rg [] [gF 116 5 1,gQ 117 116,gM 118 9,gp 119 (.ia 3 none 117 118),gp 120 (.ld (some 3) 119),gp 10 (.al [(.b false),(.l 134 []),(.l 134 [])]),gS 3 10 120] [1,9,10] [1,10]) (.sq (.rg [] [gF 121 0 10,gQ 122 121,gp 123 (.no 122),gM 124 123,gg 125 (.fa 1 10) 124 true,gg 126 (.fa 0 125) 124 true,gg 127 (.ld none 126) 124 true,gg 128 (.ln false 127) 124 true,gg 129 (.bo .gtr false 128 (kI 0)) 124 true,gg 130 (.mv 129) 124 true,gg 131 (.fa 1 10) 130 false,gg 132 (.fa 1 131) 130 false,gg 133 (.ld none 132) 130 false,gg 134 (.ln false 133) 130 false,gg 135 (.bo .gtr false 134 (kI 0)) 130 false,gg 136 (.pk 130 (.c (.b true)) 135) 124 true,gp 137 (.pk 124 136 (.c (.b false)))] [1,9,137] [1]) (.ite 137 (.sq (.rg [] [gA 2 (kI 1)] [2] []) .rt) .sk)))) (.rg [] [gM 114 9,gB 115 .add 114 (kI 1),gA 9 115] [1,9] [1]))
def Sf:AC:=.kp [1,9] [1] Sd
def Sg:AC:=(.sq (.sq (.rg [] [gM 109 9,gF 110 5 1,gQ 111 110,gp 112 (.ln false 111),gB 113 .lss 109 112] [1,9,113] [1]) (.ite 113 .sk (.ex 6))) Sf)
def Ls:bq:=⟨[1,9],[1],Sg⟩
def NQ:AC:=(.sq (.bl 9 (.rg [] [gM 148 11,gF 149 6 1,gQ 150 149,gM 151 12,gp 152 (.ia 5 none 150 151),gF 153 1 152,gQ 154 153,gp 155 (.ca 0 36 [154,(kI 1)]),gB 156 .add 148 155,gA 11 156] [1,11,12] [1])) (.rg [] [gM 146 12,gB 147 .add 146 (kI 1),gA 12 147] [1,11,12] [1]))
def NS:AC:=.kp [1,11,12] [1] NQ
def Sh:AC:=(.sq (.sq (.rg [] [gM 141 12,gF 142 6 1,gQ 143 142,gp 144 (.ln false 143),gB 145 .lss 141 144] [1,11,12,145] [1]) (.ite 145 .sk (.ex 8))) NS)
def Lt:bq:=⟨[1,11,12],[1],Sh⟩
def NT:AC:=(.sq (.bl 15 (.sq (.dg [] [] [gL (gF 198 0 14) [14] [],gV (gQ 199 198) [198] [14] [],gL (gM 200 16) [16] [],gV (gp 201 (.ia 1 none 199 200)) [199,200] [14] [],gV (gQ 202 201) [201] [14] [],gL (gF 203 0 14) [14] [],gV (gQ 204 203) [203] [14] [],gL (gM 205 15) [15] [],gV (gp 206 (.ia 1 none 204 205)) [204,205] [14] [],gV (gQ 207 206) [206] [14] [],gH (gB 208 .eql 202 207)] [1,13,14,15,16,208] [1,14]) (.ite 208 (.sq (.rg [] [gA 2 (kI 6)] [2] []) .rt) .sk))) (.rg [] [gM 196 16,gB 197 .add 196 (kI 1),gA 16 197] [1,13,14,15,16] [1,14]))
def NU:AC:=.kp [1,13,14,15,16] [1,14] NT
def Si:AC:=(.sq (.sq (.rg [] [gM 193 16,gM 194 15,gB 195 .lss 193 194] [1,13,14,15,16,195] [1,14]) (.ite 195 .sk (.ex 14))) NU)
def Lu:bq:=⟨[1,13,14,15,16],[1,14],Si⟩
def NV:AC:=(.sq (.rg [] [gA 16 (kI 0)] [1,13,14,15,16] [1,14]) (.bl 14 Lu.lp))
def NW:AC:=.kp [1,13,14,15] [1,14] NV
def NX:AC:=(.sq (.bl 13 (.sq (.sq (.dg [] [] [gL (gF 182 0 14) [14] [],gV (gQ 183 182) [182] [14] [],gL (gM 184 15) [15] [],gV (gp 185 (.ia 1 none 183 184)) [183,184] [14] [],gV (gQ 186 185) [185] [14] [],gL (gF 187 5 1) [1] [],gV (gQ 188 187) [187] [1] [],gV (gp 189 (.ln false 188)) [188] [1] [],gL (gB 190 .sub 189 (kI 1)) [189] [],gH (gp 191 (.ca 0 14 [186,(kI 0),190])),gH (gp 192 (.no 191))] [1,13,14,15,192] [1,14]) (.ite 192 (.sq (.rg [] [gA 2 (kI 5)] [2] []) .rt) .sk)) NW)) (.rg [] [gM 180 15,gB 181 .add 180 (kI 1),gA 15 181] [1,13,14,15] [1,14]))
def NY:AC:=.kp [1,13,14,15] [1,14] NX
def Sj:AC:=(.sq (.sq (.rg [] [gM 175 15,gF 176 0 14,gQ 177 176,gp 178 (.ln false 177),gB 179 .lss 175 178] [1,13,14,15,179] [1,14]) (.ite 179 .sk (.ex 12))) NY)
def Lv:bq:=⟨[1,13,14,15],[1,14],Sj⟩
def Jj:AC:=(.sq (.rg [] [gM 222 3,gB 223 .neq 222 (kI 0)] [1,3,13,223] [1]) (.ite 223 (.sq (.rg [] [gM 224 3,gA 2 224] [2] []) .rt) .sk))
def NZ:AC:=.kp [1,3,13] [1] Jj
def N0:AC:=(.sq (.rg [] [gp 209 (.ld (some 8) 1),gM 210 13,gF 211 1 14,gQ 212 211,gp 213 (.ca 0 37 [209,210,212]),gA 3 213] [1,3,13,14] [1,14]) (.sq (.sq (.rg [] [gM 214 3,gB 215 .eql 214 (kI 0)] [1,3,13,14,215] [1,14]) (.ite 215 (.rg [] [gF 216 2 14,gp 217 (.ld (some 3) 216),gF 218 5 1,gQ 219 218,gp 220 (.ln false 219),gp 221 (.ca 0 38 [217,220]),gA 3 221] [1,3,13] [1]) .sk)) NZ))
def N1:AC:=.kp [1,13,14] [1,14] N0
def N2:AC:=(.sq (.sq (.rg [] [gA 15 (kI 0)] [1,13,14,15] [1,14]) (.bl 12 Lv.lp)) N1)
def N3:AC:=.kp [1,13,14] [1,14] N2
def N4:AC:=(.sq (.bl 11 (.sq (.rg [] [gF 166 6 1,gQ 167 166,gM 168 13,gp 169 (.ia 5 none 167 168),gp 170 (.ld (some 5) 169),gp 14 (.al [(.l 3 []),(.l 65 []),(.i .i64 0),(.i .i64 0),(.l 63 [])]),gS 5 14 170] [1,13,14] [1,14]) (.sq (.sq (.rg [] [gF 171 0 14,gQ 172 171,gp 173 (.ln false 172),gB 174 .gtr 173 (kI 4)] [1,13,14,174] [1,14]) (.ite 174 (.sq (.rg [] [gA 2 (kI 2)] [2] []) .rt) .sk)) N3))) (.rg [] [gM 164 13,gB 165 .add 164 (kI 1),gA 13 165] [1,13] [1]))
def N5:AC:=.kp [1,13] [1] N4
def Sk:AC:=(.sq (.sq (.rg [] [gM 159 13,gF 160 6 1,gQ 161 160,gp 162 (.ln false 161),gB 163 .lss 159 162] [1,13,163] [1]) (.ite 163 .sk (.ex 10))) N5)
def Lw:bq:=⟨[1,13],[1],Sk⟩
def N6:AC:=(.sq (.rg [] [gp 225 (.ld (some 8) 1),gF 226 6 1,gQ 227 226,gp 228 (.ln false 227),gF 229 7 1,gQ 230 229,gp 231 (.ca 0 37 [225,228,230]),gA 2 231] [2] []) .rt)
def N7:AC:=.kp [1] [1] N6
def N8:AC:=(.sq (.sq (.rg [] [gA 13 (kI 0)] [1,13] [1]) (.bl 10 Lw.lp)) N7)
def N9:AC:=.kp [1] [1] N8
def Oa:AC:=(.sq (.sq (.rg [] [gM 157 11,gB 158 .gtr 157 (kI 50)] [1,158] [1]) (.ite 158 (.sq (.rg [] [gA 2 (kI 2)] [2] []) .rt) .sk)) N9)
def Ob:AC:=.kp [1,11] [1] Oa
def Sl:AC:=(.sq (.rg [] [gF 138 7 1,gQ 139 138,gp 140 (.ca 0 36 [139,(kI 1)]),gA 11 140] [1,11] [1]) (.sq (.sq (.rg [] [gA 12 (kI 0)] [1,11,12] [1]) (.bl 8 Lt.lp)) Ob))
def Sm:AC:=.kp [1] [1] Sl
def Sn:AC:=(.sq (.sq (.rg [] [gA 9 (kI 0)] [1,9] [1]) (.bl 6 Ls.lp)) Sm)
def So:AC:=.kp [1] [1] Sn
def Sq:AC:=(.sq (.sq (.rg [] [gA 7 (kI 0)] [1,5,7] [1]) (.bl 4 Lr.lp)) So)
def Sr:AC:=.kp [1,5] [1] Sq
def Ss:AC:=(.sq (.dg [] [70,73] [gL (gp 70 (.bs 89 2 [])) [] [73],gL (gF 71 3 1) [1] [70,73],gV (gQ 72 71) [71] [1] [70,73],⟨gp 73 (.ap 89 2 48 70 72),true,[70,72],[1],false,[70],[],[]⟩,gL (gF 74 4 1) [1] [70,73],gV (gQ 75 74) [74] [1] [70,73],gH (gp 76 (.ap 89 2 48 73 75)),gH (gA 5 76)] [1,5] [1]) (.sq (.sq (.rg [.own 5 89] [gA 6 (kI 0)] [1,5,6] [1]) (.bl 2 Lq.lp)) Sr))
def Su:AC:=.kp [1] [1] Ss
def Sv:AC:=(.sq (.sq (.rg [] [gA 4 (kI 0)] [1,4] [1]) (.bl 0 Lo.lp)) Su)
def Sw:AC:=.kp [1] [1] Sv
def Sx:AC:=(.sq (.sq (.rg [] [gF 23 5 1,gQ 24 23,gp 25 (.ln false 24),gB 26 .gtr 25 (kI 16),gM 27 26,gg 28 (.fa 3 1) 27 false,gg 29 (.ld none 28) 27 false,gg 30 (.ln false 29) 27 false,gg 31 (.bo .gtr false 30 (kI 5)) 27 false,gp 32 (.pk 27 (.c (.b true)) 31),gM 33 32,gg 34 (.fa 4 1) 33 false,gg 35 (.ld none 34) 33 false,gg 36 (.ln false 35) 33 false,gg 37 (.bo .gtr false 36 (kI 5)) 33 false,gp 38 (.pk 33 (.c (.b true)) 37),gM 39 38,gg 40 (.fa 6 1) 39 false,gg 41 (.ld none 40) 39 false,gg 42 (.ln false 41) 39 false,gg 43 (.bo .gtr false 42 (kI 5)) 39 false,gp 44 (.pk 39 (.c (.b true)) 43),gM 45 44,gg 46 (.fa 2 1) 45 false,gg 47 (.ld none 46) 45 false,gg 48 (.ln false 47) 45 false,gg 49 (.fa 0 1) 45 false,gg 50 (.fa 0 49) 45 false,gg 51 (.ld none 50) 45 false,gg 52 (.bo .gtr false 48 51) 45 false,gp 53 (.pk 45 (.c (.b true)) 52)] [1,53] [1]) (.ite 53 (.sq (.rg [] [gA 2 (kI 2)] [2] []) .rt) .sk)) Sw)
def Sy:AC:=.kp [1] [1] Sx
def Oc:bG:=⟨(.sq (.rg [] [gp 1 (.bx 0),gA 2 (kI 0)] [1] [1]) (.sq (.rg [] [gF 17 0 1,gp 18 (.ld (some 2) 17),gp 19 (.ca 0 33 [18]),gA 3 19] [1,3] [1]) (.sq (.sq (.rg [] [gM 20 3,gB 21 .neq 20 (kI 0)] [1,3,21] [1]) (.ite 21 (.sq (.rg [] [gM 22 3,gA 2 22] [2] []) .rt) .sk)) Sy))),[.t 2]⟩
def Od:bG:=⟨(.sq (.rg [] [gA 2 (.c (.b false))] [0] []) (.sq (.rg [] [gM 3 0,gp 4 (.ca 0 14 [3,(kI (-2147483648)),(kI 2147483647)]),gA 2 4] [2] []) .rt)),[.t 2]⟩
def Oe:bG:=⟨(.sq (.rg [] [gA 6 (.c (.b false))] [0,1,2] []) (.sq (.rg [] [gM 7 0,gM 8 1,gB 9 .geq 7 8,gM 10 9,gg 11 (.mv 0) 10 true,gg 12 (.mv 2) 10 true,gg 13 (.bo .leq false 11 12) 10 true,gp 14 (.pk 10 13 (.c (.b false))),gA 6 14] [6] []) .rt)),[.t 6]⟩
def Sz:AC:=(.sq (.bl 1 (.sq (.rg [] [gF 11 0 3,gQ 12 11,gz 13 (.bs 4 1 [(.c (.b true))]),gp 14 (.ap 4 1 1 12 13),gF 15 0 3,gS 1 15 14] [1,2,3,4] [1,2,3]) (.rg [] [gF 16 1 3,gQ 17 16,gz 18 (.bs 4 1 [(.c (.b false))]),gp 19 (.ap 4 1 1 17 18),gF 20 1 3,gS 1 20 19] [1,2,3,4] [1,2,3]))) (.rg [] [gM 9 4,gB 10 .add 9 (kI 1),gA 4 10] [1,2,3,4] [1,2,3]))
def SA:AC:=.kp [1,2,3,4] [1,2,3] Sz
def SB:AC:=(.sq (.sq (.rg [] [gM 5 4,gF 6 0 1,gQ 7 6,gB 8 .lss 5 7] [1,2,3,4,8] [1,2,3]) (.ite 8 .sk (.ex 0))) SA)
def Lx:bq:=⟨[1,2,3,4],[1,2,3],SB⟩
def Of:bG:=⟨(.sq (.rg [] [gp 1 (.bx 0),gp 2 (.al [(.l 4 []),(.l 4 [])])] [1,2] [1,2]) (.sq (.rg [] [gp 3 (.al [.n,.n])] [1,2,3] [1,2,3]) (.sq (.sq (.rg [.ownC 3 1 4,.ownC 3 0 4] [gA 4 (kI 0)] [1,2,3,4] [1,2,3]) (.bl 0 Lx.lp)) (.sq (.rg [.fzC 3 0,.fzC 3 1] [gp 21 (.ld (some 2) 3),gS 2 2 21] [2] [2]) .rt)))),[.c 2 (some 2)]⟩
def SC:AC:=(.sq (.bl 1 (.sq (.rg [] [gM 15 6,gM 16 2,gM 17 1,gM 18 7,gp 19 (.ia 9 none 17 18),gp 20 (.ld (some 9) 19),gp 21 (.bd [(.i .i64 0),(.i .i64 0),(.i .i64 0),(.i .i64 0),(.i .i64 0),(.i .i64 0),(.i .i64 0),(.l 63 []),(.l 63 []),(.l 65 []),(.l 65 []),(.i .i64 0)] [(1,1,16),(2,9,20)]),gz 22 (.bs 67 12 [21]),gp 23 (.ap 67 12 160 15 22),gA 6 23] [0,1,2,6,7] [0]) (.dg [] [] [gL (gM 24 2) [2] [],gL (gM 25 1) [1] [],gL (gM 26 7) [7] [],gL (gp 27 (.ia 9 none 25 26)) [25,26] [],gL (gF 28 7 27) [27] [],gL (gQ 29 28) [28] [],gL (gp 30 (.ca 0 39 [29])) [29] [],gL (gB 31 .add (kI 1) 30) [30] [],gL (gM 32 1) [1] [],gL (gM 33 7) [7] [],gL (gp 34 (.ia 9 none 32 33)) [32,33] [],gL (gF 35 8 34) [34] [],gL (gQ 36 35) [35] [],gL (gp 37 (.ca 0 39 [36])) [36] [],gL (gB 38 .add 31 37) [31,37] [],gH (gB 39 .add 24 38),gH (gA 2 39)] [0,1,2,6,7] [0]))) (.rg [] [gM 13 7,gB 14 .add 13 (kI 1),gA 7 14] [0,1,2,6,7] [0]))
def SD:AC:=.kp [0,1,2,6,7] [0] SC
def SE:AC:=(.sq (.sq (.rg [] [gM 9 7,gM 10 1,gp 11 (.ln false 10),gB 12 .lss 9 11] [0,1,2,6,7,12] [0]) (.ite 12 .sk (.ex 0))) SD)
def Ly:bq:=⟨[0,1,2,6,7],[0],SE⟩
def SF:AC:=(.sq (.bl 3 (.dg [] [56,57] [gL (gM 47 0) [0] [56,57],gL (gM 48 0) [0] [56,57],gL (gp 49 (.nc 48)) [48] [56,57],gL (gF 50 16 49) [49] [56,57],⟨gQ 51 50,true,[50],[],true,[],[56,57],[]⟩,gL (gM 52 6) [6] [56,57],gL (gM 53 8) [8] [56,57],gL (gp 54 (.ia 12 none 52 53)) [52,53,6] [56,57],gL (gp 55 (.ld (some 12) 54)) [54,6] [56,57],gL (gz 56 (.bs 67 12 [55])) [55] [57],⟨gp 57 (.ap 67 12 160 51 56),true,[51,56],[],true,[51,51],[],[]⟩,gH (gp 58 (.nc 47)),gH (gF 59 16 58),gH (gS 1 59 57)] [0,6,8] [0])) (.rg [] [gM 45 8,gB 46 .sub 45 (kI 1),gA 8 46] [0,6,8] [0]))
def SG:AC:=.kp [0,6,8] [0] SF
def SH:AC:=(.sq (.sq (.rg [] [gM 43 8,gB 44 .geq 43 (kI 0)] [0,6,8,44] [0]) (.ite 44 .sk (.ex 2))) SG)
def Lz:bq:=⟨[0,6,8],[0],SH⟩
def SI:AC:=(.sq (.rg [] [gM 40 6,gp 41 (.ln false 40),gB 42 .sub 41 (kI 1),gA 8 42] [0,6,8] [0]) (.bl 2 Lz.lp))
def SJ:AC:=.kp [0,6] [0] SI
def Og:bG:=⟨(.sq (.rg [] [gA 6 (.c .n)] [0,1,2,6] [0]) (.sq (.sq (.rg [.own 6 67] [gA 7 (kI 0)] [0,1,2,6,7] [0]) (.bl 0 Ly.lp)) SJ)),[]⟩
def SK:AC:=(.sq (.bl 1 (.rg [] [gM 12 5,gF 13 6 2,gQ 14 13,gM 15 6,gp 16 (.ia 5 none 14 15),gF 17 1 16,gQ 18 17,gp 19 (.ca 0 39 [18]),gB 20 .add 12 19,gA 5 20] [1,2,5,6] [2])) (.rg [] [gM 10 6,gB 11 .add 10 (kI 1),gA 6 11] [1,2,5,6] [2]))
def SL:AC:=.kp [1,2,5,6] [2] SK
def SM:AC:=(.sq (.sq (.rg [] [gM 7 6,gM 8 1,gB 9 .lss 7 8] [1,2,5,6,9] [2]) (.ite 9 .sk (.ex 0))) SL)
def LA:bq:=⟨[1,2,5,6],[2],SM⟩
def Oh:bG:=⟨(.sq (.rg [] [gp 2 (.bx 0),gA 4 (kI 0)] [1,2] [2]) (.sq (.rg [] [gA 5 (kI 0)] [1,2,5] [2]) (.sq (.sq (.rg [] [gA 6 (kI 0)] [1,2,5,6] [2]) (.bl 0 LA.lp)) (.sq (.rg [] [gM 21 5,gA 4 21] [4] []) .rt)))),[.t 4]⟩
def SN:AC:=(.dg [] [] [gL (gM 35 0) [0] [],gL (gp 36 (.nc 35)) [35] [],gL (gF 37 18 36) [36] [],⟨gQ 38 37,true,[37],[],true,[],[],[]⟩,gL (gF 39 2 3) [3] [],gL (gF 40 1 39) [39] [],gV (gQ 41 40) [40] [3] [],gV (gp 42 (.ld (some 2) 5)) [5] [5] [],gH (gp 43 (.ia 2 none 38 41)),gH (gS 2 43 42)] [0,3,4] [0,3,4])
def SO:AC:=.kp [0,3,4,5] [0,3,4,5] SN
def SP:AC:=(.dg [] [] [gL (gM 44 0) [0] [],gL (gp 45 (.nc 44)) [44] [],gL (gF 46 10 45) [45] [],gL (gF 47 1 46) [46] [],⟨gQ 48 47,true,[47],[],true,[],[],[]⟩,gL (gF 49 2 3) [3] [],gL (gF 50 1 49) [49] [],gV (gQ 51 50) [50] [3] [],gL (gF 52 2 4) [4] [],gV (gp 53 (.ld (some 3) 52)) [52] [4] [],gL (gM 54 0) [0] [],gL (gp 55 (.nc 54)) [54] [],gL (gF 56 10 55) [55] [],gL (gF 57 1 56) [56] [],⟨gQ 58 57,true,[57],[],true,[],[],[]⟩,⟨gp 59 (.ca 0 43 [53,58]),true,[53,58],[],true,[],[],[]⟩,gH (gp 60 (.ia 1 none 48 51)),gH (gS 1 60 59)] [] [])
def SQ:AC:=.kp [0,3,4] [0,3,4] SP
def Oi:bG:=⟨(.sq (.rg [] [gp 3 (.bx 1)] [0,3] [0,3]) (.sq (.dg [] [4] [gL (gM 6 0) [0] [4],gL (gp 7 (.nc 6)) [6] [4],gL (gF 8 0 7) [7] [4],gL (gF 9 6 8) [8] [4],⟨gQ 10 9,true,[9],[],true,[],[4],[]⟩,gL (gF 11 2 3) [3] [4],gL (gF 12 2 11) [11] [4],gV (gQ 13 12) [12] [3] [4],⟨gp 14 (.ia 5 none 10 13),true,[10,13],[],true,[],[4],[]⟩,⟨gp 15 (.ld (some 5) 14),true,[14],[],true,[],[4],[]⟩,gL (gp 4 (.al [(.l 3 []),(.l 65 []),(.i .i64 0),(.i .i64 0),(.l 63 [])])) [] [],gH (gS 5 4 15)] [0,3,4] [0,3,4]) (.sq (.sq (.rg [] [gM 16 0,gp 17 (.nc 16),gF 18 17 17,gQ 19 18] [0,3,4,19] [0,3,4]) (.ite 19 (.sq (.rg [] [gM 20 0,gF 21 2 4,gp 22 (.ld (some 3) 21),gp 23 (.c2 40 [20,22]),gp 5 (.al [(.l 4 []),(.l 4 [])]),gS 2 5 23] [0,3,4,5] [0,3,4,5]) (.sq (.sq (.rg [] [gM 24 0,gF 25 2 3,gF 26 1 25,gQ 27 26,gp 28 (.ld (some 2) 5),gp 29 (.c2 41 [24,27,28]),gp 30 (.no 29)] [0,3,4,5,30] [0,3,4,5]) (.ite 30 (.sq (.rg [] [gM 31 0,gF 32 1 3,gQ 33 32,gp 34 (.c2 42 [31,33])] [] []) .rt) .sk)) SO)) .sk)) SQ))),[]⟩
def LB:AC:=(.sq (.sq (.rg [] [gM 75 0,gF 76 3 4,gp 77 (.ld (some 3) 76),gp 78 (.c2 45 [75,77])] [0,3,4,78] [0,3,4]) (.ite 78 (.sq (.dg [] [88,89] [gL (gM 79 0) [0] [88,89],gL (gM 80 0) [0] [88,89],gL (gp 81 (.nc 80)) [80] [88,89],gL (gF 82 16 81) [81] [88,89],⟨gQ 83 82,true,[82],[],true,[],[88,89],[]⟩,gL (gF 84 1 3) [3] [88,89],gV (gQ 85 84) [84] [3] [88,89],gV (gp 86 (.ld (some 9) 4)) [4] [4] [88,89],gL (gp 87 (.bd [(.i .i64 0),(.i .i64 0),(.i .i64 0),(.i .i64 0),(.i .i64 0),(.i .i64 0),(.i .i64 0),(.l 63 []),(.l 63 []),(.l 65 []),(.l 65 []),(.i .i64 0)] [(0,1,(kI 1)),(1,1,85),(2,9,86)])) [85,86] [88,89],gL (gz 88 (.bs 67 12 [87])) [87] [89],⟨gp 89 (.ap 67 12 160 83 88),true,[83,88],[],true,[83,83],[],[]⟩,gH (gp 90 (.nc 79)),gH (gF 91 16 90),gH (gS 1 91 89)] [0,3,4] [0,3,4]) (.rg [] [gM 92 0,gF 93 7 4,gQ 94 93,gF 95 1 3,gQ 96 95,gB 97 .add 96 (kI 1),gp 98 (.c2 16 [92,94,97])] [] [])) .sk)) .rt)
def SS:AC:=.kp [0,3,4] [0,3,4] LB
def LC:AC:=(.dg [] [] [gL (gM 142 0) [0] [],gL (gp 143 (.nc 142)) [142] [],gL (gF 144 10 143) [143] [],gL (gF 145 2 144) [144] [],⟨gQ 146 145,true,[145],[],true,[],[],[]⟩,gL (gF 147 2 4) [4] [],gV (gQ 148 147) [147] [4] [],gH (gp 149 (.ia 1 none 146 148)),gH (gQ 150 149),gH (gB 151 .add 150 (kI 1)),gH (gp 152 (.ia 1 none 146 148)),gH (gS 1 152 151)] [0,3,4,5] [0,3,4])
def SU:AC:=.kp [0,3,4,5] [0,3,4] LC
def LD:AC:=(.sq (.rg [] [gF 173 0 4,gQ 174 173] [0,3,4,5,174] [0,3,4]) (.bl 1 (.sq (.rg [] [gB 176 .eql 174 (kI 4),gA 175 176] [0,3,4,5,174,175] [0,3,4]) (.ite 175 (.dg [] [189,190] [gL (gM 177 0) [0] [189,190],gL (gM 178 0) [0] [189,190],gL (gp 179 (.nc 178)) [178] [189,190],gL (gF 180 10 179) [179] [189,190],gL (gF 181 0 180) [180] [189,190],⟨gQ 182 181,true,[181],[],true,[],[189,190],[]⟩,gL (gF 183 1 3) [3] [189,190],gV (gQ 184 183) [183] [3] [189,190],gL (gF 185 2 4) [4] [189,190],gV (gQ 186 185) [185] [4] [189,190],gL (gM 187 5) [5] [189,190],gL (gp 188 (.bd [(.i .i64 0),(.i .i64 0),(.i .i64 0),(.i .i64 0)] [(0,1,(kI 1)),(1,1,184),(2,1,186),(3,1,187)])) [184,186,187] [189,190],gL (gz 189 (.bs 73 4 [188])) [188] [190],⟨gp 190 (.ap 73 4 32 182 189),true,[182,189],[],true,[182,182],[],[]⟩,gH (gp 191 (.nc 177)),gH (gF 192 10 191),gH (gF 193 0 192),gH (gS 1 193 190)] [] []) (.sq (.rg [] [gB 195 .eql 174 (kI 5),gA 194 195] [0,3,4,5,174,194] [0,3,4]) (.ite 194 (.dg [] [208,209] [gL (gM 196 0) [0] [208,209],gL (gM 197 0) [0] [208,209],gL (gp 198 (.nc 197)) [197] [208,209],gL (gF 199 10 198) [198] [208,209],gL (gF 200 0 199) [199] [208,209],⟨gQ 201 200,true,[200],[],true,[],[208,209],[]⟩,gL (gF 202 1 3) [3] [208,209],gV (gQ 203 202) [202] [3] [208,209],gL (gF 204 1 4) [4] [208,209],gV (gQ 205 204) [204] [4] [208,209],gL (gM 206 5) [5] [208,209],gL (gp 207 (.bd [(.i .i64 0),(.i .i64 0),(.i .i64 0),(.i .i64 0)] [(0,1,(kI 2)),(1,1,203),(2,1,205),(3,1,206)])) [203,205,206] [208,209],gL (gz 208 (.bs 73 4 [207])) [207] [209],⟨gp 209 (.ap 73 4 32 201 208),true,[201,208],[],true,[201,201],[],[]⟩,gH (gp 210 (.nc 196)),gH (gF 211 10 210),gH (gF 212 0 211),gH (gS 1 212 209)] [] []) (.sq (.rg [] [gB 214 .eql 174 (kI 6),gA 213 214] [0,3,4,5,213] [0,3,4]) (.ite 213 (.dg [] [227,228] [gL (gM 215 0) [0] [227,228],gL (gM 216 0) [0] [227,228],gL (gp 217 (.nc 216)) [216] [227,228],gL (gF 218 10 217) [217] [227,228],gL (gF 219 0 218) [218] [227,228],⟨gQ 220 219,true,[219],[],true,[],[227,228],[]⟩,gL (gF 221 1 3) [3] [227,228],gV (gQ 222 221) [221] [3] [227,228],gL (gF 223 1 4) [4] [227,228],gV (gQ 224 223) [223] [4] [227,228],gL (gM 225 5) [5] [227,228],gL (gp 226 (.bd [(.i .i64 0),(.i .i64 0),(.i .i64 0),(.i .i64 0)] [(0,1,(kI 3)),(1,1,222),(2,1,224),(3,1,225)])) [222,224,225] [227,228],gL (gz 227 (.bs 73 4 [226])) [226] [228],⟨gp 228 (.ap 73 4 32 220 227),true,[220,227],[],true,[220,220],[],[]⟩,gH (gp 229 (.nc 215)),gH (gF 230 10 229),gH (gF 231 0 230),gH (gS 1 231 228)] [] []) .sk))))))))
def SV:AC:=.kp [0,3,4,5] [0,3,4] LD
def LF:AC:=(.sq (.sq (.rg [] [gF 161 0 4,gQ 162 161,gB 163 .neq 162 (kI 4)] [0,3,4,5,163] [0,3,4]) (.ite 163 (.dg [] [] [gL (gM 164 0) [0] [],gL (gp 165 (.nc 164)) [164] [],gL (gF 166 10 165) [165] [],gL (gF 167 1 166) [166] [],⟨gQ 168 167,true,[167],[],true,[],[],[]⟩,gL (gF 169 1 4) [4] [],gV (gQ 170 169) [169] [4] [],gL (gM 171 5) [5] [],gH (gp 172 (.ia 1 none 168 170)),gH (gS 1 172 171)] [0,3,4,5] [0,3,4]) .sk)) SV)
def SW:AC:=.kp [0,3,4,5] [0,3,4] LF
def SX:AC:=(.sq (.rg [] [gA 5 (kI 0)] [0,3,4,5] [0,3,4]) (.sq (.sq (.rg [] [gF 107 0 4,gQ 108 107,gB 109 .eql 108 (kI 3)] [0,3,4,5,109] [0,3,4]) (.ite 109 (.sq (.dg [] [] [gL (gM 110 0) [0] [],gL (gp 111 (.nc 110)) [110] [],gL (gF 112 8 111) [111] [],⟨gQ 113 112,true,[112],[],true,[],[],[]⟩,gL (gF 114 2 4) [4] [],gV (gQ 115 114) [114] [4] [],gH (gp 116 (.ia 1 none 113 115)),gH (gQ 117 116),gH (gA 6 117)] [0,3,4,5,6] [0,3,4]) (.sq (.sq (.dg [] [] [gL (gM 118 0) [0] [],gL (gp 119 (.nc 118)) [118] [],gL (gF 120 10 119) [119] [],gL (gF 121 2 120) [120] [],⟨gQ 122 121,true,[121],[],true,[],[],[]⟩,gL (gF 123 2 4) [4] [],gV (gQ 124 123) [123] [4] [],⟨gp 125 (.ia 1 none 122 124),true,[122,124],[],true,[],[],[]⟩,⟨gQ 126 125,true,[125],[],true,[],[],[]⟩,gL (gM 127 6) [6] [],gL (gp 128 (.ln false 127)) [127] [],gH (gB 129 .lss 126 128)] [0,3,4,5,6,129] [0,3,4]) (.ite 129 (.dg [] [] [gL (gM 130 6) [6] [],gL (gM 131 0) [0] [],gL (gp 132 (.nc 131)) [131] [],gL (gF 133 10 132) [132] [],gL (gF 134 2 133) [133] [],⟨gQ 135 134,true,[134],[],true,[],[],[]⟩,gL (gF 136 2 4) [4] [],gV (gQ 137 136) [136] [4] [],⟨gp 138 (.ia 1 none 135 137),true,[135,137],[],true,[],[],[]⟩,⟨gQ 139 138,true,[138],[],true,[],[],[]⟩,gH (gp 140 (.ia 1 none 130 139)),gH (gQ 141 140),gH (gA 5 141)] [0,3,4,5] [0,3,4]) .sk)) SU)) (.dg [] [] [gL (gF 153 3 4) [4] [],gV (gp 154 (.ld (some 3) 153)) [153] [4] [],gL (gM 155 0) [0] [],gL (gp 156 (.nc 155)) [155] [],gL (gF 157 10 156) [156] [],gL (gF 158 1 157) [157] [],⟨gQ 159 158,true,[158],[],true,[],[],[]⟩,gH (gp 160 (.ca 0 43 [154,159])),gH (gA 5 160)] [0,3,4,5] [0,3,4]))) SW))
def SY:AC:=.kp [0,3,4] [0,3,4] SX
def SZ:AC:=(.sq (.sq (.rg [] [gM 99 0,gp 100 (.ld (some 9) 4),gp 101 (.c2 46 [99,100]),gp 102 (.no 101)] [0,3,4,102] [0,3,4]) (.ite 102 (.sq (.rg [] [gM 103 0,gF 104 1 3,gQ 105 104,gp 106 (.c2 42 [103,105])] [] []) .rt) .sk)) SY)
def S0:AC:=.kp [0,3,4] [0,3,4] SZ
def Oj:bG:=⟨(.sq (.rg [] [gp 3 (.bx 1)] [0,3] [0,3]) (.sq (.rg [] [gF 7 2 3,gp 8 (.ld (some 9) 7),gp 4 (.al [(.i .i64 0),(.i .i64 0),(.i .i64 0),(.i .i64 0),(.i .i64 0),(.l 63 []),(.l 63 []),(.l 65 []),(.l 65 [])]),gS 9 4 8] [0,3,4] [0,3,4]) (.sq (.sq (.rg [] [gF 9 0 4,gQ 10 9] [0,3,4,10] [0,3,4]) (.bl 0 (.sq (.rg [] [gB 12 .eql 10 (kI 2),gA 11 12] [0,3,4,10,11] [0,3,4]) (.ite 11 (.sq (.rg [] [gM 13 0,gp 14 (.ld (some 12) 3),gp 15 (.c2 44 [13,14])] [] []) .rt) (.sq (.rg [] [gB 17 .eql 10 (kI 7),gA 16 17] [0,3,4,10,16] [0,3,4]) (.ite 16 (.sq (.dg [] [29,30] [gL (gM 18 0) [0] [29,30],gL (gM 19 0) [0] [29,30],gL (gp 20 (.nc 19)) [19] [29,30],gL (gF 21 16 20) [20] [29,30],⟨gQ 22 21,true,[21],[],true,[],[29,30],[]⟩,gL (gM 23 0) [0] [29,30],gL (gp 24 (.nc 23)) [23] [29,30],gL (gF 25 19 24) [24] [29,30],⟨gQ 26 25,true,[25],[],true,[],[29,30],[]⟩,⟨gp 27 (.ln false 26),true,[26],[],true,[],[29,30],[]⟩,gL (gp 28 (.bd [(.i .i64 0),(.i .i64 0),(.i .i64 0),(.i .i64 0),(.i .i64 0),(.i .i64 0),(.i .i64 0),(.l 63 []),(.l 63 []),(.l 65 []),(.l 65 []),(.i .i64 0)] [(0,1,(kI 3)),(11,1,27)])) [27] [29,30],gL (gz 29 (.bs 67 12 [28])) [28] [30],⟨gp 30 (.ap 67 12 160 22 29),true,[22,29],[],true,[22,22],[],[]⟩,gH (gp 31 (.nc 18)),gH (gF 32 16 31),gH (gS 1 32 30)] [0,3,4] [0,3,4]) (.sq (.sq (.rg [] [gM 33 0,gF 34 3 4,gp 35 (.ld (some 3) 34),gp 36 (.c2 45 [33,35])] [0,3,4,36] [0,3,4]) (.ite 36 (.rg [] [gM 37 0,gF 38 7 4,gQ 39 38,gF 40 1 3,gQ 41 40,gB 42 .add 41 (kI 1),gp 43 (.c2 16 [37,39,42])] [] []) (.dg [] [] [gL (gM 44 0) [0] [],gL (gF 45 8 4) [4] [],gV (gQ 46 45) [45] [4] [],gL (gF 47 1 3) [3] [],gV (gQ 48 47) [47] [3] [],gL (gB 49 .add 48 (kI 1)) [48] [],gL (gF 50 7 4) [4] [],gV (gQ 51 50) [50] [4] [],gV (gp 52 (.ca 0 39 [51])) [51] [4] [],gL (gB 53 .add 49 52) [49,52] [],gH (gp 54 (.c2 16 [44,46,53]))] [] []))) .rt)) (.sq (.rg [] [gB 56 .eql 10 (kI 8),gA 55 56] [0,3,4,55] [0,3,4]) (.ite 55 (.sq (.sq (.rg [] [gF 57 0 3,gQ 58 57,gB 59 .eql 58 (kI 0)] [0,3,4,59] [0,3,4]) (.ite 59 (.dg [] [71,72] [gL (gM 60 0) [0] [71,72],gL (gM 61 0) [0] [71,72],gL (gp 62 (.nc 61)) [61] [71,72],gL (gF 63 16 62) [62] [71,72],⟨gQ 64 63,true,[63],[],true,[],[71,72],[]⟩,gL (gM 65 0) [0] [71,72],gL (gp 66 (.nc 65)) [65] [71,72],gL (gF 67 19 66) [66] [71,72],⟨gQ 68 67,true,[67],[],true,[],[71,72],[]⟩,⟨gp 69 (.ln false 68),true,[68],[],true,[],[71,72],[]⟩,gL (gp 70 (.bd [(.i .i64 0),(.i .i64 0),(.i .i64 0),(.i .i64 0),(.i .i64 0),(.i .i64 0),(.i .i64 0),(.l 63 []),(.l 63 []),(.l 65 []),(.l 65 []),(.i .i64 0)] [(0,1,(kI 3)),(11,1,69)])) [69] [71,72],gL (gz 71 (.bs 67 12 [70])) [70] [72],⟨gp 72 (.ap 67 12 160 64 71),true,[64,71],[],true,[64,64],[],[]⟩,gH (gp 73 (.nc 60)),gH (gF 74 16 73),gH (gS 1 74 72)] [0,3,4] [0,3,4]) .sk)) SS) .sk)))))))) S0))),[]⟩
def ZC:bG:=⟨(.sq (.rg [] [gp 0 (.al [(.i .i64 0),(.l 115 []),(.l 3 []),(.l 89 []),(.l 89 []),(.l 91 []),(.l 82 []),(.l 65 [])])] [0] [0]) (.sq (.rg [] [gp 1 (.bd [(.i .i64 0),(.l 115 [])] [(0,1,(kI 1))]),gp 2 (.bd [(.l 134 []),(.l 134 [])] []),gz 3 (.bs 89 2 [2]),gp 4 (.bd [(.l 134 []),(.l 134 [])] []),gz 5 (.bs 89 2 [4]),gp 6 (.bd [(.b false),(.l 134 []),(.l 134 [])] []),gz 7 (.bs 91 3 [6]),gp 8 (.bd [(.i .i64 0),(.i .i64 0),(.i .i64 0),(.i .i64 0),(.i .i64 0),(.l 63 []),(.l 63 []),(.l 65 []),(.l 65 [])] [(0,1,(kI 3))]),gp 9 (.bd [(.i .i64 0),(.i .i64 0),(.l 63 [])] [(0,1,(kI 2))]),gp 10 (.bd [(.i .i64 0),(.i .i64 0),(.i .i64 0),(.i .i64 0),(.i .i64 0),(.l 63 []),(.l 63 []),(.l 65 []),(.l 65 [])] [(0,1,(kI 4)),(3,3,9)]),gz 11 (.bs 65 9 [8,10]),gp 12 (.bd [(.i .i64 0),(.l 115 []),(.l 3 []),(.l 89 []),(.l 89 []),(.l 91 []),(.l 82 []),(.l 65 [])] [(0,2,1),(3,1,3),(4,1,5),(5,1,7),(7,1,11)]),gS 8 0 12] [0] [0]) .rt)),[.c 0 (some 8)]⟩
def S1:AC:=(.sq (.rg [] [gp 16 (.ld (some 3) 2),gM 17 1,gp 18 (.ca 0 49 [16,17]),gA 4 18,gA 5 (kI 0)] [4,5] []) .rt)
def S2:AC:=.kp [1,2] [2] S1
def S4:AC:=(.sq (.sq (.rg [] [gM 14 1,gp 15 (.c2 28 [14,(.c (.f 48 []))])] [1,2,15] [2]) (.ite 15 (.sq (.rg [] [gA 4 (kI 0),gA 5 (kI 3)] [4,5] []) .rt) .sk)) S2)
def S5:AC:=.kp [1,2] [2] S4
def ZD:bG:=⟨(.sq (.rg [] [gp 2 (.bx 0),gA 4 (kI 0),gA 5 (kI 0)] [1,2] [2]) (.sq (.sq (.rg [] [gp 7 (.ld (some 3) 2),gM 8 1,gp 9 (.ln false 8),gp 10 (.ca 0 47 [7,9]),gA 6 10] [1,2,6] [2]) (.sq (.rg [] [gM 11 6,gB 12 .neq 11 (kI 0)] [1,2,6,12] [2]) (.ite 12 (.sq (.rg [] [gM 13 6,gA 4 (kI 0),gA 5 13] [4,5] []) .rt) .sk))) S5)),[.t 4,.t 5]⟩
def S6:AC:=(.sq (.bl 1 (.sq (.dg [] [] [gL (gM 17 0) [0] [],gL (gM 18 5) [5] [],gL (gp 19 (.ia 1 none 17 18)) [17,18] [],gL (gQ 20 19) [19] [],gL (gM 21 1) [1] [],gL (gM 22 5) [5] [],gL (gp 23 (.ia 1 none 21 22)) [21,22] [],gL (gQ 24 23) [23] [],gH (gB 25 .neq 20 24)] [0,1,5,25] []) (.ite 25 (.sq (.rg [] [gA 4 (.c (.b false))] [4] []) .rt) .sk))) (.rg [] [gM 15 5,gB 16 .add 15 (kI 1),gA 5 16] [0,1,5] []))
def S7:AC:=.kp [0,1,5] [] S6
def S8:AC:=(.sq (.sq (.rg [] [gM 11 5,gM 12 0,gp 13 (.ln false 12),gB 14 .lss 11 13] [0,1,5,14] []) (.ite 14 .sk (.ex 0))) S7)
def LG:bq:=⟨[0,1,5],[],S8⟩
def S9:AC:=(.sq (.sq (.rg [] [gA 5 (kI 0)] [0,1,5] []) (.bl 0 LG.lp)) (.sq (.rg [] [gA 4 (.c (.b true))] [4] []) .rt))
def Ta:AC:=.kp [0,1] [] S9
def Ok:bG:=⟨(.sq (.rg [] [gA 4 (.c (.b false))] [0,1] []) (.sq (.sq (.rg [] [gM 6 0,gp 7 (.ln false 6),gM 8 1,gp 9 (.ln false 8),gB 10 .neq 7 9] [0,1,10] []) (.ite 10 (.sq (.rg [] [gA 4 (.c (.b false))] [4] []) .rt) .sk)) Ta)),[.t 4]⟩
def Ol:bG:=⟨(.sq (.rg [] [gp 2 (.bx 0),gp 3 (.bx 1),gA 4 (.c (.b false))] [2,3] [2,3]) (.sq (.rg [] [gF 5 0 2,gQ 6 5,gF 7 0 3,gQ 8 7,gp 9 (.ca 0 50 [6,8]),gM 10 9,gg 11 (.fa 1 2) 10 true,gg 12 (.ld none 11) 10 true,gg 13 (.fa 1 3) 10 true,gg 14 (.ld none 13) 10 true,gg 15 (.ca 0 22 [12,14]) 10 true,gp 16 (.pk 10 15 (.c (.b false))),gM 17 16,gg 18 (.fa 2 2) 17 true,gg 19 (.ld none 18) 17 true,gg 20 (.fa 2 3) 17 true,gg 21 (.ld none 20) 17 true,gg 22 (.ca 0 22 [19,21]) 17 true,gp 23 (.pk 17 22 (.c (.b false))),gM 24 23,gg 25 (.fa 3 2) 24 true,gg 26 (.ld none 25) 24 true,gg 27 (.fa 3 3) 24 true,gg 28 (.ld none 27) 24 true,gg 29 (.bo .eql false 26 28) 24 true,gp 30 (.pk 24 29 (.c (.b false))),gM 31 30,gg 32 (.fa 4 2) 31 true,gg 33 (.ld none 32) 31 true,gg 34 (.fa 4 3) 31 true,gg 35 (.ld none 34) 31 true,gg 36 (.bo .eql false 33 35) 31 true,gp 37 (.pk 31 36 (.c (.b false))),gM 38 37,gg 39 (.fa 5 2) 38 true,gg 40 (.ld none 39) 38 true,gg 41 (.fa 5 3) 38 true,gg 42 (.ld none 41) 38 true,gg 43 (.bo .eql false 40 42) 38 true,gp 44 (.pk 38 43 (.c (.b false))),gA 4 44] [4] []) .rt)),[.t 4]⟩
def Tb:AC:=(.sq (.bl 1 (.sq (.rg [] [gM 24 22,gp 25 (.ia 5 none 20 22),gp 26 (.ld (some 5) 25),gp 6 (.al [(.l 3 []),(.l 65 []),(.i .i64 0),(.i .i64 0),(.l 63 [])]),gA 5 24,gS 5 6 26] [1,4,5,6,20,21,22] [1,6,18]) (.sq (.rg [] [gM 27 4,gM 28 5,gp 29 (.nc 27),gF 30 8 29,gS 1 30 28] [1,4,6,20,21,22] [1,6,18]) (.sq (.rg [] [gM 31 4,gp 32 (.ld (some 5) 6),gp 33 (.c2 53 [31,32]),gA 7 33] [1,4,7,20,21,22] [1,18]) (.sq (.rg [] [gM 34 7,gB 35 .neq 34 (kI 0)] [1,4,7,20,21,22,35] [1,18]) (.ite 35 (.sq (.rg [] [gM 36 7,gA 2 36] [2] []) .rt) .sk)))))) (.rg [] [gB 37 .add 22 (kI 1),gM 22 37] [1,4,20,21,22] [1,18]))
def Tc:AC:=.kp [1,4,20,21,22] [1,18] Tb
def Td:AC:=(.sq (.rg [] [gB 23 .lss 22 21] [1,4,20,21,22,23] [1,18]) (.sq (.ite 23 .sk (.ex 0)) Tc))
def LH:bq:=⟨[1,4,20,21,22],[1,18],Td⟩
def Te:AC:=(.sq (.rg [] [gM 38 4,gF 39 6 1,gQ 40 39,gp 41 (.ln false 40),gp 42 (.nc 38),gF 43 8 42,gS 1 43 41] [1,4] [1,18]) (.sq (.rg [] [gM 44 4,gF 45 7 1,gQ 46 45,gp 47 (.c2 54 [44,46]),gA 2 47] [2] []) .rt))
def Tf:AC:=.kp [1,4] [1,18] Te
def Tg:AC:=(.sq (.rg [] [gp 16 (.ld (some 8) 1),gp 17 (.bd [(.i .i64 0),(.l 115 []),(.l 3 []),(.l 89 []),(.l 89 []),(.l 91 []),(.l 82 []),(.l 65 []),(.i .i64 0)] [(0,8,16)]),gp 18 (.bx 17),gA 4 18] [1,4] [1,18]) (.sq (.sq (.rg [] [gF 19 6 1,gQ 20 19,gp 21 (.ln false 20),gM 22 (kI 0)] [1,4,20,21,22] [1,18]) (.bl 0 LH.lp)) Tf))
def Th:AC:=.kp [1] [1] Tg
def Ti:AC:=(.sq (.sq (.rg [] [gp 13 (.ld (some 8) 1),gp 14 (.ca 0 52 [13]),gp 15 (.no 14)] [1,15] [1]) (.ite 15 (.sq (.rg [] [gA 2 (kI 2)] [2] []) .rt) .sk)) Th)
def Tj:AC:=.kp [1] [1] Ti
def Om:bG:=⟨(.sq (.rg [] [gp 1 (.bx 0),gA 2 (kI 0)] [1] [1]) (.sq (.sq (.rg [] [gp 8 (.ld (some 8) 1),gp 9 (.ca 0 51 [8]),gA 3 9] [1,3] [1]) (.sq (.rg [] [gM 10 3,gB 11 .neq 10 (kI 0)] [1,3,11] [1]) (.ite 11 (.sq (.rg [] [gM 12 3,gA 2 12] [2] []) .rt) .sk))) Tj)),[.t 2]⟩
def On:bG:=⟨(.sq (.rg [] [gA 4 (.c (.b false))] [0,1] []) (.sq (.rg [] [gM 5 0,gM 6 1,gp 7 (.c2 55 [5,6]),gB 8 .geq 7 (kI 0),gA 4 8] [4] []) .rt)),[.t 4]⟩
def Oo:bG:=⟨(.sq (.rg [] [gA 2 (.c (.b false))] [0] []) (.sq (.rg [] [gM 3 0,gp 4 (.ln false 3),gB 5 .gtr 4 (kI 100),gA 2 5] [2] []) .rt)),[.t 2]⟩
def Oq:bG:=⟨(.sq (.rg [] [gA 2 (.c (.b false))] [0] []) (.sq (.rg [] [gM 3 0,gp 4 (.c2 28 [3,(.c (.f 29 []))]),gA 2 4] [2] []) .rt)),[.t 2]⟩
def Ot:bG:=⟨(.sq (.rg [] [gA 4 (.c (.b false))] [0,1] []) (.sq (.rg [] [gM 5 0,gM 6 1,gp 7 (.c2 56 [5,6]),gB 8 .geq 7 (kI 0),gA 4 8] [4] []) .rt)),[.t 4]⟩
def Ou:bG:=⟨(.sq (.rg [] [gA 2 (.c (.b false))] [0] []) (.sq (.rg [] [gM 3 0,gp 4 (.ca 0 30 [3]),gp 5 (.no 4),gA 2 5] [2] []) .rt)),[.t 2]⟩
def Ov:bG:=⟨(.sq (.rg [] [gA 2 (.c (.b false))] [0] []) (.sq (.rg [] [gM 3 0,gB 4 .geq 3 (kI (-2147483648)),gM 5 4,gg 6 (.mv 0) 5 true,gg 7 (.bo .leq false 6 (kI 2147483647)) 5 true,gp 8 (.pk 5 7 (.c (.b false))),gA 2 8] [2] []) .rt)),[.t 2]⟩
def Ow:bG:=⟨(.sq (.rg [] [gA 2 (kI 0)] [0] []) (.sq (.rg [] [gp 3 (.al [(.i .i64 0)]),gS 1 3 (kI 0)] [0,3] [3]) (.sq (.rg [] [gM 4 0,gp 5 (.mf 58 [3]),gp 6 (.c2 57 [4,(kI 1),5])] [3] [3]) (.sq (.rg [] [gQ 7 3,gA 2 7] [2] []) .rt)))),[.t 2]⟩
def Tl:AC:=(.dg [] [] [gL (gM 20 2) [2] [],gL (gF 21 7 8) [8] [],gV (gQ 22 21) [21] [8] [],gV (gp 23 (.ca 0 31 [22])) [22] [8] [],gL (gB 24 .add (kI 1) 23) [23] [],gL (gF 25 8 8) [8] [],gV (gQ 26 25) [25] [8] [],gV (gp 27 (.ca 0 31 [26])) [26] [8] [],gL (gB 28 .add 24 27) [24,27] [],gH (gB 29 .add 20 28),gH (gA 2 29)] [0,2,9,10,11] [0])
def Tm:AC:=.kp [0,2,8,9,10,11] [0,8] Tl
def Tn:AC:=(.sq (.bl 1 (.sq (.rg [] [gp 13 (.ia 9 none 9 11),gp 14 (.ld (some 9) 13),gp 8 (.al [(.i .i64 0),(.i .i64 0),(.i .i64 0),(.i .i64 0),(.i .i64 0),(.l 63 []),(.l 63 []),(.l 65 []),(.l 65 [])]),gS 9 8 14] [0,2,8,9,10,11] [0,8]) (.sq (.sq (.rg [] [gM 15 0,gp 16 (.ld (some 9) 8),gM 17 2,gp 18 (.c2 59 [15,16,17]),gp 19 (.no 18)] [0,2,8,9,10,11,19] [0,8]) (.ite 19 (.sq (.rg [] [gA 6 (.c (.b false))] [6] []) .rt) .sk)) Tm))) (.rg [] [gB 30 .add 11 (kI 1),gM 11 30] [0,2,9,10,11] [0]))
def To:AC:=.kp [0,2,9,10,11] [0] Tn
def Tp:AC:=(.sq (.rg [] [gB 12 .lss 11 10] [0,2,9,10,11,12] [0]) (.sq (.ite 12 .sk (.ex 0)) To))
def LI:bq:=⟨[0,2,9,10,11],[0],Tp⟩
def Ox:bG:=⟨(.sq (.rg [] [gA 6 (.c (.b false))] [0,1,2] [0]) (.sq (.sq (.rg [] [gM 9 1,gp 10 (.ln false 9),gM 11 (kI 0)] [0,2,9,10,11] [0]) (.bl 0 LI.lp)) (.sq (.rg [] [gA 6 (.c (.b true))] [6] []) .rt))),[.t 6]⟩
def Tq:AC:=(.sq (.bl 1 (.sq (.dg [] [] [gV (gp 19 (.ld (some 2) 1)) [1] [1] [],gL (gF 20 1 1) [1] [],gV (gQ 21 20) [20] [1] [],gL (gM 22 3) [3] [],gV (gp 23 (.ia 2 none 21 22)) [21,22] [1] [],gV (gF 24 0 23) [23] [1] [],gV (gQ 25 24) [24] [1] [],gL (gp 26 (.ca 0 34 [19,25])) [19,25] [],gL (gp 27 (.no 26)) [26] [],gL (gM 28 27) [27] [],gV (gg 29 (.ld (some 2) 1) 28 false) [1] [1] [],gL (gg 30 (.fa 1 1) 28 false) [1] [],gV (gg 31 (.ld none 30) 28 false) [30] [1] [],gL (gg 32 (.mv 3) 28 false) [3] [],gV (gg 33 (.ia 2 none 31 32) 28 false) [31,32] [1] [],gV (gg 34 (.fa 1 33) 28 false) [33] [1] [],gV (gg 35 (.ld none 34) 28 false) [34] [1] [],gH (gg 36 (.ca 0 34 [29,35]) 28 false),gH (gg 37 (.no 36) 28 false),gH (gp 38 (.pk 28 (.c (.b true)) 37))] [1,3,38] [1]) (.ite 38 (.sq (.rg [] [gA 2 (kI 5)] [2] []) .rt) .sk))) (.rg [] [gM 17 3,gB 18 .add 17 (kI 1),gA 3 18] [1,3] [1]))
def Tr:AC:=.kp [1,3] [1] Tq
def Ts:AC:=(.sq (.sq (.rg [] [gM 12 3,gF 13 1 1,gQ 14 13,gp 15 (.ln false 14),gB 16 .lss 12 15] [1,3,16] [1]) (.ite 16 .sk (.ex 0))) Tr)
def LJ:bq:=⟨[1,3],[1],Ts⟩
def Tt:AC:=(.sq (.sq (.rg [] [gA 3 (kI 0)] [1,3] [1]) (.bl 0 LJ.lp)) (.sq (.rg [] [gA 2 (kI 0)] [2] []) .rt))
def Tu:AC:=.kp [1] [1] Tt
def Tv:AC:=(.sq (.sq (.rg [] [gF 8 1 1,gQ 9 8,gp 10 (.ln false 9),gB 11 .gtr 10 (kI 20)] [1,11] [1]) (.ite 11 (.sq (.rg [] [gA 2 (kI 2)] [2] []) .rt) .sk)) Tu)
def Tw:AC:=.kp [1] [1] Tv
def Oy:bG:=⟨(.sq (.rg [] [gp 1 (.bx 0),gA 2 (kI 0)] [1] [1]) (.sq (.sq (.rg [] [gF 4 0 1,gQ 5 4,gp 6 (.ca 0 14 [5,(kI 1),(kI 6)]),gp 7 (.no 6)] [1,7] [1]) (.ite 7 (.sq (.rg [] [gA 2 (kI 3)] [2] []) .rt) .sk)) Tw)),[.t 2]⟩
def Oz:bG:=⟨(.sq (.rg [] [gp 2 (.bx 0),gA 4 (.c (.b false))] [1,2] [2]) (.sq (.rg [] [gM 5 1,gF 6 0 2,gQ 7 6,gB 8 .sub 7 (kI 1),gp 9 (.ca 0 14 [5,(kI 0),8]),gA 4 9] [4] []) .rt)),[.t 4]⟩
def OA:bG:=⟨(.sq (.rg [] [gp 2 (.bx 0),gp 3 (.bx 1),gA 4 (kI 0)] [2,3] [2,3]) (.sq (.rg [] [gp 6 (.ld (some 2) 2),gF 7 0 3,gQ 8 7,gp 9 (.ca 0 60 [6,8]),gA 5 9] [2,3,5] [2,3]) (.sq (.sq (.rg [] [gM 10 5,gB 11 .eql 10 (kI 0)] [2,3,5,11] [2,3]) (.ite 11 (.rg [] [gp 12 (.ld (some 2) 2),gF 13 1 3,gQ 14 13,gp 15 (.ca 0 60 [12,14]),gA 5 15] [5] []) .sk)) (.sq (.rg [] [gM 16 5,gA 4 16] [4] []) .rt)))),[.t 4]⟩
def Tx:AC:=(.sq (.bl 1 (.dg [] [] [gL (gM 24 5) [5] [],gL (gM 25 0) [0] [],gL (gM 26 6) [6] [],gL (gp 27 (.ia 9 none 25 26)) [25,26] [],gL (gF 28 7 27) [27] [],gL (gQ 29 28) [28] [],gL (gM 30 1) [1] [],gL (gB 31 .add 30 (kI 1)) [30] [],gL (gp 32 (.ca 0 36 [29,31])) [29,31] [],gL (gB 33 .add (kI 1) 32) [32] [],gL (gM 34 0) [0] [],gL (gM 35 6) [6] [],gL (gp 36 (.ia 9 none 34 35)) [34,35] [],gL (gF 37 8 36) [36] [],gL (gQ 38 37) [37] [],gL (gM 39 1) [1] [],gL (gB 40 .add 39 (kI 1)) [39] [],gL (gp 41 (.ca 0 36 [38,40])) [38,40] [],gL (gB 42 .add 33 41) [33,41] [],gH (gB 43 .add 24 42),gH (gA 5 43)] [0,1,5,6] [])) (.rg [] [gM 22 6,gB 23 .add 22 (kI 1),gA 6 23] [0,1,5,6] []))
def Ty:AC:=.kp [0,1,5,6] [] Tx
def Tz:AC:=(.sq (.sq (.rg [] [gM 14 6,gM 15 0,gp 16 (.ln false 15),gB 17 .lss 14 16,gM 18 17,gg 19 (.mv 5) 18 true,gg 20 (.bo .leq false 19 (kI 50)) 18 true,gp 21 (.pk 18 20 (.c (.b false)))] [0,1,5,6,21] []) (.ite 21 .sk (.ex 0))) Ty)
def LK:bq:=⟨[0,1,5,6],[],Tz⟩
def TA:AC:=(.sq (.sq (.rg [] [gM 44 5,gB 45 .gtr 44 (kI 51)] [5,45] []) (.ite 45 (.sq (.rg [] [gA 4 (kI 51)] [4] []) .rt) .sk)) (.sq (.rg [] [gM 46 5,gA 4 46] [4] []) .rt))
def TB:AC:=.kp [5] [] TA
def LL:AC:=(.sq (.rg [] [gA 5 (kI 0)] [0,1,5] []) (.sq (.sq (.rg [] [gA 6 (kI 0)] [0,1,5,6] []) (.bl 0 LK.lp)) TB))
def TC:AC:=.kp [0,1] [] LL
def OB:bG:=⟨(.sq (.rg [] [gA 4 (kI 0)] [0,1] []) (.sq (.sq (.rg [] [gM 7 0,gp 8 (.ln false 7),gB 9 .gtr 8 (kI 0),gM 10 9,gg 11 (.mv 1) 10 true,gg 12 (.bo .gtr false 11 (kI 6)) 10 true,gp 13 (.pk 10 12 (.c (.b false)))] [0,1,13] []) (.ite 13 (.sq (.rg [] [gA 4 (kI 51)] [4] []) .rt) .sk)) TC)),[.t 4]⟩
def TD:AC:=(.sq (.bl 3 (.dg [] [] [gL (gF 173 6 8) [8] [],gV (gQ 174 173) [173] [8] [],gL (gM 175 13) [13] [],gV (gp 176 (.ia 3 none 174 175)) [174,175] [8] [],gV (gp 177 (.ld (some 3) 176)) [176] [8] [],gL (gF 178 5 3) [3] [],gV (gQ 179 178) [178] [3] [],gV (gp 180 (.ln false 179)) [179] [3] [],gH (gp 181 (.ca 0 38 [177,180])),gH (gA 12 181)] [1,2,3,7,8,12,13] [3,8])) (.rg [] [gM 171 13,gB 172 .add 171 (kI 1),gA 13 172] [1,2,3,7,8,12,13] [3,8]))
def TE:AC:=.kp [1,2,3,7,8,13] [3,8] TD
def TF:AC:=(.sq (.sq (.rg [] [gM 162 13,gF 163 6 8,gQ 164 163,gp 165 (.ln false 164),gB 166 .lss 162 165,gM 167 166,gg 168 (.mv 12) 167 true,gg 169 (.bo .eql false 168 (kI 0)) 167 true,gp 170 (.pk 167 169 (.c (.b false)))] [1,2,3,7,8,12,13,170] [3,8]) (.ite 170 .sk (.ex 2))) TE)
def LM:bq:=⟨[1,2,3,7,8,12,13],[3,8],TF⟩
def LN:AC:=(.sq (.rg [] [gM 196 12,gB 197 .neq 196 (kI 0)] [1,2,3,7,12,197] [3]) (.ite 197 (.sq (.rg [] [gM 198 12,gA 6 198] [6] []) .rt) .sk))
def TG:AC:=.kp [1,2,3,7,12] [3] LN
def LO:AC:=(.sq (.sq (.rg [] [gM 189 12,gB 190 .eql 189 (kI 0)] [1,2,3,7,8,12,190] [3,8]) (.ite 190 (.rg [] [gp 191 (.ld (some 8) 3),gM 192 1,gF 193 8 8,gQ 194 193,gp 195 (.ca 0 37 [191,192,194]),gA 12 195] [1,2,3,7,12] [3]) .sk)) TG)
def TH:AC:=.kp [1,2,3,7,8,12] [3,8] LO
def TI:AC:=(.sq (.sq (.rg [] [gM 182 12,gB 183 .eql 182 (kI 0)] [1,2,3,7,8,12,183] [3,8]) (.ite 183 (.rg [] [gp 184 (.ld (some 8) 3),gM 185 1,gF 186 7 8,gQ 187 186,gp 188 (.ca 0 37 [184,185,187]),gA 12 188] [1,2,3,7,8,12] [3,8]) .sk)) TH)
def TJ:AC:=.kp [1,2,3,7,8,12] [3,8] TI
def LP:AC:=(.sq (.sq (.rg [] [gA 13 (kI 0)] [1,2,3,7,8,12,13] [3,8]) (.bl 2 LM.lp)) TJ)
def TK:AC:=.kp [1,2,3,7,8,12] [3,8] LP
def LQ:AC:=(.sq (.rg [] [gA 12 (kI 0)] [1,2,3,7,8,9,12] [3,8]) (.sq (.sq (.rg [] [gM 154 9,gp 155 (.ca 0 62 [154])] [1,2,3,7,8,12,155] [3,8]) (.ite 155 (.rg [] [gF 156 3 8,gp 157 (.ld (some 3) 156),gF 158 5 3,gQ 159 158,gp 160 (.ln false 159),gp 161 (.ca 0 38 [157,160]),gA 12 161] [1,2,3,7,8,12] [3,8]) .sk)) TK))
def TL:AC:=.kp [1,2,3,7,8,9] [3,8] LQ
def TM:AC:=(.sq (.sq (.dg [] [] [gL (gM 138 9) [9] [],gL (gB 139 .eql 138 (kI 2)) [138] [],gL (gM 140 139) [139] [],gL (gg 141 (.fa 6 8) 140 true) [8] [],gV (gg 142 (.ld none 141) 140 true) [141] [8] [],gV (gg 143 (.ln false 142) 140 true) [142] [8] [],gL (gg 144 (.fa 6 3) 140 true) [3] [],gV (gg 145 (.ld none 144) 140 true) [144] [3] [],gL (gg 146 (.fa 2 8) 140 true) [8] [],gV (gg 147 (.ld none 146) 140 true) [146] [8] [],gV (gg 148 (.ia 5 none 145 147) 140 true) [145,147] [3] [],gV (gg 149 (.fa 0 148) 140 true) [148] [3] [],gV (gg 150 (.ld none 149) 140 true) [149] [3] [],gL (gg 151 (.ln false 150) 140 true) [150] [],gH (gg 152 (.bo .neq false 143 151) 140 true),gH (gp 153 (.pk 140 152 (.c (.b false))))] [1,2,3,7,8,9,153] [3,8]) (.ite 153 (.sq (.rg [] [gA 6 (kI 1)] [6] []) .rt) .sk)) TL)
def TN:AC:=.kp [1,2,3,7,8,9] [3,8] TM
def TO:AC:=(.sq (.rg [] [gF 64 3 8,gF 65 0 64,gQ 66 65,gB 67 .eql 66 (kI 0),gM 68 67,gg 69 (.fa 3 8) 68 true,gg 70 (.fa 1 69) 68 true,gg 71 (.ld none 70) 68 true,gg 72 (.bo .eql false 71 (kI 0)) 68 true,gp 73 (.pk 68 72 (.c (.b false))),gM 74 73,gg 75 (.fa 3 8) 74 true,gg 76 (.fa 2 75) 74 true,gg 77 (.ld none 76) 74 true,gg 78 (.ln false 77) 74 true,gg 79 (.bo .eql false 78 (kI 0)) 74 true,gp 80 (.pk 74 79 (.c (.b false))),gA 11 80] [1,2,3,7,8,9,11] [3,8]) (.sq (.sq (.rg [] [gM 81 9,gp 82 (.ca 0 61 [81]),gp 83 (.no 82),gM 84 83,gg 85 (.fa 1 8) 84 true,gg 86 (.ld none 85) 84 true,gg 87 (.bo .neq false 86 (kI 0)) 84 true,gp 88 (.pk 84 87 (.c (.b false))),gM 89 88,gg 90 (.mv 9) 89 false,gg 91 (.ca 0 14 [90,(kI 2),(kI 4)]) 89 false,gg 92 (.no 91) 89 false,gg 93 (.mv 92) 89 false,gg 94 (.fa 2 8) 93 true,gg 95 (.ld none 94) 93 true,gg 96 (.bo .neq false 95 (kI 0)) 93 true,gg 97 (.pk 93 96 (.c (.b false))) 89 false,gp 98 (.pk 89 (.c (.b true)) 97),gM 99 98,gg 100 (.mv 9) 99 false,gg 101 (.ca 0 62 [100]) 99 false,gg 102 (.no 101) 99 false,gg 103 (.mv 102) 99 false,gg 104 (.mv 11) 103 true,gg 105 (.no 104) 103 true,gg 106 (.pk 103 105 (.c (.b false))) 99 false,gp 107 (.pk 99 (.c (.b true)) 106),gM 108 107,gg 109 (.mv 9) 108 false,gg 110 (.bo .neq false 109 (kI 2)) 108 false,gg 111 (.mv 110) 108 false,gg 112 (.fa 6 8) 111 true,gg 113 (.ld none 112) 111 true,gg 114 (.ln false 113) 111 true,gg 115 (.bo .gtr false 114 (kI 0)) 111 true,gg 116 (.pk 111 115 (.c (.b false))) 108 false,gp 117 (.pk 108 (.c (.b true)) 116),gM 118 117,gg 119 (.mv 9) 118 false,gg 120 (.bo .lss false 119 (kI 7)) 118 false,gg 121 (.mv 120) 118 false,gg 122 (.fa 7 8) 121 true,gg 123 (.ld none 122) 121 true,gg 124 (.ln false 123) 121 true,gg 125 (.bo .gtr false 124 (kI 0)) 121 true,gg 126 (.pk 121 125 (.c (.b false))) 118 false,gp 127 (.pk 118 (.c (.b true)) 126),gM 128 127,gg 129 (.mv 9) 128 false,gg 130 (.bo .neq false 129 (kI 7)) 128 false,gg 131 (.mv 130) 128 false,gg 132 (.fa 8 8) 131 true,gg 133 (.ld none 132) 131 true,gg 134 (.ln false 133) 131 true,gg 135 (.bo .gtr false 134 (kI 0)) 131 true,gg 136 (.pk 131 135 (.c (.b false))) 128 false,gp 137 (.pk 128 (.c (.b true)) 136)] [1,2,3,7,8,9,137] [3,8]) (.ite 137 (.sq (.rg [] [gA 6 (kI 1)] [6] []) .rt) .sk)) TN))
def TP:AC:=.kp [1,2,3,7,8,9] [3,8] TO
def TQ:AC:=(.sq (.rg [] [gM 29 1,gF 30 3 3,gQ 31 30,gp 32 (.ln false 31),gF 33 4 3,gQ 34 33,gp 35 (.ln false 34),gz 36 (.bs 3 1 [(kI 0),(kI 0),29,32,35,(kI 0),(kI 0),(kI 0),(kI 0)]),gM 37 9,gp 38 (.ia 1 none 36 37),gQ 39 38,gA 10 39] [1,2,3,7,8,9,10] [3,8]) (.sq (.sq (.rg [] [gM 40 9,gp 41 (.ca 0 61 [40]),gM 42 41,gg 43 (.fa 1 8) 42 true,gg 44 (.ld none 43) 42 true,gg 45 (.fa 5 3) 42 true,gg 46 (.ld none 45) 42 true,gg 47 (.ln false 46) 42 true,gg 48 (.bo .sub false 47 (kI 1)) 42 true,gg 49 (.ca 0 14 [44,(kI 0),48]) 42 true,gg 50 (.no 49) 42 true,gp 51 (.pk 42 50 (.c (.b false))),gM 52 51,gg 53 (.mv 9) 52 false,gg 54 (.ca 0 14 [53,(kI 2),(kI 4)]) 52 false,gg 55 (.mv 54) 52 false,gg 56 (.fa 2 8) 55 true,gg 57 (.ld none 56) 55 true,gg 58 (.mv 10) 55 true,gg 59 (.bo .sub false 58 (kI 1)) 55 true,gg 60 (.ca 0 14 [57,(kI 0),59]) 55 true,gg 61 (.no 60) 55 true,gg 62 (.pk 55 61 (.c (.b false))) 52 false,gp 63 (.pk 52 (.c (.b true)) 62)] [1,2,3,7,8,9,63] [3,8]) (.ite 63 (.sq (.rg [] [gA 6 (kI 5)] [6] []) .rt) .sk)) TP))
def TR:AC:=.kp [1,2,3,7,8,9] [3,8] TQ
def TS:AC:=(.sq (.bl 1 (.sq (.rg [] [gM 20 2,gM 21 7,gp 22 (.ia 9 none 20 21),gp 23 (.ld (some 9) 22),gp 8 (.al [(.i .i64 0),(.i .i64 0),(.i .i64 0),(.i .i64 0),(.i .i64 0),(.l 63 []),(.l 63 []),(.l 65 []),(.l 65 [])]),gS 9 8 23] [1,2,3,7,8] [3,8]) (.sq (.rg [] [gF 24 0 8,gQ 25 24,gA 9 25] [1,2,3,7,8,9] [3,8]) (.sq (.sq (.rg [] [gM 26 9,gp 27 (.ca 0 14 [26,(kI 1),(kI 8)]),gp 28 (.no 27)] [1,2,3,7,8,9,28] [3,8]) (.ite 28 (.sq (.rg [] [gA 6 (kI 7)] [6] []) .rt) .sk)) TR)))) (.rg [] [gM 18 7,gB 19 .add 18 (kI 1),gA 7 19] [1,2,3,7] [3]))
def TT:AC:=.kp [1,2,3,7] [3] TS
def TU:AC:=(.sq (.sq (.rg [] [gM 14 7,gM 15 2,gp 16 (.ln false 15),gB 17 .lss 14 16] [1,2,3,7,17] [3]) (.ite 17 .sk (.ex 0))) TT)
def LR:bq:=⟨[1,2,3,7],[3],TU⟩
def OC:bG:=⟨(.sq (.rg [] [gp 3 (.bx 0),gA 6 (kI 0)] [1,2,3] [3]) (.sq (.sq (.rg [] [gA 7 (kI 0)] [1,2,3,7] [3]) (.bl 0 LR.lp)) (.sq (.rg [] [gA 6 (kI 0)] [6] []) .rt))),[.t 6]⟩
def TV:AC:=(.sq (.rg [] [gF 66 0 7,gQ 67 66,gB 68 .eql 67 (kI 2),gM 69 68,gg 70 (.fa 1 7) 69 true,gg 71 (.ld none 70) 69 true,gg 72 (.mv 1) 69 true,gg 73 (.bo .sub false 72 (kI 1)) 69 true,gg 74 (.ca 0 14 [71,(kI 0),73]) 69 true,gg 75 (.no 74) 69 true,gp 76 (.pk 69 75 (.c (.b false)))] [1,5,6,76] []) (.ite 76 (.sq (.rg [] [gA 4 (kI 5)] [4] []) .rt) .sk))
def TW:AC:=.kp [1,5,6,7] [7] TV
def TX:AC:=(.sq (.sq (.rg [] [gF 47 0 7,gQ 48 47,gB 49 .eql 48 (kI 1),gM 50 49,gg 51 (.fa 1 7) 50 true,gg 52 (.ld none 51) 50 true,gg 53 (.ca 0 14 [52,(kI (-9999999)),(kI 9999999)]) 50 true,gg 54 (.no 53) 50 true,gp 55 (.pk 50 54 (.c (.b false))),gM 56 55,gg 57 (.fa 0 7) 56 false,gg 58 (.ld none 57) 56 false,gg 59 (.bo .gtr false 58 (kI 2)) 56 false,gg 60 (.mv 59) 56 false,gg 61 (.fa 1 7) 60 true,gg 62 (.ld none 61) 60 true,gg 63 (.bo .neq false 62 (kI 0)) 60 true,gg 64 (.pk 60 63 (.c (.b false))) 56 false,gp 65 (.pk 56 (.c (.b true)) 64)] [1,5,6,7,65] [7]) (.ite 65 (.sq (.rg [] [gA 4 (kI 3)] [4] []) .rt) .sk)) TW)
def TY:AC:=.kp [1,5,6,7] [7] TX
def TZ:AC:=(.sq (.sq (.rg [] [gF 27 0 7,gQ 28 27,gB 29 .leq 28 (kI 2),gM 30 29,gg 31 (.fa 2 7) 30 true,gg 32 (.ld none 31) 30 true,gg 33 (.ln false 32) 30 true,gg 34 (.bo .neq false 33 (kI 0)) 30 true,gp 35 (.pk 30 34 (.c (.b false))),gM 36 35,gg 37 (.fa 0 7) 36 false,gg 38 (.ld none 37) 36 false,gg 39 (.bo .gtr false 38 (kI 2)) 36 false,gg 40 (.mv 39) 36 false,gg 41 (.fa 2 7) 40 true,gg 42 (.ld none 41) 40 true,gg 43 (.ln false 42) 40 true,gg 44 (.bo .neq false 43 (kI 2)) 40 true,gg 45 (.pk 40 44 (.c (.b false))) 36 false,gp 46 (.pk 36 (.c (.b true)) 45)] [1,5,6,7,46] [7]) (.ite 46 (.sq (.rg [] [gA 4 (kI 1)] [4] []) .rt) .sk)) TY)
def T5:AC:=.kp [1,5,6,7] [7] TZ
def T6:AC:=(.sq (.bl 1 (.sq (.rg [] [gM 19 5,gM 20 6,gp 21 (.ia 3 none 19 20),gp 22 (.ld (some 3) 21),gp 7 (.al [(.i .i64 0),(.i .i64 0),(.l 63 [])]),gS 3 7 22] [1,5,6,7] [7]) (.sq (.sq (.rg [] [gF 23 0 7,gQ 24 23,gp 25 (.ca 0 14 [24,(kI 1),(kI 7)]),gp 26 (.no 25)] [1,5,6,7,26] [7]) (.ite 26 (.sq (.rg [] [gA 4 (kI 7)] [4] []) .rt) .sk)) T5))) (.rg [] [gM 17 6,gB 18 .add 17 (kI 1),gA 6 18] [1,5,6] []))
def T7:AC:=.kp [1,5,6] [] T6
def T8:AC:=(.sq (.sq (.rg [] [gM 13 6,gM 14 5,gp 15 (.ln false 14),gB 16 .lss 13 15] [1,5,6,16] []) (.ite 16 .sk (.ex 0))) T7)
def LS:bq:=⟨[1,5,6],[],T8⟩
def T9:AC:=(.sq (.rg [] [gp 11 (.ld (some 3) 2),gp 12 (.ca 0 64 [11]),gA 5 12] [1,5] []) (.sq (.sq (.rg [] [gA 6 (kI 0)] [1,5,6] []) (.bl 0 LS.lp)) (.sq (.rg [] [gA 4 (kI 0)] [4] []) .rt)))
def Ua:AC:=.kp [1,2] [2] T9
def OD:bG:=⟨(.sq (.rg [] [gp 2 (.bx 0),gA 4 (kI 0)] [1,2] [2]) (.sq (.sq (.rg [] [gp 8 (.ld (some 3) 2),gp 9 (.ca 0 63 [8,(kI 15)]),gB 10 .gtr 9 (kI 15)] [1,2,10] [2]) (.ite 10 (.sq (.rg [] [gA 4 (kI 2)] [4] []) .rt) .sk)) Ua)),[.t 4]⟩
def Ub:AC:=(.sq (.bl 1 (.dg [] [] [gL (gM 11 3) [3] [],gL (gM 12 0) [0] [],gL (gM 13 4) [4] [],gL (gp 14 (.ia 9 none 12 13)) [12,13] [],gL (gF 15 7 14) [14] [],gL (gQ 16 15) [15] [],gL (gp 17 (.ca 0 39 [16])) [16] [],gL (gB 18 .add (kI 1) 17) [17] [],gL (gM 19 0) [0] [],gL (gM 20 4) [4] [],gL (gp 21 (.ia 9 none 19 20)) [19,20] [],gL (gF 22 8 21) [21] [],gL (gQ 23 22) [22] [],gL (gp 24 (.ca 0 39 [23])) [23] [],gL (gB 25 .add 18 24) [18,24] [],gH (gB 26 .add 11 25),gH (gA 3 26)] [0,3,4] [])) (.rg [] [gM 9 4,gB 10 .add 9 (kI 1),gA 4 10] [0,3,4] []))
def Uc:AC:=.kp [0,3,4] [] Ub
def Ud:AC:=(.sq (.sq (.rg [] [gM 5 4,gM 6 0,gp 7 (.ln false 6),gB 8 .lss 5 7] [0,3,4,8] []) (.ite 8 .sk (.ex 0))) Uc)
def LU:bq:=⟨[0,3,4],[],Ud⟩
def OE:bG:=⟨(.sq (.rg [] [gA 2 (kI 0)] [0] []) (.sq (.rg [] [gA 3 (kI 0)] [0,3] []) (.sq (.sq (.rg [] [gA 4 (kI 0)] [0,3,4] []) (.bl 0 LU.lp)) (.sq (.rg [] [gM 27 3,gA 2 27] [2] []) .rt)))),[.t 2]⟩
def ZE:bG:=⟨(.sq (.rg [] [gp 3 (.bx 1),gp 4 (.al [(.l 4 []),(.l 4 [])])] [0,3,4] [0,3,4]) (.sq (.dg [] [] [gL (gM 5 0) [0] [],⟨gp 6 (.ca 0 66 [5]),true,[5],[],true,[],[],[]⟩,gL (gM 7 0) [0] [],gL (gp 8 (.nc 7)) [7] [],gL (gF 9 0 8) [8] [],⟨gp 10 (.ld (some 8) 9),true,[9],[],true,[],[],[]⟩,gL (gM 11 0) [0] [],gL (gp 12 (.nc 11)) [11] [],gL (gF 13 18 12) [12] [],⟨gQ 14 13,true,[13],[],true,[],[],[]⟩,gV (gp 15 (.ld (some 3) 3)) [3] [3] [],gH (gp 16 (.ca 0 67 [10,14,15])),gH (gp 17 (.ca 0 65 [6,16])),gH (gS 2 4 17)] [4] [4]) .rt)),[.c 4 (some 2)]⟩
def ZF:bG:=⟨(.sq (.rg [] [gp 5 (.bx 2),gA 6 (.c (.b false))] [0,1,5] [0,5]) (.sq (.rg [] [gM 8 0,gp 9 (.nc 8),gF 10 0 9,gF 11 5 10,gQ 12 11,gM 13 1,gp 14 (.ia 3 none 12 13),gp 15 (.ld (some 3) 14),gp 7 (.al [(.b false),(.l 134 []),(.l 134 [])]),gS 3 7 15] [0,1,5,7] [0,5,7]) (.sq (.dg [] [] [gL (gM 16 0) [0] [],⟨gp 17 (.ca 0 66 [16]),true,[16],[],true,[],[],[]⟩,gL (gM 18 0) [0] [],gL (gp 19 (.nc 18)) [18] [],gL (gF 20 18 19) [19] [],⟨gQ 21 20,true,[20],[],true,[],[],[]⟩,gL (gM 22 1) [1] [],⟨gp 23 (.ia 2 none 21 22),true,[21,22],[],true,[],[],[]⟩,⟨gp 24 (.ld (some 2) 23),true,[23],[],true,[],[],[]⟩,gL (gp 25 (.ca 0 68 [17,24])) [17,24] [],gL (gM 26 25) [25] [],gL (gg 27 (.fa 0 7) 26 true) [7] [],gV (gg 28 (.ld none 27) 26 true) [27] [7] [],gL (gg 29 (.no 28) 26 true) [28] [],gL (gg 30 (.mv 29) 26 true) [29] [],gV (gg 31 (.ld (some 2) 5) 30 false) [5] [5] [],gL (gg 32 (.mv 0) 30 false) [0] [],gL (gg 33 (.nc 32) 30 false) [32] [],gL (gg 34 (.fa 0 33) 30 false) [33] [],gL (gg 35 (.fa 0 34) 30 false) [34] [],⟨gg 36 (.ld (some 2) 35) 30 false,true,[35],[],true,[],[],[]⟩,gL (gg 37 (.fa 1 7) 30 false) [7] [],gV (gg 38 (.ld (some 2) 37) 30 false) [37] [7] [],gL (gg 39 (.ca 0 69 [36,38]) 30 false) [36,38] [],gH (gg 40 (.ca 0 68 [31,39]) 30 false),gH (gg 41 (.pk 30 (.c (.b true)) 40) 26 true),gH (gp 42 (.pk 26 41 (.c (.b false)))),gH (gA 6 42)] [6] []) .rt))),[.t 6]⟩
def OF:bG:=⟨(.rg [] [gM 4 0,gM 5 0,gM 6 1,gp 7 (.nc 4),gF 8 10 7,gF 9 4 8,gS 1 9 (kI 3),gp 10 (.nc 5),gF 11 10 10,gF 12 5 11,gS 1 12 6] [] []),[]⟩
def Ue:AC:=(.sq (.sq (.rg [] [gF 52 0 2,gQ 53 52,gB 54 .eql 53 (kI 6),gM 55 54,gg 56 (.mv 5) 55 true,gg 57 (.mv 6) 55 true,gg 58 (.bo .lss false 56 57) 55 true,gp 59 (.pk 55 58 (.c (.b false))),gM 60 59,gg 61 (.fa 0 2) 60 false,gg 62 (.ld none 61) 60 false,gg 63 (.bo .eql false 62 (kI 7)) 60 false,gg 64 (.mv 63) 60 false,gg 65 (.mv 5) 64 true,gg 66 (.mv 6) 64 true,gg 67 (.bo .eql false 65 66) 64 true,gg 68 (.pk 64 67 (.c (.b false))) 60 false,gp 69 (.pk 60 (.c (.b true)) 68)] [69] []) (.ite 69 (.sq (.rg [] [gA 4 (kI 1)] [4] []) .rt) .sk)) (.sq (.rg [] [gA 4 (kI 0)] [4] []) .rt))
def Uf:AC:=.kp [2,5,6] [2] Ue
def Ug:AC:=(.sq (.dg [] [] [gL (gF 20 2 2) [2] [],gV (gQ 21 20) [20] [2] [],gV (gp 22 (.ia 3 none 21 (kI 0))) [21] [2] [],gV (gp 23 (.ld (some 3) 22)) [22] [2] [],gL (gM 24 1) [1] [],gL (gp 25 (.ca 0 43 [23,24])) [23,24] [],gL (gF 26 2 2) [2] [],gV (gQ 27 26) [26] [2] [],gV (gp 28 (.ia 3 none 27 (kI 1))) [27] [2] [],gV (gp 29 (.ld (some 3) 28)) [28] [2] [],gL (gM 30 1) [1] [],gH (gp 31 (.ca 0 43 [29,30])),gH (gA 5 25),gH (gA 6 31)] [2,5,6] [2]) (.sq (.sq (.rg [] [gF 32 0 2,gQ 33 32] [2,5,6,33] [2]) (.bl 1 (.sq (.rg [] [gB 35 .eql 33 (kI 3),gA 34 35] [2,5,6,33,34] [2]) (.ite 34 (.sq (.rg [] [gM 36 5,gM 37 6,gB 38 .add 36 37,gp 39 (.ca 0 70 [38]),gA 4 39] [4] []) .rt) (.sq (.rg [] [gB 41 .eql 33 (kI 4),gA 40 41] [2,5,6,33,40] [2]) (.ite 40 (.sq (.rg [] [gM 42 5,gM 43 6,gB 44 .sub 42 43,gp 45 (.ca 0 70 [44]),gA 4 45] [4] []) .rt) (.sq (.rg [] [gB 47 .eql 33 (kI 5),gA 46 47] [2,5,6,46] [2]) (.ite 46 (.sq (.rg [] [gM 48 5,gM 49 6,gB 50 .mul 48 49,gp 51 (.ca 0 70 [50]),gA 4 51] [4] []) .rt) .sk)))))))) Uf))
def Uh:AC:=.kp [1,2] [2] Ug
def OG:bG:=⟨(.sq (.rg [] [gp 2 (.bx 0),gA 4 (kI 0)] [1,2] [2]) (.sq (.sq (.rg [] [gF 7 0 2,gQ 8 7] [1,2,8] [2]) (.bl 0 (.sq (.rg [] [gB 10 .eql 8 (kI 1),gA 9 10] [1,2,8,9] [2]) (.ite 9 (.sq (.rg [] [gF 11 1 2,gQ 12 11,gA 4 12] [4] []) .rt) (.sq (.rg [] [gB 14 .eql 8 (kI 2),gA 13 14] [1,2,13] [2]) (.ite 13 (.sq (.rg [] [gM 15 1,gF 16 1 2,gQ 17 16,gp 18 (.ia 1 none 15 17),gQ 19 18,gA 4 19] [4] []) .rt) .sk)))))) Uh)),[.t 4]⟩
def Ui:AC:=(.sq (.bl 1 (.sq (.dg [] [39] [gL (gM 26 5) [5] [39],gL (gF 27 2 3) [3] [39],gL (gF 28 6 27) [27] [39],gV (gQ 29 28) [28] [3] [39],gL (gM 30 7) [7] [39],gV (gp 31 (.ia 3 none 29 30)) [29,30] [3] [39],gV (gp 32 (.ld (some 3) 31)) [31] [3] [39],gL (gM 33 0) [0] [39],gL (gp 34 (.nc 33)) [33] [39],gL (gF 35 10 34) [34] [39],gL (gF 36 1 35) [35] [39],⟨gQ 37 36,true,[36],[],true,[],[39],[]⟩,⟨gp 38 (.ca 0 43 [32,37]),true,[32,37],[],true,[],[39],[]⟩,gL (gz 39 (.bs 3 1 [38])) [38] [],gH (gp 40 (.ap 3 1 8 26 39)),gH (gA 5 40)] [0,3,4,5,6,7] [0,3,4]) (.sq (.rg [] [gM 41 0,gp 42 (.nc 41),gF 43 17 42,gQ 44 43] [0,3,4,5,6,7,44] [0,3,4]) (.ite 44 (.sq (.rg [] [gM 45 6,gM 46 0,gF 47 2 3,gF 48 6 47,gQ 49 48,gM 50 7,gp 51 (.ia 3 none 49 50),gp 52 (.ld (some 3) 51),gp 53 (.c2 40 [46,52]),gz 54 (.bs 57 2 [53]),gp 55 (.ap 57 2 48 45 54),gA 6 55] [0,3,4,5,6,7] [0,3,4]) (.sq (.dg [] [] [gL (gM 56 0) [0] [],gL (gF 57 0 4) [4] [],gV (gQ 58 57) [57] [4] [],gL (gM 59 7) [7] [],gV (gp 60 (.ia 1 none 58 59)) [58,59] [4] [],gV (gQ 61 60) [60] [4] [],gL (gM 62 6) [6] [],gL (gM 63 7) [7] [],gL (gp 64 (.ia 2 none 62 63)) [62,63,6] [],gL (gp 65 (.ld (some 2) 64)) [64,6] [],gH (gp 66 (.c2 41 [56,61,65])),gH (gp 67 (.no 66))] [0,3,4,5,6,7,67] [0,3,4]) (.ite 67 (.sq (.rg [] [gM 68 0,gF 69 1 3,gQ 70 69,gp 71 (.c2 42 [68,70])] [] []) .rt) .sk))) .sk)))) (.rg [] [gM 24 7,gB 25 .add 24 (kI 1),gA 7 25] [0,3,4,5,6,7] [0,3,4]))
def Uj:AC:=.kp [0,3,4,5,6,7] [0,3,4] Ui
def Uk:AC:=(.sq (.sq (.rg [] [gM 19 7,gF 20 0 4,gQ 21 20,gp 22 (.ln false 21),gB 23 .lss 19 22] [0,3,4,5,6,7,23] [0,3,4]) (.ite 23 .sk (.ex 0))) Uj)
def LV:bq:=⟨[0,3,4,5,6,7],[0,3,4],Uk⟩
def Ul:AC:=(.sq (.bl 3 (.sq (.dg [] [] [gL (gM 79 0) [0] [],gL (gp 80 (.nc 79)) [79] [],gL (gF 81 10 80) [80] [],gL (gF 82 1 81) [81] [],⟨gQ 83 82,true,[82],[],true,[],[],[]⟩,gL (gF 84 0 4) [4] [],gV (gQ 85 84) [84] [4] [],gL (gM 86 8) [8] [],gV (gp 87 (.ia 1 none 85 86)) [85,86] [4] [],gV (gQ 88 87) [87] [4] [],gL (gM 89 5) [5] [],gL (gM 90 8) [8] [],gL (gp 91 (.ia 1 none 89 90)) [89,90,5] [],gL (gQ 92 91) [91,5] [],gH (gp 93 (.ia 1 none 83 88)),gH (gS 1 93 92)] [0,3,4,5,6,8] [0,3,4]) (.sq (.rg [] [gM 94 0,gp 95 (.nc 94),gF 96 17 95,gQ 97 96] [0,3,4,5,6,8,97] [0,3,4]) (.ite 97 (.dg [] [] [gL (gM 98 0) [0] [],gL (gp 99 (.nc 98)) [98] [],gL (gF 100 18 99) [99] [],⟨gQ 101 100,true,[100],[],true,[],[],[]⟩,gL (gF 102 0 4) [4] [],gV (gQ 103 102) [102] [4] [],gL (gM 104 8) [8] [],gV (gp 105 (.ia 1 none 103 104)) [103,104] [4] [],gV (gQ 106 105) [105] [4] [],gL (gM 107 6) [6] [],gL (gM 108 8) [8] [],gL (gp 109 (.ia 2 none 107 108)) [107,108,6] [],gL (gp 110 (.ld (some 2) 109)) [109,6] [],gH (gp 111 (.ia 2 none 101 106)),gH (gS 2 111 110)] [0,3,4,5,6,8] [0,3,4]) .sk)))) (.rg [] [gM 77 8,gB 78 .add 77 (kI 1),gA 8 78] [0,3,4,5,6,8] [0,3,4]))
def Um:AC:=.kp [0,3,4,5,6,8] [0,3,4] Ul
def Un:AC:=(.sq (.sq (.rg [] [gM 72 8,gF 73 0 4,gQ 74 73,gp 75 (.ln false 74),gB 76 .lss 72 75] [0,3,4,5,6,8,76] [0,3,4]) (.ite 76 .sk (.ex 2))) Um)
def LX:bq:=⟨[0,3,4,5,6,8],[0,3,4],Un⟩
def Uo:AC:=(.sq (.dg [] [122,123] [gL (gM 112 0) [0] [122,123],gL (gM 113 0) [0] [122,123],gL (gp 114 (.nc 113)) [113] [122,123],gL (gF 115 16 114) [114] [122,123],⟨gQ 116 115,true,[115],[],true,[],[122,123],[]⟩,gL (gF 117 1 3) [3] [122,123],gV (gQ 118 117) [117] [3] [122,123],gL (gF 119 2 3) [3] [122,123],gV (gp 120 (.ld (some 9) 119)) [119] [3] [122,123],gL (gp 121 (.bd [(.i .i64 0),(.i .i64 0),(.i .i64 0),(.i .i64 0),(.i .i64 0),(.i .i64 0),(.i .i64 0),(.l 63 []),(.l 63 []),(.l 65 []),(.l 65 []),(.i .i64 0)] [(0,1,(kI 2)),(1,1,118),(2,9,120)])) [118,120] [122,123],gL (gz 122 (.bs 67 12 [121])) [121] [123],⟨gp 123 (.ap 67 12 160 116 122),true,[116,122],[],true,[116,116],[],[]⟩,gH (gp 124 (.nc 112)),gH (gF 125 16 124),gH (gS 1 125 123)] [0,3,4] [0,3,4]) (.dg [] [] [gL (gM 126 0) [0] [],gL (gF 127 1 4) [4] [],gV (gQ 128 127) [127] [4] [],gL (gM 129 0) [0] [],gL (gp 130 (.nc 129)) [129] [],gL (gF 131 0 130) [130] [],⟨gp 132 (.ld (some 8) 131),true,[131],[],true,[],[],[]⟩,gL (gF 133 2 3) [3] [],gL (gF 134 2 133) [133] [],gV (gQ 135 134) [134] [3] [],gL (gp 136 (.ca 0 17 [132,135])) [132,135] [],gH (gp 137 (.c2 16 [126,128,136]))] [] []))
def Up:AC:=.kp [0,3,4] [0,3,4] Uo
def Uq:AC:=(.sq (.sq (.rg [] [gA 8 (kI 0)] [0,3,4,5,6,8] [0,3,4]) (.bl 2 LX.lp)) Up)
def Ur:AC:=.kp [0,3,4,5,6] [0,3,4] Uq
def OH:bG:=⟨(.sq (.rg [] [gp 3 (.bx 1)] [0,3] [0,3]) (.sq (.dg [] [4] [gL (gM 9 0) [0] [4],gL (gp 10 (.nc 9)) [9] [4],gL (gF 11 0 10) [10] [4],gL (gF 12 6 11) [11] [4],⟨gQ 13 12,true,[12],[],true,[],[4],[]⟩,gL (gF 14 2 3) [3] [4],gL (gF 15 2 14) [14] [4],gV (gQ 16 15) [15] [3] [4],⟨gp 17 (.ia 5 none 13 16),true,[13,16],[],true,[],[4],[]⟩,⟨gp 18 (.ld (some 5) 17),true,[17],[],true,[],[4],[]⟩,gL (gp 4 (.al [(.l 3 []),(.l 65 []),(.i .i64 0),(.i .i64 0),(.l 63 [])])) [] [],gH (gS 5 4 18)] [0,3,4] [0,3,4]) (.sq (.rg [] [gA 5 (.c .n)] [0,3,4,5] [0,3,4]) (.sq (.rg [.own 5 3] [gA 6 (.c .n)] [0,3,4,5,6] [0,3,4]) (.sq (.sq (.rg [.own 6 57] [gA 7 (kI 0)] [0,3,4,5,6,7] [0,3,4]) (.bl 0 LV.lp)) Ur))))),[]⟩
def Us:AC:=(.sq (.dg [] [] [gV (gp 21 (.ld (some 3) 3)) [3] [3] [],gL (gM 22 0) [0] [],gL (gp 23 (.nc 22)) [22] [],gL (gF 24 10 23) [23] [],gL (gF 25 1 24) [24] [],⟨gQ 26 25,true,[25],[],true,[],[],[]⟩,gH (gp 27 (.ca 0 43 [21,26])),gH (gB 28 .neq 27 (kI 0)),gH (gA 4 28)] [4] []) .rt)
def Ut:AC:=.kp [0,3] [0,3] Us
def OI:bG:=⟨(.sq (.rg [] [gp 3 (.bx 1),gA 4 (.c (.b false))] [0,3] [0,3]) (.sq (.sq (.rg [] [gM 5 0,gp 6 (.nc 5),gF 7 17 6,gQ 8 7] [0,3,8] [0,3]) (.ite 8 (.dg [] [17,18] [gL (gM 9 0) [0] [17,18],gL (gM 10 0) [0] [17,18],gL (gp 11 (.nc 10)) [10] [17,18],gL (gF 12 19 11) [11] [17,18],⟨gQ 13 12,true,[12],[],true,[],[17,18],[]⟩,gL (gM 14 0) [0] [17,18],gV (gp 15 (.ld (some 3) 3)) [3] [3] [17,18],⟨gp 16 (.ca 0 40 [14,15]),true,[14,15],[],true,[],[17,18],[]⟩,gL (gz 17 (.bs 57 2 [16])) [16] [18],⟨gp 18 (.ap 57 2 48 13 17),true,[13,17],[],true,[13,13],[],[]⟩,gH (gp 19 (.nc 9)),gH (gF 20 19 19),gH (gS 1 20 18)] [0,3] [0,3]) .sk)) Ut)),[.t 4]⟩
def Uu:AC:=(.dg [] [] [gV (gp 101 (.ld (some 2) 7)) [7] [7] [],gL (gM 102 0) [0] [],⟨gp 103 (.ca 0 66 [102]),true,[102],[],true,[],[],[]⟩,gH (gp 104 (.ca 0 65 [101,103])),gH (gS 2 6 104)] [0,3,6] [0,3,6])
def Uv:AC:=.kp [0,3,6,7] [0,3,6,7] Uu
def Uw:AC:=(.sq (.rg [] [gM 48 0,gF 49 3 3,gp 50 (.ld (some 3) 49),gp 51 (.c2 40 [48,50]),gS 2 6 51] [0,3,5,6] [0,3,5,6]) (.sq (.dg [] [8] [gV (gp 52 (.ld (some 2) 5)) [5] [5] [8],gL (gM 53 0) [0] [8],gL (gp 54 (.nc 53)) [53] [8],gL (gF 55 0 54) [54] [8],gL (gF 56 5 55) [55] [8],⟨gQ 57 56,true,[56],[],true,[],[8],[]⟩,gL (gF 58 1 3) [3] [8],gV (gQ 59 58) [58] [3] [8],⟨gp 60 (.ia 3 none 57 59),true,[57,59],[],true,[],[8],[]⟩,⟨gF 61 1 60,true,[60],[],true,[],[8],[]⟩,⟨gp 62 (.ld (some 2) 61),true,[61],[],true,[],[8],[]⟩,gL (gp 63 (.ca 0 69 [52,62])) [52,62] [8],gL (gp 8 (.al [(.l 4 []),(.l 4 [])])) [] [],gH (gS 2 8 63)] [0,3,6,8] [0,3,6,8]) (.sq (.rg [] [gF 64 0 3,gQ 65 64,gB 66 .eql 65 (kI 5)] [0,3,6,8,66] [0,3,6,8]) (.ite 66 (.rg [] [gF 67 0 8,gQ 68 67,gF 69 1 6,gQ 70 69,gp 71 (.bd [(.l 4 []),(.l 4 [])] [(0,1,68),(1,1,70)]),gS 2 6 71] [0,3,6] [0,3,6]) (.rg [] [gF 72 0 6,gQ 73 72,gF 74 1 8,gQ 75 74,gp 76 (.bd [(.l 4 []),(.l 4 [])] [(0,1,73),(1,1,75)]),gS 2 6 76] [0,3,6] [0,3,6])))))
def Ux:AC:=.kp [0,3,5,6] [0,3,5,6] Uw
def Uy:AC:=(.sq (.dg [] [] [gL (gM 129 0) [0] [],gL (gp 130 (.nc 129)) [129] [],gL (gF 131 18 130) [130] [],⟨gQ 132 131,true,[131],[],true,[],[],[]⟩,gL (gF 133 1 3) [3] [],gV (gQ 134 133) [133] [3] [],gV (gp 135 (.ld (some 2) 6)) [6] [6] [],gH (gp 136 (.ia 2 none 132 134)),gH (gS 2 136 135)] [] []) (.sq (.rg [] [gA 4 (.c (.b true))] [4] []) .rt))
def Uz:AC:=.kp [0,3,6] [0,3,6] Uy
def UA:AC:=(.sq (.sq (.rg [] [gM 123 0,gF 124 1 3,gQ 125 124,gp 126 (.ld (some 2) 6),gp 127 (.c2 41 [123,125,126]),gp 128 (.no 127)] [0,3,6,128] [0,3,6]) (.ite 128 (.sq (.rg [] [gA 4 (.c (.b false))] [4] []) .rt) .sk)) Uz)
def UB:AC:=.kp [0,3,6] [0,3,6] UA
def UC:AC:=(.sq (.rg [] [gM 14 0,gp 15 (.nc 14),gF 16 0 15,gF 17 0 16,gp 18 (.ld (some 2) 17),gp 5 (.al [(.i .i64 0),(.l 115 [])]),gS 2 5 18] [0,3,5] [0,3,5]) (.sq (.rg [] [gp 6 (.al [(.l 4 []),(.l 4 [])])] [0,3,5,6] [0,3,5,6]) (.sq (.sq (.rg [] [gF 19 0 3,gQ 20 19] [0,3,5,6,20] [0,3,5,6]) (.bl 0 (.sq (.rg [] [gB 78 .eql 20 (kI 1),gA 77 78] [0,3,5,6,20,77] [0,3,5,6]) (.ite 77 (.rg [] [gM 79 0,gF 80 3 3,gp 81 (.ld (some 3) 80),gp 82 (.c2 40 [79,81]),gS 2 6 82] [0,3,6] [0,3,6]) (.sq (.rg [] [gB 84 .eql 20 (kI 3),gA 83 84] [0,3,5,6,20,83] [0,3,5,6]) (.ite 83 (.sq (.dg [] [7] [gV (gp 85 (.ld (some 2) 5)) [5] [5] [7],gL (gM 86 0) [0] [7],gL (gp 87 (.nc 86)) [86] [7],gL (gF 88 0 87) [87] [7],gL (gF 89 3 88) [88] [7],⟨gQ 90 89,true,[89],[],true,[],[7],[]⟩,gL (gF 91 2 3) [3] [7],gV (gQ 92 91) [91] [3] [7],⟨gp 93 (.ia 2 none 90 92),true,[90,92],[],true,[],[7],[]⟩,⟨gp 94 (.ld (some 2) 93),true,[93],[],true,[],[7],[]⟩,gL (gp 95 (.ca 0 69 [85,94])) [85,94] [7],gL (gp 7 (.al [(.l 4 []),(.l 4 [])])) [] [],gH (gS 2 7 95)] [0,3,6,7] [0,3,6,7]) (.sq (.sq (.dg [] [] [gL (gM 96 0) [0] [],⟨gp 97 (.ca 0 66 [96]),true,[96],[],true,[],[],[]⟩,gV (gp 98 (.ld (some 2) 7)) [7] [7] [],gH (gp 99 (.ca 0 68 [97,98])),gH (gp 100 (.no 99))] [0,3,6,7,100] [0,3,6,7]) (.ite 100 (.sq (.rg [] [gA 4 (.c (.b false))] [4] []) .rt) .sk)) Uv)) (.sq (.rg [] [gB 106 .eql 20 (kI 4),gA 105 106] [0,3,5,6,105] [0,3,5,6]) (.ite 105 (.sq (.dg [] [] [gL (gM 107 0) [0] [],gL (gF 108 3 3) [3] [],gV (gp 109 (.ld (some 3) 108)) [108] [3] [],⟨gp 110 (.ca 0 40 [107,109]),true,[107,109],[],true,[],[],[]⟩,gV (gp 111 (.ld (some 2) 5)) [5] [5] [],gL (gM 112 0) [0] [],gL (gp 113 (.nc 112)) [112] [],gL (gF 114 0 113) [113] [],gL (gF 115 4 114) [114] [],⟨gQ 116 115,true,[115],[],true,[],[],[]⟩,gL (gF 117 2 3) [3] [],gV (gQ 118 117) [117] [3] [],⟨gp 119 (.ia 2 none 116 118),true,[116,118],[],true,[],[],[]⟩,⟨gp 120 (.ld (some 2) 119),true,[119],[],true,[],[],[]⟩,gH (gp 121 (.ca 0 69 [111,120])),gH (gp 122 (.ca 0 68 [110,121])),gH (gA 4 122)] [4] []) .rt) (.sq (.sq (.dg [] [] [gL (gM 21 0) [0] [],gL (gp 22 (.nc 21)) [21] [],gL (gF 23 0 22) [22] [],gL (gF 24 5 23) [23] [],⟨gQ 25 24,true,[24],[],true,[],[],[]⟩,gL (gF 26 1 3) [3] [],gV (gQ 27 26) [26] [3] [],⟨gp 28 (.ia 3 none 25 27),true,[25,27],[],true,[],[],[]⟩,⟨gF 29 0 28,true,[28],[],true,[],[],[]⟩,⟨gQ 30 29,true,[29],[],true,[],[],[]⟩,gL (gp 31 (.no 30)) [30] [],gL (gM 32 31) [31] [],gL (gg 33 (.mv 0) 32 false) [0] [],gL (gg 34 (.nc 33) 32 false) [33] [],gL (gg 35 (.fa 0 34) 32 false) [34] [],⟨gg 36 (.ld (some 8) 35) 32 false,true,[35],[],true,[],[],[]⟩,gV (gg 37 (.ld (some 9) 3) 32 false) [3] [3] [],gL (gg 38 (.ca 0 71 [36,37]) 32 false) [36,37] [],gL (gp 39 (.pk 32 (.c (.b true)) 38)) [32,38] [],gL (gM 40 39) [39] [],gL (gg 41 (.mv 0) 40 false) [0] [],gL (gg 42 (.nc 41) 40 false) [41] [],gL (gg 43 (.fa 0 42) 40 false) [42] [],⟨gg 44 (.ld (some 8) 43) 40 false,true,[43],[],true,[],[],[]⟩,gV (gg 45 (.ld (some 9) 3) 40 false) [3] [3] [],gH (gg 46 (.ca 0 72 [44,45]) 40 false),gH (gp 47 (.pk 40 (.c (.b true)) 46))] [0,3,5,6,47] [0,3,5,6]) (.ite 47 (.sq (.rg [] [gA 4 (.c (.b false))] [4] []) .rt) .sk)) Ux))))))))) UB)))
def UD:AC:=.kp [0,3] [0,3] UC
def OJ:bG:=⟨(.sq (.rg [] [gp 3 (.bx 1),gA 4 (.c (.b false))] [0,3] [0,3]) (.sq (.sq (.rg [] [gM 9 0,gp 10 (.nc 9),gF 11 17 10,gQ 12 11,gp 13 (.no 12)] [0,3,13] [0,3]) (.ite 13 (.sq (.rg [] [gA 4 (.c (.b true))] [4] []) .rt) .sk)) UD)),[.t 4]⟩
def UE:AC:=(.sq (.rg [] [gp 8 (.ld (some 3) 2),gM 9 1,gp 10 (.ca 0 74 [8,9]),gA 4 10] [4] []) .rt)
def UF:AC:=.kp [1,2] [2] UE
def OK:bG:=⟨(.sq (.rg [] [gp 2 (.bx 0),gA 4 (kI 0)] [1,2] [2]) (.sq (.sq (.rg [] [gp 5 (.ld (some 3) 2),gp 6 (.ca 0 73 [5,(kI 15)]),gB 7 .gtr 6 (kI 15)] [1,2,7] [2]) (.ite 7 (.sq (.rg [] [gA 4 (kI 2)] [4] []) .rt) .sk)) UF)),[.t 4]⟩
def ZG:bG:=⟨(.sq (.rg [] [gA 2 (.c (.b false))] [0] []) (.sq (.rg [] [gM 3 0,gp 4 (.ca 0 30 [3]),gp 5 (.no 4),gA 2 5] [2] []) .rt)),[.t 2]⟩
def LY:AC:=(.sq (.rg [] [gM 62 7,gp 63 (.cv .i32 62),gp 64 (.cv .i64 63),gA 4 64] [4] []) .rt)
def UG:AC:=.kp [7] [] LY
def UH:AC:=(.sq (.dg [] [] [gL (gF 21 2 2) [2] [],gV (gQ 22 21) [21] [2] [],gV (gp 23 (.ia 3 none 22 (kI 0))) [22] [2] [],gV (gp 24 (.ld (some 3) 23)) [23] [2] [],gL (gM 25 1) [1] [],gL (gp 26 (.ca 0 49 [24,25])) [24,25] [],gL (gF 27 2 2) [2] [],gV (gQ 28 27) [27] [2] [],gV (gp 29 (.ia 3 none 28 (kI 1))) [28] [2] [],gV (gp 30 (.ld (some 3) 29)) [29] [2] [],gL (gM 31 1) [1] [],gH (gp 32 (.ca 0 49 [30,31])),gH (gA 5 26),gH (gA 6 32)] [2,5,6] [2]) (.sq (.rg [] [gA 7 (kI 0)] [2,5,6,7] [2]) (.sq (.sq (.rg [] [gF 33 0 2,gQ 34 33] [5,6,7,34] []) (.bl 1 (.sq (.rg [] [gB 36 .eql 34 (kI 3),gA 35 36] [5,6,7,34,35] []) (.ite 35 (.rg [] [gM 37 5,gM 38 6,gB 39 .add 37 38,gA 7 39] [7] []) (.sq (.rg [] [gB 41 .eql 34 (kI 4),gA 40 41] [5,6,7,34,40] []) (.ite 40 (.rg [] [gM 42 5,gM 43 6,gB 44 .sub 42 43,gA 7 44] [7] []) (.sq (.rg [] [gB 46 .eql 34 (kI 5),gA 45 46] [5,6,7,34,45] []) (.ite 45 (.rg [] [gM 47 5,gM 48 6,gB 49 .mul 47 48,gA 7 49] [7] []) (.sq (.rg [] [gB 51 .eql 34 (kI 6),gA 50 51] [5,6,7,34,50] []) (.ite 50 (.rg [] [gM 52 5,gM 53 6,gB 54 .lss 52 53,gp 55 (.ca 0 75 [54]),gA 7 55] [7] []) (.sq (.rg [] [gB 57 .eql 34 (kI 7),gA 56 57] [5,6,7,56] []) (.ite 56 (.rg [] [gM 58 5,gM 59 6,gB 60 .eql 58 59,gp 61 (.ca 0 75 [60]),gA 7 61] [7] []) .sk)))))))))))) UG)))
def UI:AC:=.kp [1,2] [2] UH
def OL:bG:=⟨(.sq (.rg [] [gp 2 (.bx 0),gA 4 (kI 0)] [1,2] [2]) (.sq (.sq (.rg [] [gF 8 0 2,gQ 9 8] [1,2,9] [2]) (.bl 0 (.sq (.rg [] [gB 11 .eql 9 (kI 1),gA 10 11] [1,2,9,10] [2]) (.ite 10 (.sq (.rg [] [gF 12 1 2,gQ 13 12,gA 4 13] [4] []) .rt) (.sq (.rg [] [gB 15 .eql 9 (kI 2),gA 14 15] [1,2,14] [2]) (.ite 14 (.sq (.rg [] [gM 16 1,gF 17 1 2,gQ 18 17,gp 19 (.ia 1 none 16 18),gQ 20 19,gA 4 20] [4] []) .rt) .sk)))))) UI)),[.t 4]⟩
def UJ:AC:=(.sq (.bl 1 (.sq (.dg [] [] [gL (gM 17 0) [0] [],gL (gM 18 5) [5] [],gL (gp 19 (.ia 4 none 17 18)) [17,18] [],gL (gp 20 (.ld (some 4) 19)) [19] [],gL (gM 21 1) [1] [],gL (gM 22 5) [5] [],gL (gp 23 (.ia 4 none 21 22)) [21,22] [],gL (gp 24 (.ld (some 4) 23)) [23] [],gH (gp 25 (.ae [1,1,1,1] true 20 24))] [0,1,5,25] []) (.ite 25 (.sq (.rg [] [gA 4 (.c (.b false))] [4] []) .rt) .sk))) (.rg [] [gM 15 5,gB 16 .add 15 (kI 1),gA 5 16] [0,1,5] []))
def UK:AC:=.kp [0,1,5] [] UJ
def UL:AC:=(.sq (.sq (.rg [] [gM 11 5,gM 12 0,gp 13 (.ln false 12),gB 14 .lss 11 13] [0,1,5,14] []) (.ite 14 .sk (.ex 0))) UK)
def LZ:bq:=⟨[0,1,5],[],UL⟩
def UM:AC:=(.sq (.sq (.rg [] [gA 5 (kI 0)] [0,1,5] []) (.bl 0 LZ.lp)) (.sq (.rg [] [gA 4 (.c (.b true))] [4] []) .rt))
def UN:AC:=.kp [0,1] [] UM
def OM:bG:=⟨(.sq (.rg [] [gA 4 (.c (.b false))] [0,1] []) (.sq (.sq (.rg [] [gM 6 0,gp 7 (.ln false 6),gM 8 1,gp 9 (.ln false 8),gB 10 .neq 7 9] [0,1,10] []) (.ite 10 (.sq (.rg [] [gA 4 (.c (.b false))] [4] []) .rt) .sk)) UN)),[.t 4]⟩
def UO:AC:=(.sq (.bl 1 (.sq (.rg [] [gp 60 (.ia 2 none 56 58),gp 61 (.ld (some 2) 60),gp 5 (.al [(.l 134 []),(.l 134 [])]),gS 2 5 61] [1,5,56,57,58] [1,5]) (.sq (.rg [] [gF 62 0 1,gp 63 (.ld (some 2) 62),gp 64 (.ld (some 2) 5),gp 65 (.ca 0 80 [63,64]),gA 6 65] [1,6,56,57,58] [1]) (.sq (.rg [] [gM 66 6,gB 67 .neq 66 (kI 0)] [1,6,56,57,58,67] [1]) (.ite 67 (.sq (.rg [] [gM 68 6,gA 2 68] [2] []) .rt) .sk))))) (.rg [] [gB 69 .add 58 (kI 1),gM 58 69] [1,56,57,58] [1]))
def UP:AC:=.kp [1,56,57,58] [1] UO
def UQ:AC:=(.sq (.rg [] [gB 59 .lss 58 57] [1,56,57,58,59] [1]) (.sq (.ite 59 .sk (.ex 0)) UP))
def L0:bq:=⟨[1,56,57,58],[1],UQ⟩
def UR:AC:=(.sq (.bl 3 (.sq (.rg [] [gp 75 (.ia 3 none 71 73),gp 76 (.ld (some 3) 75),gp 8 (.al [(.b false),(.l 134 []),(.l 134 [])]),gS 3 8 76] [1,8,71,72,73] [1,8]) (.sq (.rg [] [gF 77 0 1,gp 78 (.ld (some 2) 77),gF 79 1 8,gp 80 (.ld (some 2) 79),gp 81 (.ca 0 80 [78,80]),gA 9 81] [1,9,71,72,73] [1]) (.sq (.rg [] [gM 82 9,gB 83 .neq 82 (kI 0)] [1,9,71,72,73,83] [1]) (.ite 83 (.sq (.rg [] [gM 84 9,gA 2 84] [2] []) .rt) .sk))))) (.rg [] [gB 85 .add 73 (kI 1),gM 73 85] [1,71,72,73] [1]))
def US:AC:=.kp [1,71,72,73] [1] UR
def UT:AC:=(.sq (.rg [] [gB 74 .lss 73 72] [1,71,72,73,74] [1]) (.sq (.ite 74 .sk (.ex 2)) US))
def L1:bq:=⟨[1,71,72,73],[1],UT⟩
def UU:AC:=(.sq (.sq (.rg [] [gF 86 5 1,gQ 87 86,gp 88 (.c2 81 [87,(.c (.f 82 []))])] [88] []) (.ite 88 (.sq (.rg [] [gA 2 (kI 1)] [2] []) .rt) .sk)) (.sq (.rg [] [gA 2 (kI 0)] [2] []) .rt))
def UW:AC:=.kp [1] [1] UU
def UX:AC:=(.sq (.sq (.rg [] [gF 70 5 1,gQ 71 70,gp 72 (.ln false 71),gM 73 (kI 0)] [1,71,72,73] [1]) (.bl 2 L1.lp)) UW)
def UY:AC:=.kp [1] [1] UX
def UZ:AC:=(.sq (.sq (.rg [] [gF 51 3 1,gQ 52 51,gF 53 4 1,gQ 54 53,gz 55 (.bs 26 1 [52,54]),gp 56 (.ca 0 79 [55]),gp 57 (.ln false 56),gM 58 (kI 0)] [1,56,57,58] [1]) (.bl 0 L0.lp)) UY)
def U0:AC:=.kp [1] [1] UZ
def U1:AC:=(.sq (.sq (.rg [.fzB 1 true] [gF 47 2 1,gQ 48 47,gp 49 (.mf 77 [1]),gp 50 (.c2 28 [48,49])] [1,50] [1]) (.ite 50 (.sq (.rg [] [gA 2 (kI 5)] [2] []) .rt) .sk)) U0)
def U2:AC:=.kp [1] [1] U1
def U3:AC:=(.sq (.sq (.rg [] [gF 16 5 1,gQ 17 16,gp 18 (.ln false 17),gB 19 .gtr 18 (kI 16),gM 20 19,gg 21 (.fa 3 1) 20 false,gg 22 (.ld none 21) 20 false,gg 23 (.ln false 22) 20 false,gg 24 (.bo .gtr false 23 (kI 5)) 20 false,gp 25 (.pk 20 (.c (.b true)) 24),gM 26 25,gg 27 (.fa 4 1) 26 false,gg 28 (.ld none 27) 26 false,gg 29 (.ln false 28) 26 false,gg 30 (.bo .gtr false 29 (kI 5)) 26 false,gp 31 (.pk 26 (.c (.b true)) 30),gM 32 31,gg 33 (.fa 6 1) 32 false,gg 34 (.ld none 33) 32 false,gg 35 (.ln false 34) 32 false,gg 36 (.bo .gtr false 35 (kI 5)) 32 false,gp 37 (.pk 32 (.c (.b true)) 36),gM 38 37,gg 39 (.fa 2 1) 38 false,gg 40 (.ld none 39) 38 false,gg 41 (.ln false 40) 38 false,gg 42 (.fa 0 1) 38 false,gg 43 (.fa 0 42) 38 false,gg 44 (.ld none 43) 38 false,gg 45 (.bo .gtr false 41 44) 38 false,gp 46 (.pk 38 (.c (.b true)) 45)] [1,46] [1]) (.ite 46 (.sq (.rg [] [gA 2 (kI 2)] [2] []) .rt) .sk)) U2)
def U4:AC:=.kp [1] [1] U3
def ON:bG:=⟨(.sq (.rg [] [gp 1 (.bx 0),gA 2 (kI 0)] [1] [1]) (.sq (.sq (.rg [] [gF 10 0 1,gp 11 (.ld (some 2) 10),gp 12 (.ca 0 76 [11]),gA 3 12] [1,3] [1]) (.sq (.rg [] [gM 13 3,gB 14 .neq 13 (kI 0)] [1,3,14] [1]) (.ite 14 (.sq (.rg [] [gM 15 3,gA 2 15] [2] []) .rt) .sk))) U4)),[.t 2]⟩
def U5:AC:=(.sq (.bl 1 (.sq (.rg [] [gp 13 (.ia 5 none 9 11),gp 14 (.ld (some 5) 13),gp 6 (.al [(.l 3 []),(.l 65 []),(.i .i64 0),(.i .i64 0),(.l 63 [])]),gS 5 6 14] [1,4,6,9,10,11] [1,3,6]) (.sq (.rg [] [gF 15 1 6,gQ 16 15,gM 17 4,gp 18 (.c2 57 [16,(kI 1),17]),gp 19 (.no 18)] [1,4,9,10,11,19] [1,3]) (.ite 19 (.sq (.rg [] [gA 2 (.c (.b false))] [2] []) .rt) .sk)))) (.rg [] [gB 20 .add 11 (kI 1),gM 11 20] [1,4,9,10,11] [1,3]))
def U6:AC:=.kp [1,4,9,10,11] [1,3] U5
def U7:AC:=(.sq (.rg [] [gB 12 .lss 11 10] [1,4,9,10,11,12] [1,3]) (.sq (.ite 12 .sk (.ex 0)) U6))
def L2:bq:=⟨[1,4,9,10,11],[1,3],U7⟩
def U8:AC:=(.sq (.rg [] [gF 21 7 1,gQ 22 21,gM 23 4,gp 24 (.c2 57 [22,(kI 1),23]),gA 2 24] [2] []) .rt)
def U9:AC:=.kp [1,4] [1,3] U8
def OO:bG:=⟨(.sq (.rg [] [gp 1 (.bx 0),gA 2 (.c (.b false))] [1] [1]) (.sq (.rg [] [gp 3 (.al [(.i .i64 0)]),gS 1 3 (kI 0)] [1,3] [1,3]) (.sq (.rg [] [gp 7 (.mf 83 [3]),gA 4 7] [1,4] [1,3]) (.sq (.sq (.rg [] [gF 8 6 1,gQ 9 8,gp 10 (.ln false 9),gM 11 (kI 0)] [1,4,9,10,11] [1,3]) (.bl 0 L2.lp)) U9)))),[.t 2]⟩
def Va:AC:=(.sq (.rg [] [gF 32 0 3,gQ 33 32,gM 34 5,gp 35 (.sl 3 1 33 none (some 34)),gM 36 6,gp 37 (.ca 0 84 [35,36])] [0,3,13,14,15,37] [0,3]) (.ite 37 (.sq (.rg [] [gA 4 (kI 6)] [4] []) .rt) .sk))
def Vb:AC:=.kp [0,3,5,6,13,14,15] [0,3] Va
def Vc:AC:=(.sq (.bl 1 (.sq (.rg [] [gM 17 15,gp 18 (.ia 1 none 13 15),gQ 19 18,gA 5 17,gA 6 19] [0,3,5,6,13,14,15] [0,3]) (.sq (.sq (.rg [] [gM 20 6,gB 21 .lss 20 (kI 0),gM 22 21,gg 23 (.mv 6) 22 false,gg 24 (.mv 0) 22 false,gg 25 (.nc 24) 22 false,gg 26 (.fa 0 25) 22 false,gg 27 (.fa 5 26) 22 false,gg 28 (.ld none 27) 22 false,gg 29 (.ln false 28) 22 false,gg 30 (.bo .geq false 23 29) 22 false,gp 31 (.pk 22 (.c (.b true)) 30)] [0,3,5,6,13,14,15,31] [0,3]) (.ite 31 (.sq (.rg [] [gA 4 (kI 5)] [4] []) .rt) .sk)) Vb))) (.rg [] [gB 38 .add 15 (kI 1),gM 15 38] [0,3,13,14,15] [0,3]))
def Vd:AC:=.kp [0,3,13,14,15] [0,3] Vc
def Ve:AC:=(.sq (.rg [] [gB 16 .lss 15 14] [0,3,13,14,15,16] [0,3]) (.sq (.ite 16 .sk (.ex 0)) Vd))
def L3:bq:=⟨[0,3,13,14,15],[0,3],Ve⟩
def Vf:AC:=(.sq (.dg [] [] [gL (gF 46 2 3) [3] [],gV (gp 47 (.ld (some 3) 46)) [46] [3] [],gL (gM 48 0) [0] [],gL (gp 49 (.nc 48)) [48] [],gL (gF 50 0 49) [49] [],gL (gF 51 5 50) [50] [],⟨gQ 52 51,true,[51],[],true,[],[],[]⟩,⟨gp 53 (.ln false 52),true,[52],[],true,[],[],[]⟩,gH (gp 54 (.ca 0 47 [47,53])),gH (gA 4 54)] [4] []) .rt)
def Vg:AC:=.kp [0,3] [0,3] Vf
def Vh:AC:=(.sq (.sq (.rg [] [gM 39 0,gF 40 1 3,gQ 41 40,gp 42 (.c2 54 [39,41]),gA 7 42] [0,3,7] [0,3]) (.sq (.rg [] [gM 43 7,gB 44 .neq 43 (kI 0)] [0,3,7,44] [0,3]) (.ite 44 (.sq (.rg [] [gM 45 7,gA 4 45] [4] []) .rt) .sk))) Vg)
def Vi:AC:=.kp [0,3] [0,3] Vh
def Vj:AC:=(.sq (.sq (.rg [] [gF 12 0 3,gQ 13 12,gp 14 (.ln false 13),gM 15 (kI 0)] [0,3,13,14,15] [0,3]) (.bl 0 L3.lp)) Vi)
def Vk:AC:=.kp [0,3] [0,3] Vj
def OP:bG:=⟨(.sq (.rg [] [gp 3 (.bx 1),gA 4 (kI 0)] [0,3] [0,3]) (.sq (.sq (.rg [] [gF 8 0 3,gQ 9 8,gp 10 (.ln false 9),gB 11 .gtr 10 (kI 4)] [0,3,11] [0,3]) (.ite 11 (.sq (.rg [] [gA 4 (kI 2)] [4] []) .rt) .sk)) Vk)),[.t 4]⟩
def OQ:bG:=⟨(.sq (.rg [] [gp 2 (.bx 0),gA 4 (kI 0)] [1,2] [0,2]) (.sq (.rg [] [gp 5 (.al [(.i .i64 0)]),gS 1 5 (kI 0)] [1,2,5] [0,2,5]) (.sq (.rg [] [gM 6 1,gp 7 (.mf 85 [2,5]),gp 8 (.c2 57 [6,(kI 1),7])] [5] [5]) (.sq (.rg [] [gQ 9 5,gA 4 9] [4] []) .rt)))),[.t 4]⟩
def Vl:AC:=(.sq (.bl 1 (.sq (.rg [] [gM 10 8,gA 5 10] [0,1,5,7,8] []) (.sq (.rg [] [gM 11 1,gM 12 0,gM 13 5,gp 14 (.ia 1 none 12 13),gQ 15 14,gp 16 (.cf 0 11 [15])] [0,1,5,7,8,16] []) (.ite 16 (.sq (.rg [] [gM 17 5,gA 4 17] [4] []) .rt) .sk)))) (.rg [] [gB 18 .add 8 (kI 1),gM 8 18] [0,1,7,8] []))
def Vm:AC:=.kp [0,1,7,8] [] Vl
def Vn:AC:=(.sq (.rg [] [gB 9 .lss 8 7] [0,1,7,8,9] []) (.sq (.ite 9 .sk (.ex 0)) Vm))
def Ix:bq:=⟨[0,1,7,8],[],Vn⟩
def OR:bG:=⟨(.sq (.rg [] [gA 4 (kI 0)] [0,1] []) (.sq (.sq (.rg [] [gM 6 0,gp 7 (.ln false 6),gM 8 (kI 0)] [0,1,7,8] []) (.bl 0 Ix.lp)) (.sq (.rg [] [gA 4 (kI (-1))] [4] []) .rt))),[.t 4]⟩
def Vo:AC:=(.sq (.bl 1 (.sq (.rg [] [gM 10 8,gA 5 10] [0,1,5,7,8] []) (.sq (.rg [] [gM 11 1,gM 12 0,gM 13 5,gp 14 (.ia 1 none 12 13),gQ 15 14,gp 16 (.cf 0 11 [15])] [0,1,5,7,8,16] []) (.ite 16 (.sq (.rg [] [gM 17 5,gA 4 17] [4] []) .rt) .sk)))) (.rg [] [gB 18 .add 8 (kI 1),gM 8 18] [0,1,7,8] []))
def Vp:AC:=.kp [0,1,7,8] [] Vo
def Vq:AC:=(.sq (.rg [] [gB 9 .lss 8 7] [0,1,7,8,9] []) (.sq (.ite 9 .sk (.ex 0)) Vp))
def Fb:bq:=⟨[0,1,7,8],[],Vq⟩
def OS:bG:=⟨(.sq (.rg [] [gA 4 (kI 0)] [0,1] []) (.sq (.sq (.rg [] [gM 6 0,gp 7 (.ln false 6),gM 8 (kI 0)] [0,1,7,8] []) (.bl 0 Fb.lp)) (.sq (.rg [] [gA 4 (kI (-1))] [4] []) .rt))),[.t 4]⟩
def Vr:AC:=(.sq (.bl 1 (.sq (.rg [] [gp 13 (.ia 9 none 9 11),gp 14 (.ld (some 9) 13),gp 8 (.al [(.i .i64 0),(.i .i64 0),(.i .i64 0),(.i .i64 0),(.i .i64 0),(.l 63 []),(.l 63 []),(.l 65 []),(.l 65 [])]),gS 9 8 14] [1,2,8,9,10,11] [8]) (.sq (.rg [] [gM 15 2,gp 16 (.ld (some 9) 8),gM 17 1,gp 18 (.d2 15 [16,17]),gp 19 (.no 18),gM 20 19,gg 21 (.fa 7 8) 20 false,gg 22 (.ld none 21) 20 false,gg 23 (.mv 1) 20 false,gg 24 (.bo .add false 23 (kI 1)) 20 false,gg 25 (.mv 2) 20 false,gg 26 (.c2 57 [22,24,25]) 20 false,gg 27 (.no 26) 20 false,gp 28 (.pk 20 (.c (.b true)) 27),gM 29 28,gg 30 (.fa 8 8) 29 false,gg 31 (.ld none 30) 29 false,gg 32 (.mv 1) 29 false,gg 33 (.bo .add false 32 (kI 1)) 29 false,gg 34 (.mv 2) 29 false,gg 35 (.c2 57 [31,33,34]) 29 false,gg 36 (.no 35) 29 false,gp 37 (.pk 29 (.c (.b true)) 36)] [1,2,9,10,11,37] []) (.ite 37 (.sq (.rg [] [gA 6 (.c (.b false))] [6] []) .rt) .sk)))) (.rg [] [gB 38 .add 11 (kI 1),gM 11 38] [1,2,9,10,11] []))
def Vs:AC:=.kp [1,2,9,10,11] [] Vr
def Vt:AC:=(.sq (.rg [] [gB 12 .lss 11 10] [1,2,9,10,11,12] []) (.sq (.ite 12 .sk (.ex 0)) Vs))
def Fc:bq:=⟨[1,2,9,10,11],[],Vt⟩
def OT:bG:=⟨(.sq (.rg [] [gA 6 (.c (.b false))] [0,1,2] []) (.sq (.sq (.rg [] [gM 9 0,gp 10 (.ln false 9),gM 11 (kI 0)] [1,2,9,10,11] []) (.bl 0 Fc.lp)) (.sq (.rg [] [gA 6 (.c (.b true))] [6] []) .rt))),[.t 6]⟩
def OU:bG:=⟨(.sq (.rg [] [gp 3 (.bx 0),gA 5 (.c (.b false))] [2] [2]) (.sq (.rg [] [gQ 6 2,gB 7 .add 6 (kI 1),gS 1 2 7] [] []) (.sq (.rg [] [gA 5 (.c (.b true))] [5] []) .rt))),[.t 5]⟩
def Vu:AC:=(.sq (.rg [] [gM 23 0,gp 24 (.ld (some 9) 4),gM 25 2,gp 26 (.c2 90 [23,24,25])] [] []) (.sq (.rg [] [gA 6 (.c (.b true))] [6] []) .rt))
def Vv:AC:=.kp [0,2,4] [0,4] Vu
def Vw:AC:=(.sq (.sq (.rg [] [gF 16 0 4,gQ 17 16,gB 18 .geq 17 (kI 7)] [0,2,4,18] [0,4]) (.ite 18 (.sq (.rg [] [gM 19 0,gp 20 (.ld (some 9) 4),gM 21 2,gp 22 (.c2 89 [19,20,21]),gA 6 22] [6] []) .rt) .sk)) Vv)
def Vx:AC:=.kp [0,2,4] [0,4] Vw
def Vy:AC:=(.sq (.sq (.rg [] [gF 10 0 4,gQ 11 10,gB 12 .eql 11 (kI 2)] [0,2,4,12] [0,4]) (.ite 12 (.sq (.rg [] [gM 13 0,gp 14 (.ld (some 9) 4),gp 15 (.c2 88 [13,14]),gA 6 15] [6] []) .rt) .sk)) Vx)
def Vz:AC:=.kp [0,2,4] [0,4] Vy
def OV:bG:=⟨(.sq (.rg [] [gp 4 (.bx 1),gA 6 (.c (.b false))] [0,2,4] [0,4]) (.sq (.sq (.rg [] [gM 7 0,gp 8 (.c2 87 [7]),gp 9 (.no 8)] [0,2,4,9] [0,4]) (.ite 9 (.sq (.rg [] [gA 6 (.c (.b false))] [6] []) .rt) .sk)) Vz)),[.t 6]⟩
def VA:AC:=(.sq (.bl 3 (.sq (.dg [] [] [gV (gp 42 (.ld (some 2) 2)) [2] [2] [],gL (gM 43 1) [1] [],gL (gM 44 5) [5] [],gL (gp 45 (.ia 2 none 43 44)) [43,44] [],gL (gF 46 1 45) [45] [],gL (gQ 47 46) [46] [],gL (gM 48 6) [6] [],gL (gp 49 (.ia 1 none 47 48)) [47,48] [],gL (gQ 50 49) [49] [],gH (gp 51 (.ca 0 34 [42,50])),gH (gp 52 (.no 51))] [1,2,5,6,52] [2]) (.ite 52 (.sq (.rg [] [gA 4 (kI 5)] [4] []) .rt) .sk))) (.rg [] [gM 40 6,gB 41 .add 40 (kI 1),gA 6 41] [1,2,5,6] [2]))
def VB:AC:=.kp [1,2,5,6] [2] VA
def VC:AC:=(.sq (.sq (.rg [] [gM 32 6,gM 33 1,gM 34 5,gp 35 (.ia 2 none 33 34),gF 36 1 35,gQ 37 36,gp 38 (.ln false 37),gB 39 .lss 32 38] [1,2,5,6,39] [2]) (.ite 39 .sk (.ex 2))) VB)
def L4:bq:=⟨[1,2,5,6],[2],VC⟩
def VD:AC:=(.sq (.bl 5 (.sq (.dg [] [] [gL (gM 63 1) [1] [],gL (gM 64 5) [5] [],gL (gp 65 (.ia 2 none 63 64)) [63,64] [],gL (gF 66 1 65) [65] [],gL (gQ 67 66) [66] [],gL (gM 68 7) [7] [],gL (gp 69 (.ia 1 none 67 68)) [67,68] [],gL (gQ 70 69) [69] [],gL (gM 71 1) [1] [],gL (gM 72 5) [5] [],gL (gp 73 (.ia 2 none 71 72)) [71,72] [],gL (gF 74 1 73) [73] [],gL (gQ 75 74) [74] [],gL (gM 76 7) [7] [],gL (gB 77 .sub 76 (kI 1)) [76] [],gL (gp 78 (.ia 1 none 75 77)) [75,77] [],gL (gQ 79 78) [78] [],gH (gB 80 .leq 70 79)] [1,2,5,7,80] [2]) (.ite 80 (.sq (.rg [] [gA 4 (kI 4)] [4] []) .rt) .sk))) (.rg [] [gM 61 7,gB 62 .add 61 (kI 1),gA 7 62] [1,2,5,7] [2]))
def VE:AC:=.kp [1,2,5,7] [2] VD
def VF:AC:=(.sq (.sq (.rg [] [gM 53 7,gM 54 1,gM 55 5,gp 56 (.ia 2 none 54 55),gF 57 1 56,gQ 58 57,gp 59 (.ln false 58),gB 60 .lss 53 59] [1,2,5,7,60] [2]) (.ite 60 .sk (.ex 4))) VE)
def L5:bq:=⟨[1,2,5,7],[2],VF⟩
def VG:AC:=(.sq (.rg [] [gA 7 (kI 1)] [1,2,5,7] [2]) (.bl 4 L5.lp))
def VH:AC:=.kp [1,2,5] [2] VG
def VI:AC:=(.sq (.sq (.rg [] [gA 6 (kI 0)] [1,2,5,6] [2]) (.bl 2 L4.lp)) VH)
def VJ:AC:=.kp [1,2,5] [2] VI
def VK:AC:=(.sq (.sq (.rg [] [gM 25 1,gM 26 5,gp 27 (.ia 2 none 25 26),gF 28 1 27,gQ 29 28,gp 30 (.ln false 29),gB 31 .gtr 30 (kI 6)] [1,2,5,31] [2]) (.ite 31 (.sq (.rg [] [gA 4 (kI 2)] [4] []) .rt) .sk)) VJ)
def VL:AC:=.kp [1,2,5] [2] VK
def VM:AC:=(.sq (.bl 1 (.sq (.sq (.dg [] [] [gV (gp 17 (.ld (some 2) 2)) [2] [2] [],gL (gM 18 1) [1] [],gL (gM 19 5) [5] [],gL (gp 20 (.ia 2 none 18 19)) [18,19] [],gL (gF 21 0 20) [20] [],gL (gQ 22 21) [21] [],gH (gp 23 (.ca 0 34 [17,22])),gH (gp 24 (.no 23))] [1,2,5,24] [2]) (.ite 24 (.sq (.rg [] [gA 4 (kI 5)] [4] []) .rt) .sk)) VL)) (.rg [] [gM 15 5,gB 16 .add 15 (kI 1),gA 5 16] [1,2,5] [2]))
def VN:AC:=.kp [1,2,5] [2] VM
def VO:AC:=(.sq (.sq (.rg [] [gM 11 5,gM 12 1,gp 13 (.ln false 12),gB 14 .lss 11 13] [1,2,5,14] [2]) (.ite 14 .sk (.ex 0))) VN)
def L6:bq:=⟨[1,2,5],[2],VO⟩
def VP:AC:=(.sq (.sq (.rg [] [gA 5 (kI 0)] [1,2,5] [2]) (.bl 0 L6.lp)) (.sq (.rg [] [gA 4 (kI 0)] [4] []) .rt))
def VQ:AC:=.kp [1,2] [2] VP
def OW:bG:=⟨(.sq (.rg [] [gp 2 (.bx 0),gA 4 (kI 0)] [1,2] [2]) (.sq (.sq (.rg [] [gM 8 1,gp 9 (.ln false 8),gB 10 .gtr 9 (kI 4)] [1,2,10] [2]) (.ite 10 (.sq (.rg [] [gA 4 (kI 2)] [4] []) .rt) .sk)) VQ)),[.t 4]⟩
def OX:bG:=⟨(.sq (.rg [] [gA 2 (.c (.b false))] [0] []) (.sq (.rg [] [gM 3 0,gp 4 (.ca 0 14 [3,(kI 1),(kI 3)]),gM 5 4,gg 6 (.mv 0) 5 false,gg 7 (.bo .eql false 6 (kI 5)) 5 false,gp 8 (.pk 5 (.c (.b true)) 7),gM 9 8,gg 10 (.mv 0) 9 false,gg 11 (.bo .eql false 10 (kI 6)) 9 false,gp 12 (.pk 9 (.c (.b true)) 11),gA 2 12] [2] []) .rt)),[.t 2]⟩
def OY:bG:=⟨(.sq (.rg [] [gA 2 (.c (.b false))] [0] []) (.sq (.rg [] [gM 3 0,gB 4 .eql 3 (kI 1),gM 5 4,gg 6 (.mv 0) 5 false,gg 7 (.ca 0 14 [6,(kI 4),(kI 8)]) 5 false,gp 8 (.pk 5 (.c (.b true)) 7),gA 2 8] [2] []) .rt)),[.t 2]⟩
def VS:AC:=(.sq (.bl 1 (.rg [] [gM 19 5,gF 20 2 2,gQ 21 20,gM 22 6,gp 23 (.ia 3 none 21 22),gp 24 (.ld (some 3) 23),gM 25 1,gM 26 5,gB 27 .sub 25 26,gp 28 (.ca 0 63 [24,27]),gB 29 .add 19 28,gA 5 29] [1,2,5,6] [2])) (.rg [] [gM 17 6,gB 18 .add 17 (kI 1),gA 6 18] [1,2,5,6] [2]))
def VT:AC:=.kp [1,2,5,6] [2] VS
def VU:AC:=(.sq (.sq (.rg [] [gM 7 6,gF 8 2 2,gQ 9 8,gp 10 (.ln false 9),gB 11 .lss 7 10,gM 12 11,gg 13 (.mv 5) 12 true,gg 14 (.mv 1) 12 true,gg 15 (.bo .leq false 13 14) 12 true,gp 16 (.pk 12 15 (.c (.b false)))] [1,2,5,6,16] [2]) (.ite 16 .sk (.ex 0))) VT)
def L7:bq:=⟨[1,2,5,6],[2],VU⟩
def OZ:bG:=⟨(.sq (.rg [] [gp 2 (.bx 0),gA 4 (kI 0)] [1,2] [2]) (.sq (.rg [] [gA 5 (kI 1)] [1,2,5] [2]) (.sq (.sq (.rg [] [gA 6 (kI 0)] [1,2,5,6] [2]) (.bl 0 L7.lp)) (.sq (.rg [] [gM 30 5,gA 4 30] [4] []) .rt)))),[.t 4]⟩
def VV:AC:=(.sq (.bl 1 (.rg [] [gM 14 3,gF 15 2 1,gQ 16 15,gM 17 4,gp 18 (.ia 3 none 16 17),gp 19 (.ld (some 3) 18),gp 20 (.ca 0 64 [19]),gp 21 (.ap 63 3 40 14 20),gA 3 21] [1,3,4] [1])) (.rg [] [gM 12 4,gB 13 .add 12 (kI 1),gA 4 13] [1,3,4] [1]))
def VW:AC:=.kp [1,3,4] [1] VV
def VX:AC:=(.sq (.sq (.rg [] [gM 7 4,gF 8 2 1,gQ 9 8,gp 10 (.ln false 9),gB 11 .lss 7 10] [1,3,4,11] [1]) (.ite 11 .sk (.ex 0))) VW)
def L8:bq:=⟨[1,3,4],[1],VX⟩
def O0:bG:=⟨(.sq (.rg [] [gp 1 (.bx 0),gA 2 (.c (.l 63 []))] [1] [1]) (.sq (.rg [] [gp 5 (.ld (some 3) 1),gp 6 (.bs 63 3 [5]),gA 3 6] [1,3] [1]) (.sq (.sq (.rg [.own 3 63] [gA 4 (kI 0)] [1,3,4] [1]) (.bl 0 L8.lp)) (.sq (.rg [] [gM 22 3,gA 2 22] [2,3] []) .rt)))),[.t 2]⟩
def VY:AC:=(.sq (.bl 1 (.sq (.dg [] [28] [gL (gF 14 0 5) [5] [28],gV (gQ 15 14) [14] [5] [28],gL (gF 16 0 2) [2] [28],gV (gQ 17 16) [16] [2] [28],gL (gM 18 6) [6] [28],gV (gp 19 (.ia 1 none 17 18)) [17,18] [2] [28],gV (gQ 20 19) [19] [2] [28],gL (gM 21 20) [20] [28],gL (gg 22 (.fa 0 3) 21 true) [3] [28],gV (gg 23 (.ld none 22) 21 true) [22] [3] [28],gL (gg 24 (.mv 6) 21 true) [6] [28],gV (gg 25 (.ia 1 none 23 24) 21 true) [23,24] [3] [28],gV (gg 26 (.ld none 25) 21 true) [25] [3] [28],gL (gp 27 (.pk 21 26 (.c (.b false)))) [21,26] [28],gL (gz 28 (.bs 4 1 [27])) [27] [],gH (gp 29 (.ap 4 1 1 15 28)),gH (gF 30 0 5),gH (gS 1 30 29)] [2,3,4,5,6] [2,3,4,5]) (.dg [] [45] [gL (gF 31 1 5) [5] [45],gV (gQ 32 31) [31] [5] [45],gL (gF 33 1 2) [2] [45],gV (gQ 34 33) [33] [2] [45],gL (gM 35 6) [6] [45],gV (gp 36 (.ia 1 none 34 35)) [34,35] [2] [45],gV (gQ 37 36) [36] [2] [45],gL (gM 38 37) [37] [45],gL (gg 39 (.fa 1 3) 38 false) [3] [45],gV (gg 40 (.ld none 39) 38 false) [39] [3] [45],gL (gg 41 (.mv 6) 38 false) [6] [45],gV (gg 42 (.ia 1 none 40 41) 38 false) [40,41] [3] [45],gV (gg 43 (.ld none 42) 38 false) [42] [3] [45],gL (gp 44 (.pk 38 (.c (.b true)) 43)) [38,43] [45],gL (gz 45 (.bs 4 1 [44])) [44] [],gH (gp 46 (.ap 4 1 1 32 45)),gH (gF 47 1 5),gH (gS 1 47 46)] [2,3,4,5,6] [2,3,4,5]))) (.rg [] [gM 12 6,gB 13 .add 12 (kI 1),gA 6 13] [2,3,4,5,6] [2,3,4,5]))
def VZ:AC:=.kp [2,3,4,5,6] [2,3,4,5] VY
def V0:AC:=(.sq (.sq (.rg [] [gM 7 6,gF 8 0 2,gQ 9 8,gp 10 (.ln false 9),gB 11 .lss 7 10] [2,3,4,5,6,11] [2,3,4,5]) (.ite 11 .sk (.ex 0))) VZ)
def V1:bq:=⟨[2,3,4,5,6],[2,3,4,5],V0⟩
def ZH:bG:=⟨(.sq (.rg [] [gp 2 (.bx 0),gp 3 (.bx 1),gp 4 (.al [(.l 4 []),(.l 4 [])])] [2,3,4] [2,3,4]) (.sq (.rg [] [gp 5 (.al [.n,.n])] [2,3,4,5] [2,3,4,5]) (.sq (.sq (.rg [.ownC 5 1 4,.ownC 5 0 4] [gA 6 (kI 0)] [2,3,4,5,6] [2,3,4,5]) (.bl 0 V1.lp)) (.sq (.rg [.fzC 5 0,.fzC 5 1] [gp 48 (.ld (some 2) 5),gS 2 4 48] [4] [4]) .rt)))),[.c 4 (some 2)]⟩
def ZI:bG:=⟨(.sq (.rg [] [gp 2 (.al [(.l 4 []),(.l 4 [])])] [0,2] [0,2]) (.sq (.dg [] [] [gL (gM 3 0) [0] [],gL (gp 4 (.nc 3)) [3] [],gL (gF 5 19 4) [4] [],⟨gQ 6 5,true,[5],[],true,[],[],[]⟩,gL (gM 7 0) [0] [],gL (gp 8 (.nc 7)) [7] [],gL (gF 9 19 8) [8] [],⟨gQ 10 9,true,[9],[],true,[],[],[]⟩,⟨gp 11 (.ln false 10),true,[10],[],true,[],[],[]⟩,gL (gB 12 .sub 11 (kI 1)) [11] [],gH (gp 13 (.ia 2 none 6 12)),gH (gp 14 (.ld (some 2) 13)),gH (gS 2 2 14)] [2] [2]) .rt)),[.c 2 (some 2)]⟩
def V2:AC:=(.sq (.bl 1 (.sq (.rg [] [gM 21 8,gM 22 9,gp 23 (.ia 3 none 21 22),gF 24 0 23,gQ 25 24,gB 26 .eql 25 (kI 2)] [1,6,7,8,9,26] [6,7]) (.ite 26 (.dg [] [] [gV (gp 27 (.ld (some 2) 7)) [7] [7] [],gL (gM 28 1) [1] [],gL (gM 29 8) [8] [],gL (gM 30 9) [9] [],gL (gp 31 (.ia 3 none 29 30)) [29,30] [],gL (gF 32 1 31) [31] [],gL (gQ 33 32) [32] [],gL (gp 34 (.ia 2 none 28 33)) [28,33] [],gL (gp 35 (.ld (some 2) 34)) [34] [],gH (gp 36 (.ca 0 65 [27,35])),gH (gS 2 7 36)] [1,6,7,8,9] [6,7]) .sk))) (.rg [] [gM 19 9,gB 20 .add 19 (kI 1),gA 9 20] [1,6,7,8,9] [6,7]))
def V3:AC:=.kp [1,6,7,8,9] [6,7] V2
def V4:AC:=(.sq (.sq (.rg [] [gM 15 9,gM 16 8,gp 17 (.ln false 16),gB 18 .lss 15 17] [1,6,7,8,9,18] [6,7]) (.ite 18 .sk (.ex 0))) V3)
def V5:bq:=⟨[1,6,7,8,9],[6,7],V4⟩
def ZJ:bG:=⟨(.sq (.rg [] [gp 3 (.bx 0),gp 5 (.bx 2),gp 6 (.al [(.l 4 []),(.l 4 [])])] [1,3,5,6] [3,5,6]) (.sq (.rg [] [gF 10 0 3,gp 11 (.ld (some 2) 10),gp 12 (.ca 0 15 [11]),gp 7 (.al [(.l 4 []),(.l 4 [])]),gS 2 7 12] [1,5,6,7] [5,6,7]) (.sq (.rg [] [gp 13 (.ld (some 3) 5),gp 14 (.ca 0 64 [13]),gA 8 14] [1,6,7,8] [6,7]) (.sq (.sq (.rg [] [gA 9 (kI 0)] [1,6,7,8,9] [6,7]) (.bl 0 V5.lp)) (.sq (.rg [] [gp 37 (.ld (some 2) 7),gS 2 6 37] [6] [6]) .rt))))),[.c 6 (some 2)]⟩
def V6:AC:=(.sq (.bl 1 (.sq (.rg [] [gF 13 0 3,gQ 14 13,gM 15 5,gp 16 (.ia 1 none 14 15),gQ 17 16,gM 18 17,gg 19 (.fa 0 2) 18 true,gg 20 (.ld none 19) 18 true,gg 21 (.mv 5) 18 true,gg 22 (.ia 1 none 20 21) 18 true,gg 23 (.ld none 22) 18 true,gg 24 (.no 23) 18 true,gp 25 (.pk 18 24 (.c (.b false))),gM 26 25,gg 27 (.fa 1 2) 26 false,gg 28 (.ld none 27) 26 false,gg 29 (.mv 5) 26 false,gg 30 (.ia 1 none 28 29) 26 false,gg 31 (.ld none 30) 26 false,gg 32 (.mv 31) 26 false,gg 33 (.fa 1 3) 32 true,gg 34 (.ld none 33) 32 true,gg 35 (.mv 5) 32 true,gg 36 (.ia 1 none 34 35) 32 true,gg 37 (.ld none 36) 32 true,gg 38 (.no 37) 32 true,gg 39 (.pk 32 38 (.c (.b false))) 26 false,gp 40 (.pk 26 (.c (.b true)) 39)] [2,3,5,40] [2,3]) (.ite 40 (.sq (.rg [] [gA 4 (.c (.b false))] [4] []) .rt) .sk))) (.rg [] [gM 11 5,gB 12 .add 11 (kI 1),gA 5 12] [2,3,5] [2,3]))
def V7:AC:=.kp [2,3,5] [2,3] V6
def V8:AC:=(.sq (.sq (.rg [] [gM 6 5,gF 7 0 2,gQ 8 7,gp 9 (.ln false 8),gB 10 .lss 6 9] [2,3,5,10] [2,3]) (.ite 10 .sk (.ex 0))) V7)
def V9:bq:=⟨[2,3,5],[2,3],V8⟩
def ZK:bG:=⟨(.sq (.rg [] [gp 2 (.bx 0),gp 3 (.bx 1),gA 4 (.c (.b false))] [2,3] [2,3]) (.sq (.sq (.rg [] [gA 5 (kI 0)] [2,3,5] [2,3]) (.bl 0 V9.lp)) (.sq (.rg [] [gA 4 (.c (.b true))] [4] []) .rt))),[.t 4]⟩
def Wa:AC:=(.sq (.bl 1 (.sq (.dg [] [20] [gL (gF 13 0 5) [5] [20],gV (gQ 14 13) [13] [5] [20],gV (gp 15 (.ld (some 2) 2)) [2] [2] [20],gL (gM 16 6) [6] [20],gL (gF 17 0 3) [3] [20],gV (gQ 18 17) [17] [3] [20],gV (gp 19 (.ca 0 91 [15,16,18])) [15,16,18] [3] [20],gL (gz 20 (.bs 4 1 [19])) [19] [],gH (gp 21 (.ap 4 1 1 14 20)),gH (gF 22 0 5),gH (gS 1 22 21)] [2,3,4,5,6] [2,3,4,5]) (.dg [] [30] [gL (gF 23 1 5) [5] [30],gV (gQ 24 23) [23] [5] [30],gV (gp 25 (.ld (some 2) 2)) [2] [2] [30],gL (gM 26 6) [6] [30],gL (gF 27 1 3) [3] [30],gV (gQ 28 27) [27] [3] [30],gV (gp 29 (.ca 0 91 [25,26,28])) [25,26,28] [3] [30],gL (gz 30 (.bs 4 1 [29])) [29] [],gH (gp 31 (.ap 4 1 1 24 30)),gH (gF 32 1 5),gH (gS 1 32 31)] [2,3,4,5,6] [2,3,4,5]))) (.rg [] [gM 11 6,gB 12 .add 11 (kI 1),gA 6 12] [2,3,4,5,6] [2,3,4,5]))
def Wb:AC:=.kp [2,3,4,5,6] [2,3,4,5] Wa
def Wd:AC:=(.sq (.sq (.rg [] [gM 7 6,gF 8 0 2,gQ 9 8,gB 10 .lss 7 9] [2,3,4,5,6,10] [2,3,4,5]) (.ite 10 .sk (.ex 0))) Wb)
def We:bq:=⟨[2,3,4,5,6],[2,3,4,5],Wd⟩
def ZL:bG:=⟨(.sq (.rg [] [gp 2 (.bx 0),gp 3 (.bx 1),gp 4 (.al [(.l 4 []),(.l 4 [])])] [2,3,4] [2,3,4]) (.sq (.rg [] [gp 5 (.al [.n,.n])] [2,3,4,5] [2,3,4,5]) (.sq (.sq (.rg [.ownC 5 1 4,.ownC 5 0 4] [gA 6 (kI 0)] [2,3,4,5,6] [2,3,4,5]) (.bl 0 We.lp)) (.sq (.rg [.fzC 5 0,.fzC 5 1] [gp 33 (.ld (some 2) 5),gS 2 4 33] [4] [4]) .rt)))),[.c 4 (some 2)]⟩
def L9:AC:=(.sq (.sq (.rg [] [gM 9 0,gB 10 .gtr 9 (kI 2147483647)] [0,10] []) (.ite 10 (.rg [] [gM 11 0,gB 12 .sub 11 (kI 4294967296),gA 0 12] [0] []) .sk)) (.sq (.rg [] [gM 13 0,gA 2 13] [2] []) .rt))
def Wf:AC:=.kp [0] [] L9
def O1:bG:=⟨(.sq (.rg [] [gA 2 (kI 0)] [0] []) (.sq (.rg [] [gM 3 0,gB 4 .rem 3 (kI 4294967296),gA 0 4] [0] []) (.sq (.sq (.rg [] [gM 5 0,gB 6 .lss 5 (kI 0)] [0,6] []) (.ite 6 (.rg [] [gM 7 0,gB 8 .add 7 (kI 4294967296),gA 0 8] [0] []) .sk)) Wf))),[.t 2]⟩
def Wg:AC:=(.sq (.bl 1 (.sq (.dg [] [] [gL (gM 29 5) [5] [],gL (gM 30 6) [6] [],gL (gp 31 (.ia 3 none 29 30)) [29,30] [],gL (gF 32 0 31) [31] [],gL (gQ 33 32) [32] [],gL (gB 34 .eql 33 (kI 2)) [33] [],gL (gM 35 34) [34] [],gV (gg 36 (.ld (some 8) 2) 35 true) [2] [2] [],gL (gg 37 (.fa 5 2) 35 true) [2] [],gV (gg 38 (.ld none 37) 35 true) [37] [2] [],gL (gg 39 (.mv 5) 35 true) [5] [],gL (gg 40 (.mv 6) 35 true) [6] [],gL (gg 41 (.ia 3 none 39 40) 35 true) [39,40] [],gL (gg 42 (.fa 1 41) 35 true) [41] [],gL (gg 43 (.ld none 42) 35 true) [42] [],gV (gg 44 (.ia 3 none 38 43) 35 true) [38,43] [2] [],gV (gg 45 (.fa 1 44) 35 true) [44] [2] [],gV (gg 46 (.fa 0 45) 35 true) [45] [2] [],gV (gg 47 (.ld none 46) 35 true) [46] [2] [],gH (gg 48 (.ca 0 92 [36,47]) 35 true),gH (gp 49 (.pk 35 48 (.c (.b false))))] [2,5,6,49] [2]) (.ite 49 (.sq (.rg [] [gA 4 (.c (.b true))] [4] []) .rt) .sk))) (.rg [] [gM 27 6,gB 28 .add 27 (kI 1),gA 6 28] [2,5,6] [2]))
def Wh:AC:=.kp [2,5,6] [2] Wg
def Wi:AC:=(.sq (.sq (.rg [] [gM 23 6,gM 24 5,gp 25 (.ln false 24),gB 26 .lss 23 25] [2,5,6,26] [2]) (.ite 26 .sk (.ex 0))) Wh)
def Wj:bq:=⟨[2,5,6],[2],Wi⟩
def Wk:AC:=(.sq (.rg [] [gF 20 3 3,gp 21 (.ld (some 3) 20),gp 22 (.ca 0 64 [21]),gA 5 22] [2,5] [2]) (.sq (.sq (.rg [] [gA 6 (kI 0)] [2,5,6] [2]) (.bl 0 Wj.lp)) (.sq (.rg [] [gA 4 (.c (.b false))] [4] []) .rt)))
def Wl:AC:=.kp [2,3] [2,3] Wk
def ZM:bG:=⟨(.sq (.rg [] [gp 2 (.bx 0),gp 3 (.bx 1),gA 4 (.c (.b false))] [2,3] [2,3]) (.sq (.sq (.rg [] [gF 7 0 3,gQ 8 7,gB 9 .eql 8 (kI 6)] [2,3,9] [2,3]) (.ite 9 (.sq (.dg [] [] [gV (gp 10 (.ld (some 8) 2)) [2] [2] [],gL (gF 11 5 2) [2] [],gV (gQ 12 11) [11] [2] [],gL (gF 13 1 3) [3] [],gV (gQ 14 13) [13] [3] [],gV (gp 15 (.ia 3 none 12 14)) [12,14] [2] [],gV (gF 16 1 15) [15] [2] [],gV (gF 17 1 16) [16] [2] [],gV (gQ 18 17) [17] [2] [],gH (gp 19 (.ca 0 92 [10,18])),gH (gA 4 19)] [4] []) .rt) .sk)) Wl)),[.t 4]⟩
def Wm:AC:=(.sq (.bl 1 (.sq (.dg [] [] [gL (gM 27 5) [5] [],gL (gM 28 6) [6] [],gL (gp 29 (.ia 3 none 27 28)) [27,28] [],gL (gF 30 0 29) [29] [],gL (gQ 31 30) [30] [],gL (gB 32 .eql 31 (kI 2)) [31] [],gL (gM 33 32) [32] [],gL (gg 34 (.fa 5 2) 33 true) [2] [],gV (gg 35 (.ld none 34) 33 true) [34] [2] [],gL (gg 36 (.mv 5) 33 true) [5] [],gL (gg 37 (.mv 6) 33 true) [6] [],gL (gg 38 (.ia 3 none 36 37) 33 true) [36,37] [],gL (gg 39 (.fa 1 38) 33 true) [38] [],gL (gg 40 (.ld none 39) 33 true) [39] [],gH (gg 41 (.ia 3 none 35 40) 33 true),gH (gg 42 (.fa 0 41) 33 true),gH (gg 43 (.ld none 42) 33 true),gH (gg 44 (.no 43) 33 true),gH (gp 45 (.pk 33 44 (.c (.b false))))] [2,5,6,45] [2]) (.ite 45 (.sq (.rg [] [gA 4 (.c (.b true))] [4] []) .rt) .sk))) (.rg [] [gM 25 6,gB 26 .add 25 (kI 1),gA 6 26] [2,5,6] [2]))
def Wn:AC:=.kp [2,5,6] [2] Wm
def Wo:AC:=(.sq (.sq (.rg [] [gM 21 6,gM 22 5,gp 23 (.ln false 22),gB 24 .lss 21 23] [2,5,6,24] [2]) (.ite 24 .sk (.ex 0))) Wn)
def Wp:bq:=⟨[2,5,6],[2],Wo⟩
def Wq:AC:=(.sq (.rg [] [gF 18 3 3,gp 19 (.ld (some 3) 18),gp 20 (.ca 0 64 [19]),gA 5 20] [2,5] [2]) (.sq (.sq (.rg [] [gA 6 (kI 0)] [2,5,6] [2]) (.bl 0 Wp.lp)) (.sq (.rg [] [gA 4 (.c (.b false))] [4] []) .rt)))
def Wr:AC:=.kp [2,3] [2,3] Wq
def ZN:bG:=⟨(.sq (.rg [] [gp 2 (.bx 0),gp 3 (.bx 1),gA 4 (.c (.b false))] [2,3] [2,3]) (.sq (.sq (.rg [] [gF 7 0 3,gQ 8 7,gB 9 .eql 8 (kI 6)] [2,3,9] [2,3]) (.ite 9 (.sq (.rg [] [gF 10 5 2,gQ 11 10,gF 12 1 3,gQ 13 12,gp 14 (.ia 3 none 11 13),gF 15 0 14,gQ 16 15,gp 17 (.no 16),gA 4 17] [4] []) .rt) .sk)) Wr)),[.t 4]⟩
def Ws:AC:=(.rg [] [gM 18 5,gp 19 (.ld (some 3) 7),gM 20 1,gM 21 5,gB 22 .sub 20 21,gp 23 (.ca 0 73 [19,22]),gB 24 .add 18 23,gA 5 24] [1,5,9,10,11] [])
def Wt:AC:=.kp [1,5,7,9,10,11] [7] Ws
def Wu:AC:=(.sq (.bl 1 (.sq (.rg [] [gp 13 (.ia 3 none 9 11),gp 14 (.ld (some 3) 13),gp 7 (.al [(.i .i64 0),(.i .i64 0),(.l 63 [])]),gS 3 7 14] [1,5,7,9,10,11] [7]) (.sq (.sq (.rg [] [gM 15 5,gM 16 1,gB 17 .gtr 15 16] [1,5,7,9,10,11,17] [7]) (.ite 17 (.ex 0) .sk)) Wt))) (.rg [] [gB 25 .add 11 (kI 1),gM 11 25] [1,5,9,10,11] []))
def Wv:AC:=.kp [1,5,9,10,11] [] Wu
def Ww:AC:=(.sq (.rg [] [gB 12 .lss 11 10] [1,5,9,10,11,12] []) (.sq (.ite 12 .sk (.ex 0)) Wv))
def Ma:bq:=⟨[1,5,9,10,11],[],Ww⟩
def O2:bG:=⟨(.sq (.rg [] [gp 2 (.bx 0),gA 4 (kI 0)] [1,2] [2]) (.sq (.rg [] [gA 5 (kI 1)] [1,2,5] [2]) (.sq (.sq (.rg [] [gF 8 2 2,gQ 9 8,gp 10 (.ln false 9),gM 11 (kI 0)] [1,5,9,10,11] []) (.bl 0 Ma.lp)) (.sq (.rg [] [gM 26 5,gA 4 26] [4] []) .rt)))),[.t 4]⟩
def Wx:AC:=(.sq (.bl 1 (.sq (.rg [] [gp 20 (.ia 3 none 16 18),gp 21 (.ld (some 3) 20),gp 7 (.al [(.i .i64 0),(.i .i64 0),(.l 63 [])]),gS 3 7 21] [1,7,16,17,18] [7]) (.sq (.rg [] [gp 22 (.ld (some 3) 7),gM 23 1,gp 24 (.ca 0 74 [22,23]),gA 8 24] [1,8,16,17,18] []) (.sq (.rg [] [gM 25 8,gB 26 .neq 25 (kI 0)] [1,8,16,17,18,26] []) (.ite 26 (.sq (.rg [] [gM 27 8,gA 4 27] [4] []) .rt) .sk))))) (.rg [] [gB 28 .add 18 (kI 1),gM 18 28] [1,16,17,18] []))
def Wy:AC:=.kp [1,16,17,18] [] Wx
def Wz:AC:=(.sq (.rg [] [gB 19 .lss 18 17] [1,16,17,18,19] []) (.sq (.ite 19 .sk (.ex 0)) Wy))
def Mb:bq:=⟨[1,16,17,18],[],Wz⟩
def WA:AC:=(.sq (.sq (.rg [] [gF 15 2 2,gQ 16 15,gp 17 (.ln false 16),gM 18 (kI 0)] [1,16,17,18] []) (.bl 0 Mb.lp)) (.sq (.rg [] [gA 4 (kI 0)] [4] []) .rt))
def WB:AC:=.kp [1,2] [2] WA
def O3:bG:=⟨(.sq (.rg [] [gp 2 (.bx 0),gA 4 (kI 0)] [1,2] [2]) (.sq (.sq (.rg [] [gp 9 (.ld (some 3) 2),gM 10 1,gp 11 (.ca 0 93 [9,10]),gA 5 11] [1,2,5] [2]) (.sq (.rg [] [gM 12 5,gB 13 .neq 12 (kI 0)] [1,2,5,13] [2]) (.ite 13 (.sq (.rg [] [gM 14 5,gA 4 14] [4] []) .rt) .sk))) WB)),[.t 4]⟩
def O4:bG:=⟨(.sq (.rg [] [gA 2 (kI 0)] [0] []) (.sq (.sq (.rg [] [gM 3 0] [3] []) (.ite 3 (.sq (.rg [] [gA 2 (kI 1)] [2] []) .rt) .sk)) (.sq (.rg [] [gA 2 (kI 0)] [2] []) .rt))),[.t 2]⟩
def O5:bG:=⟨(.sq (.rg [] [gp 1 (.bx 0),gA 2 (kI 0)] [1] [1]) (.sq (.bl 0 (.sq (.rg [] [gF 4 0 1,gQ 5 4,gB 6 .lss 5 (kI 1),gM 7 6,gg 8 (.fa 0 1) 7 false,gg 9 (.ld none 8) 7 false,gg 10 (.bo .gtr false 9 (kI 6)) 7 false,gp 11 (.pk 7 (.c (.b true)) 10),gA 3 11] [1,3] [1]) (.ite 3 (.sq (.rg [] [gA 2 (kI 3)] [2] []) .rt) (.sq (.rg [] [gF 13 1 1,gQ 14 13,gp 15 (.ln false 14),gB 16 .gtr 15 (kI 20),gA 12 16] [1,12] [1]) (.ite 12 (.sq (.rg [] [gA 2 (kI 2)] [2] []) .rt) (.sq (.rg [.fzB 1 true] [gF 18 1 1,gQ 19 18,gp 20 (.mf 95 [1]),gp 21 (.c2 94 [19,20]),gA 17 21] [17] []) (.ite 17 (.sq (.rg [] [gA 2 (kI 5)] [2] []) .rt) .sk))))))) (.sq (.rg [] [gA 2 (kI 0)] [2] []) .rt))),[.t 2]⟩
def O6:bG:=⟨(.sq (.rg [] [gA 3 (.c (.b false))] [0,1] [1]) (.sq (.rg [] [gF 4 0 1,gp 5 (.ld (some 2) 4),gM 6 0,gp 7 (.ca 0 78 [5,6]),gp 8 (.no 7),gA 3 8] [3] []) .rt)),[.t 3]⟩
def O7:bG:=⟨(.sq (.rg [] [gp 2 (.bx 0),gA 4 (.c (.b false))] [1,2] [2]) (.sq (.rg [] [gM 5 1,gB 6 .geq 5 (kI 0),gM 7 6,gg 8 (.mv 1) 7 true,gg 9 (.fa 0 2) 7 true,gg 10 (.ld none 9) 7 true,gg 11 (.bo .lss false 8 10) 7 true,gp 12 (.pk 7 11 (.c (.b false))),gA 4 12] [4] []) .rt)),[.t 4]⟩
def WC:AC:=(.sq (.bl 1 (.sq (.rg [] [gp 13 (.ia 1 none 9 11),gQ 14 13,gA 5 14] [0,3,5,9,10,11] []) (.sq (.rg [] [gM 15 3,gM 16 5,gp 17 (.ln false 16),gB 18 .add 15 17,gA 3 18] [0,3,9,10,11] []) (.sq (.rg [] [gM 19 3,gB 20 .lss 19 (kI 0)] [0,3,9,10,11,20] []) (.ite 20 .bad .sk))))) (.rg [] [gB 22 .add 11 (kI 1),gM 11 22] [0,3,9,10,11] []))
def WD:AC:=.kp [0,3,9,10,11] [] WC
def WE:AC:=(.sq (.rg [] [gB 12 .lss 11 10] [0,3,9,10,11,12] []) (.sq (.ite 12 .sk (.ex 0)) WD))
def Mc:bq:=⟨[0,3,9,10,11],[],WE⟩
def WG:AC:=(.sq (.bl 3 (.sq (.rg [] [gp 29 (.ia 1 none 25 27),gQ 30 29,gA 8 30] [6,8,25,26,27] []) (.rg [] [gM 31 6,gM 32 8,gp 33 (.ap 89 2 48 31 32),gA 6 33] [6,25,26,27] []))) (.rg [] [gB 34 .add 27 (kI 1),gM 27 34] [6,25,26,27] []))
def WH:AC:=.kp [6,25,26,27] [] WG
def WI:AC:=(.sq (.rg [] [gB 28 .lss 27 26] [6,25,26,27,28] []) (.sq (.ite 28 .sk (.ex 2)) WH))
def Md:bq:=⟨[6,25,26,27],[],WI⟩
def WJ:AC:=(.sq (.rg [] [gM 23 3,gp 24 (.cr 89 96 [(.c .n),23]),gA 6 24] [0,6] []) (.sq (.sq (.rg [.own 6 89] [gM 25 0,gp 26 (.ln false 25),gM 27 (kI 0)] [6,25,26,27] []) (.bl 2 Md.lp)) (.sq (.rg [] [gM 35 6,gA 2 35] [2,6] []) .rt)))
def WK:AC:=.kp [0,3] [] WJ
def O8:bG:=⟨(.sq (.rg [] [gA 2 (.c (.l 89 []))] [0] []) (.sq (.rg [] [gA 3 (kI 0)] [0,3] []) (.sq (.sq (.rg [] [gM 9 0,gp 10 (.ln false 9),gM 11 (kI 0)] [0,3,9,10,11] []) (.bl 0 Mc.lp)) WK))),[.t 2]⟩
def WL:AC:=(.sq (.bl 3 (.sq (.rg [] [gp 27 (.ia 2 none 23 25),gp 28 (.ld (some 2) 27),gp 8 (.al [(.i .i64 0),(.l 3 [])]),gS 2 8 28] [2,8,14,15,16,23,24,25] [2,8]) (.sq (.rg [] [gp 29 (.ld (some 2) 2),gp 30 (.ld (some 2) 8),gp 31 (.ca 0 97 [29,30]),gA 9 31] [2,9,14,15,16,23,24,25] [2]) (.sq (.rg [] [gM 32 9,gB 33 .neq 32 (kI 0)] [2,9,14,15,16,23,24,25,33] [2]) (.ite 33 (.sq (.rg [] [gM 34 9,gA 4 34] [4] []) .rt) .sk))))) (.rg [] [gB 35 .add 25 (kI 1),gM 25 35] [2,14,15,16,23,24,25] [2]))
def WM:AC:=.kp [2,14,15,16,23,24,25] [2] WL
def WN:AC:=(.sq (.rg [] [gB 26 .lss 25 24] [2,14,15,16,23,24,25,26] [2]) (.sq (.ite 26 .sk (.ex 2)) WM))
def Me:bq:=⟨[2,14,15,16,23,24,25],[2],WN⟩
def WO:AC:=(.sq (.rg [] [gM 23 6,gp 24 (.ln false 23),gM 25 (kI 0)] [2,14,15,16,23,24,25] [2]) (.bl 2 Me.lp))
def WQ:AC:=.kp [2,6,14,15,16] [2] WO
def WR:AC:=(.sq (.bl 1 (.sq (.rg [] [gp 18 (.ia 1 none 14 16),gQ 19 18,gA 6 19] [2,6,14,15,16] [2]) (.sq (.sq (.rg [] [gM 20 6,gp 21 (.ln false 20),gB 22 .gtr 21 (kI 4)] [2,6,14,15,16,22] [2]) (.ite 22 (.sq (.rg [] [gA 4 (kI 2)] [4] []) .rt) .sk)) WQ))) (.rg [] [gB 36 .add 16 (kI 1),gM 16 36] [2,14,15,16] [2]))
def WS:AC:=.kp [2,14,15,16] [2] WR
def WT:AC:=(.sq (.rg [] [gB 17 .lss 16 15] [2,14,15,16,17] [2]) (.sq (.ite 17 .sk (.ex 0)) WS))
def Mf:bq:=⟨[2,14,15,16],[2],WT⟩
def O9:bG:=⟨(.sq (.rg [] [gp 2 (.bx 0),gp 3 (.bx 1),gA 4 (kI 0)] [2,3] [2,3]) (.sq (.sq (.rg [] [gF 10 0 3,gQ 11 10,gF 12 1 3,gQ 13 12,gz 14 (.bs 87 1 [11,13]),gp 15 (.ln false 14),gM 16 (kI 0)] [2,14,15,16] [2]) (.bl 0 Mf.lp)) (.sq (.rg [] [gA 4 (kI 0)] [4] []) .rt))),[.t 4]⟩
def Pa:bG:=⟨(.sq (.rg [] [gA 4 (.c (.b false))] [0,1] []) (.sq (.rg [] [gM 5 0,gM 6 1,gp 7 (.c2 98 [5,6]),gB 8 .geq 7 (kI 0),gA 4 8] [4] []) .rt)),[.t 4]⟩
def Pb:bG:=⟨(.sq (.rg [] [gp 1 (.bx 0),gA 2 (.c (.b false))] [1] [1]) (.sq (.rg [] [gF 3 0 1,gQ 4 3,gp 5 (.no 4),gM 6 5,gg 7 (.fa 1 1) 6 true,gg 8 (.fa 0 7) 6 true,gg 9 (.ld none 8) 6 true,gg 10 (.ln false 9) 6 true,gg 11 (.fa 1 1) 6 true,gg 12 (.fa 1 11) 6 true,gg 13 (.ld none 12) 6 true,gg 14 (.ln false 13) 6 true,gg 15 (.bo .add false 10 14) 6 true,gg 16 (.bo .gtr false 15 (kI 0)) 6 true,gp 17 (.pk 6 16 (.c (.b false))),gA 2 17] [2] []) .rt)),[.t 2]⟩
def Pc:bG:=⟨(.sq (.rg [] [gp 3 (.bx 0),gA 5 (.c (.b false))] [1,2] [2]) (.sq (.rg [] [gQ 6 2,gB 7 .add 6 (kI 1),gS 1 2 7] [1,2] [2]) (.sq (.rg [] [gQ 8 2,gB 9 .leq 8 (kI 50),gM 10 9,gg 11 (.mv 1) 10 true,gg 12 (.bo .leq false 11 (kI 6)) 10 true,gp 13 (.pk 10 12 (.c (.b false))),gA 5 13] [5] []) .rt))),[.t 5]⟩
def Pd:bG:=⟨(.sq (.rg [] [gA 4 (.c (.b false))] [0,1] []) (.sq (.rg [] [gM 5 0,gM 6 1,gp 7 (.ca 0 99 [5,6]),gB 8 .geq 7 (kI 0),gA 4 8] [4] []) .rt)),[.t 4]⟩
def Pe:bG:=⟨(.sq (.rg [] [gp 4 (.bx 0),gA 6 (.c (.b false))] [2,3,4] [2,3,4]) (.sq (.rg [] [gQ 7 2,gp 8 (.ld (some 9) 4),gp 9 (.c2 86 [7,8]),gS 1 3 9] [3] [3]) (.sq (.rg [] [gQ 10 3,gB 11 .eql 10 (kI 0),gA 6 11] [6] []) .rt))),[.t 6]⟩
def WU:AC:=(.sq (.bl 2 (.sq (.rg [] [gp 175 (.ia 3 none 171 173),gp 176 (.ld (some 3) 175),gp 13 (.al [(.i .i64 0),(.i .i64 0),(.l 63 [])]),gS 3 13 176] [0,13,171,172,173] [0,13]) (.sq (.dg [] [] [gV (gp 177 (.ld (some 3) 13)) [13] [13] [],gL (gM 178 0) [0] [],gL (gp 179 (.nc 178)) [178] [],gL (gF 180 0 179) [179] [],gL (gF 181 5 180) [180] [],⟨gQ 182 181,true,[181],[],true,[],[],[]⟩,⟨gp 183 (.ln false 182),true,[182],[],true,[],[],[]⟩,gH (gp 184 (.ca 0 47 [177,183])),gH (gA 14 184)] [0,14,171,172,173] [0]) (.sq (.rg [] [gM 185 14,gB 186 .neq 185 (kI 0)] [0,14,171,172,173,186] [0]) (.ite 186 (.sq (.rg [] [gM 187 14,gA 4 187] [4] []) .rt) .sk))))) (.rg [] [gB 188 .add 173 (kI 1),gM 173 188] [0,171,172,173] [0]))
def WV:AC:=.kp [0,171,172,173] [0] WU
def WW:AC:=(.sq (.rg [] [gB 174 .lss 173 172] [0,171,172,173,174] [0]) (.sq (.ite 174 .sk (.ex 1)) WV))
def Mg:bq:=⟨[0,171,172,173],[0],WW⟩
def Mh:AC:=(.sq (.sq (.rg [] [gF 170 6 3,gQ 171 170,gp 172 (.ln false 171),gM 173 (kI 0)] [0,171,172,173] [0]) (.bl 1 Mg.lp)) (.sq (.rg [] [gA 4 (kI 0)] [4] []) .rt))
def WX:AC:=.kp [0,3] [0,3] Mh
def Mi:AC:=(.sq (.sq (.rg [] [gM 157 8] [0,3,157] [0,3]) (.ite 157 (.sq (.dg [] [] [gL (gF 158 3 3) [3] [],gV (gp 159 (.ld (some 3) 158)) [158] [3] [],gL (gM 160 0) [0] [],gL (gp 161 (.nc 160)) [160] [],gL (gF 162 0 161) [161] [],gL (gF 163 5 162) [162] [],⟨gQ 164 163,true,[163],[],true,[],[],[]⟩,⟨gp 165 (.ln false 164),true,[164],[],true,[],[],[]⟩,gH (gp 166 (.ca 0 47 [159,165])),gH (gA 11 166)] [0,3,11] [0,3]) (.sq (.rg [] [gM 167 11,gB 168 .neq 167 (kI 0)] [0,3,11,168] [0,3]) (.ite 168 (.sq (.rg [] [gM 169 11,gA 4 169] [4] []) .rt) .sk))) .sk)) WX)
def WY:AC:=.kp [0,3,8] [0,3] Mi
def WZ:AC:=(.sq (.rg [] [gM 24 5,gp 25 (.ca 0 100 [24]),gM 23 25,gp 26 (.ex 23 0),gp 27 (.ex 23 1),gp 28 (.ex 23 2),gA 6 26,gA 7 27,gA 8 28] [0,3,5,6,7,8] [0,3]) (.sq (.rg [] [gM 29 5,gB 30 .geq 29 (kI 7),gA 9 30] [0,3,5,6,7,8,9] [0,3]) (.sq (.rg [] [gF 31 3 3,gF 32 0 31,gQ 33 32,gB 34 .eql 33 (kI 0),gM 35 34,gg 36 (.fa 3 3) 35 true,gg 37 (.fa 1 36) 35 true,gg 38 (.ld none 37) 35 true,gg 39 (.bo .eql false 38 (kI 0)) 35 true,gp 40 (.pk 35 39 (.c (.b false))),gM 41 40,gg 42 (.fa 3 3) 41 true,gg 43 (.fa 2 42) 41 true,gg 44 (.ld none 43) 41 true,gg 45 (.ln false 44) 41 true,gg 46 (.bo .eql false 45 (kI 0)) 41 true,gp 47 (.pk 41 46 (.c (.b false))),gA 10 47] [0,3,5,6,7,8,9,10] [0,3]) (.sq (.bl 0 (.sq (.dg [] [] [gL (gM 49 6) [6] [],gL (gM 50 49) [49] [],gL (gg 51 (.fa 1 3) 50 true) [3] [],gV (gg 52 (.ld none 51) 50 true) [51] [3] [],gL (gg 53 (.bo .lss false 52 (kI 0)) 50 true) [52] [],gL (gg 54 (.mv 53) 50 true) [53] [],gL (gg 55 (.fa 1 3) 54 false) [3] [],gV (gg 56 (.ld none 55) 54 false) [55] [3] [],gL (gg 57 (.mv 0) 54 false) [0] [],gL (gg 58 (.nc 57) 54 false) [57] [],gL (gg 59 (.fa 0 58) 54 false) [58] [],gL (gg 60 (.fa 5 59) 54 false) [59] [],⟨gg 61 (.ld none 60) 54 false,true,[60],[],true,[],[],[]⟩,⟨gg 62 (.ln false 61) 54 false,true,[61],[],true,[],[],[]⟩,gL (gg 63 (.bo .geq false 56 62) 54 false) [56,62] [],gL (gg 64 (.pk 54 (.c (.b true)) 63) 50 true) [54,63] [],gL (gp 65 (.pk 50 64 (.c (.b false)))) [50,64] [],gL (gM 66 65) [65] [],gL (gg 67 (.mv 7) 66 false) [7] [],gL (gg 68 (.mv 67) 66 false) [67] [],gL (gg 69 (.fa 2 3) 68 true) [3] [],gV (gg 70 (.ld none 69) 68 true) [69] [3] [],gL (gg 71 (.bo .lss false 70 (kI 0)) 68 true) [70] [],gL (gg 72 (.mv 71) 68 true) [71] [],gL (gg 73 (.fa 2 3) 72 false) [3] [],gV (gg 74 (.ld none 73) 72 false) [73] [3] [],gL (gg 75 (.mv 0) 72 false) [0] [],gL (gg 76 (.mv 5) 72 false) [5] [],⟨gg 77 (.c3 101 [75,76]) 72 false,true,[75,76],[],true,[],[],[]⟩,gH (gg 78 (.bo .geq false 74 77) 72 false),gH (gg 79 (.pk 72 (.c (.b true)) 78) 68 true),gH (gg 80 (.pk 68 79 (.c (.b false))) 66 false),gH (gp 81 (.pk 66 (.c (.b true)) 80)),gH (gA 48 81)] [0,3,5,6,7,8,9,10,48] [0,3]) (.ite 48 (.sq (.rg [] [gA 4 (kI 5)] [4] []) .rt) (.sq (.rg [] [gM 83 6,gp 84 (.no 83),gM 85 84,gg 86 (.fa 1 3) 85 true,gg 87 (.ld none 86) 85 true,gg 88 (.bo .neq false 87 (kI 0)) 85 true,gp 89 (.pk 85 88 (.c (.b false))),gM 90 89,gg 91 (.mv 7) 90 false,gg 92 (.no 91) 90 false,gg 93 (.mv 92) 90 false,gg 94 (.fa 2 3) 93 true,gg 95 (.ld none 94) 93 true,gg 96 (.bo .neq false 95 (kI 0)) 93 true,gg 97 (.pk 93 96 (.c (.b false))) 90 false,gp 98 (.pk 90 (.c (.b true)) 97),gM 99 98,gg 100 (.mv 8) 99 false,gg 101 (.no 100) 99 false,gg 102 (.mv 101) 99 false,gg 103 (.mv 10) 102 true,gg 104 (.no 103) 102 true,gg 105 (.pk 102 104 (.c (.b false))) 99 false,gp 106 (.pk 99 (.c (.b true)) 105),gM 107 106,gg 108 (.mv 5) 107 false,gg 109 (.bo .neq false 108 (kI 2)) 107 false,gg 110 (.mv 109) 107 false,gg 111 (.fa 6 3) 110 true,gg 112 (.ld none 111) 110 true,gg 113 (.ln false 112) 110 true,gg 114 (.bo .gtr false 113 (kI 0)) 110 true,gg 115 (.pk 110 114 (.c (.b false))) 107 false,gp 116 (.pk 107 (.c (.b true)) 115),gM 117 116,gg 118 (.mv 9) 117 false,gg 119 (.no 118) 117 false,gg 120 (.mv 119) 117 false,gg 121 (.fa 7 3) 120 true,gg 122 (.ld none 121) 120 true,gg 123 (.ln false 122) 120 true,gg 124 (.bo .gtr false 123 (kI 0)) 120 true,gg 125 (.pk 120 124 (.c (.b false))) 117 false,gp 126 (.pk 117 (.c (.b true)) 125),gM 127 126,gg 128 (.mv 5) 127 false,gg 129 (.bo .neq false 128 (kI 7)) 127 false,gg 130 (.mv 129) 127 false,gg 131 (.fa 8 3) 130 true,gg 132 (.ld none 131) 130 true,gg 133 (.ln false 132) 130 true,gg 134 (.bo .gtr false 133 (kI 0)) 130 true,gg 135 (.pk 130 134 (.c (.b false))) 127 false,gp 136 (.pk 127 (.c (.b true)) 135),gA 82 136] [0,3,5,8,82] [0,3]) (.ite 82 (.sq (.rg [] [gA 4 (kI 1)] [4] []) .rt) (.sq (.dg [] [] [gL (gM 138 5) [5] [],gL (gB 139 .eql 138 (kI 2)) [138] [],gL (gM 140 139) [139] [],gL (gg 141 (.fa 6 3) 140 true) [3] [],gV (gg 142 (.ld none 141) 140 true) [141] [3] [],gV (gg 143 (.ln false 142) 140 true) [142] [3] [],gL (gg 144 (.mv 0) 140 true) [0] [],gL (gg 145 (.nc 144) 140 true) [144] [],gL (gg 146 (.fa 0 145) 140 true) [145] [],gL (gg 147 (.fa 6 146) 140 true) [146] [],⟨gg 148 (.ld none 147) 140 true,true,[147],[],true,[],[],[]⟩,gL (gg 149 (.fa 2 3) 140 true) [3] [],gV (gg 150 (.ld none 149) 140 true) [149] [3] [],⟨gg 151 (.ia 5 none 148 150) 140 true,true,[148,150],[],true,[],[],[]⟩,⟨gg 152 (.fa 0 151) 140 true,true,[151],[],true,[],[],[]⟩,⟨gg 153 (.ld none 152) 140 true,true,[152],[],true,[],[],[]⟩,gL (gg 154 (.ln false 153) 140 true) [153] [],gH (gg 155 (.bo .neq false 143 154) 140 true),gH (gp 156 (.pk 140 155 (.c (.b false)))),gH (gA 137 156)] [0,3,8,137] [0,3]) (.ite 137 (.sq (.rg [] [gA 4 (kI 1)] [4] []) .rt) .sk))))))) WY))))
def W0:AC:=.kp [0,3,5] [0,3] WZ
def Pf:bG:=⟨(.sq (.rg [] [gp 3 (.bx 1),gA 4 (kI 0)] [0,3] [0,3]) (.sq (.rg [] [gF 15 0 3,gQ 16 15,gA 5 16] [0,3,5] [0,3]) (.sq (.sq (.rg [] [gM 17 5,gB 18 .lss 17 (kI 1),gM 19 18,gg 20 (.mv 5) 19 false,gg 21 (.bo .gtr false 20 (kI 8)) 19 false,gp 22 (.pk 19 (.c (.b true)) 21)] [0,3,5,22] [0,3]) (.ite 22 (.sq (.rg [] [gA 4 (kI 7)] [4] []) .rt) .sk)) W0))),[.t 4]⟩
def W1:AC:=(.sq (.rg [] [gM 17 0,gp 18 (.nc 17),gF 19 11 18,gF 20 3 19,gQ 21 20,gB 22 .add 21 (kI 1),gp 23 (.nc 17),gF 24 11 23,gF 25 3 24,gS 1 25 22] [] []) (.sq (.rg [] [gA 2 (.c (.b true))] [2] []) .rt))
def W2:AC:=.kp [0] [0] W1
def Pg:bG:=⟨(.sq (.rg [] [gA 2 (.c (.b false))] [0] [0]) (.sq (.sq (.dg [] [] [gL (gM 3 0) [0] [],gL (gp 4 (.nc 3)) [3] [],gL (gF 5 11 4) [4] [],gL (gF 6 3 5) [5] [],⟨gQ 7 6,true,[6],[],true,[],[],[]⟩,gL (gM 8 0) [0] [],gL (gp 9 (.nc 8)) [8] [],gL (gF 10 9 9) [9] [],⟨gQ 11 10,true,[10],[],true,[],[],[]⟩,gH (gB 12 .eql 7 11)] [0,12] [0]) (.ite 12 (.sq (.rg [] [gM 13 0,gp 14 (.nc 13),gF 15 11 14,gF 16 4 15,gS 1 16 (kI 2)] [] []) (.sq (.rg [] [gA 2 (.c (.b false))] [2] []) .rt)) .sk)) W2)),[.t 2]⟩
def W3:AC:=(.sq (.rg [] [gM 29 0,gp 30 (.ld (some 9) 3),gp 31 (.c2 103 [29,30])] [] []) (.sq (.rg [] [gA 4 (.c (.b true))] [4] []) .rt))
def W4:AC:=.kp [0,3] [0,3] W3
def Ph:bG:=⟨(.sq (.rg [] [gp 3 (.bx 1),gA 4 (.c (.b false))] [0,3] [0,3]) (.sq (.rg [] [gM 5 0,gp 6 (.ld (some 9) 3),gp 7 (.c2 102 [5,6])] [0,3] [0,3]) (.sq (.sq (.dg [] [] [gL (gM 8 0) [0] [],gL (gM 9 0) [0] [],gL (gp 10 (.nc 9)) [9] [],gL (gF 11 0 10) [10] [],gL (gF 12 6 11) [11] [],⟨gQ 13 12,true,[12],[],true,[],[],[]⟩,gL (gF 14 2 3) [3] [],gV (gQ 15 14) [14] [3] [],⟨gp 16 (.ia 5 none 13 15),true,[13,15],[],true,[],[],[]⟩,⟨gF 17 1 16,true,[16],[],true,[],[],[]⟩,⟨gQ 18 17,true,[17],[],true,[],[],[]⟩,gL (gM 19 0) [0] [],gL (gp 20 (.nc 19)) [19] [],gL (gF 21 10 20) [20] [],⟨gQ 22 21,true,[21],[],true,[],[],[]⟩,gL (gF 23 2 3) [3] [],gV (gQ 24 23) [23] [3] [],⟨gp 25 (.ia 1 none 22 24),true,[22,24],[],true,[],[],[]⟩,⟨gQ 26 25,true,[25],[],true,[],[],[]⟩,gH (gp 27 (.c2 32 [8,18,26])),gH (gp 28 (.no 27))] [0,3,28] [0,3]) (.ite 28 (.sq (.rg [] [gA 4 (.c (.b false))] [4] []) .rt) .sk)) W4))),[.t 4]⟩
def W5:AC:=(.bl 1 (.sq (.rg [] [gM 27 0,gF 28 7 4,gQ 29 28,gM 30 2,gB 31 .add 30 (kI 1),gp 32 (.c2 32 [27,29,31]),gp 33 (.no 32),gM 34 33,gg 35 (.mv 0) 34 false,gg 36 (.c2 87 [35]) 34 false,gg 37 (.no 36) 34 false,gp 38 (.pk 34 (.c (.b true)) 37)] [0,2,4,38] [0,4]) (.ite 38 (.sq (.rg [] [gA 6 (.c (.b false))] [6] []) .rt) .sk)))
def W6:AC:=.kp [0,2,4] [0,4] W5
def W7:AC:=(.sq (.sq (.rg [] [gM 23 0,gF 24 3 4,gp 25 (.ld (some 3) 24),gp 26 (.c3 105 [23,25])] [0,2,4,26] [0,4]) (.ite 26 .sk (.ex 0))) W6)
def Mj:bq:=⟨[0,2,4],[0,4],W7⟩
def W8:AC:=(.sq (.bl 0 Mj.lp) (.sq (.rg [] [gA 6 (.c (.b true))] [6] []) .rt))
def W9:AC:=.kp [0,2,4] [0,4] W8
def Pj:bG:=⟨(.sq (.rg [] [gp 4 (.bx 1),gA 6 (.c (.b false))] [0,2,4] [0,4]) (.sq (.sq (.rg [] [gF 9 0 4,gQ 10 9,gB 11 .eql 10 (kI 7)] [0,2,4,11] [0,4]) (.ite 11 (.sq (.rg [] [gM 13 0,gp 14 (.ld (some 9) 4),gM 15 2,gp 16 (.c3 104 [13,14,15]),gM 12 16,gp 17 (.ex 12 0),gp 18 (.ex 12 1),gA 7 17,gA 8 18] [0,7,8] [0]) (.sq (.rg [] [gM 19 0,gM 20 7,gM 21 8,gp 22 (.c2 32 [19,20,21]),gA 6 22] [6] []) .rt)) .sk)) W9)),[.t 6]⟩
def Mk:AC:=(.sq (.dg [] [] [gL (gM 44 0) [0] [],gL (gp 45 (.nc 44)) [44] [],gL (gF 46 11 45) [45] [],gL (gF 47 2 46) [46] [],⟨gQ 48 47,true,[47],[],true,[],[],[]⟩,gL (gF 49 2 4) [4] [],gV (gQ 50 49) [49] [4] [],gH (gp 51 (.ia 1 none 48 50)),gH (gQ 52 51),gH (gB 53 .add 52 (kI 1)),gH (gp 54 (.ia 1 none 48 50)),gH (gS 1 54 53)] [0,4,6] [0,4]) (.sq (.dg [] [] [gL (gM 55 0) [0] [],gL (gp 56 (.nc 55)) [55] [],gL (gF 57 11 56) [56] [],gL (gF 58 1 57) [57] [],⟨gQ 59 58,true,[58],[],true,[],[],[]⟩,gL (gF 60 1 4) [4] [],gV (gQ 61 60) [60] [4] [],gL (gM 62 6) [6] [],gH (gp 63 (.ia 1 none 59 61)),gH (gS 1 63 62)] [] []) .rt))
def Xa:AC:=.kp [0,4,6] [0,4] Mk
def Ml:AC:=(.sq (.rg [] [gF 84 0 4,gQ 85 84] [0,2,4,8,85] [0,4]) (.bl 0 (.sq (.rg [] [gB 87 .eql 85 (kI 4),gA 86 87] [0,2,4,8,85,86] [0,4]) (.ite 86 (.rg [] [gM 88 0,gM 89 2,gF 90 2 4,gQ 91 90,gM 92 8,gp 93 (.c2 106 [88,(kI 1),89,91,92])] [] []) (.sq (.rg [] [gB 95 .eql 85 (kI 5),gA 94 95] [0,2,4,8,85,94] [0,4]) (.ite 94 (.rg [] [gM 96 0,gM 97 2,gF 98 1 4,gQ 99 98,gM 100 8,gp 101 (.c2 106 [96,(kI 2),97,99,100])] [] []) (.sq (.rg [] [gB 103 .eql 85 (kI 6),gA 102 103] [0,2,4,8,102] [0,4]) (.ite 102 (.rg [] [gM 104 0,gM 105 2,gF 106 1 4,gQ 107 106,gM 108 8,gp 109 (.c2 106 [104,(kI 3),105,107,108])] [] []) .sk))))))))
def Xb:AC:=.kp [0,2,4,8] [0,4] Ml
def Xc:AC:=(.sq (.dg [] [] [gL (gF 64 3 4) [4] [],gV (gp 65 (.ld (some 3) 64)) [64] [4] [],gL (gM 66 0) [0] [],gL (gp 67 (.nc 66)) [66] [],gL (gF 68 11 67) [67] [],gL (gF 69 1 68) [68] [],⟨gQ 70 69,true,[69],[],true,[],[],[]⟩,gH (gp 71 (.ca 0 49 [65,70])),gH (gA 8 71)] [0,2,4,8] [0,4]) (.sq (.sq (.rg [] [gF 72 0 4,gQ 73 72,gB 74 .neq 73 (kI 4)] [0,2,4,8,74] [0,4]) (.ite 74 (.dg [] [] [gL (gM 75 0) [0] [],gL (gp 76 (.nc 75)) [75] [],gL (gF 77 11 76) [76] [],gL (gF 78 1 77) [77] [],⟨gQ 79 78,true,[78],[],true,[],[],[]⟩,gL (gF 80 1 4) [4] [],gV (gQ 81 80) [80] [4] [],gL (gM 82 8) [8] [],gH (gp 83 (.ia 1 none 79 81)),gH (gS 1 83 82)] [0,2,4,8] [0,4]) .sk)) Xb))
def Xd:AC:=.kp [0,2,4] [0,4] Xc
def Pk:bG:=⟨(.sq (.rg [] [gp 4 (.bx 1)] [0,2,4] [0,4]) (.sq (.sq (.rg [] [gF 9 0 4,gQ 10 9,gB 11 .eql 10 (kI 3)] [0,2,4,11] [0,4]) (.ite 11 (.sq (.dg [] [] [gL (gM 12 0) [0] [],gL (gp 13 (.nc 12)) [12] [],gL (gF 14 8 13) [13] [],⟨gQ 15 14,true,[14],[],true,[],[],[]⟩,gL (gF 16 2 4) [4] [],gV (gQ 17 16) [16] [4] [],⟨gp 18 (.ia 1 none 15 17),true,[15,17],[],true,[],[],[]⟩,⟨gQ 19 18,true,[18],[],true,[],[],[]⟩,gL (gA 6 (kI 0)) [] [],gH (gA 7 19)] [0,4,6,7] [0,4]) (.sq (.sq (.dg [] [] [gL (gM 20 0) [0] [],gL (gp 21 (.nc 20)) [20] [],gL (gF 22 11 21) [21] [],gL (gF 23 2 22) [22] [],⟨gQ 24 23,true,[23],[],true,[],[],[]⟩,gL (gF 25 2 4) [4] [],gV (gQ 26 25) [25] [4] [],⟨gp 27 (.ia 1 none 24 26),true,[24,26],[],true,[],[],[]⟩,⟨gQ 28 27,true,[27],[],true,[],[],[]⟩,gL (gM 29 7) [7] [],gL (gp 30 (.ln false 29)) [29] [],gH (gB 31 .lss 28 30)] [0,4,6,7,31] [0,4]) (.ite 31 (.dg [] [] [gL (gM 32 7) [7] [],gL (gM 33 0) [0] [],gL (gp 34 (.nc 33)) [33] [],gL (gF 35 11 34) [34] [],gL (gF 36 2 35) [35] [],⟨gQ 37 36,true,[36],[],true,[],[],[]⟩,gL (gF 38 2 4) [4] [],gV (gQ 39 38) [38] [4] [],⟨gp 40 (.ia 1 none 37 39),true,[37,39],[],true,[],[],[]⟩,⟨gQ 41 40,true,[40],[],true,[],[],[]⟩,gH (gp 42 (.ia 1 none 32 41)),gH (gQ 43 42),gH (gA 6 43)] [0,4,6] [0,4]) .sk)) Xa)) .sk)) Xd)),[]⟩
def Xe:AC:=(.sq (.bl 3 (.dg [] [] [gL (gM 34 8) [8] [],gL (gM 35 34) [34] [],gV (gg 36 (.ld (some 2) 3) 35 false) [3] [3] [],gL (gg 37 (.mv 1) 35 false) [1] [],gL (gg 38 (.mv 2) 35 false) [2] [],gL (gg 39 (.mv 7) 35 false) [7] [],gL (gg 40 (.ia 2 none 38 39) 35 false) [38,39] [],gL (gg 41 (.fa 1 40) 35 false) [40] [],gL (gg 42 (.ld none 41) 35 false) [41] [],gL (gg 43 (.mv 9) 35 false) [9] [],gL (gg 44 (.ia 1 none 42 43) 35 false) [42,43] [],gL (gg 45 (.ld none 44) 35 false) [44] [],gH (gg 46 (.ca 0 107 [36,37,45]) 35 false),gH (gp 47 (.pk 35 (.c (.b true)) 46)),gH (gA 8 47)] [1,2,3,7,8,9] [3])) (.rg [] [gM 32 9,gB 33 .add 32 (kI 1),gA 9 33] [1,2,3,7,8,9] [3]))
def Xf:AC:=.kp [1,2,3,7,8,9] [3] Xe
def Xg:AC:=(.sq (.sq (.rg [] [gM 24 9,gM 25 2,gM 26 7,gp 27 (.ia 2 none 25 26),gF 28 1 27,gQ 29 28,gp 30 (.ln false 29),gB 31 .lss 24 30] [1,2,3,7,8,9,31] [3]) (.ite 31 .sk (.ex 2))) Xf)
def Xh:bq:=⟨[1,2,3,7,8,9],[3],Xg⟩
def Xi:AC:=(.sq (.rg [] [gM 48 8,gp 49 (.no 48)] [1,2,3,7,49] [3]) (.ite 49 (.sq (.rg [] [gA 6 (.c (.b false))] [6] []) .rt) .sk))
def Xj:AC:=.kp [1,2,3,7,8] [3] Xi
def Xk:AC:=(.sq (.bl 1 (.sq (.dg [] [] [gV (gp 16 (.ld (some 2) 3)) [3] [3] [],gL (gM 17 1) [1] [],gL (gM 18 2) [2] [],gL (gM 19 7) [7] [],gL (gp 20 (.ia 2 none 18 19)) [18,19] [],gL (gF 21 0 20) [20] [],gL (gQ 22 21) [21] [],gH (gp 23 (.ca 0 107 [16,17,22])),gH (gA 8 23)] [1,2,3,7,8] [3]) (.sq (.sq (.rg [] [gA 9 (kI 0)] [1,2,3,7,8,9] [3]) (.bl 2 Xh.lp)) Xj))) (.rg [] [gM 14 7,gB 15 .add 14 (kI 1),gA 7 15] [1,2,3,7] [3]))
def Xl:AC:=.kp [1,2,3,7] [3] Xk
def Xm:AC:=(.sq (.sq (.rg [] [gM 10 7,gM 11 2,gp 12 (.ln false 11),gB 13 .lss 10 12] [1,2,3,7,13] [3]) (.ite 13 .sk (.ex 0))) Xl)
def Xn:bq:=⟨[1,2,3,7],[3],Xm⟩
def ZO:bG:=⟨(.sq (.rg [] [gp 3 (.bx 0),gA 6 (.c (.b false))] [1,2,3] [3]) (.sq (.sq (.rg [] [gA 7 (kI 0)] [1,2,3,7] [3]) (.bl 0 Xn.lp)) (.sq (.rg [] [gA 6 (.c (.b true))] [6] []) .rt))),[.t 6]⟩
def Xo:AC:=(.sq (.bl 1 (.sq (.dg [] [] [gV (gp 12 (.ld (some 8) 2)) [2] [2] [],gL (gM 13 1) [1] [],gL (gM 14 5) [5] [],gL (gp 15 (.ia 2 none 13 14)) [13,14] [],gL (gF 16 0 15) [15] [],gL (gQ 17 16) [16] [],gH (gp 18 (.ca 0 108 [12,17])),gH (gp 19 (.no 18))] [1,2,5,19] [2]) (.ite 19 (.sq (.rg [] [gA 4 (.c (.b true))] [4] []) .rt) .sk))) (.rg [] [gM 10 5,gB 11 .add 10 (kI 1),gA 5 11] [1,2,5] [2]))
def Xp:AC:=.kp [1,2,5] [2] Xo
def Xq:AC:=(.sq (.sq (.rg [] [gM 6 5,gM 7 1,gp 8 (.ln false 7),gB 9 .lss 6 8] [1,2,5,9] [2]) (.ite 9 .sk (.ex 0))) Xp)
def Xr:bq:=⟨[1,2,5],[2],Xq⟩
def ZP:bG:=⟨(.sq (.rg [] [gp 2 (.bx 0),gA 4 (.c (.b false))] [1,2] [2]) (.sq (.sq (.rg [] [gA 5 (kI 0)] [1,2,5] [2]) (.bl 0 Xr.lp)) (.sq (.rg [] [gA 4 (.c (.b false))] [4] []) .rt))),[.t 4]⟩
def Mm:AC:=(.sq (.bl 0 (.sq (.rg [] [gF 18 2 2,gQ 19 18,gp 20 (.ln false 19),gM 21 5,gB 22 .neq 20 21,gA 17 22] [1,2,5,17] [2]) (.ite 17 (.sq (.rg [] [gA 4 (kI 1)] [4] []) .rt) (.sq (.rg [] [gF 24 0 2,gQ 25 24,gB 26 .eql 25 (kI 1),gM 27 26,gg 28 (.fa 1 2) 27 true,gg 29 (.ld none 28) 27 true,gg 30 (.bo .lss false 29 (kI (-9999999))) 27 true,gg 31 (.mv 30) 27 true,gg 32 (.fa 1 2) 31 false,gg 33 (.ld none 32) 31 false,gg 34 (.bo .gtr false 33 (kI 9999999)) 31 false,gg 35 (.pk 31 (.c (.b true)) 34) 27 true,gp 36 (.pk 27 35 (.c (.b false))),gM 37 36,gg 38 (.mv 5) 37 false,gg 39 (.bo .gtr false 38 (kI 0)) 37 false,gg 40 (.mv 39) 37 false,gg 41 (.fa 1 2) 40 true,gg 42 (.ld none 41) 40 true,gg 43 (.bo .neq false 42 (kI 0)) 40 true,gg 44 (.pk 40 43 (.c (.b false))) 37 false,gp 45 (.pk 37 (.c (.b true)) 44),gA 23 45] [1,2,23] [2]) (.ite 23 (.sq (.rg [] [gA 4 (kI 3)] [4] []) .rt) (.sq (.rg [] [gF 47 0 2,gQ 48 47,gB 49 .eql 48 (kI 2),gM 50 49,gg 51 (.fa 1 2) 50 true,gg 52 (.ld none 51) 50 true,gg 53 (.bo .lss false 52 (kI 0)) 50 true,gg 54 (.mv 53) 50 true,gg 55 (.fa 1 2) 54 false,gg 56 (.ld none 55) 54 false,gg 57 (.mv 1) 54 false,gg 58 (.bo .geq false 56 57) 54 false,gg 59 (.pk 54 (.c (.b true)) 58) 50 true,gp 60 (.pk 50 59 (.c (.b false))),gA 46 60] [46] []) (.ite 46 (.sq (.rg [] [gA 4 (kI 5)] [4] []) .rt) .sk))))))) (.sq (.rg [] [gA 4 (kI 0)] [4] []) .rt))
def Xs:AC:=.kp [1,2,5] [2] Mm
def Xt:AC:=(.sq (.rg [] [gA 5 (kI 0)] [1,2,5] [2]) (.sq (.sq (.rg [] [gF 14 0 2,gQ 15 14,gB 16 .gtr 15 (kI 2)] [1,2,5,16] [2]) (.ite 16 (.rg [] [gA 5 (kI 2)] [1,2,5] [2]) .sk)) Xs))
def Xu:AC:=.kp [1,2] [2] Xt
def Pm:bG:=⟨(.sq (.rg [] [gp 2 (.bx 0),gA 4 (kI 0)] [1,2] [2]) (.sq (.sq (.rg [] [gF 6 0 2,gQ 7 6,gB 8 .lss 7 (kI 1),gM 9 8,gg 10 (.fa 0 2) 9 false,gg 11 (.ld none 10) 9 false,gg 12 (.bo .gtr false 11 (kI 7)) 9 false,gp 13 (.pk 9 (.c (.b true)) 12)] [1,2,13] [2]) (.ite 13 (.sq (.rg [] [gA 4 (kI 7)] [4] []) .rt) .sk)) Xu)),[.t 4]⟩
def Pn:bG:=⟨(.sq (.rg [] [gA 4 (.c (.b false))] [0,1] []) (.sq (.rg [] [gM 5 0,gM 6 1,gp 7 (.c2 109 [5,6]),gB 8 .geq 7 (kI 0),gA 4 8] [4] []) .rt)),[.t 4]⟩
def Po:bG:=⟨(.sq (.rg [] [gp 2 (.bx 0),gA 3 (.c (.b false))] [1,2] [1,2]) (.sq (.rg [] [gp 4 (.ld (some 2) 1),gF 5 0 2,gQ 6 5,gp 7 (.ca 0 78 [4,6]),gp 8 (.no 7),gM 9 8,gg 10 (.ld (some 2) 1) 9 false,gg 11 (.fa 1 2) 9 false,gg 12 (.ld none 11) 9 false,gg 13 (.ca 0 78 [10,12]) 9 false,gg 14 (.no 13) 9 false,gp 15 (.pk 9 (.c (.b true)) 14),gA 3 15] [3] []) .rt)),[.t 3]⟩
def Xv:AC:=(.sq (.bl 2 (.sq (.dg [] [] [gL (gF 29 1 3) [3] [],gV (gQ 30 29) [29] [3] [],gL (gM 31 5) [5] [],gV (gp 32 (.ia 1 none 30 31)) [30,31] [3] [],gV (gQ 33 32) [32] [3] [],gL (gF 34 1 3) [3] [],gV (gQ 35 34) [34] [3] [],gL (gM 36 5) [5] [],gL (gB 37 .sub 36 (kI 1)) [36] [],gV (gp 38 (.ia 1 none 35 37)) [35,37] [3] [],gV (gQ 39 38) [38] [3] [],gH (gB 40 .leq 33 39)] [3,5,40] [3]) (.ite 40 (.sq (.rg [] [gA 4 (kI 4)] [4] []) .rt) .sk))) (.rg [] [gM 27 5,gB 28 .add 27 (kI 1),gA 5 28] [3,5] [3]))
def Xw:AC:=.kp [3,5] [3] Xv
def Xx:AC:=(.sq (.sq (.rg [] [gM 22 5,gF 23 1 3,gQ 24 23,gp 25 (.ln false 24),gB 26 .lss 22 25] [3,5,26] [3]) (.ite 26 .sk (.ex 1))) Xw)
def Mn:bq:=⟨[3,5],[3],Xx⟩
def Xy:AC:=(.sq (.sq (.rg [] [gA 5 (kI 1)] [3,5] [3]) (.bl 1 Mn.lp)) (.sq (.rg [] [gA 4 (kI 0)] [4] []) .rt))
def Xz:AC:=.kp [3] [3] Xy
def Pp:bG:=⟨(.sq (.rg [] [gp 2 (.bx 0),gp 3 (.bx 1),gA 4 (kI 0)] [2,3] [2,3]) (.sq (.bl 0 (.sq (.rg [] [gp 7 (.ld (some 2) 2),gF 8 0 3,gQ 9 8,gp 10 (.ca 0 78 [7,9]),gp 11 (.no 10),gA 6 11] [2,3,6] [2,3]) (.ite 6 (.sq (.rg [] [gA 4 (kI 5)] [4] []) .rt) (.sq (.rg [] [gF 13 1 3,gQ 14 13,gp 15 (.ln false 14),gB 16 .gtr 15 (kI 6),gA 12 16] [2,3,12] [2,3]) (.ite 12 (.sq (.rg [] [gA 4 (kI 2)] [4] []) .rt) (.sq (.rg [.fzB 2 true] [gF 18 1 3,gQ 19 18,gp 20 (.mf 110 [2]),gp 21 (.c2 28 [19,20]),gA 17 21] [3,17] [3]) (.ite 17 (.sq (.rg [] [gA 4 (kI 5)] [4] []) .rt) .sk))))))) Xz)),[.t 4]⟩
def XA:AC:=(.sq (.bl 1 (.sq (.rg [] [gM 10 8,gA 5 10] [0,1,5,7,8] []) (.sq (.rg [] [gM 11 1,gM 12 0,gM 13 5,gp 14 (.ia 3 none 12 13),gp 15 (.ld (some 3) 14),gp 16 (.cf 0 11 [15])] [0,1,5,7,8,16] []) (.ite 16 (.sq (.rg [] [gM 17 5,gA 4 17] [4] []) .rt) .sk)))) (.rg [] [gB 18 .add 8 (kI 1),gM 8 18] [0,1,7,8] []))
def XB:AC:=.kp [0,1,7,8] [] XA
def XC:AC:=(.sq (.rg [] [gB 9 .lss 8 7] [0,1,7,8,9] []) (.sq (.ite 9 .sk (.ex 0)) XB))
def Mo:bq:=⟨[0,1,7,8],[],XC⟩
def Pq:bG:=⟨(.sq (.rg [] [gA 4 (kI 0)] [0,1] []) (.sq (.sq (.rg [] [gM 6 0,gp 7 (.ln false 6),gM 8 (kI 0)] [0,1,7,8] []) (.bl 0 Mo.lp)) (.sq (.rg [] [gA 4 (kI (-1))] [4] []) .rt))),[.t 4]⟩
def XD:AC:=(.sq (.bl 1 (.sq (.rg [] [gM 10 8,gA 5 10] [0,1,5,7,8] []) (.sq (.rg [] [gM 11 1,gM 12 0,gM 13 5,gp 14 (.ia 1 none 12 13),gQ 15 14,gB 16 .eql 11 15] [0,1,5,7,8,16] []) (.ite 16 (.sq (.rg [] [gM 17 5,gA 4 17] [4] []) .rt) .sk)))) (.rg [] [gB 18 .add 8 (kI 1),gM 8 18] [0,1,7,8] []))
def XG:AC:=.kp [0,1,7,8] [] XD
def XH:AC:=(.sq (.rg [] [gB 9 .lss 8 7] [0,1,7,8,9] []) (.sq (.ite 9 .sk (.ex 0)) XG))
def Mp:bq:=⟨[0,1,7,8],[],XH⟩
def Pr:bG:=⟨(.sq (.rg [] [gA 4 (kI 0)] [0,1] []) (.sq (.sq (.rg [] [gM 6 0,gp 7 (.ln false 6),gM 8 (kI 0)] [0,1,7,8] []) (.bl 0 Mp.lp)) (.sq (.rg [] [gA 4 (kI (-1))] [4] []) .rt))),[.t 4]⟩
def Kb:bG:=⟨(.sq (.rg [] [gA 2 (.c (.b false)),gA 3 (.c (.b false)),gA 4 (.c (.b false))] [0] []) (.sq (.rg [] [gM 7 0,gB 8 .neq 7 (kI 4),gM 9 8,gg 10 (.mv 0) 9 true,gg 11 (.bo .lss false 10 (kI 7)) 9 true,gp 12 (.pk 9 11 (.c (.b false))),gA 5 12] [0,5] []) (.sq (.rg [] [gM 13 0,gB 14 .geq 13 (kI 2),gM 15 14,gg 16 (.mv 0) 15 true,gg 17 (.bo .leq false 16 (kI 4)) 15 true,gp 18 (.pk 15 17 (.c (.b false))),gA 6 18] [0,5,6] []) (.sq (.rg [] [gM 19 5,gM 20 6,gM 21 0,gB 22 .neq 21 (kI 2),gM 23 22,gg 24 (.mv 0) 23 true,gg 25 (.bo .neq false 24 (kI 3)) 23 true,gp 26 (.pk 23 25 (.c (.b false))),gA 2 19,gA 3 20,gA 4 26] [2,3,4] []) .rt)))),[.t 2,.t 3,.t 4]⟩
def Ps:AC:=(.sq (.rg [] [gM 20 0,gp 21 (.nc 20),gF 22 0 21,gF 23 4 22,gQ 24 23,gp 25 (.ln false 24),gA 4 25] [4] []) .rt)
def Pt:AC:=.kp [0] [0] Ps
def Kc:bG:=⟨(.sq (.rg [] [gA 4 (kI 0)] [0,1] [0]) (.sq (.sq (.rg [] [gM 5 1] [0,5] [0]) (.bl 0 (.sq (.rg [] [gB 7 .eql 5 (kI 2),gA 6 7] [0,5,6] [0]) (.ite 6 (.sq (.rg [] [gM 8 0,gp 9 (.nc 8),gF 10 8 9,gQ 11 10,gA 4 11] [4] []) .rt) (.sq (.rg [] [gB 13 .eql 5 (kI 3),gA 12 13] [0,12] [0]) (.ite 12 (.sq (.rg [] [gM 14 0,gp 15 (.nc 14),gF 16 0 15,gF 17 3 16,gQ 18 17,gp 19 (.ln false 18),gA 4 19] [4] []) .rt) .sk)))))) Pt)),[.t 4]⟩
def Pu:AC:=(.sq (.bl 1 (.sq (.rg [] [gp 14 (.ia 3 none 10 12),gp 15 (.ld (some 3) 14),gp 6 (.al [(.i .i64 0),(.i .i64 0),(.l 63 [])]),gS 3 6 15] [0,3,4,6,10,11,12] [0,3,6]) (.dg [] [24] [gL (gM 16 4) [4] [24],gV (gp 17 (.ld (some 3) 6)) [6] [6] [24],gL (gM 18 0) [0] [24],gL (gp 19 (.nc 18)) [18] [24],gL (gF 20 11 19) [19] [24],gL (gF 21 1 20) [20] [24],⟨gQ 22 21,true,[21],[],true,[],[24],[]⟩,⟨gp 23 (.ca 0 49 [17,22]),true,[17,22],[],true,[],[24],[]⟩,gL (gz 24 (.bs 3 1 [23])) [23] [],gH (gp 25 (.ap 3 1 8 16 24)),gH (gA 4 25)] [0,3,4,10,11,12] [0,3]))) (.rg [] [gB 26 .add 12 (kI 1),gM 12 26] [0,3,4,10,11,12] [0,3]))
def Pv:AC:=.kp [0,3,4,10,11,12] [0,3] Pu
def Pw:AC:=(.sq (.rg [] [gB 13 .lss 12 11] [0,3,4,10,11,12,13] [0,3]) (.sq (.ite 13 .sk (.ex 0)) Pv))
def Jk:bq:=⟨[0,3,4,10,11,12],[0,3],Pw⟩
def Px:AC:=(.sq (.bl 3 (.sq (.rg [] [gM 40 38,gp 41 (.ia 1 none 36 38),gQ 42 41,gA 7 40,gA 8 42] [0,4,7,8,36,37,38] [0]) (.dg [] [] [gL (gM 43 0) [0] [],gL (gp 44 (.nc 43)) [43] [],gL (gF 45 11 44) [44] [],gL (gF 46 1 45) [45] [],⟨gQ 47 46,true,[46],[],true,[],[],[]⟩,gL (gM 48 8) [8] [],gL (gM 49 4) [4] [],gL (gM 50 7) [7] [],gL (gp 51 (.ia 1 none 49 50)) [49,50,4] [],gL (gQ 52 51) [51,4] [],gH (gp 53 (.ia 1 none 47 48)),gH (gS 1 53 52)] [0,4,36,37,38] [0]))) (.rg [] [gB 54 .add 38 (kI 1),gM 38 54] [0,4,36,37,38] [0]))
def Py:AC:=.kp [0,4,36,37,38] [0] Px
def Pz:AC:=(.sq (.rg [] [gB 39 .lss 38 37] [0,4,36,37,38,39] [0]) (.sq (.ite 39 .sk (.ex 2)) Py))
def Jl:bq:=⟨[0,4,36,37,38],[0],Pz⟩
def PA:AC:=(.sq (.dg [] [] [gL (gM 27 0) [0] [],gL (gp 28 (.nc 27)) [27] [],gL (gF 29 0 28) [28] [],gL (gF 30 6 29) [29] [],⟨gQ 31 30,true,[30],[],true,[],[],[]⟩,gL (gF 32 2 3) [3] [],gV (gQ 33 32) [32] [3] [],⟨gp 34 (.ia 5 none 31 33),true,[31,33],[],true,[],[],[]⟩,⟨gF 35 0 34,true,[34],[],true,[],[],[]⟩,⟨gQ 36 35,true,[35],[],true,[],[],[]⟩,gL (gp 37 (.ln false 36)) [36] [],gL (gM 38 (kI 0)) [] []] [0,4,36,37,38] [0]) (.bl 2 Jl.lp))
def PB:AC:=.kp [0,3,4] [0,3] PA
def Kd:bG:=⟨(.sq (.rg [] [gp 3 (.bx 1)] [0,3] [0,3]) (.sq (.rg [] [gA 4 (.c .n)] [0,3,4] [0,3]) (.sq (.sq (.rg [.own 4 3] [gF 9 6 3,gQ 10 9,gp 11 (.ln false 10),gM 12 (kI 0)] [0,3,4,10,11,12] [0,3]) (.bl 0 Jk.lp)) PB))),[]⟩
def Ke:bG:=⟨(.sq (.rg [] [gp 3 (.bx 1)] [0,3] [0,3]) (.dg [] [] [gL (gM 4 0) [0] [],gL (gp 5 (.nc 4)) [4] [],gL (gF 6 11 5) [5] [],gL (gF 7 1 6) [6] [],⟨gQ 8 7,true,[7],[],true,[],[],[]⟩,gL (gF 9 1 3) [3] [],gV (gQ 10 9) [9] [3] [],gL (gM 11 0) [0] [],gL (gp 12 (.nc 11)) [11] [],gL (gF 13 0 12) [12] [],gL (gF 14 6 13) [13] [],⟨gQ 15 14,true,[14],[],true,[],[],[]⟩,gL (gF 16 2 3) [3] [],gV (gQ 17 16) [16] [3] [],⟨gp 18 (.ia 5 none 15 17),true,[15,17],[],true,[],[],[]⟩,⟨gF 19 2 18,true,[18],[],true,[],[],[]⟩,⟨gp 20 (.ld (some 3) 19),true,[19],[],true,[],[],[]⟩,gL (gM 21 0) [0] [],gL (gp 22 (.nc 21)) [21] [],gL (gF 23 11 22) [22] [],gL (gF 24 1 23) [23] [],⟨gQ 25 24,true,[24],[],true,[],[],[]⟩,⟨gp 26 (.ca 0 49 [20,25]),true,[20,25],[],true,[],[],[]⟩,gH (gp 27 (.ia 1 none 8 10)),gH (gS 1 27 26)] [] [])),[]⟩
def PC:AC:=(.sq (.dg [] [] [gL (gF 16 8 4) [4] [],gV (gQ 17 16) [16] [4] [],gL (gM 18 2) [2] [],gL (gB 19 .add 18 (kI 1)) [18] [],gL (gF 20 7 4) [4] [],gV (gQ 21 20) [20] [4] [],gV (gp 22 (.ca 0 31 [21])) [21] [4] [],gL (gB 23 .add 19 22) [19,22] [],gL (gA 6 17) [17] [],gH (gA 7 23)] [6,7] []) .rt)
def PD:AC:=.kp [2,4] [4] PC
def Kf:bG:=⟨(.sq (.rg [] [gp 4 (.bx 1),gA 6 (.c (.l 65 [])),gA 7 (kI 0)] [0,2,4] [0,4]) (.sq (.sq (.rg [] [gM 8 0,gF 9 3 4,gp 10 (.ld (some 3) 9),gp 11 (.c3 105 [8,10])] [2,4,11] [4]) (.ite 11 (.sq (.rg [] [gF 12 7 4,gQ 13 12,gM 14 2,gB 15 .add 14 (kI 1),gA 6 13,gA 7 15] [6,7] []) .rt) .sk)) PD)),[.t 6,.t 7]⟩
def Kg:bG:=⟨(.sq (.rg [] [gp 3 (.bx 1),gA 4 (.c (.b false))] [0,3] [0,3]) (.sq (.dg [] [] [gV (gp 5 (.ld (some 3) 3)) [3] [3] [],gL (gM 6 0) [0] [],gL (gp 7 (.nc 6)) [6] [],gL (gF 8 11 7) [7] [],gL (gF 9 1 8) [8] [],⟨gQ 10 9,true,[9],[],true,[],[],[]⟩,gH (gp 11 (.ca 0 49 [5,10])),gH (gB 12 .neq 11 (kI 0)),gH (gA 4 12)] [4] []) .rt)),[.t 4]⟩
def Kh:bG:=⟨(.rg [] [gM 10 0,gM 11 0,gp 12 (.nc 11),gF 13 11 12,gF 14 0 13,gQ 15 14,gM 16 1,gM 17 2,gM 18 3,gM 19 4,gp 20 (.bd [(.i .i64 0),(.i .i64 0),(.i .i64 0),(.i .i64 0)] [(0,1,16),(1,1,17),(2,1,18),(3,1,19)]),gz 21 (.bs 73 4 [20]),gp 22 (.ap 73 4 32 15 21),gp 23 (.nc 10),gF 24 11 23,gF 25 0 24,gS 1 25 22] [] []),[]⟩
def PE:AC:=(.sq (.bl 3 (.sq (.rg [] [gM 29 7,gF 30 1 3,gQ 31 30,gM 32 9,gp 33 (.ia 2 none 31 32),gF 34 0 33,gQ 35 34,gp 36 (.ia 1 none 29 35),gQ 37 36] [2,3,7,8,9,37] [3]) (.ite 37 (.rg [] [gM 38 7,gF 39 1 3,gQ 40 39,gM 41 9,gp 42 (.ia 2 none 40 41),gF 43 1 42,gQ 44 43,gp 45 (.ia 1 none 38 44),gS 1 45 (.c (.b true))] [2,3,7,8,9] [3]) .sk))) (.rg [] [gM 27 9,gB 28 .add 27 (kI 1),gA 9 28] [2,3,7,8,9] [3]))
def PF:AC:=.kp [2,3,7,8,9] [3] PE
def PG:AC:=(.sq (.sq (.rg [] [gM 22 9,gF 23 1 3,gQ 24 23,gp 25 (.ln false 24),gB 26 .lss 22 25] [2,3,7,8,9,26] [3]) (.ite 26 .sk (.ex 2))) PF)
def PH:bq:=⟨[2,3,7,8,9],[3],PG⟩
def PI:AC:=(.sq (.bl 1 (.sq (.rg [] [gA 9 (kI 0)] [2,3,7,8,9] [3]) (.bl 2 PH.lp))) (.rg [] [gM 20 8,gB 21 .add 20 (kI 1),gA 8 21] [2,3,7,8] [3]))
def PJ:AC:=.kp [2,3,7,8] [3] PI
def PK:AC:=(.sq (.sq (.rg [] [gM 16 8,gF 17 0 3,gQ 18 17,gB 19 .lss 16 18] [2,3,7,8,19] [3]) (.ite 19 .sk (.ex 0))) PJ)
def PL:bq:=⟨[2,3,7,8],[3],PK⟩
def PM:AC:=(.sq (.rg [] [gM 46 7,gM 47 2,gp 48 (.ia 1 none 46 47),gQ 49 48,gA 6 49] [6] []) .rt)
def PN:AC:=.kp [2,7] [] PM
def PO:bG:=⟨(.sq (.rg [] [gp 3 (.bx 0),gA 6 (.c (.b false))] [1,2,3] [3]) (.sq (.rg [] [gF 10 0 3,gQ 11 10,gp 12 (.ms 4 1 1 (.b false) 11),gA 7 12] [1,2,3,7] [3]) (.sq (.rg [] [gM 13 7,gM 14 1,gp 15 (.ia 1 none 13 14),gS 1 15 (.c (.b true))] [2,3,7] [3]) (.sq (.sq (.rg [] [gA 8 (kI 0)] [2,3,7,8] [3]) (.bl 0 PL.lp)) PN)))),[.t 6]⟩
def PQ:AC:=(.sq (.bl 1 (.sq (.dg [] [] [gL (gF 13 0 2) [2] [],gV (gp 14 (.ld (some 2) 13)) [13] [2] [],gL (gF 15 2 2) [2] [],gV (gQ 16 15) [15] [2] [],gL (gM 17 5) [5] [],gV (gp 18 (.ia 1 none 16 17)) [16,17] [2] [],gV (gQ 19 18) [18] [2] [],gL (gM 20 1) [1] [],gH (gp 21 (.ca 0 107 [14,19,20]))] [1,2,5,21] [2]) (.ite 21 (.sq (.rg [] [gA 4 (.c (.b true))] [4] []) .rt) .sk))) (.rg [] [gM 11 5,gB 12 .add 11 (kI 1),gA 5 12] [1,2,5] [2]))
def PR:AC:=.kp [1,2,5] [2] PQ
def PS:AC:=(.sq (.sq (.rg [] [gM 6 5,gF 7 2 2,gQ 8 7,gp 9 (.ln false 8),gB 10 .lss 6 9] [1,2,5,10] [2]) (.ite 10 .sk (.ex 0))) PR)
def PT:bq:=⟨[1,2,5],[2],PS⟩
def PU:bG:=⟨(.sq (.rg [] [gp 2 (.bx 0),gA 4 (.c (.b false))] [1,2] [2]) (.sq (.sq (.rg [] [gA 5 (kI 0)] [1,2,5] [2]) (.bl 0 PT.lp)) (.sq (.rg [] [gA 4 (.c (.b false))] [4] []) .rt))),[.t 4]⟩
def PV:AC:=(.sq (.bl 1 (.sq (.rg [] [gM 10 8,gA 5 10] [0,1,5,7,8] []) (.sq (.rg [] [gM 11 1,gM 12 0,gM 13 5,gp 14 (.ia 2 none 12 13),gp 15 (.ld (some 2) 14),gp 16 (.cf 0 11 [15])] [0,1,5,7,8,16] []) (.ite 16 (.sq (.rg [] [gM 17 5,gA 4 17] [4] []) .rt) .sk)))) (.rg [] [gB 18 .add 8 (kI 1),gM 8 18] [0,1,7,8] []))
def PW:AC:=.kp [0,1,7,8] [] PV
def PX:AC:=(.sq (.rg [] [gB 9 .lss 8 7] [0,1,7,8,9] []) (.sq (.ite 9 .sk (.ex 0)) PW))
def Jm:bq:=⟨[0,1,7,8],[],PX⟩
def Ki:bG:=⟨(.sq (.rg [] [gA 4 (kI 0)] [0,1] []) (.sq (.sq (.rg [] [gM 6 0,gp 7 (.ln false 6),gM 8 (kI 0)] [0,1,7,8] []) (.bl 0 Jm.lp)) (.sq (.rg [] [gA 4 (kI (-1))] [4] []) .rt))),[.t 4]⟩
def Kj:bG:=⟨(.sq (.rg [] [gA 3 (.c (.b false))] [0,1] [1]) (.sq (.rg [] [gp 4 (.ld (some 2) 1),gM 5 0,gp 6 (.ca 0 78 [4,5]),gp 7 (.no 6),gA 3 7] [3] []) .rt)),[.t 3]⟩
abbrev Ω0:cP:=fun f ys=>match f with
 | 96=>qF 89 ys
 | _=>none
def G:p8:=fun
 | 3=>some c3
 | 4=>some c4
 | 5=>some c5
 | 6=>some c6
 | 7=>some c7
 | 8=>some c8
 | 9=>some c9
 | 10=>some NO
 | 11=>some NP
 | 12=>some Oc
 | 13=>some Od
 | 14=>some Oe
 | 15=>some Of
 | 16=>some Og
 | 17=>some Oh
 | 18=>some Oi
 | 19=>some Oj
 | 20=>some ZC
 | 21=>some ZD
 | 22=>some Ok
 | 23=>some Ol
 | 24=>some Om
 | 25=>some On
 | 26=>some Oo
 | 27=>some Oq
 | 28=>some Ot
 | 29=>some Ou
 | 30=>some Ov
 | 31=>some Ow
 | 32=>some Ox
 | 33=>some Oy
 | 34=>some Oz
 | 35=>some OA
 | 36=>some OB
 | 37=>some OC
 | 38=>some OD
 | 39=>some OE
 | 40=>some ZE
 | 41=>some ZF
 | 42=>some OF
 | 43=>some OG
 | 44=>some OH
 | 45=>some OI
 | 46=>some OJ
 | 47=>some OK
 | 48=>some ZG
 | 49=>some OL
 | 50=>some OM
 | 51=>some ON
 | 52=>some OO
 | 53=>some OP
 | 54=>some OQ
 | 55=>some OR
 | 56=>some OS
 | 57=>some OT
 | 58=>some OU
 | 59=>some OV
 | 60=>some OW
 | 61=>some OX
 | 62=>some OY
 | 63=>some OZ
 | 64=>some O0
 | 65=>some ZH
 | 66=>some ZI
 | 67=>some ZJ
 | 68=>some ZK
 | 69=>some ZL
 | 70=>some O1
 | 71=>some ZM
 | 72=>some ZN
 | 73=>some O2
 | 74=>some O3
 | 75=>some O4
 | 76=>some O5
 | 77=>some O6
 | 78=>some O7
 | 79=>some O8
 | 80=>some O9
 | 81=>some Pa
 | 82=>some Pb
 | 83=>some Pc
 | 84=>some Pd
 | 85=>some Pe
 | 86=>some Pf
 | 87=>some Pg
 | 88=>some Ph
 | 89=>some Pj
 | 90=>some Pk
 | 91=>some ZO
 | 92=>some ZP
 | 93=>some Pm
 | 94=>some Pn
 | 95=>some Po
 | 97=>some Pp
 | 98=>some Pq
 | 99=>some Pr
 | 100=>some Kb
 | 101=>some Kc
 | 102=>some Kd
 | 103=>some Ke
 | 104=>some Kf
 | 105=>some Kg
 | 106=>some Kh
 | 107=>some PO
 | 108=>some PU
 | 109=>some Ki
 | 110=>some Kj
 | _=>none
theorem G3:G 3=some c3:=rfl
theorem G4:G 4=some c4:=rfl
theorem G5:G 5=some c5:=rfl
theorem G6:G 6=some c6:=rfl
theorem G8:G 8=some c8:=rfl
theorem G9:G 9=some c9:=rfl
theorem G10:G 10=some NO:=rfl
theorem G11:G 11=some NP:=rfl
theorem G12:G 12=some Oc:=rfl
theorem G13:G 13=some Od:=rfl
theorem G14:G 14=some Oe:=rfl
theorem G15:G 15=some Of:=rfl
theorem G16:G 16=some Og:=rfl
theorem G17:G 17=some Oh:=rfl
theorem G18:G 18=some Oi:=rfl
theorem G19:G 19=some Oj:=rfl
theorem G22:G 22=some Ok:=rfl
theorem G23:G 23=some Ol:=rfl
theorem G24:G 24=some Om:=rfl
theorem ZQ:G 25=some On:=rfl
theorem G26:G 26=some Oo:=rfl
theorem G27:G 27=some Oq:=rfl
theorem PY:G 28=some Ot:=rfl
theorem G29:G 29=some Ou:=rfl
theorem G30:G 30=some Ov:=rfl
theorem G31:G 31=some Ow:=rfl
theorem G32:G 32=some Ox:=rfl
theorem G33:G 33=some Oy:=rfl
theorem G34:G 34=some Oz:=rfl
theorem G35:G 35=some OA:=rfl
theorem G36:G 36=some OB:=rfl
theorem G37:G 37=some OC:=rfl
theorem G38:G 38=some OD:=rfl
theorem G39:G 39=some OE:=rfl
theorem G42:G 42=some OF:=rfl
theorem G43:G 43=some OG:=rfl
theorem G44:G 44=some OH:=rfl
theorem G45:G 45=some OI:=rfl
theorem G46:G 46=some OJ:=rfl
theorem G47:G 47=some OK:=rfl
theorem G49:G 49=some OL:=rfl
theorem G50:G 50=some OM:=rfl
theorem G51:G 51=some ON:=rfl
theorem G52:G 52=some OO:=rfl
theorem G53:G 53=some OP:=rfl
theorem G54:G 54=some OQ:=rfl
theorem ZR:G 55=some OR:=rfl
theorem PZ:G 56=some OS:=rfl
theorem P0:G 57=some OT:=rfl
theorem G58:G 58=some OU:=rfl
theorem G59:G 59=some OV:=rfl
theorem G60:G 60=some OW:=rfl
theorem G61:G 61=some OX:=rfl
theorem G62:G 62=some OY:=rfl
theorem G63:G 63=some OZ:=rfl
theorem G64:G 64=some O0:=rfl
theorem G70:G 70=some O1:=rfl
theorem G73:G 73=some O2:=rfl
theorem G74:G 74=some O3:=rfl
theorem G75:G 75=some O4:=rfl
theorem G76:G 76=some O5:=rfl
theorem G77:G 77=some O6:=rfl
theorem G78:G 78=some O7:=rfl
theorem G79:G 79=some O8:=rfl
theorem G80:G 80=some O9:=rfl
theorem G81:G 81=some Pa:=rfl
theorem G82:G 82=some Pb:=rfl
theorem G83:G 83=some Pc:=rfl
theorem G84:G 84=some Pd:=rfl
theorem G85:G 85=some Pe:=rfl
theorem G86:G 86=some Pf:=rfl
theorem G87:G 87=some Pg:=rfl
theorem G88:G 88=some Ph:=rfl
theorem G89:G 89=some Pj:=rfl
theorem G90:G 90=some Pk:=rfl
theorem G93:G 93=some Pm:=rfl
theorem G94:G 94=some Pn:=rfl
theorem G95:G 95=some Po:=rfl
theorem G97:G 97=some Pp:=rfl
theorem G98:G 98=some Pq:=rfl
theorem G99:G 99=some Pr:=rfl
theorem aav:G 100=some Kb:=rfl
theorem aaw:G 101=some Kc:=rfl
theorem aax:G 102=some Kd:=rfl
theorem aay:G 103=some Ke:=rfl
theorem aaz:G 104=some Kf:=rfl
theorem aaA:G 105=some Kg:=rfl
theorem aaB:G 106=some Kh:=rfl
theorem aaC:G 109=some Ki:=rfl
theorem aaD:G 110=some Kj:=rfl
end Go.Proofs.YtndeklbmglgonaaGreat.A
