/- The abstract code of the functions, made by program. -/
import Derived.Test.YtkkkkondjclcnaaAbsO
set_option maxRecDepth 100000
set_option linter.unusedSectionVars false
set_option linter.unusedVariables false
set_option linter.unusedSimpArgs false
set_option linter.constructorNameAsVariable false
namespace Go.Proofs.Ytkkkkondjclcnaa.A
open Go
abbrev gp(d:Nat)(x:kv):cV:=⟨some d,x,none,false⟩
abbrev gg(d:Nat)(x:kv)(j:Nat)(b:Bool):cV:=⟨some d,x,some (j,b),false⟩
abbrev gz(d:Nat)(x:kv):cV:=⟨some d,x,none,true⟩
abbrev gS(n:Nat)(x y:aA):cV:=⟨none,.st n x y,none,false⟩
abbrev gM(d:Nat)(x:aA):cV:=gp d (.mv x)
abbrev gQ(d:Nat)(x:aA):cV:=gp d (.ld none x)
abbrev gF(d n:Nat)(x:aA):cV:=gp d (.fa n x)
abbrev gA(d:Nat)(x:aA):cV:=gp d (.as x)
abbrev gB(d:Nat)(o:BinOp)(x y:aA):cV:=gp d (.bo o false x y)
abbrev gL(g:cV)(vw nk:List Nat):aY:=⟨g,true,vw,[],false,[],nk,[]⟩
abbrev gV(g:cV)(vw vb nk:List Nat):aY:=⟨g,true,vw,vb,false,[],nk,[]⟩
abbrev gH(g:cV):aY:=⟨g,false,[],[],false,[],[],[]⟩
instance (n:Nat):OfNat aA n:=⟨.t n⟩
abbrev kI(n:Int):aA:=.c (.i .i64 n)
def SF:AC:=(.sq (.bl 1 (.sq (.dg [] [] [gL (gF 75 0 2) [2] [],gV (gp 76 (.ld (some 2) 75)) [75] [2] [],gL (gM 77 8) [8] [],gL (gM 78 10) [10] [],gL (gp 79 (.ia 2 none 77 78)) [77,78] [],gL (gp 80 (.ld (some 2) 79)) [79] [],gL (gM 81 9) [9] [],gL (gM 82 10) [10] [],gL (gp 83 (.ia 2 none 81 82)) [81,82] [],gL (gp 84 (.ld (some 2) 83)) [83] [],gL (gp 85 (.ca 0 8 [76,80,84])) [76,80,84] [],gL (gM 74 85) [85] [],gL (gp 86 (.ex 74 0)) [74] [],gL (gp 87 (.ex 74 1)) [74] [],gL (gA 11 86) [86] [],gH (gA 12 87)] [2,8,9,10,11,12] [2]) (.sq (.rg [] [gM 88 12,gB 89 .neq 88 (kI 0),gM 90 89,gg 91 (.mv 11) 90 false,gg 92 (.no 91) 90 false,gp 93 (.pk 90 (.c (.b true)) 92)] [2,8,9,10,93] [2]) (.ite 93 (.sq (.rg [] [gA 4 (.c (.b false))] [4] []) .rt) .sk)))) (.rg [] [gM 72 10,gB 73 .add 72 (kI 1),gA 10 73] [2,8,9,10] [2]))
def SG:AC:=.kp [2,8,9,10] [2] SF
def SH:AC:=(.sq (.sq (.rg [] [gM 68 10,gM 69 8,gp 70 (.ln false 69),gB 71 .lss 68 70] [2,8,9,10,71] [2]) (.ite 71 .sk (.ex 0))) SG)
def KV:bm:=⟨[2,8,9,10],[2],SH⟩
def SI:AC:=(.sq (.dg [] [54,57,60,61,64] [gL (gp 54 (.bs 44 2 [])) [] [57,60,61,64],gL (gF 55 0 5) [5] [54,57,60,61,64],gV (gQ 56 55) [55] [5] [54,57,60,61,64],⟨gp 57 (.ap 44 2 48 54 56),true,[54,56],[5],false,[54],[60,61,64],[]⟩,gL (gF 58 1 5) [5] [54,57,60,61,64],gV (gQ 59 58) [58] [5] [54,57,60,61,64],⟨gz 60 (.ap 44 2 48 57 59),true,[57,59],[5],false,[57],[61,64],[]⟩,gL (gp 61 (.bs 44 2 [])) [] [54,57,60,64],gL (gF 62 0 3) [3] [54,57,60,61,64],gV (gQ 63 62) [62] [3] [54,57,60,61,64],⟨gp 64 (.ap 44 2 48 61 63),true,[61,63],[3],false,[61],[],[]⟩,gL (gF 65 1 3) [3] [54,57,60,61,64],gV (gQ 66 65) [65] [3] [54,57,60,61,64],gH (gz 67 (.ap 44 2 48 64 66)),gH (gA 8 60),gH (gA 9 67)] [2,8,9] [2]) (.sq (.sq (.rg [] [gA 10 (kI 0)] [2,8,9,10] [2]) (.bl 0 KV.lp)) (.sq (.rg [] [gA 4 (.c (.b true))] [4] []) .rt)))
def SJ:AC:=.kp [2,3,5] [2,3,5] SI
def SK:AC:=(.sq (.rg [] [gp 43 (.ld (some 8) 2),gp 44 (.ld (some 2) 3),gp 45 (.ca 0 7 [43,44]),gM 42 45,gp 46 (.ex 42 0),gp 47 (.ex 42 1),gA 7 46,gA 6 47] [2,3,5,6,7] [2,3,5]) (.sq (.sq (.rg [] [gM 48 6,gB 49 .neq 48 (kI 0),gM 50 49,gg 51 (.mv 7) 50 false,gg 52 (.no 51) 50 false,gp 53 (.pk 50 (.c (.b true)) 52)] [2,3,5,53] [2,3,5]) (.ite 53 (.sq (.rg [] [gA 4 (.c (.b true))] [4] []) .rt) .sk)) SJ))
def SL:AC:=.kp [2,3,5] [2,3,5] SK
def SM:AC:=(.sq (.rg [] [gp 31 (.ld (some 8) 2),gp 32 (.ld (some 2) 5),gp 33 (.ca 0 7 [31,32]),gM 30 33,gp 34 (.ex 30 0),gp 35 (.ex 30 1),gA 7 34,gA 6 35] [2,3,5,6,7] [2,3,5]) (.sq (.sq (.rg [] [gM 36 6,gB 37 .neq 36 (kI 0),gM 38 37,gg 39 (.mv 7) 38 false,gg 40 (.no 39) 38 false,gp 41 (.pk 38 (.c (.b true)) 40)] [2,3,5,41] [2,3,5]) (.ite 41 (.sq (.rg [] [gA 4 (.c (.b false))] [4] []) .rt) .sk)) SL))
def SN:AC:=.kp [2,3,5] [2,3,5] SM
def SO:AC:=(.sq (.sq (.rg [] [gM 24 6,gB 25 .neq 24 (kI 0)] [2,3,5,25] [2,3,5]) (.ite 25 (.sq (.rg [] [gF 26 0 5,gQ 27 26,gp 28 (.ln false 27),gB 29 .eql 28 (kI 0),gA 4 29] [4] []) .rt) .sk)) SN)
def SP:AC:=.kp [2,3,5,6] [2,3,5] SO
def c3:a8:=⟨(.sq (.rg [] [gp 2 (.bx 0),gp 3 (.bx 1),gA 4 (.c (.b false))] [2,3] [2,3]) (.sq (.rg [] [gp 14 (.ld (some 8) 2),gp 15 (.ca 0 4 [14]),gM 13 15,gp 16 (.ex 13 0),gp 17 (.ex 13 1),gp 5 (.al [(.l 44 []),(.l 44 [])]),gS 2 5 16,gA 6 17] [2,3,5,6] [2,3,5]) (.sq (.sq (.rg [] [gp 18 (.ca 0 5 []),gp 19 (.no 18),gM 20 19,gg 21 (.ca 0 6 []) 20 false,gg 22 (.no 21) 20 false,gp 23 (.pk 20 (.c (.b true)) 22)] [2,3,5,6,23] [2,3,5]) (.ite 23 (.sq (.rg [] [gA 4 (.c (.b false))] [4] []) .rt) .sk)) SP))),[.t 4]⟩
def SQ:AC:=(.sq (.rg [] [gp 11 (.ld (some 8) 1),gp 12 (.ca 0 10 [11]),gS 2 2 12,gA 3 (kI 0)] [2,3] [2]) .rt)
def SS:AC:=.kp [1,2] [1,2] SQ
def c4:a8:=⟨(.sq (.rg [] [gp 1 (.bx 0),gp 2 (.al [(.l 44 []),(.l 44 [])]),gA 3 (kI 0)] [1,2] [1,2]) (.sq (.sq (.rg [] [gp 5 (.ld (some 8) 1),gp 6 (.ca 0 9 [5]),gA 4 6] [1,2,4] [1,2]) (.sq (.rg [] [gM 7 4,gB 8 .neq 7 (kI 0)] [1,2,4,8] [1,2]) (.ite 8 (.sq (.rg [] [gp 9 (.bd [(.l 44 []),(.l 44 [])] []),gM 10 4,gS 2 2 9,gA 3 10] [2,3] [2]) .rt) .sk))) SS)),[.c 2 (some 2),.t 3]⟩
def c5:a8:=⟨(.sq (.rg [] [gA 0 (.c (.b false))] [] []) (.sq (.rg [] [gp 8 (.ca 0 11 []),gp 9 (.ca 0 4 [8]),gM 7 9,gp 10 (.ex 7 0),gp 11 (.ex 7 1),gp 1 (.al [(.l 44 []),(.l 44 [])]),gS 2 1 10,gA 2 11] [1,2] [1]) (.sq (.dg [] [] [gL (gp 13 (.ca 0 11 [])) [] [],gV (gp 14 (.ld (some 2) 1)) [1] [1] [],gL (gp 15 (.ca 0 7 [13,14])) [13,14] [],gL (gM 12 15) [15] [],gL (gp 16 (.ex 12 0)) [12] [],gL (gp 17 (.ex 12 1)) [12] [],gL (gA 3 16) [16] [],gH (gA 4 17)] [1,2,3,4] [1]) (.sq (.dg [] [5] [gL (gp 19 (.ca 0 11 [])) [] [5],gV (gp 20 (.ld (some 2) 1)) [1] [1] [5],gL (gp 21 (.bd [(.i .i64 0),(.i .i64 0),(.l 53 [])] [(0,1,(kI 2))])) [] [5],gL (gp 22 (.ca 0 12 [19,20,21])) [19,20,21] [5],gL (gM 18 22) [22] [5],gL (gp 23 (.ex 18 0)) [18] [5],gL (gp 24 (.ex 18 1)) [18] [5],gL (gp 5 (.al [(.l 4 []),(.l 4 [])])) [] [],gV (gS 2 5 23) [5,23] [5] [],gH (gA 6 24)] [1,2,3,4,5,6] [1,5]) (.sq (.dg [] [55,61] [gL (gM 25 2) [2] [55,61],gL (gB 26 .eql 25 (kI 0)) [25] [55,61],gL (gM 27 26) [26] [55,61],gL (gg 28 (.mv 4) 27 true) [4] [55,61],gL (gg 29 (.bo .eql false 28 (kI 0)) 27 true) [28] [55,61],gL (gp 30 (.pk 27 29 (.c (.b false)))) [27,29] [55,61],gL (gM 31 30) [30] [55,61],gL (gg 32 (.mv 6) 31 true) [6] [55,61],gL (gg 33 (.bo .eql false 32 (kI 0)) 31 true) [32] [55,61],gL (gp 34 (.pk 31 33 (.c (.b false)))) [31,33] [55,61],gL (gM 35 34) [34] [55,61],gL (gg 36 (.mv 3) 35 true) [3] [55,61],gL (gp 37 (.pk 35 36 (.c (.b false)))) [35,36] [55,61],gL (gM 38 37) [37] [55,61],gL (gg 39 (.fa 0 1) 38 true) [1] [55,61],gV (gg 40 (.ld none 39) 38 true) [39] [1] [55,61],gV (gg 41 (.ln false 40) 38 true) [40] [1] [55,61],gL (gg 42 (.bo .eql false 41 (kI 1)) 38 true) [41] [55,61],gL (gp 43 (.pk 38 42 (.c (.b false)))) [38,42] [55,61],gL (gM 44 43) [43] [55,61],gV (gg 45 (.ld (some 2) 5) 44 true) [5] [5] [55,61],gL (gg 46 (.fa 0 1) 44 true) [1] [55,61],gV (gg 47 (.ld none 46) 44 true) [46] [1] [55,61],gV (gg 48 (.ia 2 none 47 (kI 0)) 44 true) [47] [1] [55,61],gV (gg 49 (.ld (some 2) 48) 44 true) [48] [1] [55,61],gL (gg 50 (.ca 0 13 [45,49]) 44 true) [45,49] [55,61],gL (gp 51 (.pk 44 50 (.c (.b false)))) [44,50] [55,61],gL (gM 52 51) [51] [55,61],gL (gg 53 (.fa 0 5) 52 true) [5] [55,61],gV (gg 54 (.ld none 53) 52 true) [53] [5] [55,61],⟨⟨some 55,.bs 4 1 [(.c (.b true))],(some (52,true)),true⟩,true,[],[],false,[],[61],[]⟩,gV (gg 56 (.ca 0 14 [54,55]) 52 true) [54,55] [5] [61],gL (gp 57 (.pk 52 56 (.c (.b false)))) [52,56] [61],gL (gM 58 57) [57] [61],gL (gg 59 (.fa 1 5) 58 true) [5] [61],gV (gg 60 (.ld none 59) 58 true) [59] [5] [61],⟨⟨some 61,.bs 4 1 [(.c (.b true))],(some (58,true)),true⟩,true,[],[],false,[],[],[]⟩,gH (gg 62 (.ca 0 14 [60,61]) 58 true),gH (gp 63 (.pk 58 62 (.c (.b false)))),gH (gA 0 63)] [0] []) .rt))))),[.t 0]⟩
def c6:a8:=⟨(.sq (.rg [] [gA 0 (.c (.b false))] [] []) (.sq (.rg [] [gp 14 (.ca 0 16 []),gp 15 (.ca 0 17 []),gp 16 (.ca 0 15 [14,15]),gM 13 16,gp 17 (.ex 13 0),gp 18 (.ex 13 1),gp 1 (.al [(.l 4 []),(.l 4 [])]),gS 2 1 17,gA 2 18] [1,2] [1]) (.sq (.rg [] [gp 20 (.ca 0 16 []),gp 21 (.bd [(.l 95 []),(.l 95 [])] []),gp 22 (.ca 0 15 [20,21]),gM 19 22,gp 23 (.ex 19 0),gp 24 (.ex 19 1),gp 3 (.al [(.l 4 []),(.l 4 [])]),gS 2 3 23,gA 4 24] [1,2,3,4] [1,3]) (.sq (.dg [] [] [gL (gp 26 (.ca 0 16 [])) [] [],gV (gp 27 (.ld (some 2) 3)) [3] [3] [],gV (gp 28 (.ld (some 2) 1)) [1] [1] [],gL (gp 29 (.ca 0 8 [26,27,28])) [26,27,28] [],gL (gM 25 29) [29] [],gL (gp 30 (.ex 25 0)) [25] [],gL (gp 31 (.ex 25 1)) [25] [],gL (gA 5 30) [30] [],gH (gA 6 31)] [1,2,3,4,5,6] [1,3]) (.sq (.dg [] [] [gL (gp 33 (.ca 0 16 [])) [] [],gV (gp 34 (.ld (some 2) 1)) [1] [1] [],gV (gp 35 (.ld (some 2) 3)) [3] [3] [],gL (gp 36 (.ca 0 8 [33,34,35])) [33,34,35] [],gL (gM 32 36) [36] [],gL (gp 37 (.ex 32 0)) [32] [],gL (gp 38 (.ex 32 1)) [32] [],gL (gA 7 37) [37] [],gH (gA 8 38)] [1,2,3,4,5,6,7,8] [1,3]) (.sq (.dg [] [9] [gL (gp 40 (.ca 0 16 [])) [] [9],gV (gp 41 (.ld (some 2) 1)) [1] [1] [9],gV (gp 42 (.ld (some 2) 3)) [3] [3] [9],gL (gp 43 (.ca 0 18 [40,41,42])) [40,41,42] [9],gL (gM 39 43) [43] [9],gL (gp 44 (.ex 39 0)) [39] [9],gL (gp 45 (.ex 39 1)) [39] [9],gL (gp 9 (.al [(.l 4 []),(.l 4 [])])) [] [],gV (gS 2 9 44) [9,44] [9] [],gH (gA 10 45)] [1,2,3,4,5,6,7,8,9,10] [1,3,9]) (.sq (.dg [] [11] [gL (gp 47 (.ca 0 16 [])) [] [11],gV (gp 48 (.ld (some 2) 1)) [1] [1] [11],gV (gp 49 (.ld (some 2) 3)) [3] [3] [11],gL (gp 50 (.ca 0 19 [47,48,49])) [47,48,49] [11],gL (gM 46 50) [50] [11],gL (gp 51 (.ex 46 0)) [46] [11],gL (gp 52 (.ex 46 1)) [46] [11],gL (gp 11 (.al [(.l 4 []),(.l 4 [])])) [] [],gV (gS 2 11 51) [11,51] [11] [],gH (gA 12 52)] [1,2,3,4,5,6,7,8,9,10,11,12] [1,3,9,11]) (.sq (.dg [] [107,113] [gL (gp 53 (.ca 0 16 [])) [] [107,113],gL (gp 54 (.ca 0 17 [])) [] [107,113],gL (gp 55 (.ca 0 20 [53,54])) [53,54] [107,113],gL (gB 56 .eql 55 (kI 0)) [55] [107,113],gL (gM 57 56) [56] [107,113],gL (gg 58 (.ca 0 16 []) 57 true) [] [107,113],gV (gg 59 (.ld (some 2) 1) 57 true) [1] [1] [107,113],gL (gg 60 (.ca 0 21 [58,59]) 57 true) [58,59] [107,113],gL (gg 61 (.bo .eql false 60 (kI 0)) 57 true) [60] [107,113],gL (gp 62 (.pk 57 61 (.c (.b false)))) [57,61] [107,113],gL (gM 63 62) [62] [107,113],gL (gg 64 (.mv 2) 63 true) [2] [107,113],gL (gg 65 (.bo .eql false 64 (kI 0)) 63 true) [64] [107,113],gL (gp 66 (.pk 63 65 (.c (.b false)))) [63,65] [107,113],gL (gM 67 66) [66] [107,113],gL (gg 68 (.mv 4) 67 true) [4] [107,113],gL (gg 69 (.bo .eql false 68 (kI 0)) 67 true) [68] [107,113],gL (gp 70 (.pk 67 69 (.c (.b false)))) [67,69] [107,113],gL (gM 71 70) [70] [107,113],gL (gg 72 (.mv 6) 71 true) [6] [107,113],gL (gg 73 (.bo .eql false 72 (kI 0)) 71 true) [72] [107,113],gL (gp 74 (.pk 71 73 (.c (.b false)))) [71,73] [107,113],gL (gM 75 74) [74] [107,113],gL (gg 76 (.mv 8) 75 true) [8] [107,113],gL (gg 77 (.bo .eql false 76 (kI 0)) 75 true) [76] [107,113],gL (gp 78 (.pk 75 77 (.c (.b false)))) [75,77] [107,113],gL (gM 79 78) [78] [107,113],gL (gg 80 (.mv 10) 79 true) [10] [107,113],gL (gg 81 (.bo .eql false 80 (kI 0)) 79 true) [80] [107,113],gL (gp 82 (.pk 79 81 (.c (.b false)))) [79,81] [107,113],gL (gM 83 82) [82] [107,113],gL (gg 84 (.mv 12) 83 true) [12] [107,113],gL (gg 85 (.bo .eql false 84 (kI 0)) 83 true) [84] [107,113],gL (gp 86 (.pk 83 85 (.c (.b false)))) [83,85] [107,113],gL (gM 87 86) [86] [107,113],gL (gg 88 (.mv 5) 87 true) [5] [107,113],gL (gp 89 (.pk 87 88 (.c (.b false)))) [87,88] [107,113],gL (gM 90 89) [89] [107,113],gL (gg 91 (.mv 7) 90 true) [7] [107,113],gL (gg 92 (.no 91) 90 true) [91] [107,113],gL (gp 93 (.pk 90 92 (.c (.b false)))) [90,92] [107,113],gL (gM 94 93) [93] [107,113],gV (gg 95 (.ld (some 2) 9) 94 true) [9] [9] [107,113],gV (gg 96 (.ld (some 2) 1) 94 true) [1] [1] [107,113],gL (gg 97 (.ca 0 13 [95,96]) 94 true) [95,96] [107,113],gL (gp 98 (.pk 94 97 (.c (.b false)))) [94,97] [107,113],gL (gM 99 98) [98] [107,113],gV (gg 100 (.ld (some 2) 11) 99 true) [11] [11] [107,113],gV (gg 101 (.ld (some 2) 3) 99 true) [3] [3] [107,113],gL (gg 102 (.ca 0 13 [100,101]) 99 true) [100,101] [107,113],gL (gp 103 (.pk 99 102 (.c (.b false)))) [99,102] [107,113],gL (gM 104 103) [103] [107,113],gL (gg 105 (.fa 0 1) 104 true) [1] [107,113],gV (gg 106 (.ld none 105) 104 true) [105] [1] [107,113],⟨⟨some 107,.bs 4 1 [(.c (.b false)),(.c (.b true))],(some (104,true)),true⟩,true,[],[],false,[],[113],[]⟩,gV (gg 108 (.ca 0 14 [106,107]) 104 true) [106,107] [1] [113],gL (gp 109 (.pk 104 108 (.c (.b false)))) [104,108] [113],gL (gM 110 109) [109] [113],gL (gg 111 (.fa 1 1) 110 true) [1] [113],gV (gg 112 (.ld none 111) 110 true) [111] [1] [113],⟨⟨some 113,.bs 4 1 [(.c (.b true)),(.c (.b true))],(some (110,true)),true⟩,true,[],[],false,[],[],[]⟩,gH (gg 114 (.ca 0 14 [112,113]) 110 true),gH (gp 115 (.pk 110 114 (.c (.b false)))),gH (gA 0 115)] [0] []) .rt)))))))),[.t 0]⟩
def SU:AC:=(.sq (.bl 1 (.sq (.rg [] [gM 22 20,gp 23 (.ia 3 none 18 20),gp 24 (.ld (some 3) 23),gp 9 (.al [(.b false),(.l 95 []),(.l 95 [])]),gA 8 22,gS 3 9 24] [2,3,7,8,9,18,19,20] [2,3,7,9]) (.dg [] [] [gV (gQ 25 7) [7] [7] [],gL (gM 26 25) [25] [],gL (gg 27 (.fa 0 9) 26 true) [9] [],gV (gg 28 (.ld none 27) 26 true) [27] [9] [],gL (gg 29 (.no 28) 26 true) [28] [],gL (gg 30 (.mv 29) 26 true) [29] [],gL (gg 31 (.fa 0 3) 30 false) [3] [],gV (gg 32 (.ld none 31) 30 false) [31] [3] [],gL (gg 33 (.mv 8) 30 false) [8] [],gV (gg 34 (.ia 2 none 32 33) 30 false) [32,33] [3] [],gV (gg 35 (.ld (some 2) 34) 30 false) [34] [3] [],gL (gg 36 (.fa 0 2) 30 false) [2] [],gV (gg 37 (.ld (some 2) 36) 30 false) [36] [2] [],gL (gg 38 (.fa 1 9) 30 false) [9] [],gV (gg 39 (.ld (some 2) 38) 30 false) [38] [9] [],gL (gg 40 (.ca 0 24 [37,39]) 30 false) [37,39] [],gH (gg 41 (.ca 0 23 [35,40]) 30 false),gH (gg 42 (.pk 30 (.c (.b true)) 41) 26 true),gH (gp 43 (.pk 26 42 (.c (.b false)))),gH (gS 1 7 43)] [2,3,7,18,19,20] [2,3,7]))) (.rg [] [gB 44 .add 20 (kI 1),gM 20 44] [2,3,7,18,19,20] [2,3,7]))
def SV:AC:=.kp [2,3,7,18,19,20] [2,3,7] SU
def Fh:AC:=(.sq (.rg [] [gB 21 .lss 20 19] [2,3,7,18,19,20,21] [2,3,7]) (.sq (.ite 21 .sk (.ex 0)) SV))
def KY:bm:=⟨[2,3,7,18,19,20],[2,3,7],Fh⟩
def KZ:AC:=(.sq (.rg [] [gp 45 (.ld (some 8) 2),gp 46 (.ld (some 2) 3),gp 47 (.bd [(.i .i64 0),(.l 93 []),(.l 3 []),(.l 60 []),(.l 60 []),(.l 67 []),(.l 85 []),(.l 74 []),(.l 44 []),(.l 44 []),.nf,(.i .i64 0)] [(0,8,45),(8,2,46)]),gp 48 (.bx 47),gp 10 (.al [.z]),gS 1 10 48] [2,3,7,10] [2,3,7,10,48]) (.sq (.rg [.fzB 3 true,.fzB 2 true] [gQ 49 10,gp 50 (.mf 25 [10,7,3,2]),gp 51 (.nc 49),gF 52 10 51,gS 1 52 50] [7,10] [7,10,48]) (.sq (.rg [] [gQ 53 10,gp 54 (.c2 28 [53])] [7] [7]) (.sq (.rg [] [gQ 55 7,gA 4 55,gA 5 (kI 0)] [4,5] []) .rt))))
def SW:AC:=.kp [2,3,7] [2,3,7] KZ
def SX:AC:=(.sq (.rg [] [gp 7 (.al [(.b false)]),gS 1 7 (.c (.b true))] [2,3,7] [2,3,7]) (.sq (.sq (.rg [] [gF 17 5 2,gQ 18 17,gp 19 (.ln false 18),gM 20 (kI 0)] [2,3,7,18,19,20] [2,3,7]) (.bl 0 KY.lp)) SW))
def SY:AC:=.kp [2,3] [2,3] SX
def c7:a8:=⟨(.sq (.rg [] [gp 2 (.bx 0),gp 3 (.bx 1),gA 4 (.c (.b false)),gA 5 (kI 0)] [2,3] [2,3]) (.sq (.sq (.rg [] [gp 11 (.ld (some 8) 2),gp 12 (.ld (some 2) 3),gp 13 (.ca 0 22 [11,12]),gA 6 13] [2,3,6] [2,3]) (.sq (.rg [] [gM 14 6,gB 15 .neq 14 (kI 0)] [2,3,6,15] [2,3]) (.ite 15 (.sq (.rg [] [gM 16 6,gA 4 (.c (.b false)),gA 5 16] [4,5] []) .rt) .sk))) SY)),[.t 4,.t 5]⟩
def SZ:AC:=(.sq (.rg [] [gp 17 (.ld (some 2) 4),gp 18 (.ld (some 2) 5),gp 19 (.ca 0 27 [17,18]),gA 6 19,gA 7 (kI 0)] [6,7] []) .rt)
def S0:AC:=.kp [4,5] [4,5] SZ
def c8:a8:=⟨(.sq (.rg [] [gp 3 (.bx 0),gp 4 (.bx 1),gp 5 (.bx 2),gA 6 (.c (.b false)),gA 7 (kI 0)] [3,4,5] [3,4,5]) (.sq (.sq (.rg [] [gp 9 (.ld (some 2) 3),gp 10 (.ld (some 2) 4),gp 11 (.ld (some 2) 5),gz 12 (.bs 44 2 [10,11]),gp 13 (.ca 0 29 [9,12]),gA 8 13] [4,5,8] [4,5]) (.sq (.rg [] [gM 14 8,gB 15 .neq 14 (kI 0)] [4,5,8,15] [4,5]) (.ite 15 (.sq (.rg [] [gM 16 8,gA 6 (.c (.b false)),gA 7 16] [6,7] []) .rt) .sk))) S0)),[.t 6,.t 7]⟩
def S1:AC:=(.sq (.bl 1 (.sq (.rg [] [gM 24 22,gp 25 (.ia 5 none 20 22),gp 26 (.ld (some 5) 25),gp 6 (.al [(.l 3 []),(.l 74 []),(.i .i64 0),(.i .i64 0),(.l 53 [])]),gA 5 24,gS 5 6 26] [1,4,5,6,20,21,22] [1,6,18]) (.sq (.rg [] [gM 27 4,gM 28 5,gp 29 (.nc 27),gF 30 8 29,gS 1 30 28] [1,4,6,20,21,22] [1,6,18]) (.sq (.rg [] [gM 31 4,gp 32 (.ld (some 5) 6),gp 33 (.c2 32 [31,32]),gA 7 33] [1,4,7,20,21,22] [1,18]) (.sq (.rg [] [gM 34 7,gB 35 .neq 34 (kI 0)] [1,4,7,20,21,22,35] [1,18]) (.ite 35 (.sq (.rg [] [gM 36 7,gA 2 36] [2] []) .rt) .sk)))))) (.rg [] [gB 37 .add 22 (kI 1),gM 22 37] [1,4,20,21,22] [1,18]))
def S2:AC:=.kp [1,4,20,21,22] [1,18] S1
def S4:AC:=(.sq (.rg [] [gB 23 .lss 22 21] [1,4,20,21,22,23] [1,18]) (.sq (.ite 23 .sk (.ex 0)) S2))
def K0:bm:=⟨[1,4,20,21,22],[1,18],S4⟩
def S5:AC:=(.sq (.rg [] [gM 38 4,gF 39 6 1,gQ 40 39,gp 41 (.ln false 40),gp 42 (.nc 38),gF 43 8 42,gS 1 43 41] [1,4] [1,18]) (.sq (.rg [] [gM 44 4,gF 45 7 1,gQ 46 45,gp 47 (.c2 33 [44,46]),gA 2 47] [2] []) .rt))
def S6:AC:=.kp [1,4] [1,18] S5
def S7:AC:=(.sq (.rg [] [gp 16 (.ld (some 8) 1),gp 17 (.bd [(.i .i64 0),(.l 93 []),(.l 3 []),(.l 60 []),(.l 60 []),(.l 67 []),(.l 85 []),(.l 74 []),(.i .i64 0)] [(0,8,16)]),gp 18 (.bx 17),gA 4 18] [1,4] [1,18]) (.sq (.sq (.rg [] [gF 19 6 1,gQ 20 19,gp 21 (.ln false 20),gM 22 (kI 0)] [1,4,20,21,22] [1,18]) (.bl 0 K0.lp)) S6))
def S8:AC:=.kp [1] [1] S7
def S9:AC:=(.sq (.sq (.rg [] [gp 13 (.ld (some 8) 1),gp 14 (.ca 0 31 [13]),gp 15 (.no 14)] [1,15] [1]) (.ite 15 (.sq (.rg [] [gA 2 (kI 2)] [2] []) .rt) .sk)) S8)
def Ta:AC:=.kp [1] [1] S9
def c9:a8:=⟨(.sq (.rg [] [gp 1 (.bx 0),gA 2 (kI 0)] [1] [1]) (.sq (.sq (.rg [] [gp 8 (.ld (some 8) 1),gp 9 (.ca 0 30 [8]),gA 3 9] [1,3] [1]) (.sq (.rg [] [gM 10 3,gB 11 .neq 10 (kI 0)] [1,3,11] [1]) (.ite 11 (.sq (.rg [] [gM 12 3,gA 2 12] [2] []) .rt) .sk))) Ta)),[.t 2]⟩
def IE:AC:=(.rg [] [gF 26 0 3,gQ 27 26,gp 28 (.ld (some 2) 6),gz 29 (.bs 44 2 [28]),gp 30 (.ap 44 2 48 27 29),gF 31 0 3,gS 1 31 30] [1,2,3,10,11,12] [1,2,3,1044000,1044001])
def IF:AC:=.kp [1,2,3,6,10,11,12] [1,2,3,6,1044000,1044001] IE
def NH:AC:=(.sq (.bl 1 (.sq (.rg [] [gp 14 (.ia 3 none 10 12),gp 15 (.ld (some 3) 14),gp 5 (.al [(.b false),(.l 95 []),(.l 95 [])]),gS 3 5 15] [1,2,3,5,10,11,12] [1,2,3,5,1044000,1044001]) (.sq (.rg [] [gF 16 0 1,gp 17 (.ld (some 2) 16),gp 18 (.ca 0 34 [17]),gp 6 (.al [(.l 4 []),(.l 4 [])]),gS 2 6 18] [1,2,3,5,6,10,11,12] [1,2,3,5,6,1044000,1044001]) (.sq (.sq (.rg [] [gF 19 0 5,gQ 20 19] [1,2,3,5,6,10,11,12,20] [1,2,3,5,6,1044000,1044001]) (.ite 20 (.rg [] [gF 21 0 1,gp 22 (.ld (some 2) 21),gF 23 1 5,gp 24 (.ld (some 2) 23),gp 25 (.ca 0 24 [22,24]),gS 2 6 25] [1,2,3,6,10,11,12] [1,2,3,6,1044000,1044001]) .sk)) IF)))) (.rg [] [gB 32 .add 12 (kI 1),gM 12 32] [1,2,3,10,11,12] [1,2,3,1044000,1044001]))
def NI:AC:=.kp [1,2,3,10,11,12] [1,2,3,1044000,1044001] NH
def BQ:AC:=(.sq (.rg [] [gB 13 .lss 12 11] [1,2,3,10,11,12,13] [1,2,3,1044000,1044001]) (.sq (.ite 13 .sk (.ex 0)) NI))
def IG:bm:=⟨[1,2,3,10,11,12],[1,2,3,1044000,1044001],BQ⟩
def NJ:AC:=(.sq (.bl 3 (.dg [] [43] [gL (gF 38 1 3) [3] [43],gV (gQ 39 38) [38] [3] [43],gL (gF 40 0 1) [1] [43],gV (gp 41 (.ld (some 2) 40)) [40] [1] [43],gL (gp 42 (.ca 0 34 [41])) [41] [43],gL (gz 43 (.bs 44 2 [42])) [42] [],gH (gp 44 (.ap 44 2 48 39 43)),gH (gF 45 1 3),gH (gS 1 45 44)] [1,2,3,35,36] [1,2,3,1044000,1044001])) (.rg [] [gB 46 .add 36 (kI 1),gM 36 46] [1,2,3,35,36] [1,2,3,1044000,1044001]))
def NK:AC:=.kp [1,2,3,35,36] [1,2,3,1044000,1044001] NJ
def BR:AC:=(.sq (.rg [] [gB 37 .lss 36 35] [1,2,3,35,36,37] [1,2,3,1044000,1044001]) (.sq (.ite 37 .sk (.ex 2)) NK))
def IH:bm:=⟨[1,2,3,35,36],[1,2,3,1044000,1044001],BR⟩
def NL:AC:=(.sq (.bl 5 (.sq (.rg [] [gS 1 8 (.c (.b false))] [1,2,3,7,8,50] [1,2,3,7,8,50,1044000,1044001]) (.sq (.rg [] [gQ 52 7,gp 53 (.mf 35 [7,3,1,8]),gp 54 (.nc 52),gF 55 10 54,gS 1 55 53] [1,2,3,7,8,50] [1,2,3,7,8,50,1044000,1044001]) (.rg [] [gQ 56 7,gp 57 (.c2 28 [56])] [1,2,3,7,8,50] [1,2,3,7,8,50,1044000,1044001])))) (.sq (.rg [] [gQ 58 8] [1,2,3,7,50,58] [1,2,3,7,50,1044000,1044001]) (.rg [.fzC 50 10] [gp 8 (.al [(.b false)]),gS 1 8 58] [1,2,3,7,8,50] [1,2,3,7,8,50,1044000,1044001])))
def NM:AC:=.kp [1,2,3,7,8,50] [1,2,3,7,8,50,1044000,1044001] NL
def yp:AC:=(.sq (.sq (.rg [] [gQ 51 8] [1,2,3,7,8,50,51] [1,2,3,7,8,50,1044000,1044001]) (.ite 51 .sk (.ex 4))) NM)
def II:bm:=⟨[1,2,3,7,8,50],[1,2,3,7,8,50,1044000,1044001],yp⟩
def IJ:AC:=(.sq (.rg [.vM 3 0 1044000 2,.vM 3 1 1044001 2] [gp 47 (.ld (some 8) 1),gp 48 (.ld (some 2) 3),gp 49 (.bd [(.i .i64 0),(.l 93 []),(.l 3 []),(.l 60 []),(.l 60 []),(.l 67 []),(.l 85 []),(.l 74 []),(.l 44 []),(.l 44 []),.nf,(.i .i64 0)] [(0,8,47),(8,2,48)]),gp 50 (.bx 49),gp 7 (.al [.z]),gS 1 7 50] [1,2,3,7,50] [1,2,3,7,50,1044000,1044001]) (.sq (.sq (.rg [] [gp 8 (.al [(.b false)]),gS 1 8 (.c (.b true))] [1,2,3,7,8,50] [1,2,3,7,8,50,1044000,1044001]) (.bl 4 II.lp)) (.sq (.rg [.unp 3 0,.unp 3 1] [gp 59 (.ld (some 2) 3),gS 2 2 59] [2] [2]) .rt)))
def NN:AC:=.kp [1,2,3] [1,2,3,1044000,1044001] IJ
def IK:AC:=(.sq (.sq (.rg [] [gF 33 6 1,gQ 34 33,gp 35 (.ln false 34),gM 36 (kI 0)] [1,2,3,35,36] [1,2,3,1044000,1044001]) (.bl 2 IH.lp)) NN)
def NO:AC:=.kp [1,2,3] [1,2,3,1044000,1044001] IK
def IL:a8:=⟨(.sq (.rg [] [gp 1 (.bx 0),gp 2 (.al [(.l 44 []),(.l 44 [])])] [1,2] [1,2]) (.sq (.rg [] [gp 3 (.al [.n,.n])] [1,2,3] [1,2,3,1044000,1044001]) (.sq (.sq (.rg [.ownC 3 0 44,.ownC 3 1 44] [gF 9 5 1,gQ 10 9,gp 11 (.ln false 10),gM 12 (kI 0)] [1,2,3,10,11,12] [1,2,3,1044000,1044001]) (.bl 0 IG.lp)) NO))),[.c 2 (some 2)]⟩
def Sf:a8:=⟨(.sq (.rg [] [gp 0 (.al [(.i .i64 0),(.l 93 []),(.l 3 []),(.l 60 []),(.l 60 []),(.l 67 []),(.l 85 []),(.l 74 [])])] [0] [0]) (.sq (.rg [] [gp 1 (.bd [(.i .i64 0),(.l 93 [])] [(0,1,(kI 1))]),gp 2 (.bd [(.l 95 []),(.l 95 [])] []),gz 3 (.bs 60 2 [2]),gp 4 (.bd [(.l 95 []),(.l 95 [])] []),gz 5 (.bs 60 2 [4]),gp 6 (.bd [(.b false),(.l 95 []),(.l 95 [])] []),gz 7 (.bs 67 3 [6]),gp 8 (.bd [(.i .i64 0),(.i .i64 0),(.i .i64 0),(.i .i64 0),(.i .i64 0),(.l 53 []),(.l 53 []),(.l 74 []),(.l 74 [])] [(0,1,(kI 3))]),gp 9 (.bd [(.i .i64 0),(.i .i64 0),(.l 53 [])] [(0,1,(kI 2))]),gp 10 (.bd [(.i .i64 0),(.i .i64 0),(.i .i64 0),(.i .i64 0),(.i .i64 0),(.l 53 []),(.l 53 []),(.l 74 []),(.l 74 [])] [(0,1,(kI 4)),(3,3,9)]),gz 11 (.bs 74 9 [8,10]),gp 12 (.bd [(.i .i64 0),(.l 93 []),(.l 3 []),(.l 60 []),(.l 60 []),(.l 67 []),(.l 85 []),(.l 74 [])] [(0,2,1),(3,1,3),(4,1,5),(5,1,7),(7,1,11)]),gS 8 0 12] [0] [0]) .rt)),[.c 0 (some 8)]⟩
def NP:AC:=(.sq (.rg [] [gp 26 (.ld (some 8) 3),gF 27 0 4,gQ 28 27,gp 29 (.ld (some 3) 5),gp 30 (.ca 0 38 [26,28,29]),gS 2 6 30,gA 7 (kI 0)] [6,7] [6]) .rt)
def NQ:AC:=.kp [3,4,5,6] [3,4,5,6] NP
def NR:AC:=(.sq (.sq (.rg [] [gp 17 (.ld (some 3) 5),gF 18 5 3,gQ 19 18,gp 20 (.ln false 19),gp 21 (.ca 0 37 [17,20]),gA 9 21] [3,4,5,6,9] [3,4,5,6]) (.sq (.rg [] [gM 22 9,gB 23 .neq 22 (kI 0)] [3,4,5,6,9,23] [3,4,5,6]) (.ite 23 (.sq (.rg [] [gp 24 (.bd [(.l 4 []),(.l 4 [])] []),gM 25 9,gS 2 6 24,gA 7 25] [6,7] [6]) .rt) .sk))) NQ)
def NS:AC:=.kp [3,4,5,6] [3,4,5,6] NR
def Sg:a8:=⟨(.sq (.rg [] [gp 3 (.bx 0),gp 4 (.bx 1),gp 5 (.bx 2),gp 6 (.al [(.l 4 []),(.l 4 [])]),gA 7 (kI 0)] [3,4,5,6] [3,4,5,6]) (.sq (.sq (.rg [] [gp 10 (.ld (some 8) 3),gp 11 (.ld (some 2) 4),gp 12 (.ca 0 22 [10,11]),gA 8 12] [3,4,5,6,8] [3,4,5,6]) (.sq (.rg [] [gM 13 8,gB 14 .neq 13 (kI 0)] [3,4,5,6,8,14] [3,4,5,6]) (.ite 14 (.sq (.rg [] [gp 15 (.bd [(.l 4 []),(.l 4 [])] []),gM 16 8,gS 2 6 15,gA 7 16] [6,7] [6]) .rt) .sk))) NS)),[.c 6 (some 2),.t 7]⟩
def Sh:a8:=⟨(.sq (.rg [] [gp 2 (.bx 0),gp 3 (.bx 1),gA 4 (.c (.b false))] [2,3] [2,3]) (.sq (.rg [] [gF 5 0 2,gQ 6 5,gF 7 0 3,gQ 8 7,gp 9 (.ca 0 14 [6,8]),gM 10 9,gg 11 (.fa 1 2) 10 true,gg 12 (.ld none 11) 10 true,gg 13 (.fa 1 3) 10 true,gg 14 (.ld none 13) 10 true,gg 15 (.ca 0 14 [12,14]) 10 true,gp 16 (.pk 10 15 (.c (.b false))),gA 4 16] [4] []) .rt)),[.t 4]⟩
def NT:AC:=(.sq (.bl 1 (.sq (.dg [] [] [gL (gM 17 0) [0] [],gL (gM 18 5) [5] [],gL (gp 19 (.ia 1 none 17 18)) [17,18] [],gL (gQ 20 19) [19] [],gL (gM 21 1) [1] [],gL (gM 22 5) [5] [],gL (gp 23 (.ia 1 none 21 22)) [21,22] [],gL (gQ 24 23) [23] [],gH (gp 25 (.bo .neq true 20 24))] [0,1,5,25] []) (.ite 25 (.sq (.rg [] [gA 4 (.c (.b false))] [4] []) .rt) .sk))) (.rg [] [gM 15 5,gB 16 .add 15 (kI 1),gA 5 16] [0,1,5] []))
def NU:AC:=.kp [0,1,5] [] NT
def NV:AC:=(.sq (.sq (.rg [] [gM 11 5,gM 12 0,gp 13 (.ln false 12),gB 14 .lss 11 13] [0,1,5,14] []) (.ite 14 .sk (.ex 0))) NU)
def NW:bm:=⟨[0,1,5],[],NV⟩
def NX:AC:=(.sq (.sq (.rg [] [gA 5 (kI 0)] [0,1,5] []) (.bl 0 NW.lp)) (.sq (.rg [] [gA 4 (.c (.b true))] [4] []) .rt))
def NY:AC:=.kp [0,1] [] NX
def Si:a8:=⟨(.sq (.rg [] [gA 4 (.c (.b false))] [0,1] []) (.sq (.sq (.rg [] [gM 6 0,gp 7 (.ln false 6),gM 8 1,gp 9 (.ln false 8),gB 10 .neq 7 9] [0,1,10] []) (.ite 10 (.sq (.rg [] [gA 4 (.c (.b false))] [4] []) .rt) .sk)) NY)),[.t 4]⟩
def NZ:AC:=(.sq (.rg [] [gp 14 (.ld (some 2) 2),gp 15 (.ld (some 2) 3),gp 16 (.ca 0 24 [14,15]),gS 2 4 16,gA 5 (kI 0)] [4,5] [4]) .rt)
def N0:AC:=.kp [2,3,4] [2,3,4] NZ
def Sj:a8:=⟨(.sq (.rg [] [gp 2 (.bx 0),gp 3 (.bx 1),gp 4 (.al [(.l 4 []),(.l 4 [])]),gA 5 (kI 0)] [2,3,4] [2,3,4]) (.sq (.sq (.rg [] [gp 7 (.ld (some 2) 2),gp 8 (.ld (some 2) 3),gp 9 (.ca 0 20 [7,8]),gA 6 9] [2,3,4,6] [2,3,4]) (.sq (.rg [] [gM 10 6,gB 11 .neq 10 (kI 0)] [2,3,4,6,11] [2,3,4]) (.ite 11 (.sq (.rg [] [gp 12 (.bd [(.l 4 []),(.l 4 [])] []),gM 13 6,gS 2 4 12,gA 5 13] [4,5] [4]) .rt) .sk))) N0)),[.c 4 (some 2),.t 5]⟩
def Sk:a8:=⟨(.sq (.rg [] [gp 0 (.al [(.i .i64 0),(.l 93 [])])] [0] [0]) (.sq (.rg [] [gp 1 (.bd [(.i .i64 0),(.i .i64 0)] [(0,1,(kI 1)),(1,1,(kI 0))]),gz 2 (.bs 93 2 [1]),gp 3 (.bd [(.i .i64 0),(.l 93 [])] [(0,1,(kI 2)),(1,1,2)]),gS 2 0 3] [0] [0]) .rt)),[.c 0 (some 2)]⟩
def Sl:a8:=⟨(.sq (.rg [] [gp 0 (.al [(.l 95 []),(.l 95 [])])] [0] [0]) (.sq (.rg [] [gp 1 (.bd [(.i .i64 0),(.l 3 [])] [(0,1,(kI 1))]),gz 2 (.bs 95 2 [1]),gp 3 (.bd [(.l 95 []),(.l 95 [])] [(0,1,2)]),gS 2 0 3] [0] [0]) .rt)),[.c 0 (some 2)]⟩
def N1:AC:=(.sq (.rg [] [gp 18 (.ld (some 2) 4),gp 19 (.ld (some 2) 5),gp 20 (.ca 0 36 [18,19]),gS 2 6 20,gA 7 (kI 0)] [6,7] [6]) .rt)
def N2:AC:=.kp [4,5,6] [4,5,6] N1
def Sm:a8:=⟨(.sq (.rg [] [gp 3 (.bx 0),gp 4 (.bx 1),gp 5 (.bx 2),gp 6 (.al [(.l 4 []),(.l 4 [])]),gA 7 (kI 0)] [3,4,5,6] [3,4,5,6]) (.sq (.sq (.rg [] [gp 9 (.ld (some 2) 3),gp 10 (.ld (some 2) 4),gp 11 (.ld (some 2) 5),gz 12 (.bs 44 2 [10,11]),gp 13 (.ca 0 29 [9,12]),gA 8 13] [4,5,6,8] [4,5,6]) (.sq (.rg [] [gM 14 8,gB 15 .neq 14 (kI 0)] [4,5,6,8,15] [4,5,6]) (.ite 15 (.sq (.rg [] [gp 16 (.bd [(.l 4 []),(.l 4 [])] []),gM 17 8,gS 2 6 16,gA 7 17] [6,7] [6]) .rt) .sk))) N2)),[.c 6 (some 2),.t 7]⟩
def N3:AC:=(.sq (.dg [] [] [gL (gF 18 0 4) [4] [],gV (gQ 19 18) [18] [4] [],gL (gF 20 0 5) [5] [],gV (gQ 21 20) [20] [5] [],gV (gp 22 (.ca 0 39 [19,21])) [19,21] [4,5] [],gL (gF 23 1 4) [4] [],gV (gQ 24 23) [23] [4] [],gL (gF 25 1 5) [5] [],gV (gQ 26 25) [25] [5] [],gH (gp 27 (.ca 0 40 [24,26])),gH (gp 28 (.bd [(.l 4 []),(.l 4 [])] [(0,1,22),(1,1,27)])),gH (gS 2 6 28),gH (gA 7 (kI 0))] [6,7] [6]) .rt)
def N4:AC:=.kp [4,5,6] [4,5,6] N3
def Sn:a8:=⟨(.sq (.rg [] [gp 3 (.bx 0),gp 4 (.bx 1),gp 5 (.bx 2),gp 6 (.al [(.l 4 []),(.l 4 [])]),gA 7 (kI 0)] [3,4,5,6] [3,4,5,6]) (.sq (.sq (.rg [] [gp 9 (.ld (some 2) 3),gp 10 (.ld (some 2) 4),gp 11 (.ld (some 2) 5),gz 12 (.bs 44 2 [10,11]),gp 13 (.ca 0 29 [9,12]),gA 8 13] [4,5,6,8] [4,5,6]) (.sq (.rg [] [gM 14 8,gB 15 .neq 14 (kI 0)] [4,5,6,8,15] [4,5,6]) (.ite 15 (.sq (.rg [] [gp 16 (.bd [(.l 4 []),(.l 4 [])] []),gM 17 8,gS 2 6 16,gA 7 17] [6,7] [6]) .rt) .sk))) N4)),[.c 6 (some 2),.t 7]⟩
def N5:AC:=(.sq (.rg [] [gp 11 (.ld (some 2) 2),gp 12 (.ld (some 2) 3),gp 13 (.ca 0 42 [11,12]),gA 4 13] [4] []) .rt)
def N6:AC:=.kp [2,3] [2,3] N5
def So:a8:=⟨(.sq (.rg [] [gp 2 (.bx 0),gp 3 (.bx 1),gA 4 (kI 0)] [2,3] [2,3]) (.sq (.sq (.rg [] [gp 6 (.ld (some 2) 2),gp 7 (.ca 0 41 [6]),gA 5 7] [2,3,5] [2,3]) (.sq (.rg [] [gM 8 5,gB 9 .neq 8 (kI 0)] [2,3,5,9] [2,3]) (.ite 9 (.sq (.rg [] [gM 10 5,gA 4 10] [4] []) .rt) .sk))) N6)),[.t 4]⟩
def Sq:a8:=⟨(.sq (.rg [] [gp 2 (.bx 0),gp 3 (.bx 1),gA 4 (kI 0)] [2,3] [2,3]) (.sq (.rg [] [gp 5 (.ld (some 2) 2),gp 6 (.ld (some 2) 3),gz 7 (.bs 44 2 [6]),gp 8 (.ca 0 29 [5,7]),gA 4 8] [4] []) .rt)),[.t 4]⟩
def N7:AC:=(.sq (.rg [.fzB 2 true] [gp 12 (.mf 43 [2]),gA 6 12] [2,3,6] [2,3]) (.sq (.sq (.rg [] [gF 13 0 3,gQ 14 13,gp 15 (.ln false 14),gF 16 5 2,gQ 17 16,gp 18 (.ln false 17),gB 19 .neq 15 18,gM 20 19,gg 21 (.fa 1 3) 20 false,gg 22 (.ld none 21) 20 false,gg 23 (.ln false 22) 20 false,gg 24 (.fa 6 2) 20 false,gg 25 (.ld none 24) 20 false,gg 26 (.ln false 25) 20 false,gg 27 (.bo .neq false 23 26) 20 false,gp 28 (.pk 20 (.c (.b true)) 27),gM 29 28,gg 30 (.fa 0 3) 29 false,gg 31 (.ld none 30) 29 false,gg 32 (.mv 6) 29 false,gg 33 (.c2 45 [31,32]) 29 false,gp 34 (.pk 29 (.c (.b true)) 33),gM 35 34,gg 36 (.fa 1 3) 35 false,gg 37 (.ld none 36) 35 false,gg 38 (.mv 6) 35 false,gg 39 (.c2 45 [37,38]) 35 false,gp 40 (.pk 35 (.c (.b true)) 39)] [40] []) (.ite 40 (.sq (.rg [] [gA 4 (kI 1)] [4] []) .rt) .sk)) (.sq (.rg [] [gA 4 (kI 0)] [4] []) .rt)))
def N8:AC:=.kp [2,3] [2,3] N7
def K1:a8:=⟨(.sq (.rg [] [gp 2 (.bx 0),gp 3 (.bx 1),gA 4 (kI 0)] [2,3] [2,3]) (.sq (.sq (.rg [] [gp 7 (.ld (some 8) 2),gp 8 (.ca 0 9 [7]),gA 5 8] [2,3,5] [2,3]) (.sq (.rg [] [gM 9 5,gB 10 .neq 9 (kI 0)] [2,3,5,10] [2,3]) (.ite 10 (.sq (.rg [] [gM 11 5,gA 4 11] [4] []) .rt) .sk))) N8)),[.t 4]⟩
def K2:a8:=⟨(.sq (.rg [] [gp 2 (.bx 0),gp 3 (.bx 1),gA 4 (.c (.b false))] [2,3] [2,3]) (.sq (.rg [] [gp 5 (.ld (some 2) 2),gp 6 (.ld (some 2) 3),gp 7 (.ca 0 27 [5,6]),gM 8 7,gg 9 (.ld (some 2) 3) 8 true,gg 10 (.ld (some 2) 2) 8 true,gg 11 (.ca 0 27 [9,10]) 8 true,gp 12 (.pk 8 11 (.c (.b false))),gA 4 12] [4] []) .rt)),[.t 4]⟩
def K3:a8:=⟨(.sq (.rg [] [gp 2 (.bx 0),gp 3 (.bx 1),gp 4 (.al [(.l 4 []),(.l 4 [])])] [2,3,4] [2,3,4]) (.sq (.rg [] [gp 7 (.ld (some 2) 2),gp 8 (.ca 0 46 [7]),gp 5 (.al [(.l 42 [])]),gS 1 5 8] [2,3,4,5] [2,3,4,5]) (.sq (.rg [.fzB 2 true,.fzB 5 false] [gp 9 (.mf 47 [2,5]),gA 6 9] [3,4,6] [2,3,4,5]) (.sq (.dg [] [] [gL (gM 10 6) [6] [],gL (gF 11 0 3) [3] [],gV (gQ 12 11) [11] [3] [],gV (gp 13 (.cf 0 10 [12])) [10,12] [3] [],gL (gM 14 6) [6] [],gL (gF 15 1 3) [3] [],gV (gQ 16 15) [15] [3] [],gH (gp 17 (.d2 14 [16])),gH (gp 18 (.bd [(.l 4 []),(.l 4 [])] [(0,1,13),(1,1,17)])),gH (gS 2 4 18)] [4] [4]) .rt)))),[.c 4 (some 2)]⟩
def N9:AC:=(.sq (.bl 1 (.sq (.rg [] [gp 19 (.ia 4 none 15 17),gp 20 (.ld (some 4) 19),gp 11 (.al [(.l 4 []),(.l 4 []),(.i .i64 0),(.b false)]),gS 4 11 20] [4,5,6,11,15,16,17] [4,5,6,11]) (.sq (.rg [] [gF 21 3 11,gQ 22 21] [4,5,6,11,15,16,17,22] [4,5,6,11]) (.ite 22 (.dg [] [] [⟨gQ 23 4,true,[4],[],true,[],[],[]⟩,gL (gM 24 23) [23] [],gL (gg 25 (.fa 0 11) 24 true) [11] [],gV (gg 26 (.ld (some 2) 25) 24 true) [25] [11] [],gL (gg 27 (.fa 1 5) 24 true) [5] [],⟨gg 28 (.ld none 27) 24 true,true,[27],[],true,[],[],[]⟩,gL (gg 29 (.fa 2 11) 24 true) [11] [],gV (gg 30 (.ld none 29) 24 true) [29] [11] [],⟨gg 31 (.ia 2 none 28 30) 24 true,true,[28,30],[],true,[],[],[]⟩,⟨gg 32 (.ld (some 2) 31) 24 true,true,[31],[],true,[],[],[]⟩,gH (gg 33 (.ca 0 27 [26,32]) 24 true),gH (gp 34 (.pk 24 33 (.c (.b false)))),gH (gS 1 4 34)] [4,5,6,15,16,17] [4,5,6]) (.dg [] [] [⟨gQ 35 4,true,[4],[],true,[],[],[]⟩,gL (gM 36 35) [35] [],gL (gg 37 (.fa 5 6) 36 true) [6] [],⟨gg 38 (.ld none 37) 36 true,true,[37],[],true,[],[],[]⟩,gL (gg 39 (.fa 2 11) 36 true) [11] [],gV (gg 40 (.ld none 39) 36 true) [39] [11] [],⟨gg 41 (.ia 3 none 38 40) 36 true,true,[38,40],[],true,[],[],[]⟩,⟨gg 42 (.fa 0 41) 36 true,true,[41],[],true,[],[],[]⟩,⟨gg 43 (.ld none 42) 36 true,true,[42],[],true,[],[],[]⟩,gL (gg 44 (.mv 43) 36 true) [43] [],gL (gg 45 (.fa 0 11) 44 false) [11] [],gV (gg 46 (.ld (some 2) 45) 44 false) [45] [11] [],gL (gg 47 (.fa 0 5) 44 false) [5] [],⟨gg 48 (.ld none 47) 44 false,true,[47],[],true,[],[],[]⟩,gL (gg 49 (.fa 2 11) 44 false) [11] [],gV (gg 50 (.ld none 49) 44 false) [49] [11] [],⟨gg 51 (.ia 2 none 48 50) 44 false,true,[48,50],[],true,[],[],[]⟩,⟨gg 52 (.ld (some 2) 51) 44 false,true,[51],[],true,[],[],[]⟩,gH (gg 53 (.ca 0 27 [46,52]) 44 false),gH (gg 54 (.pk 44 (.c (.b true)) 53) 36 true),gH (gp 55 (.pk 36 54 (.c (.b false)))),gH (gS 1 4 55)] [4,5,6,15,16,17] [4,5,6]))))) (.rg [] [gB 56 .add 17 (kI 1),gM 17 56] [4,5,6,15,16,17] [4,5,6]))
def Oa:AC:=.kp [4,5,6,15,16,17] [4,5,6] N9
def BS:AC:=(.sq (.rg [] [gB 18 .lss 17 16] [4,5,6,15,16,17,18] [4,5,6]) (.sq (.ite 18 .sk (.ex 0)) Oa))
def IM:bm:=⟨[4,5,6,15,16,17],[4,5,6],BS⟩
def K4:a8:=⟨(.sq (.rg [] [gp 8 (.bx 1),gp 9 (.bx 2)] [3,4,5,6,8,9] [3,4,5,6,8,9]) (.sq (.rg [] [gQ 12 3,gp 13 (.ld (some 9) 8),gp 14 (.ld (some 2) 9),gp 15 (.c2 26 [12,13,14]),gp 16 (.ln false 15),gM 17 (kI 0)] [4,5,6,15,16,17] [4,5,6]) (.bl 0 IM.lp))),[]⟩
def Ob:AC:=(.sq (.bl 2 (.sq (.rg [] [gM 41 39,gp 42 (.ia 3 none 37 39),gp 43 (.ld (some 3) 42),gp 11 (.al [(.i .i64 0),(.i .i64 0),(.l 53 [])]),gA 10 41,gS 3 11 43] [4,5,7,8,9,10,11,37,38,39] [0,3,4,5,8,11]) (.dg [] [54] [gL (gM 44 9) [9] [54],gL (gM 45 7) [7] [54],gV (gp 46 (.ld (some 3) 11)) [11] [11] [54],⟨gp 47 (.d3 45 [46]),true,[45,46],[3,5],true,[],[54],[]⟩,gL (gF 48 0 8) [8] [54],gV (gQ 49 48) [48] [8] [54],gL (gM 50 10) [10] [54],gV (gp 51 (.ia 1 none 49 50)) [49,50] [8] [54],gV (gQ 52 51) [51] [8] [54],gL (gp 53 (.bd [(.l 4 []),(.l 4 []),(.i .i64 0),(.b false)] [(0,2,47),(2,1,52),(3,1,(.c (.b false)))])) [47,52] [54],gL (gz 54 (.bs 78 4 [53])) [53] [],gH (gp 55 (.ap 78 4 64 44 54)),gH (gA 9 55)] [4,5,7,8,9,37,38,39] [0,3,4,5,8]))) (.rg [] [gB 56 .add 39 (kI 1),gM 39 56] [4,5,7,8,9,37,38,39] [0,3,4,5,8]))
def Oc:AC:=.kp [4,5,7,8,9,37,38,39] [0,3,4,5,8] Ob
def BT:AC:=(.sq (.rg [] [gB 40 .lss 39 38] [4,5,7,8,9,37,38,39,40] [0,3,4,5,8]) (.sq (.ite 40 .sk (.ex 1)) Oc))
def BU:bm:=⟨[4,5,7,8,9,37,38,39],[0,3,4,5,8],BT⟩
def IN:AC:=(.sq (.dg [] [69] [gL (gM 57 9) [9] [69],gL (gM 58 7) [7] [69],gL (gF 59 2 8) [8] [69],gV (gp 60 (.ld (some 3) 59)) [59] [8] [69],⟨gp 61 (.d3 58 [60]),true,[58,60],[3,5],true,[],[69],[]⟩,gL (gF 62 1 4) [4] [69],gV (gQ 63 62) [62] [4] [69],gL (gp 64 (.bd [(.l 4 []),(.l 4 []),(.i .i64 0),(.b false)] [(0,2,61),(2,1,63),(3,1,(.c (.b false)))])) [61,63] [69],gV (gp 65 (.ld (some 2) 5)) [5] [5] [69],gL (gF 66 2 4) [4] [69],gV (gQ 67 66) [66] [4] [69],gL (gp 68 (.bd [(.l 4 []),(.l 4 []),(.i .i64 0),(.b false)] [(0,2,65),(2,1,67),(3,1,(.c (.b true)))])) [65,67] [69],gL (gz 69 (.bs 78 4 [64,68])) [64,68] [],gH (gz 70 (.ap 78 4 64 57 69)),gH (gA 6 70)] [6] []) .rt)
def Od:AC:=.kp [4,5,7,8,9] [0,3,4,5,8] IN
def yq:a8:=⟨(.sq (.rg [] [gp 3 (.bx 0),gp 4 (.bx 1),gp 5 (.bx 2),gA 6 (.c (.l 78 []))] [3,4,5] [0,3,4,5]) (.sq (.rg [.fzB 5 true] [gp 12 (.mf 52 [5,3]),gA 7 12] [3,4,5,7] [0,3,4,5]) (.sq (.sq (.rg [] [gF 13 0 4,gQ 14 13] [3,4,5,7,14] [0,3,4,5]) (.bl 0 (.sq (.rg [] [gB 16 .eql 14 (kI 1),gA 15 16] [3,4,5,7,14,15] [0,3,4,5]) (.ite 15 (.sq (.dg [] [] [gL (gM 17 7) [7] [],gL (gF 18 3 4) [4] [],gV (gp 19 (.ld (some 3) 18)) [18] [4] [],⟨gp 20 (.d3 17 [19]),true,[17,19],[3,5],true,[],[],[]⟩,gL (gF 21 1 4) [4] [],gV (gQ 22 21) [21] [4] [],gH (gp 23 (.bd [(.l 4 []),(.l 4 []),(.i .i64 0),(.b false)] [(0,2,20),(2,1,22),(3,1,(.c (.b false)))])),gH (gz 24 (.bs 78 4 [23])),gH (gA 6 24)] [6] []) .rt) (.sq (.rg [] [gB 26 .eql 14 (kI 2),gA 25 26] [3,4,5,7,14,25] [0,3,4,5]) (.ite 25 (.sq (.dg [] [8] [⟨gQ 27 3,true,[3],[3],true,[],[8],[]⟩,gL (gp 28 (.nc 27)) [27] [8],gL (gF 29 0 28) [28] [8],gL (gF 30 6 29) [29] [8],⟨gQ 31 30,true,[30],[],true,[],[8],[]⟩,gL (gF 32 2 4) [4] [8],gV (gQ 33 32) [32] [4] [8],gL (gp 34 (.ia 5 none 31 33)) [31,33] [8],gL (gp 35 (.ld (some 5) 34)) [34] [8],gL (gp 8 (.al [(.l 3 []),(.l 74 []),(.i .i64 0),(.i .i64 0),(.l 53 [])])) [] [],gH (gS 5 8 35)] [4,5,7,8] [0,3,4,5,8]) (.sq (.rg [] [gA 9 (.c .n)] [4,5,7,8,9] [0,3,4,5,8]) (.sq (.sq (.rg [.own 9 78] [gF 36 6 4,gQ 37 36,gp 38 (.ln false 37),gM 39 (kI 0)] [4,5,7,8,9,37,38,39] [0,3,4,5,8]) (.bl 1 BU.lp)) Od))) (.sq (.rg [] [gB 72 .eql 14 (kI 3),gA 71 72] [3,4,5,7,14,71] [0,3,4,5]) (.ite 71 (.sq (.dg [] [] [gV (gp 73 (.ld (some 2) 5)) [5] [5] [],⟨gQ 74 3,true,[3],[3],true,[],[],[]⟩,gL (gp 75 (.nc 74)) [74] [],gL (gF 76 0 75) [75] [],gL (gF 77 0 76) [76] [],⟨gp 78 (.ld (some 2) 77),true,[77],[],true,[],[],[]⟩,⟨gQ 79 3,true,[3],[3],true,[],[],[]⟩,gL (gp 80 (.nc 79)) [79] [],gL (gF 81 0 80) [80] [],gL (gF 82 3 81) [81] [],⟨gQ 83 82,true,[82],[],true,[],[],[]⟩,gL (gF 84 2 4) [4] [],gV (gQ 85 84) [84] [4] [],gL (gp 86 (.ia 2 none 83 85)) [83,85] [],gL (gp 87 (.ld (some 2) 86)) [86] [],gL (gp 88 (.ca 0 24 [78,87])) [78,87] [],gL (gp 89 (.ca 0 36 [73,88])) [73,88] [],gL (gF 90 1 4) [4] [],gV (gQ 91 90) [90] [4] [],gH (gp 92 (.bd [(.l 4 []),(.l 4 []),(.i .i64 0),(.b false)] [(0,2,89),(2,1,91),(3,1,(.c (.b false)))])),gH (gz 93 (.bs 78 4 [92])),gH (gA 6 93)] [6] []) .rt) (.sq (.rg [] [gB 95 .eql 14 (kI 5),gA 94 95] [4,5,7,14,94] [0,3,4,5]) (.ite 94 (.sq (.dg [] [] [gL (gF 96 0 5) [5] [],gV (gQ 97 96) [96] [5] [],gL (gM 98 7) [7] [],gL (gF 99 3 4) [4] [],gV (gp 100 (.ld (some 3) 99)) [99] [4] [],⟨gp 101 (.d3 98 [100]),true,[98,100],[3,5],true,[],[],[]⟩,gL (gp 102 (.fd none 1 101)) [101] [],gL (gp 103 (.bd [(.l 4 []),(.l 4 [])] [(0,1,97),(1,1,102)])) [97,102] [],gL (gF 104 1 4) [4] [],gV (gQ 105 104) [104] [4] [],gH (gp 106 (.bd [(.l 4 []),(.l 4 []),(.i .i64 0),(.b false)] [(0,2,103),(2,1,105),(3,1,(.c (.b false)))])),gH (gz 107 (.bs 78 4 [106])),gH (gA 6 107)] [6] []) .rt) (.sq (.rg [] [gB 109 .eql 14 (kI 6),gA 108 109] [4,5,7,108] [0,3,4,5]) (.ite 108 (.sq (.dg [] [] [gL (gM 110 7) [7] [],gL (gF 111 3 4) [4] [],gV (gp 112 (.ld (some 3) 111)) [111] [4] [],⟨gp 113 (.d3 110 [112]),true,[110,112],[3,5],true,[],[],[]⟩,gL (gp 114 (.fd none 0 113)) [113] [],gL (gF 115 1 5) [5] [],gV (gQ 116 115) [115] [5] [],gL (gp 117 (.bd [(.l 4 []),(.l 4 [])] [(0,1,114),(1,1,116)])) [114,116] [],gL (gF 118 1 4) [4] [],gV (gQ 119 118) [118] [4] [],gH (gp 120 (.bd [(.l 4 []),(.l 4 []),(.i .i64 0),(.b false)] [(0,2,117),(2,1,119),(3,1,(.c (.b false)))])),gH (gz 121 (.bs 78 4 [120])),gH (gA 6 121)] [6] []) .rt) .sk)))))))))))) (.sq (.rg [] [gA 6 (.c (.l 78 []))] [6] []) .rt)))),[.t 6]⟩
def K5:a8:=⟨(.sq (.rg [] [gp 2 (.bx 0),gp 3 (.bx 1),gA 4 (.c (.b false))] [2,3] [2,3]) (.sq (.rg [] [gF 5 0 3,gQ 6 5,gF 7 0 2,gQ 8 7,gp 9 (.ca 0 53 [6,8]),gM 10 9,gg 11 (.fa 1 2) 10 true,gg 12 (.ld none 11) 10 true,gg 13 (.fa 1 3) 10 true,gg 14 (.ld none 13) 10 true,gg 15 (.ca 0 53 [12,14]) 10 true,gp 16 (.pk 10 15 (.c (.b false))),gA 4 16] [4] []) .rt)),[.t 4]⟩
def Oe:AC:=(.sq (.bl 1 (.sq (.rg [] [gM 15 13,gp 16 (.ia 5 none 11 13),gp 17 (.ld (some 5) 16),gp 3 (.al [(.l 3 []),(.l 74 []),(.i .i64 0),(.i .i64 0),(.l 53 [])]),gA 2 15,gS 5 3 17] [0,2,3,11,12,13] [0,3]) (.dg [] [] [gL (gM 18 0) [0] [],gL (gF 19 1 3) [3] [],gV (gQ 20 19) [19] [3] [],gL (gM 21 0) [0] [],gL (gp 22 (.nc 21)) [21] [],gL (gF 23 8 22) [22] [],gL (gF 24 1 23) [23] [],⟨gQ 25 24,true,[24],[],true,[],[],[]⟩,gL (gM 26 2) [2] [],⟨gp 27 (.ia 2 none 25 26),true,[25,26],[],true,[],[],[]⟩,⟨gp 28 (.ld (some 2) 27),true,[27],[],true,[],[],[]⟩,gH (gp 29 (.c2 54 [18,20,28]))] [0,11,12,13] [0]))) (.rg [] [gB 30 .add 13 (kI 1),gM 13 30] [0,11,12,13] [0]))
def Of:AC:=.kp [0,11,12,13] [0] Oe
def BV:AC:=(.sq (.rg [] [gB 14 .lss 13 12] [0,11,12,13,14] [0]) (.sq (.ite 14 .sk (.ex 0)) Of))
def IP:bm:=⟨[0,11,12,13],[0],BV⟩
def IQ:AC:=(.dg [] [] [gL (gM 31 0) [0] [],gL (gM 32 0) [0] [],gL (gp 33 (.nc 32)) [32] [],gL (gF 34 0 33) [33] [],gL (gF 35 7 34) [34] [],⟨gQ 36 35,true,[35],[],true,[],[],[]⟩,gL (gM 37 0) [0] [],gL (gp 38 (.nc 37)) [37] [],gL (gF 39 0 38) [38] [],gL (gF 40 0 39) [39] [],⟨gp 41 (.ld (some 2) 40),true,[40],[],true,[],[],[]⟩,gL (gp 42 (.ca 0 34 [41])) [41] [],gH (gp 43 (.c2 54 [31,36,42]))] [] [])
def Og:AC:=.kp [0] [0] IQ
def K6:a8:=⟨(.sq (.rg [] [gM 4 0,gp 5 (.nc 4),gF 6 11 5,gS 1 6 (kI 0)] [0] [0]) (.sq (.sq (.rg [] [gM 7 0,gp 8 (.nc 7),gF 9 0 8,gF 10 6 9,gQ 11 10,gp 12 (.ln false 11),gM 13 (kI 0)] [0,11,12,13] [0]) (.bl 0 IP.lp)) Og)),[]⟩
def Oh:AC:=(.sq (.sq (.rg [.fzB 2 true] [gM 11 1,gp 12 (.mf 55 [2]),gp 13 (.c2 45 [11,12])] [13] []) (.ite 13 (.sq (.rg [] [gA 4 (kI 1)] [4] []) .rt) .sk)) (.sq (.rg [] [gA 4 (kI 0)] [4] []) .rt))
def Oi:AC:=.kp [1,2] [2] Oh
def K7:a8:=⟨(.sq (.rg [] [gp 2 (.bx 0),gA 4 (kI 0)] [1,2] [2]) (.sq (.sq (.rg [] [gp 6 (.ld (some 2) 2),gp 7 (.ca 0 41 [6]),gA 5 7] [1,2,5] [2]) (.sq (.rg [] [gM 8 5,gB 9 .neq 8 (kI 0)] [1,2,5,9] [2]) (.ite 9 (.sq (.rg [] [gM 10 5,gA 4 10] [4] []) .rt) .sk))) Oi)),[.t 4]⟩
def Oj:AC:=(.sq (.bl 1 (.sq (.rg [] [gp 60 (.ia 2 none 56 58),gp 61 (.ld (some 2) 60),gp 5 (.al [(.l 95 []),(.l 95 [])]),gS 2 5 61] [1,5,56,57,58] [1,5]) (.sq (.rg [] [gF 62 0 1,gp 63 (.ld (some 2) 62),gp 64 (.ld (some 2) 5),gp 65 (.ca 0 42 [63,64]),gA 6 65] [1,6,56,57,58] [1]) (.sq (.rg [] [gM 66 6,gB 67 .neq 66 (kI 0)] [1,6,56,57,58,67] [1]) (.ite 67 (.sq (.rg [] [gM 68 6,gA 2 68] [2] []) .rt) .sk))))) (.rg [] [gB 69 .add 58 (kI 1),gM 58 69] [1,56,57,58] [1]))
def Ok:AC:=.kp [1,56,57,58] [1] Oj
def Ol:AC:=(.sq (.rg [] [gB 59 .lss 58 57] [1,56,57,58,59] [1]) (.sq (.ite 59 .sk (.ex 0)) Ok))
def IS:bm:=⟨[1,56,57,58],[1],Ol⟩
def Om:AC:=(.sq (.bl 3 (.sq (.rg [] [gp 75 (.ia 3 none 71 73),gp 76 (.ld (some 3) 75),gp 8 (.al [(.b false),(.l 95 []),(.l 95 [])]),gS 3 8 76] [1,8,71,72,73] [1,8]) (.sq (.rg [] [gF 77 0 1,gp 78 (.ld (some 2) 77),gF 79 1 8,gp 80 (.ld (some 2) 79),gp 81 (.ca 0 42 [78,80]),gA 9 81] [1,9,71,72,73] [1]) (.sq (.rg [] [gM 82 9,gB 83 .neq 82 (kI 0)] [1,9,71,72,73,83] [1]) (.ite 83 (.sq (.rg [] [gM 84 9,gA 2 84] [2] []) .rt) .sk))))) (.rg [] [gB 85 .add 73 (kI 1),gM 73 85] [1,71,72,73] [1]))
def On:AC:=.kp [1,71,72,73] [1] Om
def Oo:AC:=(.sq (.rg [] [gB 74 .lss 73 72] [1,71,72,73,74] [1]) (.sq (.ite 74 .sk (.ex 2)) On))
def IT:bm:=⟨[1,71,72,73],[1],Oo⟩
def Oq:AC:=(.sq (.sq (.rg [] [gF 86 5 1,gQ 87 86,gp 88 (.c2 59 [87,(.c (.f 60 []))])] [88] []) (.ite 88 (.sq (.rg [] [gA 2 (kI 1)] [2] []) .rt) .sk)) (.sq (.rg [] [gA 2 (kI 0)] [2] []) .rt))
def Ot:AC:=.kp [1] [1] Oq
def Ou:AC:=(.sq (.sq (.rg [] [gF 70 5 1,gQ 71 70,gp 72 (.ln false 71),gM 73 (kI 0)] [1,71,72,73] [1]) (.bl 2 IT.lp)) Ot)
def Ov:AC:=.kp [1] [1] Ou
def Ow:AC:=(.sq (.sq (.rg [] [gF 51 3 1,gQ 52 51,gF 53 4 1,gQ 54 53,gz 55 (.bs 26 1 [52,54]),gp 56 (.ca 0 58 [55]),gp 57 (.ln false 56),gM 58 (kI 0)] [1,56,57,58] [1]) (.bl 0 IS.lp)) Ov)
def Ox:AC:=.kp [1] [1] Ow
def Oy:AC:=(.sq (.sq (.rg [.fzB 1 true] [gF 47 2 1,gQ 48 47,gp 49 (.mf 56 [1]),gp 50 (.c2 49 [48,49])] [1,50] [1]) (.ite 50 (.sq (.rg [] [gA 2 (kI 5)] [2] []) .rt) .sk)) Ox)
def Oz:AC:=.kp [1] [1] Oy
def OA:AC:=(.sq (.sq (.rg [] [gF 16 5 1,gQ 17 16,gp 18 (.ln false 17),gB 19 .gtr 18 (kI 16),gM 20 19,gg 21 (.fa 3 1) 20 false,gg 22 (.ld none 21) 20 false,gg 23 (.ln false 22) 20 false,gg 24 (.bo .gtr false 23 (kI 5)) 20 false,gp 25 (.pk 20 (.c (.b true)) 24),gM 26 25,gg 27 (.fa 4 1) 26 false,gg 28 (.ld none 27) 26 false,gg 29 (.ln false 28) 26 false,gg 30 (.bo .gtr false 29 (kI 5)) 26 false,gp 31 (.pk 26 (.c (.b true)) 30),gM 32 31,gg 33 (.fa 6 1) 32 false,gg 34 (.ld none 33) 32 false,gg 35 (.ln false 34) 32 false,gg 36 (.bo .gtr false 35 (kI 5)) 32 false,gp 37 (.pk 32 (.c (.b true)) 36),gM 38 37,gg 39 (.fa 2 1) 38 false,gg 40 (.ld none 39) 38 false,gg 41 (.ln false 40) 38 false,gg 42 (.fa 0 1) 38 false,gg 43 (.fa 0 42) 38 false,gg 44 (.ld none 43) 38 false,gg 45 (.bo .gtr false 41 44) 38 false,gp 46 (.pk 38 (.c (.b true)) 45)] [1,46] [1]) (.ite 46 (.sq (.rg [] [gA 2 (kI 2)] [2] []) .rt) .sk)) Oz)
def OB:AC:=.kp [1] [1] OA
def K8:a8:=⟨(.sq (.rg [] [gp 1 (.bx 0),gA 2 (kI 0)] [1] [1]) (.sq (.sq (.rg [] [gF 10 0 1,gp 11 (.ld (some 2) 10),gp 12 (.ca 0 41 [11]),gA 3 12] [1,3] [1]) (.sq (.rg [] [gM 13 3,gB 14 .neq 13 (kI 0)] [1,3,14] [1]) (.ite 14 (.sq (.rg [] [gM 15 3,gA 2 15] [2] []) .rt) .sk))) OB)),[.t 2]⟩
def OC:AC:=(.sq (.bl 1 (.sq (.rg [] [gp 13 (.ia 5 none 9 11),gp 14 (.ld (some 5) 13),gp 6 (.al [(.l 3 []),(.l 74 []),(.i .i64 0),(.i .i64 0),(.l 53 [])]),gS 5 6 14] [1,4,6,9,10,11] [1,3,6]) (.sq (.rg [] [gF 15 1 6,gQ 16 15,gM 17 4,gp 18 (.c2 62 [16,(kI 1),17]),gp 19 (.no 18)] [1,4,9,10,11,19] [1,3]) (.ite 19 (.sq (.rg [] [gA 2 (.c (.b false))] [2] []) .rt) .sk)))) (.rg [] [gB 20 .add 11 (kI 1),gM 11 20] [1,4,9,10,11] [1,3]))
def OD:AC:=.kp [1,4,9,10,11] [1,3] OC
def OE:AC:=(.sq (.rg [] [gB 12 .lss 11 10] [1,4,9,10,11,12] [1,3]) (.sq (.ite 12 .sk (.ex 0)) OD))
def IU:bm:=⟨[1,4,9,10,11],[1,3],OE⟩
def OF:AC:=(.sq (.rg [] [gF 21 7 1,gQ 22 21,gM 23 4,gp 24 (.c2 62 [22,(kI 1),23]),gA 2 24] [2] []) .rt)
def OG:AC:=.kp [1,4] [1,3] OF
def K9:a8:=⟨(.sq (.rg [] [gp 1 (.bx 0),gA 2 (.c (.b false))] [1] [1]) (.sq (.rg [] [gp 3 (.al [(.i .i64 0)]),gS 1 3 (kI 0)] [1,3] [1,3]) (.sq (.rg [] [gp 7 (.mf 61 [3]),gA 4 7] [1,4] [1,3]) (.sq (.sq (.rg [] [gF 8 6 1,gQ 9 8,gp 10 (.ln false 9),gM 11 (kI 0)] [1,4,9,10,11] [1,3]) (.bl 0 IU.lp)) OG)))),[.t 2]⟩
def OH:AC:=(.sq (.rg [] [gF 32 0 3,gQ 33 32,gM 34 5,gp 35 (.sl 3 1 33 none (some 34)),gM 36 6,gp 37 (.ca 0 63 [35,36])] [0,3,13,14,15,37] [0,3]) (.ite 37 (.sq (.rg [] [gA 4 (kI 6)] [4] []) .rt) .sk))
def OI:AC:=.kp [0,3,5,6,13,14,15] [0,3] OH
def OJ:AC:=(.sq (.bl 1 (.sq (.rg [] [gM 17 15,gp 18 (.ia 1 none 13 15),gQ 19 18,gA 5 17,gA 6 19] [0,3,5,6,13,14,15] [0,3]) (.sq (.sq (.rg [] [gM 20 6,gB 21 .lss 20 (kI 0),gM 22 21,gg 23 (.mv 6) 22 false,gg 24 (.mv 0) 22 false,gg 25 (.nc 24) 22 false,gg 26 (.fa 0 25) 22 false,gg 27 (.fa 5 26) 22 false,gg 28 (.ld none 27) 22 false,gg 29 (.ln false 28) 22 false,gg 30 (.bo .geq false 23 29) 22 false,gp 31 (.pk 22 (.c (.b true)) 30)] [0,3,5,6,13,14,15,31] [0,3]) (.ite 31 (.sq (.rg [] [gA 4 (kI 5)] [4] []) .rt) .sk)) OI))) (.rg [] [gB 38 .add 15 (kI 1),gM 15 38] [0,3,13,14,15] [0,3]))
def OK:AC:=.kp [0,3,13,14,15] [0,3] OJ
def OL:AC:=(.sq (.rg [] [gB 16 .lss 15 14] [0,3,13,14,15,16] [0,3]) (.sq (.ite 16 .sk (.ex 0)) OK))
def IV:bm:=⟨[0,3,13,14,15],[0,3],OL⟩
def OM:AC:=(.sq (.dg [] [] [gL (gF 46 2 3) [3] [],gV (gp 47 (.ld (some 3) 46)) [46] [3] [],gL (gM 48 0) [0] [],gL (gp 49 (.nc 48)) [48] [],gL (gF 50 0 49) [49] [],gL (gF 51 5 50) [50] [],⟨gQ 52 51,true,[51],[],true,[],[],[]⟩,⟨gp 53 (.ln false 52),true,[52],[],true,[],[],[]⟩,gH (gp 54 (.ca 0 37 [47,53])),gH (gA 4 54)] [4] []) .rt)
def ON:AC:=.kp [0,3] [0,3] OM
def OO:AC:=(.sq (.sq (.rg [] [gM 39 0,gF 40 1 3,gQ 41 40,gp 42 (.c2 33 [39,41]),gA 7 42] [0,3,7] [0,3]) (.sq (.rg [] [gM 43 7,gB 44 .neq 43 (kI 0)] [0,3,7,44] [0,3]) (.ite 44 (.sq (.rg [] [gM 45 7,gA 4 45] [4] []) .rt) .sk))) ON)
def OP:AC:=.kp [0,3] [0,3] OO
def OQ:AC:=(.sq (.sq (.rg [] [gF 12 0 3,gQ 13 12,gp 14 (.ln false 13),gM 15 (kI 0)] [0,3,13,14,15] [0,3]) (.bl 0 IV.lp)) OP)
def OR:AC:=.kp [0,3] [0,3] OQ
def La:a8:=⟨(.sq (.rg [] [gp 3 (.bx 1),gA 4 (kI 0)] [0,3] [0,3]) (.sq (.sq (.rg [] [gF 8 0 3,gQ 9 8,gp 10 (.ln false 9),gB 11 .gtr 10 (kI 4)] [0,3,11] [0,3]) (.ite 11 (.sq (.rg [] [gA 4 (kI 2)] [4] []) .rt) .sk)) OR)),[.t 4]⟩
def Lb:a8:=⟨(.sq (.rg [] [gp 2 (.bx 0),gA 4 (kI 0)] [1,2] [0,2]) (.sq (.rg [] [gp 5 (.al [(.i .i64 0)]),gS 1 5 (kI 0)] [1,2,5] [0,2,5]) (.sq (.rg [] [gM 6 1,gp 7 (.mf 64 [2,5]),gp 8 (.c2 62 [6,(kI 1),7])] [5] [5]) (.sq (.rg [] [gQ 9 5,gA 4 9] [4] []) .rt)))),[.t 4]⟩
def Lc:a8:=⟨(.sq (.rg [] [gp 1 (.bx 0),gp 2 (.al [(.l 4 []),(.l 4 [])])] [1,2] [1,2]) (.sq (.dg [] [3,9] [gL (gz 3 (.bs 4 1 [(.c (.b true))])) [] [9],gL (gF 4 0 1) [1] [3,9],gV (gQ 5 4) [4] [1] [3,9],gL (gp 6 (.ca 1 66 [3,5])) [3,5] [9],gL (gF 7 0 1) [1] [3,9],gV (gQ 8 7) [7] [1] [3,9],gL (gz 9 (.ms 4 1 1 (.b false) 8)) [8] [3],gH (gp 10 (.bd [(.l 4 []),(.l 4 [])] [(0,1,6),(1,1,9)])),gH (gS 2 2 10)] [2] [2]) .rt)),[.c 2 (some 2)]⟩
def OS:AC:=(.sq (.dg [] [] [gL (gF 36 0 11) [11] [],gV (gp 37 (.ld (some 2) 36)) [36] [11] [],gL (gM 38 12) [12] [],gL (gF 39 2 11) [11] [],gV (gQ 40 39) [39] [11] [],⟨gp 41 (.ia 2 none 38 40),true,[38,40,12],[],true,[],[],[]⟩,⟨gp 42 (.ld (some 2) 41),true,[41,12],[],true,[],[],[]⟩,gH (gp 43 (.ca 0 27 [37,42])),gH (gp 44 (.no 43))] [4,5,6,11,12,16,17,18,44] [4,5,6,11]) (.ite 44 (.sq (.dg [] [] [gL (gM 45 12) [12] [],gL (gF 46 2 11) [11] [],gV (gQ 47 46) [46] [11] [],gL (gM 48 12) [12] [],gL (gF 49 2 11) [11] [],gV (gQ 50 49) [49] [11] [],⟨gp 51 (.ia 2 none 48 50),true,[48,50,12],[],true,[],[],[]⟩,⟨gp 52 (.ld (some 2) 51),true,[51,12],[],true,[],[],[]⟩,gL (gF 53 0 11) [11] [],gV (gp 54 (.ld (some 2) 53)) [53] [11] [],gL (gp 55 (.ca 0 36 [52,54])) [52,54] [],gH (gp 56 (.ia 2 none 45 47)),gH (gS 2 56 55)] [4,5,6,16,17,18] [4,5,6]) (.rg [] [gS 1 6 (.c (.b true))] [4,5,6,16,17,18] [4,5,6])) .sk))
def IW:AC:=.kp [4,5,6,11,12,16,17,18] [4,5,6,11] OS
def OT:AC:=(.sq (.bl 1 (.sq (.rg [] [gp 20 (.ia 4 none 16 18),gp 21 (.ld (some 4) 20),gp 11 (.al [(.l 4 []),(.l 4 []),(.i .i64 0),(.b false)]),gS 4 11 21] [4,5,6,11,16,17,18] [4,5,6,11]) (.sq (.rg [] [gF 22 1 4,gQ 23 22,gA 12 23] [4,5,6,11,12,16,17,18] [4,5,6,11]) (.sq (.sq (.rg [] [gF 24 3 11,gQ 25 24,gp 26 (.no 25)] [4,5,6,11,12,16,17,18,26] [4,5,6,11]) (.ite 26 (.sq (.rg [] [gF 27 0 4,gQ 28 27,gA 12 28] [4,5,6,11,12,16,17,18] [4,5,6,11]) (.sq (.rg [] [gF 29 5 5,gQ 30 29,gF 31 2 11,gQ 32 31,gp 33 (.ia 3 none 30 32),gF 34 0 33,gQ 35 34] [4,5,6,11,12,16,17,18,35] [4,5,6,11]) (.ite 35 (.ex 1) .sk))) .sk)) IW)))) (.rg [] [gB 57 .add 18 (kI 1),gM 18 57] [4,5,6,16,17,18] [4,5,6]))
def OU:AC:=.kp [4,5,6,16,17,18] [4,5,6] OT
def BW:AC:=(.sq (.rg [] [gB 19 .lss 18 17] [4,5,6,16,17,18,19] [4,5,6]) (.sq (.ite 19 .sk (.ex 0)) OU))
def IX:bm:=⟨[4,5,6,16,17,18],[4,5,6],BW⟩
def Ld:a8:=⟨(.sq (.rg [] [gp 8 (.bx 1),gp 9 (.bx 2)] [3,4,5,6,8,9] [3,4,5,6,8,9]) (.sq (.rg [] [gQ 13 3,gp 14 (.ld (some 9) 8),gp 15 (.ld (some 2) 9),gp 16 (.c2 26 [13,14,15]),gp 17 (.ln false 16),gM 18 (kI 0)] [4,5,6,16,17,18] [4,5,6]) (.bl 0 IX.lp))),[]⟩
def Lf:a8:=⟨(.sq (.rg [] [gp 2 (.bx 0),gp 3 (.bx 1),gp 4 (.al [(.l 4 []),(.l 4 [])])] [2,3,4] [2,3,4]) (.sq (.dg [] [] [gL (gF 5 0 2) [2] [],gV (gQ 6 5) [5] [2] [],gL (gF 7 0 3) [3] [],gV (gQ 8 7) [7] [3] [],gV (gp 9 (.ca 0 40 [6,8])) [6,8] [2,3] [],gL (gF 10 1 2) [2] [],gV (gQ 11 10) [10] [2] [],gL (gF 12 1 3) [3] [],gV (gQ 13 12) [12] [3] [],gH (gp 14 (.ca 0 39 [11,13])),gH (gp 15 (.bd [(.l 4 []),(.l 4 [])] [(0,1,9),(1,1,14)])),gH (gS 2 4 15)] [4] [4]) .rt)),[.c 4 (some 2)]⟩
def OV:AC:=(.sq (.rg [] [gp 8 (.ld (some 3) 2),gM 9 1,gp 10 (.ca 0 68 [8,9]),gA 4 10] [4] []) .rt)
def OW:AC:=.kp [1,2] [2] OV
def Lg:a8:=⟨(.sq (.rg [] [gp 2 (.bx 0),gA 4 (kI 0)] [1,2] [2]) (.sq (.sq (.rg [] [gp 5 (.ld (some 3) 2),gp 6 (.ca 0 67 [5,(kI 15)]),gB 7 .gtr 6 (kI 15)] [1,2,7] [2]) (.ite 7 (.sq (.rg [] [gA 4 (kI 2)] [4] []) .rt) .sk)) OW)),[.t 4]⟩
def IY:a8:=⟨(.sq (.rg [] [gp 3 (.bx 0),gp 4 (.bx 1),gp 5 (.bx 2),gp 6 (.al [(.l 4 []),(.l 4 [])])] [3,4,5,6] [3,4,5,6]) (.sq (.rg [] [gF 9 0 3,gp 10 (.ld (some 2) 9),gp 11 (.ca 0 34 [10]),gp 7 (.al [(.l 4 []),(.l 4 [])]),gS 2 7 11] [4,5,6,7] [4,5,6,7]) (.sq (.sq (.rg [] [gp 12 (.ld (some 3) 5),gp 13 (.ca 0 69 [12])] [4,6,7,13] [4,6,7]) (.bl 0 (.ru 13 14 (.rg [] [gA 8 14] [4,6,7,8] [4,6,7]) (.bl 1 (.dg [] [] [⟨gp 15 (.ld (some 2) 7),true,[7],[],true,[],[],[]⟩,⟨gQ 16 4,true,[4],[],true,[],[],[]⟩,gL (gM 17 8) [8] [],⟨gp 18 (.ia 2 none 16 17),true,[16,17],[],true,[],[],[]⟩,⟨gp 19 (.ld (some 2) 18),true,[18],[],true,[],[],[]⟩,gH (gp 20 (.ca 0 36 [15,19])),gH (gS 2 7 20)] [4,6,7] [4,6,7]))))) (.sq (.rg [] [gp 21 (.ld (some 2) 7),gS 2 6 21] [6] [6]) .rt)))),[.c 6 (some 2)]⟩
def OX:AC:=(.sq (.bl 1 (.sq (.rg [] [gM 12 10,gp 13 (.ia 1 none 8 10),gQ 14 13,gA 6 12,gA 7 14] [1,5,6,7,8,9,10] []) (.rg [] [gM 15 5,gM 16 7,gM 17 16,gg 18 (.mv 1) 17 false,gg 19 (.mv 6) 17 false,gg 20 (.ia 1 none 18 19) 17 false,gg 21 (.ld none 20) 17 false,gp 22 (.pk 17 (.c (.b true)) 21),gz 23 (.bs 4 1 [22]),gp 24 (.ap 4 1 1 15 23),gA 5 24] [1,5,8,9,10] []))) (.rg [] [gB 25 .add 10 (kI 1),gM 10 25] [1,5,8,9,10] []))
def OY:AC:=.kp [1,5,8,9,10] [] OX
def OZ:AC:=(.sq (.rg [] [gB 11 .lss 10 9] [1,5,8,9,10,11] []) (.sq (.ite 11 .sk (.ex 0)) OY))
def IZ:bm:=⟨[1,5,8,9,10],[],OZ⟩
def Lh:a8:=⟨(.sq (.rg [] [gA 4 (.c (.l 4 []))] [0,1] []) (.sq (.rg [] [gA 5 (.c .n)] [0,1,5] []) (.sq (.sq (.rg [.own 5 4] [gM 8 0,gp 9 (.ln false 8),gM 10 (kI 0)] [1,5,8,9,10] []) (.bl 0 IZ.lp)) (.sq (.rg [] [gM 26 5,gA 4 26] [4,5] []) .rt)))),[.t 4]⟩
def O0:AC:=(.sq (.bl 1 (.sq (.rg [] [gM 12 10,gp 13 (.ia 1 none 8 10),gQ 14 13,gA 6 12,gA 7 14] [1,5,6,7,8,9,10] []) (.rg [] [gM 15 5,gM 16 7,gM 17 16,gg 18 (.mv 1) 17 true,gg 19 (.mv 6) 17 true,gg 20 (.ia 1 none 18 19) 17 true,gg 21 (.ld none 20) 17 true,gp 22 (.pk 17 21 (.c (.b false))),gz 23 (.bs 4 1 [22]),gp 24 (.ap 4 1 1 15 23),gA 5 24] [1,5,8,9,10] []))) (.rg [] [gB 25 .add 10 (kI 1),gM 10 25] [1,5,8,9,10] []))
def O1:AC:=.kp [1,5,8,9,10] [] O0
def O2:AC:=(.sq (.rg [] [gB 11 .lss 10 9] [1,5,8,9,10,11] []) (.sq (.ite 11 .sk (.ex 0)) O1))
def I0:bm:=⟨[1,5,8,9,10],[],O2⟩
def Li:a8:=⟨(.sq (.rg [] [gA 4 (.c (.l 4 []))] [0,1] []) (.sq (.rg [] [gA 5 (.c .n)] [0,1,5] []) (.sq (.sq (.rg [.own 5 4] [gM 8 0,gp 9 (.ln false 8),gM 10 (kI 0)] [1,5,8,9,10] []) (.bl 0 I0.lp)) (.sq (.rg [] [gM 26 5,gA 4 26] [4,5] []) .rt)))),[.t 4]⟩
def Lj:a8:=⟨(.sq (.rg [] [gp 1 (.bx 0),gA 2 (kI 0)] [1] [1]) (.sq (.bl 0 (.sq (.rg [] [gF 4 0 1,gQ 5 4,gB 6 .lss 5 (kI 1),gM 7 6,gg 8 (.fa 0 1) 7 false,gg 9 (.ld none 8) 7 false,gg 10 (.bo .gtr false 9 (kI 6)) 7 false,gp 11 (.pk 7 (.c (.b true)) 10),gA 3 11] [1,3] [1]) (.ite 3 (.sq (.rg [] [gA 2 (kI 3)] [2] []) .rt) (.sq (.rg [] [gF 13 1 1,gQ 14 13,gp 15 (.ln false 14),gB 16 .gtr 15 (kI 20),gA 12 16] [1,12] [1]) (.ite 12 (.sq (.rg [] [gA 2 (kI 2)] [2] []) .rt) (.sq (.rg [.fzB 1 true] [gF 18 1 1,gQ 19 18,gp 20 (.mf 71 [1]),gp 21 (.c2 70 [19,20]),gA 17 21] [17] []) (.ite 17 (.sq (.rg [] [gA 2 (kI 5)] [2] []) .rt) .sk))))))) (.sq (.rg [] [gA 2 (kI 0)] [2] []) .rt))),[.t 2]⟩
def O3:AC:=(.sq (.bl 3 (.sq (.rg [] [gp 27 (.ia 2 none 23 25),gp 28 (.ld (some 2) 27),gp 8 (.al [(.i .i64 0),(.l 3 [])]),gS 2 8 28] [2,8,14,15,16,23,24,25] [2,8]) (.sq (.rg [] [gp 29 (.ld (some 2) 2),gp 30 (.ld (some 2) 8),gp 31 (.ca 0 72 [29,30]),gA 9 31] [2,9,14,15,16,23,24,25] [2]) (.sq (.rg [] [gM 32 9,gB 33 .neq 32 (kI 0)] [2,9,14,15,16,23,24,25,33] [2]) (.ite 33 (.sq (.rg [] [gM 34 9,gA 4 34] [4] []) .rt) .sk))))) (.rg [] [gB 35 .add 25 (kI 1),gM 25 35] [2,14,15,16,23,24,25] [2]))
def O4:AC:=.kp [2,14,15,16,23,24,25] [2] O3
def O5:AC:=(.sq (.rg [] [gB 26 .lss 25 24] [2,14,15,16,23,24,25,26] [2]) (.sq (.ite 26 .sk (.ex 2)) O4))
def I1:bm:=⟨[2,14,15,16,23,24,25],[2],O5⟩
def O6:AC:=(.sq (.rg [] [gM 23 6,gp 24 (.ln false 23),gM 25 (kI 0)] [2,14,15,16,23,24,25] [2]) (.bl 2 I1.lp))
def O7:AC:=.kp [2,6,14,15,16] [2] O6
def O8:AC:=(.sq (.bl 1 (.sq (.rg [] [gp 18 (.ia 1 none 14 16),gQ 19 18,gA 6 19] [2,6,14,15,16] [2]) (.sq (.sq (.rg [] [gM 20 6,gp 21 (.ln false 20),gB 22 .gtr 21 (kI 4)] [2,6,14,15,16,22] [2]) (.ite 22 (.sq (.rg [] [gA 4 (kI 2)] [4] []) .rt) .sk)) O7))) (.rg [] [gB 36 .add 16 (kI 1),gM 16 36] [2,14,15,16] [2]))
def O9:AC:=.kp [2,14,15,16] [2] O8
def Pa:AC:=(.sq (.rg [] [gB 17 .lss 16 15] [2,14,15,16,17] [2]) (.sq (.ite 17 .sk (.ex 0)) O9))
def I2:bm:=⟨[2,14,15,16],[2],Pa⟩
def Lk:a8:=⟨(.sq (.rg [] [gp 2 (.bx 0),gp 3 (.bx 1),gA 4 (kI 0)] [2,3] [2,3]) (.sq (.sq (.rg [] [gF 10 0 3,gQ 11 10,gF 12 1 3,gQ 13 12,gz 14 (.bs 58 1 [11,13]),gp 15 (.ln false 14),gM 16 (kI 0)] [2,14,15,16] [2]) (.bl 0 I2.lp)) (.sq (.rg [] [gA 4 (kI 0)] [4] []) .rt))),[.t 4]⟩
def Ll:a8:=⟨(.sq (.rg [] [gp 2 (.bx 0),gA 3 (.c (.b false))] [1,2] [1,2]) (.sq (.rg [] [gF 4 0 1,gp 5 (.ld (some 2) 4),gp 6 (.ld (some 2) 2),gp 7 (.ca 0 44 [5,6]),gp 8 (.no 7),gA 3 8] [3] []) .rt)),[.t 3]⟩
def Lm:a8:=⟨(.sq (.rg [] [gp 2 (.bx 0),gp 3 (.bx 1),gA 4 (.c (.b false))] [2,3] [2,3]) (.sq (.rg [] [gF 5 0 3,gQ 6 5,gp 7 (.ln false 6),gF 8 0 2,gQ 9 8,gB 10 .eql 7 9,gM 11 10,gg 12 (.fa 1 3) 11 true,gg 13 (.ld none 12) 11 true,gg 14 (.ln false 13) 11 true,gg 15 (.fa 0 2) 11 true,gg 16 (.ld none 15) 11 true,gg 17 (.bo .eql false 14 16) 11 true,gp 18 (.pk 11 17 (.c (.b false))),gA 4 18] [4] []) .rt)),[.t 4]⟩
def Ln:a8:=⟨(.sq (.rg [] [gA 4 (.c (.b false))] [0,1] []) (.sq (.rg [] [gM 5 0,gM 6 1,gp 7 (.c2 73 [5,6]),gB 8 .geq 7 (kI 0),gA 4 8] [4] []) .rt)),[.t 4]⟩
def Pb:AC:=(.sq (.bl 5 (.sq (.rg [] [gp 46 (.ia 2 none 42 44),gp 47 (.ld (some 2) 46),gp 9 (.al [(.i .i64 0),(.i .i64 0)]),gS 2 9 47] [1,3,5,6,7,9,11,12,29,42,43,44] [1,9]) (.sq (.rg [] [gF 48 0 9,gQ 49 48,gM 50 7,gB 51 .eql 49 50] [1,3,5,6,7,9,11,12,29,42,43,44,51] [1,9]) (.ite 51 (.rg [] [gM 52 6,gF 53 1 9,gQ 54 53,gz 55 (.bs 3 1 [54]),gp 56 (.ap 3 1 8 52 55),gA 6 56] [1,3,5,6,7,11,12,29,42,43,44] [1]) .sk)))) (.rg [] [gB 57 .add 44 (kI 1),gM 44 57] [1,3,5,6,7,11,12,29,42,43,44] [1]))
def Pc:AC:=.kp [1,3,5,6,7,11,12,29,42,43,44] [1] Pb
def Pd:AC:=(.sq (.rg [] [gB 45 .lss 44 43] [1,3,5,6,7,11,12,29,42,43,44,45] [1]) (.sq (.ite 45 .sk (.ex 4)) Pc))
def I3:bm:=⟨[1,3,5,6,7,11,12,29,42,43,44],[1],Pd⟩
def Pe:AC:=(.sq (.rg [] [gM 38 5,gM 39 7,gp 40 (.ia 1 none 38 39),gS 1 40 (.c (.b true))] [1,3,5,6,7,11,12,29] [1]) (.sq (.rg [] [gF 41 1 1,gQ 42 41,gp 43 (.ln false 42),gM 44 (kI 0)] [1,3,5,6,7,11,12,29,42,43,44] [1]) (.bl 4 I3.lp)))
def Pf:AC:=.kp [1,3,5,6,7,11,12,29] [1] Pe
def Pg:AC:=(.bl 3 (.sq (.rg [] [gM 23 6,gM 24 6,gp 25 (.ln false 24),gB 26 .sub 25 (kI 1),gp 27 (.ia 1 none 23 26),gQ 28 27,gA 7 28] [1,3,5,6,7,11,12,29] [1]) (.sq (.rg [] [gM 29 6,gM 30 6,gp 31 (.ln false 30),gB 32 .sub 31 (kI 1),gp 33 (.sl 3 1 29 none (some 32)),gA 6 33] [1,3,5,6,7,11,12,29] [1]) (.sq (.sq (.rg [] [gM 34 5,gM 35 7,gp 36 (.ia 1 none 34 35),gQ 37 36] [1,3,5,6,7,11,12,29,37] [1]) (.ite 37 (.ex 3) .sk)) Pf))))
def Ph:AC:=.kp [1,3,5,6,11,12,29] [1] Pg
def Pj:AC:=(.sq (.sq (.rg [.own 6 3] [gM 20 6,gp 21 (.ln false 20),gB 22 .gtr 21 (kI 0)] [1,3,5,6,11,12,22,29] [1]) (.ite 22 .sk (.ex 2))) Ph)
def I4:bm:=⟨[1,3,5,6,11,12,29],[1],Pj⟩
def Pk:AC:=(.rg [.fz 5] [gM 58 3,gM 59 5,gz 60 (.bs 42 1 [59]),gp 61 (.ap 42 1 24 58 60),gA 3 61] [1,3,11,12] [1])
def Pm:AC:=.kp [1,3,5,11,12] [1] Pk
def Pn:AC:=(.sq (.bl 1 (.sq (.rg [] [gM 14 12,gA 4 14] [1,3,4,11,12] [1]) (.sq (.rg [] [gF 15 0 1,gQ 16 15,gp 17 (.ms 4 1 1 (.b false) 16),gA 5 17] [1,3,4,5,11,12] [1]) (.sq (.rg [] [gM 18 4,gp 19 (.bs 3 1 [18]),gA 6 19] [1,3,5,6,11,12,29] [1]) (.sq (.bl 2 I4.lp) Pm))))) (.rg [] [gB 62 .add 12 (kI 1),gM 12 62] [1,3,11,12] [1]))
def Po:AC:=.kp [1,3,11,12] [1] Pn
def Pp:AC:=(.sq (.rg [] [gB 13 .lss 12 11] [1,3,11,12,13] [1]) (.sq (.ite 13 .sk (.ex 0)) Po))
def I5:bm:=⟨[1,3,11,12],[1],Pp⟩
def Lo:a8:=⟨(.sq (.rg [] [gp 1 (.bx 0),gA 2 (.c (.l 42 []))] [1] [1]) (.sq (.rg [] [gA 3 (.c .n)] [1,3] [1]) (.sq (.sq (.rg [.own 3 42] [gF 10 0 1,gQ 11 10,gM 12 (kI 0)] [1,3,11,12] [1]) (.bl 0 I5.lp)) (.sq (.rg [] [gM 63 3,gA 2 63] [2,3] []) .rt)))),[.t 2]⟩
def Pq:AC:=(.sq (.bl 1 (.sq (.rg [] [gM 12 10,gp 6 (.al [(.i .i64 0)]),gS 1 6 12] [0,2,5,6,9,10] [2,6]) (.sq (.rg [.fzB 6 false] [gp 13 (.mf 48 [2,6]),gA 7 13] [0,2,5,7,9,10] [2,6]) (.rg [] [gM 14 5,gM 15 0,gM 16 7,gp 17 (.c2 51 [15,16]),gp 18 (.no 17),gz 19 (.bs 4 1 [18]),gp 20 (.ap 4 1 1 14 19),gA 5 20] [0,2,5,9,10] [2])))) (.rg [] [gB 21 .add 10 (kI 1),gM 10 21] [0,2,5,9,10] [2]))
def Pr:AC:=.kp [0,2,5,9,10] [2] Pq
def Ps:AC:=(.sq (.rg [] [gB 11 .lss 10 9] [0,2,5,9,10,11] [2]) (.sq (.ite 11 .sk (.ex 0)) Pr))
def I6:bm:=⟨[0,2,5,9,10],[2],Ps⟩
def Lq:a8:=⟨(.sq (.rg [] [gA 4 (.c (.l 4 []))] [0,1,2] [1,2]) (.sq (.rg [] [gA 5 (.c .n)] [0,1,2,5] [1,2]) (.sq (.sq (.rg [.own 5 4] [gF 8 0 1,gQ 9 8,gM 10 (kI 0)] [0,2,5,9,10] [2]) (.bl 0 I6.lp)) (.sq (.rg [] [gM 22 5,gA 4 22] [4,5] []) .rt)))),[.t 4]⟩
def Lr:a8:=⟨(.sq (.rg [] [gp 3 (.bx 0),gA 4 (.c (.b false))] [1,2,3] [1,2,3]) (.sq (.dg [] [] [⟨gQ 5 1,true,[1],[],true,[],[],[]⟩,⟨gQ 6 2,true,[2],[],true,[],[],[]⟩,⟨gp 7 (.ia 1 none 5 6),true,[5,6],[],true,[],[],[]⟩,⟨gQ 8 7,true,[7],[],true,[],[],[]⟩,gL (gF 9 0 3) [3] [],gV (gQ 10 9) [9] [3] [],gL (gp 11 (.ia 1 none 8 10)) [8,10] [],gL (gQ 12 11) [11] [],gL (gp 13 (.no 12)) [12] [],gL (gM 14 13) [13] [],gL (gg 15 (.fa 1 3) 14 true) [3] [],gV (gg 16 (.ld none 15) 14 true) [15] [3] [],gL (gg 17 (.mf 50 [1,2]) 14 true) [1,2] [],gH (gg 18 (.c2 49 [16,17]) 14 true),gH (gg 19 (.no 18) 14 true),gH (gp 20 (.pk 14 19 (.c (.b false)))),gH (gA 4 20)] [4] []) .rt)),[.t 4]⟩
def Ls:a8:=⟨(.sq (.rg [] [gA 4 (.c (.b false))] [0,1] []) (.sq (.rg [] [gM 5 0,gM 6 1,gp 7 (.c2 74 [5,6]),gB 8 .geq 7 (kI 0),gA 4 8] [4] []) .rt)),[.t 4]⟩
def Lt:a8:=⟨(.sq (.rg [] [gA 4 (.c (.b false))] [0,1,2] [1,2]) (.sq (.rg [] [gQ 5 1,gQ 6 2,gp 7 (.ia 1 none 5 6),gQ 8 7,gM 9 0,gp 10 (.ia 1 none 8 9),gQ 11 10,gA 4 11] [4] []) .rt)),[.t 4]⟩
def Lu:a8:=⟨(.sq (.rg [] [gA 4 (.c (.b false))] [0,1] []) (.sq (.rg [] [gM 5 0,gM 6 1,gp 7 (.c2 75 [5,6]),gB 8 .geq 7 (kI 0),gA 4 8] [4] []) .rt)),[.t 4]⟩
def I7:a8:=⟨(.sq (.rg [] [gp 3 (.bx 0),gp 4 (.al [(.l 4 []),(.l 4 [])])] [1,2,3,4] [1,2,3,4]) (.sq (.dg [] [] [⟨gp 5 (.ld (some 2) 1),true,[1],[],true,[],[],[]⟩,⟨gQ 6 2,true,[2],[],true,[],[],[]⟩,gL (gp 7 (.nc 6)) [6] [],gL (gF 8 0 7) [7] [],⟨gp 9 (.ld (some 8) 8),true,[8],[],true,[],[],[]⟩,⟨gQ 10 2,true,[2],[],true,[],[],[]⟩,gL (gp 11 (.nc 10)) [10] [],gL (gF 12 8 11) [11] [],gL (gF 13 0 12) [12] [],⟨gQ 14 13,true,[13],[],true,[],[],[]⟩,gV (gp 15 (.ld (some 3) 3)) [3] [3] [],⟨gp 16 (.ca 0 38 [9,14,15]),true,[9,14,15],[],true,[],[],[]⟩,gH (gp 17 (.ca 0 36 [5,16])),gH (gS 2 4 17)] [4] [4]) .rt)),[.c 4 (some 2)]⟩
def Pt:AC:=(.sq (.bl 1 (.sq (.rg [] [gM 11 9,gp 12 (.ia 1 none 7 9),gQ 13 12,gA 5 11,gA 6 13] [1,5,6,7,8,9] []) (.sq (.rg [] [gM 14 6,gM 15 14,gg 16 (.mv 1) 15 true,gg 17 (.mv 5) 15 true,gg 18 (.ia 1 none 16 17) 15 true,gg 19 (.ld none 18) 15 true,gg 20 (.no 19) 15 true,gp 21 (.pk 15 20 (.c (.b false)))] [1,7,8,9,21] []) (.ite 21 (.sq (.rg [] [gA 4 (.c (.b false))] [4] []) .rt) .sk)))) (.rg [] [gB 22 .add 9 (kI 1),gM 9 22] [1,7,8,9] []))
def Pu:AC:=.kp [1,7,8,9] [] Pt
def Pv:AC:=(.sq (.rg [] [gB 10 .lss 9 8] [1,7,8,9,10] []) (.sq (.ite 10 .sk (.ex 0)) Pu))
def I8:bm:=⟨[1,7,8,9],[],Pv⟩
def Lv:a8:=⟨(.sq (.rg [] [gA 4 (.c (.b false))] [0,1] []) (.sq (.sq (.rg [] [gM 7 0,gp 8 (.ln false 7),gM 9 (kI 0)] [1,7,8,9] []) (.bl 0 I8.lp)) (.sq (.rg [] [gA 4 (.c (.b true))] [4] []) .rt))),[.t 4]⟩
def Pw:AC:=(.sq (.bl 1 (.sq (.rg [] [gp 13 (.ia 9 none 9 11),gp 14 (.ld (some 9) 13),gp 7 (.al [(.i .i64 0),(.i .i64 0),(.i .i64 0),(.i .i64 0),(.i .i64 0),(.l 53 []),(.l 53 []),(.l 74 []),(.l 74 [])]),gS 9 7 14] [0,5,7,9,10,11] [0,5,7]) (.sq (.dg [] [] [gL (gM 15 0) [0] [],gL (gp 16 (.nc 15)) [15] [],gL (gF 17 10 16) [16] [],⟨gQ 18 17,true,[17],[],true,[],[],[]⟩,gL (gM 19 0) [0] [],gL (gp 20 (.nc 19)) [19] [],gL (gF 21 11 20) [20] [],⟨gQ 22 21,true,[21],[],true,[],[],[]⟩,gV (gp 23 (.ld (some 9) 7)) [7] [7] [],gV (gp 24 (.ld (some 2) 5)) [5] [5] [],gH (gp 25 (.d2 18 [22,23,24]))] [0,5,7,9,10,11] [0,5,7]) (.sq (.rg [] [gM 26 0,gp 27 (.nc 26),gF 28 11 27,gQ 29 28,gB 30 .add 29 (kI 1),gp 31 (.nc 26),gF 32 11 31,gS 1 32 30] [0,5,7,9,10,11] [0,5,7]) (.sq (.rg [] [gF 33 0 7,gQ 34 33,gB 35 .geq 34 (kI 7)] [0,5,7,9,10,11,35] [0,5,7]) (.ite 35 (.sq (.dg [] [8] [gV (gp 36 (.ld (some 2) 5)) [5] [5] [8],gL (gM 37 0) [0] [8],gL (gp 38 (.nc 37)) [37] [8],gL (gF 39 0 38) [38] [8],⟨gp 40 (.ld (some 8) 39),true,[39],[],true,[],[8],[]⟩,gL (gM 41 0) [0] [8],gL (gp 42 (.nc 41)) [41] [8],gL (gF 43 8 42) [42] [8],gL (gF 44 0 43) [43] [8],⟨gQ 45 44,true,[44],[],true,[],[8],[]⟩,gL (gF 46 3 7) [7] [8],gV (gp 47 (.ld (some 3) 46)) [46] [7] [8],⟨gp 48 (.ca 0 38 [40,45,47]),true,[40,45,47],[],true,[],[8],[]⟩,gL (gp 49 (.ca 0 36 [36,48])) [36,48] [8],gL (gp 8 (.al [(.l 4 []),(.l 4 [])])) [] [],gH (gS 2 8 49)] [0,5,7,8,9,10,11] [0,5,7,8]) (.sq (.rg [] [gM 50 0,gF 51 7 7,gQ 52 51,gp 53 (.ld (some 2) 8),gp 54 (.c2 54 [50,52,53])] [0,5,7,8,9,10,11] [0,5,7,8]) (.rg [] [gM 55 0,gF 56 8 7,gQ 57 56,gp 58 (.ld (some 2) 8),gp 59 (.c2 54 [55,57,58])] [0,5,9,10,11] [0,5]))) .sk)))))) (.rg [] [gB 60 .add 11 (kI 1),gM 11 60] [0,5,9,10,11] [0,5]))
def Px:AC:=.kp [0,5,9,10,11] [0,5] Pw
def yr:AC:=(.sq (.rg [] [gB 12 .lss 11 10] [0,5,9,10,11,12] [0,5]) (.sq (.ite 12 .sk (.ex 0)) Px))
def I9:bm:=⟨[0,5,9,10,11],[0,5],yr⟩
def Lw:a8:=⟨(.sq (.rg [] [gp 5 (.bx 2)] [0,1,5] [0,5]) (.sq (.rg [] [gM 9 1,gp 10 (.ln false 9),gM 11 (kI 0)] [0,5,9,10,11] [0,5]) (.bl 0 I9.lp))),[]⟩
def Lx:a8:=⟨(.sq (.rg [] [gp 2 (.bx 0),gA 3 (.c (.b false))] [1,2] [1,2]) (.sq (.rg [] [gp 4 (.ld (some 2) 1),gp 5 (.ld (some 2) 2),gp 6 (.ca 0 44 [4,5]),gp 7 (.no 6),gA 3 7] [3] []) .rt)),[.t 3]⟩
def Ly:a8:=⟨(.sq (.rg [] [gA 3 (.c (.b false))] [0,1] [1]) (.sq (.rg [] [gF 4 0 1,gp 5 (.ld (some 2) 4),gM 6 0,gp 7 (.ca 0 57 [5,6]),gp 8 (.no 7),gA 3 8] [3] []) .rt)),[.t 3]⟩
def Lz:a8:=⟨(.sq (.rg [] [gp 2 (.bx 0),gA 4 (.c (.b false))] [1,2] [2]) (.sq (.rg [] [gM 5 1,gB 6 .geq 5 (kI 0),gM 7 6,gg 8 (.mv 1) 7 true,gg 9 (.fa 0 2) 7 true,gg 10 (.ld none 9) 7 true,gg 11 (.bo .lss false 8 10) 7 true,gp 12 (.pk 7 11 (.c (.b false))),gA 4 12] [4] []) .rt)),[.t 4]⟩
def Py:AC:=(.sq (.bl 1 (.sq (.rg [] [gp 13 (.ia 1 none 9 11),gQ 14 13,gA 5 14] [0,3,5,9,10,11] []) (.sq (.rg [] [gM 15 3,gM 16 5,gp 17 (.ln false 16),gB 18 .add 15 17,gA 3 18] [0,3,9,10,11] []) (.sq (.rg [] [gM 19 3,gB 20 .lss 19 (kI 0)] [0,3,9,10,11,20] []) (.ite 20 .bad .sk))))) (.rg [] [gB 22 .add 11 (kI 1),gM 11 22] [0,3,9,10,11] []))
def Pz:AC:=.kp [0,3,9,10,11] [] Py
def PA:AC:=(.sq (.rg [] [gB 12 .lss 11 10] [0,3,9,10,11,12] []) (.sq (.ite 12 .sk (.ex 0)) Pz))
def Ja:bm:=⟨[0,3,9,10,11],[],PA⟩
def PB:AC:=(.sq (.bl 3 (.sq (.rg [] [gp 29 (.ia 1 none 25 27),gQ 30 29,gA 8 30] [6,8,25,26,27] []) (.rg [] [gM 31 6,gM 32 8,gp 33 (.ap 60 2 48 31 32),gA 6 33] [6,25,26,27] []))) (.rg [] [gB 34 .add 27 (kI 1),gM 27 34] [6,25,26,27] []))
def PC:AC:=.kp [6,25,26,27] [] PB
def PD:AC:=(.sq (.rg [] [gB 28 .lss 27 26] [6,25,26,27,28] []) (.sq (.ite 28 .sk (.ex 2)) PC))
def Jb:bm:=⟨[6,25,26,27],[],PD⟩
def PE:AC:=(.sq (.rg [] [gM 23 3,gp 24 (.cr 60 76 [(.c .n),23]),gA 6 24] [0,6] []) (.sq (.sq (.rg [.own 6 60] [gM 25 0,gp 26 (.ln false 25),gM 27 (kI 0)] [6,25,26,27] []) (.bl 2 Jb.lp)) (.sq (.rg [] [gM 35 6,gA 2 35] [2,6] []) .rt)))
def PF:AC:=.kp [0,3] [] PE
def LA:a8:=⟨(.sq (.rg [] [gA 2 (.c (.l 60 []))] [0] []) (.sq (.rg [] [gA 3 (kI 0)] [0,3] []) (.sq (.sq (.rg [] [gM 9 0,gp 10 (.ln false 9),gM 11 (kI 0)] [0,3,9,10,11] []) (.bl 0 Ja.lp)) PF))),[.t 2]⟩
def LB:a8:=⟨(.sq (.rg [] [gA 4 (.c (.b false))] [0,1] []) (.sq (.rg [] [gM 5 0,gM 6 1,gp 7 (.c2 77 [5,6]),gB 8 .geq 7 (kI 0),gA 4 8] [4] []) .rt)),[.t 4]⟩
def LC:a8:=⟨(.sq (.rg [] [gp 1 (.bx 0),gA 2 (.c (.b false))] [1] [1]) (.sq (.rg [] [gF 3 0 1,gQ 4 3,gp 5 (.no 4),gM 6 5,gg 7 (.fa 1 1) 6 true,gg 8 (.fa 0 7) 6 true,gg 9 (.ld none 8) 6 true,gg 10 (.ln false 9) 6 true,gg 11 (.fa 1 1) 6 true,gg 12 (.fa 1 11) 6 true,gg 13 (.ld none 12) 6 true,gg 14 (.ln false 13) 6 true,gg 15 (.bo .add false 10 14) 6 true,gg 16 (.bo .gtr false 15 (kI 0)) 6 true,gp 17 (.pk 6 16 (.c (.b false))),gA 2 17] [2] []) .rt)),[.t 2]⟩
def LD:a8:=⟨(.sq (.rg [] [gp 3 (.bx 0),gA 5 (.c (.b false))] [1,2] [2]) (.sq (.rg [] [gQ 6 2,gB 7 .add 6 (kI 1),gS 1 2 7] [1,2] [2]) (.sq (.rg [] [gQ 8 2,gB 9 .leq 8 (kI 50),gM 10 9,gg 11 (.mv 1) 10 true,gg 12 (.bo .leq false 11 (kI 6)) 10 true,gp 13 (.pk 10 12 (.c (.b false))),gA 5 13] [5] []) .rt))),[.t 5]⟩
def PG:AC:=(.sq (.bl 1 (.sq (.rg [] [gp 13 (.ia 9 none 9 11),gp 14 (.ld (some 9) 13),gp 8 (.al [(.i .i64 0),(.i .i64 0),(.i .i64 0),(.i .i64 0),(.i .i64 0),(.l 53 []),(.l 53 []),(.l 74 []),(.l 74 [])]),gS 9 8 14] [1,2,8,9,10,11] [8]) (.sq (.rg [] [gM 15 2,gp 16 (.ld (some 9) 8),gM 17 1,gp 18 (.d2 15 [16,17]),gp 19 (.no 18),gM 20 19,gg 21 (.fa 7 8) 20 false,gg 22 (.ld none 21) 20 false,gg 23 (.mv 1) 20 false,gg 24 (.bo .add false 23 (kI 1)) 20 false,gg 25 (.mv 2) 20 false,gg 26 (.c2 62 [22,24,25]) 20 false,gg 27 (.no 26) 20 false,gp 28 (.pk 20 (.c (.b true)) 27),gM 29 28,gg 30 (.fa 8 8) 29 false,gg 31 (.ld none 30) 29 false,gg 32 (.mv 1) 29 false,gg 33 (.bo .add false 32 (kI 1)) 29 false,gg 34 (.mv 2) 29 false,gg 35 (.c2 62 [31,33,34]) 29 false,gg 36 (.no 35) 29 false,gp 37 (.pk 29 (.c (.b true)) 36)] [1,2,9,10,11,37] []) (.ite 37 (.sq (.rg [] [gA 6 (.c (.b false))] [6] []) .rt) .sk)))) (.rg [] [gB 38 .add 11 (kI 1),gM 11 38] [1,2,9,10,11] []))
def PH:AC:=.kp [1,2,9,10,11] [] PG
def PI:AC:=(.sq (.rg [] [gB 12 .lss 11 10] [1,2,9,10,11,12] []) (.sq (.ite 12 .sk (.ex 0)) PH))
def Fi:bm:=⟨[1,2,9,10,11],[],PI⟩
def LF:a8:=⟨(.sq (.rg [] [gA 6 (.c (.b false))] [0,1,2] []) (.sq (.sq (.rg [] [gM 9 0,gp 10 (.ln false 9),gM 11 (kI 0)] [1,2,9,10,11] []) (.bl 0 Fi.lp)) (.sq (.rg [] [gA 6 (.c (.b true))] [6] []) .rt))),[.t 6]⟩
def LG:a8:=⟨(.sq (.rg [] [gA 4 (.c (.b false))] [0,1] []) (.sq (.rg [] [gM 5 0,gM 6 1,gp 7 (.ca 0 78 [5,6]),gB 8 .geq 7 (kI 0),gA 4 8] [4] []) .rt)),[.t 4]⟩
def LH:a8:=⟨(.sq (.rg [] [gp 4 (.bx 0),gA 6 (.c (.b false))] [2,3,4] [2,3,4]) (.sq (.rg [] [gQ 7 2,gp 8 (.ld (some 9) 4),gp 9 (.c3 65 [7,8]),gS 1 3 9] [3] [3]) (.sq (.rg [] [gQ 10 3,gB 11 .eql 10 (kI 0),gA 6 11] [6] []) .rt))),[.t 6]⟩
def PJ:AC:=(.sq (.bl 2 (.sq (.rg [] [gp 175 (.ia 3 none 171 173),gp 176 (.ld (some 3) 175),gp 13 (.al [(.i .i64 0),(.i .i64 0),(.l 53 [])]),gS 3 13 176] [0,13,171,172,173] [0,13]) (.sq (.dg [] [] [gV (gp 177 (.ld (some 3) 13)) [13] [13] [],gL (gM 178 0) [0] [],gL (gp 179 (.nc 178)) [178] [],gL (gF 180 0 179) [179] [],gL (gF 181 5 180) [180] [],⟨gQ 182 181,true,[181],[],true,[],[],[]⟩,⟨gp 183 (.ln false 182),true,[182],[],true,[],[],[]⟩,gH (gp 184 (.ca 0 37 [177,183])),gH (gA 14 184)] [0,14,171,172,173] [0]) (.sq (.rg [] [gM 185 14,gB 186 .neq 185 (kI 0)] [0,14,171,172,173,186] [0]) (.ite 186 (.sq (.rg [] [gM 187 14,gA 4 187] [4] []) .rt) .sk))))) (.rg [] [gB 188 .add 173 (kI 1),gM 173 188] [0,171,172,173] [0]))
def PK:AC:=.kp [0,171,172,173] [0] PJ
def PL:AC:=(.sq (.rg [] [gB 174 .lss 173 172] [0,171,172,173,174] [0]) (.sq (.ite 174 .sk (.ex 1)) PK))
def Jc:bm:=⟨[0,171,172,173],[0],PL⟩
def Jd:AC:=(.sq (.sq (.rg [] [gF 170 6 3,gQ 171 170,gp 172 (.ln false 171),gM 173 (kI 0)] [0,171,172,173] [0]) (.bl 1 Jc.lp)) (.sq (.rg [] [gA 4 (kI 0)] [4] []) .rt))
def PM:AC:=.kp [0,3] [0,3] Jd
def Je:AC:=(.sq (.sq (.rg [] [gM 157 8] [0,3,157] [0,3]) (.ite 157 (.sq (.dg [] [] [gL (gF 158 3 3) [3] [],gV (gp 159 (.ld (some 3) 158)) [158] [3] [],gL (gM 160 0) [0] [],gL (gp 161 (.nc 160)) [160] [],gL (gF 162 0 161) [161] [],gL (gF 163 5 162) [162] [],⟨gQ 164 163,true,[163],[],true,[],[],[]⟩,⟨gp 165 (.ln false 164),true,[164],[],true,[],[],[]⟩,gH (gp 166 (.ca 0 37 [159,165])),gH (gA 11 166)] [0,3,11] [0,3]) (.sq (.rg [] [gM 167 11,gB 168 .neq 167 (kI 0)] [0,3,11,168] [0,3]) (.ite 168 (.sq (.rg [] [gM 169 11,gA 4 169] [4] []) .rt) .sk))) .sk)) PM)
def PN:AC:=.kp [0,3,8] [0,3] Je
def PO:AC:=(.sq (.rg [] [gM 24 5,gp 25 (.ca 0 79 [24]),gM 23 25,gp 26 (.ex 23 0),gp 27 (.ex 23 1),gp 28 (.ex 23 2),gA 6 26,gA 7 27,gA 8 28] [0,3,5,6,7,8] [0,3]) (.sq (.rg [] [gM 29 5,gB 30 .geq 29 (kI 7),gA 9 30] [0,3,5,6,7,8,9] [0,3]) (.sq (.rg [] [gF 31 3 3,gF 32 0 31,gQ 33 32,gB 34 .eql 33 (kI 0),gM 35 34,gg 36 (.fa 3 3) 35 true,gg 37 (.fa 1 36) 35 true,gg 38 (.ld none 37) 35 true,gg 39 (.bo .eql false 38 (kI 0)) 35 true,gp 40 (.pk 35 39 (.c (.b false))),gM 41 40,gg 42 (.fa 3 3) 41 true,gg 43 (.fa 2 42) 41 true,gg 44 (.ld none 43) 41 true,gg 45 (.ln false 44) 41 true,gg 46 (.bo .eql false 45 (kI 0)) 41 true,gp 47 (.pk 41 46 (.c (.b false))),gA 10 47] [0,3,5,6,7,8,9,10] [0,3]) (.sq (.bl 0 (.sq (.dg [] [] [gL (gM 49 6) [6] [],gL (gM 50 49) [49] [],gL (gg 51 (.fa 1 3) 50 true) [3] [],gV (gg 52 (.ld none 51) 50 true) [51] [3] [],gL (gg 53 (.bo .lss false 52 (kI 0)) 50 true) [52] [],gL (gg 54 (.mv 53) 50 true) [53] [],gL (gg 55 (.fa 1 3) 54 false) [3] [],gV (gg 56 (.ld none 55) 54 false) [55] [3] [],gL (gg 57 (.mv 0) 54 false) [0] [],gL (gg 58 (.nc 57) 54 false) [57] [],gL (gg 59 (.fa 0 58) 54 false) [58] [],gL (gg 60 (.fa 5 59) 54 false) [59] [],⟨gg 61 (.ld none 60) 54 false,true,[60],[],true,[],[],[]⟩,⟨gg 62 (.ln false 61) 54 false,true,[61],[],true,[],[],[]⟩,gL (gg 63 (.bo .geq false 56 62) 54 false) [56,62] [],gL (gg 64 (.pk 54 (.c (.b true)) 63) 50 true) [54,63] [],gL (gp 65 (.pk 50 64 (.c (.b false)))) [50,64] [],gL (gM 66 65) [65] [],gL (gg 67 (.mv 7) 66 false) [7] [],gL (gg 68 (.mv 67) 66 false) [67] [],gL (gg 69 (.fa 2 3) 68 true) [3] [],gV (gg 70 (.ld none 69) 68 true) [69] [3] [],gL (gg 71 (.bo .lss false 70 (kI 0)) 68 true) [70] [],gL (gg 72 (.mv 71) 68 true) [71] [],gL (gg 73 (.fa 2 3) 72 false) [3] [],gV (gg 74 (.ld none 73) 72 false) [73] [3] [],gL (gg 75 (.mv 0) 72 false) [0] [],gL (gg 76 (.mv 5) 72 false) [5] [],⟨gg 77 (.c3 80 [75,76]) 72 false,true,[75,76],[],true,[],[],[]⟩,gH (gg 78 (.bo .geq false 74 77) 72 false),gH (gg 79 (.pk 72 (.c (.b true)) 78) 68 true),gH (gg 80 (.pk 68 79 (.c (.b false))) 66 false),gH (gp 81 (.pk 66 (.c (.b true)) 80)),gH (gA 48 81)] [0,3,5,6,7,8,9,10,48] [0,3]) (.ite 48 (.sq (.rg [] [gA 4 (kI 5)] [4] []) .rt) (.sq (.rg [] [gM 83 6,gp 84 (.no 83),gM 85 84,gg 86 (.fa 1 3) 85 true,gg 87 (.ld none 86) 85 true,gg 88 (.bo .neq false 87 (kI 0)) 85 true,gp 89 (.pk 85 88 (.c (.b false))),gM 90 89,gg 91 (.mv 7) 90 false,gg 92 (.no 91) 90 false,gg 93 (.mv 92) 90 false,gg 94 (.fa 2 3) 93 true,gg 95 (.ld none 94) 93 true,gg 96 (.bo .neq false 95 (kI 0)) 93 true,gg 97 (.pk 93 96 (.c (.b false))) 90 false,gp 98 (.pk 90 (.c (.b true)) 97),gM 99 98,gg 100 (.mv 8) 99 false,gg 101 (.no 100) 99 false,gg 102 (.mv 101) 99 false,gg 103 (.mv 10) 102 true,gg 104 (.no 103) 102 true,gg 105 (.pk 102 104 (.c (.b false))) 99 false,gp 106 (.pk 99 (.c (.b true)) 105),gM 107 106,gg 108 (.mv 5) 107 false,gg 109 (.bo .neq false 108 (kI 2)) 107 false,gg 110 (.mv 109) 107 false,gg 111 (.fa 6 3) 110 true,gg 112 (.ld none 111) 110 true,gg 113 (.ln false 112) 110 true,gg 114 (.bo .gtr false 113 (kI 0)) 110 true,gg 115 (.pk 110 114 (.c (.b false))) 107 false,gp 116 (.pk 107 (.c (.b true)) 115),gM 117 116,gg 118 (.mv 9) 117 false,gg 119 (.no 118) 117 false,gg 120 (.mv 119) 117 false,gg 121 (.fa 7 3) 120 true,gg 122 (.ld none 121) 120 true,gg 123 (.ln false 122) 120 true,gg 124 (.bo .gtr false 123 (kI 0)) 120 true,gg 125 (.pk 120 124 (.c (.b false))) 117 false,gp 126 (.pk 117 (.c (.b true)) 125),gM 127 126,gg 128 (.mv 5) 127 false,gg 129 (.bo .neq false 128 (kI 7)) 127 false,gg 130 (.mv 129) 127 false,gg 131 (.fa 8 3) 130 true,gg 132 (.ld none 131) 130 true,gg 133 (.ln false 132) 130 true,gg 134 (.bo .gtr false 133 (kI 0)) 130 true,gg 135 (.pk 130 134 (.c (.b false))) 127 false,gp 136 (.pk 127 (.c (.b true)) 135),gA 82 136] [0,3,5,8,82] [0,3]) (.ite 82 (.sq (.rg [] [gA 4 (kI 1)] [4] []) .rt) (.sq (.dg [] [] [gL (gM 138 5) [5] [],gL (gB 139 .eql 138 (kI 2)) [138] [],gL (gM 140 139) [139] [],gL (gg 141 (.fa 6 3) 140 true) [3] [],gV (gg 142 (.ld none 141) 140 true) [141] [3] [],gV (gg 143 (.ln false 142) 140 true) [142] [3] [],gL (gg 144 (.mv 0) 140 true) [0] [],gL (gg 145 (.nc 144) 140 true) [144] [],gL (gg 146 (.fa 0 145) 140 true) [145] [],gL (gg 147 (.fa 6 146) 140 true) [146] [],⟨gg 148 (.ld none 147) 140 true,true,[147],[],true,[],[],[]⟩,gL (gg 149 (.fa 2 3) 140 true) [3] [],gV (gg 150 (.ld none 149) 140 true) [149] [3] [],⟨gg 151 (.ia 5 none 148 150) 140 true,true,[148,150],[],true,[],[],[]⟩,⟨gg 152 (.fa 0 151) 140 true,true,[151],[],true,[],[],[]⟩,⟨gg 153 (.ld none 152) 140 true,true,[152],[],true,[],[],[]⟩,gL (gg 154 (.ln false 153) 140 true) [153] [],gH (gg 155 (.bo .neq false 143 154) 140 true),gH (gp 156 (.pk 140 155 (.c (.b false)))),gH (gA 137 156)] [0,3,8,137] [0,3]) (.ite 137 (.sq (.rg [] [gA 4 (kI 1)] [4] []) .rt) .sk))))))) PN))))
def PQ:AC:=.kp [0,3,5] [0,3] PO
def LI:a8:=⟨(.sq (.rg [] [gp 3 (.bx 1),gA 4 (kI 0)] [0,3] [0,3]) (.sq (.rg [] [gF 15 0 3,gQ 16 15,gA 5 16] [0,3,5] [0,3]) (.sq (.sq (.rg [] [gM 17 5,gB 18 .lss 17 (kI 1),gM 19 18,gg 20 (.mv 5) 19 false,gg 21 (.bo .gtr false 20 (kI 8)) 19 false,gp 22 (.pk 19 (.c (.b true)) 21)] [0,3,5,22] [0,3]) (.ite 22 (.sq (.rg [] [gA 4 (kI 7)] [4] []) .rt) .sk)) PQ))),[.t 4]⟩
def PR:AC:=(.rg [] [gM 18 5,gp 19 (.ld (some 3) 7),gM 20 1,gM 21 5,gB 22 .sub 20 21,gp 23 (.ca 0 67 [19,22]),gB 24 .add 18 23,gA 5 24] [1,5,9,10,11] [])
def PS:AC:=.kp [1,5,7,9,10,11] [7] PR
def PT:AC:=(.sq (.bl 1 (.sq (.rg [] [gp 13 (.ia 3 none 9 11),gp 14 (.ld (some 3) 13),gp 7 (.al [(.i .i64 0),(.i .i64 0),(.l 53 [])]),gS 3 7 14] [1,5,7,9,10,11] [7]) (.sq (.sq (.rg [] [gM 15 5,gM 16 1,gB 17 .gtr 15 16] [1,5,7,9,10,11,17] [7]) (.ite 17 (.ex 0) .sk)) PS))) (.rg [] [gB 25 .add 11 (kI 1),gM 11 25] [1,5,9,10,11] []))
def PU:AC:=.kp [1,5,9,10,11] [] PT
def PV:AC:=(.sq (.rg [] [gB 12 .lss 11 10] [1,5,9,10,11,12] []) (.sq (.ite 12 .sk (.ex 0)) PU))
def Jf:bm:=⟨[1,5,9,10,11],[],PV⟩
def LJ:a8:=⟨(.sq (.rg [] [gp 2 (.bx 0),gA 4 (kI 0)] [1,2] [2]) (.sq (.rg [] [gA 5 (kI 1)] [1,2,5] [2]) (.sq (.sq (.rg [] [gF 8 2 2,gQ 9 8,gp 10 (.ln false 9),gM 11 (kI 0)] [1,5,9,10,11] []) (.bl 0 Jf.lp)) (.sq (.rg [] [gM 26 5,gA 4 26] [4] []) .rt)))),[.t 4]⟩
def PW:AC:=(.sq (.bl 1 (.sq (.rg [] [gp 20 (.ia 3 none 16 18),gp 21 (.ld (some 3) 20),gp 7 (.al [(.i .i64 0),(.i .i64 0),(.l 53 [])]),gS 3 7 21] [1,7,16,17,18] [7]) (.sq (.rg [] [gp 22 (.ld (some 3) 7),gM 23 1,gp 24 (.ca 0 68 [22,23]),gA 8 24] [1,8,16,17,18] []) (.sq (.rg [] [gM 25 8,gB 26 .neq 25 (kI 0)] [1,8,16,17,18,26] []) (.ite 26 (.sq (.rg [] [gM 27 8,gA 4 27] [4] []) .rt) .sk))))) (.rg [] [gB 28 .add 18 (kI 1),gM 18 28] [1,16,17,18] []))
def PX:AC:=.kp [1,16,17,18] [] PW
def PY:AC:=(.sq (.rg [] [gB 19 .lss 18 17] [1,16,17,18,19] []) (.sq (.ite 19 .sk (.ex 0)) PX))
def Jg:bm:=⟨[1,16,17,18],[],PY⟩
def PZ:AC:=(.sq (.sq (.rg [] [gF 15 2 2,gQ 16 15,gp 17 (.ln false 16),gM 18 (kI 0)] [1,16,17,18] []) (.bl 0 Jg.lp)) (.sq (.rg [] [gA 4 (kI 0)] [4] []) .rt))
def P0:AC:=.kp [1,2] [2] PZ
def LK:a8:=⟨(.sq (.rg [] [gp 2 (.bx 0),gA 4 (kI 0)] [1,2] [2]) (.sq (.sq (.rg [] [gp 9 (.ld (some 3) 2),gM 10 1,gp 11 (.ca 0 82 [9,10]),gA 5 11] [1,2,5] [2]) (.sq (.rg [] [gM 12 5,gB 13 .neq 12 (kI 0)] [1,2,5,13] [2]) (.ite 13 (.sq (.rg [] [gM 14 5,gA 4 14] [4] []) .rt) .sk))) P0)),[.t 4]⟩
def Sr:a8:=⟨(.sq (.rg [] [gp 1 (.bx 0),gA 2 (.c .nf)] [1] [1]) (.sq (.rg [.fzB 1 true] [gp 3 (.mf 83 [1]),gA 2 3] [2] [1]) .rt)),[.t 2]⟩
def LL:a8:=⟨(.sq (.rg [] [gA 4 (.c (.b false))] [0,1] []) (.sq (.rg [] [gM 5 0,gM 6 1,gp 7 (.c2 85 [5,6]),gB 8 .geq 7 (kI 0),gA 4 8] [4] []) .rt)),[.t 4]⟩
def LM:a8:=⟨(.sq (.rg [] [gp 2 (.bx 0),gA 3 (.c (.b false))] [1,2] [1,2]) (.sq (.rg [] [gp 4 (.ld (some 2) 1),gF 5 0 2,gQ 6 5,gp 7 (.ca 0 57 [4,6]),gp 8 (.no 7),gM 9 8,gg 10 (.ld (some 2) 1) 9 false,gg 11 (.fa 1 2) 9 false,gg 12 (.ld none 11) 9 false,gg 13 (.ca 0 57 [10,12]) 9 false,gg 14 (.no 13) 9 false,gp 15 (.pk 9 (.c (.b true)) 14),gA 3 15] [3] []) .rt)),[.t 3]⟩
def P1:AC:=(.sq (.bl 2 (.sq (.dg [] [] [gL (gF 29 1 3) [3] [],gV (gQ 30 29) [29] [3] [],gL (gM 31 5) [5] [],gV (gp 32 (.ia 1 none 30 31)) [30,31] [3] [],gV (gQ 33 32) [32] [3] [],gL (gF 34 1 3) [3] [],gV (gQ 35 34) [34] [3] [],gL (gM 36 5) [5] [],gL (gB 37 .sub 36 (kI 1)) [36] [],gV (gp 38 (.ia 1 none 35 37)) [35,37] [3] [],gV (gQ 39 38) [38] [3] [],gH (gB 40 .leq 33 39)] [3,5,40] [3]) (.ite 40 (.sq (.rg [] [gA 4 (kI 4)] [4] []) .rt) .sk))) (.rg [] [gM 27 5,gB 28 .add 27 (kI 1),gA 5 28] [3,5] [3]))
def P2:AC:=.kp [3,5] [3] P1
def P3:AC:=(.sq (.sq (.rg [] [gM 22 5,gF 23 1 3,gQ 24 23,gp 25 (.ln false 24),gB 26 .lss 22 25] [3,5,26] [3]) (.ite 26 .sk (.ex 1))) P2)
def Jh:bm:=⟨[3,5],[3],P3⟩
def P4:AC:=(.sq (.sq (.rg [] [gA 5 (kI 1)] [3,5] [3]) (.bl 1 Jh.lp)) (.sq (.rg [] [gA 4 (kI 0)] [4] []) .rt))
def P5:AC:=.kp [3] [3] P4
def LN:a8:=⟨(.sq (.rg [] [gp 2 (.bx 0),gp 3 (.bx 1),gA 4 (kI 0)] [2,3] [2,3]) (.sq (.bl 0 (.sq (.rg [] [gp 7 (.ld (some 2) 2),gF 8 0 3,gQ 9 8,gp 10 (.ca 0 57 [7,9]),gp 11 (.no 10),gA 6 11] [2,3,6] [2,3]) (.ite 6 (.sq (.rg [] [gA 4 (kI 5)] [4] []) .rt) (.sq (.rg [] [gF 13 1 3,gQ 14 13,gp 15 (.ln false 14),gB 16 .gtr 15 (kI 6),gA 12 16] [2,3,12] [2,3]) (.ite 12 (.sq (.rg [] [gA 4 (kI 2)] [4] []) .rt) (.sq (.rg [.fzB 2 true] [gF 18 1 3,gQ 19 18,gp 20 (.mf 86 [2]),gp 21 (.c2 49 [19,20]),gA 17 21] [3,17] [3]) (.ite 17 (.sq (.rg [] [gA 4 (kI 5)] [4] []) .rt) .sk))))))) P5)),[.t 4]⟩
def P6:AC:=(.sq (.bl 1 (.sq (.rg [] [gM 10 8,gA 5 10] [0,1,5,7,8] []) (.sq (.rg [] [gM 11 1,gM 12 0,gM 13 5,gp 14 (.ia 2 none 12 13),gp 15 (.ld (some 2) 14),gp 16 (.cf 0 11 [15])] [0,1,5,7,8,16] []) (.ite 16 (.sq (.rg [] [gM 17 5,gA 4 17] [4] []) .rt) .sk)))) (.rg [] [gB 18 .add 8 (kI 1),gM 8 18] [0,1,7,8] []))
def P7:AC:=.kp [0,1,7,8] [] P6
def P8:AC:=(.sq (.rg [] [gB 9 .lss 8 7] [0,1,7,8,9] []) (.sq (.ite 9 .sk (.ex 0)) P7))
def Fj:bm:=⟨[0,1,7,8],[],P8⟩
def LO:a8:=⟨(.sq (.rg [] [gA 4 (kI 0)] [0,1] []) (.sq (.sq (.rg [] [gM 6 0,gp 7 (.ln false 6),gM 8 (kI 0)] [0,1,7,8] []) (.bl 0 Fj.lp)) (.sq (.rg [] [gA 4 (kI (-1))] [4] []) .rt))),[.t 4]⟩
def P9:AC:=(.sq (.bl 1 (.sq (.rg [] [gM 10 8,gA 5 10] [0,1,5,7,8] []) (.sq (.rg [] [gM 11 1,gM 12 0,gM 13 5,gp 14 (.ia 1 none 12 13),gQ 15 14,gp 16 (.cf 0 11 [15])] [0,1,5,7,8,16] []) (.ite 16 (.sq (.rg [] [gM 17 5,gA 4 17] [4] []) .rt) .sk)))) (.rg [] [gB 18 .add 8 (kI 1),gM 8 18] [0,1,7,8] []))
def Qa:AC:=.kp [0,1,7,8] [] P9
def Qb:AC:=(.sq (.rg [] [gB 9 .lss 8 7] [0,1,7,8,9] []) (.sq (.ite 9 .sk (.ex 0)) Qa))
def BX:bm:=⟨[0,1,7,8],[],Qb⟩
def LP:a8:=⟨(.sq (.rg [] [gA 4 (kI 0)] [0,1] []) (.sq (.sq (.rg [] [gM 6 0,gp 7 (.ln false 6),gM 8 (kI 0)] [0,1,7,8] []) (.bl 0 BX.lp)) (.sq (.rg [] [gA 4 (kI (-1))] [4] []) .rt))),[.t 4]⟩
def Qc:AC:=(.sq (.bl 1 (.sq (.rg [] [gM 10 8,gA 5 10] [0,1,5,7,8] []) (.sq (.rg [] [gM 11 1,gM 12 0,gM 13 5,gp 14 (.ia 2 none 12 13),gp 15 (.ld (some 2) 14),gp 16 (.cf 0 11 [15])] [0,1,5,7,8,16] []) (.ite 16 (.sq (.rg [] [gM 17 5,gA 4 17] [4] []) .rt) .sk)))) (.rg [] [gB 18 .add 8 (kI 1),gM 8 18] [0,1,7,8] []))
def Qd:AC:=.kp [0,1,7,8] [] Qc
def Qe:AC:=(.sq (.rg [] [gB 9 .lss 8 7] [0,1,7,8,9] []) (.sq (.ite 9 .sk (.ex 0)) Qd))
def Ji:bm:=⟨[0,1,7,8],[],Qe⟩
def LQ:a8:=⟨(.sq (.rg [] [gA 4 (kI 0)] [0,1] []) (.sq (.sq (.rg [] [gM 6 0,gp 7 (.ln false 6),gM 8 (kI 0)] [0,1,7,8] []) (.bl 0 Ji.lp)) (.sq (.rg [] [gA 4 (kI (-1))] [4] []) .rt))),[.t 4]⟩
def Qf:AC:=(.sq (.bl 1 (.sq (.rg [] [gM 10 8,gA 5 10] [0,1,5,7,8] []) (.sq (.rg [] [gM 11 1,gM 12 0,gM 13 5,gp 14 (.ia 3 none 12 13),gp 15 (.ld (some 3) 14),gp 16 (.cf 0 11 [15])] [0,1,5,7,8,16] []) (.ite 16 (.sq (.rg [] [gM 17 5,gA 4 17] [4] []) .rt) .sk)))) (.rg [] [gB 18 .add 8 (kI 1),gM 8 18] [0,1,7,8] []))
def Qg:AC:=.kp [0,1,7,8] [] Qf
def Qh:AC:=(.sq (.rg [] [gB 9 .lss 8 7] [0,1,7,8,9] []) (.sq (.ite 9 .sk (.ex 0)) Qg))
def Jj:bm:=⟨[0,1,7,8],[],Qh⟩
def LR:a8:=⟨(.sq (.rg [] [gA 4 (kI 0)] [0,1] []) (.sq (.sq (.rg [] [gM 6 0,gp 7 (.ln false 6),gM 8 (kI 0)] [0,1,7,8] []) (.bl 0 Jj.lp)) (.sq (.rg [] [gA 4 (kI (-1))] [4] []) .rt))),[.t 4]⟩
def Qi:AC:=(.sq (.bl 1 (.sq (.rg [] [gM 10 8,gA 5 10] [0,1,5,7,8] []) (.sq (.rg [] [gM 11 1,gM 12 0,gM 13 5,gp 14 (.ia 1 none 12 13),gQ 15 14,gB 16 .eql 11 15] [0,1,5,7,8,16] []) (.ite 16 (.sq (.rg [] [gM 17 5,gA 4 17] [4] []) .rt) .sk)))) (.rg [] [gB 18 .add 8 (kI 1),gM 8 18] [0,1,7,8] []))
def Qj:AC:=.kp [0,1,7,8] [] Qi
def Qk:AC:=(.sq (.rg [] [gB 9 .lss 8 7] [0,1,7,8,9] []) (.sq (.ite 9 .sk (.ex 0)) Qj))
def Jk:bm:=⟨[0,1,7,8],[],Qk⟩
def LS:a8:=⟨(.sq (.rg [] [gA 4 (kI 0)] [0,1] []) (.sq (.sq (.rg [] [gM 6 0,gp 7 (.ln false 6),gM 8 (kI 0)] [0,1,7,8] []) (.bl 0 Jk.lp)) (.sq (.rg [] [gA 4 (kI (-1))] [4] []) .rt))),[.t 4]⟩
def LU:a8:=⟨(.sq (.rg [] [gA 2 (.c (.b false)),gA 3 (.c (.b false)),gA 4 (.c (.b false))] [0] []) (.sq (.rg [] [gM 7 0,gB 8 .neq 7 (kI 4),gM 9 8,gg 10 (.mv 0) 9 true,gg 11 (.bo .lss false 10 (kI 7)) 9 true,gp 12 (.pk 9 11 (.c (.b false))),gA 5 12] [0,5] []) (.sq (.rg [] [gM 13 0,gB 14 .geq 13 (kI 2),gM 15 14,gg 16 (.mv 0) 15 true,gg 17 (.bo .leq false 16 (kI 4)) 15 true,gp 18 (.pk 15 17 (.c (.b false))),gA 6 18] [0,5,6] []) (.sq (.rg [] [gM 19 5,gM 20 6,gM 21 0,gB 22 .neq 21 (kI 2),gM 23 22,gg 24 (.mv 0) 23 true,gg 25 (.bo .neq false 24 (kI 3)) 23 true,gp 26 (.pk 23 25 (.c (.b false))),gA 2 19,gA 3 20,gA 4 26] [2,3,4] []) .rt)))),[.t 2,.t 3,.t 4]⟩
def Ql:AC:=(.sq (.rg [] [gM 20 0,gp 21 (.nc 20),gF 22 0 21,gF 23 4 22,gQ 24 23,gp 25 (.ln false 24),gA 4 25] [4] []) .rt)
def Qm:AC:=.kp [0] [0] Ql
def LV:a8:=⟨(.sq (.rg [] [gA 4 (kI 0)] [0,1] [0]) (.sq (.sq (.rg [] [gM 5 1] [0,5] [0]) (.bl 0 (.sq (.rg [] [gB 7 .eql 5 (kI 2),gA 6 7] [0,5,6] [0]) (.ite 6 (.sq (.rg [] [gM 8 0,gp 9 (.nc 8),gF 10 8 9,gQ 11 10,gA 4 11] [4] []) .rt) (.sq (.rg [] [gB 13 .eql 5 (kI 3),gA 12 13] [0,12] [0]) (.ite 12 (.sq (.rg [] [gM 14 0,gp 15 (.nc 14),gF 16 0 15,gF 17 3 16,gQ 18 17,gp 19 (.ln false 18),gA 4 19] [4] []) .rt) .sk)))))) Qm)),[.t 4]⟩
def Qn:AC:=(.sq (.rg [] [gM 23 0,gM 24 1,gp 25 (.ca 0 88 [23,24]),gM 22 25,gp 26 (.ex 22 0),gp 27 (.ex 22 1),gA 8 26,gA 9 27] [8,9] []) (.sq (.rg [] [gM 28 8,gM 29 9,gA 4 28,gA 5 29] [4,5] []) .rt))
def Qo:AC:=.kp [0,1] [] Qn
def Ss:a8:=⟨(.sq (.rg [] [gA 4 (.c (.i .u64 0)),gA 5 (.c (.i .u64 0))] [0,1] []) (.sq (.ite (.c (.b false)) (.sq (.rg [] [gM 11 0,gp 12 (.cv .u32 11),gM 13 1,gp 14 (.cv .u32 13),gp 15 (.ca 0 87 [12,14]),gM 10 15,gp 16 (.ex 10 0),gp 17 (.ex 10 1),gA 6 16,gA 7 17] [6,7] []) (.sq (.rg [] [gM 18 6,gp 19 (.cv .u64 18),gM 20 7,gp 21 (.cv .u64 20),gA 4 19,gA 5 21] [4,5] []) .rt)) .sk) Qo)),[.t 4,.t 5]⟩
def Jl:AC:=(.sq (.bl 0 (.sq (.rg [] [gF 18 2 2,gQ 19 18,gp 20 (.ln false 19),gM 21 5,gB 22 .neq 20 21,gA 17 22] [1,2,5,17] [2]) (.ite 17 (.sq (.rg [] [gA 4 (kI 1)] [4] []) .rt) (.sq (.rg [] [gF 24 0 2,gQ 25 24,gB 26 .eql 25 (kI 1),gM 27 26,gg 28 (.fa 1 2) 27 true,gg 29 (.ld none 28) 27 true,gg 30 (.bo .lss false 29 (kI (-9999999))) 27 true,gg 31 (.mv 30) 27 true,gg 32 (.fa 1 2) 31 false,gg 33 (.ld none 32) 31 false,gg 34 (.bo .gtr false 33 (kI 9999999)) 31 false,gg 35 (.pk 31 (.c (.b true)) 34) 27 true,gp 36 (.pk 27 35 (.c (.b false))),gM 37 36,gg 38 (.mv 5) 37 false,gg 39 (.bo .gtr false 38 (kI 0)) 37 false,gg 40 (.mv 39) 37 false,gg 41 (.fa 1 2) 40 true,gg 42 (.ld none 41) 40 true,gg 43 (.bo .neq false 42 (kI 0)) 40 true,gg 44 (.pk 40 43 (.c (.b false))) 37 false,gp 45 (.pk 37 (.c (.b true)) 44),gA 23 45] [1,2,23] [2]) (.ite 23 (.sq (.rg [] [gA 4 (kI 3)] [4] []) .rt) (.sq (.rg [] [gF 47 0 2,gQ 48 47,gB 49 .eql 48 (kI 2),gM 50 49,gg 51 (.fa 1 2) 50 true,gg 52 (.ld none 51) 50 true,gg 53 (.bo .lss false 52 (kI 0)) 50 true,gg 54 (.mv 53) 50 true,gg 55 (.fa 1 2) 54 false,gg 56 (.ld none 55) 54 false,gg 57 (.mv 1) 54 false,gg 58 (.bo .geq false 56 57) 54 false,gg 59 (.pk 54 (.c (.b true)) 58) 50 true,gp 60 (.pk 50 59 (.c (.b false))),gA 46 60] [46] []) (.ite 46 (.sq (.rg [] [gA 4 (kI 5)] [4] []) .rt) .sk))))))) (.sq (.rg [] [gA 4 (kI 0)] [4] []) .rt))
def Qp:AC:=.kp [1,2,5] [2] Jl
def Qq:AC:=(.sq (.rg [] [gA 5 (kI 0)] [1,2,5] [2]) (.sq (.sq (.rg [] [gF 14 0 2,gQ 15 14,gB 16 .gtr 15 (kI 2)] [1,2,5,16] [2]) (.ite 16 (.rg [] [gA 5 (kI 2)] [1,2,5] [2]) .sk)) Qp))
def Qr:AC:=.kp [1,2] [2] Qq
def LX:a8:=⟨(.sq (.rg [] [gp 2 (.bx 0),gA 4 (kI 0)] [1,2] [2]) (.sq (.sq (.rg [] [gF 6 0 2,gQ 7 6,gB 8 .lss 7 (kI 1),gM 9 8,gg 10 (.fa 0 2) 9 false,gg 11 (.ld none 10) 9 false,gg 12 (.bo .gtr false 11 (kI 7)) 9 false,gp 13 (.pk 9 (.c (.b true)) 12)] [1,2,13] [2]) (.ite 13 (.sq (.rg [] [gA 4 (kI 7)] [4] []) .rt) .sk)) Qr)),[.t 4]⟩
def Qs:AC:=(.sq (.bl 1 (.sq (.rg [] [gM 10 8,gA 5 10] [0,1,5,7,8] []) (.sq (.rg [] [gM 11 1,gM 12 0,gM 13 5,gp 14 (.ia 2 none 12 13),gp 15 (.ld (some 2) 14),gp 16 (.cf 0 11 [15])] [0,1,5,7,8,16] []) (.ite 16 (.sq (.rg [] [gM 17 5,gA 4 17] [4] []) .rt) .sk)))) (.rg [] [gB 18 .add 8 (kI 1),gM 8 18] [0,1,7,8] []))
def Qt:AC:=.kp [0,1,7,8] [] Qs
def Qu:AC:=(.sq (.rg [] [gB 9 .lss 8 7] [0,1,7,8,9] []) (.sq (.ite 9 .sk (.ex 0)) Qt))
def Jm:bm:=⟨[0,1,7,8],[],Qu⟩
def LY:a8:=⟨(.sq (.rg [] [gA 4 (kI 0)] [0,1] []) (.sq (.sq (.rg [] [gM 6 0,gp 7 (.ln false 6),gM 8 (kI 0)] [0,1,7,8] []) (.bl 0 Jm.lp)) (.sq (.rg [] [gA 4 (kI (-1))] [4] []) .rt))),[.t 4]⟩
def LZ:a8:=⟨(.sq (.rg [] [gA 3 (.c (.b false))] [0,1] [1]) (.sq (.rg [] [gp 4 (.ld (some 2) 1),gM 5 0,gp 6 (.ca 0 57 [4,5]),gp 7 (.no 6),gA 3 7] [3] []) .rt)),[.t 3]⟩
def Su:a8:=⟨(.sq (.rg [] [gA 4 (.c (.i .u32 0)),gA 5 (.c (.i .u32 0))] [0,1] []) (.sq (.rg [] [gM 7 0,gp 8 (.cv .u64 7),gM 9 1,gp 10 (.cv .u64 9),gB 11 .mul 8 10,gA 6 11] [6] []) (.sq (.rg [] [gM 12 6,gB 13 .shr 12 (.c (.i .u64 32)),gp 14 (.cv .u32 13),gM 15 6,gp 16 (.cv .u32 15),gA 4 14,gA 5 16] [4,5] []) .rt))),[.t 4,.t 5]⟩
def Sv:a8:=⟨(.sq (.rg [] [gA 4 (.c (.i .u64 0)),gA 5 (.c (.i .u64 0))] [0,1] []) (.sq (.rg [] [gM 14 0,gB 15 .and 14 (.c (.i .u64 4294967295)),gA 6 15] [0,1,6] []) (.sq (.rg [] [gM 16 0,gB 17 .shr 16 (.c (.i .u64 32)),gA 7 17] [0,1,6,7] []) (.sq (.rg [] [gM 18 1,gB 19 .and 18 (.c (.i .u64 4294967295)),gA 8 19] [0,1,6,7,8] []) (.sq (.rg [] [gM 20 1,gB 21 .shr 20 (.c (.i .u64 32)),gA 9 21] [0,1,6,7,8,9] []) (.sq (.rg [] [gM 22 6,gM 23 8,gB 24 .mul 22 23,gA 10 24] [0,1,6,7,8,9,10] []) (.sq (.rg [] [gM 25 7,gM 26 8,gB 27 .mul 25 26,gM 28 10,gB 29 .shr 28 (.c (.i .u64 32)),gB 30 .add 27 29,gA 11 30] [0,1,6,7,9,11] []) (.sq (.rg [] [gM 31 11,gB 32 .and 31 (.c (.i .u64 4294967295)),gA 12 32] [0,1,6,7,9,11,12] []) (.sq (.rg [] [gM 33 11,gB 34 .shr 33 (.c (.i .u64 32)),gA 13 34] [0,1,6,7,9,12,13] []) (.sq (.rg [] [gM 35 12,gM 36 6,gM 37 9,gB 38 .mul 36 37,gB 39 .add 35 38,gA 12 39] [0,1,7,9,12,13] []) (.sq (.rg [] [gM 40 7,gM 41 9,gB 42 .mul 40 41,gM 43 13,gB 44 .add 42 43,gM 45 12,gB 46 .shr 45 (.c (.i .u64 32)),gB 47 .add 44 46,gA 4 47] [0,1,4] []) (.sq (.rg [] [gM 48 0,gM 49 1,gB 50 .mul 48 49,gA 5 50] [4,5] []) .rt)))))))))))),[.t 4,.t 5]⟩
abbrev Ω0:bL:=fun f ys=>match f with
 | 83=>sV ys
 | 66=>oK 4 ys
 | 76=>lR 60 ys
 | _=>none
def G:kY:=fun
 | 3=>some c3
 | 4=>some c4
 | 5=>some c5
 | 6=>some c6
 | 7=>some c7
 | 8=>some c8
 | 9=>some c9
 | 10=>some IL
 | 11=>some Sf
 | 12=>some Sg
 | 13=>some Sh
 | 14=>some Si
 | 15=>some Sj
 | 16=>some Sk
 | 17=>some Sl
 | 18=>some Sm
 | 19=>some Sn
 | 20=>some So
 | 21=>some Sq
 | 22=>some K1
 | 23=>some K2
 | 24=>some K3
 | 25=>some K4
 | 26=>some yq
 | 27=>some K5
 | 28=>some K6
 | 29=>some K7
 | 30=>some K8
 | 31=>some K9
 | 32=>some La
 | 33=>some Lb
 | 34=>some Lc
 | 35=>some Ld
 | 36=>some Lf
 | 37=>some Lg
 | 38=>some IY
 | 39=>some Lh
 | 40=>some Li
 | 41=>some Lj
 | 42=>some Lk
 | 43=>some Ll
 | 44=>some Lm
 | 45=>some Ln
 | 46=>some Lo
 | 47=>some Lq
 | 48=>some Lr
 | 49=>some Ls
 | 50=>some Lt
 | 51=>some Lu
 | 52=>some I7
 | 53=>some Lv
 | 54=>some Lw
 | 55=>some Lx
 | 56=>some Ly
 | 57=>some Lz
 | 58=>some LA
 | 59=>some LB
 | 60=>some LC
 | 61=>some LD
 | 62=>some LF
 | 63=>some LG
 | 64=>some LH
 | 65=>some LI
 | 67=>some LJ
 | 68=>some LK
 | 69=>some Sr
 | 70=>some LL
 | 71=>some LM
 | 72=>some LN
 | 73=>some LO
 | 74=>some LP
 | 75=>some LQ
 | 77=>some LR
 | 78=>some LS
 | 79=>some LU
 | 80=>some LV
 | 81=>some Ss
 | 82=>some LX
 | 85=>some LY
 | 86=>some LZ
 | 87=>some Su
 | 88=>some Sv
 | _=>none
theorem G3:G 3=some c3:=rfl
theorem G4:G 4=some c4:=rfl
theorem G5:G 5=some c5:=rfl
theorem G7:G 7=some c7:=rfl
theorem G8:G 8=some c8:=rfl
theorem G9:G 9=some c9:=rfl
theorem Ty:G 10=some IL:=rfl
theorem Tz:G 22=some K1:=rfl
theorem TA:G 23=some K2:=rfl
theorem TB:G 24=some K3:=rfl
theorem TC:G 25=some K4:=rfl
theorem Ee:G 26=some yq:=rfl
theorem TD:G 27=some K5:=rfl
theorem TE:G 28=some K6:=rfl
theorem TF:G 29=some K7:=rfl
theorem TG:G 30=some K8:=rfl
theorem TH:G 31=some K9:=rfl
theorem TI:G 32=some La:=rfl
theorem TJ:G 33=some Lb:=rfl
theorem TK:G 34=some Lc:=rfl
theorem TL:G 35=some Ld:=rfl
theorem TM:G 36=some Lf:=rfl
theorem TN:G 37=some Lg:=rfl
theorem TO:G 38=some IY:=rfl
theorem TP:G 39=some Lh:=rfl
theorem TQ:G 40=some Li:=rfl
theorem TR:G 41=some Lj:=rfl
theorem TS:G 42=some Lk:=rfl
theorem TT:G 43=some Ll:=rfl
theorem TU:G 44=some Lm:=rfl
theorem Sw:G 45=some Ln:=rfl
theorem TV:G 46=some Lo:=rfl
theorem TW:G 47=some Lq:=rfl
theorem TX:G 48=some Lr:=rfl
theorem L0:G 49=some Ls:=rfl
theorem TY:G 50=some Lt:=rfl
theorem TZ:G 51=some Lu:=rfl
theorem T5:G 52=some I7:=rfl
theorem T6:G 53=some Lv:=rfl
theorem T7:G 54=some Lw:=rfl
theorem T8:G 55=some Lx:=rfl
theorem T9:G 56=some Ly:=rfl
theorem Ua:G 57=some Lz:=rfl
theorem Ub:G 58=some LA:=rfl
theorem Uc:G 59=some LB:=rfl
theorem Ud:G 60=some LC:=rfl
theorem Ue:G 61=some LD:=rfl
theorem Sx:G 62=some LF:=rfl
theorem Uf:G 63=some LG:=rfl
theorem Ug:G 64=some LH:=rfl
theorem Uh:G 65=some LI:=rfl
theorem Ui:G 67=some LJ:=rfl
theorem Uj:G 68=some LK:=rfl
theorem Uk:G 70=some LL:=rfl
theorem Ul:G 71=some LM:=rfl
theorem Um:G 72=some LN:=rfl
theorem Sy:G 73=some LO:=rfl
theorem L1:G 74=some LP:=rfl
theorem Un:G 75=some LQ:=rfl
theorem Uo:G 77=some LR:=rfl
theorem Up:G 78=some LS:=rfl
theorem Uq:G 79=some LU:=rfl
theorem Ur:G 80=some LV:=rfl
theorem Us:G 82=some LX:=rfl
theorem Ut:G 85=some LY:=rfl
theorem Uu:G 86=some LZ:=rfl
end Go.Proofs.Ytkkkkondjclcnaa.A
