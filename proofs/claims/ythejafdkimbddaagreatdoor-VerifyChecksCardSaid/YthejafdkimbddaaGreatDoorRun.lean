/- The functions that the closed run of 14 reaches, and the plans of their drawn regions. Printed by run.py. -/
import Derived.Test.YthejafdkimbddaaGreatDoorTab
import Derived.Test.YthejafdkimbddaaGreatDoorAbnB
namespace Go.Proofs.YthejafdkimbddaaGreatDoor
open Go.Abs
def tbl12 : Nat→Option Plan:=fun id=>if id=8 then some ([0,1,2,3,4,5,6],[0,1,2,3,4,5,6],[],(3455,0),(.alt 7 [8] [0,1,2,3,4] [8] (.alt 9 [10,11] [0,10,11] [] (.alt 12 [] [] [] .done .nil) .nil) .nil)) else none
def tbl14 : Nat→Option Plan:=fun id=>if id=5 then some ([0,1,2,3,4],[0,1,2,3,4],[],(2527,3725952080843255449808732673),(.alt 5 [6,7,8] [6,7,8] [] (.alt 9 [] [6,7,8] [] (.alt 10 [11] [8,11] [] .done .nil) .nil) (.alt 9 [] [0,1,2,3,4] [] (.alt 5 [6,7,8] [6,7,8] [] (.alt 10 [11] [8,11] [] .done .nil) .nil) .nil))) else if id=6 then some ([0,1,2,3,4,5],[0,1,2,3,4,5],[],(5055,1033382593886664259558671843841),(.alt 6 [7,8,9] [7,8,9] [] (.alt 10 [] [7,8,9] [] (.alt 11 [12] [9,12] [] .done .nil) .nil) (.alt 10 [] [0,1,2,3,4,5] [] (.alt 6 [7,8,9] [7,8,9] [] (.alt 11 [12] [9,12] [] .done .nil) .nil) .nil))) else if id=8 then some ([0,1,2,3,4,5],[0,1,2,3,4,5],[],(5055,1033382593886664259558671843841),(.alt 6 [7,8,9] [7,8,9] [] (.alt 10 [] [7,8,9] [] (.alt 11 [12] [9,12] [] .done .nil) .nil) (.alt 10 [] [0,1,2,3,4,5] [] (.alt 6 [7,8,9] [7,8,9] [] (.alt 11 [12] [9,12] [] .done .nil) .nil) .nil))) else none
def tbl15 : Nat→Option Plan:=fun id=>if id=29 then some ([0,1,2,3,4],[0,1,2,3,4],[],(95,578435488172802561),(.alt 5 [6] [2,3,6] [] (.alt 7 [] [] [] .done .nil) .nil)) else if id=30 then some ([0,1,2,3,4],[0,1,2,3,4],[],(95,578435488172802561),(.alt 5 [6] [2,3,6] [] (.alt 7 [] [] [] .done .nil) .nil)) else none
def tbl17 : Nat→Option Plan:=fun id=>if id=6 then some ([0,1,2,3,4],[0,1,2,3,4],[],(479,0),(.alt 5 [6,7,8] [0,1,6,7,8] [] .done .nil)) else if id=10 then some ([0,1,2,3,4,5,6,7,8,9,11,12],[0,1,2,3,4,5,6,7,8,9,11,12],[],(244735,0),(.alt 10 [13] [4,5,6,11,12,13] [] (.alt 14 [15,16,17] [15,16,17] [] .done .nil) .nil)) else none
def tbl19 : Nat→Option Plan:=fun id=>if id=5 then some ([0,1,2,4,6,8],[0,1,2,4,6,8],[],(5463,0),(.alt 3 [] [0,1,4,6,8] [] (.alt 5 [] [0,1,6,8] [] (.alt 7 [] [0,1,8] [] (.alt 9 [10] [0,1,10] [] (.alt 11 [12] [12] [] .done .nil) .nil) (.alt 9 [] [0,1,6] [] (.alt 7 [10] [0,1,10] [] (.alt 11 [12] [12] [] .done .nil) .nil) .nil)) (.alt 7 [] [0,1,4,8] [] (.alt 5 [] [0,1,8] [] (.alt 9 [10] [0,1,10] [] (.alt 11 [12] [12] [] .done .nil) .nil) (.alt 9 [] [0,1,4] [] (.alt 5 [10] [0,1,10] [] (.alt 11 [12] [12] [] .done .nil) .nil) .nil)) (.alt 9 [] [0,1,4,6] [] (.alt 5 [] [0,1,6] [] (.alt 7 [10] [0,1,10] [] (.alt 11 [12] [12] [] .done .nil) .nil) (.alt 7 [] [0,1,4] [] (.alt 5 [10] [0,1,10] [] (.alt 11 [12] [12] [] .done .nil) .nil) .nil)) .nil))) (.alt 5 [] [0,1,2,6,8] [] (.alt 3 [] [0,1,6,8] [] (.alt 7 [] [0,1,8] [] (.alt 9 [10] [0,1,10] [] (.alt 11 [12] [12] [] .done .nil) .nil) (.alt 9 [] [0,1,6] [] (.alt 7 [10] [0,1,10] [] (.alt 11 [12] [12] [] .done .nil) .nil) .nil)) (.alt 7 [] [0,1,2,8] [] (.alt 3 [] [0,1,8] [] (.alt 9 [10] [0,1,10] [] (.alt 11 [12] [12] [] .done .nil) .nil) (.alt 9 [] [0,1,2] [] (.alt 3 [10] [0,1,10] [] (.alt 11 [12] [12] [] .done .nil) .nil) .nil)) (.alt 9 [] [0,1,2,6] [] (.alt 3 [] [0,1,6] [] (.alt 7 [10] [0,1,10] [] (.alt 11 [12] [12] [] .done .nil) .nil) (.alt 7 [] [0,1,2] [] (.alt 3 [10] [0,1,10] [] (.alt 11 [12] [12] [] .done .nil) .nil) .nil)) .nil))) (.alt 7 [] [0,1,2,4,8] [] (.alt 3 [] [0,1,4,8] [] (.alt 5 [] [0,1,8] [] (.alt 9 [10] [0,1,10] [] (.alt 11 [12] [12] [] .done .nil) .nil) (.alt 9 [] [0,1,4] [] (.alt 5 [10] [0,1,10] [] (.alt 11 [12] [12] [] .done .nil) .nil) .nil)) (.alt 5 [] [0,1,2,8] [] (.alt 3 [] [0,1,8] [] (.alt 9 [10] [0,1,10] [] (.alt 11 [12] [12] [] .done .nil) .nil) (.alt 9 [] [0,1,2] [] (.alt 3 [10] [0,1,10] [] (.alt 11 [12] [12] [] .done .nil) .nil) .nil)) (.alt 9 [] [0,1,2,4] [] (.alt 3 [] [0,1,4] [] (.alt 5 [10] [0,1,10] [] (.alt 11 [12] [12] [] .done .nil) .nil) (.alt 5 [] [0,1,2] [] (.alt 3 [10] [0,1,10] [] (.alt 11 [12] [12] [] .done .nil) .nil) .nil)) .nil))) (.alt 9 [] [0,1,2,4,6] [] (.alt 3 [] [0,1,4,6] [] (.alt 5 [] [0,1,6] [] (.alt 7 [10] [0,1,10] [] (.alt 11 [12] [12] [] .done .nil) .nil) (.alt 7 [] [0,1,4] [] (.alt 5 [10] [0,1,10] [] (.alt 11 [12] [12] [] .done .nil) .nil) .nil)) (.alt 5 [] [0,1,2,6] [] (.alt 3 [] [0,1,6] [] (.alt 7 [10] [0,1,10] [] (.alt 11 [12] [12] [] .done .nil) .nil) (.alt 7 [] [0,1,2] [] (.alt 3 [10] [0,1,10] [] (.alt 11 [12] [12] [] .done .nil) .nil) .nil)) (.alt 7 [] [0,1,2,4] [] (.alt 3 [] [0,1,4] [] (.alt 5 [10] [0,1,10] [] (.alt 11 [12] [12] [] .done .nil) .nil) (.alt 5 [] [0,1,2] [] (.alt 3 [10] [0,1,10] [] (.alt 11 [12] [12] [] .done .nil) .nil) .nil)) .nil))) .nil))))) else none
def tbl22 : Nat→Option Plan:=fun id=>if id=6 then some ([0,1,2,3,4,5,6,7],[0,1,2,3,4,5,6,7],[],(255,0),(.alt 8 [] [] [] .done .nil)) else if id=8 then some ([0,1,2,3,4,5,6],[0,1,2,3,4,5,6],[],(20095,78149079286955769094074820391535105),(.alt 7 [] [0,1,2,3,4] [] (.alt 8 [9,10,11] [9,10,11] [] (.alt 12 [] [9,10,11] [] (.alt 13 [14] [11,14] [] .done .nil) .nil) (.alt 12 [] [0,1,2,3,4] [] (.alt 8 [9,10,11] [9,10,11] [] (.alt 13 [14] [11,14] [] .done .nil) .nil) .nil)) (.alt 12 [] [0,1,2,3,4,5,6] [] (.alt 7 [] [0,1,2,3,4] [] (.alt 8 [9,10,11] [9,10,11] [] (.alt 13 [14] [11,14] [] .done .nil) .nil) .nil) .nil))) else if id=9 then some ([0,1,2,3,4,5,6,7,8],[0,1,2,3,4,5,6,7,8],[],(80383,5804811675300994041362023895866175324673),(.alt 9 [] [0,1,2,3,4] [] (.alt 10 [11,12,13] [11,12,13] [] (.alt 14 [] [11,12,13] [] (.alt 15 [16] [13,16] [] .done .nil) .nil) (.alt 14 [] [0,1,2,3,4] [] (.alt 10 [11,12,13] [11,12,13] [] (.alt 15 [16] [13,16] [] .done .nil) .nil) .nil)) (.alt 14 [] [0,1,2,3,4,5,6,7,8] [] (.alt 9 [] [0,1,2,3,4] [] (.alt 10 [11,12,13] [11,12,13] [] (.alt 15 [16] [13,16] [] .done .nil) .nil) .nil) .nil))) else none
def tbl23 : Nat→Option Plan:=fun id=>if id=3 then some ([0,1,2,3,4,5,6,7,8,9,10],[0,1,2,3,4,5,6,7,8,9,10],[],(2047,0),.done) else if id=4 then some ([0,1,2,3,4,5,6,7,8],[0,1,2,3,4,5,6,7,8],[],(511,0),.done) else if id=7 then some ([0,1,2,3,4,5,6,7,8,9,10,11],[0,1,2,3,4,5,6,7,8,9,10,11],[],(4095,0),.done) else if id=9 then some ([0,1,2,3,4,5,6,7,8,9,10,11,12,13,14,15,16,17,18,19],[0,1,2,3,4,5,6,7,8,9,10,11,12,13,14,15,16,17,18,19],[],(1048575,0),.done) else if id=11 then some ([0,1,2,3,4,5,6,7,8,9,10,11,12,13,14],[0,1,2,3,4,5,6,7,8,9,10,11,12,13,14],[],(32767,0),(.alt 15 [] [0,1,2,3,4,5,6,7,8,9,10,11,12,13,14] [] (.alt 16 [] [] [] .done .nil) .nil)) else if id=16 then some ([0,1,2,3,4,5,6,7,8],[0,1,2,3,4,5,6,7,8],[],(511,0),(.alt 9 [] [] [] .done .nil)) else if id=25 then some ([0,1,2,3,4,5,6],[0,1,2,3,4,5,6],[],(127,0),(.alt 7 [] [] [] .done .nil)) else if id=26 then some ([0,1,2,3,4,5,6],[0,1,2,3,4,5,6],[],(127,0),(.alt 7 [] [] [] .done .nil)) else if id=27 then some ([0,1,2,3,4,5,7,8,9,10,11,12,13,14,15,16,17],[0,2,3,4,5,7,8,9,10,11,12,13,14,15,16],[1,17],(1834943,0),(.alt 6 [] [0,7,8,9,10,11,12,13,14,15,16] [17] (.alt 18 [19,20] [0,19,20] [] (.alt 21 [] [] [] .done .nil) .nil) .nil)) else none
def tbl49 : Nat→Option Plan:=fun id=>if id=4 then some ([],[],[],(0,0),.done) else none
def tbl50 : Nat→Option Plan:=fun id=>if id=5 then some ([0,1,2,3],[0,1,2,3],[],(32751,0),(.alt 4 [5,6,7,8,9,10,11,12,13,14] [0,1,5,6,7,8,9,10,11,12,13,14] [] .done .nil)) else none
def tbl51 : Nat→Option Plan:=fun id=>if id=3 then some ([0,1,2],[0,1,2],[],(14839,0),(.alt 3 [4,5,6,7,8] [4,5,6,7,8] [] (.alt 9 [] [6,7] [] (.alt 10 [11,12,13] [11,12,13] [] .done .nil) .nil) .nil)) else if id=5 then some ([0,1,2,3,4,5,6,7,8,9,10,11],[0,1,2,3,4,5,6,7,8,9,10,11],[],(4095,0),.done) else none
def tbl54 : Nat→Option Plan:=fun id=>if id=8 then some ([0,1,2,3,4,5,7,8],[0,1,2,3,4,5,7,8],[],(3007,0),(.alt 6 [9] [0,1,7,8,9] [] (.alt 10 [11] [11] [] .done .nil) .nil)) else none
def tbl55 : Nat→Option Plan:=fun id=>if id=1 then some ([0,1],[0,1],[],(1830779,0),(.alt 2 [3,4,5,6] [3,4,5,6] [] (.alt 7 [8,9,10,11,13,14,15,16,17] [8,9,10,11,13,14,15,16,17] [] (.alt 12 [] [13,14,15,16,17] [] (.alt 18 [19,20] [19,20] [] .done .nil) .nil) .nil) .nil)) else none
def tbl67 : Nat→Option Plan:=fun id=>if id=1 then some ([0,2,4,6],[0,2,4,6],[],(1365,0),(.alt 1 [] [2,4,6] [] (.alt 3 [] [4,6] [] (.alt 5 [] [6] [] (.alt 7 [8] [8] [] (.alt 9 [10] [10] [] .done .nil) .nil) (.alt 7 [] [4] [] (.alt 5 [8] [8] [] (.alt 9 [10] [10] [] .done .nil) .nil) .nil)) (.alt 5 [] [2,6] [] (.alt 3 [] [6] [] (.alt 7 [8] [8] [] (.alt 9 [10] [10] [] .done .nil) .nil) (.alt 7 [] [2] [] (.alt 3 [8] [8] [] (.alt 9 [10] [10] [] .done .nil) .nil) .nil)) (.alt 7 [] [2,4] [] (.alt 3 [] [4] [] (.alt 5 [8] [8] [] (.alt 9 [10] [10] [] .done .nil) .nil) (.alt 5 [] [2] [] (.alt 3 [8] [8] [] (.alt 9 [10] [10] [] .done .nil) .nil) .nil)) .nil))) (.alt 3 [] [0,4,6] [] (.alt 1 [] [4,6] [] (.alt 5 [] [6] [] (.alt 7 [8] [8] [] (.alt 9 [10] [10] [] .done .nil) .nil) (.alt 7 [] [4] [] (.alt 5 [8] [8] [] (.alt 9 [10] [10] [] .done .nil) .nil) .nil)) (.alt 5 [] [0,6] [] (.alt 1 [] [6] [] (.alt 7 [8] [8] [] (.alt 9 [10] [10] [] .done .nil) .nil) (.alt 7 [] [0] [] (.alt 1 [8] [8] [] (.alt 9 [10] [10] [] .done .nil) .nil) .nil)) (.alt 7 [] [0,4] [] (.alt 1 [] [4] [] (.alt 5 [8] [8] [] (.alt 9 [10] [10] [] .done .nil) .nil) (.alt 5 [] [0] [] (.alt 1 [8] [8] [] (.alt 9 [10] [10] [] .done .nil) .nil) .nil)) .nil))) (.alt 5 [] [0,2,6] [] (.alt 1 [] [2,6] [] (.alt 3 [] [6] [] (.alt 7 [8] [8] [] (.alt 9 [10] [10] [] .done .nil) .nil) (.alt 7 [] [2] [] (.alt 3 [8] [8] [] (.alt 9 [10] [10] [] .done .nil) .nil) .nil)) (.alt 3 [] [0,6] [] (.alt 1 [] [6] [] (.alt 7 [8] [8] [] (.alt 9 [10] [10] [] .done .nil) .nil) (.alt 7 [] [0] [] (.alt 1 [8] [8] [] (.alt 9 [10] [10] [] .done .nil) .nil) .nil)) (.alt 7 [] [0,2] [] (.alt 1 [] [2] [] (.alt 3 [8] [8] [] (.alt 9 [10] [10] [] .done .nil) .nil) (.alt 3 [] [0] [] (.alt 1 [8] [8] [] (.alt 9 [10] [10] [] .done .nil) .nil) .nil)) .nil))) (.alt 7 [] [0,2,4] [] (.alt 1 [] [2,4] [] (.alt 3 [] [4] [] (.alt 5 [8] [8] [] (.alt 9 [10] [10] [] .done .nil) .nil) (.alt 5 [] [2] [] (.alt 3 [8] [8] [] (.alt 9 [10] [10] [] .done .nil) .nil) .nil)) (.alt 3 [] [0,4] [] (.alt 1 [] [4] [] (.alt 5 [8] [8] [] (.alt 9 [10] [10] [] .done .nil) .nil) (.alt 5 [] [0] [] (.alt 1 [8] [8] [] (.alt 9 [10] [10] [] .done .nil) .nil) .nil)) (.alt 5 [] [0,2] [] (.alt 1 [] [2] [] (.alt 3 [8] [8] [] (.alt 9 [10] [10] [] .done .nil) .nil) (.alt 3 [] [0] [] (.alt 1 [8] [8] [] (.alt 9 [10] [10] [] .done .nil) .nil) .nil)) .nil))) .nil))))) else none
def tbl68 : Nat→Option Plan:=fun id=>if id=6 then some ([0,1,2,3,4],[0,1,2,3,4],[],(31,0),(.alt 5 [] [] [] .done .nil)) else none
def tbl95 : Nat→Option Plan:=fun id=>if id=6 then some ([0,1,2,3,4,5,6,7,8,9,10],[0,1,2,3,4,5,6,7,8,9,10],[],(2047,0),.done) else none
def tbl96 : Nat→Option Plan:=fun id=>if id=6 then some ([0,1,2,3,4,5,6,7,8],[0,1,2,3,4,5,6,7,8],[],(511,0),.done) else none
def tbl108 : Nat→Option Plan:=fun id=>if id=4 then some ([0,1,2,3],[0,1,2,3],[],(4194287,0),(.alt 4 [5,6,7,8,9,10,11,12,13,14,15,16,17,18,19,20,21] [5,6,7,8,9,10,11,12,13,14,15,16,17,18,19,20,21] [] .done .nil)) else none
def tbl111 : Nat→Option Plan:=fun id=>if id=3 then some ([0,1,2,3,4,5],[0,1,2,3,4,5],[],(831,0),(.alt 6 [] [0,1,2,3,4] [] (.alt 7 [8,9] [0,8,9] [] (.alt 10 [] [] [] .done .nil) .nil) .nil)) else none
def tbl112 : Nat→Option Plan:=fun id=>if id=2 then some ([0,1],[0,1],[],(1979,0),(.alt 2 [3,4,5,7] [3,4,5,7] [] (.alt 6 [8,9,10] [7,8,9,10] [] .done .nil) .nil)) else none
def tbl114 : Nat→Option Plan:=fun id=>if id=1 then some ([0,1,2,3,4,5,6,7,8,9,10,11,12,13,14,15,16,17,18,19,20,21,22,23,24,25,26,27,28,29,30,31,32,33],[0,1,2,3,4,5,6,7,8,9,10,11,12,13,14,15,16,17,18,19,20,21,22,23,24,25,26,27,28,29,30,31,32,33],[],(17179869183,0),.done) else none
def tbl115 : Nat→Option Plan:=fun id=>if id=1 then some ([0,1,2,3,4,5,6,7,8,9,10,11,12,13,14],[0,1,2,3,4,5,6,7,8,9,11,12],[10,13,14],(32767,0),(.alt 15 [] [] [] .done .nil)) else none
def tbl116 : Nat→Option Plan:=fun id=>if id=3 then some ([0,1,3,4,5,6,7,8],[0,1,3,4,5,6,8],[7],(2043,0),(.alt 2 [9,10] [3,4,5,6,8,9,10] [7] .done .nil)) else none
def tbl143 : Nat→Option Plan:=fun id=>if id=5 then some ([0,1,2],[0,1,2],[],(39,0),(.alt 3 [] [0] [] (.alt 4 [5] [5] [] .done .nil) .nil)) else if id=7 then some ([0,1,2],[0,1,2],[],(23,6618578224131),(.alt 3 [4] [0,1,4] [] (.alt 5 [] [] [] .done .nil) .nil)) else if id=8 then some ([0,1,2],[0,1,2],[],(39,0),(.alt 3 [] [0] [] (.alt 4 [5] [5] [] .done .nil) .nil)) else if id=10 then some ([0,1,2,3,4],[0,1,2,3,4],[],(95,578435488172802561),(.alt 5 [6] [2,3,6] [] (.alt 7 [] [] [] .done .nil) .nil)) else if id=11 then some ([0,1,2,3,4,5,6],[0,1,2,3,4,5,6],[],(1407,13340870359985180576514561),(.alt 7 [8] [0,8] [] (.alt 9 [10] [8,10] [] .done .nil) .nil)) else if id=14 then some ([0,1,2],[0,1,2],[],(23,6618578224131),(.alt 3 [4] [0,1,4] [] (.alt 5 [] [] [] .done .nil) .nil)) else if id=15 then some ([0,1,2],[0,1,2],[],(39,0),(.alt 3 [] [0] [] (.alt 4 [5] [5] [] .done .nil) .nil)) else if id=20 then some ([0,1,2],[0,1,2],[],(39,0),(.alt 3 [] [0] [] (.alt 4 [5] [5] [] .done .nil) .nil)) else if id=24 then some ([0,1,2,3,4,5,6,7,8],[0,1,2,3,4,5,6,7,8],[],(22015,21345776648346069362968374484253606401),(.alt 9 [10] [2,3,4,5,6,7,10] [] (.alt 11 [12] [4,5,6,7,12] [] (.alt 13 [14] [6,7,14] [] (.alt 15 [] [] [] .done .nil) .nil) .nil) .nil)) else if id=25 then some ([0,1,2],[0,1,2],[],(45047,21340645358415474705888952639144788481),(.alt 3 [4,5,6,7,8,9,10,11] [0,4,5,6,7,8,9,10,11] [] (.alt 12 [13] [0,13] [] (.alt 14 [15] [13,15] [] .done .nil) .nil) .nil)) else none
def tbl158 : Nat→Option Plan:=fun id=>if id=6 then some ([0,1,2,3,4,5,6,7,8],[0,1,2,3,4,5,6,7,8],[],(511,0),.done) else none
def tbl166 : Nat→Option Plan:=fun id=>if id=6 then some ([0,1,2,3,4,5,6,7,8],[0,1,2,3,4,5,6,7,8],[],(511,0),.done) else none
def tbl0 : Nat→Option Plan:=fun _=>none
noncomputable def tab : List (Nat×Func×(Nat→Option Plan)):=[(12,Tryz.f12,tbl12),(13,Tryz.f13,tbl0),(14,Tryz.f14,tbl14),(15,Tryz.f15,tbl15),(17,Tryz.f17,tbl17),(19,Tryz.f19,tbl19),(22,Tryz.f22,tbl22),(23,Tryz.f23,tbl23),(27,Tryz.f27,tbl0),(28,Tryz.f28,tbl0),(30,Tryz.f30,tbl0),(47,Tryz.f47,tbl0),(48,Tryz.f48,tbl0),(49,Tryz.f49,tbl49),(50,Tryz.f50,tbl50),(51,Tryz.f51,tbl51),(52,Tryz.f52,tbl0),(54,Tryz.f54,tbl54),(55,Tryz.f55,tbl55),(57,Tryz.f57,tbl0),(61,Tryz.f61,tbl0),(62,Tryz.f62,tbl0),(63,Tryz.f63,tbl0),(64,Tryz.f64,tbl0),(67,Tryz.f67,tbl67),(68,Tryz.f68,tbl68),(70,Tryz.f70,tbl0),(71,Tryz.f71,tbl0),(72,Tryz.f72,tbl0),(75,Tryz.f75,tbl0),(92,Tryz.f92,tbl0),(93,Tryz.f93,tbl0),(94,Tryz.f94,tbl0),(95,Tryz.f95,tbl95),(96,Tryz.f96,tbl96),(97,Tryz.f97,tbl0),(99,Tryz.f99,tbl0),(100,Tryz.f100,tbl0),(101,Tryz.f101,tbl0),(103,Tryz.f103,tbl0),(104,Tryz.f104,tbl0),(105,Tryz.f105,tbl0),(106,Tryz.f106,tbl0),(107,Tryz.f107,tbl0),(108,Tryz.f108,tbl108),(109,Tryz.f109,tbl0),(110,Tryz.f110,tbl0),(111,Tryz.f111,tbl111),(112,Tryz.f112,tbl112),(114,Tryz.f114,tbl114),(115,Tryz.f115,tbl115),(116,Tryz.f116,tbl116),(122,Tryz.f122,tbl0),(123,Tryz.f123,tbl0),(124,Tryz.f124,tbl0),(125,Tryz.f125,tbl0),(126,Tryz.f126,tbl0),(127,Tryz.f127,tbl0),(134,Tryz.f134,tbl0),(137,Tryz.f137,tbl0),(143,Tryz.f143,tbl143),(144,Tryz.f144,tbl0),(145,Tryz.f145,tbl0),(146,Tryz.f146,tbl0),(147,Tryz.f147,tbl0),(149,Tryz.f149,tbl0),(152,Tryz.f152,tbl0),(153,Tryz.f153,tbl0),(154,Tryz.f154,tbl0),(155,Tryz.f155,tbl0),(156,Tryz.f156,tbl0),(157,Tryz.f157,tbl0),(158,Tryz.f158,tbl158),(159,Tryz.f159,tbl0),(164,Tryz.f164,tbl0),(165,Tryz.f165,tbl0),(166,Tryz.f166,tbl166)]
noncomputable def fns : FuncId→Option (Func×(Nat→Option Plan)):=fun f=>(tab.find? fun p=>p.1==f).map (·.2)
theorem tabFuncs : AreFuncs Tryz.prog tab:=⟨Tryz.func12,Tryz.func13,Tryz.func14,Tryz.func15,Tryz.func17,Tryz.func19,Tryz.func22,Tryz.func23,Tryz.func27,Tryz.func28,Tryz.func30,Tryz.func47,Tryz.func48,Tryz.func49,Tryz.func50,Tryz.func51,Tryz.func52,Tryz.func54,Tryz.func55,Tryz.func57,Tryz.func61,Tryz.func62,Tryz.func63,Tryz.func64,Tryz.func67,Tryz.func68,Tryz.func70,Tryz.func71,Tryz.func72,Tryz.func75,Tryz.func92,Tryz.func93,Tryz.func94,Tryz.func95,Tryz.func96,Tryz.func97,Tryz.func99,Tryz.func100,Tryz.func101,Tryz.func103,Tryz.func104,Tryz.func105,Tryz.func106,Tryz.func107,Tryz.func108,Tryz.func109,Tryz.func110,Tryz.func111,Tryz.func112,Tryz.func114,Tryz.func115,Tryz.func116,Tryz.func122,Tryz.func123,Tryz.func124,Tryz.func125,Tryz.func126,Tryz.func127,Tryz.func134,Tryz.func137,Tryz.func143,Tryz.func144,Tryz.func145,Tryz.func146,Tryz.func147,Tryz.func149,Tryz.func152,Tryz.func153,Tryz.func154,Tryz.func155,Tryz.func156,Tryz.func157,Tryz.func158,Tryz.func159,Tryz.func164,Tryz.func165,Tryz.func166,trivial⟩
theorem ok12 : fnOk T tbl12 Tryz.f12=true:=by kernel_rfl
theorem ok13 : fnOk T tbl0 Tryz.f13=true:=by kernel_rfl
theorem ok14 : fnOk T tbl14 Tryz.f14=true:=by kernel_rfl
theorem ok15 : fnOk T tbl15 Tryz.f15=true:=by kernel_rfl
theorem ok17 : fnOk T tbl17 Tryz.f17=true:=by kernel_rfl
theorem ok19 : fnOk T tbl19 Tryz.f19=true:=by kernel_rfl
theorem ok22 : fnOk T tbl22 Tryz.f22=true:=by kernel_rfl
theorem ok23 : fnOk T tbl23 Tryz.f23=true:=by kernel_rfl
theorem ok27 : fnOk T tbl0 Tryz.f27=true:=by kernel_rfl
theorem ok28 : fnOk T tbl0 Tryz.f28=true:=by kernel_rfl
theorem ok30 : fnOk T tbl0 Tryz.f30=true:=by kernel_rfl
theorem ok47 : fnOk T tbl0 Tryz.f47=true:=by kernel_rfl
theorem ok48 : fnOk T tbl0 Tryz.f48=true:=by kernel_rfl
theorem ok49 : fnOk T tbl49 Tryz.f49=true:=by kernel_rfl
theorem ok50 : fnOk T tbl50 Tryz.f50=true:=by kernel_rfl
theorem ok51 : fnOk T tbl51 Tryz.f51=true:=by kernel_rfl
theorem ok52 : fnOk T tbl0 Tryz.f52=true:=by kernel_rfl
theorem ok54 : fnOk T tbl54 Tryz.f54=true:=by kernel_rfl
theorem ok55 : fnOk T tbl55 Tryz.f55=true:=by kernel_rfl
theorem ok57 : fnOk T tbl0 Tryz.f57=true:=by kernel_rfl
theorem ok61 : fnOk T tbl0 Tryz.f61=true:=by kernel_rfl
theorem ok62 : fnOk T tbl0 Tryz.f62=true:=by kernel_rfl
theorem ok63 : fnOk T tbl0 Tryz.f63=true:=by kernel_rfl
theorem ok64 : fnOk T tbl0 Tryz.f64=true:=by kernel_rfl
theorem ok67 : fnOk T tbl67 Tryz.f67=true:=by kernel_rfl
theorem ok68 : fnOk T tbl68 Tryz.f68=true:=by kernel_rfl
theorem ok70 : fnOk T tbl0 Tryz.f70=true:=by kernel_rfl
theorem ok71 : fnOk T tbl0 Tryz.f71=true:=by kernel_rfl
theorem ok72 : fnOk T tbl0 Tryz.f72=true:=by kernel_rfl
theorem ok75 : fnOk T tbl0 Tryz.f75=true:=by kernel_rfl
theorem ok92 : fnOk T tbl0 Tryz.f92=true:=by kernel_rfl
theorem ok93 : fnOk T tbl0 Tryz.f93=true:=by kernel_rfl
theorem ok94 : fnOk T tbl0 Tryz.f94=true:=by kernel_rfl
theorem ok95 : fnOk T tbl95 Tryz.f95=true:=by kernel_rfl
theorem ok96 : fnOk T tbl96 Tryz.f96=true:=by kernel_rfl
theorem ok97 : fnOk T tbl0 Tryz.f97=true:=by kernel_rfl
theorem ok99 : fnOk T tbl0 Tryz.f99=true:=by kernel_rfl
theorem ok100 : fnOk T tbl0 Tryz.f100=true:=by kernel_rfl
theorem ok101 : fnOk T tbl0 Tryz.f101=true:=by kernel_rfl
theorem ok103 : fnOk T tbl0 Tryz.f103=true:=by kernel_rfl
theorem ok104 : fnOk T tbl0 Tryz.f104=true:=by kernel_rfl
theorem ok105 : fnOk T tbl0 Tryz.f105=true:=by kernel_rfl
theorem ok106 : fnOk T tbl0 Tryz.f106=true:=by kernel_rfl
theorem ok107 : fnOk T tbl0 Tryz.f107=true:=by kernel_rfl
theorem ok108 : fnOk T tbl108 Tryz.f108=true:=by kernel_rfl
theorem ok109 : fnOk T tbl0 Tryz.f109=true:=by kernel_rfl
theorem ok110 : fnOk T tbl0 Tryz.f110=true:=by kernel_rfl
theorem ok111 : fnOk T tbl111 Tryz.f111=true:=by kernel_rfl
theorem ok112 : fnOk T tbl112 Tryz.f112=true:=by kernel_rfl
theorem ok114 : fnOk T tbl114 Tryz.f114=true:=by kernel_rfl
theorem ok115 : fnOk T tbl115 Tryz.f115=true:=by kernel_rfl
theorem ok116 : fnOk T tbl116 Tryz.f116=true:=by kernel_rfl
theorem ok122 : fnOk T tbl0 Tryz.f122=true:=by kernel_rfl
theorem ok123 : fnOk T tbl0 Tryz.f123=true:=by kernel_rfl
theorem ok124 : fnOk T tbl0 Tryz.f124=true:=by kernel_rfl
theorem ok125 : fnOk T tbl0 Tryz.f125=true:=by kernel_rfl
theorem ok126 : fnOk T tbl0 Tryz.f126=true:=by kernel_rfl
theorem ok127 : fnOk T tbl0 Tryz.f127=true:=by kernel_rfl
theorem ok134 : fnOk T tbl0 Tryz.f134=true:=by kernel_rfl
theorem ok137 : fnOk T tbl0 Tryz.f137=true:=by kernel_rfl
theorem ok143 : fnOk T tbl143 Tryz.f143=true:=by kernel_rfl
theorem ok144 : fnOk T tbl0 Tryz.f144=true:=by kernel_rfl
theorem ok145 : fnOk T tbl0 Tryz.f145=true:=by kernel_rfl
theorem ok146 : fnOk T tbl0 Tryz.f146=true:=by kernel_rfl
theorem ok147 : fnOk T tbl0 Tryz.f147=true:=by kernel_rfl
theorem ok149 : fnOk T tbl0 Tryz.f149=true:=by kernel_rfl
theorem ok152 : fnOk T tbl0 Tryz.f152=true:=by kernel_rfl
theorem ok153 : fnOk T tbl0 Tryz.f153=true:=by kernel_rfl
theorem ok154 : fnOk T tbl0 Tryz.f154=true:=by kernel_rfl
theorem ok155 : fnOk T tbl0 Tryz.f155=true:=by kernel_rfl
theorem ok156 : fnOk T tbl0 Tryz.f156=true:=by kernel_rfl
theorem ok157 : fnOk T tbl0 Tryz.f157=true:=by kernel_rfl
theorem ok158 : fnOk T tbl158 Tryz.f158=true:=by kernel_rfl
theorem ok159 : fnOk T tbl0 Tryz.f159=true:=by kernel_rfl
theorem ok164 : fnOk T tbl0 Tryz.f164=true:=by kernel_rfl
theorem ok165 : fnOk T tbl0 Tryz.f165=true:=by kernel_rfl
theorem ok166 : fnOk T tbl166 Tryz.f166=true:=by kernel_rfl
theorem tabFits : FitAll T tab:=⟨ok12,ok13,ok14,ok15,ok17,ok19,ok22,ok23,ok27,ok28,ok30,ok47,ok48,ok49,ok50,ok51,ok52,ok54,ok55,ok57,ok61,ok62,ok63,ok64,ok67,ok68,ok70,ok71,ok72,ok75,ok92,ok93,ok94,ok95,ok96,ok97,ok99,ok100,ok101,ok103,ok104,ok105,ok106,ok107,ok108,ok109,ok110,ok111,ok112,ok114,ok115,ok116,ok122,ok123,ok124,ok125,ok126,ok127,ok134,ok137,ok143,ok144,ok145,ok146,ok147,ok149,ok152,ok153,ok154,ok155,ok156,ok157,ok158,ok159,ok164,ok165,ok166,trivial⟩
theorem tabOk : TabOk Tryz.prog T fns:=tabOk_of (l:=tab) tabFuncs tabFits
end Go.Proofs.YthejafdkimbddaaGreatDoor
