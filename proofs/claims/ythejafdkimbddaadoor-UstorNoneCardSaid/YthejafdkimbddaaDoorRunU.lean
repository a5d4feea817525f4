/- The functions that the closed run of 4 reaches, and the plans of their drawn regions. Printed by run.py. -/
import Derived.Test.YthejafdkimbddaaDoorTab
import Derived.Test.YthejafdkimbddaaDoorAbnB
namespace Go.Proofs.YthejafdkimbddaaDoor
open Go.Abs
def tbl5 : Nat → Option Plan := fun id => if id = 29 then some ([0, 1, 2, 3, 4], [0, 1, 2, 3, 4], [], (95, 578435488172802561), (.alt 5 [6] [2, 3, 6] [] (.alt 7 [] [] [] .done .nil) .nil)) else if id = 30 then some ([0, 1, 2, 3, 4], [0, 1, 2, 3, 4], [], (95, 578435488172802561), (.alt 5 [6] [2, 3, 6] [] (.alt 7 [] [] [] .done .nil) .nil)) else none
def tbl6 : Nat → Option Plan := fun id => if id = 6 then some ([0, 1, 2, 3, 4], [0, 1, 2, 3, 4], [], (479, 0), (.alt 5 [6, 7, 8] [0, 1, 6, 7, 8] [] .done .nil)) else if id = 10 then some ([0, 1, 2, 3, 4, 5, 6, 7, 8, 9, 11, 12], [0, 1, 2, 3, 4, 5, 6, 7, 8, 9, 11, 12], [], (244735, 0), (.alt 10 [13] [4, 5, 6, 11, 12, 13] [] (.alt 14 [15, 16, 17] [15, 16, 17] [] .done .nil) .nil)) else none
def tbl9 : Nat → Option Plan := fun id => if id = 3 then some ([0, 1, 2, 3, 4, 5, 6, 7, 8], [0, 1, 2, 3, 4, 5, 6, 7, 8], [], (1535, 0), (.alt 9 [10] [10] [] .done .nil)) else none
def tbl10 : Nat → Option Plan := fun id => if id = 6 then some ([0], [0], [], (16381, 0), (.alt 1 [2, 3, 4, 5, 6, 7, 8, 9, 10, 11, 12, 13] [2, 3, 4, 5, 6, 7, 8, 9, 10, 11, 12, 13] [] .done .nil)) else if id = 8 then some ([0, 1, 2, 3, 4, 5, 6, 7, 8, 9, 10, 11, 12, 13, 14, 15, 16, 17], [0, 1, 2, 3, 4, 5, 6, 7, 8, 9, 10, 11, 12, 13, 14, 15, 16, 17], [], (20709375, 157493617935346556041369882438099909533335420414576992387585), (.alt 18 [19, 20, 21] [19, 20, 21] [] (.alt 22 [] [19, 20, 21] [] (.alt 23 [24] [21, 24] [] .done .nil) .nil) (.alt 22 [] [0, 1, 2, 3, 4, 5, 6, 7, 8, 9, 10, 11, 12, 13, 14, 15, 16, 17] [] (.alt 18 [19, 20, 21] [19, 20, 21] [] (.alt 23 [24] [21, 24] [] .done .nil) .nil) .nil))) else none
def tbl11 : Nat → Option Plan := fun id => if id = 3 then some ([0, 1, 2, 3, 4, 5, 6, 7, 8, 9, 10, 11], [0, 1, 2, 3, 4, 5, 6, 7, 8, 9, 10, 11], [], (323583, 425200536155065863331824295120254140944679425), (.alt 12 [13, 14, 15] [13, 14, 15] [] (.alt 16 [] [13, 14, 15] [] (.alt 17 [18] [15, 18] [] .done .nil) .nil) (.alt 16 [] [0, 1, 2, 3, 4, 5, 6, 7, 8, 9, 10, 11] [] (.alt 12 [13, 14, 15] [13, 14, 15] [] (.alt 17 [18] [15, 18] [] .done .nil) .nil) .nil))) else if id = 4 then some ([0, 1, 2, 3, 4, 5, 6, 7, 8, 9], [0, 1, 2, 3, 4, 5, 6, 7, 8, 9], [], (3071, 0), (.alt 10 [11] [11] [] .done .nil)) else none
def tbl13 : Nat → Option Plan := fun id => if id = 16 then some ([0, 1, 2], [0, 1, 2], [], (7, 196866), .done) else if id = 21 then some ([0, 1, 2], [0, 1, 2], [], (125829111, 0), (.alt 3 [4, 5, 6, 7, 8, 9, 10, 11, 12, 13, 14, 15, 16, 17, 18, 19, 20, 21, 22] [0, 1, 4, 5, 6, 7, 8, 9, 10, 11, 12, 13, 14, 15, 16, 17, 18, 19, 20, 21, 22] [] (.alt 23 [24, 25, 26] [24, 25, 26] [] .done .nil) .nil)) else none
def tbl17 : Nat → Option Plan := fun id => if id = 3 then some ([0, 1, 2, 3, 4, 5, 6, 7], [0, 1, 2, 3, 4, 5, 6, 7], [], (767, 0), (.alt 8 [9] [9] [] .done .nil)) else none
def tbl20 : Nat → Option Plan := fun id => if id = 9 then some ([0, 1, 2, 5, 6, 9, 10, 13, 14, 17], [0, 1, 2, 5, 6, 9, 10, 13, 14, 17], [], (1013623, 0), (.alt 3 [4] [0, 1, 2, 4, 5, 6, 9, 10, 13, 14, 17] [] (.alt 7 [8] [0, 1, 2, 4, 8, 9, 10, 13, 14, 17] [] (.alt 11 [12] [0, 1, 2, 4, 8, 12, 13, 14, 17] [] (.alt 15 [16, 18, 19] [0, 1, 2, 4, 8, 12, 16, 17, 18, 19] [] .done .nil) .nil) .nil) .nil)) else none
def tbl21 : Nat → Option Plan := fun id => if id = 5 then some ([0, 1, 2, 3], [0, 1, 2, 3], [], (32751, 0), (.alt 4 [5, 6, 7, 8, 9, 10, 11, 12, 13, 14] [0, 1, 5, 6, 7, 8, 9, 10, 11, 12, 13, 14] [] .done .nil)) else none
def tbl22 : Nat → Option Plan := fun id => if id = 3 then some ([0, 1, 2], [0, 1, 2], [], (14839, 0), (.alt 3 [4, 5, 6, 7, 8] [4, 5, 6, 7, 8] [] (.alt 9 [] [6, 7] [] (.alt 10 [11, 12, 13] [11, 12, 13] [] .done .nil) .nil) .nil)) else if id = 5 then some ([0, 1, 2, 3, 4, 5, 6, 7, 8, 9, 10, 11], [0, 1, 2, 3, 4, 5, 6, 7, 8, 9, 10, 11], [], (4095, 0), .done) else none
def tbl25 : Nat → Option Plan := fun id => if id = 8 then some ([0, 1, 2, 3, 4, 5, 7, 8], [0, 1, 2, 3, 4, 5, 7, 8], [], (3007, 0), (.alt 6 [9] [0, 1, 7, 8, 9] [] (.alt 10 [11] [11] [] .done .nil) .nil)) else none
def tbl34 : Nat → Option Plan := fun id => if id = 1 then some ([0, 1, 2, 3, 4, 5, 6, 7, 8, 9, 10, 11, 12], [0, 1, 2, 3, 4, 5, 6, 7, 8, 9, 10, 11, 12], [], (499711, 108873986111091192410728593844274737053721362945), (.alt 13 [] [0, 1, 2, 3, 4, 5, 6, 7] [] (.alt 14 [15, 16, 17, 18] [15, 16, 17, 18] [] (.alt 19 [] [17] [] .done .nil) .nil) .nil)) else if id = 2 then some ([0, 1, 2, 3, 4, 5, 6, 7, 8, 9, 10, 11], [0, 1, 2, 3, 4, 5, 6, 7, 8, 9, 10, 11], [], (249855, 402900809145180011435847221163813954182644225), (.alt 12 [] [0, 1, 2, 3, 4, 5, 6, 7] [] (.alt 13 [14, 15, 16, 17] [14, 15, 16, 17] [] (.alt 18 [] [16] [] .done .nil) .nil) .nil)) else if id = 3 then some ([0, 1, 2, 3, 4, 5], [0, 1, 2, 3, 4, 5], [], (447, 47390263397898074064385), (.alt 6 [7, 8] [1, 3, 7, 8] [] (.alt 9 [] [] [] .done .nil) .nil)) else none
def tbl36 : Nat → Option Plan := fun id => if id = 6 then some ([0, 1, 2, 3, 4], [0, 1, 2, 3, 4], [], (31, 0), (.alt 5 [] [] [] .done .nil)) else none
def tbl42 : Nat → Option Plan := fun id => if id = 1 then some ([0, 1, 2, 3, 4, 5, 6, 7], [0, 1, 2, 3, 4, 5, 6, 7], [], (523519, 0), (.alt 8 [] [0, 1, 2, 3] [] (.alt 9 [10, 11, 12, 13, 14, 15, 16, 17, 18] [10, 11, 12, 13, 14, 15, 16, 17, 18] [] .done .nil) .nil)) else if id = 3 then some ([0, 1, 2, 3, 4, 5, 6, 7, 8, 9, 10, 11, 12, 13, 14, 15, 16, 17, 18, 19, 20, 21, 22, 23, 24], [0, 1, 2, 3, 4, 5, 6, 7, 8, 9, 10, 11, 12, 13, 14, 15, 16, 17, 18, 19, 20, 21, 22, 23, 24], [], (33554431, 0), .done) else none
def tbl43 : Nat → Option Plan := fun id => if id = 8 then some ([0, 1, 2, 3, 4, 5, 6], [0, 1, 2, 3, 4, 5, 6], [], (3455, 0), (.alt 7 [8] [0, 1, 2, 3, 4] [8] (.alt 9 [10, 11] [0, 10, 11] [] (.alt 12 [] [] [] .done .nil) .nil) .nil)) else none
def tbl44 : Nat → Option Plan := fun id => if id = 6 then some ([0, 1, 2, 3, 4, 5, 6, 7, 8, 9, 10], [0, 1, 2, 3, 4, 5, 6, 7, 8, 9, 10], [], (2047, 0), .done) else none
def tbl45 : Nat → Option Plan := fun id => if id = 6 then some ([0, 1, 2, 3, 4, 5, 6, 7, 8], [0, 1, 2, 3, 4, 5, 6, 7, 8], [], (511, 0), .done) else none
def tbl54 : Nat → Option Plan := fun id => if id = 3 then some ([0, 1, 2, 3, 4, 5], [0, 1, 2, 3, 4, 5], [], (831, 0), (.alt 6 [] [0, 1, 2, 3, 4] [] (.alt 7 [8, 9] [0, 8, 9] [] (.alt 10 [] [] [] .done .nil) .nil) .nil)) else none
def tbl55 : Nat → Option Plan := fun id => if id = 2 then some ([0, 1], [0, 1], [], (1979, 0), (.alt 2 [3, 4, 5, 7] [3, 4, 5, 7] [] (.alt 6 [8, 9, 10] [7, 8, 9, 10] [] .done .nil) .nil)) else none
def tbl68 : Nat → Option Plan := fun id => if id = 1 then some ([0, 1, 2, 3, 4, 5, 6, 7, 8, 9, 10, 11, 12, 13, 14, 15, 16, 17, 18, 19, 20, 21, 22, 23, 24, 25, 26, 27, 28, 29, 30, 31, 32, 33], [0, 1, 2, 3, 4, 5, 6, 7, 8, 9, 10, 11, 12, 13, 14, 15, 16, 17, 18, 19, 20, 21, 22, 23, 24, 25, 26, 27, 28, 29, 30, 31, 32, 33], [], (17179869183, 0), .done) else none
def tbl69 : Nat → Option Plan := fun id => if id = 1 then some ([0, 1, 2, 3, 4, 5, 6, 7, 8, 9, 10, 11, 12, 13, 14], [0, 1, 2, 3, 4, 5, 6, 7, 8, 9, 11, 12], [10, 13, 14], (32767, 0), (.alt 15 [] [] [] .done .nil)) else none
def tbl73 : Nat → Option Plan := fun id => if id = 4 then some ([], [], [], (0, 0), .done) else none
def tbl88 : Nat → Option Plan := fun id => if id = 5 then some ([0, 1, 2], [0, 1, 2], [], (39, 0), (.alt 3 [] [0] [] (.alt 4 [5] [5] [] .done .nil) .nil)) else if id = 7 then some ([0, 1, 2], [0, 1, 2], [], (23, 6618578224131), (.alt 3 [4] [0, 1, 4] [] (.alt 5 [] [] [] .done .nil) .nil)) else if id = 8 then some ([0, 1, 2], [0, 1, 2], [], (39, 0), (.alt 3 [] [0] [] (.alt 4 [5] [5] [] .done .nil) .nil)) else if id = 10 then some ([0, 1, 2, 3, 4], [0, 1, 2, 3, 4], [], (95, 578435488172802561), (.alt 5 [6] [2, 3, 6] [] (.alt 7 [] [] [] .done .nil) .nil)) else if id = 11 then some ([0, 1, 2, 3, 4, 5, 6], [0, 1, 2, 3, 4, 5, 6], [], (1407, 13340870359985180576514561), (.alt 7 [8] [0, 8] [] (.alt 9 [10] [8, 10] [] .done .nil) .nil)) else if id = 14 then some ([0, 1, 2], [0, 1, 2], [], (23, 6618578224131), (.alt 3 [4] [0, 1, 4] [] (.alt 5 [] [] [] .done .nil) .nil)) else if id = 15 then some ([0, 1, 2], [0, 1, 2], [], (39, 0), (.alt 3 [] [0] [] (.alt 4 [5] [5] [] .done .nil) .nil)) else if id = 20 then some ([0, 1, 2], [0, 1, 2], [], (39, 0), (.alt 3 [] [0] [] (.alt 4 [5] [5] [] .done .nil) .nil)) else if id = 24 then some ([0, 1, 2, 3, 4, 5, 6, 7, 8], [0, 1, 2, 3, 4, 5, 6, 7, 8], [], (22015, 21345776648346069362968374484253606401), (.alt 9 [10] [2, 3, 4, 5, 6, 7, 10] [] (.alt 11 [12] [4, 5, 6, 7, 12] [] (.alt 13 [14] [6, 7, 14] [] (.alt 15 [] [] [] .done .nil) .nil) .nil) .nil)) else if id = 25 then some ([0, 1, 2], [0, 1, 2], [], (45047, 21340645358415474705888952639144788481), (.alt 3 [4, 5, 6, 7, 8, 9, 10, 11] [0, 4, 5, 6, 7, 8, 9, 10, 11] [] (.alt 12 [13] [0, 13] [] (.alt 14 [15] [13, 15] [] .done .nil) .nil) .nil)) else none
def tbl103 : Nat → Option Plan := fun id => if id = 6 then some ([0, 1, 2, 3, 4, 5, 6, 7, 8], [0, 1, 2, 3, 4, 5, 6, 7, 8], [], (511, 0), .done) else none
def tbl113 : Nat → Option Plan := fun id => if id = 6 then some ([0, 1, 2, 3, 4, 5, 6, 7, 8], [0, 1, 2, 3, 4, 5, 6, 7, 8], [], (511, 0), .done) else none
def tbl0 : Nat → Option Plan := fun _ => none
noncomputable def tab : List (Nat × Func × (Nat → Option Plan)) := [(4, Tryd.f4, tbl0), (5, Tryd.f5, tbl5), (6, Tryd.f6, tbl6), (8, Tryd.f8, tbl0), (9, Tryd.f9, tbl9), (10, Tryd.f10, tbl10), (11, Tryd.f11, tbl11), (12, Tryd.f12, tbl0), (13, Tryd.f13, tbl13), (14, Tryd.f14, tbl0), (15, Tryd.f15, tbl0), (16, Tryd.f16, tbl0), (17, Tryd.f17, tbl17), (18, Tryd.f18, tbl0), (19, Tryd.f19, tbl0), (20, Tryd.f20, tbl20), (21, Tryd.f21, tbl21), (22, Tryd.f22, tbl22), (23, Tryd.f23, tbl0), (25, Tryd.f25, tbl25), (26, Tryd.f26, tbl0), (27, Tryd.f27, tbl0), (28, Tryd.f28, tbl0), (29, Tryd.f29, tbl0), (33, Tryd.f33, tbl0), (34, Tryd.f34, tbl34), (35, Tryd.f35, tbl0), (36, Tryd.f36, tbl36), (37, Tryd.f37, tbl0), (38, Tryd.f38, tbl0), (39, Tryd.f39, tbl0), (40, Tryd.f40, tbl0), (41, Tryd.f41, tbl0), (42, Tryd.f42, tbl42), (43, Tryd.f43, tbl43), (44, Tryd.f44, tbl44), (45, Tryd.f45, tbl45), (46, Tryd.f46, tbl0), (47, Tryd.f47, tbl0), (48, Tryd.f48, tbl0), (49, Tryd.f49, tbl0), (51, Tryd.f51, tbl0), (52, Tryd.f52, tbl0), (53, Tryd.f53, tbl0), (54, Tryd.f54, tbl54), (55, Tryd.f55, tbl55), (63, Tryd.f63, tbl0), (64, Tryd.f64, tbl0), (65, Tryd.f65, tbl0), (66, Tryd.f66, tbl0), (67, Tryd.f67, tbl0), (68, Tryd.f68, tbl68), (69, Tryd.f69, tbl69), (70, Tryd.f70, tbl0), (71, Tryd.f71, tbl0), (72, Tryd.f72, tbl0), (73, Tryd.f73, tbl73), (74, Tryd.f74, tbl0), (75, Tryd.f75, tbl0), (78, Tryd.f78, tbl0), (88, Tryd.f88, tbl88), (89, Tryd.f89, tbl0), (90, Tryd.f90, tbl0), (91, Tryd.f91, tbl0), (92, Tryd.f92, tbl0), (93, Tryd.f93, tbl0), (95, Tryd.f95, tbl0), (97, Tryd.f97, tbl0), (98, Tryd.f98, tbl0), (99, Tryd.f99, tbl0), (100, Tryd.f100, tbl0), (101, Tryd.f101, tbl0), (102, Tryd.f102, tbl0), (103, Tryd.f103, tbl103), (104, Tryd.f104, tbl0), (111, Tryd.f111, tbl0), (112, Tryd.f112, tbl0), (113, Tryd.f113, tbl113)]
noncomputable def fns : FuncId → Option (Func × (Nat → Option Plan)) := fun f => (tab.find? fun p => p.1 == f).map (·.2)
theorem tabFuncs : AreFuncs Tryd.prog tab := ⟨Tryd.func4, Tryd.func5, Tryd.func6, Tryd.func8, Tryd.func9, Tryd.func10, Tryd.func11, Tryd.func12, Tryd.func13, Tryd.func14, Tryd.func15, Tryd.func16, Tryd.func17, Tryd.func18, Tryd.func19, Tryd.func20, Tryd.func21, Tryd.func22, Tryd.func23, Tryd.func25, Tryd.func26, Tryd.func27, Tryd.func28, Tryd.func29, Tryd.func33, Tryd.func34, Tryd.func35, Tryd.func36, Tryd.func37, Tryd.func38, Tryd.func39, Tryd.func40, Tryd.func41, Tryd.func42, Tryd.func43, Tryd.func44, Tryd.func45, Tryd.func46, Tryd.func47, Tryd.func48, Tryd.func49, Tryd.func51, Tryd.func52, Tryd.func53, Tryd.func54, Tryd.func55, Tryd.func63, Tryd.func64, Tryd.func65, Tryd.func66, Tryd.func67, Tryd.func68, Tryd.func69, Tryd.func70, Tryd.func71, Tryd.func72, Tryd.func73, Tryd.func74, Tryd.func75, Tryd.func78, Tryd.func88, Tryd.func89, Tryd.func90, Tryd.func91, Tryd.func92, Tryd.func93, Tryd.func95, Tryd.func97, Tryd.func98, Tryd.func99, Tryd.func100, Tryd.func101, Tryd.func102, Tryd.func103, Tryd.func104, Tryd.func111, Tryd.func112, Tryd.func113, trivial⟩
theorem ok4 : fnOk T tbl0 Tryd.f4 = true := by kernel_rfl
theorem ok5 : fnOk T tbl5 Tryd.f5 = true := by kernel_rfl
theorem ok6 : fnOk T tbl6 Tryd.f6 = true := by kernel_rfl
theorem ok8 : fnOk T tbl0 Tryd.f8 = true := by kernel_rfl
theorem ok9 : fnOk T tbl9 Tryd.f9 = true := by kernel_rfl
theorem ok10 : fnOk T tbl10 Tryd.f10 = true := by kernel_rfl
theorem ok11 : fnOk T tbl11 Tryd.f11 = true := by kernel_rfl
theorem ok12 : fnOk T tbl0 Tryd.f12 = true := by kernel_rfl
theorem ok13 : fnOk T tbl13 Tryd.f13 = true := by kernel_rfl
theorem ok14 : fnOk T tbl0 Tryd.f14 = true := by kernel_rfl
theorem ok15 : fnOk T tbl0 Tryd.f15 = true := by kernel_rfl
theorem ok16 : fnOk T tbl0 Tryd.f16 = true := by kernel_rfl
theorem ok17 : fnOk T tbl17 Tryd.f17 = true := by kernel_rfl
theorem ok18 : fnOk T tbl0 Tryd.f18 = true := by kernel_rfl
theorem ok19 : fnOk T tbl0 Tryd.f19 = true := by kernel_rfl
theorem ok20 : fnOk T tbl20 Tryd.f20 = true := by kernel_rfl
theorem ok21 : fnOk T tbl21 Tryd.f21 = true := by kernel_rfl
theorem ok22 : fnOk T tbl22 Tryd.f22 = true := by kernel_rfl
theorem ok23 : fnOk T tbl0 Tryd.f23 = true := by kernel_rfl
theorem ok25 : fnOk T tbl25 Tryd.f25 = true := by kernel_rfl
theorem ok26 : fnOk T tbl0 Tryd.f26 = true := by kernel_rfl
theorem ok27 : fnOk T tbl0 Tryd.f27 = true := by kernel_rfl
theorem ok28 : fnOk T tbl0 Tryd.f28 = true := by kernel_rfl
theorem ok29 : fnOk T tbl0 Tryd.f29 = true := by kernel_rfl
theorem ok33 : fnOk T tbl0 Tryd.f33 = true := by kernel_rfl
theorem ok34 : fnOk T tbl34 Tryd.f34 = true := by kernel_rfl
theorem ok35 : fnOk T tbl0 Tryd.f35 = true := by kernel_rfl
theorem ok36 : fnOk T tbl36 Tryd.f36 = true := by kernel_rfl
theorem ok37 : fnOk T tbl0 Tryd.f37 = true := by kernel_rfl
theorem ok38 : fnOk T tbl0 Tryd.f38 = true := by kernel_rfl
theorem ok39 : fnOk T tbl0 Tryd.f39 = true := by kernel_rfl
theorem ok40 : fnOk T tbl0 Tryd.f40 = true := by kernel_rfl
theorem ok41 : fnOk T tbl0 Tryd.f41 = true := by kernel_rfl
theorem ok42 : fnOk T tbl42 Tryd.f42 = true := by kernel_rfl
theorem ok43 : fnOk T tbl43 Tryd.f43 = true := by kernel_rfl
theorem ok44 : fnOk T tbl44 Tryd.f44 = true := by kernel_rfl
theorem ok45 : fnOk T tbl45 Tryd.f45 = true := by kernel_rfl
theorem ok46 : fnOk T tbl0 Tryd.f46 = true := by kernel_rfl
theorem ok47 : fnOk T tbl0 Tryd.f47 = true := by kernel_rfl
theorem ok48 : fnOk T tbl0 Tryd.f48 = true := by kernel_rfl
theorem ok49 : fnOk T tbl0 Tryd.f49 = true := by kernel_rfl
theorem ok51 : fnOk T tbl0 Tryd.f51 = true := by kernel_rfl
theorem ok52 : fnOk T tbl0 Tryd.f52 = true := by kernel_rfl
theorem ok53 : fnOk T tbl0 Tryd.f53 = true := by kernel_rfl
theorem ok54 : fnOk T tbl54 Tryd.f54 = true := by kernel_rfl
theorem ok55 : fnOk T tbl55 Tryd.f55 = true := by kernel_rfl
theorem ok63 : fnOk T tbl0 Tryd.f63 = true := by kernel_rfl
theorem ok64 : fnOk T tbl0 Tryd.f64 = true := by kernel_rfl
theorem ok65 : fnOk T tbl0 Tryd.f65 = true := by kernel_rfl
theorem ok66 : fnOk T tbl0 Tryd.f66 = true := by kernel_rfl
theorem ok67 : fnOk T tbl0 Tryd.f67 = true := by kernel_rfl
theorem ok68 : fnOk T tbl68 Tryd.f68 = true := by kernel_rfl
theorem ok69 : fnOk T tbl69 Tryd.f69 = true := by kernel_rfl
theorem ok70 : fnOk T tbl0 Tryd.f70 = true := by kernel_rfl
theorem ok71 : fnOk T tbl0 Tryd.f71 = true := by kernel_rfl
theorem ok72 : fnOk T tbl0 Tryd.f72 = true := by kernel_rfl
theorem ok73 : fnOk T tbl73 Tryd.f73 = true := by kernel_rfl
theorem ok74 : fnOk T tbl0 Tryd.f74 = true := by kernel_rfl
theorem ok75 : fnOk T tbl0 Tryd.f75 = true := by kernel_rfl
theorem ok78 : fnOk T tbl0 Tryd.f78 = true := by kernel_rfl
theorem ok88 : fnOk T tbl88 Tryd.f88 = true := by kernel_rfl
theorem ok89 : fnOk T tbl0 Tryd.f89 = true := by kernel_rfl
theorem ok90 : fnOk T tbl0 Tryd.f90 = true := by kernel_rfl
theorem ok91 : fnOk T tbl0 Tryd.f91 = true := by kernel_rfl
theorem ok92 : fnOk T tbl0 Tryd.f92 = true := by kernel_rfl
theorem ok93 : fnOk T tbl0 Tryd.f93 = true := by kernel_rfl
theorem ok95 : fnOk T tbl0 Tryd.f95 = true := by kernel_rfl
theorem ok97 : fnOk T tbl0 Tryd.f97 = true := by kernel_rfl
theorem ok98 : fnOk T tbl0 Tryd.f98 = true := by kernel_rfl
theorem ok99 : fnOk T tbl0 Tryd.f99 = true := by kernel_rfl
theorem ok100 : fnOk T tbl0 Tryd.f100 = true := by kernel_rfl
theorem ok101 : fnOk T tbl0 Tryd.f101 = true := by kernel_rfl
theorem ok102 : fnOk T tbl0 Tryd.f102 = true := by kernel_rfl
theorem ok103 : fnOk T tbl103 Tryd.f103 = true := by kernel_rfl
theorem ok104 : fnOk T tbl0 Tryd.f104 = true := by kernel_rfl
theorem ok111 : fnOk T tbl0 Tryd.f111 = true := by kernel_rfl
theorem ok112 : fnOk T tbl0 Tryd.f112 = true := by kernel_rfl
theorem ok113 : fnOk T tbl113 Tryd.f113 = true := by kernel_rfl
theorem tabFits : FitAll T tab := ⟨ok4, ok5, ok6, ok8, ok9, ok10, ok11, ok12, ok13, ok14, ok15, ok16, ok17, ok18, ok19, ok20, ok21, ok22, ok23, ok25, ok26, ok27, ok28, ok29, ok33, ok34, ok35, ok36, ok37, ok38, ok39, ok40, ok41, ok42, ok43, ok44, ok45, ok46, ok47, ok48, ok49, ok51, ok52, ok53, ok54, ok55, ok63, ok64, ok65, ok66, ok67, ok68, ok69, ok70, ok71, ok72, ok73, ok74, ok75, ok78, ok88, ok89, ok90, ok91, ok92, ok93, ok95, ok97, ok98, ok99, ok100, ok101, ok102, ok103, ok104, ok111, ok112, ok113, trivial⟩
theorem tabOk : TabOk Tryd.prog T fns := tabOk_of (l := tab) tabFuncs tabFits
end Go.Proofs.YthejafdkimbddaaDoor
