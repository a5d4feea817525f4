/- The functions of this seat and the plans of their drawn regions. Printed by tab.py. -/
import Derived.Test.YtgbdgobkgcfioaaTy
import Derived.Test.YtgbdgobkgcfioaaAbnEval
namespace Go.Proofs.Ytgbdgobkgcfioaa
open Go.Abs
def tbl4 : Nat → Option Plan := fun id => if id = 1 then some ([0, 1, 2, 3, 4, 5, 6, 7, 8, 9, 10, 11], [0, 1, 2, 3, 4, 5, 6, 7, 8, 9, 10, 11], [], (4095, 3724728840567259036695921153), .done) else if id = 15 then some ([0, 1, 2, 3, 4, 5, 6, 7, 8, 9, 10, 11, 12, 13, 14, 15, 16, 17, 18, 19, 20, 21], [0, 1, 2, 3, 4, 5, 6, 7, 8, 9, 10, 11, 12, 13, 14, 15, 16, 17, 18, 19, 20, 21], [], (4194303, 0), .done) else none
def tbl5 : Nat → Option Plan := fun id => if id = 4 then some ([0, 1, 2, 3, 4, 5, 6, 7, 8], [0, 1, 2, 3, 4, 5, 6, 7, 8], [], (1535, 0), (.alt 9 [10] [10] [] .done .nil)) else none
def tbl8 : Nat → Option Plan := fun id => if id = 10 then some ([0, 1, 3, 4], [0, 1, 3, 4], [], (27, 0), (.alt 2 [] [3, 4] [] (.alt 5 [] [] [] (.alt 6 [] [] [] (.alt 7 [] [] [] (.alt 8 [] [] [] (.alt 9 [] [] [] .done .nil) .nil) .nil) (.alt 7 [] [] [] (.alt 6 [] [] [] (.alt 8 [] [] [] (.alt 9 [] [] [] .done .nil) .nil) .nil) .nil)) (.alt 6 [] [3, 4] [] (.alt 5 [] [] [] (.alt 7 [] [] [] (.alt 8 [] [] [] (.alt 9 [] [] [] .done .nil) .nil) .nil) (.alt 7 [] [3, 4] [] (.alt 5 [] [] [] (.alt 8 [] [] [] (.alt 9 [] [] [] .done .nil) .nil) .nil) .nil)) (.alt 7 [] [3, 4] [] (.alt 5 [] [] [] (.alt 6 [] [] [] (.alt 8 [] [] [] (.alt 9 [] [] [] .done .nil) .nil) .nil) (.alt 6 [] [3, 4] [] (.alt 5 [] [] [] (.alt 8 [] [] [] (.alt 9 [] [] [] .done .nil) .nil) .nil) .nil)) .nil))) (.alt 6 [] [0, 1, 3, 4] [] (.alt 2 [] [3, 4] [] (.alt 5 [] [] [] (.alt 7 [] [] [] (.alt 8 [] [] [] (.alt 9 [] [] [] .done .nil) .nil) .nil) (.alt 7 [] [3, 4] [] (.alt 5 [] [] [] (.alt 8 [] [] [] (.alt 9 [] [] [] .done .nil) .nil) .nil) .nil)) (.alt 7 [] [0, 1, 3, 4] [] (.alt 2 [] [3, 4] [] (.alt 5 [] [] [] (.alt 8 [] [] [] (.alt 9 [] [] [] .done .nil) .nil) .nil) .nil) .nil)) (.alt 7 [] [0, 1, 3, 4] [] (.alt 2 [] [3, 4] [] (.alt 5 [] [] [] (.alt 6 [] [] [] (.alt 8 [] [] [] (.alt 9 [] [] [] .done .nil) .nil) .nil) (.alt 6 [] [3, 4] [] (.alt 5 [] [] [] (.alt 8 [] [] [] (.alt 9 [] [] [] .done .nil) .nil) .nil) .nil)) (.alt 6 [] [0, 1, 3, 4] [] (.alt 2 [] [3, 4] [] (.alt 5 [] [] [] (.alt 8 [] [] [] (.alt 9 [] [] [] .done .nil) .nil) .nil) .nil) .nil)) .nil)))) else none
def tbl9 : Nat → Option Plan := fun id => if id = 2 then some ([0, 1, 2, 3, 4, 5, 6, 7, 8, 9, 10, 11, 12, 13, 14, 15, 16, 17, 18, 19, 20, 21, 22, 23, 24, 25, 26, 27, 28, 29, 30, 31, 32, 33], [1, 2, 3, 5, 6, 7, 8, 9, 11, 12, 13, 14, 15, 17, 18, 19, 20, 21, 23, 24, 25, 26, 27, 28, 29, 30, 31, 32, 33], [0, 4, 10, 16, 22], (17179869183, 0), .done) else none
def tbl10 : Nat → Option Plan := fun id => if id = 7 then some ([0, 1, 2, 3], [0, 1, 2, 3], [], (1701871, 0), (.alt 4 [5, 6, 7, 8, 9, 10, 12, 13, 14, 15, 16] [5, 6, 7, 8, 9, 10, 12, 13, 14, 15, 16] [] (.alt 11 [] [12, 13, 14, 15, 16] [] (.alt 17 [] [] [] (.alt 18 [19, 20] [19, 20] [] .done .nil) .nil) .nil) .nil)) else none
def tbl12 : Nat → Option Plan := fun id => if id = 6 then some ([0, 1, 2, 3, 4, 5, 6, 7], [0, 1, 2, 3, 4, 5, 6, 7], [], (255, 3722311025821519029555364353), (.alt 8 [] [0, 1, 2, 3, 4, 5, 6, 7] [] (.alt 9 [] [0, 1, 2, 3, 4, 5, 6, 7] [] (.alt 10 [] [4, 5, 6, 7] [] (.alt 11 [] [] [] .done .nil) .nil) .nil) (.alt 9 [] [0, 1, 2, 3, 4, 5, 6, 7] [] (.alt 8 [] [0, 1, 2, 3, 4, 5, 6, 7] [] (.alt 10 [] [4, 5, 6, 7] [] (.alt 11 [] [] [] .done .nil) .nil) .nil) .nil))) else none
def tbl13 : Nat → Option Plan := fun id => if id = 9 then some ([0, 1, 2, 3, 4, 5, 6, 7, 8, 9], [0, 1, 2, 3, 4, 5, 6, 7, 8, 9], [], (3071, 0), (.alt 10 [11] [0, 1, 2, 3, 4, 5, 6, 7, 8, 11] [] (.alt 12 [] [0, 1, 2, 3, 4, 5, 6, 7, 8, 11] [] (.alt 13 [] [] [] .done .nil) .nil) (.alt 12 [] [0, 1, 2, 3, 4, 5, 6, 7, 8, 9] [] (.alt 10 [11] [0, 1, 2, 3, 4, 5, 6, 7, 8, 11] [] (.alt 13 [] [] [] .done .nil) .nil) .nil))) else if id = 13 then some ([0, 1, 2, 3, 4, 5, 6, 7, 8], [0, 1, 2, 3, 4, 5, 6, 7], [8], (1535, 0), (.alt 9 [10] [10] [] (.alt 11 [] [] [] .done .nil) .nil)) else none
def tbl14 : Nat → Option Plan := fun id => if id = 14 then some ([0, 1, 2, 3, 6, 7, 8, 9, 10, 11], [0, 2, 3, 6, 7, 8, 9, 10], [1, 11], (20431, 0), (.alt 4 [] [0, 6, 7, 8, 9, 10] [1, 11] (.alt 5 [] [0, 6, 7, 8, 9, 10] [11] (.alt 12 [] [0] [] (.alt 13 [14] [14] [] .done .nil) .nil) .nil) .nil)) else if id = 15 then some ([0, 1, 2, 3, 4, 5, 6, 7, 8, 9, 10], [0, 1, 2, 3, 4, 5, 6, 7, 8, 9], [10], (6143, 0), (.alt 11 [12] [12] [] (.alt 13 [] [] [] .done .nil) .nil)) else none
def tbl19 : Nat → Option Plan := fun id => if id = 5 then some ([0], [0], [], (4294967293, 0), (.alt 1 [2, 3, 4, 5, 6, 7, 8, 9, 10, 11, 12, 13, 14, 15, 16, 17, 18, 19, 20, 21, 22, 23, 24, 25, 26, 27, 28, 29, 30, 31] [2, 3, 4, 5, 6, 7, 8, 9, 10, 11, 12, 13, 14, 15, 16, 17, 18, 19, 20, 21, 22, 23, 24, 25, 26, 27, 28, 29, 30, 31] [] .done .nil)) else if id = 13 then some ([0, 1, 2, 3, 4, 5, 6, 7, 8, 9], [0, 1, 2, 3, 4, 5, 6, 7, 8, 9], [], (1023, 0), (.alt 10 [] [] [] .done .nil)) else if id = 15 then some ([0, 1, 2, 3, 4, 5, 6], [0, 1, 2, 3, 4, 5, 6], [], (127, 0), (.alt 7 [] [] [] .done .nil)) else none
def tbl20 : Nat → Option Plan := fun id => if id = 7 then some ([0, 1, 2, 3], [0, 1, 2, 3], [], (16777199, 0), (.alt 4 [5, 6, 7, 8, 9, 10, 11, 12, 13, 14, 15, 16, 17, 18, 19, 20, 21, 22, 23] [5, 6, 7, 8, 9, 10, 11, 12, 13, 14, 15, 16, 17, 18, 19, 20, 21, 22, 23] [] .done .nil)) else if id = 9 then some ([0, 1, 2, 3, 4, 5, 6, 7, 8, 9, 10, 11, 12, 13, 14, 15, 16, 17, 18, 19, 20, 21], [0, 1, 2, 3, 4, 5, 6, 7, 8, 9, 10, 11, 12, 13, 14, 15, 16, 17, 18, 19, 20], [21], (29360127, 0), (.alt 22 [23, 24] [0, 23, 24] [] (.alt 25 [] [] [] .done .nil) .nil)) else if id = 17 then some ([0, 1, 2, 3, 4, 5, 6, 7, 8, 9, 10, 11, 12, 13], [0, 1, 2, 3, 4, 5, 6, 7, 8, 9, 10, 11, 12, 13], [], (16383, 0), .done) else if id = 24 then some ([0, 1, 2, 3, 4, 5, 6, 7, 8, 9, 10, 11, 12, 13, 14, 15, 16, 17, 18, 19, 20, 21, 22, 23, 24], [0, 1, 2, 3, 4, 5, 6, 7, 8, 9, 10, 11, 12, 13, 14, 15, 16, 17, 18, 19, 20, 21, 22, 23, 24], [], (33554431, 0), .done) else if id = 29 then some ([0, 1, 2, 3, 4, 5, 6, 7, 8, 9, 11, 12, 13, 14, 15, 16, 17, 18, 19, 21, 22, 23, 24, 25, 26, 27, 28], [0, 2, 3, 4, 5, 6, 7, 8, 9, 11, 12, 13, 14, 15, 16, 17, 18, 21, 22, 23, 24, 25, 26, 27, 28], [1, 19], (535821311, 0), (.alt 10 [] [0, 11, 12, 13, 14, 15, 16, 17, 18, 21, 22, 23, 24, 25, 26, 27, 28] [19] (.alt 20 [] [0, 21, 22, 23, 24, 25, 26, 27, 28] [] (.alt 29 [] [] [] .done .nil) .nil) .nil)) else none
def tbl25 : Nat → Option Plan := fun id => if id = 6 then some ([0, 1, 2, 3, 4, 5, 6, 7, 8], [0, 1, 2, 3, 4, 5, 6, 7, 8], [], (511, 0), .done) else none
def tbl26 : Nat → Option Plan := fun id => if id = 6 then some ([0, 1, 2, 3, 4, 5, 6, 7, 8], [0, 1, 2, 3, 4, 5, 6, 7, 8], [], (511, 0), .done) else none
def tbl31 : Nat → Option Plan := fun id => if id = 5 then some ([0, 1, 2, 3, 4, 5, 6, 7, 8, 9, 10, 11, 12, 13, 14], [0, 1, 2, 3, 4, 5, 6, 7, 8, 9, 10, 11, 12, 13, 14], [], (32767, 0), .done) else if id = 9 then some ([0, 1, 2, 3, 5, 6, 8, 9, 10], [1, 2, 3, 5, 8, 9, 10], [0, 6], (1903, 0), (.alt 4 [] [5, 8, 9, 10] [6] (.alt 7 [] [8, 9, 10] [] (.alt 11 [] [] [] (.alt 12 [] [] [] .done .nil) .nil) .nil) .nil)) else none
def tbl34 : Nat → Option Plan := fun id => if id = 13 then some ([0, 1, 2, 3, 4, 5, 6, 7], [0, 1, 2, 3, 4, 5, 6, 7], [], (255, 0), (.alt 8 [] [] [] .done .nil)) else none
def tbl36 : Nat → Option Plan := fun id => if id = 20 then some ([0, 1, 2, 3, 4, 5, 6, 7], [0, 1, 2, 3, 4, 5, 6, 7], [], (255, 0), (.alt 8 [] [] [] .done .nil)) else none
def tbl37 : Nat → Option Plan := fun id => if id = 11 then some ([0, 1, 2, 3, 4, 5, 6, 7], [0, 1, 2, 3, 4, 5, 6, 7], [], (255, 0), (.alt 8 [] [] [] .done .nil)) else none
def tbl40 : Nat → Option Plan := fun id => if id = 6 then some ([0, 1, 2, 3, 4, 5, 6, 7, 8, 9, 10, 11, 12, 13, 14, 15, 16, 17, 18, 19, 20, 21], [0, 1, 2, 3, 4, 5, 6, 7, 8, 9, 10, 11, 12, 13, 14, 15, 16, 17, 18, 19, 20, 21], [], (4194303, 0), (.alt 22 [] [] [] .done .nil)) else if id = 15 then some ([0, 1, 2, 3, 4, 5, 6, 7, 8, 9, 10, 11, 12, 13], [0, 1, 2, 3, 4, 5, 6, 7, 8, 9, 10, 11, 12, 13], [], (16383, 0), .done) else none
def tbl43 : Nat → Option Plan := fun id => if id = 10 then some ([0, 1, 2, 3, 4, 5, 6], [0, 1, 2, 3, 4, 5, 6], [], (383, 0), (.alt 7 [8] [8] [] .done .nil)) else if id = 19 then some ([0, 1, 2, 3, 4, 5, 6, 7, 8, 9, 10, 11, 12, 13], [0, 1, 2, 3, 4, 5, 6, 7, 8, 9, 10, 11, 12, 13], [], (49151, 0), (.alt 14 [15] [15] [] .done .nil)) else none
def tbl44 : Nat → Option Plan := fun id => if id = 32 then some ([0, 1, 3, 4, 5, 6, 7], [1, 3, 4, 5, 6, 7], [0], (763, 0), (.alt 2 [] [3, 4, 5, 6, 7] [] (.alt 8 [9] [9] [] (.alt 10 [] [] [] .done .nil) .nil) .nil)) else none
def tbl47 : Nat → Option Plan := fun id => if id = 8 then some ([0, 1, 2, 3, 4, 5, 6, 7, 8, 9, 10, 12, 13], [0, 1, 2, 3, 4, 5, 6, 7, 8, 9, 10, 12, 13], [], (63487, 0), (.alt 11 [14, 15] [0, 1, 2, 3, 4, 5, 6, 7, 12, 13, 14, 15] [] (.alt 16 [] [] [] .done .nil) .nil)) else none
def tbl52 : Nat → Option Plan := fun id => if id = 8 then some ([0, 1, 2, 3, 4], [0, 1, 2, 3, 4], [], (33554399, 0), (.alt 5 [6, 7, 8, 9, 10, 11, 12, 13, 14, 15, 16, 17, 18, 19, 20, 21, 22, 23, 24] [6, 7, 8, 9, 10, 11, 12, 13, 14, 15, 16, 17, 18, 19, 20, 21, 22, 23, 24] [] .done .nil)) else none
def tbl63 : Nat → Option Plan := fun id => if id = 7 then some ([0, 1, 2, 3, 4, 5, 6, 7, 8, 9], [0, 1, 2, 3, 4, 5, 6, 7, 8, 9], [], (3071, 0), (.alt 10 [11] [11] [] .done .nil)) else if id = 8 then some ([0, 1, 2, 3, 4, 5, 6, 7, 8, 9, 10, 11, 12, 13, 14, 15, 16, 17], [0, 1, 2, 3, 4, 5, 6, 7, 8, 9, 10, 11, 12, 13, 14, 15, 16, 17], [], (786431, 0), (.alt 18 [19] [19] [] .done .nil)) else none
def tbl64 : Nat → Option Plan := fun id => if id = 3 then some ([0, 1, 2, 3, 4, 5, 6, 7, 9, 10], [0, 1, 2, 3, 4, 5, 6, 7, 9, 10], [], (12031, 0), (.alt 8 [11] [0, 1, 9, 10, 11] [] (.alt 12 [13] [13] [] .done .nil) .nil)) else none
def tbl68 : Nat → Option Plan := fun id => if id = 1 then some ([0, 1, 2, 3, 4, 5, 6, 7, 8, 9, 10, 11, 12, 13], [0, 1, 2, 3, 4, 5, 6, 7, 8, 9, 10, 11, 12, 13], [], (16383, 284512369453091898688927804097025), .done) else none
def tbl69 : Nat → Option Plan := fun id => if id = 1 then some ([0, 1, 2, 3, 4, 5, 6], [0, 1, 2, 3, 4, 5, 6], [], (127, 0), (.alt 7 [] [] [] .done .nil)) else if id = 2 then some ([0, 1, 2, 3, 4, 5, 6, 7], [0, 1, 2, 3, 4, 5, 6, 7], [], (255, 0), .done) else if id = 5 then some ([0, 1, 2, 3, 4, 5], [0, 1, 2, 3, 4, 5], [], (63, 0), (.alt 6 [] [] [] .done .nil)) else none
def tbl77 : Nat → Option Plan := fun id => if id = 2 then some ([0, 1, 2, 3, 4, 5, 6, 7, 9, 10, 11, 12, 13, 14, 15], [0, 2, 3, 4, 5, 6, 7, 9, 10, 11, 12, 13, 14, 15], [1], (458495, 0), (.alt 8 [] [0, 9, 10, 11, 12, 13, 14, 15] [] (.alt 16 [17, 18] [0, 17, 18] [] (.alt 19 [] [] [] .done .nil) .nil) .nil)) else none
def tbl79 : Nat → Option Plan := fun id => if id = 17 then some ([0, 1, 2, 3, 4, 5, 6, 7, 8, 9, 10, 11], [0, 1, 2, 3, 4, 5, 6, 7, 8, 9, 10, 11], [], (28671, 0), (.alt 12 [13, 14] [13, 14] [] .done .nil)) else none
def tbl81 : Nat → Option Plan := fun id => if id = 4 then some ([0, 1, 2, 3, 4, 6, 7, 8, 9, 10], [1, 2, 3, 4, 6, 7, 8, 9, 10], [0], (16351, 284985881518118556644076719112705), (.alt 5 [11, 12, 13] [6, 7, 8, 9, 10, 11, 12, 13] [] .done .nil)) else none
def tbl83 : Nat → Option Plan := fun id => if id = 1 then some ([0, 2, 3, 4, 5, 6, 9, 10], [0, 2, 3, 4, 5, 6, 9, 10], [], (14205, 0), (.alt 1 [] [2, 3, 4, 5, 6, 9, 10] [] (.alt 7 [8] [8, 9, 10] [] (.alt 11 [12, 13] [8, 12, 13] [] .done .nil) .nil) .nil)) else none
def tbl84 : Nat → Option Plan := fun id => if id = 6 then some ([0, 1, 2, 3, 4, 5, 6, 7, 8], [0, 1, 2, 3, 4, 5, 6, 7, 8], [], (511, 0), .done) else none
def tbl86 : Nat → Option Plan := fun id => if id = 4 then some ([0, 1, 2, 3, 4, 5, 6, 7, 8, 9, 10, 11, 12], [0, 1, 2, 3, 4, 5, 6, 7, 8, 9, 10, 11, 12], [], (24575, 0), (.alt 13 [14] [14] [] .done .nil)) else if id = 6 then some ([0, 1, 2, 3, 4, 5, 6, 7, 8, 9, 10, 11, 12, 13, 14], [0, 1, 2, 3, 4, 5, 6, 7, 8, 9, 10, 11, 12, 13, 14], [], (98303, 1573823289504749482177360425553442074657281), (.alt 15 [16] [2, 3, 4, 16] [] (.alt 17 [] [] [] .done .nil) .nil)) else none
def tbl87 : Nat → Option Plan := fun id => if id = 10 then some ([0, 1, 2, 3, 4, 5, 6, 7, 8, 9, 10, 11, 12, 13, 14, 15, 16], [0, 1, 2, 3, 4, 5, 6, 7, 8, 9, 10, 11, 12, 13, 14, 15, 16], [], (393215, 114604753586930741694501877671475435052899172865), (.alt 17 [18] [2, 3, 4, 5, 18] [] (.alt 19 [] [] [] .done .nil) .nil)) else none
def tbl88 : Nat → Option Plan := fun id => if id = 10 then some ([0, 1, 2, 3, 4, 5, 6, 7, 8, 9, 10, 11, 12, 13, 14, 15, 16], [0, 1, 2, 3, 4, 5, 6, 7, 8, 9, 10, 11, 12, 13, 14, 15, 16], [], (393215, 114604753586930741694501877671475435052899172865), (.alt 17 [18] [2, 3, 4, 5, 18] [] (.alt 19 [] [] [] .done .nil) .nil)) else none
def tbl90 : Nat → Option Plan := fun id => if id = 3 then some ([0, 1, 2, 3, 4, 5, 6, 7, 8, 9, 10, 11, 12], [0, 1, 2, 3, 4, 5, 6, 7, 8, 9, 10, 11, 12], [], (24575, 21345776648967476196924482478649704961), (.alt 13 [14] [2, 3, 14] [] (.alt 15 [] [] [] .done .nil) .nil)) else none
def tbl91 : Nat → Option Plan := fun id => if id = 5 then some ([0, 1, 2, 3, 4, 5, 6, 7, 8, 9, 10, 11, 12], [0, 1, 2, 3, 4, 5, 6, 7, 8, 9, 10, 11, 12], [], (57343, 0), (.alt 13 [14, 15] [14, 15] [] .done .nil)) else if id = 11 then some ([0, 1, 2, 3, 4, 5, 6, 7, 8, 9, 10, 11, 12, 13, 14], [0, 1, 2, 3, 4, 5, 6, 7, 8, 9, 10, 11, 12, 13, 14], [], (98303, 1573823289504749482177360425553442074657281), (.alt 15 [16] [2, 3, 4, 16] [] (.alt 17 [] [] [] .done .nil) .nil)) else if id = 16 then some ([0, 1, 2, 3, 4, 5, 6, 7, 8], [0, 1, 2, 3, 4, 5, 6, 7, 8], [], (1535, 0), (.alt 9 [10] [10] [] .done .nil)) else if id = 17 then some ([0, 1, 2, 3, 4, 5, 6, 7, 8, 9, 10, 11, 12, 13, 14], [0, 1, 2, 3, 4, 5, 6, 7, 8, 9, 10, 11, 12, 13, 14], [], (98303, 1573823289504749482177360425553442074657281), (.alt 15 [16] [2, 3, 4, 16] [] (.alt 17 [] [] [] .done .nil) .nil)) else if id = 22 then some ([0, 1, 2, 3, 4, 5, 6, 7, 8], [0, 1, 2, 3, 4, 5, 6, 7, 8], [], (1535, 0), (.alt 9 [10] [10] [] .done .nil)) else if id = 23 then some ([0, 1, 2, 3, 4, 5, 6, 7, 8, 9, 10, 11, 12, 13, 14], [0, 1, 2, 3, 4, 5, 6, 7, 8, 9, 10, 11, 12, 13, 14], [], (98303, 1573823289504749482177360425553442074657281), (.alt 15 [16] [2, 3, 4, 16] [] (.alt 17 [] [] [] .done .nil) .nil)) else none
def tbl93 : Nat → Option Plan := fun id => if id = 1 then some ([0, 1, 2, 3, 4, 5, 6, 7, 8, 9, 10, 11, 12], [0, 1, 2, 3, 4, 5, 6, 7, 8, 9, 10, 11, 12], [], (24575, 21345776648967476196924482478649704961), (.alt 13 [14] [2, 3, 14] [] (.alt 15 [] [] [] .done .nil) .nil)) else if id = 3 then some ([0, 1, 2, 3, 4, 5, 6, 7, 8, 9, 10, 11], [0, 1, 2, 3, 4, 5, 6, 7, 8, 9, 10, 11], [], (28671, 0), (.alt 12 [13, 14] [13, 14] [] .done .nil)) else if id = 5 then some ([0, 1, 2, 3, 4, 5, 6, 7, 8, 9, 10, 11], [0, 1, 2, 3, 4, 5, 6, 7, 8, 9, 10, 11], [], (12287, 0), (.alt 12 [13] [13] [] .done .nil)) else if id = 8 then some ([0, 1, 2, 3, 4, 5, 6, 7, 8, 9, 10, 11, 12], [0, 1, 2, 3, 4, 5, 6, 7, 8, 9, 10, 11, 12], [], (24575, 21345776648967476196924482478649704961), (.alt 13 [14] [2, 3, 14] [] (.alt 15 [] [] [] .done .nil) .nil)) else none
def tbl94 : Nat → Option Plan := fun id => if id = 1 then some ([0, 1, 2, 3, 4, 5, 6, 7, 8, 9, 10, 11, 12], [0, 1, 2, 3, 4, 5, 6, 7, 8, 9, 10, 11, 12], [], (24575, 21345776648967476196924482478649704961), (.alt 13 [14] [2, 3, 14] [] (.alt 15 [] [] [] .done .nil) .nil)) else if id = 3 then some ([0, 1, 2, 3, 4, 5, 6, 7, 8, 9, 10, 11], [0, 1, 2, 3, 4, 5, 6, 7, 8, 9, 10, 11], [], (12287, 0), (.alt 12 [13] [13] [] .done .nil)) else if id = 5 then some ([0, 1, 2, 3, 4, 5, 6, 7, 8, 9, 10, 11], [0, 1, 2, 3, 4, 5, 6, 7, 8, 9, 10, 11], [], (28671, 0), (.alt 12 [13, 14] [13, 14] [] .done .nil)) else if id = 8 then some ([0, 1, 2, 3, 4, 5, 6, 7, 8, 9, 10, 11, 12], [0, 1, 2, 3, 4, 5, 6, 7, 8, 9, 10, 11, 12], [], (24575, 21345776648967476196924482478649704961), (.alt 13 [14] [2, 3, 14] [] (.alt 15 [] [] [] .done .nil) .nil)) else if id = 10 then some ([0, 1, 2, 3, 4, 5, 6, 7, 8, 9, 10, 11, 12], [0, 1, 2, 3, 4, 5, 6, 7, 8, 9, 10, 11, 12], [], (24575, 21345776648967476196924482478649704961), (.alt 13 [14] [2, 3, 14] [] (.alt 15 [] [] [] .done .nil) .nil)) else if id = 13 then some ([0, 1, 2, 3, 4, 5, 6, 7, 8, 9, 10, 11], [0, 1, 2, 3, 4, 5, 6, 7, 8, 9, 10, 11], [], (12287, 0), (.alt 12 [13] [13] [] .done .nil)) else if id = 15 then some ([0, 1, 2, 3, 4, 5, 6, 7, 8, 9, 10, 11], [0, 1, 2, 3, 4, 5, 6, 7, 8, 9, 10, 11], [], (28671, 0), (.alt 12 [13, 14] [13, 14] [] .done .nil)) else if id = 18 then some ([0, 1, 2, 3, 4, 5, 6, 7, 8, 9, 10, 11, 12], [0, 1, 2, 3, 4, 5, 6, 7, 8, 9, 10, 11, 12], [], (24575, 21345776648967476196924482478649704961), (.alt 13 [14] [2, 3, 14] [] (.alt 15 [] [] [] .done .nil) .nil)) else if id = 21 then some ([0, 1, 2, 3, 4, 5, 6, 7, 8, 9, 10, 11, 12], [0, 1, 2, 3, 4, 5, 6, 7, 8, 9, 10, 11, 12], [], (24575, 21345776648967476196924482478649704961), (.alt 13 [14] [2, 3, 14] [] (.alt 15 [] [] [] .done .nil) .nil)) else none
def tbl97 : Nat → Option Plan := fun id => if id = 3 then some ([0, 1, 2, 3, 4, 5, 6, 7, 8, 9, 10, 11, 12, 13, 14, 15, 16, 17], [0, 1, 2, 3, 4, 5, 6, 7, 8, 9, 10, 11, 12, 13, 14, 15, 16, 17], [], (786431, 0), (.alt 18 [19] [19] [] .done .nil)) else if id = 5 then some ([0, 1, 2, 3, 4, 5, 6, 7, 8, 9, 10, 11], [0, 1, 2, 3, 4, 5, 6, 7, 8, 9, 10, 11], [], (12287, 0), (.alt 12 [13] [13] [] .done .nil)) else if id = 6 then some ([0, 1, 2, 3, 4, 5, 6, 7, 8, 9, 10, 11, 12, 13, 14, 15, 16, 17, 18, 19, 20], [0, 1, 2, 3, 4, 5, 6, 7, 8, 9, 10, 11, 12, 13, 14, 15, 16, 17, 18, 19, 20], [], (6291455, 590688009569248279792333335424601768058508693969079304705), (.alt 21 [22] [4, 5, 6, 7, 22] [] (.alt 23 [] [] [] .done .nil) .nil)) else none
def tbl99 : Nat → Option Plan := fun id => if id = 1 then some ([0, 1, 2, 3, 4, 5, 6, 7, 8], [0, 1, 2, 3, 4, 5, 6, 7, 8], [], (511, 0), (.alt 9 [] [] [] .done .nil)) else if id = 2 then some ([0, 1, 2, 3, 4, 5, 6, 7, 8], [0, 1, 2, 3, 4, 5, 6, 7, 8], [], (511, 0), (.alt 9 [] [] [] .done .nil)) else if id = 3 then some ([0, 1, 2, 3, 4, 5, 6, 7, 8], [0, 1, 2, 3, 4, 5, 6, 7, 8], [], (511, 0), (.alt 9 [] [] [] .done .nil)) else none
def tbl103 : Nat → Option Plan := fun id => if id = 1 then some ([0, 1, 2, 3, 4, 5, 6, 7], [0, 1, 2, 3, 4, 5, 6, 7], [], (255, 0), (.alt 8 [] [] [] .done .nil)) else none
def tbl0 : Nat → Option Plan := fun _ => none
def G0 : Nat → Option (List AV) := fun _ => none
noncomputable def tab : List (Nat × Func × (Nat → Option Plan)) := [(3, Try.f3, tbl0), (4, Try.f4, tbl4), (5, Try.f5, tbl5), (6, Try.f6, tbl0), (7, Try.f7, tbl0), (8, Try.f8, tbl8), (9, Try.f9, tbl9), (10, Try.f10, tbl10), (11, Try.f11, tbl0), (12, Try.f12, tbl12), (13, Try.f13, tbl13), (14, Try.f14, tbl14), (15, Try.f15, tbl0), (16, Try.f16, tbl0), (17, Try.f17, tbl0), (18, Try.f18, tbl0), (19, Try.f19, tbl19), (20, Try.f20, tbl20), (21, Try.f21, tbl0), (22, Try.f22, tbl0), (23, Try.f23, tbl0), (24, Try.f24, tbl0), (25, Try.f25, tbl25), (26, Try.f26, tbl26), (27, Try.f27, tbl0), (28, Try.f28, tbl0), (29, Try.f29, tbl0), (30, Try.f30, tbl0), (31, Try.f31, tbl31), (32, Try.f32, tbl0), (33, Try.f33, tbl0), (34, Try.f34, tbl34), (35, Try.f35, tbl0), (36, Try.f36, tbl36), (37, Try.f37, tbl37), (38, Try.f38, tbl0), (39, Try.f39, tbl0), (40, Try.f40, tbl40), (41, Try.f41, tbl0), (42, Try.f42, tbl0), (43, Try.f43, tbl43), (44, Try.f44, tbl44), (45, Try.f45, tbl0), (46, Try.f46, tbl0), (47, Try.f47, tbl47), (48, Try.f48, tbl0), (49, Try.f49, tbl0), (50, Try.f50, tbl0), (51, Try.f51, tbl0), (52, Try.f52, tbl52), (53, Try.f53, tbl0), (54, Try.f54, tbl0), (55, Try.f55, tbl0), (56, Try.f56, tbl0), (57, Try.f57, tbl0), (58, Try.f58, tbl0), (59, Try.f59, tbl0), (60, Try.f60, tbl0), (61, Try.f61, tbl0), (62, Try.f62, tbl0), (63, Try.f63, tbl63), (64, Try.f64, tbl64), (65, Try.f65, tbl0), (66, Try.f66, tbl0), (67, Try.f67, tbl0), (68, Try.f68, tbl68), (69, Try.f69, tbl69), (70, Try.f70, tbl0), (71, Try.f71, tbl0), (72, Try.f72, tbl0), (73, Try.f73, tbl0), (74, Try.f74, tbl0), (75, Try.f75, tbl0), (76, Try.f76, tbl0), (77, Try.f77, tbl77), (78, Try.f78, tbl0), (79, Try.f79, tbl79), (80, Try.f80, tbl0), (81, Try.f81, tbl81), (82, Try.f82, tbl0), (83, Try.f83, tbl83), (84, Try.f84, tbl84), (85, Try.f85, tbl0), (86, Try.f86, tbl86), (87, Try.f87, tbl87), (88, Try.f88, tbl88), (89, Try.f89, tbl0), (90, Try.f90, tbl90), (91, Try.f91, tbl91), (92, Try.f92, tbl0), (93, Try.f93, tbl93), (94, Try.f94, tbl94), (95, Try.f95, tbl0), (96, Try.f96, tbl0), (97, Try.f97, tbl97), (98, Try.f98, tbl0), (99, Try.f99, tbl99), (100, Try.f100, tbl0), (101, Try.f101, tbl0), (102, Try.f102, tbl0), (103, Try.f103, tbl103)]
noncomputable def fns : FuncId → Option (Func × (Nat → Option Plan)) := fun f => (tab.find? fun p => p.1 == f).map (·.2)
theorem tabFuncs : AreFuncs Try.prog tab := ⟨Try.func3, Try.func4, Try.func5, Try.func6, Try.func7, Try.func8, Try.func9, Try.func10, Try.func11, Try.func12, Try.func13, Try.func14, Try.func15, Try.func16, Try.func17, Try.func18, Try.func19, Try.func20, Try.func21, Try.func22, Try.func23, Try.func24, Try.func25, Try.func26, Try.func27, Try.func28, Try.func29, Try.func30, Try.func31, Try.func32, Try.func33, Try.func34, Try.func35, Try.func36, Try.func37, Try.func38, Try.func39, Try.func40, Try.func41, Try.func42, Try.func43, Try.func44, Try.func45, Try.func46, Try.func47, Try.func48, Try.func49, Try.func50, Try.func51, Try.func52, Try.func53, Try.func54, Try.func55, Try.func56, Try.func57, Try.func58, Try.func59, Try.func60, Try.func61, Try.func62, Try.func63, Try.func64, Try.func65, Try.func66, Try.func67, Try.func68, Try.func69, Try.func70, Try.func71, Try.func72, Try.func73, Try.func74, Try.func75, Try.func76, Try.func77, Try.func78, Try.func79, Try.func80, Try.func81, Try.func82, Try.func83, Try.func84, Try.func85, Try.func86, Try.func87, Try.func88, Try.func89, Try.func90, Try.func91, Try.func92, Try.func93, Try.func94, Try.func95, Try.func96, Try.func97, Try.func98, Try.func99, Try.func100, Try.func101, Try.func102, Try.func103, trivial⟩
theorem ok3 : fnOk T tbl0 Try.f3 = true := by kernel_rfl
theorem ok4 : fnOk T tbl4 Try.f4 = true := by kernel_rfl
theorem ok5 : fnOk T tbl5 Try.f5 = true := by kernel_rfl
theorem ok6 : fnOk T tbl0 Try.f6 = true := by kernel_rfl
theorem ok7 : fnOk T tbl0 Try.f7 = true := by kernel_rfl
theorem ok8 : fnOk T tbl8 Try.f8 = true := by kernel_rfl
theorem ok9 : fnOk T tbl9 Try.f9 = true := by kernel_rfl
theorem ok10 : fnOk T tbl10 Try.f10 = true := by kernel_rfl
theorem ok11 : fnOk T tbl0 Try.f11 = true := by kernel_rfl
theorem ok12 : fnOk T tbl12 Try.f12 = true := by kernel_rfl
theorem ok13 : fnOk T tbl13 Try.f13 = true := by kernel_rfl
theorem ok14 : fnOk T tbl14 Try.f14 = true := by kernel_rfl
theorem ok15 : fnOk T tbl0 Try.f15 = true := by kernel_rfl
theorem ok16 : fnOk T tbl0 Try.f16 = true := by kernel_rfl
theorem ok17 : fnOk T tbl0 Try.f17 = true := by kernel_rfl
theorem ok18 : fnOk T tbl0 Try.f18 = true := by kernel_rfl
theorem ok19 : fnOk T tbl19 Try.f19 = true := by kernel_rfl
theorem ok20 : fnOk T tbl20 Try.f20 = true := by kernel_rfl
theorem ok21 : fnOk T tbl0 Try.f21 = true := by kernel_rfl
theorem ok22 : fnOk T tbl0 Try.f22 = true := by kernel_rfl
theorem ok23 : fnOk T tbl0 Try.f23 = true := by kernel_rfl
theorem ok24 : fnOk T tbl0 Try.f24 = true := by kernel_rfl
theorem ok25 : fnOk T tbl25 Try.f25 = true := by kernel_rfl
theorem ok26 : fnOk T tbl26 Try.f26 = true := by kernel_rfl
theorem ok27 : fnOk T tbl0 Try.f27 = true := by kernel_rfl
theorem ok28 : fnOk T tbl0 Try.f28 = true := by kernel_rfl
theorem ok29 : fnOk T tbl0 Try.f29 = true := by kernel_rfl
theorem ok30 : fnOk T tbl0 Try.f30 = true := by kernel_rfl
theorem ok31 : fnOk T tbl31 Try.f31 = true := by kernel_rfl
theorem ok32 : fnOk T tbl0 Try.f32 = true := by kernel_rfl
theorem ok33 : fnOk T tbl0 Try.f33 = true := by kernel_rfl
theorem ok34 : fnOk T tbl34 Try.f34 = true := by kernel_rfl
theorem ok35 : fnOk T tbl0 Try.f35 = true := by kernel_rfl
theorem ok36 : fnOk T tbl36 Try.f36 = true := by kernel_rfl
theorem ok37 : fnOk T tbl37 Try.f37 = true := by kernel_rfl
theorem ok38 : fnOk T tbl0 Try.f38 = true := by kernel_rfl
theorem ok39 : fnOk T tbl0 Try.f39 = true := by kernel_rfl
theorem ok40 : fnOk T tbl40 Try.f40 = true := by kernel_rfl
theorem ok41 : fnOk T tbl0 Try.f41 = true := by kernel_rfl
theorem ok42 : fnOk T tbl0 Try.f42 = true := by kernel_rfl
theorem ok43 : fnOk T tbl43 Try.f43 = true := by kernel_rfl
theorem ok44 : fnOk T tbl44 Try.f44 = true := by kernel_rfl
theorem ok45 : fnOk T tbl0 Try.f45 = true := by kernel_rfl
theorem ok46 : fnOk T tbl0 Try.f46 = true := by kernel_rfl
theorem ok47 : fnOk T tbl47 Try.f47 = true := by kernel_rfl
theorem ok48 : fnOk T tbl0 Try.f48 = true := by kernel_rfl
theorem ok49 : fnOk T tbl0 Try.f49 = true := by kernel_rfl
theorem ok50 : fnOk T tbl0 Try.f50 = true := by kernel_rfl
theorem ok51 : fnOk T tbl0 Try.f51 = true := by kernel_rfl
theorem ok52 : fnOk T tbl52 Try.f52 = true := by kernel_rfl
theorem ok53 : fnOk T tbl0 Try.f53 = true := by kernel_rfl
theorem ok54 : fnOk T tbl0 Try.f54 = true := by kernel_rfl
theorem ok55 : fnOk T tbl0 Try.f55 = true := by kernel_rfl
theorem ok56 : fnOk T tbl0 Try.f56 = true := by kernel_rfl
theorem ok57 : fnOk T tbl0 Try.f57 = true := by kernel_rfl
theorem ok58 : fnOk T tbl0 Try.f58 = true := by kernel_rfl
theorem ok59 : fnOk T tbl0 Try.f59 = true := by kernel_rfl
theorem ok60 : fnOk T tbl0 Try.f60 = true := by kernel_rfl
theorem ok61 : fnOk T tbl0 Try.f61 = true := by kernel_rfl
theorem ok62 : fnOk T tbl0 Try.f62 = true := by kernel_rfl
theorem ok63 : fnOk T tbl63 Try.f63 = true := by kernel_rfl
theorem ok64 : fnOk T tbl64 Try.f64 = true := by kernel_rfl
theorem ok65 : fnOk T tbl0 Try.f65 = true := by kernel_rfl
theorem ok66 : fnOk T tbl0 Try.f66 = true := by kernel_rfl
theorem ok67 : fnOk T tbl0 Try.f67 = true := by kernel_rfl
theorem ok68 : fnOk T tbl68 Try.f68 = true := by kernel_rfl
theorem ok69 : fnOk T tbl69 Try.f69 = true := by kernel_rfl
theorem ok70 : fnOk T tbl0 Try.f70 = true := by kernel_rfl
theorem ok71 : fnOk T tbl0 Try.f71 = true := by kernel_rfl
theorem ok72 : fnOk T tbl0 Try.f72 = true := by kernel_rfl
theorem ok73 : fnOk T tbl0 Try.f73 = true := by kernel_rfl
theorem ok74 : fnOk T tbl0 Try.f74 = true := by kernel_rfl
theorem ok75 : fnOk T tbl0 Try.f75 = true := by kernel_rfl
theorem ok76 : fnOk T tbl0 Try.f76 = true := by kernel_rfl
theorem ok77 : fnOk T tbl77 Try.f77 = true := by kernel_rfl
theorem ok78 : fnOk T tbl0 Try.f78 = true := by kernel_rfl
theorem ok79 : fnOk T tbl79 Try.f79 = true := by kernel_rfl
theorem ok80 : fnOk T tbl0 Try.f80 = true := by kernel_rfl
theorem ok81 : fnOk T tbl81 Try.f81 = true := by kernel_rfl
theorem ok82 : fnOk T tbl0 Try.f82 = true := by kernel_rfl
theorem ok83 : fnOk T tbl83 Try.f83 = true := by kernel_rfl
theorem ok84 : fnOk T tbl84 Try.f84 = true := by kernel_rfl
theorem ok85 : fnOk T tbl0 Try.f85 = true := by kernel_rfl
theorem ok86 : fnOk T tbl86 Try.f86 = true := by kernel_rfl
theorem ok87 : fnOk T tbl87 Try.f87 = true := by kernel_rfl
theorem ok88 : fnOk T tbl88 Try.f88 = true := by kernel_rfl
theorem ok89 : fnOk T tbl0 Try.f89 = true := by kernel_rfl
theorem ok90 : fnOk T tbl90 Try.f90 = true := by kernel_rfl
theorem ok91 : fnOk T tbl91 Try.f91 = true := by kernel_rfl
theorem ok92 : fnOk T tbl0 Try.f92 = true := by kernel_rfl
theorem ok93 : fnOk T tbl93 Try.f93 = true := by kernel_rfl
theorem ok94 : fnOk T tbl94 Try.f94 = true := by kernel_rfl
theorem ok95 : fnOk T tbl0 Try.f95 = true := by kernel_rfl
theorem ok96 : fnOk T tbl0 Try.f96 = true := by kernel_rfl
theorem ok97 : fnOk T tbl97 Try.f97 = true := by kernel_rfl
theorem ok98 : fnOk T tbl0 Try.f98 = true := by kernel_rfl
theorem ok99 : fnOk T tbl99 Try.f99 = true := by kernel_rfl
theorem ok100 : fnOk T tbl0 Try.f100 = true := by kernel_rfl
theorem ok101 : fnOk T tbl0 Try.f101 = true := by kernel_rfl
theorem ok102 : fnOk T tbl0 Try.f102 = true := by kernel_rfl
theorem ok103 : fnOk T tbl103 Try.f103 = true := by kernel_rfl
theorem tabFits : FitAll T tab := ⟨ok3, ok4, ok5, ok6, ok7, ok8, ok9, ok10, ok11, ok12, ok13, ok14, ok15, ok16, ok17, ok18, ok19, ok20, ok21, ok22, ok23, ok24, ok25, ok26, ok27, ok28, ok29, ok30, ok31, ok32, ok33, ok34, ok35, ok36, ok37, ok38, ok39, ok40, ok41, ok42, ok43, ok44, ok45, ok46, ok47, ok48, ok49, ok50, ok51, ok52, ok53, ok54, ok55, ok56, ok57, ok58, ok59, ok60, ok61, ok62, ok63, ok64, ok65, ok66, ok67, ok68, ok69, ok70, ok71, ok72, ok73, ok74, ok75, ok76, ok77, ok78, ok79, ok80, ok81, ok82, ok83, ok84, ok85, ok86, ok87, ok88, ok89, ok90, ok91, ok92, ok93, ok94, ok95, ok96, ok97, ok98, ok99, ok100, ok101, ok102, ok103, trivial⟩
theorem tabOk : TabOk Try.prog T fns := tabOk_of (l := tab) tabFuncs tabFits
theorem runs (d : Nat) : Says Try.prog T G0 (rCall T G0 fns (fun _ _ _ => none) d) := rCall_says tabOk says_none d
end Go.Proofs.Ytgbdgobkgcfioaa
