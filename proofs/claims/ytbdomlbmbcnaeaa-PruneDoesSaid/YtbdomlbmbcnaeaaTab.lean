/- The functions of this seat and the plans of their drawn regions. Printed by tab.py. -/
import Derived.Test.YtbdomlbmbcnaeaaTy
import Derived.Test.YtbdomlbmbcnaeaaAbnB
namespace Go.Proofs.Ytbdomlbmbcnaeaa
open Go.Abs
def tbl3 : Nat → Option Plan := fun id => if id = 23 then some ([0, 1, 2, 3, 4, 5, 6, 7, 8, 9, 10, 11], [0, 1, 2, 3, 4, 5, 6, 7, 8, 9, 10, 11], [], (4095, 0), .done) else if id = 31 then some ([0, 1, 2, 3, 4, 5, 6, 7, 8, 9, 10, 11, 12, 13, 14, 15], [0, 1, 2, 3, 4, 5, 6, 7, 8, 9, 10, 11, 12, 13, 14, 15], [], (65535, 0), .done) else none
def tbl4 : Nat → Option Plan := fun id => if id = 22 then some ([0, 1, 2, 3, 4, 5, 6, 7, 8, 9, 10, 11, 12, 13], [0, 1, 2, 3, 4, 5, 6, 7, 8, 9, 10, 11, 12, 13], [], (16383, 0), (.alt 14 [] [] [] .done .nil)) else if id = 34 then some ([0, 1, 2, 3, 4, 5, 6, 7, 8, 9, 10, 11, 12, 13, 14, 15, 16], [0, 2, 3, 4, 5, 6, 7, 8, 9, 10, 11, 12, 13, 14, 16], [1, 15], (131071, 0), .done) else none
def tbl11 : Nat → Option Plan := fun id => if id = 4 then some ([0, 1, 2, 4, 5, 6], [0, 1, 2, 4, 5, 6], [], (631, 0), (.alt 3 [] [4, 5, 6] [] (.alt 7 [] [] [] (.alt 8 [9] [9] [] .done .nil) .nil) .nil)) else if id = 8 then some ([0, 1, 2, 3, 4, 5, 6, 7, 8, 9, 10, 11, 12, 13, 14], [0, 1, 2, 3, 4, 5, 6, 7, 8, 9, 10, 11, 12, 13, 14], [], (32767, 0), (.alt 15 [] [] [] .done .nil)) else if id = 9 then some ([0, 1, 2, 3, 4, 6, 7, 8, 9, 10], [0, 1, 2, 3, 4, 6, 7, 8, 9, 10], [], (14303, 0), (.alt 5 [] [6, 7, 8, 9, 10] [] (.alt 11 [12, 13] [12, 13] [] .done .nil) .nil)) else none
def tbl12 : Nat → Option Plan := fun id => if id = 11 then some ([0, 1, 2, 3, 4, 5, 6, 7], [0, 2, 3, 4, 5, 6, 7], [1], (1791, 0), (.alt 8 [9, 10] [0, 9, 10] [] (.alt 11 [] [] [] .done .nil) .nil)) else if id = 31 then some ([0, 1, 2, 3, 4, 5, 6, 7], [0, 2, 3, 4, 5, 6, 7], [1], (1791, 0), (.alt 8 [9, 10] [0, 9, 10] [] (.alt 11 [] [] [] .done .nil) .nil)) else none
def tbl14 : Nat → Option Plan := fun id => if id = 8 then some ([0, 1, 2, 3, 4, 5, 6, 7, 8], [0, 1, 2, 3, 4, 5, 6, 7, 8], [], (3583, 0), (.alt 9 [10, 11] [0, 10, 11] [] (.alt 12 [] [] [] .done .nil) .nil)) else none
def tbl15 : Nat → Option Plan := fun id => if id = 7 then some ([0, 1, 2, 3, 4, 5, 6, 7, 8], [0, 1, 2, 3, 4, 5, 6, 7, 8], [], (511, 0), .done) else none
def tbl17 : Nat → Option Plan := fun id => if id = 6 then some ([0, 1, 2, 3, 4, 5, 6, 7, 8], [0, 1, 2, 3, 4, 5, 6, 7, 8], [], (511, 0), .done) else none
def tbl19 : Nat → Option Plan := fun id => if id = 3 then some ([0, 1, 2, 3, 4, 5, 6, 7, 8, 9, 10, 11, 12, 13, 14, 15, 16, 17, 18, 19, 20, 21, 22, 23, 24, 25, 26, 27, 28, 29, 30, 31], [0, 1, 2, 3, 4, 5, 6, 7, 8, 9, 10, 11, 12, 13, 14, 15, 16, 17, 18, 19, 20, 21, 22, 23, 24, 25, 26, 27, 28, 29, 30, 31], [], (4294967295, 0), .done) else if id = 9 then some ([0, 1, 2, 3, 4, 5, 6, 7, 8, 9, 10, 11, 12, 13, 14, 15, 16, 17, 18], [0, 1, 2, 3, 4, 5, 6, 7, 8, 9, 10, 11, 12, 13, 14, 15, 16, 18], [17], (28835839, 0), (.alt 19 [20, 21] [0, 1, 2, 3, 4, 5, 6, 7, 8, 9, 10, 11, 12, 13, 14, 15, 16, 20] [21] (.alt 22 [23, 24] [0, 23, 24] [] (.alt 25 [] [] [] .done .nil) .nil) .nil)) else none
def tbl20 : Nat → Option Plan := fun id => if id = 7 then some ([0, 1, 2, 5, 6], [0, 1, 2, 5, 6], [], (103, 0), (.alt 3 [] [0, 5, 6] [] (.alt 4 [] [5, 6] [] (.alt 7 [] [] [] (.alt 8 [] [] [] (.alt 9 [] [] [] .done .nil) .nil) .nil) .nil) .nil)) else none
def tbl23 : Nat → Option Plan := fun id => if id = 27 then some ([0, 1, 2, 3, 4, 5, 6, 7, 8, 9, 10], [0, 1, 2, 3, 4, 5, 6, 7, 8, 9, 10], [], (6143, 0), (.alt 11 [12] [12] [] .done .nil)) else none
def tbl24 : Nat → Option Plan := fun id => if id = 6 then some ([0, 1, 2, 3, 4, 5, 6, 7, 8], [0, 1, 2, 3, 4, 5, 6, 7, 8], [], (511, 0), .done) else none
def tbl25 : Nat → Option Plan := fun id => if id = 1 then some ([0, 1, 2, 3, 4, 5, 6, 7, 8, 9, 10, 11, 12, 13, 14, 15, 16, 17, 18, 19, 20, 21, 22, 23, 24, 25, 26, 27, 28, 29, 30, 31, 32], [0, 1, 2, 3, 4, 5, 6, 7, 8, 9, 10, 11, 12, 13, 14, 15, 16, 17, 18, 19, 20, 21, 22, 23, 24, 25, 26, 27, 28, 29, 30, 31, 32], [], (60129542143, 0), (.alt 33 [34, 35] [34, 35] [] .done .nil)) else if id = 6 then some ([0, 1, 2, 3, 4, 5, 6, 7, 8], [0, 1, 2, 3, 4, 5, 6, 7, 8], [], (32255, 78149237124310777980059870029873665), (.alt 9 [10, 11, 12, 13, 14] [10, 11, 12, 13, 14] [] .done .nil)) else if id = 12 then some ([0, 1, 2, 3, 4, 5, 6, 7, 8, 9, 10, 11, 12], [0, 1, 2, 3, 4, 5, 6, 7, 8, 9, 10, 11, 12], [], (516095, 425201214061343713638919476061854883920413185), (.alt 13 [14, 15, 16, 17, 18] [14, 15, 16, 17, 18] [] .done .nil)) else none
def tbl27 : Nat → Option Plan := fun id => if id = 3 then some ([0, 1, 2, 3, 4, 5, 6], [0, 1, 2, 3, 4, 5], [6], (895, 0), (.alt 7 [8, 9] [0, 8, 9] [] (.alt 10 [] [] [] .done .nil) .nil)) else none
def tbl31 : Nat → Option Plan := fun id => if id = 2 then some ([0, 1, 2, 3, 4, 5, 6, 7, 8, 9, 10, 11, 12, 13], [0, 1, 2, 3, 4, 5, 6, 7, 8, 9, 10, 11, 12, 13], [], (16383, 0), .done) else if id = 4 then some ([0, 1, 2, 3, 4, 5, 6, 7, 8, 9, 10, 11, 12, 13], [0, 1, 2, 3, 4, 5, 6, 7, 8, 9, 10, 11, 12, 13], [], (16383, 0), .done) else if id = 6 then some ([0, 1, 2, 3, 5, 6, 8, 9, 10], [1, 2, 3, 5, 8, 9, 10], [0, 6], (5999, 0), (.alt 4 [] [5, 8, 9, 10] [6] (.alt 7 [] [8, 9, 10] [] (.alt 11 [12] [12] [] .done .nil) .nil) .nil)) else none
def tbl32 : Nat → Option Plan := fun id => if id = 6 then some ([0, 1, 2, 3, 4, 5, 6, 7, 8, 9], [0, 1, 2, 3, 4, 5, 6, 7, 8, 9], [], (1023, 0), .done) else if id = 11 then some ([0, 1, 2, 3, 4, 5, 6, 7, 8, 9], [0, 1, 2, 3, 4, 5, 6, 7, 8, 9], [], (1023, 0), .done) else none
def tbl33 : Nat → Option Plan := fun id => if id = 4 then some ([0, 1, 2, 3, 4, 5, 6, 7, 8, 9, 10, 11, 12, 13, 14, 15, 16, 17, 18, 19, 20, 21, 22, 23, 24, 25, 26, 27, 28, 29, 30, 31, 32], [0, 1, 2, 3, 4, 5, 6, 7, 8, 9, 10, 11, 12, 13, 14, 15, 16, 17, 18, 19, 20, 21, 22, 23, 24, 25, 26, 27, 28, 29, 30, 31, 32], [], (8589934591, 0), .done) else none
def tbl35 : Nat → Option Plan := fun id => if id = 2 then some ([0, 1, 2, 3, 4, 5, 6, 7, 8], [0, 1, 2, 3, 4, 5, 6, 7, 8], [], (511, 0), .done) else none
def tbl41 : Nat → Option Plan := fun id => if id = 5 then some ([0, 1, 2, 3, 4, 5, 6, 7, 8, 11, 12, 13, 14, 15, 16, 17, 18], [0, 1, 2, 3, 4, 5, 6, 7, 8, 11, 12, 13, 14, 15, 16, 17, 18], [], (1572351, 0), (.alt 9 [10] [0, 10, 11, 12, 13, 14, 15, 16, 17, 18] [] (.alt 19 [20] [0, 10, 20] [] (.alt 21 [] [] [] .done .nil) .nil) .nil)) else none
def tbl43 : Nat → Option Plan := fun id => if id = 13 then some ([0, 1, 2, 3, 4, 5, 6, 7, 8, 9, 10], [0, 1, 2, 3, 4, 5, 6, 7, 8, 9], [10], (2047, 0), (.alt 11 [] [] [] (.alt 12 [] [] [] .done .nil) .nil)) else none
def tbl44 : Nat → Option Plan := fun id => if id = 7 then some ([0, 1, 2, 3, 4, 5, 6, 7, 8, 9, 10, 11, 12], [0, 1, 2, 3, 4, 5, 6, 7, 8, 9, 10, 11, 12], [], (8191, 0), .done) else none
def tbl46 : Nat → Option Plan := fun id => if id = 17 then some ([0, 1, 2, 3, 4, 5, 6, 7, 8, 9, 10, 11, 12], [0, 1, 2, 3, 4, 5, 6, 7, 8, 9, 10, 11, 12], [], (122879, 0), (.alt 13 [14, 15, 16] [14, 15, 16] [] .done .nil)) else none
def tbl58 : Nat → Option Plan := fun id => if id = 4 then some ([0, 1, 2, 3, 4, 5, 6, 7, 8, 9, 10, 11, 12, 13], [0, 1, 2, 3, 4, 5, 6, 7, 8, 9, 10, 11, 12, 13], [], (114687, 0), (.alt 14 [15, 16] [15, 16] [] .done .nil)) else if id = 6 then some ([0, 1, 2, 3, 4, 5, 6, 7, 8, 9, 10, 11, 12, 13, 14], [0, 1, 2, 3, 4, 5, 6, 7, 8, 9, 10, 11, 12, 13, 14], [], (98303, 1573823289504749482177360425553442074657281), (.alt 15 [16] [2, 3, 4, 16] [] (.alt 17 [] [] [] .done .nil) .nil)) else none
def tbl59 : Nat → Option Plan := fun id => if id = 10 then some ([0, 1, 2, 3, 4, 5, 6, 7, 8, 9, 10, 11, 12, 13, 14, 15, 16], [0, 1, 2, 3, 4, 5, 6, 7, 8, 9, 10, 11, 12, 13, 14, 15, 16], [], (393215, 114604753586930741694501877671475435052899172865), (.alt 17 [18] [2, 3, 4, 5, 18] [] (.alt 19 [] [] [] .done .nil) .nil)) else none
def tbl60 : Nat → Option Plan := fun id => if id = 10 then some ([0, 1, 2, 3, 4, 5, 6, 7, 8, 9, 10, 11, 12, 13, 14, 15, 16], [0, 1, 2, 3, 4, 5, 6, 7, 8, 9, 10, 11, 12, 13, 14, 15, 16], [], (393215, 114604753586930741694501877671475435052899172865), (.alt 17 [18] [2, 3, 4, 5, 18] [] (.alt 19 [] [] [] .done .nil) .nil)) else none
def tbl62 : Nat → Option Plan := fun id => if id = 3 then some ([0, 1, 2, 3, 4, 5, 6, 7, 8, 9, 10, 11, 12], [0, 1, 2, 3, 4, 5, 6, 7, 8, 9, 10, 11, 12], [], (24575, 21345776648967476196924482478649704961), (.alt 13 [14] [2, 3, 14] [] (.alt 15 [] [] [] .done .nil) .nil)) else none
def tbl63 : Nat → Option Plan := fun id => if id = 5 then some ([0, 1, 2, 3, 4, 5, 6, 7, 8, 9, 10, 11, 12, 13], [0, 1, 2, 3, 4, 5, 6, 7, 8, 9, 10, 11, 12, 13], [], (245759, 0), (.alt 14 [15, 16, 17] [15, 16, 17] [] .done .nil)) else if id = 11 then some ([0, 1, 2, 3, 4, 5, 6, 7, 8, 9, 10, 11, 12, 13, 14], [0, 1, 2, 3, 4, 5, 6, 7, 8, 9, 10, 11, 12, 13, 14], [], (98303, 1573823289504749482177360425553442074657281), (.alt 15 [16] [2, 3, 4, 16] [] (.alt 17 [] [] [] .done .nil) .nil)) else if id = 16 then some ([0, 1, 2, 3, 4, 5, 6, 7, 8, 9], [0, 1, 2, 3, 4, 5, 6, 7, 8, 9], [], (7167, 0), (.alt 10 [11, 12] [11, 12] [] .done .nil)) else if id = 17 then some ([0, 1, 2, 3, 4, 5, 6, 7, 8, 9, 10, 11, 12, 13, 14], [0, 1, 2, 3, 4, 5, 6, 7, 8, 9, 10, 11, 12, 13, 14], [], (98303, 1573823289504749482177360425553442074657281), (.alt 15 [16] [2, 3, 4, 16] [] (.alt 17 [] [] [] .done .nil) .nil)) else if id = 22 then some ([0, 1, 2, 3, 4, 5, 6, 7, 8, 9], [0, 1, 2, 3, 4, 5, 6, 7, 8, 9], [], (7167, 0), (.alt 10 [11, 12] [11, 12] [] .done .nil)) else if id = 23 then some ([0, 1, 2, 3, 4, 5, 6, 7, 8, 9, 10, 11, 12, 13, 14], [0, 1, 2, 3, 4, 5, 6, 7, 8, 9, 10, 11, 12, 13, 14], [], (98303, 1573823289504749482177360425553442074657281), (.alt 15 [16] [2, 3, 4, 16] [] (.alt 17 [] [] [] .done .nil) .nil)) else none
def tbl64 : Nat → Option Plan := fun id => if id = 1 then some ([0, 1, 2, 3, 4, 5, 6, 7, 8, 9, 10, 11, 12], [0, 1, 2, 3, 4, 5, 6, 7, 8, 9, 10, 11, 12], [], (24575, 21345776648967476196924482478649704961), (.alt 13 [14] [2, 3, 14] [] (.alt 15 [] [] [] .done .nil) .nil)) else if id = 3 then some ([0, 1, 2, 3, 4, 5, 6, 7, 8, 9, 10, 11, 12], [0, 1, 2, 3, 4, 5, 6, 7, 8, 9, 10, 11, 12], [], (122879, 0), (.alt 13 [14, 15, 16] [14, 15, 16] [] .done .nil)) else if id = 5 then some ([0, 1, 2, 3, 4, 5, 6, 7, 8, 9, 10, 11, 12], [0, 1, 2, 3, 4, 5, 6, 7, 8, 9, 10, 11, 12], [], (57343, 0), (.alt 13 [14, 15] [14, 15] [] .done .nil)) else if id = 8 then some ([0, 1, 2, 3, 4, 5, 6, 7, 8, 9, 10, 11, 12], [0, 1, 2, 3, 4, 5, 6, 7, 8, 9, 10, 11, 12], [], (24575, 21345776648967476196924482478649704961), (.alt 13 [14] [2, 3, 14] [] (.alt 15 [] [] [] .done .nil) .nil)) else none
def tbl65 : Nat → Option Plan := fun id => if id = 1 then some ([0, 1, 2, 3, 4, 5, 6, 7, 8, 9, 10, 11, 12], [0, 1, 2, 3, 4, 5, 6, 7, 8, 9, 10, 11, 12], [], (24575, 21345776648967476196924482478649704961), (.alt 13 [14] [2, 3, 14] [] (.alt 15 [] [] [] .done .nil) .nil)) else if id = 3 then some ([0, 1, 2, 3, 4, 5, 6, 7, 8, 9, 10, 11, 12], [0, 1, 2, 3, 4, 5, 6, 7, 8, 9, 10, 11, 12], [], (57343, 0), (.alt 13 [14, 15] [14, 15] [] .done .nil)) else if id = 5 then some ([0, 1, 2, 3, 4, 5, 6, 7, 8, 9, 10, 11, 12], [0, 1, 2, 3, 4, 5, 6, 7, 8, 9, 10, 11, 12], [], (122879, 0), (.alt 13 [14, 15, 16] [14, 15, 16] [] .done .nil)) else if id = 8 then some ([0, 1, 2, 3, 4, 5, 6, 7, 8, 9, 10, 11, 12], [0, 1, 2, 3, 4, 5, 6, 7, 8, 9, 10, 11, 12], [], (24575, 21345776648967476196924482478649704961), (.alt 13 [14] [2, 3, 14] [] (.alt 15 [] [] [] .done .nil) .nil)) else if id = 10 then some ([0, 1, 2, 3, 4, 5, 6, 7, 8, 9, 10, 11, 12], [0, 1, 2, 3, 4, 5, 6, 7, 8, 9, 10, 11, 12], [], (24575, 21345776648967476196924482478649704961), (.alt 13 [14] [2, 3, 14] [] (.alt 15 [] [] [] .done .nil) .nil)) else if id = 13 then some ([0, 1, 2, 3, 4, 5, 6, 7, 8, 9, 10, 11, 12], [0, 1, 2, 3, 4, 5, 6, 7, 8, 9, 10, 11, 12], [], (57343, 0), (.alt 13 [14, 15] [14, 15] [] .done .nil)) else if id = 15 then some ([0, 1, 2, 3, 4, 5, 6, 7, 8, 9, 10, 11, 12], [0, 1, 2, 3, 4, 5, 6, 7, 8, 9, 10, 11, 12], [], (122879, 0), (.alt 13 [14, 15, 16] [14, 15, 16] [] .done .nil)) else if id = 18 then some ([0, 1, 2, 3, 4, 5, 6, 7, 8, 9, 10, 11, 12], [0, 1, 2, 3, 4, 5, 6, 7, 8, 9, 10, 11, 12], [], (24575, 21345776648967476196924482478649704961), (.alt 13 [14] [2, 3, 14] [] (.alt 15 [] [] [] .done .nil) .nil)) else if id = 21 then some ([0, 1, 2, 3, 4, 5, 6, 7, 8, 9, 10, 11, 12], [0, 1, 2, 3, 4, 5, 6, 7, 8, 9, 10, 11, 12], [], (24575, 21345776648967476196924482478649704961), (.alt 13 [14] [2, 3, 14] [] (.alt 15 [] [] [] .done .nil) .nil)) else none
def tbl71 : Nat → Option Plan := fun id => if id = 3 then some ([0, 1, 3, 4, 5, 6, 7, 8], [0, 1, 3, 4, 5, 6, 8], [7], (2043, 0), (.alt 2 [9, 10] [3, 4, 5, 6, 8, 9, 10] [7] .done .nil)) else none
def tbl73 : Nat → Option Plan := fun id => if id = 3 then some ([0, 1, 2, 3, 4, 5, 6, 7, 8, 9, 10, 11, 12, 13, 14, 15, 16, 17, 18], [0, 1, 2, 3, 4, 5, 6, 7, 8, 9, 10, 11, 12, 13, 14, 15, 16, 17, 18], [], (3670015, 0), (.alt 19 [20, 21] [20, 21] [] .done .nil)) else if id = 5 then some ([0, 1, 2, 3, 4, 5, 6, 7, 8, 9, 10, 11, 12], [0, 1, 2, 3, 4, 5, 6, 7, 8, 9, 10, 11, 12], [], (57343, 0), (.alt 13 [14, 15] [14, 15] [] .done .nil)) else if id = 6 then some ([0, 1, 2, 3, 4, 5, 6, 7, 8, 9, 10, 11, 12, 13, 14, 15, 16, 17, 18, 19, 20], [0, 1, 2, 3, 4, 5, 6, 7, 8, 9, 10, 11, 12, 13, 14, 15, 16, 17, 18, 19, 20], [], (6291455, 590688009569248279792333335424601768058508693969079304705), (.alt 21 [22] [4, 5, 6, 7, 22] [] (.alt 23 [] [] [] .done .nil) .nil)) else none
def tbl75 : Nat → Option Plan := fun id => if id = 1 then some ([0, 1, 2, 3, 4, 5, 6, 7, 8], [0, 1, 2, 3, 4, 5, 6, 7, 8], [], (511, 0), (.alt 9 [] [] [] .done .nil)) else if id = 2 then some ([0, 1, 2, 3, 4, 5, 6, 7, 8], [0, 1, 2, 3, 4, 5, 6, 7, 8], [], (511, 0), (.alt 9 [] [] [] .done .nil)) else if id = 3 then some ([0, 1, 2, 3, 4, 5, 6, 7, 8], [0, 1, 2, 3, 4, 5, 6, 7, 8], [], (511, 0), (.alt 9 [] [] [] .done .nil)) else none
def tbl78 : Nat → Option Plan := fun id => if id = 1 then some ([0, 1, 2, 3, 4, 5, 6, 7, 8], [0, 1, 2, 3, 4, 5, 6, 7, 8], [], (1535, 0), (.alt 9 [10] [10] [] .done .nil)) else none
def tbl0 : Nat → Option Plan := fun _ => none
def G0 : Nat → Option (List AV) := fun _ => none
noncomputable def tab : List (Nat × Func × (Nat → Option Plan)) := [(3, Try.f3, tbl3), (4, Try.f4, tbl4), (5, Try.f5, tbl0), (6, Try.f6, tbl0), (7, Try.f7, tbl0), (8, Try.f8, tbl0), (9, Try.f9, tbl0), (10, Try.f10, tbl0), (11, Try.f11, tbl11), (12, Try.f12, tbl12), (13, Try.f13, tbl0), (14, Try.f14, tbl14), (15, Try.f15, tbl15), (16, Try.f16, tbl0), (17, Try.f17, tbl17), (18, Try.f18, tbl0), (19, Try.f19, tbl19), (20, Try.f20, tbl20), (21, Try.f21, tbl0), (22, Try.f22, tbl0), (23, Try.f23, tbl23), (24, Try.f24, tbl24), (25, Try.f25, tbl25), (26, Try.f26, tbl0), (27, Try.f27, tbl27), (28, Try.f28, tbl0), (29, Try.f29, tbl0), (30, Try.f30, tbl0), (31, Try.f31, tbl31), (32, Try.f32, tbl32), (33, Try.f33, tbl33), (34, Try.f34, tbl0), (35, Try.f35, tbl35), (36, Try.f36, tbl0), (37, Try.f37, tbl0), (38, Try.f38, tbl0), (39, Try.f39, tbl0), (40, Try.f40, tbl0), (41, Try.f41, tbl41), (42, Try.f42, tbl0), (43, Try.f43, tbl43), (44, Try.f44, tbl44), (45, Try.f45, tbl0), (46, Try.f46, tbl46), (47, Try.f47, tbl0), (48, Try.f48, tbl0), (49, Try.f49, tbl0), (50, Try.f50, tbl0), (51, Try.f51, tbl0), (52, Try.f52, tbl0), (53, Try.f53, tbl0), (54, Try.f54, tbl0), (55, Try.f55, tbl0), (56, Try.f56, tbl0), (57, Try.f57, tbl0), (58, Try.f58, tbl58), (59, Try.f59, tbl59), (60, Try.f60, tbl60), (61, Try.f61, tbl0), (62, Try.f62, tbl62), (63, Try.f63, tbl63), (64, Try.f64, tbl64), (65, Try.f65, tbl65), (66, Try.f66, tbl0), (67, Try.f67, tbl0), (68, Try.f68, tbl0), (69, Try.f69, tbl0), (70, Try.f70, tbl0), (71, Try.f71, tbl71), (72, Try.f72, tbl0), (73, Try.f73, tbl73), (74, Try.f74, tbl0), (75, Try.f75, tbl75), (76, Try.f76, tbl0), (77, Try.f77, tbl0), (78, Try.f78, tbl78)]
noncomputable def fns : FuncId → Option (Func × (Nat → Option Plan)) := fun f => (tab.find? fun p => p.1 == f).map (·.2)
theorem tabFuncs : AreFuncs Try.prog tab := ⟨Try.func3, Try.func4, Try.func5, Try.func6, Try.func7, Try.func8, Try.func9, Try.func10, Try.func11, Try.func12, Try.func13, Try.func14, Try.func15, Try.func16, Try.func17, Try.func18, Try.func19, Try.func20, Try.func21, Try.func22, Try.func23, Try.func24, Try.func25, Try.func26, Try.func27, Try.func28, Try.func29, Try.func30, Try.func31, Try.func32, Try.func33, Try.func34, Try.func35, Try.func36, Try.func37, Try.func38, Try.func39, Try.func40, Try.func41, Try.func42, Try.func43, Try.func44, Try.func45, Try.func46, Try.func47, Try.func48, Try.func49, Try.func50, Try.func51, Try.func52, Try.func53, Try.func54, Try.func55, Try.func56, Try.func57, Try.func58, Try.func59, Try.func60, Try.func61, Try.func62, Try.func63, Try.func64, Try.func65, Try.func66, Try.func67, Try.func68, Try.func69, Try.func70, Try.func71, Try.func72, Try.func73, Try.func74, Try.func75, Try.func76, Try.func77, Try.func78, trivial⟩
theorem ok3 : fnOk T tbl3 Try.f3 = true := by kernel_rfl
theorem ok4 : fnOk T tbl4 Try.f4 = true := by kernel_rfl
theorem ok5 : fnOk T tbl0 Try.f5 = true := by kernel_rfl
theorem ok6 : fnOk T tbl0 Try.f6 = true := by kernel_rfl
theorem ok7 : fnOk T tbl0 Try.f7 = true := by kernel_rfl
theorem ok8 : fnOk T tbl0 Try.f8 = true := by kernel_rfl
theorem ok9 : fnOk T tbl0 Try.f9 = true := by kernel_rfl
theorem ok10 : fnOk T tbl0 Try.f10 = true := by kernel_rfl
theorem ok11 : fnOk T tbl11 Try.f11 = true := by kernel_rfl
theorem ok12 : fnOk T tbl12 Try.f12 = true := by kernel_rfl
theorem ok13 : fnOk T tbl0 Try.f13 = true := by kernel_rfl
theorem ok14 : fnOk T tbl14 Try.f14 = true := by kernel_rfl
theorem ok15 : fnOk T tbl15 Try.f15 = true := by kernel_rfl
theorem ok16 : fnOk T tbl0 Try.f16 = true := by kernel_rfl
theorem ok17 : fnOk T tbl17 Try.f17 = true := by kernel_rfl
theorem ok18 : fnOk T tbl0 Try.f18 = true := by kernel_rfl
theorem ok19 : fnOk T tbl19 Try.f19 = true := by kernel_rfl
theorem ok20 : fnOk T tbl20 Try.f20 = true := by kernel_rfl
theorem ok21 : fnOk T tbl0 Try.f21 = true := by kernel_rfl
theorem ok22 : fnOk T tbl0 Try.f22 = true := by kernel_rfl
theorem ok23 : fnOk T tbl23 Try.f23 = true := by kernel_rfl
theorem ok24 : fnOk T tbl24 Try.f24 = true := by kernel_rfl
theorem ok25 : fnOk T tbl25 Try.f25 = true := by kernel_rfl
theorem ok26 : fnOk T tbl0 Try.f26 = true := by kernel_rfl
theorem ok27 : fnOk T tbl27 Try.f27 = true := by kernel_rfl
theorem ok28 : fnOk T tbl0 Try.f28 = true := by kernel_rfl
theorem ok29 : fnOk T tbl0 Try.f29 = true := by kernel_rfl
theorem ok30 : fnOk T tbl0 Try.f30 = true := by kernel_rfl
theorem ok31 : fnOk T tbl31 Try.f31 = true := by kernel_rfl
theorem ok32 : fnOk T tbl32 Try.f32 = true := by kernel_rfl
theorem ok33 : fnOk T tbl33 Try.f33 = true := by kernel_rfl
theorem ok34 : fnOk T tbl0 Try.f34 = true := by kernel_rfl
theorem ok35 : fnOk T tbl35 Try.f35 = true := by kernel_rfl
theorem ok36 : fnOk T tbl0 Try.f36 = true := by kernel_rfl
theorem ok37 : fnOk T tbl0 Try.f37 = true := by kernel_rfl
theorem ok38 : fnOk T tbl0 Try.f38 = true := by kernel_rfl
theorem ok39 : fnOk T tbl0 Try.f39 = true := by kernel_rfl
theorem ok40 : fnOk T tbl0 Try.f40 = true := by kernel_rfl
theorem ok41 : fnOk T tbl41 Try.f41 = true := by kernel_rfl
theorem ok42 : fnOk T tbl0 Try.f42 = true := by kernel_rfl
theorem ok43 : fnOk T tbl43 Try.f43 = true := by kernel_rfl
theorem ok44 : fnOk T tbl44 Try.f44 = true := by kernel_rfl
theorem ok45 : fnOk T tbl0 Try.f45 = true := by kernel_rfl
theorem ok46 : fnOk T tbl46 Try.f46 = true := by kernel_rfl
theorem ok47 : fnOk T tbl0 Try.f47 = true := by kernel_rfl
theorem ok48 : fnOk T tbl0 Try.f48 = true := by kernel_rfl
theorem ok49 : fnOk T tbl0 Try.f49 = true := by kernel_rfl
theorem ok50 : fnOk T tbl0 Try.f50 = true := by kernel_rfl
theorem ok51 : fnOk T tbl0 Try.f51 = true := by kernel_rfl
theorem ok52 : fnOk T tbl0 Try.f52 = true := by kernel_rfl
theorem ok53 : fnOk T tbl0 Try.f53 = true := by kernel_rfl
theorem ok54 : fnOk T tbl0 Try.f54 = true := by kernel_rfl
theorem ok55 : fnOk T tbl0 Try.f55 = true := by kernel_rfl
theorem ok56 : fnOk T tbl0 Try.f56 = true := by kernel_rfl
theorem ok57 : fnOk T tbl0 Try.f57 = true := by kernel_rfl
theorem ok58 : fnOk T tbl58 Try.f58 = true := by kernel_rfl
theorem ok59 : fnOk T tbl59 Try.f59 = true := by kernel_rfl
theorem ok60 : fnOk T tbl60 Try.f60 = true := by kernel_rfl
theorem ok61 : fnOk T tbl0 Try.f61 = true := by kernel_rfl
theorem ok62 : fnOk T tbl62 Try.f62 = true := by kernel_rfl
theorem ok63 : fnOk T tbl63 Try.f63 = true := by kernel_rfl
theorem ok64 : fnOk T tbl64 Try.f64 = true := by kernel_rfl
theorem ok65 : fnOk T tbl65 Try.f65 = true := by kernel_rfl
theorem ok66 : fnOk T tbl0 Try.f66 = true := by kernel_rfl
theorem ok67 : fnOk T tbl0 Try.f67 = true := by kernel_rfl
theorem ok68 : fnOk T tbl0 Try.f68 = true := by kernel_rfl
theorem ok69 : fnOk T tbl0 Try.f69 = true := by kernel_rfl
theorem ok70 : fnOk T tbl0 Try.f70 = true := by kernel_rfl
theorem ok71 : fnOk T tbl71 Try.f71 = true := by kernel_rfl
theorem ok72 : fnOk T tbl0 Try.f72 = true := by kernel_rfl
theorem ok73 : fnOk T tbl73 Try.f73 = true := by kernel_rfl
theorem ok74 : fnOk T tbl0 Try.f74 = true := by kernel_rfl
theorem ok75 : fnOk T tbl75 Try.f75 = true := by kernel_rfl
theorem ok76 : fnOk T tbl0 Try.f76 = true := by kernel_rfl
theorem ok77 : fnOk T tbl0 Try.f77 = true := by kernel_rfl
theorem ok78 : fnOk T tbl78 Try.f78 = true := by kernel_rfl
theorem tabFits : FitAll T tab := ⟨ok3, ok4, ok5, ok6, ok7, ok8, ok9, ok10, ok11, ok12, ok13, ok14, ok15, ok16, ok17, ok18, ok19, ok20, ok21, ok22, ok23, ok24, ok25, ok26, ok27, ok28, ok29, ok30, ok31, ok32, ok33, ok34, ok35, ok36, ok37, ok38, ok39, ok40, ok41, ok42, ok43, ok44, ok45, ok46, ok47, ok48, ok49, ok50, ok51, ok52, ok53, ok54, ok55, ok56, ok57, ok58, ok59, ok60, ok61, ok62, ok63, ok64, ok65, ok66, ok67, ok68, ok69, ok70, ok71, ok72, ok73, ok74, ok75, ok76, ok77, ok78, trivial⟩
theorem tabOk : TabOk Try.prog T fns := tabOk_of (l := tab) tabFuncs tabFits
theorem runs (d : Nat) : Says Try.prog T G0 (rCall T G0 fns (fun _ _ _ => none) d) := rCall_says tabOk says_none d
end Go.Proofs.Ytbdomlbmbcnaeaa
