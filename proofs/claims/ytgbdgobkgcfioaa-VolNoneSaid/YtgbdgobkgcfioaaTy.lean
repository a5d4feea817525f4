/- The small table of types of this seat, and that it is the program's. Printed by types.py. -/
import Derived.Test.YtgbdgobkgcfioaaProg
import Derived.Test.YtgbdgobkgcfioaaAbnTyB
import Derived.KernelRfl
namespace Go.Proofs.Ytgbdgobkgcfioaa
open Go.Abs
def ty1 : AT := { d := .func, size := 1, bytes := 8, zero := [.nilfn], eqOk := true }
def ty2 : AT := { d := .int .i64, size := 1, bytes := 8, zero := [.int .i64 0], eqOk := true }
def ty3 : AT := { d := .int .i64, size := 1, bytes := 8, zero := [.int .i64 0], eqOk := true }
def ty4 : AT := { d := .bool, size := 1, bytes := 1, zero := [.bool false], eqOk := true }
def ty5 : AT := { d := .int .u8, size := 1, bytes := 1, zero := [.int .u8 0], eqOk := true }
def ty9 : AT := { d := .str, size := 1, bytes := 16, zero := [.str []], eqOk := true }
def ty12 : AT := { d := .int .u64, size := 1, bytes := 8, zero := [.int .u64 0], eqOk := true }
def ty15 : AT := { d := .ptr 146, size := 1, bytes := 8, zero := [.nilptr], eqOk := true }
def ty16 : AT := { d := .ptr 149, size := 1, bytes := 8, zero := [.nilptr], eqOk := true }
def ty20 : AT := { d := .iface, size := 1, bytes := 16, zero := [.nilif], eqOk := false }
def ty21 : AT := { d := .int .i32, size := 1, bytes := 4, zero := [.int .i32 0], eqOk := true }
def ty22 : AT := { d := .slice 42, size := 1, bytes := 24, zero := [.lit true true [] 0], eqOk := true }
def ty23 : AT := { d := .ptr 67, size := 1, bytes := 8, zero := [.nilptr], eqOk := true }
def ty24 : AT := { d := .ptr 47, size := 1, bytes := 8, zero := [.nilptr], eqOk := true }
def ty26 : AT := { d := .func, size := 1, bytes := 8, zero := [.nilfn], eqOk := true }
def ty27 : AT := { d := .func, size := 1, bytes := 8, zero := [.nilfn], eqOk := true }
def ty28 : AT := { d := .func, size := 1, bytes := 8, zero := [.nilfn], eqOk := true }
def ty29 : AT := { d := .slice 54, size := 1, bytes := 24, zero := [.lit true true [] 0], eqOk := true }
def ty30 : AT := { d := .func, size := 1, bytes := 8, zero := [.nilfn], eqOk := true }
def ty31 : AT := { d := .func, size := 1, bytes := 8, zero := [.nilfn], eqOk := true }
def ty32 : AT := { d := .struct [(false, 0, 22), (false, 1, 9), (false, 2, 3), (false, 3, 9)], size := 4, bytes := 64, zero := [.lit true true [] 0, .str [], .int .i64 0, .str []], eqOk := true }
def ty33 : AT := { d := .struct [(false, 0, 22), (false, 1, 9), (false, 2, 3), (false, 3, 9)], size := 4, bytes := 64, zero := [.lit true true [] 0, .str [], .int .i64 0, .str []], eqOk := true }
def ty34 : AT := { d := .int .i64, size := 1, bytes := 8, zero := [.int .i64 0], eqOk := true }
def ty35 : AT := { d := .slice 9, size := 1, bytes := 24, zero := [.lit true true [] 0], eqOk := true }
def ty36 : AT := { d := .struct [(false, 0, 3), (false, 1, 3), (false, 2, 3), (false, 3, 3)], size := 4, bytes := 32, zero := [.int .i64 0, .int .i64 0, .int .i64 0, .int .i64 0], eqOk := true }
def ty37 : AT := { d := .struct [(false, 0, 3), (false, 1, 3), (false, 2, 3), (false, 3, 3)], size := 4, bytes := 32, zero := [.int .i64 0, .int .i64 0, .int .i64 0, .int .i64 0], eqOk := true }
def ty38 : AT := { d := .struct [(false, 0, 34), (false, 1, 9), (false, 2, 35), (false, 3, 37)], size := 7, bytes := 80, zero := [.int .i64 0, .str [], .lit true true [] 0, .int .i64 0, .int .i64 0, .int .i64 0, .int .i64 0], eqOk := true }
def ty39 : AT := { d := .struct [(false, 0, 34), (false, 1, 9), (false, 2, 35), (false, 3, 37)], size := 7, bytes := 80, zero := [.int .i64 0, .str [], .lit true true [] 0, .int .i64 0, .int .i64 0, .int .i64 0, .int .i64 0], eqOk := true }
def ty40 : AT := { d := .func, size := 1, bytes := 8, zero := [.nilfn], eqOk := true }
def ty41 : AT := { d := .struct [(false, 0, 3), (false, 1, 3), (false, 2, 9), (false, 3, 9), (false, 4, 3), (false, 5, 3), (false, 6, 9)], size := 7, bytes := 80, zero := [.int .i64 0, .int .i64 0, .str [], .str [], .int .i64 0, .int .i64 0, .str []], eqOk := true }
def ty42 : AT := { d := .struct [(false, 0, 3), (false, 1, 3), (false, 2, 9), (false, 3, 9), (false, 4, 3), (false, 5, 3), (false, 6, 9)], size := 7, bytes := 80, zero := [.int .i64 0, .int .i64 0, .str [], .str [], .int .i64 0, .int .i64 0, .str []], eqOk := true }
def ty43 : AT := { d := .func, size := 1, bytes := 8, zero := [.nilfn], eqOk := true }
def ty44 : AT := { d := .slice 80, size := 1, bytes := 24, zero := [.lit true true [] 0], eqOk := true }
def ty45 : AT := { d := .slice 73, size := 1, bytes := 24, zero := [.lit true true [] 0], eqOk := true }
def ty46 : AT := { d := .struct [(false, 0, 44), (false, 1, 45)], size := 2, bytes := 48, zero := [.lit true true [] 0, .lit true true [] 0], eqOk := true }
def ty47 : AT := { d := .struct [(false, 0, 44), (false, 1, 45)], size := 2, bytes := 48, zero := [.lit true true [] 0, .lit true true [] 0], eqOk := true }
def ty48 : AT := { d := .func, size := 1, bytes := 8, zero := [.nilfn], eqOk := true }
def ty49 : AT := { d := .func, size := 1, bytes := 8, zero := [.nilfn], eqOk := true }
def ty50 : AT := { d := .func, size := 1, bytes := 8, zero := [.nilfn], eqOk := true }
def ty51 : AT := { d := .func, size := 1, bytes := 8, zero := [.nilfn], eqOk := true }
def ty52 : AT := { d := .slice 3, size := 1, bytes := 24, zero := [.lit true true [] 0], eqOk := true }
def ty53 : AT := { d := .struct [(false, 0, 3), (false, 1, 3), (false, 2, 9), (false, 3, 35), (false, 4, 52)], size := 5, bytes := 80, zero := [.int .i64 0, .int .i64 0, .str [], .lit true true [] 0, .lit true true [] 0], eqOk := true }
def ty54 : AT := { d := .struct [(false, 0, 3), (false, 1, 3), (false, 2, 9), (false, 3, 35), (false, 4, 52)], size := 5, bytes := 80, zero := [.int .i64 0, .int .i64 0, .str [], .lit true true [] 0, .lit true true [] 0], eqOk := true }
def ty56 : AT := { d := .func, size := 1, bytes := 8, zero := [.nilfn], eqOk := true }
def ty57 : AT := { d := .func, size := 1, bytes := 8, zero := [.nilfn], eqOk := true }
def ty58 : AT := { d := .func, size := 1, bytes := 8, zero := [.nilfn], eqOk := true }
def ty59 : AT := { d := .func, size := 1, bytes := 8, zero := [.nilfn], eqOk := true }
def ty60 : AT := { d := .func, size := 1, bytes := 8, zero := [.nilfn], eqOk := true }
def ty61 : AT := { d := .func, size := 1, bytes := 8, zero := [.nilfn], eqOk := true }
def ty62 : AT := { d := .func, size := 1, bytes := 8, zero := [.nilfn], eqOk := true }
def ty63 : AT := { d := .func, size := 1, bytes := 8, zero := [.nilfn], eqOk := true }
def ty64 : AT := { d := .ptr 70, size := 1, bytes := 8, zero := [.nilptr], eqOk := true }
def ty65 : AT := { d := .map 3 64, size := 1, bytes := 8, zero := [.nilmap], eqOk := true }
def ty66 : AT := { d := .struct [(false, 0, 65)], size := 1, bytes := 8, zero := [.nilmap], eqOk := true }
def ty67 : AT := { d := .struct [(false, 0, 65)], size := 1, bytes := 8, zero := [.nilmap], eqOk := true }
def ty68 : AT := { d := .map 9 3, size := 1, bytes := 8, zero := [.nilmap], eqOk := true }
def ty69 : AT := { d := .struct [(false, 0, 3), (false, 1, 3), (false, 2, 9), (false, 3, 68)], size := 4, bytes := 40, zero := [.int .i64 0, .int .i64 0, .str [], .nilmap], eqOk := true }
def ty70 : AT := { d := .struct [(false, 0, 3), (false, 1, 3), (false, 2, 9), (false, 3, 68)], size := 4, bytes := 40, zero := [.int .i64 0, .int .i64 0, .str [], .nilmap], eqOk := true }
def ty71 : AT := { d := .func, size := 1, bytes := 8, zero := [.nilfn], eqOk := true }
def ty72 : AT := { d := .struct [(false, 0, 3), (false, 1, 3), (false, 2, 9)], size := 3, bytes := 32, zero := [.int .i64 0, .int .i64 0, .str []], eqOk := true }
def ty73 : AT := { d := .struct [(false, 0, 3), (false, 1, 3), (false, 2, 9)], size := 3, bytes := 32, zero := [.int .i64 0, .int .i64 0, .str []], eqOk := true }
def ty74 : AT := { d := .func, size := 1, bytes := 8, zero := [.nilfn], eqOk := true }
def ty75 : AT := { d := .func, size := 1, bytes := 8, zero := [.nilfn], eqOk := true }
def ty76 : AT := { d := .func, size := 1, bytes := 8, zero := [.nilfn], eqOk := true }
def ty77 : AT := { d := .func, size := 1, bytes := 8, zero := [.nilfn], eqOk := true }
def ty78 : AT := { d := .func, size := 1, bytes := 8, zero := [.nilfn], eqOk := true }
def ty79 : AT := { d := .struct [(false, 0, 35), (false, 1, 3)], size := 2, bytes := 32, zero := [.lit true true [] 0, .int .i64 0], eqOk := true }
def ty80 : AT := { d := .struct [(false, 0, 35), (false, 1, 3)], size := 2, bytes := 32, zero := [.lit true true [] 0, .int .i64 0], eqOk := true }
def ty82 : AT := { d := .func, size := 1, bytes := 8, zero := [.nilfn], eqOk := true }
def ty83 : AT := { d := .func, size := 1, bytes := 8, zero := [.nilfn], eqOk := true }
def ty84 : AT := { d := .func, size := 1, bytes := 8, zero := [.nilfn], eqOk := true }
def ty85 : AT := { d := .func, size := 1, bytes := 8, zero := [.nilfn], eqOk := true }
def ty86 : AT := { d := .func, size := 1, bytes := 8, zero := [.nilfn], eqOk := true }
def ty87 : AT := { d := .func, size := 1, bytes := 8, zero := [.nilfn], eqOk := true }
def ty88 : AT := { d := .func, size := 1, bytes := 8, zero := [.nilfn], eqOk := true }
def ty89 : AT := { d := .func, size := 1, bytes := 8, zero := [.nilfn], eqOk := true }
def ty90 : AT := { d := .func, size := 1, bytes := 8, zero := [.nilfn], eqOk := true }
def ty91 : AT := { d := .func, size := 1, bytes := 8, zero := [.nilfn], eqOk := true }
def ty92 : AT := { d := .func, size := 1, bytes := 8, zero := [.nilfn], eqOk := true }
def ty93 : AT := { d := .func, size := 1, bytes := 8, zero := [.nilfn], eqOk := true }
def ty94 : AT := { d := .func, size := 1, bytes := 8, zero := [.nilfn], eqOk := true }
def ty95 : AT := { d := .func, size := 1, bytes := 8, zero := [.nilfn], eqOk := true }
def ty96 : AT := { d := .func, size := 1, bytes := 8, zero := [.nilfn], eqOk := true }
def ty97 : AT := { d := .func, size := 1, bytes := 8, zero := [.nilfn], eqOk := true }
def ty98 : AT := { d := .struct [(false, 0, 64), (false, 1, 9), (false, 2, 3)], size := 3, bytes := 32, zero := [.nilptr, .str [], .int .i64 0], eqOk := true }
def ty99 : AT := { d := .struct [(false, 0, 64), (false, 1, 9), (false, 2, 3)], size := 3, bytes := 32, zero := [.nilptr, .str [], .int .i64 0], eqOk := true }
def ty101 : AT := { d := .func, size := 1, bytes := 8, zero := [.nilfn], eqOk := true }
def ty103 : AT := { d := .func, size := 1, bytes := 8, zero := [.nilfn], eqOk := true }
def ty104 : AT := { d := .func, size := 1, bytes := 8, zero := [.nilfn], eqOk := true }
def ty106 : AT := { d := .func, size := 1, bytes := 8, zero := [.nilfn], eqOk := true }
def ty107 : AT := { d := .func, size := 1, bytes := 8, zero := [.nilfn], eqOk := true }
def ty108 : AT := { d := .func, size := 1, bytes := 8, zero := [.nilfn], eqOk := true }
def ty109 : AT := { d := .func, size := 1, bytes := 8, zero := [.nilfn], eqOk := true }
def ty111 : AT := { d := .func, size := 1, bytes := 8, zero := [.nilfn], eqOk := true }
def ty112 : AT := { d := .func, size := 1, bytes := 8, zero := [.nilfn], eqOk := true }
def ty113 : AT := { d := .func, size := 1, bytes := 8, zero := [.nilfn], eqOk := true }
def ty114 : AT := { d := .slice 5, size := 1, bytes := 24, zero := [.lit true true [] 0], eqOk := true }
def ty115 : AT := { d := .func, size := 1, bytes := 8, zero := [.nilfn], eqOk := true }
def ty116 : AT := { d := .func, size := 1, bytes := 8, zero := [.nilfn], eqOk := true }
def ty117 : AT := { d := .int .u64, size := 1, bytes := 8, zero := [.int .u64 0], eqOk := true }
def ty119 : AT := { d := .func, size := 1, bytes := 8, zero := [.nilfn], eqOk := true }
def ty120 : AT := { d := .func, size := 1, bytes := 8, zero := [.nilfn], eqOk := true }
def ty122 : AT := { d := .func, size := 1, bytes := 8, zero := [.nilfn], eqOk := true }
def ty123 : AT := { d := .func, size := 1, bytes := 8, zero := [.nilfn], eqOk := true }
def ty124 : AT := { d := .int .i64, size := 1, bytes := 8, zero := [.int .i64 0], eqOk := true }
def ty126 : AT := { d := .func, size := 1, bytes := 8, zero := [.nilfn], eqOk := true }
def ty127 : AT := { d := .func, size := 1, bytes := 8, zero := [.nilfn], eqOk := true }
def ty128 : AT := { d := .func, size := 1, bytes := 8, zero := [.nilfn], eqOk := true }
def ty129 : AT := { d := .func, size := 1, bytes := 8, zero := [.nilfn], eqOk := true }
def ty130 : AT := { d := .func, size := 1, bytes := 8, zero := [.nilfn], eqOk := true }
def ty131 : AT := { d := .func, size := 1, bytes := 8, zero := [.nilfn], eqOk := true }
def ty132 : AT := { d := .int .u32, size := 1, bytes := 4, zero := [.int .u32 0], eqOk := true }
def ty133 : AT := { d := .func, size := 1, bytes := 8, zero := [.nilfn], eqOk := true }
def ty134 : AT := { d := .int .u64, size := 1, bytes := 8, zero := [.int .u64 0], eqOk := true }
def ty135 : AT := { d := .int .u64, size := 1, bytes := 8, zero := [.int .u64 0], eqOk := true }
def ty136 : AT := { d := .func, size := 1, bytes := 8, zero := [.nilfn], eqOk := true }
def ty137 : AT := { d := .func, size := 1, bytes := 8, zero := [.nilfn], eqOk := true }
def ty138 : AT := { d := .func, size := 1, bytes := 8, zero := [.nilfn], eqOk := true }
def ty139 : AT := { d := .ptr 3, size := 1, bytes := 8, zero := [.nilptr], eqOk := true }
def ty140 : AT := { d := .func, size := 1, bytes := 8, zero := [.nilfn], eqOk := true }
def ty141 : AT := { d := .ptr 135, size := 1, bytes := 8, zero := [.nilptr], eqOk := true }
def ty143 : AT := { d := .func, size := 1, bytes := 8, zero := [.nilfn], eqOk := true }
def ty144 : AT := { d := .func, size := 1, bytes := 8, zero := [.nilfn], eqOk := true }
def ty153 : AT := { d := .ptr 5, size := 1, bytes := 8, zero := [.nilptr], eqOk := true }
def tyNone : AT := { d := .other, size := 0, bytes := 0, zero := [], eqOk := false }
def tys : List (Nat × AT) := [(1, ty1), (2, ty2), (3, ty3), (4, ty4), (5, ty5), (9, ty9), (12, ty12), (15, ty15), (16, ty16), (20, ty20), (21, ty21), (22, ty22), (23, ty23), (24, ty24), (26, ty26), (27, ty27), (28, ty28), (29, ty29), (30, ty30), (31, ty31), (32, ty32), (33, ty33), (34, ty34), (35, ty35), (36, ty36), (37, ty37), (38, ty38), (39, ty39), (40, ty40), (41, ty41), (42, ty42), (43, ty43), (44, ty44), (45, ty45), (46, ty46), (47, ty47), (48, ty48), (49, ty49), (50, ty50), (51, ty51), (52, ty52), (53, ty53), (54, ty54), (56, ty56), (57, ty57), (58, ty58), (59, ty59), (60, ty60), (61, ty61), (62, ty62), (63, ty63), (64, ty64), (65, ty65), (66, ty66), (67, ty67), (68, ty68), (69, ty69), (70, ty70), (71, ty71), (72, ty72), (73, ty73), (74, ty74), (75, ty75), (76, ty76), (77, ty77), (78, ty78), (79, ty79), (80, ty80), (82, ty82), (83, ty83), (84, ty84), (85, ty85), (86, ty86), (87, ty87), (88, ty88), (89, ty89), (90, ty90), (91, ty91), (92, ty92), (93, ty93), (94, ty94), (95, ty95), (96, ty96), (97, ty97), (98, ty98), (99, ty99), (101, ty101), (103, ty103), (104, ty104), (106, ty106), (107, ty107), (108, ty108), (109, ty109), (111, ty111), (112, ty112), (113, ty113), (114, ty114), (115, ty115), (116, ty116), (117, ty117), (119, ty119), (120, ty120), (122, ty122), (123, ty123), (124, ty124), (126, ty126), (127, ty127), (128, ty128), (129, ty129), (130, ty130), (131, ty131), (132, ty132), (133, ty133), (134, ty134), (135, ty135), (136, ty136), (137, ty137), (138, ty138), (139, ty139), (140, ty140), (141, ty141), (143, ty143), (144, ty144), (153, ty153)]
/-- The table. -/
def T : TT := fun t => ((tys.find? fun p => p.1 == t).map (·.2)).getD tyNone
theorem T_1 : T 1 = ty1 := id rfl
theorem T_2 : T 2 = ty2 := id rfl
theorem T_3 : T 3 = ty3 := id rfl
theorem T_4 : T 4 = ty4 := id rfl
theorem T_5 : T 5 = ty5 := id rfl
theorem T_9 : T 9 = ty9 := id rfl
theorem T_12 : T 12 = ty12 := id rfl
theorem T_15 : T 15 = ty15 := id rfl
theorem T_16 : T 16 = ty16 := id rfl
theorem T_20 : T 20 = ty20 := id rfl
theorem T_21 : T 21 = ty21 := id rfl
theorem T_22 : T 22 = ty22 := id rfl
theorem T_23 : T 23 = ty23 := id rfl
theorem T_24 : T 24 = ty24 := id rfl
theorem T_26 : T 26 = ty26 := id rfl
theorem T_27 : T 27 = ty27 := id rfl
theorem T_28 : T 28 = ty28 := id rfl
theorem T_29 : T 29 = ty29 := id rfl
theorem T_30 : T 30 = ty30 := id rfl
theorem T_31 : T 31 = ty31 := id rfl
theorem T_32 : T 32 = ty32 := id rfl
theorem T_33 : T 33 = ty33 := id rfl
theorem T_34 : T 34 = ty34 := id rfl
theorem T_35 : T 35 = ty35 := id rfl
theorem T_36 : T 36 = ty36 := id rfl
theorem T_37 : T 37 = ty37 := id rfl
theorem T_38 : T 38 = ty38 := id rfl
theorem T_39 : T 39 = ty39 := id rfl
theorem T_40 : T 40 = ty40 := id rfl
theorem T_41 : T 41 = ty41 := id rfl
theorem T_42 : T 42 = ty42 := id rfl
theorem T_43 : T 43 = ty43 := id rfl
theorem T_44 : T 44 = ty44 := id rfl
theorem T_45 : T 45 = ty45 := id rfl
theorem T_46 : T 46 = ty46 := id rfl
theorem T_47 : T 47 = ty47 := id rfl
theorem T_48 : T 48 = ty48 := id rfl
theorem T_49 : T 49 = ty49 := id rfl
theorem T_50 : T 50 = ty50 := id rfl
theorem T_51 : T 51 = ty51 := id rfl
theorem T_52 : T 52 = ty52 := id rfl
theorem T_53 : T 53 = ty53 := id rfl
theorem T_54 : T 54 = ty54 := id rfl
theorem T_56 : T 56 = ty56 := id rfl
theorem T_57 : T 57 = ty57 := id rfl
theorem T_58 : T 58 = ty58 := id rfl
theorem T_59 : T 59 = ty59 := id rfl
theorem T_60 : T 60 = ty60 := id rfl
theorem T_61 : T 61 = ty61 := id rfl
theorem T_62 : T 62 = ty62 := id rfl
theorem T_63 : T 63 = ty63 := id rfl
theorem T_64 : T 64 = ty64 := id rfl
theorem T_65 : T 65 = ty65 := id rfl
theorem T_66 : T 66 = ty66 := id rfl
theorem T_67 : T 67 = ty67 := id rfl
theorem T_68 : T 68 = ty68 := id rfl
theorem T_69 : T 69 = ty69 := id rfl
theorem T_70 : T 70 = ty70 := id rfl
theorem T_71 : T 71 = ty71 := id rfl
theorem T_72 : T 72 = ty72 := id rfl
theorem T_73 : T 73 = ty73 := id rfl
theorem T_74 : T 74 = ty74 := id rfl
theorem T_75 : T 75 = ty75 := id rfl
theorem T_76 : T 76 = ty76 := id rfl
theorem T_77 : T 77 = ty77 := id rfl
theorem T_78 : T 78 = ty78 := id rfl
theorem T_79 : T 79 = ty79 := id rfl
theorem T_80 : T 80 = ty80 := id rfl
theorem T_82 : T 82 = ty82 := id rfl
theorem T_83 : T 83 = ty83 := id rfl
theorem T_84 : T 84 = ty84 := id rfl
theorem T_85 : T 85 = ty85 := id rfl
theorem T_86 : T 86 = ty86 := id rfl
theorem T_87 : T 87 = ty87 := id rfl
theorem T_88 : T 88 = ty88 := id rfl
theorem T_89 : T 89 = ty89 := id rfl
theorem T_90 : T 90 = ty90 := id rfl
theorem T_91 : T 91 = ty91 := id rfl
theorem T_92 : T 92 = ty92 := id rfl
theorem T_93 : T 93 = ty93 := id rfl
theorem T_94 : T 94 = ty94 := id rfl
theorem T_95 : T 95 = ty95 := id rfl
theorem T_96 : T 96 = ty96 := id rfl
theorem T_97 : T 97 = ty97 := id rfl
theorem T_98 : T 98 = ty98 := id rfl
theorem T_99 : T 99 = ty99 := id rfl
theorem T_101 : T 101 = ty101 := id rfl
theorem T_103 : T 103 = ty103 := id rfl
theorem T_104 : T 104 = ty104 := id rfl
theorem T_106 : T 106 = ty106 := id rfl
theorem T_107 : T 107 = ty107 := id rfl
theorem T_108 : T 108 = ty108 := id rfl
theorem T_109 : T 109 = ty109 := id rfl
theorem T_111 : T 111 = ty111 := id rfl
theorem T_112 : T 112 = ty112 := id rfl
theorem T_113 : T 113 = ty113 := id rfl
theorem T_114 : T 114 = ty114 := id rfl
theorem T_115 : T 115 = ty115 := id rfl
theorem T_116 : T 116 = ty116 := id rfl
theorem T_117 : T 117 = ty117 := id rfl
theorem T_119 : T 119 = ty119 := id rfl
theorem T_120 : T 120 = ty120 := id rfl
theorem T_122 : T 122 = ty122 := id rfl
theorem T_123 : T 123 = ty123 := id rfl
theorem T_124 : T 124 = ty124 := id rfl
theorem T_126 : T 126 = ty126 := id rfl
theorem T_127 : T 127 = ty127 := id rfl
theorem T_128 : T 128 = ty128 := id rfl
theorem T_129 : T 129 = ty129 := id rfl
theorem T_130 : T 130 = ty130 := id rfl
theorem T_131 : T 131 = ty131 := id rfl
theorem T_132 : T 132 = ty132 := id rfl
theorem T_133 : T 133 = ty133 := id rfl
theorem T_134 : T 134 = ty134 := id rfl
theorem T_135 : T 135 = ty135 := id rfl
theorem T_136 : T 136 = ty136 := id rfl
theorem T_137 : T 137 = ty137 := id rfl
theorem T_138 : T 138 = ty138 := id rfl
theorem T_139 : T 139 = ty139 := id rfl
theorem T_140 : T 140 = ty140 := id rfl
theorem T_141 : T 141 = ty141 := id rfl
theorem T_143 : T 143 = ty143 := id rfl
theorem T_144 : T 144 = ty144 := id rfl
theorem T_153 : T 153 = ty153 := id rfl
theorem tyOk : TyOk Try.prog T := tyOk_of_B (l := tys) (z := tyNone) rfl rfl (by kernel_rfl) (by decide +kernel)
end Go.Proofs.Ytgbdgobkgcfioaa
