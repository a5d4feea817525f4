/- The small table of types of this seat, and that it is the program's. Printed by types.py. -/
import Derived.Test.YtbdomlbmbcnaeaaProg
import Derived.Test.YtbdomlbmbcnaeaaAbnB
import Derived.KernelRfl
namespace Go.Proofs.Ytbdomlbmbcnaeaa
open Go.Abs
def ty1 : AT := { d := .func, size := 1, bytes := 8, zero := [.nilfn], eqOk := true }
def ty2 : AT := { d := .int .i64, size := 1, bytes := 8, zero := [.int .i64 0], eqOk := true }
def ty3 : AT := { d := .int .i64, size := 1, bytes := 8, zero := [.int .i64 0], eqOk := true }
def ty4 : AT := { d := .bool, size := 1, bytes := 1, zero := [.bool false], eqOk := true }
def ty5 : AT := { d := .int .u8, size := 1, bytes := 1, zero := [.int .u8 0], eqOk := true }
def ty9 : AT := { d := .str, size := 1, bytes := 16, zero := [.str []], eqOk := true }
def ty12 : AT := { d := .int .u64, size := 1, bytes := 8, zero := [.int .u64 0], eqOk := true }
def ty15 : AT := { d := .ptr 118, size := 1, bytes := 8, zero := [.nilptr], eqOk := true }
def ty16 : AT := { d := .ptr 121, size := 1, bytes := 8, zero := [.nilptr], eqOk := true }
def ty20 : AT := { d := .iface, size := 1, bytes := 16, zero := [.nilif], eqOk := false }
def ty21 : AT := { d := .int .i32, size := 1, bytes := 4, zero := [.int .i32 0], eqOk := true }
def ty22 : AT := { d := .slice 33, size := 1, bytes := 24, zero := [.lit true true [] 0], eqOk := true }
def ty23 : AT := { d := .ptr 61, size := 1, bytes := 8, zero := [.nilptr], eqOk := true }
def ty24 : AT := { d := .func, size := 1, bytes := 8, zero := [.nilfn], eqOk := true }
def ty25 : AT := { d := .ptr 29, size := 1, bytes := 8, zero := [.nilptr], eqOk := true }
def ty26 : AT := { d := .slice 39, size := 1, bytes := 24, zero := [.lit true true [] 0], eqOk := true }
def ty27 : AT := { d := .slice 41, size := 1, bytes := 24, zero := [.lit true true [] 0], eqOk := true }
def ty28 : AT := { d := .struct [(false, 0, 26), (false, 1, 27)], size := 2, bytes := 48, zero := [.lit true true [] 0, .lit true true [] 0], eqOk := true }
def ty29 : AT := { d := .struct [(false, 0, 26), (false, 1, 27)], size := 2, bytes := 48, zero := [.lit true true [] 0, .lit true true [] 0], eqOk := true }
def ty30 : AT := { d := .func, size := 1, bytes := 8, zero := [.nilfn], eqOk := true }
def ty31 : AT := { d := .func, size := 1, bytes := 8, zero := [.nilfn], eqOk := true }
def ty32 : AT := { d := .struct [(false, 0, 3), (false, 1, 3), (false, 2, 27)], size := 3, bytes := 40, zero := [.int .i64 0, .int .i64 0, .lit true true [] 0], eqOk := true }
def ty33 : AT := { d := .struct [(false, 0, 3), (false, 1, 3), (false, 2, 27)], size := 3, bytes := 40, zero := [.int .i64 0, .int .i64 0, .lit true true [] 0], eqOk := true }
def ty34 : AT := { d := .func, size := 1, bytes := 8, zero := [.nilfn], eqOk := true }
def ty35 : AT := { d := .slice 3, size := 1, bytes := 24, zero := [.lit true true [] 0], eqOk := true }
def ty36 : AT := { d := .func, size := 1, bytes := 8, zero := [.nilfn], eqOk := true }
def ty37 : AT := { d := .func, size := 1, bytes := 8, zero := [.nilfn], eqOk := true }
def ty38 : AT := { d := .struct [(false, 0, 3), (false, 1, 27)], size := 2, bytes := 32, zero := [.int .i64 0, .lit true true [] 0], eqOk := true }
def ty39 : AT := { d := .struct [(false, 0, 3), (false, 1, 27)], size := 2, bytes := 32, zero := [.int .i64 0, .lit true true [] 0], eqOk := true }
def ty40 : AT := { d := .struct [(false, 0, 3), (false, 1, 3)], size := 2, bytes := 16, zero := [.int .i64 0, .int .i64 0], eqOk := true }
def ty41 : AT := { d := .struct [(false, 0, 3), (false, 1, 3)], size := 2, bytes := 16, zero := [.int .i64 0, .int .i64 0], eqOk := true }
def ty42 : AT := { d := .func, size := 1, bytes := 8, zero := [.nilfn], eqOk := true }
def ty43 : AT := { d := .func, size := 1, bytes := 8, zero := [.nilfn], eqOk := true }
def ty44 : AT := { d := .func, size := 1, bytes := 8, zero := [.nilfn], eqOk := true }
def ty45 : AT := { d := .func, size := 1, bytes := 8, zero := [.nilfn], eqOk := true }
def ty46 : AT := { d := .func, size := 1, bytes := 8, zero := [.nilfn], eqOk := true }
def ty48 : AT := { d := .func, size := 1, bytes := 8, zero := [.nilfn], eqOk := true }
def ty49 : AT := { d := .int .i64, size := 1, bytes := 8, zero := [.int .i64 0], eqOk := true }
def ty50 : AT := { d := .func, size := 1, bytes := 8, zero := [.nilfn], eqOk := true }
def ty51 : AT := { d := .func, size := 1, bytes := 8, zero := [.nilfn], eqOk := true }
def ty52 : AT := { d := .func, size := 1, bytes := 8, zero := [.nilfn], eqOk := true }
def ty54 : AT := { d := .func, size := 1, bytes := 8, zero := [.nilfn], eqOk := true }
def ty55 : AT := { d := .func, size := 1, bytes := 8, zero := [.nilfn], eqOk := true }
def ty57 : AT := { d := .func, size := 1, bytes := 8, zero := [.nilfn], eqOk := true }
def ty58 : AT := { d := .func, size := 1, bytes := 8, zero := [.nilfn], eqOk := true }
def ty59 : AT := { d := .slice 63, size := 1, bytes := 24, zero := [.lit true true [] 0], eqOk := true }
def ty60 : AT := { d := .struct [(false, 0, 59), (false, 1, 27)], size := 2, bytes := 48, zero := [.lit true true [] 0, .lit true true [] 0], eqOk := true }
def ty61 : AT := { d := .struct [(false, 0, 59), (false, 1, 27)], size := 2, bytes := 48, zero := [.lit true true [] 0, .lit true true [] 0], eqOk := true }
def ty62 : AT := { d := .struct [(false, 0, 3), (false, 1, 27)], size := 2, bytes := 32, zero := [.int .i64 0, .lit true true [] 0], eqOk := true }
def ty63 : AT := { d := .struct [(false, 0, 3), (false, 1, 27)], size := 2, bytes := 32, zero := [.int .i64 0, .lit true true [] 0], eqOk := true }
def ty64 : AT := { d := .map 3 3, size := 1, bytes := 8, zero := [.nilmap], eqOk := true }
def ty65 : AT := { d := .func, size := 1, bytes := 8, zero := [.nilfn], eqOk := true }
def ty66 : AT := { d := .func, size := 1, bytes := 8, zero := [.nilfn], eqOk := true }
def ty67 : AT := { d := .func, size := 1, bytes := 8, zero := [.nilfn], eqOk := true }
def ty68 : AT := { d := .func, size := 1, bytes := 8, zero := [.nilfn], eqOk := true }
def ty69 : AT := { d := .func, size := 1, bytes := 8, zero := [.nilfn], eqOk := true }
def ty70 : AT := { d := .func, size := 1, bytes := 8, zero := [.nilfn], eqOk := true }
def ty71 : AT := { d := .func, size := 1, bytes := 8, zero := [.nilfn], eqOk := true }
def ty72 : AT := { d := .func, size := 1, bytes := 8, zero := [.nilfn], eqOk := true }
def ty73 : AT := { d := .slice 5, size := 1, bytes := 24, zero := [.lit true true [] 0], eqOk := true }
def ty74 : AT := { d := .func, size := 1, bytes := 8, zero := [.nilfn], eqOk := true }
def ty75 : AT := { d := .func, size := 1, bytes := 8, zero := [.nilfn], eqOk := true }
def ty77 : AT := { d := .func, size := 1, bytes := 8, zero := [.nilfn], eqOk := true }
def ty79 : AT := { d := .func, size := 1, bytes := 8, zero := [.nilfn], eqOk := true }
def ty81 : AT := { d := .func, size := 1, bytes := 8, zero := [.nilfn], eqOk := true }
def ty82 : AT := { d := .func, size := 1, bytes := 8, zero := [.nilfn], eqOk := true }
def ty83 : AT := { d := .func, size := 1, bytes := 8, zero := [.nilfn], eqOk := true }
def ty84 : AT := { d := .int .u64, size := 1, bytes := 8, zero := [.int .u64 0], eqOk := true }
def ty85 : AT := { d := .func, size := 1, bytes := 8, zero := [.nilfn], eqOk := true }
def ty86 : AT := { d := .int .u64, size := 1, bytes := 8, zero := [.int .u64 0], eqOk := true }
def ty88 : AT := { d := .func, size := 1, bytes := 8, zero := [.nilfn], eqOk := true }
def ty90 : AT := { d := .func, size := 1, bytes := 8, zero := [.nilfn], eqOk := true }
def ty91 : AT := { d := .func, size := 1, bytes := 8, zero := [.nilfn], eqOk := true }
def ty93 : AT := { d := .func, size := 1, bytes := 8, zero := [.nilfn], eqOk := true }
def ty94 : AT := { d := .func, size := 1, bytes := 8, zero := [.nilfn], eqOk := true }
def ty95 : AT := { d := .func, size := 1, bytes := 8, zero := [.nilfn], eqOk := true }
def ty96 : AT := { d := .int .i64, size := 1, bytes := 8, zero := [.int .i64 0], eqOk := true }
def ty98 : AT := { d := .func, size := 1, bytes := 8, zero := [.nilfn], eqOk := true }
def ty99 : AT := { d := .func, size := 1, bytes := 8, zero := [.nilfn], eqOk := true }
def ty100 : AT := { d := .func, size := 1, bytes := 8, zero := [.nilfn], eqOk := true }
def ty101 : AT := { d := .func, size := 1, bytes := 8, zero := [.nilfn], eqOk := true }
def ty102 : AT := { d := .func, size := 1, bytes := 8, zero := [.nilfn], eqOk := true }
def ty103 : AT := { d := .int .u32, size := 1, bytes := 4, zero := [.int .u32 0], eqOk := true }
def ty104 : AT := { d := .func, size := 1, bytes := 8, zero := [.nilfn], eqOk := true }
def ty105 : AT := { d := .func, size := 1, bytes := 8, zero := [.nilfn], eqOk := true }
def ty106 : AT := { d := .func, size := 1, bytes := 8, zero := [.nilfn], eqOk := true }
def ty107 : AT := { d := .func, size := 1, bytes := 8, zero := [.nilfn], eqOk := true }
def ty108 : AT := { d := .func, size := 1, bytes := 8, zero := [.nilfn], eqOk := true }
def ty109 : AT := { d := .int .u64, size := 1, bytes := 8, zero := [.int .u64 0], eqOk := true }
def ty110 : AT := { d := .func, size := 1, bytes := 8, zero := [.nilfn], eqOk := true }
def ty111 : AT := { d := .func, size := 1, bytes := 8, zero := [.nilfn], eqOk := true }
def ty112 : AT := { d := .func, size := 1, bytes := 8, zero := [.nilfn], eqOk := true }
def ty113 : AT := { d := .ptr 3, size := 1, bytes := 8, zero := [.nilptr], eqOk := true }
def ty114 : AT := { d := .func, size := 1, bytes := 8, zero := [.nilfn], eqOk := true }
def ty115 : AT := { d := .ptr 109, size := 1, bytes := 8, zero := [.nilptr], eqOk := true }
def ty116 : AT := { d := .func, size := 1, bytes := 8, zero := [.nilfn], eqOk := true }
def ty122 : AT := { d := .func, size := 1, bytes := 8, zero := [.nilfn], eqOk := true }
def ty126 : AT := { d := .ptr 5, size := 1, bytes := 8, zero := [.nilptr], eqOk := true }
def tyNone : AT := { d := .other, size := 0, bytes := 0, zero := [], eqOk := false }
def tys : List (Nat × AT) := [(1, ty1), (2, ty2), (3, ty3), (4, ty4), (5, ty5), (9, ty9), (12, ty12), (15, ty15), (16, ty16), (20, ty20), (21, ty21), (22, ty22), (23, ty23), (24, ty24), (25, ty25), (26, ty26), (27, ty27), (28, ty28), (29, ty29), (30, ty30), (31, ty31), (32, ty32), (33, ty33), (34, ty34), (35, ty35), (36, ty36), (37, ty37), (38, ty38), (39, ty39), (40, ty40), (41, ty41), (42, ty42), (43, ty43), (44, ty44), (45, ty45), (46, ty46), (48, ty48), (49, ty49), (50, ty50), (51, ty51), (52, ty52), (54, ty54), (55, ty55), (57, ty57), (58, ty58), (59, ty59), (60, ty60), (61, ty61), (62, ty62), (63, ty63), (64, ty64), (65, ty65), (66, ty66), (67, ty67), (68, ty68), (69, ty69), (70, ty70), (71, ty71), (72, ty72), (73, ty73), (74, ty74), (75, ty75), (77, ty77), (79, ty79), (81, ty81), (82, ty82), (83, ty83), (84, ty84), (85, ty85), (86, ty86), (88, ty88), (90, ty90), (91, ty91), (93, ty93), (94, ty94), (95, ty95), (96, ty96), (98, ty98), (99, ty99), (100, ty100), (101, ty101), (102, ty102), (103, ty103), (104, ty104), (105, ty105), (106, ty106), (107, ty107), (108, ty108), (109, ty109), (110, ty110), (111, ty111), (112, ty112), (113, ty113), (114, ty114), (115, ty115), (116, ty116), (122, ty122), (126, ty126)]
/-- The table. -/
def T : TT := fun t => ((tys.find? fun p => p.1 == t).map (·.2)).getD tyNone
theorem T_1 : T 1 = ty1 := id rfl
theorem T_2 : T 2 = ty2 := id rfl
theorem T_3 : T 3 = ty3 := id rfl
theorem T_4 : T 4 = ty4 := id rfl
theorem T_5 : T 5 = ty5 := id rfl
theorem T_9 : T 9 = ty9 := id rfl
theorem T_12 : T 12 = ty12 := id rfl
theorem T_15 : T 15 = ty15 := id rfl
theorem T_16 : T 16 = ty16 := id rfl
theorem T_20 : T 20 = ty20 := id rfl
theorem T_21 : T 21 = ty21 := id rfl
theorem T_22 : T 22 = ty22 := id rfl
theorem T_23 : T 23 = ty23 := id rfl
theorem T_24 : T 24 = ty24 := id rfl
theorem T_25 : T 25 = ty25 := id rfl
theorem T_26 : T 26 = ty26 := id rfl
theorem T_27 : T 27 = ty27 := id rfl
theorem T_28 : T 28 = ty28 := id rfl
theorem T_29 : T 29 = ty29 := id rfl
theorem T_30 : T 30 = ty30 := id rfl
theorem T_31 : T 31 = ty31 := id rfl
theorem T_32 : T 32 = ty32 := id rfl
theorem T_33 : T 33 = ty33 := id rfl
theorem T_34 : T 34 = ty34 := id rfl
theorem T_35 : T 35 = ty35 := id rfl
theorem T_36 : T 36 = ty36 := id rfl
theorem T_37 : T 37 = ty37 := id rfl
theorem T_38 : T 38 = ty38 := id rfl
theorem T_39 : T 39 = ty39 := id rfl
theorem T_40 : T 40 = ty40 := id rfl
theorem T_41 : T 41 = ty41 := id rfl
theorem T_42 : T 42 = ty42 := id rfl
theorem T_43 : T 43 = ty43 := id rfl
theorem T_44 : T 44 = ty44 := id rfl
theorem T_45 : T 45 = ty45 := id rfl
theorem T_46 : T 46 = ty46 := id rfl
theorem T_48 : T 48 = ty48 := id rfl
theorem T_49 : T 49 = ty49 := id rfl
theorem T_50 : T 50 = ty50 := id rfl
theorem T_51 : T 51 = ty51 := id rfl
theorem T_52 : T 52 = ty52 := id rfl
theorem T_54 : T 54 = ty54 := id rfl
theorem T_55 : T 55 = ty55 := id rfl
theorem T_57 : T 57 = ty57 := id rfl
theorem T_58 : T 58 = ty58 := id rfl
theorem T_59 : T 59 = ty59 := id rfl
theorem T_60 : T 60 = ty60 := id rfl
theorem T_61 : T 61 = ty61 := id rfl
theorem T_62 : T 62 = ty62 := id rfl
theorem T_63 : T 63 = ty63 := id rfl
theorem T_64 : T 64 = ty64 := id rfl
theorem T_65 : T 65 = ty65 := id rfl
theorem T_66 : T 66 = ty66 := id rfl
theorem T_67 : T 67 = ty67 := id rfl
theorem T_68 : T 68 = ty68 := id rfl
theorem T_69 : T 69 = ty69 := id rfl
theorem T_70 : T 70 = ty70 := id rfl
theorem T_71 : T 71 = ty71 := id rfl
theorem T_72 : T 72 = ty72 := id rfl
theorem T_73 : T 73 = ty73 := id rfl
theorem T_74 : T 74 = ty74 := id rfl
theorem T_75 : T 75 = ty75 := id rfl
theorem T_77 : T 77 = ty77 := id rfl
theorem T_79 : T 79 = ty79 := id rfl
theorem T_81 : T 81 = ty81 := id rfl
theorem T_82 : T 82 = ty82 := id rfl
theorem T_83 : T 83 = ty83 := id rfl
theorem T_84 : T 84 = ty84 := id rfl
theorem T_85 : T 85 = ty85 := id rfl
theorem T_86 : T 86 = ty86 := id rfl
theorem T_88 : T 88 = ty88 := id rfl
theorem T_90 : T 90 = ty90 := id rfl
theorem T_91 : T 91 = ty91 := id rfl
theorem T_93 : T 93 = ty93 := id rfl
theorem T_94 : T 94 = ty94 := id rfl
theorem T_95 : T 95 = ty95 := id rfl
theorem T_96 : T 96 = ty96 := id rfl
theorem T_98 : T 98 = ty98 := id rfl
theorem T_99 : T 99 = ty99 := id rfl
theorem T_100 : T 100 = ty100 := id rfl
theorem T_101 : T 101 = ty101 := id rfl
theorem T_102 : T 102 = ty102 := id rfl
theorem T_103 : T 103 = ty103 := id rfl
theorem T_104 : T 104 = ty104 := id rfl
theorem T_105 : T 105 = ty105 := id rfl
theorem T_106 : T 106 = ty106 := id rfl
theorem T_107 : T 107 = ty107 := id rfl
theorem T_108 : T 108 = ty108 := id rfl
theorem T_109 : T 109 = ty109 := id rfl
theorem T_110 : T 110 = ty110 := id rfl
theorem T_111 : T 111 = ty111 := id rfl
theorem T_112 : T 112 = ty112 := id rfl
theorem T_113 : T 113 = ty113 := id rfl
theorem T_114 : T 114 = ty114 := id rfl
theorem T_115 : T 115 = ty115 := id rfl
theorem T_116 : T 116 = ty116 := id rfl
theorem T_122 : T 122 = ty122 := id rfl
theorem T_126 : T 126 = ty126 := id rfl
theorem tyOk : TyOk Try.prog T := tyOk_of_B (l := tys) (z := tyNone) rfl rfl (by kernel_rfl) (by decide +kernel)
end Go.Proofs.Ytbdomlbmbcnaeaa
