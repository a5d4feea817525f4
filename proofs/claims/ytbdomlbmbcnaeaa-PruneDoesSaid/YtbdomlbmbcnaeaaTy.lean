/- The small table of types of this seat, and that it is the program's. Printed by types.py. -/
import Derived.Test.YtbdomlbmbcnaeaaProg
import Derived.Test.YtbdomlbmbcnaeaaAbnB
import Derived.KernelRfl
namespace Go.Proofs.Ytbdomlbmbcnaeaa
open Go.Abs
def ty1 : AT := { d := .func, size := 1, bytes := 8, zero := [.nilfn], eqOk := true }
def ty2 : AT := { d := .int .i64, size := 1, bytes := 8, zero := [.int .i64 0], eqOk := true }
def ty3 : AT := { d := .int .i64, size := 1, bytes := 8, zero := [.int .i64 0], eqOk := true }
def ty4 : AT := { d := .bool, size := 1, bytes := 1, zero := [.bool false], eqOk := true }
def ty5 : AT := { d := .int .u8, size := 1, bytes := 1, zero := [.int .u8 0], eqOk := true }
def ty9 : AT := { d := .str, size := 1, bytes := 16, zero := [.str []], eqOk := true }
def ty12 : AT := { d := .int .u64, size := 1, bytes := 8, zero := [.int .u64 0], eqOk := true }
def ty15 : AT := { d := .ptr 118, size := 1, bytes := 8, zero := [.nilptr], eqOk := true }
def ty16 : AT := { d := .ptr 121, size := 1, bytes := 8, zero := [.nilptr], eqOk := true }
def ty20 : AT := { d := .iface, size := 1, bytes := 16, zero := [.nilif], eqOk := false }
def ty21 : AT := { d := .int .i32, size := 1, bytes := 4, zero := [.int .i32 0], eqOk := true }
def ty22 : AT := { d := .slice 33, size := 1, bytes := 24, zero := [.lit true true [] 0], eqOk := true }
def ty23 : AT := { d := .ptr 61, size := 1, bytes := 8, zero := [.nilptr], eqOk := true }
def ty24 : AT := { d := .func, size := 1, bytes := 8, zero := [.nilfn], eqOk := true }
def ty25 : AT := { d := .ptr 29, size := 1, bytes := 8, zero := [.nilptr], eqOk := true }
def ty26 : AT := { d := .slice 39, size := 1, bytes := 24, zero := [.lit true true [] 0], eqOk := true }
def ty27 : AT := { d := .slice 41, size := 1, bytes := 24, zero := [.lit true true [] 0], eqOk := true }
def ty28 : AT := { d := .struct [(false, 0, 26), (false, 1, 27)], size := 2, bytes := 48, zero := [.lit true true [] 0, .lit true true [] 0], eqOk := true }
def ty29 : AT := { d := .struct [(false, 0, 26), (false, 1, 27)], size := 2, bytes := 48, zero := [.lit true true [] 0, .lit true true [] 0], eqOk := true }
def ty30 : AT := { d := .func, size := 1, bytes := 8, zero := [.nilfn], eqOk := true }
def ty31 : AT := { d := .func, size := 1, bytes := 8, zero := [.nilfn], eqOk := true }
def ty32 : AT := { d := .struct [(false, 0, 3), (false, 1, 3), (false, 2, 27)], size := 3, bytes := 40, zero := [.int .i64 0, .int .i64 0, .lit true true [] 0], eqOk := true }
def ty33 : AT := { d := .struct [(false, 0, 3), (false, 1, 3), (false, 2, 27)], size := 3, bytes := 40, zero := [.int .i64 0, .int .i64 0, .lit true true [] 0], eqOk := true }
def ty34 : AT := { d := .func, size := 1, bytes := 8, zero := [.nilfn], eqOk := true }
def ty35 : AT := { d := .slice 3, size := 1, bytes := 24, zero := [.lit true true [] 0], eqOk := true }
def ty36 : AT := { d := .func, size := 1, bytes := 8, zero := [.nilfn], eqOk := true }
def ty37 : AT := { d := .func, size := 1, bytes := 8, zero := [.nilfn], eqOk := true }
def ty38 : AT := { d := .struct [(false, 0, 3), (false, 1, 27)], size := 2, bytes := 32, zero := [.int .i64 0, .lit true true [] 0], eqOk := true }
def ty39 : AT := { d := .struct [(false, 0, 3), (false, 1, 27)], size := 2, bytes := 32, zero := [.int .i64 0, .lit true true [] 0], eqOk := true }
def ty40 : AT := { d := .struct [(false, 0, 3), (false, 1, 3)], size := 2, bytes := 16, zero := [.int .i64 0, .int .i64 0], eqOk := true }
def ty41 : AT := { d := .struct [(false, 0, 3), (false, 1, 3)], size := 2, bytes := 16, zero := [.int .i64 0, .int .i64 0], eqOk := true }
def ty42 : AT := { d := .func, size := 1, bytes := 8, zero := [.nilfn], eqOk := true }
def ty43 : AT := { d := .func, size := 1, bytes := 8, zero := [.nilfn], eqOk := true }
def ty44 : AT := { d := .func, size := 1, bytes := 8, zero := [.nilfn], eqOk := true }
def ty45 : AT := { d := .func, size := 1, bytes := 8, zero := [.nilfn], eqOk := true }
def ty46 : AT := { d := .func, size := 1, bytes := 8, zero := [.nilfn], eqOk := true }
def ty48 : AT := { d := .func, size := 1, bytes := 8, zero := [.nilfn], eqOk := true }
def ty49 : AT := { d := .int .i64, size := 1, bytes := 8, zero := [.int .i64 0], eqOk := true }
def ty50 : AT := { d := .func, size := 1, bytes := 8, zero := [.nilfn], eqOk := true }
def ty51 : AT := { d := .func, size := 1, bytes := 8, zero := [.nilfn], eqOk := true }
def ty52 : AT := { d := .func, size := 1, bytes := 8, zero := [.nilfn], eqOk := true }
def ty54 : AT := { d := .func, size := 1, bytes := 8, zero := [.nilfn], eqOk := true }
def ty55 : AT := { d := .func, size := 1, bytes := 8, zero := [.nilfn], eqOk := true }
def ty57 : AT := { d := .func, size := 1, bytes := 8, zero := [.nilfn], eqOk := true }
def ty58 : AT := { d := .func, size := 1, bytes := 8, zero := [.nilfn], eqOk := true }
def ty59 : AT := { d := .slice 63, size := 1, bytes := 24, zero := [.lit true true [] 0], eqOk := true }
def ty60 : AT := { d := .struct [(false, 0, 59), (false, 1, 27)], size := 2, bytes := 48, zero := [.lit true true [] 0, .lit true true [] 0], eqOk := true }
def ty61 : AT := { d := .struct [(false, 0, 59), (false, 1, 27)], size := 2, bytes := 48, zero := [.lit true true [] 0, .lit true true [] 0], eqOk := true }
def ty62 : AT := { d := .struct [(false, 0, 3), (false, 1, 27)], size := 2, bytes := 32, zero := [.int .i64 0, .lit true true [] 0], eqOk := true }
def ty63 : AT := { d := .struct [(false, 0, 3), (false, 1, 27)], size := 2, bytes := 32, zero := [.int .i64 0, .lit true true [] 0], eqOk := true }
def ty64 : AT := { d := .map 3 3, size := 1, bytes := 8, zero := [.nilmap], eqOk := true }
def ty65 : AT := { d := .func, size := 1, bytes := 8, zero := [.nilfn], eqOk := true }
def ty66 : AT := { d := .func, size := 1, bytes := 8, zero := [.nilfn], eqOk := true }
def ty67 : AT := { d := .func, size := 1, bytes := 8, zero := [.nilfn], eqOk := true }
def ty68 : AT := { d := .func, size := 1, bytes := 8, zero := [.nilfn], eqOk := true }
def ty69 : AT := { d := .func, size := 1, bytes := 8, zero := [.nilfn], eqOk := true }
def ty70 : AT := { d := .func, size := 1, bytes := 8, zero := [.nilfn], eqOk := true }
def ty71 : AT := { d := .func, size := 1, bytes := 8, zero := [.nilfn], eqOk := true }
def ty72 : AT := { d := .func, size := 1, bytes := 8, zero := [.nilfn], eqOk := true }
def ty73 : AT := { d := .slice 5, size := 1, bytes := 24, zero := [.lit true true [] 0], eqOk := true }
def ty74 : AT := { d := .func, size := 1, bytes := 8, zero := [.nilfn], eqOk := true }
def ty75 : AT := { d := .func, size := 1, bytes := 8, zero := [.nilfn], eqOk := true }
def ty77 : AT := { d := .func, size := 1, bytes := 8, zero := [.nilfn], eqOk := true }
def ty79 : AT := { d := .func, size := 1, bytes := 8, zero := [.nilfn], eqOk := true }
def ty81 : AT := { d := .func, size := 1, bytes := 8, zero := [.nilfn], eqOk := true }
def ty82 : AT := { d := .func, size := 1, bytes := 8, zero := [.nilfn], eqOk := true }
def ty83 : AT := { d := .func, size := 1, bytes := 8, zero := [.nilfn], eqOk := true }
def ty84 : AT := { d := .int .u64, size := 1, bytes := 8, zero := [.int .u64 0], eqOk := true }
def ty85 : AT := { d := .func, size := 1, bytes := 8, zero := [.nilfn], eqOk := true }
def ty86 : AT := { d := .int .u64, size := 1, bytes := 8, zero := [.int .u64 0], eqOk := true }
def ty88 : AT := { d := .func, size := 1, bytes := 8, zero := [.nilfn], eqOk := true }
def ty90 : AT := { d := .func, size := 1, bytes := 8, zero := [.nilfn], eqOk := true }
def ty91 : AT := { d := .func, size := 1, bytes := 8, zero := [.nilfn], eqOk := true }
def ty93 : AT := { d := .func, size := 1, bytes := 8, zero := [.nilfn], eqOk := true }
def ty94 : AT := { d := .func, size := 1, bytes := 8, zero := [.nilfn], eqOk := true }
def ty95 : AT := { d := .func, size := 1, bytes := 8, zero := [.nilfn], eqOk := true }
def ty96 : AT := { d := .int .i64, size := 1, bytes := 8, zero := [.int .i64 0], eqOk := true }
def ty98 : AT := { d := .func, size := 1, bytes := 8, zero := [.nilfn], eqOk := true }
def ty99 : AT := { d := .func, size := 1, bytes := 8, zero := [.nilfn], eqOk := true }
def ty100 : AT := { d := .func, size := 1, bytes := 8, zero := [.nilfn], eqOk := true }
def ty101 : AT := { d := .func, size := 1, bytes := 8, zero := [.nilfn], eqOk := true }
def ty102 : AT := { d := .func, size := 1, bytes := 8, zero := [.nilfn], eqOk := true }
def ty103 : AT := { d := .int .u32, size := 1, bytes := 4, zero := [.int .u32 0], eqOk := true }
def ty104 : AT := { d := .func, size := 1, bytes := 8, zero := [.nilfn], eqOk := true }
def ty105 : AT := { d := .func, size := 1, bytes := 8, zero := [.nilfn], eqOk := true }
def ty106 : AT := { d := .func, size := 1, bytes := 8, zero := [.nilfn], eqOk := true }
def ty107 : AT := { d := .func, size := 1, bytes := 8, zero := [.nilfn], eqOk := true }
def ty108 : AT := { d := .func, size := 1, bytes := 8, zero := [.nilfn], eqOk := true }
def ty109 : AT := { d := .int .u64, size := 1, bytes := 8, zero := [.int .u64 0], eqOk := true }
def ty110 : AT := { d := .func, size := 1, bytes := 8, zero := [.nilfn], eqOk := true }
def ty111 : AT := { d := .func, size := 1, bytes := 8, zero := [.nilfn], eqOk := true }
def ty112 : AT := { d := .func, size := 1, bytes := 8, zero := [.nilfn], eqOk := true }
def ty113 : AT := { d := .ptr 3, size := 1, bytes := 8, zero := [.nilptr], eqOk := true }
def ty114 : AT := { d := .func, size := 1, bytes := 8, zero := [.nilfn], eqOk := true }
def ty115 : AT := { d := .ptr 109, size := 1, bytes := 8, zero := [.nilptr], eqOk := true }
def ty116 : AT := { d := .func, size := 1, bytes := 8, zero := [.nilfn], eqOk := true }
def ty122 : AT := { d := .func, size := 1, bytes := 8, zero := [.nilfn], eqOk := true }
def ty126 : AT := { d := .ptr 5, size := 1, bytes := 8, zero := [.nilptr], eqOk := true }
def tyNone : AT := { d := .other, size := 0, bytes := 0, zero := [], eqOk := false }
def tys : List (Nat × AT) := [(1, ty1), (2, ty2), (3, ty3), (4, ty4), (5, ty5), (9, ty9), (12, ty12), (15, ty15), (16, ty16), (20, ty20), (21, ty21), (22, ty22), (23, ty23), (24, ty24), (25, ty25), (26, ty26), (27, ty27), (28, ty28), (29, ty29), (30, ty30), (31, ty31), (32, ty32), (33, ty33), (34, ty34), (35, ty35), (36, ty36), (37, ty37), (38, ty38), (39, ty39), (40, ty40), (41, ty41), (42, ty42), (43, ty43), (44, ty44), (45, ty45), (46, ty46), (48, ty48), (49, ty49), (50, ty50), (51, ty51), (52, ty52), (54, ty54), (55, ty55), (57, ty57), (58, ty58), (59, ty59), (60, ty60), (61, ty61), (62, ty62), (63, ty63), (64, ty64), (65, ty65), (66, ty66), (67, ty67), (68, ty68), (69, ty69), (70, ty70), (71, ty71), (72, ty72), (73, ty73), (74, ty74), (75, ty75), (77, ty77), (79, ty79), (81, ty81), (82, ty82), (83, ty83), (84, ty84), (85, ty85), (86, ty86), (88, ty88), (90, ty90), (91, ty91), (93, ty93), (94, ty94), (95, ty95), (96, ty96), (98, ty98), (99, ty99), (100, ty100), (101, ty101), (102, ty102), (103, ty103), (104, ty104), (105, ty105), (106, ty106), (107, ty107), (108, ty108), (109, ty109), (110, ty110), (111, ty111), (112, ty112), (113, ty113), (114, ty114), (115, ty115), (116, ty116), (122, ty122), (126, ty126)]
/-- The table. -/
def T : TT := fun t => ((tys.find? fun p => p.1 == t).map (·.2)).getD tyNone
theorem tyOk : TyOk Try.prog T := tyOk_of_B (l := tys) (z := tyNone) rfl rfl (by kernel_rfl) (by decide +kernel)
end Go.Proofs.Ytbdomlbmbcnaeaa
