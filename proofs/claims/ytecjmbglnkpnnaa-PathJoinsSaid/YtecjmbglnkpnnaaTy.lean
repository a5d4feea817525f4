/- The small table of types of this seat, and that it is the program's. Printed by types.py. -/
import Derived.Test.YtecjmbglnkpnnaaProg
import Derived.Test.YtecjmbglnkpnnaaAbsTyB
import Derived.KernelRfl
namespace Go.Proofs.Ytecjmbglnkpnnaa
open Go.Abs
def ty1 : AT := { d := .func, size := 1, bytes := 8, zero := [.nilfn], eqOk := true }
def ty2 : AT := { d := .int .i64, size := 1, bytes := 8, zero := [.int .i64 0], eqOk := true }
def ty3 : AT := { d := .int .i64, size := 1, bytes := 8, zero := [.int .i64 0], eqOk := true }
def ty4 : AT := { d := .bool, size := 1, bytes := 1, zero := [.bool false], eqOk := true }
def ty5 : AT := { d := .int .u8, size := 1, bytes := 1, zero := [.int .u8 0], eqOk := true }
def ty9 : AT := { d := .str, size := 1, bytes := 16, zero := [.str []], eqOk := true }
def ty12 : AT := { d := .int .u64, size := 1, bytes := 8, zero := [.int .u64 0], eqOk := true }
def ty15 : AT := { d := .ptr 41, size := 1, bytes := 8, zero := [.nilptr], eqOk := true }
def ty16 : AT := { d := .ptr 44, size := 1, bytes := 8, zero := [.nilptr], eqOk := true }
def ty20 : AT := { d := .iface, size := 1, bytes := 16, zero := [.nilif], eqOk := false }
def ty21 : AT := { d := .int .i32, size := 1, bytes := 4, zero := [.int .i32 0], eqOk := true }
def ty22 : AT := { d := .func, size := 1, bytes := 8, zero := [.nilfn], eqOk := true }
def ty23 : AT := { d := .func, size := 1, bytes := 8, zero := [.nilfn], eqOk := true }
def ty24 : AT := { d := .slice 9, size := 1, bytes := 24, zero := [.lit true true [] 0], eqOk := true }
def ty25 : AT := { d := .int .i64, size := 1, bytes := 8, zero := [.int .i64 0], eqOk := true }
def ty27 : AT := { d := .func, size := 1, bytes := 8, zero := [.nilfn], eqOk := true }
def ty28 : AT := { d := .func, size := 1, bytes := 8, zero := [.nilfn], eqOk := true }
def ty29 : AT := { d := .func, size := 1, bytes := 8, zero := [.nilfn], eqOk := true }
def ty30 : AT := { d := .func, size := 1, bytes := 8, zero := [.nilfn], eqOk := true }
def ty31 : AT := { d := .func, size := 1, bytes := 8, zero := [.nilfn], eqOk := true }
def ty32 : AT := { d := .func, size := 1, bytes := 8, zero := [.nilfn], eqOk := true }
def ty34 : AT := { d := .func, size := 1, bytes := 8, zero := [.nilfn], eqOk := true }
def ty35 : AT := { d := .func, size := 1, bytes := 8, zero := [.nilfn], eqOk := true }
def ty36 : AT := { d := .func, size := 1, bytes := 8, zero := [.nilfn], eqOk := true }
def ty37 : AT := { d := .func, size := 1, bytes := 8, zero := [.nilfn], eqOk := true }
def ty38 : AT := { d := .slice 5, size := 1, bytes := 24, zero := [.lit true true [] 0], eqOk := true }
def ty39 : AT := { d := .func, size := 1, bytes := 8, zero := [.nilfn], eqOk := true }
def ty45 : AT := { d := .func, size := 1, bytes := 8, zero := [.nilfn], eqOk := true }
def ty46 : AT := { d := .int .u32, size := 1, bytes := 4, zero := [.int .u32 0], eqOk := true }
def ty50 : AT := { d := .ptr 5, size := 1, bytes := 8, zero := [.nilptr], eqOk := true }
def tyNone : AT := { d := .other, size := 0, bytes := 0, zero := [], eqOk := false }
def tys : List (Nat × AT) := [(1, ty1), (2, ty2), (3, ty3), (4, ty4), (5, ty5), (9, ty9), (12, ty12), (15, ty15), (16, ty16), (20, ty20), (21, ty21), (22, ty22), (23, ty23), (24, ty24), (25, ty25), (27, ty27), (28, ty28), (29, ty29), (30, ty30), (31, ty31), (32, ty32), (34, ty34), (35, ty35), (36, ty36), (37, ty37), (38, ty38), (39, ty39), (45, ty45), (46, ty46), (50, ty50)]
/-- The table. -/
def T : TT := fun t => ((tys.find? fun p => p.1 == t).map (·.2)).getD tyNone
theorem T_1 : T 1 = ty1 := id rfl
theorem T_2 : T 2 = ty2 := id rfl
theorem T_3 : T 3 = ty3 := id rfl
theorem T_4 : T 4 = ty4 := id rfl
theorem T_5 : T 5 = ty5 := id rfl
theorem T_9 : T 9 = ty9 := id rfl
theorem T_12 : T 12 = ty12 := id rfl
theorem T_15 : T 15 = ty15 := id rfl
theorem T_16 : T 16 = ty16 := id rfl
theorem T_20 : T 20 = ty20 := id rfl
theorem T_21 : T 21 = ty21 := id rfl
theorem T_22 : T 22 = ty22 := id rfl
theorem T_23 : T 23 = ty23 := id rfl
theorem T_24 : T 24 = ty24 := id rfl
theorem T_25 : T 25 = ty25 := id rfl
theorem T_27 : T 27 = ty27 := id rfl
theorem T_28 : T 28 = ty28 := id rfl
theorem T_29 : T 29 = ty29 := id rfl
theorem T_30 : T 30 = ty30 := id rfl
theorem T_31 : T 31 = ty31 := id rfl
theorem T_32 : T 32 = ty32 := id rfl
theorem T_34 : T 34 = ty34 := id rfl
theorem T_35 : T 35 = ty35 := id rfl
theorem T_36 : T 36 = ty36 := id rfl
theorem T_37 : T 37 = ty37 := id rfl
theorem T_38 : T 38 = ty38 := id rfl
theorem T_39 : T 39 = ty39 := id rfl
theorem T_45 : T 45 = ty45 := id rfl
theorem T_46 : T 46 = ty46 := id rfl
theorem T_50 : T 50 = ty50 := id rfl
theorem tyOk : TyOk Try.prog T := tyOk_of_B (l := tys) (z := tyNone) rfl rfl (by kernel_rfl) (by decide +kernel)
end Go.Proofs.Ytecjmbglnkpnnaa
