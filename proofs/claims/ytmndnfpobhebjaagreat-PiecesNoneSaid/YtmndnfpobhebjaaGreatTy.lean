/- The small table of types of this seat, and that it is the program's. Printed by types.py. -/
import Derived.Test.YtmndnfpobhebjaaGreatProg
import Derived.Test.YtmndnfpobhebjaaGreatAbnTyB
import Derived.KernelRfl
namespace Go.Proofs.YtmndnfpobhebjaaGreat
open Go.Abs
def ty1 : AT := { d := .func, size := 1, bytes := 8, zero := [.nilfn], eqOk := true }
def ty2 : AT := { d := .int .i64, size := 1, bytes := 8, zero := [.int .i64 0], eqOk := true }
def ty3 : AT := { d := .int .i64, size := 1, bytes := 8, zero := [.int .i64 0], eqOk := true }
def ty4 : AT := { d := .bool, size := 1, bytes := 1, zero := [.bool false], eqOk := true }
def ty5 : AT := { d := .int .u8, size := 1, bytes := 1, zero := [.int .u8 0], eqOk := true }
def ty9 : AT := { d := .str, size := 1, bytes := 16, zero := [.str []], eqOk := true }
def ty12 : AT := { d := .int .u64, size := 1, bytes := 8, zero := [.int .u64 0], eqOk := true }
def ty15 : AT := { d := .ptr 282, size := 1, bytes := 8, zero := [.nilptr], eqOk := true }
def ty16 : AT := { d := .ptr 285, size := 1, bytes := 8, zero := [.nilptr], eqOk := true }
def ty20 : AT := { d := .iface, size := 1, bytes := 16, zero := [.nilif], eqOk := false }
def ty21 : AT := { d := .int .i32, size := 1, bytes := 4, zero := [.int .i32 0], eqOk := true }
def ty22 : AT := { d := .slice 29, size := 1, bytes := 24, zero := [.lit true true [] 0], eqOk := true }
def ty23 : AT := { d := .slice 3, size := 1, bytes := 24, zero := [.lit true true [] 0], eqOk := true }
def ty24 : AT := { d := .ptr 122, size := 1, bytes := 8, zero := [.nilptr], eqOk := true }
def ty25 : AT := { d := .func, size := 1, bytes := 8, zero := [.nilfn], eqOk := true }
def ty26 : AT := { d := .func, size := 1, bytes := 8, zero := [.nilfn], eqOk := true }
def ty27 : AT := { d := .slice 9, size := 1, bytes := 24, zero := [.lit true true [] 0], eqOk := true }
def ty28 : AT := { d := .struct [(false, 0, 3), (false, 1, 3), (false, 2, 9), (false, 3, 27), (false, 4, 23)], size := 5, bytes := 80, zero := [.int .i64 0, .int .i64 0, .str [], .lit true true [] 0, .lit true true [] 0], eqOk := true }
def ty29 : AT := { d := .struct [(false, 0, 3), (false, 1, 3), (false, 2, 9), (false, 3, 27), (false, 4, 23)], size := 5, bytes := 80, zero := [.int .i64 0, .int .i64 0, .str [], .lit true true [] 0, .lit true true [] 0], eqOk := true }
def ty30 : AT := { d := .int .i64, size := 1, bytes := 8, zero := [.int .i64 0], eqOk := true }
def ty32 : AT := { d := .func, size := 1, bytes := 8, zero := [.nilfn], eqOk := true }
def ty33 : AT := { d := .struct [(false, 0, 3), (false, 1, 3), (false, 2, 3)], size := 3, bytes := 24, zero := [.int .i64 0, .int .i64 0, .int .i64 0], eqOk := true }
def ty34 : AT := { d := .struct [(false, 0, 3), (false, 1, 3), (false, 2, 3)], size := 3, bytes := 24, zero := [.int .i64 0, .int .i64 0, .int .i64 0], eqOk := true }
def ty35 : AT := { d := .slice 71, size := 1, bytes := 24, zero := [.lit true true [] 0], eqOk := true }
def ty37 : AT := { d := .func, size := 1, bytes := 8, zero := [.nilfn], eqOk := true }
def ty38 : AT := { d := .ptr 138, size := 1, bytes := 8, zero := [.nilptr], eqOk := true }
def ty39 : AT := { d := .func, size := 1, bytes := 8, zero := [.nilfn], eqOk := true }
def ty40 : AT := { d := .func, size := 1, bytes := 8, zero := [.nilfn], eqOk := true }
def ty41 : AT := { d := .ptr 80, size := 1, bytes := 8, zero := [.nilptr], eqOk := true }
def ty42 : AT := { d := .func, size := 1, bytes := 8, zero := [.nilfn], eqOk := true }
def ty43 : AT := { d := .func, size := 1, bytes := 8, zero := [.nilfn], eqOk := true }
def ty44 : AT := { d := .func, size := 1, bytes := 8, zero := [.nilfn], eqOk := true }
def ty46 : AT := { d := .func, size := 1, bytes := 8, zero := [.nilfn], eqOk := true }
def ty47 : AT := { d := .func, size := 1, bytes := 8, zero := [.nilfn], eqOk := true }
def ty48 : AT := { d := .func, size := 1, bytes := 8, zero := [.nilfn], eqOk := true }
def ty49 : AT := { d := .func, size := 1, bytes := 8, zero := [.nilfn], eqOk := true }
def ty50 : AT := { d := .slice 57, size := 1, bytes := 24, zero := [.lit true true [] 0], eqOk := true }
def ty51 : AT := { d := .ptr 54, size := 1, bytes := 8, zero := [.nilptr], eqOk := true }
def ty52 : AT := { d := .func, size := 1, bytes := 8, zero := [.nilfn], eqOk := true }
def ty53 : AT := { d := .struct [(false, 0, 38), (false, 1, 24), (false, 2, 41), (false, 3, 35), (false, 4, 3)], size := 5, bytes := 56, zero := [.nilptr, .nilptr, .nilptr, .lit true true [] 0, .int .i64 0], eqOk := true }
def ty54 : AT := { d := .struct [(false, 0, 38), (false, 1, 24), (false, 2, 41), (false, 3, 35), (false, 4, 3)], size := 5, bytes := 56, zero := [.nilptr, .nilptr, .nilptr, .lit true true [] 0, .int .i64 0], eqOk := true }
def ty55 : AT := { d := .slice 83, size := 1, bytes := 24, zero := [.lit true true [] 0], eqOk := true }
def ty56 : AT := { d := .struct [(false, 0, 3), (false, 1, 34), (false, 4, 55), (false, 5, 5), (false, 6, 23)], size := 7, bytes := 88, zero := [.int .i64 0, .int .i64 0, .int .i64 0, .int .i64 0, .lit true true [] 0, .int .u8 0, .lit true true [] 0], eqOk := true }
def ty57 : AT := { d := .struct [(false, 0, 3), (false, 1, 34), (false, 4, 55), (false, 5, 5), (false, 6, 23)], size := 7, bytes := 88, zero := [.int .i64 0, .int .i64 0, .int .i64 0, .int .i64 0, .lit true true [] 0, .int .u8 0, .lit true true [] 0], eqOk := true }
def ty58 : AT := { d := .func, size := 1, bytes := 8, zero := [.nilfn], eqOk := true }
def ty59 : AT := { d := .slice 5, size := 1, bytes := 24, zero := [.lit true true [] 0], eqOk := true }
def ty60 : AT := { d := .func, size := 1, bytes := 8, zero := [.nilfn], eqOk := true }
def ty62 : AT := { d := .func, size := 1, bytes := 8, zero := [.nilfn], eqOk := true }
def ty63 : AT := { d := .slice 67, size := 1, bytes := 24, zero := [.lit true true [] 0], eqOk := true }
def ty65 : AT := { d := .func, size := 1, bytes := 8, zero := [.nilfn], eqOk := true }
def ty66 : AT := { d := .struct [(false, 0, 3), (false, 1, 3), (false, 2, 3), (false, 3, 23), (false, 4, 27), (false, 5, 23)], size := 6, bytes := 96, zero := [.int .i64 0, .int .i64 0, .int .i64 0, .lit true true [] 0, .lit true true [] 0, .lit true true [] 0], eqOk := true }
def ty67 : AT := { d := .struct [(false, 0, 3), (false, 1, 3), (false, 2, 3), (false, 3, 23), (false, 4, 27), (false, 5, 23)], size := 6, bytes := 96, zero := [.int .i64 0, .int .i64 0, .int .i64 0, .lit true true [] 0, .lit true true [] 0, .lit true true [] 0], eqOk := true }
def ty68 : AT := { d := .func, size := 1, bytes := 8, zero := [.nilfn], eqOk := true }
def ty69 : AT := { d := .func, size := 1, bytes := 8, zero := [.nilfn], eqOk := true }
def ty70 : AT := { d := .struct [(false, 0, 3), (false, 1, 9)], size := 2, bytes := 24, zero := [.int .i64 0, .str []], eqOk := true }
def ty71 : AT := { d := .struct [(false, 0, 3), (false, 1, 9)], size := 2, bytes := 24, zero := [.int .i64 0, .str []], eqOk := true }
def ty73 : AT := { d := .func, size := 1, bytes := 8, zero := [.nilfn], eqOk := true }
def ty75 : AT := { d := .func, size := 1, bytes := 8, zero := [.nilfn], eqOk := true }
def ty76 : AT := { d := .func, size := 1, bytes := 8, zero := [.nilfn], eqOk := true }
def ty77 : AT := { d := .func, size := 1, bytes := 8, zero := [.nilfn], eqOk := true }
def ty78 : AT := { d := .slice 23, size := 1, bytes := 24, zero := [.lit true true [] 0], eqOk := true }
def ty79 : AT := { d := .struct [(false, 0, 22), (false, 1, 78), (false, 2, 3)], size := 3, bytes := 56, zero := [.lit true true [] 0, .lit true true [] 0, .int .i64 0], eqOk := true }
def ty80 : AT := { d := .struct [(false, 0, 22), (false, 1, 78), (false, 2, 3)], size := 3, bytes := 56, zero := [.lit true true [] 0, .lit true true [] 0, .int .i64 0], eqOk := true }
def ty81 : AT := { d := .func, size := 1, bytes := 8, zero := [.nilfn], eqOk := true }
def ty82 : AT := { d := .struct [(false, 0, 3), (false, 1, 3), (false, 2, 9), (false, 3, 9), (false, 4, 3), (false, 5, 3), (false, 6, 9)], size := 7, bytes := 80, zero := [.int .i64 0, .int .i64 0, .str [], .str [], .int .i64 0, .int .i64 0, .str []], eqOk := true }
def ty83 : AT := { d := .struct [(false, 0, 3), (false, 1, 3), (false, 2, 9), (false, 3, 9), (false, 4, 3), (false, 5, 3), (false, 6, 9)], size := 7, bytes := 80, zero := [.int .i64 0, .int .i64 0, .str [], .str [], .int .i64 0, .int .i64 0, .str []], eqOk := true }
def ty84 : AT := { d := .slice 92, size := 1, bytes := 24, zero := [.lit true true [] 0], eqOk := true }
def ty85 : AT := { d := .ptr 178, size := 1, bytes := 8, zero := [.nilptr], eqOk := true }
def ty87 : AT := { d := .func, size := 1, bytes := 8, zero := [.nilfn], eqOk := true }
def ty88 : AT := { d := .ptr 95, size := 1, bytes := 8, zero := [.nilptr], eqOk := true }
def ty90 : AT := { d := .func, size := 1, bytes := 8, zero := [.nilfn], eqOk := true }
def ty91 : AT := { d := .struct [(false, 0, 3), (false, 1, 9)], size := 2, bytes := 24, zero := [.int .i64 0, .str []], eqOk := true }
def ty92 : AT := { d := .struct [(false, 0, 3), (false, 1, 9)], size := 2, bytes := 24, zero := [.int .i64 0, .str []], eqOk := true }
def ty93 : AT := { d := .func, size := 1, bytes := 8, zero := [.nilfn], eqOk := true }
def ty94 : AT := { d := .struct [(false, 0, 83), (false, 7, 3), (false, 8, 3), (false, 9, 63), (false, 10, 23), (false, 11, 23), (false, 12, 27)], size := 13, bytes := 192, zero := [.int .i64 0, .int .i64 0, .str [], .str [], .int .i64 0, .int .i64 0, .str [], .int .i64 0, .int .i64 0, .lit true true [] 0, .lit true true [] 0, .lit true true [] 0, .lit true true [] 0], eqOk := true }
def ty95 : AT := { d := .struct [(false, 0, 83), (false, 7, 3), (false, 8, 3), (false, 9, 63), (false, 10, 23), (false, 11, 23), (false, 12, 27)], size := 13, bytes := 192, zero := [.int .i64 0, .int .i64 0, .str [], .str [], .int .i64 0, .int .i64 0, .str [], .int .i64 0, .int .i64 0, .lit true true [] 0, .lit true true [] 0, .lit true true [] 0, .lit true true [] 0], eqOk := true }
def ty96 : AT := { d := .func, size := 1, bytes := 8, zero := [.nilfn], eqOk := true }
def ty97 : AT := { d := .struct [(false, 0, 3), (false, 1, 3), (false, 2, 3), (false, 3, 3)], size := 4, bytes := 32, zero := [.int .i64 0, .int .i64 0, .int .i64 0, .int .i64 0], eqOk := true }
def ty98 : AT := { d := .struct [(false, 0, 3), (false, 1, 3), (false, 2, 3), (false, 3, 3)], size := 4, bytes := 32, zero := [.int .i64 0, .int .i64 0, .int .i64 0, .int .i64 0], eqOk := true }
def ty99 : AT := { d := .struct [(false, 0, 30), (false, 1, 9), (false, 2, 27), (false, 3, 98)], size := 7, bytes := 80, zero := [.int .i64 0, .str [], .lit true true [] 0, .int .i64 0, .int .i64 0, .int .i64 0, .int .i64 0], eqOk := true }
def ty100 : AT := { d := .struct [(false, 0, 30), (false, 1, 9), (false, 2, 27), (false, 3, 98)], size := 7, bytes := 80, zero := [.int .i64 0, .str [], .lit true true [] 0, .int .i64 0, .int .i64 0, .int .i64 0, .int .i64 0], eqOk := true }
def ty101 : AT := { d := .func, size := 1, bytes := 8, zero := [.nilfn], eqOk := true }
def ty102 : AT := { d := .func, size := 1, bytes := 8, zero := [.nilfn], eqOk := true }
def ty104 : AT := { d := .func, size := 1, bytes := 8, zero := [.nilfn], eqOk := true }
def ty105 : AT := { d := .func, size := 1, bytes := 8, zero := [.nilfn], eqOk := true }
def ty106 : AT := { d := .func, size := 1, bytes := 8, zero := [.nilfn], eqOk := true }
def ty107 : AT := { d := .func, size := 1, bytes := 8, zero := [.nilfn], eqOk := true }
def ty108 : AT := { d := .func, size := 1, bytes := 8, zero := [.nilfn], eqOk := true }
def ty110 : AT := { d := .func, size := 1, bytes := 8, zero := [.nilfn], eqOk := true }
def ty111 : AT := { d := .func, size := 1, bytes := 8, zero := [.nilfn], eqOk := true }
def ty112 : AT := { d := .func, size := 1, bytes := 8, zero := [.nilfn], eqOk := true }
def ty113 : AT := { d := .struct [(false, 0, 55), (false, 1, 83), (false, 8, 3), (false, 9, 9)], size := 10, bytes := 128, zero := [.lit true true [] 0, .int .i64 0, .int .i64 0, .str [], .str [], .int .i64 0, .int .i64 0, .str [], .int .i64 0, .str []], eqOk := true }
def ty114 : AT := { d := .struct [(false, 0, 55), (false, 1, 83), (false, 8, 3), (false, 9, 9)], size := 10, bytes := 128, zero := [.lit true true [] 0, .int .i64 0, .int .i64 0, .str [], .str [], .int .i64 0, .int .i64 0, .str [], .int .i64 0, .str []], eqOk := true }
def ty115 : AT := { d := .func, size := 1, bytes := 8, zero := [.nilfn], eqOk := true }
def ty116 : AT := { d := .func, size := 1, bytes := 8, zero := [.nilfn], eqOk := true }
def ty117 : AT := { d := .func, size := 1, bytes := 8, zero := [.nilfn], eqOk := true }
def ty118 : AT := { d := .ptr 202, size := 1, bytes := 8, zero := [.nilptr], eqOk := true }
def ty119 : AT := { d := .func, size := 1, bytes := 8, zero := [.nilfn], eqOk := true }
def ty120 : AT := { d := .map 3 23, size := 1, bytes := 8, zero := [.nilmap], eqOk := true }
def ty121 : AT := { d := .struct [(false, 0, 22), (false, 1, 120), (false, 2, 3), (false, 3, 4)], size := 4, bytes := 48, zero := [.lit true true [] 0, .nilmap, .int .i64 0, .bool false], eqOk := true }
def ty122 : AT := { d := .struct [(false, 0, 22), (false, 1, 120), (false, 2, 3), (false, 3, 4)], size := 4, bytes := 48, zero := [.lit true true [] 0, .nilmap, .int .i64 0, .bool false], eqOk := true }
def ty124 : AT := { d := .func, size := 1, bytes := 8, zero := [.nilfn], eqOk := true }
def ty125 : AT := { d := .func, size := 1, bytes := 8, zero := [.nilfn], eqOk := true }
def ty126 : AT := { d := .func, size := 1, bytes := 8, zero := [.nilfn], eqOk := true }
def ty127 : AT := { d := .func, size := 1, bytes := 8, zero := [.nilfn], eqOk := true }
def ty128 : AT := { d := .func, size := 1, bytes := 8, zero := [.nilfn], eqOk := true }
def ty129 : AT := { d := .func, size := 1, bytes := 8, zero := [.nilfn], eqOk := true }
def ty131 : AT := { d := .func, size := 1, bytes := 8, zero := [.nilfn], eqOk := true }
def ty132 : AT := { d := .func, size := 1, bytes := 8, zero := [.nilfn], eqOk := true }
def ty133 : AT := { d := .struct [(false, 0, 27), (false, 1, 3)], size := 2, bytes := 32, zero := [.lit true true [] 0, .int .i64 0], eqOk := true }
def ty134 : AT := { d := .struct [(false, 0, 27), (false, 1, 3)], size := 2, bytes := 32, zero := [.lit true true [] 0, .int .i64 0], eqOk := true }
def ty135 : AT := { d := .slice 134, size := 1, bytes := 24, zero := [.lit true true [] 0], eqOk := true }
def ty136 : AT := { d := .slice 141, size := 1, bytes := 24, zero := [.lit true true [] 0], eqOk := true }
def ty137 : AT := { d := .struct [(false, 0, 135), (false, 1, 136)], size := 2, bytes := 48, zero := [.lit true true [] 0, .lit true true [] 0], eqOk := true }
def ty138 : AT := { d := .struct [(false, 0, 135), (false, 1, 136)], size := 2, bytes := 48, zero := [.lit true true [] 0, .lit true true [] 0], eqOk := true }
def ty139 : AT := { d := .func, size := 1, bytes := 8, zero := [.nilfn], eqOk := true }
def ty140 : AT := { d := .struct [(false, 0, 3), (false, 1, 3), (false, 2, 9)], size := 3, bytes := 32, zero := [.int .i64 0, .int .i64 0, .str []], eqOk := true }
def ty141 : AT := { d := .struct [(false, 0, 3), (false, 1, 3), (false, 2, 9)], size := 3, bytes := 32, zero := [.int .i64 0, .int .i64 0, .str []], eqOk := true }
def ty142 : AT := { d := .func, size := 1, bytes := 8, zero := [.nilfn], eqOk := true }
def ty143 : AT := { d := .func, size := 1, bytes := 8, zero := [.nilfn], eqOk := true }
def ty144 : AT := { d := .func, size := 1, bytes := 8, zero := [.nilfn], eqOk := true }
def ty145 : AT := { d := .func, size := 1, bytes := 8, zero := [.nilfn], eqOk := true }
def ty146 : AT := { d := .func, size := 1, bytes := 8, zero := [.nilfn], eqOk := true }
def ty147 : AT := { d := .func, size := 1, bytes := 8, zero := [.nilfn], eqOk := true }
def ty148 : AT := { d := .func, size := 1, bytes := 8, zero := [.nilfn], eqOk := true }
def ty149 : AT := { d := .func, size := 1, bytes := 8, zero := [.nilfn], eqOk := true }
def ty150 : AT := { d := .func, size := 1, bytes := 8, zero := [.nilfn], eqOk := true }
def ty151 : AT := { d := .func, size := 1, bytes := 8, zero := [.nilfn], eqOk := true }
def ty152 : AT := { d := .func, size := 1, bytes := 8, zero := [.nilfn], eqOk := true }
def ty153 : AT := { d := .func, size := 1, bytes := 8, zero := [.nilfn], eqOk := true }
def ty154 : AT := { d := .func, size := 1, bytes := 8, zero := [.nilfn], eqOk := true }
def ty155 : AT := { d := .func, size := 1, bytes := 8, zero := [.nilfn], eqOk := true }
def ty156 : AT := { d := .func, size := 1, bytes := 8, zero := [.nilfn], eqOk := true }
def ty157 : AT := { d := .struct [(false, 0, 3), (false, 1, 30)], size := 2, bytes := 16, zero := [.int .i64 0, .int .i64 0], eqOk := true }
def ty158 : AT := { d := .struct [(false, 0, 3), (false, 1, 30)], size := 2, bytes := 16, zero := [.int .i64 0, .int .i64 0], eqOk := true }
def ty160 : AT := { d := .func, size := 1, bytes := 8, zero := [.nilfn], eqOk := true }
def ty162 : AT := { d := .func, size := 1, bytes := 8, zero := [.nilfn], eqOk := true }
def ty164 : AT := { d := .func, size := 1, bytes := 8, zero := [.nilfn], eqOk := true }
def ty165 : AT := { d := .func, size := 1, bytes := 8, zero := [.nilfn], eqOk := true }
def ty167 : AT := { d := .func, size := 1, bytes := 8, zero := [.nilfn], eqOk := true }
def ty168 : AT := { d := .func, size := 1, bytes := 8, zero := [.nilfn], eqOk := true }
def ty170 : AT := { d := .func, size := 1, bytes := 8, zero := [.nilfn], eqOk := true }
def ty172 : AT := { d := .func, size := 1, bytes := 8, zero := [.nilfn], eqOk := true }
def ty174 : AT := { d := .func, size := 1, bytes := 8, zero := [.nilfn], eqOk := true }
def ty175 : AT := { d := .map 3 182, size := 1, bytes := 8, zero := [.nilmap], eqOk := true }
def ty176 : AT := { d := .map 185 71, size := 1, bytes := 8, zero := [.nilmap], eqOk := true }
def ty177 : AT := { d := .struct [(false, 0, 83), (false, 7, 3), (false, 8, 4), (false, 9, 63), (false, 10, 175), (false, 11, 176), (false, 12, 100)], size := 19, bytes := 216, zero := [.int .i64 0, .int .i64 0, .str [], .str [], .int .i64 0, .int .i64 0, .str [], .int .i64 0, .bool false, .lit true true [] 0, .nilmap, .nilmap, .int .i64 0, .str [], .lit true true [] 0, .int .i64 0, .int .i64 0, .int .i64 0, .int .i64 0], eqOk := true }
def ty178 : AT := { d := .struct [(false, 0, 83), (false, 7, 3), (false, 8, 4), (false, 9, 63), (false, 10, 175), (false, 11, 176), (false, 12, 100)], size := 19, bytes := 216, zero := [.int .i64 0, .int .i64 0, .str [], .str [], .int .i64 0, .int .i64 0, .str [], .int .i64 0, .bool false, .lit true true [] 0, .nilmap, .nilmap, .int .i64 0, .str [], .lit true true [] 0, .int .i64 0, .int .i64 0, .int .i64 0, .int .i64 0], eqOk := true }
def ty180 : AT := { d := .func, size := 1, bytes := 8, zero := [.nilfn], eqOk := true }
def ty181 : AT := { d := .func, size := 1, bytes := 8, zero := [.nilfn], eqOk := true }
def ty182 : AT := { d := .slice 185, size := 1, bytes := 24, zero := [.lit true true [] 0], eqOk := true }
def ty184 : AT := { d := .struct [(false, 0, 3), (false, 1, 3)], size := 2, bytes := 16, zero := [.int .i64 0, .int .i64 0], eqOk := true }
def ty185 : AT := { d := .struct [(false, 0, 3), (false, 1, 3)], size := 2, bytes := 16, zero := [.int .i64 0, .int .i64 0], eqOk := true }
def ty186 : AT := { d := .func, size := 1, bytes := 8, zero := [.nilfn], eqOk := true }
def ty188 : AT := { d := .func, size := 1, bytes := 8, zero := [.nilfn], eqOk := true }
def ty189 : AT := { d := .func, size := 1, bytes := 8, zero := [.nilfn], eqOk := true }
def ty190 : AT := { d := .func, size := 1, bytes := 8, zero := [.nilfn], eqOk := true }
def ty191 : AT := { d := .func, size := 1, bytes := 8, zero := [.nilfn], eqOk := true }
def ty192 : AT := { d := .func, size := 1, bytes := 8, zero := [.nilfn], eqOk := true }
def ty193 : AT := { d := .func, size := 1, bytes := 8, zero := [.nilfn], eqOk := true }
def ty195 : AT := { d := .func, size := 1, bytes := 8, zero := [.nilfn], eqOk := true }
def ty196 : AT := { d := .ptr 199, size := 1, bytes := 8, zero := [.nilptr], eqOk := true }
def ty197 : AT := { d := .map 9 3, size := 1, bytes := 8, zero := [.nilmap], eqOk := true }
def ty198 : AT := { d := .struct [(false, 0, 3), (false, 1, 3), (false, 2, 9), (false, 3, 197)], size := 4, bytes := 40, zero := [.int .i64 0, .int .i64 0, .str [], .nilmap], eqOk := true }
def ty199 : AT := { d := .struct [(false, 0, 3), (false, 1, 3), (false, 2, 9), (false, 3, 197)], size := 4, bytes := 40, zero := [.int .i64 0, .int .i64 0, .str [], .nilmap], eqOk := true }
def ty200 : AT := { d := .map 3 196, size := 1, bytes := 8, zero := [.nilmap], eqOk := true }
def ty201 : AT := { d := .struct [(false, 0, 200)], size := 1, bytes := 8, zero := [.nilmap], eqOk := true }
def ty202 : AT := { d := .struct [(false, 0, 200)], size := 1, bytes := 8, zero := [.nilmap], eqOk := true }
def ty203 : AT := { d := .func, size := 1, bytes := 8, zero := [.nilfn], eqOk := true }
def ty204 : AT := { d := .func, size := 1, bytes := 8, zero := [.nilfn], eqOk := true }
def ty205 : AT := { d := .func, size := 1, bytes := 8, zero := [.nilfn], eqOk := true }
def ty206 : AT := { d := .func, size := 1, bytes := 8, zero := [.nilfn], eqOk := true }
def ty207 : AT := { d := .func, size := 1, bytes := 8, zero := [.nilfn], eqOk := true }
def ty208 : AT := { d := .func, size := 1, bytes := 8, zero := [.nilfn], eqOk := true }
def ty209 : AT := { d := .func, size := 1, bytes := 8, zero := [.nilfn], eqOk := true }
def ty210 : AT := { d := .func, size := 1, bytes := 8, zero := [.nilfn], eqOk := true }
def ty211 : AT := { d := .func, size := 1, bytes := 8, zero := [.nilfn], eqOk := true }
def ty212 : AT := { d := .int .u64, size := 1, bytes := 8, zero := [.int .u64 0], eqOk := true }
def ty213 : AT := { d := .func, size := 1, bytes := 8, zero := [.nilfn], eqOk := true }
def ty214 : AT := { d := .int .u64, size := 1, bytes := 8, zero := [.int .u64 0], eqOk := true }
def ty215 : AT := { d := .func, size := 1, bytes := 8, zero := [.nilfn], eqOk := true }
def ty216 : AT := { d := .func, size := 1, bytes := 8, zero := [.nilfn], eqOk := true }
def ty218 : AT := { d := .func, size := 1, bytes := 8, zero := [.nilfn], eqOk := true }
def ty219 : AT := { d := .func, size := 1, bytes := 8, zero := [.nilfn], eqOk := true }
def ty220 : AT := { d := .func, size := 1, bytes := 8, zero := [.nilfn], eqOk := true }
def ty221 : AT := { d := .func, size := 1, bytes := 8, zero := [.nilfn], eqOk := true }
def ty222 : AT := { d := .func, size := 1, bytes := 8, zero := [.nilfn], eqOk := true }
def ty223 : AT := { d := .func, size := 1, bytes := 8, zero := [.nilfn], eqOk := true }
def ty224 : AT := { d := .func, size := 1, bytes := 8, zero := [.nilfn], eqOk := true }
def ty225 : AT := { d := .func, size := 1, bytes := 8, zero := [.nilfn], eqOk := true }
def ty226 : AT := { d := .func, size := 1, bytes := 8, zero := [.nilfn], eqOk := true }
def ty227 : AT := { d := .func, size := 1, bytes := 8, zero := [.nilfn], eqOk := true }
def ty228 : AT := { d := .func, size := 1, bytes := 8, zero := [.nilfn], eqOk := true }
def ty229 : AT := { d := .func, size := 1, bytes := 8, zero := [.nilfn], eqOk := true }
def ty230 : AT := { d := .func, size := 1, bytes := 8, zero := [.nilfn], eqOk := true }
def ty231 : AT := { d := .func, size := 1, bytes := 8, zero := [.nilfn], eqOk := true }
def ty232 : AT := { d := .func, size := 1, bytes := 8, zero := [.nilfn], eqOk := true }
def ty233 : AT := { d := .func, size := 1, bytes := 8, zero := [.nilfn], eqOk := true }
def ty234 : AT := { d := .func, size := 1, bytes := 8, zero := [.nilfn], eqOk := true }
def ty235 : AT := { d := .int .i64, size := 1, bytes := 8, zero := [.int .i64 0], eqOk := true }
def ty237 : AT := { d := .func, size := 1, bytes := 8, zero := [.nilfn], eqOk := true }
def ty238 : AT := { d := .func, size := 1, bytes := 8, zero := [.nilfn], eqOk := true }
def ty239 : AT := { d := .func, size := 1, bytes := 8, zero := [.nilfn], eqOk := true }
def ty240 : AT := { d := .func, size := 1, bytes := 8, zero := [.nilfn], eqOk := true }
def ty241 : AT := { d := .func, size := 1, bytes := 8, zero := [.nilfn], eqOk := true }
def ty242 : AT := { d := .int .u32, size := 1, bytes := 4, zero := [.int .u32 0], eqOk := true }
def ty243 : AT := { d := .func, size := 1, bytes := 8, zero := [.nilfn], eqOk := true }
def ty244 : AT := { d := .func, size := 1, bytes := 8, zero := [.nilfn], eqOk := true }
def ty245 : AT := { d := .func, size := 1, bytes := 8, zero := [.nilfn], eqOk := true }
def ty246 : AT := { d := .func, size := 1, bytes := 8, zero := [.nilfn], eqOk := true }
def ty247 : AT := { d := .struct [(false, 0, 196), (false, 1, 9), (false, 2, 3)], size := 3, bytes := 32, zero := [.nilptr, .str [], .int .i64 0], eqOk := true }
def ty248 : AT := { d := .struct [(false, 0, 196), (false, 1, 9), (false, 2, 3)], size := 3, bytes := 32, zero := [.nilptr, .str [], .int .i64 0], eqOk := true }
def ty250 : AT := { d := .func, size := 1, bytes := 8, zero := [.nilfn], eqOk := true }
def ty252 : AT := { d := .func, size := 1, bytes := 8, zero := [.nilfn], eqOk := true }
def ty253 : AT := { d := .func, size := 1, bytes := 8, zero := [.nilfn], eqOk := true }
def ty254 : AT := { d := .func, size := 1, bytes := 8, zero := [.nilfn], eqOk := true }
def ty255 : AT := { d := .func, size := 1, bytes := 8, zero := [.nilfn], eqOk := true }
def ty256 : AT := { d := .func, size := 1, bytes := 8, zero := [.nilfn], eqOk := true }
def ty257 : AT := { d := .func, size := 1, bytes := 8, zero := [.nilfn], eqOk := true }
def ty258 : AT := { d := .int .u64, size := 1, bytes := 8, zero := [.int .u64 0], eqOk := true }
def ty259 : AT := { d := .func, size := 1, bytes := 8, zero := [.nilfn], eqOk := true }
def ty260 : AT := { d := .func, size := 1, bytes := 8, zero := [.nilfn], eqOk := true }
def ty261 : AT := { d := .func, size := 1, bytes := 8, zero := [.nilfn], eqOk := true }
def ty262 : AT := { d := .ptr 3, size := 1, bytes := 8, zero := [.nilptr], eqOk := true }
def ty263 : AT := { d := .func, size := 1, bytes := 8, zero := [.nilfn], eqOk := true }
def ty264 : AT := { d := .func, size := 1, bytes := 8, zero := [.nilfn], eqOk := true }
def ty265 : AT := { d := .func, size := 1, bytes := 8, zero := [.nilfn], eqOk := true }
def ty267 : AT := { d := .func, size := 1, bytes := 8, zero := [.nilfn], eqOk := true }
def ty268 : AT := { d := .func, size := 1, bytes := 8, zero := [.nilfn], eqOk := true }
def ty269 : AT := { d := .func, size := 1, bytes := 8, zero := [.nilfn], eqOk := true }
def ty270 : AT := { d := .func, size := 1, bytes := 8, zero := [.nilfn], eqOk := true }
def ty271 : AT := { d := .func, size := 1, bytes := 8, zero := [.nilfn], eqOk := true }
def ty272 : AT := { d := .func, size := 1, bytes := 8, zero := [.nilfn], eqOk := true }
def ty273 : AT := { d := .func, size := 1, bytes := 8, zero := [.nilfn], eqOk := true }
def ty274 : AT := { d := .func, size := 1, bytes := 8, zero := [.nilfn], eqOk := true }
def ty275 : AT := { d := .ptr 258, size := 1, bytes := 8, zero := [.nilptr], eqOk := true }
def ty277 : AT := { d := .func, size := 1, bytes := 8, zero := [.nilfn], eqOk := true }
def ty278 : AT := { d := .func, size := 1, bytes := 8, zero := [.nilfn], eqOk := true }
def ty279 : AT := { d := .func, size := 1, bytes := 8, zero := [.nilfn], eqOk := true }
def ty280 : AT := { d := .func, size := 1, bytes := 8, zero := [.nilfn], eqOk := true }
def ty289 : AT := { d := .ptr 5, size := 1, bytes := 8, zero := [.nilptr], eqOk := true }
def tyNone : AT := { d := .other, size := 0, bytes := 0, zero := [], eqOk := false }
def tys : List (Nat × AT) := [(1, ty1), (2, ty2), (3, ty3), (4, ty4), (5, ty5), (9, ty9), (12, ty12), (15, ty15), (16, ty16), (20, ty20), (21, ty21), (22, ty22), (23, ty23), (24, ty24), (25, ty25), (26, ty26), (27, ty27), (28, ty28), (29, ty29), (30, ty30), (32, ty32), (33, ty33), (34, ty34), (35, ty35), (37, ty37), (38, ty38), (39, ty39), (40, ty40), (41, ty41), (42, ty42), (43, ty43), (44, ty44), (46, ty46), (47, ty47), (48, ty48), (49, ty49), (50, ty50), (51, ty51), (52, ty52), (53, ty53), (54, ty54), (55, ty55), (56, ty56), (57, ty57), (58, ty58), (59, ty59), (60, ty60), (62, ty62), (63, ty63), (65, ty65), (66, ty66), (67, ty67), (68, ty68), (69, ty69), (70, ty70), (71, ty71), (73, ty73), (75, ty75), (76, ty76), (77, ty77), (78, ty78), (79, ty79), (80, ty80), (81, ty81), (82, ty82), (83, ty83), (84, ty84), (85, ty85), (87, ty87), (88, ty88), (90, ty90), (91, ty91), (92, ty92), (93, ty93), (94, ty94), (95, ty95), (96, ty96), (97, ty97), (98, ty98), (99, ty99), (100, ty100), (101, ty101), (102, ty102), (104, ty104), (105, ty105), (106, ty106), (107, ty107), (108, ty108), (110, ty110), (111, ty111), (112, ty112), (113, ty113), (114, ty114), (115, ty115), (116, ty116), (117, ty117), (118, ty118), (119, ty119), (120, ty120), (121, ty121), (122, ty122), (124, ty124), (125, ty125), (126, ty126), (127, ty127), (128, ty128), (129, ty129), (131, ty131), (132, ty132), (133, ty133), (134, ty134), (135, ty135), (136, ty136), (137, ty137), (138, ty138), (139, ty139), (140, ty140), (141, ty141), (142, ty142), (143, ty143), (144, ty144), (145, ty145), (146, ty146), (147, ty147), (148, ty148), (149, ty149), (150, ty150), (151, ty151), (152, ty152), (153, ty153), (154, ty154), (155, ty155), (156, ty156), (157, ty157), (158, ty158), (160, ty160), (162, ty162), (164, ty164), (165, ty165), (167, ty167), (168, ty168), (170, ty170), (172, ty172), (174, ty174), (175, ty175), (176, ty176), (177, ty177), (178, ty178), (180, ty180), (181, ty181), (182, ty182), (184, ty184), (185, ty185), (186, ty186), (188, ty188), (189, ty189), (190, ty190), (191, ty191), (192, ty192), (193, ty193), (195, ty195), (196, ty196), (197, ty197), (198, ty198), (199, ty199), (200, ty200), (201, ty201), (202, ty202), (203, ty203), (204, ty204), (205, ty205), (206, ty206), (207, ty207), (208, ty208), (209, ty209), (210, ty210), (211, ty211), (212, ty212), (213, ty213), (214, ty214), (215, ty215), (216, ty216), (218, ty218), (219, ty219), (220, ty220), (221, ty221), (222, ty222), (223, ty223), (224, ty224), (225, ty225), (226, ty226), (227, ty227), (228, ty228), (229, ty229), (230, ty230), (231, ty231), (232, ty232), (233, ty233), (234, ty234), (235, ty235), (237, ty237), (238, ty238), (239, ty239), (240, ty240), (241, ty241), (242, ty242), (243, ty243), (244, ty244), (245, ty245), (246, ty246), (247, ty247), (248, ty248), (250, ty250), (252, ty252), (253, ty253), (254, ty254), (255, ty255), (256, ty256), (257, ty257), (258, ty258), (259, ty259), (260, ty260), (261, ty261), (262, ty262), (263, ty263), (264, ty264), (265, ty265), (267, ty267), (268, ty268), (269, ty269), (270, ty270), (271, ty271), (272, ty272), (273, ty273), (274, ty274), (275, ty275), (277, ty277), (278, ty278), (279, ty279), (280, ty280), (289, ty289)]
/-- The table. -/
def T : TT := fun t => ((tys.find? fun p => p.1 == t).map (·.2)).getD tyNone
theorem T_1 : T 1 = ty1 := id rfl
theorem T_2 : T 2 = ty2 := id rfl
theorem T_3 : T 3 = ty3 := id rfl
theorem T_4 : T 4 = ty4 := id rfl
theorem T_5 : T 5 = ty5 := id rfl
theorem T_9 : T 9 = ty9 := id rfl
theorem T_12 : T 12 = ty12 := id rfl
theorem T_15 : T 15 = ty15 := id rfl
theorem T_16 : T 16 = ty16 := id rfl
theorem T_20 : T 20 = ty20 := id rfl
theorem T_21 : T 21 = ty21 := id rfl
theorem T_22 : T 22 = ty22 := id rfl
theorem T_23 : T 23 = ty23 := id rfl
theorem T_24 : T 24 = ty24 := id rfl
theorem T_25 : T 25 = ty25 := id rfl
theorem T_26 : T 26 = ty26 := id rfl
theorem T_27 : T 27 = ty27 := id rfl
theorem T_28 : T 28 = ty28 := id rfl
theorem T_29 : T 29 = ty29 := id rfl
theorem T_30 : T 30 = ty30 := id rfl
theorem T_32 : T 32 = ty32 := id rfl
theorem T_33 : T 33 = ty33 := id rfl
theorem T_34 : T 34 = ty34 := id rfl
theorem T_35 : T 35 = ty35 := id rfl
theorem T_37 : T 37 = ty37 := id rfl
theorem T_38 : T 38 = ty38 := id rfl
theorem T_39 : T 39 = ty39 := id rfl
theorem T_40 : T 40 = ty40 := id rfl
theorem T_41 : T 41 = ty41 := id rfl
theorem T_42 : T 42 = ty42 := id rfl
theorem T_43 : T 43 = ty43 := id rfl
theorem T_44 : T 44 = ty44 := id rfl
theorem T_46 : T 46 = ty46 := id rfl
theorem T_47 : T 47 = ty47 := id rfl
theorem T_48 : T 48 = ty48 := id rfl
theorem T_49 : T 49 = ty49 := id rfl
theorem T_50 : T 50 = ty50 := id rfl
theorem T_51 : T 51 = ty51 := id rfl
theorem T_52 : T 52 = ty52 := id rfl
theorem T_53 : T 53 = ty53 := id rfl
theorem T_54 : T 54 = ty54 := id rfl
theorem T_55 : T 55 = ty55 := id rfl
theorem T_56 : T 56 = ty56 := id rfl
theorem T_57 : T 57 = ty57 := id rfl
theorem T_58 : T 58 = ty58 := id rfl
theorem T_59 : T 59 = ty59 := id rfl
theorem T_60 : T 60 = ty60 := id rfl
theorem T_62 : T 62 = ty62 := id rfl
theorem T_63 : T 63 = ty63 := id rfl
theorem T_65 : T 65 = ty65 := id rfl
theorem T_66 : T 66 = ty66 := id rfl
theorem T_67 : T 67 = ty67 := id rfl
theorem T_68 : T 68 = ty68 := id rfl
theorem T_69 : T 69 = ty69 := id rfl
theorem T_70 : T 70 = ty70 := id rfl
theorem T_71 : T 71 = ty71 := id rfl
theorem T_73 : T 73 = ty73 := id rfl
theorem T_75 : T 75 = ty75 := id rfl
theorem T_76 : T 76 = ty76 := id rfl
theorem T_77 : T 77 = ty77 := id rfl
theorem T_78 : T 78 = ty78 := id rfl
theorem T_79 : T 79 = ty79 := id rfl
theorem T_80 : T 80 = ty80 := id rfl
theorem T_81 : T 81 = ty81 := id rfl
theorem T_82 : T 82 = ty82 := id rfl
theorem T_83 : T 83 = ty83 := id rfl
theorem T_84 : T 84 = ty84 := id rfl
theorem T_85 : T 85 = ty85 := id rfl
theorem T_87 : T 87 = ty87 := id rfl
theorem T_88 : T 88 = ty88 := id rfl
theorem T_90 : T 90 = ty90 := id rfl
theorem T_91 : T 91 = ty91 := id rfl
theorem T_92 : T 92 = ty92 := id rfl
theorem T_93 : T 93 = ty93 := id rfl
theorem T_94 : T 94 = ty94 := id rfl
theorem T_95 : T 95 = ty95 := id rfl
theorem T_96 : T 96 = ty96 := id rfl
theorem T_97 : T 97 = ty97 := id rfl
theorem T_98 : T 98 = ty98 := id rfl
theorem T_99 : T 99 = ty99 := id rfl
theorem T_100 : T 100 = ty100 := id rfl
theorem T_101 : T 101 = ty101 := id rfl
theorem T_102 : T 102 = ty102 := id rfl
theorem T_104 : T 104 = ty104 := id rfl
theorem T_105 : T 105 = ty105 := id rfl
theorem T_106 : T 106 = ty106 := id rfl
theorem T_107 : T 107 = ty107 := id rfl
theorem T_108 : T 108 = ty108 := id rfl
theorem T_110 : T 110 = ty110 := id rfl
theorem T_111 : T 111 = ty111 := id rfl
theorem T_112 : T 112 = ty112 := id rfl
theorem T_113 : T 113 = ty113 := id rfl
theorem T_114 : T 114 = ty114 := id rfl
theorem T_115 : T 115 = ty115 := id rfl
theorem T_116 : T 116 = ty116 := id rfl
theorem T_117 : T 117 = ty117 := id rfl
theorem T_118 : T 118 = ty118 := id rfl
theorem T_119 : T 119 = ty119 := id rfl
theorem T_120 : T 120 = ty120 := id rfl
theorem T_121 : T 121 = ty121 := id rfl
theorem T_122 : T 122 = ty122 := id rfl
theorem T_124 : T 124 = ty124 := id rfl
theorem T_125 : T 125 = ty125 := id rfl
theorem T_126 : T 126 = ty126 := id rfl
theorem T_127 : T 127 = ty127 := id rfl
theorem T_128 : T 128 = ty128 := id rfl
theorem T_129 : T 129 = ty129 := id rfl
theorem T_131 : T 131 = ty131 := id rfl
theorem T_132 : T 132 = ty132 := id rfl
theorem T_133 : T 133 = ty133 := id rfl
theorem T_134 : T 134 = ty134 := id rfl
theorem T_135 : T 135 = ty135 := id rfl
theorem T_136 : T 136 = ty136 := id rfl
theorem T_137 : T 137 = ty137 := id rfl
theorem T_138 : T 138 = ty138 := id rfl
theorem T_139 : T 139 = ty139 := id rfl
theorem T_140 : T 140 = ty140 := id rfl
theorem T_141 : T 141 = ty141 := id rfl
theorem T_142 : T 142 = ty142 := id rfl
theorem T_143 : T 143 = ty143 := id rfl
theorem T_144 : T 144 = ty144 := id rfl
theorem T_145 : T 145 = ty145 := id rfl
theorem T_146 : T 146 = ty146 := id rfl
theorem T_147 : T 147 = ty147 := id rfl
theorem T_148 : T 148 = ty148 := id rfl
theorem T_149 : T 149 = ty149 := id rfl
theorem T_150 : T 150 = ty150 := id rfl
theorem T_151 : T 151 = ty151 := id rfl
theorem T_152 : T 152 = ty152 := id rfl
theorem T_153 : T 153 = ty153 := id rfl
theorem T_154 : T 154 = ty154 := id rfl
theorem T_155 : T 155 = ty155 := id rfl
theorem T_156 : T 156 = ty156 := id rfl
theorem T_157 : T 157 = ty157 := id rfl
theorem T_158 : T 158 = ty158 := id rfl
theorem T_160 : T 160 = ty160 := id rfl
theorem T_162 : T 162 = ty162 := id rfl
theorem T_164 : T 164 = ty164 := id rfl
theorem T_165 : T 165 = ty165 := id rfl
theorem T_167 : T 167 = ty167 := id rfl
theorem T_168 : T 168 = ty168 := id rfl
theorem T_170 : T 170 = ty170 := id rfl
theorem T_172 : T 172 = ty172 := id rfl
theorem T_174 : T 174 = ty174 := id rfl
theorem T_175 : T 175 = ty175 := id rfl
theorem T_176 : T 176 = ty176 := id rfl
theorem T_177 : T 177 = ty177 := id rfl
theorem T_178 : T 178 = ty178 := id rfl
theorem T_180 : T 180 = ty180 := id rfl
theorem T_181 : T 181 = ty181 := id rfl
theorem T_182 : T 182 = ty182 := id rfl
theorem T_184 : T 184 = ty184 := id rfl
theorem T_185 : T 185 = ty185 := id rfl
theorem T_186 : T 186 = ty186 := id rfl
theorem T_188 : T 188 = ty188 := id rfl
theorem T_189 : T 189 = ty189 := id rfl
theorem T_190 : T 190 = ty190 := id rfl
theorem T_191 : T 191 = ty191 := id rfl
theorem T_192 : T 192 = ty192 := id rfl
theorem T_193 : T 193 = ty193 := id rfl
theorem T_195 : T 195 = ty195 := id rfl
theorem T_196 : T 196 = ty196 := id rfl
theorem T_197 : T 197 = ty197 := id rfl
theorem T_198 : T 198 = ty198 := id rfl
theorem T_199 : T 199 = ty199 := id rfl
theorem T_200 : T 200 = ty200 := id rfl
theorem T_201 : T 201 = ty201 := id rfl
theorem T_202 : T 202 = ty202 := id rfl
theorem T_203 : T 203 = ty203 := id rfl
theorem T_204 : T 204 = ty204 := id rfl
theorem T_205 : T 205 = ty205 := id rfl
theorem T_206 : T 206 = ty206 := id rfl
theorem T_207 : T 207 = ty207 := id rfl
theorem T_208 : T 208 = ty208 := id rfl
theorem T_209 : T 209 = ty209 := id rfl
theorem T_210 : T 210 = ty210 := id rfl
theorem T_211 : T 211 = ty211 := id rfl
theorem T_212 : T 212 = ty212 := id rfl
theorem T_213 : T 213 = ty213 := id rfl
theorem T_214 : T 214 = ty214 := id rfl
theorem T_215 : T 215 = ty215 := id rfl
theorem T_216 : T 216 = ty216 := id rfl
theorem T_218 : T 218 = ty218 := id rfl
theorem T_219 : T 219 = ty219 := id rfl
theorem T_220 : T 220 = ty220 := id rfl
theorem T_221 : T 221 = ty221 := id rfl
theorem T_222 : T 222 = ty222 := id rfl
theorem T_223 : T 223 = ty223 := id rfl
theorem T_224 : T 224 = ty224 := id rfl
theorem T_225 : T 225 = ty225 := id rfl
theorem T_226 : T 226 = ty226 := id rfl
theorem T_227 : T 227 = ty227 := id rfl
theorem T_228 : T 228 = ty228 := id rfl
theorem T_229 : T 229 = ty229 := id rfl
theorem T_230 : T 230 = ty230 := id rfl
theorem T_231 : T 231 = ty231 := id rfl
theorem T_232 : T 232 = ty232 := id rfl
theorem T_233 : T 233 = ty233 := id rfl
theorem T_234 : T 234 = ty234 := id rfl
theorem T_235 : T 235 = ty235 := id rfl
theorem T_237 : T 237 = ty237 := id rfl
theorem T_238 : T 238 = ty238 := id rfl
theorem T_239 : T 239 = ty239 := id rfl
theorem T_240 : T 240 = ty240 := id rfl
theorem T_241 : T 241 = ty241 := id rfl
theorem T_242 : T 242 = ty242 := id rfl
theorem T_243 : T 243 = ty243 := id rfl
theorem T_244 : T 244 = ty244 := id rfl
theorem T_245 : T 245 = ty245 := id rfl
theorem T_246 : T 246 = ty246 := id rfl
theorem T_247 : T 247 = ty247 := id rfl
theorem T_248 : T 248 = ty248 := id rfl
theorem T_250 : T 250 = ty250 := id rfl
theorem T_252 : T 252 = ty252 := id rfl
theorem T_253 : T 253 = ty253 := id rfl
theorem T_254 : T 254 = ty254 := id rfl
theorem T_255 : T 255 = ty255 := id rfl
theorem T_256 : T 256 = ty256 := id rfl
theorem T_257 : T 257 = ty257 := id rfl
theorem T_258 : T 258 = ty258 := id rfl
theorem T_259 : T 259 = ty259 := id rfl
theorem T_260 : T 260 = ty260 := id rfl
theorem T_261 : T 261 = ty261 := id rfl
theorem T_262 : T 262 = ty262 := id rfl
theorem T_263 : T 263 = ty263 := id rfl
theorem T_264 : T 264 = ty264 := id rfl
theorem T_265 : T 265 = ty265 := id rfl
theorem T_267 : T 267 = ty267 := id rfl
theorem T_268 : T 268 = ty268 := id rfl
theorem T_269 : T 269 = ty269 := id rfl
theorem T_270 : T 270 = ty270 := id rfl
theorem T_271 : T 271 = ty271 := id rfl
theorem T_272 : T 272 = ty272 := id rfl
theorem T_273 : T 273 = ty273 := id rfl
theorem T_274 : T 274 = ty274 := id rfl
theorem T_275 : T 275 = ty275 := id rfl
theorem T_277 : T 277 = ty277 := id rfl
theorem T_278 : T 278 = ty278 := id rfl
theorem T_279 : T 279 = ty279 := id rfl
theorem T_280 : T 280 = ty280 := id rfl
theorem T_289 : T 289 = ty289 := id rfl
theorem tyOk : TyOk Tryz.prog T := tyOk_of_B (l := tys) (z := tyNone) rfl rfl (by kernel_rfl) (by decide +kernel)
end Go.Proofs.YtmndnfpobhebjaaGreat
