/- Facts on the types and functions of the loaded program that the walks lean on: each is computed by the kernel. -/
import Derived.Test.YtlaklcbmoobfnaaAb11
import Derived.Test.YtlaklcbmoobfnaaProg
namespace Go.Ab
open Go.Proofs
theorem ag_32_3 : agB Try.prog 32 3 = true := by kernel_rfl
theorem ag_33_3 : agB Try.prog 33 3 = true := by kernel_rfl
theorem ar_31_3_1 : arB Try.prog 31 3 1 = true := by kernel_rfl
theorem ar_32_3_1 : arB Try.prog 32 3 1 = true := by kernel_rfl
theorem ar_33_3_1 : arB Try.prog 33 3 1 = true := by kernel_rfl
theorem bd_32 : Builds Try.prog 32 [.int .i64 0, .int .i64 0, .int .i64 0] (fun j => some (j * 1, 1)) := ⟨by kernel_rfl, by kernel_rfl⟩
theorem el_26 : Elem Try.prog 26 3 24 [.int .i64 0, .int .i64 0, .int .i64 0] := Elem.mk' (by kernel_rfl) (by kernel_rfl)
theorem el_28 : Elem Try.prog 28 1 24 [.nilsl] := Elem.mk' (by kernel_rfl) (by kernel_rfl)
theorem el_29 : Elem Try.prog 29 1 8 [.int .i64 0] := Elem.mk' (by kernel_rfl) (by kernel_rfl)
theorem fn_10 : Try.prog.funcs[10]? = some Try.f10 := by kernel_rfl
theorem fn_11 : Try.prog.funcs[11]? = some Try.f11 := by kernel_rfl
theorem fn_12 : Try.prog.funcs[12]? = some Try.f12 := by kernel_rfl
theorem fn_13 : Try.prog.funcs[13]? = some Try.f13 := by kernel_rfl
theorem fn_14 : Try.prog.funcs[14]? = some Try.f14 := by kernel_rfl
theorem fn_15 : Try.prog.funcs[15]? = some Try.f15 := by kernel_rfl
theorem fn_16 : Try.prog.funcs[16]? = some Try.f16 := by kernel_rfl
theorem fn_3 : Try.prog.funcs[3]? = some Try.f3 := by kernel_rfl
theorem fn_4 : Try.prog.funcs[4]? = some Try.f4 := by kernel_rfl
theorem fn_5 : Try.prog.funcs[5]? = some Try.f5 := by kernel_rfl
theorem fn_6 : Try.prog.funcs[6]? = some Try.f6 := by kernel_rfl
theorem fn_7 : Try.prog.funcs[7]? = some Try.f7 := by kernel_rfl
theorem fn_8 : Try.prog.funcs[8]? = some Try.f8 := by kernel_rfl
theorem fn_9 : Try.prog.funcs[9]? = some Try.f9 := by kernel_rfl
theorem is_26 : isSl Try.prog 26 = true := by kernel_rfl
theorem is_28 : isSl Try.prog 28 = true := by kernel_rfl
theorem is_29 : isSl Try.prog 29 = true := by kernel_rfl
theorem mx_0 : Try.prog.follows .mixedOrders = true := by kernel_rfl
theorem nm_10 : (Try.f10.name == "runtime.NumGoroutine") = false := by kernel_rfl
theorem nm_11 : (Try.f11.name == "runtime.NumGoroutine") = false := by kernel_rfl
theorem nm_12 : (Try.f12.name == "runtime.NumGoroutine") = false := by kernel_rfl
theorem nm_13 : (Try.f13.name == "runtime.NumGoroutine") = false := by kernel_rfl
theorem nm_14 : (Try.f14.name == "runtime.NumGoroutine") = false := by kernel_rfl
theorem nm_15 : (Try.f15.name == "runtime.NumGoroutine") = false := by kernel_rfl
theorem nm_16 : (Try.f16.name == "runtime.NumGoroutine") = false := by kernel_rfl
theorem nm_3 : (Try.f3.name == "runtime.NumGoroutine") = false := by kernel_rfl
theorem nm_4 : (Try.f4.name == "runtime.NumGoroutine") = false := by kernel_rfl
theorem nm_5 : (Try.f5.name == "runtime.NumGoroutine") = false := by kernel_rfl
theorem nm_6 : (Try.f6.name == "runtime.NumGoroutine") = false := by kernel_rfl
theorem nm_7 : (Try.f7.name == "runtime.NumGoroutine") = false := by kernel_rfl
theorem nm_8 : (Try.f8.name == "runtime.NumGoroutine") = false := by kernel_rfl
theorem nm_9 : (Try.f9.name == "runtime.NumGoroutine") = false := by kernel_rfl
theorem sc_2 : scB Try.prog 2 = true := by kernel_rfl
theorem sc_29 : scB Try.prog 29 = true := by kernel_rfl
theorem sl_26_3 : slB Try.prog 26 3 = true := by kernel_rfl
theorem sl_28_1 : slB Try.prog 28 1 = true := by kernel_rfl
theorem sl_29_1 : slB Try.prog 29 1 = true := by kernel_rfl
theorem sz_29_1 : szB Try.prog 29 1 = true := by kernel_rfl
theorem sz_2_1 : szB Try.prog 2 1 = true := by kernel_rfl
theorem sz_32_3 : szB Try.prog 32 3 = true := by kernel_rfl
theorem zr_32 : zeroOf Try.prog 32 = some [.int .i64 0, .int .i64 0, .int .i64 0] := by kernel_rfl
end Go.Ab
