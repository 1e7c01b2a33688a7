/- Facts on the types and functions of the loaded program that the walks lean on: each is computed by the kernel. -/
import Derived.Test.YtkffdmmpemonaaaAb16
import Derived.Test.YtkffdmmpemonaaaProg
namespace Go.Ab
open Go.Proofs
theorem ag_33_3 : agB Try.prog 33 3 = true := by kernel_rfl
theorem ag_34_3 : agB Try.prog 34 3 = true := by kernel_rfl
theorem ag_37_3 : agB Try.prog 37 3 = true := by kernel_rfl
theorem ar_33_3_1 : arB Try.prog 33 3 1 = true := by kernel_rfl
theorem ar_37_3_1 : arB Try.prog 37 3 1 = true := by kernel_rfl
theorem bd_37 : Builds Try.prog 37 [.int .i64 0, .int .i64 0, .int .i64 0] (fun j => some (j * 1, 1)) := ⟨by kernel_rfl, by kernel_rfl⟩
theorem el_24 : Elem Try.prog 24 3 24 [.int .i64 0, .int .i64 0, .int .i64 0] := Elem.mk' (by kernel_rfl) (by kernel_rfl)
theorem el_42 : Elem Try.prog 42 1 8 [.int .i64 0] := Elem.mk' (by kernel_rfl) (by kernel_rfl)
theorem el_59 : Elem Try.prog 59 1 8 [.int .i64 0] := Elem.mk' (by kernel_rfl) (by kernel_rfl)
theorem fn_10 : Try.prog.funcs[10]? = some Try.f10 := by kernel_rfl
theorem fn_11 : Try.prog.funcs[11]? = some Try.f11 := by kernel_rfl
theorem fn_12 : Try.prog.funcs[12]? = some Try.f12 := by kernel_rfl
theorem fn_13 : Try.prog.funcs[13]? = some Try.f13 := by kernel_rfl
theorem fn_14 : Try.prog.funcs[14]? = some Try.f14 := by kernel_rfl
theorem fn_15 : Try.prog.funcs[15]? = some Try.f15 := by kernel_rfl
theorem fn_16 : Try.prog.funcs[16]? = some Try.f16 := by kernel_rfl
theorem fn_17 : Try.prog.funcs[17]? = some Try.f17 := by kernel_rfl
theorem fn_18 : Try.prog.funcs[18]? = some Try.f18 := by kernel_rfl
theorem fn_19 : Try.prog.funcs[19]? = some Try.f19 := by kernel_rfl
theorem fn_20 : Try.prog.funcs[20]? = some Try.f20 := by kernel_rfl
theorem fn_21 : Try.prog.funcs[21]? = some Try.f21 := by kernel_rfl
theorem fn_22 : Try.prog.funcs[22]? = some Try.f22 := by kernel_rfl
theorem fn_23 : Try.prog.funcs[23]? = some Try.f23 := by kernel_rfl
theorem fn_24 : Try.prog.funcs[24]? = some Try.f24 := by kernel_rfl
theorem fn_25 : Try.prog.funcs[25]? = some Try.f25 := by kernel_rfl
theorem fn_26 : Try.prog.funcs[26]? = some Try.f26 := by kernel_rfl
theorem fn_27 : Try.prog.funcs[27]? = some Try.f27 := by kernel_rfl
theorem fn_28 : Try.prog.funcs[28]? = some Try.f28 := by kernel_rfl
theorem fn_29 : Try.prog.funcs[29]? = some Try.f29 := by kernel_rfl
theorem fn_3 : Try.prog.funcs[3]? = some Try.f3 := by kernel_rfl
theorem fn_30 : Try.prog.funcs[30]? = some Try.f30 := by kernel_rfl
theorem fn_31 : Try.prog.funcs[31]? = some Try.f31 := by kernel_rfl
theorem fn_32 : Try.prog.funcs[32]? = some Try.f32 := by kernel_rfl
theorem fn_33 : Try.prog.funcs[33]? = some Try.f33 := by kernel_rfl
theorem fn_34 : Try.prog.funcs[34]? = some Try.f34 := by kernel_rfl
theorem fn_35 : Try.prog.funcs[35]? = some Try.f35 := by kernel_rfl
theorem fn_36 : Try.prog.funcs[36]? = some Try.f36 := by kernel_rfl
theorem fn_37 : Try.prog.funcs[37]? = some Try.f37 := by kernel_rfl
theorem fn_38 : Try.prog.funcs[38]? = some Try.f38 := by kernel_rfl
theorem fn_39 : Try.prog.funcs[39]? = some Try.f39 := by kernel_rfl
theorem fn_4 : Try.prog.funcs[4]? = some Try.f4 := by kernel_rfl
theorem fn_40 : Try.prog.funcs[40]? = some Try.f40 := by kernel_rfl
theorem fn_41 : Try.prog.funcs[41]? = some Try.f41 := by kernel_rfl
theorem fn_42 : Try.prog.funcs[42]? = some Try.f42 := by kernel_rfl
theorem fn_43 : Try.prog.funcs[43]? = some Try.f43 := by kernel_rfl
theorem fn_44 : Try.prog.funcs[44]? = some Try.f44 := by kernel_rfl
theorem fn_45 : Try.prog.funcs[45]? = some Try.f45 := by kernel_rfl
theorem fn_46 : Try.prog.funcs[46]? = some Try.f46 := by kernel_rfl
theorem fn_47 : Try.prog.funcs[47]? = some Try.f47 := by kernel_rfl
theorem fn_48 : Try.prog.funcs[48]? = some Try.f48 := by kernel_rfl
theorem fn_49 : Try.prog.funcs[49]? = some Try.f49 := by kernel_rfl
theorem fn_5 : Try.prog.funcs[5]? = some Try.f5 := by kernel_rfl
theorem fn_50 : Try.prog.funcs[50]? = some Try.f50 := by kernel_rfl
theorem fn_51 : Try.prog.funcs[51]? = some Try.f51 := by kernel_rfl
theorem fn_6 : Try.prog.funcs[6]? = some Try.f6 := by kernel_rfl
theorem fn_7 : Try.prog.funcs[7]? = some Try.f7 := by kernel_rfl
theorem fn_8 : Try.prog.funcs[8]? = some Try.f8 := by kernel_rfl
theorem fn_9 : Try.prog.funcs[9]? = some Try.f9 := by kernel_rfl
theorem is_22 : isSl Try.prog 22 = true := by kernel_rfl
theorem is_24 : isSl Try.prog 24 = true := by kernel_rfl
theorem is_42 : isSl Try.prog 42 = true := by kernel_rfl
theorem is_59 : isSl Try.prog 59 = true := by kernel_rfl
theorem mx_0 : Try.prog.follows .mixedOrders = true := by kernel_rfl
theorem nm_10 : (Try.f10.name == "runtime.NumGoroutine") = false := by kernel_rfl
theorem nm_11 : (Try.f11.name == "runtime.NumGoroutine") = false := by kernel_rfl
theorem nm_12 : (Try.f12.name == "runtime.NumGoroutine") = false := by kernel_rfl
theorem nm_13 : (Try.f13.name == "runtime.NumGoroutine") = false := by kernel_rfl
theorem nm_14 : (Try.f14.name == "runtime.NumGoroutine") = false := by kernel_rfl
theorem nm_15 : (Try.f15.name == "runtime.NumGoroutine") = false := by kernel_rfl
theorem nm_16 : (Try.f16.name == "runtime.NumGoroutine") = false := by kernel_rfl
theorem nm_17 : (Try.f17.name == "runtime.NumGoroutine") = false := by kernel_rfl
theorem nm_18 : (Try.f18.name == "runtime.NumGoroutine") = false := by kernel_rfl
theorem nm_19 : (Try.f19.name == "runtime.NumGoroutine") = false := by kernel_rfl
theorem nm_20 : (Try.f20.name == "runtime.NumGoroutine") = false := by kernel_rfl
theorem nm_21 : (Try.f21.name == "runtime.NumGoroutine") = false := by kernel_rfl
theorem nm_22 : (Try.f22.name == "runtime.NumGoroutine") = false := by kernel_rfl
theorem nm_23 : (Try.f23.name == "runtime.NumGoroutine") = false := by kernel_rfl
theorem nm_24 : (Try.f24.name == "runtime.NumGoroutine") = false := by kernel_rfl
theorem nm_25 : (Try.f25.name == "runtime.NumGoroutine") = false := by kernel_rfl
theorem nm_26 : (Try.f26.name == "runtime.NumGoroutine") = false := by kernel_rfl
theorem nm_27 : (Try.f27.name == "runtime.NumGoroutine") = false := by kernel_rfl
theorem nm_28 : (Try.f28.name == "runtime.NumGoroutine") = false := by kernel_rfl
theorem nm_29 : (Try.f29.name == "runtime.NumGoroutine") = false := by kernel_rfl
theorem nm_3 : (Try.f3.name == "runtime.NumGoroutine") = false := by kernel_rfl
theorem nm_30 : (Try.f30.name == "runtime.NumGoroutine") = false := by kernel_rfl
theorem nm_31 : (Try.f31.name == "runtime.NumGoroutine") = false := by kernel_rfl
theorem nm_32 : (Try.f32.name == "runtime.NumGoroutine") = false := by kernel_rfl
theorem nm_33 : (Try.f33.name == "runtime.NumGoroutine") = false := by kernel_rfl
theorem nm_34 : (Try.f34.name == "runtime.NumGoroutine") = false := by kernel_rfl
theorem nm_35 : (Try.f35.name == "runtime.NumGoroutine") = false := by kernel_rfl
theorem nm_36 : (Try.f36.name == "runtime.NumGoroutine") = false := by kernel_rfl
theorem nm_37 : (Try.f37.name == "runtime.NumGoroutine") = false := by kernel_rfl
theorem nm_38 : (Try.f38.name == "runtime.NumGoroutine") = false := by kernel_rfl
theorem nm_39 : (Try.f39.name == "runtime.NumGoroutine") = false := by kernel_rfl
theorem nm_4 : (Try.f4.name == "runtime.NumGoroutine") = false := by kernel_rfl
theorem nm_40 : (Try.f40.name == "runtime.NumGoroutine") = false := by kernel_rfl
theorem nm_41 : (Try.f41.name == "runtime.NumGoroutine") = false := by kernel_rfl
theorem nm_42 : (Try.f42.name == "runtime.NumGoroutine") = false := by kernel_rfl
theorem nm_43 : (Try.f43.name == "runtime.NumGoroutine") = false := by kernel_rfl
theorem nm_44 : (Try.f44.name == "runtime.NumGoroutine") = false := by kernel_rfl
theorem nm_45 : (Try.f45.name == "runtime.NumGoroutine") = false := by kernel_rfl
theorem nm_46 : (Try.f46.name == "runtime.NumGoroutine") = false := by kernel_rfl
theorem nm_47 : (Try.f47.name == "runtime.NumGoroutine") = false := by kernel_rfl
theorem nm_48 : (Try.f48.name == "runtime.NumGoroutine") = false := by kernel_rfl
theorem nm_49 : (Try.f49.name == "runtime.NumGoroutine") = false := by kernel_rfl
theorem nm_5 : (Try.f5.name == "runtime.NumGoroutine") = false := by kernel_rfl
theorem nm_50 : (Try.f50.name == "runtime.NumGoroutine") = false := by kernel_rfl
theorem nm_51 : (Try.f51.name == "runtime.NumGoroutine") = false := by kernel_rfl
theorem nm_6 : (Try.f6.name == "runtime.NumGoroutine") = false := by kernel_rfl
theorem nm_7 : (Try.f7.name == "runtime.NumGoroutine") = false := by kernel_rfl
theorem nm_8 : (Try.f8.name == "runtime.NumGoroutine") = false := by kernel_rfl
theorem nm_9 : (Try.f9.name == "runtime.NumGoroutine") = false := by kernel_rfl
theorem sc_2 : scB Try.prog 2 = true := by kernel_rfl
theorem sc_24 : scB Try.prog 24 = true := by kernel_rfl
theorem sc_3 : scB Try.prog 3 = true := by kernel_rfl
theorem sl_22_3 : slB Try.prog 22 3 = true := by kernel_rfl
theorem sl_24_3 : slB Try.prog 24 3 = true := by kernel_rfl
theorem sl_42_1 : slB Try.prog 42 1 = true := by kernel_rfl
theorem sl_59_1 : slB Try.prog 59 1 = true := by kernel_rfl
theorem sz_2_1 : szB Try.prog 2 1 = true := by kernel_rfl
theorem sz_33_3 : szB Try.prog 33 3 = true := by kernel_rfl
theorem sz_34_3 : szB Try.prog 34 3 = true := by kernel_rfl
theorem sz_37_3 : szB Try.prog 37 3 = true := by kernel_rfl
theorem zr_33 : zeroOf Try.prog 33 = some [.int .i64 0, .int .i64 0, .int .i64 0] := by kernel_rfl
theorem zr_34 : zeroOf Try.prog 34 = some [.int .i64 0, .int .i64 0, .int .i64 0] := by kernel_rfl
theorem zr_37 : zeroOf Try.prog 37 = some [.int .i64 0, .int .i64 0, .int .i64 0] := by kernel_rfl
end Go.Ab
