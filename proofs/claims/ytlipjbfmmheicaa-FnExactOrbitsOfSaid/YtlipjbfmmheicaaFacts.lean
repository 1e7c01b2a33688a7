/- Facts on the types and functions of the loaded program that the walks lean on: each is computed by the kernel. -/
import Derived.Test.YtlipjbfmmheicaaE3
import Derived.Test.YtlipjbfmmheicaaProg
namespace Go.Ab
open Go.Proofs
theorem ag_30_3 : agB Try.prog 30 3 = true := by kernel_rfl
theorem ag_33_3 : agB Try.prog 33 3 = true := by kernel_rfl
theorem ag_43_9 : agB Try.prog 43 9 = true := by kernel_rfl
theorem ag_44_9 : agB Try.prog 44 9 = true := by kernel_rfl
theorem ar_30_3_1 : arB Try.prog 30 3 1 = true := by kernel_rfl
theorem ar_33_3_1 : arB Try.prog 33 3 1 = true := by kernel_rfl
theorem ar_43_3_3 : arB Try.prog 43 3 3 = true := by kernel_rfl
theorem ar_44_3_3 : arB Try.prog 44 3 3 = true := by kernel_rfl
theorem bd_30 : Builds Try.prog 30 [.int .i64 0, .int .i64 0, .int .i64 0] (fun j => some (j * 1, 1)) := ⟨by kernel_rfl, by kernel_rfl⟩
theorem bd_33 : Builds Try.prog 33 [.int .i64 0, .int .i64 0, .int .i64 0] (fun j => some (j * 1, 1)) := ⟨by kernel_rfl, by kernel_rfl⟩
theorem bd_44 : Builds Try.prog 44 [.int .i64 0, .int .i64 0, .int .i64 0, .int .i64 0, .int .i64 0, .int .i64 0, .int .i64 0, .int .i64 0, .int .i64 0] (fun j => some (j * 3, 3)) := ⟨by kernel_rfl, by kernel_rfl⟩
theorem bo_4 : Try.prog.underlying 4 = some .bool := by kernel_rfl
theorem el_26 : Elem Try.prog 26 9 72 [.int .i64 0, .int .i64 0, .int .i64 0, .int .i64 0, .int .i64 0, .int .i64 0, .int .i64 0, .int .i64 0, .int .i64 0] := Elem.mk' (by kernel_rfl) (by kernel_rfl)
theorem el_36 : Elem Try.prog 36 1 24 [.nilsl] := Elem.mk' (by kernel_rfl) (by kernel_rfl)
theorem el_51 : Elem Try.prog 51 3 24 [.int .i64 0, .int .i64 0, .int .i64 0] := Elem.mk' (by kernel_rfl) (by kernel_rfl)
theorem el_67 : Elem Try.prog 67 1 8 [.int .i64 0] := Elem.mk' (by kernel_rfl) (by kernel_rfl)
theorem el_73 : Elem Try.prog 73 1 8 [.int .i64 0] := Elem.mk' (by kernel_rfl) (by kernel_rfl)
theorem el_93 : Elem Try.prog 93 1 24 [.nilsl] := Elem.mk' (by kernel_rfl) (by kernel_rfl)
theorem eq_33 : eqB Try.prog (.arr 3 1 (.int .i64)) 33 = true := by kernel_rfl
theorem eq_44 : eqB Try.prog (.arr 3 3 (.arr 3 1 (.int .i64))) 44 = true := by kernel_rfl
theorem fn_10 : Try.prog.funcs[10]? = some Try.f10 := by kernel_rfl
theorem fn_11 : Try.prog.funcs[11]? = some Try.f11 := by kernel_rfl
theorem fn_12 : Try.prog.funcs[12]? = some Try.f12 := by kernel_rfl
theorem fn_13 : Try.prog.funcs[13]? = some Try.f13 := by kernel_rfl
theorem fn_14 : Try.prog.funcs[14]? = some Try.f14 := by kernel_rfl
theorem fn_15 : Try.prog.funcs[15]? = some Try.f15 := by kernel_rfl
theorem fn_16 : Try.prog.funcs[16]? = some Try.f16 := by kernel_rfl
theorem fn_17 : Try.prog.funcs[17]? = some Try.f17 := by kernel_rfl
theorem fn_18 : Try.prog.funcs[18]? = some Try.f18 := by kernel_rfl
theorem fn_19 : Try.prog.funcs[19]? = some Try.f19 := by kernel_rfl
theorem fn_20 : Try.prog.funcs[20]? = some Try.f20 := by kernel_rfl
theorem fn_21 : Try.prog.funcs[21]? = some Try.f21 := by kernel_rfl
theorem fn_22 : Try.prog.funcs[22]? = some Try.f22 := by kernel_rfl
theorem fn_23 : Try.prog.funcs[23]? = some Try.f23 := by kernel_rfl
theorem fn_24 : Try.prog.funcs[24]? = some Try.f24 := by kernel_rfl
theorem fn_25 : Try.prog.funcs[25]? = some Try.f25 := by kernel_rfl
theorem fn_26 : Try.prog.funcs[26]? = some Try.f26 := by kernel_rfl
theorem fn_27 : Try.prog.funcs[27]? = some Try.f27 := by kernel_rfl
theorem fn_28 : Try.prog.funcs[28]? = some Try.f28 := by kernel_rfl
theorem fn_29 : Try.prog.funcs[29]? = some Try.f29 := by kernel_rfl
theorem fn_3 : Try.prog.funcs[3]? = some Try.f3 := by kernel_rfl
theorem fn_30 : Try.prog.funcs[30]? = some Try.f30 := by kernel_rfl
theorem fn_31 : Try.prog.funcs[31]? = some Try.f31 := by kernel_rfl
theorem fn_32 : Try.prog.funcs[32]? = some Try.f32 := by kernel_rfl
theorem fn_33 : Try.prog.funcs[33]? = some Try.f33 := by kernel_rfl
theorem fn_34 : Try.prog.funcs[34]? = some Try.f34 := by kernel_rfl
theorem fn_35 : Try.prog.funcs[35]? = some Try.f35 := by kernel_rfl
theorem fn_36 : Try.prog.funcs[36]? = some Try.f36 := by kernel_rfl
theorem fn_37 : Try.prog.funcs[37]? = some Try.f37 := by kernel_rfl
theorem fn_38 : Try.prog.funcs[38]? = some Try.f38 := by kernel_rfl
theorem fn_39 : Try.prog.funcs[39]? = some Try.f39 := by kernel_rfl
theorem fn_4 : Try.prog.funcs[4]? = some Try.f4 := by kernel_rfl
theorem fn_40 : Try.prog.funcs[40]? = some Try.f40 := by kernel_rfl
theorem fn_41 : Try.prog.funcs[41]? = some Try.f41 := by kernel_rfl
theorem fn_42 : Try.prog.funcs[42]? = some Try.f42 := by kernel_rfl
theorem fn_43 : Try.prog.funcs[43]? = some Try.f43 := by kernel_rfl
theorem fn_44 : Try.prog.funcs[44]? = some Try.f44 := by kernel_rfl
theorem fn_45 : Try.prog.funcs[45]? = some Try.f45 := by kernel_rfl
theorem fn_46 : Try.prog.funcs[46]? = some Try.f46 := by kernel_rfl
theorem fn_47 : Try.prog.funcs[47]? = some Try.f47 := by kernel_rfl
theorem fn_48 : Try.prog.funcs[48]? = some Try.f48 := by kernel_rfl
theorem fn_49 : Try.prog.funcs[49]? = some Try.f49 := by kernel_rfl
theorem fn_5 : Try.prog.funcs[5]? = some Try.f5 := by kernel_rfl
theorem fn_50 : Try.prog.funcs[50]? = some Try.f50 := by kernel_rfl
theorem fn_51 : Try.prog.funcs[51]? = some Try.f51 := by kernel_rfl
theorem fn_52 : Try.prog.funcs[52]? = some Try.f52 := by kernel_rfl
theorem fn_53 : Try.prog.funcs[53]? = some Try.f53 := by kernel_rfl
theorem fn_54 : Try.prog.funcs[54]? = some Try.f54 := by kernel_rfl
theorem fn_55 : Try.prog.funcs[55]? = some Try.f55 := by kernel_rfl
theorem fn_56 : Try.prog.funcs[56]? = some Try.f56 := by kernel_rfl
theorem fn_57 : Try.prog.funcs[57]? = some Try.f57 := by kernel_rfl
theorem fn_58 : Try.prog.funcs[58]? = some Try.f58 := by kernel_rfl
theorem fn_59 : Try.prog.funcs[59]? = some Try.f59 := by kernel_rfl
theorem fn_6 : Try.prog.funcs[6]? = some Try.f6 := by kernel_rfl
theorem fn_60 : Try.prog.funcs[60]? = some Try.f60 := by kernel_rfl
theorem fn_61 : Try.prog.funcs[61]? = some Try.f61 := by kernel_rfl
theorem fn_62 : Try.prog.funcs[62]? = some Try.f62 := by kernel_rfl
theorem fn_63 : Try.prog.funcs[63]? = some Try.f63 := by kernel_rfl
theorem fn_64 : Try.prog.funcs[64]? = some Try.f64 := by kernel_rfl
theorem fn_65 : Try.prog.funcs[65]? = some Try.f65 := by kernel_rfl
theorem fn_66 : Try.prog.funcs[66]? = some Try.f66 := by kernel_rfl
theorem fn_67 : Try.prog.funcs[67]? = some Try.f67 := by kernel_rfl
theorem fn_68 : Try.prog.funcs[68]? = some Try.f68 := by kernel_rfl
theorem fn_69 : Try.prog.funcs[69]? = some Try.f69 := by kernel_rfl
theorem fn_7 : Try.prog.funcs[7]? = some Try.f7 := by kernel_rfl
theorem fn_70 : Try.prog.funcs[70]? = some Try.f70 := by kernel_rfl
theorem fn_71 : Try.prog.funcs[71]? = some Try.f71 := by kernel_rfl
theorem fn_72 : Try.prog.funcs[72]? = some Try.f72 := by kernel_rfl
theorem fn_73 : Try.prog.funcs[73]? = some Try.f73 := by kernel_rfl
theorem fn_74 : Try.prog.funcs[74]? = some Try.f74 := by kernel_rfl
theorem fn_75 : Try.prog.funcs[75]? = some Try.f75 := by kernel_rfl
theorem fn_76 : Try.prog.funcs[76]? = some Try.f76 := by kernel_rfl
theorem fn_77 : Try.prog.funcs[77]? = some Try.f77 := by kernel_rfl
theorem fn_78 : Try.prog.funcs[78]? = some Try.f78 := by kernel_rfl
theorem fn_79 : Try.prog.funcs[79]? = some Try.f79 := by kernel_rfl
theorem fn_8 : Try.prog.funcs[8]? = some Try.f8 := by kernel_rfl
theorem fn_80 : Try.prog.funcs[80]? = some Try.f80 := by kernel_rfl
theorem fn_81 : Try.prog.funcs[81]? = some Try.f81 := by kernel_rfl
theorem fn_82 : Try.prog.funcs[82]? = some Try.f82 := by kernel_rfl
theorem fn_83 : Try.prog.funcs[83]? = some Try.f83 := by kernel_rfl
theorem fn_84 : Try.prog.funcs[84]? = some Try.f84 := by kernel_rfl
theorem fn_85 : Try.prog.funcs[85]? = some Try.f85 := by kernel_rfl
theorem fn_9 : Try.prog.funcs[9]? = some Try.f9 := by kernel_rfl
theorem is_22 : isSl Try.prog 22 = true := by kernel_rfl
theorem is_26 : isSl Try.prog 26 = true := by kernel_rfl
theorem is_36 : isSl Try.prog 36 = true := by kernel_rfl
theorem is_51 : isSl Try.prog 51 = true := by kernel_rfl
theorem is_67 : isSl Try.prog 67 = true := by kernel_rfl
theorem is_73 : isSl Try.prog 73 = true := by kernel_rfl
theorem is_93 : isSl Try.prog 93 = true := by kernel_rfl
theorem it_3 : Try.prog.underlying 3 = some (.int .i64) := by kernel_rfl
theorem mb_49 : mapB Try.prog (.arr 3 3 (.arr 3 1 (.int .i64))) 49 = true := by kernel_rfl
theorem mb_66 : mapB Try.prog (.arr 3 1 (.int .i64)) 66 = true := by kernel_rfl
theorem mx_0 : Try.prog.follows .mixedOrders = true := by kernel_rfl
theorem mz_49 : zeroA Try.prog 49 = some (.bool false) := by kernel_rfl
theorem mz_66 : zeroA Try.prog 66 = some (.int .i64 0) := by kernel_rfl
theorem nm_10 : (Try.f10.name == "runtime.NumGoroutine") = false := by kernel_rfl
theorem nm_11 : (Try.f11.name == "runtime.NumGoroutine") = false := by kernel_rfl
theorem nm_12 : (Try.f12.name == "runtime.NumGoroutine") = false := by kernel_rfl
theorem nm_13 : (Try.f13.name == "runtime.NumGoroutine") = false := by kernel_rfl
theorem nm_14 : (Try.f14.name == "runtime.NumGoroutine") = false := by kernel_rfl
theorem nm_15 : (Try.f15.name == "runtime.NumGoroutine") = false := by kernel_rfl
theorem nm_16 : (Try.f16.name == "runtime.NumGoroutine") = false := by kernel_rfl
theorem nm_17 : (Try.f17.name == "runtime.NumGoroutine") = false := by kernel_rfl
theorem nm_18 : (Try.f18.name == "runtime.NumGoroutine") = false := by kernel_rfl
theorem nm_19 : (Try.f19.name == "runtime.NumGoroutine") = false := by kernel_rfl
theorem nm_20 : (Try.f20.name == "runtime.NumGoroutine") = false := by kernel_rfl
theorem nm_21 : (Try.f21.name == "runtime.NumGoroutine") = false := by kernel_rfl
theorem nm_22 : (Try.f22.name == "runtime.NumGoroutine") = false := by kernel_rfl
theorem nm_23 : (Try.f23.name == "runtime.NumGoroutine") = false := by kernel_rfl
theorem nm_24 : (Try.f24.name == "runtime.NumGoroutine") = false := by kernel_rfl
theorem nm_25 : (Try.f25.name == "runtime.NumGoroutine") = false := by kernel_rfl
theorem nm_26 : (Try.f26.name == "runtime.NumGoroutine") = false := by kernel_rfl
theorem nm_27 : (Try.f27.name == "runtime.NumGoroutine") = false := by kernel_rfl
theorem nm_28 : (Try.f28.name == "runtime.NumGoroutine") = false := by kernel_rfl
theorem nm_29 : (Try.f29.name == "runtime.NumGoroutine") = false := by kernel_rfl
theorem nm_3 : (Try.f3.name == "runtime.NumGoroutine") = false := by kernel_rfl
theorem nm_30 : (Try.f30.name == "runtime.NumGoroutine") = false := by kernel_rfl
theorem nm_31 : (Try.f31.name == "runtime.NumGoroutine") = false := by kernel_rfl
theorem nm_32 : (Try.f32.name == "runtime.NumGoroutine") = false := by kernel_rfl
theorem nm_33 : (Try.f33.name == "runtime.NumGoroutine") = false := by kernel_rfl
theorem nm_34 : (Try.f34.name == "runtime.NumGoroutine") = false := by kernel_rfl
theorem nm_35 : (Try.f35.name == "runtime.NumGoroutine") = false := by kernel_rfl
theorem nm_36 : (Try.f36.name == "runtime.NumGoroutine") = false := by kernel_rfl
theorem nm_37 : (Try.f37.name == "runtime.NumGoroutine") = false := by kernel_rfl
theorem nm_38 : (Try.f38.name == "runtime.NumGoroutine") = false := by kernel_rfl
theorem nm_39 : (Try.f39.name == "runtime.NumGoroutine") = false := by kernel_rfl
theorem nm_4 : (Try.f4.name == "runtime.NumGoroutine") = false := by kernel_rfl
theorem nm_40 : (Try.f40.name == "runtime.NumGoroutine") = false := by kernel_rfl
theorem nm_41 : (Try.f41.name == "runtime.NumGoroutine") = false := by kernel_rfl
theorem nm_42 : (Try.f42.name == "runtime.NumGoroutine") = false := by kernel_rfl
theorem nm_43 : (Try.f43.name == "runtime.NumGoroutine") = false := by kernel_rfl
theorem nm_44 : (Try.f44.name == "runtime.NumGoroutine") = false := by kernel_rfl
theorem nm_45 : (Try.f45.name == "runtime.NumGoroutine") = false := by kernel_rfl
theorem nm_46 : (Try.f46.name == "runtime.NumGoroutine") = false := by kernel_rfl
theorem nm_47 : (Try.f47.name == "runtime.NumGoroutine") = false := by kernel_rfl
theorem nm_48 : (Try.f48.name == "runtime.NumGoroutine") = false := by kernel_rfl
theorem nm_49 : (Try.f49.name == "runtime.NumGoroutine") = false := by kernel_rfl
theorem nm_5 : (Try.f5.name == "runtime.NumGoroutine") = false := by kernel_rfl
theorem nm_50 : (Try.f50.name == "runtime.NumGoroutine") = false := by kernel_rfl
theorem nm_51 : (Try.f51.name == "runtime.NumGoroutine") = false := by kernel_rfl
theorem nm_52 : (Try.f52.name == "runtime.NumGoroutine") = false := by kernel_rfl
theorem nm_53 : (Try.f53.name == "runtime.NumGoroutine") = false := by kernel_rfl
theorem nm_54 : (Try.f54.name == "runtime.NumGoroutine") = false := by kernel_rfl
theorem nm_55 : (Try.f55.name == "runtime.NumGoroutine") = false := by kernel_rfl
theorem nm_56 : (Try.f56.name == "runtime.NumGoroutine") = false := by kernel_rfl
theorem nm_57 : (Try.f57.name == "runtime.NumGoroutine") = false := by kernel_rfl
theorem nm_58 : (Try.f58.name == "runtime.NumGoroutine") = false := by kernel_rfl
theorem nm_59 : (Try.f59.name == "runtime.NumGoroutine") = false := by kernel_rfl
theorem nm_6 : (Try.f6.name == "runtime.NumGoroutine") = false := by kernel_rfl
theorem nm_60 : (Try.f60.name == "runtime.NumGoroutine") = false := by kernel_rfl
theorem nm_61 : (Try.f61.name == "runtime.NumGoroutine") = false := by kernel_rfl
theorem nm_62 : (Try.f62.name == "runtime.NumGoroutine") = false := by kernel_rfl
theorem nm_63 : (Try.f63.name == "runtime.NumGoroutine") = false := by kernel_rfl
theorem nm_64 : (Try.f64.name == "runtime.NumGoroutine") = false := by kernel_rfl
theorem nm_65 : (Try.f65.name == "runtime.NumGoroutine") = false := by kernel_rfl
theorem nm_66 : (Try.f66.name == "runtime.NumGoroutine") = false := by kernel_rfl
theorem nm_67 : (Try.f67.name == "runtime.NumGoroutine") = false := by kernel_rfl
theorem nm_68 : (Try.f68.name == "runtime.NumGoroutine") = false := by kernel_rfl
theorem nm_69 : (Try.f69.name == "runtime.NumGoroutine") = false := by kernel_rfl
theorem nm_7 : (Try.f7.name == "runtime.NumGoroutine") = false := by kernel_rfl
theorem nm_70 : (Try.f70.name == "runtime.NumGoroutine") = false := by kernel_rfl
theorem nm_71 : (Try.f71.name == "runtime.NumGoroutine") = false := by kernel_rfl
theorem nm_72 : (Try.f72.name == "runtime.NumGoroutine") = false := by kernel_rfl
theorem nm_73 : (Try.f73.name == "runtime.NumGoroutine") = false := by kernel_rfl
theorem nm_74 : (Try.f74.name == "runtime.NumGoroutine") = false := by kernel_rfl
theorem nm_75 : (Try.f75.name == "runtime.NumGoroutine") = false := by kernel_rfl
theorem nm_76 : (Try.f76.name == "runtime.NumGoroutine") = false := by kernel_rfl
theorem nm_77 : (Try.f77.name == "runtime.NumGoroutine") = false := by kernel_rfl
theorem nm_78 : (Try.f78.name == "runtime.NumGoroutine") = false := by kernel_rfl
theorem nm_79 : (Try.f79.name == "runtime.NumGoroutine") = false := by kernel_rfl
theorem nm_8 : (Try.f8.name == "runtime.NumGoroutine") = false := by kernel_rfl
theorem nm_80 : (Try.f80.name == "runtime.NumGoroutine") = false := by kernel_rfl
theorem nm_81 : (Try.f81.name == "runtime.NumGoroutine") = false := by kernel_rfl
theorem nm_82 : (Try.f82.name == "runtime.NumGoroutine") = false := by kernel_rfl
theorem nm_83 : (Try.f83.name == "runtime.NumGoroutine") = false := by kernel_rfl
theorem nm_84 : (Try.f84.name == "runtime.NumGoroutine") = false := by kernel_rfl
theorem nm_85 : (Try.f85.name == "runtime.NumGoroutine") = false := by kernel_rfl
theorem nm_9 : (Try.f9.name == "runtime.NumGoroutine") = false := by kernel_rfl
theorem sc_2 : scB Try.prog 2 = true := by kernel_rfl
theorem sc_26 : scB Try.prog 26 = true := by kernel_rfl
theorem sc_3 : scB Try.prog 3 = true := by kernel_rfl
theorem sc_51 : scB Try.prog 51 = true := by kernel_rfl
theorem sc_73 : scB Try.prog 73 = true := by kernel_rfl
theorem sl_22_9 : slB Try.prog 22 9 = true := by kernel_rfl
theorem sl_26_9 : slB Try.prog 26 9 = true := by kernel_rfl
theorem sl_36_1 : slB Try.prog 36 1 = true := by kernel_rfl
theorem sl_51_3 : slB Try.prog 51 3 = true := by kernel_rfl
theorem sl_67_1 : slB Try.prog 67 1 = true := by kernel_rfl
theorem sl_73_1 : slB Try.prog 73 1 = true := by kernel_rfl
theorem sl_93_1 : slB Try.prog 93 1 = true := by kernel_rfl
theorem sz_2_1 : szB Try.prog 2 1 = true := by kernel_rfl
theorem sz_30_3 : szB Try.prog 30 3 = true := by kernel_rfl
theorem sz_33_3 : szB Try.prog 33 3 = true := by kernel_rfl
theorem sz_3_1 : szB Try.prog 3 1 = true := by kernel_rfl
theorem sz_44_9 : szB Try.prog 44 9 = true := by kernel_rfl
theorem zr_30 : zeroOf Try.prog 30 = some [.int .i64 0, .int .i64 0, .int .i64 0] := by kernel_rfl
theorem zr_33 : zeroOf Try.prog 33 = some [.int .i64 0, .int .i64 0, .int .i64 0] := by kernel_rfl
theorem zr_44 : zeroOf Try.prog 44 = some [.int .i64 0, .int .i64 0, .int .i64 0, .int .i64 0, .int .i64 0, .int .i64 0, .int .i64 0, .int .i64 0, .int .i64 0] := by kernel_rfl
end Go.Ab
