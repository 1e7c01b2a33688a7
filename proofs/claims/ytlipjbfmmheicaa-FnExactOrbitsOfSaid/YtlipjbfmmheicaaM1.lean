/- The walks of the plain law's maps: determinant, unit, normal form, what is a map. -/
import Derived.Test.YtlipjbfmmheicaaP11
import Derived.Test.YtlipjbfmmheicaaL4
namespace Go.Ab
open Go.Proofs
theorem c_l02Det (p : Int) (m : M3) (hp : IsP p) (hm : m.sm) : Pure Try.prog 70 [.int .i64 p, m.av] (.int .i64 (detM m % p)) := by
  refine Pure.body 1 (n := 13) (fn := Try.f70) (c := Try.f70.body.get!) fn_70 rfl nm_70 rfl rfl fun C => ?_
  refine WP.seq (WP.region (l := [0, 1]) rfl ?_)
  refine Run.box 0 rfl rfl rfl (.at rfl) rfl (fun b3 => ?_)
  refine Run.assign rfl rfl rfl (.at rfl) ?_
  refine Run.nil ?_
  refine WP.seq (WP.region (l := [0, 1, 2, 3, 4, 5, 6, 7, 8]) rfl ?_)
  refine Run.move rfl rfl rfl (.at rfl) ?_
  refine Run.idx_arr (j := 0) rfl rfl rfl (.at rfl) (.at rfl) ar_44_3_3 (by rfl) (by decide) ?_
  refine Run.loads rfl rfl rfl (.at rfl) (place_adr rfl) ag_30_3 rfl rfl ?_
  refine Run.idx_arr (j := 1) rfl rfl rfl (.at rfl) (.at rfl) ar_44_3_3 (by rfl) (by decide) ?_
  refine Run.loads rfl rfl rfl (.at rfl) (place_adr rfl) ag_30_3 rfl rfl ?_
  refine Run.idx_arr (j := 2) rfl rfl rfl (.at rfl) (.at rfl) ar_44_3_3 (by rfl) (by decide) ?_
  refine Run.loads rfl rfl rfl (.at rfl) (place_adr rfl) ag_30_3 rfl rfl ?_
  refine Run.call rfl rfl rfl (.at rfl) (.cons (.at rfl) (.cons (.at rfl) (.cons (.at rfl) (.cons (.at rfl) .nil)))) (c_l01Det p m.r0 m.r1 m.r2 hp hm.1 hm.2.1 hm.2.2) ?_
  refine Run.assign rfl rfl rfl (.at rfl) ?_
  refine Run.nil ?_
  refine WP.ret ?_
  exact Ends.pure (.tmp rfl .nil) rfl
theorem c_l02Unit : Pure Try.prog 21 [] unitM.av := by
  refine Pure.body 1 (n := 5) (fn := Try.f21) (c := Try.f21.body.get!) fn_21 rfl nm_21 rfl rfl fun C => ?_
  refine WP.seq (WP.region (l := [0]) rfl ?_)
  refine Run.alloc 0 rfl rfl rfl zr_44 (fun b0 => ?_)
  refine Run.nil ?_
  refine WP.seq (WP.region (l := [0, 1, 2, 3, 4]) rfl ?_)
  refine Run.build rfl rfl rfl bd_30 (.cons (.at rfl) rfl (.cons (.at rfl) rfl (.cons (.at rfl) rfl .nil))) rfl ?_
  refine Run.build rfl rfl rfl bd_30 (.cons (.at rfl) rfl (.cons (.at rfl) rfl (.cons (.at rfl) rfl .nil))) rfl ?_
  refine Run.build rfl rfl rfl bd_30 (.cons (.at rfl) rfl (.cons (.at rfl) rfl (.cons (.at rfl) rfl .nil))) rfl ?_
  refine Run.build rfl rfl rfl bd_44 (.cons (.at rfl) rfl (.cons (.at rfl) rfl (.cons (.at rfl) rfl .nil))) rfl ?_
  refine Run.store (j := 0) rfl rfl (.at rfl) rfl rfl (.at rfl) sz_44_9 rfl rfl (by first | decide | exact Nat.le_of_ble_eq_true rfl) rfl ?_
  refine Run.nil ?_
  refine WP.ret ?_
  exact Ends.pure (.cells rfl (place_adr rfl) ag_44_9 rfl rfl .nil) rfl
theorem c_unit : Pure Try.prog 26 [] unitM.av := by
  refine Pure.body 1 (n := 5) (fn := Try.f26) (c := Try.f26.body.get!) fn_26 rfl nm_26 rfl rfl fun C => ?_
  refine WP.seq (WP.region (l := [0]) rfl ?_)
  refine Run.alloc 0 rfl rfl rfl zr_44 (fun b0 => ?_)
  refine Run.nil ?_
  refine WP.seq (WP.region (l := [0, 1, 2, 3, 4]) rfl ?_)
  refine Run.build rfl rfl rfl bd_30 (.cons (.at rfl) rfl (.cons (.at rfl) rfl (.cons (.at rfl) rfl .nil))) rfl ?_
  refine Run.build rfl rfl rfl bd_30 (.cons (.at rfl) rfl (.cons (.at rfl) rfl (.cons (.at rfl) rfl .nil))) rfl ?_
  refine Run.build rfl rfl rfl bd_30 (.cons (.at rfl) rfl (.cons (.at rfl) rfl (.cons (.at rfl) rfl .nil))) rfl ?_
  refine Run.build rfl rfl rfl bd_44 (.cons (.at rfl) rfl (.cons (.at rfl) rfl (.cons (.at rfl) rfl .nil))) rfl ?_
  refine Run.store (j := 0) rfl rfl (.at rfl) rfl rfl (.at rfl) sz_44_9 rfl rfl (by first | decide | exact Nat.le_of_ble_eq_true rfl) rfl ?_
  refine Run.nil ?_
  refine WP.ret ?_
  exact Ends.pure (.cells rfl (place_adr rfl) ag_44_9 rfl rfl .nil) rfl
theorem c_l02Normal (p : Int) (m : M3) (hp : IsP p) : Pure Try.prog 39 [.int .i64 p, m.av] (nM p m).av := by
  refine Pure.body 6 (n := 68) (fn := Try.f39) (c := Try.f39.body.get!) fn_39 rfl nm_39 rfl rfl fun C => ?_
  refine WP.seq (WP.region (l := [0, 1]) rfl ?_)
  refine Run.box 0 rfl rfl rfl (.at rfl) rfl (fun b3 => ?_)
  refine Run.alloc 1 rfl rfl rfl zr_44 (fun b4 => ?_)
  refine Run.nil ?_
  refine WP.seq (WP.region (l := [0, 1, 2, 3, 4]) rfl ?_)
  refine Run.buildSlice 2 rfl rfl rfl el_73 (by decide) .nil rfl rfl (fun b11 => ?_)
  refine Run.build rfl rfl rfl bd_44 .nil rfl ?_
  refine Run.alloc 3 rfl rfl rfl zr_44 (fun b6 => ?_)
  refine Run.assign rfl rfl rfl (.at rfl) ?_
  refine Run.store (j := 0) rfl rfl (.at rfl) rfl rfl (.at rfl) sz_44_9 rfl rfl (by first | decide | exact Nat.le_of_ble_eq_true rfl) rfl ?_
  refine Run.nil ?_
  refine WP.seq ?_
  refine WP.seq (WP.region (l := [0]) rfl ?_)
  refine Run.assign rfl rfl rfl (.at rfl) ?_
  refine Run.nil ?_
  refine WP.block ?_
  refine WP.loop ?_
  refine LP.trim (fr' := [(0, _), (3, _), (4, _), (5, _), (6, _), (7, _)]) (H' := [[(_, [_, _, _, _, _, _, _, _, _])], [(_, [_, _, _, _, _, _, _, _, _])], _, [(_, [_, _, _, _, _, _, _, _, _])], _, _]) ?_ ⟨rfl, rfl, rfl, rfl, rfl, rfl, trivial⟩ rfl
  refine LP.round ?_
  refine WP.seq ?_
  refine WP.seq (WP.region (l := [0, 1]) rfl ?_)
  refine Run.move rfl rfl rfl (.at rfl) ?_
  refine Run.int rfl rfl rfl (.at rfl) (.at rfl) rfl ?_
  refine Run.nil ?_
  refine WP.cond_t (.at rfl) rfl ?_
  refine WP.skip ?_
  refine WP.seq ?_
  refine WP.block ?_
  refine WP.draw mx_0 ?_
  refine Drawn.move 0 rfl (by kernel_rfl) rfl (.at rfl) ?_
  refine Drawn.calmR ?_
  refine' DrawR.op 1 18 0 [(7, none)] rfl rfl (fun rest => ?_) ?_
  rotate_left
  · skip
    refine Run.move rfl rfl rfl (.at rfl) ?_
    exact single_nil
  refine' DrawR.op 2 19 1 [(3, none), (18, some 0)] rfl rfl (fun rest => ?_) ?_
  rotate_left
  · skip
    refine Run.idx_arr (j := 0) rfl rfl rfl (.at rfl) (.at rfl) ar_44_3_3 (by rfl) (by decide) ?_
    exact single_nil
  refine' DrawR.op 3 20 2 [(19, some 0)] rfl rfl (fun rest => ?_) ?_
  rotate_left
  · skip
    refine Run.idx_arr (j := 0) rfl rfl rfl (.at rfl) (.at rfl) ar_30_3_1 (by rfl) (by decide) ?_
    exact single_nil
  refine' DrawR.op 4 21 3 [(20, some 0)] rfl rfl (fun rest => ?_) ?_
  rotate_left
  · skip
    refine Run.load rfl rfl rfl (.at rfl) (place_adr rfl) sc_2 rfl ?_
    exact single_nil
  refine' DrawR.op 5 22 4 [(7, none)] rfl rfl (fun rest => ?_) ?_
  rotate_left
  · skip
    refine Run.move rfl rfl rfl (.at rfl) ?_
    exact single_nil
  refine' DrawR.op 6 23 5 [(3, none), (22, some 0)] rfl rfl (fun rest => ?_) ?_
  rotate_left
  · skip
    refine Run.idx_arr (j := 0) rfl rfl rfl (.at rfl) (.at rfl) ar_44_3_3 (by rfl) (by decide) ?_
    exact single_nil
  refine' DrawR.op 7 24 6 [(23, some 0)] rfl rfl (fun rest => ?_) ?_
  rotate_left
  · skip
    refine Run.idx_arr (j := 1) rfl rfl rfl (.at rfl) (.at rfl) ar_30_3_1 (by rfl) (by decide) ?_
    exact single_nil
  refine' DrawR.op 8 25 7 [(24, some 0)] rfl rfl (fun rest => ?_) ?_
  rotate_left
  · skip
    refine Run.load rfl rfl rfl (.at rfl) (place_adr rfl) sc_2 rfl ?_
    exact single_nil
  refine' DrawR.op 9 26 8 [(7, none)] rfl rfl (fun rest => ?_) ?_
  rotate_left
  · skip
    refine Run.move rfl rfl rfl (.at rfl) ?_
    exact single_nil
  refine' DrawR.op 10 27 9 [(3, none), (26, some 0)] rfl rfl (fun rest => ?_) ?_
  rotate_left
  · skip
    refine Run.idx_arr (j := 0) rfl rfl rfl (.at rfl) (.at rfl) ar_44_3_3 (by rfl) (by decide) ?_
    exact single_nil
  refine' DrawR.op 11 28 10 [(27, some 0)] rfl rfl (fun rest => ?_) ?_
  rotate_left
  · skip
    refine Run.idx_arr (j := 2) rfl rfl rfl (.at rfl) (.at rfl) ar_30_3_1 (by rfl) (by decide) ?_
    exact single_nil
  refine' DrawR.op 12 29 11 [(28, some 0)] rfl rfl (fun rest => ?_) ?_
  rotate_left
  · skip
    refine Run.load rfl rfl rfl (.at rfl) (place_adr rfl) sc_2 rfl ?_
    exact single_nil
  refine DrawR.tail [13, 14, 15] rfl (by kernel_rfl) ?_
  refine Run.buildSlice 4 rfl rfl rfl el_73 (by decide) (.cons (.at rfl) rfl (.cons (.at rfl) rfl (.cons (.at rfl) rfl .nil))) rfl rfl (fun b30 => ?_)
  refine Run.append rfl rfl rfl (.at rfl) rfl el_73 (.at rfl) (.own (At.one rfl) rfl rfl) rfl (by omega) (Nat.le_of_ble_eq_true rfl) (by omega) (by omega) (fun b31 => ?_)
  refine Run.assign rfl rfl rfl (.at rfl) ?_
  refine Run.nil ?_
  refine WP.region (l := [0, 1, 2]) rfl ?_
  refine Run.move rfl rfl rfl (.at rfl) ?_
  refine Run.add rfl rfl rfl (.at rfl) (.at rfl) (by omega) ?_
  refine Run.assign rfl rfl rfl (.at rfl) ?_
  refine Run.nil ?_
  refine LP.trim (fr' := [(0, _), (3, _), (4, _), (5, _), (6, _), (7, _)]) (H' := [[(_, [_, _, _, _, _, _, _, _, _])], [(_, [_, _, _, _, _, _, _, _, _])], _, [(_, [_, _, _, _, _, _, _, _, _])], _, _]) ?_ ⟨rfl, rfl, rfl, rfl, rfl, rfl, trivial⟩ rfl
  refine LP.round ?_
  refine WP.seq ?_
  refine WP.seq (WP.region (l := [0, 1]) rfl ?_)
  refine Run.move rfl rfl rfl (.at rfl) ?_
  refine Run.int rfl rfl rfl (.at rfl) (.at rfl) rfl ?_
  refine Run.nil ?_
  refine WP.cond_t (.at rfl) rfl ?_
  refine WP.skip ?_
  refine WP.seq ?_
  refine WP.block ?_
  refine WP.draw mx_0 ?_
  refine Drawn.move 0 rfl (by kernel_rfl) rfl (.at rfl) ?_
  refine Drawn.calmR ?_
  refine' DrawR.op 1 18 0 [(7, none)] rfl rfl (fun rest => ?_) ?_
  rotate_left
  · skip
    refine Run.move rfl rfl rfl (.at rfl) ?_
    exact single_nil
  refine' DrawR.op 2 19 1 [(3, none), (18, some 0)] rfl rfl (fun rest => ?_) ?_
  rotate_left
  · skip
    refine Run.idx_arr (j := 1) rfl rfl rfl (.at rfl) (.at rfl) ar_44_3_3 (by rfl) (by decide) ?_
    exact single_nil
  refine' DrawR.op 3 20 2 [(19, some 0)] rfl rfl (fun rest => ?_) ?_
  rotate_left
  · skip
    refine Run.idx_arr (j := 0) rfl rfl rfl (.at rfl) (.at rfl) ar_30_3_1 (by rfl) (by decide) ?_
    exact single_nil
  refine' DrawR.op 4 21 3 [(20, some 0)] rfl rfl (fun rest => ?_) ?_
  rotate_left
  · skip
    refine Run.load rfl rfl rfl (.at rfl) (place_adr rfl) sc_2 rfl ?_
    exact single_nil
  refine' DrawR.op 5 22 4 [(7, none)] rfl rfl (fun rest => ?_) ?_
  rotate_left
  · skip
    refine Run.move rfl rfl rfl (.at rfl) ?_
    exact single_nil
  refine' DrawR.op 6 23 5 [(3, none), (22, some 0)] rfl rfl (fun rest => ?_) ?_
  rotate_left
  · skip
    refine Run.idx_arr (j := 1) rfl rfl rfl (.at rfl) (.at rfl) ar_44_3_3 (by rfl) (by decide) ?_
    exact single_nil
  refine' DrawR.op 7 24 6 [(23, some 0)] rfl rfl (fun rest => ?_) ?_
  rotate_left
  · skip
    refine Run.idx_arr (j := 1) rfl rfl rfl (.at rfl) (.at rfl) ar_30_3_1 (by rfl) (by decide) ?_
    exact single_nil
  refine' DrawR.op 8 25 7 [(24, some 0)] rfl rfl (fun rest => ?_) ?_
  rotate_left
  · skip
    refine Run.load rfl rfl rfl (.at rfl) (place_adr rfl) sc_2 rfl ?_
    exact single_nil
  refine' DrawR.op 9 26 8 [(7, none)] rfl rfl (fun rest => ?_) ?_
  rotate_left
  · skip
    refine Run.move rfl rfl rfl (.at rfl) ?_
    exact single_nil
  refine' DrawR.op 10 27 9 [(3, none), (26, some 0)] rfl rfl (fun rest => ?_) ?_
  rotate_left
  · skip
    refine Run.idx_arr (j := 1) rfl rfl rfl (.at rfl) (.at rfl) ar_44_3_3 (by rfl) (by decide) ?_
    exact single_nil
  refine' DrawR.op 11 28 10 [(27, some 0)] rfl rfl (fun rest => ?_) ?_
  rotate_left
  · skip
    refine Run.idx_arr (j := 2) rfl rfl rfl (.at rfl) (.at rfl) ar_30_3_1 (by rfl) (by decide) ?_
    exact single_nil
  refine' DrawR.op 12 29 11 [(28, some 0)] rfl rfl (fun rest => ?_) ?_
  rotate_left
  · skip
    refine Run.load rfl rfl rfl (.at rfl) (place_adr rfl) sc_2 rfl ?_
    exact single_nil
  refine DrawR.tail [13, 14, 15] rfl (by kernel_rfl) ?_
  refine Run.buildSlice 4 rfl rfl rfl el_73 (by decide) (.cons (.at rfl) rfl (.cons (.at rfl) rfl (.cons (.at rfl) rfl .nil))) rfl rfl (fun b30 => ?_)
  refine Run.append rfl rfl rfl (.at rfl) rfl el_73 (.at rfl) (.own (At.one rfl) rfl rfl) rfl (by omega) (Nat.le_of_ble_eq_true rfl) (by omega) (by omega) (fun b31 => ?_)
  refine Run.assign rfl rfl rfl (.at rfl) ?_
  refine Run.nil ?_
  refine WP.region (l := [0, 1, 2]) rfl ?_
  refine Run.move rfl rfl rfl (.at rfl) ?_
  refine Run.add rfl rfl rfl (.at rfl) (.at rfl) (by omega) ?_
  refine Run.assign rfl rfl rfl (.at rfl) ?_
  refine Run.nil ?_
  refine LP.trim (fr' := [(0, _), (3, _), (4, _), (5, _), (6, _), (7, _)]) (H' := [[(_, [_, _, _, _, _, _, _, _, _])], [(_, [_, _, _, _, _, _, _, _, _])], _, [(_, [_, _, _, _, _, _, _, _, _])], _, _]) ?_ ⟨rfl, rfl, rfl, rfl, rfl, rfl, trivial⟩ rfl
  refine LP.round ?_
  refine WP.seq ?_
  refine WP.seq (WP.region (l := [0, 1]) rfl ?_)
  refine Run.move rfl rfl rfl (.at rfl) ?_
  refine Run.int rfl rfl rfl (.at rfl) (.at rfl) rfl ?_
  refine Run.nil ?_
  refine WP.cond_t (.at rfl) rfl ?_
  refine WP.skip ?_
  refine WP.seq ?_
  refine WP.block ?_
  refine WP.draw mx_0 ?_
  refine Drawn.move 0 rfl (by kernel_rfl) rfl (.at rfl) ?_
  refine Drawn.calmR ?_
  refine' DrawR.op 1 18 0 [(7, none)] rfl rfl (fun rest => ?_) ?_
  rotate_left
  · skip
    refine Run.move rfl rfl rfl (.at rfl) ?_
    exact single_nil
  refine' DrawR.op 2 19 1 [(3, none), (18, some 0)] rfl rfl (fun rest => ?_) ?_
  rotate_left
  · skip
    refine Run.idx_arr (j := 2) rfl rfl rfl (.at rfl) (.at rfl) ar_44_3_3 (by rfl) (by decide) ?_
    exact single_nil
  refine' DrawR.op 3 20 2 [(19, some 0)] rfl rfl (fun rest => ?_) ?_
  rotate_left
  · skip
    refine Run.idx_arr (j := 0) rfl rfl rfl (.at rfl) (.at rfl) ar_30_3_1 (by rfl) (by decide) ?_
    exact single_nil
  refine' DrawR.op 4 21 3 [(20, some 0)] rfl rfl (fun rest => ?_) ?_
  rotate_left
  · skip
    refine Run.load rfl rfl rfl (.at rfl) (place_adr rfl) sc_2 rfl ?_
    exact single_nil
  refine' DrawR.op 5 22 4 [(7, none)] rfl rfl (fun rest => ?_) ?_
  rotate_left
  · skip
    refine Run.move rfl rfl rfl (.at rfl) ?_
    exact single_nil
  refine' DrawR.op 6 23 5 [(3, none), (22, some 0)] rfl rfl (fun rest => ?_) ?_
  rotate_left
  · skip
    refine Run.idx_arr (j := 2) rfl rfl rfl (.at rfl) (.at rfl) ar_44_3_3 (by rfl) (by decide) ?_
    exact single_nil
  refine' DrawR.op 7 24 6 [(23, some 0)] rfl rfl (fun rest => ?_) ?_
  rotate_left
  · skip
    refine Run.idx_arr (j := 1) rfl rfl rfl (.at rfl) (.at rfl) ar_30_3_1 (by rfl) (by decide) ?_
    exact single_nil
  refine' DrawR.op 8 25 7 [(24, some 0)] rfl rfl (fun rest => ?_) ?_
  rotate_left
  · skip
    refine Run.load rfl rfl rfl (.at rfl) (place_adr rfl) sc_2 rfl ?_
    exact single_nil
  refine' DrawR.op 9 26 8 [(7, none)] rfl rfl (fun rest => ?_) ?_
  rotate_left
  · skip
    refine Run.move rfl rfl rfl (.at rfl) ?_
    exact single_nil
  refine' DrawR.op 10 27 9 [(3, none), (26, some 0)] rfl rfl (fun rest => ?_) ?_
  rotate_left
  · skip
    refine Run.idx_arr (j := 2) rfl rfl rfl (.at rfl) (.at rfl) ar_44_3_3 (by rfl) (by decide) ?_
    exact single_nil
  refine' DrawR.op 11 28 10 [(27, some 0)] rfl rfl (fun rest => ?_) ?_
  rotate_left
  · skip
    refine Run.idx_arr (j := 2) rfl rfl rfl (.at rfl) (.at rfl) ar_30_3_1 (by rfl) (by decide) ?_
    exact single_nil
  refine' DrawR.op 12 29 11 [(28, some 0)] rfl rfl (fun rest => ?_) ?_
  rotate_left
  · skip
    refine Run.load rfl rfl rfl (.at rfl) (place_adr rfl) sc_2 rfl ?_
    exact single_nil
  refine DrawR.tail [13, 14, 15] rfl (by kernel_rfl) ?_
  refine Run.buildSlice 4 rfl rfl rfl el_73 (by decide) (.cons (.at rfl) rfl (.cons (.at rfl) rfl (.cons (.at rfl) rfl .nil))) rfl rfl (fun b30 => ?_)
  refine Run.append rfl rfl rfl (.at rfl) rfl el_73 (.at rfl) (.own (At.one rfl) rfl rfl) rfl (by omega) (Nat.le_of_ble_eq_true rfl) (by omega) (by omega) (fun b31 => ?_)
  refine Run.assign rfl rfl rfl (.at rfl) ?_
  refine Run.nil ?_
  refine WP.region (l := [0, 1, 2]) rfl ?_
  refine Run.move rfl rfl rfl (.at rfl) ?_
  refine Run.add rfl rfl rfl (.at rfl) (.at rfl) (by omega) ?_
  refine Run.assign rfl rfl rfl (.at rfl) ?_
  refine Run.nil ?_
  refine LP.trim (fr' := [(0, _), (3, _), (4, _), (5, _), (6, _), (7, _)]) (H' := [[(_, [_, _, _, _, _, _, _, _, _])], [(_, [_, _, _, _, _, _, _, _, _])], _, [(_, [_, _, _, _, _, _, _, _, _])], _, _]) ?_ ⟨rfl, rfl, rfl, rfl, rfl, rfl, trivial⟩ rfl
  refine LP.round ?_
  refine WP.seq ?_
  refine WP.seq (WP.region (l := [0, 1]) rfl ?_)
  refine Run.move rfl rfl rfl (.at rfl) ?_
  refine Run.int rfl rfl rfl (.at rfl) (.at rfl) rfl ?_
  refine Run.nil ?_
  refine WP.cond_f (.at rfl) rfl ?_
  refine WP.exit ?_
  refine WP.seq (WP.region (l := [0, 1, 2, 3, 4, 5, 6, 7]) rfl ?_)
  refine Run.move rfl rfl rfl (.at rfl) ?_
  refine Run.move rfl rfl rfl (.at rfl) ?_
  refine Run.acts [] [5] rfl rfl rfl (.at rfl) (.cons (.at rfl) (.cons (.at rfl) .nil)) (.cons .refl (.cons (Lend.one rfl (by decide) (by rfl)) .nil)) (c_l01Norm 5 p m.l (n := 9) hp (by decide) rfl) rfl rfl rfl (fun x H h => ?_) (fun x H h => ?_)
  · obtain ⟨b35, rfl, rfl⟩ := h; exact ⟨rfl, by first | rfl | simp [cleanH, cs3_cl]; done | simp [cleanH, ints_cl]; done | simp [cleanH, cs3_cl, ints_cl]; done | simp [cleanH, cs9_cl]; done | simp [cleanH, cs9_cl, cs3_cl, ints_cl]; done⟩
  obtain ⟨b35, rfl, rfl⟩ := h
  refine Run.move rfl rfl rfl (.at rfl) ?_
  refine Run.extract rfl rfl rfl (.at rfl) rfl ?_
  refine Run.extract rfl rfl rfl (.at rfl) rfl ?_
  refine Run.assign rfl rfl rfl (.at rfl) ?_
  refine Run.assign rfl rfl rfl (.at rfl) ?_
  refine Run.nil ?_
  refine WP.seq ?_
  refine WP.seq (WP.region (l := [0]) rfl ?_)
  refine Run.assign rfl rfl rfl (.at rfl) ?_
  refine Run.nil ?_
  refine WP.block ?_
  refine WP.loop ?_
  refine LP.trim (fr' := [(4, _), (6, _), (8, _), (10, _)]) (H' := [[(_, [_, _, _, _, _, _, _, _, _])], [(_, [_, _, _, _, _, _, _, _, _])], _, [(_, [_, _, _, _, _, _, _, _, _])], _, _]) ?_ ⟨rfl, rfl, rfl, rfl, trivial⟩ rfl
  refine LP.round ?_
  refine WP.seq ?_
  refine WP.seq (WP.region (l := [0, 1, 2, 3, 4, 5, 6]) rfl ?_)
  refine Run.move rfl rfl rfl (.at rfl) ?_
  refine Run.int rfl rfl rfl (.at rfl) (.at rfl) rfl ?_
  refine Run.move rfl rfl rfl (.at rfl) ?_
  refine' Run.guarded rfl rfl rfl rfl rfl rfl (fun ht => ?_) ?_
  rotate_left
  · skip
    refine Run.move rfl rfl rfl (.at rfl) ?_
    exact single_nil
  refine' Run.guarded rfl rfl rfl rfl rfl rfl (fun ht => ?_) ?_
  rotate_left
  · skip
    refine Run.len rfl rfl rfl (.opt rfl ht) is_73 rfl ?_
    exact single_nil
  refine' Run.guarded rfl rfl rfl rfl rfl rfl (fun ht => ?_) ?_
  rotate_left
  · skip
    refine Run.int rfl rfl rfl (.opt rfl ht) (.at rfl) rfl ?_
    exact single_nil
  refine Run.and rfl rfl rfl (.at rfl) (.at rfl) rfl ?_
  refine Run.nil ?_
  refine WP.cond_t (.at rfl) rfl ?_
  refine WP.skip ?_
  refine WP.seq ?_
  refine WP.block ?_
  refine WP.draw mx_0 ?_
  refine Drawn.calmR ?_
  refine' DrawR.op 0 47 0 [(10, none)] rfl rfl (fun rest => ?_) ?_
  rotate_left
  · skip
    refine Run.move rfl rfl rfl (.at rfl) ?_
    exact single_nil
  refine' DrawR.op 1 48 1 [(8, none)] rfl rfl (fun rest => ?_) ?_
  rotate_left
  · skip
    refine Run.move rfl rfl rfl (.at rfl) ?_
    exact single_nil
  refine' DrawR.op 2 49 2 [(10, none)] rfl rfl (fun rest => ?_) ?_
  rotate_left
  · skip
    refine Run.move rfl rfl rfl (.at rfl) ?_
    exact single_nil
  refine' DrawR.op 3 50 3 [(49, some 0)] rfl rfl (fun rest => ?_) ?_
  rotate_left
  · skip
    refine Run.mul rfl rfl rfl (.at rfl) (.at rfl) (by omega) ?_
    exact single_nil
  refine' DrawR.op 4 51 4 [(48, some 2), (50, some 0)] rfl rfl (fun rest => ?_) ?_
  rotate_left
  · skip
    refine Run.idx rfl rfl rfl (.at rfl) (.at rfl) sl_73_1 (by rfl) (by decide) ?_
    exact single_nil
  refine' DrawR.op 5 52 5 [(51, some 0)] rfl rfl (fun rest => ?_) ?_
  rotate_left
  · skip
    refine Run.load rfl rfl rfl (.at rfl) (place_adr rfl) sc_2 rfl ?_
    exact single_nil
  refine' DrawR.op 6 53 6 [(8, none)] rfl rfl (fun rest => ?_) ?_
  rotate_left
  · skip
    refine Run.move rfl rfl rfl (.at rfl) ?_
    exact single_nil
  refine' DrawR.op 7 54 7 [(10, none)] rfl rfl (fun rest => ?_) ?_
  rotate_left
  · skip
    refine Run.move rfl rfl rfl (.at rfl) ?_
    exact single_nil
  refine' DrawR.op 8 55 8 [(54, some 0)] rfl rfl (fun rest => ?_) ?_
  rotate_left
  · skip
    refine Run.mul rfl rfl rfl (.at rfl) (.at rfl) (by omega) ?_
    exact single_nil
  refine' DrawR.op 9 56 9 [(55, some 0)] rfl rfl (fun rest => ?_) ?_
  rotate_left
  · skip
    refine Run.add rfl rfl rfl (.at rfl) (.at rfl) (by omega) ?_
    exact single_nil
  refine' DrawR.op 10 57 10 [(53, some 3), (56, some 0)] rfl rfl (fun rest => ?_) ?_
  rotate_left
  · skip
    refine Run.idx rfl rfl rfl (.at rfl) (.at rfl) sl_73_1 (by rfl) (by decide) ?_
    exact single_nil
  refine' DrawR.op 11 58 11 [(57, some 0)] rfl rfl (fun rest => ?_) ?_
  rotate_left
  · skip
    refine Run.load rfl rfl rfl (.at rfl) (place_adr rfl) sc_2 rfl ?_
    exact single_nil
  refine' DrawR.op 12 59 12 [(8, none)] rfl rfl (fun rest => ?_) ?_
  rotate_left
  · skip
    refine Run.move rfl rfl rfl (.at rfl) ?_
    exact single_nil
  refine' DrawR.op 13 60 13 [(10, none)] rfl rfl (fun rest => ?_) ?_
  rotate_left
  · skip
    refine Run.move rfl rfl rfl (.at rfl) ?_
    exact single_nil
  refine' DrawR.op 14 61 14 [(60, some 0)] rfl rfl (fun rest => ?_) ?_
  rotate_left
  · skip
    refine Run.mul rfl rfl rfl (.at rfl) (.at rfl) (by omega) ?_
    exact single_nil
  refine' DrawR.op 15 62 15 [(61, some 0)] rfl rfl (fun rest => ?_) ?_
  rotate_left
  · skip
    refine Run.add rfl rfl rfl (.at rfl) (.at rfl) (by omega) ?_
    exact single_nil
  refine' DrawR.op 16 63 16 [(59, some 3), (62, some 0)] rfl rfl (fun rest => ?_) ?_
  rotate_left
  · skip
    refine Run.idx rfl rfl rfl (.at rfl) (.at rfl) sl_73_1 (by rfl) (by decide) ?_
    exact single_nil
  refine' DrawR.op 17 64 17 [(63, some 0)] rfl rfl (fun rest => ?_) ?_
  rotate_left
  · skip
    refine Run.load rfl rfl rfl (.at rfl) (place_adr rfl) sc_2 rfl ?_
    exact single_nil
  refine' DrawR.op 18 65 18 [(52, some 12), (58, some 6), (64, some 0)] rfl rfl (fun rest => ?_) ?_
  rotate_left
  · skip
    refine Run.build rfl rfl rfl bd_30 (.cons (.at rfl) rfl (.cons (.at rfl) rfl (.cons (.at rfl) rfl .nil))) rfl ?_
    exact single_nil
  refine' DrawR.op 19 66 19 [(6, none), (47, some 18)] rfl rfl (fun rest => ?_) ?_
  rotate_left
  · skip
    refine Run.idx_arr rfl rfl rfl (.at rfl) (.at rfl) ar_44_3_3 (by rfl) (by decide) ?_
    exact single_nil
  refine DrawR.tail [20] rfl (by kernel_rfl) ?_
  refine Run.store (j := 0) rfl rfl (.at rfl) rfl rfl (.at rfl) sz_30_3 rfl rfl (by first | decide | exact Nat.le_of_ble_eq_true rfl) rfl ?_
  refine Run.nil ?_
  refine WP.trim (fr' := [(4, _), (6, _), (8, _), (10, _), (41, _), (42, _), (43, _)]) (H' := [[(_, [_, _, _, _, _, _, _, _, _])], [(_, [_, _, _, _, _, _, _, _, _])], _, [(_, [_, _, _, _, _, _, _, _, _])], _, _]) ?_ ⟨rfl, rfl, rfl, rfl, rfl, rfl, rfl, trivial⟩ rfl
  refine WP.region (l := [0, 1, 2]) rfl ?_
  refine Run.move rfl rfl rfl (.at rfl) ?_
  refine Run.add rfl rfl rfl (.at rfl) (.at rfl) (by omega) ?_
  refine Run.assign rfl rfl rfl (.at rfl) ?_
  refine Run.nil ?_
  refine LP.trim (fr' := [(4, _), (6, _), (8, _), (10, _), (41, _), (42, _), (43, _)]) (H' := [[(_, [_, _, _, _, _, _, _, _, _])], [(_, [_, _, _, _, _, _, _, _, _])], _, [(_, [_, _, _, _, _, _, _, _, _])], _, _]) ?_ ⟨rfl, rfl, rfl, rfl, rfl, rfl, rfl, trivial⟩ rfl
  refine LP.round ?_
  refine WP.seq ?_
  refine WP.seq (WP.region (l := [0, 1, 2, 3, 4, 5, 6]) rfl ?_)
  refine Run.move rfl rfl rfl (.at rfl) ?_
  refine Run.int rfl rfl rfl (.at rfl) (.at rfl) rfl ?_
  refine Run.move rfl rfl rfl (.at rfl) ?_
  refine' Run.guarded rfl rfl rfl rfl rfl rfl (fun ht => ?_) ?_
  rotate_left
  · skip
    refine Run.move rfl rfl rfl (.at rfl) ?_
    exact single_nil
  refine' Run.guarded rfl rfl rfl rfl rfl rfl (fun ht => ?_) ?_
  rotate_left
  · skip
    refine Run.len rfl rfl rfl (.opt rfl ht) is_73 rfl ?_
    exact single_nil
  refine' Run.guarded rfl rfl rfl rfl rfl rfl (fun ht => ?_) ?_
  rotate_left
  · skip
    refine Run.int rfl rfl rfl (.opt rfl ht) (.at rfl) rfl ?_
    exact single_nil
  refine Run.and rfl rfl rfl (.at rfl) (.at rfl) rfl ?_
  refine Run.nil ?_
  refine WP.cond_t (.at rfl) rfl ?_
  refine WP.skip ?_
  refine WP.seq ?_
  refine WP.block ?_
  refine WP.draw mx_0 ?_
  refine Drawn.calmR ?_
  refine' DrawR.op 0 47 0 [(10, none)] rfl rfl (fun rest => ?_) ?_
  rotate_left
  · skip
    refine Run.move rfl rfl rfl (.at rfl) ?_
    exact single_nil
  refine' DrawR.op 1 48 1 [(8, none)] rfl rfl (fun rest => ?_) ?_
  rotate_left
  · skip
    refine Run.move rfl rfl rfl (.at rfl) ?_
    exact single_nil
  refine' DrawR.op 2 49 2 [(10, none)] rfl rfl (fun rest => ?_) ?_
  rotate_left
  · skip
    refine Run.move rfl rfl rfl (.at rfl) ?_
    exact single_nil
  refine' DrawR.op 3 50 3 [(49, some 0)] rfl rfl (fun rest => ?_) ?_
  rotate_left
  · skip
    refine Run.mul rfl rfl rfl (.at rfl) (.at rfl) (by omega) ?_
    exact single_nil
  refine' DrawR.op 4 51 4 [(48, some 2), (50, some 0)] rfl rfl (fun rest => ?_) ?_
  rotate_left
  · skip
    refine Run.idx rfl rfl rfl (.at rfl) (.at rfl) sl_73_1 (by rfl) (by decide) ?_
    exact single_nil
  refine' DrawR.op 5 52 5 [(51, some 0)] rfl rfl (fun rest => ?_) ?_
  rotate_left
  · skip
    refine Run.load rfl rfl rfl (.at rfl) (place_adr rfl) sc_2 rfl ?_
    exact single_nil
  refine' DrawR.op 6 53 6 [(8, none)] rfl rfl (fun rest => ?_) ?_
  rotate_left
  · skip
    refine Run.move rfl rfl rfl (.at rfl) ?_
    exact single_nil
  refine' DrawR.op 7 54 7 [(10, none)] rfl rfl (fun rest => ?_) ?_
  rotate_left
  · skip
    refine Run.move rfl rfl rfl (.at rfl) ?_
    exact single_nil
  refine' DrawR.op 8 55 8 [(54, some 0)] rfl rfl (fun rest => ?_) ?_
  rotate_left
  · skip
    refine Run.mul rfl rfl rfl (.at rfl) (.at rfl) (by omega) ?_
    exact single_nil
  refine' DrawR.op 9 56 9 [(55, some 0)] rfl rfl (fun rest => ?_) ?_
  rotate_left
  · skip
    refine Run.add rfl rfl rfl (.at rfl) (.at rfl) (by omega) ?_
    exact single_nil
  refine' DrawR.op 10 57 10 [(53, some 3), (56, some 0)] rfl rfl (fun rest => ?_) ?_
  rotate_left
  · skip
    refine Run.idx rfl rfl rfl (.at rfl) (.at rfl) sl_73_1 (by rfl) (by decide) ?_
    exact single_nil
  refine' DrawR.op 11 58 11 [(57, some 0)] rfl rfl (fun rest => ?_) ?_
  rotate_left
  · skip
    refine Run.load rfl rfl rfl (.at rfl) (place_adr rfl) sc_2 rfl ?_
    exact single_nil
  refine' DrawR.op 12 59 12 [(8, none)] rfl rfl (fun rest => ?_) ?_
  rotate_left
  · skip
    refine Run.move rfl rfl rfl (.at rfl) ?_
    exact single_nil
  refine' DrawR.op 13 60 13 [(10, none)] rfl rfl (fun rest => ?_) ?_
  rotate_left
  · skip
    refine Run.move rfl rfl rfl (.at rfl) ?_
    exact single_nil
  refine' DrawR.op 14 61 14 [(60, some 0)] rfl rfl (fun rest => ?_) ?_
  rotate_left
  · skip
    refine Run.mul rfl rfl rfl (.at rfl) (.at rfl) (by omega) ?_
    exact single_nil
  refine' DrawR.op 15 62 15 [(61, some 0)] rfl rfl (fun rest => ?_) ?_
  rotate_left
  · skip
    refine Run.add rfl rfl rfl (.at rfl) (.at rfl) (by omega) ?_
    exact single_nil
  refine' DrawR.op 16 63 16 [(59, some 3), (62, some 0)] rfl rfl (fun rest => ?_) ?_
  rotate_left
  · skip
    refine Run.idx rfl rfl rfl (.at rfl) (.at rfl) sl_73_1 (by rfl) (by decide) ?_
    exact single_nil
  refine' DrawR.op 17 64 17 [(63, some 0)] rfl rfl (fun rest => ?_) ?_
  rotate_left
  · skip
    refine Run.load rfl rfl rfl (.at rfl) (place_adr rfl) sc_2 rfl ?_
    exact single_nil
  refine' DrawR.op 18 65 18 [(52, some 12), (58, some 6), (64, some 0)] rfl rfl (fun rest => ?_) ?_
  rotate_left
  · skip
    refine Run.build rfl rfl rfl bd_30 (.cons (.at rfl) rfl (.cons (.at rfl) rfl (.cons (.at rfl) rfl .nil))) rfl ?_
    exact single_nil
  refine' DrawR.op 19 66 19 [(6, none), (47, some 18)] rfl rfl (fun rest => ?_) ?_
  rotate_left
  · skip
    refine Run.idx_arr rfl rfl rfl (.at rfl) (.at rfl) ar_44_3_3 (by rfl) (by decide) ?_
    exact single_nil
  refine DrawR.tail [20] rfl (by kernel_rfl) ?_
  refine Run.store (j := 0) rfl rfl (.at rfl) rfl rfl (.at rfl) sz_30_3 rfl rfl (by first | decide | exact Nat.le_of_ble_eq_true rfl) rfl ?_
  refine Run.nil ?_
  refine WP.trim (fr' := [(4, _), (6, _), (8, _), (10, _), (41, _), (42, _), (43, _)]) (H' := [[(_, [_, _, _, _, _, _, _, _, _])], [(_, [_, _, _, _, _, _, _, _, _])], _, [(_, [_, _, _, _, _, _, _, _, _])], _, _]) ?_ ⟨rfl, rfl, rfl, rfl, rfl, rfl, rfl, trivial⟩ rfl
  refine WP.region (l := [0, 1, 2]) rfl ?_
  refine Run.move rfl rfl rfl (.at rfl) ?_
  refine Run.add rfl rfl rfl (.at rfl) (.at rfl) (by omega) ?_
  refine Run.assign rfl rfl rfl (.at rfl) ?_
  refine Run.nil ?_
  refine LP.trim (fr' := [(4, _), (6, _), (8, _), (10, _), (41, _), (42, _), (43, _)]) (H' := [[(_, [_, _, _, _, _, _, _, _, _])], [(_, [_, _, _, _, _, _, _, _, _])], _, [(_, [_, _, _, _, _, _, _, _, _])], _, _]) ?_ ⟨rfl, rfl, rfl, rfl, rfl, rfl, rfl, trivial⟩ rfl
  refine LP.round ?_
  refine WP.seq ?_
  refine WP.seq (WP.region (l := [0, 1, 2, 3, 4, 5, 6]) rfl ?_)
  refine Run.move rfl rfl rfl (.at rfl) ?_
  refine Run.int rfl rfl rfl (.at rfl) (.at rfl) rfl ?_
  refine Run.move rfl rfl rfl (.at rfl) ?_
  refine' Run.guarded rfl rfl rfl rfl rfl rfl (fun ht => ?_) ?_
  rotate_left
  · skip
    refine Run.move rfl rfl rfl (.at rfl) ?_
    exact single_nil
  refine' Run.guarded rfl rfl rfl rfl rfl rfl (fun ht => ?_) ?_
  rotate_left
  · skip
    refine Run.len rfl rfl rfl (.opt rfl ht) is_73 rfl ?_
    exact single_nil
  refine' Run.guarded rfl rfl rfl rfl rfl rfl (fun ht => ?_) ?_
  rotate_left
  · skip
    refine Run.int rfl rfl rfl (.opt rfl ht) (.at rfl) rfl ?_
    exact single_nil
  refine Run.and rfl rfl rfl (.at rfl) (.at rfl) rfl ?_
  refine Run.nil ?_
  refine WP.cond_t (.at rfl) rfl ?_
  refine WP.skip ?_
  refine WP.seq ?_
  refine WP.block ?_
  refine WP.draw mx_0 ?_
  refine Drawn.calmR ?_
  refine' DrawR.op 0 47 0 [(10, none)] rfl rfl (fun rest => ?_) ?_
  rotate_left
  · skip
    refine Run.move rfl rfl rfl (.at rfl) ?_
    exact single_nil
  refine' DrawR.op 1 48 1 [(8, none)] rfl rfl (fun rest => ?_) ?_
  rotate_left
  · skip
    refine Run.move rfl rfl rfl (.at rfl) ?_
    exact single_nil
  refine' DrawR.op 2 49 2 [(10, none)] rfl rfl (fun rest => ?_) ?_
  rotate_left
  · skip
    refine Run.move rfl rfl rfl (.at rfl) ?_
    exact single_nil
  refine' DrawR.op 3 50 3 [(49, some 0)] rfl rfl (fun rest => ?_) ?_
  rotate_left
  · skip
    refine Run.mul rfl rfl rfl (.at rfl) (.at rfl) (by omega) ?_
    exact single_nil
  refine' DrawR.op 4 51 4 [(48, some 2), (50, some 0)] rfl rfl (fun rest => ?_) ?_
  rotate_left
  · skip
    refine Run.idx rfl rfl rfl (.at rfl) (.at rfl) sl_73_1 (by rfl) (by decide) ?_
    exact single_nil
  refine' DrawR.op 5 52 5 [(51, some 0)] rfl rfl (fun rest => ?_) ?_
  rotate_left
  · skip
    refine Run.load rfl rfl rfl (.at rfl) (place_adr rfl) sc_2 rfl ?_
    exact single_nil
  refine' DrawR.op 6 53 6 [(8, none)] rfl rfl (fun rest => ?_) ?_
  rotate_left
  · skip
    refine Run.move rfl rfl rfl (.at rfl) ?_
    exact single_nil
  refine' DrawR.op 7 54 7 [(10, none)] rfl rfl (fun rest => ?_) ?_
  rotate_left
  · skip
    refine Run.move rfl rfl rfl (.at rfl) ?_
    exact single_nil
  refine' DrawR.op 8 55 8 [(54, some 0)] rfl rfl (fun rest => ?_) ?_
  rotate_left
  · skip
    refine Run.mul rfl rfl rfl (.at rfl) (.at rfl) (by omega) ?_
    exact single_nil
  refine' DrawR.op 9 56 9 [(55, some 0)] rfl rfl (fun rest => ?_) ?_
  rotate_left
  · skip
    refine Run.add rfl rfl rfl (.at rfl) (.at rfl) (by omega) ?_
    exact single_nil
  refine' DrawR.op 10 57 10 [(53, some 3), (56, some 0)] rfl rfl (fun rest => ?_) ?_
  rotate_left
  · skip
    refine Run.idx rfl rfl rfl (.at rfl) (.at rfl) sl_73_1 (by rfl) (by decide) ?_
    exact single_nil
  refine' DrawR.op 11 58 11 [(57, some 0)] rfl rfl (fun rest => ?_) ?_
  rotate_left
  · skip
    refine Run.load rfl rfl rfl (.at rfl) (place_adr rfl) sc_2 rfl ?_
    exact single_nil
  refine' DrawR.op 12 59 12 [(8, none)] rfl rfl (fun rest => ?_) ?_
  rotate_left
  · skip
    refine Run.move rfl rfl rfl (.at rfl) ?_
    exact single_nil
  refine' DrawR.op 13 60 13 [(10, none)] rfl rfl (fun rest => ?_) ?_
  rotate_left
  · skip
    refine Run.move rfl rfl rfl (.at rfl) ?_
    exact single_nil
  refine' DrawR.op 14 61 14 [(60, some 0)] rfl rfl (fun rest => ?_) ?_
  rotate_left
  · skip
    refine Run.mul rfl rfl rfl (.at rfl) (.at rfl) (by omega) ?_
    exact single_nil
  refine' DrawR.op 15 62 15 [(61, some 0)] rfl rfl (fun rest => ?_) ?_
  rotate_left
  · skip
    refine Run.add rfl rfl rfl (.at rfl) (.at rfl) (by omega) ?_
    exact single_nil
  refine' DrawR.op 16 63 16 [(59, some 3), (62, some 0)] rfl rfl (fun rest => ?_) ?_
  rotate_left
  · skip
    refine Run.idx rfl rfl rfl (.at rfl) (.at rfl) sl_73_1 (by rfl) (by decide) ?_
    exact single_nil
  refine' DrawR.op 17 64 17 [(63, some 0)] rfl rfl (fun rest => ?_) ?_
  rotate_left
  · skip
    refine Run.load rfl rfl rfl (.at rfl) (place_adr rfl) sc_2 rfl ?_
    exact single_nil
  refine' DrawR.op 18 65 18 [(52, some 12), (58, some 6), (64, some 0)] rfl rfl (fun rest => ?_) ?_
  rotate_left
  · skip
    refine Run.build rfl rfl rfl bd_30 (.cons (.at rfl) rfl (.cons (.at rfl) rfl (.cons (.at rfl) rfl .nil))) rfl ?_
    exact single_nil
  refine' DrawR.op 19 66 19 [(6, none), (47, some 18)] rfl rfl (fun rest => ?_) ?_
  rotate_left
  · skip
    refine Run.idx_arr rfl rfl rfl (.at rfl) (.at rfl) ar_44_3_3 (by rfl) (by decide) ?_
    exact single_nil
  refine DrawR.tail [20] rfl (by kernel_rfl) ?_
  refine Run.store (j := 0) rfl rfl (.at rfl) rfl rfl (.at rfl) sz_30_3 rfl rfl (by first | decide | exact Nat.le_of_ble_eq_true rfl) rfl ?_
  refine Run.nil ?_
  refine WP.trim (fr' := [(4, _), (6, _), (8, _), (10, _), (41, _), (42, _), (43, _)]) (H' := [[(_, [_, _, _, _, _, _, _, _, _])], [(_, [_, _, _, _, _, _, _, _, _])], _, [(_, [_, _, _, _, _, _, _, _, _])], _, _]) ?_ ⟨rfl, rfl, rfl, rfl, rfl, rfl, rfl, trivial⟩ rfl
  refine WP.region (l := [0, 1, 2]) rfl ?_
  refine Run.move rfl rfl rfl (.at rfl) ?_
  refine Run.add rfl rfl rfl (.at rfl) (.at rfl) (by omega) ?_
  refine Run.assign rfl rfl rfl (.at rfl) ?_
  refine Run.nil ?_
  refine LP.trim (fr' := [(4, _), (6, _), (8, _), (10, _), (41, _), (42, _), (43, _)]) (H' := [[(_, [_, _, _, _, _, _, _, _, _])], [(_, [_, _, _, _, _, _, _, _, _])], _, [(_, [_, _, _, _, _, _, _, _, _])], _, _]) ?_ ⟨rfl, rfl, rfl, rfl, rfl, rfl, rfl, trivial⟩ rfl
  refine LP.round ?_
  refine WP.seq ?_
  refine WP.seq (WP.region (l := [0, 1, 2, 3, 4, 5, 6]) rfl ?_)
  refine Run.move rfl rfl rfl (.at rfl) ?_
  refine Run.int rfl rfl rfl (.at rfl) (.at rfl) rfl ?_
  refine Run.move rfl rfl rfl (.at rfl) ?_
  refine' Run.guarded rfl rfl rfl rfl rfl rfl (fun ht => ?_) ?_
  rotate_left
  · skip
    refine Run.move rfl rfl rfl (.at rfl) ?_
    exact single_nil
  refine' Run.guarded rfl rfl rfl rfl rfl rfl (fun ht => ?_) ?_
  rotate_left
  · skip
    refine Run.len rfl rfl rfl (.opt rfl ht) is_73 rfl ?_
    exact single_nil
  refine' Run.guarded rfl rfl rfl rfl rfl rfl (fun ht => ?_) ?_
  rotate_left
  · skip
    refine Run.int rfl rfl rfl (.opt rfl ht) (.at rfl) rfl ?_
    exact single_nil
  refine Run.and rfl rfl rfl (.at rfl) (.at rfl) rfl ?_
  refine Run.nil ?_
  refine WP.cond_f (.at rfl) rfl ?_
  refine WP.exit ?_
  refine WP.seq (WP.region (l := [0, 1]) rfl ?_)
  refine Run.loads rfl rfl rfl (.at rfl) (place_adr rfl) ag_44_9 rfl rfl ?_
  refine Run.store (j := 0) rfl rfl (.at rfl) rfl rfl (.at rfl) sz_44_9 rfl rfl (by first | decide | exact Nat.le_of_ble_eq_true rfl) rfl ?_
  refine Run.nil ?_
  refine WP.ret ?_
  exact Ends.pure (.cells rfl (place_adr rfl) ag_44_9 rfl rfl .nil) rfl
end Go.Ab
