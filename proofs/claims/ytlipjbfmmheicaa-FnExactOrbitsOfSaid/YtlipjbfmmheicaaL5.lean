/- The walks of the law's helpers over maps: copies, comparison. -/
import Derived.Test.YtlipjbfmmheicaaP13
import Derived.Test.YtlipjbfmmheicaaM2
import Derived.Test.YtlipjbfmmheicaaL4
namespace Go.Ab
open Go.Proofs
theorem c_toInt64A3 (v : V3) : Pure Try.prog 40 [v.av] v.av := by
  refine Pure.body 3 (n := 15) (fn := Try.f40) (c := Try.f40.body.get!) fn_40 rfl nm_40 rfl rfl fun C => ?_
  refine WP.seq (WP.region (l := [0, 1]) rfl ?_)
  refine Run.box 0 rfl rfl rfl (.at rfl) rfl (fun b1 => ?_)
  refine Run.alloc 1 rfl rfl rfl zr_30 (fun b2 => ?_)
  refine Run.nil ?_
  refine WP.seq (WP.region (l := [0]) rfl ?_)
  refine Run.alloc 2 rfl rfl rfl zr_30 (fun b3 => ?_)
  refine Run.nil ?_
  refine WP.seq ?_
  refine WP.seq (WP.region (l := [0]) rfl ?_)
  refine Run.assign rfl rfl rfl (.at rfl) ?_
  refine Run.nil ?_
  refine WP.block ?_
  refine WP.loop ?_
  refine LP.trim (fr' := [(1, _), (2, _), (3, _), (4, _)]) (H' := [[(_, [_, _, _])], [(_, [_, _, _])], [(_, [_, _, _])]]) ?_ ⟨rfl, rfl, rfl, rfl, trivial⟩ rfl
  refine LP.round ?_
  refine WP.seq ?_
  refine WP.seq (WP.region (l := [0, 1]) rfl ?_)
  refine Run.move rfl rfl rfl (.at rfl) ?_
  refine Run.int rfl rfl rfl (.at rfl) (.at rfl) rfl ?_
  refine Run.nil ?_
  refine WP.cond_t (.at rfl) rfl ?_
  refine WP.skip ?_
  refine WP.seq ?_
  refine WP.block ?_
  refine WP.region (l := [0, 1, 2, 3, 4, 5]) rfl ?_
  refine Run.move rfl rfl rfl (.at rfl) ?_
  refine Run.move rfl rfl rfl (.at rfl) ?_
  refine Run.idx_arr rfl rfl rfl (.at rfl) (.at rfl) ar_30_3_1 (by rfl) (by decide) ?_
  refine Run.load rfl rfl rfl (.at rfl) (place_adr rfl) sc_2 rfl ?_
  refine Run.idx_arr rfl rfl rfl (.at rfl) (.at rfl) ar_30_3_1 (by rfl) (by decide) ?_
  refine Run.store (j := 0) rfl rfl (.at rfl) rfl rfl (.at rfl) sz_2_1 rfl rfl (by first | decide | exact Nat.le_of_ble_eq_true rfl) rfl ?_
  refine Run.nil ?_
  refine WP.region (l := [0, 1, 2]) rfl ?_
  refine Run.move rfl rfl rfl (.at rfl) ?_
  refine Run.add rfl rfl rfl (.at rfl) (.at rfl) (by omega) ?_
  refine Run.assign rfl rfl rfl (.at rfl) ?_
  refine Run.nil ?_
  refine LP.trim (fr' := [(1, _), (2, _), (3, _), (4, _)]) (H' := [[(_, [_, _, _])], [(_, [_, _, _])], [(_, [_, _, _])]]) ?_ ⟨rfl, rfl, rfl, rfl, trivial⟩ rfl
  refine LP.round ?_
  refine WP.seq ?_
  refine WP.seq (WP.region (l := [0, 1]) rfl ?_)
  refine Run.move rfl rfl rfl (.at rfl) ?_
  refine Run.int rfl rfl rfl (.at rfl) (.at rfl) rfl ?_
  refine Run.nil ?_
  refine WP.cond_t (.at rfl) rfl ?_
  refine WP.skip ?_
  refine WP.seq ?_
  refine WP.block ?_
  refine WP.region (l := [0, 1, 2, 3, 4, 5]) rfl ?_
  refine Run.move rfl rfl rfl (.at rfl) ?_
  refine Run.move rfl rfl rfl (.at rfl) ?_
  refine Run.idx_arr rfl rfl rfl (.at rfl) (.at rfl) ar_30_3_1 (by rfl) (by decide) ?_
  refine Run.load rfl rfl rfl (.at rfl) (place_adr rfl) sc_2 rfl ?_
  refine Run.idx_arr rfl rfl rfl (.at rfl) (.at rfl) ar_30_3_1 (by rfl) (by decide) ?_
  refine Run.store (j := 0) rfl rfl (.at rfl) rfl rfl (.at rfl) sz_2_1 rfl rfl (by first | decide | exact Nat.le_of_ble_eq_true rfl) rfl ?_
  refine Run.nil ?_
  refine WP.region (l := [0, 1, 2]) rfl ?_
  refine Run.move rfl rfl rfl (.at rfl) ?_
  refine Run.add rfl rfl rfl (.at rfl) (.at rfl) (by omega) ?_
  refine Run.assign rfl rfl rfl (.at rfl) ?_
  refine Run.nil ?_
  refine LP.trim (fr' := [(1, _), (2, _), (3, _), (4, _)]) (H' := [[(_, [_, _, _])], [(_, [_, _, _])], [(_, [_, _, _])]]) ?_ ⟨rfl, rfl, rfl, rfl, trivial⟩ rfl
  refine LP.round ?_
  refine WP.seq ?_
  refine WP.seq (WP.region (l := [0, 1]) rfl ?_)
  refine Run.move rfl rfl rfl (.at rfl) ?_
  refine Run.int rfl rfl rfl (.at rfl) (.at rfl) rfl ?_
  refine Run.nil ?_
  refine WP.cond_t (.at rfl) rfl ?_
  refine WP.skip ?_
  refine WP.seq ?_
  refine WP.block ?_
  refine WP.region (l := [0, 1, 2, 3, 4, 5]) rfl ?_
  refine Run.move rfl rfl rfl (.at rfl) ?_
  refine Run.move rfl rfl rfl (.at rfl) ?_
  refine Run.idx_arr rfl rfl rfl (.at rfl) (.at rfl) ar_30_3_1 (by rfl) (by decide) ?_
  refine Run.load rfl rfl rfl (.at rfl) (place_adr rfl) sc_2 rfl ?_
  refine Run.idx_arr rfl rfl rfl (.at rfl) (.at rfl) ar_30_3_1 (by rfl) (by decide) ?_
  refine Run.store (j := 0) rfl rfl (.at rfl) rfl rfl (.at rfl) sz_2_1 rfl rfl (by first | decide | exact Nat.le_of_ble_eq_true rfl) rfl ?_
  refine Run.nil ?_
  refine WP.region (l := [0, 1, 2]) rfl ?_
  refine Run.move rfl rfl rfl (.at rfl) ?_
  refine Run.add rfl rfl rfl (.at rfl) (.at rfl) (by omega) ?_
  refine Run.assign rfl rfl rfl (.at rfl) ?_
  refine Run.nil ?_
  refine LP.trim (fr' := [(1, _), (2, _), (3, _), (4, _)]) (H' := [[(_, [_, _, _])], [(_, [_, _, _])], [(_, [_, _, _])]]) ?_ ⟨rfl, rfl, rfl, rfl, trivial⟩ rfl
  refine LP.round ?_
  refine WP.seq ?_
  refine WP.seq (WP.region (l := [0, 1]) rfl ?_)
  refine Run.move rfl rfl rfl (.at rfl) ?_
  refine Run.int rfl rfl rfl (.at rfl) (.at rfl) rfl ?_
  refine Run.nil ?_
  refine WP.cond_f (.at rfl) rfl ?_
  refine WP.exit ?_
  refine WP.seq (WP.region (l := [0, 1]) rfl ?_)
  refine Run.loads rfl rfl rfl (.at rfl) (place_adr rfl) ag_30_3 rfl rfl ?_
  refine Run.store (j := 0) rfl rfl (.at rfl) rfl rfl (.at rfl) sz_30_3 rfl rfl (by first | decide | exact Nat.le_of_ble_eq_true rfl) rfl ?_
  refine Run.nil ?_
  refine WP.ret ?_
  exact Ends.pure (.cells rfl (place_adr rfl) ag_30_3 rfl rfl .nil) rfl
theorem c_eqInt64A3 (u v : V3) : Pure Try.prog 67 [u.av, v.av] (.bool (decide (u = v))) := by
  refine Pure.body 2 (n := 17) (fn := Try.f67) (c := Try.f67.body.get!) fn_67 rfl nm_67 rfl rfl fun C => ?_
  refine WP.seq (WP.region (l := [0, 1, 2]) rfl ?_)
  refine Run.box 0 rfl rfl rfl (.at rfl) rfl (fun b2 => ?_)
  refine Run.box 1 rfl rfl rfl (.at rfl) rfl (fun b3 => ?_)
  refine Run.assign rfl rfl rfl (.at rfl) ?_
  refine Run.nil ?_
  refine WP.seq ?_
  refine WP.seq (WP.region (l := [0]) rfl ?_)
  refine Run.assign rfl rfl rfl (.at rfl) ?_
  refine Run.nil ?_
  refine WP.block ?_
  refine WP.loop ?_
  refine LP.trim (fr' := [(2, _), (3, _), (5, _)]) (H' := [[(_, [_, _, _])], [(_, [_, _, _])]]) ?_ ⟨rfl, rfl, rfl, trivial⟩ rfl
  refine LP.round ?_
  refine WP.seq ?_
  refine WP.seq (WP.region (l := [0, 1]) rfl ?_)
  refine Run.move rfl rfl rfl (.at rfl) ?_
  refine Run.int rfl rfl rfl (.at rfl) (.at rfl) rfl ?_
  refine Run.nil ?_
  refine WP.cond_t (.at rfl) rfl ?_
  refine WP.skip ?_
  refine WP.seq ?_
  refine WP.block ?_
  refine WP.seq (WP.draw mx_0 ?_)
  refine Drawn.calmR ?_
  refine' DrawR.op 0 10 0 [(5, none)] rfl rfl (fun rest => ?_) ?_
  rotate_left
  · skip
    refine Run.move rfl rfl rfl (.at rfl) ?_
    exact single_nil
  refine' DrawR.op 1 11 1 [(2, none), (10, some 0)] rfl rfl (fun rest => ?_) ?_
  rotate_left
  · skip
    refine Run.idx_arr rfl rfl rfl (.at rfl) (.at rfl) ar_30_3_1 (by rfl) (by decide) ?_
    exact single_nil
  refine' DrawR.op 2 12 2 [(11, some 0)] rfl rfl (fun rest => ?_) ?_
  rotate_left
  · skip
    refine Run.load rfl rfl rfl (.at rfl) (place_adr rfl) sc_2 rfl ?_
    exact single_nil
  refine' DrawR.op 3 13 3 [(5, none)] rfl rfl (fun rest => ?_) ?_
  rotate_left
  · skip
    refine Run.move rfl rfl rfl (.at rfl) ?_
    exact single_nil
  refine' DrawR.op 4 14 4 [(3, none), (13, some 0)] rfl rfl (fun rest => ?_) ?_
  rotate_left
  · skip
    refine Run.idx_arr rfl rfl rfl (.at rfl) (.at rfl) ar_30_3_1 (by rfl) (by decide) ?_
    exact single_nil
  refine' DrawR.op 5 15 5 [(14, some 0)] rfl rfl (fun rest => ?_) ?_
  rotate_left
  · skip
    refine Run.load rfl rfl rfl (.at rfl) (place_adr rfl) sc_2 rfl ?_
    exact single_nil
  refine' DrawR.op 6 16 6 [(12, some 3), (15, some 0)] rfl rfl (fun rest => ?_) ?_
  rotate_left
  · skip
    refine Run.int rfl rfl rfl (.at rfl) (.at rfl) rfl ?_
    exact single_nil
  refine DrawR.tail [] rfl (by kernel_rfl) ?_
  refine Run.nil ?_
  refine WP.cond (.at rfl) (fun hc1_0 => ?_) (fun hc1_0 => ?_)
  · have hne : u ≠ v := by
      rintro rfl
      simp at hc1_0
    refine WP.seq (WP.region (l := [0]) rfl ?_)
    refine Run.assign rfl rfl rfl (.at rfl) ?_
    refine Run.nil ?_
    refine WP.ret ?_
    exact Ends.pure (.tmp rfl .nil) (by rw [decide_eq_false hne]; rfl)
  · have h1_0 := hc1_0
    refine WP.skip ?_
    refine WP.region (l := [0, 1, 2]) rfl ?_
    refine Run.move rfl rfl rfl (.at rfl) ?_
    refine Run.add rfl rfl rfl (.at rfl) (.at rfl) (by omega) ?_
    refine Run.assign rfl rfl rfl (.at rfl) ?_
    refine Run.nil ?_
    refine LP.trim (fr' := [(2, _), (3, _), (5, _)]) (H' := [[(_, [_, _, _])], [(_, [_, _, _])]]) ?_ ⟨rfl, rfl, rfl, trivial⟩ rfl
    refine LP.round ?_
    refine WP.seq ?_
    refine WP.seq (WP.region (l := [0, 1]) rfl ?_)
    refine Run.move rfl rfl rfl (.at rfl) ?_
    refine Run.int rfl rfl rfl (.at rfl) (.at rfl) rfl ?_
    refine Run.nil ?_
    refine WP.cond_t (.at rfl) rfl ?_
    refine WP.skip ?_
    refine WP.seq ?_
    refine WP.block ?_
    refine WP.seq (WP.draw mx_0 ?_)
    refine Drawn.calmR ?_
    refine' DrawR.op 0 10 0 [(5, none)] rfl rfl (fun rest => ?_) ?_
    rotate_left
    · skip
      refine Run.move rfl rfl rfl (.at rfl) ?_
      exact single_nil
    refine' DrawR.op 1 11 1 [(2, none), (10, some 0)] rfl rfl (fun rest => ?_) ?_
    rotate_left
    · skip
      refine Run.idx_arr rfl rfl rfl (.at rfl) (.at rfl) ar_30_3_1 (by rfl) (by decide) ?_
      exact single_nil
    refine' DrawR.op 2 12 2 [(11, some 0)] rfl rfl (fun rest => ?_) ?_
    rotate_left
    · skip
      refine Run.load rfl rfl rfl (.at rfl) (place_adr rfl) sc_2 rfl ?_
      exact single_nil
    refine' DrawR.op 3 13 3 [(5, none)] rfl rfl (fun rest => ?_) ?_
    rotate_left
    · skip
      refine Run.move rfl rfl rfl (.at rfl) ?_
      exact single_nil
    refine' DrawR.op 4 14 4 [(3, none), (13, some 0)] rfl rfl (fun rest => ?_) ?_
    rotate_left
    · skip
      refine Run.idx_arr rfl rfl rfl (.at rfl) (.at rfl) ar_30_3_1 (by rfl) (by decide) ?_
      exact single_nil
    refine' DrawR.op 5 15 5 [(14, some 0)] rfl rfl (fun rest => ?_) ?_
    rotate_left
    · skip
      refine Run.load rfl rfl rfl (.at rfl) (place_adr rfl) sc_2 rfl ?_
      exact single_nil
    refine' DrawR.op 6 16 6 [(12, some 3), (15, some 0)] rfl rfl (fun rest => ?_) ?_
    rotate_left
    · skip
      refine Run.int rfl rfl rfl (.at rfl) (.at rfl) rfl ?_
      exact single_nil
    refine DrawR.tail [] rfl (by kernel_rfl) ?_
    refine Run.nil ?_
    refine WP.cond (.at rfl) (fun hc1_1 => ?_) (fun hc1_1 => ?_)
    · have hne : u ≠ v := by
        rintro rfl
        simp at hc1_1
      refine WP.seq (WP.region (l := [0]) rfl ?_)
      refine Run.assign rfl rfl rfl (.at rfl) ?_
      refine Run.nil ?_
      refine WP.ret ?_
      exact Ends.pure (.tmp rfl .nil) (by rw [decide_eq_false hne]; rfl)
    · have h1_1 := hc1_1
      refine WP.skip ?_
      refine WP.region (l := [0, 1, 2]) rfl ?_
      refine Run.move rfl rfl rfl (.at rfl) ?_
      refine Run.add rfl rfl rfl (.at rfl) (.at rfl) (by omega) ?_
      refine Run.assign rfl rfl rfl (.at rfl) ?_
      refine Run.nil ?_
      refine LP.trim (fr' := [(2, _), (3, _), (5, _)]) (H' := [[(_, [_, _, _])], [(_, [_, _, _])]]) ?_ ⟨rfl, rfl, rfl, trivial⟩ rfl
      refine LP.round ?_
      refine WP.seq ?_
      refine WP.seq (WP.region (l := [0, 1]) rfl ?_)
      refine Run.move rfl rfl rfl (.at rfl) ?_
      refine Run.int rfl rfl rfl (.at rfl) (.at rfl) rfl ?_
      refine Run.nil ?_
      refine WP.cond_t (.at rfl) rfl ?_
      refine WP.skip ?_
      refine WP.seq ?_
      refine WP.block ?_
      refine WP.seq (WP.draw mx_0 ?_)
      refine Drawn.calmR ?_
      refine' DrawR.op 0 10 0 [(5, none)] rfl rfl (fun rest => ?_) ?_
      rotate_left
      · skip
        refine Run.move rfl rfl rfl (.at rfl) ?_
        exact single_nil
      refine' DrawR.op 1 11 1 [(2, none), (10, some 0)] rfl rfl (fun rest => ?_) ?_
      rotate_left
      · skip
        refine Run.idx_arr rfl rfl rfl (.at rfl) (.at rfl) ar_30_3_1 (by rfl) (by decide) ?_
        exact single_nil
      refine' DrawR.op 2 12 2 [(11, some 0)] rfl rfl (fun rest => ?_) ?_
      rotate_left
      · skip
        refine Run.load rfl rfl rfl (.at rfl) (place_adr rfl) sc_2 rfl ?_
        exact single_nil
      refine' DrawR.op 3 13 3 [(5, none)] rfl rfl (fun rest => ?_) ?_
      rotate_left
      · skip
        refine Run.move rfl rfl rfl (.at rfl) ?_
        exact single_nil
      refine' DrawR.op 4 14 4 [(3, none), (13, some 0)] rfl rfl (fun rest => ?_) ?_
      rotate_left
      · skip
        refine Run.idx_arr rfl rfl rfl (.at rfl) (.at rfl) ar_30_3_1 (by rfl) (by decide) ?_
        exact single_nil
      refine' DrawR.op 5 15 5 [(14, some 0)] rfl rfl (fun rest => ?_) ?_
      rotate_left
      · skip
        refine Run.load rfl rfl rfl (.at rfl) (place_adr rfl) sc_2 rfl ?_
        exact single_nil
      refine' DrawR.op 6 16 6 [(12, some 3), (15, some 0)] rfl rfl (fun rest => ?_) ?_
      rotate_left
      · skip
        refine Run.int rfl rfl rfl (.at rfl) (.at rfl) rfl ?_
        exact single_nil
      refine DrawR.tail [] rfl (by kernel_rfl) ?_
      refine Run.nil ?_
      refine WP.cond (.at rfl) (fun hc1_2 => ?_) (fun hc1_2 => ?_)
      · have hne : u ≠ v := by
          rintro rfl
          simp at hc1_2
        refine WP.seq (WP.region (l := [0]) rfl ?_)
        refine Run.assign rfl rfl rfl (.at rfl) ?_
        refine Run.nil ?_
        refine WP.ret ?_
        exact Ends.pure (.tmp rfl .nil) (by rw [decide_eq_false hne]; rfl)
      · have h1_2 := hc1_2
        refine WP.skip ?_
        refine WP.region (l := [0, 1, 2]) rfl ?_
        refine Run.move rfl rfl rfl (.at rfl) ?_
        refine Run.add rfl rfl rfl (.at rfl) (.at rfl) (by omega) ?_
        refine Run.assign rfl rfl rfl (.at rfl) ?_
        refine Run.nil ?_
        refine LP.trim (fr' := [(2, _), (3, _), (5, _)]) (H' := [[(_, [_, _, _])], [(_, [_, _, _])]]) ?_ ⟨rfl, rfl, rfl, trivial⟩ rfl
        refine LP.round ?_
        refine WP.seq ?_
        refine WP.seq (WP.region (l := [0, 1]) rfl ?_)
        refine Run.move rfl rfl rfl (.at rfl) ?_
        refine Run.int rfl rfl rfl (.at rfl) (.at rfl) rfl ?_
        refine Run.nil ?_
        refine WP.cond_f (.at rfl) rfl ?_
        refine WP.exit ?_
        refine WP.seq (WP.region (l := [0]) rfl ?_)
        refine Run.assign rfl rfl rfl (.at rfl) ?_
        refine Run.nil ?_
        refine WP.ret ?_
        exact Ends.pure (.tmp rfl .nil) (by
          have he : u = v := by
            rw [V3.ext_iff']
            simp only [bne_eq_false_iff_eq] at h1_0 h1_1 h1_2
            exact ⟨h1_0, h1_1, h1_2⟩
          rw [decide_eq_true he]; rfl)
theorem c_toMap (m : M3) : Pure Try.prog 24 [m.av] m.av := by
  refine Pure.body 3 (n := 16) (fn := Try.f24) (c := Try.f24.body.get!) fn_24 rfl nm_24 rfl rfl fun C => ?_
  refine WP.seq (WP.region (l := [0, 1]) rfl ?_)
  refine Run.box 0 rfl rfl rfl (.at rfl) rfl (fun b1 => ?_)
  refine Run.alloc 1 rfl rfl rfl zr_44 (fun b2 => ?_)
  refine Run.nil ?_
  refine WP.seq (WP.region (l := [0]) rfl ?_)
  refine Run.alloc 2 rfl rfl rfl zr_44 (fun b3 => ?_)
  refine Run.nil ?_
  refine WP.seq ?_
  refine WP.seq (WP.region (l := [0]) rfl ?_)
  refine Run.assign rfl rfl rfl (.at rfl) ?_
  refine Run.nil ?_
  refine WP.block ?_
  refine WP.loop ?_
  refine LP.trim (fr' := [(1, _), (2, _), (3, _), (4, _)]) (H' := [[(_, [_, _, _, _, _, _, _, _, _])], [(_, [_, _, _, _, _, _, _, _, _])], [(_, [_, _, _, _, _, _, _, _, _])]]) ?_ ⟨rfl, rfl, rfl, rfl, trivial⟩ rfl
  refine LP.round ?_
  refine WP.seq ?_
  refine WP.seq (WP.region (l := [0, 1]) rfl ?_)
  refine Run.move rfl rfl rfl (.at rfl) ?_
  refine Run.int rfl rfl rfl (.at rfl) (.at rfl) rfl ?_
  refine Run.nil ?_
  refine WP.cond_t (.at rfl) rfl ?_
  refine WP.skip ?_
  refine WP.seq ?_
  refine WP.block ?_
  refine WP.region (l := [0, 1, 2, 3, 4, 5, 6]) rfl ?_
  refine Run.move rfl rfl rfl (.at rfl) ?_
  refine Run.move rfl rfl rfl (.at rfl) ?_
  refine Run.idx_arr rfl rfl rfl (.at rfl) (.at rfl) ar_43_3_3 (by rfl) (by decide) ?_
  refine Run.loads rfl rfl rfl (.at rfl) (place_adr rfl) ag_30_3 rfl rfl ?_
  refine Run.call rfl rfl rfl (.at rfl) (.cons (.at rfl) .nil) (c_toInt64A3 m.r0) ?_
  refine Run.idx_arr rfl rfl rfl (.at rfl) (.at rfl) ar_44_3_3 (by rfl) (by decide) ?_
  refine Run.store (j := 0) rfl rfl (.at rfl) rfl rfl (.at rfl) sz_30_3 rfl rfl (by first | decide | exact Nat.le_of_ble_eq_true rfl) rfl ?_
  refine Run.nil ?_
  refine WP.region (l := [0, 1, 2]) rfl ?_
  refine Run.move rfl rfl rfl (.at rfl) ?_
  refine Run.add rfl rfl rfl (.at rfl) (.at rfl) (by omega) ?_
  refine Run.assign rfl rfl rfl (.at rfl) ?_
  refine Run.nil ?_
  refine LP.trim (fr' := [(1, _), (2, _), (3, _), (4, _)]) (H' := [[(_, [_, _, _, _, _, _, _, _, _])], [(_, [_, _, _, _, _, _, _, _, _])], [(_, [_, _, _, _, _, _, _, _, _])]]) ?_ ⟨rfl, rfl, rfl, rfl, trivial⟩ rfl
  refine LP.round ?_
  refine WP.seq ?_
  refine WP.seq (WP.region (l := [0, 1]) rfl ?_)
  refine Run.move rfl rfl rfl (.at rfl) ?_
  refine Run.int rfl rfl rfl (.at rfl) (.at rfl) rfl ?_
  refine Run.nil ?_
  refine WP.cond_t (.at rfl) rfl ?_
  refine WP.skip ?_
  refine WP.seq ?_
  refine WP.block ?_
  refine WP.region (l := [0, 1, 2, 3, 4, 5, 6]) rfl ?_
  refine Run.move rfl rfl rfl (.at rfl) ?_
  refine Run.move rfl rfl rfl (.at rfl) ?_
  refine Run.idx_arr rfl rfl rfl (.at rfl) (.at rfl) ar_43_3_3 (by rfl) (by decide) ?_
  refine Run.loads rfl rfl rfl (.at rfl) (place_adr rfl) ag_30_3 rfl rfl ?_
  refine Run.call rfl rfl rfl (.at rfl) (.cons (.at rfl) .nil) (c_toInt64A3 m.r1) ?_
  refine Run.idx_arr rfl rfl rfl (.at rfl) (.at rfl) ar_44_3_3 (by rfl) (by decide) ?_
  refine Run.store (j := 0) rfl rfl (.at rfl) rfl rfl (.at rfl) sz_30_3 rfl rfl (by first | decide | exact Nat.le_of_ble_eq_true rfl) rfl ?_
  refine Run.nil ?_
  refine WP.region (l := [0, 1, 2]) rfl ?_
  refine Run.move rfl rfl rfl (.at rfl) ?_
  refine Run.add rfl rfl rfl (.at rfl) (.at rfl) (by omega) ?_
  refine Run.assign rfl rfl rfl (.at rfl) ?_
  refine Run.nil ?_
  refine LP.trim (fr' := [(1, _), (2, _), (3, _), (4, _)]) (H' := [[(_, [_, _, _, _, _, _, _, _, _])], [(_, [_, _, _, _, _, _, _, _, _])], [(_, [_, _, _, _, _, _, _, _, _])]]) ?_ ⟨rfl, rfl, rfl, rfl, trivial⟩ rfl
  refine LP.round ?_
  refine WP.seq ?_
  refine WP.seq (WP.region (l := [0, 1]) rfl ?_)
  refine Run.move rfl rfl rfl (.at rfl) ?_
  refine Run.int rfl rfl rfl (.at rfl) (.at rfl) rfl ?_
  refine Run.nil ?_
  refine WP.cond_t (.at rfl) rfl ?_
  refine WP.skip ?_
  refine WP.seq ?_
  refine WP.block ?_
  refine WP.region (l := [0, 1, 2, 3, 4, 5, 6]) rfl ?_
  refine Run.move rfl rfl rfl (.at rfl) ?_
  refine Run.move rfl rfl rfl (.at rfl) ?_
  refine Run.idx_arr rfl rfl rfl (.at rfl) (.at rfl) ar_43_3_3 (by rfl) (by decide) ?_
  refine Run.loads rfl rfl rfl (.at rfl) (place_adr rfl) ag_30_3 rfl rfl ?_
  refine Run.call rfl rfl rfl (.at rfl) (.cons (.at rfl) .nil) (c_toInt64A3 m.r2) ?_
  refine Run.idx_arr rfl rfl rfl (.at rfl) (.at rfl) ar_44_3_3 (by rfl) (by decide) ?_
  refine Run.store (j := 0) rfl rfl (.at rfl) rfl rfl (.at rfl) sz_30_3 rfl rfl (by first | decide | exact Nat.le_of_ble_eq_true rfl) rfl ?_
  refine Run.nil ?_
  refine WP.region (l := [0, 1, 2]) rfl ?_
  refine Run.move rfl rfl rfl (.at rfl) ?_
  refine Run.add rfl rfl rfl (.at rfl) (.at rfl) (by omega) ?_
  refine Run.assign rfl rfl rfl (.at rfl) ?_
  refine Run.nil ?_
  refine LP.trim (fr' := [(1, _), (2, _), (3, _), (4, _)]) (H' := [[(_, [_, _, _, _, _, _, _, _, _])], [(_, [_, _, _, _, _, _, _, _, _])], [(_, [_, _, _, _, _, _, _, _, _])]]) ?_ ⟨rfl, rfl, rfl, rfl, trivial⟩ rfl
  refine LP.round ?_
  refine WP.seq ?_
  refine WP.seq (WP.region (l := [0, 1]) rfl ?_)
  refine Run.move rfl rfl rfl (.at rfl) ?_
  refine Run.int rfl rfl rfl (.at rfl) (.at rfl) rfl ?_
  refine Run.nil ?_
  refine WP.cond_f (.at rfl) rfl ?_
  refine WP.exit ?_
  refine WP.seq (WP.region (l := [0, 1]) rfl ?_)
  refine Run.loads rfl rfl rfl (.at rfl) (place_adr rfl) ag_44_9 rfl rfl ?_
  refine Run.store (j := 0) rfl rfl (.at rfl) rfl rfl (.at rfl) sz_44_9 rfl rfl (by first | decide | exact Nat.le_of_ble_eq_true rfl) rfl ?_
  refine Run.nil ?_
  refine WP.ret ?_
  exact Ends.pure (.cells rfl (place_adr rfl) ag_44_9 rfl rfl .nil) rfl
theorem c_eqMap (u v : M3) : Pure Try.prog 47 [u.av, v.av] (.bool (decide (u = v))) := by
  refine Pure.body 2 (n := 18) (fn := Try.f47) (c := Try.f47.body.get!) fn_47 rfl nm_47 rfl rfl fun C => ?_
  refine WP.seq (WP.region (l := [0, 1, 2]) rfl ?_)
  refine Run.box 0 rfl rfl rfl (.at rfl) rfl (fun b2 => ?_)
  refine Run.box 1 rfl rfl rfl (.at rfl) rfl (fun b3 => ?_)
  refine Run.assign rfl rfl rfl (.at rfl) ?_
  refine Run.nil ?_
  refine WP.seq ?_
  refine WP.seq (WP.region (l := [0]) rfl ?_)
  refine Run.assign rfl rfl rfl (.at rfl) ?_
  refine Run.nil ?_
  refine WP.block ?_
  refine WP.loop ?_
  refine LP.trim (fr' := [(2, _), (3, _), (5, _)]) (H' := [[(_, [_, _, _, _, _, _, _, _, _])], [(_, [_, _, _, _, _, _, _, _, _])]]) ?_ ⟨rfl, rfl, rfl, trivial⟩ rfl
  refine LP.round ?_
  refine WP.seq ?_
  refine WP.seq (WP.region (l := [0, 1]) rfl ?_)
  refine Run.move rfl rfl rfl (.at rfl) ?_
  refine Run.int rfl rfl rfl (.at rfl) (.at rfl) rfl ?_
  refine Run.nil ?_
  refine WP.cond_t (.at rfl) rfl ?_
  refine WP.skip ?_
  refine WP.seq ?_
  refine WP.block ?_
  refine WP.seq (WP.draw mx_0 ?_)
  refine Drawn.calmR ?_
  refine' DrawR.op 0 10 0 [(5, none)] rfl rfl (fun rest => ?_) ?_
  rotate_left
  · skip
    refine Run.move rfl rfl rfl (.at rfl) ?_
    exact single_nil
  refine' DrawR.op 1 11 1 [(2, none), (10, some 0)] rfl rfl (fun rest => ?_) ?_
  rotate_left
  · skip
    refine Run.idx_arr rfl rfl rfl (.at rfl) (.at rfl) ar_44_3_3 (by rfl) (by decide) ?_
    exact single_nil
  refine' DrawR.op 2 12 2 [(11, some 0)] rfl rfl (fun rest => ?_) ?_
  rotate_left
  · skip
    refine Run.loads rfl rfl rfl (.at rfl) (place_adr rfl) ag_30_3 rfl rfl ?_
    exact single_nil
  refine' DrawR.op 3 13 3 [(5, none)] rfl rfl (fun rest => ?_) ?_
  rotate_left
  · skip
    refine Run.move rfl rfl rfl (.at rfl) ?_
    exact single_nil
  refine' DrawR.op 4 14 4 [(3, none), (13, some 0)] rfl rfl (fun rest => ?_) ?_
  rotate_left
  · skip
    refine Run.idx_arr rfl rfl rfl (.at rfl) (.at rfl) ar_44_3_3 (by rfl) (by decide) ?_
    exact single_nil
  refine' DrawR.op 5 15 5 [(14, some 0)] rfl rfl (fun rest => ?_) ?_
  rotate_left
  · skip
    refine Run.loads rfl rfl rfl (.at rfl) (place_adr rfl) ag_30_3 rfl rfl ?_
    exact single_nil
  refine' DrawR.op 6 16 6 [(12, some 3), (15, some 0)] rfl rfl (fun rest => ?_) ?_
  rotate_left
  · skip
    refine Run.call rfl rfl rfl (.at rfl) (.cons (.at rfl) (.cons (.at rfl) .nil)) (c_eqInt64A3 u.r0 v.r0) ?_
    exact single_nil
  refine' DrawR.op 7 17 7 [(16, some 0)] rfl rfl (fun rest => ?_) ?_
  rotate_left
  · skip
    refine Run.not rfl rfl rfl (.at rfl) ?_
    exact single_nil
  refine DrawR.tail [] rfl (by kernel_rfl) ?_
  refine Run.nil ?_
  refine WP.cond (.at rfl) (fun hc1_0 => ?_) (fun hc1_0 => ?_)
  · have hne : u ≠ v := by
      rintro rfl
      simp at hc1_0
    refine WP.seq (WP.region (l := [0]) rfl ?_)
    refine Run.assign rfl rfl rfl (.at rfl) ?_
    refine Run.nil ?_
    refine WP.ret ?_
    exact Ends.pure (.tmp rfl .nil) (by rw [decide_eq_false hne]; rfl)
  · have h1_0 := hc1_0
    refine WP.skip ?_
    refine WP.region (l := [0, 1, 2]) rfl ?_
    refine Run.move rfl rfl rfl (.at rfl) ?_
    refine Run.add rfl rfl rfl (.at rfl) (.at rfl) (by omega) ?_
    refine Run.assign rfl rfl rfl (.at rfl) ?_
    refine Run.nil ?_
    refine LP.trim (fr' := [(2, _), (3, _), (5, _)]) (H' := [[(_, [_, _, _, _, _, _, _, _, _])], [(_, [_, _, _, _, _, _, _, _, _])]]) ?_ ⟨rfl, rfl, rfl, trivial⟩ rfl
    refine LP.round ?_
    refine WP.seq ?_
    refine WP.seq (WP.region (l := [0, 1]) rfl ?_)
    refine Run.move rfl rfl rfl (.at rfl) ?_
    refine Run.int rfl rfl rfl (.at rfl) (.at rfl) rfl ?_
    refine Run.nil ?_
    refine WP.cond_t (.at rfl) rfl ?_
    refine WP.skip ?_
    refine WP.seq ?_
    refine WP.block ?_
    refine WP.seq (WP.draw mx_0 ?_)
    refine Drawn.calmR ?_
    refine' DrawR.op 0 10 0 [(5, none)] rfl rfl (fun rest => ?_) ?_
    rotate_left
    · skip
      refine Run.move rfl rfl rfl (.at rfl) ?_
      exact single_nil
    refine' DrawR.op 1 11 1 [(2, none), (10, some 0)] rfl rfl (fun rest => ?_) ?_
    rotate_left
    · skip
      refine Run.idx_arr rfl rfl rfl (.at rfl) (.at rfl) ar_44_3_3 (by rfl) (by decide) ?_
      exact single_nil
    refine' DrawR.op 2 12 2 [(11, some 0)] rfl rfl (fun rest => ?_) ?_
    rotate_left
    · skip
      refine Run.loads rfl rfl rfl (.at rfl) (place_adr rfl) ag_30_3 rfl rfl ?_
      exact single_nil
    refine' DrawR.op 3 13 3 [(5, none)] rfl rfl (fun rest => ?_) ?_
    rotate_left
    · skip
      refine Run.move rfl rfl rfl (.at rfl) ?_
      exact single_nil
    refine' DrawR.op 4 14 4 [(3, none), (13, some 0)] rfl rfl (fun rest => ?_) ?_
    rotate_left
    · skip
      refine Run.idx_arr rfl rfl rfl (.at rfl) (.at rfl) ar_44_3_3 (by rfl) (by decide) ?_
      exact single_nil
    refine' DrawR.op 5 15 5 [(14, some 0)] rfl rfl (fun rest => ?_) ?_
    rotate_left
    · skip
      refine Run.loads rfl rfl rfl (.at rfl) (place_adr rfl) ag_30_3 rfl rfl ?_
      exact single_nil
    refine' DrawR.op 6 16 6 [(12, some 3), (15, some 0)] rfl rfl (fun rest => ?_) ?_
    rotate_left
    · skip
      refine Run.call rfl rfl rfl (.at rfl) (.cons (.at rfl) (.cons (.at rfl) .nil)) (c_eqInt64A3 u.r1 v.r1) ?_
      exact single_nil
    refine' DrawR.op 7 17 7 [(16, some 0)] rfl rfl (fun rest => ?_) ?_
    rotate_left
    · skip
      refine Run.not rfl rfl rfl (.at rfl) ?_
      exact single_nil
    refine DrawR.tail [] rfl (by kernel_rfl) ?_
    refine Run.nil ?_
    refine WP.cond (.at rfl) (fun hc1_1 => ?_) (fun hc1_1 => ?_)
    · have hne : u ≠ v := by
        rintro rfl
        simp at hc1_1
      refine WP.seq (WP.region (l := [0]) rfl ?_)
      refine Run.assign rfl rfl rfl (.at rfl) ?_
      refine Run.nil ?_
      refine WP.ret ?_
      exact Ends.pure (.tmp rfl .nil) (by rw [decide_eq_false hne]; rfl)
    · have h1_1 := hc1_1
      refine WP.skip ?_
      refine WP.region (l := [0, 1, 2]) rfl ?_
      refine Run.move rfl rfl rfl (.at rfl) ?_
      refine Run.add rfl rfl rfl (.at rfl) (.at rfl) (by omega) ?_
      refine Run.assign rfl rfl rfl (.at rfl) ?_
      refine Run.nil ?_
      refine LP.trim (fr' := [(2, _), (3, _), (5, _)]) (H' := [[(_, [_, _, _, _, _, _, _, _, _])], [(_, [_, _, _, _, _, _, _, _, _])]]) ?_ ⟨rfl, rfl, rfl, trivial⟩ rfl
      refine LP.round ?_
      refine WP.seq ?_
      refine WP.seq (WP.region (l := [0, 1]) rfl ?_)
      refine Run.move rfl rfl rfl (.at rfl) ?_
      refine Run.int rfl rfl rfl (.at rfl) (.at rfl) rfl ?_
      refine Run.nil ?_
      refine WP.cond_t (.at rfl) rfl ?_
      refine WP.skip ?_
      refine WP.seq ?_
      refine WP.block ?_
      refine WP.seq (WP.draw mx_0 ?_)
      refine Drawn.calmR ?_
      refine' DrawR.op 0 10 0 [(5, none)] rfl rfl (fun rest => ?_) ?_
      rotate_left
      · skip
        refine Run.move rfl rfl rfl (.at rfl) ?_
        exact single_nil
      refine' DrawR.op 1 11 1 [(2, none), (10, some 0)] rfl rfl (fun rest => ?_) ?_
      rotate_left
      · skip
        refine Run.idx_arr rfl rfl rfl (.at rfl) (.at rfl) ar_44_3_3 (by rfl) (by decide) ?_
        exact single_nil
      refine' DrawR.op 2 12 2 [(11, some 0)] rfl rfl (fun rest => ?_) ?_
      rotate_left
      · skip
        refine Run.loads rfl rfl rfl (.at rfl) (place_adr rfl) ag_30_3 rfl rfl ?_
        exact single_nil
      refine' DrawR.op 3 13 3 [(5, none)] rfl rfl (fun rest => ?_) ?_
      rotate_left
      · skip
        refine Run.move rfl rfl rfl (.at rfl) ?_
        exact single_nil
      refine' DrawR.op 4 14 4 [(3, none), (13, some 0)] rfl rfl (fun rest => ?_) ?_
      rotate_left
      · skip
        refine Run.idx_arr rfl rfl rfl (.at rfl) (.at rfl) ar_44_3_3 (by rfl) (by decide) ?_
        exact single_nil
      refine' DrawR.op 5 15 5 [(14, some 0)] rfl rfl (fun rest => ?_) ?_
      rotate_left
      · skip
        refine Run.loads rfl rfl rfl (.at rfl) (place_adr rfl) ag_30_3 rfl rfl ?_
        exact single_nil
      refine' DrawR.op 6 16 6 [(12, some 3), (15, some 0)] rfl rfl (fun rest => ?_) ?_
      rotate_left
      · skip
        refine Run.call rfl rfl rfl (.at rfl) (.cons (.at rfl) (.cons (.at rfl) .nil)) (c_eqInt64A3 u.r2 v.r2) ?_
        exact single_nil
      refine' DrawR.op 7 17 7 [(16, some 0)] rfl rfl (fun rest => ?_) ?_
      rotate_left
      · skip
        refine Run.not rfl rfl rfl (.at rfl) ?_
        exact single_nil
      refine DrawR.tail [] rfl (by kernel_rfl) ?_
      refine Run.nil ?_
      refine WP.cond (.at rfl) (fun hc1_2 => ?_) (fun hc1_2 => ?_)
      · have hne : u ≠ v := by
          rintro rfl
          simp at hc1_2
        refine WP.seq (WP.region (l := [0]) rfl ?_)
        refine Run.assign rfl rfl rfl (.at rfl) ?_
        refine Run.nil ?_
        refine WP.ret ?_
        exact Ends.pure (.tmp rfl .nil) (by rw [decide_eq_false hne]; rfl)
      · have h1_2 := hc1_2
        refine WP.skip ?_
        refine WP.region (l := [0, 1, 2]) rfl ?_
        refine Run.move rfl rfl rfl (.at rfl) ?_
        refine Run.add rfl rfl rfl (.at rfl) (.at rfl) (by omega) ?_
        refine Run.assign rfl rfl rfl (.at rfl) ?_
        refine Run.nil ?_
        refine LP.trim (fr' := [(2, _), (3, _), (5, _)]) (H' := [[(_, [_, _, _, _, _, _, _, _, _])], [(_, [_, _, _, _, _, _, _, _, _])]]) ?_ ⟨rfl, rfl, rfl, trivial⟩ rfl
        refine LP.round ?_
        refine WP.seq ?_
        refine WP.seq (WP.region (l := [0, 1]) rfl ?_)
        refine Run.move rfl rfl rfl (.at rfl) ?_
        refine Run.int rfl rfl rfl (.at rfl) (.at rfl) rfl ?_
        refine Run.nil ?_
        refine WP.cond_f (.at rfl) rfl ?_
        refine WP.exit ?_
        refine WP.seq (WP.region (l := [0]) rfl ?_)
        refine Run.assign rfl rfl rfl (.at rfl) ?_
        refine Run.nil ?_
        refine WP.ret ?_
        exact Ends.pure (.tmp rfl .nil) (by
          have he : u = v := by
            rw [M3.ext_iff']
            simp only [Bool.not_eq_false', decide_eq_true_eq] at h1_0 h1_1 h1_2
            exact ⟨h1_0, h1_1, h1_2⟩
          rw [decide_eq_true he]; rfl)
theorem l_toMapS0 {C : Cx Try.prog 52} {Q : Post} {l : List M3} {n b : Nat} (hl : n ≤ 1000000) (hn : l.length = n)
    (hQ : Q (.exit 0) ⟨[(0, .imm (cs9 l) n), (5, .own 0 b 9 0 (n + room n) (n + room n) false)], [[(b, cs9 (fillM l n n))]]⟩) :
    ∀ (d k : Nat) (cs : List AV), k + d = n → cs = cs9 (fillM l n k) → LP C (nav Try.f8.body.get! [1, 1, 1, 0, 1, 0, 0]) Q ⟨[(0, .imm (cs9 l) n), (5, .own 0 b 9 0 (n + room n) (n + room n) false), (6, .int .i64 k)], [[(b, cs)]]⟩ := by
  have hrm := room_le n
  intro d
  induction d with
  | zero =>
    intro k cs hd hc
    have hk : k = n := by omega
    refine LP.round ?_
    refine WP.seq ?_
    refine WP.seq (WP.region (l := [0, 1, 2, 3]) rfl ?_)
    refine Run.move rfl rfl rfl (.at rfl) ?_
    refine Run.move rfl rfl rfl (.at rfl) ?_
    refine Run.len rfl rfl rfl (.at rfl) is_22 rfl ?_
    refine Run.int rfl rfl rfl (.at rfl) (.at rfl) rfl ?_
    refine Run.nil ?_
    refine WP.cond_f (.at rfl) (by simp; omega) ?_
    rw [hk] at hc
    subst hc
    exact WP.keep (WP.exit hQ) (by repeat (first | exact trivial | refine ⟨rfl, ?_⟩)) (by repeat (first | exact HSub.nil | refine HSub.keep ?_ | refine HSub.dead ?_))
  | succ d ih =>
    intro k cs hd hc
    have hk : k < l.length := by omega
    have hkN : k < n + room n := by omega
    have hcl : cs.length = (n + room n) * 9 := by rw [hc, cs9_length, fillTo_length]
    have hf : padF l M3.J k = l.getD k M3.O := by simp [padF, hk]
    refine LP.round ?_
    refine WP.seq ?_
    refine WP.seq (WP.region (l := [0, 1, 2, 3]) rfl ?_)
    refine Run.move rfl rfl rfl (.at rfl) ?_
    refine Run.move rfl rfl rfl (.at rfl) ?_
    refine Run.len rfl rfl rfl (.at rfl) is_22 rfl ?_
    refine Run.int rfl rfl rfl (.at rfl) (.at rfl) rfl ?_
    refine Run.nil ?_
    refine WP.cond_t (.at rfl) (by simp; omega) ?_
    refine WP.skip ?_
    refine WP.seq ?_
    refine WP.block ?_
    refine WP.region (l := [0, 1, 2, 3, 4, 5, 6, 7, 8]) rfl ?_
    refine Run.move rfl rfl rfl (.at rfl) ?_
    refine Run.move rfl rfl rfl (.at rfl) ?_
    refine Run.move rfl rfl rfl (.at rfl) ?_
    refine Run.move rfl rfl rfl (.at rfl) ?_
    refine Run.idx_imm (j := k) rfl rfl rfl (.at rfl) (.at rfl) sl_22_9 rfl (show k < n by omega) ?_
    refine Run.loads rfl rfl rfl (.at rfl) .imm ag_43_9 (cs9_get hk) rfl ?_
    refine Run.call rfl rfl rfl (.at rfl) (.cons (.at rfl) .nil) (c_toMap (l.getD k M3.O)) ?_
    refine Run.idx (j := k) rfl rfl rfl (.at rfl) (.at rfl) sl_26_9 rfl hkN ?_
    refine Run.store (j := 0) rfl rfl (.at rfl) rfl rfl (.at rfl) sz_44_9 rfl rfl (by omega) rfl ?_
    refine Run.nil ?_
    refine WP.region (l := [0, 1, 2]) rfl ?_
    refine Run.move rfl rfl rfl (.at rfl) ?_
    refine Run.add rfl rfl rfl (.at rfl) (.at rfl) (by omega) ?_
    refine Run.assign rfl rfl rfl (.at rfl) ?_
    refine Run.nil ?_
    refine LP.keep (ih (k + 1) _ (by omega) ?_) (by repeat (first | exact trivial | refine ⟨rfl, ?_⟩)) (by repeat (first | exact HSub.nil | refine HSub.keep ?_ | refine HSub.dead ?_))
    rw [hc]
    unfold fillM
    rw [← fillTo_next _ _ hkN, hf]
    exact cs9_set _ (by rw [fillTo_length]; exact hkN)
theorem l_toMapS1 {C : Cx Try.prog 52} {Q : Post} {l : List M3} {n b : Nat} (hl : n ≤ 1000000) (hn : l.length = n)
    (hQ : Q (.exit 2) ⟨[(0, .imm (cs9 l) n), (5, .own 0 b 9 0 (n + room n) (n + room n) false)], [[(b, cs9 (fillM l n (n + room n)))]]⟩) :
    ∀ (d k : Nat) (cs : List AV), n ≤ k → k + d = n + room n → cs = cs9 (fillM l n k) → LP C (nav Try.f8.body.get! [1, 1, 1, 1, 0, 1, 0, 0]) Q ⟨[(0, .imm (cs9 l) n), (5, .own 0 b 9 0 (n + room n) (n + room n) false), (7, .int .i64 k)], [[(b, cs)]]⟩ := by
  have hrm := room_le n
  intro d
  induction d with
  | zero =>
    intro k cs hnk hd hc
    have hk : k = n + room n := by omega
    refine LP.round ?_
    refine WP.seq ?_
    refine WP.seq (WP.region (l := [0, 1, 2, 3]) rfl ?_)
    refine Run.move rfl rfl rfl (.at rfl) ?_
    refine Run.move rfl rfl rfl (.at rfl) ?_
    refine Run.len rfl rfl rfl (.at rfl) is_26 rfl ?_
    refine Run.int rfl rfl rfl (.at rfl) (.at rfl) rfl ?_
    refine Run.nil ?_
    refine WP.cond_f (.at rfl) (by simp; omega) ?_
    rw [hk] at hc
    subst hc
    exact WP.keep (WP.exit hQ) (by repeat (first | exact trivial | refine ⟨rfl, ?_⟩)) (by repeat (first | exact HSub.nil | refine HSub.keep ?_ | refine HSub.dead ?_))
  | succ d ih =>
    intro k cs hnk hd hc
    have hkN : k < n + room n := by omega
    have hcl : cs.length = (n + room n) * 9 := by rw [hc, cs9_length, fillTo_length]
    have hf : padF l M3.J k = M3.J := by simp [padF, hn, hnk]
    refine LP.round ?_
    refine WP.seq ?_
    refine WP.seq (WP.region (l := [0, 1, 2, 3]) rfl ?_)
    refine Run.move rfl rfl rfl (.at rfl) ?_
    refine Run.move rfl rfl rfl (.at rfl) ?_
    refine Run.len rfl rfl rfl (.at rfl) is_26 rfl ?_
    refine Run.int rfl rfl rfl (.at rfl) (.at rfl) rfl ?_
    refine Run.nil ?_
    refine WP.cond_t (.at rfl) (by simp; omega) ?_
    refine WP.skip ?_
    refine WP.seq ?_
    refine WP.block ?_
    refine WP.region (l := [0, 1, 2, 3, 4, 5]) rfl ?_
    refine Run.move rfl rfl rfl (.at rfl) ?_
    refine Run.move rfl rfl rfl (.at rfl) ?_
    refine Run.build rfl rfl rfl bd_30 (.cons (.at rfl) rfl .nil) rfl ?_
    refine Run.build rfl rfl rfl bd_44 (.cons (.at rfl) rfl .nil) rfl ?_
    refine Run.idx (j := k) rfl rfl rfl (.at rfl) (.at rfl) sl_26_9 rfl hkN ?_
    refine Run.store (j := 0) rfl rfl (.at rfl) rfl rfl (.at rfl) sz_44_9 rfl rfl (by omega) rfl ?_
    refine Run.nil ?_
    refine WP.region (l := [0, 1, 2]) rfl ?_
    refine Run.move rfl rfl rfl (.at rfl) ?_
    refine Run.add rfl rfl rfl (.at rfl) (.at rfl) (by omega) ?_
    refine Run.assign rfl rfl rfl (.at rfl) ?_
    refine Run.nil ?_
    refine LP.keep (ih (k + 1) _ (by omega) (by omega) ?_) (by repeat (first | exact trivial | refine ⟨rfl, ?_⟩)) (by repeat (first | exact HSub.nil | refine HSub.keep ?_ | refine HSub.dead ?_))
    rw [hc]
    unfold fillM
    rw [← fillTo_next _ _ hkN, hf]
    exact cs9_set M3.J (by rw [fillTo_length]; exact hkN)
theorem c_toMapS (id : Nat) (l : List M3) (bare : Bool) {n : Nat} (hl : n ≤ 1000000) (hn : l.length = n) (hb : (bare && decide (n = 0)) = false) :
    Acts Try.prog 8 [.imm (cs9 l) n, .bool bare] [] (fun x H => ∃ b, x = .own id b 9 0 n (n + room n) false ∧ H = [[(b, cs9 (padM l))]]) := by
  have hrm := room_le n
  refine Acts.body 1 (n := 52) (fn := Try.f8) (c := Try.f8.body.get!) fn_8 rfl nm_8 rfl rfl fun C => ?_
  refine WP.seq (WP.region (l := [0]) rfl ?_)
  refine Run.assign rfl rfl rfl (.at rfl) ?_
  refine Run.nil ?_
  refine WP.seq ?_
  refine WP.seq (WP.region (l := [0, 1, 2, 3, 4, 5]) rfl ?_)
  refine Run.move rfl rfl rfl (.at rfl) ?_
  refine Run.move rfl rfl rfl (.at rfl) ?_
  refine' Run.guarded rfl rfl rfl rfl rfl rfl (fun ht => ?_) ?_
  rotate_left
  · skip
    refine Run.move rfl rfl rfl (.at rfl) ?_
    exact single_nil
  refine' Run.guarded rfl rfl rfl rfl rfl rfl (fun ht => ?_) ?_
  rotate_left
  · skip
    refine Run.len rfl rfl rfl (.opt rfl ht) is_22 rfl ?_
    exact single_nil
  refine' Run.guarded rfl rfl rfl rfl rfl rfl (fun ht => ?_) ?_
  rotate_left
  · skip
    refine Run.int rfl rfl rfl (.opt rfl ht) (.at rfl) rfl ?_
    exact single_nil
  refine Run.and rfl rfl rfl (.at rfl) (.at rfl) rfl ?_
  refine Run.nil ?_
  refine WP.cond_f (.at rfl) (by rw [← hb]; cases bare <;> simp <;> (cases n <;> simp <;> omega)) ?_
  refine WP.skip ?_
  refine WP.seq (WP.region (l := [0, 1, 2, 3, 4, 5, 6, 7]) rfl ?_)
  refine Run.move rfl rfl rfl (.at rfl) ?_
  refine Run.len rfl rfl rfl (.at rfl) is_22 rfl ?_
  refine Run.move rfl rfl rfl (.at rfl) ?_
  refine Run.len rfl rfl rfl (.at rfl) is_22 rfl ?_
  refine Run.call rfl rfl rfl (.at rfl) (.cons (.at rfl) .nil) (c_roomBehind _) ?_
  refine Run.add rfl rfl rfl (.at rfl) (.at rfl) (by omega) ?_
  refine Run.make 0 rfl rfl rfl (.at rfl) (.at rfl) (by first | rfl | exact (Int.toNat_of_nonneg (by omega)).symm) (by first | rfl | exact (Int.toNat_of_nonneg (by omega)).symm) el_26 (by omega) (by omega) (by omega) (cs9_zero _) (fun b20 => ?_)
  refine Run.assign rfl rfl rfl (.at rfl) ?_
  refine Run.nil ?_
  refine WP.seq ?_
  refine WP.seq (WP.region (l := [0]) rfl ?_)
  refine Run.assign rfl rfl rfl (.at rfl) ?_
  refine Run.nil ?_
  refine WP.block ?_
  refine WP.loop (LP.keep (l_toMapS0 (l := l) hl hn ?_ n 0 _ (by omega) ?_) (by repeat (first | exact trivial | refine ⟨rfl, ?_⟩)) (by repeat (first | exact HSub.nil | refine HSub.keep ?_ | refine HSub.dead ?_)))
  rotate_left
  · unfold fillM
    rw [fillTo_zero]
  refine WP.seq ?_
  refine WP.seq (WP.region (l := [0, 1, 2]) rfl ?_)
  refine Run.move rfl rfl rfl (.at rfl) ?_
  refine Run.len rfl rfl rfl (.at rfl) is_22 rfl ?_
  refine Run.assign rfl rfl rfl (.at rfl) ?_
  refine Run.nil ?_
  refine WP.block ?_
  refine WP.loop (LP.keep (l_toMapS1 (l := l) hl hn ?_ (room n) n _ (Nat.le_refl _) (by omega) rfl) (by repeat (first | exact trivial | refine ⟨rfl, ?_⟩)) (by repeat (first | exact HSub.nil | refine HSub.keep ?_ | refine HSub.dead ?_)))
  refine WP.hp (H' := [[(b20, cs9 (padM l))]]) (by
    show [[(b20, cs9 (fillM l n (n + room n)))]] = _
    unfold fillM padM
    rw [fillTo_full _ _ _ hn, hn]) ?_
  refine WP.seq (WP.region (l := [0, 1, 2, 3, 4]) rfl ?_)
  refine Run.move rfl rfl rfl (.at rfl) ?_
  refine Run.move rfl rfl rfl (.at rfl) ?_
  refine Run.len rfl rfl rfl (.at rfl) is_22 rfl ?_
  refine Run.slice rfl rfl rfl (.at rfl) sl_26_9 Bnd.no (Bnd.at (.at rfl) (by first | rfl | exact (Int.toNat_of_nonneg (by omega)).symm)) (by omega) (by omega) (by omega) ?_
  refine Run.assign rfl rfl rfl (.at rfl) ?_
  refine Run.weak 4 rfl (fun _ _ _ h => own_name id h) ?_
  refine Run.nil ?_
  refine WP.ret ?_
  exact ⟨_, [[(b20, cs9 (padM l))]], (.tmp rfl .nil), Moved.pick (is := [0]) rfl, b20, rfl, rfl⟩
theorem c_toMapS_nil {l : List M3} {n : Nat} (hn : n = 0) : Pure Try.prog 8 [.imm (cs9 l) n, .bool true] .nilsl := by
  subst hn
  refine Pure.body 1 (n := 52) (fn := Try.f8) (c := Try.f8.body.get!) fn_8 rfl nm_8 rfl rfl fun C => ?_
  refine WP.seq (WP.region (l := [0]) rfl ?_)
  refine Run.assign rfl rfl rfl (.at rfl) ?_
  refine Run.nil ?_
  refine WP.seq ?_
  refine WP.seq (WP.region (l := [0, 1, 2, 3, 4, 5]) rfl ?_)
  refine Run.move rfl rfl rfl (.at rfl) ?_
  refine Run.move rfl rfl rfl (.at rfl) ?_
  refine' Run.guarded rfl rfl rfl rfl rfl rfl (fun ht => ?_) ?_
  rotate_left
  · skip
    refine Run.move rfl rfl rfl (.at rfl) ?_
    exact single_nil
  refine' Run.guarded rfl rfl rfl rfl rfl rfl (fun ht => ?_) ?_
  rotate_left
  · skip
    refine Run.len rfl rfl rfl (.opt rfl ht) is_22 rfl ?_
    exact single_nil
  refine' Run.guarded rfl rfl rfl rfl rfl rfl (fun ht => ?_) ?_
  rotate_left
  · skip
    refine Run.int rfl rfl rfl (.opt rfl ht) (.at rfl) rfl ?_
    exact single_nil
  refine Run.and rfl rfl rfl (.at rfl) (.at rfl) rfl ?_
  refine Run.nil ?_
  refine WP.cond_t (.at rfl) rfl ?_
  refine WP.seq (WP.region (l := [0]) rfl ?_)
  refine Run.assign rfl rfl rfl (.at rfl) ?_
  refine Run.nil ?_
  refine WP.ret ?_
  exact Ends.pure (.tmp rfl .nil) rfl
theorem c_szMapS {l : List M3} {n : Nat} (q : Int) (hq : 0 ≤ q ∧ q ≤ 1000000) (hn : n ≤ 9223372036854775807) : Pure Try.prog 6 [.imm (cs9 l) n, .int .i64 q] (.int .i64 (if q - n < 0 then -1 else q - n)) := by
  refine Pure.body 0 (n := 12) (fn := Try.f6) (c := Try.f6.body.get!) fn_6 rfl nm_6 rfl rfl fun C => ?_
  refine WP.seq (WP.region (l := [0]) rfl ?_)
  refine Run.assign rfl rfl rfl (.at rfl) ?_
  refine Run.nil ?_
  refine WP.seq (WP.region (l := [0, 1, 2, 3, 4]) rfl ?_)
  refine Run.move rfl rfl rfl (.at rfl) ?_
  refine Run.move rfl rfl rfl (.at rfl) ?_
  refine Run.len rfl rfl rfl (.at rfl) is_22 rfl ?_
  refine Run.sub rfl rfl rfl (.at rfl) (.at rfl) (by omega) ?_
  refine Run.assign rfl rfl rfl (.at rfl) ?_
  refine Run.nil ?_
  refine WP.seq ?_
  refine WP.seq (WP.region (l := [0, 1]) rfl ?_)
  refine Run.move rfl rfl rfl (.at rfl) ?_
  refine Run.int rfl rfl rfl (.at rfl) (.at rfl) rfl ?_
  refine Run.nil ?_
  refine WP.cond (.at rfl) (fun hc0 => ?_) (fun hc0 => ?_)
  · skip
    refine WP.seq (WP.region (l := [0]) rfl ?_)
    refine Run.assign rfl rfl rfl (.at rfl) ?_
    refine Run.nil ?_
    refine WP.ret ?_
    exact Ends.pure (.tmp rfl .nil) (by rw [if_pos (by simpa using hc0)]; rfl)
  · skip
    refine WP.skip ?_
    refine WP.seq (WP.region (l := [0, 1]) rfl ?_)
    refine Run.move rfl rfl rfl (.at rfl) ?_
    refine Run.assign rfl rfl rfl (.at rfl) ?_
    refine Run.nil ?_
    refine WP.ret ?_
    exact Ends.pure (.tmp rfl .nil) (by rw [if_neg (by simpa using hc0)]; rfl)
theorem l_eqMapS {C : Cx Try.prog 27} {Q : Post} {la lb : List M3} {n : Nat} (hl : n ≤ 4000000) (ha : la.length = n) (hb : lb.length = n)
    (hQ : la = lb → Q (.exit 0) ⟨[], []⟩) (hR : la ≠ lb → Q .ret ⟨[(4, .bool false)], []⟩) :
    ∀ (d k : Nat), k + d = n → la.take k = lb.take k → LP C (nav Try.f28.body.get! [1, 1, 0, 1, 0, 0]) Q ⟨[(0, .imm (cs9 la) n), (1, .imm (cs9 lb) n), (5, .int .i64 k)], []⟩ := by
  intro d
  induction d with
  | zero =>
    intro k hd he
    have he' : la = lb := by rwa [List.take_of_length_le (by omega), List.take_of_length_le (by omega)] at he
    refine LP.round ?_
    refine WP.seq ?_
    refine WP.seq (WP.region (l := [0, 1, 2, 3]) rfl ?_)
    refine Run.move rfl rfl rfl (.at rfl) ?_
    refine Run.move rfl rfl rfl (.at rfl) ?_
    refine Run.len rfl rfl rfl (.at rfl) is_26 rfl ?_
    refine Run.int rfl rfl rfl (.at rfl) (.at rfl) rfl ?_
    refine Run.nil ?_
    refine WP.cond_f (.at rfl) (by simp; omega) ?_
    exact WP.keep (WP.exit (hQ he')) (by repeat (first | exact trivial | refine ⟨rfl, ?_⟩)) (by repeat (first | exact HSub.nil | refine HSub.keep ?_ | refine HSub.dead ?_))
  | succ d ih =>
    intro k hd he
    have hk : k < n := by omega
    refine LP.round ?_
    refine WP.seq ?_
    refine WP.seq (WP.region (l := [0, 1, 2, 3]) rfl ?_)
    refine Run.move rfl rfl rfl (.at rfl) ?_
    refine Run.move rfl rfl rfl (.at rfl) ?_
    refine Run.len rfl rfl rfl (.at rfl) is_26 rfl ?_
    refine Run.int rfl rfl rfl (.at rfl) (.at rfl) rfl ?_
    refine Run.nil ?_
    refine WP.cond_t (.at rfl) (by simp; omega) ?_
    refine WP.skip ?_
    refine WP.seq ?_
    refine WP.block ?_
    refine WP.seq (WP.draw mx_0 ?_)
    refine Drawn.calmR ?_
    refine' DrawR.op 0 17 0 [(0, none)] rfl rfl (fun rest => ?_) ?_
    rotate_left
    · skip
      refine Run.move rfl rfl rfl (.at rfl) ?_
      exact single_nil
    refine' DrawR.op 1 18 1 [(5, none)] rfl rfl (fun rest => ?_) ?_
    rotate_left
    · skip
      refine Run.move rfl rfl rfl (.at rfl) ?_
      exact single_nil
    refine' DrawR.op 2 19 2 [(17, some 1), (18, some 0)] rfl rfl (fun rest => ?_) ?_
    rotate_left
    · skip
      refine Run.idx_imm (j := k) rfl rfl rfl (.at rfl) (.at rfl) sl_26_9 rfl hk ?_
      exact single_nil
    refine' DrawR.op 3 20 3 [(19, some 0)] rfl rfl (fun rest => ?_) ?_
    rotate_left
    · skip
      refine Run.loads rfl rfl rfl (.at rfl) .imm ag_44_9 (cs9_get (by omega)) rfl ?_
      exact single_nil
    refine' DrawR.op 4 21 4 [(1, none)] rfl rfl (fun rest => ?_) ?_
    rotate_left
    · skip
      refine Run.move rfl rfl rfl (.at rfl) ?_
      exact single_nil
    refine' DrawR.op 5 22 5 [(5, none)] rfl rfl (fun rest => ?_) ?_
    rotate_left
    · skip
      refine Run.move rfl rfl rfl (.at rfl) ?_
      exact single_nil
    refine' DrawR.op 6 23 6 [(21, some 1), (22, some 0)] rfl rfl (fun rest => ?_) ?_
    rotate_left
    · skip
      refine Run.idx_imm (j := k) rfl rfl rfl (.at rfl) (.at rfl) sl_26_9 rfl hk ?_
      exact single_nil
    refine' DrawR.op 7 24 7 [(23, some 0)] rfl rfl (fun rest => ?_) ?_
    rotate_left
    · skip
      refine Run.loads rfl rfl rfl (.at rfl) .imm ag_44_9 (cs9_get (by omega)) rfl ?_
      exact single_nil
    refine' DrawR.op 8 25 8 [(20, some 4), (24, some 0)] rfl rfl (fun rest => ?_) ?_
    rotate_left
    · skip
      refine Run.call rfl rfl rfl (.at rfl) (.cons (.at rfl) (.cons (.at rfl) .nil)) (c_eqMap _ _) ?_
      exact single_nil
    refine' DrawR.op 9 26 9 [(25, some 0)] rfl rfl (fun rest => ?_) ?_
    rotate_left
    · skip
      refine Run.not rfl rfl rfl (.at rfl) ?_
      exact single_nil
    refine DrawR.tail [] rfl (by kernel_rfl) ?_
    refine Run.nil ?_
    refine WP.cond (.at rfl) (fun hc2 => ?_) (fun hc2 => ?_)
    · have hne : la ≠ lb := by
        intro h
        subst h
        simp at hc2
      refine WP.seq (WP.region (l := [0]) rfl ?_)
      refine Run.assign rfl rfl rfl (.at rfl) ?_
      refine Run.nil ?_
      exact WP.keep (WP.ret (hR hne)) (by repeat (first | exact trivial | refine ⟨rfl, ?_⟩)) (by repeat (first | exact HSub.nil | refine HSub.keep ?_ | refine HSub.dead ?_))
    · have he' : la.take (k + 1) = lb.take (k + 1) := by
        simp only [Bool.not_eq_false', decide_eq_true_eq] at hc2
        rw [take_getD (z := M3.O) (by omega), take_getD (z := M3.O) (by omega), he, hc2]
      refine WP.skip ?_
      refine WP.region (l := [0, 1, 2]) rfl ?_
      refine Run.move rfl rfl rfl (.at rfl) ?_
      refine Run.add rfl rfl rfl (.at rfl) (.at rfl) (by omega) ?_
      refine Run.assign rfl rfl rfl (.at rfl) ?_
      refine Run.nil ?_
      exact LP.keep (ih (k + 1) (by omega) he') (by repeat (first | exact trivial | refine ⟨rfl, ?_⟩)) (by repeat (first | exact HSub.nil | refine HSub.keep ?_ | refine HSub.dead ?_))
theorem c_eqMapS (la lb : List M3) {n m : Nat} (hl : n ≤ 4000000) (ha : la.length = n) (hb : lb.length = m) : Pure Try.prog 28 [.imm (cs9 la) n, .imm (cs9 lb) m] (.bool (decide (la = lb))) := by
  refine Pure.body 0 (n := 27) (fn := Try.f28) (c := Try.f28.body.get!) fn_28 rfl nm_28 rfl rfl fun C => ?_
  refine WP.seq (WP.region (l := [0]) rfl ?_)
  refine Run.assign rfl rfl rfl (.at rfl) ?_
  refine Run.nil ?_
  refine WP.seq ?_
  refine WP.seq (WP.region (l := [0, 1, 2, 3, 4]) rfl ?_)
  refine Run.move rfl rfl rfl (.at rfl) ?_
  refine Run.len rfl rfl rfl (.at rfl) is_26 rfl ?_
  refine Run.move rfl rfl rfl (.at rfl) ?_
  refine Run.len rfl rfl rfl (.at rfl) is_26 rfl ?_
  refine Run.int rfl rfl rfl (.at rfl) (.at rfl) rfl ?_
  refine Run.nil ?_
  refine WP.cond (.at rfl) (fun hc0 => ?_) (fun hc0 => ?_)
  · skip
    refine WP.seq (WP.region (l := [0]) rfl ?_)
    refine Run.assign rfl rfl rfl (.at rfl) ?_
    refine Run.nil ?_
    refine WP.ret ?_
    exact Ends.pure (.tmp rfl .nil) (by
      have h : ¬ la = lb := by
        intro h
        subst h
        simp only [bne_iff_ne, ne_eq] at hc0
        omega
      rw [decide_eq_false h]; rfl)
  · obtain rfl : m = n := by simp at hc0; omega
    refine WP.skip ?_
    refine WP.seq ?_
    refine WP.seq (WP.region (l := [0]) rfl ?_)
    refine Run.assign rfl rfl rfl (.at rfl) ?_
    refine Run.nil ?_
    refine WP.block ?_
    refine WP.loop (LP.keep (l_eqMapS (la := la) (lb := lb) hl ha hb (fun h => ?_) (fun h => ?_) m 0 (by omega) rfl) (by repeat (first | exact trivial | refine ⟨rfl, ?_⟩)) (by repeat (first | exact HSub.nil | refine HSub.keep ?_ | refine HSub.dead ?_)))
    rotate_left
    · exact Ends.pure (.tmp rfl .nil) (by rw [decide_eq_false h]; rfl)
    refine WP.seq (WP.region (l := [0]) rfl ?_)
    refine Run.assign rfl rfl rfl (.at rfl) ?_
    refine Run.nil ?_
    refine WP.ret ?_
    exact Ends.pure (.tmp rfl .nil) (by rw [decide_eq_true h]; rfl)
theorem c_intactMapS (i1 i2 b1 b2 n c1 c2 : Nat) (o1 o2 : Bool) (X Y : List M3) (hn : n ≤ 1000000) (hX : X.length = n + room n) (hY : Y.length = n + room n) (h1 : n + room n ≤ c1) (h2 : n + room n ≤ c2) :
    Acts Try.prog 10 [.own i1 b1 9 0 n c1 o1, .own i2 b2 9 0 n c2 o2] [[(b1, cs9 X)], [(b2, cs9 Y)]] (fun x H => x = .bool (decide (X = Y)) ∧ H = [[(b1, cs9 X)], [(b2, cs9 Y)]]) := by
  have hrm := room_le n
  refine Acts.body 0 (n := 26) (fn := Try.f10) (c := Try.f10.body.get!) fn_10 rfl nm_10 rfl rfl fun C => ?_
  refine WP.weak 0 rfl (fun _ _ _ h => own_name 0 h) ?_
  refine WP.weak 1 rfl (fun _ _ _ h => own_name 1 h) ?_
  refine WP.seq (WP.region (l := [0]) rfl ?_)
  refine Run.assign rfl rfl rfl (.at rfl) ?_
  refine Run.nil ?_
  refine WP.seq (WP.region (l := [0, 1, 2, 3, 4, 5, 6]) rfl ?_)
  refine Run.move rfl rfl rfl (.at rfl) ?_
  refine Run.len rfl rfl rfl (.at rfl) is_26 rfl ?_
  refine Run.move rfl rfl rfl (.at rfl) ?_
  refine Run.len rfl rfl rfl (.at rfl) is_26 rfl ?_
  refine Run.call rfl rfl rfl (.at rfl) (.cons (.at rfl) .nil) (c_roomBehind _) ?_
  refine Run.add rfl rfl rfl (.at rfl) (.at rfl) (by omega) ?_
  refine Run.assign rfl rfl rfl (.at rfl) ?_
  refine Run.nil ?_
  refine WP.seq (WP.draw mx_0 ?_)
  refine Drawn.calmR ?_
  refine' DrawR.op 0 12 0 [(0, none)] rfl rfl (fun rest => ?_) ?_
  rotate_left
  · skip
    refine Run.move rfl rfl rfl (.at rfl) ?_
    exact single_nil
  refine' DrawR.op 1 13 1 [(12, some 0)] rfl rfl (fun rest => ?_) ?_
  rotate_left
  · skip
    refine Run.len rfl rfl rfl (.at rfl) is_26 rfl ?_
    exact single_nil
  refine' DrawR.op 2 14 2 [(1, none)] rfl rfl (fun rest => ?_) ?_
  rotate_left
  · skip
    refine Run.move rfl rfl rfl (.at rfl) ?_
    exact single_nil
  refine' DrawR.op 3 15 3 [(14, some 0)] rfl rfl (fun rest => ?_) ?_
  rotate_left
  · skip
    refine Run.len rfl rfl rfl (.at rfl) is_26 rfl ?_
    exact single_nil
  refine' DrawR.op 4 16 4 [(13, some 2), (15, some 0)] rfl rfl (fun rest => ?_) ?_
  rotate_left
  · skip
    refine Run.int rfl rfl rfl (.at rfl) (.at rfl) rfl ?_
    exact single_nil
  refine' DrawR.op 5 17 5 [(16, some 0)] rfl rfl (fun rest => ?_) ?_
  rotate_left
  · skip
    refine Run.move rfl rfl rfl (.at rfl) ?_
    exact single_nil
  refine' DrawR.op 6 18 6 [(0, none), (17, some 0)] rfl rfl (fun rest => ?_) ?_
  rotate_left
  · skip
    refine' Run.guarded rfl rfl rfl rfl rfl rfl (fun ht => ?_) ?_
    rotate_left
    · skip
      refine Run.move rfl rfl rfl (.at rfl) ?_
      exact single_nil
    exact single_nil
  refine' DrawR.op 7 19 7 [(5, none), (17, some 1)] rfl rfl (fun rest => ?_) ?_
  rotate_left
  · skip
    refine' Run.guarded rfl rfl rfl rfl rfl rfl (fun ht => ?_) ?_
    rotate_left
    · skip
      refine Run.move rfl rfl rfl (.at rfl) ?_
      exact single_nil
    exact single_nil
  refine' DrawR.op 8 20 8 [(18, some 1), (19, some 0), (17, some 2)] rfl rfl (fun rest => ?_) ?_
  rotate_left
  · skip
    refine' Run.guarded rfl rfl rfl rfl rfl rfl (fun ht => ?_) ?_
    rotate_left
    · skip
      refine Run.slice rfl rfl rfl (.opt rfl ht) sl_26_9 Bnd.no (Bnd.at (.opt rfl ht) (by first | rfl | exact (Int.toNat_of_nonneg (by omega)).symm)) (by omega) (by omega) (by omega) ?_
      exact single_nil
    exact single_nil
  refine' DrawR.op 9 21 9 [(1, none), (17, some 3)] rfl rfl (fun rest => ?_) ?_
  rotate_left
  · skip
    refine' Run.guarded rfl rfl rfl rfl rfl rfl (fun ht => ?_) ?_
    rotate_left
    · skip
      refine Run.move rfl rfl rfl (.at rfl) ?_
      exact single_nil
    exact single_nil
  refine' DrawR.op 10 22 10 [(5, none), (17, some 4)] rfl rfl (fun rest => ?_) ?_
  rotate_left
  · skip
    refine' Run.guarded rfl rfl rfl rfl rfl rfl (fun ht => ?_) ?_
    rotate_left
    · skip
      refine Run.move rfl rfl rfl (.at rfl) ?_
      exact single_nil
    exact single_nil
  refine' DrawR.op 11 23 11 [(21, some 1), (22, some 0), (17, some 5)] rfl rfl (fun rest => ?_) ?_
  rotate_left
  · skip
    refine' Run.guarded rfl rfl rfl rfl rfl rfl (fun ht => ?_) ?_
    rotate_left
    · skip
      refine Run.slice rfl rfl rfl (.opt rfl ht) sl_26_9 Bnd.no (Bnd.at (.opt rfl ht) (by first | rfl | exact (Int.toNat_of_nonneg (by omega)).symm)) (by omega) (by omega) (by omega) ?_
      exact single_nil
    exact single_nil
  refine' DrawR.op 12 24 12 [(20, some 3), (23, some 0), (17, some 6)] rfl rfl (fun rest => ?_) ?_
  rotate_left
  · skip
    refine' Run.guarded rfl rfl rfl rfl rfl rfl (fun ht => ?_) ?_
    rotate_left
    · skip
      refine Run.acts [] [] rfl rfl rfl (.at rfl) (.cons (.opt rfl ht) (.cons (.opt rfl ht) .nil)) (.cons (Lend.one rfl (by omega) (by simp)) (.cons (Lend.one rfl (by omega) (by simp)) .nil)) (c_eqMapS X Y (n := n + room n) (m := n + room n) (by omega) hX hY).acts rfl rfl rfl (fun x H h => ?_) (fun x H h => ?_)
      · obtain ⟨rfl, rfl⟩ := h; exact ⟨rfl, rfl⟩
      obtain ⟨rfl, rfl⟩ := h
      exact single_nil
    exact single_nil
  refine' DrawR.op 13 25 13 [(17, some 7), (24, some 0)] rfl rfl (fun rest => ?_) ?_
  rotate_left
  · skip
    refine Run.and rfl rfl rfl (.at rfl) (.at rfl) rfl ?_
    exact single_nil
  refine' DrawR.op 14 4 14 [(25, some 0)] rfl rfl (fun rest => ?_) ?_
  rotate_left
  · skip
    refine Run.assign rfl rfl rfl (.at rfl) ?_
    exact single_nil
  refine DrawR.tail [] rfl (by kernel_rfl) ?_
  refine Run.nil ?_
  refine WP.ret ?_
  refine ⟨_, [[(b1, cs9 X)], [(b2, cs9 Y)]], (.tmp rfl .nil), Moved.pick (is := [0, 1]) rfl, ?_, rfl⟩
  simp [one]
end Go.Ab
