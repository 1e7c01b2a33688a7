/- The walks of the law's helpers over points: copies, comparison, marks. -/
import Derived.Test.YtlipjbfmmheicaaP5
import Derived.Test.YtlipjbfmmheicaaB5
namespace Go.Ab
open Go.Proofs

theorem c_roomBehind (n : Nat) : Pure Try.prog 23 [.int .i64 n] (.int .i64 (room n)) := by
  refine Pure.body 0 (n := 10) (fn := Try.f23) (c := Try.f23.body.get!) fn_23 rfl nm_23 rfl rfl fun C => ?_
  refine WP.seq (WP.region (l := [0]) rfl ?_)
  refine Run.assign rfl rfl rfl (.at rfl) ?_
  refine Run.nil ?_
  refine WP.seq ?_
  refine WP.seq (WP.region (l := [0, 1, 2]) rfl ?_)
  refine Run.move rfl rfl rfl (.at rfl) ?_
  refine Run.rem rfl rfl rfl (.at rfl) (.at rfl) (by omega) (by omega) ?_
  refine Run.int rfl rfl rfl (.at rfl) (.at rfl) rfl ?_
  refine Run.nil ?_
  refine WP.cond (.at rfl) (fun hc0 => ?_) (fun hc0 => ?_)
  · skip
    refine WP.seq (WP.region (l := [0]) rfl ?_)
    refine Run.assign rfl rfl rfl (.at rfl) ?_
    refine Run.nil ?_
    refine WP.ret ?_
    exact Ends.pure (.tmp rfl .nil) (by have h : n % 6 = 5 := (by simp at hc0; omega); unfold room; rw [if_pos h]; rfl)
  · have h6 : ¬ n % 6 = 5 := by (simp at hc0; omega)
    refine WP.skip ?_
    refine WP.seq ?_
    refine WP.seq (WP.region (l := [0, 1, 2]) rfl ?_)
    refine Run.move rfl rfl rfl (.at rfl) ?_
    refine Run.rem rfl rfl rfl (.at rfl) (.at rfl) (by omega) (by omega) ?_
    refine Run.int rfl rfl rfl (.at rfl) (.at rfl) rfl ?_
    refine Run.nil ?_
    refine WP.cond (.at rfl) (fun hc1 => ?_) (fun hc1 => ?_)
    · skip
      refine WP.seq (WP.region (l := [0]) rfl ?_)
      refine Run.assign rfl rfl rfl (.at rfl) ?_
      refine Run.nil ?_
      refine WP.ret ?_
      exact Ends.pure (.tmp rfl .nil) (by have h : n % 3 = 0 := (by simp at hc1; omega); unfold room; rw [if_neg h6, if_pos h]; rfl)
    · skip
      refine WP.skip ?_
      refine WP.seq (WP.region (l := [0, 1]) rfl ?_)
      refine Run.move rfl rfl rfl (.at rfl) ?_
      refine Run.assign rfl rfl rfl (.at rfl) ?_
      refine Run.nil ?_
      refine WP.ret ?_
      exact Ends.pure (.tmp rfl .nil) (by have h : ¬ n % 3 = 0 := (by simp at hc1; omega); unfold room; rw [if_neg h6, if_neg h]; rfl)
def V3.mix (v : V3) : Nat → List AV
  | 0 => [.int .i64 0, .int .i64 0, .int .i64 0]
  | 1 => [.int .i64 v.a, .int .i64 0, .int .i64 0]
  | 2 => [.int .i64 v.a, .int .i64 v.b, .int .i64 0]
  | _ => v.cs
theorem l_toPoint3 {C : Cx Try.prog 15} {Q : Post} {v : V3} {b1 b2 b3 : Nat} (hQ : Q (.exit 0) ⟨[(2, .adr 1 b2 0), (3, .adr 2 b3 0)], [[], [(b2, v.mix 0)], [(b3, v.cs)]]⟩) :
    LP C (nav Try.f12.body.get! [1, 1, 0, 1, 0, 0]) Q ⟨[(1, .adr 0 b1 0), (2, .adr 1 b2 0), (3, .adr 2 b3 0), (4, .int .i64 3)], [[(b1, v.cs)], [(b2, v.mix 0)], [(b3, v.mix 3)]]⟩ := by
  refine LP.round ?_
  refine WP.seq ?_
  refine WP.seq (WP.region (l := [0, 1]) rfl ?_)
  refine Run.move rfl rfl rfl (.at rfl) ?_
  refine Run.int rfl rfl rfl (.at rfl) (.at rfl) rfl ?_
  refine Run.nil ?_
  refine WP.cond_f (.at rfl) rfl ?_
  exact WP.keep (WP.exit hQ) (by repeat (first | exact trivial | refine ⟨rfl, ?_⟩)) (by repeat (first | exact HSub.nil | refine HSub.keep ?_ | refine HSub.dead ?_))
theorem l_toPoint2 {C : Cx Try.prog 15} {Q : Post} {v : V3} {b1 b2 b3 : Nat} (hQ : Q (.exit 0) ⟨[(2, .adr 1 b2 0), (3, .adr 2 b3 0)], [[], [(b2, v.mix 0)], [(b3, v.cs)]]⟩) :
    LP C (nav Try.f12.body.get! [1, 1, 0, 1, 0, 0]) Q ⟨[(1, .adr 0 b1 0), (2, .adr 1 b2 0), (3, .adr 2 b3 0), (4, .int .i64 2)], [[(b1, v.cs)], [(b2, v.mix 0)], [(b3, v.mix 2)]]⟩ := by
  have next := fun b1 b2 b3 => l_toPoint3 (C := C) (Q := Q) (v := v) (b1 := b1) (b2 := b2) (b3 := b3)
  refine LP.round ?_
  refine WP.seq ?_
  refine WP.seq (WP.region (l := [0, 1]) rfl ?_)
  refine Run.move rfl rfl rfl (.at rfl) ?_
  refine Run.int rfl rfl rfl (.at rfl) (.at rfl) rfl ?_
  refine Run.nil ?_
  refine WP.cond_t (.at rfl) rfl ?_
  refine WP.skip ?_
  refine WP.seq ?_
  refine WP.block ?_
  refine WP.region (l := [0, 1, 2, 3, 4, 5]) rfl ?_
  refine Run.move rfl rfl rfl (.at rfl) ?_
  refine Run.move rfl rfl rfl (.at rfl) ?_
  refine Run.idx_arr (j := 2) rfl rfl rfl (.at rfl) (.at rfl) ar_30_3_1 rfl (by decide) ?_
  refine Run.load rfl rfl rfl (.at rfl) (place_adr rfl) sc_2 rfl ?_
  refine Run.idx_arr (j := 2) rfl rfl rfl (.at rfl) (.at rfl) ar_33_3_1 rfl (by decide) ?_
  refine Run.store (j := 0) rfl rfl (.at rfl) rfl rfl (.at rfl) sz_2_1 rfl rfl (Nat.le_of_ble_eq_true rfl) rfl ?_
  refine Run.nil ?_
  refine WP.region (l := [0, 1, 2]) rfl ?_
  refine Run.move rfl rfl rfl (.at rfl) ?_
  refine Run.add rfl rfl rfl (.at rfl) (.at rfl) (by omega) ?_
  refine Run.assign rfl rfl rfl (.at rfl) ?_
  refine Run.nil ?_
  exact LP.keep (next _ _ _ hQ) (by repeat (first | exact trivial | refine ⟨rfl, ?_⟩)) (by repeat (first | exact HSub.nil | refine HSub.keep ?_ | refine HSub.dead ?_))
theorem l_toPoint1 {C : Cx Try.prog 15} {Q : Post} {v : V3} {b1 b2 b3 : Nat} (hQ : Q (.exit 0) ⟨[(2, .adr 1 b2 0), (3, .adr 2 b3 0)], [[], [(b2, v.mix 0)], [(b3, v.cs)]]⟩) :
    LP C (nav Try.f12.body.get! [1, 1, 0, 1, 0, 0]) Q ⟨[(1, .adr 0 b1 0), (2, .adr 1 b2 0), (3, .adr 2 b3 0), (4, .int .i64 1)], [[(b1, v.cs)], [(b2, v.mix 0)], [(b3, v.mix 1)]]⟩ := by
  have next := fun b1 b2 b3 => l_toPoint2 (C := C) (Q := Q) (v := v) (b1 := b1) (b2 := b2) (b3 := b3)
  refine LP.round ?_
  refine WP.seq ?_
  refine WP.seq (WP.region (l := [0, 1]) rfl ?_)
  refine Run.move rfl rfl rfl (.at rfl) ?_
  refine Run.int rfl rfl rfl (.at rfl) (.at rfl) rfl ?_
  refine Run.nil ?_
  refine WP.cond_t (.at rfl) rfl ?_
  refine WP.skip ?_
  refine WP.seq ?_
  refine WP.block ?_
  refine WP.region (l := [0, 1, 2, 3, 4, 5]) rfl ?_
  refine Run.move rfl rfl rfl (.at rfl) ?_
  refine Run.move rfl rfl rfl (.at rfl) ?_
  refine Run.idx_arr (j := 1) rfl rfl rfl (.at rfl) (.at rfl) ar_30_3_1 rfl (by decide) ?_
  refine Run.load rfl rfl rfl (.at rfl) (place_adr rfl) sc_2 rfl ?_
  refine Run.idx_arr (j := 1) rfl rfl rfl (.at rfl) (.at rfl) ar_33_3_1 rfl (by decide) ?_
  refine Run.store (j := 0) rfl rfl (.at rfl) rfl rfl (.at rfl) sz_2_1 rfl rfl (Nat.le_of_ble_eq_true rfl) rfl ?_
  refine Run.nil ?_
  refine WP.region (l := [0, 1, 2]) rfl ?_
  refine Run.move rfl rfl rfl (.at rfl) ?_
  refine Run.add rfl rfl rfl (.at rfl) (.at rfl) (by omega) ?_
  refine Run.assign rfl rfl rfl (.at rfl) ?_
  refine Run.nil ?_
  exact LP.keep (next _ _ _ hQ) (by repeat (first | exact trivial | refine ⟨rfl, ?_⟩)) (by repeat (first | exact HSub.nil | refine HSub.keep ?_ | refine HSub.dead ?_))
theorem l_toPoint0 {C : Cx Try.prog 15} {Q : Post} {v : V3} {b1 b2 b3 : Nat} (hQ : Q (.exit 0) ⟨[(2, .adr 1 b2 0), (3, .adr 2 b3 0)], [[], [(b2, v.mix 0)], [(b3, v.cs)]]⟩) :
    LP C (nav Try.f12.body.get! [1, 1, 0, 1, 0, 0]) Q ⟨[(1, .adr 0 b1 0), (2, .adr 1 b2 0), (3, .adr 2 b3 0), (4, .int .i64 0)], [[(b1, v.cs)], [(b2, v.mix 0)], [(b3, v.mix 0)]]⟩ := by
  have next := fun b1 b2 b3 => l_toPoint1 (C := C) (Q := Q) (v := v) (b1 := b1) (b2 := b2) (b3 := b3)
  refine LP.round ?_
  refine WP.seq ?_
  refine WP.seq (WP.region (l := [0, 1]) rfl ?_)
  refine Run.move rfl rfl rfl (.at rfl) ?_
  refine Run.int rfl rfl rfl (.at rfl) (.at rfl) rfl ?_
  refine Run.nil ?_
  refine WP.cond_t (.at rfl) rfl ?_
  refine WP.skip ?_
  refine WP.seq ?_
  refine WP.block ?_
  refine WP.region (l := [0, 1, 2, 3, 4, 5]) rfl ?_
  refine Run.move rfl rfl rfl (.at rfl) ?_
  refine Run.move rfl rfl rfl (.at rfl) ?_
  refine Run.idx_arr (j := 0) rfl rfl rfl (.at rfl) (.at rfl) ar_30_3_1 rfl (by decide) ?_
  refine Run.load rfl rfl rfl (.at rfl) (place_adr rfl) sc_2 rfl ?_
  refine Run.idx_arr (j := 0) rfl rfl rfl (.at rfl) (.at rfl) ar_33_3_1 rfl (by decide) ?_
  refine Run.store (j := 0) rfl rfl (.at rfl) rfl rfl (.at rfl) sz_2_1 rfl rfl (Nat.le_of_ble_eq_true rfl) rfl ?_
  refine Run.nil ?_
  refine WP.region (l := [0, 1, 2]) rfl ?_
  refine Run.move rfl rfl rfl (.at rfl) ?_
  refine Run.add rfl rfl rfl (.at rfl) (.at rfl) (by omega) ?_
  refine Run.assign rfl rfl rfl (.at rfl) ?_
  refine Run.nil ?_
  exact LP.keep (next _ _ _ hQ) (by repeat (first | exact trivial | refine ⟨rfl, ?_⟩)) (by repeat (first | exact HSub.nil | refine HSub.keep ?_ | refine HSub.dead ?_))
theorem c_toPoint (v : V3) : Pure Try.prog 12 [v.av] v.av := by
  refine Pure.body 3 (n := 15) (fn := Try.f12) (c := Try.f12.body.get!) fn_12 rfl nm_12 rfl rfl fun C => ?_
  refine WP.seq (WP.region (l := [0, 1]) rfl ?_)
  refine Run.box 0 rfl rfl rfl (.at rfl) rfl (fun b1 => ?_)
  refine Run.alloc 1 rfl rfl rfl zr_33 (fun b2 => ?_)
  refine Run.nil ?_
  refine WP.seq (WP.region (l := [0]) rfl ?_)
  refine Run.alloc 2 rfl rfl rfl zr_33 (fun b3 => ?_)
  refine Run.nil ?_
  refine WP.seq ?_
  refine WP.seq (WP.region (l := [0]) rfl ?_)
  refine Run.assign rfl rfl rfl (.at rfl) ?_
  refine Run.nil ?_
  refine WP.block ?_
  refine WP.loop (LP.keep (l_toPoint0 (v := v) ?_) (by repeat (first | exact trivial | refine ⟨rfl, ?_⟩)) (by repeat (first | exact HSub.nil | refine HSub.keep ?_ | refine HSub.dead ?_)))
  refine WP.seq (WP.region (l := [0, 1]) rfl ?_)
  refine Run.loads rfl rfl rfl (.at rfl) (place_adr rfl) ag_33_3 rfl rfl ?_
  refine Run.store (j := 0) rfl rfl (.at rfl) rfl rfl (.at rfl) sz_33_3 rfl rfl (Nat.le_of_ble_eq_true rfl) rfl ?_
  refine Run.nil ?_
  refine WP.ret ?_
  exact Ends.pure (.cells rfl (place_adr rfl) ag_33_3 rfl rfl .nil) rfl

def eqFrom (u v : V3) : Nat → Bool
  | 0 => decide (u = v)
  | 1 => decide (u.b = v.b ∧ u.c = v.c)
  | 2 => decide (u.c = v.c)
  | _ => true
theorem eqFrom_0 (u v : V3) : eqFrom u v 0 = (!(u.a != v.a) && eqFrom u v 1) := by
  simp only [eqFrom, V3.ext_iff']
  by_cases h : u.a = v.a <;> simp [h]
theorem eqFrom_1 (u v : V3) : eqFrom u v 1 = (!(u.b != v.b) && eqFrom u v 2) := by
  simp only [eqFrom]
  by_cases h : u.b = v.b <;> simp [h]
theorem eqFrom_2 (u v : V3) : eqFrom u v 2 = (!(u.c != v.c) && eqFrom u v 3) := by
  simp only [eqFrom]
  by_cases h : u.c = v.c <;> simp [h]
theorem l_eqPoint3 {C : Cx Try.prog 17} {Q : Post} {u v : V3} {b1 b2 : Nat} (hQ : eqFrom u v 3 = true → Q (.exit 0) ⟨[], [[], []]⟩) (_hR : eqFrom u v 3 = false → Q .ret ⟨[(4, .bool false)], [[], []]⟩) :
    LP C (nav Try.f52.body.get! [1, 0, 1, 0, 0]) Q ⟨[(2, .adr 0 b1 0), (3, .adr 1 b2 0), (5, .int .i64 3)], [[(b1, u.cs)], [(b2, v.cs)]]⟩ := by
  refine LP.round ?_
  refine WP.seq ?_
  refine WP.seq (WP.region (l := [0, 1]) rfl ?_)
  refine Run.move rfl rfl rfl (.at rfl) ?_
  refine Run.int rfl rfl rfl (.at rfl) (.at rfl) rfl ?_
  refine Run.nil ?_
  refine WP.cond_f (.at rfl) rfl ?_
  exact WP.keep (WP.exit (hQ rfl)) (by repeat (first | exact trivial | refine ⟨rfl, ?_⟩)) (by repeat (first | exact HSub.nil | refine HSub.keep ?_ | refine HSub.dead ?_))
theorem l_eqPoint2 {C : Cx Try.prog 17} {Q : Post} {u v : V3} {b1 b2 : Nat} (hQ : eqFrom u v 2 = true → Q (.exit 0) ⟨[], [[], []]⟩) (hR : eqFrom u v 2 = false → Q .ret ⟨[(4, .bool false)], [[], []]⟩) :
    LP C (nav Try.f52.body.get! [1, 0, 1, 0, 0]) Q ⟨[(2, .adr 0 b1 0), (3, .adr 1 b2 0), (5, .int .i64 2)], [[(b1, u.cs)], [(b2, v.cs)]]⟩ := by
  refine LP.round ?_
  refine WP.seq ?_
  refine WP.seq (WP.region (l := [0, 1]) rfl ?_)
  refine Run.move rfl rfl rfl (.at rfl) ?_
  refine Run.int rfl rfl rfl (.at rfl) (.at rfl) rfl ?_
  refine Run.nil ?_
  refine WP.cond_t (.at rfl) rfl ?_
  refine WP.skip ?_
  refine WP.seq ?_
  refine WP.block ?_
  refine WP.seq (WP.draw mx_0 ?_)
  refine Drawn.calmR ?_
  refine' DrawR.op 0 10 0 [(5, none)] rfl rfl (fun rest => ?_) ?_
  rotate_left
  · skip
    refine Run.move rfl rfl rfl (.at rfl) ?_
    exact single_nil
  refine' DrawR.op 1 11 1 [(2, none), (10, some 0)] rfl rfl (fun rest => ?_) ?_
  rotate_left
  · skip
    refine Run.idx_arr (j := 2) rfl rfl rfl (.at rfl) (.at rfl) ar_33_3_1 rfl (by decide) ?_
    exact single_nil
  refine' DrawR.op 2 12 2 [(11, some 0)] rfl rfl (fun rest => ?_) ?_
  rotate_left
  · skip
    refine Run.load rfl rfl rfl (.at rfl) (place_adr rfl) sc_2 rfl ?_
    exact single_nil
  refine' DrawR.op 3 13 3 [(5, none)] rfl rfl (fun rest => ?_) ?_
  rotate_left
  · skip
    refine Run.move rfl rfl rfl (.at rfl) ?_
    exact single_nil
  refine' DrawR.op 4 14 4 [(3, none), (13, some 0)] rfl rfl (fun rest => ?_) ?_
  rotate_left
  · skip
    refine Run.idx_arr (j := 2) rfl rfl rfl (.at rfl) (.at rfl) ar_33_3_1 rfl (by decide) ?_
    exact single_nil
  refine' DrawR.op 5 15 5 [(14, some 0)] rfl rfl (fun rest => ?_) ?_
  rotate_left
  · skip
    refine Run.load rfl rfl rfl (.at rfl) (place_adr rfl) sc_2 rfl ?_
    exact single_nil
  refine' DrawR.op 6 16 6 [(12, some 3), (15, some 0)] rfl rfl (fun rest => ?_) ?_
  rotate_left
  · skip
    refine Run.int rfl rfl rfl (.at rfl) (.at rfl) rfl ?_
    exact single_nil
  refine DrawR.tail [] rfl (by kernel_rfl) ?_
  refine Run.nil ?_
  refine WP.cond (.at rfl) (fun hc1 => ?_) (fun hc1 => ?_)
  · skip
    refine WP.seq (WP.region (l := [0]) rfl ?_)
    refine Run.assign rfl rfl rfl (.at rfl) ?_
    refine Run.nil ?_
    exact WP.keep (WP.ret (hR (by rw [eqFrom_2]; rw [hc1]; rfl))) (by repeat (first | exact trivial | refine ⟨rfl, ?_⟩)) (by repeat (first | exact HSub.nil | refine HSub.keep ?_ | refine HSub.dead ?_))
  · skip
    refine WP.skip ?_
    refine WP.region (l := [0, 1, 2]) rfl ?_
    refine Run.move rfl rfl rfl (.at rfl) ?_
    refine Run.add rfl rfl rfl (.at rfl) (.at rfl) (by omega) ?_
    refine Run.assign rfl rfl rfl (.at rfl) ?_
    refine Run.nil ?_
    exact LP.keep (l_eqPoint3 (fun h => hQ (by rw [eqFrom_2, h, hc1]; rfl)) (fun h => hR (by rw [eqFrom_2, h, Bool.and_false]))) (by repeat (first | exact trivial | refine ⟨rfl, ?_⟩)) (by repeat (first | exact HSub.nil | refine HSub.keep ?_ | refine HSub.dead ?_))
theorem l_eqPoint1 {C : Cx Try.prog 17} {Q : Post} {u v : V3} {b1 b2 : Nat} (hQ : eqFrom u v 1 = true → Q (.exit 0) ⟨[], [[], []]⟩) (hR : eqFrom u v 1 = false → Q .ret ⟨[(4, .bool false)], [[], []]⟩) :
    LP C (nav Try.f52.body.get! [1, 0, 1, 0, 0]) Q ⟨[(2, .adr 0 b1 0), (3, .adr 1 b2 0), (5, .int .i64 1)], [[(b1, u.cs)], [(b2, v.cs)]]⟩ := by
  refine LP.round ?_
  refine WP.seq ?_
  refine WP.seq (WP.region (l := [0, 1]) rfl ?_)
  refine Run.move rfl rfl rfl (.at rfl) ?_
  refine Run.int rfl rfl rfl (.at rfl) (.at rfl) rfl ?_
  refine Run.nil ?_
  refine WP.cond_t (.at rfl) rfl ?_
  refine WP.skip ?_
  refine WP.seq ?_
  refine WP.block ?_
  refine WP.seq (WP.draw mx_0 ?_)
  refine Drawn.calmR ?_
  refine' DrawR.op 0 10 0 [(5, none)] rfl rfl (fun rest => ?_) ?_
  rotate_left
  · skip
    refine Run.move rfl rfl rfl (.at rfl) ?_
    exact single_nil
  refine' DrawR.op 1 11 1 [(2, none), (10, some 0)] rfl rfl (fun rest => ?_) ?_
  rotate_left
  · skip
    refine Run.idx_arr (j := 1) rfl rfl rfl (.at rfl) (.at rfl) ar_33_3_1 rfl (by decide) ?_
    exact single_nil
  refine' DrawR.op 2 12 2 [(11, some 0)] rfl rfl (fun rest => ?_) ?_
  rotate_left
  · skip
    refine Run.load rfl rfl rfl (.at rfl) (place_adr rfl) sc_2 rfl ?_
    exact single_nil
  refine' DrawR.op 3 13 3 [(5, none)] rfl rfl (fun rest => ?_) ?_
  rotate_left
  · skip
    refine Run.move rfl rfl rfl (.at rfl) ?_
    exact single_nil
  refine' DrawR.op 4 14 4 [(3, none), (13, some 0)] rfl rfl (fun rest => ?_) ?_
  rotate_left
  · skip
    refine Run.idx_arr (j := 1) rfl rfl rfl (.at rfl) (.at rfl) ar_33_3_1 rfl (by decide) ?_
    exact single_nil
  refine' DrawR.op 5 15 5 [(14, some 0)] rfl rfl (fun rest => ?_) ?_
  rotate_left
  · skip
    refine Run.load rfl rfl rfl (.at rfl) (place_adr rfl) sc_2 rfl ?_
    exact single_nil
  refine' DrawR.op 6 16 6 [(12, some 3), (15, some 0)] rfl rfl (fun rest => ?_) ?_
  rotate_left
  · skip
    refine Run.int rfl rfl rfl (.at rfl) (.at rfl) rfl ?_
    exact single_nil
  refine DrawR.tail [] rfl (by kernel_rfl) ?_
  refine Run.nil ?_
  refine WP.cond (.at rfl) (fun hc1 => ?_) (fun hc1 => ?_)
  · skip
    refine WP.seq (WP.region (l := [0]) rfl ?_)
    refine Run.assign rfl rfl rfl (.at rfl) ?_
    refine Run.nil ?_
    exact WP.keep (WP.ret (hR (by rw [eqFrom_1]; rw [hc1]; rfl))) (by repeat (first | exact trivial | refine ⟨rfl, ?_⟩)) (by repeat (first | exact HSub.nil | refine HSub.keep ?_ | refine HSub.dead ?_))
  · skip
    refine WP.skip ?_
    refine WP.region (l := [0, 1, 2]) rfl ?_
    refine Run.move rfl rfl rfl (.at rfl) ?_
    refine Run.add rfl rfl rfl (.at rfl) (.at rfl) (by omega) ?_
    refine Run.assign rfl rfl rfl (.at rfl) ?_
    refine Run.nil ?_
    exact LP.keep (l_eqPoint2 (fun h => hQ (by rw [eqFrom_1, h, hc1]; rfl)) (fun h => hR (by rw [eqFrom_1, h, Bool.and_false]))) (by repeat (first | exact trivial | refine ⟨rfl, ?_⟩)) (by repeat (first | exact HSub.nil | refine HSub.keep ?_ | refine HSub.dead ?_))
theorem l_eqPoint0 {C : Cx Try.prog 17} {Q : Post} {u v : V3} {b1 b2 : Nat} (hQ : eqFrom u v 0 = true → Q (.exit 0) ⟨[], [[], []]⟩) (hR : eqFrom u v 0 = false → Q .ret ⟨[(4, .bool false)], [[], []]⟩) :
    LP C (nav Try.f52.body.get! [1, 0, 1, 0, 0]) Q ⟨[(2, .adr 0 b1 0), (3, .adr 1 b2 0), (5, .int .i64 0)], [[(b1, u.cs)], [(b2, v.cs)]]⟩ := by
  refine LP.round ?_
  refine WP.seq ?_
  refine WP.seq (WP.region (l := [0, 1]) rfl ?_)
  refine Run.move rfl rfl rfl (.at rfl) ?_
  refine Run.int rfl rfl rfl (.at rfl) (.at rfl) rfl ?_
  refine Run.nil ?_
  refine WP.cond_t (.at rfl) rfl ?_
  refine WP.skip ?_
  refine WP.seq ?_
  refine WP.block ?_
  refine WP.seq (WP.draw mx_0 ?_)
  refine Drawn.calmR ?_
  refine' DrawR.op 0 10 0 [(5, none)] rfl rfl (fun rest => ?_) ?_
  rotate_left
  · skip
    refine Run.move rfl rfl rfl (.at rfl) ?_
    exact single_nil
  refine' DrawR.op 1 11 1 [(2, none), (10, some 0)] rfl rfl (fun rest => ?_) ?_
  rotate_left
  · skip
    refine Run.idx_arr (j := 0) rfl rfl rfl (.at rfl) (.at rfl) ar_33_3_1 rfl (by decide) ?_
    exact single_nil
  refine' DrawR.op 2 12 2 [(11, some 0)] rfl rfl (fun rest => ?_) ?_
  rotate_left
  · skip
    refine Run.load rfl rfl rfl (.at rfl) (place_adr rfl) sc_2 rfl ?_
    exact single_nil
  refine' DrawR.op 3 13 3 [(5, none)] rfl rfl (fun rest => ?_) ?_
  rotate_left
  · skip
    refine Run.move rfl rfl rfl (.at rfl) ?_
    exact single_nil
  refine' DrawR.op 4 14 4 [(3, none), (13, some 0)] rfl rfl (fun rest => ?_) ?_
  rotate_left
  · skip
    refine Run.idx_arr (j := 0) rfl rfl rfl (.at rfl) (.at rfl) ar_33_3_1 rfl (by decide) ?_
    exact single_nil
  refine' DrawR.op 5 15 5 [(14, some 0)] rfl rfl (fun rest => ?_) ?_
  rotate_left
  · skip
    refine Run.load rfl rfl rfl (.at rfl) (place_adr rfl) sc_2 rfl ?_
    exact single_nil
  refine' DrawR.op 6 16 6 [(12, some 3), (15, some 0)] rfl rfl (fun rest => ?_) ?_
  rotate_left
  · skip
    refine Run.int rfl rfl rfl (.at rfl) (.at rfl) rfl ?_
    exact single_nil
  refine DrawR.tail [] rfl (by kernel_rfl) ?_
  refine Run.nil ?_
  refine WP.cond (.at rfl) (fun hc1 => ?_) (fun hc1 => ?_)
  · skip
    refine WP.seq (WP.region (l := [0]) rfl ?_)
    refine Run.assign rfl rfl rfl (.at rfl) ?_
    refine Run.nil ?_
    exact WP.keep (WP.ret (hR (by rw [eqFrom_0]; rw [hc1]; rfl))) (by repeat (first | exact trivial | refine ⟨rfl, ?_⟩)) (by repeat (first | exact HSub.nil | refine HSub.keep ?_ | refine HSub.dead ?_))
  · skip
    refine WP.skip ?_
    refine WP.region (l := [0, 1, 2]) rfl ?_
    refine Run.move rfl rfl rfl (.at rfl) ?_
    refine Run.add rfl rfl rfl (.at rfl) (.at rfl) (by omega) ?_
    refine Run.assign rfl rfl rfl (.at rfl) ?_
    refine Run.nil ?_
    exact LP.keep (l_eqPoint1 (fun h => hQ (by rw [eqFrom_0, h, hc1]; rfl)) (fun h => hR (by rw [eqFrom_0, h, Bool.and_false]))) (by repeat (first | exact trivial | refine ⟨rfl, ?_⟩)) (by repeat (first | exact HSub.nil | refine HSub.keep ?_ | refine HSub.dead ?_))
theorem c_eqPoint (u v : V3) : Pure Try.prog 52 [u.av, v.av] (.bool (decide (u = v))) := by
  refine Pure.body 2 (n := 17) (fn := Try.f52) (c := Try.f52.body.get!) fn_52 rfl nm_52 rfl rfl fun C => ?_
  refine WP.seq (WP.region (l := [0, 1, 2]) rfl ?_)
  refine Run.box 0 rfl rfl rfl (.at rfl) rfl (fun b2 => ?_)
  refine Run.box 1 rfl rfl rfl (.at rfl) rfl (fun b3 => ?_)
  refine Run.assign rfl rfl rfl (.at rfl) ?_
  refine Run.nil ?_
  refine WP.seq ?_
  refine WP.seq (WP.region (l := [0]) rfl ?_)
  refine Run.assign rfl rfl rfl (.at rfl) ?_
  refine Run.nil ?_
  refine WP.block ?_
  refine WP.loop (LP.keep (l_eqPoint0 (u := u) (v := v) (fun h => ?_) (fun h => ?_)) (by repeat (first | exact trivial | refine ⟨rfl, ?_⟩)) (by repeat (first | exact HSub.nil | refine HSub.keep ?_ | refine HSub.dead ?_)))
  rotate_left
  · exact Ends.pure (.tmp rfl .nil) (by have h' : decide (u = v) = false := h; rw [h']; rfl)
  refine WP.seq (WP.region (l := [0]) rfl ?_)
  refine Run.assign rfl rfl rfl (.at rfl) ?_
  refine Run.nil ?_
  refine WP.ret ?_
  exact Ends.pure (.tmp rfl .nil) (by have h' : decide (u = v) = true := h; rw [h']; rfl)

end Go.Ab
