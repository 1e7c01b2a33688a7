/- The walk of the law's helper that looks whether points are as they were, with the room behind them. -/
import Derived.Test.YtkffdmmpemonaaaL3
namespace Go.Ab
open Go.Proofs

theorem c_intactPointS (i1 i2 b1 b2 n c1 c2 : Nat) (o1 o2 : Bool) (X Y : List V3) (hn : n ≤ 1000000) (hX : X.length = n + room n) (hY : Y.length = n + room n) (h1 : n + room n ≤ c1) (h2 : n + room n ≤ c2) :
    Acts Try.prog 9 [.own i1 b1 3 0 n c1 o1, .own i2 b2 3 0 n c2 o2] [[(b1, cs3 X)], [(b2, cs3 Y)]] (fun x H => x = .bool (decide (X = Y)) ∧ H = [[(b1, cs3 X)], [(b2, cs3 Y)]]) := by
  have hrm := room_le n
  refine Acts.body 0 (n := 26) (fn := Try.f9) (c := Try.f9.body.get!) fn_9 rfl nm_9 rfl rfl fun C => ?_
  refine WP.weak 0 rfl (fun _ _ _ h => own_name 0 h) ?_
  refine WP.weak 1 rfl (fun _ _ _ h => own_name 1 h) ?_
  refine WP.seq (WP.region (l := [0]) rfl ?_)
  refine Run.assign rfl rfl rfl (.at rfl) ?_
  refine Run.nil ?_
  refine WP.seq (WP.region (l := [0, 1, 2, 3, 4, 5, 6]) rfl ?_)
  refine Run.move rfl rfl rfl (.at rfl) ?_
  refine Run.len rfl rfl rfl (.at rfl) is_24 rfl ?_
  refine Run.move rfl rfl rfl (.at rfl) ?_
  refine Run.len rfl rfl rfl (.at rfl) is_24 rfl ?_
  refine Run.call rfl rfl rfl (.at rfl) (.cons (.at rfl) .nil) (c_roomBehind _) ?_
  refine Run.add rfl rfl rfl (.at rfl) (.at rfl) (by omega) ?_
  refine Run.assign rfl rfl rfl (.at rfl) ?_
  refine Run.nil ?_
  refine WP.seq (WP.draw mx_0 ?_)
  refine Drawn.calmR ?_
  refine' DrawR.op 0 12 0 [(0, none)] rfl rfl (fun rest => ?_) ?_
  rotate_left
  · skip
    refine Run.move rfl rfl rfl (.at rfl) ?_
    exact single_nil
  refine' DrawR.op 1 13 1 [(12, some 0)] rfl rfl (fun rest => ?_) ?_
  rotate_left
  · skip
    refine Run.len rfl rfl rfl (.at rfl) is_24 rfl ?_
    exact single_nil
  refine' DrawR.op 2 14 2 [(1, none)] rfl rfl (fun rest => ?_) ?_
  rotate_left
  · skip
    refine Run.move rfl rfl rfl (.at rfl) ?_
    exact single_nil
  refine' DrawR.op 3 15 3 [(14, some 0)] rfl rfl (fun rest => ?_) ?_
  rotate_left
  · skip
    refine Run.len rfl rfl rfl (.at rfl) is_24 rfl ?_
    exact single_nil
  refine' DrawR.op 4 16 4 [(13, some 2), (15, some 0)] rfl rfl (fun rest => ?_) ?_
  rotate_left
  · skip
    refine Run.int rfl rfl rfl (.at rfl) (.at rfl) rfl ?_
    exact single_nil
  refine' DrawR.op 5 17 5 [(16, some 0)] rfl rfl (fun rest => ?_) ?_
  rotate_left
  · skip
    refine Run.move rfl rfl rfl (.at rfl) ?_
    exact single_nil
  refine' DrawR.op 6 18 6 [(0, none), (17, some 0)] rfl rfl (fun rest => ?_) ?_
  rotate_left
  · skip
    refine' Run.guarded rfl rfl rfl rfl rfl rfl (fun ht => ?_) ?_
    rotate_left
    · skip
      refine Run.move rfl rfl rfl (.at rfl) ?_
      exact single_nil
    exact single_nil
  refine' DrawR.op 7 19 7 [(5, none), (17, some 1)] rfl rfl (fun rest => ?_) ?_
  rotate_left
  · skip
    refine' Run.guarded rfl rfl rfl rfl rfl rfl (fun ht => ?_) ?_
    rotate_left
    · skip
      refine Run.move rfl rfl rfl (.at rfl) ?_
      exact single_nil
    exact single_nil
  refine' DrawR.op 8 20 8 [(18, some 1), (19, some 0), (17, some 2)] rfl rfl (fun rest => ?_) ?_
  rotate_left
  · skip
    refine' Run.guarded rfl rfl rfl rfl rfl rfl (fun ht => ?_) ?_
    rotate_left
    · skip
      refine Run.slice rfl rfl rfl (.opt rfl ht) sl_24_3 Bnd.no (Bnd.at (.opt rfl ht) (by first | rfl | exact (Int.toNat_of_nonneg (by omega)).symm)) (by omega) (by omega) (by omega) ?_
      exact single_nil
    exact single_nil
  refine' DrawR.op 9 21 9 [(1, none), (17, some 3)] rfl rfl (fun rest => ?_) ?_
  rotate_left
  · skip
    refine' Run.guarded rfl rfl rfl rfl rfl rfl (fun ht => ?_) ?_
    rotate_left
    · skip
      refine Run.move rfl rfl rfl (.at rfl) ?_
      exact single_nil
    exact single_nil
  refine' DrawR.op 10 22 10 [(5, none), (17, some 4)] rfl rfl (fun rest => ?_) ?_
  rotate_left
  · skip
    refine' Run.guarded rfl rfl rfl rfl rfl rfl (fun ht => ?_) ?_
    rotate_left
    · skip
      refine Run.move rfl rfl rfl (.at rfl) ?_
      exact single_nil
    exact single_nil
  refine' DrawR.op 11 23 11 [(21, some 1), (22, some 0), (17, some 5)] rfl rfl (fun rest => ?_) ?_
  rotate_left
  · skip
    refine' Run.guarded rfl rfl rfl rfl rfl rfl (fun ht => ?_) ?_
    rotate_left
    · skip
      refine Run.slice rfl rfl rfl (.opt rfl ht) sl_24_3 Bnd.no (Bnd.at (.opt rfl ht) (by first | rfl | exact (Int.toNat_of_nonneg (by omega)).symm)) (by omega) (by omega) (by omega) ?_
      exact single_nil
    exact single_nil
  refine' DrawR.op 12 24 12 [(20, some 3), (23, some 0), (17, some 6)] rfl rfl (fun rest => ?_) ?_
  rotate_left
  · skip
    refine' Run.guarded rfl rfl rfl rfl rfl rfl (fun ht => ?_) ?_
    rotate_left
    · skip
      refine Run.acts [] [] rfl rfl rfl (.at rfl) (.cons (.opt rfl ht) (.cons (.opt rfl ht) .nil)) (.cons (Lend.one rfl (by omega) (by simp)) (.cons (Lend.one rfl (by omega) (by simp)) .nil)) (c_eqPointS X Y (n := n + room n) (m := n + room n) (by omega) hX hY).acts rfl rfl rfl (fun x H h => ?_) (fun x H h => ?_)
      · obtain ⟨rfl, rfl⟩ := h; exact ⟨rfl, rfl⟩
      obtain ⟨rfl, rfl⟩ := h
      exact single_nil
    exact single_nil
  refine' DrawR.op 13 25 13 [(17, some 7), (24, some 0)] rfl rfl (fun rest => ?_) ?_
  rotate_left
  · skip
    refine Run.and rfl rfl rfl (.at rfl) (.at rfl) rfl ?_
    exact single_nil
  refine' DrawR.op 14 4 14 [(25, some 0)] rfl rfl (fun rest => ?_) ?_
  rotate_left
  · skip
    refine Run.assign rfl rfl rfl (.at rfl) ?_
    exact single_nil
  refine DrawR.tail [] rfl (by kernel_rfl) ?_
  refine Run.nil ?_
  refine WP.ret ?_
  refine ⟨_, [[(b1, cs3 X)], [(b2, cs3 Y)]], (.tmp rfl .nil), Moved.pick (is := [0, 1]) rfl, ?_, rfl⟩
  simp [one]
end Go.Ab
