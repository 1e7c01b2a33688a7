/- The walks of the law's helpers over points: sizes, comparison of lists. -/
import Derived.Test.YtlipjbfmmheicaaL1
namespace Go.Ab
open Go.Proofs

theorem take_getD {α : Type} {l : List α} {k : Nat} {z : α} (h : k < l.length) : l.take (k + 1) = l.take k ++ [l.getD k z] := by
  rw [List.take_add_one]
  simp [h]
theorem l_eqPointS {C : Cx Try.prog 27} {Q : Post} {la lb : List V3} {n : Nat} (hl : n ≤ 4000000) (ha : la.length = n) (hb : lb.length = n)
    (hQ : la = lb → Q (.exit 0) ⟨[], []⟩) (hR : la ≠ lb → Q .ret ⟨[(4, .bool false)], []⟩) :
    ∀ (d k : Nat), k + d = n → la.take k = lb.take k → LP C (nav Try.f34.body.get! [1, 1, 0, 1, 0, 0]) Q ⟨[(0, .imm (cs3 la) n), (1, .imm (cs3 lb) n), (5, .int .i64 k)], []⟩ := by
  intro d
  induction d with
  | zero =>
    intro k hd he
    have he' : la = lb := by rwa [List.take_of_length_le (by omega), List.take_of_length_le (by omega)] at he
    refine LP.round ?_
    refine WP.seq ?_
    refine WP.seq (WP.region (l := [0, 1, 2, 3]) rfl ?_)
    refine Run.move rfl rfl rfl (.at rfl) ?_
    refine Run.move rfl rfl rfl (.at rfl) ?_
    refine Run.len rfl rfl rfl (.at rfl) is_51 rfl ?_
    refine Run.int rfl rfl rfl (.at rfl) (.at rfl) rfl ?_
    refine Run.nil ?_
    refine WP.cond_f (.at rfl) (by simp; omega) ?_
    exact WP.keep (WP.exit (hQ he')) (by repeat (first | exact trivial | refine ⟨rfl, ?_⟩)) (by repeat (first | exact HSub.nil | refine HSub.keep ?_ | refine HSub.dead ?_))
  | succ d ih =>
    intro k hd he
    have hk : k < n := by omega
    refine LP.round ?_
    refine WP.seq ?_
    refine WP.seq (WP.region (l := [0, 1, 2, 3]) rfl ?_)
    refine Run.move rfl rfl rfl (.at rfl) ?_
    refine Run.move rfl rfl rfl (.at rfl) ?_
    refine Run.len rfl rfl rfl (.at rfl) is_51 rfl ?_
    refine Run.int rfl rfl rfl (.at rfl) (.at rfl) rfl ?_
    refine Run.nil ?_
    refine WP.cond_t (.at rfl) (by simp; omega) ?_
    refine WP.skip ?_
    refine WP.seq ?_
    refine WP.block ?_
    refine WP.seq (WP.draw mx_0 ?_)
    refine Drawn.calmR ?_
    refine' DrawR.op 0 17 0 [(0, none)] rfl rfl (fun rest => ?_) ?_
    rotate_left
    · skip
      refine Run.move rfl rfl rfl (.at rfl) ?_
      exact single_nil
    refine' DrawR.op 1 18 1 [(5, none)] rfl rfl (fun rest => ?_) ?_
    rotate_left
    · skip
      refine Run.move rfl rfl rfl (.at rfl) ?_
      exact single_nil
    refine' DrawR.op 2 19 2 [(17, some 1), (18, some 0)] rfl rfl (fun rest => ?_) ?_
    rotate_left
    · skip
      refine Run.idx_imm (j := k) rfl rfl rfl (.at rfl) (.at rfl) sl_51_3 rfl hk ?_
      exact single_nil
    refine' DrawR.op 3 20 3 [(19, some 0)] rfl rfl (fun rest => ?_) ?_
    rotate_left
    · skip
      refine Run.loads rfl rfl rfl (.at rfl) .imm ag_33_3 (cs3_get (by omega)) rfl ?_
      exact single_nil
    refine' DrawR.op 4 21 4 [(1, none)] rfl rfl (fun rest => ?_) ?_
    rotate_left
    · skip
      refine Run.move rfl rfl rfl (.at rfl) ?_
      exact single_nil
    refine' DrawR.op 5 22 5 [(5, none)] rfl rfl (fun rest => ?_) ?_
    rotate_left
    · skip
      refine Run.move rfl rfl rfl (.at rfl) ?_
      exact single_nil
    refine' DrawR.op 6 23 6 [(21, some 1), (22, some 0)] rfl rfl (fun rest => ?_) ?_
    rotate_left
    · skip
      refine Run.idx_imm (j := k) rfl rfl rfl (.at rfl) (.at rfl) sl_51_3 rfl hk ?_
      exact single_nil
    refine' DrawR.op 7 24 7 [(23, some 0)] rfl rfl (fun rest => ?_) ?_
    rotate_left
    · skip
      refine Run.loads rfl rfl rfl (.at rfl) .imm ag_33_3 (cs3_get (by omega)) rfl ?_
      exact single_nil
    refine' DrawR.op 8 25 8 [(20, some 4), (24, some 0)] rfl rfl (fun rest => ?_) ?_
    rotate_left
    · skip
      refine Run.call rfl rfl rfl (.at rfl) (.cons (.at rfl) (.cons (.at rfl) .nil)) (c_eqPoint _ _) ?_
      exact single_nil
    refine' DrawR.op 9 26 9 [(25, some 0)] rfl rfl (fun rest => ?_) ?_
    rotate_left
    · skip
      refine Run.not rfl rfl rfl (.at rfl) ?_
      exact single_nil
    refine DrawR.tail [] rfl (by kernel_rfl) ?_
    refine Run.nil ?_
    refine WP.cond (.at rfl) (fun hc2 => ?_) (fun hc2 => ?_)
    · have hne : la ≠ lb := by
        intro h
        subst h
        simp at hc2
      refine WP.seq (WP.region (l := [0]) rfl ?_)
      refine Run.assign rfl rfl rfl (.at rfl) ?_
      refine Run.nil ?_
      exact WP.keep (WP.ret (hR hne)) (by repeat (first | exact trivial | refine ⟨rfl, ?_⟩)) (by repeat (first | exact HSub.nil | refine HSub.keep ?_ | refine HSub.dead ?_))
    · have he' : la.take (k + 1) = lb.take (k + 1) := by
        simp only [Bool.not_eq_false', decide_eq_true_eq] at hc2
        rw [take_getD (z := V3.O) (by omega), take_getD (z := V3.O) (by omega), he, hc2]
      refine WP.skip ?_
      refine WP.region (l := [0, 1, 2]) rfl ?_
      refine Run.move rfl rfl rfl (.at rfl) ?_
      refine Run.add rfl rfl rfl (.at rfl) (.at rfl) (by omega) ?_
      refine Run.assign rfl rfl rfl (.at rfl) ?_
      refine Run.nil ?_
      exact LP.keep (ih (k + 1) (by omega) he') (by repeat (first | exact trivial | refine ⟨rfl, ?_⟩)) (by repeat (first | exact HSub.nil | refine HSub.keep ?_ | refine HSub.dead ?_))
theorem c_eqPointS (la lb : List V3) {n m : Nat} (hl : n ≤ 4000000) (ha : la.length = n) (hb : lb.length = m) : Pure Try.prog 34 [.imm (cs3 la) n, .imm (cs3 lb) m] (.bool (decide (la = lb))) := by
  refine Pure.body 0 (n := 27) (fn := Try.f34) (c := Try.f34.body.get!) fn_34 rfl nm_34 rfl rfl fun C => ?_
  refine WP.seq (WP.region (l := [0]) rfl ?_)
  refine Run.assign rfl rfl rfl (.at rfl) ?_
  refine Run.nil ?_
  refine WP.seq ?_
  refine WP.seq (WP.region (l := [0, 1, 2, 3, 4]) rfl ?_)
  refine Run.move rfl rfl rfl (.at rfl) ?_
  refine Run.len rfl rfl rfl (.at rfl) is_51 rfl ?_
  refine Run.move rfl rfl rfl (.at rfl) ?_
  refine Run.len rfl rfl rfl (.at rfl) is_51 rfl ?_
  refine Run.int rfl rfl rfl (.at rfl) (.at rfl) rfl ?_
  refine Run.nil ?_
  refine WP.cond (.at rfl) (fun hc0 => ?_) (fun hc0 => ?_)
  · skip
    refine WP.seq (WP.region (l := [0]) rfl ?_)
    refine Run.assign rfl rfl rfl (.at rfl) ?_
    refine Run.nil ?_
    refine WP.ret ?_
    exact Ends.pure (.tmp rfl .nil) (by
      have h : ¬ la = lb := by
        intro h
        subst h
        simp only [bne_iff_ne, ne_eq] at hc0
        omega
      rw [decide_eq_false h]; rfl)
  · obtain rfl : m = n := by simp at hc0; omega
    refine WP.skip ?_
    refine WP.seq ?_
    refine WP.seq (WP.region (l := [0]) rfl ?_)
    refine Run.assign rfl rfl rfl (.at rfl) ?_
    refine Run.nil ?_
    refine WP.block ?_
    refine WP.loop (LP.keep (l_eqPointS (la := la) (lb := lb) hl ha hb (fun h => ?_) (fun h => ?_) m 0 (by omega) rfl) (by repeat (first | exact trivial | refine ⟨rfl, ?_⟩)) (by repeat (first | exact HSub.nil | refine HSub.keep ?_ | refine HSub.dead ?_)))
    rotate_left
    · exact Ends.pure (.tmp rfl .nil) (by rw [decide_eq_false h]; rfl)
    refine WP.seq (WP.region (l := [0]) rfl ?_)
    refine Run.assign rfl rfl rfl (.at rfl) ?_
    refine Run.nil ?_
    refine WP.ret ?_
    exact Ends.pure (.tmp rfl .nil) (by rw [decide_eq_true h]; rfl)
end Go.Ab
