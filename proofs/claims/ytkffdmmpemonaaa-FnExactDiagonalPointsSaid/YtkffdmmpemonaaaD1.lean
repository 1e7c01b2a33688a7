/- The walks of striking one element out of a slice; of copying a slice. -/
import Derived.Test.YtkffdmmpemonaaaP7
import Derived.Test.YtkffdmmpemonaaaL4
namespace Go.Ab
open Go.Proofs
theorem ints_sc (l : List Int) : ∀ x ∈ ints l, x.sc = true := by
  intro x hx
  obtain ⟨_, _, rfl⟩ := List.mem_map.1 hx
  rfl
theorem cs3_sc (l : List V3) : ∀ x ∈ cs3 l, x.sc = true := by
  intro x hx
  obtain ⟨v, _, hx⟩ := List.mem_flatMap.1 hx
  simp only [V3.cs, List.mem_cons, List.not_mem_nil, or_false] at hx
  rcases hx with rfl | rfl | rfl <;> rfl
/-- One element is struck out, in place: numbers. -/
theorem c_delI (id b n cap i : Nat) (o : Bool) (l : List Int) (hn : n ≤ 4000000) (hl : l.length = n) (hi : i < n) (hc : n ≤ cap) (hc' : cap ≤ 100000000) :
    Acts Try.prog 20 [.own id b 1 0 n cap o, .int .i64 i, .int .i64 (i + 1)] [[(b, ints l)]] (fun x H => x = .own id b 1 0 (n - 1) cap o ∧ H = [[(b, ints (l.eraseIdx i ++ [0]))]]) := by
  have hlen : (ints l).length = n * 1 := by rw [ints_length]; omega
  have hsrc : ((ints l).drop ((i + 1) * 1)).length = (n - (i + 1)) * 1 := by rw [List.length_drop, hlen]; omega
  have htk : ((ints l).drop ((i + 1) * 1)).take ((n - (i + 1)) * 1) = (ints l).drop ((i + 1) * 1) := List.take_of_length_le (by omega)
  have hsc : ((ints l).drop ((i + 1) * 1)).all AV.sc = true := by
    rw [List.all_eq_true]
    intro x hx
    exact ints_sc l x (List.mem_of_mem_drop hx)
  have e1 : i + (n - (i + 1)) = n - 1 := by omega
  have e2 : n - (n - 1) = 1 := by omega
  by_cases hcap : i + 1 < cap
  · skip
    refine Acts.body 0 (n := 33) (fn := Try.f20) (c := Try.f20.body.get!) fn_20 rfl nm_20 rfl rfl fun C => ?_
    refine WP.weak 0 rfl (fun _ _ _ h => own_name 0 h) ?_
    refine WP.seq (WP.region (l := [0]) rfl ?_)
    refine Run.assign rfl rfl rfl (.at rfl) ?_
    refine Run.nil ?_
    refine WP.seq (WP.region (l := [0, 1, 2, 3, 4, 5]) rfl ?_)
    refine Run.move rfl rfl rfl (.at rfl) ?_
    refine Run.move rfl rfl rfl (.at rfl) ?_
    refine Run.move rfl rfl rfl (.at rfl) ?_
    refine Run.move rfl rfl rfl (.at rfl) ?_
    refine Run.len rfl rfl rfl (.at rfl) is_42 rfl ?_
    refine Run.slice3 (bl := i) (bh := i + 1) (bm := n) rfl rfl rfl (.at rfl) sl_42_1 (.at rfl) (.at rfl) (.at rfl) rfl rfl rfl (by omega) (by omega) (by omega) ?_
    refine Run.nil ?_
    refine WP.seq ?_
    refine WP.seq (WP.region (l := [0, 1, 2]) rfl ?_)
    refine Run.move rfl rfl rfl (.at rfl) ?_
    refine Run.move rfl rfl rfl (.at rfl) ?_
    refine Run.int rfl rfl rfl (.at rfl) (.at rfl) rfl ?_
    refine Run.nil ?_
    refine WP.cond_f (.at rfl) (by simp; omega) ?_
    refine WP.skip ?_
    refine WP.seq (WP.region (l := [0, 1, 2]) rfl ?_)
    refine Run.move rfl rfl rfl (.at rfl) ?_
    refine Run.len rfl rfl rfl (.at rfl) is_42 rfl ?_
    refine Run.assign rfl rfl rfl (.at rfl) ?_
    refine Run.nil ?_
    refine WP.seq (WP.draw mx_0 ?_)
    refine Drawn.calmR ?_
    refine' DrawR.op 0 20 0 [(0, none)] rfl rfl (fun rest => ?_) ?_
    rotate_left
    · skip
      refine Run.move rfl rfl rfl (.at rfl) ?_
      exact single_nil
    refine' DrawR.op 1 21 1 [(1, none)] rfl rfl (fun rest => ?_) ?_
    rotate_left
    · skip
      refine Run.move rfl rfl rfl (.at rfl) ?_
      exact single_nil
    refine' DrawR.op 2 22 2 [(20, some 1), (21, some 0)] rfl rfl (fun rest => ?_) ?_
    rotate_left
    · skip
      refine Run.slice rfl rfl rfl (.at rfl) sl_42_1 Bnd.no (Bnd.at (.at rfl) (by first | rfl | exact (Int.toNat_of_nonneg (by omega)).symm)) (by omega) (by omega) (by omega) ?_
      exact single_nil
    refine' DrawR.op 3 23 3 [(0, none)] rfl rfl (fun rest => ?_) ?_
    rotate_left
    · skip
      refine Run.move rfl rfl rfl (.at rfl) ?_
      exact single_nil
    refine' DrawR.op 4 24 4 [(2, none)] rfl rfl (fun rest => ?_) ?_
    rotate_left
    · skip
      refine Run.move rfl rfl rfl (.at rfl) ?_
      exact single_nil
    refine' DrawR.op 5 25 5 [(23, some 1), (24, some 0)] rfl rfl (fun rest => ?_) ?_
    rotate_left
    · skip
      refine Run.slice (bl := i + 1) (bh := n) rfl rfl rfl (.at rfl) sl_42_1 (Bnd.at (.at rfl) rfl) Bnd.no (by omega) (by omega) (by omega) ?_
      exact single_nil
    refine DrawR.tail [6, 7] rfl (by kernel_rfl) ?_
    refine Run.appendIn (id := 0) (b := b) (m := 1) (len := i) (cap := cap) (opn := o) (cnt := n - (i + 1)) (cs := ints l) (ys := ((ints l).drop ((i + 1) * 1))) rfl rfl rfl (.at rfl) rfl el_42 (.at rfl) (.own (At.one (id := 0) rfl) (by rw [Nat.zero_add]; exact htk) hsrc) hsc (by omega) (by omega) ?_
    refine Run.weak 26 (x := .own 0 b 1 0 (n - 1) cap o) rfl (fun _ _ _ h => by rw [e1] at h; exact h) ?_
    refine Run.assign rfl rfl rfl (.at rfl) ?_
    refine Run.nil ?_
    refine WP.seq (WP.region (l := [0, 1, 2, 3, 4, 5]) rfl ?_)
    refine Run.move rfl rfl rfl (.at rfl) ?_
    refine Run.move rfl rfl rfl (.at rfl) ?_
    refine Run.len rfl rfl rfl (.at rfl) is_42 rfl ?_
    refine Run.move rfl rfl rfl (.at rfl) ?_
    refine Run.slice (bl := n - 1) (bh := n) rfl rfl rfl (.at rfl) sl_42_1 (Bnd.at (.at rfl) rfl) (Bnd.at (.at rfl) rfl) (by omega) (by omega) (by omega) ?_
    refine Run.weak 31 (x := .own 0 b 1 (0 + (n - 1) * 1) 1 (cap - (n - 1)) o) rfl (fun _ _ _ h => by rw [e2] at h; exact h) ?_
    refine Run.clear rfl rfl (.at rfl) rfl el_42 rfl (by omega) (by rw [splice_length (by rw [hsrc]; omega)]; omega) ?_
    refine Run.nil ?_
    refine WP.hp (H' := [[(b, ints (l.eraseIdx i ++ [0]))]]) (by
      show [[(b, splice (splice (ints l) (i * 1) ((ints l).drop ((i + 1) * 1))) (0 + (n - 1) * 1) [.int .i64 0])]] = _
      rw [Nat.zero_add, ints_del hl hi]) ?_
    refine WP.seq (WP.region (l := [0, 1]) rfl ?_)
    refine Run.move rfl rfl rfl (.at rfl) ?_
    refine Run.assign rfl rfl rfl (.at rfl) ?_
    refine Run.weak 6 rfl (fun _ _ _ h => own_name id h) ?_
    refine Run.nil ?_
    refine WP.ret ?_
    exact ⟨_, [[(b, ints (l.eraseIdx i ++ [0]))]], (.tmp rfl .nil), Moved.pick (is := [0]) rfl, rfl, rfl⟩
  · skip
    refine Acts.body 0 (n := 33) (fn := Try.f20) (c := Try.f20.body.get!) fn_20 rfl nm_20 rfl rfl fun C => ?_
    refine WP.weak 0 rfl (fun _ _ _ h => own_name 0 h) ?_
    refine WP.seq (WP.region (l := [0]) rfl ?_)
    refine Run.assign rfl rfl rfl (.at rfl) ?_
    refine Run.nil ?_
    refine WP.seq (WP.region (l := [0, 1, 2, 3, 4, 5]) rfl ?_)
    refine Run.move rfl rfl rfl (.at rfl) ?_
    refine Run.move rfl rfl rfl (.at rfl) ?_
    refine Run.move rfl rfl rfl (.at rfl) ?_
    refine Run.move rfl rfl rfl (.at rfl) ?_
    refine Run.len rfl rfl rfl (.at rfl) is_42 rfl ?_
    refine Run.slice3 (bl := i) (bh := i + 1) (bm := n) rfl rfl rfl (.at rfl) sl_42_1 (.at rfl) (.at rfl) (.at rfl) rfl rfl rfl (by omega) (by omega) (by omega) ?_
    refine Run.nil ?_
    refine WP.seq ?_
    refine WP.seq (WP.region (l := [0, 1, 2]) rfl ?_)
    refine Run.move rfl rfl rfl (.at rfl) ?_
    refine Run.move rfl rfl rfl (.at rfl) ?_
    refine Run.int rfl rfl rfl (.at rfl) (.at rfl) rfl ?_
    refine Run.nil ?_
    refine WP.cond_f (.at rfl) (by simp; omega) ?_
    refine WP.skip ?_
    refine WP.seq (WP.region (l := [0, 1, 2]) rfl ?_)
    refine Run.move rfl rfl rfl (.at rfl) ?_
    refine Run.len rfl rfl rfl (.at rfl) is_42 rfl ?_
    refine Run.assign rfl rfl rfl (.at rfl) ?_
    refine Run.nil ?_
    refine WP.seq (WP.draw mx_0 ?_)
    refine Drawn.calmR ?_
    refine' DrawR.op 0 20 0 [(0, none)] rfl rfl (fun rest => ?_) ?_
    rotate_left
    · skip
      refine Run.move rfl rfl rfl (.at rfl) ?_
      exact single_nil
    refine' DrawR.op 1 21 1 [(1, none)] rfl rfl (fun rest => ?_) ?_
    rotate_left
    · skip
      refine Run.move rfl rfl rfl (.at rfl) ?_
      exact single_nil
    refine' DrawR.op 2 22 2 [(20, some 1), (21, some 0)] rfl rfl (fun rest => ?_) ?_
    rotate_left
    · skip
      refine Run.slice rfl rfl rfl (.at rfl) sl_42_1 Bnd.no (Bnd.at (.at rfl) (by first | rfl | exact (Int.toNat_of_nonneg (by omega)).symm)) (by omega) (by omega) (by omega) ?_
      exact single_nil
    refine' DrawR.op 3 23 3 [(0, none)] rfl rfl (fun rest => ?_) ?_
    rotate_left
    · skip
      refine Run.move rfl rfl rfl (.at rfl) ?_
      exact single_nil
    refine' DrawR.op 4 24 4 [(2, none)] rfl rfl (fun rest => ?_) ?_
    rotate_left
    · skip
      refine Run.move rfl rfl rfl (.at rfl) ?_
      exact single_nil
    refine' DrawR.op 5 25 5 [(23, some 1), (24, some 0)] rfl rfl (fun rest => ?_) ?_
    rotate_left
    · skip
      refine Run.slice_end (bl := i + 1) (bh := n) rfl rfl rfl (.at rfl) sl_42_1 (Bnd.at (.at rfl) rfl) Bnd.no (by omega) (by omega) (by omega) ?_
      exact single_nil
    refine DrawR.tail [6, 7] rfl (by kernel_rfl) ?_
    refine Run.appendIn (id := 0) (b := b) (m := 1) (len := i) (cap := cap) (opn := o) (cnt := 0) (cs := ints l) (ys := []) rfl rfl rfl (.at rfl) rfl el_42 (.at rfl) .empty rfl (by omega) (by omega) ?_
    refine Run.weak 26 (x := .own 0 b 1 0 (n - 1) cap o) rfl (fun _ _ _ h => by rw [show i + 0 = n - 1 by omega] at h; exact h) ?_
    refine Run.assign rfl rfl rfl (.at rfl) ?_
    refine Run.nil ?_
    refine WP.seq (WP.region (l := [0, 1, 2, 3, 4, 5]) rfl ?_)
    refine Run.move rfl rfl rfl (.at rfl) ?_
    refine Run.move rfl rfl rfl (.at rfl) ?_
    refine Run.len rfl rfl rfl (.at rfl) is_42 rfl ?_
    refine Run.move rfl rfl rfl (.at rfl) ?_
    refine Run.slice (bl := n - 1) (bh := n) rfl rfl rfl (.at rfl) sl_42_1 (Bnd.at (.at rfl) rfl) (Bnd.at (.at rfl) rfl) (by omega) (by omega) (by omega) ?_
    refine Run.weak 31 (x := .own 0 b 1 (0 + (n - 1) * 1) 1 (cap - (n - 1)) o) rfl (fun _ _ _ h => by rw [e2] at h; exact h) ?_
    refine Run.clear rfl rfl (.at rfl) rfl el_42 rfl (by omega) (by rw [splice_length (by rw [List.length_nil]; omega)]; omega) ?_
    refine Run.nil ?_
    refine WP.hp (H' := [[(b, ints (l.eraseIdx i ++ [0]))]]) (by
      show [[(b, splice (splice (ints l) (i * 1) []) (0 + (n - 1) * 1) [.int .i64 0])]] = _
      have hd := ints_del hl hi
      rw [show (ints l).drop ((i + 1) * 1) = [] from List.drop_of_length_le (by omega)] at hd
      rw [Nat.zero_add, hd]) ?_
    refine WP.seq (WP.region (l := [0, 1]) rfl ?_)
    refine Run.move rfl rfl rfl (.at rfl) ?_
    refine Run.assign rfl rfl rfl (.at rfl) ?_
    refine Run.weak 6 rfl (fun _ _ _ h => own_name id h) ?_
    refine Run.nil ?_
    refine WP.ret ?_
    exact ⟨_, [[(b, ints (l.eraseIdx i ++ [0]))]], (.tmp rfl .nil), Moved.pick (is := [0]) rfl, rfl, rfl⟩
/-- One element is struck out, in place: points. -/
theorem c_delP (id b n cap i : Nat) (o : Bool) (l : List V3) (hn : n ≤ 4000000) (hl : l.length = n) (hi : i < n) (hc : n ≤ cap) (hc' : cap ≤ 100000000) :
    Acts Try.prog 31 [.own id b 3 0 n cap o, .int .i64 i, .int .i64 (i + 1)] [[(b, cs3 l)]] (fun x H => x = .own id b 3 0 (n - 1) cap o ∧ H = [[(b, cs3 (l.eraseIdx i ++ [V3.Z]))]]) := by
  have hlen : (cs3 l).length = n * 3 := by rw [cs3_length]; omega
  have hsrc : ((cs3 l).drop ((i + 1) * 3)).length = (n - (i + 1)) * 3 := by rw [List.length_drop, hlen]; omega
  have htk : ((cs3 l).drop ((i + 1) * 3)).take ((n - (i + 1)) * 3) = (cs3 l).drop ((i + 1) * 3) := List.take_of_length_le (by omega)
  have hsc : ((cs3 l).drop ((i + 1) * 3)).all AV.sc = true := by
    rw [List.all_eq_true]
    intro x hx
    exact cs3_sc l x (List.mem_of_mem_drop hx)
  have e1 : i + (n - (i + 1)) = n - 1 := by omega
  have e2 : n - (n - 1) = 1 := by omega
  by_cases hcap : i + 1 < cap
  · skip
    refine Acts.body 0 (n := 33) (fn := Try.f31) (c := Try.f31.body.get!) fn_31 rfl nm_31 rfl rfl fun C => ?_
    refine WP.weak 0 rfl (fun _ _ _ h => own_name 0 h) ?_
    refine WP.seq (WP.region (l := [0]) rfl ?_)
    refine Run.assign rfl rfl rfl (.at rfl) ?_
    refine Run.nil ?_
    refine WP.seq (WP.region (l := [0, 1, 2, 3, 4, 5]) rfl ?_)
    refine Run.move rfl rfl rfl (.at rfl) ?_
    refine Run.move rfl rfl rfl (.at rfl) ?_
    refine Run.move rfl rfl rfl (.at rfl) ?_
    refine Run.move rfl rfl rfl (.at rfl) ?_
    refine Run.len rfl rfl rfl (.at rfl) is_24 rfl ?_
    refine Run.slice3 (bl := i) (bh := i + 1) (bm := n) rfl rfl rfl (.at rfl) sl_24_3 (.at rfl) (.at rfl) (.at rfl) rfl rfl rfl (by omega) (by omega) (by omega) ?_
    refine Run.nil ?_
    refine WP.seq ?_
    refine WP.seq (WP.region (l := [0, 1, 2]) rfl ?_)
    refine Run.move rfl rfl rfl (.at rfl) ?_
    refine Run.move rfl rfl rfl (.at rfl) ?_
    refine Run.int rfl rfl rfl (.at rfl) (.at rfl) rfl ?_
    refine Run.nil ?_
    refine WP.cond_f (.at rfl) (by simp; omega) ?_
    refine WP.skip ?_
    refine WP.seq (WP.region (l := [0, 1, 2]) rfl ?_)
    refine Run.move rfl rfl rfl (.at rfl) ?_
    refine Run.len rfl rfl rfl (.at rfl) is_24 rfl ?_
    refine Run.assign rfl rfl rfl (.at rfl) ?_
    refine Run.nil ?_
    refine WP.seq (WP.draw mx_0 ?_)
    refine Drawn.calmR ?_
    refine' DrawR.op 0 20 0 [(0, none)] rfl rfl (fun rest => ?_) ?_
    rotate_left
    · skip
      refine Run.move rfl rfl rfl (.at rfl) ?_
      exact single_nil
    refine' DrawR.op 1 21 1 [(1, none)] rfl rfl (fun rest => ?_) ?_
    rotate_left
    · skip
      refine Run.move rfl rfl rfl (.at rfl) ?_
      exact single_nil
    refine' DrawR.op 2 22 2 [(20, some 1), (21, some 0)] rfl rfl (fun rest => ?_) ?_
    rotate_left
    · skip
      refine Run.slice rfl rfl rfl (.at rfl) sl_24_3 Bnd.no (Bnd.at (.at rfl) (by first | rfl | exact (Int.toNat_of_nonneg (by omega)).symm)) (by omega) (by omega) (by omega) ?_
      exact single_nil
    refine' DrawR.op 3 23 3 [(0, none)] rfl rfl (fun rest => ?_) ?_
    rotate_left
    · skip
      refine Run.move rfl rfl rfl (.at rfl) ?_
      exact single_nil
    refine' DrawR.op 4 24 4 [(2, none)] rfl rfl (fun rest => ?_) ?_
    rotate_left
    · skip
      refine Run.move rfl rfl rfl (.at rfl) ?_
      exact single_nil
    refine' DrawR.op 5 25 5 [(23, some 1), (24, some 0)] rfl rfl (fun rest => ?_) ?_
    rotate_left
    · skip
      refine Run.slice (bl := i + 1) (bh := n) rfl rfl rfl (.at rfl) sl_24_3 (Bnd.at (.at rfl) rfl) Bnd.no (by omega) (by omega) (by omega) ?_
      exact single_nil
    refine DrawR.tail [6, 7] rfl (by kernel_rfl) ?_
    refine Run.appendIn (id := 0) (b := b) (m := 3) (len := i) (cap := cap) (opn := o) (cnt := n - (i + 1)) (cs := cs3 l) (ys := ((cs3 l).drop ((i + 1) * 3))) rfl rfl rfl (.at rfl) rfl el_24 (.at rfl) (.own (At.one (id := 0) rfl) (by rw [Nat.zero_add]; exact htk) hsrc) hsc (by omega) (by omega) ?_
    refine Run.weak 26 (x := .own 0 b 3 0 (n - 1) cap o) rfl (fun _ _ _ h => by rw [e1] at h; exact h) ?_
    refine Run.assign rfl rfl rfl (.at rfl) ?_
    refine Run.nil ?_
    refine WP.seq (WP.region (l := [0, 1, 2, 3, 4, 5]) rfl ?_)
    refine Run.move rfl rfl rfl (.at rfl) ?_
    refine Run.move rfl rfl rfl (.at rfl) ?_
    refine Run.len rfl rfl rfl (.at rfl) is_24 rfl ?_
    refine Run.move rfl rfl rfl (.at rfl) ?_
    refine Run.slice (bl := n - 1) (bh := n) rfl rfl rfl (.at rfl) sl_24_3 (Bnd.at (.at rfl) rfl) (Bnd.at (.at rfl) rfl) (by omega) (by omega) (by omega) ?_
    refine Run.weak 31 (x := .own 0 b 3 (0 + (n - 1) * 3) 1 (cap - (n - 1)) o) rfl (fun _ _ _ h => by rw [e2] at h; exact h) ?_
    refine Run.clear rfl rfl (.at rfl) rfl el_24 rfl (by omega) (by rw [splice_length (by rw [hsrc]; omega)]; omega) ?_
    refine Run.nil ?_
    refine WP.hp (H' := [[(b, cs3 (l.eraseIdx i ++ [V3.Z]))]]) (by
      show [[(b, splice (splice (cs3 l) (i * 3) ((cs3 l).drop ((i + 1) * 3))) (0 + (n - 1) * 3) V3.Z.cs)]] = _
      rw [Nat.zero_add, cs3_del hl hi]) ?_
    refine WP.seq (WP.region (l := [0, 1]) rfl ?_)
    refine Run.move rfl rfl rfl (.at rfl) ?_
    refine Run.assign rfl rfl rfl (.at rfl) ?_
    refine Run.weak 6 rfl (fun _ _ _ h => own_name id h) ?_
    refine Run.nil ?_
    refine WP.ret ?_
    exact ⟨_, [[(b, cs3 (l.eraseIdx i ++ [V3.Z]))]], (.tmp rfl .nil), Moved.pick (is := [0]) rfl, rfl, rfl⟩
  · skip
    refine Acts.body 0 (n := 33) (fn := Try.f31) (c := Try.f31.body.get!) fn_31 rfl nm_31 rfl rfl fun C => ?_
    refine WP.weak 0 rfl (fun _ _ _ h => own_name 0 h) ?_
    refine WP.seq (WP.region (l := [0]) rfl ?_)
    refine Run.assign rfl rfl rfl (.at rfl) ?_
    refine Run.nil ?_
    refine WP.seq (WP.region (l := [0, 1, 2, 3, 4, 5]) rfl ?_)
    refine Run.move rfl rfl rfl (.at rfl) ?_
    refine Run.move rfl rfl rfl (.at rfl) ?_
    refine Run.move rfl rfl rfl (.at rfl) ?_
    refine Run.move rfl rfl rfl (.at rfl) ?_
    refine Run.len rfl rfl rfl (.at rfl) is_24 rfl ?_
    refine Run.slice3 (bl := i) (bh := i + 1) (bm := n) rfl rfl rfl (.at rfl) sl_24_3 (.at rfl) (.at rfl) (.at rfl) rfl rfl rfl (by omega) (by omega) (by omega) ?_
    refine Run.nil ?_
    refine WP.seq ?_
    refine WP.seq (WP.region (l := [0, 1, 2]) rfl ?_)
    refine Run.move rfl rfl rfl (.at rfl) ?_
    refine Run.move rfl rfl rfl (.at rfl) ?_
    refine Run.int rfl rfl rfl (.at rfl) (.at rfl) rfl ?_
    refine Run.nil ?_
    refine WP.cond_f (.at rfl) (by simp; omega) ?_
    refine WP.skip ?_
    refine WP.seq (WP.region (l := [0, 1, 2]) rfl ?_)
    refine Run.move rfl rfl rfl (.at rfl) ?_
    refine Run.len rfl rfl rfl (.at rfl) is_24 rfl ?_
    refine Run.assign rfl rfl rfl (.at rfl) ?_
    refine Run.nil ?_
    refine WP.seq (WP.draw mx_0 ?_)
    refine Drawn.calmR ?_
    refine' DrawR.op 0 20 0 [(0, none)] rfl rfl (fun rest => ?_) ?_
    rotate_left
    · skip
      refine Run.move rfl rfl rfl (.at rfl) ?_
      exact single_nil
    refine' DrawR.op 1 21 1 [(1, none)] rfl rfl (fun rest => ?_) ?_
    rotate_left
    · skip
      refine Run.move rfl rfl rfl (.at rfl) ?_
      exact single_nil
    refine' DrawR.op 2 22 2 [(20, some 1), (21, some 0)] rfl rfl (fun rest => ?_) ?_
    rotate_left
    · skip
      refine Run.slice rfl rfl rfl (.at rfl) sl_24_3 Bnd.no (Bnd.at (.at rfl) (by first | rfl | exact (Int.toNat_of_nonneg (by omega)).symm)) (by omega) (by omega) (by omega) ?_
      exact single_nil
    refine' DrawR.op 3 23 3 [(0, none)] rfl rfl (fun rest => ?_) ?_
    rotate_left
    · skip
      refine Run.move rfl rfl rfl (.at rfl) ?_
      exact single_nil
    refine' DrawR.op 4 24 4 [(2, none)] rfl rfl (fun rest => ?_) ?_
    rotate_left
    · skip
      refine Run.move rfl rfl rfl (.at rfl) ?_
      exact single_nil
    refine' DrawR.op 5 25 5 [(23, some 1), (24, some 0)] rfl rfl (fun rest => ?_) ?_
    rotate_left
    · skip
      refine Run.slice_end (bl := i + 1) (bh := n) rfl rfl rfl (.at rfl) sl_24_3 (Bnd.at (.at rfl) rfl) Bnd.no (by omega) (by omega) (by omega) ?_
      exact single_nil
    refine DrawR.tail [6, 7] rfl (by kernel_rfl) ?_
    refine Run.appendIn (id := 0) (b := b) (m := 3) (len := i) (cap := cap) (opn := o) (cnt := 0) (cs := cs3 l) (ys := []) rfl rfl rfl (.at rfl) rfl el_24 (.at rfl) .empty rfl (by omega) (by omega) ?_
    refine Run.weak 26 (x := .own 0 b 3 0 (n - 1) cap o) rfl (fun _ _ _ h => by rw [show i + 0 = n - 1 by omega] at h; exact h) ?_
    refine Run.assign rfl rfl rfl (.at rfl) ?_
    refine Run.nil ?_
    refine WP.seq (WP.region (l := [0, 1, 2, 3, 4, 5]) rfl ?_)
    refine Run.move rfl rfl rfl (.at rfl) ?_
    refine Run.move rfl rfl rfl (.at rfl) ?_
    refine Run.len rfl rfl rfl (.at rfl) is_24 rfl ?_
    refine Run.move rfl rfl rfl (.at rfl) ?_
    refine Run.slice (bl := n - 1) (bh := n) rfl rfl rfl (.at rfl) sl_24_3 (Bnd.at (.at rfl) rfl) (Bnd.at (.at rfl) rfl) (by omega) (by omega) (by omega) ?_
    refine Run.weak 31 (x := .own 0 b 3 (0 + (n - 1) * 3) 1 (cap - (n - 1)) o) rfl (fun _ _ _ h => by rw [e2] at h; exact h) ?_
    refine Run.clear rfl rfl (.at rfl) rfl el_24 rfl (by omega) (by rw [splice_length (by rw [List.length_nil]; omega)]; omega) ?_
    refine Run.nil ?_
    refine WP.hp (H' := [[(b, cs3 (l.eraseIdx i ++ [V3.Z]))]]) (by
      show [[(b, splice (splice (cs3 l) (i * 3) []) (0 + (n - 1) * 3) V3.Z.cs)]] = _
      have hd := cs3_del hl hi
      rw [show (cs3 l).drop ((i + 1) * 3) = [] from List.drop_of_length_le (by omega)] at hd
      rw [Nat.zero_add, hd]) ?_
    refine WP.seq (WP.region (l := [0, 1]) rfl ?_)
    refine Run.move rfl rfl rfl (.at rfl) ?_
    refine Run.assign rfl rfl rfl (.at rfl) ?_
    refine Run.weak 6 rfl (fun _ _ _ h => own_name id h) ?_
    refine Run.nil ?_
    refine WP.ret ?_
    exact ⟨_, [[(b, cs3 (l.eraseIdx i ++ [V3.Z]))]], (.tmp rfl .nil), Moved.pick (is := [0]) rfl, rfl, rfl⟩
theorem cs3_all (l : List V3) : (cs3 l).all AV.sc = true := by
  rw [List.all_eq_true]
  exact cs3_sc l
theorem c_cloneP (id k : Nat) (l : List V3) (hn : k + 1 ≤ 4000000) (hl : l.length = k + 1) :
    Acts Try.prog 32 [.imm (cs3 l) (k + 1)] [] (fun x H => ∃ b, x = .own id b 3 0 (k + 1) (k + 1) true ∧ H = [[(b, cs3 l)]]) := by
  have hlen : (cs3 l).length = (k + 1) * 3 := by rw [cs3_length, hl]
  have htk : (cs3 l).take ((k + 1) * 3) = cs3 l := List.take_of_length_le (by omega)
  refine Acts.body 1 (n := 8) (fn := Try.f32) (c := Try.f32.body.get!) fn_32 rfl nm_32 rfl rfl fun C => ?_
  refine WP.seq (WP.region (l := [0]) rfl ?_)
  refine Run.assign rfl rfl rfl (.at rfl) ?_
  refine Run.nil ?_
  refine WP.seq ?_
  refine WP.seq (WP.region (l := [0, 1]) rfl ?_)
  refine Run.move rfl rfl rfl (.at rfl) ?_
  refine Run.eql_slice rfl rfl rfl (.at rfl) (.at rfl) is_24 rfl ?_
  refine Run.nil ?_
  refine WP.cond_f (.at rfl) rfl ?_
  refine WP.skip ?_
  refine WP.seq (WP.region (l := [0, 1, 2, 3]) rfl ?_)
  refine Run.buildSlice 0 rfl rfl rfl el_24 (by decide) .nil rfl rfl (fun b5 => ?_)
  refine Run.move rfl rfl rfl (.at rfl) ?_
  refine Run.append rfl rfl rfl (.at rfl) rfl el_24 (.at rfl) (.imm htk hlen) (cs3_all l) (by omega) (by simp) (by omega) (by omega) (fun b7 => ?_)
  refine Run.weak 7 (x := .own id b7 3 0 (k + 1) (k + 1) true) rfl (fun _ _ _ h => by rw [Nat.zero_add] at h; exact own_name id h) ?_
  refine Run.assign rfl rfl rfl (.at rfl) ?_
  refine Run.nil ?_
  refine WP.ret ?_
  exact ⟨_, [[(b7, cs3 l)]], (.tmp rfl .nil), Moved.pick (is := [0]) rfl, b7, rfl, rfl⟩
end Go.Ab
