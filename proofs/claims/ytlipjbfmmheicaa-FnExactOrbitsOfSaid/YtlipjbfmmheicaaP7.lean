/- Plain facts: one element struck out of a row. -/
import Derived.Test.YtlipjbfmmheicaaP6
namespace Go.Ab

theorem del_cells {cs zs : List AV} {n m i : Nat} (hcs : cs.length = n * m) (hi : i < n) (hz : zs.length = m) :
    splice (splice cs (i * m) (cs.drop ((i + 1) * m))) ((n - 1) * m) zs = cs.take (i * m) ++ (cs.drop ((i + 1) * m) ++ zs) := by
  obtain ⟨r, rfl⟩ : ∃ r, n = i + 1 + r := ⟨n - (i + 1), by omega⟩
  have e1 : (i + 1) * m = i * m + m := by rw [Nat.add_mul, Nat.one_mul]
  have e2 : (i + 1 + r) * m = i * m + m + r * m := by rw [Nat.add_mul, Nat.add_mul, Nat.one_mul]
  have e3 : (i + 1 + r - 1) * m = i * m + r * m := by rw [show i + 1 + r - 1 = i + r by omega, Nat.add_mul]
  rw [e2] at hcs
  rw [e1, e3]
  generalize i * m = a at *
  generalize r * m = c at *
  have h1 : (cs.take a).length = a := by rw [List.length_take]; omega
  have h2 : (cs.drop (a + m)).length = c := by rw [List.length_drop]; omega
  have h4 : (cs.take a ++ cs.drop (a + m)).length = a + c := by rw [List.length_append, h1, h2]
  have s1 : splice cs a (cs.drop (a + m)) = (cs.take a ++ cs.drop (a + m)) ++ cs.drop (a + c) := by
    unfold splice
    rw [h2, List.append_assoc]
  have h5 : (cs.drop (a + c)).length = m := by rw [List.length_drop]; omega
  rw [s1, ← List.append_assoc]
  generalize cs.take a ++ cs.drop (a + m) = A at h4 ⊢
  generalize cs.drop (a + c) = B at h5 ⊢
  unfold splice
  rw [List.take_left' h4, hz, ← h4, List.drop_length_add_append, List.drop_of_length_le (by omega), List.append_nil]
theorem ints_append (a b : List Int) : ints (a ++ b) = ints a ++ ints b := by simp [ints]
theorem ints_del {l : List Int} {n i : Nat} (hl : l.length = n) (hi : i < n) :
    splice (splice (ints l) (i * 1) ((ints l).drop ((i + 1) * 1))) ((n - 1) * 1) [.int .i64 0] = ints (l.eraseIdx i ++ [0]) := by
  rw [del_cells (n := n) (m := 1) (i := i) (by rw [ints_length]; omega) hi rfl, List.eraseIdx_eq_take_drop_succ]
  simp [ints]
theorem cs3_del {l : List V3} {n i : Nat} (hl : l.length = n) (hi : i < n) :
    splice (splice (cs3 l) (i * 3) ((cs3 l).drop ((i + 1) * 3))) ((n - 1) * 3) V3.Z.cs = cs3 (l.eraseIdx i ++ [V3.Z]) := by
  have ht : ∀ k, k ≤ n → (cs3 l).take (k * 3) = cs3 (l.take k) := fun k hk => by
    have h : cs3 l = cs3 (l.take k) ++ cs3 (l.drop k) := by rw [← cs3_append, List.take_append_drop]
    rw [h, List.take_left' (by rw [cs3_length, List.length_take, Nat.min_eq_left (by omega)])]
  have hd : ∀ k, k ≤ n → (cs3 l).drop (k * 3) = cs3 (l.drop k) := fun k hk => by
    have h : cs3 l = cs3 (l.take k) ++ cs3 (l.drop k) := by rw [← cs3_append, List.take_append_drop]
    rw [h, List.drop_left' (by rw [cs3_length, List.length_take, Nat.min_eq_left (by omega)])]
  rw [del_cells (n := n) (m := 3) (i := i) (by rw [cs3_length, hl]) hi rfl, List.eraseIdx_eq_take_drop_succ, ht i (by omega), hd (i + 1) (by omega), cs3_append, cs3_append, List.append_assoc]
  congr 2
end Go.Ab
