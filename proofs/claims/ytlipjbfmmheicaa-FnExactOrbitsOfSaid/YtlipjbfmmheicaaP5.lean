/- Plain facts: rooms, rows that are filled from the front. -/
import Derived.Test.YtlipjbfmmheicaaP4
namespace Go.Ab

def room (n : Nat) : Nat := if n % 6 = 5 then 0 else if n % 3 = 0 then 1 else n
theorem room_le (n : Nat) : room n ≤ n + 1 := by unfold room; split <;> (try split) <;> omega

/-- Of N places those before k are filled. -/
def fillTo {α : Type} (f : Nat → α) (z : α) (N k : Nat) : List α := (List.range N).map fun i => if i < k then f i else z
theorem fillTo_length {α : Type} (f : Nat → α) (z : α) (N k : Nat) : (fillTo f z N k).length = N := by simp [fillTo]
theorem fillTo_next {α : Type} (f : Nat → α) (z : α) {N k : Nat} (hk : k < N) : (fillTo f z N k).set k (f k) = fillTo f z N (k + 1) := by
  apply List.ext_getElem?
  intro x
  simp only [fillTo, List.getElem?_set, List.getElem?_map, List.length_map, List.length_range]
  by_cases hx : k = x
  · subst hx
    simp [hk]
  · rw [if_neg hx]
    by_cases h : x < N
    · simp only [List.getElem?_range h, Option.map_some]
      by_cases h' : x < k
      · rw [if_pos h', if_pos (by omega)]
      · rw [if_neg h', if_neg (by omega)]
    · simp [h]
theorem fillTo_zero {α : Type} (f : Nat → α) (z : α) (N : Nat) : fillTo f z N 0 = List.replicate N z := by
  apply List.ext_getElem?
  intro x
  simp only [fillTo, List.getElem?_map, List.getElem?_replicate]
  by_cases h : x < N
  · simp [h]
  · simp [h]
def padF {α : Type} (l : List α) (j : α) : Nat → α := fun i => l.getD i j
theorem fillTo_full {α : Type} (l : List α) (z j : α) {n r : Nat} (hn : l.length = n) : fillTo (padF l j) z (n + r) (n + r) = l ++ List.replicate r j := by
  apply List.ext_getElem?
  intro x
  simp only [fillTo, List.getElem?_map]
  by_cases h : x < n + r
  · simp only [List.getElem?_range h, Option.map_some, h, if_true, padF]
    by_cases hx : x < n
    · rw [List.getElem?_append_left (by omega)]
      simp [hn, hx]
    · rw [List.getElem?_append_right (by omega), List.getElem?_replicate, if_pos (by omega)]
      simp [hn, hx]
  · rw [List.getElem?_eq_none (by simp; omega), List.getElem?_eq_none (by simp; omega)]
    rfl

theorem cs3_set {L : List V3} {k : Nat} (v : V3) (hk : k < L.length) : splice (cs3 L) (0 + k * 3) v.cs = cs3 (L.set k v) := by
  have h1 : L.set k v = L.take k ++ v :: L.drop (k + 1) := by rw [List.set_eq_take_append_cons_drop, if_pos hk]
  have h2 : cs3 L = cs3 (L.take k) ++ cs3 (L.drop k) := by rw [← cs3_append, List.take_append_drop]
  have h3 : cs3 (L.drop k) = (L.getD k V3.O).cs ++ cs3 (L.drop (k + 1)) := by rw [drop3 hk]; simp [cs3]
  have h4 : (cs3 (L.take k)).length = k * 3 := by rw [cs3_length, List.length_take, Nat.min_eq_left (by omega)]
  have h5 : ∀ v : V3, v.cs.length = 3 := fun _ => rfl
  rw [h1, cs3_append]
  have h6 : cs3 (v :: L.drop (k + 1)) = v.cs ++ cs3 (L.drop (k + 1)) := by simp [cs3]
  rw [h6]
  unfold splice
  rw [h2, h3, h5, Nat.zero_add, ← h4, List.take_left' rfl, List.drop_length_add_append]
  congr 2
def V3.Z : V3 := ⟨0, 0, 0⟩
def V3.J : V3 := ⟨-7000000000000000101, 0, 0⟩
theorem cs3_zero (N : Nat) : zcells [.int .i64 0, .int .i64 0, .int .i64 0] 3 (N * 3) = cs3 (List.replicate N V3.Z) := by
  have h1 : zcells [.int .i64 0, .int .i64 0, .int .i64 0] 3 (N * 3) = List.replicate (N * 3) (.int .i64 0) := by
    apply List.ext_getElem?
    intro x
    simp only [zcells, List.getElem?_map, List.getElem?_replicate]
    by_cases h : x < N * 3
    · simp only [List.getElem?_range h, Option.map_some, h, if_true]
      have : x % 3 = 0 ∨ x % 3 = 1 ∨ x % 3 = 2 := by omega
      rcases this with h | h | h <;> rw [h] <;> rfl
    · simp [h]
  rw [h1]
  induction N with
  | zero => rfl
  | succ N ih =>
    have h2 : (N + 1) * 3 = 3 + N * 3 := by omega
    rw [h2, ← List.replicate_append_replicate, ih (by
      apply List.ext_getElem?
      intro x
      simp only [zcells, List.getElem?_map, List.getElem?_replicate]
      by_cases h : x < N * 3
      · simp only [List.getElem?_range h, Option.map_some, h, if_true]
        have : x % 3 = 0 ∨ x % 3 = 1 ∨ x % 3 = 2 := by omega
        rcases this with h | h | h <;> rw [h] <;> rfl
      · simp [h])]
    rfl
theorem cs3_cl (l : List V3) : (cs3 l).all cl0 = true := by
  rw [List.all_eq_true]
  intro x hx
  obtain ⟨v, _, hx⟩ := List.mem_flatMap.1 hx
  simp only [V3.cs, List.mem_cons, List.not_mem_nil, or_false] at hx
  rcases hx with rfl | rfl | rfl <;> rfl
theorem ints_cl (l : List Int) : (ints l).all cl0 = true := by
  rw [List.all_eq_true]
  intro x hx
  obtain ⟨_, _, rfl⟩ := List.mem_map.1 hx
  rfl
end Go.Ab
