/- Plain facts: lists of maps, copied and compared. -/
import Derived.Test.YtlipjbfmmheicaaP12
namespace Go.Ab

theorem cs9_set {L : List M3} {k : Nat} (v : M3) (hk : k < L.length) : splice (cs9 L) (0 + k * 9) v.cs = cs9 (L.set k v) := by
  have h1 : L.set k v = L.take k ++ v :: L.drop (k + 1) := by rw [List.set_eq_take_append_cons_drop, if_pos hk]
  have h2 : cs9 L = cs9 (L.take k) ++ cs9 (L.drop k) := by rw [← cs9_append, List.take_append_drop]
  have h3 : cs9 (L.drop k) = (L.getD k M3.O).cs ++ cs9 (L.drop (k + 1)) := by rw [drop9 hk]; simp [cs9]
  have h4 : (cs9 (L.take k)).length = k * 9 := by rw [cs9_length, List.length_take, Nat.min_eq_left (by omega)]
  have h5 : ∀ v : M3, v.cs.length = 9 := fun _ => rfl
  rw [h1, cs9_append]
  have h6 : cs9 (v :: L.drop (k + 1)) = v.cs ++ cs9 (L.drop (k + 1)) := by simp [cs9]
  rw [h6]
  unfold splice
  rw [h2, h3, h5, Nat.zero_add, ← h4, List.take_left' rfl, List.drop_length_add_append]
  congr 2
def M3.Z : M3 := ⟨V3.Z, V3.Z, V3.Z⟩
def M3.J : M3 := ⟨V3.J, V3.Z, V3.Z⟩
theorem cs9_zero (N : Nat) : zcells [.int .i64 0, .int .i64 0, .int .i64 0, .int .i64 0, .int .i64 0, .int .i64 0, .int .i64 0, .int .i64 0, .int .i64 0] 9 (N * 9) = cs9 (List.replicate N M3.Z) := by
  have h1 : ∀ c, zcells [.int .i64 0, .int .i64 0, .int .i64 0, .int .i64 0, .int .i64 0, .int .i64 0, .int .i64 0, .int .i64 0, .int .i64 0] 9 c = List.replicate c (.int .i64 0) := by
    intro c
    apply List.ext_getElem?
    intro x
    simp only [zcells, List.getElem?_map, List.getElem?_replicate]
    by_cases h : x < c
    · simp only [List.getElem?_range h, Option.map_some, h, if_true]
      have : x % 9 = 0 ∨ x % 9 = 1 ∨ x % 9 = 2 ∨ x % 9 = 3 ∨ x % 9 = 4 ∨ x % 9 = 5 ∨ x % 9 = 6 ∨ x % 9 = 7 ∨ x % 9 = 8 := by omega
      rcases this with h | h | h | h | h | h | h | h | h <;> rw [h] <;> rfl
    · simp [h]
  rw [h1]
  induction N with
  | zero => rfl
  | succ N ih =>
    have h2 : (N + 1) * 9 = 9 + N * 9 := by omega
    rw [h2, ← List.replicate_append_replicate, ih]
    rfl
abbrev fillM (l : List M3) (n k : Nat) : List M3 := fillTo (padF l M3.J) M3.Z (n + room n) k
/-- The copy that the law makes of maps: with room behind them. -/
def padM (l : List M3) : List M3 := l ++ List.replicate (room l.length) M3.J
theorem padM_take (l : List M3) : ((cs9 (padM l)).drop 0).take (cs9 l).length = cs9 l := by
  unfold padM
  rw [cs9_append, List.drop_zero, List.take_left' rfl]
theorem padM_length (l : List M3) {n : Nat} (hl : l.length = n) : (padM l).length = n + room n := by
  unfold padM
  rw [List.length_append, List.length_replicate, hl]
theorem val_maps {x : AV} (h : Ds.val (.sl 9 (.arr 3 3 (.arr 3 1 (.int .i64)))) x) : ∃ l : List M3, x = .imm (cs9 l) l.length ∧ l.length ≤ 9223372036854775807 := by
  obtain ⟨ps, h1, h2, h3⟩ := h
  simp only [List.cons.injEq, and_true] at h3
  subst h3
  have one : ∀ {xs : List AV}, (Ds.arr 3 3 (.arr 3 1 (.int .i64))).is xs → ∃ m : M3, xs = m.cs := by
    rintro xs ⟨qs, k1, k2, rfl⟩
    match qs, k1 with
    | [a, b, c], _ =>
      obtain ⟨u, rfl⟩ := is_v3 (k2 a (by simp)).1
      obtain ⟨v, rfl⟩ := is_v3 (k2 b (by simp)).1
      obtain ⟨w, rfl⟩ := is_v3 (k2 c (by simp)).1
      exact ⟨⟨u, v, w⟩, by simp [M3.cs]⟩
  have : ∀ {ps : List (List AV)}, (∀ p ∈ ps, (Ds.arr 3 3 (.arr 3 1 (.int .i64))).is p ∧ p.length = 9) → ∃ l : List M3, l.length = ps.length ∧ ps.flatten = cs9 l := by
    intro ps
    induction ps with
    | nil => intro _; exact ⟨[], rfl, rfl⟩
    | cons p ps ih =>
      intro h
      obtain ⟨v, rfl⟩ := one (h p (by simp)).1
      obtain ⟨l, hl, he⟩ := ih fun q hq => h q (by simp [hq])
      exact ⟨v :: l, by simp [hl], by simp [he, cs9]⟩
  obtain ⟨l, hl, he⟩ := this h2
  refine ⟨l, by rw [he, hl], ?_⟩
  unfold maxLen at h1
  omega
end Go.Ab
