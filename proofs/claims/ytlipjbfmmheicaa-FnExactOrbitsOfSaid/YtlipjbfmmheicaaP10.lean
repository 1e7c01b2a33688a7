/- What a row's arguments read as: numbers, points, lists of points. -/
import Derived.Test.YtlipjbfmmheicaaP9
import Derived.Test.YtlipjbfmmheicaaP9
namespace Go.Ab

theorem val_int {k : IntKind} {x : AV} (h : Ds.val (.int k) x) : ∃ n, x = .int k n ∧ (Lit.int k n).wf = true := by
  obtain ⟨n, h, hw⟩ := h
  simp only [List.cons.injEq, and_true] at h
  exact ⟨n, h, hw⟩
theorem is_ints {k : IntKind} : ∀ {n : Nat} {xs : List AV}, (Ds.arr n 1 (.int k)).is xs → ∃ l : List Int, l.length = n ∧ xs = l.map (.int k)
  | n, xs, ⟨ps, h1, h2, h3⟩ => by
    subst h3
    have : ∀ {ps : List (List AV)}, (∀ p ∈ ps, (Ds.int k).is p ∧ p.length = 1) → ∃ l : List Int, l.length = ps.length ∧ ps.flatten = l.map (.int k) := by
      intro ps
      induction ps with
      | nil => intro _; exact ⟨[], rfl, rfl⟩
      | cons p ps ih =>
        intro h
        obtain ⟨⟨m, rfl, _⟩, _⟩ := h p (by simp)
        obtain ⟨l, hl, he⟩ := ih fun q hq => h q (by simp [hq])
        exact ⟨m :: l, by simp [hl], by simp [he]⟩
    obtain ⟨l, hl, he⟩ := this h2
    exact ⟨l, by omega, he⟩
theorem is_v3 {xs : List AV} (h : (Ds.arr 3 1 (.int .i64)).is xs) : ∃ v : V3, xs = v.cs := by
  obtain ⟨l, hl, rfl⟩ := is_ints h
  match l, hl with
  | [a, b, c], _ => exact ⟨⟨a, b, c⟩, rfl⟩
theorem val_v3 {x : AV} (h : Ds.val (.arr 3 1 (.int .i64)) x) : ∃ v : V3, x = v.av := by
  obtain ⟨xs, rfl, h⟩ := h
  obtain ⟨v, rfl⟩ := is_v3 h
  exact ⟨v, rfl⟩
theorem val_pts {x : AV} (h : Ds.val (.sl 3 (.arr 3 1 (.int .i64))) x) : ∃ l : List V3, x = .imm (cs3 l) l.length ∧ l.length ≤ 9223372036854775807 := by
  obtain ⟨ps, h1, h2, h3⟩ := h
  simp only [List.cons.injEq, and_true] at h3
  subst h3
  have : ∀ {ps : List (List AV)}, (∀ p ∈ ps, (Ds.arr 3 1 (.int .i64)).is p ∧ p.length = 3) → ∃ l : List V3, l.length = ps.length ∧ ps.flatten = cs3 l := by
    intro ps
    induction ps with
    | nil => intro _; exact ⟨[], rfl, rfl⟩
    | cons p ps ih =>
      intro h
      obtain ⟨v, rfl⟩ := is_v3 (h p (by simp)).1
      obtain ⟨l, hl, he⟩ := ih fun q hq => h q (by simp [hq])
      exact ⟨v :: l, by simp [hl], by simp [he, cs3]⟩
  obtain ⟨l, hl, he⟩ := this h2
  refine ⟨l, by rw [he, hl], ?_⟩
  unfold maxLen at h1
  omega
end Go.Ab
