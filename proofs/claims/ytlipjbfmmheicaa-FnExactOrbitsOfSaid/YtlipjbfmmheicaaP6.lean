/- Plain facts: marks. -/
import Derived.Test.YtlipjbfmmheicaaP5
namespace Go.Ab

theorem splice_snoc {cs xs : List AV} {off q : Nat} {x : AV} (hq : off + xs.length = q) (h : q < cs.length) : splice (splice cs off xs) q [x] = splice cs off (xs ++ [x]) := by
  subst hq
  unfold splice
  have h1 : (cs.take off).length = off := by rw [List.length_take]; omega
  have e1 : (cs.take off ++ (xs ++ cs.drop (off + xs.length))).take (off + xs.length) = cs.take off ++ xs := by
    rw [← List.append_assoc, List.take_append_of_le_length (by rw [List.length_append, h1]; exact Nat.le_refl _), List.take_of_length_le (by rw [List.length_append, h1]; exact Nat.le_refl _)]
  have e2 : (cs.take off ++ (xs ++ cs.drop (off + xs.length))).drop (off + xs.length + [x].length) = cs.drop (off + (xs ++ [x]).length) := by
    have hl : off + xs.length = (cs.take off ++ xs).length := by rw [List.length_append, h1]
    rw [← List.append_assoc, List.length_singleton, List.length_append, List.length_singleton]
    conv => lhs; rw [hl, List.drop_length_add_append]
    rw [List.drop_drop, ← hl, Nat.add_assoc]
  rw [e1, e2]
  simp [List.append_assoc]

def mk (q : Int) : V3 := ⟨q, q + 1, q + 2⟩
/-- The first k points bear marks, the others are as they were. -/
def markTo (L : List V3) (q : Int) (k : Nat) : List V3 := (List.range L.length).map fun (i : Nat) => if i < k then mk (q + 3 * i) else L.getD i V3.Z
theorem markTo_length (L : List V3) (q : Int) (k : Nat) : (markTo L q k).length = L.length := by simp [markTo]
theorem markTo_zero (L : List V3) (q : Int) : markTo L q 0 = L := by
  apply List.ext_getElem?
  intro x
  simp only [markTo, List.getElem?_map]
  by_cases h : x < L.length
  · simp [h]
  · rw [List.getElem?_eq_none (by simp; omega), List.getElem?_eq_none (by omega)]; rfl
theorem markTo_next (L : List V3) (q : Int) {k : Nat} (hk : k < L.length) : (markTo L q k).set k (mk (q + 3 * k)) = markTo L q (k + 1) := by
  apply List.ext_getElem?
  intro x
  simp only [markTo, List.getElem?_set, List.getElem?_map, List.length_map, List.length_range]
  by_cases hx : k = x
  · subst hx
    simp [hk]
  · rw [if_neg hx]
    by_cases h : x < L.length
    · simp only [List.getElem?_range h, Option.map_some]
      by_cases h' : x < k
      · rw [if_pos h', if_pos (by omega)]
      · rw [if_neg h', if_neg (by omega)]
    · simp [h]
theorem markTo_getD {L : List V3} {q : Int} {k i : Nat} (hi : i < L.length) (h : i < k) : (markTo L q k).getD i V3.O = mk (q + 3 * i) := by
  simp [markTo, hi, h]
end Go.Ab
