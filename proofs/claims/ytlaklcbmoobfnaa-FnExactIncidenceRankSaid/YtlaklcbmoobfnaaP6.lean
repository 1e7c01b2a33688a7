/- Plain facts: points of the plane are small; rows of incidences. -/
import Derived.Test.YtlaklcbmoobfnaaP5
namespace Go.Ab

def ptAt (p : Int) (i : Nat) : V3 := (pts p).getD i V3.O
theorem cs3_get {l : List V3} {k : Nat} (h : k < l.length) : ((cs3 l).drop (k * 3)).take 3 = (l.getD k V3.O).cs := by
  rw [cs3_at l k h]
  simp [h]
theorem pts_sm {p : Int} (hp : 0 ≤ p ∧ p ≤ 100) : ∀ v ∈ pts p, v.sm := by
  have h2 : ∀ (y : Nat) (k : Nat), y ≤ 100 → k ≤ 100 → ∀ v ∈ pts2 y k, v.sm := by
    intro y k hy hk v hv
    simp only [pts2, List.mem_map, List.mem_range] at hv
    obtain ⟨z, hz, rfl⟩ := hv
    unfold V3.sm Sm
    simp only
    omega
  intro v hv
  simp only [pts, List.mem_cons, List.mem_append] at hv
  rcases hv with rfl | hv | hv
  · unfold V3.sm Sm; simp
  · simp only [pts1, List.mem_map, List.mem_range] at hv
    obtain ⟨z, hz, rfl⟩ := hv
    unfold V3.sm Sm
    simp only
    omega
  · simp only [ptsY, List.mem_flatMap, List.mem_range] at hv
    obtain ⟨y, hy, hv⟩ := hv
    exact h2 y _ (by omega) (by omega) v hv
theorem ptAt_sm {p : Int} (hp : 0 ≤ p ∧ p ≤ 100) (i : Nat) : (ptAt p i).sm := by
  unfold ptAt
  rw [List.getD_eq_getElem?_getD]
  cases h : (pts p)[i]? with
  | none => unfold V3.sm Sm; simp [V3.O]
  | some v => exact pts_sm hp v (List.mem_of_getElem? h)

def cnt (p : Int) : Nat := p.toNat + 1 + p.toNat * p.toNat
theorem cnt_le {p : Int} (hp : 0 ≤ p ∧ p ≤ 100) : cnt p ≤ 10101 := by
  have : p.toNat * p.toNat ≤ 100 * 100 := Nat.mul_le_mul (by omega) (by omega)
  unfold cnt
  omega
def bit (p : Int) (u v : V3) : Int := if u.dot v % p == 0 then 1 else 0
def incRow (p : Int) (i k : Nat) : List Int := (List.range k).map fun x => bit p (ptAt p x) (ptAt p i)
def incRows (p : Int) (i : Nat) : List (List Int) := (List.range i).map fun y => incRow p y (cnt p)
theorem incRow_next (p : Int) (i k : Nat) : incRow p i (k + 1) = incRow p i k ++ [bit p (ptAt p k) (ptAt p i)] := by simp [incRow, List.range_succ]
theorem incRows_next (p : Int) (i : Nat) : incRows p (i + 1) = incRows p i ++ [incRow p i (cnt p)] := by simp [incRows, List.range_succ]
theorem incRow_length (p : Int) (i k : Nat) : (incRow p i k).length = k := by simp [incRow]
theorem incRows_length (p : Int) (i : Nat) : (incRows p i).length = i := by simp [incRows]
theorem rows_append (M : Mat) (b : Nat) (l : List Int) : rows (M ++ [(b, l)]) = rows M ++ [l] := by simp [rows]
theorem incRows_ok {p q : Int} (hq : 2 ≤ q) {M : Mat} (h : rows M = incRows p (cnt p)) : RowsOk q (cnt p) M := by
  refine ⟨by rw [← rows_length, h, incRows_length], fun i hi => ?_⟩
  rw [← rows_getD, h]
  have e : (incRows p (cnt p)).getD i [] = incRow p i (cnt p) := by simp [incRows, hi]
  rw [e]
  refine ⟨incRow_length .., fun k hk => ?_⟩
  have e2 : (incRow p i (cnt p)).getD k 0 = bit p (ptAt p k) (ptAt p i) := by simp [incRow, hk]
  rw [e2]
  unfold bit
  split <;> omega
/-- The rank that both the code and the plain law work out. -/
def rankOf (p q : Int) : Nat := (colsR q (cnt p) 0 (0, incRows p (cnt p))).1
theorem hdr_names {f n : Nat} {o : Bool} {M M' : Mat} (h : M.map (·.1) = M'.map (·.1)) : hdr f n o M = hdr f n o M' := by
  have : ∀ M : Mat, hdr f n o M = (M.map (·.1)).map fun b => .own f b 1 0 n n o := fun M => by simp [hdr]
  rw [this, this, h]
theorem elimTo_names (q : Int) (c : Nat) (iv : Int) (own : List Int) (r i : Nat) (M : Mat) : (elimTo q c iv own r i M).map (·.1) = M.map (·.1) := by
  apply List.ext_getElem?
  intro x
  simp only [elimTo, List.getElem?_map, List.getElem?_mapIdx]
  cases M[x]? with
  | none => rfl
  | some v => simp only [Option.map_some]; split <;> rfl
theorem elimTo_same {q : Int} {c : Nat} {iv : Int} {own : List Int} {r i : Nat} {M : Mat} (hr : r < i) (hi : i < M.length) (h0 : (rowOf M i).getD c 0 = 0) :
    elimTo q c iv own r (i + 1) M = elimTo q c iv own r i M := by
  rw [← elimTo_next hr hi]
  apply List.ext_getElem?
  intro x
  simp only [elimTo, List.getElem?_mapIdx, List.getElem?_set, List.length_mapIdx]
  by_cases hx : i = x
  · subst hx
    have : elimRow q c iv own (rowOf M i) = rowOf M i := by unfold elimRow; rw [if_pos h0]
    rw [this]
    simp [hi, nmOf, rowOf]
  · rw [if_neg hx]
theorem elim_at {q : Int} {c : Nat} {iv : Int} {own : List Int} {r i : Nat} {M : Mat} {x : Nat} (hx : x < M.length) (h : x ≤ r ∨ i ≤ x) :
    (fam (elimTo q c iv own r i M))[x]? = some (nmOf M x, ints (rowOf M x)) := by
  rw [fam_at (by rw [elimTo_length]; exact hx)]
  have := elimTo_getD q c iv own r i M hx
  rw [if_neg (by omega)] at this
  unfold nmOf rowOf
  rw [this]
end Go.Ab
