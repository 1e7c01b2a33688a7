/- Plain facts: rows of remainders, one column cleared after the other; the rank. -/
import Derived.Test.YtlaklcbmoobfnaaW4
namespace Go.Ab

abbrev Mat := List (Nat × List Int)
def ints (l : List Int) : List AV := l.map (.int .i64)
def fam (M : Mat) : Ar := M.map fun r => (r.1, ints r.2)
def hdr (f n : Nat) (o : Bool) (M : Mat) : List AV := M.map fun r => .own f r.1 1 0 n n o
def nmOf (M : Mat) (i : Nat) : Nat := (M.getD i (0, [])).1
def rowOf (M : Mat) (i : Nat) : List Int := (M.getD i (0, [])).2

theorem ints_length (l : List Int) : (ints l).length = l.length := by simp [ints]
theorem fam_length (M : Mat) : (fam M).length = M.length := by simp [fam]
theorem hdr_length (f n : Nat) (o : Bool) (M : Mat) : (hdr f n o M).length = M.length := by simp [hdr]
theorem ints_at {l : List Int} {k : Nat} (h : k < l.length) : (ints l)[0 + k * 1]? = some (.int .i64 (l.getD k 0)) := by
  simp [ints, h]
theorem hdr_at {f n : Nat} {o : Bool} {M : Mat} {i : Nat} (h : i < M.length) : (hdr f n o M)[0 + i * 1]? = some (.own f (nmOf M i) 1 0 n n o) := by
  simp [hdr, nmOf, h]
theorem fam_at {M : Mat} {i : Nat} (h : i < M.length) : (fam M)[i]? = some (nmOf M i, ints (rowOf M i)) := by
  simp [fam, nmOf, rowOf, h]
theorem fam_set (M : Mat) (i b : Nat) (l : List Int) : (fam M).set i (b, ints l) = fam (M.set i (b, l)) := by simp [fam, List.map_set]
theorem fam_append (M : Mat) (b : Nat) (l : List Int) : fam M ++ [(b, ints l)] = fam (M ++ [(b, l)]) := by simp [fam]
theorem hdr_append (f n : Nat) (o : Bool) (M : Mat) (b : Nat) (l : List Int) : hdr f n o M ++ [.own f b 1 0 n n o] = hdr f n o (M ++ [(b, l)]) := by simp [hdr]
theorem splice_one {cs : List AV} {k : Nat} {x : AV} (h : k < cs.length) : splice cs (0 + k * 1) [x] = cs.set k x := by
  rw [List.set_eq_take_append_cons_drop, if_pos h]
  simp [splice]
theorem swap_map {α β : Type} (g : α → β) (l : List α) (i j : Nat) : (swap l i j).map g = swap (l.map g) i j := by
  unfold swap
  simp only [List.getElem?_map]
  cases l[i]? <;> cases l[j]? <;> simp [List.map_set]
theorem swap_length {α : Type} (l : List α) (i j : Nat) : (swap l i j).length = l.length := by
  unfold swap
  split <;> simp
theorem fam_swap (M : Mat) (i j : Nat) : swap (fam M) i j = fam (swap M i j) := (swap_map _ _ _ _).symm
theorem hdr_swap {f n : Nat} {o : Bool} {M : Mat} {i j : Nat} (hi : i < M.length) (hj : j < M.length) :
    splice (splice (hdr f n o M) (0 + i * 1) [.own f (nmOf M j) 1 0 n n o]) (0 + j * 1) [.own f (nmOf M i) 1 0 n n o] = hdr f n o (swap M i j) := by
  rw [splice_one (x := AV.own f (nmOf M j) 1 0 n n o) (by rw [hdr_length]; exact hi), splice_one (by rw [List.length_set, hdr_length]; exact hj)]
  unfold hdr
  rw [swap_map]
  unfold swap
  simp [hi, hj, nmOf]
theorem swap_comm {α : Type} (l : List α) (i j : Nat) : swap l i j = swap l j i := by
  by_cases hi : i < l.length
  · by_cases hj : j < l.length
    · apply List.ext_getElem?
      intro q
      rw [swap_at hi hj, swap_at hj hi]
      congr 1
      split <;> split <;> omega
    · unfold swap
      rw [List.getElem?_eq_none (Nat.le_of_not_lt hj)]
      cases l[i]? <;> rfl
  · unfold swap
    rw [List.getElem?_eq_none (Nat.le_of_not_lt hi)]
    cases l[j]? <;> rfl
theorem at_swap {M : Mat} {i j : Nat} (hi : i < M.length) (hj : j < M.length) (q : Nat) : (swap M i j).getD q (0, []) = M.getD (if q = j then i else if q = i then j else q) (0, []) := by
  simp only [List.getD_eq_getElem?_getD, swap_at hi hj]

/-- Of a row the places from c to before k are cleared. -/
def clr (q f : Int) (own : List Int) (c k : Nat) (row : List Int) : List Int := row.mapIdx fun x v => if c ≤ x ∧ x < k then (v - f * own.getD x 0) % q else v
theorem clr_length (q f : Int) (own : List Int) (c k : Nat) (row : List Int) : (clr q f own c k row).length = row.length := by simp [clr]
theorem clr_getD (q f : Int) (own : List Int) (c k : Nat) (row : List Int) {x : Nat} (hx : x < row.length) :
    (clr q f own c k row).getD x 0 = if c ≤ x ∧ x < k then (row.getD x 0 - f * own.getD x 0) % q else row.getD x 0 := by
  simp [clr, hx]
theorem clr_start (q f : Int) (own : List Int) (c : Nat) (row : List Int) : clr q f own c c row = row := by
  apply List.ext_getElem?
  intro x
  simp only [clr, List.getElem?_mapIdx]
  cases row[x]? with
  | none => rfl
  | some v => simp only [Option.map_some]; rw [if_neg (by omega)]
theorem clr_next {q f : Int} {own : List Int} {c k : Nat} {row : List Int} (hc : c ≤ k) (hk : k < row.length) :
    splice (ints (clr q f own c k row)) (0 + k * 1) [.int .i64 ((row.getD k 0 - f * own.getD k 0) % q)] = ints (clr q f own c (k + 1) row) := by
  rw [splice_one (by rw [ints_length, clr_length]; exact hk)]
  unfold ints
  rw [← List.map_set]
  congr 1
  apply List.ext_getElem?
  intro x
  simp only [clr, List.getElem?_mapIdx, List.getElem?_set, List.length_mapIdx]
  by_cases hx : k = x
  · subst hx
    simp [hk, hc]
  · rw [if_neg hx]
    cases row[x]? with
    | none => rfl
    | some v =>
      simp only [Option.map_some]
      by_cases h : c ≤ x ∧ x < k
      · rw [if_pos h, if_pos (by omega)]
      · rw [if_neg h, if_neg (by omega)]

def elimRow (q : Int) (c : Nat) (iv : Int) (own row : List Int) : List Int := if row.getD c 0 = 0 then row else clr q (row.getD c 0 * iv % q) own c row.length row
theorem elimRow_length (q : Int) (c : Nat) (iv : Int) (own row : List Int) : (elimRow q c iv own row).length = row.length := by
  unfold elimRow
  split
  · rfl
  · exact clr_length ..

/-- The rows behind r and before i are cleared. -/
def elimTo (q : Int) (c : Nat) (iv : Int) (own : List Int) (r i : Nat) (M : Mat) : Mat := M.mapIdx fun x rw => if r < x ∧ x < i then (rw.1, elimRow q c iv own rw.2) else rw
theorem elimTo_length (q : Int) (c : Nat) (iv : Int) (own : List Int) (r i : Nat) (M : Mat) : (elimTo q c iv own r i M).length = M.length := by simp [elimTo]
theorem elimTo_start (q : Int) (c : Nat) (iv : Int) (own : List Int) (r : Nat) (M : Mat) : elimTo q c iv own r (r + 1) M = M := by
  apply List.ext_getElem?
  intro x
  simp only [elimTo, List.getElem?_mapIdx]
  cases M[x]? with
  | none => rfl
  | some v => simp only [Option.map_some]; rw [if_neg (by omega)]
theorem elimTo_getD (q : Int) (c : Nat) (iv : Int) (own : List Int) (r i : Nat) (M : Mat) {x : Nat} (hx : x < M.length) :
    (elimTo q c iv own r i M).getD x (0, []) = if r < x ∧ x < i then (nmOf M x, elimRow q c iv own (rowOf M x)) else M.getD x (0, []) := by
  simp [elimTo, hx, nmOf, rowOf]
theorem elimTo_next {q : Int} {c : Nat} {iv : Int} {own : List Int} {r i : Nat} {M : Mat} (hr : r < i) (hi : i < M.length) :
    (elimTo q c iv own r i M).set i (nmOf M i, elimRow q c iv own (rowOf M i)) = elimTo q c iv own r (i + 1) M := by
  apply List.ext_getElem?
  intro x
  simp only [elimTo, List.getElem?_mapIdx, List.getElem?_set, List.length_mapIdx]
  by_cases hx : i = x
  · subst hx
    simp [hi, hr, nmOf, rowOf]
  · rw [if_neg hx]
    cases M[x]? with
    | none => rfl
    | some v =>
      simp only [Option.map_some]
      by_cases h : r < x ∧ x < i
      · rw [if_pos h, if_pos (by omega)]
      · rw [if_neg h, if_neg (by omega)]

/-- The first row from i on that has something at c. -/
def firstGo (c : Nat) (R : List (List Int)) : Nat → Nat → Nat
  | 0, i => i
  | d + 1, i => if decide (i < R.length) && ((R.getD i []).getD c 0 == 0) then firstGo c R d (i + 1) else i
def first (c : Nat) (R : List (List Int)) (r : Nat) : Nat := firstGo c R (R.length - r) r
theorem firstGo_spec (c : Nat) (R : List (List Int)) : ∀ (d i : Nat), i + d = R.length → i ≤ firstGo c R d i ∧ firstGo c R d i ≤ R.length ∧ (firstGo c R d i < R.length → (R.getD (firstGo c R d i) []).getD c 0 ≠ 0)
  | 0, i, h => by simp only [firstGo]; exact ⟨Nat.le_refl _, by omega, fun h' => by omega⟩
  | d + 1, i, h => by
    simp only [firstGo]
    split
    · have := firstGo_spec c R d (i + 1) (by omega)
      exact ⟨by omega, this.2⟩
    · rename_i hc
      refine ⟨Nat.le_refl _, by omega, fun h' => ?_⟩
      simp only [Bool.and_eq_true, decide_eq_true_eq, beq_iff_eq, not_and] at hc
      exact hc h'
def rows (M : Mat) : List (List Int) := M.map (·.2)
theorem rows_length (M : Mat) : (rows M).length = M.length := by simp [rows]
theorem rows_getD (M : Mat) (i : Nat) : (rows M).getD i [] = rowOf M i := by
  simp only [rows, rowOf, List.getD_eq_getElem?_getD, List.getElem?_map]
  cases M[i]? <;> rfl

def stepR (q : Int) (c : Nat) (s : Nat × List (List Int)) : Nat × List (List Int) :=
  let i := first c s.2 s.1
  if i = s.2.length then s else
    let own := s.2.getD i []
    (s.1 + 1, (swap s.2 s.1 i).mapIdx fun x rw => if s.1 < x ∧ x < s.2.length then elimRow q c (inv q (own.getD c 0)) own rw else rw)
def stepM (q : Int) (c : Nat) (s : Nat × Mat) : Nat × Mat :=
  let i := first c (rows s.2) s.1
  if i = s.2.length then s else (s.1 + 1, elimTo q c (inv q ((rowOf s.2 i).getD c 0)) (rowOf s.2 i) s.1 s.2.length (swap s.2 s.1 i))
theorem rows_stepM (q : Int) (c : Nat) (s : Nat × Mat) : ((stepM q c s).1, rows (stepM q c s).2) = stepR q c (s.1, rows s.2) := by
  unfold stepM stepR
  simp only [rows_length]
  by_cases h : first c (rows s.2) s.1 = s.2.length
  · rw [if_pos h, if_pos h]
  · rw [if_neg h, if_neg h]
    simp only [rows_getD, Prod.mk.injEq, true_and]
    unfold rows
    rw [← swap_map]
    apply List.ext_getElem?
    intro x
    simp only [elimTo, List.getElem?_map, List.getElem?_mapIdx]
    cases (swap s.2 s.1 (first c (List.map (fun x => x.snd) s.2) s.1))[x]? with
    | none => rfl
    | some v => simp only [Option.map_some]; split <;> rfl

/-- The column c onward. -/
def colsR (q : Int) : Nat → Nat → Nat × List (List Int) → Nat × List (List Int)
  | 0, _, s => s
  | d + 1, c, s => colsR q d (c + 1) (stepR q c s)

structure RowsOk (q : Int) (n : Nat) (M : Mat) : Prop where
  len : M.length = n
  row : ∀ i, i < n → (rowOf M i).length = n ∧ ∀ k, k < n → 0 ≤ (rowOf M i).getD k 0 ∧ (rowOf M i).getD k 0 < q

theorem RowsOk.swap {q : Int} {n i j : Nat} {M : Mat} (h : RowsOk q n M) (hi : i < n) (hj : j < n) : RowsOk q n (swap M i j) := by
  refine ⟨by rw [swap_length, h.len], fun x hx => ?_⟩
  have e : rowOf (Ab.swap M i j) x = rowOf M (if x = j then i else if x = i then j else x) := by
    unfold rowOf
    rw [at_swap (by rw [h.len]; exact hi) (by rw [h.len]; exact hj)]
  rw [e]
  apply h.row
  split
  · exact hi
  · split
    · exact hj
    · exact hx
theorem elimRow_getD {q : Int} {c : Nat} {iv : Int} {own row : List Int} (hq : 0 < q) {k : Nat} (hk : k < row.length) (h : 0 ≤ row.getD k 0 ∧ row.getD k 0 < q) :
    0 ≤ (elimRow q c iv own row).getD k 0 ∧ (elimRow q c iv own row).getD k 0 < q := by
  unfold elimRow
  split
  · exact h
  · rw [clr_getD _ _ _ _ _ _ hk]
    split
    · exact ⟨Int.emod_nonneg _ (by omega), Int.emod_lt_of_pos _ hq⟩
    · exact h
theorem RowsOk.elim {q : Int} {n : Nat} {c : Nat} {iv : Int} {own : List Int} {r i : Nat} {M : Mat} (hq : 0 < q) (h : RowsOk q n M) : RowsOk q n (elimTo q c iv own r i M) := by
  refine ⟨by rw [elimTo_length, h.len], fun x hx => ?_⟩
  have hx' : x < M.length := by rw [h.len]; exact hx
  have e : rowOf (elimTo q c iv own r i M) x = if r < x ∧ x < i then elimRow q c iv own (rowOf M x) else rowOf M x := by
    show ((elimTo q c iv own r i M).getD x (0, [])).2 = _
    rw [elimTo_getD _ _ _ _ _ _ _ hx']
    split <;> rfl
  rw [e]
  obtain ⟨h1, h2⟩ := h.row x hx
  split
  · exact ⟨by rw [elimRow_length, h1], fun k hk => elimRow_getD hq (by rw [h1]; exact hk) (h2 k hk)⟩
  · exact ⟨h1, h2⟩
end Go.Ab
