/- Plain facts: the orbits as the plain law lists them are those that the labels make. -/
import Derived.Test.YtlipjbfmmheicaaP17
namespace Go.Ab

def ownK (S O : List V3) (i k : Nat) : List V3 := ((List.range k).filter fun j => decide (i ≤ j) && decide (S.getD j V3.O ∈ O)).map fun j => S.getD j V3.O
theorem ownK_next (S O : List V3) {i k : Nat} (h : i ≤ k) : ownK S O i (k + 1) = if S.getD k V3.O ∈ O then ownK S O i k ++ [S.getD k V3.O] else ownK S O i k := by
  unfold ownK
  rw [List.range_succ, List.filter_append, List.map_append, List.filter_cons, decide_eq_true h, Bool.true_and]
  by_cases hk : S.getD k V3.O ∈ O
  · rw [decide_eq_true hk, if_pos hk]
    rfl
  · rw [decide_eq_false hk, if_neg hk]
    exact List.append_nil _
theorem ownK_start (S O : List V3) (i : Nat) : ownK S O i i = [] := by
  unfold ownK
  rw [List.filter_eq_nil_iff.2]
  · rfl
  · intro j hj
    have := List.mem_range.1 hj
    simp only [Bool.and_eq_true, decide_eq_true_eq, not_and]
    omega
theorem ownK_le (S O : List V3) (i k : Nat) : (ownK S O i k).length ≤ k := by
  unfold ownK
  rw [List.length_map]
  exact Nat.le_trans (List.length_filter_le _ _) (by simp)
abbrev orbN (p : Int) (ms : List M3) (a : V3) : List V3 := orb (imgM p) V3.O ms (pts p).length a
def metTo (p : Int) (ms : List M3) : Nat → List V3
  | 0 => []
  | k + 1 => if (pts p).getD k V3.O ∈ metTo p ms k then metTo p ms k else metTo p ms k ++ orbN p ms ((pts p).getD k V3.O)
def outS (p : Int) (ms : List M3) : Nat → List (List V3)
  | 0 => []
  | k + 1 => if (pts p).getD k V3.O ∈ metTo p ms k then outS p ms k else outS p ms k ++ [ownK (pts p) (orbN p ms ((pts p).getD k V3.O)) k (pts p).length]
theorem outS_le (p : Int) (ms : List M3) : ∀ k, (outS p ms k).length ≤ k
  | 0 => by simp [outS]
  | k + 1 => by
    have := outS_le p ms k
    unfold outS
    split
    · omega
    · simp only [List.length_append, List.length_singleton]; omega
theorem metTo_le {p : Int} {ms : List M3} (hp : IsP p) (hm : mapsOk p ms = true) : ∀ k, k ≤ (pts p).length → (metTo p ms k).length ≤ k * 200
  | 0, _ => by simp [metTo]
  | k + 1, hk => by
    have ih := metTo_le hp hm k (by omega)
    have hc := pts_cnt hp
    unfold metTo
    split
    · omega
    · have : (orbN p ms ((pts p).getD k V3.O)).length ≤ (pts p).length := (orb_spec (z := V3.O) (perms_of hm) (getD_mem (L := pts p) (z := V3.O) (k := k) (by omega))).lt
      rw [List.length_append]
      omega
theorem getD_idx {S : List V3} (hS : S.Nodup) {j : Nat} (h : j < S.length) : S.idxOf (S.getD j V3.O) = j := by
  have h1 : S.getD j V3.O = S[j]'h := by simp [h]
  rw [h1]
  exact hS.idxOf_getElem j h
theorem outS_orbs {p : Int} {ms : List M3} (hp : IsP p) (hm : mapsOk p ms = true) : outS p ms (pts p).length = orbsM p ms := by
  have P := perms_of hm
  have hn := pts_nodup hp
  have hc := cls_spec (z := V3.O) P
  have key : ∀ k, k ≤ (pts p).length → (∀ x ∈ pts p, x ∈ metTo p ms k ↔ (cls (imgM p) (pts p) V3.O ms).getD ((pts p).idxOf x) 0 < k) ∧ outS p ms k = outTo (pts p) (cls (imgM p) (pts p) V3.O ms) k := by
    intro k
    induction k with
    | zero => intro _; exact ⟨fun x _ => by simp [metTo], rfl⟩
    | succ k ih =>
      intro hk
      obtain ⟨i1, i2⟩ := ih (by omega)
      have hkl : k < (pts p).length := by omega
      have hx := getD_mem (L := pts p) (z := V3.O) hkl
      have hidx := getD_idx hn hkl
      have hle := hc.le k hkl
      have hfix := hc.fix k hkl
      have hin := i1 _ hx
      rw [hidx] at hin
      rw [outTo_next]
      by_cases hmet : (pts p).getD k V3.O ∈ metTo p ms k
      · have hlt := hin.1 hmet
        -- no point bears the label k
        have hno : ∀ j, j < (pts p).length → (cls (imgM p) (pts p) V3.O ms).getD j 0 ≠ k := by
          intro j hj e
          have := hc.fix j hj
          rw [e] at this
          omega
        have hnil : (own (pts p) (cls (imgM p) (pts p) V3.O ms) k).length = 0 := by
          unfold own ownTo
          rw [List.filter_eq_nil_iff.2]
          · rfl
          · intro j hj
            simpa using hno j (List.mem_range.1 hj)
        refine ⟨fun x hx => ?_, ?_⟩
        · unfold metTo
          rw [if_pos hmet, i1 x hx]
          have := hno _ (idx_lt hx)
          omega
        · unfold outS
          rw [if_pos hmet, if_pos hnil, i2]
      · have hck : (cls (imgM p) (pts p) V3.O ms).getD k 0 = k := by
          exact Nat.le_antisymm hle (Nat.le_of_not_lt fun h => hmet (hin.2 h))
        have horb : ∀ x ∈ pts p, x ∈ orbN p ms ((pts p).getD k V3.O) ↔ (cls (imgM p) (pts p) V3.O ms).getD ((pts p).idxOf x) 0 = k := by
          intro x hxm
          rw [orb_iff P hx, ← cls_iff (z := V3.O) P hx hxm, hidx, hck]
          exact eq_comm
        have hown : ownK (pts p) (orbN p ms ((pts p).getD k V3.O)) k (pts p).length = own (pts p) (cls (imgM p) (pts p) V3.O ms) k := by
          unfold ownK own ownTo
          congr 1
          refine List.filter_congr fun j hj => ?_
          have hj := List.mem_range.1 hj
          have h1 := horb _ (getD_mem (z := V3.O) hj)
          rw [getD_idx hn hj] at h1
          have h2 := hc.le j hj
          rw [Bool.eq_iff_iff, Bool.and_eq_true, decide_eq_true_eq, decide_eq_true_eq, decide_eq_true_eq, h1]
          omega
        have hne : ¬ (own (pts p) (cls (imgM p) (pts p) V3.O ms) k).length = 0 := by
          have hmem : (pts p).getD k V3.O ∈ own (pts p) (cls (imgM p) (pts p) V3.O ms) k := (mem_ownTo hn (Nat.le_refl _) hx).2 ⟨by rw [hidx]; exact hkl, by rw [hidx]; exact hck⟩
          have := List.length_pos_of_mem hmem
          omega
        refine ⟨fun x hx => ?_, ?_⟩
        · unfold metTo
          rw [if_neg hmet, List.mem_append, i1 x hx, horb x hx]
          omega
        · unfold outS
          rw [if_neg hmet, if_neg hne, i2, hown]
  exact (key _ (Nat.le_refl _)).2

/-! ### marks in lists of lists -/
def endF : Int → List (List V3) → Int
  | q, [] => q
  | q, l :: r => endF (q + 3 * l.length) r
def marksF : Int → List (List V3) → List (List V3)
  | _, [] => []
  | q, l :: r => markTo l q l.length :: marksF (q + 3 * l.length) r
theorem marksF_length : ∀ (q : Int) (L : List (List V3)), (marksF q L).length = L.length
  | _, [] => rfl
  | q, l :: r => by simp [marksF, marksF_length]
theorem endF_snoc : ∀ (q : Int) (L : List (List V3)) (l : List V3), endF q (L ++ [l]) = endF q L + 3 * l.length
  | q, [], l => rfl
  | q, x :: r, l => by simp only [List.cons_append, endF, endF_snoc (q + 3 * x.length) r l]
theorem marksF_snoc : ∀ (q : Int) (L : List (List V3)) (l : List V3), marksF q (L ++ [l]) = marksF q L ++ [markTo l (endF q L) l.length]
  | q, [], l => rfl
  | q, x :: r, l => by simp only [List.cons_append, marksF, endF, marksF_snoc (q + 3 * x.length) r l]
theorem endF_rng : ∀ (q : Int) (L : List (List V3)), (∀ l ∈ L, l.length ≤ 200) → q ≤ endF q L ∧ endF q L ≤ q + 600 * L.length
  | q, [], _ => by simp [endF]
  | q, x :: r, h => by
    have h1 := endF_rng (q + 3 * x.length) r fun l hl => h l (by simp [hl])
    have h2 := h x (by simp)
    simp only [endF, List.length_cons]
    omega
theorem endF_marks : ∀ (q q' : Int) (L : List (List V3)), endF q (marksF q' L) = endF q L
  | _, _, [] => rfl
  | q, q', l :: r => by
    simp only [marksF, endF, markTo_length]
    exact endF_marks _ _ r
/-- All triples are the marks from q on. -/
def heldF : Int → List (List V3) → Prop
  | _, [] => True
  | q, l :: r => (∀ i, i < l.length → l.getD i V3.O = mk (q + 3 * i)) ∧ heldF (q + 3 * l.length) r
theorem heldF_marks : ∀ (q : Int) (L : List (List V3)), heldF q (marksF q L)
  | _, [] => trivial
  | q, l :: r => by
    refine ⟨fun i hi => ?_, ?_⟩
    · rw [markTo_length] at hi
      exact markTo_getD hi hi
    · rw [markTo_length]
      exact heldF_marks _ r
theorem heldF_drop : ∀ {q : Int} {L : List (List V3)} (k : Nat), heldF q L → heldF (endF q (L.take k)) (L.drop k)
  | _, _, 0, h => h
  | _, [], k + 1, _ => trivial
  | q, l :: r, k + 1, h => heldF_drop (q := q + 3 * l.length) k h.2
theorem orbsM_le {p : Int} {ms : List M3} : (orbsM p ms).length ≤ (pts p).length := outTo_le _ _ _
theorem orbsM_len {p : Int} {ms : List M3} (hp : IsP p) : ∀ l ∈ orbsM p ms, l.length ≤ 200 := fun l hl => by
  have := outTo_len hl
  have := pts_cnt hp
  omega
end Go.Ab
