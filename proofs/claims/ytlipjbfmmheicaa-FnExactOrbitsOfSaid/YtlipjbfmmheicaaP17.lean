/- Plain facts: the cells of lists of labels; the entries of a table of numbers; the lists that labels make. -/
import Derived.Test.YtlipjbfmmheicaaP16
namespace Go.Ab

def ns (c : List Nat) : List Int := c.map fun (k : Nat) => (k : Int)
theorem ns_length (c : List Nat) : (ns c).length = c.length := by simp [ns]
theorem ns_getD {c : List Nat} {k : Nat} (h : k < c.length) : (ns c).getD k 0 = (c.getD k 0 : Nat) := by simp [ns, h]
theorem ns_at {c : List Nat} {k : Nat} (h : k < c.length) : (ints (ns c))[0 + k * 1]? = some (.int .i64 (c.getD k 0 : Nat)) := by
  rw [ints_at (by rw [ns_length]; exact h), ns_getD h]
theorem ns_set {c : List Nat} {k x : Nat} (h : k < c.length) : splice (ints (ns c)) (0 + k * 1) [.int .i64 (x : Nat)] = ints (ns (c.set k x)) := by
  rw [splice_one (by rw [ints_length, ns_length]; exact h)]
  unfold ints ns
  rw [← List.map_set, ← List.map_set]
theorem ns_append (a b : List Nat) : ns (a ++ b) = ns a ++ ns b := by simp [ns]
theorem ns_take (c : List Nat) : (ints (ns c)).take (c.length * 1) = ints (ns c) := ints_take (ns_length c)

/-! ### relabeled up to a place -/
def relTo (hi lo : Nat) (c : List Nat) (k : Nat) : List Nat := relab hi lo (c.take k) ++ c.drop k
theorem relTo_length (hi lo : Nat) (c : List Nat) (k : Nat) : (relTo hi lo c k).length = c.length := by
  unfold relTo
  rw [List.length_append, relab_length, List.length_take, List.length_drop]
  omega
theorem relTo_zero (hi lo : Nat) (c : List Nat) : relTo hi lo c 0 = c := by simp [relTo, relab]
theorem relTo_full {hi lo : Nat} {c : List Nat} {k : Nat} (h : c.length = k) : relTo hi lo c k = relab hi lo c := by
  unfold relTo
  rw [List.take_of_length_le (by omega), List.drop_eq_nil_of_le (by omega), List.append_nil]
theorem relTo_get {hi lo : Nat} {c : List Nat} {k : Nat} (h : k < c.length) : (relTo hi lo c k).getD k 0 = c.getD k 0 := by
  unfold relTo
  have h1 : (relab hi lo (c.take k)).length = k := by rw [relab_length, List.length_take]; omega
  rw [List.getD_eq_getElem?_getD, List.getElem?_append_right (by omega), h1, Nat.sub_self, List.getElem?_drop, Nat.add_zero, List.getD_eq_getElem?_getD]
theorem relTo_next {hi lo : Nat} {c : List Nat} {k : Nat} (h : k < c.length) : relTo hi lo c (k + 1) = if c.getD k 0 = hi then (relTo hi lo c k).set k lo else relTo hi lo c k := by
  have h1 : (relab hi lo (c.take k)).length = k := by rw [relab_length, List.length_take]; omega
  have h2 : c.drop k = c.getD k 0 :: c.drop (k + 1) := by
    rw [List.drop_eq_getElem_cons h]
    simp [h]
  have h3 : relab hi lo (c.take (k + 1)) = relab hi lo (c.take k) ++ [if c.getD k 0 = hi then lo else c.getD k 0] := by
    have e : c[k]? = some (c.getD k 0) := by simp [h]
    unfold relab
    rw [List.take_add_one, List.map_append, e]
    rfl
  unfold relTo
  rw [h2, h3]
  by_cases hc : c.getD k 0 = hi
  · rw [if_pos hc, if_pos hc, List.set_append_right _ _ (by omega), h1, Nat.sub_self, List.append_assoc]
    rfl
  · rw [if_neg hc, if_neg hc, List.append_assoc]
    rfl

/-! ### the table of numbers -/
def entN : Nat → List V3 → List (List Int × AV)
  | _, [] => []
  | i, v :: l => (v.l, .int .i64 (i : Nat)) :: entN (i + 1) l
theorem entN_len : ∀ (i : Nat) (l : List V3), ∀ e ∈ entN i l, e.1.length = 3
  | _, [], e, h => by cases h
  | i, v :: l, e, h => by
    rcases List.mem_cons.1 h with rfl | h
    · rfl
    · exact entN_len (i + 1) l e h
theorem entN_snoc : ∀ (i : Nat) (l : List V3) (v : V3), entN i (l ++ [v]) = entN i l ++ [(v.l, .int .i64 ((i + l.length : Nat) : Int))]
  | i, [], v => rfl
  | i, w :: l, v => by
    have := entN_snoc (i + 1) l v
    simp only [List.cons_append, entN, this, List.length_cons]
    rw [show i + 1 + l.length = i + (l.length + 1) by omega]
theorem entN_find : ∀ (i : Nat) (l : List V3) (v : V3), (entN i l).find? (fun e => e.1 == v.l) = if v ∈ l then some (v.l, .int .i64 ((i + l.idxOf v : Nat) : Int)) else none
  | i, [], v => rfl
  | i, w :: l, v => by
    simp only [entN, List.find?_cons]
    by_cases h : w = v
    · subst h
      simp
    · have e : (w.l == v.l) = false := by
        rw [beq_eq_false_iff_ne, ne_eq, V3.l_inj]
        exact h
      have hw : (w == v) = false := by rw [beq_eq_false_iff_ne]; exact h
      rw [e]
      simp only [entN_find (i + 1) l v, List.mem_cons, List.idxOf_cons, hw, cond_false]
      have : ¬ v = w := fun h' => h h'.symm
      simp only [this, false_or]
      split
      · rw [show i + 1 + l.idxOf v = i + (l.idxOf v + 1) by omega]
      · rfl
theorem entN_look {l : List V3} {v : V3} (h : v ∈ l) : lookA (entN 0 l) v.l (.int .i64 0) = .int .i64 (l.idxOf v : Nat) := by
  unfold lookA
  rw [entN_find, if_pos h]
  simp

/-! ### the lists that labels make -/
def ownTo (S : List V3) (c : List Nat) (i k : Nat) : List V3 := ((List.range k).filter fun j => c.getD j 0 = i).map fun j => S.getD j V3.O
theorem ownTo_next (S : List V3) (c : List Nat) (i k : Nat) : ownTo S c i (k + 1) = if c.getD k 0 = i then ownTo S c i k ++ [S.getD k V3.O] else ownTo S c i k := by
  unfold ownTo
  rw [List.range_succ, List.filter_append, List.map_append, List.filter_cons]
  by_cases h : c.getD k 0 = i
  · rw [decide_eq_true h, if_pos h]
    rfl
  · rw [decide_eq_false h, if_neg h]
    exact List.append_nil _
theorem ownTo_le (S : List V3) (c : List Nat) (i k : Nat) : (ownTo S c i k).length ≤ k := by
  unfold ownTo
  rw [List.length_map]
  exact Nat.le_trans (List.length_filter_le _ _) (by simp)
def own (S : List V3) (c : List Nat) (i : Nat) : List V3 := ownTo S c i S.length
def outTo (S : List V3) (c : List Nat) (k : Nat) : List (List V3) := ((List.range k).map (own S c)).filter fun l => !l.isEmpty
theorem outTo_next (S : List V3) (c : List Nat) (k : Nat) : outTo S c (k + 1) = if (own S c k).length = 0 then outTo S c k else outTo S c k ++ [own S c k] := by
  unfold outTo
  rw [List.range_succ, List.map_append, List.filter_append]
  cases h : own S c k with
  | nil => simp [h]
  | cons x l => simp [h]
theorem outTo_le (S : List V3) (c : List Nat) (k : Nat) : (outTo S c k).length ≤ k := by
  unfold outTo
  exact Nat.le_trans (List.length_filter_le _ _) (by simp)
theorem outTo_len {S : List V3} {c : List Nat} {k : Nat} {l : List V3} (h : l ∈ outTo S c k) : l.length ≤ S.length := by
  unfold outTo at h
  obtain ⟨h, _⟩ := List.mem_filter.1 h
  obtain ⟨i, _, rfl⟩ := List.mem_map.1 h
  exact ownTo_le _ _ _ _
/-- The orbits of a group: the points whose labels are alike. -/
def orbsM (p : Int) (ms : List M3) : List (List V3) := outTo (pts p) (cls (imgM p) (pts p) V3.O ms) (pts p).length
theorem mem_ownTo {S : List V3} (hS : S.Nodup) {c : List Nat} {i k : Nat} (hk : k ≤ S.length) {v : V3} (hv : v ∈ S) : v ∈ ownTo S c i k ↔ S.idxOf v < k ∧ c.getD (S.idxOf v) 0 = i := by
  unfold ownTo
  simp only [List.mem_map, List.mem_filter, List.mem_range, decide_eq_true_eq]
  constructor
  · rintro ⟨j, ⟨hj, hc⟩, rfl⟩
    have hidx : S.idxOf (S.getD j V3.O) = j := by
      have h1 : S.getD j V3.O = S[j]'(by omega) := by simp [show j < S.length by omega]
      rw [h1]
      exact hS.idxOf_getElem j (by omega)
    rw [hidx]
    exact ⟨hj, hc⟩
  · rintro ⟨h1, h2⟩
    exact ⟨_, ⟨h1, h2⟩, idx_get hv⟩
/-- The list that holds a point: does it hold the other? -/
def findA (a b : V3) : List (List V3) → Bool
  | [] => false
  | l :: r => if a ∈ l then decide (b ∈ l) else findA a b r
theorem findA_hit {a b : V3} {t : Bool} : ∀ {L : List (List V3)}, (∀ l ∈ L, a ∈ l → decide (b ∈ l) = t) → (∃ l ∈ L, a ∈ l) → findA a b L = t
  | [], _, h => by obtain ⟨l, h, _⟩ := h; cases h
  | l :: r, h, he => by
    unfold findA
    split
    · rename_i ha
      exact h l (by simp) ha
    · rename_i ha
      refine findA_hit (fun x hx => h x (by simp [hx])) ?_
      obtain ⟨x, hx, hxa⟩ := he
      rcases List.mem_cons.1 hx with rfl | hx
      · exact absurd hxa ha
      · exact ⟨x, hx, hxa⟩
theorem findA_orbs {p : Int} {ms : List M3} (hp : IsP p) (hm : mapsOk p ms = true) {a b : V3} (ha : a ∈ pts p) (hb : b ∈ pts p) : findA a b (orbsM p ms) = decide (b ∈ orb (imgM p) V3.O ms (pts p).length a) := by
  have P := perms_of hm
  have hn := pts_nodup hp
  have hc := cls_spec (z := V3.O) P
  have hia := idx_lt ha
  have hib := idx_lt hb
  refine findA_hit (fun l hl hal => ?_) ?_
  · unfold orbsM outTo at hl
    obtain ⟨hl, _⟩ := List.mem_filter.1 hl
    obtain ⟨i, _, rfl⟩ := List.mem_map.1 hl
    unfold own at hal ⊢
    rw [mem_ownTo hn (Nat.le_refl _) ha] at hal
    congr 1
    rw [mem_ownTo hn (Nat.le_refl _) hb, orb_iff P ha, ← cls_iff (z := V3.O) P ha hb, hal.2]
    exact propext ⟨fun h => h.2.symm, fun h => ⟨hib, h.symm⟩⟩
  · have hle := hc.le _ hia
    have ham : a ∈ own (pts p) (cls (imgM p) (pts p) V3.O ms) ((cls (imgM p) (pts p) V3.O ms).getD ((pts p).idxOf a) 0) := (mem_ownTo hn (Nat.le_refl _) ha).2 ⟨hia, rfl⟩
    refine ⟨_, ?_, ham⟩
    unfold orbsM outTo
    refine List.mem_filter.2 ⟨List.mem_map.2 ⟨_, List.mem_range.2 (by omega), rfl⟩, ?_⟩
    cases he : own (pts p) (cls (imgM p) (pts p) V3.O ms) ((cls (imgM p) (pts p) V3.O ms).getD ((pts p).idxOf a) 0) with
    | nil => rw [he] at ham; cases ham
    | cons x l => rfl
end Go.Ab
