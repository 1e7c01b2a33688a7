/- Plain facts: the group of maps, listed one by one. -/
import Derived.Test.YtlipjbfmmheicaaP13
namespace Go.Ab

def addM (p : Int) (x : M3) (L : List M3) (m : M3) : List M3 := if timesM p x m ∈ L then L else L ++ [timesM p x m]
def roundM (p : Int) (x : M3) (L ms : List M3) : List M3 := ms.foldl (addM p x) L
/-- The maps that are met from the i-th on; none if there are more than 200. -/
def grpGo (p : Int) (ms : List M3) : Nat → Nat → List M3 → Option (List M3)
  | 0, _, L => some L
  | f + 1, i, L => if i < L.length then (if (roundM p (L.getD i M3.O) L ms).length > 200 then none else grpGo p ms f (i + 1) (roundM p (L.getD i M3.O) L ms)) else some L
def grpOf (p : Int) (ms : List M3) : Option (List M3) := grpGo p ms 201 0 [unitM]

theorem addM_le (p : Int) (x : M3) (L : List M3) (m : M3) : L.length ≤ (addM p x L m).length ∧ (addM p x L m).length ≤ L.length + 1 := by
  unfold addM
  split
  · omega
  · simp
theorem addM_pre (p : Int) (x : M3) (L : List M3) (m : M3) {k : Nat} (hk : k < L.length) : (addM p x L m).getD k M3.O = L.getD k M3.O := by
  unfold addM
  split
  · rfl
  · simp [List.getD, List.getElem?_append_left hk]
theorem roundM_take (p : Int) (x : M3) (L ms : List M3) {k : Nat} (hk : k < ms.length) : roundM p x L (ms.take (k + 1)) = addM p x (roundM p x L (ms.take k)) (ms.getD k M3.O) := by
  unfold roundM
  rw [List.take_add_one, List.foldl_append]
  simp [hk]
theorem roundM_le (p : Int) (x : M3) : ∀ (ms L : List M3), L.length ≤ (roundM p x L ms).length ∧ (roundM p x L ms).length ≤ L.length + ms.length
  | [], L => by simp [roundM]
  | m :: ms, L => by
    have h1 := addM_le p x L m
    have h2 := roundM_le p x ms (addM p x L m)
    simp only [roundM, List.foldl_cons, List.length_cons] at h2 ⊢
    omega
theorem roundM_pre (p : Int) (x : M3) : ∀ (ms L : List M3) {k : Nat}, k < L.length → (roundM p x L ms).getD k M3.O = L.getD k M3.O
  | [], L, k, hk => rfl
  | m :: ms, L, k, hk => by
    have h1 := addM_le p x L m
    have h2 := roundM_pre p x ms (addM p x L m) (k := k) (by omega)
    simp only [roundM, List.foldl_cons] at h2 ⊢
    rw [h2, addM_pre p x L m hk]
theorem roundM_split (p : Int) (x : M3) (L ms : List M3) (k : Nat) : (roundM p x L (ms.take k)).length ≤ (roundM p x L ms).length := by
  have : roundM p x L ms = roundM p x (roundM p x L (ms.take k)) (ms.drop k) := by
    unfold roundM
    rw [← List.foldl_append, List.take_append_drop]
  rw [this]
  exact (roundM_le p x _ _).1
/-- All entries are remainders. -/
def irL (p : Int) (L : List M3) : Prop := ∀ m ∈ L, m.ir p
theorem nM_ir {p : Int} (hp : IsP p) (m : M3) : (nM p m).ir p := by
  have hb := hp.bd
  have h : ∀ x : Int, 0 ≤ x % p ∧ x % p < p := fun x => ⟨Int.emod_nonneg _ (by omega), Int.emod_lt_of_pos _ (by omega)⟩
  exact ⟨⟨h _, h _, h _⟩, ⟨h _, h _, h _⟩, h _, h _, h _⟩
theorem unitM_ir {p : Int} (hp : IsP p) : unitM.ir p := by
  have hb := hp.bd
  unfold M3.ir V3.ir unitM
  simp only
  omega
theorem addM_ir {p : Int} (hp : IsP p) {x : M3} {L : List M3} {m : M3} (h : irL p L) : irL p (addM p x L m) := by
  unfold addM
  split
  · exact h
  · intro y hy
    rcases List.mem_append.1 hy with hy | hy
    · exact h y hy
    · simp only [List.mem_singleton] at hy
      subst hy
      exact nM_ir hp _
theorem roundM_ir {p : Int} (hp : IsP p) {x : M3} : ∀ {ms L : List M3}, irL p L → irL p (roundM p x L ms)
  | [], L, h => h
  | m :: ms, L, h => by
    have := roundM_ir hp (x := x) (ms := ms) (addM_ir hp (x := x) (m := m) h)
    simpa only [roundM, List.foldl_cons] using this
theorem irL_get {p : Int} (hp : IsP p) {L : List M3} (h : irL p L) (k : Nat) : (L.getD k M3.O).ir p := by
  rw [List.getD_eq_getElem?_getD]
  cases hk : L[k]? with
  | none => exact unitM_ir hp
  | some v => exact h v (List.mem_of_getElem? hk)
theorem mapsOk_ir {p : Int} {l : List M3} (h : mapsOk p l = true) : irL p l := by
  intro m hm
  unfold mapsOk at h
  rw [List.all_eq_true] at h
  exact M3.ir_of (isM_sm (h m hm)).2.2.1
theorem codeL_ok {p : Int} {l : List M3} {pts : List V3} (h : codeL p l pts = 0) : IsP p ∧ mapsOk p l = true ∧ ptsOk p pts = true ∧ l.length ≤ 8 := by
  unfold codeL at h
  split at h
  · cases h
  · rename_i h8
    rw [h] at h8
    unfold codeL0 at h
    split at h
    · rename_i hP
      split at h
      · rename_i hM
        simp only [Bool.and_eq_true] at hM
        refine ⟨isP_iff.1 hP, hM.1, hM.2, ?_⟩
        simp at h8
        omega
      · cases h
    · cases h
/-- The entries of the map that remembers what was met. -/
def entsM (L : List M3) : List (List Int × AV) := L.map fun m => (m.l, .bool true)
theorem entsM_len (L : List M3) : ∀ e ∈ entsM L, e.1.length = 9 := by
  intro e he
  obtain ⟨m, _, rfl⟩ := List.mem_map.1 he
  rfl
theorem entsM_snoc (L : List M3) (m : M3) : entsM (L ++ [m]) = entsM L ++ [(m.l, .bool true)] := by simp [entsM]
theorem entsM_find (L : List M3) (m : M3) : (entsM L).find? (fun e => e.1 == m.l) = if m ∈ L then some (m.l, .bool true) else none := by
  induction L with
  | nil => rfl
  | cons x L ih =>
    simp only [entsM, List.map_cons, List.find?_cons]
    by_cases hx : x = m
    · subst hx
      simp
    · have : (x.l == m.l) = false := by
        rw [beq_eq_false_iff_ne, ne_eq, M3.l_inj]
        exact hx
      rw [this]
      have ih' := ih
      unfold entsM at ih'
      simp only [ih', List.mem_cons]
      have : ¬ m = x := fun h => hx h.symm
      simp [this]
theorem entsM_look (L : List M3) (m : M3) : lookA (entsM L) m.l (.bool false) = .bool (decide (m ∈ L)) := by
  unfold lookA
  rw [entsM_find]
  by_cases h : m ∈ L <;> simp [h]
end Go.Ab
