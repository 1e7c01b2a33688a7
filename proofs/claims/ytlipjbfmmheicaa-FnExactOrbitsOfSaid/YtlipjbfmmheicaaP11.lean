/- Plain facts: maps of the plane: three rows. -/
import Derived.Test.YtlipjbfmmheicaaP10
namespace Go.Ab

structure M3 where
  r0 : V3
  r1 : V3
  r2 : V3
theorem M3.ext_iff' {m n : M3} : m = n ↔ (m.r0 = n.r0 ∧ m.r1 = n.r1 ∧ m.r2 = n.r2) := by
  cases m; cases n; simp
instance : DecidableEq M3 := fun _ _ => decidable_of_iff _ M3.ext_iff'.symm
def M3.cs (m : M3) : List AV := m.r0.cs ++ (m.r1.cs ++ m.r2.cs)
def M3.av (m : M3) : AV := .agg m.cs
def M3.l (m : M3) : List Int := m.r0.l ++ (m.r1.l ++ m.r2.l)
theorem M3.ints (m : M3) : m.cs = Ab.ints m.l := rfl
def M3.sm (m : M3) : Prop := m.r0.sm ∧ m.r1.sm ∧ m.r2.sm
def detM (m : M3) : Int := det m.r0 m.r1 m.r2
def unitM : M3 := ⟨⟨1, 0, 0⟩, ⟨0, 1, 0⟩, ⟨0, 0, 1⟩⟩
/-- The normal form of nine numbers. -/
def nM (p : Int) (m : M3) : M3 :=
  let f := facOf p m.l
  ⟨⟨m.r0.a % p * f % p, m.r0.b % p * f % p, m.r0.c % p * f % p⟩, ⟨m.r1.a % p * f % p, m.r1.b % p * f % p, m.r1.c % p * f % p⟩, ⟨m.r2.a % p * f % p, m.r2.b % p * f % p, m.r2.c % p * f % p⟩⟩
theorem nM_l (p : Int) (m : M3) : (nM p m).l = norml p m.l := rfl
def isM (p : Int) (m : M3) : Bool := isP p && (nrm p m.l && (detM m % p != 0))
def mapsOk (p : Int) (l : List M3) : Bool := l.all (isM p)
def codeMaps (p : Int) (l : List M3) : Int := if isP p then (if mapsOk p l then 0 else 1) else 2
/-- The code of a prime, maps and points, of maps at most 8. -/
def codeL0 (p : Int) (l : List M3) (pts : List V3) : Int := if isP p then (if mapsOk p l && ptsOk p pts then 0 else 1) else 2
def codeL (p : Int) (l : List M3) (pts : List V3) : Int := if (codeL0 p l pts == 0) && decide ((l.length : Int) > 8) then 2 else codeL0 p l pts
def cs9 (l : List M3) : List AV := l.flatMap M3.cs
theorem cs9_append (l r : List M3) : cs9 (l ++ r) = cs9 l ++ cs9 r := by simp [cs9]
theorem cs9_length (l : List M3) : (cs9 l).length = l.length * 9 := by
  induction l with
  | nil => rfl
  | cons v l ih => simp only [cs9, List.flatMap_cons, List.length_append, List.length_cons] at ih ⊢; rw [ih]; simp [M3.cs, V3.cs]; omega
def M3.O : M3 := unitM
theorem cs9_at : ∀ (l : List M3) (k : Nat) (h : k < l.length), ((cs9 l).drop (k * 9)).take 9 = (l[k]).cs
  | v :: l, 0, _ => by simp [cs9, M3.cs, V3.cs]
  | v :: l, k + 1, h => by
    have : (k + 1) * 9 = 9 + k * 9 := by omega
    rw [this, ← List.drop_drop]
    have e : (cs9 (v :: l)).drop 9 = cs9 l := by simp [cs9, M3.cs, V3.cs]
    rw [e]
    simpa using cs9_at l k (by simpa using h)
theorem cs9_get {l : List M3} {k : Nat} (h : k < l.length) : ((cs9 l).drop (k * 9)).take 9 = (l.getD k M3.O).cs := by
  rw [cs9_at l k h]
  simp [h]
theorem drop9 {l : List M3} {k : Nat} (h : k < l.length) : l.drop k = l.getD k M3.O :: l.drop (k + 1) := by
  rw [List.drop_eq_getElem_cons h]
  simp [h]
theorem cs9_cl (l : List M3) : (cs9 l).all cl0 = true := by
  rw [List.all_eq_true]
  intro x hx
  obtain ⟨v, _, hx⟩ := List.mem_flatMap.1 hx
  simp only [M3.cs, V3.cs, List.cons_append, List.nil_append, List.mem_cons, List.not_mem_nil, or_false] at hx
  rcases hx with rfl | rfl | rfl | rfl | rfl | rfl | rfl | rfl | rfl <;> rfl
theorem cs9_sc (l : List M3) : (cs9 l).all AV.sc = true := by
  rw [List.all_eq_true]
  intro x hx
  obtain ⟨v, _, hx⟩ := List.mem_flatMap.1 hx
  simp only [M3.cs, V3.cs, List.cons_append, List.nil_append, List.mem_cons, List.not_mem_nil, or_false] at hx
  rcases hx with rfl | rfl | rfl | rfl | rfl | rfl | rfl | rfl | rfl <;> rfl
theorem allIn_no {p x : Int} {l : List Int} (hx : x ∈ l) (h : (decide (x ≥ 0) && decide (x ≤ p - 1)) = false) : allIn p l = false := by
  cases hb : allIn p l with
  | false => rfl
  | true =>
    unfold allIn at hb
    rw [List.all_eq_true] at hb
    have := hb x hx
    unfold inR at this
    rw [this] at h
    cases h
theorem allIn_mem {p x : Int} {l : List Int} (h : allIn p l = true) (hx : x ∈ l) : 0 ≤ x ∧ x < p := by
  unfold allIn at h
  rw [List.all_eq_true] at h
  have := h x hx
  simp only [inR, Bool.and_eq_true, decide_eq_true_eq] at this
  omega
theorem V3.l_mem {v : V3} : v.a ∈ v.l ∧ v.b ∈ v.l ∧ v.c ∈ v.l := by simp [V3.l]
theorem M3.sm_of {p : Int} (hp : IsP p) {m : M3} (h : allIn p m.l = true) : m.sm := by
  have hb := hp.bd
  have : ∀ x ∈ m.l, Sm x := fun x hx => by have := allIn_mem h hx; unfold Sm; omega
  unfold M3.sm V3.sm
  refine ⟨⟨this _ ?_, this _ ?_, this _ ?_⟩, ⟨this _ ?_, this _ ?_, this _ ?_⟩, this _ ?_, this _ ?_, this _ ?_⟩ <;> simp [M3.l, V3.l]
theorem isM_sm {p : Int} {m : M3} (h : isM p m = true) : IsP p ∧ m.sm ∧ allIn p m.l = true ∧ detM m % p ≠ 0 := by
  simp only [isM, nrm, Bool.and_eq_true] at h
  have hp := isP_iff.1 h.1
  exact ⟨hp, M3.sm_of hp h.2.1.1, h.2.1.1, by simpa using h.2.2⟩

/-! ### what is normal is its own normal form -/
theorem nrm_norml {p : Int} (hp : IsP p) {l : List Int} (hin : allIn p l = true) (h0 : ∃ x ∈ l, x ≠ 0) : nrm p l = decide (norml p l = l) := by
  have hb := hp.bd
  have hmod : ∀ x ∈ l, x % p = x := fun x hx => by have := allIn_mem hin hx; exact Int.emod_eq_of_lt this.1 this.2
  have hq : l.find? (fun x => x % p != 0) = l.find? nz := by
    clear hin h0
    induction l with
    | nil => rfl
    | cons x l ih =>
      simp only [List.find?_cons, nz]
      rw [hmod x (by simp), ih fun y hy => hmod y (by simp [hy])]
  obtain ⟨x0, hx0, hne⟩ := h0
  cases hf : l.find? nz with
  | none =>
    have := List.find?_eq_none.1 hf x0 hx0
    simp [nz, hne] at this
  | some f =>
    have hfm := List.mem_of_find?_eq_some hf
    have hfr := allIn_mem hin hfm
    have hf0 : f ≠ 0 := by have := List.find?_some hf; simpa [nz] using this
    have hfp : f % p ≠ 0 := by rw [hmod f hfm]; exact hf0
    obtain ⟨i1, i2, i3⟩ := inv_spec hp hfp
    have hfac : facOf p l = inv p f := by unfold facOf; rw [hq, hf]
    have hn : nrm p l = (f == 1) := by unfold nrm firstNz; rw [hin, hf]; rfl
    rw [hn]
    rw [Bool.eq_iff_iff]
    simp only [beq_iff_eq, decide_eq_true_eq]
    constructor
    · rintro rfl
      have hi1 : inv p 1 = 1 := by
        have : 1 * inv p 1 % p = 1 := i3
        rw [Int.one_mul, Int.emod_eq_of_lt (by omega) i2] at this
        exact this
      unfold norml
      rw [hfac, hi1]
      conv => rhs; rw [← List.map_id l]
      apply List.map_congr_left
      intro x hx
      rw [Int.mul_one, hmod x hx, hmod x hx]; rfl
    · intro h
      have hfix : f % p * inv p f % p = f := by
        have h2 := h
        unfold norml at h2
        rw [hfac] at h2
        obtain ⟨i, hi⟩ := List.getElem?_of_mem hfm
        have := congrArg (·[i]?) h2
        simp only [List.getElem?_map, hi, Option.map_some, Option.some.injEq] at this
        exact this
      rw [hmod f hfm, i3] at hfix
      exact hfix.symm
theorem det_zero_rows {m : M3} (h : ∀ x ∈ m.l, x = 0) : detM m = 0 := by
  have h1 : m.r0.a = 0 := h _ (by simp [M3.l, V3.l])
  have h2 : m.r0.b = 0 := h _ (by simp [M3.l, V3.l])
  have h3 : m.r0.c = 0 := h _ (by simp [M3.l, V3.l])
  unfold detM det
  rw [h1, h2, h3]
  simp
theorem M3.l_inj {m n : M3} : m.l = n.l ↔ m = n := by
  constructor
  · intro h
    simp only [M3.l, V3.l, List.cons_append, List.nil_append, List.cons.injEq, and_true] at h
    obtain ⟨h1, h2, h3, h4, h5, h6, h7, h8, h9⟩ := h
    rw [M3.ext_iff', V3.ext_iff', V3.ext_iff', V3.ext_iff']
    exact ⟨⟨h1, h2, h3⟩, ⟨h4, h5, h6⟩, h7, h8, h9⟩
  · rintro rfl; rfl
theorem isM_alt {p : Int} (hp : IsP p) {m : M3} : isM p m = (allIn p m.l && ((detM m % p != 0) && decide (nM p m = m))) := by
  unfold isM
  rw [isP_iff.2 hp, Bool.true_and]
  cases hin : allIn p m.l with
  | false => simp [nrm, hin]
  | true =>
    cases hd : (detM m % p != 0) with
    | false => simp
    | true =>
      have h0 : ∃ x ∈ m.l, x ≠ 0 := by
        apply Classical.byContradiction
        intro h
        have : detM m = 0 := det_zero_rows fun x hx => Classical.byContradiction fun h' => h ⟨x, hx, h'⟩
        rw [this] at hd
        simp at hd
      rw [nrm_norml hp hin h0]
      simp only [Bool.and_true, Bool.true_and, ← nM_l, M3.l_inj]
end Go.Ab
