/- Plain facts: the points of a plane; a map sends points to points, two points to two. -/
import Derived.Test.YtlipjbfmmheicaaP14
namespace Go.Ab

theorem pts_length {p : Int} : (pts p).length = p.toNat + 1 + p.toNat * p.toNat := by simp [pts, pts1_length, ptsY_length]; omega
theorem mem_pts1 {p : Int} (hp : IsP p) {v : V3} : v ∈ pts1 p p.toNat ↔ v.a = 0 ∧ v.b = 1 ∧ 0 ≤ v.c ∧ v.c < p := by
  have hb := hp.bd
  unfold pts1
  simp only [List.mem_map, List.mem_range]
  constructor
  · rintro ⟨z, hz, rfl⟩
    exact ⟨rfl, rfl, by simp, by simp only; omega⟩
  · rintro ⟨h1, h2, h3, h4⟩
    exact ⟨v.c.toNat, by omega, by rw [V3.ext_iff']; exact ⟨h1.symm, h2.symm, by simp only; omega⟩⟩
theorem mem_ptsY {p : Int} (hp : IsP p) {v : V3} : v ∈ ptsY p p.toNat ↔ v.a = 1 ∧ (0 ≤ v.b ∧ v.b < p) ∧ 0 ≤ v.c ∧ v.c < p := by
  have hb := hp.bd
  unfold ptsY pts2
  simp only [List.mem_flatMap, List.mem_map, List.mem_range]
  constructor
  · rintro ⟨y, hy, z, hz, rfl⟩
    exact ⟨rfl, ⟨by simp, by simp only; omega⟩, by simp, by simp only; omega⟩
  · rintro ⟨h1, ⟨h2, h3⟩, h4, h5⟩
    exact ⟨v.b.toNat, by omega, v.c.toNat, by omega, by rw [V3.ext_iff']; exact ⟨h1.symm, by simp only; omega, by simp only; omega⟩⟩
theorem mem_pts {p : Int} (hp : IsP p) {v : V3} : v ∈ pts p ↔ (v.a = 0 ∧ v.b = 0 ∧ v.c = 1) ∨ (v.a = 0 ∧ v.b = 1 ∧ 0 ≤ v.c ∧ v.c < p) ∨ (v.a = 1 ∧ (0 ≤ v.b ∧ v.b < p) ∧ 0 ≤ v.c ∧ v.c < p) := by
  unfold pts
  rw [List.mem_cons, List.mem_append, mem_pts1 hp, mem_ptsY hp, V3.ext_iff']
theorem pts_iff {p : Int} (hp : IsP p) {v : V3} : v ∈ pts p ↔ nrm p v.l = true := by
  have hb := hp.bd
  rw [mem_pts hp]
  unfold nrm allIn firstNz inR V3.l nz
  simp only [List.all_cons, List.all_nil, List.find?_cons, List.find?_nil, Bool.and_true, Bool.and_eq_true, decide_eq_true_eq, beq_iff_eq]
  have e1 : ∀ x : Int, x ≠ 0 → (x != 0) = true := fun x h => bne_iff_ne.2 h
  have e0 : ∀ x : Int, x = 0 → (x != 0) = false := fun x h => by rw [h]; rfl
  by_cases ha : v.a = 0
  · by_cases hb' : v.b = 0
    · by_cases hc : v.c = 0
      · simp only [e0 _ ha, e0 _ hb', e0 _ hc, Option.getD_none]
        omega
      · simp only [e0 _ ha, e0 _ hb', e1 _ hc, Option.getD_some]
        omega
    · simp only [e0 _ ha, e1 _ hb', Option.getD_some]
      omega
  · simp only [e1 _ ha, Option.getD_some]
    omega
theorem pts_nodup {p : Int} (hp : IsP p) : (pts p).Nodup := by
  have h : ∀ p ∈ [(3 : Int), 5, 7, 11, 13], (pts p).Nodup := by decide +kernel
  refine h p ?_
  unfold IsP at hp
  simp only [List.mem_cons, List.not_mem_nil, or_false]
  exact hp
theorem ptsOk_mem {p : Int} (hp : IsP p) {l : List V3} (h : ptsOk p l = true) {v : V3} (hv : v ∈ l) : v ∈ pts p := by
  unfold ptsOk at h
  rw [List.all_eq_true] at h
  exact (pts_iff hp).2 (h v hv)
theorem pts_ir {p : Int} (hp : IsP p) {v : V3} (h : v ∈ pts p) : v.ir p := by
  have hb := hp.bd
  rw [mem_pts hp] at h
  unfold V3.ir
  omega
theorem pts_nv {p : Int} (hp : IsP p) {v : V3} (h : v ∈ pts p) : nv p v = v := by
  have h1 := (pts_iff hp).1 h
  have hin : allIn p v.l = true := by unfold nrm at h1; exact (Bool.and_eq_true _ _ ▸ h1).1
  have h0 : ∃ x ∈ v.l, x ≠ 0 := by
    rw [mem_pts hp] at h
    obtain ⟨m1, m2, m3⟩ := @V3.l_mem v
    rcases h with h | h | h
    · exact ⟨v.c, m3, by omega⟩
    · exact ⟨v.b, m2, by omega⟩
    · exact ⟨v.a, m1, by omega⟩
  rw [nrm_norml hp hin h0] at h1
  have h2 := of_decide_eq_true h1
  rw [← nv_l] at h2
  unfold V3.l at h2
  rw [V3.ext_iff']
  simp only [List.cons.injEq, and_true] at h2
  exact h2
/-- No place is left: not the zero triple. -/
def V3.nz (p : Int) (v : V3) : Prop := v.a % p ≠ 0 ∨ v.b % p ≠ 0 ∨ v.c % p ≠ 0
theorem V3.nz_fac {p : Int} {v : V3} (h : v.nz p) : ∃ x, facOf p v.l = inv p x ∧ x % p ≠ 0 ∧ ((x = v.a) ∨ (v.a % p = 0 ∧ x = v.b) ∨ (v.a % p = 0 ∧ v.b % p = 0 ∧ x = v.c)) := by
  unfold facOf V3.l
  unfold V3.nz at h
  simp only [List.find?_cons, List.find?_nil]
  have e1 : ∀ x : Int, x % p ≠ 0 → (x % p != 0) = true := fun x h => bne_iff_ne.2 h
  have e0 : ∀ x : Int, x % p = 0 → (x % p != 0) = false := fun x h => by rw [h]; rfl
  by_cases ha : v.a % p = 0
  · by_cases hb : v.b % p = 0
    · have hc : v.c % p ≠ 0 := by
        rcases h with h | h | h
        · exact absurd ha h
        · exact absurd hb h
        · exact h
      exact ⟨v.c, by simp only [e0 _ ha, e0 _ hb, e1 _ hc], hc, .inr (.inr ⟨ha, hb, rfl⟩)⟩
    · exact ⟨v.b, by simp only [e0 _ ha, e1 _ hb], hb, .inr (.inl ⟨ha, rfl⟩)⟩
  · exact ⟨v.a, by simp only [e1 _ ha], ha, .inl rfl⟩
theorem nv_mem {p : Int} (hp : IsP p) {v : V3} (h : v.nz p) : nv p v ∈ pts p := by
  have hb := hp.bd
  have hr := nv_rng hp v
  obtain ⟨x, hf, hx, hc⟩ := V3.nz_fac h
  have h1 : x % p * inv p x % p = 1 := by rw [Int.mul_emod, Int.emod_emod, ← Int.mul_emod, (inv_spec hp hx).2.2]
  have h0 : ∀ y : Int, y % p = 0 → y % p * facOf p v.l % p = 0 := fun y hy => by rw [hy, Int.zero_mul]; rfl
  rw [← hf] at h1
  rw [mem_pts hp]
  rcases hc with rfl | ⟨ha, rfl⟩ | ⟨ha, hb', rfl⟩
  · exact .inr (.inr ⟨h1, hr.2.1, hr.2.2⟩)
  · exact .inr (.inl ⟨h0 _ ha, h1, hr.2.2⟩)
  · exact .inl ⟨h0 _ ha, h0 _ hb', h1⟩
/-- The same normal form: one is a multiple of the other. -/
theorem nv_eq {p : Int} (hp : IsP p) {u v : V3} (hu : u.nz p) (hv : v.nz p) (h : nv p u = nv p v) : ∃ k, k % p ≠ 0 ∧ p ∣ u.a - k * v.a ∧ p ∣ u.b - k * v.b ∧ p ∣ u.c - k * v.c := by
  obtain ⟨x, hf, hx, _⟩ := V3.nz_fac hu
  obtain ⟨y, hg, hy, _⟩ := V3.nz_fac hv
  have hb := hp.bd
  have hy' : inv p y % p ≠ 0 := by
    obtain ⟨i1, i2, _⟩ := inv_spec hp hy
    rw [Int.emod_eq_of_lt (by omega) i2]; omega
  rw [V3.ext_iff'] at h
  have key : ∀ s t : Int, s % p * facOf p u.l % p = t % p * facOf p v.l % p → p ∣ s - (x * inv p y) * t := by
    intro s t hst
    rw [hf, hg, eqm_iff] at hst
    have a1 := emod_dvd s p
    have a2 := emod_dvd t p
    have a3 := inv_dvd hp hx
    refine dvd4 x (x * inv p x) (-(x * inv p y)) (-s) hst a1 a2 a3 ?_
    grind
  exact ⟨x * inv p y, mul_ne hp hx hy', key _ _ h.1, key _ _ h.2.1, key _ _ h.2.2⟩
/-- The triple before the normal form. -/
def rawM (p : Int) (m : M3) (v : V3) : V3 := ⟨m.r0.dot v % p, m.r1.dot v % p, m.r2.dot v % p⟩
theorem imgM_raw (p : Int) (m : M3) (v : V3) : imgM p m v = nv p (rawM p m v) := rfl
theorem cramer {p : Int} (hp : IsP p) {m : M3} (hd : detM m % p ≠ 0) {w : V3} (h0 : p ∣ m.r0.dot w) (h1 : p ∣ m.r1.dot w) (h2 : p ∣ m.r2.dot w) : p ∣ w.a ∧ p ∣ w.b ∧ p ∣ w.c := by
  have key : ∀ t : Int, p ∣ detM m * t → p ∣ t := fun t h => zero_iff.1 (no_zero hp hd (zero_iff.2 h))
  refine ⟨key _ ?_, key _ ?_, key _ ?_⟩
  · exact dvd3 (m.r1.b * m.r2.c - m.r1.c * m.r2.b) (m.r2.b * m.r0.c - m.r2.c * m.r0.b) (m.r0.b * m.r1.c - m.r0.c * m.r1.b) h0 h1 h2 (by simp only [detM, det, V3.dot]; grind)
  · exact dvd3 (m.r1.c * m.r2.a - m.r1.a * m.r2.c) (m.r2.c * m.r0.a - m.r2.a * m.r0.c) (m.r0.c * m.r1.a - m.r0.a * m.r1.c) h0 h1 h2 (by simp only [detM, det, V3.dot]; grind)
  · exact dvd3 (m.r1.a * m.r2.b - m.r1.b * m.r2.a) (m.r2.a * m.r0.b - m.r2.b * m.r0.a) (m.r0.a * m.r1.b - m.r0.b * m.r1.a) h0 h1 h2 (by simp only [detM, det, V3.dot]; grind)
theorem pts_nz {p : Int} (hp : IsP p) {v : V3} (h : v ∈ pts p) : v.nz p := by
  have hb := hp.bd
  have one : (1 : Int) % p ≠ 0 := by rw [Int.emod_eq_of_lt (by omega) (by omega)]; omega
  rw [mem_pts hp] at h
  unfold V3.nz
  rcases h with ⟨_, _, h⟩ | ⟨_, h, _⟩ | ⟨h, _⟩ <;> rw [h]
  · exact .inr (.inr one)
  · exact .inr (.inl one)
  · exact .inl one
theorem raw_nz {p : Int} (hp : IsP p) {m : M3} (hd : detM m % p ≠ 0) {v : V3} (hv : v ∈ pts p) : (rawM p m v).nz p := by
  refine Classical.byContradiction fun hn => ?_
  unfold V3.nz rawM at hn
  simp only [Int.emod_emod, ne_eq, not_or, Classical.not_not] at hn
  obtain ⟨a, b, c⟩ := cramer hp hd (w := v) (zero_iff.1 hn.1) (zero_iff.1 hn.2.1) (zero_iff.1 hn.2.2)
  have := pts_nz hp hv
  unfold V3.nz at this
  rw [zero_iff.2 a, zero_iff.2 b, zero_iff.2 c] at this
  simp at this
theorem img_mem {p : Int} {m : M3} (hm : isM p m = true) {v : V3} (hv : v ∈ pts p) : imgM p m v ∈ pts p := by
  obtain ⟨hp, _, _, hd⟩ := isM_sm hm
  exact nv_mem hp (raw_nz hp hd hv)
theorem img_inj {p : Int} {m : M3} (hm : isM p m = true) {u v : V3} (hu : u ∈ pts p) (hv : v ∈ pts p) (h : imgM p m u = imgM p m v) : u = v := by
  obtain ⟨hp, _, _, hd⟩ := isM_sm hm
  rw [imgM_raw, imgM_raw] at h
  obtain ⟨k, hk, e0, e1, e2⟩ := nv_eq hp (raw_nz hp hd hu) (raw_nz hp hd hv) h
  have key : ∀ r : V3, p ∣ r.dot u % p - k * (r.dot v % p) → p ∣ r.dot ⟨u.a - k * v.a, u.b - k * v.b, u.c - k * v.c⟩ := by
    intro r hr
    exact dvd3 1 1 (-k) hr (emod_dvd (r.dot u) p) (emod_dvd (r.dot v) p) (by simp only [V3.dot]; grind)
  obtain ⟨a, b, c⟩ := cramer hp hd (key _ e0) (key _ e1) (key _ e2)
  rw [← pts_nv hp hu, ← pts_nv hp hv]
  exact nv_scale hp hk (eqm_iff.2 a) (eqm_iff.2 b) (eqm_iff.2 c)
end Go.Ab
