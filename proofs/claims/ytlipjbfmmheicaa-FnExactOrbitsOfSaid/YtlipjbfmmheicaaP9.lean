/- Plain facts: remainders as multiples; a normal form does not look at a factor. -/
import Derived.Test.YtlipjbfmmheicaaP8
namespace Go.Ab

/-! ### linear combinations -/
theorem dvd1 {p A X : Int} (u : Int) (hA : p ∣ A) (h : X = u * A) : p ∣ X := h ▸ Int.dvd_mul_of_dvd_right hA
theorem dvd2 {p A B X : Int} (u v : Int) (hA : p ∣ A) (hB : p ∣ B) (h : X = u * A + v * B) : p ∣ X :=
  h ▸ Int.dvd_add (Int.dvd_mul_of_dvd_right hA) (Int.dvd_mul_of_dvd_right hB)
theorem dvd3 {p A B D X : Int} (u v w : Int) (hA : p ∣ A) (hB : p ∣ B) (hD : p ∣ D) (h : X = u * A + v * B + w * D) : p ∣ X :=
  h ▸ Int.dvd_add (dvd2 u v hA hB rfl) (Int.dvd_mul_of_dvd_right hD)
theorem dvd4 {p A B D E X : Int} (u v w x : Int) (hA : p ∣ A) (hB : p ∣ B) (hD : p ∣ D) (hE : p ∣ E) (h : X = u * A + v * B + w * D + x * E) : p ∣ X :=
  h ▸ Int.dvd_add (dvd3 u v w hA hB hD rfl) (Int.dvd_mul_of_dvd_right hE)
theorem eqm_iff {p a b : Int} : a % p = b % p ↔ p ∣ a - b := Int.emod_eq_emod_iff_emod_sub_eq_zero.trans ⟨Int.dvd_of_emod_eq_zero, Int.emod_eq_zero_of_dvd⟩
theorem emod_dvd (a p : Int) : p ∣ a - a % p := by
  have := Int.emod_add_mul_ediv a p
  exact ⟨a / p, by omega⟩
theorem emod_dvd' (a p : Int) : p ∣ a % p - a := by
  have := Int.emod_add_mul_ediv a p
  exact ⟨- (a / p), by rw [Int.mul_neg]; omega⟩
theorem zero_iff {p a : Int} : a % p = 0 ↔ p ∣ a := ⟨Int.dvd_of_emod_eq_zero, Int.emod_eq_zero_of_dvd⟩

theorem inv_dvd {p x : Int} (hp : IsP p) (hx : x % p ≠ 0) : p ∣ x * inv p x - 1 := by
  have hb := hp.bd
  rw [← eqm_iff, (inv_spec hp hx).2.2, Int.emod_eq_of_lt (by omega) (by omega)]
theorem no_zero {p x y : Int} (hp : IsP p) (hx : x % p ≠ 0) (h : x * y % p = 0) : y % p = 0 := by
  rw [zero_iff] at h ⊢
  exact dvd2 (-y) (inv p x) (inv_dvd hp hx) h (by grind)
theorem mul_ne {p x y : Int} (hp : IsP p) (hx : x % p ≠ 0) (hy : y % p ≠ 0) : x * y % p ≠ 0 := fun h => hy (no_zero hp hx h)
theorem mul_zero_iff {p x y : Int} (hp : IsP p) : x * y % p = 0 ↔ x % p = 0 ∨ y % p = 0 := by
  constructor
  · intro h
    by_cases hx : x % p = 0
    · exact .inl hx
    · exact .inr (no_zero hp hx h)
  · rintro (h | h) <;> rw [zero_iff] at h ⊢
    · exact dvd1 y h (by grind)
    · exact dvd1 x h (by grind)

theorem norml_scale {p k : Int} (hp : IsP p) (hk : k % p ≠ 0) {f : Int → Int} {l : List Int} (hf : ∀ x ∈ l, f x % p = k * x % p) : norml p (l.map f) = norml p l := by
  have hz : ∀ x ∈ l, (f x % p != 0) = (x % p != 0) := by
    intro x hx
    rw [hf x hx, Bool.eq_iff_iff, bne_iff_ne, bne_iff_ne, ne_eq, ne_eq, mul_zero_iff hp]
    simp [hk]
  have hfind : (l.map f).find? (fun x => x % p != 0) = (l.find? (fun x => x % p != 0)).map f := by
    rw [List.find?_map]
    congr 1
    clear hf
    induction l with
    | nil => rfl
    | cons x l ih =>
      simp only [List.find?_cons, Function.comp, hz x (by simp)]
      rw [show List.find? ((fun x => x % p != 0) ∘ f) l = List.find? (fun x => x % p != 0) l from ih fun x hx => hz x (by simp [hx])]
  unfold norml
  rw [List.map_map]
  apply List.map_congr_left
  intro y hy
  simp only [Function.comp]
  unfold facOf
  rw [hfind]
  cases h : l.find? (fun x => x % p != 0) with
  | none => simp
  | some x =>
    simp only [Option.map_some]
    have hxm := List.mem_of_find?_eq_some h
    have hx : x % p ≠ 0 := by simpa using List.find?_some h
    have hfx : f x % p ≠ 0 := by have := hz x hxm; rw [← bne_iff_ne, this]; simpa using hx
    have a1 := eqm_iff.1 (hf x hxm)
    have a2 := eqm_iff.1 (hf y hy)
    have a3 := inv_dvd hp hfx
    have a4 := inv_dvd hp hx
    rw [eqm_iff]
    have b1 := emod_dvd (f y) p
    have b2 := emod_dvd y p
    have key : p ∣ f y * inv p (f x) - y * inv p x := dvd4 (inv p (f x)) (-(k * y * inv p (f x))) (y * inv p x) (-(y * inv p x * inv p (f x))) a2 a4 a3 a1 (by grind)
    exact dvd3 1 (-(inv p (f x))) (inv p x) key b1 b2 (by grind)

theorem nv_scale {p k : Int} (hp : IsP p) (hk : k % p ≠ 0) {u v : V3} (ha : u.a % p = k * v.a % p) (hb : u.b % p = k * v.b % p) (hc : u.c % p = k * v.c % p) : nv p u = nv p v := by
  have e : norml p u.l = norml p v.l := by
    -- the triple is told by its places
    have hz : ∀ x y : Int, x % p = k * y % p → (x % p != 0) = (y % p != 0) := by
      intro x y hxy
      rw [hxy, Bool.eq_iff_iff, bne_iff_ne, bne_iff_ne, ne_eq, ne_eq, mul_zero_iff hp]
      simp [hk]
    have key : ∀ x y x' y' : Int, x % p = k * y % p → x' % p = k * y' % p → y' % p ≠ 0 → x % p * inv p x' % p = y % p * inv p y' % p := by
      intro x y x' y' h1 h2 h3
      have h4 : x' % p ≠ 0 := by have := hz x' y' h2; rw [← bne_iff_ne, this]; simpa using h3
      rw [eqm_iff]
      exact dvd3 1 (-(inv p x')) (inv p y') (dvd4 (inv p x') (-(k * y * inv p x')) (y * inv p y') (-(y * inv p y' * inv p x')) (eqm_iff.1 h1) (inv_dvd hp h3) (inv_dvd hp h4) (eqm_iff.1 h2) rfl) (emod_dvd x p) (emod_dvd y p) (by grind)
    have fac : facOf p u.l = 0 ∧ facOf p v.l = 0 ∨ ∃ x' y', facOf p u.l = inv p x' ∧ facOf p v.l = inv p y' ∧ x' % p = k * y' % p ∧ y' % p ≠ 0 := by
      unfold facOf V3.l
      simp only [List.find?_cons, List.find?_nil, hz _ _ ha, hz _ _ hb, hz _ _ hc]
      cases h1 : (v.a % p != 0) with
      | true => exact .inr ⟨_, _, rfl, rfl, ha, by simpa using h1⟩
      | false =>
        cases h2 : (v.b % p != 0) with
        | true => exact .inr ⟨_, _, rfl, rfl, hb, by simpa using h2⟩
        | false =>
          cases h3 : (v.c % p != 0) with
          | true => exact .inr ⟨_, _, rfl, rfl, hc, by simpa using h3⟩
          | false => exact .inl ⟨rfl, rfl⟩
    unfold norml
    rcases fac with ⟨h1, h2⟩ | ⟨x', y', h1, h2, h3, h4⟩
    · rw [h1, h2]; simp [V3.l]
    · rw [h1, h2]; simp only [V3.l, List.map_cons, List.map_nil, key _ _ _ _ ha h3 h4, key _ _ _ _ hb h3 h4, key _ _ _ _ hc h3 h4]
  rw [← nv_l, ← nv_l] at e
  unfold V3.l at e
  rw [V3.ext_iff']
  simp only [List.cons.injEq, and_true] at e
  exact e

theorem x_swap (p : Int) (hp : IsP p) (u v : V3) : crs p u v = crs p v u := by
  have hb := hp.bd
  refine nv_scale hp (k := -1) (by rw [show (-1 : Int) = (p - 1) + p * (-1) by omega, Int.add_mul_emod_self_left, Int.emod_eq_of_lt (by omega) (by omega)]; omega) ?_ ?_ ?_ <;> (congr 1; simp only [V3.x]; grind)
theorem nv_rng {p : Int} (hp : IsP p) (v : V3) : (0 ≤ (nv p v).a ∧ (nv p v).a < p) ∧ (0 ≤ (nv p v).b ∧ (nv p v).b < p) ∧ (0 ≤ (nv p v).c ∧ (nv p v).c < p) := by
  have hb := hp.bd
  have h : ∀ x : Int, 0 ≤ x % p ∧ x % p < p := fun x => ⟨Int.emod_nonneg _ (by omega), Int.emod_lt_of_pos _ (by omega)⟩
  exact ⟨h _, h _, h _⟩
theorem nv_sm {p : Int} (hp : IsP p) (v : V3) : (nv p v).sm := by
  have hb := hp.bd
  have := nv_rng hp v
  unfold V3.sm Sm
  omega
theorem crs_sm {p : Int} (hp : IsP p) (u v : V3) : (crs p u v).sm := nv_sm hp _
end Go.Ab
