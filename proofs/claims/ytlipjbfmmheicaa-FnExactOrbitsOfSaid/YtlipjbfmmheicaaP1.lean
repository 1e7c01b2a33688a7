/- Plain facts: the primes, remainders, inverses, triples of numbers. -/
import Derived.Test.YtlipjbfmmheicaaE3
namespace Go.Ab

def IsP (p : Int) : Prop := p = 3 ∨ p = 5 ∨ p = 7 ∨ p = 11 ∨ p = 13
def isP (p : Int) : Bool := (((p == 3 || p == 5) || p == 7) || p == 11) || p == 13
theorem isP_iff {p : Int} : isP p = true ↔ IsP p := by
  unfold isP IsP
  simp only [Bool.or_eq_true, beq_iff_eq]
  omega
theorem IsP.bd {p : Int} (h : IsP p) : 3 ≤ p ∧ p ≤ 13 := by unfold IsP at h; omega

theorem mod_twice (a p : Int) (hp : 0 < p) : (a.tmod p + p) % p = a % p := by
  have h1 : -p < a.tmod p ∧ a.tmod p < p := ⟨by have := Int.lt_tmod_of_pos a hp; omega, Int.tmod_lt_of_pos a hp⟩
  rw [Int.add_emod_right]
  rw [Int.tmod_def]
  rw [Int.sub_emod, Int.mul_emod_right, Int.sub_zero, Int.emod_emod_of_dvd _ (Int.dvd_refl p)]

/-- The least k from k0 on for which n k is 1 modulo p. -/
def invGo (p n : Int) : Nat → Int → Int
  | 0, _ => 0
  | f + 1, k => if n * k % p = 1 then k else invGo p n f (k + 1)
def inv (p n : Int) : Int := invGo p n 13 1

theorem invGo_mod (p n : Int) : ∀ (f : Nat) (k : Int), invGo p n f k = invGo p (n % p) f k
  | 0, _ => rfl
  | f + 1, k => by
    simp only [invGo]
    rw [invGo_mod p n f (k + 1)]
    have : n % p * k % p = n * k % p := by rw [Int.mul_emod, Int.emod_emod_of_dvd _ (Int.dvd_refl p), ← Int.mul_emod]
    rw [this]

theorem inv_table : ∀ p ∈ [(3 : Int), 5, 7, 11, 13], ∀ r ∈ List.range 13, 0 < (r : Int) → (r : Int) < p → 1 ≤ inv p r ∧ inv p r < p ∧ (r : Int) * inv p r % p = 1 := by decide +kernel

theorem inv_spec {p n : Int} (hp : IsP p) (hn : n % p ≠ 0) : 1 ≤ inv p n ∧ inv p n < p ∧ n * inv p n % p = 1 := by
  have hb := hp.bd
  have h1 := Int.emod_nonneg n (show p ≠ 0 by omega)
  have h2 := Int.emod_lt_of_pos n (show 0 < p by omega)
  have e : inv p n = inv p (n % p) := invGo_mod p n 13 1
  obtain ⟨r, hr⟩ : ∃ r : Nat, n % p = (r : Int) := ⟨(n % p).toNat, by omega⟩
  have hm : p ∈ [(3 : Int), 5, 7, 11, 13] := by unfold IsP at hp; simp; omega
  have := inv_table p hm r (by simp; omega) (by omega) (by omega)
  rw [e, hr]
  refine ⟨this.1, this.2.1, ?_⟩
  have h3 := this.2.2
  rw [← hr] at h3
  rw [← hr]
  rw [Int.mul_emod, Int.emod_emod_of_dvd _ (Int.dvd_refl p), ← Int.mul_emod] at h3
  exact h3

theorem invGo_least (p n : Int) : ∀ (f : Nat) (k j : Int), 0 ≤ k → k ≤ j → j < invGo p n f k → n * j % p ≠ 1
  | 0, k, j, h0, h1, h2 => by simp only [invGo] at h2; omega
  | f + 1, k, j, h0, h1, h2 => by
    simp only [invGo] at h2
    split at h2
    · omega
    · rename_i hk
      by_cases hj : j = k
      · subst hj; exact hk
      · exact invGo_least p n f (k + 1) j (by omega) (by omega) h2
theorem inv_least {p n j : Int} (h1 : 1 ≤ j) (h2 : j < inv p n) : n * j % p ≠ 1 := invGo_least p n 13 1 j (by omega) h1 h2

/-- Three numbers. -/
structure V3 where
  a : Int
  b : Int
  c : Int
theorem V3.ext_iff' {u v : V3} : u = v ↔ (u.a = v.a ∧ u.b = v.b ∧ u.c = v.c) := by
  cases u; cases v; simp
instance : DecidableEq V3 := fun _ _ => decidable_of_iff _ V3.ext_iff'.symm
def V3.cs (v : V3) : List AV := [.int .i64 v.a, .int .i64 v.b, .int .i64 v.c]
def V3.av (v : V3) : AV := .agg v.cs
def Sm (x : Int) : Prop := -1000 ≤ x ∧ x ≤ 1000
def V3.sm (v : V3) : Prop := Sm v.a ∧ Sm v.b ∧ Sm v.c
theorem Sm.mul {x y : Int} (hx : Sm x) (hy : Sm y) : -1000000 ≤ x * y ∧ x * y ≤ 1000000 := by
  unfold Sm at hx hy
  have h1 : (x + 1000) * (y + 1000) ≥ 0 := Int.mul_nonneg (by omega) (by omega)
  have h2 : (1000 - x) * (1000 - y) ≥ 0 := Int.mul_nonneg (by omega) (by omega)
  have h3 : (x + 1000) * (1000 - y) ≥ 0 := Int.mul_nonneg (by omega) (by omega)
  have h4 : (1000 - x) * (y + 1000) ≥ 0 := Int.mul_nonneg (by omega) (by omega)
  have e1 : (x + 1000) * (y + 1000) = x * y + 1000 * x + 1000 * y + 1000000 := by rw [Int.add_mul, Int.mul_add, Int.mul_add]; omega
  have e2 : (1000 - x) * (1000 - y) = 1000000 - 1000 * x - 1000 * y + x * y := by rw [Int.sub_mul, Int.mul_sub, Int.mul_sub]; omega
  have e3 : (x + 1000) * (1000 - y) = 1000 * x - x * y + 1000000 - 1000 * y := by rw [Int.add_mul, Int.mul_sub, Int.mul_sub]; omega
  have e4 : (1000 - x) * (y + 1000) = 1000 * y + 1000000 - x * y - 1000 * x := by rw [Int.sub_mul, Int.mul_add, Int.mul_add]; omega
  omega
def V3.dot (u v : V3) : Int := u.a * v.a + u.b * v.b + u.c * v.c

/-- All points of the plane, in order. -/
def rangeI (p : Int) : List Int := (List.range p.toNat).map fun (k : Nat) => (k : Int)
def pts1 (_p : Int) (k : Nat) : List V3 := (List.range k).map fun (z : Nat) => ⟨0, 1, z⟩
def pts2 (y : Int) (k : Nat) : List V3 := (List.range k).map fun (z : Nat) => ⟨1, y, z⟩
def ptsY (p : Int) (k : Nat) : List V3 := (List.range k).flatMap fun (y : Nat) => pts2 y p.toNat
def pts (p : Int) : List V3 := ⟨0, 0, 1⟩ :: (pts1 p p.toNat ++ ptsY p p.toNat)

def cs3 (l : List V3) : List AV := l.flatMap V3.cs
theorem cs3_append (l r : List V3) : cs3 (l ++ r) = cs3 l ++ cs3 r := by simp [cs3]
theorem cs3_length (l : List V3) : (cs3 l).length = l.length * 3 := by
  induction l with
  | nil => rfl
  | cons v l ih => simp only [cs3, List.flatMap_cons, List.length_append, List.length_cons] at ih ⊢; rw [ih]; simp [V3.cs]; omega
theorem cs3_take (l : List V3) : (cs3 l).take (l.length * 3) = cs3 l := List.take_of_length_le (by rw [cs3_length]; exact Nat.le_refl _)
theorem cs3_at : ∀ (l : List V3) (k : Nat) (h : k < l.length), ((cs3 l).drop (k * 3)).take 3 = (l[k]).cs
  | v :: l, 0, _ => by simp [cs3, V3.cs]
  | v :: l, k + 1, h => by
    have : (k + 1) * 3 = 3 + k * 3 := by omega
    rw [this, ← List.drop_drop]
    have e : (cs3 (v :: l)).drop 3 = cs3 l := by simp [cs3, V3.cs]
    rw [e]
    simpa using cs3_at l k (by simpa using h)
theorem pts1_succ (p : Int) (k : Nat) : pts1 p (k + 1) = pts1 p k ++ [⟨0, 1, k⟩] := by simp [pts1, List.range_succ]
theorem pts2_succ (y : Int) (k : Nat) : pts2 y (k + 1) = pts2 y k ++ [⟨1, y, k⟩] := by simp [pts2, List.range_succ]
theorem ptsY_succ (p : Int) (k : Nat) : ptsY p (k + 1) = ptsY p k ++ pts2 k p.toNat := by simp [ptsY, List.range_succ]
theorem pts1_length (p : Int) (k : Nat) : (pts1 p k).length = k := by simp [pts1]
theorem pts2_length (y : Int) (k : Nat) : (pts2 y k).length = k := by simp [pts2]
theorem ptsY_length (p : Int) : ∀ (k : Nat), (ptsY p k).length = k * p.toNat
  | 0 => by simp [ptsY]
  | k + 1 => by rw [ptsY_succ, List.length_append, ptsY_length p k, pts2_length, Nat.add_mul, Nat.one_mul]
end Go.Ab
