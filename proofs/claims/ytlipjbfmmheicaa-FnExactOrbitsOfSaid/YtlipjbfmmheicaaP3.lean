/- Plain facts: the normal form, step by step; products of triples. -/
import Derived.Test.YtlipjbfmmheicaaP2
namespace Go.Ab

def facTo (p : Int) (l : List Int) (k : Nat) : Int := facOf p (l.take k)
theorem facOf_rng {p : Int} (hp : IsP p) (l : List Int) : 0 ≤ facOf p l ∧ facOf p l < p := by
  have hb := hp.bd
  unfold facOf
  cases h : l.find? (fun x => x % p != 0) with
  | none => simp only; omega
  | some x =>
    have hx := List.find?_some h
    obtain ⟨h1, h2, _⟩ := inv_spec (n := x) hp (by simpa using hx)
    simp only
    omega
theorem facTo_next {p : Int} (hp : IsP p) {l : List Int} {k : Nat} (hk : k < l.length) :
    facTo p l (k + 1) = if ((facTo p l k == 0) && (l.getD k 0 % p != 0)) = true then inv p (l.getD k 0) else facTo p l k := by
  have e : l.take (k + 1) = l.take k ++ [l.getD k 0] := by
    rw [List.take_add_one]
    simp [hk]
  unfold facTo facOf
  rw [e, List.find?_append]
  cases h : (l.take k).find? (fun x => x % p != 0) with
  | none =>
    simp only [Option.none_or, List.find?_cons, List.find?_nil, beq_self_eq_true, Bool.true_and]
    cases hz : (l.getD k 0 % p != 0) with
    | true => simp
    | false => simp
  | some x =>
    have hx := List.find?_some h
    obtain ⟨h1, _⟩ := inv_spec (n := x) hp (by simpa using hx)
    have : (inv p x == 0) = false := by simp; omega
    simp [this]
theorem facTo_val {p : Int} {l : List Int} {k : Nat} (hk : k < l.length) : l.getD k 0 % p * facTo p l (k + 1) % p = l.getD k 0 % p * facOf p l % p := by
  by_cases h0 : l.getD k 0 % p = 0
  · rw [h0]; simp
  · have e : facTo p l (k + 1) = facOf p l := by
      have e1 : l.take (k + 1) = l.take k ++ [l.getD k 0] := by
        rw [List.take_add_one]
        simp [hk]
      have hs : ((l.take (k + 1)).find? (fun x => x % p != 0)).isSome = true := by
        rw [List.find?_isSome]
        exact ⟨l.getD k 0, by rw [e1]; simp, by simpa using h0⟩
      unfold facTo facOf
      have : l.find? (fun x => x % p != 0) = (l.take (k + 1)).find? (fun x => x % p != 0) := by
        conv => lhs; rw [← List.take_append_drop (k + 1) l]
        rw [List.find?_append]
        cases h : (l.take (k + 1)).find? (fun x => x % p != 0) with
        | none => rw [h] at hs; simp at hs
        | some x => simp
      rw [this]
    rw [e]

/-- Ahead of k normal, the rest as it was. -/
def nTo (p : Int) (l : List Int) (k : Nat) : List Int := (norml p l).take k ++ l.drop k
theorem nTo_length {p : Int} {l : List Int} {k : Nat} (h : k ≤ l.length) : (nTo p l k).length = l.length := by
  simp [nTo, norml_length]; omega
theorem nTo_getD {p : Int} {l : List Int} {k : Nat} (hk : k < l.length) : (nTo p l k).getD k 0 = l.getD k 0 := by
  have h1 : ((norml p l).take k).length = k := by rw [List.length_take, norml_length]; omega
  simp only [nTo, List.getD_eq_getElem?_getD]
  rw [List.getElem?_append_right (by omega), h1]
  simp
theorem nTo_next {p : Int} {l : List Int} {k : Nat} (hk : k < l.length) : splice (ints (nTo p l k)) (0 + k * 1) [.int .i64 (l.getD k 0 % p * facTo p l (k + 1) % p)] = ints (nTo p l (k + 1)) := by
  rw [facTo_val hk, splice_one (by rw [ints_length, nTo_length (by omega)]; exact hk)]
  unfold ints
  rw [← List.map_set]
  congr 1
  have h1 : ((norml p l).take k).length = k := by rw [List.length_take, norml_length]; omega
  have e : (norml p l).take (k + 1) = (norml p l).take k ++ [l.getD k 0 % p * facOf p l % p] := by
    rw [List.take_add_one]
    simp [norml, hk]
  unfold nTo
  rw [e, drop_getD hk, List.set_append_right _ _ (by omega), h1, Nat.sub_self, List.append_assoc]
  rfl
theorem nTo_zero (p : Int) (l : List Int) : nTo p l 0 = l := by simp [nTo]
theorem nTo_full {p : Int} {l : List Int} {n : Nat} (h : l.length = n) : nTo p l n = norml p l := by
  unfold nTo
  rw [List.take_of_length_le (by rw [norml_length]; omega), List.drop_eq_nil_of_le (by omega), List.append_nil]
theorem norml_take {p : Int} {l : List Int} {k : Nat} (hk : k < l.length) : ints ((norml p l).take k) ++ [.int .i64 (l.getD k 0 % p * facTo p l (k + 1) % p)] = ints ((norml p l).take (k + 1)) := by
  rw [facTo_val hk, List.take_add_one]
  simp [ints, norml, hk]

/-- The normal form of a triple. -/
def nv (p : Int) (v : V3) : V3 := ⟨v.a % p * facOf p v.l % p, v.b % p * facOf p v.l % p, v.c % p * facOf p v.l % p⟩
theorem nv_l (p : Int) (v : V3) : (nv p v).l = norml p v.l := rfl
def V3.x (u v : V3) : V3 := ⟨u.b * v.c - u.c * v.b, u.c * v.a - u.a * v.c, u.a * v.b - u.b * v.a⟩
/-- The line through two points, the point on two lines. -/
def crs (p : Int) (u v : V3) : V3 := nv p (u.x v)
def has (p : Int) (v : V3) : Bool := facOf p v.l != 0
def det (u v w : V3) : Int := u.a * (v.b * w.c - v.c * w.b) + u.b * (v.c * w.a - v.a * w.c) + u.c * (v.a * w.b - v.b * w.a)
theorem Sm.mul3 {x y : Int} (hx : Sm x) (hy : -2000000 ≤ y ∧ y ≤ 2000000) : -2000000000 ≤ x * y ∧ x * y ≤ 2000000000 := by
  unfold Sm at hx
  have h1 : (x + 1000) * (y + 2000000) ≥ 0 := Int.mul_nonneg (by omega) (by omega)
  have h2 : (1000 - x) * (2000000 - y) ≥ 0 := Int.mul_nonneg (by omega) (by omega)
  have h3 : (x + 1000) * (2000000 - y) ≥ 0 := Int.mul_nonneg (by omega) (by omega)
  have h4 : (1000 - x) * (y + 2000000) ≥ 0 := Int.mul_nonneg (by omega) (by omega)
  have e1 : (x + 1000) * (y + 2000000) = x * y + 2000000 * x + 1000 * y + 2000000000 := by rw [Int.add_mul, Int.mul_add, Int.mul_add]; omega
  have e2 : (1000 - x) * (2000000 - y) = 2000000000 - 1000 * y - 2000000 * x + x * y := by rw [Int.sub_mul, Int.mul_sub, Int.mul_sub]; omega
  have e3 : (x + 1000) * (2000000 - y) = 2000000 * x - x * y + 2000000000 - 1000 * y := by rw [Int.add_mul, Int.mul_sub, Int.mul_sub]; omega
  have e4 : (1000 - x) * (y + 2000000) = 1000 * y + 2000000000 - x * y - 2000000 * x := by rw [Int.sub_mul, Int.mul_add, Int.mul_add]; omega
  omega
end Go.Ab
