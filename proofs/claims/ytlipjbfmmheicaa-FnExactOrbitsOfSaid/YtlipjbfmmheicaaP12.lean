/- Plain facts: products of maps. -/
import Derived.Test.YtlipjbfmmheicaaP11
namespace Go.Ab

def M3.tr (n : M3) : M3 := ⟨⟨n.r0.a, n.r1.a, n.r2.a⟩, ⟨n.r0.b, n.r1.b, n.r2.b⟩, ⟨n.r0.c, n.r1.c, n.r2.c⟩⟩
def rowM (p : Int) (u : V3) (n : M3) : V3 := ⟨u.dot n.r0 % p, u.dot n.r1 % p, u.dot n.r2 % p⟩
/-- The product of two maps, not made normal; the second one by its columns. -/
def mulT (p : Int) (m n : M3) : M3 := ⟨rowM p m.r0 n, rowM p m.r1 n, rowM p m.r2 n⟩
def timesM (p : Int) (m n : M3) : M3 := nM p (mulT p m n.tr)
def imgM (p : Int) (m : M3) (v : V3) : V3 := nv p ⟨m.r0.dot v % p, m.r1.dot v % p, m.r2.dot v % p⟩
theorem M3.sm_tr {n : M3} (h : n.sm) : n.tr.sm := by
  obtain ⟨⟨h1, h2, h3⟩, ⟨h4, h5, h6⟩, h7, h8, h9⟩ := h
  exact ⟨⟨h1, h4, h7⟩, ⟨h2, h5, h8⟩, h3, h6, h9⟩
/-- A row of remainders. -/
def V3.ir (p : Int) (v : V3) : Prop := (0 ≤ v.a ∧ v.a < p) ∧ (0 ≤ v.b ∧ v.b < p) ∧ (0 ≤ v.c ∧ v.c < p)
def M3.ir (p : Int) (m : M3) : Prop := m.r0.ir p ∧ m.r1.ir p ∧ m.r2.ir p
theorem M3.ir_of {p : Int} {m : M3} (h : allIn p m.l = true) : m.ir p := by
  have : ∀ x ∈ m.l, 0 ≤ x ∧ x < p := fun x hx => allIn_mem h hx
  refine ⟨⟨this _ ?_, this _ ?_, this _ ?_⟩, ⟨this _ ?_, this _ ?_, this _ ?_⟩, this _ ?_, this _ ?_, this _ ?_⟩ <;> simp [M3.l, V3.l]
theorem V3.ir_of {p : Int} {v : V3} (h : allIn p v.l = true) : v.ir p := by
  have : ∀ x ∈ v.l, 0 ≤ x ∧ x < p := fun x hx => allIn_mem h hx
  refine ⟨this _ ?_, this _ ?_, this _ ?_⟩ <;> simp [V3.l]
theorem M3.ir_tr {p : Int} {n : M3} (h : n.ir p) : n.tr.ir p := by
  obtain ⟨⟨h1, h2, h3⟩, ⟨h4, h5, h6⟩, h7, h8, h9⟩ := h
  exact ⟨⟨h1, h4, h7⟩, ⟨h2, h5, h8⟩, h3, h6, h9⟩
theorem V3.ir_sm {p : Int} (hp : IsP p) {v : V3} (h : v.ir p) : v.sm := by
  have := hp.bd
  unfold V3.ir at h
  unfold V3.sm Sm
  omega
theorem M3.ir_sm {p : Int} (hp : IsP p) {m : M3} (h : m.ir p) : m.sm := ⟨V3.ir_sm hp h.1, V3.ir_sm hp h.2.1, V3.ir_sm hp h.2.2⟩
theorem mul_rng {p x y : Int} (hp : IsP p) (hx : 0 ≤ x ∧ x < p) (hy : 0 ≤ y ∧ y < p) : 0 ≤ x * y ∧ x * y ≤ 1000000 := by
  have hb := hp.bd
  exact ⟨Int.mul_nonneg hx.1 hy.1, (Sm.mul (show Sm x by unfold Sm; omega) (show Sm y by unfold Sm; omega)).2⟩
theorem prodB {p : Int} (hp : IsP p) {u v : V3} (hu : u.ir p) (hv : v.ir p) : (0 ≤ u.a * v.a ∧ u.a * v.a ≤ 1000000) ∧ (0 ≤ u.b * v.b ∧ u.b * v.b ≤ 1000000) ∧ (0 ≤ u.c * v.c ∧ u.c * v.c ≤ 1000000) :=
  ⟨mul_rng hp hu.1 hv.1, mul_rng hp hu.2.1 hv.2.1, mul_rng hp hu.2.2 hv.2.2⟩
end Go.Ab
