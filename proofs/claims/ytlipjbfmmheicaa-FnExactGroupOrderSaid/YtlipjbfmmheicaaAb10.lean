/- Names of places are free: a slot may be told otherwise; a block may pass from one place to another; a family may stand in another order. -/
import Derived.Test.YtlipjbfmmheicaaAb9
namespace Go.Ab
section
variable {P : Program} {n : Nat} {C : Cx P n} {Q : Post} {s : St}

/-- A slot is told by less, or otherwise. -/
theorem R.weak {F : Nat → Prop} {a : Act} {w : World} (hr : R C F s a w) {t : Nat} {x y : AV} (ht : get s.fr t = some y) (h : ∀ v, rel F w y v → rel F w x v) : R C F (s.put t x) a w :=
  ⟨hr.size, hr.defers, fun u z hu => by
    have hu : get ((t, x) :: s.fr) u = some z := hu
    by_cases htu : t = u
    · subst htu
      rw [get_cons_self] at hu
      cases hu
      exact h _ (hr.fr _ _ ht)
    · rw [get_cons_ne _ _ htu] at hu
      exact hr.fr u z hu, hr.sat, hr.os, hr.tape, hr.output, hr.hsize, hr.block, hr.F0, hr.F1, hr.elder⟩
theorem WP.weak (t : Nat) {c : Code} {x y : AV} (ht : get s.fr t = some y) (h : ∀ F w v, rel F w y v → rel F w x v) (k : WP C c Q (s.put t x)) : WP C c Q s := fun F a w hr => k F a w (hr.weak ht (h F w))
theorem LP.weak (t : Nat) {c : Code} {x y : AV} (ht : get s.fr t = some y) (h : ∀ F w v, rel F w y v → rel F w x v) (k : LP C c Q (s.put t x)) : LP C c Q s := fun F a w hr => k F a w (hr.weak ht (h F w))
theorem Run.weak (t : Nat) {ops : Array Oper} {l : List Nat} {x y : AV} (ht : get s.fr t = some y) (h : ∀ F w v, rel F w y v → rel F w x v) (k : Run C ops l Q (s.put t x)) : Run C ops l Q s := fun F a w hr => k F a w (hr.weak ht (h F w))

theorem own_open {id id' b m off len cap cap' : Nat} {o : Bool} (hc : cap' ≤ cap) {F : Nat → Prop} {w : World} {v : Value} (h : rel F w (.own id b m off len cap o) v) : rel F w (.own id' b m off len cap' true) v := by
  simp only [rel] at h ⊢
  obtain ⟨c, rfl, h1, _, h2⟩ := h
  exact ⟨c, rfl, by omega, (fun h => by cases h), h2⟩
theorem own_name {id b m off len cap : Nat} {o : Bool} (id' : Nat) {F : Nat → Prop} {w : World} {v : Value} (h : rel F w (.own id b m off len cap o) v) : rel F w (.own id' b m off len cap o) v := by
  simpa only [rel] using h

theorem WP.hp {c : Code} {H' : List Ar} (h : s.hp = H') (k : WP C c Q ⟨s.fr, H'⟩) : WP C c Q s := by subst h; exact k
theorem LP.hp {c : Code} {H' : List Ar} (h : s.hp = H') (k : LP C c Q ⟨s.fr, H'⟩) : LP C c Q s := by subst h; exact k
theorem splice_length {cs xs : List AV} {off : Nat} (h : off + xs.length ≤ cs.length) : (splice cs off xs).length = cs.length := by
  simp [splice]; omega

/-- Blocks stand elsewhere. -/
structure Moved (H H' : List Ar) : Prop where
  back : ∀ {i j b : Nat} {cs : List AV}, At H' i j b cs → ∃ i' j', At H i' j' b cs
  inj : ∀ {i j p q b : Nat} {cs cs' : List AV}, At H' i p b cs → At H' j q b cs' → (∀ {i j p q : Nat} {cs cs' : List AV}, At H i p b cs → At H j q b cs' → i = j ∧ p = q) → i = j ∧ p = q
theorem R.moved {F : Nat → Prop} {a : Act} {w : World} {H' : List Ar} (hr : R C F s a w) (h : Moved s.hp H') : R C F ⟨s.fr, H'⟩ a w :=
  ⟨hr.size, hr.defers, hr.fr, ⟨hr.sat.old, fun hx => let ⟨_, _, hy⟩ := h.back hx; hr.sat.live hy, fun hx hy => h.inj hx hy fun h1 h2 => hr.sat.inj h1 h2⟩, hr.os, hr.tape, hr.output, hr.hsize, hr.block, hr.F0, hr.F1, hr.elder⟩
theorem WP.moved {c : Code} {H' : List Ar} (h : Moved s.hp H') (k : WP C c Q ⟨s.fr, H'⟩) : WP C c Q s := fun F a w hr => k F a w (hr.moved h)
theorem LP.moved {c : Code} {H' : List Ar} (h : Moved s.hp H') (k : LP C c Q ⟨s.fr, H'⟩) : LP C c Q s := fun F a w hr => k F a w (hr.moved h)
theorem Run.moved {ops : Array Oper} {l : List Nat} {H' : List Ar} (h : Moved s.hp H') (k : Run C ops l Q ⟨s.fr, H'⟩) : Run C ops l Q s := fun F a w hr => k F a w (hr.moved h)

/-- One block passes to the end of a family. -/
theorem Moved.absorb {H : List Ar} {i f b : Nat} {cs : List AV} {l : Ar} (hi : H[i]? = some [(b, cs)]) (hf : H[f]? = some l) (hne : i ≠ f) : Moved H ((H.set i []).set f (l ++ [(b, cs)])) := by
  have key : ∀ {p q c : Nat} {ds : List AV}, At ((H.set i []).set f (l ++ [(b, cs)])) p q c ds → (p = f ∧ q = l.length ∧ c = b ∧ ds = cs) ∨ (p = f ∧ q < l.length ∧ At H f q c ds) ∨ (p ≠ f ∧ p ≠ i ∧ At H p q c ds) := by
    intro p q c ds h
    rcases h.set with ⟨rfl, h'⟩ | ⟨hpf, h'⟩
    · by_cases hq : q < l.length
      · rw [List.getElem?_append_left hq] at h'
        exact .inr (.inl ⟨rfl, hq, l, hf, h'⟩)
      · rw [List.getElem?_append_right (Nat.le_of_not_lt hq)] at h'
        by_cases hq' : q - l.length = 0
        · rw [hq'] at h'
          simp at h'
          exact .inl ⟨rfl, by omega, h'.1.symm, h'.2.symm⟩
        · obtain ⟨r, hr⟩ := Nat.exists_eq_succ_of_ne_zero hq'
          rw [hr] at h'
          simp at h'
    · rcases h'.set with ⟨rfl, h''⟩ | ⟨hpi, h''⟩
      · simp at h''
      · exact .inr (.inr ⟨hpf, hpi, h''⟩)
  refine ⟨fun {p q c ds} h => ?_, fun {p q u v c ds ds'} hx hy hin => ?_⟩
  · rcases key h with ⟨_, _, rfl, rfl⟩ | ⟨_, _, h'⟩ | ⟨_, _, h'⟩
    · exact ⟨i, 0, At.one hi⟩
    · exact ⟨_, _, h'⟩
    · exact ⟨_, _, h'⟩
  · rcases key hx with ⟨h1, h2, h3, h4⟩ | ⟨h1, h2, h3⟩ | ⟨h1, h2, h3⟩ <;> rcases key hy with ⟨k1, k2, k3, k4⟩ | ⟨k1, k2, k3⟩ | ⟨k1, k2, k3⟩
    · exact ⟨h1.trans k1.symm, h2.trans k2.symm⟩
    · subst h3; exact absurd (hin (At.one hi) k3).1 hne
    · subst h3; exact absurd (hin (At.one hi) k3).1 (Ne.symm k2)
    · subst k3; exact absurd (hin (At.one hi) h3).1 hne
    · exact ⟨h1.trans k1.symm, (hin h3 k3).2⟩
    · exact absurd (hin h3 k3).1 (Ne.symm k1)
    · subst k3; exact absurd (hin (At.one hi) h3).1 (Ne.symm h2)
    · exact absurd (hin h3 k3).1 h1
    · exact hin h3 k3

/-- A family in another order. -/
theorem Moved.renum {H : List Ar} {f : Nat} {l l' : Ar} (hf : H[f]? = some l) (σ : Nat → Nat) (hinj : ∀ p q, σ p = σ q → p = q) (h : ∀ q : Nat, l'[q]? = l[σ q]?) : Moved H (H.set f l') := by
  have key : ∀ {p q c : Nat} {ds : List AV}, At (H.set f l') p q c ds → (p = f ∧ At H f (σ q) c ds) ∨ (p ≠ f ∧ At H p q c ds) := by
    intro p q c ds hx
    rcases hx.set with ⟨rfl, h'⟩ | ⟨hpf, h'⟩
    · exact .inl ⟨rfl, l, hf, (h q) ▸ h'⟩
    · exact .inr ⟨hpf, h'⟩
  refine ⟨fun {p q c ds} hx => ?_, fun {p q u v c ds ds'} hx hy hin => ?_⟩
  · rcases key hx with ⟨_, h'⟩ | ⟨_, h'⟩
    · exact ⟨_, _, h'⟩
    · exact ⟨_, _, h'⟩
  · rcases key hx with ⟨h1, h2⟩ | ⟨h1, h2⟩ <;> rcases key hy with ⟨k1, k2⟩ | ⟨k1, k2⟩
    · exact ⟨h1.trans k1.symm, hinj _ _ (hin h2 k2).2⟩
    · exact absurd (hin h2 k2).1 (Ne.symm k1)
    · exact absurd (hin h2 k2).1 h1
    · exact hin h2 k2

/-- Two things of a list change places. -/
def swap {α : Type} (l : List α) (i j : Nat) : List α := match l[i]?, l[j]? with
  | some x, some y => (l.set i y).set j x
  | _, _ => l
theorem swap_at {α : Type} {l : List α} {i j : Nat} (hi : i < l.length) (hj : j < l.length) (q : Nat) : (swap l i j)[q]? = l[if q = j then i else if q = i then j else q]? := by
  unfold swap
  rw [List.getElem?_eq_getElem hi, List.getElem?_eq_getElem hj]
  simp only [List.getElem?_set, List.length_set]
  by_cases h1 : j = q
  · subst h1; simp [hj, hi]
  · rw [if_neg h1, if_neg (Ne.symm h1)]
    by_cases h2 : i = q
    · subst h2; simp [hi, hj]
    · rw [if_neg h2, if_neg (Ne.symm h2)]
theorem Moved.swap {H : List Ar} {f i j : Nat} {l : Ar} (hf : H[f]? = some l) (hi : i < l.length) (hj : j < l.length) : Moved H (H.set f (swap l i j)) :=
  .renum hf (fun q => if q = j then i else if q = i then j else q) (fun p q h => by
    split at h <;> split at h <;> first | omega | (split at h <;> first | omega | (split at h <;> omega))) (swap_at hi hj)
section ops
variable {ops : Array Oper} {i : Nat} {l : List Nat} {d : Nat} {T U : TypeId} {pos : String} {aft : Array Edge} {g : Option (Nat × Bool)}
/-- x[lo:hi] of a slice of the call's own, lo up to its capacity. -/
theorem Run.slice_any {x : Operand} {lo hi : Option Operand} {id b m off len cap bl bh : Nat} {opn : Bool} (hi' : ops[i]? = some ⟨some d, .slice U x lo hi none, T, pos, aft, g⟩) (hw : want ops s.fr ⟨some d, .slice U x lo hi none, T, pos, aft, g⟩ = some true) (hdn : Nat.blt d n = true)
    (hx : Ev s.fr x (.own id b m off len cap opn)) (hT : slB P U m = true) (hlo : Bnd s.fr lo 0 bl) (hhi : Bnd s.fr hi len bh) (h1 : bl ≤ bh) (h2 : bh ≤ cap)
    (k : ∀ y, (bl < cap ∧ y = .own id b m (off + bl * m) (bh - bl) (cap - bl) opn) ∨ (bl = cap ∧ y = .empty false) → Run C ops l Q (s.put d y)) : Run C ops (i :: l) Q s := by
  rcases Nat.lt_or_ge bl cap with h | h
  · exact Run.slice hi' hw hdn hx hT hlo hhi h1 h2 (.inl h) (k _ (.inl ⟨h, rfl⟩))
  · refine Run.pure hi' rfl hdn hw (fun F a w hr => ?_) (k _ (.inr ⟨by omega, rfl⟩))
    have h4 := Ev.rel hr hx
    simp only [rel] at h4
    obtain ⟨c, he, hc, hop, arr, e, fz, hh, hsz⟩ := h4
    have hsl := run_sliceAt_gen hr (ad := some ⟨b, off, none⟩) (cap := c) hT hlo hhi h1 (by omega)
    refine ⟨_, by simp only [execOp, Sem.run_bind, he, Option.map_none, hsl, Result.andThen_ok, Sem.run_pure]; rfl, ?_⟩
    have h0 : bh - bl = 0 := by omega
    simp only [rel, h0]
    exact ⟨_, _, rfl, fun h => by cases h⟩
end ops
end
end Go.Ab
