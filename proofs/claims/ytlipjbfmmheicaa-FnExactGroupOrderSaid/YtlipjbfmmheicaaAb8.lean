/- Operations under a guard; regions that draw their order: what is calm may come in any order, the rest comes behind it. -/
import Derived.Test.YtlipjbfmmheicaaAb7
import Derived.Orders
import Derived.Deep.RegionHeld3
namespace Go.Ab
open Go.RowKit (Below)
section
variable {P : Program} {n : Nat} {C : Cx P n} {Q : Post} {s : St}

theorem get_cons_self (d : Nat) (x : AV) (fr : List (Nat × AV)) : get ((d, x) :: fr) d = some x := by
  have : Nat.beq d d = true := Nat.beq_refl _
  simp only [get, this, cond_true]
theorem get_cons_ne {d t : Nat} (x : AV) (fr : List (Nat × AV)) (h : d ≠ t) : get ((d, x) :: fr) t = get fr t := by
  have : Nat.beq d t = false := by
    cases hb : Nat.beq d t with
    | false => rfl
    | true => exact absurd (Nat.eq_of_beq_eq_true hb) h
  simp only [get, this, cond_false]

/-- The ending of one calm operation: its slot holds x; nothing else has turned. -/
def Single (d : Nat) (x : AV) (fr : List (Nat × AV)) (H : List Ar) : Post := fun e s => e = .normal ∧ s = ⟨(d, x) :: fr, H⟩

theorem single_nil {ops : Array Oper} {d : Nat} {x : AV} {fr : List (Nat × AV)} {H : List Ar} : Run C ops [] (Single d x fr H) ⟨(d, x) :: fr, H⟩ := Run.nil ⟨rfl, rfl⟩

theorem R.frame {F : Nat → Prop} {a : Act} {w : World} {fr fr' : List (Nat × AV)} {H : List Ar} (hr : R C F ⟨fr, H⟩ a w) (h : ∀ t x, get fr' t = some x → ∃ y, get fr t = some y ∧ ∀ w v, rel F w y v → rel F w x v) : R C F ⟨fr', H⟩ a w :=
  ⟨hr.size, hr.defers, fun t x hx => (let ⟨y, hy, hxy⟩ := h t x hx; hxy _ _ (hr.fr t y hy)), hr.sat, hr.os, hr.tape, hr.output, hr.hsize, hr.block, hr.F0, hr.F1, hr.elder⟩

/-- An operation under a guard that is not decided: if it comes about, it yields x. -/
theorem Run.guarded {ops : Array Oper} {i : Nat} {l : List Nat} {o : Oper} {j dj d : Nat} {wn t : Bool} {x : AV} (hi : ops[i]? = some o) (hg : o.guard = some (j, wn)) (hj : (ops[j]?).bind (·.dst) = some dj) (ht : get s.fr dj = some (.bool t))
    (hd : o.dst = some d) (hdn : Nat.blt d n = true)
    (h : (t == wn) = true → Run C ops [i] (Single d x ((dj, .bool wn) :: s.fr) s.hp) ⟨(dj, .bool wn) :: s.fr, s.hp⟩)
    (k : Run C ops l Q (s.put d (.opt (t == wn) x))) : Run C ops (i :: l) Q s := by
  intro F a w hr
  have hw : Region.wanted o (yielded ops a.tmps) = (t == wn) := by
    have : want ops s.fr o = some (t == wn) := by
      unfold want
      rw [hg]
      simp only [hj, ht]
    exact want_spec hr this
  cases hb : (t == wn) with
  | true =>
    have htw : t = wn := by simpa using hb
    subst htw
    have hr1 : R C F ⟨(dj, .bool t) :: s.fr, s.hp⟩ a w := hr.frame fun u y hu => by
      by_cases hdu : dj = u
      · subst hdu
        rw [get_cons_self] at hu
        cases hu
        exact ⟨_, ht, fun _ _ h => h⟩
      · rw [get_cons_ne _ _ hdu] at hu
        exact ⟨y, hu, fun _ _ h => h⟩
    have h1 := h hb F a w hr1
    rw [wpOps_cons] at h1 ⊢
    have key : ∀ a' w', wpOps P ops (lift C (Single d x ((dj, .bool t) :: s.fr) s.hp)) [] a' w' → wpOps P ops (lift C Q) l a' w' := by
      rintro a' w' ⟨F', s', hr', _, rfl⟩
      refine k F' a' w' (hr'.frame fun u y hu => ?_)
      have hu : get ((d, _) :: s.fr) u = some y := hu
      by_cases hdu : d = u
      · subst hdu
        rw [get_cons_self] at hu
        cases hu
        exact ⟨_, get_cons_self _ _ _, fun _ _ h => by simp only [rel]; exact fun _ => h⟩
      · rw [get_cons_ne _ _ hdu] at hu
        rw [get_cons_ne _ _ hdu]
        by_cases hju : dj = u
        · subst hju
          rw [get_cons_self]
          rw [ht] at hu
          cases hu
          exact ⟨_, rfl, fun _ _ h => h⟩
        · rw [get_cons_ne _ _ hju]
          exact ⟨y, hu, fun _ _ h => h⟩
    unfold wpOp at h1 ⊢
    simp only [hi, hw, hb, if_true] at h1 ⊢
    rcases h1 with h1 | ⟨_, a0, w0, F0, s0, _, hq, _⟩
    · refine .inl ?_
      have h2 := Oper.wp_mono key h1
      unfold Oper.wp at h2 ⊢
      generalize (execOp a.eval o).run P w = r at h2 ⊢
      cases r with
      | ok nx w' =>
        cases nx <;> simp only [Oper.upon] at h2 ⊢ <;> first
          | exact h2
          | exact Calls.mono h2 (fun e w'' he => by
              cases e with
              | returned v => exact he
              | panicked c => obtain ⟨_, _, _, hq, _⟩ := he; cases hq
              | outgrown => obtain ⟨_, _, _, _, _, hq, _⟩ := he; cases hq)
      | halt hh w' =>
        cases hh <;> simp only [Oper.upon] at h2 ⊢
        all_goals first
          | exact h2
          | (obtain ⟨_, _, _, hq, _⟩ := h2; cases hq)
    · cases hq
  | false =>
    rw [wpOps_cons]
    unfold wpOp
    simp only [hi, hw, hb, Bool.false_eq_true, if_false, hd]
    refine k F _ _ (hr.put hdn ?_)
    simp [rel, hb]

/-- What a guard has let by, under that guard. -/
theorem Run.unopt (t : Nat) {ops : Array Oper} {l : List Nat} {b : Bool} {x : AV} (ht : get s.fr t = some (.opt b x)) (hb : b = true) (k : Run C ops l Q (s.put t x)) : Run C ops l Q s := fun F a w hr =>
  k F a w (hr.frame fun u y hu => by
    have hu : get ((t, _) :: s.fr) u = some y := hu
    by_cases htu : t = u
    · subst htu
      rw [get_cons_self] at hu
      cases hu
      exact ⟨_, ht, fun _ _ h => by simp only [rel] at h; exact h hb⟩
    · rw [get_cons_ne _ _ htu] at hu
      exact ⟨y, hu, fun _ _ h => h⟩)

section ops
variable {ops : Array Oper} {i : Nat} {l : List Nat} {d : Nat} {T U : TypeId} {pos : String} {aft : Array Edge} {g : Option (Nat × Bool)}

/-- a && b -/
theorem Run.and {c x : Operand} {t b p : Bool} (hi : ops[i]? = some ⟨some d, .pick c x (.const (.bool false)), T, pos, aft, g⟩) (hw : want ops s.fr ⟨some d, .pick c x (.const (.bool false)), T, pos, aft, g⟩ = some true) (hdn : Nat.blt d n = true)
    (hc : Ev s.fr c (.bool t)) (hx : Ev s.fr x (.opt b (.bool p))) (hb : (t == true) = b) (k : Run C ops l Q (s.put d (.bool (t && p)))) : Run C ops (i :: l) Q s :=
  Run.pure hi rfl hdn hw (fun F a w hr => by
    have h1 := Ev.rel hr hc
    have h2 := Ev.rel hr hx
    simp only [rel] at h1 h2
    cases t with
    | true => exact ⟨.bool p, by simp [execOp, h1, asBool, h2 (by rw [← hb]; rfl)], by simp [rel]⟩
    | false => exact ⟨.bool false, (have hk : a.eval (.const (.bool false)) = .bool false := rfl; by simp [execOp, h1, asBool, hk]), by simp [rel]⟩) k

/-- a || b -/
theorem Run.or {c x : Operand} {t b p : Bool} (hi : ops[i]? = some ⟨some d, .pick c (.const (.bool true)) x, T, pos, aft, g⟩) (hw : want ops s.fr ⟨some d, .pick c (.const (.bool true)) x, T, pos, aft, g⟩ = some true) (hdn : Nat.blt d n = true)
    (hc : Ev s.fr c (.bool t)) (hx : Ev s.fr x (.opt b (.bool p))) (hb : (t == false) = b) (k : Run C ops l Q (s.put d (.bool (t || p)))) : Run C ops (i :: l) Q s :=
  Run.pure hi rfl hdn hw (fun F a w hr => by
    have h1 := Ev.rel hr hc
    have h2 := Ev.rel hr hx
    simp only [rel] at h1 h2
    cases t with
    | true => exact ⟨.bool true, (have hk : a.eval (.const (.bool true)) = .bool true := rfl; by simp [execOp, h1, asBool, hk]), by simp [rel]⟩
    | false => exact ⟨.bool p, by simp [execOp, h1, asBool, h2 (by rw [← hb]; rfl)], by simp [rel]⟩) k
end ops
end
end Go.Ab
