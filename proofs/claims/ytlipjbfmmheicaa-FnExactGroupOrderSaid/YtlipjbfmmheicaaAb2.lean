/- Regions step by step over an abstract state: what touches no memory; contracts of functions; the entry into a body. -/
import Derived.Test.YtlipjbfmmheicaaAb1
import Derived.Laws.Sem
import Derived.Laws.Tables
import Derived.Laws.Slices
import Derived.Laws.Append
import Derived.Laws.MakeOwn
import Derived.Laws.CopyRow
namespace Go.Ab
section
variable {P : Program} {n : Nat} {C : Cx P n} {Q : Post} {s : St}

def Run (C : Cx P n) (ops : Array Oper) (l : List Nat) (Q : Post) (s : St) : Prop := ∀ F a w, R C F s a w → wpOps P ops (lift C Q) l a w

theorem WP.region {id : Nat} {ops : Array Oper} {l : List Nat} (hl : List.range ops.size = l) (h : Run C ops l Q s) : WP C (.region id ops false) Q s :=
  fun F a w hr => wp_region (by rw [hl]; exact h F a w hr)

theorem Run.nil {ops : Array Oper} (h : Q .normal s) : Run C ops [] Q s := fun F _ _ hr => ⟨F, s, hr, h⟩

/-- Is the operation wanted? (its guard: a slot that holds a known truth) -/
def want (ops : Array Oper) (fr : List (Nat × AV)) (o : Oper) : Option Bool :=
  match o.guard with
  | none => some true
  | some (j, w) => match (ops[j]?).bind (·.dst) with
    | some d => match get fr d with
      | some (.bool b) => some (b == w)
      | _ => none
    | none => none

theorem want_spec {ops : Array Oper} {o : Oper} {t : Bool} {F : Nat → Prop} {a : Act} {w : World} (hr : R C F s a w) (h : want ops s.fr o = some t) :
    Region.wanted o (yielded ops a.tmps) = t := by
  unfold want at h
  unfold Region.wanted
  split at h
  · rename_i hg
    rw [hg]
    simpa using h
  · rename_i j wn hg
    rw [hg]
    split at h
    · rename_i d hd
      split at h
      · rename_i b hb
        have h1 := hr.fr d _ hb
        simp only [rel] at h1
        have hlt : d < a.tmps.size := by
          rcases Nat.lt_or_ge d a.tmps.size with h' | h'
          · exact h'
          · simp [Array.getD, undef, Nat.not_lt.2 h'] at h1
        have h2 : a.tmps[d]? = some (.bool b) := by
          rw [Array.getElem?_eq_getElem hlt]
          simpa [Array.getD, hlt] using h1
        have : yielded ops a.tmps j = some b := by simp [yielded, hd, h2]
        simp only [this]
        cases h
        cases b <;> cases wn <;> rfl
      · cases h
    · cases h

def St.put (s : St) (d : Nat) (x : AV) : St := ⟨(d, x) :: s.fr, s.hp⟩

theorem R.put {F : Nat → Prop} {a : Act} {w : World} (hr : R C F s a w) {d : Nat} {x : AV} {v : Value} (hd : Nat.blt d n = true) (hv : rel F w x v) : R C F (s.put d x) (a.put (some d) v) w := by
  have hd' : d < a.tmps.size := by rw [hr.size]; exact Nat.blt_eq.mp hd
  refine { hr with size := ?_, defers := hr.defers, fr := ?_ }
  · simp [Act.put, hr.size]
  · intro t y hy
    simp only [St.put, get] at hy
    by_cases ht : d = t
    · subst ht
      have : Nat.beq d d = true := Nat.beq_refl _
      simp only [this, cond_true] at hy
      cases hy
      simpa [Act.put, Array.getD, hd'] using hv
    · have : Nat.beq d t = false := by
        cases hb : Nat.beq d t with
        | false => rfl
        | true => exact absurd (Nat.eq_of_beq_eq_true hb) ht
      simp only [this, cond_false] at hy
      have h1 := hr.fr t y hy
      simpa [Act.put, Array.getD_eq_getD_getElem?, Array.getElem?_setIfInBounds, ht] using h1

theorem R.put_none {F : Nat → Prop} {a : Act} {w : World} (hr : R C F s a w) (v : Value) : R C F s (a.put none v) w := hr

/-- The step of an operation that yields a value. -/
theorem Run.value {ops : Array Oper} {i : Nat} {l : List Nat} {o : Oper} {s' : St} (hi : ops[i]? = some o) (hw : want ops s.fr o = some true)
    (hv : ∀ F a w, R C F s a w → ∃ v w' F', (execOp a.eval o).run P w = .ok (.value v) w' ∧ R C F' s' (a.put o.dst v) w') (k : Run C ops l Q s') : Run C ops (i :: l) Q s := by
  intro F a w hr
  obtain ⟨v, w', F', hrun, hr'⟩ := hv F a w hr
  simp only [wpOps, hi, want_spec hr hw, if_true]
  refine .inl ?_
  simp only [Oper.wp, hrun, Oper.upon]
  exact k F' _ _ hr'

/-- The step of an operation that has no value (a store). -/
theorem Run.act {ops : Array Oper} {i : Nat} {l : List Nat} {o : Oper} {s' : St} (hi : ops[i]? = some o) (hw : want ops s.fr o = some true)
    (hv : ∀ F a w, R C F s a w → ∃ w' F', (execOp a.eval o).run P w = .ok .skip w' ∧ R C F' s' (a.put o.dst undef) w') (k : Run C ops l Q s') : Run C ops (i :: l) Q s := by
  intro F a w hr
  obtain ⟨w', F', hrun, hr'⟩ := hv F a w hr
  simp only [wpOps, hi, want_spec hr hw, if_true]
  refine .inl ?_
  simp only [Oper.wp, hrun, Oper.upon]
  exact k F' _ _ hr'

/-- An operation whose guard is not met. -/
theorem Run.no {ops : Array Oper} {i : Nat} {l : List Nat} {o : Oper} {d : Nat} (hi : ops[i]? = some o) (hd : o.dst = some d) (hdn : Nat.blt d n = true) (hw : want ops s.fr o = some false)
    (k : Run C ops l Q (s.put d .junk)) : Run C ops (i :: l) Q s := by
  intro F a w hr
  simp only [wpOps, hi, want_spec hr hw, Bool.false_eq_true, if_false, hd]
  exact k F _ _ (hr.put hdn (by simp [rel]))

/-- A truth of which the next operations' guards speak: both ways. -/
theorem Run.split {ops : Array Oper} {l : List Nat} {d : Nat} {b : Bool} (hb : get s.fr d = some (.bool b)) (hd : Nat.blt d n = true)
    (ht : b = true → Run C ops l Q (s.put d (.bool true))) (hf : b = false → Run C ops l Q (s.put d (.bool false))) : Run C ops l Q s := by
  intro F a w hr
  have same : a = a.put (some d) (.bool b) := by
    have h1 := hr.fr d _ hb
    simp only [rel] at h1
    have hd' : d < a.tmps.size := by rw [hr.size]; exact Nat.blt_eq.mp hd
    have h2 : a.tmps[d] = .bool b := by simpa [Array.getD, hd'] using h1
    cases a
    simp only [Act.put]
    congr 1
    simp only at h2 hd'
    apply Array.ext
    · simp
    · intro i h1 h2'
      rw [Array.getElem_setIfInBounds]
      split
      · rename_i h; subst h; exact h2
      · rfl
  cases b with
  | true => rw [same]; exact ht rfl F _ _ (hr.put hd (by simp [rel]))
  | false => rw [same]; exact hf rfl F _ _ (hr.put hd (by simp [rel]))

/-- The world stays: one value, told by the operands. -/
theorem Run.pure {ops : Array Oper} {i : Nat} {l : List Nat} {o : Oper} {d : Nat} {x : AV} (hi : ops[i]? = some o) (hd : o.dst = some d) (hdn : Nat.blt d n = true) (hw : want ops s.fr o = some true)
    (hv : ∀ F a w, R C F s a w → ∃ v, (execOp a.eval o).run P w = .ok (.value v) w ∧ rel F w x v) (k : Run C ops l Q (s.put d x)) : Run C ops (i :: l) Q s :=
  Run.value hi hw (fun F a w hr => let ⟨v, h1, h2⟩ := hv F a w hr; ⟨v, w, F, h1, by rw [hd]; exact hr.put hdn h2⟩) k

theorem relL_get {F : Nat → Prop} {w : World} : ∀ {xs : List AV} {vs : List Value} {j : Nat} {x : AV}, relL F w xs vs → xs[j]? = some x → ∃ u, vs[j]? = some u ∧ rel F w x u
  | [], _, _, _, _, h => by simp at h
  | y :: ys, vs, j, x, hl, h => by
    simp only [relL] at hl
    obtain ⟨v, r, rfl, h1, h2⟩ := hl
    cases j with
    | zero => simp at h; subst h; exact ⟨v, by simp, h1⟩
    | succ j => simpa using relL_get h2 (by simpa using h)

section ops
variable {ops : Array Oper} {i : Nat} {l : List Nat} {d : Nat} {T : TypeId} {pos : String} {aft : Array Edge} {g : Option (Nat × Bool)}

theorem Run.move {x : Operand} {v : AV} (hi : ops[i]? = some ⟨some d, .move x, T, pos, aft, g⟩) (hw : want ops s.fr ⟨some d, .move x, T, pos, aft, g⟩ = some true) (hdn : Nat.blt d n = true)
    (hx : Ev s.fr x v) (k : Run C ops l Q (s.put d v)) : Run C ops (i :: l) Q s :=
  Run.pure hi rfl hdn hw (fun _ a _ hr => ⟨a.eval x, by simp [execOp], Ev.rel hr hx⟩) k
theorem Run.assign {x : Operand} {v : AV} (hi : ops[i]? = some ⟨some d, .assign x, T, pos, aft, g⟩) (hw : want ops s.fr ⟨some d, .assign x, T, pos, aft, g⟩ = some true) (hdn : Nat.blt d n = true)
    (hx : Ev s.fr x v) (k : Run C ops l Q (s.put d v)) : Run C ops (i :: l) Q s :=
  Run.pure hi rfl hdn hw (fun _ a _ hr => ⟨a.eval x, by simp [execOp], Ev.rel hr hx⟩) k

theorem Run.pick_t {c x y : Operand} {v : AV} {t : Bool} (hi : ops[i]? = some ⟨some d, .pick c x y, T, pos, aft, g⟩) (hw : want ops s.fr ⟨some d, .pick c x y, T, pos, aft, g⟩ = some true) (hdn : Nat.blt d n = true)
    (hc : Ev s.fr c (.bool t)) (ht : t = true) (hx : Ev s.fr x v) (k : Run C ops l Q (s.put d v)) : Run C ops (i :: l) Q s :=
  Run.pure hi rfl hdn hw (fun _ a _ hr => ⟨a.eval x, by
    have h1 := Ev.rel hr hc
    simp only [rel] at h1
    subst ht
    simp [execOp, h1, asBool], Ev.rel hr hx⟩) k
theorem Run.pick_f {c x y : Operand} {v : AV} {t : Bool} (hi : ops[i]? = some ⟨some d, .pick c x y, T, pos, aft, g⟩) (hw : want ops s.fr ⟨some d, .pick c x y, T, pos, aft, g⟩ = some true) (hdn : Nat.blt d n = true)
    (hc : Ev s.fr c (.bool t)) (ht : t = false) (hy : Ev s.fr y v) (k : Run C ops l Q (s.put d v)) : Run C ops (i :: l) Q s :=
  Run.pure hi rfl hdn hw (fun _ a _ hr => ⟨a.eval y, by
    have h1 := Ev.rel hr hc
    simp only [rel] at h1
    subst ht
    simp [execOp, h1, asBool], Ev.rel hr hy⟩) k

theorem Run.not {U : TypeId} {x : Operand} {b : Bool} (hi : ops[i]? = some ⟨some d, .unOp .not U x, T, pos, aft, g⟩) (hw : want ops s.fr ⟨some d, .unOp .not U x, T, pos, aft, g⟩ = some true) (hdn : Nat.blt d n = true)
    (hx : Ev s.fr x (.bool b)) (k : Run C ops l Q (s.put d (.bool (!b)))) : Run C ops (i :: l) Q s :=
  Run.pure hi rfl hdn hw (fun _ a _ hr => ⟨.bool (!b), by
    have h1 := Ev.rel hr hx
    simp only [rel] at h1
    simp [execOp, h1, Op.unary], by simp [rel]⟩) k

/-- An integer operation whose outcome is told by f. -/
theorem Run.bin {op : BinOp} {U V : TypeId} {x y : Operand} {p q : AV} {r : AV} (hi : ops[i]? = some ⟨some d, .binOp op U x y V, T, pos, aft, g⟩) (hw : want ops s.fr ⟨some d, .binOp op U x y V, T, pos, aft, g⟩ = some true) (hdn : Nat.blt d n = true)
    (hx : Ev s.fr x p) (hy : Ev s.fr y q) (hv : ∀ F w u v, rel F w p u → rel F w q v → ∃ z, (eqGuard op U x y u v >>= fun _ => binOp op U u v).run P w = .ok z w ∧ rel F w r z)
    (k : Run C ops l Q (s.put d r)) : Run C ops (i :: l) Q s :=
  Run.pure hi rfl hdn hw (fun F a w hr => by
    obtain ⟨z, h1, h2⟩ := hv F w _ _ (Ev.rel hr hx) (Ev.rel hr hy)
    refine ⟨z, ?_, h2⟩
    simp only [Sem.run_bind] at h1
    simp only [execOp, Sem.run_bind]
    cases hh : (eqGuard op U x y (a.eval x) (a.eval y)).run P w with
    | ok u w1 => rw [hh] at h1; simp at h1; simp [h1]
    | halt u w1 => rw [hh] at h1; simp at h1) k

theorem eqGuard_int {op : BinOp} {U : TypeId} {x y : Operand} {k k' : IntKind} {p q : Int} (w : World) : (eqGuard op U x y (.int k p) (.int k' q)).run P w = .ok () w := by
  unfold eqGuard
  split <;> simp

/-- What an integer operation of Go's yields. -/
def intOp (op : BinOp) (k : IntKind) (a b : Int) : Option AV :=
  match op with
  | .add => some (.int k (k.wrap (a + b)))
  | .sub => some (.int k (k.wrap (a - b)))
  | .mul => some (.int k (k.wrap (a * b)))
  | .quo => if b = 0 then none else some (.int k (k.wrap (a.tdiv b)))
  | .rem => if b = 0 then none else some (.int k (a.tmod b))
  | .eql => some (.bool (a == b))
  | .neq => some (.bool (a != b))
  | .lss => some (.bool (a < b))
  | .leq => some (.bool (a ≤ b))
  | .gtr => some (.bool (a > b))
  | .geq => some (.bool (a ≥ b))
  | _ => none

theorem intOp_run {op : BinOp} {U : TypeId} {kd : IntKind} {p q : Int} {r : AV} (w : World) (ho : intOp op kd p q = some r) :
    ∃ z, (binOp op U (.int kd p) (.int kd q)).run P w = .ok z w ∧ ∀ F w', rel F w' r z := by
  cases op <;> simp only [intOp, reduceCtorEq, Option.some.injEq, Option.ite_none_left_eq_some] at ho
  all_goals first
    | (subst ho; refine ⟨_, by simp [binOp, Op.intArith, Op.intCmp]; rfl, fun _ _ => by simp [rel]⟩; done)
    | (obtain ⟨h0, rfl⟩ := ho; refine ⟨_, by simp [binOp, Op.intDiv, h0]; rfl, fun _ _ => by simp [rel]⟩)

theorem Run.int {op : BinOp} {U V : TypeId} {x y : Operand} {kd : IntKind} {p q : Int} {r : AV} (hi : ops[i]? = some ⟨some d, .binOp op U x y V, T, pos, aft, g⟩) (hw : want ops s.fr ⟨some d, .binOp op U x y V, T, pos, aft, g⟩ = some true) (hdn : Nat.blt d n = true)
    (hx : Ev s.fr x (.int kd p)) (hy : Ev s.fr y (.int kd q)) (ho : intOp op kd p q = some r)
    (k : Run C ops l Q (s.put d r)) : Run C ops (i :: l) Q s :=
  Run.bin hi hw hdn hx hy (fun F w u v hu hv => by
    simp only [rel] at hu hv
    subst hu hv
    obtain ⟨z, h1, h2⟩ := intOp_run (P := P) (U := U) w ho
    exact ⟨z, by simp [eqGuard_int, h1], h2 F w⟩) k

theorem wrap64_id {a : Int} (h : -9223372036854775808 ≤ a ∧ a ≤ 9223372036854775807) : IntKind.i64.wrap a = a := by
  simp only [IntKind.wrap, IntKind.signed, IntKind.bits, Bool.true_and]
  split <;> rename_i h1 <;> simp at h1 <;> omega

theorem Run.add {U V : TypeId} {x y : Operand} {p q : Int} (hi : ops[i]? = some ⟨some d, .binOp .add U x y V, T, pos, aft, g⟩) (hw : want ops s.fr ⟨some d, .binOp .add U x y V, T, pos, aft, g⟩ = some true) (hdn : Nat.blt d n = true)
    (hx : Ev s.fr x (.int .i64 p)) (hy : Ev s.fr y (.int .i64 q)) (hr : -9223372036854775808 ≤ p + q ∧ p + q ≤ 9223372036854775807)
    (k : Run C ops l Q (s.put d (.int .i64 (p + q)))) : Run C ops (i :: l) Q s :=
  Run.int hi hw hdn hx hy (by simp only [intOp]; rw [wrap64_id hr]) k
theorem Run.sub {U V : TypeId} {x y : Operand} {p q : Int} (hi : ops[i]? = some ⟨some d, .binOp .sub U x y V, T, pos, aft, g⟩) (hw : want ops s.fr ⟨some d, .binOp .sub U x y V, T, pos, aft, g⟩ = some true) (hdn : Nat.blt d n = true)
    (hx : Ev s.fr x (.int .i64 p)) (hy : Ev s.fr y (.int .i64 q)) (hr : -9223372036854775808 ≤ p - q ∧ p - q ≤ 9223372036854775807)
    (k : Run C ops l Q (s.put d (.int .i64 (p - q)))) : Run C ops (i :: l) Q s :=
  Run.int hi hw hdn hx hy (by simp only [intOp]; rw [wrap64_id hr]) k
theorem Run.mul {U V : TypeId} {x y : Operand} {p q : Int} (hi : ops[i]? = some ⟨some d, .binOp .mul U x y V, T, pos, aft, g⟩) (hw : want ops s.fr ⟨some d, .binOp .mul U x y V, T, pos, aft, g⟩ = some true) (hdn : Nat.blt d n = true)
    (hx : Ev s.fr x (.int .i64 p)) (hy : Ev s.fr y (.int .i64 q)) (hr : -9223372036854775808 ≤ p * q ∧ p * q ≤ 9223372036854775807)
    (k : Run C ops l Q (s.put d (.int .i64 (p * q)))) : Run C ops (i :: l) Q s :=
  Run.int hi hw hdn hx hy (by simp only [intOp]; rw [wrap64_id hr]) k
theorem Run.rem {U V : TypeId} {x y : Operand} {p q : Int} (hi : ops[i]? = some ⟨some d, .binOp .rem U x y V, T, pos, aft, g⟩) (hw : want ops s.fr ⟨some d, .binOp .rem U x y V, T, pos, aft, g⟩ = some true) (hdn : Nat.blt d n = true)
    (hx : Ev s.fr x (.int .i64 p)) (hy : Ev s.fr y (.int .i64 q)) (hp : 0 ≤ p) (hq : 0 < q)
    (k : Run C ops l Q (s.put d (.int .i64 (p % q)))) : Run C ops (i :: l) Q s :=
  Run.int hi hw hdn hx hy (by simp only [intOp]; rw [if_neg (by omega), Int.tmod_eq_emod_of_nonneg hp]) k
theorem Run.tmod {U V : TypeId} {x y : Operand} {p q : Int} (hi : ops[i]? = some ⟨some d, .binOp .rem U x y V, T, pos, aft, g⟩) (hw : want ops s.fr ⟨some d, .binOp .rem U x y V, T, pos, aft, g⟩ = some true) (hdn : Nat.blt d n = true)
    (hx : Ev s.fr x (.int .i64 p)) (hy : Ev s.fr y (.int .i64 q)) (hq : q ≠ 0)
    (k : Run C ops l Q (s.put d (.int .i64 (p.tmod q)))) : Run C ops (i :: l) Q s :=
  Run.int hi hw hdn hx hy (by simp only [intOp]; rw [if_neg hq]) k
theorem Run.quo {U V : TypeId} {x y : Operand} {p q : Int} (hi : ops[i]? = some ⟨some d, .binOp .quo U x y V, T, pos, aft, g⟩) (hw : want ops s.fr ⟨some d, .binOp .quo U x y V, T, pos, aft, g⟩ = some true) (hdn : Nat.blt d n = true)
    (hx : Ev s.fr x (.int .i64 p)) (hy : Ev s.fr y (.int .i64 q)) (hp : 0 ≤ p ∧ p ≤ 9223372036854775807) (hq : 0 < q)
    (k : Run C ops l Q (s.put d (.int .i64 (p / q)))) : Run C ops (i :: l) Q s :=
  Run.int hi hw hdn hx hy (by
    simp only [intOp]
    rw [if_neg (by omega), Int.tdiv_eq_ediv_of_nonneg hp.1, wrap64_id ⟨?_, ?_⟩]
    · have := Int.ediv_nonneg hp.1 (Int.le_of_lt hq); omega
    · have := Int.ediv_le_self q hp.1; omega) k

theorem Run.extract {x : Operand} {j : Nat} {xs : List AV} {v : AV} (hi : ops[i]? = some ⟨some d, .extract x j, T, pos, aft, g⟩) (hw : want ops s.fr ⟨some d, .extract x j, T, pos, aft, g⟩ = some true) (hdn : Nat.blt d n = true)
    (hx : Ev s.fr x (.tup xs)) (hj : xs[j]? = some v) (k : Run C ops l Q (s.put d v)) : Run C ops (i :: l) Q s :=
  Run.pure hi rfl hdn hw (fun F a w hr => by
    have h1 := Ev.rel hr hx
    simp only [rel] at h1
    obtain ⟨vs, he, hl⟩ := h1
    obtain ⟨u, hu, hru⟩ := relL_get hl hj
    refine ⟨u, ?_, hru⟩
    have : vs[j]? = some u := by simpa using hu
    simp [execOp, he, Instr.extract, this]) k
end ops
end
end Go.Ab
