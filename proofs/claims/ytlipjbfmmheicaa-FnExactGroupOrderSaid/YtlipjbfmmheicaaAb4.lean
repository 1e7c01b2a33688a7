/- Operations on memory over an abstract state: loads, stores, new blocks, addresses, slices. -/
import Derived.Test.YtlipjbfmmheicaaAb3
namespace Go.Ab
open Go.RowKit (Below)
section
variable {P : Program} {n : Nat} {C : Cx P n} {Q : Post} {s : St}

theorem relP_get {F : Nat → Prop} {w : World} : ∀ {xs : List AV} {vs : List Value} {j : Nat} {x : AV}, relP F w xs vs → xs[j]? = some x → ∃ u, vs[j]? = some u ∧ rel F w x u
  | [], _, _, _, _, h => by simp at h
  | y :: ys, vs, j, x, hl, h => by
    simp only [relP] at hl
    obtain ⟨v, r, rfl, h1, h2⟩ := hl
    cases j with
    | zero => simp at h; subst h; exact ⟨v, by simp, h1⟩
    | succ j => simpa using relP_get h2 (by simpa using h)

theorem relL_len {F : Nat → Prop} {w : World} : ∀ {xs : List AV} {vs : List Value}, relL F w xs vs → vs.length = xs.length
  | [], _, h => by simp only [relL] at h; simp [h]
  | x :: xs, _, h => by simp only [relL] at h; obtain ⟨v, r, rfl, _, h2⟩ := h; simp [relL_len h2]
theorem relP_len {F : Nat → Prop} {w : World} : ∀ {xs : List AV} {vs : List Value}, relP F w xs vs → xs.length ≤ vs.length
  | [], _, _ => by simp
  | x :: xs, _, h => by simp only [relP] at h; obtain ⟨v, r, rfl, _, h2⟩ := h; simpa using relP_len h2
theorem relP_of_relL {F : Nat → Prop} {w : World} : ∀ {xs : List AV} {vs : List Value}, relL F w xs vs → relP F w xs vs
  | [], _, _ => by simp [relP]
  | x :: xs, _, h => by simp only [relL] at h; obtain ⟨v, r, rfl, h1, h2⟩ := h; simp only [relP]; exact ⟨v, r, rfl, h1, relP_of_relL h2⟩
theorem relP_suffix {F : Nat → Prop} {w : World} : ∀ {xs : List AV} {us vs : List Value}, relP F w xs us → relP F w xs (us ++ vs)
  | [], _, _, _ => by simp [relP]
  | x :: xs, _, _, h => by simp only [relP] at h; obtain ⟨v, r, rfl, h1, h2⟩ := h; simp only [relP]; exact ⟨v, _, rfl, h1, relP_suffix h2⟩
theorem relP_drop {F : Nat → Prop} {w : World} : ∀ {xs : List AV} {vs : List Value} (k : Nat), relP F w xs vs → relP F w (xs.drop k) (vs.drop k)
  | xs, vs, 0, h => by simpa using h
  | [], vs, k + 1, _ => by simp [relP]
  | x :: xs, vs, k + 1, h => by simp only [relP] at h; obtain ⟨v, r, rfl, _, h2⟩ := h; simpa using relP_drop k h2
theorem relL_take {F : Nat → Prop} {w : World} : ∀ {xs : List AV} {vs : List Value} (k : Nat), relP F w xs vs → k ≤ xs.length → relL F w (xs.take k) (vs.take k)
  | xs, vs, 0, _, _ => by simp [relL]
  | [], vs, k + 1, _, hk => by simp at hk
  | x :: xs, vs, k + 1, h, hk => by
    simp only [relP] at h
    obtain ⟨v, r, rfl, h1, h2⟩ := h
    simp only [List.take_succ_cons, relL]
    exact ⟨v, _, rfl, h1, relL_take k h2 (by simpa using hk)⟩
theorem relP_append {F : Nat → Prop} {w : World} : ∀ {xs ys : List AV} {us vs : List Value}, relL F w xs us → relP F w ys vs → relP F w (xs ++ ys) (us ++ vs)
  | [], ys, us, vs, h, k => by simp only [relL] at h; subst h; simpa using k
  | x :: xs, ys, us, vs, h, k => by
    simp only [relL] at h
    obtain ⟨v, r, rfl, h1, h2⟩ := h
    simp only [List.cons_append, relP]
    exact ⟨v, _, rfl, h1, relP_append h2 k⟩

/-- Where an address leads: the cells of its block, and the place among them. -/
inductive Place (H : List Ar) : AV → List AV → Nat → Prop where
  | own {id b off j : Nat} {cs : List AV} (h : At H id j b cs) : Place H (.adr id b off) cs off
  | imm {cs : List AV} {off : Nat} : Place H (.immAt cs off) cs off

theorem place_adr {H : List Ar} {id b off : Nat} {cs : List AV} (h : H[id]? = some [(b, cs)]) : Place H (.adr id b off) cs off := .own (At.one h)

theorem place_spec {F : Nat → Prop} {a : Act} {w : World} (hr : R C F s a w) {x : AV} {v : Value} {cs : List AV} {off : Nat} (hv : rel F w x v) (hp : Place s.hp x cs off) :
    ∃ b o arr e fz, v = .pointer (some ⟨b, o + off, none⟩) ∧ w.heap[b]? = some (.cells arr e fz) ∧ relP F w cs (arr.toList.drop o) := by
  cases hp with
  | own h =>
    simp only [rel] at hv
    obtain ⟨rfl, hcell⟩ := hv
    obtain ⟨arr, e, hh, hrel⟩ := (hr.sat.live h).2.2.cells hcell
    exact ⟨_, 0, arr, e, _, by simp, hh, by simpa using hrel⟩
  | imm =>
    simp only [rel] at hv
    obtain ⟨b, o, arr, e, fz, rfl, _, hh, hrel⟩ := hv
    exact ⟨b, o, arr, e, fz, rfl, hh, hrel⟩

theorem addr_add (b o j : Nat) : (⟨b, o, none⟩ : Addr).add j = ⟨b, o + j, none⟩ := by
  unfold Addr.add
  split <;> simp_all

theorem cell_spec {F : Nat → Prop} {w : World} {b o off j : Nat} {arr : Array Value} {e : TypeId} {fz : Nat × Nat} {cs : List AV} {x : AV} (hh : w.heap[b]? = some (.cells arr e fz)) (hp : relP F w cs (arr.toList.drop o)) (hc : cs[off + j]? = some x) :
    ∃ u, w.cell? ((⟨b, o + off, none⟩ : Addr).add j) = some u ∧ rel F w x u := by
  obtain ⟨u, hu, hru⟩ := relP_get hp hc
  refine ⟨u, ?_, hru⟩
  rw [addr_add]
  simp only [World.cell?, hh]
  have : arr[o + off + j]? = some u := by
    rw [List.getElem?_drop] at hu
    rw [Nat.add_assoc]
    simpa using hu
  simpa using this

/-- A type whose values fill one cell | that is a row of m cells. -/
def scB (P : Program) (T : TypeId) : Bool :=
  match P.underlying T with
  | some (.struct _) | some (.array ..) | none => false
  | some _ => true
def agB (P : Program) (T : TypeId) (m : Nat) : Bool :=
  match P.underlying T with
  | some (.struct _) | some (.array ..) => (P.info? T).any (·.size == m)
  | _ => false
def szB (P : Program) (T : TypeId) (m : Nat) : Bool := (P.info? T).any (·.size == m)

theorem run_isAgg_sc {T : TypeId} (h : scB P T = true) (w : World) : (isAgg T).run P w = .ok false w := by
  unfold scB at h
  unfold isAgg
  split at h
  · cases h
  · cases h
  · cases h
  · rename_i D hn h1 h2
    simp only [Sem.run_bind, underlying, run_program, Result.andThen_ok, h2, Sem.run_pure]
theorem run_isAgg_ag {T : TypeId} {m : Nat} (h : agB P T m = true) (w : World) : (isAgg T).run P w = .ok true w ∧ (sizeOf T).run P w = .ok m w := by
  unfold agB at h
  have hs : (P.info? T).any (·.size == m) = true → (sizeOf T).run P w = .ok m w := by
    intro h
    cases hi : P.info? T with
    | none => simp [hi] at h
    | some i => simp [hi] at h; simp [sizeOf, typeInfo, hi, h]
  unfold isAgg
  split at h
  · rename_i f hu
    exact ⟨by simp [underlying, hu], hs h⟩
  · rename_i f hu
    exact ⟨by simp [underlying, hu], hs h⟩
  · cases h

section ops
variable {ops : Array Oper} {i : Nat} {l : List Nat} {d : Nat} {T U : TypeId} {pos : String} {aft : Array Edge} {g : Option (Nat × Bool)}

theorem Run.load {x : Operand} {p y : AV} {cs : List AV} {off : Nat} (hi : ops[i]? = some ⟨some d, .load U x, T, pos, aft, g⟩) (hw : want ops s.fr ⟨some d, .load U x, T, pos, aft, g⟩ = some true) (hdn : Nat.blt d n = true)
    (hx : Ev s.fr x p) (hp : Place s.hp p cs off) (hT : scB P U = true) (hc : cs[off]? = some y) (k : Run C ops l Q (s.put d y)) : Run C ops (i :: l) Q s :=
  Run.pure hi rfl hdn hw (fun F a w hr => by
    obtain ⟨b, o, arr, e, fz, hv, hh, hrel⟩ := place_spec hr (Ev.rel hr hx) hp
    obtain ⟨u, hu, hru⟩ := cell_spec (j := 0) hh hrel (by simpa using hc)
    refine ⟨u, ?_, hru⟩
    rw [addr_add] at hu
    have hl : (loadVar U ⟨b, o + off, none⟩).run P w = .ok u w := by
      unfold loadVar
      simp only [Sem.run_bind, run_isAgg_sc hT w, Result.andThen_ok]
      simp only [Bool.false_eq_true, if_false, run_load]
      simp only [Nat.add_zero] at hu
      simp [hu]
    simp only [execOp, Sem.run_bind, Instr.loadAt, hv, Instr.sureAddr, Sem.run_pure, Result.andThen_ok, hl]) k

theorem Run.loads {x : Operand} {p : AV} {cs ys : List AV} {off m : Nat} (hi : ops[i]? = some ⟨some d, .load U x, T, pos, aft, g⟩) (hw : want ops s.fr ⟨some d, .load U x, T, pos, aft, g⟩ = some true) (hdn : Nat.blt d n = true)
    (hx : Ev s.fr x p) (hp : Place s.hp p cs off) (hT : agB P U m = true) (hc : (cs.drop off).take m = ys) (hm : ys.length = m) (k : Run C ops l Q (s.put d (.agg ys))) : Run C ops (i :: l) Q s :=
  Run.pure hi rfl hdn hw (fun F a w hr => by
    obtain ⟨b, o, arr, e, fz, hv, hh, hrel⟩ := place_spec hr (Ev.rel hr hx) hp
    have hlen : m ≤ (cs.drop off).length := by
      rw [← hc] at hm
      rw [List.length_take] at hm
      omega
    have hrel' := relL_take m (relP_drop off hrel) hlen
    rw [hc] at hrel'
    have hl : (loadVar U ⟨b, o + off, none⟩).run P w = .ok (.agg (((arr.toList.drop o).drop off).take m).toArray) w := by
      have hlc := run_loadCells_list (P := P) w ⟨b, o + off, none⟩ (((arr.toList.drop o).drop off).take m) (by
        intro j v hj
        rw [addr_add]
        simp only [World.cell?, hh]
        rw [List.getElem?_take] at hj
        split at hj
        · rw [List.getElem?_drop, List.getElem?_drop] at hj
          have : arr[o + off + j]? = some v := by rw [Nat.add_assoc]; simpa using hj
          simpa using this
        · cases hj)
      rw [relL_len hrel', hm] at hlc
      unfold loadVar
      simp only [Sem.run_bind, (run_isAgg_ag hT w).1, Result.andThen_ok, if_true, (run_isAgg_ag hT w).2, hlc, Sem.run_pure]
    refine ⟨.agg (((arr.toList.drop o).drop off).take m).toArray, by simp only [execOp, Sem.run_bind, Instr.loadAt, hv, Instr.sureAddr, Sem.run_pure, Result.andThen_ok, hl], ?_⟩
    simp only [rel]
    exact ⟨_, rfl, by simpa using hrel'⟩) k

/-- A value that fills one cell. -/
def AV.sc : AV → Bool
  | .agg _ | .tup _ | .opt .. | .junk | .mark => false
  | _ => true
theorem rel_sc {F : Nat → Prop} {w : World} {x : AV} {v : Value} (hx : x.sc = true) (h : rel F w x v) : v.oneCell' = true ∧ v.cells = #[v] := by
  cases x <;> simp only [AV.sc, Bool.false_eq_true] at hx <;> simp only [rel] at h
  all_goals first
    | (subst h; exact ⟨rfl, rfl⟩)
    | (obtain ⟨_, rfl, _⟩ := h; exact ⟨rfl, rfl⟩)
    | (obtain ⟨rfl, _⟩ := h; exact ⟨rfl, rfl⟩)
    | (obtain ⟨_, _, rfl, _⟩ := h; exact ⟨rfl, rfl⟩)
    | (obtain ⟨_, _, _, _, _, rfl, _⟩ := h; exact ⟨rfl, rfl⟩)

/-- The cells of a value. -/
def AV.cs : AV → List AV
  | .agg xs => xs
  | x => [x]
def AV.scs (x : AV) : Bool := x.cs.all AV.sc

theorem rel_cells {F : Nat → Prop} {w : World} {x : AV} {v : Value} (hx : x.scs = true) (h : rel F w x v) : relL F w x.cs v.cells.toList ∧ ∀ u ∈ v.cells.toList, u.oneCell' = true := by
  have key : ∀ {xs : List AV} {vs : List Value}, xs.all AV.sc = true → relL F w xs vs → ∀ u ∈ vs, u.oneCell' = true := by
    intro xs
    induction xs with
    | nil => intro vs _ h; simp only [relL] at h; subst h; intro u hu; cases hu
    | cons y ys ih =>
      intro vs hs h
      simp only [relL] at h
      obtain ⟨v, r, rfl, h1, h2⟩ := h
      simp only [List.all_cons, Bool.and_eq_true] at hs
      intro u hu
      cases hu with
      | head => exact (rel_sc hs.1 h1).1
      | tail _ hu => exact ih hs.2 h2 u hu
  unfold AV.scs at hx
  cases x with
  | agg xs =>
    simp only [AV.cs] at hx ⊢
    simp only [rel] at h
    obtain ⟨vs, rfl, hl⟩ := h
    exact ⟨hl, key hx hl⟩
  | _ =>
    simp only [AV.cs, List.all_cons, List.all_nil, Bool.and_true] at hx ⊢
    obtain ⟨h1, h2⟩ := rel_sc hx h
    rw [h2]
    simp only [relL]
    refine ⟨⟨v, [], rfl, h, rfl⟩, fun u hu => ?_⟩
    simp at hu
    rw [hu]
    exact h1

/-- Cells put in the place of others. -/
def splice (cs : List AV) (off : Nat) (xs : List AV) : List AV := cs.take off ++ (xs ++ cs.drop (off + xs.length))

/-- A row of the call's own is written anew. -/
theorem R.row {F : Nat → Prop} {a : Act} {w : World} (hr : R C F s a w) {id j b : Nat} {l : Ar} {cs xs : List AV} {arr arr' : Array Value} {e : TypeId} (hl : s.hp[id]? = some l) (hj : l[j]? = some (b, cs)) (harr : w.heap[b]? = some (.cells arr e (0, 0)))
    (hsz : arr'.size = arr.size) (hrel : relP F w xs arr'.toList) : R C F ⟨s.fr, s.hp.set id (l.set j (b, xs))⟩ a (w.setRow b arr') := by
  have hh : At s.hp id j b cs := ⟨l, hl, hj⟩
  obtain ⟨hok, hnF, _⟩ := hr.sat.live hh
  have hne : ∀ k, k ≠ b → (w.setRow b arr').heap[k]? = w.heap[k]? := fun k hk => setRow_other w b k _ hk
  have hk : Later F w (w.setRow b arr') := by
    refine ⟨fun k hF => hne k (fun h => hnF (h ▸ hF)), fun k arr'' e' fz' hk' => ?_⟩
    by_cases hkb : k = b
    · subst hkb
      rw [harr] at hk'
      cases hk'
      exact ⟨_, _, _, setRow_heap w k arr _ e (0, 0) harr, hsz⟩
    · exact ⟨arr'', e', fz', (hne k hkb).trans hk', rfl⟩
  have hjlt : j < l.length := by
    rcases Nat.lt_or_ge j l.length with h' | h'
    · exact h'
    · simp [List.getElem?_eq_none h'] at hj
  -- where a block stands now, it stood before
  have back : ∀ {i p k : Nat} {ds : List AV}, At (s.hp.set id (l.set j (b, xs))) i p k ds → (i = id ∧ p = j ∧ k = b ∧ ds = xs) ∨ (¬ (i = id ∧ p = j) ∧ At s.hp i p k ds) := by
    intro i p k ds h
    rcases h.set with ⟨rfl, h'⟩ | ⟨hi, h'⟩
    · by_cases hp : p = j
      · subst hp
        rw [List.getElem?_set_self hjlt] at h'
        cases h'
        exact .inl ⟨rfl, rfl, rfl, rfl⟩
      · rw [List.getElem?_set_ne (Ne.symm hp)] at h'
        exact .inr ⟨fun h => hp h.2, l, hl, h'⟩
    · exact .inr ⟨fun h => hi h.1, h'⟩
  refine ⟨hr.size, hr.defers, fun t x hx => rel_mono (fun _ h => h) hk _ _ (hr.fr t x hx), ⟨fun k hF => by rw [setRow_size]; exact hr.sat.old k hF, fun {i p k ds} hx => ?_, fun {i i' p p' k ds ds'} hx hy => ?_⟩, hr.os, hr.tape, hr.output, by rw [setRow_size]; exact hr.hsize, fun k hlt hW => ?_, hr.F0, hr.F1, hr.elder.trans hk.size⟩
  · rcases back hx with ⟨_, _, rfl, rfl⟩ | ⟨hn, hx'⟩
    · exact ⟨hok, hnF, .inl ⟨_, e, setRow_heap w _ arr _ e (0, 0) harr, relP_mono (fun _ h => h) hk _ _ hrel⟩⟩
    · obtain ⟨h1, h2, h3⟩ := hr.sat.live hx'
      have hkb : k ≠ b := fun h => by subst h; exact hn (hr.sat.inj hx' hh)
      exact ⟨h1, h2, h3.mono (fun _ h => h) hk (hne _ hkb)⟩
  · rcases back hx with ⟨h1, h2, h3, _⟩ | ⟨_, hx'⟩ <;> rcases back hy with ⟨h4, h5, h6, _⟩ | ⟨_, hy'⟩
    · exact ⟨h1.trans h4.symm, h2.trans h5.symm⟩
    · subst h3; have := hr.sat.inj hh hy'; exact ⟨h1.trans this.1, h2.trans this.2⟩
    · subst h6; have := hr.sat.inj hx' hh; exact ⟨this.1.trans h4.symm, this.2.trans h5.symm⟩
    · exact hr.sat.inj hx' hy'
  · have : k ≠ b := by
      rintro rfl
      rcases hok with h | h
      · exact hW h
      · exact absurd hlt (Nat.not_lt.2 h)
    exact (hne k this).trans (hr.block k hlt hW)

theorem Run.store {p x : Operand} {id j b off m : Nat} {lr : Ar} {cs cs' : List AV} {y : AV} (hi : ops[i]? = some ⟨none, .store U p x, T, pos, aft, g⟩) (hw : want ops s.fr ⟨none, .store U p x, T, pos, aft, g⟩ = some true)
    (hp : Ev s.fr p (.adr id b off)) (hl : s.hp[id]? = some lr) (hj : lr[j]? = some (b, cs)) (hx : Ev s.fr x y) (hsz : szB P U m = true) (hy : y.scs = true) (hm : y.cs.length = m) (hlen : off + m ≤ cs.length) (hc : splice cs off y.cs = cs')
    (k : Run C ops l Q ⟨s.fr, s.hp.set id (lr.set j (b, cs'))⟩) : Run C ops (i :: l) Q s :=
  Run.act hi hw (fun F a w hr => by
    have hpv := Ev.rel hr hp
    simp only [rel] at hpv
    have hxv := Ev.rel hr hx
    obtain ⟨hrl, hone⟩ := rel_cells hy hxv
    obtain ⟨hpv, hcell⟩ := hpv
    obtain ⟨hok, hnF, hhl⟩ := hr.sat.live ⟨lr, hl, hj⟩
    obtain ⟨arr, e, harr, hrel⟩ := hhl.cells hcell
    have hul : (a.eval x).cells.size = m := by
      have := relL_len hrl
      rw [hm] at this
      simpa using this
    have hle := relP_len hrel
    simp only [Array.length_toList] at hle
    refine ⟨_, F, ?_, hr.row (arr' := (arr.toList.take off ++ (a.eval x).cells.toList ++ arr.toList.drop (off + (a.eval x).cells.toList.length)).toArray) hl hj harr ?_ ?_⟩
    · have hs : (sizeOf U).run P w = .ok m w := by
        unfold szB at hsz
        cases hi : P.info? U with
        | none => simp [hi] at hsz
        | some i => simp [hi] at hsz; simp [sizeOf, typeInfo, hi, hsz]
      have hst := run_storeCells_at (P := P) b off e (a.eval x).cells.toList 0 arr w harr (by simp; omega) hone
      simp only [Nat.add_zero] at hst
      simp only [execOp, Sem.run_bind, Instr.storeAt, hpv, Instr.sureAddr, Sem.run_pure, Result.andThen_ok, storeVar, hs, hul, ne_eq, not_true_eq_false, if_false, hst]
    · simp; omega
    · rw [← hc]
      unfold splice
      simp only [List.append_assoc]
      refine relP_append (relL_take off hrel (by omega)) (relP_append hrl ?_)
      rw [← relL_len hrl]
      exact relP_drop _ hrel) k
end ops
end
end Go.Ab
