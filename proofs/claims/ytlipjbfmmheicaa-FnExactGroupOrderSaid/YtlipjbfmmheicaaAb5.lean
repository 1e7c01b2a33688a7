/- New blocks, aggregates, addresses of elements, slices, append, over an abstract state. -/
import Derived.Test.YtlipjbfmmheicaaAb4
namespace Go.Ab
open Go.RowKit (Below)
section
variable {P : Program} {n : Nat} {C : Cx P n} {Q : Post} {s : St}

theorem lt_of_heap {w : World} {b : Nat} {o : Obj} (h : w.heap[b]? = some o) : b < w.heap.size := by
  rcases Nat.lt_or_ge b w.heap.size with h' | h'
  · exact h'
  · simp [Array.getElem?_eq_none h'] at h

theorem R.drew {F : Nat → Prop} {a : Act} {w : World} (hr : R C F s a w) : R C F s a w.drew :=
  hr.called (F' := F) ⟨rfl, rfl, rfl, Nat.le_refl _, fun _ _ => rfl⟩ (fun _ h => h) (fun _ h => .inl h) hr.sat.old

/-- A new block takes the place 'id'. -/
theorem R.alloc {F : Nat → Prop} {a : Act} {w : World} (hr : R C F s a w) (id : Nat) {xs : List AV} {arr : Array Value} {e : TypeId} (hrel : relP F w xs arr.toList) :
    R C F ⟨s.fr, s.hp.set id (.cells w.heap.size xs)⟩ a (w.alloc (.cells arr e)) := by
  have hold : ∀ k, k < w.heap.size → (w.alloc (.cells arr e)).heap[k]? = w.heap[k]? := fun k hk => Go.RowKit.Below.heap_alloc _ _ _ hk
  have hnew : (w.alloc (.cells arr e)).heap[w.heap.size]? = some (.cells arr e (0, 0)) := heap_alloc_new w _
  have hk : Later F w (w.alloc (.cells arr e)) := ⟨fun k hF => hold k (hr.sat.old k hF), fun k arr' e' fz' hh => ⟨arr', e', fz', (hold k (lt_of_heap hh)).trans hh, rfl⟩⟩
  have hlive : ∀ {i p k : Nat} {ds : List AV}, At s.hp i p k ds → k < w.heap.size := by
    intro i p k ds h
    exact (hr.sat.live h).2.2.lt
  have back : ∀ {i p k : Nat} {ds : List AV}, At (s.hp.set id [(w.heap.size, xs)]) i p k ds → (i = id ∧ p = 0 ∧ k = w.heap.size ∧ ds = xs) ∨ At s.hp i p k ds := by
    intro i p k ds h
    rcases h.set with ⟨rfl, h'⟩ | ⟨_, h'⟩
    · cases p with
      | zero => simp at h'; exact .inl ⟨rfl, rfl, h'.1.symm, h'.2.symm⟩
      | succ p => simp at h'
    · exact .inr h'
  refine ⟨hr.size, hr.defers, fun t x hx => rel_mono (fun _ h => h) hk _ _ (hr.fr t x hx), ⟨fun k hF => by have := hr.sat.old k hF; simp; omega, fun hx => ?_, fun hx hy => ?_⟩, hr.os, hr.tape, hr.output, by simp; exact Nat.le_succ_of_le hr.hsize,
    fun k hlt hW => (hold k (Nat.lt_of_lt_of_le hlt hr.hsize)).trans (hr.block k hlt hW), hr.F0, hr.F1, hr.elder.trans hk.size⟩
  · rcases back hx with ⟨_, _, rfl, rfl⟩ | hx
    · exact ⟨.inr hr.hsize, fun hF => absurd (hr.sat.old _ hF) (Nat.lt_irrefl _), .inl ⟨arr, e, hnew, relP_mono (fun _ h => h) hk _ _ hrel⟩⟩
    · obtain ⟨h1, h2, h3⟩ := hr.sat.live hx
      exact ⟨h1, h2, h3.mono (fun _ h => h) hk (hold _ h3.lt)⟩
  · rcases back hx with ⟨h3, h4, h1, _⟩ | hx' <;> rcases back hy with ⟨h5, h6, h2, _⟩ | hy'
    · exact ⟨h3.trans h5.symm, h4.trans h6.symm⟩
    · have := hlive hy'; omega
    · have := hlive hx'; omega
    · exact hr.sat.inj hx' hy'

def konst : Value → Option AV
  | .int k m => some (.int k m)
  | .bool b => some (.bool b)
  | .slice none 0 0 => some .nilsl
  | _ => none
def konsts : List Value → Option (List AV)
  | [] => some []
  | v :: r => match konst v, konsts r with
    | some x, some xs => some (x :: xs)
    | _, _ => none
theorem konst_rel {F : Nat → Prop} {w : World} {v : Value} {x : AV} (h : konst v = some x) : rel F w x v := by
  unfold konst at h
  split at h <;> first | (cases h; simp [rel]) | cases h
theorem konsts_rel {F : Nat → Prop} {w : World} : ∀ {vs : List Value} {xs : List AV}, konsts vs = some xs → relL F w xs vs
  | [], xs, h => by simp only [konsts, Option.some.injEq] at h; subst h; simp [relL]
  | v :: r, xs, h => by
    simp only [konsts] at h
    split at h
    · rename_i x ys hx hys
      cases h
      simp only [relL]
      exact ⟨v, r, rfl, konst_rel hx, konsts_rel hys⟩
    · cases h

/-- The cells of a type's zero value. -/
def zeroOf (P : Program) (T : TypeId) : Option (List AV) :=
  match P.info? T with
  | some i => match i.zero with
    | some v => konsts v.cells.toList
    | none => none
  | none => none

theorem zeroOf_spec {T : TypeId} {zs : List AV} (h : zeroOf P T = some zs) : ∃ z, (∀ w, (zeroValue T).run P w = .ok z w) ∧ (P.info? T).bind (·.zero) = some z ∧ ∀ F w, relL F w zs z.cells.toList := by
  unfold zeroOf at h
  split at h
  · rename_i i hi
    split at h
    · rename_i v hv
      exact ⟨v, fun w => by simp [zeroValue, typeInfo, hi, hv], by simp [hi, hv], fun F w => konsts_rel h⟩
    · cases h
  · cases h

section ops
variable {ops : Array Oper} {i : Nat} {l : List Nat} {d : Nat} {T U : TypeId} {pos : String} {aft : Array Edge} {g : Option (Nat × Bool)}

theorem Run.step {ops : Array Oper} {i : Nat} {l : List Nat} {o : Oper} (hi : ops[i]? = some o) (hw : want ops s.fr o = some true)
    (hv : ∀ F a w, R C F s a w → ∃ v w' F' s', (execOp a.eval o).run P w = .ok (.value v) w' ∧ R C F' s' (a.put o.dst v) w' ∧ Run C ops l Q s') : Run C ops (i :: l) Q s := by
  intro F a w hr
  obtain ⟨v, w', F', s', hrun, hr', k⟩ := hv F a w hr
  simp only [wpOps, hi, want_spec hr hw, if_true]
  refine .inl ?_
  simp only [Oper.wp, hrun, Oper.upon]
  exact k F' _ _ hr'

/-- An operation that makes one block, which takes the place 'id'. -/
theorem Run.new (id : Nat) {o : Oper} {xs : List AV} {x : Nat → AV} (hi : ops[i]? = some o) (hd : o.dst = some d) (hw : want ops s.fr o = some true) (hdn : Nat.blt d n = true)
    (hv : ∀ F a w, R C F s a w → ∃ v arr e, (execOp a.eval o).run P w = .ok (.value v) (w.alloc (.cells arr e)) ∧ relP F w xs arr.toList ∧ rel F (w.alloc (.cells arr e)) (x w.heap.size) v)
    (k : ∀ b, Run C ops l Q ⟨(d, x b) :: s.fr, s.hp.set id (.cells b xs)⟩) : Run C ops (i :: l) Q s :=
  Run.step hi hw fun F a w hr => by
    obtain ⟨v, arr, e, hrun, hrel, hx⟩ := hv F a w hr
    refine ⟨v, _, F, _, hrun, ?_, k w.heap.size⟩
    rw [hd]
    exact (hr.alloc id hrel).put hdn hx

theorem Run.alloc (id : Nat) {zs : List AV} (hi : ops[i]? = some ⟨some d, .alloc U, T, pos, aft, g⟩) (hw : want ops s.fr ⟨some d, .alloc U, T, pos, aft, g⟩ = some true) (hdn : Nat.blt d n = true)
    (hz : zeroOf P U = some zs) (k : ∀ b, Run C ops l Q ⟨(d, .adr id b 0) :: s.fr, s.hp.set id (.cells b zs)⟩) : Run C ops (i :: l) Q s :=
  Run.new id (x := fun b => .adr id b 0) hi rfl hw hdn (fun F a w hr => by
    obtain ⟨z, hzr, _, hzl⟩ := zeroOf_spec hz
    exact ⟨.pointer (some ⟨w.heap.size, 0, none⟩), z.cells, U, by simp [execOp, Instr.alloc, hzr w, newVar, newRow], relP_of_relL (hzl F w), by simp only [rel]; exact ⟨trivial, _, _, _, heap_alloc_new w _⟩⟩) k

theorem Run.box (id : Nat) {x : Operand} {y : AV} (hi : ops[i]? = some ⟨some d, .box U x, T, pos, aft, g⟩) (hw : want ops s.fr ⟨some d, .box U x, T, pos, aft, g⟩ = some true) (hdn : Nat.blt d n = true)
    (hx : Ev s.fr x y) (hy : y.scs = true) (k : ∀ b, Run C ops l Q ⟨(d, .adr id b 0) :: s.fr, s.hp.set id (.cells b y.cs)⟩) : Run C ops (i :: l) Q s :=
  Run.new id (x := fun b => .adr id b 0) hi rfl hw hdn (fun F a w hr =>
    ⟨.pointer (some ⟨w.heap.size, 0, none⟩), (a.eval x).cells, U, by simp [execOp, Instr.box, newVar, newRow], relP_of_relL (rel_cells hy (Ev.rel hr hx)).1, by simp only [rel]; exact ⟨trivial, _, _, _, heap_alloc_new w _⟩⟩) k

/-- Parts laid into cells. -/
def fillA (place : Nat → Option (Nat × Nat)) (cells : List AV) : List (Nat × AV) → Option (List AV)
  | [] => some cells
  | (j, x) :: r => match place j with
    | none => none
    | some (off, size) => if x.cs.length = size ∧ off + size ≤ cells.length then fillA place (splice cells off x.cs) r else none

theorem take_mid (A B : List Value) (u : Value) : (A ++ u :: B).take (A.length + 1) = A ++ [u] := by
  have h : A ++ u :: B = (A ++ [u]) ++ B := by simp
  rw [h, List.take_append_of_le_length (by simp), List.take_of_length_le (by simp)]
theorem drop_mid (A B : List Value) (u : Value) (m : Nat) : (A ++ u :: B).drop (A.length + 1 + m) = B.drop m := by
  have h : A ++ u :: B = (A ++ [u]) ++ B := by simp
  have h2 : A.length + 1 + m = (A ++ [u]).length + m := by simp
  rw [h, h2, List.drop_length_add_append]

theorem foldl_splice : ∀ (us : List Value) (off k : Nat) (cur : Array Value), off + k + us.length ≤ cur.size →
    ((us.zipIdx k).foldl (fun (cs : Array Value) (c, j) => cs.setIfInBounds (off + j) c) cur).toList = cur.toList.take (off + k) ++ (us ++ cur.toList.drop (off + k + us.length))
  | [], off, k, cur, _ => by simp
  | u :: us, off, k, cur, h => by
    simp only [List.zipIdx_cons, List.foldl_cons]
    simp only [List.length_cons] at h
    rw [foldl_splice us off (k + 1) _ (by simp; omega)]
    have hlt : off + k < cur.toList.length := by simp; omega
    rw [Array.toList_setIfInBounds, List.set_eq_take_append_cons_drop, if_pos hlt]
    have hA : (cur.toList.take (off + k)).length = off + k := by rw [List.length_take]; omega
    have t1 := take_mid (cur.toList.take (off + k)) (cur.toList.drop (off + k + 1)) u
    have t2 := drop_mid (cur.toList.take (off + k)) (cur.toList.drop (off + k + 1)) u us.length
    rw [hA] at t1 t2
    have e1 : off + (k + 1) = off + k + 1 := by omega
    rw [e1, t1, t2, List.drop_drop]
    have e3 : off + k + 1 + us.length = off + k + (us.length + 1) := by omega
    simp [e3]

theorem splice_rel {F : Nat → Prop} {w : World} {cs xs : List AV} {cur : List Value} {us : List Value} {off : Nat} (hcs : relL F w cs cur) (hxs : relL F w xs us) (h : off + xs.length ≤ cs.length) :
    relL F w (splice cs off xs) (cur.take off ++ (us ++ cur.drop (off + us.length))) := by
  have hd : ∀ {xs : List AV} {vs : List Value} (k : Nat), relL F w xs vs → relL F w (xs.drop k) (vs.drop k) := by
    intro xs
    induction xs with
    | nil => intro vs k h; simp only [relL] at h; subst h; simp [relL]
    | cons x xs ih =>
      intro vs k h
      cases k with
      | zero => simpa using h
      | succ k => simp only [relL] at h; obtain ⟨v, r, rfl, _, h2⟩ := h; simpa using ih k h2
  unfold splice
  rw [relL_len hxs]
  exact relL_append (relL_take off (relP_of_relL hcs) (by omega)) (relL_append hxs (hd _ hcs))

theorem fill_rel {F : Nat → Prop} {w : World} {place : Nat → Option (Nat × Nat)} : ∀ {parts : List (Nat × AV)} {vparts : List (Nat × Value)} {cells out : List AV} {vcells : Array Value},
    (∀ j : Nat, (parts[j]?).isSome = (vparts[j]?).isSome) → (∀ (j k k' : Nat) (x : AV) (v : Value), parts[j]? = some (k, x) → vparts[j]? = some (k', v) → k = k' ∧ relL F w x.cs v.cells.toList) → relL F w cells vcells.toList → fillA place cells parts = some out →
    ∃ vout, Instr.fill place vcells vparts = some vout ∧ relL F w out vout.toList
  | [], [], cells, out, vcells, _, _, hc, h => by
    simp only [fillA, Option.some.injEq] at h
    subst h
    exact ⟨vcells, rfl, hc⟩
  | [], _ :: _, _, _, _, hs, _, _, _ => by have := hs 0; simp at this
  | _ :: _, [], _, _, _, hs, _, _, _ => by have := hs 0; simp at this
  | (k, x) :: r, (k', v) :: vr, cells, out, vcells, hs, hp, hc, h => by
    obtain ⟨rfl, hx⟩ := hp 0 k k' x v (by simp) (by simp)
    simp only [fillA] at h
    simp only [Instr.fill]
    split at h
    · cases h
    · rename_i off size hpl
      rw [hpl]
      split at h
      · rename_i hcond
        have hl := relL_len hx
        have hlc := relL_len hc
        simp only [Array.length_toList] at hl hlc
        have hok : (v.cells.size ≠ size || decide (off + v.cells.size > vcells.size)) = false := by
          simp; omega
        simp only [hok, Bool.false_eq_true, if_false]
        refine fill_rel (fun j => by simpa using hs (j + 1)) (fun j a b c e h1 h2 => hp (j + 1) a b c e (by simpa using h1) (by simpa using h2)) ?_ h
        have hf := foldl_splice v.cells.toList off 0 vcells (by simp; omega)
        simp only [Nat.add_zero] at hf
        have : (v.cells.zipIdx.foldl (fun (cs : Array Value) (c, j) => cs.setIfInBounds (off + j) c) vcells).toList = vcells.toList.take off ++ (v.cells.toList ++ vcells.toList.drop (off + v.cells.toList.length)) := by
          rw [← hf, ← Array.foldl_toList, Array.toList_zipIdx]
        rw [this]
        exact splice_rel hc hx (by omega)
      · cases h

/-- A type that a composite literal builds: its zero cells; where its parts lie. -/
def placesOf (P : Program) (T : TypeId) : Option (Nat → Option (Nat × Nat)) :=
  match P.underlying T with
  | some (.array _ e) => match P.info? e with
    | some ie => some fun j => some (j * ie.size, ie.size)
    | none => none
  | some (.struct fs) => match fs.toList.mapM (fun f => (P.info? f.type).map fun i => (f.offset, i.size)) with
    | some pl => some (pl.toArray[·]?)
    | none => none
  | _ => none

inductive Parts (fr : List (Nat × AV)) : List (Nat × Operand) → List (Nat × AV) → Prop where
  | nil : Parts fr [] []
  | cons {j : Nat} {o : Operand} {r : List (Nat × Operand)} {x : AV} {xs : List (Nat × AV)} (h : Ev fr o x) (hx : x.scs = true) (hs : Parts fr r xs) : Parts fr ((j, o) :: r) ((j, x) :: xs)

theorem partsOf_spec {F : Nat → Prop} {a : Act} {w : World} (hr : R C F s a w) : ∀ {ps : List (Nat × Operand)} {xs : List (Nat × AV)}, Parts s.fr ps xs →
    (∀ j : Nat, (xs[j]?).isSome = ((ps.map fun q => (q.1, a.eval q.2))[j]?).isSome) ∧ (∀ (j k k' : Nat) (x : AV) (v : Value), xs[j]? = some (k, x) → (ps.map fun q => (q.1, a.eval q.2))[j]? = some (k', v) → k = k' ∧ relL F w x.cs v.cells.toList)
  | _, _, .nil => by simp
  | _, _, .cons h hsc hs => by
    obtain ⟨h1, h2⟩ := partsOf_spec hr hs
    refine ⟨fun j => ?_, fun j k k' y v hy hv => ?_⟩
    · cases j with
      | zero => simp
      | succ j => simpa using h1 j
    · cases j with
      | zero =>
        simp at hy hv
        obtain ⟨rfl, rfl⟩ := hy
        obtain ⟨rfl, rfl⟩ := hv
        exact ⟨rfl, (rel_cells hsc (Ev.rel hr h)).1⟩
      | succ j => exact h2 j k k' y v (by simpa using hy) (by simpa using hv)

structure Builds (P : Program) (T : TypeId) (zs : List AV) (pl : Nat → Option (Nat × Nat)) : Prop where
  zero : zeroOf P T = some zs
  places : placesOf P T = some pl

theorem Run.build {ps : Array (Nat × Operand)} {xs : List (Nat × AV)} {zs out : List AV} {pl : Nat → Option (Nat × Nat)} (hi : ops[i]? = some ⟨some d, .build U ps, T, pos, aft, g⟩) (hw : want ops s.fr ⟨some d, .build U ps, T, pos, aft, g⟩ = some true) (hdn : Nat.blt d n = true)
    (hT : Builds P U zs pl) (hp : Parts s.fr ps.toList xs) (hf : fillA pl zs xs = some out) (k : Run C ops l Q (s.put d (.agg out))) : Run C ops (i :: l) Q s :=
  Run.pure hi rfl hdn hw (fun F a w hr => by
    obtain ⟨z, _, hz, hzl⟩ := zeroOf_spec hT.zero
    obtain ⟨h1, h2⟩ := partsOf_spec hr hp
    obtain ⟨vout, hfill, hrel⟩ := fill_rel h1 h2 (hzl F w) hf
    refine ⟨.agg vout, ?_, by simp only [rel]; exact ⟨_, rfl, hrel⟩⟩
    have hb : P.built U (ps.map fun q => (q.1, a.eval q.2)).toList = some vout := by
      have hpl := hT.places
      unfold placesOf at hpl
      unfold Program.built
      cases hi : P.info? U with
      | none => simp [hi] at hz
      | some it =>
        simp only [hi, Option.bind_some] at hz
        split at hpl
        · rename_i m e hu
          split at hpl
          · rename_i ie hie
            cases hpl
            simp only [hu, hz, hie, Array.toList_map]
            exact hfill
          · cases hpl
        · rename_i fs hu
          split at hpl
          · rename_i pls hpls
            cases hpl
            simp only [hu, hz, hpls, Array.toList_map]
            exact hfill
          · cases hpl
        · cases hpl
    have := run_build (P := P) w U (ps.map fun q => (q.1, a.eval q.2)) vout hb
    simp only [execOp, Sem.run_bind, this, Result.andThen_ok, Sem.run_pure]) k
end ops
end
end Go.Ab
