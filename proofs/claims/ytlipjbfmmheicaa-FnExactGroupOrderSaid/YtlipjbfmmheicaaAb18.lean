/- Maps with keys of integers or arrays of integers; equality of arrays; a slice of a snapshot's array; a slice as an array; append of a make; max, min, cap. -/
import Derived.Test.YtlipjbfmmheicaaAb17
import Derived.DeepKeys3
namespace Go.Ab
open Go.RowKit (Below)
section
variable {P : Program} {n : Nat} {C : Cx P n} {Q : Post} {s : St}

/-! ### equality of integers and of arrays of them -/
def Ds.cells : Ds → Nat
  | .int _ => 1
  | .arr n m _ => n * m
  | .sl .. => 1
def Ds.depth : Ds → Nat
  | .int _ => 1
  | .arr _ _ d => d.depth + 1
  | .sl .. => 1
/-- A type of i64 integers, or of arrays of such. -/
def keyB (P : Program) : Ds → TypeId → Bool
  | .int _, t => match P.underlying t with
    | some (.int .i64) => true
    | _ => false
  | .arr n m d, t => match P.underlying t with
    | some (.array n' e) => n' == n && P.cellsOf e == m && (P.info? e).isSome && d.cells == m && keyB P d e
    | _ => false
  | .sl .., _ => false
def Ds.value : Ds → List Int → Value
  | .arr .., l => .agg (l.map (.int .i64)).toArray
  | _, l => .int .i64 (l.getD 0 0)
def Ds.key : Ds → List Int → AV
  | .arr .., l => .agg (l.map (.int .i64))
  | _, l => .int .i64 (l.getD 0 0)

theorem run_part_ints (w : World) {d : Ds} {e : TypeId} (hk : keyB P d e = true) (hi : (P.info? e).isSome = true) (hc : P.cellsOf e = d.cells) {l : List Int} {off : Nat} (h : off + d.cells ≤ l.length) :
    (part e (l.map (Value.int .i64)).toArray off).run P w = .ok (d.value ((l.drop off).take d.cells)) w := by
  obtain ⟨i, hi⟩ := Option.isSome_iff_exists.1 hi
  cases d with
  | int k =>
    unfold keyB at hk
    split at hk
    · rename_i hu
      have hx : (l.map (Value.int .i64)).toArray[off]? = some (.int .i64 ((l.drop off).getD 0 0)) := by
        simp only [Ds.cells] at h
        have hlt : off < l.length := by omega
        simp [hlt]
      rw [run_part_plain w (by simp [Program.plainKey, hu]) hx]
      simp only [Ds.value, Ds.cells]
      congr 2
      simp only [Ds.cells] at h
      cases hd : l.drop off with
      | nil => rfl
      | cons a r => rfl
    · cases hk
  | arr n m d =>
    unfold keyB at hk
    split at hk
    · rename_i n' e' hu
      simp only [part, Sem.run_bind, isAgg, run_underlying hu, Sem.run_pure, Result.andThen_ok, if_true, run_sizeOf w hi, hc, Ds.value, Ds.cells]
      congr 2
      apply Array.ext'
      rw [Array.toList_extract]
      simp [List.extract, List.map_drop, List.map_take]
    · cases hk
  | sl m d => unfold keyB at hk; cases hk

theorem all_chunks {m : Nat} : ∀ {n : Nat} {l1 l2 : List Int}, l1.length = n * m → l2.length = n * m → ((List.range n).all fun i => decide ((l1.drop (i * m)).take m = (l2.drop (i * m)).take m)) = decide (l1 = l2)
  | 0, l1, l2, h1, h2 => by
    rw [Nat.zero_mul] at h1 h2
    rw [List.length_eq_zero_iff.1 h1, List.length_eq_zero_iff.1 h2]
    simp
  | n + 1, l1, l2, h1, h2 => by
    rw [List.range_succ_eq_map, List.all_cons, List.all_map]
    have ih := all_chunks (m := m) (n := n) (l1 := l1.drop m) (l2 := l2.drop m) (by rw [List.length_drop, h1, Nat.add_mul]; omega) (by rw [List.length_drop, h2, Nat.add_mul]; omega)
    have e : ((List.range n).all ((fun i => decide ((l1.drop (i * m)).take m = (l2.drop (i * m)).take m)) ∘ Nat.succ)) = decide (l1.drop m = l2.drop m) := by
      rw [← ih]
      congr 1
      funext i
      simp only [Function.comp, List.drop_drop, Nat.succ_eq_add_one, Nat.add_mul, Nat.one_mul]
      rw [Nat.add_comm]
    rw [e]
    simp only [Nat.zero_mul, List.drop_zero]
    rw [Bool.eq_iff_iff]
    simp only [Bool.and_eq_true, decide_eq_true_eq]
    constructor
    · rintro ⟨h3, h4⟩
      rw [← List.take_append_drop m l1, ← List.take_append_drop m l2, h3, h4]
    · rintro rfl
      exact ⟨rfl, rfl⟩

theorem run_eqInts : ∀ (d : Ds) (t : TypeId) (fuel : Nat) (w : World) (l1 l2 : List Int), keyB P d t = true → d.depth ≤ fuel → l1.length = d.cells → l2.length = d.cells →
    (Op.equalIn fuel t (d.value l1) (d.value l2)).run P w = .ok (decide (l1 = l2)) w
  | .int k, t, fuel, w, l1, l2, hk, hf, h1, h2 => by
    unfold keyB at hk
    split at hk
    · rename_i hu
      obtain ⟨f, rfl⟩ : ∃ f, fuel = f + 1 := ⟨fuel - 1, by simp only [Ds.depth] at hf; omega⟩
      simp only [Ds.cells] at h1 h2
      match l1, l2, h1, h2 with
      | [a], [b], _, _ =>
        simp only [Ds.value]
        have := run_equalIn_int (P := P) w f t .i64 .i64 a b hu
        simp only [List.getD_cons_zero]
        rw [this]
        congr 1
        rw [Bool.eq_iff_iff]
        simp
    · cases hk
  | .arr n m d, t, fuel, w, l1, l2, hk, hf, h1, h2 => by
    unfold keyB at hk
    split at hk
    · rename_i n' e hu
      simp only [Bool.and_eq_true, beq_iff_eq] at hk
      obtain ⟨⟨⟨⟨rfl, hc⟩, hi⟩, hdc⟩, hk⟩ := hk
      obtain ⟨f, rfl⟩ : ∃ f, fuel = f + 1 := ⟨fuel - 1, by simp only [Ds.depth] at hf; omega⟩
      obtain ⟨i, hi'⟩ := Option.isSome_iff_exists.1 hi
      simp only [Ds.value, Ds.cells, Ds.depth] at h1 h2 hf ⊢
      rw [run_equalIn_array w f _ _ hu hi', ← all_chunks h1 h2, hc]
      have hle : ∀ j ∈ List.range n', j * m + m ≤ n' * m := by
        intro j hj
        have := Nat.mul_le_mul_right m (show j + 1 ≤ n' by have := List.mem_range.1 hj; omega)
        rw [Nat.add_mul, Nat.one_mul] at this
        exact this
      generalize List.range n' = is at hle
      induction is with
      | nil => simp [Op.eqItems]
      | cons j is ih =>
        have hj := hle j (by simp)
        have p1 := run_part_ints w hk hi (hc.trans hdc.symm) (l := l1) (off := j * m) (by rw [hdc]; omega)
        have p2 := run_part_ints w hk hi (hc.trans hdc.symm) (l := l2) (off := j * m) (by rw [hdc]; omega)
        have p3 := run_eqInts d e f w ((l1.drop (j * m)).take m) ((l2.drop (j * m)).take m) hk (by omega) (by rw [List.length_take, List.length_drop, hdc]; omega) (by rw [List.length_take, List.length_drop, hdc]; omega)
        rw [hdc] at p1 p2
        simp only [Op.eqItems, Sem.run_bind, p1, p2, p3, Result.andThen_ok, List.all_cons]
        cases hb : decide ((l1.drop (j * m)).take m = (l2.drop (j * m)).take m) with
        | false => simp
        | true => simpa using ih fun y hy => hle y (by simp [hy])
    · cases hk
  | .sl .., _, _, _, _, _, hk, _, _, _ => by unfold keyB at hk; cases hk

theorem run_checkInts (em : Bool) : ∀ (d : Ds) (t : TypeId) (fuel : Nat) (w : World) (l : List Int), keyB P d t = true → d.depth ≤ fuel → l.length = d.cells → (Instr.checkKey em fuel t (d.value l)).run P w = .ok () w
  | .int k, t, fuel, w, l, hk, hf, h1 => by
    unfold keyB at hk
    split at hk
    · rename_i hu
      obtain ⟨f, rfl⟩ : ∃ f, fuel = f + 1 := ⟨fuel - 1, by simp only [Ds.depth] at hf; omega⟩
      simp [Instr.checkKey, run_underlying hu, Ds.value]
    · cases hk
  | .arr n m d, t, fuel, w, l, hk, hf, h1 => by
    unfold keyB at hk
    split at hk
    · rename_i n' e hu
      simp only [Bool.and_eq_true, beq_iff_eq] at hk
      obtain ⟨⟨⟨⟨rfl, hc⟩, hi⟩, hdc⟩, hk⟩ := hk
      obtain ⟨f, rfl⟩ : ∃ f, fuel = f + 1 := ⟨fuel - 1, by simp only [Ds.depth] at hf; omega⟩
      obtain ⟨i, hi'⟩ := Option.isSome_iff_exists.1 hi
      simp only [Ds.value, Ds.cells, Ds.depth] at h1 hf ⊢
      rw [Instr.checkKey]
      simp only [Sem.run_bind, run_underlying hu, Result.andThen_ok]
      simp only [Std.Legacy.Range.forIn_eq_forIn_range', Std.Legacy.Range.size, Nat.sub_zero, Nat.add_one_sub_one, Nat.div_one]
      have hle : ∀ j ∈ List.range' 0 n', j * m + m ≤ n' * m := by
        intro j hj
        rw [← List.range_eq_range'] at hj
        have := Nat.mul_le_mul_right m (show j + 1 ≤ n' by have := List.mem_range.1 hj; omega)
        rw [Nat.add_mul, Nat.one_mul] at this
        exact this
      generalize List.range' 0 n' = is at hle
      induction is with
      | nil => simp
      | cons j is ih =>
        have hj := hle j (by simp)
        have p1 := run_part_ints w hk hi (hc.trans hdc.symm) (l := l) (off := j * m) (by rw [hdc]; omega)
        have p2 := run_checkInts em d e f w ((l.drop (j * m)).take m) hk (by omega) (by rw [List.length_take, List.length_drop, hdc]; omega)
        rw [hdc] at p1
        simp only [List.forIn_cons, Sem.run_bind, run_sizeOf w hi', hc, Result.andThen_ok, p1, p2, Sem.run_pure]
        exact ih fun y hy => hle y (by simp [hy])
    · cases hk
  | .sl .., _, _, _, _, hk, _, _ => by unfold keyB at hk; cases hk

theorem key_value {F : Nat → Prop} {w : World} {d : Ds} {l : List Int} {v : Value} (h : rel F w (d.key l) v) : v = d.value l := by
  have ints : ∀ {l : List Int} {vs : List Value}, relL F w (l.map (.int .i64)) vs → vs = l.map (.int .i64) := by
    intro l
    induction l with
    | nil => intro vs h; simpa [relL] using h
    | cons a l ih => intro vs h; simp only [List.map_cons, relL] at h; obtain ⟨v, r, rfl, h1, h2⟩ := h; simp only [rel] at h1; rw [h1, ih h2]; rfl
  cases d <;> simp only [Ds.key, rel] at h <;> simp only [Ds.value]
  · exact h
  · obtain ⟨vs, rfl, hl⟩ := h
    rw [← ints hl]
  · exact h
theorem key_rel {F : Nat → Prop} {w : World} (d : Ds) (l : List Int) : rel F w (d.key l) (d.value l) := by
  have ints : ∀ {l : List Int}, relL F w (l.map (.int .i64)) (l.map (.int .i64)) := by
    intro l
    induction l with
    | nil => simp [relL]
    | cons a l ih => simp only [List.map_cons, relL]; exact ⟨_, _, rfl, by simp [rel], ih⟩
  cases d <;> simp only [Ds.key, Ds.value, rel]
  exact ⟨_, rfl, by simpa using ints⟩

section ops
variable {ops : Array Oper} {i : Nat} {l : List Nat} {d : Nat} {T U : TypeId} {pos : String} {aft : Array Edge} {g : Option (Nat × Bool)}

def eqB (P : Program) (k : Ds) (U : TypeId) : Bool := keyB P k U && !P.eqGuardType P.depth U && Nat.ble k.depth 10000 && (match k with | .arr .. => true | _ => false)
theorem run_eqA (w : World) {k : Ds} (hk : eqB P k U = true) {op : BinOp} {x y : Operand} {l1 l2 : List Int} (h1 : l1.length = k.cells) (h2 : l2.length = k.cells) :
    (eqGuard op U x y (k.value l1) (k.value l2)).run P w = .ok () w ∧ (Op.equalIn 10000 U (k.value l1) (k.value l2)).run P w = .ok (decide (l1 = l2)) w ∧ ∃ xs ys, k.value l1 = .agg xs ∧ k.value l2 = .agg ys := by
  simp only [eqB, Bool.and_eq_true, Bool.not_eq_true'] at hk
  obtain ⟨⟨⟨hk, hg⟩, hd⟩, hs⟩ := hk
  have hr := run_eqInts k U 10000 w l1 l2 hk (Nat.le_of_ble_eq_true hd) h1 h2
  cases k with
  | int k => cases hs
  | sl m k => cases hs
  | arr n m k => exact ⟨run_eqGuard_agg w op U x y _ _ hg, hr, _, _, rfl, rfl⟩
theorem Run.eqlA {V : TypeId} {x y : Operand} (k : Ds) (l1 l2 : List Int) (hi : ops[i]? = some ⟨some d, .binOp .eql U x y V, T, pos, aft, g⟩) (hw : want ops s.fr ⟨some d, .binOp .eql U x y V, T, pos, aft, g⟩ = some true) (hdn : Nat.blt d n = true)
    (hx : Ev s.fr x (k.key l1)) (hy : Ev s.fr y (k.key l2)) (hk : eqB P k U = true) (h1 : l1.length = k.cells) (h2 : l2.length = k.cells) (kk : Run C ops l Q (s.put d (.bool (decide (l1 = l2))))) : Run C ops (i :: l) Q s :=
  Run.bin hi hw hdn hx hy (fun F w u v hu hv => by
    rw [key_value hu, key_value hv]
    obtain ⟨e1, e2, xs, ys, e3, e4⟩ := run_eqA w hk (op := .eql) (x := x) (y := y) h1 h2
    refine ⟨.bool (decide (l1 = l2)), ?_, by simp only [rel]⟩
    simp only [Sem.run_bind, e1, Result.andThen_ok]
    rw [e3, e4, run_eql_struct w]
    rw [e3, e4] at e2
    simp only [e2, Result.andThen_ok]) kk
theorem Run.neqA {V : TypeId} {x y : Operand} (k : Ds) (l1 l2 : List Int) (hi : ops[i]? = some ⟨some d, .binOp .neq U x y V, T, pos, aft, g⟩) (hw : want ops s.fr ⟨some d, .binOp .neq U x y V, T, pos, aft, g⟩ = some true) (hdn : Nat.blt d n = true)
    (hx : Ev s.fr x (k.key l1)) (hy : Ev s.fr y (k.key l2)) (hk : eqB P k U = true) (h1 : l1.length = k.cells) (h2 : l2.length = k.cells) (kk : Run C ops l Q (s.put d (.bool (!decide (l1 = l2))))) : Run C ops (i :: l) Q s :=
  Run.bin hi hw hdn hx hy (fun F w u v hu hv => by
    rw [key_value hu, key_value hv]
    obtain ⟨e1, e2, xs, ys, e3, e4⟩ := run_eqA w hk (op := .neq) (x := x) (y := y) h1 h2
    refine ⟨.bool (!decide (l1 = l2)), ?_, by simp only [rel]⟩
    simp only [Sem.run_bind, e1, Result.andThen_ok]
    rw [e3, e4, run_neq_struct w]
    rw [e3, e4] at e2
    simp only [e2, Result.andThen_ok]) kk

/-! ### maps -/
/-- The entries of a map, by their keys. -/
def mapC (k : Ds) (ents : List (List Int × AV)) : List AV := ents.map fun e => .tup [k.key e.1, e.2]
theorem mapC_rel {F : Nat → Prop} {w : World} {k : Ds} : ∀ {ents : List (List Int × AV)} {es : List MapEntry}, relL F w (mapC k ents) (es.map fun e => .tuple #[e.key, e.val]) →
    es.length = ents.length ∧ ∀ (j : Nat) (e : List Int × AV), ents[j]? = some e → ∃ m, es[j]? = some m ∧ m.key = k.value e.1 ∧ rel F w e.2 m.val
  | [], es, h => by
    simp only [mapC, List.map_nil, relL] at h
    have : es = [] := by simpa using h
    subst this
    exact ⟨rfl, fun j e h => by simp at h⟩
  | e :: ents, es, h => by
    simp only [mapC, List.map_cons, relL] at h
    obtain ⟨v, r, h1, h2, h3⟩ := h
    cases es with
    | nil => simp at h1
    | cons m es =>
      simp only [List.map_cons, List.cons.injEq] at h1
      obtain ⟨rfl, rfl⟩ := h1
      obtain ⟨h4, h5⟩ := mapC_rel (ents := ents) (es := es) h3
      refine ⟨by simp [h4], fun j e' he => ?_⟩
      cases j with
      | zero =>
        simp at he
        subst he
        refine ⟨m, rfl, ?_⟩
        simp only [rel] at h2
        obtain ⟨vs, hv, hl⟩ := h2
        cases hv
        simp only [relL] at hl
        obtain ⟨v1, r1, e1, k1, v2, r2, e2, k2, rfl⟩ := hl
        simp only [List.cons.injEq] at e1 e2
        obtain ⟨rfl, rfl⟩ := e1
        simp only [List.cons.injEq] at e2
        obtain ⟨rfl, _⟩ := e2
        exact ⟨key_value k1, k2⟩
      | succ j => simpa using h5 j e' (by simpa using he)

def mapB (P : Program) (k : Ds) (U : TypeId) : Bool := match P.underlying U with
  | some (.map kt _) => keyB P k kt && Nat.ble k.depth 10000 && (match k with | .arr .. => true | _ => false)
  | _ => false

theorem findAsking_spec (w : World) {k : Ds} {kt : TypeId} (hk : keyB P k kt = true) (hd : k.depth ≤ 10000) {key : List Int} (hl : key.length = k.cells) : ∀ {ents : List (List Int × AV)} {es : List MapEntry} (j0 : Nat), es.length = ents.length →
    (∀ e ∈ ents, e.1.length = k.cells) → (∀ (j : Nat) (e : List Int × AV), ents[j]? = some e → ∃ m, es[j]? = some m ∧ m.key = k.value e.1) →
    (ents.find? (fun e => e.1 == key) = none ∧ (Instr.findAsking kt (k.value key) es j0).run P w = .ok none w) ∨
    ∃ j e m, ents.find? (fun e => e.1 == key) = some e ∧ ents[j]? = some e ∧ es[j]? = some m ∧ (Instr.findAsking kt (k.value key) es j0).run P w = .ok (some (j0 + j, m.val)) w
  | [], [], j0, _, _, _ => .inl ⟨rfl, by simp [Instr.findAsking]⟩
  | e :: ents, m :: es, j0, hlen, hall, hs => by
    obtain ⟨m', hm, hkey⟩ := hs 0 e rfl
    simp at hm
    subst hm
    have hq : (Op.equal kt (k.value key) m.key).run P w = .ok (decide (key = e.1)) w := by
      rw [hkey]
      exact run_eqInts k kt 10000 w key e.1 hk hd hl (hall e (by simp))
    by_cases he : key = e.1
    · refine .inr ⟨0, e, m, by simp [he], rfl, rfl, ?_⟩
      simp only [Instr.findAsking, Sem.run_bind, hq, Result.andThen_ok]
      simp [he]
    · have hne : (e.1 == key) = false := by simpa using Ne.symm he
      have ih := findAsking_spec w hk hd hl (ents := ents) (es := es) (j0 + 1) (by simpa using hlen) (fun x hx => hall x (by simp [hx])) (fun j x hx => by simpa using hs (j + 1) x (by simpa using hx))
      rcases ih with ⟨h1, h2⟩ | ⟨j, x, m2, h1, h2, h3, h4⟩
      · exact .inl ⟨by rw [List.find?_cons, hne]; exact h1, by simp only [Instr.findAsking, Sem.run_bind, hq, Result.andThen_ok, he, decide_false, Bool.false_eq_true, if_false]; exact h2⟩
      · refine .inr ⟨j + 1, x, m2, by rw [List.find?_cons, hne]; exact h1, by simpa using h2, by simpa using h3, ?_⟩
        simp only [Instr.findAsking, Sem.run_bind, hq, Result.andThen_ok, he, decide_false, Bool.false_eq_true, if_false]
        rw [h4, show j0 + 1 + j = j0 + (j + 1) by omega]
  | [], _ :: _, _, h, _, _ => by simp at h
  | _ :: _, [], _, h, _, _ => by simp at h
theorem findKey_spec (w : World) {k : Ds} (hB : mapB P k U = true) {key : List Int} (hl : key.length = k.cells) {ents : List (List Int × AV)} {es : List MapEntry} (hlen : es.length = ents.length)
    (hall : ∀ e ∈ ents, e.1.length = k.cells) (hs : ∀ (j : Nat) (e : List Int × AV), ents[j]? = some e → ∃ m, es[j]? = some m ∧ m.key = k.value e.1) :
    ∃ kt et, P.underlying U = some (.map kt et) ∧ (∀ em, (Instr.checkKey em 10000 kt (k.value key)).run P w = .ok () w) ∧
    ((ents.find? (fun e => e.1 == key) = none ∧ (Instr.findKey kt (k.value key) es).run P w = .ok none w) ∨
    ∃ j e m, ents.find? (fun e => e.1 == key) = some e ∧ ents[j]? = some e ∧ es[j]? = some m ∧ (Instr.findKey kt (k.value key) es).run P w = .ok (some (j, m.val)) w) := by
  unfold mapB at hB
  split at hB
  · rename_i kt et hu
    simp only [Bool.and_eq_true] at hB
    obtain ⟨⟨hk, hd⟩, hs'⟩ := hB
    have hd := Nat.le_of_ble_eq_true hd
    refine ⟨kt, et, hu, fun em => run_checkInts em k kt 10000 w key hk hd hl, ?_⟩
    obtain ⟨td, htd⟩ : ∃ td, P.underlying kt = some td := by
      cases k <;> unfold keyB at hk <;> first | cases hk; done | (split at hk <;> first | exact ⟨_, ‹_›⟩ | cases hk)
    have hnow : ∀ (m : MapEntry) (ms : List MapEntry), Instr.findNow td (k.value key) (m :: ms) 0 = none := by
      intro m ms
      cases k with
      | arr nn mm kk =>
        unfold keyB at hk
        split at hk
        · rename_i n' e' hu'
          rw [htd] at hu'
          cases hu'
          simp [Instr.findNow, Instr.sameNow, Ds.value]
        · cases hk
      | _ => cases hs'
    have hfk : es ≠ [] → (Instr.findKey kt (k.value key) es).run P w = (Instr.findAsking kt (k.value key) es 0).run P w := by
      intro hne
      match es, hne with
      | m :: ms, _ =>
        simp only [Instr.findKey, Sem.run_bind, run_underlying htd, Result.andThen_ok, hnow]
    cases hes : es with
    | nil =>
      subst hes
      have : ents = [] := List.length_eq_zero_iff.1 (by simpa using hlen.symm)
      subst this
      exact .inl ⟨rfl, by simp [Instr.findKey, run_underlying htd, Instr.findNow]⟩
    | cons m ms =>
      have hne : es ≠ [] := by rw [hes]; simp
      rw [← hes, hfk hne]
      have := findAsking_spec w hk hd hl (ents := ents) (es := es) 0 hlen hall hs
      simpa using this
  · cases hB

/-- A map of the call's own is looked into. -/
def lookA (ents : List (List Int × AV)) (key : List Int) (z : AV) : AV := match ents.find? (fun e => e.1 == key) with
  | some e => e.2
  | none => z
def zeroA (P : Program) (U : TypeId) : Option Value := match P.underlying U with
  | some (.map _ e) => match P.info? e with
    | some i => i.zero
    | none => none
  | _ => none
theorem Run.lookup {x y : Operand} (k : Ds) (key : List Int) (ents : List (List Int × AV)) {id b : Nat} {z : AV} {zv : Value} (hi : ops[i]? = some ⟨some d, .lookup U x y false, T, pos, aft, g⟩) (hw : want ops s.fr ⟨some d, .lookup U x y false, T, pos, aft, g⟩ = some true) (hdn : Nat.blt d n = true)
    (hx : Ev s.fr x (.mp id b)) (hh : s.hp[id]? = some [(b, .mark :: mapC k ents)]) (hy : Ev s.fr y (k.key key)) (hB : mapB P k U = true) (hl : key.length = k.cells) (hall : ∀ e ∈ ents, e.1.length = k.cells)
    (hz : zeroA P U = some zv) (hzv : konst zv = some z) (kk : Run C ops l Q (s.put d (lookA ents key z))) : Run C ops (i :: l) Q s :=
  Run.pure hi rfl hdn hw (fun F a w hr => by
    have h1 := Ev.rel hr hx
    have h2 := key_value (Ev.rel hr hy)
    simp only [rel] at h1
    obtain ⟨es, c, hm, hrel⟩ := (hr.sat.live (At.one hh)).2.2.map
    obtain ⟨hlen, hs⟩ := mapC_rel hrel
    obtain ⟨kt, et, hu, hck, hf⟩ := findKey_spec w hB hl (es := es.toList) hlen hall (fun j e he => let ⟨m, h3, h4, _⟩ := hs j e he; ⟨m, h3, h4⟩)
    have hzr : (zeroValue et).run P w = .ok zv w := by
      unfold zeroA at hz
      rw [hu] at hz
      simp only at hz
      split at hz
      · rename_i inf hinf
        simp [zeroValue, typeInfo, hinf, hz]
      · cases hz
    rcases hf with ⟨hn, hf⟩ | ⟨j, e, m, hs1, hs2, hs3, hf⟩
    · refine ⟨zv, ?_, by unfold lookA; rw [hn]; exact konst_rel hzv⟩
      simp only [execOp, Sem.run_bind, h1, h2, Instr.lookup, run_underlying hu, Result.andThen_ok, MapKept.run_getObj_map hm, Sem.run_pure, hck, hf, hzr, Bool.false_eq_true, if_false]
    · obtain ⟨m', hm', _, hv⟩ := hs j e hs2
      rw [hs3] at hm'
      cases hm'
      refine ⟨m.val, ?_, by unfold lookA; rw [hs1]; exact hv⟩
      simp only [execOp, Sem.run_bind, h1, h2, Instr.lookup, run_underlying hu, Result.andThen_ok, MapKept.run_getObj_map hm, Sem.run_pure, hck, hf, Bool.false_eq_true, if_false]) kk

theorem R.allocMap {F : Nat → Prop} {a : Act} {w : World} (hr : R C F s a w) (id : Nat) : R C F ⟨s.fr, s.hp.set id (.cells w.heap.size [.mark])⟩ a (w.alloc (.map #[] 0)) := by
  have hold : ∀ k, k < w.heap.size → (w.alloc (.map #[] 0)).heap[k]? = w.heap[k]? := fun k hk => Go.RowKit.Below.heap_alloc _ _ _ hk
  have hnew : (w.alloc (.map #[] 0)).heap[w.heap.size]? = some (.map #[] 0) := (MapKept.heap_alloc w _).1
  have hk : Later F w (w.alloc (.map #[] 0)) := ⟨fun k hF => hold k (hr.sat.old k hF), fun k arr' e' fz' hh => ⟨arr', e', fz', (hold k (lt_of_heap hh)).trans hh, rfl⟩⟩
  have hlive : ∀ {i p k : Nat} {ds : List AV}, At s.hp i p k ds → k < w.heap.size := fun h => (hr.sat.live h).2.2.lt
  have back : ∀ {i p k : Nat} {ds : List AV}, At (s.hp.set id [(w.heap.size, [.mark])]) i p k ds → (i = id ∧ p = 0 ∧ k = w.heap.size ∧ ds = [.mark]) ∨ At s.hp i p k ds := by
    intro i p k ds h
    rcases h.set with ⟨rfl, h'⟩ | ⟨_, h'⟩
    · cases p with
      | zero => simp at h'; exact .inl ⟨rfl, rfl, h'.1.symm, h'.2.symm⟩
      | succ p => simp at h'
    · exact .inr h'
  refine ⟨hr.size, hr.defers, fun t x hx => rel_mono (fun _ h => h) hk _ _ (hr.fr t x hx), ⟨fun k hF => by have := hr.sat.old k hF; simp; omega, fun hx => ?_, fun hx hy => ?_⟩, hr.os, hr.tape, hr.output, by simp; exact Nat.le_succ_of_le hr.hsize,
    fun k hlt hW => (hold k (Nat.lt_of_lt_of_le hlt hr.hsize)).trans (hr.block k hlt hW), hr.F0, hr.F1, hr.elder.trans hk.size⟩
  · rcases back hx with ⟨_, _, rfl, rfl⟩ | hx
    · exact ⟨.inr hr.hsize, fun hF => absurd (hr.sat.old _ hF) (Nat.lt_irrefl _), .inr ⟨_, _, [], hnew, rfl, by simp [relL]⟩⟩
    · obtain ⟨h1, h2, h3⟩ := hr.sat.live hx
      exact ⟨h1, h2, h3.mono (fun _ h => h) hk (hold _ h3.lt)⟩
  · rcases back hx with ⟨h3, h4, h1, _⟩ | hx' <;> rcases back hy with ⟨h5, h6, h2, _⟩ | hy'
    · exact ⟨h3.trans h5.symm, h4.trans h6.symm⟩
    · have := hlive hy'; omega
    · have := hlive hx'; omega
    · exact hr.sat.inj hx' hy'
theorem Run.makeMap (id : Nat) (hi : ops[i]? = some ⟨some d, .makeMap U none, T, pos, aft, g⟩) (hw : want ops s.fr ⟨some d, .makeMap U none, T, pos, aft, g⟩ = some true) (hdn : Nat.blt d n = true)
    (k : ∀ b, Run C ops l Q ⟨(d, .mp id b) :: s.fr, s.hp.set id [(b, [.mark])]⟩) : Run C ops (i :: l) Q s :=
  Run.step hi hw fun F a w hr =>
    ⟨.map (some w.heap.size), w.alloc (.map #[] 0), F, _, by simp [execOp, Instr.makeMap], (hr.allocMap id).put hdn (by simp only [rel]), k w.heap.size⟩

/-- An object takes other entries. -/
theorem R.setMap {F : Nat → Prop} {a : Act} {w w' : World} (hr : R C F s a w) {id b : Nat} {cs cs' : List AV} {es : Array MapEntry} {c : Nat} (hh : s.hp[id]? = some [(b, cs)]) (hm : w.heap[b]? = some (.map es c)) {es' : Array MapEntry} {c' : Nat}
    (hw : w' = { w with heap := w.heap.setIfInBounds b (.map es' c') }) {r : List AV} (hc : cs' = .mark :: r) (hrel : relL F w r (es'.toList.map fun e => .tuple #[e.key, e.val])) : R C F ⟨s.fr, s.hp.set id [(b, cs')]⟩ a w' := by
  obtain ⟨hok, hnF, _⟩ := hr.sat.live (At.one hh)
  obtain ⟨hnew, hne⟩ := MapKept.heap_set (o' := .map es' c') hm
  have hb : ∀ k, k ≠ b → w'.heap[k]? = w.heap[k]? := fun k hk => by rw [hw]; exact hne k hk
  have hk : Later F w w' := ⟨fun k hF => hb k (fun h => hnF (h ▸ hF)), fun k arr e fz h => ⟨arr, e, fz, (hb k (fun he => by subst he; rw [hm] at h; cases h)).trans h, rfl⟩⟩
  have back : ∀ {i p k : Nat} {ds : List AV}, At (s.hp.set id [(b, cs')]) i p k ds → (i = id ∧ p = 0 ∧ k = b ∧ ds = cs') ∨ (i ≠ id ∧ At s.hp i p k ds) := by
    intro i p k ds h
    rcases h.set with ⟨rfl, h'⟩ | ⟨hi, h'⟩
    · cases p with
      | zero => simp at h'; exact .inl ⟨rfl, rfl, h'.1.symm, h'.2.symm⟩
      | succ p => simp at h'
    · exact .inr ⟨hi, h'⟩
  have hsize : w'.heap.size = w.heap.size := by rw [hw]; simp
  have hdiff : ∀ {i p k : Nat} {ds : List AV}, i ≠ id → At s.hp i p k ds → k ≠ b := fun hi h he => by subst he; exact hi (hr.sat.inj h (At.one hh)).1
  refine ⟨hr.size, hr.defers, fun t x hx => rel_mono (fun _ h => h) hk _ _ (hr.fr t x hx), ⟨fun k hF => by rw [hsize]; exact hr.sat.old k hF, fun hx => ?_, fun hx hy => ?_⟩, by rw [hw]; exact hr.os, by rw [hw]; exact hr.tape, by rw [hw]; exact hr.output, by rw [hsize]; exact hr.hsize,
    fun k hlt hW => (hb k (fun he => ?_)).trans (hr.block k hlt hW), hr.F0, hr.F1, hr.elder.trans hk.size⟩
  · rcases back hx with ⟨_, _, rfl, rfl⟩ | ⟨hi, hx⟩
    · exact ⟨hok, hnF, .inr ⟨es', c', r, by rw [hw]; exact hnew, hc, relL_mono (fun _ h => h) hk _ _ hrel⟩⟩
    · obtain ⟨h1, h2, h3⟩ := hr.sat.live hx
      exact ⟨h1, h2, h3.mono (fun _ h => h) hk (hb _ (hdiff hi hx))⟩
  · rcases back hx with ⟨h3, h4, h1, _⟩ | ⟨hi, hx'⟩ <;> rcases back hy with ⟨h5, h6, h2, _⟩ | ⟨hj, hy'⟩
    · exact ⟨h3.trans h5.symm, h4.trans h6.symm⟩
    · subst h1; exact absurd rfl (hdiff hj hy')
    · subst h2; exact absurd rfl (hdiff hi hx')
    · exact hr.sat.inj hx' hy'
  · subst he
    rcases hok with h | h
    · exact hW h
    · omega

theorem insert_run {F : Nat → Prop} {a : Act} {w : World} (hr : R C F s a w) {x y v : Operand} (k : Ds) (key : List Int) (ents : List (List Int × AV)) {id b : Nat} {z : AV}
    (hx : Ev s.fr x (.mp id b)) (hh : s.hp[id]? = some [(b, .mark :: mapC k ents)]) (hy : Ev s.fr y (k.key key)) (hv : Ev s.fr v z) (hB : mapB P k U = true) (hl : key.length = k.cells) (hall : ∀ e ∈ ents, e.1.length = k.cells) (hnew : ents.find? (fun e => e.1 == key) = none) :
    ∃ w', (Instr.mapUpdate U (a.eval x) (a.eval y) (a.eval v)).run P w = .ok () w' ∧ R C F ⟨s.fr, s.hp.set id [(b, .mark :: mapC k (ents ++ [(key, z)]))]⟩ a w' := by
  have h1 := Ev.rel hr hx
  have hyr := Ev.rel hr hy
  have h2 := key_value hyr
  have h3 := Ev.rel hr hv
  simp only [rel] at h1
  obtain ⟨es, c, hm, hrel⟩ := (hr.sat.live (At.one hh)).2.2.map
  obtain ⟨hlen, hs⟩ := mapC_rel hrel
  obtain ⟨kt, et, hu, hck, hf⟩ := findKey_spec w hB hl (es := es.toList) hlen hall (fun j e he => let ⟨m, h3, h4, _⟩ := hs j e he; ⟨m, h3, h4⟩)
  rcases hf with ⟨_, hf⟩ | ⟨j, e, m, hs1, _⟩
  · refine ⟨_, ?_, hr.setMap hh hm rfl rfl (es' := es.push { key := k.value key, val := a.eval v, born := c }) (c' := c + 1) ?_⟩
    · simp only [Instr.mapUpdate, Sem.run_bind, run_underlying hu, Result.andThen_ok, h1, h2, MapKept.run_getObj_map hm, hck, hf, MapKept.run_setObj_map _ hm]
    · unfold mapC
      rw [List.map_append, Array.toList_push, List.map_append]
      refine relL_append hrel ?_
      simp only [List.map_cons, List.map_nil, relL]
      refine ⟨_, [], rfl, ?_, rfl⟩
      simp only [rel]
      refine ⟨_, rfl, ?_⟩
      simp only [relL]
      exact ⟨_, _, rfl, key_rel k key, _, _, rfl, h3, rfl⟩
  · rw [hnew] at hs1
    cases hs1
theorem Run.insert {x y v : Operand} (k : Ds) (key : List Int) (ents : List (List Int × AV)) {id b : Nat} {z : AV} (hi : ops[i]? = some ⟨none, .insert U x y v, T, pos, aft, g⟩) (hw : want ops s.fr ⟨none, .insert U x y v, T, pos, aft, g⟩ = some true)
    (hx : Ev s.fr x (.mp id b)) (hh : s.hp[id]? = some [(b, .mark :: mapC k ents)]) (hy : Ev s.fr y (k.key key)) (hv : Ev s.fr v z) (hB : mapB P k U = true) (hl : key.length = k.cells) (hall : ∀ e ∈ ents, e.1.length = k.cells) (hnew : ents.find? (fun e => e.1 == key) = none)
    (kk : Run C ops l Q ⟨s.fr, s.hp.set id [(b, .mark :: mapC k (ents ++ [(key, z)]))]⟩) : Run C ops (i :: l) Q s :=
  Run.act hi hw (fun F a w hr => by
    obtain ⟨w', h1, h2⟩ := insert_run hr k key ents hx hh hy hv hB hl hall hnew
    exact ⟨w', F, by simp only [execOp, Sem.run_bind, h1, Result.andThen_ok, Sem.run_pure], h2⟩) kk
theorem Run.mapUpdate {x y v : Operand} (k : Ds) (key : List Int) (ents : List (List Int × AV)) {id b : Nat} {z : AV} (hi : ops[i]? = some ⟨none, .mapUpdate U x y v, T, pos, aft, g⟩) (hw : want ops s.fr ⟨none, .mapUpdate U x y v, T, pos, aft, g⟩ = some true)
    (hx : Ev s.fr x (.mp id b)) (hh : s.hp[id]? = some [(b, .mark :: mapC k ents)]) (hy : Ev s.fr y (k.key key)) (hv : Ev s.fr v z) (hB : mapB P k U = true) (hl : key.length = k.cells) (hall : ∀ e ∈ ents, e.1.length = k.cells) (hnew : ents.find? (fun e => e.1 == key) = none)
    (kk : Run C ops l Q ⟨s.fr, s.hp.set id [(b, .mark :: mapC k (ents ++ [(key, z)]))]⟩) : Run C ops (i :: l) Q s :=
  Run.act hi hw (fun F a w hr => by
    obtain ⟨w', h1, h2⟩ := insert_run hr k key ents hx hh hy hv hB hl hall hnew
    exact ⟨w', F, by simp only [execOp, Sem.run_bind, h1, Result.andThen_ok, Sem.run_pure], h2⟩) kk

/-! ### odds and ends -/
/-- a[lo:hi] of a snapshot's array. -/
theorem Run.slice_immarr {x : Operand} {lo hi : Option Operand} {m off len bl bh : Nat} {cs : List AV} (hi' : ops[i]? = some ⟨some d, .slice U x lo hi none, T, pos, aft, g⟩) (hw : want ops s.fr ⟨some d, .slice U x lo hi none, T, pos, aft, g⟩ = some true) (hdn : Nat.blt d n = true)
    (hx : Ev s.fr x (.immAt cs off)) (hT : arB P U len m = true) (hlo : Bnd s.fr lo 0 bl) (hhi : Bnd s.fr hi len bh) (h1 : bl ≤ bh) (h2 : bh ≤ len)
    (k : Run C ops l Q (s.put d (.imm ((cs.drop (off + bl * m)).take ((bh - bl) * m)) (bh - bl)))) : Run C ops (i :: l) Q s :=
  Run.pure hi' rfl hdn hw (fun F a w hr => by
    have h4 := Ev.rel hr hx
    simp only [rel] at h4
    obtain ⟨b, o, arr, e, fz, h4, hF, hheap, hrel⟩ := h4
    have hsl := run_sliceAt_arr hr (ad := ⟨b, o + off, none⟩) hT hlo hhi h1 h2
    refine ⟨_, by simp only [execOp, Sem.run_bind, h4, Option.map_none, hsl, Result.andThen_ok, Sem.run_pure]; rfl, ?_⟩
    simp only [rel]
    refine ⟨_, len - bl, rfl, by omega, fun hpos => ?_⟩
    rw [if_neg (by omega)]
    refine ⟨b, o + (off + bl * m), arr, e, fz, by rw [addr_add, Nat.add_assoc], hF, hheap, ?_⟩
    have h5 := relP_drop (off + bl * m) hrel
    rw [List.drop_drop] at h5
    have tk : ∀ {xs : List AV} {vs : List Value} (q : Nat), relP F w xs vs → relP F w (xs.take q) vs := by
      intro xs
      induction xs with
      | nil => intro vs q h; simp [relP]
      | cons x xs ih =>
        intro vs q h
        cases q with
        | zero => simp [relP]
        | succ q => simp only [relP] at h; obtain ⟨v, r, rfl, h1, h2⟩ := h; simp only [List.take_succ_cons, relP]; exact ⟨v, r, rfl, h1, ih q h2⟩
    exact tk _ h5) k

/-- A slice of the call's own seen as an array. -/
theorem Run.toArr {x : Operand} {id b m off len cap k : Nat} {opn : Bool} (hi : ops[i]? = some ⟨some d, .sliceToArrayPointer U x, T, pos, aft, g⟩) (hw : want ops s.fr ⟨some d, .sliceToArrayPointer U x, T, pos, aft, g⟩ = some true) (hdn : Nat.blt d n = true)
    (hx : Ev s.fr x (.own id b m off len cap opn)) (hT : arB P U k m = true) (hk : k ≤ len) (kk : Run C ops l Q (s.put d (.adr id b off))) : Run C ops (i :: l) Q s :=
  Run.pure hi rfl hdn hw (fun F a w hr => by
    have h1 := Ev.rel hr hx
    simp only [rel] at h1
    obtain ⟨c, he, _, _, arr, e, fz, hh, _⟩ := h1
    obtain ⟨e', hu, _⟩ := arB_spec hT
    refine ⟨.pointer (some ⟨b, off, none⟩), ?_, by simp only [rel]; exact ⟨trivial, arr, e, fz, hh⟩⟩
    simp only [execOp, Sem.run_bind, he, Instr.arrayAt, run_underlying hu, Result.andThen_ok, Nat.not_lt.2 hk, if_false, Sem.run_pure]) kk
theorem Run.toArr_imm {x : Operand} {m len k : Nat} {cs : List AV} (hi : ops[i]? = some ⟨some d, .sliceToArrayPointer U x, T, pos, aft, g⟩) (hw : want ops s.fr ⟨some d, .sliceToArrayPointer U x, T, pos, aft, g⟩ = some true) (hdn : Nat.blt d n = true)
    (hx : Ev s.fr x (.imm cs len)) (hT : arB P U k m = true) (hk : k ≤ len) (h0 : 0 < k) (kk : Run C ops l Q (s.put d (.immAt cs 0))) : Run C ops (i :: l) Q s :=
  Run.pure hi rfl hdn hw (fun F a w hr => by
    have h1 := Ev.rel hr hx
    simp only [rel] at h1
    obtain ⟨ad, c, he, _, hp⟩ := h1
    obtain ⟨b, o, arr, e, fz, rfl, hF, hh, hrel⟩ := hp (by omega)
    obtain ⟨e', hu, _⟩ := arB_spec hT
    refine ⟨.pointer (some ⟨b, o, none⟩), ?_, by simp only [rel]; exact ⟨b, o, arr, e, fz, rfl, hF, hh, hrel⟩⟩
    simp only [execOp, Sem.run_bind, he, Instr.arrayAt, run_underlying hu, Result.andThen_ok, Nat.not_lt.2 hk, if_false, Sem.run_pure]) kk

def capA : AV → Option Nat
  | .own _ _ _ _ _ cap false => some cap
  | .nilsl | .empty true => some 0
  | _ => none
theorem capA_spec {F : Nat → Prop} {w : World} {x : AV} {v : Value} {k : Nat} (h : capA x = some k) (hr : rel F w x v) : ∃ ad len, v = .slice ad len k := by
  unfold capA at h
  split at h
  · cases h; simp only [rel] at hr; obtain ⟨c, rfl, _, h1, _⟩ := hr; rw [h1 trivial]; exact ⟨_, _, rfl⟩
  · cases h; simp only [rel] at hr; exact ⟨_, _, hr⟩
  · cases h; simp only [rel] at hr; obtain ⟨a, c, rfl, h1⟩ := hr; rw [h1 trivial]; exact ⟨_, _, rfl⟩
  · cases h
theorem Run.cap {x : Operand} {p : AV} {k : Nat} (hi : ops[i]? = some ⟨some d, .call ⟨.builtin .cap, #[x], #[U]⟩, T, pos, aft, g⟩) (hw : want ops s.fr ⟨some d, .call ⟨.builtin .cap, #[x], #[U]⟩, T, pos, aft, g⟩ = some true) (hdn : Nat.blt d n = true)
    (hx : Ev s.fr x p) (hT : isSl P U = true) (hk : capA p = some k) (kk : Run C ops l Q (s.put d (.int .i64 (k : Int)))) : Run C ops (i :: l) Q s :=
  Run.pure hi rfl hdn hw (fun F a w hr => by
    obtain ⟨ad, c, he⟩ := capA_spec hk (Ev.rel hr hx)
    refine ⟨.int .i64 k, ?_, by simp [rel]⟩
    unfold isSl at hT
    split at hT
    · rename_i e hu
      simp [execOp, resolve, invoke, builtin, Builtin.cap_, he, run_underlying hu, goInt]
    · cases hT) kk
theorem Run.max {x y : Operand} {p q : Int} {A : Array TypeId} (hi : ops[i]? = some ⟨some d, .call ⟨.builtin .max, #[x, y], A⟩, T, pos, aft, g⟩) (hw : want ops s.fr ⟨some d, .call ⟨.builtin .max, #[x, y], A⟩, T, pos, aft, g⟩ = some true) (hdn : Nat.blt d n = true)
    (hx : Ev s.fr x (.int .i64 p)) (hy : Ev s.fr y (.int .i64 q)) (kk : Run C ops l Q (s.put d (.int .i64 (if q > p then q else p)))) : Run C ops (i :: l) Q s :=
  Run.pure hi rfl hdn hw (fun F a w hr => by
    have h1 := Ev.rel hr hx
    have h2 := Ev.rel hr hy
    simp only [rel] at h1 h2
    exact ⟨_, by simp [execOp, resolve, invoke, builtin, Builtin.max_, Builtin.max2, h1, h2]; rfl, by simp [rel]⟩) kk
theorem Run.min {x y : Operand} {p q : Int} {A : Array TypeId} (hi : ops[i]? = some ⟨some d, .call ⟨.builtin .min, #[x, y], A⟩, T, pos, aft, g⟩) (hw : want ops s.fr ⟨some d, .call ⟨.builtin .min, #[x, y], A⟩, T, pos, aft, g⟩ = some true) (hdn : Nat.blt d n = true)
    (hx : Ev s.fr x (.int .i64 p)) (hy : Ev s.fr y (.int .i64 q)) (kk : Run C ops l Q (s.put d (.int .i64 (if q < p then q else p)))) : Run C ops (i :: l) Q s :=
  Run.pure hi rfl hdn hw (fun F a w hr => by
    have h1 := Ev.rel hr hx
    have h2 := Ev.rel hr hy
    simp only [rel] at h1 h2
    exact ⟨_, by simp [execOp, resolve, invoke, builtin, Builtin.min_, Builtin.min2, h1, h2]; rfl, by simp [rel]⟩) kk

/-- append of so many zero elements to the nil slice. -/
theorem Run.growNil (id : Nat) {x y : Operand} {V : TypeId} {cnt m bytes : Nat} {q : Int} {zs : List AV} (hi : ops[i]? = some ⟨some d, .call ⟨.builtin .append, #[x, y], #[U, V]⟩, T, pos, aft, g⟩) (hw : want ops s.fr ⟨some d, .call ⟨.builtin .append, #[x, y], #[U, V]⟩, T, pos, aft, g⟩ = some true) (hdn : Nat.blt d n = true)
    (hx : Ev s.fr x .nilsl) (hy : Ev s.fr y (.int .i64 q)) (hT : Elem P U m bytes zs) (hV : P.underlying V = some (.int .i64)) (hq : q = (cnt : Int)) (h0 : 0 < cnt) (hby : cnt * bytes ≤ 140737488355328) (h63 : cnt ≤ 9223372036854775807)
    (k : ∀ b', Run C ops l Q ⟨(d, .own id b' m 0 cnt cnt true) :: s.fr, s.hp.set id (.cells b' (zcells zs m (cnt * m)))⟩) : Run C ops (i :: l) Q s :=
  Run.step hi hw fun F a w hr => by
    obtain ⟨⟨e, it, z, hu, hie, hz, hsz, hbb, hzc, hm⟩, hzs⟩ := hT
    obtain ⟨z', hzr, hz', hzl⟩ := zeroOf_spec (hzs e hu)
    have hzz : z' = z := by simp [hie, hz] at hz'; exact hz'.symm
    subst hzz
    have h1 := Ev.rel hr hx
    have h2 := Ev.rel hr hy
    simp only [rel] at h1 h2
    subst hq
    have hcm : cnt * m ≠ 0 := Nat.mul_ne_zero (by omega) (by omega)
    have hrun : (Builtin.append_ #[U, V] T #[.slice none 0 0, .int .i64 (cnt : Int)]).run P w = .ok (.slice (some ⟨w.heap.size, 0, none⟩) cnt (grownCap w cnt 0 e))
        (w.drew.alloc (.cells (Builtin.zeroCells z'.cells cnt ++ Builtin.zeroCells z'.cells (grownCap w cnt 0 e - cnt)) e)) := by
      have hn : cnt ≠ 0 := by omega
      have h63' : ¬ (9223372036854775807 < (cnt : Int)) := by omega
      have h48' : ¬ (281474976710656 < Builtin.nextslicecap cnt 0 * it.bytes) := by rw [nextslicecap_zero h0, hbb]; omega
      have hwr : IntKind.i64.wrap (cnt : Int) = cnt := wrap64_id ⟨by omega, by omega⟩
      have hb48 : ¬ (281474976710656 < (cnt : Int) * (it.bytes : Int)) := by
        rw [hbb]
        have : ((cnt * bytes : Nat) : Int) ≤ 140737488355328 := by omega
        rw [Int.natCast_mul] at this
        omega
      have hneg : ¬ ((cnt : Int) < 0) := by omega
      simp [Builtin.append_, run_underlying hu, run_underlying hV, sizeOf, typeInfo, zeroValue, hie, hz, asInt, asIntOf, hwr, hneg, hb48, hn, h63', h48', Question.forced, run_firstCells_none, newRow, grownCap, hsz, hcm, Nat.ne_of_gt hm]
    have hexec : ∀ v' w', (Builtin.append_ #[U, V] T #[.slice none 0 0, .int .i64 (cnt : Int)]).run P w = .ok v' w' →
        (execOp a.eval ⟨some d, .call ⟨.builtin .append, #[x, y], #[U, V]⟩, T, pos, aft, g⟩).run P w = .ok (.value v') w' := by
      intro v' w' h
      simp [execOp, resolve, invoke, builtin, h1, h2, h]
    refine ⟨_, _, F, _, hexec _ _ hrun, ?_, k w.drew.heap.size⟩
    have hzlen : zs.length = m := by have := relL_len (hzl F w); simp at this; omega
    have hcells : relL F w.drew (zcells zs m (cnt * m)) (Builtin.zeroCells z'.cells cnt).toList := by
      unfold zcells Builtin.zeroCells
      rw [Array.toList_map, Array.toList_range, hzc]
      refine relL_map_range _ _ _ (fun j _ => ?_)
      exact relL_getD (hzl F w.drew) (j := j % m) (by rw [hzlen]; exact Nat.mod_lt _ hm)
    have hR := hr.drew.alloc id (xs := zcells zs m (cnt * m)) (e := e) (arr := Builtin.zeroCells z'.cells cnt ++ Builtin.zeroCells z'.cells (grownCap w cnt 0 e - cnt)) (by
      rw [Array.toList_append]
      exact relP_suffix (relP_of_relL hcells))
    refine hR.put hdn (by
      simp only [rel]
      refine ⟨grownCap w cnt 0 e, rfl, grownCap_ge w _ _ _, (fun h => by cases h), _, e, (0, 0), heap_alloc_new _ _, ?_⟩
      have hge := grownCap_ge w cnt 0 e
      simp only [Array.size_append, size_zeroCells, hzc, Nat.zero_add]
      rw [← Nat.add_mul]
      exact Nat.le_of_eq (congrArg (· * m) (by omega)))
/-- x[:0] of the nil slice. -/
theorem Run.slice_nil {x : Operand} {lo hi : Option Operand} {m : Nat} (hi' : ops[i]? = some ⟨some d, .slice U x lo hi none, T, pos, aft, g⟩) (hw : want ops s.fr ⟨some d, .slice U x lo hi none, T, pos, aft, g⟩ = some true) (hdn : Nat.blt d n = true)
    (hx : Ev s.fr x .nilsl) (hT : slB P U m = true) (hlo : Bnd s.fr lo 0 0) (hhi : Bnd s.fr hi 0 0) (k : Run C ops l Q (s.put d .nilsl)) : Run C ops (i :: l) Q s :=
  Run.pure hi' rfl hdn hw (fun F a w hr => by
    have h4 := Ev.rel hr hx
    simp only [rel] at h4
    have hsl := run_sliceAt_gen hr (ad := none) (len := 0) (cap := 0) hT hlo hhi (Nat.le_refl _) (Nat.le_refl _)
    refine ⟨.slice none 0 0, ?_, by simp only [rel]⟩
    simp only [execOp, Sem.run_bind, h4, Option.map_none, hsl, Result.andThen_ok, Sem.run_pure]
    simp) k
end ops
end
end Go.Ab
