/- From what a row's arguments read as to the values of a walk; from a contract to a law's row. -/
import Derived.Test.YtlipjbfmmheicaaAb16
import Derived.Test.YtlipjbfmmheicaaAb12
import Derived.ChangeArms
import Derived.OpenShut
import Derived.Carry
namespace Go.Ab
open Go.RowKit (Below)
open Go.ChangeShapes Go.WideShapes Go.ChangeAt

/-- A type that is read: an integer, an array, a slice; m cells an element. -/
inductive Ds where
  | int (k : IntKind)
  | arr (n m : Nat) (d : Ds)
  | sl (m : Nat) (d : Ds)
def Ds.ok (P : Program) : Ds → TypeId → Bool
  | .int k, t => match P.underlying t with
    | some (.int k') => k' == k
    | _ => false
  | .arr n m d, t => match P.underlying t with
    | some (.array n' e) => n' == n && P.cellsOf e == m && P.cellsOf t == n * m && d.ok P e
    | _ => false
  | .sl m d, t => match P.underlying t with
    | some (.slice e) => P.cellsOf e == m && Nat.blt 0 m && d.ok P e
    | _ => false
def Ds.is : Ds → List AV → Prop
  | .int k, xs => ∃ n, xs = [.int k n] ∧ (Lit.int k n).wf = true
  | .arr n m d, xs => ∃ ps : List (List AV), ps.length = n ∧ (∀ p ∈ ps, d.is p ∧ p.length = m) ∧ xs = ps.flatten
  | .sl m d, xs => ∃ ps : List (List AV), ps.length ≤ maxLen ∧ (∀ p ∈ ps, d.is p ∧ p.length = m) ∧ xs = [.imm ps.flatten ps.length]

theorem list_of {Q : Nat → List AV → Prop} : ∀ {n : Nat}, (∀ i, i < n → ∃ p, Q i p) → ∃ ps : List (List AV), ps.length = n ∧ ∀ i p, ps[i]? = some p → Q i p
  | 0, _ => ⟨[], rfl, fun i p h => by simp at h⟩
  | n + 1, h => by
    obtain ⟨ps, h1, h2⟩ := list_of (n := n) fun i hi => h i (by omega)
    obtain ⟨p, hp⟩ := h n (by omega)
    refine ⟨ps ++ [p], by simp [h1], fun i q hq => ?_⟩
    by_cases hi : i < n
    · rw [List.getElem?_append_left (by omega)] at hq
      exact h2 i q hq
    · rw [List.getElem?_append_right (by omega)] at hq
      have : i - ps.length = 0 := by
        rcases Nat.eq_zero_or_pos (i - ps.length) with h | h
        · exact h
        · rw [List.getElem?_eq_none (by simp; omega)] at hq; cases hq
      rw [this] at hq
      simp at hq
      subst hq
      have : i = n := by omega
      subst this
      exact hp

theorem relP_flatten {F : Nat → Prop} {w : World} {m : Nat} : ∀ {ps : List (List AV)} {L : List Value}, (∀ p ∈ ps, p.length = m) → (∀ i p, ps[i]? = some p → relL F w p ((L.drop (i * m)).take m)) → relP F w ps.flatten L
  | [], _, _, _ => by simp [relP]
  | p :: ps, L, hm, h => by
    have h0 := h 0 p (by simp)
    simp only [Nat.zero_mul, List.drop_zero] at h0
    rw [List.flatten_cons]
    have := relP_flatten (ps := ps) (L := L.drop m) (fun q hq => hm q (by simp [hq])) fun i q hq => by
      have := h (i + 1) q (by simpa using hq)
      rw [List.drop_drop]
      rwa [Nat.add_mul, Nat.one_mul, Nat.add_comm] at this
    have h2 := relP_append h0 this
    rwa [List.take_append_drop] at h2
theorem relL_of_relP {F : Nat → Prop} {w : World} : ∀ {xs : List AV} {vs : List Value}, relP F w xs vs → vs.length = xs.length → relL F w xs vs
  | [], vs, _, h => by simp only [relL]; exact List.length_eq_zero_iff.1 (by simpa using h)
  | x :: xs, _, h, hl => by
    simp only [relP] at h
    obtain ⟨v, r, rfl, h1, h2⟩ := h
    simp only [relL]
    exact ⟨v, r, rfl, h1, relL_of_relP h2 (by simpa using hl)⟩
theorem flatten_length {m : Nat} : ∀ {ps : List (List AV)}, (∀ p ∈ ps, p.length = m) → ps.flatten.length = ps.length * m
  | [], _ => by simp
  | p :: ps, h => by
    rw [List.flatten_cons, List.length_append, h p (by simp), flatten_length fun q hq => h q (by simp [hq]), List.length_cons, Nat.add_mul, Nat.one_mul, Nat.add_comm]

section
variable {H : Type} {enc : TypeId × Value → H} {P : Program} {w : World}
theorem trod_rel : ∀ (d : Ds) (t : TypeId) (fuel : Nat) (cs : List Value) (x : DataW H × List MemPlace), d.ok P t = true → DataW.trod enc P w 0 (fun _ => true) true fuel t cs = some x →
    ∃ xs, d.is xs ∧ relL (fun b => b < w.heap.size) w xs cs
  | .int k, t, fuel, cs, x, hd, h => by
    unfold Ds.ok at hd
    split at hd
    · rename_i k' ht
      have : k' = k := by simpa using hd
      subst this
      obtain ⟨n, rfl, _, hw⟩ := DataW.trod_int ht h
      exact ⟨[.int k' n], ⟨n, rfl, hw⟩, by simp only [relL]; exact ⟨_, [], rfl, by simp [rel], rfl⟩⟩
    · cases hd
  | .arr n m d, t, fuel, cs, x, hd, h => by
    unfold Ds.ok at hd
    split at hd
    · rename_i n' e ht
      simp only [Bool.and_eq_true, beq_iff_eq] at hd
      obtain ⟨⟨⟨rfl, rfl⟩, hct⟩, hd⟩ := hd
      obtain ⟨xs, fu, rfl, rfl, hl, hxl, hx⟩ := DataW.trod_array ht h
      have key : ∀ i, i < n' → ∃ p, (d.is p ∧ p.length = P.cellsOf e) ∧ relL (fun b => b < w.heap.size) w p ((cs.drop (i * P.cellsOf e)).take (P.cellsOf e)) := by
        intro i hi
        have h1 := hx i hi
        rw [List.getElem?_eq_getElem (by omega)] at h1
        obtain ⟨p, hp, hr⟩ := trod_rel d e fu _ _ hd h1
        refine ⟨p, ⟨hp, ?_⟩, hr⟩
        have h2 := relL_len hr
        rw [← h2, List.length_take, List.length_drop, hl, hct]
        have : (i + 1) * P.cellsOf e ≤ n' * P.cellsOf e := Nat.mul_le_mul_right _ hi
        rw [Nat.add_mul, Nat.one_mul] at this
        omega
      obtain ⟨ps, hpl, hps⟩ := list_of key
      have hall : ∀ p ∈ ps, d.is p ∧ p.length = P.cellsOf e := fun p hp => by
        obtain ⟨i, hi⟩ := List.getElem?_of_mem hp
        exact (hps i p hi).1
      refine ⟨ps.flatten, ⟨ps, hpl, hall, rfl⟩, relL_of_relP (relP_flatten (fun p hp => (hall p hp).2) fun i p hp => (hps i p hp).2) ?_⟩
      rw [hl, hct, flatten_length fun p hp => (hall p hp).2, hpl]
    · cases hd
  | .sl m d, t, fuel, cs, x, hd, h => by
    unfold Ds.ok at hd
    split at hd
    · rename_i e ht
      simp only [Bool.and_eq_true, beq_iff_eq] at hd
      obtain ⟨⟨rfl, hm⟩, hd⟩ := hd
      have hm := Nat.blt_eq.mp hm
      rcases DataW.trod_slice ht h with ⟨rfl, _⟩ | ⟨a, len, cap, elems, rest, fu, rfl, rfl, _, _, hlc, hcm, hel, hx, _⟩
      · exact ⟨[.imm [] 0], ⟨[], by simp, (fun p hp => by cases hp), rfl⟩, by simp only [relL]; exact ⟨_, [], rfl, by simp only [rel]; exact ⟨none, 0, rfl, Nat.le_refl _, fun h => absurd h (Nat.lt_irrefl _)⟩, rfl⟩⟩
      · have cell : ∀ i, i < len → ∃ ci, w.cells? 0 (a.add (i * P.cellsOf e)) (P.cellsOf e) = some ci ∧ ∃ y, DataW.trod enc P w 0 (fun _ => true) true fu e ci = some y := by
          intro i hi
          have h1 := hx i hi
          rw [List.getElem?_eq_getElem (by omega)] at h1
          obtain ⟨ci, h2, h3⟩ := Option.bind_eq_some_iff.1 h1
          exact ⟨ci, h2, _, h3⟩
        -- the row that the elements lie in
        have row : 0 < len → ∃ arr e' fz, w.heap[a.block]? = some (.cells arr e' fz) ∧ a.spot = none := by
          intro h0
          obtain ⟨ci, hc, _⟩ := cell 0 h0
          obtain ⟨_, hcl, hcc⟩ := World.cells?_some hc
          have h1 := hcc 0 hm
          rw [List.getElem?_eq_getElem (by omega)] at h1
          simp only [Nat.zero_mul, Addr.add, if_true] at h1
          unfold World.cell? at h1
          split at h1
          · rename_i c e' fz hh
            split at h1
            · cases h1
            · rename_i hs
              exact ⟨c, e', fz, hh, by simpa using hs⟩
          · cases h1
        rcases Nat.eq_zero_or_pos len with h0 | h0
        · subst h0
          exact ⟨[.imm [] 0], ⟨[], by simp, (fun p hp => by cases hp), rfl⟩, by simp only [relL]; exact ⟨_, [], rfl, by simp only [rel]; exact ⟨some a, cap, rfl, hlc, fun h => absurd h (Nat.lt_irrefl _)⟩, rfl⟩⟩
        · obtain ⟨arr, e', fz, hh, hs⟩ := row h0
          obtain ⟨b, o, sp⟩ := a
          simp only at hs hh
          subst hs
          have key : ∀ i, i < len → ∃ p, (d.is p ∧ p.length = P.cellsOf e) ∧ relL (fun b => b < w.heap.size) w p (((arr.toList.drop o).drop (i * P.cellsOf e)).take (P.cellsOf e)) := by
            intro i hi
            obtain ⟨ci, hc, y, hy⟩ := cell i hi
            obtain ⟨_, hcl, hcc⟩ := World.cells?_some hc
            obtain ⟨p, hp, hr⟩ := trod_rel d e fu _ _ hd hy
            have e1 : ((arr.toList.drop o).drop (i * P.cellsOf e)).take (P.cellsOf e) = ci := by
              apply List.ext_getElem?
              intro j
              rw [List.getElem?_take, List.getElem?_drop, List.getElem?_drop]
              by_cases hj : j < P.cellsOf e
              · rw [if_pos hj, ← hcc j hj, addr_add, addr_add]
                simp only [World.cell?, hh, Option.isSome_none, Bool.false_eq_true, if_false, Array.getElem?_toList]
                rw [Nat.add_assoc]
              · rw [if_neg hj, List.getElem?_eq_none (by omega)]
            exact ⟨p, ⟨hp, by rw [← relL_len hr, hcl]⟩, by rw [e1]; exact hr⟩
          obtain ⟨ps, hpl, hps⟩ := list_of key
          have hall : ∀ p ∈ ps, d.is p ∧ p.length = P.cellsOf e := fun p hp => by
            obtain ⟨i, hi⟩ := List.getElem?_of_mem hp
            exact (hps i p hi).1
          refine ⟨[.imm ps.flatten ps.length], ⟨ps, by omega, hall, rfl⟩, ?_⟩
          simp only [relL]
          refine ⟨_, [], rfl, ?_, rfl⟩
          simp only [rel]
          rw [hpl]
          exact ⟨_, cap, rfl, hlc, fun _ => ⟨b, o, arr, e', fz, rfl, lt_of_heap hh, hh, relP_flatten (fun p hp => (hall p hp).2) fun i p hp => (hps i p hp).2⟩⟩
    · cases hd

/-- The value of a parameter that reads so. -/
def Ds.val : Ds → AV → Prop
  | .arr n m d, x => ∃ xs, x = .agg xs ∧ (Ds.arr n m d).is xs
  | d, x => d.is [x]
theorem trod_val {d : Ds} {t : TypeId} {v : Value} {y : DataW H} {ps : List MemPlace} (hd : d.ok P t = true) (hv : Value.okWide P w .any 0 t v) (h : DataW.Trod enc P w 0 (fun _ => true) true t v y ps) :
    ∃ x, d.val x ∧ rel (fun b => b < w.heap.size) w x v := by
  obtain ⟨fuel, hf⟩ := h
  obtain ⟨xs, hi, hr⟩ := trod_rel d t fuel _ _ hd hf
  have one : (∀ cs, v ≠ .agg cs) → v.cells.toList = [v] := by
    intro hne
    cases v <;> first | rfl | exact absurd rfl (hne _)
  cases d with
  | int k =>
    unfold Ds.ok at hd
    split at hd
    · rename_i k' ht
      have : k' = k := by simpa using hd
      subst this
      obtain ⟨n, rfl⟩ := okWide_int ht hv
      obtain ⟨m, rfl, hw⟩ := hi
      simp only [Value.cells, relL] at hr
      obtain ⟨u, r, hu, hru, rfl⟩ := hr
      simp at hu
      subst hu
      exact ⟨_, ⟨m, rfl, hw⟩, hru⟩
    · cases hd
  | arr n m d =>
    unfold Ds.ok at hd
    split at hd
    · rename_i n' e ht
      unfold Value.okWide at hv
      rw [ht] at hv
      simp only at hv
      obtain ⟨cs, rfl, _⟩ := hv
      exact ⟨.agg xs, ⟨xs, rfl, hi⟩, by simp only [rel]; exact ⟨cs, rfl, hr⟩⟩
    · cases hd
  | sl m d =>
    unfold Ds.ok at hd
    split at hd
    · rename_i e ht
      have hne : ∀ cs, v ≠ .agg cs := by
        rintro cs rfl
        unfold Value.okWide at hv
        rw [ht] at hv
        simp [Cell.okWide, Cell.ok, ht] at hv
      rw [one hne] at hr
      obtain ⟨qs, h1, h2, rfl⟩ := hi
      simp only [relL] at hr
      obtain ⟨u, r, hu, hru, rfl⟩ := hr
      simp at hu
      subst hu
      exact ⟨_, ⟨qs, h1, h2, rfl⟩, hru⟩
    · cases hd

/-- All parameters. -/
inductive Vals : List Ds → List AV → Prop where
  | nil : Vals [] []
  | cons {d : Ds} {ds : List Ds} {x : AV} {xs : List AV} (h : d.val x) (hs : Vals ds xs) : Vals (d :: ds) (x :: xs)
theorem Vals.one {d : Ds} {xs : List AV} (h : Vals [d] xs) : ∃ x, xs = [x] ∧ d.val x := by
  cases h with
  | cons h0 h =>
    cases h
    exact ⟨_, rfl, h0⟩
theorem Vals.two {d e : Ds} {xs : List AV} (h : Vals [d, e] xs) : ∃ x y, xs = [x, y] ∧ d.val x ∧ e.val y := by
  cases h with
  | cons h0 h =>
    obtain ⟨y, rfl, h1⟩ := h.one
    exact ⟨_, y, rfl, h0, h1⟩
theorem Vals.three {d e f : Ds} {xs : List AV} (h : Vals [d, e, f] xs) : ∃ x y z, xs = [x, y, z] ∧ d.val x ∧ e.val y ∧ f.val z := by
  cases h with
  | cons h0 h =>
    obtain ⟨y, z, rfl, h1, h2⟩ := h.two
    exact ⟨_, y, z, rfl, h0, h1, h2⟩
theorem Vals.four {d e f g : Ds} {xs : List AV} (h : Vals [d, e, f, g] xs) : ∃ x y z u, xs = [x, y, z, u] ∧ d.val x ∧ e.val y ∧ f.val z ∧ g.val u := by
  cases h with
  | cons h0 h =>
    obtain ⟨y, z, u, rfl, h1, h2, h3⟩ := h.three
    exact ⟨_, y, z, u, rfl, h0, h1, h2, h3⟩
theorem trod_vals : ∀ {ds : List Ds} {ts : List TypeId} {vs : List Value} {ys : List (DataW H)} {ps : List MemPlace}, ds.length = ts.length → (∀ (j : Nat) d t, ds[j]? = some d → ts[j]? = some t → d.ok P t = true) →
    (∀ (j : Nat) t v, ts[j]? = some t → vs[j]? = some v → Value.okWide P w .any 0 t v) → DataW.TrodAll enc P w 0 (fun _ => true) true ts vs ys ps → ∃ xs, Vals ds xs ∧ relL (fun b => b < w.heap.size) w xs vs
  | [], [], vs, ys, ps, _, _, _, h => by
    obtain ⟨rfl, _, _⟩ := trodAll_nil h
    exact ⟨[], .nil, by simp [relL]⟩
  | d :: ds, t :: ts, vs, ys, ps, hl, hd, hv, h => by
    obtain ⟨v, vs, y, ys, p, q, rfl, rfl, rfl, h1, h2⟩ := trodAll_cons h
    obtain ⟨x, hx, hr⟩ := trod_val (hd 0 d t rfl rfl) (hv 0 t v rfl rfl) h1
    obtain ⟨xs, hxs, hrs⟩ := trod_vals (ds := ds) (ts := ts) (by simpa using hl) (fun j d t h1 h2 => hd (j + 1) d t (by simpa using h1) (by simpa using h2)) (fun j t v h1 h2 => hv (j + 1) t v (by simpa using h1) (by simpa using h2)) h2
    exact ⟨x :: xs, .cons hx hxs, by simp only [relL]; exact ⟨v, vs, rfl, hr, hrs⟩⟩
  | [], _ :: _, _, _, _, hl, _, _, _ => by simp at hl
  | _ :: _, [], _, _, _, hl, _, _, _ => by simp at hl

theorem trodAll_below {W' : World} (hl : laidOutB P = true) : ∀ {ts : List TypeId} {vs : List Value} {ys : List (DataW H)} {ps : List MemPlace}, ts.all (fun t => P.readableRec t && Nat.blt t P.types.size) = true →
    DataW.TrodAll enc P w 0 (fun _ => true) true ts vs ys ps → Below w.heap.size w W' → (∀ x ∈ ps, x.block < w.heap.size) → DataW.TrodAll enc P W' 0 (fun b => decide (b < w.heap.size)) true ts vs ys ps
  | [], _, _, _, _, h, _, _ => by
    obtain ⟨rfl, rfl, rfl⟩ := trodAll_nil h
    exact trodAll_mk0
  | t :: ts, _, _, _, ht, h, hb, hlt => by
    obtain ⟨v, vs, y, ys, p, q, rfl, rfl, rfl, h1, h2⟩ := trodAll_cons h
    simp only [List.all_cons, Bool.and_eq_true] at ht
    exact trodAll_cons_mk (Below.trod hl ht.1.1 (Nat.blt_eq.mp ht.1.2) h1 hb fun x hx => hlt x (by simp [hx])) (trodAll_below hl (by simpa using ht.2) h2 hb fun x hx => hlt x (by simp [hx]))

theorem trodAll_len : ∀ {ts : List TypeId} {vs : List Value} {ys : List (DataW H)} {ps : List MemPlace}, DataW.TrodAll enc P w 0 (fun _ => true) true ts vs ys ps → ys.length = ts.length
  | [], _, _, _, h => by obtain ⟨_, rfl, _⟩ := trodAll_nil h; rfl
  | t :: ts, _, _, _, h => by
    obtain ⟨v, vs, y, ys, p, q, _, rfl, _, _, h2⟩ := trodAll_cons h
    simp [trodAll_len h2]

def okAll (P : Program) : List Ds → List TypeId → Bool
  | [], [] => true
  | d :: ds, t :: ts => d.ok P t && okAll P ds ts
  | _, _ => false
theorem okAll_spec : ∀ {ds : List Ds} {ts : List TypeId}, okAll P ds ts = true → ds.length = ts.length ∧ ∀ (j : Nat) d t, ds[j]? = some d → ts[j]? = some t → d.ok P t = true
  | [], [], _ => ⟨rfl, fun j d t h => by simp at h⟩
  | d :: ds, t :: ts, h => by
    simp only [okAll, Bool.and_eq_true] at h
    obtain ⟨h1, h2⟩ := okAll_spec h.2
    refine ⟨by simp [h1], fun j d' t' k1 k2 => ?_⟩
    cases j with
    | zero => simp at k1 k2; subst k1 k2; exact h.1
    | succ j => exact h2 j d' t' (by simpa using k1) (by simpa using k2)
  | [], _ :: _, h => by cases h
  | _ :: _, [], h => by cases h

/-- A law's row: where the function's contract says true for whatever the arguments read as, they read behind the call as before. -/
theorem law_post {f : Func} {rt : TypeId} {s : ChangeSpec} {k : FuncId} {apart fresh handsOn : Bool} {W : World} {args : Array Value} {ys gs : List (DataW H)} {before : List MemPlace} (shape : List Ds)
    (hl : laidOutB P = true) (hokB : okAll P shape f.params.toList = true) (hread : f.params.toList.all (fun t => P.readableRec t && Nat.blt t P.types.size) = true)
    (hvars : s.vars = []) (hres : f.resultTypes.toList = [rt]) (hrt : P.underlying rt = some .bool) (hspec0 : ∀ ys : List (DataW H), ys.length = shape.length → s.fn H ys = { results := [.lit (.bool true)], args := ys })
    (hval : ∀ (j : Nat) t v, f.params[j]? = some t → args[j]? = some v → Value.okWide P W .any 0 t v)
    (hW : DataW.Whole enc P f.params.toList s.vars apart W args.toList ys gs before) (hlaw : ∀ xs, Vals shape xs → Pure P k xs (.bool true)) :
    Calls P k args W fun e W' => ∃ v, e = .returned v ∧ s.post enc P f apart fresh handsOn false W args v W' := by
  obtain ⟨hshape, hok⟩ := okAll_spec hokB
  have hW' := hW
  obtain ⟨p, q, hA, hV, rfl, hfz, hnd⟩ := hW
  rw [hvars] at hV
  obtain ⟨rfl, rfl⟩ := trodVars_none hV
  have hspec := hspec0 ys (by rw [hshape, trodAll_len hA])
  obtain ⟨xs, hxs, hrel⟩ := trod_vals hshape hok (fun j t v h1 h2 => hval j t v (by simpa using h1) (by simpa using h2)) hA
  refine ((hlaw xs hxs).2 _ W args (fun b h => h) hrel).mono ?_
  rintro e W' ⟨v, F', rfl, hb, _, _, _, hv⟩
  simp only [rel] at hv
  subst hv
  have hlt : ∀ x ∈ p ++ [], x.block < W.heap.size := fun x hx => hW'.lt x hx
  have hold : ∀ x ∈ p ++ [], (fun b => decide (b < W.heap.size)) x.block = true := fun x hx => by simpa using hlt x hx
  refine ⟨_, rfl, ys, [], p ++ [], [], p, [], hW', ?_, ?_, ?_, hb.frame _, fun h => by cases h⟩
  · rw [List.append_nil, hspec, hres]
    have hsz : f.resultTypes.size = 1 := by have := congrArg List.length hres; simpa using this
    rw [hsz]
    exact trodAll_cons_mk (Go.RowKit.shut_bool hrt _) trodAll_mk0
  · rw [List.append_nil, hspec]
    exact trodAll_below hl hread hA hb fun x hx => hlt x (by simp [hx])
  · rw [hvars]
    rw [List.append_nil, hspec]
    exact rfl
end
end Go.Ab
