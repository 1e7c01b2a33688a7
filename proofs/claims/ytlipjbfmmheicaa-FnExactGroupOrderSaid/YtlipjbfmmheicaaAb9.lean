/- Regions that draw their order: what is calm may come in any order, the rest comes behind it in the text's order. -/
import Derived.Test.YtlipjbfmmheicaaAb8
namespace Go.Ab
open Go.RowKit (Below)
section
variable {P : Program} {n : Nat} {C : Cx P n} {Q : Post} {s : St}

theorem wpOp_single {ops : Array Oper} {d i : Nat} {x : AV} {fr : List (Nat × AV)} {H : List Ar} {Q2 : Exit → Act → World → Prop} {K : Act → World → Prop} {a : Act} {w : World}
    (hh : wpOp P ops (lift C (Single d x fr H)) i (wpOps P ops (lift C (Single d x fr H)) []) a w) (hk : ∀ a' w', lift C (Single d x fr H) .normal a' w' → K a' w') : wpOp P ops Q2 i K a w := by
  unfold wpOp at hh ⊢
  split at hh
  · exact hk _ _ hh
  · rename_i o ho
    split at hh
    · rename_i hw
      simp only [hw, if_true]
      rcases hh with h1 | ⟨_, a0, w0, F0, s0, _, hq, _⟩
      · refine .inl ?_
        have h2 := Oper.wp_mono (K' := K) (fun a' w' h => hk a' w' h) h1
        unfold Oper.wp at h2 ⊢
        generalize (execOp a.eval o).run P w = r at h2 ⊢
        cases r with
        | ok nx w' =>
          cases nx <;> simp only [Oper.upon] at h2 ⊢ <;> first
            | exact h2
            | exact Calls.mono h2 (fun e w'' he => by
                cases e with
                | returned v => exact he
                | panicked c => obtain ⟨_, _, _, hq, _⟩ := he; cases hq
                | outgrown => obtain ⟨_, _, _, _, _, hq, _⟩ := he; cases hq)
        | halt hh w' =>
          cases hh <;> simp only [Oper.upon] at h2 ⊢
          all_goals first
            | exact h2
            | (obtain ⟨_, _, _, hq, _⟩ := h2; cases hq)
      · cases hq
    · rename_i hw
      simp only [hw]
      exact hk _ _ hh

/-- A piece of a body, by the way that leads to it. -/
def nav : Code → List Nat → Code
  | c, [] => c
  | .seq a _, 0 :: r => nav a r
  | .seq _ b, 1 :: r => nav b r
  | .block _ b, 0 :: r => nav b r
  | .loop b, 0 :: r => nav b r
  | .cond _ a _, 0 :: r => nav a r
  | .cond _ _ b, 1 :: r => nav b r
  | c, _ => c

/-! ### what waits for what -/
def edges (ops : Array Oper) (i : Nat) : List Nat :=
  match ops[i]? with
  | some o => (o.after.toList.filter fun e => Region.binds .any e).map (·.on)
  | none => []
def mask (ops : Array Oper) (acc : List Nat) (k : Nat) : Nat := (edges ops k).foldl (fun s e => s ||| (2 ^ e ||| acc.getD e 0)) 0
def extend (ops : Array Oper) (k : Nat) (acc : List Nat) : List Nat := acc ++ [mask ops acc k]
def masks (ops : Array Oper) : Nat → List Nat
  | 0 => []
  | k + 1 => extend ops k (masks ops k)

def Closed (ops : Array Oper) (S : Nat → Prop) : Prop := ∀ i, S i → ∀ e ∈ edges ops i, S e

theorem masks_length (ops : Array Oper) : ∀ k, (masks ops k).length = k
  | 0 => rfl
  | k + 1 => by simp [masks, extend, masks_length ops k]

theorem testBit_foldl (acc : List Nat) (j : Nat) : ∀ (es : List Nat) (s0 : Nat), (es.foldl (fun s e => s ||| (2 ^ e ||| acc.getD e 0)) s0).testBit j = true → s0.testBit j = true ∨ ∃ e ∈ es, j = e ∨ (acc.getD e 0).testBit j = true
  | [], s0, h => .inl h
  | e :: es, s0, h => by
    simp only [List.foldl_cons] at h
    rcases testBit_foldl acc j es _ h with h1 | ⟨e', he', h1⟩
    · simp only [Nat.testBit_or, Bool.or_eq_true, Nat.testBit_two_pow, decide_eq_true_eq] at h1
      rcases h1 with h1 | h1 | h1
      · exact .inl h1
      · exact .inr ⟨e, by simp, .inl h1.symm⟩
      · exact .inr ⟨e, by simp, .inr h1⟩
    · exact .inr ⟨e', by simp [he'], h1⟩

theorem masks_spec {ops : Array Oper} {S : Nat → Prop} (hS : Closed ops S) : ∀ (k i j : Nat), ((masks ops k).getD i 0).testBit j = true → (∀ e ∈ edges ops i, S e) → S j
  | 0, i, j, h, _ => by simp [masks] at h
  | k + 1, i, j, h, hi => by
    simp only [masks, extend] at h
    by_cases hik : i < k
    · rw [List.getD_eq_getElem?_getD, List.getElem?_append_left (by rw [masks_length]; exact hik), ← List.getD_eq_getElem?_getD] at h
      exact masks_spec hS k i j h hi
    · by_cases hk : i = k
      · subst hk
        have : (masks ops i ++ [mask ops (masks ops i) i]).getD i 0 = mask ops (masks ops i) i := by
          simp [List.getD, masks_length]
        rw [this] at h
        rcases testBit_foldl _ _ _ _ h with h1 | ⟨e, he, rfl | h1⟩
        · simp at h1
        · exact hi _ he
        · exact masks_spec hS i e j h1 (hS e (hi e he))
      · have : (masks ops k ++ [mask ops (masks ops k) k]).getD i 0 = 0 := by
          rw [List.getD_eq_getElem?_getD, List.getElem?_eq_none (by simp [masks_length]; omega)]
          rfl
        rw [this] at h
        simp at h

/-! ### calm operations -/
structure Item where
  i : Nat
  d : Nat
  nd : List (Nat × Option Nat)
  x : AV

def needsOf (its : List Item) (fr : List (Nat × AV)) : List (Nat × Option Nat) → Option (List (Nat × AV))
  | [] => some []
  | (t, some q) :: r => match its[q]? with
    | some it => match needsOf its fr r with
      | some xs => some ((t, it.x) :: xs)
      | none => none
    | none => none
  | (t, none) :: r => match get fr t with
    | some x => match needsOf its fr r with
      | some xs => some ((t, x) :: xs)
      | none => none
    | none => none

theorem needsOf_mono {its more : List Item} {fr : List (Nat × AV)} : ∀ {nd : List (Nat × Option Nat)} {xs : List (Nat × AV)}, needsOf its fr nd = some xs → needsOf (its ++ more) fr nd = some xs
  | [], xs, h => h
  | (t, some q) :: r, xs, h => by
    simp only [needsOf] at h ⊢
    split at h
    · rename_i it hit
      split at h
      · rename_i ys hys
        have h1 : (its ++ more)[q]? = some it := by
          rw [List.getElem?_append_left (by
            rcases Nat.lt_or_ge q its.length with h' | h'
            · exact h'
            · simp [List.getElem?_eq_none h'] at hit)]
          exact hit
        rw [h1, needsOf_mono hys]
        exact h
      · cases h
    · cases h
  | (t, none) :: r, xs, h => by
    simp only [needsOf] at h ⊢
    split at h
    · rename_i x hx
      split at h
      · rename_i ys hys
        rw [needsOf_mono hys]
        exact h
      · cases h
    · cases h

def Item.ok (C : Cx P n) (ops : Array Oper) (H : List Ar) (fr : List (Nat × AV)) (its : List Item) (it : Item) : Prop :=
  ∃ needs, needsOf its fr it.nd = some needs ∧ ∀ rest, Run C ops [it.i] (Single it.d it.x (needs ++ rest) H) ⟨needs ++ rest, H⟩

def arr (N : Nat) (L : List Nat) : Array Bool := ((List.range N).map fun i => L.contains i).toArray

theorem arr_size (N : Nat) (L : List Nat) : (arr N L).size = N := by simp [arr]
theorem arr_getD {N : Nat} {L : List Nat} {i : Nat} (b : Bool) (hi : i < N) : (arr N L).getD i b = L.contains i := by
  rw [Array.getD_eq_getD_getElem?]
  simp [arr, hi]

def left (N : Nat) (L0 : List Nat) : Nat := ((List.range N).filter fun i => !L0.contains i).length

abbrev Key := Nat × Nat × List (Nat × Option Nat)
def Item.key (it : Item) : Key := (it.i, it.d, it.nd)

/-- The table of a region fits: L0 has come already; the calm ones; then the others. -/
def drawB0 (ops : Array Oper) (L0 : List Nat) (ks : List Key) (tl : List Nat) : Bool :=
  let N := ops.size
  let ms := masks ops N
  let cl := ks.map (·.1)
  (List.range N).all (fun i => L0.contains i || cl.contains i || tl.contains i) &&
  tl.all (fun t => !L0.contains t && !cl.contains t && Nat.blt t N) &&
  cl.all (fun c => !L0.contains c && Nat.blt c N) &&
  L0.all (fun i => Nat.blt i N && (edges ops i).all fun e => L0.contains e) &&
  ks.zipIdx.all (fun (k, p) => (ks.take p).all (fun k' => !(k'.1 == k.1) && !(k'.2.1 == k.2.1)) && (edges ops k.1).all (fun e => L0.contains e || ((ks.take p).map (·.1)).contains e)) &&
  tl.all (fun t => cl.all fun c => (ms.getD t 0).testBit c) &&
  ks.all (fun k => k.2.2.all fun (t, src) => match src with
    | some q => match ks[q]? with
      | some k' => k'.2.1 == t && (ms.getD k.1 0).testBit k'.1
      | none => false
    | none => ks.all fun k' => !(k'.2.1 == t) || (ms.getD k'.1 0).testBit k.1) &&
  Nat.ble (ks.length + tl.length) (left N L0)
/-- The others come one by one. -/
def tailB (ops : Array Oper) (base tl : List Nat) : Bool :=
  (List.range (tl.length + 1)).all (fun q => Region.ready .any ops (arr ops.size (base ++ tl.take q)) == (tl.drop q).take 1)
def drawB (ops : Array Oper) (L0 : List Nat) (ks : List Key) (tl : List Nat) : Bool := drawB0 ops L0 ks tl && tailB ops (L0 ++ ks.map (·.1)) tl

theorem get_needs {fr needs : List (Nat × AV)} (h : ∀ t x, (t, x) ∈ needs → get fr t = some x) (u : Nat) : get (needs ++ fr) u = get fr u := by
  induction needs with
  | nil => rfl
  | cons p r ih =>
    obtain ⟨t, x⟩ := p
    by_cases ht : t = u
    · subst ht
      rw [List.cons_append, get_cons_self, h t x (by simp)]
    · rw [List.cons_append, get_cons_ne _ _ ht]
      exact ih (fun t x hm => h t x (by simp [hm]))

structure Inv (C : Cx P n) (its : List Item) (fr0 : List (Nat × AV)) (H : List Ar) (listed : Array Bool) (a : Act) (w : World) : Prop where
  st : ∃ F fr, R C F ⟨fr, H⟩ a w ∧ (∀ it ∈ its, listed.getD it.i false = true → get fr it.d = some it.x) ∧
    (∀ t x, get fr0 t = some x → (∀ it ∈ its, listed.getD it.i false = true → it.d ≠ t) → get fr t = some x)

theorem tail_any {ops : Array Oper} {Q2 : Exit → Act → World → Prop} {base tl : List Nat} (hb : (List.range (tl.length + 1)).all (fun q => Region.ready .any ops (arr ops.size (base ++ tl.take q)) == (tl.drop q).take 1) = true) (_hlt : ∀ t ∈ tl, t < ops.size) :
    ∀ (fuel q : Nat) (a : Act) (w : World), q ≤ tl.length → tl.length - q ≤ fuel → wpOps P ops Q2 (tl.drop q) a w → wpAny P .any ops Q2 fuel (arr ops.size (base ++ tl.take q)) a w := by
  intro fuel
  induction fuel with
  | zero =>
    intro q a w hq hf h
    have hq' : q = tl.length := by omega
    subst hq'
    have := List.all_eq_true.1 hb tl.length (by simp)
    simp only [beq_iff_eq] at this
    rw [List.drop_length] at this h
    exact ⟨by simpa using this, h⟩
  | succ fuel ih =>
    intro q a w hq hf h
    have hr := List.all_eq_true.1 hb q (by simp; omega)
    simp only [beq_iff_eq] at hr
    by_cases hq' : q = tl.length
    · subst hq'
      rw [List.drop_length] at hr h
      refine ⟨fun _ => h, fun i hi => ?_⟩
      rw [hr] at hi
      cases hi
    · have hlt' : q < tl.length := by omega
      rw [List.drop_eq_getElem_cons hlt'] at hr h
      simp only [List.take_succ_cons, List.take_zero] at hr
      refine ⟨fun h0 => (by rw [hr] at h0; cases h0), fun i hi => ?_⟩
      rw [hr] at hi
      simp only [List.mem_singleton] at hi
      subst hi
      rw [wpOps_cons] at h
      refine wpOp_mono (fun a' w' h' => ?_) h
      have e : (arr ops.size (base ++ tl.take q)).setIfInBounds tl[q] true = arr ops.size (base ++ tl.take (q + 1)) := by
        apply Array.ext
        · simp [arr]
        · intro i h1 h2
          have hm : i ∈ tl.take (q + 1) ↔ i ∈ tl.take q ∨ i = tl[q] := by rw [List.take_succ_eq_append_getElem hlt', List.mem_append, List.mem_singleton]
          have hi1 : i < (arr ops.size (base ++ tl.take q)).size := by simpa using h1
          rw [Array.getElem_setIfInBounds hi1]
          split
          · rename_i hi
            simp [arr, hi, hm]
          · rename_i hi
            have hi' : ¬ i = tl[q] := fun h => hi h.symm
            simp [arr, hm, hi']
      rw [e]
      exact ih (q + 1) a' w' (by omega) (by omega) h'

structure DrawOk (ops : Array Oper) (L0 : List Nat) (its : List Item) (tl : List Nat) : Prop where
  cover : ∀ i, i < ops.size → i ∈ L0 ∨ (∃ it ∈ its, it.i = i) ∨ i ∈ tl
  tl0 : ∀ t ∈ tl, t ∉ L0 ∧ (∀ it ∈ its, it.i ≠ t) ∧ t < ops.size
  cl0 : ∀ it ∈ its, it.i ∉ L0 ∧ it.i < ops.size
  L0c : ∀ i ∈ L0, i < ops.size ∧ ∀ e ∈ edges ops i, e ∈ L0
  dist : ∀ (p q : Nat) (x y : Item), its[p]? = some x → its[q]? = some y → q < p → y.i ≠ x.i ∧ y.d ≠ x.d
  early : ∀ (p : Nat) (x : Item), its[p]? = some x → ∀ e ∈ edges ops x.i, e ∈ L0 ∨ ∃ q y, q < p ∧ its[q]? = some y ∧ y.i = e
  wait : ∀ t ∈ tl, ∀ it ∈ its, ((masks ops ops.size).getD t 0).testBit it.i = true
  from' : ∀ it ∈ its, ∀ t q, (t, some q) ∈ it.nd → ∃ y, its[q]? = some y ∧ y.d = t ∧ ((masks ops ops.size).getD it.i 0).testBit y.i = true
  from0 : ∀ it ∈ its, ∀ t, (t, none) ∈ it.nd → ∀ y ∈ its, y.d = t → ((masks ops ops.size).getD y.i 0).testBit it.i = true
  few : its.length + tl.length ≤ left ops.size L0

theorem drawB_spec {ops : Array Oper} {L0 : List Nat} {its : List Item} {tl : List Nat} (h : drawB0 ops L0 (its.map Item.key) tl = true) : DrawOk ops L0 its tl := by
  simp only [drawB0, Bool.and_eq_true, List.all_eq_true, List.map_map] at h
  obtain ⟨⟨⟨⟨⟨⟨⟨h1, h2⟩, h3⟩, h4⟩, h6⟩, h7⟩, h8⟩, h10⟩ := h
  have key : ∀ (it : Item), it.key.1 = it.i ∧ it.key.2.1 = it.d ∧ it.key.2.2 = it.nd := fun _ => ⟨rfl, rfl, rfl⟩
  refine ⟨fun i hi => ?_, fun t ht => ?_, fun it hit => ?_, fun i hi => ?_, fun p q x y hx hy hqp => ?_, fun p x hx e he => ?_, fun t ht it hit => ?_, fun it hit t q hnd => ?_, fun it hit t hnd y hy hyt => ?_, (by simpa using Nat.le_of_ble_eq_true h10)⟩
  · have := h1 i (by simpa using hi)
    simp only [Bool.or_eq_true, List.contains_iff_mem, List.mem_map, Function.comp] at this
    rcases this with (h | ⟨it, hit, h⟩) | h
    · exact .inl h
    · exact .inr (.inl ⟨it, hit, h⟩)
    · exact .inr (.inr h)
  · have := h2 t ht
    simp only [Bool.not_eq_true', ← Bool.not_eq_true, List.contains_iff_mem, List.mem_map, Function.comp] at this
    exact ⟨this.1.1, fun it hit he => this.1.2 ⟨it, hit, he⟩, Nat.blt_eq.mp this.2⟩
  · have := h3 it.i (List.mem_map.2 ⟨it, hit, rfl⟩)
    simp only [Bool.not_eq_true', ← Bool.not_eq_true, List.contains_iff_mem] at this
    exact ⟨this.1, Nat.blt_eq.mp this.2⟩
  · have := h4 i hi
    simp only [List.contains_iff_mem] at this
    exact ⟨Nat.blt_eq.mp this.1, this.2⟩
  · have hm : (x.key, p) ∈ (its.map Item.key).zipIdx := by
      rw [List.mem_zipIdx_iff_getElem?]
      simp [hx]
    have := (h6 _ hm).1 y.key (by
      refine List.mem_of_getElem? (i := q) ?_
      rw [List.getElem?_take, if_pos hqp]
      simp [hy])
    simp only [Bool.not_eq_true', beq_eq_false_iff_ne] at this
    exact this
  · have hm : (x.key, p) ∈ (its.map Item.key).zipIdx := by
      rw [List.mem_zipIdx_iff_getElem?]
      simp [hx]
    have := (h6 _ hm).2 e he
    simp only [Bool.or_eq_true, List.contains_iff_mem, List.mem_map] at this
    rcases this with h | ⟨k, hk, hke⟩
    · exact .inl h
    · obtain ⟨q, hq⟩ := List.getElem?_of_mem hk
      rw [List.getElem?_take] at hq
      split at hq
      · rename_i hqp
        simp only [List.getElem?_map, Option.map_eq_some_iff] at hq
        obtain ⟨y, hy, hyk⟩ := hq
        exact .inr ⟨q, y, hqp, hy, by rw [← hke, ← hyk]; rfl⟩
      · cases hq
  · exact h7 t ht it.i (List.mem_map.2 ⟨it, hit, rfl⟩)
  · have := h8 it.key (List.mem_map.2 ⟨it, hit, rfl⟩) (t, some q) hnd
    simp only [List.getElem?_map] at this
    cases hq : its[q]? with
    | none => simp [hq] at this
    | some y =>
      simp only [hq, Option.map_some, Bool.and_eq_true, beq_iff_eq] at this
      exact ⟨y, rfl, this.1, this.2⟩
  · have := h8 it.key (List.mem_map.2 ⟨it, hit, rfl⟩) (t, none) hnd
    simp only [List.all_eq_true, Bool.or_eq_true, Bool.not_eq_true', beq_eq_false_iff_ne] at this
    rcases this y.key (List.mem_map.2 ⟨y, hy, rfl⟩) with h | h
    · exact absurd hyt h
    · exact h

structure Good (ops : Array Oper) (L0 : List Nat) (its : List Item) (tl : List Nat) (listed : Array Bool) : Prop where
  size : listed.size = ops.size
  l0 : ∀ i ∈ L0, listed.getD i false = true
  tl : ∀ t ∈ tl, listed.getD t false = false
  closed : Closed ops fun i => listed.getD i false = true

theorem Good.waits {ops : Array Oper} {L0 : List Nat} {its : List Item} {tl : List Nat} {listed : Array Bool} (hg : Good ops L0 its tl listed) {i j : Nat} (h : ((masks ops ops.size).getD i 0).testBit j = true) (hi : ∀ e ∈ edges ops i, listed.getD e false = true) :
    listed.getD j false = true := masks_spec hg.closed ops.size i j h hi

theorem mem_edges {ops : Array Oper} {i e : Nat} {o : Oper} (ho : ops[i]? = some o) : e ∈ edges ops i ↔ ∃ x ∈ o.after, Region.binds .any x = true ∧ x.on = e := by
  simp only [edges, ho, List.mem_map, List.mem_filter, Array.mem_toList_iff]
  constructor
  · rintro ⟨x, ⟨h1, h2⟩, h3⟩; exact ⟨x, h1, h2, h3⟩
  · rintro ⟨x, h1, h2, h3⟩; exact ⟨x, ⟨h1, h2⟩, h3⟩

theorem filter_lt {α : Type} (p q : α → Bool) : ∀ (l : List α), (∀ x ∈ l, q x = true → p x = true) → (∃ x ∈ l, p x = true ∧ q x = false) → (l.filter q).length < (l.filter p).length
  | [], _, h => by obtain ⟨x, hx, _⟩ := h; cases hx
  | y :: l, hm, h => by
    have le : ∀ (l : List α), (∀ x ∈ l, q x = true → p x = true) → (l.filter q).length ≤ (l.filter p).length := by
      intro l
      induction l with
      | nil => intro _; simp
      | cons z l ih =>
        intro hm
        have h1 := ih fun x hx => hm x (by simp [hx])
        have h2 := hm z (by simp)
        cases hq : q z <;> cases hp : p z <;> simp [hq, hp] at h2 ⊢ <;> omega
    obtain ⟨x, hx, hpx, hqx⟩ := h
    rcases List.mem_cons.1 hx with rfl | hx
    · have h1 := le l fun z hz => hm z (by simp [hz])
      simp [hpx, hqx]
      omega
    · have h1 := filter_lt p q l (fun z hz => hm z (by simp [hz])) ⟨x, hx, hpx, hqx⟩
      have h2 := hm y (by simp)
      cases hq : q y <;> cases hp : p y <;> simp [hq, hp] at h2 ⊢ <;> omega

theorem first_of {α : Type} (p : α → Bool) : ∀ (l : List α), (∃ x ∈ l, p x = true) → ∃ (k : Nat) (x : α), l[k]? = some x ∧ p x = true ∧ ∀ q y, q < k → l[q]? = some y → p y = false
  | [], h => by obtain ⟨x, hx, _⟩ := h; cases hx
  | y :: l, h => by
    cases hp : p y with
    | true => exact ⟨0, y, by simp, hp, fun q z hq => by omega⟩
    | false =>
      obtain ⟨x, hx, hpx⟩ := h
      have hx' : x ∈ l := by
        rcases List.mem_cons.1 hx with rfl | hx
        · rw [hp] at hpx; cases hpx
        · exact hx
      obtain ⟨k, z, hz, hpz, hb⟩ := first_of p l ⟨x, hx', hpx⟩
      refine ⟨k + 1, z, by simpa using hz, hpz, fun q u hq hu => ?_⟩
      cases q with
      | zero => simp at hu; subst hu; exact hp
      | succ q => exact hb q u (by omega) (by simpa using hu)

theorem get_ends (fr0 : List (Nat × AV)) : ∀ (its : List Item) (t : Nat) (x : AV), get (its.map (fun it => (it.d, it.x)) ++ fr0) t = some x → (∃ it ∈ its, it.d = t ∧ x = it.x) ∨ ((∀ it ∈ its, it.d ≠ t) ∧ get fr0 t = some x)
  | [], t, x, h => .inr ⟨(fun _ h => by cases h), h⟩
  | it :: its, t, x, h => by
    simp only [List.map_cons, List.cons_append] at h
    by_cases hd : it.d = t
    · subst hd
      rw [get_cons_self] at h
      cases h
      exact .inl ⟨it, by simp, rfl, rfl⟩
    · rw [get_cons_ne _ _ hd] at h
      rcases get_ends fr0 its t x h with ⟨y, hy, h1⟩ | ⟨h1, h2⟩
      · exact .inl ⟨y, by simp [hy], h1⟩
      · refine .inr ⟨fun y hy => ?_, h2⟩
        rcases List.mem_cons.1 hy with rfl | hy
        · exact hd
        · exact h1 y hy

theorem draw_finish {ops : Array Oper} {L0 : List Nat} {its : List Item} {tl : List Nat} {fr0 : List (Nat × AV)} {H : List Ar} {Q2 : Exit → Act → World → Prop} (ok : DrawOk ops L0 its tl) (hb : tailB ops (L0 ++ its.map (·.i)) tl = true)
    (htail : ∀ a w, (∃ F, R C F ⟨its.map (fun it => (it.d, it.x)) ++ fr0, H⟩ a w) → wpOps P ops Q2 tl a w)
    {listed : Array Bool} {a : Act} {w : World} (hinv : Inv C its fr0 H listed a w) (hg : Good ops L0 its tl listed) (hall : ∀ it ∈ its, listed.getD it.i false = true) (fuel : Nat) (hf : tl.length ≤ fuel) : wpAny P .any ops Q2 fuel listed a w := by
  have e : listed = arr ops.size (L0 ++ its.map (·.i) ++ tl.take 0) := by
    apply Array.ext
    · simp [hg.size, arr]
    · intro i h1 h2
      have hi : i < ops.size := by rw [← hg.size]; exact h1
      have g1 : listed.getD i false = listed[i] := by simp [Array.getD, h1]
      have g2 := arr_getD (N := ops.size) (L := L0 ++ its.map (·.i) ++ tl.take 0) false hi
      have g3 : (arr ops.size (L0 ++ its.map (·.i) ++ tl.take 0)).getD i false = (arr ops.size (L0 ++ its.map (·.i) ++ tl.take 0))[i] := by rw [Array.getD_eq_getD_getElem?, Array.getElem?_eq_getElem h2]; rfl
      rw [← g1, ← g3, g2]
      rcases ok.cover i hi with h | ⟨it, hit, rfl⟩ | h
      · rw [hg.l0 i h]; simp [h]
      · rw [hall it hit]
        have : it.i ∈ its.map (·.i) := List.mem_map.2 ⟨it, hit, rfl⟩
        simp only [List.take_zero, List.append_nil]
        exact (List.contains_iff_mem.2 (List.mem_append.2 (.inr this))).symm
      · rw [hg.tl i h]
        obtain ⟨h1, h2, _⟩ := ok.tl0 i h
        have : ¬ i ∈ L0 ++ its.map (·.i) ++ tl.take 0 := by
          simp only [List.take_zero, List.append_nil, List.mem_append, List.mem_map, not_or]
          exact ⟨h1, fun ⟨it, hit, he⟩ => h2 it hit he⟩
        cases hc : (L0 ++ its.map (·.i) ++ tl.take 0).contains i with
        | false => rfl
        | true => exact absurd (List.contains_iff_mem.1 hc) this
  have ht := tail_any (P := P) (Q2 := Q2) hb (fun t ht => (ok.tl0 t ht).2.2) fuel 0 a w (by omega) (by omega)
  rw [e]
  refine ht ?_
  rw [List.drop_zero]
  obtain ⟨F, fr, hr, h1, h2⟩ := hinv.st
  refine htail a w ⟨F, hr.frame fun t x hx => ?_⟩
  rcases get_ends fr0 its t x hx with ⟨it, hit, rfl, rfl⟩ | ⟨h3, h4⟩
  · exact ⟨_, h1 it hit (hall it hit), fun _ _ h => h⟩
  · exact ⟨x, h2 t x h4 fun it hit _ => h3 it hit, fun _ _ h => h⟩

theorem needs_hold {its : List Item} {fr0 fr : List (Nat × AV)} : ∀ {nd : List (Nat × Option Nat)} {needs : List (Nat × AV)}, needsOf its fr0 nd = some needs →
    (∀ t q y, (t, some q) ∈ nd → its[q]? = some y → get fr t = some y.x) → (∀ t x, (t, none) ∈ nd → get fr0 t = some x → get fr t = some x) → ∀ t x, (t, x) ∈ needs → get fr t = some x
  | [], needs, h, _, _, t, x, hm => by simp only [needsOf, Option.some.injEq] at h; subst h; cases hm
  | (u, some q) :: r, needs, h, h1, h2, t, x, hm => by
    simp only [needsOf] at h
    split at h
    · rename_i it hit
      split at h
      · rename_i ys hys
        cases h
        rcases List.mem_cons.1 hm with he | hm
        · cases he
          exact h1 _ q it (by simp) hit
        · exact needs_hold hys (fun t q y hm hy => h1 t q y (by simp [hm]) hy) (fun t x hm hx => h2 t x (by simp [hm]) hx) t x hm
      · cases h
    · cases h
  | (u, none) :: r, needs, h, h1, h2, t, x, hm => by
    simp only [needsOf] at h
    split at h
    · rename_i y hy
      split at h
      · rename_i ys hys
        cases h
        rcases List.mem_cons.1 hm with he | hm
        · cases he
          exact h2 _ _ (by simp) hy
        · exact needs_hold hys (fun t q y hm hy => h1 t q y (by simp [hm]) hy) (fun t x hm hx => h2 t x (by simp [hm]) hx) t x hm
      · cases h
    · cases h

theorem draw_main {ops : Array Oper} {L0 : List Nat} {its : List Item} {tl : List Nat} {fr0 : List (Nat × AV)} {H : List Ar} {Q2 : Exit → Act → World → Prop} (ok : DrawOk ops L0 its tl) (hb : tailB ops (L0 ++ its.map (·.i)) tl = true) (hs : ∀ it ∈ its, it.ok C ops H fr0 its)
    (htail : ∀ a w, (∃ F, R C F ⟨its.map (fun it => (it.d, it.x)) ++ fr0, H⟩ a w) → wpOps P ops Q2 tl a w) :
    ∀ (fuel : Nat) (listed : Array Bool) (a : Act) (w : World), Inv C its fr0 H listed a w → Good ops L0 its tl listed → ((its.filter fun it => !listed.getD it.i false).length + tl.length ≤ fuel) → wpAny P .any ops Q2 fuel listed a w := by
  intro fuel
  have allOf : ∀ {listed : Array Bool}, (its.filter fun it => !listed.getD it.i false) = [] → ∀ it ∈ its, listed.getD it.i false = true := by
    intro listed h it hit
    have := List.filter_eq_nil_iff.1 h it hit
    cases hb : listed.getD it.i false with
    | true => rfl
    | false => rw [hb] at this; exact absurd rfl this
  induction fuel with
  | zero =>
    intro listed a w hinv hg hf
    exact draw_finish ok hb htail hinv hg (allOf (List.length_eq_zero_iff.1 (by omega))) 0 (by omega)
  | succ fuel ih =>
    intro listed a w hinv hg hf
    by_cases hall : (its.filter fun it => !listed.getD it.i false) = []
    · exact draw_finish ok hb htail hinv hg (allOf hall) (fuel + 1) (by rw [hall] at hf; simpa using hf)
    · have hex : ∃ it ∈ its, (!listed.getD it.i false) = true := by
        obtain ⟨it, hit⟩ := List.exists_mem_of_ne_nil _ hall
        exact ⟨it, (List.mem_filter.1 hit).1, (List.mem_filter.1 hit).2⟩
      refine ⟨fun h0 => ?_, fun i hi => ?_⟩
      · -- something may come up
        obtain ⟨p, x, hx, hux, hbefore⟩ := first_of (fun it : Item => !listed.getD it.i false) its hex
        exfalso
        have hxm := List.mem_of_getElem? hx
        have hlt := (ok.cl0 x hxm).2
        have hr : x.i ∈ Region.ready .any ops listed := by
          refine mem_ready.2 ⟨?_, ops[x.i], Array.getElem?_eq_getElem hlt, fun e he hb => ?_⟩
          · have : listed.getD x.i false = false := by simpa using hux
            rw [Array.getD_eq_getD_getElem?] at this ⊢
            have hl : x.i < listed.size := by rw [hg.size]; exact hlt
            rw [Array.getElem?_eq_getElem hl] at this ⊢
            exact this
          · have hed : e.on ∈ edges ops x.i := (mem_edges (Array.getElem?_eq_getElem hlt)).2 ⟨e, he, hb, rfl⟩
            rcases ok.early p x hx e.on hed with h | ⟨q, y, hq, hy, hye⟩
            · exact hg.l0 _ h
            · have := hbefore q y hq hy
              rw [← hye]
              simpa using this
        rw [h0] at hr
        cases hr
      · obtain ⟨hun, o, ho, hed⟩ := mem_ready.1 hi
        have hlt : i < ops.size := (Array.getElem?_eq_some_iff.1 ho).1
        have hl : i < listed.size := by rw [hg.size]; exact hlt
        have hun' : listed.getD i false = false := by
          rw [Array.getD_eq_getD_getElem?] at hun ⊢
          rw [Array.getElem?_eq_getElem hl] at hun ⊢
          exact hun
        have hedges : ∀ e ∈ edges ops i, listed.getD e false = true := fun e he => by
          obtain ⟨x, hx, hb, rfl⟩ := (mem_edges ho).1 he
          exact hed x hx hb
        rcases ok.cover i hlt with h | ⟨it, hit, rfl⟩ | h
        · rw [hg.l0 i h] at hun'; cases hun'
        · obtain ⟨needs, hneeds, hrun⟩ := hs it hit
          obtain ⟨F, fr, hr, h1, h2⟩ := hinv.st
          have hhold : ∀ t x, (t, x) ∈ needs → get fr t = some x := by
            refine needs_hold hneeds (fun t q y hm hy => ?_) (fun t x hm hx => ?_)
            · obtain ⟨y', hy', hyt, hb⟩ := ok.from' it hit t q hm
              rw [hy] at hy'
              cases hy'
              rw [← hyt]
              exact h1 y (List.mem_of_getElem? hy) (hg.waits hb hedges)
            · refine h2 t x hx fun y hy hly hyt => ?_
              have hb := ok.from0 it hit t hm y hy hyt
              have := hg.waits hb (fun e he => hg.closed y.i hly e he)
              rw [hun'] at this
              cases this
          have hget := get_needs hhold
          have hr' : R C F ⟨needs ++ fr, H⟩ a w := hr.frame fun t x hx => ⟨x, by rw [← hget]; exact hx, fun _ _ h => h⟩
          have hone := hrun fr F a w hr'
          rw [wpOps_cons] at hone
          refine wpOp_single hone fun a' w' ⟨F', s', hr2, _, hs'⟩ => ?_
          subst hs'
          have hset : ∀ j, (listed.setIfInBounds it.i true).getD j false = true ↔ j = it.i ∨ listed.getD j false = true := by
            intro j
            by_cases hj : it.i = j
            · subst hj
              simp [Array.getD_eq_getD_getElem?, hl]
            · rw [getD_set_ne false hj]
              constructor
              · exact .inr
              · rintro (h | h)
                · exact absurd h.symm hj
                · exact h
          have hpos : ∃ p, its[p]? = some it := List.getElem?_of_mem hit
          have hdist : ∀ y ∈ its, y.i ≠ it.i → y.d ≠ it.d := fun y hy hne => by
            obtain ⟨p, hp⟩ := hpos
            obtain ⟨q, hq⟩ := List.getElem?_of_mem hy
            rcases Nat.lt_trichotomy p q with h | h | h
            · exact fun e => (ok.dist q p y it hq hp h).2 e.symm
            · subst h; rw [hp] at hq; cases hq; exact absurd rfl hne
            · exact (ok.dist p q it y hp hq h).2
          have hsame : ∀ y ∈ its, y.i = it.i → y = it := fun y hy he => by
            obtain ⟨p, hp⟩ := hpos
            obtain ⟨q, hq⟩ := List.getElem?_of_mem hy
            rcases Nat.lt_trichotomy p q with h | h | h
            · exact absurd he.symm (ok.dist q p y it hq hp h).1
            · subst h; rw [hp] at hq; cases hq; rfl
            · exact absurd he (ok.dist p q it y hp hq h).1
          refine ih _ a' w' ⟨F', _, hr2, fun y hy hly => ?_, fun t x hx hno => ?_⟩ ⟨by simp [hg.size], fun j hj => (hset j).2 (.inr (hg.l0 j hj)), fun t ht => ?_, fun j hj e he => ?_⟩ ?_
          · rcases (hset _).1 hly with he | hly
            · rw [hsame y hy he]; exact get_cons_self _ _ _
            · by_cases he : y.i = it.i
              · rw [hsame y hy he]; exact get_cons_self _ _ _
              · rw [get_cons_ne _ _ (hdist y hy he).symm, hget]
                exact h1 y hy hly
          · have hd : it.d ≠ t := hno it hit ((hset _).2 (.inl rfl))
            rw [get_cons_ne _ _ hd, hget]
            exact h2 t x hx fun y hy hly => hno y hy ((hset _).2 (.inr hly))
          · cases hb : (listed.setIfInBounds it.i true).getD t false with
            | false => rfl
            | true =>
              rcases (hset t).1 hb with h | h
              · exact absurd h.symm ((ok.tl0 t ht).2.1 it hit)
              · rw [hg.tl t ht] at h; cases h
          · refine (hset e).2 (.inr ?_)
            rcases (hset j).1 hj with rfl | hj
            · exact hedges e he
            · exact hg.closed j hj e he
          · have hlt2 := filter_lt (fun y : Item => !listed.getD y.i false) (fun y : Item => !(listed.setIfInBounds it.i true).getD y.i false) its (fun y _ hq => by
              cases hb : listed.getD y.i false with
              | false => rfl
              | true =>
                have := (hset y.i).2 (.inr hb)
                rw [this] at hq
                cases hq) ⟨it, hit, by rw [hun']; rfl, by rw [(hset it.i).2 (.inl rfl)]; rfl⟩
            omega
        · exfalso
          obtain ⟨it, hit, hu⟩ := hex
          have := hg.waits (ok.wait i h it hit) hedges
          rw [this] at hu
          cases hu
/-! ### the moves -/
/-- A region of which the operations L0 have come. -/
def Drawn (C : Cx P n) (ops : Array Oper) (L0 : List Nat) (Q : Post) (s : St) : Prop :=
  ∀ F a w, R C F s a w → ∀ fuel, left ops.size L0 ≤ fuel → wpAny P .any ops (NoPanic (lift C Q)) fuel (arr ops.size L0) a w

theorem WP.draw {id : Nat} {ops : Array Oper} (hm : P.follows .mixedOrders = true) (h : Drawn C ops [] Q s) : WP C (.region id ops true) Q s :=
  fun F a w hr => wp_region_noPanic (wp_region_any hm (by
    have e : Array.replicate ops.size false = arr ops.size [] := by
      apply Array.ext
      · simp [arr]
      · intro i h1 h2
        simp [arr]
    rw [e]
    refine h F a _ hr.drew ops.size ?_
    have := List.length_filter_le (fun i => !([] : List Nat).contains i) (List.range ops.size)
    simpa [left] using this))

/-- Copies of slots may be taken first. -/
theorem Drawn.move {ops : Array Oper} {L0 : List Nat} (i : Nat) {d : Nat} {x : Operand} {v : AV} {T : TypeId} {pos : String} {aft : Array Edge} (hi : ops[i]? = some ⟨some d, .move x, T, pos, aft, none⟩)
    (hchk : (Region.noSelect ops && Region.free .any ops (arr ops.size L0) i && (Region.ready .any ops (arr ops.size L0)).contains i && !L0.contains i) = true) (hdn : Nat.blt d n = true) (hx : Ev s.fr x v)
    (k : Drawn C ops (L0 ++ [i]) Q (s.put d v)) : Drawn C ops L0 Q s := by
  intro F a w hr fuel hf
  simp only [Bool.and_eq_true] at hchk
  obtain ⟨⟨⟨h1, h2⟩, h3⟩, h4⟩ := hchk
  have hlt : i < ops.size := (Array.getElem?_eq_some_iff.1 hi).1
  have e : (arr ops.size L0).setIfInBounds i true = arr ops.size (L0 ++ [i]) := by
    apply Array.ext
    · simp [arr]
    · intro j h1 h2
      have hj1 : j < (arr ops.size L0).size := by simpa using h1
      rw [Array.getElem_setIfInBounds hj1]
      split
      · rename_i hij; simp [arr, hij]
      · rename_i hij
        have : ¬ j = i := fun h => hij h.symm
        simp [arr, this]
  have hput := hr.put hdn (Ev.rel hr hx)
  have hless : left ops.size (L0 ++ [i]) < left ops.size L0 := filter_lt _ _ _ (fun j _ hj => by
    cases hb : L0.contains j with
    | false => rfl
    | true =>
      have : (L0 ++ [i]).contains j = true := List.contains_iff_mem.2 (List.mem_append.2 (.inl (List.contains_iff_mem.1 hb)))
      rw [this] at hj
      cases hj) ⟨i, by simpa using hlt, h4, by simp⟩
  cases fuel with
  | zero => omega
  | succ fuel =>
    refine wpAny_take (v := a.eval x) hi h1 h2 h3 (fun c a w h => (h : False).elim) (.inl ⟨by simp [Region.wanted], fun w => by simp [execOp]⟩) ?_
    rw [e]
    exact k F _ w hput fuel (by omega)

/-- What is calm, one after the other in the text's order; each in whatever order it comes. -/
def Draw (C : Cx P n) (ops : Array Oper) (L0 : List Nat) (H : List Ar) (fr0 : List (Nat × AV)) (Q : Post) (its : List Item) : Prop :=
  (∀ it ∈ its, it.ok C ops H fr0 its) → Drawn C ops L0 Q ⟨fr0, H⟩

theorem Drawn.calm {ops : Array Oper} {L0 : List Nat} (k : Draw C ops L0 s.hp s.fr Q []) : Drawn C ops L0 Q s := k fun _ h => by cases h

theorem Draw.op (i d : Nat) (nd : List (Nat × Option Nat)) {ops : Array Oper} {L0 : List Nat} {H : List Ar} {fr0 : List (Nat × AV)} {its : List Item} {needs : List (Nat × AV)} {x : AV} (hn : needsOf its fr0 nd = some needs)
    (h : ∀ rest, Run C ops [i] (Single d x (needs ++ rest) H) ⟨needs ++ rest, H⟩) (k : Draw C ops L0 H fr0 Q (its ++ [⟨i, d, nd, x⟩])) : Draw C ops L0 H fr0 Q its := by
  intro hs
  refine k fun it hit => ?_
  rcases List.mem_append.1 hit with hit | hit
  · obtain ⟨nds, h1, h2⟩ := hs it hit
    exact ⟨nds, needsOf_mono h1, h2⟩
  · simp only [List.mem_singleton] at hit
    subst hit
    exact ⟨needs, needsOf_mono hn, h⟩

abbrev np (Q : Post) : Post
  | .panic _, _ => False
  | e, s => Q e s

theorem wpOps_mono {ops : Array Oper} {Q1 Q2 : Exit → Act → World → Prop} (hq : ∀ e a w, Q1 e a w → Q2 e a w) : ∀ (l : List Nat) (a : Act) (w : World), wpOps P ops Q1 l a w → wpOps P ops Q2 l a w
  | [], a, w, h => hq _ _ _ h
  | i :: l, a, w, h => by
    rw [wpOps_cons] at h ⊢
    have ih := wpOps_mono (ops := ops) hq l
    unfold wpOp at h ⊢
    split at h
    · exact ih _ _ h
    · rename_i o ho
      split at h
      · rename_i hw
        simp only [hw, if_true]
        rcases h with h | ⟨h1, a0, w0, h2⟩
        · refine .inl ?_
          have h2 := Oper.wp_mono (K' := wpOps P ops Q2 l) ih h
          unfold Oper.wp at h2 ⊢
          generalize (execOp a.eval o).run P w = r at h2 ⊢
          cases r with
          | ok nx w' =>
            cases nx <;> simp only [Oper.upon] at h2 ⊢ <;> first
              | exact h2
              | exact Calls.mono h2 (fun e w'' he => by
                  cases e with
                  | returned v => exact he
                  | panicked c => exact hq _ _ _ he
                  | outgrown => obtain ⟨a1, w1, he⟩ := he; exact ⟨a1, w1, hq _ _ _ he⟩)
          | halt hh w' =>
            cases hh <;> simp only [Oper.upon] at h2 ⊢
            all_goals first
              | exact h2
              | exact hq _ _ _ h2
        · exact .inr ⟨h1, a0, w0, hq _ _ _ h2⟩
      · rename_i hw
        simp only [hw]
        exact ih _ _ h

theorem Draw.tail (tl : List Nat) {ops : Array Oper} {L0 : List Nat} {H : List Ar} {fr0 : List (Nat × AV)} {its : List Item} {ks : List Key} (hk : its.map Item.key = ks) (hb : drawB ops L0 ks tl = true)
    (k : Run C ops tl (np Q) ⟨its.map (fun it => (it.d, it.x)) ++ fr0, H⟩) : Draw C ops L0 H fr0 Q its := by
  intro hs F a w hr fuel hf
  simp only [drawB, Bool.and_eq_true] at hb
  have ok := drawB_spec (by rw [hk]; exact hb.1 : drawB0 ops L0 (its.map Item.key) tl = true)
  have hb2 : tailB ops (L0 ++ its.map (·.i)) tl = true := by
    have := hb.2
    rw [← hk, List.map_map] at this
    exact this
  have hnp : ∀ e a w, lift C (np Q) e a w → NoPanic (lift C Q) e a w := fun e a w h => by
    cases e with
    | panic c => obtain ⟨F, s, _, hq⟩ := h; exact hq.elim
    | _ => exact h
  have hget : ∀ i, (arr ops.size L0).getD i false = true ↔ i ∈ L0 ∧ i < ops.size := by
    intro i
    by_cases hi : i < ops.size
    · rw [arr_getD false hi]
      simp [hi]
    · rw [Array.getD_eq_getD_getElem?, Array.getElem?_eq_none (by rw [arr_size]; omega)]
      simp [hi]
  refine draw_main (P := P) ok hb2 hs (fun a w ⟨F, hr⟩ => ?_) fuel (arr ops.size L0) a w ⟨F, fr0, hr, fun it hit hl => ?_, fun t x hx _ => hx⟩ ⟨arr_size _ _, fun i hi => (hget i).2 ⟨hi, (ok.L0c i hi).1⟩, fun t ht => ?_, fun i hi e he => ?_⟩ ?_
  · exact wpOps_mono hnp tl a w (k F a w hr)
  · exact absurd ((hget _).1 hl).1 (ok.cl0 it hit).1
  · cases hb : (arr ops.size L0).getD t false with
    | false => rfl
    | true => exact absurd ((hget t).1 hb).1 (ok.tl0 t ht).1
  · have h1 := ((hget i).1 hi).1
    have h2 := (ok.L0c i h1).2 e he
    exact (hget e).2 ⟨h2, (ok.L0c e h2).1⟩
  · have := List.length_filter_le (fun it : Item => !(arr ops.size L0).getD it.i false) its
    have := ok.few
    omega
end
end Go.Ab
