/- Plain facts: what is reached by steps of a finite set onto itself: by a list that grows, by labels that are united. -/
import Derived.Test.YtlipjbfmmheicaaP15
namespace Go.Ab

theorem nodup_sub_len {α : Type} [DecidableEq α] : ∀ {l s : List α}, l.Nodup → (∀ x ∈ l, x ∈ s) → l.length ≤ s.length
  | [], _, _, _ => by simp
  | x :: l, s, hn, hs => by
    rw [List.nodup_cons] at hn
    have hx := hs x (by simp)
    have h := nodup_sub_len (s := s.erase x) hn.2 fun y hy => (List.mem_erase_of_ne (by rintro rfl; exact hn.1 hy)).2 (hs y (by simp [hy]))
    have h2 := List.length_erase_of_mem hx
    have h3 : 0 < s.length := List.length_pos_of_mem hx
    simp only [List.length_cons]
    omega
theorem nodup_sub_eq {α : Type} [DecidableEq α] {l s : List α} (hn : l.Nodup) (hs : ∀ x ∈ l, x ∈ s) (hl : s.length ≤ l.length) : ∀ x ∈ s, x ∈ l := by
  intro x hx
  refine Classical.byContradiction fun hc => ?_
  have := nodup_sub_len (l := x :: l) (s := s) (List.nodup_cons.2 ⟨hc, hn⟩) (by
    intro y hy
    rcases List.mem_cons.1 hy with rfl | hy
    · exact hx
    · exact hs y hy)
  simp only [List.length_cons] at this
  omega

section
variable {α β : Type}
/-- Steps of a set onto itself, none of which makes two points one. -/
structure Perms (st : β → α → α) (S : List α) (ms : List β) : Prop where
  mem : ∀ m ∈ ms, ∀ x ∈ S, st m x ∈ S
  inj : ∀ m ∈ ms, ∀ x ∈ S, ∀ y ∈ S, st m x = st m y → x = y
inductive Reach (st : β → α → α) (ms : List β) : α → α → Prop
  | refl (a : α) : Reach st ms a a
  | step {a b : α} {m : β} : Reach st ms a b → m ∈ ms → Reach st ms a (st m b)
theorem Reach.trans {st : β → α → α} {ms : List β} {a b c : α} (h1 : Reach st ms a b) (h2 : Reach st ms b c) : Reach st ms a c := by
  induction h2 with
  | refl => exact h1
  | step _ hm ih => exact .step ih hm
theorem Reach.one {st : β → α → α} {ms : List β} {a : α} {m : β} (hm : m ∈ ms) : Reach st ms a (st m a) := .step (.refl a) hm
theorem Reach.in {st : β → α → α} {S : List α} {ms : List β} (P : Perms st S ms) {a b : α} (h : Reach st ms a b) (ha : a ∈ S) : b ∈ S := by
  induction h with
  | refl => exact ha
  | step _ hm ih => exact P.mem _ hm _ ih

/-! ### by a list that grows -/
section
variable [DecidableEq α]
def addV (st : β → α → α) (x : α) (L : List α) (m : β) : List α := if st m x ∈ L then L else L ++ [st m x]
def roundV (st : β → α → α) (x : α) (L : List α) (ms : List β) : List α := ms.foldl (addV st x) L
def orbGo (st : β → α → α) (z : α) (ms : List β) : Nat → Nat → List α → List α
  | 0, _, L => L
  | f + 1, i, L => if i < L.length then orbGo st z ms f (i + 1) (roundV st (L.getD i z) L ms) else L
def orb (st : β → α → α) (z : α) (ms : List β) (n : Nat) (a : α) : List α := orbGo st z ms (n + 1) 0 [a]

variable {st : β → α → α} {S : List α} {ms : List β} {z : α}
theorem addV_le (x : α) (L : List α) (m : β) : L.length ≤ (addV st x L m).length ∧ (addV st x L m).length ≤ L.length + 1 := by
  unfold addV
  split
  · omega
  · simp
theorem addV_pre (x : α) (L : List α) (m : β) {k : Nat} (hk : k < L.length) : (addV st x L m).getD k z = L.getD k z := by
  unfold addV
  split
  · rfl
  · simp [List.getD, List.getElem?_append_left hk]
theorem addV_mem (x : α) (L : List α) (m : β) {y : α} : y ∈ addV st x L m ↔ y ∈ L ∨ y = st m x := by
  unfold addV
  split
  · rename_i h
    exact ⟨.inl, fun h' => h'.elim id fun e => e ▸ h⟩
  · simp
theorem addV_nodup {x : α} {L : List α} {m : β} (h : L.Nodup) : (addV st x L m).Nodup := by
  unfold addV
  split
  · exact h
  · rename_i hn
    rw [List.nodup_append]
    exact ⟨h, by simp, fun a ha b hb => by simp only [List.mem_singleton] at hb; subst hb; rintro rfl; exact hn ha⟩
theorem roundV_take (x : α) (L : List α) {y : β} {k : Nat} (hk : k < ms.length) : roundV st x L (ms.take (k + 1)) = addV st x (roundV st x L (ms.take k)) (ms.getD k y) := by
  unfold roundV
  rw [List.take_add_one, List.foldl_append]
  simp [hk]
theorem roundV_le (x : α) : ∀ (ms : List β) (L : List α), L.length ≤ (roundV st x L ms).length
  | [], L => by simp [roundV]
  | m :: ms, L => by
    have h1 := addV_le (st := st) x L m
    have h2 := roundV_le x ms (addV st x L m)
    simp only [roundV, List.foldl_cons] at h2 ⊢
    omega
theorem roundV_ub (x : α) : ∀ (ms : List β) (L : List α), (roundV st x L ms).length ≤ L.length + ms.length
  | [], L => by simp [roundV]
  | m :: ms, L => by
    have h1 := addV_le (st := st) x L m
    have h2 := roundV_ub x ms (addV st x L m)
    simp only [roundV, List.foldl_cons, List.length_cons] at h2 ⊢
    omega
theorem roundV_pre (x : α) : ∀ (ms : List β) (L : List α) {k : Nat}, k < L.length → (roundV st x L ms).getD k z = L.getD k z
  | [], L, k, hk => rfl
  | m :: ms, L, k, hk => by
    have h1 := addV_le (st := st) x L m
    have h2 := roundV_pre x ms (addV st x L m) (k := k) (by omega)
    simp only [roundV, List.foldl_cons] at h2 ⊢
    rw [h2, addV_pre x L m hk]
theorem roundV_mem (x : α) : ∀ (ms : List β) (L : List α) {y : α}, y ∈ roundV st x L ms ↔ y ∈ L ∨ ∃ m ∈ ms, y = st m x
  | [], L, y => by simp [roundV]
  | m :: ms, L, y => by
    have := roundV_mem x ms (addV st x L m) (y := y)
    simp only [roundV, List.foldl_cons] at this ⊢
    rw [this, addV_mem]
    simp only [List.mem_cons, exists_eq_or_imp]
    exact or_assoc
theorem roundV_nodup (x : α) : ∀ (ms : List β) {L : List α}, L.Nodup → (roundV st x L ms).Nodup
  | [], _, h => h
  | m :: ms, L, h => by
    have := roundV_nodup x ms (addV_nodup (st := st) (x := x) (m := m) h)
    simpa only [roundV, List.foldl_cons] using this
/-- What holds at the head of the outer loop. -/
structure OrbI (st : β → α → α) (S : List α) (ms : List β) (z : α) (a : α) (i : Nat) (L : List α) : Prop where
  le : i ≤ L.length
  nodup : L.Nodup
  sub : ∀ x ∈ L, x ∈ S
  has : a ∈ L
  reach : ∀ x ∈ L, Reach st ms a x
  closed : ∀ k, k < i → ∀ m ∈ ms, st m (L.getD k z) ∈ L
theorem getD_mem {α : Type} {L : List α} {k : Nat} {z : α} (h : k < L.length) : L.getD k z ∈ L := by
  rw [List.getD_eq_getElem?_getD, List.getElem?_eq_getElem h]
  exact List.getElem_mem h
theorem OrbI.lt {a : α} {i : Nat} {L : List α} (h : OrbI st S ms z a i L) : L.length ≤ S.length := nodup_sub_len h.nodup h.sub
theorem OrbI.start {α β : Type} {st : β → α → α} {S : List α} {ms : List β} {z a : α} (ha : a ∈ S) : OrbI st S ms z a 0 [a] :=
  ⟨by simp, by simp, by simpa using ha, by simp, by simpa using Reach.refl a, fun k hk => absurd hk (by omega)⟩
theorem OrbI.next (P : Perms st S ms) {a : α} {i : Nat} {L : List α} (h : OrbI st S ms z a i L) (hi : i < L.length) : OrbI st S ms z a (i + 1) (roundV st (L.getD i z) L ms) := by
  have hle := roundV_le (st := st) (L.getD i z) ms L
  have hx := getD_mem (z := z) hi
  refine ⟨by omega, roundV_nodup _ _ h.nodup, ?_, ?_, ?_, ?_⟩
  · intro y hy
    rcases (roundV_mem _ _ _).1 hy with hy | ⟨m, hm, rfl⟩
    · exact h.sub y hy
    · exact P.mem m hm _ (h.sub _ hx)
  · exact (roundV_mem _ _ _).2 (.inl h.has)
  · intro y hy
    rcases (roundV_mem _ _ _).1 hy with hy | ⟨m, hm, rfl⟩
    · exact h.reach y hy
    · exact .step (h.reach _ hx) hm
  · intro k hk m hm
    rw [roundV_pre _ _ _ (by omega)]
    by_cases hki : k = i
    · subst hki
      exact (roundV_mem _ _ _).2 (.inr ⟨m, hm, rfl⟩)
    · exact (roundV_mem _ _ _).2 (.inl (h.closed k (by omega) m hm))
theorem orbGo_fin (P : Perms st S ms) {a : α} : ∀ (f i : Nat) (L : List α), i + f = S.length + 1 → OrbI st S ms z a i L → OrbI st S ms z a (orbGo st z ms f i L).length (orbGo st z ms f i L)
  | 0, i, L, hf, h => by
    have h1 := h.lt
    have h2 := h.le
    omega
  | f + 1, i, L, hf, h => by
    simp only [orbGo]
    split
    · rename_i hi
      exact orbGo_fin P f (i + 1) _ (by omega) (h.next P hi)
    · rename_i hi
      have : i = L.length := by have := h.le; omega
      exact this ▸ h
theorem orb_spec (P : Perms st S ms) {a : α} (ha : a ∈ S) : OrbI st S ms z a (orb st z ms S.length a).length (orb st z ms S.length a) := orbGo_fin P _ 0 [a] (by omega) (OrbI.start ha)
theorem OrbI.all {α β : Type} {st : β → α → α} {S : List α} {ms : List β} {z a : α} {L : List α} (h : OrbI st S ms z a L.length L) : ∀ x ∈ L, ∀ m ∈ ms, st m x ∈ L := by
  intro x hx m hm
  obtain ⟨k, hk⟩ := List.getElem?_of_mem hx
  have hlt : k < L.length := by
    rcases Nat.lt_or_ge k L.length with h' | h'
    · exact h'
    · rw [List.getElem?_eq_none h'] at hk; cases hk
  have := h.closed k hlt m hm
  rwa [List.getD_eq_getElem?_getD, hk] at this
theorem orb_iff (P : Perms st S ms) {a b : α} (ha : a ∈ S) : b ∈ orb st z ms S.length a ↔ Reach st ms a b := by
  have h := orb_spec (z := z) P ha
  constructor
  · exact h.reach b
  · intro hr
    induction hr with
    | refl => exact h.has
    | step _ hm ih => exact h.all _ ih _ hm
theorem map_nodup {α γ : Type} {f : α → γ} : ∀ {l : List α}, l.Nodup → (∀ x ∈ l, ∀ y ∈ l, f x = f y → x = y) → (l.map f).Nodup
  | [], _, _ => by simp
  | x :: l, h, hi => by
    rw [List.nodup_cons] at h
    rw [List.map_cons, List.nodup_cons]
    refine ⟨fun hx => ?_, map_nodup h.2 fun a ha b hb => hi a (by simp [ha]) b (by simp [hb])⟩
    obtain ⟨y, hy, he⟩ := List.mem_map.1 hx
    have := hi y (by simp [hy]) x (by simp) he
    exact h.1 (this ▸ hy)
theorem Reach.back (P : Perms st S ms) {x : α} {m : β} (hx : x ∈ S) (hm : m ∈ ms) : Reach st ms (st m x) x := by
  have hy := P.mem m hm x hx
  have h := orb_spec (z := x) P hy
  have hmap : ((orb st x ms S.length (st m x)).map (st m)).Nodup := map_nodup h.nodup fun a ha b hb e => P.inj m hm a (h.sub a ha) b (h.sub b hb) e
  have hsub : ∀ y ∈ (orb st x ms S.length (st m x)).map (st m), y ∈ orb st x ms S.length (st m x) := by
    intro y hy
    obtain ⟨w, hw, rfl⟩ := List.mem_map.1 hy
    exact h.all w hw m hm
  have := nodup_sub_eq hmap hsub (by simp) _ h.has
  obtain ⟨w, hw, he⟩ := List.mem_map.1 this
  have := P.inj m hm w (h.sub w hw) x hx he
  exact h.reach x (this ▸ hw)
theorem Reach.symm (P : Perms st S ms) {a b : α} (ha : a ∈ S) (h : Reach st ms a b) : Reach st ms b a := by
  induction h with
  | refl => exact .refl a
  | step hr hm ih => exact (Reach.back P (Reach.in P hr ha) hm).trans ih

/-! ### by labels that are united -/
def relab (hi lo : Nat) (c : List Nat) : List Nat := c.map fun x => if x = hi then lo else x
def uni (c : List Nat) (i j : Nat) : List Nat := if c.getD i 0 = c.getD j 0 then c else relab (max (c.getD i 0) (c.getD j 0)) (min (c.getD i 0) (c.getD j 0)) c
def uniRow (f : Nat → Nat) (c : List Nat) (k : Nat) : List Nat := (List.range k).foldl (fun c i => uni c i (f i)) c
def uniAll (st : β → α → α) (S : List α) (z : α) (ms : List β) (c : List Nat) : List Nat := ms.foldl (fun c m => uniRow (fun i => S.idxOf (st m (S.getD i z))) c S.length) c
def cls (st : β → α → α) (S : List α) (z : α) (ms : List β) : List Nat := uniAll st S z ms (List.range S.length)

structure ClsI (st : β → α → α) (S : List α) (z : α) (ms : List β) (c : List Nat) : Prop where
  len : c.length = S.length
  le : ∀ i, i < S.length → c.getD i 0 ≤ i
  fix : ∀ i, i < S.length → c.getD (c.getD i 0) 0 = c.getD i 0
  same : ∀ i j, i < S.length → j < S.length → c.getD i 0 = c.getD j 0 → Reach st ms (S.getD i z) (S.getD j z)
theorem relab_length (hi lo : Nat) (c : List Nat) : (relab hi lo c).length = c.length := by simp [relab]
theorem relab_get {hi lo : Nat} {c : List Nat} {i : Nat} (h : i < c.length) : (relab hi lo c).getD i 0 = if c.getD i 0 = hi then lo else c.getD i 0 := by
  simp [relab, h]
theorem uni_length (c : List Nat) (i j : Nat) : (uni c i j).length = c.length := by
  unfold uni
  split
  · rfl
  · exact relab_length _ _ _
theorem uni_keep {c : List Nat} {i j a b : Nat} (ha : a < c.length) (hb : b < c.length) (h : c.getD a 0 = c.getD b 0) : (uni c i j).getD a 0 = (uni c i j).getD b 0 := by
  unfold uni
  split
  · exact h
  · rw [relab_get ha, relab_get hb, h]
theorem uni_join {c : List Nat} {i j : Nat} (hi : i < c.length) (hj : j < c.length) : (uni c i j).getD i 0 = (uni c i j).getD j 0 := by
  unfold uni
  split
  · assumption
  · rename_i hne
    rw [relab_get hi, relab_get hj]
    rcases Nat.lt_or_ge (c.getD i 0) (c.getD j 0) with h | h
    · rw [Nat.max_eq_right (by omega), Nat.min_eq_left (by omega), if_neg hne, if_pos rfl]
    · rw [Nat.max_eq_left h, Nat.min_eq_right h, if_pos rfl, if_neg (Ne.symm hne)]
theorem ClsI.start {α β : Type} {st : β → α → α} {S : List α} {z : α} {ms : List β} : ClsI st S z ms (List.range S.length) := by
  have h : ∀ i, i < S.length → (List.range S.length).getD i 0 = i := fun i hi => by simp [hi]
  refine ⟨by simp, fun i hi => by rw [h i hi]; exact Nat.le_refl _, fun i hi => by rw [h i hi, h i hi], fun i j hi hj e => ?_⟩
  rw [h i hi, h j hj] at e
  exact e ▸ .refl _
theorem ClsI.uni (P : Perms st S ms) {c : List Nat} (h : ClsI st S z ms c) {i j : Nat} (hi : i < S.length) (hj : j < S.length) (hr : Reach st ms (S.getD i z) (S.getD j z)) : ClsI st S z ms (uni c i j) := by
  have hl := h.len
  unfold Ab.uni
  split
  · exact h
  rename_i hne
  have hS : ∀ k, k < S.length → S.getD k z ∈ S := fun k hk => getD_mem hk
  -- the greater and the smaller label, each with one that bears it
  obtain ⟨u, v, hu, hv, huv, hmx, hmn, hlt⟩ : ∃ u v, u < S.length ∧ v < S.length ∧ Reach st ms (S.getD u z) (S.getD v z) ∧ max (c.getD i 0) (c.getD j 0) = c.getD u 0 ∧ min (c.getD i 0) (c.getD j 0) = c.getD v 0 ∧ c.getD v 0 < c.getD u 0 := by
    rcases Nat.lt_or_ge (c.getD i 0) (c.getD j 0) with hlt | hge
    · exact ⟨j, i, hj, hi, hr.symm P (hS i hi), Nat.max_eq_right (by omega), Nat.min_eq_left (by omega), hlt⟩
    · exact ⟨i, j, hi, hj, hr, Nat.max_eq_left hge, Nat.min_eq_right hge, by omega⟩
  rw [hmx, hmn]
  have hvu := huv.symm P (hS u hu)
  have hg : ∀ k, k < S.length → (relab (c.getD u 0) (c.getD v 0) c).getD k 0 = if c.getD k 0 = c.getD u 0 then c.getD v 0 else c.getD k 0 := fun k hk => relab_get (by omega)
  refine ⟨by rw [relab_length, hl], ?_, ?_, ?_⟩
  · intro k hk
    have := h.le k hk
    rw [hg k hk]
    split <;> omega
  · intro k hk
    have hck : c.getD k 0 < S.length := by have := h.le k hk; omega
    have hcv : c.getD v 0 < S.length := by have := h.le v hv; omega
    rw [hg k hk]
    split
    · rw [hg _ hcv, h.fix v hv, if_neg (by omega)]
    · rename_i hk2
      rw [hg _ hck, h.fix k hk, if_neg hk2]
  · intro a b ha hb e
    rw [hg a ha, hg b hb] at e
    split at e
    · rename_i ea
      have h1 := h.same a u ha hu ea
      split at e
      · rename_i eb
        exact h.same a b ha hb (ea.trans eb.symm)
      · exact (h1.trans huv).trans (h.same v b hv hb e)
    · split at e
      · rename_i eb
        exact ((h.same a v ha hv e).trans hvu).trans (h.same u b hu hb eb.symm)
      · exact h.same a b ha hb e
theorem uniRow_succ (f : Nat → Nat) (c : List Nat) (k : Nat) : uniRow f c (k + 1) = uni (uniRow f c k) k (f k) := by
  unfold uniRow
  rw [List.range_succ, List.foldl_append]
  rfl
theorem idx_lt {S : List α} {x : α} (h : x ∈ S) : S.idxOf x < S.length := List.idxOf_lt_length_of_mem h
theorem idx_get {S : List α} {x : α} {z : α} (h : x ∈ S) : S.getD (S.idxOf x) z = x := by
  rw [List.getD_eq_getElem?_getD, List.getElem?_eq_getElem (idx_lt h)]
  simp
theorem ClsI.row (P : Perms st S ms) {c : List Nat} {m : β} (hm : m ∈ ms) (h : ClsI st S z ms c) : ∀ k, k ≤ S.length → ClsI st S z ms (uniRow (fun i => S.idxOf (st m (S.getD i z))) c k)
  | 0, _ => h
  | k + 1, hk => by
    have ih := ClsI.row P hm h k (by omega)
    rw [uniRow_succ]
    have hx := getD_mem (L := S) (z := z) (k := k) (by omega)
    have hy := P.mem m hm _ hx
    exact ih.uni P (by omega) (idx_lt hy) (by rw [idx_get hy]; exact .one hm)
theorem uniRow_keep (P : Perms st S ms) {c : List Nat} {m : β} (hc : c.length = S.length) {a b : Nat} (ha : a < S.length) (hb : b < S.length) (h : c.getD a 0 = c.getD b 0) :
    ∀ k, (uniRow (fun i => S.idxOf (st m (S.getD i z))) c k).length = S.length ∧ (uniRow (fun i => S.idxOf (st m (S.getD i z))) c k).getD a 0 = (uniRow (fun i => S.idxOf (st m (S.getD i z))) c k).getD b 0
  | 0 => ⟨hc, h⟩
  | k + 1 => by
    have ih := uniRow_keep P (m := m) hc ha hb h k
    rw [uniRow_succ]
    exact ⟨by rw [uni_length, ih.1], uni_keep (by rw [ih.1]; exact ha) (by rw [ih.1]; exact hb) ih.2⟩
theorem uniRow_len {c : List Nat} (f : Nat → Nat) : ∀ k, (uniRow f c k).length = c.length
  | 0 => rfl
  | k + 1 => by rw [uniRow_succ, uni_length, uniRow_len f k]
theorem uniRow_join (P : Perms st S ms) {c : List Nat} {m : β} (hm : m ∈ ms) (hc : c.length = S.length) {a : Nat} : ∀ k, a < k → k ≤ S.length →
    (uniRow (fun i => S.idxOf (st m (S.getD i z))) c k).getD a 0 = (uniRow (fun i => S.idxOf (st m (S.getD i z))) c k).getD (S.idxOf (st m (S.getD a z))) 0
  | 0, h, _ => absurd h (by omega)
  | k + 1, h, hk => by
    rw [uniRow_succ]
    have hl := uniRow_len (c := c) (fun i => S.idxOf (st m (S.getD i z))) k
    have hidx : ∀ i, i < S.length → S.idxOf (st m (S.getD i z)) < S.length := fun i hi => idx_lt (P.mem m hm _ (getD_mem hi))
    by_cases ha : a = k
    · subst ha
      exact uni_join (by omega) (by rw [hl, hc]; exact hidx a (by omega))
    · exact uni_keep (by omega) (by rw [hl, hc]; exact hidx a (by omega)) (uniRow_join P hm hc k (by omega) (by omega))
theorem uniAll_snoc (l : List β) (m : β) (c : List Nat) : uniAll st S z (l ++ [m]) c = uniRow (fun i => S.idxOf (st m (S.getD i z))) (uniAll st S z l c) S.length := by
  unfold uniAll
  rw [List.foldl_append]
  rfl
theorem ClsI.all (P : Perms st S ms) : ∀ {l : List β} {c : List Nat}, (∀ m ∈ l, m ∈ ms) → ClsI st S z ms c → ClsI st S z ms (uniAll st S z l c)
  | [], _, _, h => h
  | m :: l, c, hl, h => by
    have := ClsI.all P (l := l) (fun x hx => hl x (by simp [hx])) (h.row P (hl m (by simp)) S.length (Nat.le_refl _))
    simpa only [uniAll, List.foldl_cons] using this
theorem uniAll_keep (P : Perms st S ms) {a b : Nat} (ha : a < S.length) (hb : b < S.length) : ∀ {l : List β} {c : List Nat}, c.length = S.length → c.getD a 0 = c.getD b 0 → (uniAll st S z l c).getD a 0 = (uniAll st S z l c).getD b 0
  | [], _, _, h => h
  | m :: l, c, hc, h => by
    obtain ⟨h1, h2⟩ := uniRow_keep P (z := z) (m := m) hc ha hb h S.length
    have := uniAll_keep P ha hb (l := l) h1 h2
    simpa only [uniAll, List.foldl_cons] using this
theorem uniAll_join (P : Perms st S ms) {a : Nat} (ha : a < S.length) : ∀ {l : List β} {c : List Nat} {m : β}, (∀ x ∈ l, x ∈ ms) → m ∈ l → c.length = S.length → (uniAll st S z l c).getD a 0 = (uniAll st S z l c).getD (S.idxOf (st m (S.getD a z))) 0
  | [], _, _, _, hm, _ => by cases hm
  | x :: l, c, m, hl, hm, hc => by
    have hx := hl x (by simp)
    have hmm := hl m hm
    have hlen := uniRow_len (c := c) (fun i => S.idxOf (st x (S.getD i z))) S.length
    have key : (uniAll st S z l (uniRow (fun i => S.idxOf (st x (S.getD i z))) c S.length)).getD a 0 = (uniAll st S z l (uniRow (fun i => S.idxOf (st x (S.getD i z))) c S.length)).getD (S.idxOf (st m (S.getD a z))) 0 := by
      rcases List.mem_cons.1 hm with rfl | hm
      · exact uniAll_keep P ha (idx_lt (P.mem m hmm _ (getD_mem ha))) (by omega) (uniRow_join P hx hc S.length ha (Nat.le_refl _))
      · exact uniAll_join P ha (fun y hy => hl y (by simp [hy])) hm (by omega)
    simpa only [uniAll, List.foldl_cons] using key
theorem cls_spec (P : Perms st S ms) : ClsI st S z ms (cls st S z ms) := ClsI.all P (fun _ h => h) ClsI.start
theorem cls_reach (P : Perms st S ms) {a b : α} (ha : a ∈ S) (h : Reach st ms a b) : (cls st S z ms).getD (S.idxOf a) 0 = (cls st S z ms).getD (S.idxOf b) 0 := by
  induction h with
  | refl => rfl
  | step hr hm ih =>
    rename_i b m
    have hb := hr.in P ha
    have := uniAll_join P (z := z) (idx_lt hb) (fun _ h => h) hm (c := List.range S.length) (by simp)
    rw [idx_get hb] at this
    exact ih.trans this
theorem cls_iff (P : Perms st S ms) {a b : α} (ha : a ∈ S) (hb : b ∈ S) : (cls st S z ms).getD (S.idxOf a) 0 = (cls st S z ms).getD (S.idxOf b) 0 ↔ Reach st ms a b := by
  constructor
  · intro h
    have := (cls_spec (z := z) P).same _ _ (idx_lt ha) (idx_lt hb) h
    rwa [idx_get ha, idx_get hb] at this
  · exact cls_reach P ha
end
end

/-! ### the maps of a group on the points -/
abbrev stM (p : Int) : M3 → V3 → V3 := imgM p
theorem perms_of {p : Int} {ms : List M3} (h : mapsOk p ms = true) : Perms (imgM p) (pts p) ms := by
  unfold mapsOk at h
  rw [List.all_eq_true] at h
  exact ⟨fun m hm x hx => img_mem (h m hm) hx, fun m hm x hx y hy e => img_inj (h m hm) hx hy e⟩
theorem V3.l_inj {u v : V3} : u.l = v.l ↔ u = v := by
  rw [V3.ext_iff']
  simp [V3.l]
theorem pts_cnt {p : Int} (hp : IsP p) : 13 ≤ (pts p).length ∧ (pts p).length ≤ 183 := by
  have hb := hp.bd
  rw [pts_length]
  have h1 : p.toNat * p.toNat ≤ 13 * 13 := Nat.mul_le_mul (by omega) (by omega)
  have h2 : 3 * 3 ≤ p.toNat * p.toNat := Nat.mul_le_mul (by omega) (by omega)
  omega
end Go.Ab
