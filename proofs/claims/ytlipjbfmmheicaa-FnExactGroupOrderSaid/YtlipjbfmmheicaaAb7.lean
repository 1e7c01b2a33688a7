/- append; a slice of the call's own becomes a snapshot; closures; equality of rows of integers. -/
import Derived.Test.YtlipjbfmmheicaaAb6
import Derived.DeepKeys
namespace Go.Ab
open Go.RowKit (Below)
section
variable {P : Program} {n : Nat} {C : Cx P n} {Q : Post} {s : St}

/-- What is appended: the cells of a slice's elements. -/
inductive Src (H : List Ar) (m : Nat) : AV → List AV → Nat → Prop where
  | own {id j b m' off cnt cap : Nat} {opn : Bool} {cs ys : List AV} (h : At H id j b cs) (hy : (cs.drop off).take (cnt * m) = ys) (hl : ys.length = cnt * m) : Src H m (.own id b m' off cnt cap opn) ys cnt
  | imm {cnt : Nat} {cs ys : List AV} (hy : cs.take (cnt * m) = ys) (hl : ys.length = cnt * m) : Src H m (.imm cs cnt) ys cnt
  | nil : Src H m .nilsl [] 0
  | empty {cz : Bool} : Src H m (.empty cz) [] 0

theorem relP_take_len {F : Nat → Prop} {w : World} {xs : List AV} {vs : List Value} {k : Nat} (h : relP F w xs vs) (hk : (xs.take k).length = k) : relL F w (xs.take k) (vs.take k) :=
  relL_take k h (by rw [List.length_take] at hk; omega)

theorem Src.spec {F : Nat → Prop} {a : Act} {w : World} (hr : R C F s a w) {m : Nat} {y : AV} {v : Value} {ys : List AV} {cnt : Nat} (h : Src s.hp m y ys cnt) (hv : rel F w y v) :
    ∃ ad c us, v = .slice ad cnt c ∧ relL F w ys us ∧ us.length = cnt * m ∧ (cnt = 0 ∨ ∃ bb : Addr, ad = some bb ∧ ∀ (j : Nat) u, us[j]? = some u → w.cell? (bb.add j) = some u) := by
  cases h with
  | @own id j b m' off _ cap opn cs _ hh hy hl =>
    simp only [rel] at hv
    obtain ⟨c, rfl, _, _, arr0, e0, fz0, hh0, _⟩ := hv
    obtain ⟨arr, e, hheap, hrel⟩ := (hr.sat.live hh).2.2.cells ⟨arr0, e0, fz0, hh0⟩
    subst hy
    have hrl := relP_take_len (relP_drop off hrel) hl
    refine ⟨_, c, _, rfl, hrl, by rw [relL_len hrl, hl], .inr ⟨_, rfl, fun j u hu => ?_⟩⟩
    rw [addr_add]
    simp only [World.cell?, hheap]
    rw [List.getElem?_take] at hu
    split at hu
    · rw [List.getElem?_drop] at hu
      simpa using hu
    · cases hu
  | @imm _ cs _ hy hl =>
    simp only [rel] at hv
    obtain ⟨ad, c, rfl, _, hp⟩ := hv
    subst hy
    rcases Nat.eq_zero_or_pos cnt with h0 | h0
    · subst h0
      exact ⟨ad, c, [], rfl, by simp [relL], by simp, .inl rfl⟩
    · obtain ⟨b, o, arr, e, fz, rfl, _, hheap, hrel⟩ := hp h0
      have hrl := relP_take_len hrel hl
      refine ⟨_, c, _, rfl, hrl, by rw [relL_len hrl, hl], .inr ⟨_, rfl, fun j u hu => ?_⟩⟩
      rw [addr_add]
      simp only [World.cell?, hheap]
      rw [List.getElem?_take] at hu
      split at hu
      · rw [List.getElem?_drop] at hu
        simpa using hu
      · cases hu
  | nil =>
    simp only [rel] at hv
    exact ⟨none, 0, [], hv, by simp [relL], by simp, .inl rfl⟩
  | empty =>
    simp only [rel] at hv
    obtain ⟨ad, c, rfl, _⟩ := hv
    exact ⟨ad, c, [], rfl, by simp [relL], by simp, .inl rfl⟩

section ops
variable {ops : Array Oper} {i : Nat} {l : List Nat} {d : Nat} {T U : TypeId} {pos : String} {aft : Array Edge} {g : Option (Nat × Bool)}

theorem run_append_room' (w : World) (t ty e e' : TypeId) (i : TypeInfo) (ht : P.underlying t = some (.slice e)) (hi : P.info? e = some i)
    (g sLen sCap : Nat) (cur : Array Value) (hg : w.heap[g]? = some (.cells cur e' (0, 0)))
    (a : Addr) (m c : Nat) (news : List Value) (hl : news.length = m * i.size) (hnews : ∀ (j : Nat) u, news[j]? = some u → w.cell? (a.add j) = some u) (h1 : ∀ u ∈ news, u.oneCell' = true)
    (hroom : sLen + m ≤ sCap) (hfit : sLen * i.size + news.length ≤ cur.size) :
    (Builtin.append_ #[t, t] ty #[.slice (some ⟨g, 0, none⟩) sLen sCap, .slice (some a) m c]).run P w =
      .ok (.slice (some ⟨g, 0, none⟩) (sLen + m) sCap) (w.setRow g (cur.toList.take (sLen * i.size) ++ news ++ cur.toList.drop (sLen * i.size + news.length)).toArray) := by
  have hf := run_firstCells_some (P := P) w i.size m a m c news hl hnews
  have hst := run_storeCells_at (P := P) g (sLen * i.size) e' news 0 cur w hg (by simpa using hfit) h1
  simp only [Nat.add_zero] at hst
  simp [Builtin.append_, run_underlying ht, sizeOf, typeInfo, hi, Builtin.lenOf, hroom, hf, Addr.add_lit, hst]

theorem run_append_zero (w : World) (t ty e : TypeId) (i : TypeInfo) (ht : P.underlying t = some (.slice e)) (hi : P.info? e = some i) (base : Option Addr) (sLen sCap : Nat) (h : sLen ≤ sCap) (ad : Option Addr) (c : Nat) :
    (Builtin.append_ #[t, t] ty #[.slice base sLen sCap, .slice ad 0 c]).run P w = .ok (.slice base sLen sCap) w := by
  cases ad <;> cases base <;> simp [Builtin.append_, run_underlying ht, sizeOf, typeInfo, hi, Builtin.lenOf, h, Builtin.firstCells, loadCells, loadCellsFrom, storeCells]

/-- append to a slice of the call's own: whether in place or not, what was there is not looked at again. -/
theorem Run.append {x y : Operand} {id b m len cap cnt bytes : Nat} {opn : Bool} {cs ys zs : List AV} {p : AV} (hi : ops[i]? = some ⟨some d, .call ⟨.builtin .append, #[x, y], #[U, U]⟩, T, pos, aft, g⟩) (hw : want ops s.fr ⟨some d, .call ⟨.builtin .append, #[x, y], #[U, U]⟩, T, pos, aft, g⟩ = some true) (hdn : Nat.blt d n = true)
    (hx : Ev s.fr x (.own id b m 0 len cap opn)) (hh : s.hp[id]? = some [(b, cs)]) (hT : Elem P U m bytes zs) (hy : Ev s.fr y p) (hs : Src s.hp m p ys cnt) (hsc : ys.all AV.sc = true) (hlc : len ≤ cap) (hlen : len * m ≤ cs.length)
    (hby : (len + cnt) * bytes ≤ 140737488355328) (h63 : len + cnt ≤ 9223372036854775807)
    (k : ∀ b', Run C ops l Q ⟨(d, .own id b' m 0 (len + cnt) (len + cnt) true) :: s.fr, s.hp.set id (.cells b' (cs.take (len * m) ++ ys))⟩) : Run C ops (i :: l) Q s :=
  Run.step hi hw fun F a w hr => by
    obtain ⟨⟨e, it, z, hu, hie, hz, hsz, hbb, hzc, hm⟩, _⟩ := hT
    have h1 := Ev.rel hr hx
    simp only [rel] at h1
    obtain ⟨c, he, hcap, hop, arr, e0, fz0, hheap0, hsize⟩ := h1
    obtain ⟨_, hnF, hhl⟩ := hr.sat.live (At.one hh)
    obtain ⟨arr1, e1, hheap, hrel⟩ := hhl.cells ⟨_, _, _, hheap0⟩
    rw [hheap] at hheap0
    cases hheap0
    obtain ⟨ad, c2, us, hv, hus, hul, hsrc⟩ := hs.spec hr (Ev.rel hr hy)
    have hone : ∀ u ∈ us, u.oneCell' = true := by
      have : ∀ {xs : List AV} {vs : List Value}, xs.all AV.sc = true → relL F w xs vs → ∀ u ∈ vs, u.oneCell' = true := by
        intro xs
        induction xs with
        | nil => intro vs _ h; simp only [relL] at h; subst h; intro u hu; cases hu
        | cons y ys ih =>
          intro vs hs h
          simp only [relL] at h
          obtain ⟨v, r, rfl, h1, h2⟩ := h
          simp only [List.all_cons, Bool.and_eq_true] at hs
          intro u hu
          cases hu with
          | head => exact (rel_sc hs.1 h1).1
          | tail _ hu => exact ih hs.2 h2 u hu
      exact this hsc hus
    have hexec : ∀ v' w', (Builtin.append_ #[U, U] T #[.slice (some ⟨b, 0, none⟩) len c, .slice ad cnt c2]).run P w = .ok v' w' →
        (execOp a.eval ⟨some d, .call ⟨.builtin .append, #[x, y], #[U, U]⟩, T, pos, aft, g⟩).run P w = .ok (.value v') w' := by
      intro v' w' h
      simp [execOp, resolve, invoke, builtin, he, hv, h]
    have hprefix := relL_take (len * m) hrel hlen
    rcases hsrc with rfl | ⟨bb, rfl, hcells⟩
    · -- nothing is appended
      have hys : ys = [] := by have := relL_len hus; rw [hul] at this; simpa using this.symm
      subst hys
      have hrun := run_append_zero (P := P) w U T e it hu hie (some ⟨b, 0, none⟩) len c (by omega) ad c2
      refine ⟨_, w, F, _, hexec _ _ hrun, ?_, k b⟩
      have hkeep : R C F ⟨s.fr, s.hp.set id (.cells b (cs.take (len * m) ++ []))⟩ a w := by
        have := hr.row (j := 0) (xs := cs.take (len * m) ++ []) (arr' := arr) hh rfl hheap rfl (by
          have h5 := relP_of_relL hprefix
          rw [List.append_nil]
          have h6 := relP_suffix (vs := arr.toList.drop (len * m)) h5
          rwa [List.take_append_drop] at h6)
        rwa [setRow_self w b arr e0 (0, 0) hheap] at this
      exact hkeep.put hdn (by simp only [rel]; exact ⟨c, by simp, by omega, (fun h => by cases h), arr, e0, _, hheap, hsize⟩)
    · by_cases hroom : len + cnt ≤ c
      · have hfit : len * it.size + us.length ≤ arr.size := by
          rw [hsz, hul, ← Nat.add_mul]
          have := Nat.mul_le_mul_right m hroom
          omega
        have hrun := run_append_room' (P := P) w U T e e0 it hu hie b len c arr hheap bb cnt c2 us (by rw [hul, hsz]) hcells hone hroom hfit
        rw [hsz] at hrun
        have hul' : us.length = cnt * m := hul
        refine ⟨_, _, F, _, hexec _ _ hrun, ?_, k b⟩
        have hs2 : (arr.toList.take (len * m) ++ us ++ arr.toList.drop (len * m + us.length)).toArray.size = arr.size := by
          rw [hsz] at hfit
          simp
          omega
        have hR := hr.row (j := 0) (xs := cs.take (len * m) ++ ys) hh rfl hheap hs2 (by
          simp only [List.append_assoc]
          exact relP_append hprefix (relP_suffix (relP_of_relL hus)))
        exact hR.put hdn (by simp only [rel]; exact ⟨c, rfl, by omega, (fun h => by cases h), _, e0, _, setRow_heap w b arr _ e0 (0, 0) hheap, by rw [hs2]; exact hsize⟩)
      · have hfits : Builtin.nextslicecap (len + cnt) c * it.bytes ≤ 281474976710656 := growslice_fits (by omega) (by rw [hbb]; exact hby)
        have holds : ∀ (j : Nat) v, (arr.toList.take (len * m))[j]? = some v → w.cell? ((⟨b, 0, none⟩ : Addr).add j) = some v := by
          intro j v hj
          rw [addr_add]
          simp only [World.cell?, hheap]
          rw [List.getElem?_take] at hj
          split at hj
          · simpa using hj
          · cases hj
        have hpl : (arr.toList.take (len * m)).length = len * it.size := by
          have := relL_len hprefix
          rw [this, hsz, List.length_take]
          omega
        have hrun := run_append_grow (P := P) w U T e it z hu hie hz ⟨b, 0, none⟩ len c (arr.toList.take (len * m)) hpl holds bb cnt c2 us (by rw [hul, hsz]) hcells (by omega) (by omega) hfits
        refine ⟨_, _, F, _, hexec _ _ hrun, ?_, k w.drew.heap.size⟩
        have hR := hr.drew.alloc id (xs := cs.take (len * m) ++ ys) (e := e) (arr := (arr.toList.take (len * m)).toArray ++ us.toArray ++ Builtin.zeroCells z.cells (grownCap w (len + cnt) c e - (len + cnt))) (by
          have hk : Later F w w.drew := ⟨fun _ _ => rfl, fun _ arr e fz h => ⟨arr, e, fz, h, rfl⟩⟩
          have h1 := relL_mono (fun _ h => h) hk _ _ hprefix
          have h2 := relL_mono (fun _ h => h) hk _ _ hus
          simp only [Array.toList_append]
          rw [List.append_assoc]
          exact relP_append h1 (relP_suffix (relP_of_relL h2)))
        refine hR.put hdn (by
          simp only [rel]
          refine ⟨grownCap w (len + cnt) c e, rfl, grownCap_ge w _ _ _, (fun h => by cases h), _, e, (0, 0), heap_alloc_new _ _, ?_⟩
          have hge := grownCap_ge w (len + cnt) c e
          rw [hsz] at hpl
          simp only [Array.size_append, List.size_toArray, hpl, hul, size_zeroCells, hzc, Nat.zero_add]
          rw [← Nat.add_mul, ← Nat.add_mul]
          exact Nat.le_of_eq (congrArg (· * m) (by omega)))

end ops

/-- A slice of the call's own that is not written any more. -/
theorem R.freeze {F : Nat → Prop} {a : Act} {w : World} (hr : R C F s a w) {t id b m off len cap : Nat} {opn : Bool} {cs xs : List AV} (ht : get s.fr t = some (.own id b m off len cap opn)) (hh : s.hp[id]? = some [(b, cs)]) (hlc : len ≤ cap)
    (hx : (cs.drop off).take xs.length = xs) : ∃ F', R C F' ⟨(t, .imm xs len) :: s.fr, s.hp.set id []⟩ a w := by
  obtain ⟨hok, hnF, hhl⟩ := hr.sat.live (At.one hh)
  obtain ⟨arr, e, hheap, hrel⟩ := hhl.cells (by
    have h1 := hr.fr t _ ht
    simp only [rel] at h1
    obtain ⟨_, _, _, _, arr, e, fz, h, _⟩ := h1
    exact ⟨arr, e, fz, h⟩)
  have back : ∀ {i p k : Nat} {ds : List AV}, At (s.hp.set id []) i p k ds → i ≠ id ∧ At s.hp i p k ds := by
    intro i p k ds h
    rcases h.set with ⟨rfl, h'⟩ | ⟨hi, h'⟩
    · simp at h'
    · exact ⟨hi, h'⟩
  have hF : ∀ k, F k → F k ∨ k = b := fun k h => .inl h
  have hk : Later F w w := ⟨fun _ _ => rfl, fun _ arr e fz h => ⟨arr, e, fz, h, rfl⟩⟩
  refine ⟨fun k => F k ∨ k = b, ⟨hr.size, hr.defers, fun u x hu => ?_, ⟨fun k h => ?_, fun hx => ?_, fun hx hy => hr.sat.inj (back hx).2 (back hy).2⟩, hr.os, hr.tape, hr.output, hr.hsize, hr.block, fun k h => .inl (hr.F0 k h), fun k h => ?_, hr.elder⟩⟩
  · simp only [get] at hu
    by_cases htu : t = u
    · subst htu
      have : Nat.beq t t = true := Nat.beq_refl _
      simp only [this, cond_true, Option.some.injEq] at hu
      subst hu
      have h1 := hr.fr t _ ht
      simp only [rel] at h1 ⊢
      obtain ⟨c, he, hcap, _⟩ := h1
      refine ⟨_, c, he, by omega, fun _ => ⟨b, off, arr, e, _, rfl, .inr rfl, hheap, ?_⟩⟩
      have h2 := relP_mono hF hk _ _ (relP_drop off hrel)
      have h3 := relL_take xs.length h2 (by
        have := congrArg List.length hx
        rw [List.length_take] at this
        omega)
      rw [hx] at h3
      have h4 := relP_suffix (vs := (arr.toList.drop off).drop xs.length) (relP_of_relL h3)
      rwa [List.take_append_drop] at h4
    · have : Nat.beq t u = false := by
        cases hb : Nat.beq t u with
        | false => rfl
        | true => exact absurd (Nat.eq_of_beq_eq_true hb) htu
      simp only [this, cond_false] at hu
      exact rel_mono hF hk _ _ (hr.fr u x hu)
  · rcases h with h | rfl
    · exact hr.sat.old k h
    · exact lt_of_heap hheap
  · obtain ⟨hi, hx⟩ := back hx
    obtain ⟨h1, h2, h3⟩ := hr.sat.live hx
    refine ⟨h1, ?_, h3.mono hF hk rfl⟩
    rintro (h | rfl)
    · exact h2 h
    · exact hi (hr.sat.inj hx (At.one hh)).1
  · rcases h with h | rfl
    · exact hr.F1 k h
    · rcases hok with h | h
      · exact .inr (.inr h)
      · exact .inr (.inl h)

theorem WP.freeze (t : Nat) {c : Code} {id b m off len cap : Nat} {opn : Bool} {cs : List AV} (xs : List AV) (ht : get s.fr t = some (.own id b m off len cap opn)) (hh : s.hp[id]? = some [(b, cs)]) (hlc : len ≤ cap)
    (hx : (cs.drop off).take xs.length = xs) (k : WP C c Q ⟨(t, .imm xs len) :: s.fr, s.hp.set id []⟩) : WP C c Q s := fun _ a w hr =>
  let ⟨F', hr'⟩ := hr.freeze ht hh hlc hx
  k F' a w hr'
theorem Run.freeze (t : Nat) {ops : Array Oper} {l : List Nat} {id b m off len cap : Nat} {opn : Bool} {cs : List AV} (xs : List AV) (ht : get s.fr t = some (.own id b m off len cap opn)) (hh : s.hp[id]? = some [(b, cs)]) (hlc : len ≤ cap)
    (hx : (cs.drop off).take xs.length = xs) (k : Run C ops l Q ⟨(t, .imm xs len) :: s.fr, s.hp.set id []⟩) : Run C ops l Q s := fun _ a w hr =>
  let ⟨F', hr'⟩ := hr.freeze ht hh hlc hx
  k F' a w hr'
end
end Go.Ab
