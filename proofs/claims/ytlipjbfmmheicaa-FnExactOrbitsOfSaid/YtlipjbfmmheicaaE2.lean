import Derived.Test.YtlipjbfmmheicaaE1
import Derived.DeepKeys
import Derived.Orders
import Derived.Deep.RegionHeld3
import Derived.WalkKit
import Derived.ProofKit
import Derived.OpenShut
/- append; a slice of the call's own becomes a snapshot; closures; equality of rows of integers. -/
namespace Go.Ab
open Go.RowKit (Below)
section
variable {P : Program} {n : Nat} {C : Cx P n} {Q : Post} {s : St}

/-- What is appended: the cells of a slice's elements. -/
inductive Src (H : List Ar) (m : Nat) : AV → List AV → Nat → Prop where
  | own {id j b m' off cnt cap : Nat} {opn : Bool} {cs ys : List AV} (h : At H id j b cs) (hy : (cs.drop off).take (cnt * m) = ys) (hl : ys.length = cnt * m) : Src H m (.own id b m' off cnt cap opn) ys cnt
  | imm {cnt : Nat} {cs ys : List AV} (hy : cs.take (cnt * m) = ys) (hl : ys.length = cnt * m) : Src H m (.imm cs cnt) ys cnt
  | nil : Src H m .nilsl [] 0
  | empty {cz : Bool} : Src H m (.empty cz) [] 0

theorem relP_take_len {F : Nat → Prop} {w : World} {xs : List AV} {vs : List Value} {k : Nat} (h : relP F w xs vs) (hk : (xs.take k).length = k) : relL F w (xs.take k) (vs.take k) :=
  relL_take k h (by rw [List.length_take] at hk; omega)

theorem Src.spec {F : Nat → Prop} {a : Act} {w : World} (hr : R C F s a w) {m : Nat} {y : AV} {v : Value} {ys : List AV} {cnt : Nat} (h : Src s.hp m y ys cnt) (hv : rel F w y v) :
    ∃ ad c us, v = .slice ad cnt c ∧ relL F w ys us ∧ us.length = cnt * m ∧ (cnt = 0 ∨ ∃ bb : Addr, ad = some bb ∧ ∀ (j : Nat) u, us[j]? = some u → w.cell? (bb.add j) = some u) := by
  cases h with
  | @own id j b m' off _ cap opn cs _ hh hy hl =>
    simp only [rel] at hv
    obtain ⟨c, rfl, _, _, arr0, e0, fz0, hh0, _⟩ := hv
    obtain ⟨arr, e, hheap, hrel⟩ := (hr.sat.live hh).2.2.cells ⟨arr0, e0, fz0, hh0⟩
    subst hy
    have hrl := relP_take_len (relP_drop off hrel) hl
    refine ⟨_, c, _, rfl, hrl, by rw [relL_len hrl, hl], .inr ⟨_, rfl, fun j u hu => ?_⟩⟩
    rw [addr_add]
    simp only [World.cell?, hheap]
    rw [List.getElem?_take] at hu
    split at hu
    · rw [List.getElem?_drop] at hu
      simpa using hu
    · cases hu
  | @imm _ cs _ hy hl =>
    simp only [rel] at hv
    obtain ⟨ad, c, rfl, _, hp⟩ := hv
    subst hy
    rcases Nat.eq_zero_or_pos cnt with h0 | h0
    · subst h0
      exact ⟨ad, c, [], rfl, by simp [relL], by simp, .inl rfl⟩
    · obtain ⟨b, o, arr, e, fz, rfl, _, hheap, hrel⟩ := hp h0
      have hrl := relP_take_len hrel hl
      refine ⟨_, c, _, rfl, hrl, by rw [relL_len hrl, hl], .inr ⟨_, rfl, fun j u hu => ?_⟩⟩
      rw [addr_add]
      simp only [World.cell?, hheap]
      rw [List.getElem?_take] at hu
      split at hu
      · rw [List.getElem?_drop] at hu
        simpa using hu
      · cases hu
  | nil =>
    simp only [rel] at hv
    exact ⟨none, 0, [], hv, by simp [relL], by simp, .inl rfl⟩
  | empty =>
    simp only [rel] at hv
    obtain ⟨ad, c, rfl, _⟩ := hv
    exact ⟨ad, c, [], rfl, by simp [relL], by simp, .inl rfl⟩

section ops
variable {ops : Array Oper} {i : Nat} {l : List Nat} {d : Nat} {T U : TypeId} {pos : String} {aft : Array Edge} {g : Option (Nat × Bool)}

theorem run_append_room' (w : World) (t ty e e' : TypeId) (i : TypeInfo) (ht : P.underlying t = some (.slice e)) (hi : P.info? e = some i)
    (g sLen sCap : Nat) (cur : Array Value) (hg : w.heap[g]? = some (.cells cur e' (0, 0)))
    (a : Addr) (m c : Nat) (news : List Value) (hl : news.length = m * i.size) (hnews : ∀ (j : Nat) u, news[j]? = some u → w.cell? (a.add j) = some u) (h1 : ∀ u ∈ news, u.oneCell' = true)
    (hroom : sLen + m ≤ sCap) (hfit : sLen * i.size + news.length ≤ cur.size) :
    (Builtin.append_ #[t, t] ty #[.slice (some ⟨g, 0, none⟩) sLen sCap, .slice (some a) m c]).run P w =
      .ok (.slice (some ⟨g, 0, none⟩) (sLen + m) sCap) (w.setRow g (cur.toList.take (sLen * i.size) ++ news ++ cur.toList.drop (sLen * i.size + news.length)).toArray) := by
  have hf := run_firstCells_some (P := P) w i.size m a m c news hl hnews
  have hst := run_storeCells_at (P := P) g (sLen * i.size) e' news 0 cur w hg (by simpa using hfit) h1
  simp only [Nat.add_zero] at hst
  simp [Builtin.append_, run_underlying ht, sizeOf, typeInfo, hi, Builtin.lenOf, hroom, hf, Addr.add_lit, hst]

theorem run_append_zero (w : World) (t ty e : TypeId) (i : TypeInfo) (ht : P.underlying t = some (.slice e)) (hi : P.info? e = some i) (base : Option Addr) (sLen sCap : Nat) (h : sLen ≤ sCap) (ad : Option Addr) (c : Nat) :
    (Builtin.append_ #[t, t] ty #[.slice base sLen sCap, .slice ad 0 c]).run P w = .ok (.slice base sLen sCap) w := by
  cases ad <;> cases base <;> simp [Builtin.append_, run_underlying ht, sizeOf, typeInfo, hi, Builtin.lenOf, h, Builtin.firstCells, loadCells, loadCellsFrom, storeCells]

/-- append to a slice of the call's own: whether in place or not, what was there is not looked at again. -/
theorem Run.append {x y : Operand} {id b m len cap cnt bytes : Nat} {opn : Bool} {cs ys zs : List AV} {p : AV} (hi : ops[i]? = some ⟨some d, .call ⟨.builtin .append, #[x, y], #[U, U]⟩, T, pos, aft, g⟩) (hw : want ops s.fr ⟨some d, .call ⟨.builtin .append, #[x, y], #[U, U]⟩, T, pos, aft, g⟩ = some true) (hdn : Nat.blt d n = true)
    (hx : Ev s.fr x (.own id b m 0 len cap opn)) (hh : s.hp[id]? = some [(b, cs)]) (hT : Elem P U m bytes zs) (hy : Ev s.fr y p) (hs : Src s.hp m p ys cnt) (hsc : ys.all AV.sc = true) (hlc : len ≤ cap) (hlen : len * m ≤ cs.length)
    (hby : (len + cnt) * bytes ≤ 140737488355328) (h63 : len + cnt ≤ 9223372036854775807)
    (k : ∀ b', Run C ops l Q ⟨(d, .own id b' m 0 (len + cnt) (len + cnt) true) :: s.fr, s.hp.set id (.cells b' (cs.take (len * m) ++ ys))⟩) : Run C ops (i :: l) Q s :=
  Run.step hi hw fun F a w hr => by
    obtain ⟨⟨e, it, z, hu, hie, hz, hsz, hbb, hzc, hm⟩, _⟩ := hT
    have h1 := Ev.rel hr hx
    simp only [rel] at h1
    obtain ⟨c, he, hcap, hop, arr, e0, fz0, hheap0, hsize⟩ := h1
    obtain ⟨_, hnF, hhl⟩ := hr.sat.live (At.one hh)
    obtain ⟨arr1, e1, hheap, hrel⟩ := hhl.cells ⟨_, _, _, hheap0⟩
    rw [hheap] at hheap0
    cases hheap0
    obtain ⟨ad, c2, us, hv, hus, hul, hsrc⟩ := hs.spec hr (Ev.rel hr hy)
    have hone : ∀ u ∈ us, u.oneCell' = true := by
      have : ∀ {xs : List AV} {vs : List Value}, xs.all AV.sc = true → relL F w xs vs → ∀ u ∈ vs, u.oneCell' = true := by
        intro xs
        induction xs with
        | nil => intro vs _ h; simp only [relL] at h; subst h; intro u hu; cases hu
        | cons y ys ih =>
          intro vs hs h
          simp only [relL] at h
          obtain ⟨v, r, rfl, h1, h2⟩ := h
          simp only [List.all_cons, Bool.and_eq_true] at hs
          intro u hu
          cases hu with
          | head => exact (rel_sc hs.1 h1).1
          | tail _ hu => exact ih hs.2 h2 u hu
      exact this hsc hus
    have hexec : ∀ v' w', (Builtin.append_ #[U, U] T #[.slice (some ⟨b, 0, none⟩) len c, .slice ad cnt c2]).run P w = .ok v' w' →
        (execOp a.eval ⟨some d, .call ⟨.builtin .append, #[x, y], #[U, U]⟩, T, pos, aft, g⟩).run P w = .ok (.value v') w' := by
      intro v' w' h
      simp [execOp, resolve, invoke, builtin, he, hv, h]
    have hprefix := relL_take (len * m) hrel hlen
    rcases hsrc with rfl | ⟨bb, rfl, hcells⟩
    · -- nothing is appended
      have hys : ys = [] := by have := relL_len hus; rw [hul] at this; simpa using this.symm
      subst hys
      have hrun := run_append_zero (P := P) w U T e it hu hie (some ⟨b, 0, none⟩) len c (by omega) ad c2
      refine ⟨_, w, F, _, hexec _ _ hrun, ?_, k b⟩
      have hkeep : R C F ⟨s.fr, s.hp.set id (.cells b (cs.take (len * m) ++ []))⟩ a w := by
        have := hr.row (j := 0) (xs := cs.take (len * m) ++ []) (arr' := arr) hh rfl hheap rfl (by
          have h5 := relP_of_relL hprefix
          rw [List.append_nil]
          have h6 := relP_suffix (vs := arr.toList.drop (len * m)) h5
          rwa [List.take_append_drop] at h6)
        rwa [setRow_self w b arr e0 (0, 0) hheap] at this
      exact hkeep.put hdn (by simp only [rel]; exact ⟨c, by simp, by omega, (fun h => by cases h), arr, e0, _, hheap, hsize⟩)
    · by_cases hroom : len + cnt ≤ c
      · have hfit : len * it.size + us.length ≤ arr.size := by
          rw [hsz, hul, ← Nat.add_mul]
          have := Nat.mul_le_mul_right m hroom
          omega
        have hrun := run_append_room' (P := P) w U T e e0 it hu hie b len c arr hheap bb cnt c2 us (by rw [hul, hsz]) hcells hone hroom hfit
        rw [hsz] at hrun
        have hul' : us.length = cnt * m := hul
        refine ⟨_, _, F, _, hexec _ _ hrun, ?_, k b⟩
        have hs2 : (arr.toList.take (len * m) ++ us ++ arr.toList.drop (len * m + us.length)).toArray.size = arr.size := by
          rw [hsz] at hfit
          simp
          omega
        have hR := hr.row (j := 0) (xs := cs.take (len * m) ++ ys) hh rfl hheap hs2 (by
          simp only [List.append_assoc]
          exact relP_append hprefix (relP_suffix (relP_of_relL hus)))
        exact hR.put hdn (by simp only [rel]; exact ⟨c, rfl, by omega, (fun h => by cases h), _, e0, _, setRow_heap w b arr _ e0 (0, 0) hheap, by rw [hs2]; exact hsize⟩)
      · have hfits : Builtin.nextslicecap (len + cnt) c * it.bytes ≤ 281474976710656 := growslice_fits (by omega) (by rw [hbb]; exact hby)
        have holds : ∀ (j : Nat) v, (arr.toList.take (len * m))[j]? = some v → w.cell? ((⟨b, 0, none⟩ : Addr).add j) = some v := by
          intro j v hj
          rw [addr_add]
          simp only [World.cell?, hheap]
          rw [List.getElem?_take] at hj
          split at hj
          · simpa using hj
          · cases hj
        have hpl : (arr.toList.take (len * m)).length = len * it.size := by
          have := relL_len hprefix
          rw [this, hsz, List.length_take]
          omega
        have hrun := run_append_grow (P := P) w U T e it z hu hie hz ⟨b, 0, none⟩ len c (arr.toList.take (len * m)) hpl holds bb cnt c2 us (by rw [hul, hsz]) hcells (by omega) (by omega) hfits
        refine ⟨_, _, F, _, hexec _ _ hrun, ?_, k w.drew.heap.size⟩
        have hR := hr.drew.alloc id (xs := cs.take (len * m) ++ ys) (e := e) (arr := (arr.toList.take (len * m)).toArray ++ us.toArray ++ Builtin.zeroCells z.cells (grownCap w (len + cnt) c e - (len + cnt))) (by
          have hk : Later F w w.drew := ⟨fun _ _ => rfl, fun _ arr e fz h => ⟨arr, e, fz, h, rfl⟩⟩
          have h1 := relL_mono (fun _ h => h) hk _ _ hprefix
          have h2 := relL_mono (fun _ h => h) hk _ _ hus
          simp only [Array.toList_append]
          rw [List.append_assoc]
          exact relP_append h1 (relP_suffix (relP_of_relL h2)))
        refine hR.put hdn (by
          simp only [rel]
          refine ⟨grownCap w (len + cnt) c e, rfl, grownCap_ge w _ _ _, (fun h => by cases h), _, e, (0, 0), heap_alloc_new _ _, ?_⟩
          have hge := grownCap_ge w (len + cnt) c e
          rw [hsz] at hpl
          simp only [Array.size_append, List.size_toArray, hpl, hul, size_zeroCells, hzc, Nat.zero_add]
          rw [← Nat.add_mul, ← Nat.add_mul]
          exact Nat.le_of_eq (congrArg (· * m) (by omega)))

end ops

/-- A slice of the call's own that is not written any more. -/
theorem R.freeze {F : Nat → Prop} {a : Act} {w : World} (hr : R C F s a w) {t id b m off len cap : Nat} {opn : Bool} {cs xs : List AV} (ht : get s.fr t = some (.own id b m off len cap opn)) (hh : s.hp[id]? = some [(b, cs)]) (hlc : len ≤ cap)
    (hx : (cs.drop off).take xs.length = xs) : ∃ F', R C F' ⟨(t, .imm xs len) :: s.fr, s.hp.set id []⟩ a w := by
  obtain ⟨hok, hnF, hhl⟩ := hr.sat.live (At.one hh)
  obtain ⟨arr, e, hheap, hrel⟩ := hhl.cells (by
    have h1 := hr.fr t _ ht
    simp only [rel] at h1
    obtain ⟨_, _, _, _, arr, e, fz, h, _⟩ := h1
    exact ⟨arr, e, fz, h⟩)
  have back : ∀ {i p k : Nat} {ds : List AV}, At (s.hp.set id []) i p k ds → i ≠ id ∧ At s.hp i p k ds := by
    intro i p k ds h
    rcases h.set with ⟨rfl, h'⟩ | ⟨hi, h'⟩
    · simp at h'
    · exact ⟨hi, h'⟩
  have hF : ∀ k, F k → F k ∨ k = b := fun k h => .inl h
  have hk : Later F w w := ⟨fun _ _ => rfl, fun _ arr e fz h => ⟨arr, e, fz, h, rfl⟩⟩
  refine ⟨fun k => F k ∨ k = b, ⟨hr.size, hr.defers, fun u x hu => ?_, ⟨fun k h => ?_, fun hx => ?_, fun hx hy => hr.sat.inj (back hx).2 (back hy).2⟩, hr.os, hr.tape, hr.output, hr.hsize, hr.block, fun k h => .inl (hr.F0 k h), fun k h => ?_, hr.elder⟩⟩
  · simp only [get] at hu
    by_cases htu : t = u
    · subst htu
      have : Nat.beq t t = true := Nat.beq_refl _
      simp only [this, cond_true, Option.some.injEq] at hu
      subst hu
      have h1 := hr.fr t _ ht
      simp only [rel] at h1 ⊢
      obtain ⟨c, he, hcap, _⟩ := h1
      refine ⟨_, c, he, by omega, fun _ => ⟨b, off, arr, e, _, rfl, .inr rfl, hheap, ?_⟩⟩
      have h2 := relP_mono hF hk _ _ (relP_drop off hrel)
      have h3 := relL_take xs.length h2 (by
        have := congrArg List.length hx
        rw [List.length_take] at this
        omega)
      rw [hx] at h3
      have h4 := relP_suffix (vs := (arr.toList.drop off).drop xs.length) (relP_of_relL h3)
      rwa [List.take_append_drop] at h4
    · have : Nat.beq t u = false := by
        cases hb : Nat.beq t u with
        | false => rfl
        | true => exact absurd (Nat.eq_of_beq_eq_true hb) htu
      simp only [this, cond_false] at hu
      exact rel_mono hF hk _ _ (hr.fr u x hu)
  · rcases h with h | rfl
    · exact hr.sat.old k h
    · exact lt_of_heap hheap
  · obtain ⟨hi, hx⟩ := back hx
    obtain ⟨h1, h2, h3⟩ := hr.sat.live hx
    refine ⟨h1, ?_, h3.mono hF hk rfl⟩
    rintro (h | rfl)
    · exact h2 h
    · exact hi (hr.sat.inj hx (At.one hh)).1
  · rcases h with h | rfl
    · exact hr.F1 k h
    · rcases hok with h | h
      · exact .inr (.inr h)
      · exact .inr (.inl h)

theorem WP.freeze (t : Nat) {c : Code} {id b m off len cap : Nat} {opn : Bool} {cs : List AV} (xs : List AV) (ht : get s.fr t = some (.own id b m off len cap opn)) (hh : s.hp[id]? = some [(b, cs)]) (hlc : len ≤ cap)
    (hx : (cs.drop off).take xs.length = xs) (k : WP C c Q ⟨(t, .imm xs len) :: s.fr, s.hp.set id []⟩) : WP C c Q s := fun _ a w hr =>
  let ⟨F', hr'⟩ := hr.freeze ht hh hlc hx
  k F' a w hr'
theorem Run.freeze (t : Nat) {ops : Array Oper} {l : List Nat} {id b m off len cap : Nat} {opn : Bool} {cs : List AV} (xs : List AV) (ht : get s.fr t = some (.own id b m off len cap opn)) (hh : s.hp[id]? = some [(b, cs)]) (hlc : len ≤ cap)
    (hx : (cs.drop off).take xs.length = xs) (k : Run C ops l Q ⟨(t, .imm xs len) :: s.fr, s.hp.set id []⟩) : Run C ops l Q s := fun _ a w hr =>
  let ⟨F', hr'⟩ := hr.freeze ht hh hlc hx
  k F' a w hr'
end
end Go.Ab
/- Operations under a guard; regions that draw their order: what is calm may come in any order, the rest comes behind it. -/
namespace Go.Ab
open Go.RowKit (Below)
section
variable {P : Program} {n : Nat} {C : Cx P n} {Q : Post} {s : St}

theorem get_cons_self (d : Nat) (x : AV) (fr : List (Nat × AV)) : get ((d, x) :: fr) d = some x := by
  have : Nat.beq d d = true := Nat.beq_refl _
  simp only [get, this, cond_true]
theorem get_cons_ne {d t : Nat} (x : AV) (fr : List (Nat × AV)) (h : d ≠ t) : get ((d, x) :: fr) t = get fr t := by
  have : Nat.beq d t = false := by
    cases hb : Nat.beq d t with
    | false => rfl
    | true => exact absurd (Nat.eq_of_beq_eq_true hb) h
  simp only [get, this, cond_false]

/-- The ending of one calm operation: its slot holds x; nothing else has turned. -/
def Single (d : Nat) (x : AV) (fr : List (Nat × AV)) (H : List Ar) : Post := fun e s => e = .normal ∧ s = ⟨(d, x) :: fr, H⟩

theorem single_nil {ops : Array Oper} {d : Nat} {x : AV} {fr : List (Nat × AV)} {H : List Ar} : Run C ops [] (Single d x fr H) ⟨(d, x) :: fr, H⟩ := Run.nil ⟨rfl, rfl⟩

theorem R.frame {F : Nat → Prop} {a : Act} {w : World} {fr fr' : List (Nat × AV)} {H : List Ar} (hr : R C F ⟨fr, H⟩ a w) (h : ∀ t x, get fr' t = some x → ∃ y, get fr t = some y ∧ ∀ w v, rel F w y v → rel F w x v) : R C F ⟨fr', H⟩ a w :=
  ⟨hr.size, hr.defers, fun t x hx => (let ⟨y, hy, hxy⟩ := h t x hx; hxy _ _ (hr.fr t y hy)), hr.sat, hr.os, hr.tape, hr.output, hr.hsize, hr.block, hr.F0, hr.F1, hr.elder⟩

/-- An operation under a guard that is not decided: if it comes about, it yields x. -/
theorem Run.guarded {ops : Array Oper} {i : Nat} {l : List Nat} {o : Oper} {j dj d : Nat} {wn t : Bool} {x : AV} (hi : ops[i]? = some o) (hg : o.guard = some (j, wn)) (hj : (ops[j]?).bind (·.dst) = some dj) (ht : get s.fr dj = some (.bool t))
    (hd : o.dst = some d) (hdn : Nat.blt d n = true)
    (h : (t == wn) = true → Run C ops [i] (Single d x ((dj, .bool wn) :: s.fr) s.hp) ⟨(dj, .bool wn) :: s.fr, s.hp⟩)
    (k : Run C ops l Q (s.put d (.opt (t == wn) x))) : Run C ops (i :: l) Q s := by
  intro F a w hr
  have hw : Region.wanted o (yielded ops a.tmps) = (t == wn) := by
    have : want ops s.fr o = some (t == wn) := by
      unfold want
      rw [hg]
      simp only [hj, ht]
    exact want_spec hr this
  cases hb : (t == wn) with
  | true =>
    have htw : t = wn := by simpa using hb
    subst htw
    have hr1 : R C F ⟨(dj, .bool t) :: s.fr, s.hp⟩ a w := hr.frame fun u y hu => by
      by_cases hdu : dj = u
      · subst hdu
        rw [get_cons_self] at hu
        cases hu
        exact ⟨_, ht, fun _ _ h => h⟩
      · rw [get_cons_ne _ _ hdu] at hu
        exact ⟨y, hu, fun _ _ h => h⟩
    have h1 := h hb F a w hr1
    rw [wpOps_cons] at h1 ⊢
    have key : ∀ a' w', wpOps P ops (lift C (Single d x ((dj, .bool t) :: s.fr) s.hp)) [] a' w' → wpOps P ops (lift C Q) l a' w' := by
      rintro a' w' ⟨F', s', hr', _, rfl⟩
      refine k F' a' w' (hr'.frame fun u y hu => ?_)
      have hu : get ((d, _) :: s.fr) u = some y := hu
      by_cases hdu : d = u
      · subst hdu
        rw [get_cons_self] at hu
        cases hu
        exact ⟨_, get_cons_self _ _ _, fun _ _ h => by simp only [rel]; exact fun _ => h⟩
      · rw [get_cons_ne _ _ hdu] at hu
        rw [get_cons_ne _ _ hdu]
        by_cases hju : dj = u
        · subst hju
          rw [get_cons_self]
          rw [ht] at hu
          cases hu
          exact ⟨_, rfl, fun _ _ h => h⟩
        · rw [get_cons_ne _ _ hju]
          exact ⟨y, hu, fun _ _ h => h⟩
    unfold wpOp at h1 ⊢
    simp only [hi, hw, hb, if_true] at h1 ⊢
    rcases h1 with h1 | ⟨_, a0, w0, F0, s0, _, hq, _⟩
    · refine .inl ?_
      have h2 := Oper.wp_mono key h1
      unfold Oper.wp at h2 ⊢
      generalize (execOp a.eval o).run P w = r at h2 ⊢
      cases r with
      | ok nx w' =>
        cases nx <;> simp only [Oper.upon] at h2 ⊢ <;> first
          | exact h2
          | exact Calls.mono h2 (fun e w'' he => by
              cases e with
              | returned v => exact he
              | panicked c => obtain ⟨_, _, _, hq, _⟩ := he; cases hq
              | outgrown => obtain ⟨_, _, _, _, _, hq, _⟩ := he; cases hq)
      | halt hh w' =>
        cases hh <;> simp only [Oper.upon] at h2 ⊢
        all_goals first
          | exact h2
          | (obtain ⟨_, _, _, hq, _⟩ := h2; cases hq)
    · cases hq
  | false =>
    rw [wpOps_cons]
    unfold wpOp
    simp only [hi, hw, hb, Bool.false_eq_true, if_false, hd]
    refine k F _ _ (hr.put hdn ?_)
    simp [rel, hb]

/-- What a guard has let by, under that guard. -/
theorem Run.unopt (t : Nat) {ops : Array Oper} {l : List Nat} {b : Bool} {x : AV} (ht : get s.fr t = some (.opt b x)) (hb : b = true) (k : Run C ops l Q (s.put t x)) : Run C ops l Q s := fun F a w hr =>
  k F a w (hr.frame fun u y hu => by
    have hu : get ((t, _) :: s.fr) u = some y := hu
    by_cases htu : t = u
    · subst htu
      rw [get_cons_self] at hu
      cases hu
      exact ⟨_, ht, fun _ _ h => by simp only [rel] at h; exact h hb⟩
    · rw [get_cons_ne _ _ htu] at hu
      exact ⟨y, hu, fun _ _ h => h⟩)

section ops
variable {ops : Array Oper} {i : Nat} {l : List Nat} {d : Nat} {T U : TypeId} {pos : String} {aft : Array Edge} {g : Option (Nat × Bool)}

/-- a && b -/
theorem Run.and {c x : Operand} {t b p : Bool} (hi : ops[i]? = some ⟨some d, .pick c x (.const (.bool false)), T, pos, aft, g⟩) (hw : want ops s.fr ⟨some d, .pick c x (.const (.bool false)), T, pos, aft, g⟩ = some true) (hdn : Nat.blt d n = true)
    (hc : Ev s.fr c (.bool t)) (hx : Ev s.fr x (.opt b (.bool p))) (hb : (t == true) = b) (k : Run C ops l Q (s.put d (.bool (t && p)))) : Run C ops (i :: l) Q s :=
  Run.pure hi rfl hdn hw (fun F a w hr => by
    have h1 := Ev.rel hr hc
    have h2 := Ev.rel hr hx
    simp only [rel] at h1 h2
    cases t with
    | true => exact ⟨.bool p, by simp [execOp, h1, asBool, h2 (by rw [← hb]; rfl)], by simp [rel]⟩
    | false => exact ⟨.bool false, (have hk : a.eval (.const (.bool false)) = .bool false := rfl; by simp [execOp, h1, asBool, hk]), by simp [rel]⟩) k

/-- a || b -/
theorem Run.or {c x : Operand} {t b p : Bool} (hi : ops[i]? = some ⟨some d, .pick c (.const (.bool true)) x, T, pos, aft, g⟩) (hw : want ops s.fr ⟨some d, .pick c (.const (.bool true)) x, T, pos, aft, g⟩ = some true) (hdn : Nat.blt d n = true)
    (hc : Ev s.fr c (.bool t)) (hx : Ev s.fr x (.opt b (.bool p))) (hb : (t == false) = b) (k : Run C ops l Q (s.put d (.bool (t || p)))) : Run C ops (i :: l) Q s :=
  Run.pure hi rfl hdn hw (fun F a w hr => by
    have h1 := Ev.rel hr hc
    have h2 := Ev.rel hr hx
    simp only [rel] at h1 h2
    cases t with
    | true => exact ⟨.bool true, (have hk : a.eval (.const (.bool true)) = .bool true := rfl; by simp [execOp, h1, asBool, hk]), by simp [rel]⟩
    | false => exact ⟨.bool p, by simp [execOp, h1, asBool, h2 (by rw [← hb]; rfl)], by simp [rel]⟩) k
end ops
end
end Go.Ab
/- Regions that draw their order: what is calm may come in any order, the rest comes behind it in the text's order. -/
namespace Go.Ab
open Go.RowKit (Below)
section
variable {P : Program} {n : Nat} {C : Cx P n} {Q : Post} {s : St}

theorem wpOp_single {ops : Array Oper} {d i : Nat} {x : AV} {fr : List (Nat × AV)} {H : List Ar} {Q2 : Exit → Act → World → Prop} {K : Act → World → Prop} {a : Act} {w : World}
    (hh : wpOp P ops (lift C (Single d x fr H)) i (wpOps P ops (lift C (Single d x fr H)) []) a w) (hk : ∀ a' w', lift C (Single d x fr H) .normal a' w' → K a' w') : wpOp P ops Q2 i K a w := by
  unfold wpOp at hh ⊢
  split at hh
  · exact hk _ _ hh
  · rename_i o ho
    split at hh
    · rename_i hw
      simp only [hw, if_true]
      rcases hh with h1 | ⟨_, a0, w0, F0, s0, _, hq, _⟩
      · refine .inl ?_
        have h2 := Oper.wp_mono (K' := K) (fun a' w' h => hk a' w' h) h1
        unfold Oper.wp at h2 ⊢
        generalize (execOp a.eval o).run P w = r at h2 ⊢
        cases r with
        | ok nx w' =>
          cases nx <;> simp only [Oper.upon] at h2 ⊢ <;> first
            | exact h2
            | exact Calls.mono h2 (fun e w'' he => by
                cases e with
                | returned v => exact he
                | panicked c => obtain ⟨_, _, _, hq, _⟩ := he; cases hq
                | outgrown => obtain ⟨_, _, _, _, _, hq, _⟩ := he; cases hq)
        | halt hh w' =>
          cases hh <;> simp only [Oper.upon] at h2 ⊢
          all_goals first
            | exact h2
            | (obtain ⟨_, _, _, hq, _⟩ := h2; cases hq)
      · cases hq
    · rename_i hw
      simp only [hw]
      exact hk _ _ hh

/-- A piece of a body, by the way that leads to it. -/
def nav : Code → List Nat → Code
  | c, [] => c
  | .seq a _, 0 :: r => nav a r
  | .seq _ b, 1 :: r => nav b r
  | .block _ b, 0 :: r => nav b r
  | .loop b, 0 :: r => nav b r
  | .cond _ a _, 0 :: r => nav a r
  | .cond _ _ b, 1 :: r => nav b r
  | c, _ => c

/-! ### what waits for what -/
def edges (ops : Array Oper) (i : Nat) : List Nat :=
  match ops[i]? with
  | some o => (o.after.toList.filter fun e => Region.binds .any e).map (·.on)
  | none => []
def mask (ops : Array Oper) (acc : List Nat) (k : Nat) : Nat := (edges ops k).foldl (fun s e => s ||| (2 ^ e ||| acc.getD e 0)) 0
def extend (ops : Array Oper) (k : Nat) (acc : List Nat) : List Nat := acc ++ [mask ops acc k]
def masks (ops : Array Oper) : Nat → List Nat
  | 0 => []
  | k + 1 => extend ops k (masks ops k)

def Closed (ops : Array Oper) (S : Nat → Prop) : Prop := ∀ i, S i → ∀ e ∈ edges ops i, S e

theorem masks_length (ops : Array Oper) : ∀ k, (masks ops k).length = k
  | 0 => rfl
  | k + 1 => by simp [masks, extend, masks_length ops k]

theorem testBit_foldl (acc : List Nat) (j : Nat) : ∀ (es : List Nat) (s0 : Nat), (es.foldl (fun s e => s ||| (2 ^ e ||| acc.getD e 0)) s0).testBit j = true → s0.testBit j = true ∨ ∃ e ∈ es, j = e ∨ (acc.getD e 0).testBit j = true
  | [], s0, h => .inl h
  | e :: es, s0, h => by
    simp only [List.foldl_cons] at h
    rcases testBit_foldl acc j es _ h with h1 | ⟨e', he', h1⟩
    · simp only [Nat.testBit_or, Bool.or_eq_true, Nat.testBit_two_pow, decide_eq_true_eq] at h1
      rcases h1 with h1 | h1 | h1
      · exact .inl h1
      · exact .inr ⟨e, by simp, .inl h1.symm⟩
      · exact .inr ⟨e, by simp, .inr h1⟩
    · exact .inr ⟨e', by simp [he'], h1⟩

theorem masks_spec {ops : Array Oper} {S : Nat → Prop} (hS : Closed ops S) : ∀ (k i j : Nat), ((masks ops k).getD i 0).testBit j = true → (∀ e ∈ edges ops i, S e) → S j
  | 0, i, j, h, _ => by simp [masks] at h
  | k + 1, i, j, h, hi => by
    simp only [masks, extend] at h
    by_cases hik : i < k
    · rw [List.getD_eq_getElem?_getD, List.getElem?_append_left (by rw [masks_length]; exact hik), ← List.getD_eq_getElem?_getD] at h
      exact masks_spec hS k i j h hi
    · by_cases hk : i = k
      · subst hk
        have : (masks ops i ++ [mask ops (masks ops i) i]).getD i 0 = mask ops (masks ops i) i := by
          simp [List.getD, masks_length]
        rw [this] at h
        rcases testBit_foldl _ _ _ _ h with h1 | ⟨e, he, rfl | h1⟩
        · simp at h1
        · exact hi _ he
        · exact masks_spec hS i e j h1 (hS e (hi e he))
      · have : (masks ops k ++ [mask ops (masks ops k) k]).getD i 0 = 0 := by
          rw [List.getD_eq_getElem?_getD, List.getElem?_eq_none (by simp [masks_length]; omega)]
          rfl
        rw [this] at h
        simp at h

/-! ### calm operations -/
structure Item where
  i : Nat
  d : Nat
  nd : List (Nat × Option Nat)
  x : AV

def needsOf (its : List Item) (fr : List (Nat × AV)) : List (Nat × Option Nat) → Option (List (Nat × AV))
  | [] => some []
  | (t, some q) :: r => match its[q]? with
    | some it => match needsOf its fr r with
      | some xs => some ((t, it.x) :: xs)
      | none => none
    | none => none
  | (t, none) :: r => match get fr t with
    | some x => match needsOf its fr r with
      | some xs => some ((t, x) :: xs)
      | none => none
    | none => none

theorem needsOf_mono {its more : List Item} {fr : List (Nat × AV)} : ∀ {nd : List (Nat × Option Nat)} {xs : List (Nat × AV)}, needsOf its fr nd = some xs → needsOf (its ++ more) fr nd = some xs
  | [], xs, h => h
  | (t, some q) :: r, xs, h => by
    simp only [needsOf] at h ⊢
    split at h
    · rename_i it hit
      split at h
      · rename_i ys hys
        have h1 : (its ++ more)[q]? = some it := by
          rw [List.getElem?_append_left (by
            rcases Nat.lt_or_ge q its.length with h' | h'
            · exact h'
            · simp [List.getElem?_eq_none h'] at hit)]
          exact hit
        rw [h1, needsOf_mono hys]
        exact h
      · cases h
    · cases h
  | (t, none) :: r, xs, h => by
    simp only [needsOf] at h ⊢
    split at h
    · rename_i x hx
      split at h
      · rename_i ys hys
        rw [needsOf_mono hys]
        exact h
      · cases h
    · cases h

def Item.ok (C : Cx P n) (ops : Array Oper) (H : List Ar) (fr : List (Nat × AV)) (its : List Item) (it : Item) : Prop :=
  ∃ needs, needsOf its fr it.nd = some needs ∧ ∀ rest, Run C ops [it.i] (Single it.d it.x (needs ++ rest) H) ⟨needs ++ rest, H⟩

def arr (N : Nat) (L : List Nat) : Array Bool := ((List.range N).map fun i => L.contains i).toArray

theorem arr_size (N : Nat) (L : List Nat) : (arr N L).size = N := by simp [arr]
theorem arr_getD {N : Nat} {L : List Nat} {i : Nat} (b : Bool) (hi : i < N) : (arr N L).getD i b = L.contains i := by
  rw [Array.getD_eq_getD_getElem?]
  simp [arr, hi]

def left (N : Nat) (L0 : List Nat) : Nat := ((List.range N).filter fun i => !L0.contains i).length

abbrev Key := Nat × Nat × List (Nat × Option Nat)
def Item.key (it : Item) : Key := (it.i, it.d, it.nd)

/-- The table of a region fits: L0 has come already; the calm ones; then the others. -/
def drawB0 (ops : Array Oper) (L0 : List Nat) (ks : List Key) (tl : List Nat) : Bool :=
  let N := ops.size
  let ms := masks ops N
  let cl := ks.map (·.1)
  (List.range N).all (fun i => L0.contains i || cl.contains i || tl.contains i) &&
  tl.all (fun t => !L0.contains t && !cl.contains t && Nat.blt t N) &&
  cl.all (fun c => !L0.contains c && Nat.blt c N) &&
  L0.all (fun i => Nat.blt i N && (edges ops i).all fun e => L0.contains e) &&
  ks.zipIdx.all (fun (k, p) => (ks.take p).all (fun k' => !(k'.1 == k.1) && !(k'.2.1 == k.2.1)) && (edges ops k.1).all (fun e => L0.contains e || ((ks.take p).map (·.1)).contains e)) &&
  tl.all (fun t => cl.all fun c => (ms.getD t 0).testBit c) &&
  ks.all (fun k => k.2.2.all fun (t, src) => match src with
    | some q => match ks[q]? with
      | some k' => k'.2.1 == t && (ms.getD k.1 0).testBit k'.1
      | none => false
    | none => ks.all fun k' => !(k'.2.1 == t) || (ms.getD k'.1 0).testBit k.1) &&
  Nat.ble (ks.length + tl.length) (left N L0)
/-- The others come one by one. -/
def tailB (ops : Array Oper) (base tl : List Nat) : Bool :=
  (List.range (tl.length + 1)).all (fun q => Region.ready .any ops (arr ops.size (base ++ tl.take q)) == (tl.drop q).take 1)
def drawB (ops : Array Oper) (L0 : List Nat) (ks : List Key) (tl : List Nat) : Bool := drawB0 ops L0 ks tl && tailB ops (L0 ++ ks.map (·.1)) tl

theorem get_needs {fr needs : List (Nat × AV)} (h : ∀ t x, (t, x) ∈ needs → get fr t = some x) (u : Nat) : get (needs ++ fr) u = get fr u := by
  induction needs with
  | nil => rfl
  | cons p r ih =>
    obtain ⟨t, x⟩ := p
    by_cases ht : t = u
    · subst ht
      rw [List.cons_append, get_cons_self, h t x (by simp)]
    · rw [List.cons_append, get_cons_ne _ _ ht]
      exact ih (fun t x hm => h t x (by simp [hm]))

structure Inv (C : Cx P n) (its : List Item) (fr0 : List (Nat × AV)) (H : List Ar) (listed : Array Bool) (a : Act) (w : World) : Prop where
  st : ∃ F fr, R C F ⟨fr, H⟩ a w ∧ (∀ it ∈ its, listed.getD it.i false = true → get fr it.d = some it.x) ∧
    (∀ t x, get fr0 t = some x → (∀ it ∈ its, listed.getD it.i false = true → it.d ≠ t) → get fr t = some x)

theorem tail_any {ops : Array Oper} {Q2 : Exit → Act → World → Prop} {base tl : List Nat} (hb : (List.range (tl.length + 1)).all (fun q => Region.ready .any ops (arr ops.size (base ++ tl.take q)) == (tl.drop q).take 1) = true) (_hlt : ∀ t ∈ tl, t < ops.size) :
    ∀ (fuel q : Nat) (a : Act) (w : World), q ≤ tl.length → tl.length - q ≤ fuel → wpOps P ops Q2 (tl.drop q) a w → wpAny P .any ops Q2 fuel (arr ops.size (base ++ tl.take q)) a w := by
  intro fuel
  induction fuel with
  | zero =>
    intro q a w hq hf h
    have hq' : q = tl.length := by omega
    subst hq'
    have := List.all_eq_true.1 hb tl.length (by simp)
    simp only [beq_iff_eq] at this
    rw [List.drop_length] at this h
    exact ⟨by simpa using this, h⟩
  | succ fuel ih =>
    intro q a w hq hf h
    have hr := List.all_eq_true.1 hb q (by simp; omega)
    simp only [beq_iff_eq] at hr
    by_cases hq' : q = tl.length
    · subst hq'
      rw [List.drop_length] at hr h
      refine ⟨fun _ => h, fun i hi => ?_⟩
      rw [hr] at hi
      cases hi
    · have hlt' : q < tl.length := by omega
      rw [List.drop_eq_getElem_cons hlt'] at hr h
      simp only [List.take_succ_cons, List.take_zero] at hr
      refine ⟨fun h0 => (by rw [hr] at h0; cases h0), fun i hi => ?_⟩
      rw [hr] at hi
      simp only [List.mem_singleton] at hi
      subst hi
      rw [wpOps_cons] at h
      refine wpOp_mono (fun a' w' h' => ?_) h
      have e : (arr ops.size (base ++ tl.take q)).setIfInBounds tl[q] true = arr ops.size (base ++ tl.take (q + 1)) := by
        apply Array.ext
        · simp [arr]
        · intro i h1 h2
          have hm : i ∈ tl.take (q + 1) ↔ i ∈ tl.take q ∨ i = tl[q] := by rw [List.take_succ_eq_append_getElem hlt', List.mem_append, List.mem_singleton]
          have hi1 : i < (arr ops.size (base ++ tl.take q)).size := by simpa using h1
          rw [Array.getElem_setIfInBounds hi1]
          split
          · rename_i hi
            simp [arr, hi, hm]
          · rename_i hi
            have hi' : ¬ i = tl[q] := fun h => hi h.symm
            simp [arr, hm, hi']
      rw [e]
      exact ih (q + 1) a' w' (by omega) (by omega) h'

structure DrawOk (ops : Array Oper) (L0 : List Nat) (its : List Item) (tl : List Nat) : Prop where
  cover : ∀ i, i < ops.size → i ∈ L0 ∨ (∃ it ∈ its, it.i = i) ∨ i ∈ tl
  tl0 : ∀ t ∈ tl, t ∉ L0 ∧ (∀ it ∈ its, it.i ≠ t) ∧ t < ops.size
  cl0 : ∀ it ∈ its, it.i ∉ L0 ∧ it.i < ops.size
  L0c : ∀ i ∈ L0, i < ops.size ∧ ∀ e ∈ edges ops i, e ∈ L0
  dist : ∀ (p q : Nat) (x y : Item), its[p]? = some x → its[q]? = some y → q < p → y.i ≠ x.i ∧ y.d ≠ x.d
  early : ∀ (p : Nat) (x : Item), its[p]? = some x → ∀ e ∈ edges ops x.i, e ∈ L0 ∨ ∃ q y, q < p ∧ its[q]? = some y ∧ y.i = e
  wait : ∀ t ∈ tl, ∀ it ∈ its, ((masks ops ops.size).getD t 0).testBit it.i = true
  from' : ∀ it ∈ its, ∀ t q, (t, some q) ∈ it.nd → ∃ y, its[q]? = some y ∧ y.d = t ∧ ((masks ops ops.size).getD it.i 0).testBit y.i = true
  from0 : ∀ it ∈ its, ∀ t, (t, none) ∈ it.nd → ∀ y ∈ its, y.d = t → ((masks ops ops.size).getD y.i 0).testBit it.i = true
  few : its.length + tl.length ≤ left ops.size L0

theorem drawB_spec {ops : Array Oper} {L0 : List Nat} {its : List Item} {tl : List Nat} (h : drawB0 ops L0 (its.map Item.key) tl = true) : DrawOk ops L0 its tl := by
  simp only [drawB0, Bool.and_eq_true, List.all_eq_true, List.map_map] at h
  obtain ⟨⟨⟨⟨⟨⟨⟨h1, h2⟩, h3⟩, h4⟩, h6⟩, h7⟩, h8⟩, h10⟩ := h
  have key : ∀ (it : Item), it.key.1 = it.i ∧ it.key.2.1 = it.d ∧ it.key.2.2 = it.nd := fun _ => ⟨rfl, rfl, rfl⟩
  refine ⟨fun i hi => ?_, fun t ht => ?_, fun it hit => ?_, fun i hi => ?_, fun p q x y hx hy hqp => ?_, fun p x hx e he => ?_, fun t ht it hit => ?_, fun it hit t q hnd => ?_, fun it hit t hnd y hy hyt => ?_, (by simpa using Nat.le_of_ble_eq_true h10)⟩
  · have := h1 i (by simpa using hi)
    simp only [Bool.or_eq_true, List.contains_iff_mem, List.mem_map, Function.comp] at this
    rcases this with (h | ⟨it, hit, h⟩) | h
    · exact .inl h
    · exact .inr (.inl ⟨it, hit, h⟩)
    · exact .inr (.inr h)
  · have := h2 t ht
    simp only [Bool.not_eq_true', ← Bool.not_eq_true, List.contains_iff_mem, List.mem_map, Function.comp] at this
    exact ⟨this.1.1, fun it hit he => this.1.2 ⟨it, hit, he⟩, Nat.blt_eq.mp this.2⟩
  · have := h3 it.i (List.mem_map.2 ⟨it, hit, rfl⟩)
    simp only [Bool.not_eq_true', ← Bool.not_eq_true, List.contains_iff_mem] at this
    exact ⟨this.1, Nat.blt_eq.mp this.2⟩
  · have := h4 i hi
    simp only [List.contains_iff_mem] at this
    exact ⟨Nat.blt_eq.mp this.1, this.2⟩
  · have hm : (x.key, p) ∈ (its.map Item.key).zipIdx := by
      rw [List.mem_zipIdx_iff_getElem?]
      simp [hx]
    have := (h6 _ hm).1 y.key (by
      refine List.mem_of_getElem? (i := q) ?_
      rw [List.getElem?_take, if_pos hqp]
      simp [hy])
    simp only [Bool.not_eq_true', beq_eq_false_iff_ne] at this
    exact this
  · have hm : (x.key, p) ∈ (its.map Item.key).zipIdx := by
      rw [List.mem_zipIdx_iff_getElem?]
      simp [hx]
    have := (h6 _ hm).2 e he
    simp only [Bool.or_eq_true, List.contains_iff_mem, List.mem_map] at this
    rcases this with h | ⟨k, hk, hke⟩
    · exact .inl h
    · obtain ⟨q, hq⟩ := List.getElem?_of_mem hk
      rw [List.getElem?_take] at hq
      split at hq
      · rename_i hqp
        simp only [List.getElem?_map, Option.map_eq_some_iff] at hq
        obtain ⟨y, hy, hyk⟩ := hq
        exact .inr ⟨q, y, hqp, hy, by rw [← hke, ← hyk]; rfl⟩
      · cases hq
  · exact h7 t ht it.i (List.mem_map.2 ⟨it, hit, rfl⟩)
  · have := h8 it.key (List.mem_map.2 ⟨it, hit, rfl⟩) (t, some q) hnd
    simp only [List.getElem?_map] at this
    cases hq : its[q]? with
    | none => simp [hq] at this
    | some y =>
      simp only [hq, Option.map_some, Bool.and_eq_true, beq_iff_eq] at this
      exact ⟨y, rfl, this.1, this.2⟩
  · have := h8 it.key (List.mem_map.2 ⟨it, hit, rfl⟩) (t, none) hnd
    simp only [List.all_eq_true, Bool.or_eq_true, Bool.not_eq_true', beq_eq_false_iff_ne] at this
    rcases this y.key (List.mem_map.2 ⟨y, hy, rfl⟩) with h | h
    · exact absurd hyt h
    · exact h

structure Good (ops : Array Oper) (L0 : List Nat) (its : List Item) (tl : List Nat) (listed : Array Bool) : Prop where
  size : listed.size = ops.size
  l0 : ∀ i ∈ L0, listed.getD i false = true
  tl : ∀ t ∈ tl, listed.getD t false = false
  closed : Closed ops fun i => listed.getD i false = true

theorem Good.waits {ops : Array Oper} {L0 : List Nat} {its : List Item} {tl : List Nat} {listed : Array Bool} (hg : Good ops L0 its tl listed) {i j : Nat} (h : ((masks ops ops.size).getD i 0).testBit j = true) (hi : ∀ e ∈ edges ops i, listed.getD e false = true) :
    listed.getD j false = true := masks_spec hg.closed ops.size i j h hi

theorem mem_edges {ops : Array Oper} {i e : Nat} {o : Oper} (ho : ops[i]? = some o) : e ∈ edges ops i ↔ ∃ x ∈ o.after, Region.binds .any x = true ∧ x.on = e := by
  simp only [edges, ho, List.mem_map, List.mem_filter, Array.mem_toList_iff]
  constructor
  · rintro ⟨x, ⟨h1, h2⟩, h3⟩; exact ⟨x, h1, h2, h3⟩
  · rintro ⟨x, h1, h2, h3⟩; exact ⟨x, ⟨h1, h2⟩, h3⟩

theorem filter_lt {α : Type} (p q : α → Bool) : ∀ (l : List α), (∀ x ∈ l, q x = true → p x = true) → (∃ x ∈ l, p x = true ∧ q x = false) → (l.filter q).length < (l.filter p).length
  | [], _, h => by obtain ⟨x, hx, _⟩ := h; cases hx
  | y :: l, hm, h => by
    have le : ∀ (l : List α), (∀ x ∈ l, q x = true → p x = true) → (l.filter q).length ≤ (l.filter p).length := by
      intro l
      induction l with
      | nil => intro _; simp
      | cons z l ih =>
        intro hm
        have h1 := ih fun x hx => hm x (by simp [hx])
        have h2 := hm z (by simp)
        cases hq : q z <;> cases hp : p z <;> simp [hq, hp] at h2 ⊢ <;> omega
    obtain ⟨x, hx, hpx, hqx⟩ := h
    rcases List.mem_cons.1 hx with rfl | hx
    · have h1 := le l fun z hz => hm z (by simp [hz])
      simp [hpx, hqx]
      omega
    · have h1 := filter_lt p q l (fun z hz => hm z (by simp [hz])) ⟨x, hx, hpx, hqx⟩
      have h2 := hm y (by simp)
      cases hq : q y <;> cases hp : p y <;> simp [hq, hp] at h2 ⊢ <;> omega

theorem first_of {α : Type} (p : α → Bool) : ∀ (l : List α), (∃ x ∈ l, p x = true) → ∃ (k : Nat) (x : α), l[k]? = some x ∧ p x = true ∧ ∀ q y, q < k → l[q]? = some y → p y = false
  | [], h => by obtain ⟨x, hx, _⟩ := h; cases hx
  | y :: l, h => by
    cases hp : p y with
    | true => exact ⟨0, y, by simp, hp, fun q z hq => by omega⟩
    | false =>
      obtain ⟨x, hx, hpx⟩ := h
      have hx' : x ∈ l := by
        rcases List.mem_cons.1 hx with rfl | hx
        · rw [hp] at hpx; cases hpx
        · exact hx
      obtain ⟨k, z, hz, hpz, hb⟩ := first_of p l ⟨x, hx', hpx⟩
      refine ⟨k + 1, z, by simpa using hz, hpz, fun q u hq hu => ?_⟩
      cases q with
      | zero => simp at hu; subst hu; exact hp
      | succ q => exact hb q u (by omega) (by simpa using hu)

theorem get_ends (fr0 : List (Nat × AV)) : ∀ (its : List Item) (t : Nat) (x : AV), get (its.map (fun it => (it.d, it.x)) ++ fr0) t = some x → (∃ it ∈ its, it.d = t ∧ x = it.x) ∨ ((∀ it ∈ its, it.d ≠ t) ∧ get fr0 t = some x)
  | [], t, x, h => .inr ⟨(fun _ h => by cases h), h⟩
  | it :: its, t, x, h => by
    simp only [List.map_cons, List.cons_append] at h
    by_cases hd : it.d = t
    · subst hd
      rw [get_cons_self] at h
      cases h
      exact .inl ⟨it, by simp, rfl, rfl⟩
    · rw [get_cons_ne _ _ hd] at h
      rcases get_ends fr0 its t x h with ⟨y, hy, h1⟩ | ⟨h1, h2⟩
      · exact .inl ⟨y, by simp [hy], h1⟩
      · refine .inr ⟨fun y hy => ?_, h2⟩
        rcases List.mem_cons.1 hy with rfl | hy
        · exact hd
        · exact h1 y hy

theorem draw_finish {ops : Array Oper} {L0 : List Nat} {its : List Item} {tl : List Nat} {fr0 : List (Nat × AV)} {H : List Ar} {Q2 : Exit → Act → World → Prop} (ok : DrawOk ops L0 its tl) (hb : tailB ops (L0 ++ its.map (·.i)) tl = true)
    (htail : ∀ a w, (∃ F, R C F ⟨its.map (fun it => (it.d, it.x)) ++ fr0, H⟩ a w) → wpOps P ops Q2 tl a w)
    {listed : Array Bool} {a : Act} {w : World} (hinv : Inv C its fr0 H listed a w) (hg : Good ops L0 its tl listed) (hall : ∀ it ∈ its, listed.getD it.i false = true) (fuel : Nat) (hf : tl.length ≤ fuel) : wpAny P .any ops Q2 fuel listed a w := by
  have e : listed = arr ops.size (L0 ++ its.map (·.i) ++ tl.take 0) := by
    apply Array.ext
    · simp [hg.size, arr]
    · intro i h1 h2
      have hi : i < ops.size := by rw [← hg.size]; exact h1
      have g1 : listed.getD i false = listed[i] := by simp [Array.getD, h1]
      have g2 := arr_getD (N := ops.size) (L := L0 ++ its.map (·.i) ++ tl.take 0) false hi
      have g3 : (arr ops.size (L0 ++ its.map (·.i) ++ tl.take 0)).getD i false = (arr ops.size (L0 ++ its.map (·.i) ++ tl.take 0))[i] := by rw [Array.getD_eq_getD_getElem?, Array.getElem?_eq_getElem h2]; rfl
      rw [← g1, ← g3, g2]
      rcases ok.cover i hi with h | ⟨it, hit, rfl⟩ | h
      · rw [hg.l0 i h]; simp [h]
      · rw [hall it hit]
        have : it.i ∈ its.map (·.i) := List.mem_map.2 ⟨it, hit, rfl⟩
        simp only [List.take_zero, List.append_nil]
        exact (List.contains_iff_mem.2 (List.mem_append.2 (.inr this))).symm
      · rw [hg.tl i h]
        obtain ⟨h1, h2, _⟩ := ok.tl0 i h
        have : ¬ i ∈ L0 ++ its.map (·.i) ++ tl.take 0 := by
          simp only [List.take_zero, List.append_nil, List.mem_append, List.mem_map, not_or]
          exact ⟨h1, fun ⟨it, hit, he⟩ => h2 it hit he⟩
        cases hc : (L0 ++ its.map (·.i) ++ tl.take 0).contains i with
        | false => rfl
        | true => exact absurd (List.contains_iff_mem.1 hc) this
  have ht := tail_any (P := P) (Q2 := Q2) hb (fun t ht => (ok.tl0 t ht).2.2) fuel 0 a w (by omega) (by omega)
  rw [e]
  refine ht ?_
  rw [List.drop_zero]
  obtain ⟨F, fr, hr, h1, h2⟩ := hinv.st
  refine htail a w ⟨F, hr.frame fun t x hx => ?_⟩
  rcases get_ends fr0 its t x hx with ⟨it, hit, rfl, rfl⟩ | ⟨h3, h4⟩
  · exact ⟨_, h1 it hit (hall it hit), fun _ _ h => h⟩
  · exact ⟨x, h2 t x h4 fun it hit _ => h3 it hit, fun _ _ h => h⟩

theorem needs_hold {its : List Item} {fr0 fr : List (Nat × AV)} : ∀ {nd : List (Nat × Option Nat)} {needs : List (Nat × AV)}, needsOf its fr0 nd = some needs →
    (∀ t q y, (t, some q) ∈ nd → its[q]? = some y → get fr t = some y.x) → (∀ t x, (t, none) ∈ nd → get fr0 t = some x → get fr t = some x) → ∀ t x, (t, x) ∈ needs → get fr t = some x
  | [], needs, h, _, _, t, x, hm => by simp only [needsOf, Option.some.injEq] at h; subst h; cases hm
  | (u, some q) :: r, needs, h, h1, h2, t, x, hm => by
    simp only [needsOf] at h
    split at h
    · rename_i it hit
      split at h
      · rename_i ys hys
        cases h
        rcases List.mem_cons.1 hm with he | hm
        · cases he
          exact h1 _ q it (by simp) hit
        · exact needs_hold hys (fun t q y hm hy => h1 t q y (by simp [hm]) hy) (fun t x hm hx => h2 t x (by simp [hm]) hx) t x hm
      · cases h
    · cases h
  | (u, none) :: r, needs, h, h1, h2, t, x, hm => by
    simp only [needsOf] at h
    split at h
    · rename_i y hy
      split at h
      · rename_i ys hys
        cases h
        rcases List.mem_cons.1 hm with he | hm
        · cases he
          exact h2 _ _ (by simp) hy
        · exact needs_hold hys (fun t q y hm hy => h1 t q y (by simp [hm]) hy) (fun t x hm hx => h2 t x (by simp [hm]) hx) t x hm
      · cases h
    · cases h

theorem draw_main {ops : Array Oper} {L0 : List Nat} {its : List Item} {tl : List Nat} {fr0 : List (Nat × AV)} {H : List Ar} {Q2 : Exit → Act → World → Prop} (ok : DrawOk ops L0 its tl) (hb : tailB ops (L0 ++ its.map (·.i)) tl = true) (hs : ∀ it ∈ its, it.ok C ops H fr0 its)
    (htail : ∀ a w, (∃ F, R C F ⟨its.map (fun it => (it.d, it.x)) ++ fr0, H⟩ a w) → wpOps P ops Q2 tl a w) :
    ∀ (fuel : Nat) (listed : Array Bool) (a : Act) (w : World), Inv C its fr0 H listed a w → Good ops L0 its tl listed → ((its.filter fun it => !listed.getD it.i false).length + tl.length ≤ fuel) → wpAny P .any ops Q2 fuel listed a w := by
  intro fuel
  have allOf : ∀ {listed : Array Bool}, (its.filter fun it => !listed.getD it.i false) = [] → ∀ it ∈ its, listed.getD it.i false = true := by
    intro listed h it hit
    have := List.filter_eq_nil_iff.1 h it hit
    cases hb : listed.getD it.i false with
    | true => rfl
    | false => rw [hb] at this; exact absurd rfl this
  induction fuel with
  | zero =>
    intro listed a w hinv hg hf
    exact draw_finish ok hb htail hinv hg (allOf (List.length_eq_zero_iff.1 (by omega))) 0 (by omega)
  | succ fuel ih =>
    intro listed a w hinv hg hf
    by_cases hall : (its.filter fun it => !listed.getD it.i false) = []
    · exact draw_finish ok hb htail hinv hg (allOf hall) (fuel + 1) (by rw [hall] at hf; simpa using hf)
    · have hex : ∃ it ∈ its, (!listed.getD it.i false) = true := by
        obtain ⟨it, hit⟩ := List.exists_mem_of_ne_nil _ hall
        exact ⟨it, (List.mem_filter.1 hit).1, (List.mem_filter.1 hit).2⟩
      refine ⟨fun h0 => ?_, fun i hi => ?_⟩
      · -- something may come up
        obtain ⟨p, x, hx, hux, hbefore⟩ := first_of (fun it : Item => !listed.getD it.i false) its hex
        exfalso
        have hxm := List.mem_of_getElem? hx
        have hlt := (ok.cl0 x hxm).2
        have hr : x.i ∈ Region.ready .any ops listed := by
          refine mem_ready.2 ⟨?_, ops[x.i], Array.getElem?_eq_getElem hlt, fun e he hb => ?_⟩
          · have : listed.getD x.i false = false := by simpa using hux
            rw [Array.getD_eq_getD_getElem?] at this ⊢
            have hl : x.i < listed.size := by rw [hg.size]; exact hlt
            rw [Array.getElem?_eq_getElem hl] at this ⊢
            exact this
          · have hed : e.on ∈ edges ops x.i := (mem_edges (Array.getElem?_eq_getElem hlt)).2 ⟨e, he, hb, rfl⟩
            rcases ok.early p x hx e.on hed with h | ⟨q, y, hq, hy, hye⟩
            · exact hg.l0 _ h
            · have := hbefore q y hq hy
              rw [← hye]
              simpa using this
        rw [h0] at hr
        cases hr
      · obtain ⟨hun, o, ho, hed⟩ := mem_ready.1 hi
        have hlt : i < ops.size := (Array.getElem?_eq_some_iff.1 ho).1
        have hl : i < listed.size := by rw [hg.size]; exact hlt
        have hun' : listed.getD i false = false := by
          rw [Array.getD_eq_getD_getElem?] at hun ⊢
          rw [Array.getElem?_eq_getElem hl] at hun ⊢
          exact hun
        have hedges : ∀ e ∈ edges ops i, listed.getD e false = true := fun e he => by
          obtain ⟨x, hx, hb, rfl⟩ := (mem_edges ho).1 he
          exact hed x hx hb
        rcases ok.cover i hlt with h | ⟨it, hit, rfl⟩ | h
        · rw [hg.l0 i h] at hun'; cases hun'
        · obtain ⟨needs, hneeds, hrun⟩ := hs it hit
          obtain ⟨F, fr, hr, h1, h2⟩ := hinv.st
          have hhold : ∀ t x, (t, x) ∈ needs → get fr t = some x := by
            refine needs_hold hneeds (fun t q y hm hy => ?_) (fun t x hm hx => ?_)
            · obtain ⟨y', hy', hyt, hb⟩ := ok.from' it hit t q hm
              rw [hy] at hy'
              cases hy'
              rw [← hyt]
              exact h1 y (List.mem_of_getElem? hy) (hg.waits hb hedges)
            · refine h2 t x hx fun y hy hly hyt => ?_
              have hb := ok.from0 it hit t hm y hy hyt
              have := hg.waits hb (fun e he => hg.closed y.i hly e he)
              rw [hun'] at this
              cases this
          have hget := get_needs hhold
          have hr' : R C F ⟨needs ++ fr, H⟩ a w := hr.frame fun t x hx => ⟨x, by rw [← hget]; exact hx, fun _ _ h => h⟩
          have hone := hrun fr F a w hr'
          rw [wpOps_cons] at hone
          refine wpOp_single hone fun a' w' ⟨F', s', hr2, _, hs'⟩ => ?_
          subst hs'
          have hset : ∀ j, (listed.setIfInBounds it.i true).getD j false = true ↔ j = it.i ∨ listed.getD j false = true := by
            intro j
            by_cases hj : it.i = j
            · subst hj
              simp [Array.getD_eq_getD_getElem?, hl]
            · rw [getD_set_ne false hj]
              constructor
              · exact .inr
              · rintro (h | h)
                · exact absurd h.symm hj
                · exact h
          have hpos : ∃ p, its[p]? = some it := List.getElem?_of_mem hit
          have hdist : ∀ y ∈ its, y.i ≠ it.i → y.d ≠ it.d := fun y hy hne => by
            obtain ⟨p, hp⟩ := hpos
            obtain ⟨q, hq⟩ := List.getElem?_of_mem hy
            rcases Nat.lt_trichotomy p q with h | h | h
            · exact fun e => (ok.dist q p y it hq hp h).2 e.symm
            · subst h; rw [hp] at hq; cases hq; exact absurd rfl hne
            · exact (ok.dist p q it y hp hq h).2
          have hsame : ∀ y ∈ its, y.i = it.i → y = it := fun y hy he => by
            obtain ⟨p, hp⟩ := hpos
            obtain ⟨q, hq⟩ := List.getElem?_of_mem hy
            rcases Nat.lt_trichotomy p q with h | h | h
            · exact absurd he.symm (ok.dist q p y it hq hp h).1
            · subst h; rw [hp] at hq; cases hq; rfl
            · exact absurd he (ok.dist p q it y hp hq h).1
          refine ih _ a' w' ⟨F', _, hr2, fun y hy hly => ?_, fun t x hx hno => ?_⟩ ⟨by simp [hg.size], fun j hj => (hset j).2 (.inr (hg.l0 j hj)), fun t ht => ?_, fun j hj e he => ?_⟩ ?_
          · rcases (hset _).1 hly with he | hly
            · rw [hsame y hy he]; exact get_cons_self _ _ _
            · by_cases he : y.i = it.i
              · rw [hsame y hy he]; exact get_cons_self _ _ _
              · rw [get_cons_ne _ _ (hdist y hy he).symm, hget]
                exact h1 y hy hly
          · have hd : it.d ≠ t := hno it hit ((hset _).2 (.inl rfl))
            rw [get_cons_ne _ _ hd, hget]
            exact h2 t x hx fun y hy hly => hno y hy ((hset _).2 (.inr hly))
          · cases hb : (listed.setIfInBounds it.i true).getD t false with
            | false => rfl
            | true =>
              rcases (hset t).1 hb with h | h
              · exact absurd h.symm ((ok.tl0 t ht).2.1 it hit)
              · rw [hg.tl t ht] at h; cases h
          · refine (hset e).2 (.inr ?_)
            rcases (hset j).1 hj with rfl | hj
            · exact hedges e he
            · exact hg.closed j hj e he
          · have hlt2 := filter_lt (fun y : Item => !listed.getD y.i false) (fun y : Item => !(listed.setIfInBounds it.i true).getD y.i false) its (fun y _ hq => by
              cases hb : listed.getD y.i false with
              | false => rfl
              | true =>
                have := (hset y.i).2 (.inr hb)
                rw [this] at hq
                cases hq) ⟨it, hit, by rw [hun']; rfl, by rw [(hset it.i).2 (.inl rfl)]; rfl⟩
            omega
        · exfalso
          obtain ⟨it, hit, hu⟩ := hex
          have := hg.waits (ok.wait i h it hit) hedges
          rw [this] at hu
          cases hu
/-! ### the moves -/
/-- A region of which the operations L0 have come. -/
def Drawn (C : Cx P n) (ops : Array Oper) (L0 : List Nat) (Q : Post) (s : St) : Prop :=
  ∀ F a w, R C F s a w → ∀ fuel, left ops.size L0 ≤ fuel → wpAny P .any ops (NoPanic (lift C Q)) fuel (arr ops.size L0) a w

theorem WP.draw {id : Nat} {ops : Array Oper} (hm : P.follows .mixedOrders = true) (h : Drawn C ops [] Q s) : WP C (.region id ops true) Q s :=
  fun F a w hr => wp_region_noPanic (wp_region_any hm (by
    have e : Array.replicate ops.size false = arr ops.size [] := by
      apply Array.ext
      · simp [arr]
      · intro i h1 h2
        simp [arr]
    rw [e]
    refine h F a _ hr.drew ops.size ?_
    have := List.length_filter_le (fun i => !([] : List Nat).contains i) (List.range ops.size)
    simpa [left] using this))

/-- Copies of slots may be taken first. -/
theorem Drawn.move {ops : Array Oper} {L0 : List Nat} (i : Nat) {d : Nat} {x : Operand} {v : AV} {T : TypeId} {pos : String} {aft : Array Edge} (hi : ops[i]? = some ⟨some d, .move x, T, pos, aft, none⟩)
    (hchk : (Region.noSelect ops && Region.free .any ops (arr ops.size L0) i && (Region.ready .any ops (arr ops.size L0)).contains i && !L0.contains i) = true) (hdn : Nat.blt d n = true) (hx : Ev s.fr x v)
    (k : Drawn C ops (L0 ++ [i]) Q (s.put d v)) : Drawn C ops L0 Q s := by
  intro F a w hr fuel hf
  simp only [Bool.and_eq_true] at hchk
  obtain ⟨⟨⟨h1, h2⟩, h3⟩, h4⟩ := hchk
  have hlt : i < ops.size := (Array.getElem?_eq_some_iff.1 hi).1
  have e : (arr ops.size L0).setIfInBounds i true = arr ops.size (L0 ++ [i]) := by
    apply Array.ext
    · simp [arr]
    · intro j h1 h2
      have hj1 : j < (arr ops.size L0).size := by simpa using h1
      rw [Array.getElem_setIfInBounds hj1]
      split
      · rename_i hij; simp [arr, hij]
      · rename_i hij
        have : ¬ j = i := fun h => hij h.symm
        simp [arr, this]
  have hput := hr.put hdn (Ev.rel hr hx)
  have hless : left ops.size (L0 ++ [i]) < left ops.size L0 := filter_lt _ _ _ (fun j _ hj => by
    cases hb : L0.contains j with
    | false => rfl
    | true =>
      have : (L0 ++ [i]).contains j = true := List.contains_iff_mem.2 (List.mem_append.2 (.inl (List.contains_iff_mem.1 hb)))
      rw [this] at hj
      cases hj) ⟨i, by simpa using hlt, h4, by simp⟩
  cases fuel with
  | zero => omega
  | succ fuel =>
    refine wpAny_take (v := a.eval x) hi h1 h2 h3 (fun c a w h => (h : False).elim) (.inl ⟨by simp [Region.wanted], fun w => by simp [execOp]⟩) ?_
    rw [e]
    exact k F _ w hput fuel (by omega)

/-- What is calm, one after the other in the text's order; each in whatever order it comes. -/
def Draw (C : Cx P n) (ops : Array Oper) (L0 : List Nat) (H : List Ar) (fr0 : List (Nat × AV)) (Q : Post) (its : List Item) : Prop :=
  (∀ it ∈ its, it.ok C ops H fr0 its) → Drawn C ops L0 Q ⟨fr0, H⟩

theorem Drawn.calm {ops : Array Oper} {L0 : List Nat} (k : Draw C ops L0 s.hp s.fr Q []) : Drawn C ops L0 Q s := k fun _ h => by cases h

theorem Draw.op (i d : Nat) (nd : List (Nat × Option Nat)) {ops : Array Oper} {L0 : List Nat} {H : List Ar} {fr0 : List (Nat × AV)} {its : List Item} {needs : List (Nat × AV)} {x : AV} (hn : needsOf its fr0 nd = some needs)
    (h : ∀ rest, Run C ops [i] (Single d x (needs ++ rest) H) ⟨needs ++ rest, H⟩) (k : Draw C ops L0 H fr0 Q (its ++ [⟨i, d, nd, x⟩])) : Draw C ops L0 H fr0 Q its := by
  intro hs
  refine k fun it hit => ?_
  rcases List.mem_append.1 hit with hit | hit
  · obtain ⟨nds, h1, h2⟩ := hs it hit
    exact ⟨nds, needsOf_mono h1, h2⟩
  · simp only [List.mem_singleton] at hit
    subst hit
    exact ⟨needs, needsOf_mono hn, h⟩

abbrev np (Q : Post) : Post
  | .panic _, _ => False
  | e, s => Q e s

theorem wpOps_mono {ops : Array Oper} {Q1 Q2 : Exit → Act → World → Prop} (hq : ∀ e a w, Q1 e a w → Q2 e a w) : ∀ (l : List Nat) (a : Act) (w : World), wpOps P ops Q1 l a w → wpOps P ops Q2 l a w
  | [], a, w, h => hq _ _ _ h
  | i :: l, a, w, h => by
    rw [wpOps_cons] at h ⊢
    have ih := wpOps_mono (ops := ops) hq l
    unfold wpOp at h ⊢
    split at h
    · exact ih _ _ h
    · rename_i o ho
      split at h
      · rename_i hw
        simp only [hw, if_true]
        rcases h with h | ⟨h1, a0, w0, h2⟩
        · refine .inl ?_
          have h2 := Oper.wp_mono (K' := wpOps P ops Q2 l) ih h
          unfold Oper.wp at h2 ⊢
          generalize (execOp a.eval o).run P w = r at h2 ⊢
          cases r with
          | ok nx w' =>
            cases nx <;> simp only [Oper.upon] at h2 ⊢ <;> first
              | exact h2
              | exact Calls.mono h2 (fun e w'' he => by
                  cases e with
                  | returned v => exact he
                  | panicked c => exact hq _ _ _ he
                  | outgrown => obtain ⟨a1, w1, he⟩ := he; exact ⟨a1, w1, hq _ _ _ he⟩)
          | halt hh w' =>
            cases hh <;> simp only [Oper.upon] at h2 ⊢
            all_goals first
              | exact h2
              | exact hq _ _ _ h2
        · exact .inr ⟨h1, a0, w0, hq _ _ _ h2⟩
      · rename_i hw
        simp only [hw]
        exact ih _ _ h

theorem Draw.tail (tl : List Nat) {ops : Array Oper} {L0 : List Nat} {H : List Ar} {fr0 : List (Nat × AV)} {its : List Item} {ks : List Key} (hk : its.map Item.key = ks) (hb : drawB ops L0 ks tl = true)
    (k : Run C ops tl (np Q) ⟨its.map (fun it => (it.d, it.x)) ++ fr0, H⟩) : Draw C ops L0 H fr0 Q its := by
  intro hs F a w hr fuel hf
  simp only [drawB, Bool.and_eq_true] at hb
  have ok := drawB_spec (by rw [hk]; exact hb.1 : drawB0 ops L0 (its.map Item.key) tl = true)
  have hb2 : tailB ops (L0 ++ its.map (·.i)) tl = true := by
    have := hb.2
    rw [← hk, List.map_map] at this
    exact this
  have hnp : ∀ e a w, lift C (np Q) e a w → NoPanic (lift C Q) e a w := fun e a w h => by
    cases e with
    | panic c => obtain ⟨F, s, _, hq⟩ := h; exact hq.elim
    | _ => exact h
  have hget : ∀ i, (arr ops.size L0).getD i false = true ↔ i ∈ L0 ∧ i < ops.size := by
    intro i
    by_cases hi : i < ops.size
    · rw [arr_getD false hi]
      simp [hi]
    · rw [Array.getD_eq_getD_getElem?, Array.getElem?_eq_none (by rw [arr_size]; omega)]
      simp [hi]
  refine draw_main (P := P) ok hb2 hs (fun a w ⟨F, hr⟩ => ?_) fuel (arr ops.size L0) a w ⟨F, fr0, hr, fun it hit hl => ?_, fun t x hx _ => hx⟩ ⟨arr_size _ _, fun i hi => (hget i).2 ⟨hi, (ok.L0c i hi).1⟩, fun t ht => ?_, fun i hi e he => ?_⟩ ?_
  · exact wpOps_mono hnp tl a w (k F a w hr)
  · exact absurd ((hget _).1 hl).1 (ok.cl0 it hit).1
  · cases hb : (arr ops.size L0).getD t false with
    | false => rfl
    | true => exact absurd ((hget t).1 hb).1 (ok.tl0 t ht).1
  · have h1 := ((hget i).1 hi).1
    have h2 := (ok.L0c i h1).2 e he
    exact (hget e).2 ⟨h2, (ok.L0c e h2).1⟩
  · have := List.length_filter_le (fun it : Item => !(arr ops.size L0).getD it.i false) its
    have := ok.few
    omega
end
end Go.Ab
/- Names of places are free: a slot may be told otherwise; a block may pass from one place to another; a family may stand in another order. -/
namespace Go.Ab
section
variable {P : Program} {n : Nat} {C : Cx P n} {Q : Post} {s : St}

/-- A slot is told by less, or otherwise. -/
theorem R.weak {F : Nat → Prop} {a : Act} {w : World} (hr : R C F s a w) {t : Nat} {x y : AV} (ht : get s.fr t = some y) (h : ∀ v, rel F w y v → rel F w x v) : R C F (s.put t x) a w :=
  ⟨hr.size, hr.defers, fun u z hu => by
    have hu : get ((t, x) :: s.fr) u = some z := hu
    by_cases htu : t = u
    · subst htu
      rw [get_cons_self] at hu
      cases hu
      exact h _ (hr.fr _ _ ht)
    · rw [get_cons_ne _ _ htu] at hu
      exact hr.fr u z hu, hr.sat, hr.os, hr.tape, hr.output, hr.hsize, hr.block, hr.F0, hr.F1, hr.elder⟩
theorem WP.weak (t : Nat) {c : Code} {x y : AV} (ht : get s.fr t = some y) (h : ∀ F w v, rel F w y v → rel F w x v) (k : WP C c Q (s.put t x)) : WP C c Q s := fun F a w hr => k F a w (hr.weak ht (h F w))
theorem LP.weak (t : Nat) {c : Code} {x y : AV} (ht : get s.fr t = some y) (h : ∀ F w v, rel F w y v → rel F w x v) (k : LP C c Q (s.put t x)) : LP C c Q s := fun F a w hr => k F a w (hr.weak ht (h F w))
theorem Run.weak (t : Nat) {ops : Array Oper} {l : List Nat} {x y : AV} (ht : get s.fr t = some y) (h : ∀ F w v, rel F w y v → rel F w x v) (k : Run C ops l Q (s.put t x)) : Run C ops l Q s := fun F a w hr => k F a w (hr.weak ht (h F w))

theorem own_open {id id' b m off len cap cap' : Nat} {o : Bool} (hc : cap' ≤ cap) {F : Nat → Prop} {w : World} {v : Value} (h : rel F w (.own id b m off len cap o) v) : rel F w (.own id' b m off len cap' true) v := by
  simp only [rel] at h ⊢
  obtain ⟨c, rfl, h1, _, h2⟩ := h
  exact ⟨c, rfl, by omega, (fun h => by cases h), h2⟩
theorem own_name {id b m off len cap : Nat} {o : Bool} (id' : Nat) {F : Nat → Prop} {w : World} {v : Value} (h : rel F w (.own id b m off len cap o) v) : rel F w (.own id' b m off len cap o) v := by
  simpa only [rel] using h

theorem WP.hp {c : Code} {H' : List Ar} (h : s.hp = H') (k : WP C c Q ⟨s.fr, H'⟩) : WP C c Q s := by subst h; exact k
theorem LP.hp {c : Code} {H' : List Ar} (h : s.hp = H') (k : LP C c Q ⟨s.fr, H'⟩) : LP C c Q s := by subst h; exact k
theorem splice_length {cs xs : List AV} {off : Nat} (h : off + xs.length ≤ cs.length) : (splice cs off xs).length = cs.length := by
  simp [splice]; omega

/-- Blocks stand elsewhere. -/
structure Moved (H H' : List Ar) : Prop where
  back : ∀ {i j b : Nat} {cs : List AV}, At H' i j b cs → ∃ i' j', At H i' j' b cs
  inj : ∀ {i j p q b : Nat} {cs cs' : List AV}, At H' i p b cs → At H' j q b cs' → (∀ {i j p q : Nat} {cs cs' : List AV}, At H i p b cs → At H j q b cs' → i = j ∧ p = q) → i = j ∧ p = q
theorem R.moved {F : Nat → Prop} {a : Act} {w : World} {H' : List Ar} (hr : R C F s a w) (h : Moved s.hp H') : R C F ⟨s.fr, H'⟩ a w :=
  ⟨hr.size, hr.defers, hr.fr, ⟨hr.sat.old, fun hx => let ⟨_, _, hy⟩ := h.back hx; hr.sat.live hy, fun hx hy => h.inj hx hy fun h1 h2 => hr.sat.inj h1 h2⟩, hr.os, hr.tape, hr.output, hr.hsize, hr.block, hr.F0, hr.F1, hr.elder⟩
theorem WP.moved {c : Code} {H' : List Ar} (h : Moved s.hp H') (k : WP C c Q ⟨s.fr, H'⟩) : WP C c Q s := fun F a w hr => k F a w (hr.moved h)
theorem LP.moved {c : Code} {H' : List Ar} (h : Moved s.hp H') (k : LP C c Q ⟨s.fr, H'⟩) : LP C c Q s := fun F a w hr => k F a w (hr.moved h)
theorem Run.moved {ops : Array Oper} {l : List Nat} {H' : List Ar} (h : Moved s.hp H') (k : Run C ops l Q ⟨s.fr, H'⟩) : Run C ops l Q s := fun F a w hr => k F a w (hr.moved h)

/-- One block passes to the end of a family. -/
theorem Moved.absorb {H : List Ar} {i f b : Nat} {cs : List AV} {l : Ar} (hi : H[i]? = some [(b, cs)]) (hf : H[f]? = some l) (hne : i ≠ f) : Moved H ((H.set i []).set f (l ++ [(b, cs)])) := by
  have key : ∀ {p q c : Nat} {ds : List AV}, At ((H.set i []).set f (l ++ [(b, cs)])) p q c ds → (p = f ∧ q = l.length ∧ c = b ∧ ds = cs) ∨ (p = f ∧ q < l.length ∧ At H f q c ds) ∨ (p ≠ f ∧ p ≠ i ∧ At H p q c ds) := by
    intro p q c ds h
    rcases h.set with ⟨rfl, h'⟩ | ⟨hpf, h'⟩
    · by_cases hq : q < l.length
      · rw [List.getElem?_append_left hq] at h'
        exact .inr (.inl ⟨rfl, hq, l, hf, h'⟩)
      · rw [List.getElem?_append_right (Nat.le_of_not_lt hq)] at h'
        by_cases hq' : q - l.length = 0
        · rw [hq'] at h'
          simp at h'
          exact .inl ⟨rfl, by omega, h'.1.symm, h'.2.symm⟩
        · obtain ⟨r, hr⟩ := Nat.exists_eq_succ_of_ne_zero hq'
          rw [hr] at h'
          simp at h'
    · rcases h'.set with ⟨rfl, h''⟩ | ⟨hpi, h''⟩
      · simp at h''
      · exact .inr (.inr ⟨hpf, hpi, h''⟩)
  refine ⟨fun {p q c ds} h => ?_, fun {p q u v c ds ds'} hx hy hin => ?_⟩
  · rcases key h with ⟨_, _, rfl, rfl⟩ | ⟨_, _, h'⟩ | ⟨_, _, h'⟩
    · exact ⟨i, 0, At.one hi⟩
    · exact ⟨_, _, h'⟩
    · exact ⟨_, _, h'⟩
  · rcases key hx with ⟨h1, h2, h3, h4⟩ | ⟨h1, h2, h3⟩ | ⟨h1, h2, h3⟩ <;> rcases key hy with ⟨k1, k2, k3, k4⟩ | ⟨k1, k2, k3⟩ | ⟨k1, k2, k3⟩
    · exact ⟨h1.trans k1.symm, h2.trans k2.symm⟩
    · subst h3; exact absurd (hin (At.one hi) k3).1 hne
    · subst h3; exact absurd (hin (At.one hi) k3).1 (Ne.symm k2)
    · subst k3; exact absurd (hin (At.one hi) h3).1 hne
    · exact ⟨h1.trans k1.symm, (hin h3 k3).2⟩
    · exact absurd (hin h3 k3).1 (Ne.symm k1)
    · subst k3; exact absurd (hin (At.one hi) h3).1 (Ne.symm h2)
    · exact absurd (hin h3 k3).1 h1
    · exact hin h3 k3

/-- A family in another order. -/
theorem Moved.renum {H : List Ar} {f : Nat} {l l' : Ar} (hf : H[f]? = some l) (σ : Nat → Nat) (hinj : ∀ p q, σ p = σ q → p = q) (h : ∀ q : Nat, l'[q]? = l[σ q]?) : Moved H (H.set f l') := by
  have key : ∀ {p q c : Nat} {ds : List AV}, At (H.set f l') p q c ds → (p = f ∧ At H f (σ q) c ds) ∨ (p ≠ f ∧ At H p q c ds) := by
    intro p q c ds hx
    rcases hx.set with ⟨rfl, h'⟩ | ⟨hpf, h'⟩
    · exact .inl ⟨rfl, l, hf, (h q) ▸ h'⟩
    · exact .inr ⟨hpf, h'⟩
  refine ⟨fun {p q c ds} hx => ?_, fun {p q u v c ds ds'} hx hy hin => ?_⟩
  · rcases key hx with ⟨_, h'⟩ | ⟨_, h'⟩
    · exact ⟨_, _, h'⟩
    · exact ⟨_, _, h'⟩
  · rcases key hx with ⟨h1, h2⟩ | ⟨h1, h2⟩ <;> rcases key hy with ⟨k1, k2⟩ | ⟨k1, k2⟩
    · exact ⟨h1.trans k1.symm, hinj _ _ (hin h2 k2).2⟩
    · exact absurd (hin h2 k2).1 (Ne.symm k1)
    · exact absurd (hin h2 k2).1 h1
    · exact hin h2 k2

/-- Two things of a list change places. -/
def swap {α : Type} (l : List α) (i j : Nat) : List α := match l[i]?, l[j]? with
  | some x, some y => (l.set i y).set j x
  | _, _ => l
theorem swap_at {α : Type} {l : List α} {i j : Nat} (hi : i < l.length) (hj : j < l.length) (q : Nat) : (swap l i j)[q]? = l[if q = j then i else if q = i then j else q]? := by
  unfold swap
  rw [List.getElem?_eq_getElem hi, List.getElem?_eq_getElem hj]
  simp only [List.getElem?_set, List.length_set]
  by_cases h1 : j = q
  · subst h1; simp [hj, hi]
  · rw [if_neg h1, if_neg (Ne.symm h1)]
    by_cases h2 : i = q
    · subst h2; simp [hi, hj]
    · rw [if_neg h2, if_neg (Ne.symm h2)]
theorem Moved.swap {H : List Ar} {f i j : Nat} {l : Ar} (hf : H[f]? = some l) (hi : i < l.length) (hj : j < l.length) : Moved H (H.set f (swap l i j)) :=
  .renum hf (fun q => if q = j then i else if q = i then j else q) (fun p q h => by
    split at h <;> split at h <;> first | omega | (split at h <;> first | omega | (split at h <;> omega))) (swap_at hi hj)
section ops
variable {ops : Array Oper} {i : Nat} {l : List Nat} {d : Nat} {T U : TypeId} {pos : String} {aft : Array Edge} {g : Option (Nat × Bool)}
/-- x[lo:hi] of a slice of the call's own, lo up to its capacity. -/
theorem Run.slice_any {x : Operand} {lo hi : Option Operand} {id b m off len cap bl bh : Nat} {opn : Bool} (hi' : ops[i]? = some ⟨some d, .slice U x lo hi none, T, pos, aft, g⟩) (hw : want ops s.fr ⟨some d, .slice U x lo hi none, T, pos, aft, g⟩ = some true) (hdn : Nat.blt d n = true)
    (hx : Ev s.fr x (.own id b m off len cap opn)) (hT : slB P U m = true) (hlo : Bnd s.fr lo 0 bl) (hhi : Bnd s.fr hi len bh) (h1 : bl ≤ bh) (h2 : bh ≤ cap)
    (k : ∀ y, (bl < cap ∧ y = .own id b m (off + bl * m) (bh - bl) (cap - bl) opn) ∨ (bl = cap ∧ y = .empty false) → Run C ops l Q (s.put d y)) : Run C ops (i :: l) Q s := by
  rcases Nat.lt_or_ge bl cap with h | h
  · exact Run.slice hi' hw hdn hx hT hlo hhi h1 h2 (.inl h) (k _ (.inl ⟨h, rfl⟩))
  · refine Run.pure hi' rfl hdn hw (fun F a w hr => ?_) (k _ (.inr ⟨by omega, rfl⟩))
    have h4 := Ev.rel hr hx
    simp only [rel] at h4
    obtain ⟨c, he, hc, hop, arr, e, fz, hh, hsz⟩ := h4
    have hsl := run_sliceAt_gen hr (ad := some ⟨b, off, none⟩) (cap := c) hT hlo hhi h1 (by omega)
    refine ⟨_, by simp only [execOp, Sem.run_bind, he, Option.map_none, hsl, Result.andThen_ok, Sem.run_pure]; rfl, ?_⟩
    have h0 : bh - bl = 0 := by omega
    simp only [rel, h0]
    exact ⟨_, _, rfl, fun h => by cases h⟩
end ops
end
end Go.Ab
/- Regions that draw their order, again: the calm operations kept in a list that grows at its head, so that a long region is looked up fast. -/
namespace Go.Ab
section
variable {P : Program} {n : Nat} {C : Cx P n} {Q : Post} {s : St}

def itemAt : List Item → Nat → Option Item
  | [], _ => none
  | it :: _, 0 => some it
  | _ :: r, k + 1 => itemAt r k
theorem itemAt_eq : ∀ (l : List Item) (k : Nat), itemAt l k = l[k]?
  | [], _ => by simp [itemAt]
  | _ :: _, 0 => by simp [itemAt]
  | _ :: l, k + 1 => by simp [itemAt, itemAt_eq l k]

/-- What an operation reads: a slot of the frame, or the item that stands so many places from the head; with that item's own number. -/
def needsR (r : List Item) (fr : List (Nat × AV)) : List (Nat × Option Nat) → Option (List (Nat × AV))
  | [] => some []
  | (t, some q) :: nd => match itemAt r q with
    | some it => match needsR r fr nd with
      | some xs => some ((t, it.x) :: xs)
      | none => none
    | none => none
  | (t, none) :: nd => match get fr t with
    | some x => match needsR r fr nd with
      | some xs => some ((t, x) :: xs)
      | none => none
    | none => none

def turn (k : Nat) : List (Nat × Option Nat) → List (Nat × Option Nat)
  | [] => []
  | (t, some q) :: nd => (t, some (k - 1 - q)) :: turn k nd
  | (t, none) :: nd => (t, none) :: turn k nd

theorem needsR_eq {r : List Item} {fr : List (Nat × AV)} : ∀ {nd : List (Nat × Option Nat)} {xs : List (Nat × AV)}, needsR r fr nd = some xs → needsOf r.reverse fr (turn r.length nd) = some xs
  | [], xs, h => h
  | (t, some q) :: nd, xs, h => by
    simp only [needsR, itemAt_eq] at h
    simp only [turn, needsOf]
    split at h
    · rename_i it hit
      split at h
      · rename_i ys hys
        have hq : q < r.length := by
          rcases Nat.lt_or_ge q r.length with h' | h'
          · exact h'
          · simp [List.getElem?_eq_none h'] at hit
        have h1 : r.reverse[r.length - 1 - q]? = some it := by
          rw [List.getElem?_reverse (by omega)]
          have : r.length - 1 - (r.length - 1 - q) = q := by omega
          rw [this]
          exact hit
        rw [h1, needsR_eq hys]
        exact h
      · cases h
    · cases h
  | (t, none) :: nd, xs, h => by
    simp only [needsR] at h
    simp only [turn, needsOf]
    split at h
    · rename_i x hx
      split at h
      · rename_i ys hys
        first | rw [hx, needsR_eq hys] | rw [needsR_eq hys]
        exact h
      · cases h
    · cases h

def DrawR (C : Cx P n) (ops : Array Oper) (L0 : List Nat) (H : List Ar) (fr0 : List (Nat × AV)) (Q : Post) (r : List Item) : Prop := Draw C ops L0 H fr0 Q r.reverse

theorem Drawn.calmR {ops : Array Oper} {L0 : List Nat} (k : DrawR C ops L0 s.hp s.fr Q []) : Drawn C ops L0 Q s := Drawn.calm k

theorem DrawR.op (i d len : Nat) (nd : List (Nat × Option Nat)) {ops : Array Oper} {L0 : List Nat} {H : List Ar} {fr0 : List (Nat × AV)} {r : List Item} {needs : List (Nat × AV)} {x : AV} (hlen : r.length = len) (hn : needsR r fr0 nd = some needs)
    (h : ∀ rest, Run C ops [i] (Single d x (needs ++ rest) H) ⟨needs ++ rest, H⟩) (k : DrawR C ops L0 H fr0 Q (⟨i, d, turn len nd, x⟩ :: r)) : DrawR C ops L0 H fr0 Q r := by
  subst hlen
  exact Draw.op i d (turn r.length nd) (needsR_eq hn) h (by unfold DrawR at k; rw [List.reverse_cons] at k; exact k)

def puts : List Item → List (Nat × AV) → List (Nat × AV)
  | [], fr => fr
  | it :: r, fr => (it.d, it.x) :: puts r fr
theorem puts_eq (fr : List (Nat × AV)) : ∀ r : List Item, puts r fr = r.map (fun it => (it.d, it.x)) ++ fr
  | [] => rfl
  | it :: r => by simp [puts, puts_eq fr r]

theorem get_in {fr0 : List (Nat × AV)} : ∀ {its : List Item} {it : Item}, it ∈ its → (∀ y ∈ its, y.d = it.d → y.x = it.x) → get (its.map (fun it => (it.d, it.x)) ++ fr0) it.d = some it.x
  | [], _, h, _ => by cases h
  | y :: its, it, h, hu => by
    simp only [List.map_cons, List.cons_append]
    by_cases hd : y.d = it.d
    · rw [← hd, get_cons_self, hu y (by simp) hd]
    · rw [get_cons_ne _ _ hd]
      refine get_in ?_ (fun z hz => hu z (by simp [hz]))
      rcases List.mem_cons.1 h with rfl | h
      · exact absurd rfl hd
      · exact h
theorem get_out {fr0 : List (Nat × AV)} {t : Nat} : ∀ {its : List Item}, (∀ y ∈ its, y.d ≠ t) → get (its.map (fun it => (it.d, it.x)) ++ fr0) t = get fr0 t
  | [], _ => rfl
  | y :: its, h => by
    simp only [List.map_cons, List.cons_append]
    rw [get_cons_ne _ _ (h y (by simp))]
    exact get_out fun z hz => h z (by simp [hz])

def keysGo : List Item → List Key → List Key
  | [], acc => acc
  | it :: r, acc => keysGo r ((it.i, it.d, it.nd) :: acc)
def keysR (r : List Item) : List Key := keysGo r []
theorem keysR_eq (r : List Item) : keysR r = r.reverse.map Item.key := by
  have : ∀ (r : List Item) (acc : List Key), keysGo r acc = r.reverse.map Item.key ++ acc := by
    intro r
    induction r with
    | nil => intro acc; rfl
    | cons it r ih => intro acc; simp only [keysGo, ih, List.reverse_cons, List.map_append, List.append_assoc]; rfl
  have h := this r []
  rw [List.append_nil] at h
  exact h

theorem DrawR.tail (tl : List Nat) {ops : Array Oper} {L0 : List Nat} {H : List Ar} {fr0 : List (Nat × AV)} {r : List Item} {ks : List Key} (hk : keysR r = ks) (hb : drawB ops L0 ks tl = true)
    (k : Run C ops tl (np Q) ⟨puts r fr0, H⟩) : DrawR C ops L0 H fr0 Q r := by
  have hks : r.reverse.map Item.key = ks := by rw [← keysR_eq, hk]
  refine Draw.tail tl hks hb ?_
  have hb' := hb
  simp only [drawB, Bool.and_eq_true] at hb'
  have ok := drawB_spec (its := r.reverse) (by rw [hks]; exact hb'.1)
  have uniq : ∀ y ∈ r.reverse, ∀ z ∈ r.reverse, y.d = z.d → y.x = z.x := by
    intro y hy z hz hd
    obtain ⟨p, hp⟩ := List.mem_iff_getElem?.1 hy
    obtain ⟨q, hq⟩ := List.mem_iff_getElem?.1 hz
    rcases Nat.lt_trichotomy p q with h | h | h
    · exact absurd hd (ok.dist q p z y hq hp h).2
    · subst h; rw [hp] at hq; cases hq; rfl
    · exact absurd hd.symm (ok.dist p q y z hp hq h).2
  intro F a w hr
  refine k F a w (hr.frame fun t x hx => ⟨x, ?_, fun _ _ h => h⟩)
  simp only [puts_eq] at hx
  rcases get_ends fr0 r t x hx with ⟨it, hit, rfl, rfl⟩ | ⟨h1, h2⟩
  · exact get_in (by simpa using hit) (fun y hy hd => uniq y hy it (by simpa using hit) hd)
  · rw [get_out (fun y hy => h1 y (by simpa using hy)), h2]
end
end Go.Ab
/- The end of a statement about integer arguments: a contract of the law gives what its row asks. -/
namespace Go.Ab
open Go.RowKit (Below)

/-- A contract, asked with no snapshot among the arguments. -/
theorem Pure.calls {P : Program} {f : FuncId} {args : List AV} {res : AV} (h : Pure P f args res) {w : World} {vs : Array Value} (ha : relL (fun _ => False) w args vs.toList) :
    Calls P f vs w fun e w' => ∃ v F', e = .returned v ∧ Below w.heap.size w w' ∧ rel F' w' res v :=
  (h.2 (fun _ => False) w vs (fun _ h => h.elim) ha).mono fun _ _ ⟨v, F', h1, h2, _, _, _, h3⟩ => ⟨v, F', h1, h2, h3⟩

/-- A row without the last limb: old memory stays. -/
theorem post_below {H : Type} {enc : TypeId × Value → H} {P : Program} {f : Func} {s : ChangeSpec} {apart fresh handsOn : Bool} {W W' : World} {args : Array Value} {v : Value} {ds gs : List (DataW H)} {before pa pv : List MemPlace}
    (hW : DataW.Whole enc P f.params.toList s.vars apart W args.toList ds gs before)
    (hres : ∀ (b : Nat) (sp : Nat → Bool) (hd : Bool), DataW.TrodAll enc P W' b sp hd f.resultTypes.toList (v.resultList f.resultTypes.size) (s.fn H (ds ++ gs)).results [])
    (hargs : ∀ sp : Nat → Bool, (∀ p ∈ before, sp p.block = true) → DataW.TrodAll enc P W' 0 sp true f.params.toList args.toList (s.fn H (ds ++ gs)).args pa)
    (hvars : ∀ sp : Nat → Bool, (∀ p ∈ before, sp p.block = true) → DataW.TrodVars enc P W' sp s.vars (s.fn H (ds ++ gs)).vars pv)
    (_hps : before = pa ++ pv) (hb : Below W.heap.size W W') : s.post enc P f apart fresh handsOn false W args v W' := by
  have hold : ∀ p ∈ before, (fun b => decide (b < W.heap.size)) p.block = true := fun p hp => by simpa using hW.lt p hp
  refine ⟨ds, gs, before, [], pa, pv, hW, hres _ _ _, hargs _ hold, hvars _ hold, hb.frame _, fun h => by cases h⟩
end Go.Ab
