/- Results that lie in memory; bodies of contracts that write and hand back memory; closures. -/
import Derived.Test.YtlipjbfmmheicaaAb13
namespace Go.Ab
open Go.RowKit (Below)
section
variable {P : Program} {n : Nat} {C : Cx P n} {Q : Post} {s : St}

theorem load_run {F : Nat → Prop} {a : Act} {w : World} (hr : R C F s a w) {p y : AV} {v : Value} {cs : List AV} {off : Nat} {U : TypeId} (hv : rel F w p v) (hp : Place s.hp p cs off) (hT : scB P U = true) (hc : cs[off]? = some y) :
    ∃ b o u, v = .pointer (some ⟨b, o, none⟩) ∧ (loadVar U ⟨b, o, none⟩).run P w = .ok u w ∧ rel F w y u := by
  obtain ⟨b, o, arr, e, fz, rfl, hh, hrel⟩ := place_spec hr hv hp
  obtain ⟨u, hu, hru⟩ := cell_spec (j := 0) hh hrel (by simpa using hc)
  refine ⟨b, o + off, u, rfl, ?_, hru⟩
  rw [addr_add] at hu
  unfold loadVar
  simp only [Sem.run_bind, run_isAgg_sc hT w, Result.andThen_ok]
  simp only [Bool.false_eq_true, if_false, run_load]
  simp only [Nat.add_zero] at hu
  simp [hu]

theorem loads_run {F : Nat → Prop} {a : Act} {w : World} (hr : R C F s a w) {p : AV} {v : Value} {cs ys : List AV} {off m : Nat} {U : TypeId} (hv : rel F w p v) (hp : Place s.hp p cs off) (hT : agB P U m = true) (hc : (cs.drop off).take m = ys) (hm : ys.length = m) :
    ∃ b o u, v = .pointer (some ⟨b, o, none⟩) ∧ (loadVar U ⟨b, o, none⟩).run P w = .ok u w ∧ rel F w (.agg ys) u := by
  obtain ⟨b, o, arr, e, fz, rfl, hh, hrel⟩ := place_spec hr hv hp
  have hlen : m ≤ (cs.drop off).length := by
    rw [← hc] at hm
    rw [List.length_take] at hm
    omega
  have hrel' := relL_take m (relP_drop off hrel) hlen
  rw [hc] at hrel'
  refine ⟨b, o + off, .agg (((arr.toList.drop o).drop off).take m).toArray, rfl, ?_, by simp only [rel]; exact ⟨_, rfl, by simpa using hrel'⟩⟩
  have hlc := run_loadCells_list (P := P) w ⟨b, o + off, none⟩ (((arr.toList.drop o).drop off).take m) (by
    intro j v hj
    rw [addr_add]
    simp only [World.cell?, hh]
    rw [List.getElem?_take] at hj
    split at hj
    · rw [List.getElem?_drop, List.getElem?_drop] at hj
      have : arr[o + off + j]? = some v := by rw [Nat.add_assoc]; simpa using hj
      simpa using this
    · cases hj)
  rw [relL_len hrel', hm] at hlc
  unfold loadVar
  simp only [Sem.run_bind, (run_isAgg_ag hT w).1, Result.andThen_ok, if_true, (run_isAgg_ag hT w).2, hlc, Sem.run_pure]

/-- A slice of the call's own, whose name is its place, is lent. -/
theorem Lend.one {H : List Ar} {id b m off len cap : Nat} {opn : Bool} {cs ys : List AV} (h : H[id]? = some [(b, cs)]) (hlc : len ≤ cap) (hy : (cs.drop off).take ys.length = ys) : Lend H (.own id b m off len cap opn) (.imm ys len) := .own (At.one h) hlc hy
theorem Lend.at {H : List Ar} {id b off : Nat} {cs : List AV} (h : H[id]? = some [(b, cs)]) : Lend H (.adr id b off) (.immAt cs off) := .adr (At.one h)

/-- What a body hands back: slots, and variables that lie in memory. -/
inductive Res (P : Program) (s : St) : List ResultVar → List AV → Prop where
  | nil : Res P s [] []
  | tmp {t : Nat} {r : List ResultVar} {x : AV} {xs : List AV} (h : get s.fr t = some x) (k : Res P s r xs) : Res P s (.tmp t :: r) (x :: xs)
  | cell {p : Nat} {U : TypeId} {q x : AV} {cs : List AV} {off : Nat} {r : List ResultVar} {xs : List AV} (h : get s.fr p = some q) (hp : Place s.hp q cs off) (hT : scB P U = true) (hc : cs[off]? = some x) (k : Res P s r xs) : Res P s (.cell p U :: r) (x :: xs)
  | cells {p : Nat} {U : TypeId} {q : AV} {cs ys : List AV} {off m : Nat} {r : List ResultVar} {xs : List AV} (h : get s.fr p = some q) (hp : Place s.hp q cs off) (hT : agB P U m = true) (hc : (cs.drop off).take m = ys) (hm : ys.length = m) (k : Res P s r xs) : Res P s (.cell p U :: r) (.agg ys :: xs)

theorem res_run {F : Nat → Prop} {a : Act} {w : World} (hr : R C F s a w) (fn : Func) {xs : List AV} (h : Res P s fn.results.toList xs) :
    ∃ v, (results fn a.tmps).run P w = .ok v w ∧ rel F w (one xs) v := by
  have key : ∀ (rs : List ResultVar) (ys : List AV), Res P s rs ys → ∃ us : List Value, (rs.mapM (resultVar a.tmps)).run P w = .ok us w ∧ relL F w ys us := by
    intro rs ys h
    induction h with
    | nil => exact ⟨[], by simp, by simp [relL]⟩
    | @tmp t r x xs hx _ ih =>
      obtain ⟨us, hus, hrel⟩ := ih
      refine ⟨a.tmps.getD t undef :: us, ?_, ?_⟩
      · rw [List.mapM_cons]
        simp only [Sem.run_bind, resultVar, Sem.run_pure, Result.andThen_ok, hus]
      · simp only [relL]; exact ⟨_, _, rfl, hr.fr t x hx, hrel⟩
    | @cell p U q x cs off r xs hx hp hT hc _ ih =>
      obtain ⟨us, hus, hrel⟩ := ih
      obtain ⟨b, o, u, hv, hrun, hru⟩ := load_run hr (hr.fr p q hx) hp hT hc
      refine ⟨u :: us, ?_, ?_⟩
      · rw [List.mapM_cons]
        simp only [Sem.run_bind, resultVar, hv, asAddr, Sem.run_pure, Result.andThen_ok, hus, hrun]
      · simp only [relL]; exact ⟨_, _, rfl, hru, hrel⟩
    | @cells p U q cs ys off m r xs hx hp hT hc hm _ ih =>
      obtain ⟨us, hus, hrel⟩ := ih
      obtain ⟨b, o, u, hv, hrun, hru⟩ := loads_run hr (hr.fr p q hx) hp hT hc hm
      refine ⟨u :: us, ?_, ?_⟩
      · rw [List.mapM_cons]
        simp only [Sem.run_bind, resultVar, hv, asAddr, Sem.run_pure, Result.andThen_ok, hus, hrun]
      · simp only [relL]; exact ⟨_, _, rfl, hru, hrel⟩
  obtain ⟨us, hus, hrel⟩ := key _ _ h
  have harr : (fn.results.mapM (resultVar a.tmps)).run P w = .ok us.toArray w := by
    rw [Array.mapM_eq_mapM_toList]
    simp only [Sem.run_map, hus, Result.andThen_ok]
  rw [results_eq]
  simp only [Sem.run_bind]
  rw [harr]
  simp only [Result.andThen_ok, Sem.run_pure]
  refine ⟨_, rfl, ?_⟩
  cases xs with
  | nil =>
    simp only [relL] at hrel
    subst hrel
    simp only [one, rel]
    exact ⟨#[], by simp, by simp [relL]⟩
  | cons x xs =>
    simp only [relL] at hrel
    obtain ⟨v, r, rfl, h1, h2⟩ := hrel
    cases xs with
    | nil =>
      simp only [relL] at h2
      subst h2
      simpa [one] using h1
    | cons y ys =>
      simp only [relL] at h2
      obtain ⟨v', r', rfl, h3, h4⟩ := h2
      simp only [one, rel]
      refine ⟨(v :: v' :: r').toArray, by simp, ?_⟩
      simp only [relL]
      exact ⟨v, _, rfl, h1, v', _, rfl, h3, h4⟩

/-- The end of a body: its results; the places that it hands back. -/
def Ends (P : Program) (rs : Array ResultVar) (Out : AV → List Ar → Prop) : Post
  | .normal, s | .ret, s => ∃ xs H, Res P s rs.toList xs ∧ Moved s.hp H ∧ Out (one xs) H
  | _, _ => False

theorem Moved.none {H : List Ar} : Moved H [] := ⟨fun ⟨l, h, _⟩ => by simp at h, fun ⟨l, h, _⟩ => by simp at h⟩
/-- The end of a body that hands back no memory. -/
theorem Ends.pure {rs : Array ResultVar} {xs : List AV} {res : AV} (h : Res P s rs.toList xs) (he : one xs = res) : Ends P rs (Out1 res) .normal s := ⟨xs, [], h, .none, he, rfl⟩

theorem Acts.body (N : Nat) {f : FuncId} {fn : Func} {c : Code} {args : List AV} {Hin : List Ar} {Out : AV → List Ar → Prop} (hf : P.funcs[f]? = some fn) (hb : fn.body = some c) (hn : (fn.name == "runtime.NumGoroutine") = false) (hnt : fn.ntmps = n)
    (hlen : Nat.ble args.length n = true) (h : ∀ C : Cx P n, WP C c (Ends P fn.results Out) ⟨number 0 args, Hin ++ List.replicate N []⟩) : Acts P f args Hin Out := by
  refine ⟨callable_of hf hn (by simp [hb]), fun F w vs hs hrel => calls_of_wp hf hb ?_⟩
  have hlen := Nat.le_of_ble_eq_true hlen
  have hvl : vs.size = args.length := by simpa using relL_len hrel
  let C : Cx P n := ⟨F, named Hin, w⟩
  have back : ∀ {i j b : Nat} {cs : List AV}, At (Hin ++ List.replicate N []) i j b cs → At Hin i j b cs := by
    intro i j b cs h
    rcases h.append with h | ⟨k', _, l, h1, h2⟩
    · exact h
    · obtain ⟨_, rfl⟩ := List.mem_replicate.1 (List.mem_of_getElem? h1)
      simp at h2
  have hr : R C F ⟨number 0 args, Hin ++ List.replicate N []⟩ { tmps := vs ++ Array.replicate (fn.ntmps - vs.size) undef, defers := [] } w := by
    refine ⟨?_, rfl, fun t x hx => ?_, ⟨hs.old, fun hx => ?_, fun hx hy => hs.inj (back hx) (back hy)⟩, rfl, rfl, rfl, Nat.le_refl _, fun _ _ _ => rfl, fun _ h => h, fun _ h => .inl h, Sized.refl w⟩
    · simp [hnt]; omega
    · obtain ⟨v, _, hv, hrv⟩ := get_number hrel hx
      have hv' : vs[t]? = some v := by simpa using hv
      have hlt : t < vs.size := by
        rcases Nat.lt_or_ge t vs.size with h' | h'
        · exact h'
        · simp [Array.getElem?_eq_none h'] at hv'
      have : (vs ++ Array.replicate (fn.ntmps - vs.size) undef).getD t undef = v := by
        rw [Array.getD_eq_getD_getElem?, Array.getElem?_append_left hlt, hv']
        rfl
      rw [this]
      exact hrv
    · obtain ⟨_, h2⟩ := hs.live (back hx)
      exact ⟨.inl ⟨_, _, _, back hx⟩, h2⟩
  refine wp_mono (h C _ _ _ hr) ?_
  rintro e a w' ⟨F', s, hr', hq⟩
  have fin : (∃ xs H, Res P s fn.results.toList xs ∧ Moved s.hp H ∧ Out (one xs) H) →
      a.defers = [] ∧ ∃ v, (results fn a.tmps).run P w' = .ok v w' ∧ ∃ v' F' x H, Ending.returned v = .returned v' ∧ Out x H ∧ Step F F' (named Hin) w w' ∧ Sat (fun b => named Hin b ∨ w.heap.size ≤ b) F' H w' ∧ rel F' w' x v' := by
    rintro ⟨xs, H, hxs, hm, hO⟩
    obtain ⟨v, hv, hrv⟩ := res_run hr' fn hxs
    have hr2 := hr'.moved hm
    refine ⟨hr'.defers, v, hv, v, F', one xs, H, rfl, hO, ⟨hr'.os, hr'.tape, hr'.output, hr'.hsize, fun k hk hN => hr'.block k hk hN, hr'.elder, hr'.F0, fun b hb => ?_⟩, hr2.sat, hrv⟩
    rcases hr'.F1 b hb with h | h | h
    · exact .inl h
    · exact .inr (.inl h)
    · exact .inr (.inr h)
  cases e with
  | normal => exact fin hq
  | ret => exact fin hq
  | _ => exact hq.elim

theorem Acts.pure {f : FuncId} {args : List AV} {res : AV} (h : Acts P f args [] (Out1 res)) : Pure P f args res := by
  have none : ∀ b, ¬ named [] b := fun b ⟨i, j, cs, l, h, _⟩ => by simp at h
  refine ⟨h.1, fun F w vs hF hr => (h.2 F w vs ⟨hF, fun ⟨l, hl, _⟩ => by simp at hl, fun ⟨l, hl, _⟩ => by simp at hl⟩ hr).mono ?_⟩
  rintro e w' ⟨v, F', x, H, rfl, ⟨rfl, rfl⟩, hst, hs, hv⟩
  refine ⟨v, F', rfl, ⟨hst.os, hst.tape, hst.output, hst.size, fun b hb => hst.block b hb (none b)⟩, hst.F0, fun b hb => ?_, hs.old, hv⟩
  rcases hst.F1 b hb with h | h | h
  · exact .inl h
  · exact .inr h
  · exact (none b h).elim
/-- A contract of a function that hands back no memory, out of a walk. -/
theorem Pure.body (N : Nat) {f : FuncId} {fn : Func} {c : Code} {args : List AV} {res : AV} (hf : P.funcs[f]? = some fn) (hb : fn.body = some c) (hn : (fn.name == "runtime.NumGoroutine") = false) (hnt : fn.ntmps = n)
    (hlen : Nat.ble args.length n = true) (h : ∀ C : Cx P n, WP C c (Ends P fn.results (Out1 res)) ⟨number 0 args, List.replicate N []⟩) : Pure P f args res := Acts.pure (Acts.body (Hin := []) N hf hb hn hnt hlen h)
end
end Go.Ab
