/- Contracts of functions that only read what stood before them; calls; the entry into a body; forgetting. -/
import Derived.Test.YtlipjbfmmheicaaAb2
namespace Go.Ab
open Go.RowKit (Below)
section
variable {P : Program}

def Callable (P : Program) (f : FuncId) : Prop := ∀ vs w, (callFunc f vs).run P w = .ok (.enter f vs) w
theorem callable_of {f : FuncId} {fn : Func} (hf : P.funcs[f]? = some fn) (hn : (fn.name == "runtime.NumGoroutine") = false) (hb : fn.body.isNone = false) : Callable P f := fun vs w => by
  simp only [callFunc, Sem.run_bind, run_program, Result.andThen_ok, hf, hn, hb, Bool.false_eq_true, if_false, Sem.run_pure]

/-- A call that leaves what stood before it: its result, where its arguments read as 'args'. -/
def Pure (P : Program) (f : FuncId) (args : List AV) (res : AV) : Prop :=
  Callable P f ∧ ∀ (F : Nat → Prop) (w : World) (vs : Array Value), (∀ b, F b → b < w.heap.size) → relL F w args vs.toList →
    Calls P f vs w fun e w' => ∃ v F', e = .returned v ∧ Below w.heap.size w w' ∧ (∀ b, F b → F' b) ∧ (∀ b, F' b → F b ∨ w.heap.size ≤ b) ∧ (∀ b, F' b → b < w'.heap.size) ∧ rel F' w' res v

variable {n : Nat} {C : Cx P n} {Q : Post} {s : St}

/-- What a call hands on to its caller's state. -/
theorem R.called {F F' : Nat → Prop} {a : Act} {w w' : World} (hr : R C F s a w) (hb : Below w.heap.size w w') (h1 : ∀ b, F b → F' b) (h2 : ∀ b, F' b → F b ∨ w.heap.size ≤ b)
    (h3 : ∀ b, F' b → b < w'.heap.size) : R C F' s a w' := by
  have hk : Later F w w' := ⟨fun b hF => hb.block b (hr.sat.old b hF), fun b arr e fz hh => by
    have hlt : b < w.heap.size := by
      rcases Nat.lt_or_ge b w.heap.size with h' | h'
      · exact h'
      · simp [Array.getElem?_eq_none h'] at hh
    exact ⟨arr, e, fz, (hb.block b hlt).trans hh, rfl⟩⟩
  refine ⟨hr.size, hr.defers, fun t x hx => rel_mono h1 hk x _ (hr.fr t x hx), ⟨h3, fun {id j k cs} hx => ?_, hr.sat.inj⟩, hb.os.trans hr.os, hb.tape.trans hr.tape, hb.output.trans hr.output,
    Nat.le_trans hr.hsize hb.size, fun b hlt hW => (hb.block b (Nat.lt_of_lt_of_le hlt hr.hsize)).trans (hr.block b hlt hW), fun b hF => h1 b (hr.F0 b hF), fun b hF => ?_, hr.elder.trans hk.size⟩
  · obtain ⟨hok, hnF, hh⟩ := hr.sat.live hx
    have hlt : k < w.heap.size := hh.lt
    refine ⟨hok, fun hF => ?_, hh.mono h1 hk (hb.block _ hlt)⟩
    rcases h2 _ hF with hF | hF
    · exact hnF hF
    · exact absurd hlt (Nat.not_lt.2 hF)
  · rcases h2 b hF with hF | hF
    · exact hr.F1 b hF
    · exact .inr (.inl (Nat.le_trans hr.hsize hF))

inductive Evs (fr : List (Nat × AV)) : List Operand → List AV → Prop where
  | nil : Evs fr [] []
  | cons {o : Operand} {r : List Operand} {x : AV} {xs : List AV} (h : Ev fr o x) (hs : Evs fr r xs) : Evs fr (o :: r) (x :: xs)

theorem evs_rel {F : Nat → Prop} {a : Act} {w : World} (hr : R C F s a w) : ∀ {os : List Operand} {xs : List AV}, Evs s.fr os xs → relL F w xs (os.map a.eval)
  | _, _, .nil => by simp [relL]
  | _, _, .cons h hs => by
    simp only [relL, List.map_cons]
    exact ⟨_, _, rfl, Ev.rel hr h, evs_rel hr hs⟩

theorem relL_append {F : Nat → Prop} {w : World} : ∀ {xs ys : List AV} {us vs : List Value}, relL F w xs us → relL F w ys vs → relL F w (xs ++ ys) (us ++ vs)
  | [], ys, us, vs, h, k => by simp only [relL] at h; subst h; simpa using k
  | x :: xs, ys, us, vs, h, k => by
    simp only [relL] at h
    obtain ⟨v, r, rfl, h1, h2⟩ := h
    simp only [List.cons_append, relL]
    exact ⟨v, _, rfl, h1, relL_append h2 k⟩

section ops
variable {ops : Array Oper} {i : Nat} {l : List Nat} {d : Nat} {T : TypeId} {pos : String} {aft : Array Edge} {g : Option (Nat × Bool)}

theorem exec_call {a : Act} {dst : Option Tmp} {fo : Operand} {as : Array Operand} {ats : Array TypeId} {f : FuncId} {cap : Array Value} {w : World} (hf : a.eval fo = .func (.func f) #[] cap) (hc : Callable P f) :
    (execOp a.eval ⟨dst, .call ⟨.value fo, as, ats⟩, T, pos, aft, g⟩).run P w = .ok (.enter f (as.map a.eval ++ cap)) w := by
  simp only [execOp, resolve, Sem.run_bind, hf, Deferred.ofValue, Sem.run_pure, Result.andThen_ok, invoke]
  simpa using hc (as.map a.eval ++ cap) w

/-- A call of a function, or of a closure, by its contract. -/
theorem Run.call {fo : Operand} {as : Array Operand} {ats : Array TypeId} {f : FuncId} {cap args : List AV} {res : AV} (hi : ops[i]? = some ⟨some d, .call ⟨.value fo, as, ats⟩, T, pos, aft, g⟩)
    (hw : want ops s.fr ⟨some d, .call ⟨.value fo, as, ats⟩, T, pos, aft, g⟩ = some true) (hdn : Nat.blt d n = true)
    (hf : Ev s.fr fo (.fn f cap)) (ha : Evs s.fr as.toList args) (hp : Pure P f (args ++ cap) res) (k : Run C ops l Q (s.put d res)) : Run C ops (i :: l) Q s := by
  intro F a w hr
  obtain ⟨hc, hcalls⟩ := hp
  have hfv := Ev.rel hr hf
  simp only [rel] at hfv
  obtain ⟨cv, hfe, hcv⟩ := hfv
  simp only [wpOps, hi, want_spec hr hw, if_true]
  refine .inl ?_
  simp only [Oper.wp, exec_call hfe hc, Oper.upon]
  have hargs : relL F w (args ++ cap) (as.map a.eval ++ cv).toList := by
    rw [Array.toList_append]
    refine relL_append ?_ hcv
    have := evs_rel hr ha
    simpa using this
  refine (hcalls F w _ hr.sat.old hargs).mono ?_
  rintro e w' ⟨v, F', rfl, hb, h1, h2, h3, hv⟩
  exact k _ _ _ ((hr.called hb h1 h2 h3).put hdn hv)
end ops

def number : Nat → List AV → List (Nat × AV)
  | _, [] => []
  | k, x :: xs => (k, x) :: number (k + 1) xs

theorem get_number {F : Nat → Prop} {w : World} : ∀ {xs : List AV} {vs : List Value} {k t : Nat} {x : AV}, relL F w xs vs → get (number k xs) t = some x → ∃ v, k ≤ t ∧ vs[t - k]? = some v ∧ rel F w x v
  | [], _, _, _, _, _, h => by simp [number, get] at h
  | y :: ys, vs, k, t, x, hl, h => by
    simp only [relL] at hl
    obtain ⟨v, r, rfl, h1, h2⟩ := hl
    simp only [number, get] at h
    by_cases hk : k = t
    · subst hk
      have : Nat.beq k k = true := Nat.beq_refl _
      simp only [this, cond_true] at h
      cases h
      exact ⟨v, Nat.le_refl _, by simp, h1⟩
    · have : Nat.beq k t = false := by
        cases hb : Nat.beq k t with
        | false => rfl
        | true => exact absurd (Nat.eq_of_beq_eq_true hb) hk
      simp only [this, cond_false] at h
      obtain ⟨u, hle, hu, hru⟩ := get_number h2 h
      refine ⟨u, by omega, ?_, hru⟩
      have : t - k = (t - (k + 1)) + 1 := by omega
      rw [this]
      simpa using hu

/-- What a body hands back: the slots of its results. -/
def resultOf (fr : List (Nat × AV)) : List ResultVar → Option (List AV)
  | [] => some []
  | .tmp t :: r => match get fr t with
    | some x => match resultOf fr r with
      | some xs => some (x :: xs)
      | none => none
    | none => none
  | _ :: _ => none

def one : List AV → AV
  | [x] => x
  | xs => .tup xs

def Rets (rs : Array ResultVar) (res : AV) : Post
  | .normal, s | .ret, s => ∃ xs, resultOf s.fr rs.toList = some xs ∧ one xs = res
  | _, _ => False

def resultVar (tmps : Array Value) : ResultVar → Sem Value
  | .tmp t => pure (tmps.getD t undef)
  | .cell p t => do loadVar t (← asAddr (tmps.getD p undef))

theorem results_eq (fn : Func) (tmps : Array Value) : results fn tmps = (do let vs ← fn.results.mapM (resultVar tmps); pure (if h : vs.size = 1 then vs[0] else .tuple vs)) := rfl

theorem results_run {F : Nat → Prop} {a : Act} {w : World} (hr : R C F s a w) (fn : Func) {xs : List AV} (h : resultOf s.fr fn.results.toList = some xs) :
    ∃ v, (results fn a.tmps).run P w = .ok v w ∧ rel F w (one xs) v := by
  have key : ∀ (rs : List ResultVar) (ys : List AV), resultOf s.fr rs = some ys →
      ∃ us : List Value, (rs.mapM (resultVar a.tmps)).run P w = .ok us w ∧ relL F w ys us := by
    intro rs
    induction rs with
    | nil => intro ys h; simp only [resultOf, Option.some.injEq] at h; subst h; exact ⟨[], by simp, by simp [relL]⟩
    | cons r rs ih =>
      intro ys h
      cases r with
      | cell p t => simp [resultOf] at h
      | tmp t =>
        simp only [resultOf] at h
        split at h
        · rename_i x hx
          split at h
          · rename_i zs hzs
            cases h
            obtain ⟨us, hus, hrel⟩ := ih zs hzs
            refine ⟨a.tmps.getD t undef :: us, ?_, ?_⟩
            · rw [List.mapM_cons]
              simp only [Sem.run_bind, resultVar, Sem.run_pure, Result.andThen_ok, hus]
            · simp only [relL]; exact ⟨_, _, rfl, hr.fr t x hx, hrel⟩
          · cases h
        · cases h
  obtain ⟨us, hus, hrel⟩ := key _ _ h
  have harr : (fn.results.mapM (resultVar a.tmps)).run P w = .ok us.toArray w := by
    rw [Array.mapM_eq_mapM_toList]
    simp only [Sem.run_map, hus, Result.andThen_ok]
  rw [results_eq]
  simp only [Sem.run_bind]
  rw [harr]
  simp only [Result.andThen_ok, Sem.run_pure]
  refine ⟨_, rfl, ?_⟩
  cases xs with
  | nil =>
    simp only [relL] at hrel
    subst hrel
    simp only [one, rel]
    exact ⟨#[], by simp, by simp [relL]⟩
  | cons x xs =>
    simp only [relL] at hrel
    obtain ⟨v, r, rfl, h1, h2⟩ := hrel
    cases xs with
    | nil =>
      simp only [relL] at h2
      subst h2
      simpa [one] using h1
    | cons y ys =>
      simp only [relL] at h2
      obtain ⟨v', r', rfl, h3, h4⟩ := h2
      simp only [one, rel]
      refine ⟨(v :: v' :: r').toArray, by simp, ?_⟩
      simp only [relL]
      exact ⟨v, _, rfl, h1, v', _, rfl, h3, h4⟩

/-- A contract out of a walk of the body: it begins with N of its own blocks not yet made. -/
theorem Pure.of_body (N : Nat) {f : FuncId} {fn : Func} {c : Code} {args : List AV} {res : AV} (hf : P.funcs[f]? = some fn) (hb : fn.body = some c) (hn : (fn.name == "runtime.NumGoroutine") = false) (hnt : fn.ntmps = n)
    (hlen : Nat.ble args.length n = true) (h : ∀ C : Cx P n, WP C c (Rets fn.results res) ⟨number 0 args, List.replicate N []⟩) : Pure P f args res := by
  refine ⟨callable_of hf hn (by simp [hb]), fun F w vs hF hrel => calls_of_wp hf hb ?_⟩
  have hlen := Nat.le_of_ble_eq_true hlen
  have hvl : vs.size = args.length := by
    have : ∀ {xs : List AV} {us : List Value}, relL F w xs us → us.length = xs.length := by
      intro xs
      induction xs with
      | nil => intro us h; simp only [relL] at h; simp [h]
      | cons x xs ih => intro us h; simp only [relL] at h; obtain ⟨v, r, rfl, _, h2⟩ := h; simp [ih h2]
    simpa using this hrel
  let C : Cx P n := ⟨F, fun _ => False, w⟩
  have hr : R C F ⟨number 0 args, List.replicate N []⟩ { tmps := vs ++ Array.replicate (fn.ntmps - vs.size) undef, defers := [] } w := by
    refine ⟨?_, rfl, fun t x hx => ?_, ⟨hF, fun hx => ?_, fun hx => ?_⟩, rfl, rfl, rfl, Nat.le_refl _, fun _ _ _ => rfl, fun _ h => h, fun _ h => .inl h, Sized.refl w⟩
    · simp [hnt]; omega
    · obtain ⟨v, _, hv, hrv⟩ := get_number hrel hx
      have hv' : vs[t]? = some v := by simpa using hv
      have hlt : t < vs.size := by
        rcases Nat.lt_or_ge t vs.size with h' | h'
        · exact h'
        · simp [Array.getElem?_eq_none h'] at hv'
      have : (vs ++ Array.replicate (fn.ntmps - vs.size) undef).getD t undef = v := by
        rw [Array.getD_eq_getD_getElem?, Array.getElem?_append_left hlt, hv']
        rfl
      rw [this]
      exact hrv
    · obtain ⟨l, h1, h2⟩ := hx
      obtain ⟨_, rfl⟩ := List.mem_replicate.1 (List.mem_of_getElem? h1)
      simp at h2
    · obtain ⟨l, h1, h2⟩ := hx
      obtain ⟨_, rfl⟩ := List.mem_replicate.1 (List.mem_of_getElem? h1)
      simp at h2
  refine wp_mono (h C _ _ _ hr) ?_
  rintro e a w' ⟨F', s, hr', hq⟩
  have fin : (∃ xs, resultOf s.fr fn.results.toList = some xs ∧ one xs = res) →
      a.defers = [] ∧ ∃ v, (results fn a.tmps).run P w' = .ok v w' ∧ ∃ v' F', Ending.returned v = .returned v' ∧ Below w.heap.size w w' ∧ (∀ b, F b → F' b) ∧ (∀ b, F' b → F b ∨ w.heap.size ≤ b) ∧ (∀ b, F' b → b < w'.heap.size) ∧ rel F' w' res v' := by
    rintro ⟨xs, hxs, rfl⟩
    obtain ⟨v, hv, hrv⟩ := results_run hr' fn hxs
    refine ⟨hr'.defers, v, hv, v, F', rfl, ⟨hr'.os, hr'.tape, hr'.output, hr'.hsize, fun k hk => hr'.block k hk (fun h => h)⟩, hr'.F0, fun b hb => ?_, hr'.sat.old, hrv⟩
    rcases hr'.F1 b hb with h | h | h
    · exact .inl h
    · exact .inr h
    · exact h.elim
  cases e with
  | normal => exact fin hq
  | ret => exact fin hq
  | _ => exact hq.elim

/-- Of a state some slots are kept, and of its blocks some. -/
def Sub (fr : List (Nat × AV)) : List (Nat × AV) → Prop
  | [] => True
  | (t, x) :: r => get fr t = some x ∧ Sub fr r

theorem Sub.get {fr : List (Nat × AV)} : ∀ {fr' : List (Nat × AV)} {t : Nat} {x : AV}, Sub fr fr' → Ab.get fr' t = some x → Ab.get fr t = some x
  | [], _, _, _, h => by simp [Ab.get] at h
  | (u, y) :: r, t, x, hs, h => by
    simp only [Ab.get] at h
    by_cases hu : u = t
    · subst hu
      have : Nat.beq u u = true := Nat.beq_refl _
      simp only [this, cond_true] at h
      cases h
      exact hs.1
    · have : Nat.beq u t = false := by
        cases hb : Nat.beq u t with
        | false => rfl
        | true => exact absurd (Nat.eq_of_beq_eq_true hb) hu
      simp only [this, cond_false] at h
      exact Sub.get hs.2 h

inductive HSub : List Ar → List Ar → Prop where
  | nil : HSub [] []
  | dead {x : Ar} {H H' : List Ar} (h : HSub H H') : HSub (x :: H) ([] :: H')
  | keep {x : Ar} {H H' : List Ar} (h : HSub H H') : HSub (x :: H) (x :: H')

theorem HSub.refl : ∀ (H : List Ar), HSub H H
  | [] => .nil
  | _ :: H => .keep (HSub.refl H)

theorem HSub.get {H H' : List Ar} (h : HSub H H') : ∀ {i : Nat} {x : Ar}, H'[i]? = some x → x = [] ∨ H[i]? = some x := by
  induction h with
  | nil => intro i x hx; simp at hx
  | dead h ih =>
    intro i x hx
    cases i with
    | zero => simp at hx; exact .inl (by first | exact hx | exact hx.symm)
    | succ i => simpa using ih (by simpa using hx)
  | keep h ih =>
    intro i x hx
    cases i with
    | zero => right; simpa using hx
    | succ i => simpa using ih (by simpa using hx)

theorem HSub.at' {H H' : List Ar} (h : HSub H H') {id j b : Nat} {cs : List AV} (hx : At H' id j b cs) : At H id j b cs := by
  obtain ⟨l, h1, h2⟩ := hx
  rcases h.get h1 with rfl | h3
  · simp at h2
  · exact ⟨l, h3, h2⟩

theorem R.keep {F : Nat → Prop} {a : Act} {w : World} {fr' : List (Nat × AV)} {H' : List Ar} (hr : R C F s a w) (h : Sub s.fr fr') (hH : HSub s.hp H') : R C F ⟨fr', H'⟩ a w :=
  { hr with
    fr := fun t x hx => hr.fr t x (h.get hx)
    sat := ⟨hr.sat.old, fun hx => hr.sat.live (hH.at' hx), fun hx hy => hr.sat.inj (hH.at' hx) (hH.at' hy)⟩ }

theorem WP.keep {c : Code} {fr' : List (Nat × AV)} {H' : List Ar} (k : WP C c Q ⟨fr', H'⟩) (h : Sub s.fr fr') (hH : HSub s.hp H') : WP C c Q s := fun F a w hr => k F a w (hr.keep h hH)
theorem LP.keep {c : Code} {fr' : List (Nat × AV)} {H' : List Ar} (k : LP C c Q ⟨fr', H'⟩) (h : Sub s.fr fr') (hH : HSub s.hp H') : LP C c Q s := fun F a w hr => k F a w (hr.keep h hH)
theorem Run.keep {ops : Array Oper} {l : List Nat} {fr' : List (Nat × AV)} {H' : List Ar} (k : Run C ops l Q ⟨fr', H'⟩) (h : Sub s.fr fr') (hH : HSub s.hp H') : Run C ops l Q s := fun F a w hr => k F a w (hr.keep h hH)
end
end Go.Ab
