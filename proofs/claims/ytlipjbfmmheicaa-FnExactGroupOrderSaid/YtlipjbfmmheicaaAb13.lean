/- Contracts of functions that write to memory of their caller's, or hand memory back; lending memory to a callee that only reads it. -/
import Derived.Test.YtlipjbfmmheicaaAb11
namespace Go.Ab
open Go.RowKit (Below)
section
variable {P : Program}

def named (H : List Ar) (b : Nat) : Prop := ∃ i j cs, At H i j b cs

structure Step (F F' N : Nat → Prop) (w w' : World) : Prop where
  os : w'.os = w.os
  tape : w'.tape = w.tape
  output : w'.output = w.output
  size : w.heap.size ≤ w'.heap.size
  block : ∀ b, b < w.heap.size → ¬ N b → w'.heap[b]? = w.heap[b]?
  sized : Sized w w'
  F0 : ∀ b, F b → F' b
  F1 : ∀ b, F' b → F b ∨ w.heap.size ≤ b ∨ N b

/-- A call: it may write to the blocks of Hin; its result, and the blocks that it hands back, are as Out tells. -/
def Acts (P : Program) (f : FuncId) (args : List AV) (Hin : List Ar) (Out : AV → List Ar → Prop) : Prop :=
  Callable P f ∧ ∀ (F : Nat → Prop) (w : World) (vs : Array Value), Sat (fun _ => True) F Hin w → relL F w args vs.toList →
    Calls P f vs w fun e w' => ∃ v F' x H, e = .returned v ∧ Out x H ∧ Step F F' (named Hin) w w' ∧ Sat (fun b => named Hin b ∨ w.heap.size ≤ b) F' H w' ∧ rel F' w' x v

def Out1 (res : AV) : AV → List Ar → Prop := fun x H => x = res ∧ H = []

theorem Pure.acts {f : FuncId} {args : List AV} {res : AV} (h : Pure P f args res) : Acts P f args [] (Out1 res) := by
  refine ⟨h.1, fun F w vs hs hr => (h.2 F w vs hs.old hr).mono fun e w' ⟨v, F', he, hb, h0, h1, h2, hv⟩ => ?_⟩
  have hz : Sized w w' := fun b arr e fz hh => ⟨arr, e, fz, (hb.block b (by
    rcases Nat.lt_or_ge b w.heap.size with h' | h'
    · exact h'
    · simp [Array.getElem?_eq_none h'] at hh)).trans hh, rfl⟩
  exact ⟨v, F', res, [], he, ⟨rfl, rfl⟩, ⟨hb.os, hb.tape, hb.output, hb.size, fun b hlt _ => hb.block b hlt, hz, h0, fun b hF => (h1 b hF).elim .inl (fun h => .inr (.inl h))⟩,
    ⟨h2, fun ⟨l, hl, _⟩ => by simp at hl, fun ⟨l, hl, _⟩ => by simp at hl⟩, hv⟩

theorem Acts.out {f : FuncId} {args : List AV} {Hin : List Ar} {Out Out' : AV → List Ar → Prop} (h : Acts P f args Hin Out) (k : ∀ x H, Out x H → Out' x H) : Acts P f args Hin Out' :=
  ⟨h.1, fun F w vs hs hr => (h.2 F w vs hs hr).mono fun _ _ ⟨v, F', x, H, he, ho, r⟩ => ⟨v, F', x, H, he, k x H ho, r⟩⟩

variable {n : Nat} {C : Cx P n} {Q : Post} {s : St}

/-- Some of the places. -/
def pick (H : List Ar) (is : List Nat) : List Ar := is.map fun i => H.getD i []
def nodupB : List Nat → Bool
  | [] => true
  | i :: r => !r.contains i && nodupB r
theorem nodupB_spec : ∀ {is : List Nat}, nodupB is = true → ∀ {p q i : Nat}, is[p]? = some i → is[q]? = some i → p = q
  | [], _, p, q, i, h, _ => by simp at h
  | a :: r, hn, p, q, i, h1, h2 => by
    simp only [nodupB, Bool.and_eq_true, Bool.not_eq_true'] at hn
    have ha : ∀ {k : Nat}, r[k]? = some a → False := fun {k} hk => by
      have : r.contains a = true := List.contains_iff_mem.2 (List.mem_of_getElem? hk)
      rw [hn.1] at this
      cases this
    cases p with
    | zero =>
      simp at h1
      subst h1
      cases q with
      | zero => rfl
      | succ q => exact (ha (by simpa using h2)).elim
    | succ p =>
      cases q with
      | zero =>
        simp at h2
        subst h2
        exact (ha (by simpa using h1)).elim
      | succ q => exact congrArg (· + 1) (nodupB_spec hn.2 (by simpa using h1) (by simpa using h2))

theorem At.pick {H : List Ar} {is : List Nat} {k j b : Nat} {cs : List AV} (h : At (pick H is) k j b cs) : ∃ i, is[k]? = some i ∧ At H i j b cs := by
  obtain ⟨l, h1, h2⟩ := h
  simp only [Ab.pick, List.getElem?_map] at h1
  cases hi : is[k]? with
  | none => simp [hi] at h1
  | some i =>
    simp only [hi, Option.map_some, Option.some.injEq] at h1
    refine ⟨i, rfl, l, ?_, h2⟩
    rw [List.getD_eq_getElem?_getD] at h1
    cases hh : H[i]? with
    | none => rw [hh] at h1; simp at h1; subst h1; simp at h2
    | some l' => rw [hh] at h1; simp at h1; rw [h1]
theorem Moved.pick {H : List Ar} {is : List Nat} (hn : nodupB is = true) : Moved H (pick H is) :=
  ⟨fun h => let ⟨i, _, h'⟩ := h.pick; ⟨i, _, h'⟩, fun hx hy hin => by
    obtain ⟨i, hi, hx'⟩ := hx.pick
    obtain ⟨k, hk, hy'⟩ := hy.pick
    obtain ⟨rfl, h⟩ := hin hx' hy'
    exact ⟨nodupB_spec hn hi hk, h⟩⟩

/-- What a body hands back: the slots of its results, and some of its places. -/
def RetsH (rs : Array ResultVar) (Out : AV → List Ar → Prop) : Post
  | .normal, s | .ret, s => ∃ xs H, resultOf s.fr rs.toList = some xs ∧ Moved s.hp H ∧ Out (one xs) H
  | _, _ => False

theorem At.append {H H' : List Ar} {k j b : Nat} {cs : List AV} (h : At (H ++ H') k j b cs) : At H k j b cs ∨ ∃ k', k = H.length + k' ∧ At H' k' j b cs := by
  obtain ⟨l, h1, h2⟩ := h
  by_cases hk : k < H.length
  · rw [List.getElem?_append_left hk] at h1
    exact .inl ⟨l, h1, h2⟩
  · rw [List.getElem?_append_right (by omega)] at h1
    exact .inr ⟨k - H.length, by omega, l, h1, h2⟩

theorem Acts.of_body (N : Nat) {f : FuncId} {fn : Func} {c : Code} {args : List AV} {Hin : List Ar} {Out : AV → List Ar → Prop} (hf : P.funcs[f]? = some fn) (hb : fn.body = some c) (hn : (fn.name == "runtime.NumGoroutine") = false) (hnt : fn.ntmps = n)
    (hlen : Nat.ble args.length n = true) (h : ∀ C : Cx P n, WP C c (RetsH fn.results Out) ⟨number 0 args, Hin ++ List.replicate N []⟩) : Acts P f args Hin Out := by
  refine ⟨callable_of hf hn (by simp [hb]), fun F w vs hs hrel => calls_of_wp hf hb ?_⟩
  have hlen := Nat.le_of_ble_eq_true hlen
  have hvl : vs.size = args.length := by simpa using relL_len hrel
  let C : Cx P n := ⟨F, named Hin, w⟩
  have back : ∀ {i j b : Nat} {cs : List AV}, At (Hin ++ List.replicate N []) i j b cs → At Hin i j b cs := by
    intro i j b cs h
    rcases h.append with h | ⟨k', _, l, h1, h2⟩
    · exact h
    · obtain ⟨_, rfl⟩ := List.mem_replicate.1 (List.mem_of_getElem? h1)
      simp at h2
  have hr : R C F ⟨number 0 args, Hin ++ List.replicate N []⟩ { tmps := vs ++ Array.replicate (fn.ntmps - vs.size) undef, defers := [] } w := by
    refine ⟨?_, rfl, fun t x hx => ?_, ⟨hs.old, fun hx => ?_, fun hx hy => hs.inj (back hx) (back hy)⟩, rfl, rfl, rfl, Nat.le_refl _, fun _ _ _ => rfl, fun _ h => h, fun _ h => .inl h, Sized.refl w⟩
    · simp [hnt]; omega
    · obtain ⟨v, _, hv, hrv⟩ := get_number hrel hx
      have hv' : vs[t]? = some v := by simpa using hv
      have hlt : t < vs.size := by
        rcases Nat.lt_or_ge t vs.size with h' | h'
        · exact h'
        · simp [Array.getElem?_eq_none h'] at hv'
      have : (vs ++ Array.replicate (fn.ntmps - vs.size) undef).getD t undef = v := by
        rw [Array.getD_eq_getD_getElem?, Array.getElem?_append_left hlt, hv']
        rfl
      rw [this]
      exact hrv
    · obtain ⟨_, h2⟩ := hs.live (back hx)
      exact ⟨.inl ⟨_, _, _, back hx⟩, h2⟩
  refine wp_mono (h C _ _ _ hr) ?_
  rintro e a w' ⟨F', s, hr', hq⟩
  have fin : (∃ xs H, resultOf s.fr fn.results.toList = some xs ∧ Moved s.hp H ∧ Out (one xs) H) →
      a.defers = [] ∧ ∃ v, (results fn a.tmps).run P w' = .ok v w' ∧ ∃ v' F' x H, Ending.returned v = .returned v' ∧ Out x H ∧ Step F F' (named Hin) w w' ∧ Sat (fun b => named Hin b ∨ w.heap.size ≤ b) F' H w' ∧ rel F' w' x v' := by
    rintro ⟨xs, H, hxs, hm, hO⟩
    obtain ⟨v, hv, hrv⟩ := results_run hr' fn hxs
    have hr2 := hr'.moved hm
    refine ⟨hr'.defers, v, hv, v, F', one xs, H, rfl, hO, ⟨hr'.os, hr'.tape, hr'.output, hr'.hsize, fun k hk hN => hr'.block k hk hN, hr'.elder, hr'.F0, fun b hb => ?_⟩, hr2.sat, hrv⟩
    rcases hr'.F1 b hb with h | h | h
    · exact .inl h
    · exact .inr (.inl h)
    · exact .inr (.inr h)
  cases e with
  | normal => exact fin hq
  | ret => exact fin hq
  | _ => exact hq.elim

/-! ### the caller -/
def dropAll (H : List Ar) (is : List Nat) : List Ar := is.foldl (fun H i => H.set i []) H
def setAll : List Ar → List Nat → List Ar → List Ar
  | H, i :: is, l :: ls => setAll (H.set i l) is ls
  | H, _, _ => H

theorem At.dropped : ∀ {is : List Nat} {H : List Ar} {k j b : Nat} {cs : List AV}, At (dropAll H is) k j b cs → At H k j b cs ∧ k ∉ is
  | [], H, k, j, b, cs, h => ⟨h, by simp⟩
  | i :: is, H, k, j, b, cs, h => by
    obtain ⟨h1, h2⟩ := At.dropped (is := is) (H := H.set i []) h
    rcases h1.set with ⟨rfl, h3⟩ | ⟨hne, h3⟩
    · simp at h3
    · exact ⟨h3, by simp [hne, h2]⟩

theorem At.setAll : ∀ {is : List Nat} {H ls : List Ar} {k j b : Nat} {cs : List AV}, nodupB is = true → At (setAll H is ls) k j b cs → (∃ p, is[p]? = some k ∧ At ls p j b cs) ∨ (k ∉ is.take ls.length ∧ At H k j b cs)
  | [], H, ls, k, j, b, cs, _, h => .inr ⟨by simp, by simpa [Ab.setAll] using h⟩
  | i :: is, H, [], k, j, b, cs, _, h => .inr ⟨by simp, by simpa [Ab.setAll] using h⟩
  | i :: is, H, l :: ls, k, j, b, cs, hn, h => by
    have hn' := hn
    simp only [nodupB, Bool.and_eq_true, Bool.not_eq_true'] at hn
    simp only [Ab.setAll] at h
    rcases At.setAll hn.2 h with ⟨p, hp, hx⟩ | ⟨hk, hx⟩
    · refine .inl ⟨p + 1, by simpa using hp, ?_⟩
      obtain ⟨l', h1, h2⟩ := hx
      exact ⟨l', by simpa using h1, h2⟩
    · rcases hx.set with ⟨rfl, h3⟩ | ⟨hne, h3⟩
      · exact .inl ⟨0, by simp, l, by simp, h3⟩
      · exact .inr ⟨by simp [hne, hk], h3⟩

/-- After a call that may write to the places 'inn': the blocks L of the others were lent. -/
theorem R.acted {F F' : Nat → Prop} {a : Act} {w w' : World} {inn out : List Nat} {Hin H : List Ar} (L : Nat → Prop) (hr : R C F s a w) (hin : pick s.hp inn = Hin) (_hni : nodupB inn = true) (hno : nodupB out = true)
    (hL : ∀ b, L b → named (dropAll s.hp inn) b) (hst : Step (fun b => F b ∨ L b) F' (named Hin) w w') (hsat : Sat (fun b => named Hin b ∨ w.heap.size ≤ b) (fun b => F' b ∧ ¬ L b) H w') :
    R C (fun b => F' b ∧ ¬ L b) ⟨s.fr, setAll (dropAll s.hp inn) out H⟩ a w' := by
  subst hin
  -- the places of Hin are the caller's
  have inb : ∀ {b}, named (pick s.hp inn) b → ∃ i j cs, i ∈ inn ∧ At s.hp i j b cs := fun ⟨k, j, cs, h⟩ => by
    obtain ⟨i, hi, h'⟩ := h.pick
    exact ⟨i, j, cs, List.mem_of_getElem? hi, h'⟩
  have rest : ∀ {i j b : Nat} {cs : List AV}, At (dropAll s.hp inn) i j b cs → At s.hp i j b cs ∧ ¬ named (pick s.hp inn) b ∧ b < w.heap.size := by
    intro i j b cs h
    obtain ⟨h1, h2⟩ := h.dropped
    refine ⟨h1, fun hN => ?_, ?_⟩
    · obtain ⟨i', j', cs', hm, h'⟩ := inb hN
      exact h2 ((hr.sat.inj h1 h').1 ▸ hm)
    · exact (hr.sat.live h1).2.2.lt
  have okN : ∀ {b}, named (pick s.hp inn) b → C.ok b ∧ ¬ F b ∧ b < w.heap.size := fun hN => by
    obtain ⟨i', j', cs', _, h'⟩ := inb hN
    obtain ⟨h1, h2, hh⟩ := hr.sat.live h'
    exact ⟨h1, h2, hh.lt⟩
  have FL : ∀ b, F b → ¬ L b := fun b hF hl => by
    obtain ⟨i, j, cs, h⟩ := hL b hl
    exact (hr.sat.live (rest h).1).2.1 hF
  have hF : ∀ b, F b → F' b ∧ ¬ L b := fun b h => ⟨hst.F0 b (.inl h), FL b h⟩
  have hk : Later F w w' := ⟨fun b hb => hst.block b (hr.sat.old b hb) (fun hN => (okN hN).2.1 hb), hst.sized⟩
  refine ⟨hr.size, hr.defers, fun t x hx => rel_mono hF hk x _ (hr.fr t x hx), ⟨hsat.old, fun hx => ?_, fun {i i' p p' b cs cs'} hx hy => ?_⟩, hst.os.trans hr.os, hst.tape.trans hr.tape, hst.output.trans hr.output, Nat.le_trans hr.hsize hst.size,
    fun b hlt hW => ?_, fun b hb => hF b (hr.F0 b hb), fun b hb => ?_, hr.elder.trans hst.sized⟩
  · rcases hx.setAll hno with ⟨p, _, h⟩ | ⟨_, h⟩
    · obtain ⟨h1, h2⟩ := hsat.live h
      refine ⟨?_, h2⟩
      rcases h1 with h1 | h1
      · exact (okN h1).1
      · exact .inr (Nat.le_trans hr.hsize h1)
    · obtain ⟨h1, h2, h3⟩ := rest h
      obtain ⟨k1, k2, k3⟩ := hr.sat.live h1
      refine ⟨k1, fun hb => ?_, k3.mono hF hk (hst.block _ h3 h2)⟩
      rcases hst.F1 _ hb.1 with h | h | h
      · rcases h with h | h
        · exact k2 h
        · exact hb.2 h
      · omega
      · exact h2 h
  · have cross : ∀ {i j p q b : Nat} {cs cs' : List AV}, At H i j b cs → At (dropAll s.hp inn) p q b cs' → False := by
      intro i j p q b cs cs' h1 h2
      obtain ⟨_, h3, h4⟩ := rest h2
      rcases (hsat.live h1).1 with h | h
      · exact h3 h
      · omega
    rcases hx.setAll hno with ⟨p1, h1, h2⟩ | ⟨h1, h2⟩ <;> rcases hy.setAll hno with ⟨p2, k1, k2⟩ | ⟨k1, k2⟩
    · obtain ⟨rfl, h3⟩ := hsat.inj h2 k2
      rw [h1] at k1
      exact ⟨by simpa using k1, h3⟩
    · exact (cross h2 k2).elim
    · exact (cross k2 h2).elim
    · exact hr.sat.inj (rest h2).1 (rest k2).1
  · refine (hst.block b (Nat.lt_of_lt_of_le hlt hr.hsize) (fun hN => ?_)).trans (hr.block b hlt hW)
    rcases (okN hN).1 with h | h
    · exact hW h
    · omega
  · rcases hst.F1 b hb.1 with h | h | h
    · rcases h with h | h
      · exact hr.F1 b h
      · exact absurd h hb.2
    · exact .inr (.inl (Nat.le_trans hr.hsize h))
    · rcases (okN h).1 with h | h
      · exact .inr (.inr h)
      · exact .inr (.inl h)

/-- What a callee that only reads is given for what the caller owns. -/
inductive Lend (H : List Ar) : AV → AV → Prop where
  | refl {x : AV} : Lend H x x
  | own {id i j b m off len cap : Nat} {opn : Bool} {cs ys : List AV} (h : At H i j b cs) (hlc : len ≤ cap) (hy : (cs.drop off).take ys.length = ys) : Lend H (.own id b m off len cap opn) (.imm ys len)
  | adr {id i j b off : Nat} {cs : List AV} (h : At H i j b cs) : Lend H (.adr id b off) (.immAt cs off)
  | nil {cs : List AV} : Lend H .nilsl (.imm cs 0)
  | empty {z : Bool} {cs : List AV} : Lend H (.empty z) (.imm cs 0)
inductive LendL (H : List Ar) : List AV → List AV → Prop where
  | nil : LendL H [] []
  | cons {x y : AV} {xs ys : List AV} (h : Lend H x y) (hs : LendL H xs ys) : LendL H (x :: xs) (y :: ys)

theorem LendL.refl (H : List Ar) : ∀ xs : List AV, LendL H xs xs
  | [] => .nil
  | _ :: xs => .cons .refl (LendL.refl H xs)

theorem later_same (F : Nat → Prop) (w : World) : Later F w w := ⟨fun _ _ => rfl, Sized.refl w⟩

theorem Lend.rel {F ok : Nat → Prop} {w : World} {H0 H : List Ar} (hs : Sat ok F H0 w) (hsub : ∀ {i j b cs}, At H i j b cs → At H0 i j b cs) {x y : AV} (h : Lend H x y) {v : Value} (hv : Ab.rel F w x v) : Ab.rel (fun b => F b ∨ named H b) w y v := by
  have hF : ∀ b, F b → F b ∨ named H b := fun _ h => .inl h
  have hk := later_same F w
  cases h with
  | refl => exact rel_mono hF hk _ _ hv
  | @own id i j b m off len cap opn cs ys h hlc hy =>
    simp only [Ab.rel] at hv ⊢
    obtain ⟨c, rfl, h1, _, arr0, e0, fz0, hh0, _⟩ := hv
    obtain ⟨arr, e, hh, hrel⟩ := (hs.live (hsub h)).2.2.cells ⟨arr0, e0, fz0, hh0⟩
    refine ⟨_, c, rfl, by omega, fun _ => ⟨b, off, arr, e, _, rfl, .inr ⟨i, j, cs, h⟩, hh, ?_⟩⟩
    have h2 := relP_mono hF hk _ _ (relP_drop off hrel)
    have h3 := relL_take ys.length h2 (by
      have := congrArg List.length hy
      rw [List.length_take] at this
      omega)
    rw [hy] at h3
    have h4 := relP_suffix (vs := (arr.toList.drop off).drop ys.length) (relP_of_relL h3)
    rwa [List.take_append_drop] at h4
  | @adr id i j b off cs h =>
    simp only [Ab.rel] at hv ⊢
    obtain ⟨hv, hcell⟩ := hv
    obtain ⟨arr, e, hh, hrel⟩ := (hs.live (hsub h)).2.2.cells hcell
    exact ⟨b, 0, arr, e, _, by simpa using hv, .inr ⟨i, j, cs, h⟩, hh, by simpa using relP_mono hF hk _ _ hrel⟩
  | nil =>
    simp only [Ab.rel] at hv ⊢
    exact ⟨none, 0, hv, Nat.le_refl _, fun h => absurd h (Nat.lt_irrefl _)⟩
  | empty =>
    simp only [Ab.rel] at hv ⊢
    obtain ⟨a, c, rfl, _⟩ := hv
    exact ⟨a, c, rfl, Nat.zero_le _, fun h => absurd h (Nat.lt_irrefl _)⟩
theorem LendL.rel {F ok : Nat → Prop} {w : World} {H0 H : List Ar} (hs : Sat ok F H0 w) (hsub : ∀ {i j b cs}, At H i j b cs → At H0 i j b cs) : ∀ {xs ys : List AV} {vs : List Value}, LendL H xs ys → relL F w xs vs → relL (fun b => F b ∨ named H b) w ys vs
  | [], _, vs, h, hv => by cases h; simpa [relL] using hv
  | x :: xs, _, vs, h, hv => by
    cases h with
    | cons h1 h2 =>
      simp only [relL] at hv ⊢
      obtain ⟨v, r, rfl, k1, k2⟩ := hv
      exact ⟨v, r, rfl, h1.rel hs hsub k1, LendL.rel hs hsub h2 k2⟩

/-- A value that leads into no snapshot. -/
def cl0 : AV → Bool
  | .int .. | .bool _ | .own .. | .adr .. | .nilsl | .empty _ | .junk => true
  | _ => false
def cl1 : AV → Bool
  | .agg xs => xs.all cl0
  | x => cl0 x
def clean : AV → Bool
  | .tup xs => xs.all cl1
  | x => cl1 x
theorem cl0_rel {F F' : Nat → Prop} {w : World} : ∀ {x : AV} {v : Value}, cl0 x = true → rel F w x v → rel F' w x v := by
  intro x v hx h
  cases x <;> simp only [cl0, Bool.false_eq_true] at hx <;> simp only [rel] at h ⊢ <;> first | exact h | skip
theorem relL_of {F F' : Nat → Prop} {w : World} {p : AV → Bool} (hp : ∀ {x : AV} {v : Value}, p x = true → rel F w x v → rel F' w x v) : ∀ {xs : List AV} {vs : List Value}, xs.all p = true → relL F w xs vs → relL F' w xs vs
  | [], _, _, h => by simpa [relL] using h
  | x :: xs, _, hx, h => by
    simp only [List.all_cons, Bool.and_eq_true] at hx
    simp only [relL] at h ⊢
    obtain ⟨v, r, rfl, h1, h2⟩ := h
    exact ⟨v, r, rfl, hp hx.1 h1, relL_of hp hx.2 h2⟩
theorem relP_of {F F' : Nat → Prop} {w : World} {p : AV → Bool} (hp : ∀ {x : AV} {v : Value}, p x = true → rel F w x v → rel F' w x v) : ∀ {xs : List AV} {vs : List Value}, xs.all p = true → relP F w xs vs → relP F' w xs vs
  | [], _, _, _ => by simp [relP]
  | x :: xs, _, hx, h => by
    simp only [List.all_cons, Bool.and_eq_true] at hx
    simp only [relP] at h ⊢
    obtain ⟨v, r, rfl, h1, h2⟩ := h
    exact ⟨v, r, rfl, hp hx.1 h1, relP_of hp hx.2 h2⟩
theorem cl1_rel {F F' : Nat → Prop} {w : World} : ∀ {x : AV} {v : Value}, cl1 x = true → rel F w x v → rel F' w x v := by
  intro x v hx h
  cases x with
  | agg xs =>
    simp only [cl1] at hx
    simp only [rel] at h ⊢
    obtain ⟨vs, rfl, hl⟩ := h
    exact ⟨vs, rfl, relL_of cl0_rel hx hl⟩
  | _ => exact cl0_rel hx h
theorem clean_rel {F F' : Nat → Prop} {w : World} : ∀ {x : AV} {v : Value}, clean x = true → rel F w x v → rel F' w x v := by
  intro x v hx h
  cases x with
  | tup xs =>
    simp only [clean] at hx
    simp only [rel] at h ⊢
    obtain ⟨vs, rfl, hl⟩ := h
    exact ⟨vs, rfl, relL_of cl1_rel hx hl⟩
  | _ => exact cl1_rel hx h
theorem holds.of {F F' : Nat → Prop} {w : World} {b : Nat} {cs : List AV} (h : holds F w b cs) (hc : cs.all cl0 = true) : holds F' w b cs := by
  rcases h with ⟨arr, e, h1, h2⟩ | ⟨es, c, r, h1, rfl, h2⟩
  · exact .inl ⟨arr, e, h1, relP_of cl0_rel hc h2⟩
  · simp [cl0] at hc
/-- Blocks that lead into no snapshot. -/
def cleanH (H : List Ar) : Bool := H.all fun l => l.all fun b => b.2.all cl0
theorem cleanH_at {H : List Ar} (h : cleanH H = true) {i j b : Nat} {cs : List AV} (hx : At H i j b cs) : cs.all cl0 = true := by
  obtain ⟨l, h1, h2⟩ := hx
  unfold cleanH at h
  rw [List.all_eq_true] at h
  have := h l (List.mem_of_getElem? h1)
  rw [List.all_eq_true] at this
  exact this _ (List.mem_of_getElem? h2)

section ops
variable {ops : Array Oper} {i : Nat} {l : List Nat} {d : Nat} {T : TypeId} {pos : String} {aft : Array Edge} {g : Option (Nat × Bool)}

/-- A call that may write to the places 'inn', lends what its arguments lead into otherwise, and hands back the places 'out'. What it hands back leads into no snapshot. -/
theorem Run.acts (inn out : List Nat) {fo : Operand} {as : Array Operand} {ats : Array TypeId} {f : FuncId} {cap args0 args : List AV} {Hin : List Ar} {Out : AV → List Ar → Prop} (hi : ops[i]? = some ⟨some d, .call ⟨.value fo, as, ats⟩, T, pos, aft, g⟩)
    (hw : want ops s.fr ⟨some d, .call ⟨.value fo, as, ats⟩, T, pos, aft, g⟩ = some true) (hdn : Nat.blt d n = true)
    (hf : Ev s.fr fo (.fn f cap)) (ha : Evs s.fr as.toList args0) (hl : LendL (dropAll s.hp inn) (args0 ++ cap) args) (hA : Acts P f args Hin Out) (hin : pick s.hp inn = Hin) (hni : nodupB inn = true) (hno : nodupB out = true)
    (hcl : ∀ x H, Out x H → clean x = true ∧ cleanH H = true) (k : ∀ x H, Out x H → Run C ops l Q ⟨(d, x) :: s.fr, setAll (dropAll s.hp inn) out H⟩) : Run C ops (i :: l) Q s := by
  intro F a w hr
  obtain ⟨hc, hcalls⟩ := hA
  have hfv := Ev.rel hr hf
  simp only [rel] at hfv
  obtain ⟨cv, hfe, hcv⟩ := hfv
  simp only [wpOps, hi, want_spec hr hw, if_true]
  refine .inl ?_
  simp only [Oper.wp, exec_call hfe hc, Oper.upon]
  have hargs : relL F w (args0 ++ cap) (as.map a.eval ++ cv).toList := by
    rw [Array.toList_append]
    refine relL_append ?_ hcv
    have := evs_rel hr ha
    simpa using this
  have hsub : ∀ {i j b cs}, At (dropAll s.hp inn) i j b cs → At s.hp i j b cs := fun h => h.dropped.1
  have hargs' := LendL.rel hr.sat hsub hl hargs
  have hlt : ∀ {i j b cs}, At s.hp i j b cs → b < w.heap.size := fun h => by
    exact (hr.sat.live h).2.2.lt
  have hsat : Sat (fun _ => True) (fun b => F b ∨ named (dropAll s.hp inn) b) Hin w := by
    subst hin
    refine ⟨fun b hb => ?_, fun hx => ?_, fun hx hy => (Moved.pick hni).inj hx hy fun h1 h2 => hr.sat.inj h1 h2⟩
    · rcases hb with hb | ⟨i, j, cs, h⟩
      · exact hr.sat.old b hb
      · exact hlt (hsub h)
    · obtain ⟨i', hi', h⟩ := hx.pick
      obtain ⟨_, h2, h3⟩ := hr.sat.live h
      refine ⟨trivial, fun hb => ?_, h3.mono (fun _ h => .inl h) (later_same F w) rfl⟩
      rcases hb with hb | ⟨i2, j2, cs2, h'⟩
      · exact h2 hb
      · obtain ⟨h5, h6⟩ := h'.dropped
        exact h6 ((hr.sat.inj h h5).1 ▸ List.mem_of_getElem? hi')
  refine (hcalls _ w _ hsat hargs').mono ?_
  rintro e w' ⟨v, F', x, H, rfl, hO, hst, hsat', hv⟩
  obtain ⟨hx, hH⟩ := hcl x H hO
  have hR := R.acted (L := fun b => named (dropAll s.hp inn) b) (out := out) hr hin hni hno (fun _ h => h) hst
    ⟨fun b hb => hsat'.old b hb.1, fun hx => (let ⟨h1, h2, h3⟩ := hsat'.live hx; ⟨h1, fun hb => h2 hb.1, h3.of (cleanH_at hH hx)⟩), hsat'.inj⟩
  exact k x H hO _ _ _ (hR.put hdn (clean_rel hx hv))
end ops
end
end Go.Ab
