import Derived.Test.YtlipjbfmmheicaaE2
import Derived.ChangeArms
import Derived.OpenShut
import Derived.Carry
import Derived.DeepKeys3
/- Contracts of functions that write to memory of their caller's, or hand memory back; lending memory to a callee that only reads it. -/
namespace Go.Ab
open Go.RowKit (Below)
section
variable {P : Program}

def named (H : List Ar) (b : Nat) : Prop := ∃ i j cs, At H i j b cs

structure Step (F F' N : Nat → Prop) (w w' : World) : Prop where
  os : w'.os = w.os
  tape : w'.tape = w.tape
  output : w'.output = w.output
  size : w.heap.size ≤ w'.heap.size
  block : ∀ b, b < w.heap.size → ¬ N b → w'.heap[b]? = w.heap[b]?
  sized : Sized w w'
  F0 : ∀ b, F b → F' b
  F1 : ∀ b, F' b → F b ∨ w.heap.size ≤ b ∨ N b

/-- A call: it may write to the blocks of Hin; its result, and the blocks that it hands back, are as Out tells. -/
def Acts (P : Program) (f : FuncId) (args : List AV) (Hin : List Ar) (Out : AV → List Ar → Prop) : Prop :=
  Callable P f ∧ ∀ (F : Nat → Prop) (w : World) (vs : Array Value), Sat (fun _ => True) F Hin w → relL F w args vs.toList →
    Calls P f vs w fun e w' => ∃ v F' x H, e = .returned v ∧ Out x H ∧ Step F F' (named Hin) w w' ∧ Sat (fun b => named Hin b ∨ w.heap.size ≤ b) F' H w' ∧ rel F' w' x v

def Out1 (res : AV) : AV → List Ar → Prop := fun x H => x = res ∧ H = []

theorem Pure.acts {f : FuncId} {args : List AV} {res : AV} (h : Pure P f args res) : Acts P f args [] (Out1 res) := by
  refine ⟨h.1, fun F w vs hs hr => (h.2 F w vs hs.old hr).mono fun e w' ⟨v, F', he, hb, h0, h1, h2, hv⟩ => ?_⟩
  have hz : Sized w w' := fun b arr e fz hh => ⟨arr, e, fz, (hb.block b (by
    rcases Nat.lt_or_ge b w.heap.size with h' | h'
    · exact h'
    · simp [Array.getElem?_eq_none h'] at hh)).trans hh, rfl⟩
  exact ⟨v, F', res, [], he, ⟨rfl, rfl⟩, ⟨hb.os, hb.tape, hb.output, hb.size, fun b hlt _ => hb.block b hlt, hz, h0, fun b hF => (h1 b hF).elim .inl (fun h => .inr (.inl h))⟩,
    ⟨h2, fun ⟨l, hl, _⟩ => by simp at hl, fun ⟨l, hl, _⟩ => by simp at hl⟩, hv⟩

theorem Acts.out {f : FuncId} {args : List AV} {Hin : List Ar} {Out Out' : AV → List Ar → Prop} (h : Acts P f args Hin Out) (k : ∀ x H, Out x H → Out' x H) : Acts P f args Hin Out' :=
  ⟨h.1, fun F w vs hs hr => (h.2 F w vs hs hr).mono fun _ _ ⟨v, F', x, H, he, ho, r⟩ => ⟨v, F', x, H, he, k x H ho, r⟩⟩

variable {n : Nat} {C : Cx P n} {Q : Post} {s : St}

/-- Some of the places. -/
def pick (H : List Ar) (is : List Nat) : List Ar := is.map fun i => H.getD i []
def nodupB : List Nat → Bool
  | [] => true
  | i :: r => !r.contains i && nodupB r
theorem nodupB_spec : ∀ {is : List Nat}, nodupB is = true → ∀ {p q i : Nat}, is[p]? = some i → is[q]? = some i → p = q
  | [], _, p, q, i, h, _ => by simp at h
  | a :: r, hn, p, q, i, h1, h2 => by
    simp only [nodupB, Bool.and_eq_true, Bool.not_eq_true'] at hn
    have ha : ∀ {k : Nat}, r[k]? = some a → False := fun {k} hk => by
      have : r.contains a = true := List.contains_iff_mem.2 (List.mem_of_getElem? hk)
      rw [hn.1] at this
      cases this
    cases p with
    | zero =>
      simp at h1
      subst h1
      cases q with
      | zero => rfl
      | succ q => exact (ha (by simpa using h2)).elim
    | succ p =>
      cases q with
      | zero =>
        simp at h2
        subst h2
        exact (ha (by simpa using h1)).elim
      | succ q => exact congrArg (· + 1) (nodupB_spec hn.2 (by simpa using h1) (by simpa using h2))

theorem At.pick {H : List Ar} {is : List Nat} {k j b : Nat} {cs : List AV} (h : At (pick H is) k j b cs) : ∃ i, is[k]? = some i ∧ At H i j b cs := by
  obtain ⟨l, h1, h2⟩ := h
  simp only [Ab.pick, List.getElem?_map] at h1
  cases hi : is[k]? with
  | none => simp [hi] at h1
  | some i =>
    simp only [hi, Option.map_some, Option.some.injEq] at h1
    refine ⟨i, rfl, l, ?_, h2⟩
    rw [List.getD_eq_getElem?_getD] at h1
    cases hh : H[i]? with
    | none => rw [hh] at h1; simp at h1; subst h1; simp at h2
    | some l' => rw [hh] at h1; simp at h1; rw [h1]
theorem Moved.pick {H : List Ar} {is : List Nat} (hn : nodupB is = true) : Moved H (pick H is) :=
  ⟨fun h => let ⟨i, _, h'⟩ := h.pick; ⟨i, _, h'⟩, fun hx hy hin => by
    obtain ⟨i, hi, hx'⟩ := hx.pick
    obtain ⟨k, hk, hy'⟩ := hy.pick
    obtain ⟨rfl, h⟩ := hin hx' hy'
    exact ⟨nodupB_spec hn hi hk, h⟩⟩

/-- What a body hands back: the slots of its results, and some of its places. -/
def RetsH (rs : Array ResultVar) (Out : AV → List Ar → Prop) : Post
  | .normal, s | .ret, s => ∃ xs H, resultOf s.fr rs.toList = some xs ∧ Moved s.hp H ∧ Out (one xs) H
  | _, _ => False

theorem At.append {H H' : List Ar} {k j b : Nat} {cs : List AV} (h : At (H ++ H') k j b cs) : At H k j b cs ∨ ∃ k', k = H.length + k' ∧ At H' k' j b cs := by
  obtain ⟨l, h1, h2⟩ := h
  by_cases hk : k < H.length
  · rw [List.getElem?_append_left hk] at h1
    exact .inl ⟨l, h1, h2⟩
  · rw [List.getElem?_append_right (by omega)] at h1
    exact .inr ⟨k - H.length, by omega, l, h1, h2⟩

theorem Acts.of_body (N : Nat) {f : FuncId} {fn : Func} {c : Code} {args : List AV} {Hin : List Ar} {Out : AV → List Ar → Prop} (hf : P.funcs[f]? = some fn) (hb : fn.body = some c) (hn : (fn.name == "runtime.NumGoroutine") = false) (hnt : fn.ntmps = n)
    (hlen : Nat.ble args.length n = true) (h : ∀ C : Cx P n, WP C c (RetsH fn.results Out) ⟨number 0 args, Hin ++ List.replicate N []⟩) : Acts P f args Hin Out := by
  refine ⟨callable_of hf hn (by simp [hb]), fun F w vs hs hrel => calls_of_wp hf hb ?_⟩
  have hlen := Nat.le_of_ble_eq_true hlen
  have hvl : vs.size = args.length := by simpa using relL_len hrel
  let C : Cx P n := ⟨F, named Hin, w⟩
  have back : ∀ {i j b : Nat} {cs : List AV}, At (Hin ++ List.replicate N []) i j b cs → At Hin i j b cs := by
    intro i j b cs h
    rcases h.append with h | ⟨k', _, l, h1, h2⟩
    · exact h
    · obtain ⟨_, rfl⟩ := List.mem_replicate.1 (List.mem_of_getElem? h1)
      simp at h2
  have hr : R C F ⟨number 0 args, Hin ++ List.replicate N []⟩ { tmps := vs ++ Array.replicate (fn.ntmps - vs.size) undef, defers := [] } w := by
    refine ⟨?_, rfl, fun t x hx => ?_, ⟨hs.old, fun hx => ?_, fun hx hy => hs.inj (back hx) (back hy)⟩, rfl, rfl, rfl, Nat.le_refl _, fun _ _ _ => rfl, fun _ h => h, fun _ h => .inl h, Sized.refl w⟩
    · simp [hnt]; omega
    · obtain ⟨v, _, hv, hrv⟩ := get_number hrel hx
      have hv' : vs[t]? = some v := by simpa using hv
      have hlt : t < vs.size := by
        rcases Nat.lt_or_ge t vs.size with h' | h'
        · exact h'
        · simp [Array.getElem?_eq_none h'] at hv'
      have : (vs ++ Array.replicate (fn.ntmps - vs.size) undef).getD t undef = v := by
        rw [Array.getD_eq_getD_getElem?, Array.getElem?_append_left hlt, hv']
        rfl
      rw [this]
      exact hrv
    · obtain ⟨_, h2⟩ := hs.live (back hx)
      exact ⟨.inl ⟨_, _, _, back hx⟩, h2⟩
  refine wp_mono (h C _ _ _ hr) ?_
  rintro e a w' ⟨F', s, hr', hq⟩
  have fin : (∃ xs H, resultOf s.fr fn.results.toList = some xs ∧ Moved s.hp H ∧ Out (one xs) H) →
      a.defers = [] ∧ ∃ v, (results fn a.tmps).run P w' = .ok v w' ∧ ∃ v' F' x H, Ending.returned v = .returned v' ∧ Out x H ∧ Step F F' (named Hin) w w' ∧ Sat (fun b => named Hin b ∨ w.heap.size ≤ b) F' H w' ∧ rel F' w' x v' := by
    rintro ⟨xs, H, hxs, hm, hO⟩
    obtain ⟨v, hv, hrv⟩ := results_run hr' fn hxs
    have hr2 := hr'.moved hm
    refine ⟨hr'.defers, v, hv, v, F', one xs, H, rfl, hO, ⟨hr'.os, hr'.tape, hr'.output, hr'.hsize, fun k hk hN => hr'.block k hk hN, hr'.elder, hr'.F0, fun b hb => ?_⟩, hr2.sat, hrv⟩
    rcases hr'.F1 b hb with h | h | h
    · exact .inl h
    · exact .inr (.inl h)
    · exact .inr (.inr h)
  cases e with
  | normal => exact fin hq
  | ret => exact fin hq
  | _ => exact hq.elim

/-! ### the caller -/
def dropAll (H : List Ar) (is : List Nat) : List Ar := is.foldl (fun H i => H.set i []) H
def setAll : List Ar → List Nat → List Ar → List Ar
  | H, i :: is, l :: ls => setAll (H.set i l) is ls
  | H, _, _ => H

theorem At.dropped : ∀ {is : List Nat} {H : List Ar} {k j b : Nat} {cs : List AV}, At (dropAll H is) k j b cs → At H k j b cs ∧ k ∉ is
  | [], H, k, j, b, cs, h => ⟨h, by simp⟩
  | i :: is, H, k, j, b, cs, h => by
    obtain ⟨h1, h2⟩ := At.dropped (is := is) (H := H.set i []) h
    rcases h1.set with ⟨rfl, h3⟩ | ⟨hne, h3⟩
    · simp at h3
    · exact ⟨h3, by simp [hne, h2]⟩

theorem At.setAll : ∀ {is : List Nat} {H ls : List Ar} {k j b : Nat} {cs : List AV}, nodupB is = true → At (setAll H is ls) k j b cs → (∃ p, is[p]? = some k ∧ At ls p j b cs) ∨ (k ∉ is.take ls.length ∧ At H k j b cs)
  | [], H, ls, k, j, b, cs, _, h => .inr ⟨by simp, by simpa [Ab.setAll] using h⟩
  | i :: is, H, [], k, j, b, cs, _, h => .inr ⟨by simp, by simpa [Ab.setAll] using h⟩
  | i :: is, H, l :: ls, k, j, b, cs, hn, h => by
    have hn' := hn
    simp only [nodupB, Bool.and_eq_true, Bool.not_eq_true'] at hn
    simp only [Ab.setAll] at h
    rcases At.setAll hn.2 h with ⟨p, hp, hx⟩ | ⟨hk, hx⟩
    · refine .inl ⟨p + 1, by simpa using hp, ?_⟩
      obtain ⟨l', h1, h2⟩ := hx
      exact ⟨l', by simpa using h1, h2⟩
    · rcases hx.set with ⟨rfl, h3⟩ | ⟨hne, h3⟩
      · exact .inl ⟨0, by simp, l, by simp, h3⟩
      · exact .inr ⟨by simp [hne, hk], h3⟩

/-- After a call that may write to the places 'inn': the blocks L of the others were lent. -/
theorem R.acted {F F' : Nat → Prop} {a : Act} {w w' : World} {inn out : List Nat} {Hin H : List Ar} (L : Nat → Prop) (hr : R C F s a w) (hin : pick s.hp inn = Hin) (_hni : nodupB inn = true) (hno : nodupB out = true)
    (hL : ∀ b, L b → named (dropAll s.hp inn) b) (hst : Step (fun b => F b ∨ L b) F' (named Hin) w w') (hsat : Sat (fun b => named Hin b ∨ w.heap.size ≤ b) (fun b => F' b ∧ ¬ L b) H w') :
    R C (fun b => F' b ∧ ¬ L b) ⟨s.fr, setAll (dropAll s.hp inn) out H⟩ a w' := by
  subst hin
  -- the places of Hin are the caller's
  have inb : ∀ {b}, named (pick s.hp inn) b → ∃ i j cs, i ∈ inn ∧ At s.hp i j b cs := fun ⟨k, j, cs, h⟩ => by
    obtain ⟨i, hi, h'⟩ := h.pick
    exact ⟨i, j, cs, List.mem_of_getElem? hi, h'⟩
  have rest : ∀ {i j b : Nat} {cs : List AV}, At (dropAll s.hp inn) i j b cs → At s.hp i j b cs ∧ ¬ named (pick s.hp inn) b ∧ b < w.heap.size := by
    intro i j b cs h
    obtain ⟨h1, h2⟩ := h.dropped
    refine ⟨h1, fun hN => ?_, ?_⟩
    · obtain ⟨i', j', cs', hm, h'⟩ := inb hN
      exact h2 ((hr.sat.inj h1 h').1 ▸ hm)
    · exact (hr.sat.live h1).2.2.lt
  have okN : ∀ {b}, named (pick s.hp inn) b → C.ok b ∧ ¬ F b ∧ b < w.heap.size := fun hN => by
    obtain ⟨i', j', cs', _, h'⟩ := inb hN
    obtain ⟨h1, h2, hh⟩ := hr.sat.live h'
    exact ⟨h1, h2, hh.lt⟩
  have FL : ∀ b, F b → ¬ L b := fun b hF hl => by
    obtain ⟨i, j, cs, h⟩ := hL b hl
    exact (hr.sat.live (rest h).1).2.1 hF
  have hF : ∀ b, F b → F' b ∧ ¬ L b := fun b h => ⟨hst.F0 b (.inl h), FL b h⟩
  have hk : Later F w w' := ⟨fun b hb => hst.block b (hr.sat.old b hb) (fun hN => (okN hN).2.1 hb), hst.sized⟩
  refine ⟨hr.size, hr.defers, fun t x hx => rel_mono hF hk x _ (hr.fr t x hx), ⟨hsat.old, fun hx => ?_, fun {i i' p p' b cs cs'} hx hy => ?_⟩, hst.os.trans hr.os, hst.tape.trans hr.tape, hst.output.trans hr.output, Nat.le_trans hr.hsize hst.size,
    fun b hlt hW => ?_, fun b hb => hF b (hr.F0 b hb), fun b hb => ?_, hr.elder.trans hst.sized⟩
  · rcases hx.setAll hno with ⟨p, _, h⟩ | ⟨_, h⟩
    · obtain ⟨h1, h2⟩ := hsat.live h
      refine ⟨?_, h2⟩
      rcases h1 with h1 | h1
      · exact (okN h1).1
      · exact .inr (Nat.le_trans hr.hsize h1)
    · obtain ⟨h1, h2, h3⟩ := rest h
      obtain ⟨k1, k2, k3⟩ := hr.sat.live h1
      refine ⟨k1, fun hb => ?_, k3.mono hF hk (hst.block _ h3 h2)⟩
      rcases hst.F1 _ hb.1 with h | h | h
      · rcases h with h | h
        · exact k2 h
        · exact hb.2 h
      · omega
      · exact h2 h
  · have cross : ∀ {i j p q b : Nat} {cs cs' : List AV}, At H i j b cs → At (dropAll s.hp inn) p q b cs' → False := by
      intro i j p q b cs cs' h1 h2
      obtain ⟨_, h3, h4⟩ := rest h2
      rcases (hsat.live h1).1 with h | h
      · exact h3 h
      · omega
    rcases hx.setAll hno with ⟨p1, h1, h2⟩ | ⟨h1, h2⟩ <;> rcases hy.setAll hno with ⟨p2, k1, k2⟩ | ⟨k1, k2⟩
    · obtain ⟨rfl, h3⟩ := hsat.inj h2 k2
      rw [h1] at k1
      exact ⟨by simpa using k1, h3⟩
    · exact (cross h2 k2).elim
    · exact (cross k2 h2).elim
    · exact hr.sat.inj (rest h2).1 (rest k2).1
  · refine (hst.block b (Nat.lt_of_lt_of_le hlt hr.hsize) (fun hN => ?_)).trans (hr.block b hlt hW)
    rcases (okN hN).1 with h | h
    · exact hW h
    · omega
  · rcases hst.F1 b hb.1 with h | h | h
    · rcases h with h | h
      · exact hr.F1 b h
      · exact absurd h hb.2
    · exact .inr (.inl (Nat.le_trans hr.hsize h))
    · rcases (okN h).1 with h | h
      · exact .inr (.inr h)
      · exact .inr (.inl h)

/-- What a callee that only reads is given for what the caller owns: no list of lists. -/
inductive Lend1 (H : List Ar) : AV → AV → Prop where
  | refl {x : AV} : Lend1 H x x
  | own {id i j b m off len cap : Nat} {opn : Bool} {cs ys : List AV} (h : At H i j b cs) (hlc : len ≤ cap) (hy : (cs.drop off).take ys.length = ys) : Lend1 H (.own id b m off len cap opn) (.imm ys len)
  | adr {id i j b off : Nat} {cs : List AV} (h : At H i j b cs) : Lend1 H (.adr id b off) (.immAt cs off)
  | nil {cs : List AV} : Lend1 H .nilsl (.imm cs 0)
  | empty {z : Bool} {cs : List AV} : Lend1 H (.empty z) (.imm cs 0)
inductive Lend1L (H : List Ar) : List AV → List AV → Prop where
  | nil : Lend1L H [] []
  | cons {x y : AV} {xs ys : List AV} (h : Lend1 H x y) (hs : Lend1L H xs ys) : Lend1L H (x :: xs) (y :: ys)
/-- What a callee that only reads is given for what the caller owns. -/
inductive Lend (H : List Ar) : AV → AV → Prop where
  | refl {x : AV} : Lend H x x
  | own {id i j b m off len cap : Nat} {opn : Bool} {cs ys : List AV} (h : At H i j b cs) (hlc : len ≤ cap) (hy : (cs.drop off).take ys.length = ys) : Lend H (.own id b m off len cap opn) (.imm ys len)
  | adr {id i j b off : Nat} {cs : List AV} (h : At H i j b cs) : Lend H (.adr id b off) (.immAt cs off)
  | nil {cs : List AV} : Lend H .nilsl (.imm cs 0)
  | empty {z : Bool} {cs : List AV} : Lend H (.empty z) (.imm cs 0)
  | nest {id i j b m off len cap : Nat} {opn : Bool} {cs ys : List AV} (h : At H i j b cs) (hlc : len ≤ cap) (hy : Lend1L H ((cs.drop off).take ys.length) ys) : Lend H (.own id b m off len cap opn) (.imm ys len)
inductive LendL (H : List Ar) : List AV → List AV → Prop where
  | nil : LendL H [] []
  | cons {x y : AV} {xs ys : List AV} (h : Lend H x y) (hs : LendL H xs ys) : LendL H (x :: xs) (y :: ys)

theorem LendL.refl (H : List Ar) : ∀ xs : List AV, LendL H xs xs
  | [] => .nil
  | _ :: xs => .cons .refl (LendL.refl H xs)

theorem later_same (F : Nat → Prop) (w : World) : Later F w w := ⟨fun _ _ => rfl, Sized.refl w⟩

theorem Lend1.rel {F ok : Nat → Prop} {w : World} {H0 H : List Ar} (hs : Sat ok F H0 w) (hsub : ∀ {i j b cs}, At H i j b cs → At H0 i j b cs) {x y : AV} (h : Lend1 H x y) {v : Value} (hv : Ab.rel F w x v) : Ab.rel (fun b => F b ∨ named H b) w y v := by
  have hF : ∀ b, F b → F b ∨ named H b := fun _ h => .inl h
  have hk := later_same F w
  cases h with
  | refl => exact rel_mono hF hk _ _ hv
  | @own id i j b m off len cap opn cs ys h hlc hy =>
    simp only [Ab.rel] at hv ⊢
    obtain ⟨c, rfl, h1, _, arr0, e0, fz0, hh0, _⟩ := hv
    obtain ⟨arr, e, hh, hrel⟩ := (hs.live (hsub h)).2.2.cells ⟨arr0, e0, fz0, hh0⟩
    refine ⟨_, c, rfl, by omega, fun _ => ⟨b, off, arr, e, _, rfl, .inr ⟨i, j, cs, h⟩, hh, ?_⟩⟩
    have h2 := relP_mono hF hk _ _ (relP_drop off hrel)
    have h3 := relL_take ys.length h2 (by
      have := congrArg List.length hy
      rw [List.length_take] at this
      omega)
    rw [hy] at h3
    have h4 := relP_suffix (vs := (arr.toList.drop off).drop ys.length) (relP_of_relL h3)
    rwa [List.take_append_drop] at h4
  | @adr id i j b off cs h =>
    simp only [Ab.rel] at hv ⊢
    obtain ⟨hv, hcell⟩ := hv
    obtain ⟨arr, e, hh, hrel⟩ := (hs.live (hsub h)).2.2.cells hcell
    exact ⟨b, 0, arr, e, _, by simpa using hv, .inr ⟨i, j, cs, h⟩, hh, by simpa using relP_mono hF hk _ _ hrel⟩
  | nil =>
    simp only [Ab.rel] at hv ⊢
    exact ⟨none, 0, hv, Nat.le_refl _, fun h => absurd h (Nat.lt_irrefl _)⟩
  | empty =>
    simp only [Ab.rel] at hv ⊢
    obtain ⟨a, c, rfl, _⟩ := hv
    exact ⟨a, c, rfl, Nat.zero_le _, fun h => absurd h (Nat.lt_irrefl _)⟩
theorem Lend1L.length {H : List Ar} : ∀ {xs ys : List AV}, Lend1L H xs ys → xs.length = ys.length
  | [], _, h => by cases h; rfl
  | _ :: _, _, h => by cases h with | cons _ h2 => simp only [List.length_cons, Lend1L.length h2]
theorem Lend1L.rel {F ok : Nat → Prop} {w : World} {H0 H : List Ar} (hs : Sat ok F H0 w) (hsub : ∀ {i j b cs}, At H i j b cs → At H0 i j b cs) : ∀ {xs ys : List AV} {vs : List Value}, Lend1L H xs ys → relL F w xs vs → relL (fun b => F b ∨ named H b) w ys vs
  | [], _, vs, h, hv => by cases h; simpa [relL] using hv
  | x :: xs, _, vs, h, hv => by
    cases h with
    | cons h1 h2 =>
      simp only [relL] at hv ⊢
      obtain ⟨v, r, rfl, k1, k2⟩ := hv
      exact ⟨v, r, rfl, h1.rel hs hsub k1, Lend1L.rel hs hsub h2 k2⟩
theorem Lend.rel {F ok : Nat → Prop} {w : World} {H0 H : List Ar} (hs : Sat ok F H0 w) (hsub : ∀ {i j b cs}, At H i j b cs → At H0 i j b cs) {x y : AV} (h : Lend H x y) {v : Value} (hv : Ab.rel F w x v) : Ab.rel (fun b => F b ∨ named H b) w y v := by
  have hF : ∀ b, F b → F b ∨ named H b := fun _ h => .inl h
  have hk := later_same F w
  cases h with
  | refl => exact rel_mono hF hk _ _ hv
  | own h hlc hy => exact Lend1.rel hs hsub (.own h hlc hy) hv
  | adr h => exact Lend1.rel hs hsub (.adr h) hv
  | nil => exact Lend1.rel hs hsub .nil hv
  | empty => exact Lend1.rel hs hsub .empty hv
  | @nest id i j b m off len cap opn cs ys h hlc hy =>
    simp only [Ab.rel] at hv ⊢
    obtain ⟨c, rfl, h1, _, arr0, e0, fz0, hh0, _⟩ := hv
    obtain ⟨arr, e, hh, hrel⟩ := (hs.live (hsub h)).2.2.cells ⟨arr0, e0, fz0, hh0⟩
    refine ⟨_, c, rfl, by omega, fun _ => ⟨b, off, arr, e, _, rfl, .inr ⟨i, j, cs, h⟩, hh, ?_⟩⟩
    have hln := hy.length
    rw [List.length_take] at hln
    have h3 := relL_take ys.length (relP_drop off hrel) (by omega)
    have h4 := relP_suffix (vs := (arr.toList.drop off).drop ys.length) (relP_of_relL (hy.rel hs hsub h3))
    rwa [List.take_append_drop] at h4
theorem LendL.rel {F ok : Nat → Prop} {w : World} {H0 H : List Ar} (hs : Sat ok F H0 w) (hsub : ∀ {i j b cs}, At H i j b cs → At H0 i j b cs) : ∀ {xs ys : List AV} {vs : List Value}, LendL H xs ys → relL F w xs vs → relL (fun b => F b ∨ named H b) w ys vs
  | [], _, vs, h, hv => by cases h; simpa [relL] using hv
  | x :: xs, _, vs, h, hv => by
    cases h with
    | cons h1 h2 =>
      simp only [relL] at hv ⊢
      obtain ⟨v, r, rfl, k1, k2⟩ := hv
      exact ⟨v, r, rfl, h1.rel hs hsub k1, LendL.rel hs hsub h2 k2⟩

/-- A value that leads into no snapshot. -/
def cl0 : AV → Bool
  | .int .. | .bool _ | .own .. | .adr .. | .nilsl | .empty _ | .junk => true
  | _ => false
def cl1 : AV → Bool
  | .agg xs => xs.all cl0
  | x => cl0 x
def clean : AV → Bool
  | .tup xs => xs.all cl1
  | x => cl1 x
theorem cl0_rel {F F' : Nat → Prop} {w : World} : ∀ {x : AV} {v : Value}, cl0 x = true → rel F w x v → rel F' w x v := by
  intro x v hx h
  cases x <;> simp only [cl0, Bool.false_eq_true] at hx <;> simp only [rel] at h ⊢ <;> first | exact h | skip
theorem relL_of {F F' : Nat → Prop} {w : World} {p : AV → Bool} (hp : ∀ {x : AV} {v : Value}, p x = true → rel F w x v → rel F' w x v) : ∀ {xs : List AV} {vs : List Value}, xs.all p = true → relL F w xs vs → relL F' w xs vs
  | [], _, _, h => by simpa [relL] using h
  | x :: xs, _, hx, h => by
    simp only [List.all_cons, Bool.and_eq_true] at hx
    simp only [relL] at h ⊢
    obtain ⟨v, r, rfl, h1, h2⟩ := h
    exact ⟨v, r, rfl, hp hx.1 h1, relL_of hp hx.2 h2⟩
theorem relP_of {F F' : Nat → Prop} {w : World} {p : AV → Bool} (hp : ∀ {x : AV} {v : Value}, p x = true → rel F w x v → rel F' w x v) : ∀ {xs : List AV} {vs : List Value}, xs.all p = true → relP F w xs vs → relP F' w xs vs
  | [], _, _, _ => by simp [relP]
  | x :: xs, _, hx, h => by
    simp only [List.all_cons, Bool.and_eq_true] at hx
    simp only [relP] at h ⊢
    obtain ⟨v, r, rfl, h1, h2⟩ := h
    exact ⟨v, r, rfl, hp hx.1 h1, relP_of hp hx.2 h2⟩
theorem cl1_rel {F F' : Nat → Prop} {w : World} : ∀ {x : AV} {v : Value}, cl1 x = true → rel F w x v → rel F' w x v := by
  intro x v hx h
  cases x with
  | agg xs =>
    simp only [cl1] at hx
    simp only [rel] at h ⊢
    obtain ⟨vs, rfl, hl⟩ := h
    exact ⟨vs, rfl, relL_of cl0_rel hx hl⟩
  | _ => exact cl0_rel hx h
theorem clean_rel {F F' : Nat → Prop} {w : World} : ∀ {x : AV} {v : Value}, clean x = true → rel F w x v → rel F' w x v := by
  intro x v hx h
  cases x with
  | tup xs =>
    simp only [clean] at hx
    simp only [rel] at h ⊢
    obtain ⟨vs, rfl, hl⟩ := h
    exact ⟨vs, rfl, relL_of cl1_rel hx hl⟩
  | _ => exact cl1_rel hx h
theorem holds.of {F F' : Nat → Prop} {w : World} {b : Nat} {cs : List AV} (h : holds F w b cs) (hc : cs.all cl0 = true) : holds F' w b cs := by
  rcases h with ⟨arr, e, h1, h2⟩ | ⟨es, c, r, h1, rfl, h2⟩
  · exact .inl ⟨arr, e, h1, relP_of cl0_rel hc h2⟩
  · simp [cl0] at hc
/-- Blocks that lead into no snapshot. -/
def cleanH (H : List Ar) : Bool := H.all fun l => l.all fun b => b.2.all cl0
theorem cleanH_at {H : List Ar} (h : cleanH H = true) {i j b : Nat} {cs : List AV} (hx : At H i j b cs) : cs.all cl0 = true := by
  obtain ⟨l, h1, h2⟩ := hx
  unfold cleanH at h
  rw [List.all_eq_true] at h
  have := h l (List.mem_of_getElem? h1)
  rw [List.all_eq_true] at this
  exact this _ (List.mem_of_getElem? h2)

section ops
variable {ops : Array Oper} {i : Nat} {l : List Nat} {d : Nat} {T : TypeId} {pos : String} {aft : Array Edge} {g : Option (Nat × Bool)}

/-- A call that may write to the places 'inn', lends what its arguments lead into otherwise, and hands back the places 'out'. What it hands back leads into no snapshot. -/
theorem Run.acts (inn out : List Nat) {fo : Operand} {as : Array Operand} {ats : Array TypeId} {f : FuncId} {cap args0 args : List AV} {Hin : List Ar} {Out : AV → List Ar → Prop} (hi : ops[i]? = some ⟨some d, .call ⟨.value fo, as, ats⟩, T, pos, aft, g⟩)
    (hw : want ops s.fr ⟨some d, .call ⟨.value fo, as, ats⟩, T, pos, aft, g⟩ = some true) (hdn : Nat.blt d n = true)
    (hf : Ev s.fr fo (.fn f cap)) (ha : Evs s.fr as.toList args0) (hl : LendL (dropAll s.hp inn) (args0 ++ cap) args) (hA : Acts P f args Hin Out) (hin : pick s.hp inn = Hin) (hni : nodupB inn = true) (hno : nodupB out = true)
    (hcl : ∀ x H, Out x H → clean x = true ∧ cleanH H = true) (k : ∀ x H, Out x H → Run C ops l Q ⟨(d, x) :: s.fr, setAll (dropAll s.hp inn) out H⟩) : Run C ops (i :: l) Q s := by
  intro F a w hr
  obtain ⟨hc, hcalls⟩ := hA
  have hfv := Ev.rel hr hf
  simp only [rel] at hfv
  obtain ⟨cv, hfe, hcv⟩ := hfv
  simp only [wpOps, hi, want_spec hr hw, if_true]
  refine .inl ?_
  simp only [Oper.wp, exec_call hfe hc, Oper.upon]
  have hargs : relL F w (args0 ++ cap) (as.map a.eval ++ cv).toList := by
    rw [Array.toList_append]
    refine relL_append ?_ hcv
    have := evs_rel hr ha
    simpa using this
  have hsub : ∀ {i j b cs}, At (dropAll s.hp inn) i j b cs → At s.hp i j b cs := fun h => h.dropped.1
  have hargs' := LendL.rel hr.sat hsub hl hargs
  have hlt : ∀ {i j b cs}, At s.hp i j b cs → b < w.heap.size := fun h => by
    exact (hr.sat.live h).2.2.lt
  have hsat : Sat (fun _ => True) (fun b => F b ∨ named (dropAll s.hp inn) b) Hin w := by
    subst hin
    refine ⟨fun b hb => ?_, fun hx => ?_, fun hx hy => (Moved.pick hni).inj hx hy fun h1 h2 => hr.sat.inj h1 h2⟩
    · rcases hb with hb | ⟨i, j, cs, h⟩
      · exact hr.sat.old b hb
      · exact hlt (hsub h)
    · obtain ⟨i', hi', h⟩ := hx.pick
      obtain ⟨_, h2, h3⟩ := hr.sat.live h
      refine ⟨trivial, fun hb => ?_, h3.mono (fun _ h => .inl h) (later_same F w) rfl⟩
      rcases hb with hb | ⟨i2, j2, cs2, h'⟩
      · exact h2 hb
      · obtain ⟨h5, h6⟩ := h'.dropped
        exact h6 ((hr.sat.inj h h5).1 ▸ List.mem_of_getElem? hi')
  refine (hcalls _ w _ hsat hargs').mono ?_
  rintro e w' ⟨v, F', x, H, rfl, hO, hst, hsat', hv⟩
  obtain ⟨hx, hH⟩ := hcl x H hO
  have hR := R.acted (L := fun b => named (dropAll s.hp inn) b) (out := out) hr hin hni hno (fun _ h => h) hst
    ⟨fun b hb => hsat'.old b hb.1, fun hx => (let ⟨h1, h2, h3⟩ := hsat'.live hx; ⟨h1, fun hb => h2 hb.1, h3.of (cleanH_at hH hx)⟩), hsat'.inj⟩
  exact k x H hO _ _ _ (hR.put hdn (clean_rel hx hv))
end ops
end
end Go.Ab
/- Results that lie in memory; bodies of contracts that write and hand back memory; closures. -/
namespace Go.Ab
open Go.RowKit (Below)
section
variable {P : Program} {n : Nat} {C : Cx P n} {Q : Post} {s : St}

theorem load_run {F : Nat → Prop} {a : Act} {w : World} (hr : R C F s a w) {p y : AV} {v : Value} {cs : List AV} {off : Nat} {U : TypeId} (hv : rel F w p v) (hp : Place s.hp p cs off) (hT : scB P U = true) (hc : cs[off]? = some y) :
    ∃ b o u, v = .pointer (some ⟨b, o, none⟩) ∧ (loadVar U ⟨b, o, none⟩).run P w = .ok u w ∧ rel F w y u := by
  obtain ⟨b, o, arr, e, fz, rfl, hh, hrel⟩ := place_spec hr hv hp
  obtain ⟨u, hu, hru⟩ := cell_spec (j := 0) hh hrel (by simpa using hc)
  refine ⟨b, o + off, u, rfl, ?_, hru⟩
  rw [addr_add] at hu
  unfold loadVar
  simp only [Sem.run_bind, run_isAgg_sc hT w, Result.andThen_ok]
  simp only [Bool.false_eq_true, if_false, run_load]
  simp only [Nat.add_zero] at hu
  simp [hu]

theorem loads_run {F : Nat → Prop} {a : Act} {w : World} (hr : R C F s a w) {p : AV} {v : Value} {cs ys : List AV} {off m : Nat} {U : TypeId} (hv : rel F w p v) (hp : Place s.hp p cs off) (hT : agB P U m = true) (hc : (cs.drop off).take m = ys) (hm : ys.length = m) :
    ∃ b o u, v = .pointer (some ⟨b, o, none⟩) ∧ (loadVar U ⟨b, o, none⟩).run P w = .ok u w ∧ rel F w (.agg ys) u := by
  obtain ⟨b, o, arr, e, fz, rfl, hh, hrel⟩ := place_spec hr hv hp
  have hlen : m ≤ (cs.drop off).length := by
    rw [← hc] at hm
    rw [List.length_take] at hm
    omega
  have hrel' := relL_take m (relP_drop off hrel) hlen
  rw [hc] at hrel'
  refine ⟨b, o + off, .agg (((arr.toList.drop o).drop off).take m).toArray, rfl, ?_, by simp only [rel]; exact ⟨_, rfl, by simpa using hrel'⟩⟩
  have hlc := run_loadCells_list (P := P) w ⟨b, o + off, none⟩ (((arr.toList.drop o).drop off).take m) (by
    intro j v hj
    rw [addr_add]
    simp only [World.cell?, hh]
    rw [List.getElem?_take] at hj
    split at hj
    · rw [List.getElem?_drop, List.getElem?_drop] at hj
      have : arr[o + off + j]? = some v := by rw [Nat.add_assoc]; simpa using hj
      simpa using this
    · cases hj)
  rw [relL_len hrel', hm] at hlc
  unfold loadVar
  simp only [Sem.run_bind, (run_isAgg_ag hT w).1, Result.andThen_ok, if_true, (run_isAgg_ag hT w).2, hlc, Sem.run_pure]

/-- A slice of the call's own, whose name is its place, is lent. -/
theorem Lend.one {H : List Ar} {id b m off len cap : Nat} {opn : Bool} {cs ys : List AV} (h : H[id]? = some [(b, cs)]) (hlc : len ≤ cap) (hy : (cs.drop off).take ys.length = ys) : Lend H (.own id b m off len cap opn) (.imm ys len) := .own (At.one h) hlc hy
theorem Lend.at {H : List Ar} {id b off : Nat} {cs : List AV} (h : H[id]? = some [(b, cs)]) : Lend H (.adr id b off) (.immAt cs off) := .adr (At.one h)

/-- What a body hands back: slots, and variables that lie in memory. -/
inductive Res (P : Program) (s : St) : List ResultVar → List AV → Prop where
  | nil : Res P s [] []
  | tmp {t : Nat} {r : List ResultVar} {x : AV} {xs : List AV} (h : get s.fr t = some x) (k : Res P s r xs) : Res P s (.tmp t :: r) (x :: xs)
  | cell {p : Nat} {U : TypeId} {q x : AV} {cs : List AV} {off : Nat} {r : List ResultVar} {xs : List AV} (h : get s.fr p = some q) (hp : Place s.hp q cs off) (hT : scB P U = true) (hc : cs[off]? = some x) (k : Res P s r xs) : Res P s (.cell p U :: r) (x :: xs)
  | cells {p : Nat} {U : TypeId} {q : AV} {cs ys : List AV} {off m : Nat} {r : List ResultVar} {xs : List AV} (h : get s.fr p = some q) (hp : Place s.hp q cs off) (hT : agB P U m = true) (hc : (cs.drop off).take m = ys) (hm : ys.length = m) (k : Res P s r xs) : Res P s (.cell p U :: r) (.agg ys :: xs)

theorem res_run {F : Nat → Prop} {a : Act} {w : World} (hr : R C F s a w) (fn : Func) {xs : List AV} (h : Res P s fn.results.toList xs) :
    ∃ v, (results fn a.tmps).run P w = .ok v w ∧ rel F w (one xs) v := by
  have key : ∀ (rs : List ResultVar) (ys : List AV), Res P s rs ys → ∃ us : List Value, (rs.mapM (resultVar a.tmps)).run P w = .ok us w ∧ relL F w ys us := by
    intro rs ys h
    induction h with
    | nil => exact ⟨[], by simp, by simp [relL]⟩
    | @tmp t r x xs hx _ ih =>
      obtain ⟨us, hus, hrel⟩ := ih
      refine ⟨a.tmps.getD t undef :: us, ?_, ?_⟩
      · rw [List.mapM_cons]
        simp only [Sem.run_bind, resultVar, Sem.run_pure, Result.andThen_ok, hus]
      · simp only [relL]; exact ⟨_, _, rfl, hr.fr t x hx, hrel⟩
    | @cell p U q x cs off r xs hx hp hT hc _ ih =>
      obtain ⟨us, hus, hrel⟩ := ih
      obtain ⟨b, o, u, hv, hrun, hru⟩ := load_run hr (hr.fr p q hx) hp hT hc
      refine ⟨u :: us, ?_, ?_⟩
      · rw [List.mapM_cons]
        simp only [Sem.run_bind, resultVar, hv, asAddr, Sem.run_pure, Result.andThen_ok, hus, hrun]
      · simp only [relL]; exact ⟨_, _, rfl, hru, hrel⟩
    | @cells p U q cs ys off m r xs hx hp hT hc hm _ ih =>
      obtain ⟨us, hus, hrel⟩ := ih
      obtain ⟨b, o, u, hv, hrun, hru⟩ := loads_run hr (hr.fr p q hx) hp hT hc hm
      refine ⟨u :: us, ?_, ?_⟩
      · rw [List.mapM_cons]
        simp only [Sem.run_bind, resultVar, hv, asAddr, Sem.run_pure, Result.andThen_ok, hus, hrun]
      · simp only [relL]; exact ⟨_, _, rfl, hru, hrel⟩
  obtain ⟨us, hus, hrel⟩ := key _ _ h
  have harr : (fn.results.mapM (resultVar a.tmps)).run P w = .ok us.toArray w := by
    rw [Array.mapM_eq_mapM_toList]
    simp only [Sem.run_map, hus, Result.andThen_ok]
  rw [results_eq]
  simp only [Sem.run_bind]
  rw [harr]
  simp only [Result.andThen_ok, Sem.run_pure]
  refine ⟨_, rfl, ?_⟩
  cases xs with
  | nil =>
    simp only [relL] at hrel
    subst hrel
    simp only [one, rel]
    exact ⟨#[], by simp, by simp [relL]⟩
  | cons x xs =>
    simp only [relL] at hrel
    obtain ⟨v, r, rfl, h1, h2⟩ := hrel
    cases xs with
    | nil =>
      simp only [relL] at h2
      subst h2
      simpa [one] using h1
    | cons y ys =>
      simp only [relL] at h2
      obtain ⟨v', r', rfl, h3, h4⟩ := h2
      simp only [one, rel]
      refine ⟨(v :: v' :: r').toArray, by simp, ?_⟩
      simp only [relL]
      exact ⟨v, _, rfl, h1, v', _, rfl, h3, h4⟩

/-- The end of a body: its results; the places that it hands back. -/
def Ends (P : Program) (rs : Array ResultVar) (Out : AV → List Ar → Prop) : Post
  | .normal, s | .ret, s => ∃ xs H, Res P s rs.toList xs ∧ Moved s.hp H ∧ Out (one xs) H
  | _, _ => False

theorem Moved.none {H : List Ar} : Moved H [] := ⟨fun ⟨l, h, _⟩ => by simp at h, fun ⟨l, h, _⟩ => by simp at h⟩
/-- The end of a body that hands back no memory. -/
theorem Ends.pure {rs : Array ResultVar} {xs : List AV} {res : AV} (h : Res P s rs.toList xs) (he : one xs = res) : Ends P rs (Out1 res) .normal s := ⟨xs, [], h, .none, he, rfl⟩

theorem Acts.body (N : Nat) {f : FuncId} {fn : Func} {c : Code} {args : List AV} {Hin : List Ar} {Out : AV → List Ar → Prop} (hf : P.funcs[f]? = some fn) (hb : fn.body = some c) (hn : (fn.name == "runtime.NumGoroutine") = false) (hnt : fn.ntmps = n)
    (hlen : Nat.ble args.length n = true) (h : ∀ C : Cx P n, WP C c (Ends P fn.results Out) ⟨number 0 args, Hin ++ List.replicate N []⟩) : Acts P f args Hin Out := by
  refine ⟨callable_of hf hn (by simp [hb]), fun F w vs hs hrel => calls_of_wp hf hb ?_⟩
  have hlen := Nat.le_of_ble_eq_true hlen
  have hvl : vs.size = args.length := by simpa using relL_len hrel
  let C : Cx P n := ⟨F, named Hin, w⟩
  have back : ∀ {i j b : Nat} {cs : List AV}, At (Hin ++ List.replicate N []) i j b cs → At Hin i j b cs := by
    intro i j b cs h
    rcases h.append with h | ⟨k', _, l, h1, h2⟩
    · exact h
    · obtain ⟨_, rfl⟩ := List.mem_replicate.1 (List.mem_of_getElem? h1)
      simp at h2
  have hr : R C F ⟨number 0 args, Hin ++ List.replicate N []⟩ { tmps := vs ++ Array.replicate (fn.ntmps - vs.size) undef, defers := [] } w := by
    refine ⟨?_, rfl, fun t x hx => ?_, ⟨hs.old, fun hx => ?_, fun hx hy => hs.inj (back hx) (back hy)⟩, rfl, rfl, rfl, Nat.le_refl _, fun _ _ _ => rfl, fun _ h => h, fun _ h => .inl h, Sized.refl w⟩
    · simp [hnt]; omega
    · obtain ⟨v, _, hv, hrv⟩ := get_number hrel hx
      have hv' : vs[t]? = some v := by simpa using hv
      have hlt : t < vs.size := by
        rcases Nat.lt_or_ge t vs.size with h' | h'
        · exact h'
        · simp [Array.getElem?_eq_none h'] at hv'
      have : (vs ++ Array.replicate (fn.ntmps - vs.size) undef).getD t undef = v := by
        rw [Array.getD_eq_getD_getElem?, Array.getElem?_append_left hlt, hv']
        rfl
      rw [this]
      exact hrv
    · obtain ⟨_, h2⟩ := hs.live (back hx)
      exact ⟨.inl ⟨_, _, _, back hx⟩, h2⟩
  refine wp_mono (h C _ _ _ hr) ?_
  rintro e a w' ⟨F', s, hr', hq⟩
  have fin : (∃ xs H, Res P s fn.results.toList xs ∧ Moved s.hp H ∧ Out (one xs) H) →
      a.defers = [] ∧ ∃ v, (results fn a.tmps).run P w' = .ok v w' ∧ ∃ v' F' x H, Ending.returned v = .returned v' ∧ Out x H ∧ Step F F' (named Hin) w w' ∧ Sat (fun b => named Hin b ∨ w.heap.size ≤ b) F' H w' ∧ rel F' w' x v' := by
    rintro ⟨xs, H, hxs, hm, hO⟩
    obtain ⟨v, hv, hrv⟩ := res_run hr' fn hxs
    have hr2 := hr'.moved hm
    refine ⟨hr'.defers, v, hv, v, F', one xs, H, rfl, hO, ⟨hr'.os, hr'.tape, hr'.output, hr'.hsize, fun k hk hN => hr'.block k hk hN, hr'.elder, hr'.F0, fun b hb => ?_⟩, hr2.sat, hrv⟩
    rcases hr'.F1 b hb with h | h | h
    · exact .inl h
    · exact .inr (.inl h)
    · exact .inr (.inr h)
  cases e with
  | normal => exact fin hq
  | ret => exact fin hq
  | _ => exact hq.elim

theorem Acts.pure {f : FuncId} {args : List AV} {res : AV} (h : Acts P f args [] (Out1 res)) : Pure P f args res := by
  have none : ∀ b, ¬ named [] b := fun b ⟨i, j, cs, l, h, _⟩ => by simp at h
  refine ⟨h.1, fun F w vs hF hr => (h.2 F w vs ⟨hF, fun ⟨l, hl, _⟩ => by simp at hl, fun ⟨l, hl, _⟩ => by simp at hl⟩ hr).mono ?_⟩
  rintro e w' ⟨v, F', x, H, rfl, ⟨rfl, rfl⟩, hst, hs, hv⟩
  refine ⟨v, F', rfl, ⟨hst.os, hst.tape, hst.output, hst.size, fun b hb => hst.block b hb (none b)⟩, hst.F0, fun b hb => ?_, hs.old, hv⟩
  rcases hst.F1 b hb with h | h | h
  · exact .inl h
  · exact .inr h
  · exact (none b h).elim
/-- A contract of a function that hands back no memory, out of a walk. -/
theorem Pure.body (N : Nat) {f : FuncId} {fn : Func} {c : Code} {args : List AV} {res : AV} (hf : P.funcs[f]? = some fn) (hb : fn.body = some c) (hn : (fn.name == "runtime.NumGoroutine") = false) (hnt : fn.ntmps = n)
    (hlen : Nat.ble args.length n = true) (h : ∀ C : Cx P n, WP C c (Ends P fn.results (Out1 res)) ⟨number 0 args, List.replicate N []⟩) : Pure P f args res := Acts.pure (Acts.body (Hin := []) N hf hb hn hnt hlen h)
end
end Go.Ab
/- Closures; captured variables that are only read; append in place; clear; comparison with nil. -/
namespace Go.Ab
open Go.RowKit (Below)
section
variable {P : Program} {n : Nat} {C : Cx P n} {Q : Post} {s : St}

/-- A block that is not written any more. -/
theorem R.freezeBlk {F : Nat → Prop} {a : Act} {w : World} (hr : R C F s a w) {id b : Nat} {cs : List AV} (hh : s.hp[id]? = some [(b, cs)]) (hcell : ∃ arr e fz, w.heap[b]? = some (.cells arr e fz)) :
    ∃ F', R C F' ⟨s.fr, s.hp.set id []⟩ a w ∧ F' b ∧ ∃ arr e, w.heap[b]? = some (.cells arr e (0, 0)) ∧ relP F' w cs arr.toList := by
  obtain ⟨hok, hnF, hhl⟩ := hr.sat.live (At.one hh)
  obtain ⟨arr, e, hheap, hrel⟩ := hhl.cells hcell
  have back : ∀ {i p k : Nat} {ds : List AV}, At (s.hp.set id []) i p k ds → i ≠ id ∧ At s.hp i p k ds := by
    intro i p k ds h
    rcases h.set with ⟨rfl, h'⟩ | ⟨hi, h'⟩
    · simp at h'
    · exact ⟨hi, h'⟩
  have hF : ∀ k, F k → F k ∨ k = b := fun k h => .inl h
  have hk : Later F w w := ⟨fun _ _ => rfl, Sized.refl w⟩
  refine ⟨fun k => F k ∨ k = b, ⟨hr.size, hr.defers, fun u x hu => rel_mono hF hk _ _ (hr.fr u x hu), ⟨fun k h => ?_, fun hx => ?_, fun hx hy => hr.sat.inj (back hx).2 (back hy).2⟩, hr.os, hr.tape, hr.output, hr.hsize, hr.block, fun k h => .inl (hr.F0 k h), fun k h => ?_, hr.elder⟩, .inr rfl, arr, e, hheap, relP_mono hF hk _ _ hrel⟩
  · rcases h with h | rfl
    · exact hr.sat.old k h
    · exact lt_of_heap hheap
  · obtain ⟨hi, hx⟩ := back hx
    obtain ⟨h1, h2, h3⟩ := hr.sat.live hx
    refine ⟨h1, ?_, h3.mono hF hk rfl⟩
    rintro (h | rfl)
    · exact h2 h
    · exact hi (hr.sat.inj hx (At.one hh)).1
  · rcases h with h | rfl
    · exact hr.F1 k h
    · rcases hok with h | h
      · exact .inr (.inr h)
      · exact .inr (.inl h)
theorem R.freezeAt {F : Nat → Prop} {a : Act} {w : World} (hr : R C F s a w) {t id b off : Nat} {cs : List AV} (ht : get s.fr t = some (.adr id b off)) (hh : s.hp[id]? = some [(b, cs)]) : ∃ F', R C F' ⟨(t, .immAt cs off) :: s.fr, s.hp.set id []⟩ a w := by
  have hadr := hr.fr t _ ht
  simp only [rel] at hadr
  obtain ⟨F', hr', hF, arr, e, hheap, hrel⟩ := hr.freezeBlk hh hadr.2
  refine ⟨F', hr'.weak (t := t) ht fun v hv => ?_⟩
  simp only [rel] at hv ⊢
  exact ⟨b, 0, arr, e, _, by simpa using hv.1, hF, hheap, by simpa using hrel⟩
theorem WP.freezeAt (t : Nat) {c : Code} {id b off : Nat} {cs : List AV} (ht : get s.fr t = some (.adr id b off)) (hh : s.hp[id]? = some [(b, cs)]) (k : WP C c Q ⟨(t, .immAt cs off) :: s.fr, s.hp.set id []⟩) : WP C c Q s := fun _ a w hr =>
  let ⟨F', hr'⟩ := hr.freezeAt ht hh
  k F' a w hr'
theorem Run.freezeAt (t : Nat) {ops : Array Oper} {l : List Nat} {id b off : Nat} {cs : List AV} (ht : get s.fr t = some (.adr id b off)) (hh : s.hp[id]? = some [(b, cs)]) (k : Run C ops l Q ⟨(t, .immAt cs off) :: s.fr, s.hp.set id []⟩) : Run C ops l Q s := fun _ a w hr =>
  let ⟨F', hr'⟩ := hr.freezeAt ht hh
  k F' a w hr'

section ops
variable {ops : Array Oper} {i : Nat} {l : List Nat} {d : Nat} {T U : TypeId} {pos : String} {aft : Array Edge} {g : Option (Nat × Bool)}

theorem Run.closure {f : FuncId} {cp : Array Operand} {xs : List AV} (hi : ops[i]? = some ⟨some d, .makeFunc (.func f) #[] cp, T, pos, aft, g⟩) (hw : want ops s.fr ⟨some d, .makeFunc (.func f) #[] cp, T, pos, aft, g⟩ = some true) (hdn : Nat.blt d n = true)
    (hx : Evs s.fr cp.toList xs) (k : Run C ops l Q (s.put d (.fn f xs))) : Run C ops (i :: l) Q s :=
  Run.pure hi rfl hdn hw (fun F a w hr => by
    refine ⟨.func (.func f) #[] (cp.map a.eval), by simp [execOp, Instr.makeFunc], ?_⟩
    simp only [rel]
    exact ⟨_, rfl, by simpa using evs_rel hr hx⟩) k

/-- x[lo:hi:max], whose value is not looked at. -/
theorem Run.slice3 {x : Operand} {lo hi mx : Operand} {id b m off len cap bl bh bm : Nat} {opn : Bool} {k1 k2 k3 : IntKind} {q1 q2 q3 : Int} (hi' : ops[i]? = some ⟨some d, .slice U x (some lo) (some hi) (some mx), T, pos, aft, g⟩) (hw : want ops s.fr ⟨some d, .slice U x (some lo) (some hi) (some mx), T, pos, aft, g⟩ = some true) (hdn : Nat.blt d n = true)
    (hx : Ev s.fr x (.own id b m off len cap opn)) (hT : slB P U m = true) (h1 : Ev s.fr lo (.int k1 q1)) (h2 : Ev s.fr hi (.int k2 q2)) (h3 : Ev s.fr mx (.int k3 q3)) (e1 : q1 = (bl : Int)) (e2 : q2 = (bh : Int)) (e3 : q3 = (bm : Int)) (r1 : bl ≤ bh) (r2 : bh ≤ bm) (r3 : bm ≤ cap)
    (k : Run C ops l Q (s.put d .junk)) : Run C ops (i :: l) Q s :=
  Run.pure hi' rfl hdn hw (fun F a w hr => by
    have h4 := Ev.rel hr hx
    have v1 := Ev.rel hr h1
    have v2 := Ev.rel hr h2
    have v3 := Ev.rel hr h3
    simp only [rel] at h4 v1 v2 v3
    obtain ⟨c, he, hc, _⟩ := h4
    obtain ⟨e, hu, hs⟩ := slB_spec hT
    have sb : ∀ (kd : IntKind) (k y : Nat) (code : BoundsCode), k ≤ y → (Instr.sliceBound (.int kd (k : Int)) y code).run P w = .ok k w := fun kd k y code hk => by
      have := run_sliceBound (P := P) w kd (k : Int) y code (by omega) (by omega)
      simpa using this
    have hb : (Instr.sliceBounds true len c (some (a.eval lo)) (some (a.eval hi)) (some (a.eval mx))).run P w = .ok (bl, bh, bm) w := by
      subst e1 e2 e3
      simp only [Instr.sliceBounds, v1, v2, v3, if_true, Option.isSome_some, Sem.run_bind, sb _ bm c _ (by omega), sb _ bh bm _ r2, sb _ bl bh _ r1, Result.andThen_ok, Sem.run_pure]
    refine ⟨.slice (if bm = bl then some ⟨b, off, none⟩ else (some (⟨b, off, none⟩ : Addr)).map (·.add (bl * m))) (bh - bl) (bm - bl), ?_, by simp only [rel]⟩
    simp only [execOp, Sem.run_bind, he, Option.map_some, Instr.sliceAt, underlying, run_program, Result.andThen_ok, hu, Sem.run_pure, Instr.slice, hb, hs]) k

/-- append into the room of a slice of the call's own. -/
theorem Run.appendIn {x y : Operand} {id b m len cap cnt bytes : Nat} {opn : Bool} {cs ys zs : List AV} {p : AV} (hi : ops[i]? = some ⟨some d, .call ⟨.builtin .append, #[x, y], #[U, U]⟩, T, pos, aft, g⟩) (hw : want ops s.fr ⟨some d, .call ⟨.builtin .append, #[x, y], #[U, U]⟩, T, pos, aft, g⟩ = some true) (hdn : Nat.blt d n = true)
    (hx : Ev s.fr x (.own id b m 0 len cap opn)) (hh : s.hp[id]? = some [(b, cs)]) (hT : Elem P U m bytes zs) (hy : Ev s.fr y p) (hs : Src s.hp m p ys cnt) (hsc : ys.all AV.sc = true) (hlen : len * m ≤ cs.length) (hroom : len + cnt ≤ cap)
    (k : Run C ops l Q ⟨(d, .own id b m 0 (len + cnt) cap opn) :: s.fr, s.hp.set id (.cells b (splice cs (len * m) ys))⟩) : Run C ops (i :: l) Q s :=
  Run.step hi hw fun F a w hr => by
    obtain ⟨⟨e, it, z, hu, hie, hz, hsz, hbb, hzc, hm⟩, _⟩ := hT
    have h1 := Ev.rel hr hx
    simp only [rel] at h1
    obtain ⟨c, he, hcap, hop, arr, e0, fz0, hheap0, hsize⟩ := h1
    obtain ⟨_, hnF, hhl⟩ := hr.sat.live (At.one hh)
    obtain ⟨arr1, e1, hheap, hrel⟩ := hhl.cells ⟨_, _, _, hheap0⟩
    rw [hheap] at hheap0
    cases hheap0
    obtain ⟨ad, c2, us, hv, hus, hul, hsrc⟩ := hs.spec hr (Ev.rel hr hy)
    have hone : ∀ u ∈ us, u.oneCell' = true := by
      have : ∀ {xs : List AV} {vs : List Value}, xs.all AV.sc = true → relL F w xs vs → ∀ u ∈ vs, u.oneCell' = true := by
        intro xs
        induction xs with
        | nil => intro vs _ h; simp only [relL] at h; subst h; intro u hu; cases hu
        | cons y ys ih =>
          intro vs hs h
          simp only [relL] at h
          obtain ⟨v, r, rfl, h1, h2⟩ := h
          simp only [List.all_cons, Bool.and_eq_true] at hs
          intro u hu
          cases hu with
          | head => exact (rel_sc hs.1 h1).1
          | tail _ hu => exact ih hs.2 h2 u hu
      exact this hsc hus
    have hexec : ∀ v' w', (Builtin.append_ #[U, U] T #[.slice (some ⟨b, 0, none⟩) len c, .slice ad cnt c2]).run P w = .ok v' w' →
        (execOp a.eval ⟨some d, .call ⟨.builtin .append, #[x, y], #[U, U]⟩, T, pos, aft, g⟩).run P w = .ok (.value v') w' := by
      intro v' w' h
      simp [execOp, resolve, invoke, builtin, he, hv, h]
    have hprefix := relL_take (len * m) hrel hlen
    rcases hsrc with rfl | ⟨bb, rfl, hcells⟩
    · have hys : ys = [] := by have := relL_len hus; rw [hul] at this; simpa using this.symm
      subst hys
      have hrun := run_append_zero (P := P) w U T e it hu hie (some ⟨b, 0, none⟩) len c (by omega) ad c2
      refine ⟨_, w, F, _, hexec _ _ hrun, ?_, k⟩
      have hkeep : R C F ⟨s.fr, s.hp.set id (.cells b (splice cs (len * m) []))⟩ a w := by
        have e2 : splice cs (len * m) [] = cs := by simp [splice]
        rw [e2]
        have := hr.row (j := 0) (xs := cs) (arr' := arr) hh rfl hheap rfl hrel
        rwa [setRow_self w b arr e0 (0, 0) hheap] at this
      exact hkeep.put hdn (by simp only [rel]; exact ⟨c, by simp, by omega, hop, arr, e0, _, hheap, hsize⟩)
    · have hfit : len * it.size + us.length ≤ arr.size := by
        rw [hsz, hul, ← Nat.add_mul]
        have := Nat.mul_le_mul_right m (show len + cnt ≤ c by omega)
        omega
      have hrun := run_append_room' (P := P) w U T e e0 it hu hie b len c arr hheap bb cnt c2 us (by rw [hul, hsz]) hcells hone (by omega) hfit
      rw [hsz] at hrun
      refine ⟨_, _, F, _, hexec _ _ hrun, ?_, k⟩
      have hs2 : (arr.toList.take (len * m) ++ us ++ arr.toList.drop (len * m + us.length)).toArray.size = arr.size := by
        rw [hsz] at hfit
        simp
        omega
      have hR := hr.row (j := 0) (xs := splice cs (len * m) ys) hh rfl hheap hs2 (by
        unfold splice
        simp only [List.append_assoc]
        refine relP_append hprefix (relP_append hus ?_)
        rw [← relL_len hus]
        exact relP_drop _ hrel)
      exact hR.put hdn (by simp only [rel]; exact ⟨c, rfl, by omega, hop, _, e0, _, setRow_heap w b arr _ e0 (0, 0) hheap, by rw [hs2]; exact hsize⟩)

theorem Run.clear {x : Operand} {id b m off len cap bytes : Nat} {opn : Bool} {cs zs : List AV} (hi : ops[i]? = some ⟨none, .call ⟨.builtin .clear, #[x], #[U]⟩, T, pos, aft, g⟩) (hw : want ops s.fr ⟨none, .call ⟨.builtin .clear, #[x], #[U]⟩, T, pos, aft, g⟩ = some true)
    (hx : Ev s.fr x (.own id b m off len cap opn)) (hh : s.hp[id]? = some [(b, cs)]) (hT : Elem P U m bytes zs) (hz1 : zs.all AV.sc = true) (hpos : 0 < len) (hlen : off + len * m ≤ cs.length)
    (k : Run C ops l Q ⟨s.fr, s.hp.set id (.cells b (splice cs off (zcells zs m (len * m))))⟩) : Run C ops (i :: l) Q s :=
  Run.step hi hw fun F a w hr => by
    obtain ⟨⟨e, it, z, hu, hie, hz, hsz, hbb, hzc, hm⟩, hzs⟩ := hT
    obtain ⟨z', hzr, hz', hzl⟩ := zeroOf_spec (hzs e hu)
    have hzz : z' = z := by simp [hie, hz] at hz'; exact hz'.symm
    subst hzz
    have h1 := Ev.rel hr hx
    simp only [rel] at h1
    obtain ⟨c, he, _, _, arr0, e00, fz0, hh0, _⟩ := h1
    obtain ⟨_, hnF, hhl⟩ := hr.sat.live (At.one hh)
    obtain ⟨arr, e0, hheap, hrel⟩ := hhl.cells ⟨arr0, e00, fz0, hh0⟩
    have hzlen : zs.length = m := by have := relL_len (hzl F w); simp at this; omega
    have hus : relL F w (zcells zs m (len * m)) (Builtin.zeroCells z'.cells len).toList := by
      unfold zcells Builtin.zeroCells
      rw [Array.toList_map, Array.toList_range, hzc]
      refine relL_map_range _ _ _ (fun j _ => ?_)
      exact relL_getD (hzl F w) (j := j % m) (by rw [hzlen]; exact Nat.mod_lt _ hm)
    have hul : (Builtin.zeroCells z'.cells len).toList.length = len * m := by rw [relL_len hus]; simp [zcells]
    have hone : ∀ u ∈ (Builtin.zeroCells z'.cells len).toList, u.oneCell' = true := by
      have hall : ∀ y ∈ zcells zs m (len * m), y.sc = true := by
        intro y hy
        unfold zcells at hy
        obtain ⟨j, _, rfl⟩ := List.mem_map.1 hy
        have hj : j % m < zs.length := by rw [hzlen]; exact Nat.mod_lt _ hm
        rw [List.all_eq_true] at hz1
        refine hz1 _ ?_
        rw [List.getD_eq_getElem?_getD, List.getElem?_eq_getElem hj]
        exact List.getElem_mem hj
      have : ∀ {xs : List AV} {vs : List Value}, (∀ y ∈ xs, y.sc = true) → relL F w xs vs → ∀ u ∈ vs, u.oneCell' = true := by
        intro xs
        induction xs with
        | nil => intro vs _ h; simp only [relL] at h; subst h; intro u hu; cases hu
        | cons y ys ih =>
          intro vs hs h
          simp only [relL] at h
          obtain ⟨v, r, rfl, h1, h2⟩ := h
          intro u hu
          cases hu with
          | head => exact (rel_sc (hs y (by simp)) h1).1
          | tail _ hu => exact ih (fun y hy => hs y (by simp [hy])) h2 u hu
      exact this hall hus
    have hle := relP_len hrel
    simp only [Array.length_toList] at hle
    have hst := run_storeCells_at (P := P) b off e0 (Builtin.zeroCells z'.cells len).toList 0 arr w hheap (by simp only [Nat.add_zero]; omega) hone
    simp only [Nat.add_zero] at hst
    obtain ⟨k0, rfl⟩ : ∃ k0, len = k0 + 1 := ⟨len - 1, by omega⟩
    have hrun : (Builtin.clear_ #[U] T #[.slice (some ⟨b, off, none⟩) (k0 + 1) c]).run P w = .ok (.tuple #[]) (w.setRow b (arr.toList.take off ++ (Builtin.zeroCells z'.cells (k0 + 1)).toList ++ arr.toList.drop (off + (Builtin.zeroCells z'.cells (k0 + 1)).toList.length)).toArray) := by
      simp [Builtin.clear_, run_underlying hu, hzr w, hst]
    refine ⟨.tuple #[], w.setRow b (arr.toList.take off ++ (Builtin.zeroCells z'.cells (k0 + 1)).toList ++ arr.toList.drop (off + (Builtin.zeroCells z'.cells (k0 + 1)).toList.length)).toArray, F, _, by simp [execOp, resolve, invoke, builtin, he, hrun], ?_, k⟩
    refine R.put_none (hr.row (j := 0) hh rfl hheap ?_ ?_) _
    · have hul2 : (Builtin.zeroCells z'.cells (k0 + 1)).size = (k0 + 1) * m := by simpa using hul
      generalize (k0 + 1) * m = q at hul2 hlen
      simp only [List.size_toArray, List.length_append, List.length_take, List.length_drop, Array.length_toList, hul2]
      omega
    · unfold splice
      simp only [List.append_assoc]
      refine relP_append (relL_take off hrel (by omega)) (relP_append hus ?_)
      rw [← relL_len hus]
      exact relP_drop _ hrel

def nilA : AV → Option Bool
  | .own .. => some false
  | .imm _ (_ + 1) => some false
  | .nilsl => some true
  | _ => none
theorem eq_nil (dp : Nat) {e : TypeId} (he : P.underlying U = some (.slice e)) (ad : Option Addr) (l' c : Nat) (w : World) : (Op.equalIn (dp + 1) U (.slice ad l' c) (.slice none 0 0)).run P w = .ok ad.isNone w := by
  cases ad <;> simp only [Op.equalIn, Sem.run_bind, underlying, run_program, Result.andThen_ok, he, Sem.run_pure, Option.isNone]
theorem Run.eql_slice {V : TypeId} {x y : Operand} {p : AV} {b : Bool} (hi : ops[i]? = some ⟨some d, .binOp .eql U x y V, T, pos, aft, g⟩) (hw : want ops s.fr ⟨some d, .binOp .eql U x y V, T, pos, aft, g⟩ = some true) (hdn : Nat.blt d n = true)
    (hx : Ev s.fr x p) (hy : Ev s.fr y .nilsl) (hT : isSl P U = true) (hn : nilA p = some b) (k : Run C ops l Q (s.put d (.bool b))) : Run C ops (i :: l) Q s :=
  Run.bin hi hw hdn hx hy (fun F w u v hu hv => by
    unfold isSl at hT
    split at hT
    · rename_i e he
      have hv' : v = .slice none 0 0 := by simpa only [rel] using hv
      subst hv'
      have : ∃ ad l c, u = .slice ad l c ∧ b = ad.isNone := by
        cases p <;> simp only [nilA, reduceCtorEq] at hn
        · rename_i cs len
          cases len with
          | zero => simp at hn
          | succ len =>
            simp only [Option.some.injEq] at hn
            simp only [rel] at hu
            obtain ⟨ad, c, rfl, _, hp⟩ := hu
            obtain ⟨b', o, arr, e', fz, rfl, _⟩ := hp (by omega)
            exact ⟨_, _, _, rfl, by simp [← hn]⟩
        · simp only [rel] at hu
          obtain ⟨c, rfl, _⟩ := hu
          simp only [Option.some.injEq] at hn
          exact ⟨_, _, _, rfl, by simp [← hn]⟩
        · simp only [rel] at hu
          simp only [Option.some.injEq] at hn
          exact ⟨_, _, _, hu, by simp [← hn]⟩
      obtain ⟨ad, l', c, rfl, rfl⟩ := this
      refine ⟨.bool ad.isNone, ?_, by simp [rel]⟩
      have h2 : (Op.equal U (.slice ad l' c) (.slice none 0 0)).run P w = .ok ad.isNone w := eq_nil 9999 he ad l' c w
      have h3 : (eqGuard .eql U x y (.slice ad l' c) (.slice none 0 0)).run P w = .ok () w := by simp [eqGuard]
      have h4 : binOp .eql U (.slice ad l' c) (.slice none 0 0) = (Op.equal U (.slice ad l' c) (.slice none 0 0) >>= fun r => _root_.Pure.pure (Value.bool r)) := rfl
      rw [Sem.run_bind, h3, Result.andThen_ok, h4, Sem.run_bind, h2, Result.andThen_ok, Sem.run_pure]
    · cases hT) k
/-- x[lo:] where lo is the capacity. -/
theorem Run.slice_end {x : Operand} {lo hi : Option Operand} {id b m off len cap bl bh : Nat} {opn : Bool} (hi' : ops[i]? = some ⟨some d, .slice U x lo hi none, T, pos, aft, g⟩) (hw : want ops s.fr ⟨some d, .slice U x lo hi none, T, pos, aft, g⟩ = some true) (hdn : Nat.blt d n = true)
    (hx : Ev s.fr x (.own id b m off len cap opn)) (hT : slB P U m = true) (hlo : Bnd s.fr lo 0 bl) (hhi : Bnd s.fr hi len bh) (h1 : bl ≤ bh) (h2 : bh ≤ cap) (h3 : cap ≤ bl) (k : Run C ops l Q (s.put d (.empty false))) : Run C ops (i :: l) Q s :=
  Run.slice_any hi' hw hdn hx hT hlo hhi h1 h2 (fun y hy => by
    rcases hy with ⟨h, _⟩ | ⟨_, rfl⟩
    · omega
    · exact k)
end ops
end
end Go.Ab
/- Regions that draw their order in which operations that make new blocks may come at any time. -/
namespace Go.Ab
open Go.RowKit (Below)
section
variable {P : Program} {n : Nat} {C : Cx P n} {Q : Post} {s : St}

/-- An operation i that gives its slot d a value and fills the place id: what it gives is told by pr. An operation i2 may write to the place afterwards: what lies there then is told by pr2. -/
structure Early where
  i : Nat
  d : Nat
  id : Nat
  pr : AV → Ar → Prop
  i2 : Option Nat := none
  pr2 : AV → Ar → Prop := fun _ _ => True
def Early.fin (e : Early) : AV → Ar → Prop := match e.i2 with
  | none => e.pr
  | some _ => e.pr2

abbrev Got := Nat → Option (AV × Ar)
def gotX (o : Option (AV × Ar)) : AV := match o with
  | some (x, _) => x
  | none => .junk
def gotL (o : Option (AV × Ar)) : Ar := match o with
  | some (_, l) => l
  | none => []
def hpE : List Early → Got → List Ar → List Ar
  | [], _, H => H
  | e :: es, ob, H => hpE es ob (H.set e.id (gotL (ob e.i)))
def frE : List Early → Got → List (Nat × AV) → List (Nat × AV)
  | [], _, fr => fr
  | e :: es, ob, fr => frE es ob ((e.d, gotX (ob e.i)) :: fr)
def EachE (K : List Ar → Prop) : List Early → List Ar → Prop
  | [], H => K H
  | e :: es, H => ∀ l : Ar, EachE K es (H.set e.id l)
theorem EachE.at {K : List Ar → Prop} (ob : Got) : ∀ {es : List Early} {H : List Ar}, EachE K es H → K (hpE es ob H)
  | [], _, h => h
  | e :: es, _, h => EachE.at ob (es := es) (h (gotL (ob e.i)))

def upd (ob : Got) (i : Nat) (v : AV × Ar) : Got := fun j => if j = i then some v else ob j
theorem hpE_out (ob : Got) {k : Nat} {v : Ar} : ∀ {es : List Early} {H : List Ar}, (∀ e ∈ es, e.id ≠ k) → hpE es ob (H.set k v) = (hpE es ob H).set k v
  | [], _, _ => rfl
  | e :: es, H, h => by
    simp only [hpE]
    rw [List.set_comm _ _ (Ne.symm (h e (by simp))), hpE_out ob fun e he => h e (by simp [he])]
theorem hpE_upd {ob : Got} {i : Nat} {v : AV × Ar} : ∀ {es : List Early} {H : List Ar}, (∀ e ∈ es, e.i ≠ i) → hpE es (upd ob i v) H = hpE es ob H
  | [], _, _ => rfl
  | e :: es, H, h => by
    simp only [hpE]
    rw [show upd ob i v e.i = ob e.i from if_neg (h e (by simp)), hpE_upd fun e he => h e (by simp [he])]
def distE : List Early → Prop
  | [] => True
  | e :: es => (∀ e' ∈ es, e'.id ≠ e.id ∧ e'.i ≠ e.i) ∧ distE es
theorem hpE_put {ob : Got} {x : AV} {l : Ar} {e : Early} : ∀ {es : List Early} {H : List Ar}, distE es → e ∈ es → (hpE es ob H).set e.id l = hpE es (upd ob e.i (x, l)) H
  | [], _, _, h => by cases h
  | e0 :: es, H, hd, h => by
    simp only [hpE]
    rcases List.mem_cons.1 h with rfl | h
    · rw [hpE_upd fun e he => (hd.1 e he).2, ← hpE_out ob fun e he => (hd.1 e he).1, List.set_set]
      rw [show upd ob e.i (x, l) e.i = some (x, l) from if_pos rfl]
      rfl
    · rw [show upd ob e.i (x, l) e0.i = ob e0.i from if_neg (Ne.symm (hd.1 e h).2)]
      exact hpE_put hd.2 h

def isE (es : List Early) (i : Nat) : Bool := es.any fun e => e.i == i
theorem isE_iff {es : List Early} {i : Nat} : isE es i = true ↔ ∃ e ∈ es, e.i = i := by simp [isE]
def valE (es : List Early) (ob : Got) (it : Item) : AV := if isE es it.i = true then gotX (ob it.i) else it.x

def isW (es : List Early) (i : Nat) : Bool := es.any fun e => match e.i2 with
  | some j => j == i
  | none => false
theorem isW_iff {es : List Early} {i : Nat} : isW es i = true ↔ ∃ e ∈ es, e.i2 = some i := by
  simp only [isW, List.any_eq_true]
  constructor
  · rintro ⟨e, he, h⟩
    cases h2 : e.i2 with
    | none => simp [h2] at h
    | some j => simp [h2] at h; subst h; exact ⟨e, he, h2⟩
  · rintro ⟨e, he, h⟩
    exact ⟨e, he, by simp [h]⟩
def SingleW (e : Early) (x : AV) (fr : List (Nat × AV)) (H : List Ar) : Post := fun ex s => ex = .normal ∧ ∃ l, e.pr2 x l ∧ s = ⟨fr, H.set e.id l⟩
theorem singleW_nil {ops : Array Oper} {e : Early} {x : AV} {l : Ar} {fr : List (Nat × AV)} {H : List Ar} (h : e.pr2 x l) : Run C ops [] (SingleW e x fr H) ⟨fr, H.set e.id l⟩ := Run.nil ⟨rfl, l, h, rfl⟩
def SingleE (e : Early) (fr : List (Nat × AV)) (H : List Ar) : Post := fun ex s => ex = .normal ∧ ∃ x l, e.pr x l ∧ s = ⟨(e.d, x) :: fr, H.set e.id l⟩
theorem singleE_nil {ops : Array Oper} {e : Early} {x : AV} {l : Ar} {fr : List (Nat × AV)} {H : List Ar} (h : e.pr x l) : Run C ops [] (SingleE e fr H) ⟨(e.d, x) :: fr, H.set e.id l⟩ := Run.nil ⟨rfl, x, l, h, rfl⟩

def okE (C : Cx P n) (ops : Array Oper) (H : List Ar) (fr0 : List (Nat × AV)) (its : List Item) (es : List Early) (it : Item) : Prop :=
  (isE es it.i = false ∧ isW es it.i = false ∧ ∃ needs, needsOf its fr0 it.nd = some needs ∧ EachE (fun H' => ∀ rest, Run C ops [it.i] (Single it.d it.x (needs ++ rest) H') ⟨needs ++ rest, H'⟩) es H) ∨
  (∃ e ∈ es, e.i = it.i ∧ e.d = it.d ∧ ∃ needs, needsOf its fr0 it.nd = some needs ∧ EachE (fun H' => ∀ rest, Run C ops [it.i] (SingleE e (needs ++ rest) H') ⟨needs ++ rest, H'⟩) es H) ∨
  (∃ e ∈ es, e.i2 = some it.i ∧ isE es it.i = false ∧ it.x = .junk ∧ ∃ needs, needsOf its fr0 it.nd = some needs ∧ EachE (fun H' => ∀ rest x l, e.pr x l → Run C ops [it.i] (SingleW e x ((e.d, x) :: (needs ++ rest)) (H'.set e.id l)) ⟨(e.d, x) :: (needs ++ rest), H'.set e.id l⟩) es H)

theorem wpOp_post {ops : Array Oper} {i : Nat} {Q1 : Post} {Q2 : Exit → Act → World → Prop} {K : Act → World → Prop} {a : Act} {w : World} (hn : ∀ e s, Q1 e s → e = .normal)
    (hh : wpOp P ops (lift C Q1) i (wpOps P ops (lift C Q1) []) a w) (hk : ∀ a' w', lift C Q1 .normal a' w' → K a' w') : wpOp P ops Q2 i K a w := by
  unfold wpOp at hh ⊢
  split at hh
  · exact hk _ _ hh
  · rename_i o ho
    split at hh
    · rename_i hw
      simp only [hw, if_true]
      rcases hh with h1 | ⟨_, a0, w0, F0, s0, _, hq⟩
      · refine .inl ?_
        have h2 := Oper.wp_mono (K' := K) (fun a' w' h => hk a' w' h) h1
        unfold Oper.wp at h2 ⊢
        generalize (execOp a.eval o).run P w = r at h2 ⊢
        cases r with
        | ok nx w' =>
          cases nx <;> simp only [Oper.upon] at h2 ⊢ <;> first
            | exact h2
            | exact Calls.mono h2 (fun e w'' he => by
                cases e with
                | returned v => exact he
                | panicked c => obtain ⟨_, _, _, hq⟩ := he; have := hn _ _ hq; cases this
                | outgrown => obtain ⟨_, _, _, _, _, hq⟩ := he; have := hn _ _ hq; cases this)
        | halt hh w' =>
          cases hh <;> simp only [Oper.upon] at h2 ⊢
          all_goals first
            | exact h2
            | (obtain ⟨_, _, _, hq⟩ := h2; have := hn _ _ hq; cases this)
      · have := hn _ _ hq; cases this
    · rename_i hw
      simp only [hw]
      exact hk _ _ hh

structure InvE (C : Cx P n) (its : List Item) (es : List Early) (fr0 : List (Nat × AV)) (H : List Ar) (listed : Array Bool) (a : Act) (w : World) : Prop where
  st : ∃ F fr ob, R C F ⟨fr, hpE es ob H⟩ a w ∧ (∀ e ∈ es, listed.getD e.i false = true → ∃ x l, ob e.i = some (x, l) ∧ ((∀ j, e.i2 = some j → listed.getD j false = false) → e.pr x l) ∧ ((∃ j, e.i2 = some j ∧ listed.getD j false = true) → e.pr2 x l)) ∧
    (∀ it ∈ its, listed.getD it.i false = true → isW es it.i = false → get fr it.d = some (valE es ob it)) ∧
    (∀ t x, get fr0 t = some x → (∀ it ∈ its, listed.getD it.i false = true → it.d ≠ t) → get fr t = some x)

/-- All has come but the tail. -/
def DoneE (C : Cx P n) (its : List Item) (es : List Early) (fr0 : List (Nat × AV)) (H : List Ar) (a : Act) (w : World) : Prop :=
  ∃ F fr ob, R C F ⟨fr, hpE es ob H⟩ a w ∧ (∀ e ∈ es, ∃ x l, ob e.i = some (x, l) ∧ e.fin x l) ∧ (∀ it ∈ its, isW es it.i = false → get fr it.d = some (valE es ob it)) ∧ (∀ t x, get fr0 t = some x → (∀ it ∈ its, it.d ≠ t) → get fr t = some x)

structure EarlyOk (ops : Array Oper) (its : List Item) (es : List Early) : Prop where
  dist : distE es
  at' : ∀ e ∈ es, ∃ it ∈ its, it.i = e.i ∧ it.d = e.d
  far : ∀ it ∈ its, ∀ t q y, (t, some q) ∈ it.nd → its[q]? = some y → isE es y.i = false ∧ isW es y.i = false
  two : ∀ e ∈ es, ∀ j, e.i2 = some j → (∃ it ∈ its, it.i = j) ∧ isE es j = false ∧ ((masks ops ops.size).getD j 0).testBit e.i = true
  two' : ∀ e ∈ es, ∀ e' ∈ es, ∀ j, e.i2 = some j → e'.i2 = some j → e'.i = e.i

theorem EarlyOk.noW {ops : Array Oper} {its : List Item} {es : List Early} (oe : EarlyOk ops its es) {i : Nat} (h : isE es i = true) : isW es i = false := by
  cases hw : isW es i with
  | false => rfl
  | true =>
    obtain ⟨e, he, hj⟩ := isW_iff.1 hw
    have := (oe.two e he i hj).2.1
    rw [h] at this
    cases this
theorem distE.eq : ∀ {es : List Early}, distE es → ∀ {e e' : Early}, e ∈ es → e' ∈ es → e'.i = e.i → e' = e
  | [], _, _, _, h, _, _ => by cases h
  | e0 :: es, hd, e, e', k1, k2, hee => by
    rcases List.mem_cons.1 k1 with h1 | h1 <;> rcases List.mem_cons.1 k2 with h2 | h2
    · rw [h1, h2]
    · exact absurd (h1 ▸ hee) (hd.1 _ h2).2
    · exact absurd (h2 ▸ hee).symm (hd.1 _ h1).2
    · exact distE.eq hd.2 h1 h2 hee

theorem drawE_finish {ops : Array Oper} {L0 : List Nat} {its : List Item} {es : List Early} {tl : List Nat} {fr0 : List (Nat × AV)} {H : List Ar} {Q2 : Exit → Act → World → Prop} (ok : DrawOk ops L0 its tl) (oe : EarlyOk ops its es)
    (fin : ∀ a w, DoneE C its es fr0 H a w → ∀ fuel, tl.length ≤ fuel → wpAny P .any ops Q2 fuel (arr ops.size (L0 ++ its.map (·.i))) a w)
    {listed : Array Bool} {a : Act} {w : World} (hinv : InvE C its es fr0 H listed a w) (hg : Good ops L0 its tl listed) (hall : ∀ it ∈ its, listed.getD it.i false = true) (fuel : Nat) (hf : tl.length ≤ fuel) : wpAny P .any ops Q2 fuel listed a w := by
  have e : listed = arr ops.size (L0 ++ its.map (·.i)) := by
    apply Array.ext
    · simp [hg.size, arr]
    · intro i h1 h2
      have hi : i < ops.size := by rw [← hg.size]; exact h1
      have g1 : listed.getD i false = listed[i] := by simp [Array.getD, h1]
      have g2 := arr_getD (N := ops.size) (L := L0 ++ its.map (·.i)) false hi
      have g3 : (arr ops.size (L0 ++ its.map (·.i))).getD i false = (arr ops.size (L0 ++ its.map (·.i)))[i] := by rw [Array.getD_eq_getD_getElem?, Array.getElem?_eq_getElem h2]; rfl
      rw [← g1, ← g3, g2]
      rcases ok.cover i hi with h | ⟨it, hit, rfl⟩ | h
      · rw [hg.l0 i h]; simp [h]
      · rw [hall it hit]
        have : it.i ∈ its.map (·.i) := List.mem_map.2 ⟨it, hit, rfl⟩
        exact (List.contains_iff_mem.2 (List.mem_append.2 (.inr this))).symm
      · rw [hg.tl i h]
        obtain ⟨h1, h2, _⟩ := ok.tl0 i h
        have : ¬ i ∈ L0 ++ its.map (·.i) := by
          simp only [List.mem_append, List.mem_map, not_or]
          exact ⟨h1, fun ⟨it, hit, he⟩ => h2 it hit he⟩
        cases hc : (L0 ++ its.map (·.i)).contains i with
        | false => rfl
        | true => exact absurd (List.contains_iff_mem.1 hc) this
  rw [e]
  obtain ⟨F, fr, ob, hr, h0, h1, h2⟩ := hinv.st
  refine fin a w ⟨F, fr, ob, hr, fun e he => ?_, fun it hit => h1 it hit (hall it hit), fun t x hx hno => h2 t x hx fun it hit _ => hno it hit⟩ fuel hf
  obtain ⟨it, hit, hi, _⟩ := oe.at' e he
  obtain ⟨x, l, k1, k2, k3⟩ := h0 e he (hi ▸ hall it hit)
  refine ⟨x, l, k1, ?_⟩
  unfold Early.fin
  cases hj : e.i2 with
  | none => exact k2 fun j h => by rw [hj] at h; cases h
  | some j =>
    obtain ⟨⟨it2, hit2, hi2⟩, _⟩ := oe.two e he j hj
    exact k3 ⟨j, hj, hi2 ▸ hall it2 hit2⟩

theorem drawE_main {ops : Array Oper} {L0 : List Nat} {its : List Item} {es : List Early} {tl : List Nat} {fr0 : List (Nat × AV)} {H : List Ar} {Q2 : Exit → Act → World → Prop} (ok : DrawOk ops L0 its tl) (oe : EarlyOk ops its es) (hs : ∀ it ∈ its, okE C ops H fr0 its es it)
    (fin : ∀ a w, DoneE C its es fr0 H a w → ∀ fuel, tl.length ≤ fuel → wpAny P .any ops Q2 fuel (arr ops.size (L0 ++ its.map (·.i))) a w) :
    ∀ (fuel : Nat) (listed : Array Bool) (a : Act) (w : World), InvE C its es fr0 H listed a w → Good ops L0 its tl listed → ((its.filter fun it => !listed.getD it.i false).length + tl.length ≤ fuel) → wpAny P .any ops Q2 fuel listed a w := by
  intro fuel
  have allOf : ∀ {listed : Array Bool}, (its.filter fun it => !listed.getD it.i false) = [] → ∀ it ∈ its, listed.getD it.i false = true := by
    intro listed h it hit
    have := List.filter_eq_nil_iff.1 h it hit
    cases hb : listed.getD it.i false with
    | true => rfl
    | false => rw [hb] at this; exact absurd rfl this
  induction fuel with
  | zero =>
    intro listed a w hinv hg hf
    exact drawE_finish ok oe fin hinv hg (allOf (List.length_eq_zero_iff.1 (by omega))) 0 (by omega)
  | succ fuel ih =>
    intro listed a w hinv hg hf
    by_cases hall : (its.filter fun it => !listed.getD it.i false) = []
    · exact drawE_finish ok oe fin hinv hg (allOf hall) (fuel + 1) (by rw [hall] at hf; simpa using hf)
    · have hex : ∃ it ∈ its, (!listed.getD it.i false) = true := by
        obtain ⟨it, hit⟩ := List.exists_mem_of_ne_nil _ hall
        exact ⟨it, (List.mem_filter.1 hit).1, (List.mem_filter.1 hit).2⟩
      refine ⟨fun h0 => ?_, fun i hi => ?_⟩
      · obtain ⟨p, x, hx, hux, hbefore⟩ := first_of (fun it : Item => !listed.getD it.i false) its hex
        exfalso
        have hxm := List.mem_of_getElem? hx
        have hlt := (ok.cl0 x hxm).2
        have hr : x.i ∈ Region.ready .any ops listed := by
          refine mem_ready.2 ⟨?_, ops[x.i], Array.getElem?_eq_getElem hlt, fun e he hb => ?_⟩
          · have : listed.getD x.i false = false := by simpa using hux
            rw [Array.getD_eq_getD_getElem?] at this ⊢
            have hl : x.i < listed.size := by rw [hg.size]; exact hlt
            rw [Array.getElem?_eq_getElem hl] at this ⊢
            exact this
          · have hed : e.on ∈ edges ops x.i := (mem_edges (Array.getElem?_eq_getElem hlt)).2 ⟨e, he, hb, rfl⟩
            rcases ok.early p x hx e.on hed with h | ⟨q, y, hq, hy, hye⟩
            · exact hg.l0 _ h
            · have := hbefore q y hq hy
              rw [← hye]
              simpa using this
        rw [h0] at hr
        cases hr
      · obtain ⟨hun, o, ho, hed⟩ := mem_ready.1 hi
        have hlt : i < ops.size := (Array.getElem?_eq_some_iff.1 ho).1
        have hl : i < listed.size := by rw [hg.size]; exact hlt
        have hun' : listed.getD i false = false := by
          rw [Array.getD_eq_getD_getElem?] at hun ⊢
          rw [Array.getElem?_eq_getElem hl] at hun ⊢
          exact hun
        have hedges : ∀ e ∈ edges ops i, listed.getD e false = true := fun e he => by
          obtain ⟨x, hx, hb, rfl⟩ := (mem_edges ho).1 he
          exact hed x hx hb
        rcases ok.cover i hlt with h | ⟨it, hit, rfl⟩ | h
        · rw [hg.l0 i h] at hun'; cases hun'
        · obtain ⟨F, fr, ob, hr, h0, h1, h2⟩ := hinv.st
          have hold : ∀ needs, needsOf its fr0 it.nd = some needs → ∀ t x, (t, x) ∈ needs → get fr t = some x := by
            intro needs hneeds
            refine needs_hold hneeds (fun t q y hm hy => ?_) (fun t x hm hx => ?_)
            · obtain ⟨y', hy', hyt, hb⟩ := ok.from' it hit t q hm
              rw [hy] at hy'
              cases hy'
              rw [← hyt]
              have := h1 y (List.mem_of_getElem? hy) (hg.waits hb hedges) (oe.far it hit t q y hm hy).2
              rw [this]
              unfold valE
              rw [(oe.far it hit t q y hm hy).1]
              rfl
            · refine h2 t x hx fun y hy hly hyt => ?_
              have hb := ok.from0 it hit t hm y hy hyt
              have := hg.waits hb (fun e he => hg.closed y.i hly e he)
              rw [hun'] at this
              cases this
          have hset : ∀ j, (listed.setIfInBounds it.i true).getD j false = true ↔ j = it.i ∨ listed.getD j false = true := by
            intro j
            by_cases hj : it.i = j
            · subst hj
              simp [Array.getD_eq_getD_getElem?, hl]
            · rw [getD_set_ne false hj]
              constructor
              · exact .inr
              · rintro (h | h)
                · exact absurd h.symm hj
                · exact h
          have hpos : ∃ p, its[p]? = some it := List.getElem?_of_mem hit
          have hdist : ∀ y ∈ its, y.i ≠ it.i → y.d ≠ it.d := fun y hy hne => by
            obtain ⟨p, hp⟩ := hpos
            obtain ⟨q, hq⟩ := List.getElem?_of_mem hy
            rcases Nat.lt_trichotomy p q with h | h | h
            · exact fun e => (ok.dist q p y it hq hp h).2 e.symm
            · subst h; rw [hp] at hq; cases hq; exact absurd rfl hne
            · exact (ok.dist p q it y hp hq h).2
          have hsame : ∀ y ∈ its, y.i = it.i → y = it := fun y hy he => by
            obtain ⟨p, hp⟩ := hpos
            obtain ⟨q, hq⟩ := List.getElem?_of_mem hy
            rcases Nat.lt_trichotomy p q with h | h | h
            · exact absurd he.symm (ok.dist q p y it hq hp h).1
            · subst h; rw [hp] at hq; cases hq; rfl
            · exact absurd he (ok.dist p q it y hp hq h).1
          have goodNext : Good ops L0 its tl (listed.setIfInBounds it.i true) := by
            refine ⟨by simp [hg.size], fun j hj => (hset j).2 (.inr (hg.l0 j hj)), fun t ht => ?_, fun j hj e he => ?_⟩
            · cases hb : (listed.setIfInBounds it.i true).getD t false with
              | false => rfl
              | true =>
                rcases (hset t).1 hb with h | h
                · exact absurd h.symm ((ok.tl0 t ht).2.1 it hit)
                · rw [hg.tl t ht] at h; cases h
            · refine (hset e).2 (.inr ?_)
              rcases (hset j).1 hj with rfl | hj
              · exact hedges e he
              · exact hg.closed j hj e he
          have fuelNext : (its.filter fun it' => !(listed.setIfInBounds it.i true).getD it'.i false).length + tl.length ≤ fuel := by
            have hlt2 := filter_lt (fun y : Item => !listed.getD y.i false) (fun y : Item => !(listed.setIfInBounds it.i true).getD y.i false) its (fun y _ hq => by
              cases hb : listed.getD y.i false with
              | false => rfl
              | true =>
                have := (hset y.i).2 (.inr hb)
                rw [this] at hq
                cases hq) ⟨it, hit, by rw [hun']; rfl, by rw [(hset it.i).2 (.inl rfl)]; rfl⟩
            omega
          have keepE : isW es it.i = false → ∀ e' ∈ es, e'.i ≠ it.i → (listed.setIfInBounds it.i true).getD e'.i false = true → ∃ x l, ob e'.i = some (x, l) ∧ ((∀ j, e'.i2 = some j → (listed.setIfInBounds it.i true).getD j false = false) → e'.pr x l) ∧ ((∃ j, e'.i2 = some j ∧ (listed.setIfInBounds it.i true).getD j false = true) → e'.pr2 x l) := by
            intro hnw e' he' hne hle
            obtain ⟨x, l, k1, k2, k3⟩ := h0 e' he' (((hset _).1 hle).resolve_left hne)
            refine ⟨x, l, k1, fun hno => k2 fun j hj => ?_, fun ⟨j, hj, hl⟩ => k3 ⟨j, hj, ((hset _).1 hl).resolve_left fun h => ?_⟩⟩
            · cases hb : listed.getD j false with
              | false => rfl
              | true => have := hno j hj; rw [(hset j).2 (.inr hb)] at this; cases this
            · have := isW_iff.2 ⟨e', he', h ▸ hj⟩
              rw [hnw] at this
              cases this
          rcases hs it hit with ⟨hcalm, hnw, needs, hneeds, hrun⟩ | ⟨e, he, hei, hed', needs, hneeds, hrun⟩ | ⟨e, he, hej, hcalm, _, needs, hneeds, hrun⟩
          · have hhold := hold needs hneeds
            have hget := get_needs hhold
            have hr' : R C F ⟨needs ++ fr, hpE es ob H⟩ a w := hr.frame fun t x hx => ⟨x, by rw [← hget]; exact hx, fun _ _ h => h⟩
            have hone := hrun.at ob fr F a w hr'
            rw [wpOps_cons] at hone
            refine wpOp_post (Q1 := Single it.d it.x (needs ++ fr) (hpE es ob H)) (fun e s h => h.1) hone fun a' w' ⟨F', s', hr2, _, hs'⟩ => ?_
            subst hs'
            refine ih _ a' w' ⟨F', _, ob, hr2, fun e' he' hle => keepE hnw e' he' (fun h => ?_) hle, fun y hy hly hw => ?_, fun t x hx hno => ?_⟩ goodNext fuelNext
            · have := isE_iff.2 ⟨e', he', h⟩
              rw [hcalm] at this
              cases this
            · by_cases he : y.i = it.i
              · rw [hsame y hy he, get_cons_self]
                unfold valE
                rw [hcalm]
                rfl
              · rw [get_cons_ne _ _ (hdist y hy he).symm, hget]
                exact h1 y hy (((hset _).1 hly).resolve_left he) hw
            · have hd : it.d ≠ t := hno it hit ((hset _).2 (.inl rfl))
              rw [get_cons_ne _ _ hd, hget]
              exact h2 t x hx fun y hy hly => hno y hy ((hset _).2 (.inr hly))
          · have hhold := hold needs hneeds
            have hget := get_needs hhold
            have hr' : R C F ⟨needs ++ fr, hpE es ob H⟩ a w := hr.frame fun t x hx => ⟨x, by rw [← hget]; exact hx, fun _ _ h => h⟩
            have hone := hrun.at ob fr F a w hr'
            rw [wpOps_cons] at hone
            refine wpOp_post (Q1 := SingleE e (needs ++ fr) (hpE es ob H)) (fun e s h => h.1) hone fun a' w' ⟨F', s', hr2, _, x, l, hpr, hs'⟩ => ?_
            subst hs'
            rw [hpE_put (x := x) oe.dist he] at hr2
            have hnw : isW es it.i = false := oe.noW (isE_iff.2 ⟨e, he, hei⟩)
            refine ih _ a' w' ⟨F', _, upd ob e.i (x, l), hr2, fun e' he' hle => ?_, fun y hy hly hw => ?_, fun t z hz hno => ?_⟩ goodNext fuelNext
            · by_cases hee : e'.i = e.i
              · have := distE.eq oe.dist he he' hee
                subst this
                refine ⟨x, l, if_pos rfl, fun _ => hpr, fun ⟨j, hj, hl⟩ => ?_⟩
                exfalso
                obtain ⟨_, hE, hbit⟩ := oe.two e' he' j hj
                have hlj : listed.getD j false = true := ((hset _).1 hl).resolve_left fun h => by
                  have := isE_iff.2 ⟨e', he', hei.trans h.symm⟩
                  rw [hE] at this
                  cases this
                have := hg.waits hbit fun e he => hg.closed j hlj e he
                rw [hei, hun'] at this
                cases this
              · have : upd ob e.i (x, l) e'.i = ob e'.i := if_neg hee
                rw [this]
                exact keepE hnw e' he' (by rw [← hei]; exact hee) hle
            · by_cases hy' : y.i = it.i
              · rw [hsame y hy hy']
                have : valE es (upd ob e.i (x, l)) it = x := by
                  unfold valE
                  rw [if_pos (isE_iff.2 ⟨e, he, hei⟩), show upd ob e.i (x, l) it.i = some (x, l) from if_pos hei.symm]
                  rfl
                rw [this, ← hed', get_cons_self]
              · have hd := hdist y hy hy'
                rw [← hed'] at hd
                rw [get_cons_ne _ _ hd.symm, hget]
                have : valE es (upd ob e.i (x, l)) y = valE es ob y := by
                  unfold valE
                  rw [show upd ob e.i (x, l) y.i = ob y.i from if_neg (by rw [hei]; exact hy')]
                rw [this]
                exact h1 y hy (((hset _).1 hly).resolve_left hy') hw
            · have hd : it.d ≠ t := hno it hit ((hset _).2 (.inl rfl))
              rw [← hed'] at hd
              rw [get_cons_ne _ _ hd, hget]
              exact h2 t z hz fun y hy hly => hno y hy ((hset _).2 (.inr hly))
          · have hhold := hold needs hneeds
            have hget := get_needs hhold
            obtain ⟨_, hE, hbit⟩ := oe.two e he it.i hej
            have hle := hg.waits hbit hedges
            obtain ⟨x, l, k1, k2, _⟩ := h0 e he hle
            have hpr := k2 fun j hj => by rw [hej] at hj; cases hj; exact hun'
            obtain ⟨ite, hite, hie, hde⟩ := oe.at' e he
            have hslot : get fr e.d = some x := by
              have := h1 ite hite (hie ▸ hle) (oe.noW (isE_iff.2 ⟨e, he, hie.symm⟩))
              rw [hde] at this
              rw [this]
              unfold valE
              rw [if_pos (isE_iff.2 ⟨e, he, hie.symm⟩), hie, k1]
              rfl
            have hget' : ∀ t, get ((e.d, x) :: (needs ++ fr)) t = get fr t := by
              intro t
              by_cases ht : e.d = t
              · subst ht; rw [get_cons_self, hslot]
              · rw [get_cons_ne _ _ ht, hget]
            have same : upd ob e.i (x, l) = ob := by
              funext j
              unfold upd
              split
              · rename_i h; subst h; exact k1.symm
              · rfl
            have hH : (hpE es ob H).set e.id l = hpE es ob H := by rw [hpE_put (x := x) oe.dist he, same]
            have hr' : R C F ⟨(e.d, x) :: (needs ++ fr), (hpE es ob H).set e.id l⟩ a w := by
              rw [hH]
              exact hr.frame fun t z hz => ⟨z, by rw [← hget']; exact hz, fun _ _ h => h⟩
            have hone := hrun.at ob fr x l hpr F a w hr'
            rw [wpOps_cons] at hone
            refine wpOp_post (Q1 := SingleW e x ((e.d, x) :: (needs ++ fr)) ((hpE es ob H).set e.id l)) (fun e s h => h.1) hone fun a' w' ⟨F', s', hr2, _, l', hpr', hs'⟩ => ?_
            subst hs'
            rw [List.set_set, hpE_put (x := x) oe.dist he] at hr2
            have hobx : ∀ i, gotX (upd ob e.i (x, l') i) = gotX (ob i) := by
              intro i
              unfold upd
              split
              · rename_i h; subst h; rw [k1]; rfl
              · rfl
            refine ih _ a' w' ⟨F', _, upd ob e.i (x, l'), hr2, fun e' he' hle' => ?_, fun y hy hly hw => ?_, fun t z hz hno => ?_⟩ goodNext fuelNext
            · by_cases hee : e'.i = e.i
              · have := distE.eq oe.dist he he' hee
                subst this
                refine ⟨x, l', if_pos rfl, fun hno => ?_, fun _ => hpr'⟩
                have := hno it.i hej
                rw [(hset it.i).2 (.inl rfl)] at this
                cases this
              · have : upd ob e.i (x, l') e'.i = ob e'.i := if_neg hee
                rw [this]
                have hne : e'.i ≠ it.i := fun h => by
                  have := isE_iff.2 ⟨e', he', h⟩
                  rw [hE] at this
                  cases this
                obtain ⟨x2, l2, m1, m2, m3⟩ := h0 e' he' (((hset _).1 hle').resolve_left hne)
                refine ⟨x2, l2, m1, fun hno => m2 fun j hj => ?_, fun ⟨j, hj, hl⟩ => m3 ⟨j, hj, ((hset _).1 hl).resolve_left fun h => ?_⟩⟩
                · cases hb : listed.getD j false with
                  | false => rfl
                  | true => have := hno j hj; rw [(hset j).2 (.inr hb)] at this; cases this
                · subst h
                  exact hee (oe.two' e he e' he' _ hej hj)
            · have hy' : y.i ≠ it.i := fun h => by
                have := isW_iff.2 ⟨e, he, hej⟩
                rw [← h, hw] at this
                cases this
              rw [hget']
              have : valE es (upd ob e.i (x, l')) y = valE es ob y := by
                unfold valE
                rw [hobx]
              rw [this]
              exact h1 y hy (((hset _).1 hly).resolve_left hy') hw
            · rw [hget']
              exact h2 t z hz fun y hy hly => hno y hy ((hset _).2 (.inr hly))
        · exfalso
          obtain ⟨it, hit, hu⟩ := hex
          have := hg.waits (ok.wait i h it hit) hedges
          rw [this] at hu
          cases hu

/-! ### the way it is written -/
def DrawE (C : Cx P n) (ops : Array Oper) (L0 : List Nat) (H : List Ar) (fr0 : List (Nat × AV)) (Q : Post) (es : List Early) (r : List Item) : Prop :=
  (∀ it ∈ r.reverse, okE C ops H fr0 r.reverse es it) → Drawn C ops L0 Q ⟨fr0, H⟩
theorem Drawn.calmE (es : List Early) {ops : Array Oper} {L0 : List Nat} (k : DrawE C ops L0 s.hp s.fr Q es []) : Drawn C ops L0 Q s := k fun _ h => by cases h

theorem okE_mono {ops : Array Oper} {H : List Ar} {fr0 : List (Nat × AV)} {its more : List Item} {es : List Early} {it : Item} (h : okE C ops H fr0 its es it) : okE C ops H fr0 (its ++ more) es it := by
  rcases h with ⟨h1, h0, needs, h2, h3⟩ | ⟨e, he, h1, h2, needs, h3, h4⟩ | ⟨e, he, h1, h2, h5, needs, h3, h4⟩
  · exact .inl ⟨h1, h0, needs, needsOf_mono h2, h3⟩
  · exact .inr (.inl ⟨e, he, h1, h2, needs, needsOf_mono h3, h4⟩)
  · exact .inr (.inr ⟨e, he, h1, h2, h5, needs, needsOf_mono h3, h4⟩)

theorem DrawE.op (i d len : Nat) (nd : List (Nat × Option Nat)) {ops : Array Oper} {L0 : List Nat} {H : List Ar} {fr0 : List (Nat × AV)} {es : List Early} {r : List Item} {needs : List (Nat × AV)} {x : AV} (hlen : r.length = len) (hn : needsR r fr0 nd = some needs) (hc : isE es i = false) (hw : isW es i = false)
    (h : EachE (fun H' => ∀ rest, Run C ops [i] (Single d x (needs ++ rest) H') ⟨needs ++ rest, H'⟩) es H) (k : DrawE C ops L0 H fr0 Q es (⟨i, d, turn len nd, x⟩ :: r)) : DrawE C ops L0 H fr0 Q es r := by
  subst hlen
  intro hs
  refine k fun it hit => ?_
  rw [List.reverse_cons] at hit ⊢
  rcases List.mem_append.1 hit with hit | hit
  · exact okE_mono (hs it hit)
  · simp only [List.mem_singleton] at hit
    subst hit
    exact .inl ⟨hc, hw, needs, needsOf_mono (needsR_eq hn), h⟩

theorem DrawE.early (i d len : Nat) (nd : List (Nat × Option Nat)) (j : Nat) {ops : Array Oper} {L0 : List Nat} {H : List Ar} {fr0 : List (Nat × AV)} {es : List Early} {r : List Item} {needs : List (Nat × AV)} {e : Early} (hlen : r.length = len) (hn : needsR r fr0 nd = some needs) (he : es[j]? = some e) (hi : e.i = i) (hd : e.d = d)
    (h : EachE (fun H' => ∀ rest, Run C ops [i] (SingleE e (needs ++ rest) H') ⟨needs ++ rest, H'⟩) es H) (k : DrawE C ops L0 H fr0 Q es (⟨i, d, turn len nd, .junk⟩ :: r)) : DrawE C ops L0 H fr0 Q es r := by
  subst hlen
  intro hs
  refine k fun it hit => ?_
  rw [List.reverse_cons] at hit ⊢
  rcases List.mem_append.1 hit with hit | hit
  · exact okE_mono (hs it hit)
  · simp only [List.mem_singleton] at hit
    subst hit
    exact .inr (.inl ⟨e, List.mem_of_getElem? he, hi, hd, needs, needsOf_mono (needsR_eq hn), h⟩)
/-- The write that comes behind an early new block. -/
theorem DrawE.late (i d len : Nat) (nd : List (Nat × Option Nat)) (j : Nat) {ops : Array Oper} {L0 : List Nat} {H : List Ar} {fr0 : List (Nat × AV)} {es : List Early} {r : List Item} {needs : List (Nat × AV)} {e : Early} (hlen : r.length = len) (hn : needsR r fr0 nd = some needs) (he : es[j]? = some e) (hi : e.i2 = some i) (hc : isE es i = false)
    (h : EachE (fun H' => ∀ rest x l, e.pr x l → Run C ops [i] (SingleW e x ((e.d, x) :: (needs ++ rest)) (H'.set e.id l)) ⟨(e.d, x) :: (needs ++ rest), H'.set e.id l⟩) es H) (k : DrawE C ops L0 H fr0 Q es (⟨i, d, turn len nd, .junk⟩ :: r)) : DrawE C ops L0 H fr0 Q es r := by
  subst hlen
  intro hs
  refine k fun it hit => ?_
  rw [List.reverse_cons] at hit ⊢
  rcases List.mem_append.1 hit with hit | hit
  · exact okE_mono (hs it hit)
  · simp only [List.mem_singleton] at hit
    subst hit
    exact .inr (.inr ⟨e, List.mem_of_getElem? he, hi, hc, rfl, needs, needsOf_mono (needsR_eq hn), h⟩)

def TailE (K : St → Prop) : List Early → St → Prop
  | [], s => K s
  | e :: es, s => ∀ x l, e.fin x l → TailE K es ⟨(e.d, x) :: s.fr, s.hp.set e.id l⟩
theorem TailE.at {K : St → Prop} {ob : Got} : ∀ {es : List Early} {s : St}, TailE K es s → (∀ e ∈ es, ∃ x l, ob e.i = some (x, l) ∧ e.fin x l) → K ⟨frE es ob s.fr, hpE es ob s.hp⟩
  | [], _, h, _ => h
  | e :: es, s, h, hob => by
    obtain ⟨x, l, h1, h2⟩ := hob e (by simp)
    have := TailE.at (h x l h2) fun e he => hob e (by simp [he])
    simp only [frE, hpE, h1, gotX, gotL]
    exact this
theorem get_frE {ob : Got} {t : Nat} {x : AV} : ∀ {es : List Early} {fr : List (Nat × AV)}, get (frE es ob fr) t = some x → (∃ e ∈ es, e.d = t ∧ x = gotX (ob e.i)) ∨ ((∀ e ∈ es, e.d ≠ t) ∧ get fr t = some x)
  | [], fr, h => .inr ⟨(fun _ h => by cases h), h⟩
  | e :: es, fr, h => by
    simp only [frE] at h
    rcases get_frE h with ⟨e', he, h1⟩ | ⟨h1, h2⟩
    · exact .inl ⟨e', by simp [he], h1⟩
    · by_cases hd : e.d = t
      · subst hd
        rw [get_cons_self] at h2
        cases h2
        exact .inl ⟨e, by simp, rfl, rfl⟩
      · rw [get_cons_ne _ _ hd] at h2
        refine .inr ⟨fun e' he => ?_, h2⟩
        rcases List.mem_cons.1 he with rfl | he
        · exact hd
        · exact h1 e' he

abbrev EKey := Nat × Nat × Nat × Option Nat
def Early.key (e : Early) : EKey := (e.i, e.d, e.id, e.i2)
def distB : List EKey → Bool
  | [] => true
  | e :: es => es.all (fun e' => !(e'.2.2.1 == e.2.2.1) && !(e'.1 == e.1) && (match e'.2.2.2, e.2.2.2 with
    | some j, some j' => !(j == j')
    | _, _ => true)) && distB es
def earlyB (ops : Array Oper) (ks : List Key) (ek : List EKey) : Bool :=
  distB ek && ek.all (fun e => ks.any fun k => k.1 == e.1 && k.2.1 == e.2.1) &&
  ks.all (fun k => k.2.2.all fun (_, src) => match src with
    | some q => match ks[q]? with
      | some k' => ek.all fun e => !(e.1 == k'.1) && !(e.2.2.2 == some k'.1)
      | none => true
    | none => true) &&
  ek.all (fun e => match e.2.2.2 with
    | some j => ks.any (fun k => k.1 == j) && ek.all (fun e' => !(e'.1 == j)) && ((masks ops ops.size).getD j 0).testBit e.1
    | none => true)
theorem earlyB_spec {ops : Array Oper} {its : List Item} {es : List Early} (h : earlyB ops (its.map Item.key) (es.map Early.key) = true) : EarlyOk ops its es := by
  simp only [earlyB, Bool.and_eq_true] at h
  obtain ⟨⟨⟨h1, h2⟩, h3⟩, h4⟩ := h
  have dist : distE es ∧ ∀ e ∈ es, ∀ e' ∈ es, ∀ j, e.i2 = some j → e'.i2 = some j → e'.i = e.i := by
    clear h2 h3 h4
    induction es with
    | nil => exact ⟨trivial, fun _ h => by cases h⟩
    | cons e es ih =>
      simp only [List.map_cons, distB, Bool.and_eq_true, List.all_eq_true, List.mem_map, Bool.not_eq_true', beq_eq_false_iff_ne] at h1
      obtain ⟨k1, k2⟩ := ih h1.2
      have hne : ∀ e' ∈ es, ∀ j, e.i2 = some j → e'.i2 = some j → False := fun e' he' j hj hj' => by
        have := (h1.1 _ ⟨e', he', rfl⟩).2
        simp [Early.key, hj, hj'] at this
      refine ⟨⟨fun e' he => ((h1.1 _ ⟨e', he, rfl⟩).1), k1⟩, fun a ha b hb j hj hj' => ?_⟩
      rcases List.mem_cons.1 ha with h1 | h1 <;> rcases List.mem_cons.1 hb with h2 | h2
      · rw [h1, h2]
      · exact (hne b h2 j (h1 ▸ hj) hj').elim
      · exact (hne a h1 j (h2 ▸ hj') hj).elim
      · exact k2 a h1 b h2 j hj hj'
  refine ⟨dist.1, fun e he => ?_, fun it hit t q y hm hy => ?_, fun e he j hj => ?_, dist.2⟩
  · rw [List.all_eq_true] at h2
    have := h2 _ (List.mem_map.2 ⟨e, he, rfl⟩)
    simp only [List.any_eq_true, List.mem_map, Bool.and_eq_true, beq_iff_eq] at this
    obtain ⟨k, ⟨it, hit, rfl⟩, h4, h5⟩ := this
    exact ⟨it, hit, h4, h5⟩
  · rw [List.all_eq_true] at h3
    have := h3 _ (List.mem_map.2 ⟨it, hit, rfl⟩)
    rw [List.all_eq_true] at this
    have := this (t, some q) hm
    simp only [List.getElem?_map, hy, Option.map_some, List.all_eq_true, List.mem_map, Bool.and_eq_true, Bool.not_eq_true', beq_eq_false_iff_ne] at this
    constructor
    · cases hb : isE es y.i with
      | false => rfl
      | true =>
        obtain ⟨e, he, hi⟩ := isE_iff.1 hb
        exact absurd hi (this _ ⟨e, he, rfl⟩).1
    · cases hb : isW es y.i with
      | false => rfl
      | true =>
        obtain ⟨e, he, hi⟩ := isW_iff.1 hb
        exact absurd hi (this _ ⟨e, he, rfl⟩).2
  · rw [List.all_eq_true] at h4
    have := h4 _ (List.mem_map.2 ⟨e, he, rfl⟩)
    simp only [Early.key, hj, Bool.and_eq_true, List.any_eq_true, List.mem_map, beq_iff_eq, List.all_eq_true, Bool.not_eq_true', beq_eq_false_iff_ne] at this
    obtain ⟨⟨⟨k, ⟨it, hit, rfl⟩, k2⟩, k3⟩, k4⟩ := this
    refine ⟨⟨it, hit, k2⟩, ?_, k4⟩
    cases hb : isE es j with
    | false => rfl
    | true =>
      obtain ⟨e', he', hi⟩ := isE_iff.1 hb
      exact absurd hi (k3 _ ⟨e', he', rfl⟩)

theorem HSub.ofHpE (H : List Ar) : ∀ es : List Early, HSub H (hpE es (fun _ => none) H) := by
  intro es
  have dead : ∀ (H : List Ar) (k : Nat), HSub H (H.set k []) := by
    intro H
    induction H with
    | nil => intro k; exact .nil
    | cons x H ih =>
      intro k
      cases k with
      | zero => exact .dead (HSub.refl H)
      | succ k => exact .keep (ih k)
  have trans : ∀ {A B D : List Ar}, HSub A B → HSub B D → HSub A D := by
    intro A B D h1
    induction h1 generalizing D with
    | nil => exact fun h => h
    | dead h ih =>
      intro h2
      cases h2 with
      | dead h2 => exact .dead (ih h2)
      | keep h2 => exact .dead (ih h2)
    | keep h ih =>
      intro h2
      cases h2 with
      | dead h2 => exact .dead (ih h2)
      | keep h2 => exact .keep (ih h2)
  induction es generalizing H with
  | nil => exact HSub.refl H
  | cons e es ih => exact trans (dead H e.id) (ih _)

theorem Sub.refl' {F : Nat → Prop} {a : Act} {w : World} {H H' : List Ar} {fr : List (Nat × AV)} (hr : R C F ⟨fr, H⟩ a w) (h : HSub H H') : R C F ⟨fr, H'⟩ a w :=
  { hr with sat := ⟨hr.sat.old, fun hx => hr.sat.live (h.at' hx), fun hx hy => hr.sat.inj (h.at' hx) (h.at' hy)⟩ }

theorem R.frameJ {F : Nat → Prop} {a : Act} {w : World} {fr fr' : List (Nat × AV)} {H : List Ar} (hr : R C F ⟨fr, H⟩ a w) (h : ∀ t x, get fr' t = some x → x = .junk ∨ get fr t = some x) : R C F ⟨fr', H⟩ a w :=
  ⟨hr.size, hr.defers, fun t x hx => by
    rcases h t x hx with rfl | h
    · simp only [rel]
    · exact hr.fr t x h, hr.sat, hr.os, hr.tape, hr.output, hr.hsize, hr.block, hr.F0, hr.F1, hr.elder⟩

/-- All has come but the tail: what is known then. -/
theorem DrawE.fin (tl : List Nat) {ops : Array Oper} {L0 : List Nat} {H : List Ar} {fr0 : List (Nat × AV)} {es : List Early} {r : List Item} {ks : List Key} {ek : List EKey} (hk : keysR r = ks) (hek : es.map Early.key = ek) (hb : drawB0 ops L0 ks tl = true) (heb : earlyB ops ks ek = true)
    (k : ∀ ob : Got, (∀ e ∈ es, ∃ x l, ob e.i = some (x, l) ∧ e.fin x l) → ∀ F a w, R C F ⟨frE es ob (puts r fr0), hpE es ob H⟩ a w → ∀ fuel, tl.length ≤ fuel → wpAny P .any ops (NoPanic (lift C Q)) fuel (arr ops.size (L0 ++ ks.map (·.1))) a w) : DrawE C ops L0 H fr0 Q es r := by
  intro hs F a w hr fuel hf
  have hks : r.reverse.map Item.key = ks := by rw [← keysR_eq, hk]
  have ok := drawB_spec (its := r.reverse) (by rw [hks]; exact hb)
  have oe : EarlyOk ops r.reverse es := earlyB_spec (by rw [hks, hek]; exact heb)
  have hbase : r.reverse.map (·.i) = ks.map (·.1) := by rw [← hks, List.map_map]; rfl
  have hget : ∀ i, (arr ops.size L0).getD i false = true ↔ i ∈ L0 ∧ i < ops.size := by
    intro i
    by_cases hi : i < ops.size
    · rw [arr_getD false hi]
      simp [hi]
    · rw [Array.getD_eq_getD_getElem?, Array.getElem?_eq_none (by rw [arr_size]; omega)]
      simp [hi]
  have uniq : ∀ y ∈ r.reverse, ∀ z ∈ r.reverse, y.d = z.d → y = z := by
    intro y hy z hz hd
    obtain ⟨p, hp⟩ := List.mem_iff_getElem?.1 hy
    obtain ⟨q, hq⟩ := List.mem_iff_getElem?.1 hz
    rcases Nat.lt_trichotomy p q with h | h | h
    · exact absurd hd (ok.dist q p z y hq hp h).2
    · subst h; rw [hp] at hq; cases hq; rfl
    · exact absurd hd.symm (ok.dist p q y z hp hq h).2
  refine drawE_main (P := P) ok oe hs (fun a w ⟨F, fr, ob, hr, h0, h1, h2⟩ fuel hfl => ?_) fuel (arr ops.size L0) a w ⟨F, fr0, fun _ => none, Sub.refl' hr (HSub.ofHpE H es), fun e he hl => ?_, fun it hit hl => ?_, fun t x hx _ => hx⟩ ⟨arr_size _ _, fun i hi => (hget i).2 ⟨hi, (ok.L0c i hi).1⟩, fun t ht => ?_, fun i hi e he => ?_⟩ ?_
  · rw [hbase]
    refine k ob h0 F a w (hr.frameJ fun t x hx => ?_) fuel hfl
    rcases get_frE hx with ⟨e, he, rfl, rfl⟩ | ⟨h3, h4⟩
    · right
      obtain ⟨it, hit, hi, hd⟩ := oe.at' e he
      rw [← hd, h1 it hit (oe.noW (isE_iff.2 ⟨e, he, hi.symm⟩))]
      unfold valE
      rw [if_pos (isE_iff.2 ⟨e, he, hi.symm⟩), hi]
    · simp only [puts_eq] at h4
      rcases get_ends fr0 r t x h4 with ⟨it, hit, rfl, rfl⟩ | ⟨h5, h6⟩
      · have hit' : it ∈ r.reverse := by simpa using hit
        rcases hs it hit' with ⟨_, hnw, _⟩ | ⟨e, he, hei, hed, _⟩ | ⟨_, _, _, _, hx, _⟩
        rotate_left
        · exact absurd hed (h3 e he)
        · exact .inl hx
        right
        rw [h1 it hit' hnw]
        unfold valE
        have : isE es it.i = false := by
          cases hb : isE es it.i with
          | false => rfl
          | true =>
            obtain ⟨e, he, hi⟩ := isE_iff.1 hb
            obtain ⟨it2, hit2, hi2, hd2⟩ := oe.at' e he
            have : it2 = it := by
              obtain ⟨p, hp⟩ := List.mem_iff_getElem?.1 hit2
              obtain ⟨q, hq⟩ := List.mem_iff_getElem?.1 hit'
              rcases Nat.lt_trichotomy p q with h | h | h
              · exact absurd (hi2.trans hi) (ok.dist q p it it2 hq hp h).1
              · subst h; rw [hp] at hq; cases hq; rfl
              · exact absurd (hi2.trans hi).symm (ok.dist p q it2 it hp hq h).1
            subst this
            exact absurd hd2.symm (h3 e he)
        rw [this]
        rfl
      · exact .inr (h2 t x h6 fun it hit => h5 it (by simpa using hit))
  · obtain ⟨it, hit, hi, _⟩ := oe.at' e he
    exact absurd ((hget _).1 hl).1 (hi ▸ (ok.cl0 it hit).1)
  · exact absurd ((hget _).1 hl).1 (ok.cl0 it hit).1
  · cases hb : (arr ops.size L0).getD t false with
    | false => rfl
    | true => exact absurd ((hget t).1 hb).1 (ok.tl0 t ht).1
  · have h1 := ((hget i).1 hi).1
    have h2 := (ok.L0c i h1).2 e he
    exact (hget e).2 ⟨h2, (ok.L0c e h2).1⟩
  · have := List.length_filter_le (fun it : Item => !(arr ops.size L0).getD it.i false) r.reverse
    have := ok.few
    omega

theorem np_no {e : Exit} {a : Act} {w : World} (h : lift C (np Q) e a w) : NoPanic (lift C Q) e a w := by
  cases e with
  | panic c => obtain ⟨F, s, _, hq⟩ := h; exact hq.elim
  | _ => exact h
theorem DrawE.tail (tl : List Nat) {ops : Array Oper} {L0 : List Nat} {H : List Ar} {fr0 : List (Nat × AV)} {es : List Early} {r : List Item} {ks : List Key} {ek : List EKey} (hk : keysR r = ks) (hek : es.map Early.key = ek) (hb : drawB ops L0 ks tl = true) (heb : earlyB ops ks ek = true)
    (k : TailE (Run C ops tl (np Q)) es ⟨puts r fr0, H⟩) : DrawE C ops L0 H fr0 Q es r := by
  simp only [drawB, Bool.and_eq_true] at hb
  refine DrawE.fin tl hk hek hb.1 heb fun ob hob F a w hr fuel hfl => ?_
  have hlt : ∀ t ∈ tl, t < ops.size := fun t ht => by
    have h := hb.1
    simp only [drawB0, Bool.and_eq_true, List.all_eq_true] at h
    obtain ⟨⟨⟨⟨⟨⟨⟨_, h2⟩, _⟩, _⟩, _⟩, _⟩, _⟩, _⟩ := h
    exact Nat.blt_eq.mp (h2 t ht).2
  have ht := tail_any (P := P) (Q2 := NoPanic (lift C Q)) hb.2 hlt fuel 0 a w (by omega) (by omega)
  rw [List.take_zero, List.append_nil, List.drop_zero] at ht
  exact ht (wpOps_mono (fun _ _ _ => np_no) tl a w (k.at hob F a w hr))

/-- A new variable | with the write of its first value. -/
def alloc0E (i d id : Nat) (zs : List AV) : Early := ⟨i, d, id, fun x l => ∃ b, x = .adr id b 0 ∧ l = [(b, zs)], none, fun _ _ => True⟩
def allocE (i d id i2 : Nat) (zs : List AV) {vs : List AV} : Early := ⟨i, d, id, fun x l => ∃ b, x = .adr id b 0 ∧ l = [(b, zs)], some i2, fun x l => ∃ b, x = .adr id b 0 ∧ l = [(b, vs)]⟩
/-- An empty list. -/
def emptyE (i d id m : Nat) : Early := ⟨i, d, id, fun x l => ∃ b, x = .own id b m 0 0 0 false ∧ l = [(b, [])], none, fun _ _ => True⟩

/-- Slots that are read no more are forgotten; the places are written out. -/
theorem WP.trim {c : Code} {fr' : List (Nat × AV)} {H' : List Ar} (k : WP C c Q ⟨fr', H'⟩) (h : Sub s.fr fr') (hH : s.hp = H') : WP C c Q s := WP.keep k h (by rw [hH]; exact HSub.refl _)

theorem LP.trim {c : Code} {fr' : List (Nat × AV)} {H' : List Ar} (k : LP C c Q ⟨fr', H'⟩) (h : Sub s.fr fr') (hH : s.hp = H') : LP C c Q s := LP.keep k h (by rw [hH]; exact HSub.refl _)

/-! ### others that come in more than one order -/
def RunT (C : Cx P n) (ops : Array Oper) (Q : Post) : Nat → Array Bool → St → Prop
  | 0, listed, s => Region.ready .any ops listed = [] ∧ Q .normal s
  | f + 1, listed, s => (Region.ready .any ops listed = [] → Q .normal s) ∧ ∀ i ∈ Region.ready .any ops listed, Run C ops [i] (after (RunT C ops Q f (listed.setIfInBounds i true)) Q) s
theorem wpOp_then {ops : Array Oper} {i : Nat} {next : St → Prop} {K : Act → World → Prop} {a : Act} {w : World}
    (hh : wpOp P ops (lift C (after next Q)) i (wpOps P ops (lift C (after next Q)) []) a w) (hk : ∀ a' w', lift C (after next Q) .normal a' w' → K a' w') : wpOp P ops (lift C Q) i K a w := by
  unfold wpOp at hh ⊢
  split at hh
  · exact hk _ _ hh
  · rename_i o ho
    split at hh
    · rename_i hw
      simp only [hw, if_true]
      rcases hh with h1 | ⟨h1, a0, w0, F0, s0, h2, hq⟩
      · refine .inl ?_
        have h2 := Oper.wp_mono (K' := K) (fun a' w' h => hk a' w' h) h1
        unfold Oper.wp at h2 ⊢
        generalize (execOp a.eval o).run P w = r at h2 ⊢
        cases r with
        | ok nx w' =>
          cases nx <;> simp only [Oper.upon] at h2 ⊢ <;> first
            | exact h2
            | exact Calls.mono h2 (fun e w'' he => by
                cases e with
                | returned v => exact he
                | panicked c => exact he
                | outgrown => exact he)
        | halt hh w' =>
          cases hh <;> simp only [Oper.upon] at h2 ⊢
          all_goals exact h2
      · exact .inr ⟨h1, a0, w0, F0, s0, h2, hq⟩
    · rename_i hw
      simp only [hw]
      exact hk _ _ hh
theorem RunT.any {ops : Array Oper} : ∀ (f : Nat) (listed : Array Bool) (s : St) (F : Nat → Prop) (a : Act) (w : World), R C F s a w → RunT C ops Q f listed s → wpAny P .any ops (lift C Q) f listed a w
  | 0, listed, s, F, a, w, hr, h => ⟨h.1, F, s, hr, h.2⟩
  | f + 1, listed, s, F, a, w, hr, h => ⟨fun h0 => ⟨F, s, hr, h.1 h0⟩, fun i hi => by
    have h1 := h.2 i hi F a w hr
    rw [wpOps_cons] at h1
    exact wpOp_then h1 fun a' w' ⟨F', s', hr', hn⟩ => RunT.any f _ s' F' a' w' hr' hn⟩
theorem wpAny_mono {ops : Array Oper} {Q1 Q2 : Exit → Act → World → Prop} (hq : ∀ e a w, Q1 e a w → Q2 e a w) : ∀ (f : Nat) (listed : Array Bool) (a : Act) (w : World), wpAny P .any ops Q1 f listed a w → wpAny P .any ops Q2 f listed a w
  | 0, _, a, w, h => ⟨h.1, hq _ _ _ h.2⟩
  | f + 1, listed, a, w, h => ⟨fun h0 => hq _ _ _ (h.1 h0), fun i hi => by
    have h1 := h.2 i hi
    unfold wpOp at h1 ⊢
    split at h1
    · exact wpAny_mono hq f _ _ _ h1
    · rename_i o ho
      split at h1
      · rename_i hw
        simp only [hw, if_true]
        rcases h1 with h1 | ⟨h1, a0, w0, h2⟩
        · refine .inl ?_
          have h2 := Oper.wp_mono (K' := wpAny P .any ops Q2 f (listed.setIfInBounds i true)) (fun a' w' h => wpAny_mono hq f _ a' w' h) h1
          unfold Oper.wp at h2 ⊢
          generalize (execOp a.eval o).run P w = r at h2 ⊢
          cases r with
          | ok nx w' =>
            cases nx <;> simp only [Oper.upon] at h2 ⊢ <;> first
              | exact h2
              | exact Calls.mono h2 (fun e w'' he => by
                  cases e with
                  | returned v => exact he
                  | panicked c => exact hq _ _ _ he
                  | outgrown => obtain ⟨a1, w1, he⟩ := he; exact ⟨a1, w1, hq _ _ _ he⟩)
          | halt hh w' =>
            cases hh <;> simp only [Oper.upon] at h2 ⊢
            all_goals first
              | exact h2
              | exact hq _ _ _ h2
        · exact .inr ⟨h1, a0, w0, hq _ _ _ h2⟩
      · rename_i hw
        simp only [hw]
        exact wpAny_mono hq f _ _ _ h1⟩

/-- The others, in each order in which they may come. -/
theorem DrawE.tree (tl : List Nat) (N : Nat) {ops : Array Oper} {L0 : List Nat} {H : List Ar} {fr0 : List (Nat × AV)} {es : List Early} {r : List Item} {ks : List Key} {ek : List EKey} (hk : keysR r = ks) (hek : es.map Early.key = ek) (hb : drawB0 ops L0 ks tl = true) (heb : earlyB ops ks ek = true) (hN : tl.length = N)
    (k : TailE (fun s => ∀ f, RunT C ops (np Q) (f + N) (arr ops.size (L0 ++ ks.map (·.1))) s) es ⟨puts r fr0, H⟩) : DrawE C ops L0 H fr0 Q es r := by
  refine DrawE.fin tl hk hek hb heb fun ob hob F a w hr fuel hfl => ?_
  subst hN
  obtain ⟨f, rfl⟩ := Nat.exists_eq_add_of_le' hfl
  exact wpAny_mono (fun _ _ _ => np_no) _ _ a w (RunT.any _ _ _ F a w hr (k.at hob f))

section tree
variable {ops : Array Oper} {f : Nat} {listed : Array Bool}
theorem RunT.done (hr : Region.ready .any ops listed = []) (h : Q .normal s) : RunT C ops Q f listed s := by
  cases f with
  | zero => exact ⟨hr, h⟩
  | succ f => exact ⟨fun _ => h, fun i hi => by rw [hr] at hi; cases hi⟩
theorem RunT.one (i : Nat) (hr : Region.ready .any ops listed = [i]) (k : Run C ops [i] (after (RunT C ops Q f (listed.setIfInBounds i true)) Q) s) : RunT C ops Q (f + 1) listed s :=
  ⟨fun h => (by rw [hr] at h; cases h), fun j hj => by
    rw [hr] at hj
    simp only [List.mem_singleton] at hj
    subst hj
    exact k⟩
theorem RunT.two (i j : Nat) (hr : Region.ready .any ops listed = [i, j]) (k1 : Run C ops [i] (after (RunT C ops Q f (listed.setIfInBounds i true)) Q) s) (k2 : Run C ops [j] (after (RunT C ops Q f (listed.setIfInBounds j true)) Q) s) : RunT C ops Q (f + 1) listed s :=
  ⟨fun h => (by rw [hr] at h; cases h), fun x hx => by
    rw [hr] at hx
    simp only [List.mem_cons, List.not_mem_nil, or_false] at hx
    rcases hx with rfl | rfl
    · exact k1
    · exact k2⟩
theorem RunT.three (i j l : Nat) (hr : Region.ready .any ops listed = [i, j, l]) (k1 : Run C ops [i] (after (RunT C ops Q f (listed.setIfInBounds i true)) Q) s) (k2 : Run C ops [j] (after (RunT C ops Q f (listed.setIfInBounds j true)) Q) s)
    (k3 : Run C ops [l] (after (RunT C ops Q f (listed.setIfInBounds l true)) Q) s) : RunT C ops Q (f + 1) listed s :=
  ⟨fun h => (by rw [hr] at h; cases h), fun x hx => by
    rw [hr] at hx
    simp only [List.mem_cons, List.not_mem_nil, or_false] at hx
    rcases hx with rfl | rfl | rfl
    · exact k1
    · exact k2
    · exact k3⟩
/-- All orders come to one state. -/
theorem RunT.cut1 {S : Nat → St} (h : (∀ x, Q .normal (S x)) → RunT C ops Q f listed s) (main : ∀ x, Q .normal (S x)) : RunT C ops Q f listed s := h main
theorem RunT.cut2 {S : Nat → Nat → St} (h : (∀ x y, Q .normal (S x y)) → RunT C ops Q f listed s) (main : ∀ x y, Q .normal (S x y)) : RunT C ops Q f listed s := h main
theorem RunT.cut3 {S : Nat → Nat → Nat → St} (h : (∀ x y z, Q .normal (S x y z)) → RunT C ops Q f listed s) (main : ∀ x y z, Q .normal (S x y z)) : RunT C ops Q f listed s := h main
theorem RunT.cut {s1 : St} (h : Q .normal s1 → RunT C ops Q f listed s) (main : Q .normal s1) : RunT C ops Q f listed s := h main
end tree
end
end Go.Ab
/- From what a row's arguments read as to the values of a walk; from a contract to a law's row. -/
namespace Go.Ab
open Go.RowKit (Below)
open Go.ChangeShapes Go.WideShapes Go.ChangeAt

/-- A type that is read: an integer, an array, a slice; m cells an element. -/
inductive Ds where
  | int (k : IntKind)
  | arr (n m : Nat) (d : Ds)
  | sl (m : Nat) (d : Ds)
def Ds.ok (P : Program) : Ds → TypeId → Bool
  | .int k, t => match P.underlying t with
    | some (.int k') => k' == k
    | _ => false
  | .arr n m d, t => match P.underlying t with
    | some (.array n' e) => n' == n && P.cellsOf e == m && P.cellsOf t == n * m && d.ok P e
    | _ => false
  | .sl m d, t => match P.underlying t with
    | some (.slice e) => P.cellsOf e == m && Nat.blt 0 m && d.ok P e
    | _ => false
def Ds.is : Ds → List AV → Prop
  | .int k, xs => ∃ n, xs = [.int k n] ∧ (Lit.int k n).wf = true
  | .arr n m d, xs => ∃ ps : List (List AV), ps.length = n ∧ (∀ p ∈ ps, d.is p ∧ p.length = m) ∧ xs = ps.flatten
  | .sl m d, xs => ∃ ps : List (List AV), ps.length ≤ maxLen ∧ (∀ p ∈ ps, d.is p ∧ p.length = m) ∧ xs = [.imm ps.flatten ps.length]

theorem list_of {Q : Nat → List AV → Prop} : ∀ {n : Nat}, (∀ i, i < n → ∃ p, Q i p) → ∃ ps : List (List AV), ps.length = n ∧ ∀ i p, ps[i]? = some p → Q i p
  | 0, _ => ⟨[], rfl, fun i p h => by simp at h⟩
  | n + 1, h => by
    obtain ⟨ps, h1, h2⟩ := list_of (n := n) fun i hi => h i (by omega)
    obtain ⟨p, hp⟩ := h n (by omega)
    refine ⟨ps ++ [p], by simp [h1], fun i q hq => ?_⟩
    by_cases hi : i < n
    · rw [List.getElem?_append_left (by omega)] at hq
      exact h2 i q hq
    · rw [List.getElem?_append_right (by omega)] at hq
      have : i - ps.length = 0 := by
        rcases Nat.eq_zero_or_pos (i - ps.length) with h | h
        · exact h
        · rw [List.getElem?_eq_none (by simp; omega)] at hq; cases hq
      rw [this] at hq
      simp at hq
      subst hq
      have : i = n := by omega
      subst this
      exact hp

theorem relP_flatten {F : Nat → Prop} {w : World} {m : Nat} : ∀ {ps : List (List AV)} {L : List Value}, (∀ p ∈ ps, p.length = m) → (∀ i p, ps[i]? = some p → relL F w p ((L.drop (i * m)).take m)) → relP F w ps.flatten L
  | [], _, _, _ => by simp [relP]
  | p :: ps, L, hm, h => by
    have h0 := h 0 p (by simp)
    simp only [Nat.zero_mul, List.drop_zero] at h0
    rw [List.flatten_cons]
    have := relP_flatten (ps := ps) (L := L.drop m) (fun q hq => hm q (by simp [hq])) fun i q hq => by
      have := h (i + 1) q (by simpa using hq)
      rw [List.drop_drop]
      rwa [Nat.add_mul, Nat.one_mul, Nat.add_comm] at this
    have h2 := relP_append h0 this
    rwa [List.take_append_drop] at h2
theorem relL_of_relP {F : Nat → Prop} {w : World} : ∀ {xs : List AV} {vs : List Value}, relP F w xs vs → vs.length = xs.length → relL F w xs vs
  | [], vs, _, h => by simp only [relL]; exact List.length_eq_zero_iff.1 (by simpa using h)
  | x :: xs, _, h, hl => by
    simp only [relP] at h
    obtain ⟨v, r, rfl, h1, h2⟩ := h
    simp only [relL]
    exact ⟨v, r, rfl, h1, relL_of_relP h2 (by simpa using hl)⟩
theorem flatten_length {m : Nat} : ∀ {ps : List (List AV)}, (∀ p ∈ ps, p.length = m) → ps.flatten.length = ps.length * m
  | [], _ => by simp
  | p :: ps, h => by
    rw [List.flatten_cons, List.length_append, h p (by simp), flatten_length fun q hq => h q (by simp [hq]), List.length_cons, Nat.add_mul, Nat.one_mul, Nat.add_comm]

section
variable {H : Type} {enc : TypeId × Value → H} {P : Program} {w : World}
theorem trod_rel : ∀ (d : Ds) (t : TypeId) (fuel : Nat) (cs : List Value) (x : DataW H × List MemPlace), d.ok P t = true → DataW.trod enc P w 0 (fun _ => true) true fuel t cs = some x →
    ∃ xs, d.is xs ∧ relL (fun b => b < w.heap.size) w xs cs
  | .int k, t, fuel, cs, x, hd, h => by
    unfold Ds.ok at hd
    split at hd
    · rename_i k' ht
      have : k' = k := by simpa using hd
      subst this
      obtain ⟨n, rfl, _, hw⟩ := DataW.trod_int ht h
      exact ⟨[.int k' n], ⟨n, rfl, hw⟩, by simp only [relL]; exact ⟨_, [], rfl, by simp [rel], rfl⟩⟩
    · cases hd
  | .arr n m d, t, fuel, cs, x, hd, h => by
    unfold Ds.ok at hd
    split at hd
    · rename_i n' e ht
      simp only [Bool.and_eq_true, beq_iff_eq] at hd
      obtain ⟨⟨⟨rfl, rfl⟩, hct⟩, hd⟩ := hd
      obtain ⟨xs, fu, rfl, rfl, hl, hxl, hx⟩ := DataW.trod_array ht h
      have key : ∀ i, i < n' → ∃ p, (d.is p ∧ p.length = P.cellsOf e) ∧ relL (fun b => b < w.heap.size) w p ((cs.drop (i * P.cellsOf e)).take (P.cellsOf e)) := by
        intro i hi
        have h1 := hx i hi
        rw [List.getElem?_eq_getElem (by omega)] at h1
        obtain ⟨p, hp, hr⟩ := trod_rel d e fu _ _ hd h1
        refine ⟨p, ⟨hp, ?_⟩, hr⟩
        have h2 := relL_len hr
        rw [← h2, List.length_take, List.length_drop, hl, hct]
        have : (i + 1) * P.cellsOf e ≤ n' * P.cellsOf e := Nat.mul_le_mul_right _ hi
        rw [Nat.add_mul, Nat.one_mul] at this
        omega
      obtain ⟨ps, hpl, hps⟩ := list_of key
      have hall : ∀ p ∈ ps, d.is p ∧ p.length = P.cellsOf e := fun p hp => by
        obtain ⟨i, hi⟩ := List.getElem?_of_mem hp
        exact (hps i p hi).1
      refine ⟨ps.flatten, ⟨ps, hpl, hall, rfl⟩, relL_of_relP (relP_flatten (fun p hp => (hall p hp).2) fun i p hp => (hps i p hp).2) ?_⟩
      rw [hl, hct, flatten_length fun p hp => (hall p hp).2, hpl]
    · cases hd
  | .sl m d, t, fuel, cs, x, hd, h => by
    unfold Ds.ok at hd
    split at hd
    · rename_i e ht
      simp only [Bool.and_eq_true, beq_iff_eq] at hd
      obtain ⟨⟨rfl, hm⟩, hd⟩ := hd
      have hm := Nat.blt_eq.mp hm
      rcases DataW.trod_slice ht h with ⟨rfl, _⟩ | ⟨a, len, cap, elems, rest, fu, rfl, rfl, _, _, hlc, hcm, hel, hx, _⟩
      · exact ⟨[.imm [] 0], ⟨[], by simp, (fun p hp => by cases hp), rfl⟩, by simp only [relL]; exact ⟨_, [], rfl, by simp only [rel]; exact ⟨none, 0, rfl, Nat.le_refl _, fun h => absurd h (Nat.lt_irrefl _)⟩, rfl⟩⟩
      · have cell : ∀ i, i < len → ∃ ci, w.cells? 0 (a.add (i * P.cellsOf e)) (P.cellsOf e) = some ci ∧ ∃ y, DataW.trod enc P w 0 (fun _ => true) true fu e ci = some y := by
          intro i hi
          have h1 := hx i hi
          rw [List.getElem?_eq_getElem (by omega)] at h1
          obtain ⟨ci, h2, h3⟩ := Option.bind_eq_some_iff.1 h1
          exact ⟨ci, h2, _, h3⟩
        -- the row that the elements lie in
        have row : 0 < len → ∃ arr e' fz, w.heap[a.block]? = some (.cells arr e' fz) ∧ a.spot = none := by
          intro h0
          obtain ⟨ci, hc, _⟩ := cell 0 h0
          obtain ⟨_, hcl, hcc⟩ := World.cells?_some hc
          have h1 := hcc 0 hm
          rw [List.getElem?_eq_getElem (by omega)] at h1
          simp only [Nat.zero_mul, Addr.add, if_true] at h1
          unfold World.cell? at h1
          split at h1
          · rename_i c e' fz hh
            split at h1
            · cases h1
            · rename_i hs
              exact ⟨c, e', fz, hh, by simpa using hs⟩
          · cases h1
        rcases Nat.eq_zero_or_pos len with h0 | h0
        · subst h0
          exact ⟨[.imm [] 0], ⟨[], by simp, (fun p hp => by cases hp), rfl⟩, by simp only [relL]; exact ⟨_, [], rfl, by simp only [rel]; exact ⟨some a, cap, rfl, hlc, fun h => absurd h (Nat.lt_irrefl _)⟩, rfl⟩⟩
        · obtain ⟨arr, e', fz, hh, hs⟩ := row h0
          obtain ⟨b, o, sp⟩ := a
          simp only at hs hh
          subst hs
          have key : ∀ i, i < len → ∃ p, (d.is p ∧ p.length = P.cellsOf e) ∧ relL (fun b => b < w.heap.size) w p (((arr.toList.drop o).drop (i * P.cellsOf e)).take (P.cellsOf e)) := by
            intro i hi
            obtain ⟨ci, hc, y, hy⟩ := cell i hi
            obtain ⟨_, hcl, hcc⟩ := World.cells?_some hc
            obtain ⟨p, hp, hr⟩ := trod_rel d e fu _ _ hd hy
            have e1 : ((arr.toList.drop o).drop (i * P.cellsOf e)).take (P.cellsOf e) = ci := by
              apply List.ext_getElem?
              intro j
              rw [List.getElem?_take, List.getElem?_drop, List.getElem?_drop]
              by_cases hj : j < P.cellsOf e
              · rw [if_pos hj, ← hcc j hj, addr_add, addr_add]
                simp only [World.cell?, hh, Option.isSome_none, Bool.false_eq_true, if_false, Array.getElem?_toList]
                rw [Nat.add_assoc]
              · rw [if_neg hj, List.getElem?_eq_none (by omega)]
            exact ⟨p, ⟨hp, by rw [← relL_len hr, hcl]⟩, by rw [e1]; exact hr⟩
          obtain ⟨ps, hpl, hps⟩ := list_of key
          have hall : ∀ p ∈ ps, d.is p ∧ p.length = P.cellsOf e := fun p hp => by
            obtain ⟨i, hi⟩ := List.getElem?_of_mem hp
            exact (hps i p hi).1
          refine ⟨[.imm ps.flatten ps.length], ⟨ps, by omega, hall, rfl⟩, ?_⟩
          simp only [relL]
          refine ⟨_, [], rfl, ?_, rfl⟩
          simp only [rel]
          rw [hpl]
          exact ⟨_, cap, rfl, hlc, fun _ => ⟨b, o, arr, e', fz, rfl, lt_of_heap hh, hh, relP_flatten (fun p hp => (hall p hp).2) fun i p hp => (hps i p hp).2⟩⟩
    · cases hd

/-- The value of a parameter that reads so. -/
def Ds.val : Ds → AV → Prop
  | .arr n m d, x => ∃ xs, x = .agg xs ∧ (Ds.arr n m d).is xs
  | d, x => d.is [x]
theorem trod_val {d : Ds} {t : TypeId} {v : Value} {y : DataW H} {ps : List MemPlace} (hd : d.ok P t = true) (hv : Value.okWide P w .any 0 t v) (h : DataW.Trod enc P w 0 (fun _ => true) true t v y ps) :
    ∃ x, d.val x ∧ rel (fun b => b < w.heap.size) w x v := by
  obtain ⟨fuel, hf⟩ := h
  obtain ⟨xs, hi, hr⟩ := trod_rel d t fuel _ _ hd hf
  have one : (∀ cs, v ≠ .agg cs) → v.cells.toList = [v] := by
    intro hne
    cases v <;> first | rfl | exact absurd rfl (hne _)
  cases d with
  | int k =>
    unfold Ds.ok at hd
    split at hd
    · rename_i k' ht
      have : k' = k := by simpa using hd
      subst this
      obtain ⟨n, rfl⟩ := okWide_int ht hv
      obtain ⟨m, rfl, hw⟩ := hi
      simp only [Value.cells, relL] at hr
      obtain ⟨u, r, hu, hru, rfl⟩ := hr
      simp at hu
      subst hu
      exact ⟨_, ⟨m, rfl, hw⟩, hru⟩
    · cases hd
  | arr n m d =>
    unfold Ds.ok at hd
    split at hd
    · rename_i n' e ht
      unfold Value.okWide at hv
      rw [ht] at hv
      simp only at hv
      obtain ⟨cs, rfl, _⟩ := hv
      exact ⟨.agg xs, ⟨xs, rfl, hi⟩, by simp only [rel]; exact ⟨cs, rfl, hr⟩⟩
    · cases hd
  | sl m d =>
    unfold Ds.ok at hd
    split at hd
    · rename_i e ht
      have hne : ∀ cs, v ≠ .agg cs := by
        rintro cs rfl
        unfold Value.okWide at hv
        rw [ht] at hv
        simp [Cell.okWide, Cell.ok, ht] at hv
      rw [one hne] at hr
      obtain ⟨qs, h1, h2, rfl⟩ := hi
      simp only [relL] at hr
      obtain ⟨u, r, hu, hru, rfl⟩ := hr
      simp at hu
      subst hu
      exact ⟨_, ⟨qs, h1, h2, rfl⟩, hru⟩
    · cases hd

/-- All parameters. -/
inductive Vals : List Ds → List AV → Prop where
  | nil : Vals [] []
  | cons {d : Ds} {ds : List Ds} {x : AV} {xs : List AV} (h : d.val x) (hs : Vals ds xs) : Vals (d :: ds) (x :: xs)
theorem Vals.one {d : Ds} {xs : List AV} (h : Vals [d] xs) : ∃ x, xs = [x] ∧ d.val x := by
  cases h with
  | cons h0 h =>
    cases h
    exact ⟨_, rfl, h0⟩
theorem Vals.two {d e : Ds} {xs : List AV} (h : Vals [d, e] xs) : ∃ x y, xs = [x, y] ∧ d.val x ∧ e.val y := by
  cases h with
  | cons h0 h =>
    obtain ⟨y, rfl, h1⟩ := h.one
    exact ⟨_, y, rfl, h0, h1⟩
theorem Vals.three {d e f : Ds} {xs : List AV} (h : Vals [d, e, f] xs) : ∃ x y z, xs = [x, y, z] ∧ d.val x ∧ e.val y ∧ f.val z := by
  cases h with
  | cons h0 h =>
    obtain ⟨y, z, rfl, h1, h2⟩ := h.two
    exact ⟨_, y, z, rfl, h0, h1, h2⟩
theorem Vals.four {d e f g : Ds} {xs : List AV} (h : Vals [d, e, f, g] xs) : ∃ x y z u, xs = [x, y, z, u] ∧ d.val x ∧ e.val y ∧ f.val z ∧ g.val u := by
  cases h with
  | cons h0 h =>
    obtain ⟨y, z, u, rfl, h1, h2, h3⟩ := h.three
    exact ⟨_, y, z, u, rfl, h0, h1, h2, h3⟩
theorem trod_vals : ∀ {ds : List Ds} {ts : List TypeId} {vs : List Value} {ys : List (DataW H)} {ps : List MemPlace}, ds.length = ts.length → (∀ (j : Nat) d t, ds[j]? = some d → ts[j]? = some t → d.ok P t = true) →
    (∀ (j : Nat) t v, ts[j]? = some t → vs[j]? = some v → Value.okWide P w .any 0 t v) → DataW.TrodAll enc P w 0 (fun _ => true) true ts vs ys ps → ∃ xs, Vals ds xs ∧ relL (fun b => b < w.heap.size) w xs vs
  | [], [], vs, ys, ps, _, _, _, h => by
    obtain ⟨rfl, _, _⟩ := trodAll_nil h
    exact ⟨[], .nil, by simp [relL]⟩
  | d :: ds, t :: ts, vs, ys, ps, hl, hd, hv, h => by
    obtain ⟨v, vs, y, ys, p, q, rfl, rfl, rfl, h1, h2⟩ := trodAll_cons h
    obtain ⟨x, hx, hr⟩ := trod_val (hd 0 d t rfl rfl) (hv 0 t v rfl rfl) h1
    obtain ⟨xs, hxs, hrs⟩ := trod_vals (ds := ds) (ts := ts) (by simpa using hl) (fun j d t h1 h2 => hd (j + 1) d t (by simpa using h1) (by simpa using h2)) (fun j t v h1 h2 => hv (j + 1) t v (by simpa using h1) (by simpa using h2)) h2
    exact ⟨x :: xs, .cons hx hxs, by simp only [relL]; exact ⟨v, vs, rfl, hr, hrs⟩⟩
  | [], _ :: _, _, _, _, hl, _, _, _ => by simp at hl
  | _ :: _, [], _, _, _, hl, _, _, _ => by simp at hl

theorem trodAll_below {W' : World} (hl : laidOutB P = true) : ∀ {ts : List TypeId} {vs : List Value} {ys : List (DataW H)} {ps : List MemPlace}, ts.all (fun t => P.readableRec t && Nat.blt t P.types.size) = true →
    DataW.TrodAll enc P w 0 (fun _ => true) true ts vs ys ps → Below w.heap.size w W' → (∀ x ∈ ps, x.block < w.heap.size) → DataW.TrodAll enc P W' 0 (fun b => decide (b < w.heap.size)) true ts vs ys ps
  | [], _, _, _, _, h, _, _ => by
    obtain ⟨rfl, rfl, rfl⟩ := trodAll_nil h
    exact trodAll_mk0
  | t :: ts, _, _, _, ht, h, hb, hlt => by
    obtain ⟨v, vs, y, ys, p, q, rfl, rfl, rfl, h1, h2⟩ := trodAll_cons h
    simp only [List.all_cons, Bool.and_eq_true] at ht
    exact trodAll_cons_mk (Below.trod hl ht.1.1 (Nat.blt_eq.mp ht.1.2) h1 hb fun x hx => hlt x (by simp [hx])) (trodAll_below hl (by simpa using ht.2) h2 hb fun x hx => hlt x (by simp [hx]))

theorem trodAll_len : ∀ {ts : List TypeId} {vs : List Value} {ys : List (DataW H)} {ps : List MemPlace}, DataW.TrodAll enc P w 0 (fun _ => true) true ts vs ys ps → ys.length = ts.length
  | [], _, _, _, h => by obtain ⟨_, rfl, _⟩ := trodAll_nil h; rfl
  | t :: ts, _, _, _, h => by
    obtain ⟨v, vs, y, ys, p, q, _, rfl, _, _, h2⟩ := trodAll_cons h
    simp [trodAll_len h2]

def okAll (P : Program) : List Ds → List TypeId → Bool
  | [], [] => true
  | d :: ds, t :: ts => d.ok P t && okAll P ds ts
  | _, _ => false
theorem okAll_spec : ∀ {ds : List Ds} {ts : List TypeId}, okAll P ds ts = true → ds.length = ts.length ∧ ∀ (j : Nat) d t, ds[j]? = some d → ts[j]? = some t → d.ok P t = true
  | [], [], _ => ⟨rfl, fun j d t h => by simp at h⟩
  | d :: ds, t :: ts, h => by
    simp only [okAll, Bool.and_eq_true] at h
    obtain ⟨h1, h2⟩ := okAll_spec h.2
    refine ⟨by simp [h1], fun j d' t' k1 k2 => ?_⟩
    cases j with
    | zero => simp at k1 k2; subst k1 k2; exact h.1
    | succ j => exact h2 j d' t' (by simpa using k1) (by simpa using k2)
  | [], _ :: _, h => by cases h
  | _ :: _, [], h => by cases h

/-- A law's row: where the function's contract says true for whatever the arguments read as, they read behind the call as before. -/
theorem law_post {f : Func} {rt : TypeId} {s : ChangeSpec} {k : FuncId} {apart fresh handsOn : Bool} {W : World} {args : Array Value} {ys gs : List (DataW H)} {before : List MemPlace} (shape : List Ds)
    (hl : laidOutB P = true) (hokB : okAll P shape f.params.toList = true) (hread : f.params.toList.all (fun t => P.readableRec t && Nat.blt t P.types.size) = true)
    (hvars : s.vars = []) (hres : f.resultTypes.toList = [rt]) (hrt : P.underlying rt = some .bool) (hspec0 : ∀ ys : List (DataW H), ys.length = shape.length → s.fn H ys = { results := [.lit (.bool true)], args := ys })
    (hval : ∀ (j : Nat) t v, f.params[j]? = some t → args[j]? = some v → Value.okWide P W .any 0 t v)
    (hW : DataW.Whole enc P f.params.toList s.vars apart W args.toList ys gs before) (hlaw : ∀ xs, Vals shape xs → Pure P k xs (.bool true)) :
    Calls P k args W fun e W' => ∃ v, e = .returned v ∧ s.post enc P f apart fresh handsOn false W args v W' := by
  obtain ⟨hshape, hok⟩ := okAll_spec hokB
  have hW' := hW
  obtain ⟨p, q, hA, hV, rfl, hfz, hnd⟩ := hW
  rw [hvars] at hV
  obtain ⟨rfl, rfl⟩ := trodVars_none hV
  have hspec := hspec0 ys (by rw [hshape, trodAll_len hA])
  obtain ⟨xs, hxs, hrel⟩ := trod_vals hshape hok (fun j t v h1 h2 => hval j t v (by simpa using h1) (by simpa using h2)) hA
  refine ((hlaw xs hxs).2 _ W args (fun b h => h) hrel).mono ?_
  rintro e W' ⟨v, F', rfl, hb, _, _, _, hv⟩
  simp only [rel] at hv
  subst hv
  have hlt : ∀ x ∈ p ++ [], x.block < W.heap.size := fun x hx => hW'.lt x hx
  have hold : ∀ x ∈ p ++ [], (fun b => decide (b < W.heap.size)) x.block = true := fun x hx => by simpa using hlt x hx
  refine ⟨_, rfl, ys, [], p ++ [], [], p, [], hW', ?_, ?_, ?_, hb.frame _, fun h => by cases h⟩
  · rw [List.append_nil, hspec, hres]
    have hsz : f.resultTypes.size = 1 := by have := congrArg List.length hres; simpa using this
    rw [hsz]
    exact trodAll_cons_mk (Go.RowKit.shut_bool hrt _) trodAll_mk0
  · rw [List.append_nil, hspec]
    exact trodAll_below hl hread hA hb fun x hx => hlt x (by simp [hx])
  · rw [hvars]
    rw [List.append_nil, hspec]
    exact rfl
end
end Go.Ab
/- Maps with keys of integers or arrays of integers; equality of arrays; a slice of a snapshot's array; a slice as an array; append of a make; max, min, cap. -/
namespace Go.Ab
open Go.RowKit (Below)
section
variable {P : Program} {n : Nat} {C : Cx P n} {Q : Post} {s : St}

/-! ### equality of integers and of arrays of them -/
def Ds.cells : Ds → Nat
  | .int _ => 1
  | .arr n m _ => n * m
  | .sl .. => 1
def Ds.depth : Ds → Nat
  | .int _ => 1
  | .arr _ _ d => d.depth + 1
  | .sl .. => 1
/-- A type of i64 integers, or of arrays of such. -/
def keyB (P : Program) : Ds → TypeId → Bool
  | .int _, t => match P.underlying t with
    | some (.int .i64) => true
    | _ => false
  | .arr n m d, t => match P.underlying t with
    | some (.array n' e) => n' == n && P.cellsOf e == m && (P.info? e).isSome && d.cells == m && keyB P d e
    | _ => false
  | .sl .., _ => false
def Ds.value : Ds → List Int → Value
  | .arr .., l => .agg (l.map (.int .i64)).toArray
  | _, l => .int .i64 (l.getD 0 0)
def Ds.key : Ds → List Int → AV
  | .arr .., l => .agg (l.map (.int .i64))
  | _, l => .int .i64 (l.getD 0 0)

theorem run_part_ints (w : World) {d : Ds} {e : TypeId} (hk : keyB P d e = true) (hi : (P.info? e).isSome = true) (hc : P.cellsOf e = d.cells) {l : List Int} {off : Nat} (h : off + d.cells ≤ l.length) :
    (part e (l.map (Value.int .i64)).toArray off).run P w = .ok (d.value ((l.drop off).take d.cells)) w := by
  obtain ⟨i, hi⟩ := Option.isSome_iff_exists.1 hi
  cases d with
  | int k =>
    unfold keyB at hk
    split at hk
    · rename_i hu
      have hx : (l.map (Value.int .i64)).toArray[off]? = some (.int .i64 ((l.drop off).getD 0 0)) := by
        simp only [Ds.cells] at h
        have hlt : off < l.length := by omega
        simp [hlt]
      rw [run_part_plain w (by simp [Program.plainKey, hu]) hx]
      simp only [Ds.value, Ds.cells]
      congr 2
      simp only [Ds.cells] at h
      cases hd : l.drop off with
      | nil => rfl
      | cons a r => rfl
    · cases hk
  | arr n m d =>
    unfold keyB at hk
    split at hk
    · rename_i n' e' hu
      simp only [part, Sem.run_bind, isAgg, run_underlying hu, Sem.run_pure, Result.andThen_ok, if_true, run_sizeOf w hi, hc, Ds.value, Ds.cells]
      congr 2
      apply Array.ext'
      rw [Array.toList_extract]
      simp [List.extract, List.map_drop, List.map_take]
    · cases hk
  | sl m d => unfold keyB at hk; cases hk

theorem all_chunks {m : Nat} : ∀ {n : Nat} {l1 l2 : List Int}, l1.length = n * m → l2.length = n * m → ((List.range n).all fun i => decide ((l1.drop (i * m)).take m = (l2.drop (i * m)).take m)) = decide (l1 = l2)
  | 0, l1, l2, h1, h2 => by
    rw [Nat.zero_mul] at h1 h2
    rw [List.length_eq_zero_iff.1 h1, List.length_eq_zero_iff.1 h2]
    simp
  | n + 1, l1, l2, h1, h2 => by
    rw [List.range_succ_eq_map, List.all_cons, List.all_map]
    have ih := all_chunks (m := m) (n := n) (l1 := l1.drop m) (l2 := l2.drop m) (by rw [List.length_drop, h1, Nat.add_mul]; omega) (by rw [List.length_drop, h2, Nat.add_mul]; omega)
    have e : ((List.range n).all ((fun i => decide ((l1.drop (i * m)).take m = (l2.drop (i * m)).take m)) ∘ Nat.succ)) = decide (l1.drop m = l2.drop m) := by
      rw [← ih]
      congr 1
      funext i
      simp only [Function.comp, List.drop_drop, Nat.succ_eq_add_one, Nat.add_mul, Nat.one_mul]
      rw [Nat.add_comm]
    rw [e]
    simp only [Nat.zero_mul, List.drop_zero]
    rw [Bool.eq_iff_iff]
    simp only [Bool.and_eq_true, decide_eq_true_eq]
    constructor
    · rintro ⟨h3, h4⟩
      rw [← List.take_append_drop m l1, ← List.take_append_drop m l2, h3, h4]
    · rintro rfl
      exact ⟨rfl, rfl⟩

theorem run_eqInts : ∀ (d : Ds) (t : TypeId) (fuel : Nat) (w : World) (l1 l2 : List Int), keyB P d t = true → d.depth ≤ fuel → l1.length = d.cells → l2.length = d.cells →
    (Op.equalIn fuel t (d.value l1) (d.value l2)).run P w = .ok (decide (l1 = l2)) w
  | .int k, t, fuel, w, l1, l2, hk, hf, h1, h2 => by
    unfold keyB at hk
    split at hk
    · rename_i hu
      obtain ⟨f, rfl⟩ : ∃ f, fuel = f + 1 := ⟨fuel - 1, by simp only [Ds.depth] at hf; omega⟩
      simp only [Ds.cells] at h1 h2
      match l1, l2, h1, h2 with
      | [a], [b], _, _ =>
        simp only [Ds.value]
        have := run_equalIn_int (P := P) w f t .i64 .i64 a b hu
        simp only [List.getD_cons_zero]
        rw [this]
        congr 1
        rw [Bool.eq_iff_iff]
        simp
    · cases hk
  | .arr n m d, t, fuel, w, l1, l2, hk, hf, h1, h2 => by
    unfold keyB at hk
    split at hk
    · rename_i n' e hu
      simp only [Bool.and_eq_true, beq_iff_eq] at hk
      obtain ⟨⟨⟨⟨rfl, hc⟩, hi⟩, hdc⟩, hk⟩ := hk
      obtain ⟨f, rfl⟩ : ∃ f, fuel = f + 1 := ⟨fuel - 1, by simp only [Ds.depth] at hf; omega⟩
      obtain ⟨i, hi'⟩ := Option.isSome_iff_exists.1 hi
      simp only [Ds.value, Ds.cells, Ds.depth] at h1 h2 hf ⊢
      rw [run_equalIn_array w f _ _ hu hi', ← all_chunks h1 h2, hc]
      have hle : ∀ j ∈ List.range n', j * m + m ≤ n' * m := by
        intro j hj
        have := Nat.mul_le_mul_right m (show j + 1 ≤ n' by have := List.mem_range.1 hj; omega)
        rw [Nat.add_mul, Nat.one_mul] at this
        exact this
      generalize List.range n' = is at hle
      induction is with
      | nil => simp [Op.eqItems]
      | cons j is ih =>
        have hj := hle j (by simp)
        have p1 := run_part_ints w hk hi (hc.trans hdc.symm) (l := l1) (off := j * m) (by rw [hdc]; omega)
        have p2 := run_part_ints w hk hi (hc.trans hdc.symm) (l := l2) (off := j * m) (by rw [hdc]; omega)
        have p3 := run_eqInts d e f w ((l1.drop (j * m)).take m) ((l2.drop (j * m)).take m) hk (by omega) (by rw [List.length_take, List.length_drop, hdc]; omega) (by rw [List.length_take, List.length_drop, hdc]; omega)
        rw [hdc] at p1 p2
        simp only [Op.eqItems, Sem.run_bind, p1, p2, p3, Result.andThen_ok, List.all_cons]
        cases hb : decide ((l1.drop (j * m)).take m = (l2.drop (j * m)).take m) with
        | false => simp
        | true => simpa using ih fun y hy => hle y (by simp [hy])
    · cases hk
  | .sl .., _, _, _, _, _, hk, _, _, _ => by unfold keyB at hk; cases hk

theorem run_checkInts (em : Bool) : ∀ (d : Ds) (t : TypeId) (fuel : Nat) (w : World) (l : List Int), keyB P d t = true → d.depth ≤ fuel → l.length = d.cells → (Instr.checkKey em fuel t (d.value l)).run P w = .ok () w
  | .int k, t, fuel, w, l, hk, hf, h1 => by
    unfold keyB at hk
    split at hk
    · rename_i hu
      obtain ⟨f, rfl⟩ : ∃ f, fuel = f + 1 := ⟨fuel - 1, by simp only [Ds.depth] at hf; omega⟩
      simp [Instr.checkKey, run_underlying hu, Ds.value]
    · cases hk
  | .arr n m d, t, fuel, w, l, hk, hf, h1 => by
    unfold keyB at hk
    split at hk
    · rename_i n' e hu
      simp only [Bool.and_eq_true, beq_iff_eq] at hk
      obtain ⟨⟨⟨⟨rfl, hc⟩, hi⟩, hdc⟩, hk⟩ := hk
      obtain ⟨f, rfl⟩ : ∃ f, fuel = f + 1 := ⟨fuel - 1, by simp only [Ds.depth] at hf; omega⟩
      obtain ⟨i, hi'⟩ := Option.isSome_iff_exists.1 hi
      simp only [Ds.value, Ds.cells, Ds.depth] at h1 hf ⊢
      rw [Instr.checkKey]
      simp only [Sem.run_bind, run_underlying hu, Result.andThen_ok]
      simp only [Std.Legacy.Range.forIn_eq_forIn_range', Std.Legacy.Range.size, Nat.sub_zero, Nat.add_one_sub_one, Nat.div_one]
      have hle : ∀ j ∈ List.range' 0 n', j * m + m ≤ n' * m := by
        intro j hj
        rw [← List.range_eq_range'] at hj
        have := Nat.mul_le_mul_right m (show j + 1 ≤ n' by have := List.mem_range.1 hj; omega)
        rw [Nat.add_mul, Nat.one_mul] at this
        exact this
      generalize List.range' 0 n' = is at hle
      induction is with
      | nil => simp
      | cons j is ih =>
        have hj := hle j (by simp)
        have p1 := run_part_ints w hk hi (hc.trans hdc.symm) (l := l) (off := j * m) (by rw [hdc]; omega)
        have p2 := run_checkInts em d e f w ((l.drop (j * m)).take m) hk (by omega) (by rw [List.length_take, List.length_drop, hdc]; omega)
        rw [hdc] at p1
        simp only [List.forIn_cons, Sem.run_bind, run_sizeOf w hi', hc, Result.andThen_ok, p1, p2, Sem.run_pure]
        exact ih fun y hy => hle y (by simp [hy])
    · cases hk
  | .sl .., _, _, _, _, hk, _, _ => by unfold keyB at hk; cases hk

theorem key_value {F : Nat → Prop} {w : World} {d : Ds} {l : List Int} {v : Value} (h : rel F w (d.key l) v) : v = d.value l := by
  have ints : ∀ {l : List Int} {vs : List Value}, relL F w (l.map (.int .i64)) vs → vs = l.map (.int .i64) := by
    intro l
    induction l with
    | nil => intro vs h; simpa [relL] using h
    | cons a l ih => intro vs h; simp only [List.map_cons, relL] at h; obtain ⟨v, r, rfl, h1, h2⟩ := h; simp only [rel] at h1; rw [h1, ih h2]; rfl
  cases d <;> simp only [Ds.key, rel] at h <;> simp only [Ds.value]
  · exact h
  · obtain ⟨vs, rfl, hl⟩ := h
    rw [← ints hl]
  · exact h
theorem key_rel {F : Nat → Prop} {w : World} (d : Ds) (l : List Int) : rel F w (d.key l) (d.value l) := by
  have ints : ∀ {l : List Int}, relL F w (l.map (.int .i64)) (l.map (.int .i64)) := by
    intro l
    induction l with
    | nil => simp [relL]
    | cons a l ih => simp only [List.map_cons, relL]; exact ⟨_, _, rfl, by simp [rel], ih⟩
  cases d <;> simp only [Ds.key, Ds.value, rel]
  exact ⟨_, rfl, by simpa using ints⟩

section ops
variable {ops : Array Oper} {i : Nat} {l : List Nat} {d : Nat} {T U : TypeId} {pos : String} {aft : Array Edge} {g : Option (Nat × Bool)}

def eqB (P : Program) (k : Ds) (U : TypeId) : Bool := keyB P k U && !P.eqGuardType P.depth U && Nat.ble k.depth 10000 && (match k with | .arr .. => true | _ => false)
theorem run_eqA (w : World) {k : Ds} (hk : eqB P k U = true) {op : BinOp} {x y : Operand} {l1 l2 : List Int} (h1 : l1.length = k.cells) (h2 : l2.length = k.cells) :
    (eqGuard op U x y (k.value l1) (k.value l2)).run P w = .ok () w ∧ (Op.equalIn 10000 U (k.value l1) (k.value l2)).run P w = .ok (decide (l1 = l2)) w ∧ ∃ xs ys, k.value l1 = .agg xs ∧ k.value l2 = .agg ys := by
  simp only [eqB, Bool.and_eq_true, Bool.not_eq_true'] at hk
  obtain ⟨⟨⟨hk, hg⟩, hd⟩, hs⟩ := hk
  have hr := run_eqInts k U 10000 w l1 l2 hk (Nat.le_of_ble_eq_true hd) h1 h2
  cases k with
  | int k => cases hs
  | sl m k => cases hs
  | arr n m k => exact ⟨run_eqGuard_agg w op U x y _ _ hg, hr, _, _, rfl, rfl⟩
theorem Run.eqlA {V : TypeId} {x y : Operand} (k : Ds) (l1 l2 : List Int) (hi : ops[i]? = some ⟨some d, .binOp .eql U x y V, T, pos, aft, g⟩) (hw : want ops s.fr ⟨some d, .binOp .eql U x y V, T, pos, aft, g⟩ = some true) (hdn : Nat.blt d n = true)
    (hx : Ev s.fr x (k.key l1)) (hy : Ev s.fr y (k.key l2)) (hk : eqB P k U = true) (h1 : l1.length = k.cells) (h2 : l2.length = k.cells) (kk : Run C ops l Q (s.put d (.bool (decide (l1 = l2))))) : Run C ops (i :: l) Q s :=
  Run.bin hi hw hdn hx hy (fun F w u v hu hv => by
    rw [key_value hu, key_value hv]
    obtain ⟨e1, e2, xs, ys, e3, e4⟩ := run_eqA w hk (op := .eql) (x := x) (y := y) h1 h2
    refine ⟨.bool (decide (l1 = l2)), ?_, by simp only [rel]⟩
    simp only [Sem.run_bind, e1, Result.andThen_ok]
    rw [e3, e4, run_eql_struct w]
    rw [e3, e4] at e2
    simp only [e2, Result.andThen_ok]) kk
theorem Run.neqA {V : TypeId} {x y : Operand} (k : Ds) (l1 l2 : List Int) (hi : ops[i]? = some ⟨some d, .binOp .neq U x y V, T, pos, aft, g⟩) (hw : want ops s.fr ⟨some d, .binOp .neq U x y V, T, pos, aft, g⟩ = some true) (hdn : Nat.blt d n = true)
    (hx : Ev s.fr x (k.key l1)) (hy : Ev s.fr y (k.key l2)) (hk : eqB P k U = true) (h1 : l1.length = k.cells) (h2 : l2.length = k.cells) (kk : Run C ops l Q (s.put d (.bool (!decide (l1 = l2))))) : Run C ops (i :: l) Q s :=
  Run.bin hi hw hdn hx hy (fun F w u v hu hv => by
    rw [key_value hu, key_value hv]
    obtain ⟨e1, e2, xs, ys, e3, e4⟩ := run_eqA w hk (op := .neq) (x := x) (y := y) h1 h2
    refine ⟨.bool (!decide (l1 = l2)), ?_, by simp only [rel]⟩
    simp only [Sem.run_bind, e1, Result.andThen_ok]
    rw [e3, e4, run_neq_struct w]
    rw [e3, e4] at e2
    simp only [e2, Result.andThen_ok]) kk

/-! ### maps -/
/-- The entries of a map, by their keys. -/
def mapC (k : Ds) (ents : List (List Int × AV)) : List AV := ents.map fun e => .tup [k.key e.1, e.2]
theorem mapC_rel {F : Nat → Prop} {w : World} {k : Ds} : ∀ {ents : List (List Int × AV)} {es : List MapEntry}, relL F w (mapC k ents) (es.map fun e => .tuple #[e.key, e.val]) →
    es.length = ents.length ∧ ∀ (j : Nat) (e : List Int × AV), ents[j]? = some e → ∃ m, es[j]? = some m ∧ m.key = k.value e.1 ∧ rel F w e.2 m.val
  | [], es, h => by
    simp only [mapC, List.map_nil, relL] at h
    have : es = [] := by simpa using h
    subst this
    exact ⟨rfl, fun j e h => by simp at h⟩
  | e :: ents, es, h => by
    simp only [mapC, List.map_cons, relL] at h
    obtain ⟨v, r, h1, h2, h3⟩ := h
    cases es with
    | nil => simp at h1
    | cons m es =>
      simp only [List.map_cons, List.cons.injEq] at h1
      obtain ⟨rfl, rfl⟩ := h1
      obtain ⟨h4, h5⟩ := mapC_rel (ents := ents) (es := es) h3
      refine ⟨by simp [h4], fun j e' he => ?_⟩
      cases j with
      | zero =>
        simp at he
        subst he
        refine ⟨m, rfl, ?_⟩
        simp only [rel] at h2
        obtain ⟨vs, hv, hl⟩ := h2
        cases hv
        simp only [relL] at hl
        obtain ⟨v1, r1, e1, k1, v2, r2, e2, k2, rfl⟩ := hl
        simp only [List.cons.injEq] at e1 e2
        obtain ⟨rfl, rfl⟩ := e1
        simp only [List.cons.injEq] at e2
        obtain ⟨rfl, _⟩ := e2
        exact ⟨key_value k1, k2⟩
      | succ j => simpa using h5 j e' (by simpa using he)

def mapB (P : Program) (k : Ds) (U : TypeId) : Bool := match P.underlying U with
  | some (.map kt _) => keyB P k kt && Nat.ble k.depth 10000 && (match k with | .arr .. => true | _ => false)
  | _ => false

theorem findAsking_spec (w : World) {k : Ds} {kt : TypeId} (hk : keyB P k kt = true) (hd : k.depth ≤ 10000) {key : List Int} (hl : key.length = k.cells) : ∀ {ents : List (List Int × AV)} {es : List MapEntry} (j0 : Nat), es.length = ents.length →
    (∀ e ∈ ents, e.1.length = k.cells) → (∀ (j : Nat) (e : List Int × AV), ents[j]? = some e → ∃ m, es[j]? = some m ∧ m.key = k.value e.1) →
    (ents.find? (fun e => e.1 == key) = none ∧ (Instr.findAsking kt (k.value key) es j0).run P w = .ok none w) ∨
    ∃ j e m, ents.find? (fun e => e.1 == key) = some e ∧ ents[j]? = some e ∧ es[j]? = some m ∧ (Instr.findAsking kt (k.value key) es j0).run P w = .ok (some (j0 + j, m.val)) w
  | [], [], j0, _, _, _ => .inl ⟨rfl, by simp [Instr.findAsking]⟩
  | e :: ents, m :: es, j0, hlen, hall, hs => by
    obtain ⟨m', hm, hkey⟩ := hs 0 e rfl
    simp at hm
    subst hm
    have hq : (Op.equal kt (k.value key) m.key).run P w = .ok (decide (key = e.1)) w := by
      rw [hkey]
      exact run_eqInts k kt 10000 w key e.1 hk hd hl (hall e (by simp))
    by_cases he : key = e.1
    · refine .inr ⟨0, e, m, by simp [he], rfl, rfl, ?_⟩
      simp only [Instr.findAsking, Sem.run_bind, hq, Result.andThen_ok]
      simp [he]
    · have hne : (e.1 == key) = false := by simpa using Ne.symm he
      have ih := findAsking_spec w hk hd hl (ents := ents) (es := es) (j0 + 1) (by simpa using hlen) (fun x hx => hall x (by simp [hx])) (fun j x hx => by simpa using hs (j + 1) x (by simpa using hx))
      rcases ih with ⟨h1, h2⟩ | ⟨j, x, m2, h1, h2, h3, h4⟩
      · exact .inl ⟨by rw [List.find?_cons, hne]; exact h1, by simp only [Instr.findAsking, Sem.run_bind, hq, Result.andThen_ok, he, decide_false, Bool.false_eq_true, if_false]; exact h2⟩
      · refine .inr ⟨j + 1, x, m2, by rw [List.find?_cons, hne]; exact h1, by simpa using h2, by simpa using h3, ?_⟩
        simp only [Instr.findAsking, Sem.run_bind, hq, Result.andThen_ok, he, decide_false, Bool.false_eq_true, if_false]
        rw [h4, show j0 + 1 + j = j0 + (j + 1) by omega]
  | [], _ :: _, _, h, _, _ => by simp at h
  | _ :: _, [], _, h, _, _ => by simp at h
theorem findKey_spec (w : World) {k : Ds} (hB : mapB P k U = true) {key : List Int} (hl : key.length = k.cells) {ents : List (List Int × AV)} {es : List MapEntry} (hlen : es.length = ents.length)
    (hall : ∀ e ∈ ents, e.1.length = k.cells) (hs : ∀ (j : Nat) (e : List Int × AV), ents[j]? = some e → ∃ m, es[j]? = some m ∧ m.key = k.value e.1) :
    ∃ kt et, P.underlying U = some (.map kt et) ∧ (∀ em, (Instr.checkKey em 10000 kt (k.value key)).run P w = .ok () w) ∧
    ((ents.find? (fun e => e.1 == key) = none ∧ (Instr.findKey kt (k.value key) es).run P w = .ok none w) ∨
    ∃ j e m, ents.find? (fun e => e.1 == key) = some e ∧ ents[j]? = some e ∧ es[j]? = some m ∧ (Instr.findKey kt (k.value key) es).run P w = .ok (some (j, m.val)) w) := by
  unfold mapB at hB
  split at hB
  · rename_i kt et hu
    simp only [Bool.and_eq_true] at hB
    obtain ⟨⟨hk, hd⟩, hs'⟩ := hB
    have hd := Nat.le_of_ble_eq_true hd
    refine ⟨kt, et, hu, fun em => run_checkInts em k kt 10000 w key hk hd hl, ?_⟩
    obtain ⟨td, htd⟩ : ∃ td, P.underlying kt = some td := by
      cases k <;> unfold keyB at hk <;> first | cases hk; done | (split at hk <;> first | exact ⟨_, ‹_›⟩ | cases hk)
    have hnow : ∀ (m : MapEntry) (ms : List MapEntry), Instr.findNow td (k.value key) (m :: ms) 0 = none := by
      intro m ms
      cases k with
      | arr nn mm kk =>
        unfold keyB at hk
        split at hk
        · rename_i n' e' hu'
          rw [htd] at hu'
          cases hu'
          simp [Instr.findNow, Instr.sameNow, Ds.value]
        · cases hk
      | _ => cases hs'
    have hfk : es ≠ [] → (Instr.findKey kt (k.value key) es).run P w = (Instr.findAsking kt (k.value key) es 0).run P w := by
      intro hne
      match es, hne with
      | m :: ms, _ =>
        simp only [Instr.findKey, Sem.run_bind, run_underlying htd, Result.andThen_ok, hnow]
    cases hes : es with
    | nil =>
      subst hes
      have : ents = [] := List.length_eq_zero_iff.1 (by simpa using hlen.symm)
      subst this
      exact .inl ⟨rfl, by simp [Instr.findKey, run_underlying htd, Instr.findNow]⟩
    | cons m ms =>
      have hne : es ≠ [] := by rw [hes]; simp
      rw [← hes, hfk hne]
      have := findAsking_spec w hk hd hl (ents := ents) (es := es) 0 hlen hall hs
      simpa using this
  · cases hB

/-- A map of the call's own is looked into. -/
def lookA (ents : List (List Int × AV)) (key : List Int) (z : AV) : AV := match ents.find? (fun e => e.1 == key) with
  | some e => e.2
  | none => z
def zeroA (P : Program) (U : TypeId) : Option Value := match P.underlying U with
  | some (.map _ e) => match P.info? e with
    | some i => i.zero
    | none => none
  | _ => none
theorem Run.lookup {x y : Operand} (k : Ds) (key : List Int) (ents : List (List Int × AV)) {id b : Nat} {z : AV} {zv : Value} (hi : ops[i]? = some ⟨some d, .lookup U x y false, T, pos, aft, g⟩) (hw : want ops s.fr ⟨some d, .lookup U x y false, T, pos, aft, g⟩ = some true) (hdn : Nat.blt d n = true)
    (hx : Ev s.fr x (.mp id b)) (hh : s.hp[id]? = some [(b, .mark :: mapC k ents)]) (hy : Ev s.fr y (k.key key)) (hB : mapB P k U = true) (hl : key.length = k.cells) (hall : ∀ e ∈ ents, e.1.length = k.cells)
    (hz : zeroA P U = some zv) (hzv : konst zv = some z) (kk : Run C ops l Q (s.put d (lookA ents key z))) : Run C ops (i :: l) Q s :=
  Run.pure hi rfl hdn hw (fun F a w hr => by
    have h1 := Ev.rel hr hx
    have h2 := key_value (Ev.rel hr hy)
    simp only [rel] at h1
    obtain ⟨es, c, hm, hrel⟩ := (hr.sat.live (At.one hh)).2.2.map
    obtain ⟨hlen, hs⟩ := mapC_rel hrel
    obtain ⟨kt, et, hu, hck, hf⟩ := findKey_spec w hB hl (es := es.toList) hlen hall (fun j e he => let ⟨m, h3, h4, _⟩ := hs j e he; ⟨m, h3, h4⟩)
    have hzr : (zeroValue et).run P w = .ok zv w := by
      unfold zeroA at hz
      rw [hu] at hz
      simp only at hz
      split at hz
      · rename_i inf hinf
        simp [zeroValue, typeInfo, hinf, hz]
      · cases hz
    rcases hf with ⟨hn, hf⟩ | ⟨j, e, m, hs1, hs2, hs3, hf⟩
    · refine ⟨zv, ?_, by unfold lookA; rw [hn]; exact konst_rel hzv⟩
      simp only [execOp, Sem.run_bind, h1, h2, Instr.lookup, run_underlying hu, Result.andThen_ok, MapKept.run_getObj_map hm, Sem.run_pure, hck, hf, hzr, Bool.false_eq_true, if_false]
    · obtain ⟨m', hm', _, hv⟩ := hs j e hs2
      rw [hs3] at hm'
      cases hm'
      refine ⟨m.val, ?_, by unfold lookA; rw [hs1]; exact hv⟩
      simp only [execOp, Sem.run_bind, h1, h2, Instr.lookup, run_underlying hu, Result.andThen_ok, MapKept.run_getObj_map hm, Sem.run_pure, hck, hf, Bool.false_eq_true, if_false]) kk

theorem R.allocMap {F : Nat → Prop} {a : Act} {w : World} (hr : R C F s a w) (id : Nat) : R C F ⟨s.fr, s.hp.set id (.cells w.heap.size [.mark])⟩ a (w.alloc (.map #[] 0)) := by
  have hold : ∀ k, k < w.heap.size → (w.alloc (.map #[] 0)).heap[k]? = w.heap[k]? := fun k hk => Go.RowKit.Below.heap_alloc _ _ _ hk
  have hnew : (w.alloc (.map #[] 0)).heap[w.heap.size]? = some (.map #[] 0) := (MapKept.heap_alloc w _).1
  have hk : Later F w (w.alloc (.map #[] 0)) := ⟨fun k hF => hold k (hr.sat.old k hF), fun k arr' e' fz' hh => ⟨arr', e', fz', (hold k (lt_of_heap hh)).trans hh, rfl⟩⟩
  have hlive : ∀ {i p k : Nat} {ds : List AV}, At s.hp i p k ds → k < w.heap.size := fun h => (hr.sat.live h).2.2.lt
  have back : ∀ {i p k : Nat} {ds : List AV}, At (s.hp.set id [(w.heap.size, [.mark])]) i p k ds → (i = id ∧ p = 0 ∧ k = w.heap.size ∧ ds = [.mark]) ∨ At s.hp i p k ds := by
    intro i p k ds h
    rcases h.set with ⟨rfl, h'⟩ | ⟨_, h'⟩
    · cases p with
      | zero => simp at h'; exact .inl ⟨rfl, rfl, h'.1.symm, h'.2.symm⟩
      | succ p => simp at h'
    · exact .inr h'
  refine ⟨hr.size, hr.defers, fun t x hx => rel_mono (fun _ h => h) hk _ _ (hr.fr t x hx), ⟨fun k hF => by have := hr.sat.old k hF; simp; omega, fun hx => ?_, fun hx hy => ?_⟩, hr.os, hr.tape, hr.output, by simp; exact Nat.le_succ_of_le hr.hsize,
    fun k hlt hW => (hold k (Nat.lt_of_lt_of_le hlt hr.hsize)).trans (hr.block k hlt hW), hr.F0, hr.F1, hr.elder.trans hk.size⟩
  · rcases back hx with ⟨_, _, rfl, rfl⟩ | hx
    · exact ⟨.inr hr.hsize, fun hF => absurd (hr.sat.old _ hF) (Nat.lt_irrefl _), .inr ⟨_, _, [], hnew, rfl, by simp [relL]⟩⟩
    · obtain ⟨h1, h2, h3⟩ := hr.sat.live hx
      exact ⟨h1, h2, h3.mono (fun _ h => h) hk (hold _ h3.lt)⟩
  · rcases back hx with ⟨h3, h4, h1, _⟩ | hx' <;> rcases back hy with ⟨h5, h6, h2, _⟩ | hy'
    · exact ⟨h3.trans h5.symm, h4.trans h6.symm⟩
    · have := hlive hy'; omega
    · have := hlive hx'; omega
    · exact hr.sat.inj hx' hy'
theorem Run.makeMap (id : Nat) (hi : ops[i]? = some ⟨some d, .makeMap U none, T, pos, aft, g⟩) (hw : want ops s.fr ⟨some d, .makeMap U none, T, pos, aft, g⟩ = some true) (hdn : Nat.blt d n = true)
    (k : ∀ b, Run C ops l Q ⟨(d, .mp id b) :: s.fr, s.hp.set id [(b, [.mark])]⟩) : Run C ops (i :: l) Q s :=
  Run.step hi hw fun F a w hr =>
    ⟨.map (some w.heap.size), w.alloc (.map #[] 0), F, _, by simp [execOp, Instr.makeMap], (hr.allocMap id).put hdn (by simp only [rel]), k w.heap.size⟩

/-- An object takes other entries. -/
theorem R.setMap {F : Nat → Prop} {a : Act} {w w' : World} (hr : R C F s a w) {id b : Nat} {cs cs' : List AV} {es : Array MapEntry} {c : Nat} (hh : s.hp[id]? = some [(b, cs)]) (hm : w.heap[b]? = some (.map es c)) {es' : Array MapEntry} {c' : Nat}
    (hw : w' = { w with heap := w.heap.setIfInBounds b (.map es' c') }) {r : List AV} (hc : cs' = .mark :: r) (hrel : relL F w r (es'.toList.map fun e => .tuple #[e.key, e.val])) : R C F ⟨s.fr, s.hp.set id [(b, cs')]⟩ a w' := by
  obtain ⟨hok, hnF, _⟩ := hr.sat.live (At.one hh)
  obtain ⟨hnew, hne⟩ := MapKept.heap_set (o' := .map es' c') hm
  have hb : ∀ k, k ≠ b → w'.heap[k]? = w.heap[k]? := fun k hk => by rw [hw]; exact hne k hk
  have hk : Later F w w' := ⟨fun k hF => hb k (fun h => hnF (h ▸ hF)), fun k arr e fz h => ⟨arr, e, fz, (hb k (fun he => by subst he; rw [hm] at h; cases h)).trans h, rfl⟩⟩
  have back : ∀ {i p k : Nat} {ds : List AV}, At (s.hp.set id [(b, cs')]) i p k ds → (i = id ∧ p = 0 ∧ k = b ∧ ds = cs') ∨ (i ≠ id ∧ At s.hp i p k ds) := by
    intro i p k ds h
    rcases h.set with ⟨rfl, h'⟩ | ⟨hi, h'⟩
    · cases p with
      | zero => simp at h'; exact .inl ⟨rfl, rfl, h'.1.symm, h'.2.symm⟩
      | succ p => simp at h'
    · exact .inr ⟨hi, h'⟩
  have hsize : w'.heap.size = w.heap.size := by rw [hw]; simp
  have hdiff : ∀ {i p k : Nat} {ds : List AV}, i ≠ id → At s.hp i p k ds → k ≠ b := fun hi h he => by subst he; exact hi (hr.sat.inj h (At.one hh)).1
  refine ⟨hr.size, hr.defers, fun t x hx => rel_mono (fun _ h => h) hk _ _ (hr.fr t x hx), ⟨fun k hF => by rw [hsize]; exact hr.sat.old k hF, fun hx => ?_, fun hx hy => ?_⟩, by rw [hw]; exact hr.os, by rw [hw]; exact hr.tape, by rw [hw]; exact hr.output, by rw [hsize]; exact hr.hsize,
    fun k hlt hW => (hb k (fun he => ?_)).trans (hr.block k hlt hW), hr.F0, hr.F1, hr.elder.trans hk.size⟩
  · rcases back hx with ⟨_, _, rfl, rfl⟩ | ⟨hi, hx⟩
    · exact ⟨hok, hnF, .inr ⟨es', c', r, by rw [hw]; exact hnew, hc, relL_mono (fun _ h => h) hk _ _ hrel⟩⟩
    · obtain ⟨h1, h2, h3⟩ := hr.sat.live hx
      exact ⟨h1, h2, h3.mono (fun _ h => h) hk (hb _ (hdiff hi hx))⟩
  · rcases back hx with ⟨h3, h4, h1, _⟩ | ⟨hi, hx'⟩ <;> rcases back hy with ⟨h5, h6, h2, _⟩ | ⟨hj, hy'⟩
    · exact ⟨h3.trans h5.symm, h4.trans h6.symm⟩
    · subst h1; exact absurd rfl (hdiff hj hy')
    · subst h2; exact absurd rfl (hdiff hi hx')
    · exact hr.sat.inj hx' hy'
  · subst he
    rcases hok with h | h
    · exact hW h
    · omega

theorem insert_run {F : Nat → Prop} {a : Act} {w : World} (hr : R C F s a w) {x y v : Operand} (k : Ds) (key : List Int) (ents : List (List Int × AV)) {id b : Nat} {z : AV}
    (hx : Ev s.fr x (.mp id b)) (hh : s.hp[id]? = some [(b, .mark :: mapC k ents)]) (hy : Ev s.fr y (k.key key)) (hv : Ev s.fr v z) (hB : mapB P k U = true) (hl : key.length = k.cells) (hall : ∀ e ∈ ents, e.1.length = k.cells) (hnew : ents.find? (fun e => e.1 == key) = none) :
    ∃ w', (Instr.mapUpdate U (a.eval x) (a.eval y) (a.eval v)).run P w = .ok () w' ∧ R C F ⟨s.fr, s.hp.set id [(b, .mark :: mapC k (ents ++ [(key, z)]))]⟩ a w' := by
  have h1 := Ev.rel hr hx
  have hyr := Ev.rel hr hy
  have h2 := key_value hyr
  have h3 := Ev.rel hr hv
  simp only [rel] at h1
  obtain ⟨es, c, hm, hrel⟩ := (hr.sat.live (At.one hh)).2.2.map
  obtain ⟨hlen, hs⟩ := mapC_rel hrel
  obtain ⟨kt, et, hu, hck, hf⟩ := findKey_spec w hB hl (es := es.toList) hlen hall (fun j e he => let ⟨m, h3, h4, _⟩ := hs j e he; ⟨m, h3, h4⟩)
  rcases hf with ⟨_, hf⟩ | ⟨j, e, m, hs1, _⟩
  · refine ⟨_, ?_, hr.setMap hh hm rfl rfl (es' := es.push { key := k.value key, val := a.eval v, born := c }) (c' := c + 1) ?_⟩
    · simp only [Instr.mapUpdate, Sem.run_bind, run_underlying hu, Result.andThen_ok, h1, h2, MapKept.run_getObj_map hm, hck, hf, MapKept.run_setObj_map _ hm]
    · unfold mapC
      rw [List.map_append, Array.toList_push, List.map_append]
      refine relL_append hrel ?_
      simp only [List.map_cons, List.map_nil, relL]
      refine ⟨_, [], rfl, ?_, rfl⟩
      simp only [rel]
      refine ⟨_, rfl, ?_⟩
      simp only [relL]
      exact ⟨_, _, rfl, key_rel k key, _, _, rfl, h3, rfl⟩
  · rw [hnew] at hs1
    cases hs1
theorem Run.insert {x y v : Operand} (k : Ds) (key : List Int) (ents : List (List Int × AV)) {id b : Nat} {z : AV} (hi : ops[i]? = some ⟨none, .insert U x y v, T, pos, aft, g⟩) (hw : want ops s.fr ⟨none, .insert U x y v, T, pos, aft, g⟩ = some true)
    (hx : Ev s.fr x (.mp id b)) (hh : s.hp[id]? = some [(b, .mark :: mapC k ents)]) (hy : Ev s.fr y (k.key key)) (hv : Ev s.fr v z) (hB : mapB P k U = true) (hl : key.length = k.cells) (hall : ∀ e ∈ ents, e.1.length = k.cells) (hnew : ents.find? (fun e => e.1 == key) = none)
    (kk : Run C ops l Q ⟨s.fr, s.hp.set id [(b, .mark :: mapC k (ents ++ [(key, z)]))]⟩) : Run C ops (i :: l) Q s :=
  Run.act hi hw (fun F a w hr => by
    obtain ⟨w', h1, h2⟩ := insert_run hr k key ents hx hh hy hv hB hl hall hnew
    exact ⟨w', F, by simp only [execOp, Sem.run_bind, h1, Result.andThen_ok, Sem.run_pure], h2⟩) kk
theorem Run.mapUpdate {x y v : Operand} (k : Ds) (key : List Int) (ents : List (List Int × AV)) {id b : Nat} {z : AV} (hi : ops[i]? = some ⟨none, .mapUpdate U x y v, T, pos, aft, g⟩) (hw : want ops s.fr ⟨none, .mapUpdate U x y v, T, pos, aft, g⟩ = some true)
    (hx : Ev s.fr x (.mp id b)) (hh : s.hp[id]? = some [(b, .mark :: mapC k ents)]) (hy : Ev s.fr y (k.key key)) (hv : Ev s.fr v z) (hB : mapB P k U = true) (hl : key.length = k.cells) (hall : ∀ e ∈ ents, e.1.length = k.cells) (hnew : ents.find? (fun e => e.1 == key) = none)
    (kk : Run C ops l Q ⟨s.fr, s.hp.set id [(b, .mark :: mapC k (ents ++ [(key, z)]))]⟩) : Run C ops (i :: l) Q s :=
  Run.act hi hw (fun F a w hr => by
    obtain ⟨w', h1, h2⟩ := insert_run hr k key ents hx hh hy hv hB hl hall hnew
    exact ⟨w', F, by simp only [execOp, Sem.run_bind, h1, Result.andThen_ok, Sem.run_pure], h2⟩) kk

/-! ### odds and ends -/
/-- a[lo:hi] of a snapshot's array. -/
theorem Run.slice_immarr {x : Operand} {lo hi : Option Operand} {m off len bl bh : Nat} {cs : List AV} (hi' : ops[i]? = some ⟨some d, .slice U x lo hi none, T, pos, aft, g⟩) (hw : want ops s.fr ⟨some d, .slice U x lo hi none, T, pos, aft, g⟩ = some true) (hdn : Nat.blt d n = true)
    (hx : Ev s.fr x (.immAt cs off)) (hT : arB P U len m = true) (hlo : Bnd s.fr lo 0 bl) (hhi : Bnd s.fr hi len bh) (h1 : bl ≤ bh) (h2 : bh ≤ len)
    (k : Run C ops l Q (s.put d (.imm ((cs.drop (off + bl * m)).take ((bh - bl) * m)) (bh - bl)))) : Run C ops (i :: l) Q s :=
  Run.pure hi' rfl hdn hw (fun F a w hr => by
    have h4 := Ev.rel hr hx
    simp only [rel] at h4
    obtain ⟨b, o, arr, e, fz, h4, hF, hheap, hrel⟩ := h4
    have hsl := run_sliceAt_arr hr (ad := ⟨b, o + off, none⟩) hT hlo hhi h1 h2
    refine ⟨_, by simp only [execOp, Sem.run_bind, h4, Option.map_none, hsl, Result.andThen_ok, Sem.run_pure]; rfl, ?_⟩
    simp only [rel]
    refine ⟨_, len - bl, rfl, by omega, fun hpos => ?_⟩
    rw [if_neg (by omega)]
    refine ⟨b, o + (off + bl * m), arr, e, fz, by rw [addr_add, Nat.add_assoc], hF, hheap, ?_⟩
    have h5 := relP_drop (off + bl * m) hrel
    rw [List.drop_drop] at h5
    have tk : ∀ {xs : List AV} {vs : List Value} (q : Nat), relP F w xs vs → relP F w (xs.take q) vs := by
      intro xs
      induction xs with
      | nil => intro vs q h; simp [relP]
      | cons x xs ih =>
        intro vs q h
        cases q with
        | zero => simp [relP]
        | succ q => simp only [relP] at h; obtain ⟨v, r, rfl, h1, h2⟩ := h; simp only [List.take_succ_cons, relP]; exact ⟨v, r, rfl, h1, ih q h2⟩
    exact tk _ h5) k

/-- A slice of the call's own seen as an array. -/
theorem Run.toArr {x : Operand} {id b m off len cap k : Nat} {opn : Bool} (hi : ops[i]? = some ⟨some d, .sliceToArrayPointer U x, T, pos, aft, g⟩) (hw : want ops s.fr ⟨some d, .sliceToArrayPointer U x, T, pos, aft, g⟩ = some true) (hdn : Nat.blt d n = true)
    (hx : Ev s.fr x (.own id b m off len cap opn)) (hT : arB P U k m = true) (hk : k ≤ len) (kk : Run C ops l Q (s.put d (.adr id b off))) : Run C ops (i :: l) Q s :=
  Run.pure hi rfl hdn hw (fun F a w hr => by
    have h1 := Ev.rel hr hx
    simp only [rel] at h1
    obtain ⟨c, he, _, _, arr, e, fz, hh, _⟩ := h1
    obtain ⟨e', hu, _⟩ := arB_spec hT
    refine ⟨.pointer (some ⟨b, off, none⟩), ?_, by simp only [rel]; exact ⟨trivial, arr, e, fz, hh⟩⟩
    simp only [execOp, Sem.run_bind, he, Instr.arrayAt, run_underlying hu, Result.andThen_ok, Nat.not_lt.2 hk, if_false, Sem.run_pure]) kk
theorem Run.toArr_imm {x : Operand} {m len k : Nat} {cs : List AV} (hi : ops[i]? = some ⟨some d, .sliceToArrayPointer U x, T, pos, aft, g⟩) (hw : want ops s.fr ⟨some d, .sliceToArrayPointer U x, T, pos, aft, g⟩ = some true) (hdn : Nat.blt d n = true)
    (hx : Ev s.fr x (.imm cs len)) (hT : arB P U k m = true) (hk : k ≤ len) (h0 : 0 < k) (kk : Run C ops l Q (s.put d (.immAt cs 0))) : Run C ops (i :: l) Q s :=
  Run.pure hi rfl hdn hw (fun F a w hr => by
    have h1 := Ev.rel hr hx
    simp only [rel] at h1
    obtain ⟨ad, c, he, _, hp⟩ := h1
    obtain ⟨b, o, arr, e, fz, rfl, hF, hh, hrel⟩ := hp (by omega)
    obtain ⟨e', hu, _⟩ := arB_spec hT
    refine ⟨.pointer (some ⟨b, o, none⟩), ?_, by simp only [rel]; exact ⟨b, o, arr, e, fz, rfl, hF, hh, hrel⟩⟩
    simp only [execOp, Sem.run_bind, he, Instr.arrayAt, run_underlying hu, Result.andThen_ok, Nat.not_lt.2 hk, if_false, Sem.run_pure]) kk

def capA : AV → Option Nat
  | .own _ _ _ _ _ cap false => some cap
  | .nilsl | .empty true => some 0
  | _ => none
theorem capA_spec {F : Nat → Prop} {w : World} {x : AV} {v : Value} {k : Nat} (h : capA x = some k) (hr : rel F w x v) : ∃ ad len, v = .slice ad len k := by
  unfold capA at h
  split at h
  · cases h; simp only [rel] at hr; obtain ⟨c, rfl, _, h1, _⟩ := hr; rw [h1 trivial]; exact ⟨_, _, rfl⟩
  · cases h; simp only [rel] at hr; exact ⟨_, _, hr⟩
  · cases h; simp only [rel] at hr; obtain ⟨a, c, rfl, h1⟩ := hr; rw [h1 trivial]; exact ⟨_, _, rfl⟩
  · cases h
theorem Run.cap {x : Operand} {p : AV} {k : Nat} (hi : ops[i]? = some ⟨some d, .call ⟨.builtin .cap, #[x], #[U]⟩, T, pos, aft, g⟩) (hw : want ops s.fr ⟨some d, .call ⟨.builtin .cap, #[x], #[U]⟩, T, pos, aft, g⟩ = some true) (hdn : Nat.blt d n = true)
    (hx : Ev s.fr x p) (hT : isSl P U = true) (hk : capA p = some k) (kk : Run C ops l Q (s.put d (.int .i64 (k : Int)))) : Run C ops (i :: l) Q s :=
  Run.pure hi rfl hdn hw (fun F a w hr => by
    obtain ⟨ad, c, he⟩ := capA_spec hk (Ev.rel hr hx)
    refine ⟨.int .i64 k, ?_, by simp [rel]⟩
    unfold isSl at hT
    split at hT
    · rename_i e hu
      simp [execOp, resolve, invoke, builtin, Builtin.cap_, he, run_underlying hu, goInt]
    · cases hT) kk
theorem Run.max {x y : Operand} {p q : Int} {A : Array TypeId} (hi : ops[i]? = some ⟨some d, .call ⟨.builtin .max, #[x, y], A⟩, T, pos, aft, g⟩) (hw : want ops s.fr ⟨some d, .call ⟨.builtin .max, #[x, y], A⟩, T, pos, aft, g⟩ = some true) (hdn : Nat.blt d n = true)
    (hx : Ev s.fr x (.int .i64 p)) (hy : Ev s.fr y (.int .i64 q)) (kk : Run C ops l Q (s.put d (.int .i64 (if q > p then q else p)))) : Run C ops (i :: l) Q s :=
  Run.pure hi rfl hdn hw (fun F a w hr => by
    have h1 := Ev.rel hr hx
    have h2 := Ev.rel hr hy
    simp only [rel] at h1 h2
    exact ⟨_, by simp [execOp, resolve, invoke, builtin, Builtin.max_, Builtin.max2, h1, h2]; rfl, by simp [rel]⟩) kk
theorem Run.min {x y : Operand} {p q : Int} {A : Array TypeId} (hi : ops[i]? = some ⟨some d, .call ⟨.builtin .min, #[x, y], A⟩, T, pos, aft, g⟩) (hw : want ops s.fr ⟨some d, .call ⟨.builtin .min, #[x, y], A⟩, T, pos, aft, g⟩ = some true) (hdn : Nat.blt d n = true)
    (hx : Ev s.fr x (.int .i64 p)) (hy : Ev s.fr y (.int .i64 q)) (kk : Run C ops l Q (s.put d (.int .i64 (if q < p then q else p)))) : Run C ops (i :: l) Q s :=
  Run.pure hi rfl hdn hw (fun F a w hr => by
    have h1 := Ev.rel hr hx
    have h2 := Ev.rel hr hy
    simp only [rel] at h1 h2
    exact ⟨_, by simp [execOp, resolve, invoke, builtin, Builtin.min_, Builtin.min2, h1, h2]; rfl, by simp [rel]⟩) kk

/-- append of so many zero elements to the nil slice. -/
theorem Run.growNil (id : Nat) {x y : Operand} {V : TypeId} {cnt m bytes : Nat} {q : Int} {zs : List AV} (hi : ops[i]? = some ⟨some d, .call ⟨.builtin .append, #[x, y], #[U, V]⟩, T, pos, aft, g⟩) (hw : want ops s.fr ⟨some d, .call ⟨.builtin .append, #[x, y], #[U, V]⟩, T, pos, aft, g⟩ = some true) (hdn : Nat.blt d n = true)
    (hx : Ev s.fr x .nilsl) (hy : Ev s.fr y (.int .i64 q)) (hT : Elem P U m bytes zs) (hV : P.underlying V = some (.int .i64)) (hq : q = (cnt : Int)) (h0 : 0 < cnt) (hby : cnt * bytes ≤ 140737488355328) (h63 : cnt ≤ 9223372036854775807)
    (k : ∀ b', Run C ops l Q ⟨(d, .own id b' m 0 cnt cnt true) :: s.fr, s.hp.set id (.cells b' (zcells zs m (cnt * m)))⟩) : Run C ops (i :: l) Q s :=
  Run.step hi hw fun F a w hr => by
    obtain ⟨⟨e, it, z, hu, hie, hz, hsz, hbb, hzc, hm⟩, hzs⟩ := hT
    obtain ⟨z', hzr, hz', hzl⟩ := zeroOf_spec (hzs e hu)
    have hzz : z' = z := by simp [hie, hz] at hz'; exact hz'.symm
    subst hzz
    have h1 := Ev.rel hr hx
    have h2 := Ev.rel hr hy
    simp only [rel] at h1 h2
    subst hq
    have hcm : cnt * m ≠ 0 := Nat.mul_ne_zero (by omega) (by omega)
    have hrun : (Builtin.append_ #[U, V] T #[.slice none 0 0, .int .i64 (cnt : Int)]).run P w = .ok (.slice (some ⟨w.heap.size, 0, none⟩) cnt (grownCap w cnt 0 e))
        (w.drew.alloc (.cells (Builtin.zeroCells z'.cells cnt ++ Builtin.zeroCells z'.cells (grownCap w cnt 0 e - cnt)) e)) := by
      have hn : cnt ≠ 0 := by omega
      have h63' : ¬ (9223372036854775807 < (cnt : Int)) := by omega
      have h48' : ¬ (281474976710656 < Builtin.nextslicecap cnt 0 * it.bytes) := by rw [nextslicecap_zero h0, hbb]; omega
      have hwr : IntKind.i64.wrap (cnt : Int) = cnt := wrap64_id ⟨by omega, by omega⟩
      have hb48 : ¬ (281474976710656 < (cnt : Int) * (it.bytes : Int)) := by
        rw [hbb]
        have : ((cnt * bytes : Nat) : Int) ≤ 140737488355328 := by omega
        rw [Int.natCast_mul] at this
        omega
      have hneg : ¬ ((cnt : Int) < 0) := by omega
      simp [Builtin.append_, run_underlying hu, run_underlying hV, sizeOf, typeInfo, zeroValue, hie, hz, asInt, asIntOf, hwr, hneg, hb48, hn, h63', h48', Question.forced, run_firstCells_none, newRow, grownCap, hsz, hcm, Nat.ne_of_gt hm]
    have hexec : ∀ v' w', (Builtin.append_ #[U, V] T #[.slice none 0 0, .int .i64 (cnt : Int)]).run P w = .ok v' w' →
        (execOp a.eval ⟨some d, .call ⟨.builtin .append, #[x, y], #[U, V]⟩, T, pos, aft, g⟩).run P w = .ok (.value v') w' := by
      intro v' w' h
      simp [execOp, resolve, invoke, builtin, h1, h2, h]
    refine ⟨_, _, F, _, hexec _ _ hrun, ?_, k w.drew.heap.size⟩
    have hzlen : zs.length = m := by have := relL_len (hzl F w); simp at this; omega
    have hcells : relL F w.drew (zcells zs m (cnt * m)) (Builtin.zeroCells z'.cells cnt).toList := by
      unfold zcells Builtin.zeroCells
      rw [Array.toList_map, Array.toList_range, hzc]
      refine relL_map_range _ _ _ (fun j _ => ?_)
      exact relL_getD (hzl F w.drew) (j := j % m) (by rw [hzlen]; exact Nat.mod_lt _ hm)
    have hR := hr.drew.alloc id (xs := zcells zs m (cnt * m)) (e := e) (arr := Builtin.zeroCells z'.cells cnt ++ Builtin.zeroCells z'.cells (grownCap w cnt 0 e - cnt)) (by
      rw [Array.toList_append]
      exact relP_suffix (relP_of_relL hcells))
    refine hR.put hdn (by
      simp only [rel]
      refine ⟨grownCap w cnt 0 e, rfl, grownCap_ge w _ _ _, (fun h => by cases h), _, e, (0, 0), heap_alloc_new _ _, ?_⟩
      have hge := grownCap_ge w cnt 0 e
      simp only [Array.size_append, size_zeroCells, hzc, Nat.zero_add]
      rw [← Nat.add_mul]
      exact Nat.le_of_eq (congrArg (· * m) (by omega)))
/-- x[:0] of the nil slice. -/
theorem Run.slice_nil {x : Operand} {lo hi : Option Operand} {m : Nat} (hi' : ops[i]? = some ⟨some d, .slice U x lo hi none, T, pos, aft, g⟩) (hw : want ops s.fr ⟨some d, .slice U x lo hi none, T, pos, aft, g⟩ = some true) (hdn : Nat.blt d n = true)
    (hx : Ev s.fr x .nilsl) (hT : slB P U m = true) (hlo : Bnd s.fr lo 0 0) (hhi : Bnd s.fr hi 0 0) (k : Run C ops l Q (s.put d .nilsl)) : Run C ops (i :: l) Q s :=
  Run.pure hi' rfl hdn hw (fun F a w hr => by
    have h4 := Ev.rel hr hx
    simp only [rel] at h4
    have hsl := run_sliceAt_gen hr (ad := none) (len := 0) (cap := 0) hT hlo hhi (Nat.le_refl _) (Nat.le_refl _)
    refine ⟨.slice none 0 0, ?_, by simp only [rel]⟩
    simp only [execOp, Sem.run_bind, h4, Option.map_none, hsl, Result.andThen_ok, Sem.run_pure]
    simp) k
end ops
end
end Go.Ab
/- Places taken together and apart; lists of lists that are not written any more. -/
namespace Go.Ab
section
variable {P : Program} {n : Nat} {C : Cx P n} {Q : Post} {s : St}

/-- The blocks stand in other places. -/
theorem R.regroup {F : Nat → Prop} {a : Act} {w : World} {H' : List Ar} (hr : R C F s a w) (φ : Nat → Nat → Nat × Nat) (h : ∀ {i p b : Nat} {cs : List AV}, At H' i p b cs → At s.hp (φ i p).1 (φ i p).2 b cs)
    (hi : ∀ {i p j q b c : Nat} {cs ds : List AV}, At H' i p b cs → At H' j q c ds → φ i p = φ j q → i = j ∧ p = q) : R C F ⟨s.fr, H'⟩ a w :=
  { hr with
    sat := ⟨hr.sat.old, fun hx => hr.sat.live (h hx), fun hx hy => hi hx hy (Prod.ext (hr.sat.inj (h hx) (h hy)).1 (hr.sat.inj (h hx) (h hy)).2)⟩ }
theorem getElem?_set' {α : Type} {H : List α} {i k : Nat} {l x : α} (h : (H.set i l)[k]? = some x) : (k = i ∧ x = l) ∨ (k ≠ i ∧ H[k]? = some x) := by
  by_cases hk : k = i
  · subst hk
    by_cases hlt : k < H.length
    · rw [List.getElem?_set_self hlt] at h
      exact .inl ⟨rfl, (Option.some.inj h).symm⟩
    · rw [List.getElem?_eq_none (by simpa using hlt)] at h
      cases h
  · rw [List.getElem?_set_ne (Ne.symm hk)] at h
    exact .inr ⟨hk, h⟩
/-- The blocks of the place j go behind those of the place i. -/
theorem R.join {F : Nat → Prop} {a : Act} {w : World} (hr : R C F s a w) {i j : Nat} {x y : Ar} (hij : i ≠ j) (hx : s.hp[i]? = some x) (hy : s.hp[j]? = some y) : R C F ⟨s.fr, (s.hp.set i (x ++ y)).set j []⟩ a w := by
  refine hr.regroup (fun k p => if k = i ∧ x.length ≤ p then (j, p - x.length) else (k, p)) ?_ ?_
  · rintro k p b cs ⟨l, h1, h2⟩
    rcases getElem?_set' h1 with ⟨_, rfl⟩ | ⟨hk, h1⟩
    · simp at h2
    · rcases getElem?_set' h1 with ⟨rfl, rfl⟩ | ⟨hki, h1⟩
      · by_cases hp : x.length ≤ p
        · simp only [hp, and_self, if_true]
          rw [List.getElem?_append_right hp] at h2
          exact ⟨y, hy, h2⟩
        · simp only [hp, and_false, if_false]
          rw [List.getElem?_append_left (by omega)] at h2
          exact ⟨x, hx, h2⟩
      · simp only [hki, false_and, if_false]
        exact ⟨l, h1, h2⟩
  · rintro k p k' p' b c cs ds ⟨l, h1, h2⟩ ⟨l', h3, h4⟩ he
    have hk : k ≠ j := by
      rintro rfl
      rcases getElem?_set' h1 with ⟨_, rfl⟩ | ⟨hk, _⟩
      · simp at h2
      · exact hk rfl
    have hk' : k' ≠ j := by
      rintro rfl
      rcases getElem?_set' h3 with ⟨_, rfl⟩ | ⟨hk, _⟩
      · simp at h4
      · exact hk rfl
    split at he <;> split at he <;> simp only [Prod.mk.injEq] at he <;> omega
theorem WP.join (i j : Nat) {c : Code} {x y : Ar} (hij : i ≠ j) (hx : s.hp[i]? = some x) (hy : s.hp[j]? = some y) (k : WP C c Q ⟨s.fr, (s.hp.set i (x ++ y)).set j []⟩) : WP C c Q s := fun F a w hr => k F a w (hr.join hij hx hy)
theorem LP.join (i j : Nat) {c : Code} {x y : Ar} (hij : i ≠ j) (hx : s.hp[i]? = some x) (hy : s.hp[j]? = some y) (k : LP C c Q ⟨s.fr, (s.hp.set i (x ++ y)).set j []⟩) : LP C c Q s := fun F a w hr => k F a w (hr.join hij hx hy)
/-- The last blocks of the place i go to the place j, which is empty. -/
theorem R.split {F : Nat → Prop} {a : Act} {w : World} (hr : R C F s a w) {i j : Nat} {x y : Ar} (hij : i ≠ j) (hx : s.hp[i]? = some (x ++ y)) (hy : s.hp[j]? = some []) : R C F ⟨s.fr, (s.hp.set i x).set j y⟩ a w := by
  refine hr.regroup (fun k p => if k = j then (i, p + x.length) else (k, p)) ?_ ?_
  · rintro k p b cs ⟨l, h1, h2⟩
    rcases getElem?_set' h1 with ⟨rfl, rfl⟩ | ⟨hk, h1⟩
    · simp only [if_true]
      exact ⟨_, hx, by rw [List.getElem?_append_right (by omega)]; simpa using h2⟩
    · simp only [hk, if_false]
      rcases getElem?_set' h1 with ⟨rfl, rfl⟩ | ⟨hki, h1⟩
      · refine ⟨_, hx, ?_⟩
        rcases Nat.lt_or_ge p l.length with hp | hp
        · rw [List.getElem?_append_left hp]; exact h2
        · rw [List.getElem?_eq_none hp] at h2; cases h2
      · exact ⟨l, h1, h2⟩
  · rintro k p k' p' b c cs ds ⟨l, h1, h2⟩ ⟨l', h3, h4⟩ he
    have key : ∀ {p l}, ((s.hp.set i x).set j y)[i]? = some l → (∃ b cs, l[p]? = some (b, cs)) → p < x.length := by
      rintro p l h1 ⟨b, cs, h2⟩
      rcases getElem?_set' h1 with ⟨h, _⟩ | ⟨_, h1⟩
      · exact absurd h hij
      · rcases getElem?_set' h1 with ⟨_, rfl⟩ | ⟨h, _⟩
        · rcases Nat.lt_or_ge p l.length with hp | hp
          · exact hp
          · rw [List.getElem?_eq_none hp] at h2; cases h2
        · exact absurd rfl h
    split at he <;> split at he <;> simp only [Prod.mk.injEq] at he
    · omega
    · obtain ⟨rfl, rfl⟩ := he
      have := key h3 ⟨_, _, h4⟩
      omega
    · obtain ⟨rfl, rfl⟩ := he
      have := key h1 ⟨_, _, h2⟩
      omega
    · exact he
theorem WP.split (i j : Nat) {c : Code} (x y : Ar) (hij : i ≠ j) (hx : s.hp[i]? = some (x ++ y)) (hy : s.hp[j]? = some []) (k : WP C c Q ⟨s.fr, (s.hp.set i x).set j y⟩) : WP C c Q s := fun F a w hr => k F a w (hr.split hij hx hy)
theorem LP.split (i j : Nat) {c : Code} (x y : Ar) (hij : i ≠ j) (hx : s.hp[i]? = some (x ++ y)) (hy : s.hp[j]? = some []) (k : LP C c Q ⟨s.fr, (s.hp.set i x).set j y⟩) : LP C c Q s := fun F a w hr => k F a w (hr.split hij hx hy)

/-- Some places' blocks are given up: each place stands on one side alone. -/
inductive Apart : List Ar → List Ar → List Ar → Prop
  | nil : Apart [] [] []
  | l {x : Ar} {H K L : List Ar} (h : Apart H K L) : Apart (x :: H) (x :: K) ([] :: L)
  | r {x : Ar} {H K L : List Ar} (h : Apart H K L) : Apart (x :: H) ([] :: K) (x :: L)
theorem Apart.get {H K L : List Ar} (h : Apart H K L) : ∀ {i : Nat}, (K[i]? = H[i]? ∧ ∀ x ∈ L[i]?, x = []) ∨ (L[i]? = H[i]? ∧ ∀ x ∈ K[i]?, x = []) := by
  induction h with
  | nil => intro i; simp
  | l h ih => intro i; cases i with
    | zero => left; simp
    | succ i => simpa using ih (i := i)
  | r h ih => intro i; cases i with
    | zero => right; simp
    | succ i => simpa using ih (i := i)
theorem Apart.left {H K L : List Ar} (h : Apart H K L) {i j b : Nat} {cs : List AV} (hx : At K i j b cs) : At H i j b cs ∧ ∀ {p c : Nat} {ds : List AV}, ¬ At L i p c ds := by
  obtain ⟨l, h1, h2⟩ := hx
  rcases h.get (i := i) with ⟨e, h3⟩ | ⟨_, h3⟩
  · refine ⟨⟨l, e ▸ h1, h2⟩, ?_⟩
    rintro p c ds ⟨l', k1, k2⟩
    have := h3 l' k1
    subst this
    simp at k2
  · have := h3 l h1
    subst this
    simp at h2
theorem Apart.right {H K L : List Ar} (h : Apart H K L) {i j b : Nat} {cs : List AV} (hx : At L i j b cs) : At H i j b cs := by
  obtain ⟨l, h1, h2⟩ := hx
  rcases h.get (i := i) with ⟨_, h3⟩ | ⟨e, _⟩
  · have := h3 l h1
    subst this
    simp at h2
  · exact ⟨l, e ▸ h1, h2⟩
/-- Blocks that are not written any more; a slot is told by what it leads to in them. -/
theorem R.freezeL {F : Nat → Prop} {a : Act} {w : World} (hr : R C F s a w) {t : Nat} {x y : AV} {K L : List Ar} (ht : get s.fr t = some x) (hA : Apart s.hp K L) (hl : Lend K x y) : ∃ F', R C F' ⟨(t, y) :: s.fr, L⟩ a w := by
  have hF : ∀ k, F k → F k ∨ named K k := fun k h => .inl h
  have hk : Later F w w := later_same F w
  refine ⟨fun k => F k ∨ named K k, ⟨hr.size, hr.defers, fun u z hu => ?_, ⟨fun k h => ?_, fun hx => ?_, fun hx hy => hr.sat.inj (hA.right hx) (hA.right hy)⟩, hr.os, hr.tape, hr.output, hr.hsize, hr.block, fun k h => .inl (hr.F0 k h), fun k h => ?_, hr.elder⟩⟩
  · simp only [get] at hu
    by_cases htu : t = u
    · subst htu
      have : Nat.beq t t = true := Nat.beq_refl _
      simp only [this, cond_true, Option.some.injEq] at hu
      subst hu
      exact hl.rel hr.sat (fun h => (hA.left h).1) (hr.fr t _ ht)
    · have : Nat.beq t u = false := by
        cases hb : Nat.beq t u with
        | false => rfl
        | true => exact absurd (Nat.eq_of_beq_eq_true hb) htu
      simp only [this, cond_false] at hu
      exact rel_mono hF hk _ _ (hr.fr u z hu)
  · rcases h with h | ⟨i, j, cs, h⟩
    · exact hr.sat.old k h
    · exact (hr.sat.live (hA.left h).1).2.2.lt
  · obtain ⟨h1, h2, h3⟩ := hr.sat.live (hA.right hx)
    refine ⟨h1, ?_, h3.mono hF hk rfl⟩
    rintro (h | ⟨i, j, cs, h⟩)
    · exact h2 h
    · have := hr.sat.inj (hA.right hx) (hA.left h).1
      obtain ⟨e1, e2⟩ := this
      exact (hA.left h).2 (e1 ▸ hx)
  · rcases h with h | ⟨i, j, cs, h⟩
    · exact hr.F1 k h
    · rcases (hr.sat.live (hA.left h).1).1 with h | h
      · exact .inr (.inr h)
      · exact .inr (.inl h)
theorem WP.freezeL (t : Nat) {c : Code} {x y : AV} {K L : List Ar} (ht : get s.fr t = some x) (hA : Apart s.hp K L) (hl : Lend K x y) (k : WP C c Q ⟨(t, y) :: s.fr, L⟩) : WP C c Q s := fun _ a w hr =>
  let ⟨F', hr'⟩ := hr.freezeL ht hA hl
  k F' a w hr'
theorem LP.freezeL (t : Nat) {c : Code} {x y : AV} {K L : List Ar} (ht : get s.fr t = some x) (hA : Apart s.hp K L) (hl : Lend K x y) (k : LP C c Q ⟨(t, y) :: s.fr, L⟩) : LP C c Q s := fun _ a w hr =>
  let ⟨F', hr'⟩ := hr.freezeL ht hA hl
  k F' a w hr'

section ops
variable {ops : Array Oper} {i : Nat} {l : List Nat} {d : Nat} {T U : TypeId} {pos : String} {aft : Array Edge} {g : Option (Nat × Bool)}
theorem Run.lookupV {x y : Operand} (k : Ds) (key : List Int) (ents : List (List Int × AV)) {id b : Nat} {z v : AV} {zv : Value} (hi : ops[i]? = some ⟨some d, .lookup U x y false, T, pos, aft, g⟩) (hw : want ops s.fr ⟨some d, .lookup U x y false, T, pos, aft, g⟩ = some true) (hdn : Nat.blt d n = true)
    (hx : Ev s.fr x (.mp id b)) (hh : s.hp[id]? = some [(b, .mark :: mapC k ents)]) (hy : Ev s.fr y (k.key key)) (hB : mapB P k U = true) (hl : key.length = k.cells) (hall : ∀ e ∈ ents, e.1.length = k.cells)
    (hz : zeroA P U = some zv) (hzv : konst zv = some z) (hv : lookA ents key z = v) (kk : Run C ops l Q (s.put d v)) : Run C ops (i :: l) Q s := by
  subst hv
  exact Run.lookup k key ents hi hw hdn hx hh hy hB hl hall hz hzv kk
theorem eqGuard_bool {op : BinOp} {U : TypeId} {x y : Operand} {p q : Bool} (w : World) : (eqGuard op U x y (.bool p) (.bool q)).run P w = .ok () w := by
  unfold eqGuard
  split <;> simp
theorem run_equal_bool {U : TypeId} {p q : Bool} (w : World) (hT : P.underlying U = some .bool) : (Op.equal U (.bool p) (.bool q)).run P w = .ok (p == q) w := by
  unfold Op.equal Op.maxDepth
  rw [show (10000 : Nat) = 9999 + 1 from rfl]
  unfold Op.equalIn
  simp only [Sem.run_bind, run_underlying hT, Result.andThen_ok, Sem.run_pure]
theorem Run.neq_bool {V : TypeId} {x y : Operand} {p q : Bool} (hi : ops[i]? = some ⟨some d, .binOp .neq U x y V, T, pos, aft, g⟩) (hw : want ops s.fr ⟨some d, .binOp .neq U x y V, T, pos, aft, g⟩ = some true) (hdn : Nat.blt d n = true)
    (hx : Ev s.fr x (.bool p)) (hy : Ev s.fr y (.bool q)) (hT : P.underlying U = some .bool) (kk : Run C ops l Q (s.put d (.bool (p != q)))) : Run C ops (i :: l) Q s :=
  Run.bin hi hw hdn hx hy (fun F w u v hu hv => by
    simp only [rel] at hu hv
    subst hu hv
    exact ⟨.bool (p != q), by simp [eqGuard_bool, binOp, run_equal_bool w hT]; cases p <;> cases q <;> rfl, by simp [rel]⟩) kk
theorem Run.eql_bool {V : TypeId} {x y : Operand} {p q : Bool} (hi : ops[i]? = some ⟨some d, .binOp .eql U x y V, T, pos, aft, g⟩) (hw : want ops s.fr ⟨some d, .binOp .eql U x y V, T, pos, aft, g⟩ = some true) (hdn : Nat.blt d n = true)
    (hx : Ev s.fr x (.bool p)) (hy : Ev s.fr y (.bool q)) (hT : P.underlying U = some .bool) (kk : Run C ops l Q (s.put d (.bool (p == q)))) : Run C ops (i :: l) Q s :=
  Run.bin hi hw hdn hx hy (fun F w u v hu hv => by
    simp only [rel] at hu hv
    subst hu hv
    exact ⟨.bool (p == q), by simp [eqGuard_bool, binOp, run_equal_bool w hT], by simp [rel]⟩) kk
end ops
end
end Go.Ab
