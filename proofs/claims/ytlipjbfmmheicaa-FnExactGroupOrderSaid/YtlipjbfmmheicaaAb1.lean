/- An abstract state for walks: values, memory blocks of the call's own, snapshots that are only read; and the rules of control over it. -/
import Derived.Calls
import Derived.Below
import Derived.Laws.World
import Derived.KernelRfl
namespace Go.Ab

/-- What a slot or a cell holds. 'imm': a slice that nobody writes to any more, by its cells; 'own': a slice of the call's own block number id. -/
inductive AV where
  | int (k : IntKind) (n : Int)
  | bool (b : Bool)
  | agg (xs : List AV)
  | tup (xs : List AV)
  | imm (cs : List AV) (len : Nat)
  | immAt (cs : List AV) (off : Nat)
  | own (id b m off len cap : Nat) (opn : Bool)
  | adr (id b off : Nat)
  | nilsl
  | empty (cz : Bool)
  | fn (f : FuncId) (cap : List AV)
  | mp (id b : Nat)
  | opt (b : Bool) (x : AV)
  | junk
  | mark

mutual
def rel (F : Nat → Prop) (w : World) : AV → Value → Prop
  | .int k n, v => v = .int k n
  | .bool b, v => v = .bool b
  | .agg xs, v => ∃ vs : Array Value, v = .agg vs ∧ relL F w xs vs.toList
  | .tup xs, v => ∃ vs : Array Value, v = .tuple vs ∧ relL F w xs vs.toList
  | .imm cs len, v => ∃ a c, v = .slice a len c ∧ len ≤ c ∧
      (0 < len → ∃ b o arr e fz, a = some ⟨b, o, none⟩ ∧ F b ∧ w.heap[b]? = some (.cells arr e fz) ∧ relP F w cs (arr.toList.drop o))
  | .immAt cs off, v => ∃ b o arr e fz, v = .pointer (some ⟨b, o + off, none⟩) ∧ F b ∧ w.heap[b]? = some (.cells arr e fz) ∧ relP F w cs (arr.toList.drop o)
  | .own _ b m off len cap opn, v => ∃ c, v = .slice (some ⟨b, off, none⟩) len c ∧ cap ≤ c ∧ (opn = false → c = cap) ∧ ∃ arr e fz, w.heap[b]? = some (.cells arr e fz) ∧ off + c * m ≤ arr.size
  | .adr _ b off, v => v = .pointer (some ⟨b, off, none⟩) ∧ ∃ arr e fz, w.heap[b]? = some (.cells arr e fz)
  | .nilsl, v => v = .slice none 0 0
  | .empty cz, v => ∃ a c, v = .slice a 0 c ∧ (cz = true → c = 0)
  | .fn f cap, v => ∃ vs : Array Value, v = .func (.func f) #[] vs ∧ relL F w cap vs.toList
  | .mp _ b, v => v = .map (some b)
  | .opt b x, v => b = true → rel F w x v
  | .junk, _ => True
  | .mark, _ => False
def relL (F : Nat → Prop) (w : World) : List AV → List Value → Prop
  | [], vs => vs = []
  | x :: xs, vs => ∃ v r, vs = v :: r ∧ rel F w x v ∧ relL F w xs r
def relP (F : Nat → Prop) (w : World) : List AV → List Value → Prop
  | [], _ => True
  | x :: xs, vs => ∃ v r, vs = v :: r ∧ rel F w x v ∧ relP F w xs r
end

/-- No row of cells turns its size. -/
abbrev Sized (w w' : World) : Prop := ∀ (b : Nat) (arr : Array Value) (e : TypeId) (fz : Nat × Nat), w.heap[b]? = some (.cells arr e fz) → ∃ (arr' : Array Value) (e' : TypeId) (fz' : Nat × Nat), w'.heap[b]? = some (.cells arr' e' fz') ∧ arr'.size = arr.size
theorem Sized.refl (w : World) : Sized w w := fun _ arr e fz h => ⟨arr, e, fz, h, rfl⟩
theorem Sized.trans {a b c : World} (h : Sized a b) (k : Sized b c) : Sized a c := fun i arr e fz hi =>
  let ⟨arr', e', fz', h1, h2⟩ := h i arr e fz hi
  let ⟨arr'', e'', fz'', h3, h4⟩ := k i arr' e' fz' h1
  ⟨arr'', e'', fz'', h3, h4.trans h2⟩

/-- A later memory: what is only read stays; no row of cells turns its size. -/
structure Later (F : Nat → Prop) (w w' : World) : Prop where
  keep : ∀ b, F b → w'.heap[b]? = w.heap[b]?
  size : Sized w w'

mutual
theorem rel_mono {F F' : Nat → Prop} {w w' : World} (h : ∀ b, F b → F' b) (hk : Later F w w') : ∀ (x : AV) (v : Value), rel F w x v → rel F' w' x v
  | .int .., _, hr => by simpa [rel] using hr
  | .bool .., _, hr => by simpa [rel] using hr
  | .agg xs, v, hr => by
    simp only [rel] at hr ⊢
    obtain ⟨vs, rfl, hl⟩ := hr
    exact ⟨vs, rfl, relL_mono h hk xs _ hl⟩
  | .tup xs, v, hr => by
    simp only [rel] at hr ⊢
    obtain ⟨vs, rfl, hl⟩ := hr
    exact ⟨vs, rfl, relL_mono h hk xs _ hl⟩
  | .imm cs len, v, hr => by
    simp only [rel] at hr ⊢
    obtain ⟨a, c, rfl, hc, hp⟩ := hr
    refine ⟨a, c, rfl, hc, fun hl => ?_⟩
    obtain ⟨b, o, arr, e, fz, rfl, hF, hh, hr⟩ := hp hl
    exact ⟨b, o, arr, e, fz, rfl, h b hF, (hk.keep b hF).trans hh, relP_mono h hk cs _ hr⟩
  | .immAt cs off, v, hr => by
    simp only [rel] at hr ⊢
    obtain ⟨b, o, arr, e, fz, rfl, hF, hh, hr⟩ := hr
    exact ⟨b, o, arr, e, fz, rfl, h b hF, (hk.keep b hF).trans hh, relP_mono h hk cs _ hr⟩
  | .own id b m off len cap opn, v, hr => by
    simp only [rel] at hr ⊢
    obtain ⟨c, rfl, h1, h2, arr, e, fz, hh, h3⟩ := hr
    obtain ⟨arr', e', fz', hh', hs⟩ := hk.size b arr e fz hh
    exact ⟨c, rfl, h1, h2, arr', e', fz', hh', by omega⟩
  | .adr _ b _, v, hr => by
    simp only [rel] at hr ⊢
    obtain ⟨rfl, arr, e, fz, hh⟩ := hr
    obtain ⟨arr', e', fz', hh', _⟩ := hk.size b arr e fz hh
    exact ⟨rfl, arr', e', fz', hh'⟩
  | .nilsl, _, hr => by simpa [rel] using hr
  | .empty cz, _, hr => by simpa [rel] using hr
  | .fn f cap, v, hr => by
    simp only [rel] at hr ⊢
    obtain ⟨vs, rfl, hl⟩ := hr
    exact ⟨vs, rfl, relL_mono h hk cap _ hl⟩
  | .mp .., _, hr => by simpa [rel] using hr
  | .opt b x, v, hr => by
    simp only [rel] at hr ⊢
    exact fun hb => rel_mono h hk x v (hr hb)
  | .junk, _, _ => by simp [rel]
  | .mark, _, hr => by simp [rel] at hr
theorem relL_mono {F F' : Nat → Prop} {w w' : World} (h : ∀ b, F b → F' b) (hk : Later F w w') : ∀ (xs : List AV) (vs : List Value), relL F w xs vs → relL F' w' xs vs
  | [], _, hr => by simpa [relL] using hr
  | x :: xs, vs, hr => by
    simp only [relL] at hr ⊢
    obtain ⟨v, r, rfl, h1, h2⟩ := hr
    exact ⟨v, r, rfl, rel_mono h hk x v h1, relL_mono h hk xs r h2⟩
theorem relP_mono {F F' : Nat → Prop} {w w' : World} (h : ∀ b, F b → F' b) (hk : Later F w w') : ∀ (xs : List AV) (vs : List Value), relP F w xs vs → relP F' w' xs vs
  | [], _, _ => by simp [relP]
  | x :: xs, vs, hr => by
    simp only [relP] at hr ⊢
    obtain ⟨v, r, rfl, h1, h2⟩ := hr
    exact ⟨v, r, rfl, rel_mono h hk x v h1, relP_mono h hk xs r h2⟩
end

/-- Blocks of the call's own, each by its number and its cells: none, one, a family. -/
abbrev Ar := List (Nat × List AV)
abbrev Ar.dead : Ar := []
abbrev Ar.cells (b : Nat) (cs : List AV) : Ar := [(b, cs)]

/-- What an object holds: a row of cells; a map's entries, each as its key and its value, behind a mark that no cell bears. -/
def holds (F : Nat → Prop) (w : World) (b : Nat) (cs : List AV) : Prop :=
  (∃ arr e, w.heap[b]? = some (.cells arr e (0, 0)) ∧ relP F w cs arr.toList) ∨
  ∃ es c r, w.heap[b]? = some (.map es c) ∧ cs = .mark :: r ∧ relL F w r (es.toList.map fun e => .tuple #[e.key, e.val])
theorem holds.lt {F : Nat → Prop} {w : World} {b : Nat} {cs : List AV} (h : holds F w b cs) : b < w.heap.size := by
  have : ∀ {o : Obj}, w.heap[b]? = some o → b < w.heap.size := fun {o} h => by
    rcases Nat.lt_or_ge b w.heap.size with h' | h'
    · exact h'
    · simp [Array.getElem?_eq_none h'] at h
  rcases h with ⟨_, _, h, _⟩ | ⟨_, _, _, h, _⟩ <;> exact this h
theorem holds.mono {F F' : Nat → Prop} {w w' : World} {b : Nat} {cs : List AV} (h : holds F w b cs) (hF : ∀ b, F b → F' b) (hk : Later F w w') (hb : w'.heap[b]? = w.heap[b]?) : holds F' w' b cs := by
  rcases h with ⟨arr, e, h1, h2⟩ | ⟨es, c, r, h1, h3, h2⟩
  · exact .inl ⟨arr, e, hb.trans h1, relP_mono hF hk _ _ h2⟩
  · exact .inr ⟨es, c, r, hb.trans h1, h3, relL_mono hF hk _ _ h2⟩
theorem holds.cells {F : Nat → Prop} {w : World} {b : Nat} {cs : List AV} (h : holds F w b cs) (hc : ∃ arr e fz, w.heap[b]? = some (.cells arr e fz)) : ∃ arr e, w.heap[b]? = some (.cells arr e (0, 0)) ∧ relP F w cs arr.toList := by
  rcases h with h | ⟨es, c, _, h1, _⟩
  · exact h
  · obtain ⟨arr, e, fz, h2⟩ := hc
    rw [h1] at h2
    cases h2

theorem holds.map {F : Nat → Prop} {w : World} {b : Nat} {r : List AV} (h : holds F w b (.mark :: r)) : ∃ es c, w.heap[b]? = some (.map es c) ∧ relL F w r (es.toList.map fun e => .tuple #[e.key, e.val]) := by
  rcases h with ⟨arr, e, _, h2⟩ | ⟨es, c, r', h1, h3, h2⟩
  · simp only [relP, rel, false_and, and_false, exists_false] at h2
  · cases h3
    exact ⟨es, c, h1, h2⟩

def liveAt (ok : Nat → Prop) (F : Nat → Prop) (w : World) (b : Nat) (cs : List AV) : Prop :=
  ok b ∧ ¬ F b ∧ holds F w b cs

/-- Where a block stands in the state. -/
def At (H : List Ar) (id j b : Nat) (cs : List AV) : Prop := ∃ l, H[id]? = some l ∧ l[j]? = some (b, cs)

structure Sat (ok : Nat → Prop) (F : Nat → Prop) (H : List Ar) (w : World) : Prop where
  old : ∀ b, F b → b < w.heap.size
  live : ∀ {id j b : Nat} {cs : List AV}, At H id j b cs → liveAt ok F w b cs
  inj : ∀ {i j p q b : Nat} {cs cs' : List AV}, At H i p b cs → At H j q b cs' → i = j ∧ p = q

theorem At.one {H : List Ar} {id b : Nat} {cs : List AV} (h : H[id]? = some [(b, cs)]) : At H id 0 b cs := ⟨_, h, rfl⟩

theorem At.lt {H : List Ar} {id j b : Nat} {cs : List AV} (h : At H id j b cs) : id < H.length := by
  obtain ⟨l, h, _⟩ := h
  rcases Nat.lt_or_ge id H.length with h' | h'
  · exact h'
  · simp [List.getElem?_eq_none h'] at h

/-- Behind a place that is written anew. -/
theorem At.set {H : List Ar} {id k j b : Nat} {l : Ar} {cs : List AV} (h : At (H.set id l) k j b cs) : (k = id ∧ l[j]? = some (b, cs)) ∨ (k ≠ id ∧ At H k j b cs) := by
  obtain ⟨l', h1, h2⟩ := h
  by_cases hk : k = id
  · subst hk
    by_cases hlt : k < H.length
    · rw [List.getElem?_set_self hlt] at h1
      cases h1
      exact .inl ⟨rfl, h2⟩
    · rw [List.getElem?_eq_none (by simpa using hlt)] at h1
      cases h1
  · rw [List.getElem?_set_ne (Ne.symm hk)] at h1
    exact .inr ⟨hk, l', h1, h2⟩

def get : List (Nat × AV) → Nat → Option AV
  | [], _ => none
  | (a, v) :: r, b => bif Nat.beq a b then some v else get r b

structure St where
  fr : List (Nat × AV)
  hp : List Ar

/-- A call, in the program P, of a function of n slots: the blocks that its arguments' snapshots lie in; the elder blocks that it may write to; the world in which it began. -/
structure Cx (P : Program) (n : Nat) where
  F : Nat → Prop
  W : Nat → Prop
  w : World

section
variable {P : Program} {n : Nat}
def Cx.ok (C : Cx P n) (b : Nat) : Prop := C.W b ∨ C.w.heap.size ≤ b

structure R (C : Cx P n) (F : Nat → Prop) (s : St) (a : Act) (w : World) : Prop where
  size : a.tmps.size = n
  defers : a.defers = []
  fr : ∀ t x, get s.fr t = some x → rel F w x (a.tmps.getD t undef)
  sat : Sat C.ok F s.hp w
  os : w.os = C.w.os
  tape : w.tape = C.w.tape
  output : w.output = C.w.output
  hsize : C.w.heap.size ≤ w.heap.size
  block : ∀ b, b < C.w.heap.size → ¬ C.W b → w.heap[b]? = C.w.heap[b]?
  F0 : ∀ b, C.F b → F b
  F1 : ∀ b, F b → C.F b ∨ C.w.heap.size ≤ b ∨ C.W b
  elder : Sized C.w w

abbrev Post := Exit → St → Prop

def lift (C : Cx P n) (Q : Post) (e : Exit) (a : Act) (w : World) : Prop := ∃ F s, R C F s a w ∧ Q e s

/-- From every memory that the state tells, the code comes to an ending that Q lets by. -/
def WP (C : Cx P n) (c : Code) (Q : Post) (s : St) : Prop := ∀ F a w, R C F s a w → c.wp P (lift C Q) a w

section control
variable {C : Cx P n} {Q Q' : Post} {s : St}

theorem WP.mono {c : Code} (h : WP C c Q s) (hq : ∀ e s, Q e s → Q' e s) : WP C c Q' s :=
  fun F a w hr => wp_mono (h F a w hr) fun _ _ _ ⟨F', s', hr', q⟩ => ⟨F', s', hr', hq _ _ q⟩

abbrev after (next : St → Prop) (Q : Post) : Post
  | .normal, s => next s
  | e, s => Q e s

theorem lift_after {x : Code} {next : St → Prop} {K : Act → World → Prop} {a : Act} {w : World} (h : x.wp P (lift C (after next Q)) a w)
    (hk : ∀ F s a w, R C F s a w → next s → K a w) : x.wp P (Exit.then K (lift C Q)) a w :=
  wp_mono h fun e a w ⟨F, s, hr, q⟩ => by
    cases e <;> first | exact hk F s a w hr q | exact ⟨F, s, hr, q⟩

theorem WP.seq {x y : Code} (h : WP C x (after (WP C y Q) Q) s) : WP C (.seq x y) Q s :=
  fun F a w hr => wp_seq (lift_after (h F a w hr) fun F' _ a' w' hr' hy => hy F' a' w' hr')

theorem WP.skip (h : Q .normal s) : WP C .skip Q s := fun F _ _ hr => wp_skip ⟨F, s, hr, h⟩
theorem WP.exit {id : Nat} (h : Q (.exit id) s) : WP C (.exit id) Q s := fun F _ _ hr => wp_exit ⟨F, s, hr, h⟩
theorem WP.ret (h : Q .ret s) : WP C .ret Q s := fun F _ _ hr => wp_ret ⟨F, s, hr, h⟩

abbrev inBlk (id : Nat) (Q : Post) : Post
  | .exit id', s => bif Nat.beq id' id then Q .normal s else Q (.exit id') s
  | e, s => Q e s

theorem WP.block {id : Nat} {c : Code} (h : WP C c (inBlk id Q) s) : WP C (.block id c) Q s :=
  fun F a w hr => wp_block (wp_mono (h F a w hr) fun e a w ⟨F, s, hr, q⟩ => by
    cases e with
    | exit id' =>
      by_cases hid : id' = id
      · subst hid
        have : Nat.beq id' id' = true := Nat.beq_refl _
        simp only [inBlk, this, cond_true] at q
        simp only [Exit.inBlock, if_true]
        exact ⟨F, s, hr, q⟩
      · have : Nat.beq id' id = false := by
          cases hb : Nat.beq id' id with
          | false => rfl
          | true => exact absurd (Nat.eq_of_beq_eq_true hb) hid
        simp only [inBlk, this, cond_false] at q
        simp only [Exit.inBlock, hid, if_false]
        exact ⟨F, s, hr, q⟩
    | _ => exact ⟨F, s, hr, q⟩)

/-- At the head of a loop's round. -/
def loopHead (P : Program) (c : Code) (Q : Exit → Act → World → Prop) (a : Act) (w : World) : Prop :=
  ∀ (b : Frame) (k : List Item) (cs : List Frame), ∃ e a' w', Q e a' w' ∧ Arrives P (lone (b.at a (.code c :: .inLoop c :: k)) cs w) b k cs e a' w'

theorem wp_of_loopHead {c : Code} {Q : Exit → Act → World → Prop} {a : Act} {w : World} (h : loopHead P c Q a w) : (Code.loop c).wp P Q a w :=
  fun b k cs => let ⟨e, a', w', q, r⟩ := h b k cs; ⟨e, a', w', q, .of_steps (.one step_loop) r⟩

theorem loopHead_round {c : Code} {Q : Exit → Act → World → Prop} {a : Act} {w : World}
    (h : c.wp P (Exit.then (loopHead P c Q) Q) a w) : loopHead P c Q a w := by
  intro b k cs
  obtain ⟨e, a₁, w₁, hq, harr⟩ := h b (.inLoop c :: k) cs
  cases e with
  | normal =>
    obtain ⟨e₂, a₂, w₂, hq₂, harr₂⟩ := hq b k cs
    exact ⟨e₂, a₂, w₂, hq₂, .of_steps (Steps.trans harr (.one step_inLoop)) harr₂⟩
  | exit id => exact ⟨_, a₁, w₁, hq, .pass (x := .inLoop c) rfl (fun _ _ => .inl (by simp)) harr⟩
  | goto l => exact ⟨_, a₁, w₁, hq, .pass (x := .inLoop c) rfl (fun _ _ => .inl (by simp)) harr⟩
  | ret => exact ⟨_, a₁, w₁, hq, .pass (x := .inLoop c) rfl (fun _ _ => .inl (by simp)) harr⟩
  | panic ch => exact ⟨_, a₁, w₁, hq, .pass (x := .inLoop c) rfl (fun _ _ => .inl (by simp)) harr⟩
  | outgrown => exact ⟨_, a₁, w₁, hq, .pass (x := .inLoop c) rfl (fun _ _ => .inl (by simp)) harr⟩

/-- The state at the head of a round of the loop over c. -/
def LP (C : Cx P n) (c : Code) (Q : Post) (s : St) : Prop := ∀ F a w, R C F s a w → loopHead P c (lift C Q) a w

theorem WP.loop {c : Code} (h : LP C c Q s) : WP C (.loop c) Q s := fun F a w hr => wp_of_loopHead (h F a w hr)

theorem LP.round {c : Code} (h : WP C c (after (LP C c Q) Q) s) : LP C c Q s :=
  fun F a w hr => loopHead_round (lift_after (h F a w hr) fun F' _ a' w' hr' hy => hy F' a' w' hr')

/-- The test of an 'if'. -/
def ev (fr : List (Nat × AV)) : Operand → Option AV
  | .tmp t => get fr t
  | .const (.int k n) => some (.int k n)
  | .const (.bool b) => some (.bool b)
  | .const (.slice none 0 0) => some .nilsl
  | .func f => some (.fn f [])
  | _ => none

theorem ev_rel {F : Nat → Prop} {a : Act} {w : World} (hr : R C F s a w) : ∀ {o : Operand} {x : AV}, ev s.fr o = some x → rel F w x (a.eval o) := by
  intro o x h
  unfold ev at h
  split at h
  · exact hr.fr _ _ h
  · cases h; simp [rel, Act.eval]
  · cases h; simp [rel, Act.eval]
  · cases h; simp [rel, Act.eval]
  · cases h; simp [rel, relL, Act.eval]
  · cases h

/-- What an operand reads as; behind a guard that is met, what the guard has let by. -/
inductive Ev (fr : List (Nat × AV)) (o : Operand) : AV → Prop where
  | at {x : AV} (h : ev fr o = some x) : Ev fr o x
  | opt {b : Bool} {x : AV} (h : ev fr o = some (.opt b x)) (hb : b = true) : Ev fr o x

theorem Ev.rel {F : Nat → Prop} {a : Act} {w : World} (hr : R C F s a w) {o : Operand} {x : AV} (h : Ev s.fr o x) : rel F w x (a.eval o) := by
  rcases h with h | ⟨h, hb⟩
  · exact ev_rel hr h
  · have := ev_rel hr h
    simp only [Ab.rel] at this
    exact this hb

theorem WP.cond {c : Operand} {x y : Code} {t : Bool} (hc : Ev s.fr c (.bool t)) (ht : t = true → WP C x Q s) (hf : t = false → WP C y Q s) : WP C (.cond c x y) Q s :=
  fun F a w hr => wp_cond_split (by simpa [Ab.rel] using Ev.rel hr hc) (fun h => ht h F a w hr) (fun h => hf h F a w hr)

theorem WP.cond_t {c : Operand} {x y : Code} {t : Bool} (hc : Ev s.fr c (.bool t)) (ht : t = true) (h : WP C x Q s) : WP C (.cond c x y) Q s :=
  WP.cond hc (fun _ => h) (fun hf => by rw [ht] at hf; cases hf)
theorem WP.cond_f {c : Operand} {x y : Code} {t : Bool} (hc : Ev s.fr c (.bool t)) (ht : t = false) (h : WP C y Q s) : WP C (.cond c x y) Q s :=
  WP.cond hc (fun hf => by rw [ht] at hf; cases hf) (fun _ => h)
end control
end
end Go.Ab
