import Derived.Calls
import Derived.Below
import Derived.Laws.World
import Derived.KernelRfl
import Derived.Laws.Sem
import Derived.Laws.Tables
import Derived.Laws.Slices
import Derived.Laws.Append
import Derived.Laws.MakeOwn
import Derived.Laws.CopyRow
/- An abstract state for walks: values, memory blocks of the call's own, snapshots that are only read; and the rules of control over it. -/
namespace Go.Ab

/-- What a slot or a cell holds. 'imm': a slice that nobody writes to any more, by its cells; 'own': a slice of the call's own block number id. -/
inductive AV where
  | int (k : IntKind) (n : Int)
  | bool (b : Bool)
  | agg (xs : List AV)
  | tup (xs : List AV)
  | imm (cs : List AV) (len : Nat)
  | immAt (cs : List AV) (off : Nat)
  | own (id b m off len cap : Nat) (opn : Bool)
  | adr (id b off : Nat)
  | nilsl
  | empty (cz : Bool)
  | fn (f : FuncId) (cap : List AV)
  | mp (id b : Nat)
  | opt (b : Bool) (x : AV)
  | junk
  | mark

mutual
def rel (F : Nat → Prop) (w : World) : AV → Value → Prop
  | .int k n, v => v = .int k n
  | .bool b, v => v = .bool b
  | .agg xs, v => ∃ vs : Array Value, v = .agg vs ∧ relL F w xs vs.toList
  | .tup xs, v => ∃ vs : Array Value, v = .tuple vs ∧ relL F w xs vs.toList
  | .imm cs len, v => ∃ a c, v = .slice a len c ∧ len ≤ c ∧
      (0 < len → ∃ b o arr e fz, a = some ⟨b, o, none⟩ ∧ F b ∧ w.heap[b]? = some (.cells arr e fz) ∧ relP F w cs (arr.toList.drop o))
  | .immAt cs off, v => ∃ b o arr e fz, v = .pointer (some ⟨b, o + off, none⟩) ∧ F b ∧ w.heap[b]? = some (.cells arr e fz) ∧ relP F w cs (arr.toList.drop o)
  | .own _ b m off len cap opn, v => ∃ c, v = .slice (some ⟨b, off, none⟩) len c ∧ cap ≤ c ∧ (opn = false → c = cap) ∧ ∃ arr e fz, w.heap[b]? = some (.cells arr e fz) ∧ off + c * m ≤ arr.size
  | .adr _ b off, v => v = .pointer (some ⟨b, off, none⟩) ∧ ∃ arr e fz, w.heap[b]? = some (.cells arr e fz)
  | .nilsl, v => v = .slice none 0 0
  | .empty cz, v => ∃ a c, v = .slice a 0 c ∧ (cz = true → c = 0)
  | .fn f cap, v => ∃ vs : Array Value, v = .func (.func f) #[] vs ∧ relL F w cap vs.toList
  | .mp _ b, v => v = .map (some b)
  | .opt b x, v => b = true → rel F w x v
  | .junk, _ => True
  | .mark, _ => False
def relL (F : Nat → Prop) (w : World) : List AV → List Value → Prop
  | [], vs => vs = []
  | x :: xs, vs => ∃ v r, vs = v :: r ∧ rel F w x v ∧ relL F w xs r
def relP (F : Nat → Prop) (w : World) : List AV → List Value → Prop
  | [], _ => True
  | x :: xs, vs => ∃ v r, vs = v :: r ∧ rel F w x v ∧ relP F w xs r
end

/-- No row of cells turns its size. -/
abbrev Sized (w w' : World) : Prop := ∀ (b : Nat) (arr : Array Value) (e : TypeId) (fz : Nat × Nat), w.heap[b]? = some (.cells arr e fz) → ∃ (arr' : Array Value) (e' : TypeId) (fz' : Nat × Nat), w'.heap[b]? = some (.cells arr' e' fz') ∧ arr'.size = arr.size
theorem Sized.refl (w : World) : Sized w w := fun _ arr e fz h => ⟨arr, e, fz, h, rfl⟩
theorem Sized.trans {a b c : World} (h : Sized a b) (k : Sized b c) : Sized a c := fun i arr e fz hi =>
  let ⟨arr', e', fz', h1, h2⟩ := h i arr e fz hi
  let ⟨arr'', e'', fz'', h3, h4⟩ := k i arr' e' fz' h1
  ⟨arr'', e'', fz'', h3, h4.trans h2⟩

/-- A later memory: what is only read stays; no row of cells turns its size. -/
structure Later (F : Nat → Prop) (w w' : World) : Prop where
  keep : ∀ b, F b → w'.heap[b]? = w.heap[b]?
  size : Sized w w'

mutual
theorem rel_mono {F F' : Nat → Prop} {w w' : World} (h : ∀ b, F b → F' b) (hk : Later F w w') : ∀ (x : AV) (v : Value), rel F w x v → rel F' w' x v
  | .int .., _, hr => by simpa [rel] using hr
  | .bool .., _, hr => by simpa [rel] using hr
  | .agg xs, v, hr => by
    simp only [rel] at hr ⊢
    obtain ⟨vs, rfl, hl⟩ := hr
    exact ⟨vs, rfl, relL_mono h hk xs _ hl⟩
  | .tup xs, v, hr => by
    simp only [rel] at hr ⊢
    obtain ⟨vs, rfl, hl⟩ := hr
    exact ⟨vs, rfl, relL_mono h hk xs _ hl⟩
  | .imm cs len, v, hr => by
    simp only [rel] at hr ⊢
    obtain ⟨a, c, rfl, hc, hp⟩ := hr
    refine ⟨a, c, rfl, hc, fun hl => ?_⟩
    obtain ⟨b, o, arr, e, fz, rfl, hF, hh, hr⟩ := hp hl
    exact ⟨b, o, arr, e, fz, rfl, h b hF, (hk.keep b hF).trans hh, relP_mono h hk cs _ hr⟩
  | .immAt cs off, v, hr => by
    simp only [rel] at hr ⊢
    obtain ⟨b, o, arr, e, fz, rfl, hF, hh, hr⟩ := hr
    exact ⟨b, o, arr, e, fz, rfl, h b hF, (hk.keep b hF).trans hh, relP_mono h hk cs _ hr⟩
  | .own id b m off len cap opn, v, hr => by
    simp only [rel] at hr ⊢
    obtain ⟨c, rfl, h1, h2, arr, e, fz, hh, h3⟩ := hr
    obtain ⟨arr', e', fz', hh', hs⟩ := hk.size b arr e fz hh
    exact ⟨c, rfl, h1, h2, arr', e', fz', hh', by omega⟩
  | .adr _ b _, v, hr => by
    simp only [rel] at hr ⊢
    obtain ⟨rfl, arr, e, fz, hh⟩ := hr
    obtain ⟨arr', e', fz', hh', _⟩ := hk.size b arr e fz hh
    exact ⟨rfl, arr', e', fz', hh'⟩
  | .nilsl, _, hr => by simpa [rel] using hr
  | .empty cz, _, hr => by simpa [rel] using hr
  | .fn f cap, v, hr => by
    simp only [rel] at hr ⊢
    obtain ⟨vs, rfl, hl⟩ := hr
    exact ⟨vs, rfl, relL_mono h hk cap _ hl⟩
  | .mp .., _, hr => by simpa [rel] using hr
  | .opt b x, v, hr => by
    simp only [rel] at hr ⊢
    exact fun hb => rel_mono h hk x v (hr hb)
  | .junk, _, _ => by simp [rel]
  | .mark, _, hr => by simp [rel] at hr
theorem relL_mono {F F' : Nat → Prop} {w w' : World} (h : ∀ b, F b → F' b) (hk : Later F w w') : ∀ (xs : List AV) (vs : List Value), relL F w xs vs → relL F' w' xs vs
  | [], _, hr => by simpa [relL] using hr
  | x :: xs, vs, hr => by
    simp only [relL] at hr ⊢
    obtain ⟨v, r, rfl, h1, h2⟩ := hr
    exact ⟨v, r, rfl, rel_mono h hk x v h1, relL_mono h hk xs r h2⟩
theorem relP_mono {F F' : Nat → Prop} {w w' : World} (h : ∀ b, F b → F' b) (hk : Later F w w') : ∀ (xs : List AV) (vs : List Value), relP F w xs vs → relP F' w' xs vs
  | [], _, _ => by simp [relP]
  | x :: xs, vs, hr => by
    simp only [relP] at hr ⊢
    obtain ⟨v, r, rfl, h1, h2⟩ := hr
    exact ⟨v, r, rfl, rel_mono h hk x v h1, relP_mono h hk xs r h2⟩
end

/-- Blocks of the call's own, each by its number and its cells: none, one, a family. -/
abbrev Ar := List (Nat × List AV)
abbrev Ar.dead : Ar := []
abbrev Ar.cells (b : Nat) (cs : List AV) : Ar := [(b, cs)]

/-- What an object holds: a row of cells; a map's entries, each as its key and its value, behind a mark that no cell bears. -/
def holds (F : Nat → Prop) (w : World) (b : Nat) (cs : List AV) : Prop :=
  (∃ arr e, w.heap[b]? = some (.cells arr e (0, 0)) ∧ relP F w cs arr.toList) ∨
  ∃ es c r, w.heap[b]? = some (.map es c) ∧ cs = .mark :: r ∧ relL F w r (es.toList.map fun e => .tuple #[e.key, e.val])
theorem holds.lt {F : Nat → Prop} {w : World} {b : Nat} {cs : List AV} (h : holds F w b cs) : b < w.heap.size := by
  have : ∀ {o : Obj}, w.heap[b]? = some o → b < w.heap.size := fun {o} h => by
    rcases Nat.lt_or_ge b w.heap.size with h' | h'
    · exact h'
    · simp [Array.getElem?_eq_none h'] at h
  rcases h with ⟨_, _, h, _⟩ | ⟨_, _, _, h, _⟩ <;> exact this h
theorem holds.mono {F F' : Nat → Prop} {w w' : World} {b : Nat} {cs : List AV} (h : holds F w b cs) (hF : ∀ b, F b → F' b) (hk : Later F w w') (hb : w'.heap[b]? = w.heap[b]?) : holds F' w' b cs := by
  rcases h with ⟨arr, e, h1, h2⟩ | ⟨es, c, r, h1, h3, h2⟩
  · exact .inl ⟨arr, e, hb.trans h1, relP_mono hF hk _ _ h2⟩
  · exact .inr ⟨es, c, r, hb.trans h1, h3, relL_mono hF hk _ _ h2⟩
theorem holds.cells {F : Nat → Prop} {w : World} {b : Nat} {cs : List AV} (h : holds F w b cs) (hc : ∃ arr e fz, w.heap[b]? = some (.cells arr e fz)) : ∃ arr e, w.heap[b]? = some (.cells arr e (0, 0)) ∧ relP F w cs arr.toList := by
  rcases h with h | ⟨es, c, _, h1, _⟩
  · exact h
  · obtain ⟨arr, e, fz, h2⟩ := hc
    rw [h1] at h2
    cases h2

theorem holds.map {F : Nat → Prop} {w : World} {b : Nat} {r : List AV} (h : holds F w b (.mark :: r)) : ∃ es c, w.heap[b]? = some (.map es c) ∧ relL F w r (es.toList.map fun e => .tuple #[e.key, e.val]) := by
  rcases h with ⟨arr, e, _, h2⟩ | ⟨es, c, r', h1, h3, h2⟩
  · simp only [relP, rel, false_and, and_false, exists_false] at h2
  · cases h3
    exact ⟨es, c, h1, h2⟩

def liveAt (ok : Nat → Prop) (F : Nat → Prop) (w : World) (b : Nat) (cs : List AV) : Prop :=
  ok b ∧ ¬ F b ∧ holds F w b cs

/-- Where a block stands in the state. -/
def At (H : List Ar) (id j b : Nat) (cs : List AV) : Prop := ∃ l, H[id]? = some l ∧ l[j]? = some (b, cs)

structure Sat (ok : Nat → Prop) (F : Nat → Prop) (H : List Ar) (w : World) : Prop where
  old : ∀ b, F b → b < w.heap.size
  live : ∀ {id j b : Nat} {cs : List AV}, At H id j b cs → liveAt ok F w b cs
  inj : ∀ {i j p q b : Nat} {cs cs' : List AV}, At H i p b cs → At H j q b cs' → i = j ∧ p = q

theorem At.one {H : List Ar} {id b : Nat} {cs : List AV} (h : H[id]? = some [(b, cs)]) : At H id 0 b cs := ⟨_, h, rfl⟩

theorem At.lt {H : List Ar} {id j b : Nat} {cs : List AV} (h : At H id j b cs) : id < H.length := by
  obtain ⟨l, h, _⟩ := h
  rcases Nat.lt_or_ge id H.length with h' | h'
  · exact h'
  · simp [List.getElem?_eq_none h'] at h

/-- Behind a place that is written anew. -/
theorem At.set {H : List Ar} {id k j b : Nat} {l : Ar} {cs : List AV} (h : At (H.set id l) k j b cs) : (k = id ∧ l[j]? = some (b, cs)) ∨ (k ≠ id ∧ At H k j b cs) := by
  obtain ⟨l', h1, h2⟩ := h
  by_cases hk : k = id
  · subst hk
    by_cases hlt : k < H.length
    · rw [List.getElem?_set_self hlt] at h1
      cases h1
      exact .inl ⟨rfl, h2⟩
    · rw [List.getElem?_eq_none (by simpa using hlt)] at h1
      cases h1
  · rw [List.getElem?_set_ne (Ne.symm hk)] at h1
    exact .inr ⟨hk, l', h1, h2⟩

def get : List (Nat × AV) → Nat → Option AV
  | [], _ => none
  | (a, v) :: r, b => bif Nat.beq a b then some v else get r b

structure St where
  fr : List (Nat × AV)
  hp : List Ar

/-- A call, in the program P, of a function of n slots: the blocks that its arguments' snapshots lie in; the elder blocks that it may write to; the world in which it began. -/
structure Cx (P : Program) (n : Nat) where
  F : Nat → Prop
  W : Nat → Prop
  w : World

section
variable {P : Program} {n : Nat}
def Cx.ok (C : Cx P n) (b : Nat) : Prop := C.W b ∨ C.w.heap.size ≤ b

structure R (C : Cx P n) (F : Nat → Prop) (s : St) (a : Act) (w : World) : Prop where
  size : a.tmps.size = n
  defers : a.defers = []
  fr : ∀ t x, get s.fr t = some x → rel F w x (a.tmps.getD t undef)
  sat : Sat C.ok F s.hp w
  os : w.os = C.w.os
  tape : w.tape = C.w.tape
  output : w.output = C.w.output
  hsize : C.w.heap.size ≤ w.heap.size
  block : ∀ b, b < C.w.heap.size → ¬ C.W b → w.heap[b]? = C.w.heap[b]?
  F0 : ∀ b, C.F b → F b
  F1 : ∀ b, F b → C.F b ∨ C.w.heap.size ≤ b ∨ C.W b
  elder : Sized C.w w

abbrev Post := Exit → St → Prop

def lift (C : Cx P n) (Q : Post) (e : Exit) (a : Act) (w : World) : Prop := ∃ F s, R C F s a w ∧ Q e s

/-- From every memory that the state tells, the code comes to an ending that Q lets by. -/
def WP (C : Cx P n) (c : Code) (Q : Post) (s : St) : Prop := ∀ F a w, R C F s a w → c.wp P (lift C Q) a w

section control
variable {C : Cx P n} {Q Q' : Post} {s : St}

theorem WP.mono {c : Code} (h : WP C c Q s) (hq : ∀ e s, Q e s → Q' e s) : WP C c Q' s :=
  fun F a w hr => wp_mono (h F a w hr) fun _ _ _ ⟨F', s', hr', q⟩ => ⟨F', s', hr', hq _ _ q⟩

abbrev after (next : St → Prop) (Q : Post) : Post
  | .normal, s => next s
  | e, s => Q e s

theorem lift_after {x : Code} {next : St → Prop} {K : Act → World → Prop} {a : Act} {w : World} (h : x.wp P (lift C (after next Q)) a w)
    (hk : ∀ F s a w, R C F s a w → next s → K a w) : x.wp P (Exit.then K (lift C Q)) a w :=
  wp_mono h fun e a w ⟨F, s, hr, q⟩ => by
    cases e <;> first | exact hk F s a w hr q | exact ⟨F, s, hr, q⟩

theorem WP.seq {x y : Code} (h : WP C x (after (WP C y Q) Q) s) : WP C (.seq x y) Q s :=
  fun F a w hr => wp_seq (lift_after (h F a w hr) fun F' _ a' w' hr' hy => hy F' a' w' hr')

theorem WP.skip (h : Q .normal s) : WP C .skip Q s := fun F _ _ hr => wp_skip ⟨F, s, hr, h⟩
theorem WP.exit {id : Nat} (h : Q (.exit id) s) : WP C (.exit id) Q s := fun F _ _ hr => wp_exit ⟨F, s, hr, h⟩
theorem WP.ret (h : Q .ret s) : WP C .ret Q s := fun F _ _ hr => wp_ret ⟨F, s, hr, h⟩

abbrev inBlk (id : Nat) (Q : Post) : Post
  | .exit id', s => bif Nat.beq id' id then Q .normal s else Q (.exit id') s
  | e, s => Q e s

theorem WP.block {id : Nat} {c : Code} (h : WP C c (inBlk id Q) s) : WP C (.block id c) Q s :=
  fun F a w hr => wp_block (wp_mono (h F a w hr) fun e a w ⟨F, s, hr, q⟩ => by
    cases e with
    | exit id' =>
      by_cases hid : id' = id
      · subst hid
        have : Nat.beq id' id' = true := Nat.beq_refl _
        simp only [inBlk, this, cond_true] at q
        simp only [Exit.inBlock, if_true]
        exact ⟨F, s, hr, q⟩
      · have : Nat.beq id' id = false := by
          cases hb : Nat.beq id' id with
          | false => rfl
          | true => exact absurd (Nat.eq_of_beq_eq_true hb) hid
        simp only [inBlk, this, cond_false] at q
        simp only [Exit.inBlock, hid, if_false]
        exact ⟨F, s, hr, q⟩
    | _ => exact ⟨F, s, hr, q⟩)

/-- At the head of a loop's round. -/
def loopHead (P : Program) (c : Code) (Q : Exit → Act → World → Prop) (a : Act) (w : World) : Prop :=
  ∀ (b : Frame) (k : List Item) (cs : List Frame), ∃ e a' w', Q e a' w' ∧ Arrives P (lone (b.at a (.code c :: .inLoop c :: k)) cs w) b k cs e a' w'

theorem wp_of_loopHead {c : Code} {Q : Exit → Act → World → Prop} {a : Act} {w : World} (h : loopHead P c Q a w) : (Code.loop c).wp P Q a w :=
  fun b k cs => let ⟨e, a', w', q, r⟩ := h b k cs; ⟨e, a', w', q, .of_steps (.one step_loop) r⟩

theorem loopHead_round {c : Code} {Q : Exit → Act → World → Prop} {a : Act} {w : World}
    (h : c.wp P (Exit.then (loopHead P c Q) Q) a w) : loopHead P c Q a w := by
  intro b k cs
  obtain ⟨e, a₁, w₁, hq, harr⟩ := h b (.inLoop c :: k) cs
  cases e with
  | normal =>
    obtain ⟨e₂, a₂, w₂, hq₂, harr₂⟩ := hq b k cs
    exact ⟨e₂, a₂, w₂, hq₂, .of_steps (Steps.trans harr (.one step_inLoop)) harr₂⟩
  | exit id => exact ⟨_, a₁, w₁, hq, .pass (x := .inLoop c) rfl (fun _ _ => .inl (by simp)) harr⟩
  | goto l => exact ⟨_, a₁, w₁, hq, .pass (x := .inLoop c) rfl (fun _ _ => .inl (by simp)) harr⟩
  | ret => exact ⟨_, a₁, w₁, hq, .pass (x := .inLoop c) rfl (fun _ _ => .inl (by simp)) harr⟩
  | panic ch => exact ⟨_, a₁, w₁, hq, .pass (x := .inLoop c) rfl (fun _ _ => .inl (by simp)) harr⟩
  | outgrown => exact ⟨_, a₁, w₁, hq, .pass (x := .inLoop c) rfl (fun _ _ => .inl (by simp)) harr⟩

/-- The state at the head of a round of the loop over c. -/
def LP (C : Cx P n) (c : Code) (Q : Post) (s : St) : Prop := ∀ F a w, R C F s a w → loopHead P c (lift C Q) a w

theorem WP.loop {c : Code} (h : LP C c Q s) : WP C (.loop c) Q s := fun F a w hr => wp_of_loopHead (h F a w hr)

theorem LP.round {c : Code} (h : WP C c (after (LP C c Q) Q) s) : LP C c Q s :=
  fun F a w hr => loopHead_round (lift_after (h F a w hr) fun F' _ a' w' hr' hy => hy F' a' w' hr')

/-- The test of an 'if'. -/
def ev (fr : List (Nat × AV)) : Operand → Option AV
  | .tmp t => get fr t
  | .const (.int k n) => some (.int k n)
  | .const (.bool b) => some (.bool b)
  | .const (.slice none 0 0) => some .nilsl
  | .func f => some (.fn f [])
  | _ => none

theorem ev_rel {F : Nat → Prop} {a : Act} {w : World} (hr : R C F s a w) : ∀ {o : Operand} {x : AV}, ev s.fr o = some x → rel F w x (a.eval o) := by
  intro o x h
  unfold ev at h
  split at h
  · exact hr.fr _ _ h
  · cases h; simp [rel, Act.eval]
  · cases h; simp [rel, Act.eval]
  · cases h; simp [rel, Act.eval]
  · cases h; simp [rel, relL, Act.eval]
  · cases h

/-- What an operand reads as; behind a guard that is met, what the guard has let by. -/
inductive Ev (fr : List (Nat × AV)) (o : Operand) : AV → Prop where
  | at {x : AV} (h : ev fr o = some x) : Ev fr o x
  | opt {b : Bool} {x : AV} (h : ev fr o = some (.opt b x)) (hb : b = true) : Ev fr o x

theorem Ev.rel {F : Nat → Prop} {a : Act} {w : World} (hr : R C F s a w) {o : Operand} {x : AV} (h : Ev s.fr o x) : rel F w x (a.eval o) := by
  rcases h with h | ⟨h, hb⟩
  · exact ev_rel hr h
  · have := ev_rel hr h
    simp only [Ab.rel] at this
    exact this hb

theorem WP.cond {c : Operand} {x y : Code} {t : Bool} (hc : Ev s.fr c (.bool t)) (ht : t = true → WP C x Q s) (hf : t = false → WP C y Q s) : WP C (.cond c x y) Q s :=
  fun F a w hr => wp_cond_split (by simpa [Ab.rel] using Ev.rel hr hc) (fun h => ht h F a w hr) (fun h => hf h F a w hr)

theorem WP.cond_t {c : Operand} {x y : Code} {t : Bool} (hc : Ev s.fr c (.bool t)) (ht : t = true) (h : WP C x Q s) : WP C (.cond c x y) Q s :=
  WP.cond hc (fun _ => h) (fun hf => by rw [ht] at hf; cases hf)
theorem WP.cond_f {c : Operand} {x y : Code} {t : Bool} (hc : Ev s.fr c (.bool t)) (ht : t = false) (h : WP C y Q s) : WP C (.cond c x y) Q s :=
  WP.cond hc (fun hf => by rw [ht] at hf; cases hf) (fun _ => h)
end control
end
end Go.Ab
/- Regions step by step over an abstract state: what touches no memory; contracts of functions; the entry into a body. -/
namespace Go.Ab
section
variable {P : Program} {n : Nat} {C : Cx P n} {Q : Post} {s : St}

def Run (C : Cx P n) (ops : Array Oper) (l : List Nat) (Q : Post) (s : St) : Prop := ∀ F a w, R C F s a w → wpOps P ops (lift C Q) l a w

theorem WP.region {id : Nat} {ops : Array Oper} {l : List Nat} (hl : List.range ops.size = l) (h : Run C ops l Q s) : WP C (.region id ops false) Q s :=
  fun F a w hr => wp_region (by rw [hl]; exact h F a w hr)

theorem Run.nil {ops : Array Oper} (h : Q .normal s) : Run C ops [] Q s := fun F _ _ hr => ⟨F, s, hr, h⟩

/-- Is the operation wanted? (its guard: a slot that holds a known truth) -/
def want (ops : Array Oper) (fr : List (Nat × AV)) (o : Oper) : Option Bool :=
  match o.guard with
  | none => some true
  | some (j, w) => match (ops[j]?).bind (·.dst) with
    | some d => match get fr d with
      | some (.bool b) => some (b == w)
      | _ => none
    | none => none

theorem want_spec {ops : Array Oper} {o : Oper} {t : Bool} {F : Nat → Prop} {a : Act} {w : World} (hr : R C F s a w) (h : want ops s.fr o = some t) :
    Region.wanted o (yielded ops a.tmps) = t := by
  unfold want at h
  unfold Region.wanted
  split at h
  · rename_i hg
    rw [hg]
    simpa using h
  · rename_i j wn hg
    rw [hg]
    split at h
    · rename_i d hd
      split at h
      · rename_i b hb
        have h1 := hr.fr d _ hb
        simp only [rel] at h1
        have hlt : d < a.tmps.size := by
          rcases Nat.lt_or_ge d a.tmps.size with h' | h'
          · exact h'
          · simp [Array.getD, undef, Nat.not_lt.2 h'] at h1
        have h2 : a.tmps[d]? = some (.bool b) := by
          rw [Array.getElem?_eq_getElem hlt]
          simpa [Array.getD, hlt] using h1
        have : yielded ops a.tmps j = some b := by simp [yielded, hd, h2]
        simp only [this]
        cases h
        cases b <;> cases wn <;> rfl
      · cases h
    · cases h

def St.put (s : St) (d : Nat) (x : AV) : St := ⟨(d, x) :: s.fr, s.hp⟩

theorem R.put {F : Nat → Prop} {a : Act} {w : World} (hr : R C F s a w) {d : Nat} {x : AV} {v : Value} (hd : Nat.blt d n = true) (hv : rel F w x v) : R C F (s.put d x) (a.put (some d) v) w := by
  have hd' : d < a.tmps.size := by rw [hr.size]; exact Nat.blt_eq.mp hd
  refine { hr with size := ?_, defers := hr.defers, fr := ?_ }
  · simp [Act.put, hr.size]
  · intro t y hy
    simp only [St.put, get] at hy
    by_cases ht : d = t
    · subst ht
      have : Nat.beq d d = true := Nat.beq_refl _
      simp only [this, cond_true] at hy
      cases hy
      simpa [Act.put, Array.getD, hd'] using hv
    · have : Nat.beq d t = false := by
        cases hb : Nat.beq d t with
        | false => rfl
        | true => exact absurd (Nat.eq_of_beq_eq_true hb) ht
      simp only [this, cond_false] at hy
      have h1 := hr.fr t y hy
      simpa [Act.put, Array.getD_eq_getD_getElem?, Array.getElem?_setIfInBounds, ht] using h1

theorem R.put_none {F : Nat → Prop} {a : Act} {w : World} (hr : R C F s a w) (v : Value) : R C F s (a.put none v) w := hr

/-- The step of an operation that yields a value. -/
theorem Run.value {ops : Array Oper} {i : Nat} {l : List Nat} {o : Oper} {s' : St} (hi : ops[i]? = some o) (hw : want ops s.fr o = some true)
    (hv : ∀ F a w, R C F s a w → ∃ v w' F', (execOp a.eval o).run P w = .ok (.value v) w' ∧ R C F' s' (a.put o.dst v) w') (k : Run C ops l Q s') : Run C ops (i :: l) Q s := by
  intro F a w hr
  obtain ⟨v, w', F', hrun, hr'⟩ := hv F a w hr
  simp only [wpOps, hi, want_spec hr hw, if_true]
  refine .inl ?_
  simp only [Oper.wp, hrun, Oper.upon]
  exact k F' _ _ hr'

/-- The step of an operation that has no value (a store). -/
theorem Run.act {ops : Array Oper} {i : Nat} {l : List Nat} {o : Oper} {s' : St} (hi : ops[i]? = some o) (hw : want ops s.fr o = some true)
    (hv : ∀ F a w, R C F s a w → ∃ w' F', (execOp a.eval o).run P w = .ok .skip w' ∧ R C F' s' (a.put o.dst undef) w') (k : Run C ops l Q s') : Run C ops (i :: l) Q s := by
  intro F a w hr
  obtain ⟨w', F', hrun, hr'⟩ := hv F a w hr
  simp only [wpOps, hi, want_spec hr hw, if_true]
  refine .inl ?_
  simp only [Oper.wp, hrun, Oper.upon]
  exact k F' _ _ hr'

/-- An operation whose guard is not met. -/
theorem Run.no {ops : Array Oper} {i : Nat} {l : List Nat} {o : Oper} {d : Nat} (hi : ops[i]? = some o) (hd : o.dst = some d) (hdn : Nat.blt d n = true) (hw : want ops s.fr o = some false)
    (k : Run C ops l Q (s.put d .junk)) : Run C ops (i :: l) Q s := by
  intro F a w hr
  simp only [wpOps, hi, want_spec hr hw, Bool.false_eq_true, if_false, hd]
  exact k F _ _ (hr.put hdn (by simp [rel]))

/-- A truth of which the next operations' guards speak: both ways. -/
theorem Run.split {ops : Array Oper} {l : List Nat} {d : Nat} {b : Bool} (hb : get s.fr d = some (.bool b)) (hd : Nat.blt d n = true)
    (ht : b = true → Run C ops l Q (s.put d (.bool true))) (hf : b = false → Run C ops l Q (s.put d (.bool false))) : Run C ops l Q s := by
  intro F a w hr
  have same : a = a.put (some d) (.bool b) := by
    have h1 := hr.fr d _ hb
    simp only [rel] at h1
    have hd' : d < a.tmps.size := by rw [hr.size]; exact Nat.blt_eq.mp hd
    have h2 : a.tmps[d] = .bool b := by simpa [Array.getD, hd'] using h1
    cases a
    simp only [Act.put]
    congr 1
    simp only at h2 hd'
    apply Array.ext
    · simp
    · intro i h1 h2'
      rw [Array.getElem_setIfInBounds]
      split
      · rename_i h; subst h; exact h2
      · rfl
  cases b with
  | true => rw [same]; exact ht rfl F _ _ (hr.put hd (by simp [rel]))
  | false => rw [same]; exact hf rfl F _ _ (hr.put hd (by simp [rel]))

/-- The world stays: one value, told by the operands. -/
theorem Run.pure {ops : Array Oper} {i : Nat} {l : List Nat} {o : Oper} {d : Nat} {x : AV} (hi : ops[i]? = some o) (hd : o.dst = some d) (hdn : Nat.blt d n = true) (hw : want ops s.fr o = some true)
    (hv : ∀ F a w, R C F s a w → ∃ v, (execOp a.eval o).run P w = .ok (.value v) w ∧ rel F w x v) (k : Run C ops l Q (s.put d x)) : Run C ops (i :: l) Q s :=
  Run.value hi hw (fun F a w hr => let ⟨v, h1, h2⟩ := hv F a w hr; ⟨v, w, F, h1, by rw [hd]; exact hr.put hdn h2⟩) k

theorem relL_get {F : Nat → Prop} {w : World} : ∀ {xs : List AV} {vs : List Value} {j : Nat} {x : AV}, relL F w xs vs → xs[j]? = some x → ∃ u, vs[j]? = some u ∧ rel F w x u
  | [], _, _, _, _, h => by simp at h
  | y :: ys, vs, j, x, hl, h => by
    simp only [relL] at hl
    obtain ⟨v, r, rfl, h1, h2⟩ := hl
    cases j with
    | zero => simp at h; subst h; exact ⟨v, by simp, h1⟩
    | succ j => simpa using relL_get h2 (by simpa using h)

section ops
variable {ops : Array Oper} {i : Nat} {l : List Nat} {d : Nat} {T : TypeId} {pos : String} {aft : Array Edge} {g : Option (Nat × Bool)}

theorem Run.move {x : Operand} {v : AV} (hi : ops[i]? = some ⟨some d, .move x, T, pos, aft, g⟩) (hw : want ops s.fr ⟨some d, .move x, T, pos, aft, g⟩ = some true) (hdn : Nat.blt d n = true)
    (hx : Ev s.fr x v) (k : Run C ops l Q (s.put d v)) : Run C ops (i :: l) Q s :=
  Run.pure hi rfl hdn hw (fun _ a _ hr => ⟨a.eval x, by simp [execOp], Ev.rel hr hx⟩) k
theorem Run.assign {x : Operand} {v : AV} (hi : ops[i]? = some ⟨some d, .assign x, T, pos, aft, g⟩) (hw : want ops s.fr ⟨some d, .assign x, T, pos, aft, g⟩ = some true) (hdn : Nat.blt d n = true)
    (hx : Ev s.fr x v) (k : Run C ops l Q (s.put d v)) : Run C ops (i :: l) Q s :=
  Run.pure hi rfl hdn hw (fun _ a _ hr => ⟨a.eval x, by simp [execOp], Ev.rel hr hx⟩) k

theorem Run.pick_t {c x y : Operand} {v : AV} {t : Bool} (hi : ops[i]? = some ⟨some d, .pick c x y, T, pos, aft, g⟩) (hw : want ops s.fr ⟨some d, .pick c x y, T, pos, aft, g⟩ = some true) (hdn : Nat.blt d n = true)
    (hc : Ev s.fr c (.bool t)) (ht : t = true) (hx : Ev s.fr x v) (k : Run C ops l Q (s.put d v)) : Run C ops (i :: l) Q s :=
  Run.pure hi rfl hdn hw (fun _ a _ hr => ⟨a.eval x, by
    have h1 := Ev.rel hr hc
    simp only [rel] at h1
    subst ht
    simp [execOp, h1, asBool], Ev.rel hr hx⟩) k
theorem Run.pick_f {c x y : Operand} {v : AV} {t : Bool} (hi : ops[i]? = some ⟨some d, .pick c x y, T, pos, aft, g⟩) (hw : want ops s.fr ⟨some d, .pick c x y, T, pos, aft, g⟩ = some true) (hdn : Nat.blt d n = true)
    (hc : Ev s.fr c (.bool t)) (ht : t = false) (hy : Ev s.fr y v) (k : Run C ops l Q (s.put d v)) : Run C ops (i :: l) Q s :=
  Run.pure hi rfl hdn hw (fun _ a _ hr => ⟨a.eval y, by
    have h1 := Ev.rel hr hc
    simp only [rel] at h1
    subst ht
    simp [execOp, h1, asBool], Ev.rel hr hy⟩) k

theorem Run.not {U : TypeId} {x : Operand} {b : Bool} (hi : ops[i]? = some ⟨some d, .unOp .not U x, T, pos, aft, g⟩) (hw : want ops s.fr ⟨some d, .unOp .not U x, T, pos, aft, g⟩ = some true) (hdn : Nat.blt d n = true)
    (hx : Ev s.fr x (.bool b)) (k : Run C ops l Q (s.put d (.bool (!b)))) : Run C ops (i :: l) Q s :=
  Run.pure hi rfl hdn hw (fun _ a _ hr => ⟨.bool (!b), by
    have h1 := Ev.rel hr hx
    simp only [rel] at h1
    simp [execOp, h1, Op.unary], by simp [rel]⟩) k

/-- An integer operation whose outcome is told by f. -/
theorem Run.bin {op : BinOp} {U V : TypeId} {x y : Operand} {p q : AV} {r : AV} (hi : ops[i]? = some ⟨some d, .binOp op U x y V, T, pos, aft, g⟩) (hw : want ops s.fr ⟨some d, .binOp op U x y V, T, pos, aft, g⟩ = some true) (hdn : Nat.blt d n = true)
    (hx : Ev s.fr x p) (hy : Ev s.fr y q) (hv : ∀ F w u v, rel F w p u → rel F w q v → ∃ z, (eqGuard op U x y u v >>= fun _ => binOp op U u v).run P w = .ok z w ∧ rel F w r z)
    (k : Run C ops l Q (s.put d r)) : Run C ops (i :: l) Q s :=
  Run.pure hi rfl hdn hw (fun F a w hr => by
    obtain ⟨z, h1, h2⟩ := hv F w _ _ (Ev.rel hr hx) (Ev.rel hr hy)
    refine ⟨z, ?_, h2⟩
    simp only [Sem.run_bind] at h1
    simp only [execOp, Sem.run_bind]
    cases hh : (eqGuard op U x y (a.eval x) (a.eval y)).run P w with
    | ok u w1 => rw [hh] at h1; simp at h1; simp [h1]
    | halt u w1 => rw [hh] at h1; simp at h1) k

theorem eqGuard_int {op : BinOp} {U : TypeId} {x y : Operand} {k k' : IntKind} {p q : Int} (w : World) : (eqGuard op U x y (.int k p) (.int k' q)).run P w = .ok () w := by
  unfold eqGuard
  split <;> simp

/-- What an integer operation of Go's yields. -/
def intOp (op : BinOp) (k : IntKind) (a b : Int) : Option AV :=
  match op with
  | .add => some (.int k (k.wrap (a + b)))
  | .sub => some (.int k (k.wrap (a - b)))
  | .mul => some (.int k (k.wrap (a * b)))
  | .quo => if b = 0 then none else some (.int k (k.wrap (a.tdiv b)))
  | .rem => if b = 0 then none else some (.int k (a.tmod b))
  | .eql => some (.bool (a == b))
  | .neq => some (.bool (a != b))
  | .lss => some (.bool (a < b))
  | .leq => some (.bool (a ≤ b))
  | .gtr => some (.bool (a > b))
  | .geq => some (.bool (a ≥ b))
  | _ => none

theorem intOp_run {op : BinOp} {U : TypeId} {kd : IntKind} {p q : Int} {r : AV} (w : World) (ho : intOp op kd p q = some r) :
    ∃ z, (binOp op U (.int kd p) (.int kd q)).run P w = .ok z w ∧ ∀ F w', rel F w' r z := by
  cases op <;> simp only [intOp, reduceCtorEq, Option.some.injEq, Option.ite_none_left_eq_some] at ho
  all_goals first
    | (subst ho; refine ⟨_, by simp [binOp, Op.intArith, Op.intCmp]; rfl, fun _ _ => by simp [rel]⟩; done)
    | (obtain ⟨h0, rfl⟩ := ho; refine ⟨_, by simp [binOp, Op.intDiv, h0]; rfl, fun _ _ => by simp [rel]⟩)

theorem Run.int {op : BinOp} {U V : TypeId} {x y : Operand} {kd : IntKind} {p q : Int} {r : AV} (hi : ops[i]? = some ⟨some d, .binOp op U x y V, T, pos, aft, g⟩) (hw : want ops s.fr ⟨some d, .binOp op U x y V, T, pos, aft, g⟩ = some true) (hdn : Nat.blt d n = true)
    (hx : Ev s.fr x (.int kd p)) (hy : Ev s.fr y (.int kd q)) (ho : intOp op kd p q = some r)
    (k : Run C ops l Q (s.put d r)) : Run C ops (i :: l) Q s :=
  Run.bin hi hw hdn hx hy (fun F w u v hu hv => by
    simp only [rel] at hu hv
    subst hu hv
    obtain ⟨z, h1, h2⟩ := intOp_run (P := P) (U := U) w ho
    exact ⟨z, by simp [eqGuard_int, h1], h2 F w⟩) k

theorem wrap64_id {a : Int} (h : -9223372036854775808 ≤ a ∧ a ≤ 9223372036854775807) : IntKind.i64.wrap a = a := by
  simp only [IntKind.wrap, IntKind.signed, IntKind.bits, Bool.true_and]
  split <;> rename_i h1 <;> simp at h1 <;> omega

theorem Run.add {U V : TypeId} {x y : Operand} {p q : Int} (hi : ops[i]? = some ⟨some d, .binOp .add U x y V, T, pos, aft, g⟩) (hw : want ops s.fr ⟨some d, .binOp .add U x y V, T, pos, aft, g⟩ = some true) (hdn : Nat.blt d n = true)
    (hx : Ev s.fr x (.int .i64 p)) (hy : Ev s.fr y (.int .i64 q)) (hr : -9223372036854775808 ≤ p + q ∧ p + q ≤ 9223372036854775807)
    (k : Run C ops l Q (s.put d (.int .i64 (p + q)))) : Run C ops (i :: l) Q s :=
  Run.int hi hw hdn hx hy (by simp only [intOp]; rw [wrap64_id hr]) k
theorem Run.sub {U V : TypeId} {x y : Operand} {p q : Int} (hi : ops[i]? = some ⟨some d, .binOp .sub U x y V, T, pos, aft, g⟩) (hw : want ops s.fr ⟨some d, .binOp .sub U x y V, T, pos, aft, g⟩ = some true) (hdn : Nat.blt d n = true)
    (hx : Ev s.fr x (.int .i64 p)) (hy : Ev s.fr y (.int .i64 q)) (hr : -9223372036854775808 ≤ p - q ∧ p - q ≤ 9223372036854775807)
    (k : Run C ops l Q (s.put d (.int .i64 (p - q)))) : Run C ops (i :: l) Q s :=
  Run.int hi hw hdn hx hy (by simp only [intOp]; rw [wrap64_id hr]) k
theorem Run.mul {U V : TypeId} {x y : Operand} {p q : Int} (hi : ops[i]? = some ⟨some d, .binOp .mul U x y V, T, pos, aft, g⟩) (hw : want ops s.fr ⟨some d, .binOp .mul U x y V, T, pos, aft, g⟩ = some true) (hdn : Nat.blt d n = true)
    (hx : Ev s.fr x (.int .i64 p)) (hy : Ev s.fr y (.int .i64 q)) (hr : -9223372036854775808 ≤ p * q ∧ p * q ≤ 9223372036854775807)
    (k : Run C ops l Q (s.put d (.int .i64 (p * q)))) : Run C ops (i :: l) Q s :=
  Run.int hi hw hdn hx hy (by simp only [intOp]; rw [wrap64_id hr]) k
theorem Run.rem {U V : TypeId} {x y : Operand} {p q : Int} (hi : ops[i]? = some ⟨some d, .binOp .rem U x y V, T, pos, aft, g⟩) (hw : want ops s.fr ⟨some d, .binOp .rem U x y V, T, pos, aft, g⟩ = some true) (hdn : Nat.blt d n = true)
    (hx : Ev s.fr x (.int .i64 p)) (hy : Ev s.fr y (.int .i64 q)) (hp : 0 ≤ p) (hq : 0 < q)
    (k : Run C ops l Q (s.put d (.int .i64 (p % q)))) : Run C ops (i :: l) Q s :=
  Run.int hi hw hdn hx hy (by simp only [intOp]; rw [if_neg (by omega), Int.tmod_eq_emod_of_nonneg hp]) k
theorem Run.tmod {U V : TypeId} {x y : Operand} {p q : Int} (hi : ops[i]? = some ⟨some d, .binOp .rem U x y V, T, pos, aft, g⟩) (hw : want ops s.fr ⟨some d, .binOp .rem U x y V, T, pos, aft, g⟩ = some true) (hdn : Nat.blt d n = true)
    (hx : Ev s.fr x (.int .i64 p)) (hy : Ev s.fr y (.int .i64 q)) (hq : q ≠ 0)
    (k : Run C ops l Q (s.put d (.int .i64 (p.tmod q)))) : Run C ops (i :: l) Q s :=
  Run.int hi hw hdn hx hy (by simp only [intOp]; rw [if_neg hq]) k
theorem Run.quo {U V : TypeId} {x y : Operand} {p q : Int} (hi : ops[i]? = some ⟨some d, .binOp .quo U x y V, T, pos, aft, g⟩) (hw : want ops s.fr ⟨some d, .binOp .quo U x y V, T, pos, aft, g⟩ = some true) (hdn : Nat.blt d n = true)
    (hx : Ev s.fr x (.int .i64 p)) (hy : Ev s.fr y (.int .i64 q)) (hp : 0 ≤ p ∧ p ≤ 9223372036854775807) (hq : 0 < q)
    (k : Run C ops l Q (s.put d (.int .i64 (p / q)))) : Run C ops (i :: l) Q s :=
  Run.int hi hw hdn hx hy (by
    simp only [intOp]
    rw [if_neg (by omega), Int.tdiv_eq_ediv_of_nonneg hp.1, wrap64_id ⟨?_, ?_⟩]
    · have := Int.ediv_nonneg hp.1 (Int.le_of_lt hq); omega
    · have := Int.ediv_le_self q hp.1; omega) k

theorem Run.extract {x : Operand} {j : Nat} {xs : List AV} {v : AV} (hi : ops[i]? = some ⟨some d, .extract x j, T, pos, aft, g⟩) (hw : want ops s.fr ⟨some d, .extract x j, T, pos, aft, g⟩ = some true) (hdn : Nat.blt d n = true)
    (hx : Ev s.fr x (.tup xs)) (hj : xs[j]? = some v) (k : Run C ops l Q (s.put d v)) : Run C ops (i :: l) Q s :=
  Run.pure hi rfl hdn hw (fun F a w hr => by
    have h1 := Ev.rel hr hx
    simp only [rel] at h1
    obtain ⟨vs, he, hl⟩ := h1
    obtain ⟨u, hu, hru⟩ := relL_get hl hj
    refine ⟨u, ?_, hru⟩
    have : vs[j]? = some u := by simpa using hu
    simp [execOp, he, Instr.extract, this]) k
end ops
end
end Go.Ab
/- Contracts of functions that only read what stood before them; calls; the entry into a body; forgetting. -/
namespace Go.Ab
open Go.RowKit (Below)
section
variable {P : Program}

def Callable (P : Program) (f : FuncId) : Prop := ∀ vs w, (callFunc f vs).run P w = .ok (.enter f vs) w
theorem callable_of {f : FuncId} {fn : Func} (hf : P.funcs[f]? = some fn) (hn : (fn.name == "runtime.NumGoroutine") = false) (hb : fn.body.isNone = false) : Callable P f := fun vs w => by
  simp only [callFunc, Sem.run_bind, run_program, Result.andThen_ok, hf, hn, hb, Bool.false_eq_true, if_false, Sem.run_pure]

/-- A call that leaves what stood before it: its result, where its arguments read as 'args'. -/
def Pure (P : Program) (f : FuncId) (args : List AV) (res : AV) : Prop :=
  Callable P f ∧ ∀ (F : Nat → Prop) (w : World) (vs : Array Value), (∀ b, F b → b < w.heap.size) → relL F w args vs.toList →
    Calls P f vs w fun e w' => ∃ v F', e = .returned v ∧ Below w.heap.size w w' ∧ (∀ b, F b → F' b) ∧ (∀ b, F' b → F b ∨ w.heap.size ≤ b) ∧ (∀ b, F' b → b < w'.heap.size) ∧ rel F' w' res v

variable {n : Nat} {C : Cx P n} {Q : Post} {s : St}

/-- What a call hands on to its caller's state. -/
theorem R.called {F F' : Nat → Prop} {a : Act} {w w' : World} (hr : R C F s a w) (hb : Below w.heap.size w w') (h1 : ∀ b, F b → F' b) (h2 : ∀ b, F' b → F b ∨ w.heap.size ≤ b)
    (h3 : ∀ b, F' b → b < w'.heap.size) : R C F' s a w' := by
  have hk : Later F w w' := ⟨fun b hF => hb.block b (hr.sat.old b hF), fun b arr e fz hh => by
    have hlt : b < w.heap.size := by
      rcases Nat.lt_or_ge b w.heap.size with h' | h'
      · exact h'
      · simp [Array.getElem?_eq_none h'] at hh
    exact ⟨arr, e, fz, (hb.block b hlt).trans hh, rfl⟩⟩
  refine ⟨hr.size, hr.defers, fun t x hx => rel_mono h1 hk x _ (hr.fr t x hx), ⟨h3, fun {id j k cs} hx => ?_, hr.sat.inj⟩, hb.os.trans hr.os, hb.tape.trans hr.tape, hb.output.trans hr.output,
    Nat.le_trans hr.hsize hb.size, fun b hlt hW => (hb.block b (Nat.lt_of_lt_of_le hlt hr.hsize)).trans (hr.block b hlt hW), fun b hF => h1 b (hr.F0 b hF), fun b hF => ?_, hr.elder.trans hk.size⟩
  · obtain ⟨hok, hnF, hh⟩ := hr.sat.live hx
    have hlt : k < w.heap.size := hh.lt
    refine ⟨hok, fun hF => ?_, hh.mono h1 hk (hb.block _ hlt)⟩
    rcases h2 _ hF with hF | hF
    · exact hnF hF
    · exact absurd hlt (Nat.not_lt.2 hF)
  · rcases h2 b hF with hF | hF
    · exact hr.F1 b hF
    · exact .inr (.inl (Nat.le_trans hr.hsize hF))

inductive Evs (fr : List (Nat × AV)) : List Operand → List AV → Prop where
  | nil : Evs fr [] []
  | cons {o : Operand} {r : List Operand} {x : AV} {xs : List AV} (h : Ev fr o x) (hs : Evs fr r xs) : Evs fr (o :: r) (x :: xs)

theorem evs_rel {F : Nat → Prop} {a : Act} {w : World} (hr : R C F s a w) : ∀ {os : List Operand} {xs : List AV}, Evs s.fr os xs → relL F w xs (os.map a.eval)
  | _, _, .nil => by simp [relL]
  | _, _, .cons h hs => by
    simp only [relL, List.map_cons]
    exact ⟨_, _, rfl, Ev.rel hr h, evs_rel hr hs⟩

theorem relL_append {F : Nat → Prop} {w : World} : ∀ {xs ys : List AV} {us vs : List Value}, relL F w xs us → relL F w ys vs → relL F w (xs ++ ys) (us ++ vs)
  | [], ys, us, vs, h, k => by simp only [relL] at h; subst h; simpa using k
  | x :: xs, ys, us, vs, h, k => by
    simp only [relL] at h
    obtain ⟨v, r, rfl, h1, h2⟩ := h
    simp only [List.cons_append, relL]
    exact ⟨v, _, rfl, h1, relL_append h2 k⟩

section ops
variable {ops : Array Oper} {i : Nat} {l : List Nat} {d : Nat} {T : TypeId} {pos : String} {aft : Array Edge} {g : Option (Nat × Bool)}

theorem exec_call {a : Act} {dst : Option Tmp} {fo : Operand} {as : Array Operand} {ats : Array TypeId} {f : FuncId} {cap : Array Value} {w : World} (hf : a.eval fo = .func (.func f) #[] cap) (hc : Callable P f) :
    (execOp a.eval ⟨dst, .call ⟨.value fo, as, ats⟩, T, pos, aft, g⟩).run P w = .ok (.enter f (as.map a.eval ++ cap)) w := by
  simp only [execOp, resolve, Sem.run_bind, hf, Deferred.ofValue, Sem.run_pure, Result.andThen_ok, invoke]
  simpa using hc (as.map a.eval ++ cap) w

/-- A call of a function, or of a closure, by its contract. -/
theorem Run.call {fo : Operand} {as : Array Operand} {ats : Array TypeId} {f : FuncId} {cap args : List AV} {res : AV} (hi : ops[i]? = some ⟨some d, .call ⟨.value fo, as, ats⟩, T, pos, aft, g⟩)
    (hw : want ops s.fr ⟨some d, .call ⟨.value fo, as, ats⟩, T, pos, aft, g⟩ = some true) (hdn : Nat.blt d n = true)
    (hf : Ev s.fr fo (.fn f cap)) (ha : Evs s.fr as.toList args) (hp : Pure P f (args ++ cap) res) (k : Run C ops l Q (s.put d res)) : Run C ops (i :: l) Q s := by
  intro F a w hr
  obtain ⟨hc, hcalls⟩ := hp
  have hfv := Ev.rel hr hf
  simp only [rel] at hfv
  obtain ⟨cv, hfe, hcv⟩ := hfv
  simp only [wpOps, hi, want_spec hr hw, if_true]
  refine .inl ?_
  simp only [Oper.wp, exec_call hfe hc, Oper.upon]
  have hargs : relL F w (args ++ cap) (as.map a.eval ++ cv).toList := by
    rw [Array.toList_append]
    refine relL_append ?_ hcv
    have := evs_rel hr ha
    simpa using this
  refine (hcalls F w _ hr.sat.old hargs).mono ?_
  rintro e w' ⟨v, F', rfl, hb, h1, h2, h3, hv⟩
  exact k _ _ _ ((hr.called hb h1 h2 h3).put hdn hv)
end ops

def number : Nat → List AV → List (Nat × AV)
  | _, [] => []
  | k, x :: xs => (k, x) :: number (k + 1) xs

theorem get_number {F : Nat → Prop} {w : World} : ∀ {xs : List AV} {vs : List Value} {k t : Nat} {x : AV}, relL F w xs vs → get (number k xs) t = some x → ∃ v, k ≤ t ∧ vs[t - k]? = some v ∧ rel F w x v
  | [], _, _, _, _, _, h => by simp [number, get] at h
  | y :: ys, vs, k, t, x, hl, h => by
    simp only [relL] at hl
    obtain ⟨v, r, rfl, h1, h2⟩ := hl
    simp only [number, get] at h
    by_cases hk : k = t
    · subst hk
      have : Nat.beq k k = true := Nat.beq_refl _
      simp only [this, cond_true] at h
      cases h
      exact ⟨v, Nat.le_refl _, by simp, h1⟩
    · have : Nat.beq k t = false := by
        cases hb : Nat.beq k t with
        | false => rfl
        | true => exact absurd (Nat.eq_of_beq_eq_true hb) hk
      simp only [this, cond_false] at h
      obtain ⟨u, hle, hu, hru⟩ := get_number h2 h
      refine ⟨u, by omega, ?_, hru⟩
      have : t - k = (t - (k + 1)) + 1 := by omega
      rw [this]
      simpa using hu

/-- What a body hands back: the slots of its results. -/
def resultOf (fr : List (Nat × AV)) : List ResultVar → Option (List AV)
  | [] => some []
  | .tmp t :: r => match get fr t with
    | some x => match resultOf fr r with
      | some xs => some (x :: xs)
      | none => none
    | none => none
  | _ :: _ => none

def one : List AV → AV
  | [x] => x
  | xs => .tup xs

def Rets (rs : Array ResultVar) (res : AV) : Post
  | .normal, s | .ret, s => ∃ xs, resultOf s.fr rs.toList = some xs ∧ one xs = res
  | _, _ => False

def resultVar (tmps : Array Value) : ResultVar → Sem Value
  | .tmp t => pure (tmps.getD t undef)
  | .cell p t => do loadVar t (← asAddr (tmps.getD p undef))

theorem results_eq (fn : Func) (tmps : Array Value) : results fn tmps = (do let vs ← fn.results.mapM (resultVar tmps); pure (if h : vs.size = 1 then vs[0] else .tuple vs)) := rfl

theorem results_run {F : Nat → Prop} {a : Act} {w : World} (hr : R C F s a w) (fn : Func) {xs : List AV} (h : resultOf s.fr fn.results.toList = some xs) :
    ∃ v, (results fn a.tmps).run P w = .ok v w ∧ rel F w (one xs) v := by
  have key : ∀ (rs : List ResultVar) (ys : List AV), resultOf s.fr rs = some ys →
      ∃ us : List Value, (rs.mapM (resultVar a.tmps)).run P w = .ok us w ∧ relL F w ys us := by
    intro rs
    induction rs with
    | nil => intro ys h; simp only [resultOf, Option.some.injEq] at h; subst h; exact ⟨[], by simp, by simp [relL]⟩
    | cons r rs ih =>
      intro ys h
      cases r with
      | cell p t => simp [resultOf] at h
      | tmp t =>
        simp only [resultOf] at h
        split at h
        · rename_i x hx
          split at h
          · rename_i zs hzs
            cases h
            obtain ⟨us, hus, hrel⟩ := ih zs hzs
            refine ⟨a.tmps.getD t undef :: us, ?_, ?_⟩
            · rw [List.mapM_cons]
              simp only [Sem.run_bind, resultVar, Sem.run_pure, Result.andThen_ok, hus]
            · simp only [relL]; exact ⟨_, _, rfl, hr.fr t x hx, hrel⟩
          · cases h
        · cases h
  obtain ⟨us, hus, hrel⟩ := key _ _ h
  have harr : (fn.results.mapM (resultVar a.tmps)).run P w = .ok us.toArray w := by
    rw [Array.mapM_eq_mapM_toList]
    simp only [Sem.run_map, hus, Result.andThen_ok]
  rw [results_eq]
  simp only [Sem.run_bind]
  rw [harr]
  simp only [Result.andThen_ok, Sem.run_pure]
  refine ⟨_, rfl, ?_⟩
  cases xs with
  | nil =>
    simp only [relL] at hrel
    subst hrel
    simp only [one, rel]
    exact ⟨#[], by simp, by simp [relL]⟩
  | cons x xs =>
    simp only [relL] at hrel
    obtain ⟨v, r, rfl, h1, h2⟩ := hrel
    cases xs with
    | nil =>
      simp only [relL] at h2
      subst h2
      simpa [one] using h1
    | cons y ys =>
      simp only [relL] at h2
      obtain ⟨v', r', rfl, h3, h4⟩ := h2
      simp only [one, rel]
      refine ⟨(v :: v' :: r').toArray, by simp, ?_⟩
      simp only [relL]
      exact ⟨v, _, rfl, h1, v', _, rfl, h3, h4⟩

/-- A contract out of a walk of the body: it begins with N of its own blocks not yet made. -/
theorem Pure.of_body (N : Nat) {f : FuncId} {fn : Func} {c : Code} {args : List AV} {res : AV} (hf : P.funcs[f]? = some fn) (hb : fn.body = some c) (hn : (fn.name == "runtime.NumGoroutine") = false) (hnt : fn.ntmps = n)
    (hlen : Nat.ble args.length n = true) (h : ∀ C : Cx P n, WP C c (Rets fn.results res) ⟨number 0 args, List.replicate N []⟩) : Pure P f args res := by
  refine ⟨callable_of hf hn (by simp [hb]), fun F w vs hF hrel => calls_of_wp hf hb ?_⟩
  have hlen := Nat.le_of_ble_eq_true hlen
  have hvl : vs.size = args.length := by
    have : ∀ {xs : List AV} {us : List Value}, relL F w xs us → us.length = xs.length := by
      intro xs
      induction xs with
      | nil => intro us h; simp only [relL] at h; simp [h]
      | cons x xs ih => intro us h; simp only [relL] at h; obtain ⟨v, r, rfl, _, h2⟩ := h; simp [ih h2]
    simpa using this hrel
  let C : Cx P n := ⟨F, fun _ => False, w⟩
  have hr : R C F ⟨number 0 args, List.replicate N []⟩ { tmps := vs ++ Array.replicate (fn.ntmps - vs.size) undef, defers := [] } w := by
    refine ⟨?_, rfl, fun t x hx => ?_, ⟨hF, fun hx => ?_, fun hx => ?_⟩, rfl, rfl, rfl, Nat.le_refl _, fun _ _ _ => rfl, fun _ h => h, fun _ h => .inl h, Sized.refl w⟩
    · simp [hnt]; omega
    · obtain ⟨v, _, hv, hrv⟩ := get_number hrel hx
      have hv' : vs[t]? = some v := by simpa using hv
      have hlt : t < vs.size := by
        rcases Nat.lt_or_ge t vs.size with h' | h'
        · exact h'
        · simp [Array.getElem?_eq_none h'] at hv'
      have : (vs ++ Array.replicate (fn.ntmps - vs.size) undef).getD t undef = v := by
        rw [Array.getD_eq_getD_getElem?, Array.getElem?_append_left hlt, hv']
        rfl
      rw [this]
      exact hrv
    · obtain ⟨l, h1, h2⟩ := hx
      obtain ⟨_, rfl⟩ := List.mem_replicate.1 (List.mem_of_getElem? h1)
      simp at h2
    · obtain ⟨l, h1, h2⟩ := hx
      obtain ⟨_, rfl⟩ := List.mem_replicate.1 (List.mem_of_getElem? h1)
      simp at h2
  refine wp_mono (h C _ _ _ hr) ?_
  rintro e a w' ⟨F', s, hr', hq⟩
  have fin : (∃ xs, resultOf s.fr fn.results.toList = some xs ∧ one xs = res) →
      a.defers = [] ∧ ∃ v, (results fn a.tmps).run P w' = .ok v w' ∧ ∃ v' F', Ending.returned v = .returned v' ∧ Below w.heap.size w w' ∧ (∀ b, F b → F' b) ∧ (∀ b, F' b → F b ∨ w.heap.size ≤ b) ∧ (∀ b, F' b → b < w'.heap.size) ∧ rel F' w' res v' := by
    rintro ⟨xs, hxs, rfl⟩
    obtain ⟨v, hv, hrv⟩ := results_run hr' fn hxs
    refine ⟨hr'.defers, v, hv, v, F', rfl, ⟨hr'.os, hr'.tape, hr'.output, hr'.hsize, fun k hk => hr'.block k hk (fun h => h)⟩, hr'.F0, fun b hb => ?_, hr'.sat.old, hrv⟩
    rcases hr'.F1 b hb with h | h | h
    · exact .inl h
    · exact .inr h
    · exact h.elim
  cases e with
  | normal => exact fin hq
  | ret => exact fin hq
  | _ => exact hq.elim

/-- Of a state some slots are kept, and of its blocks some. -/
def Sub (fr : List (Nat × AV)) : List (Nat × AV) → Prop
  | [] => True
  | (t, x) :: r => get fr t = some x ∧ Sub fr r

theorem Sub.get {fr : List (Nat × AV)} : ∀ {fr' : List (Nat × AV)} {t : Nat} {x : AV}, Sub fr fr' → Ab.get fr' t = some x → Ab.get fr t = some x
  | [], _, _, _, h => by simp [Ab.get] at h
  | (u, y) :: r, t, x, hs, h => by
    simp only [Ab.get] at h
    by_cases hu : u = t
    · subst hu
      have : Nat.beq u u = true := Nat.beq_refl _
      simp only [this, cond_true] at h
      cases h
      exact hs.1
    · have : Nat.beq u t = false := by
        cases hb : Nat.beq u t with
        | false => rfl
        | true => exact absurd (Nat.eq_of_beq_eq_true hb) hu
      simp only [this, cond_false] at h
      exact Sub.get hs.2 h

inductive HSub : List Ar → List Ar → Prop where
  | nil : HSub [] []
  | dead {x : Ar} {H H' : List Ar} (h : HSub H H') : HSub (x :: H) ([] :: H')
  | keep {x : Ar} {H H' : List Ar} (h : HSub H H') : HSub (x :: H) (x :: H')

theorem HSub.refl : ∀ (H : List Ar), HSub H H
  | [] => .nil
  | _ :: H => .keep (HSub.refl H)

theorem HSub.get {H H' : List Ar} (h : HSub H H') : ∀ {i : Nat} {x : Ar}, H'[i]? = some x → x = [] ∨ H[i]? = some x := by
  induction h with
  | nil => intro i x hx; simp at hx
  | dead h ih =>
    intro i x hx
    cases i with
    | zero => simp at hx; exact .inl (by first | exact hx | exact hx.symm)
    | succ i => simpa using ih (by simpa using hx)
  | keep h ih =>
    intro i x hx
    cases i with
    | zero => right; simpa using hx
    | succ i => simpa using ih (by simpa using hx)

theorem HSub.at' {H H' : List Ar} (h : HSub H H') {id j b : Nat} {cs : List AV} (hx : At H' id j b cs) : At H id j b cs := by
  obtain ⟨l, h1, h2⟩ := hx
  rcases h.get h1 with rfl | h3
  · simp at h2
  · exact ⟨l, h3, h2⟩

theorem R.keep {F : Nat → Prop} {a : Act} {w : World} {fr' : List (Nat × AV)} {H' : List Ar} (hr : R C F s a w) (h : Sub s.fr fr') (hH : HSub s.hp H') : R C F ⟨fr', H'⟩ a w :=
  { hr with
    fr := fun t x hx => hr.fr t x (h.get hx)
    sat := ⟨hr.sat.old, fun hx => hr.sat.live (hH.at' hx), fun hx hy => hr.sat.inj (hH.at' hx) (hH.at' hy)⟩ }

theorem WP.keep {c : Code} {fr' : List (Nat × AV)} {H' : List Ar} (k : WP C c Q ⟨fr', H'⟩) (h : Sub s.fr fr') (hH : HSub s.hp H') : WP C c Q s := fun F a w hr => k F a w (hr.keep h hH)
theorem LP.keep {c : Code} {fr' : List (Nat × AV)} {H' : List Ar} (k : LP C c Q ⟨fr', H'⟩) (h : Sub s.fr fr') (hH : HSub s.hp H') : LP C c Q s := fun F a w hr => k F a w (hr.keep h hH)
theorem Run.keep {ops : Array Oper} {l : List Nat} {fr' : List (Nat × AV)} {H' : List Ar} (k : Run C ops l Q ⟨fr', H'⟩) (h : Sub s.fr fr') (hH : HSub s.hp H') : Run C ops l Q s := fun F a w hr => k F a w (hr.keep h hH)
end
end Go.Ab
/- Operations on memory over an abstract state: loads, stores, new blocks, addresses, slices. -/
namespace Go.Ab
open Go.RowKit (Below)
section
variable {P : Program} {n : Nat} {C : Cx P n} {Q : Post} {s : St}

theorem relP_get {F : Nat → Prop} {w : World} : ∀ {xs : List AV} {vs : List Value} {j : Nat} {x : AV}, relP F w xs vs → xs[j]? = some x → ∃ u, vs[j]? = some u ∧ rel F w x u
  | [], _, _, _, _, h => by simp at h
  | y :: ys, vs, j, x, hl, h => by
    simp only [relP] at hl
    obtain ⟨v, r, rfl, h1, h2⟩ := hl
    cases j with
    | zero => simp at h; subst h; exact ⟨v, by simp, h1⟩
    | succ j => simpa using relP_get h2 (by simpa using h)

theorem relL_len {F : Nat → Prop} {w : World} : ∀ {xs : List AV} {vs : List Value}, relL F w xs vs → vs.length = xs.length
  | [], _, h => by simp only [relL] at h; simp [h]
  | x :: xs, _, h => by simp only [relL] at h; obtain ⟨v, r, rfl, _, h2⟩ := h; simp [relL_len h2]
theorem relP_len {F : Nat → Prop} {w : World} : ∀ {xs : List AV} {vs : List Value}, relP F w xs vs → xs.length ≤ vs.length
  | [], _, _ => by simp
  | x :: xs, _, h => by simp only [relP] at h; obtain ⟨v, r, rfl, _, h2⟩ := h; simpa using relP_len h2
theorem relP_of_relL {F : Nat → Prop} {w : World} : ∀ {xs : List AV} {vs : List Value}, relL F w xs vs → relP F w xs vs
  | [], _, _ => by simp [relP]
  | x :: xs, _, h => by simp only [relL] at h; obtain ⟨v, r, rfl, h1, h2⟩ := h; simp only [relP]; exact ⟨v, r, rfl, h1, relP_of_relL h2⟩
theorem relP_suffix {F : Nat → Prop} {w : World} : ∀ {xs : List AV} {us vs : List Value}, relP F w xs us → relP F w xs (us ++ vs)
  | [], _, _, _ => by simp [relP]
  | x :: xs, _, _, h => by simp only [relP] at h; obtain ⟨v, r, rfl, h1, h2⟩ := h; simp only [relP]; exact ⟨v, _, rfl, h1, relP_suffix h2⟩
theorem relP_drop {F : Nat → Prop} {w : World} : ∀ {xs : List AV} {vs : List Value} (k : Nat), relP F w xs vs → relP F w (xs.drop k) (vs.drop k)
  | xs, vs, 0, h => by simpa using h
  | [], vs, k + 1, _ => by simp [relP]
  | x :: xs, vs, k + 1, h => by simp only [relP] at h; obtain ⟨v, r, rfl, _, h2⟩ := h; simpa using relP_drop k h2
theorem relL_take {F : Nat → Prop} {w : World} : ∀ {xs : List AV} {vs : List Value} (k : Nat), relP F w xs vs → k ≤ xs.length → relL F w (xs.take k) (vs.take k)
  | xs, vs, 0, _, _ => by simp [relL]
  | [], vs, k + 1, _, hk => by simp at hk
  | x :: xs, vs, k + 1, h, hk => by
    simp only [relP] at h
    obtain ⟨v, r, rfl, h1, h2⟩ := h
    simp only [List.take_succ_cons, relL]
    exact ⟨v, _, rfl, h1, relL_take k h2 (by simpa using hk)⟩
theorem relP_append {F : Nat → Prop} {w : World} : ∀ {xs ys : List AV} {us vs : List Value}, relL F w xs us → relP F w ys vs → relP F w (xs ++ ys) (us ++ vs)
  | [], ys, us, vs, h, k => by simp only [relL] at h; subst h; simpa using k
  | x :: xs, ys, us, vs, h, k => by
    simp only [relL] at h
    obtain ⟨v, r, rfl, h1, h2⟩ := h
    simp only [List.cons_append, relP]
    exact ⟨v, _, rfl, h1, relP_append h2 k⟩

/-- Where an address leads: the cells of its block, and the place among them. -/
inductive Place (H : List Ar) : AV → List AV → Nat → Prop where
  | own {id b off j : Nat} {cs : List AV} (h : At H id j b cs) : Place H (.adr id b off) cs off
  | imm {cs : List AV} {off : Nat} : Place H (.immAt cs off) cs off

theorem place_adr {H : List Ar} {id b off : Nat} {cs : List AV} (h : H[id]? = some [(b, cs)]) : Place H (.adr id b off) cs off := .own (At.one h)

theorem place_spec {F : Nat → Prop} {a : Act} {w : World} (hr : R C F s a w) {x : AV} {v : Value} {cs : List AV} {off : Nat} (hv : rel F w x v) (hp : Place s.hp x cs off) :
    ∃ b o arr e fz, v = .pointer (some ⟨b, o + off, none⟩) ∧ w.heap[b]? = some (.cells arr e fz) ∧ relP F w cs (arr.toList.drop o) := by
  cases hp with
  | own h =>
    simp only [rel] at hv
    obtain ⟨rfl, hcell⟩ := hv
    obtain ⟨arr, e, hh, hrel⟩ := (hr.sat.live h).2.2.cells hcell
    exact ⟨_, 0, arr, e, _, by simp, hh, by simpa using hrel⟩
  | imm =>
    simp only [rel] at hv
    obtain ⟨b, o, arr, e, fz, rfl, _, hh, hrel⟩ := hv
    exact ⟨b, o, arr, e, fz, rfl, hh, hrel⟩

theorem addr_add (b o j : Nat) : (⟨b, o, none⟩ : Addr).add j = ⟨b, o + j, none⟩ := by
  unfold Addr.add
  split <;> simp_all

theorem cell_spec {F : Nat → Prop} {w : World} {b o off j : Nat} {arr : Array Value} {e : TypeId} {fz : Nat × Nat} {cs : List AV} {x : AV} (hh : w.heap[b]? = some (.cells arr e fz)) (hp : relP F w cs (arr.toList.drop o)) (hc : cs[off + j]? = some x) :
    ∃ u, w.cell? ((⟨b, o + off, none⟩ : Addr).add j) = some u ∧ rel F w x u := by
  obtain ⟨u, hu, hru⟩ := relP_get hp hc
  refine ⟨u, ?_, hru⟩
  rw [addr_add]
  simp only [World.cell?, hh]
  have : arr[o + off + j]? = some u := by
    rw [List.getElem?_drop] at hu
    rw [Nat.add_assoc]
    simpa using hu
  simpa using this

/-- A type whose values fill one cell | that is a row of m cells. -/
def scB (P : Program) (T : TypeId) : Bool :=
  match P.underlying T with
  | some (.struct _) | some (.array ..) | none => false
  | some _ => true
def agB (P : Program) (T : TypeId) (m : Nat) : Bool :=
  match P.underlying T with
  | some (.struct _) | some (.array ..) => (P.info? T).any (·.size == m)
  | _ => false
def szB (P : Program) (T : TypeId) (m : Nat) : Bool := (P.info? T).any (·.size == m)

theorem run_isAgg_sc {T : TypeId} (h : scB P T = true) (w : World) : (isAgg T).run P w = .ok false w := by
  unfold scB at h
  unfold isAgg
  split at h
  · cases h
  · cases h
  · cases h
  · rename_i D hn h1 h2
    simp only [Sem.run_bind, underlying, run_program, Result.andThen_ok, h2, Sem.run_pure]
theorem run_isAgg_ag {T : TypeId} {m : Nat} (h : agB P T m = true) (w : World) : (isAgg T).run P w = .ok true w ∧ (sizeOf T).run P w = .ok m w := by
  unfold agB at h
  have hs : (P.info? T).any (·.size == m) = true → (sizeOf T).run P w = .ok m w := by
    intro h
    cases hi : P.info? T with
    | none => simp [hi] at h
    | some i => simp [hi] at h; simp [sizeOf, typeInfo, hi, h]
  unfold isAgg
  split at h
  · rename_i f hu
    exact ⟨by simp [underlying, hu], hs h⟩
  · rename_i f hu
    exact ⟨by simp [underlying, hu], hs h⟩
  · cases h

section ops
variable {ops : Array Oper} {i : Nat} {l : List Nat} {d : Nat} {T U : TypeId} {pos : String} {aft : Array Edge} {g : Option (Nat × Bool)}

theorem Run.load {x : Operand} {p y : AV} {cs : List AV} {off : Nat} (hi : ops[i]? = some ⟨some d, .load U x, T, pos, aft, g⟩) (hw : want ops s.fr ⟨some d, .load U x, T, pos, aft, g⟩ = some true) (hdn : Nat.blt d n = true)
    (hx : Ev s.fr x p) (hp : Place s.hp p cs off) (hT : scB P U = true) (hc : cs[off]? = some y) (k : Run C ops l Q (s.put d y)) : Run C ops (i :: l) Q s :=
  Run.pure hi rfl hdn hw (fun F a w hr => by
    obtain ⟨b, o, arr, e, fz, hv, hh, hrel⟩ := place_spec hr (Ev.rel hr hx) hp
    obtain ⟨u, hu, hru⟩ := cell_spec (j := 0) hh hrel (by simpa using hc)
    refine ⟨u, ?_, hru⟩
    rw [addr_add] at hu
    have hl : (loadVar U ⟨b, o + off, none⟩).run P w = .ok u w := by
      unfold loadVar
      simp only [Sem.run_bind, run_isAgg_sc hT w, Result.andThen_ok]
      simp only [Bool.false_eq_true, if_false, run_load]
      simp only [Nat.add_zero] at hu
      simp [hu]
    simp only [execOp, Sem.run_bind, Instr.loadAt, hv, Instr.sureAddr, Sem.run_pure, Result.andThen_ok, hl]) k

theorem Run.loads {x : Operand} {p : AV} {cs ys : List AV} {off m : Nat} (hi : ops[i]? = some ⟨some d, .load U x, T, pos, aft, g⟩) (hw : want ops s.fr ⟨some d, .load U x, T, pos, aft, g⟩ = some true) (hdn : Nat.blt d n = true)
    (hx : Ev s.fr x p) (hp : Place s.hp p cs off) (hT : agB P U m = true) (hc : (cs.drop off).take m = ys) (hm : ys.length = m) (k : Run C ops l Q (s.put d (.agg ys))) : Run C ops (i :: l) Q s :=
  Run.pure hi rfl hdn hw (fun F a w hr => by
    obtain ⟨b, o, arr, e, fz, hv, hh, hrel⟩ := place_spec hr (Ev.rel hr hx) hp
    have hlen : m ≤ (cs.drop off).length := by
      rw [← hc] at hm
      rw [List.length_take] at hm
      omega
    have hrel' := relL_take m (relP_drop off hrel) hlen
    rw [hc] at hrel'
    have hl : (loadVar U ⟨b, o + off, none⟩).run P w = .ok (.agg (((arr.toList.drop o).drop off).take m).toArray) w := by
      have hlc := run_loadCells_list (P := P) w ⟨b, o + off, none⟩ (((arr.toList.drop o).drop off).take m) (by
        intro j v hj
        rw [addr_add]
        simp only [World.cell?, hh]
        rw [List.getElem?_take] at hj
        split at hj
        · rw [List.getElem?_drop, List.getElem?_drop] at hj
          have : arr[o + off + j]? = some v := by rw [Nat.add_assoc]; simpa using hj
          simpa using this
        · cases hj)
      rw [relL_len hrel', hm] at hlc
      unfold loadVar
      simp only [Sem.run_bind, (run_isAgg_ag hT w).1, Result.andThen_ok, if_true, (run_isAgg_ag hT w).2, hlc, Sem.run_pure]
    refine ⟨.agg (((arr.toList.drop o).drop off).take m).toArray, by simp only [execOp, Sem.run_bind, Instr.loadAt, hv, Instr.sureAddr, Sem.run_pure, Result.andThen_ok, hl], ?_⟩
    simp only [rel]
    exact ⟨_, rfl, by simpa using hrel'⟩) k

/-- A value that fills one cell. -/
def AV.sc : AV → Bool
  | .agg _ | .tup _ | .opt .. | .junk | .mark => false
  | _ => true
theorem rel_sc {F : Nat → Prop} {w : World} {x : AV} {v : Value} (hx : x.sc = true) (h : rel F w x v) : v.oneCell' = true ∧ v.cells = #[v] := by
  cases x <;> simp only [AV.sc, Bool.false_eq_true] at hx <;> simp only [rel] at h
  all_goals first
    | (subst h; exact ⟨rfl, rfl⟩)
    | (obtain ⟨_, rfl, _⟩ := h; exact ⟨rfl, rfl⟩)
    | (obtain ⟨rfl, _⟩ := h; exact ⟨rfl, rfl⟩)
    | (obtain ⟨_, _, rfl, _⟩ := h; exact ⟨rfl, rfl⟩)
    | (obtain ⟨_, _, _, _, _, rfl, _⟩ := h; exact ⟨rfl, rfl⟩)

/-- The cells of a value. -/
def AV.cs : AV → List AV
  | .agg xs => xs
  | x => [x]
def AV.scs (x : AV) : Bool := x.cs.all AV.sc

theorem rel_cells {F : Nat → Prop} {w : World} {x : AV} {v : Value} (hx : x.scs = true) (h : rel F w x v) : relL F w x.cs v.cells.toList ∧ ∀ u ∈ v.cells.toList, u.oneCell' = true := by
  have key : ∀ {xs : List AV} {vs : List Value}, xs.all AV.sc = true → relL F w xs vs → ∀ u ∈ vs, u.oneCell' = true := by
    intro xs
    induction xs with
    | nil => intro vs _ h; simp only [relL] at h; subst h; intro u hu; cases hu
    | cons y ys ih =>
      intro vs hs h
      simp only [relL] at h
      obtain ⟨v, r, rfl, h1, h2⟩ := h
      simp only [List.all_cons, Bool.and_eq_true] at hs
      intro u hu
      cases hu with
      | head => exact (rel_sc hs.1 h1).1
      | tail _ hu => exact ih hs.2 h2 u hu
  unfold AV.scs at hx
  cases x with
  | agg xs =>
    simp only [AV.cs] at hx ⊢
    simp only [rel] at h
    obtain ⟨vs, rfl, hl⟩ := h
    exact ⟨hl, key hx hl⟩
  | _ =>
    simp only [AV.cs, List.all_cons, List.all_nil, Bool.and_true] at hx ⊢
    obtain ⟨h1, h2⟩ := rel_sc hx h
    rw [h2]
    simp only [relL]
    refine ⟨⟨v, [], rfl, h, rfl⟩, fun u hu => ?_⟩
    simp at hu
    rw [hu]
    exact h1

/-- Cells put in the place of others. -/
def splice (cs : List AV) (off : Nat) (xs : List AV) : List AV := cs.take off ++ (xs ++ cs.drop (off + xs.length))

/-- A row of the call's own is written anew. -/
theorem R.row {F : Nat → Prop} {a : Act} {w : World} (hr : R C F s a w) {id j b : Nat} {l : Ar} {cs xs : List AV} {arr arr' : Array Value} {e : TypeId} (hl : s.hp[id]? = some l) (hj : l[j]? = some (b, cs)) (harr : w.heap[b]? = some (.cells arr e (0, 0)))
    (hsz : arr'.size = arr.size) (hrel : relP F w xs arr'.toList) : R C F ⟨s.fr, s.hp.set id (l.set j (b, xs))⟩ a (w.setRow b arr') := by
  have hh : At s.hp id j b cs := ⟨l, hl, hj⟩
  obtain ⟨hok, hnF, _⟩ := hr.sat.live hh
  have hne : ∀ k, k ≠ b → (w.setRow b arr').heap[k]? = w.heap[k]? := fun k hk => setRow_other w b k _ hk
  have hk : Later F w (w.setRow b arr') := by
    refine ⟨fun k hF => hne k (fun h => hnF (h ▸ hF)), fun k arr'' e' fz' hk' => ?_⟩
    by_cases hkb : k = b
    · subst hkb
      rw [harr] at hk'
      cases hk'
      exact ⟨_, _, _, setRow_heap w k arr _ e (0, 0) harr, hsz⟩
    · exact ⟨arr'', e', fz', (hne k hkb).trans hk', rfl⟩
  have hjlt : j < l.length := by
    rcases Nat.lt_or_ge j l.length with h' | h'
    · exact h'
    · simp [List.getElem?_eq_none h'] at hj
  -- where a block stands now, it stood before
  have back : ∀ {i p k : Nat} {ds : List AV}, At (s.hp.set id (l.set j (b, xs))) i p k ds → (i = id ∧ p = j ∧ k = b ∧ ds = xs) ∨ (¬ (i = id ∧ p = j) ∧ At s.hp i p k ds) := by
    intro i p k ds h
    rcases h.set with ⟨rfl, h'⟩ | ⟨hi, h'⟩
    · by_cases hp : p = j
      · subst hp
        rw [List.getElem?_set_self hjlt] at h'
        cases h'
        exact .inl ⟨rfl, rfl, rfl, rfl⟩
      · rw [List.getElem?_set_ne (Ne.symm hp)] at h'
        exact .inr ⟨fun h => hp h.2, l, hl, h'⟩
    · exact .inr ⟨fun h => hi h.1, h'⟩
  refine ⟨hr.size, hr.defers, fun t x hx => rel_mono (fun _ h => h) hk _ _ (hr.fr t x hx), ⟨fun k hF => by rw [setRow_size]; exact hr.sat.old k hF, fun {i p k ds} hx => ?_, fun {i i' p p' k ds ds'} hx hy => ?_⟩, hr.os, hr.tape, hr.output, by rw [setRow_size]; exact hr.hsize, fun k hlt hW => ?_, hr.F0, hr.F1, hr.elder.trans hk.size⟩
  · rcases back hx with ⟨_, _, rfl, rfl⟩ | ⟨hn, hx'⟩
    · exact ⟨hok, hnF, .inl ⟨_, e, setRow_heap w _ arr _ e (0, 0) harr, relP_mono (fun _ h => h) hk _ _ hrel⟩⟩
    · obtain ⟨h1, h2, h3⟩ := hr.sat.live hx'
      have hkb : k ≠ b := fun h => by subst h; exact hn (hr.sat.inj hx' hh)
      exact ⟨h1, h2, h3.mono (fun _ h => h) hk (hne _ hkb)⟩
  · rcases back hx with ⟨h1, h2, h3, _⟩ | ⟨_, hx'⟩ <;> rcases back hy with ⟨h4, h5, h6, _⟩ | ⟨_, hy'⟩
    · exact ⟨h1.trans h4.symm, h2.trans h5.symm⟩
    · subst h3; have := hr.sat.inj hh hy'; exact ⟨h1.trans this.1, h2.trans this.2⟩
    · subst h6; have := hr.sat.inj hx' hh; exact ⟨this.1.trans h4.symm, this.2.trans h5.symm⟩
    · exact hr.sat.inj hx' hy'
  · have : k ≠ b := by
      rintro rfl
      rcases hok with h | h
      · exact hW h
      · exact absurd hlt (Nat.not_lt.2 h)
    exact (hne k this).trans (hr.block k hlt hW)

theorem Run.store {p x : Operand} {id j b off m : Nat} {lr : Ar} {cs cs' : List AV} {y : AV} (hi : ops[i]? = some ⟨none, .store U p x, T, pos, aft, g⟩) (hw : want ops s.fr ⟨none, .store U p x, T, pos, aft, g⟩ = some true)
    (hp : Ev s.fr p (.adr id b off)) (hl : s.hp[id]? = some lr) (hj : lr[j]? = some (b, cs)) (hx : Ev s.fr x y) (hsz : szB P U m = true) (hy : y.scs = true) (hm : y.cs.length = m) (hlen : off + m ≤ cs.length) (hc : splice cs off y.cs = cs')
    (k : Run C ops l Q ⟨s.fr, s.hp.set id (lr.set j (b, cs'))⟩) : Run C ops (i :: l) Q s :=
  Run.act hi hw (fun F a w hr => by
    have hpv := Ev.rel hr hp
    simp only [rel] at hpv
    have hxv := Ev.rel hr hx
    obtain ⟨hrl, hone⟩ := rel_cells hy hxv
    obtain ⟨hpv, hcell⟩ := hpv
    obtain ⟨hok, hnF, hhl⟩ := hr.sat.live ⟨lr, hl, hj⟩
    obtain ⟨arr, e, harr, hrel⟩ := hhl.cells hcell
    have hul : (a.eval x).cells.size = m := by
      have := relL_len hrl
      rw [hm] at this
      simpa using this
    have hle := relP_len hrel
    simp only [Array.length_toList] at hle
    refine ⟨_, F, ?_, hr.row (arr' := (arr.toList.take off ++ (a.eval x).cells.toList ++ arr.toList.drop (off + (a.eval x).cells.toList.length)).toArray) hl hj harr ?_ ?_⟩
    · have hs : (sizeOf U).run P w = .ok m w := by
        unfold szB at hsz
        cases hi : P.info? U with
        | none => simp [hi] at hsz
        | some i => simp [hi] at hsz; simp [sizeOf, typeInfo, hi, hsz]
      have hst := run_storeCells_at (P := P) b off e (a.eval x).cells.toList 0 arr w harr (by simp; omega) hone
      simp only [Nat.add_zero] at hst
      simp only [execOp, Sem.run_bind, Instr.storeAt, hpv, Instr.sureAddr, Sem.run_pure, Result.andThen_ok, storeVar, hs, hul, ne_eq, not_true_eq_false, if_false, hst]
    · simp; omega
    · rw [← hc]
      unfold splice
      simp only [List.append_assoc]
      refine relP_append (relL_take off hrel (by omega)) (relP_append hrl ?_)
      rw [← relL_len hrl]
      exact relP_drop _ hrel) k
end ops
end
end Go.Ab
/- New blocks, aggregates, addresses of elements, slices, append, over an abstract state. -/
namespace Go.Ab
open Go.RowKit (Below)
section
variable {P : Program} {n : Nat} {C : Cx P n} {Q : Post} {s : St}

theorem lt_of_heap {w : World} {b : Nat} {o : Obj} (h : w.heap[b]? = some o) : b < w.heap.size := by
  rcases Nat.lt_or_ge b w.heap.size with h' | h'
  · exact h'
  · simp [Array.getElem?_eq_none h'] at h

theorem R.drew {F : Nat → Prop} {a : Act} {w : World} (hr : R C F s a w) : R C F s a w.drew :=
  hr.called (F' := F) ⟨rfl, rfl, rfl, Nat.le_refl _, fun _ _ => rfl⟩ (fun _ h => h) (fun _ h => .inl h) hr.sat.old

/-- A new block takes the place 'id'. -/
theorem R.alloc {F : Nat → Prop} {a : Act} {w : World} (hr : R C F s a w) (id : Nat) {xs : List AV} {arr : Array Value} {e : TypeId} (hrel : relP F w xs arr.toList) :
    R C F ⟨s.fr, s.hp.set id (.cells w.heap.size xs)⟩ a (w.alloc (.cells arr e)) := by
  have hold : ∀ k, k < w.heap.size → (w.alloc (.cells arr e)).heap[k]? = w.heap[k]? := fun k hk => Go.RowKit.Below.heap_alloc _ _ _ hk
  have hnew : (w.alloc (.cells arr e)).heap[w.heap.size]? = some (.cells arr e (0, 0)) := heap_alloc_new w _
  have hk : Later F w (w.alloc (.cells arr e)) := ⟨fun k hF => hold k (hr.sat.old k hF), fun k arr' e' fz' hh => ⟨arr', e', fz', (hold k (lt_of_heap hh)).trans hh, rfl⟩⟩
  have hlive : ∀ {i p k : Nat} {ds : List AV}, At s.hp i p k ds → k < w.heap.size := by
    intro i p k ds h
    exact (hr.sat.live h).2.2.lt
  have back : ∀ {i p k : Nat} {ds : List AV}, At (s.hp.set id [(w.heap.size, xs)]) i p k ds → (i = id ∧ p = 0 ∧ k = w.heap.size ∧ ds = xs) ∨ At s.hp i p k ds := by
    intro i p k ds h
    rcases h.set with ⟨rfl, h'⟩ | ⟨_, h'⟩
    · cases p with
      | zero => simp at h'; exact .inl ⟨rfl, rfl, h'.1.symm, h'.2.symm⟩
      | succ p => simp at h'
    · exact .inr h'
  refine ⟨hr.size, hr.defers, fun t x hx => rel_mono (fun _ h => h) hk _ _ (hr.fr t x hx), ⟨fun k hF => by have := hr.sat.old k hF; simp; omega, fun hx => ?_, fun hx hy => ?_⟩, hr.os, hr.tape, hr.output, by simp; exact Nat.le_succ_of_le hr.hsize,
    fun k hlt hW => (hold k (Nat.lt_of_lt_of_le hlt hr.hsize)).trans (hr.block k hlt hW), hr.F0, hr.F1, hr.elder.trans hk.size⟩
  · rcases back hx with ⟨_, _, rfl, rfl⟩ | hx
    · exact ⟨.inr hr.hsize, fun hF => absurd (hr.sat.old _ hF) (Nat.lt_irrefl _), .inl ⟨arr, e, hnew, relP_mono (fun _ h => h) hk _ _ hrel⟩⟩
    · obtain ⟨h1, h2, h3⟩ := hr.sat.live hx
      exact ⟨h1, h2, h3.mono (fun _ h => h) hk (hold _ h3.lt)⟩
  · rcases back hx with ⟨h3, h4, h1, _⟩ | hx' <;> rcases back hy with ⟨h5, h6, h2, _⟩ | hy'
    · exact ⟨h3.trans h5.symm, h4.trans h6.symm⟩
    · have := hlive hy'; omega
    · have := hlive hx'; omega
    · exact hr.sat.inj hx' hy'

def konst : Value → Option AV
  | .int k m => some (.int k m)
  | .bool b => some (.bool b)
  | .slice none 0 0 => some .nilsl
  | _ => none
def konsts : List Value → Option (List AV)
  | [] => some []
  | v :: r => match konst v, konsts r with
    | some x, some xs => some (x :: xs)
    | _, _ => none
theorem konst_rel {F : Nat → Prop} {w : World} {v : Value} {x : AV} (h : konst v = some x) : rel F w x v := by
  unfold konst at h
  split at h <;> first | (cases h; simp [rel]) | cases h
theorem konsts_rel {F : Nat → Prop} {w : World} : ∀ {vs : List Value} {xs : List AV}, konsts vs = some xs → relL F w xs vs
  | [], xs, h => by simp only [konsts, Option.some.injEq] at h; subst h; simp [relL]
  | v :: r, xs, h => by
    simp only [konsts] at h
    split at h
    · rename_i x ys hx hys
      cases h
      simp only [relL]
      exact ⟨v, r, rfl, konst_rel hx, konsts_rel hys⟩
    · cases h

/-- The cells of a type's zero value. -/
def zeroOf (P : Program) (T : TypeId) : Option (List AV) :=
  match P.info? T with
  | some i => match i.zero with
    | some v => konsts v.cells.toList
    | none => none
  | none => none

theorem zeroOf_spec {T : TypeId} {zs : List AV} (h : zeroOf P T = some zs) : ∃ z, (∀ w, (zeroValue T).run P w = .ok z w) ∧ (P.info? T).bind (·.zero) = some z ∧ ∀ F w, relL F w zs z.cells.toList := by
  unfold zeroOf at h
  split at h
  · rename_i i hi
    split at h
    · rename_i v hv
      exact ⟨v, fun w => by simp [zeroValue, typeInfo, hi, hv], by simp [hi, hv], fun F w => konsts_rel h⟩
    · cases h
  · cases h

section ops
variable {ops : Array Oper} {i : Nat} {l : List Nat} {d : Nat} {T U : TypeId} {pos : String} {aft : Array Edge} {g : Option (Nat × Bool)}

theorem Run.step {ops : Array Oper} {i : Nat} {l : List Nat} {o : Oper} (hi : ops[i]? = some o) (hw : want ops s.fr o = some true)
    (hv : ∀ F a w, R C F s a w → ∃ v w' F' s', (execOp a.eval o).run P w = .ok (.value v) w' ∧ R C F' s' (a.put o.dst v) w' ∧ Run C ops l Q s') : Run C ops (i :: l) Q s := by
  intro F a w hr
  obtain ⟨v, w', F', s', hrun, hr', k⟩ := hv F a w hr
  simp only [wpOps, hi, want_spec hr hw, if_true]
  refine .inl ?_
  simp only [Oper.wp, hrun, Oper.upon]
  exact k F' _ _ hr'

/-- An operation that makes one block, which takes the place 'id'. -/
theorem Run.new (id : Nat) {o : Oper} {xs : List AV} {x : Nat → AV} (hi : ops[i]? = some o) (hd : o.dst = some d) (hw : want ops s.fr o = some true) (hdn : Nat.blt d n = true)
    (hv : ∀ F a w, R C F s a w → ∃ v arr e, (execOp a.eval o).run P w = .ok (.value v) (w.alloc (.cells arr e)) ∧ relP F w xs arr.toList ∧ rel F (w.alloc (.cells arr e)) (x w.heap.size) v)
    (k : ∀ b, Run C ops l Q ⟨(d, x b) :: s.fr, s.hp.set id (.cells b xs)⟩) : Run C ops (i :: l) Q s :=
  Run.step hi hw fun F a w hr => by
    obtain ⟨v, arr, e, hrun, hrel, hx⟩ := hv F a w hr
    refine ⟨v, _, F, _, hrun, ?_, k w.heap.size⟩
    rw [hd]
    exact (hr.alloc id hrel).put hdn hx

theorem Run.alloc (id : Nat) {zs : List AV} (hi : ops[i]? = some ⟨some d, .alloc U, T, pos, aft, g⟩) (hw : want ops s.fr ⟨some d, .alloc U, T, pos, aft, g⟩ = some true) (hdn : Nat.blt d n = true)
    (hz : zeroOf P U = some zs) (k : ∀ b, Run C ops l Q ⟨(d, .adr id b 0) :: s.fr, s.hp.set id (.cells b zs)⟩) : Run C ops (i :: l) Q s :=
  Run.new id (x := fun b => .adr id b 0) hi rfl hw hdn (fun F a w hr => by
    obtain ⟨z, hzr, _, hzl⟩ := zeroOf_spec hz
    exact ⟨.pointer (some ⟨w.heap.size, 0, none⟩), z.cells, U, by simp [execOp, Instr.alloc, hzr w, newVar, newRow], relP_of_relL (hzl F w), by simp only [rel]; exact ⟨trivial, _, _, _, heap_alloc_new w _⟩⟩) k

theorem Run.box (id : Nat) {x : Operand} {y : AV} (hi : ops[i]? = some ⟨some d, .box U x, T, pos, aft, g⟩) (hw : want ops s.fr ⟨some d, .box U x, T, pos, aft, g⟩ = some true) (hdn : Nat.blt d n = true)
    (hx : Ev s.fr x y) (hy : y.scs = true) (k : ∀ b, Run C ops l Q ⟨(d, .adr id b 0) :: s.fr, s.hp.set id (.cells b y.cs)⟩) : Run C ops (i :: l) Q s :=
  Run.new id (x := fun b => .adr id b 0) hi rfl hw hdn (fun F a w hr =>
    ⟨.pointer (some ⟨w.heap.size, 0, none⟩), (a.eval x).cells, U, by simp [execOp, Instr.box, newVar, newRow], relP_of_relL (rel_cells hy (Ev.rel hr hx)).1, by simp only [rel]; exact ⟨trivial, _, _, _, heap_alloc_new w _⟩⟩) k

/-- Parts laid into cells. -/
def fillA (place : Nat → Option (Nat × Nat)) (cells : List AV) : List (Nat × AV) → Option (List AV)
  | [] => some cells
  | (j, x) :: r => match place j with
    | none => none
    | some (off, size) => if x.cs.length = size ∧ off + size ≤ cells.length then fillA place (splice cells off x.cs) r else none

theorem take_mid (A B : List Value) (u : Value) : (A ++ u :: B).take (A.length + 1) = A ++ [u] := by
  have h : A ++ u :: B = (A ++ [u]) ++ B := by simp
  rw [h, List.take_append_of_le_length (by simp), List.take_of_length_le (by simp)]
theorem drop_mid (A B : List Value) (u : Value) (m : Nat) : (A ++ u :: B).drop (A.length + 1 + m) = B.drop m := by
  have h : A ++ u :: B = (A ++ [u]) ++ B := by simp
  have h2 : A.length + 1 + m = (A ++ [u]).length + m := by simp
  rw [h, h2, List.drop_length_add_append]

theorem foldl_splice : ∀ (us : List Value) (off k : Nat) (cur : Array Value), off + k + us.length ≤ cur.size →
    ((us.zipIdx k).foldl (fun (cs : Array Value) (c, j) => cs.setIfInBounds (off + j) c) cur).toList = cur.toList.take (off + k) ++ (us ++ cur.toList.drop (off + k + us.length))
  | [], off, k, cur, _ => by simp
  | u :: us, off, k, cur, h => by
    simp only [List.zipIdx_cons, List.foldl_cons]
    simp only [List.length_cons] at h
    rw [foldl_splice us off (k + 1) _ (by simp; omega)]
    have hlt : off + k < cur.toList.length := by simp; omega
    rw [Array.toList_setIfInBounds, List.set_eq_take_append_cons_drop, if_pos hlt]
    have hA : (cur.toList.take (off + k)).length = off + k := by rw [List.length_take]; omega
    have t1 := take_mid (cur.toList.take (off + k)) (cur.toList.drop (off + k + 1)) u
    have t2 := drop_mid (cur.toList.take (off + k)) (cur.toList.drop (off + k + 1)) u us.length
    rw [hA] at t1 t2
    have e1 : off + (k + 1) = off + k + 1 := by omega
    rw [e1, t1, t2, List.drop_drop]
    have e3 : off + k + 1 + us.length = off + k + (us.length + 1) := by omega
    simp [e3]

theorem splice_rel {F : Nat → Prop} {w : World} {cs xs : List AV} {cur : List Value} {us : List Value} {off : Nat} (hcs : relL F w cs cur) (hxs : relL F w xs us) (h : off + xs.length ≤ cs.length) :
    relL F w (splice cs off xs) (cur.take off ++ (us ++ cur.drop (off + us.length))) := by
  have hd : ∀ {xs : List AV} {vs : List Value} (k : Nat), relL F w xs vs → relL F w (xs.drop k) (vs.drop k) := by
    intro xs
    induction xs with
    | nil => intro vs k h; simp only [relL] at h; subst h; simp [relL]
    | cons x xs ih =>
      intro vs k h
      cases k with
      | zero => simpa using h
      | succ k => simp only [relL] at h; obtain ⟨v, r, rfl, _, h2⟩ := h; simpa using ih k h2
  unfold splice
  rw [relL_len hxs]
  exact relL_append (relL_take off (relP_of_relL hcs) (by omega)) (relL_append hxs (hd _ hcs))

theorem fill_rel {F : Nat → Prop} {w : World} {place : Nat → Option (Nat × Nat)} : ∀ {parts : List (Nat × AV)} {vparts : List (Nat × Value)} {cells out : List AV} {vcells : Array Value},
    (∀ j : Nat, (parts[j]?).isSome = (vparts[j]?).isSome) → (∀ (j k k' : Nat) (x : AV) (v : Value), parts[j]? = some (k, x) → vparts[j]? = some (k', v) → k = k' ∧ relL F w x.cs v.cells.toList) → relL F w cells vcells.toList → fillA place cells parts = some out →
    ∃ vout, Instr.fill place vcells vparts = some vout ∧ relL F w out vout.toList
  | [], [], cells, out, vcells, _, _, hc, h => by
    simp only [fillA, Option.some.injEq] at h
    subst h
    exact ⟨vcells, rfl, hc⟩
  | [], _ :: _, _, _, _, hs, _, _, _ => by have := hs 0; simp at this
  | _ :: _, [], _, _, _, hs, _, _, _ => by have := hs 0; simp at this
  | (k, x) :: r, (k', v) :: vr, cells, out, vcells, hs, hp, hc, h => by
    obtain ⟨rfl, hx⟩ := hp 0 k k' x v (by simp) (by simp)
    simp only [fillA] at h
    simp only [Instr.fill]
    split at h
    · cases h
    · rename_i off size hpl
      rw [hpl]
      split at h
      · rename_i hcond
        have hl := relL_len hx
        have hlc := relL_len hc
        simp only [Array.length_toList] at hl hlc
        have hok : (v.cells.size ≠ size || decide (off + v.cells.size > vcells.size)) = false := by
          simp; omega
        simp only [hok, Bool.false_eq_true, if_false]
        refine fill_rel (fun j => by simpa using hs (j + 1)) (fun j a b c e h1 h2 => hp (j + 1) a b c e (by simpa using h1) (by simpa using h2)) ?_ h
        have hf := foldl_splice v.cells.toList off 0 vcells (by simp; omega)
        simp only [Nat.add_zero] at hf
        have : (v.cells.zipIdx.foldl (fun (cs : Array Value) (c, j) => cs.setIfInBounds (off + j) c) vcells).toList = vcells.toList.take off ++ (v.cells.toList ++ vcells.toList.drop (off + v.cells.toList.length)) := by
          rw [← hf, ← Array.foldl_toList, Array.toList_zipIdx]
        rw [this]
        exact splice_rel hc hx (by omega)
      · cases h

/-- A type that a composite literal builds: its zero cells; where its parts lie. -/
def placesOf (P : Program) (T : TypeId) : Option (Nat → Option (Nat × Nat)) :=
  match P.underlying T with
  | some (.array _ e) => match P.info? e with
    | some ie => some fun j => some (j * ie.size, ie.size)
    | none => none
  | some (.struct fs) => match fs.toList.mapM (fun f => (P.info? f.type).map fun i => (f.offset, i.size)) with
    | some pl => some (pl.toArray[·]?)
    | none => none
  | _ => none

inductive Parts (fr : List (Nat × AV)) : List (Nat × Operand) → List (Nat × AV) → Prop where
  | nil : Parts fr [] []
  | cons {j : Nat} {o : Operand} {r : List (Nat × Operand)} {x : AV} {xs : List (Nat × AV)} (h : Ev fr o x) (hx : x.scs = true) (hs : Parts fr r xs) : Parts fr ((j, o) :: r) ((j, x) :: xs)

theorem partsOf_spec {F : Nat → Prop} {a : Act} {w : World} (hr : R C F s a w) : ∀ {ps : List (Nat × Operand)} {xs : List (Nat × AV)}, Parts s.fr ps xs →
    (∀ j : Nat, (xs[j]?).isSome = ((ps.map fun q => (q.1, a.eval q.2))[j]?).isSome) ∧ (∀ (j k k' : Nat) (x : AV) (v : Value), xs[j]? = some (k, x) → (ps.map fun q => (q.1, a.eval q.2))[j]? = some (k', v) → k = k' ∧ relL F w x.cs v.cells.toList)
  | _, _, .nil => by simp
  | _, _, .cons h hsc hs => by
    obtain ⟨h1, h2⟩ := partsOf_spec hr hs
    refine ⟨fun j => ?_, fun j k k' y v hy hv => ?_⟩
    · cases j with
      | zero => simp
      | succ j => simpa using h1 j
    · cases j with
      | zero =>
        simp at hy hv
        obtain ⟨rfl, rfl⟩ := hy
        obtain ⟨rfl, rfl⟩ := hv
        exact ⟨rfl, (rel_cells hsc (Ev.rel hr h)).1⟩
      | succ j => exact h2 j k k' y v (by simpa using hy) (by simpa using hv)

structure Builds (P : Program) (T : TypeId) (zs : List AV) (pl : Nat → Option (Nat × Nat)) : Prop where
  zero : zeroOf P T = some zs
  places : placesOf P T = some pl

theorem Run.build {ps : Array (Nat × Operand)} {xs : List (Nat × AV)} {zs out : List AV} {pl : Nat → Option (Nat × Nat)} (hi : ops[i]? = some ⟨some d, .build U ps, T, pos, aft, g⟩) (hw : want ops s.fr ⟨some d, .build U ps, T, pos, aft, g⟩ = some true) (hdn : Nat.blt d n = true)
    (hT : Builds P U zs pl) (hp : Parts s.fr ps.toList xs) (hf : fillA pl zs xs = some out) (k : Run C ops l Q (s.put d (.agg out))) : Run C ops (i :: l) Q s :=
  Run.pure hi rfl hdn hw (fun F a w hr => by
    obtain ⟨z, _, hz, hzl⟩ := zeroOf_spec hT.zero
    obtain ⟨h1, h2⟩ := partsOf_spec hr hp
    obtain ⟨vout, hfill, hrel⟩ := fill_rel h1 h2 (hzl F w) hf
    refine ⟨.agg vout, ?_, by simp only [rel]; exact ⟨_, rfl, hrel⟩⟩
    have hb : P.built U (ps.map fun q => (q.1, a.eval q.2)).toList = some vout := by
      have hpl := hT.places
      unfold placesOf at hpl
      unfold Program.built
      cases hi : P.info? U with
      | none => simp [hi] at hz
      | some it =>
        simp only [hi, Option.bind_some] at hz
        split at hpl
        · rename_i m e hu
          split at hpl
          · rename_i ie hie
            cases hpl
            simp only [hu, hz, hie, Array.toList_map]
            exact hfill
          · cases hpl
        · rename_i fs hu
          split at hpl
          · rename_i pls hpls
            cases hpl
            simp only [hu, hz, hpls, Array.toList_map]
            exact hfill
          · cases hpl
        · cases hpl
    have := run_build (P := P) w U (ps.map fun q => (q.1, a.eval q.2)) vout hb
    simp only [execOp, Sem.run_bind, this, Result.andThen_ok, Sem.run_pure]) k
end ops
end
end Go.Ab
/- Addresses of elements, slices, len, make, append, over an abstract state. -/
namespace Go.Ab
open Go.RowKit (Below)
section
variable {P : Program} {n : Nat} {C : Cx P n} {Q : Post} {s : St}

/-- A slice type whose elements fill m cells | an array type of k elements of m cells. -/
def slB (P : Program) (T : TypeId) (m : Nat) : Bool :=
  match P.underlying T with
  | some (.slice e) => szB P e m
  | _ => false
def arB (P : Program) (T : TypeId) (k m : Nat) : Bool :=
  match P.underlying T with
  | some (.array k' e) => k' == k && szB P e m
  | _ => false
theorem slB_spec {T : TypeId} {m : Nat} (h : slB P T m = true) : ∃ e, P.underlying T = some (.slice e) ∧ ∀ w, (sizeOf e).run P w = .ok m w := by
  unfold slB at h
  split at h
  · rename_i e he
    refine ⟨e, he, fun w => ?_⟩
    unfold szB at h
    cases hi : P.info? e with
    | none => simp [hi] at h
    | some i => simp [hi] at h; simp [sizeOf, typeInfo, hi, h]
  · cases h
theorem arB_spec {T : TypeId} {k m : Nat} (h : arB P T k m = true) : ∃ e, P.underlying T = some (.array k e) ∧ ∀ w, (sizeOf e).run P w = .ok m w := by
  unfold arB at h
  split at h
  · rename_i k' e he
    simp only [Bool.and_eq_true, beq_iff_eq] at h
    obtain ⟨rfl, h⟩ := h
    refine ⟨e, he, fun w => ?_⟩
    unfold szB at h
    cases hi : P.info? e with
    | none => simp [hi] at h
    | some i => simp [hi] at h; simp [sizeOf, typeInfo, hi, h]
  · cases h

section ops
variable {ops : Array Oper} {i : Nat} {l : List Nat} {d : Nat} {T U : TypeId} {pos : String} {aft : Array Edge} {g : Option (Nat × Bool)}

theorem run_indexAt_sl {m b o len cap j : Nat} {kd : IntKind} {q : Int} (w : World) (hT : slB P U m = true) (hq : q = (j : Int)) (hlt : j < len) :
    (Instr.indexAt U (.slice (some ⟨b, o, none⟩) len cap) (.int kd q)).run P w = .ok (.pointer (some ⟨b, o + j * m, none⟩)) w := by
  obtain ⟨e, hu, hs⟩ := slB_spec hT
  subst hq
  have h1 : (0 : Int) ≤ j ∧ (j : Int) < len := by omega
  simp only [Instr.indexAt, asIntOf, Sem.run_bind, Sem.run_pure, Result.andThen_ok, underlying, run_program, hu, h1, and_self, if_true, hs, Int.toNat_natCast, addr_add]

theorem run_indexAt_ar {k m b o j : Nat} {kd : IntKind} {q : Int} (w : World) (hT : arB P U k m = true) (hq : q = (j : Int)) (hlt : j < k) :
    (Instr.indexAt U (.pointer (some ⟨b, o, none⟩)) (.int kd q)).run P w = .ok (.pointer (some ⟨b, o + j * m, none⟩)) w := by
  obtain ⟨e, hu, hs⟩ := arB_spec hT
  subst hq
  have h1 : (0 : Int) ≤ j ∧ (j : Int) < k := by omega
  simp only [Instr.indexAt, asIntOf, Sem.run_bind, Sem.run_pure, Result.andThen_ok, underlying, run_program, hu, Instr.sureAddr, h1, and_self, if_true, hs, Int.toNat_natCast, addr_add]

theorem Run.idx {x y : Operand} {id b m off len cap j : Nat} {opn : Bool} {kd : IntKind} {q : Int} (hi : ops[i]? = some ⟨some d, .indexAddr U x y, T, pos, aft, g⟩) (hw : want ops s.fr ⟨some d, .indexAddr U x y, T, pos, aft, g⟩ = some true) (hdn : Nat.blt d n = true)
    (hx : Ev s.fr x (.own id b m off len cap opn)) (hy : Ev s.fr y (.int kd q)) (hT : slB P U m = true) (hq : q = (j : Int)) (hlt : j < len) (k : Run C ops l Q (s.put d (.adr id b (off + j * m)))) : Run C ops (i :: l) Q s :=
  Run.pure hi rfl hdn hw (fun F a w hr => by
    have h1 := Ev.rel hr hx
    have h2 := Ev.rel hr hy
    simp only [rel] at h1 h2
    obtain ⟨c, he, _, _, arr, e, fz, hh, _⟩ := h1
    refine ⟨.pointer (some ⟨b, off + j * m, none⟩), ?_, by simp only [rel]; exact ⟨trivial, arr, e, fz, hh⟩⟩
    simp only [execOp, Sem.run_bind, he, h2, run_indexAt_sl w hT hq hlt, Result.andThen_ok, Sem.run_pure]) k

theorem Run.idx_imm {x y : Operand} {cs : List AV} {m len j : Nat} {kd : IntKind} {q : Int} (hi : ops[i]? = some ⟨some d, .indexAddr U x y, T, pos, aft, g⟩) (hw : want ops s.fr ⟨some d, .indexAddr U x y, T, pos, aft, g⟩ = some true) (hdn : Nat.blt d n = true)
    (hx : Ev s.fr x (.imm cs len)) (hy : Ev s.fr y (.int kd q)) (hT : slB P U m = true) (hq : q = (j : Int)) (hlt : j < len) (k : Run C ops l Q (s.put d (.immAt cs (j * m)))) : Run C ops (i :: l) Q s :=
  Run.pure hi rfl hdn hw (fun F a w hr => by
    have h1 := Ev.rel hr hx
    have h2 := Ev.rel hr hy
    simp only [rel] at h1 h2
    obtain ⟨ad, c, he, _, hp⟩ := h1
    obtain ⟨b, o, arr, e, fz, rfl, hF, hh, hrel⟩ := hp (by omega)
    refine ⟨.pointer (some ⟨b, o + j * m, none⟩), ?_, by simp only [rel]; exact ⟨b, o, arr, e, fz, rfl, hF, hh, hrel⟩⟩
    simp only [execOp, Sem.run_bind, he, h2, run_indexAt_sl w hT hq hlt, Result.andThen_ok, Sem.run_pure]) k

theorem Run.idx_arr {x y : Operand} {id b m off len j : Nat} {kd : IntKind} {q : Int} (hi : ops[i]? = some ⟨some d, .indexAddr U x y, T, pos, aft, g⟩) (hw : want ops s.fr ⟨some d, .indexAddr U x y, T, pos, aft, g⟩ = some true) (hdn : Nat.blt d n = true)
    (hx : Ev s.fr x (.adr id b off)) (hy : Ev s.fr y (.int kd q)) (hT : arB P U len m = true) (hq : q = (j : Int)) (hlt : j < len) (k : Run C ops l Q (s.put d (.adr id b (off + j * m)))) : Run C ops (i :: l) Q s :=
  Run.pure hi rfl hdn hw (fun F a w hr => by
    have h1 := Ev.rel hr hx
    have h2 := Ev.rel hr hy
    simp only [rel] at h1 h2
    obtain ⟨h1, hcell⟩ := h1
    refine ⟨.pointer (some ⟨b, off + j * m, none⟩), ?_, by simp only [rel]; exact ⟨trivial, hcell⟩⟩
    simp only [execOp, Sem.run_bind, h1, h2, run_indexAt_ar w hT hq hlt, Result.andThen_ok, Sem.run_pure]) k

theorem Run.idx_immarr {x y : Operand} {cs : List AV} {m off len j : Nat} {kd : IntKind} {q : Int} (hi : ops[i]? = some ⟨some d, .indexAddr U x y, T, pos, aft, g⟩) (hw : want ops s.fr ⟨some d, .indexAddr U x y, T, pos, aft, g⟩ = some true) (hdn : Nat.blt d n = true)
    (hx : Ev s.fr x (.immAt cs off)) (hy : Ev s.fr y (.int kd q)) (hT : arB P U len m = true) (hq : q = (j : Int)) (hlt : j < len) (k : Run C ops l Q (s.put d (.immAt cs (off + j * m)))) : Run C ops (i :: l) Q s :=
  Run.pure hi rfl hdn hw (fun F a w hr => by
    have h1 := Ev.rel hr hx
    have h2 := Ev.rel hr hy
    simp only [rel] at h1 h2
    obtain ⟨b, o, arr, e, fz, he, hF, hh, hrel⟩ := h1
    refine ⟨.pointer (some ⟨b, o + off + j * m, none⟩), ?_, by simp only [rel]; exact ⟨b, o, arr, e, fz, by rw [Nat.add_assoc], hF, hh, hrel⟩⟩
    simp only [execOp, Sem.run_bind, he, h2, run_indexAt_ar w hT hq hlt, Result.andThen_ok, Sem.run_pure]) k

/-! ### len -/
def lenA : AV → Option Nat
  | .own _ _ _ _ len _ _ => some len
  | .imm _ len => some len
  | .nilsl | .empty _ => some 0
  | _ => none
theorem lenA_spec {F : Nat → Prop} {w : World} {x : AV} {v : Value} {k : Nat} (h : lenA x = some k) (hr : rel F w x v) : ∃ ad c, v = .slice ad k c := by
  cases x <;> simp only [lenA, reduceCtorEq, Option.some.injEq] at h <;> simp only [rel] at hr
  · subst h; obtain ⟨a, c, rfl, _⟩ := hr; exact ⟨a, c, rfl⟩
  · subst h; obtain ⟨c, rfl, _⟩ := hr; exact ⟨_, c, rfl⟩
  · subst h; exact ⟨_, _, hr⟩
  · subst h; obtain ⟨a, c, rfl, _⟩ := hr; exact ⟨a, c, rfl⟩
def isSl (P : Program) (T : TypeId) : Bool := match P.underlying T with | some (.slice _) => true | _ => false

theorem Run.len {x : Operand} {p : AV} {k : Nat} (hi : ops[i]? = some ⟨some d, .call ⟨.builtin .len, #[x], #[U]⟩, T, pos, aft, g⟩) (hw : want ops s.fr ⟨some d, .call ⟨.builtin .len, #[x], #[U]⟩, T, pos, aft, g⟩ = some true) (hdn : Nat.blt d n = true)
    (hx : Ev s.fr x p) (hT : isSl P U = true) (hk : lenA p = some k) (kk : Run C ops l Q (s.put d (.int .i64 (k : Int)))) : Run C ops (i :: l) Q s :=
  Run.pure hi rfl hdn hw (fun F a w hr => by
    obtain ⟨ad, c, he⟩ := lenA_spec hk (Ev.rel hr hx)
    refine ⟨.int .i64 k, ?_, by simp [rel]⟩
    unfold isSl at hT
    split at hT
    · rename_i e hu
      simp [execOp, resolve, invoke, builtin, Builtin.len_, he, run_underlying hu, goInt]
    · cases hT) kk

/-! ### slices of slices and of arrays -/
/-- A bound of a slice expression. -/
def Bnd (fr : List (Nat × AV)) (o : Option Operand) (dflt k : Nat) : Prop :=
  match o with
  | none => k = dflt
  | some x => ∃ kd q, Ev fr x (.int kd q) ∧ q = (k : Int)
theorem Bnd.no {fr : List (Nat × AV)} {k : Nat} : Bnd fr none k k := rfl
theorem Bnd.at {fr : List (Nat × AV)} {x : Operand} {dflt k : Nat} {kd : IntKind} {q : Int} (h : Ev fr x (.int kd q)) (hq : q = (k : Int)) : Bnd fr (some x) dflt k := ⟨kd, q, h, hq⟩

theorem run_bounds {F : Nat → Prop} {a : Act} {w : World} (hr : R C F s a w) (isSlice : Bool) {lo hi : Option Operand} {len cap bl bh : Nat} (hlo : Bnd s.fr lo 0 bl) (hhi : Bnd s.fr hi len bh) (h1 : bl ≤ bh) (h2 : bh ≤ cap) :
    (Instr.sliceBounds isSlice len cap (lo.map a.eval) (hi.map a.eval) none).run P w = .ok (bl, bh, cap) w := by
  have sb : ∀ (kd : IntKind) (k y : Nat) (code : BoundsCode), k ≤ y → (Instr.sliceBound (.int kd (k : Int)) y code).run P w = .ok k w := fun kd k y code hk => by
    have := run_sliceBound (P := P) w kd (k : Int) y code (by omega) (by omega)
    simpa using this
  have lo' : (lo = none ∧ bl = 0) ∨ ∃ x kd, lo = some x ∧ a.eval x = .int kd (bl : Int) := by
    cases lo with
    | none => exact .inl ⟨rfl, hlo⟩
    | some x =>
      obtain ⟨kd, q, hx, rfl⟩ := hlo
      have := Ev.rel hr hx
      simp only [rel] at this
      exact .inr ⟨x, kd, rfl, this⟩
  have hi' : (hi = none ∧ bh = len) ∨ ∃ x kd, hi = some x ∧ a.eval x = .int kd (bh : Int) := by
    cases hi with
    | none => exact .inl ⟨rfl, hhi⟩
    | some x =>
      obtain ⟨kd, q, hx, rfl⟩ := hhi
      have := Ev.rel hr hx
      simp only [rel] at this
      exact .inr ⟨x, kd, rfl, this⟩
  rcases lo' with ⟨rfl, rfl⟩ | ⟨x, kd, rfl, hx⟩ <;> rcases hi' with ⟨rfl, rfl⟩ | ⟨y, kd', rfl, hy⟩ <;>
    simp [Instr.sliceBounds, *]

theorem run_sliceAt_gen {F : Nat → Prop} {a : Act} {w : World} (hr : R C F s a w) {m : Nat} {lo hi : Option Operand} {ad : Option Addr} {len cap bl bh : Nat} (hT : slB P U m = true) (hlo : Bnd s.fr lo 0 bl) (hhi : Bnd s.fr hi len bh) (h1 : bl ≤ bh) (h2 : bh ≤ cap) :
    (Instr.sliceAt U (.slice ad len cap) (lo.map a.eval) (hi.map a.eval) none).run P w = .ok (.slice (if cap = bl then ad else ad.map (·.add (bl * m))) (bh - bl) (cap - bl)) w := by
  obtain ⟨e, hu, hs⟩ := slB_spec hT
  simp only [Instr.sliceAt, Sem.run_bind, underlying, run_program, Result.andThen_ok, hu, Sem.run_pure, Instr.slice, run_bounds hr true hlo hhi h1 h2, hs]

theorem run_sliceAt_arr {F : Nat → Prop} {a : Act} {w : World} (hr : R C F s a w) {m : Nat} {lo hi : Option Operand} {ad : Addr} {len bl bh : Nat} (hT : arB P U len m = true) (hlo : Bnd s.fr lo 0 bl) (hhi : Bnd s.fr hi len bh) (h1 : bl ≤ bh) (h2 : bh ≤ len) :
    (Instr.sliceAt U (.pointer (some ad)) (lo.map a.eval) (hi.map a.eval) none).run P w = .ok (.slice (some (if len = bl then ad else ad.add (bl * m))) (bh - bl) (len - bl)) w := by
  obtain ⟨e, hu, hs⟩ := arB_spec hT
  simp only [Instr.sliceAt, Sem.run_bind, underlying, run_program, Result.andThen_ok, hu, Sem.run_pure, Instr.sureAddr, run_bounds hr false hlo hhi h1 h2, hs]

/-- x[lo:hi] of a slice of the call's own, lo below its capacity, or 0. -/
theorem Run.slice {x : Operand} {lo hi : Option Operand} {id b m off len cap bl bh : Nat} {opn : Bool} (hi' : ops[i]? = some ⟨some d, .slice U x lo hi none, T, pos, aft, g⟩) (hw : want ops s.fr ⟨some d, .slice U x lo hi none, T, pos, aft, g⟩ = some true) (hdn : Nat.blt d n = true)
    (hx : Ev s.fr x (.own id b m off len cap opn)) (hT : slB P U m = true) (hlo : Bnd s.fr lo 0 bl) (hhi : Bnd s.fr hi len bh) (h1 : bl ≤ bh) (h2 : bh ≤ cap) (h3 : bl < cap ∨ bl = 0)
    (k : Run C ops l Q (s.put d (.own id b m (off + bl * m) (bh - bl) (cap - bl) opn))) : Run C ops (i :: l) Q s :=
  Run.pure hi' rfl hdn hw (fun F a w hr => by
    have h4 := Ev.rel hr hx
    simp only [rel] at h4
    obtain ⟨c, he, hc, hop, arr, e, fz, hh, hsz⟩ := h4
    have hsl := run_sliceAt_gen hr (ad := some ⟨b, off, none⟩) (cap := c) hT hlo hhi h1 (by omega)
    refine ⟨.slice (some ⟨b, off + bl * m, none⟩) (bh - bl) (c - bl), ?_, ?_⟩
    · simp only [execOp, Sem.run_bind, he, Option.map_none, hsl, Result.andThen_ok, Sem.run_pure]
      have : (if c = bl then some (⟨b, off, none⟩ : Addr) else (some (⟨b, off, none⟩ : Addr)).map (·.add (bl * m))) = some ⟨b, off + bl * m, none⟩ := by
        split
        · rename_i hcb
          have : bl = 0 := by omega
          subst this
          simp
        · simp [addr_add]
      rw [this]
    · simp only [rel]
      refine ⟨c - bl, rfl, by omega, fun ho => by rw [hop ho], arr, e, fz, hh, ?_⟩
      have : bl * m + (c - bl) * m = c * m := by rw [← Nat.add_mul]; congr 1; omega
      omega) k

/-- x[lo:hi] of a snapshot. -/
theorem Run.slice_imm {x : Operand} {lo hi : Option Operand} {cs : List AV} {m len bl bh : Nat} (hi' : ops[i]? = some ⟨some d, .slice U x lo hi none, T, pos, aft, g⟩) (hw : want ops s.fr ⟨some d, .slice U x lo hi none, T, pos, aft, g⟩ = some true) (hdn : Nat.blt d n = true)
    (hx : Ev s.fr x (.imm cs len)) (hT : slB P U m = true) (hlo : Bnd s.fr lo 0 bl) (hhi : Bnd s.fr hi len bh) (h1 : bl ≤ bh) (h2 : bh ≤ len)
    (k : Run C ops l Q (s.put d (.imm ((cs.drop (bl * m)).take ((bh - bl) * m)) (bh - bl)))) : Run C ops (i :: l) Q s :=
  Run.pure hi' rfl hdn hw (fun F a w hr => by
    have h4 := Ev.rel hr hx
    simp only [rel] at h4
    obtain ⟨ad, c, he, hc, hp⟩ := h4
    have hsl := run_sliceAt_gen hr (ad := ad) (cap := c) hT hlo hhi h1 (by omega)
    refine ⟨_, by simp only [execOp, Sem.run_bind, he, Option.map_none, hsl, Result.andThen_ok, Sem.run_pure]; rfl, ?_⟩
    simp only [rel]
    refine ⟨_, _, rfl, by omega, fun hpos => ?_⟩
    obtain ⟨b, o, arr, e, fz, rfl, hF, hh, hrel⟩ := hp (by omega)
    rw [if_neg (by omega)]
    refine ⟨b, o + bl * m, arr, e, fz, by simp [addr_add], hF, hh, ?_⟩
    have := relP_drop (bl * m) hrel
    rw [List.drop_drop] at this
    have tk : ∀ {xs : List AV} {vs : List Value} (q : Nat), relP F w xs vs → relP F w (xs.take q) vs := by
      intro xs
      induction xs with
      | nil => intro vs q h; simp [relP]
      | cons x xs ih =>
        intro vs q h
        cases q with
        | zero => simp [relP]
        | succ q => simp only [relP] at h; obtain ⟨v, r, rfl, h1, h2⟩ := h; simp only [List.take_succ_cons, relP]; exact ⟨v, r, rfl, h1, ih q h2⟩
    exact tk _ this) k

/-- a[lo:hi] of an array of the call's own. -/
theorem Run.slice_arr {x : Operand} {lo hi : Option Operand} {id b m off len bl bh : Nat} {cs : List AV} (hi' : ops[i]? = some ⟨some d, .slice U x lo hi none, T, pos, aft, g⟩) (hw : want ops s.fr ⟨some d, .slice U x lo hi none, T, pos, aft, g⟩ = some true) (hdn : Nat.blt d n = true)
    (hx : Ev s.fr x (.adr id b off)) (hh : s.hp[id]? = some [(b, cs)]) (hfit : off + len * m ≤ cs.length) (hT : arB P U len m = true) (hlo : Bnd s.fr lo 0 bl) (hhi : Bnd s.fr hi len bh) (h1 : bl ≤ bh) (h2 : bh ≤ len) (h3 : bl < len ∨ bl = 0)
    (k : Run C ops l Q (s.put d (.own id b m (off + bl * m) (bh - bl) (len - bl) false))) : Run C ops (i :: l) Q s :=
  Run.pure hi' rfl hdn hw (fun F a w hr => by
    have h4 := Ev.rel hr hx
    simp only [rel] at h4
    obtain ⟨h4, hcell⟩ := h4
    obtain ⟨arr, e, hheap, hrel⟩ := (hr.sat.live (At.one hh)).2.2.cells hcell
    have hsl := run_sliceAt_arr hr (ad := ⟨b, off, none⟩) hT hlo hhi h1 h2
    refine ⟨.slice (some ⟨b, off + bl * m, none⟩) (bh - bl) (len - bl), ?_, ?_⟩
    · simp only [execOp, Sem.run_bind, h4, Option.map_none, hsl, Result.andThen_ok, Sem.run_pure]
      have : (if len = bl then (⟨b, off, none⟩ : Addr) else (⟨b, off, none⟩ : Addr).add (bl * m)) = ⟨b, off + bl * m, none⟩ := by
        split
        · have : bl = 0 := by omega
          subst this
          simp
        · simp [addr_add]
      rw [this]
    · simp only [rel]
      refine ⟨len - bl, rfl, Nat.le_refl _, fun _ => rfl, arr, e, _, hheap, ?_⟩
      have h5 := relP_len hrel
      have : bl * m + (len - bl) * m = len * m := by rw [← Nat.add_mul]; congr 1; omega
      simp at h5
      omega) k

/-! ### a slice literal, make -/
def zcells (zs : List AV) (m cnt : Nat) : List AV := (List.range cnt).map fun j => zs.getD (j % m) .junk

theorem relL_map_range {F : Nat → Prop} {w : World} (f : Nat → AV) (gv : Nat → Value) : ∀ (l : List Nat), (∀ j ∈ l, rel F w (f j) (gv j)) → relL F w (l.map f) (l.map gv)
  | [], _ => by simp [relL]
  | j :: l, h => by simp only [List.map_cons, relL]; exact ⟨_, _, rfl, h j (by simp), relL_map_range f gv l (fun k hk => h k (by simp [hk]))⟩

theorem relL_getD {F : Nat → Prop} {w : World} {zs : List AV} {arr : Array Value} (h : relL F w zs arr.toList) {j : Nat} (hj : j < zs.length) : rel F w (zs.getD j .junk) (arr[j]!) := by
  have h1 : zs[j]? = some (zs.getD j .junk) := by simp [List.getD, hj]
  obtain ⟨u, hu, hru⟩ := relL_get h h1
  have hlt : j < arr.size := by have := relL_len h; simp at this; omega
  rw [getElem!_pos arr j hlt]
  have : arr[j]? = some u := by simpa using hu
  rw [Array.getElem?_eq_getElem hlt] at this
  cases this
  exact hru

structure Elem (P : Program) (T : TypeId) (m bytes : Nat) (zs : List AV) : Prop where
  ok : ∃ e i z, P.underlying T = some (.slice e) ∧ P.info? e = some i ∧ i.zero = some z ∧ i.size = m ∧ i.bytes = bytes ∧ z.cells.size = m ∧ 0 < m
  zero : ∀ e, P.underlying T = some (.slice e) → zeroOf P e = some zs
def elemB (P : Program) (T : TypeId) (m bytes : Nat) : Bool :=
  match P.underlying T with
  | some (.slice e) => match P.info? e with
    | some i => match i.zero with
      | some z => i.size == m && i.bytes == bytes && z.cells.size == m && Nat.blt 0 m
      | none => false
    | none => false
  | _ => false
def elemZ (P : Program) (T : TypeId) : Option (List AV) :=
  match P.underlying T with
  | some (.slice e) => zeroOf P e
  | _ => none
theorem Elem.mk' {T : TypeId} {m bytes : Nat} {zs : List AV} (h : elemB P T m bytes = true) (hz : elemZ P T = some zs) : Elem P T m bytes zs := by
  unfold elemB at h
  unfold elemZ at hz
  split at h
  · rename_i e he
    split at h
    · rename_i i hi
      split at h
      · rename_i z hzz
        simp only [Bool.and_eq_true, beq_iff_eq] at h
        obtain ⟨⟨⟨h1, h2⟩, h3⟩, h4⟩ := h
        refine ⟨⟨e, i, z, he, hi, hzz, h1, h2, h3, Nat.blt_eq.mp h4⟩, fun e' he' => ?_⟩
        rw [he] at he'
        cases he'
        simpa [he] using hz
      · cases h
    · cases h
  · cases h

theorem Run.buildSlice (id : Nat) {len m bytes : Nat} {ps : Array (Nat × Operand)} {xs : List (Nat × AV)} {zs out : List AV} (hi : ops[i]? = some ⟨some d, .buildSlice U len ps, T, pos, aft, g⟩) (hw : want ops s.fr ⟨some d, .buildSlice U len ps, T, pos, aft, g⟩ = some true) (hdn : Nat.blt d n = true)
    (hT : Elem P U m bytes zs) (hsm : len * m ≤ 16777216) (hp : Parts s.fr ps.toList xs) (hf : fillA (fun j => some (j * m, m)) (zcells zs m (len * m)) xs = some out)
    (hlo : out.length = len * m) (k : ∀ b, Run C ops l Q ⟨(d, .own id b m 0 len len false) :: s.fr, s.hp.set id (.cells b out)⟩) : Run C ops (i :: l) Q s :=
  Run.new id (x := fun b => .own id b m 0 len len false) hi rfl hw hdn (fun F a w hr => by
    obtain ⟨⟨e, it, z, hu, hie, hz, hsz, hby, hzc, hm⟩, hzs⟩ := hT
    obtain ⟨z', hzr, hz', hzl⟩ := zeroOf_spec (hzs e hu)
    have hzz : z' = z := by simp [hie, hz] at hz'; exact hz'.symm
    subst hzz
    obtain ⟨h1, h2⟩ := partsOf_spec hr hp
    have hzlen : zs.length = m := by have := relL_len (hzl F w); simp at this; omega
    have hcells : relL F w (zcells zs m (len * m)) ((Array.range (len * m)).map (z'.cells[· % z'.cells.size]!)).toList := by
      rw [Array.toList_map, Array.toList_range]
      unfold zcells
      refine relL_map_range _ _ _ (fun j hj => ?_)
      rw [hzc]
      exact relL_getD (hzl F w) (j := j % m) (by rw [hzlen]; exact Nat.mod_lt _ hm)
    obtain ⟨vout, hfill, hrel⟩ := fill_rel h1 h2 hcells hf
    have hsize : (sizeOf e).run P w = .ok m w := by simp [sizeOf, typeInfo, hie, hsz]
    have hnot : ¬ (len * m > 2 ^ 24) := by omega
    refine ⟨.slice (some ⟨w.heap.size, 0, none⟩) len len, vout, e, ?_, relP_of_relL hrel, ?_⟩
    · have hb : (Instr.buildSlice U len (ps.map fun q => (q.1, a.eval q.2))).run P w = .ok (.slice (some ⟨w.heap.size, 0, none⟩) len len) (w.alloc (.cells vout e)) := by
        have hfill' : Instr.fill (fun i => some (i * m, m)) ((Array.range (len * m)).map (z'.cells[· % z'.cells.size]!)) (ps.map fun q => (q.1, a.eval q.2)).toList = some vout := by simpa using hfill
        by_cases h0 : len * m = 0
        · have hz0 : (Array.range (len * m)).map (z'.cells[· % z'.cells.size]!) = (Array.range (len * m)).map ((#[] : Array Value)[· % (#[] : Array Value).size]!) := by rw [h0]; simp
          rw [hz0] at hfill'
          simp only [Instr.buildSlice, Sem.run_bind, underlying, run_program, Result.andThen_ok, hu, Sem.run_pure, hsize, gt_iff_lt, Nat.not_lt_zero, if_false, h0, if_true] at hfill' ⊢
          rw [hfill']
          simp [newRow]
        · simp only [Instr.buildSlice, Sem.run_bind, underlying, run_program, Result.andThen_ok, hu, Sem.run_pure, hsize, hnot, if_false, h0, hzr w]
          rw [hfill']
          simp [newRow]
      simp only [execOp, Sem.run_bind, hb, Result.andThen_ok, Sem.run_pure]
    · simp only [rel]
      refine ⟨len, rfl, Nat.le_refl _, fun _ => rfl, vout, e, (0, 0), heap_alloc_new w _, ?_⟩
      have := relL_len hrel
      simp at this
      omega) k

theorem zcells_one (z : AV) (cnt : Nat) : zcells [z] 1 cnt = List.replicate cnt z := by
  unfold zcells
  apply List.ext_getElem?
  intro j
  simp only [List.getElem?_map, List.getElem?_replicate]
  by_cases h : j < cnt
  · simp [h, Nat.mod_one]
  · simp [h]

theorem Run.make (id : Nat) {x y : Operand} {ln cp m bytes : Nat} {kl kc : IntKind} {ql qc : Int} {zs out : List AV} (hi : ops[i]? = some ⟨some d, .makeSlice U x y, T, pos, aft, g⟩) (hw : want ops s.fr ⟨some d, .makeSlice U x y, T, pos, aft, g⟩ = some true) (hdn : Nat.blt d n = true)
    (hx : Ev s.fr x (.int kl ql)) (hy : Ev s.fr y (.int kc qc)) (hql : ql = (ln : Int)) (hqc : qc = (cp : Int)) (hT : Elem P U m bytes zs) (hlc : ln ≤ cp) (hby : bytes * cp ≤ 281474976710656) (hcp : cp ≤ 9223372036854775807)
    (ho : zcells zs m (cp * m) = out) (k : ∀ b, Run C ops l Q ⟨(d, .own id b m 0 ln cp false) :: s.fr, s.hp.set id (.cells b out)⟩) : Run C ops (i :: l) Q s :=
  Run.new id (x := fun b => .own id b m 0 ln cp false) hi rfl hw hdn (fun F a w hr => by
    obtain ⟨⟨e, it, z, hu, hie, hz, hsz, hbb, hzc, hm⟩, hzs⟩ := hT
    obtain ⟨z', hzr, hz', hzl⟩ := zeroOf_spec (hzs e hu)
    have hzz : z' = z := by simp [hie, hz] at hz'; exact hz'.symm
    subst hzz
    have h1 := Ev.rel hr hx
    have h2 := Ev.rel hr hy
    simp only [rel] at h1 h2
    subst hql hqc
    have hb' : (it.bytes : Int) * (cp : Int) ≤ 281474976710656 := by
      rw [hbb]
      have : ((bytes * cp : Nat) : Int) ≤ 281474976710656 := by omega
      rwa [Int.natCast_mul] at this
    have hrun := run_make (P := P) w U e it z' hu hie hz kl kc (ln : Int) (cp : Int) (by omega) (by omega) hb' (by omega)
    have hzlen : zs.length = m := by have := relL_len (hzl F w); simp at this; omega
    simp only [Int.toNat_natCast, hsz] at hrun
    refine ⟨.slice (some ⟨w.heap.size, 0, none⟩) ln cp, madeCells z'.cells (cp * m), e, by simp only [execOp, Sem.run_bind, h1, h2, hrun, Result.andThen_ok, Sem.run_pure], ?_, ?_⟩
    · rw [← ho]
      refine relP_of_relL ?_
      unfold madeCells zcells
      rw [Array.toList_map, Array.toList_range]
      refine relL_map_range _ _ _ (fun j hj => ?_)
      rw [hzc]
      exact relL_getD (hzl F w) (j := j % m) (by rw [hzlen]; exact Nat.mod_lt _ hm)
    · simp only [rel]
      exact ⟨cp, rfl, Nat.le_refl _, fun _ => rfl, _, e, (0, 0), heap_alloc_new w _, by simp [size_madeCells]⟩) k
end ops
end
end Go.Ab
