/- Addresses of elements, slices, len, make, append, over an abstract state. -/
import Derived.Test.YtlipjbfmmheicaaAb5
namespace Go.Ab
open Go.RowKit (Below)
section
variable {P : Program} {n : Nat} {C : Cx P n} {Q : Post} {s : St}

/-- A slice type whose elements fill m cells | an array type of k elements of m cells. -/
def slB (P : Program) (T : TypeId) (m : Nat) : Bool :=
  match P.underlying T with
  | some (.slice e) => szB P e m
  | _ => false
def arB (P : Program) (T : TypeId) (k m : Nat) : Bool :=
  match P.underlying T with
  | some (.array k' e) => k' == k && szB P e m
  | _ => false
theorem slB_spec {T : TypeId} {m : Nat} (h : slB P T m = true) : ∃ e, P.underlying T = some (.slice e) ∧ ∀ w, (sizeOf e).run P w = .ok m w := by
  unfold slB at h
  split at h
  · rename_i e he
    refine ⟨e, he, fun w => ?_⟩
    unfold szB at h
    cases hi : P.info? e with
    | none => simp [hi] at h
    | some i => simp [hi] at h; simp [sizeOf, typeInfo, hi, h]
  · cases h
theorem arB_spec {T : TypeId} {k m : Nat} (h : arB P T k m = true) : ∃ e, P.underlying T = some (.array k e) ∧ ∀ w, (sizeOf e).run P w = .ok m w := by
  unfold arB at h
  split at h
  · rename_i k' e he
    simp only [Bool.and_eq_true, beq_iff_eq] at h
    obtain ⟨rfl, h⟩ := h
    refine ⟨e, he, fun w => ?_⟩
    unfold szB at h
    cases hi : P.info? e with
    | none => simp [hi] at h
    | some i => simp [hi] at h; simp [sizeOf, typeInfo, hi, h]
  · cases h

section ops
variable {ops : Array Oper} {i : Nat} {l : List Nat} {d : Nat} {T U : TypeId} {pos : String} {aft : Array Edge} {g : Option (Nat × Bool)}

theorem run_indexAt_sl {m b o len cap j : Nat} {kd : IntKind} {q : Int} (w : World) (hT : slB P U m = true) (hq : q = (j : Int)) (hlt : j < len) :
    (Instr.indexAt U (.slice (some ⟨b, o, none⟩) len cap) (.int kd q)).run P w = .ok (.pointer (some ⟨b, o + j * m, none⟩)) w := by
  obtain ⟨e, hu, hs⟩ := slB_spec hT
  subst hq
  have h1 : (0 : Int) ≤ j ∧ (j : Int) < len := by omega
  simp only [Instr.indexAt, asIntOf, Sem.run_bind, Sem.run_pure, Result.andThen_ok, underlying, run_program, hu, h1, and_self, if_true, hs, Int.toNat_natCast, addr_add]

theorem run_indexAt_ar {k m b o j : Nat} {kd : IntKind} {q : Int} (w : World) (hT : arB P U k m = true) (hq : q = (j : Int)) (hlt : j < k) :
    (Instr.indexAt U (.pointer (some ⟨b, o, none⟩)) (.int kd q)).run P w = .ok (.pointer (some ⟨b, o + j * m, none⟩)) w := by
  obtain ⟨e, hu, hs⟩ := arB_spec hT
  subst hq
  have h1 : (0 : Int) ≤ j ∧ (j : Int) < k := by omega
  simp only [Instr.indexAt, asIntOf, Sem.run_bind, Sem.run_pure, Result.andThen_ok, underlying, run_program, hu, Instr.sureAddr, h1, and_self, if_true, hs, Int.toNat_natCast, addr_add]

theorem Run.idx {x y : Operand} {id b m off len cap j : Nat} {opn : Bool} {kd : IntKind} {q : Int} (hi : ops[i]? = some ⟨some d, .indexAddr U x y, T, pos, aft, g⟩) (hw : want ops s.fr ⟨some d, .indexAddr U x y, T, pos, aft, g⟩ = some true) (hdn : Nat.blt d n = true)
    (hx : Ev s.fr x (.own id b m off len cap opn)) (hy : Ev s.fr y (.int kd q)) (hT : slB P U m = true) (hq : q = (j : Int)) (hlt : j < len) (k : Run C ops l Q (s.put d (.adr id b (off + j * m)))) : Run C ops (i :: l) Q s :=
  Run.pure hi rfl hdn hw (fun F a w hr => by
    have h1 := Ev.rel hr hx
    have h2 := Ev.rel hr hy
    simp only [rel] at h1 h2
    obtain ⟨c, he, _, _, arr, e, fz, hh, _⟩ := h1
    refine ⟨.pointer (some ⟨b, off + j * m, none⟩), ?_, by simp only [rel]; exact ⟨trivial, arr, e, fz, hh⟩⟩
    simp only [execOp, Sem.run_bind, he, h2, run_indexAt_sl w hT hq hlt, Result.andThen_ok, Sem.run_pure]) k

theorem Run.idx_imm {x y : Operand} {cs : List AV} {m len j : Nat} {kd : IntKind} {q : Int} (hi : ops[i]? = some ⟨some d, .indexAddr U x y, T, pos, aft, g⟩) (hw : want ops s.fr ⟨some d, .indexAddr U x y, T, pos, aft, g⟩ = some true) (hdn : Nat.blt d n = true)
    (hx : Ev s.fr x (.imm cs len)) (hy : Ev s.fr y (.int kd q)) (hT : slB P U m = true) (hq : q = (j : Int)) (hlt : j < len) (k : Run C ops l Q (s.put d (.immAt cs (j * m)))) : Run C ops (i :: l) Q s :=
  Run.pure hi rfl hdn hw (fun F a w hr => by
    have h1 := Ev.rel hr hx
    have h2 := Ev.rel hr hy
    simp only [rel] at h1 h2
    obtain ⟨ad, c, he, _, hp⟩ := h1
    obtain ⟨b, o, arr, e, fz, rfl, hF, hh, hrel⟩ := hp (by omega)
    refine ⟨.pointer (some ⟨b, o + j * m, none⟩), ?_, by simp only [rel]; exact ⟨b, o, arr, e, fz, rfl, hF, hh, hrel⟩⟩
    simp only [execOp, Sem.run_bind, he, h2, run_indexAt_sl w hT hq hlt, Result.andThen_ok, Sem.run_pure]) k

theorem Run.idx_arr {x y : Operand} {id b m off len j : Nat} {kd : IntKind} {q : Int} (hi : ops[i]? = some ⟨some d, .indexAddr U x y, T, pos, aft, g⟩) (hw : want ops s.fr ⟨some d, .indexAddr U x y, T, pos, aft, g⟩ = some true) (hdn : Nat.blt d n = true)
    (hx : Ev s.fr x (.adr id b off)) (hy : Ev s.fr y (.int kd q)) (hT : arB P U len m = true) (hq : q = (j : Int)) (hlt : j < len) (k : Run C ops l Q (s.put d (.adr id b (off + j * m)))) : Run C ops (i :: l) Q s :=
  Run.pure hi rfl hdn hw (fun F a w hr => by
    have h1 := Ev.rel hr hx
    have h2 := Ev.rel hr hy
    simp only [rel] at h1 h2
    obtain ⟨h1, hcell⟩ := h1
    refine ⟨.pointer (some ⟨b, off + j * m, none⟩), ?_, by simp only [rel]; exact ⟨trivial, hcell⟩⟩
    simp only [execOp, Sem.run_bind, h1, h2, run_indexAt_ar w hT hq hlt, Result.andThen_ok, Sem.run_pure]) k

theorem Run.idx_immarr {x y : Operand} {cs : List AV} {m off len j : Nat} {kd : IntKind} {q : Int} (hi : ops[i]? = some ⟨some d, .indexAddr U x y, T, pos, aft, g⟩) (hw : want ops s.fr ⟨some d, .indexAddr U x y, T, pos, aft, g⟩ = some true) (hdn : Nat.blt d n = true)
    (hx : Ev s.fr x (.immAt cs off)) (hy : Ev s.fr y (.int kd q)) (hT : arB P U len m = true) (hq : q = (j : Int)) (hlt : j < len) (k : Run C ops l Q (s.put d (.immAt cs (off + j * m)))) : Run C ops (i :: l) Q s :=
  Run.pure hi rfl hdn hw (fun F a w hr => by
    have h1 := Ev.rel hr hx
    have h2 := Ev.rel hr hy
    simp only [rel] at h1 h2
    obtain ⟨b, o, arr, e, fz, he, hF, hh, hrel⟩ := h1
    refine ⟨.pointer (some ⟨b, o + off + j * m, none⟩), ?_, by simp only [rel]; exact ⟨b, o, arr, e, fz, by rw [Nat.add_assoc], hF, hh, hrel⟩⟩
    simp only [execOp, Sem.run_bind, he, h2, run_indexAt_ar w hT hq hlt, Result.andThen_ok, Sem.run_pure]) k

/-! ### len -/
def lenA : AV → Option Nat
  | .own _ _ _ _ len _ _ => some len
  | .imm _ len => some len
  | .nilsl | .empty _ => some 0
  | _ => none
theorem lenA_spec {F : Nat → Prop} {w : World} {x : AV} {v : Value} {k : Nat} (h : lenA x = some k) (hr : rel F w x v) : ∃ ad c, v = .slice ad k c := by
  cases x <;> simp only [lenA, reduceCtorEq, Option.some.injEq] at h <;> simp only [rel] at hr
  · subst h; obtain ⟨a, c, rfl, _⟩ := hr; exact ⟨a, c, rfl⟩
  · subst h; obtain ⟨c, rfl, _⟩ := hr; exact ⟨_, c, rfl⟩
  · subst h; exact ⟨_, _, hr⟩
  · subst h; obtain ⟨a, c, rfl, _⟩ := hr; exact ⟨a, c, rfl⟩
def isSl (P : Program) (T : TypeId) : Bool := match P.underlying T with | some (.slice _) => true | _ => false

theorem Run.len {x : Operand} {p : AV} {k : Nat} (hi : ops[i]? = some ⟨some d, .call ⟨.builtin .len, #[x], #[U]⟩, T, pos, aft, g⟩) (hw : want ops s.fr ⟨some d, .call ⟨.builtin .len, #[x], #[U]⟩, T, pos, aft, g⟩ = some true) (hdn : Nat.blt d n = true)
    (hx : Ev s.fr x p) (hT : isSl P U = true) (hk : lenA p = some k) (kk : Run C ops l Q (s.put d (.int .i64 (k : Int)))) : Run C ops (i :: l) Q s :=
  Run.pure hi rfl hdn hw (fun F a w hr => by
    obtain ⟨ad, c, he⟩ := lenA_spec hk (Ev.rel hr hx)
    refine ⟨.int .i64 k, ?_, by simp [rel]⟩
    unfold isSl at hT
    split at hT
    · rename_i e hu
      simp [execOp, resolve, invoke, builtin, Builtin.len_, he, run_underlying hu, goInt]
    · cases hT) kk

/-! ### slices of slices and of arrays -/
/-- A bound of a slice expression. -/
def Bnd (fr : List (Nat × AV)) (o : Option Operand) (dflt k : Nat) : Prop :=
  match o with
  | none => k = dflt
  | some x => ∃ kd q, Ev fr x (.int kd q) ∧ q = (k : Int)
theorem Bnd.no {fr : List (Nat × AV)} {k : Nat} : Bnd fr none k k := rfl
theorem Bnd.at {fr : List (Nat × AV)} {x : Operand} {dflt k : Nat} {kd : IntKind} {q : Int} (h : Ev fr x (.int kd q)) (hq : q = (k : Int)) : Bnd fr (some x) dflt k := ⟨kd, q, h, hq⟩

theorem run_bounds {F : Nat → Prop} {a : Act} {w : World} (hr : R C F s a w) (isSlice : Bool) {lo hi : Option Operand} {len cap bl bh : Nat} (hlo : Bnd s.fr lo 0 bl) (hhi : Bnd s.fr hi len bh) (h1 : bl ≤ bh) (h2 : bh ≤ cap) :
    (Instr.sliceBounds isSlice len cap (lo.map a.eval) (hi.map a.eval) none).run P w = .ok (bl, bh, cap) w := by
  have sb : ∀ (kd : IntKind) (k y : Nat) (code : BoundsCode), k ≤ y → (Instr.sliceBound (.int kd (k : Int)) y code).run P w = .ok k w := fun kd k y code hk => by
    have := run_sliceBound (P := P) w kd (k : Int) y code (by omega) (by omega)
    simpa using this
  have lo' : (lo = none ∧ bl = 0) ∨ ∃ x kd, lo = some x ∧ a.eval x = .int kd (bl : Int) := by
    cases lo with
    | none => exact .inl ⟨rfl, hlo⟩
    | some x =>
      obtain ⟨kd, q, hx, rfl⟩ := hlo
      have := Ev.rel hr hx
      simp only [rel] at this
      exact .inr ⟨x, kd, rfl, this⟩
  have hi' : (hi = none ∧ bh = len) ∨ ∃ x kd, hi = some x ∧ a.eval x = .int kd (bh : Int) := by
    cases hi with
    | none => exact .inl ⟨rfl, hhi⟩
    | some x =>
      obtain ⟨kd, q, hx, rfl⟩ := hhi
      have := Ev.rel hr hx
      simp only [rel] at this
      exact .inr ⟨x, kd, rfl, this⟩
  rcases lo' with ⟨rfl, rfl⟩ | ⟨x, kd, rfl, hx⟩ <;> rcases hi' with ⟨rfl, rfl⟩ | ⟨y, kd', rfl, hy⟩ <;>
    simp [Instr.sliceBounds, *]

theorem run_sliceAt_gen {F : Nat → Prop} {a : Act} {w : World} (hr : R C F s a w) {m : Nat} {lo hi : Option Operand} {ad : Option Addr} {len cap bl bh : Nat} (hT : slB P U m = true) (hlo : Bnd s.fr lo 0 bl) (hhi : Bnd s.fr hi len bh) (h1 : bl ≤ bh) (h2 : bh ≤ cap) :
    (Instr.sliceAt U (.slice ad len cap) (lo.map a.eval) (hi.map a.eval) none).run P w = .ok (.slice (if cap = bl then ad else ad.map (·.add (bl * m))) (bh - bl) (cap - bl)) w := by
  obtain ⟨e, hu, hs⟩ := slB_spec hT
  simp only [Instr.sliceAt, Sem.run_bind, underlying, run_program, Result.andThen_ok, hu, Sem.run_pure, Instr.slice, run_bounds hr true hlo hhi h1 h2, hs]

theorem run_sliceAt_arr {F : Nat → Prop} {a : Act} {w : World} (hr : R C F s a w) {m : Nat} {lo hi : Option Operand} {ad : Addr} {len bl bh : Nat} (hT : arB P U len m = true) (hlo : Bnd s.fr lo 0 bl) (hhi : Bnd s.fr hi len bh) (h1 : bl ≤ bh) (h2 : bh ≤ len) :
    (Instr.sliceAt U (.pointer (some ad)) (lo.map a.eval) (hi.map a.eval) none).run P w = .ok (.slice (some (if len = bl then ad else ad.add (bl * m))) (bh - bl) (len - bl)) w := by
  obtain ⟨e, hu, hs⟩ := arB_spec hT
  simp only [Instr.sliceAt, Sem.run_bind, underlying, run_program, Result.andThen_ok, hu, Sem.run_pure, Instr.sureAddr, run_bounds hr false hlo hhi h1 h2, hs]

/-- x[lo:hi] of a slice of the call's own, lo below its capacity, or 0. -/
theorem Run.slice {x : Operand} {lo hi : Option Operand} {id b m off len cap bl bh : Nat} {opn : Bool} (hi' : ops[i]? = some ⟨some d, .slice U x lo hi none, T, pos, aft, g⟩) (hw : want ops s.fr ⟨some d, .slice U x lo hi none, T, pos, aft, g⟩ = some true) (hdn : Nat.blt d n = true)
    (hx : Ev s.fr x (.own id b m off len cap opn)) (hT : slB P U m = true) (hlo : Bnd s.fr lo 0 bl) (hhi : Bnd s.fr hi len bh) (h1 : bl ≤ bh) (h2 : bh ≤ cap) (h3 : bl < cap ∨ bl = 0)
    (k : Run C ops l Q (s.put d (.own id b m (off + bl * m) (bh - bl) (cap - bl) opn))) : Run C ops (i :: l) Q s :=
  Run.pure hi' rfl hdn hw (fun F a w hr => by
    have h4 := Ev.rel hr hx
    simp only [rel] at h4
    obtain ⟨c, he, hc, hop, arr, e, fz, hh, hsz⟩ := h4
    have hsl := run_sliceAt_gen hr (ad := some ⟨b, off, none⟩) (cap := c) hT hlo hhi h1 (by omega)
    refine ⟨.slice (some ⟨b, off + bl * m, none⟩) (bh - bl) (c - bl), ?_, ?_⟩
    · simp only [execOp, Sem.run_bind, he, Option.map_none, hsl, Result.andThen_ok, Sem.run_pure]
      have : (if c = bl then some (⟨b, off, none⟩ : Addr) else (some (⟨b, off, none⟩ : Addr)).map (·.add (bl * m))) = some ⟨b, off + bl * m, none⟩ := by
        split
        · rename_i hcb
          have : bl = 0 := by omega
          subst this
          simp
        · simp [addr_add]
      rw [this]
    · simp only [rel]
      refine ⟨c - bl, rfl, by omega, fun ho => by rw [hop ho], arr, e, fz, hh, ?_⟩
      have : bl * m + (c - bl) * m = c * m := by rw [← Nat.add_mul]; congr 1; omega
      omega) k

/-- x[lo:hi] of a snapshot. -/
theorem Run.slice_imm {x : Operand} {lo hi : Option Operand} {cs : List AV} {m len bl bh : Nat} (hi' : ops[i]? = some ⟨some d, .slice U x lo hi none, T, pos, aft, g⟩) (hw : want ops s.fr ⟨some d, .slice U x lo hi none, T, pos, aft, g⟩ = some true) (hdn : Nat.blt d n = true)
    (hx : Ev s.fr x (.imm cs len)) (hT : slB P U m = true) (hlo : Bnd s.fr lo 0 bl) (hhi : Bnd s.fr hi len bh) (h1 : bl ≤ bh) (h2 : bh ≤ len)
    (k : Run C ops l Q (s.put d (.imm ((cs.drop (bl * m)).take ((bh - bl) * m)) (bh - bl)))) : Run C ops (i :: l) Q s :=
  Run.pure hi' rfl hdn hw (fun F a w hr => by
    have h4 := Ev.rel hr hx
    simp only [rel] at h4
    obtain ⟨ad, c, he, hc, hp⟩ := h4
    have hsl := run_sliceAt_gen hr (ad := ad) (cap := c) hT hlo hhi h1 (by omega)
    refine ⟨_, by simp only [execOp, Sem.run_bind, he, Option.map_none, hsl, Result.andThen_ok, Sem.run_pure]; rfl, ?_⟩
    simp only [rel]
    refine ⟨_, _, rfl, by omega, fun hpos => ?_⟩
    obtain ⟨b, o, arr, e, fz, rfl, hF, hh, hrel⟩ := hp (by omega)
    rw [if_neg (by omega)]
    refine ⟨b, o + bl * m, arr, e, fz, by simp [addr_add], hF, hh, ?_⟩
    have := relP_drop (bl * m) hrel
    rw [List.drop_drop] at this
    have tk : ∀ {xs : List AV} {vs : List Value} (q : Nat), relP F w xs vs → relP F w (xs.take q) vs := by
      intro xs
      induction xs with
      | nil => intro vs q h; simp [relP]
      | cons x xs ih =>
        intro vs q h
        cases q with
        | zero => simp [relP]
        | succ q => simp only [relP] at h; obtain ⟨v, r, rfl, h1, h2⟩ := h; simp only [List.take_succ_cons, relP]; exact ⟨v, r, rfl, h1, ih q h2⟩
    exact tk _ this) k

/-- a[lo:hi] of an array of the call's own. -/
theorem Run.slice_arr {x : Operand} {lo hi : Option Operand} {id b m off len bl bh : Nat} {cs : List AV} (hi' : ops[i]? = some ⟨some d, .slice U x lo hi none, T, pos, aft, g⟩) (hw : want ops s.fr ⟨some d, .slice U x lo hi none, T, pos, aft, g⟩ = some true) (hdn : Nat.blt d n = true)
    (hx : Ev s.fr x (.adr id b off)) (hh : s.hp[id]? = some [(b, cs)]) (hfit : off + len * m ≤ cs.length) (hT : arB P U len m = true) (hlo : Bnd s.fr lo 0 bl) (hhi : Bnd s.fr hi len bh) (h1 : bl ≤ bh) (h2 : bh ≤ len) (h3 : bl < len ∨ bl = 0)
    (k : Run C ops l Q (s.put d (.own id b m (off + bl * m) (bh - bl) (len - bl) false))) : Run C ops (i :: l) Q s :=
  Run.pure hi' rfl hdn hw (fun F a w hr => by
    have h4 := Ev.rel hr hx
    simp only [rel] at h4
    obtain ⟨h4, hcell⟩ := h4
    obtain ⟨arr, e, hheap, hrel⟩ := (hr.sat.live (At.one hh)).2.2.cells hcell
    have hsl := run_sliceAt_arr hr (ad := ⟨b, off, none⟩) hT hlo hhi h1 h2
    refine ⟨.slice (some ⟨b, off + bl * m, none⟩) (bh - bl) (len - bl), ?_, ?_⟩
    · simp only [execOp, Sem.run_bind, h4, Option.map_none, hsl, Result.andThen_ok, Sem.run_pure]
      have : (if len = bl then (⟨b, off, none⟩ : Addr) else (⟨b, off, none⟩ : Addr).add (bl * m)) = ⟨b, off + bl * m, none⟩ := by
        split
        · have : bl = 0 := by omega
          subst this
          simp
        · simp [addr_add]
      rw [this]
    · simp only [rel]
      refine ⟨len - bl, rfl, Nat.le_refl _, fun _ => rfl, arr, e, _, hheap, ?_⟩
      have h5 := relP_len hrel
      have : bl * m + (len - bl) * m = len * m := by rw [← Nat.add_mul]; congr 1; omega
      simp at h5
      omega) k

/-! ### a slice literal, make -/
def zcells (zs : List AV) (m cnt : Nat) : List AV := (List.range cnt).map fun j => zs.getD (j % m) .junk

theorem relL_map_range {F : Nat → Prop} {w : World} (f : Nat → AV) (gv : Nat → Value) : ∀ (l : List Nat), (∀ j ∈ l, rel F w (f j) (gv j)) → relL F w (l.map f) (l.map gv)
  | [], _ => by simp [relL]
  | j :: l, h => by simp only [List.map_cons, relL]; exact ⟨_, _, rfl, h j (by simp), relL_map_range f gv l (fun k hk => h k (by simp [hk]))⟩

theorem relL_getD {F : Nat → Prop} {w : World} {zs : List AV} {arr : Array Value} (h : relL F w zs arr.toList) {j : Nat} (hj : j < zs.length) : rel F w (zs.getD j .junk) (arr[j]!) := by
  have h1 : zs[j]? = some (zs.getD j .junk) := by simp [List.getD, hj]
  obtain ⟨u, hu, hru⟩ := relL_get h h1
  have hlt : j < arr.size := by have := relL_len h; simp at this; omega
  rw [getElem!_pos arr j hlt]
  have : arr[j]? = some u := by simpa using hu
  rw [Array.getElem?_eq_getElem hlt] at this
  cases this
  exact hru

structure Elem (P : Program) (T : TypeId) (m bytes : Nat) (zs : List AV) : Prop where
  ok : ∃ e i z, P.underlying T = some (.slice e) ∧ P.info? e = some i ∧ i.zero = some z ∧ i.size = m ∧ i.bytes = bytes ∧ z.cells.size = m ∧ 0 < m
  zero : ∀ e, P.underlying T = some (.slice e) → zeroOf P e = some zs
def elemB (P : Program) (T : TypeId) (m bytes : Nat) : Bool :=
  match P.underlying T with
  | some (.slice e) => match P.info? e with
    | some i => match i.zero with
      | some z => i.size == m && i.bytes == bytes && z.cells.size == m && Nat.blt 0 m
      | none => false
    | none => false
  | _ => false
def elemZ (P : Program) (T : TypeId) : Option (List AV) :=
  match P.underlying T with
  | some (.slice e) => zeroOf P e
  | _ => none
theorem Elem.mk' {T : TypeId} {m bytes : Nat} {zs : List AV} (h : elemB P T m bytes = true) (hz : elemZ P T = some zs) : Elem P T m bytes zs := by
  unfold elemB at h
  unfold elemZ at hz
  split at h
  · rename_i e he
    split at h
    · rename_i i hi
      split at h
      · rename_i z hzz
        simp only [Bool.and_eq_true, beq_iff_eq] at h
        obtain ⟨⟨⟨h1, h2⟩, h3⟩, h4⟩ := h
        refine ⟨⟨e, i, z, he, hi, hzz, h1, h2, h3, Nat.blt_eq.mp h4⟩, fun e' he' => ?_⟩
        rw [he] at he'
        cases he'
        simpa [he] using hz
      · cases h
    · cases h
  · cases h

theorem Run.buildSlice (id : Nat) {len m bytes : Nat} {ps : Array (Nat × Operand)} {xs : List (Nat × AV)} {zs out : List AV} (hi : ops[i]? = some ⟨some d, .buildSlice U len ps, T, pos, aft, g⟩) (hw : want ops s.fr ⟨some d, .buildSlice U len ps, T, pos, aft, g⟩ = some true) (hdn : Nat.blt d n = true)
    (hT : Elem P U m bytes zs) (hsm : len * m ≤ 16777216) (hp : Parts s.fr ps.toList xs) (hf : fillA (fun j => some (j * m, m)) (zcells zs m (len * m)) xs = some out)
    (hlo : out.length = len * m) (k : ∀ b, Run C ops l Q ⟨(d, .own id b m 0 len len false) :: s.fr, s.hp.set id (.cells b out)⟩) : Run C ops (i :: l) Q s :=
  Run.new id (x := fun b => .own id b m 0 len len false) hi rfl hw hdn (fun F a w hr => by
    obtain ⟨⟨e, it, z, hu, hie, hz, hsz, hby, hzc, hm⟩, hzs⟩ := hT
    obtain ⟨z', hzr, hz', hzl⟩ := zeroOf_spec (hzs e hu)
    have hzz : z' = z := by simp [hie, hz] at hz'; exact hz'.symm
    subst hzz
    obtain ⟨h1, h2⟩ := partsOf_spec hr hp
    have hzlen : zs.length = m := by have := relL_len (hzl F w); simp at this; omega
    have hcells : relL F w (zcells zs m (len * m)) ((Array.range (len * m)).map (z'.cells[· % z'.cells.size]!)).toList := by
      rw [Array.toList_map, Array.toList_range]
      unfold zcells
      refine relL_map_range _ _ _ (fun j hj => ?_)
      rw [hzc]
      exact relL_getD (hzl F w) (j := j % m) (by rw [hzlen]; exact Nat.mod_lt _ hm)
    obtain ⟨vout, hfill, hrel⟩ := fill_rel h1 h2 hcells hf
    have hsize : (sizeOf e).run P w = .ok m w := by simp [sizeOf, typeInfo, hie, hsz]
    have hnot : ¬ (len * m > 2 ^ 24) := by omega
    refine ⟨.slice (some ⟨w.heap.size, 0, none⟩) len len, vout, e, ?_, relP_of_relL hrel, ?_⟩
    · have hb : (Instr.buildSlice U len (ps.map fun q => (q.1, a.eval q.2))).run P w = .ok (.slice (some ⟨w.heap.size, 0, none⟩) len len) (w.alloc (.cells vout e)) := by
        have hfill' : Instr.fill (fun i => some (i * m, m)) ((Array.range (len * m)).map (z'.cells[· % z'.cells.size]!)) (ps.map fun q => (q.1, a.eval q.2)).toList = some vout := by simpa using hfill
        by_cases h0 : len * m = 0
        · have hz0 : (Array.range (len * m)).map (z'.cells[· % z'.cells.size]!) = (Array.range (len * m)).map ((#[] : Array Value)[· % (#[] : Array Value).size]!) := by rw [h0]; simp
          rw [hz0] at hfill'
          simp only [Instr.buildSlice, Sem.run_bind, underlying, run_program, Result.andThen_ok, hu, Sem.run_pure, hsize, gt_iff_lt, Nat.not_lt_zero, if_false, h0, if_true] at hfill' ⊢
          rw [hfill']
          simp [newRow]
        · simp only [Instr.buildSlice, Sem.run_bind, underlying, run_program, Result.andThen_ok, hu, Sem.run_pure, hsize, hnot, if_false, h0, hzr w]
          rw [hfill']
          simp [newRow]
      simp only [execOp, Sem.run_bind, hb, Result.andThen_ok, Sem.run_pure]
    · simp only [rel]
      refine ⟨len, rfl, Nat.le_refl _, fun _ => rfl, vout, e, (0, 0), heap_alloc_new w _, ?_⟩
      have := relL_len hrel
      simp at this
      omega) k

theorem zcells_one (z : AV) (cnt : Nat) : zcells [z] 1 cnt = List.replicate cnt z := by
  unfold zcells
  apply List.ext_getElem?
  intro j
  simp only [List.getElem?_map, List.getElem?_replicate]
  by_cases h : j < cnt
  · simp [h, Nat.mod_one]
  · simp [h]

theorem Run.make (id : Nat) {x y : Operand} {ln cp m bytes : Nat} {kl kc : IntKind} {ql qc : Int} {zs out : List AV} (hi : ops[i]? = some ⟨some d, .makeSlice U x y, T, pos, aft, g⟩) (hw : want ops s.fr ⟨some d, .makeSlice U x y, T, pos, aft, g⟩ = some true) (hdn : Nat.blt d n = true)
    (hx : Ev s.fr x (.int kl ql)) (hy : Ev s.fr y (.int kc qc)) (hql : ql = (ln : Int)) (hqc : qc = (cp : Int)) (hT : Elem P U m bytes zs) (hlc : ln ≤ cp) (hby : bytes * cp ≤ 281474976710656) (hcp : cp ≤ 9223372036854775807)
    (ho : zcells zs m (cp * m) = out) (k : ∀ b, Run C ops l Q ⟨(d, .own id b m 0 ln cp false) :: s.fr, s.hp.set id (.cells b out)⟩) : Run C ops (i :: l) Q s :=
  Run.new id (x := fun b => .own id b m 0 ln cp false) hi rfl hw hdn (fun F a w hr => by
    obtain ⟨⟨e, it, z, hu, hie, hz, hsz, hbb, hzc, hm⟩, hzs⟩ := hT
    obtain ⟨z', hzr, hz', hzl⟩ := zeroOf_spec (hzs e hu)
    have hzz : z' = z := by simp [hie, hz] at hz'; exact hz'.symm
    subst hzz
    have h1 := Ev.rel hr hx
    have h2 := Ev.rel hr hy
    simp only [rel] at h1 h2
    subst hql hqc
    have hb' : (it.bytes : Int) * (cp : Int) ≤ 281474976710656 := by
      rw [hbb]
      have : ((bytes * cp : Nat) : Int) ≤ 281474976710656 := by omega
      rwa [Int.natCast_mul] at this
    have hrun := run_make (P := P) w U e it z' hu hie hz kl kc (ln : Int) (cp : Int) (by omega) (by omega) hb' (by omega)
    have hzlen : zs.length = m := by have := relL_len (hzl F w); simp at this; omega
    simp only [Int.toNat_natCast, hsz] at hrun
    refine ⟨.slice (some ⟨w.heap.size, 0, none⟩) ln cp, madeCells z'.cells (cp * m), e, by simp only [execOp, Sem.run_bind, h1, h2, hrun, Result.andThen_ok, Sem.run_pure], ?_, ?_⟩
    · rw [← ho]
      refine relP_of_relL ?_
      unfold madeCells zcells
      rw [Array.toList_map, Array.toList_range]
      refine relL_map_range _ _ _ (fun j hj => ?_)
      rw [hzc]
      exact relL_getD (hzl F w) (j := j % m) (by rw [hzlen]; exact Nat.mod_lt _ hm)
    · simp only [rel]
      exact ⟨cp, rfl, Nat.le_refl _, fun _ => rfl, _, e, (0, 0), heap_alloc_new w _, by simp [size_madeCells]⟩) k
end ops
end
end Go.Ab
