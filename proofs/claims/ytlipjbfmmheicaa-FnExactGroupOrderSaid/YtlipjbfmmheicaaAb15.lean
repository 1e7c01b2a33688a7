/- Closures; captured variables that are only read; append in place; clear; comparison with nil. -/
import Derived.Test.YtlipjbfmmheicaaAb14
namespace Go.Ab
open Go.RowKit (Below)
section
variable {P : Program} {n : Nat} {C : Cx P n} {Q : Post} {s : St}

/-- A block that is not written any more. -/
theorem R.freezeBlk {F : Nat → Prop} {a : Act} {w : World} (hr : R C F s a w) {id b : Nat} {cs : List AV} (hh : s.hp[id]? = some [(b, cs)]) (hcell : ∃ arr e fz, w.heap[b]? = some (.cells arr e fz)) :
    ∃ F', R C F' ⟨s.fr, s.hp.set id []⟩ a w ∧ F' b ∧ ∃ arr e, w.heap[b]? = some (.cells arr e (0, 0)) ∧ relP F' w cs arr.toList := by
  obtain ⟨hok, hnF, hhl⟩ := hr.sat.live (At.one hh)
  obtain ⟨arr, e, hheap, hrel⟩ := hhl.cells hcell
  have back : ∀ {i p k : Nat} {ds : List AV}, At (s.hp.set id []) i p k ds → i ≠ id ∧ At s.hp i p k ds := by
    intro i p k ds h
    rcases h.set with ⟨rfl, h'⟩ | ⟨hi, h'⟩
    · simp at h'
    · exact ⟨hi, h'⟩
  have hF : ∀ k, F k → F k ∨ k = b := fun k h => .inl h
  have hk : Later F w w := ⟨fun _ _ => rfl, Sized.refl w⟩
  refine ⟨fun k => F k ∨ k = b, ⟨hr.size, hr.defers, fun u x hu => rel_mono hF hk _ _ (hr.fr u x hu), ⟨fun k h => ?_, fun hx => ?_, fun hx hy => hr.sat.inj (back hx).2 (back hy).2⟩, hr.os, hr.tape, hr.output, hr.hsize, hr.block, fun k h => .inl (hr.F0 k h), fun k h => ?_, hr.elder⟩, .inr rfl, arr, e, hheap, relP_mono hF hk _ _ hrel⟩
  · rcases h with h | rfl
    · exact hr.sat.old k h
    · exact lt_of_heap hheap
  · obtain ⟨hi, hx⟩ := back hx
    obtain ⟨h1, h2, h3⟩ := hr.sat.live hx
    refine ⟨h1, ?_, h3.mono hF hk rfl⟩
    rintro (h | rfl)
    · exact h2 h
    · exact hi (hr.sat.inj hx (At.one hh)).1
  · rcases h with h | rfl
    · exact hr.F1 k h
    · rcases hok with h | h
      · exact .inr (.inr h)
      · exact .inr (.inl h)
theorem R.freezeAt {F : Nat → Prop} {a : Act} {w : World} (hr : R C F s a w) {t id b off : Nat} {cs : List AV} (ht : get s.fr t = some (.adr id b off)) (hh : s.hp[id]? = some [(b, cs)]) : ∃ F', R C F' ⟨(t, .immAt cs off) :: s.fr, s.hp.set id []⟩ a w := by
  have hadr := hr.fr t _ ht
  simp only [rel] at hadr
  obtain ⟨F', hr', hF, arr, e, hheap, hrel⟩ := hr.freezeBlk hh hadr.2
  refine ⟨F', hr'.weak (t := t) ht fun v hv => ?_⟩
  simp only [rel] at hv ⊢
  exact ⟨b, 0, arr, e, _, by simpa using hv.1, hF, hheap, by simpa using hrel⟩
theorem WP.freezeAt (t : Nat) {c : Code} {id b off : Nat} {cs : List AV} (ht : get s.fr t = some (.adr id b off)) (hh : s.hp[id]? = some [(b, cs)]) (k : WP C c Q ⟨(t, .immAt cs off) :: s.fr, s.hp.set id []⟩) : WP C c Q s := fun _ a w hr =>
  let ⟨F', hr'⟩ := hr.freezeAt ht hh
  k F' a w hr'
theorem Run.freezeAt (t : Nat) {ops : Array Oper} {l : List Nat} {id b off : Nat} {cs : List AV} (ht : get s.fr t = some (.adr id b off)) (hh : s.hp[id]? = some [(b, cs)]) (k : Run C ops l Q ⟨(t, .immAt cs off) :: s.fr, s.hp.set id []⟩) : Run C ops l Q s := fun _ a w hr =>
  let ⟨F', hr'⟩ := hr.freezeAt ht hh
  k F' a w hr'

section ops
variable {ops : Array Oper} {i : Nat} {l : List Nat} {d : Nat} {T U : TypeId} {pos : String} {aft : Array Edge} {g : Option (Nat × Bool)}

theorem Run.closure {f : FuncId} {cp : Array Operand} {xs : List AV} (hi : ops[i]? = some ⟨some d, .makeFunc (.func f) #[] cp, T, pos, aft, g⟩) (hw : want ops s.fr ⟨some d, .makeFunc (.func f) #[] cp, T, pos, aft, g⟩ = some true) (hdn : Nat.blt d n = true)
    (hx : Evs s.fr cp.toList xs) (k : Run C ops l Q (s.put d (.fn f xs))) : Run C ops (i :: l) Q s :=
  Run.pure hi rfl hdn hw (fun F a w hr => by
    refine ⟨.func (.func f) #[] (cp.map a.eval), by simp [execOp, Instr.makeFunc], ?_⟩
    simp only [rel]
    exact ⟨_, rfl, by simpa using evs_rel hr hx⟩) k

/-- x[lo:hi:max], whose value is not looked at. -/
theorem Run.slice3 {x : Operand} {lo hi mx : Operand} {id b m off len cap bl bh bm : Nat} {opn : Bool} {k1 k2 k3 : IntKind} {q1 q2 q3 : Int} (hi' : ops[i]? = some ⟨some d, .slice U x (some lo) (some hi) (some mx), T, pos, aft, g⟩) (hw : want ops s.fr ⟨some d, .slice U x (some lo) (some hi) (some mx), T, pos, aft, g⟩ = some true) (hdn : Nat.blt d n = true)
    (hx : Ev s.fr x (.own id b m off len cap opn)) (hT : slB P U m = true) (h1 : Ev s.fr lo (.int k1 q1)) (h2 : Ev s.fr hi (.int k2 q2)) (h3 : Ev s.fr mx (.int k3 q3)) (e1 : q1 = (bl : Int)) (e2 : q2 = (bh : Int)) (e3 : q3 = (bm : Int)) (r1 : bl ≤ bh) (r2 : bh ≤ bm) (r3 : bm ≤ cap)
    (k : Run C ops l Q (s.put d .junk)) : Run C ops (i :: l) Q s :=
  Run.pure hi' rfl hdn hw (fun F a w hr => by
    have h4 := Ev.rel hr hx
    have v1 := Ev.rel hr h1
    have v2 := Ev.rel hr h2
    have v3 := Ev.rel hr h3
    simp only [rel] at h4 v1 v2 v3
    obtain ⟨c, he, hc, _⟩ := h4
    obtain ⟨e, hu, hs⟩ := slB_spec hT
    have sb : ∀ (kd : IntKind) (k y : Nat) (code : BoundsCode), k ≤ y → (Instr.sliceBound (.int kd (k : Int)) y code).run P w = .ok k w := fun kd k y code hk => by
      have := run_sliceBound (P := P) w kd (k : Int) y code (by omega) (by omega)
      simpa using this
    have hb : (Instr.sliceBounds true len c (some (a.eval lo)) (some (a.eval hi)) (some (a.eval mx))).run P w = .ok (bl, bh, bm) w := by
      subst e1 e2 e3
      simp only [Instr.sliceBounds, v1, v2, v3, if_true, Option.isSome_some, Sem.run_bind, sb _ bm c _ (by omega), sb _ bh bm _ r2, sb _ bl bh _ r1, Result.andThen_ok, Sem.run_pure]
    refine ⟨.slice (if bm = bl then some ⟨b, off, none⟩ else (some (⟨b, off, none⟩ : Addr)).map (·.add (bl * m))) (bh - bl) (bm - bl), ?_, by simp only [rel]⟩
    simp only [execOp, Sem.run_bind, he, Option.map_some, Instr.sliceAt, underlying, run_program, Result.andThen_ok, hu, Sem.run_pure, Instr.slice, hb, hs]) k

/-- append into the room of a slice of the call's own. -/
theorem Run.appendIn {x y : Operand} {id b m len cap cnt bytes : Nat} {opn : Bool} {cs ys zs : List AV} {p : AV} (hi : ops[i]? = some ⟨some d, .call ⟨.builtin .append, #[x, y], #[U, U]⟩, T, pos, aft, g⟩) (hw : want ops s.fr ⟨some d, .call ⟨.builtin .append, #[x, y], #[U, U]⟩, T, pos, aft, g⟩ = some true) (hdn : Nat.blt d n = true)
    (hx : Ev s.fr x (.own id b m 0 len cap opn)) (hh : s.hp[id]? = some [(b, cs)]) (hT : Elem P U m bytes zs) (hy : Ev s.fr y p) (hs : Src s.hp m p ys cnt) (hsc : ys.all AV.sc = true) (hlen : len * m ≤ cs.length) (hroom : len + cnt ≤ cap)
    (k : Run C ops l Q ⟨(d, .own id b m 0 (len + cnt) cap opn) :: s.fr, s.hp.set id (.cells b (splice cs (len * m) ys))⟩) : Run C ops (i :: l) Q s :=
  Run.step hi hw fun F a w hr => by
    obtain ⟨⟨e, it, z, hu, hie, hz, hsz, hbb, hzc, hm⟩, _⟩ := hT
    have h1 := Ev.rel hr hx
    simp only [rel] at h1
    obtain ⟨c, he, hcap, hop, arr, e0, fz0, hheap0, hsize⟩ := h1
    obtain ⟨_, hnF, hhl⟩ := hr.sat.live (At.one hh)
    obtain ⟨arr1, e1, hheap, hrel⟩ := hhl.cells ⟨_, _, _, hheap0⟩
    rw [hheap] at hheap0
    cases hheap0
    obtain ⟨ad, c2, us, hv, hus, hul, hsrc⟩ := hs.spec hr (Ev.rel hr hy)
    have hone : ∀ u ∈ us, u.oneCell' = true := by
      have : ∀ {xs : List AV} {vs : List Value}, xs.all AV.sc = true → relL F w xs vs → ∀ u ∈ vs, u.oneCell' = true := by
        intro xs
        induction xs with
        | nil => intro vs _ h; simp only [relL] at h; subst h; intro u hu; cases hu
        | cons y ys ih =>
          intro vs hs h
          simp only [relL] at h
          obtain ⟨v, r, rfl, h1, h2⟩ := h
          simp only [List.all_cons, Bool.and_eq_true] at hs
          intro u hu
          cases hu with
          | head => exact (rel_sc hs.1 h1).1
          | tail _ hu => exact ih hs.2 h2 u hu
      exact this hsc hus
    have hexec : ∀ v' w', (Builtin.append_ #[U, U] T #[.slice (some ⟨b, 0, none⟩) len c, .slice ad cnt c2]).run P w = .ok v' w' →
        (execOp a.eval ⟨some d, .call ⟨.builtin .append, #[x, y], #[U, U]⟩, T, pos, aft, g⟩).run P w = .ok (.value v') w' := by
      intro v' w' h
      simp [execOp, resolve, invoke, builtin, he, hv, h]
    have hprefix := relL_take (len * m) hrel hlen
    rcases hsrc with rfl | ⟨bb, rfl, hcells⟩
    · have hys : ys = [] := by have := relL_len hus; rw [hul] at this; simpa using this.symm
      subst hys
      have hrun := run_append_zero (P := P) w U T e it hu hie (some ⟨b, 0, none⟩) len c (by omega) ad c2
      refine ⟨_, w, F, _, hexec _ _ hrun, ?_, k⟩
      have hkeep : R C F ⟨s.fr, s.hp.set id (.cells b (splice cs (len * m) []))⟩ a w := by
        have e2 : splice cs (len * m) [] = cs := by simp [splice]
        rw [e2]
        have := hr.row (j := 0) (xs := cs) (arr' := arr) hh rfl hheap rfl hrel
        rwa [setRow_self w b arr e0 (0, 0) hheap] at this
      exact hkeep.put hdn (by simp only [rel]; exact ⟨c, by simp, by omega, hop, arr, e0, _, hheap, hsize⟩)
    · have hfit : len * it.size + us.length ≤ arr.size := by
        rw [hsz, hul, ← Nat.add_mul]
        have := Nat.mul_le_mul_right m (show len + cnt ≤ c by omega)
        omega
      have hrun := run_append_room' (P := P) w U T e e0 it hu hie b len c arr hheap bb cnt c2 us (by rw [hul, hsz]) hcells hone (by omega) hfit
      rw [hsz] at hrun
      refine ⟨_, _, F, _, hexec _ _ hrun, ?_, k⟩
      have hs2 : (arr.toList.take (len * m) ++ us ++ arr.toList.drop (len * m + us.length)).toArray.size = arr.size := by
        rw [hsz] at hfit
        simp
        omega
      have hR := hr.row (j := 0) (xs := splice cs (len * m) ys) hh rfl hheap hs2 (by
        unfold splice
        simp only [List.append_assoc]
        refine relP_append hprefix (relP_append hus ?_)
        rw [← relL_len hus]
        exact relP_drop _ hrel)
      exact hR.put hdn (by simp only [rel]; exact ⟨c, rfl, by omega, hop, _, e0, _, setRow_heap w b arr _ e0 (0, 0) hheap, by rw [hs2]; exact hsize⟩)

theorem Run.clear {x : Operand} {id b m off len cap bytes : Nat} {opn : Bool} {cs zs : List AV} (hi : ops[i]? = some ⟨none, .call ⟨.builtin .clear, #[x], #[U]⟩, T, pos, aft, g⟩) (hw : want ops s.fr ⟨none, .call ⟨.builtin .clear, #[x], #[U]⟩, T, pos, aft, g⟩ = some true)
    (hx : Ev s.fr x (.own id b m off len cap opn)) (hh : s.hp[id]? = some [(b, cs)]) (hT : Elem P U m bytes zs) (hz1 : zs.all AV.sc = true) (hpos : 0 < len) (hlen : off + len * m ≤ cs.length)
    (k : Run C ops l Q ⟨s.fr, s.hp.set id (.cells b (splice cs off (zcells zs m (len * m))))⟩) : Run C ops (i :: l) Q s :=
  Run.step hi hw fun F a w hr => by
    obtain ⟨⟨e, it, z, hu, hie, hz, hsz, hbb, hzc, hm⟩, hzs⟩ := hT
    obtain ⟨z', hzr, hz', hzl⟩ := zeroOf_spec (hzs e hu)
    have hzz : z' = z := by simp [hie, hz] at hz'; exact hz'.symm
    subst hzz
    have h1 := Ev.rel hr hx
    simp only [rel] at h1
    obtain ⟨c, he, _, _, arr0, e00, fz0, hh0, _⟩ := h1
    obtain ⟨_, hnF, hhl⟩ := hr.sat.live (At.one hh)
    obtain ⟨arr, e0, hheap, hrel⟩ := hhl.cells ⟨arr0, e00, fz0, hh0⟩
    have hzlen : zs.length = m := by have := relL_len (hzl F w); simp at this; omega
    have hus : relL F w (zcells zs m (len * m)) (Builtin.zeroCells z'.cells len).toList := by
      unfold zcells Builtin.zeroCells
      rw [Array.toList_map, Array.toList_range, hzc]
      refine relL_map_range _ _ _ (fun j _ => ?_)
      exact relL_getD (hzl F w) (j := j % m) (by rw [hzlen]; exact Nat.mod_lt _ hm)
    have hul : (Builtin.zeroCells z'.cells len).toList.length = len * m := by rw [relL_len hus]; simp [zcells]
    have hone : ∀ u ∈ (Builtin.zeroCells z'.cells len).toList, u.oneCell' = true := by
      have hall : ∀ y ∈ zcells zs m (len * m), y.sc = true := by
        intro y hy
        unfold zcells at hy
        obtain ⟨j, _, rfl⟩ := List.mem_map.1 hy
        have hj : j % m < zs.length := by rw [hzlen]; exact Nat.mod_lt _ hm
        rw [List.all_eq_true] at hz1
        refine hz1 _ ?_
        rw [List.getD_eq_getElem?_getD, List.getElem?_eq_getElem hj]
        exact List.getElem_mem hj
      have : ∀ {xs : List AV} {vs : List Value}, (∀ y ∈ xs, y.sc = true) → relL F w xs vs → ∀ u ∈ vs, u.oneCell' = true := by
        intro xs
        induction xs with
        | nil => intro vs _ h; simp only [relL] at h; subst h; intro u hu; cases hu
        | cons y ys ih =>
          intro vs hs h
          simp only [relL] at h
          obtain ⟨v, r, rfl, h1, h2⟩ := h
          intro u hu
          cases hu with
          | head => exact (rel_sc (hs y (by simp)) h1).1
          | tail _ hu => exact ih (fun y hy => hs y (by simp [hy])) h2 u hu
      exact this hall hus
    have hle := relP_len hrel
    simp only [Array.length_toList] at hle
    have hst := run_storeCells_at (P := P) b off e0 (Builtin.zeroCells z'.cells len).toList 0 arr w hheap (by simp only [Nat.add_zero]; omega) hone
    simp only [Nat.add_zero] at hst
    obtain ⟨k0, rfl⟩ : ∃ k0, len = k0 + 1 := ⟨len - 1, by omega⟩
    have hrun : (Builtin.clear_ #[U] T #[.slice (some ⟨b, off, none⟩) (k0 + 1) c]).run P w = .ok (.tuple #[]) (w.setRow b (arr.toList.take off ++ (Builtin.zeroCells z'.cells (k0 + 1)).toList ++ arr.toList.drop (off + (Builtin.zeroCells z'.cells (k0 + 1)).toList.length)).toArray) := by
      simp [Builtin.clear_, run_underlying hu, hzr w, hst]
    refine ⟨.tuple #[], w.setRow b (arr.toList.take off ++ (Builtin.zeroCells z'.cells (k0 + 1)).toList ++ arr.toList.drop (off + (Builtin.zeroCells z'.cells (k0 + 1)).toList.length)).toArray, F, _, by simp [execOp, resolve, invoke, builtin, he, hrun], ?_, k⟩
    refine R.put_none (hr.row (j := 0) hh rfl hheap ?_ ?_) _
    · have hul2 : (Builtin.zeroCells z'.cells (k0 + 1)).size = (k0 + 1) * m := by simpa using hul
      generalize (k0 + 1) * m = q at hul2 hlen
      simp only [List.size_toArray, List.length_append, List.length_take, List.length_drop, Array.length_toList, hul2]
      omega
    · unfold splice
      simp only [List.append_assoc]
      refine relP_append (relL_take off hrel (by omega)) (relP_append hus ?_)
      rw [← relL_len hus]
      exact relP_drop _ hrel

def nilA : AV → Option Bool
  | .own .. => some false
  | .imm _ (_ + 1) => some false
  | .nilsl => some true
  | _ => none
theorem eq_nil (dp : Nat) {e : TypeId} (he : P.underlying U = some (.slice e)) (ad : Option Addr) (l' c : Nat) (w : World) : (Op.equalIn (dp + 1) U (.slice ad l' c) (.slice none 0 0)).run P w = .ok ad.isNone w := by
  cases ad <;> simp only [Op.equalIn, Sem.run_bind, underlying, run_program, Result.andThen_ok, he, Sem.run_pure, Option.isNone]
theorem Run.eql_slice {V : TypeId} {x y : Operand} {p : AV} {b : Bool} (hi : ops[i]? = some ⟨some d, .binOp .eql U x y V, T, pos, aft, g⟩) (hw : want ops s.fr ⟨some d, .binOp .eql U x y V, T, pos, aft, g⟩ = some true) (hdn : Nat.blt d n = true)
    (hx : Ev s.fr x p) (hy : Ev s.fr y .nilsl) (hT : isSl P U = true) (hn : nilA p = some b) (k : Run C ops l Q (s.put d (.bool b))) : Run C ops (i :: l) Q s :=
  Run.bin hi hw hdn hx hy (fun F w u v hu hv => by
    unfold isSl at hT
    split at hT
    · rename_i e he
      have hv' : v = .slice none 0 0 := by simpa only [rel] using hv
      subst hv'
      have : ∃ ad l c, u = .slice ad l c ∧ b = ad.isNone := by
        cases p <;> simp only [nilA, reduceCtorEq] at hn
        · rename_i cs len
          cases len with
          | zero => simp at hn
          | succ len =>
            simp only [Option.some.injEq] at hn
            simp only [rel] at hu
            obtain ⟨ad, c, rfl, _, hp⟩ := hu
            obtain ⟨b', o, arr, e', fz, rfl, _⟩ := hp (by omega)
            exact ⟨_, _, _, rfl, by simp [← hn]⟩
        · simp only [rel] at hu
          obtain ⟨c, rfl, _⟩ := hu
          simp only [Option.some.injEq] at hn
          exact ⟨_, _, _, rfl, by simp [← hn]⟩
        · simp only [rel] at hu
          simp only [Option.some.injEq] at hn
          exact ⟨_, _, _, hu, by simp [← hn]⟩
      obtain ⟨ad, l', c, rfl, rfl⟩ := this
      refine ⟨.bool ad.isNone, ?_, by simp [rel]⟩
      have h2 : (Op.equal U (.slice ad l' c) (.slice none 0 0)).run P w = .ok ad.isNone w := eq_nil 9999 he ad l' c w
      have h3 : (eqGuard .eql U x y (.slice ad l' c) (.slice none 0 0)).run P w = .ok () w := by simp [eqGuard]
      have h4 : binOp .eql U (.slice ad l' c) (.slice none 0 0) = (Op.equal U (.slice ad l' c) (.slice none 0 0) >>= fun r => _root_.Pure.pure (Value.bool r)) := rfl
      rw [Sem.run_bind, h3, Result.andThen_ok, h4, Sem.run_bind, h2, Result.andThen_ok, Sem.run_pure]
    · cases hT) k
/-- x[lo:] where lo is the capacity. -/
theorem Run.slice_end {x : Operand} {lo hi : Option Operand} {id b m off len cap bl bh : Nat} {opn : Bool} (hi' : ops[i]? = some ⟨some d, .slice U x lo hi none, T, pos, aft, g⟩) (hw : want ops s.fr ⟨some d, .slice U x lo hi none, T, pos, aft, g⟩ = some true) (hdn : Nat.blt d n = true)
    (hx : Ev s.fr x (.own id b m off len cap opn)) (hT : slB P U m = true) (hlo : Bnd s.fr lo 0 bl) (hhi : Bnd s.fr hi len bh) (h1 : bl ≤ bh) (h2 : bh ≤ cap) (h3 : cap ≤ bl) (k : Run C ops l Q (s.put d (.empty false))) : Run C ops (i :: l) Q s :=
  Run.slice_any hi' hw hdn hx hT hlo hhi h1 h2 (fun y hy => by
    rcases hy with ⟨h, _⟩ | ⟨_, rfl⟩
    · omega
    · exact k)
end ops
end
end Go.Ab
