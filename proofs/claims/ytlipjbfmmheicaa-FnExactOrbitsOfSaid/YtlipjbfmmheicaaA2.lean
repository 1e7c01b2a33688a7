/- The walk of the plain law's points of a plane, in order. -/
import Derived.Test.YtlipjbfmmheicaaA1
namespace Go.Ab
open Go.Proofs

section
variable {C : Cx Try.prog 36} {Q : Post} {p : Int}
theorem l_l01Points0 (hp : 0 ≤ p ∧ p ≤ 100) (hQ : ∀ b cs, cs = cs3 (V3.O :: pts1 p p.toNat) → Q (.exit 0) ⟨[(0, .int .i64 p), (3, V3s b (p.toNat + 1))], [[(b, cs)], [], []]⟩) :
    ∀ (d k b : Nat) (cs : List AV), (k : Int) + d = p → cs = cs3 (V3.O :: pts1 p k) → LP C (nav Try.f33.body.get! [1, 1, 0, 1, 0, 0]) Q ⟨[(0, .int .i64 p), (4, .int .i64 k), (3, V3s b (k + 1))], [[(b, cs)], [], []]⟩ := by
  intro d
  induction d with
  | zero =>
    intro k b cs hd hcs
    have hk : k = p.toNat := by omega
    refine LP.round ?_
    refine WP.seq ?_
    refine WP.seq (WP.region (l := [0, 1, 2]) rfl ?_)
    refine Run.move rfl rfl rfl (.at rfl) ?_
    refine Run.move rfl rfl rfl (.at rfl) ?_
    refine Run.int rfl rfl rfl (.at rfl) (.at rfl) rfl ?_
    refine Run.nil ?_
    refine WP.cond_f (.at rfl) (by simp; omega) ?_
    subst hk
    exact WP.keep (WP.exit (hQ b cs hcs)) (by repeat (first | exact trivial | refine ⟨rfl, ?_⟩)) (by repeat (first | exact HSub.nil | refine HSub.keep ?_ | refine HSub.dead ?_))
  | succ d ih =>
    intro k b cs hd hcs
    have hlen : (k + 1) * 3 ≤ cs.length := by rw [hcs, cs3_length]; simp [pts1_length]
    refine LP.round ?_
    refine WP.seq ?_
    refine WP.seq (WP.region (l := [0, 1, 2]) rfl ?_)
    refine Run.move rfl rfl rfl (.at rfl) ?_
    refine Run.move rfl rfl rfl (.at rfl) ?_
    refine Run.int rfl rfl rfl (.at rfl) (.at rfl) rfl ?_
    refine Run.nil ?_
    refine WP.cond_t (.at rfl) (by simp; omega) ?_
    refine WP.skip ?_
    refine WP.seq ?_
    refine WP.block ?_
    refine WP.region (l := [0, 1, 2, 3, 4, 5]) rfl ?_
    refine Run.move rfl rfl rfl (.at rfl) ?_
    refine Run.move rfl rfl rfl (.at rfl) ?_
    refine Run.build rfl rfl rfl bd_33 (.cons (.at rfl) rfl (.cons (.at rfl) rfl (.cons (.at rfl) rfl .nil))) rfl ?_
    refine Run.buildSlice 1 rfl rfl rfl el_51 (by decide) (.cons (.at rfl) rfl .nil) rfl rfl (fun b17 => ?_)
    refine Run.append rfl rfl rfl (.at rfl) rfl el_51 (.at rfl) (.own (At.one rfl) rfl rfl) rfl (by omega) hlen (by omega) (by omega) (fun b18 => ?_)
    refine Run.assign rfl rfl rfl (.at rfl) ?_
    refine Run.nil ?_
    refine WP.region (l := [0, 1, 2]) rfl ?_
    refine Run.move rfl rfl rfl (.at rfl) ?_
    refine Run.add rfl rfl rfl (.at rfl) (.at rfl) (by omega) ?_
    refine Run.assign rfl rfl rfl (.at rfl) ?_
    refine Run.nil ?_
    refine LP.keep (ih (k + 1) b18 _ (by omega) ?_) (by repeat (first | exact trivial | refine ⟨rfl, ?_⟩)) (by repeat (first | exact HSub.nil | refine HSub.keep ?_ | refine HSub.dead ?_))
    have e := cs3_take (V3.O :: pts1 p k)
    simp only [List.length_cons, pts1_length] at e
    rw [hcs, e, pts1_succ, ← List.cons_append, cs3_append]
    rfl
theorem l_l01Points2 (hp : 0 ≤ p ∧ p ≤ 100) {b0 : List V3} {y : Int} (hb0 : b0.length ≤ 100000) (hQ : ∀ b cs, cs = cs3 (b0 ++ pts2 y p.toNat) → Q (.exit 4) ⟨[(0, .int .i64 p), (5, .int .i64 y), (3, V3s b (b0.length + p.toNat))], [[(b, cs)], [], []]⟩) :
    ∀ (d k b : Nat) (cs : List AV), (k : Int) + d = p → cs = cs3 (b0 ++ pts2 y k) → LP C (nav Try.f33.body.get! [1, 1, 1, 0, 1, 0, 0, 1, 0, 0, 1, 0, 0]) Q ⟨[(0, .int .i64 p), (5, .int .i64 y), (6, .int .i64 k), (3, V3s b (b0.length + k))], [[(b, cs)], [], []]⟩ := by
  intro d
  induction d with
  | zero =>
    intro k b cs hd hcs
    have hk : k = p.toNat := by omega
    refine LP.round ?_
    refine WP.seq ?_
    refine WP.seq (WP.region (l := [0, 1, 2]) rfl ?_)
    refine Run.move rfl rfl rfl (.at rfl) ?_
    refine Run.move rfl rfl rfl (.at rfl) ?_
    refine Run.int rfl rfl rfl (.at rfl) (.at rfl) rfl ?_
    refine Run.nil ?_
    refine WP.cond_f (.at rfl) (by simp; omega) ?_
    subst hk
    exact WP.keep (WP.exit (hQ b cs hcs)) (by repeat (first | exact trivial | refine ⟨rfl, ?_⟩)) (by repeat (first | exact HSub.nil | refine HSub.keep ?_ | refine HSub.dead ?_))
  | succ d ih =>
    intro k b cs hd hcs
    have hlen : (b0.length + k) * 3 ≤ cs.length := by rw [hcs, cs3_length]; simp [pts2_length]
    refine LP.round ?_
    refine WP.seq ?_
    refine WP.seq (WP.region (l := [0, 1, 2]) rfl ?_)
    refine Run.move rfl rfl rfl (.at rfl) ?_
    refine Run.move rfl rfl rfl (.at rfl) ?_
    refine Run.int rfl rfl rfl (.at rfl) (.at rfl) rfl ?_
    refine Run.nil ?_
    refine WP.cond_t (.at rfl) (by simp; omega) ?_
    refine WP.skip ?_
    refine WP.seq ?_
    refine WP.block ?_
    refine WP.region (l := [0, 1, 2, 3, 4, 5, 6]) rfl ?_
    refine Run.move rfl rfl rfl (.at rfl) ?_
    refine Run.move rfl rfl rfl (.at rfl) ?_
    refine Run.move rfl rfl rfl (.at rfl) ?_
    refine Run.build rfl rfl rfl bd_33 (.cons (.at rfl) rfl (.cons (.at rfl) rfl (.cons (.at rfl) rfl .nil))) rfl ?_
    refine Run.buildSlice 2 rfl rfl rfl el_51 (by decide) (.cons (.at rfl) rfl .nil) rfl rfl (fun b33 => ?_)
    refine Run.append rfl rfl rfl (.at rfl) rfl el_51 (.at rfl) (.own (At.one rfl) rfl rfl) rfl (by omega) hlen (by omega) (by omega) (fun b34 => ?_)
    refine Run.assign rfl rfl rfl (.at rfl) ?_
    refine Run.nil ?_
    refine WP.region (l := [0, 1, 2]) rfl ?_
    refine Run.move rfl rfl rfl (.at rfl) ?_
    refine Run.add rfl rfl rfl (.at rfl) (.at rfl) (by omega) ?_
    refine Run.assign rfl rfl rfl (.at rfl) ?_
    refine Run.nil ?_
    refine LP.keep (ih (k + 1) b34 _ (by omega) ?_) (by repeat (first | exact trivial | refine ⟨rfl, ?_⟩)) (by repeat (first | exact HSub.nil | refine HSub.keep ?_ | refine HSub.dead ?_))
    have e := cs3_take (b0 ++ pts2 y k)
    simp only [List.length_append, pts2_length] at e
    rw [hcs, e, pts2_succ, ← List.append_assoc, cs3_append (b0 ++ pts2 y k)]
    rfl
theorem l_l01Points1 (hp : 0 ≤ p ∧ p ≤ 100) {b0 : List V3} (hb0 : b0.length ≤ 1000) (hQ : ∀ b cs, cs = cs3 (b0 ++ ptsY p p.toNat) → Q (.exit 2) ⟨[(3, V3s b (b0.length + p.toNat * p.toNat))], [[(b, cs)], [], []]⟩) :
    ∀ (d k b : Nat) (cs : List AV), (k : Int) + d = p → cs = cs3 (b0 ++ ptsY p k) → LP C (nav Try.f33.body.get! [1, 1, 1, 0, 1, 0, 0]) Q ⟨[(0, .int .i64 p), (5, .int .i64 k), (3, V3s b (b0.length + k * p.toNat))], [[(b, cs)], [], []]⟩ := by
  intro d
  induction d with
  | zero =>
    intro k b cs hd hcs
    have hk : k = p.toNat := by omega
    refine LP.round ?_
    refine WP.seq ?_
    refine WP.seq (WP.region (l := [0, 1, 2]) rfl ?_)
    refine Run.move rfl rfl rfl (.at rfl) ?_
    refine Run.move rfl rfl rfl (.at rfl) ?_
    refine Run.int rfl rfl rfl (.at rfl) (.at rfl) rfl ?_
    refine Run.nil ?_
    refine WP.cond_f (.at rfl) (by simp; omega) ?_
    subst hk
    exact WP.keep (WP.exit (hQ b cs hcs)) (by repeat (first | exact trivial | refine ⟨rfl, ?_⟩)) (by repeat (first | exact HSub.nil | refine HSub.keep ?_ | refine HSub.dead ?_))
  | succ d ih =>
    intro k b cs hd hcs
    have hkp : k * p.toNat ≤ 100 * 100 := Nat.mul_le_mul (by omega) (by omega)
    have hl : (b0 ++ ptsY p k).length = b0.length + k * p.toNat := by simp [ptsY_length]
    refine LP.round ?_
    refine WP.seq ?_
    refine WP.seq (WP.region (l := [0, 1, 2]) rfl ?_)
    refine Run.move rfl rfl rfl (.at rfl) ?_
    refine Run.move rfl rfl rfl (.at rfl) ?_
    refine Run.int rfl rfl rfl (.at rfl) (.at rfl) rfl ?_
    refine Run.nil ?_
    refine WP.cond_t (.at rfl) (by simp; omega) ?_
    refine WP.skip ?_
    refine WP.seq ?_
    refine WP.block ?_
    refine WP.seq (WP.region (l := [0]) rfl ?_)
    refine Run.assign rfl rfl rfl (.at rfl) ?_
    refine Run.nil ?_
    refine WP.block ?_
    refine WP.loop (LP.keep (l_l01Points2 (b0 := b0 ++ ptsY p k) (y := k) hp (by rw [hl]; omega) (fun b2 cs2 hcs2 => ?_) p.toNat 0 b cs (by omega) (by rw [hcs]; simp [pts2])) (by rw [hl]; repeat (first | exact trivial | refine ⟨rfl, ?_⟩)) (by repeat (first | exact HSub.nil | refine HSub.keep ?_ | refine HSub.dead ?_)))
    refine WP.keep (fr' := [(0, .int .i64 p), (5, .int .i64 k), (3, V3s b2 (b0.length + (k + 1) * p.toNat))]) (H' := [[(b2, cs2)], [], []]) ?_ (by refine ⟨rfl, rfl, ?_, trivial⟩; rw [Nat.add_mul, Nat.one_mul, ← Nat.add_assoc, ← hl]; rfl) (by repeat (first | exact HSub.nil | refine HSub.keep ?_ | refine HSub.dead ?_))
    refine WP.region (l := [0, 1, 2]) rfl ?_
    refine Run.move rfl rfl rfl (.at rfl) ?_
    refine Run.add rfl rfl rfl (.at rfl) (.at rfl) (by omega) ?_
    refine Run.assign rfl rfl rfl (.at rfl) ?_
    refine Run.nil ?_
    refine LP.keep (ih (k + 1) b2 _ (by omega) ?_) (by repeat (first | exact trivial | refine ⟨rfl, ?_⟩)) (by repeat (first | exact HSub.nil | refine HSub.keep ?_ | refine HSub.dead ?_))
    rw [hcs2, ptsY_succ, List.append_assoc]
end
theorem c_l01Points (p : Int) (hp : 0 ≤ p ∧ p ≤ 100) : Pure Try.prog 33 [.int .i64 p] (.imm (cs3 (pts p)) (p.toNat + 1 + p.toNat * p.toNat)) := by
  refine Pure.body 3 (n := 36) (fn := Try.f33) (c := Try.f33.body.get!) fn_33 rfl nm_33 rfl rfl fun C => ?_
  refine WP.seq (WP.region (l := [0]) rfl ?_)
  refine Run.assign rfl rfl rfl (.at rfl) ?_
  refine Run.nil ?_
  refine WP.seq (WP.region (l := [0, 1, 2]) rfl ?_)
  refine Run.build rfl rfl rfl bd_33 (.cons (.at rfl) rfl (.cons (.at rfl) rfl (.cons (.at rfl) rfl .nil))) rfl ?_
  refine Run.buildSlice 0 rfl rfl rfl el_51 (by decide) (.cons (.at rfl) rfl .nil) rfl rfl (fun b8 => ?_)
  refine Run.assign rfl rfl rfl (.at rfl) ?_
  refine Run.nil ?_
  refine WP.seq ?_
  refine WP.seq (WP.region (l := [0]) rfl ?_)
  refine Run.assign rfl rfl rfl (.at rfl) ?_
  refine Run.nil ?_
  refine WP.block ?_
  refine WP.weak 3 rfl (fun _ _ _ h => own_open (id' := 0) (Nat.le_refl _) h) ?_
  refine WP.loop (LP.keep (l_l01Points0 hp (fun b cs hcs => ?_) p.toNat 0 b8 _ (by omega) rfl) (by repeat (first | exact trivial | refine ⟨rfl, ?_⟩)) (by repeat (first | exact HSub.nil | refine HSub.keep ?_ | refine HSub.dead ?_)))
  refine WP.seq ?_
  refine WP.seq (WP.region (l := [0]) rfl ?_)
  refine Run.assign rfl rfl rfl (.at rfl) ?_
  refine Run.nil ?_
  refine WP.block ?_
  refine WP.loop (LP.keep (l_l01Points1 (b0 := V3.O :: pts1 p p.toNat) hp (by simp [pts1_length]; omega) (fun b2 cs2 hcs2 => ?_) p.toNat 0 b cs (by omega) (by rw [hcs]; simp [ptsY])) (by simp only [List.length_cons, pts1_length, Nat.zero_mul, Nat.add_zero]; repeat (first | exact trivial | refine ⟨rfl, ?_⟩)) (by repeat (first | exact HSub.nil | refine HSub.keep ?_ | refine HSub.dead ?_)))
  simp only [List.length_cons, pts1_length]
  refine WP.freeze 3 (cs3 (pts p)) rfl rfl (Nat.le_refl _) (by rw [hcs2]; simp [pts, V3.O]) ?_
  refine WP.seq (WP.region (l := [0, 1]) rfl ?_)
  refine Run.move rfl rfl rfl (.at rfl) ?_
  refine Run.assign rfl rfl rfl (.at rfl) ?_
  refine Run.nil ?_
  refine WP.ret ?_
  exact Ends.pure (.tmp rfl .nil) rfl
end Go.Ab
