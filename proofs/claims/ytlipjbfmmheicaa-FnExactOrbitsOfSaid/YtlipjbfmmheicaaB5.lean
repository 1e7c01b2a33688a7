/- The walks of the codes of a plane. -/
import Derived.Test.YtlipjbfmmheicaaP4
import Derived.Test.YtlipjbfmmheicaaB4
namespace Go.Ab
open Go.Proofs

theorem l_arePoints {C : Cx Try.prog 18} {Q : Post} {p : Int} {l : List V3} {n : Nat} (hp : IsP p) (hl : n ≤ 2000000) (hn : l.length = n)
    (hQ : ptsOk p l = true → Q (.exit 0) ⟨[], [[]]⟩) (hR : ptsOk p l = false → Q .ret ⟨[(4, .bool false)], [[]]⟩) :
    ∀ (d k : Nat), k + d = n → ptsOk p l = ptsOk p (l.drop k) → LP C (nav Try.f44.body.get! [1, 0, 1, 0, 0]) Q ⟨[(0, .int .i64 p), (7, .imm (cs3 l) n), (8, .int .i64 n), (9, .int .i64 k)], [[]]⟩ := by
  have hpp := isP_iff.2 hp
  intro d
  induction d with
  | zero =>
    intro k hd he
    have he' : ptsOk p l = true := by rw [he, List.drop_eq_nil_of_le (by omega)]; rfl
    refine LP.round ?_
    refine WP.seq (WP.region (l := [0]) rfl ?_)
    refine Run.int rfl rfl rfl (.at rfl) (.at rfl) rfl ?_
    refine Run.nil ?_
    refine WP.seq ?_
    refine WP.cond_f (.at rfl) (by simp; omega) ?_
    exact WP.keep (WP.exit (hQ he')) (by repeat (first | exact trivial | refine ⟨rfl, ?_⟩)) (by repeat (first | exact HSub.nil | refine HSub.keep ?_ | refine HSub.dead ?_))
  | succ d ih =>
    intro k hd he
    have hk : k < l.length := by omega
    rw [drop3 hk] at he
    refine LP.round ?_
    refine WP.seq (WP.region (l := [0]) rfl ?_)
    refine Run.int rfl rfl rfl (.at rfl) (.at rfl) rfl ?_
    refine Run.nil ?_
    refine WP.seq ?_
    refine WP.cond_t (.at rfl) (by simp; omega) ?_
    refine WP.skip ?_
    refine WP.seq ?_
    refine WP.block ?_
    refine WP.seq (WP.region (l := [0, 1, 2, 3]) rfl ?_)
    refine Run.idx_imm (j := k) rfl rfl rfl (.at rfl) (.at rfl) sl_51_3 rfl (show k < n by omega) ?_
    refine Run.loads rfl rfl rfl (.at rfl) .imm ag_33_3 (cs3_get hk) rfl ?_
    refine Run.alloc 0 rfl rfl rfl zr_33 (fun b6 => ?_)
    refine Run.store (j := 0) rfl rfl (.at rfl) rfl rfl (.at rfl) sz_33_3 rfl rfl (by first | decide | exact Nat.le_of_ble_eq_true rfl) rfl ?_
    refine Run.nil ?_
    refine WP.seq (WP.region (l := [0, 1, 2, 3]) rfl ?_)
    refine Run.move rfl rfl rfl (.at rfl) ?_
    refine Run.loads rfl rfl rfl (.at rfl) (place_adr rfl) ag_33_3 rfl rfl ?_
    refine Run.call rfl rfl rfl (.at rfl) (.cons (.at rfl) (.cons (.at rfl) .nil)) (c_IsPoint _ _) ?_
    refine Run.not rfl rfl rfl (.at rfl) ?_
    refine Run.nil ?_
    refine WP.cond (.at rfl) (fun hc1 => ?_) (fun hc1 => ?_)
    · have he' : ptsOk p l = false := by rw [he]; simp only [hpp, Bool.true_and, Bool.not_eq_true'] at hc1; simp only [ptsOk, List.all_cons, hc1, Bool.false_and]
      refine WP.seq (WP.region (l := [0]) rfl ?_)
      refine Run.assign rfl rfl rfl (.at rfl) ?_
      refine Run.nil ?_
      exact WP.keep (WP.ret (hR he')) (by repeat (first | exact trivial | refine ⟨rfl, ?_⟩)) (by repeat (first | exact HSub.nil | refine HSub.keep ?_ | refine HSub.dead ?_))
    · have he' : ptsOk p l = ptsOk p (l.drop (k + 1)) := by rw [he]; simp only [hpp, Bool.true_and, Bool.not_eq_false'] at hc1; simp only [ptsOk, List.all_cons, hc1, Bool.true_and]
      refine WP.skip ?_
      refine WP.region (l := [0, 1]) rfl ?_
      refine Run.add rfl rfl rfl (.at rfl) (.at rfl) (by omega) ?_
      refine Run.move rfl rfl rfl (.at rfl) ?_
      refine Run.nil ?_
      exact LP.keep (ih (k + 1) (by omega) he') (by repeat (first | exact trivial | refine ⟨rfl, ?_⟩)) (by repeat (first | exact HSub.nil | refine HSub.keep ?_ | refine HSub.dead ?_))
theorem c_arePoints (p : Int) (l : List V3) {n : Nat} (hp : IsP p) (hl : n ≤ 2000000) (hn : l.length = n) : Pure Try.prog 44 [.int .i64 p, .imm (cs3 l) n] (.bool (ptsOk p l)) := by
  refine Pure.body 1 (n := 18) (fn := Try.f44) (c := Try.f44.body.get!) fn_44 rfl nm_44 rfl rfl fun C => ?_
  refine WP.seq (WP.region (l := [0]) rfl ?_)
  refine Run.assign rfl rfl rfl (.at rfl) ?_
  refine Run.nil ?_
  refine WP.seq ?_
  refine WP.seq (WP.region (l := [0, 1, 2]) rfl ?_)
  refine Run.move rfl rfl rfl (.at rfl) ?_
  refine Run.len rfl rfl rfl (.at rfl) is_51 rfl ?_
  refine Run.move rfl rfl rfl (.at rfl) ?_
  refine Run.nil ?_
  refine WP.block ?_
  refine WP.loop (LP.keep (l_arePoints (l := l) hp hl hn (fun h => ?_) (fun h => ?_) n 0 (by omega) rfl) (by repeat (first | exact trivial | refine ⟨rfl, ?_⟩)) (by repeat (first | exact HSub.nil | refine HSub.keep ?_ | refine HSub.dead ?_)))
  rotate_left
  · exact Ends.pure (.tmp rfl .nil) (by rw [h]; rfl)
  refine WP.seq (WP.region (l := [0]) rfl ?_)
  refine Run.assign rfl rfl rfl (.at rfl) ?_
  refine Run.nil ?_
  refine WP.ret ?_
  exact Ends.pure (.tmp rfl .nil) (by rw [h]; rfl)

theorem c_planeCode (p : Int) (f : FuncId) (cap : List AV) (v : Bool) (h : IsP p → Pure Try.prog f cap (.bool v)) : Pure Try.prog 41 [.int .i64 p, .fn f cap] (.int .i64 (if isP p then (if v then 0 else 1) else 2)) := by
  refine Pure.body 0 (n := 13) (fn := Try.f41) (c := Try.f41.body.get!) fn_41 rfl nm_41 rfl rfl fun C => ?_
  refine WP.seq (WP.region (l := [0]) rfl ?_)
  refine Run.assign rfl rfl rfl (.at rfl) ?_
  refine Run.nil ?_
  refine WP.seq ?_
  refine WP.block ?_
  refine WP.seq (WP.region (l := [0, 1, 2, 3]) rfl ?_)
  refine Run.move rfl rfl rfl (.at rfl) ?_
  refine Run.call rfl rfl rfl (.at rfl) (.cons (.at rfl) .nil) (c_isPrime _) ?_
  refine Run.not rfl rfl rfl (.at rfl) ?_
  refine Run.assign rfl rfl rfl (.at rfl) ?_
  refine Run.nil ?_
  refine WP.cond (.at rfl) (fun hc0 => ?_) (fun hc0 => ?_)
  · skip
    refine WP.seq (WP.region (l := [0]) rfl ?_)
    refine Run.assign rfl rfl rfl (.at rfl) ?_
    refine Run.nil ?_
    refine WP.ret ?_
    exact Ends.pure (.tmp rfl .nil) (by simp only [Bool.not_eq_true'] at hc0; rw [hc0]; rfl)
  · have hp : isP p = true := by simpa using hc0
    refine WP.seq (WP.region (l := [0, 1, 2, 3]) rfl ?_)
    refine Run.move rfl rfl rfl (.at rfl) ?_
    refine Run.call rfl rfl rfl (.at rfl) .nil (h (isP_iff.1 hp)) ?_
    refine Run.not rfl rfl rfl (.at rfl) ?_
    refine Run.assign rfl rfl rfl (.at rfl) ?_
    refine Run.nil ?_
    refine WP.cond (.at rfl) (fun hc1 => ?_) (fun hc1 => ?_)
    · skip
      refine WP.seq (WP.region (l := [0]) rfl ?_)
      refine Run.assign rfl rfl rfl (.at rfl) ?_
      refine Run.nil ?_
      refine WP.ret ?_
      exact Ends.pure (.tmp rfl .nil) (by simp only [Bool.not_eq_true'] at hc1; rw [hp, hc1]; rfl)
    · skip
      refine WP.skip ?_
      refine WP.seq (WP.region (l := [0]) rfl ?_)
      refine Run.assign rfl rfl rfl (.at rfl) ?_
      refine Run.nil ?_
      refine WP.ret ?_
      exact Ends.pure (.tmp rfl .nil) (by simp only [Bool.not_eq_false'] at hc1; rw [hp, hc1]; rfl)


theorem l_l01Code {C : Cx Try.prog 22} {Q : Post} {p : Int} {l : List V3} {n : Nat} (hp : IsP p) (hl : n ≤ 2000000) (hn : l.length = n)
    (hQ : ptsOk p l = true → Q (.exit 0) ⟨[], []⟩) (hR : ptsOk p l = false → Q .ret ⟨[(4, .int .i64 1)], []⟩) :
    ∀ (d k : Nat), k + d = n → ptsOk p l = ptsOk p (l.drop k) → LP C (nav Try.f38.body.get! [1, 1, 0, 1, 0, 0]) Q ⟨[(0, .int .i64 p), (1, .imm (cs3 l) n), (5, .int .i64 k)], []⟩ := by
  have hpp := isP_iff.2 hp
  intro d
  induction d with
  | zero =>
    intro k hd he
    have he' : ptsOk p l = true := by rw [he, List.drop_eq_nil_of_le (by omega)]; rfl
    refine LP.round ?_
    refine WP.seq ?_
    refine WP.seq (WP.region (l := [0, 1, 2, 3]) rfl ?_)
    refine Run.move rfl rfl rfl (.at rfl) ?_
    refine Run.move rfl rfl rfl (.at rfl) ?_
    refine Run.len rfl rfl rfl (.at rfl) is_51 rfl ?_
    refine Run.int rfl rfl rfl (.at rfl) (.at rfl) rfl ?_
    refine Run.nil ?_
    refine WP.cond_f (.at rfl) (by simp; omega) ?_
    exact WP.keep (WP.exit (hQ he')) (by repeat (first | exact trivial | refine ⟨rfl, ?_⟩)) (by repeat (first | exact HSub.nil | refine HSub.keep ?_ | refine HSub.dead ?_))
  | succ d ih =>
    intro k hd he
    have hk : k < l.length := by omega
    rw [drop3 hk] at he
    refine LP.round ?_
    refine WP.seq ?_
    refine WP.seq (WP.region (l := [0, 1, 2, 3]) rfl ?_)
    refine Run.move rfl rfl rfl (.at rfl) ?_
    refine Run.move rfl rfl rfl (.at rfl) ?_
    refine Run.len rfl rfl rfl (.at rfl) is_51 rfl ?_
    refine Run.int rfl rfl rfl (.at rfl) (.at rfl) rfl ?_
    refine Run.nil ?_
    refine WP.cond_t (.at rfl) (by simp; omega) ?_
    refine WP.skip ?_
    refine WP.seq ?_
    refine WP.block ?_
    refine WP.seq (WP.region (l := [0, 1, 2, 3, 4, 5, 6]) rfl ?_)
    refine Run.move rfl rfl rfl (.at rfl) ?_
    refine Run.move rfl rfl rfl (.at rfl) ?_
    refine Run.move rfl rfl rfl (.at rfl) ?_
    refine Run.idx_imm (j := k) rfl rfl rfl (.at rfl) (.at rfl) sl_51_3 rfl (show k < n by omega) ?_
    refine Run.loads rfl rfl rfl (.at rfl) .imm ag_33_3 (cs3_get hk) rfl ?_
    refine Run.call rfl rfl rfl (.at rfl) (.cons (.at rfl) (.cons (.at rfl) .nil)) (c_l01Point _ _) ?_
    refine Run.not rfl rfl rfl (.at rfl) ?_
    refine Run.nil ?_
    refine WP.cond (.at rfl) (fun hc2 => ?_) (fun hc2 => ?_)
    · have he' : ptsOk p l = false := by rw [he]; simp only [hpp, Bool.true_and, Bool.not_eq_true'] at hc2; simp only [ptsOk, List.all_cons, hc2, Bool.false_and]
      refine WP.seq (WP.region (l := [0]) rfl ?_)
      refine Run.assign rfl rfl rfl (.at rfl) ?_
      refine Run.nil ?_
      exact WP.keep (WP.ret (hR he')) (by repeat (first | exact trivial | refine ⟨rfl, ?_⟩)) (by repeat (first | exact HSub.nil | refine HSub.keep ?_ | refine HSub.dead ?_))
    · have he' : ptsOk p l = ptsOk p (l.drop (k + 1)) := by rw [he]; simp only [hpp, Bool.true_and, Bool.not_eq_false'] at hc2; simp only [ptsOk, List.all_cons, hc2, Bool.true_and]
      refine WP.skip ?_
      refine WP.region (l := [0, 1, 2]) rfl ?_
      refine Run.move rfl rfl rfl (.at rfl) ?_
      refine Run.add rfl rfl rfl (.at rfl) (.at rfl) (by omega) ?_
      refine Run.assign rfl rfl rfl (.at rfl) ?_
      refine Run.nil ?_
      exact LP.keep (ih (k + 1) (by omega) he') (by repeat (first | exact trivial | refine ⟨rfl, ?_⟩)) (by repeat (first | exact HSub.nil | refine HSub.keep ?_ | refine HSub.dead ?_))
theorem c_l01Code (p : Int) (l : List V3) {n : Nat} (hl : n ≤ 2000000) (hn : l.length = n) : Pure Try.prog 38 [.int .i64 p, .imm (cs3 l) n] (.int .i64 (codeOf p l)) := by
  refine Pure.body 0 (n := 22) (fn := Try.f38) (c := Try.f38.body.get!) fn_38 rfl nm_38 rfl rfl fun C => ?_
  refine WP.seq (WP.region (l := [0]) rfl ?_)
  refine Run.assign rfl rfl rfl (.at rfl) ?_
  refine Run.nil ?_
  refine WP.seq ?_
  refine WP.seq (WP.region (l := [0, 1, 2]) rfl ?_)
  refine Run.move rfl rfl rfl (.at rfl) ?_
  refine Run.call rfl rfl rfl (.at rfl) (.cons (.at rfl) .nil) (c_l01Prime _) ?_
  refine Run.not rfl rfl rfl (.at rfl) ?_
  refine Run.nil ?_
  refine WP.cond (.at rfl) (fun hc0 => ?_) (fun hc0 => ?_)
  · skip
    refine WP.seq (WP.region (l := [0]) rfl ?_)
    refine Run.assign rfl rfl rfl (.at rfl) ?_
    refine Run.nil ?_
    refine WP.ret ?_
    exact Ends.pure (.tmp rfl .nil) (by simp only [Bool.not_eq_true'] at hc0; unfold codeOf; rw [hc0]; rfl)
  · have hp : isP p = true := by simpa using hc0
    refine WP.skip ?_
    refine WP.seq ?_
    refine WP.seq (WP.region (l := [0]) rfl ?_)
    refine Run.assign rfl rfl rfl (.at rfl) ?_
    refine Run.nil ?_
    refine WP.block ?_
    refine WP.loop (LP.keep (l_l01Code (l := l) (isP_iff.1 hp) hl hn (fun h => ?_) (fun h => ?_) n 0 (by omega) rfl) (by repeat (first | exact trivial | refine ⟨rfl, ?_⟩)) (by repeat (first | exact HSub.nil | refine HSub.keep ?_ | refine HSub.dead ?_)))
    rotate_left
    · exact Ends.pure (.tmp rfl .nil) (by unfold codeOf; rw [hp, h]; rfl)
    refine WP.seq (WP.region (l := [0]) rfl ?_)
    refine Run.assign rfl rfl rfl (.at rfl) ?_
    refine Run.nil ?_
    refine WP.ret ?_
    exact Ends.pure (.tmp rfl .nil) (by unfold codeOf; rw [hp, h]; rfl)
end Go.Ab
