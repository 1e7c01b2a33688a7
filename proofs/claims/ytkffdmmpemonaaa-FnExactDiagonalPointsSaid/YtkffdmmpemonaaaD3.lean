/- The walk of the plain law's arc: no three points of a list on a line. -/
import Derived.Test.YtkffdmmpemonaaaD2
namespace Go.Ab
open Go.Proofs

theorem range_drop {n k : Nat} (h : k < n) : (List.range n).drop k = k :: (List.range n).drop (k + 1) := by
  rw [List.drop_eq_getElem_cons (by simpa using h)]
  simp
theorem range_end {n : Nat} : (List.range n).drop n = [] := List.drop_of_length_le (by simp)
def arc1 (p : Int) (l : List V3) (i j k : Nat) : Bool := !(det (l.getD i V3.O) (l.getD j V3.O) (l.getD k V3.O) % p == 0)
def arc2 (p : Int) (l : List V3) (i j : Nat) : Bool := (List.range j).all (arc1 p l i j)
def arc3 (p : Int) (l : List V3) (i : Nat) : Bool := (List.range i).all (arc2 p l i)
def arcOk (p : Int) (l : List V3) : Bool := (List.range l.length).all (arc3 p l)

section
variable {C : Cx Try.prog 39} {Q : Post} {p : Int} {l : List V3} {n : Nat}
theorem l_l07Arc2 (hp : IsP p) (hn : n ≤ 4000000) (hl : l.length = n) (hs : ptsOk p l = true) {i j : Nat} (hi : i < n) (hj : j < i)
    (hQ : arc2 p l i j = true → Q (.exit 4) ⟨[(0, .int .i64 p), (1, .imm (cs3 l) n), (5, .int .i64 i), (6, .int .i64 j)], []⟩) (hR : arc2 p l i j = false → Q .ret ⟨[(4, .bool false)], []⟩) :
    ∀ (d k : Nat), k + d = j → arc2 p l i j = ((List.range j).drop k).all (arc1 p l i j) →
      LP C (nav Try.f13.body.get! [1, 0, 1, 0, 0, 1, 0, 0, 1, 0, 0, 1, 0, 0, 1, 0, 0]) Q ⟨[(0, .int .i64 p), (1, .imm (cs3 l) n), (5, .int .i64 i), (6, .int .i64 j), (7, .int .i64 k)], []⟩ := by
  intro d
  induction d with
  | zero =>
    intro k hd he
    have hk : k = j := by omega
    rw [hk, range_end] at he
    refine LP.round ?_
    refine WP.seq ?_
    refine WP.seq (WP.region (l := [0, 1, 2]) rfl ?_)
    refine Run.move rfl rfl rfl (.at rfl) ?_
    refine Run.move rfl rfl rfl (.at rfl) ?_
    refine Run.int rfl rfl rfl (.at rfl) (.at rfl) rfl ?_
    refine Run.nil ?_
    refine WP.cond_f (.at rfl) (by simp; omega) ?_
    exact WP.keep (WP.exit (hQ he)) (by repeat (first | exact trivial | refine ⟨rfl, ?_⟩)) (by repeat (first | exact HSub.nil | refine HSub.keep ?_ | refine HSub.dead ?_))
  | succ d ih =>
    intro k hd he
    have hk : k < j := by omega
    rw [range_drop hk, List.all_cons] at he
    have hu := ptsOk_sm hp hs i
    have hv := ptsOk_sm hp hs j
    have hw := ptsOk_sm hp hs k
    refine LP.round ?_
    refine WP.seq ?_
    refine WP.seq (WP.region (l := [0, 1, 2]) rfl ?_)
    refine Run.move rfl rfl rfl (.at rfl) ?_
    refine Run.move rfl rfl rfl (.at rfl) ?_
    refine Run.int rfl rfl rfl (.at rfl) (.at rfl) rfl ?_
    refine Run.nil ?_
    refine WP.cond_t (.at rfl) (by simp; omega) ?_
    refine WP.skip ?_
    refine WP.seq ?_
    refine WP.block ?_
    refine WP.seq (WP.draw mx_0 ?_)
    refine Drawn.calmR ?_
    refine' DrawR.op 0 24 0 [(0, none)] rfl rfl (fun rest => ?_) ?_
    rotate_left
    · skip
      refine Run.move rfl rfl rfl (.at rfl) ?_
      exact single_nil
    refine' DrawR.op 1 25 1 [(1, none)] rfl rfl (fun rest => ?_) ?_
    rotate_left
    · skip
      refine Run.move rfl rfl rfl (.at rfl) ?_
      exact single_nil
    refine' DrawR.op 2 26 2 [(5, none)] rfl rfl (fun rest => ?_) ?_
    rotate_left
    · skip
      refine Run.move rfl rfl rfl (.at rfl) ?_
      exact single_nil
    refine' DrawR.op 3 27 3 [(25, some 1), (26, some 0)] rfl rfl (fun rest => ?_) ?_
    rotate_left
    · skip
      refine Run.idx_imm (j := i) rfl rfl rfl (.at rfl) (.at rfl) sl_24_3 rfl hi ?_
      exact single_nil
    refine' DrawR.op 4 28 4 [(27, some 0)] rfl rfl (fun rest => ?_) ?_
    rotate_left
    · skip
      refine Run.loads rfl rfl rfl (.at rfl) .imm ag_37_3 (cs3_get (by omega)) rfl ?_
      exact single_nil
    refine' DrawR.op 5 29 5 [(1, none)] rfl rfl (fun rest => ?_) ?_
    rotate_left
    · skip
      refine Run.move rfl rfl rfl (.at rfl) ?_
      exact single_nil
    refine' DrawR.op 6 30 6 [(6, none)] rfl rfl (fun rest => ?_) ?_
    rotate_left
    · skip
      refine Run.move rfl rfl rfl (.at rfl) ?_
      exact single_nil
    refine' DrawR.op 7 31 7 [(29, some 1), (30, some 0)] rfl rfl (fun rest => ?_) ?_
    rotate_left
    · skip
      refine Run.idx_imm (j := j) rfl rfl rfl (.at rfl) (.at rfl) sl_24_3 rfl (show j < n by omega) ?_
      exact single_nil
    refine' DrawR.op 8 32 8 [(31, some 0)] rfl rfl (fun rest => ?_) ?_
    rotate_left
    · skip
      refine Run.loads rfl rfl rfl (.at rfl) .imm ag_37_3 (cs3_get (by omega)) rfl ?_
      exact single_nil
    refine' DrawR.op 9 33 9 [(1, none)] rfl rfl (fun rest => ?_) ?_
    rotate_left
    · skip
      refine Run.move rfl rfl rfl (.at rfl) ?_
      exact single_nil
    refine' DrawR.op 10 34 10 [(7, none)] rfl rfl (fun rest => ?_) ?_
    rotate_left
    · skip
      refine Run.move rfl rfl rfl (.at rfl) ?_
      exact single_nil
    refine' DrawR.op 11 35 11 [(33, some 1), (34, some 0)] rfl rfl (fun rest => ?_) ?_
    rotate_left
    · skip
      refine Run.idx_imm (j := k) rfl rfl rfl (.at rfl) (.at rfl) sl_24_3 rfl (show k < n by omega) ?_
      exact single_nil
    refine' DrawR.op 12 36 12 [(35, some 0)] rfl rfl (fun rest => ?_) ?_
    rotate_left
    · skip
      refine Run.loads rfl rfl rfl (.at rfl) .imm ag_37_3 (cs3_get (by omega)) rfl ?_
      exact single_nil
    refine' DrawR.op 13 37 13 [(24, some 12), (28, some 8), (32, some 4), (36, some 0)] rfl rfl (fun rest => ?_) ?_
    rotate_left
    · skip
      refine Run.call rfl rfl rfl (.at rfl) (.cons (.at rfl) (.cons (.at rfl) (.cons (.at rfl) (.cons (.at rfl) .nil)))) (c_l01Det p (l.getD i V3.O) (l.getD j V3.O) (l.getD k V3.O) hp hu hv hw) ?_
      exact single_nil
    refine' DrawR.op 14 38 14 [(37, some 0)] rfl rfl (fun rest => ?_) ?_
    rotate_left
    · skip
      refine Run.int rfl rfl rfl (.at rfl) (.at rfl) rfl ?_
      exact single_nil
    refine DrawR.tail [] rfl (by kernel_rfl) ?_
    refine Run.nil ?_
    refine WP.cond (.at rfl) (fun hc3 => ?_) (fun hc3 => ?_)
    · have h1 : arc1 p l i j k = false := by unfold arc1; rw [hc3]; rfl
      rw [h1, Bool.false_and] at he
      refine WP.seq (WP.region (l := [0]) rfl ?_)
      refine Run.assign rfl rfl rfl (.at rfl) ?_
      refine Run.nil ?_
      exact WP.keep (WP.ret (hR he)) (by repeat (first | exact trivial | refine ⟨rfl, ?_⟩)) (by repeat (first | exact HSub.nil | refine HSub.keep ?_ | refine HSub.dead ?_))
    · have h1 : arc1 p l i j k = true := by unfold arc1; rw [hc3]; rfl
      rw [h1, Bool.true_and] at he
      refine WP.skip ?_
      refine WP.region (l := [0, 1, 2]) rfl ?_
      refine Run.move rfl rfl rfl (.at rfl) ?_
      refine Run.add rfl rfl rfl (.at rfl) (.at rfl) (by omega) ?_
      refine Run.assign rfl rfl rfl (.at rfl) ?_
      refine Run.nil ?_
      exact LP.keep (ih (k + 1) (by omega) he) (by repeat (first | exact trivial | refine ⟨rfl, ?_⟩)) (by repeat (first | exact HSub.nil | refine HSub.keep ?_ | refine HSub.dead ?_))
theorem l_l07Arc1 (hp : IsP p) (hn : n ≤ 4000000) (hl : l.length = n) (hs : ptsOk p l = true) {i : Nat} (hi : i < n)
    (hQ : arc3 p l i = true → Q (.exit 2) ⟨[(0, .int .i64 p), (1, .imm (cs3 l) n), (5, .int .i64 i)], []⟩) (hR : arc3 p l i = false → Q .ret ⟨[(4, .bool false)], []⟩) :
    ∀ (d j : Nat), j + d = i → arc3 p l i = ((List.range i).drop j).all (arc2 p l i) →
      LP C (nav Try.f13.body.get! [1, 0, 1, 0, 0, 1, 0, 0, 1, 0, 0]) Q ⟨[(0, .int .i64 p), (1, .imm (cs3 l) n), (5, .int .i64 i), (6, .int .i64 j)], []⟩ := by
  intro d
  induction d with
  | zero =>
    intro j hd he
    have hk : j = i := by omega
    rw [hk, range_end] at he
    refine LP.round ?_
    refine WP.seq ?_
    refine WP.seq (WP.region (l := [0, 1, 2]) rfl ?_)
    refine Run.move rfl rfl rfl (.at rfl) ?_
    refine Run.move rfl rfl rfl (.at rfl) ?_
    refine Run.int rfl rfl rfl (.at rfl) (.at rfl) rfl ?_
    refine Run.nil ?_
    refine WP.cond_f (.at rfl) (by simp; omega) ?_
    exact WP.keep (WP.exit (hQ he)) (by repeat (first | exact trivial | refine ⟨rfl, ?_⟩)) (by repeat (first | exact HSub.nil | refine HSub.keep ?_ | refine HSub.dead ?_))
  | succ d ih =>
    intro j hd he
    have hj : j < i := by omega
    rw [range_drop hj, List.all_cons] at he
    refine LP.round ?_
    refine WP.seq ?_
    refine WP.seq (WP.region (l := [0, 1, 2]) rfl ?_)
    refine Run.move rfl rfl rfl (.at rfl) ?_
    refine Run.move rfl rfl rfl (.at rfl) ?_
    refine Run.int rfl rfl rfl (.at rfl) (.at rfl) rfl ?_
    refine Run.nil ?_
    refine WP.cond_t (.at rfl) (by simp; omega) ?_
    refine WP.skip ?_
    refine WP.seq ?_
    refine WP.block ?_
    refine WP.seq (WP.region (l := [0]) rfl ?_)
    refine Run.assign rfl rfl rfl (.at rfl) ?_
    refine Run.nil ?_
    refine WP.block ?_
    refine WP.loop (LP.keep (l_l07Arc2 (i := i) (j := j) hp hn hl hs hi hj (fun h => ?_) (fun h => ?_) j 0 (by omega) rfl) (by repeat (first | exact trivial | refine ⟨rfl, ?_⟩)) (by repeat (first | exact HSub.nil | refine HSub.keep ?_ | refine HSub.dead ?_)))
    rotate_left
    · rw [h, Bool.false_and] at he
      exact hR he
    rw [h, Bool.true_and] at he
    refine WP.region (l := [0, 1, 2]) rfl ?_
    refine Run.move rfl rfl rfl (.at rfl) ?_
    refine Run.add rfl rfl rfl (.at rfl) (.at rfl) (by omega) ?_
    refine Run.assign rfl rfl rfl (.at rfl) ?_
    refine Run.nil ?_
    exact LP.keep (ih (j + 1) (by omega) he) (by repeat (first | exact trivial | refine ⟨rfl, ?_⟩)) (by repeat (first | exact HSub.nil | refine HSub.keep ?_ | refine HSub.dead ?_))
theorem l_l07Arc0 (hp : IsP p) (hn : n ≤ 4000000) (hl : l.length = n) (hs : ptsOk p l = true)
    (hQ : arcOk p l = true → Q (.exit 0) ⟨[], []⟩) (hR : arcOk p l = false → Q .ret ⟨[(4, .bool false)], []⟩) :
    ∀ (d i : Nat), i + d = n → arcOk p l = ((List.range n).drop i).all (arc3 p l) →
      LP C (nav Try.f13.body.get! [1, 0, 1, 0, 0]) Q ⟨[(0, .int .i64 p), (1, .imm (cs3 l) n), (5, .int .i64 i)], []⟩ := by
  intro d
  induction d with
  | zero =>
    intro i hd he
    have hk : i = n := by omega
    rw [hk, range_end] at he
    refine LP.round ?_
    refine WP.seq ?_
    refine WP.seq (WP.region (l := [0, 1, 2, 3]) rfl ?_)
    refine Run.move rfl rfl rfl (.at rfl) ?_
    refine Run.move rfl rfl rfl (.at rfl) ?_
    refine Run.len rfl rfl rfl (.at rfl) is_24 rfl ?_
    refine Run.int rfl rfl rfl (.at rfl) (.at rfl) rfl ?_
    refine Run.nil ?_
    refine WP.cond_f (.at rfl) (by simp; omega) ?_
    exact WP.keep (WP.exit (hQ he)) (by repeat (first | exact trivial | refine ⟨rfl, ?_⟩)) (by repeat (first | exact HSub.nil | refine HSub.keep ?_ | refine HSub.dead ?_))
  | succ d ih =>
    intro i hd he
    have hi : i < n := by omega
    rw [range_drop hi, List.all_cons] at he
    refine LP.round ?_
    refine WP.seq ?_
    refine WP.seq (WP.region (l := [0, 1, 2, 3]) rfl ?_)
    refine Run.move rfl rfl rfl (.at rfl) ?_
    refine Run.move rfl rfl rfl (.at rfl) ?_
    refine Run.len rfl rfl rfl (.at rfl) is_24 rfl ?_
    refine Run.int rfl rfl rfl (.at rfl) (.at rfl) rfl ?_
    refine Run.nil ?_
    refine WP.cond_t (.at rfl) (by simp; omega) ?_
    refine WP.skip ?_
    refine WP.seq ?_
    refine WP.block ?_
    refine WP.seq (WP.region (l := [0]) rfl ?_)
    refine Run.assign rfl rfl rfl (.at rfl) ?_
    refine Run.nil ?_
    refine WP.block ?_
    refine WP.loop (LP.keep (l_l07Arc1 (i := i) hp hn hl hs hi (fun h => ?_) (fun h => ?_) i 0 (by omega) rfl) (by repeat (first | exact trivial | refine ⟨rfl, ?_⟩)) (by repeat (first | exact HSub.nil | refine HSub.keep ?_ | refine HSub.dead ?_)))
    rotate_left
    · rw [h, Bool.false_and] at he
      exact hR he
    rw [h, Bool.true_and] at he
    refine WP.region (l := [0, 1, 2]) rfl ?_
    refine Run.move rfl rfl rfl (.at rfl) ?_
    refine Run.add rfl rfl rfl (.at rfl) (.at rfl) (by omega) ?_
    refine Run.assign rfl rfl rfl (.at rfl) ?_
    refine Run.nil ?_
    exact LP.keep (ih (i + 1) (by omega) he) (by repeat (first | exact trivial | refine ⟨rfl, ?_⟩)) (by repeat (first | exact HSub.nil | refine HSub.keep ?_ | refine HSub.dead ?_))
theorem c_l07Arc (p : Int) (l : List V3) (hp : IsP p) (hn : n ≤ 4000000) (hl : l.length = n) (hs : ptsOk p l = true) : Pure Try.prog 13 [.int .i64 p, .imm (cs3 l) n] (.bool (arcOk p l)) := by
  refine Pure.body 0 (n := 39) (fn := Try.f13) (c := Try.f13.body.get!) fn_13 rfl nm_13 rfl rfl fun C => ?_
  refine WP.seq (WP.region (l := [0]) rfl ?_)
  refine Run.assign rfl rfl rfl (.at rfl) ?_
  refine Run.nil ?_
  refine WP.seq ?_
  refine WP.seq (WP.region (l := [0]) rfl ?_)
  refine Run.assign rfl rfl rfl (.at rfl) ?_
  refine Run.nil ?_
  refine WP.block ?_
  refine WP.loop (LP.keep (l_l07Arc0 (l := l) hp hn hl hs (fun h => ?_) (fun h => ?_) n 0 (by omega) (by unfold arcOk; rw [hl]; rfl)) (by repeat (first | exact trivial | refine ⟨rfl, ?_⟩)) (by repeat (first | exact HSub.nil | refine HSub.keep ?_ | refine HSub.dead ?_)))
  rotate_left
  · exact Ends.pure (.tmp rfl .nil) (by rw [h]; rfl)
  refine WP.seq (WP.region (l := [0]) rfl ?_)
  refine Run.assign rfl rfl rfl (.at rfl) ?_
  refine Run.nil ?_
  refine WP.ret ?_
  exact Ends.pure (.tmp rfl .nil) (by rw [h]; rfl)
end
end Go.Ab
