/- The walk of the code's diagonal points. -/
import Derived.Test.YtkffdmmpemonaaaD4
namespace Go.Ab
open Go.Proofs
section
variable {C : Cx Try.prog 65} {Q : Post} {p : Int} {a b c d : V3}
theorem l_implDiag4 {bb : Nat} {cs : List AV} (hcs : cs = cs3 (diag4 p a b c d))
    (hQ : ∀ bb, Q (.exit 1) ⟨[(7, .own 0 bb 3 0 3 3 true)], [[(bb, cs3 (diag4 p a b c d))], [], []]⟩) :
    LP C (nav Try.f7.body.get! [1, 1, 1, 1, 0, 1, 0, 0]) Q ⟨[(0, .int .i64 p), (1, .imm (cs3 [a, b, c, d]) 4), (7, .own 0 bb 3 0 3 3 true), (8, .int .i64 4)], [[(bb, cs)], [], []]⟩ := by
  subst hcs
  refine LP.round ?_
  refine WP.seq ?_
  refine WP.seq (WP.region (l := [0, 1]) rfl ?_)
  refine Run.move rfl rfl rfl (.at rfl) ?_
  refine Run.int rfl rfl rfl (.at rfl) (.at rfl) rfl ?_
  refine Run.nil ?_
  refine WP.cond_f (.at rfl) rfl ?_
  exact WP.keep (WP.exit (hQ bb)) (by repeat (first | exact trivial | refine ⟨rfl, ?_⟩)) (by repeat (first | exact HSub.nil | refine HSub.keep ?_ | refine HSub.dead ?_))
theorem l_implDiag3 {bb : Nat} {cs : List AV} (hp : IsP p) (ha : a.sm) (hb : b.sm) (hc : c.sm) (hd : d.sm) (hcs : cs = cs3 ((diag4 p a b c d).take 2))
    (hQ : ∀ bb, Q (.exit 1) ⟨[(7, .own 0 bb 3 0 3 3 true)], [[(bb, cs3 (diag4 p a b c d))], [], []]⟩) :
    LP C (nav Try.f7.body.get! [1, 1, 1, 1, 0, 1, 0, 0]) Q ⟨[(0, .int .i64 p), (1, .imm (cs3 [a, b, c, d]) 4), (7, .own 0 bb 3 0 2 2 true), (8, .int .i64 3)], [[(bb, cs)], [], []]⟩ := by
  subst hcs
  refine LP.round ?_
  refine WP.seq ?_
  refine WP.seq (WP.region (l := [0, 1]) rfl ?_)
  refine Run.move rfl rfl rfl (.at rfl) ?_
  refine Run.int rfl rfl rfl (.at rfl) (.at rfl) rfl ?_
  refine Run.nil ?_
  refine WP.cond_t (.at rfl) rfl ?_
  refine WP.skip ?_
  refine WP.seq ?_
  refine WP.block ?_
  refine WP.seq (WP.region (l := [0, 1]) rfl ?_)
  refine Run.buildSlice 1 rfl rfl rfl el_42 (by decide) (.cons (.at rfl) rfl (.cons (.at rfl) rfl (.cons (.at rfl) rfl .nil))) rfl rfl (fun b30 => ?_)
  refine Run.assign rfl rfl rfl (.at rfl) ?_
  refine Run.nil ?_
  refine WP.seq (WP.region (l := [0, 1, 2, 3, 4, 5]) rfl ?_)
  refine Run.move rfl rfl rfl (.at rfl) ?_
  refine Run.move rfl rfl rfl (.at rfl) ?_
  refine Run.sub rfl rfl rfl (.at rfl) (.at rfl) (by omega) ?_
  refine Run.move rfl rfl rfl (.at rfl) ?_
  refine Run.acts [1] [1] rfl rfl rfl (.at rfl) (.cons (.at rfl) (.cons (.at rfl) (.cons (.at rfl) .nil))) (LendL.refl _ _) (c_delI 1 b30 3 3 2 false [1, 2, 3] (by decide) rfl (by decide) (by decide) (by decide)) rfl rfl rfl (fun x H h => ?_) (fun x H h => ?_)
  · obtain ⟨rfl, rfl⟩ := h; exact ⟨rfl, by first | rfl | simp [cleanH, cs3_cl] | simp [cleanH, ints_cl] | simp [cleanH, cs3_cl, ints_cl]⟩
  obtain ⟨rfl, rfl⟩ := h
  refine Run.assign rfl rfl rfl (.at rfl) ?_
  refine Run.nil ?_
  refine WP.draw mx_0 ?_
  refine Drawn.move 0 rfl (by kernel_rfl) rfl (.at rfl) ?_
  refine Drawn.calmR ?_
  refine' DrawR.op 1 37 0 [(0, none)] rfl rfl (fun rest => ?_) ?_
  rotate_left
  · skip
    refine Run.move rfl rfl rfl (.at rfl) ?_
    exact single_nil
  refine' DrawR.op 2 38 1 [(0, none)] rfl rfl (fun rest => ?_) ?_
  rotate_left
  · skip
    refine Run.move rfl rfl rfl (.at rfl) ?_
    exact single_nil
  refine' DrawR.op 3 39 2 [(1, none)] rfl rfl (fun rest => ?_) ?_
  rotate_left
  · skip
    refine Run.move rfl rfl rfl (.at rfl) ?_
    exact single_nil
  refine' DrawR.op 4 40 3 [(39, some 0)] rfl rfl (fun rest => ?_) ?_
  rotate_left
  · skip
    refine Run.idx_imm (j := 0) rfl rfl rfl (.at rfl) (.at rfl) sl_24_3 (by rfl) (by decide) ?_
    exact single_nil
  refine' DrawR.op 5 41 4 [(40, some 0)] rfl rfl (fun rest => ?_) ?_
  rotate_left
  · skip
    refine Run.loads rfl rfl rfl (.at rfl) .imm ag_37_3 rfl rfl ?_
    exact single_nil
  refine' DrawR.op 6 42 5 [(1, none)] rfl rfl (fun rest => ?_) ?_
  rotate_left
  · skip
    refine Run.move rfl rfl rfl (.at rfl) ?_
    exact single_nil
  refine' DrawR.op 7 43 6 [(8, none)] rfl rfl (fun rest => ?_) ?_
  rotate_left
  · skip
    refine Run.move rfl rfl rfl (.at rfl) ?_
    exact single_nil
  refine' DrawR.op 8 44 7 [(42, some 1), (43, some 0)] rfl rfl (fun rest => ?_) ?_
  rotate_left
  · skip
    refine Run.idx_imm (j := 3) rfl rfl rfl (.at rfl) (.at rfl) sl_24_3 rfl (by decide) ?_
    exact single_nil
  refine' DrawR.op 9 45 8 [(44, some 0)] rfl rfl (fun rest => ?_) ?_
  rotate_left
  · skip
    refine Run.loads rfl rfl rfl (.at rfl) .imm ag_37_3 (show _ = (d).cs from rfl) rfl ?_
    exact single_nil
  refine' DrawR.op 10 46 9 [(38, some 7), (41, some 4), (45, some 0)] rfl rfl (fun rest => ?_) ?_
  rotate_left
  · skip
    refine Run.call rfl rfl rfl (.at rfl) (.cons (.at rfl) (.cons (.at rfl) (.cons (.at rfl) .nil))) (c_join p a d hp ha hd) ?_
    exact single_nil
  refine' DrawR.op 11 47 10 [(0, none)] rfl rfl (fun rest => ?_) ?_
  rotate_left
  · skip
    refine Run.move rfl rfl rfl (.at rfl) ?_
    exact single_nil
  refine' DrawR.op 12 48 11 [(1, none)] rfl rfl (fun rest => ?_) ?_
  rotate_left
  · skip
    refine Run.move rfl rfl rfl (.at rfl) ?_
    exact single_nil
  refine' DrawR.op 13 49 12 [(9, none)] rfl rfl (fun rest => ?_) ?_
  rotate_left
  · skip
    refine Run.move rfl rfl rfl (.at rfl) ?_
    exact single_nil
  refine' DrawR.op 14 50 13 [(49, some 0)] rfl rfl (fun rest => ?_) ?_
  rotate_left
  · skip
    refine Run.idx (j := 0) rfl rfl rfl (.at rfl) (.at rfl) sl_42_1 (by rfl) (by decide) ?_
    exact single_nil
  refine' DrawR.op 15 51 14 [(50, some 0)] rfl rfl (fun rest => ?_) ?_
  rotate_left
  · skip
    refine Run.load rfl rfl rfl (.at rfl) (place_adr rfl) sc_3 rfl ?_
    exact single_nil
  refine' DrawR.op 16 52 15 [(48, some 3), (51, some 0)] rfl rfl (fun rest => ?_) ?_
  rotate_left
  · skip
    refine Run.idx_imm (j := 1) rfl rfl rfl (.at rfl) (.at rfl) sl_24_3 rfl (by decide) ?_
    exact single_nil
  refine' DrawR.op 17 53 16 [(52, some 0)] rfl rfl (fun rest => ?_) ?_
  rotate_left
  · skip
    refine Run.loads rfl rfl rfl (.at rfl) .imm ag_37_3 (show _ = (b).cs from rfl) rfl ?_
    exact single_nil
  refine' DrawR.op 18 54 17 [(1, none)] rfl rfl (fun rest => ?_) ?_
  rotate_left
  · skip
    refine Run.move rfl rfl rfl (.at rfl) ?_
    exact single_nil
  refine' DrawR.op 19 55 18 [(9, none)] rfl rfl (fun rest => ?_) ?_
  rotate_left
  · skip
    refine Run.move rfl rfl rfl (.at rfl) ?_
    exact single_nil
  refine' DrawR.op 20 56 19 [(55, some 0)] rfl rfl (fun rest => ?_) ?_
  rotate_left
  · skip
    refine Run.idx (j := 1) rfl rfl rfl (.at rfl) (.at rfl) sl_42_1 (by rfl) (by decide) ?_
    exact single_nil
  refine' DrawR.op 21 57 20 [(56, some 0)] rfl rfl (fun rest => ?_) ?_
  rotate_left
  · skip
    refine Run.load rfl rfl rfl (.at rfl) (place_adr rfl) sc_3 rfl ?_
    exact single_nil
  refine' DrawR.op 22 58 21 [(54, some 3), (57, some 0)] rfl rfl (fun rest => ?_) ?_
  rotate_left
  · skip
    refine Run.idx_imm (j := 2) rfl rfl rfl (.at rfl) (.at rfl) sl_24_3 rfl (by decide) ?_
    exact single_nil
  refine' DrawR.op 23 59 22 [(58, some 0)] rfl rfl (fun rest => ?_) ?_
  rotate_left
  · skip
    refine Run.loads rfl rfl rfl (.at rfl) .imm ag_37_3 (show _ = (c).cs from rfl) rfl ?_
    exact single_nil
  refine' DrawR.op 24 60 23 [(47, some 12), (53, some 6), (59, some 0)] rfl rfl (fun rest => ?_) ?_
  rotate_left
  · skip
    refine Run.call rfl rfl rfl (.at rfl) (.cons (.at rfl) (.cons (.at rfl) (.cons (.at rfl) .nil))) (c_join p b c hp hb hc) ?_
    exact single_nil
  refine' DrawR.op 25 61 24 [(37, some 23), (46, some 14), (60, some 0)] rfl rfl (fun rest => ?_) ?_
  rotate_left
  · skip
    refine Run.call rfl rfl rfl (.at rfl) (.cons (.at rfl) (.cons (.at rfl) (.cons (.at rfl) .nil))) (c_meet p (crs p a d) (crs p b c) hp (crs_sm hp _ _) (crs_sm hp _ _)) ?_
    exact single_nil
  refine DrawR.tail [26, 27, 28] rfl (by kernel_rfl) ?_
  refine Run.buildSlice 2 rfl rfl rfl el_24 (by decide) (.cons (.at rfl) rfl .nil) rfl rfl (fun b62 => ?_)
  refine Run.append rfl rfl rfl (.at rfl) rfl el_24 (.at rfl) (.own (At.one rfl) rfl rfl) rfl (by omega) (Nat.le_of_ble_eq_true rfl) (by omega) (by omega) (fun b63 => ?_)
  refine Run.assign rfl rfl rfl (.at rfl) ?_
  refine Run.nil ?_
  refine WP.region (l := [0, 1, 2]) rfl ?_
  refine Run.move rfl rfl rfl (.at rfl) ?_
  refine Run.add rfl rfl rfl (.at rfl) (.at rfl) (by omega) ?_
  refine Run.assign rfl rfl rfl (.at rfl) ?_
  refine Run.nil ?_
  refine LP.keep (l_implDiag4  ?_ hQ) (by repeat (first | exact trivial | refine ⟨rfl, ?_⟩)) (by repeat (first | exact HSub.nil | refine HSub.keep ?_ | refine HSub.dead ?_))
  rfl
theorem l_implDiag2 {bb : Nat} {cs : List AV} (hp : IsP p) (ha : a.sm) (hb : b.sm) (hc : c.sm) (hd : d.sm) (hcs : cs = cs3 ((diag4 p a b c d).take 1))
    (hQ : ∀ bb, Q (.exit 1) ⟨[(7, .own 0 bb 3 0 3 3 true)], [[(bb, cs3 (diag4 p a b c d))], [], []]⟩) :
    LP C (nav Try.f7.body.get! [1, 1, 1, 1, 0, 1, 0, 0]) Q ⟨[(0, .int .i64 p), (1, .imm (cs3 [a, b, c, d]) 4), (7, .own 0 bb 3 0 1 1 true), (8, .int .i64 2)], [[(bb, cs)], [], []]⟩ := by
  subst hcs
  refine LP.round ?_
  refine WP.seq ?_
  refine WP.seq (WP.region (l := [0, 1]) rfl ?_)
  refine Run.move rfl rfl rfl (.at rfl) ?_
  refine Run.int rfl rfl rfl (.at rfl) (.at rfl) rfl ?_
  refine Run.nil ?_
  refine WP.cond_t (.at rfl) rfl ?_
  refine WP.skip ?_
  refine WP.seq ?_
  refine WP.block ?_
  refine WP.seq (WP.region (l := [0, 1]) rfl ?_)
  refine Run.buildSlice 1 rfl rfl rfl el_42 (by decide) (.cons (.at rfl) rfl (.cons (.at rfl) rfl (.cons (.at rfl) rfl .nil))) rfl rfl (fun b30 => ?_)
  refine Run.assign rfl rfl rfl (.at rfl) ?_
  refine Run.nil ?_
  refine WP.seq (WP.region (l := [0, 1, 2, 3, 4, 5]) rfl ?_)
  refine Run.move rfl rfl rfl (.at rfl) ?_
  refine Run.move rfl rfl rfl (.at rfl) ?_
  refine Run.sub rfl rfl rfl (.at rfl) (.at rfl) (by omega) ?_
  refine Run.move rfl rfl rfl (.at rfl) ?_
  refine Run.acts [1] [1] rfl rfl rfl (.at rfl) (.cons (.at rfl) (.cons (.at rfl) (.cons (.at rfl) .nil))) (LendL.refl _ _) (c_delI 1 b30 3 3 1 false [1, 2, 3] (by decide) rfl (by decide) (by decide) (by decide)) rfl rfl rfl (fun x H h => ?_) (fun x H h => ?_)
  · obtain ⟨rfl, rfl⟩ := h; exact ⟨rfl, by first | rfl | simp [cleanH, cs3_cl] | simp [cleanH, ints_cl] | simp [cleanH, cs3_cl, ints_cl]⟩
  obtain ⟨rfl, rfl⟩ := h
  refine Run.assign rfl rfl rfl (.at rfl) ?_
  refine Run.nil ?_
  refine WP.draw mx_0 ?_
  refine Drawn.move 0 rfl (by kernel_rfl) rfl (.at rfl) ?_
  refine Drawn.calmR ?_
  refine' DrawR.op 1 37 0 [(0, none)] rfl rfl (fun rest => ?_) ?_
  rotate_left
  · skip
    refine Run.move rfl rfl rfl (.at rfl) ?_
    exact single_nil
  refine' DrawR.op 2 38 1 [(0, none)] rfl rfl (fun rest => ?_) ?_
  rotate_left
  · skip
    refine Run.move rfl rfl rfl (.at rfl) ?_
    exact single_nil
  refine' DrawR.op 3 39 2 [(1, none)] rfl rfl (fun rest => ?_) ?_
  rotate_left
  · skip
    refine Run.move rfl rfl rfl (.at rfl) ?_
    exact single_nil
  refine' DrawR.op 4 40 3 [(39, some 0)] rfl rfl (fun rest => ?_) ?_
  rotate_left
  · skip
    refine Run.idx_imm (j := 0) rfl rfl rfl (.at rfl) (.at rfl) sl_24_3 (by rfl) (by decide) ?_
    exact single_nil
  refine' DrawR.op 5 41 4 [(40, some 0)] rfl rfl (fun rest => ?_) ?_
  rotate_left
  · skip
    refine Run.loads rfl rfl rfl (.at rfl) .imm ag_37_3 rfl rfl ?_
    exact single_nil
  refine' DrawR.op 6 42 5 [(1, none)] rfl rfl (fun rest => ?_) ?_
  rotate_left
  · skip
    refine Run.move rfl rfl rfl (.at rfl) ?_
    exact single_nil
  refine' DrawR.op 7 43 6 [(8, none)] rfl rfl (fun rest => ?_) ?_
  rotate_left
  · skip
    refine Run.move rfl rfl rfl (.at rfl) ?_
    exact single_nil
  refine' DrawR.op 8 44 7 [(42, some 1), (43, some 0)] rfl rfl (fun rest => ?_) ?_
  rotate_left
  · skip
    refine Run.idx_imm (j := 2) rfl rfl rfl (.at rfl) (.at rfl) sl_24_3 rfl (by decide) ?_
    exact single_nil
  refine' DrawR.op 9 45 8 [(44, some 0)] rfl rfl (fun rest => ?_) ?_
  rotate_left
  · skip
    refine Run.loads rfl rfl rfl (.at rfl) .imm ag_37_3 (show _ = (c).cs from rfl) rfl ?_
    exact single_nil
  refine' DrawR.op 10 46 9 [(38, some 7), (41, some 4), (45, some 0)] rfl rfl (fun rest => ?_) ?_
  rotate_left
  · skip
    refine Run.call rfl rfl rfl (.at rfl) (.cons (.at rfl) (.cons (.at rfl) (.cons (.at rfl) .nil))) (c_join p a c hp ha hc) ?_
    exact single_nil
  refine' DrawR.op 11 47 10 [(0, none)] rfl rfl (fun rest => ?_) ?_
  rotate_left
  · skip
    refine Run.move rfl rfl rfl (.at rfl) ?_
    exact single_nil
  refine' DrawR.op 12 48 11 [(1, none)] rfl rfl (fun rest => ?_) ?_
  rotate_left
  · skip
    refine Run.move rfl rfl rfl (.at rfl) ?_
    exact single_nil
  refine' DrawR.op 13 49 12 [(9, none)] rfl rfl (fun rest => ?_) ?_
  rotate_left
  · skip
    refine Run.move rfl rfl rfl (.at rfl) ?_
    exact single_nil
  refine' DrawR.op 14 50 13 [(49, some 0)] rfl rfl (fun rest => ?_) ?_
  rotate_left
  · skip
    refine Run.idx (j := 0) rfl rfl rfl (.at rfl) (.at rfl) sl_42_1 (by rfl) (by decide) ?_
    exact single_nil
  refine' DrawR.op 15 51 14 [(50, some 0)] rfl rfl (fun rest => ?_) ?_
  rotate_left
  · skip
    refine Run.load rfl rfl rfl (.at rfl) (place_adr rfl) sc_3 rfl ?_
    exact single_nil
  refine' DrawR.op 16 52 15 [(48, some 3), (51, some 0)] rfl rfl (fun rest => ?_) ?_
  rotate_left
  · skip
    refine Run.idx_imm (j := 1) rfl rfl rfl (.at rfl) (.at rfl) sl_24_3 rfl (by decide) ?_
    exact single_nil
  refine' DrawR.op 17 53 16 [(52, some 0)] rfl rfl (fun rest => ?_) ?_
  rotate_left
  · skip
    refine Run.loads rfl rfl rfl (.at rfl) .imm ag_37_3 (show _ = (b).cs from rfl) rfl ?_
    exact single_nil
  refine' DrawR.op 18 54 17 [(1, none)] rfl rfl (fun rest => ?_) ?_
  rotate_left
  · skip
    refine Run.move rfl rfl rfl (.at rfl) ?_
    exact single_nil
  refine' DrawR.op 19 55 18 [(9, none)] rfl rfl (fun rest => ?_) ?_
  rotate_left
  · skip
    refine Run.move rfl rfl rfl (.at rfl) ?_
    exact single_nil
  refine' DrawR.op 20 56 19 [(55, some 0)] rfl rfl (fun rest => ?_) ?_
  rotate_left
  · skip
    refine Run.idx (j := 1) rfl rfl rfl (.at rfl) (.at rfl) sl_42_1 (by rfl) (by decide) ?_
    exact single_nil
  refine' DrawR.op 21 57 20 [(56, some 0)] rfl rfl (fun rest => ?_) ?_
  rotate_left
  · skip
    refine Run.load rfl rfl rfl (.at rfl) (place_adr rfl) sc_3 rfl ?_
    exact single_nil
  refine' DrawR.op 22 58 21 [(54, some 3), (57, some 0)] rfl rfl (fun rest => ?_) ?_
  rotate_left
  · skip
    refine Run.idx_imm (j := 3) rfl rfl rfl (.at rfl) (.at rfl) sl_24_3 rfl (by decide) ?_
    exact single_nil
  refine' DrawR.op 23 59 22 [(58, some 0)] rfl rfl (fun rest => ?_) ?_
  rotate_left
  · skip
    refine Run.loads rfl rfl rfl (.at rfl) .imm ag_37_3 (show _ = (d).cs from rfl) rfl ?_
    exact single_nil
  refine' DrawR.op 24 60 23 [(47, some 12), (53, some 6), (59, some 0)] rfl rfl (fun rest => ?_) ?_
  rotate_left
  · skip
    refine Run.call rfl rfl rfl (.at rfl) (.cons (.at rfl) (.cons (.at rfl) (.cons (.at rfl) .nil))) (c_join p b d hp hb hd) ?_
    exact single_nil
  refine' DrawR.op 25 61 24 [(37, some 23), (46, some 14), (60, some 0)] rfl rfl (fun rest => ?_) ?_
  rotate_left
  · skip
    refine Run.call rfl rfl rfl (.at rfl) (.cons (.at rfl) (.cons (.at rfl) (.cons (.at rfl) .nil))) (c_meet p (crs p a c) (crs p b d) hp (crs_sm hp _ _) (crs_sm hp _ _)) ?_
    exact single_nil
  refine DrawR.tail [26, 27, 28] rfl (by kernel_rfl) ?_
  refine Run.buildSlice 2 rfl rfl rfl el_24 (by decide) (.cons (.at rfl) rfl .nil) rfl rfl (fun b62 => ?_)
  refine Run.append rfl rfl rfl (.at rfl) rfl el_24 (.at rfl) (.own (At.one rfl) rfl rfl) rfl (by omega) (Nat.le_of_ble_eq_true rfl) (by omega) (by omega) (fun b63 => ?_)
  refine Run.assign rfl rfl rfl (.at rfl) ?_
  refine Run.nil ?_
  refine WP.region (l := [0, 1, 2]) rfl ?_
  refine Run.move rfl rfl rfl (.at rfl) ?_
  refine Run.add rfl rfl rfl (.at rfl) (.at rfl) (by omega) ?_
  refine Run.assign rfl rfl rfl (.at rfl) ?_
  refine Run.nil ?_
  refine LP.keep (l_implDiag3 hp ha hb hc hd ?_ hQ) (by repeat (first | exact trivial | refine ⟨rfl, ?_⟩)) (by repeat (first | exact HSub.nil | refine HSub.keep ?_ | refine HSub.dead ?_))
  rfl
theorem l_implDiag1 {bb : Nat} {cs : List AV} (hp : IsP p) (ha : a.sm) (hb : b.sm) (hc : c.sm) (hd : d.sm) (hcs : cs = cs3 ((diag4 p a b c d).take 0))
    (hQ : ∀ bb, Q (.exit 1) ⟨[(7, .own 0 bb 3 0 3 3 true)], [[(bb, cs3 (diag4 p a b c d))], [], []]⟩) :
    LP C (nav Try.f7.body.get! [1, 1, 1, 1, 0, 1, 0, 0]) Q ⟨[(0, .int .i64 p), (1, .imm (cs3 [a, b, c, d]) 4), (7, .own 0 bb 3 0 0 0 true), (8, .int .i64 1)], [[(bb, cs)], [], []]⟩ := by
  subst hcs
  refine LP.round ?_
  refine WP.seq ?_
  refine WP.seq (WP.region (l := [0, 1]) rfl ?_)
  refine Run.move rfl rfl rfl (.at rfl) ?_
  refine Run.int rfl rfl rfl (.at rfl) (.at rfl) rfl ?_
  refine Run.nil ?_
  refine WP.cond_t (.at rfl) rfl ?_
  refine WP.skip ?_
  refine WP.seq ?_
  refine WP.block ?_
  refine WP.seq (WP.region (l := [0, 1]) rfl ?_)
  refine Run.buildSlice 1 rfl rfl rfl el_42 (by decide) (.cons (.at rfl) rfl (.cons (.at rfl) rfl (.cons (.at rfl) rfl .nil))) rfl rfl (fun b30 => ?_)
  refine Run.assign rfl rfl rfl (.at rfl) ?_
  refine Run.nil ?_
  refine WP.seq (WP.region (l := [0, 1, 2, 3, 4, 5]) rfl ?_)
  refine Run.move rfl rfl rfl (.at rfl) ?_
  refine Run.move rfl rfl rfl (.at rfl) ?_
  refine Run.sub rfl rfl rfl (.at rfl) (.at rfl) (by omega) ?_
  refine Run.move rfl rfl rfl (.at rfl) ?_
  refine Run.acts [1] [1] rfl rfl rfl (.at rfl) (.cons (.at rfl) (.cons (.at rfl) (.cons (.at rfl) .nil))) (LendL.refl _ _) (c_delI 1 b30 3 3 0 false [1, 2, 3] (by decide) rfl (by decide) (by decide) (by decide)) rfl rfl rfl (fun x H h => ?_) (fun x H h => ?_)
  · obtain ⟨rfl, rfl⟩ := h; exact ⟨rfl, by first | rfl | simp [cleanH, cs3_cl] | simp [cleanH, ints_cl] | simp [cleanH, cs3_cl, ints_cl]⟩
  obtain ⟨rfl, rfl⟩ := h
  refine Run.assign rfl rfl rfl (.at rfl) ?_
  refine Run.nil ?_
  refine WP.draw mx_0 ?_
  refine Drawn.move 0 rfl (by kernel_rfl) rfl (.at rfl) ?_
  refine Drawn.calmR ?_
  refine' DrawR.op 1 37 0 [(0, none)] rfl rfl (fun rest => ?_) ?_
  rotate_left
  · skip
    refine Run.move rfl rfl rfl (.at rfl) ?_
    exact single_nil
  refine' DrawR.op 2 38 1 [(0, none)] rfl rfl (fun rest => ?_) ?_
  rotate_left
  · skip
    refine Run.move rfl rfl rfl (.at rfl) ?_
    exact single_nil
  refine' DrawR.op 3 39 2 [(1, none)] rfl rfl (fun rest => ?_) ?_
  rotate_left
  · skip
    refine Run.move rfl rfl rfl (.at rfl) ?_
    exact single_nil
  refine' DrawR.op 4 40 3 [(39, some 0)] rfl rfl (fun rest => ?_) ?_
  rotate_left
  · skip
    refine Run.idx_imm (j := 0) rfl rfl rfl (.at rfl) (.at rfl) sl_24_3 (by rfl) (by decide) ?_
    exact single_nil
  refine' DrawR.op 5 41 4 [(40, some 0)] rfl rfl (fun rest => ?_) ?_
  rotate_left
  · skip
    refine Run.loads rfl rfl rfl (.at rfl) .imm ag_37_3 rfl rfl ?_
    exact single_nil
  refine' DrawR.op 6 42 5 [(1, none)] rfl rfl (fun rest => ?_) ?_
  rotate_left
  · skip
    refine Run.move rfl rfl rfl (.at rfl) ?_
    exact single_nil
  refine' DrawR.op 7 43 6 [(8, none)] rfl rfl (fun rest => ?_) ?_
  rotate_left
  · skip
    refine Run.move rfl rfl rfl (.at rfl) ?_
    exact single_nil
  refine' DrawR.op 8 44 7 [(42, some 1), (43, some 0)] rfl rfl (fun rest => ?_) ?_
  rotate_left
  · skip
    refine Run.idx_imm (j := 1) rfl rfl rfl (.at rfl) (.at rfl) sl_24_3 rfl (by decide) ?_
    exact single_nil
  refine' DrawR.op 9 45 8 [(44, some 0)] rfl rfl (fun rest => ?_) ?_
  rotate_left
  · skip
    refine Run.loads rfl rfl rfl (.at rfl) .imm ag_37_3 (show _ = (b).cs from rfl) rfl ?_
    exact single_nil
  refine' DrawR.op 10 46 9 [(38, some 7), (41, some 4), (45, some 0)] rfl rfl (fun rest => ?_) ?_
  rotate_left
  · skip
    refine Run.call rfl rfl rfl (.at rfl) (.cons (.at rfl) (.cons (.at rfl) (.cons (.at rfl) .nil))) (c_join p a b hp ha hb) ?_
    exact single_nil
  refine' DrawR.op 11 47 10 [(0, none)] rfl rfl (fun rest => ?_) ?_
  rotate_left
  · skip
    refine Run.move rfl rfl rfl (.at rfl) ?_
    exact single_nil
  refine' DrawR.op 12 48 11 [(1, none)] rfl rfl (fun rest => ?_) ?_
  rotate_left
  · skip
    refine Run.move rfl rfl rfl (.at rfl) ?_
    exact single_nil
  refine' DrawR.op 13 49 12 [(9, none)] rfl rfl (fun rest => ?_) ?_
  rotate_left
  · skip
    refine Run.move rfl rfl rfl (.at rfl) ?_
    exact single_nil
  refine' DrawR.op 14 50 13 [(49, some 0)] rfl rfl (fun rest => ?_) ?_
  rotate_left
  · skip
    refine Run.idx (j := 0) rfl rfl rfl (.at rfl) (.at rfl) sl_42_1 (by rfl) (by decide) ?_
    exact single_nil
  refine' DrawR.op 15 51 14 [(50, some 0)] rfl rfl (fun rest => ?_) ?_
  rotate_left
  · skip
    refine Run.load rfl rfl rfl (.at rfl) (place_adr rfl) sc_3 rfl ?_
    exact single_nil
  refine' DrawR.op 16 52 15 [(48, some 3), (51, some 0)] rfl rfl (fun rest => ?_) ?_
  rotate_left
  · skip
    refine Run.idx_imm (j := 2) rfl rfl rfl (.at rfl) (.at rfl) sl_24_3 rfl (by decide) ?_
    exact single_nil
  refine' DrawR.op 17 53 16 [(52, some 0)] rfl rfl (fun rest => ?_) ?_
  rotate_left
  · skip
    refine Run.loads rfl rfl rfl (.at rfl) .imm ag_37_3 (show _ = (c).cs from rfl) rfl ?_
    exact single_nil
  refine' DrawR.op 18 54 17 [(1, none)] rfl rfl (fun rest => ?_) ?_
  rotate_left
  · skip
    refine Run.move rfl rfl rfl (.at rfl) ?_
    exact single_nil
  refine' DrawR.op 19 55 18 [(9, none)] rfl rfl (fun rest => ?_) ?_
  rotate_left
  · skip
    refine Run.move rfl rfl rfl (.at rfl) ?_
    exact single_nil
  refine' DrawR.op 20 56 19 [(55, some 0)] rfl rfl (fun rest => ?_) ?_
  rotate_left
  · skip
    refine Run.idx (j := 1) rfl rfl rfl (.at rfl) (.at rfl) sl_42_1 (by rfl) (by decide) ?_
    exact single_nil
  refine' DrawR.op 21 57 20 [(56, some 0)] rfl rfl (fun rest => ?_) ?_
  rotate_left
  · skip
    refine Run.load rfl rfl rfl (.at rfl) (place_adr rfl) sc_3 rfl ?_
    exact single_nil
  refine' DrawR.op 22 58 21 [(54, some 3), (57, some 0)] rfl rfl (fun rest => ?_) ?_
  rotate_left
  · skip
    refine Run.idx_imm (j := 3) rfl rfl rfl (.at rfl) (.at rfl) sl_24_3 rfl (by decide) ?_
    exact single_nil
  refine' DrawR.op 23 59 22 [(58, some 0)] rfl rfl (fun rest => ?_) ?_
  rotate_left
  · skip
    refine Run.loads rfl rfl rfl (.at rfl) .imm ag_37_3 (show _ = (d).cs from rfl) rfl ?_
    exact single_nil
  refine' DrawR.op 24 60 23 [(47, some 12), (53, some 6), (59, some 0)] rfl rfl (fun rest => ?_) ?_
  rotate_left
  · skip
    refine Run.call rfl rfl rfl (.at rfl) (.cons (.at rfl) (.cons (.at rfl) (.cons (.at rfl) .nil))) (c_join p c d hp hc hd) ?_
    exact single_nil
  refine' DrawR.op 25 61 24 [(37, some 23), (46, some 14), (60, some 0)] rfl rfl (fun rest => ?_) ?_
  rotate_left
  · skip
    refine Run.call rfl rfl rfl (.at rfl) (.cons (.at rfl) (.cons (.at rfl) (.cons (.at rfl) .nil))) (c_meet p (crs p a b) (crs p c d) hp (crs_sm hp _ _) (crs_sm hp _ _)) ?_
    exact single_nil
  refine DrawR.tail [26, 27, 28] rfl (by kernel_rfl) ?_
  refine Run.buildSlice 2 rfl rfl rfl el_24 (by decide) (.cons (.at rfl) rfl .nil) rfl rfl (fun b62 => ?_)
  refine Run.append rfl rfl rfl (.at rfl) rfl el_24 (.at rfl) (.own (At.one rfl) rfl rfl) rfl (by omega) (Nat.le_of_ble_eq_true rfl) (by omega) (by omega) (fun b63 => ?_)
  refine Run.assign rfl rfl rfl (.at rfl) ?_
  refine Run.nil ?_
  refine WP.region (l := [0, 1, 2]) rfl ?_
  refine Run.move rfl rfl rfl (.at rfl) ?_
  refine Run.add rfl rfl rfl (.at rfl) (.at rfl) (by omega) ?_
  refine Run.assign rfl rfl rfl (.at rfl) ?_
  refine Run.nil ?_
  refine LP.keep (l_implDiag2 hp ha hb hc hd ?_ hQ) (by repeat (first | exact trivial | refine ⟨rfl, ?_⟩)) (by repeat (first | exact HSub.nil | refine HSub.keep ?_ | refine HSub.dead ?_))
  rfl
theorem c_implDiagNo (p : Int) (l : List V3) {n : Nat} (hn : n ≤ 2000000) (hl : l.length = n) (h : diagErr p l ≠ 0) : Pure Try.prog 7 [.int .i64 p, .imm (cs3 l) n] (.tup [.nilsl, .int .i64 (diagErr p l)]) := by
  unfold diagErr at h
  refine Pure.body 3 (n := 65) (fn := Try.f7) (c := Try.f7.body.get!) fn_7 rfl nm_7 rfl rfl fun C => ?_
  refine WP.seq (WP.region (l := [0, 1]) rfl ?_)
  refine Run.assign rfl rfl rfl (.at rfl) ?_
  refine Run.assign rfl rfl rfl (.at rfl) ?_
  refine Run.nil ?_
  refine WP.seq ?_
  refine WP.seq (WP.region (l := [0, 1, 2, 3]) rfl ?_)
  refine Run.move rfl rfl rfl (.at rfl) ?_
  refine Run.move rfl rfl rfl (.at rfl) ?_
  refine Run.call rfl rfl rfl (.at rfl) (.cons (.at rfl) (.cons (.at rfl) .nil)) (c_pointsCode p l hn hl) ?_
  refine Run.assign rfl rfl rfl (.at rfl) ?_
  refine Run.nil ?_
  refine WP.seq (WP.region (l := [0, 1]) rfl ?_)
  refine Run.move rfl rfl rfl (.at rfl) ?_
  refine Run.int rfl rfl rfl (.at rfl) (.at rfl) rfl ?_
  refine Run.nil ?_
  refine WP.cond (.at rfl) (fun hc0 => ?_) (fun hc0 => ?_)
  · have h0 : codeOf p l ≠ 0 := by simpa using hc0
    refine WP.seq (WP.region (l := [0, 1, 2]) rfl ?_)
    refine Run.move rfl rfl rfl (.at rfl) ?_
    refine Run.assign rfl rfl rfl (.at rfl) ?_
    refine Run.assign rfl rfl rfl (.at rfl) ?_
    refine Run.nil ?_
    refine WP.ret ?_
    exact Ends.pure (.tmp rfl (.tmp rfl .nil)) (by unfold diagErr; rw [if_neg h0]; rfl)
  · have h0 : codeOf p l = 0 := by simpa using hc0
    obtain ⟨hp, hok⟩ := codeOf_ok h0
    refine WP.skip ?_
    refine WP.seq ?_
    refine WP.block ?_
    refine WP.seq (WP.region (l := [0, 1, 2, 3]) rfl ?_)
    refine Run.move rfl rfl rfl (.at rfl) ?_
    refine Run.len rfl rfl rfl (.at rfl) is_24 rfl ?_
    refine Run.int rfl rfl rfl (.at rfl) (.at rfl) rfl ?_
    refine Run.assign rfl rfl rfl (.at rfl) ?_
    refine Run.nil ?_
    refine WP.cond (.at rfl) (fun hc1 => ?_) (fun hc1 => ?_)
    · have h1 : l.length ≠ 4 := by simp at hc1; omega
      refine WP.seq (WP.region (l := [0, 1]) rfl ?_)
      refine Run.assign rfl rfl rfl (.at rfl) ?_
      refine Run.assign rfl rfl rfl (.at rfl) ?_
      refine Run.nil ?_
      refine WP.ret ?_
      exact Ends.pure (.tmp rfl (.tmp rfl .nil)) (by unfold diagErr; rw [if_pos h0, if_neg h1]; rfl)
    · have h1 : l.length = 4 := by simp at hc1; omega
      obtain ⟨a, b, c, d, rfl⟩ : ∃ a b c d, l = [a, b, c, d] := by
        match l, h1 with
        | [a, b, c, d], _ => exact ⟨a, b, c, d, rfl⟩
      obtain rfl : n = 4 := by rw [← hl]; rfl
      have hv := fun k => ptsOk_sm hp hok k
      refine WP.seq (WP.region (l := [0, 1, 2, 3, 4]) rfl ?_)
      refine Run.move rfl rfl rfl (.at rfl) ?_
      refine Run.move rfl rfl rfl (.at rfl) ?_
      refine Run.call rfl rfl rfl (.at rfl) (.cons (.at rfl) (.cons (.at rfl) .nil)) (c_isFrame p a b c d hp (hv 0) (hv 1) (hv 2) (hv 3)) ?_
      refine Run.not rfl rfl rfl (.at rfl) ?_
      refine Run.assign rfl rfl rfl (.at rfl) ?_
      refine Run.nil ?_
      refine WP.cond_t (.at rfl) (by rw [if_pos h0, if_pos h1, frame_arc] at h; cases ha : frame4 p a b c d with | true => rw [ha] at h; simp at h | false => rfl) ?_
      refine WP.seq (WP.region (l := [0, 1]) rfl ?_)
      refine Run.assign rfl rfl rfl (.at rfl) ?_
      refine Run.assign rfl rfl rfl (.at rfl) ?_
      refine Run.nil ?_
      refine WP.ret ?_
      exact Ends.pure (.tmp rfl (.tmp rfl .nil)) (by unfold diagErr; rw [if_pos h0, if_pos h1, frame_arc]; cases ha : frame4 p a b c d with | true => rw [if_pos h0, if_pos h1, frame_arc, ha] at h; simp at h | false => rfl)
theorem c_implDiag (id : Nat) (p : Int) (a b c d : V3) (h : diagErr p [a, b, c, d] = 0) :
    Acts Try.prog 7 [.int .i64 p, .imm (cs3 [a, b, c, d]) 4] [] (fun x H => ∃ bb, x = .tup [.own id bb 3 0 3 3 true, .int .i64 0] ∧ H = [[(bb, cs3 (diag4 p a b c d))]]) := by
  unfold diagErr at h
  have h0 : codeOf p [a, b, c, d] = 0 := by
    cases Decidable.em (codeOf p [a, b, c, d] = 0) with
    | inl h0 => exact h0
    | inr h0 => rw [if_neg h0] at h; exact h
  rw [if_pos h0, if_pos (by rfl), frame_arc] at h
  have harc : frame4 p a b c d = true := by
    cases ha : frame4 p a b c d with
    | true => rfl
    | false => rw [ha] at h; simp at h
  obtain ⟨hp, hok⟩ := codeOf_ok h0
  have ha : a.sm := ptsOk_sm hp hok 0
  have hb : b.sm := ptsOk_sm hp hok 1
  have hc : c.sm := ptsOk_sm hp hok 2
  have hd : d.sm := ptsOk_sm hp hok 3
  refine Acts.body 3 (n := 65) (fn := Try.f7) (c := Try.f7.body.get!) fn_7 rfl nm_7 rfl rfl fun C => ?_
  refine WP.seq (WP.region (l := [0, 1]) rfl ?_)
  refine Run.assign rfl rfl rfl (.at rfl) ?_
  refine Run.assign rfl rfl rfl (.at rfl) ?_
  refine Run.nil ?_
  refine WP.seq ?_
  refine WP.seq (WP.region (l := [0, 1, 2, 3]) rfl ?_)
  refine Run.move rfl rfl rfl (.at rfl) ?_
  refine Run.move rfl rfl rfl (.at rfl) ?_
  refine Run.call rfl rfl rfl (.at rfl) (.cons (.at rfl) (.cons (.at rfl) .nil)) (c_pointsCode p [a, b, c, d] (by decide) rfl) ?_
  refine Run.assign rfl rfl rfl (.at rfl) ?_
  refine Run.nil ?_
  refine WP.seq (WP.region (l := [0, 1]) rfl ?_)
  refine Run.move rfl rfl rfl (.at rfl) ?_
  refine Run.int rfl rfl rfl (.at rfl) (.at rfl) rfl ?_
  refine Run.nil ?_
  refine WP.cond_f (.at rfl) (by rw [h0]; rfl) ?_
  refine WP.skip ?_
  refine WP.seq ?_
  refine WP.block ?_
  refine WP.seq (WP.region (l := [0, 1, 2, 3]) rfl ?_)
  refine Run.move rfl rfl rfl (.at rfl) ?_
  refine Run.len rfl rfl rfl (.at rfl) is_24 rfl ?_
  refine Run.int rfl rfl rfl (.at rfl) (.at rfl) rfl ?_
  refine Run.assign rfl rfl rfl (.at rfl) ?_
  refine Run.nil ?_
  refine WP.cond_f (.at rfl) rfl ?_
  refine WP.seq (WP.region (l := [0, 1, 2, 3, 4]) rfl ?_)
  refine Run.move rfl rfl rfl (.at rfl) ?_
  refine Run.move rfl rfl rfl (.at rfl) ?_
  refine Run.call rfl rfl rfl (.at rfl) (.cons (.at rfl) (.cons (.at rfl) .nil)) (c_isFrame p a b c d hp ha hb hc hd) ?_
  refine Run.not rfl rfl rfl (.at rfl) ?_
  refine Run.assign rfl rfl rfl (.at rfl) ?_
  refine Run.nil ?_
  refine WP.cond_f (.at rfl) (by rw [harc]; rfl) ?_
  refine WP.skip ?_
  refine WP.seq (WP.region (l := [0, 1]) rfl ?_)
  refine Run.buildSlice 0 rfl rfl rfl el_24 (by decide) .nil rfl rfl (fun b25 => ?_)
  refine Run.assign rfl rfl rfl (.at rfl) ?_
  refine Run.nil ?_
  refine WP.seq ?_
  refine WP.seq (WP.region (l := [0]) rfl ?_)
  refine Run.assign rfl rfl rfl (.at rfl) ?_
  refine Run.nil ?_
  refine WP.block ?_
  refine WP.weak 7 rfl (fun _ _ _ h => own_open (id' := 0) (Nat.le_refl _) h) ?_
  refine WP.loop (LP.keep (l_implDiag1 hp ha hb hc hd rfl (fun bb => ?_)) (by repeat (first | exact trivial | refine ⟨rfl, ?_⟩)) (by repeat (first | exact HSub.nil | refine HSub.keep ?_ | refine HSub.dead ?_)))
  refine WP.seq (WP.region (l := [0, 1, 2]) rfl ?_)
  refine Run.move rfl rfl rfl (.at rfl) ?_
  refine Run.assign rfl rfl rfl (.at rfl) ?_
  refine Run.weak 4 rfl (fun _ _ _ h => own_name id h) ?_
  refine Run.assign rfl rfl rfl (.at rfl) ?_
  refine Run.nil ?_
  refine WP.ret ?_
  exact ⟨_, [[(bb, cs3 (diag4 p a b c d))]], (.tmp rfl (.tmp rfl .nil)), Moved.pick (is := [0]) rfl, bb, rfl, rfl⟩
end
end Go.Ab
