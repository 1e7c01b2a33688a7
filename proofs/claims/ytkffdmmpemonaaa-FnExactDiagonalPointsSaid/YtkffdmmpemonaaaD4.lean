/- The walks of the plain law's diagonal points and the code's. -/
import Derived.Test.YtkffdmmpemonaaaP9
import Derived.Test.YtkffdmmpemonaaaD3
namespace Go.Ab
open Go.Proofs

/-- The diagonal points of four points. -/
def diag4 (p : Int) (a b c d : V3) : List V3 := [crs p (crs p a b) (crs p c d), crs p (crs p a c) (crs p b d), crs p (crs p a d) (crs p b c)]
theorem frame_arc (p : Int) (a b c d : V3) : arcOk p [a, b, c, d] = frame4 p a b c d := by
  have e : ∀ u v w : V3, (det u v w % p == 0) = (det w v u % p == 0) := by
    intro u v w
    rw [det_rev, Bool.eq_iff_iff, beq_iff_eq, beq_iff_eq, ← Int.dvd_iff_emod_eq_zero, ← Int.dvd_iff_emod_eq_zero, Int.dvd_neg]
  have h : arcOk p [a, b, c, d] = (!(det c b a % p == 0) && (!(det d b a % p == 0) && (!(det d c a % p == 0) && !(det d c b % p == 0)))) := by
    have r4 : List.range ([a, b, c, d] : List V3).length = [0, 1, 2, 3] := rfl
    have r3 : List.range 3 = [0, 1, 2] := rfl
    have r2 : List.range 2 = [0, 1] := rfl
    have r1 : List.range 1 = [0] := rfl
    have r0 : List.range 0 = [] := rfl
    simp only [arcOk, r4, List.all_cons, List.all_nil, arc3, r3, r2, r1, r0, arc2, arc1, Bool.and_true, Bool.true_and]
    simp only [List.getD_cons_zero, List.getD_cons_succ]
  rw [h, e c b a, e d b a, e d c a, e d c b]
  unfold frame4
  cases (det a b c % p == 0) <;> cases (det a b d % p == 0) <;> cases (det a c d % p == 0) <;> cases (det b c d % p == 0) <;> rfl
section
variable {C : Cx Try.prog 79} {Q : Post} {p : Int} {a b c d : V3}
theorem l_specDiag4 {bb : Nat} {cs : List AV} (hcs : cs = cs3 (diag4 p a b c d))
    (hQ : ∀ bb, Q (.exit 0) ⟨[(7, .own 0 bb 3 0 3 3 true)], [[(bb, cs3 (diag4 p a b c d))], [], [], [], []]⟩) :
    LP C (nav Try.f5.body.get! [1, 1, 1, 1, 1, 0, 1, 0, 0]) Q ⟨[(0, .int .i64 p), (1, .imm (cs3 [a, b, c, d]) 4), (7, .own 0 bb 3 0 3 3 true), (8, .int .i64 4)], [[(bb, cs)], [], [], [], []]⟩ := by
  subst hcs
  refine LP.round ?_
  refine WP.seq ?_
  refine WP.seq (WP.region (l := [0, 1]) rfl ?_)
  refine Run.move rfl rfl rfl (.at rfl) ?_
  refine Run.int rfl rfl rfl (.at rfl) (.at rfl) rfl ?_
  refine Run.nil ?_
  refine WP.cond_f (.at rfl) rfl ?_
  exact WP.keep (WP.exit (hQ bb)) (by repeat (first | exact trivial | refine ⟨rfl, ?_⟩)) (by repeat (first | exact HSub.nil | refine HSub.keep ?_ | refine HSub.dead ?_))
theorem l_specDiag3 {bb : Nat} {cs : List AV} (hp : IsP p) (ha : a.sm) (hb : b.sm) (hc : c.sm) (hd : d.sm) (hcs : cs = cs3 ((diag4 p a b c d).take 2))
    (hQ : ∀ bb, Q (.exit 0) ⟨[(7, .own 0 bb 3 0 3 3 true)], [[(bb, cs3 (diag4 p a b c d))], [], [], [], []]⟩) :
    LP C (nav Try.f5.body.get! [1, 1, 1, 1, 1, 0, 1, 0, 0]) Q ⟨[(0, .int .i64 p), (1, .imm (cs3 [a, b, c, d]) 4), (7, .own 0 bb 3 0 2 2 true), (8, .int .i64 3)], [[(bb, cs)], [], [], [], []]⟩ := by
  have hs := x_swap p hp b d
  subst hcs
  refine LP.round ?_
  refine WP.seq ?_
  refine WP.seq (WP.region (l := [0, 1]) rfl ?_)
  refine Run.move rfl rfl rfl (.at rfl) ?_
  refine Run.int rfl rfl rfl (.at rfl) (.at rfl) rfl ?_
  refine Run.nil ?_
  refine WP.cond_t (.at rfl) rfl ?_
  refine WP.skip ?_
  refine WP.seq ?_
  refine WP.block ?_
  refine WP.seq (WP.region (l := [0, 1, 2, 3, 4, 5, 6, 7, 8]) rfl ?_)
  refine Run.move rfl rfl rfl (.at rfl) ?_
  refine Run.rem rfl rfl rfl (.at rfl) (.at rfl) (by omega) (by omega) ?_
  refine Run.add rfl rfl rfl (.at rfl) (.at rfl) (by omega) ?_
  refine Run.move rfl rfl rfl (.at rfl) ?_
  refine Run.add rfl rfl rfl (.at rfl) (.at rfl) (by omega) ?_
  refine Run.rem rfl rfl rfl (.at rfl) (.at rfl) (by omega) (by omega) ?_
  refine Run.add rfl rfl rfl (.at rfl) (.at rfl) (by omega) ?_
  refine Run.assign rfl rfl rfl (.at rfl) ?_
  refine Run.assign rfl rfl rfl (.at rfl) ?_
  refine Run.nil ?_
  refine WP.seq (WP.draw mx_0 ?_)
  refine' Drawn.calmE [allocE 12 11 1 13 [.int .i64 0, .int .i64 0, .int .i64 0]] ?_
  rotate_left 1
  refine' DrawE.op 0 43 0 [(0, none)] rfl rfl rfl rfl ?_ ?_
  rotate_left
  · intro le rest
    refine Run.move rfl rfl rfl (.at rfl) ?_
    exact single_nil
  refine' DrawE.op 1 44 1 [(1, none)] rfl rfl rfl rfl ?_ ?_
  rotate_left
  · intro le rest
    refine Run.move rfl rfl rfl (.at rfl) ?_
    exact single_nil
  refine' DrawE.op 2 45 2 [(44, some 0)] rfl rfl rfl rfl ?_ ?_
  rotate_left
  · intro le rest
    refine Run.idx_imm (j := 0) rfl rfl rfl (.at rfl) (.at rfl) sl_24_3 (by rfl) (by decide) ?_
    exact single_nil
  refine' DrawE.op 3 46 3 [(45, some 0)] rfl rfl rfl rfl ?_ ?_
  rotate_left
  · intro le rest
    refine Run.loads rfl rfl rfl (.at rfl) .imm ag_37_3 rfl rfl ?_
    exact single_nil
  refine' DrawE.op 4 47 4 [(1, none)] rfl rfl rfl rfl ?_ ?_
  rotate_left
  · intro le rest
    refine Run.move rfl rfl rfl (.at rfl) ?_
    exact single_nil
  refine' DrawE.op 5 48 5 [(8, none)] rfl rfl rfl rfl ?_ ?_
  rotate_left
  · intro le rest
    refine Run.move rfl rfl rfl (.at rfl) ?_
    exact single_nil
  refine' DrawE.op 6 49 6 [(47, some 1), (48, some 0)] rfl rfl rfl rfl ?_ ?_
  rotate_left
  · intro le rest
    refine Run.idx_imm rfl rfl rfl (.at rfl) (.at rfl) sl_24_3 rfl (by decide) ?_
    exact single_nil
  refine' DrawE.op 7 50 7 [(49, some 0)] rfl rfl rfl rfl ?_ ?_
  rotate_left
  · intro le rest
    refine Run.loads rfl rfl rfl (.at rfl) .imm ag_37_3 (show _ = (d).cs from rfl) rfl ?_
    exact single_nil
  refine' DrawE.op 8 51 8 [(43, some 7), (46, some 4), (50, some 0)] rfl rfl rfl rfl ?_ ?_
  rotate_left
  · intro le rest
    refine Run.call rfl rfl rfl (.at rfl) (.cons (.at rfl) (.cons (.at rfl) (.cons (.at rfl) .nil))) (c_l01Join p a d hp ha hd) ?_
    exact single_nil
  refine' DrawE.op 9 42 9 [(51, some 0)] rfl rfl rfl rfl ?_ ?_
  rotate_left
  · intro le rest
    refine Run.move rfl rfl rfl (.at rfl) ?_
    exact single_nil
  refine' DrawE.op 10 52 10 [(42, some 0)] rfl rfl rfl rfl ?_ ?_
  rotate_left
  · intro le rest
    refine Run.extract rfl rfl rfl (.at rfl) rfl ?_
    exact single_nil
  refine' DrawE.op 11 53 11 [(42, some 1)] rfl rfl rfl rfl ?_ ?_
  rotate_left
  · intro le rest
    refine Run.extract rfl rfl rfl (.at rfl) rfl ?_
    exact single_nil
  refine DrawE.early 12 11 12 [] 0 rfl rfl rfl rfl rfl ?_ ?_
  · intro le rest
    refine Run.alloc 1 rfl rfl rfl zr_34 (fun b11 => ?_)
    exact singleE_nil ⟨b11, rfl, rfl⟩
  refine DrawE.late 13 1000013 13 [(52, some 2)] 0 rfl rfl rfl rfl rfl ?_ ?_
  · intro le rest x11 l11 h11
    obtain ⟨b11, rfl, rfl⟩ := h11
    refine Run.store (j := 0) rfl rfl (.at rfl) rfl rfl (.at rfl) sz_34_3 rfl rfl (by decide) rfl ?_
    exact singleW_nil ⟨b11, rfl, rfl⟩
  refine DrawE.tail [14] rfl rfl (by kernel_rfl) (by kernel_rfl) ?_
  intro x11 l11 h11
  obtain ⟨b11, rfl, rfl⟩ := h11
  refine Run.assign rfl rfl rfl (.at rfl) ?_
  refine Run.nil ?_
  refine WP.seq (WP.draw mx_0 ?_)
  refine' Drawn.calmE [allocE 13 13 2 14 [.int .i64 0, .int .i64 0, .int .i64 0]] ?_
  rotate_left 1
  refine' DrawE.op 0 55 0 [(0, none)] rfl rfl rfl rfl ?_ ?_
  rotate_left
  · intro le rest
    refine Run.move rfl rfl rfl (.at rfl) ?_
    exact single_nil
  refine' DrawE.op 1 56 1 [(1, none)] rfl rfl rfl rfl ?_ ?_
  rotate_left
  · intro le rest
    refine Run.move rfl rfl rfl (.at rfl) ?_
    exact single_nil
  refine' DrawE.op 2 57 2 [(9, none)] rfl rfl rfl rfl ?_ ?_
  rotate_left
  · intro le rest
    refine Run.move rfl rfl rfl (.at rfl) ?_
    exact single_nil
  refine' DrawE.op 3 58 3 [(56, some 1), (57, some 0)] rfl rfl rfl rfl ?_ ?_
  rotate_left
  · intro le rest
    refine Run.idx_imm rfl rfl rfl (.at rfl) (.at rfl) sl_24_3 rfl (by decide) ?_
    exact single_nil
  refine' DrawE.op 4 59 4 [(58, some 0)] rfl rfl rfl rfl ?_ ?_
  rotate_left
  · intro le rest
    refine Run.loads rfl rfl rfl (.at rfl) .imm ag_37_3 (show _ = (b).cs from rfl) rfl ?_
    exact single_nil
  refine' DrawE.op 5 60 5 [(1, none)] rfl rfl rfl rfl ?_ ?_
  rotate_left
  · intro le rest
    refine Run.move rfl rfl rfl (.at rfl) ?_
    exact single_nil
  refine' DrawE.op 6 61 6 [(10, none)] rfl rfl rfl rfl ?_ ?_
  rotate_left
  · intro le rest
    refine Run.move rfl rfl rfl (.at rfl) ?_
    exact single_nil
  refine' DrawE.op 7 62 7 [(60, some 1), (61, some 0)] rfl rfl rfl rfl ?_ ?_
  rotate_left
  · intro le rest
    refine Run.idx_imm rfl rfl rfl (.at rfl) (.at rfl) sl_24_3 rfl (by decide) ?_
    exact single_nil
  refine' DrawE.op 8 63 8 [(62, some 0)] rfl rfl rfl rfl ?_ ?_
  rotate_left
  · intro le rest
    refine Run.loads rfl rfl rfl (.at rfl) .imm ag_37_3 (show _ = (c).cs from rfl) rfl ?_
    exact single_nil
  refine' DrawE.op 9 64 9 [(55, some 8), (59, some 4), (63, some 0)] rfl rfl rfl rfl ?_ ?_
  rotate_left
  · intro le rest
    refine Run.call rfl rfl rfl (.at rfl) (.cons (.at rfl) (.cons (.at rfl) (.cons (.at rfl) .nil))) (c_l01Join p b c hp hb hc) ?_
    exact single_nil
  refine' DrawE.op 10 54 10 [(64, some 0)] rfl rfl rfl rfl ?_ ?_
  rotate_left
  · intro le rest
    refine Run.move rfl rfl rfl (.at rfl) ?_
    exact single_nil
  refine' DrawE.op 11 65 11 [(54, some 0)] rfl rfl rfl rfl ?_ ?_
  rotate_left
  · intro le rest
    refine Run.extract rfl rfl rfl (.at rfl) rfl ?_
    exact single_nil
  refine' DrawE.op 12 66 12 [(54, some 1)] rfl rfl rfl rfl ?_ ?_
  rotate_left
  · intro le rest
    refine Run.extract rfl rfl rfl (.at rfl) rfl ?_
    exact single_nil
  refine DrawE.early 13 13 13 [] 0 rfl rfl rfl rfl rfl ?_ ?_
  · intro le rest
    refine Run.alloc 2 rfl rfl rfl zr_34 (fun b13 => ?_)
    exact singleE_nil ⟨b13, rfl, rfl⟩
  refine DrawE.late 14 1000014 14 [(65, some 2)] 0 rfl rfl rfl rfl rfl ?_ ?_
  · intro le rest x13 l13 h13
    obtain ⟨b13, rfl, rfl⟩ := h13
    refine Run.store (j := 0) rfl rfl (.at rfl) rfl rfl (.at rfl) sz_34_3 rfl rfl (by decide) rfl ?_
    exact singleW_nil ⟨b13, rfl, rfl⟩
  refine DrawE.tail [15] rfl rfl (by kernel_rfl) (by kernel_rfl) ?_
  intro x13 l13 h13
  obtain ⟨b13, rfl, rfl⟩ := h13
  refine Run.assign rfl rfl rfl (.at rfl) ?_
  refine Run.nil ?_
  refine WP.seq (WP.region (l := [0, 1, 2, 3, 4, 5, 6, 7, 8, 9]) rfl ?_)
  refine Run.move rfl rfl rfl (.at rfl) ?_
  refine Run.loads rfl rfl rfl (.at rfl) (place_adr rfl) ag_34_3 rfl rfl ?_
  refine Run.loads rfl rfl rfl (.at rfl) (place_adr rfl) ag_34_3 rfl rfl ?_
  refine Run.call rfl rfl rfl (.at rfl) (.cons (.at rfl) (.cons (.at rfl) (.cons (.at rfl) .nil))) (c_l01Meet p (crs p a d) (crs p b c) hp (crs_sm hp _ _) (crs_sm hp _ _)) ?_
  refine Run.move rfl rfl rfl (.at rfl) ?_
  refine Run.extract rfl rfl rfl (.at rfl) rfl ?_
  refine Run.extract rfl rfl rfl (.at rfl) rfl ?_
  refine Run.alloc 3 rfl rfl rfl zr_37 (fun b15 => ?_)
  refine Run.store (j := 0) rfl rfl (.at rfl) rfl rfl (.at rfl) sz_37_3 rfl rfl (by decide) rfl ?_
  refine Run.assign rfl rfl rfl (.at rfl) ?_
  refine Run.nil ?_
  refine WP.region (l := [0, 1, 2, 3, 4]) rfl ?_
  refine Run.move rfl rfl rfl (.at rfl) ?_
  refine Run.loads rfl rfl rfl (.at rfl) (place_adr rfl) ag_37_3 rfl rfl ?_
  refine Run.buildSlice 4 rfl rfl rfl el_24 (by decide) (.cons (.at rfl) rfl .nil) rfl rfl (fun b76 => ?_)
  refine Run.append rfl rfl rfl (.at rfl) rfl el_24 (.at rfl) (.own (At.one rfl) rfl rfl) rfl (by omega) (Nat.le_of_ble_eq_true rfl) (by omega) (by omega) (fun b77 => ?_)
  refine Run.assign rfl rfl rfl (.at rfl) ?_
  refine Run.nil ?_
  refine WP.region (l := [0, 1, 2]) rfl ?_
  refine Run.move rfl rfl rfl (.at rfl) ?_
  refine Run.add rfl rfl rfl (.at rfl) (.at rfl) (by omega) ?_
  refine Run.assign rfl rfl rfl (.at rfl) ?_
  refine Run.nil ?_
  refine LP.keep (l_specDiag4  ?_ hQ) (by repeat (first | exact trivial | refine ⟨rfl, ?_⟩)) (by repeat (first | exact HSub.nil | refine HSub.keep ?_ | refine HSub.dead ?_))
  first | rfl | (rw [← hs]; rfl) | (simp only [diag4, hs]; rfl)
theorem l_specDiag2 {bb : Nat} {cs : List AV} (hp : IsP p) (ha : a.sm) (hb : b.sm) (hc : c.sm) (hd : d.sm) (hcs : cs = cs3 ((diag4 p a b c d).take 1))
    (hQ : ∀ bb, Q (.exit 0) ⟨[(7, .own 0 bb 3 0 3 3 true)], [[(bb, cs3 (diag4 p a b c d))], [], [], [], []]⟩) :
    LP C (nav Try.f5.body.get! [1, 1, 1, 1, 1, 0, 1, 0, 0]) Q ⟨[(0, .int .i64 p), (1, .imm (cs3 [a, b, c, d]) 4), (7, .own 0 bb 3 0 1 1 true), (8, .int .i64 2)], [[(bb, cs)], [], [], [], []]⟩ := by
  have hs := x_swap p hp b d
  subst hcs
  refine LP.round ?_
  refine WP.seq ?_
  refine WP.seq (WP.region (l := [0, 1]) rfl ?_)
  refine Run.move rfl rfl rfl (.at rfl) ?_
  refine Run.int rfl rfl rfl (.at rfl) (.at rfl) rfl ?_
  refine Run.nil ?_
  refine WP.cond_t (.at rfl) rfl ?_
  refine WP.skip ?_
  refine WP.seq ?_
  refine WP.block ?_
  refine WP.seq (WP.region (l := [0, 1, 2, 3, 4, 5, 6, 7, 8]) rfl ?_)
  refine Run.move rfl rfl rfl (.at rfl) ?_
  refine Run.rem rfl rfl rfl (.at rfl) (.at rfl) (by omega) (by omega) ?_
  refine Run.add rfl rfl rfl (.at rfl) (.at rfl) (by omega) ?_
  refine Run.move rfl rfl rfl (.at rfl) ?_
  refine Run.add rfl rfl rfl (.at rfl) (.at rfl) (by omega) ?_
  refine Run.rem rfl rfl rfl (.at rfl) (.at rfl) (by omega) (by omega) ?_
  refine Run.add rfl rfl rfl (.at rfl) (.at rfl) (by omega) ?_
  refine Run.assign rfl rfl rfl (.at rfl) ?_
  refine Run.assign rfl rfl rfl (.at rfl) ?_
  refine Run.nil ?_
  refine WP.seq (WP.draw mx_0 ?_)
  refine' Drawn.calmE [allocE 12 11 1 13 [.int .i64 0, .int .i64 0, .int .i64 0]] ?_
  rotate_left 1
  refine' DrawE.op 0 43 0 [(0, none)] rfl rfl rfl rfl ?_ ?_
  rotate_left
  · intro le rest
    refine Run.move rfl rfl rfl (.at rfl) ?_
    exact single_nil
  refine' DrawE.op 1 44 1 [(1, none)] rfl rfl rfl rfl ?_ ?_
  rotate_left
  · intro le rest
    refine Run.move rfl rfl rfl (.at rfl) ?_
    exact single_nil
  refine' DrawE.op 2 45 2 [(44, some 0)] rfl rfl rfl rfl ?_ ?_
  rotate_left
  · intro le rest
    refine Run.idx_imm (j := 0) rfl rfl rfl (.at rfl) (.at rfl) sl_24_3 (by rfl) (by decide) ?_
    exact single_nil
  refine' DrawE.op 3 46 3 [(45, some 0)] rfl rfl rfl rfl ?_ ?_
  rotate_left
  · intro le rest
    refine Run.loads rfl rfl rfl (.at rfl) .imm ag_37_3 rfl rfl ?_
    exact single_nil
  refine' DrawE.op 4 47 4 [(1, none)] rfl rfl rfl rfl ?_ ?_
  rotate_left
  · intro le rest
    refine Run.move rfl rfl rfl (.at rfl) ?_
    exact single_nil
  refine' DrawE.op 5 48 5 [(8, none)] rfl rfl rfl rfl ?_ ?_
  rotate_left
  · intro le rest
    refine Run.move rfl rfl rfl (.at rfl) ?_
    exact single_nil
  refine' DrawE.op 6 49 6 [(47, some 1), (48, some 0)] rfl rfl rfl rfl ?_ ?_
  rotate_left
  · intro le rest
    refine Run.idx_imm rfl rfl rfl (.at rfl) (.at rfl) sl_24_3 rfl (by decide) ?_
    exact single_nil
  refine' DrawE.op 7 50 7 [(49, some 0)] rfl rfl rfl rfl ?_ ?_
  rotate_left
  · intro le rest
    refine Run.loads rfl rfl rfl (.at rfl) .imm ag_37_3 (show _ = (c).cs from rfl) rfl ?_
    exact single_nil
  refine' DrawE.op 8 51 8 [(43, some 7), (46, some 4), (50, some 0)] rfl rfl rfl rfl ?_ ?_
  rotate_left
  · intro le rest
    refine Run.call rfl rfl rfl (.at rfl) (.cons (.at rfl) (.cons (.at rfl) (.cons (.at rfl) .nil))) (c_l01Join p a c hp ha hc) ?_
    exact single_nil
  refine' DrawE.op 9 42 9 [(51, some 0)] rfl rfl rfl rfl ?_ ?_
  rotate_left
  · intro le rest
    refine Run.move rfl rfl rfl (.at rfl) ?_
    exact single_nil
  refine' DrawE.op 10 52 10 [(42, some 0)] rfl rfl rfl rfl ?_ ?_
  rotate_left
  · intro le rest
    refine Run.extract rfl rfl rfl (.at rfl) rfl ?_
    exact single_nil
  refine' DrawE.op 11 53 11 [(42, some 1)] rfl rfl rfl rfl ?_ ?_
  rotate_left
  · intro le rest
    refine Run.extract rfl rfl rfl (.at rfl) rfl ?_
    exact single_nil
  refine DrawE.early 12 11 12 [] 0 rfl rfl rfl rfl rfl ?_ ?_
  · intro le rest
    refine Run.alloc 1 rfl rfl rfl zr_34 (fun b11 => ?_)
    exact singleE_nil ⟨b11, rfl, rfl⟩
  refine DrawE.late 13 1000013 13 [(52, some 2)] 0 rfl rfl rfl rfl rfl ?_ ?_
  · intro le rest x11 l11 h11
    obtain ⟨b11, rfl, rfl⟩ := h11
    refine Run.store (j := 0) rfl rfl (.at rfl) rfl rfl (.at rfl) sz_34_3 rfl rfl (by decide) rfl ?_
    exact singleW_nil ⟨b11, rfl, rfl⟩
  refine DrawE.tail [14] rfl rfl (by kernel_rfl) (by kernel_rfl) ?_
  intro x11 l11 h11
  obtain ⟨b11, rfl, rfl⟩ := h11
  refine Run.assign rfl rfl rfl (.at rfl) ?_
  refine Run.nil ?_
  refine WP.seq (WP.draw mx_0 ?_)
  refine' Drawn.calmE [allocE 13 13 2 14 [.int .i64 0, .int .i64 0, .int .i64 0]] ?_
  rotate_left 1
  refine' DrawE.op 0 55 0 [(0, none)] rfl rfl rfl rfl ?_ ?_
  rotate_left
  · intro le rest
    refine Run.move rfl rfl rfl (.at rfl) ?_
    exact single_nil
  refine' DrawE.op 1 56 1 [(1, none)] rfl rfl rfl rfl ?_ ?_
  rotate_left
  · intro le rest
    refine Run.move rfl rfl rfl (.at rfl) ?_
    exact single_nil
  refine' DrawE.op 2 57 2 [(9, none)] rfl rfl rfl rfl ?_ ?_
  rotate_left
  · intro le rest
    refine Run.move rfl rfl rfl (.at rfl) ?_
    exact single_nil
  refine' DrawE.op 3 58 3 [(56, some 1), (57, some 0)] rfl rfl rfl rfl ?_ ?_
  rotate_left
  · intro le rest
    refine Run.idx_imm rfl rfl rfl (.at rfl) (.at rfl) sl_24_3 rfl (by decide) ?_
    exact single_nil
  refine' DrawE.op 4 59 4 [(58, some 0)] rfl rfl rfl rfl ?_ ?_
  rotate_left
  · intro le rest
    refine Run.loads rfl rfl rfl (.at rfl) .imm ag_37_3 (show _ = (d).cs from rfl) rfl ?_
    exact single_nil
  refine' DrawE.op 5 60 5 [(1, none)] rfl rfl rfl rfl ?_ ?_
  rotate_left
  · intro le rest
    refine Run.move rfl rfl rfl (.at rfl) ?_
    exact single_nil
  refine' DrawE.op 6 61 6 [(10, none)] rfl rfl rfl rfl ?_ ?_
  rotate_left
  · intro le rest
    refine Run.move rfl rfl rfl (.at rfl) ?_
    exact single_nil
  refine' DrawE.op 7 62 7 [(60, some 1), (61, some 0)] rfl rfl rfl rfl ?_ ?_
  rotate_left
  · intro le rest
    refine Run.idx_imm rfl rfl rfl (.at rfl) (.at rfl) sl_24_3 rfl (by decide) ?_
    exact single_nil
  refine' DrawE.op 8 63 8 [(62, some 0)] rfl rfl rfl rfl ?_ ?_
  rotate_left
  · intro le rest
    refine Run.loads rfl rfl rfl (.at rfl) .imm ag_37_3 (show _ = (b).cs from rfl) rfl ?_
    exact single_nil
  refine' DrawE.op 9 64 9 [(55, some 8), (59, some 4), (63, some 0)] rfl rfl rfl rfl ?_ ?_
  rotate_left
  · intro le rest
    refine Run.call rfl rfl rfl (.at rfl) (.cons (.at rfl) (.cons (.at rfl) (.cons (.at rfl) .nil))) (c_l01Join p d b hp hd hb) ?_
    exact single_nil
  refine' DrawE.op 10 54 10 [(64, some 0)] rfl rfl rfl rfl ?_ ?_
  rotate_left
  · intro le rest
    refine Run.move rfl rfl rfl (.at rfl) ?_
    exact single_nil
  refine' DrawE.op 11 65 11 [(54, some 0)] rfl rfl rfl rfl ?_ ?_
  rotate_left
  · intro le rest
    refine Run.extract rfl rfl rfl (.at rfl) rfl ?_
    exact single_nil
  refine' DrawE.op 12 66 12 [(54, some 1)] rfl rfl rfl rfl ?_ ?_
  rotate_left
  · intro le rest
    refine Run.extract rfl rfl rfl (.at rfl) rfl ?_
    exact single_nil
  refine DrawE.early 13 13 13 [] 0 rfl rfl rfl rfl rfl ?_ ?_
  · intro le rest
    refine Run.alloc 2 rfl rfl rfl zr_34 (fun b13 => ?_)
    exact singleE_nil ⟨b13, rfl, rfl⟩
  refine DrawE.late 14 1000014 14 [(65, some 2)] 0 rfl rfl rfl rfl rfl ?_ ?_
  · intro le rest x13 l13 h13
    obtain ⟨b13, rfl, rfl⟩ := h13
    refine Run.store (j := 0) rfl rfl (.at rfl) rfl rfl (.at rfl) sz_34_3 rfl rfl (by decide) rfl ?_
    exact singleW_nil ⟨b13, rfl, rfl⟩
  refine DrawE.tail [15] rfl rfl (by kernel_rfl) (by kernel_rfl) ?_
  intro x13 l13 h13
  obtain ⟨b13, rfl, rfl⟩ := h13
  refine Run.assign rfl rfl rfl (.at rfl) ?_
  refine Run.nil ?_
  refine WP.seq (WP.region (l := [0, 1, 2, 3, 4, 5, 6, 7, 8, 9]) rfl ?_)
  refine Run.move rfl rfl rfl (.at rfl) ?_
  refine Run.loads rfl rfl rfl (.at rfl) (place_adr rfl) ag_34_3 rfl rfl ?_
  refine Run.loads rfl rfl rfl (.at rfl) (place_adr rfl) ag_34_3 rfl rfl ?_
  refine Run.call rfl rfl rfl (.at rfl) (.cons (.at rfl) (.cons (.at rfl) (.cons (.at rfl) .nil))) (c_l01Meet p (crs p a c) (crs p d b) hp (crs_sm hp _ _) (crs_sm hp _ _)) ?_
  refine Run.move rfl rfl rfl (.at rfl) ?_
  refine Run.extract rfl rfl rfl (.at rfl) rfl ?_
  refine Run.extract rfl rfl rfl (.at rfl) rfl ?_
  refine Run.alloc 3 rfl rfl rfl zr_37 (fun b15 => ?_)
  refine Run.store (j := 0) rfl rfl (.at rfl) rfl rfl (.at rfl) sz_37_3 rfl rfl (by decide) rfl ?_
  refine Run.assign rfl rfl rfl (.at rfl) ?_
  refine Run.nil ?_
  refine WP.region (l := [0, 1, 2, 3, 4]) rfl ?_
  refine Run.move rfl rfl rfl (.at rfl) ?_
  refine Run.loads rfl rfl rfl (.at rfl) (place_adr rfl) ag_37_3 rfl rfl ?_
  refine Run.buildSlice 4 rfl rfl rfl el_24 (by decide) (.cons (.at rfl) rfl .nil) rfl rfl (fun b76 => ?_)
  refine Run.append rfl rfl rfl (.at rfl) rfl el_24 (.at rfl) (.own (At.one rfl) rfl rfl) rfl (by omega) (Nat.le_of_ble_eq_true rfl) (by omega) (by omega) (fun b77 => ?_)
  refine Run.assign rfl rfl rfl (.at rfl) ?_
  refine Run.nil ?_
  refine WP.region (l := [0, 1, 2]) rfl ?_
  refine Run.move rfl rfl rfl (.at rfl) ?_
  refine Run.add rfl rfl rfl (.at rfl) (.at rfl) (by omega) ?_
  refine Run.assign rfl rfl rfl (.at rfl) ?_
  refine Run.nil ?_
  refine LP.keep (l_specDiag3 hp ha hb hc hd ?_ hQ) (by repeat (first | exact trivial | refine ⟨rfl, ?_⟩)) (by repeat (first | exact HSub.nil | refine HSub.keep ?_ | refine HSub.dead ?_))
  first | rfl | (rw [← hs]; rfl) | (simp only [diag4, hs]; rfl)
theorem l_specDiag1 {bb : Nat} {cs : List AV} (hp : IsP p) (ha : a.sm) (hb : b.sm) (hc : c.sm) (hd : d.sm) (hcs : cs = cs3 ((diag4 p a b c d).take 0))
    (hQ : ∀ bb, Q (.exit 0) ⟨[(7, .own 0 bb 3 0 3 3 true)], [[(bb, cs3 (diag4 p a b c d))], [], [], [], []]⟩) :
    LP C (nav Try.f5.body.get! [1, 1, 1, 1, 1, 0, 1, 0, 0]) Q ⟨[(0, .int .i64 p), (1, .imm (cs3 [a, b, c, d]) 4), (7, .own 0 bb 3 0 0 0 true), (8, .int .i64 1)], [[(bb, cs)], [], [], [], []]⟩ := by
  have hs := x_swap p hp b d
  subst hcs
  refine LP.round ?_
  refine WP.seq ?_
  refine WP.seq (WP.region (l := [0, 1]) rfl ?_)
  refine Run.move rfl rfl rfl (.at rfl) ?_
  refine Run.int rfl rfl rfl (.at rfl) (.at rfl) rfl ?_
  refine Run.nil ?_
  refine WP.cond_t (.at rfl) rfl ?_
  refine WP.skip ?_
  refine WP.seq ?_
  refine WP.block ?_
  refine WP.seq (WP.region (l := [0, 1, 2, 3, 4, 5, 6, 7, 8]) rfl ?_)
  refine Run.move rfl rfl rfl (.at rfl) ?_
  refine Run.rem rfl rfl rfl (.at rfl) (.at rfl) (by omega) (by omega) ?_
  refine Run.add rfl rfl rfl (.at rfl) (.at rfl) (by omega) ?_
  refine Run.move rfl rfl rfl (.at rfl) ?_
  refine Run.add rfl rfl rfl (.at rfl) (.at rfl) (by omega) ?_
  refine Run.rem rfl rfl rfl (.at rfl) (.at rfl) (by omega) (by omega) ?_
  refine Run.add rfl rfl rfl (.at rfl) (.at rfl) (by omega) ?_
  refine Run.assign rfl rfl rfl (.at rfl) ?_
  refine Run.assign rfl rfl rfl (.at rfl) ?_
  refine Run.nil ?_
  refine WP.seq (WP.draw mx_0 ?_)
  refine' Drawn.calmE [allocE 12 11 1 13 [.int .i64 0, .int .i64 0, .int .i64 0]] ?_
  rotate_left 1
  refine' DrawE.op 0 43 0 [(0, none)] rfl rfl rfl rfl ?_ ?_
  rotate_left
  · intro le rest
    refine Run.move rfl rfl rfl (.at rfl) ?_
    exact single_nil
  refine' DrawE.op 1 44 1 [(1, none)] rfl rfl rfl rfl ?_ ?_
  rotate_left
  · intro le rest
    refine Run.move rfl rfl rfl (.at rfl) ?_
    exact single_nil
  refine' DrawE.op 2 45 2 [(44, some 0)] rfl rfl rfl rfl ?_ ?_
  rotate_left
  · intro le rest
    refine Run.idx_imm (j := 0) rfl rfl rfl (.at rfl) (.at rfl) sl_24_3 (by rfl) (by decide) ?_
    exact single_nil
  refine' DrawE.op 3 46 3 [(45, some 0)] rfl rfl rfl rfl ?_ ?_
  rotate_left
  · intro le rest
    refine Run.loads rfl rfl rfl (.at rfl) .imm ag_37_3 rfl rfl ?_
    exact single_nil
  refine' DrawE.op 4 47 4 [(1, none)] rfl rfl rfl rfl ?_ ?_
  rotate_left
  · intro le rest
    refine Run.move rfl rfl rfl (.at rfl) ?_
    exact single_nil
  refine' DrawE.op 5 48 5 [(8, none)] rfl rfl rfl rfl ?_ ?_
  rotate_left
  · intro le rest
    refine Run.move rfl rfl rfl (.at rfl) ?_
    exact single_nil
  refine' DrawE.op 6 49 6 [(47, some 1), (48, some 0)] rfl rfl rfl rfl ?_ ?_
  rotate_left
  · intro le rest
    refine Run.idx_imm rfl rfl rfl (.at rfl) (.at rfl) sl_24_3 rfl (by decide) ?_
    exact single_nil
  refine' DrawE.op 7 50 7 [(49, some 0)] rfl rfl rfl rfl ?_ ?_
  rotate_left
  · intro le rest
    refine Run.loads rfl rfl rfl (.at rfl) .imm ag_37_3 (show _ = (b).cs from rfl) rfl ?_
    exact single_nil
  refine' DrawE.op 8 51 8 [(43, some 7), (46, some 4), (50, some 0)] rfl rfl rfl rfl ?_ ?_
  rotate_left
  · intro le rest
    refine Run.call rfl rfl rfl (.at rfl) (.cons (.at rfl) (.cons (.at rfl) (.cons (.at rfl) .nil))) (c_l01Join p a b hp ha hb) ?_
    exact single_nil
  refine' DrawE.op 9 42 9 [(51, some 0)] rfl rfl rfl rfl ?_ ?_
  rotate_left
  · intro le rest
    refine Run.move rfl rfl rfl (.at rfl) ?_
    exact single_nil
  refine' DrawE.op 10 52 10 [(42, some 0)] rfl rfl rfl rfl ?_ ?_
  rotate_left
  · intro le rest
    refine Run.extract rfl rfl rfl (.at rfl) rfl ?_
    exact single_nil
  refine' DrawE.op 11 53 11 [(42, some 1)] rfl rfl rfl rfl ?_ ?_
  rotate_left
  · intro le rest
    refine Run.extract rfl rfl rfl (.at rfl) rfl ?_
    exact single_nil
  refine DrawE.early 12 11 12 [] 0 rfl rfl rfl rfl rfl ?_ ?_
  · intro le rest
    refine Run.alloc 1 rfl rfl rfl zr_34 (fun b11 => ?_)
    exact singleE_nil ⟨b11, rfl, rfl⟩
  refine DrawE.late 13 1000013 13 [(52, some 2)] 0 rfl rfl rfl rfl rfl ?_ ?_
  · intro le rest x11 l11 h11
    obtain ⟨b11, rfl, rfl⟩ := h11
    refine Run.store (j := 0) rfl rfl (.at rfl) rfl rfl (.at rfl) sz_34_3 rfl rfl (by decide) rfl ?_
    exact singleW_nil ⟨b11, rfl, rfl⟩
  refine DrawE.tail [14] rfl rfl (by kernel_rfl) (by kernel_rfl) ?_
  intro x11 l11 h11
  obtain ⟨b11, rfl, rfl⟩ := h11
  refine Run.assign rfl rfl rfl (.at rfl) ?_
  refine Run.nil ?_
  refine WP.seq (WP.draw mx_0 ?_)
  refine' Drawn.calmE [allocE 13 13 2 14 [.int .i64 0, .int .i64 0, .int .i64 0]] ?_
  rotate_left 1
  refine' DrawE.op 0 55 0 [(0, none)] rfl rfl rfl rfl ?_ ?_
  rotate_left
  · intro le rest
    refine Run.move rfl rfl rfl (.at rfl) ?_
    exact single_nil
  refine' DrawE.op 1 56 1 [(1, none)] rfl rfl rfl rfl ?_ ?_
  rotate_left
  · intro le rest
    refine Run.move rfl rfl rfl (.at rfl) ?_
    exact single_nil
  refine' DrawE.op 2 57 2 [(9, none)] rfl rfl rfl rfl ?_ ?_
  rotate_left
  · intro le rest
    refine Run.move rfl rfl rfl (.at rfl) ?_
    exact single_nil
  refine' DrawE.op 3 58 3 [(56, some 1), (57, some 0)] rfl rfl rfl rfl ?_ ?_
  rotate_left
  · intro le rest
    refine Run.idx_imm rfl rfl rfl (.at rfl) (.at rfl) sl_24_3 rfl (by decide) ?_
    exact single_nil
  refine' DrawE.op 4 59 4 [(58, some 0)] rfl rfl rfl rfl ?_ ?_
  rotate_left
  · intro le rest
    refine Run.loads rfl rfl rfl (.at rfl) .imm ag_37_3 (show _ = (c).cs from rfl) rfl ?_
    exact single_nil
  refine' DrawE.op 5 60 5 [(1, none)] rfl rfl rfl rfl ?_ ?_
  rotate_left
  · intro le rest
    refine Run.move rfl rfl rfl (.at rfl) ?_
    exact single_nil
  refine' DrawE.op 6 61 6 [(10, none)] rfl rfl rfl rfl ?_ ?_
  rotate_left
  · intro le rest
    refine Run.move rfl rfl rfl (.at rfl) ?_
    exact single_nil
  refine' DrawE.op 7 62 7 [(60, some 1), (61, some 0)] rfl rfl rfl rfl ?_ ?_
  rotate_left
  · intro le rest
    refine Run.idx_imm rfl rfl rfl (.at rfl) (.at rfl) sl_24_3 rfl (by decide) ?_
    exact single_nil
  refine' DrawE.op 8 63 8 [(62, some 0)] rfl rfl rfl rfl ?_ ?_
  rotate_left
  · intro le rest
    refine Run.loads rfl rfl rfl (.at rfl) .imm ag_37_3 (show _ = (d).cs from rfl) rfl ?_
    exact single_nil
  refine' DrawE.op 9 64 9 [(55, some 8), (59, some 4), (63, some 0)] rfl rfl rfl rfl ?_ ?_
  rotate_left
  · intro le rest
    refine Run.call rfl rfl rfl (.at rfl) (.cons (.at rfl) (.cons (.at rfl) (.cons (.at rfl) .nil))) (c_l01Join p c d hp hc hd) ?_
    exact single_nil
  refine' DrawE.op 10 54 10 [(64, some 0)] rfl rfl rfl rfl ?_ ?_
  rotate_left
  · intro le rest
    refine Run.move rfl rfl rfl (.at rfl) ?_
    exact single_nil
  refine' DrawE.op 11 65 11 [(54, some 0)] rfl rfl rfl rfl ?_ ?_
  rotate_left
  · intro le rest
    refine Run.extract rfl rfl rfl (.at rfl) rfl ?_
    exact single_nil
  refine' DrawE.op 12 66 12 [(54, some 1)] rfl rfl rfl rfl ?_ ?_
  rotate_left
  · intro le rest
    refine Run.extract rfl rfl rfl (.at rfl) rfl ?_
    exact single_nil
  refine DrawE.early 13 13 13 [] 0 rfl rfl rfl rfl rfl ?_ ?_
  · intro le rest
    refine Run.alloc 2 rfl rfl rfl zr_34 (fun b13 => ?_)
    exact singleE_nil ⟨b13, rfl, rfl⟩
  refine DrawE.late 14 1000014 14 [(65, some 2)] 0 rfl rfl rfl rfl rfl ?_ ?_
  · intro le rest x13 l13 h13
    obtain ⟨b13, rfl, rfl⟩ := h13
    refine Run.store (j := 0) rfl rfl (.at rfl) rfl rfl (.at rfl) sz_34_3 rfl rfl (by decide) rfl ?_
    exact singleW_nil ⟨b13, rfl, rfl⟩
  refine DrawE.tail [15] rfl rfl (by kernel_rfl) (by kernel_rfl) ?_
  intro x13 l13 h13
  obtain ⟨b13, rfl, rfl⟩ := h13
  refine Run.assign rfl rfl rfl (.at rfl) ?_
  refine Run.nil ?_
  refine WP.seq (WP.region (l := [0, 1, 2, 3, 4, 5, 6, 7, 8, 9]) rfl ?_)
  refine Run.move rfl rfl rfl (.at rfl) ?_
  refine Run.loads rfl rfl rfl (.at rfl) (place_adr rfl) ag_34_3 rfl rfl ?_
  refine Run.loads rfl rfl rfl (.at rfl) (place_adr rfl) ag_34_3 rfl rfl ?_
  refine Run.call rfl rfl rfl (.at rfl) (.cons (.at rfl) (.cons (.at rfl) (.cons (.at rfl) .nil))) (c_l01Meet p (crs p a b) (crs p c d) hp (crs_sm hp _ _) (crs_sm hp _ _)) ?_
  refine Run.move rfl rfl rfl (.at rfl) ?_
  refine Run.extract rfl rfl rfl (.at rfl) rfl ?_
  refine Run.extract rfl rfl rfl (.at rfl) rfl ?_
  refine Run.alloc 3 rfl rfl rfl zr_37 (fun b15 => ?_)
  refine Run.store (j := 0) rfl rfl (.at rfl) rfl rfl (.at rfl) sz_37_3 rfl rfl (by decide) rfl ?_
  refine Run.assign rfl rfl rfl (.at rfl) ?_
  refine Run.nil ?_
  refine WP.region (l := [0, 1, 2, 3, 4]) rfl ?_
  refine Run.move rfl rfl rfl (.at rfl) ?_
  refine Run.loads rfl rfl rfl (.at rfl) (place_adr rfl) ag_37_3 rfl rfl ?_
  refine Run.buildSlice 4 rfl rfl rfl el_24 (by decide) (.cons (.at rfl) rfl .nil) rfl rfl (fun b76 => ?_)
  refine Run.append rfl rfl rfl (.at rfl) rfl el_24 (.at rfl) (.own (At.one rfl) rfl rfl) rfl (by omega) (Nat.le_of_ble_eq_true rfl) (by omega) (by omega) (fun b77 => ?_)
  refine Run.assign rfl rfl rfl (.at rfl) ?_
  refine Run.nil ?_
  refine WP.region (l := [0, 1, 2]) rfl ?_
  refine Run.move rfl rfl rfl (.at rfl) ?_
  refine Run.add rfl rfl rfl (.at rfl) (.at rfl) (by omega) ?_
  refine Run.assign rfl rfl rfl (.at rfl) ?_
  refine Run.nil ?_
  refine LP.keep (l_specDiag2 hp ha hb hc hd ?_ hQ) (by repeat (first | exact trivial | refine ⟨rfl, ?_⟩)) (by repeat (first | exact HSub.nil | refine HSub.keep ?_ | refine HSub.dead ?_))
  first | rfl | (rw [← hs]; rfl) | (simp only [diag4, hs]; rfl)
/-- What the diagonal points answer with, where there are none. -/
def diagErr (p : Int) (l : List V3) : Int := if codeOf p l = 0 then (if l.length = 4 then (if arcOk p l then 0 else 5) else 2) else codeOf p l
theorem c_specDiagNo (p : Int) (l : List V3) {n : Nat} (hn : n ≤ 2000000) (hl : l.length = n) (h : diagErr p l ≠ 0) : Pure Try.prog 5 [.int .i64 p, .imm (cs3 l) n] (.tup [.nilsl, .int .i64 (diagErr p l)]) := by
  unfold diagErr at h
  refine Pure.body 5 (n := 79) (fn := Try.f5) (c := Try.f5.body.get!) fn_5 rfl nm_5 rfl rfl fun C => ?_
  refine WP.seq (WP.region (l := [0, 1]) rfl ?_)
  refine Run.assign rfl rfl rfl (.at rfl) ?_
  refine Run.assign rfl rfl rfl (.at rfl) ?_
  refine Run.nil ?_
  refine WP.seq ?_
  refine WP.seq (WP.region (l := [0, 1, 2, 3]) rfl ?_)
  refine Run.move rfl rfl rfl (.at rfl) ?_
  refine Run.move rfl rfl rfl (.at rfl) ?_
  refine Run.call rfl rfl rfl (.at rfl) (.cons (.at rfl) (.cons (.at rfl) .nil)) (c_l01Code p l hn hl) ?_
  refine Run.assign rfl rfl rfl (.at rfl) ?_
  refine Run.nil ?_
  refine WP.seq (WP.region (l := [0, 1]) rfl ?_)
  refine Run.move rfl rfl rfl (.at rfl) ?_
  refine Run.int rfl rfl rfl (.at rfl) (.at rfl) rfl ?_
  refine Run.nil ?_
  refine WP.cond (.at rfl) (fun hc0 => ?_) (fun hc0 => ?_)
  · have h0 : codeOf p l ≠ 0 := by simpa using hc0
    refine WP.seq (WP.region (l := [0, 1, 2]) rfl ?_)
    refine Run.move rfl rfl rfl (.at rfl) ?_
    refine Run.assign rfl rfl rfl (.at rfl) ?_
    refine Run.assign rfl rfl rfl (.at rfl) ?_
    refine Run.nil ?_
    refine WP.ret ?_
    exact Ends.pure (.tmp rfl (.tmp rfl .nil)) (by unfold diagErr; rw [if_neg h0]; rfl)
  · have h0 : codeOf p l = 0 := by simpa using hc0
    obtain ⟨hp, hok⟩ := codeOf_ok h0
    refine WP.skip ?_
    refine WP.seq ?_
    refine WP.seq (WP.region (l := [0, 1, 2]) rfl ?_)
    refine Run.move rfl rfl rfl (.at rfl) ?_
    refine Run.len rfl rfl rfl (.at rfl) is_24 rfl ?_
    refine Run.int rfl rfl rfl (.at rfl) (.at rfl) rfl ?_
    refine Run.nil ?_
    refine WP.cond (.at rfl) (fun hc1 => ?_) (fun hc1 => ?_)
    · have h1 : l.length ≠ 4 := by simp at hc1; omega
      refine WP.seq (WP.region (l := [0, 1]) rfl ?_)
      refine Run.assign rfl rfl rfl (.at rfl) ?_
      refine Run.assign rfl rfl rfl (.at rfl) ?_
      refine Run.nil ?_
      refine WP.ret ?_
      exact Ends.pure (.tmp rfl (.tmp rfl .nil)) (by unfold diagErr; rw [if_pos h0, if_neg h1]; rfl)
    · have h1 : l.length = 4 := by simp at hc1; omega
      refine WP.skip ?_
      refine WP.seq ?_
      refine WP.seq (WP.region (l := [0, 1, 2, 3]) rfl ?_)
      refine Run.move rfl rfl rfl (.at rfl) ?_
      refine Run.move rfl rfl rfl (.at rfl) ?_
      refine Run.call rfl rfl rfl (.at rfl) (.cons (.at rfl) (.cons (.at rfl) .nil)) (c_l07Arc p l hp (by omega) hl hok) ?_
      refine Run.not rfl rfl rfl (.at rfl) ?_
      refine Run.nil ?_
      refine WP.cond_t (.at rfl) (by rw [if_pos h0, if_pos h1] at h; cases ha : arcOk p l with | true => rw [ha] at h; simp at h | false => rfl) ?_
      refine WP.seq (WP.region (l := [0, 1]) rfl ?_)
      refine Run.assign rfl rfl rfl (.at rfl) ?_
      refine Run.assign rfl rfl rfl (.at rfl) ?_
      refine Run.nil ?_
      refine WP.ret ?_
      exact Ends.pure (.tmp rfl (.tmp rfl .nil)) (by unfold diagErr; rw [if_pos h0, if_pos h1]; cases ha : arcOk p l with | true => rw [if_pos h0, if_pos h1, ha] at h; simp at h | false => rfl)
theorem c_specDiag (id : Nat) (p : Int) (a b c d : V3) (h : diagErr p [a, b, c, d] = 0) :
    Acts Try.prog 5 [.int .i64 p, .imm (cs3 [a, b, c, d]) 4] [] (fun x H => ∃ bb, x = .tup [.own id bb 3 0 3 3 true, .int .i64 0] ∧ H = [[(bb, cs3 (diag4 p a b c d))]]) := by
  unfold diagErr at h
  have h0 : codeOf p [a, b, c, d] = 0 := by
    cases Decidable.em (codeOf p [a, b, c, d] = 0) with
    | inl h0 => exact h0
    | inr h0 => rw [if_neg h0] at h; exact h
  rw [if_pos h0, if_pos (by rfl)] at h
  have harc : arcOk p [a, b, c, d] = true := by
    cases ha : arcOk p [a, b, c, d] with
    | true => rfl
    | false => rw [ha] at h; simp at h
  obtain ⟨hp, hok⟩ := codeOf_ok h0
  have ha : a.sm := ptsOk_sm hp hok 0
  have hb : b.sm := ptsOk_sm hp hok 1
  have hc : c.sm := ptsOk_sm hp hok 2
  have hd : d.sm := ptsOk_sm hp hok 3
  refine Acts.body 5 (n := 79) (fn := Try.f5) (c := Try.f5.body.get!) fn_5 rfl nm_5 rfl rfl fun C => ?_
  refine WP.seq (WP.region (l := [0, 1]) rfl ?_)
  refine Run.assign rfl rfl rfl (.at rfl) ?_
  refine Run.assign rfl rfl rfl (.at rfl) ?_
  refine Run.nil ?_
  refine WP.seq ?_
  refine WP.seq (WP.region (l := [0, 1, 2, 3]) rfl ?_)
  refine Run.move rfl rfl rfl (.at rfl) ?_
  refine Run.move rfl rfl rfl (.at rfl) ?_
  refine Run.call rfl rfl rfl (.at rfl) (.cons (.at rfl) (.cons (.at rfl) .nil)) (c_l01Code p [a, b, c, d] (by decide) rfl) ?_
  refine Run.assign rfl rfl rfl (.at rfl) ?_
  refine Run.nil ?_
  refine WP.seq (WP.region (l := [0, 1]) rfl ?_)
  refine Run.move rfl rfl rfl (.at rfl) ?_
  refine Run.int rfl rfl rfl (.at rfl) (.at rfl) rfl ?_
  refine Run.nil ?_
  refine WP.cond_f (.at rfl) (by rw [h0]; rfl) ?_
  refine WP.skip ?_
  refine WP.seq ?_
  refine WP.seq (WP.region (l := [0, 1, 2]) rfl ?_)
  refine Run.move rfl rfl rfl (.at rfl) ?_
  refine Run.len rfl rfl rfl (.at rfl) is_24 rfl ?_
  refine Run.int rfl rfl rfl (.at rfl) (.at rfl) rfl ?_
  refine Run.nil ?_
  refine WP.cond_f (.at rfl) rfl ?_
  refine WP.skip ?_
  refine WP.seq ?_
  refine WP.seq (WP.region (l := [0, 1, 2, 3]) rfl ?_)
  refine Run.move rfl rfl rfl (.at rfl) ?_
  refine Run.move rfl rfl rfl (.at rfl) ?_
  refine Run.call rfl rfl rfl (.at rfl) (.cons (.at rfl) (.cons (.at rfl) .nil)) (c_l07Arc p [a, b, c, d] hp (by decide) rfl hok) ?_
  refine Run.not rfl rfl rfl (.at rfl) ?_
  refine Run.nil ?_
  refine WP.cond_f (.at rfl) (by rw [harc]; rfl) ?_
  refine WP.skip ?_
  refine WP.seq (WP.region (l := [0, 1]) rfl ?_)
  refine Run.buildSlice 0 rfl rfl rfl el_24 (by decide) .nil rfl rfl (fun b30 => ?_)
  refine Run.assign rfl rfl rfl (.at rfl) ?_
  refine Run.nil ?_
  refine WP.seq ?_
  refine WP.seq (WP.region (l := [0]) rfl ?_)
  refine Run.assign rfl rfl rfl (.at rfl) ?_
  refine Run.nil ?_
  refine WP.block ?_
  refine WP.weak 7 rfl (fun _ _ _ h => own_open (id' := 0) (Nat.le_refl _) h) ?_
  refine WP.loop (LP.keep (l_specDiag1 hp ha hb hc hd rfl (fun bb => ?_)) (by repeat (first | exact trivial | refine ⟨rfl, ?_⟩)) (by repeat (first | exact HSub.nil | refine HSub.keep ?_ | refine HSub.dead ?_)))
  refine WP.seq (WP.region (l := [0, 1, 2]) rfl ?_)
  refine Run.move rfl rfl rfl (.at rfl) ?_
  refine Run.assign rfl rfl rfl (.at rfl) ?_
  refine Run.weak 4 rfl (fun _ _ _ h => own_name id h) ?_
  refine Run.assign rfl rfl rfl (.at rfl) ?_
  refine Run.nil ?_
  refine WP.ret ?_
  exact ⟨_, [[(bb, cs3 (diag4 p a b c d))]], (.tmp rfl (.tmp rfl .nil)), Moved.pick (is := [0]) rfl, bb, rfl, rfl⟩
end
end Go.Ab
