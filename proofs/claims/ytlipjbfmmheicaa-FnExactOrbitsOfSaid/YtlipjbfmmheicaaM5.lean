/- The walks of the plain law's product of maps, of both images. -/
import Derived.Test.YtlipjbfmmheicaaM4
namespace Go.Ab
open Go.Proofs
theorem c_l02Times (p : Int) (m n : M3) (hp : IsP p) (hm : m.ir p) (hn : n.ir p) : Pure Try.prog 22 [.int .i64 p, m.av, n.av] (timesM p m n).av := by
  have hb := hp.bd
  obtain ⟨hm0, hm1, hm2⟩ := hm
  obtain ⟨hn0, hn1, hn2⟩ := M3.ir_tr hn
  have he : mulT p m n.tr = ⟨⟨((0 + m.r0.a * n.r0.a) + m.r0.b * n.r1.a + m.r0.c * n.r2.a) % p, ((0 + m.r0.a * n.r0.b) + m.r0.b * n.r1.b + m.r0.c * n.r2.b) % p, ((0 + m.r0.a * n.r0.c) + m.r0.b * n.r1.c + m.r0.c * n.r2.c) % p⟩,
    ⟨((0 + m.r1.a * n.r0.a) + m.r1.b * n.r1.a + m.r1.c * n.r2.a) % p, ((0 + m.r1.a * n.r0.b) + m.r1.b * n.r1.b + m.r1.c * n.r2.b) % p, ((0 + m.r1.a * n.r0.c) + m.r1.b * n.r1.c + m.r1.c * n.r2.c) % p⟩,
    ⟨((0 + m.r2.a * n.r0.a) + m.r2.b * n.r1.a + m.r2.c * n.r2.a) % p, ((0 + m.r2.a * n.r0.b) + m.r2.b * n.r1.b + m.r2.c * n.r2.b) % p, ((0 + m.r2.a * n.r0.c) + m.r2.b * n.r1.c + m.r2.c * n.r2.c) % p⟩⟩ := by
    simp only [mulT, rowM, V3.dot, M3.tr, Int.zero_add]
  refine Pure.body 4 (n := 48) (fn := Try.f22) (c := Try.f22.body.get!) fn_22 rfl nm_22 rfl rfl fun C => ?_
  refine WP.seq (WP.region (l := [0, 1, 2]) rfl ?_)
  refine Run.box 0 rfl rfl rfl (.at rfl) rfl (fun b4 => ?_)
  refine Run.box 1 rfl rfl rfl (.at rfl) rfl (fun b5 => ?_)
  refine Run.alloc 2 rfl rfl rfl zr_44 (fun b6 => ?_)
  refine Run.nil ?_
  refine WP.seq (WP.region (l := [0, 1, 2]) rfl ?_)
  refine Run.build rfl rfl rfl bd_44 .nil rfl ?_
  refine Run.alloc 3 rfl rfl rfl zr_44 (fun b7 => ?_)
  refine Run.store (j := 0) rfl rfl (.at rfl) rfl rfl (.at rfl) sz_44_9 rfl rfl (by first | decide | exact Nat.le_of_ble_eq_true rfl) rfl ?_
  refine Run.nil ?_
  refine WP.seq ?_
  refine WP.seq (WP.region (l := [0]) rfl ?_)
  refine Run.assign rfl rfl rfl (.at rfl) ?_
  refine Run.nil ?_
  refine WP.block ?_
  refine WP.loop ?_
  refine LP.trim (fr' := [(0, _), (4, _), (5, _), (6, _), (7, _), (8, _)]) (H' := [[(_, [_, _, _, _, _, _, _, _, _])], [(_, [_, _, _, _, _, _, _, _, _])], [(_, [_, _, _, _, _, _, _, _, _])], [(_, [_, _, _, _, _, _, _, _, _])]]) ?_ ⟨rfl, rfl, rfl, rfl, rfl, rfl, trivial⟩ rfl
  refine LP.round ?_
  refine WP.seq ?_
  refine WP.seq (WP.region (l := [0, 1]) rfl ?_)
  refine Run.move rfl rfl rfl (.at rfl) ?_
  refine Run.int rfl rfl rfl (.at rfl) (.at rfl) rfl ?_
  refine Run.nil ?_
  refine WP.cond_t (.at rfl) rfl ?_
  refine WP.skip ?_
  refine WP.seq ?_
  refine WP.block ?_
  refine WP.seq (WP.region (l := [0]) rfl ?_)
  refine Run.assign rfl rfl rfl (.at rfl) ?_
  refine Run.nil ?_
  refine WP.block ?_
  refine WP.loop ?_
  refine LP.trim (fr' := [(0, _), (4, _), (5, _), (6, _), (7, _), (8, _), (9, _)]) (H' := [[(_, [_, _, _, _, _, _, _, _, _])], [(_, [_, _, _, _, _, _, _, _, _])], [(_, [_, _, _, _, _, _, _, _, _])], [(_, [_, _, _, _, _, _, _, _, _])]]) ?_ ⟨rfl, rfl, rfl, rfl, rfl, rfl, rfl, trivial⟩ rfl
  refine LP.round ?_
  refine WP.seq ?_
  refine WP.seq (WP.region (l := [0, 1]) rfl ?_)
  refine Run.move rfl rfl rfl (.at rfl) ?_
  refine Run.int rfl rfl rfl (.at rfl) (.at rfl) rfl ?_
  refine Run.nil ?_
  refine WP.cond_t (.at rfl) rfl ?_
  refine WP.skip ?_
  refine WP.seq ?_
  refine WP.block ?_
  refine WP.seq (WP.region (l := [0]) rfl ?_)
  refine Run.assign rfl rfl rfl (.at rfl) ?_
  refine Run.nil ?_
  refine WP.seq ?_
  refine WP.seq (WP.region (l := [0]) rfl ?_)
  refine Run.assign rfl rfl rfl (.at rfl) ?_
  refine Run.nil ?_
  refine WP.block ?_
  refine WP.loop ?_
  refine LP.trim (fr' := [(0, _), (4, _), (5, _), (6, _), (7, _), (8, _), (9, _), (10, _), (11, _)]) (H' := [[(_, [_, _, _, _, _, _, _, _, _])], [(_, [_, _, _, _, _, _, _, _, _])], [(_, [_, _, _, _, _, _, _, _, _])], [(_, [_, _, _, _, _, _, _, _, _])]]) ?_ ⟨rfl, rfl, rfl, rfl, rfl, rfl, rfl, rfl, rfl, trivial⟩ rfl
  refine LP.round ?_
  refine WP.seq ?_
  refine WP.seq (WP.region (l := [0, 1]) rfl ?_)
  refine Run.move rfl rfl rfl (.at rfl) ?_
  refine Run.int rfl rfl rfl (.at rfl) (.at rfl) rfl ?_
  refine Run.nil ?_
  refine WP.cond_t (.at rfl) rfl ?_
  refine WP.skip ?_
  refine WP.seq ?_
  refine WP.block ?_
  refine WP.draw mx_0 ?_
  refine Drawn.calmR ?_
  refine' DrawR.op 0 25 0 [(10, none)] rfl rfl (fun rest => ?_) ?_
  rotate_left
  · skip
    refine Run.move rfl rfl rfl (.at rfl) ?_
    exact single_nil
  refine' DrawR.op 1 26 1 [(8, none)] rfl rfl (fun rest => ?_) ?_
  rotate_left
  · skip
    refine Run.move rfl rfl rfl (.at rfl) ?_
    exact single_nil
  refine' DrawR.op 2 27 2 [(11, none)] rfl rfl (fun rest => ?_) ?_
  rotate_left
  · skip
    refine Run.move rfl rfl rfl (.at rfl) ?_
    exact single_nil
  refine' DrawR.op 3 28 3 [(4, none), (26, some 1)] rfl rfl (fun rest => ?_) ?_
  rotate_left
  · skip
    refine Run.idx_arr (j := 0) rfl rfl rfl (.at rfl) (.at rfl) ar_44_3_3 (by rfl) (by decide) ?_
    exact single_nil
  refine' DrawR.op 4 29 4 [(28, some 0), (27, some 1)] rfl rfl (fun rest => ?_) ?_
  rotate_left
  · skip
    refine Run.idx_arr (j := 0) rfl rfl rfl (.at rfl) (.at rfl) ar_30_3_1 (by rfl) (by decide) ?_
    exact single_nil
  refine' DrawR.op 5 30 5 [(29, some 0)] rfl rfl (fun rest => ?_) ?_
  rotate_left
  · skip
    refine Run.load rfl rfl rfl (.at rfl) (place_adr rfl) sc_2 rfl ?_
    exact single_nil
  refine' DrawR.op 6 31 6 [(11, none)] rfl rfl (fun rest => ?_) ?_
  rotate_left
  · skip
    refine Run.move rfl rfl rfl (.at rfl) ?_
    exact single_nil
  refine' DrawR.op 7 32 7 [(9, none)] rfl rfl (fun rest => ?_) ?_
  rotate_left
  · skip
    refine Run.move rfl rfl rfl (.at rfl) ?_
    exact single_nil
  refine' DrawR.op 8 33 8 [(5, none), (31, some 1)] rfl rfl (fun rest => ?_) ?_
  rotate_left
  · skip
    refine Run.idx_arr (j := 0) rfl rfl rfl (.at rfl) (.at rfl) ar_44_3_3 (by rfl) (by decide) ?_
    exact single_nil
  refine' DrawR.op 9 34 9 [(33, some 0), (32, some 1)] rfl rfl (fun rest => ?_) ?_
  rotate_left
  · skip
    refine Run.idx_arr (j := 0) rfl rfl rfl (.at rfl) (.at rfl) ar_30_3_1 (by rfl) (by decide) ?_
    exact single_nil
  refine' DrawR.op 10 35 10 [(34, some 0)] rfl rfl (fun rest => ?_) ?_
  rotate_left
  · skip
    refine Run.load rfl rfl rfl (.at rfl) (place_adr rfl) sc_2 rfl ?_
    exact single_nil
  refine' DrawR.op 11 36 11 [(30, some 5), (35, some 0)] rfl rfl (fun rest => ?_) ?_
  rotate_left
  · skip
    refine Run.mul rfl rfl rfl (.at rfl) (.at rfl) (by have h := prodB hp hm0 hn0; simp only [M3.tr] at h; omega) ?_
    exact single_nil
  refine' DrawR.op 12 37 12 [(25, some 11), (36, some 0)] rfl rfl (fun rest => ?_) ?_
  rotate_left
  · skip
    refine Run.add rfl rfl rfl (.at rfl) (.at rfl) (by have h := prodB hp hm0 hn0; simp only [M3.tr] at h; omega) ?_
    exact single_nil
  refine' DrawR.op 13 10 13 [(37, some 0)] rfl rfl (fun rest => ?_) ?_
  rotate_left
  · skip
    refine Run.assign rfl rfl rfl (.at rfl) ?_
    exact single_nil
  refine DrawR.tail [] rfl (by kernel_rfl) ?_
  refine Run.nil ?_
  refine WP.trim (fr' := [(0, _), (4, _), (5, _), (6, _), (7, _), (8, _), (9, _), (10, _), (11, _)]) (H' := [[(_, [_, _, _, _, _, _, _, _, _])], [(_, [_, _, _, _, _, _, _, _, _])], [(_, [_, _, _, _, _, _, _, _, _])], [(_, [_, _, _, _, _, _, _, _, _])]]) ?_ ⟨rfl, rfl, rfl, rfl, rfl, rfl, rfl, rfl, rfl, trivial⟩ rfl
  refine WP.region (l := [0, 1, 2]) rfl ?_
  refine Run.move rfl rfl rfl (.at rfl) ?_
  refine Run.add rfl rfl rfl (.at rfl) (.at rfl) (by omega) ?_
  refine Run.assign rfl rfl rfl (.at rfl) ?_
  refine Run.nil ?_
  refine LP.trim (fr' := [(0, _), (4, _), (5, _), (6, _), (7, _), (8, _), (9, _), (10, _), (11, _)]) (H' := [[(_, [_, _, _, _, _, _, _, _, _])], [(_, [_, _, _, _, _, _, _, _, _])], [(_, [_, _, _, _, _, _, _, _, _])], [(_, [_, _, _, _, _, _, _, _, _])]]) ?_ ⟨rfl, rfl, rfl, rfl, rfl, rfl, rfl, rfl, rfl, trivial⟩ rfl
  refine LP.round ?_
  refine WP.seq ?_
  refine WP.seq (WP.region (l := [0, 1]) rfl ?_)
  refine Run.move rfl rfl rfl (.at rfl) ?_
  refine Run.int rfl rfl rfl (.at rfl) (.at rfl) rfl ?_
  refine Run.nil ?_
  refine WP.cond_t (.at rfl) rfl ?_
  refine WP.skip ?_
  refine WP.seq ?_
  refine WP.block ?_
  refine WP.draw mx_0 ?_
  refine Drawn.calmR ?_
  refine' DrawR.op 0 25 0 [(10, none)] rfl rfl (fun rest => ?_) ?_
  rotate_left
  · skip
    refine Run.move rfl rfl rfl (.at rfl) ?_
    exact single_nil
  refine' DrawR.op 1 26 1 [(8, none)] rfl rfl (fun rest => ?_) ?_
  rotate_left
  · skip
    refine Run.move rfl rfl rfl (.at rfl) ?_
    exact single_nil
  refine' DrawR.op 2 27 2 [(11, none)] rfl rfl (fun rest => ?_) ?_
  rotate_left
  · skip
    refine Run.move rfl rfl rfl (.at rfl) ?_
    exact single_nil
  refine' DrawR.op 3 28 3 [(4, none), (26, some 1)] rfl rfl (fun rest => ?_) ?_
  rotate_left
  · skip
    refine Run.idx_arr (j := 0) rfl rfl rfl (.at rfl) (.at rfl) ar_44_3_3 (by rfl) (by decide) ?_
    exact single_nil
  refine' DrawR.op 4 29 4 [(28, some 0), (27, some 1)] rfl rfl (fun rest => ?_) ?_
  rotate_left
  · skip
    refine Run.idx_arr (j := 1) rfl rfl rfl (.at rfl) (.at rfl) ar_30_3_1 (by rfl) (by decide) ?_
    exact single_nil
  refine' DrawR.op 5 30 5 [(29, some 0)] rfl rfl (fun rest => ?_) ?_
  rotate_left
  · skip
    refine Run.load rfl rfl rfl (.at rfl) (place_adr rfl) sc_2 rfl ?_
    exact single_nil
  refine' DrawR.op 6 31 6 [(11, none)] rfl rfl (fun rest => ?_) ?_
  rotate_left
  · skip
    refine Run.move rfl rfl rfl (.at rfl) ?_
    exact single_nil
  refine' DrawR.op 7 32 7 [(9, none)] rfl rfl (fun rest => ?_) ?_
  rotate_left
  · skip
    refine Run.move rfl rfl rfl (.at rfl) ?_
    exact single_nil
  refine' DrawR.op 8 33 8 [(5, none), (31, some 1)] rfl rfl (fun rest => ?_) ?_
  rotate_left
  · skip
    refine Run.idx_arr (j := 1) rfl rfl rfl (.at rfl) (.at rfl) ar_44_3_3 (by rfl) (by decide) ?_
    exact single_nil
  refine' DrawR.op 9 34 9 [(33, some 0), (32, some 1)] rfl rfl (fun rest => ?_) ?_
  rotate_left
  · skip
    refine Run.idx_arr (j := 0) rfl rfl rfl (.at rfl) (.at rfl) ar_30_3_1 (by rfl) (by decide) ?_
    exact single_nil
  refine' DrawR.op 10 35 10 [(34, some 0)] rfl rfl (fun rest => ?_) ?_
  rotate_left
  · skip
    refine Run.load rfl rfl rfl (.at rfl) (place_adr rfl) sc_2 rfl ?_
    exact single_nil
  refine' DrawR.op 11 36 11 [(30, some 5), (35, some 0)] rfl rfl (fun rest => ?_) ?_
  rotate_left
  · skip
    refine Run.mul rfl rfl rfl (.at rfl) (.at rfl) (by have h := prodB hp hm0 hn0; simp only [M3.tr] at h; omega) ?_
    exact single_nil
  refine' DrawR.op 12 37 12 [(25, some 11), (36, some 0)] rfl rfl (fun rest => ?_) ?_
  rotate_left
  · skip
    refine Run.add rfl rfl rfl (.at rfl) (.at rfl) (by have h := prodB hp hm0 hn0; simp only [M3.tr] at h; omega) ?_
    exact single_nil
  refine' DrawR.op 13 10 13 [(37, some 0)] rfl rfl (fun rest => ?_) ?_
  rotate_left
  · skip
    refine Run.assign rfl rfl rfl (.at rfl) ?_
    exact single_nil
  refine DrawR.tail [] rfl (by kernel_rfl) ?_
  refine Run.nil ?_
  refine WP.trim (fr' := [(0, _), (4, _), (5, _), (6, _), (7, _), (8, _), (9, _), (10, _), (11, _)]) (H' := [[(_, [_, _, _, _, _, _, _, _, _])], [(_, [_, _, _, _, _, _, _, _, _])], [(_, [_, _, _, _, _, _, _, _, _])], [(_, [_, _, _, _, _, _, _, _, _])]]) ?_ ⟨rfl, rfl, rfl, rfl, rfl, rfl, rfl, rfl, rfl, trivial⟩ rfl
  refine WP.region (l := [0, 1, 2]) rfl ?_
  refine Run.move rfl rfl rfl (.at rfl) ?_
  refine Run.add rfl rfl rfl (.at rfl) (.at rfl) (by omega) ?_
  refine Run.assign rfl rfl rfl (.at rfl) ?_
  refine Run.nil ?_
  refine LP.trim (fr' := [(0, _), (4, _), (5, _), (6, _), (7, _), (8, _), (9, _), (10, _), (11, _)]) (H' := [[(_, [_, _, _, _, _, _, _, _, _])], [(_, [_, _, _, _, _, _, _, _, _])], [(_, [_, _, _, _, _, _, _, _, _])], [(_, [_, _, _, _, _, _, _, _, _])]]) ?_ ⟨rfl, rfl, rfl, rfl, rfl, rfl, rfl, rfl, rfl, trivial⟩ rfl
  refine LP.round ?_
  refine WP.seq ?_
  refine WP.seq (WP.region (l := [0, 1]) rfl ?_)
  refine Run.move rfl rfl rfl (.at rfl) ?_
  refine Run.int rfl rfl rfl (.at rfl) (.at rfl) rfl ?_
  refine Run.nil ?_
  refine WP.cond_t (.at rfl) rfl ?_
  refine WP.skip ?_
  refine WP.seq ?_
  refine WP.block ?_
  refine WP.draw mx_0 ?_
  refine Drawn.calmR ?_
  refine' DrawR.op 0 25 0 [(10, none)] rfl rfl (fun rest => ?_) ?_
  rotate_left
  · skip
    refine Run.move rfl rfl rfl (.at rfl) ?_
    exact single_nil
  refine' DrawR.op 1 26 1 [(8, none)] rfl rfl (fun rest => ?_) ?_
  rotate_left
  · skip
    refine Run.move rfl rfl rfl (.at rfl) ?_
    exact single_nil
  refine' DrawR.op 2 27 2 [(11, none)] rfl rfl (fun rest => ?_) ?_
  rotate_left
  · skip
    refine Run.move rfl rfl rfl (.at rfl) ?_
    exact single_nil
  refine' DrawR.op 3 28 3 [(4, none), (26, some 1)] rfl rfl (fun rest => ?_) ?_
  rotate_left
  · skip
    refine Run.idx_arr (j := 0) rfl rfl rfl (.at rfl) (.at rfl) ar_44_3_3 (by rfl) (by decide) ?_
    exact single_nil
  refine' DrawR.op 4 29 4 [(28, some 0), (27, some 1)] rfl rfl (fun rest => ?_) ?_
  rotate_left
  · skip
    refine Run.idx_arr (j := 2) rfl rfl rfl (.at rfl) (.at rfl) ar_30_3_1 (by rfl) (by decide) ?_
    exact single_nil
  refine' DrawR.op 5 30 5 [(29, some 0)] rfl rfl (fun rest => ?_) ?_
  rotate_left
  · skip
    refine Run.load rfl rfl rfl (.at rfl) (place_adr rfl) sc_2 rfl ?_
    exact single_nil
  refine' DrawR.op 6 31 6 [(11, none)] rfl rfl (fun rest => ?_) ?_
  rotate_left
  · skip
    refine Run.move rfl rfl rfl (.at rfl) ?_
    exact single_nil
  refine' DrawR.op 7 32 7 [(9, none)] rfl rfl (fun rest => ?_) ?_
  rotate_left
  · skip
    refine Run.move rfl rfl rfl (.at rfl) ?_
    exact single_nil
  refine' DrawR.op 8 33 8 [(5, none), (31, some 1)] rfl rfl (fun rest => ?_) ?_
  rotate_left
  · skip
    refine Run.idx_arr (j := 2) rfl rfl rfl (.at rfl) (.at rfl) ar_44_3_3 (by rfl) (by decide) ?_
    exact single_nil
  refine' DrawR.op 9 34 9 [(33, some 0), (32, some 1)] rfl rfl (fun rest => ?_) ?_
  rotate_left
  · skip
    refine Run.idx_arr (j := 0) rfl rfl rfl (.at rfl) (.at rfl) ar_30_3_1 (by rfl) (by decide) ?_
    exact single_nil
  refine' DrawR.op 10 35 10 [(34, some 0)] rfl rfl (fun rest => ?_) ?_
  rotate_left
  · skip
    refine Run.load rfl rfl rfl (.at rfl) (place_adr rfl) sc_2 rfl ?_
    exact single_nil
  refine' DrawR.op 11 36 11 [(30, some 5), (35, some 0)] rfl rfl (fun rest => ?_) ?_
  rotate_left
  · skip
    refine Run.mul rfl rfl rfl (.at rfl) (.at rfl) (by have h := prodB hp hm0 hn0; simp only [M3.tr] at h; omega) ?_
    exact single_nil
  refine' DrawR.op 12 37 12 [(25, some 11), (36, some 0)] rfl rfl (fun rest => ?_) ?_
  rotate_left
  · skip
    refine Run.add rfl rfl rfl (.at rfl) (.at rfl) (by have h := prodB hp hm0 hn0; simp only [M3.tr] at h; omega) ?_
    exact single_nil
  refine' DrawR.op 13 10 13 [(37, some 0)] rfl rfl (fun rest => ?_) ?_
  rotate_left
  · skip
    refine Run.assign rfl rfl rfl (.at rfl) ?_
    exact single_nil
  refine DrawR.tail [] rfl (by kernel_rfl) ?_
  refine Run.nil ?_
  refine WP.trim (fr' := [(0, _), (4, _), (5, _), (6, _), (7, _), (8, _), (9, _), (10, _), (11, _)]) (H' := [[(_, [_, _, _, _, _, _, _, _, _])], [(_, [_, _, _, _, _, _, _, _, _])], [(_, [_, _, _, _, _, _, _, _, _])], [(_, [_, _, _, _, _, _, _, _, _])]]) ?_ ⟨rfl, rfl, rfl, rfl, rfl, rfl, rfl, rfl, rfl, trivial⟩ rfl
  refine WP.region (l := [0, 1, 2]) rfl ?_
  refine Run.move rfl rfl rfl (.at rfl) ?_
  refine Run.add rfl rfl rfl (.at rfl) (.at rfl) (by omega) ?_
  refine Run.assign rfl rfl rfl (.at rfl) ?_
  refine Run.nil ?_
  refine LP.trim (fr' := [(0, _), (4, _), (5, _), (6, _), (7, _), (8, _), (9, _), (10, _), (11, _)]) (H' := [[(_, [_, _, _, _, _, _, _, _, _])], [(_, [_, _, _, _, _, _, _, _, _])], [(_, [_, _, _, _, _, _, _, _, _])], [(_, [_, _, _, _, _, _, _, _, _])]]) ?_ ⟨rfl, rfl, rfl, rfl, rfl, rfl, rfl, rfl, rfl, trivial⟩ rfl
  refine LP.round ?_
  refine WP.seq ?_
  refine WP.seq (WP.region (l := [0, 1]) rfl ?_)
  refine Run.move rfl rfl rfl (.at rfl) ?_
  refine Run.int rfl rfl rfl (.at rfl) (.at rfl) rfl ?_
  refine Run.nil ?_
  refine WP.cond_f (.at rfl) rfl ?_
  refine WP.exit ?_
  refine WP.draw mx_0 ?_
  refine Drawn.calmR ?_
  refine' DrawR.op 0 38 0 [(8, none)] rfl rfl (fun rest => ?_) ?_
  rotate_left
  · skip
    refine Run.move rfl rfl rfl (.at rfl) ?_
    exact single_nil
  refine' DrawR.op 1 39 1 [(9, none)] rfl rfl (fun rest => ?_) ?_
  rotate_left
  · skip
    refine Run.move rfl rfl rfl (.at rfl) ?_
    exact single_nil
  refine' DrawR.op 2 40 2 [(10, none)] rfl rfl (fun rest => ?_) ?_
  rotate_left
  · skip
    refine Run.move rfl rfl rfl (.at rfl) ?_
    exact single_nil
  refine' DrawR.op 3 41 3 [(0, none)] rfl rfl (fun rest => ?_) ?_
  rotate_left
  · skip
    refine Run.move rfl rfl rfl (.at rfl) ?_
    exact single_nil
  refine' DrawR.op 4 42 4 [(40, some 1), (41, some 0)] rfl rfl (fun rest => ?_) ?_
  rotate_left
  · skip
    refine Run.rem rfl rfl rfl (.at rfl) (.at rfl) (by have h := prodB hp hm0 hn0; simp only [M3.tr] at h; omega) (by omega) ?_
    exact single_nil
  refine' DrawR.op 5 43 5 [(7, none), (38, some 4)] rfl rfl (fun rest => ?_) ?_
  rotate_left
  · skip
    refine Run.idx_arr (j := 0) rfl rfl rfl (.at rfl) (.at rfl) ar_44_3_3 (by rfl) (by decide) ?_
    exact single_nil
  refine' DrawR.op 6 44 6 [(43, some 0), (39, some 4)] rfl rfl (fun rest => ?_) ?_
  rotate_left
  · skip
    refine Run.idx_arr (j := 0) rfl rfl rfl (.at rfl) (.at rfl) ar_30_3_1 (by rfl) (by decide) ?_
    exact single_nil
  refine DrawR.tail [7] rfl (by kernel_rfl) ?_
  refine Run.store (j := 0) rfl rfl (.at rfl) rfl rfl (.at rfl) sz_2_1 rfl rfl (by first | decide | exact Nat.le_of_ble_eq_true rfl) rfl ?_
  refine Run.nil ?_
  refine WP.region (l := [0, 1, 2]) rfl ?_
  refine Run.move rfl rfl rfl (.at rfl) ?_
  refine Run.add rfl rfl rfl (.at rfl) (.at rfl) (by omega) ?_
  refine Run.assign rfl rfl rfl (.at rfl) ?_
  refine Run.nil ?_
  refine LP.trim (fr' := [(0, _), (4, _), (5, _), (6, _), (7, _), (8, _), (9, _)]) (H' := [[(_, [_, _, _, _, _, _, _, _, _])], [(_, [_, _, _, _, _, _, _, _, _])], [(_, [_, _, _, _, _, _, _, _, _])], [(_, [_, _, _, _, _, _, _, _, _])]]) ?_ ⟨rfl, rfl, rfl, rfl, rfl, rfl, rfl, trivial⟩ rfl
  refine LP.round ?_
  refine WP.seq ?_
  refine WP.seq (WP.region (l := [0, 1]) rfl ?_)
  refine Run.move rfl rfl rfl (.at rfl) ?_
  refine Run.int rfl rfl rfl (.at rfl) (.at rfl) rfl ?_
  refine Run.nil ?_
  refine WP.cond_t (.at rfl) rfl ?_
  refine WP.skip ?_
  refine WP.seq ?_
  refine WP.block ?_
  refine WP.seq (WP.region (l := [0]) rfl ?_)
  refine Run.assign rfl rfl rfl (.at rfl) ?_
  refine Run.nil ?_
  refine WP.seq ?_
  refine WP.seq (WP.region (l := [0]) rfl ?_)
  refine Run.assign rfl rfl rfl (.at rfl) ?_
  refine Run.nil ?_
  refine WP.block ?_
  refine WP.loop ?_
  refine LP.trim (fr' := [(0, _), (4, _), (5, _), (6, _), (7, _), (8, _), (9, _), (10, _), (11, _)]) (H' := [[(_, [_, _, _, _, _, _, _, _, _])], [(_, [_, _, _, _, _, _, _, _, _])], [(_, [_, _, _, _, _, _, _, _, _])], [(_, [_, _, _, _, _, _, _, _, _])]]) ?_ ⟨rfl, rfl, rfl, rfl, rfl, rfl, rfl, rfl, rfl, trivial⟩ rfl
  refine LP.round ?_
  refine WP.seq ?_
  refine WP.seq (WP.region (l := [0, 1]) rfl ?_)
  refine Run.move rfl rfl rfl (.at rfl) ?_
  refine Run.int rfl rfl rfl (.at rfl) (.at rfl) rfl ?_
  refine Run.nil ?_
  refine WP.cond_t (.at rfl) rfl ?_
  refine WP.skip ?_
  refine WP.seq ?_
  refine WP.block ?_
  refine WP.draw mx_0 ?_
  refine Drawn.calmR ?_
  refine' DrawR.op 0 25 0 [(10, none)] rfl rfl (fun rest => ?_) ?_
  rotate_left
  · skip
    refine Run.move rfl rfl rfl (.at rfl) ?_
    exact single_nil
  refine' DrawR.op 1 26 1 [(8, none)] rfl rfl (fun rest => ?_) ?_
  rotate_left
  · skip
    refine Run.move rfl rfl rfl (.at rfl) ?_
    exact single_nil
  refine' DrawR.op 2 27 2 [(11, none)] rfl rfl (fun rest => ?_) ?_
  rotate_left
  · skip
    refine Run.move rfl rfl rfl (.at rfl) ?_
    exact single_nil
  refine' DrawR.op 3 28 3 [(4, none), (26, some 1)] rfl rfl (fun rest => ?_) ?_
  rotate_left
  · skip
    refine Run.idx_arr (j := 0) rfl rfl rfl (.at rfl) (.at rfl) ar_44_3_3 (by rfl) (by decide) ?_
    exact single_nil
  refine' DrawR.op 4 29 4 [(28, some 0), (27, some 1)] rfl rfl (fun rest => ?_) ?_
  rotate_left
  · skip
    refine Run.idx_arr (j := 0) rfl rfl rfl (.at rfl) (.at rfl) ar_30_3_1 (by rfl) (by decide) ?_
    exact single_nil
  refine' DrawR.op 5 30 5 [(29, some 0)] rfl rfl (fun rest => ?_) ?_
  rotate_left
  · skip
    refine Run.load rfl rfl rfl (.at rfl) (place_adr rfl) sc_2 rfl ?_
    exact single_nil
  refine' DrawR.op 6 31 6 [(11, none)] rfl rfl (fun rest => ?_) ?_
  rotate_left
  · skip
    refine Run.move rfl rfl rfl (.at rfl) ?_
    exact single_nil
  refine' DrawR.op 7 32 7 [(9, none)] rfl rfl (fun rest => ?_) ?_
  rotate_left
  · skip
    refine Run.move rfl rfl rfl (.at rfl) ?_
    exact single_nil
  refine' DrawR.op 8 33 8 [(5, none), (31, some 1)] rfl rfl (fun rest => ?_) ?_
  rotate_left
  · skip
    refine Run.idx_arr (j := 0) rfl rfl rfl (.at rfl) (.at rfl) ar_44_3_3 (by rfl) (by decide) ?_
    exact single_nil
  refine' DrawR.op 9 34 9 [(33, some 0), (32, some 1)] rfl rfl (fun rest => ?_) ?_
  rotate_left
  · skip
    refine Run.idx_arr (j := 1) rfl rfl rfl (.at rfl) (.at rfl) ar_30_3_1 (by rfl) (by decide) ?_
    exact single_nil
  refine' DrawR.op 10 35 10 [(34, some 0)] rfl rfl (fun rest => ?_) ?_
  rotate_left
  · skip
    refine Run.load rfl rfl rfl (.at rfl) (place_adr rfl) sc_2 rfl ?_
    exact single_nil
  refine' DrawR.op 11 36 11 [(30, some 5), (35, some 0)] rfl rfl (fun rest => ?_) ?_
  rotate_left
  · skip
    refine Run.mul rfl rfl rfl (.at rfl) (.at rfl) (by have h := prodB hp hm0 hn1; simp only [M3.tr] at h; omega) ?_
    exact single_nil
  refine' DrawR.op 12 37 12 [(25, some 11), (36, some 0)] rfl rfl (fun rest => ?_) ?_
  rotate_left
  · skip
    refine Run.add rfl rfl rfl (.at rfl) (.at rfl) (by have h := prodB hp hm0 hn1; simp only [M3.tr] at h; omega) ?_
    exact single_nil
  refine' DrawR.op 13 10 13 [(37, some 0)] rfl rfl (fun rest => ?_) ?_
  rotate_left
  · skip
    refine Run.assign rfl rfl rfl (.at rfl) ?_
    exact single_nil
  refine DrawR.tail [] rfl (by kernel_rfl) ?_
  refine Run.nil ?_
  refine WP.trim (fr' := [(0, _), (4, _), (5, _), (6, _), (7, _), (8, _), (9, _), (10, _), (11, _)]) (H' := [[(_, [_, _, _, _, _, _, _, _, _])], [(_, [_, _, _, _, _, _, _, _, _])], [(_, [_, _, _, _, _, _, _, _, _])], [(_, [_, _, _, _, _, _, _, _, _])]]) ?_ ⟨rfl, rfl, rfl, rfl, rfl, rfl, rfl, rfl, rfl, trivial⟩ rfl
  refine WP.region (l := [0, 1, 2]) rfl ?_
  refine Run.move rfl rfl rfl (.at rfl) ?_
  refine Run.add rfl rfl rfl (.at rfl) (.at rfl) (by omega) ?_
  refine Run.assign rfl rfl rfl (.at rfl) ?_
  refine Run.nil ?_
  refine LP.trim (fr' := [(0, _), (4, _), (5, _), (6, _), (7, _), (8, _), (9, _), (10, _), (11, _)]) (H' := [[(_, [_, _, _, _, _, _, _, _, _])], [(_, [_, _, _, _, _, _, _, _, _])], [(_, [_, _, _, _, _, _, _, _, _])], [(_, [_, _, _, _, _, _, _, _, _])]]) ?_ ⟨rfl, rfl, rfl, rfl, rfl, rfl, rfl, rfl, rfl, trivial⟩ rfl
  refine LP.round ?_
  refine WP.seq ?_
  refine WP.seq (WP.region (l := [0, 1]) rfl ?_)
  refine Run.move rfl rfl rfl (.at rfl) ?_
  refine Run.int rfl rfl rfl (.at rfl) (.at rfl) rfl ?_
  refine Run.nil ?_
  refine WP.cond_t (.at rfl) rfl ?_
  refine WP.skip ?_
  refine WP.seq ?_
  refine WP.block ?_
  refine WP.draw mx_0 ?_
  refine Drawn.calmR ?_
  refine' DrawR.op 0 25 0 [(10, none)] rfl rfl (fun rest => ?_) ?_
  rotate_left
  · skip
    refine Run.move rfl rfl rfl (.at rfl) ?_
    exact single_nil
  refine' DrawR.op 1 26 1 [(8, none)] rfl rfl (fun rest => ?_) ?_
  rotate_left
  · skip
    refine Run.move rfl rfl rfl (.at rfl) ?_
    exact single_nil
  refine' DrawR.op 2 27 2 [(11, none)] rfl rfl (fun rest => ?_) ?_
  rotate_left
  · skip
    refine Run.move rfl rfl rfl (.at rfl) ?_
    exact single_nil
  refine' DrawR.op 3 28 3 [(4, none), (26, some 1)] rfl rfl (fun rest => ?_) ?_
  rotate_left
  · skip
    refine Run.idx_arr (j := 0) rfl rfl rfl (.at rfl) (.at rfl) ar_44_3_3 (by rfl) (by decide) ?_
    exact single_nil
  refine' DrawR.op 4 29 4 [(28, some 0), (27, some 1)] rfl rfl (fun rest => ?_) ?_
  rotate_left
  · skip
    refine Run.idx_arr (j := 1) rfl rfl rfl (.at rfl) (.at rfl) ar_30_3_1 (by rfl) (by decide) ?_
    exact single_nil
  refine' DrawR.op 5 30 5 [(29, some 0)] rfl rfl (fun rest => ?_) ?_
  rotate_left
  · skip
    refine Run.load rfl rfl rfl (.at rfl) (place_adr rfl) sc_2 rfl ?_
    exact single_nil
  refine' DrawR.op 6 31 6 [(11, none)] rfl rfl (fun rest => ?_) ?_
  rotate_left
  · skip
    refine Run.move rfl rfl rfl (.at rfl) ?_
    exact single_nil
  refine' DrawR.op 7 32 7 [(9, none)] rfl rfl (fun rest => ?_) ?_
  rotate_left
  · skip
    refine Run.move rfl rfl rfl (.at rfl) ?_
    exact single_nil
  refine' DrawR.op 8 33 8 [(5, none), (31, some 1)] rfl rfl (fun rest => ?_) ?_
  rotate_left
  · skip
    refine Run.idx_arr (j := 1) rfl rfl rfl (.at rfl) (.at rfl) ar_44_3_3 (by rfl) (by decide) ?_
    exact single_nil
  refine' DrawR.op 9 34 9 [(33, some 0), (32, some 1)] rfl rfl (fun rest => ?_) ?_
  rotate_left
  · skip
    refine Run.idx_arr (j := 1) rfl rfl rfl (.at rfl) (.at rfl) ar_30_3_1 (by rfl) (by decide) ?_
    exact single_nil
  refine' DrawR.op 10 35 10 [(34, some 0)] rfl rfl (fun rest => ?_) ?_
  rotate_left
  · skip
    refine Run.load rfl rfl rfl (.at rfl) (place_adr rfl) sc_2 rfl ?_
    exact single_nil
  refine' DrawR.op 11 36 11 [(30, some 5), (35, some 0)] rfl rfl (fun rest => ?_) ?_
  rotate_left
  · skip
    refine Run.mul rfl rfl rfl (.at rfl) (.at rfl) (by have h := prodB hp hm0 hn1; simp only [M3.tr] at h; omega) ?_
    exact single_nil
  refine' DrawR.op 12 37 12 [(25, some 11), (36, some 0)] rfl rfl (fun rest => ?_) ?_
  rotate_left
  · skip
    refine Run.add rfl rfl rfl (.at rfl) (.at rfl) (by have h := prodB hp hm0 hn1; simp only [M3.tr] at h; omega) ?_
    exact single_nil
  refine' DrawR.op 13 10 13 [(37, some 0)] rfl rfl (fun rest => ?_) ?_
  rotate_left
  · skip
    refine Run.assign rfl rfl rfl (.at rfl) ?_
    exact single_nil
  refine DrawR.tail [] rfl (by kernel_rfl) ?_
  refine Run.nil ?_
  refine WP.trim (fr' := [(0, _), (4, _), (5, _), (6, _), (7, _), (8, _), (9, _), (10, _), (11, _)]) (H' := [[(_, [_, _, _, _, _, _, _, _, _])], [(_, [_, _, _, _, _, _, _, _, _])], [(_, [_, _, _, _, _, _, _, _, _])], [(_, [_, _, _, _, _, _, _, _, _])]]) ?_ ⟨rfl, rfl, rfl, rfl, rfl, rfl, rfl, rfl, rfl, trivial⟩ rfl
  refine WP.region (l := [0, 1, 2]) rfl ?_
  refine Run.move rfl rfl rfl (.at rfl) ?_
  refine Run.add rfl rfl rfl (.at rfl) (.at rfl) (by omega) ?_
  refine Run.assign rfl rfl rfl (.at rfl) ?_
  refine Run.nil ?_
  refine LP.trim (fr' := [(0, _), (4, _), (5, _), (6, _), (7, _), (8, _), (9, _), (10, _), (11, _)]) (H' := [[(_, [_, _, _, _, _, _, _, _, _])], [(_, [_, _, _, _, _, _, _, _, _])], [(_, [_, _, _, _, _, _, _, _, _])], [(_, [_, _, _, _, _, _, _, _, _])]]) ?_ ⟨rfl, rfl, rfl, rfl, rfl, rfl, rfl, rfl, rfl, trivial⟩ rfl
  refine LP.round ?_
  refine WP.seq ?_
  refine WP.seq (WP.region (l := [0, 1]) rfl ?_)
  refine Run.move rfl rfl rfl (.at rfl) ?_
  refine Run.int rfl rfl rfl (.at rfl) (.at rfl) rfl ?_
  refine Run.nil ?_
  refine WP.cond_t (.at rfl) rfl ?_
  refine WP.skip ?_
  refine WP.seq ?_
  refine WP.block ?_
  refine WP.draw mx_0 ?_
  refine Drawn.calmR ?_
  refine' DrawR.op 0 25 0 [(10, none)] rfl rfl (fun rest => ?_) ?_
  rotate_left
  · skip
    refine Run.move rfl rfl rfl (.at rfl) ?_
    exact single_nil
  refine' DrawR.op 1 26 1 [(8, none)] rfl rfl (fun rest => ?_) ?_
  rotate_left
  · skip
    refine Run.move rfl rfl rfl (.at rfl) ?_
    exact single_nil
  refine' DrawR.op 2 27 2 [(11, none)] rfl rfl (fun rest => ?_) ?_
  rotate_left
  · skip
    refine Run.move rfl rfl rfl (.at rfl) ?_
    exact single_nil
  refine' DrawR.op 3 28 3 [(4, none), (26, some 1)] rfl rfl (fun rest => ?_) ?_
  rotate_left
  · skip
    refine Run.idx_arr (j := 0) rfl rfl rfl (.at rfl) (.at rfl) ar_44_3_3 (by rfl) (by decide) ?_
    exact single_nil
  refine' DrawR.op 4 29 4 [(28, some 0), (27, some 1)] rfl rfl (fun rest => ?_) ?_
  rotate_left
  · skip
    refine Run.idx_arr (j := 2) rfl rfl rfl (.at rfl) (.at rfl) ar_30_3_1 (by rfl) (by decide) ?_
    exact single_nil
  refine' DrawR.op 5 30 5 [(29, some 0)] rfl rfl (fun rest => ?_) ?_
  rotate_left
  · skip
    refine Run.load rfl rfl rfl (.at rfl) (place_adr rfl) sc_2 rfl ?_
    exact single_nil
  refine' DrawR.op 6 31 6 [(11, none)] rfl rfl (fun rest => ?_) ?_
  rotate_left
  · skip
    refine Run.move rfl rfl rfl (.at rfl) ?_
    exact single_nil
  refine' DrawR.op 7 32 7 [(9, none)] rfl rfl (fun rest => ?_) ?_
  rotate_left
  · skip
    refine Run.move rfl rfl rfl (.at rfl) ?_
    exact single_nil
  refine' DrawR.op 8 33 8 [(5, none), (31, some 1)] rfl rfl (fun rest => ?_) ?_
  rotate_left
  · skip
    refine Run.idx_arr (j := 2) rfl rfl rfl (.at rfl) (.at rfl) ar_44_3_3 (by rfl) (by decide) ?_
    exact single_nil
  refine' DrawR.op 9 34 9 [(33, some 0), (32, some 1)] rfl rfl (fun rest => ?_) ?_
  rotate_left
  · skip
    refine Run.idx_arr (j := 1) rfl rfl rfl (.at rfl) (.at rfl) ar_30_3_1 (by rfl) (by decide) ?_
    exact single_nil
  refine' DrawR.op 10 35 10 [(34, some 0)] rfl rfl (fun rest => ?_) ?_
  rotate_left
  · skip
    refine Run.load rfl rfl rfl (.at rfl) (place_adr rfl) sc_2 rfl ?_
    exact single_nil
  refine' DrawR.op 11 36 11 [(30, some 5), (35, some 0)] rfl rfl (fun rest => ?_) ?_
  rotate_left
  · skip
    refine Run.mul rfl rfl rfl (.at rfl) (.at rfl) (by have h := prodB hp hm0 hn1; simp only [M3.tr] at h; omega) ?_
    exact single_nil
  refine' DrawR.op 12 37 12 [(25, some 11), (36, some 0)] rfl rfl (fun rest => ?_) ?_
  rotate_left
  · skip
    refine Run.add rfl rfl rfl (.at rfl) (.at rfl) (by have h := prodB hp hm0 hn1; simp only [M3.tr] at h; omega) ?_
    exact single_nil
  refine' DrawR.op 13 10 13 [(37, some 0)] rfl rfl (fun rest => ?_) ?_
  rotate_left
  · skip
    refine Run.assign rfl rfl rfl (.at rfl) ?_
    exact single_nil
  refine DrawR.tail [] rfl (by kernel_rfl) ?_
  refine Run.nil ?_
  refine WP.trim (fr' := [(0, _), (4, _), (5, _), (6, _), (7, _), (8, _), (9, _), (10, _), (11, _)]) (H' := [[(_, [_, _, _, _, _, _, _, _, _])], [(_, [_, _, _, _, _, _, _, _, _])], [(_, [_, _, _, _, _, _, _, _, _])], [(_, [_, _, _, _, _, _, _, _, _])]]) ?_ ⟨rfl, rfl, rfl, rfl, rfl, rfl, rfl, rfl, rfl, trivial⟩ rfl
  refine WP.region (l := [0, 1, 2]) rfl ?_
  refine Run.move rfl rfl rfl (.at rfl) ?_
  refine Run.add rfl rfl rfl (.at rfl) (.at rfl) (by omega) ?_
  refine Run.assign rfl rfl rfl (.at rfl) ?_
  refine Run.nil ?_
  refine LP.trim (fr' := [(0, _), (4, _), (5, _), (6, _), (7, _), (8, _), (9, _), (10, _), (11, _)]) (H' := [[(_, [_, _, _, _, _, _, _, _, _])], [(_, [_, _, _, _, _, _, _, _, _])], [(_, [_, _, _, _, _, _, _, _, _])], [(_, [_, _, _, _, _, _, _, _, _])]]) ?_ ⟨rfl, rfl, rfl, rfl, rfl, rfl, rfl, rfl, rfl, trivial⟩ rfl
  refine LP.round ?_
  refine WP.seq ?_
  refine WP.seq (WP.region (l := [0, 1]) rfl ?_)
  refine Run.move rfl rfl rfl (.at rfl) ?_
  refine Run.int rfl rfl rfl (.at rfl) (.at rfl) rfl ?_
  refine Run.nil ?_
  refine WP.cond_f (.at rfl) rfl ?_
  refine WP.exit ?_
  refine WP.draw mx_0 ?_
  refine Drawn.calmR ?_
  refine' DrawR.op 0 38 0 [(8, none)] rfl rfl (fun rest => ?_) ?_
  rotate_left
  · skip
    refine Run.move rfl rfl rfl (.at rfl) ?_
    exact single_nil
  refine' DrawR.op 1 39 1 [(9, none)] rfl rfl (fun rest => ?_) ?_
  rotate_left
  · skip
    refine Run.move rfl rfl rfl (.at rfl) ?_
    exact single_nil
  refine' DrawR.op 2 40 2 [(10, none)] rfl rfl (fun rest => ?_) ?_
  rotate_left
  · skip
    refine Run.move rfl rfl rfl (.at rfl) ?_
    exact single_nil
  refine' DrawR.op 3 41 3 [(0, none)] rfl rfl (fun rest => ?_) ?_
  rotate_left
  · skip
    refine Run.move rfl rfl rfl (.at rfl) ?_
    exact single_nil
  refine' DrawR.op 4 42 4 [(40, some 1), (41, some 0)] rfl rfl (fun rest => ?_) ?_
  rotate_left
  · skip
    refine Run.rem rfl rfl rfl (.at rfl) (.at rfl) (by have h := prodB hp hm0 hn1; simp only [M3.tr] at h; omega) (by omega) ?_
    exact single_nil
  refine' DrawR.op 5 43 5 [(7, none), (38, some 4)] rfl rfl (fun rest => ?_) ?_
  rotate_left
  · skip
    refine Run.idx_arr (j := 0) rfl rfl rfl (.at rfl) (.at rfl) ar_44_3_3 (by rfl) (by decide) ?_
    exact single_nil
  refine' DrawR.op 6 44 6 [(43, some 0), (39, some 4)] rfl rfl (fun rest => ?_) ?_
  rotate_left
  · skip
    refine Run.idx_arr (j := 1) rfl rfl rfl (.at rfl) (.at rfl) ar_30_3_1 (by rfl) (by decide) ?_
    exact single_nil
  refine DrawR.tail [7] rfl (by kernel_rfl) ?_
  refine Run.store (j := 0) rfl rfl (.at rfl) rfl rfl (.at rfl) sz_2_1 rfl rfl (by first | decide | exact Nat.le_of_ble_eq_true rfl) rfl ?_
  refine Run.nil ?_
  refine WP.region (l := [0, 1, 2]) rfl ?_
  refine Run.move rfl rfl rfl (.at rfl) ?_
  refine Run.add rfl rfl rfl (.at rfl) (.at rfl) (by omega) ?_
  refine Run.assign rfl rfl rfl (.at rfl) ?_
  refine Run.nil ?_
  refine LP.trim (fr' := [(0, _), (4, _), (5, _), (6, _), (7, _), (8, _), (9, _)]) (H' := [[(_, [_, _, _, _, _, _, _, _, _])], [(_, [_, _, _, _, _, _, _, _, _])], [(_, [_, _, _, _, _, _, _, _, _])], [(_, [_, _, _, _, _, _, _, _, _])]]) ?_ ⟨rfl, rfl, rfl, rfl, rfl, rfl, rfl, trivial⟩ rfl
  refine LP.round ?_
  refine WP.seq ?_
  refine WP.seq (WP.region (l := [0, 1]) rfl ?_)
  refine Run.move rfl rfl rfl (.at rfl) ?_
  refine Run.int rfl rfl rfl (.at rfl) (.at rfl) rfl ?_
  refine Run.nil ?_
  refine WP.cond_t (.at rfl) rfl ?_
  refine WP.skip ?_
  refine WP.seq ?_
  refine WP.block ?_
  refine WP.seq (WP.region (l := [0]) rfl ?_)
  refine Run.assign rfl rfl rfl (.at rfl) ?_
  refine Run.nil ?_
  refine WP.seq ?_
  refine WP.seq (WP.region (l := [0]) rfl ?_)
  refine Run.assign rfl rfl rfl (.at rfl) ?_
  refine Run.nil ?_
  refine WP.block ?_
  refine WP.loop ?_
  refine LP.trim (fr' := [(0, _), (4, _), (5, _), (6, _), (7, _), (8, _), (9, _), (10, _), (11, _)]) (H' := [[(_, [_, _, _, _, _, _, _, _, _])], [(_, [_, _, _, _, _, _, _, _, _])], [(_, [_, _, _, _, _, _, _, _, _])], [(_, [_, _, _, _, _, _, _, _, _])]]) ?_ ⟨rfl, rfl, rfl, rfl, rfl, rfl, rfl, rfl, rfl, trivial⟩ rfl
  refine LP.round ?_
  refine WP.seq ?_
  refine WP.seq (WP.region (l := [0, 1]) rfl ?_)
  refine Run.move rfl rfl rfl (.at rfl) ?_
  refine Run.int rfl rfl rfl (.at rfl) (.at rfl) rfl ?_
  refine Run.nil ?_
  refine WP.cond_t (.at rfl) rfl ?_
  refine WP.skip ?_
  refine WP.seq ?_
  refine WP.block ?_
  refine WP.draw mx_0 ?_
  refine Drawn.calmR ?_
  refine' DrawR.op 0 25 0 [(10, none)] rfl rfl (fun rest => ?_) ?_
  rotate_left
  · skip
    refine Run.move rfl rfl rfl (.at rfl) ?_
    exact single_nil
  refine' DrawR.op 1 26 1 [(8, none)] rfl rfl (fun rest => ?_) ?_
  rotate_left
  · skip
    refine Run.move rfl rfl rfl (.at rfl) ?_
    exact single_nil
  refine' DrawR.op 2 27 2 [(11, none)] rfl rfl (fun rest => ?_) ?_
  rotate_left
  · skip
    refine Run.move rfl rfl rfl (.at rfl) ?_
    exact single_nil
  refine' DrawR.op 3 28 3 [(4, none), (26, some 1)] rfl rfl (fun rest => ?_) ?_
  rotate_left
  · skip
    refine Run.idx_arr (j := 0) rfl rfl rfl (.at rfl) (.at rfl) ar_44_3_3 (by rfl) (by decide) ?_
    exact single_nil
  refine' DrawR.op 4 29 4 [(28, some 0), (27, some 1)] rfl rfl (fun rest => ?_) ?_
  rotate_left
  · skip
    refine Run.idx_arr (j := 0) rfl rfl rfl (.at rfl) (.at rfl) ar_30_3_1 (by rfl) (by decide) ?_
    exact single_nil
  refine' DrawR.op 5 30 5 [(29, some 0)] rfl rfl (fun rest => ?_) ?_
  rotate_left
  · skip
    refine Run.load rfl rfl rfl (.at rfl) (place_adr rfl) sc_2 rfl ?_
    exact single_nil
  refine' DrawR.op 6 31 6 [(11, none)] rfl rfl (fun rest => ?_) ?_
  rotate_left
  · skip
    refine Run.move rfl rfl rfl (.at rfl) ?_
    exact single_nil
  refine' DrawR.op 7 32 7 [(9, none)] rfl rfl (fun rest => ?_) ?_
  rotate_left
  · skip
    refine Run.move rfl rfl rfl (.at rfl) ?_
    exact single_nil
  refine' DrawR.op 8 33 8 [(5, none), (31, some 1)] rfl rfl (fun rest => ?_) ?_
  rotate_left
  · skip
    refine Run.idx_arr (j := 0) rfl rfl rfl (.at rfl) (.at rfl) ar_44_3_3 (by rfl) (by decide) ?_
    exact single_nil
  refine' DrawR.op 9 34 9 [(33, some 0), (32, some 1)] rfl rfl (fun rest => ?_) ?_
  rotate_left
  · skip
    refine Run.idx_arr (j := 2) rfl rfl rfl (.at rfl) (.at rfl) ar_30_3_1 (by rfl) (by decide) ?_
    exact single_nil
  refine' DrawR.op 10 35 10 [(34, some 0)] rfl rfl (fun rest => ?_) ?_
  rotate_left
  · skip
    refine Run.load rfl rfl rfl (.at rfl) (place_adr rfl) sc_2 rfl ?_
    exact single_nil
  refine' DrawR.op 11 36 11 [(30, some 5), (35, some 0)] rfl rfl (fun rest => ?_) ?_
  rotate_left
  · skip
    refine Run.mul rfl rfl rfl (.at rfl) (.at rfl) (by have h := prodB hp hm0 hn2; simp only [M3.tr] at h; omega) ?_
    exact single_nil
  refine' DrawR.op 12 37 12 [(25, some 11), (36, some 0)] rfl rfl (fun rest => ?_) ?_
  rotate_left
  · skip
    refine Run.add rfl rfl rfl (.at rfl) (.at rfl) (by have h := prodB hp hm0 hn2; simp only [M3.tr] at h; omega) ?_
    exact single_nil
  refine' DrawR.op 13 10 13 [(37, some 0)] rfl rfl (fun rest => ?_) ?_
  rotate_left
  · skip
    refine Run.assign rfl rfl rfl (.at rfl) ?_
    exact single_nil
  refine DrawR.tail [] rfl (by kernel_rfl) ?_
  refine Run.nil ?_
  refine WP.trim (fr' := [(0, _), (4, _), (5, _), (6, _), (7, _), (8, _), (9, _), (10, _), (11, _)]) (H' := [[(_, [_, _, _, _, _, _, _, _, _])], [(_, [_, _, _, _, _, _, _, _, _])], [(_, [_, _, _, _, _, _, _, _, _])], [(_, [_, _, _, _, _, _, _, _, _])]]) ?_ ⟨rfl, rfl, rfl, rfl, rfl, rfl, rfl, rfl, rfl, trivial⟩ rfl
  refine WP.region (l := [0, 1, 2]) rfl ?_
  refine Run.move rfl rfl rfl (.at rfl) ?_
  refine Run.add rfl rfl rfl (.at rfl) (.at rfl) (by omega) ?_
  refine Run.assign rfl rfl rfl (.at rfl) ?_
  refine Run.nil ?_
  refine LP.trim (fr' := [(0, _), (4, _), (5, _), (6, _), (7, _), (8, _), (9, _), (10, _), (11, _)]) (H' := [[(_, [_, _, _, _, _, _, _, _, _])], [(_, [_, _, _, _, _, _, _, _, _])], [(_, [_, _, _, _, _, _, _, _, _])], [(_, [_, _, _, _, _, _, _, _, _])]]) ?_ ⟨rfl, rfl, rfl, rfl, rfl, rfl, rfl, rfl, rfl, trivial⟩ rfl
  refine LP.round ?_
  refine WP.seq ?_
  refine WP.seq (WP.region (l := [0, 1]) rfl ?_)
  refine Run.move rfl rfl rfl (.at rfl) ?_
  refine Run.int rfl rfl rfl (.at rfl) (.at rfl) rfl ?_
  refine Run.nil ?_
  refine WP.cond_t (.at rfl) rfl ?_
  refine WP.skip ?_
  refine WP.seq ?_
  refine WP.block ?_
  refine WP.draw mx_0 ?_
  refine Drawn.calmR ?_
  refine' DrawR.op 0 25 0 [(10, none)] rfl rfl (fun rest => ?_) ?_
  rotate_left
  · skip
    refine Run.move rfl rfl rfl (.at rfl) ?_
    exact single_nil
  refine' DrawR.op 1 26 1 [(8, none)] rfl rfl (fun rest => ?_) ?_
  rotate_left
  · skip
    refine Run.move rfl rfl rfl (.at rfl) ?_
    exact single_nil
  refine' DrawR.op 2 27 2 [(11, none)] rfl rfl (fun rest => ?_) ?_
  rotate_left
  · skip
    refine Run.move rfl rfl rfl (.at rfl) ?_
    exact single_nil
  refine' DrawR.op 3 28 3 [(4, none), (26, some 1)] rfl rfl (fun rest => ?_) ?_
  rotate_left
  · skip
    refine Run.idx_arr (j := 0) rfl rfl rfl (.at rfl) (.at rfl) ar_44_3_3 (by rfl) (by decide) ?_
    exact single_nil
  refine' DrawR.op 4 29 4 [(28, some 0), (27, some 1)] rfl rfl (fun rest => ?_) ?_
  rotate_left
  · skip
    refine Run.idx_arr (j := 1) rfl rfl rfl (.at rfl) (.at rfl) ar_30_3_1 (by rfl) (by decide) ?_
    exact single_nil
  refine' DrawR.op 5 30 5 [(29, some 0)] rfl rfl (fun rest => ?_) ?_
  rotate_left
  · skip
    refine Run.load rfl rfl rfl (.at rfl) (place_adr rfl) sc_2 rfl ?_
    exact single_nil
  refine' DrawR.op 6 31 6 [(11, none)] rfl rfl (fun rest => ?_) ?_
  rotate_left
  · skip
    refine Run.move rfl rfl rfl (.at rfl) ?_
    exact single_nil
  refine' DrawR.op 7 32 7 [(9, none)] rfl rfl (fun rest => ?_) ?_
  rotate_left
  · skip
    refine Run.move rfl rfl rfl (.at rfl) ?_
    exact single_nil
  refine' DrawR.op 8 33 8 [(5, none), (31, some 1)] rfl rfl (fun rest => ?_) ?_
  rotate_left
  · skip
    refine Run.idx_arr (j := 1) rfl rfl rfl (.at rfl) (.at rfl) ar_44_3_3 (by rfl) (by decide) ?_
    exact single_nil
  refine' DrawR.op 9 34 9 [(33, some 0), (32, some 1)] rfl rfl (fun rest => ?_) ?_
  rotate_left
  · skip
    refine Run.idx_arr (j := 2) rfl rfl rfl (.at rfl) (.at rfl) ar_30_3_1 (by rfl) (by decide) ?_
    exact single_nil
  refine' DrawR.op 10 35 10 [(34, some 0)] rfl rfl (fun rest => ?_) ?_
  rotate_left
  · skip
    refine Run.load rfl rfl rfl (.at rfl) (place_adr rfl) sc_2 rfl ?_
    exact single_nil
  refine' DrawR.op 11 36 11 [(30, some 5), (35, some 0)] rfl rfl (fun rest => ?_) ?_
  rotate_left
  · skip
    refine Run.mul rfl rfl rfl (.at rfl) (.at rfl) (by have h := prodB hp hm0 hn2; simp only [M3.tr] at h; omega) ?_
    exact single_nil
  refine' DrawR.op 12 37 12 [(25, some 11), (36, some 0)] rfl rfl (fun rest => ?_) ?_
  rotate_left
  · skip
    refine Run.add rfl rfl rfl (.at rfl) (.at rfl) (by have h := prodB hp hm0 hn2; simp only [M3.tr] at h; omega) ?_
    exact single_nil
  refine' DrawR.op 13 10 13 [(37, some 0)] rfl rfl (fun rest => ?_) ?_
  rotate_left
  · skip
    refine Run.assign rfl rfl rfl (.at rfl) ?_
    exact single_nil
  refine DrawR.tail [] rfl (by kernel_rfl) ?_
  refine Run.nil ?_
  refine WP.trim (fr' := [(0, _), (4, _), (5, _), (6, _), (7, _), (8, _), (9, _), (10, _), (11, _)]) (H' := [[(_, [_, _, _, _, _, _, _, _, _])], [(_, [_, _, _, _, _, _, _, _, _])], [(_, [_, _, _, _, _, _, _, _, _])], [(_, [_, _, _, _, _, _, _, _, _])]]) ?_ ⟨rfl, rfl, rfl, rfl, rfl, rfl, rfl, rfl, rfl, trivial⟩ rfl
  refine WP.region (l := [0, 1, 2]) rfl ?_
  refine Run.move rfl rfl rfl (.at rfl) ?_
  refine Run.add rfl rfl rfl (.at rfl) (.at rfl) (by omega) ?_
  refine Run.assign rfl rfl rfl (.at rfl) ?_
  refine Run.nil ?_
  refine LP.trim (fr' := [(0, _), (4, _), (5, _), (6, _), (7, _), (8, _), (9, _), (10, _), (11, _)]) (H' := [[(_, [_, _, _, _, _, _, _, _, _])], [(_, [_, _, _, _, _, _, _, _, _])], [(_, [_, _, _, _, _, _, _, _, _])], [(_, [_, _, _, _, _, _, _, _, _])]]) ?_ ⟨rfl, rfl, rfl, rfl, rfl, rfl, rfl, rfl, rfl, trivial⟩ rfl
  refine LP.round ?_
  refine WP.seq ?_
  refine WP.seq (WP.region (l := [0, 1]) rfl ?_)
  refine Run.move rfl rfl rfl (.at rfl) ?_
  refine Run.int rfl rfl rfl (.at rfl) (.at rfl) rfl ?_
  refine Run.nil ?_
  refine WP.cond_t (.at rfl) rfl ?_
  refine WP.skip ?_
  refine WP.seq ?_
  refine WP.block ?_
  refine WP.draw mx_0 ?_
  refine Drawn.calmR ?_
  refine' DrawR.op 0 25 0 [(10, none)] rfl rfl (fun rest => ?_) ?_
  rotate_left
  · skip
    refine Run.move rfl rfl rfl (.at rfl) ?_
    exact single_nil
  refine' DrawR.op 1 26 1 [(8, none)] rfl rfl (fun rest => ?_) ?_
  rotate_left
  · skip
    refine Run.move rfl rfl rfl (.at rfl) ?_
    exact single_nil
  refine' DrawR.op 2 27 2 [(11, none)] rfl rfl (fun rest => ?_) ?_
  rotate_left
  · skip
    refine Run.move rfl rfl rfl (.at rfl) ?_
    exact single_nil
  refine' DrawR.op 3 28 3 [(4, none), (26, some 1)] rfl rfl (fun rest => ?_) ?_
  rotate_left
  · skip
    refine Run.idx_arr (j := 0) rfl rfl rfl (.at rfl) (.at rfl) ar_44_3_3 (by rfl) (by decide) ?_
    exact single_nil
  refine' DrawR.op 4 29 4 [(28, some 0), (27, some 1)] rfl rfl (fun rest => ?_) ?_
  rotate_left
  · skip
    refine Run.idx_arr (j := 2) rfl rfl rfl (.at rfl) (.at rfl) ar_30_3_1 (by rfl) (by decide) ?_
    exact single_nil
  refine' DrawR.op 5 30 5 [(29, some 0)] rfl rfl (fun rest => ?_) ?_
  rotate_left
  · skip
    refine Run.load rfl rfl rfl (.at rfl) (place_adr rfl) sc_2 rfl ?_
    exact single_nil
  refine' DrawR.op 6 31 6 [(11, none)] rfl rfl (fun rest => ?_) ?_
  rotate_left
  · skip
    refine Run.move rfl rfl rfl (.at rfl) ?_
    exact single_nil
  refine' DrawR.op 7 32 7 [(9, none)] rfl rfl (fun rest => ?_) ?_
  rotate_left
  · skip
    refine Run.move rfl rfl rfl (.at rfl) ?_
    exact single_nil
  refine' DrawR.op 8 33 8 [(5, none), (31, some 1)] rfl rfl (fun rest => ?_) ?_
  rotate_left
  · skip
    refine Run.idx_arr (j := 2) rfl rfl rfl (.at rfl) (.at rfl) ar_44_3_3 (by rfl) (by decide) ?_
    exact single_nil
  refine' DrawR.op 9 34 9 [(33, some 0), (32, some 1)] rfl rfl (fun rest => ?_) ?_
  rotate_left
  · skip
    refine Run.idx_arr (j := 2) rfl rfl rfl (.at rfl) (.at rfl) ar_30_3_1 (by rfl) (by decide) ?_
    exact single_nil
  refine' DrawR.op 10 35 10 [(34, some 0)] rfl rfl (fun rest => ?_) ?_
  rotate_left
  · skip
    refine Run.load rfl rfl rfl (.at rfl) (place_adr rfl) sc_2 rfl ?_
    exact single_nil
  refine' DrawR.op 11 36 11 [(30, some 5), (35, some 0)] rfl rfl (fun rest => ?_) ?_
  rotate_left
  · skip
    refine Run.mul rfl rfl rfl (.at rfl) (.at rfl) (by have h := prodB hp hm0 hn2; simp only [M3.tr] at h; omega) ?_
    exact single_nil
  refine' DrawR.op 12 37 12 [(25, some 11), (36, some 0)] rfl rfl (fun rest => ?_) ?_
  rotate_left
  · skip
    refine Run.add rfl rfl rfl (.at rfl) (.at rfl) (by have h := prodB hp hm0 hn2; simp only [M3.tr] at h; omega) ?_
    exact single_nil
  refine' DrawR.op 13 10 13 [(37, some 0)] rfl rfl (fun rest => ?_) ?_
  rotate_left
  · skip
    refine Run.assign rfl rfl rfl (.at rfl) ?_
    exact single_nil
  refine DrawR.tail [] rfl (by kernel_rfl) ?_
  refine Run.nil ?_
  refine WP.trim (fr' := [(0, _), (4, _), (5, _), (6, _), (7, _), (8, _), (9, _), (10, _), (11, _)]) (H' := [[(_, [_, _, _, _, _, _, _, _, _])], [(_, [_, _, _, _, _, _, _, _, _])], [(_, [_, _, _, _, _, _, _, _, _])], [(_, [_, _, _, _, _, _, _, _, _])]]) ?_ ⟨rfl, rfl, rfl, rfl, rfl, rfl, rfl, rfl, rfl, trivial⟩ rfl
  refine WP.region (l := [0, 1, 2]) rfl ?_
  refine Run.move rfl rfl rfl (.at rfl) ?_
  refine Run.add rfl rfl rfl (.at rfl) (.at rfl) (by omega) ?_
  refine Run.assign rfl rfl rfl (.at rfl) ?_
  refine Run.nil ?_
  refine LP.trim (fr' := [(0, _), (4, _), (5, _), (6, _), (7, _), (8, _), (9, _), (10, _), (11, _)]) (H' := [[(_, [_, _, _, _, _, _, _, _, _])], [(_, [_, _, _, _, _, _, _, _, _])], [(_, [_, _, _, _, _, _, _, _, _])], [(_, [_, _, _, _, _, _, _, _, _])]]) ?_ ⟨rfl, rfl, rfl, rfl, rfl, rfl, rfl, rfl, rfl, trivial⟩ rfl
  refine LP.round ?_
  refine WP.seq ?_
  refine WP.seq (WP.region (l := [0, 1]) rfl ?_)
  refine Run.move rfl rfl rfl (.at rfl) ?_
  refine Run.int rfl rfl rfl (.at rfl) (.at rfl) rfl ?_
  refine Run.nil ?_
  refine WP.cond_f (.at rfl) rfl ?_
  refine WP.exit ?_
  refine WP.draw mx_0 ?_
  refine Drawn.calmR ?_
  refine' DrawR.op 0 38 0 [(8, none)] rfl rfl (fun rest => ?_) ?_
  rotate_left
  · skip
    refine Run.move rfl rfl rfl (.at rfl) ?_
    exact single_nil
  refine' DrawR.op 1 39 1 [(9, none)] rfl rfl (fun rest => ?_) ?_
  rotate_left
  · skip
    refine Run.move rfl rfl rfl (.at rfl) ?_
    exact single_nil
  refine' DrawR.op 2 40 2 [(10, none)] rfl rfl (fun rest => ?_) ?_
  rotate_left
  · skip
    refine Run.move rfl rfl rfl (.at rfl) ?_
    exact single_nil
  refine' DrawR.op 3 41 3 [(0, none)] rfl rfl (fun rest => ?_) ?_
  rotate_left
  · skip
    refine Run.move rfl rfl rfl (.at rfl) ?_
    exact single_nil
  refine' DrawR.op 4 42 4 [(40, some 1), (41, some 0)] rfl rfl (fun rest => ?_) ?_
  rotate_left
  · skip
    refine Run.rem rfl rfl rfl (.at rfl) (.at rfl) (by have h := prodB hp hm0 hn2; simp only [M3.tr] at h; omega) (by omega) ?_
    exact single_nil
  refine' DrawR.op 5 43 5 [(7, none), (38, some 4)] rfl rfl (fun rest => ?_) ?_
  rotate_left
  · skip
    refine Run.idx_arr (j := 0) rfl rfl rfl (.at rfl) (.at rfl) ar_44_3_3 (by rfl) (by decide) ?_
    exact single_nil
  refine' DrawR.op 6 44 6 [(43, some 0), (39, some 4)] rfl rfl (fun rest => ?_) ?_
  rotate_left
  · skip
    refine Run.idx_arr (j := 2) rfl rfl rfl (.at rfl) (.at rfl) ar_30_3_1 (by rfl) (by decide) ?_
    exact single_nil
  refine DrawR.tail [7] rfl (by kernel_rfl) ?_
  refine Run.store (j := 0) rfl rfl (.at rfl) rfl rfl (.at rfl) sz_2_1 rfl rfl (by first | decide | exact Nat.le_of_ble_eq_true rfl) rfl ?_
  refine Run.nil ?_
  refine WP.region (l := [0, 1, 2]) rfl ?_
  refine Run.move rfl rfl rfl (.at rfl) ?_
  refine Run.add rfl rfl rfl (.at rfl) (.at rfl) (by omega) ?_
  refine Run.assign rfl rfl rfl (.at rfl) ?_
  refine Run.nil ?_
  refine LP.trim (fr' := [(0, _), (4, _), (5, _), (6, _), (7, _), (8, _), (9, _)]) (H' := [[(_, [_, _, _, _, _, _, _, _, _])], [(_, [_, _, _, _, _, _, _, _, _])], [(_, [_, _, _, _, _, _, _, _, _])], [(_, [_, _, _, _, _, _, _, _, _])]]) ?_ ⟨rfl, rfl, rfl, rfl, rfl, rfl, rfl, trivial⟩ rfl
  refine LP.round ?_
  refine WP.seq ?_
  refine WP.seq (WP.region (l := [0, 1]) rfl ?_)
  refine Run.move rfl rfl rfl (.at rfl) ?_
  refine Run.int rfl rfl rfl (.at rfl) (.at rfl) rfl ?_
  refine Run.nil ?_
  refine WP.cond_f (.at rfl) rfl ?_
  refine WP.exit ?_
  refine WP.region (l := [0, 1, 2]) rfl ?_
  refine Run.move rfl rfl rfl (.at rfl) ?_
  refine Run.add rfl rfl rfl (.at rfl) (.at rfl) (by omega) ?_
  refine Run.assign rfl rfl rfl (.at rfl) ?_
  refine Run.nil ?_
  refine LP.trim (fr' := [(0, _), (4, _), (5, _), (6, _), (7, _), (8, _)]) (H' := [[(_, [_, _, _, _, _, _, _, _, _])], [(_, [_, _, _, _, _, _, _, _, _])], [(_, [_, _, _, _, _, _, _, _, _])], [(_, [_, _, _, _, _, _, _, _, _])]]) ?_ ⟨rfl, rfl, rfl, rfl, rfl, rfl, trivial⟩ rfl
  refine LP.round ?_
  refine WP.seq ?_
  refine WP.seq (WP.region (l := [0, 1]) rfl ?_)
  refine Run.move rfl rfl rfl (.at rfl) ?_
  refine Run.int rfl rfl rfl (.at rfl) (.at rfl) rfl ?_
  refine Run.nil ?_
  refine WP.cond_t (.at rfl) rfl ?_
  refine WP.skip ?_
  refine WP.seq ?_
  refine WP.block ?_
  refine WP.seq (WP.region (l := [0]) rfl ?_)
  refine Run.assign rfl rfl rfl (.at rfl) ?_
  refine Run.nil ?_
  refine WP.block ?_
  refine WP.loop ?_
  refine LP.trim (fr' := [(0, _), (4, _), (5, _), (6, _), (7, _), (8, _), (9, _)]) (H' := [[(_, [_, _, _, _, _, _, _, _, _])], [(_, [_, _, _, _, _, _, _, _, _])], [(_, [_, _, _, _, _, _, _, _, _])], [(_, [_, _, _, _, _, _, _, _, _])]]) ?_ ⟨rfl, rfl, rfl, rfl, rfl, rfl, rfl, trivial⟩ rfl
  refine LP.round ?_
  refine WP.seq ?_
  refine WP.seq (WP.region (l := [0, 1]) rfl ?_)
  refine Run.move rfl rfl rfl (.at rfl) ?_
  refine Run.int rfl rfl rfl (.at rfl) (.at rfl) rfl ?_
  refine Run.nil ?_
  refine WP.cond_t (.at rfl) rfl ?_
  refine WP.skip ?_
  refine WP.seq ?_
  refine WP.block ?_
  refine WP.seq (WP.region (l := [0]) rfl ?_)
  refine Run.assign rfl rfl rfl (.at rfl) ?_
  refine Run.nil ?_
  refine WP.seq ?_
  refine WP.seq (WP.region (l := [0]) rfl ?_)
  refine Run.assign rfl rfl rfl (.at rfl) ?_
  refine Run.nil ?_
  refine WP.block ?_
  refine WP.loop ?_
  refine LP.trim (fr' := [(0, _), (4, _), (5, _), (6, _), (7, _), (8, _), (9, _), (10, _), (11, _)]) (H' := [[(_, [_, _, _, _, _, _, _, _, _])], [(_, [_, _, _, _, _, _, _, _, _])], [(_, [_, _, _, _, _, _, _, _, _])], [(_, [_, _, _, _, _, _, _, _, _])]]) ?_ ⟨rfl, rfl, rfl, rfl, rfl, rfl, rfl, rfl, rfl, trivial⟩ rfl
  refine LP.round ?_
  refine WP.seq ?_
  refine WP.seq (WP.region (l := [0, 1]) rfl ?_)
  refine Run.move rfl rfl rfl (.at rfl) ?_
  refine Run.int rfl rfl rfl (.at rfl) (.at rfl) rfl ?_
  refine Run.nil ?_
  refine WP.cond_t (.at rfl) rfl ?_
  refine WP.skip ?_
  refine WP.seq ?_
  refine WP.block ?_
  refine WP.draw mx_0 ?_
  refine Drawn.calmR ?_
  refine' DrawR.op 0 25 0 [(10, none)] rfl rfl (fun rest => ?_) ?_
  rotate_left
  · skip
    refine Run.move rfl rfl rfl (.at rfl) ?_
    exact single_nil
  refine' DrawR.op 1 26 1 [(8, none)] rfl rfl (fun rest => ?_) ?_
  rotate_left
  · skip
    refine Run.move rfl rfl rfl (.at rfl) ?_
    exact single_nil
  refine' DrawR.op 2 27 2 [(11, none)] rfl rfl (fun rest => ?_) ?_
  rotate_left
  · skip
    refine Run.move rfl rfl rfl (.at rfl) ?_
    exact single_nil
  refine' DrawR.op 3 28 3 [(4, none), (26, some 1)] rfl rfl (fun rest => ?_) ?_
  rotate_left
  · skip
    refine Run.idx_arr (j := 1) rfl rfl rfl (.at rfl) (.at rfl) ar_44_3_3 (by rfl) (by decide) ?_
    exact single_nil
  refine' DrawR.op 4 29 4 [(28, some 0), (27, some 1)] rfl rfl (fun rest => ?_) ?_
  rotate_left
  · skip
    refine Run.idx_arr (j := 0) rfl rfl rfl (.at rfl) (.at rfl) ar_30_3_1 (by rfl) (by decide) ?_
    exact single_nil
  refine' DrawR.op 5 30 5 [(29, some 0)] rfl rfl (fun rest => ?_) ?_
  rotate_left
  · skip
    refine Run.load rfl rfl rfl (.at rfl) (place_adr rfl) sc_2 rfl ?_
    exact single_nil
  refine' DrawR.op 6 31 6 [(11, none)] rfl rfl (fun rest => ?_) ?_
  rotate_left
  · skip
    refine Run.move rfl rfl rfl (.at rfl) ?_
    exact single_nil
  refine' DrawR.op 7 32 7 [(9, none)] rfl rfl (fun rest => ?_) ?_
  rotate_left
  · skip
    refine Run.move rfl rfl rfl (.at rfl) ?_
    exact single_nil
  refine' DrawR.op 8 33 8 [(5, none), (31, some 1)] rfl rfl (fun rest => ?_) ?_
  rotate_left
  · skip
    refine Run.idx_arr (j := 0) rfl rfl rfl (.at rfl) (.at rfl) ar_44_3_3 (by rfl) (by decide) ?_
    exact single_nil
  refine' DrawR.op 9 34 9 [(33, some 0), (32, some 1)] rfl rfl (fun rest => ?_) ?_
  rotate_left
  · skip
    refine Run.idx_arr (j := 0) rfl rfl rfl (.at rfl) (.at rfl) ar_30_3_1 (by rfl) (by decide) ?_
    exact single_nil
  refine' DrawR.op 10 35 10 [(34, some 0)] rfl rfl (fun rest => ?_) ?_
  rotate_left
  · skip
    refine Run.load rfl rfl rfl (.at rfl) (place_adr rfl) sc_2 rfl ?_
    exact single_nil
  refine' DrawR.op 11 36 11 [(30, some 5), (35, some 0)] rfl rfl (fun rest => ?_) ?_
  rotate_left
  · skip
    refine Run.mul rfl rfl rfl (.at rfl) (.at rfl) (by have h := prodB hp hm1 hn0; simp only [M3.tr] at h; omega) ?_
    exact single_nil
  refine' DrawR.op 12 37 12 [(25, some 11), (36, some 0)] rfl rfl (fun rest => ?_) ?_
  rotate_left
  · skip
    refine Run.add rfl rfl rfl (.at rfl) (.at rfl) (by have h := prodB hp hm1 hn0; simp only [M3.tr] at h; omega) ?_
    exact single_nil
  refine' DrawR.op 13 10 13 [(37, some 0)] rfl rfl (fun rest => ?_) ?_
  rotate_left
  · skip
    refine Run.assign rfl rfl rfl (.at rfl) ?_
    exact single_nil
  refine DrawR.tail [] rfl (by kernel_rfl) ?_
  refine Run.nil ?_
  refine WP.trim (fr' := [(0, _), (4, _), (5, _), (6, _), (7, _), (8, _), (9, _), (10, _), (11, _)]) (H' := [[(_, [_, _, _, _, _, _, _, _, _])], [(_, [_, _, _, _, _, _, _, _, _])], [(_, [_, _, _, _, _, _, _, _, _])], [(_, [_, _, _, _, _, _, _, _, _])]]) ?_ ⟨rfl, rfl, rfl, rfl, rfl, rfl, rfl, rfl, rfl, trivial⟩ rfl
  refine WP.region (l := [0, 1, 2]) rfl ?_
  refine Run.move rfl rfl rfl (.at rfl) ?_
  refine Run.add rfl rfl rfl (.at rfl) (.at rfl) (by omega) ?_
  refine Run.assign rfl rfl rfl (.at rfl) ?_
  refine Run.nil ?_
  refine LP.trim (fr' := [(0, _), (4, _), (5, _), (6, _), (7, _), (8, _), (9, _), (10, _), (11, _)]) (H' := [[(_, [_, _, _, _, _, _, _, _, _])], [(_, [_, _, _, _, _, _, _, _, _])], [(_, [_, _, _, _, _, _, _, _, _])], [(_, [_, _, _, _, _, _, _, _, _])]]) ?_ ⟨rfl, rfl, rfl, rfl, rfl, rfl, rfl, rfl, rfl, trivial⟩ rfl
  refine LP.round ?_
  refine WP.seq ?_
  refine WP.seq (WP.region (l := [0, 1]) rfl ?_)
  refine Run.move rfl rfl rfl (.at rfl) ?_
  refine Run.int rfl rfl rfl (.at rfl) (.at rfl) rfl ?_
  refine Run.nil ?_
  refine WP.cond_t (.at rfl) rfl ?_
  refine WP.skip ?_
  refine WP.seq ?_
  refine WP.block ?_
  refine WP.draw mx_0 ?_
  refine Drawn.calmR ?_
  refine' DrawR.op 0 25 0 [(10, none)] rfl rfl (fun rest => ?_) ?_
  rotate_left
  · skip
    refine Run.move rfl rfl rfl (.at rfl) ?_
    exact single_nil
  refine' DrawR.op 1 26 1 [(8, none)] rfl rfl (fun rest => ?_) ?_
  rotate_left
  · skip
    refine Run.move rfl rfl rfl (.at rfl) ?_
    exact single_nil
  refine' DrawR.op 2 27 2 [(11, none)] rfl rfl (fun rest => ?_) ?_
  rotate_left
  · skip
    refine Run.move rfl rfl rfl (.at rfl) ?_
    exact single_nil
  refine' DrawR.op 3 28 3 [(4, none), (26, some 1)] rfl rfl (fun rest => ?_) ?_
  rotate_left
  · skip
    refine Run.idx_arr (j := 1) rfl rfl rfl (.at rfl) (.at rfl) ar_44_3_3 (by rfl) (by decide) ?_
    exact single_nil
  refine' DrawR.op 4 29 4 [(28, some 0), (27, some 1)] rfl rfl (fun rest => ?_) ?_
  rotate_left
  · skip
    refine Run.idx_arr (j := 1) rfl rfl rfl (.at rfl) (.at rfl) ar_30_3_1 (by rfl) (by decide) ?_
    exact single_nil
  refine' DrawR.op 5 30 5 [(29, some 0)] rfl rfl (fun rest => ?_) ?_
  rotate_left
  · skip
    refine Run.load rfl rfl rfl (.at rfl) (place_adr rfl) sc_2 rfl ?_
    exact single_nil
  refine' DrawR.op 6 31 6 [(11, none)] rfl rfl (fun rest => ?_) ?_
  rotate_left
  · skip
    refine Run.move rfl rfl rfl (.at rfl) ?_
    exact single_nil
  refine' DrawR.op 7 32 7 [(9, none)] rfl rfl (fun rest => ?_) ?_
  rotate_left
  · skip
    refine Run.move rfl rfl rfl (.at rfl) ?_
    exact single_nil
  refine' DrawR.op 8 33 8 [(5, none), (31, some 1)] rfl rfl (fun rest => ?_) ?_
  rotate_left
  · skip
    refine Run.idx_arr (j := 1) rfl rfl rfl (.at rfl) (.at rfl) ar_44_3_3 (by rfl) (by decide) ?_
    exact single_nil
  refine' DrawR.op 9 34 9 [(33, some 0), (32, some 1)] rfl rfl (fun rest => ?_) ?_
  rotate_left
  · skip
    refine Run.idx_arr (j := 0) rfl rfl rfl (.at rfl) (.at rfl) ar_30_3_1 (by rfl) (by decide) ?_
    exact single_nil
  refine' DrawR.op 10 35 10 [(34, some 0)] rfl rfl (fun rest => ?_) ?_
  rotate_left
  · skip
    refine Run.load rfl rfl rfl (.at rfl) (place_adr rfl) sc_2 rfl ?_
    exact single_nil
  refine' DrawR.op 11 36 11 [(30, some 5), (35, some 0)] rfl rfl (fun rest => ?_) ?_
  rotate_left
  · skip
    refine Run.mul rfl rfl rfl (.at rfl) (.at rfl) (by have h := prodB hp hm1 hn0; simp only [M3.tr] at h; omega) ?_
    exact single_nil
  refine' DrawR.op 12 37 12 [(25, some 11), (36, some 0)] rfl rfl (fun rest => ?_) ?_
  rotate_left
  · skip
    refine Run.add rfl rfl rfl (.at rfl) (.at rfl) (by have h := prodB hp hm1 hn0; simp only [M3.tr] at h; omega) ?_
    exact single_nil
  refine' DrawR.op 13 10 13 [(37, some 0)] rfl rfl (fun rest => ?_) ?_
  rotate_left
  · skip
    refine Run.assign rfl rfl rfl (.at rfl) ?_
    exact single_nil
  refine DrawR.tail [] rfl (by kernel_rfl) ?_
  refine Run.nil ?_
  refine WP.trim (fr' := [(0, _), (4, _), (5, _), (6, _), (7, _), (8, _), (9, _), (10, _), (11, _)]) (H' := [[(_, [_, _, _, _, _, _, _, _, _])], [(_, [_, _, _, _, _, _, _, _, _])], [(_, [_, _, _, _, _, _, _, _, _])], [(_, [_, _, _, _, _, _, _, _, _])]]) ?_ ⟨rfl, rfl, rfl, rfl, rfl, rfl, rfl, rfl, rfl, trivial⟩ rfl
  refine WP.region (l := [0, 1, 2]) rfl ?_
  refine Run.move rfl rfl rfl (.at rfl) ?_
  refine Run.add rfl rfl rfl (.at rfl) (.at rfl) (by omega) ?_
  refine Run.assign rfl rfl rfl (.at rfl) ?_
  refine Run.nil ?_
  refine LP.trim (fr' := [(0, _), (4, _), (5, _), (6, _), (7, _), (8, _), (9, _), (10, _), (11, _)]) (H' := [[(_, [_, _, _, _, _, _, _, _, _])], [(_, [_, _, _, _, _, _, _, _, _])], [(_, [_, _, _, _, _, _, _, _, _])], [(_, [_, _, _, _, _, _, _, _, _])]]) ?_ ⟨rfl, rfl, rfl, rfl, rfl, rfl, rfl, rfl, rfl, trivial⟩ rfl
  refine LP.round ?_
  refine WP.seq ?_
  refine WP.seq (WP.region (l := [0, 1]) rfl ?_)
  refine Run.move rfl rfl rfl (.at rfl) ?_
  refine Run.int rfl rfl rfl (.at rfl) (.at rfl) rfl ?_
  refine Run.nil ?_
  refine WP.cond_t (.at rfl) rfl ?_
  refine WP.skip ?_
  refine WP.seq ?_
  refine WP.block ?_
  refine WP.draw mx_0 ?_
  refine Drawn.calmR ?_
  refine' DrawR.op 0 25 0 [(10, none)] rfl rfl (fun rest => ?_) ?_
  rotate_left
  · skip
    refine Run.move rfl rfl rfl (.at rfl) ?_
    exact single_nil
  refine' DrawR.op 1 26 1 [(8, none)] rfl rfl (fun rest => ?_) ?_
  rotate_left
  · skip
    refine Run.move rfl rfl rfl (.at rfl) ?_
    exact single_nil
  refine' DrawR.op 2 27 2 [(11, none)] rfl rfl (fun rest => ?_) ?_
  rotate_left
  · skip
    refine Run.move rfl rfl rfl (.at rfl) ?_
    exact single_nil
  refine' DrawR.op 3 28 3 [(4, none), (26, some 1)] rfl rfl (fun rest => ?_) ?_
  rotate_left
  · skip
    refine Run.idx_arr (j := 1) rfl rfl rfl (.at rfl) (.at rfl) ar_44_3_3 (by rfl) (by decide) ?_
    exact single_nil
  refine' DrawR.op 4 29 4 [(28, some 0), (27, some 1)] rfl rfl (fun rest => ?_) ?_
  rotate_left
  · skip
    refine Run.idx_arr (j := 2) rfl rfl rfl (.at rfl) (.at rfl) ar_30_3_1 (by rfl) (by decide) ?_
    exact single_nil
  refine' DrawR.op 5 30 5 [(29, some 0)] rfl rfl (fun rest => ?_) ?_
  rotate_left
  · skip
    refine Run.load rfl rfl rfl (.at rfl) (place_adr rfl) sc_2 rfl ?_
    exact single_nil
  refine' DrawR.op 6 31 6 [(11, none)] rfl rfl (fun rest => ?_) ?_
  rotate_left
  · skip
    refine Run.move rfl rfl rfl (.at rfl) ?_
    exact single_nil
  refine' DrawR.op 7 32 7 [(9, none)] rfl rfl (fun rest => ?_) ?_
  rotate_left
  · skip
    refine Run.move rfl rfl rfl (.at rfl) ?_
    exact single_nil
  refine' DrawR.op 8 33 8 [(5, none), (31, some 1)] rfl rfl (fun rest => ?_) ?_
  rotate_left
  · skip
    refine Run.idx_arr (j := 2) rfl rfl rfl (.at rfl) (.at rfl) ar_44_3_3 (by rfl) (by decide) ?_
    exact single_nil
  refine' DrawR.op 9 34 9 [(33, some 0), (32, some 1)] rfl rfl (fun rest => ?_) ?_
  rotate_left
  · skip
    refine Run.idx_arr (j := 0) rfl rfl rfl (.at rfl) (.at rfl) ar_30_3_1 (by rfl) (by decide) ?_
    exact single_nil
  refine' DrawR.op 10 35 10 [(34, some 0)] rfl rfl (fun rest => ?_) ?_
  rotate_left
  · skip
    refine Run.load rfl rfl rfl (.at rfl) (place_adr rfl) sc_2 rfl ?_
    exact single_nil
  refine' DrawR.op 11 36 11 [(30, some 5), (35, some 0)] rfl rfl (fun rest => ?_) ?_
  rotate_left
  · skip
    refine Run.mul rfl rfl rfl (.at rfl) (.at rfl) (by have h := prodB hp hm1 hn0; simp only [M3.tr] at h; omega) ?_
    exact single_nil
  refine' DrawR.op 12 37 12 [(25, some 11), (36, some 0)] rfl rfl (fun rest => ?_) ?_
  rotate_left
  · skip
    refine Run.add rfl rfl rfl (.at rfl) (.at rfl) (by have h := prodB hp hm1 hn0; simp only [M3.tr] at h; omega) ?_
    exact single_nil
  refine' DrawR.op 13 10 13 [(37, some 0)] rfl rfl (fun rest => ?_) ?_
  rotate_left
  · skip
    refine Run.assign rfl rfl rfl (.at rfl) ?_
    exact single_nil
  refine DrawR.tail [] rfl (by kernel_rfl) ?_
  refine Run.nil ?_
  refine WP.trim (fr' := [(0, _), (4, _), (5, _), (6, _), (7, _), (8, _), (9, _), (10, _), (11, _)]) (H' := [[(_, [_, _, _, _, _, _, _, _, _])], [(_, [_, _, _, _, _, _, _, _, _])], [(_, [_, _, _, _, _, _, _, _, _])], [(_, [_, _, _, _, _, _, _, _, _])]]) ?_ ⟨rfl, rfl, rfl, rfl, rfl, rfl, rfl, rfl, rfl, trivial⟩ rfl
  refine WP.region (l := [0, 1, 2]) rfl ?_
  refine Run.move rfl rfl rfl (.at rfl) ?_
  refine Run.add rfl rfl rfl (.at rfl) (.at rfl) (by omega) ?_
  refine Run.assign rfl rfl rfl (.at rfl) ?_
  refine Run.nil ?_
  refine LP.trim (fr' := [(0, _), (4, _), (5, _), (6, _), (7, _), (8, _), (9, _), (10, _), (11, _)]) (H' := [[(_, [_, _, _, _, _, _, _, _, _])], [(_, [_, _, _, _, _, _, _, _, _])], [(_, [_, _, _, _, _, _, _, _, _])], [(_, [_, _, _, _, _, _, _, _, _])]]) ?_ ⟨rfl, rfl, rfl, rfl, rfl, rfl, rfl, rfl, rfl, trivial⟩ rfl
  refine LP.round ?_
  refine WP.seq ?_
  refine WP.seq (WP.region (l := [0, 1]) rfl ?_)
  refine Run.move rfl rfl rfl (.at rfl) ?_
  refine Run.int rfl rfl rfl (.at rfl) (.at rfl) rfl ?_
  refine Run.nil ?_
  refine WP.cond_f (.at rfl) rfl ?_
  refine WP.exit ?_
  refine WP.draw mx_0 ?_
  refine Drawn.calmR ?_
  refine' DrawR.op 0 38 0 [(8, none)] rfl rfl (fun rest => ?_) ?_
  rotate_left
  · skip
    refine Run.move rfl rfl rfl (.at rfl) ?_
    exact single_nil
  refine' DrawR.op 1 39 1 [(9, none)] rfl rfl (fun rest => ?_) ?_
  rotate_left
  · skip
    refine Run.move rfl rfl rfl (.at rfl) ?_
    exact single_nil
  refine' DrawR.op 2 40 2 [(10, none)] rfl rfl (fun rest => ?_) ?_
  rotate_left
  · skip
    refine Run.move rfl rfl rfl (.at rfl) ?_
    exact single_nil
  refine' DrawR.op 3 41 3 [(0, none)] rfl rfl (fun rest => ?_) ?_
  rotate_left
  · skip
    refine Run.move rfl rfl rfl (.at rfl) ?_
    exact single_nil
  refine' DrawR.op 4 42 4 [(40, some 1), (41, some 0)] rfl rfl (fun rest => ?_) ?_
  rotate_left
  · skip
    refine Run.rem rfl rfl rfl (.at rfl) (.at rfl) (by have h := prodB hp hm1 hn0; simp only [M3.tr] at h; omega) (by omega) ?_
    exact single_nil
  refine' DrawR.op 5 43 5 [(7, none), (38, some 4)] rfl rfl (fun rest => ?_) ?_
  rotate_left
  · skip
    refine Run.idx_arr (j := 1) rfl rfl rfl (.at rfl) (.at rfl) ar_44_3_3 (by rfl) (by decide) ?_
    exact single_nil
  refine' DrawR.op 6 44 6 [(43, some 0), (39, some 4)] rfl rfl (fun rest => ?_) ?_
  rotate_left
  · skip
    refine Run.idx_arr (j := 0) rfl rfl rfl (.at rfl) (.at rfl) ar_30_3_1 (by rfl) (by decide) ?_
    exact single_nil
  refine DrawR.tail [7] rfl (by kernel_rfl) ?_
  refine Run.store (j := 0) rfl rfl (.at rfl) rfl rfl (.at rfl) sz_2_1 rfl rfl (by first | decide | exact Nat.le_of_ble_eq_true rfl) rfl ?_
  refine Run.nil ?_
  refine WP.region (l := [0, 1, 2]) rfl ?_
  refine Run.move rfl rfl rfl (.at rfl) ?_
  refine Run.add rfl rfl rfl (.at rfl) (.at rfl) (by omega) ?_
  refine Run.assign rfl rfl rfl (.at rfl) ?_
  refine Run.nil ?_
  refine LP.trim (fr' := [(0, _), (4, _), (5, _), (6, _), (7, _), (8, _), (9, _)]) (H' := [[(_, [_, _, _, _, _, _, _, _, _])], [(_, [_, _, _, _, _, _, _, _, _])], [(_, [_, _, _, _, _, _, _, _, _])], [(_, [_, _, _, _, _, _, _, _, _])]]) ?_ ⟨rfl, rfl, rfl, rfl, rfl, rfl, rfl, trivial⟩ rfl
  refine LP.round ?_
  refine WP.seq ?_
  refine WP.seq (WP.region (l := [0, 1]) rfl ?_)
  refine Run.move rfl rfl rfl (.at rfl) ?_
  refine Run.int rfl rfl rfl (.at rfl) (.at rfl) rfl ?_
  refine Run.nil ?_
  refine WP.cond_t (.at rfl) rfl ?_
  refine WP.skip ?_
  refine WP.seq ?_
  refine WP.block ?_
  refine WP.seq (WP.region (l := [0]) rfl ?_)
  refine Run.assign rfl rfl rfl (.at rfl) ?_
  refine Run.nil ?_
  refine WP.seq ?_
  refine WP.seq (WP.region (l := [0]) rfl ?_)
  refine Run.assign rfl rfl rfl (.at rfl) ?_
  refine Run.nil ?_
  refine WP.block ?_
  refine WP.loop ?_
  refine LP.trim (fr' := [(0, _), (4, _), (5, _), (6, _), (7, _), (8, _), (9, _), (10, _), (11, _)]) (H' := [[(_, [_, _, _, _, _, _, _, _, _])], [(_, [_, _, _, _, _, _, _, _, _])], [(_, [_, _, _, _, _, _, _, _, _])], [(_, [_, _, _, _, _, _, _, _, _])]]) ?_ ⟨rfl, rfl, rfl, rfl, rfl, rfl, rfl, rfl, rfl, trivial⟩ rfl
  refine LP.round ?_
  refine WP.seq ?_
  refine WP.seq (WP.region (l := [0, 1]) rfl ?_)
  refine Run.move rfl rfl rfl (.at rfl) ?_
  refine Run.int rfl rfl rfl (.at rfl) (.at rfl) rfl ?_
  refine Run.nil ?_
  refine WP.cond_t (.at rfl) rfl ?_
  refine WP.skip ?_
  refine WP.seq ?_
  refine WP.block ?_
  refine WP.draw mx_0 ?_
  refine Drawn.calmR ?_
  refine' DrawR.op 0 25 0 [(10, none)] rfl rfl (fun rest => ?_) ?_
  rotate_left
  · skip
    refine Run.move rfl rfl rfl (.at rfl) ?_
    exact single_nil
  refine' DrawR.op 1 26 1 [(8, none)] rfl rfl (fun rest => ?_) ?_
  rotate_left
  · skip
    refine Run.move rfl rfl rfl (.at rfl) ?_
    exact single_nil
  refine' DrawR.op 2 27 2 [(11, none)] rfl rfl (fun rest => ?_) ?_
  rotate_left
  · skip
    refine Run.move rfl rfl rfl (.at rfl) ?_
    exact single_nil
  refine' DrawR.op 3 28 3 [(4, none), (26, some 1)] rfl rfl (fun rest => ?_) ?_
  rotate_left
  · skip
    refine Run.idx_arr (j := 1) rfl rfl rfl (.at rfl) (.at rfl) ar_44_3_3 (by rfl) (by decide) ?_
    exact single_nil
  refine' DrawR.op 4 29 4 [(28, some 0), (27, some 1)] rfl rfl (fun rest => ?_) ?_
  rotate_left
  · skip
    refine Run.idx_arr (j := 0) rfl rfl rfl (.at rfl) (.at rfl) ar_30_3_1 (by rfl) (by decide) ?_
    exact single_nil
  refine' DrawR.op 5 30 5 [(29, some 0)] rfl rfl (fun rest => ?_) ?_
  rotate_left
  · skip
    refine Run.load rfl rfl rfl (.at rfl) (place_adr rfl) sc_2 rfl ?_
    exact single_nil
  refine' DrawR.op 6 31 6 [(11, none)] rfl rfl (fun rest => ?_) ?_
  rotate_left
  · skip
    refine Run.move rfl rfl rfl (.at rfl) ?_
    exact single_nil
  refine' DrawR.op 7 32 7 [(9, none)] rfl rfl (fun rest => ?_) ?_
  rotate_left
  · skip
    refine Run.move rfl rfl rfl (.at rfl) ?_
    exact single_nil
  refine' DrawR.op 8 33 8 [(5, none), (31, some 1)] rfl rfl (fun rest => ?_) ?_
  rotate_left
  · skip
    refine Run.idx_arr (j := 0) rfl rfl rfl (.at rfl) (.at rfl) ar_44_3_3 (by rfl) (by decide) ?_
    exact single_nil
  refine' DrawR.op 9 34 9 [(33, some 0), (32, some 1)] rfl rfl (fun rest => ?_) ?_
  rotate_left
  · skip
    refine Run.idx_arr (j := 1) rfl rfl rfl (.at rfl) (.at rfl) ar_30_3_1 (by rfl) (by decide) ?_
    exact single_nil
  refine' DrawR.op 10 35 10 [(34, some 0)] rfl rfl (fun rest => ?_) ?_
  rotate_left
  · skip
    refine Run.load rfl rfl rfl (.at rfl) (place_adr rfl) sc_2 rfl ?_
    exact single_nil
  refine' DrawR.op 11 36 11 [(30, some 5), (35, some 0)] rfl rfl (fun rest => ?_) ?_
  rotate_left
  · skip
    refine Run.mul rfl rfl rfl (.at rfl) (.at rfl) (by have h := prodB hp hm1 hn1; simp only [M3.tr] at h; omega) ?_
    exact single_nil
  refine' DrawR.op 12 37 12 [(25, some 11), (36, some 0)] rfl rfl (fun rest => ?_) ?_
  rotate_left
  · skip
    refine Run.add rfl rfl rfl (.at rfl) (.at rfl) (by have h := prodB hp hm1 hn1; simp only [M3.tr] at h; omega) ?_
    exact single_nil
  refine' DrawR.op 13 10 13 [(37, some 0)] rfl rfl (fun rest => ?_) ?_
  rotate_left
  · skip
    refine Run.assign rfl rfl rfl (.at rfl) ?_
    exact single_nil
  refine DrawR.tail [] rfl (by kernel_rfl) ?_
  refine Run.nil ?_
  refine WP.trim (fr' := [(0, _), (4, _), (5, _), (6, _), (7, _), (8, _), (9, _), (10, _), (11, _)]) (H' := [[(_, [_, _, _, _, _, _, _, _, _])], [(_, [_, _, _, _, _, _, _, _, _])], [(_, [_, _, _, _, _, _, _, _, _])], [(_, [_, _, _, _, _, _, _, _, _])]]) ?_ ⟨rfl, rfl, rfl, rfl, rfl, rfl, rfl, rfl, rfl, trivial⟩ rfl
  refine WP.region (l := [0, 1, 2]) rfl ?_
  refine Run.move rfl rfl rfl (.at rfl) ?_
  refine Run.add rfl rfl rfl (.at rfl) (.at rfl) (by omega) ?_
  refine Run.assign rfl rfl rfl (.at rfl) ?_
  refine Run.nil ?_
  refine LP.trim (fr' := [(0, _), (4, _), (5, _), (6, _), (7, _), (8, _), (9, _), (10, _), (11, _)]) (H' := [[(_, [_, _, _, _, _, _, _, _, _])], [(_, [_, _, _, _, _, _, _, _, _])], [(_, [_, _, _, _, _, _, _, _, _])], [(_, [_, _, _, _, _, _, _, _, _])]]) ?_ ⟨rfl, rfl, rfl, rfl, rfl, rfl, rfl, rfl, rfl, trivial⟩ rfl
  refine LP.round ?_
  refine WP.seq ?_
  refine WP.seq (WP.region (l := [0, 1]) rfl ?_)
  refine Run.move rfl rfl rfl (.at rfl) ?_
  refine Run.int rfl rfl rfl (.at rfl) (.at rfl) rfl ?_
  refine Run.nil ?_
  refine WP.cond_t (.at rfl) rfl ?_
  refine WP.skip ?_
  refine WP.seq ?_
  refine WP.block ?_
  refine WP.draw mx_0 ?_
  refine Drawn.calmR ?_
  refine' DrawR.op 0 25 0 [(10, none)] rfl rfl (fun rest => ?_) ?_
  rotate_left
  · skip
    refine Run.move rfl rfl rfl (.at rfl) ?_
    exact single_nil
  refine' DrawR.op 1 26 1 [(8, none)] rfl rfl (fun rest => ?_) ?_
  rotate_left
  · skip
    refine Run.move rfl rfl rfl (.at rfl) ?_
    exact single_nil
  refine' DrawR.op 2 27 2 [(11, none)] rfl rfl (fun rest => ?_) ?_
  rotate_left
  · skip
    refine Run.move rfl rfl rfl (.at rfl) ?_
    exact single_nil
  refine' DrawR.op 3 28 3 [(4, none), (26, some 1)] rfl rfl (fun rest => ?_) ?_
  rotate_left
  · skip
    refine Run.idx_arr (j := 1) rfl rfl rfl (.at rfl) (.at rfl) ar_44_3_3 (by rfl) (by decide) ?_
    exact single_nil
  refine' DrawR.op 4 29 4 [(28, some 0), (27, some 1)] rfl rfl (fun rest => ?_) ?_
  rotate_left
  · skip
    refine Run.idx_arr (j := 1) rfl rfl rfl (.at rfl) (.at rfl) ar_30_3_1 (by rfl) (by decide) ?_
    exact single_nil
  refine' DrawR.op 5 30 5 [(29, some 0)] rfl rfl (fun rest => ?_) ?_
  rotate_left
  · skip
    refine Run.load rfl rfl rfl (.at rfl) (place_adr rfl) sc_2 rfl ?_
    exact single_nil
  refine' DrawR.op 6 31 6 [(11, none)] rfl rfl (fun rest => ?_) ?_
  rotate_left
  · skip
    refine Run.move rfl rfl rfl (.at rfl) ?_
    exact single_nil
  refine' DrawR.op 7 32 7 [(9, none)] rfl rfl (fun rest => ?_) ?_
  rotate_left
  · skip
    refine Run.move rfl rfl rfl (.at rfl) ?_
    exact single_nil
  refine' DrawR.op 8 33 8 [(5, none), (31, some 1)] rfl rfl (fun rest => ?_) ?_
  rotate_left
  · skip
    refine Run.idx_arr (j := 1) rfl rfl rfl (.at rfl) (.at rfl) ar_44_3_3 (by rfl) (by decide) ?_
    exact single_nil
  refine' DrawR.op 9 34 9 [(33, some 0), (32, some 1)] rfl rfl (fun rest => ?_) ?_
  rotate_left
  · skip
    refine Run.idx_arr (j := 1) rfl rfl rfl (.at rfl) (.at rfl) ar_30_3_1 (by rfl) (by decide) ?_
    exact single_nil
  refine' DrawR.op 10 35 10 [(34, some 0)] rfl rfl (fun rest => ?_) ?_
  rotate_left
  · skip
    refine Run.load rfl rfl rfl (.at rfl) (place_adr rfl) sc_2 rfl ?_
    exact single_nil
  refine' DrawR.op 11 36 11 [(30, some 5), (35, some 0)] rfl rfl (fun rest => ?_) ?_
  rotate_left
  · skip
    refine Run.mul rfl rfl rfl (.at rfl) (.at rfl) (by have h := prodB hp hm1 hn1; simp only [M3.tr] at h; omega) ?_
    exact single_nil
  refine' DrawR.op 12 37 12 [(25, some 11), (36, some 0)] rfl rfl (fun rest => ?_) ?_
  rotate_left
  · skip
    refine Run.add rfl rfl rfl (.at rfl) (.at rfl) (by have h := prodB hp hm1 hn1; simp only [M3.tr] at h; omega) ?_
    exact single_nil
  refine' DrawR.op 13 10 13 [(37, some 0)] rfl rfl (fun rest => ?_) ?_
  rotate_left
  · skip
    refine Run.assign rfl rfl rfl (.at rfl) ?_
    exact single_nil
  refine DrawR.tail [] rfl (by kernel_rfl) ?_
  refine Run.nil ?_
  refine WP.trim (fr' := [(0, _), (4, _), (5, _), (6, _), (7, _), (8, _), (9, _), (10, _), (11, _)]) (H' := [[(_, [_, _, _, _, _, _, _, _, _])], [(_, [_, _, _, _, _, _, _, _, _])], [(_, [_, _, _, _, _, _, _, _, _])], [(_, [_, _, _, _, _, _, _, _, _])]]) ?_ ⟨rfl, rfl, rfl, rfl, rfl, rfl, rfl, rfl, rfl, trivial⟩ rfl
  refine WP.region (l := [0, 1, 2]) rfl ?_
  refine Run.move rfl rfl rfl (.at rfl) ?_
  refine Run.add rfl rfl rfl (.at rfl) (.at rfl) (by omega) ?_
  refine Run.assign rfl rfl rfl (.at rfl) ?_
  refine Run.nil ?_
  refine LP.trim (fr' := [(0, _), (4, _), (5, _), (6, _), (7, _), (8, _), (9, _), (10, _), (11, _)]) (H' := [[(_, [_, _, _, _, _, _, _, _, _])], [(_, [_, _, _, _, _, _, _, _, _])], [(_, [_, _, _, _, _, _, _, _, _])], [(_, [_, _, _, _, _, _, _, _, _])]]) ?_ ⟨rfl, rfl, rfl, rfl, rfl, rfl, rfl, rfl, rfl, trivial⟩ rfl
  refine LP.round ?_
  refine WP.seq ?_
  refine WP.seq (WP.region (l := [0, 1]) rfl ?_)
  refine Run.move rfl rfl rfl (.at rfl) ?_
  refine Run.int rfl rfl rfl (.at rfl) (.at rfl) rfl ?_
  refine Run.nil ?_
  refine WP.cond_t (.at rfl) rfl ?_
  refine WP.skip ?_
  refine WP.seq ?_
  refine WP.block ?_
  refine WP.draw mx_0 ?_
  refine Drawn.calmR ?_
  refine' DrawR.op 0 25 0 [(10, none)] rfl rfl (fun rest => ?_) ?_
  rotate_left
  · skip
    refine Run.move rfl rfl rfl (.at rfl) ?_
    exact single_nil
  refine' DrawR.op 1 26 1 [(8, none)] rfl rfl (fun rest => ?_) ?_
  rotate_left
  · skip
    refine Run.move rfl rfl rfl (.at rfl) ?_
    exact single_nil
  refine' DrawR.op 2 27 2 [(11, none)] rfl rfl (fun rest => ?_) ?_
  rotate_left
  · skip
    refine Run.move rfl rfl rfl (.at rfl) ?_
    exact single_nil
  refine' DrawR.op 3 28 3 [(4, none), (26, some 1)] rfl rfl (fun rest => ?_) ?_
  rotate_left
  · skip
    refine Run.idx_arr (j := 1) rfl rfl rfl (.at rfl) (.at rfl) ar_44_3_3 (by rfl) (by decide) ?_
    exact single_nil
  refine' DrawR.op 4 29 4 [(28, some 0), (27, some 1)] rfl rfl (fun rest => ?_) ?_
  rotate_left
  · skip
    refine Run.idx_arr (j := 2) rfl rfl rfl (.at rfl) (.at rfl) ar_30_3_1 (by rfl) (by decide) ?_
    exact single_nil
  refine' DrawR.op 5 30 5 [(29, some 0)] rfl rfl (fun rest => ?_) ?_
  rotate_left
  · skip
    refine Run.load rfl rfl rfl (.at rfl) (place_adr rfl) sc_2 rfl ?_
    exact single_nil
  refine' DrawR.op 6 31 6 [(11, none)] rfl rfl (fun rest => ?_) ?_
  rotate_left
  · skip
    refine Run.move rfl rfl rfl (.at rfl) ?_
    exact single_nil
  refine' DrawR.op 7 32 7 [(9, none)] rfl rfl (fun rest => ?_) ?_
  rotate_left
  · skip
    refine Run.move rfl rfl rfl (.at rfl) ?_
    exact single_nil
  refine' DrawR.op 8 33 8 [(5, none), (31, some 1)] rfl rfl (fun rest => ?_) ?_
  rotate_left
  · skip
    refine Run.idx_arr (j := 2) rfl rfl rfl (.at rfl) (.at rfl) ar_44_3_3 (by rfl) (by decide) ?_
    exact single_nil
  refine' DrawR.op 9 34 9 [(33, some 0), (32, some 1)] rfl rfl (fun rest => ?_) ?_
  rotate_left
  · skip
    refine Run.idx_arr (j := 1) rfl rfl rfl (.at rfl) (.at rfl) ar_30_3_1 (by rfl) (by decide) ?_
    exact single_nil
  refine' DrawR.op 10 35 10 [(34, some 0)] rfl rfl (fun rest => ?_) ?_
  rotate_left
  · skip
    refine Run.load rfl rfl rfl (.at rfl) (place_adr rfl) sc_2 rfl ?_
    exact single_nil
  refine' DrawR.op 11 36 11 [(30, some 5), (35, some 0)] rfl rfl (fun rest => ?_) ?_
  rotate_left
  · skip
    refine Run.mul rfl rfl rfl (.at rfl) (.at rfl) (by have h := prodB hp hm1 hn1; simp only [M3.tr] at h; omega) ?_
    exact single_nil
  refine' DrawR.op 12 37 12 [(25, some 11), (36, some 0)] rfl rfl (fun rest => ?_) ?_
  rotate_left
  · skip
    refine Run.add rfl rfl rfl (.at rfl) (.at rfl) (by have h := prodB hp hm1 hn1; simp only [M3.tr] at h; omega) ?_
    exact single_nil
  refine' DrawR.op 13 10 13 [(37, some 0)] rfl rfl (fun rest => ?_) ?_
  rotate_left
  · skip
    refine Run.assign rfl rfl rfl (.at rfl) ?_
    exact single_nil
  refine DrawR.tail [] rfl (by kernel_rfl) ?_
  refine Run.nil ?_
  refine WP.trim (fr' := [(0, _), (4, _), (5, _), (6, _), (7, _), (8, _), (9, _), (10, _), (11, _)]) (H' := [[(_, [_, _, _, _, _, _, _, _, _])], [(_, [_, _, _, _, _, _, _, _, _])], [(_, [_, _, _, _, _, _, _, _, _])], [(_, [_, _, _, _, _, _, _, _, _])]]) ?_ ⟨rfl, rfl, rfl, rfl, rfl, rfl, rfl, rfl, rfl, trivial⟩ rfl
  refine WP.region (l := [0, 1, 2]) rfl ?_
  refine Run.move rfl rfl rfl (.at rfl) ?_
  refine Run.add rfl rfl rfl (.at rfl) (.at rfl) (by omega) ?_
  refine Run.assign rfl rfl rfl (.at rfl) ?_
  refine Run.nil ?_
  refine LP.trim (fr' := [(0, _), (4, _), (5, _), (6, _), (7, _), (8, _), (9, _), (10, _), (11, _)]) (H' := [[(_, [_, _, _, _, _, _, _, _, _])], [(_, [_, _, _, _, _, _, _, _, _])], [(_, [_, _, _, _, _, _, _, _, _])], [(_, [_, _, _, _, _, _, _, _, _])]]) ?_ ⟨rfl, rfl, rfl, rfl, rfl, rfl, rfl, rfl, rfl, trivial⟩ rfl
  refine LP.round ?_
  refine WP.seq ?_
  refine WP.seq (WP.region (l := [0, 1]) rfl ?_)
  refine Run.move rfl rfl rfl (.at rfl) ?_
  refine Run.int rfl rfl rfl (.at rfl) (.at rfl) rfl ?_
  refine Run.nil ?_
  refine WP.cond_f (.at rfl) rfl ?_
  refine WP.exit ?_
  refine WP.draw mx_0 ?_
  refine Drawn.calmR ?_
  refine' DrawR.op 0 38 0 [(8, none)] rfl rfl (fun rest => ?_) ?_
  rotate_left
  · skip
    refine Run.move rfl rfl rfl (.at rfl) ?_
    exact single_nil
  refine' DrawR.op 1 39 1 [(9, none)] rfl rfl (fun rest => ?_) ?_
  rotate_left
  · skip
    refine Run.move rfl rfl rfl (.at rfl) ?_
    exact single_nil
  refine' DrawR.op 2 40 2 [(10, none)] rfl rfl (fun rest => ?_) ?_
  rotate_left
  · skip
    refine Run.move rfl rfl rfl (.at rfl) ?_
    exact single_nil
  refine' DrawR.op 3 41 3 [(0, none)] rfl rfl (fun rest => ?_) ?_
  rotate_left
  · skip
    refine Run.move rfl rfl rfl (.at rfl) ?_
    exact single_nil
  refine' DrawR.op 4 42 4 [(40, some 1), (41, some 0)] rfl rfl (fun rest => ?_) ?_
  rotate_left
  · skip
    refine Run.rem rfl rfl rfl (.at rfl) (.at rfl) (by have h := prodB hp hm1 hn1; simp only [M3.tr] at h; omega) (by omega) ?_
    exact single_nil
  refine' DrawR.op 5 43 5 [(7, none), (38, some 4)] rfl rfl (fun rest => ?_) ?_
  rotate_left
  · skip
    refine Run.idx_arr (j := 1) rfl rfl rfl (.at rfl) (.at rfl) ar_44_3_3 (by rfl) (by decide) ?_
    exact single_nil
  refine' DrawR.op 6 44 6 [(43, some 0), (39, some 4)] rfl rfl (fun rest => ?_) ?_
  rotate_left
  · skip
    refine Run.idx_arr (j := 1) rfl rfl rfl (.at rfl) (.at rfl) ar_30_3_1 (by rfl) (by decide) ?_
    exact single_nil
  refine DrawR.tail [7] rfl (by kernel_rfl) ?_
  refine Run.store (j := 0) rfl rfl (.at rfl) rfl rfl (.at rfl) sz_2_1 rfl rfl (by first | decide | exact Nat.le_of_ble_eq_true rfl) rfl ?_
  refine Run.nil ?_
  refine WP.region (l := [0, 1, 2]) rfl ?_
  refine Run.move rfl rfl rfl (.at rfl) ?_
  refine Run.add rfl rfl rfl (.at rfl) (.at rfl) (by omega) ?_
  refine Run.assign rfl rfl rfl (.at rfl) ?_
  refine Run.nil ?_
  refine LP.trim (fr' := [(0, _), (4, _), (5, _), (6, _), (7, _), (8, _), (9, _)]) (H' := [[(_, [_, _, _, _, _, _, _, _, _])], [(_, [_, _, _, _, _, _, _, _, _])], [(_, [_, _, _, _, _, _, _, _, _])], [(_, [_, _, _, _, _, _, _, _, _])]]) ?_ ⟨rfl, rfl, rfl, rfl, rfl, rfl, rfl, trivial⟩ rfl
  refine LP.round ?_
  refine WP.seq ?_
  refine WP.seq (WP.region (l := [0, 1]) rfl ?_)
  refine Run.move rfl rfl rfl (.at rfl) ?_
  refine Run.int rfl rfl rfl (.at rfl) (.at rfl) rfl ?_
  refine Run.nil ?_
  refine WP.cond_t (.at rfl) rfl ?_
  refine WP.skip ?_
  refine WP.seq ?_
  refine WP.block ?_
  refine WP.seq (WP.region (l := [0]) rfl ?_)
  refine Run.assign rfl rfl rfl (.at rfl) ?_
  refine Run.nil ?_
  refine WP.seq ?_
  refine WP.seq (WP.region (l := [0]) rfl ?_)
  refine Run.assign rfl rfl rfl (.at rfl) ?_
  refine Run.nil ?_
  refine WP.block ?_
  refine WP.loop ?_
  refine LP.trim (fr' := [(0, _), (4, _), (5, _), (6, _), (7, _), (8, _), (9, _), (10, _), (11, _)]) (H' := [[(_, [_, _, _, _, _, _, _, _, _])], [(_, [_, _, _, _, _, _, _, _, _])], [(_, [_, _, _, _, _, _, _, _, _])], [(_, [_, _, _, _, _, _, _, _, _])]]) ?_ ⟨rfl, rfl, rfl, rfl, rfl, rfl, rfl, rfl, rfl, trivial⟩ rfl
  refine LP.round ?_
  refine WP.seq ?_
  refine WP.seq (WP.region (l := [0, 1]) rfl ?_)
  refine Run.move rfl rfl rfl (.at rfl) ?_
  refine Run.int rfl rfl rfl (.at rfl) (.at rfl) rfl ?_
  refine Run.nil ?_
  refine WP.cond_t (.at rfl) rfl ?_
  refine WP.skip ?_
  refine WP.seq ?_
  refine WP.block ?_
  refine WP.draw mx_0 ?_
  refine Drawn.calmR ?_
  refine' DrawR.op 0 25 0 [(10, none)] rfl rfl (fun rest => ?_) ?_
  rotate_left
  · skip
    refine Run.move rfl rfl rfl (.at rfl) ?_
    exact single_nil
  refine' DrawR.op 1 26 1 [(8, none)] rfl rfl (fun rest => ?_) ?_
  rotate_left
  · skip
    refine Run.move rfl rfl rfl (.at rfl) ?_
    exact single_nil
  refine' DrawR.op 2 27 2 [(11, none)] rfl rfl (fun rest => ?_) ?_
  rotate_left
  · skip
    refine Run.move rfl rfl rfl (.at rfl) ?_
    exact single_nil
  refine' DrawR.op 3 28 3 [(4, none), (26, some 1)] rfl rfl (fun rest => ?_) ?_
  rotate_left
  · skip
    refine Run.idx_arr (j := 1) rfl rfl rfl (.at rfl) (.at rfl) ar_44_3_3 (by rfl) (by decide) ?_
    exact single_nil
  refine' DrawR.op 4 29 4 [(28, some 0), (27, some 1)] rfl rfl (fun rest => ?_) ?_
  rotate_left
  · skip
    refine Run.idx_arr (j := 0) rfl rfl rfl (.at rfl) (.at rfl) ar_30_3_1 (by rfl) (by decide) ?_
    exact single_nil
  refine' DrawR.op 5 30 5 [(29, some 0)] rfl rfl (fun rest => ?_) ?_
  rotate_left
  · skip
    refine Run.load rfl rfl rfl (.at rfl) (place_adr rfl) sc_2 rfl ?_
    exact single_nil
  refine' DrawR.op 6 31 6 [(11, none)] rfl rfl (fun rest => ?_) ?_
  rotate_left
  · skip
    refine Run.move rfl rfl rfl (.at rfl) ?_
    exact single_nil
  refine' DrawR.op 7 32 7 [(9, none)] rfl rfl (fun rest => ?_) ?_
  rotate_left
  · skip
    refine Run.move rfl rfl rfl (.at rfl) ?_
    exact single_nil
  refine' DrawR.op 8 33 8 [(5, none), (31, some 1)] rfl rfl (fun rest => ?_) ?_
  rotate_left
  · skip
    refine Run.idx_arr (j := 0) rfl rfl rfl (.at rfl) (.at rfl) ar_44_3_3 (by rfl) (by decide) ?_
    exact single_nil
  refine' DrawR.op 9 34 9 [(33, some 0), (32, some 1)] rfl rfl (fun rest => ?_) ?_
  rotate_left
  · skip
    refine Run.idx_arr (j := 2) rfl rfl rfl (.at rfl) (.at rfl) ar_30_3_1 (by rfl) (by decide) ?_
    exact single_nil
  refine' DrawR.op 10 35 10 [(34, some 0)] rfl rfl (fun rest => ?_) ?_
  rotate_left
  · skip
    refine Run.load rfl rfl rfl (.at rfl) (place_adr rfl) sc_2 rfl ?_
    exact single_nil
  refine' DrawR.op 11 36 11 [(30, some 5), (35, some 0)] rfl rfl (fun rest => ?_) ?_
  rotate_left
  · skip
    refine Run.mul rfl rfl rfl (.at rfl) (.at rfl) (by have h := prodB hp hm1 hn2; simp only [M3.tr] at h; omega) ?_
    exact single_nil
  refine' DrawR.op 12 37 12 [(25, some 11), (36, some 0)] rfl rfl (fun rest => ?_) ?_
  rotate_left
  · skip
    refine Run.add rfl rfl rfl (.at rfl) (.at rfl) (by have h := prodB hp hm1 hn2; simp only [M3.tr] at h; omega) ?_
    exact single_nil
  refine' DrawR.op 13 10 13 [(37, some 0)] rfl rfl (fun rest => ?_) ?_
  rotate_left
  · skip
    refine Run.assign rfl rfl rfl (.at rfl) ?_
    exact single_nil
  refine DrawR.tail [] rfl (by kernel_rfl) ?_
  refine Run.nil ?_
  refine WP.trim (fr' := [(0, _), (4, _), (5, _), (6, _), (7, _), (8, _), (9, _), (10, _), (11, _)]) (H' := [[(_, [_, _, _, _, _, _, _, _, _])], [(_, [_, _, _, _, _, _, _, _, _])], [(_, [_, _, _, _, _, _, _, _, _])], [(_, [_, _, _, _, _, _, _, _, _])]]) ?_ ⟨rfl, rfl, rfl, rfl, rfl, rfl, rfl, rfl, rfl, trivial⟩ rfl
  refine WP.region (l := [0, 1, 2]) rfl ?_
  refine Run.move rfl rfl rfl (.at rfl) ?_
  refine Run.add rfl rfl rfl (.at rfl) (.at rfl) (by omega) ?_
  refine Run.assign rfl rfl rfl (.at rfl) ?_
  refine Run.nil ?_
  refine LP.trim (fr' := [(0, _), (4, _), (5, _), (6, _), (7, _), (8, _), (9, _), (10, _), (11, _)]) (H' := [[(_, [_, _, _, _, _, _, _, _, _])], [(_, [_, _, _, _, _, _, _, _, _])], [(_, [_, _, _, _, _, _, _, _, _])], [(_, [_, _, _, _, _, _, _, _, _])]]) ?_ ⟨rfl, rfl, rfl, rfl, rfl, rfl, rfl, rfl, rfl, trivial⟩ rfl
  refine LP.round ?_
  refine WP.seq ?_
  refine WP.seq (WP.region (l := [0, 1]) rfl ?_)
  refine Run.move rfl rfl rfl (.at rfl) ?_
  refine Run.int rfl rfl rfl (.at rfl) (.at rfl) rfl ?_
  refine Run.nil ?_
  refine WP.cond_t (.at rfl) rfl ?_
  refine WP.skip ?_
  refine WP.seq ?_
  refine WP.block ?_
  refine WP.draw mx_0 ?_
  refine Drawn.calmR ?_
  refine' DrawR.op 0 25 0 [(10, none)] rfl rfl (fun rest => ?_) ?_
  rotate_left
  · skip
    refine Run.move rfl rfl rfl (.at rfl) ?_
    exact single_nil
  refine' DrawR.op 1 26 1 [(8, none)] rfl rfl (fun rest => ?_) ?_
  rotate_left
  · skip
    refine Run.move rfl rfl rfl (.at rfl) ?_
    exact single_nil
  refine' DrawR.op 2 27 2 [(11, none)] rfl rfl (fun rest => ?_) ?_
  rotate_left
  · skip
    refine Run.move rfl rfl rfl (.at rfl) ?_
    exact single_nil
  refine' DrawR.op 3 28 3 [(4, none), (26, some 1)] rfl rfl (fun rest => ?_) ?_
  rotate_left
  · skip
    refine Run.idx_arr (j := 1) rfl rfl rfl (.at rfl) (.at rfl) ar_44_3_3 (by rfl) (by decide) ?_
    exact single_nil
  refine' DrawR.op 4 29 4 [(28, some 0), (27, some 1)] rfl rfl (fun rest => ?_) ?_
  rotate_left
  · skip
    refine Run.idx_arr (j := 1) rfl rfl rfl (.at rfl) (.at rfl) ar_30_3_1 (by rfl) (by decide) ?_
    exact single_nil
  refine' DrawR.op 5 30 5 [(29, some 0)] rfl rfl (fun rest => ?_) ?_
  rotate_left
  · skip
    refine Run.load rfl rfl rfl (.at rfl) (place_adr rfl) sc_2 rfl ?_
    exact single_nil
  refine' DrawR.op 6 31 6 [(11, none)] rfl rfl (fun rest => ?_) ?_
  rotate_left
  · skip
    refine Run.move rfl rfl rfl (.at rfl) ?_
    exact single_nil
  refine' DrawR.op 7 32 7 [(9, none)] rfl rfl (fun rest => ?_) ?_
  rotate_left
  · skip
    refine Run.move rfl rfl rfl (.at rfl) ?_
    exact single_nil
  refine' DrawR.op 8 33 8 [(5, none), (31, some 1)] rfl rfl (fun rest => ?_) ?_
  rotate_left
  · skip
    refine Run.idx_arr (j := 1) rfl rfl rfl (.at rfl) (.at rfl) ar_44_3_3 (by rfl) (by decide) ?_
    exact single_nil
  refine' DrawR.op 9 34 9 [(33, some 0), (32, some 1)] rfl rfl (fun rest => ?_) ?_
  rotate_left
  · skip
    refine Run.idx_arr (j := 2) rfl rfl rfl (.at rfl) (.at rfl) ar_30_3_1 (by rfl) (by decide) ?_
    exact single_nil
  refine' DrawR.op 10 35 10 [(34, some 0)] rfl rfl (fun rest => ?_) ?_
  rotate_left
  · skip
    refine Run.load rfl rfl rfl (.at rfl) (place_adr rfl) sc_2 rfl ?_
    exact single_nil
  refine' DrawR.op 11 36 11 [(30, some 5), (35, some 0)] rfl rfl (fun rest => ?_) ?_
  rotate_left
  · skip
    refine Run.mul rfl rfl rfl (.at rfl) (.at rfl) (by have h := prodB hp hm1 hn2; simp only [M3.tr] at h; omega) ?_
    exact single_nil
  refine' DrawR.op 12 37 12 [(25, some 11), (36, some 0)] rfl rfl (fun rest => ?_) ?_
  rotate_left
  · skip
    refine Run.add rfl rfl rfl (.at rfl) (.at rfl) (by have h := prodB hp hm1 hn2; simp only [M3.tr] at h; omega) ?_
    exact single_nil
  refine' DrawR.op 13 10 13 [(37, some 0)] rfl rfl (fun rest => ?_) ?_
  rotate_left
  · skip
    refine Run.assign rfl rfl rfl (.at rfl) ?_
    exact single_nil
  refine DrawR.tail [] rfl (by kernel_rfl) ?_
  refine Run.nil ?_
  refine WP.trim (fr' := [(0, _), (4, _), (5, _), (6, _), (7, _), (8, _), (9, _), (10, _), (11, _)]) (H' := [[(_, [_, _, _, _, _, _, _, _, _])], [(_, [_, _, _, _, _, _, _, _, _])], [(_, [_, _, _, _, _, _, _, _, _])], [(_, [_, _, _, _, _, _, _, _, _])]]) ?_ ⟨rfl, rfl, rfl, rfl, rfl, rfl, rfl, rfl, rfl, trivial⟩ rfl
  refine WP.region (l := [0, 1, 2]) rfl ?_
  refine Run.move rfl rfl rfl (.at rfl) ?_
  refine Run.add rfl rfl rfl (.at rfl) (.at rfl) (by omega) ?_
  refine Run.assign rfl rfl rfl (.at rfl) ?_
  refine Run.nil ?_
  refine LP.trim (fr' := [(0, _), (4, _), (5, _), (6, _), (7, _), (8, _), (9, _), (10, _), (11, _)]) (H' := [[(_, [_, _, _, _, _, _, _, _, _])], [(_, [_, _, _, _, _, _, _, _, _])], [(_, [_, _, _, _, _, _, _, _, _])], [(_, [_, _, _, _, _, _, _, _, _])]]) ?_ ⟨rfl, rfl, rfl, rfl, rfl, rfl, rfl, rfl, rfl, trivial⟩ rfl
  refine LP.round ?_
  refine WP.seq ?_
  refine WP.seq (WP.region (l := [0, 1]) rfl ?_)
  refine Run.move rfl rfl rfl (.at rfl) ?_
  refine Run.int rfl rfl rfl (.at rfl) (.at rfl) rfl ?_
  refine Run.nil ?_
  refine WP.cond_t (.at rfl) rfl ?_
  refine WP.skip ?_
  refine WP.seq ?_
  refine WP.block ?_
  refine WP.draw mx_0 ?_
  refine Drawn.calmR ?_
  refine' DrawR.op 0 25 0 [(10, none)] rfl rfl (fun rest => ?_) ?_
  rotate_left
  · skip
    refine Run.move rfl rfl rfl (.at rfl) ?_
    exact single_nil
  refine' DrawR.op 1 26 1 [(8, none)] rfl rfl (fun rest => ?_) ?_
  rotate_left
  · skip
    refine Run.move rfl rfl rfl (.at rfl) ?_
    exact single_nil
  refine' DrawR.op 2 27 2 [(11, none)] rfl rfl (fun rest => ?_) ?_
  rotate_left
  · skip
    refine Run.move rfl rfl rfl (.at rfl) ?_
    exact single_nil
  refine' DrawR.op 3 28 3 [(4, none), (26, some 1)] rfl rfl (fun rest => ?_) ?_
  rotate_left
  · skip
    refine Run.idx_arr (j := 1) rfl rfl rfl (.at rfl) (.at rfl) ar_44_3_3 (by rfl) (by decide) ?_
    exact single_nil
  refine' DrawR.op 4 29 4 [(28, some 0), (27, some 1)] rfl rfl (fun rest => ?_) ?_
  rotate_left
  · skip
    refine Run.idx_arr (j := 2) rfl rfl rfl (.at rfl) (.at rfl) ar_30_3_1 (by rfl) (by decide) ?_
    exact single_nil
  refine' DrawR.op 5 30 5 [(29, some 0)] rfl rfl (fun rest => ?_) ?_
  rotate_left
  · skip
    refine Run.load rfl rfl rfl (.at rfl) (place_adr rfl) sc_2 rfl ?_
    exact single_nil
  refine' DrawR.op 6 31 6 [(11, none)] rfl rfl (fun rest => ?_) ?_
  rotate_left
  · skip
    refine Run.move rfl rfl rfl (.at rfl) ?_
    exact single_nil
  refine' DrawR.op 7 32 7 [(9, none)] rfl rfl (fun rest => ?_) ?_
  rotate_left
  · skip
    refine Run.move rfl rfl rfl (.at rfl) ?_
    exact single_nil
  refine' DrawR.op 8 33 8 [(5, none), (31, some 1)] rfl rfl (fun rest => ?_) ?_
  rotate_left
  · skip
    refine Run.idx_arr (j := 2) rfl rfl rfl (.at rfl) (.at rfl) ar_44_3_3 (by rfl) (by decide) ?_
    exact single_nil
  refine' DrawR.op 9 34 9 [(33, some 0), (32, some 1)] rfl rfl (fun rest => ?_) ?_
  rotate_left
  · skip
    refine Run.idx_arr (j := 2) rfl rfl rfl (.at rfl) (.at rfl) ar_30_3_1 (by rfl) (by decide) ?_
    exact single_nil
  refine' DrawR.op 10 35 10 [(34, some 0)] rfl rfl (fun rest => ?_) ?_
  rotate_left
  · skip
    refine Run.load rfl rfl rfl (.at rfl) (place_adr rfl) sc_2 rfl ?_
    exact single_nil
  refine' DrawR.op 11 36 11 [(30, some 5), (35, some 0)] rfl rfl (fun rest => ?_) ?_
  rotate_left
  · skip
    refine Run.mul rfl rfl rfl (.at rfl) (.at rfl) (by have h := prodB hp hm1 hn2; simp only [M3.tr] at h; omega) ?_
    exact single_nil
  refine' DrawR.op 12 37 12 [(25, some 11), (36, some 0)] rfl rfl (fun rest => ?_) ?_
  rotate_left
  · skip
    refine Run.add rfl rfl rfl (.at rfl) (.at rfl) (by have h := prodB hp hm1 hn2; simp only [M3.tr] at h; omega) ?_
    exact single_nil
  refine' DrawR.op 13 10 13 [(37, some 0)] rfl rfl (fun rest => ?_) ?_
  rotate_left
  · skip
    refine Run.assign rfl rfl rfl (.at rfl) ?_
    exact single_nil
  refine DrawR.tail [] rfl (by kernel_rfl) ?_
  refine Run.nil ?_
  refine WP.trim (fr' := [(0, _), (4, _), (5, _), (6, _), (7, _), (8, _), (9, _), (10, _), (11, _)]) (H' := [[(_, [_, _, _, _, _, _, _, _, _])], [(_, [_, _, _, _, _, _, _, _, _])], [(_, [_, _, _, _, _, _, _, _, _])], [(_, [_, _, _, _, _, _, _, _, _])]]) ?_ ⟨rfl, rfl, rfl, rfl, rfl, rfl, rfl, rfl, rfl, trivial⟩ rfl
  refine WP.region (l := [0, 1, 2]) rfl ?_
  refine Run.move rfl rfl rfl (.at rfl) ?_
  refine Run.add rfl rfl rfl (.at rfl) (.at rfl) (by omega) ?_
  refine Run.assign rfl rfl rfl (.at rfl) ?_
  refine Run.nil ?_
  refine LP.trim (fr' := [(0, _), (4, _), (5, _), (6, _), (7, _), (8, _), (9, _), (10, _), (11, _)]) (H' := [[(_, [_, _, _, _, _, _, _, _, _])], [(_, [_, _, _, _, _, _, _, _, _])], [(_, [_, _, _, _, _, _, _, _, _])], [(_, [_, _, _, _, _, _, _, _, _])]]) ?_ ⟨rfl, rfl, rfl, rfl, rfl, rfl, rfl, rfl, rfl, trivial⟩ rfl
  refine LP.round ?_
  refine WP.seq ?_
  refine WP.seq (WP.region (l := [0, 1]) rfl ?_)
  refine Run.move rfl rfl rfl (.at rfl) ?_
  refine Run.int rfl rfl rfl (.at rfl) (.at rfl) rfl ?_
  refine Run.nil ?_
  refine WP.cond_f (.at rfl) rfl ?_
  refine WP.exit ?_
  refine WP.draw mx_0 ?_
  refine Drawn.calmR ?_
  refine' DrawR.op 0 38 0 [(8, none)] rfl rfl (fun rest => ?_) ?_
  rotate_left
  · skip
    refine Run.move rfl rfl rfl (.at rfl) ?_
    exact single_nil
  refine' DrawR.op 1 39 1 [(9, none)] rfl rfl (fun rest => ?_) ?_
  rotate_left
  · skip
    refine Run.move rfl rfl rfl (.at rfl) ?_
    exact single_nil
  refine' DrawR.op 2 40 2 [(10, none)] rfl rfl (fun rest => ?_) ?_
  rotate_left
  · skip
    refine Run.move rfl rfl rfl (.at rfl) ?_
    exact single_nil
  refine' DrawR.op 3 41 3 [(0, none)] rfl rfl (fun rest => ?_) ?_
  rotate_left
  · skip
    refine Run.move rfl rfl rfl (.at rfl) ?_
    exact single_nil
  refine' DrawR.op 4 42 4 [(40, some 1), (41, some 0)] rfl rfl (fun rest => ?_) ?_
  rotate_left
  · skip
    refine Run.rem rfl rfl rfl (.at rfl) (.at rfl) (by have h := prodB hp hm1 hn2; simp only [M3.tr] at h; omega) (by omega) ?_
    exact single_nil
  refine' DrawR.op 5 43 5 [(7, none), (38, some 4)] rfl rfl (fun rest => ?_) ?_
  rotate_left
  · skip
    refine Run.idx_arr (j := 1) rfl rfl rfl (.at rfl) (.at rfl) ar_44_3_3 (by rfl) (by decide) ?_
    exact single_nil
  refine' DrawR.op 6 44 6 [(43, some 0), (39, some 4)] rfl rfl (fun rest => ?_) ?_
  rotate_left
  · skip
    refine Run.idx_arr (j := 2) rfl rfl rfl (.at rfl) (.at rfl) ar_30_3_1 (by rfl) (by decide) ?_
    exact single_nil
  refine DrawR.tail [7] rfl (by kernel_rfl) ?_
  refine Run.store (j := 0) rfl rfl (.at rfl) rfl rfl (.at rfl) sz_2_1 rfl rfl (by first | decide | exact Nat.le_of_ble_eq_true rfl) rfl ?_
  refine Run.nil ?_
  refine WP.region (l := [0, 1, 2]) rfl ?_
  refine Run.move rfl rfl rfl (.at rfl) ?_
  refine Run.add rfl rfl rfl (.at rfl) (.at rfl) (by omega) ?_
  refine Run.assign rfl rfl rfl (.at rfl) ?_
  refine Run.nil ?_
  refine LP.trim (fr' := [(0, _), (4, _), (5, _), (6, _), (7, _), (8, _), (9, _)]) (H' := [[(_, [_, _, _, _, _, _, _, _, _])], [(_, [_, _, _, _, _, _, _, _, _])], [(_, [_, _, _, _, _, _, _, _, _])], [(_, [_, _, _, _, _, _, _, _, _])]]) ?_ ⟨rfl, rfl, rfl, rfl, rfl, rfl, rfl, trivial⟩ rfl
  refine LP.round ?_
  refine WP.seq ?_
  refine WP.seq (WP.region (l := [0, 1]) rfl ?_)
  refine Run.move rfl rfl rfl (.at rfl) ?_
  refine Run.int rfl rfl rfl (.at rfl) (.at rfl) rfl ?_
  refine Run.nil ?_
  refine WP.cond_f (.at rfl) rfl ?_
  refine WP.exit ?_
  refine WP.region (l := [0, 1, 2]) rfl ?_
  refine Run.move rfl rfl rfl (.at rfl) ?_
  refine Run.add rfl rfl rfl (.at rfl) (.at rfl) (by omega) ?_
  refine Run.assign rfl rfl rfl (.at rfl) ?_
  refine Run.nil ?_
  refine LP.trim (fr' := [(0, _), (4, _), (5, _), (6, _), (7, _), (8, _)]) (H' := [[(_, [_, _, _, _, _, _, _, _, _])], [(_, [_, _, _, _, _, _, _, _, _])], [(_, [_, _, _, _, _, _, _, _, _])], [(_, [_, _, _, _, _, _, _, _, _])]]) ?_ ⟨rfl, rfl, rfl, rfl, rfl, rfl, trivial⟩ rfl
  refine LP.round ?_
  refine WP.seq ?_
  refine WP.seq (WP.region (l := [0, 1]) rfl ?_)
  refine Run.move rfl rfl rfl (.at rfl) ?_
  refine Run.int rfl rfl rfl (.at rfl) (.at rfl) rfl ?_
  refine Run.nil ?_
  refine WP.cond_t (.at rfl) rfl ?_
  refine WP.skip ?_
  refine WP.seq ?_
  refine WP.block ?_
  refine WP.seq (WP.region (l := [0]) rfl ?_)
  refine Run.assign rfl rfl rfl (.at rfl) ?_
  refine Run.nil ?_
  refine WP.block ?_
  refine WP.loop ?_
  refine LP.trim (fr' := [(0, _), (4, _), (5, _), (6, _), (7, _), (8, _), (9, _)]) (H' := [[(_, [_, _, _, _, _, _, _, _, _])], [(_, [_, _, _, _, _, _, _, _, _])], [(_, [_, _, _, _, _, _, _, _, _])], [(_, [_, _, _, _, _, _, _, _, _])]]) ?_ ⟨rfl, rfl, rfl, rfl, rfl, rfl, rfl, trivial⟩ rfl
  refine LP.round ?_
  refine WP.seq ?_
  refine WP.seq (WP.region (l := [0, 1]) rfl ?_)
  refine Run.move rfl rfl rfl (.at rfl) ?_
  refine Run.int rfl rfl rfl (.at rfl) (.at rfl) rfl ?_
  refine Run.nil ?_
  refine WP.cond_t (.at rfl) rfl ?_
  refine WP.skip ?_
  refine WP.seq ?_
  refine WP.block ?_
  refine WP.seq (WP.region (l := [0]) rfl ?_)
  refine Run.assign rfl rfl rfl (.at rfl) ?_
  refine Run.nil ?_
  refine WP.seq ?_
  refine WP.seq (WP.region (l := [0]) rfl ?_)
  refine Run.assign rfl rfl rfl (.at rfl) ?_
  refine Run.nil ?_
  refine WP.block ?_
  refine WP.loop ?_
  refine LP.trim (fr' := [(0, _), (4, _), (5, _), (6, _), (7, _), (8, _), (9, _), (10, _), (11, _)]) (H' := [[(_, [_, _, _, _, _, _, _, _, _])], [(_, [_, _, _, _, _, _, _, _, _])], [(_, [_, _, _, _, _, _, _, _, _])], [(_, [_, _, _, _, _, _, _, _, _])]]) ?_ ⟨rfl, rfl, rfl, rfl, rfl, rfl, rfl, rfl, rfl, trivial⟩ rfl
  refine LP.round ?_
  refine WP.seq ?_
  refine WP.seq (WP.region (l := [0, 1]) rfl ?_)
  refine Run.move rfl rfl rfl (.at rfl) ?_
  refine Run.int rfl rfl rfl (.at rfl) (.at rfl) rfl ?_
  refine Run.nil ?_
  refine WP.cond_t (.at rfl) rfl ?_
  refine WP.skip ?_
  refine WP.seq ?_
  refine WP.block ?_
  refine WP.draw mx_0 ?_
  refine Drawn.calmR ?_
  refine' DrawR.op 0 25 0 [(10, none)] rfl rfl (fun rest => ?_) ?_
  rotate_left
  · skip
    refine Run.move rfl rfl rfl (.at rfl) ?_
    exact single_nil
  refine' DrawR.op 1 26 1 [(8, none)] rfl rfl (fun rest => ?_) ?_
  rotate_left
  · skip
    refine Run.move rfl rfl rfl (.at rfl) ?_
    exact single_nil
  refine' DrawR.op 2 27 2 [(11, none)] rfl rfl (fun rest => ?_) ?_
  rotate_left
  · skip
    refine Run.move rfl rfl rfl (.at rfl) ?_
    exact single_nil
  refine' DrawR.op 3 28 3 [(4, none), (26, some 1)] rfl rfl (fun rest => ?_) ?_
  rotate_left
  · skip
    refine Run.idx_arr (j := 2) rfl rfl rfl (.at rfl) (.at rfl) ar_44_3_3 (by rfl) (by decide) ?_
    exact single_nil
  refine' DrawR.op 4 29 4 [(28, some 0), (27, some 1)] rfl rfl (fun rest => ?_) ?_
  rotate_left
  · skip
    refine Run.idx_arr (j := 0) rfl rfl rfl (.at rfl) (.at rfl) ar_30_3_1 (by rfl) (by decide) ?_
    exact single_nil
  refine' DrawR.op 5 30 5 [(29, some 0)] rfl rfl (fun rest => ?_) ?_
  rotate_left
  · skip
    refine Run.load rfl rfl rfl (.at rfl) (place_adr rfl) sc_2 rfl ?_
    exact single_nil
  refine' DrawR.op 6 31 6 [(11, none)] rfl rfl (fun rest => ?_) ?_
  rotate_left
  · skip
    refine Run.move rfl rfl rfl (.at rfl) ?_
    exact single_nil
  refine' DrawR.op 7 32 7 [(9, none)] rfl rfl (fun rest => ?_) ?_
  rotate_left
  · skip
    refine Run.move rfl rfl rfl (.at rfl) ?_
    exact single_nil
  refine' DrawR.op 8 33 8 [(5, none), (31, some 1)] rfl rfl (fun rest => ?_) ?_
  rotate_left
  · skip
    refine Run.idx_arr (j := 0) rfl rfl rfl (.at rfl) (.at rfl) ar_44_3_3 (by rfl) (by decide) ?_
    exact single_nil
  refine' DrawR.op 9 34 9 [(33, some 0), (32, some 1)] rfl rfl (fun rest => ?_) ?_
  rotate_left
  · skip
    refine Run.idx_arr (j := 0) rfl rfl rfl (.at rfl) (.at rfl) ar_30_3_1 (by rfl) (by decide) ?_
    exact single_nil
  refine' DrawR.op 10 35 10 [(34, some 0)] rfl rfl (fun rest => ?_) ?_
  rotate_left
  · skip
    refine Run.load rfl rfl rfl (.at rfl) (place_adr rfl) sc_2 rfl ?_
    exact single_nil
  refine' DrawR.op 11 36 11 [(30, some 5), (35, some 0)] rfl rfl (fun rest => ?_) ?_
  rotate_left
  · skip
    refine Run.mul rfl rfl rfl (.at rfl) (.at rfl) (by have h := prodB hp hm2 hn0; simp only [M3.tr] at h; omega) ?_
    exact single_nil
  refine' DrawR.op 12 37 12 [(25, some 11), (36, some 0)] rfl rfl (fun rest => ?_) ?_
  rotate_left
  · skip
    refine Run.add rfl rfl rfl (.at rfl) (.at rfl) (by have h := prodB hp hm2 hn0; simp only [M3.tr] at h; omega) ?_
    exact single_nil
  refine' DrawR.op 13 10 13 [(37, some 0)] rfl rfl (fun rest => ?_) ?_
  rotate_left
  · skip
    refine Run.assign rfl rfl rfl (.at rfl) ?_
    exact single_nil
  refine DrawR.tail [] rfl (by kernel_rfl) ?_
  refine Run.nil ?_
  refine WP.trim (fr' := [(0, _), (4, _), (5, _), (6, _), (7, _), (8, _), (9, _), (10, _), (11, _)]) (H' := [[(_, [_, _, _, _, _, _, _, _, _])], [(_, [_, _, _, _, _, _, _, _, _])], [(_, [_, _, _, _, _, _, _, _, _])], [(_, [_, _, _, _, _, _, _, _, _])]]) ?_ ⟨rfl, rfl, rfl, rfl, rfl, rfl, rfl, rfl, rfl, trivial⟩ rfl
  refine WP.region (l := [0, 1, 2]) rfl ?_
  refine Run.move rfl rfl rfl (.at rfl) ?_
  refine Run.add rfl rfl rfl (.at rfl) (.at rfl) (by omega) ?_
  refine Run.assign rfl rfl rfl (.at rfl) ?_
  refine Run.nil ?_
  refine LP.trim (fr' := [(0, _), (4, _), (5, _), (6, _), (7, _), (8, _), (9, _), (10, _), (11, _)]) (H' := [[(_, [_, _, _, _, _, _, _, _, _])], [(_, [_, _, _, _, _, _, _, _, _])], [(_, [_, _, _, _, _, _, _, _, _])], [(_, [_, _, _, _, _, _, _, _, _])]]) ?_ ⟨rfl, rfl, rfl, rfl, rfl, rfl, rfl, rfl, rfl, trivial⟩ rfl
  refine LP.round ?_
  refine WP.seq ?_
  refine WP.seq (WP.region (l := [0, 1]) rfl ?_)
  refine Run.move rfl rfl rfl (.at rfl) ?_
  refine Run.int rfl rfl rfl (.at rfl) (.at rfl) rfl ?_
  refine Run.nil ?_
  refine WP.cond_t (.at rfl) rfl ?_
  refine WP.skip ?_
  refine WP.seq ?_
  refine WP.block ?_
  refine WP.draw mx_0 ?_
  refine Drawn.calmR ?_
  refine' DrawR.op 0 25 0 [(10, none)] rfl rfl (fun rest => ?_) ?_
  rotate_left
  · skip
    refine Run.move rfl rfl rfl (.at rfl) ?_
    exact single_nil
  refine' DrawR.op 1 26 1 [(8, none)] rfl rfl (fun rest => ?_) ?_
  rotate_left
  · skip
    refine Run.move rfl rfl rfl (.at rfl) ?_
    exact single_nil
  refine' DrawR.op 2 27 2 [(11, none)] rfl rfl (fun rest => ?_) ?_
  rotate_left
  · skip
    refine Run.move rfl rfl rfl (.at rfl) ?_
    exact single_nil
  refine' DrawR.op 3 28 3 [(4, none), (26, some 1)] rfl rfl (fun rest => ?_) ?_
  rotate_left
  · skip
    refine Run.idx_arr (j := 2) rfl rfl rfl (.at rfl) (.at rfl) ar_44_3_3 (by rfl) (by decide) ?_
    exact single_nil
  refine' DrawR.op 4 29 4 [(28, some 0), (27, some 1)] rfl rfl (fun rest => ?_) ?_
  rotate_left
  · skip
    refine Run.idx_arr (j := 1) rfl rfl rfl (.at rfl) (.at rfl) ar_30_3_1 (by rfl) (by decide) ?_
    exact single_nil
  refine' DrawR.op 5 30 5 [(29, some 0)] rfl rfl (fun rest => ?_) ?_
  rotate_left
  · skip
    refine Run.load rfl rfl rfl (.at rfl) (place_adr rfl) sc_2 rfl ?_
    exact single_nil
  refine' DrawR.op 6 31 6 [(11, none)] rfl rfl (fun rest => ?_) ?_
  rotate_left
  · skip
    refine Run.move rfl rfl rfl (.at rfl) ?_
    exact single_nil
  refine' DrawR.op 7 32 7 [(9, none)] rfl rfl (fun rest => ?_) ?_
  rotate_left
  · skip
    refine Run.move rfl rfl rfl (.at rfl) ?_
    exact single_nil
  refine' DrawR.op 8 33 8 [(5, none), (31, some 1)] rfl rfl (fun rest => ?_) ?_
  rotate_left
  · skip
    refine Run.idx_arr (j := 1) rfl rfl rfl (.at rfl) (.at rfl) ar_44_3_3 (by rfl) (by decide) ?_
    exact single_nil
  refine' DrawR.op 9 34 9 [(33, some 0), (32, some 1)] rfl rfl (fun rest => ?_) ?_
  rotate_left
  · skip
    refine Run.idx_arr (j := 0) rfl rfl rfl (.at rfl) (.at rfl) ar_30_3_1 (by rfl) (by decide) ?_
    exact single_nil
  refine' DrawR.op 10 35 10 [(34, some 0)] rfl rfl (fun rest => ?_) ?_
  rotate_left
  · skip
    refine Run.load rfl rfl rfl (.at rfl) (place_adr rfl) sc_2 rfl ?_
    exact single_nil
  refine' DrawR.op 11 36 11 [(30, some 5), (35, some 0)] rfl rfl (fun rest => ?_) ?_
  rotate_left
  · skip
    refine Run.mul rfl rfl rfl (.at rfl) (.at rfl) (by have h := prodB hp hm2 hn0; simp only [M3.tr] at h; omega) ?_
    exact single_nil
  refine' DrawR.op 12 37 12 [(25, some 11), (36, some 0)] rfl rfl (fun rest => ?_) ?_
  rotate_left
  · skip
    refine Run.add rfl rfl rfl (.at rfl) (.at rfl) (by have h := prodB hp hm2 hn0; simp only [M3.tr] at h; omega) ?_
    exact single_nil
  refine' DrawR.op 13 10 13 [(37, some 0)] rfl rfl (fun rest => ?_) ?_
  rotate_left
  · skip
    refine Run.assign rfl rfl rfl (.at rfl) ?_
    exact single_nil
  refine DrawR.tail [] rfl (by kernel_rfl) ?_
  refine Run.nil ?_
  refine WP.trim (fr' := [(0, _), (4, _), (5, _), (6, _), (7, _), (8, _), (9, _), (10, _), (11, _)]) (H' := [[(_, [_, _, _, _, _, _, _, _, _])], [(_, [_, _, _, _, _, _, _, _, _])], [(_, [_, _, _, _, _, _, _, _, _])], [(_, [_, _, _, _, _, _, _, _, _])]]) ?_ ⟨rfl, rfl, rfl, rfl, rfl, rfl, rfl, rfl, rfl, trivial⟩ rfl
  refine WP.region (l := [0, 1, 2]) rfl ?_
  refine Run.move rfl rfl rfl (.at rfl) ?_
  refine Run.add rfl rfl rfl (.at rfl) (.at rfl) (by omega) ?_
  refine Run.assign rfl rfl rfl (.at rfl) ?_
  refine Run.nil ?_
  refine LP.trim (fr' := [(0, _), (4, _), (5, _), (6, _), (7, _), (8, _), (9, _), (10, _), (11, _)]) (H' := [[(_, [_, _, _, _, _, _, _, _, _])], [(_, [_, _, _, _, _, _, _, _, _])], [(_, [_, _, _, _, _, _, _, _, _])], [(_, [_, _, _, _, _, _, _, _, _])]]) ?_ ⟨rfl, rfl, rfl, rfl, rfl, rfl, rfl, rfl, rfl, trivial⟩ rfl
  refine LP.round ?_
  refine WP.seq ?_
  refine WP.seq (WP.region (l := [0, 1]) rfl ?_)
  refine Run.move rfl rfl rfl (.at rfl) ?_
  refine Run.int rfl rfl rfl (.at rfl) (.at rfl) rfl ?_
  refine Run.nil ?_
  refine WP.cond_t (.at rfl) rfl ?_
  refine WP.skip ?_
  refine WP.seq ?_
  refine WP.block ?_
  refine WP.draw mx_0 ?_
  refine Drawn.calmR ?_
  refine' DrawR.op 0 25 0 [(10, none)] rfl rfl (fun rest => ?_) ?_
  rotate_left
  · skip
    refine Run.move rfl rfl rfl (.at rfl) ?_
    exact single_nil
  refine' DrawR.op 1 26 1 [(8, none)] rfl rfl (fun rest => ?_) ?_
  rotate_left
  · skip
    refine Run.move rfl rfl rfl (.at rfl) ?_
    exact single_nil
  refine' DrawR.op 2 27 2 [(11, none)] rfl rfl (fun rest => ?_) ?_
  rotate_left
  · skip
    refine Run.move rfl rfl rfl (.at rfl) ?_
    exact single_nil
  refine' DrawR.op 3 28 3 [(4, none), (26, some 1)] rfl rfl (fun rest => ?_) ?_
  rotate_left
  · skip
    refine Run.idx_arr (j := 2) rfl rfl rfl (.at rfl) (.at rfl) ar_44_3_3 (by rfl) (by decide) ?_
    exact single_nil
  refine' DrawR.op 4 29 4 [(28, some 0), (27, some 1)] rfl rfl (fun rest => ?_) ?_
  rotate_left
  · skip
    refine Run.idx_arr (j := 2) rfl rfl rfl (.at rfl) (.at rfl) ar_30_3_1 (by rfl) (by decide) ?_
    exact single_nil
  refine' DrawR.op 5 30 5 [(29, some 0)] rfl rfl (fun rest => ?_) ?_
  rotate_left
  · skip
    refine Run.load rfl rfl rfl (.at rfl) (place_adr rfl) sc_2 rfl ?_
    exact single_nil
  refine' DrawR.op 6 31 6 [(11, none)] rfl rfl (fun rest => ?_) ?_
  rotate_left
  · skip
    refine Run.move rfl rfl rfl (.at rfl) ?_
    exact single_nil
  refine' DrawR.op 7 32 7 [(9, none)] rfl rfl (fun rest => ?_) ?_
  rotate_left
  · skip
    refine Run.move rfl rfl rfl (.at rfl) ?_
    exact single_nil
  refine' DrawR.op 8 33 8 [(5, none), (31, some 1)] rfl rfl (fun rest => ?_) ?_
  rotate_left
  · skip
    refine Run.idx_arr (j := 2) rfl rfl rfl (.at rfl) (.at rfl) ar_44_3_3 (by rfl) (by decide) ?_
    exact single_nil
  refine' DrawR.op 9 34 9 [(33, some 0), (32, some 1)] rfl rfl (fun rest => ?_) ?_
  rotate_left
  · skip
    refine Run.idx_arr (j := 0) rfl rfl rfl (.at rfl) (.at rfl) ar_30_3_1 (by rfl) (by decide) ?_
    exact single_nil
  refine' DrawR.op 10 35 10 [(34, some 0)] rfl rfl (fun rest => ?_) ?_
  rotate_left
  · skip
    refine Run.load rfl rfl rfl (.at rfl) (place_adr rfl) sc_2 rfl ?_
    exact single_nil
  refine' DrawR.op 11 36 11 [(30, some 5), (35, some 0)] rfl rfl (fun rest => ?_) ?_
  rotate_left
  · skip
    refine Run.mul rfl rfl rfl (.at rfl) (.at rfl) (by have h := prodB hp hm2 hn0; simp only [M3.tr] at h; omega) ?_
    exact single_nil
  refine' DrawR.op 12 37 12 [(25, some 11), (36, some 0)] rfl rfl (fun rest => ?_) ?_
  rotate_left
  · skip
    refine Run.add rfl rfl rfl (.at rfl) (.at rfl) (by have h := prodB hp hm2 hn0; simp only [M3.tr] at h; omega) ?_
    exact single_nil
  refine' DrawR.op 13 10 13 [(37, some 0)] rfl rfl (fun rest => ?_) ?_
  rotate_left
  · skip
    refine Run.assign rfl rfl rfl (.at rfl) ?_
    exact single_nil
  refine DrawR.tail [] rfl (by kernel_rfl) ?_
  refine Run.nil ?_
  refine WP.trim (fr' := [(0, _), (4, _), (5, _), (6, _), (7, _), (8, _), (9, _), (10, _), (11, _)]) (H' := [[(_, [_, _, _, _, _, _, _, _, _])], [(_, [_, _, _, _, _, _, _, _, _])], [(_, [_, _, _, _, _, _, _, _, _])], [(_, [_, _, _, _, _, _, _, _, _])]]) ?_ ⟨rfl, rfl, rfl, rfl, rfl, rfl, rfl, rfl, rfl, trivial⟩ rfl
  refine WP.region (l := [0, 1, 2]) rfl ?_
  refine Run.move rfl rfl rfl (.at rfl) ?_
  refine Run.add rfl rfl rfl (.at rfl) (.at rfl) (by omega) ?_
  refine Run.assign rfl rfl rfl (.at rfl) ?_
  refine Run.nil ?_
  refine LP.trim (fr' := [(0, _), (4, _), (5, _), (6, _), (7, _), (8, _), (9, _), (10, _), (11, _)]) (H' := [[(_, [_, _, _, _, _, _, _, _, _])], [(_, [_, _, _, _, _, _, _, _, _])], [(_, [_, _, _, _, _, _, _, _, _])], [(_, [_, _, _, _, _, _, _, _, _])]]) ?_ ⟨rfl, rfl, rfl, rfl, rfl, rfl, rfl, rfl, rfl, trivial⟩ rfl
  refine LP.round ?_
  refine WP.seq ?_
  refine WP.seq (WP.region (l := [0, 1]) rfl ?_)
  refine Run.move rfl rfl rfl (.at rfl) ?_
  refine Run.int rfl rfl rfl (.at rfl) (.at rfl) rfl ?_
  refine Run.nil ?_
  refine WP.cond_f (.at rfl) rfl ?_
  refine WP.exit ?_
  refine WP.draw mx_0 ?_
  refine Drawn.calmR ?_
  refine' DrawR.op 0 38 0 [(8, none)] rfl rfl (fun rest => ?_) ?_
  rotate_left
  · skip
    refine Run.move rfl rfl rfl (.at rfl) ?_
    exact single_nil
  refine' DrawR.op 1 39 1 [(9, none)] rfl rfl (fun rest => ?_) ?_
  rotate_left
  · skip
    refine Run.move rfl rfl rfl (.at rfl) ?_
    exact single_nil
  refine' DrawR.op 2 40 2 [(10, none)] rfl rfl (fun rest => ?_) ?_
  rotate_left
  · skip
    refine Run.move rfl rfl rfl (.at rfl) ?_
    exact single_nil
  refine' DrawR.op 3 41 3 [(0, none)] rfl rfl (fun rest => ?_) ?_
  rotate_left
  · skip
    refine Run.move rfl rfl rfl (.at rfl) ?_
    exact single_nil
  refine' DrawR.op 4 42 4 [(40, some 1), (41, some 0)] rfl rfl (fun rest => ?_) ?_
  rotate_left
  · skip
    refine Run.rem rfl rfl rfl (.at rfl) (.at rfl) (by have h := prodB hp hm2 hn0; simp only [M3.tr] at h; omega) (by omega) ?_
    exact single_nil
  refine' DrawR.op 5 43 5 [(7, none), (38, some 4)] rfl rfl (fun rest => ?_) ?_
  rotate_left
  · skip
    refine Run.idx_arr (j := 2) rfl rfl rfl (.at rfl) (.at rfl) ar_44_3_3 (by rfl) (by decide) ?_
    exact single_nil
  refine' DrawR.op 6 44 6 [(43, some 0), (39, some 4)] rfl rfl (fun rest => ?_) ?_
  rotate_left
  · skip
    refine Run.idx_arr (j := 0) rfl rfl rfl (.at rfl) (.at rfl) ar_30_3_1 (by rfl) (by decide) ?_
    exact single_nil
  refine DrawR.tail [7] rfl (by kernel_rfl) ?_
  refine Run.store (j := 0) rfl rfl (.at rfl) rfl rfl (.at rfl) sz_2_1 rfl rfl (by first | decide | exact Nat.le_of_ble_eq_true rfl) rfl ?_
  refine Run.nil ?_
  refine WP.region (l := [0, 1, 2]) rfl ?_
  refine Run.move rfl rfl rfl (.at rfl) ?_
  refine Run.add rfl rfl rfl (.at rfl) (.at rfl) (by omega) ?_
  refine Run.assign rfl rfl rfl (.at rfl) ?_
  refine Run.nil ?_
  refine LP.trim (fr' := [(0, _), (4, _), (5, _), (6, _), (7, _), (8, _), (9, _)]) (H' := [[(_, [_, _, _, _, _, _, _, _, _])], [(_, [_, _, _, _, _, _, _, _, _])], [(_, [_, _, _, _, _, _, _, _, _])], [(_, [_, _, _, _, _, _, _, _, _])]]) ?_ ⟨rfl, rfl, rfl, rfl, rfl, rfl, rfl, trivial⟩ rfl
  refine LP.round ?_
  refine WP.seq ?_
  refine WP.seq (WP.region (l := [0, 1]) rfl ?_)
  refine Run.move rfl rfl rfl (.at rfl) ?_
  refine Run.int rfl rfl rfl (.at rfl) (.at rfl) rfl ?_
  refine Run.nil ?_
  refine WP.cond_t (.at rfl) rfl ?_
  refine WP.skip ?_
  refine WP.seq ?_
  refine WP.block ?_
  refine WP.seq (WP.region (l := [0]) rfl ?_)
  refine Run.assign rfl rfl rfl (.at rfl) ?_
  refine Run.nil ?_
  refine WP.seq ?_
  refine WP.seq (WP.region (l := [0]) rfl ?_)
  refine Run.assign rfl rfl rfl (.at rfl) ?_
  refine Run.nil ?_
  refine WP.block ?_
  refine WP.loop ?_
  refine LP.trim (fr' := [(0, _), (4, _), (5, _), (6, _), (7, _), (8, _), (9, _), (10, _), (11, _)]) (H' := [[(_, [_, _, _, _, _, _, _, _, _])], [(_, [_, _, _, _, _, _, _, _, _])], [(_, [_, _, _, _, _, _, _, _, _])], [(_, [_, _, _, _, _, _, _, _, _])]]) ?_ ⟨rfl, rfl, rfl, rfl, rfl, rfl, rfl, rfl, rfl, trivial⟩ rfl
  refine LP.round ?_
  refine WP.seq ?_
  refine WP.seq (WP.region (l := [0, 1]) rfl ?_)
  refine Run.move rfl rfl rfl (.at rfl) ?_
  refine Run.int rfl rfl rfl (.at rfl) (.at rfl) rfl ?_
  refine Run.nil ?_
  refine WP.cond_t (.at rfl) rfl ?_
  refine WP.skip ?_
  refine WP.seq ?_
  refine WP.block ?_
  refine WP.draw mx_0 ?_
  refine Drawn.calmR ?_
  refine' DrawR.op 0 25 0 [(10, none)] rfl rfl (fun rest => ?_) ?_
  rotate_left
  · skip
    refine Run.move rfl rfl rfl (.at rfl) ?_
    exact single_nil
  refine' DrawR.op 1 26 1 [(8, none)] rfl rfl (fun rest => ?_) ?_
  rotate_left
  · skip
    refine Run.move rfl rfl rfl (.at rfl) ?_
    exact single_nil
  refine' DrawR.op 2 27 2 [(11, none)] rfl rfl (fun rest => ?_) ?_
  rotate_left
  · skip
    refine Run.move rfl rfl rfl (.at rfl) ?_
    exact single_nil
  refine' DrawR.op 3 28 3 [(4, none), (26, some 1)] rfl rfl (fun rest => ?_) ?_
  rotate_left
  · skip
    refine Run.idx_arr (j := 2) rfl rfl rfl (.at rfl) (.at rfl) ar_44_3_3 (by rfl) (by decide) ?_
    exact single_nil
  refine' DrawR.op 4 29 4 [(28, some 0), (27, some 1)] rfl rfl (fun rest => ?_) ?_
  rotate_left
  · skip
    refine Run.idx_arr (j := 0) rfl rfl rfl (.at rfl) (.at rfl) ar_30_3_1 (by rfl) (by decide) ?_
    exact single_nil
  refine' DrawR.op 5 30 5 [(29, some 0)] rfl rfl (fun rest => ?_) ?_
  rotate_left
  · skip
    refine Run.load rfl rfl rfl (.at rfl) (place_adr rfl) sc_2 rfl ?_
    exact single_nil
  refine' DrawR.op 6 31 6 [(11, none)] rfl rfl (fun rest => ?_) ?_
  rotate_left
  · skip
    refine Run.move rfl rfl rfl (.at rfl) ?_
    exact single_nil
  refine' DrawR.op 7 32 7 [(9, none)] rfl rfl (fun rest => ?_) ?_
  rotate_left
  · skip
    refine Run.move rfl rfl rfl (.at rfl) ?_
    exact single_nil
  refine' DrawR.op 8 33 8 [(5, none), (31, some 1)] rfl rfl (fun rest => ?_) ?_
  rotate_left
  · skip
    refine Run.idx_arr (j := 0) rfl rfl rfl (.at rfl) (.at rfl) ar_44_3_3 (by rfl) (by decide) ?_
    exact single_nil
  refine' DrawR.op 9 34 9 [(33, some 0), (32, some 1)] rfl rfl (fun rest => ?_) ?_
  rotate_left
  · skip
    refine Run.idx_arr (j := 1) rfl rfl rfl (.at rfl) (.at rfl) ar_30_3_1 (by rfl) (by decide) ?_
    exact single_nil
  refine' DrawR.op 10 35 10 [(34, some 0)] rfl rfl (fun rest => ?_) ?_
  rotate_left
  · skip
    refine Run.load rfl rfl rfl (.at rfl) (place_adr rfl) sc_2 rfl ?_
    exact single_nil
  refine' DrawR.op 11 36 11 [(30, some 5), (35, some 0)] rfl rfl (fun rest => ?_) ?_
  rotate_left
  · skip
    refine Run.mul rfl rfl rfl (.at rfl) (.at rfl) (by have h := prodB hp hm2 hn1; simp only [M3.tr] at h; omega) ?_
    exact single_nil
  refine' DrawR.op 12 37 12 [(25, some 11), (36, some 0)] rfl rfl (fun rest => ?_) ?_
  rotate_left
  · skip
    refine Run.add rfl rfl rfl (.at rfl) (.at rfl) (by have h := prodB hp hm2 hn1; simp only [M3.tr] at h; omega) ?_
    exact single_nil
  refine' DrawR.op 13 10 13 [(37, some 0)] rfl rfl (fun rest => ?_) ?_
  rotate_left
  · skip
    refine Run.assign rfl rfl rfl (.at rfl) ?_
    exact single_nil
  refine DrawR.tail [] rfl (by kernel_rfl) ?_
  refine Run.nil ?_
  refine WP.trim (fr' := [(0, _), (4, _), (5, _), (6, _), (7, _), (8, _), (9, _), (10, _), (11, _)]) (H' := [[(_, [_, _, _, _, _, _, _, _, _])], [(_, [_, _, _, _, _, _, _, _, _])], [(_, [_, _, _, _, _, _, _, _, _])], [(_, [_, _, _, _, _, _, _, _, _])]]) ?_ ⟨rfl, rfl, rfl, rfl, rfl, rfl, rfl, rfl, rfl, trivial⟩ rfl
  refine WP.region (l := [0, 1, 2]) rfl ?_
  refine Run.move rfl rfl rfl (.at rfl) ?_
  refine Run.add rfl rfl rfl (.at rfl) (.at rfl) (by omega) ?_
  refine Run.assign rfl rfl rfl (.at rfl) ?_
  refine Run.nil ?_
  refine LP.trim (fr' := [(0, _), (4, _), (5, _), (6, _), (7, _), (8, _), (9, _), (10, _), (11, _)]) (H' := [[(_, [_, _, _, _, _, _, _, _, _])], [(_, [_, _, _, _, _, _, _, _, _])], [(_, [_, _, _, _, _, _, _, _, _])], [(_, [_, _, _, _, _, _, _, _, _])]]) ?_ ⟨rfl, rfl, rfl, rfl, rfl, rfl, rfl, rfl, rfl, trivial⟩ rfl
  refine LP.round ?_
  refine WP.seq ?_
  refine WP.seq (WP.region (l := [0, 1]) rfl ?_)
  refine Run.move rfl rfl rfl (.at rfl) ?_
  refine Run.int rfl rfl rfl (.at rfl) (.at rfl) rfl ?_
  refine Run.nil ?_
  refine WP.cond_t (.at rfl) rfl ?_
  refine WP.skip ?_
  refine WP.seq ?_
  refine WP.block ?_
  refine WP.draw mx_0 ?_
  refine Drawn.calmR ?_
  refine' DrawR.op 0 25 0 [(10, none)] rfl rfl (fun rest => ?_) ?_
  rotate_left
  · skip
    refine Run.move rfl rfl rfl (.at rfl) ?_
    exact single_nil
  refine' DrawR.op 1 26 1 [(8, none)] rfl rfl (fun rest => ?_) ?_
  rotate_left
  · skip
    refine Run.move rfl rfl rfl (.at rfl) ?_
    exact single_nil
  refine' DrawR.op 2 27 2 [(11, none)] rfl rfl (fun rest => ?_) ?_
  rotate_left
  · skip
    refine Run.move rfl rfl rfl (.at rfl) ?_
    exact single_nil
  refine' DrawR.op 3 28 3 [(4, none), (26, some 1)] rfl rfl (fun rest => ?_) ?_
  rotate_left
  · skip
    refine Run.idx_arr (j := 2) rfl rfl rfl (.at rfl) (.at rfl) ar_44_3_3 (by rfl) (by decide) ?_
    exact single_nil
  refine' DrawR.op 4 29 4 [(28, some 0), (27, some 1)] rfl rfl (fun rest => ?_) ?_
  rotate_left
  · skip
    refine Run.idx_arr (j := 1) rfl rfl rfl (.at rfl) (.at rfl) ar_30_3_1 (by rfl) (by decide) ?_
    exact single_nil
  refine' DrawR.op 5 30 5 [(29, some 0)] rfl rfl (fun rest => ?_) ?_
  rotate_left
  · skip
    refine Run.load rfl rfl rfl (.at rfl) (place_adr rfl) sc_2 rfl ?_
    exact single_nil
  refine' DrawR.op 6 31 6 [(11, none)] rfl rfl (fun rest => ?_) ?_
  rotate_left
  · skip
    refine Run.move rfl rfl rfl (.at rfl) ?_
    exact single_nil
  refine' DrawR.op 7 32 7 [(9, none)] rfl rfl (fun rest => ?_) ?_
  rotate_left
  · skip
    refine Run.move rfl rfl rfl (.at rfl) ?_
    exact single_nil
  refine' DrawR.op 8 33 8 [(5, none), (31, some 1)] rfl rfl (fun rest => ?_) ?_
  rotate_left
  · skip
    refine Run.idx_arr (j := 1) rfl rfl rfl (.at rfl) (.at rfl) ar_44_3_3 (by rfl) (by decide) ?_
    exact single_nil
  refine' DrawR.op 9 34 9 [(33, some 0), (32, some 1)] rfl rfl (fun rest => ?_) ?_
  rotate_left
  · skip
    refine Run.idx_arr (j := 1) rfl rfl rfl (.at rfl) (.at rfl) ar_30_3_1 (by rfl) (by decide) ?_
    exact single_nil
  refine' DrawR.op 10 35 10 [(34, some 0)] rfl rfl (fun rest => ?_) ?_
  rotate_left
  · skip
    refine Run.load rfl rfl rfl (.at rfl) (place_adr rfl) sc_2 rfl ?_
    exact single_nil
  refine' DrawR.op 11 36 11 [(30, some 5), (35, some 0)] rfl rfl (fun rest => ?_) ?_
  rotate_left
  · skip
    refine Run.mul rfl rfl rfl (.at rfl) (.at rfl) (by have h := prodB hp hm2 hn1; simp only [M3.tr] at h; omega) ?_
    exact single_nil
  refine' DrawR.op 12 37 12 [(25, some 11), (36, some 0)] rfl rfl (fun rest => ?_) ?_
  rotate_left
  · skip
    refine Run.add rfl rfl rfl (.at rfl) (.at rfl) (by have h := prodB hp hm2 hn1; simp only [M3.tr] at h; omega) ?_
    exact single_nil
  refine' DrawR.op 13 10 13 [(37, some 0)] rfl rfl (fun rest => ?_) ?_
  rotate_left
  · skip
    refine Run.assign rfl rfl rfl (.at rfl) ?_
    exact single_nil
  refine DrawR.tail [] rfl (by kernel_rfl) ?_
  refine Run.nil ?_
  refine WP.trim (fr' := [(0, _), (4, _), (5, _), (6, _), (7, _), (8, _), (9, _), (10, _), (11, _)]) (H' := [[(_, [_, _, _, _, _, _, _, _, _])], [(_, [_, _, _, _, _, _, _, _, _])], [(_, [_, _, _, _, _, _, _, _, _])], [(_, [_, _, _, _, _, _, _, _, _])]]) ?_ ⟨rfl, rfl, rfl, rfl, rfl, rfl, rfl, rfl, rfl, trivial⟩ rfl
  refine WP.region (l := [0, 1, 2]) rfl ?_
  refine Run.move rfl rfl rfl (.at rfl) ?_
  refine Run.add rfl rfl rfl (.at rfl) (.at rfl) (by omega) ?_
  refine Run.assign rfl rfl rfl (.at rfl) ?_
  refine Run.nil ?_
  refine LP.trim (fr' := [(0, _), (4, _), (5, _), (6, _), (7, _), (8, _), (9, _), (10, _), (11, _)]) (H' := [[(_, [_, _, _, _, _, _, _, _, _])], [(_, [_, _, _, _, _, _, _, _, _])], [(_, [_, _, _, _, _, _, _, _, _])], [(_, [_, _, _, _, _, _, _, _, _])]]) ?_ ⟨rfl, rfl, rfl, rfl, rfl, rfl, rfl, rfl, rfl, trivial⟩ rfl
  refine LP.round ?_
  refine WP.seq ?_
  refine WP.seq (WP.region (l := [0, 1]) rfl ?_)
  refine Run.move rfl rfl rfl (.at rfl) ?_
  refine Run.int rfl rfl rfl (.at rfl) (.at rfl) rfl ?_
  refine Run.nil ?_
  refine WP.cond_t (.at rfl) rfl ?_
  refine WP.skip ?_
  refine WP.seq ?_
  refine WP.block ?_
  refine WP.draw mx_0 ?_
  refine Drawn.calmR ?_
  refine' DrawR.op 0 25 0 [(10, none)] rfl rfl (fun rest => ?_) ?_
  rotate_left
  · skip
    refine Run.move rfl rfl rfl (.at rfl) ?_
    exact single_nil
  refine' DrawR.op 1 26 1 [(8, none)] rfl rfl (fun rest => ?_) ?_
  rotate_left
  · skip
    refine Run.move rfl rfl rfl (.at rfl) ?_
    exact single_nil
  refine' DrawR.op 2 27 2 [(11, none)] rfl rfl (fun rest => ?_) ?_
  rotate_left
  · skip
    refine Run.move rfl rfl rfl (.at rfl) ?_
    exact single_nil
  refine' DrawR.op 3 28 3 [(4, none), (26, some 1)] rfl rfl (fun rest => ?_) ?_
  rotate_left
  · skip
    refine Run.idx_arr (j := 2) rfl rfl rfl (.at rfl) (.at rfl) ar_44_3_3 (by rfl) (by decide) ?_
    exact single_nil
  refine' DrawR.op 4 29 4 [(28, some 0), (27, some 1)] rfl rfl (fun rest => ?_) ?_
  rotate_left
  · skip
    refine Run.idx_arr (j := 2) rfl rfl rfl (.at rfl) (.at rfl) ar_30_3_1 (by rfl) (by decide) ?_
    exact single_nil
  refine' DrawR.op 5 30 5 [(29, some 0)] rfl rfl (fun rest => ?_) ?_
  rotate_left
  · skip
    refine Run.load rfl rfl rfl (.at rfl) (place_adr rfl) sc_2 rfl ?_
    exact single_nil
  refine' DrawR.op 6 31 6 [(11, none)] rfl rfl (fun rest => ?_) ?_
  rotate_left
  · skip
    refine Run.move rfl rfl rfl (.at rfl) ?_
    exact single_nil
  refine' DrawR.op 7 32 7 [(9, none)] rfl rfl (fun rest => ?_) ?_
  rotate_left
  · skip
    refine Run.move rfl rfl rfl (.at rfl) ?_
    exact single_nil
  refine' DrawR.op 8 33 8 [(5, none), (31, some 1)] rfl rfl (fun rest => ?_) ?_
  rotate_left
  · skip
    refine Run.idx_arr (j := 2) rfl rfl rfl (.at rfl) (.at rfl) ar_44_3_3 (by rfl) (by decide) ?_
    exact single_nil
  refine' DrawR.op 9 34 9 [(33, some 0), (32, some 1)] rfl rfl (fun rest => ?_) ?_
  rotate_left
  · skip
    refine Run.idx_arr (j := 1) rfl rfl rfl (.at rfl) (.at rfl) ar_30_3_1 (by rfl) (by decide) ?_
    exact single_nil
  refine' DrawR.op 10 35 10 [(34, some 0)] rfl rfl (fun rest => ?_) ?_
  rotate_left
  · skip
    refine Run.load rfl rfl rfl (.at rfl) (place_adr rfl) sc_2 rfl ?_
    exact single_nil
  refine' DrawR.op 11 36 11 [(30, some 5), (35, some 0)] rfl rfl (fun rest => ?_) ?_
  rotate_left
  · skip
    refine Run.mul rfl rfl rfl (.at rfl) (.at rfl) (by have h := prodB hp hm2 hn1; simp only [M3.tr] at h; omega) ?_
    exact single_nil
  refine' DrawR.op 12 37 12 [(25, some 11), (36, some 0)] rfl rfl (fun rest => ?_) ?_
  rotate_left
  · skip
    refine Run.add rfl rfl rfl (.at rfl) (.at rfl) (by have h := prodB hp hm2 hn1; simp only [M3.tr] at h; omega) ?_
    exact single_nil
  refine' DrawR.op 13 10 13 [(37, some 0)] rfl rfl (fun rest => ?_) ?_
  rotate_left
  · skip
    refine Run.assign rfl rfl rfl (.at rfl) ?_
    exact single_nil
  refine DrawR.tail [] rfl (by kernel_rfl) ?_
  refine Run.nil ?_
  refine WP.trim (fr' := [(0, _), (4, _), (5, _), (6, _), (7, _), (8, _), (9, _), (10, _), (11, _)]) (H' := [[(_, [_, _, _, _, _, _, _, _, _])], [(_, [_, _, _, _, _, _, _, _, _])], [(_, [_, _, _, _, _, _, _, _, _])], [(_, [_, _, _, _, _, _, _, _, _])]]) ?_ ⟨rfl, rfl, rfl, rfl, rfl, rfl, rfl, rfl, rfl, trivial⟩ rfl
  refine WP.region (l := [0, 1, 2]) rfl ?_
  refine Run.move rfl rfl rfl (.at rfl) ?_
  refine Run.add rfl rfl rfl (.at rfl) (.at rfl) (by omega) ?_
  refine Run.assign rfl rfl rfl (.at rfl) ?_
  refine Run.nil ?_
  refine LP.trim (fr' := [(0, _), (4, _), (5, _), (6, _), (7, _), (8, _), (9, _), (10, _), (11, _)]) (H' := [[(_, [_, _, _, _, _, _, _, _, _])], [(_, [_, _, _, _, _, _, _, _, _])], [(_, [_, _, _, _, _, _, _, _, _])], [(_, [_, _, _, _, _, _, _, _, _])]]) ?_ ⟨rfl, rfl, rfl, rfl, rfl, rfl, rfl, rfl, rfl, trivial⟩ rfl
  refine LP.round ?_
  refine WP.seq ?_
  refine WP.seq (WP.region (l := [0, 1]) rfl ?_)
  refine Run.move rfl rfl rfl (.at rfl) ?_
  refine Run.int rfl rfl rfl (.at rfl) (.at rfl) rfl ?_
  refine Run.nil ?_
  refine WP.cond_f (.at rfl) rfl ?_
  refine WP.exit ?_
  refine WP.draw mx_0 ?_
  refine Drawn.calmR ?_
  refine' DrawR.op 0 38 0 [(8, none)] rfl rfl (fun rest => ?_) ?_
  rotate_left
  · skip
    refine Run.move rfl rfl rfl (.at rfl) ?_
    exact single_nil
  refine' DrawR.op 1 39 1 [(9, none)] rfl rfl (fun rest => ?_) ?_
  rotate_left
  · skip
    refine Run.move rfl rfl rfl (.at rfl) ?_
    exact single_nil
  refine' DrawR.op 2 40 2 [(10, none)] rfl rfl (fun rest => ?_) ?_
  rotate_left
  · skip
    refine Run.move rfl rfl rfl (.at rfl) ?_
    exact single_nil
  refine' DrawR.op 3 41 3 [(0, none)] rfl rfl (fun rest => ?_) ?_
  rotate_left
  · skip
    refine Run.move rfl rfl rfl (.at rfl) ?_
    exact single_nil
  refine' DrawR.op 4 42 4 [(40, some 1), (41, some 0)] rfl rfl (fun rest => ?_) ?_
  rotate_left
  · skip
    refine Run.rem rfl rfl rfl (.at rfl) (.at rfl) (by have h := prodB hp hm2 hn1; simp only [M3.tr] at h; omega) (by omega) ?_
    exact single_nil
  refine' DrawR.op 5 43 5 [(7, none), (38, some 4)] rfl rfl (fun rest => ?_) ?_
  rotate_left
  · skip
    refine Run.idx_arr (j := 2) rfl rfl rfl (.at rfl) (.at rfl) ar_44_3_3 (by rfl) (by decide) ?_
    exact single_nil
  refine' DrawR.op 6 44 6 [(43, some 0), (39, some 4)] rfl rfl (fun rest => ?_) ?_
  rotate_left
  · skip
    refine Run.idx_arr (j := 1) rfl rfl rfl (.at rfl) (.at rfl) ar_30_3_1 (by rfl) (by decide) ?_
    exact single_nil
  refine DrawR.tail [7] rfl (by kernel_rfl) ?_
  refine Run.store (j := 0) rfl rfl (.at rfl) rfl rfl (.at rfl) sz_2_1 rfl rfl (by first | decide | exact Nat.le_of_ble_eq_true rfl) rfl ?_
  refine Run.nil ?_
  refine WP.region (l := [0, 1, 2]) rfl ?_
  refine Run.move rfl rfl rfl (.at rfl) ?_
  refine Run.add rfl rfl rfl (.at rfl) (.at rfl) (by omega) ?_
  refine Run.assign rfl rfl rfl (.at rfl) ?_
  refine Run.nil ?_
  refine LP.trim (fr' := [(0, _), (4, _), (5, _), (6, _), (7, _), (8, _), (9, _)]) (H' := [[(_, [_, _, _, _, _, _, _, _, _])], [(_, [_, _, _, _, _, _, _, _, _])], [(_, [_, _, _, _, _, _, _, _, _])], [(_, [_, _, _, _, _, _, _, _, _])]]) ?_ ⟨rfl, rfl, rfl, rfl, rfl, rfl, rfl, trivial⟩ rfl
  refine LP.round ?_
  refine WP.seq ?_
  refine WP.seq (WP.region (l := [0, 1]) rfl ?_)
  refine Run.move rfl rfl rfl (.at rfl) ?_
  refine Run.int rfl rfl rfl (.at rfl) (.at rfl) rfl ?_
  refine Run.nil ?_
  refine WP.cond_t (.at rfl) rfl ?_
  refine WP.skip ?_
  refine WP.seq ?_
  refine WP.block ?_
  refine WP.seq (WP.region (l := [0]) rfl ?_)
  refine Run.assign rfl rfl rfl (.at rfl) ?_
  refine Run.nil ?_
  refine WP.seq ?_
  refine WP.seq (WP.region (l := [0]) rfl ?_)
  refine Run.assign rfl rfl rfl (.at rfl) ?_
  refine Run.nil ?_
  refine WP.block ?_
  refine WP.loop ?_
  refine LP.trim (fr' := [(0, _), (4, _), (5, _), (6, _), (7, _), (8, _), (9, _), (10, _), (11, _)]) (H' := [[(_, [_, _, _, _, _, _, _, _, _])], [(_, [_, _, _, _, _, _, _, _, _])], [(_, [_, _, _, _, _, _, _, _, _])], [(_, [_, _, _, _, _, _, _, _, _])]]) ?_ ⟨rfl, rfl, rfl, rfl, rfl, rfl, rfl, rfl, rfl, trivial⟩ rfl
  refine LP.round ?_
  refine WP.seq ?_
  refine WP.seq (WP.region (l := [0, 1]) rfl ?_)
  refine Run.move rfl rfl rfl (.at rfl) ?_
  refine Run.int rfl rfl rfl (.at rfl) (.at rfl) rfl ?_
  refine Run.nil ?_
  refine WP.cond_t (.at rfl) rfl ?_
  refine WP.skip ?_
  refine WP.seq ?_
  refine WP.block ?_
  refine WP.draw mx_0 ?_
  refine Drawn.calmR ?_
  refine' DrawR.op 0 25 0 [(10, none)] rfl rfl (fun rest => ?_) ?_
  rotate_left
  · skip
    refine Run.move rfl rfl rfl (.at rfl) ?_
    exact single_nil
  refine' DrawR.op 1 26 1 [(8, none)] rfl rfl (fun rest => ?_) ?_
  rotate_left
  · skip
    refine Run.move rfl rfl rfl (.at rfl) ?_
    exact single_nil
  refine' DrawR.op 2 27 2 [(11, none)] rfl rfl (fun rest => ?_) ?_
  rotate_left
  · skip
    refine Run.move rfl rfl rfl (.at rfl) ?_
    exact single_nil
  refine' DrawR.op 3 28 3 [(4, none), (26, some 1)] rfl rfl (fun rest => ?_) ?_
  rotate_left
  · skip
    refine Run.idx_arr (j := 2) rfl rfl rfl (.at rfl) (.at rfl) ar_44_3_3 (by rfl) (by decide) ?_
    exact single_nil
  refine' DrawR.op 4 29 4 [(28, some 0), (27, some 1)] rfl rfl (fun rest => ?_) ?_
  rotate_left
  · skip
    refine Run.idx_arr (j := 0) rfl rfl rfl (.at rfl) (.at rfl) ar_30_3_1 (by rfl) (by decide) ?_
    exact single_nil
  refine' DrawR.op 5 30 5 [(29, some 0)] rfl rfl (fun rest => ?_) ?_
  rotate_left
  · skip
    refine Run.load rfl rfl rfl (.at rfl) (place_adr rfl) sc_2 rfl ?_
    exact single_nil
  refine' DrawR.op 6 31 6 [(11, none)] rfl rfl (fun rest => ?_) ?_
  rotate_left
  · skip
    refine Run.move rfl rfl rfl (.at rfl) ?_
    exact single_nil
  refine' DrawR.op 7 32 7 [(9, none)] rfl rfl (fun rest => ?_) ?_
  rotate_left
  · skip
    refine Run.move rfl rfl rfl (.at rfl) ?_
    exact single_nil
  refine' DrawR.op 8 33 8 [(5, none), (31, some 1)] rfl rfl (fun rest => ?_) ?_
  rotate_left
  · skip
    refine Run.idx_arr (j := 0) rfl rfl rfl (.at rfl) (.at rfl) ar_44_3_3 (by rfl) (by decide) ?_
    exact single_nil
  refine' DrawR.op 9 34 9 [(33, some 0), (32, some 1)] rfl rfl (fun rest => ?_) ?_
  rotate_left
  · skip
    refine Run.idx_arr (j := 2) rfl rfl rfl (.at rfl) (.at rfl) ar_30_3_1 (by rfl) (by decide) ?_
    exact single_nil
  refine' DrawR.op 10 35 10 [(34, some 0)] rfl rfl (fun rest => ?_) ?_
  rotate_left
  · skip
    refine Run.load rfl rfl rfl (.at rfl) (place_adr rfl) sc_2 rfl ?_
    exact single_nil
  refine' DrawR.op 11 36 11 [(30, some 5), (35, some 0)] rfl rfl (fun rest => ?_) ?_
  rotate_left
  · skip
    refine Run.mul rfl rfl rfl (.at rfl) (.at rfl) (by have h := prodB hp hm2 hn2; simp only [M3.tr] at h; omega) ?_
    exact single_nil
  refine' DrawR.op 12 37 12 [(25, some 11), (36, some 0)] rfl rfl (fun rest => ?_) ?_
  rotate_left
  · skip
    refine Run.add rfl rfl rfl (.at rfl) (.at rfl) (by have h := prodB hp hm2 hn2; simp only [M3.tr] at h; omega) ?_
    exact single_nil
  refine' DrawR.op 13 10 13 [(37, some 0)] rfl rfl (fun rest => ?_) ?_
  rotate_left
  · skip
    refine Run.assign rfl rfl rfl (.at rfl) ?_
    exact single_nil
  refine DrawR.tail [] rfl (by kernel_rfl) ?_
  refine Run.nil ?_
  refine WP.trim (fr' := [(0, _), (4, _), (5, _), (6, _), (7, _), (8, _), (9, _), (10, _), (11, _)]) (H' := [[(_, [_, _, _, _, _, _, _, _, _])], [(_, [_, _, _, _, _, _, _, _, _])], [(_, [_, _, _, _, _, _, _, _, _])], [(_, [_, _, _, _, _, _, _, _, _])]]) ?_ ⟨rfl, rfl, rfl, rfl, rfl, rfl, rfl, rfl, rfl, trivial⟩ rfl
  refine WP.region (l := [0, 1, 2]) rfl ?_
  refine Run.move rfl rfl rfl (.at rfl) ?_
  refine Run.add rfl rfl rfl (.at rfl) (.at rfl) (by omega) ?_
  refine Run.assign rfl rfl rfl (.at rfl) ?_
  refine Run.nil ?_
  refine LP.trim (fr' := [(0, _), (4, _), (5, _), (6, _), (7, _), (8, _), (9, _), (10, _), (11, _)]) (H' := [[(_, [_, _, _, _, _, _, _, _, _])], [(_, [_, _, _, _, _, _, _, _, _])], [(_, [_, _, _, _, _, _, _, _, _])], [(_, [_, _, _, _, _, _, _, _, _])]]) ?_ ⟨rfl, rfl, rfl, rfl, rfl, rfl, rfl, rfl, rfl, trivial⟩ rfl
  refine LP.round ?_
  refine WP.seq ?_
  refine WP.seq (WP.region (l := [0, 1]) rfl ?_)
  refine Run.move rfl rfl rfl (.at rfl) ?_
  refine Run.int rfl rfl rfl (.at rfl) (.at rfl) rfl ?_
  refine Run.nil ?_
  refine WP.cond_t (.at rfl) rfl ?_
  refine WP.skip ?_
  refine WP.seq ?_
  refine WP.block ?_
  refine WP.draw mx_0 ?_
  refine Drawn.calmR ?_
  refine' DrawR.op 0 25 0 [(10, none)] rfl rfl (fun rest => ?_) ?_
  rotate_left
  · skip
    refine Run.move rfl rfl rfl (.at rfl) ?_
    exact single_nil
  refine' DrawR.op 1 26 1 [(8, none)] rfl rfl (fun rest => ?_) ?_
  rotate_left
  · skip
    refine Run.move rfl rfl rfl (.at rfl) ?_
    exact single_nil
  refine' DrawR.op 2 27 2 [(11, none)] rfl rfl (fun rest => ?_) ?_
  rotate_left
  · skip
    refine Run.move rfl rfl rfl (.at rfl) ?_
    exact single_nil
  refine' DrawR.op 3 28 3 [(4, none), (26, some 1)] rfl rfl (fun rest => ?_) ?_
  rotate_left
  · skip
    refine Run.idx_arr (j := 2) rfl rfl rfl (.at rfl) (.at rfl) ar_44_3_3 (by rfl) (by decide) ?_
    exact single_nil
  refine' DrawR.op 4 29 4 [(28, some 0), (27, some 1)] rfl rfl (fun rest => ?_) ?_
  rotate_left
  · skip
    refine Run.idx_arr (j := 1) rfl rfl rfl (.at rfl) (.at rfl) ar_30_3_1 (by rfl) (by decide) ?_
    exact single_nil
  refine' DrawR.op 5 30 5 [(29, some 0)] rfl rfl (fun rest => ?_) ?_
  rotate_left
  · skip
    refine Run.load rfl rfl rfl (.at rfl) (place_adr rfl) sc_2 rfl ?_
    exact single_nil
  refine' DrawR.op 6 31 6 [(11, none)] rfl rfl (fun rest => ?_) ?_
  rotate_left
  · skip
    refine Run.move rfl rfl rfl (.at rfl) ?_
    exact single_nil
  refine' DrawR.op 7 32 7 [(9, none)] rfl rfl (fun rest => ?_) ?_
  rotate_left
  · skip
    refine Run.move rfl rfl rfl (.at rfl) ?_
    exact single_nil
  refine' DrawR.op 8 33 8 [(5, none), (31, some 1)] rfl rfl (fun rest => ?_) ?_
  rotate_left
  · skip
    refine Run.idx_arr (j := 1) rfl rfl rfl (.at rfl) (.at rfl) ar_44_3_3 (by rfl) (by decide) ?_
    exact single_nil
  refine' DrawR.op 9 34 9 [(33, some 0), (32, some 1)] rfl rfl (fun rest => ?_) ?_
  rotate_left
  · skip
    refine Run.idx_arr (j := 2) rfl rfl rfl (.at rfl) (.at rfl) ar_30_3_1 (by rfl) (by decide) ?_
    exact single_nil
  refine' DrawR.op 10 35 10 [(34, some 0)] rfl rfl (fun rest => ?_) ?_
  rotate_left
  · skip
    refine Run.load rfl rfl rfl (.at rfl) (place_adr rfl) sc_2 rfl ?_
    exact single_nil
  refine' DrawR.op 11 36 11 [(30, some 5), (35, some 0)] rfl rfl (fun rest => ?_) ?_
  rotate_left
  · skip
    refine Run.mul rfl rfl rfl (.at rfl) (.at rfl) (by have h := prodB hp hm2 hn2; simp only [M3.tr] at h; omega) ?_
    exact single_nil
  refine' DrawR.op 12 37 12 [(25, some 11), (36, some 0)] rfl rfl (fun rest => ?_) ?_
  rotate_left
  · skip
    refine Run.add rfl rfl rfl (.at rfl) (.at rfl) (by have h := prodB hp hm2 hn2; simp only [M3.tr] at h; omega) ?_
    exact single_nil
  refine' DrawR.op 13 10 13 [(37, some 0)] rfl rfl (fun rest => ?_) ?_
  rotate_left
  · skip
    refine Run.assign rfl rfl rfl (.at rfl) ?_
    exact single_nil
  refine DrawR.tail [] rfl (by kernel_rfl) ?_
  refine Run.nil ?_
  refine WP.trim (fr' := [(0, _), (4, _), (5, _), (6, _), (7, _), (8, _), (9, _), (10, _), (11, _)]) (H' := [[(_, [_, _, _, _, _, _, _, _, _])], [(_, [_, _, _, _, _, _, _, _, _])], [(_, [_, _, _, _, _, _, _, _, _])], [(_, [_, _, _, _, _, _, _, _, _])]]) ?_ ⟨rfl, rfl, rfl, rfl, rfl, rfl, rfl, rfl, rfl, trivial⟩ rfl
  refine WP.region (l := [0, 1, 2]) rfl ?_
  refine Run.move rfl rfl rfl (.at rfl) ?_
  refine Run.add rfl rfl rfl (.at rfl) (.at rfl) (by omega) ?_
  refine Run.assign rfl rfl rfl (.at rfl) ?_
  refine Run.nil ?_
  refine LP.trim (fr' := [(0, _), (4, _), (5, _), (6, _), (7, _), (8, _), (9, _), (10, _), (11, _)]) (H' := [[(_, [_, _, _, _, _, _, _, _, _])], [(_, [_, _, _, _, _, _, _, _, _])], [(_, [_, _, _, _, _, _, _, _, _])], [(_, [_, _, _, _, _, _, _, _, _])]]) ?_ ⟨rfl, rfl, rfl, rfl, rfl, rfl, rfl, rfl, rfl, trivial⟩ rfl
  refine LP.round ?_
  refine WP.seq ?_
  refine WP.seq (WP.region (l := [0, 1]) rfl ?_)
  refine Run.move rfl rfl rfl (.at rfl) ?_
  refine Run.int rfl rfl rfl (.at rfl) (.at rfl) rfl ?_
  refine Run.nil ?_
  refine WP.cond_t (.at rfl) rfl ?_
  refine WP.skip ?_
  refine WP.seq ?_
  refine WP.block ?_
  refine WP.draw mx_0 ?_
  refine Drawn.calmR ?_
  refine' DrawR.op 0 25 0 [(10, none)] rfl rfl (fun rest => ?_) ?_
  rotate_left
  · skip
    refine Run.move rfl rfl rfl (.at rfl) ?_
    exact single_nil
  refine' DrawR.op 1 26 1 [(8, none)] rfl rfl (fun rest => ?_) ?_
  rotate_left
  · skip
    refine Run.move rfl rfl rfl (.at rfl) ?_
    exact single_nil
  refine' DrawR.op 2 27 2 [(11, none)] rfl rfl (fun rest => ?_) ?_
  rotate_left
  · skip
    refine Run.move rfl rfl rfl (.at rfl) ?_
    exact single_nil
  refine' DrawR.op 3 28 3 [(4, none), (26, some 1)] rfl rfl (fun rest => ?_) ?_
  rotate_left
  · skip
    refine Run.idx_arr (j := 2) rfl rfl rfl (.at rfl) (.at rfl) ar_44_3_3 (by rfl) (by decide) ?_
    exact single_nil
  refine' DrawR.op 4 29 4 [(28, some 0), (27, some 1)] rfl rfl (fun rest => ?_) ?_
  rotate_left
  · skip
    refine Run.idx_arr (j := 2) rfl rfl rfl (.at rfl) (.at rfl) ar_30_3_1 (by rfl) (by decide) ?_
    exact single_nil
  refine' DrawR.op 5 30 5 [(29, some 0)] rfl rfl (fun rest => ?_) ?_
  rotate_left
  · skip
    refine Run.load rfl rfl rfl (.at rfl) (place_adr rfl) sc_2 rfl ?_
    exact single_nil
  refine' DrawR.op 6 31 6 [(11, none)] rfl rfl (fun rest => ?_) ?_
  rotate_left
  · skip
    refine Run.move rfl rfl rfl (.at rfl) ?_
    exact single_nil
  refine' DrawR.op 7 32 7 [(9, none)] rfl rfl (fun rest => ?_) ?_
  rotate_left
  · skip
    refine Run.move rfl rfl rfl (.at rfl) ?_
    exact single_nil
  refine' DrawR.op 8 33 8 [(5, none), (31, some 1)] rfl rfl (fun rest => ?_) ?_
  rotate_left
  · skip
    refine Run.idx_arr (j := 2) rfl rfl rfl (.at rfl) (.at rfl) ar_44_3_3 (by rfl) (by decide) ?_
    exact single_nil
  refine' DrawR.op 9 34 9 [(33, some 0), (32, some 1)] rfl rfl (fun rest => ?_) ?_
  rotate_left
  · skip
    refine Run.idx_arr (j := 2) rfl rfl rfl (.at rfl) (.at rfl) ar_30_3_1 (by rfl) (by decide) ?_
    exact single_nil
  refine' DrawR.op 10 35 10 [(34, some 0)] rfl rfl (fun rest => ?_) ?_
  rotate_left
  · skip
    refine Run.load rfl rfl rfl (.at rfl) (place_adr rfl) sc_2 rfl ?_
    exact single_nil
  refine' DrawR.op 11 36 11 [(30, some 5), (35, some 0)] rfl rfl (fun rest => ?_) ?_
  rotate_left
  · skip
    refine Run.mul rfl rfl rfl (.at rfl) (.at rfl) (by have h := prodB hp hm2 hn2; simp only [M3.tr] at h; omega) ?_
    exact single_nil
  refine' DrawR.op 12 37 12 [(25, some 11), (36, some 0)] rfl rfl (fun rest => ?_) ?_
  rotate_left
  · skip
    refine Run.add rfl rfl rfl (.at rfl) (.at rfl) (by have h := prodB hp hm2 hn2; simp only [M3.tr] at h; omega) ?_
    exact single_nil
  refine' DrawR.op 13 10 13 [(37, some 0)] rfl rfl (fun rest => ?_) ?_
  rotate_left
  · skip
    refine Run.assign rfl rfl rfl (.at rfl) ?_
    exact single_nil
  refine DrawR.tail [] rfl (by kernel_rfl) ?_
  refine Run.nil ?_
  refine WP.trim (fr' := [(0, _), (4, _), (5, _), (6, _), (7, _), (8, _), (9, _), (10, _), (11, _)]) (H' := [[(_, [_, _, _, _, _, _, _, _, _])], [(_, [_, _, _, _, _, _, _, _, _])], [(_, [_, _, _, _, _, _, _, _, _])], [(_, [_, _, _, _, _, _, _, _, _])]]) ?_ ⟨rfl, rfl, rfl, rfl, rfl, rfl, rfl, rfl, rfl, trivial⟩ rfl
  refine WP.region (l := [0, 1, 2]) rfl ?_
  refine Run.move rfl rfl rfl (.at rfl) ?_
  refine Run.add rfl rfl rfl (.at rfl) (.at rfl) (by omega) ?_
  refine Run.assign rfl rfl rfl (.at rfl) ?_
  refine Run.nil ?_
  refine LP.trim (fr' := [(0, _), (4, _), (5, _), (6, _), (7, _), (8, _), (9, _), (10, _), (11, _)]) (H' := [[(_, [_, _, _, _, _, _, _, _, _])], [(_, [_, _, _, _, _, _, _, _, _])], [(_, [_, _, _, _, _, _, _, _, _])], [(_, [_, _, _, _, _, _, _, _, _])]]) ?_ ⟨rfl, rfl, rfl, rfl, rfl, rfl, rfl, rfl, rfl, trivial⟩ rfl
  refine LP.round ?_
  refine WP.seq ?_
  refine WP.seq (WP.region (l := [0, 1]) rfl ?_)
  refine Run.move rfl rfl rfl (.at rfl) ?_
  refine Run.int rfl rfl rfl (.at rfl) (.at rfl) rfl ?_
  refine Run.nil ?_
  refine WP.cond_f (.at rfl) rfl ?_
  refine WP.exit ?_
  refine WP.draw mx_0 ?_
  refine Drawn.calmR ?_
  refine' DrawR.op 0 38 0 [(8, none)] rfl rfl (fun rest => ?_) ?_
  rotate_left
  · skip
    refine Run.move rfl rfl rfl (.at rfl) ?_
    exact single_nil
  refine' DrawR.op 1 39 1 [(9, none)] rfl rfl (fun rest => ?_) ?_
  rotate_left
  · skip
    refine Run.move rfl rfl rfl (.at rfl) ?_
    exact single_nil
  refine' DrawR.op 2 40 2 [(10, none)] rfl rfl (fun rest => ?_) ?_
  rotate_left
  · skip
    refine Run.move rfl rfl rfl (.at rfl) ?_
    exact single_nil
  refine' DrawR.op 3 41 3 [(0, none)] rfl rfl (fun rest => ?_) ?_
  rotate_left
  · skip
    refine Run.move rfl rfl rfl (.at rfl) ?_
    exact single_nil
  refine' DrawR.op 4 42 4 [(40, some 1), (41, some 0)] rfl rfl (fun rest => ?_) ?_
  rotate_left
  · skip
    refine Run.rem rfl rfl rfl (.at rfl) (.at rfl) (by have h := prodB hp hm2 hn2; simp only [M3.tr] at h; omega) (by omega) ?_
    exact single_nil
  refine' DrawR.op 5 43 5 [(7, none), (38, some 4)] rfl rfl (fun rest => ?_) ?_
  rotate_left
  · skip
    refine Run.idx_arr (j := 2) rfl rfl rfl (.at rfl) (.at rfl) ar_44_3_3 (by rfl) (by decide) ?_
    exact single_nil
  refine' DrawR.op 6 44 6 [(43, some 0), (39, some 4)] rfl rfl (fun rest => ?_) ?_
  rotate_left
  · skip
    refine Run.idx_arr (j := 2) rfl rfl rfl (.at rfl) (.at rfl) ar_30_3_1 (by rfl) (by decide) ?_
    exact single_nil
  refine DrawR.tail [7] rfl (by kernel_rfl) ?_
  refine Run.store (j := 0) rfl rfl (.at rfl) rfl rfl (.at rfl) sz_2_1 rfl rfl (by first | decide | exact Nat.le_of_ble_eq_true rfl) rfl ?_
  refine Run.nil ?_
  refine WP.region (l := [0, 1, 2]) rfl ?_
  refine Run.move rfl rfl rfl (.at rfl) ?_
  refine Run.add rfl rfl rfl (.at rfl) (.at rfl) (by omega) ?_
  refine Run.assign rfl rfl rfl (.at rfl) ?_
  refine Run.nil ?_
  refine LP.trim (fr' := [(0, _), (4, _), (5, _), (6, _), (7, _), (8, _), (9, _)]) (H' := [[(_, [_, _, _, _, _, _, _, _, _])], [(_, [_, _, _, _, _, _, _, _, _])], [(_, [_, _, _, _, _, _, _, _, _])], [(_, [_, _, _, _, _, _, _, _, _])]]) ?_ ⟨rfl, rfl, rfl, rfl, rfl, rfl, rfl, trivial⟩ rfl
  refine LP.round ?_
  refine WP.seq ?_
  refine WP.seq (WP.region (l := [0, 1]) rfl ?_)
  refine Run.move rfl rfl rfl (.at rfl) ?_
  refine Run.int rfl rfl rfl (.at rfl) (.at rfl) rfl ?_
  refine Run.nil ?_
  refine WP.cond_f (.at rfl) rfl ?_
  refine WP.exit ?_
  refine WP.region (l := [0, 1, 2]) rfl ?_
  refine Run.move rfl rfl rfl (.at rfl) ?_
  refine Run.add rfl rfl rfl (.at rfl) (.at rfl) (by omega) ?_
  refine Run.assign rfl rfl rfl (.at rfl) ?_
  refine Run.nil ?_
  refine LP.trim (fr' := [(0, _), (4, _), (5, _), (6, _), (7, _), (8, _)]) (H' := [[(_, [_, _, _, _, _, _, _, _, _])], [(_, [_, _, _, _, _, _, _, _, _])], [(_, [_, _, _, _, _, _, _, _, _])], [(_, [_, _, _, _, _, _, _, _, _])]]) ?_ ⟨rfl, rfl, rfl, rfl, rfl, rfl, trivial⟩ rfl
  refine LP.round ?_
  refine WP.seq ?_
  refine WP.seq (WP.region (l := [0, 1]) rfl ?_)
  refine Run.move rfl rfl rfl (.at rfl) ?_
  refine Run.int rfl rfl rfl (.at rfl) (.at rfl) rfl ?_
  refine Run.nil ?_
  refine WP.cond_f (.at rfl) rfl ?_
  refine WP.exit ?_
  refine WP.hp (H' := [_, _, _, [(_, (mulT p m n.tr).cs)]]) (by rw [he]; rfl) ?_
  refine WP.seq (WP.region (l := [0, 1, 2, 3]) rfl ?_)
  refine Run.move rfl rfl rfl (.at rfl) ?_
  refine Run.loads rfl rfl rfl (.at rfl) (place_adr rfl) ag_44_9 rfl rfl ?_
  refine Run.call rfl rfl rfl (.at rfl) (.cons (.at rfl) (.cons (.at rfl) .nil)) (c_l02Normal p (mulT p m n.tr) hp) ?_
  refine Run.store (j := 0) rfl rfl (.at rfl) rfl rfl (.at rfl) sz_44_9 rfl rfl (by first | decide | exact Nat.le_of_ble_eq_true rfl) rfl ?_
  refine Run.nil ?_
  refine WP.ret ?_
  exact Ends.pure (.cells rfl (place_adr rfl) ag_44_9 rfl rfl .nil) rfl
theorem c_l02Image (p : Int) (m : M3) (v : V3) (hp : IsP p) (hm : m.ir p) (hv : v.ir p) : Pure Try.prog 48 [.int .i64 p, m.av, v.av] (imgM p m v).av := by
  have hb := hp.bd
  obtain ⟨hm0, hm1, hm2⟩ := hm
  refine Pure.body 6 (n := 60) (fn := Try.f48) (c := Try.f48.body.get!) fn_48 rfl nm_48 rfl rfl fun C => ?_
  refine WP.seq (WP.region (l := [0, 1, 2]) rfl ?_)
  refine Run.box 0 rfl rfl rfl (.at rfl) rfl (fun b4 => ?_)
  refine Run.box 1 rfl rfl rfl (.at rfl) rfl (fun b5 => ?_)
  refine Run.alloc 2 rfl rfl rfl zr_33 (fun b6 => ?_)
  refine Run.nil ?_
  refine WP.seq (WP.region (l := [0, 1]) rfl ?_)
  refine Run.buildSlice 3 rfl rfl rfl el_73 (by decide) .nil rfl rfl (fun b11 => ?_)
  refine Run.assign rfl rfl rfl (.at rfl) ?_
  refine Run.nil ?_
  refine WP.seq ?_
  refine WP.seq (WP.region (l := [0]) rfl ?_)
  refine Run.assign rfl rfl rfl (.at rfl) ?_
  refine Run.nil ?_
  refine WP.block ?_
  refine WP.loop ?_
  refine LP.trim (fr' := [(0, _), (4, _), (5, _), (6, _), (7, _), (8, _)]) (H' := [[(_, [_, _, _, _, _, _, _, _, _])], [(_, [_, _, _])], [(_, [_, _, _])], _, _, _]) ?_ ⟨rfl, rfl, rfl, rfl, rfl, rfl, trivial⟩ rfl
  refine LP.round ?_
  refine WP.seq ?_
  refine WP.seq (WP.region (l := [0, 1]) rfl ?_)
  refine Run.move rfl rfl rfl (.at rfl) ?_
  refine Run.int rfl rfl rfl (.at rfl) (.at rfl) rfl ?_
  refine Run.nil ?_
  refine WP.cond_t (.at rfl) rfl ?_
  refine WP.skip ?_
  refine WP.seq ?_
  refine WP.block ?_
  refine WP.draw mx_0 ?_
  refine Drawn.move 0 rfl (by kernel_rfl) rfl (.at rfl) ?_
  refine Drawn.calmR ?_
  refine' DrawR.op 1 17 0 [(8, none)] rfl rfl (fun rest => ?_) ?_
  rotate_left
  · skip
    refine Run.move rfl rfl rfl (.at rfl) ?_
    exact single_nil
  refine' DrawR.op 2 18 1 [(4, none), (17, some 0)] rfl rfl (fun rest => ?_) ?_
  rotate_left
  · skip
    refine Run.idx_arr (j := 0) rfl rfl rfl (.at rfl) (.at rfl) ar_44_3_3 (by rfl) (by decide) ?_
    exact single_nil
  refine' DrawR.op 3 19 2 [(18, some 0)] rfl rfl (fun rest => ?_) ?_
  rotate_left
  · skip
    refine Run.idx_arr (j := 0) rfl rfl rfl (.at rfl) (.at rfl) ar_30_3_1 (by rfl) (by decide) ?_
    exact single_nil
  refine' DrawR.op 4 20 3 [(19, some 0)] rfl rfl (fun rest => ?_) ?_
  rotate_left
  · skip
    refine Run.load rfl rfl rfl (.at rfl) (place_adr rfl) sc_2 rfl ?_
    exact single_nil
  refine' DrawR.op 5 21 4 [(5, none)] rfl rfl (fun rest => ?_) ?_
  rotate_left
  · skip
    refine Run.idx_arr (j := 0) rfl rfl rfl (.at rfl) (.at rfl) ar_33_3_1 (by rfl) (by decide) ?_
    exact single_nil
  refine' DrawR.op 6 22 5 [(21, some 0)] rfl rfl (fun rest => ?_) ?_
  rotate_left
  · skip
    refine Run.load rfl rfl rfl (.at rfl) (place_adr rfl) sc_2 rfl ?_
    exact single_nil
  refine' DrawR.op 7 23 6 [(20, some 2), (22, some 0)] rfl rfl (fun rest => ?_) ?_
  rotate_left
  · skip
    refine Run.mul rfl rfl rfl (.at rfl) (.at rfl) (by have h := prodB hp hm0 hv; omega) ?_
    exact single_nil
  refine' DrawR.op 8 24 7 [(8, none)] rfl rfl (fun rest => ?_) ?_
  rotate_left
  · skip
    refine Run.move rfl rfl rfl (.at rfl) ?_
    exact single_nil
  refine' DrawR.op 9 25 8 [(4, none), (24, some 0)] rfl rfl (fun rest => ?_) ?_
  rotate_left
  · skip
    refine Run.idx_arr (j := 0) rfl rfl rfl (.at rfl) (.at rfl) ar_44_3_3 (by rfl) (by decide) ?_
    exact single_nil
  refine' DrawR.op 10 26 9 [(25, some 0)] rfl rfl (fun rest => ?_) ?_
  rotate_left
  · skip
    refine Run.idx_arr (j := 1) rfl rfl rfl (.at rfl) (.at rfl) ar_30_3_1 (by rfl) (by decide) ?_
    exact single_nil
  refine' DrawR.op 11 27 10 [(26, some 0)] rfl rfl (fun rest => ?_) ?_
  rotate_left
  · skip
    refine Run.load rfl rfl rfl (.at rfl) (place_adr rfl) sc_2 rfl ?_
    exact single_nil
  refine' DrawR.op 12 28 11 [(5, none)] rfl rfl (fun rest => ?_) ?_
  rotate_left
  · skip
    refine Run.idx_arr (j := 1) rfl rfl rfl (.at rfl) (.at rfl) ar_33_3_1 (by rfl) (by decide) ?_
    exact single_nil
  refine' DrawR.op 13 29 12 [(28, some 0)] rfl rfl (fun rest => ?_) ?_
  rotate_left
  · skip
    refine Run.load rfl rfl rfl (.at rfl) (place_adr rfl) sc_2 rfl ?_
    exact single_nil
  refine' DrawR.op 14 30 13 [(27, some 2), (29, some 0)] rfl rfl (fun rest => ?_) ?_
  rotate_left
  · skip
    refine Run.mul rfl rfl rfl (.at rfl) (.at rfl) (by have h := prodB hp hm0 hv; omega) ?_
    exact single_nil
  refine' DrawR.op 15 31 14 [(23, some 7), (30, some 0)] rfl rfl (fun rest => ?_) ?_
  rotate_left
  · skip
    refine Run.add rfl rfl rfl (.at rfl) (.at rfl) (by have h := prodB hp hm0 hv; omega) ?_
    exact single_nil
  refine' DrawR.op 16 32 15 [(8, none)] rfl rfl (fun rest => ?_) ?_
  rotate_left
  · skip
    refine Run.move rfl rfl rfl (.at rfl) ?_
    exact single_nil
  refine' DrawR.op 17 33 16 [(4, none), (32, some 0)] rfl rfl (fun rest => ?_) ?_
  rotate_left
  · skip
    refine Run.idx_arr (j := 0) rfl rfl rfl (.at rfl) (.at rfl) ar_44_3_3 (by rfl) (by decide) ?_
    exact single_nil
  refine' DrawR.op 18 34 17 [(33, some 0)] rfl rfl (fun rest => ?_) ?_
  rotate_left
  · skip
    refine Run.idx_arr (j := 2) rfl rfl rfl (.at rfl) (.at rfl) ar_30_3_1 (by rfl) (by decide) ?_
    exact single_nil
  refine' DrawR.op 19 35 18 [(34, some 0)] rfl rfl (fun rest => ?_) ?_
  rotate_left
  · skip
    refine Run.load rfl rfl rfl (.at rfl) (place_adr rfl) sc_2 rfl ?_
    exact single_nil
  refine' DrawR.op 20 36 19 [(5, none)] rfl rfl (fun rest => ?_) ?_
  rotate_left
  · skip
    refine Run.idx_arr (j := 2) rfl rfl rfl (.at rfl) (.at rfl) ar_33_3_1 (by rfl) (by decide) ?_
    exact single_nil
  refine' DrawR.op 21 37 20 [(36, some 0)] rfl rfl (fun rest => ?_) ?_
  rotate_left
  · skip
    refine Run.load rfl rfl rfl (.at rfl) (place_adr rfl) sc_2 rfl ?_
    exact single_nil
  refine' DrawR.op 22 38 21 [(35, some 2), (37, some 0)] rfl rfl (fun rest => ?_) ?_
  rotate_left
  · skip
    refine Run.mul rfl rfl rfl (.at rfl) (.at rfl) (by have h := prodB hp hm0 hv; omega) ?_
    exact single_nil
  refine' DrawR.op 23 39 22 [(31, some 7), (38, some 0)] rfl rfl (fun rest => ?_) ?_
  rotate_left
  · skip
    refine Run.add rfl rfl rfl (.at rfl) (.at rfl) (by have h := prodB hp hm0 hv; omega) ?_
    exact single_nil
  refine' DrawR.op 24 40 23 [(0, none)] rfl rfl (fun rest => ?_) ?_
  rotate_left
  · skip
    refine Run.move rfl rfl rfl (.at rfl) ?_
    exact single_nil
  refine' DrawR.op 25 41 24 [(39, some 1), (40, some 0)] rfl rfl (fun rest => ?_) ?_
  rotate_left
  · skip
    refine Run.rem rfl rfl rfl (.at rfl) (.at rfl) (by have h := prodB hp hm0 hv; omega) (by omega) ?_
    exact single_nil
  refine DrawR.tail [26, 27, 28] rfl (by kernel_rfl) ?_
  refine Run.buildSlice 4 rfl rfl rfl el_73 (by decide) (.cons (.at rfl) rfl .nil) rfl rfl (fun b42 => ?_)
  refine Run.append rfl rfl rfl (.at rfl) rfl el_73 (.at rfl) (.own (At.one rfl) rfl rfl) rfl (by omega) (Nat.le_of_ble_eq_true rfl) (by omega) (by omega) (fun b43 => ?_)
  refine Run.assign rfl rfl rfl (.at rfl) ?_
  refine Run.nil ?_
  refine WP.trim (fr' := [(0, _), (4, _), (5, _), (6, _), (7, _), (8, _)]) (H' := [[(_, [_, _, _, _, _, _, _, _, _])], [(_, [_, _, _])], [(_, [_, _, _])], _, _, _]) ?_ ⟨rfl, rfl, rfl, rfl, rfl, rfl, trivial⟩ rfl
  refine WP.region (l := [0, 1, 2]) rfl ?_
  refine Run.move rfl rfl rfl (.at rfl) ?_
  refine Run.add rfl rfl rfl (.at rfl) (.at rfl) (by omega) ?_
  refine Run.assign rfl rfl rfl (.at rfl) ?_
  refine Run.nil ?_
  refine LP.trim (fr' := [(0, _), (4, _), (5, _), (6, _), (7, _), (8, _)]) (H' := [[(_, [_, _, _, _, _, _, _, _, _])], [(_, [_, _, _])], [(_, [_, _, _])], _, _, _]) ?_ ⟨rfl, rfl, rfl, rfl, rfl, rfl, trivial⟩ rfl
  refine LP.round ?_
  refine WP.seq ?_
  refine WP.seq (WP.region (l := [0, 1]) rfl ?_)
  refine Run.move rfl rfl rfl (.at rfl) ?_
  refine Run.int rfl rfl rfl (.at rfl) (.at rfl) rfl ?_
  refine Run.nil ?_
  refine WP.cond_t (.at rfl) rfl ?_
  refine WP.skip ?_
  refine WP.seq ?_
  refine WP.block ?_
  refine WP.draw mx_0 ?_
  refine Drawn.move 0 rfl (by kernel_rfl) rfl (.at rfl) ?_
  refine Drawn.calmR ?_
  refine' DrawR.op 1 17 0 [(8, none)] rfl rfl (fun rest => ?_) ?_
  rotate_left
  · skip
    refine Run.move rfl rfl rfl (.at rfl) ?_
    exact single_nil
  refine' DrawR.op 2 18 1 [(4, none), (17, some 0)] rfl rfl (fun rest => ?_) ?_
  rotate_left
  · skip
    refine Run.idx_arr (j := 1) rfl rfl rfl (.at rfl) (.at rfl) ar_44_3_3 (by rfl) (by decide) ?_
    exact single_nil
  refine' DrawR.op 3 19 2 [(18, some 0)] rfl rfl (fun rest => ?_) ?_
  rotate_left
  · skip
    refine Run.idx_arr (j := 0) rfl rfl rfl (.at rfl) (.at rfl) ar_30_3_1 (by rfl) (by decide) ?_
    exact single_nil
  refine' DrawR.op 4 20 3 [(19, some 0)] rfl rfl (fun rest => ?_) ?_
  rotate_left
  · skip
    refine Run.load rfl rfl rfl (.at rfl) (place_adr rfl) sc_2 rfl ?_
    exact single_nil
  refine' DrawR.op 5 21 4 [(5, none)] rfl rfl (fun rest => ?_) ?_
  rotate_left
  · skip
    refine Run.idx_arr (j := 0) rfl rfl rfl (.at rfl) (.at rfl) ar_33_3_1 (by rfl) (by decide) ?_
    exact single_nil
  refine' DrawR.op 6 22 5 [(21, some 0)] rfl rfl (fun rest => ?_) ?_
  rotate_left
  · skip
    refine Run.load rfl rfl rfl (.at rfl) (place_adr rfl) sc_2 rfl ?_
    exact single_nil
  refine' DrawR.op 7 23 6 [(20, some 2), (22, some 0)] rfl rfl (fun rest => ?_) ?_
  rotate_left
  · skip
    refine Run.mul rfl rfl rfl (.at rfl) (.at rfl) (by have h := prodB hp hm1 hv; omega) ?_
    exact single_nil
  refine' DrawR.op 8 24 7 [(8, none)] rfl rfl (fun rest => ?_) ?_
  rotate_left
  · skip
    refine Run.move rfl rfl rfl (.at rfl) ?_
    exact single_nil
  refine' DrawR.op 9 25 8 [(4, none), (24, some 0)] rfl rfl (fun rest => ?_) ?_
  rotate_left
  · skip
    refine Run.idx_arr (j := 1) rfl rfl rfl (.at rfl) (.at rfl) ar_44_3_3 (by rfl) (by decide) ?_
    exact single_nil
  refine' DrawR.op 10 26 9 [(25, some 0)] rfl rfl (fun rest => ?_) ?_
  rotate_left
  · skip
    refine Run.idx_arr (j := 1) rfl rfl rfl (.at rfl) (.at rfl) ar_30_3_1 (by rfl) (by decide) ?_
    exact single_nil
  refine' DrawR.op 11 27 10 [(26, some 0)] rfl rfl (fun rest => ?_) ?_
  rotate_left
  · skip
    refine Run.load rfl rfl rfl (.at rfl) (place_adr rfl) sc_2 rfl ?_
    exact single_nil
  refine' DrawR.op 12 28 11 [(5, none)] rfl rfl (fun rest => ?_) ?_
  rotate_left
  · skip
    refine Run.idx_arr (j := 1) rfl rfl rfl (.at rfl) (.at rfl) ar_33_3_1 (by rfl) (by decide) ?_
    exact single_nil
  refine' DrawR.op 13 29 12 [(28, some 0)] rfl rfl (fun rest => ?_) ?_
  rotate_left
  · skip
    refine Run.load rfl rfl rfl (.at rfl) (place_adr rfl) sc_2 rfl ?_
    exact single_nil
  refine' DrawR.op 14 30 13 [(27, some 2), (29, some 0)] rfl rfl (fun rest => ?_) ?_
  rotate_left
  · skip
    refine Run.mul rfl rfl rfl (.at rfl) (.at rfl) (by have h := prodB hp hm1 hv; omega) ?_
    exact single_nil
  refine' DrawR.op 15 31 14 [(23, some 7), (30, some 0)] rfl rfl (fun rest => ?_) ?_
  rotate_left
  · skip
    refine Run.add rfl rfl rfl (.at rfl) (.at rfl) (by have h := prodB hp hm1 hv; omega) ?_
    exact single_nil
  refine' DrawR.op 16 32 15 [(8, none)] rfl rfl (fun rest => ?_) ?_
  rotate_left
  · skip
    refine Run.move rfl rfl rfl (.at rfl) ?_
    exact single_nil
  refine' DrawR.op 17 33 16 [(4, none), (32, some 0)] rfl rfl (fun rest => ?_) ?_
  rotate_left
  · skip
    refine Run.idx_arr (j := 1) rfl rfl rfl (.at rfl) (.at rfl) ar_44_3_3 (by rfl) (by decide) ?_
    exact single_nil
  refine' DrawR.op 18 34 17 [(33, some 0)] rfl rfl (fun rest => ?_) ?_
  rotate_left
  · skip
    refine Run.idx_arr (j := 2) rfl rfl rfl (.at rfl) (.at rfl) ar_30_3_1 (by rfl) (by decide) ?_
    exact single_nil
  refine' DrawR.op 19 35 18 [(34, some 0)] rfl rfl (fun rest => ?_) ?_
  rotate_left
  · skip
    refine Run.load rfl rfl rfl (.at rfl) (place_adr rfl) sc_2 rfl ?_
    exact single_nil
  refine' DrawR.op 20 36 19 [(5, none)] rfl rfl (fun rest => ?_) ?_
  rotate_left
  · skip
    refine Run.idx_arr (j := 2) rfl rfl rfl (.at rfl) (.at rfl) ar_33_3_1 (by rfl) (by decide) ?_
    exact single_nil
  refine' DrawR.op 21 37 20 [(36, some 0)] rfl rfl (fun rest => ?_) ?_
  rotate_left
  · skip
    refine Run.load rfl rfl rfl (.at rfl) (place_adr rfl) sc_2 rfl ?_
    exact single_nil
  refine' DrawR.op 22 38 21 [(35, some 2), (37, some 0)] rfl rfl (fun rest => ?_) ?_
  rotate_left
  · skip
    refine Run.mul rfl rfl rfl (.at rfl) (.at rfl) (by have h := prodB hp hm1 hv; omega) ?_
    exact single_nil
  refine' DrawR.op 23 39 22 [(31, some 7), (38, some 0)] rfl rfl (fun rest => ?_) ?_
  rotate_left
  · skip
    refine Run.add rfl rfl rfl (.at rfl) (.at rfl) (by have h := prodB hp hm1 hv; omega) ?_
    exact single_nil
  refine' DrawR.op 24 40 23 [(0, none)] rfl rfl (fun rest => ?_) ?_
  rotate_left
  · skip
    refine Run.move rfl rfl rfl (.at rfl) ?_
    exact single_nil
  refine' DrawR.op 25 41 24 [(39, some 1), (40, some 0)] rfl rfl (fun rest => ?_) ?_
  rotate_left
  · skip
    refine Run.rem rfl rfl rfl (.at rfl) (.at rfl) (by have h := prodB hp hm1 hv; omega) (by omega) ?_
    exact single_nil
  refine DrawR.tail [26, 27, 28] rfl (by kernel_rfl) ?_
  refine Run.buildSlice 4 rfl rfl rfl el_73 (by decide) (.cons (.at rfl) rfl .nil) rfl rfl (fun b42 => ?_)
  refine Run.append rfl rfl rfl (.at rfl) rfl el_73 (.at rfl) (.own (At.one rfl) rfl rfl) rfl (by omega) (Nat.le_of_ble_eq_true rfl) (by omega) (by omega) (fun b43 => ?_)
  refine Run.assign rfl rfl rfl (.at rfl) ?_
  refine Run.nil ?_
  refine WP.trim (fr' := [(0, _), (4, _), (5, _), (6, _), (7, _), (8, _)]) (H' := [[(_, [_, _, _, _, _, _, _, _, _])], [(_, [_, _, _])], [(_, [_, _, _])], _, _, _]) ?_ ⟨rfl, rfl, rfl, rfl, rfl, rfl, trivial⟩ rfl
  refine WP.region (l := [0, 1, 2]) rfl ?_
  refine Run.move rfl rfl rfl (.at rfl) ?_
  refine Run.add rfl rfl rfl (.at rfl) (.at rfl) (by omega) ?_
  refine Run.assign rfl rfl rfl (.at rfl) ?_
  refine Run.nil ?_
  refine LP.trim (fr' := [(0, _), (4, _), (5, _), (6, _), (7, _), (8, _)]) (H' := [[(_, [_, _, _, _, _, _, _, _, _])], [(_, [_, _, _])], [(_, [_, _, _])], _, _, _]) ?_ ⟨rfl, rfl, rfl, rfl, rfl, rfl, trivial⟩ rfl
  refine LP.round ?_
  refine WP.seq ?_
  refine WP.seq (WP.region (l := [0, 1]) rfl ?_)
  refine Run.move rfl rfl rfl (.at rfl) ?_
  refine Run.int rfl rfl rfl (.at rfl) (.at rfl) rfl ?_
  refine Run.nil ?_
  refine WP.cond_t (.at rfl) rfl ?_
  refine WP.skip ?_
  refine WP.seq ?_
  refine WP.block ?_
  refine WP.draw mx_0 ?_
  refine Drawn.move 0 rfl (by kernel_rfl) rfl (.at rfl) ?_
  refine Drawn.calmR ?_
  refine' DrawR.op 1 17 0 [(8, none)] rfl rfl (fun rest => ?_) ?_
  rotate_left
  · skip
    refine Run.move rfl rfl rfl (.at rfl) ?_
    exact single_nil
  refine' DrawR.op 2 18 1 [(4, none), (17, some 0)] rfl rfl (fun rest => ?_) ?_
  rotate_left
  · skip
    refine Run.idx_arr (j := 2) rfl rfl rfl (.at rfl) (.at rfl) ar_44_3_3 (by rfl) (by decide) ?_
    exact single_nil
  refine' DrawR.op 3 19 2 [(18, some 0)] rfl rfl (fun rest => ?_) ?_
  rotate_left
  · skip
    refine Run.idx_arr (j := 0) rfl rfl rfl (.at rfl) (.at rfl) ar_30_3_1 (by rfl) (by decide) ?_
    exact single_nil
  refine' DrawR.op 4 20 3 [(19, some 0)] rfl rfl (fun rest => ?_) ?_
  rotate_left
  · skip
    refine Run.load rfl rfl rfl (.at rfl) (place_adr rfl) sc_2 rfl ?_
    exact single_nil
  refine' DrawR.op 5 21 4 [(5, none)] rfl rfl (fun rest => ?_) ?_
  rotate_left
  · skip
    refine Run.idx_arr (j := 0) rfl rfl rfl (.at rfl) (.at rfl) ar_33_3_1 (by rfl) (by decide) ?_
    exact single_nil
  refine' DrawR.op 6 22 5 [(21, some 0)] rfl rfl (fun rest => ?_) ?_
  rotate_left
  · skip
    refine Run.load rfl rfl rfl (.at rfl) (place_adr rfl) sc_2 rfl ?_
    exact single_nil
  refine' DrawR.op 7 23 6 [(20, some 2), (22, some 0)] rfl rfl (fun rest => ?_) ?_
  rotate_left
  · skip
    refine Run.mul rfl rfl rfl (.at rfl) (.at rfl) (by have h := prodB hp hm2 hv; omega) ?_
    exact single_nil
  refine' DrawR.op 8 24 7 [(8, none)] rfl rfl (fun rest => ?_) ?_
  rotate_left
  · skip
    refine Run.move rfl rfl rfl (.at rfl) ?_
    exact single_nil
  refine' DrawR.op 9 25 8 [(4, none), (24, some 0)] rfl rfl (fun rest => ?_) ?_
  rotate_left
  · skip
    refine Run.idx_arr (j := 2) rfl rfl rfl (.at rfl) (.at rfl) ar_44_3_3 (by rfl) (by decide) ?_
    exact single_nil
  refine' DrawR.op 10 26 9 [(25, some 0)] rfl rfl (fun rest => ?_) ?_
  rotate_left
  · skip
    refine Run.idx_arr (j := 1) rfl rfl rfl (.at rfl) (.at rfl) ar_30_3_1 (by rfl) (by decide) ?_
    exact single_nil
  refine' DrawR.op 11 27 10 [(26, some 0)] rfl rfl (fun rest => ?_) ?_
  rotate_left
  · skip
    refine Run.load rfl rfl rfl (.at rfl) (place_adr rfl) sc_2 rfl ?_
    exact single_nil
  refine' DrawR.op 12 28 11 [(5, none)] rfl rfl (fun rest => ?_) ?_
  rotate_left
  · skip
    refine Run.idx_arr (j := 1) rfl rfl rfl (.at rfl) (.at rfl) ar_33_3_1 (by rfl) (by decide) ?_
    exact single_nil
  refine' DrawR.op 13 29 12 [(28, some 0)] rfl rfl (fun rest => ?_) ?_
  rotate_left
  · skip
    refine Run.load rfl rfl rfl (.at rfl) (place_adr rfl) sc_2 rfl ?_
    exact single_nil
  refine' DrawR.op 14 30 13 [(27, some 2), (29, some 0)] rfl rfl (fun rest => ?_) ?_
  rotate_left
  · skip
    refine Run.mul rfl rfl rfl (.at rfl) (.at rfl) (by have h := prodB hp hm2 hv; omega) ?_
    exact single_nil
  refine' DrawR.op 15 31 14 [(23, some 7), (30, some 0)] rfl rfl (fun rest => ?_) ?_
  rotate_left
  · skip
    refine Run.add rfl rfl rfl (.at rfl) (.at rfl) (by have h := prodB hp hm2 hv; omega) ?_
    exact single_nil
  refine' DrawR.op 16 32 15 [(8, none)] rfl rfl (fun rest => ?_) ?_
  rotate_left
  · skip
    refine Run.move rfl rfl rfl (.at rfl) ?_
    exact single_nil
  refine' DrawR.op 17 33 16 [(4, none), (32, some 0)] rfl rfl (fun rest => ?_) ?_
  rotate_left
  · skip
    refine Run.idx_arr (j := 2) rfl rfl rfl (.at rfl) (.at rfl) ar_44_3_3 (by rfl) (by decide) ?_
    exact single_nil
  refine' DrawR.op 18 34 17 [(33, some 0)] rfl rfl (fun rest => ?_) ?_
  rotate_left
  · skip
    refine Run.idx_arr (j := 2) rfl rfl rfl (.at rfl) (.at rfl) ar_30_3_1 (by rfl) (by decide) ?_
    exact single_nil
  refine' DrawR.op 19 35 18 [(34, some 0)] rfl rfl (fun rest => ?_) ?_
  rotate_left
  · skip
    refine Run.load rfl rfl rfl (.at rfl) (place_adr rfl) sc_2 rfl ?_
    exact single_nil
  refine' DrawR.op 20 36 19 [(5, none)] rfl rfl (fun rest => ?_) ?_
  rotate_left
  · skip
    refine Run.idx_arr (j := 2) rfl rfl rfl (.at rfl) (.at rfl) ar_33_3_1 (by rfl) (by decide) ?_
    exact single_nil
  refine' DrawR.op 21 37 20 [(36, some 0)] rfl rfl (fun rest => ?_) ?_
  rotate_left
  · skip
    refine Run.load rfl rfl rfl (.at rfl) (place_adr rfl) sc_2 rfl ?_
    exact single_nil
  refine' DrawR.op 22 38 21 [(35, some 2), (37, some 0)] rfl rfl (fun rest => ?_) ?_
  rotate_left
  · skip
    refine Run.mul rfl rfl rfl (.at rfl) (.at rfl) (by have h := prodB hp hm2 hv; omega) ?_
    exact single_nil
  refine' DrawR.op 23 39 22 [(31, some 7), (38, some 0)] rfl rfl (fun rest => ?_) ?_
  rotate_left
  · skip
    refine Run.add rfl rfl rfl (.at rfl) (.at rfl) (by have h := prodB hp hm2 hv; omega) ?_
    exact single_nil
  refine' DrawR.op 24 40 23 [(0, none)] rfl rfl (fun rest => ?_) ?_
  rotate_left
  · skip
    refine Run.move rfl rfl rfl (.at rfl) ?_
    exact single_nil
  refine' DrawR.op 25 41 24 [(39, some 1), (40, some 0)] rfl rfl (fun rest => ?_) ?_
  rotate_left
  · skip
    refine Run.rem rfl rfl rfl (.at rfl) (.at rfl) (by have h := prodB hp hm2 hv; omega) (by omega) ?_
    exact single_nil
  refine DrawR.tail [26, 27, 28] rfl (by kernel_rfl) ?_
  refine Run.buildSlice 4 rfl rfl rfl el_73 (by decide) (.cons (.at rfl) rfl .nil) rfl rfl (fun b42 => ?_)
  refine Run.append rfl rfl rfl (.at rfl) rfl el_73 (.at rfl) (.own (At.one rfl) rfl rfl) rfl (by omega) (Nat.le_of_ble_eq_true rfl) (by omega) (by omega) (fun b43 => ?_)
  refine Run.assign rfl rfl rfl (.at rfl) ?_
  refine Run.nil ?_
  refine WP.trim (fr' := [(0, _), (4, _), (5, _), (6, _), (7, _), (8, _)]) (H' := [[(_, [_, _, _, _, _, _, _, _, _])], [(_, [_, _, _])], [(_, [_, _, _])], _, _, _]) ?_ ⟨rfl, rfl, rfl, rfl, rfl, rfl, trivial⟩ rfl
  refine WP.region (l := [0, 1, 2]) rfl ?_
  refine Run.move rfl rfl rfl (.at rfl) ?_
  refine Run.add rfl rfl rfl (.at rfl) (.at rfl) (by omega) ?_
  refine Run.assign rfl rfl rfl (.at rfl) ?_
  refine Run.nil ?_
  refine LP.trim (fr' := [(0, _), (4, _), (5, _), (6, _), (7, _), (8, _)]) (H' := [[(_, [_, _, _, _, _, _, _, _, _])], [(_, [_, _, _])], [(_, [_, _, _])], _, _, _]) ?_ ⟨rfl, rfl, rfl, rfl, rfl, rfl, trivial⟩ rfl
  refine LP.round ?_
  refine WP.seq ?_
  refine WP.seq (WP.region (l := [0, 1]) rfl ?_)
  refine Run.move rfl rfl rfl (.at rfl) ?_
  refine Run.int rfl rfl rfl (.at rfl) (.at rfl) rfl ?_
  refine Run.nil ?_
  refine WP.cond_f (.at rfl) rfl ?_
  refine WP.exit ?_
  refine WP.seq (WP.region (l := [0, 1, 2, 3, 4, 5, 6, 7]) rfl ?_)
  refine Run.move rfl rfl rfl (.at rfl) ?_
  refine Run.move rfl rfl rfl (.at rfl) ?_
  refine Run.acts [] [5] rfl rfl rfl (.at rfl) (.cons (.at rfl) (.cons (.at rfl) .nil)) (.cons .refl (.cons (Lend.one rfl (by decide) (by rfl)) .nil)) (c_l01Norm 5 p [m.r0.dot v % p, m.r1.dot v % p, m.r2.dot v % p] (n := 3) hp (by decide) rfl) rfl rfl rfl (fun x H h => ?_) (fun x H h => ?_)
  · obtain ⟨b47, rfl, rfl⟩ := h; exact ⟨rfl, by first | rfl | simp [cleanH, cs3_cl]; done | simp [cleanH, ints_cl]; done | simp [cleanH, cs3_cl, ints_cl]; done | simp [cleanH, cs9_cl]; done | simp [cleanH, cs9_cl, cs3_cl, ints_cl]; done⟩
  obtain ⟨b47, rfl, rfl⟩ := h
  refine Run.move rfl rfl rfl (.at rfl) ?_
  refine Run.extract rfl rfl rfl (.at rfl) rfl ?_
  refine Run.extract rfl rfl rfl (.at rfl) rfl ?_
  refine Run.assign rfl rfl rfl (.at rfl) ?_
  refine Run.assign rfl rfl rfl (.at rfl) ?_
  refine Run.nil ?_
  refine WP.seq (WP.draw mx_0 ?_)
  refine Drawn.calmR ?_
  refine' DrawR.op 0 50 0 [(9, none)] rfl rfl (fun rest => ?_) ?_
  rotate_left
  · skip
    refine Run.move rfl rfl rfl (.at rfl) ?_
    exact single_nil
  refine' DrawR.op 1 51 1 [(50, some 0)] rfl rfl (fun rest => ?_) ?_
  rotate_left
  · skip
    refine Run.idx (j := 0) rfl rfl rfl (.at rfl) (.at rfl) sl_73_1 (by rfl) (by decide) ?_
    exact single_nil
  refine' DrawR.op 2 52 2 [(51, some 0)] rfl rfl (fun rest => ?_) ?_
  rotate_left
  · skip
    refine Run.load rfl rfl rfl (.at rfl) (place_adr rfl) sc_2 rfl ?_
    exact single_nil
  refine' DrawR.op 3 53 3 [(9, none)] rfl rfl (fun rest => ?_) ?_
  rotate_left
  · skip
    refine Run.move rfl rfl rfl (.at rfl) ?_
    exact single_nil
  refine' DrawR.op 4 54 4 [(53, some 0)] rfl rfl (fun rest => ?_) ?_
  rotate_left
  · skip
    refine Run.idx (j := 1) rfl rfl rfl (.at rfl) (.at rfl) sl_73_1 (by rfl) (by decide) ?_
    exact single_nil
  refine' DrawR.op 5 55 5 [(54, some 0)] rfl rfl (fun rest => ?_) ?_
  rotate_left
  · skip
    refine Run.load rfl rfl rfl (.at rfl) (place_adr rfl) sc_2 rfl ?_
    exact single_nil
  refine' DrawR.op 6 56 6 [(9, none)] rfl rfl (fun rest => ?_) ?_
  rotate_left
  · skip
    refine Run.move rfl rfl rfl (.at rfl) ?_
    exact single_nil
  refine' DrawR.op 7 57 7 [(56, some 0)] rfl rfl (fun rest => ?_) ?_
  rotate_left
  · skip
    refine Run.idx (j := 2) rfl rfl rfl (.at rfl) (.at rfl) sl_73_1 (by rfl) (by decide) ?_
    exact single_nil
  refine' DrawR.op 8 58 8 [(57, some 0)] rfl rfl (fun rest => ?_) ?_
  rotate_left
  · skip
    refine Run.load rfl rfl rfl (.at rfl) (place_adr rfl) sc_2 rfl ?_
    exact single_nil
  refine' DrawR.op 9 59 9 [(52, some 6), (55, some 3), (58, some 0)] rfl rfl (fun rest => ?_) ?_
  rotate_left
  · skip
    refine Run.build rfl rfl rfl bd_33 (.cons (.at rfl) rfl (.cons (.at rfl) rfl (.cons (.at rfl) rfl .nil))) rfl ?_
    exact single_nil
  refine DrawR.tail [10] rfl (by kernel_rfl) ?_
  refine Run.store (j := 0) rfl rfl (.at rfl) rfl rfl (.at rfl) sz_33_3 rfl rfl (by first | decide | exact Nat.le_of_ble_eq_true rfl) rfl ?_
  refine Run.nil ?_
  refine WP.ret ?_
  exact Ends.pure (.cells rfl (place_adr rfl) ag_33_3 rfl rfl .nil) rfl
theorem c_image (p : Int) (m : M3) (v : V3) (hp : IsP p) (hm : m.sm) (hv : v.sm) : Pure Try.prog 50 [.int .i64 p, m.av, v.av] (imgM p m v).av := by
  have hb := hp.bd
  obtain ⟨hm0, hm1, hm2⟩ := hm
  refine Pure.body 3 (n := 24) (fn := Try.f50) (c := Try.f50.body.get!) fn_50 rfl nm_50 rfl rfl fun C => ?_
  refine WP.seq (WP.region (l := [0, 1, 2]) rfl ?_)
  refine Run.box 0 rfl rfl rfl (.at rfl) rfl (fun b4 => ?_)
  refine Run.box 1 rfl rfl rfl (.at rfl) rfl (fun b5 => ?_)
  refine Run.alloc 2 rfl rfl rfl zr_33 (fun b6 => ?_)
  refine Run.nil ?_
  refine WP.seq (WP.draw mx_0 ?_)
  refine Drawn.calmR ?_
  refine' DrawR.op 0 7 0 [(0, none)] rfl rfl (fun rest => ?_) ?_
  rotate_left
  · skip
    refine Run.move rfl rfl rfl (.at rfl) ?_
    exact single_nil
  refine' DrawR.op 1 8 1 [(0, none)] rfl rfl (fun rest => ?_) ?_
  rotate_left
  · skip
    refine Run.move rfl rfl rfl (.at rfl) ?_
    exact single_nil
  refine' DrawR.op 2 9 2 [(4, none)] rfl rfl (fun rest => ?_) ?_
  rotate_left
  · skip
    refine Run.idx_arr (j := 0) rfl rfl rfl (.at rfl) (.at rfl) ar_44_3_3 (by rfl) (by decide) ?_
    exact single_nil
  refine' DrawR.op 3 10 3 [(9, some 0)] rfl rfl (fun rest => ?_) ?_
  rotate_left
  · skip
    refine Run.loads rfl rfl rfl (.at rfl) (place_adr rfl) ag_30_3 rfl rfl ?_
    exact single_nil
  refine' DrawR.op 4 11 4 [(5, none)] rfl rfl (fun rest => ?_) ?_
  rotate_left
  · skip
    refine Run.loads rfl rfl rfl (.at rfl) (place_adr rfl) ag_33_3 rfl rfl ?_
    exact single_nil
  refine' DrawR.op 5 12 5 [(8, some 3), (10, some 1), (11, some 0)] rfl rfl (fun rest => ?_) ?_
  rotate_left
  · skip
    refine Run.call rfl rfl rfl (.at rfl) (.cons (.at rfl) (.cons (.at rfl) (.cons (.at rfl) .nil))) (c_dot p m.r0 v hm0 hv (by omega) (by omega)) ?_
    exact single_nil
  refine' DrawR.op 6 13 6 [(0, none)] rfl rfl (fun rest => ?_) ?_
  rotate_left
  · skip
    refine Run.move rfl rfl rfl (.at rfl) ?_
    exact single_nil
  refine' DrawR.op 7 14 7 [(4, none)] rfl rfl (fun rest => ?_) ?_
  rotate_left
  · skip
    refine Run.idx_arr (j := 1) rfl rfl rfl (.at rfl) (.at rfl) ar_44_3_3 (by rfl) (by decide) ?_
    exact single_nil
  refine' DrawR.op 8 15 8 [(14, some 0)] rfl rfl (fun rest => ?_) ?_
  rotate_left
  · skip
    refine Run.loads rfl rfl rfl (.at rfl) (place_adr rfl) ag_30_3 rfl rfl ?_
    exact single_nil
  refine' DrawR.op 9 16 9 [(5, none)] rfl rfl (fun rest => ?_) ?_
  rotate_left
  · skip
    refine Run.loads rfl rfl rfl (.at rfl) (place_adr rfl) ag_33_3 rfl rfl ?_
    exact single_nil
  refine' DrawR.op 10 17 10 [(13, some 3), (15, some 1), (16, some 0)] rfl rfl (fun rest => ?_) ?_
  rotate_left
  · skip
    refine Run.call rfl rfl rfl (.at rfl) (.cons (.at rfl) (.cons (.at rfl) (.cons (.at rfl) .nil))) (c_dot p m.r1 v hm1 hv (by omega) (by omega)) ?_
    exact single_nil
  refine' DrawR.op 11 18 11 [(0, none)] rfl rfl (fun rest => ?_) ?_
  rotate_left
  · skip
    refine Run.move rfl rfl rfl (.at rfl) ?_
    exact single_nil
  refine' DrawR.op 12 19 12 [(4, none)] rfl rfl (fun rest => ?_) ?_
  rotate_left
  · skip
    refine Run.idx_arr (j := 2) rfl rfl rfl (.at rfl) (.at rfl) ar_44_3_3 (by rfl) (by decide) ?_
    exact single_nil
  refine' DrawR.op 13 20 13 [(19, some 0)] rfl rfl (fun rest => ?_) ?_
  rotate_left
  · skip
    refine Run.loads rfl rfl rfl (.at rfl) (place_adr rfl) ag_30_3 rfl rfl ?_
    exact single_nil
  refine' DrawR.op 14 21 14 [(5, none)] rfl rfl (fun rest => ?_) ?_
  rotate_left
  · skip
    refine Run.loads rfl rfl rfl (.at rfl) (place_adr rfl) ag_33_3 rfl rfl ?_
    exact single_nil
  refine' DrawR.op 15 22 15 [(18, some 3), (20, some 1), (21, some 0)] rfl rfl (fun rest => ?_) ?_
  rotate_left
  · skip
    refine Run.call rfl rfl rfl (.at rfl) (.cons (.at rfl) (.cons (.at rfl) (.cons (.at rfl) .nil))) (c_dot p m.r2 v hm2 hv (by omega) (by omega)) ?_
    exact single_nil
  refine' DrawR.op 16 23 16 [(7, some 15), (12, some 10), (17, some 5), (22, some 0)] rfl rfl (fun rest => ?_) ?_
  rotate_left
  · skip
    refine Run.call rfl rfl rfl (.at rfl) (.cons (.at rfl) (.cons (.at rfl) (.cons (.at rfl) (.cons (.at rfl) .nil)))) (c_pointOf p ⟨m.r0.dot v % p, m.r1.dot v % p, m.r2.dot v % p⟩ hp) ?_
    exact single_nil
  refine DrawR.tail [17] rfl (by kernel_rfl) ?_
  refine Run.store (j := 0) rfl rfl (.at rfl) rfl rfl (.at rfl) sz_33_3 rfl rfl (by first | decide | exact Nat.le_of_ble_eq_true rfl) rfl ?_
  refine Run.nil ?_
  refine WP.ret ?_
  exact Ends.pure (.cells rfl (place_adr rfl) ag_33_3 rfl rfl .nil) rfl
end Go.Ab
