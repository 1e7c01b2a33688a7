/- The walks of the code's maps: rows after rows, normal form, determinant, product. -/
import Derived.Test.YtlipjbfmmheicaaP12
import Derived.Test.YtlipjbfmmheicaaM2
namespace Go.Ab
open Go.Proofs
theorem c_grow9 (id : Nat) : Acts Try.prog 84 [.nilsl, .int .i64 9] [] (fun x H => ∃ b, x = .own id b 1 0 0 9 true ∧ H = [[(b, ints [0, 0, 0, 0, 0, 0, 0, 0, 0])]]) := by
  refine Acts.body 1 (n := 27) (fn := Try.f84) (c := Try.f84.body.get!) fn_84 rfl nm_84 rfl rfl fun C => ?_
  refine WP.seq (WP.region (l := [0]) rfl ?_)
  refine Run.assign rfl rfl rfl (.at rfl) ?_
  refine Run.nil ?_
  refine WP.seq ?_
  refine WP.seq (WP.region (l := [0, 1]) rfl ?_)
  refine Run.move rfl rfl rfl (.at rfl) ?_
  refine Run.int rfl rfl rfl (.at rfl) (.at rfl) rfl ?_
  refine Run.nil ?_
  refine WP.cond_f (.at rfl) rfl ?_
  refine WP.skip ?_
  refine WP.seq ?_
  refine WP.seq (WP.region (l := [0, 1, 2, 3, 4, 5, 6, 7]) rfl ?_)
  refine Run.move rfl rfl rfl (.at rfl) ?_
  refine Run.move rfl rfl rfl (.at rfl) ?_
  refine Run.cap rfl rfl rfl (.at rfl) is_73 rfl ?_
  refine Run.move rfl rfl rfl (.at rfl) ?_
  refine Run.len rfl rfl rfl (.at rfl) is_73 rfl ?_
  refine Run.sub rfl rfl rfl (.at rfl) (.at rfl) (by omega) ?_
  refine Run.sub rfl rfl rfl (.at rfl) (.at rfl) (by omega) ?_
  refine Run.assign rfl rfl rfl (.at rfl) ?_
  refine Run.nil ?_
  refine WP.seq (WP.region (l := [0, 1]) rfl ?_)
  refine Run.move rfl rfl rfl (.at rfl) ?_
  refine Run.int rfl rfl rfl (.at rfl) (.at rfl) rfl ?_
  refine Run.nil ?_
  refine WP.cond_t (.at rfl) rfl ?_
  refine WP.region (l := [0, 1, 2, 3, 4, 5, 6, 7, 8, 9]) rfl ?_
  refine Run.move rfl rfl rfl (.at rfl) ?_
  refine Run.move rfl rfl rfl (.at rfl) ?_
  refine Run.cap rfl rfl rfl (.at rfl) is_73 rfl ?_
  refine Run.slice_nil rfl rfl rfl (.at rfl) sl_73_1 Bnd.no (Bnd.at (.at rfl) (by first | rfl | exact (Int.toNat_of_nonneg (by omega)).symm)) ?_
  refine Run.move rfl rfl rfl (.at rfl) ?_
  refine Run.growNil 0 rfl rfl rfl (.at rfl) (.at rfl) el_73 it_3 (cnt := 9) rfl (by omega) (by omega) (by omega) (fun b22 => ?_)
  refine Run.move rfl rfl rfl (.at rfl) ?_
  refine Run.len rfl rfl rfl (.at rfl) is_73 rfl ?_
  refine Run.slice rfl rfl rfl (.at rfl) sl_73_1 Bnd.no (Bnd.at (.at rfl) (by first | rfl | exact (Int.toNat_of_nonneg (by omega)).symm)) (by omega) (by omega) (by omega) ?_
  refine Run.assign rfl rfl rfl (.at rfl) ?_
  refine Run.nil ?_
  refine WP.seq (WP.region (l := [0, 1]) rfl ?_)
  refine Run.move rfl rfl rfl (.at rfl) ?_
  refine Run.assign rfl rfl rfl (.at rfl) ?_
  refine Run.weak 4 rfl (fun _ _ _ h => own_name id h) ?_
  refine Run.nil ?_
  refine WP.ret ?_
  exact ⟨_, [[(b22, ints [0, 0, 0, 0, 0, 0, 0, 0, 0])]], (.tmp rfl .nil), Moved.pick (is := [0]) rfl, b22, rfl, rfl⟩
theorem c_concat3 (id : Nat) (u v w : V3) : Acts Try.prog 78 [.imm [.imm (ints u.l) 3, .imm (ints v.l) 3, .imm (ints w.l) 3] 3] [] (fun x H => ∃ b, x = .own id b 1 0 9 9 true ∧ H = [[(b, ints (u.l ++ (v.l ++ w.l)))]]) := by
  refine Acts.body 1 (n := 36) (fn := Try.f78) (c := Try.f78.body.get!) fn_78 rfl nm_78 rfl rfl fun C => ?_
  refine WP.seq (WP.region (l := [0]) rfl ?_)
  refine Run.assign rfl rfl rfl (.at rfl) ?_
  refine Run.nil ?_
  refine WP.seq (WP.region (l := [0]) rfl ?_)
  refine Run.assign rfl rfl rfl (.at rfl) ?_
  refine Run.nil ?_
  refine WP.seq ?_
  refine WP.seq (WP.region (l := [0, 1, 2]) rfl ?_)
  refine Run.move rfl rfl rfl (.at rfl) ?_
  refine Run.len rfl rfl rfl (.at rfl) is_93 rfl ?_
  refine Run.move rfl rfl rfl (.at rfl) ?_
  refine Run.nil ?_
  refine WP.block ?_
  refine WP.loop ?_
  refine LP.trim (fr' := [(0, _), (3, _), (9, _), (10, _), (11, _)]) (H' := [_]) ?_ ⟨rfl, rfl, rfl, rfl, rfl, trivial⟩ rfl
  refine LP.round ?_
  refine WP.seq (WP.region (l := [0]) rfl ?_)
  refine Run.int rfl rfl rfl (.at rfl) (.at rfl) rfl ?_
  refine Run.nil ?_
  refine WP.seq ?_
  refine WP.cond_t (.at rfl) rfl ?_
  refine WP.skip ?_
  refine WP.seq ?_
  refine WP.block ?_
  refine WP.seq (WP.region (l := [0, 1, 2]) rfl ?_)
  refine Run.idx_imm (j := 0) rfl rfl rfl (.at rfl) (.at rfl) sl_93_1 (by rfl) (by decide) ?_
  refine Run.load rfl rfl rfl (.at rfl) .imm sc_73 rfl ?_
  refine Run.assign rfl rfl rfl (.at rfl) ?_
  refine Run.nil ?_
  refine WP.seq (WP.region (l := [0, 1, 2, 3, 4]) rfl ?_)
  refine Run.move rfl rfl rfl (.at rfl) ?_
  refine Run.move rfl rfl rfl (.at rfl) ?_
  refine Run.len rfl rfl rfl (.at rfl) is_73 rfl ?_
  refine Run.add rfl rfl rfl (.at rfl) (.at rfl) (by omega) ?_
  refine Run.assign rfl rfl rfl (.at rfl) ?_
  refine Run.nil ?_
  refine WP.seq (WP.region (l := [0, 1]) rfl ?_)
  refine Run.move rfl rfl rfl (.at rfl) ?_
  refine Run.int rfl rfl rfl (.at rfl) (.at rfl) rfl ?_
  refine Run.nil ?_
  refine WP.cond_f (.at rfl) rfl ?_
  refine WP.skip ?_
  refine WP.region (l := [0, 1]) rfl ?_
  refine Run.add rfl rfl rfl (.at rfl) (.at rfl) (by omega) ?_
  refine Run.move rfl rfl rfl (.at rfl) ?_
  refine Run.nil ?_
  refine LP.trim (fr' := [(0, _), (3, _), (9, _), (10, _), (11, _)]) (H' := [_]) ?_ ⟨rfl, rfl, rfl, rfl, rfl, trivial⟩ rfl
  refine LP.round ?_
  refine WP.seq (WP.region (l := [0]) rfl ?_)
  refine Run.int rfl rfl rfl (.at rfl) (.at rfl) rfl ?_
  refine Run.nil ?_
  refine WP.seq ?_
  refine WP.cond_t (.at rfl) rfl ?_
  refine WP.skip ?_
  refine WP.seq ?_
  refine WP.block ?_
  refine WP.seq (WP.region (l := [0, 1, 2]) rfl ?_)
  refine Run.idx_imm (j := 1) rfl rfl rfl (.at rfl) (.at rfl) sl_93_1 (by rfl) (by decide) ?_
  refine Run.load rfl rfl rfl (.at rfl) .imm sc_73 rfl ?_
  refine Run.assign rfl rfl rfl (.at rfl) ?_
  refine Run.nil ?_
  refine WP.seq (WP.region (l := [0, 1, 2, 3, 4]) rfl ?_)
  refine Run.move rfl rfl rfl (.at rfl) ?_
  refine Run.move rfl rfl rfl (.at rfl) ?_
  refine Run.len rfl rfl rfl (.at rfl) is_73 rfl ?_
  refine Run.add rfl rfl rfl (.at rfl) (.at rfl) (by omega) ?_
  refine Run.assign rfl rfl rfl (.at rfl) ?_
  refine Run.nil ?_
  refine WP.seq (WP.region (l := [0, 1]) rfl ?_)
  refine Run.move rfl rfl rfl (.at rfl) ?_
  refine Run.int rfl rfl rfl (.at rfl) (.at rfl) rfl ?_
  refine Run.nil ?_
  refine WP.cond_f (.at rfl) rfl ?_
  refine WP.skip ?_
  refine WP.region (l := [0, 1]) rfl ?_
  refine Run.add rfl rfl rfl (.at rfl) (.at rfl) (by omega) ?_
  refine Run.move rfl rfl rfl (.at rfl) ?_
  refine Run.nil ?_
  refine LP.trim (fr' := [(0, _), (3, _), (9, _), (10, _), (11, _)]) (H' := [_]) ?_ ⟨rfl, rfl, rfl, rfl, rfl, trivial⟩ rfl
  refine LP.round ?_
  refine WP.seq (WP.region (l := [0]) rfl ?_)
  refine Run.int rfl rfl rfl (.at rfl) (.at rfl) rfl ?_
  refine Run.nil ?_
  refine WP.seq ?_
  refine WP.cond_t (.at rfl) rfl ?_
  refine WP.skip ?_
  refine WP.seq ?_
  refine WP.block ?_
  refine WP.seq (WP.region (l := [0, 1, 2]) rfl ?_)
  refine Run.idx_imm (j := 2) rfl rfl rfl (.at rfl) (.at rfl) sl_93_1 (by rfl) (by decide) ?_
  refine Run.load rfl rfl rfl (.at rfl) .imm sc_73 rfl ?_
  refine Run.assign rfl rfl rfl (.at rfl) ?_
  refine Run.nil ?_
  refine WP.seq (WP.region (l := [0, 1, 2, 3, 4]) rfl ?_)
  refine Run.move rfl rfl rfl (.at rfl) ?_
  refine Run.move rfl rfl rfl (.at rfl) ?_
  refine Run.len rfl rfl rfl (.at rfl) is_73 rfl ?_
  refine Run.add rfl rfl rfl (.at rfl) (.at rfl) (by omega) ?_
  refine Run.assign rfl rfl rfl (.at rfl) ?_
  refine Run.nil ?_
  refine WP.seq (WP.region (l := [0, 1]) rfl ?_)
  refine Run.move rfl rfl rfl (.at rfl) ?_
  refine Run.int rfl rfl rfl (.at rfl) (.at rfl) rfl ?_
  refine Run.nil ?_
  refine WP.cond_f (.at rfl) rfl ?_
  refine WP.skip ?_
  refine WP.region (l := [0, 1]) rfl ?_
  refine Run.add rfl rfl rfl (.at rfl) (.at rfl) (by omega) ?_
  refine Run.move rfl rfl rfl (.at rfl) ?_
  refine Run.nil ?_
  refine LP.trim (fr' := [(0, _), (3, _), (9, _), (10, _), (11, _)]) (H' := [_]) ?_ ⟨rfl, rfl, rfl, rfl, rfl, trivial⟩ rfl
  refine LP.round ?_
  refine WP.seq (WP.region (l := [0]) rfl ?_)
  refine Run.int rfl rfl rfl (.at rfl) (.at rfl) rfl ?_
  refine Run.nil ?_
  refine WP.seq ?_
  refine WP.cond_f (.at rfl) rfl ?_
  refine WP.exit ?_
  refine WP.seq (WP.region (l := [0, 1, 2]) rfl ?_)
  refine Run.move rfl rfl rfl (.at rfl) ?_
  refine Run.acts [] [0] rfl rfl rfl (.at rfl) (.cons (.at rfl) (.cons (.at rfl) .nil)) (LendL.refl _ _) (c_grow9 0) rfl rfl rfl (fun x H h => ?_) (fun x H h => ?_)
  · obtain ⟨b24, rfl, rfl⟩ := h; exact ⟨rfl, by first | rfl | simp [cleanH, cs3_cl]; done | simp [cleanH, ints_cl]; done | simp [cleanH, cs3_cl, ints_cl]; done | simp [cleanH, cs9_cl]; done | simp [cleanH, cs9_cl, cs3_cl, ints_cl]; done⟩
  obtain ⟨b24, rfl, rfl⟩ := h
  refine Run.assign rfl rfl rfl (.at rfl) ?_
  refine Run.nil ?_
  refine WP.seq ?_
  refine WP.seq (WP.region (l := [0, 1, 2]) rfl ?_)
  refine Run.move rfl rfl rfl (.at rfl) ?_
  refine Run.len rfl rfl rfl (.at rfl) is_93 rfl ?_
  refine Run.move rfl rfl rfl (.at rfl) ?_
  refine Run.nil ?_
  refine WP.block ?_
  refine WP.loop ?_
  refine LP.trim (fr' := [(6, _), (25, _), (26, _), (27, _)]) (H' := [_]) ?_ ⟨rfl, rfl, rfl, rfl, trivial⟩ rfl
  refine LP.round ?_
  refine WP.seq (WP.region (l := [0]) rfl ?_)
  refine Run.int rfl rfl rfl (.at rfl) (.at rfl) rfl ?_
  refine Run.nil ?_
  refine WP.seq ?_
  refine WP.cond_t (.at rfl) rfl ?_
  refine WP.skip ?_
  refine WP.seq ?_
  refine WP.block ?_
  refine WP.seq (WP.region (l := [0, 1, 2]) rfl ?_)
  refine Run.idx_imm (j := 0) rfl rfl rfl (.at rfl) (.at rfl) sl_93_1 (by rfl) (by decide) ?_
  refine Run.load rfl rfl rfl (.at rfl) .imm sc_73 rfl ?_
  refine Run.assign rfl rfl rfl (.at rfl) ?_
  refine Run.nil ?_
  refine WP.region (l := [0, 1, 2, 3]) rfl ?_
  refine Run.move rfl rfl rfl (.at rfl) ?_
  refine Run.move rfl rfl rfl (.at rfl) ?_
  refine Run.append rfl rfl rfl (.at rfl) rfl el_73 (.at rfl) (.imm rfl rfl) rfl (by omega) (Nat.le_of_ble_eq_true rfl) (by omega) (by omega) (fun b33 => ?_)
  refine Run.assign rfl rfl rfl (.at rfl) ?_
  refine Run.nil ?_
  refine WP.region (l := [0, 1]) rfl ?_
  refine Run.add rfl rfl rfl (.at rfl) (.at rfl) (by omega) ?_
  refine Run.move rfl rfl rfl (.at rfl) ?_
  refine Run.nil ?_
  refine LP.trim (fr' := [(6, _), (25, _), (26, _), (27, _)]) (H' := [_]) ?_ ⟨rfl, rfl, rfl, rfl, trivial⟩ rfl
  refine LP.round ?_
  refine WP.seq (WP.region (l := [0]) rfl ?_)
  refine Run.int rfl rfl rfl (.at rfl) (.at rfl) rfl ?_
  refine Run.nil ?_
  refine WP.seq ?_
  refine WP.cond_t (.at rfl) rfl ?_
  refine WP.skip ?_
  refine WP.seq ?_
  refine WP.block ?_
  refine WP.seq (WP.region (l := [0, 1, 2]) rfl ?_)
  refine Run.idx_imm (j := 1) rfl rfl rfl (.at rfl) (.at rfl) sl_93_1 (by rfl) (by decide) ?_
  refine Run.load rfl rfl rfl (.at rfl) .imm sc_73 rfl ?_
  refine Run.assign rfl rfl rfl (.at rfl) ?_
  refine Run.nil ?_
  refine WP.region (l := [0, 1, 2, 3]) rfl ?_
  refine Run.move rfl rfl rfl (.at rfl) ?_
  refine Run.move rfl rfl rfl (.at rfl) ?_
  refine Run.append rfl rfl rfl (.at rfl) rfl el_73 (.at rfl) (.imm rfl rfl) rfl (by omega) (Nat.le_of_ble_eq_true rfl) (by omega) (by omega) (fun b33 => ?_)
  refine Run.assign rfl rfl rfl (.at rfl) ?_
  refine Run.nil ?_
  refine WP.region (l := [0, 1]) rfl ?_
  refine Run.add rfl rfl rfl (.at rfl) (.at rfl) (by omega) ?_
  refine Run.move rfl rfl rfl (.at rfl) ?_
  refine Run.nil ?_
  refine LP.trim (fr' := [(6, _), (25, _), (26, _), (27, _)]) (H' := [_]) ?_ ⟨rfl, rfl, rfl, rfl, trivial⟩ rfl
  refine LP.round ?_
  refine WP.seq (WP.region (l := [0]) rfl ?_)
  refine Run.int rfl rfl rfl (.at rfl) (.at rfl) rfl ?_
  refine Run.nil ?_
  refine WP.seq ?_
  refine WP.cond_t (.at rfl) rfl ?_
  refine WP.skip ?_
  refine WP.seq ?_
  refine WP.block ?_
  refine WP.seq (WP.region (l := [0, 1, 2]) rfl ?_)
  refine Run.idx_imm (j := 2) rfl rfl rfl (.at rfl) (.at rfl) sl_93_1 (by rfl) (by decide) ?_
  refine Run.load rfl rfl rfl (.at rfl) .imm sc_73 rfl ?_
  refine Run.assign rfl rfl rfl (.at rfl) ?_
  refine Run.nil ?_
  refine WP.region (l := [0, 1, 2, 3]) rfl ?_
  refine Run.move rfl rfl rfl (.at rfl) ?_
  refine Run.move rfl rfl rfl (.at rfl) ?_
  refine Run.append rfl rfl rfl (.at rfl) rfl el_73 (.at rfl) (.imm rfl rfl) rfl (by omega) (Nat.le_of_ble_eq_true rfl) (by omega) (by omega) (fun b33 => ?_)
  refine Run.assign rfl rfl rfl (.at rfl) ?_
  refine Run.nil ?_
  refine WP.region (l := [0, 1]) rfl ?_
  refine Run.add rfl rfl rfl (.at rfl) (.at rfl) (by omega) ?_
  refine Run.move rfl rfl rfl (.at rfl) ?_
  refine Run.nil ?_
  refine LP.trim (fr' := [(6, _), (25, _), (26, _), (27, _)]) (H' := [_]) ?_ ⟨rfl, rfl, rfl, rfl, trivial⟩ rfl
  refine LP.round ?_
  refine WP.seq (WP.region (l := [0]) rfl ?_)
  refine Run.int rfl rfl rfl (.at rfl) (.at rfl) rfl ?_
  refine Run.nil ?_
  refine WP.seq ?_
  refine WP.cond_f (.at rfl) rfl ?_
  refine WP.exit ?_
  refine WP.seq (WP.region (l := [0, 1]) rfl ?_)
  refine Run.move rfl rfl rfl (.at rfl) ?_
  refine Run.assign rfl rfl rfl (.at rfl) ?_
  refine Run.weak 2 rfl (fun _ _ _ h => own_name id h) ?_
  refine Run.nil ?_
  refine WP.ret ?_
  exact ⟨_, [[(_, ints (u.l ++ (v.l ++ w.l)))]], (.tmp rfl .nil), Moved.pick (is := [0]) rfl, _, rfl, rfl⟩
theorem c_flat (id : Nat) (m : M3) : Acts Try.prog 63 [m.av] [] (fun x H => ∃ b, x = .own id b 1 0 9 9 true ∧ H = [[(b, ints m.l)]]) := by
  refine Acts.body 3 (n := 11) (fn := Try.f63) (c := Try.f63.body.get!) fn_63 rfl nm_63 rfl rfl fun C => ?_
  refine WP.seq (WP.region (l := [0, 1]) rfl ?_)
  refine Run.box 0 rfl rfl rfl (.at rfl) rfl (fun b1 => ?_)
  refine Run.assign rfl rfl rfl (.at rfl) ?_
  refine Run.nil ?_
  refine WP.freezeAt 1 rfl rfl ?_
  refine WP.seq (WP.draw mx_0 ?_)
  refine Drawn.calmR ?_
  refine' DrawR.op 0 3 0 [(1, none)] rfl rfl (fun rest => ?_) ?_
  rotate_left
  · skip
    refine Run.idx_immarr (j := 0) rfl rfl rfl (.at rfl) (.at rfl) ar_44_3_3 (by rfl) (by decide) ?_
    exact single_nil
  refine' DrawR.op 1 4 1 [(3, some 0)] rfl rfl (fun rest => ?_) ?_
  rotate_left
  · skip
    refine Run.slice_immarr rfl rfl rfl (.at rfl) ar_30_3_1 Bnd.no Bnd.no (by omega) (by omega) ?_
    exact single_nil
  refine' DrawR.op 2 5 2 [(1, none)] rfl rfl (fun rest => ?_) ?_
  rotate_left
  · skip
    refine Run.idx_immarr (j := 1) rfl rfl rfl (.at rfl) (.at rfl) ar_44_3_3 (by rfl) (by decide) ?_
    exact single_nil
  refine' DrawR.op 3 6 3 [(5, some 0)] rfl rfl (fun rest => ?_) ?_
  rotate_left
  · skip
    refine Run.slice_immarr rfl rfl rfl (.at rfl) ar_30_3_1 Bnd.no Bnd.no (by omega) (by omega) ?_
    exact single_nil
  refine' DrawR.op 4 7 4 [(1, none)] rfl rfl (fun rest => ?_) ?_
  rotate_left
  · skip
    refine Run.idx_immarr (j := 2) rfl rfl rfl (.at rfl) (.at rfl) ar_44_3_3 (by rfl) (by decide) ?_
    exact single_nil
  refine' DrawR.op 5 8 5 [(7, some 0)] rfl rfl (fun rest => ?_) ?_
  rotate_left
  · skip
    refine Run.slice_immarr rfl rfl rfl (.at rfl) ar_30_3_1 Bnd.no Bnd.no (by omega) (by omega) ?_
    exact single_nil
  refine DrawR.tail [6, 7, 8] rfl (by kernel_rfl) ?_
  refine Run.buildSlice 1 rfl rfl rfl el_93 (by decide) (.cons (.at rfl) rfl (.cons (.at rfl) rfl (.cons (.at rfl) rfl .nil))) rfl rfl (fun b9 => ?_)
  refine Run.acts [] [2] rfl rfl rfl (.at rfl) (.cons (.at rfl) .nil) (.cons (Lend.one rfl (by decide) (by rfl)) .nil) (c_concat3 2 m.r0 m.r1 m.r2) rfl rfl rfl (fun x H h => ?_) (fun x H h => ?_)
  · obtain ⟨b10, rfl, rfl⟩ := h; exact ⟨rfl, by first | rfl | simp [cleanH, cs3_cl]; done | simp [cleanH, ints_cl]; done | simp [cleanH, cs3_cl, ints_cl]; done | simp [cleanH, cs9_cl]; done | simp [cleanH, cs9_cl, cs3_cl, ints_cl]; done⟩
  obtain ⟨b10, rfl, rfl⟩ := h
  refine Run.assign rfl rfl rfl (.at rfl) ?_
  refine Run.weak 2 rfl (fun _ _ _ h => own_name id h) ?_
  refine Run.nil ?_
  refine WP.ret ?_
  exact ⟨_, [[(b10, ints m.l)]], (.tmp rfl .nil), Moved.pick (is := [2]) rfl, b10, rfl, rfl⟩
theorem c_det (p : Int) (m : M3) (hp : IsP p) (hm : m.sm) : Pure Try.prog 77 [m.av, .int .i64 p] (.int .i64 (detM m % p)) := by
  refine Pure.body 1 (n := 13) (fn := Try.f77) (c := Try.f77.body.get!) fn_77 rfl nm_77 rfl rfl fun C => ?_
  refine WP.seq (WP.region (l := [0, 1]) rfl ?_)
  refine Run.box 0 rfl rfl rfl (.at rfl) rfl (fun b2 => ?_)
  refine Run.assign rfl rfl rfl (.at rfl) ?_
  refine Run.nil ?_
  refine WP.seq (WP.region (l := [0, 1, 2, 3, 4, 5, 6, 7, 8]) rfl ?_)
  refine Run.move rfl rfl rfl (.at rfl) ?_
  refine Run.idx_arr (j := 0) rfl rfl rfl (.at rfl) (.at rfl) ar_44_3_3 (by rfl) (by decide) ?_
  refine Run.loads rfl rfl rfl (.at rfl) (place_adr rfl) ag_30_3 rfl rfl ?_
  refine Run.idx_arr (j := 1) rfl rfl rfl (.at rfl) (.at rfl) ar_44_3_3 (by rfl) (by decide) ?_
  refine Run.loads rfl rfl rfl (.at rfl) (place_adr rfl) ag_30_3 rfl rfl ?_
  refine Run.idx_arr (j := 2) rfl rfl rfl (.at rfl) (.at rfl) ar_44_3_3 (by rfl) (by decide) ?_
  refine Run.loads rfl rfl rfl (.at rfl) (place_adr rfl) ag_30_3 rfl rfl ?_
  refine Run.call rfl rfl rfl (.at rfl) (.cons (.at rfl) (.cons (.at rfl) (.cons (.at rfl) (.cons (.at rfl) .nil)))) (c_determinant p m.r0 m.r1 m.r2 hp hm.1 hm.2.1 hm.2.2) ?_
  refine Run.assign rfl rfl rfl (.at rfl) ?_
  refine Run.nil ?_
  refine WP.ret ?_
  exact Ends.pure (.tmp rfl .nil) rfl
theorem c_transposed (m : M3) : Pure Try.prog 65 [m.av] m.tr.av := by
  refine Pure.body 3 (n := 25) (fn := Try.f65) (c := Try.f65.body.get!) fn_65 rfl nm_65 rfl rfl fun C => ?_
  refine WP.seq (WP.region (l := [0, 1]) rfl ?_)
  refine Run.box 0 rfl rfl rfl (.at rfl) rfl (fun b1 => ?_)
  refine Run.alloc 1 rfl rfl rfl zr_44 (fun b2 => ?_)
  refine Run.nil ?_
  refine WP.seq (WP.region (l := [0, 1, 2]) rfl ?_)
  refine Run.build rfl rfl rfl bd_44 .nil rfl ?_
  refine Run.alloc 2 rfl rfl rfl zr_44 (fun b3 => ?_)
  refine Run.store (j := 0) rfl rfl (.at rfl) rfl rfl (.at rfl) sz_44_9 rfl rfl (by first | decide | exact Nat.le_of_ble_eq_true rfl) rfl ?_
  refine Run.nil ?_
  refine WP.seq ?_
  refine WP.seq (WP.region (l := [0]) rfl ?_)
  refine Run.move rfl rfl rfl (.at rfl) ?_
  refine Run.nil ?_
  refine WP.block ?_
  refine WP.loop ?_
  refine LP.trim (fr' := [(1, _), (2, _), (3, _), (7, _)]) (H' := [[(_, [_, _, _, _, _, _, _, _, _])], [(_, [_, _, _, _, _, _, _, _, _])], [(_, [_, _, _, _, _, _, _, _, _])]]) ?_ ⟨rfl, rfl, rfl, rfl, trivial⟩ rfl
  refine LP.round ?_
  refine WP.seq (WP.region (l := [0]) rfl ?_)
  refine Run.int rfl rfl rfl (.at rfl) (.at rfl) rfl ?_
  refine Run.nil ?_
  refine WP.seq ?_
  refine WP.cond_t (.at rfl) rfl ?_
  refine WP.skip ?_
  refine WP.seq ?_
  refine WP.block ?_
  refine WP.seq (WP.region (l := [0, 1]) rfl ?_)
  refine Run.move rfl rfl rfl (.at rfl) ?_
  refine Run.assign rfl rfl rfl (.at rfl) ?_
  refine Run.nil ?_
  refine WP.seq (WP.region (l := [0]) rfl ?_)
  refine Run.move rfl rfl rfl (.at rfl) ?_
  refine Run.nil ?_
  refine WP.block ?_
  refine WP.loop ?_
  refine LP.trim (fr' := [(1, _), (2, _), (3, _), (4, _), (7, _), (10, _)]) (H' := [[(_, [_, _, _, _, _, _, _, _, _])], [(_, [_, _, _, _, _, _, _, _, _])], [(_, [_, _, _, _, _, _, _, _, _])]]) ?_ ⟨rfl, rfl, rfl, rfl, rfl, rfl, trivial⟩ rfl
  refine LP.round ?_
  refine WP.seq (WP.region (l := [0]) rfl ?_)
  refine Run.int rfl rfl rfl (.at rfl) (.at rfl) rfl ?_
  refine Run.nil ?_
  refine WP.seq ?_
  refine WP.cond_t (.at rfl) rfl ?_
  refine WP.skip ?_
  refine WP.seq ?_
  refine WP.block ?_
  refine WP.seq (WP.region (l := [0, 1]) rfl ?_)
  refine Run.move rfl rfl rfl (.at rfl) ?_
  refine Run.assign rfl rfl rfl (.at rfl) ?_
  refine Run.nil ?_
  refine WP.draw mx_0 ?_
  refine Drawn.calmR ?_
  refine' DrawR.op 0 13 0 [(5, none)] rfl rfl (fun rest => ?_) ?_
  rotate_left
  · skip
    refine Run.move rfl rfl rfl (.at rfl) ?_
    exact single_nil
  refine' DrawR.op 1 14 1 [(4, none)] rfl rfl (fun rest => ?_) ?_
  rotate_left
  · skip
    refine Run.move rfl rfl rfl (.at rfl) ?_
    exact single_nil
  refine' DrawR.op 2 15 2 [(4, none)] rfl rfl (fun rest => ?_) ?_
  rotate_left
  · skip
    refine Run.move rfl rfl rfl (.at rfl) ?_
    exact single_nil
  refine' DrawR.op 3 16 3 [(5, none)] rfl rfl (fun rest => ?_) ?_
  rotate_left
  · skip
    refine Run.move rfl rfl rfl (.at rfl) ?_
    exact single_nil
  refine' DrawR.op 4 17 4 [(1, none), (15, some 1)] rfl rfl (fun rest => ?_) ?_
  rotate_left
  · skip
    refine Run.idx_arr rfl rfl rfl (.at rfl) (.at rfl) ar_44_3_3 (by rfl) (by decide) ?_
    exact single_nil
  refine' DrawR.op 5 18 5 [(17, some 0), (16, some 1)] rfl rfl (fun rest => ?_) ?_
  rotate_left
  · skip
    refine Run.idx_arr rfl rfl rfl (.at rfl) (.at rfl) ar_30_3_1 (by rfl) (by decide) ?_
    exact single_nil
  refine' DrawR.op 6 19 6 [(18, some 0)] rfl rfl (fun rest => ?_) ?_
  rotate_left
  · skip
    refine Run.load rfl rfl rfl (.at rfl) (place_adr rfl) sc_2 rfl ?_
    exact single_nil
  refine' DrawR.op 7 20 7 [(3, none), (13, some 6)] rfl rfl (fun rest => ?_) ?_
  rotate_left
  · skip
    refine Run.idx_arr rfl rfl rfl (.at rfl) (.at rfl) ar_44_3_3 (by rfl) (by decide) ?_
    exact single_nil
  refine' DrawR.op 8 21 8 [(20, some 0), (14, some 6)] rfl rfl (fun rest => ?_) ?_
  rotate_left
  · skip
    refine Run.idx_arr rfl rfl rfl (.at rfl) (.at rfl) ar_30_3_1 (by rfl) (by decide) ?_
    exact single_nil
  refine DrawR.tail [9] rfl (by kernel_rfl) ?_
  refine Run.store (j := 0) rfl rfl (.at rfl) rfl rfl (.at rfl) sz_2_1 rfl rfl (by first | decide | exact Nat.le_of_ble_eq_true rfl) rfl ?_
  refine Run.nil ?_
  refine WP.region (l := [0, 1]) rfl ?_
  refine Run.add rfl rfl rfl (.at rfl) (.at rfl) (by omega) ?_
  refine Run.move rfl rfl rfl (.at rfl) ?_
  refine Run.nil ?_
  refine LP.trim (fr' := [(1, _), (2, _), (3, _), (4, _), (7, _), (10, _)]) (H' := [[(_, [_, _, _, _, _, _, _, _, _])], [(_, [_, _, _, _, _, _, _, _, _])], [(_, [_, _, _, _, _, _, _, _, _])]]) ?_ ⟨rfl, rfl, rfl, rfl, rfl, rfl, trivial⟩ rfl
  refine LP.round ?_
  refine WP.seq (WP.region (l := [0]) rfl ?_)
  refine Run.int rfl rfl rfl (.at rfl) (.at rfl) rfl ?_
  refine Run.nil ?_
  refine WP.seq ?_
  refine WP.cond_t (.at rfl) rfl ?_
  refine WP.skip ?_
  refine WP.seq ?_
  refine WP.block ?_
  refine WP.seq (WP.region (l := [0, 1]) rfl ?_)
  refine Run.move rfl rfl rfl (.at rfl) ?_
  refine Run.assign rfl rfl rfl (.at rfl) ?_
  refine Run.nil ?_
  refine WP.draw mx_0 ?_
  refine Drawn.calmR ?_
  refine' DrawR.op 0 13 0 [(5, none)] rfl rfl (fun rest => ?_) ?_
  rotate_left
  · skip
    refine Run.move rfl rfl rfl (.at rfl) ?_
    exact single_nil
  refine' DrawR.op 1 14 1 [(4, none)] rfl rfl (fun rest => ?_) ?_
  rotate_left
  · skip
    refine Run.move rfl rfl rfl (.at rfl) ?_
    exact single_nil
  refine' DrawR.op 2 15 2 [(4, none)] rfl rfl (fun rest => ?_) ?_
  rotate_left
  · skip
    refine Run.move rfl rfl rfl (.at rfl) ?_
    exact single_nil
  refine' DrawR.op 3 16 3 [(5, none)] rfl rfl (fun rest => ?_) ?_
  rotate_left
  · skip
    refine Run.move rfl rfl rfl (.at rfl) ?_
    exact single_nil
  refine' DrawR.op 4 17 4 [(1, none), (15, some 1)] rfl rfl (fun rest => ?_) ?_
  rotate_left
  · skip
    refine Run.idx_arr rfl rfl rfl (.at rfl) (.at rfl) ar_44_3_3 (by rfl) (by decide) ?_
    exact single_nil
  refine' DrawR.op 5 18 5 [(17, some 0), (16, some 1)] rfl rfl (fun rest => ?_) ?_
  rotate_left
  · skip
    refine Run.idx_arr rfl rfl rfl (.at rfl) (.at rfl) ar_30_3_1 (by rfl) (by decide) ?_
    exact single_nil
  refine' DrawR.op 6 19 6 [(18, some 0)] rfl rfl (fun rest => ?_) ?_
  rotate_left
  · skip
    refine Run.load rfl rfl rfl (.at rfl) (place_adr rfl) sc_2 rfl ?_
    exact single_nil
  refine' DrawR.op 7 20 7 [(3, none), (13, some 6)] rfl rfl (fun rest => ?_) ?_
  rotate_left
  · skip
    refine Run.idx_arr rfl rfl rfl (.at rfl) (.at rfl) ar_44_3_3 (by rfl) (by decide) ?_
    exact single_nil
  refine' DrawR.op 8 21 8 [(20, some 0), (14, some 6)] rfl rfl (fun rest => ?_) ?_
  rotate_left
  · skip
    refine Run.idx_arr rfl rfl rfl (.at rfl) (.at rfl) ar_30_3_1 (by rfl) (by decide) ?_
    exact single_nil
  refine DrawR.tail [9] rfl (by kernel_rfl) ?_
  refine Run.store (j := 0) rfl rfl (.at rfl) rfl rfl (.at rfl) sz_2_1 rfl rfl (by first | decide | exact Nat.le_of_ble_eq_true rfl) rfl ?_
  refine Run.nil ?_
  refine WP.region (l := [0, 1]) rfl ?_
  refine Run.add rfl rfl rfl (.at rfl) (.at rfl) (by omega) ?_
  refine Run.move rfl rfl rfl (.at rfl) ?_
  refine Run.nil ?_
  refine LP.trim (fr' := [(1, _), (2, _), (3, _), (4, _), (7, _), (10, _)]) (H' := [[(_, [_, _, _, _, _, _, _, _, _])], [(_, [_, _, _, _, _, _, _, _, _])], [(_, [_, _, _, _, _, _, _, _, _])]]) ?_ ⟨rfl, rfl, rfl, rfl, rfl, rfl, trivial⟩ rfl
  refine LP.round ?_
  refine WP.seq (WP.region (l := [0]) rfl ?_)
  refine Run.int rfl rfl rfl (.at rfl) (.at rfl) rfl ?_
  refine Run.nil ?_
  refine WP.seq ?_
  refine WP.cond_t (.at rfl) rfl ?_
  refine WP.skip ?_
  refine WP.seq ?_
  refine WP.block ?_
  refine WP.seq (WP.region (l := [0, 1]) rfl ?_)
  refine Run.move rfl rfl rfl (.at rfl) ?_
  refine Run.assign rfl rfl rfl (.at rfl) ?_
  refine Run.nil ?_
  refine WP.draw mx_0 ?_
  refine Drawn.calmR ?_
  refine' DrawR.op 0 13 0 [(5, none)] rfl rfl (fun rest => ?_) ?_
  rotate_left
  · skip
    refine Run.move rfl rfl rfl (.at rfl) ?_
    exact single_nil
  refine' DrawR.op 1 14 1 [(4, none)] rfl rfl (fun rest => ?_) ?_
  rotate_left
  · skip
    refine Run.move rfl rfl rfl (.at rfl) ?_
    exact single_nil
  refine' DrawR.op 2 15 2 [(4, none)] rfl rfl (fun rest => ?_) ?_
  rotate_left
  · skip
    refine Run.move rfl rfl rfl (.at rfl) ?_
    exact single_nil
  refine' DrawR.op 3 16 3 [(5, none)] rfl rfl (fun rest => ?_) ?_
  rotate_left
  · skip
    refine Run.move rfl rfl rfl (.at rfl) ?_
    exact single_nil
  refine' DrawR.op 4 17 4 [(1, none), (15, some 1)] rfl rfl (fun rest => ?_) ?_
  rotate_left
  · skip
    refine Run.idx_arr rfl rfl rfl (.at rfl) (.at rfl) ar_44_3_3 (by rfl) (by decide) ?_
    exact single_nil
  refine' DrawR.op 5 18 5 [(17, some 0), (16, some 1)] rfl rfl (fun rest => ?_) ?_
  rotate_left
  · skip
    refine Run.idx_arr rfl rfl rfl (.at rfl) (.at rfl) ar_30_3_1 (by rfl) (by decide) ?_
    exact single_nil
  refine' DrawR.op 6 19 6 [(18, some 0)] rfl rfl (fun rest => ?_) ?_
  rotate_left
  · skip
    refine Run.load rfl rfl rfl (.at rfl) (place_adr rfl) sc_2 rfl ?_
    exact single_nil
  refine' DrawR.op 7 20 7 [(3, none), (13, some 6)] rfl rfl (fun rest => ?_) ?_
  rotate_left
  · skip
    refine Run.idx_arr rfl rfl rfl (.at rfl) (.at rfl) ar_44_3_3 (by rfl) (by decide) ?_
    exact single_nil
  refine' DrawR.op 8 21 8 [(20, some 0), (14, some 6)] rfl rfl (fun rest => ?_) ?_
  rotate_left
  · skip
    refine Run.idx_arr rfl rfl rfl (.at rfl) (.at rfl) ar_30_3_1 (by rfl) (by decide) ?_
    exact single_nil
  refine DrawR.tail [9] rfl (by kernel_rfl) ?_
  refine Run.store (j := 0) rfl rfl (.at rfl) rfl rfl (.at rfl) sz_2_1 rfl rfl (by first | decide | exact Nat.le_of_ble_eq_true rfl) rfl ?_
  refine Run.nil ?_
  refine WP.region (l := [0, 1]) rfl ?_
  refine Run.add rfl rfl rfl (.at rfl) (.at rfl) (by omega) ?_
  refine Run.move rfl rfl rfl (.at rfl) ?_
  refine Run.nil ?_
  refine LP.trim (fr' := [(1, _), (2, _), (3, _), (4, _), (7, _), (10, _)]) (H' := [[(_, [_, _, _, _, _, _, _, _, _])], [(_, [_, _, _, _, _, _, _, _, _])], [(_, [_, _, _, _, _, _, _, _, _])]]) ?_ ⟨rfl, rfl, rfl, rfl, rfl, rfl, trivial⟩ rfl
  refine LP.round ?_
  refine WP.seq (WP.region (l := [0]) rfl ?_)
  refine Run.int rfl rfl rfl (.at rfl) (.at rfl) rfl ?_
  refine Run.nil ?_
  refine WP.seq ?_
  refine WP.cond_f (.at rfl) rfl ?_
  refine WP.exit ?_
  refine WP.region (l := [0, 1]) rfl ?_
  refine Run.add rfl rfl rfl (.at rfl) (.at rfl) (by omega) ?_
  refine Run.move rfl rfl rfl (.at rfl) ?_
  refine Run.nil ?_
  refine LP.trim (fr' := [(1, _), (2, _), (3, _), (7, _)]) (H' := [[(_, [_, _, _, _, _, _, _, _, _])], [(_, [_, _, _, _, _, _, _, _, _])], [(_, [_, _, _, _, _, _, _, _, _])]]) ?_ ⟨rfl, rfl, rfl, rfl, trivial⟩ rfl
  refine LP.round ?_
  refine WP.seq (WP.region (l := [0]) rfl ?_)
  refine Run.int rfl rfl rfl (.at rfl) (.at rfl) rfl ?_
  refine Run.nil ?_
  refine WP.seq ?_
  refine WP.cond_t (.at rfl) rfl ?_
  refine WP.skip ?_
  refine WP.seq ?_
  refine WP.block ?_
  refine WP.seq (WP.region (l := [0, 1]) rfl ?_)
  refine Run.move rfl rfl rfl (.at rfl) ?_
  refine Run.assign rfl rfl rfl (.at rfl) ?_
  refine Run.nil ?_
  refine WP.seq (WP.region (l := [0]) rfl ?_)
  refine Run.move rfl rfl rfl (.at rfl) ?_
  refine Run.nil ?_
  refine WP.block ?_
  refine WP.loop ?_
  refine LP.trim (fr' := [(1, _), (2, _), (3, _), (4, _), (7, _), (10, _)]) (H' := [[(_, [_, _, _, _, _, _, _, _, _])], [(_, [_, _, _, _, _, _, _, _, _])], [(_, [_, _, _, _, _, _, _, _, _])]]) ?_ ⟨rfl, rfl, rfl, rfl, rfl, rfl, trivial⟩ rfl
  refine LP.round ?_
  refine WP.seq (WP.region (l := [0]) rfl ?_)
  refine Run.int rfl rfl rfl (.at rfl) (.at rfl) rfl ?_
  refine Run.nil ?_
  refine WP.seq ?_
  refine WP.cond_t (.at rfl) rfl ?_
  refine WP.skip ?_
  refine WP.seq ?_
  refine WP.block ?_
  refine WP.seq (WP.region (l := [0, 1]) rfl ?_)
  refine Run.move rfl rfl rfl (.at rfl) ?_
  refine Run.assign rfl rfl rfl (.at rfl) ?_
  refine Run.nil ?_
  refine WP.draw mx_0 ?_
  refine Drawn.calmR ?_
  refine' DrawR.op 0 13 0 [(5, none)] rfl rfl (fun rest => ?_) ?_
  rotate_left
  · skip
    refine Run.move rfl rfl rfl (.at rfl) ?_
    exact single_nil
  refine' DrawR.op 1 14 1 [(4, none)] rfl rfl (fun rest => ?_) ?_
  rotate_left
  · skip
    refine Run.move rfl rfl rfl (.at rfl) ?_
    exact single_nil
  refine' DrawR.op 2 15 2 [(4, none)] rfl rfl (fun rest => ?_) ?_
  rotate_left
  · skip
    refine Run.move rfl rfl rfl (.at rfl) ?_
    exact single_nil
  refine' DrawR.op 3 16 3 [(5, none)] rfl rfl (fun rest => ?_) ?_
  rotate_left
  · skip
    refine Run.move rfl rfl rfl (.at rfl) ?_
    exact single_nil
  refine' DrawR.op 4 17 4 [(1, none), (15, some 1)] rfl rfl (fun rest => ?_) ?_
  rotate_left
  · skip
    refine Run.idx_arr rfl rfl rfl (.at rfl) (.at rfl) ar_44_3_3 (by rfl) (by decide) ?_
    exact single_nil
  refine' DrawR.op 5 18 5 [(17, some 0), (16, some 1)] rfl rfl (fun rest => ?_) ?_
  rotate_left
  · skip
    refine Run.idx_arr rfl rfl rfl (.at rfl) (.at rfl) ar_30_3_1 (by rfl) (by decide) ?_
    exact single_nil
  refine' DrawR.op 6 19 6 [(18, some 0)] rfl rfl (fun rest => ?_) ?_
  rotate_left
  · skip
    refine Run.load rfl rfl rfl (.at rfl) (place_adr rfl) sc_2 rfl ?_
    exact single_nil
  refine' DrawR.op 7 20 7 [(3, none), (13, some 6)] rfl rfl (fun rest => ?_) ?_
  rotate_left
  · skip
    refine Run.idx_arr rfl rfl rfl (.at rfl) (.at rfl) ar_44_3_3 (by rfl) (by decide) ?_
    exact single_nil
  refine' DrawR.op 8 21 8 [(20, some 0), (14, some 6)] rfl rfl (fun rest => ?_) ?_
  rotate_left
  · skip
    refine Run.idx_arr rfl rfl rfl (.at rfl) (.at rfl) ar_30_3_1 (by rfl) (by decide) ?_
    exact single_nil
  refine DrawR.tail [9] rfl (by kernel_rfl) ?_
  refine Run.store (j := 0) rfl rfl (.at rfl) rfl rfl (.at rfl) sz_2_1 rfl rfl (by first | decide | exact Nat.le_of_ble_eq_true rfl) rfl ?_
  refine Run.nil ?_
  refine WP.region (l := [0, 1]) rfl ?_
  refine Run.add rfl rfl rfl (.at rfl) (.at rfl) (by omega) ?_
  refine Run.move rfl rfl rfl (.at rfl) ?_
  refine Run.nil ?_
  refine LP.trim (fr' := [(1, _), (2, _), (3, _), (4, _), (7, _), (10, _)]) (H' := [[(_, [_, _, _, _, _, _, _, _, _])], [(_, [_, _, _, _, _, _, _, _, _])], [(_, [_, _, _, _, _, _, _, _, _])]]) ?_ ⟨rfl, rfl, rfl, rfl, rfl, rfl, trivial⟩ rfl
  refine LP.round ?_
  refine WP.seq (WP.region (l := [0]) rfl ?_)
  refine Run.int rfl rfl rfl (.at rfl) (.at rfl) rfl ?_
  refine Run.nil ?_
  refine WP.seq ?_
  refine WP.cond_t (.at rfl) rfl ?_
  refine WP.skip ?_
  refine WP.seq ?_
  refine WP.block ?_
  refine WP.seq (WP.region (l := [0, 1]) rfl ?_)
  refine Run.move rfl rfl rfl (.at rfl) ?_
  refine Run.assign rfl rfl rfl (.at rfl) ?_
  refine Run.nil ?_
  refine WP.draw mx_0 ?_
  refine Drawn.calmR ?_
  refine' DrawR.op 0 13 0 [(5, none)] rfl rfl (fun rest => ?_) ?_
  rotate_left
  · skip
    refine Run.move rfl rfl rfl (.at rfl) ?_
    exact single_nil
  refine' DrawR.op 1 14 1 [(4, none)] rfl rfl (fun rest => ?_) ?_
  rotate_left
  · skip
    refine Run.move rfl rfl rfl (.at rfl) ?_
    exact single_nil
  refine' DrawR.op 2 15 2 [(4, none)] rfl rfl (fun rest => ?_) ?_
  rotate_left
  · skip
    refine Run.move rfl rfl rfl (.at rfl) ?_
    exact single_nil
  refine' DrawR.op 3 16 3 [(5, none)] rfl rfl (fun rest => ?_) ?_
  rotate_left
  · skip
    refine Run.move rfl rfl rfl (.at rfl) ?_
    exact single_nil
  refine' DrawR.op 4 17 4 [(1, none), (15, some 1)] rfl rfl (fun rest => ?_) ?_
  rotate_left
  · skip
    refine Run.idx_arr rfl rfl rfl (.at rfl) (.at rfl) ar_44_3_3 (by rfl) (by decide) ?_
    exact single_nil
  refine' DrawR.op 5 18 5 [(17, some 0), (16, some 1)] rfl rfl (fun rest => ?_) ?_
  rotate_left
  · skip
    refine Run.idx_arr rfl rfl rfl (.at rfl) (.at rfl) ar_30_3_1 (by rfl) (by decide) ?_
    exact single_nil
  refine' DrawR.op 6 19 6 [(18, some 0)] rfl rfl (fun rest => ?_) ?_
  rotate_left
  · skip
    refine Run.load rfl rfl rfl (.at rfl) (place_adr rfl) sc_2 rfl ?_
    exact single_nil
  refine' DrawR.op 7 20 7 [(3, none), (13, some 6)] rfl rfl (fun rest => ?_) ?_
  rotate_left
  · skip
    refine Run.idx_arr rfl rfl rfl (.at rfl) (.at rfl) ar_44_3_3 (by rfl) (by decide) ?_
    exact single_nil
  refine' DrawR.op 8 21 8 [(20, some 0), (14, some 6)] rfl rfl (fun rest => ?_) ?_
  rotate_left
  · skip
    refine Run.idx_arr rfl rfl rfl (.at rfl) (.at rfl) ar_30_3_1 (by rfl) (by decide) ?_
    exact single_nil
  refine DrawR.tail [9] rfl (by kernel_rfl) ?_
  refine Run.store (j := 0) rfl rfl (.at rfl) rfl rfl (.at rfl) sz_2_1 rfl rfl (by first | decide | exact Nat.le_of_ble_eq_true rfl) rfl ?_
  refine Run.nil ?_
  refine WP.region (l := [0, 1]) rfl ?_
  refine Run.add rfl rfl rfl (.at rfl) (.at rfl) (by omega) ?_
  refine Run.move rfl rfl rfl (.at rfl) ?_
  refine Run.nil ?_
  refine LP.trim (fr' := [(1, _), (2, _), (3, _), (4, _), (7, _), (10, _)]) (H' := [[(_, [_, _, _, _, _, _, _, _, _])], [(_, [_, _, _, _, _, _, _, _, _])], [(_, [_, _, _, _, _, _, _, _, _])]]) ?_ ⟨rfl, rfl, rfl, rfl, rfl, rfl, trivial⟩ rfl
  refine LP.round ?_
  refine WP.seq (WP.region (l := [0]) rfl ?_)
  refine Run.int rfl rfl rfl (.at rfl) (.at rfl) rfl ?_
  refine Run.nil ?_
  refine WP.seq ?_
  refine WP.cond_t (.at rfl) rfl ?_
  refine WP.skip ?_
  refine WP.seq ?_
  refine WP.block ?_
  refine WP.seq (WP.region (l := [0, 1]) rfl ?_)
  refine Run.move rfl rfl rfl (.at rfl) ?_
  refine Run.assign rfl rfl rfl (.at rfl) ?_
  refine Run.nil ?_
  refine WP.draw mx_0 ?_
  refine Drawn.calmR ?_
  refine' DrawR.op 0 13 0 [(5, none)] rfl rfl (fun rest => ?_) ?_
  rotate_left
  · skip
    refine Run.move rfl rfl rfl (.at rfl) ?_
    exact single_nil
  refine' DrawR.op 1 14 1 [(4, none)] rfl rfl (fun rest => ?_) ?_
  rotate_left
  · skip
    refine Run.move rfl rfl rfl (.at rfl) ?_
    exact single_nil
  refine' DrawR.op 2 15 2 [(4, none)] rfl rfl (fun rest => ?_) ?_
  rotate_left
  · skip
    refine Run.move rfl rfl rfl (.at rfl) ?_
    exact single_nil
  refine' DrawR.op 3 16 3 [(5, none)] rfl rfl (fun rest => ?_) ?_
  rotate_left
  · skip
    refine Run.move rfl rfl rfl (.at rfl) ?_
    exact single_nil
  refine' DrawR.op 4 17 4 [(1, none), (15, some 1)] rfl rfl (fun rest => ?_) ?_
  rotate_left
  · skip
    refine Run.idx_arr rfl rfl rfl (.at rfl) (.at rfl) ar_44_3_3 (by rfl) (by decide) ?_
    exact single_nil
  refine' DrawR.op 5 18 5 [(17, some 0), (16, some 1)] rfl rfl (fun rest => ?_) ?_
  rotate_left
  · skip
    refine Run.idx_arr rfl rfl rfl (.at rfl) (.at rfl) ar_30_3_1 (by rfl) (by decide) ?_
    exact single_nil
  refine' DrawR.op 6 19 6 [(18, some 0)] rfl rfl (fun rest => ?_) ?_
  rotate_left
  · skip
    refine Run.load rfl rfl rfl (.at rfl) (place_adr rfl) sc_2 rfl ?_
    exact single_nil
  refine' DrawR.op 7 20 7 [(3, none), (13, some 6)] rfl rfl (fun rest => ?_) ?_
  rotate_left
  · skip
    refine Run.idx_arr rfl rfl rfl (.at rfl) (.at rfl) ar_44_3_3 (by rfl) (by decide) ?_
    exact single_nil
  refine' DrawR.op 8 21 8 [(20, some 0), (14, some 6)] rfl rfl (fun rest => ?_) ?_
  rotate_left
  · skip
    refine Run.idx_arr rfl rfl rfl (.at rfl) (.at rfl) ar_30_3_1 (by rfl) (by decide) ?_
    exact single_nil
  refine DrawR.tail [9] rfl (by kernel_rfl) ?_
  refine Run.store (j := 0) rfl rfl (.at rfl) rfl rfl (.at rfl) sz_2_1 rfl rfl (by first | decide | exact Nat.le_of_ble_eq_true rfl) rfl ?_
  refine Run.nil ?_
  refine WP.region (l := [0, 1]) rfl ?_
  refine Run.add rfl rfl rfl (.at rfl) (.at rfl) (by omega) ?_
  refine Run.move rfl rfl rfl (.at rfl) ?_
  refine Run.nil ?_
  refine LP.trim (fr' := [(1, _), (2, _), (3, _), (4, _), (7, _), (10, _)]) (H' := [[(_, [_, _, _, _, _, _, _, _, _])], [(_, [_, _, _, _, _, _, _, _, _])], [(_, [_, _, _, _, _, _, _, _, _])]]) ?_ ⟨rfl, rfl, rfl, rfl, rfl, rfl, trivial⟩ rfl
  refine LP.round ?_
  refine WP.seq (WP.region (l := [0]) rfl ?_)
  refine Run.int rfl rfl rfl (.at rfl) (.at rfl) rfl ?_
  refine Run.nil ?_
  refine WP.seq ?_
  refine WP.cond_f (.at rfl) rfl ?_
  refine WP.exit ?_
  refine WP.region (l := [0, 1]) rfl ?_
  refine Run.add rfl rfl rfl (.at rfl) (.at rfl) (by omega) ?_
  refine Run.move rfl rfl rfl (.at rfl) ?_
  refine Run.nil ?_
  refine LP.trim (fr' := [(1, _), (2, _), (3, _), (7, _)]) (H' := [[(_, [_, _, _, _, _, _, _, _, _])], [(_, [_, _, _, _, _, _, _, _, _])], [(_, [_, _, _, _, _, _, _, _, _])]]) ?_ ⟨rfl, rfl, rfl, rfl, trivial⟩ rfl
  refine LP.round ?_
  refine WP.seq (WP.region (l := [0]) rfl ?_)
  refine Run.int rfl rfl rfl (.at rfl) (.at rfl) rfl ?_
  refine Run.nil ?_
  refine WP.seq ?_
  refine WP.cond_t (.at rfl) rfl ?_
  refine WP.skip ?_
  refine WP.seq ?_
  refine WP.block ?_
  refine WP.seq (WP.region (l := [0, 1]) rfl ?_)
  refine Run.move rfl rfl rfl (.at rfl) ?_
  refine Run.assign rfl rfl rfl (.at rfl) ?_
  refine Run.nil ?_
  refine WP.seq (WP.region (l := [0]) rfl ?_)
  refine Run.move rfl rfl rfl (.at rfl) ?_
  refine Run.nil ?_
  refine WP.block ?_
  refine WP.loop ?_
  refine LP.trim (fr' := [(1, _), (2, _), (3, _), (4, _), (7, _), (10, _)]) (H' := [[(_, [_, _, _, _, _, _, _, _, _])], [(_, [_, _, _, _, _, _, _, _, _])], [(_, [_, _, _, _, _, _, _, _, _])]]) ?_ ⟨rfl, rfl, rfl, rfl, rfl, rfl, trivial⟩ rfl
  refine LP.round ?_
  refine WP.seq (WP.region (l := [0]) rfl ?_)
  refine Run.int rfl rfl rfl (.at rfl) (.at rfl) rfl ?_
  refine Run.nil ?_
  refine WP.seq ?_
  refine WP.cond_t (.at rfl) rfl ?_
  refine WP.skip ?_
  refine WP.seq ?_
  refine WP.block ?_
  refine WP.seq (WP.region (l := [0, 1]) rfl ?_)
  refine Run.move rfl rfl rfl (.at rfl) ?_
  refine Run.assign rfl rfl rfl (.at rfl) ?_
  refine Run.nil ?_
  refine WP.draw mx_0 ?_
  refine Drawn.calmR ?_
  refine' DrawR.op 0 13 0 [(5, none)] rfl rfl (fun rest => ?_) ?_
  rotate_left
  · skip
    refine Run.move rfl rfl rfl (.at rfl) ?_
    exact single_nil
  refine' DrawR.op 1 14 1 [(4, none)] rfl rfl (fun rest => ?_) ?_
  rotate_left
  · skip
    refine Run.move rfl rfl rfl (.at rfl) ?_
    exact single_nil
  refine' DrawR.op 2 15 2 [(4, none)] rfl rfl (fun rest => ?_) ?_
  rotate_left
  · skip
    refine Run.move rfl rfl rfl (.at rfl) ?_
    exact single_nil
  refine' DrawR.op 3 16 3 [(5, none)] rfl rfl (fun rest => ?_) ?_
  rotate_left
  · skip
    refine Run.move rfl rfl rfl (.at rfl) ?_
    exact single_nil
  refine' DrawR.op 4 17 4 [(1, none), (15, some 1)] rfl rfl (fun rest => ?_) ?_
  rotate_left
  · skip
    refine Run.idx_arr rfl rfl rfl (.at rfl) (.at rfl) ar_44_3_3 (by rfl) (by decide) ?_
    exact single_nil
  refine' DrawR.op 5 18 5 [(17, some 0), (16, some 1)] rfl rfl (fun rest => ?_) ?_
  rotate_left
  · skip
    refine Run.idx_arr rfl rfl rfl (.at rfl) (.at rfl) ar_30_3_1 (by rfl) (by decide) ?_
    exact single_nil
  refine' DrawR.op 6 19 6 [(18, some 0)] rfl rfl (fun rest => ?_) ?_
  rotate_left
  · skip
    refine Run.load rfl rfl rfl (.at rfl) (place_adr rfl) sc_2 rfl ?_
    exact single_nil
  refine' DrawR.op 7 20 7 [(3, none), (13, some 6)] rfl rfl (fun rest => ?_) ?_
  rotate_left
  · skip
    refine Run.idx_arr rfl rfl rfl (.at rfl) (.at rfl) ar_44_3_3 (by rfl) (by decide) ?_
    exact single_nil
  refine' DrawR.op 8 21 8 [(20, some 0), (14, some 6)] rfl rfl (fun rest => ?_) ?_
  rotate_left
  · skip
    refine Run.idx_arr rfl rfl rfl (.at rfl) (.at rfl) ar_30_3_1 (by rfl) (by decide) ?_
    exact single_nil
  refine DrawR.tail [9] rfl (by kernel_rfl) ?_
  refine Run.store (j := 0) rfl rfl (.at rfl) rfl rfl (.at rfl) sz_2_1 rfl rfl (by first | decide | exact Nat.le_of_ble_eq_true rfl) rfl ?_
  refine Run.nil ?_
  refine WP.region (l := [0, 1]) rfl ?_
  refine Run.add rfl rfl rfl (.at rfl) (.at rfl) (by omega) ?_
  refine Run.move rfl rfl rfl (.at rfl) ?_
  refine Run.nil ?_
  refine LP.trim (fr' := [(1, _), (2, _), (3, _), (4, _), (7, _), (10, _)]) (H' := [[(_, [_, _, _, _, _, _, _, _, _])], [(_, [_, _, _, _, _, _, _, _, _])], [(_, [_, _, _, _, _, _, _, _, _])]]) ?_ ⟨rfl, rfl, rfl, rfl, rfl, rfl, trivial⟩ rfl
  refine LP.round ?_
  refine WP.seq (WP.region (l := [0]) rfl ?_)
  refine Run.int rfl rfl rfl (.at rfl) (.at rfl) rfl ?_
  refine Run.nil ?_
  refine WP.seq ?_
  refine WP.cond_t (.at rfl) rfl ?_
  refine WP.skip ?_
  refine WP.seq ?_
  refine WP.block ?_
  refine WP.seq (WP.region (l := [0, 1]) rfl ?_)
  refine Run.move rfl rfl rfl (.at rfl) ?_
  refine Run.assign rfl rfl rfl (.at rfl) ?_
  refine Run.nil ?_
  refine WP.draw mx_0 ?_
  refine Drawn.calmR ?_
  refine' DrawR.op 0 13 0 [(5, none)] rfl rfl (fun rest => ?_) ?_
  rotate_left
  · skip
    refine Run.move rfl rfl rfl (.at rfl) ?_
    exact single_nil
  refine' DrawR.op 1 14 1 [(4, none)] rfl rfl (fun rest => ?_) ?_
  rotate_left
  · skip
    refine Run.move rfl rfl rfl (.at rfl) ?_
    exact single_nil
  refine' DrawR.op 2 15 2 [(4, none)] rfl rfl (fun rest => ?_) ?_
  rotate_left
  · skip
    refine Run.move rfl rfl rfl (.at rfl) ?_
    exact single_nil
  refine' DrawR.op 3 16 3 [(5, none)] rfl rfl (fun rest => ?_) ?_
  rotate_left
  · skip
    refine Run.move rfl rfl rfl (.at rfl) ?_
    exact single_nil
  refine' DrawR.op 4 17 4 [(1, none), (15, some 1)] rfl rfl (fun rest => ?_) ?_
  rotate_left
  · skip
    refine Run.idx_arr rfl rfl rfl (.at rfl) (.at rfl) ar_44_3_3 (by rfl) (by decide) ?_
    exact single_nil
  refine' DrawR.op 5 18 5 [(17, some 0), (16, some 1)] rfl rfl (fun rest => ?_) ?_
  rotate_left
  · skip
    refine Run.idx_arr rfl rfl rfl (.at rfl) (.at rfl) ar_30_3_1 (by rfl) (by decide) ?_
    exact single_nil
  refine' DrawR.op 6 19 6 [(18, some 0)] rfl rfl (fun rest => ?_) ?_
  rotate_left
  · skip
    refine Run.load rfl rfl rfl (.at rfl) (place_adr rfl) sc_2 rfl ?_
    exact single_nil
  refine' DrawR.op 7 20 7 [(3, none), (13, some 6)] rfl rfl (fun rest => ?_) ?_
  rotate_left
  · skip
    refine Run.idx_arr rfl rfl rfl (.at rfl) (.at rfl) ar_44_3_3 (by rfl) (by decide) ?_
    exact single_nil
  refine' DrawR.op 8 21 8 [(20, some 0), (14, some 6)] rfl rfl (fun rest => ?_) ?_
  rotate_left
  · skip
    refine Run.idx_arr rfl rfl rfl (.at rfl) (.at rfl) ar_30_3_1 (by rfl) (by decide) ?_
    exact single_nil
  refine DrawR.tail [9] rfl (by kernel_rfl) ?_
  refine Run.store (j := 0) rfl rfl (.at rfl) rfl rfl (.at rfl) sz_2_1 rfl rfl (by first | decide | exact Nat.le_of_ble_eq_true rfl) rfl ?_
  refine Run.nil ?_
  refine WP.region (l := [0, 1]) rfl ?_
  refine Run.add rfl rfl rfl (.at rfl) (.at rfl) (by omega) ?_
  refine Run.move rfl rfl rfl (.at rfl) ?_
  refine Run.nil ?_
  refine LP.trim (fr' := [(1, _), (2, _), (3, _), (4, _), (7, _), (10, _)]) (H' := [[(_, [_, _, _, _, _, _, _, _, _])], [(_, [_, _, _, _, _, _, _, _, _])], [(_, [_, _, _, _, _, _, _, _, _])]]) ?_ ⟨rfl, rfl, rfl, rfl, rfl, rfl, trivial⟩ rfl
  refine LP.round ?_
  refine WP.seq (WP.region (l := [0]) rfl ?_)
  refine Run.int rfl rfl rfl (.at rfl) (.at rfl) rfl ?_
  refine Run.nil ?_
  refine WP.seq ?_
  refine WP.cond_t (.at rfl) rfl ?_
  refine WP.skip ?_
  refine WP.seq ?_
  refine WP.block ?_
  refine WP.seq (WP.region (l := [0, 1]) rfl ?_)
  refine Run.move rfl rfl rfl (.at rfl) ?_
  refine Run.assign rfl rfl rfl (.at rfl) ?_
  refine Run.nil ?_
  refine WP.draw mx_0 ?_
  refine Drawn.calmR ?_
  refine' DrawR.op 0 13 0 [(5, none)] rfl rfl (fun rest => ?_) ?_
  rotate_left
  · skip
    refine Run.move rfl rfl rfl (.at rfl) ?_
    exact single_nil
  refine' DrawR.op 1 14 1 [(4, none)] rfl rfl (fun rest => ?_) ?_
  rotate_left
  · skip
    refine Run.move rfl rfl rfl (.at rfl) ?_
    exact single_nil
  refine' DrawR.op 2 15 2 [(4, none)] rfl rfl (fun rest => ?_) ?_
  rotate_left
  · skip
    refine Run.move rfl rfl rfl (.at rfl) ?_
    exact single_nil
  refine' DrawR.op 3 16 3 [(5, none)] rfl rfl (fun rest => ?_) ?_
  rotate_left
  · skip
    refine Run.move rfl rfl rfl (.at rfl) ?_
    exact single_nil
  refine' DrawR.op 4 17 4 [(1, none), (15, some 1)] rfl rfl (fun rest => ?_) ?_
  rotate_left
  · skip
    refine Run.idx_arr rfl rfl rfl (.at rfl) (.at rfl) ar_44_3_3 (by rfl) (by decide) ?_
    exact single_nil
  refine' DrawR.op 5 18 5 [(17, some 0), (16, some 1)] rfl rfl (fun rest => ?_) ?_
  rotate_left
  · skip
    refine Run.idx_arr rfl rfl rfl (.at rfl) (.at rfl) ar_30_3_1 (by rfl) (by decide) ?_
    exact single_nil
  refine' DrawR.op 6 19 6 [(18, some 0)] rfl rfl (fun rest => ?_) ?_
  rotate_left
  · skip
    refine Run.load rfl rfl rfl (.at rfl) (place_adr rfl) sc_2 rfl ?_
    exact single_nil
  refine' DrawR.op 7 20 7 [(3, none), (13, some 6)] rfl rfl (fun rest => ?_) ?_
  rotate_left
  · skip
    refine Run.idx_arr rfl rfl rfl (.at rfl) (.at rfl) ar_44_3_3 (by rfl) (by decide) ?_
    exact single_nil
  refine' DrawR.op 8 21 8 [(20, some 0), (14, some 6)] rfl rfl (fun rest => ?_) ?_
  rotate_left
  · skip
    refine Run.idx_arr rfl rfl rfl (.at rfl) (.at rfl) ar_30_3_1 (by rfl) (by decide) ?_
    exact single_nil
  refine DrawR.tail [9] rfl (by kernel_rfl) ?_
  refine Run.store (j := 0) rfl rfl (.at rfl) rfl rfl (.at rfl) sz_2_1 rfl rfl (by first | decide | exact Nat.le_of_ble_eq_true rfl) rfl ?_
  refine Run.nil ?_
  refine WP.region (l := [0, 1]) rfl ?_
  refine Run.add rfl rfl rfl (.at rfl) (.at rfl) (by omega) ?_
  refine Run.move rfl rfl rfl (.at rfl) ?_
  refine Run.nil ?_
  refine LP.trim (fr' := [(1, _), (2, _), (3, _), (4, _), (7, _), (10, _)]) (H' := [[(_, [_, _, _, _, _, _, _, _, _])], [(_, [_, _, _, _, _, _, _, _, _])], [(_, [_, _, _, _, _, _, _, _, _])]]) ?_ ⟨rfl, rfl, rfl, rfl, rfl, rfl, trivial⟩ rfl
  refine LP.round ?_
  refine WP.seq (WP.region (l := [0]) rfl ?_)
  refine Run.int rfl rfl rfl (.at rfl) (.at rfl) rfl ?_
  refine Run.nil ?_
  refine WP.seq ?_
  refine WP.cond_f (.at rfl) rfl ?_
  refine WP.exit ?_
  refine WP.region (l := [0, 1]) rfl ?_
  refine Run.add rfl rfl rfl (.at rfl) (.at rfl) (by omega) ?_
  refine Run.move rfl rfl rfl (.at rfl) ?_
  refine Run.nil ?_
  refine LP.trim (fr' := [(1, _), (2, _), (3, _), (7, _)]) (H' := [[(_, [_, _, _, _, _, _, _, _, _])], [(_, [_, _, _, _, _, _, _, _, _])], [(_, [_, _, _, _, _, _, _, _, _])]]) ?_ ⟨rfl, rfl, rfl, rfl, trivial⟩ rfl
  refine LP.round ?_
  refine WP.seq (WP.region (l := [0]) rfl ?_)
  refine Run.int rfl rfl rfl (.at rfl) (.at rfl) rfl ?_
  refine Run.nil ?_
  refine WP.seq ?_
  refine WP.cond_f (.at rfl) rfl ?_
  refine WP.exit ?_
  refine WP.seq (WP.region (l := [0, 1]) rfl ?_)
  refine Run.loads rfl rfl rfl (.at rfl) (place_adr rfl) ag_44_9 rfl rfl ?_
  refine Run.store (j := 0) rfl rfl (.at rfl) rfl rfl (.at rfl) sz_44_9 rfl rfl (by first | decide | exact Nat.le_of_ble_eq_true rfl) rfl ?_
  refine Run.nil ?_
  refine WP.ret ?_
  exact Ends.pure (.cells rfl (place_adr rfl) ag_44_9 rfl rfl .nil) rfl
theorem c_normalMap (p : Int) (m : M3) (hp : IsP p) : Pure Try.prog 45 [.int .i64 p, m.av] (nM p m).av := by
  refine Pure.body 3 (n := 23) (fn := Try.f45) (c := Try.f45.body.get!) fn_45 rfl nm_45 rfl rfl fun C => ?_
  refine WP.seq (WP.region (l := [0, 1]) rfl ?_)
  refine Run.box 0 rfl rfl rfl (.at rfl) rfl (fun b3 => ?_)
  refine Run.alloc 1 rfl rfl rfl zr_44 (fun b4 => ?_)
  refine Run.nil ?_
  refine WP.seq (WP.region (l := [0, 1, 2]) rfl ?_)
  refine Run.loads rfl rfl rfl (.at rfl) (place_adr rfl) ag_44_9 rfl rfl ?_
  refine Run.acts [] [2] rfl rfl rfl (.at rfl) (.cons (.at rfl) .nil) (LendL.refl _ _) (c_flat 2 m) rfl rfl rfl (fun x H h => ?_) (fun x H h => ?_)
  · obtain ⟨b7, rfl, rfl⟩ := h; exact ⟨rfl, by first | rfl | simp [cleanH, cs3_cl]; done | simp [cleanH, ints_cl]; done | simp [cleanH, cs3_cl, ints_cl]; done | simp [cleanH, cs9_cl]; done | simp [cleanH, cs9_cl, cs3_cl, ints_cl]; done⟩
  obtain ⟨b7, rfl, rfl⟩ := h
  refine Run.assign rfl rfl rfl (.at rfl) ?_
  refine Run.nil ?_
  refine WP.seq (WP.region (l := [0, 1, 2]) rfl ?_)
  refine Run.move rfl rfl rfl (.at rfl) ?_
  refine Run.move rfl rfl rfl (.at rfl) ?_
  refine Run.acts [2] [2] rfl rfl rfl (.at rfl) (.cons (.at rfl) (.cons (.at rfl) .nil)) (LendL.refl _ _) (c_normal 2 b7 9 true p m.l hp (by decide) rfl) rfl rfl rfl (fun x H h => ?_) (fun x H h => ?_)
  · obtain ⟨rfl, rfl⟩ := h; exact ⟨rfl, by first | rfl | simp [cleanH, cs3_cl]; done | simp [cleanH, ints_cl]; done | simp [cleanH, cs3_cl, ints_cl]; done | simp [cleanH, cs9_cl]; done | simp [cleanH, cs9_cl, cs3_cl, ints_cl]; done⟩
  obtain ⟨rfl, rfl⟩ := h
  refine Run.nil ?_
  refine WP.seq (WP.draw mx_0 ?_)
  refine Drawn.calmR ?_
  refine' DrawR.op 0 11 0 [(5, none)] rfl rfl (fun rest => ?_) ?_
  rotate_left
  · skip
    refine Run.move rfl rfl rfl (.at rfl) ?_
    exact single_nil
  refine' DrawR.op 1 12 1 [(11, some 0)] rfl rfl (fun rest => ?_) ?_
  rotate_left
  · skip
    refine Run.toArr rfl rfl rfl (.at rfl) ar_30_3_1 (by decide) ?_
    exact single_nil
  refine' DrawR.op 2 13 2 [(12, some 0)] rfl rfl (fun rest => ?_) ?_
  rotate_left
  · skip
    refine Run.loads rfl rfl rfl (.at rfl) (place_adr rfl) ag_30_3 rfl rfl ?_
    exact single_nil
  refine' DrawR.op 3 14 3 [(5, none)] rfl rfl (fun rest => ?_) ?_
  rotate_left
  · skip
    refine Run.move rfl rfl rfl (.at rfl) ?_
    exact single_nil
  refine' DrawR.op 4 15 4 [(14, some 0)] rfl rfl (fun rest => ?_) ?_
  rotate_left
  · skip
    refine Run.slice rfl rfl rfl (.at rfl) sl_73_1 (Bnd.at (k := 3) (.at rfl) rfl) Bnd.no (by omega) (by omega) (by omega) ?_
    exact single_nil
  refine' DrawR.op 5 16 5 [(15, some 0)] rfl rfl (fun rest => ?_) ?_
  rotate_left
  · skip
    refine Run.toArr rfl rfl rfl (.at rfl) ar_30_3_1 (by decide) ?_
    exact single_nil
  refine' DrawR.op 6 17 6 [(16, some 0)] rfl rfl (fun rest => ?_) ?_
  rotate_left
  · skip
    refine Run.loads rfl rfl rfl (.at rfl) (place_adr rfl) ag_30_3 rfl rfl ?_
    exact single_nil
  refine' DrawR.op 7 18 7 [(5, none)] rfl rfl (fun rest => ?_) ?_
  rotate_left
  · skip
    refine Run.move rfl rfl rfl (.at rfl) ?_
    exact single_nil
  refine' DrawR.op 8 19 8 [(18, some 0)] rfl rfl (fun rest => ?_) ?_
  rotate_left
  · skip
    refine Run.slice rfl rfl rfl (.at rfl) sl_73_1 (Bnd.at (k := 6) (.at rfl) rfl) Bnd.no (by omega) (by omega) (by omega) ?_
    exact single_nil
  refine' DrawR.op 9 20 9 [(19, some 0)] rfl rfl (fun rest => ?_) ?_
  rotate_left
  · skip
    refine Run.toArr rfl rfl rfl (.at rfl) ar_30_3_1 (by decide) ?_
    exact single_nil
  refine' DrawR.op 10 21 10 [(20, some 0)] rfl rfl (fun rest => ?_) ?_
  rotate_left
  · skip
    refine Run.loads rfl rfl rfl (.at rfl) (place_adr rfl) ag_30_3 rfl rfl ?_
    exact single_nil
  refine' DrawR.op 11 22 11 [(13, some 8), (17, some 4), (21, some 0)] rfl rfl (fun rest => ?_) ?_
  rotate_left
  · skip
    refine Run.build rfl rfl rfl bd_44 (.cons (.at rfl) rfl (.cons (.at rfl) rfl (.cons (.at rfl) rfl .nil))) rfl ?_
    exact single_nil
  refine DrawR.tail [12] rfl (by kernel_rfl) ?_
  refine Run.store (j := 0) rfl rfl (.at rfl) rfl rfl (.at rfl) sz_44_9 rfl rfl (by first | decide | exact Nat.le_of_ble_eq_true rfl) rfl ?_
  refine Run.nil ?_
  refine WP.ret ?_
  exact Ends.pure (.cells rfl (place_adr rfl) ag_44_9 rfl rfl .nil) rfl
theorem c_product (p : Int) (m n : M3) (hp : IsP p) (hm : m.sm) (hn : n.sm) : Pure Try.prog 46 [.int .i64 p, m.av, n.av] (mulT p m n.tr).av := by
  have hb := hp.bd
  obtain ⟨hm0, hm1, hm2⟩ := hm
  obtain ⟨hn0, hn1, hn2⟩ := M3.sm_tr hn
  refine Pure.body 5 (n := 35) (fn := Try.f46) (c := Try.f46.body.get!) fn_46 rfl nm_46 rfl rfl fun C => ?_
  refine WP.seq (WP.region (l := [0, 1, 2]) rfl ?_)
  refine Run.box 0 rfl rfl rfl (.at rfl) rfl (fun b4 => ?_)
  refine Run.box 1 rfl rfl rfl (.at rfl) rfl (fun b5 => ?_)
  refine Run.alloc 2 rfl rfl rfl zr_44 (fun b6 => ?_)
  refine Run.nil ?_
  refine WP.seq (WP.region (l := [0, 1, 2, 3, 4, 5, 6]) rfl ?_)
  refine Run.build rfl rfl rfl bd_44 .nil rfl ?_
  refine Run.loads rfl rfl rfl (.at rfl) (place_adr rfl) ag_44_9 rfl rfl ?_
  refine Run.call rfl rfl rfl (.at rfl) (.cons (.at rfl) .nil) (c_transposed _) ?_
  refine Run.alloc 3 rfl rfl rfl zr_44 (fun b7 => ?_)
  refine Run.alloc 4 rfl rfl rfl zr_44 (fun b8 => ?_)
  refine Run.store (j := 0) rfl rfl (.at rfl) rfl rfl (.at rfl) sz_44_9 rfl rfl (by first | decide | exact Nat.le_of_ble_eq_true rfl) rfl ?_
  refine Run.store (j := 0) rfl rfl (.at rfl) rfl rfl (.at rfl) sz_44_9 rfl rfl (by first | decide | exact Nat.le_of_ble_eq_true rfl) rfl ?_
  refine Run.nil ?_
  refine WP.seq ?_
  refine WP.seq (WP.region (l := [0]) rfl ?_)
  refine Run.move rfl rfl rfl (.at rfl) ?_
  refine Run.nil ?_
  refine WP.block ?_
  refine WP.loop ?_
  refine LP.trim (fr' := [(0, _), (4, _), (6, _), (7, _), (8, _), (14, _)]) (H' := [[(_, [_, _, _, _, _, _, _, _, _])], [(_, [_, _, _, _, _, _, _, _, _])], [(_, [_, _, _, _, _, _, _, _, _])], [(_, [_, _, _, _, _, _, _, _, _])], [(_, [_, _, _, _, _, _, _, _, _])]]) ?_ ⟨rfl, rfl, rfl, rfl, rfl, rfl, trivial⟩ rfl
  refine LP.round ?_
  refine WP.seq (WP.region (l := [0]) rfl ?_)
  refine Run.int rfl rfl rfl (.at rfl) (.at rfl) rfl ?_
  refine Run.nil ?_
  refine WP.seq ?_
  refine WP.cond_t (.at rfl) rfl ?_
  refine WP.skip ?_
  refine WP.seq ?_
  refine WP.block ?_
  refine WP.seq (WP.region (l := [0, 1]) rfl ?_)
  refine Run.move rfl rfl rfl (.at rfl) ?_
  refine Run.assign rfl rfl rfl (.at rfl) ?_
  refine Run.nil ?_
  refine WP.seq (WP.region (l := [0]) rfl ?_)
  refine Run.move rfl rfl rfl (.at rfl) ?_
  refine Run.nil ?_
  refine WP.block ?_
  refine WP.loop ?_
  refine LP.trim (fr' := [(0, _), (4, _), (6, _), (7, _), (8, _), (9, _), (14, _), (17, _)]) (H' := [[(_, [_, _, _, _, _, _, _, _, _])], [(_, [_, _, _, _, _, _, _, _, _])], [(_, [_, _, _, _, _, _, _, _, _])], [(_, [_, _, _, _, _, _, _, _, _])], [(_, [_, _, _, _, _, _, _, _, _])]]) ?_ ⟨rfl, rfl, rfl, rfl, rfl, rfl, rfl, rfl, trivial⟩ rfl
  refine LP.round ?_
  refine WP.seq (WP.region (l := [0]) rfl ?_)
  refine Run.int rfl rfl rfl (.at rfl) (.at rfl) rfl ?_
  refine Run.nil ?_
  refine WP.seq ?_
  refine WP.cond_t (.at rfl) rfl ?_
  refine WP.skip ?_
  refine WP.seq ?_
  refine WP.block ?_
  refine WP.seq (WP.region (l := [0, 1]) rfl ?_)
  refine Run.move rfl rfl rfl (.at rfl) ?_
  refine Run.assign rfl rfl rfl (.at rfl) ?_
  refine Run.nil ?_
  refine WP.draw mx_0 ?_
  refine Drawn.calmR ?_
  refine' DrawR.op 0 20 0 [(9, none)] rfl rfl (fun rest => ?_) ?_
  rotate_left
  · skip
    refine Run.move rfl rfl rfl (.at rfl) ?_
    exact single_nil
  refine' DrawR.op 1 21 1 [(10, none)] rfl rfl (fun rest => ?_) ?_
  rotate_left
  · skip
    refine Run.move rfl rfl rfl (.at rfl) ?_
    exact single_nil
  refine' DrawR.op 2 22 2 [(0, none)] rfl rfl (fun rest => ?_) ?_
  rotate_left
  · skip
    refine Run.move rfl rfl rfl (.at rfl) ?_
    exact single_nil
  refine' DrawR.op 3 23 3 [(9, none)] rfl rfl (fun rest => ?_) ?_
  rotate_left
  · skip
    refine Run.move rfl rfl rfl (.at rfl) ?_
    exact single_nil
  refine' DrawR.op 4 24 4 [(4, none), (23, some 0)] rfl rfl (fun rest => ?_) ?_
  rotate_left
  · skip
    refine Run.idx_arr (j := 0) rfl rfl rfl (.at rfl) (.at rfl) ar_44_3_3 (by rfl) (by decide) ?_
    exact single_nil
  refine' DrawR.op 5 25 5 [(24, some 0)] rfl rfl (fun rest => ?_) ?_
  rotate_left
  · skip
    refine Run.loads rfl rfl rfl (.at rfl) (place_adr rfl) ag_30_3 rfl rfl ?_
    exact single_nil
  refine' DrawR.op 6 26 6 [(10, none)] rfl rfl (fun rest => ?_) ?_
  rotate_left
  · skip
    refine Run.move rfl rfl rfl (.at rfl) ?_
    exact single_nil
  refine' DrawR.op 7 27 7 [(8, none), (26, some 0)] rfl rfl (fun rest => ?_) ?_
  rotate_left
  · skip
    refine Run.idx_arr (j := 0) rfl rfl rfl (.at rfl) (.at rfl) ar_44_3_3 (by rfl) (by decide) ?_
    exact single_nil
  refine' DrawR.op 8 28 8 [(27, some 0)] rfl rfl (fun rest => ?_) ?_
  rotate_left
  · skip
    refine Run.loads rfl rfl rfl (.at rfl) (place_adr rfl) ag_30_3 rfl rfl ?_
    exact single_nil
  refine' DrawR.op 9 29 9 [(22, some 6), (25, some 3), (28, some 0)] rfl rfl (fun rest => ?_) ?_
  rotate_left
  · skip
    refine Run.call rfl rfl rfl (.at rfl) (.cons (.at rfl) (.cons (.at rfl) (.cons (.at rfl) .nil))) (c_dot p m.r0 n.tr.r0 hm0 hn0 (by omega) (by omega)) ?_
    exact single_nil
  refine' DrawR.op 10 30 10 [(7, none), (20, some 9)] rfl rfl (fun rest => ?_) ?_
  rotate_left
  · skip
    refine Run.idx_arr (j := 0) rfl rfl rfl (.at rfl) (.at rfl) ar_44_3_3 (by rfl) (by decide) ?_
    exact single_nil
  refine' DrawR.op 11 31 11 [(30, some 0), (21, some 9)] rfl rfl (fun rest => ?_) ?_
  rotate_left
  · skip
    refine Run.idx_arr (j := 0) rfl rfl rfl (.at rfl) (.at rfl) ar_30_3_1 (by rfl) (by decide) ?_
    exact single_nil
  refine DrawR.tail [12] rfl (by kernel_rfl) ?_
  refine Run.store (j := 0) rfl rfl (.at rfl) rfl rfl (.at rfl) sz_2_1 rfl rfl (by first | decide | exact Nat.le_of_ble_eq_true rfl) rfl ?_
  refine Run.nil ?_
  refine WP.region (l := [0, 1]) rfl ?_
  refine Run.add rfl rfl rfl (.at rfl) (.at rfl) (by omega) ?_
  refine Run.move rfl rfl rfl (.at rfl) ?_
  refine Run.nil ?_
  refine LP.trim (fr' := [(0, _), (4, _), (6, _), (7, _), (8, _), (9, _), (14, _), (17, _)]) (H' := [[(_, [_, _, _, _, _, _, _, _, _])], [(_, [_, _, _, _, _, _, _, _, _])], [(_, [_, _, _, _, _, _, _, _, _])], [(_, [_, _, _, _, _, _, _, _, _])], [(_, [_, _, _, _, _, _, _, _, _])]]) ?_ ⟨rfl, rfl, rfl, rfl, rfl, rfl, rfl, rfl, trivial⟩ rfl
  refine LP.round ?_
  refine WP.seq (WP.region (l := [0]) rfl ?_)
  refine Run.int rfl rfl rfl (.at rfl) (.at rfl) rfl ?_
  refine Run.nil ?_
  refine WP.seq ?_
  refine WP.cond_t (.at rfl) rfl ?_
  refine WP.skip ?_
  refine WP.seq ?_
  refine WP.block ?_
  refine WP.seq (WP.region (l := [0, 1]) rfl ?_)
  refine Run.move rfl rfl rfl (.at rfl) ?_
  refine Run.assign rfl rfl rfl (.at rfl) ?_
  refine Run.nil ?_
  refine WP.draw mx_0 ?_
  refine Drawn.calmR ?_
  refine' DrawR.op 0 20 0 [(9, none)] rfl rfl (fun rest => ?_) ?_
  rotate_left
  · skip
    refine Run.move rfl rfl rfl (.at rfl) ?_
    exact single_nil
  refine' DrawR.op 1 21 1 [(10, none)] rfl rfl (fun rest => ?_) ?_
  rotate_left
  · skip
    refine Run.move rfl rfl rfl (.at rfl) ?_
    exact single_nil
  refine' DrawR.op 2 22 2 [(0, none)] rfl rfl (fun rest => ?_) ?_
  rotate_left
  · skip
    refine Run.move rfl rfl rfl (.at rfl) ?_
    exact single_nil
  refine' DrawR.op 3 23 3 [(9, none)] rfl rfl (fun rest => ?_) ?_
  rotate_left
  · skip
    refine Run.move rfl rfl rfl (.at rfl) ?_
    exact single_nil
  refine' DrawR.op 4 24 4 [(4, none), (23, some 0)] rfl rfl (fun rest => ?_) ?_
  rotate_left
  · skip
    refine Run.idx_arr (j := 0) rfl rfl rfl (.at rfl) (.at rfl) ar_44_3_3 (by rfl) (by decide) ?_
    exact single_nil
  refine' DrawR.op 5 25 5 [(24, some 0)] rfl rfl (fun rest => ?_) ?_
  rotate_left
  · skip
    refine Run.loads rfl rfl rfl (.at rfl) (place_adr rfl) ag_30_3 rfl rfl ?_
    exact single_nil
  refine' DrawR.op 6 26 6 [(10, none)] rfl rfl (fun rest => ?_) ?_
  rotate_left
  · skip
    refine Run.move rfl rfl rfl (.at rfl) ?_
    exact single_nil
  refine' DrawR.op 7 27 7 [(8, none), (26, some 0)] rfl rfl (fun rest => ?_) ?_
  rotate_left
  · skip
    refine Run.idx_arr (j := 1) rfl rfl rfl (.at rfl) (.at rfl) ar_44_3_3 (by rfl) (by decide) ?_
    exact single_nil
  refine' DrawR.op 8 28 8 [(27, some 0)] rfl rfl (fun rest => ?_) ?_
  rotate_left
  · skip
    refine Run.loads rfl rfl rfl (.at rfl) (place_adr rfl) ag_30_3 rfl rfl ?_
    exact single_nil
  refine' DrawR.op 9 29 9 [(22, some 6), (25, some 3), (28, some 0)] rfl rfl (fun rest => ?_) ?_
  rotate_left
  · skip
    refine Run.call rfl rfl rfl (.at rfl) (.cons (.at rfl) (.cons (.at rfl) (.cons (.at rfl) .nil))) (c_dot p m.r0 n.tr.r1 hm0 hn1 (by omega) (by omega)) ?_
    exact single_nil
  refine' DrawR.op 10 30 10 [(7, none), (20, some 9)] rfl rfl (fun rest => ?_) ?_
  rotate_left
  · skip
    refine Run.idx_arr (j := 0) rfl rfl rfl (.at rfl) (.at rfl) ar_44_3_3 (by rfl) (by decide) ?_
    exact single_nil
  refine' DrawR.op 11 31 11 [(30, some 0), (21, some 9)] rfl rfl (fun rest => ?_) ?_
  rotate_left
  · skip
    refine Run.idx_arr (j := 1) rfl rfl rfl (.at rfl) (.at rfl) ar_30_3_1 (by rfl) (by decide) ?_
    exact single_nil
  refine DrawR.tail [12] rfl (by kernel_rfl) ?_
  refine Run.store (j := 0) rfl rfl (.at rfl) rfl rfl (.at rfl) sz_2_1 rfl rfl (by first | decide | exact Nat.le_of_ble_eq_true rfl) rfl ?_
  refine Run.nil ?_
  refine WP.region (l := [0, 1]) rfl ?_
  refine Run.add rfl rfl rfl (.at rfl) (.at rfl) (by omega) ?_
  refine Run.move rfl rfl rfl (.at rfl) ?_
  refine Run.nil ?_
  refine LP.trim (fr' := [(0, _), (4, _), (6, _), (7, _), (8, _), (9, _), (14, _), (17, _)]) (H' := [[(_, [_, _, _, _, _, _, _, _, _])], [(_, [_, _, _, _, _, _, _, _, _])], [(_, [_, _, _, _, _, _, _, _, _])], [(_, [_, _, _, _, _, _, _, _, _])], [(_, [_, _, _, _, _, _, _, _, _])]]) ?_ ⟨rfl, rfl, rfl, rfl, rfl, rfl, rfl, rfl, trivial⟩ rfl
  refine LP.round ?_
  refine WP.seq (WP.region (l := [0]) rfl ?_)
  refine Run.int rfl rfl rfl (.at rfl) (.at rfl) rfl ?_
  refine Run.nil ?_
  refine WP.seq ?_
  refine WP.cond_t (.at rfl) rfl ?_
  refine WP.skip ?_
  refine WP.seq ?_
  refine WP.block ?_
  refine WP.seq (WP.region (l := [0, 1]) rfl ?_)
  refine Run.move rfl rfl rfl (.at rfl) ?_
  refine Run.assign rfl rfl rfl (.at rfl) ?_
  refine Run.nil ?_
  refine WP.draw mx_0 ?_
  refine Drawn.calmR ?_
  refine' DrawR.op 0 20 0 [(9, none)] rfl rfl (fun rest => ?_) ?_
  rotate_left
  · skip
    refine Run.move rfl rfl rfl (.at rfl) ?_
    exact single_nil
  refine' DrawR.op 1 21 1 [(10, none)] rfl rfl (fun rest => ?_) ?_
  rotate_left
  · skip
    refine Run.move rfl rfl rfl (.at rfl) ?_
    exact single_nil
  refine' DrawR.op 2 22 2 [(0, none)] rfl rfl (fun rest => ?_) ?_
  rotate_left
  · skip
    refine Run.move rfl rfl rfl (.at rfl) ?_
    exact single_nil
  refine' DrawR.op 3 23 3 [(9, none)] rfl rfl (fun rest => ?_) ?_
  rotate_left
  · skip
    refine Run.move rfl rfl rfl (.at rfl) ?_
    exact single_nil
  refine' DrawR.op 4 24 4 [(4, none), (23, some 0)] rfl rfl (fun rest => ?_) ?_
  rotate_left
  · skip
    refine Run.idx_arr (j := 0) rfl rfl rfl (.at rfl) (.at rfl) ar_44_3_3 (by rfl) (by decide) ?_
    exact single_nil
  refine' DrawR.op 5 25 5 [(24, some 0)] rfl rfl (fun rest => ?_) ?_
  rotate_left
  · skip
    refine Run.loads rfl rfl rfl (.at rfl) (place_adr rfl) ag_30_3 rfl rfl ?_
    exact single_nil
  refine' DrawR.op 6 26 6 [(10, none)] rfl rfl (fun rest => ?_) ?_
  rotate_left
  · skip
    refine Run.move rfl rfl rfl (.at rfl) ?_
    exact single_nil
  refine' DrawR.op 7 27 7 [(8, none), (26, some 0)] rfl rfl (fun rest => ?_) ?_
  rotate_left
  · skip
    refine Run.idx_arr (j := 2) rfl rfl rfl (.at rfl) (.at rfl) ar_44_3_3 (by rfl) (by decide) ?_
    exact single_nil
  refine' DrawR.op 8 28 8 [(27, some 0)] rfl rfl (fun rest => ?_) ?_
  rotate_left
  · skip
    refine Run.loads rfl rfl rfl (.at rfl) (place_adr rfl) ag_30_3 rfl rfl ?_
    exact single_nil
  refine' DrawR.op 9 29 9 [(22, some 6), (25, some 3), (28, some 0)] rfl rfl (fun rest => ?_) ?_
  rotate_left
  · skip
    refine Run.call rfl rfl rfl (.at rfl) (.cons (.at rfl) (.cons (.at rfl) (.cons (.at rfl) .nil))) (c_dot p m.r0 n.tr.r2 hm0 hn2 (by omega) (by omega)) ?_
    exact single_nil
  refine' DrawR.op 10 30 10 [(7, none), (20, some 9)] rfl rfl (fun rest => ?_) ?_
  rotate_left
  · skip
    refine Run.idx_arr (j := 0) rfl rfl rfl (.at rfl) (.at rfl) ar_44_3_3 (by rfl) (by decide) ?_
    exact single_nil
  refine' DrawR.op 11 31 11 [(30, some 0), (21, some 9)] rfl rfl (fun rest => ?_) ?_
  rotate_left
  · skip
    refine Run.idx_arr (j := 2) rfl rfl rfl (.at rfl) (.at rfl) ar_30_3_1 (by rfl) (by decide) ?_
    exact single_nil
  refine DrawR.tail [12] rfl (by kernel_rfl) ?_
  refine Run.store (j := 0) rfl rfl (.at rfl) rfl rfl (.at rfl) sz_2_1 rfl rfl (by first | decide | exact Nat.le_of_ble_eq_true rfl) rfl ?_
  refine Run.nil ?_
  refine WP.region (l := [0, 1]) rfl ?_
  refine Run.add rfl rfl rfl (.at rfl) (.at rfl) (by omega) ?_
  refine Run.move rfl rfl rfl (.at rfl) ?_
  refine Run.nil ?_
  refine LP.trim (fr' := [(0, _), (4, _), (6, _), (7, _), (8, _), (9, _), (14, _), (17, _)]) (H' := [[(_, [_, _, _, _, _, _, _, _, _])], [(_, [_, _, _, _, _, _, _, _, _])], [(_, [_, _, _, _, _, _, _, _, _])], [(_, [_, _, _, _, _, _, _, _, _])], [(_, [_, _, _, _, _, _, _, _, _])]]) ?_ ⟨rfl, rfl, rfl, rfl, rfl, rfl, rfl, rfl, trivial⟩ rfl
  refine LP.round ?_
  refine WP.seq (WP.region (l := [0]) rfl ?_)
  refine Run.int rfl rfl rfl (.at rfl) (.at rfl) rfl ?_
  refine Run.nil ?_
  refine WP.seq ?_
  refine WP.cond_f (.at rfl) rfl ?_
  refine WP.exit ?_
  refine WP.region (l := [0, 1]) rfl ?_
  refine Run.add rfl rfl rfl (.at rfl) (.at rfl) (by omega) ?_
  refine Run.move rfl rfl rfl (.at rfl) ?_
  refine Run.nil ?_
  refine LP.trim (fr' := [(0, _), (4, _), (6, _), (7, _), (8, _), (14, _)]) (H' := [[(_, [_, _, _, _, _, _, _, _, _])], [(_, [_, _, _, _, _, _, _, _, _])], [(_, [_, _, _, _, _, _, _, _, _])], [(_, [_, _, _, _, _, _, _, _, _])], [(_, [_, _, _, _, _, _, _, _, _])]]) ?_ ⟨rfl, rfl, rfl, rfl, rfl, rfl, trivial⟩ rfl
  refine LP.round ?_
  refine WP.seq (WP.region (l := [0]) rfl ?_)
  refine Run.int rfl rfl rfl (.at rfl) (.at rfl) rfl ?_
  refine Run.nil ?_
  refine WP.seq ?_
  refine WP.cond_t (.at rfl) rfl ?_
  refine WP.skip ?_
  refine WP.seq ?_
  refine WP.block ?_
  refine WP.seq (WP.region (l := [0, 1]) rfl ?_)
  refine Run.move rfl rfl rfl (.at rfl) ?_
  refine Run.assign rfl rfl rfl (.at rfl) ?_
  refine Run.nil ?_
  refine WP.seq (WP.region (l := [0]) rfl ?_)
  refine Run.move rfl rfl rfl (.at rfl) ?_
  refine Run.nil ?_
  refine WP.block ?_
  refine WP.loop ?_
  refine LP.trim (fr' := [(0, _), (4, _), (6, _), (7, _), (8, _), (9, _), (14, _), (17, _)]) (H' := [[(_, [_, _, _, _, _, _, _, _, _])], [(_, [_, _, _, _, _, _, _, _, _])], [(_, [_, _, _, _, _, _, _, _, _])], [(_, [_, _, _, _, _, _, _, _, _])], [(_, [_, _, _, _, _, _, _, _, _])]]) ?_ ⟨rfl, rfl, rfl, rfl, rfl, rfl, rfl, rfl, trivial⟩ rfl
  refine LP.round ?_
  refine WP.seq (WP.region (l := [0]) rfl ?_)
  refine Run.int rfl rfl rfl (.at rfl) (.at rfl) rfl ?_
  refine Run.nil ?_
  refine WP.seq ?_
  refine WP.cond_t (.at rfl) rfl ?_
  refine WP.skip ?_
  refine WP.seq ?_
  refine WP.block ?_
  refine WP.seq (WP.region (l := [0, 1]) rfl ?_)
  refine Run.move rfl rfl rfl (.at rfl) ?_
  refine Run.assign rfl rfl rfl (.at rfl) ?_
  refine Run.nil ?_
  refine WP.draw mx_0 ?_
  refine Drawn.calmR ?_
  refine' DrawR.op 0 20 0 [(9, none)] rfl rfl (fun rest => ?_) ?_
  rotate_left
  · skip
    refine Run.move rfl rfl rfl (.at rfl) ?_
    exact single_nil
  refine' DrawR.op 1 21 1 [(10, none)] rfl rfl (fun rest => ?_) ?_
  rotate_left
  · skip
    refine Run.move rfl rfl rfl (.at rfl) ?_
    exact single_nil
  refine' DrawR.op 2 22 2 [(0, none)] rfl rfl (fun rest => ?_) ?_
  rotate_left
  · skip
    refine Run.move rfl rfl rfl (.at rfl) ?_
    exact single_nil
  refine' DrawR.op 3 23 3 [(9, none)] rfl rfl (fun rest => ?_) ?_
  rotate_left
  · skip
    refine Run.move rfl rfl rfl (.at rfl) ?_
    exact single_nil
  refine' DrawR.op 4 24 4 [(4, none), (23, some 0)] rfl rfl (fun rest => ?_) ?_
  rotate_left
  · skip
    refine Run.idx_arr (j := 1) rfl rfl rfl (.at rfl) (.at rfl) ar_44_3_3 (by rfl) (by decide) ?_
    exact single_nil
  refine' DrawR.op 5 25 5 [(24, some 0)] rfl rfl (fun rest => ?_) ?_
  rotate_left
  · skip
    refine Run.loads rfl rfl rfl (.at rfl) (place_adr rfl) ag_30_3 rfl rfl ?_
    exact single_nil
  refine' DrawR.op 6 26 6 [(10, none)] rfl rfl (fun rest => ?_) ?_
  rotate_left
  · skip
    refine Run.move rfl rfl rfl (.at rfl) ?_
    exact single_nil
  refine' DrawR.op 7 27 7 [(8, none), (26, some 0)] rfl rfl (fun rest => ?_) ?_
  rotate_left
  · skip
    refine Run.idx_arr (j := 0) rfl rfl rfl (.at rfl) (.at rfl) ar_44_3_3 (by rfl) (by decide) ?_
    exact single_nil
  refine' DrawR.op 8 28 8 [(27, some 0)] rfl rfl (fun rest => ?_) ?_
  rotate_left
  · skip
    refine Run.loads rfl rfl rfl (.at rfl) (place_adr rfl) ag_30_3 rfl rfl ?_
    exact single_nil
  refine' DrawR.op 9 29 9 [(22, some 6), (25, some 3), (28, some 0)] rfl rfl (fun rest => ?_) ?_
  rotate_left
  · skip
    refine Run.call rfl rfl rfl (.at rfl) (.cons (.at rfl) (.cons (.at rfl) (.cons (.at rfl) .nil))) (c_dot p m.r1 n.tr.r0 hm1 hn0 (by omega) (by omega)) ?_
    exact single_nil
  refine' DrawR.op 10 30 10 [(7, none), (20, some 9)] rfl rfl (fun rest => ?_) ?_
  rotate_left
  · skip
    refine Run.idx_arr (j := 1) rfl rfl rfl (.at rfl) (.at rfl) ar_44_3_3 (by rfl) (by decide) ?_
    exact single_nil
  refine' DrawR.op 11 31 11 [(30, some 0), (21, some 9)] rfl rfl (fun rest => ?_) ?_
  rotate_left
  · skip
    refine Run.idx_arr (j := 0) rfl rfl rfl (.at rfl) (.at rfl) ar_30_3_1 (by rfl) (by decide) ?_
    exact single_nil
  refine DrawR.tail [12] rfl (by kernel_rfl) ?_
  refine Run.store (j := 0) rfl rfl (.at rfl) rfl rfl (.at rfl) sz_2_1 rfl rfl (by first | decide | exact Nat.le_of_ble_eq_true rfl) rfl ?_
  refine Run.nil ?_
  refine WP.region (l := [0, 1]) rfl ?_
  refine Run.add rfl rfl rfl (.at rfl) (.at rfl) (by omega) ?_
  refine Run.move rfl rfl rfl (.at rfl) ?_
  refine Run.nil ?_
  refine LP.trim (fr' := [(0, _), (4, _), (6, _), (7, _), (8, _), (9, _), (14, _), (17, _)]) (H' := [[(_, [_, _, _, _, _, _, _, _, _])], [(_, [_, _, _, _, _, _, _, _, _])], [(_, [_, _, _, _, _, _, _, _, _])], [(_, [_, _, _, _, _, _, _, _, _])], [(_, [_, _, _, _, _, _, _, _, _])]]) ?_ ⟨rfl, rfl, rfl, rfl, rfl, rfl, rfl, rfl, trivial⟩ rfl
  refine LP.round ?_
  refine WP.seq (WP.region (l := [0]) rfl ?_)
  refine Run.int rfl rfl rfl (.at rfl) (.at rfl) rfl ?_
  refine Run.nil ?_
  refine WP.seq ?_
  refine WP.cond_t (.at rfl) rfl ?_
  refine WP.skip ?_
  refine WP.seq ?_
  refine WP.block ?_
  refine WP.seq (WP.region (l := [0, 1]) rfl ?_)
  refine Run.move rfl rfl rfl (.at rfl) ?_
  refine Run.assign rfl rfl rfl (.at rfl) ?_
  refine Run.nil ?_
  refine WP.draw mx_0 ?_
  refine Drawn.calmR ?_
  refine' DrawR.op 0 20 0 [(9, none)] rfl rfl (fun rest => ?_) ?_
  rotate_left
  · skip
    refine Run.move rfl rfl rfl (.at rfl) ?_
    exact single_nil
  refine' DrawR.op 1 21 1 [(10, none)] rfl rfl (fun rest => ?_) ?_
  rotate_left
  · skip
    refine Run.move rfl rfl rfl (.at rfl) ?_
    exact single_nil
  refine' DrawR.op 2 22 2 [(0, none)] rfl rfl (fun rest => ?_) ?_
  rotate_left
  · skip
    refine Run.move rfl rfl rfl (.at rfl) ?_
    exact single_nil
  refine' DrawR.op 3 23 3 [(9, none)] rfl rfl (fun rest => ?_) ?_
  rotate_left
  · skip
    refine Run.move rfl rfl rfl (.at rfl) ?_
    exact single_nil
  refine' DrawR.op 4 24 4 [(4, none), (23, some 0)] rfl rfl (fun rest => ?_) ?_
  rotate_left
  · skip
    refine Run.idx_arr (j := 1) rfl rfl rfl (.at rfl) (.at rfl) ar_44_3_3 (by rfl) (by decide) ?_
    exact single_nil
  refine' DrawR.op 5 25 5 [(24, some 0)] rfl rfl (fun rest => ?_) ?_
  rotate_left
  · skip
    refine Run.loads rfl rfl rfl (.at rfl) (place_adr rfl) ag_30_3 rfl rfl ?_
    exact single_nil
  refine' DrawR.op 6 26 6 [(10, none)] rfl rfl (fun rest => ?_) ?_
  rotate_left
  · skip
    refine Run.move rfl rfl rfl (.at rfl) ?_
    exact single_nil
  refine' DrawR.op 7 27 7 [(8, none), (26, some 0)] rfl rfl (fun rest => ?_) ?_
  rotate_left
  · skip
    refine Run.idx_arr (j := 1) rfl rfl rfl (.at rfl) (.at rfl) ar_44_3_3 (by rfl) (by decide) ?_
    exact single_nil
  refine' DrawR.op 8 28 8 [(27, some 0)] rfl rfl (fun rest => ?_) ?_
  rotate_left
  · skip
    refine Run.loads rfl rfl rfl (.at rfl) (place_adr rfl) ag_30_3 rfl rfl ?_
    exact single_nil
  refine' DrawR.op 9 29 9 [(22, some 6), (25, some 3), (28, some 0)] rfl rfl (fun rest => ?_) ?_
  rotate_left
  · skip
    refine Run.call rfl rfl rfl (.at rfl) (.cons (.at rfl) (.cons (.at rfl) (.cons (.at rfl) .nil))) (c_dot p m.r1 n.tr.r1 hm1 hn1 (by omega) (by omega)) ?_
    exact single_nil
  refine' DrawR.op 10 30 10 [(7, none), (20, some 9)] rfl rfl (fun rest => ?_) ?_
  rotate_left
  · skip
    refine Run.idx_arr (j := 1) rfl rfl rfl (.at rfl) (.at rfl) ar_44_3_3 (by rfl) (by decide) ?_
    exact single_nil
  refine' DrawR.op 11 31 11 [(30, some 0), (21, some 9)] rfl rfl (fun rest => ?_) ?_
  rotate_left
  · skip
    refine Run.idx_arr (j := 1) rfl rfl rfl (.at rfl) (.at rfl) ar_30_3_1 (by rfl) (by decide) ?_
    exact single_nil
  refine DrawR.tail [12] rfl (by kernel_rfl) ?_
  refine Run.store (j := 0) rfl rfl (.at rfl) rfl rfl (.at rfl) sz_2_1 rfl rfl (by first | decide | exact Nat.le_of_ble_eq_true rfl) rfl ?_
  refine Run.nil ?_
  refine WP.region (l := [0, 1]) rfl ?_
  refine Run.add rfl rfl rfl (.at rfl) (.at rfl) (by omega) ?_
  refine Run.move rfl rfl rfl (.at rfl) ?_
  refine Run.nil ?_
  refine LP.trim (fr' := [(0, _), (4, _), (6, _), (7, _), (8, _), (9, _), (14, _), (17, _)]) (H' := [[(_, [_, _, _, _, _, _, _, _, _])], [(_, [_, _, _, _, _, _, _, _, _])], [(_, [_, _, _, _, _, _, _, _, _])], [(_, [_, _, _, _, _, _, _, _, _])], [(_, [_, _, _, _, _, _, _, _, _])]]) ?_ ⟨rfl, rfl, rfl, rfl, rfl, rfl, rfl, rfl, trivial⟩ rfl
  refine LP.round ?_
  refine WP.seq (WP.region (l := [0]) rfl ?_)
  refine Run.int rfl rfl rfl (.at rfl) (.at rfl) rfl ?_
  refine Run.nil ?_
  refine WP.seq ?_
  refine WP.cond_t (.at rfl) rfl ?_
  refine WP.skip ?_
  refine WP.seq ?_
  refine WP.block ?_
  refine WP.seq (WP.region (l := [0, 1]) rfl ?_)
  refine Run.move rfl rfl rfl (.at rfl) ?_
  refine Run.assign rfl rfl rfl (.at rfl) ?_
  refine Run.nil ?_
  refine WP.draw mx_0 ?_
  refine Drawn.calmR ?_
  refine' DrawR.op 0 20 0 [(9, none)] rfl rfl (fun rest => ?_) ?_
  rotate_left
  · skip
    refine Run.move rfl rfl rfl (.at rfl) ?_
    exact single_nil
  refine' DrawR.op 1 21 1 [(10, none)] rfl rfl (fun rest => ?_) ?_
  rotate_left
  · skip
    refine Run.move rfl rfl rfl (.at rfl) ?_
    exact single_nil
  refine' DrawR.op 2 22 2 [(0, none)] rfl rfl (fun rest => ?_) ?_
  rotate_left
  · skip
    refine Run.move rfl rfl rfl (.at rfl) ?_
    exact single_nil
  refine' DrawR.op 3 23 3 [(9, none)] rfl rfl (fun rest => ?_) ?_
  rotate_left
  · skip
    refine Run.move rfl rfl rfl (.at rfl) ?_
    exact single_nil
  refine' DrawR.op 4 24 4 [(4, none), (23, some 0)] rfl rfl (fun rest => ?_) ?_
  rotate_left
  · skip
    refine Run.idx_arr (j := 1) rfl rfl rfl (.at rfl) (.at rfl) ar_44_3_3 (by rfl) (by decide) ?_
    exact single_nil
  refine' DrawR.op 5 25 5 [(24, some 0)] rfl rfl (fun rest => ?_) ?_
  rotate_left
  · skip
    refine Run.loads rfl rfl rfl (.at rfl) (place_adr rfl) ag_30_3 rfl rfl ?_
    exact single_nil
  refine' DrawR.op 6 26 6 [(10, none)] rfl rfl (fun rest => ?_) ?_
  rotate_left
  · skip
    refine Run.move rfl rfl rfl (.at rfl) ?_
    exact single_nil
  refine' DrawR.op 7 27 7 [(8, none), (26, some 0)] rfl rfl (fun rest => ?_) ?_
  rotate_left
  · skip
    refine Run.idx_arr (j := 2) rfl rfl rfl (.at rfl) (.at rfl) ar_44_3_3 (by rfl) (by decide) ?_
    exact single_nil
  refine' DrawR.op 8 28 8 [(27, some 0)] rfl rfl (fun rest => ?_) ?_
  rotate_left
  · skip
    refine Run.loads rfl rfl rfl (.at rfl) (place_adr rfl) ag_30_3 rfl rfl ?_
    exact single_nil
  refine' DrawR.op 9 29 9 [(22, some 6), (25, some 3), (28, some 0)] rfl rfl (fun rest => ?_) ?_
  rotate_left
  · skip
    refine Run.call rfl rfl rfl (.at rfl) (.cons (.at rfl) (.cons (.at rfl) (.cons (.at rfl) .nil))) (c_dot p m.r1 n.tr.r2 hm1 hn2 (by omega) (by omega)) ?_
    exact single_nil
  refine' DrawR.op 10 30 10 [(7, none), (20, some 9)] rfl rfl (fun rest => ?_) ?_
  rotate_left
  · skip
    refine Run.idx_arr (j := 1) rfl rfl rfl (.at rfl) (.at rfl) ar_44_3_3 (by rfl) (by decide) ?_
    exact single_nil
  refine' DrawR.op 11 31 11 [(30, some 0), (21, some 9)] rfl rfl (fun rest => ?_) ?_
  rotate_left
  · skip
    refine Run.idx_arr (j := 2) rfl rfl rfl (.at rfl) (.at rfl) ar_30_3_1 (by rfl) (by decide) ?_
    exact single_nil
  refine DrawR.tail [12] rfl (by kernel_rfl) ?_
  refine Run.store (j := 0) rfl rfl (.at rfl) rfl rfl (.at rfl) sz_2_1 rfl rfl (by first | decide | exact Nat.le_of_ble_eq_true rfl) rfl ?_
  refine Run.nil ?_
  refine WP.region (l := [0, 1]) rfl ?_
  refine Run.add rfl rfl rfl (.at rfl) (.at rfl) (by omega) ?_
  refine Run.move rfl rfl rfl (.at rfl) ?_
  refine Run.nil ?_
  refine LP.trim (fr' := [(0, _), (4, _), (6, _), (7, _), (8, _), (9, _), (14, _), (17, _)]) (H' := [[(_, [_, _, _, _, _, _, _, _, _])], [(_, [_, _, _, _, _, _, _, _, _])], [(_, [_, _, _, _, _, _, _, _, _])], [(_, [_, _, _, _, _, _, _, _, _])], [(_, [_, _, _, _, _, _, _, _, _])]]) ?_ ⟨rfl, rfl, rfl, rfl, rfl, rfl, rfl, rfl, trivial⟩ rfl
  refine LP.round ?_
  refine WP.seq (WP.region (l := [0]) rfl ?_)
  refine Run.int rfl rfl rfl (.at rfl) (.at rfl) rfl ?_
  refine Run.nil ?_
  refine WP.seq ?_
  refine WP.cond_f (.at rfl) rfl ?_
  refine WP.exit ?_
  refine WP.region (l := [0, 1]) rfl ?_
  refine Run.add rfl rfl rfl (.at rfl) (.at rfl) (by omega) ?_
  refine Run.move rfl rfl rfl (.at rfl) ?_
  refine Run.nil ?_
  refine LP.trim (fr' := [(0, _), (4, _), (6, _), (7, _), (8, _), (14, _)]) (H' := [[(_, [_, _, _, _, _, _, _, _, _])], [(_, [_, _, _, _, _, _, _, _, _])], [(_, [_, _, _, _, _, _, _, _, _])], [(_, [_, _, _, _, _, _, _, _, _])], [(_, [_, _, _, _, _, _, _, _, _])]]) ?_ ⟨rfl, rfl, rfl, rfl, rfl, rfl, trivial⟩ rfl
  refine LP.round ?_
  refine WP.seq (WP.region (l := [0]) rfl ?_)
  refine Run.int rfl rfl rfl (.at rfl) (.at rfl) rfl ?_
  refine Run.nil ?_
  refine WP.seq ?_
  refine WP.cond_t (.at rfl) rfl ?_
  refine WP.skip ?_
  refine WP.seq ?_
  refine WP.block ?_
  refine WP.seq (WP.region (l := [0, 1]) rfl ?_)
  refine Run.move rfl rfl rfl (.at rfl) ?_
  refine Run.assign rfl rfl rfl (.at rfl) ?_
  refine Run.nil ?_
  refine WP.seq (WP.region (l := [0]) rfl ?_)
  refine Run.move rfl rfl rfl (.at rfl) ?_
  refine Run.nil ?_
  refine WP.block ?_
  refine WP.loop ?_
  refine LP.trim (fr' := [(0, _), (4, _), (6, _), (7, _), (8, _), (9, _), (14, _), (17, _)]) (H' := [[(_, [_, _, _, _, _, _, _, _, _])], [(_, [_, _, _, _, _, _, _, _, _])], [(_, [_, _, _, _, _, _, _, _, _])], [(_, [_, _, _, _, _, _, _, _, _])], [(_, [_, _, _, _, _, _, _, _, _])]]) ?_ ⟨rfl, rfl, rfl, rfl, rfl, rfl, rfl, rfl, trivial⟩ rfl
  refine LP.round ?_
  refine WP.seq (WP.region (l := [0]) rfl ?_)
  refine Run.int rfl rfl rfl (.at rfl) (.at rfl) rfl ?_
  refine Run.nil ?_
  refine WP.seq ?_
  refine WP.cond_t (.at rfl) rfl ?_
  refine WP.skip ?_
  refine WP.seq ?_
  refine WP.block ?_
  refine WP.seq (WP.region (l := [0, 1]) rfl ?_)
  refine Run.move rfl rfl rfl (.at rfl) ?_
  refine Run.assign rfl rfl rfl (.at rfl) ?_
  refine Run.nil ?_
  refine WP.draw mx_0 ?_
  refine Drawn.calmR ?_
  refine' DrawR.op 0 20 0 [(9, none)] rfl rfl (fun rest => ?_) ?_
  rotate_left
  · skip
    refine Run.move rfl rfl rfl (.at rfl) ?_
    exact single_nil
  refine' DrawR.op 1 21 1 [(10, none)] rfl rfl (fun rest => ?_) ?_
  rotate_left
  · skip
    refine Run.move rfl rfl rfl (.at rfl) ?_
    exact single_nil
  refine' DrawR.op 2 22 2 [(0, none)] rfl rfl (fun rest => ?_) ?_
  rotate_left
  · skip
    refine Run.move rfl rfl rfl (.at rfl) ?_
    exact single_nil
  refine' DrawR.op 3 23 3 [(9, none)] rfl rfl (fun rest => ?_) ?_
  rotate_left
  · skip
    refine Run.move rfl rfl rfl (.at rfl) ?_
    exact single_nil
  refine' DrawR.op 4 24 4 [(4, none), (23, some 0)] rfl rfl (fun rest => ?_) ?_
  rotate_left
  · skip
    refine Run.idx_arr (j := 2) rfl rfl rfl (.at rfl) (.at rfl) ar_44_3_3 (by rfl) (by decide) ?_
    exact single_nil
  refine' DrawR.op 5 25 5 [(24, some 0)] rfl rfl (fun rest => ?_) ?_
  rotate_left
  · skip
    refine Run.loads rfl rfl rfl (.at rfl) (place_adr rfl) ag_30_3 rfl rfl ?_
    exact single_nil
  refine' DrawR.op 6 26 6 [(10, none)] rfl rfl (fun rest => ?_) ?_
  rotate_left
  · skip
    refine Run.move rfl rfl rfl (.at rfl) ?_
    exact single_nil
  refine' DrawR.op 7 27 7 [(8, none), (26, some 0)] rfl rfl (fun rest => ?_) ?_
  rotate_left
  · skip
    refine Run.idx_arr (j := 0) rfl rfl rfl (.at rfl) (.at rfl) ar_44_3_3 (by rfl) (by decide) ?_
    exact single_nil
  refine' DrawR.op 8 28 8 [(27, some 0)] rfl rfl (fun rest => ?_) ?_
  rotate_left
  · skip
    refine Run.loads rfl rfl rfl (.at rfl) (place_adr rfl) ag_30_3 rfl rfl ?_
    exact single_nil
  refine' DrawR.op 9 29 9 [(22, some 6), (25, some 3), (28, some 0)] rfl rfl (fun rest => ?_) ?_
  rotate_left
  · skip
    refine Run.call rfl rfl rfl (.at rfl) (.cons (.at rfl) (.cons (.at rfl) (.cons (.at rfl) .nil))) (c_dot p m.r2 n.tr.r0 hm2 hn0 (by omega) (by omega)) ?_
    exact single_nil
  refine' DrawR.op 10 30 10 [(7, none), (20, some 9)] rfl rfl (fun rest => ?_) ?_
  rotate_left
  · skip
    refine Run.idx_arr (j := 2) rfl rfl rfl (.at rfl) (.at rfl) ar_44_3_3 (by rfl) (by decide) ?_
    exact single_nil
  refine' DrawR.op 11 31 11 [(30, some 0), (21, some 9)] rfl rfl (fun rest => ?_) ?_
  rotate_left
  · skip
    refine Run.idx_arr (j := 0) rfl rfl rfl (.at rfl) (.at rfl) ar_30_3_1 (by rfl) (by decide) ?_
    exact single_nil
  refine DrawR.tail [12] rfl (by kernel_rfl) ?_
  refine Run.store (j := 0) rfl rfl (.at rfl) rfl rfl (.at rfl) sz_2_1 rfl rfl (by first | decide | exact Nat.le_of_ble_eq_true rfl) rfl ?_
  refine Run.nil ?_
  refine WP.region (l := [0, 1]) rfl ?_
  refine Run.add rfl rfl rfl (.at rfl) (.at rfl) (by omega) ?_
  refine Run.move rfl rfl rfl (.at rfl) ?_
  refine Run.nil ?_
  refine LP.trim (fr' := [(0, _), (4, _), (6, _), (7, _), (8, _), (9, _), (14, _), (17, _)]) (H' := [[(_, [_, _, _, _, _, _, _, _, _])], [(_, [_, _, _, _, _, _, _, _, _])], [(_, [_, _, _, _, _, _, _, _, _])], [(_, [_, _, _, _, _, _, _, _, _])], [(_, [_, _, _, _, _, _, _, _, _])]]) ?_ ⟨rfl, rfl, rfl, rfl, rfl, rfl, rfl, rfl, trivial⟩ rfl
  refine LP.round ?_
  refine WP.seq (WP.region (l := [0]) rfl ?_)
  refine Run.int rfl rfl rfl (.at rfl) (.at rfl) rfl ?_
  refine Run.nil ?_
  refine WP.seq ?_
  refine WP.cond_t (.at rfl) rfl ?_
  refine WP.skip ?_
  refine WP.seq ?_
  refine WP.block ?_
  refine WP.seq (WP.region (l := [0, 1]) rfl ?_)
  refine Run.move rfl rfl rfl (.at rfl) ?_
  refine Run.assign rfl rfl rfl (.at rfl) ?_
  refine Run.nil ?_
  refine WP.draw mx_0 ?_
  refine Drawn.calmR ?_
  refine' DrawR.op 0 20 0 [(9, none)] rfl rfl (fun rest => ?_) ?_
  rotate_left
  · skip
    refine Run.move rfl rfl rfl (.at rfl) ?_
    exact single_nil
  refine' DrawR.op 1 21 1 [(10, none)] rfl rfl (fun rest => ?_) ?_
  rotate_left
  · skip
    refine Run.move rfl rfl rfl (.at rfl) ?_
    exact single_nil
  refine' DrawR.op 2 22 2 [(0, none)] rfl rfl (fun rest => ?_) ?_
  rotate_left
  · skip
    refine Run.move rfl rfl rfl (.at rfl) ?_
    exact single_nil
  refine' DrawR.op 3 23 3 [(9, none)] rfl rfl (fun rest => ?_) ?_
  rotate_left
  · skip
    refine Run.move rfl rfl rfl (.at rfl) ?_
    exact single_nil
  refine' DrawR.op 4 24 4 [(4, none), (23, some 0)] rfl rfl (fun rest => ?_) ?_
  rotate_left
  · skip
    refine Run.idx_arr (j := 2) rfl rfl rfl (.at rfl) (.at rfl) ar_44_3_3 (by rfl) (by decide) ?_
    exact single_nil
  refine' DrawR.op 5 25 5 [(24, some 0)] rfl rfl (fun rest => ?_) ?_
  rotate_left
  · skip
    refine Run.loads rfl rfl rfl (.at rfl) (place_adr rfl) ag_30_3 rfl rfl ?_
    exact single_nil
  refine' DrawR.op 6 26 6 [(10, none)] rfl rfl (fun rest => ?_) ?_
  rotate_left
  · skip
    refine Run.move rfl rfl rfl (.at rfl) ?_
    exact single_nil
  refine' DrawR.op 7 27 7 [(8, none), (26, some 0)] rfl rfl (fun rest => ?_) ?_
  rotate_left
  · skip
    refine Run.idx_arr (j := 1) rfl rfl rfl (.at rfl) (.at rfl) ar_44_3_3 (by rfl) (by decide) ?_
    exact single_nil
  refine' DrawR.op 8 28 8 [(27, some 0)] rfl rfl (fun rest => ?_) ?_
  rotate_left
  · skip
    refine Run.loads rfl rfl rfl (.at rfl) (place_adr rfl) ag_30_3 rfl rfl ?_
    exact single_nil
  refine' DrawR.op 9 29 9 [(22, some 6), (25, some 3), (28, some 0)] rfl rfl (fun rest => ?_) ?_
  rotate_left
  · skip
    refine Run.call rfl rfl rfl (.at rfl) (.cons (.at rfl) (.cons (.at rfl) (.cons (.at rfl) .nil))) (c_dot p m.r2 n.tr.r1 hm2 hn1 (by omega) (by omega)) ?_
    exact single_nil
  refine' DrawR.op 10 30 10 [(7, none), (20, some 9)] rfl rfl (fun rest => ?_) ?_
  rotate_left
  · skip
    refine Run.idx_arr (j := 2) rfl rfl rfl (.at rfl) (.at rfl) ar_44_3_3 (by rfl) (by decide) ?_
    exact single_nil
  refine' DrawR.op 11 31 11 [(30, some 0), (21, some 9)] rfl rfl (fun rest => ?_) ?_
  rotate_left
  · skip
    refine Run.idx_arr (j := 1) rfl rfl rfl (.at rfl) (.at rfl) ar_30_3_1 (by rfl) (by decide) ?_
    exact single_nil
  refine DrawR.tail [12] rfl (by kernel_rfl) ?_
  refine Run.store (j := 0) rfl rfl (.at rfl) rfl rfl (.at rfl) sz_2_1 rfl rfl (by first | decide | exact Nat.le_of_ble_eq_true rfl) rfl ?_
  refine Run.nil ?_
  refine WP.region (l := [0, 1]) rfl ?_
  refine Run.add rfl rfl rfl (.at rfl) (.at rfl) (by omega) ?_
  refine Run.move rfl rfl rfl (.at rfl) ?_
  refine Run.nil ?_
  refine LP.trim (fr' := [(0, _), (4, _), (6, _), (7, _), (8, _), (9, _), (14, _), (17, _)]) (H' := [[(_, [_, _, _, _, _, _, _, _, _])], [(_, [_, _, _, _, _, _, _, _, _])], [(_, [_, _, _, _, _, _, _, _, _])], [(_, [_, _, _, _, _, _, _, _, _])], [(_, [_, _, _, _, _, _, _, _, _])]]) ?_ ⟨rfl, rfl, rfl, rfl, rfl, rfl, rfl, rfl, trivial⟩ rfl
  refine LP.round ?_
  refine WP.seq (WP.region (l := [0]) rfl ?_)
  refine Run.int rfl rfl rfl (.at rfl) (.at rfl) rfl ?_
  refine Run.nil ?_
  refine WP.seq ?_
  refine WP.cond_t (.at rfl) rfl ?_
  refine WP.skip ?_
  refine WP.seq ?_
  refine WP.block ?_
  refine WP.seq (WP.region (l := [0, 1]) rfl ?_)
  refine Run.move rfl rfl rfl (.at rfl) ?_
  refine Run.assign rfl rfl rfl (.at rfl) ?_
  refine Run.nil ?_
  refine WP.draw mx_0 ?_
  refine Drawn.calmR ?_
  refine' DrawR.op 0 20 0 [(9, none)] rfl rfl (fun rest => ?_) ?_
  rotate_left
  · skip
    refine Run.move rfl rfl rfl (.at rfl) ?_
    exact single_nil
  refine' DrawR.op 1 21 1 [(10, none)] rfl rfl (fun rest => ?_) ?_
  rotate_left
  · skip
    refine Run.move rfl rfl rfl (.at rfl) ?_
    exact single_nil
  refine' DrawR.op 2 22 2 [(0, none)] rfl rfl (fun rest => ?_) ?_
  rotate_left
  · skip
    refine Run.move rfl rfl rfl (.at rfl) ?_
    exact single_nil
  refine' DrawR.op 3 23 3 [(9, none)] rfl rfl (fun rest => ?_) ?_
  rotate_left
  · skip
    refine Run.move rfl rfl rfl (.at rfl) ?_
    exact single_nil
  refine' DrawR.op 4 24 4 [(4, none), (23, some 0)] rfl rfl (fun rest => ?_) ?_
  rotate_left
  · skip
    refine Run.idx_arr (j := 2) rfl rfl rfl (.at rfl) (.at rfl) ar_44_3_3 (by rfl) (by decide) ?_
    exact single_nil
  refine' DrawR.op 5 25 5 [(24, some 0)] rfl rfl (fun rest => ?_) ?_
  rotate_left
  · skip
    refine Run.loads rfl rfl rfl (.at rfl) (place_adr rfl) ag_30_3 rfl rfl ?_
    exact single_nil
  refine' DrawR.op 6 26 6 [(10, none)] rfl rfl (fun rest => ?_) ?_
  rotate_left
  · skip
    refine Run.move rfl rfl rfl (.at rfl) ?_
    exact single_nil
  refine' DrawR.op 7 27 7 [(8, none), (26, some 0)] rfl rfl (fun rest => ?_) ?_
  rotate_left
  · skip
    refine Run.idx_arr (j := 2) rfl rfl rfl (.at rfl) (.at rfl) ar_44_3_3 (by rfl) (by decide) ?_
    exact single_nil
  refine' DrawR.op 8 28 8 [(27, some 0)] rfl rfl (fun rest => ?_) ?_
  rotate_left
  · skip
    refine Run.loads rfl rfl rfl (.at rfl) (place_adr rfl) ag_30_3 rfl rfl ?_
    exact single_nil
  refine' DrawR.op 9 29 9 [(22, some 6), (25, some 3), (28, some 0)] rfl rfl (fun rest => ?_) ?_
  rotate_left
  · skip
    refine Run.call rfl rfl rfl (.at rfl) (.cons (.at rfl) (.cons (.at rfl) (.cons (.at rfl) .nil))) (c_dot p m.r2 n.tr.r2 hm2 hn2 (by omega) (by omega)) ?_
    exact single_nil
  refine' DrawR.op 10 30 10 [(7, none), (20, some 9)] rfl rfl (fun rest => ?_) ?_
  rotate_left
  · skip
    refine Run.idx_arr (j := 2) rfl rfl rfl (.at rfl) (.at rfl) ar_44_3_3 (by rfl) (by decide) ?_
    exact single_nil
  refine' DrawR.op 11 31 11 [(30, some 0), (21, some 9)] rfl rfl (fun rest => ?_) ?_
  rotate_left
  · skip
    refine Run.idx_arr (j := 2) rfl rfl rfl (.at rfl) (.at rfl) ar_30_3_1 (by rfl) (by decide) ?_
    exact single_nil
  refine DrawR.tail [12] rfl (by kernel_rfl) ?_
  refine Run.store (j := 0) rfl rfl (.at rfl) rfl rfl (.at rfl) sz_2_1 rfl rfl (by first | decide | exact Nat.le_of_ble_eq_true rfl) rfl ?_
  refine Run.nil ?_
  refine WP.region (l := [0, 1]) rfl ?_
  refine Run.add rfl rfl rfl (.at rfl) (.at rfl) (by omega) ?_
  refine Run.move rfl rfl rfl (.at rfl) ?_
  refine Run.nil ?_
  refine LP.trim (fr' := [(0, _), (4, _), (6, _), (7, _), (8, _), (9, _), (14, _), (17, _)]) (H' := [[(_, [_, _, _, _, _, _, _, _, _])], [(_, [_, _, _, _, _, _, _, _, _])], [(_, [_, _, _, _, _, _, _, _, _])], [(_, [_, _, _, _, _, _, _, _, _])], [(_, [_, _, _, _, _, _, _, _, _])]]) ?_ ⟨rfl, rfl, rfl, rfl, rfl, rfl, rfl, rfl, trivial⟩ rfl
  refine LP.round ?_
  refine WP.seq (WP.region (l := [0]) rfl ?_)
  refine Run.int rfl rfl rfl (.at rfl) (.at rfl) rfl ?_
  refine Run.nil ?_
  refine WP.seq ?_
  refine WP.cond_f (.at rfl) rfl ?_
  refine WP.exit ?_
  refine WP.region (l := [0, 1]) rfl ?_
  refine Run.add rfl rfl rfl (.at rfl) (.at rfl) (by omega) ?_
  refine Run.move rfl rfl rfl (.at rfl) ?_
  refine Run.nil ?_
  refine LP.trim (fr' := [(0, _), (4, _), (6, _), (7, _), (8, _), (14, _)]) (H' := [[(_, [_, _, _, _, _, _, _, _, _])], [(_, [_, _, _, _, _, _, _, _, _])], [(_, [_, _, _, _, _, _, _, _, _])], [(_, [_, _, _, _, _, _, _, _, _])], [(_, [_, _, _, _, _, _, _, _, _])]]) ?_ ⟨rfl, rfl, rfl, rfl, rfl, rfl, trivial⟩ rfl
  refine LP.round ?_
  refine WP.seq (WP.region (l := [0]) rfl ?_)
  refine Run.int rfl rfl rfl (.at rfl) (.at rfl) rfl ?_
  refine Run.nil ?_
  refine WP.seq ?_
  refine WP.cond_f (.at rfl) rfl ?_
  refine WP.exit ?_
  refine WP.seq (WP.region (l := [0, 1]) rfl ?_)
  refine Run.loads rfl rfl rfl (.at rfl) (place_adr rfl) ag_44_9 rfl rfl ?_
  refine Run.store (j := 0) rfl rfl (.at rfl) rfl rfl (.at rfl) sz_44_9 rfl rfl (by first | decide | exact Nat.le_of_ble_eq_true rfl) rfl ?_
  refine Run.nil ?_
  refine WP.ret ?_
  exact Ends.pure (.cells rfl (place_adr rfl) ag_44_9 rfl rfl .nil) rfl
theorem c_times (p : Int) (m n : M3) (hp : IsP p) (hm : m.sm) (hn : n.sm) : Pure Try.prog 27 [.int .i64 p, m.av, n.av] (timesM p m n).av := by
  refine Pure.body 3 (n := 13) (fn := Try.f27) (c := Try.f27.body.get!) fn_27 rfl nm_27 rfl rfl fun C => ?_
  refine WP.seq (WP.region (l := [0, 1, 2]) rfl ?_)
  refine Run.box 0 rfl rfl rfl (.at rfl) rfl (fun b4 => ?_)
  refine Run.box 1 rfl rfl rfl (.at rfl) rfl (fun b5 => ?_)
  refine Run.alloc 2 rfl rfl rfl zr_44 (fun b6 => ?_)
  refine Run.nil ?_
  refine WP.seq (WP.region (l := [0, 1, 2, 3, 4, 5, 6]) rfl ?_)
  refine Run.move rfl rfl rfl (.at rfl) ?_
  refine Run.move rfl rfl rfl (.at rfl) ?_
  refine Run.loads rfl rfl rfl (.at rfl) (place_adr rfl) ag_44_9 rfl rfl ?_
  refine Run.loads rfl rfl rfl (.at rfl) (place_adr rfl) ag_44_9 rfl rfl ?_
  refine Run.call rfl rfl rfl (.at rfl) (.cons (.at rfl) (.cons (.at rfl) (.cons (.at rfl) .nil))) (c_product _ _ _ hp hm hn) ?_
  refine Run.call rfl rfl rfl (.at rfl) (.cons (.at rfl) (.cons (.at rfl) .nil)) (c_normalMap _ _ hp) ?_
  refine Run.store (j := 0) rfl rfl (.at rfl) rfl rfl (.at rfl) sz_44_9 rfl rfl (by first | decide | exact Nat.le_of_ble_eq_true rfl) rfl ?_
  refine Run.nil ?_
  refine WP.ret ?_
  exact Ends.pure (.cells rfl (place_adr rfl) ag_44_9 rfl rfl .nil) rfl
end Go.Ab
