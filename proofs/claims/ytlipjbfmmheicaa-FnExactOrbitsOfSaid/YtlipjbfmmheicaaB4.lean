/- The walks of lines through points, points on lines, determinants. -/
import Derived.Test.YtlipjbfmmheicaaB3
namespace Go.Ab
open Go.Proofs

theorem l_l01Norm {C : Cx Try.prog 43} {Q : Post} {p : Int} {l : List Int} {n : Nat} (hp : IsP p) (hl : n ≤ 1000000) (hn : l.length = n)
    (hQ : ∀ b, Q (.exit 0) ⟨[(6, .int .i64 (facOf p l)), (7, .own 0 b 1 0 n n true)], [[(b, ints (norml p l))], []]⟩) :
    ∀ (d k b : Nat) (f : Int) (cs : List AV), k + d = n → f = facTo p l k → cs = ints ((norml p l).take k) → LP C (nav Try.f56.body.get! [1, 1, 0, 1, 0, 0]) Q ⟨[(0, .int .i64 p), (1, .imm (ints l) n), (6, .int .i64 f), (7, .own 0 b 1 0 k k true), (8, .int .i64 k)], [[(b, cs)], []]⟩ := by
  have hb := hp.bd
  intro d
  induction d with
  | zero =>
    intro k b f cs hd hf hc
    have hk : k = n := by omega
    refine LP.round ?_
    refine WP.seq ?_
    refine WP.seq (WP.region (l := [0, 1, 2, 3]) rfl ?_)
    refine Run.move rfl rfl rfl (.at rfl) ?_
    refine Run.move rfl rfl rfl (.at rfl) ?_
    refine Run.len rfl rfl rfl (.at rfl) is_73 rfl ?_
    refine Run.int rfl rfl rfl (.at rfl) (.at rfl) rfl ?_
    refine Run.nil ?_
    refine WP.cond_f (.at rfl) (by simp; omega) ?_
    rw [List.take_of_length_le (by rw [norml_length]; omega)] at hc
    have hf' : f = facOf p l := by rw [hf]; unfold facTo; rw [List.take_of_length_le (by omega)]
    subst hf' hc hk
    exact WP.keep (WP.exit (hQ b)) (by repeat (first | exact trivial | refine ⟨rfl, ?_⟩)) (by repeat (first | exact HSub.nil | refine HSub.keep ?_ | refine HSub.dead ?_))
  | succ d ih =>
    intro k b f cs hd hf hc
    have hk : k < l.length := by omega
    have hfn := facTo_next hp hk
    rw [← hf] at hfn
    have hf0 : 0 ≤ f ∧ f < p := by rw [hf]; exact facOf_rng hp _
    have hf1 : 0 ≤ facTo p l (k + 1) ∧ facTo p l (k + 1) < p := facOf_rng hp _
    have hx1 := Int.emod_nonneg (l.getD k 0) (show p ≠ 0 by omega)
    have hx2 := Int.emod_lt_of_pos (l.getD k 0) (show 0 < p by omega)
    have hm := Sm.mul (show Sm (l.getD k 0 % p) by unfold Sm; omega) (show Sm (facTo p l (k + 1)) by unfold Sm; omega)
    have hm0 : 0 ≤ l.getD k 0 % p * facTo p l (k + 1) := Int.mul_nonneg (by omega) (by omega)
    have hcl : cs.length = k := by rw [hc, ints_length, List.length_take, norml_length]; omega
    have hct : cs.take (k * 1) = cs := List.take_of_length_le (by omega)
    have hvi : inv p (l.getD k 0 % p) = inv p (l.getD k 0) := (invGo_mod p _ 13 1).symm
    refine LP.round ?_
    refine WP.seq ?_
    refine WP.seq (WP.region (l := [0, 1, 2, 3]) rfl ?_)
    refine Run.move rfl rfl rfl (.at rfl) ?_
    refine Run.move rfl rfl rfl (.at rfl) ?_
    refine Run.len rfl rfl rfl (.at rfl) is_73 rfl ?_
    refine Run.int rfl rfl rfl (.at rfl) (.at rfl) rfl ?_
    refine Run.nil ?_
    refine WP.cond_t (.at rfl) (by simp; omega) ?_
    refine WP.skip ?_
    refine WP.seq ?_
    refine WP.block ?_
    refine WP.seq (WP.region (l := [0, 1, 2, 3, 4, 5, 6]) rfl ?_)
    refine Run.move rfl rfl rfl (.at rfl) ?_
    refine Run.move rfl rfl rfl (.at rfl) ?_
    refine Run.move rfl rfl rfl (.at rfl) ?_
    refine Run.idx_imm (j := k) rfl rfl rfl (.at rfl) (.at rfl) sl_73_1 rfl (show k < n by omega) ?_
    refine Run.load rfl rfl rfl (.at rfl) .imm sc_2 (ints_at' hk) ?_
    refine Run.call rfl rfl rfl (.at rfl) (.cons (.at rfl) (.cons (.at rfl) .nil)) (c_l01Mod _ _ (by omega) (by omega)) ?_
    refine Run.assign rfl rfl rfl (.at rfl) ?_
    refine Run.nil ?_
    refine WP.seq ?_
    refine WP.seq (WP.region (l := [0, 1, 2, 3, 4, 5]) rfl ?_)
    refine Run.move rfl rfl rfl (.at rfl) ?_
    refine Run.int rfl rfl rfl (.at rfl) (.at rfl) rfl ?_
    refine Run.move rfl rfl rfl (.at rfl) ?_
    refine' Run.guarded rfl rfl rfl rfl rfl rfl (fun ht => ?_) ?_
    rotate_left
    · skip
      refine Run.move rfl rfl rfl (.at rfl) ?_
      exact single_nil
    refine' Run.guarded rfl rfl rfl rfl rfl rfl (fun ht => ?_) ?_
    rotate_left
    · skip
      refine Run.int rfl rfl rfl (.opt rfl ht) (.at rfl) rfl ?_
      exact single_nil
    refine Run.and rfl rfl rfl (.at rfl) (.at rfl) rfl ?_
    refine Run.nil ?_
    refine WP.cond (.at rfl) (fun hc1 => ?_) (fun hc1 => ?_)
    · have hne : l.getD k 0 % p % p ≠ 0 := by simp only [Bool.and_eq_true] at hc1; rw [Int.emod_eq_of_lt hx1 hx2]; simpa using hc1.2
      rw [if_pos hc1] at hfn
      rw [← hvi] at hfn
      rw [hfn] at hm hm0
      refine WP.region (l := [0, 1, 2, 3]) rfl ?_
      refine Run.move rfl rfl rfl (.at rfl) ?_
      refine Run.move rfl rfl rfl (.at rfl) ?_
      refine Run.call rfl rfl rfl (.at rfl) (.cons (.at rfl) (.cons (.at rfl) .nil)) (c_l01Inverse _ _ hp hne) ?_
      refine Run.assign rfl rfl rfl (.at rfl) ?_
      refine Run.nil ?_
      refine WP.region (l := [0, 1, 2, 3, 4, 5, 6, 7, 8]) rfl ?_
      refine Run.move rfl rfl rfl (.at rfl) ?_
      refine Run.move rfl rfl rfl (.at rfl) ?_
      refine Run.move rfl rfl rfl (.at rfl) ?_
      refine Run.mul rfl rfl rfl (.at rfl) (.at rfl) (by omega) ?_
      refine Run.move rfl rfl rfl (.at rfl) ?_
      refine Run.rem rfl rfl rfl (.at rfl) (.at rfl) (by omega) (by omega) ?_
      refine Run.buildSlice 1 rfl rfl rfl el_73 (by decide) (.cons (.at rfl) rfl .nil) rfl rfl (fun b38 => ?_)
      refine Run.append rfl rfl rfl (.at rfl) rfl el_73 (.at rfl) (.own (At.one rfl) rfl rfl) rfl (by omega) (by omega) (by omega) (by omega) (fun b39 => ?_)
      refine Run.assign rfl rfl rfl (.at rfl) ?_
      refine Run.nil ?_
      refine WP.region (l := [0, 1, 2]) rfl ?_
      refine Run.move rfl rfl rfl (.at rfl) ?_
      refine Run.add rfl rfl rfl (.at rfl) (.at rfl) (by omega) ?_
      refine Run.assign rfl rfl rfl (.at rfl) ?_
      refine Run.nil ?_
      refine LP.keep (ih (k + 1) b39 _ _ (by omega) hfn.symm ?_) (by repeat (first | exact trivial | refine ⟨rfl, ?_⟩)) (by repeat (first | exact HSub.nil | refine HSub.keep ?_ | refine HSub.dead ?_))
      rw [hct, hc, ← norml_take hk, hfn]
      rfl
    · rw [if_neg (by rw [hc1]; decide)] at hfn
      rw [hfn] at hm hm0
      refine WP.skip ?_
      refine WP.region (l := [0, 1, 2, 3, 4, 5, 6, 7, 8]) rfl ?_
      refine Run.move rfl rfl rfl (.at rfl) ?_
      refine Run.move rfl rfl rfl (.at rfl) ?_
      refine Run.move rfl rfl rfl (.at rfl) ?_
      refine Run.mul rfl rfl rfl (.at rfl) (.at rfl) (by omega) ?_
      refine Run.move rfl rfl rfl (.at rfl) ?_
      refine Run.rem rfl rfl rfl (.at rfl) (.at rfl) (by omega) (by omega) ?_
      refine Run.buildSlice 1 rfl rfl rfl el_73 (by decide) (.cons (.at rfl) rfl .nil) rfl rfl (fun b38 => ?_)
      refine Run.append rfl rfl rfl (.at rfl) rfl el_73 (.at rfl) (.own (At.one rfl) rfl rfl) rfl (by omega) (by omega) (by omega) (by omega) (fun b39 => ?_)
      refine Run.assign rfl rfl rfl (.at rfl) ?_
      refine Run.nil ?_
      refine WP.region (l := [0, 1, 2]) rfl ?_
      refine Run.move rfl rfl rfl (.at rfl) ?_
      refine Run.add rfl rfl rfl (.at rfl) (.at rfl) (by omega) ?_
      refine Run.assign rfl rfl rfl (.at rfl) ?_
      refine Run.nil ?_
      refine LP.keep (ih (k + 1) b39 _ _ (by omega) hfn.symm ?_) (by repeat (first | exact trivial | refine ⟨rfl, ?_⟩)) (by repeat (first | exact HSub.nil | refine HSub.keep ?_ | refine HSub.dead ?_))
      rw [hct, hc, ← norml_take hk, hfn]
      rfl
theorem c_l01Norm (id : Nat) (p : Int) (l : List Int) {n : Nat} (hp : IsP p) (hl : n ≤ 1000000) (hn : l.length = n) :
    Acts Try.prog 56 [.int .i64 p, .imm (ints l) n] [] (fun x H => ∃ b, x = .tup [.own id b 1 0 n n true, .bool (facOf p l != 0)] ∧ H = [[(b, ints (norml p l))]]) := by
  refine Acts.body 2 (n := 43) (fn := Try.f56) (c := Try.f56.body.get!) fn_56 rfl nm_56 rfl rfl fun C => ?_
  refine WP.seq (WP.region (l := [0, 1]) rfl ?_)
  refine Run.assign rfl rfl rfl (.at rfl) ?_
  refine Run.assign rfl rfl rfl (.at rfl) ?_
  refine Run.nil ?_
  refine WP.seq (WP.region (l := [0, 1, 2]) rfl ?_)
  refine Run.buildSlice 0 rfl rfl rfl el_73 (by decide) .nil rfl rfl (fun b10 => ?_)
  refine Run.assign rfl rfl rfl (.at rfl) ?_
  refine Run.assign rfl rfl rfl (.at rfl) ?_
  refine Run.nil ?_
  refine WP.seq ?_
  refine WP.seq (WP.region (l := [0]) rfl ?_)
  refine Run.assign rfl rfl rfl (.at rfl) ?_
  refine Run.nil ?_
  refine WP.block ?_
  refine WP.weak 7 rfl (fun _ _ _ h => own_open (id' := 0) (Nat.le_refl _) h) ?_
  refine WP.loop (LP.keep (l_l01Norm (l := l) hp hl hn (fun b => ?_) n 0 b10 0 _ (by omega) rfl rfl) (by repeat (first | exact trivial | refine ⟨rfl, ?_⟩)) (by repeat (first | exact HSub.nil | refine HSub.keep ?_ | refine HSub.dead ?_)))
  refine WP.seq (WP.region (l := [0, 1, 2, 3, 4]) rfl ?_)
  refine Run.move rfl rfl rfl (.at rfl) ?_
  refine Run.weak 40 rfl (fun _ _ _ h => own_name id h) ?_
  refine Run.move rfl rfl rfl (.at rfl) ?_
  refine Run.int rfl rfl rfl (.at rfl) (.at rfl) rfl ?_
  refine Run.assign rfl rfl rfl (.at rfl) ?_
  refine Run.assign rfl rfl rfl (.at rfl) ?_
  refine Run.nil ?_
  refine WP.ret ?_
  exact ⟨_, [[(b, ints (norml p l))]], (.tmp rfl (.tmp rfl .nil)), Moved.pick (is := [0]) rfl, b, rfl, rfl⟩

theorem c_pointOf (p : Int) (v : V3) (hp : IsP p) : Pure Try.prog 68 [.int .i64 p, .int .i64 v.a, .int .i64 v.b, .int .i64 v.c] (nv p v).av := by
  refine Pure.body 2 (n := 18) (fn := Try.f68) (c := Try.f68.body.get!) fn_68 rfl nm_68 rfl rfl fun C => ?_
  refine WP.seq (WP.region (l := [0]) rfl ?_)
  refine Run.alloc 0 rfl rfl rfl zr_33 (fun b8 => ?_)
  refine Run.nil ?_
  refine WP.seq (WP.region (l := [0, 1, 2, 3, 4, 5]) rfl ?_)
  refine Run.move rfl rfl rfl (.at rfl) ?_
  refine Run.move rfl rfl rfl (.at rfl) ?_
  refine Run.move rfl rfl rfl (.at rfl) ?_
  refine Run.build rfl rfl rfl bd_33 (.cons (.at rfl) rfl (.cons (.at rfl) rfl (.cons (.at rfl) rfl .nil))) rfl ?_
  refine Run.alloc 1 rfl rfl rfl zr_33 (fun b9 => ?_)
  refine Run.store (j := 0) rfl rfl (.at rfl) rfl rfl (.at rfl) sz_33_3 rfl rfl (by first | decide | exact Nat.le_of_ble_eq_true rfl) rfl ?_
  refine Run.nil ?_
  refine WP.seq (WP.region (l := [0, 1, 2]) rfl ?_)
  refine Run.move rfl rfl rfl (.at rfl) ?_
  refine Run.slice_arr rfl rfl rfl (.at rfl) rfl (Nat.le_of_ble_eq_true rfl) ar_33_3_1 Bnd.no Bnd.no (by omega) (by omega) (by omega) ?_
  refine Run.acts [1] [1] rfl rfl rfl (.at rfl) (.cons (.at rfl) (.cons (.at rfl) .nil)) (LendL.refl _ _) (c_normal 1 b9 3 false p v.l hp (by decide) rfl) rfl rfl rfl (fun x H h => ?_) (fun x H h => ?_)
  · obtain ⟨rfl, rfl⟩ := h
    exact ⟨rfl, rfl⟩
  obtain ⟨rfl, rfl⟩ := h
  refine Run.nil ?_
  refine WP.seq (WP.region (l := [0, 1]) rfl ?_)
  refine Run.loads rfl rfl rfl (.at rfl) (place_adr rfl) ag_33_3 rfl rfl ?_
  refine Run.store (j := 0) rfl rfl (.at rfl) rfl rfl (.at rfl) sz_33_3 rfl rfl (by first | decide | exact Nat.le_of_ble_eq_true rfl) rfl ?_
  refine Run.nil ?_
  refine WP.ret ?_
  exact Ends.pure (.cells rfl (place_adr rfl) ag_33_3 rfl rfl .nil) rfl
theorem c_determinant (p : Int) (u v w : V3) (hp : IsP p) (hu : u.sm) (hv : v.sm) (hw : w.sm) : Pure Try.prog 83 [.int .i64 p, u.av, v.av, w.av] (.int .i64 (det u v w % p)) := by
  have hb := hp.bd
  have h1 := Sm.mul hv.2.1 hw.2.2
  have h2 := Sm.mul hv.2.2 hw.2.1
  have h3 := Sm.mul hv.1 hw.2.2
  have h4 := Sm.mul hv.2.2 hw.1
  have h5 := Sm.mul hv.1 hw.2.1
  have h6 := Sm.mul hv.2.1 hw.1
  have k1 := Sm.mul3 hu.1 (y := v.b * w.c - v.c * w.b) (by omega)
  have k2 := Sm.mul3 hu.2.1 (y := v.a * w.c - v.c * w.a) (by omega)
  have k3 := Sm.mul3 hu.2.2 (y := v.a * w.b - v.b * w.a) (by omega)
  refine Pure.body 3 (n := 55) (fn := Try.f83) (c := Try.f83.body.get!) fn_83 rfl nm_83 rfl rfl fun C => ?_
  refine WP.seq (WP.region (l := [0, 1, 2, 3]) rfl ?_)
  refine Run.box 0 rfl rfl rfl (.at rfl) rfl (fun b5 => ?_)
  refine Run.box 1 rfl rfl rfl (.at rfl) rfl (fun b6 => ?_)
  refine Run.box 2 rfl rfl rfl (.at rfl) rfl (fun b7 => ?_)
  refine Run.assign rfl rfl rfl (.at rfl) ?_
  refine Run.nil ?_
  refine WP.seq (WP.region (l := [0, 1, 2, 3, 4, 5, 6, 7, 8, 9, 10, 11, 12, 13, 14, 15, 16, 17, 18, 19, 20, 21, 22, 23, 24, 25, 26, 27, 28, 29, 30, 31, 32, 33, 34, 35, 36, 37, 38, 39, 40, 41, 42, 43, 44, 45, 46]) rfl ?_)
  refine Run.idx_arr (j := 0) rfl rfl rfl (.at rfl) (.at rfl) ar_30_3_1 (by rfl) (by decide) ?_
  refine Run.load rfl rfl rfl (.at rfl) (place_adr rfl) sc_2 rfl ?_
  refine Run.idx_arr (j := 1) rfl rfl rfl (.at rfl) (.at rfl) ar_30_3_1 (by rfl) (by decide) ?_
  refine Run.load rfl rfl rfl (.at rfl) (place_adr rfl) sc_2 rfl ?_
  refine Run.idx_arr (j := 2) rfl rfl rfl (.at rfl) (.at rfl) ar_30_3_1 (by rfl) (by decide) ?_
  refine Run.load rfl rfl rfl (.at rfl) (place_adr rfl) sc_2 rfl ?_
  refine Run.mul rfl rfl rfl (.at rfl) (.at rfl) (by omega) ?_
  refine Run.idx_arr (j := 2) rfl rfl rfl (.at rfl) (.at rfl) ar_30_3_1 (by rfl) (by decide) ?_
  refine Run.load rfl rfl rfl (.at rfl) (place_adr rfl) sc_2 rfl ?_
  refine Run.idx_arr (j := 1) rfl rfl rfl (.at rfl) (.at rfl) ar_30_3_1 (by rfl) (by decide) ?_
  refine Run.load rfl rfl rfl (.at rfl) (place_adr rfl) sc_2 rfl ?_
  refine Run.mul rfl rfl rfl (.at rfl) (.at rfl) (by omega) ?_
  refine Run.sub rfl rfl rfl (.at rfl) (.at rfl) (by omega) ?_
  refine Run.mul rfl rfl rfl (.at rfl) (.at rfl) (by omega) ?_
  refine Run.idx_arr (j := 1) rfl rfl rfl (.at rfl) (.at rfl) ar_30_3_1 (by rfl) (by decide) ?_
  refine Run.load rfl rfl rfl (.at rfl) (place_adr rfl) sc_2 rfl ?_
  refine Run.idx_arr (j := 0) rfl rfl rfl (.at rfl) (.at rfl) ar_30_3_1 (by rfl) (by decide) ?_
  refine Run.load rfl rfl rfl (.at rfl) (place_adr rfl) sc_2 rfl ?_
  refine Run.idx_arr (j := 2) rfl rfl rfl (.at rfl) (.at rfl) ar_30_3_1 (by rfl) (by decide) ?_
  refine Run.load rfl rfl rfl (.at rfl) (place_adr rfl) sc_2 rfl ?_
  refine Run.mul rfl rfl rfl (.at rfl) (.at rfl) (by omega) ?_
  refine Run.idx_arr (j := 2) rfl rfl rfl (.at rfl) (.at rfl) ar_30_3_1 (by rfl) (by decide) ?_
  refine Run.load rfl rfl rfl (.at rfl) (place_adr rfl) sc_2 rfl ?_
  refine Run.idx_arr (j := 0) rfl rfl rfl (.at rfl) (.at rfl) ar_30_3_1 (by rfl) (by decide) ?_
  refine Run.load rfl rfl rfl (.at rfl) (place_adr rfl) sc_2 rfl ?_
  refine Run.mul rfl rfl rfl (.at rfl) (.at rfl) (by omega) ?_
  refine Run.sub rfl rfl rfl (.at rfl) (.at rfl) (by omega) ?_
  refine Run.mul rfl rfl rfl (.at rfl) (.at rfl) (by omega) ?_
  refine Run.sub rfl rfl rfl (.at rfl) (.at rfl) (by omega) ?_
  refine Run.idx_arr (j := 2) rfl rfl rfl (.at rfl) (.at rfl) ar_30_3_1 (by rfl) (by decide) ?_
  refine Run.load rfl rfl rfl (.at rfl) (place_adr rfl) sc_2 rfl ?_
  refine Run.idx_arr (j := 0) rfl rfl rfl (.at rfl) (.at rfl) ar_30_3_1 (by rfl) (by decide) ?_
  refine Run.load rfl rfl rfl (.at rfl) (place_adr rfl) sc_2 rfl ?_
  refine Run.idx_arr (j := 1) rfl rfl rfl (.at rfl) (.at rfl) ar_30_3_1 (by rfl) (by decide) ?_
  refine Run.load rfl rfl rfl (.at rfl) (place_adr rfl) sc_2 rfl ?_
  refine Run.mul rfl rfl rfl (.at rfl) (.at rfl) (by omega) ?_
  refine Run.idx_arr (j := 1) rfl rfl rfl (.at rfl) (.at rfl) ar_30_3_1 (by rfl) (by decide) ?_
  refine Run.load rfl rfl rfl (.at rfl) (place_adr rfl) sc_2 rfl ?_
  refine Run.idx_arr (j := 0) rfl rfl rfl (.at rfl) (.at rfl) ar_30_3_1 (by rfl) (by decide) ?_
  refine Run.load rfl rfl rfl (.at rfl) (place_adr rfl) sc_2 rfl ?_
  refine Run.mul rfl rfl rfl (.at rfl) (.at rfl) (by omega) ?_
  refine Run.sub rfl rfl rfl (.at rfl) (.at rfl) (by omega) ?_
  refine Run.mul rfl rfl rfl (.at rfl) (.at rfl) (by omega) ?_
  refine Run.add rfl rfl rfl (.at rfl) (.at rfl) (by omega) ?_
  refine Run.move rfl rfl rfl (.at rfl) ?_
  refine Run.call rfl rfl rfl (.at rfl) (.cons (.at rfl) (.cons (.at rfl) .nil)) (c_mod _ _ (by omega) (by omega)) ?_
  refine Run.assign rfl rfl rfl (.at rfl) ?_
  refine Run.nil ?_
  refine WP.ret ?_
  refine Ends.pure (.tmp rfl .nil) ?_
  show AV.int _ _ = _
  congr 1
  unfold det
  congr 1
  rw [show v.c * w.a - v.a * w.c = -(v.a * w.c - v.c * w.a) by omega, Int.mul_neg]
  omega
theorem c_l01Det (p : Int) (u v w : V3) (hp : IsP p) (hu : u.sm) (hv : v.sm) (hw : w.sm) : Pure Try.prog 81 [.int .i64 p, u.av, v.av, w.av] (.int .i64 (det u v w % p)) := by
  have hb := hp.bd
  have h1 := Sm.mul hv.2.1 hw.2.2
  have h2 := Sm.mul hv.2.2 hw.2.1
  have h3 := Sm.mul hv.1 hw.2.2
  have h4 := Sm.mul hv.2.2 hw.1
  have h5 := Sm.mul hv.1 hw.2.1
  have h6 := Sm.mul hv.2.1 hw.1
  have k1 := Sm.mul3 hu.1 (y := v.b * w.c - v.c * w.b) (by omega)
  have k2 := Sm.mul3 hu.2.1 (y := v.c * w.a - v.a * w.c) (by omega)
  have k3 := Sm.mul3 hu.2.2 (y := v.a * w.b - v.b * w.a) (by omega)
  refine Pure.body 3 (n := 55) (fn := Try.f81) (c := Try.f81.body.get!) fn_81 rfl nm_81 rfl rfl fun C => ?_
  refine WP.seq (WP.region (l := [0, 1, 2, 3]) rfl ?_)
  refine Run.box 0 rfl rfl rfl (.at rfl) rfl (fun b5 => ?_)
  refine Run.box 1 rfl rfl rfl (.at rfl) rfl (fun b6 => ?_)
  refine Run.box 2 rfl rfl rfl (.at rfl) rfl (fun b7 => ?_)
  refine Run.assign rfl rfl rfl (.at rfl) ?_
  refine Run.nil ?_
  refine WP.seq (WP.region (l := [0, 1, 2, 3, 4, 5, 6, 7, 8, 9, 10, 11, 12, 13, 14, 15, 16, 17, 18, 19, 20, 21, 22, 23, 24, 25, 26, 27, 28, 29, 30, 31, 32, 33, 34, 35, 36, 37, 38, 39, 40, 41, 42, 43, 44, 45, 46]) rfl ?_)
  refine Run.move rfl rfl rfl (.at rfl) ?_
  refine Run.idx_arr (j := 0) rfl rfl rfl (.at rfl) (.at rfl) ar_33_3_1 (by rfl) (by decide) ?_
  refine Run.load rfl rfl rfl (.at rfl) (place_adr rfl) sc_2 rfl ?_
  refine Run.idx_arr (j := 1) rfl rfl rfl (.at rfl) (.at rfl) ar_33_3_1 (by rfl) (by decide) ?_
  refine Run.load rfl rfl rfl (.at rfl) (place_adr rfl) sc_2 rfl ?_
  refine Run.idx_arr (j := 2) rfl rfl rfl (.at rfl) (.at rfl) ar_33_3_1 (by rfl) (by decide) ?_
  refine Run.load rfl rfl rfl (.at rfl) (place_adr rfl) sc_2 rfl ?_
  refine Run.mul rfl rfl rfl (.at rfl) (.at rfl) (by omega) ?_
  refine Run.idx_arr (j := 2) rfl rfl rfl (.at rfl) (.at rfl) ar_33_3_1 (by rfl) (by decide) ?_
  refine Run.load rfl rfl rfl (.at rfl) (place_adr rfl) sc_2 rfl ?_
  refine Run.idx_arr (j := 1) rfl rfl rfl (.at rfl) (.at rfl) ar_33_3_1 (by rfl) (by decide) ?_
  refine Run.load rfl rfl rfl (.at rfl) (place_adr rfl) sc_2 rfl ?_
  refine Run.mul rfl rfl rfl (.at rfl) (.at rfl) (by omega) ?_
  refine Run.sub rfl rfl rfl (.at rfl) (.at rfl) (by omega) ?_
  refine Run.mul rfl rfl rfl (.at rfl) (.at rfl) (by omega) ?_
  refine Run.idx_arr (j := 1) rfl rfl rfl (.at rfl) (.at rfl) ar_33_3_1 (by rfl) (by decide) ?_
  refine Run.load rfl rfl rfl (.at rfl) (place_adr rfl) sc_2 rfl ?_
  refine Run.idx_arr (j := 2) rfl rfl rfl (.at rfl) (.at rfl) ar_33_3_1 (by rfl) (by decide) ?_
  refine Run.load rfl rfl rfl (.at rfl) (place_adr rfl) sc_2 rfl ?_
  refine Run.idx_arr (j := 0) rfl rfl rfl (.at rfl) (.at rfl) ar_33_3_1 (by rfl) (by decide) ?_
  refine Run.load rfl rfl rfl (.at rfl) (place_adr rfl) sc_2 rfl ?_
  refine Run.mul rfl rfl rfl (.at rfl) (.at rfl) (by omega) ?_
  refine Run.idx_arr (j := 0) rfl rfl rfl (.at rfl) (.at rfl) ar_33_3_1 (by rfl) (by decide) ?_
  refine Run.load rfl rfl rfl (.at rfl) (place_adr rfl) sc_2 rfl ?_
  refine Run.idx_arr (j := 2) rfl rfl rfl (.at rfl) (.at rfl) ar_33_3_1 (by rfl) (by decide) ?_
  refine Run.load rfl rfl rfl (.at rfl) (place_adr rfl) sc_2 rfl ?_
  refine Run.mul rfl rfl rfl (.at rfl) (.at rfl) (by omega) ?_
  refine Run.sub rfl rfl rfl (.at rfl) (.at rfl) (by omega) ?_
  refine Run.mul rfl rfl rfl (.at rfl) (.at rfl) (by omega) ?_
  refine Run.add rfl rfl rfl (.at rfl) (.at rfl) (by omega) ?_
  refine Run.idx_arr (j := 2) rfl rfl rfl (.at rfl) (.at rfl) ar_33_3_1 (by rfl) (by decide) ?_
  refine Run.load rfl rfl rfl (.at rfl) (place_adr rfl) sc_2 rfl ?_
  refine Run.idx_arr (j := 0) rfl rfl rfl (.at rfl) (.at rfl) ar_33_3_1 (by rfl) (by decide) ?_
  refine Run.load rfl rfl rfl (.at rfl) (place_adr rfl) sc_2 rfl ?_
  refine Run.idx_arr (j := 1) rfl rfl rfl (.at rfl) (.at rfl) ar_33_3_1 (by rfl) (by decide) ?_
  refine Run.load rfl rfl rfl (.at rfl) (place_adr rfl) sc_2 rfl ?_
  refine Run.mul rfl rfl rfl (.at rfl) (.at rfl) (by omega) ?_
  refine Run.idx_arr (j := 1) rfl rfl rfl (.at rfl) (.at rfl) ar_33_3_1 (by rfl) (by decide) ?_
  refine Run.load rfl rfl rfl (.at rfl) (place_adr rfl) sc_2 rfl ?_
  refine Run.idx_arr (j := 0) rfl rfl rfl (.at rfl) (.at rfl) ar_33_3_1 (by rfl) (by decide) ?_
  refine Run.load rfl rfl rfl (.at rfl) (place_adr rfl) sc_2 rfl ?_
  refine Run.mul rfl rfl rfl (.at rfl) (.at rfl) (by omega) ?_
  refine Run.sub rfl rfl rfl (.at rfl) (.at rfl) (by omega) ?_
  refine Run.mul rfl rfl rfl (.at rfl) (.at rfl) (by omega) ?_
  refine Run.add rfl rfl rfl (.at rfl) (.at rfl) (by omega) ?_
  refine Run.call rfl rfl rfl (.at rfl) (.cons (.at rfl) (.cons (.at rfl) .nil)) (c_l01Mod _ _ (by omega) (by omega)) ?_
  refine Run.assign rfl rfl rfl (.at rfl) ?_
  refine Run.nil ?_
  refine WP.ret ?_
  exact Ends.pure (.tmp rfl .nil) rfl
end Go.Ab
