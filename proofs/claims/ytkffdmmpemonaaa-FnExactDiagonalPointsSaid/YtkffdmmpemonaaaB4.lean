/- The walks of lines through points, points on lines, determinants. -/
import Derived.Test.YtkffdmmpemonaaaB3
namespace Go.Ab
open Go.Proofs

theorem l_l01Norm {C : Cx Try.prog 43} {Q : Post} {p : Int} {l : List Int} {n : Nat} (hp : IsP p) (hl : n ≤ 1000000) (hn : l.length = n)
    (hQ : ∀ b, Q (.exit 0) ⟨[(6, .int .i64 (facOf p l)), (7, .own 0 b 1 0 n n true)], [[(b, ints (norml p l))], []]⟩) :
    ∀ (d k b : Nat) (f : Int) (cs : List AV), k + d = n → f = facTo p l k → cs = ints ((norml p l).take k) → LP C (nav Try.f44.body.get! [1, 1, 0, 1, 0, 0]) Q ⟨[(0, .int .i64 p), (1, .imm (ints l) n), (6, .int .i64 f), (7, .own 0 b 1 0 k k true), (8, .int .i64 k)], [[(b, cs)], []]⟩ := by
  have hb := hp.bd
  intro d
  induction d with
  | zero =>
    intro k b f cs hd hf hc
    have hk : k = n := by omega
    refine LP.round ?_
    refine WP.seq ?_
    refine WP.seq (WP.region (l := [0, 1, 2, 3]) rfl ?_)
    refine Run.move rfl rfl rfl (.at rfl) ?_
    refine Run.move rfl rfl rfl (.at rfl) ?_
    refine Run.len rfl rfl rfl (.at rfl) is_59 rfl ?_
    refine Run.int rfl rfl rfl (.at rfl) (.at rfl) rfl ?_
    refine Run.nil ?_
    refine WP.cond_f (.at rfl) (by simp; omega) ?_
    rw [List.take_of_length_le (by rw [norml_length]; omega)] at hc
    have hf' : f = facOf p l := by rw [hf]; unfold facTo; rw [List.take_of_length_le (by omega)]
    subst hf' hc hk
    exact WP.keep (WP.exit (hQ b)) (by repeat (first | exact trivial | refine ⟨rfl, ?_⟩)) (by repeat (first | exact HSub.nil | refine HSub.keep ?_ | refine HSub.dead ?_))
  | succ d ih =>
    intro k b f cs hd hf hc
    have hk : k < l.length := by omega
    have hfn := facTo_next hp hk
    rw [← hf] at hfn
    have hf0 : 0 ≤ f ∧ f < p := by rw [hf]; exact facOf_rng hp _
    have hf1 : 0 ≤ facTo p l (k + 1) ∧ facTo p l (k + 1) < p := facOf_rng hp _
    have hx1 := Int.emod_nonneg (l.getD k 0) (show p ≠ 0 by omega)
    have hx2 := Int.emod_lt_of_pos (l.getD k 0) (show 0 < p by omega)
    have hm := Sm.mul (show Sm (l.getD k 0 % p) by unfold Sm; omega) (show Sm (facTo p l (k + 1)) by unfold Sm; omega)
    have hm0 : 0 ≤ l.getD k 0 % p * facTo p l (k + 1) := Int.mul_nonneg (by omega) (by omega)
    have hcl : cs.length = k := by rw [hc, ints_length, List.length_take, norml_length]; omega
    have hct : cs.take (k * 1) = cs := List.take_of_length_le (by omega)
    have hvi : inv p (l.getD k 0 % p) = inv p (l.getD k 0) := (invGo_mod p _ 13 1).symm
    refine LP.round ?_
    refine WP.seq ?_
    refine WP.seq (WP.region (l := [0, 1, 2, 3]) rfl ?_)
    refine Run.move rfl rfl rfl (.at rfl) ?_
    refine Run.move rfl rfl rfl (.at rfl) ?_
    refine Run.len rfl rfl rfl (.at rfl) is_59 rfl ?_
    refine Run.int rfl rfl rfl (.at rfl) (.at rfl) rfl ?_
    refine Run.nil ?_
    refine WP.cond_t (.at rfl) (by simp; omega) ?_
    refine WP.skip ?_
    refine WP.seq ?_
    refine WP.block ?_
    refine WP.seq (WP.region (l := [0, 1, 2, 3, 4, 5, 6]) rfl ?_)
    refine Run.move rfl rfl rfl (.at rfl) ?_
    refine Run.move rfl rfl rfl (.at rfl) ?_
    refine Run.move rfl rfl rfl (.at rfl) ?_
    refine Run.idx_imm (j := k) rfl rfl rfl (.at rfl) (.at rfl) sl_59_1 rfl (show k < n by omega) ?_
    refine Run.load rfl rfl rfl (.at rfl) .imm sc_2 (ints_at' hk) ?_
    refine Run.call rfl rfl rfl (.at rfl) (.cons (.at rfl) (.cons (.at rfl) .nil)) (c_l01Mod _ _ (by omega) (by omega)) ?_
    refine Run.assign rfl rfl rfl (.at rfl) ?_
    refine Run.nil ?_
    refine WP.seq ?_
    refine WP.seq (WP.region (l := [0, 1, 2, 3, 4, 5]) rfl ?_)
    refine Run.move rfl rfl rfl (.at rfl) ?_
    refine Run.int rfl rfl rfl (.at rfl) (.at rfl) rfl ?_
    refine Run.move rfl rfl rfl (.at rfl) ?_
    refine' Run.guarded rfl rfl rfl rfl rfl rfl (fun ht => ?_) ?_
    rotate_left
    · skip
      refine Run.move rfl rfl rfl (.at rfl) ?_
      exact single_nil
    refine' Run.guarded rfl rfl rfl rfl rfl rfl (fun ht => ?_) ?_
    rotate_left
    · skip
      refine Run.int rfl rfl rfl (.opt rfl ht) (.at rfl) rfl ?_
      exact single_nil
    refine Run.and rfl rfl rfl (.at rfl) (.at rfl) rfl ?_
    refine Run.nil ?_
    refine WP.cond (.at rfl) (fun hc1 => ?_) (fun hc1 => ?_)
    · have hne : l.getD k 0 % p % p ≠ 0 := by simp only [Bool.and_eq_true] at hc1; rw [Int.emod_eq_of_lt hx1 hx2]; simpa using hc1.2
      rw [if_pos hc1] at hfn
      rw [← hvi] at hfn
      rw [hfn] at hm hm0
      refine WP.region (l := [0, 1, 2, 3]) rfl ?_
      refine Run.move rfl rfl rfl (.at rfl) ?_
      refine Run.move rfl rfl rfl (.at rfl) ?_
      refine Run.call rfl rfl rfl (.at rfl) (.cons (.at rfl) (.cons (.at rfl) .nil)) (c_l01Inverse _ _ hp hne) ?_
      refine Run.assign rfl rfl rfl (.at rfl) ?_
      refine Run.nil ?_
      refine WP.region (l := [0, 1, 2, 3, 4, 5, 6, 7, 8]) rfl ?_
      refine Run.move rfl rfl rfl (.at rfl) ?_
      refine Run.move rfl rfl rfl (.at rfl) ?_
      refine Run.move rfl rfl rfl (.at rfl) ?_
      refine Run.mul rfl rfl rfl (.at rfl) (.at rfl) (by omega) ?_
      refine Run.move rfl rfl rfl (.at rfl) ?_
      refine Run.rem rfl rfl rfl (.at rfl) (.at rfl) (by omega) (by omega) ?_
      refine Run.buildSlice 1 rfl rfl rfl el_59 (by decide) (.cons (.at rfl) rfl .nil) rfl rfl (fun b38 => ?_)
      refine Run.append rfl rfl rfl (.at rfl) rfl el_59 (.at rfl) (.own (At.one rfl) rfl rfl) rfl (by omega) (by omega) (by omega) (by omega) (fun b39 => ?_)
      refine Run.assign rfl rfl rfl (.at rfl) ?_
      refine Run.nil ?_
      refine WP.region (l := [0, 1, 2]) rfl ?_
      refine Run.move rfl rfl rfl (.at rfl) ?_
      refine Run.add rfl rfl rfl (.at rfl) (.at rfl) (by omega) ?_
      refine Run.assign rfl rfl rfl (.at rfl) ?_
      refine Run.nil ?_
      refine LP.keep (ih (k + 1) b39 _ _ (by omega) hfn.symm ?_) (by repeat (first | exact trivial | refine ⟨rfl, ?_⟩)) (by repeat (first | exact HSub.nil | refine HSub.keep ?_ | refine HSub.dead ?_))
      rw [hct, hc, ← norml_take hk, hfn]
      rfl
    · rw [if_neg (by rw [hc1]; decide)] at hfn
      rw [hfn] at hm hm0
      refine WP.skip ?_
      refine WP.region (l := [0, 1, 2, 3, 4, 5, 6, 7, 8]) rfl ?_
      refine Run.move rfl rfl rfl (.at rfl) ?_
      refine Run.move rfl rfl rfl (.at rfl) ?_
      refine Run.move rfl rfl rfl (.at rfl) ?_
      refine Run.mul rfl rfl rfl (.at rfl) (.at rfl) (by omega) ?_
      refine Run.move rfl rfl rfl (.at rfl) ?_
      refine Run.rem rfl rfl rfl (.at rfl) (.at rfl) (by omega) (by omega) ?_
      refine Run.buildSlice 1 rfl rfl rfl el_59 (by decide) (.cons (.at rfl) rfl .nil) rfl rfl (fun b38 => ?_)
      refine Run.append rfl rfl rfl (.at rfl) rfl el_59 (.at rfl) (.own (At.one rfl) rfl rfl) rfl (by omega) (by omega) (by omega) (by omega) (fun b39 => ?_)
      refine Run.assign rfl rfl rfl (.at rfl) ?_
      refine Run.nil ?_
      refine WP.region (l := [0, 1, 2]) rfl ?_
      refine Run.move rfl rfl rfl (.at rfl) ?_
      refine Run.add rfl rfl rfl (.at rfl) (.at rfl) (by omega) ?_
      refine Run.assign rfl rfl rfl (.at rfl) ?_
      refine Run.nil ?_
      refine LP.keep (ih (k + 1) b39 _ _ (by omega) hfn.symm ?_) (by repeat (first | exact trivial | refine ⟨rfl, ?_⟩)) (by repeat (first | exact HSub.nil | refine HSub.keep ?_ | refine HSub.dead ?_))
      rw [hct, hc, ← norml_take hk, hfn]
      rfl
theorem c_l01Norm (id : Nat) (p : Int) (l : List Int) {n : Nat} (hp : IsP p) (hl : n ≤ 1000000) (hn : l.length = n) :
    Acts Try.prog 44 [.int .i64 p, .imm (ints l) n] [] (fun x H => ∃ b, x = .tup [.own id b 1 0 n n true, .bool (facOf p l != 0)] ∧ H = [[(b, ints (norml p l))]]) := by
  refine Acts.body 2 (n := 43) (fn := Try.f44) (c := Try.f44.body.get!) fn_44 rfl nm_44 rfl rfl fun C => ?_
  refine WP.seq (WP.region (l := [0, 1]) rfl ?_)
  refine Run.assign rfl rfl rfl (.at rfl) ?_
  refine Run.assign rfl rfl rfl (.at rfl) ?_
  refine Run.nil ?_
  refine WP.seq (WP.region (l := [0, 1, 2]) rfl ?_)
  refine Run.buildSlice 0 rfl rfl rfl el_59 (by decide) .nil rfl rfl (fun b10 => ?_)
  refine Run.assign rfl rfl rfl (.at rfl) ?_
  refine Run.assign rfl rfl rfl (.at rfl) ?_
  refine Run.nil ?_
  refine WP.seq ?_
  refine WP.seq (WP.region (l := [0]) rfl ?_)
  refine Run.assign rfl rfl rfl (.at rfl) ?_
  refine Run.nil ?_
  refine WP.block ?_
  refine WP.weak 7 rfl (fun _ _ _ h => own_open (id' := 0) (Nat.le_refl _) h) ?_
  refine WP.loop (LP.keep (l_l01Norm (l := l) hp hl hn (fun b => ?_) n 0 b10 0 _ (by omega) rfl rfl) (by repeat (first | exact trivial | refine ⟨rfl, ?_⟩)) (by repeat (first | exact HSub.nil | refine HSub.keep ?_ | refine HSub.dead ?_)))
  refine WP.seq (WP.region (l := [0, 1, 2, 3, 4]) rfl ?_)
  refine Run.move rfl rfl rfl (.at rfl) ?_
  refine Run.weak 40 rfl (fun _ _ _ h => own_name id h) ?_
  refine Run.move rfl rfl rfl (.at rfl) ?_
  refine Run.int rfl rfl rfl (.at rfl) (.at rfl) rfl ?_
  refine Run.assign rfl rfl rfl (.at rfl) ?_
  refine Run.assign rfl rfl rfl (.at rfl) ?_
  refine Run.nil ?_
  refine WP.ret ?_
  exact ⟨_, [[(b, ints (norml p l))]], (.tmp rfl (.tmp rfl .nil)), Moved.pick (is := [0]) rfl, b, rfl, rfl⟩

theorem c_pointOf (p : Int) (v : V3) (hp : IsP p) : Pure Try.prog 42 [.int .i64 p, .int .i64 v.a, .int .i64 v.b, .int .i64 v.c] (nv p v).av := by
  refine Pure.body 2 (n := 18) (fn := Try.f42) (c := Try.f42.body.get!) fn_42 rfl nm_42 rfl rfl fun C => ?_
  refine WP.seq (WP.region (l := [0]) rfl ?_)
  refine Run.alloc 0 rfl rfl rfl zr_37 (fun b8 => ?_)
  refine Run.nil ?_
  refine WP.seq (WP.region (l := [0, 1, 2, 3, 4, 5]) rfl ?_)
  refine Run.move rfl rfl rfl (.at rfl) ?_
  refine Run.move rfl rfl rfl (.at rfl) ?_
  refine Run.move rfl rfl rfl (.at rfl) ?_
  refine Run.build rfl rfl rfl bd_37 (.cons (.at rfl) rfl (.cons (.at rfl) rfl (.cons (.at rfl) rfl .nil))) rfl ?_
  refine Run.alloc 1 rfl rfl rfl zr_37 (fun b9 => ?_)
  refine Run.store (j := 0) rfl rfl (.at rfl) rfl rfl (.at rfl) sz_37_3 rfl rfl (by decide) rfl ?_
  refine Run.nil ?_
  refine WP.seq (WP.region (l := [0, 1, 2]) rfl ?_)
  refine Run.move rfl rfl rfl (.at rfl) ?_
  refine Run.slice_arr rfl rfl rfl (.at rfl) rfl (Nat.le_of_ble_eq_true rfl) ar_37_3_1 Bnd.no Bnd.no (by omega) (by omega) (by omega) ?_
  refine Run.acts [1] [1] rfl rfl rfl (.at rfl) (.cons (.at rfl) (.cons (.at rfl) .nil)) (LendL.refl _ _) (c_normal 1 b9 3 false p v.l hp (by decide) rfl) rfl rfl rfl (fun x H h => ?_) (fun x H h => ?_)
  · obtain ⟨rfl, rfl⟩ := h
    exact ⟨rfl, rfl⟩
  obtain ⟨rfl, rfl⟩ := h
  refine Run.nil ?_
  refine WP.seq (WP.region (l := [0, 1]) rfl ?_)
  refine Run.loads rfl rfl rfl (.at rfl) (place_adr rfl) ag_37_3 rfl rfl ?_
  refine Run.store (j := 0) rfl rfl (.at rfl) rfl rfl (.at rfl) sz_37_3 rfl rfl (by decide) rfl ?_
  refine Run.nil ?_
  refine WP.ret ?_
  exact Ends.pure (.cells rfl (place_adr rfl) ag_37_3 rfl rfl .nil) rfl
theorem c_cross (p : Int) (u v : V3) (hp : IsP p) (hu : u.sm) (hv : v.sm) : Pure Try.prog 34 [.int .i64 p, u.av, v.av] (crs p u v).av := by
  have h1 := Sm.mul hu.2.1 hv.2.2
  have h2 := Sm.mul hu.2.2 hv.2.1
  have h3 := Sm.mul hu.2.2 hv.1
  have h4 := Sm.mul hu.1 hv.2.2
  have h5 := Sm.mul hu.1 hv.2.1
  have h6 := Sm.mul hu.2.1 hv.1
  refine Pure.body 3 (n := 42) (fn := Try.f34) (c := Try.f34.body.get!) fn_34 rfl nm_34 rfl rfl fun C => ?_
  refine WP.seq (WP.region (l := [0, 1, 2]) rfl ?_)
  refine Run.box 0 rfl rfl rfl (.at rfl) rfl (fun b4 => ?_)
  refine Run.box 1 rfl rfl rfl (.at rfl) rfl (fun b5 => ?_)
  refine Run.alloc 2 rfl rfl rfl zr_33 (fun b6 => ?_)
  refine Run.nil ?_
  refine WP.seq (WP.region (l := [0, 1, 2, 3, 4, 5, 6, 7, 8, 9, 10, 11, 12, 13, 14, 15, 16, 17, 18, 19, 20, 21, 22, 23, 24, 25, 26, 27, 28, 29, 30, 31, 32, 33, 34, 35]) rfl ?_)
  refine Run.move rfl rfl rfl (.at rfl) ?_
  refine Run.idx_arr (j := 1) rfl rfl rfl (.at rfl) (.at rfl) ar_33_3_1 (by rfl) (by decide) ?_
  refine Run.load rfl rfl rfl (.at rfl) (place_adr rfl) sc_2 rfl ?_
  refine Run.idx_arr (j := 2) rfl rfl rfl (.at rfl) (.at rfl) ar_33_3_1 (by rfl) (by decide) ?_
  refine Run.load rfl rfl rfl (.at rfl) (place_adr rfl) sc_2 rfl ?_
  refine Run.mul rfl rfl rfl (.at rfl) (.at rfl) (by omega) ?_
  refine Run.idx_arr (j := 2) rfl rfl rfl (.at rfl) (.at rfl) ar_33_3_1 (by rfl) (by decide) ?_
  refine Run.load rfl rfl rfl (.at rfl) (place_adr rfl) sc_2 rfl ?_
  refine Run.idx_arr (j := 1) rfl rfl rfl (.at rfl) (.at rfl) ar_33_3_1 (by rfl) (by decide) ?_
  refine Run.load rfl rfl rfl (.at rfl) (place_adr rfl) sc_2 rfl ?_
  refine Run.mul rfl rfl rfl (.at rfl) (.at rfl) (by omega) ?_
  refine Run.sub rfl rfl rfl (.at rfl) (.at rfl) (by omega) ?_
  refine Run.idx_arr (j := 2) rfl rfl rfl (.at rfl) (.at rfl) ar_33_3_1 (by rfl) (by decide) ?_
  refine Run.load rfl rfl rfl (.at rfl) (place_adr rfl) sc_2 rfl ?_
  refine Run.idx_arr (j := 0) rfl rfl rfl (.at rfl) (.at rfl) ar_33_3_1 (by rfl) (by decide) ?_
  refine Run.load rfl rfl rfl (.at rfl) (place_adr rfl) sc_2 rfl ?_
  refine Run.mul rfl rfl rfl (.at rfl) (.at rfl) (by omega) ?_
  refine Run.idx_arr (j := 0) rfl rfl rfl (.at rfl) (.at rfl) ar_33_3_1 (by rfl) (by decide) ?_
  refine Run.load rfl rfl rfl (.at rfl) (place_adr rfl) sc_2 rfl ?_
  refine Run.idx_arr (j := 2) rfl rfl rfl (.at rfl) (.at rfl) ar_33_3_1 (by rfl) (by decide) ?_
  refine Run.load rfl rfl rfl (.at rfl) (place_adr rfl) sc_2 rfl ?_
  refine Run.mul rfl rfl rfl (.at rfl) (.at rfl) (by omega) ?_
  refine Run.sub rfl rfl rfl (.at rfl) (.at rfl) (by omega) ?_
  refine Run.idx_arr (j := 0) rfl rfl rfl (.at rfl) (.at rfl) ar_33_3_1 (by rfl) (by decide) ?_
  refine Run.load rfl rfl rfl (.at rfl) (place_adr rfl) sc_2 rfl ?_
  refine Run.idx_arr (j := 1) rfl rfl rfl (.at rfl) (.at rfl) ar_33_3_1 (by rfl) (by decide) ?_
  refine Run.load rfl rfl rfl (.at rfl) (place_adr rfl) sc_2 rfl ?_
  refine Run.mul rfl rfl rfl (.at rfl) (.at rfl) (by omega) ?_
  refine Run.idx_arr (j := 1) rfl rfl rfl (.at rfl) (.at rfl) ar_33_3_1 (by rfl) (by decide) ?_
  refine Run.load rfl rfl rfl (.at rfl) (place_adr rfl) sc_2 rfl ?_
  refine Run.idx_arr (j := 0) rfl rfl rfl (.at rfl) (.at rfl) ar_33_3_1 (by rfl) (by decide) ?_
  refine Run.load rfl rfl rfl (.at rfl) (place_adr rfl) sc_2 rfl ?_
  refine Run.mul rfl rfl rfl (.at rfl) (.at rfl) (by omega) ?_
  refine Run.sub rfl rfl rfl (.at rfl) (.at rfl) (by omega) ?_
  refine Run.call rfl rfl rfl (.at rfl) (.cons (.at rfl) (.cons (.at rfl) (.cons (.at rfl) (.cons (.at rfl) .nil)))) (c_pointOf p (u.x v) hp) ?_
  refine Run.store (j := 0) rfl rfl (.at rfl) rfl rfl (.at rfl) sz_33_3 rfl rfl (by decide) rfl ?_
  refine Run.nil ?_
  refine WP.ret ?_
  exact Ends.pure (.cells rfl (place_adr rfl) ag_33_3 rfl rfl .nil) rfl
theorem c_join (p : Int) (u v : V3) (hp : IsP p) (hu : u.sm) (hv : v.sm) : Pure Try.prog 22 [.int .i64 p, u.av, v.av] (crs p u v).av := by
  refine Pure.body 3 (n := 11) (fn := Try.f22) (c := Try.f22.body.get!) fn_22 rfl nm_22 rfl rfl fun C => ?_
  refine WP.seq (WP.region (l := [0, 1, 2]) rfl ?_)
  refine Run.box 0 rfl rfl rfl (.at rfl) rfl (fun b4 => ?_)
  refine Run.box 1 rfl rfl rfl (.at rfl) rfl (fun b5 => ?_)
  refine Run.alloc 2 rfl rfl rfl zr_34 (fun b6 => ?_)
  refine Run.nil ?_
  refine WP.seq (WP.region (l := [0, 1, 2, 3, 4]) rfl ?_)
  refine Run.move rfl rfl rfl (.at rfl) ?_
  refine Run.loads rfl rfl rfl (.at rfl) (place_adr rfl) ag_37_3 rfl rfl ?_
  refine Run.loads rfl rfl rfl (.at rfl) (place_adr rfl) ag_37_3 rfl rfl ?_
  refine Run.call rfl rfl rfl (.at rfl) (.cons (.at rfl) (.cons (.at rfl) (.cons (.at rfl) .nil))) (c_cross _ _ _ hp hu hv) ?_
  refine Run.store (j := 0) rfl rfl (.at rfl) rfl rfl (.at rfl) sz_34_3 rfl rfl (by decide) rfl ?_
  refine Run.nil ?_
  refine WP.ret ?_
  exact Ends.pure (.cells rfl (place_adr rfl) ag_34_3 rfl rfl .nil) rfl
theorem c_meet (p : Int) (u v : V3) (hp : IsP p) (hu : u.sm) (hv : v.sm) : Pure Try.prog 21 [.int .i64 p, u.av, v.av] (crs p u v).av := by
  refine Pure.body 3 (n := 11) (fn := Try.f21) (c := Try.f21.body.get!) fn_21 rfl nm_21 rfl rfl fun C => ?_
  refine WP.seq (WP.region (l := [0, 1, 2]) rfl ?_)
  refine Run.box 0 rfl rfl rfl (.at rfl) rfl (fun b4 => ?_)
  refine Run.box 1 rfl rfl rfl (.at rfl) rfl (fun b5 => ?_)
  refine Run.alloc 2 rfl rfl rfl zr_37 (fun b6 => ?_)
  refine Run.nil ?_
  refine WP.seq (WP.region (l := [0, 1, 2, 3, 4]) rfl ?_)
  refine Run.move rfl rfl rfl (.at rfl) ?_
  refine Run.loads rfl rfl rfl (.at rfl) (place_adr rfl) ag_34_3 rfl rfl ?_
  refine Run.loads rfl rfl rfl (.at rfl) (place_adr rfl) ag_34_3 rfl rfl ?_
  refine Run.call rfl rfl rfl (.at rfl) (.cons (.at rfl) (.cons (.at rfl) (.cons (.at rfl) .nil))) (c_cross _ _ _ hp hu hv) ?_
  refine Run.store (j := 0) rfl rfl (.at rfl) rfl rfl (.at rfl) sz_37_3 rfl rfl (by decide) rfl ?_
  refine Run.nil ?_
  refine WP.ret ?_
  exact Ends.pure (.cells rfl (place_adr rfl) ag_37_3 rfl rfl .nil) rfl
theorem c_determinant (p : Int) (u v w : V3) (hp : IsP p) (hu : u.sm) (hv : v.sm) (hw : w.sm) : Pure Try.prog 41 [.int .i64 p, u.av, v.av, w.av] (.int .i64 (det u v w % p)) := by
  have hb := hp.bd
  have h1 := Sm.mul hv.2.1 hw.2.2
  have h2 := Sm.mul hv.2.2 hw.2.1
  have h3 := Sm.mul hv.1 hw.2.2
  have h4 := Sm.mul hv.2.2 hw.1
  have h5 := Sm.mul hv.1 hw.2.1
  have h6 := Sm.mul hv.2.1 hw.1
  have k1 := Sm.mul3 hu.1 (y := v.b * w.c - v.c * w.b) (by omega)
  have k2 := Sm.mul3 hu.2.1 (y := v.a * w.c - v.c * w.a) (by omega)
  have k3 := Sm.mul3 hu.2.2 (y := v.a * w.b - v.b * w.a) (by omega)
  refine Pure.body 3 (n := 55) (fn := Try.f41) (c := Try.f41.body.get!) fn_41 rfl nm_41 rfl rfl fun C => ?_
  refine WP.seq (WP.region (l := [0, 1, 2, 3]) rfl ?_)
  refine Run.box 0 rfl rfl rfl (.at rfl) rfl (fun b5 => ?_)
  refine Run.box 1 rfl rfl rfl (.at rfl) rfl (fun b6 => ?_)
  refine Run.box 2 rfl rfl rfl (.at rfl) rfl (fun b7 => ?_)
  refine Run.assign rfl rfl rfl (.at rfl) ?_
  refine Run.nil ?_
  refine WP.seq (WP.region (l := [0, 1, 2, 3, 4, 5, 6, 7, 8, 9, 10, 11, 12, 13, 14, 15, 16, 17, 18, 19, 20, 21, 22, 23, 24, 25, 26, 27, 28, 29, 30, 31, 32, 33, 34, 35, 36, 37, 38, 39, 40, 41, 42, 43, 44, 45, 46]) rfl ?_)
  refine Run.idx_arr (j := 0) rfl rfl rfl (.at rfl) (.at rfl) ar_33_3_1 (by rfl) (by decide) ?_
  refine Run.load rfl rfl rfl (.at rfl) (place_adr rfl) sc_2 rfl ?_
  refine Run.idx_arr (j := 1) rfl rfl rfl (.at rfl) (.at rfl) ar_33_3_1 (by rfl) (by decide) ?_
  refine Run.load rfl rfl rfl (.at rfl) (place_adr rfl) sc_2 rfl ?_
  refine Run.idx_arr (j := 2) rfl rfl rfl (.at rfl) (.at rfl) ar_33_3_1 (by rfl) (by decide) ?_
  refine Run.load rfl rfl rfl (.at rfl) (place_adr rfl) sc_2 rfl ?_
  refine Run.mul rfl rfl rfl (.at rfl) (.at rfl) (by omega) ?_
  refine Run.idx_arr (j := 2) rfl rfl rfl (.at rfl) (.at rfl) ar_33_3_1 (by rfl) (by decide) ?_
  refine Run.load rfl rfl rfl (.at rfl) (place_adr rfl) sc_2 rfl ?_
  refine Run.idx_arr (j := 1) rfl rfl rfl (.at rfl) (.at rfl) ar_33_3_1 (by rfl) (by decide) ?_
  refine Run.load rfl rfl rfl (.at rfl) (place_adr rfl) sc_2 rfl ?_
  refine Run.mul rfl rfl rfl (.at rfl) (.at rfl) (by omega) ?_
  refine Run.sub rfl rfl rfl (.at rfl) (.at rfl) (by omega) ?_
  refine Run.mul rfl rfl rfl (.at rfl) (.at rfl) (by omega) ?_
  refine Run.idx_arr (j := 1) rfl rfl rfl (.at rfl) (.at rfl) ar_33_3_1 (by rfl) (by decide) ?_
  refine Run.load rfl rfl rfl (.at rfl) (place_adr rfl) sc_2 rfl ?_
  refine Run.idx_arr (j := 0) rfl rfl rfl (.at rfl) (.at rfl) ar_33_3_1 (by rfl) (by decide) ?_
  refine Run.load rfl rfl rfl (.at rfl) (place_adr rfl) sc_2 rfl ?_
  refine Run.idx_arr (j := 2) rfl rfl rfl (.at rfl) (.at rfl) ar_33_3_1 (by rfl) (by decide) ?_
  refine Run.load rfl rfl rfl (.at rfl) (place_adr rfl) sc_2 rfl ?_
  refine Run.mul rfl rfl rfl (.at rfl) (.at rfl) (by omega) ?_
  refine Run.idx_arr (j := 2) rfl rfl rfl (.at rfl) (.at rfl) ar_33_3_1 (by rfl) (by decide) ?_
  refine Run.load rfl rfl rfl (.at rfl) (place_adr rfl) sc_2 rfl ?_
  refine Run.idx_arr (j := 0) rfl rfl rfl (.at rfl) (.at rfl) ar_33_3_1 (by rfl) (by decide) ?_
  refine Run.load rfl rfl rfl (.at rfl) (place_adr rfl) sc_2 rfl ?_
  refine Run.mul rfl rfl rfl (.at rfl) (.at rfl) (by omega) ?_
  refine Run.sub rfl rfl rfl (.at rfl) (.at rfl) (by omega) ?_
  refine Run.mul rfl rfl rfl (.at rfl) (.at rfl) (by omega) ?_
  refine Run.sub rfl rfl rfl (.at rfl) (.at rfl) (by omega) ?_
  refine Run.idx_arr (j := 2) rfl rfl rfl (.at rfl) (.at rfl) ar_33_3_1 (by rfl) (by decide) ?_
  refine Run.load rfl rfl rfl (.at rfl) (place_adr rfl) sc_2 rfl ?_
  refine Run.idx_arr (j := 0) rfl rfl rfl (.at rfl) (.at rfl) ar_33_3_1 (by rfl) (by decide) ?_
  refine Run.load rfl rfl rfl (.at rfl) (place_adr rfl) sc_2 rfl ?_
  refine Run.idx_arr (j := 1) rfl rfl rfl (.at rfl) (.at rfl) ar_33_3_1 (by rfl) (by decide) ?_
  refine Run.load rfl rfl rfl (.at rfl) (place_adr rfl) sc_2 rfl ?_
  refine Run.mul rfl rfl rfl (.at rfl) (.at rfl) (by omega) ?_
  refine Run.idx_arr (j := 1) rfl rfl rfl (.at rfl) (.at rfl) ar_33_3_1 (by rfl) (by decide) ?_
  refine Run.load rfl rfl rfl (.at rfl) (place_adr rfl) sc_2 rfl ?_
  refine Run.idx_arr (j := 0) rfl rfl rfl (.at rfl) (.at rfl) ar_33_3_1 (by rfl) (by decide) ?_
  refine Run.load rfl rfl rfl (.at rfl) (place_adr rfl) sc_2 rfl ?_
  refine Run.mul rfl rfl rfl (.at rfl) (.at rfl) (by omega) ?_
  refine Run.sub rfl rfl rfl (.at rfl) (.at rfl) (by omega) ?_
  refine Run.mul rfl rfl rfl (.at rfl) (.at rfl) (by omega) ?_
  refine Run.add rfl rfl rfl (.at rfl) (.at rfl) (by omega) ?_
  refine Run.move rfl rfl rfl (.at rfl) ?_
  refine Run.call rfl rfl rfl (.at rfl) (.cons (.at rfl) (.cons (.at rfl) .nil)) (c_mod _ _ (by omega) (by omega)) ?_
  refine Run.assign rfl rfl rfl (.at rfl) ?_
  refine Run.nil ?_
  refine WP.ret ?_
  refine Ends.pure (.tmp rfl .nil) ?_
  show AV.int _ _ = _
  congr 1
  unfold det
  congr 1
  rw [show v.c * w.a - v.a * w.c = -(v.a * w.c - v.c * w.a) by omega, Int.mul_neg]
  omega
theorem c_l01Det (p : Int) (u v w : V3) (hp : IsP p) (hu : u.sm) (hv : v.sm) (hw : w.sm) : Pure Try.prog 26 [.int .i64 p, u.av, v.av, w.av] (.int .i64 (det u v w % p)) := by
  have hb := hp.bd
  have h1 := Sm.mul hv.2.1 hw.2.2
  have h2 := Sm.mul hv.2.2 hw.2.1
  have h3 := Sm.mul hv.1 hw.2.2
  have h4 := Sm.mul hv.2.2 hw.1
  have h5 := Sm.mul hv.1 hw.2.1
  have h6 := Sm.mul hv.2.1 hw.1
  have k1 := Sm.mul3 hu.1 (y := v.b * w.c - v.c * w.b) (by omega)
  have k2 := Sm.mul3 hu.2.1 (y := v.c * w.a - v.a * w.c) (by omega)
  have k3 := Sm.mul3 hu.2.2 (y := v.a * w.b - v.b * w.a) (by omega)
  refine Pure.body 3 (n := 55) (fn := Try.f26) (c := Try.f26.body.get!) fn_26 rfl nm_26 rfl rfl fun C => ?_
  refine WP.seq (WP.region (l := [0, 1, 2, 3]) rfl ?_)
  refine Run.box 0 rfl rfl rfl (.at rfl) rfl (fun b5 => ?_)
  refine Run.box 1 rfl rfl rfl (.at rfl) rfl (fun b6 => ?_)
  refine Run.box 2 rfl rfl rfl (.at rfl) rfl (fun b7 => ?_)
  refine Run.assign rfl rfl rfl (.at rfl) ?_
  refine Run.nil ?_
  refine WP.seq (WP.region (l := [0, 1, 2, 3, 4, 5, 6, 7, 8, 9, 10, 11, 12, 13, 14, 15, 16, 17, 18, 19, 20, 21, 22, 23, 24, 25, 26, 27, 28, 29, 30, 31, 32, 33, 34, 35, 36, 37, 38, 39, 40, 41, 42, 43, 44, 45, 46]) rfl ?_)
  refine Run.move rfl rfl rfl (.at rfl) ?_
  refine Run.idx_arr (j := 0) rfl rfl rfl (.at rfl) (.at rfl) ar_37_3_1 (by rfl) (by decide) ?_
  refine Run.load rfl rfl rfl (.at rfl) (place_adr rfl) sc_2 rfl ?_
  refine Run.idx_arr (j := 1) rfl rfl rfl (.at rfl) (.at rfl) ar_37_3_1 (by rfl) (by decide) ?_
  refine Run.load rfl rfl rfl (.at rfl) (place_adr rfl) sc_2 rfl ?_
  refine Run.idx_arr (j := 2) rfl rfl rfl (.at rfl) (.at rfl) ar_37_3_1 (by rfl) (by decide) ?_
  refine Run.load rfl rfl rfl (.at rfl) (place_adr rfl) sc_2 rfl ?_
  refine Run.mul rfl rfl rfl (.at rfl) (.at rfl) (by omega) ?_
  refine Run.idx_arr (j := 2) rfl rfl rfl (.at rfl) (.at rfl) ar_37_3_1 (by rfl) (by decide) ?_
  refine Run.load rfl rfl rfl (.at rfl) (place_adr rfl) sc_2 rfl ?_
  refine Run.idx_arr (j := 1) rfl rfl rfl (.at rfl) (.at rfl) ar_37_3_1 (by rfl) (by decide) ?_
  refine Run.load rfl rfl rfl (.at rfl) (place_adr rfl) sc_2 rfl ?_
  refine Run.mul rfl rfl rfl (.at rfl) (.at rfl) (by omega) ?_
  refine Run.sub rfl rfl rfl (.at rfl) (.at rfl) (by omega) ?_
  refine Run.mul rfl rfl rfl (.at rfl) (.at rfl) (by omega) ?_
  refine Run.idx_arr (j := 1) rfl rfl rfl (.at rfl) (.at rfl) ar_37_3_1 (by rfl) (by decide) ?_
  refine Run.load rfl rfl rfl (.at rfl) (place_adr rfl) sc_2 rfl ?_
  refine Run.idx_arr (j := 2) rfl rfl rfl (.at rfl) (.at rfl) ar_37_3_1 (by rfl) (by decide) ?_
  refine Run.load rfl rfl rfl (.at rfl) (place_adr rfl) sc_2 rfl ?_
  refine Run.idx_arr (j := 0) rfl rfl rfl (.at rfl) (.at rfl) ar_37_3_1 (by rfl) (by decide) ?_
  refine Run.load rfl rfl rfl (.at rfl) (place_adr rfl) sc_2 rfl ?_
  refine Run.mul rfl rfl rfl (.at rfl) (.at rfl) (by omega) ?_
  refine Run.idx_arr (j := 0) rfl rfl rfl (.at rfl) (.at rfl) ar_37_3_1 (by rfl) (by decide) ?_
  refine Run.load rfl rfl rfl (.at rfl) (place_adr rfl) sc_2 rfl ?_
  refine Run.idx_arr (j := 2) rfl rfl rfl (.at rfl) (.at rfl) ar_37_3_1 (by rfl) (by decide) ?_
  refine Run.load rfl rfl rfl (.at rfl) (place_adr rfl) sc_2 rfl ?_
  refine Run.mul rfl rfl rfl (.at rfl) (.at rfl) (by omega) ?_
  refine Run.sub rfl rfl rfl (.at rfl) (.at rfl) (by omega) ?_
  refine Run.mul rfl rfl rfl (.at rfl) (.at rfl) (by omega) ?_
  refine Run.add rfl rfl rfl (.at rfl) (.at rfl) (by omega) ?_
  refine Run.idx_arr (j := 2) rfl rfl rfl (.at rfl) (.at rfl) ar_37_3_1 (by rfl) (by decide) ?_
  refine Run.load rfl rfl rfl (.at rfl) (place_adr rfl) sc_2 rfl ?_
  refine Run.idx_arr (j := 0) rfl rfl rfl (.at rfl) (.at rfl) ar_37_3_1 (by rfl) (by decide) ?_
  refine Run.load rfl rfl rfl (.at rfl) (place_adr rfl) sc_2 rfl ?_
  refine Run.idx_arr (j := 1) rfl rfl rfl (.at rfl) (.at rfl) ar_37_3_1 (by rfl) (by decide) ?_
  refine Run.load rfl rfl rfl (.at rfl) (place_adr rfl) sc_2 rfl ?_
  refine Run.mul rfl rfl rfl (.at rfl) (.at rfl) (by omega) ?_
  refine Run.idx_arr (j := 1) rfl rfl rfl (.at rfl) (.at rfl) ar_37_3_1 (by rfl) (by decide) ?_
  refine Run.load rfl rfl rfl (.at rfl) (place_adr rfl) sc_2 rfl ?_
  refine Run.idx_arr (j := 0) rfl rfl rfl (.at rfl) (.at rfl) ar_37_3_1 (by rfl) (by decide) ?_
  refine Run.load rfl rfl rfl (.at rfl) (place_adr rfl) sc_2 rfl ?_
  refine Run.mul rfl rfl rfl (.at rfl) (.at rfl) (by omega) ?_
  refine Run.sub rfl rfl rfl (.at rfl) (.at rfl) (by omega) ?_
  refine Run.mul rfl rfl rfl (.at rfl) (.at rfl) (by omega) ?_
  refine Run.add rfl rfl rfl (.at rfl) (.at rfl) (by omega) ?_
  refine Run.call rfl rfl rfl (.at rfl) (.cons (.at rfl) (.cons (.at rfl) .nil)) (c_l01Mod _ _ (by omega) (by omega)) ?_
  refine Run.assign rfl rfl rfl (.at rfl) ?_
  refine Run.nil ?_
  refine WP.ret ?_
  exact Ends.pure (.tmp rfl .nil) rfl
theorem c_l01Made (p : Int) (v : V3) (hp : IsP p) : Pure Try.prog 38 [.int .i64 p, .int .i64 v.a, .int .i64 v.b, .int .i64 v.c] (.tup [(nv p v).av, .bool (has p v)]) := by
  refine Pure.body 3 (n := 34) (fn := Try.f38) (c := Try.f38.body.get!) fn_38 rfl nm_38 rfl rfl fun C => ?_
  refine WP.seq (WP.region (l := [0, 1]) rfl ?_)
  refine Run.alloc 0 rfl rfl rfl zr_37 (fun b8 => ?_)
  refine Run.assign rfl rfl rfl (.at rfl) ?_
  refine Run.nil ?_
  refine WP.seq (WP.region (l := [0, 1, 2, 3, 4, 5, 6, 7, 8, 9, 10]) rfl ?_)
  refine Run.move rfl rfl rfl (.at rfl) ?_
  refine Run.move rfl rfl rfl (.at rfl) ?_
  refine Run.move rfl rfl rfl (.at rfl) ?_
  refine Run.move rfl rfl rfl (.at rfl) ?_
  refine Run.buildSlice 1 rfl rfl rfl el_59 (by decide) (.cons (.at rfl) rfl (.cons (.at rfl) rfl (.cons (.at rfl) rfl .nil))) rfl rfl (fun b17 => ?_)
  refine Run.acts [] [2] rfl rfl rfl (.at rfl) (.cons (.at rfl) (.cons (.at rfl) .nil)) (.cons .refl (.cons (Lend.one rfl (Nat.le_refl _) (by rfl)) .nil)) (c_l01Norm 2 p v.l (n := 3) hp (by decide) rfl) rfl rfl rfl (fun x H h => ?_) (fun x H h => ?_)
  · obtain ⟨b, rfl, rfl⟩ := h
    refine ⟨rfl, rfl⟩
  obtain ⟨b2, rfl, rfl⟩ := h
  refine Run.move rfl rfl rfl (.at rfl) ?_
  refine Run.extract rfl rfl rfl (.at rfl) rfl ?_
  refine Run.extract rfl rfl rfl (.at rfl) rfl ?_
  refine Run.assign rfl rfl rfl (.at rfl) ?_
  refine Run.assign rfl rfl rfl (.at rfl) ?_
  refine Run.nil ?_
  refine WP.seq ?_
  refine WP.seq (WP.region (l := [0, 1]) rfl ?_)
  refine Run.move rfl rfl rfl (.at rfl) ?_
  refine Run.not rfl rfl rfl (.at rfl) ?_
  refine Run.nil ?_
  refine WP.cond (.at rfl) (fun hc0 => ?_) (fun hc0 => ?_)
  · have h0 : facOf p v.l = 0 := by simpa using hc0
    refine WP.seq (WP.region (l := [0, 1, 2]) rfl ?_)
    refine Run.build rfl rfl rfl bd_37 .nil rfl ?_
    refine Run.store (j := 0) rfl rfl (.at rfl) rfl rfl (.at rfl) sz_37_3 rfl rfl (by decide) rfl ?_
    refine Run.assign rfl rfl rfl (.at rfl) ?_
    refine Run.nil ?_
    refine WP.ret ?_
    refine Ends.pure (.cells rfl (place_adr rfl) ag_37_3 rfl rfl (.tmp rfl .nil)) ?_
    show AV.tup [.agg [.int .i64 0, .int .i64 0, .int .i64 0], .bool false] = _
    unfold nv has V3.av V3.cs
    rw [h0]
    simp
  · have h0 : facOf p v.l ≠ 0 := by simpa using hc0
    refine WP.skip ?_
    refine WP.seq (WP.draw mx_0 ?_)
    refine Drawn.calmR ?_
    refine' DrawR.op 0 24 0 [(10, none)] rfl rfl (fun rest => ?_) ?_
    rotate_left
    · skip
      refine Run.move rfl rfl rfl (.at rfl) ?_
      exact single_nil
    refine' DrawR.op 1 25 1 [(24, some 0)] rfl rfl (fun rest => ?_) ?_
    rotate_left
    · skip
      refine Run.idx (j := 0) rfl rfl rfl (.at rfl) (.at rfl) sl_59_1 (by rfl) (by omega) ?_
      exact single_nil
    refine' DrawR.op 2 26 2 [(25, some 0)] rfl rfl (fun rest => ?_) ?_
    rotate_left
    · skip
      refine Run.load rfl rfl rfl (.at rfl) (place_adr rfl) sc_2 rfl ?_
      exact single_nil
    refine' DrawR.op 3 27 3 [(10, none)] rfl rfl (fun rest => ?_) ?_
    rotate_left
    · skip
      refine Run.move rfl rfl rfl (.at rfl) ?_
      exact single_nil
    refine' DrawR.op 4 28 4 [(27, some 0)] rfl rfl (fun rest => ?_) ?_
    rotate_left
    · skip
      refine Run.idx (j := 1) rfl rfl rfl (.at rfl) (.at rfl) sl_59_1 (by rfl) (by omega) ?_
      exact single_nil
    refine' DrawR.op 5 29 5 [(28, some 0)] rfl rfl (fun rest => ?_) ?_
    rotate_left
    · skip
      refine Run.load rfl rfl rfl (.at rfl) (place_adr rfl) sc_2 rfl ?_
      exact single_nil
    refine' DrawR.op 6 30 6 [(10, none)] rfl rfl (fun rest => ?_) ?_
    rotate_left
    · skip
      refine Run.move rfl rfl rfl (.at rfl) ?_
      exact single_nil
    refine' DrawR.op 7 31 7 [(30, some 0)] rfl rfl (fun rest => ?_) ?_
    rotate_left
    · skip
      refine Run.idx (j := 2) rfl rfl rfl (.at rfl) (.at rfl) sl_59_1 (by rfl) (by omega) ?_
      exact single_nil
    refine' DrawR.op 8 32 8 [(31, some 0)] rfl rfl (fun rest => ?_) ?_
    rotate_left
    · skip
      refine Run.load rfl rfl rfl (.at rfl) (place_adr rfl) sc_2 rfl ?_
      exact single_nil
    refine' DrawR.op 9 33 9 [(26, some 6), (29, some 3), (32, some 0)] rfl rfl (fun rest => ?_) ?_
    rotate_left
    · skip
      refine Run.build rfl rfl rfl bd_37 (.cons (.at rfl) rfl (.cons (.at rfl) rfl (.cons (.at rfl) rfl .nil))) rfl ?_
      exact single_nil
    refine DrawR.tail [10, 11] rfl (by kernel_rfl) ?_
    refine Run.store (j := 0) rfl rfl (.at rfl) rfl rfl (.at rfl) sz_37_3 rfl rfl (by decide) rfl ?_
    refine Run.assign rfl rfl rfl (.at rfl) ?_
    refine Run.nil ?_
    refine WP.ret ?_
    refine Ends.pure (.cells rfl (place_adr rfl) ag_37_3 rfl rfl (.tmp rfl .nil)) ?_
    show AV.tup [(nv p v).av, .bool true] = _
    unfold has
    rw [show (facOf p v.l != 0) = true by simpa using h0]
theorem c_l01Cross (p : Int) (u v : V3) (hp : IsP p) (hu : u.sm) (hv : v.sm) : Pure Try.prog 27 [.int .i64 p, u.av, v.av] (.tup [(crs p u v).av, .bool (has p (u.x v))]) := by
  have h1 := Sm.mul hu.2.1 hv.2.2
  have h2 := Sm.mul hu.2.2 hv.2.1
  have h3 := Sm.mul hu.2.2 hv.1
  have h4 := Sm.mul hu.1 hv.2.2
  have h5 := Sm.mul hu.1 hv.2.1
  have h6 := Sm.mul hu.2.1 hv.1
  refine Pure.body 3 (n := 45) (fn := Try.f27) (c := Try.f27.body.get!) fn_27 rfl nm_27 rfl rfl fun C => ?_
  refine WP.seq (WP.region (l := [0, 1, 2, 3]) rfl ?_)
  refine Run.box 0 rfl rfl rfl (.at rfl) rfl (fun b4 => ?_)
  refine Run.box 1 rfl rfl rfl (.at rfl) rfl (fun b5 => ?_)
  refine Run.alloc 2 rfl rfl rfl zr_37 (fun b6 => ?_)
  refine Run.assign rfl rfl rfl (.at rfl) ?_
  refine Run.nil ?_
  refine WP.seq (WP.region (l := [0, 1, 2, 3, 4, 5, 6, 7, 8, 9, 10, 11, 12, 13, 14, 15, 16, 17, 18, 19, 20, 21, 22, 23, 24, 25, 26, 27, 28, 29, 30, 31, 32, 33, 34, 35, 36, 37, 38]) rfl ?_)
  refine Run.move rfl rfl rfl (.at rfl) ?_
  refine Run.idx_arr (j := 1) rfl rfl rfl (.at rfl) (.at rfl) ar_37_3_1 (by rfl) (by decide) ?_
  refine Run.load rfl rfl rfl (.at rfl) (place_adr rfl) sc_2 rfl ?_
  refine Run.idx_arr (j := 2) rfl rfl rfl (.at rfl) (.at rfl) ar_37_3_1 (by rfl) (by decide) ?_
  refine Run.load rfl rfl rfl (.at rfl) (place_adr rfl) sc_2 rfl ?_
  refine Run.mul rfl rfl rfl (.at rfl) (.at rfl) (by omega) ?_
  refine Run.idx_arr (j := 2) rfl rfl rfl (.at rfl) (.at rfl) ar_37_3_1 (by rfl) (by decide) ?_
  refine Run.load rfl rfl rfl (.at rfl) (place_adr rfl) sc_2 rfl ?_
  refine Run.idx_arr (j := 1) rfl rfl rfl (.at rfl) (.at rfl) ar_37_3_1 (by rfl) (by decide) ?_
  refine Run.load rfl rfl rfl (.at rfl) (place_adr rfl) sc_2 rfl ?_
  refine Run.mul rfl rfl rfl (.at rfl) (.at rfl) (by omega) ?_
  refine Run.sub rfl rfl rfl (.at rfl) (.at rfl) (by omega) ?_
  refine Run.idx_arr (j := 2) rfl rfl rfl (.at rfl) (.at rfl) ar_37_3_1 (by rfl) (by decide) ?_
  refine Run.load rfl rfl rfl (.at rfl) (place_adr rfl) sc_2 rfl ?_
  refine Run.idx_arr (j := 0) rfl rfl rfl (.at rfl) (.at rfl) ar_37_3_1 (by rfl) (by decide) ?_
  refine Run.load rfl rfl rfl (.at rfl) (place_adr rfl) sc_2 rfl ?_
  refine Run.mul rfl rfl rfl (.at rfl) (.at rfl) (by omega) ?_
  refine Run.idx_arr (j := 0) rfl rfl rfl (.at rfl) (.at rfl) ar_37_3_1 (by rfl) (by decide) ?_
  refine Run.load rfl rfl rfl (.at rfl) (place_adr rfl) sc_2 rfl ?_
  refine Run.idx_arr (j := 2) rfl rfl rfl (.at rfl) (.at rfl) ar_37_3_1 (by rfl) (by decide) ?_
  refine Run.load rfl rfl rfl (.at rfl) (place_adr rfl) sc_2 rfl ?_
  refine Run.mul rfl rfl rfl (.at rfl) (.at rfl) (by omega) ?_
  refine Run.sub rfl rfl rfl (.at rfl) (.at rfl) (by omega) ?_
  refine Run.idx_arr (j := 0) rfl rfl rfl (.at rfl) (.at rfl) ar_37_3_1 (by rfl) (by decide) ?_
  refine Run.load rfl rfl rfl (.at rfl) (place_adr rfl) sc_2 rfl ?_
  refine Run.idx_arr (j := 1) rfl rfl rfl (.at rfl) (.at rfl) ar_37_3_1 (by rfl) (by decide) ?_
  refine Run.load rfl rfl rfl (.at rfl) (place_adr rfl) sc_2 rfl ?_
  refine Run.mul rfl rfl rfl (.at rfl) (.at rfl) (by omega) ?_
  refine Run.idx_arr (j := 1) rfl rfl rfl (.at rfl) (.at rfl) ar_37_3_1 (by rfl) (by decide) ?_
  refine Run.load rfl rfl rfl (.at rfl) (place_adr rfl) sc_2 rfl ?_
  refine Run.idx_arr (j := 0) rfl rfl rfl (.at rfl) (.at rfl) ar_37_3_1 (by rfl) (by decide) ?_
  refine Run.load rfl rfl rfl (.at rfl) (place_adr rfl) sc_2 rfl ?_
  refine Run.mul rfl rfl rfl (.at rfl) (.at rfl) (by omega) ?_
  refine Run.sub rfl rfl rfl (.at rfl) (.at rfl) (by omega) ?_
  refine Run.call rfl rfl rfl (.at rfl) (.cons (.at rfl) (.cons (.at rfl) (.cons (.at rfl) (.cons (.at rfl) .nil)))) (c_l01Made p (u.x v) hp) ?_
  refine Run.extract rfl rfl rfl (.at rfl) rfl ?_
  refine Run.extract rfl rfl rfl (.at rfl) rfl ?_
  refine Run.store (j := 0) rfl rfl (.at rfl) rfl rfl (.at rfl) sz_37_3 rfl rfl (by decide) rfl ?_
  refine Run.assign rfl rfl rfl (.at rfl) ?_
  refine Run.nil ?_
  refine WP.ret ?_
  exact Ends.pure (.cells rfl (place_adr rfl) ag_37_3 rfl rfl (.tmp rfl .nil)) rfl
theorem c_l01Join (p : Int) (u v : V3) (hp : IsP p) (hu : u.sm) (hv : v.sm) : Pure Try.prog 14 [.int .i64 p, u.av, v.av] (.tup [(crs p u v).av, .bool (has p (u.x v))]) := by
  refine Pure.body 4 (n := 19) (fn := Try.f14) (c := Try.f14.body.get!) fn_14 rfl nm_14 rfl rfl fun C => ?_
  refine WP.seq (WP.region (l := [0, 1, 2, 3]) rfl ?_)
  refine Run.box 0 rfl rfl rfl (.at rfl) rfl (fun b4 => ?_)
  refine Run.box 1 rfl rfl rfl (.at rfl) rfl (fun b5 => ?_)
  refine Run.alloc 2 rfl rfl rfl zr_34 (fun b6 => ?_)
  refine Run.assign rfl rfl rfl (.at rfl) ?_
  refine Run.nil ?_
  refine WP.seq (WP.region (l := [0, 1, 2, 3, 4, 5, 6, 7, 8, 9]) rfl ?_)
  refine Run.move rfl rfl rfl (.at rfl) ?_
  refine Run.loads rfl rfl rfl (.at rfl) (place_adr rfl) ag_37_3 rfl rfl ?_
  refine Run.loads rfl rfl rfl (.at rfl) (place_adr rfl) ag_37_3 rfl rfl ?_
  refine Run.call rfl rfl rfl (.at rfl) (.cons (.at rfl) (.cons (.at rfl) (.cons (.at rfl) .nil))) (c_l01Cross _ _ _ hp hu hv) ?_
  refine Run.move rfl rfl rfl (.at rfl) ?_
  refine Run.extract rfl rfl rfl (.at rfl) rfl ?_
  refine Run.extract rfl rfl rfl (.at rfl) rfl ?_
  refine Run.alloc 3 rfl rfl rfl zr_37 (fun b8 => ?_)
  refine Run.store (j := 0) rfl rfl (.at rfl) rfl rfl (.at rfl) sz_37_3 rfl rfl (by decide) rfl ?_
  refine Run.assign rfl rfl rfl (.at rfl) ?_
  refine Run.nil ?_
  refine WP.seq (WP.region (l := [0, 1, 2, 3]) rfl ?_)
  refine Run.loads rfl rfl rfl (.at rfl) (place_adr rfl) ag_37_3 rfl rfl ?_
  refine Run.move rfl rfl rfl (.at rfl) ?_
  refine Run.store (j := 0) rfl rfl (.at rfl) rfl rfl (.at rfl) sz_34_3 rfl rfl (by decide) rfl ?_
  refine Run.assign rfl rfl rfl (.at rfl) ?_
  refine Run.nil ?_
  refine WP.ret ?_
  exact Ends.pure (.cells rfl (place_adr rfl) ag_34_3 rfl rfl (.tmp rfl .nil)) rfl
theorem c_l01Meet (p : Int) (u v : V3) (hp : IsP p) (hu : u.sm) (hv : v.sm) : Pure Try.prog 15 [.int .i64 p, u.av, v.av] (.tup [(crs p u v).av, .bool (has p (u.x v))]) := by
  refine Pure.body 4 (n := 19) (fn := Try.f15) (c := Try.f15.body.get!) fn_15 rfl nm_15 rfl rfl fun C => ?_
  refine WP.seq (WP.region (l := [0, 1, 2, 3]) rfl ?_)
  refine Run.box 0 rfl rfl rfl (.at rfl) rfl (fun b4 => ?_)
  refine Run.box 1 rfl rfl rfl (.at rfl) rfl (fun b5 => ?_)
  refine Run.alloc 2 rfl rfl rfl zr_37 (fun b6 => ?_)
  refine Run.assign rfl rfl rfl (.at rfl) ?_
  refine Run.nil ?_
  refine WP.seq (WP.region (l := [0, 1, 2, 3, 4, 5, 6, 7, 8, 9]) rfl ?_)
  refine Run.move rfl rfl rfl (.at rfl) ?_
  refine Run.loads rfl rfl rfl (.at rfl) (place_adr rfl) ag_34_3 rfl rfl ?_
  refine Run.loads rfl rfl rfl (.at rfl) (place_adr rfl) ag_34_3 rfl rfl ?_
  refine Run.call rfl rfl rfl (.at rfl) (.cons (.at rfl) (.cons (.at rfl) (.cons (.at rfl) .nil))) (c_l01Cross _ _ _ hp hu hv) ?_
  refine Run.move rfl rfl rfl (.at rfl) ?_
  refine Run.extract rfl rfl rfl (.at rfl) rfl ?_
  refine Run.extract rfl rfl rfl (.at rfl) rfl ?_
  refine Run.alloc 3 rfl rfl rfl zr_37 (fun b8 => ?_)
  refine Run.store (j := 0) rfl rfl (.at rfl) rfl rfl (.at rfl) sz_37_3 rfl rfl (by decide) rfl ?_
  refine Run.assign rfl rfl rfl (.at rfl) ?_
  refine Run.nil ?_
  refine WP.seq (WP.region (l := [0, 1, 2, 3]) rfl ?_)
  refine Run.loads rfl rfl rfl (.at rfl) (place_adr rfl) ag_37_3 rfl rfl ?_
  refine Run.move rfl rfl rfl (.at rfl) ?_
  refine Run.store (j := 0) rfl rfl (.at rfl) rfl rfl (.at rfl) sz_37_3 rfl rfl (by decide) rfl ?_
  refine Run.assign rfl rfl rfl (.at rfl) ?_
  refine Run.nil ?_
  refine WP.ret ?_
  exact Ends.pure (.cells rfl (place_adr rfl) ag_37_3 rfl rfl (.tmp rfl .nil)) rfl
end Go.Ab
