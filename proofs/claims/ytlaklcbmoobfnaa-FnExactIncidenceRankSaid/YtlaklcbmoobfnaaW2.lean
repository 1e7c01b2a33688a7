/- The walks of points and lines of a plane: products, incidence, inverses, all points. -/
import Derived.Test.YtlaklcbmoobfnaaW1
namespace Go.Ab
open Go.Proofs

theorem c_dot (p : Int) (u v : V3) (hu : u.sm) (hv : v.sm) (hp : 0 < p) (hp' : p ≤ 1000) : Pure Try.prog 15 [.int .i64 p, u.av, v.av] (.int .i64 (u.dot v % p)) := by
  have h1 := Sm.mul hu.1 hv.1
  have h2 := Sm.mul hu.2.1 hv.2.1
  have h3 := Sm.mul hu.2.2 hv.2.2
  refine Pure.of_body 2 (n := 26) (fn := Try.f15) (c := Try.f15.body.get!) fn_15 rfl nm_15 rfl rfl fun C => ?_
  refine WP.seq (WP.region (l := [0, 1, 2]) rfl ?_)
  refine Run.box 0 rfl rfl rfl (.at rfl) rfl (fun b4 => ?_)
  refine Run.box 1 rfl rfl rfl (.at rfl) rfl (fun b5 => ?_)
  refine Run.assign rfl rfl rfl (.at rfl) ?_
  refine Run.nil ?_
  refine WP.seq (WP.region (l := [0, 1, 2, 3, 4, 5, 6, 7, 8, 9, 10, 11, 12, 13, 14, 15, 16, 17, 18, 19]) rfl ?_)
  refine Run.idx_arr (j := 0) rfl rfl rfl (.at rfl) (.at rfl) ar_31_3_1 (by rfl) (by decide) ?_
  refine Run.load rfl rfl rfl (.at rfl) (place_adr rfl) sc_2 rfl ?_
  refine Run.idx_arr (j := 0) rfl rfl rfl (.at rfl) (.at rfl) ar_31_3_1 (by rfl) (by decide) ?_
  refine Run.load rfl rfl rfl (.at rfl) (place_adr rfl) sc_2 rfl ?_
  refine Run.mul rfl rfl rfl (.at rfl) (.at rfl) (by omega) ?_
  refine Run.idx_arr (j := 1) rfl rfl rfl (.at rfl) (.at rfl) ar_31_3_1 (by rfl) (by decide) ?_
  refine Run.load rfl rfl rfl (.at rfl) (place_adr rfl) sc_2 rfl ?_
  refine Run.idx_arr (j := 1) rfl rfl rfl (.at rfl) (.at rfl) ar_31_3_1 (by rfl) (by decide) ?_
  refine Run.load rfl rfl rfl (.at rfl) (place_adr rfl) sc_2 rfl ?_
  refine Run.mul rfl rfl rfl (.at rfl) (.at rfl) (by omega) ?_
  refine Run.add rfl rfl rfl (.at rfl) (.at rfl) (by omega) ?_
  refine Run.idx_arr (j := 2) rfl rfl rfl (.at rfl) (.at rfl) ar_31_3_1 (by rfl) (by decide) ?_
  refine Run.load rfl rfl rfl (.at rfl) (place_adr rfl) sc_2 rfl ?_
  refine Run.idx_arr (j := 2) rfl rfl rfl (.at rfl) (.at rfl) ar_31_3_1 (by rfl) (by decide) ?_
  refine Run.load rfl rfl rfl (.at rfl) (place_adr rfl) sc_2 rfl ?_
  refine Run.mul rfl rfl rfl (.at rfl) (.at rfl) (by omega) ?_
  refine Run.add rfl rfl rfl (.at rfl) (.at rfl) (by omega) ?_
  refine Run.move rfl rfl rfl (.at rfl) ?_
  refine Run.call rfl rfl rfl (.at rfl) (.cons (.at rfl) (.cons (.at rfl) .nil)) (c_mod _ _ (by omega) (by omega)) ?_
  refine Run.assign rfl rfl rfl (.at rfl) ?_
  refine Run.nil ?_
  refine WP.ret ?_
  exact ⟨_, rfl, rfl⟩
theorem c_isOn (p : Int) (u v : V3) (hu : u.sm) (hv : v.sm) (hp : 0 < p) (hp' : p ≤ 1000) : Pure Try.prog 13 [.int .i64 p, u.av, v.av] (.bool (u.dot v % p == 0)) := by
  refine Pure.of_body 2 (n := 12) (fn := Try.f13) (c := Try.f13.body.get!) fn_13 rfl nm_13 rfl rfl fun C => ?_
  refine WP.seq (WP.region (l := [0, 1, 2]) rfl ?_)
  refine Run.box 0 rfl rfl rfl (.at rfl) rfl (fun b4 => ?_)
  refine Run.box 1 rfl rfl rfl (.at rfl) rfl (fun b5 => ?_)
  refine Run.assign rfl rfl rfl (.at rfl) ?_
  refine Run.nil ?_
  refine WP.seq (WP.region (l := [0, 1, 2, 3, 4, 5]) rfl ?_)
  refine Run.move rfl rfl rfl (.at rfl) ?_
  refine Run.loads rfl rfl rfl (.at rfl) (place_adr rfl) ag_32_3 rfl rfl ?_
  refine Run.loads rfl rfl rfl (.at rfl) (place_adr rfl) ag_33_3 rfl rfl ?_
  refine Run.call rfl rfl rfl (.at rfl) (.cons (.at rfl) (.cons (.at rfl) (.cons (.at rfl) .nil))) (c_dot _ _ _ hu hv hp hp') ?_
  refine Run.int rfl rfl rfl (.at rfl) (.at rfl) rfl ?_
  refine Run.assign rfl rfl rfl (.at rfl) ?_
  refine Run.nil ?_
  refine WP.ret ?_
  exact ⟨_, rfl, rfl⟩
theorem tmod_zero (a p : Int) : (a.tmod p == 0) = (a % p == 0) := by
  rw [Bool.eq_iff_iff, beq_iff_eq, beq_iff_eq, ← Int.dvd_iff_tmod_eq_zero, ← Int.dvd_iff_emod_eq_zero]
theorem c_l01On (p : Int) (u v : V3) (hu : u.sm) (hv : v.sm) (hp : 0 < p) (hp' : p ≤ 1000) : Pure Try.prog 8 [.int .i64 p, u.av, v.av] (.bool (u.dot v % p == 0)) := by
  have h1 := Sm.mul hu.1 hv.1
  have h2 := Sm.mul hu.2.1 hv.2.1
  have h3 := Sm.mul hu.2.2 hv.2.2
  refine Pure.of_body 2 (n := 27) (fn := Try.f8) (c := Try.f8.body.get!) fn_8 rfl nm_8 rfl rfl fun C => ?_
  refine WP.seq (WP.region (l := [0, 1, 2]) rfl ?_)
  refine Run.box 0 rfl rfl rfl (.at rfl) rfl (fun b4 => ?_)
  refine Run.box 1 rfl rfl rfl (.at rfl) rfl (fun b5 => ?_)
  refine Run.assign rfl rfl rfl (.at rfl) ?_
  refine Run.nil ?_
  refine WP.seq (WP.region (l := [0, 1, 2, 3, 4, 5, 6, 7, 8, 9, 10, 11, 12, 13, 14, 15, 16, 17, 18, 19, 20]) rfl ?_)
  refine Run.idx_arr (j := 0) rfl rfl rfl (.at rfl) (.at rfl) ar_32_3_1 (by rfl) (by decide) ?_
  refine Run.load rfl rfl rfl (.at rfl) (place_adr rfl) sc_2 rfl ?_
  refine Run.idx_arr (j := 0) rfl rfl rfl (.at rfl) (.at rfl) ar_33_3_1 (by rfl) (by decide) ?_
  refine Run.load rfl rfl rfl (.at rfl) (place_adr rfl) sc_2 rfl ?_
  refine Run.mul rfl rfl rfl (.at rfl) (.at rfl) (by omega) ?_
  refine Run.idx_arr (j := 1) rfl rfl rfl (.at rfl) (.at rfl) ar_32_3_1 (by rfl) (by decide) ?_
  refine Run.load rfl rfl rfl (.at rfl) (place_adr rfl) sc_2 rfl ?_
  refine Run.idx_arr (j := 1) rfl rfl rfl (.at rfl) (.at rfl) ar_33_3_1 (by rfl) (by decide) ?_
  refine Run.load rfl rfl rfl (.at rfl) (place_adr rfl) sc_2 rfl ?_
  refine Run.mul rfl rfl rfl (.at rfl) (.at rfl) (by omega) ?_
  refine Run.add rfl rfl rfl (.at rfl) (.at rfl) (by omega) ?_
  refine Run.idx_arr (j := 2) rfl rfl rfl (.at rfl) (.at rfl) ar_32_3_1 (by rfl) (by decide) ?_
  refine Run.load rfl rfl rfl (.at rfl) (place_adr rfl) sc_2 rfl ?_
  refine Run.idx_arr (j := 2) rfl rfl rfl (.at rfl) (.at rfl) ar_33_3_1 (by rfl) (by decide) ?_
  refine Run.load rfl rfl rfl (.at rfl) (place_adr rfl) sc_2 rfl ?_
  refine Run.mul rfl rfl rfl (.at rfl) (.at rfl) (by omega) ?_
  refine Run.add rfl rfl rfl (.at rfl) (.at rfl) (by omega) ?_
  refine Run.move rfl rfl rfl (.at rfl) ?_
  refine Run.tmod rfl rfl rfl (.at rfl) (.at rfl) (by omega) ?_
  refine Run.int rfl rfl rfl (.at rfl) (.at rfl) rfl ?_
  refine Run.assign rfl rfl rfl (.at rfl) ?_
  refine Run.nil ?_
  refine WP.ret ?_
  refine ⟨_, rfl, ?_⟩
  show AV.bool _ = _
  congr 1
  exact tmod_zero _ p

theorem l_l01Inverse {C : Cx Try.prog 20} {Q : Post} {p x : Int} (hp : IsP p) (hn : x % p ≠ 0) (hR : Q .ret ⟨[(4, .int .i64 (inv p x))], []⟩) :
    ∀ (d : Nat) (j : Int), 1 ≤ j → j + d = inv p x → LP C (nav Try.f9.body.get! [1, 0, 1, 0, 0]) Q ⟨[(0, .int .i64 p), (1, .int .i64 x), (5, .int .i64 j)], []⟩ := by
  have hb := hp.bd
  obtain ⟨h1, h2, h3⟩ := inv_spec hp hn
  have hx1 := Int.emod_nonneg x (show p ≠ 0 by omega)
  have hx2 := Int.emod_lt_of_pos x (show 0 < p by omega)
  have hmm : ∀ j : Int, j * (x % p) % p = x * j % p := fun j => by rw [Int.mul_comm, Int.mul_emod, Int.emod_emod_of_dvd _ (Int.dvd_refl p), ← Int.mul_emod]
  intro d
  induction d with
  | zero =>
    intro j hj hd
    have hj' : j = inv p x := by omega
    subst hj'
    have hm := Sm.mul (show Sm (inv p x) by unfold Sm; omega) (show Sm (x % p) by unfold Sm; omega)
    have hm0 : 0 ≤ inv p x * (x % p) := Int.mul_nonneg (by omega) (by omega)
    refine LP.round ?_
    refine WP.seq ?_
    refine WP.seq (WP.region (l := [0, 1, 2]) rfl ?_)
    refine Run.move rfl rfl rfl (.at rfl) ?_
    refine Run.move rfl rfl rfl (.at rfl) ?_
    refine Run.int rfl rfl rfl (.at rfl) (.at rfl) rfl ?_
    refine Run.nil ?_
    refine WP.cond_t (.at rfl) (by simp; omega) ?_
    refine WP.skip ?_
    refine WP.seq ?_
    refine WP.block ?_
    refine WP.seq (WP.region (l := [0, 1, 2, 3, 4, 5, 6, 7]) rfl ?_)
    refine Run.move rfl rfl rfl (.at rfl) ?_
    refine Run.move rfl rfl rfl (.at rfl) ?_
    refine Run.move rfl rfl rfl (.at rfl) ?_
    refine Run.call rfl rfl rfl (.at rfl) (.cons (.at rfl) (.cons (.at rfl) .nil)) (c_l01Mod _ _ (by omega) (by omega)) ?_
    refine Run.mul rfl rfl rfl (.at rfl) (.at rfl) (by omega) ?_
    refine Run.move rfl rfl rfl (.at rfl) ?_
    refine Run.rem rfl rfl rfl (.at rfl) (.at rfl) (by omega) (by omega) ?_
    refine Run.int rfl rfl rfl (.at rfl) (.at rfl) rfl ?_
    refine Run.nil ?_
    refine WP.cond_t (.at rfl) (by simp [hmm, h3]) ?_
    refine WP.seq (WP.region (l := [0, 1]) rfl ?_)
    refine Run.move rfl rfl rfl (.at rfl) ?_
    refine Run.assign rfl rfl rfl (.at rfl) ?_
    refine Run.nil ?_
    exact WP.keep (WP.ret hR) (by repeat (first | exact trivial | refine ⟨rfl, ?_⟩)) (by repeat (first | exact HSub.nil | refine HSub.keep ?_ | refine HSub.dead ?_))
  | succ d ih =>
    intro j hj hd
    have hm := Sm.mul (show Sm j by unfold Sm; omega) (show Sm (x % p) by unfold Sm; omega)
    have hm0 : 0 ≤ j * (x % p) := Int.mul_nonneg (by omega) (by omega)
    have hne := inv_least (p := p) (n := x) hj (by omega)
    refine LP.round ?_
    refine WP.seq ?_
    refine WP.seq (WP.region (l := [0, 1, 2]) rfl ?_)
    refine Run.move rfl rfl rfl (.at rfl) ?_
    refine Run.move rfl rfl rfl (.at rfl) ?_
    refine Run.int rfl rfl rfl (.at rfl) (.at rfl) rfl ?_
    refine Run.nil ?_
    refine WP.cond_t (.at rfl) (by simp; omega) ?_
    refine WP.skip ?_
    refine WP.seq ?_
    refine WP.block ?_
    refine WP.seq (WP.region (l := [0, 1, 2, 3, 4, 5, 6, 7]) rfl ?_)
    refine Run.move rfl rfl rfl (.at rfl) ?_
    refine Run.move rfl rfl rfl (.at rfl) ?_
    refine Run.move rfl rfl rfl (.at rfl) ?_
    refine Run.call rfl rfl rfl (.at rfl) (.cons (.at rfl) (.cons (.at rfl) .nil)) (c_l01Mod _ _ (by omega) (by omega)) ?_
    refine Run.mul rfl rfl rfl (.at rfl) (.at rfl) (by omega) ?_
    refine Run.move rfl rfl rfl (.at rfl) ?_
    refine Run.rem rfl rfl rfl (.at rfl) (.at rfl) (by omega) (by omega) ?_
    refine Run.int rfl rfl rfl (.at rfl) (.at rfl) rfl ?_
    refine Run.nil ?_
    refine WP.cond_f (.at rfl) (by simp [hmm, hne]) ?_
    refine WP.skip ?_
    refine WP.region (l := [0, 1, 2]) rfl ?_
    refine Run.move rfl rfl rfl (.at rfl) ?_
    refine Run.add rfl rfl rfl (.at rfl) (.at rfl) (by omega) ?_
    refine Run.assign rfl rfl rfl (.at rfl) ?_
    refine Run.nil ?_
    exact LP.keep (ih (j + 1) (by omega) (by omega)) (by repeat (first | exact trivial | refine ⟨rfl, ?_⟩)) (by repeat (first | exact HSub.nil | refine HSub.keep ?_ | refine HSub.dead ?_))
theorem c_l01Inverse (p x : Int) (hp : IsP p) (hn : x % p ≠ 0) : Pure Try.prog 9 [.int .i64 p, .int .i64 x] (.int .i64 (inv p x)) := by
  obtain ⟨h1, h2, h3⟩ := inv_spec hp hn
  have hb := hp.bd
  refine Pure.of_body 0 (n := 20) (fn := Try.f9) (c := Try.f9.body.get!) fn_9 rfl nm_9 rfl rfl fun C => ?_
  refine WP.seq (WP.region (l := [0]) rfl ?_)
  refine Run.assign rfl rfl rfl (.at rfl) ?_
  refine Run.nil ?_
  refine WP.seq ?_
  refine WP.seq (WP.region (l := [0]) rfl ?_)
  refine Run.assign rfl rfl rfl (.at rfl) ?_
  refine Run.nil ?_
  refine WP.block ?_
  refine WP.loop (LP.keep (l_l01Inverse hp hn ?_ (inv p x - 1).toNat 1 (by omega) (by omega)) (by repeat (first | exact trivial | refine ⟨rfl, ?_⟩)) (by repeat (first | exact HSub.nil | refine HSub.keep ?_ | refine HSub.dead ?_)))
  exact ⟨_, rfl, rfl⟩
end Go.Ab
