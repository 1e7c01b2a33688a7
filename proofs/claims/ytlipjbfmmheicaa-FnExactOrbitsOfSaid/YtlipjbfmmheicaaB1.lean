/- The walks of the arithmetic of planes: primes, remainders, inverses, products, points on lines. -/
import Derived.Test.YtlipjbfmmheicaaP1
import Derived.Test.YtlipjbfmmheicaaFacts
namespace Go.Ab
open Go.Proofs

theorem c_isPrime (p : Int) : Pure Try.prog 57 [.int .i64 p] (.bool (isP p)) := by
  refine Pure.of_body 0 (n := 21) (fn := Try.f57) (c := Try.f57.body.get!) fn_57 rfl nm_57 rfl rfl fun C => ?_
  refine WP.seq (WP.region (l := [0]) rfl ?_)
  refine Run.assign rfl rfl rfl (.at rfl) ?_
  refine Run.nil ?_
  refine WP.seq (WP.region (l := [0, 1, 2, 3, 4, 5, 6, 7, 8, 9, 10, 11, 12, 13, 14, 15, 16, 17, 18]) rfl ?_)
  refine Run.move rfl rfl rfl (.at rfl) ?_
  refine Run.int rfl rfl rfl (.at rfl) (.at rfl) rfl ?_
  refine Run.move rfl rfl rfl (.at rfl) ?_
  refine' Run.guarded rfl rfl rfl rfl rfl rfl (fun ht => ?_) ?_
  rotate_left
  · skip
    refine Run.move rfl rfl rfl (.at rfl) ?_
    exact single_nil
  refine' Run.guarded rfl rfl rfl rfl rfl rfl (fun ht => ?_) ?_
  rotate_left
  · skip
    refine Run.int rfl rfl rfl (.opt rfl ht) (.at rfl) rfl ?_
    exact single_nil
  refine Run.or rfl rfl rfl (.at rfl) (.at rfl) rfl ?_
  refine Run.move rfl rfl rfl (.at rfl) ?_
  refine' Run.guarded rfl rfl rfl rfl rfl rfl (fun ht => ?_) ?_
  rotate_left
  · skip
    refine Run.move rfl rfl rfl (.at rfl) ?_
    exact single_nil
  refine' Run.guarded rfl rfl rfl rfl rfl rfl (fun ht => ?_) ?_
  rotate_left
  · skip
    refine Run.int rfl rfl rfl (.opt rfl ht) (.at rfl) rfl ?_
    exact single_nil
  refine Run.or rfl rfl rfl (.at rfl) (.at rfl) rfl ?_
  refine Run.move rfl rfl rfl (.at rfl) ?_
  refine' Run.guarded rfl rfl rfl rfl rfl rfl (fun ht => ?_) ?_
  rotate_left
  · skip
    refine Run.move rfl rfl rfl (.at rfl) ?_
    exact single_nil
  refine' Run.guarded rfl rfl rfl rfl rfl rfl (fun ht => ?_) ?_
  rotate_left
  · skip
    refine Run.int rfl rfl rfl (.opt rfl ht) (.at rfl) rfl ?_
    exact single_nil
  refine Run.or rfl rfl rfl (.at rfl) (.at rfl) rfl ?_
  refine Run.move rfl rfl rfl (.at rfl) ?_
  refine' Run.guarded rfl rfl rfl rfl rfl rfl (fun ht => ?_) ?_
  rotate_left
  · skip
    refine Run.move rfl rfl rfl (.at rfl) ?_
    exact single_nil
  refine' Run.guarded rfl rfl rfl rfl rfl rfl (fun ht => ?_) ?_
  rotate_left
  · skip
    refine Run.int rfl rfl rfl (.opt rfl ht) (.at rfl) rfl ?_
    exact single_nil
  refine Run.or rfl rfl rfl (.at rfl) (.at rfl) rfl ?_
  refine Run.assign rfl rfl rfl (.at rfl) ?_
  refine Run.nil ?_
  refine WP.ret ?_
  exact ⟨_, rfl, rfl⟩
theorem c_l01Prime (p : Int) : Pure Try.prog 53 [.int .i64 p] (.bool (isP p)) := by
  refine Pure.of_body 0 (n := 21) (fn := Try.f53) (c := Try.f53.body.get!) fn_53 rfl nm_53 rfl rfl fun C => ?_
  refine WP.seq (WP.region (l := [0]) rfl ?_)
  refine Run.assign rfl rfl rfl (.at rfl) ?_
  refine Run.nil ?_
  refine WP.seq (WP.region (l := [0, 1, 2, 3, 4, 5, 6, 7, 8, 9, 10, 11, 12, 13, 14, 15, 16, 17, 18]) rfl ?_)
  refine Run.move rfl rfl rfl (.at rfl) ?_
  refine Run.int rfl rfl rfl (.at rfl) (.at rfl) rfl ?_
  refine Run.move rfl rfl rfl (.at rfl) ?_
  refine' Run.guarded rfl rfl rfl rfl rfl rfl (fun ht => ?_) ?_
  rotate_left
  · skip
    refine Run.move rfl rfl rfl (.at rfl) ?_
    exact single_nil
  refine' Run.guarded rfl rfl rfl rfl rfl rfl (fun ht => ?_) ?_
  rotate_left
  · skip
    refine Run.int rfl rfl rfl (.opt rfl ht) (.at rfl) rfl ?_
    exact single_nil
  refine Run.or rfl rfl rfl (.at rfl) (.at rfl) rfl ?_
  refine Run.move rfl rfl rfl (.at rfl) ?_
  refine' Run.guarded rfl rfl rfl rfl rfl rfl (fun ht => ?_) ?_
  rotate_left
  · skip
    refine Run.move rfl rfl rfl (.at rfl) ?_
    exact single_nil
  refine' Run.guarded rfl rfl rfl rfl rfl rfl (fun ht => ?_) ?_
  rotate_left
  · skip
    refine Run.int rfl rfl rfl (.opt rfl ht) (.at rfl) rfl ?_
    exact single_nil
  refine Run.or rfl rfl rfl (.at rfl) (.at rfl) rfl ?_
  refine Run.move rfl rfl rfl (.at rfl) ?_
  refine' Run.guarded rfl rfl rfl rfl rfl rfl (fun ht => ?_) ?_
  rotate_left
  · skip
    refine Run.move rfl rfl rfl (.at rfl) ?_
    exact single_nil
  refine' Run.guarded rfl rfl rfl rfl rfl rfl (fun ht => ?_) ?_
  rotate_left
  · skip
    refine Run.int rfl rfl rfl (.opt rfl ht) (.at rfl) rfl ?_
    exact single_nil
  refine Run.or rfl rfl rfl (.at rfl) (.at rfl) rfl ?_
  refine Run.move rfl rfl rfl (.at rfl) ?_
  refine' Run.guarded rfl rfl rfl rfl rfl rfl (fun ht => ?_) ?_
  rotate_left
  · skip
    refine Run.move rfl rfl rfl (.at rfl) ?_
    exact single_nil
  refine' Run.guarded rfl rfl rfl rfl rfl rfl (fun ht => ?_) ?_
  rotate_left
  · skip
    refine Run.int rfl rfl rfl (.opt rfl ht) (.at rfl) rfl ?_
    exact single_nil
  refine Run.or rfl rfl rfl (.at rfl) (.at rfl) rfl ?_
  refine Run.assign rfl rfl rfl (.at rfl) ?_
  refine Run.nil ?_
  refine WP.ret ?_
  exact ⟨_, rfl, rfl⟩
theorem c_mod (a p : Int) (hp : 0 < p) (hp' : p ≤ 1000) : Pure Try.prog 79 [.int .i64 a, .int .i64 p] (.int .i64 (a % p)) := by
  have h1 : -p < a.tmod p ∧ a.tmod p < p := ⟨by have := Int.lt_tmod_of_pos a hp; omega, Int.tmod_lt_of_pos a hp⟩
  refine Pure.of_body 0 (n := 12) (fn := Try.f79) (c := Try.f79.body.get!) fn_79 rfl nm_79 rfl rfl fun C => ?_
  refine WP.seq (WP.region (l := [0]) rfl ?_)
  refine Run.assign rfl rfl rfl (.at rfl) ?_
  refine Run.nil ?_
  refine WP.seq (WP.region (l := [0, 1, 2, 3, 4, 5, 6, 7]) rfl ?_)
  refine Run.move rfl rfl rfl (.at rfl) ?_
  refine Run.move rfl rfl rfl (.at rfl) ?_
  refine Run.tmod rfl rfl rfl (.at rfl) (.at rfl) (by omega) ?_
  refine Run.move rfl rfl rfl (.at rfl) ?_
  refine Run.add rfl rfl rfl (.at rfl) (.at rfl) (by omega) ?_
  refine Run.move rfl rfl rfl (.at rfl) ?_
  refine Run.rem rfl rfl rfl (.at rfl) (.at rfl) (by omega) (by omega) ?_
  refine Run.assign rfl rfl rfl (.at rfl) ?_
  refine Run.nil ?_
  refine WP.ret ?_
  refine ⟨_, rfl, ?_⟩
  show AV.int _ _ = _
  congr 1
  exact mod_twice a p hp
theorem c_l01Mod (p a : Int) (hp : 0 < p) (hp' : p ≤ 1000) : Pure Try.prog 73 [.int .i64 p, .int .i64 a] (.int .i64 (a % p)) := by
  have h1 : -p < a.tmod p ∧ a.tmod p < p := ⟨by have := Int.lt_tmod_of_pos a hp; omega, Int.tmod_lt_of_pos a hp⟩
  refine Pure.of_body 0 (n := 12) (fn := Try.f73) (c := Try.f73.body.get!) fn_73 rfl nm_73 rfl rfl fun C => ?_
  refine WP.seq (WP.region (l := [0]) rfl ?_)
  refine Run.assign rfl rfl rfl (.at rfl) ?_
  refine Run.nil ?_
  refine WP.seq (WP.region (l := [0, 1, 2, 3, 4, 5, 6, 7]) rfl ?_)
  refine Run.move rfl rfl rfl (.at rfl) ?_
  refine Run.move rfl rfl rfl (.at rfl) ?_
  refine Run.tmod rfl rfl rfl (.at rfl) (.at rfl) (by omega) ?_
  refine Run.move rfl rfl rfl (.at rfl) ?_
  refine Run.add rfl rfl rfl (.at rfl) (.at rfl) (by omega) ?_
  refine Run.move rfl rfl rfl (.at rfl) ?_
  refine Run.rem rfl rfl rfl (.at rfl) (.at rfl) (by omega) (by omega) ?_
  refine Run.assign rfl rfl rfl (.at rfl) ?_
  refine Run.nil ?_
  refine WP.ret ?_
  refine ⟨_, rfl, ?_⟩
  show AV.int _ _ = _
  congr 1
  exact mod_twice a p hp
theorem l_inverse {C : Cx Try.prog 15} {Q : Post} {p n : Int} (hp : IsP p) (hn : n % p ≠ 0) (hs : Sm n) (hQ : Q (.exit 0) ⟨[(0, .int .i64 n), (1, .int .i64 p), (5, .int .i64 (inv p n))], []⟩) :
    ∀ (d : Nat) (j : Int), 1 ≤ j → j + d = inv p n → LP C (nav Try.f80.body.get! [1, 1, 0, 0, 0]) Q ⟨[(0, .int .i64 n), (1, .int .i64 p), (5, .int .i64 j)], []⟩ := by
  have hb := hp.bd
  obtain ⟨h1, h2, h3⟩ := inv_spec hp hn
  intro d
  induction d with
  | zero =>
    intro j hj hd
    have hj' : j = inv p n := by omega
    subst hj'
    have hm := Sm.mul hs (show Sm (inv p n) by unfold Sm; omega)
    refine LP.round ?_
    refine WP.seq ?_
    refine WP.seq (WP.region (l := [0, 1, 2, 3, 4, 5]) rfl ?_)
    refine Run.move rfl rfl rfl (.at rfl) ?_
    refine Run.move rfl rfl rfl (.at rfl) ?_
    refine Run.mul rfl rfl rfl (.at rfl) (.at rfl) (by omega) ?_
    refine Run.move rfl rfl rfl (.at rfl) ?_
    refine Run.call rfl rfl rfl (.at rfl) (.cons (.at rfl) (.cons (.at rfl) .nil)) (c_mod _ _ (by omega) (by omega)) ?_
    refine Run.int rfl rfl rfl (.at rfl) (.at rfl) rfl ?_
    refine Run.nil ?_
    refine WP.cond_f (.at rfl) (by simp [h3]) ?_
    exact WP.keep (WP.exit hQ) (by repeat (first | exact trivial | refine ⟨rfl, ?_⟩)) (by repeat (first | exact HSub.nil | refine HSub.keep ?_ | refine HSub.dead ?_))
  | succ d ih =>
    intro j hj hd
    have hm := Sm.mul hs (show Sm j by unfold Sm; omega)
    have hne := inv_least (p := p) (n := n) hj (by omega)
    refine LP.round ?_
    refine WP.seq ?_
    refine WP.seq (WP.region (l := [0, 1, 2, 3, 4, 5]) rfl ?_)
    refine Run.move rfl rfl rfl (.at rfl) ?_
    refine Run.move rfl rfl rfl (.at rfl) ?_
    refine Run.mul rfl rfl rfl (.at rfl) (.at rfl) (by omega) ?_
    refine Run.move rfl rfl rfl (.at rfl) ?_
    refine Run.call rfl rfl rfl (.at rfl) (.cons (.at rfl) (.cons (.at rfl) .nil)) (c_mod _ _ (by omega) (by omega)) ?_
    refine Run.int rfl rfl rfl (.at rfl) (.at rfl) rfl ?_
    refine Run.nil ?_
    refine WP.cond_t (.at rfl) (by simp [hne]) ?_
    refine WP.skip ?_
    refine WP.block ?_
    refine WP.region (l := [0, 1, 2]) rfl ?_
    refine Run.move rfl rfl rfl (.at rfl) ?_
    refine Run.add rfl rfl rfl (.at rfl) (.at rfl) (by omega) ?_
    refine Run.assign rfl rfl rfl (.at rfl) ?_
    refine Run.nil ?_
    exact LP.keep (ih (j + 1) (by omega) (by omega)) (by repeat (first | exact trivial | refine ⟨rfl, ?_⟩)) (by repeat (first | exact HSub.nil | refine HSub.keep ?_ | refine HSub.dead ?_))
theorem c_inverse (n p : Int) (hp : IsP p) (hn : n % p ≠ 0) (hs : Sm n) : Pure Try.prog 80 [.int .i64 n, .int .i64 p] (.int .i64 (inv p n)) := by
  obtain ⟨h1, h2, h3⟩ := inv_spec hp hn
  refine Pure.of_body 0 (n := 15) (fn := Try.f80) (c := Try.f80.body.get!) fn_80 rfl nm_80 rfl rfl fun C => ?_
  refine WP.seq (WP.region (l := [0]) rfl ?_)
  refine Run.assign rfl rfl rfl (.at rfl) ?_
  refine Run.nil ?_
  refine WP.seq (WP.region (l := [0]) rfl ?_)
  refine Run.assign rfl rfl rfl (.at rfl) ?_
  refine Run.nil ?_
  refine WP.seq ?_
  refine WP.block ?_
  refine WP.loop (LP.keep (l_inverse hp hn hs ?_ (inv p n - 1).toNat 1 (by omega) (by omega)) (by repeat (first | exact trivial | refine ⟨rfl, ?_⟩)) (by repeat (first | exact HSub.nil | refine HSub.keep ?_ | refine HSub.dead ?_)))
  refine WP.seq (WP.region (l := [0, 1]) rfl ?_)
  refine Run.move rfl rfl rfl (.at rfl) ?_
  refine Run.assign rfl rfl rfl (.at rfl) ?_
  refine Run.nil ?_
  refine WP.ret ?_
  exact ⟨_, rfl, rfl⟩
theorem c_dot (p : Int) (u v : V3) (hu : u.sm) (hv : v.sm) (hp : 0 < p) (hp' : p ≤ 1000) : Pure Try.prog 66 [.int .i64 p, u.av, v.av] (.int .i64 (u.dot v % p)) := by
  have h1 := Sm.mul hu.1 hv.1
  have h2 := Sm.mul hu.2.1 hv.2.1
  have h3 := Sm.mul hu.2.2 hv.2.2
  refine Pure.of_body 2 (n := 26) (fn := Try.f66) (c := Try.f66.body.get!) fn_66 rfl nm_66 rfl rfl fun C => ?_
  refine WP.seq (WP.region (l := [0, 1, 2]) rfl ?_)
  refine Run.box 0 rfl rfl rfl (.at rfl) rfl (fun b4 => ?_)
  refine Run.box 1 rfl rfl rfl (.at rfl) rfl (fun b5 => ?_)
  refine Run.assign rfl rfl rfl (.at rfl) ?_
  refine Run.nil ?_
  refine WP.seq (WP.region (l := [0, 1, 2, 3, 4, 5, 6, 7, 8, 9, 10, 11, 12, 13, 14, 15, 16, 17, 18, 19]) rfl ?_)
  refine Run.idx_arr (j := 0) rfl rfl rfl (.at rfl) (.at rfl) ar_30_3_1 (by rfl) (by decide) ?_
  refine Run.load rfl rfl rfl (.at rfl) (place_adr rfl) sc_2 rfl ?_
  refine Run.idx_arr (j := 0) rfl rfl rfl (.at rfl) (.at rfl) ar_30_3_1 (by rfl) (by decide) ?_
  refine Run.load rfl rfl rfl (.at rfl) (place_adr rfl) sc_2 rfl ?_
  refine Run.mul rfl rfl rfl (.at rfl) (.at rfl) (by omega) ?_
  refine Run.idx_arr (j := 1) rfl rfl rfl (.at rfl) (.at rfl) ar_30_3_1 (by rfl) (by decide) ?_
  refine Run.load rfl rfl rfl (.at rfl) (place_adr rfl) sc_2 rfl ?_
  refine Run.idx_arr (j := 1) rfl rfl rfl (.at rfl) (.at rfl) ar_30_3_1 (by rfl) (by decide) ?_
  refine Run.load rfl rfl rfl (.at rfl) (place_adr rfl) sc_2 rfl ?_
  refine Run.mul rfl rfl rfl (.at rfl) (.at rfl) (by omega) ?_
  refine Run.add rfl rfl rfl (.at rfl) (.at rfl) (by omega) ?_
  refine Run.idx_arr (j := 2) rfl rfl rfl (.at rfl) (.at rfl) ar_30_3_1 (by rfl) (by decide) ?_
  refine Run.load rfl rfl rfl (.at rfl) (place_adr rfl) sc_2 rfl ?_
  refine Run.idx_arr (j := 2) rfl rfl rfl (.at rfl) (.at rfl) ar_30_3_1 (by rfl) (by decide) ?_
  refine Run.load rfl rfl rfl (.at rfl) (place_adr rfl) sc_2 rfl ?_
  refine Run.mul rfl rfl rfl (.at rfl) (.at rfl) (by omega) ?_
  refine Run.add rfl rfl rfl (.at rfl) (.at rfl) (by omega) ?_
  refine Run.move rfl rfl rfl (.at rfl) ?_
  refine Run.call rfl rfl rfl (.at rfl) (.cons (.at rfl) (.cons (.at rfl) .nil)) (c_mod _ _ (by omega) (by omega)) ?_
  refine Run.assign rfl rfl rfl (.at rfl) ?_
  refine Run.nil ?_
  refine WP.ret ?_
  exact ⟨_, rfl, rfl⟩
theorem tmod_zero (a p : Int) : (a.tmod p == 0) = (a % p == 0) := by
  rw [Bool.eq_iff_iff, beq_iff_eq, beq_iff_eq, ← Int.dvd_iff_tmod_eq_zero, ← Int.dvd_iff_emod_eq_zero]
theorem l_l01Inverse {C : Cx Try.prog 20} {Q : Post} {p x : Int} (hp : IsP p) (hn : x % p ≠ 0) (hR : Q .ret ⟨[(4, .int .i64 (inv p x))], []⟩) :
    ∀ (d : Nat) (j : Int), 1 ≤ j → j + d = inv p x → LP C (nav Try.f74.body.get! [1, 0, 1, 0, 0]) Q ⟨[(0, .int .i64 p), (1, .int .i64 x), (5, .int .i64 j)], []⟩ := by
  have hb := hp.bd
  obtain ⟨h1, h2, h3⟩ := inv_spec hp hn
  have hx1 := Int.emod_nonneg x (show p ≠ 0 by omega)
  have hx2 := Int.emod_lt_of_pos x (show 0 < p by omega)
  have hmm : ∀ j : Int, j * (x % p) % p = x * j % p := fun j => by rw [Int.mul_comm, Int.mul_emod, Int.emod_emod_of_dvd _ (Int.dvd_refl p), ← Int.mul_emod]
  intro d
  induction d with
  | zero =>
    intro j hj hd
    have hj' : j = inv p x := by omega
    subst hj'
    have hm := Sm.mul (show Sm (inv p x) by unfold Sm; omega) (show Sm (x % p) by unfold Sm; omega)
    have hm0 : 0 ≤ inv p x * (x % p) := Int.mul_nonneg (by omega) (by omega)
    refine LP.round ?_
    refine WP.seq ?_
    refine WP.seq (WP.region (l := [0, 1, 2]) rfl ?_)
    refine Run.move rfl rfl rfl (.at rfl) ?_
    refine Run.move rfl rfl rfl (.at rfl) ?_
    refine Run.int rfl rfl rfl (.at rfl) (.at rfl) rfl ?_
    refine Run.nil ?_
    refine WP.cond_t (.at rfl) (by simp; omega) ?_
    refine WP.skip ?_
    refine WP.seq ?_
    refine WP.block ?_
    refine WP.seq (WP.region (l := [0, 1, 2, 3, 4, 5, 6, 7]) rfl ?_)
    refine Run.move rfl rfl rfl (.at rfl) ?_
    refine Run.move rfl rfl rfl (.at rfl) ?_
    refine Run.move rfl rfl rfl (.at rfl) ?_
    refine Run.call rfl rfl rfl (.at rfl) (.cons (.at rfl) (.cons (.at rfl) .nil)) (c_l01Mod _ _ (by omega) (by omega)) ?_
    refine Run.mul rfl rfl rfl (.at rfl) (.at rfl) (by omega) ?_
    refine Run.move rfl rfl rfl (.at rfl) ?_
    refine Run.rem rfl rfl rfl (.at rfl) (.at rfl) (by omega) (by omega) ?_
    refine Run.int rfl rfl rfl (.at rfl) (.at rfl) rfl ?_
    refine Run.nil ?_
    refine WP.cond_t (.at rfl) (by simp [hmm, h3]) ?_
    refine WP.seq (WP.region (l := [0, 1]) rfl ?_)
    refine Run.move rfl rfl rfl (.at rfl) ?_
    refine Run.assign rfl rfl rfl (.at rfl) ?_
    refine Run.nil ?_
    exact WP.keep (WP.ret hR) (by repeat (first | exact trivial | refine ⟨rfl, ?_⟩)) (by repeat (first | exact HSub.nil | refine HSub.keep ?_ | refine HSub.dead ?_))
  | succ d ih =>
    intro j hj hd
    have hm := Sm.mul (show Sm j by unfold Sm; omega) (show Sm (x % p) by unfold Sm; omega)
    have hm0 : 0 ≤ j * (x % p) := Int.mul_nonneg (by omega) (by omega)
    have hne := inv_least (p := p) (n := x) hj (by omega)
    refine LP.round ?_
    refine WP.seq ?_
    refine WP.seq (WP.region (l := [0, 1, 2]) rfl ?_)
    refine Run.move rfl rfl rfl (.at rfl) ?_
    refine Run.move rfl rfl rfl (.at rfl) ?_
    refine Run.int rfl rfl rfl (.at rfl) (.at rfl) rfl ?_
    refine Run.nil ?_
    refine WP.cond_t (.at rfl) (by simp; omega) ?_
    refine WP.skip ?_
    refine WP.seq ?_
    refine WP.block ?_
    refine WP.seq (WP.region (l := [0, 1, 2, 3, 4, 5, 6, 7]) rfl ?_)
    refine Run.move rfl rfl rfl (.at rfl) ?_
    refine Run.move rfl rfl rfl (.at rfl) ?_
    refine Run.move rfl rfl rfl (.at rfl) ?_
    refine Run.call rfl rfl rfl (.at rfl) (.cons (.at rfl) (.cons (.at rfl) .nil)) (c_l01Mod _ _ (by omega) (by omega)) ?_
    refine Run.mul rfl rfl rfl (.at rfl) (.at rfl) (by omega) ?_
    refine Run.move rfl rfl rfl (.at rfl) ?_
    refine Run.rem rfl rfl rfl (.at rfl) (.at rfl) (by omega) (by omega) ?_
    refine Run.int rfl rfl rfl (.at rfl) (.at rfl) rfl ?_
    refine Run.nil ?_
    refine WP.cond_f (.at rfl) (by simp [hmm, hne]) ?_
    refine WP.skip ?_
    refine WP.region (l := [0, 1, 2]) rfl ?_
    refine Run.move rfl rfl rfl (.at rfl) ?_
    refine Run.add rfl rfl rfl (.at rfl) (.at rfl) (by omega) ?_
    refine Run.assign rfl rfl rfl (.at rfl) ?_
    refine Run.nil ?_
    exact LP.keep (ih (j + 1) (by omega) (by omega)) (by repeat (first | exact trivial | refine ⟨rfl, ?_⟩)) (by repeat (first | exact HSub.nil | refine HSub.keep ?_ | refine HSub.dead ?_))
theorem c_l01Inverse (p x : Int) (hp : IsP p) (hn : x % p ≠ 0) : Pure Try.prog 74 [.int .i64 p, .int .i64 x] (.int .i64 (inv p x)) := by
  obtain ⟨h1, h2, h3⟩ := inv_spec hp hn
  have hb := hp.bd
  refine Pure.of_body 0 (n := 20) (fn := Try.f74) (c := Try.f74.body.get!) fn_74 rfl nm_74 rfl rfl fun C => ?_
  refine WP.seq (WP.region (l := [0]) rfl ?_)
  refine Run.assign rfl rfl rfl (.at rfl) ?_
  refine Run.nil ?_
  refine WP.seq ?_
  refine WP.seq (WP.region (l := [0]) rfl ?_)
  refine Run.assign rfl rfl rfl (.at rfl) ?_
  refine Run.nil ?_
  refine WP.block ?_
  refine WP.loop (LP.keep (l_l01Inverse hp hn ?_ (inv p x - 1).toNat 1 (by omega) (by omega)) (by repeat (first | exact trivial | refine ⟨rfl, ?_⟩)) (by repeat (first | exact HSub.nil | refine HSub.keep ?_ | refine HSub.dead ?_)))
  exact ⟨_, rfl, rfl⟩
theorem c_within (n a b : Int) : Pure Try.prog 85 [.int .i64 n, .int .i64 a, .int .i64 b] (.bool (decide (n ≥ a) && decide (n ≤ b))) := by
  refine Pure.body 0 (n := 15) (fn := Try.f85) (c := Try.f85.body.get!) fn_85 rfl nm_85 rfl rfl fun C => ?_
  refine WP.seq (WP.region (l := [0]) rfl ?_)
  refine Run.assign rfl rfl rfl (.at rfl) ?_
  refine Run.nil ?_
  refine WP.seq (WP.region (l := [0, 1, 2, 3, 4, 5, 6, 7, 8]) rfl ?_)
  refine Run.move rfl rfl rfl (.at rfl) ?_
  refine Run.move rfl rfl rfl (.at rfl) ?_
  refine Run.int rfl rfl rfl (.at rfl) (.at rfl) rfl ?_
  refine Run.move rfl rfl rfl (.at rfl) ?_
  refine' Run.guarded rfl rfl rfl rfl rfl rfl (fun ht => ?_) ?_
  rotate_left
  · skip
    refine Run.move rfl rfl rfl (.at rfl) ?_
    exact single_nil
  refine' Run.guarded rfl rfl rfl rfl rfl rfl (fun ht => ?_) ?_
  rotate_left
  · skip
    refine Run.move rfl rfl rfl (.at rfl) ?_
    exact single_nil
  refine' Run.guarded rfl rfl rfl rfl rfl rfl (fun ht => ?_) ?_
  rotate_left
  · skip
    refine Run.int rfl rfl rfl (.opt rfl ht) (.opt rfl ht) rfl ?_
    exact single_nil
  refine Run.and rfl rfl rfl (.at rfl) (.at rfl) rfl ?_
  refine Run.assign rfl rfl rfl (.at rfl) ?_
  refine Run.nil ?_
  refine WP.ret ?_
  exact Ends.pure (.tmp rfl .nil) rfl
theorem c_l01In (n a b : Int) : Pure Try.prog 69 [.int .i64 n, .int .i64 a, .int .i64 b] (.bool (decide (n ≥ a) && decide (n ≤ b))) := by
  refine Pure.body 0 (n := 15) (fn := Try.f69) (c := Try.f69.body.get!) fn_69 rfl nm_69 rfl rfl fun C => ?_
  refine WP.seq (WP.region (l := [0]) rfl ?_)
  refine Run.assign rfl rfl rfl (.at rfl) ?_
  refine Run.nil ?_
  refine WP.seq (WP.region (l := [0, 1, 2, 3, 4, 5, 6, 7, 8]) rfl ?_)
  refine Run.move rfl rfl rfl (.at rfl) ?_
  refine Run.move rfl rfl rfl (.at rfl) ?_
  refine Run.int rfl rfl rfl (.at rfl) (.at rfl) rfl ?_
  refine Run.move rfl rfl rfl (.at rfl) ?_
  refine' Run.guarded rfl rfl rfl rfl rfl rfl (fun ht => ?_) ?_
  rotate_left
  · skip
    refine Run.move rfl rfl rfl (.at rfl) ?_
    exact single_nil
  refine' Run.guarded rfl rfl rfl rfl rfl rfl (fun ht => ?_) ?_
  rotate_left
  · skip
    refine Run.move rfl rfl rfl (.at rfl) ?_
    exact single_nil
  refine' Run.guarded rfl rfl rfl rfl rfl rfl (fun ht => ?_) ?_
  rotate_left
  · skip
    refine Run.int rfl rfl rfl (.opt rfl ht) (.opt rfl ht) rfl ?_
    exact single_nil
  refine Run.and rfl rfl rfl (.at rfl) (.at rfl) rfl ?_
  refine Run.assign rfl rfl rfl (.at rfl) ?_
  refine Run.nil ?_
  refine WP.ret ?_
  exact Ends.pure (.tmp rfl .nil) rfl
end Go.Ab
