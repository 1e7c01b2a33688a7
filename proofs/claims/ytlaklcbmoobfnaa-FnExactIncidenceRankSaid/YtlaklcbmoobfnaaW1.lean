/- The walks of the arithmetic of planes: primes, remainders, inverses, products, points on lines. -/
import Derived.Test.YtlaklcbmoobfnaaP1
import Derived.Test.YtlaklcbmoobfnaaFacts
namespace Go.Ab
open Go.Proofs

theorem c_isPrime (p : Int) : Pure Try.prog 11 [.int .i64 p] (.bool (isP p)) := by
  refine Pure.of_body 0 (n := 21) (fn := Try.f11) (c := Try.f11.body.get!) fn_11 rfl nm_11 rfl rfl fun C => ?_
  refine WP.seq (WP.region (l := [0]) rfl ?_)
  refine Run.assign rfl rfl rfl (.at rfl) ?_
  refine Run.nil ?_
  refine WP.seq (WP.region (l := [0, 1, 2, 3, 4, 5, 6, 7, 8, 9, 10, 11, 12, 13, 14, 15, 16, 17, 18]) rfl ?_)
  refine Run.move rfl rfl rfl (.at rfl) ?_
  refine Run.int rfl rfl rfl (.at rfl) (.at rfl) rfl ?_
  refine Run.move rfl rfl rfl (.at rfl) ?_
  refine' Run.guarded rfl rfl rfl rfl rfl rfl (fun ht => ?_) ?_
  rotate_left
  · skip
    refine Run.move rfl rfl rfl (.at rfl) ?_
    exact single_nil
  refine' Run.guarded rfl rfl rfl rfl rfl rfl (fun ht => ?_) ?_
  rotate_left
  · skip
    refine Run.int rfl rfl rfl (.opt rfl ht) (.at rfl) rfl ?_
    exact single_nil
  refine Run.or rfl rfl rfl (.at rfl) (.at rfl) rfl ?_
  refine Run.move rfl rfl rfl (.at rfl) ?_
  refine' Run.guarded rfl rfl rfl rfl rfl rfl (fun ht => ?_) ?_
  rotate_left
  · skip
    refine Run.move rfl rfl rfl (.at rfl) ?_
    exact single_nil
  refine' Run.guarded rfl rfl rfl rfl rfl rfl (fun ht => ?_) ?_
  rotate_left
  · skip
    refine Run.int rfl rfl rfl (.opt rfl ht) (.at rfl) rfl ?_
    exact single_nil
  refine Run.or rfl rfl rfl (.at rfl) (.at rfl) rfl ?_
  refine Run.move rfl rfl rfl (.at rfl) ?_
  refine' Run.guarded rfl rfl rfl rfl rfl rfl (fun ht => ?_) ?_
  rotate_left
  · skip
    refine Run.move rfl rfl rfl (.at rfl) ?_
    exact single_nil
  refine' Run.guarded rfl rfl rfl rfl rfl rfl (fun ht => ?_) ?_
  rotate_left
  · skip
    refine Run.int rfl rfl rfl (.opt rfl ht) (.at rfl) rfl ?_
    exact single_nil
  refine Run.or rfl rfl rfl (.at rfl) (.at rfl) rfl ?_
  refine Run.move rfl rfl rfl (.at rfl) ?_
  refine' Run.guarded rfl rfl rfl rfl rfl rfl (fun ht => ?_) ?_
  rotate_left
  · skip
    refine Run.move rfl rfl rfl (.at rfl) ?_
    exact single_nil
  refine' Run.guarded rfl rfl rfl rfl rfl rfl (fun ht => ?_) ?_
  rotate_left
  · skip
    refine Run.int rfl rfl rfl (.opt rfl ht) (.at rfl) rfl ?_
    exact single_nil
  refine Run.or rfl rfl rfl (.at rfl) (.at rfl) rfl ?_
  refine Run.assign rfl rfl rfl (.at rfl) ?_
  refine Run.nil ?_
  refine WP.ret ?_
  exact ⟨_, rfl, rfl⟩
theorem c_l01Prime (p : Int) : Pure Try.prog 6 [.int .i64 p] (.bool (isP p)) := by
  refine Pure.of_body 0 (n := 21) (fn := Try.f6) (c := Try.f6.body.get!) fn_6 rfl nm_6 rfl rfl fun C => ?_
  refine WP.seq (WP.region (l := [0]) rfl ?_)
  refine Run.assign rfl rfl rfl (.at rfl) ?_
  refine Run.nil ?_
  refine WP.seq (WP.region (l := [0, 1, 2, 3, 4, 5, 6, 7, 8, 9, 10, 11, 12, 13, 14, 15, 16, 17, 18]) rfl ?_)
  refine Run.move rfl rfl rfl (.at rfl) ?_
  refine Run.int rfl rfl rfl (.at rfl) (.at rfl) rfl ?_
  refine Run.move rfl rfl rfl (.at rfl) ?_
  refine' Run.guarded rfl rfl rfl rfl rfl rfl (fun ht => ?_) ?_
  rotate_left
  · skip
    refine Run.move rfl rfl rfl (.at rfl) ?_
    exact single_nil
  refine' Run.guarded rfl rfl rfl rfl rfl rfl (fun ht => ?_) ?_
  rotate_left
  · skip
    refine Run.int rfl rfl rfl (.opt rfl ht) (.at rfl) rfl ?_
    exact single_nil
  refine Run.or rfl rfl rfl (.at rfl) (.at rfl) rfl ?_
  refine Run.move rfl rfl rfl (.at rfl) ?_
  refine' Run.guarded rfl rfl rfl rfl rfl rfl (fun ht => ?_) ?_
  rotate_left
  · skip
    refine Run.move rfl rfl rfl (.at rfl) ?_
    exact single_nil
  refine' Run.guarded rfl rfl rfl rfl rfl rfl (fun ht => ?_) ?_
  rotate_left
  · skip
    refine Run.int rfl rfl rfl (.opt rfl ht) (.at rfl) rfl ?_
    exact single_nil
  refine Run.or rfl rfl rfl (.at rfl) (.at rfl) rfl ?_
  refine Run.move rfl rfl rfl (.at rfl) ?_
  refine' Run.guarded rfl rfl rfl rfl rfl rfl (fun ht => ?_) ?_
  rotate_left
  · skip
    refine Run.move rfl rfl rfl (.at rfl) ?_
    exact single_nil
  refine' Run.guarded rfl rfl rfl rfl rfl rfl (fun ht => ?_) ?_
  rotate_left
  · skip
    refine Run.int rfl rfl rfl (.opt rfl ht) (.at rfl) rfl ?_
    exact single_nil
  refine Run.or rfl rfl rfl (.at rfl) (.at rfl) rfl ?_
  refine Run.move rfl rfl rfl (.at rfl) ?_
  refine' Run.guarded rfl rfl rfl rfl rfl rfl (fun ht => ?_) ?_
  rotate_left
  · skip
    refine Run.move rfl rfl rfl (.at rfl) ?_
    exact single_nil
  refine' Run.guarded rfl rfl rfl rfl rfl rfl (fun ht => ?_) ?_
  rotate_left
  · skip
    refine Run.int rfl rfl rfl (.opt rfl ht) (.at rfl) rfl ?_
    exact single_nil
  refine Run.or rfl rfl rfl (.at rfl) (.at rfl) rfl ?_
  refine Run.assign rfl rfl rfl (.at rfl) ?_
  refine Run.nil ?_
  refine WP.ret ?_
  exact ⟨_, rfl, rfl⟩
theorem c_mod (a p : Int) (hp : 0 < p) (hp' : p ≤ 1000) : Pure Try.prog 16 [.int .i64 a, .int .i64 p] (.int .i64 (a % p)) := by
  have h1 : -p < a.tmod p ∧ a.tmod p < p := ⟨by have := Int.lt_tmod_of_pos a hp; omega, Int.tmod_lt_of_pos a hp⟩
  refine Pure.of_body 0 (n := 12) (fn := Try.f16) (c := Try.f16.body.get!) fn_16 rfl nm_16 rfl rfl fun C => ?_
  refine WP.seq (WP.region (l := [0]) rfl ?_)
  refine Run.assign rfl rfl rfl (.at rfl) ?_
  refine Run.nil ?_
  refine WP.seq (WP.region (l := [0, 1, 2, 3, 4, 5, 6, 7]) rfl ?_)
  refine Run.move rfl rfl rfl (.at rfl) ?_
  refine Run.move rfl rfl rfl (.at rfl) ?_
  refine Run.tmod rfl rfl rfl (.at rfl) (.at rfl) (by omega) ?_
  refine Run.move rfl rfl rfl (.at rfl) ?_
  refine Run.add rfl rfl rfl (.at rfl) (.at rfl) (by omega) ?_
  refine Run.move rfl rfl rfl (.at rfl) ?_
  refine Run.rem rfl rfl rfl (.at rfl) (.at rfl) (by omega) (by omega) ?_
  refine Run.assign rfl rfl rfl (.at rfl) ?_
  refine Run.nil ?_
  refine WP.ret ?_
  refine ⟨_, rfl, ?_⟩
  show AV.int _ _ = _
  congr 1
  exact mod_twice a p hp
theorem c_l01Mod (p a : Int) (hp : 0 < p) (hp' : p ≤ 1000) : Pure Try.prog 10 [.int .i64 p, .int .i64 a] (.int .i64 (a % p)) := by
  have h1 : -p < a.tmod p ∧ a.tmod p < p := ⟨by have := Int.lt_tmod_of_pos a hp; omega, Int.tmod_lt_of_pos a hp⟩
  refine Pure.of_body 0 (n := 12) (fn := Try.f10) (c := Try.f10.body.get!) fn_10 rfl nm_10 rfl rfl fun C => ?_
  refine WP.seq (WP.region (l := [0]) rfl ?_)
  refine Run.assign rfl rfl rfl (.at rfl) ?_
  refine Run.nil ?_
  refine WP.seq (WP.region (l := [0, 1, 2, 3, 4, 5, 6, 7]) rfl ?_)
  refine Run.move rfl rfl rfl (.at rfl) ?_
  refine Run.move rfl rfl rfl (.at rfl) ?_
  refine Run.tmod rfl rfl rfl (.at rfl) (.at rfl) (by omega) ?_
  refine Run.move rfl rfl rfl (.at rfl) ?_
  refine Run.add rfl rfl rfl (.at rfl) (.at rfl) (by omega) ?_
  refine Run.move rfl rfl rfl (.at rfl) ?_
  refine Run.rem rfl rfl rfl (.at rfl) (.at rfl) (by omega) (by omega) ?_
  refine Run.assign rfl rfl rfl (.at rfl) ?_
  refine Run.nil ?_
  refine WP.ret ?_
  refine ⟨_, rfl, ?_⟩
  show AV.int _ _ = _
  congr 1
  exact mod_twice a p hp

theorem l_inverse {C : Cx Try.prog 15} {Q : Post} {p n : Int} (hp : IsP p) (hn : n % p ≠ 0) (hs : Sm n) (hQ : Q (.exit 0) ⟨[(0, .int .i64 n), (1, .int .i64 p), (5, .int .i64 (inv p n))], []⟩) :
    ∀ (d : Nat) (j : Int), 1 ≤ j → j + d = inv p n → LP C (nav Try.f14.body.get! [1, 1, 0, 0, 0]) Q ⟨[(0, .int .i64 n), (1, .int .i64 p), (5, .int .i64 j)], []⟩ := by
  have hb := hp.bd
  obtain ⟨h1, h2, h3⟩ := inv_spec hp hn
  intro d
  induction d with
  | zero =>
    intro j hj hd
    have hj' : j = inv p n := by omega
    subst hj'
    have hm := Sm.mul hs (show Sm (inv p n) by unfold Sm; omega)
    refine LP.round ?_
    refine WP.seq ?_
    refine WP.seq (WP.region (l := [0, 1, 2, 3, 4, 5]) rfl ?_)
    refine Run.move rfl rfl rfl (.at rfl) ?_
    refine Run.move rfl rfl rfl (.at rfl) ?_
    refine Run.mul rfl rfl rfl (.at rfl) (.at rfl) (by omega) ?_
    refine Run.move rfl rfl rfl (.at rfl) ?_
    refine Run.call rfl rfl rfl (.at rfl) (.cons (.at rfl) (.cons (.at rfl) .nil)) (c_mod _ _ (by omega) (by omega)) ?_
    refine Run.int rfl rfl rfl (.at rfl) (.at rfl) rfl ?_
    refine Run.nil ?_
    refine WP.cond_f (.at rfl) (by simp [h3]) ?_
    exact WP.keep (WP.exit hQ) (by repeat (first | exact trivial | refine ⟨rfl, ?_⟩)) (by repeat (first | exact HSub.nil | refine HSub.keep ?_ | refine HSub.dead ?_))
  | succ d ih =>
    intro j hj hd
    have hm := Sm.mul hs (show Sm j by unfold Sm; omega)
    have hne := inv_least (p := p) (n := n) hj (by omega)
    refine LP.round ?_
    refine WP.seq ?_
    refine WP.seq (WP.region (l := [0, 1, 2, 3, 4, 5]) rfl ?_)
    refine Run.move rfl rfl rfl (.at rfl) ?_
    refine Run.move rfl rfl rfl (.at rfl) ?_
    refine Run.mul rfl rfl rfl (.at rfl) (.at rfl) (by omega) ?_
    refine Run.move rfl rfl rfl (.at rfl) ?_
    refine Run.call rfl rfl rfl (.at rfl) (.cons (.at rfl) (.cons (.at rfl) .nil)) (c_mod _ _ (by omega) (by omega)) ?_
    refine Run.int rfl rfl rfl (.at rfl) (.at rfl) rfl ?_
    refine Run.nil ?_
    refine WP.cond_t (.at rfl) (by simp [hne]) ?_
    refine WP.skip ?_
    refine WP.block ?_
    refine WP.region (l := [0, 1, 2]) rfl ?_
    refine Run.move rfl rfl rfl (.at rfl) ?_
    refine Run.add rfl rfl rfl (.at rfl) (.at rfl) (by omega) ?_
    refine Run.assign rfl rfl rfl (.at rfl) ?_
    refine Run.nil ?_
    exact LP.keep (ih (j + 1) (by omega) (by omega)) (by repeat (first | exact trivial | refine ⟨rfl, ?_⟩)) (by repeat (first | exact HSub.nil | refine HSub.keep ?_ | refine HSub.dead ?_))
theorem c_inverse (n p : Int) (hp : IsP p) (hn : n % p ≠ 0) (hs : Sm n) : Pure Try.prog 14 [.int .i64 n, .int .i64 p] (.int .i64 (inv p n)) := by
  obtain ⟨h1, h2, h3⟩ := inv_spec hp hn
  refine Pure.of_body 0 (n := 15) (fn := Try.f14) (c := Try.f14.body.get!) fn_14 rfl nm_14 rfl rfl fun C => ?_
  refine WP.seq (WP.region (l := [0]) rfl ?_)
  refine Run.assign rfl rfl rfl (.at rfl) ?_
  refine Run.nil ?_
  refine WP.seq (WP.region (l := [0]) rfl ?_)
  refine Run.assign rfl rfl rfl (.at rfl) ?_
  refine Run.nil ?_
  refine WP.seq ?_
  refine WP.block ?_
  refine WP.loop (LP.keep (l_inverse hp hn hs ?_ (inv p n - 1).toNat 1 (by omega) (by omega)) (by repeat (first | exact trivial | refine ⟨rfl, ?_⟩)) (by repeat (first | exact HSub.nil | refine HSub.keep ?_ | refine HSub.dead ?_)))
  refine WP.seq (WP.region (l := [0, 1]) rfl ?_)
  refine Run.move rfl rfl rfl (.at rfl) ?_
  refine Run.assign rfl rfl rfl (.at rfl) ?_
  refine Run.nil ?_
  refine WP.ret ?_
  exact ⟨_, rfl, rfl⟩
end Go.Ab
