/- The walks of the normal form. -/
import Derived.Test.YtlipjbfmmheicaaP3
import Derived.Test.YtlipjbfmmheicaaB2
namespace Go.Ab
open Go.Proofs

theorem l_normal {C : Cx Try.prog 38} {Q : Post} {p : Int} {l : List Int} {n b : Nat} {o : Bool} (hp : IsP p) (hl : n ≤ 1000000) (hn : l.length = n)
    (hQ : Q (.exit 0) ⟨[(5, .int .i64 (facOf p l))], [[(b, ints (norml p l))]]⟩) :
    ∀ (d k : Nat) (f : Int) (cs : List AV), k + d = n → f = facTo p l k → cs = ints (nTo p l k) → LP C (nav Try.f64.body.get! [1, 1, 0, 1, 0, 0]) Q ⟨[(0, .int .i64 p), (1, .own 0 b 1 0 n n o), (5, .int .i64 f), (8, .own 0 b 1 0 n n o), (9, .int .i64 n), (10, .int .i64 k)], [[(b, cs)]]⟩ := by
  have hb := hp.bd
  intro d
  induction d with
  | zero =>
    intro k f cs hd hf hc
    have hk : k = n := by omega
    refine LP.round ?_
    refine WP.seq (WP.region (l := [0]) rfl ?_)
    refine Run.int rfl rfl rfl (.at rfl) (.at rfl) rfl ?_
    refine Run.nil ?_
    refine WP.seq ?_
    refine WP.cond_f (.at rfl) (by simp; omega) ?_
    rw [hk, nTo_full hn] at hc
    have hf' : f = facOf p l := by rw [hf]; unfold facTo; rw [List.take_of_length_le (by omega)]
    subst hf' hc
    exact WP.keep (WP.exit hQ) (by repeat (first | exact trivial | refine ⟨rfl, ?_⟩)) (by repeat (first | exact HSub.nil | refine HSub.keep ?_ | refine HSub.dead ?_))
  | succ d ih =>
    intro k f cs hd hf hc
    have hk : k < l.length := by omega
    have hfn := facTo_next hp hk
    rw [← hf] at hfn
    have hf0 : 0 ≤ f ∧ f < p := by rw [hf]; exact facOf_rng hp _
    have hf1 : 0 ≤ facTo p l (k + 1) ∧ facTo p l (k + 1) < p := facOf_rng hp _
    have hx1 := Int.emod_nonneg (l.getD k 0) (show p ≠ 0 by omega)
    have hx2 := Int.emod_lt_of_pos (l.getD k 0) (show 0 < p by omega)
    have hm := Sm.mul (show Sm (l.getD k 0 % p) by unfold Sm; omega) (show Sm (facTo p l (k + 1)) by unfold Sm; omega)
    have hc1 : cs[0 + k * 1]? = some (.int .i64 (l.getD k 0)) := by rw [hc, ints_at (by rw [nTo_length (by omega)]; omega), nTo_getD hk]
    have hcl : cs.length = n := by rw [hc, ints_length, nTo_length (by omega), hn]
    have hsm : Sm (l.getD k 0 % p) := by unfold Sm; omega
    have hvi : inv p (l.getD k 0 % p) = inv p (l.getD k 0) := (invGo_mod p _ 13 1).symm
    refine LP.round ?_
    refine WP.seq (WP.region (l := [0]) rfl ?_)
    refine Run.int rfl rfl rfl (.at rfl) (.at rfl) rfl ?_
    refine Run.nil ?_
    refine WP.seq ?_
    refine WP.cond_t (.at rfl) (by simp; omega) ?_
    refine WP.skip ?_
    refine WP.seq ?_
    refine WP.block ?_
    refine WP.seq (WP.region (l := [0, 1, 2, 3, 4]) rfl ?_)
    refine Run.move rfl rfl rfl (.at rfl) ?_
    refine Run.idx (j := k) rfl rfl rfl (.at rfl) (.at rfl) sl_73_1 rfl (show k < n by omega) ?_
    refine Run.load rfl rfl rfl (.at rfl) (place_adr rfl) sc_2 hc1 ?_
    refine Run.assign rfl rfl rfl (.at rfl) ?_
    refine Run.assign rfl rfl rfl (.at rfl) ?_
    refine Run.nil ?_
    refine WP.seq (WP.region (l := [0, 1, 2, 3]) rfl ?_)
    refine Run.move rfl rfl rfl (.at rfl) ?_
    refine Run.move rfl rfl rfl (.at rfl) ?_
    refine Run.call rfl rfl rfl (.at rfl) (.cons (.at rfl) (.cons (.at rfl) .nil)) (c_mod _ _ (by omega) (by omega)) ?_
    refine Run.assign rfl rfl rfl (.at rfl) ?_
    refine Run.nil ?_
    refine WP.seq ?_
    refine WP.seq (WP.region (l := [0, 1, 2, 3, 4, 5]) rfl ?_)
    refine Run.move rfl rfl rfl (.at rfl) ?_
    refine Run.int rfl rfl rfl (.at rfl) (.at rfl) rfl ?_
    refine Run.move rfl rfl rfl (.at rfl) ?_
    refine' Run.guarded rfl rfl rfl rfl rfl rfl (fun ht => ?_) ?_
    rotate_left
    · skip
      refine Run.move rfl rfl rfl (.at rfl) ?_
      exact single_nil
    refine' Run.guarded rfl rfl rfl rfl rfl rfl (fun ht => ?_) ?_
    rotate_left
    · skip
      refine Run.int rfl rfl rfl (.opt rfl ht) (.at rfl) rfl ?_
      exact single_nil
    refine Run.and rfl rfl rfl (.at rfl) (.at rfl) rfl ?_
    refine Run.nil ?_
    refine WP.cond (.at rfl) (fun hc1 => ?_) (fun hc1 => ?_)
    · have hne : l.getD k 0 % p % p ≠ 0 := by simp only [Bool.and_eq_true] at hc1; rw [Int.emod_eq_of_lt hx1 hx2]; simpa using hc1.2
      rw [if_pos hc1] at hfn
      rw [← hvi] at hfn
      rw [hfn] at hm
      refine WP.region (l := [0, 1, 2, 3]) rfl ?_
      refine Run.move rfl rfl rfl (.at rfl) ?_
      refine Run.move rfl rfl rfl (.at rfl) ?_
      refine Run.call rfl rfl rfl (.at rfl) (.cons (.at rfl) (.cons (.at rfl) .nil)) (c_inverse _ _ hp hne hsm) ?_
      refine Run.assign rfl rfl rfl (.at rfl) ?_
      refine Run.nil ?_
      refine WP.region (l := [0, 1, 2, 3, 4, 5, 6, 7, 8]) rfl ?_
      refine Run.move rfl rfl rfl (.at rfl) ?_
      refine Run.move rfl rfl rfl (.at rfl) ?_
      refine Run.move rfl rfl rfl (.at rfl) ?_
      refine Run.move rfl rfl rfl (.at rfl) ?_
      refine Run.mul rfl rfl rfl (.at rfl) (.at rfl) (by omega) ?_
      refine Run.move rfl rfl rfl (.at rfl) ?_
      refine Run.call rfl rfl rfl (.at rfl) (.cons (.at rfl) (.cons (.at rfl) .nil)) (c_mod _ _ (by omega) (by omega)) ?_
      refine Run.idx (j := k) rfl rfl rfl (.at rfl) (.at rfl) sl_73_1 rfl (show k < n by omega) ?_
      refine Run.store (j := 0) rfl rfl (.at rfl) rfl rfl (.at rfl) sz_2_1 rfl rfl (by omega) rfl ?_
      refine Run.nil ?_
      refine WP.region (l := [0, 1]) rfl ?_
      refine Run.add rfl rfl rfl (.at rfl) (.at rfl) (by omega) ?_
      refine Run.move rfl rfl rfl (.at rfl) ?_
      refine Run.nil ?_
      refine LP.keep (ih (k + 1) _ _ (by omega) hfn.symm ?_) (by repeat (first | exact trivial | refine ⟨rfl, ?_⟩)) (by repeat (first | exact HSub.nil | refine HSub.keep ?_ | refine HSub.dead ?_))
      rw [hc, ← hfn]
      exact nTo_next hk
    · rw [if_neg (by rw [hc1]; decide)] at hfn
      rw [hfn] at hm
      refine WP.skip ?_
      refine WP.region (l := [0, 1, 2, 3, 4, 5, 6, 7, 8]) rfl ?_
      refine Run.move rfl rfl rfl (.at rfl) ?_
      refine Run.move rfl rfl rfl (.at rfl) ?_
      refine Run.move rfl rfl rfl (.at rfl) ?_
      refine Run.move rfl rfl rfl (.at rfl) ?_
      refine Run.mul rfl rfl rfl (.at rfl) (.at rfl) (by omega) ?_
      refine Run.move rfl rfl rfl (.at rfl) ?_
      refine Run.call rfl rfl rfl (.at rfl) (.cons (.at rfl) (.cons (.at rfl) .nil)) (c_mod _ _ (by omega) (by omega)) ?_
      refine Run.idx (j := k) rfl rfl rfl (.at rfl) (.at rfl) sl_73_1 rfl (show k < n by omega) ?_
      refine Run.store (j := 0) rfl rfl (.at rfl) rfl rfl (.at rfl) sz_2_1 rfl rfl (by omega) rfl ?_
      refine Run.nil ?_
      refine WP.region (l := [0, 1]) rfl ?_
      refine Run.add rfl rfl rfl (.at rfl) (.at rfl) (by omega) ?_
      refine Run.move rfl rfl rfl (.at rfl) ?_
      refine Run.nil ?_
      refine LP.keep (ih (k + 1) _ _ (by omega) hfn.symm ?_) (by repeat (first | exact trivial | refine ⟨rfl, ?_⟩)) (by repeat (first | exact HSub.nil | refine HSub.keep ?_ | refine HSub.dead ?_))
      rw [hc, ← hfn]
      exact nTo_next hk
theorem c_normal (id b n : Nat) (o : Bool) (p : Int) (l : List Int) (hp : IsP p) (hl : n ≤ 1000000) (hn : l.length = n) :
    Acts Try.prog 64 [.int .i64 p, .own id b 1 0 n n o] [[(b, ints l)]] (fun x H => x = .bool (facOf p l != 0) ∧ H = [[(b, ints (norml p l))]]) := by
  refine Acts.body 0 (n := 38) (fn := Try.f64) (c := Try.f64.body.get!) fn_64 rfl nm_64 rfl rfl fun C => ?_
  refine WP.seq (WP.region (l := [0]) rfl ?_)
  refine Run.assign rfl rfl rfl (.at rfl) ?_
  refine Run.nil ?_
  refine WP.seq (WP.region (l := [0]) rfl ?_)
  refine Run.assign rfl rfl rfl (.at rfl) ?_
  refine Run.nil ?_
  refine WP.seq ?_
  refine WP.seq (WP.region (l := [0, 1, 2]) rfl ?_)
  refine Run.move rfl rfl rfl (.at rfl) ?_
  refine Run.len rfl rfl rfl (.at rfl) is_73 rfl ?_
  refine Run.move rfl rfl rfl (.at rfl) ?_
  refine Run.nil ?_
  refine WP.block ?_
  refine WP.weak 1 rfl (fun _ _ _ h => own_name 0 h) ?_
  refine WP.weak 8 rfl (fun _ _ _ h => own_name 0 h) ?_
  refine WP.loop (LP.keep (l_normal (l := l) (o := o) hp hl hn ?_ n 0 0 _ (by omega) rfl ?_) (by repeat (first | exact trivial | refine ⟨rfl, ?_⟩)) (by repeat (first | exact HSub.nil | refine HSub.keep ?_ | refine HSub.dead ?_)))
  rotate_left
  · rw [nTo_zero]
  refine WP.seq (WP.region (l := [0, 1, 2]) rfl ?_)
  refine Run.move rfl rfl rfl (.at rfl) ?_
  refine Run.int rfl rfl rfl (.at rfl) (.at rfl) rfl ?_
  refine Run.assign rfl rfl rfl (.at rfl) ?_
  refine Run.nil ?_
  refine WP.ret ?_
  exact ⟨_, [[(b, ints (norml p l))]], (.tmp rfl .nil), Moved.pick (is := [0]) rfl, rfl, rfl⟩
end Go.Ab
