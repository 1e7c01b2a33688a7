/- The walks of what is normal. -/
import Derived.Test.YtlipjbfmmheicaaP2
import Derived.Test.YtlipjbfmmheicaaB1
namespace Go.Ab
open Go.Proofs

theorem l_areNumbers {C : Cx Try.prog 19} {Q : Post} {p : Int} {l : List Int} {n : Nat} (hp : IsP p) (hl : n ≤ 1000000) (hn : l.length = n)
    (hQ : allIn p l = true → Q (.exit 0) ⟨[], []⟩) (hR : allIn p l = false → Q .ret ⟨[(4, .bool false)], []⟩) :
    ∀ (d k : Nat), k + d = n → allIn p l = allIn p (l.drop k) → LP C (nav Try.f82.body.get! [1, 0, 1, 0, 0]) Q ⟨[(0, .int .i64 p), (7, .imm (ints l) n), (8, .int .i64 n), (9, .int .i64 k)], []⟩ := by
  have hb := hp.bd
  intro d
  induction d with
  | zero =>
    intro k hd he
    have he' : allIn p l = true := by rw [he, List.drop_eq_nil_of_le (by omega)]; rfl
    refine LP.round ?_
    refine WP.seq (WP.region (l := [0]) rfl ?_)
    refine Run.int rfl rfl rfl (.at rfl) (.at rfl) rfl ?_
    refine Run.nil ?_
    refine WP.seq ?_
    refine WP.cond_f (.at rfl) (by simp; omega) ?_
    exact WP.keep (WP.exit (hQ he')) (by repeat (first | exact trivial | refine ⟨rfl, ?_⟩)) (by repeat (first | exact HSub.nil | refine HSub.keep ?_ | refine HSub.dead ?_))
  | succ d ih =>
    intro k hd he
    have hk : k < l.length := by omega
    rw [drop_getD hk] at he
    refine LP.round ?_
    refine WP.seq (WP.region (l := [0]) rfl ?_)
    refine Run.int rfl rfl rfl (.at rfl) (.at rfl) rfl ?_
    refine Run.nil ?_
    refine WP.seq ?_
    refine WP.cond_t (.at rfl) (by simp; omega) ?_
    refine WP.skip ?_
    refine WP.seq ?_
    refine WP.block ?_
    refine WP.seq (WP.region (l := [0, 1, 2]) rfl ?_)
    refine Run.idx_imm (j := k) rfl rfl rfl (.at rfl) (.at rfl) sl_73_1 rfl (show k < n by omega) ?_
    refine Run.load rfl rfl rfl (.at rfl) .imm sc_2 (ints_at' hk) ?_
    refine Run.assign rfl rfl rfl (.at rfl) ?_
    refine Run.nil ?_
    refine WP.seq (WP.region (l := [0, 1, 2, 3, 4]) rfl ?_)
    refine Run.move rfl rfl rfl (.at rfl) ?_
    refine Run.move rfl rfl rfl (.at rfl) ?_
    refine Run.sub rfl rfl rfl (.at rfl) (.at rfl) (by omega) ?_
    refine Run.call rfl rfl rfl (.at rfl) (.cons (.at rfl) (.cons (.at rfl) (.cons (.at rfl) .nil))) (c_within _ _ _) ?_
    refine Run.not rfl rfl rfl (.at rfl) ?_
    refine Run.nil ?_
    refine WP.cond (.at rfl) (fun hc1 => ?_) (fun hc1 => ?_)
    · have he' : allIn p l = false := by rw [he]; simp only [Bool.not_eq_true'] at hc1; simp only [allIn, List.all_cons, inR, hc1, Bool.false_and]
      refine WP.seq (WP.region (l := [0]) rfl ?_)
      refine Run.assign rfl rfl rfl (.at rfl) ?_
      refine Run.nil ?_
      exact WP.keep (WP.ret (hR he')) (by repeat (first | exact trivial | refine ⟨rfl, ?_⟩)) (by repeat (first | exact HSub.nil | refine HSub.keep ?_ | refine HSub.dead ?_))
    · have he' : allIn p l = allIn p (l.drop (k + 1)) := by rw [he]; simp only [Bool.not_eq_false'] at hc1; simp only [allIn, List.all_cons, inR, hc1, Bool.true_and]
      refine WP.skip ?_
      refine WP.region (l := [0, 1]) rfl ?_
      refine Run.add rfl rfl rfl (.at rfl) (.at rfl) (by omega) ?_
      refine Run.move rfl rfl rfl (.at rfl) ?_
      refine Run.nil ?_
      exact LP.keep (ih (k + 1) (by omega) he') (by repeat (first | exact trivial | refine ⟨rfl, ?_⟩)) (by repeat (first | exact HSub.nil | refine HSub.keep ?_ | refine HSub.dead ?_))
theorem c_areNumbers (p : Int) (l : List Int) {n : Nat} (hp : IsP p) (hl : n ≤ 1000000) (hn : l.length = n) : Pure Try.prog 82 [.int .i64 p, .imm (ints l) n] (.bool (allIn p l)) := by
  refine Pure.body 0 (n := 19) (fn := Try.f82) (c := Try.f82.body.get!) fn_82 rfl nm_82 rfl rfl fun C => ?_
  refine WP.seq (WP.region (l := [0]) rfl ?_)
  refine Run.assign rfl rfl rfl (.at rfl) ?_
  refine Run.nil ?_
  refine WP.seq ?_
  refine WP.seq (WP.region (l := [0, 1, 2]) rfl ?_)
  refine Run.move rfl rfl rfl (.at rfl) ?_
  refine Run.len rfl rfl rfl (.at rfl) is_73 rfl ?_
  refine Run.move rfl rfl rfl (.at rfl) ?_
  refine Run.nil ?_
  refine WP.block ?_
  refine WP.loop (LP.keep (l_areNumbers (l := l) hp hl hn (fun h => ?_) (fun h => ?_) n 0 (by omega) rfl) (by repeat (first | exact trivial | refine ⟨rfl, ?_⟩)) (by repeat (first | exact HSub.nil | refine HSub.keep ?_ | refine HSub.dead ?_)))
  rotate_left
  · exact Ends.pure (.tmp rfl .nil) (by rw [h]; rfl)
  refine WP.seq (WP.region (l := [0]) rfl ?_)
  refine Run.assign rfl rfl rfl (.at rfl) ?_
  refine Run.nil ?_
  refine WP.ret ?_
  exact Ends.pure (.tmp rfl .nil) (by rw [h]; rfl)

theorem l_isNormal {C : Cx Try.prog 23} {Q : Post} {p : Int} {l : List Int} {n : Nat} (hp : IsP p) (hl : n ≤ 1000000) (hn : l.length = n)
    (hQ : nrm p l = false → Q (.exit 0) ⟨[], []⟩) (hR : Q .ret ⟨[(4, .bool (nrm p l))], []⟩) :
    ∀ (d k : Nat), k + d = n → l.find? nz = (l.drop k).find? nz → LP C (nav Try.f76.body.get! [1, 0, 1, 0, 0]) Q ⟨[(0, .int .i64 p), (1, .imm (ints l) n), (7, .imm (ints l) n), (8, .int .i64 n), (9, .int .i64 k)], []⟩ := by
  have hb := hp.bd
  intro d
  induction d with
  | zero =>
    intro k hd he
    have he' : nrm p l = false := by
      unfold nrm firstNz
      rw [he, List.drop_eq_nil_of_le (by omega)]
      simp
    refine LP.round ?_
    refine WP.seq (WP.region (l := [0]) rfl ?_)
    refine Run.int rfl rfl rfl (.at rfl) (.at rfl) rfl ?_
    refine Run.nil ?_
    refine WP.seq ?_
    refine WP.cond_f (.at rfl) (by simp; omega) ?_
    exact WP.keep (WP.exit (hQ he')) (by repeat (first | exact trivial | refine ⟨rfl, ?_⟩)) (by repeat (first | exact HSub.nil | refine HSub.keep ?_ | refine HSub.dead ?_))
  | succ d ih =>
    intro k hd he
    have hk : k < l.length := by omega
    rw [drop_getD hk, List.find?_cons] at he
    refine LP.round ?_
    refine WP.seq (WP.region (l := [0]) rfl ?_)
    refine Run.int rfl rfl rfl (.at rfl) (.at rfl) rfl ?_
    refine Run.nil ?_
    refine WP.seq ?_
    refine WP.cond_t (.at rfl) (by simp; omega) ?_
    refine WP.skip ?_
    refine WP.seq ?_
    refine WP.block ?_
    refine WP.seq (WP.region (l := [0, 1, 2]) rfl ?_)
    refine Run.idx_imm (j := k) rfl rfl rfl (.at rfl) (.at rfl) sl_73_1 rfl (show k < n by omega) ?_
    refine Run.load rfl rfl rfl (.at rfl) .imm sc_2 (ints_at' hk) ?_
    refine Run.assign rfl rfl rfl (.at rfl) ?_
    refine Run.nil ?_
    refine WP.seq (WP.region (l := [0, 1]) rfl ?_)
    refine Run.move rfl rfl rfl (.at rfl) ?_
    refine Run.int rfl rfl rfl (.at rfl) (.at rfl) rfl ?_
    refine Run.nil ?_
    refine WP.cond (.at rfl) (fun hc1 => ?_) (fun hc1 => ?_)
    · have hz : nz (l.getD k 0) = true := hc1
      rw [hz] at he
      have hv : ((l.getD k 0 == 1) && allIn p l) = nrm p l := by unfold nrm firstNz; rw [he]; simp [Bool.and_comm]
      refine WP.seq (WP.region (l := [0, 1, 2, 3, 4, 5, 6, 7]) rfl ?_)
      refine Run.move rfl rfl rfl (.at rfl) ?_
      refine Run.int rfl rfl rfl (.at rfl) (.at rfl) rfl ?_
      refine Run.move rfl rfl rfl (.at rfl) ?_
      refine' Run.guarded rfl rfl rfl rfl rfl rfl (fun ht => ?_) ?_
      rotate_left
      · skip
        refine Run.move rfl rfl rfl (.at rfl) ?_
        exact single_nil
      refine' Run.guarded rfl rfl rfl rfl rfl rfl (fun ht => ?_) ?_
      rotate_left
      · skip
        refine Run.move rfl rfl rfl (.at rfl) ?_
        exact single_nil
      refine' Run.guarded rfl rfl rfl rfl rfl rfl (fun ht => ?_) ?_
      rotate_left
      · skip
        refine Run.call rfl rfl rfl (.at rfl) (.cons (.opt rfl ht) (.cons (.opt rfl ht) .nil)) (c_areNumbers _ _ hp hl hn) ?_
        exact single_nil
      refine Run.and rfl rfl rfl (.at rfl) (.at rfl) rfl ?_
      refine Run.assign rfl rfl rfl (.at rfl) ?_
      refine Run.nil ?_
      rw [← hv] at hR
      exact WP.keep (WP.ret hR) (by repeat (first | exact trivial | refine ⟨rfl, ?_⟩)) (by repeat (first | exact HSub.nil | refine HSub.keep ?_ | refine HSub.dead ?_))
    · have hz : nz (l.getD k 0) = false := hc1
      rw [hz] at he
      refine WP.skip ?_
      refine WP.region (l := [0, 1]) rfl ?_
      refine Run.add rfl rfl rfl (.at rfl) (.at rfl) (by omega) ?_
      refine Run.move rfl rfl rfl (.at rfl) ?_
      refine Run.nil ?_
      exact LP.keep (ih (k + 1) (by omega) he) (by repeat (first | exact trivial | refine ⟨rfl, ?_⟩)) (by repeat (first | exact HSub.nil | refine HSub.keep ?_ | refine HSub.dead ?_))
theorem c_isNormal (p : Int) (l : List Int) {n : Nat} (hp : IsP p) (hl : n ≤ 1000000) (hn : l.length = n) : Pure Try.prog 76 [.int .i64 p, .imm (ints l) n] (.bool (nrm p l)) := by
  refine Pure.body 0 (n := 23) (fn := Try.f76) (c := Try.f76.body.get!) fn_76 rfl nm_76 rfl rfl fun C => ?_
  refine WP.seq (WP.region (l := [0]) rfl ?_)
  refine Run.assign rfl rfl rfl (.at rfl) ?_
  refine Run.nil ?_
  refine WP.seq ?_
  refine WP.seq (WP.region (l := [0, 1, 2]) rfl ?_)
  refine Run.move rfl rfl rfl (.at rfl) ?_
  refine Run.len rfl rfl rfl (.at rfl) is_73 rfl ?_
  refine Run.move rfl rfl rfl (.at rfl) ?_
  refine Run.nil ?_
  refine WP.block ?_
  refine WP.loop (LP.keep (l_isNormal (l := l) hp hl hn (fun h => ?_) ?_ n 0 (by omega) rfl) (by repeat (first | exact trivial | refine ⟨rfl, ?_⟩)) (by repeat (first | exact HSub.nil | refine HSub.keep ?_ | refine HSub.dead ?_)))
  rotate_left
  · exact Ends.pure (.tmp rfl .nil) rfl
  refine WP.seq (WP.region (l := [0]) rfl ?_)
  refine Run.assign rfl rfl rfl (.at rfl) ?_
  refine Run.nil ?_
  refine WP.ret ?_
  exact Ends.pure (.tmp rfl .nil) (by rw [h]; rfl)

/-- The first that is not 0, ahead of the place k. -/
def fstTo (l : List Int) (k : Nat) : Int := firstNz (l.take k)
theorem fstTo_next {l : List Int} {k : Nat} (hk : k < l.length) : fstTo l (k + 1) = if fstTo l k == 0 then l.getD k 0 else fstTo l k := by
  unfold fstTo firstNz
  have e : l.take (k + 1) = l.take k ++ [l.getD k 0] := by
    rw [List.take_add_one]
    simp [hk]
  rw [e, List.find?_append]
  cases h : (l.take k).find? nz with
  | none =>
    simp only [Option.none_or, List.find?_cons, List.find?_nil, Option.getD_none, beq_self_eq_true, if_true]
    cases hz : nz (l.getD k 0) with
    | true => rfl
    | false => simp [nz] at hz; simp [hz]
  | some x =>
    have hx := List.find?_some h
    have : (x == 0) = false := by simpa [nz] using hx
    simp [this]
theorem l_l01Normal {C : Cx Try.prog 29} {Q : Post} {p : Int} {l : List Int} {n : Nat} (hp : IsP p) (hl : n ≤ 1000000) (hn : l.length = n)
    (hQ : allIn p l = true → Q (.exit 0) ⟨[(5, .int .i64 (firstNz l))], []⟩) (hR : allIn p l = false → Q .ret ⟨[(4, .bool false)], []⟩) :
    ∀ (d k : Nat) (f : Int), k + d = n → allIn p l = allIn p (l.drop k) → f = fstTo l k → LP C (nav Try.f71.body.get! [1, 1, 0, 1, 0, 0]) Q ⟨[(0, .int .i64 p), (1, .imm (ints l) n), (5, .int .i64 f), (6, .int .i64 k)], []⟩ := by
  have hb := hp.bd
  intro d
  induction d with
  | zero =>
    intro k f hd he hf
    have he' : allIn p l = true := by rw [he, List.drop_eq_nil_of_le (by omega)]; rfl
    have hf' : f = firstNz l := by rw [hf]; unfold fstTo; rw [List.take_of_length_le (by omega)]
    refine LP.round ?_
    refine WP.seq ?_
    refine WP.seq (WP.region (l := [0, 1, 2, 3]) rfl ?_)
    refine Run.move rfl rfl rfl (.at rfl) ?_
    refine Run.move rfl rfl rfl (.at rfl) ?_
    refine Run.len rfl rfl rfl (.at rfl) is_73 rfl ?_
    refine Run.int rfl rfl rfl (.at rfl) (.at rfl) rfl ?_
    refine Run.nil ?_
    refine WP.cond_f (.at rfl) (by simp; omega) ?_
    subst hf'
    exact WP.keep (WP.exit (hQ he')) (by repeat (first | exact trivial | refine ⟨rfl, ?_⟩)) (by repeat (first | exact HSub.nil | refine HSub.keep ?_ | refine HSub.dead ?_))
  | succ d ih =>
    intro k f hd he hf
    have hk : k < l.length := by omega
    have hfn := fstTo_next hk
    rw [← hf] at hfn
    rw [drop_getD hk] at he
    refine LP.round ?_
    refine WP.seq ?_
    refine WP.seq (WP.region (l := [0, 1, 2, 3]) rfl ?_)
    refine Run.move rfl rfl rfl (.at rfl) ?_
    refine Run.move rfl rfl rfl (.at rfl) ?_
    refine Run.len rfl rfl rfl (.at rfl) is_73 rfl ?_
    refine Run.int rfl rfl rfl (.at rfl) (.at rfl) rfl ?_
    refine Run.nil ?_
    refine WP.cond_t (.at rfl) (by simp; omega) ?_
    refine WP.skip ?_
    refine WP.seq ?_
    refine WP.block ?_
    refine WP.seq ?_
    refine WP.seq (WP.region (l := [0, 1, 2, 3, 4, 5, 6, 7]) rfl ?_)
    refine Run.move rfl rfl rfl (.at rfl) ?_
    refine Run.move rfl rfl rfl (.at rfl) ?_
    refine Run.idx_imm (j := k) rfl rfl rfl (.at rfl) (.at rfl) sl_73_1 rfl (show k < n by omega) ?_
    refine Run.load rfl rfl rfl (.at rfl) .imm sc_2 (ints_at' hk) ?_
    refine Run.move rfl rfl rfl (.at rfl) ?_
    refine Run.sub rfl rfl rfl (.at rfl) (.at rfl) (by omega) ?_
    refine Run.call rfl rfl rfl (.at rfl) (.cons (.at rfl) (.cons (.at rfl) (.cons (.at rfl) .nil))) (c_l01In _ _ _) ?_
    refine Run.not rfl rfl rfl (.at rfl) ?_
    refine Run.nil ?_
    refine WP.cond (.at rfl) (fun hc1 => ?_) (fun hc1 => ?_)
    · have he' : allIn p l = false := by rw [he]; simp only [Bool.not_eq_true'] at hc1; simp only [allIn, List.all_cons, inR, hc1, Bool.false_and]
      refine WP.seq (WP.region (l := [0]) rfl ?_)
      refine Run.assign rfl rfl rfl (.at rfl) ?_
      refine Run.nil ?_
      exact WP.keep (WP.ret (hR he')) (by repeat (first | exact trivial | refine ⟨rfl, ?_⟩)) (by repeat (first | exact HSub.nil | refine HSub.keep ?_ | refine HSub.dead ?_))
    · have he' : allIn p l = allIn p (l.drop (k + 1)) := by rw [he]; simp only [Bool.not_eq_false'] at hc1; simp only [allIn, List.all_cons, inR, hc1, Bool.true_and]
      refine WP.skip ?_
      refine WP.seq (WP.region (l := [0, 1]) rfl ?_)
      refine Run.move rfl rfl rfl (.at rfl) ?_
      refine Run.int rfl rfl rfl (.at rfl) (.at rfl) rfl ?_
      refine Run.nil ?_
      refine WP.cond (.at rfl) (fun hc2 => ?_) (fun hc2 => ?_)
      · skip
        refine WP.region (l := [0, 1, 2, 3, 4]) rfl ?_
        refine Run.move rfl rfl rfl (.at rfl) ?_
        refine Run.move rfl rfl rfl (.at rfl) ?_
        refine Run.idx_imm (j := k) rfl rfl rfl (.at rfl) (.at rfl) sl_73_1 rfl (show k < n by omega) ?_
        refine Run.load rfl rfl rfl (.at rfl) .imm sc_2 (ints_at' hk) ?_
        refine Run.assign rfl rfl rfl (.at rfl) ?_
        refine Run.nil ?_
        refine WP.region (l := [0, 1, 2]) rfl ?_
        refine Run.move rfl rfl rfl (.at rfl) ?_
        refine Run.add rfl rfl rfl (.at rfl) (.at rfl) (by omega) ?_
        refine Run.assign rfl rfl rfl (.at rfl) ?_
        refine Run.nil ?_
        rw [if_pos hc2] at hfn
        exact LP.keep (ih (k + 1) _ (by omega) he' hfn.symm) (by repeat (first | exact trivial | refine ⟨rfl, ?_⟩)) (by repeat (first | exact HSub.nil | refine HSub.keep ?_ | refine HSub.dead ?_))
      · skip
        refine WP.skip ?_
        refine WP.region (l := [0, 1, 2]) rfl ?_
        refine Run.move rfl rfl rfl (.at rfl) ?_
        refine Run.add rfl rfl rfl (.at rfl) (.at rfl) (by omega) ?_
        refine Run.assign rfl rfl rfl (.at rfl) ?_
        refine Run.nil ?_
        rw [if_neg (by rw [hc2]; decide)] at hfn
        exact LP.keep (ih (k + 1) _ (by omega) he' hfn.symm) (by repeat (first | exact trivial | refine ⟨rfl, ?_⟩)) (by repeat (first | exact HSub.nil | refine HSub.keep ?_ | refine HSub.dead ?_))
theorem c_l01Normal (p : Int) (l : List Int) {n : Nat} (hp : IsP p) (hl : n ≤ 1000000) (hn : l.length = n) : Pure Try.prog 71 [.int .i64 p, .imm (ints l) n] (.bool (nrm p l)) := by
  refine Pure.body 0 (n := 29) (fn := Try.f71) (c := Try.f71.body.get!) fn_71 rfl nm_71 rfl rfl fun C => ?_
  refine WP.seq (WP.region (l := [0]) rfl ?_)
  refine Run.assign rfl rfl rfl (.at rfl) ?_
  refine Run.nil ?_
  refine WP.seq (WP.region (l := [0]) rfl ?_)
  refine Run.assign rfl rfl rfl (.at rfl) ?_
  refine Run.nil ?_
  refine WP.seq ?_
  refine WP.seq (WP.region (l := [0]) rfl ?_)
  refine Run.assign rfl rfl rfl (.at rfl) ?_
  refine Run.nil ?_
  refine WP.block ?_
  refine WP.loop (LP.keep (l_l01Normal (l := l) hp hl hn (fun h => ?_) (fun h => ?_) n 0 0 (by omega) rfl rfl) (by repeat (first | exact trivial | refine ⟨rfl, ?_⟩)) (by repeat (first | exact HSub.nil | refine HSub.keep ?_ | refine HSub.dead ?_)))
  rotate_left
  · exact Ends.pure (.tmp rfl .nil) (by unfold nrm; rw [h]; rfl)
  refine WP.seq (WP.region (l := [0, 1, 2]) rfl ?_)
  refine Run.move rfl rfl rfl (.at rfl) ?_
  refine Run.int rfl rfl rfl (.at rfl) (.at rfl) rfl ?_
  refine Run.assign rfl rfl rfl (.at rfl) ?_
  refine Run.nil ?_
  refine WP.ret ?_
  exact Ends.pure (.tmp rfl .nil) (by unfold nrm; rw [h, Bool.true_and]; rfl)

theorem c_l01List (v : V3) : Pure Try.prog 72 [v.av] (.imm (ints v.l) 3) := by
  refine Pure.body 2 (n := 10) (fn := Try.f72) (c := Try.f72.body.get!) fn_72 rfl nm_72 rfl rfl fun C => ?_
  refine WP.seq (WP.region (l := [0, 1]) rfl ?_)
  refine Run.box 0 rfl rfl rfl (.at rfl) rfl (fun b1 => ?_)
  refine Run.assign rfl rfl rfl (.at rfl) ?_
  refine Run.nil ?_
  refine WP.seq (WP.region (l := [0, 1, 2, 3, 4, 5, 6, 7]) rfl ?_)
  refine Run.idx_arr (j := 0) rfl rfl rfl (.at rfl) (.at rfl) ar_33_3_1 (by rfl) (by decide) ?_
  refine Run.load rfl rfl rfl (.at rfl) (place_adr rfl) sc_2 rfl ?_
  refine Run.idx_arr (j := 1) rfl rfl rfl (.at rfl) (.at rfl) ar_33_3_1 (by rfl) (by decide) ?_
  refine Run.load rfl rfl rfl (.at rfl) (place_adr rfl) sc_2 rfl ?_
  refine Run.idx_arr (j := 2) rfl rfl rfl (.at rfl) (.at rfl) ar_33_3_1 (by rfl) (by decide) ?_
  refine Run.load rfl rfl rfl (.at rfl) (place_adr rfl) sc_2 rfl ?_
  refine Run.buildSlice 1 rfl rfl rfl el_73 (by decide) (.cons (.at rfl) rfl (.cons (.at rfl) rfl (.cons (.at rfl) rfl .nil))) rfl rfl (fun b9 => ?_)
  refine Run.assign rfl rfl rfl (.at rfl) ?_
  refine Run.freeze 2 (ints v.l) rfl rfl (Nat.le_refl _) rfl ?_
  refine Run.nil ?_
  refine WP.ret ?_
  exact Ends.pure (.tmp rfl .nil) rfl

theorem c_IsPoint (p : Int) (v : V3) : Pure Try.prog 62 [.int .i64 p, v.av] (.bool (isP p && nrm p v.l)) := by
  refine Pure.body 1 (n := 12) (fn := Try.f62) (c := Try.f62.body.get!) fn_62 rfl nm_62 rfl rfl fun C => ?_
  refine WP.seq (WP.region (l := [0, 1]) rfl ?_)
  refine Run.box 0 rfl rfl rfl (.at rfl) rfl (fun b3 => ?_)
  refine Run.assign rfl rfl rfl (.at rfl) ?_
  refine Run.nil ?_
  refine WP.seq (WP.region (l := [0, 1, 2, 3, 4, 5, 6, 7]) rfl ?_)
  refine Run.move rfl rfl rfl (.at rfl) ?_
  refine Run.call rfl rfl rfl (.at rfl) (.cons (.at rfl) .nil) (c_isPrime _) ?_
  refine Run.move rfl rfl rfl (.at rfl) ?_
  refine' Run.guarded rfl rfl rfl rfl rfl rfl (fun ht => ?_) ?_
  rotate_left
  · have hp : IsP p := isP_iff.1 (by simpa using ht)
    refine Run.move rfl rfl rfl (.at rfl) ?_
    exact single_nil
  refine' Run.guarded rfl rfl rfl rfl rfl rfl (fun ht => ?_) ?_
  rotate_left
  · have hp : IsP p := isP_iff.1 (by simpa using ht)
    refine Run.slice_arr rfl rfl rfl (.at rfl) rfl (Nat.le_of_ble_eq_true rfl) ar_33_3_1 Bnd.no Bnd.no (by omega) (by omega) (by omega) ?_
    exact single_nil
  refine' Run.guarded rfl rfl rfl rfl rfl rfl (fun ht => ?_) ?_
  rotate_left
  · have hp : IsP p := isP_iff.1 (by simpa using ht)
    refine Run.acts [] [] rfl rfl rfl (.at rfl) (.cons (.opt rfl ht) (.cons (.opt rfl ht) .nil)) (.cons .refl (.cons (Lend.one rfl (Nat.le_refl _) (by rfl)) .nil)) (c_isNormal p v.l (n := 3) hp (by decide) rfl).acts rfl rfl rfl (fun x H h => ?_) (fun x H h => ?_)
    · obtain ⟨rfl, rfl⟩ := h; exact ⟨rfl, rfl⟩
    obtain ⟨rfl, rfl⟩ := h
    exact single_nil
  refine Run.and rfl rfl rfl (.at rfl) (.at rfl) rfl ?_
  refine Run.assign rfl rfl rfl (.at rfl) ?_
  refine Run.nil ?_
  refine WP.ret ?_
  exact Ends.pure (.tmp rfl .nil) rfl
theorem c_l01Point (p : Int) (v : V3) : Pure Try.prog 55 [.int .i64 p, v.av] (.bool (isP p && nrm p v.l)) := by
  refine Pure.body 1 (n := 13) (fn := Try.f55) (c := Try.f55.body.get!) fn_55 rfl nm_55 rfl rfl fun C => ?_
  refine WP.seq (WP.region (l := [0, 1]) rfl ?_)
  refine Run.box 0 rfl rfl rfl (.at rfl) rfl (fun b3 => ?_)
  refine Run.assign rfl rfl rfl (.at rfl) ?_
  refine Run.nil ?_
  refine WP.seq (WP.region (l := [0, 1, 2, 3, 4, 5, 6, 7, 8]) rfl ?_)
  refine Run.move rfl rfl rfl (.at rfl) ?_
  refine Run.call rfl rfl rfl (.at rfl) (.cons (.at rfl) .nil) (c_l01Prime _) ?_
  refine Run.move rfl rfl rfl (.at rfl) ?_
  refine' Run.guarded rfl rfl rfl rfl rfl rfl (fun ht => ?_) ?_
  rotate_left
  · have hp : IsP p := isP_iff.1 (by simpa using ht)
    refine Run.move rfl rfl rfl (.at rfl) ?_
    exact single_nil
  refine' Run.guarded rfl rfl rfl rfl rfl rfl (fun ht => ?_) ?_
  rotate_left
  · have hp : IsP p := isP_iff.1 (by simpa using ht)
    refine Run.loads rfl rfl rfl (.at rfl) (place_adr rfl) ag_33_3 rfl rfl ?_
    exact single_nil
  refine' Run.guarded rfl rfl rfl rfl rfl rfl (fun ht => ?_) ?_
  rotate_left
  · have hp : IsP p := isP_iff.1 (by simpa using ht)
    refine Run.call rfl rfl rfl (.at rfl) (.cons (.opt rfl ht) .nil) (c_l01List _) ?_
    exact single_nil
  refine' Run.guarded rfl rfl rfl rfl rfl rfl (fun ht => ?_) ?_
  rotate_left
  · have hp : IsP p := isP_iff.1 (by simpa using ht)
    refine Run.call rfl rfl rfl (.at rfl) (.cons (.opt rfl ht) (.cons (.opt rfl ht) .nil)) (c_l01Normal _ _ hp (by decide) rfl) ?_
    exact single_nil
  refine Run.and rfl rfl rfl (.at rfl) (.at rfl) rfl ?_
  refine Run.assign rfl rfl rfl (.at rfl) ?_
  refine Run.nil ?_
  refine WP.ret ?_
  exact Ends.pure (.tmp rfl .nil) rfl
end Go.Ab
