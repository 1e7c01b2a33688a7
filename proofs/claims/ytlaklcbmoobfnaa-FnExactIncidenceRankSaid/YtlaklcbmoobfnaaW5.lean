/- The walk of the plain law's rank of the table of incidences. -/
import Derived.Test.YtlaklcbmoobfnaaP6
namespace Go.Ab
open Go.Proofs

abbrev Pts (p : Int) : AV := .imm (cs3 (pts p)) (cnt p)
abbrev Hd (b n : Nat) : AV := .own 0 b 1 0 n n true
abbrev Rw (b n : Nat) : AV := .own 5 b 1 0 n n true

section
variable {C : Cx Try.prog 163} {Q : Post} {p q : Int}

theorem l_specRank1 (hp : 0 ≤ p ∧ p ≤ 100) (hp0 : 0 < p) {i b : Nat} {c0 : List AV} {l5 : Ar} (hi : i < cnt p)
    (hQ : ∀ rb cs, cs = ints (incRow p i (cnt p)) → Q (.exit 2) ⟨[(0, .int .i64 p), (1, .int .i64 q), (6, Pts p), (7, Hd b i), (8, .int .i64 i), (9, .own 1 rb 1 0 (cnt p) (cnt p) true)], [[(b, c0)], [(rb, cs)], [], [], [], l5]⟩) :
    ∀ (d k rb : Nat) (cs : List AV), k + d = cnt p → cs = ints (incRow p i k) →
      LP C (nav Try.f4.body.get! [1, 1, 1, 0, 1, 0, 0, 1, 0, 0, 1, 0, 1, 0, 0]) Q ⟨[(0, .int .i64 p), (1, .int .i64 q), (6, Pts p), (7, Hd b i), (8, .int .i64 i), (9, .own 1 rb 1 0 k k true), (10, .int .i64 k)], [[(b, c0)], [(rb, cs)], [], [], [], l5]⟩ := by
  have hc := cnt_le hp
  have hl : (pts p).length = cnt p := pts_length
  intro d
  induction d with
  | zero =>
    intro k rb cs hd hcs
    have hk : k = cnt p := by omega
    refine LP.round ?_
    refine WP.seq ?_
    refine WP.seq (WP.region (l := [0, 1, 2, 3]) rfl ?_)
    refine Run.move rfl rfl rfl (.at rfl) ?_
    refine Run.move rfl rfl rfl (.at rfl) ?_
    refine Run.len rfl rfl rfl (.at rfl) is_26 rfl ?_
    refine Run.int rfl rfl rfl (.at rfl) (.at rfl) rfl ?_
    refine Run.nil ?_
    refine WP.cond_f (.at rfl) (by simp; omega) ?_
    subst hk
    exact WP.keep (WP.exit (hQ rb cs hcs)) (by repeat (first | exact trivial | refine ⟨rfl, ?_⟩)) (by repeat (first | exact HSub.nil | refine HSub.keep ?_ | refine HSub.dead ?_))
  | succ d ih =>
    intro k rb cs hd hcs
    have hlen : k * 1 ≤ cs.length := by rw [hcs, ints_length, incRow_length]; omega
    have e1 : cs.take (k * 1) = ints (incRow p i k) := by
      have e := List.take_of_length_le (l := ints (incRow p i k)) (i := k * 1) (by rw [ints_length, incRow_length]; omega)
      rw [hcs, e]
    refine LP.round ?_
    refine WP.seq ?_
    refine WP.seq (WP.region (l := [0, 1, 2, 3]) rfl ?_)
    refine Run.move rfl rfl rfl (.at rfl) ?_
    refine Run.move rfl rfl rfl (.at rfl) ?_
    refine Run.len rfl rfl rfl (.at rfl) is_26 rfl ?_
    refine Run.int rfl rfl rfl (.at rfl) (.at rfl) rfl ?_
    refine Run.nil ?_
    refine WP.cond_t (.at rfl) (by simp; omega) ?_
    refine WP.skip ?_
    refine WP.seq ?_
    refine WP.block ?_
    refine WP.seq (WP.draw mx_0 ?_)
    refine Drawn.calmR ?_
    refine' DrawR.op 0 44 0 [(0, none)] rfl rfl (fun rest => ?_) ?_
    rotate_left
    · skip
      refine Run.move rfl rfl rfl (.at rfl) ?_
      exact single_nil
    refine' DrawR.op 1 45 1 [(6, none)] rfl rfl (fun rest => ?_) ?_
    rotate_left
    · skip
      refine Run.move rfl rfl rfl (.at rfl) ?_
      exact single_nil
    refine' DrawR.op 2 46 2 [(10, none)] rfl rfl (fun rest => ?_) ?_
    rotate_left
    · skip
      refine Run.move rfl rfl rfl (.at rfl) ?_
      exact single_nil
    refine' DrawR.op 3 47 3 [(45, some 1), (46, some 0)] rfl rfl (fun rest => ?_) ?_
    rotate_left
    · skip
      refine Run.idx_imm (j := k) rfl rfl rfl (.at rfl) (.at rfl) sl_26_3 rfl (show k < cnt p by omega) ?_
      exact single_nil
    refine' DrawR.op 4 48 4 [(47, some 0)] rfl rfl (fun rest => ?_) ?_
    rotate_left
    · skip
      refine Run.loads rfl rfl rfl (.at rfl) .imm ag_32_3 (cs3_get (by omega)) rfl ?_
      exact single_nil
    refine' DrawR.op 5 49 5 [(6, none)] rfl rfl (fun rest => ?_) ?_
    rotate_left
    · skip
      refine Run.move rfl rfl rfl (.at rfl) ?_
      exact single_nil
    refine' DrawR.op 6 50 6 [(8, none)] rfl rfl (fun rest => ?_) ?_
    rotate_left
    · skip
      refine Run.move rfl rfl rfl (.at rfl) ?_
      exact single_nil
    refine' DrawR.op 7 51 7 [(49, some 1), (50, some 0)] rfl rfl (fun rest => ?_) ?_
    rotate_left
    · skip
      refine Run.idx_imm (j := i) rfl rfl rfl (.at rfl) (.at rfl) sl_26_3 rfl (show i < cnt p from hi) ?_
      exact single_nil
    refine' DrawR.op 8 52 8 [(51, some 0)] rfl rfl (fun rest => ?_) ?_
    rotate_left
    · skip
      refine Run.loads rfl rfl rfl (.at rfl) .imm ag_32_3 (cs3_get (by omega)) rfl ?_
      exact single_nil
    refine' DrawR.op 9 53 9 [(44, some 8), (48, some 4), (52, some 0)] rfl rfl (fun rest => ?_) ?_
    rotate_left
    · skip
      refine Run.call rfl rfl rfl (.at rfl) (.cons (.at rfl) (.cons (.at rfl) (.cons (.at rfl) .nil))) (c_l01On _ _ _ (ptAt_sm hp _) (ptAt_sm hp _) hp0 (by omega)) ?_
      exact single_nil
    refine DrawR.tail [] rfl (by kernel_rfl) ?_
    refine Run.nil ?_
    refine WP.cond (.at rfl) (fun hc3 => ?_) (fun hc3 => ?_)
    · skip
      refine WP.region (l := [0, 1, 2, 3]) rfl ?_
      refine Run.move rfl rfl rfl (.at rfl) ?_
      refine Run.buildSlice 2 rfl rfl rfl el_29 (by decide) (.cons (.at rfl) rfl .nil) rfl rfl (fun b55 => ?_)
      refine Run.append rfl rfl rfl (.at rfl) rfl el_29 (.at rfl) (.own (At.one rfl) rfl rfl) rfl (by omega) hlen (by omega) (by omega) (fun b56 => ?_)
      refine Run.assign rfl rfl rfl (.at rfl) ?_
      refine Run.nil ?_
      refine WP.region (l := [0, 1, 2]) rfl ?_
      refine Run.move rfl rfl rfl (.at rfl) ?_
      refine Run.add rfl rfl rfl (.at rfl) (.at rfl) (by omega) ?_
      refine Run.assign rfl rfl rfl (.at rfl) ?_
      refine Run.nil ?_
      refine LP.keep (ih (k + 1) b56 _ (by omega) ?_) (by repeat (first | exact trivial | refine ⟨rfl, ?_⟩)) (by repeat (first | exact HSub.nil | refine HSub.keep ?_ | refine HSub.dead ?_))
      rw [e1, incRow_next]
      unfold bit ptAt
      rw [if_pos hc3]
      simp [ints]
      rfl
    · skip
      refine WP.region (l := [0, 1, 2, 3]) rfl ?_
      refine Run.move rfl rfl rfl (.at rfl) ?_
      refine Run.buildSlice 3 rfl rfl rfl el_29 (by decide) (.cons (.at rfl) rfl .nil) rfl rfl (fun b58 => ?_)
      refine Run.append rfl rfl rfl (.at rfl) rfl el_29 (.at rfl) (.own (At.one rfl) rfl rfl) rfl (by omega) hlen (by omega) (by omega) (fun b59 => ?_)
      refine Run.assign rfl rfl rfl (.at rfl) ?_
      refine Run.nil ?_
      refine WP.region (l := [0, 1, 2]) rfl ?_
      refine Run.move rfl rfl rfl (.at rfl) ?_
      refine Run.add rfl rfl rfl (.at rfl) (.at rfl) (by omega) ?_
      refine Run.assign rfl rfl rfl (.at rfl) ?_
      refine Run.nil ?_
      refine LP.keep (ih (k + 1) b59 _ (by omega) ?_) (by repeat (first | exact trivial | refine ⟨rfl, ?_⟩)) (by repeat (first | exact HSub.nil | refine HSub.keep ?_ | refine HSub.dead ?_))
      rw [e1, incRow_next]
      unfold bit ptAt
      rw [if_neg (by rw [hc3]; decide)]
      simp [ints]
      rfl

theorem l_specRank0 (hp : 0 ≤ p ∧ p ≤ 100) (hp0 : 0 < p)
    (hQ : ∀ b M, rows M = incRows p (cnt p) → Q (.exit 0) ⟨[(1, .int .i64 q), (6, Pts p), (7, Hd b (cnt p))], [[(b, hdr 5 (cnt p) true M)], [], [], [], [], fam M]⟩) :
    ∀ (d i b : Nat) (M : Mat) (c0 : List AV) (l5 : Ar), i + d = cnt p → rows M = incRows p i → c0 = hdr 5 (cnt p) true M → l5 = fam M →
      LP C (nav Try.f4.body.get! [1, 1, 1, 0, 1, 0, 0]) Q ⟨[(0, .int .i64 p), (1, .int .i64 q), (6, Pts p), (7, Hd b i), (8, .int .i64 i)], [[(b, c0)], [], [], [], [], l5]⟩ := by
  have hc := cnt_le hp
  intro d
  induction d with
  | zero =>
    intro i b M c0 l5 hd hM h0 h5
    have hk : i = cnt p := by omega
    refine LP.round ?_
    refine WP.seq ?_
    refine WP.seq (WP.region (l := [0, 1, 2, 3]) rfl ?_)
    refine Run.move rfl rfl rfl (.at rfl) ?_
    refine Run.move rfl rfl rfl (.at rfl) ?_
    refine Run.len rfl rfl rfl (.at rfl) is_26 rfl ?_
    refine Run.int rfl rfl rfl (.at rfl) (.at rfl) rfl ?_
    refine Run.nil ?_
    refine WP.cond_f (.at rfl) (by simp; omega) ?_
    subst hk h0 h5
    exact WP.keep (WP.exit (hQ b M hM)) (by repeat (first | exact trivial | refine ⟨rfl, ?_⟩)) (by repeat (first | exact HSub.nil | refine HSub.keep ?_ | refine HSub.dead ?_))
  | succ d ih =>
    intro i b M c0 l5 hd hM h0 h5
    have hML : M.length = i := by rw [← rows_length, hM, incRows_length]
    have hlen : i * 1 ≤ c0.length := by rw [h0, hdr_length]; omega
    have e1 : c0.take (i * 1) = c0 := List.take_of_length_le (by rw [h0, hdr_length]; omega)
    refine LP.round ?_
    refine WP.seq ?_
    refine WP.seq (WP.region (l := [0, 1, 2, 3]) rfl ?_)
    refine Run.move rfl rfl rfl (.at rfl) ?_
    refine Run.move rfl rfl rfl (.at rfl) ?_
    refine Run.len rfl rfl rfl (.at rfl) is_26 rfl ?_
    refine Run.int rfl rfl rfl (.at rfl) (.at rfl) rfl ?_
    refine Run.nil ?_
    refine WP.cond_t (.at rfl) (by simp; omega) ?_
    refine WP.skip ?_
    refine WP.seq ?_
    refine WP.block ?_
    refine WP.seq (WP.region (l := [0, 1]) rfl ?_)
    refine Run.buildSlice 1 rfl rfl rfl el_29 (by decide) .nil rfl rfl (fun b37 => ?_)
    refine Run.assign rfl rfl rfl (.at rfl) ?_
    refine Run.nil ?_
    refine WP.seq ?_
    refine WP.seq (WP.region (l := [0]) rfl ?_)
    refine Run.assign rfl rfl rfl (.at rfl) ?_
    refine Run.nil ?_
    refine WP.block ?_
    refine WP.weak 9 rfl (fun _ _ _ h => own_open (id' := 1) (Nat.le_refl _) h) ?_
    refine WP.loop (LP.keep (l_specRank1 (i := i) hp hp0 (by omega) (fun rb cs hcs => ?_) (cnt p) 0 b37 _ (by omega) rfl) (by repeat (first | exact trivial | refine ⟨rfl, ?_⟩)) (by repeat (first | exact HSub.nil | refine HSub.keep ?_ | refine HSub.dead ?_)))
    refine WP.moved (Moved.absorb (i := 1) (f := 5) rfl rfl (by decide)) ?_
    refine WP.weak 9 rfl (fun _ _ _ h => own_name 5 h) ?_
    refine WP.region (l := [0, 1, 2, 3, 4]) rfl ?_
    refine Run.move rfl rfl rfl (.at rfl) ?_
    refine Run.move rfl rfl rfl (.at rfl) ?_
    refine Run.buildSlice 4 rfl rfl rfl el_28 (by decide) (.cons (.at rfl) rfl .nil) rfl rfl (fun b62 => ?_)
    refine Run.append rfl rfl rfl (.at rfl) rfl el_28 (.at rfl) (.own (At.one rfl) rfl rfl) rfl (by omega) hlen (by omega) (by omega) (fun b63 => ?_)
    refine Run.assign rfl rfl rfl (.at rfl) ?_
    refine Run.nil ?_
    refine WP.region (l := [0, 1, 2]) rfl ?_
    refine Run.move rfl rfl rfl (.at rfl) ?_
    refine Run.add rfl rfl rfl (.at rfl) (.at rfl) (by omega) ?_
    refine Run.assign rfl rfl rfl (.at rfl) ?_
    refine Run.nil ?_
    refine LP.keep (ih (i + 1) b63 (M ++ [(rb, incRow p i (cnt p))]) _ _ (by omega) (by rw [rows_append, hM, incRows_next]) ?_ ?_) (by repeat (first | exact trivial | refine ⟨rfl, ?_⟩)) (by repeat (first | exact HSub.nil | refine HSub.keep ?_ | refine HSub.dead ?_))
    · rw [e1, h0, ← hdr_append]
      rfl
    · rw [h5, hcs, fam_append]

/-- The search of a row. -/
theorem l_specRank3 {n r c b : Nat} {M : Mat} {res : Nat} (hn : n ≤ 20000) (hM : RowsOk q n M) (hc : c < n)
    (hQ : Q (.exit 6) ⟨[(1, .int .i64 q), (6, .imm (cs3 (pts p)) n), (7, Hd b n), (11, .int .i64 r), (12, .int .i64 c), (13, .int .i64 res)], [[(b, hdr 5 n true M)], [], [], [], [], fam M]⟩) :
    ∀ (d i : Nat), i + d = n → firstGo c (rows M) d i = res →
      LP C (nav Try.f4.body.get! [1, 1, 1, 1, 1, 0, 1, 0, 0, 1, 0, 0, 1, 0, 0, 0]) Q ⟨[(1, .int .i64 q), (6, .imm (cs3 (pts p)) n), (7, Hd b n), (11, .int .i64 r), (12, .int .i64 c), (13, .int .i64 i)], [[(b, hdr 5 n true M)], [], [], [], [], fam M]⟩ := by
  intro d
  induction d with
  | zero =>
    intro i hd hf
    have hk : i = n := by omega
    have hi' : i < n → i < M.length := fun h => by rw [hM.len]; exact h
    refine LP.round ?_
    refine WP.seq ?_
    refine WP.seq (WP.region (l := [0, 1, 2, 3, 4, 5, 6, 7, 8, 9, 10, 11, 12, 13]) rfl ?_)
    refine Run.move rfl rfl rfl (.at rfl) ?_
    refine Run.move rfl rfl rfl (.at rfl) ?_
    refine Run.len rfl rfl rfl (.at rfl) is_28 rfl ?_
    refine Run.int rfl rfl rfl (.at rfl) (.at rfl) rfl ?_
    refine Run.move rfl rfl rfl (.at rfl) ?_
    refine' Run.guarded rfl rfl rfl rfl rfl rfl (fun ht => ?_) ?_
    rotate_left
    · have hi : i < n := by simpa using ht
      refine Run.move rfl rfl rfl (.at rfl) ?_
      exact single_nil
    refine' Run.guarded rfl rfl rfl rfl rfl rfl (fun ht => ?_) ?_
    rotate_left
    · have hi : i < n := by simpa using ht
      refine Run.move rfl rfl rfl (.at rfl) ?_
      exact single_nil
    refine' Run.guarded rfl rfl rfl rfl rfl rfl (fun ht => ?_) ?_
    rotate_left
    · have hi : i < n := by simpa using ht
      refine Run.idx (j := i) rfl rfl rfl (.opt rfl ht) (.opt rfl ht) sl_28_1 rfl hi ?_
      exact single_nil
    refine' Run.guarded rfl rfl rfl rfl rfl rfl (fun ht => ?_) ?_
    rotate_left
    · have hi : i < n := by simpa using ht
      refine Run.load rfl rfl rfl (.opt rfl ht) (place_adr rfl) sc_29 (hdr_at (hi' hi)) ?_
      exact single_nil
    refine' Run.guarded rfl rfl rfl rfl rfl rfl (fun ht => ?_) ?_
    rotate_left
    · have hi : i < n := by simpa using ht
      refine Run.move rfl rfl rfl (.at rfl) ?_
      exact single_nil
    refine' Run.guarded rfl rfl rfl rfl rfl rfl (fun ht => ?_) ?_
    rotate_left
    · have hi : i < n := by simpa using ht
      refine Run.idx (j := c) rfl rfl rfl (.opt rfl ht) (.opt rfl ht) sl_29_1 rfl hc ?_
      exact single_nil
    refine' Run.guarded rfl rfl rfl rfl rfl rfl (fun ht => ?_) ?_
    rotate_left
    · have hi : i < n := by simpa using ht
      refine Run.load rfl rfl rfl (.opt rfl ht) (.own ⟨_, rfl, fam_at (hi' hi)⟩) sc_2 (ints_at (by rw [(hM.row i hi).1]; exact hc)) ?_
      exact single_nil
    refine' Run.guarded rfl rfl rfl rfl rfl rfl (fun ht => ?_) ?_
    rotate_left
    · have hi : i < n := by simpa using ht
      refine Run.int rfl rfl rfl (.opt rfl ht) (.at rfl) rfl ?_
      exact single_nil
    refine Run.and rfl rfl rfl (.at rfl) (.at rfl) rfl ?_
    refine Run.nil ?_
    refine WP.cond_f (.at rfl) (by simp [hk]) ?_
    simp only [firstGo] at hf
    subst hf
    exact WP.keep (WP.exit hQ) (by repeat (first | exact trivial | refine ⟨rfl, ?_⟩)) (by repeat (first | exact HSub.nil | refine HSub.keep ?_ | refine HSub.dead ?_))
  | succ d ih =>
    intro i hd hf
    have hi' : i < n → i < M.length := fun h => by rw [hM.len]; exact h
    simp only [firstGo, rows_length, hM.len, rows_getD] at hf
    refine LP.round ?_
    refine WP.seq ?_
    refine WP.seq (WP.region (l := [0, 1, 2, 3, 4, 5, 6, 7, 8, 9, 10, 11, 12, 13]) rfl ?_)
    refine Run.move rfl rfl rfl (.at rfl) ?_
    refine Run.move rfl rfl rfl (.at rfl) ?_
    refine Run.len rfl rfl rfl (.at rfl) is_28 rfl ?_
    refine Run.int rfl rfl rfl (.at rfl) (.at rfl) rfl ?_
    refine Run.move rfl rfl rfl (.at rfl) ?_
    refine' Run.guarded rfl rfl rfl rfl rfl rfl (fun ht => ?_) ?_
    rotate_left
    · have hi : i < n := by simpa using ht
      refine Run.move rfl rfl rfl (.at rfl) ?_
      exact single_nil
    refine' Run.guarded rfl rfl rfl rfl rfl rfl (fun ht => ?_) ?_
    rotate_left
    · have hi : i < n := by simpa using ht
      refine Run.move rfl rfl rfl (.at rfl) ?_
      exact single_nil
    refine' Run.guarded rfl rfl rfl rfl rfl rfl (fun ht => ?_) ?_
    rotate_left
    · have hi : i < n := by simpa using ht
      refine Run.idx (j := i) rfl rfl rfl (.opt rfl ht) (.opt rfl ht) sl_28_1 rfl hi ?_
      exact single_nil
    refine' Run.guarded rfl rfl rfl rfl rfl rfl (fun ht => ?_) ?_
    rotate_left
    · have hi : i < n := by simpa using ht
      refine Run.load rfl rfl rfl (.opt rfl ht) (place_adr rfl) sc_29 (hdr_at (hi' hi)) ?_
      exact single_nil
    refine' Run.guarded rfl rfl rfl rfl rfl rfl (fun ht => ?_) ?_
    rotate_left
    · have hi : i < n := by simpa using ht
      refine Run.move rfl rfl rfl (.at rfl) ?_
      exact single_nil
    refine' Run.guarded rfl rfl rfl rfl rfl rfl (fun ht => ?_) ?_
    rotate_left
    · have hi : i < n := by simpa using ht
      refine Run.idx (j := c) rfl rfl rfl (.opt rfl ht) (.opt rfl ht) sl_29_1 rfl hc ?_
      exact single_nil
    refine' Run.guarded rfl rfl rfl rfl rfl rfl (fun ht => ?_) ?_
    rotate_left
    · have hi : i < n := by simpa using ht
      refine Run.load rfl rfl rfl (.opt rfl ht) (.own ⟨_, rfl, fam_at (hi' hi)⟩) sc_2 (ints_at (by rw [(hM.row i hi).1]; exact hc)) ?_
      exact single_nil
    refine' Run.guarded rfl rfl rfl rfl rfl rfl (fun ht => ?_) ?_
    rotate_left
    · have hi : i < n := by simpa using ht
      refine Run.int rfl rfl rfl (.opt rfl ht) (.at rfl) rfl ?_
      exact single_nil
    refine Run.and rfl rfl rfl (.at rfl) (.at rfl) rfl ?_
    refine Run.nil ?_
    refine WP.cond (.at rfl) (fun hc5 => ?_) (fun hc5 => ?_)
    · have hc5' : (decide (i < n) && ((rowOf M i).getD c 0 == 0)) = true := by simpa using hc5
      rw [if_pos hc5'] at hf
      refine WP.skip ?_
      refine WP.block ?_
      refine WP.region (l := [0, 1, 2]) rfl ?_
      refine Run.move rfl rfl rfl (.at rfl) ?_
      refine Run.add rfl rfl rfl (.at rfl) (.at rfl) (by omega) ?_
      refine Run.assign rfl rfl rfl (.at rfl) ?_
      refine Run.nil ?_
      exact LP.keep (ih (i + 1) (by omega) hf) (by repeat (first | exact trivial | refine ⟨rfl, ?_⟩)) (by repeat (first | exact HSub.nil | refine HSub.keep ?_ | refine HSub.dead ?_))
    · have hc5' : ¬ (decide (i < n) && ((rowOf M i).getD c 0 == 0)) = true := by simpa using hc5
      rw [if_neg hc5'] at hf
      subst hf
      exact WP.keep (WP.exit hQ) (by repeat (first | exact trivial | refine ⟨rfl, ?_⟩)) (by repeat (first | exact HSub.nil | refine HSub.keep ?_ | refine HSub.dead ?_))
end
end Go.Ab
