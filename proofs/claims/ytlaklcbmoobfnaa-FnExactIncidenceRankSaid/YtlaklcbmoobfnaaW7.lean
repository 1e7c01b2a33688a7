/- The walk of the plain law's rank: all rows behind; all columns; the whole. -/
import Derived.Test.YtlaklcbmoobfnaaW6
namespace Go.Ab
open Go.Proofs

section
variable {C : Cx Try.prog 163} {Q : Post} {p q : Int}

theorem l_specRank4 {n r c b : Nat} {iv : Int} {M : Mat} (hn : n ≤ 20000) (hq3 : 3 ≤ q ∧ q ≤ 13) (hM : RowsOk q n M) (hr : r < n) (hc : c < n) (hiv : 1 ≤ iv ∧ iv < q)
    (hQ : Q (.exit 8) ⟨[(1, .int .i64 q), (6, .imm (cs3 (pts p)) n), (7, Hd b n), (11, .int .i64 r), (12, .int .i64 c)], [[(b, hdr 5 n true M)], [], [], [], [], fam (elimTo q c iv (rowOf M r) r n M)]⟩) :
    ∀ (d i : Nat) (l5 : Ar), r < i → i + d = n → l5 = fam (elimTo q c iv (rowOf M r) r i M) →
      LP C (nav Try.f4.body.get! [1, 1, 1, 1, 1, 0, 1, 0, 0, 1, 0, 0, 1, 1, 1, 1, 1, 1, 1, 0, 1, 0, 0]) Q ⟨[(1, .int .i64 q), (6, .imm (cs3 (pts p)) n), (7, Hd b n), (11, .int .i64 r), (12, .int .i64 c), (14, Rw (nmOf M r) n), (15, .int .i64 iv), (16, .int .i64 i)], [[(b, hdr 5 n true M)], [], [], [], [], l5]⟩ := by
  have hML := hM.len
  intro d
  induction d with
  | zero =>
    intro i l5 hri hd hl
    have hk : i = n := by omega
    refine LP.round ?_
    refine WP.seq ?_
    refine WP.seq (WP.region (l := [0, 1, 2, 3]) rfl ?_)
    refine Run.move rfl rfl rfl (.at rfl) ?_
    refine Run.move rfl rfl rfl (.at rfl) ?_
    refine Run.len rfl rfl rfl (.at rfl) is_28 rfl ?_
    refine Run.int rfl rfl rfl (.at rfl) (.at rfl) rfl ?_
    refine Run.nil ?_
    refine WP.cond_f (.at rfl) (by simp; omega) ?_
    subst hk hl
    exact WP.keep (WP.exit hQ) (by repeat (first | exact trivial | refine ⟨rfl, ?_⟩)) (by repeat (first | exact HSub.nil | refine HSub.keep ?_ | refine HSub.dead ?_))
  | succ d ih =>
    intro i l5 hri hd hl
    have hin : i < n := by omega
    have hli : l5[i]? = some (nmOf M i, ints (rowOf M i)) := by rw [hl]; exact elim_at (by omega) (.inr (Nat.le_refl _))
    have hlr : l5[r]? = some (nmOf M r, ints (rowOf M r)) := by rw [hl]; exact elim_at (by omega) (.inl (Nat.le_refl _))
    have hlen : l5.length = n := by rw [hl, fam_length, elimTo_length, hML]
    have hrow := hM.row i hin
    have b1 := hrow.2 c hc
    have hm := Sm.mul (show Sm ((rowOf M i).getD c 0) by unfold Sm; omega) (show Sm iv by unfold Sm; omega)
    have hm0 : 0 ≤ (rowOf M i).getD c 0 * iv := Int.mul_nonneg (by omega) (by omega)
    have hf1 := Int.emod_nonneg ((rowOf M i).getD c 0 * iv) (show q ≠ 0 by omega)
    have hf2 := Int.emod_lt_of_pos ((rowOf M i).getD c 0 * iv) (show 0 < q by omega)
    have hci : (ints (rowOf M i))[0 + c * 1]? = some (.int .i64 ((rowOf M i).getD c 0)) := ints_at (by rw [hrow.1]; exact hc)
    refine LP.round ?_
    refine WP.seq ?_
    refine WP.seq (WP.region (l := [0, 1, 2, 3]) rfl ?_)
    refine Run.move rfl rfl rfl (.at rfl) ?_
    refine Run.move rfl rfl rfl (.at rfl) ?_
    refine Run.len rfl rfl rfl (.at rfl) is_28 rfl ?_
    refine Run.int rfl rfl rfl (.at rfl) (.at rfl) rfl ?_
    refine Run.nil ?_
    refine WP.cond_t (.at rfl) (by simp; omega) ?_
    refine WP.skip ?_
    refine WP.seq ?_
    refine WP.block ?_
    refine WP.seq (WP.region (l := [0, 1, 2, 3, 4]) rfl ?_)
    refine Run.move rfl rfl rfl (.at rfl) ?_
    refine Run.move rfl rfl rfl (.at rfl) ?_
    refine Run.idx (j := i) rfl rfl rfl (.at rfl) (.at rfl) sl_28_1 rfl hin ?_
    refine Run.load rfl rfl rfl (.at rfl) (place_adr rfl) sc_29 (hdr_at (by omega)) ?_
    refine Run.assign rfl rfl rfl (.at rfl) ?_
    refine Run.nil ?_
    refine WP.seq ?_
    refine WP.seq (WP.region (l := [0, 1, 2, 3, 4]) rfl ?_)
    refine Run.move rfl rfl rfl (.at rfl) ?_
    refine Run.move rfl rfl rfl (.at rfl) ?_
    refine Run.idx (j := c) rfl rfl rfl (.at rfl) (.at rfl) sl_29_1 rfl hc ?_
    refine Run.load rfl rfl rfl (.at rfl) (.own ⟨_, rfl, hli⟩) sc_2 hci ?_
    refine Run.int rfl rfl rfl (.at rfl) (.at rfl) rfl ?_
    refine Run.nil ?_
    refine WP.cond (.at rfl) (fun hc8 => ?_) (fun hc8 => ?_)
    · have h0 : (rowOf M i).getD c 0 = 0 := by simpa using hc8
      refine WP.exit ?_
      refine WP.region (l := [0, 1, 2]) rfl ?_
      refine Run.move rfl rfl rfl (.at rfl) ?_
      refine Run.add rfl rfl rfl (.at rfl) (.at rfl) (by omega) ?_
      refine Run.assign rfl rfl rfl (.at rfl) ?_
      refine Run.nil ?_
      refine LP.keep (ih (i + 1) _ (by omega) (by omega) ?_) (by repeat (first | exact trivial | refine ⟨rfl, ?_⟩)) (by repeat (first | exact HSub.nil | refine HSub.keep ?_ | refine HSub.dead ?_))
      rw [hl, elimTo_same hri (by omega) h0]
    · have h0 : (rowOf M i).getD c 0 ≠ 0 := by simpa using hc8
      refine WP.skip ?_
      refine WP.seq (WP.region (l := [0, 1, 2, 3, 4, 5, 6, 7, 8]) rfl ?_)
      refine Run.move rfl rfl rfl (.at rfl) ?_
      refine Run.move rfl rfl rfl (.at rfl) ?_
      refine Run.idx (j := c) rfl rfl rfl (.at rfl) (.at rfl) sl_29_1 rfl hc ?_
      refine Run.load rfl rfl rfl (.at rfl) (.own ⟨_, rfl, hli⟩) sc_2 hci ?_
      refine Run.move rfl rfl rfl (.at rfl) ?_
      refine Run.mul rfl rfl rfl (.at rfl) (.at rfl) (by omega) ?_
      refine Run.move rfl rfl rfl (.at rfl) ?_
      refine Run.rem rfl rfl rfl (.at rfl) (.at rfl) (by omega) (by omega) ?_
      refine Run.assign rfl rfl rfl (.at rfl) ?_
      refine Run.nil ?_
      refine WP.seq (WP.region (l := [0, 1]) rfl ?_)
      refine Run.move rfl rfl rfl (.at rfl) ?_
      refine Run.assign rfl rfl rfl (.at rfl) ?_
      refine Run.nil ?_
      refine WP.block ?_
      refine WP.loop (LP.keep (l_specRank5 (i := i) (r := r) (c := c) (l5 := l5) (own := rowOf M r) (row := rowOf M i) (nr := nmOf M r) (ni := nmOf M i) (x15 := .int .i64 iv) hn hq3 (by omega) (hM.row r hr) hrow ⟨hf1, hf2⟩ (by omega) hlr ?_ (n - c) c _ (Nat.le_refl _) (by omega) ?_) (by repeat (first | exact trivial | refine ⟨rfl, ?_⟩)) (by repeat (first | exact HSub.nil | refine HSub.keep ?_ | refine HSub.dead ?_)))
      rotate_left
      · rw [clr_start]
        apply List.ext_getElem?
        intro x
        rw [List.getElem?_set]
        split
        · rename_i hx; subst hx; rw [if_pos (by omega), hli]
        · rfl
      refine WP.region (l := [0, 1, 2]) rfl ?_
      refine Run.move rfl rfl rfl (.at rfl) ?_
      refine Run.add rfl rfl rfl (.at rfl) (.at rfl) (by omega) ?_
      refine Run.assign rfl rfl rfl (.at rfl) ?_
      refine Run.nil ?_
      refine LP.keep (ih (i + 1) _ (by omega) (by omega) ?_) (by repeat (first | exact trivial | refine ⟨rfl, ?_⟩)) (by repeat (first | exact HSub.nil | refine HSub.keep ?_ | refine HSub.dead ?_))
      rw [hl, ← elimTo_next hri (by omega), ← fam_set]
      unfold elimRow
      rw [if_neg h0, hrow.1]
end
end Go.Ab
