/- The walk of the code's rank: search, clearing. -/
import Derived.Test.YtlaklcbmoobfnaaW9
namespace Go.Ab
open Go.Proofs

theorem clr_next' {q f : Int} {own : List Int} {c k : Nat} {row : List Int} (hc : c ≤ k) (hk : k < row.length) :
    splice (ints (clr q f own c k row)) (0 + k * 1) [.int .i64 ((row.getD k 0 + (q - f) * own.getD k 0) % q)] = ints (clr q f own c (k + 1) row) := by
  rw [← clr_next hc hk]
  have : row.getD k 0 + (q - f) * own.getD k 0 = (row.getD k 0 - f * own.getD k 0) + q * own.getD k 0 := by rw [Int.sub_mul]; omega
  rw [this, Int.add_mul_emod_self_left]

section
variable {C : Cx Try.prog 164} {Q : Post} {p q : Int}

theorem l_implRank5 {n r c b nr ni i : Nat} {f : Int} {x17 x115 x116 x117 : AV} {own row : List Int} {c0 : List AV} {l5 : Ar} (hn : n ≤ 20000) (hq3 : 3 ≤ q ∧ q ≤ 13) (hri : i ≠ r)
    (hor : own.length = n ∧ ∀ k, k < n → 0 ≤ own.getD k 0 ∧ own.getD k 0 < q) (hrow : row.length = n ∧ ∀ k, k < n → 0 ≤ row.getD k 0 ∧ row.getD k 0 < q) (hf : 0 ≤ f ∧ f < q)
    (hi5 : i < l5.length) (hr5 : l5[r]? = some (nr, ints own))
    (hQ : Q (.exit 10) ⟨[(1, .int .i64 q), (7, Hd b n), (8, .int .i64 r), (63, .int .i64 n), (64, .int .i64 c), (14, .int .i64 c), (16, RwF nr n), (17, x17), (115, x115), (116, x116), (117, x117)], [[(b, c0)], [], [], [], [], l5.set i (ni, ints (clr q f own c n row))]⟩) :
    ∀ (d k : Nat) (l : Ar), c ≤ k → k + d = n → l = l5.set i (ni, ints (clr q f own c k row)) →
      LP C (nav Try.f5.body.get! [1, 1, 1, 1, 0, 1, 0, 0, 1, 1, 0, 0, 1, 1, 1, 1, 1, 1, 1, 0, 1, 0, 0, 1, 1, 0, 0, 1, 1, 1, 1, 0, 0]) Q ⟨[(1, .int .i64 q), (7, Hd b n), (8, .int .i64 r), (63, .int .i64 n), (64, .int .i64 c), (14, .int .i64 c), (16, RwF nr n), (17, x17), (115, x115), (116, x116), (117, x117), (19, RwF ni n), (20, .int .i64 (q - f)), (21, .int .i64 k)], [[(b, c0)], [], [], [], [], l]⟩ := by
  intro d
  induction d with
  | zero =>
    intro k l hck hd hl
    have hk : k = n := by omega
    refine LP.round ?_
    refine WP.seq ?_
    refine WP.seq (WP.region (l := [0, 1, 2, 3]) rfl ?_)
    refine Run.move rfl rfl rfl (.at rfl) ?_
    refine Run.move rfl rfl rfl (.at rfl) ?_
    refine Run.len rfl rfl rfl (.at rfl) is_29 rfl ?_
    refine Run.int rfl rfl rfl (.at rfl) (.at rfl) rfl ?_
    refine Run.nil ?_
    refine WP.cond_f (.at rfl) (by simp; omega) ?_
    subst hk hl
    exact WP.keep (WP.exit hQ) (by repeat (first | exact trivial | refine ⟨rfl, ?_⟩)) (by repeat (first | exact HSub.nil | refine HSub.keep ?_ | refine HSub.dead ?_))
  | succ d ih =>
    intro k l hck hd hl
    have hkn : k < n := by omega
    have hli : l[i]? = some (ni, ints (clr q f own c k row)) := by rw [hl, List.getElem?_set_self hi5]
    have hlr : l[r]? = some (nr, ints own) := by rw [hl, List.getElem?_set_ne hri, hr5]
    have hcl : (clr q f own c k row).length = n := by rw [clr_length, hrow.1]
    have hv := clr_getD q f own c k row (x := k) (by rw [hrow.1]; exact hkn)
    rw [if_neg (by omega)] at hv
    have b1 := hor.2 k hkn
    have b2 := hrow.2 k hkn
    have hm := Sm.mul (show Sm (q - f) by unfold Sm; omega) (show Sm (own.getD k 0) by unfold Sm; omega)
    have hm0 : 0 ≤ (q - f) * own.getD k 0 := Int.mul_nonneg (by omega) (by omega)
    have hc1 : (ints (clr q f own c k row))[0 + k * 1]? = some (.int .i64 (row.getD k 0)) := by rw [ints_at (by rw [hcl]; exact hkn), hv]
    have hc2 : (ints own)[0 + k * 1]? = some (.int .i64 (own.getD k 0)) := ints_at (by rw [hor.1]; exact hkn)
    refine LP.round ?_
    refine WP.seq ?_
    refine WP.seq (WP.region (l := [0, 1, 2, 3]) rfl ?_)
    refine Run.move rfl rfl rfl (.at rfl) ?_
    refine Run.move rfl rfl rfl (.at rfl) ?_
    refine Run.len rfl rfl rfl (.at rfl) is_29 rfl ?_
    refine Run.int rfl rfl rfl (.at rfl) (.at rfl) rfl ?_
    refine Run.nil ?_
    refine WP.cond_t (.at rfl) (by simp; omega) ?_
    refine WP.skip ?_
    refine WP.seq ?_
    refine WP.block ?_
    refine WP.draw mx_0 ?_
    refine Drawn.calmR ?_
    refine' DrawR.op 0 143 0 [(19, none)] rfl rfl (fun rest => ?_) ?_
    rotate_left
    · skip
      refine Run.move rfl rfl rfl (.at rfl) ?_
      exact single_nil
    refine' DrawR.op 1 144 1 [(21, none)] rfl rfl (fun rest => ?_) ?_
    rotate_left
    · skip
      refine Run.move rfl rfl rfl (.at rfl) ?_
      exact single_nil
    refine' DrawR.op 2 145 2 [(19, none)] rfl rfl (fun rest => ?_) ?_
    rotate_left
    · skip
      refine Run.move rfl rfl rfl (.at rfl) ?_
      exact single_nil
    refine' DrawR.op 3 146 3 [(21, none)] rfl rfl (fun rest => ?_) ?_
    rotate_left
    · skip
      refine Run.move rfl rfl rfl (.at rfl) ?_
      exact single_nil
    refine' DrawR.op 4 147 4 [(145, some 1), (146, some 0)] rfl rfl (fun rest => ?_) ?_
    rotate_left
    · skip
      refine Run.idx (j := k) rfl rfl rfl (.at rfl) (.at rfl) sl_29_1 rfl hkn ?_
      exact single_nil
    refine' DrawR.op 5 148 5 [(147, some 0)] rfl rfl (fun rest => ?_) ?_
    rotate_left
    · skip
      refine Run.load rfl rfl rfl (.at rfl) (.own ⟨_, rfl, hli⟩) sc_2 hc1 ?_
      exact single_nil
    refine' DrawR.op 6 149 6 [(20, none)] rfl rfl (fun rest => ?_) ?_
    rotate_left
    · skip
      refine Run.move rfl rfl rfl (.at rfl) ?_
      exact single_nil
    refine' DrawR.op 7 150 7 [(16, none)] rfl rfl (fun rest => ?_) ?_
    rotate_left
    · skip
      refine Run.move rfl rfl rfl (.at rfl) ?_
      exact single_nil
    refine' DrawR.op 8 151 8 [(21, none)] rfl rfl (fun rest => ?_) ?_
    rotate_left
    · skip
      refine Run.move rfl rfl rfl (.at rfl) ?_
      exact single_nil
    refine' DrawR.op 9 152 9 [(150, some 1), (151, some 0)] rfl rfl (fun rest => ?_) ?_
    rotate_left
    · skip
      refine Run.idx (j := k) rfl rfl rfl (.at rfl) (.at rfl) sl_29_1 rfl hkn ?_
      exact single_nil
    refine' DrawR.op 10 153 10 [(152, some 0)] rfl rfl (fun rest => ?_) ?_
    rotate_left
    · skip
      refine Run.load rfl rfl rfl (.at rfl) (.own ⟨_, rfl, hlr⟩) sc_2 hc2 ?_
      exact single_nil
    refine' DrawR.op 11 154 11 [(149, some 4), (153, some 0)] rfl rfl (fun rest => ?_) ?_
    rotate_left
    · skip
      refine Run.mul rfl rfl rfl (.at rfl) (.at rfl) (by omega) ?_
      exact single_nil
    refine' DrawR.op 12 155 12 [(148, some 6), (154, some 0)] rfl rfl (fun rest => ?_) ?_
    rotate_left
    · skip
      refine Run.add rfl rfl rfl (.at rfl) (.at rfl) (by omega) ?_
      exact single_nil
    refine' DrawR.op 13 156 13 [(1, none)] rfl rfl (fun rest => ?_) ?_
    rotate_left
    · skip
      refine Run.move rfl rfl rfl (.at rfl) ?_
      exact single_nil
    refine' DrawR.op 14 157 14 [(155, some 1), (156, some 0)] rfl rfl (fun rest => ?_) ?_
    rotate_left
    · skip
      refine Run.rem rfl rfl rfl (.at rfl) (.at rfl) (by omega) (by omega) ?_
      exact single_nil
    refine' DrawR.op 15 158 15 [(143, some 14), (144, some 13)] rfl rfl (fun rest => ?_) ?_
    rotate_left
    · skip
      refine Run.idx (j := k) rfl rfl rfl (.at rfl) (.at rfl) sl_29_1 rfl hkn ?_
      exact single_nil
    refine DrawR.tail [16] rfl (by kernel_rfl) ?_
    refine Run.store rfl rfl (.at rfl) rfl hli (.at rfl) sz_2_1 rfl rfl (by rw [ints_length, hcl]; omega) (clr_next' hck (by rw [hrow.1]; exact hkn)) ?_
    refine Run.nil ?_
    refine WP.region (l := [0, 1, 2]) rfl ?_
    refine Run.move rfl rfl rfl (.at rfl) ?_
    refine Run.add rfl rfl rfl (.at rfl) (.at rfl) (by omega) ?_
    refine Run.assign rfl rfl rfl (.at rfl) ?_
    refine Run.nil ?_
    refine LP.keep (ih (k + 1) _ (by omega) (by omega) ?_) (by repeat (first | exact trivial | refine ⟨rfl, ?_⟩)) (by repeat (first | exact HSub.nil | refine HSub.keep ?_ | refine HSub.dead ?_))
    rw [hl, List.set_set]

theorem l_implRank3 {n r c b : Nat} {M : Mat} {res : Nat} (hn : n ≤ 20000) (hM : RowsOk q n M) (hc : c < n)
    (hQ : Q (.exit 6) ⟨[(1, .int .i64 q), (7, Hd b n), (8, .int .i64 r), (63, .int .i64 n), (64, .int .i64 c), (14, .int .i64 c), (15, .int .i64 res)], [[(b, hdr 5 n false M)], [], [], [], [], fam M]⟩) :
    ∀ (d i : Nat), i + d = n → firstGo c (rows M) d i = res →
      LP C (nav Try.f5.body.get! [1, 1, 1, 1, 0, 1, 0, 0, 1, 1, 0, 0, 1, 1, 0, 0, 0]) Q ⟨[(1, .int .i64 q), (7, Hd b n), (8, .int .i64 r), (63, .int .i64 n), (64, .int .i64 c), (14, .int .i64 c), (15, .int .i64 i)], [[(b, hdr 5 n false M)], [], [], [], [], fam M]⟩ := by
  intro d
  induction d with
  | zero =>
    intro i hd hf
    have hk : i = n := by omega
    have hi' : i < n → i < M.length := fun h => by rw [hM.len]; exact h
    refine LP.round ?_
    refine WP.seq ?_
    refine WP.seq (WP.region (l := [0, 1, 2, 3, 4, 5, 6, 7, 8, 9, 10, 11, 12, 13]) rfl ?_)
    refine Run.move rfl rfl rfl (.at rfl) ?_
    refine Run.move rfl rfl rfl (.at rfl) ?_
    refine Run.len rfl rfl rfl (.at rfl) is_28 rfl ?_
    refine Run.int rfl rfl rfl (.at rfl) (.at rfl) rfl ?_
    refine Run.move rfl rfl rfl (.at rfl) ?_
    refine' Run.guarded rfl rfl rfl rfl rfl rfl (fun ht => ?_) ?_
    rotate_left
    · have hi : i < n := by simpa using ht
      refine Run.move rfl rfl rfl (.at rfl) ?_
      exact single_nil
    refine' Run.guarded rfl rfl rfl rfl rfl rfl (fun ht => ?_) ?_
    rotate_left
    · have hi : i < n := by simpa using ht
      refine Run.move rfl rfl rfl (.at rfl) ?_
      exact single_nil
    refine' Run.guarded rfl rfl rfl rfl rfl rfl (fun ht => ?_) ?_
    rotate_left
    · have hi : i < n := by simpa using ht
      refine Run.idx (j := i) rfl rfl rfl (.opt rfl ht) (.opt rfl ht) sl_28_1 rfl hi ?_
      exact single_nil
    refine' Run.guarded rfl rfl rfl rfl rfl rfl (fun ht => ?_) ?_
    rotate_left
    · have hi : i < n := by simpa using ht
      refine Run.load rfl rfl rfl (.opt rfl ht) (place_adr rfl) sc_29 (hdr_at (hi' hi)) ?_
      exact single_nil
    refine' Run.guarded rfl rfl rfl rfl rfl rfl (fun ht => ?_) ?_
    rotate_left
    · have hi : i < n := by simpa using ht
      refine Run.move rfl rfl rfl (.at rfl) ?_
      exact single_nil
    refine' Run.guarded rfl rfl rfl rfl rfl rfl (fun ht => ?_) ?_
    rotate_left
    · have hi : i < n := by simpa using ht
      refine Run.idx (j := c) rfl rfl rfl (.opt rfl ht) (.opt rfl ht) sl_29_1 rfl hc ?_
      exact single_nil
    refine' Run.guarded rfl rfl rfl rfl rfl rfl (fun ht => ?_) ?_
    rotate_left
    · have hi : i < n := by simpa using ht
      refine Run.load rfl rfl rfl (.opt rfl ht) (.own ⟨_, rfl, fam_at (hi' hi)⟩) sc_2 (ints_at (by rw [(hM.row i hi).1]; exact hc)) ?_
      exact single_nil
    refine' Run.guarded rfl rfl rfl rfl rfl rfl (fun ht => ?_) ?_
    rotate_left
    · have hi : i < n := by simpa using ht
      refine Run.int rfl rfl rfl (.opt rfl ht) (.at rfl) rfl ?_
      exact single_nil
    refine Run.and rfl rfl rfl (.at rfl) (.at rfl) rfl ?_
    refine Run.nil ?_
    refine WP.cond_f (.at rfl) (by simp [hk]) ?_
    simp only [firstGo] at hf
    subst hf
    exact WP.keep (WP.exit hQ) (by repeat (first | exact trivial | refine ⟨rfl, ?_⟩)) (by repeat (first | exact HSub.nil | refine HSub.keep ?_ | refine HSub.dead ?_))
  | succ d ih =>
    intro i hd hf
    have hi' : i < n → i < M.length := fun h => by rw [hM.len]; exact h
    simp only [firstGo, rows_length, hM.len, rows_getD] at hf
    refine LP.round ?_
    refine WP.seq ?_
    refine WP.seq (WP.region (l := [0, 1, 2, 3, 4, 5, 6, 7, 8, 9, 10, 11, 12, 13]) rfl ?_)
    refine Run.move rfl rfl rfl (.at rfl) ?_
    refine Run.move rfl rfl rfl (.at rfl) ?_
    refine Run.len rfl rfl rfl (.at rfl) is_28 rfl ?_
    refine Run.int rfl rfl rfl (.at rfl) (.at rfl) rfl ?_
    refine Run.move rfl rfl rfl (.at rfl) ?_
    refine' Run.guarded rfl rfl rfl rfl rfl rfl (fun ht => ?_) ?_
    rotate_left
    · have hi : i < n := by simpa using ht
      refine Run.move rfl rfl rfl (.at rfl) ?_
      exact single_nil
    refine' Run.guarded rfl rfl rfl rfl rfl rfl (fun ht => ?_) ?_
    rotate_left
    · have hi : i < n := by simpa using ht
      refine Run.move rfl rfl rfl (.at rfl) ?_
      exact single_nil
    refine' Run.guarded rfl rfl rfl rfl rfl rfl (fun ht => ?_) ?_
    rotate_left
    · have hi : i < n := by simpa using ht
      refine Run.idx (j := i) rfl rfl rfl (.opt rfl ht) (.opt rfl ht) sl_28_1 rfl hi ?_
      exact single_nil
    refine' Run.guarded rfl rfl rfl rfl rfl rfl (fun ht => ?_) ?_
    rotate_left
    · have hi : i < n := by simpa using ht
      refine Run.load rfl rfl rfl (.opt rfl ht) (place_adr rfl) sc_29 (hdr_at (hi' hi)) ?_
      exact single_nil
    refine' Run.guarded rfl rfl rfl rfl rfl rfl (fun ht => ?_) ?_
    rotate_left
    · have hi : i < n := by simpa using ht
      refine Run.move rfl rfl rfl (.at rfl) ?_
      exact single_nil
    refine' Run.guarded rfl rfl rfl rfl rfl rfl (fun ht => ?_) ?_
    rotate_left
    · have hi : i < n := by simpa using ht
      refine Run.idx (j := c) rfl rfl rfl (.opt rfl ht) (.opt rfl ht) sl_29_1 rfl hc ?_
      exact single_nil
    refine' Run.guarded rfl rfl rfl rfl rfl rfl (fun ht => ?_) ?_
    rotate_left
    · have hi : i < n := by simpa using ht
      refine Run.load rfl rfl rfl (.opt rfl ht) (.own ⟨_, rfl, fam_at (hi' hi)⟩) sc_2 (ints_at (by rw [(hM.row i hi).1]; exact hc)) ?_
      exact single_nil
    refine' Run.guarded rfl rfl rfl rfl rfl rfl (fun ht => ?_) ?_
    rotate_left
    · have hi : i < n := by simpa using ht
      refine Run.int rfl rfl rfl (.opt rfl ht) (.at rfl) rfl ?_
      exact single_nil
    refine Run.and rfl rfl rfl (.at rfl) (.at rfl) rfl ?_
    refine Run.nil ?_
    refine WP.cond (.at rfl) (fun hc5 => ?_) (fun hc5 => ?_)
    · have hc5' : (decide (i < n) && ((rowOf M i).getD c 0 == 0)) = true := by simpa using hc5
      rw [if_pos hc5'] at hf
      refine WP.skip ?_
      refine WP.block ?_
      refine WP.region (l := [0, 1, 2]) rfl ?_
      refine Run.move rfl rfl rfl (.at rfl) ?_
      refine Run.add rfl rfl rfl (.at rfl) (.at rfl) (by omega) ?_
      refine Run.assign rfl rfl rfl (.at rfl) ?_
      refine Run.nil ?_
      exact LP.keep (ih (i + 1) (by omega) hf) (by repeat (first | exact trivial | refine ⟨rfl, ?_⟩)) (by repeat (first | exact HSub.nil | refine HSub.keep ?_ | refine HSub.dead ?_))
    · have hc5' : ¬ (decide (i < n) && ((rowOf M i).getD c 0 == 0)) = true := by simpa using hc5
      rw [if_neg hc5'] at hf
      subst hf
      exact WP.keep (WP.exit hQ) (by repeat (first | exact trivial | refine ⟨rfl, ?_⟩)) (by repeat (first | exact HSub.nil | refine HSub.keep ?_ | refine HSub.dead ?_))

theorem l_implRank4 {n r c b : Nat} {iv : Int} {x115 : AV} {M : Mat} (hn : n ≤ 20000) (hq3 : 3 ≤ q ∧ q ≤ 13) (hM : RowsOk q n M) (hr : r < n) (hc : c < n) (hiv : 1 ≤ iv ∧ iv < q)
    (hx : r + 1 < n → x115 = .own 0 b 1 (0 + (r + 1) * 1) (n - (r + 1)) (n - (r + 1)) true)
    (hQ : Q (.exit 8) ⟨[(1, .int .i64 q), (7, Hd b n), (8, .int .i64 r), (63, .int .i64 n), (64, .int .i64 c)], [[(b, hdr 5 n false M)], [], [], [], [], fam (elimTo q c iv (rowOf M r) r n M)]⟩) :
    ∀ (d j : Nat) (l5 : Ar), r + 1 + j + d = n → l5 = fam (elimTo q c iv (rowOf M r) r (r + 1 + j) M) →
      LP C (nav Try.f5.body.get! [1, 1, 1, 1, 0, 1, 0, 0, 1, 1, 0, 0, 1, 1, 1, 1, 1, 1, 1, 0, 1, 0, 0]) Q ⟨[(1, .int .i64 q), (7, Hd b n), (8, .int .i64 r), (63, .int .i64 n), (64, .int .i64 c), (14, .int .i64 c), (16, RwF (nmOf M r) n), (17, .int .i64 iv), (115, x115), (116, .int .i64 (n - (r + 1) : Nat)), (117, .int .i64 j)], [[(b, hdr 5 n false M)], [], [], [], [], l5]⟩ := by
  have hML := hM.len
  intro d
  induction d with
  | zero =>
    intro j l5 hd hl
    have hk : r + 1 + j = n := by omega
    refine LP.round ?_
    refine WP.seq (WP.region (l := [0]) rfl ?_)
    refine Run.int rfl rfl rfl (.at rfl) (.at rfl) rfl ?_
    refine Run.nil ?_
    refine WP.seq ?_
    refine WP.cond_f (.at rfl) (by simp; omega) ?_
    rw [hk] at hl
    subst hl
    exact WP.keep (WP.exit hQ) (by repeat (first | exact trivial | refine ⟨rfl, ?_⟩)) (by repeat (first | exact HSub.nil | refine HSub.keep ?_ | refine HSub.dead ?_))
  | succ d ih =>
    intro j l5 hd hl
    obtain rfl := hx (by omega)
    generalize hi : r + 1 + j = i at hl hd
    have hin : i < n := by omega
    have hri : r < i := by omega
    have hli : l5[i]? = some (nmOf M i, ints (rowOf M i)) := by rw [hl]; exact elim_at (by omega) (.inr (Nat.le_refl _))
    have hlr : l5[r]? = some (nmOf M r, ints (rowOf M r)) := by rw [hl]; exact elim_at (by omega) (.inl (Nat.le_refl _))
    have hlen : l5.length = n := by rw [hl, fam_length, elimTo_length, hML]
    have hrow := hM.row i hin
    have b1 := hrow.2 c hc
    have hm := Sm.mul (show Sm ((rowOf M i).getD c 0) by unfold Sm; omega) (show Sm iv by unfold Sm; omega)
    have hm0 : 0 ≤ (rowOf M i).getD c 0 * iv := Int.mul_nonneg (by omega) (by omega)
    have hf1 := Int.emod_nonneg ((rowOf M i).getD c 0 * iv) (show q ≠ 0 by omega)
    have hf2 := Int.emod_lt_of_pos ((rowOf M i).getD c 0 * iv) (show 0 < q by omega)
    have hci : (ints (rowOf M i))[0 + c * 1]? = some (.int .i64 ((rowOf M i).getD c 0)) := ints_at (by rw [hrow.1]; exact hc)
    have hh : (hdr 5 n false M)[0 + (r + 1) * 1 + j * 1]? = some (RwF (nmOf M i) n) := by
      have := hdr_at (f := 5) (n := n) (o := false) (M := M) (i := i) (by omega)
      have e : 0 + (r + 1) * 1 + j * 1 = 0 + i * 1 := by omega
      rw [e]
      exact this
    refine LP.round ?_
    refine WP.seq (WP.region (l := [0]) rfl ?_)
    refine Run.int rfl rfl rfl (.at rfl) (.at rfl) rfl ?_
    refine Run.nil ?_
    refine WP.seq ?_
    refine WP.cond_t (.at rfl) (by simp; omega) ?_
    refine WP.skip ?_
    refine WP.seq ?_
    refine WP.block ?_
    refine WP.seq (WP.region (l := [0, 1, 2]) rfl ?_)
    refine Run.idx (j := j) rfl rfl rfl (.at rfl) (.at rfl) sl_28_1 rfl (by omega) ?_
    refine Run.load rfl rfl rfl (.at rfl) (place_adr rfl) sc_29 hh ?_
    refine Run.assign rfl rfl rfl (.at rfl) ?_
    refine Run.nil ?_
    refine WP.seq ?_
    refine WP.seq (WP.region (l := [0, 1, 2, 3, 4]) rfl ?_)
    refine Run.move rfl rfl rfl (.at rfl) ?_
    refine Run.move rfl rfl rfl (.at rfl) ?_
    refine Run.idx (j := c) rfl rfl rfl (.at rfl) (.at rfl) sl_29_1 rfl hc ?_
    refine Run.load rfl rfl rfl (.at rfl) (.own ⟨_, rfl, hli⟩) sc_2 hci ?_
    refine Run.int rfl rfl rfl (.at rfl) (.at rfl) rfl ?_
    refine Run.nil ?_
    refine WP.cond (.at rfl) (fun hc8 => ?_) (fun hc8 => ?_)
    · have h0 : (rowOf M i).getD c 0 = 0 := by simpa using hc8
      refine WP.exit ?_
      refine WP.region (l := [0, 1]) rfl ?_
      refine Run.add rfl rfl rfl (.at rfl) (.at rfl) (by omega) ?_
      refine Run.move rfl rfl rfl (.at rfl) ?_
      refine Run.nil ?_
      refine LP.keep (ih (j + 1) _ (by omega) ?_) (by repeat (first | exact trivial | refine ⟨rfl, ?_⟩)) (by repeat (first | exact HSub.nil | refine HSub.keep ?_ | refine HSub.dead ?_))
      have e : r + 1 + (j + 1) = i + 1 := by omega
      rw [hl, e, elimTo_same hri (by omega) h0]
    · have h0 : (rowOf M i).getD c 0 ≠ 0 := by simpa using hc8
      refine WP.skip ?_
      refine WP.seq (WP.region (l := [0, 1, 2, 3, 4, 5, 6, 7, 8, 9, 10]) rfl ?_)
      refine Run.move rfl rfl rfl (.at rfl) ?_
      refine Run.move rfl rfl rfl (.at rfl) ?_
      refine Run.move rfl rfl rfl (.at rfl) ?_
      refine Run.idx (j := c) rfl rfl rfl (.at rfl) (.at rfl) sl_29_1 rfl hc ?_
      refine Run.load rfl rfl rfl (.at rfl) (.own ⟨_, rfl, hli⟩) sc_2 hci ?_
      refine Run.move rfl rfl rfl (.at rfl) ?_
      refine Run.mul rfl rfl rfl (.at rfl) (.at rfl) (by omega) ?_
      refine Run.move rfl rfl rfl (.at rfl) ?_
      refine Run.rem rfl rfl rfl (.at rfl) (.at rfl) (by omega) (by omega) ?_
      refine Run.sub rfl rfl rfl (.at rfl) (.at rfl) (by omega) ?_
      refine Run.assign rfl rfl rfl (.at rfl) ?_
      refine Run.nil ?_
      refine WP.seq (WP.region (l := [0, 1]) rfl ?_)
      refine Run.move rfl rfl rfl (.at rfl) ?_
      refine Run.assign rfl rfl rfl (.at rfl) ?_
      refine Run.nil ?_
      refine WP.block ?_
      refine WP.loop (LP.keep (l_implRank5 (i := i) (r := r) (c := c) (l5 := l5) (own := rowOf M r) (row := rowOf M i) (nr := nmOf M r) (ni := nmOf M i) (x17 := .int .i64 iv) (x115 := .own 0 b 1 (0 + (r + 1) * 1) (n - (r + 1)) (n - (r + 1)) true) (x116 := .int .i64 (n - (r + 1) : Nat)) (x117 := .int .i64 j) hn hq3 (by omega) (hM.row r hr) hrow ⟨hf1, hf2⟩ (by omega) hlr ?_ (n - c) c _ (Nat.le_refl _) (by omega) ?_) (by repeat (first | exact trivial | refine ⟨rfl, ?_⟩)) (by repeat (first | exact HSub.nil | refine HSub.keep ?_ | refine HSub.dead ?_)))
      rotate_left
      · rw [clr_start]
        apply List.ext_getElem?
        intro x
        rw [List.getElem?_set]
        split
        · rename_i hx; subst hx; rw [if_pos (by omega), hli]
        · rfl
      refine WP.region (l := [0, 1]) rfl ?_
      refine Run.add rfl rfl rfl (.at rfl) (.at rfl) (by omega) ?_
      refine Run.move rfl rfl rfl (.at rfl) ?_
      refine Run.nil ?_
      refine LP.keep (ih (j + 1) _ (by omega) ?_) (by repeat (first | exact trivial | refine ⟨rfl, ?_⟩)) (by repeat (first | exact HSub.nil | refine HSub.keep ?_ | refine HSub.dead ?_))
      have e : r + 1 + (j + 1) = i + 1 := by omega
      rw [hl, e, ← elimTo_next hri (by omega), ← fam_set]
      unfold elimRow
      rw [if_neg h0, hrow.1]
end
end Go.Ab
