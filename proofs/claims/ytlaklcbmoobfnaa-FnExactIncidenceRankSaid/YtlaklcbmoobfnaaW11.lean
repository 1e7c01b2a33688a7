/- The walk of the code's rank: all columns; the whole; and the law. -/
import Derived.Test.YtlaklcbmoobfnaaW10
namespace Go.Ab
open Go.Proofs

section
variable {C : Cx Try.prog 164} {Q : Post} {p q : Int}

theorem l_implRank2 {n b res : Nat} (hq : IsP q) (hn : n ≤ 20000) (hQ : Q (.exit 4) ⟨[(8, .int .i64 res)], [[], [], [], [], [], []]⟩) :
    ∀ (d c r : Nat) (M : Mat), c + d = n → r ≤ c → RowsOk q n M → (colsR q d c (r, rows M)).1 = res →
      LP C (nav Try.f5.body.get! [1, 1, 1, 1, 0, 1, 0, 0]) Q ⟨[(1, .int .i64 q), (7, Hd b n), (8, .int .i64 r), (63, .int .i64 n), (64, .int .i64 c)], [[(b, hdr 5 n false M)], [], [], [], [], fam M]⟩ := by
  have hq3 := hq.bd
  intro d
  induction d with
  | zero =>
    intro c r M hd hr hM hres
    have hk : c = n := by omega
    simp only [colsR] at hres
    refine LP.round ?_
    refine WP.seq (WP.region (l := [0]) rfl ?_)
    refine Run.int rfl rfl rfl (.at rfl) (.at rfl) rfl ?_
    refine Run.nil ?_
    refine WP.seq ?_
    refine WP.cond_f (.at rfl) (by simp; omega) ?_
    subst hres
    exact WP.keep (WP.exit hQ) (by repeat (first | exact trivial | refine ⟨rfl, ?_⟩)) (by repeat (first | exact HSub.nil | refine HSub.keep ?_ | refine HSub.dead ?_))
  | succ d ih =>
    intro c r M hd hr hM hres
    have hML := hM.len
    have hcn : c < n := by omega
    have hrn : r < n := by omega
    simp only [colsR] at hres
    have hst := rows_stepM q c (r, M)
    simp only at hst
    rw [← hst] at hres
    have hfs := first_spec (c := c) hM (Nat.le_of_lt hrn)
    unfold stepM at hres
    simp only [hML] at hres
    generalize hff : first c (rows M) r = f at hfs hres
    obtain ⟨hf1, hf2, hf3⟩ := hfs
    have hgo : firstGo c (rows M) (n - r) r = f := by rw [← hff]; unfold first; rw [rows_length, hML]
    refine LP.round ?_
    refine WP.seq (WP.region (l := [0]) rfl ?_)
    refine Run.int rfl rfl rfl (.at rfl) (.at rfl) rfl ?_
    refine Run.nil ?_
    refine WP.seq ?_
    refine WP.cond_t (.at rfl) (by simp; omega) ?_
    refine WP.skip ?_
    refine WP.seq ?_
    refine WP.block ?_
    refine WP.seq (WP.region (l := [0, 1]) rfl ?_)
    refine Run.move rfl rfl rfl (.at rfl) ?_
    refine Run.assign rfl rfl rfl (.at rfl) ?_
    refine Run.nil ?_
    refine WP.seq (WP.region (l := [0, 1]) rfl ?_)
    refine Run.move rfl rfl rfl (.at rfl) ?_
    refine Run.assign rfl rfl rfl (.at rfl) ?_
    refine Run.nil ?_
    refine WP.seq ?_
    refine WP.block ?_
    refine WP.loop (LP.keep (l_implRank3 hn hM hcn ?_ (n - r) r (by omega) hgo) (by repeat (first | exact trivial | refine ⟨rfl, ?_⟩)) (by repeat (first | exact HSub.nil | refine HSub.keep ?_ | refine HSub.dead ?_)))
    refine WP.seq ?_
    refine WP.seq (WP.region (l := [0, 1, 2, 3]) rfl ?_)
    refine Run.move rfl rfl rfl (.at rfl) ?_
    refine Run.move rfl rfl rfl (.at rfl) ?_
    refine Run.len rfl rfl rfl (.at rfl) is_28 rfl ?_
    refine Run.int rfl rfl rfl (.at rfl) (.at rfl) rfl ?_
    refine Run.nil ?_
    refine WP.cond (.at rfl) (fun hc6 => ?_) (fun hc6 => ?_)
    · have hfn : f = n := by simp at hc6; omega
      refine WP.exit ?_
      refine WP.region (l := [0, 1]) rfl ?_
      refine Run.add rfl rfl rfl (.at rfl) (.at rfl) (by omega) ?_
      refine Run.move rfl rfl rfl (.at rfl) ?_
      refine Run.nil ?_
      rw [if_pos hfn] at hres
      exact LP.keep (ih (c + 1) r M (by omega) (by omega) hM hres) (by repeat (first | exact trivial | refine ⟨rfl, ?_⟩)) (by repeat (first | exact HSub.nil | refine HSub.keep ?_ | refine HSub.dead ?_))
    · have hfn : f ≠ n := by simp at hc6; omega
      rw [if_neg hfn] at hres
      have hfl : f < n := by omega
      refine WP.skip ?_
      refine WP.seq (WP.draw mx_0 ?_)
      refine Drawn.move 2 rfl (by kernel_rfl) rfl (.at rfl) ?_
      refine Drawn.move 3 rfl (by kernel_rfl) rfl (.at rfl) ?_
      refine Drawn.calmR ?_
      refine' DrawR.op 0 88 0 [(7, none)] rfl rfl (fun rest => ?_) ?_
      rotate_left
      · skip
        refine Run.move rfl rfl rfl (.at rfl) ?_
        exact single_nil
      refine' DrawR.op 1 89 1 [(8, none)] rfl rfl (fun rest => ?_) ?_
      rotate_left
      · skip
        refine Run.move rfl rfl rfl (.at rfl) ?_
        exact single_nil
      refine' DrawR.op 4 92 2 [(7, none)] rfl rfl (fun rest => ?_) ?_
      rotate_left
      · skip
        refine Run.move rfl rfl rfl (.at rfl) ?_
        exact single_nil
      refine' DrawR.op 5 93 3 [(15, none)] rfl rfl (fun rest => ?_) ?_
      rotate_left
      · skip
        refine Run.move rfl rfl rfl (.at rfl) ?_
        exact single_nil
      refine' DrawR.op 6 94 4 [(92, some 1), (93, some 0)] rfl rfl (fun rest => ?_) ?_
      rotate_left
      · skip
        refine Run.idx (j := f) rfl rfl rfl (.at rfl) (.at rfl) sl_28_1 rfl hfl ?_
        exact single_nil
      refine' DrawR.op 7 95 5 [(94, some 0)] rfl rfl (fun rest => ?_) ?_
      rotate_left
      · skip
        refine Run.load rfl rfl rfl (.at rfl) (place_adr rfl) sc_29 (hdr_at (by omega)) ?_
        exact single_nil
      refine' DrawR.op 8 96 6 [(7, none)] rfl rfl (fun rest => ?_) ?_
      rotate_left
      · skip
        refine Run.move rfl rfl rfl (.at rfl) ?_
        exact single_nil
      refine' DrawR.op 9 97 7 [(8, none)] rfl rfl (fun rest => ?_) ?_
      rotate_left
      · skip
        refine Run.move rfl rfl rfl (.at rfl) ?_
        exact single_nil
      refine' DrawR.op 10 98 8 [(96, some 1), (97, some 0)] rfl rfl (fun rest => ?_) ?_
      rotate_left
      · skip
        refine Run.idx (j := r) rfl rfl rfl (.at rfl) (.at rfl) sl_28_1 rfl hrn ?_
        exact single_nil
      refine' DrawR.op 11 99 9 [(98, some 0)] rfl rfl (fun rest => ?_) ?_
      rotate_left
      · skip
        refine Run.load rfl rfl rfl (.at rfl) (place_adr rfl) sc_29 (hdr_at (by omega)) ?_
        exact single_nil
      refine' DrawR.op 12 100 10 [(88, some 9), (89, some 8)] rfl rfl (fun rest => ?_) ?_
      rotate_left
      · skip
        refine Run.idx (j := r) rfl rfl rfl (.at rfl) (.at rfl) sl_28_1 rfl hrn ?_
        exact single_nil
      refine DrawR.tail [13, 14, 15] rfl (by kernel_rfl) ?_
      refine Run.store (j := 0) rfl rfl (.at rfl) rfl rfl (.at rfl) sz_29_1 rfl rfl (hdr_in (f := 5) (n := n) (o := false) (M := M) (i := r) (by omega)) rfl ?_
      refine Run.idx (j := f) rfl rfl rfl (.at rfl) (.at rfl) sl_28_1 rfl hfl ?_
      refine Run.store (j := 0) rfl rfl (.at rfl) rfl rfl (.at rfl) sz_29_1 rfl rfl (hdr_room (f := 5) (n := n) (o := false) (M := M) (i := r) (j := f) (x := .own 5 (nmOf M f) 1 0 n n false) (by omega) (by omega)) rfl ?_
      refine Run.nil ?_
      refine WP.hp (H' := [[(b, hdr 5 n false (swap M r f))], [], [], [], [], fam M]) (by
        show [[(b, splice (splice (hdr 5 n false M) (0 + r * 1) [AV.own 5 (nmOf M f) 1 0 n n false]) (0 + f * 1) [AV.own 5 (nmOf M r) 1 0 n n false])], [], [], [], [], fam M] = _
        rw [hdr_swap (by omega) (by omega)]) ?_
      refine WP.moved (Moved.swap (f := 5) (i := r) (j := f) (l := fam M) rfl (by rw [fam_length]; omega) (by rw [fam_length]; omega)) ?_
      refine WP.hp (H' := [[(b, hdr 5 n false (swap M r f))], [], [], [], [], fam (swap M r f)]) (by
        show [[(b, hdr 5 n false (swap M r f))], [], [], [], [], Ab.swap (fam M) r f] = _
        rw [fam_swap]) ?_
      have hM' : RowsOk q n (swap M r f) := hM.swap hrn hfl
      obtain ⟨hrow, hnm⟩ := swap_row (M := M) (r := r) (f := f) (by omega) (by omega)
      rw [← hrow] at hres hf3
      refine WP.keep (fr' := [(1, .int .i64 q), (7, Hd b n), (8, .int .i64 r), (63, .int .i64 n), (64, .int .i64 c), (14, .int .i64 c)]) (H' := [[(b, hdr 5 n false (swap M r f))], [], [], [], [], fam (swap M r f)]) ?_ (by repeat (first | exact trivial | refine ⟨rfl, ?_⟩)) (by repeat (first | exact HSub.nil | refine HSub.keep ?_ | refine HSub.dead ?_))
      generalize swap M r f = M' at hM' hrow hnm hres hf3
      have hML' := hM'.len
      have hb := (hM'.row r hrn).2 c hcn
      have h0 := hf3 hfl
      have hne : (rowOf M' r).getD c 0 % q ≠ 0 := by rw [Int.emod_eq_of_lt hb.1 hb.2]; exact h0
      have hsm : Sm ((rowOf M' r).getD c 0) := by unfold Sm; omega
      obtain ⟨hv1, hv2, hv3⟩ := inv_spec hq hne
      refine WP.seq (WP.region (l := [0, 1, 2, 3, 4]) rfl ?_)
      refine Run.move rfl rfl rfl (.at rfl) ?_
      refine Run.move rfl rfl rfl (.at rfl) ?_
      refine Run.idx (j := r) rfl rfl rfl (.at rfl) (.at rfl) sl_28_1 rfl hrn ?_
      refine Run.load rfl rfl rfl (.at rfl) (place_adr rfl) sc_29 (hdr_at (by omega)) ?_
      refine Run.assign rfl rfl rfl (.at rfl) ?_
      refine Run.nil ?_
      refine WP.seq (WP.region (l := [0, 1, 2, 3, 4, 5, 6]) rfl ?_)
      refine Run.move rfl rfl rfl (.at rfl) ?_
      refine Run.move rfl rfl rfl (.at rfl) ?_
      refine Run.idx (j := c) rfl rfl rfl (.at rfl) (.at rfl) sl_29_1 rfl hcn ?_
      refine Run.load rfl rfl rfl (.at rfl) (.own ⟨_, rfl, fam_at (by omega)⟩) sc_2 (ints_at (by rw [(hM'.row r hrn).1]; exact hcn)) ?_
      refine Run.move rfl rfl rfl (.at rfl) ?_
      refine Run.call rfl rfl rfl (.at rfl) (.cons (.at rfl) (.cons (.at rfl) .nil)) (c_inverse _ _ hq hne hsm) ?_
      refine Run.assign rfl rfl rfl (.at rfl) ?_
      refine Run.nil ?_
      refine WP.seq ?_
      refine WP.seq (WP.region (l := [0, 1, 2, 3, 4, 5]) rfl ?_)
      refine Run.move rfl rfl rfl (.at rfl) ?_
      refine Run.move rfl rfl rfl (.at rfl) ?_
      refine Run.add rfl rfl rfl (.at rfl) (.at rfl) (by omega) ?_
      refine Run.slice_any (bl := r + 1) (bh := n) rfl rfl rfl (.at rfl) sl_28_1 (Bnd.at (.at rfl) rfl) Bnd.no (by omega) (by omega) (fun x115 hx115 => ?_)
      refine Run.len (k := n - (r + 1)) rfl rfl rfl (.at rfl) is_28 (by rcases hx115 with ⟨_, rfl⟩ | ⟨h, rfl⟩ <;> simp only [lenA] <;> congr 1 <;> omega) ?_
      refine Run.move rfl rfl rfl (.at rfl) ?_
      refine Run.nil ?_
      refine WP.block ?_
      refine WP.loop (LP.keep (l_implRank4 (r := r) (c := c) (x115 := x115) hn hq3 hM' hrn hcn ⟨hv1, hv2⟩ ?_ ?_ (n - (r + 1)) 0 _ (by omega) ?_) (by repeat (first | exact trivial | refine ⟨rfl, ?_⟩)) (by repeat (first | exact HSub.nil | refine HSub.keep ?_ | refine HSub.dead ?_)))
      · intro h
        rcases hx115 with ⟨_, h⟩ | ⟨h', _⟩
        · exact h
        · omega
      rotate_left
      · rw [Nat.add_zero, elimTo_start]
      refine WP.region (l := [0, 1, 2]) rfl ?_
      refine Run.move rfl rfl rfl (.at rfl) ?_
      refine Run.add rfl rfl rfl (.at rfl) (.at rfl) (by omega) ?_
      refine Run.assign rfl rfl rfl (.at rfl) ?_
      refine Run.nil ?_
      refine WP.region (l := [0, 1]) rfl ?_
      refine Run.add rfl rfl rfl (.at rfl) (.at rfl) (by omega) ?_
      refine Run.move rfl rfl rfl (.at rfl) ?_
      refine Run.nil ?_
      have hh := hdr_names (f := 5) (n := n) (o := false) (elimTo_names q c (inv q ((rowOf M' r).getD c 0)) (rowOf M' r) r n M')
      have h := ih (c + 1) (r + 1) _ (by omega) (by omega) (hM'.elim (by omega)) hres
      rw [hh] at h
      exact LP.keep h (by repeat (first | exact trivial | refine ⟨rfl, ?_⟩)) (by repeat (first | exact HSub.nil | refine HSub.keep ?_ | refine HSub.dead ?_))
theorem c_implRank (p q : Int) (hpp : IsP p) (hq : IsP q) : Pure Try.prog 5 [.int .i64 p, .int .i64 q] (.tup [.int .i64 (rankOf p q), .int .i64 0]) := by
  have hb := hpp.bd
  have hp : 0 ≤ p ∧ p ≤ 100 := by omega
  have hn := cnt_le hp
  refine Pure.of_body 6 (n := 164) (fn := Try.f5) (c := Try.f5.body.get!) fn_5 rfl nm_5 rfl rfl fun C => ?_
  refine WP.seq (WP.region (l := [0, 1]) rfl ?_)
  refine Run.assign rfl rfl rfl (.at rfl) ?_
  refine Run.assign rfl rfl rfl (.at rfl) ?_
  refine Run.nil ?_
  refine WP.seq ?_
  refine WP.seq (WP.region (l := [0, 1, 2, 3, 4, 5, 6, 7]) rfl ?_)
  refine Run.move rfl rfl rfl (.at rfl) ?_
  refine Run.call rfl rfl rfl (.at rfl) (.cons (.at rfl) .nil) (c_isPrime _) ?_
  refine Run.not rfl rfl rfl (.at rfl) ?_
  refine Run.move rfl rfl rfl (.at rfl) ?_
  refine' Run.guarded rfl rfl rfl rfl rfl rfl (fun ht => ?_) ?_
  rotate_left
  · skip
    refine Run.move rfl rfl rfl (.at rfl) ?_
    exact single_nil
  refine' Run.guarded rfl rfl rfl rfl rfl rfl (fun ht => ?_) ?_
  rotate_left
  · skip
    refine Run.call rfl rfl rfl (.at rfl) (.cons (.opt rfl ht) .nil) (c_isPrime _) ?_
    exact single_nil
  refine' Run.guarded rfl rfl rfl rfl rfl rfl (fun ht => ?_) ?_
  rotate_left
  · skip
    refine Run.not rfl rfl rfl (.opt rfl ht) ?_
    exact single_nil
  refine Run.or rfl rfl rfl (.at rfl) (.at rfl) rfl ?_
  refine Run.nil ?_
  refine WP.cond_f (.at rfl) (by simp [isP_iff.2 hpp, isP_iff.2 hq]) ?_
  refine WP.skip ?_
  refine WP.seq (WP.region (l := [0, 1, 2, 3, 4, 5]) rfl ?_)
  refine Run.move rfl rfl rfl (.at rfl) ?_
  refine Run.call rfl rfl rfl (.at rfl) (.cons (.at rfl) .nil) (c_allPoints _ hp) ?_
  refine Run.buildSlice 0 rfl rfl rfl el_28 (by decide) .nil rfl rfl (fun b32 => ?_)
  refine Run.assign rfl rfl rfl (.at rfl) ?_
  refine Run.assign rfl rfl rfl (.at rfl) ?_
  refine Run.assign rfl rfl rfl (.at rfl) ?_
  refine Run.nil ?_
  refine WP.seq ?_
  refine WP.seq (WP.region (l := [0, 1, 2]) rfl ?_)
  refine Run.move rfl rfl rfl (.at rfl) ?_
  refine Run.len rfl rfl rfl (.at rfl) is_26 rfl ?_
  refine Run.move rfl rfl rfl (.at rfl) ?_
  refine Run.nil ?_
  refine WP.block ?_
  refine WP.weak 7 rfl (fun _ _ _ h => own_open (id' := 0) (Nat.le_refl _) h) ?_
  refine WP.loop (LP.keep (l_implRank0 hp (by omega) (fun b M hM => ?_) (cnt p) 0 b32 [] _ _ (by omega) rfl rfl rfl) (by repeat (first | exact trivial | refine ⟨rfl, ?_⟩)) (by repeat (first | exact HSub.nil | refine HSub.keep ?_ | refine HSub.dead ?_)))
  refine WP.seq ?_
  refine WP.seq (WP.region (l := [0, 1, 2]) rfl ?_)
  refine Run.move rfl rfl rfl (.at rfl) ?_
  refine Run.len rfl rfl rfl (.at rfl) is_26 rfl ?_
  refine Run.move rfl rfl rfl (.at rfl) ?_
  refine Run.nil ?_
  refine WP.block ?_
  refine WP.loop (LP.keep (l_implRank2 (b := b) (res := rankOf p q) hq (by omega) ?_ (cnt p) 0 0 M (by omega) (Nat.le_refl _) (incRows_ok (by have := hq.bd; omega) hM) (by rw [hM]; rfl)) (by repeat (first | exact trivial | refine ⟨rfl, ?_⟩)) (by repeat (first | exact HSub.nil | refine HSub.keep ?_ | refine HSub.dead ?_)))
  refine WP.seq (WP.region (l := [0, 1, 2]) rfl ?_)
  refine Run.move rfl rfl rfl (.at rfl) ?_
  refine Run.assign rfl rfl rfl (.at rfl) ?_
  refine Run.assign rfl rfl rfl (.at rfl) ?_
  refine Run.nil ?_
  refine WP.ret ?_
  exact ⟨_, rfl, rfl⟩
theorem c_specRankNo (p q : Int) (h : ¬ (IsP p ∧ IsP q)) : Pure Try.prog 4 [.int .i64 p, .int .i64 q] (.tup [.int .i64 0, .int .i64 2]) := by
  have h' : (!isP p || !isP q) = true := by
    cases h1 : isP p with
    | false => rfl
    | true => cases h2 : isP q with
      | false => rfl
      | true => exact absurd ⟨isP_iff.1 h1, isP_iff.1 h2⟩ h
  refine Pure.of_body 5 (n := 163) (fn := Try.f4) (c := Try.f4.body.get!) fn_4 rfl nm_4 rfl rfl fun C => ?_
  refine WP.seq (WP.region (l := [0, 1]) rfl ?_)
  refine Run.assign rfl rfl rfl (.at rfl) ?_
  refine Run.assign rfl rfl rfl (.at rfl) ?_
  refine Run.nil ?_
  refine WP.seq ?_
  refine WP.seq (WP.region (l := [0, 1, 2, 3, 4, 5, 6, 7]) rfl ?_)
  refine Run.move rfl rfl rfl (.at rfl) ?_
  refine Run.call rfl rfl rfl (.at rfl) (.cons (.at rfl) .nil) (c_l01Prime _) ?_
  refine Run.not rfl rfl rfl (.at rfl) ?_
  refine Run.move rfl rfl rfl (.at rfl) ?_
  refine' Run.guarded rfl rfl rfl rfl rfl rfl (fun ht => ?_) ?_
  rotate_left
  · skip
    refine Run.move rfl rfl rfl (.at rfl) ?_
    exact single_nil
  refine' Run.guarded rfl rfl rfl rfl rfl rfl (fun ht => ?_) ?_
  rotate_left
  · skip
    refine Run.call rfl rfl rfl (.at rfl) (.cons (.opt rfl ht) .nil) (c_l01Prime _) ?_
    exact single_nil
  refine' Run.guarded rfl rfl rfl rfl rfl rfl (fun ht => ?_) ?_
  rotate_left
  · skip
    refine Run.not rfl rfl rfl (.opt rfl ht) ?_
    exact single_nil
  refine Run.or rfl rfl rfl (.at rfl) (.at rfl) rfl ?_
  refine Run.nil ?_
  refine WP.cond_t (.at rfl) h' ?_
  refine WP.seq (WP.region (l := [0, 1]) rfl ?_)
  refine Run.assign rfl rfl rfl (.at rfl) ?_
  refine Run.assign rfl rfl rfl (.at rfl) ?_
  refine Run.nil ?_
  refine WP.ret ?_
  exact ⟨_, rfl, rfl⟩
theorem c_implRankNo (p q : Int) (h : ¬ (IsP p ∧ IsP q)) : Pure Try.prog 5 [.int .i64 p, .int .i64 q] (.tup [.int .i64 0, .int .i64 2]) := by
  have h' : (!isP p || !isP q) = true := by
    cases h1 : isP p with
    | false => rfl
    | true => cases h2 : isP q with
      | false => rfl
      | true => exact absurd ⟨isP_iff.1 h1, isP_iff.1 h2⟩ h
  refine Pure.of_body 5 (n := 164) (fn := Try.f5) (c := Try.f5.body.get!) fn_5 rfl nm_5 rfl rfl fun C => ?_
  refine WP.seq (WP.region (l := [0, 1]) rfl ?_)
  refine Run.assign rfl rfl rfl (.at rfl) ?_
  refine Run.assign rfl rfl rfl (.at rfl) ?_
  refine Run.nil ?_
  refine WP.seq ?_
  refine WP.seq (WP.region (l := [0, 1, 2, 3, 4, 5, 6, 7]) rfl ?_)
  refine Run.move rfl rfl rfl (.at rfl) ?_
  refine Run.call rfl rfl rfl (.at rfl) (.cons (.at rfl) .nil) (c_isPrime _) ?_
  refine Run.not rfl rfl rfl (.at rfl) ?_
  refine Run.move rfl rfl rfl (.at rfl) ?_
  refine' Run.guarded rfl rfl rfl rfl rfl rfl (fun ht => ?_) ?_
  rotate_left
  · skip
    refine Run.move rfl rfl rfl (.at rfl) ?_
    exact single_nil
  refine' Run.guarded rfl rfl rfl rfl rfl rfl (fun ht => ?_) ?_
  rotate_left
  · skip
    refine Run.call rfl rfl rfl (.at rfl) (.cons (.opt rfl ht) .nil) (c_isPrime _) ?_
    exact single_nil
  refine' Run.guarded rfl rfl rfl rfl rfl rfl (fun ht => ?_) ?_
  rotate_left
  · skip
    refine Run.not rfl rfl rfl (.opt rfl ht) ?_
    exact single_nil
  refine Run.or rfl rfl rfl (.at rfl) (.at rfl) rfl ?_
  refine Run.nil ?_
  refine WP.cond_t (.at rfl) h' ?_
  refine WP.seq (WP.region (l := [0, 1]) rfl ?_)
  refine Run.assign rfl rfl rfl (.at rfl) ?_
  refine Run.assign rfl rfl rfl (.at rfl) ?_
  refine Run.nil ?_
  refine WP.ret ?_
  exact ⟨_, rfl, rfl⟩
end
theorem c_rankLaw (p q : Int) : Pure Try.prog 3 [.int .i64 p, .int .i64 q] (.bool true) := by
  obtain ⟨a, b, h1, h2⟩ : ∃ a b : Int, Pure Try.prog 4 [.int .i64 p, .int .i64 q] (.tup [.int .i64 a, .int .i64 b]) ∧ Pure Try.prog 5 [.int .i64 p, .int .i64 q] (.tup [.int .i64 a, .int .i64 b]) := by
    by_cases h : IsP p ∧ IsP q
    · exact ⟨_, _, c_specRank p q h.1 h.2, c_implRank p q h.1 h.2⟩
    · exact ⟨_, _, c_specRankNo p q h, c_implRankNo p q h⟩
  refine Pure.of_body 0 (n := 29) (fn := Try.f3) (c := Try.f3.body.get!) fn_3 rfl nm_3 rfl rfl fun C => ?_
  refine WP.seq (WP.region (l := [0]) rfl ?_)
  refine Run.assign rfl rfl rfl (.at rfl) ?_
  refine Run.nil ?_
  refine WP.seq (WP.region (l := [0, 1, 2, 3, 4, 5, 6, 7]) rfl ?_)
  refine Run.move rfl rfl rfl (.at rfl) ?_
  refine Run.move rfl rfl rfl (.at rfl) ?_
  refine Run.call rfl rfl rfl (.at rfl) (.cons (.at rfl) (.cons (.at rfl) .nil)) (h1) ?_
  refine Run.move rfl rfl rfl (.at rfl) ?_
  refine Run.extract rfl rfl rfl (.at rfl) rfl ?_
  refine Run.extract rfl rfl rfl (.at rfl) rfl ?_
  refine Run.assign rfl rfl rfl (.at rfl) ?_
  refine Run.assign rfl rfl rfl (.at rfl) ?_
  refine Run.nil ?_
  refine WP.seq (WP.region (l := [0, 1, 2, 3, 4, 5, 6, 7]) rfl ?_)
  refine Run.move rfl rfl rfl (.at rfl) ?_
  refine Run.move rfl rfl rfl (.at rfl) ?_
  refine Run.call rfl rfl rfl (.at rfl) (.cons (.at rfl) (.cons (.at rfl) .nil)) (h2) ?_
  refine Run.move rfl rfl rfl (.at rfl) ?_
  refine Run.extract rfl rfl rfl (.at rfl) rfl ?_
  refine Run.extract rfl rfl rfl (.at rfl) rfl ?_
  refine Run.assign rfl rfl rfl (.at rfl) ?_
  refine Run.assign rfl rfl rfl (.at rfl) ?_
  refine Run.nil ?_
  refine WP.seq ?_
  refine WP.seq (WP.region (l := [0, 1, 2, 3, 4, 5, 6, 7]) rfl ?_)
  refine Run.move rfl rfl rfl (.at rfl) ?_
  refine Run.move rfl rfl rfl (.at rfl) ?_
  refine Run.int rfl rfl rfl (.at rfl) (.at rfl) rfl ?_
  refine Run.move rfl rfl rfl (.at rfl) ?_
  refine' Run.guarded rfl rfl rfl rfl rfl rfl (fun ht => ?_) ?_
  rotate_left
  · skip
    refine Run.move rfl rfl rfl (.at rfl) ?_
    exact single_nil
  refine' Run.guarded rfl rfl rfl rfl rfl rfl (fun ht => ?_) ?_
  rotate_left
  · skip
    refine Run.move rfl rfl rfl (.at rfl) ?_
    exact single_nil
  refine' Run.guarded rfl rfl rfl rfl rfl rfl (fun ht => ?_) ?_
  rotate_left
  · skip
    refine Run.int rfl rfl rfl (.opt rfl ht) (.opt rfl ht) rfl ?_
    exact single_nil
  refine Run.or rfl rfl rfl (.at rfl) (.at rfl) rfl ?_
  refine Run.nil ?_
  refine WP.cond_f (.at rfl) (by simp) ?_
  refine WP.skip ?_
  refine WP.seq (WP.region (l := [0]) rfl ?_)
  refine Run.assign rfl rfl rfl (.at rfl) ?_
  refine Run.nil ?_
  refine WP.ret ?_
  exact ⟨_, rfl, rfl⟩
end Go.Ab
