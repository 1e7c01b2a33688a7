/- The walk of the plain law's rank: all columns; the whole. -/
import Derived.Test.YtlaklcbmoobfnaaW7
namespace Go.Ab
open Go.Proofs

theorem first_spec {c n r : Nat} {q : Int} {M : Mat} (hM : RowsOk q n M) (hr : r ≤ n) :
    r ≤ first c (rows M) r ∧ first c (rows M) r ≤ n ∧ (first c (rows M) r < n → (rowOf M (first c (rows M) r)).getD c 0 ≠ 0) := by
  have h := firstGo_spec c (rows M) ((rows M).length - r) r (by rw [rows_length, hM.len]; omega)
  rw [rows_length, hM.len, rows_getD] at h
  unfold first
  rw [rows_length, hM.len]
  exact h
theorem hdr_in {f n i : Nat} {o : Bool} {M : Mat} (hi : i < M.length) : 0 + i * 1 + 1 ≤ (hdr f n o M).length := by
  rw [hdr_length]
  omega
theorem hdr_room {f n i j : Nat} {o : Bool} {M : Mat} {x : AV} (hi : i < M.length) (hj : j < M.length) : 0 + j * 1 + 1 ≤ (splice (hdr f n o M) (0 + i * 1) [x]).length := by
  have e := splice_length (cs := hdr f n o M) (off := 0 + i * 1) (xs := [x]) (by rw [hdr_length]; simp; omega)
  rw [e, hdr_length]
  omega
theorem swap_row {M : Mat} {r f : Nat} (hr : r < M.length) (hf : f < M.length) : rowOf (swap M r f) r = rowOf M f ∧ nmOf (swap M r f) r = nmOf M f := by
  unfold rowOf nmOf
  rw [at_swap hr hf]
  by_cases h : r = f
  · subst h; simp
  · rw [if_neg h, if_pos rfl]; exact ⟨rfl, rfl⟩

section
variable {C : Cx Try.prog 163} {Q : Post} {p q : Int}

theorem l_specRank2 {n b res : Nat} (hq : IsP q) (hn : n ≤ 20000) (hQ : Q (.exit 4) ⟨[(11, .int .i64 res)], [[], [], [], [], [], []]⟩) :
    ∀ (d c r : Nat) (M : Mat), c + d = n → r ≤ c → RowsOk q n M → (colsR q d c (r, rows M)).1 = res →
      LP C (nav Try.f4.body.get! [1, 1, 1, 1, 1, 0, 1, 0, 0]) Q ⟨[(1, .int .i64 q), (6, .imm (cs3 (pts p)) n), (7, Hd b n), (11, .int .i64 r), (12, .int .i64 c)], [[(b, hdr 5 n true M)], [], [], [], [], fam M]⟩ := by
  have hq3 := hq.bd
  intro d
  induction d with
  | zero =>
    intro c r M hd hr hM hres
    have hk : c = n := by omega
    simp only [colsR] at hres
    refine LP.round ?_
    refine WP.seq ?_
    refine WP.seq (WP.region (l := [0, 1, 2, 3]) rfl ?_)
    refine Run.move rfl rfl rfl (.at rfl) ?_
    refine Run.move rfl rfl rfl (.at rfl) ?_
    refine Run.len rfl rfl rfl (.at rfl) is_26 rfl ?_
    refine Run.int rfl rfl rfl (.at rfl) (.at rfl) rfl ?_
    refine Run.nil ?_
    refine WP.cond_f (.at rfl) (by simp; omega) ?_
    subst hres
    exact WP.keep (WP.exit hQ) (by repeat (first | exact trivial | refine ⟨rfl, ?_⟩)) (by repeat (first | exact HSub.nil | refine HSub.keep ?_ | refine HSub.dead ?_))
  | succ d ih =>
    intro c r M hd hr hM hres
    have hML := hM.len
    have hcn : c < n := by omega
    have hrn : r < n := by omega
    simp only [colsR] at hres
    have hst := rows_stepM q c (r, M)
    simp only at hst
    rw [← hst] at hres
    have hfs := first_spec (c := c) hM (Nat.le_of_lt hrn)
    unfold stepM at hres
    simp only [hML] at hres
    generalize hff : first c (rows M) r = f at hfs hres
    obtain ⟨hf1, hf2, hf3⟩ := hfs
    have hgo : firstGo c (rows M) (n - r) r = f := by rw [← hff]; unfold first; rw [rows_length, hML]
    refine LP.round ?_
    refine WP.seq ?_
    refine WP.seq (WP.region (l := [0, 1, 2, 3]) rfl ?_)
    refine Run.move rfl rfl rfl (.at rfl) ?_
    refine Run.move rfl rfl rfl (.at rfl) ?_
    refine Run.len rfl rfl rfl (.at rfl) is_26 rfl ?_
    refine Run.int rfl rfl rfl (.at rfl) (.at rfl) rfl ?_
    refine Run.nil ?_
    refine WP.cond_t (.at rfl) (by simp; omega) ?_
    refine WP.skip ?_
    refine WP.seq ?_
    refine WP.block ?_
    refine WP.seq (WP.region (l := [0, 1]) rfl ?_)
    refine Run.move rfl rfl rfl (.at rfl) ?_
    refine Run.assign rfl rfl rfl (.at rfl) ?_
    refine Run.nil ?_
    refine WP.seq ?_
    refine WP.block ?_
    refine WP.loop (LP.keep (l_specRank3 hn hM hcn ?_ (n - r) r (by omega) hgo) (by repeat (first | exact trivial | refine ⟨rfl, ?_⟩)) (by repeat (first | exact HSub.nil | refine HSub.keep ?_ | refine HSub.dead ?_)))
    refine WP.seq ?_
    refine WP.seq (WP.region (l := [0, 1, 2, 3]) rfl ?_)
    refine Run.move rfl rfl rfl (.at rfl) ?_
    refine Run.move rfl rfl rfl (.at rfl) ?_
    refine Run.len rfl rfl rfl (.at rfl) is_28 rfl ?_
    refine Run.int rfl rfl rfl (.at rfl) (.at rfl) rfl ?_
    refine Run.nil ?_
    refine WP.cond (.at rfl) (fun hc6 => ?_) (fun hc6 => ?_)
    · have hfn : f = n := by simp at hc6; omega
      refine WP.exit ?_
      refine WP.region (l := [0, 1, 2]) rfl ?_
      refine Run.move rfl rfl rfl (.at rfl) ?_
      refine Run.add rfl rfl rfl (.at rfl) (.at rfl) (by omega) ?_
      refine Run.assign rfl rfl rfl (.at rfl) ?_
      refine Run.nil ?_
      rw [if_pos hfn] at hres
      exact LP.keep (ih (c + 1) r M (by omega) (by omega) hM hres) (by repeat (first | exact trivial | refine ⟨rfl, ?_⟩)) (by repeat (first | exact HSub.nil | refine HSub.keep ?_ | refine HSub.dead ?_))
    · have hfn : f ≠ n := by simp at hc6; omega
      rw [if_neg hfn] at hres
      have hfl : f < n := by omega
      refine WP.skip ?_
      refine WP.seq (WP.region (l := [0, 1, 2, 3, 4]) rfl ?_)
      refine Run.move rfl rfl rfl (.at rfl) ?_
      refine Run.move rfl rfl rfl (.at rfl) ?_
      refine Run.idx (j := f) rfl rfl rfl (.at rfl) (.at rfl) sl_28_1 rfl hfl ?_
      refine Run.load rfl rfl rfl (.at rfl) (place_adr rfl) sc_29 (hdr_at (by omega)) ?_
      refine Run.assign rfl rfl rfl (.at rfl) ?_
      refine Run.nil ?_
      refine WP.seq (WP.region (l := [0, 1, 2, 3, 4, 5, 6, 7]) rfl ?_)
      refine Run.move rfl rfl rfl (.at rfl) ?_
      refine Run.move rfl rfl rfl (.at rfl) ?_
      refine Run.move rfl rfl rfl (.at rfl) ?_
      refine Run.move rfl rfl rfl (.at rfl) ?_
      refine Run.idx (j := r) rfl rfl rfl (.at rfl) (.at rfl) sl_28_1 rfl hrn ?_
      refine Run.load rfl rfl rfl (.at rfl) (place_adr rfl) sc_29 (hdr_at (by omega)) ?_
      refine Run.idx (j := f) rfl rfl rfl (.at rfl) (.at rfl) sl_28_1 rfl hfl ?_
      refine Run.store (j := 0) rfl rfl (.at rfl) rfl rfl (.at rfl) sz_29_1 rfl rfl (hdr_in (f := 5) (n := n) (o := true) (M := M) (i := f) (by omega)) rfl ?_
      refine Run.nil ?_
      refine WP.seq (WP.region (l := [0, 1, 2, 3, 4]) rfl ?_)
      refine Run.move rfl rfl rfl (.at rfl) ?_
      refine Run.move rfl rfl rfl (.at rfl) ?_
      refine Run.move rfl rfl rfl (.at rfl) ?_
      refine Run.idx (j := r) rfl rfl rfl (.at rfl) (.at rfl) sl_28_1 rfl hrn ?_
      refine Run.store (j := 0) rfl rfl (.at rfl) rfl rfl (.at rfl) sz_29_1 rfl rfl (hdr_room (f := 5) (n := n) (o := true) (M := M) (i := f) (j := r) (x := .own 5 (nmOf M r) 1 0 n n true) (by omega) (by omega)) rfl ?_
      refine Run.nil ?_
      refine WP.hp (H' := [[(b, hdr 5 n true (swap M r f))], [], [], [], [], fam M]) (by
        show [[(b, splice (splice (hdr 5 n true M) (0 + f * 1) [AV.own 5 (nmOf M r) 1 0 n n true]) (0 + r * 1) [AV.own 5 (nmOf M f) 1 0 n n true])], [], [], [], [], fam M] = _
        rw [hdr_swap (by omega) (by omega), swap_comm]) ?_
      refine WP.moved (Moved.swap (f := 5) (i := r) (j := f) (l := fam M) rfl (by rw [fam_length]; omega) (by rw [fam_length]; omega)) ?_
      refine WP.hp (H' := [[(b, hdr 5 n true (swap M r f))], [], [], [], [], fam (swap M r f)]) (by
        show [[(b, hdr 5 n true (swap M r f))], [], [], [], [], Ab.swap (fam M) r f] = _
        rw [fam_swap]) ?_
      have hM' : RowsOk q n (swap M r f) := hM.swap hrn hfl
      obtain ⟨hrow, hnm⟩ := swap_row (M := M) (r := r) (f := f) (by omega) (by omega)
      rw [← hrow] at hres hf3
      refine WP.keep (fr' := [(1, .int .i64 q), (6, .imm (cs3 (pts p)) n), (7, Hd b n), (11, .int .i64 r), (12, .int .i64 c), (14, Rw (nmOf (swap M r f) r) n)]) (H' := [[(b, hdr 5 n true (swap M r f))], [], [], [], [], fam (swap M r f)]) ?_ (by rw [hnm]; repeat (first | exact trivial | refine ⟨rfl, ?_⟩)) (by repeat (first | exact HSub.nil | refine HSub.keep ?_ | refine HSub.dead ?_))
      generalize swap M r f = M' at hM' hrow hnm hres hf3
      have hML' := hM'.len
      have hb := (hM'.row r hrn).2 c hcn
      have h0 := hf3 hfl
      have hne : (rowOf M' r).getD c 0 % q ≠ 0 := by rw [Int.emod_eq_of_lt hb.1 hb.2]; exact h0
      obtain ⟨hv1, hv2, hv3⟩ := inv_spec hq hne
      refine WP.seq (WP.region (l := [0, 1, 2, 3, 4, 5, 6]) rfl ?_)
      refine Run.move rfl rfl rfl (.at rfl) ?_
      refine Run.move rfl rfl rfl (.at rfl) ?_
      refine Run.move rfl rfl rfl (.at rfl) ?_
      refine Run.idx (j := c) rfl rfl rfl (.at rfl) (.at rfl) sl_29_1 rfl hcn ?_
      refine Run.load rfl rfl rfl (.at rfl) (.own ⟨_, rfl, fam_at (by omega)⟩) sc_2 (ints_at (by rw [(hM'.row r hrn).1]; exact hcn)) ?_
      refine Run.call rfl rfl rfl (.at rfl) (.cons (.at rfl) (.cons (.at rfl) .nil)) (c_l01Inverse _ _ hq hne) ?_
      refine Run.assign rfl rfl rfl (.at rfl) ?_
      refine Run.nil ?_
      refine WP.seq ?_
      refine WP.seq (WP.region (l := [0, 1, 2]) rfl ?_)
      refine Run.move rfl rfl rfl (.at rfl) ?_
      refine Run.add rfl rfl rfl (.at rfl) (.at rfl) (by omega) ?_
      refine Run.assign rfl rfl rfl (.at rfl) ?_
      refine Run.nil ?_
      refine WP.block ?_
      refine WP.loop (LP.keep (l_specRank4 (r := r) (c := c) hn hq3 hM' hrn hcn ⟨hv1, hv2⟩ ?_ (n - (r + 1)) (r + 1) _ (by omega) (by omega) ?_) (by repeat (first | exact trivial | refine ⟨rfl, ?_⟩)) (by repeat (first | exact HSub.nil | refine HSub.keep ?_ | refine HSub.dead ?_)))
      rotate_left
      · rw [elimTo_start]
      refine WP.region (l := [0, 1, 2]) rfl ?_
      refine Run.move rfl rfl rfl (.at rfl) ?_
      refine Run.add rfl rfl rfl (.at rfl) (.at rfl) (by omega) ?_
      refine Run.assign rfl rfl rfl (.at rfl) ?_
      refine Run.nil ?_
      refine WP.region (l := [0, 1, 2]) rfl ?_
      refine Run.move rfl rfl rfl (.at rfl) ?_
      refine Run.add rfl rfl rfl (.at rfl) (.at rfl) (by omega) ?_
      refine Run.assign rfl rfl rfl (.at rfl) ?_
      refine Run.nil ?_
      have hh := hdr_names (f := 5) (n := n) (o := true) (elimTo_names q c (inv q ((rowOf M' r).getD c 0)) (rowOf M' r) r n M')
      have h := ih (c + 1) (r + 1) _ (by omega) (by omega) (hM'.elim (by omega)) hres
      rw [hh] at h
      exact LP.keep h (by repeat (first | exact trivial | refine ⟨rfl, ?_⟩)) (by repeat (first | exact HSub.nil | refine HSub.keep ?_ | refine HSub.dead ?_))
theorem c_specRank (p q : Int) (hpp : IsP p) (hq : IsP q) : Pure Try.prog 4 [.int .i64 p, .int .i64 q] (.tup [.int .i64 (rankOf p q), .int .i64 0]) := by
  have hb := hpp.bd
  have hp : 0 ≤ p ∧ p ≤ 100 := by omega
  have hn := cnt_le hp
  refine Pure.of_body 6 (n := 163) (fn := Try.f4) (c := Try.f4.body.get!) fn_4 rfl nm_4 rfl rfl fun C => ?_
  refine WP.seq (WP.region (l := [0, 1]) rfl ?_)
  refine Run.assign rfl rfl rfl (.at rfl) ?_
  refine Run.assign rfl rfl rfl (.at rfl) ?_
  refine Run.nil ?_
  refine WP.seq ?_
  refine WP.seq (WP.region (l := [0, 1, 2, 3, 4, 5, 6, 7]) rfl ?_)
  refine Run.move rfl rfl rfl (.at rfl) ?_
  refine Run.call rfl rfl rfl (.at rfl) (.cons (.at rfl) .nil) (c_l01Prime _) ?_
  refine Run.not rfl rfl rfl (.at rfl) ?_
  refine Run.move rfl rfl rfl (.at rfl) ?_
  refine' Run.guarded rfl rfl rfl rfl rfl rfl (fun ht => ?_) ?_
  rotate_left
  · skip
    refine Run.move rfl rfl rfl (.at rfl) ?_
    exact single_nil
  refine' Run.guarded rfl rfl rfl rfl rfl rfl (fun ht => ?_) ?_
  rotate_left
  · skip
    refine Run.call rfl rfl rfl (.at rfl) (.cons (.opt rfl ht) .nil) (c_l01Prime _) ?_
    exact single_nil
  refine' Run.guarded rfl rfl rfl rfl rfl rfl (fun ht => ?_) ?_
  rotate_left
  · skip
    refine Run.not rfl rfl rfl (.opt rfl ht) ?_
    exact single_nil
  refine Run.or rfl rfl rfl (.at rfl) (.at rfl) rfl ?_
  refine Run.nil ?_
  refine WP.cond_f (.at rfl) (by simp [isP_iff.2 hpp, isP_iff.2 hq]) ?_
  refine WP.skip ?_
  refine WP.seq (WP.region (l := [0, 1, 2, 3, 4]) rfl ?_)
  refine Run.move rfl rfl rfl (.at rfl) ?_
  refine Run.call rfl rfl rfl (.at rfl) (.cons (.at rfl) .nil) (c_l01Points _ hp) ?_
  refine Run.buildSlice 0 rfl rfl rfl el_28 (by decide) .nil rfl rfl (fun b30 => ?_)
  refine Run.assign rfl rfl rfl (.at rfl) ?_
  refine Run.assign rfl rfl rfl (.at rfl) ?_
  refine Run.nil ?_
  refine WP.seq ?_
  refine WP.seq (WP.region (l := [0]) rfl ?_)
  refine Run.assign rfl rfl rfl (.at rfl) ?_
  refine Run.nil ?_
  refine WP.block ?_
  refine WP.weak 7 rfl (fun _ _ _ h => own_open (id' := 0) (Nat.le_refl _) h) ?_
  refine WP.loop (LP.keep (l_specRank0 hp (by omega) (fun b M hM => ?_) (cnt p) 0 b30 [] _ _ (by omega) rfl rfl rfl) (by repeat (first | exact trivial | refine ⟨rfl, ?_⟩)) (by repeat (first | exact HSub.nil | refine HSub.keep ?_ | refine HSub.dead ?_)))
  refine WP.seq (WP.region (l := [0]) rfl ?_)
  refine Run.assign rfl rfl rfl (.at rfl) ?_
  refine Run.nil ?_
  refine WP.seq ?_
  refine WP.seq (WP.region (l := [0]) rfl ?_)
  refine Run.assign rfl rfl rfl (.at rfl) ?_
  refine Run.nil ?_
  refine WP.block ?_
  refine WP.loop (LP.keep (l_specRank2 (b := b) (res := rankOf p q) hq (by omega) ?_ (cnt p) 0 0 M (by omega) (Nat.le_refl _) (incRows_ok (by have := hq.bd; omega) hM) (by rw [hM]; rfl)) (by repeat (first | exact trivial | refine ⟨rfl, ?_⟩)) (by repeat (first | exact HSub.nil | refine HSub.keep ?_ | refine HSub.dead ?_)))
  refine WP.seq (WP.region (l := [0, 1, 2]) rfl ?_)
  refine Run.move rfl rfl rfl (.at rfl) ?_
  refine Run.assign rfl rfl rfl (.at rfl) ?_
  refine Run.assign rfl rfl rfl (.at rfl) ?_
  refine Run.nil ?_
  refine WP.ret ?_
  exact ⟨_, rfl, rfl⟩
end
end Go.Ab
