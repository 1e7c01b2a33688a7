/- The walk of the code's rank of the table of incidences: the table. -/
import Derived.Test.YtlaklcbmoobfnaaW8
namespace Go.Ab
open Go.Proofs

def incUp (p : Int) (i k : Nat) : List Int := (List.range (cnt p)).map fun x => if x < k then bit p (ptAt p x) (ptAt p i) else 0
theorem incUp_length (p : Int) (i k : Nat) : (incUp p i k).length = cnt p := by simp [incUp]
theorem incUp_zero (p : Int) (i : Nat) : List.replicate (cnt p * 1) (AV.int .i64 0) = ints (incUp p i 0) := by
  apply List.ext_getElem?
  intro x
  simp only [ints, incUp, List.map_map, List.getElem?_map, List.getElem?_replicate, Nat.mul_one]
  by_cases h : x < cnt p
  · simp [h]
  · simp [h]
theorem incUp_full (p : Int) (i : Nat) : incUp p i (cnt p) = incRow p i (cnt p) := by
  unfold incUp incRow
  apply List.map_congr_left
  intro x hx
  rw [if_pos (by simpa using hx)]
theorem incUp_on {p : Int} {i k : Nat} (hk : k < cnt p) (h : ((ptAt p k).dot (ptAt p i) % p == 0) = true) : splice (ints (incUp p i k)) (0 + k * 1) [.int .i64 1] = ints (incUp p i (k + 1)) := by
  rw [splice_one (by rw [ints_length, incUp_length]; exact hk)]
  apply List.ext_getElem?
  intro x
  simp only [ints, incUp, List.map_map, List.getElem?_map, List.getElem?_set, List.length_map, List.length_range]
  by_cases hx : k = x
  · subst hx
    simp only [hk, if_true, List.getElem?_range, Option.map_some, Function.comp]
    rw [if_pos (by omega)]
    unfold bit
    rw [if_pos h]
  · rw [if_neg hx]
    by_cases hl : x < cnt p
    · simp only [List.getElem?_range hl, Option.map_some, Function.comp]
      by_cases h' : x < k
      · rw [if_pos h', if_pos (by omega)]
      · rw [if_neg h', if_neg (by omega)]
    · simp [hl]
theorem incUp_off {p : Int} {i k : Nat} (h : ((ptAt p k).dot (ptAt p i) % p == 0) = false) : incUp p i (k + 1) = incUp p i k := by
  unfold incUp
  apply List.map_congr_left
  intro x _
  by_cases hx : x = k
  · subst hx
    rw [if_pos (by omega), if_neg (by omega)]
    unfold bit
    rw [if_neg (by rw [h]; decide)]
  · by_cases h' : x < k
    · rw [if_pos h', if_pos (by omega)]
    · rw [if_neg h', if_neg (by omega)]

abbrev RwF (b n : Nat) : AV := .own 5 b 1 0 n n false

section
variable {C : Cx Try.prog 164} {Q : Post} {p q : Int}

theorem l_implRank1 (hp : 0 ≤ p ∧ p ≤ 100) (hp0 : 0 < p) {i b rb lb : Nat} {c0 : List AV} {l5 : Ar} (hi : i < cnt p)
    (hQ : ∀ cs, cs = ints (incRow p i (cnt p)) → Q (.exit 2) ⟨[(0, .int .i64 p), (1, .int .i64 q), (6, Pts p), (7, Hd b i), (8, .int .i64 0), (11, .own 2 rb 1 0 (cnt p) (cnt p) false), (33, Pts p), (34, .int .i64 (cnt p)), (35, .int .i64 i)], [[(b, c0)], [], [(rb, cs)], [], [], l5]⟩) :
    ∀ (d k : Nat) (cs : List AV), k + d = cnt p → cs = ints (incUp p i k) →
      LP C (nav Try.f5.body.get! [1, 1, 1, 0, 1, 0, 0, 1, 1, 0, 0, 1, 1, 0, 1, 0, 0]) Q ⟨[(0, .int .i64 p), (1, .int .i64 q), (6, Pts p), (7, Hd b i), (8, .int .i64 0), (10, .adr 1 lb 0), (11, .own 2 rb 1 0 (cnt p) (cnt p) false), (33, Pts p), (34, .int .i64 (cnt p)), (35, .int .i64 i), (42, Pts p), (43, .int .i64 (cnt p)), (44, .int .i64 k)], [[(b, c0)], [(lb, (ptAt p i).cs)], [(rb, cs)], [], [], l5]⟩ := by
  have hc := cnt_le hp
  have hl : (pts p).length = cnt p := pts_length
  intro d
  induction d with
  | zero =>
    intro k cs hd hcs
    have hk : k = cnt p := by omega
    refine LP.round ?_
    refine WP.seq (WP.region (l := [0]) rfl ?_)
    refine Run.int rfl rfl rfl (.at rfl) (.at rfl) rfl ?_
    refine Run.nil ?_
    refine WP.seq ?_
    refine WP.cond_f (.at rfl) (by simp; omega) ?_
    subst hk
    rw [incUp_full] at hcs
    exact WP.keep (WP.exit (hQ cs hcs)) (by repeat (first | exact trivial | refine ⟨rfl, ?_⟩)) (by repeat (first | exact HSub.nil | refine HSub.keep ?_ | refine HSub.dead ?_))
  | succ d ih =>
    intro k cs hd hcs
    have hlen : cs.length = cnt p := by rw [hcs, ints_length, incUp_length]
    refine LP.round ?_
    refine WP.seq (WP.region (l := [0]) rfl ?_)
    refine Run.int rfl rfl rfl (.at rfl) (.at rfl) rfl ?_
    refine Run.nil ?_
    refine WP.seq ?_
    refine WP.cond_t (.at rfl) (by simp; omega) ?_
    refine WP.skip ?_
    refine WP.seq ?_
    refine WP.block ?_
    refine WP.seq (WP.region (l := [0, 1, 2, 3, 4, 5]) rfl ?_)
    refine Run.move rfl rfl rfl (.at rfl) ?_
    refine Run.idx_imm (j := k) rfl rfl rfl (.at rfl) (.at rfl) sl_26_3 rfl (show k < cnt p by omega) ?_
    refine Run.loads rfl rfl rfl (.at rfl) .imm ag_32_3 (cs3_get (by omega)) rfl ?_
    refine Run.alloc 3 rfl rfl rfl zr_32 (fun b13 => ?_)
    refine Run.assign rfl rfl rfl (.at rfl) ?_
    refine Run.store (j := 0) rfl rfl (.at rfl) rfl rfl (.at rfl) sz_32_3 rfl rfl (by decide) rfl ?_
    refine Run.nil ?_
    refine WP.seq (WP.region (l := [0, 1, 2, 3]) rfl ?_)
    refine Run.move rfl rfl rfl (.at rfl) ?_
    refine Run.loads rfl rfl rfl (.at rfl) (place_adr rfl) ag_32_3 rfl rfl ?_
    refine Run.loads rfl rfl rfl (.at rfl) (place_adr rfl) ag_32_3 rfl rfl ?_
    refine Run.call rfl rfl rfl (.at rfl) (.cons (.at rfl) (.cons (.at rfl) (.cons (.at rfl) .nil))) (c_isOn _ _ _ (ptAt_sm hp _) (ptAt_sm hp _) hp0 (by omega)) ?_
    refine Run.nil ?_
    refine WP.cond (.at rfl) (fun hc3 => ?_) (fun hc3 => ?_)
    · skip
      refine WP.region (l := [0, 1, 2, 3]) rfl ?_
      refine Run.move rfl rfl rfl (.at rfl) ?_
      refine Run.move rfl rfl rfl (.at rfl) ?_
      refine Run.idx rfl rfl rfl (.at rfl) (.at rfl) sl_29_1 (by first | rfl | exact (Int.toNat_of_nonneg (by omega)).symm) (by omega) ?_
      refine Run.store (j := 0) rfl rfl (.at rfl) rfl rfl (.at rfl) sz_2_1 rfl rfl (by omega) rfl ?_
      refine Run.nil ?_
      refine WP.region (l := [0, 1]) rfl ?_
      refine Run.add rfl rfl rfl (.at rfl) (.at rfl) (by omega) ?_
      refine Run.move rfl rfl rfl (.at rfl) ?_
      refine Run.nil ?_
      refine LP.keep (ih (k + 1) _ (by omega) ?_) (by repeat (first | exact trivial | refine ⟨rfl, ?_⟩)) (by repeat (first | exact HSub.nil | refine HSub.keep ?_ | refine HSub.dead ?_))
      rw [hcs]
      exact incUp_on (by omega) hc3
    · skip
      refine WP.skip ?_
      refine WP.region (l := [0, 1]) rfl ?_
      refine Run.add rfl rfl rfl (.at rfl) (.at rfl) (by omega) ?_
      refine Run.move rfl rfl rfl (.at rfl) ?_
      refine Run.nil ?_
      refine LP.keep (ih (k + 1) _ (by omega) ?_) (by repeat (first | exact trivial | refine ⟨rfl, ?_⟩)) (by repeat (first | exact HSub.nil | refine HSub.keep ?_ | refine HSub.dead ?_))
      rw [hcs, incUp_off hc3]

theorem l_implRank0 (hp : 0 ≤ p ∧ p ≤ 100) (hp0 : 0 < p)
    (hQ : ∀ b M, rows M = incRows p (cnt p) → Q (.exit 0) ⟨[(1, .int .i64 q), (6, Pts p), (7, Hd b (cnt p)), (8, .int .i64 0)], [[(b, hdr 5 (cnt p) false M)], [], [], [], [], fam M]⟩) :
    ∀ (d i b : Nat) (M : Mat) (c0 : List AV) (l5 : Ar), i + d = cnt p → rows M = incRows p i → c0 = hdr 5 (cnt p) false M → l5 = fam M →
      LP C (nav Try.f5.body.get! [1, 1, 1, 0, 1, 0, 0]) Q ⟨[(0, .int .i64 p), (1, .int .i64 q), (6, Pts p), (7, Hd b i), (8, .int .i64 0), (33, Pts p), (34, .int .i64 (cnt p)), (35, .int .i64 i)], [[(b, c0)], [], [], [], [], l5]⟩ := by
  have hc := cnt_le hp
  have hl : (pts p).length = cnt p := pts_length
  intro d
  induction d with
  | zero =>
    intro i b M c0 l5 hd hM h0 h5
    have hk : i = cnt p := by omega
    refine LP.round ?_
    refine WP.seq (WP.region (l := [0]) rfl ?_)
    refine Run.int rfl rfl rfl (.at rfl) (.at rfl) rfl ?_
    refine Run.nil ?_
    refine WP.seq ?_
    refine WP.cond_f (.at rfl) (by simp; omega) ?_
    subst hk h0 h5
    exact WP.keep (WP.exit (hQ b M hM)) (by repeat (first | exact trivial | refine ⟨rfl, ?_⟩)) (by repeat (first | exact HSub.nil | refine HSub.keep ?_ | refine HSub.dead ?_))
  | succ d ih =>
    intro i b M c0 l5 hd hM h0 h5
    have hML : M.length = i := by rw [← rows_length, hM, incRows_length]
    have hlen : i * 1 ≤ c0.length := by rw [h0, hdr_length]; omega
    have e1 : c0.take (i * 1) = c0 := List.take_of_length_le (by rw [h0, hdr_length]; omega)
    refine LP.round ?_
    refine WP.seq (WP.region (l := [0]) rfl ?_)
    refine Run.int rfl rfl rfl (.at rfl) (.at rfl) rfl ?_
    refine Run.nil ?_
    refine WP.seq ?_
    refine WP.cond_t (.at rfl) (by simp; omega) ?_
    refine WP.skip ?_
    refine WP.seq ?_
    refine WP.block ?_
    refine WP.seq (WP.region (l := [0, 1, 2, 3]) rfl ?_)
    refine Run.idx_imm (j := i) rfl rfl rfl (.at rfl) (.at rfl) sl_26_3 rfl (show i < cnt p by omega) ?_
    refine Run.loads rfl rfl rfl (.at rfl) .imm ag_32_3 (cs3_get (by omega)) rfl ?_
    refine Run.alloc 1 rfl rfl rfl zr_32 (fun b10 => ?_)
    refine Run.store (j := 0) rfl rfl (.at rfl) rfl rfl (.at rfl) sz_32_3 rfl rfl (by decide) rfl ?_
    refine Run.nil ?_
    refine WP.seq (WP.region (l := [0, 1, 2, 3]) rfl ?_)
    refine Run.move rfl rfl rfl (.at rfl) ?_
    refine Run.len rfl rfl rfl (.at rfl) is_26 rfl ?_
    refine Run.make 2 rfl rfl rfl (.at rfl) (.at rfl) (by first | rfl | exact (Int.toNat_of_nonneg (by omega)).symm) (by first | rfl | exact (Int.toNat_of_nonneg (by omega)).symm) el_29 (by omega) (by omega) (by omega) (zcells_one _ _) (fun b41 => ?_)
    refine Run.assign rfl rfl rfl (.at rfl) ?_
    refine Run.nil ?_
    refine WP.seq ?_
    refine WP.seq (WP.region (l := [0, 1, 2]) rfl ?_)
    refine Run.move rfl rfl rfl (.at rfl) ?_
    refine Run.len rfl rfl rfl (.at rfl) is_26 rfl ?_
    refine Run.move rfl rfl rfl (.at rfl) ?_
    refine Run.nil ?_
    refine WP.block ?_
    refine WP.loop (LP.keep (l_implRank1 (i := i) (b := b) (c0 := c0) (l5 := l5) (rb := b41) (lb := b10) hp hp0 (by omega) (fun cs hcs => ?_) (cnt p) 0 _ (by omega) (incUp_zero p i)) (by repeat (first | exact trivial | refine ⟨rfl, ?_⟩)) (by repeat (first | exact HSub.nil | refine HSub.keep ?_ | refine HSub.dead ?_)))
    refine WP.moved (Moved.absorb (i := 2) (f := 5) rfl rfl (by decide)) ?_
    refine WP.weak 11 rfl (fun _ _ _ h => own_name 5 h) ?_
    refine WP.region (l := [0, 1, 2, 3, 4]) rfl ?_
    refine Run.move rfl rfl rfl (.at rfl) ?_
    refine Run.move rfl rfl rfl (.at rfl) ?_
    refine Run.buildSlice 4 rfl rfl rfl el_28 (by decide) (.cons (.at rfl) rfl .nil) rfl rfl (fun b59 => ?_)
    refine Run.append rfl rfl rfl (.at rfl) rfl el_28 (.at rfl) (.own (At.one rfl) rfl rfl) rfl (by omega) hlen (by omega) (by omega) (fun b60 => ?_)
    refine Run.assign rfl rfl rfl (.at rfl) ?_
    refine Run.nil ?_
    refine WP.region (l := [0, 1]) rfl ?_
    refine Run.add rfl rfl rfl (.at rfl) (.at rfl) (by omega) ?_
    refine Run.move rfl rfl rfl (.at rfl) ?_
    refine Run.nil ?_
    refine LP.keep (ih (i + 1) b60 (M ++ [(b41, incRow p i (cnt p))]) _ _ (by omega) (by rw [rows_append, hM, incRows_next]) ?_ ?_) (by repeat (first | exact trivial | refine ⟨rfl, ?_⟩)) (by repeat (first | exact HSub.nil | refine HSub.keep ?_ | refine HSub.dead ?_))
    · rw [e1, h0, ← hdr_append]
      rfl
    · rw [h5, hcs, fam_append]
end
end Go.Ab
