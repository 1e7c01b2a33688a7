/- The walk of the plain law's rank: the clearing of a column; the whole. -/
import Derived.Test.YtlaklcbmoobfnaaW5
namespace Go.Ab
open Go.Proofs

section
variable {C : Cx Try.prog 163} {Q : Post} {p q : Int}

theorem l_specRank5 {n r c i b nr ni : Nat} {f : Int} {x15 : AV} {own row : List Int} {c0 : List AV} {l5 : Ar} (hn : n ≤ 20000) (hq3 : 3 ≤ q ∧ q ≤ 13) (hri : i ≠ r)
    (hor : own.length = n ∧ ∀ k, k < n → 0 ≤ own.getD k 0 ∧ own.getD k 0 < q) (hrow : row.length = n ∧ ∀ k, k < n → 0 ≤ row.getD k 0 ∧ row.getD k 0 < q) (hf : 0 ≤ f ∧ f < q)
    (hi5 : i < l5.length) (hr5 : l5[r]? = some (nr, ints own))
    (hQ : Q (.exit 10) ⟨[(1, .int .i64 q), (6, .imm (cs3 (pts p)) n), (7, Hd b n), (11, .int .i64 r), (12, .int .i64 c), (14, Rw nr n), (15, x15), (16, .int .i64 i)], [[(b, c0)], [], [], [], [], l5.set i (ni, ints (clr q f own c n row))]⟩) :
    ∀ (d k : Nat) (l : Ar), c ≤ k → k + d = n → l = l5.set i (ni, ints (clr q f own c k row)) →
      LP C (nav Try.f4.body.get! [1, 1, 1, 1, 1, 0, 1, 0, 0, 1, 0, 0, 1, 1, 1, 1, 1, 1, 1, 0, 1, 0, 0, 1, 0, 0, 1, 1, 1, 1, 0, 0]) Q ⟨[(1, .int .i64 q), (6, .imm (cs3 (pts p)) n), (7, Hd b n), (11, .int .i64 r), (12, .int .i64 c), (14, Rw nr n), (15, x15), (16, .int .i64 i), (17, Rw ni n), (18, .int .i64 f), (19, .int .i64 k)], [[(b, c0)], [], [], [], [], l]⟩ := by
  intro d
  induction d with
  | zero =>
    intro k l hck hd hl
    have hk : k = n := by omega
    refine LP.round ?_
    refine WP.seq ?_
    refine WP.seq (WP.region (l := [0, 1, 2, 3]) rfl ?_)
    refine Run.move rfl rfl rfl (.at rfl) ?_
    refine Run.move rfl rfl rfl (.at rfl) ?_
    refine Run.len rfl rfl rfl (.at rfl) is_29 rfl ?_
    refine Run.int rfl rfl rfl (.at rfl) (.at rfl) rfl ?_
    refine Run.nil ?_
    refine WP.cond_f (.at rfl) (by simp; omega) ?_
    subst hk hl
    exact WP.keep (WP.exit hQ) (by repeat (first | exact trivial | refine ⟨rfl, ?_⟩)) (by repeat (first | exact HSub.nil | refine HSub.keep ?_ | refine HSub.dead ?_))
  | succ d ih =>
    intro k l hck hd hl
    have hkn : k < n := by omega
    have hli : l[i]? = some (ni, ints (clr q f own c k row)) := by rw [hl, List.getElem?_set_self hi5]
    have hlr : l[r]? = some (nr, ints own) := by rw [hl, List.getElem?_set_ne hri, hr5]
    have hcl : (clr q f own c k row).length = n := by rw [clr_length, hrow.1]
    have hv := clr_getD q f own c k row (x := k) (by rw [hrow.1]; exact hkn)
    rw [if_neg (by omega)] at hv
    have b1 := hor.2 k hkn
    have b2 := hrow.2 k hkn
    have hm := Sm.mul (show Sm f by unfold Sm; omega) (show Sm (own.getD k 0) by unfold Sm; omega)
    have hc1 : (ints (clr q f own c k row))[0 + k * 1]? = some (.int .i64 (row.getD k 0)) := by rw [ints_at (by rw [hcl]; exact hkn), hv]
    have hc2 : (ints own)[0 + k * 1]? = some (.int .i64 (own.getD k 0)) := ints_at (by rw [hor.1]; exact hkn)
    refine LP.round ?_
    refine WP.seq ?_
    refine WP.seq (WP.region (l := [0, 1, 2, 3]) rfl ?_)
    refine Run.move rfl rfl rfl (.at rfl) ?_
    refine Run.move rfl rfl rfl (.at rfl) ?_
    refine Run.len rfl rfl rfl (.at rfl) is_29 rfl ?_
    refine Run.int rfl rfl rfl (.at rfl) (.at rfl) rfl ?_
    refine Run.nil ?_
    refine WP.cond_t (.at rfl) (by simp; omega) ?_
    refine WP.skip ?_
    refine WP.seq ?_
    refine WP.block ?_
    refine WP.draw mx_0 ?_
    refine Drawn.calmR ?_
    refine' DrawR.op 0 144 0 [(17, none)] rfl rfl (fun rest => ?_) ?_
    rotate_left
    · skip
      refine Run.move rfl rfl rfl (.at rfl) ?_
      exact single_nil
    refine' DrawR.op 1 145 1 [(19, none)] rfl rfl (fun rest => ?_) ?_
    rotate_left
    · skip
      refine Run.move rfl rfl rfl (.at rfl) ?_
      exact single_nil
    refine' DrawR.op 2 146 2 [(1, none)] rfl rfl (fun rest => ?_) ?_
    rotate_left
    · skip
      refine Run.move rfl rfl rfl (.at rfl) ?_
      exact single_nil
    refine' DrawR.op 3 147 3 [(17, none)] rfl rfl (fun rest => ?_) ?_
    rotate_left
    · skip
      refine Run.move rfl rfl rfl (.at rfl) ?_
      exact single_nil
    refine' DrawR.op 4 148 4 [(19, none)] rfl rfl (fun rest => ?_) ?_
    rotate_left
    · skip
      refine Run.move rfl rfl rfl (.at rfl) ?_
      exact single_nil
    refine' DrawR.op 5 149 5 [(147, some 1), (148, some 0)] rfl rfl (fun rest => ?_) ?_
    rotate_left
    · skip
      refine Run.idx (j := k) rfl rfl rfl (.at rfl) (.at rfl) sl_29_1 rfl hkn ?_
      exact single_nil
    refine' DrawR.op 6 150 6 [(149, some 0)] rfl rfl (fun rest => ?_) ?_
    rotate_left
    · skip
      refine Run.load rfl rfl rfl (.at rfl) (.own ⟨_, rfl, hli⟩) sc_2 hc1 ?_
      exact single_nil
    refine' DrawR.op 7 151 7 [(18, none)] rfl rfl (fun rest => ?_) ?_
    rotate_left
    · skip
      refine Run.move rfl rfl rfl (.at rfl) ?_
      exact single_nil
    refine' DrawR.op 8 152 8 [(14, none)] rfl rfl (fun rest => ?_) ?_
    rotate_left
    · skip
      refine Run.move rfl rfl rfl (.at rfl) ?_
      exact single_nil
    refine' DrawR.op 9 153 9 [(19, none)] rfl rfl (fun rest => ?_) ?_
    rotate_left
    · skip
      refine Run.move rfl rfl rfl (.at rfl) ?_
      exact single_nil
    refine' DrawR.op 10 154 10 [(152, some 1), (153, some 0)] rfl rfl (fun rest => ?_) ?_
    rotate_left
    · skip
      refine Run.idx (j := k) rfl rfl rfl (.at rfl) (.at rfl) sl_29_1 rfl hkn ?_
      exact single_nil
    refine' DrawR.op 11 155 11 [(154, some 0)] rfl rfl (fun rest => ?_) ?_
    rotate_left
    · skip
      refine Run.load rfl rfl rfl (.at rfl) (.own ⟨_, rfl, hlr⟩) sc_2 hc2 ?_
      exact single_nil
    refine' DrawR.op 12 156 12 [(151, some 4), (155, some 0)] rfl rfl (fun rest => ?_) ?_
    rotate_left
    · skip
      refine Run.mul rfl rfl rfl (.at rfl) (.at rfl) (by omega) ?_
      exact single_nil
    refine' DrawR.op 13 157 13 [(150, some 6), (156, some 0)] rfl rfl (fun rest => ?_) ?_
    rotate_left
    · skip
      refine Run.sub rfl rfl rfl (.at rfl) (.at rfl) (by omega) ?_
      exact single_nil
    refine' DrawR.op 14 158 14 [(146, some 11), (157, some 0)] rfl rfl (fun rest => ?_) ?_
    rotate_left
    · skip
      refine Run.call rfl rfl rfl (.at rfl) (.cons (.at rfl) (.cons (.at rfl) .nil)) (c_l01Mod _ _ (by omega) (by omega)) ?_
      exact single_nil
    refine' DrawR.op 15 159 15 [(144, some 14), (145, some 13)] rfl rfl (fun rest => ?_) ?_
    rotate_left
    · skip
      refine Run.idx (j := k) rfl rfl rfl (.at rfl) (.at rfl) sl_29_1 rfl hkn ?_
      exact single_nil
    refine DrawR.tail [16] rfl (by kernel_rfl) ?_
    refine Run.store rfl rfl (.at rfl) rfl hli (.at rfl) sz_2_1 rfl rfl (by rw [ints_length, hcl]; omega) (clr_next hck (by rw [hrow.1]; exact hkn)) ?_
    refine Run.nil ?_
    refine WP.region (l := [0, 1, 2]) rfl ?_
    refine Run.move rfl rfl rfl (.at rfl) ?_
    refine Run.add rfl rfl rfl (.at rfl) (.at rfl) (by omega) ?_
    refine Run.assign rfl rfl rfl (.at rfl) ?_
    refine Run.nil ?_
    refine LP.keep (ih (k + 1) _ (by omega) (by omega) ?_) (by repeat (first | exact trivial | refine ⟨rfl, ?_⟩)) (by repeat (first | exact HSub.nil | refine HSub.keep ?_ | refine HSub.dead ?_))
    rw [hl, List.set_set]
end
end Go.Ab
