/- The walk of the plain law's order of a group. -/
import Derived.Test.YtlipjbfmmheicaaG1
import Derived.Test.YtlipjbfmmheicaaL5
namespace Go.Ab
open Go.Proofs
section
variable {C : Cx Try.prog 70} {Q : Post} {p : Int} {ms : List M3} {n : Nat}
theorem known_next {L : List M3} {x : M3} {j : Nat} (hj : j < L.length) (h : decide (x ∈ L.take j) = false) : decide ((L.getD j M3.O).l = x.l) = decide (x ∈ L.take (j + 1)) := by
  rw [take_getD (z := M3.O) hj]
  have e : ((L.getD j M3.O).l = x.l) = (L.getD j M3.O = x) := propext M3.l_inj
  simp only [decide_eq_false_iff_not] at h
  rw [Bool.eq_iff_iff, decide_eq_true_eq, decide_eq_true_eq, e, List.mem_append, List.mem_singleton]
  exact ⟨fun g => Or.inr g.symm, fun g => g.elim (fun g => absurd g h) Eq.symm⟩
theorem l_specGrp2 {x : M3} {i k bL bx : Nat} {L : List M3} (hL : L.length ≤ 200)
    (hQ : Q (.exit 4) ⟨[(0, .int .i64 p), (1, .imm (cs9 ms) n), (7, .own 0 bL 9 0 L.length L.length true), (8, .int .i64 i), (9, .int .i64 k), (10, .adr 1 bx 0), (11, .bool (decide (x ∈ L)))], [[(bL, cs9 L)], [(bx, x.cs)], []]⟩) :
    ∀ (d j : Nat) (known : Bool), j + d = L.length → known = decide (x ∈ L.take j) →
      LP C (nav Try.f7.body.get! [1, 1, 1, 0, 1, 0, 0, 1, 0, 0, 1, 0, 0, 1, 0, 0, 1, 0, 1, 0, 0]) Q ⟨[(0, .int .i64 p), (1, .imm (cs9 ms) n), (7, .own 0 bL 9 0 L.length L.length true), (8, .int .i64 i), (9, .int .i64 k), (10, .adr 1 bx 0), (11, .bool known), (12, .int .i64 j)], [[(bL, cs9 L)], [(bx, x.cs)], []]⟩ := by
  intro d
  induction d with
  | zero =>
    intro j known hd hk
    rw [List.take_of_length_le (by omega)] at hk
    subst hk
    refine LP.round ?_
    refine WP.seq ?_
    refine WP.seq (WP.region (l := [0, 1, 2, 3, 4, 5, 6, 7]) rfl ?_)
    refine Run.move rfl rfl rfl (.at rfl) ?_
    refine Run.move rfl rfl rfl (.at rfl) ?_
    refine Run.len rfl rfl rfl (.at rfl) is_26 rfl ?_
    refine Run.int rfl rfl rfl (.at rfl) (.at rfl) rfl ?_
    refine Run.move rfl rfl rfl (.at rfl) ?_
    refine' Run.guarded rfl rfl rfl rfl rfl rfl (fun ht => ?_) ?_
    rotate_left
    · skip
      refine Run.move rfl rfl rfl (.at rfl) ?_
      exact single_nil
    refine' Run.guarded rfl rfl rfl rfl rfl rfl (fun ht => ?_) ?_
    rotate_left
    · skip
      refine Run.not rfl rfl rfl (.opt rfl ht) ?_
      exact single_nil
    refine Run.and rfl rfl rfl (.at rfl) (.at rfl) rfl ?_
    refine Run.nil ?_
    refine WP.cond_f (.at rfl) (by simp; omega) ?_
    exact WP.keep (WP.exit hQ) (by repeat (first | exact trivial | refine ⟨rfl, ?_⟩)) (by repeat (first | exact HSub.nil | refine HSub.keep ?_ | refine HSub.dead ?_))
  | succ d ih =>
    intro j known hd hk
    have hj : j < L.length := by omega
    cases hkn : known with
    | true =>
      have hin : decide (x ∈ L) = true := by
        rw [hkn] at hk
        have := hk.symm
        simp only [decide_eq_true_eq] at this ⊢
        exact List.mem_of_mem_take this
      rw [hin] at hQ
      refine LP.round ?_
      refine WP.seq ?_
      refine WP.seq (WP.region (l := [0, 1, 2, 3, 4, 5, 6, 7]) rfl ?_)
      refine Run.move rfl rfl rfl (.at rfl) ?_
      refine Run.move rfl rfl rfl (.at rfl) ?_
      refine Run.len rfl rfl rfl (.at rfl) is_26 rfl ?_
      refine Run.int rfl rfl rfl (.at rfl) (.at rfl) rfl ?_
      refine Run.move rfl rfl rfl (.at rfl) ?_
      refine' Run.guarded rfl rfl rfl rfl rfl rfl (fun ht => ?_) ?_
      rotate_left
      · skip
        refine Run.move rfl rfl rfl (.at rfl) ?_
        exact single_nil
      refine' Run.guarded rfl rfl rfl rfl rfl rfl (fun ht => ?_) ?_
      rotate_left
      · skip
        refine Run.not rfl rfl rfl (.opt rfl ht) ?_
        exact single_nil
      refine Run.and rfl rfl rfl (.at rfl) (.at rfl) rfl ?_
      refine Run.nil ?_
      refine WP.cond_f (.at rfl) (by simp) ?_
      exact WP.keep (WP.exit hQ) (by repeat (first | exact trivial | refine ⟨rfl, ?_⟩)) (by repeat (first | exact HSub.nil | refine HSub.keep ?_ | refine HSub.dead ?_))
    | false =>
      have hnext := known_next (x := x) hj (by rw [← hk, hkn])
      refine LP.round ?_
      refine WP.seq ?_
      refine WP.seq (WP.region (l := [0, 1, 2, 3, 4, 5, 6, 7]) rfl ?_)
      refine Run.move rfl rfl rfl (.at rfl) ?_
      refine Run.move rfl rfl rfl (.at rfl) ?_
      refine Run.len rfl rfl rfl (.at rfl) is_26 rfl ?_
      refine Run.int rfl rfl rfl (.at rfl) (.at rfl) rfl ?_
      refine Run.move rfl rfl rfl (.at rfl) ?_
      refine' Run.guarded rfl rfl rfl rfl rfl rfl (fun ht => ?_) ?_
      rotate_left
      · skip
        refine Run.move rfl rfl rfl (.at rfl) ?_
        exact single_nil
      refine' Run.guarded rfl rfl rfl rfl rfl rfl (fun ht => ?_) ?_
      rotate_left
      · skip
        refine Run.not rfl rfl rfl (.opt rfl ht) ?_
        exact single_nil
      refine Run.and rfl rfl rfl (.at rfl) (.at rfl) rfl ?_
      refine Run.nil ?_
      refine WP.cond_t (.at rfl) (by simp; omega) ?_
      refine WP.skip ?_
      refine WP.seq ?_
      refine WP.block ?_
      refine WP.draw mx_0 ?_
      refine Drawn.calmR ?_
      refine' DrawR.op 0 53 0 [(7, none)] rfl rfl (fun rest => ?_) ?_
      rotate_left
      · skip
        refine Run.move rfl rfl rfl (.at rfl) ?_
        exact single_nil
      refine' DrawR.op 1 54 1 [(12, none)] rfl rfl (fun rest => ?_) ?_
      rotate_left
      · skip
        refine Run.move rfl rfl rfl (.at rfl) ?_
        exact single_nil
      refine' DrawR.op 2 55 2 [(53, some 1), (54, some 0)] rfl rfl (fun rest => ?_) ?_
      rotate_left
      · skip
        refine Run.idx (j := j) rfl rfl rfl (.at rfl) (.at rfl) sl_26_9 rfl hj ?_
        exact single_nil
      refine' DrawR.op 3 56 3 [(55, some 0)] rfl rfl (fun rest => ?_) ?_
      rotate_left
      · skip
        refine Run.loads rfl rfl rfl (.at rfl) (place_adr rfl) ag_44_9 (show _ = (L.getD j M3.O).cs by rw [Nat.zero_add, cs9_get hj]) rfl ?_
        exact single_nil
      refine' DrawR.op 4 57 4 [(10, none)] rfl rfl (fun rest => ?_) ?_
      rotate_left
      · skip
        refine Run.loads rfl rfl rfl (.at rfl) (place_adr rfl) ag_44_9 rfl rfl ?_
        exact single_nil
      refine' DrawR.op 5 58 5 [(56, some 1), (57, some 0)] rfl rfl (fun rest => ?_) ?_
      rotate_left
      · skip
        refine Run.eqlA (.arr 3 3 (.arr 3 1 (.int .i64))) (L.getD j M3.O).l x.l rfl rfl rfl (.at rfl) (.at rfl) eq_44 rfl rfl ?_
        exact single_nil
      refine' DrawR.op 6 11 6 [(58, some 0)] rfl rfl (fun rest => ?_) ?_
      rotate_left
      · skip
        refine Run.assign rfl rfl rfl (.at rfl) ?_
        exact single_nil
      refine DrawR.tail [] rfl (by kernel_rfl) ?_
      refine Run.nil ?_
      refine WP.region (l := [0, 1, 2]) rfl ?_
      refine Run.move rfl rfl rfl (.at rfl) ?_
      refine Run.add rfl rfl rfl (.at rfl) (.at rfl) (by omega) ?_
      refine Run.assign rfl rfl rfl (.at rfl) ?_
      refine Run.nil ?_
      exact LP.keep (ih (j + 1) _ (by omega) hnext) (by repeat (first | exact trivial | refine ⟨rfl, ?_⟩)) (by repeat (first | exact HSub.nil | refine HSub.keep ?_ | refine HSub.dead ?_))
theorem l_specGrp1 (hp : IsP p) (hn : n ≤ 8) (hl : ms.length = n) (hm : irL p ms) {i : Nat} {L : List M3} (hL : irL p L) (hi : i < L.length)
    (hQ : ∀ bL L', L' = roundM p (L.getD i M3.O) L ms → L'.length ≤ 200 → Q (.exit 2) ⟨[(0, .int .i64 p), (1, .imm (cs9 ms) n), (7, .own 0 bL 9 0 L'.length L'.length true), (8, .int .i64 i)], [[(bL, cs9 L')], [], []]⟩)
    (hR : 200 < (roundM p (L.getD i M3.O) L ms).length → Q .ret ⟨[(4, .int .i64 0), (5, .int .i64 3)], [[], [], []]⟩) :
    ∀ (d k bL : Nat) (L' : List M3), k + d = n → L'.length ≤ 200 → L' = roundM p (L.getD i M3.O) L (ms.take k) →
      LP C (nav Try.f7.body.get! [1, 1, 1, 0, 1, 0, 0, 1, 0, 0, 1, 0, 0]) Q ⟨[(0, .int .i64 p), (1, .imm (cs9 ms) n), (7, .own 0 bL 9 0 L'.length L'.length true), (8, .int .i64 i), (9, .int .i64 k)], [[(bL, cs9 L')], [], []]⟩ := by
  intro d
  induction d with
  | zero =>
    intro k bL L' hd h200 hL'
    rw [List.take_of_length_le (by omega)] at hL'
    refine LP.round ?_
    refine WP.seq ?_
    refine WP.seq (WP.region (l := [0, 1, 2, 3]) rfl ?_)
    refine Run.move rfl rfl rfl (.at rfl) ?_
    refine Run.move rfl rfl rfl (.at rfl) ?_
    refine Run.len rfl rfl rfl (.at rfl) is_26 rfl ?_
    refine Run.int rfl rfl rfl (.at rfl) (.at rfl) rfl ?_
    refine Run.nil ?_
    refine WP.cond_f (.at rfl) (by simp; omega) ?_
    exact WP.keep (WP.exit (hQ bL L' hL' h200)) (by repeat (first | exact trivial | refine ⟨rfl, ?_⟩)) (by repeat (first | exact HSub.nil | refine HSub.keep ?_ | refine HSub.dead ?_))
  | succ d ih =>
    intro k bL L' hd h200 hL'
    have hk : k < ms.length := by omega
    have hnext := roundM_take p (L.getD i M3.O) L ms hk
    rw [← hL'] at hnext
    have hsplit := roundM_split p (L.getD i M3.O) L ms (k + 1)
    rw [hnext] at hsplit
    have hle := roundM_le p (L.getD i M3.O) (ms.take k) L
    rw [← hL', List.length_take] at hle
    have hir : irL p L' := by rw [hL']; exact roundM_ir hp hL
    have hx : L'.getD i M3.O = L.getD i M3.O := by rw [hL']; exact roundM_pre p _ _ _ hi
    have hlc : (cs9 L').length = L'.length * 9 := cs9_length L'
    have htk : (cs9 L').take (L'.length * 9) = cs9 L' := List.take_of_length_le (by omega)
    refine LP.round ?_
    refine WP.seq ?_
    refine WP.seq (WP.region (l := [0, 1, 2, 3]) rfl ?_)
    refine Run.move rfl rfl rfl (.at rfl) ?_
    refine Run.move rfl rfl rfl (.at rfl) ?_
    refine Run.len rfl rfl rfl (.at rfl) is_26 rfl ?_
    refine Run.int rfl rfl rfl (.at rfl) (.at rfl) rfl ?_
    refine Run.nil ?_
    refine WP.cond_t (.at rfl) (by simp; omega) ?_
    refine WP.skip ?_
    refine WP.seq ?_
    refine WP.block ?_
    refine WP.seq (WP.draw mx_0 ?_)
    refine Drawn.calmE [alloc0E 10 10 1 [.int .i64 0, .int .i64 0, .int .i64 0, .int .i64 0, .int .i64 0, .int .i64 0, .int .i64 0, .int .i64 0, .int .i64 0]] ?_
    refine' DrawE.op 0 33 0 [(0, none)] rfl rfl rfl rfl ?_ ?_
    rotate_left
    · intro le rest
      refine Run.move rfl rfl rfl (.at rfl) ?_
      exact single_nil
    refine' DrawE.op 1 34 1 [(7, none)] rfl rfl rfl rfl ?_ ?_
    rotate_left
    · intro le rest
      refine Run.move rfl rfl rfl (.at rfl) ?_
      exact single_nil
    refine' DrawE.op 2 35 2 [(8, none)] rfl rfl rfl rfl ?_ ?_
    rotate_left
    · intro le rest
      refine Run.move rfl rfl rfl (.at rfl) ?_
      exact single_nil
    refine' DrawE.op 3 36 3 [(34, some 1), (35, some 0)] rfl rfl rfl rfl ?_ ?_
    rotate_left
    · intro le rest
      refine Run.idx (j := i) rfl rfl rfl (.at rfl) (.at rfl) sl_26_9 rfl (show i < L'.length by omega) ?_
      exact single_nil
    refine' DrawE.op 4 37 4 [(36, some 0)] rfl rfl rfl rfl ?_ ?_
    rotate_left
    · intro le rest
      refine Run.loads rfl rfl rfl (.at rfl) (place_adr rfl) ag_44_9 (show _ = (L.getD i M3.O).cs by rw [Nat.zero_add, cs9_get (by omega), hx]) rfl ?_
      exact single_nil
    refine' DrawE.op 5 38 5 [(1, none)] rfl rfl rfl rfl ?_ ?_
    rotate_left
    · intro le rest
      refine Run.move rfl rfl rfl (.at rfl) ?_
      exact single_nil
    refine' DrawE.op 6 39 6 [(9, none)] rfl rfl rfl rfl ?_ ?_
    rotate_left
    · intro le rest
      refine Run.move rfl rfl rfl (.at rfl) ?_
      exact single_nil
    refine' DrawE.op 7 40 7 [(38, some 1), (39, some 0)] rfl rfl rfl rfl ?_ ?_
    rotate_left
    · intro le rest
      refine Run.idx_imm (j := k) rfl rfl rfl (.at rfl) (.at rfl) sl_26_9 rfl (show k < n by omega) ?_
      exact single_nil
    refine' DrawE.op 8 41 8 [(40, some 0)] rfl rfl rfl rfl ?_ ?_
    rotate_left
    · intro le rest
      refine Run.loads rfl rfl rfl (.at rfl) .imm ag_44_9 (cs9_get hk) rfl ?_
      exact single_nil
    refine' DrawE.op 9 42 9 [(33, some 8), (37, some 4), (41, some 0)] rfl rfl rfl rfl ?_ ?_
    rotate_left
    · intro le rest
      refine Run.call rfl rfl rfl (.at rfl) (.cons (.at rfl) (.cons (.at rfl) (.cons (.at rfl) .nil))) (c_l02Times p (L.getD i M3.O) (ms.getD k M3.O) hp (irL_get hp hL i) (irL_get hp hm k)) ?_
      exact single_nil
    refine DrawE.early 10 10 10 [] 0 rfl rfl rfl rfl rfl ?_ ?_
    · intro le rest
      refine Run.alloc 1 rfl rfl rfl zr_44 (fun b10 => ?_)
      exact singleE_nil ⟨b10, rfl, rfl⟩
    refine DrawE.tail [11, 12] rfl rfl (by kernel_rfl) (by kernel_rfl) ?_
    intro x10 l10 h10
    obtain ⟨b10, rfl, rfl⟩ := h10
    refine Run.store (j := 0) rfl rfl (.at rfl) rfl rfl (.at rfl) sz_44_9 rfl rfl (by first | decide | exact Nat.le_of_ble_eq_true rfl) rfl ?_
    refine Run.assign rfl rfl rfl (.at rfl) ?_
    refine Run.nil ?_
    refine WP.seq ?_
    refine WP.seq (WP.region (l := [0]) rfl ?_)
    refine Run.assign rfl rfl rfl (.at rfl) ?_
    refine Run.nil ?_
    refine WP.block ?_
    refine WP.loop (LP.keep (l_specGrp2 (x := timesM p (L.getD i M3.O) (ms.getD k M3.O)) (L := L') h200 ?_ L'.length 0 false (by omega) (by simp)) (by repeat (first | exact trivial | refine ⟨rfl, ?_⟩)) (by repeat (first | exact HSub.nil | refine HSub.keep ?_ | refine HSub.dead ?_)))
    refine WP.seq ?_
    refine WP.seq (WP.region (l := [0, 1]) rfl ?_)
    refine Run.move rfl rfl rfl (.at rfl) ?_
    refine Run.not rfl rfl rfl (.at rfl) ?_
    refine Run.nil ?_
    refine WP.cond (.at rfl) (fun hc4 => ?_) (fun hc4 => ?_)
    · have hno : ¬ timesM p (L.getD i M3.O) (ms.getD k M3.O) ∈ L' := by simpa using hc4
      have hadd : addM p (L.getD i M3.O) L' (ms.getD k M3.O) = L' ++ [timesM p (L.getD i M3.O) (ms.getD k M3.O)] := by unfold addM; rw [if_neg hno]
      rw [hadd] at hnext hsplit
      rw [List.length_append, List.length_singleton] at hsplit
      refine WP.region (l := [0, 1, 2, 3, 4]) rfl ?_
      refine Run.move rfl rfl rfl (.at rfl) ?_
      refine Run.loads rfl rfl rfl (.at rfl) (place_adr rfl) ag_44_9 rfl rfl ?_
      refine Run.buildSlice 2 rfl rfl rfl el_26 (by decide) (.cons (.at rfl) rfl .nil) rfl rfl (fun b63 => ?_)
      refine Run.append rfl rfl rfl (.at rfl) rfl el_26 (.at rfl) (.own (At.one rfl) rfl rfl) rfl (Nat.le_refl _) (by omega) (by omega) (by omega) (fun b64 => ?_)
      refine Run.assign rfl rfl rfl (.at rfl) ?_
      refine Run.nil ?_
      refine WP.seq (WP.region (l := [0, 1, 2]) rfl ?_)
      refine Run.move rfl rfl rfl (.at rfl) ?_
      refine Run.len rfl rfl rfl (.at rfl) is_26 rfl ?_
      refine Run.int rfl rfl rfl (.at rfl) (.at rfl) rfl ?_
      refine Run.nil ?_
      refine WP.cond (.at rfl) (fun hc5 => ?_) (fun hc5 => ?_)
      · have h5 : 200 < (roundM p (L.getD i M3.O) L ms).length := by simp at hc5; omega
        refine WP.seq (WP.region (l := [0, 1]) rfl ?_)
        refine Run.assign rfl rfl rfl (.at rfl) ?_
        refine Run.assign rfl rfl rfl (.at rfl) ?_
        refine Run.nil ?_
        exact WP.keep (WP.ret (hR h5)) (by repeat (first | exact trivial | refine ⟨rfl, ?_⟩)) (by repeat (first | exact HSub.nil | refine HSub.keep ?_ | refine HSub.dead ?_))
      · have h5 := hc5
        refine WP.skip ?_
        refine WP.region (l := [0, 1, 2]) rfl ?_
        refine Run.move rfl rfl rfl (.at rfl) ?_
        refine Run.add rfl rfl rfl (.at rfl) (.at rfl) (by omega) ?_
        refine Run.assign rfl rfl rfl (.at rfl) ?_
        refine Run.nil ?_
        have h := ih (k + 1) b64 (L' ++ [timesM p (L.getD i M3.O) (ms.getD k M3.O)]) (by omega) (by rw [List.length_append, List.length_singleton]; simp at h5; omega) hnext.symm
        rw [List.length_append, List.length_singleton, cs9_append] at h
        refine LP.hp (H' := [[(b64, cs9 L' ++ cs9 [timesM p (L.getD i M3.O) (ms.getD k M3.O)])], _, _]) (by
          show [[(b64, (cs9 L').take (L'.length * 9) ++ _)], _, _] = _
          rw [htk]
          rfl) ?_
        exact LP.keep h (by repeat (first | exact trivial | refine ⟨rfl, ?_⟩)) (by repeat (first | exact HSub.nil | refine HSub.keep ?_ | refine HSub.dead ?_))
    · have hyes : timesM p (L.getD i M3.O) (ms.getD k M3.O) ∈ L' := by simpa using hc4
      have hadd : addM p (L.getD i M3.O) L' (ms.getD k M3.O) = L' := by unfold addM; rw [if_pos hyes]
      rw [hadd] at hnext hsplit
      refine WP.skip ?_
      refine WP.seq (WP.region (l := [0, 1, 2]) rfl ?_)
      refine Run.move rfl rfl rfl (.at rfl) ?_
      refine Run.len rfl rfl rfl (.at rfl) is_26 rfl ?_
      refine Run.int rfl rfl rfl (.at rfl) (.at rfl) rfl ?_
      refine Run.nil ?_
      refine WP.cond (.at rfl) (fun hc5 => ?_) (fun hc5 => ?_)
      · have h5 : 200 < (roundM p (L.getD i M3.O) L ms).length := by simp at hc5; omega
        refine WP.seq (WP.region (l := [0, 1]) rfl ?_)
        refine Run.assign rfl rfl rfl (.at rfl) ?_
        refine Run.assign rfl rfl rfl (.at rfl) ?_
        refine Run.nil ?_
        exact WP.keep (WP.ret (hR h5)) (by repeat (first | exact trivial | refine ⟨rfl, ?_⟩)) (by repeat (first | exact HSub.nil | refine HSub.keep ?_ | refine HSub.dead ?_))
      · have h5 := hc5
        refine WP.skip ?_
        refine WP.region (l := [0, 1, 2]) rfl ?_
        refine Run.move rfl rfl rfl (.at rfl) ?_
        refine Run.add rfl rfl rfl (.at rfl) (.at rfl) (by omega) ?_
        refine Run.assign rfl rfl rfl (.at rfl) ?_
        refine Run.nil ?_
        exact LP.keep (ih (k + 1) bL L' (by omega) h200 hnext.symm) (by repeat (first | exact trivial | refine ⟨rfl, ?_⟩)) (by repeat (first | exact HSub.nil | refine HSub.keep ?_ | refine HSub.dead ?_))
theorem l_specGrp0 (hp : IsP p) (hn : n ≤ 8) (hl : ms.length = n) (hm : irL p ms) {res : Option (List M3)}
    (hQ : ∀ (bL : Nat) (L' : List M3), res = some L' → L'.length ≤ 200 → Q (.exit 0) ⟨[(7, .own 0 bL 9 0 L'.length L'.length true)], [[(bL, cs9 L')], [], []]⟩)
    (hR : res = none → Q .ret ⟨[(4, .int .i64 0), (5, .int .i64 3)], [[], [], []]⟩) :
    ∀ (f i bL : Nat) (L : List M3), i + f = 201 → L.length ≤ 200 → i ≤ L.length → irL p L → grpGo p ms f i L = res →
      LP C (nav Try.f7.body.get! [1, 1, 1, 0, 1, 0, 0]) Q ⟨[(0, .int .i64 p), (1, .imm (cs9 ms) n), (7, .own 0 bL 9 0 L.length L.length true), (8, .int .i64 i)], [[(bL, cs9 L)], [], []]⟩ := by
  intro f
  induction f with
  | zero => intro i bL L h1 h2 h3; omega
  | succ f ih =>
    intro i bL L hf h200 hi hL hres
    simp only [grpGo] at hres
    by_cases hlt : i < L.length
    · rw [if_pos hlt] at hres
      have hle := roundM_le p (L.getD i M3.O) ms L
      refine LP.round ?_
      refine WP.seq ?_
      refine WP.seq (WP.region (l := [0, 1, 2, 3]) rfl ?_)
      refine Run.move rfl rfl rfl (.at rfl) ?_
      refine Run.move rfl rfl rfl (.at rfl) ?_
      refine Run.len rfl rfl rfl (.at rfl) is_26 rfl ?_
      refine Run.int rfl rfl rfl (.at rfl) (.at rfl) rfl ?_
      refine Run.nil ?_
      refine WP.cond_t (.at rfl) (by simp; omega) ?_
      refine WP.skip ?_
      refine WP.seq ?_
      refine WP.block ?_
      refine WP.seq (WP.region (l := [0]) rfl ?_)
      refine Run.assign rfl rfl rfl (.at rfl) ?_
      refine Run.nil ?_
      refine WP.block ?_
      refine WP.loop (LP.keep (l_specGrp1 hp hn hl hm hL hlt (fun bL2 L2 hL2 h2 => ?_) (fun h2 => ?_) n 0 bL L (by omega) h200 rfl) (by repeat (first | exact trivial | refine ⟨rfl, ?_⟩)) (by repeat (first | exact HSub.nil | refine HSub.keep ?_ | refine HSub.dead ?_)))
      rotate_left
      · rw [if_pos h2] at hres
        exact hR hres.symm
      refine WP.region (l := [0, 1, 2]) rfl ?_
      refine Run.move rfl rfl rfl (.at rfl) ?_
      refine Run.add rfl rfl rfl (.at rfl) (.at rfl) (by omega) ?_
      refine Run.assign rfl rfl rfl (.at rfl) ?_
      refine Run.nil ?_
      rw [← hL2, if_neg (by omega)] at hres
      exact LP.keep (ih (i + 1) bL2 L2 (by omega) h2 (by rw [← hL2] at hle; omega) (by rw [hL2]; exact roundM_ir hp hL) hres) (by repeat (first | exact trivial | refine ⟨rfl, ?_⟩)) (by repeat (first | exact HSub.nil | refine HSub.keep ?_ | refine HSub.dead ?_))
    · rw [if_neg hlt] at hres
      refine LP.round ?_
      refine WP.seq ?_
      refine WP.seq (WP.region (l := [0, 1, 2, 3]) rfl ?_)
      refine Run.move rfl rfl rfl (.at rfl) ?_
      refine Run.move rfl rfl rfl (.at rfl) ?_
      refine Run.len rfl rfl rfl (.at rfl) is_26 rfl ?_
      refine Run.int rfl rfl rfl (.at rfl) (.at rfl) rfl ?_
      refine Run.nil ?_
      refine WP.cond_f (.at rfl) (by simp; omega) ?_
      exact WP.keep (WP.exit (hQ bL L hres.symm h200)) (by repeat (first | exact trivial | refine ⟨rfl, ?_⟩)) (by repeat (first | exact HSub.nil | refine HSub.keep ?_ | refine HSub.dead ?_))
theorem c_specGrp (p : Int) (ms : List M3) {n : Nat} (hn : n ≤ 2000000) (hl : ms.length = n) :
    Pure Try.prog 7 [.int .i64 p, .imm (cs9 ms) n] (if codeL p ms [] = 0 then grpRes (grpOf p ms) else .tup [.int .i64 0, .int .i64 (codeL p ms [])]) := by
  by_cases h : codeL p ms [] = 0
  · rw [if_pos h]
    obtain ⟨hp, hok, _, h8⟩ := codeL_ok h
    have hu : irL p [unitM] := by
      intro m hm
      simp only [List.mem_singleton] at hm
      subst hm
      exact unitM_ir hp
    refine Pure.body 3 (n := 70) (fn := Try.f7) (c := Try.f7.body.get!) fn_7 rfl nm_7 rfl rfl fun C => ?_
    refine WP.seq (WP.region (l := [0, 1]) rfl ?_)
    refine Run.assign rfl rfl rfl (.at rfl) ?_
    refine Run.assign rfl rfl rfl (.at rfl) ?_
    refine Run.nil ?_
    refine WP.seq ?_
    refine WP.seq (WP.region (l := [0, 1, 2, 3]) rfl ?_)
    refine Run.move rfl rfl rfl (.at rfl) ?_
    refine Run.move rfl rfl rfl (.at rfl) ?_
    refine Run.acts [] [] rfl rfl rfl (.at rfl) (.cons (.at rfl) (.cons (.at rfl) (.cons (.at rfl) .nil))) (.cons .refl (.cons .refl (.cons .nil .nil))) ((c_l10Maps p ms [] hn hl (k := 0) (by decide) rfl).acts) rfl rfl rfl (fun x H h => ?_) (fun x H h => ?_)
    · obtain ⟨rfl, rfl⟩ := h; exact ⟨rfl, by first | rfl | simp [cleanH, cs3_cl]; done | simp [cleanH, ints_cl]; done | simp [cleanH, cs3_cl, ints_cl]; done | simp [cleanH, cs9_cl]; done | simp [cleanH, cs9_cl, cs3_cl, ints_cl]; done⟩
    obtain ⟨rfl, rfl⟩ := h
    refine Run.assign rfl rfl rfl (.at rfl) ?_
    refine Run.nil ?_
    refine WP.seq (WP.region (l := [0, 1]) rfl ?_)
    refine Run.move rfl rfl rfl (.at rfl) ?_
    refine Run.int rfl rfl rfl (.at rfl) (.at rfl) rfl ?_
    refine Run.nil ?_
    refine WP.cond_f (.at rfl) (by rw [h]; rfl) ?_
    refine WP.skip ?_
    refine WP.seq (WP.region (l := [0, 1, 2]) rfl ?_)
    refine Run.call rfl rfl rfl (.at rfl) .nil (c_l02Unit) ?_
    refine Run.buildSlice 0 rfl rfl rfl el_26 (by decide) (.cons (.at rfl) rfl .nil) rfl rfl (fun b20 => ?_)
    refine Run.assign rfl rfl rfl (.at rfl) ?_
    refine Run.nil ?_
    refine WP.seq ?_
    refine WP.seq (WP.region (l := [0]) rfl ?_)
    refine Run.assign rfl rfl rfl (.at rfl) ?_
    refine Run.nil ?_
    refine WP.block ?_
    refine WP.weak 7 rfl (fun _ _ _ h => own_open (id' := 0) (Nat.le_refl _) h) ?_
    refine WP.loop (LP.keep (l_specGrp0 (ms := ms) (res := grpOf p ms) hp (by omega) hl (mapsOk_ir hok) (fun bL L' hr h200 => ?_) (fun hr => ?_) 201 0 b20 [unitM] rfl (by decide) (by decide) hu rfl) (by repeat (first | exact trivial | refine ⟨rfl, ?_⟩)) (by repeat (first | exact HSub.nil | refine HSub.keep ?_ | refine HSub.dead ?_)))
    rotate_left
    · exact Ends.pure (.tmp rfl (.tmp rfl .nil)) (by rw [hr]; rfl)
    refine WP.seq (WP.region (l := [0, 1, 2, 3]) rfl ?_)
    refine Run.move rfl rfl rfl (.at rfl) ?_
    refine Run.len rfl rfl rfl (.at rfl) is_26 rfl ?_
    refine Run.assign rfl rfl rfl (.at rfl) ?_
    refine Run.assign rfl rfl rfl (.at rfl) ?_
    refine Run.nil ?_
    refine WP.ret ?_
    exact Ends.pure (.tmp rfl (.tmp rfl .nil)) (by rw [hr]; rfl)
  · rw [if_neg h]
    refine Pure.body 3 (n := 70) (fn := Try.f7) (c := Try.f7.body.get!) fn_7 rfl nm_7 rfl rfl fun C => ?_
    refine WP.seq (WP.region (l := [0, 1]) rfl ?_)
    refine Run.assign rfl rfl rfl (.at rfl) ?_
    refine Run.assign rfl rfl rfl (.at rfl) ?_
    refine Run.nil ?_
    refine WP.seq ?_
    refine WP.seq (WP.region (l := [0, 1, 2, 3]) rfl ?_)
    refine Run.move rfl rfl rfl (.at rfl) ?_
    refine Run.move rfl rfl rfl (.at rfl) ?_
    refine Run.acts [] [] rfl rfl rfl (.at rfl) (.cons (.at rfl) (.cons (.at rfl) (.cons (.at rfl) .nil))) (.cons .refl (.cons .refl (.cons .nil .nil))) ((c_l10Maps p ms [] hn hl (k := 0) (by decide) rfl).acts) rfl rfl rfl (fun x H h => ?_) (fun x H h => ?_)
    · obtain ⟨rfl, rfl⟩ := h; exact ⟨rfl, by first | rfl | simp [cleanH, cs3_cl]; done | simp [cleanH, ints_cl]; done | simp [cleanH, cs3_cl, ints_cl]; done | simp [cleanH, cs9_cl]; done | simp [cleanH, cs9_cl, cs3_cl, ints_cl]; done⟩
    obtain ⟨rfl, rfl⟩ := h
    refine Run.assign rfl rfl rfl (.at rfl) ?_
    refine Run.nil ?_
    refine WP.seq (WP.region (l := [0, 1]) rfl ?_)
    refine Run.move rfl rfl rfl (.at rfl) ?_
    refine Run.int rfl rfl rfl (.at rfl) (.at rfl) rfl ?_
    refine Run.nil ?_
    refine WP.cond_t (.at rfl) (by simpa using h) ?_
    refine WP.seq (WP.region (l := [0, 1, 2]) rfl ?_)
    refine Run.move rfl rfl rfl (.at rfl) ?_
    refine Run.assign rfl rfl rfl (.at rfl) ?_
    refine Run.assign rfl rfl rfl (.at rfl) ?_
    refine Run.nil ?_
    refine WP.ret ?_
    exact Ends.pure (.tmp rfl (.tmp rfl .nil)) rfl
end
theorem c_grpLaw0 (p : Int) (l : List M3) {n : Nat} (hl : l.length = n) (hn : n ≤ 9223372036854775807) (h : 1000000 < n) : Pure Try.prog 3 [.int .i64 p, .imm (cs9 l) n] (.bool true) := by
  refine Pure.body 0 (n := 61) (fn := Try.f3) (c := Try.f3.body.get!) fn_3 rfl nm_3 rfl rfl fun C => ?_
  refine WP.seq (WP.region (l := [0]) rfl ?_)
  refine Run.assign rfl rfl rfl (.at rfl) ?_
  refine Run.nil ?_
  refine WP.seq (WP.region (l := [0]) rfl ?_)
  refine Run.assign rfl rfl rfl (.at rfl) ?_
  refine Run.nil ?_
  refine WP.seq (WP.region (l := [0, 1, 2, 3]) rfl ?_)
  refine Run.move rfl rfl rfl (.at rfl) ?_
  refine Run.move rfl rfl rfl (.at rfl) ?_
  refine Run.call rfl rfl rfl (.at rfl) (.cons (.at rfl) (.cons (.at rfl) .nil)) (c_szMapS 1000000 (by decide) hn) ?_
  refine Run.assign rfl rfl rfl (.at rfl) ?_
  refine Run.nil ?_
  refine WP.seq ?_
  refine WP.seq (WP.region (l := [0, 1]) rfl ?_)
  refine Run.move rfl rfl rfl (.at rfl) ?_
  refine Run.int rfl rfl rfl (.at rfl) (.at rfl) rfl ?_
  refine Run.nil ?_
  refine WP.cond_t (.at rfl) (by rw [if_pos (by omega)]; rfl) ?_
  refine WP.seq (WP.region (l := [0]) rfl ?_)
  refine Run.assign rfl rfl rfl (.at rfl) ?_
  refine Run.nil ?_
  refine WP.ret ?_
  exact Ends.pure (.tmp rfl .nil) rfl
theorem grp_out (p : Int) (l : List M3) : ∃ a e : Int, (if codeL p l [] = 0 then grpRes (grpOf p l) else .tup [.int .i64 0, .int .i64 (codeL p l [])]) = .tup [.int .i64 a, .int .i64 e] := by
  split
  · unfold grpRes
    split
    · exact ⟨_, _, rfl⟩
    · exact ⟨_, _, rfl⟩
  · exact ⟨_, _, rfl⟩
theorem c_grpLaw1 (p : Int) (l : List M3) {n : Nat} (hl : l.length = n) (hn : n ≤ 1000000) : Pure Try.prog 3 [.int .i64 p, .imm (cs9 l) n] (.bool true) := by
  have hrm := room_le n
  have hpl := padM_length l hl
  have lend : ∀ {H : List Ar} {id b : Nat}, H[id]? = some [(b, cs9 (padM l))] → Lend H (.own id b 9 0 n (n + room n) false) (.imm (cs9 l) n) := fun h => Lend.one h (by omega) (padM_take l)
  have hS := c_specGrp p l (n := n) (by omega) hl
  have hI := c_implGrp p l (n := n) (by omega) hl
  obtain ⟨a, e, hae⟩ := grp_out p l
  rw [hae] at hS hI
  by_cases h0 : n = 0
  · skip
    refine Pure.body 4 (n := 61) (fn := Try.f3) (c := Try.f3.body.get!) fn_3 rfl nm_3 rfl rfl fun C => ?_
    refine WP.seq (WP.region (l := [0]) rfl ?_)
    refine Run.assign rfl rfl rfl (.at rfl) ?_
    refine Run.nil ?_
    refine WP.seq (WP.region (l := [0]) rfl ?_)
    refine Run.assign rfl rfl rfl (.at rfl) ?_
    refine Run.nil ?_
    refine WP.seq (WP.region (l := [0, 1, 2, 3]) rfl ?_)
    refine Run.move rfl rfl rfl (.at rfl) ?_
    refine Run.move rfl rfl rfl (.at rfl) ?_
    refine Run.call rfl rfl rfl (.at rfl) (.cons (.at rfl) (.cons (.at rfl) .nil)) (c_szMapS 1000000 (by decide) (by omega)) ?_
    refine Run.assign rfl rfl rfl (.at rfl) ?_
    refine Run.nil ?_
    refine WP.seq ?_
    refine WP.seq (WP.region (l := [0, 1]) rfl ?_)
    refine Run.move rfl rfl rfl (.at rfl) ?_
    refine Run.int rfl rfl rfl (.at rfl) (.at rfl) rfl ?_
    refine Run.nil ?_
    refine WP.cond_f (.at rfl) (by rw [if_neg (by omega)]; simp; omega) ?_
    refine WP.skip ?_
    refine WP.seq (WP.region (l := [0, 1, 2, 3, 4, 5, 6, 7, 8]) rfl ?_)
    refine Run.move rfl rfl rfl (.at rfl) ?_
    refine Run.move rfl rfl rfl (.at rfl) ?_
    refine Run.acts [] [0] rfl rfl rfl (.at rfl) (.cons (.at rfl) (.cons (.at rfl) .nil)) (LendL.refl _ _) (c_toMapS 0 l false hn hl rfl) rfl rfl rfl (fun x H h => ?_) (fun x H h => ?_)
    · obtain ⟨b21, rfl, rfl⟩ := h; exact ⟨rfl, by first | rfl | simp [cleanH, cs3_cl]; done | simp [cleanH, ints_cl]; done | simp [cleanH, cs3_cl, ints_cl]; done | simp [cleanH, cs9_cl]; done | simp [cleanH, cs9_cl, cs3_cl, ints_cl]; done⟩
    obtain ⟨b21, rfl, rfl⟩ := h
    refine Run.acts [] [] rfl rfl rfl (.at rfl) (.cons (.at rfl) (.cons (.at rfl) .nil)) (.cons .refl (.cons (lend rfl) .nil)) (hS.acts) rfl rfl rfl (fun x H h => ?_) (fun x H h => ?_)
    · obtain ⟨rfl, rfl⟩ := h; exact ⟨rfl, by first | rfl | simp [cleanH, cs3_cl]; done | simp [cleanH, ints_cl]; done | simp [cleanH, cs3_cl, ints_cl]; done | simp [cleanH, cs9_cl]; done | simp [cleanH, cs9_cl, cs3_cl, ints_cl]; done⟩
    obtain ⟨rfl, rfl⟩ := h
    refine Run.move rfl rfl rfl (.at rfl) ?_
    refine Run.extract rfl rfl rfl (.at rfl) rfl ?_
    refine Run.extract rfl rfl rfl (.at rfl) rfl ?_
    refine Run.assign rfl rfl rfl (.at rfl) ?_
    refine Run.assign rfl rfl rfl (.at rfl) ?_
    refine Run.nil ?_
    refine WP.seq (WP.region (l := [0, 1, 2]) rfl ?_)
    refine Run.move rfl rfl rfl (.at rfl) ?_
    refine Run.acts [] [1] rfl rfl rfl (.at rfl) (.cons (.at rfl) (.cons (.at rfl) .nil)) (LendL.refl _ _) (c_toMapS 1 l false hn hl rfl) rfl rfl rfl (fun x H h => ?_) (fun x H h => ?_)
    · obtain ⟨b26, rfl, rfl⟩ := h; exact ⟨rfl, by first | rfl | simp [cleanH, cs3_cl]; done | simp [cleanH, ints_cl]; done | simp [cleanH, cs3_cl, ints_cl]; done | simp [cleanH, cs9_cl]; done | simp [cleanH, cs9_cl, cs3_cl, ints_cl]; done⟩
    obtain ⟨b26, rfl, rfl⟩ := h
    refine Run.assign rfl rfl rfl (.at rfl) ?_
    refine Run.nil ?_
    refine WP.seq (WP.region (l := [0, 1, 2, 3, 4, 5, 6, 7]) rfl ?_)
    refine Run.move rfl rfl rfl (.at rfl) ?_
    refine Run.move rfl rfl rfl (.at rfl) ?_
    refine Run.acts [] [] rfl rfl rfl (.at rfl) (.cons (.at rfl) (.cons (.at rfl) .nil)) (.cons .refl (.cons (lend rfl) .nil)) (hI.acts) rfl rfl rfl (fun x H h => ?_) (fun x H h => ?_)
    · obtain ⟨rfl, rfl⟩ := h; exact ⟨rfl, by first | rfl | simp [cleanH, cs3_cl]; done | simp [cleanH, ints_cl]; done | simp [cleanH, cs3_cl, ints_cl]; done | simp [cleanH, cs9_cl]; done | simp [cleanH, cs9_cl, cs3_cl, ints_cl]; done⟩
    obtain ⟨rfl, rfl⟩ := h
    refine Run.move rfl rfl rfl (.at rfl) ?_
    refine Run.extract rfl rfl rfl (.at rfl) rfl ?_
    refine Run.extract rfl rfl rfl (.at rfl) rfl ?_
    refine Run.assign rfl rfl rfl (.at rfl) ?_
    refine Run.assign rfl rfl rfl (.at rfl) ?_
    refine Run.nil ?_
    refine WP.seq ?_
    refine WP.trim (fr' := [(0, _), (1, _), (6, _), (7, _), (8, _), (9, _), (10, _)]) (H' := [_, _, _, _]) ?_ ⟨rfl, rfl, rfl, rfl, rfl, rfl, rfl, trivial⟩ rfl
    refine WP.seq (WP.region (l := [0, 1, 2, 3, 4, 5, 6, 7]) rfl ?_)
    refine Run.move rfl rfl rfl (.at rfl) ?_
    refine Run.move rfl rfl rfl (.at rfl) ?_
    refine Run.int rfl rfl rfl (.at rfl) (.at rfl) rfl ?_
    refine Run.move rfl rfl rfl (.at rfl) ?_
    refine' Run.guarded rfl rfl rfl rfl rfl rfl (fun ht => ?_) ?_
    rotate_left
    · skip
      refine Run.move rfl rfl rfl (.at rfl) ?_
      exact single_nil
    refine' Run.guarded rfl rfl rfl rfl rfl rfl (fun ht => ?_) ?_
    rotate_left
    · skip
      refine Run.move rfl rfl rfl (.at rfl) ?_
      exact single_nil
    refine' Run.guarded rfl rfl rfl rfl rfl rfl (fun ht => ?_) ?_
    rotate_left
    · skip
      refine Run.int rfl rfl rfl (.opt rfl ht) (.opt rfl ht) rfl ?_
      exact single_nil
    refine Run.or rfl rfl rfl (.at rfl) (.at rfl) rfl ?_
    refine Run.nil ?_
    refine WP.cond_f (.at rfl) (by simp) ?_
    refine WP.skip ?_
    refine WP.seq ?_
    refine WP.seq (WP.region (l := [0, 1, 2, 3, 4]) rfl ?_)
    refine Run.move rfl rfl rfl (.at rfl) ?_
    refine Run.move rfl rfl rfl (.at rfl) ?_
    refine Run.acts [] [2] rfl rfl rfl (.at rfl) (.cons (.at rfl) (.cons (.at rfl) .nil)) (LendL.refl _ _) (c_toMapS 2 l false hn hl rfl) rfl rfl rfl (fun x H h => ?_) (fun x H h => ?_)
    · obtain ⟨b43, rfl, rfl⟩ := h; exact ⟨rfl, by first | rfl | simp [cleanH, cs3_cl]; done | simp [cleanH, ints_cl]; done | simp [cleanH, cs3_cl, ints_cl]; done | simp [cleanH, cs9_cl]; done | simp [cleanH, cs9_cl, cs3_cl, ints_cl]; done⟩
    obtain ⟨b43, rfl, rfl⟩ := h
    refine Run.acts [1, 2] [1, 2] rfl rfl rfl (.at rfl) (.cons (.at rfl) (.cons (.at rfl) .nil)) (LendL.refl _ _) (c_intactMapS 1 2 b26 b43 n (n + room n) (n + room n) false false (padM l) (padM l) hn hpl hpl (Nat.le_refl _) (Nat.le_refl _)) rfl rfl rfl (fun x H h => ?_) (fun x H h => ?_)
    · obtain ⟨rfl, rfl⟩ := h; exact ⟨rfl, by first | rfl | simp [cleanH, cs3_cl]; done | simp [cleanH, ints_cl]; done | simp [cleanH, cs3_cl, ints_cl]; done | simp [cleanH, cs9_cl]; done | simp [cleanH, cs9_cl, cs3_cl, ints_cl]; done⟩
    obtain ⟨rfl, rfl⟩ := h
    refine Run.not rfl rfl rfl (.at rfl) ?_
    refine Run.nil ?_
    refine WP.cond_f (.at rfl) (by simp) ?_
    refine WP.skip ?_
    refine WP.seq (WP.region (l := [0, 1, 2, 3, 4, 5, 6, 7, 8]) rfl ?_)
    refine Run.move rfl rfl rfl (.at rfl) ?_
    refine Run.move rfl rfl rfl (.at rfl) ?_
    refine Run.call rfl rfl rfl (.at rfl) (.cons (.at rfl) (.cons (.at rfl) .nil)) (c_toMapS_nil h0) ?_
    refine Run.acts [] [] rfl rfl rfl (.at rfl) (.cons (.at rfl) (.cons (.at rfl) .nil)) (.cons .refl (.cons (by subst h0; have : l = [] := List.length_eq_zero_iff.1 hl; subst this; exact .nil) .nil)) (hI.acts) rfl rfl rfl (fun x H h => ?_) (fun x H h => ?_)
    · obtain ⟨rfl, rfl⟩ := h; exact ⟨rfl, by first | rfl | simp [cleanH, cs3_cl]; done | simp [cleanH, ints_cl]; done | simp [cleanH, cs3_cl, ints_cl]; done | simp [cleanH, cs9_cl]; done | simp [cleanH, cs9_cl, cs3_cl, ints_cl]; done⟩
    obtain ⟨rfl, rfl⟩ := h
    refine Run.move rfl rfl rfl (.at rfl) ?_
    refine Run.extract rfl rfl rfl (.at rfl) rfl ?_
    refine Run.extract rfl rfl rfl (.at rfl) rfl ?_
    refine Run.assign rfl rfl rfl (.at rfl) ?_
    refine Run.assign rfl rfl rfl (.at rfl) ?_
    refine Run.nil ?_
    refine WP.seq ?_
    refine WP.trim (fr' := [(6, _), (7, _), (11, _), (12, _)]) (H' := [_, _, _, _]) ?_ ⟨rfl, rfl, rfl, rfl, trivial⟩ rfl
    refine WP.seq (WP.region (l := [0, 1, 2, 3, 4, 5, 6, 7]) rfl ?_)
    refine Run.move rfl rfl rfl (.at rfl) ?_
    refine Run.move rfl rfl rfl (.at rfl) ?_
    refine Run.int rfl rfl rfl (.at rfl) (.at rfl) rfl ?_
    refine Run.move rfl rfl rfl (.at rfl) ?_
    refine' Run.guarded rfl rfl rfl rfl rfl rfl (fun ht => ?_) ?_
    rotate_left
    · skip
      refine Run.move rfl rfl rfl (.at rfl) ?_
      exact single_nil
    refine' Run.guarded rfl rfl rfl rfl rfl rfl (fun ht => ?_) ?_
    rotate_left
    · skip
      refine Run.move rfl rfl rfl (.at rfl) ?_
      exact single_nil
    refine' Run.guarded rfl rfl rfl rfl rfl rfl (fun ht => ?_) ?_
    rotate_left
    · skip
      refine Run.int rfl rfl rfl (.opt rfl ht) (.opt rfl ht) rfl ?_
      exact single_nil
    refine Run.or rfl rfl rfl (.at rfl) (.at rfl) rfl ?_
    refine Run.nil ?_
    refine WP.cond_f (.at rfl) (by simp) ?_
    refine WP.skip ?_
    refine WP.seq (WP.region (l := [0]) rfl ?_)
    refine Run.assign rfl rfl rfl (.at rfl) ?_
    refine Run.nil ?_
    refine WP.ret ?_
    exact Ends.pure (.tmp rfl .nil) rfl
  · skip
    refine Pure.body 4 (n := 61) (fn := Try.f3) (c := Try.f3.body.get!) fn_3 rfl nm_3 rfl rfl fun C => ?_
    refine WP.seq (WP.region (l := [0]) rfl ?_)
    refine Run.assign rfl rfl rfl (.at rfl) ?_
    refine Run.nil ?_
    refine WP.seq (WP.region (l := [0]) rfl ?_)
    refine Run.assign rfl rfl rfl (.at rfl) ?_
    refine Run.nil ?_
    refine WP.seq (WP.region (l := [0, 1, 2, 3]) rfl ?_)
    refine Run.move rfl rfl rfl (.at rfl) ?_
    refine Run.move rfl rfl rfl (.at rfl) ?_
    refine Run.call rfl rfl rfl (.at rfl) (.cons (.at rfl) (.cons (.at rfl) .nil)) (c_szMapS 1000000 (by decide) (by omega)) ?_
    refine Run.assign rfl rfl rfl (.at rfl) ?_
    refine Run.nil ?_
    refine WP.seq ?_
    refine WP.seq (WP.region (l := [0, 1]) rfl ?_)
    refine Run.move rfl rfl rfl (.at rfl) ?_
    refine Run.int rfl rfl rfl (.at rfl) (.at rfl) rfl ?_
    refine Run.nil ?_
    refine WP.cond_f (.at rfl) (by rw [if_neg (by omega)]; simp; omega) ?_
    refine WP.skip ?_
    refine WP.seq (WP.region (l := [0, 1, 2, 3, 4, 5, 6, 7, 8]) rfl ?_)
    refine Run.move rfl rfl rfl (.at rfl) ?_
    refine Run.move rfl rfl rfl (.at rfl) ?_
    refine Run.acts [] [0] rfl rfl rfl (.at rfl) (.cons (.at rfl) (.cons (.at rfl) .nil)) (LendL.refl _ _) (c_toMapS 0 l false hn hl rfl) rfl rfl rfl (fun x H h => ?_) (fun x H h => ?_)
    · obtain ⟨b21, rfl, rfl⟩ := h; exact ⟨rfl, by first | rfl | simp [cleanH, cs3_cl]; done | simp [cleanH, ints_cl]; done | simp [cleanH, cs3_cl, ints_cl]; done | simp [cleanH, cs9_cl]; done | simp [cleanH, cs9_cl, cs3_cl, ints_cl]; done⟩
    obtain ⟨b21, rfl, rfl⟩ := h
    refine Run.acts [] [] rfl rfl rfl (.at rfl) (.cons (.at rfl) (.cons (.at rfl) .nil)) (.cons .refl (.cons (lend rfl) .nil)) (hS.acts) rfl rfl rfl (fun x H h => ?_) (fun x H h => ?_)
    · obtain ⟨rfl, rfl⟩ := h; exact ⟨rfl, by first | rfl | simp [cleanH, cs3_cl]; done | simp [cleanH, ints_cl]; done | simp [cleanH, cs3_cl, ints_cl]; done | simp [cleanH, cs9_cl]; done | simp [cleanH, cs9_cl, cs3_cl, ints_cl]; done⟩
    obtain ⟨rfl, rfl⟩ := h
    refine Run.move rfl rfl rfl (.at rfl) ?_
    refine Run.extract rfl rfl rfl (.at rfl) rfl ?_
    refine Run.extract rfl rfl rfl (.at rfl) rfl ?_
    refine Run.assign rfl rfl rfl (.at rfl) ?_
    refine Run.assign rfl rfl rfl (.at rfl) ?_
    refine Run.nil ?_
    refine WP.seq (WP.region (l := [0, 1, 2]) rfl ?_)
    refine Run.move rfl rfl rfl (.at rfl) ?_
    refine Run.acts [] [1] rfl rfl rfl (.at rfl) (.cons (.at rfl) (.cons (.at rfl) .nil)) (LendL.refl _ _) (c_toMapS 1 l false hn hl rfl) rfl rfl rfl (fun x H h => ?_) (fun x H h => ?_)
    · obtain ⟨b26, rfl, rfl⟩ := h; exact ⟨rfl, by first | rfl | simp [cleanH, cs3_cl]; done | simp [cleanH, ints_cl]; done | simp [cleanH, cs3_cl, ints_cl]; done | simp [cleanH, cs9_cl]; done | simp [cleanH, cs9_cl, cs3_cl, ints_cl]; done⟩
    obtain ⟨b26, rfl, rfl⟩ := h
    refine Run.assign rfl rfl rfl (.at rfl) ?_
    refine Run.nil ?_
    refine WP.seq (WP.region (l := [0, 1, 2, 3, 4, 5, 6, 7]) rfl ?_)
    refine Run.move rfl rfl rfl (.at rfl) ?_
    refine Run.move rfl rfl rfl (.at rfl) ?_
    refine Run.acts [] [] rfl rfl rfl (.at rfl) (.cons (.at rfl) (.cons (.at rfl) .nil)) (.cons .refl (.cons (lend rfl) .nil)) (hI.acts) rfl rfl rfl (fun x H h => ?_) (fun x H h => ?_)
    · obtain ⟨rfl, rfl⟩ := h; exact ⟨rfl, by first | rfl | simp [cleanH, cs3_cl]; done | simp [cleanH, ints_cl]; done | simp [cleanH, cs3_cl, ints_cl]; done | simp [cleanH, cs9_cl]; done | simp [cleanH, cs9_cl, cs3_cl, ints_cl]; done⟩
    obtain ⟨rfl, rfl⟩ := h
    refine Run.move rfl rfl rfl (.at rfl) ?_
    refine Run.extract rfl rfl rfl (.at rfl) rfl ?_
    refine Run.extract rfl rfl rfl (.at rfl) rfl ?_
    refine Run.assign rfl rfl rfl (.at rfl) ?_
    refine Run.assign rfl rfl rfl (.at rfl) ?_
    refine Run.nil ?_
    refine WP.seq ?_
    refine WP.trim (fr' := [(0, _), (1, _), (6, _), (7, _), (8, _), (9, _), (10, _)]) (H' := [_, _, _, _]) ?_ ⟨rfl, rfl, rfl, rfl, rfl, rfl, rfl, trivial⟩ rfl
    refine WP.seq (WP.region (l := [0, 1, 2, 3, 4, 5, 6, 7]) rfl ?_)
    refine Run.move rfl rfl rfl (.at rfl) ?_
    refine Run.move rfl rfl rfl (.at rfl) ?_
    refine Run.int rfl rfl rfl (.at rfl) (.at rfl) rfl ?_
    refine Run.move rfl rfl rfl (.at rfl) ?_
    refine' Run.guarded rfl rfl rfl rfl rfl rfl (fun ht => ?_) ?_
    rotate_left
    · skip
      refine Run.move rfl rfl rfl (.at rfl) ?_
      exact single_nil
    refine' Run.guarded rfl rfl rfl rfl rfl rfl (fun ht => ?_) ?_
    rotate_left
    · skip
      refine Run.move rfl rfl rfl (.at rfl) ?_
      exact single_nil
    refine' Run.guarded rfl rfl rfl rfl rfl rfl (fun ht => ?_) ?_
    rotate_left
    · skip
      refine Run.int rfl rfl rfl (.opt rfl ht) (.opt rfl ht) rfl ?_
      exact single_nil
    refine Run.or rfl rfl rfl (.at rfl) (.at rfl) rfl ?_
    refine Run.nil ?_
    refine WP.cond_f (.at rfl) (by simp) ?_
    refine WP.skip ?_
    refine WP.seq ?_
    refine WP.seq (WP.region (l := [0, 1, 2, 3, 4]) rfl ?_)
    refine Run.move rfl rfl rfl (.at rfl) ?_
    refine Run.move rfl rfl rfl (.at rfl) ?_
    refine Run.acts [] [2] rfl rfl rfl (.at rfl) (.cons (.at rfl) (.cons (.at rfl) .nil)) (LendL.refl _ _) (c_toMapS 2 l false hn hl rfl) rfl rfl rfl (fun x H h => ?_) (fun x H h => ?_)
    · obtain ⟨b43, rfl, rfl⟩ := h; exact ⟨rfl, by first | rfl | simp [cleanH, cs3_cl]; done | simp [cleanH, ints_cl]; done | simp [cleanH, cs3_cl, ints_cl]; done | simp [cleanH, cs9_cl]; done | simp [cleanH, cs9_cl, cs3_cl, ints_cl]; done⟩
    obtain ⟨b43, rfl, rfl⟩ := h
    refine Run.acts [1, 2] [1, 2] rfl rfl rfl (.at rfl) (.cons (.at rfl) (.cons (.at rfl) .nil)) (LendL.refl _ _) (c_intactMapS 1 2 b26 b43 n (n + room n) (n + room n) false false (padM l) (padM l) hn hpl hpl (Nat.le_refl _) (Nat.le_refl _)) rfl rfl rfl (fun x H h => ?_) (fun x H h => ?_)
    · obtain ⟨rfl, rfl⟩ := h; exact ⟨rfl, by first | rfl | simp [cleanH, cs3_cl]; done | simp [cleanH, ints_cl]; done | simp [cleanH, cs3_cl, ints_cl]; done | simp [cleanH, cs9_cl]; done | simp [cleanH, cs9_cl, cs3_cl, ints_cl]; done⟩
    obtain ⟨rfl, rfl⟩ := h
    refine Run.not rfl rfl rfl (.at rfl) ?_
    refine Run.nil ?_
    refine WP.cond_f (.at rfl) (by simp) ?_
    refine WP.skip ?_
    refine WP.seq (WP.region (l := [0, 1, 2, 3, 4, 5, 6, 7, 8]) rfl ?_)
    refine Run.move rfl rfl rfl (.at rfl) ?_
    refine Run.move rfl rfl rfl (.at rfl) ?_
    refine Run.acts [] [3] rfl rfl rfl (.at rfl) (.cons (.at rfl) (.cons (.at rfl) .nil)) (LendL.refl _ _) (c_toMapS 3 l true hn hl (by simp [h0])) rfl rfl rfl (fun x H h => ?_) (fun x H h => ?_)
    · obtain ⟨b49, rfl, rfl⟩ := h; exact ⟨rfl, by first | rfl | simp [cleanH, cs3_cl]; done | simp [cleanH, ints_cl]; done | simp [cleanH, cs3_cl, ints_cl]; done | simp [cleanH, cs9_cl]; done | simp [cleanH, cs9_cl, cs3_cl, ints_cl]; done⟩
    obtain ⟨b49, rfl, rfl⟩ := h
    refine Run.acts [] [] rfl rfl rfl (.at rfl) (.cons (.at rfl) (.cons (.at rfl) .nil)) (.cons .refl (.cons (lend rfl) .nil)) (hI.acts) rfl rfl rfl (fun x H h => ?_) (fun x H h => ?_)
    · obtain ⟨rfl, rfl⟩ := h; exact ⟨rfl, by first | rfl | simp [cleanH, cs3_cl]; done | simp [cleanH, ints_cl]; done | simp [cleanH, cs3_cl, ints_cl]; done | simp [cleanH, cs9_cl]; done | simp [cleanH, cs9_cl, cs3_cl, ints_cl]; done⟩
    obtain ⟨rfl, rfl⟩ := h
    refine Run.move rfl rfl rfl (.at rfl) ?_
    refine Run.extract rfl rfl rfl (.at rfl) rfl ?_
    refine Run.extract rfl rfl rfl (.at rfl) rfl ?_
    refine Run.assign rfl rfl rfl (.at rfl) ?_
    refine Run.assign rfl rfl rfl (.at rfl) ?_
    refine Run.nil ?_
    refine WP.seq ?_
    refine WP.trim (fr' := [(6, _), (7, _), (11, _), (12, _)]) (H' := [_, _, _, _]) ?_ ⟨rfl, rfl, rfl, rfl, trivial⟩ rfl
    refine WP.seq (WP.region (l := [0, 1, 2, 3, 4, 5, 6, 7]) rfl ?_)
    refine Run.move rfl rfl rfl (.at rfl) ?_
    refine Run.move rfl rfl rfl (.at rfl) ?_
    refine Run.int rfl rfl rfl (.at rfl) (.at rfl) rfl ?_
    refine Run.move rfl rfl rfl (.at rfl) ?_
    refine' Run.guarded rfl rfl rfl rfl rfl rfl (fun ht => ?_) ?_
    rotate_left
    · skip
      refine Run.move rfl rfl rfl (.at rfl) ?_
      exact single_nil
    refine' Run.guarded rfl rfl rfl rfl rfl rfl (fun ht => ?_) ?_
    rotate_left
    · skip
      refine Run.move rfl rfl rfl (.at rfl) ?_
      exact single_nil
    refine' Run.guarded rfl rfl rfl rfl rfl rfl (fun ht => ?_) ?_
    rotate_left
    · skip
      refine Run.int rfl rfl rfl (.opt rfl ht) (.opt rfl ht) rfl ?_
      exact single_nil
    refine Run.or rfl rfl rfl (.at rfl) (.at rfl) rfl ?_
    refine Run.nil ?_
    refine WP.cond_f (.at rfl) (by simp) ?_
    refine WP.skip ?_
    refine WP.seq (WP.region (l := [0]) rfl ?_)
    refine Run.assign rfl rfl rfl (.at rfl) ?_
    refine Run.nil ?_
    refine WP.ret ?_
    exact Ends.pure (.tmp rfl .nil) rfl
theorem c_grpLaw (p : Int) (l : List M3) {n : Nat} (hl : l.length = n) (hn : n ≤ 9223372036854775807) : Pure Try.prog 3 [.int .i64 p, .imm (cs9 l) n] (.bool true) := by
  by_cases h : 1000000 < n
  · exact c_grpLaw0 p l hl hn h
  · exact c_grpLaw1 p l hl (by omega)
end Go.Ab
