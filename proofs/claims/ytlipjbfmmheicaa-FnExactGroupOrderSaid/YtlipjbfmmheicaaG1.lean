/- The walk of the code's order of a group. -/
import Derived.Test.YtlipjbfmmheicaaP14
import Derived.Test.YtlipjbfmmheicaaM5
namespace Go.Ab
open Go.Proofs
section
variable {C : Cx Try.prog 59} {Q : Post} {p : Int} {ms : List M3} {n : Nat}
abbrev KM : Ds := .arr 3 3 (.arr 3 1 (.int .i64))
theorem l_implGrp1 (hp : IsP p) (hn : n ≤ 8) (hl : ms.length = n) (hm : irL p ms) {i : Nat} {L : List M3} (hL : irL p L) (hi : i < L.length) (h200 : L.length ≤ 200)
    (hQ : ∀ bL bm L', L' = roundM p (L.getD i M3.O) L ms → Q (.exit 2) ⟨[(0, .int .i64 p), (1, .imm (cs9 ms) n), (7, .own 0 bL 9 0 L'.length L'.length true), (8, .mp 1 bm), (9, .int .i64 i)], [[(bL, cs9 L')], [(bm, .mark :: mapC KM (entsM L'))], [], [], []]⟩) :
    ∀ (d k bL bm : Nat) (L' : List M3), k + d = n → L' = roundM p (L.getD i M3.O) L (ms.take k) →
      LP C (nav Try.f9.body.get! [1, 1, 1, 0, 1, 0, 0, 1, 0, 0, 0, 1, 0, 0]) Q ⟨[(0, .int .i64 p), (1, .imm (cs9 ms) n), (7, .own 0 bL 9 0 L'.length L'.length true), (8, .mp 1 bm), (9, .int .i64 i), (30, .imm (cs9 ms) n), (31, .int .i64 n), (32, .int .i64 k)], [[(bL, cs9 L')], [(bm, .mark :: mapC KM (entsM L'))], [], [], []]⟩ := by
  intro d
  induction d with
  | zero =>
    intro k bL bm L' hd hL'
    rw [List.take_of_length_le (by omega)] at hL'
    refine LP.round ?_
    refine WP.seq (WP.region (l := [0]) rfl ?_)
    refine Run.int rfl rfl rfl (.at rfl) (.at rfl) rfl ?_
    refine Run.nil ?_
    refine WP.seq ?_
    refine WP.cond_f (.at rfl) (by simp; omega) ?_
    exact WP.keep (WP.exit (hQ bL bm L' hL')) (by repeat (first | exact trivial | refine ⟨rfl, ?_⟩)) (by repeat (first | exact HSub.nil | refine HSub.keep ?_ | refine HSub.dead ?_))
  | succ d ih =>
    intro k bL bm L' hd hL'
    have hk : k < ms.length := by omega
    have hnext := roundM_take p (L.getD i M3.O) L ms hk
    rw [← hL'] at hnext
    have hle := roundM_le p (L.getD i M3.O) (ms.take k) L
    rw [← hL', List.length_take] at hle
    have hir : irL p L' := by rw [hL']; exact roundM_ir hp hL
    have hx : L'.getD i M3.O = L.getD i M3.O := by rw [hL']; exact roundM_pre p _ _ _ hi
    have hxm := M3.ir_sm hp (irL_get hp hL i)
    have hmm := M3.ir_sm hp (irL_get hp hm k)
    have hlook := entsM_look L' (timesM p (L.getD i M3.O) (ms.getD k M3.O))
    have hlc : (cs9 L').length = L'.length * 9 := cs9_length L'
    have htk : (cs9 L').take (L'.length * 9) = cs9 L' := List.take_of_length_le (by omega)
    refine LP.round ?_
    refine WP.seq (WP.region (l := [0]) rfl ?_)
    refine Run.int rfl rfl rfl (.at rfl) (.at rfl) rfl ?_
    refine Run.nil ?_
    refine WP.seq ?_
    refine WP.cond_t (.at rfl) (by simp; omega) ?_
    refine WP.skip ?_
    refine WP.seq ?_
    refine WP.block ?_
    refine WP.seq (WP.region (l := [0, 1, 2, 3]) rfl ?_)
    refine Run.idx_imm (j := k) rfl rfl rfl (.at rfl) (.at rfl) sl_26_9 rfl (show k < n by omega) ?_
    refine Run.loads rfl rfl rfl (.at rfl) .imm ag_44_9 (cs9_get hk) rfl ?_
    refine Run.alloc 2 rfl rfl rfl zr_44 (fun b11 => ?_)
    refine Run.store (j := 0) rfl rfl (.at rfl) rfl rfl (.at rfl) sz_44_9 rfl rfl (by first | decide | exact Nat.le_of_ble_eq_true rfl) rfl ?_
    refine Run.nil ?_
    refine WP.seq (WP.draw mx_0 ?_)
    refine Drawn.calmE [alloc0E 7 12 3 [.int .i64 0, .int .i64 0, .int .i64 0, .int .i64 0, .int .i64 0, .int .i64 0, .int .i64 0, .int .i64 0, .int .i64 0]] ?_
    refine' DrawE.op 0 36 0 [(0, none)] rfl rfl rfl rfl ?_ ?_
    rotate_left
    · intro le rest
      refine Run.move rfl rfl rfl (.at rfl) ?_
      exact single_nil
    refine' DrawE.op 1 37 1 [(7, none)] rfl rfl rfl rfl ?_ ?_
    rotate_left
    · intro le rest
      refine Run.move rfl rfl rfl (.at rfl) ?_
      exact single_nil
    refine' DrawE.op 2 38 2 [(9, none)] rfl rfl rfl rfl ?_ ?_
    rotate_left
    · intro le rest
      refine Run.move rfl rfl rfl (.at rfl) ?_
      exact single_nil
    refine' DrawE.op 3 39 3 [(37, some 1), (38, some 0)] rfl rfl rfl rfl ?_ ?_
    rotate_left
    · intro le rest
      refine Run.idx (j := i) rfl rfl rfl (.at rfl) (.at rfl) sl_26_9 rfl (show i < L'.length by omega) ?_
      exact single_nil
    refine' DrawE.op 4 40 4 [(39, some 0)] rfl rfl rfl rfl ?_ ?_
    rotate_left
    · intro le rest
      refine Run.loads rfl rfl rfl (.at rfl) (place_adr rfl) ag_44_9 (show _ = (L.getD i M3.O).cs by rw [Nat.zero_add, cs9_get (by omega), hx]) rfl ?_
      exact single_nil
    refine' DrawE.op 5 41 5 [(11, none)] rfl rfl rfl rfl ?_ ?_
    rotate_left
    · intro le rest
      refine Run.loads rfl rfl rfl (.at rfl) (place_adr rfl) ag_44_9 rfl rfl ?_
      exact single_nil
    refine' DrawE.op 6 42 6 [(36, some 5), (40, some 1), (41, some 0)] rfl rfl rfl rfl ?_ ?_
    rotate_left
    · intro le rest
      refine Run.call rfl rfl rfl (.at rfl) (.cons (.at rfl) (.cons (.at rfl) (.cons (.at rfl) .nil))) (c_times p (L.getD i M3.O) (ms.getD k M3.O) hp hxm hmm) ?_
      exact single_nil
    refine DrawE.early 7 12 7 [] 0 rfl rfl rfl rfl rfl ?_ ?_
    · intro le rest
      refine Run.alloc 3 rfl rfl rfl zr_44 (fun b12 => ?_)
      exact singleE_nil ⟨b12, rfl, rfl⟩
    refine DrawE.tail [8] rfl rfl (by kernel_rfl) (by kernel_rfl) ?_
    intro x12 l12 h12
    obtain ⟨b12, rfl, rfl⟩ := h12
    refine Run.store (j := 0) rfl rfl (.at rfl) rfl rfl (.at rfl) sz_44_9 rfl rfl (by first | decide | exact Nat.le_of_ble_eq_true rfl) rfl ?_
    refine Run.nil ?_
    refine WP.seq (WP.region (l := [0, 1, 2, 3]) rfl ?_)
    refine Run.move rfl rfl rfl (.at rfl) ?_
    refine Run.loads rfl rfl rfl (.at rfl) (place_adr rfl) ag_44_9 rfl rfl ?_
    refine Run.lookup (.arr 3 3 (.arr 3 1 (.int .i64))) (timesM p (L.getD i M3.O) (ms.getD k M3.O)).l (entsM L') rfl rfl rfl (.at rfl) rfl (.at rfl) mb_49 rfl (entsM_len L') mz_49 rfl ?_
    refine Run.weak 45 (x := .bool (decide (timesM p (L.getD i M3.O) (ms.getD k M3.O) ∈ L'))) rfl (fun _ _ _ h => by rw [hlook] at h; exact h) ?_
    refine Run.not rfl rfl rfl (.at rfl) ?_
    refine Run.nil ?_
    refine WP.cond (.at rfl) (fun hc3 => ?_) (fun hc3 => ?_)
    · have hno : ¬ timesM p (L.getD i M3.O) (ms.getD k M3.O) ∈ L' := by simpa using hc3
      have hadd : addM p (L.getD i M3.O) L' (ms.getD k M3.O) = L' ++ [timesM p (L.getD i M3.O) (ms.getD k M3.O)] := by unfold addM; rw [if_neg hno]
      rw [hadd] at hnext
      refine WP.draw mx_0 ?_
      refine Drawn.move 0 rfl (by kernel_rfl) rfl (.at rfl) ?_
      refine Drawn.move 2 rfl (by kernel_rfl) rfl (.at rfl) ?_
      refine Drawn.calmE [] ?_
      refine DrawE.tree [1, 3, 4, 5, 6, 7] 6 rfl rfl (by kernel_rfl) (by kernel_rfl) rfl ?_
      intro f
      refine' RunT.cut2 ?_ ?_
      rotate_left
      · intro hm
        refine RunT.two 1 3 (by kernel_rfl) ?_ ?_
        · skip
          refine Run.loads rfl rfl rfl (.at rfl) (place_adr rfl) ag_44_9 rfl rfl ?_
          refine Run.nil ?_
          refine RunT.one 3 (by kernel_rfl) ?_
          refine Run.loads rfl rfl rfl (.at rfl) (place_adr rfl) ag_44_9 rfl rfl ?_
          refine Run.nil ?_
          refine RunT.one 4 (by kernel_rfl) ?_
          refine Run.buildSlice 4 rfl rfl rfl el_26 (by decide) (.cons (.at rfl) rfl .nil) rfl rfl (fun b51 => ?_)
          refine Run.nil ?_
          refine RunT.one 5 (by kernel_rfl) ?_
          refine Run.append rfl rfl rfl (.at rfl) rfl el_26 (.at rfl) (.own (At.one rfl) rfl rfl) rfl (Nat.le_refl _) (by omega) (by omega) (by omega) (fun b52 => ?_)
          refine Run.nil ?_
          refine RunT.one 6 (by kernel_rfl) ?_
          refine Run.assign rfl rfl rfl (.at rfl) ?_
          refine Run.nil ?_
          refine RunT.one 7 (by kernel_rfl) ?_
          refine Run.mapUpdate (.arr 3 3 (.arr 3 1 (.int .i64))) (timesM p (L.getD i M3.O) (ms.getD k M3.O)).l (entsM L') rfl rfl (.at rfl) rfl (.at rfl) (.at rfl) mb_49 rfl (entsM_len L') (by rw [entsM_find, if_neg hno]) ?_
          refine Run.nil ?_
          exact RunT.done (by kernel_rfl) (WP.trim (fr' := [(0, _), (1, _), (7, _), (8, _), (9, _), (30, _), (31, _), (32, _)]) (H' := [_, _, _, _, _]) (hm b51 b52) ⟨rfl, rfl, rfl, rfl, rfl, rfl, rfl, rfl, trivial⟩ rfl)
        · skip
          refine Run.loads rfl rfl rfl (.at rfl) (place_adr rfl) ag_44_9 rfl rfl ?_
          refine Run.nil ?_
          refine RunT.two 1 4 (by kernel_rfl) ?_ ?_
          · skip
            refine Run.loads rfl rfl rfl (.at rfl) (place_adr rfl) ag_44_9 rfl rfl ?_
            refine Run.nil ?_
            refine RunT.one 4 (by kernel_rfl) ?_
            refine Run.buildSlice 4 rfl rfl rfl el_26 (by decide) (.cons (.at rfl) rfl .nil) rfl rfl (fun b51 => ?_)
            refine Run.nil ?_
            refine RunT.one 5 (by kernel_rfl) ?_
            refine Run.append rfl rfl rfl (.at rfl) rfl el_26 (.at rfl) (.own (At.one rfl) rfl rfl) rfl (Nat.le_refl _) (by omega) (by omega) (by omega) (fun b52 => ?_)
            refine Run.nil ?_
            refine RunT.one 6 (by kernel_rfl) ?_
            refine Run.assign rfl rfl rfl (.at rfl) ?_
            refine Run.nil ?_
            refine RunT.one 7 (by kernel_rfl) ?_
            refine Run.mapUpdate (.arr 3 3 (.arr 3 1 (.int .i64))) (timesM p (L.getD i M3.O) (ms.getD k M3.O)).l (entsM L') rfl rfl (.at rfl) rfl (.at rfl) (.at rfl) mb_49 rfl (entsM_len L') (by rw [entsM_find, if_neg hno]) ?_
            refine Run.nil ?_
            exact RunT.done (by kernel_rfl) (by first | exact WP.keep (hm b51 b52) (by repeat (first | exact trivial | refine ⟨rfl, ?_⟩)) (by repeat (first | exact HSub.nil | refine HSub.keep ?_ | refine HSub.dead ?_)) | exact LP.keep (hm b51 b52) (by repeat (first | exact trivial | refine ⟨rfl, ?_⟩)) (by repeat (first | exact HSub.nil | refine HSub.keep ?_ | refine HSub.dead ?_)))
          · skip
            refine Run.buildSlice 4 rfl rfl rfl el_26 (by decide) (.cons (.at rfl) rfl .nil) rfl rfl (fun b51 => ?_)
            refine Run.nil ?_
            refine RunT.two 1 5 (by kernel_rfl) ?_ ?_
            · skip
              refine Run.loads rfl rfl rfl (.at rfl) (place_adr rfl) ag_44_9 rfl rfl ?_
              refine Run.nil ?_
              refine RunT.one 5 (by kernel_rfl) ?_
              refine Run.append rfl rfl rfl (.at rfl) rfl el_26 (.at rfl) (.own (At.one rfl) rfl rfl) rfl (Nat.le_refl _) (by omega) (by omega) (by omega) (fun b52 => ?_)
              refine Run.nil ?_
              refine RunT.one 6 (by kernel_rfl) ?_
              refine Run.assign rfl rfl rfl (.at rfl) ?_
              refine Run.nil ?_
              refine RunT.one 7 (by kernel_rfl) ?_
              refine Run.mapUpdate (.arr 3 3 (.arr 3 1 (.int .i64))) (timesM p (L.getD i M3.O) (ms.getD k M3.O)).l (entsM L') rfl rfl (.at rfl) rfl (.at rfl) (.at rfl) mb_49 rfl (entsM_len L') (by rw [entsM_find, if_neg hno]) ?_
              refine Run.nil ?_
              exact RunT.done (by kernel_rfl) (by first | exact WP.keep (hm b51 b52) (by repeat (first | exact trivial | refine ⟨rfl, ?_⟩)) (by repeat (first | exact HSub.nil | refine HSub.keep ?_ | refine HSub.dead ?_)) | exact LP.keep (hm b51 b52) (by repeat (first | exact trivial | refine ⟨rfl, ?_⟩)) (by repeat (first | exact HSub.nil | refine HSub.keep ?_ | refine HSub.dead ?_)))
            · skip
              refine Run.append rfl rfl rfl (.at rfl) rfl el_26 (.at rfl) (.own (At.one rfl) rfl rfl) rfl (Nat.le_refl _) (by omega) (by omega) (by omega) (fun b52 => ?_)
              refine Run.nil ?_
              refine RunT.two 1 6 (by kernel_rfl) ?_ ?_
              · skip
                refine Run.loads rfl rfl rfl (.at rfl) (place_adr rfl) ag_44_9 rfl rfl ?_
                refine Run.nil ?_
                refine RunT.one 6 (by kernel_rfl) ?_
                refine Run.assign rfl rfl rfl (.at rfl) ?_
                refine Run.nil ?_
                refine RunT.one 7 (by kernel_rfl) ?_
                refine Run.mapUpdate (.arr 3 3 (.arr 3 1 (.int .i64))) (timesM p (L.getD i M3.O) (ms.getD k M3.O)).l (entsM L') rfl rfl (.at rfl) rfl (.at rfl) (.at rfl) mb_49 rfl (entsM_len L') (by rw [entsM_find, if_neg hno]) ?_
                refine Run.nil ?_
                exact RunT.done (by kernel_rfl) (by first | exact WP.keep (hm b51 b52) (by repeat (first | exact trivial | refine ⟨rfl, ?_⟩)) (by repeat (first | exact HSub.nil | refine HSub.keep ?_ | refine HSub.dead ?_)) | exact LP.keep (hm b51 b52) (by repeat (first | exact trivial | refine ⟨rfl, ?_⟩)) (by repeat (first | exact HSub.nil | refine HSub.keep ?_ | refine HSub.dead ?_)))
              · skip
                refine Run.assign rfl rfl rfl (.at rfl) ?_
                refine Run.nil ?_
                refine RunT.one 1 (by kernel_rfl) ?_
                refine Run.loads rfl rfl rfl (.at rfl) (place_adr rfl) ag_44_9 rfl rfl ?_
                refine Run.nil ?_
                refine RunT.one 7 (by kernel_rfl) ?_
                refine Run.mapUpdate (.arr 3 3 (.arr 3 1 (.int .i64))) (timesM p (L.getD i M3.O) (ms.getD k M3.O)).l (entsM L') rfl rfl (.at rfl) rfl (.at rfl) (.at rfl) mb_49 rfl (entsM_len L') (by rw [entsM_find, if_neg hno]) ?_
                refine Run.nil ?_
                exact RunT.done (by kernel_rfl) (by first | exact WP.keep (hm b51 b52) (by repeat (first | exact trivial | refine ⟨rfl, ?_⟩)) (by repeat (first | exact HSub.nil | refine HSub.keep ?_ | refine HSub.dead ?_)) | exact LP.keep (hm b51 b52) (by repeat (first | exact trivial | refine ⟨rfl, ?_⟩)) (by repeat (first | exact HSub.nil | refine HSub.keep ?_ | refine HSub.dead ?_)))
      intro b51 b52
      refine WP.region (l := [0, 1]) rfl ?_
      refine Run.add rfl rfl rfl (.at rfl) (.at rfl) (by omega) ?_
      refine Run.move rfl rfl rfl (.at rfl) ?_
      refine Run.nil ?_
      have h := ih (k + 1) b52 bm (L' ++ [timesM p (L.getD i M3.O) (ms.getD k M3.O)]) (by omega) hnext.symm
      rw [List.length_append, List.length_singleton, entsM_snoc, cs9_append] at h
      refine LP.hp (H' := [[(b52, cs9 L' ++ cs9 [timesM p (L.getD i M3.O) (ms.getD k M3.O)])], [(bm, .mark :: mapC KM (entsM L' ++ [((timesM p (L.getD i M3.O) (ms.getD k M3.O)).l, .bool true)]))], _, _, _]) (by
        show [[(b52, (cs9 L').take (L'.length * 9) ++ _)], _, _, _, _] = _
        rw [htk]
        rfl) ?_
      exact LP.keep h (by repeat (first | exact trivial | refine ⟨rfl, ?_⟩)) (by repeat (first | exact HSub.nil | refine HSub.keep ?_ | refine HSub.dead ?_))
    · have hyes : timesM p (L.getD i M3.O) (ms.getD k M3.O) ∈ L' := by simpa using hc3
      have hadd : addM p (L.getD i M3.O) L' (ms.getD k M3.O) = L' := by unfold addM; rw [if_pos hyes]
      rw [hadd] at hnext
      refine WP.skip ?_
      refine WP.region (l := [0, 1]) rfl ?_
      refine Run.add rfl rfl rfl (.at rfl) (.at rfl) (by omega) ?_
      refine Run.move rfl rfl rfl (.at rfl) ?_
      refine Run.nil ?_
      exact LP.keep (ih (k + 1) bL bm L' (by omega) hnext.symm) (by repeat (first | exact trivial | refine ⟨rfl, ?_⟩)) (by repeat (first | exact HSub.nil | refine HSub.keep ?_ | refine HSub.dead ?_))
theorem l_implGrp0 (hp : IsP p) (hn : n ≤ 8) (hl : ms.length = n) (hm : irL p ms) {res : Option (List M3)}
    (hQ : ∀ (bL : Nat) (L' : List M3), res = some L' → L'.length ≤ 200 → Q (.exit 0) ⟨[(7, .own 0 bL 9 0 L'.length L'.length true)], [[(bL, cs9 L')], [], [], [], []]⟩)
    (hR : res = none → Q .ret ⟨[(4, .int .i64 0), (5, .int .i64 3)], [[], [], [], [], []]⟩) :
    ∀ (f i bL bm : Nat) (L : List M3), i + f = 201 → L.length ≤ 200 → i ≤ L.length → irL p L → grpGo p ms f i L = res →
      LP C (nav Try.f9.body.get! [1, 1, 1, 0, 1, 0, 0]) Q ⟨[(0, .int .i64 p), (1, .imm (cs9 ms) n), (7, .own 0 bL 9 0 L.length L.length true), (8, .mp 1 bm), (9, .int .i64 i)], [[(bL, cs9 L)], [(bm, .mark :: mapC KM (entsM L))], [], [], []]⟩ := by
  intro f
  induction f with
  | zero => intro i bL bm L h1 h2 h3; omega
  | succ f ih =>
    intro i bL bm L hf h200 hi hL hres
    simp only [grpGo] at hres
    by_cases hlt : i < L.length
    · rw [if_pos hlt] at hres
      have hle := roundM_le p (L.getD i M3.O) ms L
      refine LP.round ?_
      refine WP.seq ?_
      refine WP.seq (WP.region (l := [0, 1, 2, 3]) rfl ?_)
      refine Run.move rfl rfl rfl (.at rfl) ?_
      refine Run.move rfl rfl rfl (.at rfl) ?_
      refine Run.len rfl rfl rfl (.at rfl) is_26 rfl ?_
      refine Run.int rfl rfl rfl (.at rfl) (.at rfl) rfl ?_
      refine Run.nil ?_
      refine WP.cond_t (.at rfl) (by simp; omega) ?_
      refine WP.skip ?_
      refine WP.seq ?_
      refine WP.block ?_
      refine WP.seq ?_
      refine WP.seq (WP.region (l := [0, 1, 2]) rfl ?_)
      refine Run.move rfl rfl rfl (.at rfl) ?_
      refine Run.len rfl rfl rfl (.at rfl) is_26 rfl ?_
      refine Run.move rfl rfl rfl (.at rfl) ?_
      refine Run.nil ?_
      refine WP.block ?_
      refine WP.loop (LP.keep (l_implGrp1 hp hn hl hm hL hlt h200 (fun bL2 bm2 L2 hL2 => ?_) n 0 bL bm L (by omega) rfl) (by repeat (first | exact trivial | refine ⟨rfl, ?_⟩)) (by repeat (first | exact HSub.nil | refine HSub.keep ?_ | refine HSub.dead ?_)))
      refine WP.seq (WP.region (l := [0, 1, 2]) rfl ?_)
      refine Run.move rfl rfl rfl (.at rfl) ?_
      refine Run.len rfl rfl rfl (.at rfl) is_26 rfl ?_
      refine Run.int rfl rfl rfl (.at rfl) (.at rfl) rfl ?_
      refine Run.nil ?_
      refine WP.cond (.at rfl) (fun hc4 => ?_) (fun hc4 => ?_)
      · have h4 : 200 < L2.length := by simp at hc4; omega
        rw [← hL2, if_pos h4] at hres
        refine WP.seq (WP.region (l := [0, 1]) rfl ?_)
        refine Run.assign rfl rfl rfl (.at rfl) ?_
        refine Run.assign rfl rfl rfl (.at rfl) ?_
        refine Run.nil ?_
        exact WP.keep (WP.ret (hR hres.symm)) (by repeat (first | exact trivial | refine ⟨rfl, ?_⟩)) (by repeat (first | exact HSub.nil | refine HSub.keep ?_ | refine HSub.dead ?_))
      · have h4 : ¬ 200 < L2.length := by simp at hc4; omega
        rw [← hL2, if_neg h4] at hres
        refine WP.skip ?_
        refine WP.region (l := [0, 1, 2]) rfl ?_
        refine Run.move rfl rfl rfl (.at rfl) ?_
        refine Run.add rfl rfl rfl (.at rfl) (.at rfl) (by omega) ?_
        refine Run.assign rfl rfl rfl (.at rfl) ?_
        refine Run.nil ?_
        exact LP.keep (ih (i + 1) bL2 bm2 L2 (by omega) (by omega) (by rw [← hL2] at hle; omega) (by rw [hL2]; exact roundM_ir hp hL) hres) (by repeat (first | exact trivial | refine ⟨rfl, ?_⟩)) (by repeat (first | exact HSub.nil | refine HSub.keep ?_ | refine HSub.dead ?_))
    · rw [if_neg hlt] at hres
      refine LP.round ?_
      refine WP.seq ?_
      refine WP.seq (WP.region (l := [0, 1, 2, 3]) rfl ?_)
      refine Run.move rfl rfl rfl (.at rfl) ?_
      refine Run.move rfl rfl rfl (.at rfl) ?_
      refine Run.len rfl rfl rfl (.at rfl) is_26 rfl ?_
      refine Run.int rfl rfl rfl (.at rfl) (.at rfl) rfl ?_
      refine Run.nil ?_
      refine WP.cond_f (.at rfl) (by simp; omega) ?_
      exact WP.keep (WP.exit (hQ bL L hres.symm h200)) (by repeat (first | exact trivial | refine ⟨rfl, ?_⟩)) (by repeat (first | exact HSub.nil | refine HSub.keep ?_ | refine HSub.dead ?_))
def grpRes : Option (List M3) → AV
  | some L => .tup [.int .i64 L.length, .int .i64 0]
  | none => .tup [.int .i64 0, .int .i64 3]
theorem c_implGrp (p : Int) (ms : List M3) {n : Nat} (hn : n ≤ 2000000) (hl : ms.length = n) :
    Pure Try.prog 9 [.int .i64 p, .imm (cs9 ms) n] (if codeL p ms [] = 0 then grpRes (grpOf p ms) else .tup [.int .i64 0, .int .i64 (codeL p ms [])]) := by
  by_cases h : codeL p ms [] = 0
  · rw [if_pos h]
    obtain ⟨hp, hok, _, h8⟩ := codeL_ok h
    have hu : irL p [unitM] := by
      intro m hm
      simp only [List.mem_singleton] at hm
      subst hm
      exact unitM_ir hp
    refine Pure.body 5 (n := 59) (fn := Try.f9) (c := Try.f9.body.get!) fn_9 rfl nm_9 rfl rfl fun C => ?_
    refine WP.seq (WP.region (l := [0, 1]) rfl ?_)
    refine Run.assign rfl rfl rfl (.at rfl) ?_
    refine Run.assign rfl rfl rfl (.at rfl) ?_
    refine Run.nil ?_
    refine WP.seq ?_
    refine WP.seq (WP.region (l := [0, 1, 2, 3]) rfl ?_)
    refine Run.move rfl rfl rfl (.at rfl) ?_
    refine Run.move rfl rfl rfl (.at rfl) ?_
    refine Run.acts [] [] rfl rfl rfl (.at rfl) (.cons (.at rfl) (.cons (.at rfl) (.cons (.at rfl) .nil))) (.cons .refl (.cons .refl (.cons .nil .nil))) ((c_listCode p ms [] hn hl (k := 0) (by decide) rfl).acts) rfl rfl rfl (fun x H h => ?_) (fun x H h => ?_)
    · obtain ⟨rfl, rfl⟩ := h; exact ⟨rfl, by first | rfl | simp [cleanH, cs3_cl]; done | simp [cleanH, ints_cl]; done | simp [cleanH, cs3_cl, ints_cl]; done | simp [cleanH, cs9_cl]; done | simp [cleanH, cs9_cl, cs3_cl, ints_cl]; done⟩
    obtain ⟨rfl, rfl⟩ := h
    refine Run.assign rfl rfl rfl (.at rfl) ?_
    refine Run.nil ?_
    refine WP.seq (WP.region (l := [0, 1]) rfl ?_)
    refine Run.move rfl rfl rfl (.at rfl) ?_
    refine Run.int rfl rfl rfl (.at rfl) (.at rfl) rfl ?_
    refine Run.nil ?_
    refine WP.cond_f (.at rfl) (by rw [h]; rfl) ?_
    refine WP.skip ?_
    refine WP.seq (WP.draw mx_0 ?_)
    refine Drawn.calmE [] ?_
    refine DrawE.tree [0, 1, 2, 3, 4, 5, 6, 7] 8 rfl rfl (by kernel_rfl) (by kernel_rfl) rfl ?_
    intro f
    refine' RunT.cut2 ?_ ?_
    rotate_left
    · intro hm
      refine RunT.two 0 2 (by kernel_rfl) ?_ ?_
      · skip
        refine Run.call rfl rfl rfl (.at rfl) .nil (c_unit) ?_
        refine Run.nil ?_
        refine RunT.three 1 2 3 (by kernel_rfl) ?_ ?_ ?_
        · skip
          refine Run.buildSlice 0 rfl rfl rfl el_26 (by decide) (.cons (.at rfl) rfl .nil) rfl rfl (fun b20 => ?_)
          refine Run.nil ?_
          refine RunT.two 2 3 (by kernel_rfl) ?_ ?_
          · skip
            refine Run.makeMap 1 rfl rfl rfl (fun b21 => ?_)
            refine Run.nil ?_
            refine RunT.one 3 (by kernel_rfl) ?_
            refine Run.call rfl rfl rfl (.at rfl) .nil (c_unit) ?_
            refine Run.nil ?_
            refine RunT.two 4 6 (by kernel_rfl) ?_ ?_
            · skip
              refine Run.insert (.arr 3 3 (.arr 3 1 (.int .i64))) unitM.l [] rfl rfl (.at rfl) rfl (.at rfl) (.at rfl) mb_49 rfl (fun e he => by cases he) rfl ?_
              refine Run.nil ?_
              refine RunT.two 5 6 (by kernel_rfl) ?_ ?_
              · skip
                refine Run.move rfl rfl rfl (.at rfl) ?_
                refine Run.nil ?_
                refine RunT.one 6 (by kernel_rfl) ?_
                refine Run.assign rfl rfl rfl (.at rfl) ?_
                refine Run.nil ?_
                refine RunT.one 7 (by kernel_rfl) ?_
                refine Run.assign rfl rfl rfl (.at rfl) ?_
                refine Run.nil ?_
                exact RunT.done (by kernel_rfl) (WP.trim (fr' := [(0, _), (1, _), (7, _), (8, _)]) (H' := [_, _, _, _, _]) (hm b20 b21) ⟨rfl, rfl, rfl, rfl, trivial⟩ rfl)
              · skip
                refine Run.assign rfl rfl rfl (.at rfl) ?_
                refine Run.nil ?_
                refine RunT.one 5 (by kernel_rfl) ?_
                refine Run.move rfl rfl rfl (.at rfl) ?_
                refine Run.nil ?_
                refine RunT.one 7 (by kernel_rfl) ?_
                refine Run.assign rfl rfl rfl (.at rfl) ?_
                refine Run.nil ?_
                exact RunT.done (by kernel_rfl) (by first | exact WP.keep (hm b20 b21) (by repeat (first | exact trivial | refine ⟨rfl, ?_⟩)) (by repeat (first | exact HSub.nil | refine HSub.keep ?_ | refine HSub.dead ?_)) | exact LP.keep (hm b20 b21) (by repeat (first | exact trivial | refine ⟨rfl, ?_⟩)) (by repeat (first | exact HSub.nil | refine HSub.keep ?_ | refine HSub.dead ?_)))
            · skip
              refine Run.assign rfl rfl rfl (.at rfl) ?_
              refine Run.nil ?_
              refine RunT.one 4 (by kernel_rfl) ?_
              refine Run.insert (.arr 3 3 (.arr 3 1 (.int .i64))) unitM.l [] rfl rfl (.at rfl) rfl (.at rfl) (.at rfl) mb_49 rfl (fun e he => by cases he) rfl ?_
              refine Run.nil ?_
              refine RunT.one 5 (by kernel_rfl) ?_
              refine Run.move rfl rfl rfl (.at rfl) ?_
              refine Run.nil ?_
              refine RunT.one 7 (by kernel_rfl) ?_
              refine Run.assign rfl rfl rfl (.at rfl) ?_
              refine Run.nil ?_
              exact RunT.done (by kernel_rfl) (by first | exact WP.keep (hm b20 b21) (by repeat (first | exact trivial | refine ⟨rfl, ?_⟩)) (by repeat (first | exact HSub.nil | refine HSub.keep ?_ | refine HSub.dead ?_)) | exact LP.keep (hm b20 b21) (by repeat (first | exact trivial | refine ⟨rfl, ?_⟩)) (by repeat (first | exact HSub.nil | refine HSub.keep ?_ | refine HSub.dead ?_)))
          · skip
            refine Run.call rfl rfl rfl (.at rfl) .nil (c_unit) ?_
            refine Run.nil ?_
            refine RunT.two 2 6 (by kernel_rfl) ?_ ?_
            · skip
              refine Run.makeMap 1 rfl rfl rfl (fun b21 => ?_)
              refine Run.nil ?_
              refine RunT.two 4 6 (by kernel_rfl) ?_ ?_
              · skip
                refine Run.insert (.arr 3 3 (.arr 3 1 (.int .i64))) unitM.l [] rfl rfl (.at rfl) rfl (.at rfl) (.at rfl) mb_49 rfl (fun e he => by cases he) rfl ?_
                refine Run.nil ?_
                refine RunT.two 5 6 (by kernel_rfl) ?_ ?_
                · skip
                  refine Run.move rfl rfl rfl (.at rfl) ?_
                  refine Run.nil ?_
                  refine RunT.one 6 (by kernel_rfl) ?_
                  refine Run.assign rfl rfl rfl (.at rfl) ?_
                  refine Run.nil ?_
                  refine RunT.one 7 (by kernel_rfl) ?_
                  refine Run.assign rfl rfl rfl (.at rfl) ?_
                  refine Run.nil ?_
                  exact RunT.done (by kernel_rfl) (by first | exact WP.keep (hm b20 b21) (by repeat (first | exact trivial | refine ⟨rfl, ?_⟩)) (by repeat (first | exact HSub.nil | refine HSub.keep ?_ | refine HSub.dead ?_)) | exact LP.keep (hm b20 b21) (by repeat (first | exact trivial | refine ⟨rfl, ?_⟩)) (by repeat (first | exact HSub.nil | refine HSub.keep ?_ | refine HSub.dead ?_)))
                · skip
                  refine Run.assign rfl rfl rfl (.at rfl) ?_
                  refine Run.nil ?_
                  refine RunT.one 5 (by kernel_rfl) ?_
                  refine Run.move rfl rfl rfl (.at rfl) ?_
                  refine Run.nil ?_
                  refine RunT.one 7 (by kernel_rfl) ?_
                  refine Run.assign rfl rfl rfl (.at rfl) ?_
                  refine Run.nil ?_
                  exact RunT.done (by kernel_rfl) (by first | exact WP.keep (hm b20 b21) (by repeat (first | exact trivial | refine ⟨rfl, ?_⟩)) (by repeat (first | exact HSub.nil | refine HSub.keep ?_ | refine HSub.dead ?_)) | exact LP.keep (hm b20 b21) (by repeat (first | exact trivial | refine ⟨rfl, ?_⟩)) (by repeat (first | exact HSub.nil | refine HSub.keep ?_ | refine HSub.dead ?_)))
              · skip
                refine Run.assign rfl rfl rfl (.at rfl) ?_
                refine Run.nil ?_
                refine RunT.one 4 (by kernel_rfl) ?_
                refine Run.insert (.arr 3 3 (.arr 3 1 (.int .i64))) unitM.l [] rfl rfl (.at rfl) rfl (.at rfl) (.at rfl) mb_49 rfl (fun e he => by cases he) rfl ?_
                refine Run.nil ?_
                refine RunT.one 5 (by kernel_rfl) ?_
                refine Run.move rfl rfl rfl (.at rfl) ?_
                refine Run.nil ?_
                refine RunT.one 7 (by kernel_rfl) ?_
                refine Run.assign rfl rfl rfl (.at rfl) ?_
                refine Run.nil ?_
                exact RunT.done (by kernel_rfl) (by first | exact WP.keep (hm b20 b21) (by repeat (first | exact trivial | refine ⟨rfl, ?_⟩)) (by repeat (first | exact HSub.nil | refine HSub.keep ?_ | refine HSub.dead ?_)) | exact LP.keep (hm b20 b21) (by repeat (first | exact trivial | refine ⟨rfl, ?_⟩)) (by repeat (first | exact HSub.nil | refine HSub.keep ?_ | refine HSub.dead ?_)))
            · skip
              refine Run.assign rfl rfl rfl (.at rfl) ?_
              refine Run.nil ?_
              refine RunT.one 2 (by kernel_rfl) ?_
              refine Run.makeMap 1 rfl rfl rfl (fun b21 => ?_)
              refine Run.nil ?_
              refine RunT.one 4 (by kernel_rfl) ?_
              refine Run.insert (.arr 3 3 (.arr 3 1 (.int .i64))) unitM.l [] rfl rfl (.at rfl) rfl (.at rfl) (.at rfl) mb_49 rfl (fun e he => by cases he) rfl ?_
              refine Run.nil ?_
              refine RunT.one 5 (by kernel_rfl) ?_
              refine Run.move rfl rfl rfl (.at rfl) ?_
              refine Run.nil ?_
              refine RunT.one 7 (by kernel_rfl) ?_
              refine Run.assign rfl rfl rfl (.at rfl) ?_
              refine Run.nil ?_
              exact RunT.done (by kernel_rfl) (by first | exact WP.keep (hm b20 b21) (by repeat (first | exact trivial | refine ⟨rfl, ?_⟩)) (by repeat (first | exact HSub.nil | refine HSub.keep ?_ | refine HSub.dead ?_)) | exact LP.keep (hm b20 b21) (by repeat (first | exact trivial | refine ⟨rfl, ?_⟩)) (by repeat (first | exact HSub.nil | refine HSub.keep ?_ | refine HSub.dead ?_)))
        · skip
          refine Run.makeMap 1 rfl rfl rfl (fun b21 => ?_)
          refine Run.nil ?_
          refine RunT.two 1 3 (by kernel_rfl) ?_ ?_
          · skip
            refine Run.buildSlice 0 rfl rfl rfl el_26 (by decide) (.cons (.at rfl) rfl .nil) rfl rfl (fun b20 => ?_)
            refine Run.nil ?_
            refine RunT.one 3 (by kernel_rfl) ?_
            refine Run.call rfl rfl rfl (.at rfl) .nil (c_unit) ?_
            refine Run.nil ?_
            refine RunT.two 4 6 (by kernel_rfl) ?_ ?_
            · skip
              refine Run.insert (.arr 3 3 (.arr 3 1 (.int .i64))) unitM.l [] rfl rfl (.at rfl) rfl (.at rfl) (.at rfl) mb_49 rfl (fun e he => by cases he) rfl ?_
              refine Run.nil ?_
              refine RunT.two 5 6 (by kernel_rfl) ?_ ?_
              · skip
                refine Run.move rfl rfl rfl (.at rfl) ?_
                refine Run.nil ?_
                refine RunT.one 6 (by kernel_rfl) ?_
                refine Run.assign rfl rfl rfl (.at rfl) ?_
                refine Run.nil ?_
                refine RunT.one 7 (by kernel_rfl) ?_
                refine Run.assign rfl rfl rfl (.at rfl) ?_
                refine Run.nil ?_
                exact RunT.done (by kernel_rfl) (by first | exact WP.keep (hm b20 b21) (by repeat (first | exact trivial | refine ⟨rfl, ?_⟩)) (by repeat (first | exact HSub.nil | refine HSub.keep ?_ | refine HSub.dead ?_)) | exact LP.keep (hm b20 b21) (by repeat (first | exact trivial | refine ⟨rfl, ?_⟩)) (by repeat (first | exact HSub.nil | refine HSub.keep ?_ | refine HSub.dead ?_)))
              · skip
                refine Run.assign rfl rfl rfl (.at rfl) ?_
                refine Run.nil ?_
                refine RunT.one 5 (by kernel_rfl) ?_
                refine Run.move rfl rfl rfl (.at rfl) ?_
                refine Run.nil ?_
                refine RunT.one 7 (by kernel_rfl) ?_
                refine Run.assign rfl rfl rfl (.at rfl) ?_
                refine Run.nil ?_
                exact RunT.done (by kernel_rfl) (by first | exact WP.keep (hm b20 b21) (by repeat (first | exact trivial | refine ⟨rfl, ?_⟩)) (by repeat (first | exact HSub.nil | refine HSub.keep ?_ | refine HSub.dead ?_)) | exact LP.keep (hm b20 b21) (by repeat (first | exact trivial | refine ⟨rfl, ?_⟩)) (by repeat (first | exact HSub.nil | refine HSub.keep ?_ | refine HSub.dead ?_)))
            · skip
              refine Run.assign rfl rfl rfl (.at rfl) ?_
              refine Run.nil ?_
              refine RunT.one 4 (by kernel_rfl) ?_
              refine Run.insert (.arr 3 3 (.arr 3 1 (.int .i64))) unitM.l [] rfl rfl (.at rfl) rfl (.at rfl) (.at rfl) mb_49 rfl (fun e he => by cases he) rfl ?_
              refine Run.nil ?_
              refine RunT.one 5 (by kernel_rfl) ?_
              refine Run.move rfl rfl rfl (.at rfl) ?_
              refine Run.nil ?_
              refine RunT.one 7 (by kernel_rfl) ?_
              refine Run.assign rfl rfl rfl (.at rfl) ?_
              refine Run.nil ?_
              exact RunT.done (by kernel_rfl) (by first | exact WP.keep (hm b20 b21) (by repeat (first | exact trivial | refine ⟨rfl, ?_⟩)) (by repeat (first | exact HSub.nil | refine HSub.keep ?_ | refine HSub.dead ?_)) | exact LP.keep (hm b20 b21) (by repeat (first | exact trivial | refine ⟨rfl, ?_⟩)) (by repeat (first | exact HSub.nil | refine HSub.keep ?_ | refine HSub.dead ?_)))
          · skip
            refine Run.call rfl rfl rfl (.at rfl) .nil (c_unit) ?_
            refine Run.nil ?_
            refine RunT.two 1 4 (by kernel_rfl) ?_ ?_
            · skip
              refine Run.buildSlice 0 rfl rfl rfl el_26 (by decide) (.cons (.at rfl) rfl .nil) rfl rfl (fun b20 => ?_)
              refine Run.nil ?_
              refine RunT.two 4 6 (by kernel_rfl) ?_ ?_
              · skip
                refine Run.insert (.arr 3 3 (.arr 3 1 (.int .i64))) unitM.l [] rfl rfl (.at rfl) rfl (.at rfl) (.at rfl) mb_49 rfl (fun e he => by cases he) rfl ?_
                refine Run.nil ?_
                refine RunT.two 5 6 (by kernel_rfl) ?_ ?_
                · skip
                  refine Run.move rfl rfl rfl (.at rfl) ?_
                  refine Run.nil ?_
                  refine RunT.one 6 (by kernel_rfl) ?_
                  refine Run.assign rfl rfl rfl (.at rfl) ?_
                  refine Run.nil ?_
                  refine RunT.one 7 (by kernel_rfl) ?_
                  refine Run.assign rfl rfl rfl (.at rfl) ?_
                  refine Run.nil ?_
                  exact RunT.done (by kernel_rfl) (by first | exact WP.keep (hm b20 b21) (by repeat (first | exact trivial | refine ⟨rfl, ?_⟩)) (by repeat (first | exact HSub.nil | refine HSub.keep ?_ | refine HSub.dead ?_)) | exact LP.keep (hm b20 b21) (by repeat (first | exact trivial | refine ⟨rfl, ?_⟩)) (by repeat (first | exact HSub.nil | refine HSub.keep ?_ | refine HSub.dead ?_)))
                · skip
                  refine Run.assign rfl rfl rfl (.at rfl) ?_
                  refine Run.nil ?_
                  refine RunT.one 5 (by kernel_rfl) ?_
                  refine Run.move rfl rfl rfl (.at rfl) ?_
                  refine Run.nil ?_
                  refine RunT.one 7 (by kernel_rfl) ?_
                  refine Run.assign rfl rfl rfl (.at rfl) ?_
                  refine Run.nil ?_
                  exact RunT.done (by kernel_rfl) (by first | exact WP.keep (hm b20 b21) (by repeat (first | exact trivial | refine ⟨rfl, ?_⟩)) (by repeat (first | exact HSub.nil | refine HSub.keep ?_ | refine HSub.dead ?_)) | exact LP.keep (hm b20 b21) (by repeat (first | exact trivial | refine ⟨rfl, ?_⟩)) (by repeat (first | exact HSub.nil | refine HSub.keep ?_ | refine HSub.dead ?_)))
              · skip
                refine Run.assign rfl rfl rfl (.at rfl) ?_
                refine Run.nil ?_
                refine RunT.one 4 (by kernel_rfl) ?_
                refine Run.insert (.arr 3 3 (.arr 3 1 (.int .i64))) unitM.l [] rfl rfl (.at rfl) rfl (.at rfl) (.at rfl) mb_49 rfl (fun e he => by cases he) rfl ?_
                refine Run.nil ?_
                refine RunT.one 5 (by kernel_rfl) ?_
                refine Run.move rfl rfl rfl (.at rfl) ?_
                refine Run.nil ?_
                refine RunT.one 7 (by kernel_rfl) ?_
                refine Run.assign rfl rfl rfl (.at rfl) ?_
                refine Run.nil ?_
                exact RunT.done (by kernel_rfl) (by first | exact WP.keep (hm b20 b21) (by repeat (first | exact trivial | refine ⟨rfl, ?_⟩)) (by repeat (first | exact HSub.nil | refine HSub.keep ?_ | refine HSub.dead ?_)) | exact LP.keep (hm b20 b21) (by repeat (first | exact trivial | refine ⟨rfl, ?_⟩)) (by repeat (first | exact HSub.nil | refine HSub.keep ?_ | refine HSub.dead ?_)))
            · skip
              refine Run.insert (.arr 3 3 (.arr 3 1 (.int .i64))) unitM.l [] rfl rfl (.at rfl) rfl (.at rfl) (.at rfl) mb_49 rfl (fun e he => by cases he) rfl ?_
              refine Run.nil ?_
              refine RunT.two 1 5 (by kernel_rfl) ?_ ?_
              · skip
                refine Run.buildSlice 0 rfl rfl rfl el_26 (by decide) (.cons (.at rfl) rfl .nil) rfl rfl (fun b20 => ?_)
                refine Run.nil ?_
                refine RunT.two 5 6 (by kernel_rfl) ?_ ?_
                · skip
                  refine Run.move rfl rfl rfl (.at rfl) ?_
                  refine Run.nil ?_
                  refine RunT.one 6 (by kernel_rfl) ?_
                  refine Run.assign rfl rfl rfl (.at rfl) ?_
                  refine Run.nil ?_
                  refine RunT.one 7 (by kernel_rfl) ?_
                  refine Run.assign rfl rfl rfl (.at rfl) ?_
                  refine Run.nil ?_
                  exact RunT.done (by kernel_rfl) (by first | exact WP.keep (hm b20 b21) (by repeat (first | exact trivial | refine ⟨rfl, ?_⟩)) (by repeat (first | exact HSub.nil | refine HSub.keep ?_ | refine HSub.dead ?_)) | exact LP.keep (hm b20 b21) (by repeat (first | exact trivial | refine ⟨rfl, ?_⟩)) (by repeat (first | exact HSub.nil | refine HSub.keep ?_ | refine HSub.dead ?_)))
                · skip
                  refine Run.assign rfl rfl rfl (.at rfl) ?_
                  refine Run.nil ?_
                  refine RunT.one 5 (by kernel_rfl) ?_
                  refine Run.move rfl rfl rfl (.at rfl) ?_
                  refine Run.nil ?_
                  refine RunT.one 7 (by kernel_rfl) ?_
                  refine Run.assign rfl rfl rfl (.at rfl) ?_
                  refine Run.nil ?_
                  exact RunT.done (by kernel_rfl) (by first | exact WP.keep (hm b20 b21) (by repeat (first | exact trivial | refine ⟨rfl, ?_⟩)) (by repeat (first | exact HSub.nil | refine HSub.keep ?_ | refine HSub.dead ?_)) | exact LP.keep (hm b20 b21) (by repeat (first | exact trivial | refine ⟨rfl, ?_⟩)) (by repeat (first | exact HSub.nil | refine HSub.keep ?_ | refine HSub.dead ?_)))
              · skip
                refine Run.move rfl rfl rfl (.at rfl) ?_
                refine Run.nil ?_
                refine RunT.one 1 (by kernel_rfl) ?_
                refine Run.buildSlice 0 rfl rfl rfl el_26 (by decide) (.cons (.at rfl) rfl .nil) rfl rfl (fun b20 => ?_)
                refine Run.nil ?_
                refine RunT.one 6 (by kernel_rfl) ?_
                refine Run.assign rfl rfl rfl (.at rfl) ?_
                refine Run.nil ?_
                refine RunT.one 7 (by kernel_rfl) ?_
                refine Run.assign rfl rfl rfl (.at rfl) ?_
                refine Run.nil ?_
                exact RunT.done (by kernel_rfl) (by first | exact WP.keep (hm b20 b21) (by repeat (first | exact trivial | refine ⟨rfl, ?_⟩)) (by repeat (first | exact HSub.nil | refine HSub.keep ?_ | refine HSub.dead ?_)) | exact LP.keep (hm b20 b21) (by repeat (first | exact trivial | refine ⟨rfl, ?_⟩)) (by repeat (first | exact HSub.nil | refine HSub.keep ?_ | refine HSub.dead ?_)))
        · skip
          refine Run.call rfl rfl rfl (.at rfl) .nil (c_unit) ?_
          refine Run.nil ?_
          refine RunT.two 1 2 (by kernel_rfl) ?_ ?_
          · skip
            refine Run.buildSlice 0 rfl rfl rfl el_26 (by decide) (.cons (.at rfl) rfl .nil) rfl rfl (fun b20 => ?_)
            refine Run.nil ?_
            refine RunT.two 2 6 (by kernel_rfl) ?_ ?_
            · skip
              refine Run.makeMap 1 rfl rfl rfl (fun b21 => ?_)
              refine Run.nil ?_
              refine RunT.two 4 6 (by kernel_rfl) ?_ ?_
              · skip
                refine Run.insert (.arr 3 3 (.arr 3 1 (.int .i64))) unitM.l [] rfl rfl (.at rfl) rfl (.at rfl) (.at rfl) mb_49 rfl (fun e he => by cases he) rfl ?_
                refine Run.nil ?_
                refine RunT.two 5 6 (by kernel_rfl) ?_ ?_
                · skip
                  refine Run.move rfl rfl rfl (.at rfl) ?_
                  refine Run.nil ?_
                  refine RunT.one 6 (by kernel_rfl) ?_
                  refine Run.assign rfl rfl rfl (.at rfl) ?_
                  refine Run.nil ?_
                  refine RunT.one 7 (by kernel_rfl) ?_
                  refine Run.assign rfl rfl rfl (.at rfl) ?_
                  refine Run.nil ?_
                  exact RunT.done (by kernel_rfl) (by first | exact WP.keep (hm b20 b21) (by repeat (first | exact trivial | refine ⟨rfl, ?_⟩)) (by repeat (first | exact HSub.nil | refine HSub.keep ?_ | refine HSub.dead ?_)) | exact LP.keep (hm b20 b21) (by repeat (first | exact trivial | refine ⟨rfl, ?_⟩)) (by repeat (first | exact HSub.nil | refine HSub.keep ?_ | refine HSub.dead ?_)))
                · skip
                  refine Run.assign rfl rfl rfl (.at rfl) ?_
                  refine Run.nil ?_
                  refine RunT.one 5 (by kernel_rfl) ?_
                  refine Run.move rfl rfl rfl (.at rfl) ?_
                  refine Run.nil ?_
                  refine RunT.one 7 (by kernel_rfl) ?_
                  refine Run.assign rfl rfl rfl (.at rfl) ?_
                  refine Run.nil ?_
                  exact RunT.done (by kernel_rfl) (by first | exact WP.keep (hm b20 b21) (by repeat (first | exact trivial | refine ⟨rfl, ?_⟩)) (by repeat (first | exact HSub.nil | refine HSub.keep ?_ | refine HSub.dead ?_)) | exact LP.keep (hm b20 b21) (by repeat (first | exact trivial | refine ⟨rfl, ?_⟩)) (by repeat (first | exact HSub.nil | refine HSub.keep ?_ | refine HSub.dead ?_)))
              · skip
                refine Run.assign rfl rfl rfl (.at rfl) ?_
                refine Run.nil ?_
                refine RunT.one 4 (by kernel_rfl) ?_
                refine Run.insert (.arr 3 3 (.arr 3 1 (.int .i64))) unitM.l [] rfl rfl (.at rfl) rfl (.at rfl) (.at rfl) mb_49 rfl (fun e he => by cases he) rfl ?_
                refine Run.nil ?_
                refine RunT.one 5 (by kernel_rfl) ?_
                refine Run.move rfl rfl rfl (.at rfl) ?_
                refine Run.nil ?_
                refine RunT.one 7 (by kernel_rfl) ?_
                refine Run.assign rfl rfl rfl (.at rfl) ?_
                refine Run.nil ?_
                exact RunT.done (by kernel_rfl) (by first | exact WP.keep (hm b20 b21) (by repeat (first | exact trivial | refine ⟨rfl, ?_⟩)) (by repeat (first | exact HSub.nil | refine HSub.keep ?_ | refine HSub.dead ?_)) | exact LP.keep (hm b20 b21) (by repeat (first | exact trivial | refine ⟨rfl, ?_⟩)) (by repeat (first | exact HSub.nil | refine HSub.keep ?_ | refine HSub.dead ?_)))
            · skip
              refine Run.assign rfl rfl rfl (.at rfl) ?_
              refine Run.nil ?_
              refine RunT.one 2 (by kernel_rfl) ?_
              refine Run.makeMap 1 rfl rfl rfl (fun b21 => ?_)
              refine Run.nil ?_
              refine RunT.one 4 (by kernel_rfl) ?_
              refine Run.insert (.arr 3 3 (.arr 3 1 (.int .i64))) unitM.l [] rfl rfl (.at rfl) rfl (.at rfl) (.at rfl) mb_49 rfl (fun e he => by cases he) rfl ?_
              refine Run.nil ?_
              refine RunT.one 5 (by kernel_rfl) ?_
              refine Run.move rfl rfl rfl (.at rfl) ?_
              refine Run.nil ?_
              refine RunT.one 7 (by kernel_rfl) ?_
              refine Run.assign rfl rfl rfl (.at rfl) ?_
              refine Run.nil ?_
              exact RunT.done (by kernel_rfl) (by first | exact WP.keep (hm b20 b21) (by repeat (first | exact trivial | refine ⟨rfl, ?_⟩)) (by repeat (first | exact HSub.nil | refine HSub.keep ?_ | refine HSub.dead ?_)) | exact LP.keep (hm b20 b21) (by repeat (first | exact trivial | refine ⟨rfl, ?_⟩)) (by repeat (first | exact HSub.nil | refine HSub.keep ?_ | refine HSub.dead ?_)))
          · skip
            refine Run.makeMap 1 rfl rfl rfl (fun b21 => ?_)
            refine Run.nil ?_
            refine RunT.two 1 4 (by kernel_rfl) ?_ ?_
            · skip
              refine Run.buildSlice 0 rfl rfl rfl el_26 (by decide) (.cons (.at rfl) rfl .nil) rfl rfl (fun b20 => ?_)
              refine Run.nil ?_
              refine RunT.two 4 6 (by kernel_rfl) ?_ ?_
              · skip
                refine Run.insert (.arr 3 3 (.arr 3 1 (.int .i64))) unitM.l [] rfl rfl (.at rfl) rfl (.at rfl) (.at rfl) mb_49 rfl (fun e he => by cases he) rfl ?_
                refine Run.nil ?_
                refine RunT.two 5 6 (by kernel_rfl) ?_ ?_
                · skip
                  refine Run.move rfl rfl rfl (.at rfl) ?_
                  refine Run.nil ?_
                  refine RunT.one 6 (by kernel_rfl) ?_
                  refine Run.assign rfl rfl rfl (.at rfl) ?_
                  refine Run.nil ?_
                  refine RunT.one 7 (by kernel_rfl) ?_
                  refine Run.assign rfl rfl rfl (.at rfl) ?_
                  refine Run.nil ?_
                  exact RunT.done (by kernel_rfl) (by first | exact WP.keep (hm b20 b21) (by repeat (first | exact trivial | refine ⟨rfl, ?_⟩)) (by repeat (first | exact HSub.nil | refine HSub.keep ?_ | refine HSub.dead ?_)) | exact LP.keep (hm b20 b21) (by repeat (first | exact trivial | refine ⟨rfl, ?_⟩)) (by repeat (first | exact HSub.nil | refine HSub.keep ?_ | refine HSub.dead ?_)))
                · skip
                  refine Run.assign rfl rfl rfl (.at rfl) ?_
                  refine Run.nil ?_
                  refine RunT.one 5 (by kernel_rfl) ?_
                  refine Run.move rfl rfl rfl (.at rfl) ?_
                  refine Run.nil ?_
                  refine RunT.one 7 (by kernel_rfl) ?_
                  refine Run.assign rfl rfl rfl (.at rfl) ?_
                  refine Run.nil ?_
                  exact RunT.done (by kernel_rfl) (by first | exact WP.keep (hm b20 b21) (by repeat (first | exact trivial | refine ⟨rfl, ?_⟩)) (by repeat (first | exact HSub.nil | refine HSub.keep ?_ | refine HSub.dead ?_)) | exact LP.keep (hm b20 b21) (by repeat (first | exact trivial | refine ⟨rfl, ?_⟩)) (by repeat (first | exact HSub.nil | refine HSub.keep ?_ | refine HSub.dead ?_)))
              · skip
                refine Run.assign rfl rfl rfl (.at rfl) ?_
                refine Run.nil ?_
                refine RunT.one 4 (by kernel_rfl) ?_
                refine Run.insert (.arr 3 3 (.arr 3 1 (.int .i64))) unitM.l [] rfl rfl (.at rfl) rfl (.at rfl) (.at rfl) mb_49 rfl (fun e he => by cases he) rfl ?_
                refine Run.nil ?_
                refine RunT.one 5 (by kernel_rfl) ?_
                refine Run.move rfl rfl rfl (.at rfl) ?_
                refine Run.nil ?_
                refine RunT.one 7 (by kernel_rfl) ?_
                refine Run.assign rfl rfl rfl (.at rfl) ?_
                refine Run.nil ?_
                exact RunT.done (by kernel_rfl) (by first | exact WP.keep (hm b20 b21) (by repeat (first | exact trivial | refine ⟨rfl, ?_⟩)) (by repeat (first | exact HSub.nil | refine HSub.keep ?_ | refine HSub.dead ?_)) | exact LP.keep (hm b20 b21) (by repeat (first | exact trivial | refine ⟨rfl, ?_⟩)) (by repeat (first | exact HSub.nil | refine HSub.keep ?_ | refine HSub.dead ?_)))
            · skip
              refine Run.insert (.arr 3 3 (.arr 3 1 (.int .i64))) unitM.l [] rfl rfl (.at rfl) rfl (.at rfl) (.at rfl) mb_49 rfl (fun e he => by cases he) rfl ?_
              refine Run.nil ?_
              refine RunT.two 1 5 (by kernel_rfl) ?_ ?_
              · skip
                refine Run.buildSlice 0 rfl rfl rfl el_26 (by decide) (.cons (.at rfl) rfl .nil) rfl rfl (fun b20 => ?_)
                refine Run.nil ?_
                refine RunT.two 5 6 (by kernel_rfl) ?_ ?_
                · skip
                  refine Run.move rfl rfl rfl (.at rfl) ?_
                  refine Run.nil ?_
                  refine RunT.one 6 (by kernel_rfl) ?_
                  refine Run.assign rfl rfl rfl (.at rfl) ?_
                  refine Run.nil ?_
                  refine RunT.one 7 (by kernel_rfl) ?_
                  refine Run.assign rfl rfl rfl (.at rfl) ?_
                  refine Run.nil ?_
                  exact RunT.done (by kernel_rfl) (by first | exact WP.keep (hm b20 b21) (by repeat (first | exact trivial | refine ⟨rfl, ?_⟩)) (by repeat (first | exact HSub.nil | refine HSub.keep ?_ | refine HSub.dead ?_)) | exact LP.keep (hm b20 b21) (by repeat (first | exact trivial | refine ⟨rfl, ?_⟩)) (by repeat (first | exact HSub.nil | refine HSub.keep ?_ | refine HSub.dead ?_)))
                · skip
                  refine Run.assign rfl rfl rfl (.at rfl) ?_
                  refine Run.nil ?_
                  refine RunT.one 5 (by kernel_rfl) ?_
                  refine Run.move rfl rfl rfl (.at rfl) ?_
                  refine Run.nil ?_
                  refine RunT.one 7 (by kernel_rfl) ?_
                  refine Run.assign rfl rfl rfl (.at rfl) ?_
                  refine Run.nil ?_
                  exact RunT.done (by kernel_rfl) (by first | exact WP.keep (hm b20 b21) (by repeat (first | exact trivial | refine ⟨rfl, ?_⟩)) (by repeat (first | exact HSub.nil | refine HSub.keep ?_ | refine HSub.dead ?_)) | exact LP.keep (hm b20 b21) (by repeat (first | exact trivial | refine ⟨rfl, ?_⟩)) (by repeat (first | exact HSub.nil | refine HSub.keep ?_ | refine HSub.dead ?_)))
              · skip
                refine Run.move rfl rfl rfl (.at rfl) ?_
                refine Run.nil ?_
                refine RunT.one 1 (by kernel_rfl) ?_
                refine Run.buildSlice 0 rfl rfl rfl el_26 (by decide) (.cons (.at rfl) rfl .nil) rfl rfl (fun b20 => ?_)
                refine Run.nil ?_
                refine RunT.one 6 (by kernel_rfl) ?_
                refine Run.assign rfl rfl rfl (.at rfl) ?_
                refine Run.nil ?_
                refine RunT.one 7 (by kernel_rfl) ?_
                refine Run.assign rfl rfl rfl (.at rfl) ?_
                refine Run.nil ?_
                exact RunT.done (by kernel_rfl) (by first | exact WP.keep (hm b20 b21) (by repeat (first | exact trivial | refine ⟨rfl, ?_⟩)) (by repeat (first | exact HSub.nil | refine HSub.keep ?_ | refine HSub.dead ?_)) | exact LP.keep (hm b20 b21) (by repeat (first | exact trivial | refine ⟨rfl, ?_⟩)) (by repeat (first | exact HSub.nil | refine HSub.keep ?_ | refine HSub.dead ?_)))
      · skip
        refine Run.makeMap 1 rfl rfl rfl (fun b21 => ?_)
        refine Run.nil ?_
        refine RunT.one 0 (by kernel_rfl) ?_
        refine Run.call rfl rfl rfl (.at rfl) .nil (c_unit) ?_
        refine Run.nil ?_
        refine RunT.two 1 3 (by kernel_rfl) ?_ ?_
        · skip
          refine Run.buildSlice 0 rfl rfl rfl el_26 (by decide) (.cons (.at rfl) rfl .nil) rfl rfl (fun b20 => ?_)
          refine Run.nil ?_
          refine RunT.one 3 (by kernel_rfl) ?_
          refine Run.call rfl rfl rfl (.at rfl) .nil (c_unit) ?_
          refine Run.nil ?_
          refine RunT.two 4 6 (by kernel_rfl) ?_ ?_
          · skip
            refine Run.insert (.arr 3 3 (.arr 3 1 (.int .i64))) unitM.l [] rfl rfl (.at rfl) rfl (.at rfl) (.at rfl) mb_49 rfl (fun e he => by cases he) rfl ?_
            refine Run.nil ?_
            refine RunT.two 5 6 (by kernel_rfl) ?_ ?_
            · skip
              refine Run.move rfl rfl rfl (.at rfl) ?_
              refine Run.nil ?_
              refine RunT.one 6 (by kernel_rfl) ?_
              refine Run.assign rfl rfl rfl (.at rfl) ?_
              refine Run.nil ?_
              refine RunT.one 7 (by kernel_rfl) ?_
              refine Run.assign rfl rfl rfl (.at rfl) ?_
              refine Run.nil ?_
              exact RunT.done (by kernel_rfl) (by first | exact WP.keep (hm b20 b21) (by repeat (first | exact trivial | refine ⟨rfl, ?_⟩)) (by repeat (first | exact HSub.nil | refine HSub.keep ?_ | refine HSub.dead ?_)) | exact LP.keep (hm b20 b21) (by repeat (first | exact trivial | refine ⟨rfl, ?_⟩)) (by repeat (first | exact HSub.nil | refine HSub.keep ?_ | refine HSub.dead ?_)))
            · skip
              refine Run.assign rfl rfl rfl (.at rfl) ?_
              refine Run.nil ?_
              refine RunT.one 5 (by kernel_rfl) ?_
              refine Run.move rfl rfl rfl (.at rfl) ?_
              refine Run.nil ?_
              refine RunT.one 7 (by kernel_rfl) ?_
              refine Run.assign rfl rfl rfl (.at rfl) ?_
              refine Run.nil ?_
              exact RunT.done (by kernel_rfl) (by first | exact WP.keep (hm b20 b21) (by repeat (first | exact trivial | refine ⟨rfl, ?_⟩)) (by repeat (first | exact HSub.nil | refine HSub.keep ?_ | refine HSub.dead ?_)) | exact LP.keep (hm b20 b21) (by repeat (first | exact trivial | refine ⟨rfl, ?_⟩)) (by repeat (first | exact HSub.nil | refine HSub.keep ?_ | refine HSub.dead ?_)))
          · skip
            refine Run.assign rfl rfl rfl (.at rfl) ?_
            refine Run.nil ?_
            refine RunT.one 4 (by kernel_rfl) ?_
            refine Run.insert (.arr 3 3 (.arr 3 1 (.int .i64))) unitM.l [] rfl rfl (.at rfl) rfl (.at rfl) (.at rfl) mb_49 rfl (fun e he => by cases he) rfl ?_
            refine Run.nil ?_
            refine RunT.one 5 (by kernel_rfl) ?_
            refine Run.move rfl rfl rfl (.at rfl) ?_
            refine Run.nil ?_
            refine RunT.one 7 (by kernel_rfl) ?_
            refine Run.assign rfl rfl rfl (.at rfl) ?_
            refine Run.nil ?_
            exact RunT.done (by kernel_rfl) (by first | exact WP.keep (hm b20 b21) (by repeat (first | exact trivial | refine ⟨rfl, ?_⟩)) (by repeat (first | exact HSub.nil | refine HSub.keep ?_ | refine HSub.dead ?_)) | exact LP.keep (hm b20 b21) (by repeat (first | exact trivial | refine ⟨rfl, ?_⟩)) (by repeat (first | exact HSub.nil | refine HSub.keep ?_ | refine HSub.dead ?_)))
        · skip
          refine Run.call rfl rfl rfl (.at rfl) .nil (c_unit) ?_
          refine Run.nil ?_
          refine RunT.two 1 4 (by kernel_rfl) ?_ ?_
          · skip
            refine Run.buildSlice 0 rfl rfl rfl el_26 (by decide) (.cons (.at rfl) rfl .nil) rfl rfl (fun b20 => ?_)
            refine Run.nil ?_
            refine RunT.two 4 6 (by kernel_rfl) ?_ ?_
            · skip
              refine Run.insert (.arr 3 3 (.arr 3 1 (.int .i64))) unitM.l [] rfl rfl (.at rfl) rfl (.at rfl) (.at rfl) mb_49 rfl (fun e he => by cases he) rfl ?_
              refine Run.nil ?_
              refine RunT.two 5 6 (by kernel_rfl) ?_ ?_
              · skip
                refine Run.move rfl rfl rfl (.at rfl) ?_
                refine Run.nil ?_
                refine RunT.one 6 (by kernel_rfl) ?_
                refine Run.assign rfl rfl rfl (.at rfl) ?_
                refine Run.nil ?_
                refine RunT.one 7 (by kernel_rfl) ?_
                refine Run.assign rfl rfl rfl (.at rfl) ?_
                refine Run.nil ?_
                exact RunT.done (by kernel_rfl) (by first | exact WP.keep (hm b20 b21) (by repeat (first | exact trivial | refine ⟨rfl, ?_⟩)) (by repeat (first | exact HSub.nil | refine HSub.keep ?_ | refine HSub.dead ?_)) | exact LP.keep (hm b20 b21) (by repeat (first | exact trivial | refine ⟨rfl, ?_⟩)) (by repeat (first | exact HSub.nil | refine HSub.keep ?_ | refine HSub.dead ?_)))
              · skip
                refine Run.assign rfl rfl rfl (.at rfl) ?_
                refine Run.nil ?_
                refine RunT.one 5 (by kernel_rfl) ?_
                refine Run.move rfl rfl rfl (.at rfl) ?_
                refine Run.nil ?_
                refine RunT.one 7 (by kernel_rfl) ?_
                refine Run.assign rfl rfl rfl (.at rfl) ?_
                refine Run.nil ?_
                exact RunT.done (by kernel_rfl) (by first | exact WP.keep (hm b20 b21) (by repeat (first | exact trivial | refine ⟨rfl, ?_⟩)) (by repeat (first | exact HSub.nil | refine HSub.keep ?_ | refine HSub.dead ?_)) | exact LP.keep (hm b20 b21) (by repeat (first | exact trivial | refine ⟨rfl, ?_⟩)) (by repeat (first | exact HSub.nil | refine HSub.keep ?_ | refine HSub.dead ?_)))
            · skip
              refine Run.assign rfl rfl rfl (.at rfl) ?_
              refine Run.nil ?_
              refine RunT.one 4 (by kernel_rfl) ?_
              refine Run.insert (.arr 3 3 (.arr 3 1 (.int .i64))) unitM.l [] rfl rfl (.at rfl) rfl (.at rfl) (.at rfl) mb_49 rfl (fun e he => by cases he) rfl ?_
              refine Run.nil ?_
              refine RunT.one 5 (by kernel_rfl) ?_
              refine Run.move rfl rfl rfl (.at rfl) ?_
              refine Run.nil ?_
              refine RunT.one 7 (by kernel_rfl) ?_
              refine Run.assign rfl rfl rfl (.at rfl) ?_
              refine Run.nil ?_
              exact RunT.done (by kernel_rfl) (by first | exact WP.keep (hm b20 b21) (by repeat (first | exact trivial | refine ⟨rfl, ?_⟩)) (by repeat (first | exact HSub.nil | refine HSub.keep ?_ | refine HSub.dead ?_)) | exact LP.keep (hm b20 b21) (by repeat (first | exact trivial | refine ⟨rfl, ?_⟩)) (by repeat (first | exact HSub.nil | refine HSub.keep ?_ | refine HSub.dead ?_)))
          · skip
            refine Run.insert (.arr 3 3 (.arr 3 1 (.int .i64))) unitM.l [] rfl rfl (.at rfl) rfl (.at rfl) (.at rfl) mb_49 rfl (fun e he => by cases he) rfl ?_
            refine Run.nil ?_
            refine RunT.two 1 5 (by kernel_rfl) ?_ ?_
            · skip
              refine Run.buildSlice 0 rfl rfl rfl el_26 (by decide) (.cons (.at rfl) rfl .nil) rfl rfl (fun b20 => ?_)
              refine Run.nil ?_
              refine RunT.two 5 6 (by kernel_rfl) ?_ ?_
              · skip
                refine Run.move rfl rfl rfl (.at rfl) ?_
                refine Run.nil ?_
                refine RunT.one 6 (by kernel_rfl) ?_
                refine Run.assign rfl rfl rfl (.at rfl) ?_
                refine Run.nil ?_
                refine RunT.one 7 (by kernel_rfl) ?_
                refine Run.assign rfl rfl rfl (.at rfl) ?_
                refine Run.nil ?_
                exact RunT.done (by kernel_rfl) (by first | exact WP.keep (hm b20 b21) (by repeat (first | exact trivial | refine ⟨rfl, ?_⟩)) (by repeat (first | exact HSub.nil | refine HSub.keep ?_ | refine HSub.dead ?_)) | exact LP.keep (hm b20 b21) (by repeat (first | exact trivial | refine ⟨rfl, ?_⟩)) (by repeat (first | exact HSub.nil | refine HSub.keep ?_ | refine HSub.dead ?_)))
              · skip
                refine Run.assign rfl rfl rfl (.at rfl) ?_
                refine Run.nil ?_
                refine RunT.one 5 (by kernel_rfl) ?_
                refine Run.move rfl rfl rfl (.at rfl) ?_
                refine Run.nil ?_
                refine RunT.one 7 (by kernel_rfl) ?_
                refine Run.assign rfl rfl rfl (.at rfl) ?_
                refine Run.nil ?_
                exact RunT.done (by kernel_rfl) (by first | exact WP.keep (hm b20 b21) (by repeat (first | exact trivial | refine ⟨rfl, ?_⟩)) (by repeat (first | exact HSub.nil | refine HSub.keep ?_ | refine HSub.dead ?_)) | exact LP.keep (hm b20 b21) (by repeat (first | exact trivial | refine ⟨rfl, ?_⟩)) (by repeat (first | exact HSub.nil | refine HSub.keep ?_ | refine HSub.dead ?_)))
            · skip
              refine Run.move rfl rfl rfl (.at rfl) ?_
              refine Run.nil ?_
              refine RunT.one 1 (by kernel_rfl) ?_
              refine Run.buildSlice 0 rfl rfl rfl el_26 (by decide) (.cons (.at rfl) rfl .nil) rfl rfl (fun b20 => ?_)
              refine Run.nil ?_
              refine RunT.one 6 (by kernel_rfl) ?_
              refine Run.assign rfl rfl rfl (.at rfl) ?_
              refine Run.nil ?_
              refine RunT.one 7 (by kernel_rfl) ?_
              refine Run.assign rfl rfl rfl (.at rfl) ?_
              refine Run.nil ?_
              exact RunT.done (by kernel_rfl) (by first | exact WP.keep (hm b20 b21) (by repeat (first | exact trivial | refine ⟨rfl, ?_⟩)) (by repeat (first | exact HSub.nil | refine HSub.keep ?_ | refine HSub.dead ?_)) | exact LP.keep (hm b20 b21) (by repeat (first | exact trivial | refine ⟨rfl, ?_⟩)) (by repeat (first | exact HSub.nil | refine HSub.keep ?_ | refine HSub.dead ?_)))
    intro b20 b21
    refine WP.seq ?_
    refine WP.seq (WP.region (l := [0]) rfl ?_)
    refine Run.assign rfl rfl rfl (.at rfl) ?_
    refine Run.nil ?_
    refine WP.block ?_
    refine WP.weak 7 rfl (fun _ _ _ h => own_open (id' := 0) (Nat.le_refl _) h) ?_
    refine WP.loop (LP.keep (l_implGrp0 (ms := ms) (res := grpOf p ms) hp (by omega) hl (mapsOk_ir hok) (fun bL L' hr h200 => ?_) (fun hr => ?_) 201 0 b20 b21 [unitM] rfl (by decide) (by decide) hu rfl) (by repeat (first | exact trivial | refine ⟨rfl, ?_⟩)) (by repeat (first | exact HSub.nil | refine HSub.keep ?_ | refine HSub.dead ?_)))
    rotate_left
    · exact Ends.pure (.tmp rfl (.tmp rfl .nil)) (by rw [hr]; rfl)
    refine WP.seq (WP.region (l := [0, 1, 2, 3]) rfl ?_)
    refine Run.move rfl rfl rfl (.at rfl) ?_
    refine Run.len rfl rfl rfl (.at rfl) is_26 rfl ?_
    refine Run.assign rfl rfl rfl (.at rfl) ?_
    refine Run.assign rfl rfl rfl (.at rfl) ?_
    refine Run.nil ?_
    refine WP.ret ?_
    exact Ends.pure (.tmp rfl (.tmp rfl .nil)) (by rw [hr]; rfl)
  · rw [if_neg h]
    refine Pure.body 5 (n := 59) (fn := Try.f9) (c := Try.f9.body.get!) fn_9 rfl nm_9 rfl rfl fun C => ?_
    refine WP.seq (WP.region (l := [0, 1]) rfl ?_)
    refine Run.assign rfl rfl rfl (.at rfl) ?_
    refine Run.assign rfl rfl rfl (.at rfl) ?_
    refine Run.nil ?_
    refine WP.seq ?_
    refine WP.seq (WP.region (l := [0, 1, 2, 3]) rfl ?_)
    refine Run.move rfl rfl rfl (.at rfl) ?_
    refine Run.move rfl rfl rfl (.at rfl) ?_
    refine Run.acts [] [] rfl rfl rfl (.at rfl) (.cons (.at rfl) (.cons (.at rfl) (.cons (.at rfl) .nil))) (.cons .refl (.cons .refl (.cons .nil .nil))) ((c_listCode p ms [] hn hl (k := 0) (by decide) rfl).acts) rfl rfl rfl (fun x H h => ?_) (fun x H h => ?_)
    · obtain ⟨rfl, rfl⟩ := h; exact ⟨rfl, by first | rfl | simp [cleanH, cs3_cl]; done | simp [cleanH, ints_cl]; done | simp [cleanH, cs3_cl, ints_cl]; done | simp [cleanH, cs9_cl]; done | simp [cleanH, cs9_cl, cs3_cl, ints_cl]; done⟩
    obtain ⟨rfl, rfl⟩ := h
    refine Run.assign rfl rfl rfl (.at rfl) ?_
    refine Run.nil ?_
    refine WP.seq (WP.region (l := [0, 1]) rfl ?_)
    refine Run.move rfl rfl rfl (.at rfl) ?_
    refine Run.int rfl rfl rfl (.at rfl) (.at rfl) rfl ?_
    refine Run.nil ?_
    refine WP.cond_t (.at rfl) (by simpa using h) ?_
    refine WP.seq (WP.region (l := [0, 1, 2]) rfl ?_)
    refine Run.move rfl rfl rfl (.at rfl) ?_
    refine Run.assign rfl rfl rfl (.at rfl) ?_
    refine Run.assign rfl rfl rfl (.at rfl) ?_
    refine Run.nil ?_
    refine WP.ret ?_
    exact Ends.pure (.tmp rfl (.tmp rfl .nil)) rfl
end
end Go.Ab
