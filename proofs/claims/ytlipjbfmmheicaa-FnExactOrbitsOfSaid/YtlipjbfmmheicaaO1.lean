/- The walks of the plain law's orbit of a point. -/
import Derived.Test.YtlipjbfmmheicaaA2
namespace Go.Ab
open Go.Proofs
section
variable {C : Cx Try.prog 18} {Q : Post}
theorem l_l02Has {l : List V3} {v : V3} {n b : Nat} (hn : n ≤ 2000000) (hl : l.length = n)
    (hQ : ¬ v ∈ l → Q (.exit 0) ⟨[], [[]]⟩) (hR : v ∈ l → Q .ret ⟨[(4, .bool true)], [[]]⟩) :
    ∀ (d k : Nat), k + d = n → ¬ v ∈ l.take k → LP C (nav Try.f29.body.get! [1, 0, 1, 0, 0]) Q ⟨[(0, .imm (cs3 l) n), (3, .adr 0 b 0), (5, .int .i64 k)], [[(b, v.cs)]]⟩ := by
  intro d
  induction d with
  | zero =>
    intro k hd he
    rw [List.take_of_length_le (by omega)] at he
    refine LP.round ?_
    refine WP.seq ?_
    refine WP.seq (WP.region (l := [0, 1, 2, 3]) rfl ?_)
    refine Run.move rfl rfl rfl (.at rfl) ?_
    refine Run.move rfl rfl rfl (.at rfl) ?_
    refine Run.len rfl rfl rfl (.at rfl) is_51 rfl ?_
    refine Run.int rfl rfl rfl (.at rfl) (.at rfl) rfl ?_
    refine Run.nil ?_
    refine WP.cond_f (.at rfl) (by simp; omega) ?_
    exact WP.keep (WP.exit (hQ he)) (by repeat (first | exact trivial | refine ⟨rfl, ?_⟩)) (by repeat (first | exact HSub.nil | refine HSub.keep ?_ | refine HSub.dead ?_))
  | succ d ih =>
    intro k hd he
    have hk : k < l.length := by omega
    have ht := take_getD (z := V3.O) hk
    refine LP.round ?_
    refine WP.seq ?_
    refine WP.seq (WP.region (l := [0, 1, 2, 3]) rfl ?_)
    refine Run.move rfl rfl rfl (.at rfl) ?_
    refine Run.move rfl rfl rfl (.at rfl) ?_
    refine Run.len rfl rfl rfl (.at rfl) is_51 rfl ?_
    refine Run.int rfl rfl rfl (.at rfl) (.at rfl) rfl ?_
    refine Run.nil ?_
    refine WP.cond_t (.at rfl) (by simp; omega) ?_
    refine WP.skip ?_
    refine WP.seq ?_
    refine WP.block ?_
    refine WP.seq (WP.draw mx_0 ?_)
    refine Drawn.calmR ?_
    refine' DrawR.op 0 12 0 [(0, none)] rfl rfl (fun rest => ?_) ?_
    rotate_left
    · skip
      refine Run.move rfl rfl rfl (.at rfl) ?_
      exact single_nil
    refine' DrawR.op 1 13 1 [(5, none)] rfl rfl (fun rest => ?_) ?_
    rotate_left
    · skip
      refine Run.move rfl rfl rfl (.at rfl) ?_
      exact single_nil
    refine' DrawR.op 2 14 2 [(12, some 1), (13, some 0)] rfl rfl (fun rest => ?_) ?_
    rotate_left
    · skip
      refine Run.idx_imm (j := k) rfl rfl rfl (.at rfl) (.at rfl) sl_51_3 rfl (show k < n by omega) ?_
      exact single_nil
    refine' DrawR.op 3 15 3 [(14, some 0)] rfl rfl (fun rest => ?_) ?_
    rotate_left
    · skip
      refine Run.loads rfl rfl rfl (.at rfl) .imm ag_33_3 (cs3_get hk) rfl ?_
      exact single_nil
    refine' DrawR.op 4 16 4 [(3, none)] rfl rfl (fun rest => ?_) ?_
    rotate_left
    · skip
      refine Run.loads rfl rfl rfl (.at rfl) (place_adr rfl) ag_33_3 rfl rfl ?_
      exact single_nil
    refine' DrawR.op 5 17 5 [(15, some 1), (16, some 0)] rfl rfl (fun rest => ?_) ?_
    rotate_left
    · skip
      refine Run.eqlA (.arr 3 1 (.int .i64)) (l.getD k V3.O).l v.l rfl rfl rfl (.at rfl) (.at rfl) eq_33 rfl rfl ?_
      exact single_nil
    refine DrawR.tail [] rfl (by kernel_rfl) ?_
    refine Run.nil ?_
    refine WP.cond (.at rfl) (fun hc1 => ?_) (fun hc1 => ?_)
    · have h2 : l.getD k V3.O = v := V3.l_inj.1 (of_decide_eq_true hc1)
      have hin : v ∈ l := h2 ▸ getD_mem hk
      refine WP.seq (WP.region (l := [0]) rfl ?_)
      refine Run.assign rfl rfl rfl (.at rfl) ?_
      refine Run.nil ?_
      exact WP.keep (WP.ret (hR hin)) (by repeat (first | exact trivial | refine ⟨rfl, ?_⟩)) (by repeat (first | exact HSub.nil | refine HSub.keep ?_ | refine HSub.dead ?_))
    · have h2 : ¬ l.getD k V3.O = v := fun e => of_decide_eq_false hc1 (V3.l_inj.2 e)
      have hnext : ¬ v ∈ l.take (k + 1) := by
        rw [ht, List.mem_append, List.mem_singleton]
        exact fun h => h.elim he fun e => h2 e.symm
      refine WP.skip ?_
      refine WP.region (l := [0, 1, 2]) rfl ?_
      refine Run.move rfl rfl rfl (.at rfl) ?_
      refine Run.add rfl rfl rfl (.at rfl) (.at rfl) (by omega) ?_
      refine Run.assign rfl rfl rfl (.at rfl) ?_
      refine Run.nil ?_
      exact LP.keep (ih (k + 1) (by omega) hnext) (by repeat (first | exact trivial | refine ⟨rfl, ?_⟩)) (by repeat (first | exact HSub.nil | refine HSub.keep ?_ | refine HSub.dead ?_))
theorem c_l02Has (l : List V3) (v : V3) {n : Nat} (hn : n ≤ 2000000) (hl : l.length = n) : Pure Try.prog 29 [.imm (cs3 l) n, v.av] (.bool (decide (v ∈ l))) := by
  refine Pure.body 1 (n := 18) (fn := Try.f29) (c := Try.f29.body.get!) fn_29 rfl nm_29 rfl rfl fun C => ?_
  refine WP.seq (WP.region (l := [0, 1]) rfl ?_)
  refine Run.box 0 rfl rfl rfl (.at rfl) rfl (fun b3 => ?_)
  refine Run.assign rfl rfl rfl (.at rfl) ?_
  refine Run.nil ?_
  refine WP.seq ?_
  refine WP.seq (WP.region (l := [0]) rfl ?_)
  refine Run.assign rfl rfl rfl (.at rfl) ?_
  refine Run.nil ?_
  refine WP.block ?_
  refine WP.loop (LP.keep (l_l02Has (l := l) (v := v) hn hl (fun h => ?_) (fun h => ?_) n 0 (by omega) (by simp)) (by repeat (first | exact trivial | refine ⟨rfl, ?_⟩)) (by repeat (first | exact HSub.nil | refine HSub.keep ?_ | refine HSub.dead ?_)))
  rotate_left
  · exact Ends.pure (.tmp rfl .nil) (by rw [decide_eq_true h]; rfl)
  refine WP.seq (WP.region (l := [0]) rfl ?_)
  refine Run.assign rfl rfl rfl (.at rfl) ?_
  refine Run.nil ?_
  refine WP.ret ?_
  exact Ends.pure (.tmp rfl .nil) (by rw [decide_eq_false h]; rfl)
end
section
variable {C : Cx Try.prog 44} {Q : Post} {p : Int} {ms : List M3} {n : Nat}
theorem l_l10Orbit1 (hp : IsP p) (hn : n ≤ 8) (hl : ms.length = n) (hm : irL p ms) {i b5 : Nat} {a : V3} {L : List V3} (hi : i < L.length) (hL : L.length ≤ 183) (hx : (L.getD i V3.O).ir p)
    (hQ : ∀ bL L', L' = roundV (imgM p) (L.getD i V3.O) L ms → Q (.exit 2) ⟨[(0, .int .i64 p), (1, .imm (cs9 ms) n), (7, .own 1 bL 3 0 L'.length L'.length true), (8, .int .i64 i)], [[(b5, a.cs)], [(bL, cs3 L')], [], []]⟩) :
    ∀ (d k bL : Nat) (L' : List V3), k + d = n → L' = roundV (imgM p) (L.getD i V3.O) L (ms.take k) →
      LP C (nav Try.f30.body.get! [1, 1, 0, 1, 0, 0, 1, 0, 0, 1, 0, 0]) Q ⟨[(0, .int .i64 p), (1, .imm (cs9 ms) n), (7, .own 1 bL 3 0 L'.length L'.length true), (8, .int .i64 i), (9, .int .i64 k)], [[(b5, a.cs)], [(bL, cs3 L')], [], []]⟩ := by
  intro d
  induction d with
  | zero =>
    intro k bL L' hd hL'
    rw [List.take_of_length_le (by omega)] at hL'
    refine LP.round ?_
    refine WP.seq ?_
    refine WP.seq (WP.region (l := [0, 1, 2, 3]) rfl ?_)
    refine Run.move rfl rfl rfl (.at rfl) ?_
    refine Run.move rfl rfl rfl (.at rfl) ?_
    refine Run.len rfl rfl rfl (.at rfl) is_26 rfl ?_
    refine Run.int rfl rfl rfl (.at rfl) (.at rfl) rfl ?_
    refine Run.nil ?_
    refine WP.cond_f (.at rfl) (by simp; omega) ?_
    exact WP.keep (WP.exit (hQ bL L' hL')) (by repeat (first | exact trivial | refine ⟨rfl, ?_⟩)) (by repeat (first | exact HSub.nil | refine HSub.keep ?_ | refine HSub.dead ?_))
  | succ d ih =>
    intro k bL L' hd hL'
    have hk : k < ms.length := by omega
    have hnext := roundV_take (st := imgM p) (y := M3.O) (L.getD i V3.O) L hk
    rw [← hL'] at hnext
    have hle := roundV_le (st := imgM p) (L.getD i V3.O) (ms.take k) L
    have hub := roundV_ub (st := imgM p) (L.getD i V3.O) (ms.take k) L
    rw [← hL'] at hle hub
    rw [List.length_take] at hub
    have hpre : L'.getD i V3.O = L.getD i V3.O := by rw [hL']; exact roundV_pre _ _ _ hi
    have hlc : (cs3 L').length = L'.length * 3 := cs3_length L'
    have htk : (cs3 L').take (L'.length * 3) = cs3 L' := cs3_take L'
    refine LP.round ?_
    refine WP.seq ?_
    refine WP.seq (WP.region (l := [0, 1, 2, 3]) rfl ?_)
    refine Run.move rfl rfl rfl (.at rfl) ?_
    refine Run.move rfl rfl rfl (.at rfl) ?_
    refine Run.len rfl rfl rfl (.at rfl) is_26 rfl ?_
    refine Run.int rfl rfl rfl (.at rfl) (.at rfl) rfl ?_
    refine Run.nil ?_
    refine WP.cond_t (.at rfl) (by simp; omega) ?_
    refine WP.skip ?_
    refine WP.seq ?_
    refine WP.block ?_
    refine WP.seq (WP.draw mx_0 ?_)
    refine Drawn.calmE [alloc0E 10 10 2 [.int .i64 0, .int .i64 0, .int .i64 0]] ?_
    refine' DrawE.op 0 25 0 [(0, none)] rfl rfl rfl rfl ?_ ?_
    rotate_left
    · intro le rest
      refine Run.move rfl rfl rfl (.at rfl) ?_
      exact single_nil
    refine' DrawE.op 1 26 1 [(1, none)] rfl rfl rfl rfl ?_ ?_
    rotate_left
    · intro le rest
      refine Run.move rfl rfl rfl (.at rfl) ?_
      exact single_nil
    refine' DrawE.op 2 27 2 [(9, none)] rfl rfl rfl rfl ?_ ?_
    rotate_left
    · intro le rest
      refine Run.move rfl rfl rfl (.at rfl) ?_
      exact single_nil
    refine' DrawE.op 3 28 3 [(26, some 1), (27, some 0)] rfl rfl rfl rfl ?_ ?_
    rotate_left
    · intro le rest
      refine Run.idx_imm (j := k) rfl rfl rfl (.at rfl) (.at rfl) sl_26_9 rfl (show k < n by omega) ?_
      exact single_nil
    refine' DrawE.op 4 29 4 [(28, some 0)] rfl rfl rfl rfl ?_ ?_
    rotate_left
    · intro le rest
      refine Run.loads rfl rfl rfl (.at rfl) .imm ag_44_9 (cs9_get hk) rfl ?_
      exact single_nil
    refine' DrawE.op 5 30 5 [(7, none)] rfl rfl rfl rfl ?_ ?_
    rotate_left
    · intro le rest
      refine Run.move rfl rfl rfl (.at rfl) ?_
      exact single_nil
    refine' DrawE.op 6 31 6 [(8, none)] rfl rfl rfl rfl ?_ ?_
    rotate_left
    · intro le rest
      refine Run.move rfl rfl rfl (.at rfl) ?_
      exact single_nil
    refine' DrawE.op 7 32 7 [(30, some 1), (31, some 0)] rfl rfl rfl rfl ?_ ?_
    rotate_left
    · intro le rest
      refine Run.idx (j := i) rfl rfl rfl (.at rfl) (.at rfl) sl_51_3 rfl (show i < L'.length by omega) ?_
      exact single_nil
    refine' DrawE.op 8 33 8 [(32, some 0)] rfl rfl rfl rfl ?_ ?_
    rotate_left
    · intro le rest
      refine Run.loads rfl rfl rfl (.at rfl) (place_adr rfl) ag_33_3 (show _ = (L.getD i V3.O).cs by rw [Nat.zero_add, cs3_get (by omega), hpre]) rfl ?_
      exact single_nil
    refine' DrawE.op 9 34 9 [(25, some 8), (29, some 4), (33, some 0)] rfl rfl rfl rfl ?_ ?_
    rotate_left
    · intro le rest
      refine Run.call rfl rfl rfl (.at rfl) (.cons (.at rfl) (.cons (.at rfl) (.cons (.at rfl) .nil))) (c_l02Image p (ms.getD k M3.O) (L.getD i V3.O) hp (irL_get hp hm k) hx) ?_
      exact single_nil
    refine DrawE.early 10 10 10 [] 0 rfl rfl rfl rfl rfl ?_ ?_
    · intro le rest
      refine Run.alloc 2 rfl rfl rfl zr_33 (fun b10 => ?_)
      exact singleE_nil ⟨b10, rfl, rfl⟩
    refine DrawE.tail [11] rfl rfl (by kernel_rfl) (by kernel_rfl) ?_
    intro x10 l10 h10
    obtain ⟨b10, rfl, rfl⟩ := h10
    refine Run.store (j := 0) rfl rfl (.at rfl) rfl rfl (.at rfl) sz_33_3 rfl rfl (by first | decide | exact Nat.le_of_ble_eq_true rfl) rfl ?_
    refine Run.nil ?_
    refine WP.seq (WP.region (l := [0, 1, 2, 3]) rfl ?_)
    refine Run.move rfl rfl rfl (.at rfl) ?_
    refine Run.loads rfl rfl rfl (.at rfl) (place_adr rfl) ag_33_3 rfl rfl ?_
    refine Run.acts [] [] rfl rfl rfl (.at rfl) (.cons (.at rfl) (.cons (.at rfl) .nil)) (.cons (Lend.one rfl (Nat.le_refl _) (by rw [List.drop_zero, List.take_length])) (.cons .refl .nil)) ((c_l02Has L' (imgM p (ms.getD k M3.O) (L.getD i V3.O)) (n := L'.length) (by omega) rfl).acts) rfl rfl rfl (fun x H h => ?_) (fun x H h => ?_)
    · obtain ⟨rfl, rfl⟩ := h; exact ⟨rfl, by first | rfl | simp [cleanH, cs3_cl]; done | simp [cleanH, ints_cl]; done | simp [cleanH, cs3_cl, ints_cl]; done | simp [cleanH, cs9_cl]; done | simp [cleanH, cs9_cl, cs3_cl, ints_cl]; done⟩
    obtain ⟨rfl, rfl⟩ := h
    refine Run.not rfl rfl rfl (.at rfl) ?_
    refine Run.nil ?_
    refine WP.cond (.at rfl) (fun hc2 => ?_) (fun hc2 => ?_)
    · have hno : ¬ imgM p (ms.getD k M3.O) (L.getD i V3.O) ∈ L' := by simpa using hc2
      have hadd : addV (imgM p) (L.getD i V3.O) L' (ms.getD k M3.O) = L' ++ [imgM p (ms.getD k M3.O) (L.getD i V3.O)] := by unfold addV; rw [if_neg hno]
      rw [hadd] at hnext
      refine WP.region (l := [0, 1, 2, 3, 4]) rfl ?_
      refine Run.move rfl rfl rfl (.at rfl) ?_
      refine Run.loads rfl rfl rfl (.at rfl) (place_adr rfl) ag_33_3 rfl rfl ?_
      refine Run.buildSlice 3 rfl rfl rfl el_51 (by decide) (.cons (.at rfl) rfl .nil) rfl rfl (fun b41 => ?_)
      refine Run.append rfl rfl rfl (.at rfl) rfl el_51 (.at rfl) (.own (At.one rfl) rfl rfl) rfl (Nat.le_refl _) (by omega) (by omega) (by omega) (fun b42 => ?_)
      refine Run.assign rfl rfl rfl (.at rfl) ?_
      refine Run.nil ?_
      refine WP.region (l := [0, 1, 2]) rfl ?_
      refine Run.move rfl rfl rfl (.at rfl) ?_
      refine Run.add rfl rfl rfl (.at rfl) (.at rfl) (by omega) ?_
      refine Run.assign rfl rfl rfl (.at rfl) ?_
      refine Run.nil ?_
      have h := ih (k + 1) b42 (L' ++ [imgM p (ms.getD k M3.O) (L.getD i V3.O)]) (by omega) hnext.symm
      rw [List.length_append, List.length_singleton, cs3_append] at h
      refine LP.hp (H' := [_, [(b42, cs3 L' ++ cs3 [imgM p (ms.getD k M3.O) (L.getD i V3.O)])], _, _]) (by
        show [_, [(b42, (cs3 L').take (L'.length * 3) ++ _)], _, _] = _
        rw [htk]
        rfl) ?_
      exact LP.keep h (by repeat (first | exact trivial | refine ⟨rfl, ?_⟩)) (by repeat (first | exact HSub.nil | refine HSub.keep ?_ | refine HSub.dead ?_))
    · have hyes : imgM p (ms.getD k M3.O) (L.getD i V3.O) ∈ L' := by simpa using hc2
      have hadd : addV (imgM p) (L.getD i V3.O) L' (ms.getD k M3.O) = L' := by unfold addV; rw [if_pos hyes]
      rw [hadd] at hnext
      refine WP.skip ?_
      refine WP.region (l := [0, 1, 2]) rfl ?_
      refine Run.move rfl rfl rfl (.at rfl) ?_
      refine Run.add rfl rfl rfl (.at rfl) (.at rfl) (by omega) ?_
      refine Run.assign rfl rfl rfl (.at rfl) ?_
      refine Run.nil ?_
      exact LP.keep (ih (k + 1) bL L' (by omega) hnext.symm) (by repeat (first | exact trivial | refine ⟨rfl, ?_⟩)) (by repeat (first | exact HSub.nil | refine HSub.keep ?_ | refine HSub.dead ?_))
theorem l_l10Orbit0 (hp : IsP p) (hn : n ≤ 8) (hl : ms.length = n) (hm : mapsOk p ms = true) {b5 : Nat} {a : V3} {R : List V3}
    (hQ : ∀ (bL : Nat) (L' : List V3), L' = R → Q (.exit 0) ⟨[(7, .own 1 bL 3 0 L'.length L'.length true)], [[], [(bL, cs3 L')], [], []]⟩) :
    ∀ (f i bL : Nat) (L : List V3), i + f = (pts p).length + 1 → OrbI (imgM p) (pts p) ms V3.O a i L → orbGo (imgM p) V3.O ms f i L = R →
      LP C (nav Try.f30.body.get! [1, 1, 0, 1, 0, 0]) Q ⟨[(0, .int .i64 p), (1, .imm (cs9 ms) n), (7, .own 1 bL 3 0 L.length L.length true), (8, .int .i64 i)], [[(b5, a.cs)], [(bL, cs3 L)], [], []]⟩ := by
  have hP := perms_of hm
  have hcnt := pts_cnt hp
  intro f
  induction f with
  | zero => intro i bL L h1 h2; have := h2.lt; have := h2.le; omega
  | succ f ih =>
    intro i bL L hf hI hres
    simp only [orbGo] at hres
    have h1 := hI.lt
    by_cases hlt : i < L.length
    · rw [if_pos hlt] at hres
      refine LP.round ?_
      refine WP.seq ?_
      refine WP.seq (WP.region (l := [0, 1, 2, 3]) rfl ?_)
      refine Run.move rfl rfl rfl (.at rfl) ?_
      refine Run.move rfl rfl rfl (.at rfl) ?_
      refine Run.len rfl rfl rfl (.at rfl) is_51 rfl ?_
      refine Run.int rfl rfl rfl (.at rfl) (.at rfl) rfl ?_
      refine Run.nil ?_
      refine WP.cond_t (.at rfl) (by simp; omega) ?_
      refine WP.skip ?_
      refine WP.seq ?_
      refine WP.block ?_
      refine WP.seq (WP.region (l := [0]) rfl ?_)
      refine Run.assign rfl rfl rfl (.at rfl) ?_
      refine Run.nil ?_
      refine WP.block ?_
      refine WP.loop (LP.keep (l_l10Orbit1 hp hn hl (mapsOk_ir hm) hlt (by omega) (pts_ir hp (hI.sub _ (getD_mem hlt))) (fun bL2 L2 hL2 => ?_) n 0 bL L (by omega) rfl) (by repeat (first | exact trivial | refine ⟨rfl, ?_⟩)) (by repeat (first | exact HSub.nil | refine HSub.keep ?_ | refine HSub.dead ?_)))
      refine WP.region (l := [0, 1, 2]) rfl ?_
      refine Run.move rfl rfl rfl (.at rfl) ?_
      refine Run.add rfl rfl rfl (.at rfl) (.at rfl) (by omega) ?_
      refine Run.assign rfl rfl rfl (.at rfl) ?_
      refine Run.nil ?_
      subst hL2
      exact LP.keep (ih (i + 1) bL2 _ (by omega) (hI.next hP hlt) hres) (by repeat (first | exact trivial | refine ⟨rfl, ?_⟩)) (by repeat (first | exact HSub.nil | refine HSub.keep ?_ | refine HSub.dead ?_))
    · rw [if_neg hlt] at hres
      refine LP.round ?_
      refine WP.seq ?_
      refine WP.seq (WP.region (l := [0, 1, 2, 3]) rfl ?_)
      refine Run.move rfl rfl rfl (.at rfl) ?_
      refine Run.move rfl rfl rfl (.at rfl) ?_
      refine Run.len rfl rfl rfl (.at rfl) is_51 rfl ?_
      refine Run.int rfl rfl rfl (.at rfl) (.at rfl) rfl ?_
      refine Run.nil ?_
      refine WP.cond_f (.at rfl) (by simp; omega) ?_
      exact WP.keep (WP.exit (hQ bL L hres)) (by repeat (first | exact trivial | refine ⟨rfl, ?_⟩)) (by repeat (first | exact HSub.nil | refine HSub.keep ?_ | refine HSub.dead ?_))
abbrev orbM (p : Int) (ms : List M3) (a : V3) : List V3 := orb (imgM p) V3.O ms (pts p).length a
theorem c_l10Orbit (p : Int) (ms : List M3) (a : V3) {n : Nat} (hp : IsP p) (hn : n ≤ 8) (hl : ms.length = n) (hm : mapsOk p ms = true) (ha : a ∈ pts p) :
    Pure Try.prog 30 [.int .i64 p, .imm (cs9 ms) n, a.av] (.imm (cs3 (orbM p ms a)) (orbM p ms a).length) := by
  refine Pure.body 4 (n := 44) (fn := Try.f30) (c := Try.f30.body.get!) fn_30 rfl nm_30 rfl rfl fun C => ?_
  refine WP.seq (WP.region (l := [0, 1]) rfl ?_)
  refine Run.box 0 rfl rfl rfl (.at rfl) rfl (fun b5 => ?_)
  refine Run.assign rfl rfl rfl (.at rfl) ?_
  refine Run.nil ?_
  refine WP.seq (WP.region (l := [0, 1, 2]) rfl ?_)
  refine Run.loads rfl rfl rfl (.at rfl) (place_adr rfl) ag_33_3 rfl rfl ?_
  refine Run.buildSlice 1 rfl rfl rfl el_51 (by decide) (.cons (.at rfl) rfl .nil) rfl rfl (fun b12 => ?_)
  refine Run.assign rfl rfl rfl (.at rfl) ?_
  refine Run.nil ?_
  refine WP.seq ?_
  refine WP.seq (WP.region (l := [0]) rfl ?_)
  refine Run.assign rfl rfl rfl (.at rfl) ?_
  refine Run.nil ?_
  refine WP.block ?_
  refine WP.weak 7 rfl (fun _ _ _ h => own_open (id' := 1) (Nat.le_refl _) h) ?_
  refine WP.loop (LP.keep (l_l10Orbit0 (a := a) (ms := ms) (R := orbM p ms a) hp hn hl hm (fun bL L' hL => ?_) ((pts p).length + 1) 0 b12 [a] (by omega) (OrbI.start ha) rfl) (by repeat (first | exact trivial | refine ⟨rfl, ?_⟩)) (by repeat (first | exact HSub.nil | refine HSub.keep ?_ | refine HSub.dead ?_)))
  subst hL
  refine WP.freeze 7 (cs3 (orbM p ms a)) rfl rfl (Nat.le_refl _) (by rw [List.drop_zero, List.take_length]) ?_
  refine WP.seq (WP.region (l := [0, 1]) rfl ?_)
  refine Run.move rfl rfl rfl (.at rfl) ?_
  refine Run.assign rfl rfl rfl (.at rfl) ?_
  refine Run.nil ?_
  refine WP.ret ?_
  exact Ends.pure (.tmp rfl .nil) rfl
end
end Go.Ab
