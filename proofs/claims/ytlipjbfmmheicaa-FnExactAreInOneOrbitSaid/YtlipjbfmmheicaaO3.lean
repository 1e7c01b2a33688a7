/- The walks of both answers to 'are two points in one orbit'. -/
import Derived.Test.YtlipjbfmmheicaaO2
import Derived.Test.YtlipjbfmmheicaaL5
namespace Go.Ab
open Go.Proofs
def idxI (l : List V3) (v : V3) : Int := if v ∈ l then (l.idxOf v : Nat) else -1
theorem l_indexP {C : Cx Try.prog 19} {Q : Post} {l : List V3} {v : V3} {n b : Nat} (hl : n ≤ 4000000) (hn : l.length = n)
    (hQ : idxI l v = -1 → Q (.exit 0) ⟨[], [[]]⟩) (hR : Q .ret ⟨[(4, .int .i64 (idxI l v))], [[]]⟩) :
    ∀ (d k : Nat), k + d = n → ¬ v ∈ l.take k → LP C (nav Try.f51.body.get! [1, 0, 1, 0, 0]) Q ⟨[(0, .imm (cs3 l) n), (3, .adr 0 b 0), (7, .int .i64 n), (8, .int .i64 k)], [[(b, v.cs)]]⟩ := by
  intro d
  induction d with
  | zero =>
    intro k hd he
    rw [List.take_of_length_le (by omega)] at he
    have h0 : idxI l v = -1 := by unfold idxI; rw [if_neg he]
    refine LP.round ?_
    refine WP.seq (WP.region (l := [0]) rfl ?_)
    refine Run.int rfl rfl rfl (.at rfl) (.at rfl) rfl ?_
    refine Run.nil ?_
    refine WP.seq ?_
    refine WP.cond_f (.at rfl) (by simp; omega) ?_
    exact WP.keep (WP.exit (hQ h0)) (by repeat (first | exact trivial | refine ⟨rfl, ?_⟩)) (by repeat (first | exact HSub.nil | refine HSub.keep ?_ | refine HSub.dead ?_))
  | succ d ih =>
    intro k hd he
    have hk : k < l.length := by omega
    have ht := take_getD (z := V3.O) hk
    have hsp : l = l.take k ++ l.drop k := (List.take_append_drop k l).symm
    have hdr : l.drop k = l.getD k V3.O :: l.drop (k + 1) := by
      rw [List.drop_eq_getElem_cons hk]
      simp [hk]
    refine LP.round ?_
    refine WP.seq (WP.region (l := [0]) rfl ?_)
    refine Run.int rfl rfl rfl (.at rfl) (.at rfl) rfl ?_
    refine Run.nil ?_
    refine WP.seq ?_
    refine WP.cond_t (.at rfl) (by simp; omega) ?_
    refine WP.skip ?_
    refine WP.seq ?_
    refine WP.block ?_
    refine WP.seq (WP.region (l := [0, 1]) rfl ?_)
    refine Run.move rfl rfl rfl (.at rfl) ?_
    refine Run.assign rfl rfl rfl (.at rfl) ?_
    refine Run.nil ?_
    refine WP.seq (WP.draw mx_0 ?_)
    refine Drawn.calmR ?_
    refine' DrawR.op 0 11 0 [(3, none)] rfl rfl (fun rest => ?_) ?_
    rotate_left
    · skip
      refine Run.loads rfl rfl rfl (.at rfl) (place_adr rfl) ag_33_3 rfl rfl ?_
      exact single_nil
    refine' DrawR.op 1 12 1 [(0, none)] rfl rfl (fun rest => ?_) ?_
    rotate_left
    · skip
      refine Run.move rfl rfl rfl (.at rfl) ?_
      exact single_nil
    refine' DrawR.op 2 13 2 [(5, none)] rfl rfl (fun rest => ?_) ?_
    rotate_left
    · skip
      refine Run.move rfl rfl rfl (.at rfl) ?_
      exact single_nil
    refine' DrawR.op 3 14 3 [(12, some 1), (13, some 0)] rfl rfl (fun rest => ?_) ?_
    rotate_left
    · skip
      refine Run.idx_imm (j := k) rfl rfl rfl (.at rfl) (.at rfl) sl_51_3 rfl (show k < n by omega) ?_
      exact single_nil
    refine' DrawR.op 4 15 4 [(14, some 0)] rfl rfl (fun rest => ?_) ?_
    rotate_left
    · skip
      refine Run.loads rfl rfl rfl (.at rfl) .imm ag_33_3 (cs3_get hk) rfl ?_
      exact single_nil
    refine' DrawR.op 5 16 5 [(11, some 4), (15, some 0)] rfl rfl (fun rest => ?_) ?_
    rotate_left
    · skip
      refine Run.eqlA (.arr 3 1 (.int .i64)) v.l (l.getD k V3.O).l rfl rfl rfl (.at rfl) (.at rfl) eq_33 rfl rfl ?_
      exact single_nil
    refine DrawR.tail [] rfl (by kernel_rfl) ?_
    refine Run.nil ?_
    refine WP.cond (.at rfl) (fun hc1 => ?_) (fun hc1 => ?_)
    · have h1 : v = l.getD k V3.O := V3.l_inj.1 (of_decide_eq_true hc1)
      have hi : idxI l v = k := by
        unfold idxI
        have hin : v ∈ l := by rw [h1]; exact getD_mem hk
        rw [if_pos hin]
        have e : l.idxOf v = k := by
          rw [hsp, List.idxOf_append, if_neg he, hdr, List.idxOf_cons, ← h1, List.length_take, Nat.min_eq_left (by omega)]
          simp
        rw [e]
      rw [hi] at hR
      refine WP.seq (WP.region (l := [0, 1]) rfl ?_)
      refine Run.move rfl rfl rfl (.at rfl) ?_
      refine Run.assign rfl rfl rfl (.at rfl) ?_
      refine Run.nil ?_
      exact WP.keep (WP.ret hR) (by repeat (first | exact trivial | refine ⟨rfl, ?_⟩)) (by repeat (first | exact HSub.nil | refine HSub.keep ?_ | refine HSub.dead ?_))
    · have h1 : ¬ v = l.getD k V3.O := fun e => of_decide_eq_false hc1 (V3.l_inj.2 e)
      have hnext : ¬ v ∈ l.take (k + 1) := by
        rw [ht, List.mem_append, List.mem_singleton]
        exact fun h => h.elim he h1
      refine WP.skip ?_
      refine WP.region (l := [0, 1]) rfl ?_
      refine Run.add rfl rfl rfl (.at rfl) (.at rfl) (by omega) ?_
      refine Run.move rfl rfl rfl (.at rfl) ?_
      refine Run.nil ?_
      exact LP.keep (ih (k + 1) (by omega) hnext) (by repeat (first | exact trivial | refine ⟨rfl, ?_⟩)) (by repeat (first | exact HSub.nil | refine HSub.keep ?_ | refine HSub.dead ?_))
theorem c_indexP (l : List V3) (v : V3) {n : Nat} (hl : n ≤ 4000000) (hn : l.length = n) : Pure Try.prog 51 [.imm (cs3 l) n, v.av] (.int .i64 (idxI l v)) := by
  refine Pure.body 1 (n := 19) (fn := Try.f51) (c := Try.f51.body.get!) fn_51 rfl nm_51 rfl rfl fun C => ?_
  refine WP.seq (WP.region (l := [0, 1]) rfl ?_)
  refine Run.box 0 rfl rfl rfl (.at rfl) rfl (fun b3 => ?_)
  refine Run.assign rfl rfl rfl (.at rfl) ?_
  refine Run.nil ?_
  refine WP.seq ?_
  refine WP.seq (WP.region (l := [0, 1, 2]) rfl ?_)
  refine Run.move rfl rfl rfl (.at rfl) ?_
  refine Run.len rfl rfl rfl (.at rfl) is_51 rfl ?_
  refine Run.move rfl rfl rfl (.at rfl) ?_
  refine Run.nil ?_
  refine WP.block ?_
  refine WP.loop (LP.keep (l_indexP (l := l) (v := v) hl hn (fun h => ?_) ?_ n 0 (by omega) (by simp)) (by repeat (first | exact trivial | refine ⟨rfl, ?_⟩)) (by repeat (first | exact HSub.nil | refine HSub.keep ?_ | refine HSub.dead ?_)))
  rotate_left
  · exact Ends.pure (.tmp rfl .nil) rfl
  refine WP.seq (WP.region (l := [0]) rfl ?_)
  refine Run.assign rfl rfl rfl (.at rfl) ?_
  refine Run.nil ?_
  refine WP.ret ?_
  exact Ends.pure (.tmp rfl .nil) (by rw [h]; rfl)
theorem c_containsP (l : List V3) (v : V3) {n : Nat} (hl : n ≤ 4000000) (hn : l.length = n) : Pure Try.prog 32 [.imm (cs3 l) n, v.av] (.bool (decide (v ∈ l))) := by
  have h0 : decide (idxI l v ≥ 0) = decide (v ∈ l) := by
    unfold idxI
    by_cases h : v ∈ l
    · rw [if_pos h, decide_eq_true h]; simp
    · rw [if_neg h, decide_eq_false h]; rfl
  refine Pure.body 1 (n := 9) (fn := Try.f32) (c := Try.f32.body.get!) fn_32 rfl nm_32 rfl rfl fun C => ?_
  refine WP.seq (WP.region (l := [0, 1]) rfl ?_)
  refine Run.box 0 rfl rfl rfl (.at rfl) rfl (fun b3 => ?_)
  refine Run.assign rfl rfl rfl (.at rfl) ?_
  refine Run.nil ?_
  refine WP.seq (WP.region (l := [0, 1, 2, 3, 4]) rfl ?_)
  refine Run.move rfl rfl rfl (.at rfl) ?_
  refine Run.loads rfl rfl rfl (.at rfl) (place_adr rfl) ag_33_3 rfl rfl ?_
  refine Run.call rfl rfl rfl (.at rfl) (.cons (.at rfl) (.cons (.at rfl) .nil)) (c_indexP l v hl hn) ?_
  refine Run.int rfl rfl rfl (.at rfl) (.at rfl) rfl ?_
  refine Run.assign rfl rfl rfl (.at rfl) ?_
  refine Run.nil ?_
  refine WP.ret ?_
  exact Ends.pure (.tmp rfl .nil) (by rw [← h0]; rfl)
def areR (p : Int) (ms : List M3) (a b : V3) : Bool := codeL p ms [a, b] == 0 && decide (b ∈ orbM p ms a)
theorem codeL_pts {p : Int} {l : List M3} {a b : V3} (h : codeL p l [a, b] = 0) : a ∈ pts p ∧ b ∈ pts p := by
  obtain ⟨hp, _, h2, _⟩ := codeL_ok h
  exact ⟨ptsOk_mem hp h2 (by simp), ptsOk_mem hp h2 (by simp)⟩
theorem c_specAre (p : Int) (ms : List M3) (a b : V3) {n : Nat} (hn : n ≤ 2000000) (hl : ms.length = n) :
    Pure Try.prog 11 [.int .i64 p, .imm (cs9 ms) n, a.av, b.av] (.tup [.bool (areR p ms a b), .int .i64 (codeL p ms [a, b])]) := by
  by_cases h : codeL p ms [a, b] = 0
  · obtain ⟨hp, hok, _, h8⟩ := codeL_ok h
    obtain ⟨ha, hb⟩ := codeL_pts h
    have hlt : (orbM p ms a).length ≤ (pts p).length := (orb_spec (z := V3.O) (perms_of hok) ha).lt
    have hcnt := pts_cnt hp
    refine Pure.body 3 (n := 26) (fn := Try.f11) (c := Try.f11.body.get!) fn_11 rfl nm_11 rfl rfl fun C => ?_
    refine WP.seq (WP.region (l := [0, 1, 2, 3]) rfl ?_)
    refine Run.box 0 rfl rfl rfl (.at rfl) rfl (fun b6 => ?_)
    refine Run.box 1 rfl rfl rfl (.at rfl) rfl (fun b7 => ?_)
    refine Run.assign rfl rfl rfl (.at rfl) ?_
    refine Run.assign rfl rfl rfl (.at rfl) ?_
    refine Run.nil ?_
    refine WP.seq ?_
    refine WP.seq (WP.region (l := [0, 1, 2, 3, 4, 5, 6]) rfl ?_)
    refine Run.move rfl rfl rfl (.at rfl) ?_
    refine Run.move rfl rfl rfl (.at rfl) ?_
    refine Run.loads rfl rfl rfl (.at rfl) (place_adr rfl) ag_33_3 rfl rfl ?_
    refine Run.loads rfl rfl rfl (.at rfl) (place_adr rfl) ag_33_3 rfl rfl ?_
    refine Run.buildSlice 2 rfl rfl rfl el_51 (by decide) (.cons (.at rfl) rfl (.cons (.at rfl) rfl .nil)) rfl rfl (fun b15 => ?_)
    refine Run.acts [] [] rfl rfl rfl (.at rfl) (.cons (.at rfl) (.cons (.at rfl) (.cons (.at rfl) .nil))) (.cons .refl (.cons .refl (.cons (Lend.one rfl (by omega) (by rfl)) .nil))) ((c_l10Maps p ms [a, b] hn hl (k := 2) (by decide) rfl).acts) rfl rfl rfl (fun x H h => ?_) (fun x H h => ?_)
    · obtain ⟨rfl, rfl⟩ := h; exact ⟨rfl, by first | rfl | simp [cleanH, cs3_cl]; done | simp [cleanH, ints_cl]; done | simp [cleanH, cs3_cl, ints_cl]; done | simp [cleanH, cs9_cl]; done | simp [cleanH, cs9_cl, cs3_cl, ints_cl]; done⟩
    obtain ⟨rfl, rfl⟩ := h
    refine Run.assign rfl rfl rfl (.at rfl) ?_
    refine Run.nil ?_
    refine WP.seq (WP.region (l := [0, 1]) rfl ?_)
    refine Run.move rfl rfl rfl (.at rfl) ?_
    refine Run.int rfl rfl rfl (.at rfl) (.at rfl) rfl ?_
    refine Run.nil ?_
    refine WP.cond_f (.at rfl) (by rw [h]; rfl) ?_
    refine WP.skip ?_
    refine WP.seq (WP.draw mx_0 ?_)
    refine Drawn.calmR ?_
    refine' DrawR.op 0 20 0 [(0, none)] rfl rfl (fun rest => ?_) ?_
    rotate_left
    · skip
      refine Run.move rfl rfl rfl (.at rfl) ?_
      exact single_nil
    refine' DrawR.op 1 21 1 [(1, none)] rfl rfl (fun rest => ?_) ?_
    rotate_left
    · skip
      refine Run.move rfl rfl rfl (.at rfl) ?_
      exact single_nil
    refine' DrawR.op 2 22 2 [(6, none)] rfl rfl (fun rest => ?_) ?_
    rotate_left
    · skip
      refine Run.loads rfl rfl rfl (.at rfl) (place_adr rfl) ag_33_3 rfl rfl ?_
      exact single_nil
    refine' DrawR.op 3 23 3 [(20, some 2), (21, some 1), (22, some 0)] rfl rfl (fun rest => ?_) ?_
    rotate_left
    · skip
      refine Run.call rfl rfl rfl (.at rfl) (.cons (.at rfl) (.cons (.at rfl) (.cons (.at rfl) .nil))) (c_l10Orbit p ms a hp (by omega) hl hok ha) ?_
      exact single_nil
    refine' DrawR.op 4 24 4 [(7, none)] rfl rfl (fun rest => ?_) ?_
    rotate_left
    · skip
      refine Run.loads rfl rfl rfl (.at rfl) (place_adr rfl) ag_33_3 rfl rfl ?_
      exact single_nil
    refine' DrawR.op 5 25 5 [(23, some 1), (24, some 0)] rfl rfl (fun rest => ?_) ?_
    rotate_left
    · skip
      refine Run.call rfl rfl rfl (.at rfl) (.cons (.at rfl) (.cons (.at rfl) .nil)) (c_l02Has (orbM p ms a) b (n := (orbM p ms a).length) (by omega) rfl) ?_
      exact single_nil
    refine' DrawR.op 6 8 6 [(25, some 0)] rfl rfl (fun rest => ?_) ?_
    rotate_left
    · skip
      refine Run.assign rfl rfl rfl (.at rfl) ?_
      exact single_nil
    refine' DrawR.op 7 9 7 [] rfl rfl (fun rest => ?_) ?_
    rotate_left
    · skip
      refine Run.assign rfl rfl rfl (.at rfl) ?_
      exact single_nil
    refine DrawR.tail [] rfl (by kernel_rfl) ?_
    refine Run.nil ?_
    refine WP.ret ?_
    exact Ends.pure (.tmp rfl (.tmp rfl .nil)) (by unfold areR; rw [h]; rfl)
  · have hr : areR p ms a b = false := by unfold areR; rw [beq_eq_false_iff_ne.2 h]; rfl
    rw [hr]
    refine Pure.body 3 (n := 26) (fn := Try.f11) (c := Try.f11.body.get!) fn_11 rfl nm_11 rfl rfl fun C => ?_
    refine WP.seq (WP.region (l := [0, 1, 2, 3]) rfl ?_)
    refine Run.box 0 rfl rfl rfl (.at rfl) rfl (fun b6 => ?_)
    refine Run.box 1 rfl rfl rfl (.at rfl) rfl (fun b7 => ?_)
    refine Run.assign rfl rfl rfl (.at rfl) ?_
    refine Run.assign rfl rfl rfl (.at rfl) ?_
    refine Run.nil ?_
    refine WP.seq ?_
    refine WP.seq (WP.region (l := [0, 1, 2, 3, 4, 5, 6]) rfl ?_)
    refine Run.move rfl rfl rfl (.at rfl) ?_
    refine Run.move rfl rfl rfl (.at rfl) ?_
    refine Run.loads rfl rfl rfl (.at rfl) (place_adr rfl) ag_33_3 rfl rfl ?_
    refine Run.loads rfl rfl rfl (.at rfl) (place_adr rfl) ag_33_3 rfl rfl ?_
    refine Run.buildSlice 2 rfl rfl rfl el_51 (by decide) (.cons (.at rfl) rfl (.cons (.at rfl) rfl .nil)) rfl rfl (fun b15 => ?_)
    refine Run.acts [] [] rfl rfl rfl (.at rfl) (.cons (.at rfl) (.cons (.at rfl) (.cons (.at rfl) .nil))) (.cons .refl (.cons .refl (.cons (Lend.one rfl (by omega) (by rfl)) .nil))) ((c_l10Maps p ms [a, b] hn hl (k := 2) (by decide) rfl).acts) rfl rfl rfl (fun x H h => ?_) (fun x H h => ?_)
    · obtain ⟨rfl, rfl⟩ := h; exact ⟨rfl, by first | rfl | simp [cleanH, cs3_cl]; done | simp [cleanH, ints_cl]; done | simp [cleanH, cs3_cl, ints_cl]; done | simp [cleanH, cs9_cl]; done | simp [cleanH, cs9_cl, cs3_cl, ints_cl]; done⟩
    obtain ⟨rfl, rfl⟩ := h
    refine Run.assign rfl rfl rfl (.at rfl) ?_
    refine Run.nil ?_
    refine WP.seq (WP.region (l := [0, 1]) rfl ?_)
    refine Run.move rfl rfl rfl (.at rfl) ?_
    refine Run.int rfl rfl rfl (.at rfl) (.at rfl) rfl ?_
    refine Run.nil ?_
    refine WP.cond_t (.at rfl) (by simpa using h) ?_
    refine WP.seq (WP.region (l := [0, 1, 2]) rfl ?_)
    refine Run.move rfl rfl rfl (.at rfl) ?_
    refine Run.assign rfl rfl rfl (.at rfl) ?_
    refine Run.assign rfl rfl rfl (.at rfl) ?_
    refine Run.nil ?_
    refine WP.ret ?_
    exact Ends.pure (.tmp rfl (.tmp rfl .nil)) rfl
theorem l_implAre {C : Cx Try.prog 37} {Q : Post} {a b : V3} {L : List (List V3)} {N b6 b7 : Nat} {res : Bool} (hN : N ≤ 200) (hL : L.length = N) (hln : ∀ l ∈ L, l.length ≤ 200)
    (hQ : res = false → Q (.exit 0) ⟨[], [[], [], []]⟩) (hR : Q .ret ⟨[(8, .bool res), (9, .int .i64 0)], [[], [], []]⟩) :
    ∀ (d k : Nat), k + d = N → findA a b (L.drop k) = res → LP C (nav Try.f13.body.get! [1, 1, 0, 1, 0, 0]) Q ⟨[(6, .adr 0 b6 0), (7, .adr 1 b7 0), (24, .imm (nest L) N), (25, .int .i64 N), (26, .int .i64 k)], [[(b6, a.cs)], [(b7, b.cs)], []]⟩ := by
  intro d
  induction d with
  | zero =>
    intro k hd he
    rw [List.drop_eq_nil_of_le (by omega)] at he
    refine LP.round ?_
    refine WP.seq (WP.region (l := [0]) rfl ?_)
    refine Run.int rfl rfl rfl (.at rfl) (.at rfl) rfl ?_
    refine Run.nil ?_
    refine WP.seq ?_
    refine WP.cond_f (.at rfl) (by simp; omega) ?_
    exact WP.keep (WP.exit (hQ he.symm)) (by repeat (first | exact trivial | refine ⟨rfl, ?_⟩)) (by repeat (first | exact HSub.nil | refine HSub.keep ?_ | refine HSub.dead ?_))
  | succ d ih =>
    intro k hd he
    have hk : k < L.length := by omega
    have hdr : L.drop k = L.getD k [] :: L.drop (k + 1) := by
      rw [List.drop_eq_getElem_cons hk]
      simp [hk]
    have hlk := hln _ (getD_mem (z := []) hk)
    rw [hdr] at he
    unfold findA at he
    refine LP.round ?_
    refine WP.seq (WP.region (l := [0]) rfl ?_)
    refine Run.int rfl rfl rfl (.at rfl) (.at rfl) rfl ?_
    refine Run.nil ?_
    refine WP.seq ?_
    refine WP.cond_t (.at rfl) (by simp; omega) ?_
    refine WP.skip ?_
    refine WP.seq ?_
    refine WP.block ?_
    refine WP.seq (WP.region (l := [0, 1, 2]) rfl ?_)
    refine Run.idx_imm (j := k) rfl rfl rfl (.at rfl) (.at rfl) sl_36_1 rfl (show k < N by omega) ?_
    refine Run.load rfl rfl rfl (.at rfl) .imm sc_51 (nest_at hk) ?_
    refine Run.assign rfl rfl rfl (.at rfl) ?_
    refine Run.nil ?_
    refine WP.seq (WP.region (l := [0, 1, 2]) rfl ?_)
    refine Run.move rfl rfl rfl (.at rfl) ?_
    refine Run.loads rfl rfl rfl (.at rfl) (place_adr rfl) ag_33_3 rfl rfl ?_
    refine Run.call rfl rfl rfl (.at rfl) (.cons (.at rfl) (.cons (.at rfl) .nil)) (c_containsP (L.getD k []) a (n := (L.getD k []).length) (by omega) rfl) ?_
    refine Run.nil ?_
    refine WP.cond (.at rfl) (fun hc2 => ?_) (fun hc2 => ?_)
    · rw [if_pos (of_decide_eq_true hc2)] at he
      rw [← he] at hR
      refine WP.seq (WP.region (l := [0, 1, 2, 3, 4]) rfl ?_)
      refine Run.move rfl rfl rfl (.at rfl) ?_
      refine Run.loads rfl rfl rfl (.at rfl) (place_adr rfl) ag_33_3 rfl rfl ?_
      refine Run.call rfl rfl rfl (.at rfl) (.cons (.at rfl) (.cons (.at rfl) .nil)) (c_containsP (L.getD k []) b (n := (L.getD k []).length) (by omega) rfl) ?_
      refine Run.assign rfl rfl rfl (.at rfl) ?_
      refine Run.assign rfl rfl rfl (.at rfl) ?_
      refine Run.nil ?_
      exact WP.keep (WP.ret hR) (by repeat (first | exact trivial | refine ⟨rfl, ?_⟩)) (by repeat (first | exact HSub.nil | refine HSub.keep ?_ | refine HSub.dead ?_))
    · rw [if_neg (of_decide_eq_false hc2)] at he
      refine WP.skip ?_
      refine WP.region (l := [0, 1]) rfl ?_
      refine Run.add rfl rfl rfl (.at rfl) (.at rfl) (by omega) ?_
      refine Run.move rfl rfl rfl (.at rfl) ?_
      refine Run.nil ?_
      exact LP.keep (ih (k + 1) (by omega) he) (by repeat (first | exact trivial | refine ⟨rfl, ?_⟩)) (by repeat (first | exact HSub.nil | refine HSub.keep ?_ | refine HSub.dead ?_))
theorem c_implAre (p : Int) (ms : List M3) (a b : V3) {n : Nat} (hn : n ≤ 2000000) (hl : ms.length = n) :
    Pure Try.prog 13 [.int .i64 p, .imm (cs9 ms) n, a.av, b.av] (.tup [.bool (areR p ms a b), .int .i64 (codeL p ms [a, b])]) := by
  by_cases h : codeL p ms [a, b] = 0
  · obtain ⟨hp, hok, _, h8⟩ := codeL_ok h
    obtain ⟨ha, hb⟩ := codeL_pts h
    have hcnt := pts_cnt hp
    have hfa := findA_orbs hp hok ha hb
    have hol : (orbsM p ms).length ≤ (pts p).length := outTo_le _ _ _
    have hr : areR p ms a b = decide (b ∈ orbM p ms a) := by unfold areR; rw [h]; rfl
    rw [hr, h]
    refine Pure.body 3 (n := 37) (fn := Try.f13) (c := Try.f13.body.get!) fn_13 rfl nm_13 rfl rfl fun C => ?_
    refine WP.seq (WP.region (l := [0, 1, 2, 3]) rfl ?_)
    refine Run.box 0 rfl rfl rfl (.at rfl) rfl (fun b6 => ?_)
    refine Run.box 1 rfl rfl rfl (.at rfl) rfl (fun b7 => ?_)
    refine Run.assign rfl rfl rfl (.at rfl) ?_
    refine Run.assign rfl rfl rfl (.at rfl) ?_
    refine Run.nil ?_
    refine WP.seq ?_
    refine WP.seq (WP.region (l := [0, 1, 2, 3, 4, 5, 6]) rfl ?_)
    refine Run.move rfl rfl rfl (.at rfl) ?_
    refine Run.move rfl rfl rfl (.at rfl) ?_
    refine Run.loads rfl rfl rfl (.at rfl) (place_adr rfl) ag_33_3 rfl rfl ?_
    refine Run.loads rfl rfl rfl (.at rfl) (place_adr rfl) ag_33_3 rfl rfl ?_
    refine Run.buildSlice 2 rfl rfl rfl el_51 (by decide) (.cons (.at rfl) rfl (.cons (.at rfl) rfl .nil)) rfl rfl (fun b17 => ?_)
    refine Run.acts [] [] rfl rfl rfl (.at rfl) (.cons (.at rfl) (.cons (.at rfl) (.cons (.at rfl) .nil))) (.cons .refl (.cons .refl (.cons (Lend.one rfl (by omega) (by rfl)) .nil))) ((c_listCode p ms [a, b] hn hl (k := 2) (by decide) rfl).acts) rfl rfl rfl (fun x H h => ?_) (fun x H h => ?_)
    · obtain ⟨rfl, rfl⟩ := h; exact ⟨rfl, by first | rfl | simp [cleanH, cs3_cl]; done | simp [cleanH, ints_cl]; done | simp [cleanH, cs3_cl, ints_cl]; done | simp [cleanH, cs9_cl]; done | simp [cleanH, cs9_cl, cs3_cl, ints_cl]; done⟩
    obtain ⟨rfl, rfl⟩ := h
    refine Run.assign rfl rfl rfl (.at rfl) ?_
    refine Run.nil ?_
    refine WP.seq (WP.region (l := [0, 1]) rfl ?_)
    refine Run.move rfl rfl rfl (.at rfl) ?_
    refine Run.int rfl rfl rfl (.at rfl) (.at rfl) rfl ?_
    refine Run.nil ?_
    refine WP.cond_f (.at rfl) (by rw [h]; rfl) ?_
    refine WP.skip ?_
    refine WP.seq ?_
    refine WP.seq (WP.region (l := [0, 1, 2, 3, 4]) rfl ?_)
    refine Run.move rfl rfl rfl (.at rfl) ?_
    refine Run.move rfl rfl rfl (.at rfl) ?_
    refine Run.call rfl rfl rfl (.at rfl) (.cons (.at rfl) (.cons (.at rfl) .nil)) (c_orbits p ms hp (by omega) hl hok) ?_
    refine Run.len rfl rfl rfl (.at rfl) is_36 rfl ?_
    refine Run.move rfl rfl rfl (.at rfl) ?_
    refine Run.nil ?_
    refine WP.block ?_
    refine WP.loop (LP.keep (l_implAre (a := a) (b := b) (L := orbsM p ms) (N := (orbsM p ms).length) (res := decide (b ∈ orbM p ms a)) (by omega) rfl (fun l hl => by have := outTo_len hl; omega) (fun h => ?_) ?_ (orbsM p ms).length 0 (by omega) hfa) (by repeat (first | exact trivial | refine ⟨rfl, ?_⟩)) (by repeat (first | exact HSub.nil | refine HSub.keep ?_ | refine HSub.dead ?_)))
    rotate_left
    · exact Ends.pure (.tmp rfl (.tmp rfl .nil)) rfl
    refine WP.seq (WP.region (l := [0, 1]) rfl ?_)
    refine Run.assign rfl rfl rfl (.at rfl) ?_
    refine Run.assign rfl rfl rfl (.at rfl) ?_
    refine Run.nil ?_
    refine WP.ret ?_
    exact Ends.pure (.tmp rfl (.tmp rfl .nil)) (by rw [h]; rfl)
  · have hr : areR p ms a b = false := by unfold areR; rw [beq_eq_false_iff_ne.2 h]; rfl
    rw [hr]
    refine Pure.body 3 (n := 37) (fn := Try.f13) (c := Try.f13.body.get!) fn_13 rfl nm_13 rfl rfl fun C => ?_
    refine WP.seq (WP.region (l := [0, 1, 2, 3]) rfl ?_)
    refine Run.box 0 rfl rfl rfl (.at rfl) rfl (fun b6 => ?_)
    refine Run.box 1 rfl rfl rfl (.at rfl) rfl (fun b7 => ?_)
    refine Run.assign rfl rfl rfl (.at rfl) ?_
    refine Run.assign rfl rfl rfl (.at rfl) ?_
    refine Run.nil ?_
    refine WP.seq ?_
    refine WP.seq (WP.region (l := [0, 1, 2, 3, 4, 5, 6]) rfl ?_)
    refine Run.move rfl rfl rfl (.at rfl) ?_
    refine Run.move rfl rfl rfl (.at rfl) ?_
    refine Run.loads rfl rfl rfl (.at rfl) (place_adr rfl) ag_33_3 rfl rfl ?_
    refine Run.loads rfl rfl rfl (.at rfl) (place_adr rfl) ag_33_3 rfl rfl ?_
    refine Run.buildSlice 2 rfl rfl rfl el_51 (by decide) (.cons (.at rfl) rfl (.cons (.at rfl) rfl .nil)) rfl rfl (fun b17 => ?_)
    refine Run.acts [] [] rfl rfl rfl (.at rfl) (.cons (.at rfl) (.cons (.at rfl) (.cons (.at rfl) .nil))) (.cons .refl (.cons .refl (.cons (Lend.one rfl (by omega) (by rfl)) .nil))) ((c_listCode p ms [a, b] hn hl (k := 2) (by decide) rfl).acts) rfl rfl rfl (fun x H h => ?_) (fun x H h => ?_)
    · obtain ⟨rfl, rfl⟩ := h; exact ⟨rfl, by first | rfl | simp [cleanH, cs3_cl]; done | simp [cleanH, ints_cl]; done | simp [cleanH, cs3_cl, ints_cl]; done | simp [cleanH, cs9_cl]; done | simp [cleanH, cs9_cl, cs3_cl, ints_cl]; done⟩
    obtain ⟨rfl, rfl⟩ := h
    refine Run.assign rfl rfl rfl (.at rfl) ?_
    refine Run.nil ?_
    refine WP.seq (WP.region (l := [0, 1]) rfl ?_)
    refine Run.move rfl rfl rfl (.at rfl) ?_
    refine Run.int rfl rfl rfl (.at rfl) (.at rfl) rfl ?_
    refine Run.nil ?_
    refine WP.cond_t (.at rfl) (by simpa using h) ?_
    refine WP.seq (WP.region (l := [0, 1, 2]) rfl ?_)
    refine Run.move rfl rfl rfl (.at rfl) ?_
    refine Run.assign rfl rfl rfl (.at rfl) ?_
    refine Run.assign rfl rfl rfl (.at rfl) ?_
    refine Run.nil ?_
    refine WP.ret ?_
    exact Ends.pure (.tmp rfl (.tmp rfl .nil)) rfl
theorem c_areLaw0 (p : Int) (l : List M3) (a b : V3) {n : Nat} (hl : l.length = n) (hn : n ≤ 9223372036854775807) (h : 1000000 < n) : Pure Try.prog 4 [.int .i64 p, .imm (cs9 l) n, a.av, b.av] (.bool true) := by
  refine Pure.body 2 (n := 77) (fn := Try.f4) (c := Try.f4.body.get!) fn_4 rfl nm_4 rfl rfl fun C => ?_
  refine WP.seq (WP.region (l := [0, 1, 2]) rfl ?_)
  refine Run.box 0 rfl rfl rfl (.at rfl) rfl (fun b6 => ?_)
  refine Run.box 1 rfl rfl rfl (.at rfl) rfl (fun b7 => ?_)
  refine Run.assign rfl rfl rfl (.at rfl) ?_
  refine Run.nil ?_
  refine WP.seq (WP.region (l := [0]) rfl ?_)
  refine Run.assign rfl rfl rfl (.at rfl) ?_
  refine Run.nil ?_
  refine WP.seq (WP.region (l := [0, 1, 2, 3]) rfl ?_)
  refine Run.move rfl rfl rfl (.at rfl) ?_
  refine Run.move rfl rfl rfl (.at rfl) ?_
  refine Run.call rfl rfl rfl (.at rfl) (.cons (.at rfl) (.cons (.at rfl) .nil)) (c_szMapS 1000000 (by decide) hn) ?_
  refine Run.assign rfl rfl rfl (.at rfl) ?_
  refine Run.nil ?_
  refine WP.seq ?_
  refine WP.seq (WP.region (l := [0, 1]) rfl ?_)
  refine Run.move rfl rfl rfl (.at rfl) ?_
  refine Run.int rfl rfl rfl (.at rfl) (.at rfl) rfl ?_
  refine Run.nil ?_
  refine WP.cond_t (.at rfl) (by rw [if_pos (by omega)]; rfl) ?_
  refine WP.seq (WP.region (l := [0]) rfl ?_)
  refine Run.assign rfl rfl rfl (.at rfl) ?_
  refine Run.nil ?_
  refine WP.ret ?_
  exact Ends.pure (.tmp rfl .nil) rfl
theorem c_areLaw1 (p : Int) (l : List M3) (a b : V3) {n : Nat} (hl : l.length = n) (hn : n ≤ 1000000) : Pure Try.prog 4 [.int .i64 p, .imm (cs9 l) n, a.av, b.av] (.bool true) := by
  have hrm := room_le n
  have hpl := padM_length l hl
  have lend : ∀ {H : List Ar} {id b : Nat}, H[id]? = some [(b, cs9 (padM l))] → Lend H (.own id b 9 0 n (n + room n) false) (.imm (cs9 l) n) := fun h => Lend.one h (by omega) (padM_take l)
  have lnil : ∀ {H : List Ar}, n = 0 → Lend H .nilsl (.imm (cs9 l) n) := fun h => by subst h; exact .nil
  have hS := c_specAre p l a b (n := n) (by omega) hl
  have hI := c_implAre p l a b (n := n) (by omega) hl
  by_cases h0 : n = 0
  · skip
    refine Pure.body 6 (n := 77) (fn := Try.f4) (c := Try.f4.body.get!) fn_4 rfl nm_4 rfl rfl fun C => ?_
    refine WP.seq (WP.region (l := [0, 1, 2]) rfl ?_)
    refine Run.box 0 rfl rfl rfl (.at rfl) rfl (fun b6 => ?_)
    refine Run.box 1 rfl rfl rfl (.at rfl) rfl (fun b7 => ?_)
    refine Run.assign rfl rfl rfl (.at rfl) ?_
    refine Run.nil ?_
    refine WP.seq (WP.region (l := [0]) rfl ?_)
    refine Run.assign rfl rfl rfl (.at rfl) ?_
    refine Run.nil ?_
    refine WP.seq (WP.region (l := [0, 1, 2, 3]) rfl ?_)
    refine Run.move rfl rfl rfl (.at rfl) ?_
    refine Run.move rfl rfl rfl (.at rfl) ?_
    refine Run.call rfl rfl rfl (.at rfl) (.cons (.at rfl) (.cons (.at rfl) .nil)) (c_szMapS 1000000 (by decide) (by omega)) ?_
    refine Run.assign rfl rfl rfl (.at rfl) ?_
    refine Run.nil ?_
    refine WP.seq ?_
    refine WP.seq (WP.region (l := [0, 1]) rfl ?_)
    refine Run.move rfl rfl rfl (.at rfl) ?_
    refine Run.int rfl rfl rfl (.at rfl) (.at rfl) rfl ?_
    refine Run.nil ?_
    refine WP.cond_f (.at rfl) (by rw [if_neg (by omega)]; simp; omega) ?_
    refine WP.skip ?_
    refine WP.seq (WP.draw mx_0 ?_)
    refine Drawn.move 0 rfl (by kernel_rfl) rfl (.at rfl) ?_
    refine Drawn.move 1 rfl (by kernel_rfl) rfl (.at rfl) ?_
    refine Drawn.calmE [] ?_
    refine DrawE.tree [2, 3, 4, 5, 6, 7, 8, 9, 10, 11, 12] 11 rfl rfl (by kernel_rfl) (by kernel_rfl) rfl ?_
    intro f
    refine' RunT.cut1 ?_ ?_
    rotate_left
    · intro hm
      refine RunT.three 2 3 5 (by kernel_rfl) ?_ ?_ ?_
      · skip
        refine Run.acts [] [2] rfl rfl rfl (.at rfl) (.cons (.at rfl) (.cons (.at rfl) .nil)) (LendL.refl _ _) (c_toMapS 2 l false hn hl rfl) rfl rfl rfl (fun x H h => ?_) (fun x H h => ?_)
        · obtain ⟨b25, rfl, rfl⟩ := h; exact ⟨rfl, by first | rfl | simp [cleanH, cs3_cl]; done | simp [cleanH, ints_cl]; done | simp [cleanH, cs3_cl, ints_cl]; done | simp [cleanH, cs9_cl]; done | simp [cleanH, cs9_cl, cs3_cl, ints_cl]; done⟩
        obtain ⟨b25, rfl, rfl⟩ := h
        refine Run.nil ?_
        refine RunT.two 3 5 (by kernel_rfl) ?_ ?_
        · skip
          refine Run.loads rfl rfl rfl (.at rfl) (place_adr rfl) ag_30_3 rfl rfl ?_
          refine Run.nil ?_
          refine RunT.two 4 5 (by kernel_rfl) ?_ ?_
          · skip
            refine Run.call rfl rfl rfl (.at rfl) (.cons (.at rfl) .nil) (c_toPoint _) ?_
            refine Run.nil ?_
            refine RunT.one 5 (by kernel_rfl) ?_
            refine Run.loads rfl rfl rfl (.at rfl) (place_adr rfl) ag_30_3 rfl rfl ?_
            refine Run.nil ?_
            refine RunT.one 6 (by kernel_rfl) ?_
            refine Run.call rfl rfl rfl (.at rfl) (.cons (.at rfl) .nil) (c_toPoint _) ?_
            refine Run.nil ?_
            refine RunT.one 7 (by kernel_rfl) ?_
            refine Run.acts [] [] rfl rfl rfl (.at rfl) (.cons (.at rfl) (.cons (.at rfl) (.cons (.at rfl) (.cons (.at rfl) .nil)))) (.cons .refl (.cons (lend rfl) (.cons .refl (.cons .refl .nil)))) (hS.acts) rfl rfl rfl (fun x H h => ?_) (fun x H h => ?_)
            · obtain ⟨rfl, rfl⟩ := h; exact ⟨rfl, by first | rfl | simp [cleanH, cs3_cl]; done | simp [cleanH, ints_cl]; done | simp [cleanH, cs3_cl, ints_cl]; done | simp [cleanH, cs9_cl]; done | simp [cleanH, cs9_cl, cs3_cl, ints_cl]; done⟩
            obtain ⟨rfl, rfl⟩ := h
            refine Run.nil ?_
            refine RunT.one 8 (by kernel_rfl) ?_
            refine Run.move rfl rfl rfl (.at rfl) ?_
            refine Run.nil ?_
            refine RunT.two 9 10 (by kernel_rfl) ?_ ?_
            · skip
              refine Run.extract rfl rfl rfl (.at rfl) rfl ?_
              refine Run.nil ?_
              refine RunT.two 10 11 (by kernel_rfl) ?_ ?_
              · skip
                refine Run.extract rfl rfl rfl (.at rfl) rfl ?_
                refine Run.nil ?_
                refine RunT.one 11 (by kernel_rfl) ?_
                refine Run.assign rfl rfl rfl (.at rfl) ?_
                refine Run.nil ?_
                refine RunT.one 12 (by kernel_rfl) ?_
                refine Run.assign rfl rfl rfl (.at rfl) ?_
                refine Run.nil ?_
                exact RunT.done (by kernel_rfl) (WP.trim (fr' := [(0, _), (1, _), (6, _), (7, _), (10, _), (11, _)]) (H' := [_, _, _, _, _, _]) (hm b25) ⟨rfl, rfl, rfl, rfl, rfl, rfl, trivial⟩ rfl)
              · skip
                refine Run.assign rfl rfl rfl (.at rfl) ?_
                refine Run.nil ?_
                refine RunT.one 10 (by kernel_rfl) ?_
                refine Run.extract rfl rfl rfl (.at rfl) rfl ?_
                refine Run.nil ?_
                refine RunT.one 12 (by kernel_rfl) ?_
                refine Run.assign rfl rfl rfl (.at rfl) ?_
                refine Run.nil ?_
                exact RunT.done (by kernel_rfl) (by first | exact WP.keep (hm b25) (by repeat (first | exact trivial | refine ⟨rfl, ?_⟩)) (by repeat (first | exact HSub.nil | refine HSub.keep ?_ | refine HSub.dead ?_)) | exact LP.keep (hm b25) (by repeat (first | exact trivial | refine ⟨rfl, ?_⟩)) (by repeat (first | exact HSub.nil | refine HSub.keep ?_ | refine HSub.dead ?_)))
            · skip
              refine Run.extract rfl rfl rfl (.at rfl) rfl ?_
              refine Run.nil ?_
              refine RunT.one 9 (by kernel_rfl) ?_
              refine Run.extract rfl rfl rfl (.at rfl) rfl ?_
              refine Run.nil ?_
              refine RunT.one 11 (by kernel_rfl) ?_
              refine Run.assign rfl rfl rfl (.at rfl) ?_
              refine Run.nil ?_
              refine RunT.one 12 (by kernel_rfl) ?_
              refine Run.assign rfl rfl rfl (.at rfl) ?_
              refine Run.nil ?_
              exact RunT.done (by kernel_rfl) (by first | exact WP.keep (hm b25) (by repeat (first | exact trivial | refine ⟨rfl, ?_⟩)) (by repeat (first | exact HSub.nil | refine HSub.keep ?_ | refine HSub.dead ?_)) | exact LP.keep (hm b25) (by repeat (first | exact trivial | refine ⟨rfl, ?_⟩)) (by repeat (first | exact HSub.nil | refine HSub.keep ?_ | refine HSub.dead ?_)))
          · skip
            refine Run.loads rfl rfl rfl (.at rfl) (place_adr rfl) ag_30_3 rfl rfl ?_
            refine Run.nil ?_
            refine RunT.one 4 (by kernel_rfl) ?_
            refine Run.call rfl rfl rfl (.at rfl) (.cons (.at rfl) .nil) (c_toPoint _) ?_
            refine Run.nil ?_
            refine RunT.one 6 (by kernel_rfl) ?_
            refine Run.call rfl rfl rfl (.at rfl) (.cons (.at rfl) .nil) (c_toPoint _) ?_
            refine Run.nil ?_
            refine RunT.one 7 (by kernel_rfl) ?_
            refine Run.acts [] [] rfl rfl rfl (.at rfl) (.cons (.at rfl) (.cons (.at rfl) (.cons (.at rfl) (.cons (.at rfl) .nil)))) (.cons .refl (.cons (lend rfl) (.cons .refl (.cons .refl .nil)))) (hS.acts) rfl rfl rfl (fun x H h => ?_) (fun x H h => ?_)
            · obtain ⟨rfl, rfl⟩ := h; exact ⟨rfl, by first | rfl | simp [cleanH, cs3_cl]; done | simp [cleanH, ints_cl]; done | simp [cleanH, cs3_cl, ints_cl]; done | simp [cleanH, cs9_cl]; done | simp [cleanH, cs9_cl, cs3_cl, ints_cl]; done⟩
            obtain ⟨rfl, rfl⟩ := h
            refine Run.nil ?_
            refine RunT.one 8 (by kernel_rfl) ?_
            refine Run.move rfl rfl rfl (.at rfl) ?_
            refine Run.nil ?_
            refine RunT.two 9 10 (by kernel_rfl) ?_ ?_
            · skip
              refine Run.extract rfl rfl rfl (.at rfl) rfl ?_
              refine Run.nil ?_
              refine RunT.two 10 11 (by kernel_rfl) ?_ ?_
              · skip
                refine Run.extract rfl rfl rfl (.at rfl) rfl ?_
                refine Run.nil ?_
                refine RunT.one 11 (by kernel_rfl) ?_
                refine Run.assign rfl rfl rfl (.at rfl) ?_
                refine Run.nil ?_
                refine RunT.one 12 (by kernel_rfl) ?_
                refine Run.assign rfl rfl rfl (.at rfl) ?_
                refine Run.nil ?_
                exact RunT.done (by kernel_rfl) (by first | exact WP.keep (hm b25) (by repeat (first | exact trivial | refine ⟨rfl, ?_⟩)) (by repeat (first | exact HSub.nil | refine HSub.keep ?_ | refine HSub.dead ?_)) | exact LP.keep (hm b25) (by repeat (first | exact trivial | refine ⟨rfl, ?_⟩)) (by repeat (first | exact HSub.nil | refine HSub.keep ?_ | refine HSub.dead ?_)))
              · skip
                refine Run.assign rfl rfl rfl (.at rfl) ?_
                refine Run.nil ?_
                refine RunT.one 10 (by kernel_rfl) ?_
                refine Run.extract rfl rfl rfl (.at rfl) rfl ?_
                refine Run.nil ?_
                refine RunT.one 12 (by kernel_rfl) ?_
                refine Run.assign rfl rfl rfl (.at rfl) ?_
                refine Run.nil ?_
                exact RunT.done (by kernel_rfl) (by first | exact WP.keep (hm b25) (by repeat (first | exact trivial | refine ⟨rfl, ?_⟩)) (by repeat (first | exact HSub.nil | refine HSub.keep ?_ | refine HSub.dead ?_)) | exact LP.keep (hm b25) (by repeat (first | exact trivial | refine ⟨rfl, ?_⟩)) (by repeat (first | exact HSub.nil | refine HSub.keep ?_ | refine HSub.dead ?_)))
            · skip
              refine Run.extract rfl rfl rfl (.at rfl) rfl ?_
              refine Run.nil ?_
              refine RunT.one 9 (by kernel_rfl) ?_
              refine Run.extract rfl rfl rfl (.at rfl) rfl ?_
              refine Run.nil ?_
              refine RunT.one 11 (by kernel_rfl) ?_
              refine Run.assign rfl rfl rfl (.at rfl) ?_
              refine Run.nil ?_
              refine RunT.one 12 (by kernel_rfl) ?_
              refine Run.assign rfl rfl rfl (.at rfl) ?_
              refine Run.nil ?_
              exact RunT.done (by kernel_rfl) (by first | exact WP.keep (hm b25) (by repeat (first | exact trivial | refine ⟨rfl, ?_⟩)) (by repeat (first | exact HSub.nil | refine HSub.keep ?_ | refine HSub.dead ?_)) | exact LP.keep (hm b25) (by repeat (first | exact trivial | refine ⟨rfl, ?_⟩)) (by repeat (first | exact HSub.nil | refine HSub.keep ?_ | refine HSub.dead ?_)))
        · skip
          refine Run.loads rfl rfl rfl (.at rfl) (place_adr rfl) ag_30_3 rfl rfl ?_
          refine Run.nil ?_
          refine RunT.one 3 (by kernel_rfl) ?_
          refine Run.loads rfl rfl rfl (.at rfl) (place_adr rfl) ag_30_3 rfl rfl ?_
          refine Run.nil ?_
          refine RunT.one 4 (by kernel_rfl) ?_
          refine Run.call rfl rfl rfl (.at rfl) (.cons (.at rfl) .nil) (c_toPoint _) ?_
          refine Run.nil ?_
          refine RunT.one 6 (by kernel_rfl) ?_
          refine Run.call rfl rfl rfl (.at rfl) (.cons (.at rfl) .nil) (c_toPoint _) ?_
          refine Run.nil ?_
          refine RunT.one 7 (by kernel_rfl) ?_
          refine Run.acts [] [] rfl rfl rfl (.at rfl) (.cons (.at rfl) (.cons (.at rfl) (.cons (.at rfl) (.cons (.at rfl) .nil)))) (.cons .refl (.cons (lend rfl) (.cons .refl (.cons .refl .nil)))) (hS.acts) rfl rfl rfl (fun x H h => ?_) (fun x H h => ?_)
          · obtain ⟨rfl, rfl⟩ := h; exact ⟨rfl, by first | rfl | simp [cleanH, cs3_cl]; done | simp [cleanH, ints_cl]; done | simp [cleanH, cs3_cl, ints_cl]; done | simp [cleanH, cs9_cl]; done | simp [cleanH, cs9_cl, cs3_cl, ints_cl]; done⟩
          obtain ⟨rfl, rfl⟩ := h
          refine Run.nil ?_
          refine RunT.one 8 (by kernel_rfl) ?_
          refine Run.move rfl rfl rfl (.at rfl) ?_
          refine Run.nil ?_
          refine RunT.two 9 10 (by kernel_rfl) ?_ ?_
          · skip
            refine Run.extract rfl rfl rfl (.at rfl) rfl ?_
            refine Run.nil ?_
            refine RunT.two 10 11 (by kernel_rfl) ?_ ?_
            · skip
              refine Run.extract rfl rfl rfl (.at rfl) rfl ?_
              refine Run.nil ?_
              refine RunT.one 11 (by kernel_rfl) ?_
              refine Run.assign rfl rfl rfl (.at rfl) ?_
              refine Run.nil ?_
              refine RunT.one 12 (by kernel_rfl) ?_
              refine Run.assign rfl rfl rfl (.at rfl) ?_
              refine Run.nil ?_
              exact RunT.done (by kernel_rfl) (by first | exact WP.keep (hm b25) (by repeat (first | exact trivial | refine ⟨rfl, ?_⟩)) (by repeat (first | exact HSub.nil | refine HSub.keep ?_ | refine HSub.dead ?_)) | exact LP.keep (hm b25) (by repeat (first | exact trivial | refine ⟨rfl, ?_⟩)) (by repeat (first | exact HSub.nil | refine HSub.keep ?_ | refine HSub.dead ?_)))
            · skip
              refine Run.assign rfl rfl rfl (.at rfl) ?_
              refine Run.nil ?_
              refine RunT.one 10 (by kernel_rfl) ?_
              refine Run.extract rfl rfl rfl (.at rfl) rfl ?_
              refine Run.nil ?_
              refine RunT.one 12 (by kernel_rfl) ?_
              refine Run.assign rfl rfl rfl (.at rfl) ?_
              refine Run.nil ?_
              exact RunT.done (by kernel_rfl) (by first | exact WP.keep (hm b25) (by repeat (first | exact trivial | refine ⟨rfl, ?_⟩)) (by repeat (first | exact HSub.nil | refine HSub.keep ?_ | refine HSub.dead ?_)) | exact LP.keep (hm b25) (by repeat (first | exact trivial | refine ⟨rfl, ?_⟩)) (by repeat (first | exact HSub.nil | refine HSub.keep ?_ | refine HSub.dead ?_)))
          · skip
            refine Run.extract rfl rfl rfl (.at rfl) rfl ?_
            refine Run.nil ?_
            refine RunT.one 9 (by kernel_rfl) ?_
            refine Run.extract rfl rfl rfl (.at rfl) rfl ?_
            refine Run.nil ?_
            refine RunT.one 11 (by kernel_rfl) ?_
            refine Run.assign rfl rfl rfl (.at rfl) ?_
            refine Run.nil ?_
            refine RunT.one 12 (by kernel_rfl) ?_
            refine Run.assign rfl rfl rfl (.at rfl) ?_
            refine Run.nil ?_
            exact RunT.done (by kernel_rfl) (by first | exact WP.keep (hm b25) (by repeat (first | exact trivial | refine ⟨rfl, ?_⟩)) (by repeat (first | exact HSub.nil | refine HSub.keep ?_ | refine HSub.dead ?_)) | exact LP.keep (hm b25) (by repeat (first | exact trivial | refine ⟨rfl, ?_⟩)) (by repeat (first | exact HSub.nil | refine HSub.keep ?_ | refine HSub.dead ?_)))
      · skip
        refine Run.loads rfl rfl rfl (.at rfl) (place_adr rfl) ag_30_3 rfl rfl ?_
        refine Run.nil ?_
        refine RunT.two 2 5 (by kernel_rfl) ?_ ?_
        · skip
          refine Run.acts [] [2] rfl rfl rfl (.at rfl) (.cons (.at rfl) (.cons (.at rfl) .nil)) (LendL.refl _ _) (c_toMapS 2 l false hn hl rfl) rfl rfl rfl (fun x H h => ?_) (fun x H h => ?_)
          · obtain ⟨b25, rfl, rfl⟩ := h; exact ⟨rfl, by first | rfl | simp [cleanH, cs3_cl]; done | simp [cleanH, ints_cl]; done | simp [cleanH, cs3_cl, ints_cl]; done | simp [cleanH, cs9_cl]; done | simp [cleanH, cs9_cl, cs3_cl, ints_cl]; done⟩
          obtain ⟨b25, rfl, rfl⟩ := h
          refine Run.nil ?_
          refine RunT.two 4 5 (by kernel_rfl) ?_ ?_
          · skip
            refine Run.call rfl rfl rfl (.at rfl) (.cons (.at rfl) .nil) (c_toPoint _) ?_
            refine Run.nil ?_
            refine RunT.one 5 (by kernel_rfl) ?_
            refine Run.loads rfl rfl rfl (.at rfl) (place_adr rfl) ag_30_3 rfl rfl ?_
            refine Run.nil ?_
            refine RunT.one 6 (by kernel_rfl) ?_
            refine Run.call rfl rfl rfl (.at rfl) (.cons (.at rfl) .nil) (c_toPoint _) ?_
            refine Run.nil ?_
            refine RunT.one 7 (by kernel_rfl) ?_
            refine Run.acts [] [] rfl rfl rfl (.at rfl) (.cons (.at rfl) (.cons (.at rfl) (.cons (.at rfl) (.cons (.at rfl) .nil)))) (.cons .refl (.cons (lend rfl) (.cons .refl (.cons .refl .nil)))) (hS.acts) rfl rfl rfl (fun x H h => ?_) (fun x H h => ?_)
            · obtain ⟨rfl, rfl⟩ := h; exact ⟨rfl, by first | rfl | simp [cleanH, cs3_cl]; done | simp [cleanH, ints_cl]; done | simp [cleanH, cs3_cl, ints_cl]; done | simp [cleanH, cs9_cl]; done | simp [cleanH, cs9_cl, cs3_cl, ints_cl]; done⟩
            obtain ⟨rfl, rfl⟩ := h
            refine Run.nil ?_
            refine RunT.one 8 (by kernel_rfl) ?_
            refine Run.move rfl rfl rfl (.at rfl) ?_
            refine Run.nil ?_
            refine RunT.two 9 10 (by kernel_rfl) ?_ ?_
            · skip
              refine Run.extract rfl rfl rfl (.at rfl) rfl ?_
              refine Run.nil ?_
              refine RunT.two 10 11 (by kernel_rfl) ?_ ?_
              · skip
                refine Run.extract rfl rfl rfl (.at rfl) rfl ?_
                refine Run.nil ?_
                refine RunT.one 11 (by kernel_rfl) ?_
                refine Run.assign rfl rfl rfl (.at rfl) ?_
                refine Run.nil ?_
                refine RunT.one 12 (by kernel_rfl) ?_
                refine Run.assign rfl rfl rfl (.at rfl) ?_
                refine Run.nil ?_
                exact RunT.done (by kernel_rfl) (by first | exact WP.keep (hm b25) (by repeat (first | exact trivial | refine ⟨rfl, ?_⟩)) (by repeat (first | exact HSub.nil | refine HSub.keep ?_ | refine HSub.dead ?_)) | exact LP.keep (hm b25) (by repeat (first | exact trivial | refine ⟨rfl, ?_⟩)) (by repeat (first | exact HSub.nil | refine HSub.keep ?_ | refine HSub.dead ?_)))
              · skip
                refine Run.assign rfl rfl rfl (.at rfl) ?_
                refine Run.nil ?_
                refine RunT.one 10 (by kernel_rfl) ?_
                refine Run.extract rfl rfl rfl (.at rfl) rfl ?_
                refine Run.nil ?_
                refine RunT.one 12 (by kernel_rfl) ?_
                refine Run.assign rfl rfl rfl (.at rfl) ?_
                refine Run.nil ?_
                exact RunT.done (by kernel_rfl) (by first | exact WP.keep (hm b25) (by repeat (first | exact trivial | refine ⟨rfl, ?_⟩)) (by repeat (first | exact HSub.nil | refine HSub.keep ?_ | refine HSub.dead ?_)) | exact LP.keep (hm b25) (by repeat (first | exact trivial | refine ⟨rfl, ?_⟩)) (by repeat (first | exact HSub.nil | refine HSub.keep ?_ | refine HSub.dead ?_)))
            · skip
              refine Run.extract rfl rfl rfl (.at rfl) rfl ?_
              refine Run.nil ?_
              refine RunT.one 9 (by kernel_rfl) ?_
              refine Run.extract rfl rfl rfl (.at rfl) rfl ?_
              refine Run.nil ?_
              refine RunT.one 11 (by kernel_rfl) ?_
              refine Run.assign rfl rfl rfl (.at rfl) ?_
              refine Run.nil ?_
              refine RunT.one 12 (by kernel_rfl) ?_
              refine Run.assign rfl rfl rfl (.at rfl) ?_
              refine Run.nil ?_
              exact RunT.done (by kernel_rfl) (by first | exact WP.keep (hm b25) (by repeat (first | exact trivial | refine ⟨rfl, ?_⟩)) (by repeat (first | exact HSub.nil | refine HSub.keep ?_ | refine HSub.dead ?_)) | exact LP.keep (hm b25) (by repeat (first | exact trivial | refine ⟨rfl, ?_⟩)) (by repeat (first | exact HSub.nil | refine HSub.keep ?_ | refine HSub.dead ?_)))
          · skip
            refine Run.loads rfl rfl rfl (.at rfl) (place_adr rfl) ag_30_3 rfl rfl ?_
            refine Run.nil ?_
            refine RunT.one 4 (by kernel_rfl) ?_
            refine Run.call rfl rfl rfl (.at rfl) (.cons (.at rfl) .nil) (c_toPoint _) ?_
            refine Run.nil ?_
            refine RunT.one 6 (by kernel_rfl) ?_
            refine Run.call rfl rfl rfl (.at rfl) (.cons (.at rfl) .nil) (c_toPoint _) ?_
            refine Run.nil ?_
            refine RunT.one 7 (by kernel_rfl) ?_
            refine Run.acts [] [] rfl rfl rfl (.at rfl) (.cons (.at rfl) (.cons (.at rfl) (.cons (.at rfl) (.cons (.at rfl) .nil)))) (.cons .refl (.cons (lend rfl) (.cons .refl (.cons .refl .nil)))) (hS.acts) rfl rfl rfl (fun x H h => ?_) (fun x H h => ?_)
            · obtain ⟨rfl, rfl⟩ := h; exact ⟨rfl, by first | rfl | simp [cleanH, cs3_cl]; done | simp [cleanH, ints_cl]; done | simp [cleanH, cs3_cl, ints_cl]; done | simp [cleanH, cs9_cl]; done | simp [cleanH, cs9_cl, cs3_cl, ints_cl]; done⟩
            obtain ⟨rfl, rfl⟩ := h
            refine Run.nil ?_
            refine RunT.one 8 (by kernel_rfl) ?_
            refine Run.move rfl rfl rfl (.at rfl) ?_
            refine Run.nil ?_
            refine RunT.two 9 10 (by kernel_rfl) ?_ ?_
            · skip
              refine Run.extract rfl rfl rfl (.at rfl) rfl ?_
              refine Run.nil ?_
              refine RunT.two 10 11 (by kernel_rfl) ?_ ?_
              · skip
                refine Run.extract rfl rfl rfl (.at rfl) rfl ?_
                refine Run.nil ?_
                refine RunT.one 11 (by kernel_rfl) ?_
                refine Run.assign rfl rfl rfl (.at rfl) ?_
                refine Run.nil ?_
                refine RunT.one 12 (by kernel_rfl) ?_
                refine Run.assign rfl rfl rfl (.at rfl) ?_
                refine Run.nil ?_
                exact RunT.done (by kernel_rfl) (by first | exact WP.keep (hm b25) (by repeat (first | exact trivial | refine ⟨rfl, ?_⟩)) (by repeat (first | exact HSub.nil | refine HSub.keep ?_ | refine HSub.dead ?_)) | exact LP.keep (hm b25) (by repeat (first | exact trivial | refine ⟨rfl, ?_⟩)) (by repeat (first | exact HSub.nil | refine HSub.keep ?_ | refine HSub.dead ?_)))
              · skip
                refine Run.assign rfl rfl rfl (.at rfl) ?_
                refine Run.nil ?_
                refine RunT.one 10 (by kernel_rfl) ?_
                refine Run.extract rfl rfl rfl (.at rfl) rfl ?_
                refine Run.nil ?_
                refine RunT.one 12 (by kernel_rfl) ?_
                refine Run.assign rfl rfl rfl (.at rfl) ?_
                refine Run.nil ?_
                exact RunT.done (by kernel_rfl) (by first | exact WP.keep (hm b25) (by repeat (first | exact trivial | refine ⟨rfl, ?_⟩)) (by repeat (first | exact HSub.nil | refine HSub.keep ?_ | refine HSub.dead ?_)) | exact LP.keep (hm b25) (by repeat (first | exact trivial | refine ⟨rfl, ?_⟩)) (by repeat (first | exact HSub.nil | refine HSub.keep ?_ | refine HSub.dead ?_)))
            · skip
              refine Run.extract rfl rfl rfl (.at rfl) rfl ?_
              refine Run.nil ?_
              refine RunT.one 9 (by kernel_rfl) ?_
              refine Run.extract rfl rfl rfl (.at rfl) rfl ?_
              refine Run.nil ?_
              refine RunT.one 11 (by kernel_rfl) ?_
              refine Run.assign rfl rfl rfl (.at rfl) ?_
              refine Run.nil ?_
              refine RunT.one 12 (by kernel_rfl) ?_
              refine Run.assign rfl rfl rfl (.at rfl) ?_
              refine Run.nil ?_
              exact RunT.done (by kernel_rfl) (by first | exact WP.keep (hm b25) (by repeat (first | exact trivial | refine ⟨rfl, ?_⟩)) (by repeat (first | exact HSub.nil | refine HSub.keep ?_ | refine HSub.dead ?_)) | exact LP.keep (hm b25) (by repeat (first | exact trivial | refine ⟨rfl, ?_⟩)) (by repeat (first | exact HSub.nil | refine HSub.keep ?_ | refine HSub.dead ?_)))
        · skip
          refine Run.loads rfl rfl rfl (.at rfl) (place_adr rfl) ag_30_3 rfl rfl ?_
          refine Run.nil ?_
          refine RunT.one 2 (by kernel_rfl) ?_
          refine Run.acts [] [2] rfl rfl rfl (.at rfl) (.cons (.at rfl) (.cons (.at rfl) .nil)) (LendL.refl _ _) (c_toMapS 2 l false hn hl rfl) rfl rfl rfl (fun x H h => ?_) (fun x H h => ?_)
          · obtain ⟨b25, rfl, rfl⟩ := h; exact ⟨rfl, by first | rfl | simp [cleanH, cs3_cl]; done | simp [cleanH, ints_cl]; done | simp [cleanH, cs3_cl, ints_cl]; done | simp [cleanH, cs9_cl]; done | simp [cleanH, cs9_cl, cs3_cl, ints_cl]; done⟩
          obtain ⟨b25, rfl, rfl⟩ := h
          refine Run.nil ?_
          refine RunT.one 4 (by kernel_rfl) ?_
          refine Run.call rfl rfl rfl (.at rfl) (.cons (.at rfl) .nil) (c_toPoint _) ?_
          refine Run.nil ?_
          refine RunT.one 6 (by kernel_rfl) ?_
          refine Run.call rfl rfl rfl (.at rfl) (.cons (.at rfl) .nil) (c_toPoint _) ?_
          refine Run.nil ?_
          refine RunT.one 7 (by kernel_rfl) ?_
          refine Run.acts [] [] rfl rfl rfl (.at rfl) (.cons (.at rfl) (.cons (.at rfl) (.cons (.at rfl) (.cons (.at rfl) .nil)))) (.cons .refl (.cons (lend rfl) (.cons .refl (.cons .refl .nil)))) (hS.acts) rfl rfl rfl (fun x H h => ?_) (fun x H h => ?_)
          · obtain ⟨rfl, rfl⟩ := h; exact ⟨rfl, by first | rfl | simp [cleanH, cs3_cl]; done | simp [cleanH, ints_cl]; done | simp [cleanH, cs3_cl, ints_cl]; done | simp [cleanH, cs9_cl]; done | simp [cleanH, cs9_cl, cs3_cl, ints_cl]; done⟩
          obtain ⟨rfl, rfl⟩ := h
          refine Run.nil ?_
          refine RunT.one 8 (by kernel_rfl) ?_
          refine Run.move rfl rfl rfl (.at rfl) ?_
          refine Run.nil ?_
          refine RunT.two 9 10 (by kernel_rfl) ?_ ?_
          · skip
            refine Run.extract rfl rfl rfl (.at rfl) rfl ?_
            refine Run.nil ?_
            refine RunT.two 10 11 (by kernel_rfl) ?_ ?_
            · skip
              refine Run.extract rfl rfl rfl (.at rfl) rfl ?_
              refine Run.nil ?_
              refine RunT.one 11 (by kernel_rfl) ?_
              refine Run.assign rfl rfl rfl (.at rfl) ?_
              refine Run.nil ?_
              refine RunT.one 12 (by kernel_rfl) ?_
              refine Run.assign rfl rfl rfl (.at rfl) ?_
              refine Run.nil ?_
              exact RunT.done (by kernel_rfl) (by first | exact WP.keep (hm b25) (by repeat (first | exact trivial | refine ⟨rfl, ?_⟩)) (by repeat (first | exact HSub.nil | refine HSub.keep ?_ | refine HSub.dead ?_)) | exact LP.keep (hm b25) (by repeat (first | exact trivial | refine ⟨rfl, ?_⟩)) (by repeat (first | exact HSub.nil | refine HSub.keep ?_ | refine HSub.dead ?_)))
            · skip
              refine Run.assign rfl rfl rfl (.at rfl) ?_
              refine Run.nil ?_
              refine RunT.one 10 (by kernel_rfl) ?_
              refine Run.extract rfl rfl rfl (.at rfl) rfl ?_
              refine Run.nil ?_
              refine RunT.one 12 (by kernel_rfl) ?_
              refine Run.assign rfl rfl rfl (.at rfl) ?_
              refine Run.nil ?_
              exact RunT.done (by kernel_rfl) (by first | exact WP.keep (hm b25) (by repeat (first | exact trivial | refine ⟨rfl, ?_⟩)) (by repeat (first | exact HSub.nil | refine HSub.keep ?_ | refine HSub.dead ?_)) | exact LP.keep (hm b25) (by repeat (first | exact trivial | refine ⟨rfl, ?_⟩)) (by repeat (first | exact HSub.nil | refine HSub.keep ?_ | refine HSub.dead ?_)))
          · skip
            refine Run.extract rfl rfl rfl (.at rfl) rfl ?_
            refine Run.nil ?_
            refine RunT.one 9 (by kernel_rfl) ?_
            refine Run.extract rfl rfl rfl (.at rfl) rfl ?_
            refine Run.nil ?_
            refine RunT.one 11 (by kernel_rfl) ?_
            refine Run.assign rfl rfl rfl (.at rfl) ?_
            refine Run.nil ?_
            refine RunT.one 12 (by kernel_rfl) ?_
            refine Run.assign rfl rfl rfl (.at rfl) ?_
            refine Run.nil ?_
            exact RunT.done (by kernel_rfl) (by first | exact WP.keep (hm b25) (by repeat (first | exact trivial | refine ⟨rfl, ?_⟩)) (by repeat (first | exact HSub.nil | refine HSub.keep ?_ | refine HSub.dead ?_)) | exact LP.keep (hm b25) (by repeat (first | exact trivial | refine ⟨rfl, ?_⟩)) (by repeat (first | exact HSub.nil | refine HSub.keep ?_ | refine HSub.dead ?_)))
      · skip
        refine Run.loads rfl rfl rfl (.at rfl) (place_adr rfl) ag_30_3 rfl rfl ?_
        refine Run.nil ?_
        refine RunT.two 2 3 (by kernel_rfl) ?_ ?_
        · skip
          refine Run.acts [] [2] rfl rfl rfl (.at rfl) (.cons (.at rfl) (.cons (.at rfl) .nil)) (LendL.refl _ _) (c_toMapS 2 l false hn hl rfl) rfl rfl rfl (fun x H h => ?_) (fun x H h => ?_)
          · obtain ⟨b25, rfl, rfl⟩ := h; exact ⟨rfl, by first | rfl | simp [cleanH, cs3_cl]; done | simp [cleanH, ints_cl]; done | simp [cleanH, cs3_cl, ints_cl]; done | simp [cleanH, cs9_cl]; done | simp [cleanH, cs9_cl, cs3_cl, ints_cl]; done⟩
          obtain ⟨b25, rfl, rfl⟩ := h
          refine Run.nil ?_
          refine RunT.one 3 (by kernel_rfl) ?_
          refine Run.loads rfl rfl rfl (.at rfl) (place_adr rfl) ag_30_3 rfl rfl ?_
          refine Run.nil ?_
          refine RunT.one 4 (by kernel_rfl) ?_
          refine Run.call rfl rfl rfl (.at rfl) (.cons (.at rfl) .nil) (c_toPoint _) ?_
          refine Run.nil ?_
          refine RunT.one 6 (by kernel_rfl) ?_
          refine Run.call rfl rfl rfl (.at rfl) (.cons (.at rfl) .nil) (c_toPoint _) ?_
          refine Run.nil ?_
          refine RunT.one 7 (by kernel_rfl) ?_
          refine Run.acts [] [] rfl rfl rfl (.at rfl) (.cons (.at rfl) (.cons (.at rfl) (.cons (.at rfl) (.cons (.at rfl) .nil)))) (.cons .refl (.cons (lend rfl) (.cons .refl (.cons .refl .nil)))) (hS.acts) rfl rfl rfl (fun x H h => ?_) (fun x H h => ?_)
          · obtain ⟨rfl, rfl⟩ := h; exact ⟨rfl, by first | rfl | simp [cleanH, cs3_cl]; done | simp [cleanH, ints_cl]; done | simp [cleanH, cs3_cl, ints_cl]; done | simp [cleanH, cs9_cl]; done | simp [cleanH, cs9_cl, cs3_cl, ints_cl]; done⟩
          obtain ⟨rfl, rfl⟩ := h
          refine Run.nil ?_
          refine RunT.one 8 (by kernel_rfl) ?_
          refine Run.move rfl rfl rfl (.at rfl) ?_
          refine Run.nil ?_
          refine RunT.two 9 10 (by kernel_rfl) ?_ ?_
          · skip
            refine Run.extract rfl rfl rfl (.at rfl) rfl ?_
            refine Run.nil ?_
            refine RunT.two 10 11 (by kernel_rfl) ?_ ?_
            · skip
              refine Run.extract rfl rfl rfl (.at rfl) rfl ?_
              refine Run.nil ?_
              refine RunT.one 11 (by kernel_rfl) ?_
              refine Run.assign rfl rfl rfl (.at rfl) ?_
              refine Run.nil ?_
              refine RunT.one 12 (by kernel_rfl) ?_
              refine Run.assign rfl rfl rfl (.at rfl) ?_
              refine Run.nil ?_
              exact RunT.done (by kernel_rfl) (by first | exact WP.keep (hm b25) (by repeat (first | exact trivial | refine ⟨rfl, ?_⟩)) (by repeat (first | exact HSub.nil | refine HSub.keep ?_ | refine HSub.dead ?_)) | exact LP.keep (hm b25) (by repeat (first | exact trivial | refine ⟨rfl, ?_⟩)) (by repeat (first | exact HSub.nil | refine HSub.keep ?_ | refine HSub.dead ?_)))
            · skip
              refine Run.assign rfl rfl rfl (.at rfl) ?_
              refine Run.nil ?_
              refine RunT.one 10 (by kernel_rfl) ?_
              refine Run.extract rfl rfl rfl (.at rfl) rfl ?_
              refine Run.nil ?_
              refine RunT.one 12 (by kernel_rfl) ?_
              refine Run.assign rfl rfl rfl (.at rfl) ?_
              refine Run.nil ?_
              exact RunT.done (by kernel_rfl) (by first | exact WP.keep (hm b25) (by repeat (first | exact trivial | refine ⟨rfl, ?_⟩)) (by repeat (first | exact HSub.nil | refine HSub.keep ?_ | refine HSub.dead ?_)) | exact LP.keep (hm b25) (by repeat (first | exact trivial | refine ⟨rfl, ?_⟩)) (by repeat (first | exact HSub.nil | refine HSub.keep ?_ | refine HSub.dead ?_)))
          · skip
            refine Run.extract rfl rfl rfl (.at rfl) rfl ?_
            refine Run.nil ?_
            refine RunT.one 9 (by kernel_rfl) ?_
            refine Run.extract rfl rfl rfl (.at rfl) rfl ?_
            refine Run.nil ?_
            refine RunT.one 11 (by kernel_rfl) ?_
            refine Run.assign rfl rfl rfl (.at rfl) ?_
            refine Run.nil ?_
            refine RunT.one 12 (by kernel_rfl) ?_
            refine Run.assign rfl rfl rfl (.at rfl) ?_
            refine Run.nil ?_
            exact RunT.done (by kernel_rfl) (by first | exact WP.keep (hm b25) (by repeat (first | exact trivial | refine ⟨rfl, ?_⟩)) (by repeat (first | exact HSub.nil | refine HSub.keep ?_ | refine HSub.dead ?_)) | exact LP.keep (hm b25) (by repeat (first | exact trivial | refine ⟨rfl, ?_⟩)) (by repeat (first | exact HSub.nil | refine HSub.keep ?_ | refine HSub.dead ?_)))
        · skip
          refine Run.loads rfl rfl rfl (.at rfl) (place_adr rfl) ag_30_3 rfl rfl ?_
          refine Run.nil ?_
          refine RunT.one 2 (by kernel_rfl) ?_
          refine Run.acts [] [2] rfl rfl rfl (.at rfl) (.cons (.at rfl) (.cons (.at rfl) .nil)) (LendL.refl _ _) (c_toMapS 2 l false hn hl rfl) rfl rfl rfl (fun x H h => ?_) (fun x H h => ?_)
          · obtain ⟨b25, rfl, rfl⟩ := h; exact ⟨rfl, by first | rfl | simp [cleanH, cs3_cl]; done | simp [cleanH, ints_cl]; done | simp [cleanH, cs3_cl, ints_cl]; done | simp [cleanH, cs9_cl]; done | simp [cleanH, cs9_cl, cs3_cl, ints_cl]; done⟩
          obtain ⟨b25, rfl, rfl⟩ := h
          refine Run.nil ?_
          refine RunT.one 4 (by kernel_rfl) ?_
          refine Run.call rfl rfl rfl (.at rfl) (.cons (.at rfl) .nil) (c_toPoint _) ?_
          refine Run.nil ?_
          refine RunT.one 6 (by kernel_rfl) ?_
          refine Run.call rfl rfl rfl (.at rfl) (.cons (.at rfl) .nil) (c_toPoint _) ?_
          refine Run.nil ?_
          refine RunT.one 7 (by kernel_rfl) ?_
          refine Run.acts [] [] rfl rfl rfl (.at rfl) (.cons (.at rfl) (.cons (.at rfl) (.cons (.at rfl) (.cons (.at rfl) .nil)))) (.cons .refl (.cons (lend rfl) (.cons .refl (.cons .refl .nil)))) (hS.acts) rfl rfl rfl (fun x H h => ?_) (fun x H h => ?_)
          · obtain ⟨rfl, rfl⟩ := h; exact ⟨rfl, by first | rfl | simp [cleanH, cs3_cl]; done | simp [cleanH, ints_cl]; done | simp [cleanH, cs3_cl, ints_cl]; done | simp [cleanH, cs9_cl]; done | simp [cleanH, cs9_cl, cs3_cl, ints_cl]; done⟩
          obtain ⟨rfl, rfl⟩ := h
          refine Run.nil ?_
          refine RunT.one 8 (by kernel_rfl) ?_
          refine Run.move rfl rfl rfl (.at rfl) ?_
          refine Run.nil ?_
          refine RunT.two 9 10 (by kernel_rfl) ?_ ?_
          · skip
            refine Run.extract rfl rfl rfl (.at rfl) rfl ?_
            refine Run.nil ?_
            refine RunT.two 10 11 (by kernel_rfl) ?_ ?_
            · skip
              refine Run.extract rfl rfl rfl (.at rfl) rfl ?_
              refine Run.nil ?_
              refine RunT.one 11 (by kernel_rfl) ?_
              refine Run.assign rfl rfl rfl (.at rfl) ?_
              refine Run.nil ?_
              refine RunT.one 12 (by kernel_rfl) ?_
              refine Run.assign rfl rfl rfl (.at rfl) ?_
              refine Run.nil ?_
              exact RunT.done (by kernel_rfl) (by first | exact WP.keep (hm b25) (by repeat (first | exact trivial | refine ⟨rfl, ?_⟩)) (by repeat (first | exact HSub.nil | refine HSub.keep ?_ | refine HSub.dead ?_)) | exact LP.keep (hm b25) (by repeat (first | exact trivial | refine ⟨rfl, ?_⟩)) (by repeat (first | exact HSub.nil | refine HSub.keep ?_ | refine HSub.dead ?_)))
            · skip
              refine Run.assign rfl rfl rfl (.at rfl) ?_
              refine Run.nil ?_
              refine RunT.one 10 (by kernel_rfl) ?_
              refine Run.extract rfl rfl rfl (.at rfl) rfl ?_
              refine Run.nil ?_
              refine RunT.one 12 (by kernel_rfl) ?_
              refine Run.assign rfl rfl rfl (.at rfl) ?_
              refine Run.nil ?_
              exact RunT.done (by kernel_rfl) (by first | exact WP.keep (hm b25) (by repeat (first | exact trivial | refine ⟨rfl, ?_⟩)) (by repeat (first | exact HSub.nil | refine HSub.keep ?_ | refine HSub.dead ?_)) | exact LP.keep (hm b25) (by repeat (first | exact trivial | refine ⟨rfl, ?_⟩)) (by repeat (first | exact HSub.nil | refine HSub.keep ?_ | refine HSub.dead ?_)))
          · skip
            refine Run.extract rfl rfl rfl (.at rfl) rfl ?_
            refine Run.nil ?_
            refine RunT.one 9 (by kernel_rfl) ?_
            refine Run.extract rfl rfl rfl (.at rfl) rfl ?_
            refine Run.nil ?_
            refine RunT.one 11 (by kernel_rfl) ?_
            refine Run.assign rfl rfl rfl (.at rfl) ?_
            refine Run.nil ?_
            refine RunT.one 12 (by kernel_rfl) ?_
            refine Run.assign rfl rfl rfl (.at rfl) ?_
            refine Run.nil ?_
            exact RunT.done (by kernel_rfl) (by first | exact WP.keep (hm b25) (by repeat (first | exact trivial | refine ⟨rfl, ?_⟩)) (by repeat (first | exact HSub.nil | refine HSub.keep ?_ | refine HSub.dead ?_)) | exact LP.keep (hm b25) (by repeat (first | exact trivial | refine ⟨rfl, ?_⟩)) (by repeat (first | exact HSub.nil | refine HSub.keep ?_ | refine HSub.dead ?_)))
    intro b25
    refine WP.trim (fr' := [(0, _), (1, _), (6, _), (7, _), (10, _), (11, _)]) (H' := [[(_, [_, _, _])], [(_, [_, _, _])], _, _, _, _]) ?_ ⟨rfl, rfl, rfl, rfl, rfl, rfl, trivial⟩ rfl
    refine WP.seq (WP.region (l := [0, 1, 2]) rfl ?_)
    refine Run.move rfl rfl rfl (.at rfl) ?_
    refine Run.acts [] [3] rfl rfl rfl (.at rfl) (.cons (.at rfl) (.cons (.at rfl) .nil)) (LendL.refl _ _) (c_toMapS 3 l false hn hl rfl) rfl rfl rfl (fun x H h => ?_) (fun x H h => ?_)
    · obtain ⟨b34, rfl, rfl⟩ := h; exact ⟨rfl, by first | rfl | simp [cleanH, cs3_cl]; done | simp [cleanH, ints_cl]; done | simp [cleanH, cs3_cl, ints_cl]; done | simp [cleanH, cs9_cl]; done | simp [cleanH, cs9_cl, cs3_cl, ints_cl]; done⟩
    obtain ⟨b34, rfl, rfl⟩ := h
    refine Run.assign rfl rfl rfl (.at rfl) ?_
    refine Run.nil ?_
    refine WP.seq (WP.draw mx_0 ?_)
    refine Drawn.calmE [] ?_
    refine' DrawE.op 0 36 0 [(0, none)] rfl rfl rfl rfl ?_ ?_
    rotate_left
    · intro rest
      refine Run.move rfl rfl rfl (.at rfl) ?_
      exact single_nil
    refine' DrawE.op 1 37 1 [(12, none)] rfl rfl rfl rfl ?_ ?_
    rotate_left
    · intro rest
      refine Run.move rfl rfl rfl (.at rfl) ?_
      exact single_nil
    refine' DrawE.op 2 38 2 [(6, none)] rfl rfl rfl rfl ?_ ?_
    rotate_left
    · intro rest
      refine Run.loads rfl rfl rfl (.at rfl) (place_adr rfl) ag_30_3 rfl rfl ?_
      exact single_nil
    refine' DrawE.op 3 39 3 [(38, some 0)] rfl rfl rfl rfl ?_ ?_
    rotate_left
    · intro rest
      refine Run.call rfl rfl rfl (.at rfl) (.cons (.at rfl) .nil) (c_toPoint _) ?_
      exact single_nil
    refine' DrawE.op 4 40 4 [(7, none)] rfl rfl rfl rfl ?_ ?_
    rotate_left
    · intro rest
      refine Run.loads rfl rfl rfl (.at rfl) (place_adr rfl) ag_30_3 rfl rfl ?_
      exact single_nil
    refine' DrawE.op 5 41 5 [(40, some 0)] rfl rfl rfl rfl ?_ ?_
    rotate_left
    · intro rest
      refine Run.call rfl rfl rfl (.at rfl) (.cons (.at rfl) .nil) (c_toPoint _) ?_
      exact single_nil
    refine DrawE.tree [6, 7, 8, 9, 10, 11] 6 rfl rfl (by kernel_rfl) (by kernel_rfl) rfl ?_
    intro f
    refine' RunT.cut ?_ ?_
    rotate_left
    · intro hm
      refine RunT.one 6 (by kernel_rfl) ?_
      refine Run.acts [] [] rfl rfl rfl (.at rfl) (.cons (.at rfl) (.cons (.at rfl) (.cons (.at rfl) (.cons (.at rfl) .nil)))) (.cons .refl (.cons (lend rfl) (.cons .refl (.cons .refl .nil)))) (hI.acts) rfl rfl rfl (fun x H h => ?_) (fun x H h => ?_)
      · obtain ⟨rfl, rfl⟩ := h; exact ⟨rfl, by first | rfl | simp [cleanH, cs3_cl]; done | simp [cleanH, ints_cl]; done | simp [cleanH, cs3_cl, ints_cl]; done | simp [cleanH, cs9_cl]; done | simp [cleanH, cs9_cl, cs3_cl, ints_cl]; done⟩
      obtain ⟨rfl, rfl⟩ := h
      refine Run.nil ?_
      refine RunT.one 7 (by kernel_rfl) ?_
      refine Run.move rfl rfl rfl (.at rfl) ?_
      refine Run.nil ?_
      refine RunT.two 8 9 (by kernel_rfl) ?_ ?_
      · skip
        refine Run.extract rfl rfl rfl (.at rfl) rfl ?_
        refine Run.nil ?_
        refine RunT.two 9 10 (by kernel_rfl) ?_ ?_
        · skip
          refine Run.extract rfl rfl rfl (.at rfl) rfl ?_
          refine Run.nil ?_
          refine RunT.one 10 (by kernel_rfl) ?_
          refine Run.assign rfl rfl rfl (.at rfl) ?_
          refine Run.nil ?_
          refine RunT.one 11 (by kernel_rfl) ?_
          refine Run.assign rfl rfl rfl (.at rfl) ?_
          refine Run.nil ?_
          exact RunT.done (by kernel_rfl) (WP.trim (fr' := [(0, _), (1, _), (6, _), (7, _), (10, _), (11, _), (12, _), (13, _), (14, _)]) (H' := [_, _, _, _, _, _]) hm ⟨rfl, rfl, rfl, rfl, rfl, rfl, rfl, rfl, rfl, trivial⟩ rfl)
        · skip
          refine Run.assign rfl rfl rfl (.at rfl) ?_
          refine Run.nil ?_
          refine RunT.one 9 (by kernel_rfl) ?_
          refine Run.extract rfl rfl rfl (.at rfl) rfl ?_
          refine Run.nil ?_
          refine RunT.one 11 (by kernel_rfl) ?_
          refine Run.assign rfl rfl rfl (.at rfl) ?_
          refine Run.nil ?_
          exact RunT.done (by kernel_rfl) (by first | exact WP.keep hm (by repeat (first | exact trivial | refine ⟨rfl, ?_⟩)) (by repeat (first | exact HSub.nil | refine HSub.keep ?_ | refine HSub.dead ?_)) | exact LP.keep hm (by repeat (first | exact trivial | refine ⟨rfl, ?_⟩)) (by repeat (first | exact HSub.nil | refine HSub.keep ?_ | refine HSub.dead ?_)))
      · skip
        refine Run.extract rfl rfl rfl (.at rfl) rfl ?_
        refine Run.nil ?_
        refine RunT.one 8 (by kernel_rfl) ?_
        refine Run.extract rfl rfl rfl (.at rfl) rfl ?_
        refine Run.nil ?_
        refine RunT.one 10 (by kernel_rfl) ?_
        refine Run.assign rfl rfl rfl (.at rfl) ?_
        refine Run.nil ?_
        refine RunT.one 11 (by kernel_rfl) ?_
        refine Run.assign rfl rfl rfl (.at rfl) ?_
        refine Run.nil ?_
        exact RunT.done (by kernel_rfl) (by first | exact WP.keep hm (by repeat (first | exact trivial | refine ⟨rfl, ?_⟩)) (by repeat (first | exact HSub.nil | refine HSub.keep ?_ | refine HSub.dead ?_)) | exact LP.keep hm (by repeat (first | exact trivial | refine ⟨rfl, ?_⟩)) (by repeat (first | exact HSub.nil | refine HSub.keep ?_ | refine HSub.dead ?_)))
    refine WP.seq ?_
    refine WP.seq (WP.region (l := [0, 1, 2, 3, 4, 5, 6, 7]) rfl ?_)
    refine Run.move rfl rfl rfl (.at rfl) ?_
    refine Run.move rfl rfl rfl (.at rfl) ?_
    refine Run.neq_bool rfl rfl rfl (.at rfl) (.at rfl) bo_4 ?_
    refine Run.move rfl rfl rfl (.at rfl) ?_
    refine' Run.guarded rfl rfl rfl rfl rfl rfl (fun ht => ?_) ?_
    rotate_left
    · skip
      refine Run.move rfl rfl rfl (.at rfl) ?_
      exact single_nil
    refine' Run.guarded rfl rfl rfl rfl rfl rfl (fun ht => ?_) ?_
    rotate_left
    · skip
      refine Run.move rfl rfl rfl (.at rfl) ?_
      exact single_nil
    refine' Run.guarded rfl rfl rfl rfl rfl rfl (fun ht => ?_) ?_
    rotate_left
    · skip
      refine Run.int rfl rfl rfl (.opt rfl ht) (.opt rfl ht) rfl ?_
      exact single_nil
    refine Run.or rfl rfl rfl (.at rfl) (.at rfl) rfl ?_
    refine Run.nil ?_
    refine WP.cond_f (.at rfl) (by simp) ?_
    refine WP.skip ?_
    refine WP.seq ?_
    refine WP.trim (fr' := [(0, _), (1, _), (6, _), (7, _), (10, _), (11, _), (12, _)]) (H' := [[(_, [_, _, _])], [(_, [_, _, _])], _, _, _, _]) ?_ ⟨rfl, rfl, rfl, rfl, rfl, rfl, rfl, trivial⟩ rfl
    refine WP.seq (WP.region (l := [0, 1, 2, 3, 4]) rfl ?_)
    refine Run.move rfl rfl rfl (.at rfl) ?_
    refine Run.move rfl rfl rfl (.at rfl) ?_
    refine Run.acts [] [4] rfl rfl rfl (.at rfl) (.cons (.at rfl) (.cons (.at rfl) .nil)) (LendL.refl _ _) (c_toMapS 4 l false hn hl rfl) rfl rfl rfl (fun x H h => ?_) (fun x H h => ?_)
    · obtain ⟨b55, rfl, rfl⟩ := h; exact ⟨rfl, by first | rfl | simp [cleanH, cs3_cl]; done | simp [cleanH, ints_cl]; done | simp [cleanH, cs3_cl, ints_cl]; done | simp [cleanH, cs9_cl]; done | simp [cleanH, cs9_cl, cs3_cl, ints_cl]; done⟩
    obtain ⟨b55, rfl, rfl⟩ := h
    refine Run.acts [3, 4] [3, 4] rfl rfl rfl (.at rfl) (.cons (.at rfl) (.cons (.at rfl) .nil)) (LendL.refl _ _) (c_intactMapS 3 4 b34 b55 n (n + room n) (n + room n) false false (padM l) (padM l) hn hpl hpl (Nat.le_refl _) (Nat.le_refl _)) rfl rfl rfl (fun x H h => ?_) (fun x H h => ?_)
    · obtain ⟨rfl, rfl⟩ := h; exact ⟨rfl, by first | rfl | simp [cleanH, cs3_cl]; done | simp [cleanH, ints_cl]; done | simp [cleanH, cs3_cl, ints_cl]; done | simp [cleanH, cs9_cl]; done | simp [cleanH, cs9_cl, cs3_cl, ints_cl]; done⟩
    obtain ⟨rfl, rfl⟩ := h
    refine Run.not rfl rfl rfl (.at rfl) ?_
    refine Run.nil ?_
    refine WP.cond_f (.at rfl) (by simp) ?_
    refine WP.skip ?_
    refine WP.seq (WP.draw mx_0 ?_)
    refine Drawn.calmE [] ?_
    refine' DrawE.op 0 59 0 [(0, none)] rfl rfl rfl rfl ?_ ?_
    rotate_left
    · intro rest
      refine Run.move rfl rfl rfl (.at rfl) ?_
      exact single_nil
    refine' DrawE.op 1 60 1 [(1, none)] rfl rfl rfl rfl ?_ ?_
    rotate_left
    · intro rest
      refine Run.move rfl rfl rfl (.at rfl) ?_
      exact single_nil
    refine' DrawE.op 2 61 2 [(60, some 0)] rfl rfl rfl rfl ?_ ?_
    rotate_left
    · intro rest
      refine Run.call rfl rfl rfl (.at rfl) (.cons (.at rfl) (.cons (.at rfl) .nil)) (c_toMapS_nil h0) ?_
      exact single_nil
    refine' DrawE.op 3 62 3 [(6, none)] rfl rfl rfl rfl ?_ ?_
    rotate_left
    · intro rest
      refine Run.loads rfl rfl rfl (.at rfl) (place_adr rfl) ag_30_3 rfl rfl ?_
      exact single_nil
    refine' DrawE.op 4 63 4 [(62, some 0)] rfl rfl rfl rfl ?_ ?_
    rotate_left
    · intro rest
      refine Run.call rfl rfl rfl (.at rfl) (.cons (.at rfl) .nil) (c_toPoint _) ?_
      exact single_nil
    refine' DrawE.op 5 64 5 [(7, none)] rfl rfl rfl rfl ?_ ?_
    rotate_left
    · intro rest
      refine Run.loads rfl rfl rfl (.at rfl) (place_adr rfl) ag_30_3 rfl rfl ?_
      exact single_nil
    refine' DrawE.op 6 65 6 [(64, some 0)] rfl rfl rfl rfl ?_ ?_
    rotate_left
    · intro rest
      refine Run.call rfl rfl rfl (.at rfl) (.cons (.at rfl) .nil) (c_toPoint _) ?_
      exact single_nil
    refine DrawE.tree [7, 8, 9, 10, 11, 12] 6 rfl rfl (by kernel_rfl) (by kernel_rfl) rfl ?_
    intro f
    refine' RunT.cut ?_ ?_
    rotate_left
    · intro hm
      refine RunT.one 7 (by kernel_rfl) ?_
      refine Run.acts [] [] rfl rfl rfl (.at rfl) (.cons (.at rfl) (.cons (.at rfl) (.cons (.at rfl) (.cons (.at rfl) .nil)))) (.cons .refl (.cons (lnil h0) (.cons .refl (.cons .refl .nil)))) (hI.acts) rfl rfl rfl (fun x H h => ?_) (fun x H h => ?_)
      · obtain ⟨rfl, rfl⟩ := h; exact ⟨rfl, by first | rfl | simp [cleanH, cs3_cl]; done | simp [cleanH, ints_cl]; done | simp [cleanH, cs3_cl, ints_cl]; done | simp [cleanH, cs9_cl]; done | simp [cleanH, cs9_cl, cs3_cl, ints_cl]; done⟩
      obtain ⟨rfl, rfl⟩ := h
      refine Run.nil ?_
      refine RunT.one 8 (by kernel_rfl) ?_
      refine Run.move rfl rfl rfl (.at rfl) ?_
      refine Run.nil ?_
      refine RunT.two 9 10 (by kernel_rfl) ?_ ?_
      · skip
        refine Run.extract rfl rfl rfl (.at rfl) rfl ?_
        refine Run.nil ?_
        refine RunT.two 10 11 (by kernel_rfl) ?_ ?_
        · skip
          refine Run.extract rfl rfl rfl (.at rfl) rfl ?_
          refine Run.nil ?_
          refine RunT.one 11 (by kernel_rfl) ?_
          refine Run.assign rfl rfl rfl (.at rfl) ?_
          refine Run.nil ?_
          refine RunT.one 12 (by kernel_rfl) ?_
          refine Run.assign rfl rfl rfl (.at rfl) ?_
          refine Run.nil ?_
          exact RunT.done (by kernel_rfl) (WP.trim (fr' := [(10, _), (11, _), (15, _), (16, _)]) (H' := [_, _, _, _, _, _]) hm ⟨rfl, rfl, rfl, rfl, trivial⟩ rfl)
        · skip
          refine Run.assign rfl rfl rfl (.at rfl) ?_
          refine Run.nil ?_
          refine RunT.one 10 (by kernel_rfl) ?_
          refine Run.extract rfl rfl rfl (.at rfl) rfl ?_
          refine Run.nil ?_
          refine RunT.one 12 (by kernel_rfl) ?_
          refine Run.assign rfl rfl rfl (.at rfl) ?_
          refine Run.nil ?_
          exact RunT.done (by kernel_rfl) (by first | exact WP.keep hm (by repeat (first | exact trivial | refine ⟨rfl, ?_⟩)) (by repeat (first | exact HSub.nil | refine HSub.keep ?_ | refine HSub.dead ?_)) | exact LP.keep hm (by repeat (first | exact trivial | refine ⟨rfl, ?_⟩)) (by repeat (first | exact HSub.nil | refine HSub.keep ?_ | refine HSub.dead ?_)))
      · skip
        refine Run.extract rfl rfl rfl (.at rfl) rfl ?_
        refine Run.nil ?_
        refine RunT.one 9 (by kernel_rfl) ?_
        refine Run.extract rfl rfl rfl (.at rfl) rfl ?_
        refine Run.nil ?_
        refine RunT.one 11 (by kernel_rfl) ?_
        refine Run.assign rfl rfl rfl (.at rfl) ?_
        refine Run.nil ?_
        refine RunT.one 12 (by kernel_rfl) ?_
        refine Run.assign rfl rfl rfl (.at rfl) ?_
        refine Run.nil ?_
        exact RunT.done (by kernel_rfl) (by first | exact WP.keep hm (by repeat (first | exact trivial | refine ⟨rfl, ?_⟩)) (by repeat (first | exact HSub.nil | refine HSub.keep ?_ | refine HSub.dead ?_)) | exact LP.keep hm (by repeat (first | exact trivial | refine ⟨rfl, ?_⟩)) (by repeat (first | exact HSub.nil | refine HSub.keep ?_ | refine HSub.dead ?_)))
    refine WP.seq ?_
    refine WP.trim (fr' := [(10, _), (11, _), (15, _), (16, _)]) (H' := [[(_, [_, _, _])], [(_, [_, _, _])], _, _, _, _]) ?_ ⟨rfl, rfl, rfl, rfl, trivial⟩ rfl
    refine WP.seq (WP.region (l := [0, 1, 2, 3, 4, 5, 6, 7]) rfl ?_)
    refine Run.move rfl rfl rfl (.at rfl) ?_
    refine Run.move rfl rfl rfl (.at rfl) ?_
    refine Run.neq_bool rfl rfl rfl (.at rfl) (.at rfl) bo_4 ?_
    refine Run.move rfl rfl rfl (.at rfl) ?_
    refine' Run.guarded rfl rfl rfl rfl rfl rfl (fun ht => ?_) ?_
    rotate_left
    · skip
      refine Run.move rfl rfl rfl (.at rfl) ?_
      exact single_nil
    refine' Run.guarded rfl rfl rfl rfl rfl rfl (fun ht => ?_) ?_
    rotate_left
    · skip
      refine Run.move rfl rfl rfl (.at rfl) ?_
      exact single_nil
    refine' Run.guarded rfl rfl rfl rfl rfl rfl (fun ht => ?_) ?_
    rotate_left
    · skip
      refine Run.int rfl rfl rfl (.opt rfl ht) (.opt rfl ht) rfl ?_
      exact single_nil
    refine Run.or rfl rfl rfl (.at rfl) (.at rfl) rfl ?_
    refine Run.nil ?_
    refine WP.cond_f (.at rfl) (by simp) ?_
    refine WP.skip ?_
    refine WP.seq (WP.region (l := [0]) rfl ?_)
    refine Run.assign rfl rfl rfl (.at rfl) ?_
    refine Run.nil ?_
    refine WP.ret ?_
    exact Ends.pure (.tmp rfl .nil) rfl
  · skip
    refine Pure.body 6 (n := 77) (fn := Try.f4) (c := Try.f4.body.get!) fn_4 rfl nm_4 rfl rfl fun C => ?_
    refine WP.seq (WP.region (l := [0, 1, 2]) rfl ?_)
    refine Run.box 0 rfl rfl rfl (.at rfl) rfl (fun b6 => ?_)
    refine Run.box 1 rfl rfl rfl (.at rfl) rfl (fun b7 => ?_)
    refine Run.assign rfl rfl rfl (.at rfl) ?_
    refine Run.nil ?_
    refine WP.seq (WP.region (l := [0]) rfl ?_)
    refine Run.assign rfl rfl rfl (.at rfl) ?_
    refine Run.nil ?_
    refine WP.seq (WP.region (l := [0, 1, 2, 3]) rfl ?_)
    refine Run.move rfl rfl rfl (.at rfl) ?_
    refine Run.move rfl rfl rfl (.at rfl) ?_
    refine Run.call rfl rfl rfl (.at rfl) (.cons (.at rfl) (.cons (.at rfl) .nil)) (c_szMapS 1000000 (by decide) (by omega)) ?_
    refine Run.assign rfl rfl rfl (.at rfl) ?_
    refine Run.nil ?_
    refine WP.seq ?_
    refine WP.seq (WP.region (l := [0, 1]) rfl ?_)
    refine Run.move rfl rfl rfl (.at rfl) ?_
    refine Run.int rfl rfl rfl (.at rfl) (.at rfl) rfl ?_
    refine Run.nil ?_
    refine WP.cond_f (.at rfl) (by rw [if_neg (by omega)]; simp; omega) ?_
    refine WP.skip ?_
    refine WP.seq (WP.draw mx_0 ?_)
    refine Drawn.move 0 rfl (by kernel_rfl) rfl (.at rfl) ?_
    refine Drawn.move 1 rfl (by kernel_rfl) rfl (.at rfl) ?_
    refine Drawn.calmE [] ?_
    refine DrawE.tree [2, 3, 4, 5, 6, 7, 8, 9, 10, 11, 12] 11 rfl rfl (by kernel_rfl) (by kernel_rfl) rfl ?_
    intro f
    refine' RunT.cut1 ?_ ?_
    rotate_left
    · intro hm
      refine RunT.three 2 3 5 (by kernel_rfl) ?_ ?_ ?_
      · skip
        refine Run.acts [] [2] rfl rfl rfl (.at rfl) (.cons (.at rfl) (.cons (.at rfl) .nil)) (LendL.refl _ _) (c_toMapS 2 l false hn hl rfl) rfl rfl rfl (fun x H h => ?_) (fun x H h => ?_)
        · obtain ⟨b25, rfl, rfl⟩ := h; exact ⟨rfl, by first | rfl | simp [cleanH, cs3_cl]; done | simp [cleanH, ints_cl]; done | simp [cleanH, cs3_cl, ints_cl]; done | simp [cleanH, cs9_cl]; done | simp [cleanH, cs9_cl, cs3_cl, ints_cl]; done⟩
        obtain ⟨b25, rfl, rfl⟩ := h
        refine Run.nil ?_
        refine RunT.two 3 5 (by kernel_rfl) ?_ ?_
        · skip
          refine Run.loads rfl rfl rfl (.at rfl) (place_adr rfl) ag_30_3 rfl rfl ?_
          refine Run.nil ?_
          refine RunT.two 4 5 (by kernel_rfl) ?_ ?_
          · skip
            refine Run.call rfl rfl rfl (.at rfl) (.cons (.at rfl) .nil) (c_toPoint _) ?_
            refine Run.nil ?_
            refine RunT.one 5 (by kernel_rfl) ?_
            refine Run.loads rfl rfl rfl (.at rfl) (place_adr rfl) ag_30_3 rfl rfl ?_
            refine Run.nil ?_
            refine RunT.one 6 (by kernel_rfl) ?_
            refine Run.call rfl rfl rfl (.at rfl) (.cons (.at rfl) .nil) (c_toPoint _) ?_
            refine Run.nil ?_
            refine RunT.one 7 (by kernel_rfl) ?_
            refine Run.acts [] [] rfl rfl rfl (.at rfl) (.cons (.at rfl) (.cons (.at rfl) (.cons (.at rfl) (.cons (.at rfl) .nil)))) (.cons .refl (.cons (lend rfl) (.cons .refl (.cons .refl .nil)))) (hS.acts) rfl rfl rfl (fun x H h => ?_) (fun x H h => ?_)
            · obtain ⟨rfl, rfl⟩ := h; exact ⟨rfl, by first | rfl | simp [cleanH, cs3_cl]; done | simp [cleanH, ints_cl]; done | simp [cleanH, cs3_cl, ints_cl]; done | simp [cleanH, cs9_cl]; done | simp [cleanH, cs9_cl, cs3_cl, ints_cl]; done⟩
            obtain ⟨rfl, rfl⟩ := h
            refine Run.nil ?_
            refine RunT.one 8 (by kernel_rfl) ?_
            refine Run.move rfl rfl rfl (.at rfl) ?_
            refine Run.nil ?_
            refine RunT.two 9 10 (by kernel_rfl) ?_ ?_
            · skip
              refine Run.extract rfl rfl rfl (.at rfl) rfl ?_
              refine Run.nil ?_
              refine RunT.two 10 11 (by kernel_rfl) ?_ ?_
              · skip
                refine Run.extract rfl rfl rfl (.at rfl) rfl ?_
                refine Run.nil ?_
                refine RunT.one 11 (by kernel_rfl) ?_
                refine Run.assign rfl rfl rfl (.at rfl) ?_
                refine Run.nil ?_
                refine RunT.one 12 (by kernel_rfl) ?_
                refine Run.assign rfl rfl rfl (.at rfl) ?_
                refine Run.nil ?_
                exact RunT.done (by kernel_rfl) (WP.trim (fr' := [(0, _), (1, _), (6, _), (7, _), (10, _), (11, _)]) (H' := [_, _, _, _, _, _]) (hm b25) ⟨rfl, rfl, rfl, rfl, rfl, rfl, trivial⟩ rfl)
              · skip
                refine Run.assign rfl rfl rfl (.at rfl) ?_
                refine Run.nil ?_
                refine RunT.one 10 (by kernel_rfl) ?_
                refine Run.extract rfl rfl rfl (.at rfl) rfl ?_
                refine Run.nil ?_
                refine RunT.one 12 (by kernel_rfl) ?_
                refine Run.assign rfl rfl rfl (.at rfl) ?_
                refine Run.nil ?_
                exact RunT.done (by kernel_rfl) (by first | exact WP.keep (hm b25) (by repeat (first | exact trivial | refine ⟨rfl, ?_⟩)) (by repeat (first | exact HSub.nil | refine HSub.keep ?_ | refine HSub.dead ?_)) | exact LP.keep (hm b25) (by repeat (first | exact trivial | refine ⟨rfl, ?_⟩)) (by repeat (first | exact HSub.nil | refine HSub.keep ?_ | refine HSub.dead ?_)))
            · skip
              refine Run.extract rfl rfl rfl (.at rfl) rfl ?_
              refine Run.nil ?_
              refine RunT.one 9 (by kernel_rfl) ?_
              refine Run.extract rfl rfl rfl (.at rfl) rfl ?_
              refine Run.nil ?_
              refine RunT.one 11 (by kernel_rfl) ?_
              refine Run.assign rfl rfl rfl (.at rfl) ?_
              refine Run.nil ?_
              refine RunT.one 12 (by kernel_rfl) ?_
              refine Run.assign rfl rfl rfl (.at rfl) ?_
              refine Run.nil ?_
              exact RunT.done (by kernel_rfl) (by first | exact WP.keep (hm b25) (by repeat (first | exact trivial | refine ⟨rfl, ?_⟩)) (by repeat (first | exact HSub.nil | refine HSub.keep ?_ | refine HSub.dead ?_)) | exact LP.keep (hm b25) (by repeat (first | exact trivial | refine ⟨rfl, ?_⟩)) (by repeat (first | exact HSub.nil | refine HSub.keep ?_ | refine HSub.dead ?_)))
          · skip
            refine Run.loads rfl rfl rfl (.at rfl) (place_adr rfl) ag_30_3 rfl rfl ?_
            refine Run.nil ?_
            refine RunT.one 4 (by kernel_rfl) ?_
            refine Run.call rfl rfl rfl (.at rfl) (.cons (.at rfl) .nil) (c_toPoint _) ?_
            refine Run.nil ?_
            refine RunT.one 6 (by kernel_rfl) ?_
            refine Run.call rfl rfl rfl (.at rfl) (.cons (.at rfl) .nil) (c_toPoint _) ?_
            refine Run.nil ?_
            refine RunT.one 7 (by kernel_rfl) ?_
            refine Run.acts [] [] rfl rfl rfl (.at rfl) (.cons (.at rfl) (.cons (.at rfl) (.cons (.at rfl) (.cons (.at rfl) .nil)))) (.cons .refl (.cons (lend rfl) (.cons .refl (.cons .refl .nil)))) (hS.acts) rfl rfl rfl (fun x H h => ?_) (fun x H h => ?_)
            · obtain ⟨rfl, rfl⟩ := h; exact ⟨rfl, by first | rfl | simp [cleanH, cs3_cl]; done | simp [cleanH, ints_cl]; done | simp [cleanH, cs3_cl, ints_cl]; done | simp [cleanH, cs9_cl]; done | simp [cleanH, cs9_cl, cs3_cl, ints_cl]; done⟩
            obtain ⟨rfl, rfl⟩ := h
            refine Run.nil ?_
            refine RunT.one 8 (by kernel_rfl) ?_
            refine Run.move rfl rfl rfl (.at rfl) ?_
            refine Run.nil ?_
            refine RunT.two 9 10 (by kernel_rfl) ?_ ?_
            · skip
              refine Run.extract rfl rfl rfl (.at rfl) rfl ?_
              refine Run.nil ?_
              refine RunT.two 10 11 (by kernel_rfl) ?_ ?_
              · skip
                refine Run.extract rfl rfl rfl (.at rfl) rfl ?_
                refine Run.nil ?_
                refine RunT.one 11 (by kernel_rfl) ?_
                refine Run.assign rfl rfl rfl (.at rfl) ?_
                refine Run.nil ?_
                refine RunT.one 12 (by kernel_rfl) ?_
                refine Run.assign rfl rfl rfl (.at rfl) ?_
                refine Run.nil ?_
                exact RunT.done (by kernel_rfl) (by first | exact WP.keep (hm b25) (by repeat (first | exact trivial | refine ⟨rfl, ?_⟩)) (by repeat (first | exact HSub.nil | refine HSub.keep ?_ | refine HSub.dead ?_)) | exact LP.keep (hm b25) (by repeat (first | exact trivial | refine ⟨rfl, ?_⟩)) (by repeat (first | exact HSub.nil | refine HSub.keep ?_ | refine HSub.dead ?_)))
              · skip
                refine Run.assign rfl rfl rfl (.at rfl) ?_
                refine Run.nil ?_
                refine RunT.one 10 (by kernel_rfl) ?_
                refine Run.extract rfl rfl rfl (.at rfl) rfl ?_
                refine Run.nil ?_
                refine RunT.one 12 (by kernel_rfl) ?_
                refine Run.assign rfl rfl rfl (.at rfl) ?_
                refine Run.nil ?_
                exact RunT.done (by kernel_rfl) (by first | exact WP.keep (hm b25) (by repeat (first | exact trivial | refine ⟨rfl, ?_⟩)) (by repeat (first | exact HSub.nil | refine HSub.keep ?_ | refine HSub.dead ?_)) | exact LP.keep (hm b25) (by repeat (first | exact trivial | refine ⟨rfl, ?_⟩)) (by repeat (first | exact HSub.nil | refine HSub.keep ?_ | refine HSub.dead ?_)))
            · skip
              refine Run.extract rfl rfl rfl (.at rfl) rfl ?_
              refine Run.nil ?_
              refine RunT.one 9 (by kernel_rfl) ?_
              refine Run.extract rfl rfl rfl (.at rfl) rfl ?_
              refine Run.nil ?_
              refine RunT.one 11 (by kernel_rfl) ?_
              refine Run.assign rfl rfl rfl (.at rfl) ?_
              refine Run.nil ?_
              refine RunT.one 12 (by kernel_rfl) ?_
              refine Run.assign rfl rfl rfl (.at rfl) ?_
              refine Run.nil ?_
              exact RunT.done (by kernel_rfl) (by first | exact WP.keep (hm b25) (by repeat (first | exact trivial | refine ⟨rfl, ?_⟩)) (by repeat (first | exact HSub.nil | refine HSub.keep ?_ | refine HSub.dead ?_)) | exact LP.keep (hm b25) (by repeat (first | exact trivial | refine ⟨rfl, ?_⟩)) (by repeat (first | exact HSub.nil | refine HSub.keep ?_ | refine HSub.dead ?_)))
        · skip
          refine Run.loads rfl rfl rfl (.at rfl) (place_adr rfl) ag_30_3 rfl rfl ?_
          refine Run.nil ?_
          refine RunT.one 3 (by kernel_rfl) ?_
          refine Run.loads rfl rfl rfl (.at rfl) (place_adr rfl) ag_30_3 rfl rfl ?_
          refine Run.nil ?_
          refine RunT.one 4 (by kernel_rfl) ?_
          refine Run.call rfl rfl rfl (.at rfl) (.cons (.at rfl) .nil) (c_toPoint _) ?_
          refine Run.nil ?_
          refine RunT.one 6 (by kernel_rfl) ?_
          refine Run.call rfl rfl rfl (.at rfl) (.cons (.at rfl) .nil) (c_toPoint _) ?_
          refine Run.nil ?_
          refine RunT.one 7 (by kernel_rfl) ?_
          refine Run.acts [] [] rfl rfl rfl (.at rfl) (.cons (.at rfl) (.cons (.at rfl) (.cons (.at rfl) (.cons (.at rfl) .nil)))) (.cons .refl (.cons (lend rfl) (.cons .refl (.cons .refl .nil)))) (hS.acts) rfl rfl rfl (fun x H h => ?_) (fun x H h => ?_)
          · obtain ⟨rfl, rfl⟩ := h; exact ⟨rfl, by first | rfl | simp [cleanH, cs3_cl]; done | simp [cleanH, ints_cl]; done | simp [cleanH, cs3_cl, ints_cl]; done | simp [cleanH, cs9_cl]; done | simp [cleanH, cs9_cl, cs3_cl, ints_cl]; done⟩
          obtain ⟨rfl, rfl⟩ := h
          refine Run.nil ?_
          refine RunT.one 8 (by kernel_rfl) ?_
          refine Run.move rfl rfl rfl (.at rfl) ?_
          refine Run.nil ?_
          refine RunT.two 9 10 (by kernel_rfl) ?_ ?_
          · skip
            refine Run.extract rfl rfl rfl (.at rfl) rfl ?_
            refine Run.nil ?_
            refine RunT.two 10 11 (by kernel_rfl) ?_ ?_
            · skip
              refine Run.extract rfl rfl rfl (.at rfl) rfl ?_
              refine Run.nil ?_
              refine RunT.one 11 (by kernel_rfl) ?_
              refine Run.assign rfl rfl rfl (.at rfl) ?_
              refine Run.nil ?_
              refine RunT.one 12 (by kernel_rfl) ?_
              refine Run.assign rfl rfl rfl (.at rfl) ?_
              refine Run.nil ?_
              exact RunT.done (by kernel_rfl) (by first | exact WP.keep (hm b25) (by repeat (first | exact trivial | refine ⟨rfl, ?_⟩)) (by repeat (first | exact HSub.nil | refine HSub.keep ?_ | refine HSub.dead ?_)) | exact LP.keep (hm b25) (by repeat (first | exact trivial | refine ⟨rfl, ?_⟩)) (by repeat (first | exact HSub.nil | refine HSub.keep ?_ | refine HSub.dead ?_)))
            · skip
              refine Run.assign rfl rfl rfl (.at rfl) ?_
              refine Run.nil ?_
              refine RunT.one 10 (by kernel_rfl) ?_
              refine Run.extract rfl rfl rfl (.at rfl) rfl ?_
              refine Run.nil ?_
              refine RunT.one 12 (by kernel_rfl) ?_
              refine Run.assign rfl rfl rfl (.at rfl) ?_
              refine Run.nil ?_
              exact RunT.done (by kernel_rfl) (by first | exact WP.keep (hm b25) (by repeat (first | exact trivial | refine ⟨rfl, ?_⟩)) (by repeat (first | exact HSub.nil | refine HSub.keep ?_ | refine HSub.dead ?_)) | exact LP.keep (hm b25) (by repeat (first | exact trivial | refine ⟨rfl, ?_⟩)) (by repeat (first | exact HSub.nil | refine HSub.keep ?_ | refine HSub.dead ?_)))
          · skip
            refine Run.extract rfl rfl rfl (.at rfl) rfl ?_
            refine Run.nil ?_
            refine RunT.one 9 (by kernel_rfl) ?_
            refine Run.extract rfl rfl rfl (.at rfl) rfl ?_
            refine Run.nil ?_
            refine RunT.one 11 (by kernel_rfl) ?_
            refine Run.assign rfl rfl rfl (.at rfl) ?_
            refine Run.nil ?_
            refine RunT.one 12 (by kernel_rfl) ?_
            refine Run.assign rfl rfl rfl (.at rfl) ?_
            refine Run.nil ?_
            exact RunT.done (by kernel_rfl) (by first | exact WP.keep (hm b25) (by repeat (first | exact trivial | refine ⟨rfl, ?_⟩)) (by repeat (first | exact HSub.nil | refine HSub.keep ?_ | refine HSub.dead ?_)) | exact LP.keep (hm b25) (by repeat (first | exact trivial | refine ⟨rfl, ?_⟩)) (by repeat (first | exact HSub.nil | refine HSub.keep ?_ | refine HSub.dead ?_)))
      · skip
        refine Run.loads rfl rfl rfl (.at rfl) (place_adr rfl) ag_30_3 rfl rfl ?_
        refine Run.nil ?_
        refine RunT.two 2 5 (by kernel_rfl) ?_ ?_
        · skip
          refine Run.acts [] [2] rfl rfl rfl (.at rfl) (.cons (.at rfl) (.cons (.at rfl) .nil)) (LendL.refl _ _) (c_toMapS 2 l false hn hl rfl) rfl rfl rfl (fun x H h => ?_) (fun x H h => ?_)
          · obtain ⟨b25, rfl, rfl⟩ := h; exact ⟨rfl, by first | rfl | simp [cleanH, cs3_cl]; done | simp [cleanH, ints_cl]; done | simp [cleanH, cs3_cl, ints_cl]; done | simp [cleanH, cs9_cl]; done | simp [cleanH, cs9_cl, cs3_cl, ints_cl]; done⟩
          obtain ⟨b25, rfl, rfl⟩ := h
          refine Run.nil ?_
          refine RunT.two 4 5 (by kernel_rfl) ?_ ?_
          · skip
            refine Run.call rfl rfl rfl (.at rfl) (.cons (.at rfl) .nil) (c_toPoint _) ?_
            refine Run.nil ?_
            refine RunT.one 5 (by kernel_rfl) ?_
            refine Run.loads rfl rfl rfl (.at rfl) (place_adr rfl) ag_30_3 rfl rfl ?_
            refine Run.nil ?_
            refine RunT.one 6 (by kernel_rfl) ?_
            refine Run.call rfl rfl rfl (.at rfl) (.cons (.at rfl) .nil) (c_toPoint _) ?_
            refine Run.nil ?_
            refine RunT.one 7 (by kernel_rfl) ?_
            refine Run.acts [] [] rfl rfl rfl (.at rfl) (.cons (.at rfl) (.cons (.at rfl) (.cons (.at rfl) (.cons (.at rfl) .nil)))) (.cons .refl (.cons (lend rfl) (.cons .refl (.cons .refl .nil)))) (hS.acts) rfl rfl rfl (fun x H h => ?_) (fun x H h => ?_)
            · obtain ⟨rfl, rfl⟩ := h; exact ⟨rfl, by first | rfl | simp [cleanH, cs3_cl]; done | simp [cleanH, ints_cl]; done | simp [cleanH, cs3_cl, ints_cl]; done | simp [cleanH, cs9_cl]; done | simp [cleanH, cs9_cl, cs3_cl, ints_cl]; done⟩
            obtain ⟨rfl, rfl⟩ := h
            refine Run.nil ?_
            refine RunT.one 8 (by kernel_rfl) ?_
            refine Run.move rfl rfl rfl (.at rfl) ?_
            refine Run.nil ?_
            refine RunT.two 9 10 (by kernel_rfl) ?_ ?_
            · skip
              refine Run.extract rfl rfl rfl (.at rfl) rfl ?_
              refine Run.nil ?_
              refine RunT.two 10 11 (by kernel_rfl) ?_ ?_
              · skip
                refine Run.extract rfl rfl rfl (.at rfl) rfl ?_
                refine Run.nil ?_
                refine RunT.one 11 (by kernel_rfl) ?_
                refine Run.assign rfl rfl rfl (.at rfl) ?_
                refine Run.nil ?_
                refine RunT.one 12 (by kernel_rfl) ?_
                refine Run.assign rfl rfl rfl (.at rfl) ?_
                refine Run.nil ?_
                exact RunT.done (by kernel_rfl) (by first | exact WP.keep (hm b25) (by repeat (first | exact trivial | refine ⟨rfl, ?_⟩)) (by repeat (first | exact HSub.nil | refine HSub.keep ?_ | refine HSub.dead ?_)) | exact LP.keep (hm b25) (by repeat (first | exact trivial | refine ⟨rfl, ?_⟩)) (by repeat (first | exact HSub.nil | refine HSub.keep ?_ | refine HSub.dead ?_)))
              · skip
                refine Run.assign rfl rfl rfl (.at rfl) ?_
                refine Run.nil ?_
                refine RunT.one 10 (by kernel_rfl) ?_
                refine Run.extract rfl rfl rfl (.at rfl) rfl ?_
                refine Run.nil ?_
                refine RunT.one 12 (by kernel_rfl) ?_
                refine Run.assign rfl rfl rfl (.at rfl) ?_
                refine Run.nil ?_
                exact RunT.done (by kernel_rfl) (by first | exact WP.keep (hm b25) (by repeat (first | exact trivial | refine ⟨rfl, ?_⟩)) (by repeat (first | exact HSub.nil | refine HSub.keep ?_ | refine HSub.dead ?_)) | exact LP.keep (hm b25) (by repeat (first | exact trivial | refine ⟨rfl, ?_⟩)) (by repeat (first | exact HSub.nil | refine HSub.keep ?_ | refine HSub.dead ?_)))
            · skip
              refine Run.extract rfl rfl rfl (.at rfl) rfl ?_
              refine Run.nil ?_
              refine RunT.one 9 (by kernel_rfl) ?_
              refine Run.extract rfl rfl rfl (.at rfl) rfl ?_
              refine Run.nil ?_
              refine RunT.one 11 (by kernel_rfl) ?_
              refine Run.assign rfl rfl rfl (.at rfl) ?_
              refine Run.nil ?_
              refine RunT.one 12 (by kernel_rfl) ?_
              refine Run.assign rfl rfl rfl (.at rfl) ?_
              refine Run.nil ?_
              exact RunT.done (by kernel_rfl) (by first | exact WP.keep (hm b25) (by repeat (first | exact trivial | refine ⟨rfl, ?_⟩)) (by repeat (first | exact HSub.nil | refine HSub.keep ?_ | refine HSub.dead ?_)) | exact LP.keep (hm b25) (by repeat (first | exact trivial | refine ⟨rfl, ?_⟩)) (by repeat (first | exact HSub.nil | refine HSub.keep ?_ | refine HSub.dead ?_)))
          · skip
            refine Run.loads rfl rfl rfl (.at rfl) (place_adr rfl) ag_30_3 rfl rfl ?_
            refine Run.nil ?_
            refine RunT.one 4 (by kernel_rfl) ?_
            refine Run.call rfl rfl rfl (.at rfl) (.cons (.at rfl) .nil) (c_toPoint _) ?_
            refine Run.nil ?_
            refine RunT.one 6 (by kernel_rfl) ?_
            refine Run.call rfl rfl rfl (.at rfl) (.cons (.at rfl) .nil) (c_toPoint _) ?_
            refine Run.nil ?_
            refine RunT.one 7 (by kernel_rfl) ?_
            refine Run.acts [] [] rfl rfl rfl (.at rfl) (.cons (.at rfl) (.cons (.at rfl) (.cons (.at rfl) (.cons (.at rfl) .nil)))) (.cons .refl (.cons (lend rfl) (.cons .refl (.cons .refl .nil)))) (hS.acts) rfl rfl rfl (fun x H h => ?_) (fun x H h => ?_)
            · obtain ⟨rfl, rfl⟩ := h; exact ⟨rfl, by first | rfl | simp [cleanH, cs3_cl]; done | simp [cleanH, ints_cl]; done | simp [cleanH, cs3_cl, ints_cl]; done | simp [cleanH, cs9_cl]; done | simp [cleanH, cs9_cl, cs3_cl, ints_cl]; done⟩
            obtain ⟨rfl, rfl⟩ := h
            refine Run.nil ?_
            refine RunT.one 8 (by kernel_rfl) ?_
            refine Run.move rfl rfl rfl (.at rfl) ?_
            refine Run.nil ?_
            refine RunT.two 9 10 (by kernel_rfl) ?_ ?_
            · skip
              refine Run.extract rfl rfl rfl (.at rfl) rfl ?_
              refine Run.nil ?_
              refine RunT.two 10 11 (by kernel_rfl) ?_ ?_
              · skip
                refine Run.extract rfl rfl rfl (.at rfl) rfl ?_
                refine Run.nil ?_
                refine RunT.one 11 (by kernel_rfl) ?_
                refine Run.assign rfl rfl rfl (.at rfl) ?_
                refine Run.nil ?_
                refine RunT.one 12 (by kernel_rfl) ?_
                refine Run.assign rfl rfl rfl (.at rfl) ?_
                refine Run.nil ?_
                exact RunT.done (by kernel_rfl) (by first | exact WP.keep (hm b25) (by repeat (first | exact trivial | refine ⟨rfl, ?_⟩)) (by repeat (first | exact HSub.nil | refine HSub.keep ?_ | refine HSub.dead ?_)) | exact LP.keep (hm b25) (by repeat (first | exact trivial | refine ⟨rfl, ?_⟩)) (by repeat (first | exact HSub.nil | refine HSub.keep ?_ | refine HSub.dead ?_)))
              · skip
                refine Run.assign rfl rfl rfl (.at rfl) ?_
                refine Run.nil ?_
                refine RunT.one 10 (by kernel_rfl) ?_
                refine Run.extract rfl rfl rfl (.at rfl) rfl ?_
                refine Run.nil ?_
                refine RunT.one 12 (by kernel_rfl) ?_
                refine Run.assign rfl rfl rfl (.at rfl) ?_
                refine Run.nil ?_
                exact RunT.done (by kernel_rfl) (by first | exact WP.keep (hm b25) (by repeat (first | exact trivial | refine ⟨rfl, ?_⟩)) (by repeat (first | exact HSub.nil | refine HSub.keep ?_ | refine HSub.dead ?_)) | exact LP.keep (hm b25) (by repeat (first | exact trivial | refine ⟨rfl, ?_⟩)) (by repeat (first | exact HSub.nil | refine HSub.keep ?_ | refine HSub.dead ?_)))
            · skip
              refine Run.extract rfl rfl rfl (.at rfl) rfl ?_
              refine Run.nil ?_
              refine RunT.one 9 (by kernel_rfl) ?_
              refine Run.extract rfl rfl rfl (.at rfl) rfl ?_
              refine Run.nil ?_
              refine RunT.one 11 (by kernel_rfl) ?_
              refine Run.assign rfl rfl rfl (.at rfl) ?_
              refine Run.nil ?_
              refine RunT.one 12 (by kernel_rfl) ?_
              refine Run.assign rfl rfl rfl (.at rfl) ?_
              refine Run.nil ?_
              exact RunT.done (by kernel_rfl) (by first | exact WP.keep (hm b25) (by repeat (first | exact trivial | refine ⟨rfl, ?_⟩)) (by repeat (first | exact HSub.nil | refine HSub.keep ?_ | refine HSub.dead ?_)) | exact LP.keep (hm b25) (by repeat (first | exact trivial | refine ⟨rfl, ?_⟩)) (by repeat (first | exact HSub.nil | refine HSub.keep ?_ | refine HSub.dead ?_)))
        · skip
          refine Run.loads rfl rfl rfl (.at rfl) (place_adr rfl) ag_30_3 rfl rfl ?_
          refine Run.nil ?_
          refine RunT.one 2 (by kernel_rfl) ?_
          refine Run.acts [] [2] rfl rfl rfl (.at rfl) (.cons (.at rfl) (.cons (.at rfl) .nil)) (LendL.refl _ _) (c_toMapS 2 l false hn hl rfl) rfl rfl rfl (fun x H h => ?_) (fun x H h => ?_)
          · obtain ⟨b25, rfl, rfl⟩ := h; exact ⟨rfl, by first | rfl | simp [cleanH, cs3_cl]; done | simp [cleanH, ints_cl]; done | simp [cleanH, cs3_cl, ints_cl]; done | simp [cleanH, cs9_cl]; done | simp [cleanH, cs9_cl, cs3_cl, ints_cl]; done⟩
          obtain ⟨b25, rfl, rfl⟩ := h
          refine Run.nil ?_
          refine RunT.one 4 (by kernel_rfl) ?_
          refine Run.call rfl rfl rfl (.at rfl) (.cons (.at rfl) .nil) (c_toPoint _) ?_
          refine Run.nil ?_
          refine RunT.one 6 (by kernel_rfl) ?_
          refine Run.call rfl rfl rfl (.at rfl) (.cons (.at rfl) .nil) (c_toPoint _) ?_
          refine Run.nil ?_
          refine RunT.one 7 (by kernel_rfl) ?_
          refine Run.acts [] [] rfl rfl rfl (.at rfl) (.cons (.at rfl) (.cons (.at rfl) (.cons (.at rfl) (.cons (.at rfl) .nil)))) (.cons .refl (.cons (lend rfl) (.cons .refl (.cons .refl .nil)))) (hS.acts) rfl rfl rfl (fun x H h => ?_) (fun x H h => ?_)
          · obtain ⟨rfl, rfl⟩ := h; exact ⟨rfl, by first | rfl | simp [cleanH, cs3_cl]; done | simp [cleanH, ints_cl]; done | simp [cleanH, cs3_cl, ints_cl]; done | simp [cleanH, cs9_cl]; done | simp [cleanH, cs9_cl, cs3_cl, ints_cl]; done⟩
          obtain ⟨rfl, rfl⟩ := h
          refine Run.nil ?_
          refine RunT.one 8 (by kernel_rfl) ?_
          refine Run.move rfl rfl rfl (.at rfl) ?_
          refine Run.nil ?_
          refine RunT.two 9 10 (by kernel_rfl) ?_ ?_
          · skip
            refine Run.extract rfl rfl rfl (.at rfl) rfl ?_
            refine Run.nil ?_
            refine RunT.two 10 11 (by kernel_rfl) ?_ ?_
            · skip
              refine Run.extract rfl rfl rfl (.at rfl) rfl ?_
              refine Run.nil ?_
              refine RunT.one 11 (by kernel_rfl) ?_
              refine Run.assign rfl rfl rfl (.at rfl) ?_
              refine Run.nil ?_
              refine RunT.one 12 (by kernel_rfl) ?_
              refine Run.assign rfl rfl rfl (.at rfl) ?_
              refine Run.nil ?_
              exact RunT.done (by kernel_rfl) (by first | exact WP.keep (hm b25) (by repeat (first | exact trivial | refine ⟨rfl, ?_⟩)) (by repeat (first | exact HSub.nil | refine HSub.keep ?_ | refine HSub.dead ?_)) | exact LP.keep (hm b25) (by repeat (first | exact trivial | refine ⟨rfl, ?_⟩)) (by repeat (first | exact HSub.nil | refine HSub.keep ?_ | refine HSub.dead ?_)))
            · skip
              refine Run.assign rfl rfl rfl (.at rfl) ?_
              refine Run.nil ?_
              refine RunT.one 10 (by kernel_rfl) ?_
              refine Run.extract rfl rfl rfl (.at rfl) rfl ?_
              refine Run.nil ?_
              refine RunT.one 12 (by kernel_rfl) ?_
              refine Run.assign rfl rfl rfl (.at rfl) ?_
              refine Run.nil ?_
              exact RunT.done (by kernel_rfl) (by first | exact WP.keep (hm b25) (by repeat (first | exact trivial | refine ⟨rfl, ?_⟩)) (by repeat (first | exact HSub.nil | refine HSub.keep ?_ | refine HSub.dead ?_)) | exact LP.keep (hm b25) (by repeat (first | exact trivial | refine ⟨rfl, ?_⟩)) (by repeat (first | exact HSub.nil | refine HSub.keep ?_ | refine HSub.dead ?_)))
          · skip
            refine Run.extract rfl rfl rfl (.at rfl) rfl ?_
            refine Run.nil ?_
            refine RunT.one 9 (by kernel_rfl) ?_
            refine Run.extract rfl rfl rfl (.at rfl) rfl ?_
            refine Run.nil ?_
            refine RunT.one 11 (by kernel_rfl) ?_
            refine Run.assign rfl rfl rfl (.at rfl) ?_
            refine Run.nil ?_
            refine RunT.one 12 (by kernel_rfl) ?_
            refine Run.assign rfl rfl rfl (.at rfl) ?_
            refine Run.nil ?_
            exact RunT.done (by kernel_rfl) (by first | exact WP.keep (hm b25) (by repeat (first | exact trivial | refine ⟨rfl, ?_⟩)) (by repeat (first | exact HSub.nil | refine HSub.keep ?_ | refine HSub.dead ?_)) | exact LP.keep (hm b25) (by repeat (first | exact trivial | refine ⟨rfl, ?_⟩)) (by repeat (first | exact HSub.nil | refine HSub.keep ?_ | refine HSub.dead ?_)))
      · skip
        refine Run.loads rfl rfl rfl (.at rfl) (place_adr rfl) ag_30_3 rfl rfl ?_
        refine Run.nil ?_
        refine RunT.two 2 3 (by kernel_rfl) ?_ ?_
        · skip
          refine Run.acts [] [2] rfl rfl rfl (.at rfl) (.cons (.at rfl) (.cons (.at rfl) .nil)) (LendL.refl _ _) (c_toMapS 2 l false hn hl rfl) rfl rfl rfl (fun x H h => ?_) (fun x H h => ?_)
          · obtain ⟨b25, rfl, rfl⟩ := h; exact ⟨rfl, by first | rfl | simp [cleanH, cs3_cl]; done | simp [cleanH, ints_cl]; done | simp [cleanH, cs3_cl, ints_cl]; done | simp [cleanH, cs9_cl]; done | simp [cleanH, cs9_cl, cs3_cl, ints_cl]; done⟩
          obtain ⟨b25, rfl, rfl⟩ := h
          refine Run.nil ?_
          refine RunT.one 3 (by kernel_rfl) ?_
          refine Run.loads rfl rfl rfl (.at rfl) (place_adr rfl) ag_30_3 rfl rfl ?_
          refine Run.nil ?_
          refine RunT.one 4 (by kernel_rfl) ?_
          refine Run.call rfl rfl rfl (.at rfl) (.cons (.at rfl) .nil) (c_toPoint _) ?_
          refine Run.nil ?_
          refine RunT.one 6 (by kernel_rfl) ?_
          refine Run.call rfl rfl rfl (.at rfl) (.cons (.at rfl) .nil) (c_toPoint _) ?_
          refine Run.nil ?_
          refine RunT.one 7 (by kernel_rfl) ?_
          refine Run.acts [] [] rfl rfl rfl (.at rfl) (.cons (.at rfl) (.cons (.at rfl) (.cons (.at rfl) (.cons (.at rfl) .nil)))) (.cons .refl (.cons (lend rfl) (.cons .refl (.cons .refl .nil)))) (hS.acts) rfl rfl rfl (fun x H h => ?_) (fun x H h => ?_)
          · obtain ⟨rfl, rfl⟩ := h; exact ⟨rfl, by first | rfl | simp [cleanH, cs3_cl]; done | simp [cleanH, ints_cl]; done | simp [cleanH, cs3_cl, ints_cl]; done | simp [cleanH, cs9_cl]; done | simp [cleanH, cs9_cl, cs3_cl, ints_cl]; done⟩
          obtain ⟨rfl, rfl⟩ := h
          refine Run.nil ?_
          refine RunT.one 8 (by kernel_rfl) ?_
          refine Run.move rfl rfl rfl (.at rfl) ?_
          refine Run.nil ?_
          refine RunT.two 9 10 (by kernel_rfl) ?_ ?_
          · skip
            refine Run.extract rfl rfl rfl (.at rfl) rfl ?_
            refine Run.nil ?_
            refine RunT.two 10 11 (by kernel_rfl) ?_ ?_
            · skip
              refine Run.extract rfl rfl rfl (.at rfl) rfl ?_
              refine Run.nil ?_
              refine RunT.one 11 (by kernel_rfl) ?_
              refine Run.assign rfl rfl rfl (.at rfl) ?_
              refine Run.nil ?_
              refine RunT.one 12 (by kernel_rfl) ?_
              refine Run.assign rfl rfl rfl (.at rfl) ?_
              refine Run.nil ?_
              exact RunT.done (by kernel_rfl) (by first | exact WP.keep (hm b25) (by repeat (first | exact trivial | refine ⟨rfl, ?_⟩)) (by repeat (first | exact HSub.nil | refine HSub.keep ?_ | refine HSub.dead ?_)) | exact LP.keep (hm b25) (by repeat (first | exact trivial | refine ⟨rfl, ?_⟩)) (by repeat (first | exact HSub.nil | refine HSub.keep ?_ | refine HSub.dead ?_)))
            · skip
              refine Run.assign rfl rfl rfl (.at rfl) ?_
              refine Run.nil ?_
              refine RunT.one 10 (by kernel_rfl) ?_
              refine Run.extract rfl rfl rfl (.at rfl) rfl ?_
              refine Run.nil ?_
              refine RunT.one 12 (by kernel_rfl) ?_
              refine Run.assign rfl rfl rfl (.at rfl) ?_
              refine Run.nil ?_
              exact RunT.done (by kernel_rfl) (by first | exact WP.keep (hm b25) (by repeat (first | exact trivial | refine ⟨rfl, ?_⟩)) (by repeat (first | exact HSub.nil | refine HSub.keep ?_ | refine HSub.dead ?_)) | exact LP.keep (hm b25) (by repeat (first | exact trivial | refine ⟨rfl, ?_⟩)) (by repeat (first | exact HSub.nil | refine HSub.keep ?_ | refine HSub.dead ?_)))
          · skip
            refine Run.extract rfl rfl rfl (.at rfl) rfl ?_
            refine Run.nil ?_
            refine RunT.one 9 (by kernel_rfl) ?_
            refine Run.extract rfl rfl rfl (.at rfl) rfl ?_
            refine Run.nil ?_
            refine RunT.one 11 (by kernel_rfl) ?_
            refine Run.assign rfl rfl rfl (.at rfl) ?_
            refine Run.nil ?_
            refine RunT.one 12 (by kernel_rfl) ?_
            refine Run.assign rfl rfl rfl (.at rfl) ?_
            refine Run.nil ?_
            exact RunT.done (by kernel_rfl) (by first | exact WP.keep (hm b25) (by repeat (first | exact trivial | refine ⟨rfl, ?_⟩)) (by repeat (first | exact HSub.nil | refine HSub.keep ?_ | refine HSub.dead ?_)) | exact LP.keep (hm b25) (by repeat (first | exact trivial | refine ⟨rfl, ?_⟩)) (by repeat (first | exact HSub.nil | refine HSub.keep ?_ | refine HSub.dead ?_)))
        · skip
          refine Run.loads rfl rfl rfl (.at rfl) (place_adr rfl) ag_30_3 rfl rfl ?_
          refine Run.nil ?_
          refine RunT.one 2 (by kernel_rfl) ?_
          refine Run.acts [] [2] rfl rfl rfl (.at rfl) (.cons (.at rfl) (.cons (.at rfl) .nil)) (LendL.refl _ _) (c_toMapS 2 l false hn hl rfl) rfl rfl rfl (fun x H h => ?_) (fun x H h => ?_)
          · obtain ⟨b25, rfl, rfl⟩ := h; exact ⟨rfl, by first | rfl | simp [cleanH, cs3_cl]; done | simp [cleanH, ints_cl]; done | simp [cleanH, cs3_cl, ints_cl]; done | simp [cleanH, cs9_cl]; done | simp [cleanH, cs9_cl, cs3_cl, ints_cl]; done⟩
          obtain ⟨b25, rfl, rfl⟩ := h
          refine Run.nil ?_
          refine RunT.one 4 (by kernel_rfl) ?_
          refine Run.call rfl rfl rfl (.at rfl) (.cons (.at rfl) .nil) (c_toPoint _) ?_
          refine Run.nil ?_
          refine RunT.one 6 (by kernel_rfl) ?_
          refine Run.call rfl rfl rfl (.at rfl) (.cons (.at rfl) .nil) (c_toPoint _) ?_
          refine Run.nil ?_
          refine RunT.one 7 (by kernel_rfl) ?_
          refine Run.acts [] [] rfl rfl rfl (.at rfl) (.cons (.at rfl) (.cons (.at rfl) (.cons (.at rfl) (.cons (.at rfl) .nil)))) (.cons .refl (.cons (lend rfl) (.cons .refl (.cons .refl .nil)))) (hS.acts) rfl rfl rfl (fun x H h => ?_) (fun x H h => ?_)
          · obtain ⟨rfl, rfl⟩ := h; exact ⟨rfl, by first | rfl | simp [cleanH, cs3_cl]; done | simp [cleanH, ints_cl]; done | simp [cleanH, cs3_cl, ints_cl]; done | simp [cleanH, cs9_cl]; done | simp [cleanH, cs9_cl, cs3_cl, ints_cl]; done⟩
          obtain ⟨rfl, rfl⟩ := h
          refine Run.nil ?_
          refine RunT.one 8 (by kernel_rfl) ?_
          refine Run.move rfl rfl rfl (.at rfl) ?_
          refine Run.nil ?_
          refine RunT.two 9 10 (by kernel_rfl) ?_ ?_
          · skip
            refine Run.extract rfl rfl rfl (.at rfl) rfl ?_
            refine Run.nil ?_
            refine RunT.two 10 11 (by kernel_rfl) ?_ ?_
            · skip
              refine Run.extract rfl rfl rfl (.at rfl) rfl ?_
              refine Run.nil ?_
              refine RunT.one 11 (by kernel_rfl) ?_
              refine Run.assign rfl rfl rfl (.at rfl) ?_
              refine Run.nil ?_
              refine RunT.one 12 (by kernel_rfl) ?_
              refine Run.assign rfl rfl rfl (.at rfl) ?_
              refine Run.nil ?_
              exact RunT.done (by kernel_rfl) (by first | exact WP.keep (hm b25) (by repeat (first | exact trivial | refine ⟨rfl, ?_⟩)) (by repeat (first | exact HSub.nil | refine HSub.keep ?_ | refine HSub.dead ?_)) | exact LP.keep (hm b25) (by repeat (first | exact trivial | refine ⟨rfl, ?_⟩)) (by repeat (first | exact HSub.nil | refine HSub.keep ?_ | refine HSub.dead ?_)))
            · skip
              refine Run.assign rfl rfl rfl (.at rfl) ?_
              refine Run.nil ?_
              refine RunT.one 10 (by kernel_rfl) ?_
              refine Run.extract rfl rfl rfl (.at rfl) rfl ?_
              refine Run.nil ?_
              refine RunT.one 12 (by kernel_rfl) ?_
              refine Run.assign rfl rfl rfl (.at rfl) ?_
              refine Run.nil ?_
              exact RunT.done (by kernel_rfl) (by first | exact WP.keep (hm b25) (by repeat (first | exact trivial | refine ⟨rfl, ?_⟩)) (by repeat (first | exact HSub.nil | refine HSub.keep ?_ | refine HSub.dead ?_)) | exact LP.keep (hm b25) (by repeat (first | exact trivial | refine ⟨rfl, ?_⟩)) (by repeat (first | exact HSub.nil | refine HSub.keep ?_ | refine HSub.dead ?_)))
          · skip
            refine Run.extract rfl rfl rfl (.at rfl) rfl ?_
            refine Run.nil ?_
            refine RunT.one 9 (by kernel_rfl) ?_
            refine Run.extract rfl rfl rfl (.at rfl) rfl ?_
            refine Run.nil ?_
            refine RunT.one 11 (by kernel_rfl) ?_
            refine Run.assign rfl rfl rfl (.at rfl) ?_
            refine Run.nil ?_
            refine RunT.one 12 (by kernel_rfl) ?_
            refine Run.assign rfl rfl rfl (.at rfl) ?_
            refine Run.nil ?_
            exact RunT.done (by kernel_rfl) (by first | exact WP.keep (hm b25) (by repeat (first | exact trivial | refine ⟨rfl, ?_⟩)) (by repeat (first | exact HSub.nil | refine HSub.keep ?_ | refine HSub.dead ?_)) | exact LP.keep (hm b25) (by repeat (first | exact trivial | refine ⟨rfl, ?_⟩)) (by repeat (first | exact HSub.nil | refine HSub.keep ?_ | refine HSub.dead ?_)))
    intro b25
    refine WP.trim (fr' := [(0, _), (1, _), (6, _), (7, _), (10, _), (11, _)]) (H' := [[(_, [_, _, _])], [(_, [_, _, _])], _, _, _, _]) ?_ ⟨rfl, rfl, rfl, rfl, rfl, rfl, trivial⟩ rfl
    refine WP.seq (WP.region (l := [0, 1, 2]) rfl ?_)
    refine Run.move rfl rfl rfl (.at rfl) ?_
    refine Run.acts [] [3] rfl rfl rfl (.at rfl) (.cons (.at rfl) (.cons (.at rfl) .nil)) (LendL.refl _ _) (c_toMapS 3 l false hn hl rfl) rfl rfl rfl (fun x H h => ?_) (fun x H h => ?_)
    · obtain ⟨b34, rfl, rfl⟩ := h; exact ⟨rfl, by first | rfl | simp [cleanH, cs3_cl]; done | simp [cleanH, ints_cl]; done | simp [cleanH, cs3_cl, ints_cl]; done | simp [cleanH, cs9_cl]; done | simp [cleanH, cs9_cl, cs3_cl, ints_cl]; done⟩
    obtain ⟨b34, rfl, rfl⟩ := h
    refine Run.assign rfl rfl rfl (.at rfl) ?_
    refine Run.nil ?_
    refine WP.seq (WP.draw mx_0 ?_)
    refine Drawn.calmE [] ?_
    refine' DrawE.op 0 36 0 [(0, none)] rfl rfl rfl rfl ?_ ?_
    rotate_left
    · intro rest
      refine Run.move rfl rfl rfl (.at rfl) ?_
      exact single_nil
    refine' DrawE.op 1 37 1 [(12, none)] rfl rfl rfl rfl ?_ ?_
    rotate_left
    · intro rest
      refine Run.move rfl rfl rfl (.at rfl) ?_
      exact single_nil
    refine' DrawE.op 2 38 2 [(6, none)] rfl rfl rfl rfl ?_ ?_
    rotate_left
    · intro rest
      refine Run.loads rfl rfl rfl (.at rfl) (place_adr rfl) ag_30_3 rfl rfl ?_
      exact single_nil
    refine' DrawE.op 3 39 3 [(38, some 0)] rfl rfl rfl rfl ?_ ?_
    rotate_left
    · intro rest
      refine Run.call rfl rfl rfl (.at rfl) (.cons (.at rfl) .nil) (c_toPoint _) ?_
      exact single_nil
    refine' DrawE.op 4 40 4 [(7, none)] rfl rfl rfl rfl ?_ ?_
    rotate_left
    · intro rest
      refine Run.loads rfl rfl rfl (.at rfl) (place_adr rfl) ag_30_3 rfl rfl ?_
      exact single_nil
    refine' DrawE.op 5 41 5 [(40, some 0)] rfl rfl rfl rfl ?_ ?_
    rotate_left
    · intro rest
      refine Run.call rfl rfl rfl (.at rfl) (.cons (.at rfl) .nil) (c_toPoint _) ?_
      exact single_nil
    refine DrawE.tree [6, 7, 8, 9, 10, 11] 6 rfl rfl (by kernel_rfl) (by kernel_rfl) rfl ?_
    intro f
    refine' RunT.cut ?_ ?_
    rotate_left
    · intro hm
      refine RunT.one 6 (by kernel_rfl) ?_
      refine Run.acts [] [] rfl rfl rfl (.at rfl) (.cons (.at rfl) (.cons (.at rfl) (.cons (.at rfl) (.cons (.at rfl) .nil)))) (.cons .refl (.cons (lend rfl) (.cons .refl (.cons .refl .nil)))) (hI.acts) rfl rfl rfl (fun x H h => ?_) (fun x H h => ?_)
      · obtain ⟨rfl, rfl⟩ := h; exact ⟨rfl, by first | rfl | simp [cleanH, cs3_cl]; done | simp [cleanH, ints_cl]; done | simp [cleanH, cs3_cl, ints_cl]; done | simp [cleanH, cs9_cl]; done | simp [cleanH, cs9_cl, cs3_cl, ints_cl]; done⟩
      obtain ⟨rfl, rfl⟩ := h
      refine Run.nil ?_
      refine RunT.one 7 (by kernel_rfl) ?_
      refine Run.move rfl rfl rfl (.at rfl) ?_
      refine Run.nil ?_
      refine RunT.two 8 9 (by kernel_rfl) ?_ ?_
      · skip
        refine Run.extract rfl rfl rfl (.at rfl) rfl ?_
        refine Run.nil ?_
        refine RunT.two 9 10 (by kernel_rfl) ?_ ?_
        · skip
          refine Run.extract rfl rfl rfl (.at rfl) rfl ?_
          refine Run.nil ?_
          refine RunT.one 10 (by kernel_rfl) ?_
          refine Run.assign rfl rfl rfl (.at rfl) ?_
          refine Run.nil ?_
          refine RunT.one 11 (by kernel_rfl) ?_
          refine Run.assign rfl rfl rfl (.at rfl) ?_
          refine Run.nil ?_
          exact RunT.done (by kernel_rfl) (WP.trim (fr' := [(0, _), (1, _), (6, _), (7, _), (10, _), (11, _), (12, _), (13, _), (14, _)]) (H' := [_, _, _, _, _, _]) hm ⟨rfl, rfl, rfl, rfl, rfl, rfl, rfl, rfl, rfl, trivial⟩ rfl)
        · skip
          refine Run.assign rfl rfl rfl (.at rfl) ?_
          refine Run.nil ?_
          refine RunT.one 9 (by kernel_rfl) ?_
          refine Run.extract rfl rfl rfl (.at rfl) rfl ?_
          refine Run.nil ?_
          refine RunT.one 11 (by kernel_rfl) ?_
          refine Run.assign rfl rfl rfl (.at rfl) ?_
          refine Run.nil ?_
          exact RunT.done (by kernel_rfl) (by first | exact WP.keep hm (by repeat (first | exact trivial | refine ⟨rfl, ?_⟩)) (by repeat (first | exact HSub.nil | refine HSub.keep ?_ | refine HSub.dead ?_)) | exact LP.keep hm (by repeat (first | exact trivial | refine ⟨rfl, ?_⟩)) (by repeat (first | exact HSub.nil | refine HSub.keep ?_ | refine HSub.dead ?_)))
      · skip
        refine Run.extract rfl rfl rfl (.at rfl) rfl ?_
        refine Run.nil ?_
        refine RunT.one 8 (by kernel_rfl) ?_
        refine Run.extract rfl rfl rfl (.at rfl) rfl ?_
        refine Run.nil ?_
        refine RunT.one 10 (by kernel_rfl) ?_
        refine Run.assign rfl rfl rfl (.at rfl) ?_
        refine Run.nil ?_
        refine RunT.one 11 (by kernel_rfl) ?_
        refine Run.assign rfl rfl rfl (.at rfl) ?_
        refine Run.nil ?_
        exact RunT.done (by kernel_rfl) (by first | exact WP.keep hm (by repeat (first | exact trivial | refine ⟨rfl, ?_⟩)) (by repeat (first | exact HSub.nil | refine HSub.keep ?_ | refine HSub.dead ?_)) | exact LP.keep hm (by repeat (first | exact trivial | refine ⟨rfl, ?_⟩)) (by repeat (first | exact HSub.nil | refine HSub.keep ?_ | refine HSub.dead ?_)))
    refine WP.seq ?_
    refine WP.seq (WP.region (l := [0, 1, 2, 3, 4, 5, 6, 7]) rfl ?_)
    refine Run.move rfl rfl rfl (.at rfl) ?_
    refine Run.move rfl rfl rfl (.at rfl) ?_
    refine Run.neq_bool rfl rfl rfl (.at rfl) (.at rfl) bo_4 ?_
    refine Run.move rfl rfl rfl (.at rfl) ?_
    refine' Run.guarded rfl rfl rfl rfl rfl rfl (fun ht => ?_) ?_
    rotate_left
    · skip
      refine Run.move rfl rfl rfl (.at rfl) ?_
      exact single_nil
    refine' Run.guarded rfl rfl rfl rfl rfl rfl (fun ht => ?_) ?_
    rotate_left
    · skip
      refine Run.move rfl rfl rfl (.at rfl) ?_
      exact single_nil
    refine' Run.guarded rfl rfl rfl rfl rfl rfl (fun ht => ?_) ?_
    rotate_left
    · skip
      refine Run.int rfl rfl rfl (.opt rfl ht) (.opt rfl ht) rfl ?_
      exact single_nil
    refine Run.or rfl rfl rfl (.at rfl) (.at rfl) rfl ?_
    refine Run.nil ?_
    refine WP.cond_f (.at rfl) (by simp) ?_
    refine WP.skip ?_
    refine WP.seq ?_
    refine WP.trim (fr' := [(0, _), (1, _), (6, _), (7, _), (10, _), (11, _), (12, _)]) (H' := [[(_, [_, _, _])], [(_, [_, _, _])], _, _, _, _]) ?_ ⟨rfl, rfl, rfl, rfl, rfl, rfl, rfl, trivial⟩ rfl
    refine WP.seq (WP.region (l := [0, 1, 2, 3, 4]) rfl ?_)
    refine Run.move rfl rfl rfl (.at rfl) ?_
    refine Run.move rfl rfl rfl (.at rfl) ?_
    refine Run.acts [] [4] rfl rfl rfl (.at rfl) (.cons (.at rfl) (.cons (.at rfl) .nil)) (LendL.refl _ _) (c_toMapS 4 l false hn hl rfl) rfl rfl rfl (fun x H h => ?_) (fun x H h => ?_)
    · obtain ⟨b55, rfl, rfl⟩ := h; exact ⟨rfl, by first | rfl | simp [cleanH, cs3_cl]; done | simp [cleanH, ints_cl]; done | simp [cleanH, cs3_cl, ints_cl]; done | simp [cleanH, cs9_cl]; done | simp [cleanH, cs9_cl, cs3_cl, ints_cl]; done⟩
    obtain ⟨b55, rfl, rfl⟩ := h
    refine Run.acts [3, 4] [3, 4] rfl rfl rfl (.at rfl) (.cons (.at rfl) (.cons (.at rfl) .nil)) (LendL.refl _ _) (c_intactMapS 3 4 b34 b55 n (n + room n) (n + room n) false false (padM l) (padM l) hn hpl hpl (Nat.le_refl _) (Nat.le_refl _)) rfl rfl rfl (fun x H h => ?_) (fun x H h => ?_)
    · obtain ⟨rfl, rfl⟩ := h; exact ⟨rfl, by first | rfl | simp [cleanH, cs3_cl]; done | simp [cleanH, ints_cl]; done | simp [cleanH, cs3_cl, ints_cl]; done | simp [cleanH, cs9_cl]; done | simp [cleanH, cs9_cl, cs3_cl, ints_cl]; done⟩
    obtain ⟨rfl, rfl⟩ := h
    refine Run.not rfl rfl rfl (.at rfl) ?_
    refine Run.nil ?_
    refine WP.cond_f (.at rfl) (by simp) ?_
    refine WP.skip ?_
    refine WP.seq (WP.draw mx_0 ?_)
    refine Drawn.move 0 rfl (by kernel_rfl) rfl (.at rfl) ?_
    refine Drawn.move 1 rfl (by kernel_rfl) rfl (.at rfl) ?_
    refine Drawn.calmE [] ?_
    refine DrawE.tree [2, 3, 4, 5, 6, 7, 8, 9, 10, 11, 12] 11 rfl rfl (by kernel_rfl) (by kernel_rfl) rfl ?_
    intro f
    refine' RunT.cut1 ?_ ?_
    rotate_left
    · intro hm
      refine RunT.three 2 3 5 (by kernel_rfl) ?_ ?_ ?_
      · skip
        refine Run.acts [] [5] rfl rfl rfl (.at rfl) (.cons (.at rfl) (.cons (.at rfl) .nil)) (LendL.refl _ _) (c_toMapS 5 l true hn hl (by simp [h0])) rfl rfl rfl (fun x H h => ?_) (fun x H h => ?_)
        · obtain ⟨b61, rfl, rfl⟩ := h; exact ⟨rfl, by first | rfl | simp [cleanH, cs3_cl]; done | simp [cleanH, ints_cl]; done | simp [cleanH, cs3_cl, ints_cl]; done | simp [cleanH, cs9_cl]; done | simp [cleanH, cs9_cl, cs3_cl, ints_cl]; done⟩
        obtain ⟨b61, rfl, rfl⟩ := h
        refine Run.nil ?_
        refine RunT.two 3 5 (by kernel_rfl) ?_ ?_
        · skip
          refine Run.loads rfl rfl rfl (.at rfl) (place_adr rfl) ag_30_3 rfl rfl ?_
          refine Run.nil ?_
          refine RunT.two 4 5 (by kernel_rfl) ?_ ?_
          · skip
            refine Run.call rfl rfl rfl (.at rfl) (.cons (.at rfl) .nil) (c_toPoint _) ?_
            refine Run.nil ?_
            refine RunT.one 5 (by kernel_rfl) ?_
            refine Run.loads rfl rfl rfl (.at rfl) (place_adr rfl) ag_30_3 rfl rfl ?_
            refine Run.nil ?_
            refine RunT.one 6 (by kernel_rfl) ?_
            refine Run.call rfl rfl rfl (.at rfl) (.cons (.at rfl) .nil) (c_toPoint _) ?_
            refine Run.nil ?_
            refine RunT.one 7 (by kernel_rfl) ?_
            refine Run.acts [] [] rfl rfl rfl (.at rfl) (.cons (.at rfl) (.cons (.at rfl) (.cons (.at rfl) (.cons (.at rfl) .nil)))) (.cons .refl (.cons (lend rfl) (.cons .refl (.cons .refl .nil)))) (hI.acts) rfl rfl rfl (fun x H h => ?_) (fun x H h => ?_)
            · obtain ⟨rfl, rfl⟩ := h; exact ⟨rfl, by first | rfl | simp [cleanH, cs3_cl]; done | simp [cleanH, ints_cl]; done | simp [cleanH, cs3_cl, ints_cl]; done | simp [cleanH, cs9_cl]; done | simp [cleanH, cs9_cl, cs3_cl, ints_cl]; done⟩
            obtain ⟨rfl, rfl⟩ := h
            refine Run.nil ?_
            refine RunT.one 8 (by kernel_rfl) ?_
            refine Run.move rfl rfl rfl (.at rfl) ?_
            refine Run.nil ?_
            refine RunT.two 9 10 (by kernel_rfl) ?_ ?_
            · skip
              refine Run.extract rfl rfl rfl (.at rfl) rfl ?_
              refine Run.nil ?_
              refine RunT.two 10 11 (by kernel_rfl) ?_ ?_
              · skip
                refine Run.extract rfl rfl rfl (.at rfl) rfl ?_
                refine Run.nil ?_
                refine RunT.one 11 (by kernel_rfl) ?_
                refine Run.assign rfl rfl rfl (.at rfl) ?_
                refine Run.nil ?_
                refine RunT.one 12 (by kernel_rfl) ?_
                refine Run.assign rfl rfl rfl (.at rfl) ?_
                refine Run.nil ?_
                exact RunT.done (by kernel_rfl) (WP.trim (fr' := [(10, _), (11, _), (15, _), (16, _)]) (H' := [_, _, _, _, _, _]) (hm b61) ⟨rfl, rfl, rfl, rfl, trivial⟩ rfl)
              · skip
                refine Run.assign rfl rfl rfl (.at rfl) ?_
                refine Run.nil ?_
                refine RunT.one 10 (by kernel_rfl) ?_
                refine Run.extract rfl rfl rfl (.at rfl) rfl ?_
                refine Run.nil ?_
                refine RunT.one 12 (by kernel_rfl) ?_
                refine Run.assign rfl rfl rfl (.at rfl) ?_
                refine Run.nil ?_
                exact RunT.done (by kernel_rfl) (by first | exact WP.keep (hm b61) (by repeat (first | exact trivial | refine ⟨rfl, ?_⟩)) (by repeat (first | exact HSub.nil | refine HSub.keep ?_ | refine HSub.dead ?_)) | exact LP.keep (hm b61) (by repeat (first | exact trivial | refine ⟨rfl, ?_⟩)) (by repeat (first | exact HSub.nil | refine HSub.keep ?_ | refine HSub.dead ?_)))
            · skip
              refine Run.extract rfl rfl rfl (.at rfl) rfl ?_
              refine Run.nil ?_
              refine RunT.one 9 (by kernel_rfl) ?_
              refine Run.extract rfl rfl rfl (.at rfl) rfl ?_
              refine Run.nil ?_
              refine RunT.one 11 (by kernel_rfl) ?_
              refine Run.assign rfl rfl rfl (.at rfl) ?_
              refine Run.nil ?_
              refine RunT.one 12 (by kernel_rfl) ?_
              refine Run.assign rfl rfl rfl (.at rfl) ?_
              refine Run.nil ?_
              exact RunT.done (by kernel_rfl) (by first | exact WP.keep (hm b61) (by repeat (first | exact trivial | refine ⟨rfl, ?_⟩)) (by repeat (first | exact HSub.nil | refine HSub.keep ?_ | refine HSub.dead ?_)) | exact LP.keep (hm b61) (by repeat (first | exact trivial | refine ⟨rfl, ?_⟩)) (by repeat (first | exact HSub.nil | refine HSub.keep ?_ | refine HSub.dead ?_)))
          · skip
            refine Run.loads rfl rfl rfl (.at rfl) (place_adr rfl) ag_30_3 rfl rfl ?_
            refine Run.nil ?_
            refine RunT.one 4 (by kernel_rfl) ?_
            refine Run.call rfl rfl rfl (.at rfl) (.cons (.at rfl) .nil) (c_toPoint _) ?_
            refine Run.nil ?_
            refine RunT.one 6 (by kernel_rfl) ?_
            refine Run.call rfl rfl rfl (.at rfl) (.cons (.at rfl) .nil) (c_toPoint _) ?_
            refine Run.nil ?_
            refine RunT.one 7 (by kernel_rfl) ?_
            refine Run.acts [] [] rfl rfl rfl (.at rfl) (.cons (.at rfl) (.cons (.at rfl) (.cons (.at rfl) (.cons (.at rfl) .nil)))) (.cons .refl (.cons (lend rfl) (.cons .refl (.cons .refl .nil)))) (hI.acts) rfl rfl rfl (fun x H h => ?_) (fun x H h => ?_)
            · obtain ⟨rfl, rfl⟩ := h; exact ⟨rfl, by first | rfl | simp [cleanH, cs3_cl]; done | simp [cleanH, ints_cl]; done | simp [cleanH, cs3_cl, ints_cl]; done | simp [cleanH, cs9_cl]; done | simp [cleanH, cs9_cl, cs3_cl, ints_cl]; done⟩
            obtain ⟨rfl, rfl⟩ := h
            refine Run.nil ?_
            refine RunT.one 8 (by kernel_rfl) ?_
            refine Run.move rfl rfl rfl (.at rfl) ?_
            refine Run.nil ?_
            refine RunT.two 9 10 (by kernel_rfl) ?_ ?_
            · skip
              refine Run.extract rfl rfl rfl (.at rfl) rfl ?_
              refine Run.nil ?_
              refine RunT.two 10 11 (by kernel_rfl) ?_ ?_
              · skip
                refine Run.extract rfl rfl rfl (.at rfl) rfl ?_
                refine Run.nil ?_
                refine RunT.one 11 (by kernel_rfl) ?_
                refine Run.assign rfl rfl rfl (.at rfl) ?_
                refine Run.nil ?_
                refine RunT.one 12 (by kernel_rfl) ?_
                refine Run.assign rfl rfl rfl (.at rfl) ?_
                refine Run.nil ?_
                exact RunT.done (by kernel_rfl) (by first | exact WP.keep (hm b61) (by repeat (first | exact trivial | refine ⟨rfl, ?_⟩)) (by repeat (first | exact HSub.nil | refine HSub.keep ?_ | refine HSub.dead ?_)) | exact LP.keep (hm b61) (by repeat (first | exact trivial | refine ⟨rfl, ?_⟩)) (by repeat (first | exact HSub.nil | refine HSub.keep ?_ | refine HSub.dead ?_)))
              · skip
                refine Run.assign rfl rfl rfl (.at rfl) ?_
                refine Run.nil ?_
                refine RunT.one 10 (by kernel_rfl) ?_
                refine Run.extract rfl rfl rfl (.at rfl) rfl ?_
                refine Run.nil ?_
                refine RunT.one 12 (by kernel_rfl) ?_
                refine Run.assign rfl rfl rfl (.at rfl) ?_
                refine Run.nil ?_
                exact RunT.done (by kernel_rfl) (by first | exact WP.keep (hm b61) (by repeat (first | exact trivial | refine ⟨rfl, ?_⟩)) (by repeat (first | exact HSub.nil | refine HSub.keep ?_ | refine HSub.dead ?_)) | exact LP.keep (hm b61) (by repeat (first | exact trivial | refine ⟨rfl, ?_⟩)) (by repeat (first | exact HSub.nil | refine HSub.keep ?_ | refine HSub.dead ?_)))
            · skip
              refine Run.extract rfl rfl rfl (.at rfl) rfl ?_
              refine Run.nil ?_
              refine RunT.one 9 (by kernel_rfl) ?_
              refine Run.extract rfl rfl rfl (.at rfl) rfl ?_
              refine Run.nil ?_
              refine RunT.one 11 (by kernel_rfl) ?_
              refine Run.assign rfl rfl rfl (.at rfl) ?_
              refine Run.nil ?_
              refine RunT.one 12 (by kernel_rfl) ?_
              refine Run.assign rfl rfl rfl (.at rfl) ?_
              refine Run.nil ?_
              exact RunT.done (by kernel_rfl) (by first | exact WP.keep (hm b61) (by repeat (first | exact trivial | refine ⟨rfl, ?_⟩)) (by repeat (first | exact HSub.nil | refine HSub.keep ?_ | refine HSub.dead ?_)) | exact LP.keep (hm b61) (by repeat (first | exact trivial | refine ⟨rfl, ?_⟩)) (by repeat (first | exact HSub.nil | refine HSub.keep ?_ | refine HSub.dead ?_)))
        · skip
          refine Run.loads rfl rfl rfl (.at rfl) (place_adr rfl) ag_30_3 rfl rfl ?_
          refine Run.nil ?_
          refine RunT.one 3 (by kernel_rfl) ?_
          refine Run.loads rfl rfl rfl (.at rfl) (place_adr rfl) ag_30_3 rfl rfl ?_
          refine Run.nil ?_
          refine RunT.one 4 (by kernel_rfl) ?_
          refine Run.call rfl rfl rfl (.at rfl) (.cons (.at rfl) .nil) (c_toPoint _) ?_
          refine Run.nil ?_
          refine RunT.one 6 (by kernel_rfl) ?_
          refine Run.call rfl rfl rfl (.at rfl) (.cons (.at rfl) .nil) (c_toPoint _) ?_
          refine Run.nil ?_
          refine RunT.one 7 (by kernel_rfl) ?_
          refine Run.acts [] [] rfl rfl rfl (.at rfl) (.cons (.at rfl) (.cons (.at rfl) (.cons (.at rfl) (.cons (.at rfl) .nil)))) (.cons .refl (.cons (lend rfl) (.cons .refl (.cons .refl .nil)))) (hI.acts) rfl rfl rfl (fun x H h => ?_) (fun x H h => ?_)
          · obtain ⟨rfl, rfl⟩ := h; exact ⟨rfl, by first | rfl | simp [cleanH, cs3_cl]; done | simp [cleanH, ints_cl]; done | simp [cleanH, cs3_cl, ints_cl]; done | simp [cleanH, cs9_cl]; done | simp [cleanH, cs9_cl, cs3_cl, ints_cl]; done⟩
          obtain ⟨rfl, rfl⟩ := h
          refine Run.nil ?_
          refine RunT.one 8 (by kernel_rfl) ?_
          refine Run.move rfl rfl rfl (.at rfl) ?_
          refine Run.nil ?_
          refine RunT.two 9 10 (by kernel_rfl) ?_ ?_
          · skip
            refine Run.extract rfl rfl rfl (.at rfl) rfl ?_
            refine Run.nil ?_
            refine RunT.two 10 11 (by kernel_rfl) ?_ ?_
            · skip
              refine Run.extract rfl rfl rfl (.at rfl) rfl ?_
              refine Run.nil ?_
              refine RunT.one 11 (by kernel_rfl) ?_
              refine Run.assign rfl rfl rfl (.at rfl) ?_
              refine Run.nil ?_
              refine RunT.one 12 (by kernel_rfl) ?_
              refine Run.assign rfl rfl rfl (.at rfl) ?_
              refine Run.nil ?_
              exact RunT.done (by kernel_rfl) (by first | exact WP.keep (hm b61) (by repeat (first | exact trivial | refine ⟨rfl, ?_⟩)) (by repeat (first | exact HSub.nil | refine HSub.keep ?_ | refine HSub.dead ?_)) | exact LP.keep (hm b61) (by repeat (first | exact trivial | refine ⟨rfl, ?_⟩)) (by repeat (first | exact HSub.nil | refine HSub.keep ?_ | refine HSub.dead ?_)))
            · skip
              refine Run.assign rfl rfl rfl (.at rfl) ?_
              refine Run.nil ?_
              refine RunT.one 10 (by kernel_rfl) ?_
              refine Run.extract rfl rfl rfl (.at rfl) rfl ?_
              refine Run.nil ?_
              refine RunT.one 12 (by kernel_rfl) ?_
              refine Run.assign rfl rfl rfl (.at rfl) ?_
              refine Run.nil ?_
              exact RunT.done (by kernel_rfl) (by first | exact WP.keep (hm b61) (by repeat (first | exact trivial | refine ⟨rfl, ?_⟩)) (by repeat (first | exact HSub.nil | refine HSub.keep ?_ | refine HSub.dead ?_)) | exact LP.keep (hm b61) (by repeat (first | exact trivial | refine ⟨rfl, ?_⟩)) (by repeat (first | exact HSub.nil | refine HSub.keep ?_ | refine HSub.dead ?_)))
          · skip
            refine Run.extract rfl rfl rfl (.at rfl) rfl ?_
            refine Run.nil ?_
            refine RunT.one 9 (by kernel_rfl) ?_
            refine Run.extract rfl rfl rfl (.at rfl) rfl ?_
            refine Run.nil ?_
            refine RunT.one 11 (by kernel_rfl) ?_
            refine Run.assign rfl rfl rfl (.at rfl) ?_
            refine Run.nil ?_
            refine RunT.one 12 (by kernel_rfl) ?_
            refine Run.assign rfl rfl rfl (.at rfl) ?_
            refine Run.nil ?_
            exact RunT.done (by kernel_rfl) (by first | exact WP.keep (hm b61) (by repeat (first | exact trivial | refine ⟨rfl, ?_⟩)) (by repeat (first | exact HSub.nil | refine HSub.keep ?_ | refine HSub.dead ?_)) | exact LP.keep (hm b61) (by repeat (first | exact trivial | refine ⟨rfl, ?_⟩)) (by repeat (first | exact HSub.nil | refine HSub.keep ?_ | refine HSub.dead ?_)))
      · skip
        refine Run.loads rfl rfl rfl (.at rfl) (place_adr rfl) ag_30_3 rfl rfl ?_
        refine Run.nil ?_
        refine RunT.two 2 5 (by kernel_rfl) ?_ ?_
        · skip
          refine Run.acts [] [5] rfl rfl rfl (.at rfl) (.cons (.at rfl) (.cons (.at rfl) .nil)) (LendL.refl _ _) (c_toMapS 5 l true hn hl (by simp [h0])) rfl rfl rfl (fun x H h => ?_) (fun x H h => ?_)
          · obtain ⟨b61, rfl, rfl⟩ := h; exact ⟨rfl, by first | rfl | simp [cleanH, cs3_cl]; done | simp [cleanH, ints_cl]; done | simp [cleanH, cs3_cl, ints_cl]; done | simp [cleanH, cs9_cl]; done | simp [cleanH, cs9_cl, cs3_cl, ints_cl]; done⟩
          obtain ⟨b61, rfl, rfl⟩ := h
          refine Run.nil ?_
          refine RunT.two 4 5 (by kernel_rfl) ?_ ?_
          · skip
            refine Run.call rfl rfl rfl (.at rfl) (.cons (.at rfl) .nil) (c_toPoint _) ?_
            refine Run.nil ?_
            refine RunT.one 5 (by kernel_rfl) ?_
            refine Run.loads rfl rfl rfl (.at rfl) (place_adr rfl) ag_30_3 rfl rfl ?_
            refine Run.nil ?_
            refine RunT.one 6 (by kernel_rfl) ?_
            refine Run.call rfl rfl rfl (.at rfl) (.cons (.at rfl) .nil) (c_toPoint _) ?_
            refine Run.nil ?_
            refine RunT.one 7 (by kernel_rfl) ?_
            refine Run.acts [] [] rfl rfl rfl (.at rfl) (.cons (.at rfl) (.cons (.at rfl) (.cons (.at rfl) (.cons (.at rfl) .nil)))) (.cons .refl (.cons (lend rfl) (.cons .refl (.cons .refl .nil)))) (hI.acts) rfl rfl rfl (fun x H h => ?_) (fun x H h => ?_)
            · obtain ⟨rfl, rfl⟩ := h; exact ⟨rfl, by first | rfl | simp [cleanH, cs3_cl]; done | simp [cleanH, ints_cl]; done | simp [cleanH, cs3_cl, ints_cl]; done | simp [cleanH, cs9_cl]; done | simp [cleanH, cs9_cl, cs3_cl, ints_cl]; done⟩
            obtain ⟨rfl, rfl⟩ := h
            refine Run.nil ?_
            refine RunT.one 8 (by kernel_rfl) ?_
            refine Run.move rfl rfl rfl (.at rfl) ?_
            refine Run.nil ?_
            refine RunT.two 9 10 (by kernel_rfl) ?_ ?_
            · skip
              refine Run.extract rfl rfl rfl (.at rfl) rfl ?_
              refine Run.nil ?_
              refine RunT.two 10 11 (by kernel_rfl) ?_ ?_
              · skip
                refine Run.extract rfl rfl rfl (.at rfl) rfl ?_
                refine Run.nil ?_
                refine RunT.one 11 (by kernel_rfl) ?_
                refine Run.assign rfl rfl rfl (.at rfl) ?_
                refine Run.nil ?_
                refine RunT.one 12 (by kernel_rfl) ?_
                refine Run.assign rfl rfl rfl (.at rfl) ?_
                refine Run.nil ?_
                exact RunT.done (by kernel_rfl) (by first | exact WP.keep (hm b61) (by repeat (first | exact trivial | refine ⟨rfl, ?_⟩)) (by repeat (first | exact HSub.nil | refine HSub.keep ?_ | refine HSub.dead ?_)) | exact LP.keep (hm b61) (by repeat (first | exact trivial | refine ⟨rfl, ?_⟩)) (by repeat (first | exact HSub.nil | refine HSub.keep ?_ | refine HSub.dead ?_)))
              · skip
                refine Run.assign rfl rfl rfl (.at rfl) ?_
                refine Run.nil ?_
                refine RunT.one 10 (by kernel_rfl) ?_
                refine Run.extract rfl rfl rfl (.at rfl) rfl ?_
                refine Run.nil ?_
                refine RunT.one 12 (by kernel_rfl) ?_
                refine Run.assign rfl rfl rfl (.at rfl) ?_
                refine Run.nil ?_
                exact RunT.done (by kernel_rfl) (by first | exact WP.keep (hm b61) (by repeat (first | exact trivial | refine ⟨rfl, ?_⟩)) (by repeat (first | exact HSub.nil | refine HSub.keep ?_ | refine HSub.dead ?_)) | exact LP.keep (hm b61) (by repeat (first | exact trivial | refine ⟨rfl, ?_⟩)) (by repeat (first | exact HSub.nil | refine HSub.keep ?_ | refine HSub.dead ?_)))
            · skip
              refine Run.extract rfl rfl rfl (.at rfl) rfl ?_
              refine Run.nil ?_
              refine RunT.one 9 (by kernel_rfl) ?_
              refine Run.extract rfl rfl rfl (.at rfl) rfl ?_
              refine Run.nil ?_
              refine RunT.one 11 (by kernel_rfl) ?_
              refine Run.assign rfl rfl rfl (.at rfl) ?_
              refine Run.nil ?_
              refine RunT.one 12 (by kernel_rfl) ?_
              refine Run.assign rfl rfl rfl (.at rfl) ?_
              refine Run.nil ?_
              exact RunT.done (by kernel_rfl) (by first | exact WP.keep (hm b61) (by repeat (first | exact trivial | refine ⟨rfl, ?_⟩)) (by repeat (first | exact HSub.nil | refine HSub.keep ?_ | refine HSub.dead ?_)) | exact LP.keep (hm b61) (by repeat (first | exact trivial | refine ⟨rfl, ?_⟩)) (by repeat (first | exact HSub.nil | refine HSub.keep ?_ | refine HSub.dead ?_)))
          · skip
            refine Run.loads rfl rfl rfl (.at rfl) (place_adr rfl) ag_30_3 rfl rfl ?_
            refine Run.nil ?_
            refine RunT.one 4 (by kernel_rfl) ?_
            refine Run.call rfl rfl rfl (.at rfl) (.cons (.at rfl) .nil) (c_toPoint _) ?_
            refine Run.nil ?_
            refine RunT.one 6 (by kernel_rfl) ?_
            refine Run.call rfl rfl rfl (.at rfl) (.cons (.at rfl) .nil) (c_toPoint _) ?_
            refine Run.nil ?_
            refine RunT.one 7 (by kernel_rfl) ?_
            refine Run.acts [] [] rfl rfl rfl (.at rfl) (.cons (.at rfl) (.cons (.at rfl) (.cons (.at rfl) (.cons (.at rfl) .nil)))) (.cons .refl (.cons (lend rfl) (.cons .refl (.cons .refl .nil)))) (hI.acts) rfl rfl rfl (fun x H h => ?_) (fun x H h => ?_)
            · obtain ⟨rfl, rfl⟩ := h; exact ⟨rfl, by first | rfl | simp [cleanH, cs3_cl]; done | simp [cleanH, ints_cl]; done | simp [cleanH, cs3_cl, ints_cl]; done | simp [cleanH, cs9_cl]; done | simp [cleanH, cs9_cl, cs3_cl, ints_cl]; done⟩
            obtain ⟨rfl, rfl⟩ := h
            refine Run.nil ?_
            refine RunT.one 8 (by kernel_rfl) ?_
            refine Run.move rfl rfl rfl (.at rfl) ?_
            refine Run.nil ?_
            refine RunT.two 9 10 (by kernel_rfl) ?_ ?_
            · skip
              refine Run.extract rfl rfl rfl (.at rfl) rfl ?_
              refine Run.nil ?_
              refine RunT.two 10 11 (by kernel_rfl) ?_ ?_
              · skip
                refine Run.extract rfl rfl rfl (.at rfl) rfl ?_
                refine Run.nil ?_
                refine RunT.one 11 (by kernel_rfl) ?_
                refine Run.assign rfl rfl rfl (.at rfl) ?_
                refine Run.nil ?_
                refine RunT.one 12 (by kernel_rfl) ?_
                refine Run.assign rfl rfl rfl (.at rfl) ?_
                refine Run.nil ?_
                exact RunT.done (by kernel_rfl) (by first | exact WP.keep (hm b61) (by repeat (first | exact trivial | refine ⟨rfl, ?_⟩)) (by repeat (first | exact HSub.nil | refine HSub.keep ?_ | refine HSub.dead ?_)) | exact LP.keep (hm b61) (by repeat (first | exact trivial | refine ⟨rfl, ?_⟩)) (by repeat (first | exact HSub.nil | refine HSub.keep ?_ | refine HSub.dead ?_)))
              · skip
                refine Run.assign rfl rfl rfl (.at rfl) ?_
                refine Run.nil ?_
                refine RunT.one 10 (by kernel_rfl) ?_
                refine Run.extract rfl rfl rfl (.at rfl) rfl ?_
                refine Run.nil ?_
                refine RunT.one 12 (by kernel_rfl) ?_
                refine Run.assign rfl rfl rfl (.at rfl) ?_
                refine Run.nil ?_
                exact RunT.done (by kernel_rfl) (by first | exact WP.keep (hm b61) (by repeat (first | exact trivial | refine ⟨rfl, ?_⟩)) (by repeat (first | exact HSub.nil | refine HSub.keep ?_ | refine HSub.dead ?_)) | exact LP.keep (hm b61) (by repeat (first | exact trivial | refine ⟨rfl, ?_⟩)) (by repeat (first | exact HSub.nil | refine HSub.keep ?_ | refine HSub.dead ?_)))
            · skip
              refine Run.extract rfl rfl rfl (.at rfl) rfl ?_
              refine Run.nil ?_
              refine RunT.one 9 (by kernel_rfl) ?_
              refine Run.extract rfl rfl rfl (.at rfl) rfl ?_
              refine Run.nil ?_
              refine RunT.one 11 (by kernel_rfl) ?_
              refine Run.assign rfl rfl rfl (.at rfl) ?_
              refine Run.nil ?_
              refine RunT.one 12 (by kernel_rfl) ?_
              refine Run.assign rfl rfl rfl (.at rfl) ?_
              refine Run.nil ?_
              exact RunT.done (by kernel_rfl) (by first | exact WP.keep (hm b61) (by repeat (first | exact trivial | refine ⟨rfl, ?_⟩)) (by repeat (first | exact HSub.nil | refine HSub.keep ?_ | refine HSub.dead ?_)) | exact LP.keep (hm b61) (by repeat (first | exact trivial | refine ⟨rfl, ?_⟩)) (by repeat (first | exact HSub.nil | refine HSub.keep ?_ | refine HSub.dead ?_)))
        · skip
          refine Run.loads rfl rfl rfl (.at rfl) (place_adr rfl) ag_30_3 rfl rfl ?_
          refine Run.nil ?_
          refine RunT.one 2 (by kernel_rfl) ?_
          refine Run.acts [] [5] rfl rfl rfl (.at rfl) (.cons (.at rfl) (.cons (.at rfl) .nil)) (LendL.refl _ _) (c_toMapS 5 l true hn hl (by simp [h0])) rfl rfl rfl (fun x H h => ?_) (fun x H h => ?_)
          · obtain ⟨b61, rfl, rfl⟩ := h; exact ⟨rfl, by first | rfl | simp [cleanH, cs3_cl]; done | simp [cleanH, ints_cl]; done | simp [cleanH, cs3_cl, ints_cl]; done | simp [cleanH, cs9_cl]; done | simp [cleanH, cs9_cl, cs3_cl, ints_cl]; done⟩
          obtain ⟨b61, rfl, rfl⟩ := h
          refine Run.nil ?_
          refine RunT.one 4 (by kernel_rfl) ?_
          refine Run.call rfl rfl rfl (.at rfl) (.cons (.at rfl) .nil) (c_toPoint _) ?_
          refine Run.nil ?_
          refine RunT.one 6 (by kernel_rfl) ?_
          refine Run.call rfl rfl rfl (.at rfl) (.cons (.at rfl) .nil) (c_toPoint _) ?_
          refine Run.nil ?_
          refine RunT.one 7 (by kernel_rfl) ?_
          refine Run.acts [] [] rfl rfl rfl (.at rfl) (.cons (.at rfl) (.cons (.at rfl) (.cons (.at rfl) (.cons (.at rfl) .nil)))) (.cons .refl (.cons (lend rfl) (.cons .refl (.cons .refl .nil)))) (hI.acts) rfl rfl rfl (fun x H h => ?_) (fun x H h => ?_)
          · obtain ⟨rfl, rfl⟩ := h; exact ⟨rfl, by first | rfl | simp [cleanH, cs3_cl]; done | simp [cleanH, ints_cl]; done | simp [cleanH, cs3_cl, ints_cl]; done | simp [cleanH, cs9_cl]; done | simp [cleanH, cs9_cl, cs3_cl, ints_cl]; done⟩
          obtain ⟨rfl, rfl⟩ := h
          refine Run.nil ?_
          refine RunT.one 8 (by kernel_rfl) ?_
          refine Run.move rfl rfl rfl (.at rfl) ?_
          refine Run.nil ?_
          refine RunT.two 9 10 (by kernel_rfl) ?_ ?_
          · skip
            refine Run.extract rfl rfl rfl (.at rfl) rfl ?_
            refine Run.nil ?_
            refine RunT.two 10 11 (by kernel_rfl) ?_ ?_
            · skip
              refine Run.extract rfl rfl rfl (.at rfl) rfl ?_
              refine Run.nil ?_
              refine RunT.one 11 (by kernel_rfl) ?_
              refine Run.assign rfl rfl rfl (.at rfl) ?_
              refine Run.nil ?_
              refine RunT.one 12 (by kernel_rfl) ?_
              refine Run.assign rfl rfl rfl (.at rfl) ?_
              refine Run.nil ?_
              exact RunT.done (by kernel_rfl) (by first | exact WP.keep (hm b61) (by repeat (first | exact trivial | refine ⟨rfl, ?_⟩)) (by repeat (first | exact HSub.nil | refine HSub.keep ?_ | refine HSub.dead ?_)) | exact LP.keep (hm b61) (by repeat (first | exact trivial | refine ⟨rfl, ?_⟩)) (by repeat (first | exact HSub.nil | refine HSub.keep ?_ | refine HSub.dead ?_)))
            · skip
              refine Run.assign rfl rfl rfl (.at rfl) ?_
              refine Run.nil ?_
              refine RunT.one 10 (by kernel_rfl) ?_
              refine Run.extract rfl rfl rfl (.at rfl) rfl ?_
              refine Run.nil ?_
              refine RunT.one 12 (by kernel_rfl) ?_
              refine Run.assign rfl rfl rfl (.at rfl) ?_
              refine Run.nil ?_
              exact RunT.done (by kernel_rfl) (by first | exact WP.keep (hm b61) (by repeat (first | exact trivial | refine ⟨rfl, ?_⟩)) (by repeat (first | exact HSub.nil | refine HSub.keep ?_ | refine HSub.dead ?_)) | exact LP.keep (hm b61) (by repeat (first | exact trivial | refine ⟨rfl, ?_⟩)) (by repeat (first | exact HSub.nil | refine HSub.keep ?_ | refine HSub.dead ?_)))
          · skip
            refine Run.extract rfl rfl rfl (.at rfl) rfl ?_
            refine Run.nil ?_
            refine RunT.one 9 (by kernel_rfl) ?_
            refine Run.extract rfl rfl rfl (.at rfl) rfl ?_
            refine Run.nil ?_
            refine RunT.one 11 (by kernel_rfl) ?_
            refine Run.assign rfl rfl rfl (.at rfl) ?_
            refine Run.nil ?_
            refine RunT.one 12 (by kernel_rfl) ?_
            refine Run.assign rfl rfl rfl (.at rfl) ?_
            refine Run.nil ?_
            exact RunT.done (by kernel_rfl) (by first | exact WP.keep (hm b61) (by repeat (first | exact trivial | refine ⟨rfl, ?_⟩)) (by repeat (first | exact HSub.nil | refine HSub.keep ?_ | refine HSub.dead ?_)) | exact LP.keep (hm b61) (by repeat (first | exact trivial | refine ⟨rfl, ?_⟩)) (by repeat (first | exact HSub.nil | refine HSub.keep ?_ | refine HSub.dead ?_)))
      · skip
        refine Run.loads rfl rfl rfl (.at rfl) (place_adr rfl) ag_30_3 rfl rfl ?_
        refine Run.nil ?_
        refine RunT.two 2 3 (by kernel_rfl) ?_ ?_
        · skip
          refine Run.acts [] [5] rfl rfl rfl (.at rfl) (.cons (.at rfl) (.cons (.at rfl) .nil)) (LendL.refl _ _) (c_toMapS 5 l true hn hl (by simp [h0])) rfl rfl rfl (fun x H h => ?_) (fun x H h => ?_)
          · obtain ⟨b61, rfl, rfl⟩ := h; exact ⟨rfl, by first | rfl | simp [cleanH, cs3_cl]; done | simp [cleanH, ints_cl]; done | simp [cleanH, cs3_cl, ints_cl]; done | simp [cleanH, cs9_cl]; done | simp [cleanH, cs9_cl, cs3_cl, ints_cl]; done⟩
          obtain ⟨b61, rfl, rfl⟩ := h
          refine Run.nil ?_
          refine RunT.one 3 (by kernel_rfl) ?_
          refine Run.loads rfl rfl rfl (.at rfl) (place_adr rfl) ag_30_3 rfl rfl ?_
          refine Run.nil ?_
          refine RunT.one 4 (by kernel_rfl) ?_
          refine Run.call rfl rfl rfl (.at rfl) (.cons (.at rfl) .nil) (c_toPoint _) ?_
          refine Run.nil ?_
          refine RunT.one 6 (by kernel_rfl) ?_
          refine Run.call rfl rfl rfl (.at rfl) (.cons (.at rfl) .nil) (c_toPoint _) ?_
          refine Run.nil ?_
          refine RunT.one 7 (by kernel_rfl) ?_
          refine Run.acts [] [] rfl rfl rfl (.at rfl) (.cons (.at rfl) (.cons (.at rfl) (.cons (.at rfl) (.cons (.at rfl) .nil)))) (.cons .refl (.cons (lend rfl) (.cons .refl (.cons .refl .nil)))) (hI.acts) rfl rfl rfl (fun x H h => ?_) (fun x H h => ?_)
          · obtain ⟨rfl, rfl⟩ := h; exact ⟨rfl, by first | rfl | simp [cleanH, cs3_cl]; done | simp [cleanH, ints_cl]; done | simp [cleanH, cs3_cl, ints_cl]; done | simp [cleanH, cs9_cl]; done | simp [cleanH, cs9_cl, cs3_cl, ints_cl]; done⟩
          obtain ⟨rfl, rfl⟩ := h
          refine Run.nil ?_
          refine RunT.one 8 (by kernel_rfl) ?_
          refine Run.move rfl rfl rfl (.at rfl) ?_
          refine Run.nil ?_
          refine RunT.two 9 10 (by kernel_rfl) ?_ ?_
          · skip
            refine Run.extract rfl rfl rfl (.at rfl) rfl ?_
            refine Run.nil ?_
            refine RunT.two 10 11 (by kernel_rfl) ?_ ?_
            · skip
              refine Run.extract rfl rfl rfl (.at rfl) rfl ?_
              refine Run.nil ?_
              refine RunT.one 11 (by kernel_rfl) ?_
              refine Run.assign rfl rfl rfl (.at rfl) ?_
              refine Run.nil ?_
              refine RunT.one 12 (by kernel_rfl) ?_
              refine Run.assign rfl rfl rfl (.at rfl) ?_
              refine Run.nil ?_
              exact RunT.done (by kernel_rfl) (by first | exact WP.keep (hm b61) (by repeat (first | exact trivial | refine ⟨rfl, ?_⟩)) (by repeat (first | exact HSub.nil | refine HSub.keep ?_ | refine HSub.dead ?_)) | exact LP.keep (hm b61) (by repeat (first | exact trivial | refine ⟨rfl, ?_⟩)) (by repeat (first | exact HSub.nil | refine HSub.keep ?_ | refine HSub.dead ?_)))
            · skip
              refine Run.assign rfl rfl rfl (.at rfl) ?_
              refine Run.nil ?_
              refine RunT.one 10 (by kernel_rfl) ?_
              refine Run.extract rfl rfl rfl (.at rfl) rfl ?_
              refine Run.nil ?_
              refine RunT.one 12 (by kernel_rfl) ?_
              refine Run.assign rfl rfl rfl (.at rfl) ?_
              refine Run.nil ?_
              exact RunT.done (by kernel_rfl) (by first | exact WP.keep (hm b61) (by repeat (first | exact trivial | refine ⟨rfl, ?_⟩)) (by repeat (first | exact HSub.nil | refine HSub.keep ?_ | refine HSub.dead ?_)) | exact LP.keep (hm b61) (by repeat (first | exact trivial | refine ⟨rfl, ?_⟩)) (by repeat (first | exact HSub.nil | refine HSub.keep ?_ | refine HSub.dead ?_)))
          · skip
            refine Run.extract rfl rfl rfl (.at rfl) rfl ?_
            refine Run.nil ?_
            refine RunT.one 9 (by kernel_rfl) ?_
            refine Run.extract rfl rfl rfl (.at rfl) rfl ?_
            refine Run.nil ?_
            refine RunT.one 11 (by kernel_rfl) ?_
            refine Run.assign rfl rfl rfl (.at rfl) ?_
            refine Run.nil ?_
            refine RunT.one 12 (by kernel_rfl) ?_
            refine Run.assign rfl rfl rfl (.at rfl) ?_
            refine Run.nil ?_
            exact RunT.done (by kernel_rfl) (by first | exact WP.keep (hm b61) (by repeat (first | exact trivial | refine ⟨rfl, ?_⟩)) (by repeat (first | exact HSub.nil | refine HSub.keep ?_ | refine HSub.dead ?_)) | exact LP.keep (hm b61) (by repeat (first | exact trivial | refine ⟨rfl, ?_⟩)) (by repeat (first | exact HSub.nil | refine HSub.keep ?_ | refine HSub.dead ?_)))
        · skip
          refine Run.loads rfl rfl rfl (.at rfl) (place_adr rfl) ag_30_3 rfl rfl ?_
          refine Run.nil ?_
          refine RunT.one 2 (by kernel_rfl) ?_
          refine Run.acts [] [5] rfl rfl rfl (.at rfl) (.cons (.at rfl) (.cons (.at rfl) .nil)) (LendL.refl _ _) (c_toMapS 5 l true hn hl (by simp [h0])) rfl rfl rfl (fun x H h => ?_) (fun x H h => ?_)
          · obtain ⟨b61, rfl, rfl⟩ := h; exact ⟨rfl, by first | rfl | simp [cleanH, cs3_cl]; done | simp [cleanH, ints_cl]; done | simp [cleanH, cs3_cl, ints_cl]; done | simp [cleanH, cs9_cl]; done | simp [cleanH, cs9_cl, cs3_cl, ints_cl]; done⟩
          obtain ⟨b61, rfl, rfl⟩ := h
          refine Run.nil ?_
          refine RunT.one 4 (by kernel_rfl) ?_
          refine Run.call rfl rfl rfl (.at rfl) (.cons (.at rfl) .nil) (c_toPoint _) ?_
          refine Run.nil ?_
          refine RunT.one 6 (by kernel_rfl) ?_
          refine Run.call rfl rfl rfl (.at rfl) (.cons (.at rfl) .nil) (c_toPoint _) ?_
          refine Run.nil ?_
          refine RunT.one 7 (by kernel_rfl) ?_
          refine Run.acts [] [] rfl rfl rfl (.at rfl) (.cons (.at rfl) (.cons (.at rfl) (.cons (.at rfl) (.cons (.at rfl) .nil)))) (.cons .refl (.cons (lend rfl) (.cons .refl (.cons .refl .nil)))) (hI.acts) rfl rfl rfl (fun x H h => ?_) (fun x H h => ?_)
          · obtain ⟨rfl, rfl⟩ := h; exact ⟨rfl, by first | rfl | simp [cleanH, cs3_cl]; done | simp [cleanH, ints_cl]; done | simp [cleanH, cs3_cl, ints_cl]; done | simp [cleanH, cs9_cl]; done | simp [cleanH, cs9_cl, cs3_cl, ints_cl]; done⟩
          obtain ⟨rfl, rfl⟩ := h
          refine Run.nil ?_
          refine RunT.one 8 (by kernel_rfl) ?_
          refine Run.move rfl rfl rfl (.at rfl) ?_
          refine Run.nil ?_
          refine RunT.two 9 10 (by kernel_rfl) ?_ ?_
          · skip
            refine Run.extract rfl rfl rfl (.at rfl) rfl ?_
            refine Run.nil ?_
            refine RunT.two 10 11 (by kernel_rfl) ?_ ?_
            · skip
              refine Run.extract rfl rfl rfl (.at rfl) rfl ?_
              refine Run.nil ?_
              refine RunT.one 11 (by kernel_rfl) ?_
              refine Run.assign rfl rfl rfl (.at rfl) ?_
              refine Run.nil ?_
              refine RunT.one 12 (by kernel_rfl) ?_
              refine Run.assign rfl rfl rfl (.at rfl) ?_
              refine Run.nil ?_
              exact RunT.done (by kernel_rfl) (by first | exact WP.keep (hm b61) (by repeat (first | exact trivial | refine ⟨rfl, ?_⟩)) (by repeat (first | exact HSub.nil | refine HSub.keep ?_ | refine HSub.dead ?_)) | exact LP.keep (hm b61) (by repeat (first | exact trivial | refine ⟨rfl, ?_⟩)) (by repeat (first | exact HSub.nil | refine HSub.keep ?_ | refine HSub.dead ?_)))
            · skip
              refine Run.assign rfl rfl rfl (.at rfl) ?_
              refine Run.nil ?_
              refine RunT.one 10 (by kernel_rfl) ?_
              refine Run.extract rfl rfl rfl (.at rfl) rfl ?_
              refine Run.nil ?_
              refine RunT.one 12 (by kernel_rfl) ?_
              refine Run.assign rfl rfl rfl (.at rfl) ?_
              refine Run.nil ?_
              exact RunT.done (by kernel_rfl) (by first | exact WP.keep (hm b61) (by repeat (first | exact trivial | refine ⟨rfl, ?_⟩)) (by repeat (first | exact HSub.nil | refine HSub.keep ?_ | refine HSub.dead ?_)) | exact LP.keep (hm b61) (by repeat (first | exact trivial | refine ⟨rfl, ?_⟩)) (by repeat (first | exact HSub.nil | refine HSub.keep ?_ | refine HSub.dead ?_)))
          · skip
            refine Run.extract rfl rfl rfl (.at rfl) rfl ?_
            refine Run.nil ?_
            refine RunT.one 9 (by kernel_rfl) ?_
            refine Run.extract rfl rfl rfl (.at rfl) rfl ?_
            refine Run.nil ?_
            refine RunT.one 11 (by kernel_rfl) ?_
            refine Run.assign rfl rfl rfl (.at rfl) ?_
            refine Run.nil ?_
            refine RunT.one 12 (by kernel_rfl) ?_
            refine Run.assign rfl rfl rfl (.at rfl) ?_
            refine Run.nil ?_
            exact RunT.done (by kernel_rfl) (by first | exact WP.keep (hm b61) (by repeat (first | exact trivial | refine ⟨rfl, ?_⟩)) (by repeat (first | exact HSub.nil | refine HSub.keep ?_ | refine HSub.dead ?_)) | exact LP.keep (hm b61) (by repeat (first | exact trivial | refine ⟨rfl, ?_⟩)) (by repeat (first | exact HSub.nil | refine HSub.keep ?_ | refine HSub.dead ?_)))
    intro b61
    refine WP.seq ?_
    refine WP.seq (WP.region (l := [0, 1, 2, 3, 4, 5, 6, 7]) rfl ?_)
    refine Run.move rfl rfl rfl (.at rfl) ?_
    refine Run.move rfl rfl rfl (.at rfl) ?_
    refine Run.neq_bool rfl rfl rfl (.at rfl) (.at rfl) bo_4 ?_
    refine Run.move rfl rfl rfl (.at rfl) ?_
    refine' Run.guarded rfl rfl rfl rfl rfl rfl (fun ht => ?_) ?_
    rotate_left
    · skip
      refine Run.move rfl rfl rfl (.at rfl) ?_
      exact single_nil
    refine' Run.guarded rfl rfl rfl rfl rfl rfl (fun ht => ?_) ?_
    rotate_left
    · skip
      refine Run.move rfl rfl rfl (.at rfl) ?_
      exact single_nil
    refine' Run.guarded rfl rfl rfl rfl rfl rfl (fun ht => ?_) ?_
    rotate_left
    · skip
      refine Run.int rfl rfl rfl (.opt rfl ht) (.opt rfl ht) rfl ?_
      exact single_nil
    refine Run.or rfl rfl rfl (.at rfl) (.at rfl) rfl ?_
    refine Run.nil ?_
    refine WP.cond_f (.at rfl) (by simp) ?_
    refine WP.skip ?_
    refine WP.trim (fr' := []) (H' := [[(_, [_, _, _])], [(_, [_, _, _])], _, _, _, _]) ?_ trivial rfl
    refine WP.seq (WP.region (l := [0]) rfl ?_)
    refine Run.assign rfl rfl rfl (.at rfl) ?_
    refine Run.nil ?_
    refine WP.ret ?_
    exact Ends.pure (.tmp rfl .nil) rfl
theorem c_areLaw (p : Int) (l : List M3) (a b : V3) {n : Nat} (hl : l.length = n) (hn : n ≤ 9223372036854775807) : Pure Try.prog 4 [.int .i64 p, .imm (cs9 l) n, a.av, b.av] (.bool true) := by
  by_cases h : 1000000 < n
  · exact c_areLaw0 p l a b hl hn h
  · exact c_areLaw1 p l a b hl (by omega)
end Go.Ab
